/-
  Part 5 of what stands behind the last text.
-/
import Derived.Lib.Overlaps
import Derived.Lib.AppendZerosOnto
import Derived.Test.YtfcjiloojkjaeaaGreatDoorReturnPq4
set_option linter.all false
set_option maxHeartbeats 16000000
set_option maxRecDepth 100000
open Array renaming getD_eq_getD_getElem?→tJ,getElem?_eq_none→Hj,getElem?_eq_some_iff→dQ,getElem?_setIfInBounds_ne→jP,getElem?_toList→Ai,length_toList→Dj,replicate→nL,size_append→U0,toList_append→Pe
open Bool renaming and_eq_true→fT,false_eq_true→jE,or_eq_true→Er
open Go renaming Act→tP,Addr→bL,ChanDir→Mm,Code→wJ,Exit→nZ,Frame→dJ,FuncId→aO,Goroutine→bC,Item→eF,Oper→aZ,Operand→cN,Program→bR,Tape→jZ,TypeId→aM,TypeInfo→wY,Value→aF,World→aE,execOp→aS,heap_alloc_new→lP,run_underlying→wQ,setRow_heap→Ki,setRow_other→zff,size_zeroCells→Zk,undef→aA,yielded→dR
open Go.Act renaming eval→wA,mk→bJ,put→cC
open Go.Addr renaming add_lit→Ly
open Go.Builtin renaming copy_→C5,firstCells→Sc,zeroCells→p8
open Go.Code renaming region→E6
open Go.Conc renaming listed→xA,seen_none→Ce,stepG_value→zml
open Go.Deferred renaming ofValue→Co
open Go.Extern renaming find→zoG,findNext→zq4
open Go.Extern.SlicesOverlaps renaming overlaps→zkg
open Go.Instr renaming lookup→zP,slice→Yr,sliceAt→Y7,sliceBound→Ka,sliceBounds→Xh
open Go.Proofs.Tryz renaming checked→vL,f101→zvT,func101→zs3,func102→zuT,func103→zyh,func104→zsg,func111→zsQ,func120→zwR,func58→znE,func81→zoZ,func82→zoA,isAgg84→zqn,prog→aK,underlying38→Xq,underlying84→zrl
open Go.Region renaming binds→Fo,ready→Gx,schedule→Tr,wanted→dD
open Go.Region.linearise renaming go→zfU
open Go.RowKit.Below renaming heap_setCell→eJ,refl→eG
open Go.Value renaming bool→Nq,int→Qc,slice→Q1
open Go.World renaming frozen?→S8,setChan→Le,setRow→zfn,shape?→zci,size_setCell→sU
open List renaming all_eq_true→tU,append_assoc→Jn,drop_of_length_le→zrE,findIdx?_eq_some_iff_getElem→zmA,getD_cons_succ→Cy,getD_cons_zero→C2,getD_eq_getElem?_getD→Jx,getElem?_append_left→zI,getElem?_append_right→Ao,getElem?_drop→Vo,getElem?_eq_getElem→lV,getElem?_eq_none→Ca,getElem?_eq_some_iff→jX,getElem?_take→Xl,getElem_mem→zvU,idxOf?→zmI,length_append→gM,length_drop→xS,length_take→rU,map_append→Hr,map_cons→fL,map_drop→zse,map_nil→tM,map_take→zuG,map_toArray→uW,mem_append→E5,mem_cons→jH,mem_filter→Ia,mem_of_getElem?→dX,mem_of_mem_drop→zcl,mem_range→Bh,mem_singleton→sK,not_mem_nil→l8,range→gN,replicate→zwK,setIfInBounds_toArray→gI,set_cons_succ→dS,set_cons_zero→dW,takeWhile_cons→zcg,takeWhile_prefix→zom,take_append_of_le_length→Es,take_of_length_le→zZ,take_take→O2
open Nat renaming add_sub_cancel_left→zvs,add_zero→Qx,le_refl→aV,le_succ→Tg,le_trans→eM,lt_of_lt_of_le→lE,lt_or_ge→mY,lt_trichotomy→zsh,min→zb3,min_eq_left→zvu,sub_self→Mx,zero_add→qX,zero_le→jO
open Option renaming bind_some→vN,getD_none→zxs,getD_some→y6
open Option.some renaming inj→cE
noncomputable section
namespace Go
def kP{P:Prop}(h:P:=by rw[hz];decide):P:=h
def yN{P:Prop}(h:P:=by rw[lU.o];decide):P:=h
def Im{P:Prop}(h:P:=by intro s hs;cases hs;exact l8):P:=h
def Qf{P:Prop}(h:P:=by first|rfl|(simp only[wA];rfl)):P:=h
def zep{P:Prop}(h:P:=by show _<=((Tt.tp w' T 0).alloc _).heap.size;rw[rF];exact Tg _):P:=h
def Pb{P:Prop}(h:P:=by unfold aS;go_simp;try rfl):P:=h
def zuZ{P:Prop}(h:P:=by have:(bG xs).length=xs.length*2:=Fe bE.cells (s:=2) (λ_=>rfl) xs;omega):P:=h
def Yv{P:Prop}(h:P:=by rw[HF.o];decide):P:=h
def zry{P:Prop}(h:P:=by intro s hs;cases hs;show(3:Nat)∉([0]:List Nat);decide):P:=h
def zwn{P:Prop}(h:P:=by rw[cG,show zb3 1 (n+1-i)=1 from zvu (by omega)];rfl):P:=h
def zeP{P:Prop}(h:P:=by simp only[gM];omega):P:=h
def zw0{P:Prop}(h:P:=by have e:b=hb:=e;subst e;exact dX (i:=0) rfl):P:=h
def zm4{P:Prop}(h:P:=by intro s hs;cases hs):P:=h
def zmd{P:Prop}(h:P:=by have:=G2.o;omega):P:=h
end Go
namespace Go.Mt
open Go.Conc Go.Tt
open Go.ConcR (KK wgBlock WgAt stA smA rd wr)
section
variable {L:Type}{C:Cx L}{l l':L}
def Cx.upK (C:Cx L)(K':Pr)(I':Pr->cF->aE->Prop):Cx L:={C with K:=K',I:=I'}
variable {m:Fm}{w:aE}
theorem BO.note (ha:C.alone=none){can:L->Prop}(pS:C.A.act l=.note can)(hc:can l')(h:BO C l' m w):BO C l m w:=by
 intro R W m' τ hw hm ht hi;have:=h R W m' τ hw hm ht hi;rw[Cx.B_none ha] at this⊢;refine bY.usr rfl ?_;unfold mE;rw[pS];exact⟨l',hc,this⟩
variable {S:aO->Prop}{R:Pr}{St:Nat->Prop}
theorem cV.alR {K:Pr}{G:Gp}{W:aE}(h:cV S K R G St w W)(o:Obj):cV S K R G St w (W.alloc o):=by
 refine⟨h.inj,h.inj',λa b x=>⟨(h.lt a b x).1,by rw[rF];exact Nat.lt_succ_of_lt (h.lt a b x).2⟩,h.low,⟨h.gle.1,by rw[rF];exact Nat.le_succ_of_le h.gle.2⟩,λa b x=>?_,h.rest,h.st,h.np,h.tb⟩;obtain⟨o1,o2,h1,h2,h3⟩:=h.cont a b x;exact⟨o1,o2,h1,(Fb (h.lt a b (.inl x)).2).trans h2,h3⟩
variable {c:Nat}
theorem cV.setC {K:Pr}{G:Gp}{W:aE}(h:cV S K R G St w W)(hc:∀a,¬R a c)(cap:Nat)(K8:Array aF)(cl:Bool)(s r:Nat)(tm:Bool):cV S K R G St w (W.setChan c cap K8 cl s r tm):=by
 have cG:(W.setChan c cap K8 cl s r tm).heap.size=W.heap.size:=by simp[Le]
 refine⟨h.inj,h.inj',λa b x=>⟨(h.lt a b x).1,by rw[cG];exact(h.lt a b x).2⟩,h.low,⟨h.gle.1,by rw[cG];exact h.gle.2⟩,λa b x=>?_,h.rest,h.st,h.np,h.tb⟩;obtain⟨o1,o2,h1,h2,h3⟩:=h.cont a b x;refine⟨o1,o2,h1,?_,h3⟩;have aT:c≠b:=λe=>hc a (e▸x);simp only[Le,jP aT];exact h2
def FmW.upK {m':Fm}(h:FmW C R m m'){K':Pr}(hK:C.K.le K')(I':Pr->cF->aE->Prop):FmW (C.upK K' I') R m m':=⟨h.fn,h.todo,h.ret,bK.monoK hK h.tmps,h.pins⟩
variable {fn:aO}{tmps:Array aF}{ops:Array aZ}{i:Nat}{rest:List Nat}{k:List eF}{o:aZ}{e:aM}{dir:Mm}{ie:wY}{I':Nat->Pr->cF->aE->Prop}
theorem BO.makeK (hI:fF C){t:aM}(ho:ops[i]? =some o)(cD:dD o (dR ops tmps)=true)
 (hop:o.op=.makeChan t (.const (.int .i64 0))) (zdz:C.p.underlying t=some (.chan dir e)) (jY:C.p.info? e=some ie) (lH:∀s,o.dst=some s->s∉C.S) 
 (zla:∀R τ W,C.I R τ W->vO τ R C.St->(∀a b,R a b->b<W.heap.size)->I' W.heap.size R (τ.grow W (W.alloc (.chan 0 #[] false 0 0 false))) (W.alloc (.chan 0 #[] false 0 0 false)))
 (h:∀c,BO (C.upK (C.K.add w.heap.size c) (I' c)) l ⟨fn,(cC ⟨tmps,[]⟩ o.dst (.chan (some w.heap.size))).tmps,.inRegion ops rest::k,false⟩ (w.alloc oR)):BO C l ⟨fn,tmps,.inRegion ops (i::rest)::k,false⟩ w:=by
 intro R W m' τ hw hm ht hi;obtain⟨fn',bQ,yJ,yB⟩:=m';obtain rfl:=hm.fn;obtain rfl:=hm.todo;obtain rfl:=hm.ret;have hb:(C.ds.base fn).kind≠ .early:=C.ds.ok;have uO:=Ip (C:=C) hm.tmps cD;rw[mH];refine Cx.ownQ rfl λaX s=>?_;have dI:C.Rel R w aX:=Cx.Rel.suf (C:=C) hw ht s;have yU:=hI.suf _ _ _ _ hi s;have e1:(aS (bJ bQ C.ds.ds).eval o).run C.p aX=.ok (.value (.chan (some aX.heap.size))) (aX.alloc (.chan 0 #[] false 0 0 false))/\(aS (bJ bQ C.ds.ds).eval o).events C.p aX #[]=#[]:=by
  obtain⟨dst,yW,type,pos,after,guard⟩:=o;simp only at hop;subst hop;have hm:(Instr.makeChan t (.int .i64 0)).run C.p aX=_:=run_makeChan (P:=C.p) (w:=aX) zdz jY .i64 0 aC aC;have hv:=events_makeChan (P:=C.p) (w:=aX) zdz jY .i64 0 aC aC #[];exact⟨run_bv hm,ev_bv hm hv⟩
 have aY:=zml (main:=C.main) (rest:=rest) (k:=k) (cs:=C.base) ho uO hb e1.1;unfold xA at aY;rw[e1.2,Ce] at aY;refine⟨_,aX.alloc (.chan 0 #[] false 0 0 false),_,aY,rfl,⟨rfl,rfl,rfl,by rw[rF];omega,λb hb _=>Fb hb⟩,λe he=>by simp at he,?_⟩;have D7:cC ⟨bQ,C.ds.ds⟩ o.dst (.chan (some aX.heap.size))=⟨(cC ⟨bQ,C.ds.ds⟩ o.dst (.chan (some aX.heap.size))).tmps,C.ds.ds⟩:=by cases o.dst<;>rfl
 rw[D7,<-mH];have aN:∀a b,R.or C.K a b->b<aX.heap.size:=λa b x=>(dI.lt a b x).2;have fZ:cV (SF C.fs) (C.K.add w.heap.size aX.heap.size) R (o5 C.p) C.St (w.alloc oR) (aX.alloc (.chan 0 #[] false 0 0 false)):=cV.pushK (cV.alR dI _) (by rw[rF];omega) λa x=>by have:=aN a _ x;omega
 refine h aX.heap.size R _ ⟨fn,_,_,false⟩ _ fZ ⟨rfl,rfl,rfl,Jj (C:=C.upK _ (I' aX.heap.size)) (bK.monoK (Pr.le_add _ _ _) hm.tmps) (.chan (.some (.inr (.inr ⟨rfl,rfl⟩)))),Ix (C:=C) hm.pins lH⟩ (λa b x=>⟨(ht a b x).1,λz=>.inl ((ht a b x).2 z)⟩) (zla R τ aX yU ht λa b x=>aN a b (.inl x))
def cF.cut (τ:cF)(ps:List Nat):cF:={τ with own:=λb=>τ.own b/\b∉ps}
variable {I':Pr->cF->aE->Prop}{x:cN}{g:Nat}{okv:aF->Prop}{pub:aF->List Nat}
theorem BO.sendP (ha:C.alone=none)(hI:fF C){y:cN}{nx:aF->L}{ps:List Nat}
 (ho:ops[i]? =some o) (cD:dD o (dR ops tmps)=true) (hop:o.op=.send x y)
 (rW:dP C.fs x=true) (hx:(bJ tmps []).eval x=.chan (some g)) (hK:C.K g c) (Dl:dP C.fs y=true) (lH:∀s,o.dst=some s->s∉C.S) (pS:C.A.act l=.send c okv pub nx)
 (hv:∀R W v',C.Rel R w W->VR (SF C.fs) C.K R ((bJ tmps []).eval y) v'->okv v'/\pub v'=ps/\nx v'=l') 
 (oQ:∀R τ W,C.I R τ W->(∀a∈ps,τ.own a/\¬τ.still a/\Ij W a/\∀b,¬R b a)/\I' R (τ.cut ps) W)
 (h1:BO (C.upK C.K I') l' ⟨fn,(cC ⟨tmps,[]⟩ o.dst aA).tmps,.inRegion ops rest::k,false⟩ w):BO C l ⟨fn,tmps,.inRegion ops (i::rest)::k,false⟩ w:=by
 intro R W m' τ hw hm ht hi;obtain⟨fn',bQ,yJ,yB⟩:=m';obtain rfl:=hm.fn;obtain rfl:=hm.todo;obtain rfl:=hm.ret;have lK:(bJ bQ C.ds.ds).eval x=.chan (some c):=V5 hw hK (hx▸Gg (C:=C) hm.tmps rW);have uO:=Ip (C:=C) hm.tmps cD;have hb:(C.ds.base fn).kind≠ .early:=C.ds.ok;obtain⟨k1,k2,k3⟩:=hv R W _ hw (Gg (C:=C) (d:=C.ds.ds) hm.tmps Dl);obtain⟨p1,p2⟩:=oQ R τ W hi;rw[mH,Cx.B_none ha];refine bY.usr rfl ?_;unfold mE;rw[pS];refine⟨rfl,_,.tuple #[],τ.cut ps,λaI s=>?_,k1,λb h=>h.1,rfl,λb h=>.inl h,(λa ha=>?_),?_⟩
 .obtain⟨e1,e2⟩:=zsU (p:=C.p) (ρ:=(bJ bQ C.ds.ds).eval) hop lK rfl aI
  rw[stepG_comm ho uO hb e1];unfold xA;rw[e2,Ce]
 .rw[k2] at ha
  obtain⟨q1,q2,q3,_⟩:=p1 a ha;exact⟨q1,λe=>e.2 ha,q2,q3⟩
 .rw[k3,zaT ho]
  rw[<-Cx.B_none ha];refine h1 R W _ (τ.cut ps) hw ⟨rfl,rfl,rfl,Jj (C:=C) hm.tmps xO,Ix (C:=C) hm.pins lH⟩ (λa b x=>⟨(ht a b x).1,λz=>⟨(ht a b x).2 z,λhb=>(p1 b hb).2.2.2 a x⟩⟩) p2
theorem BO.recvK (ha:C.alone=none)(hI:fF C){ct:aM}{ok:Bool}{z:aF}{nx:aF->L}{sh:L}
 (ho:ops[i]? =some o) (cD:dD o (dR ops tmps)=true) (hop:o.op=.recv ct x ok) (Ep:C.p.underlying ct=some (.chan dir e)) (jY:C.p.info? e=some ie) (hz:ie.zero=some z) (znq:∀R,VR (SF C.fs) C.K R z z)
 (rW:dP C.fs x=true) (hx:(bJ tmps []).eval x=.chan (some g)) (hK:C.K g c) (lH:∀s,o.dst=some s->s∉C.S) (pS:C.A.act l=.recv c okv nx sh)
 (h1:∀v,okv v->∃a,a∈C.A.got l v/\∀K' ga w',C.K.le K'->K' ga a->(w'=w\/w'=w.alloc oR)->∃vg,(∀R,VR (SF C.fs) K' R vg v)/\BO (C.upK K' C.I) (nx v) ⟨fn,(cC ⟨tmps,[]⟩ o.dst (recvd ok vg true)).tmps,.inRegion ops rest::k,false⟩ w')
 (h2:C.A.cl l->BO C sh ⟨fn,(cC ⟨tmps,[]⟩ o.dst (recvd ok z false)).tmps,.inRegion ops rest::k,false⟩ w):BO C l ⟨fn,tmps,.inRegion ops (i::rest)::k,false⟩ w:=by
 intro R W m' τ hw hm ht hi;obtain⟨fn',bQ,yJ,yB⟩:=m';obtain rfl:=hm.fn;obtain rfl:=hm.todo;obtain rfl:=hm.ret;have lK:(bJ bQ C.ds.ds).eval x=.chan (some c):=V5 hw hK (hx▸Gg (C:=C) hm.tmps rW);have uO:=Ip (C:=C) hm.tmps cD;have hb:(C.ds.base fn).kind≠ .early:=C.ds.ok;have zde:∀K' vg v' b,VR (SF C.fs) K' R vg v'->VR (SF C.fs) K' R (recvd ok vg b) (recvd ok v' b):=λK' vg v' b h=>by
  unfold recvd
  cases ok with
  |false=>exact h
  |true=>
   simp only[if_true];exact VR.tuple' (by
    have:=bK.empty (S:=SF C.fs) (K:=K') (R:=R);exact(this.push h).push (.bool b))
 rw[mH,Cx.B_none ha];refine bY.usr rfl ?_;unfold mE;rw[pS];refine⟨rfl,z,ok,λaI s=>?_,λv hv aI s hg=>?_,λmG=>?_⟩
 .obtain⟨e1,e2⟩:=zul (p:=C.p) (ρ:=(bJ bQ C.ds.ds).eval) hop Ep jY hz lK aI
  rw[stepG_comm ho uO hb e1];unfold xA;rw[e2,Ce]
 .obtain⟨a,zDD,hB⟩:=h1 v hv
  obtain⟨a1,a2,a3⟩:=hg a zDD;have dI:C.Rel R w aI:=Cx.Rel.suf (C:=C) hw ht s;have yU:=hI.suf _ _ _ _ hi s;have go:∀K' ga w',C.K.le K'->K' ga a->(w'=w\/w'=w.alloc oR)->cV (SF C.fs) K' R (o5 C.p) C.St w' aI->bY C.p C.ty C.Wg C.A C.Fin C.main (.usr (nx v)) 0 τ (Conc.served (G ((C.ds.base fn).at ⟨bQ,C.ds.ds⟩ (.inRegion ops (i::rest)::k)) C.base) (recvd ok v true)) aI:=λK' ga w' hle zbB jT hr=>by
   obtain⟨vg,zkD,zGg⟩:=hB K' ga w' hle zbB jT;rw[zaT ho,<-Cx.B_none ha];exact zGg R aI _ τ hr ⟨rfl,rfl,rfl,Jj (C:=C.upK K' C.I) (bK.monoK hle hm.tmps) (zde K' _ _ _ (zkD R)),Ix (C:=C) hm.pins lH⟩ ht yU
  have hR:∀b,¬R b a:=λb x=>by
   by_cases hs:C.St b
   .exact a3 ((ht b a x).1 hs)
   .exact a2 ((ht b a x).2 hs)
  by_cases hk:∃b,C.K b a
  .obtain⟨b,bZ⟩:=hk
   exact go C.K b w (λ_ _ x=>x) bZ (.inl rfl) dI
  .exact go (C.K.add w.heap.size a) w.heap.size (w.alloc oR) (Pr.le_add _ _ _) (.inr ⟨rfl,rfl⟩) (.inr rfl) (cV.pushK dI a1 λb x=>x.elim (hR b) λy=>hk ⟨b,y⟩)
 .rw[zaT ho,<-Cx.B_none ha]
  exact h2 mG R W _ τ hw ⟨rfl,rfl,rfl,Jj (C:=C) hm.tmps (zde _ _ _ _ (znq R)),Ix (C:=C) hm.pins lH⟩ ht hi
theorem BO.close (ha:C.alone=none)(hI:fF C){tx:Tmp}{kT:Array aM}{nx:L}{fnf:Func}
 (ho:ops[i]? =some o) (cD:dD o (dR ops tmps)=true) (hop:o.op=.call {callee:=.builtin .close,args:=#[.tmp tx],argTypes:=kT}) (hx:(bJ tmps []).eval (.tmp tx)=.chan (some g)) (hK:C.K g c) (lH:∀s,o.dst=some s->s∉C.S) (pS:C.A.act l=.close c nx)
 (hf:C.p.funcs[fn]? =some fnf) (Cb:fnf.norace=false)
 (hp:∀R τ W,C.I R τ W->τ.pass c/\¬τ.own c/\¬τ.still c/\∀s r,C.I R τ (W.setChan c 0 #[] true s r false))
 (h1:BO C nx ⟨fn,(cC ⟨tmps,[]⟩ o.dst (.tuple #[])).tmps,.inRegion ops rest::k,false⟩ w):BO C l ⟨fn,tmps,.inRegion ops (i::rest)::k,false⟩ w:=by
 intro R W m' τ hw hm ht hi;obtain⟨fn',bQ,yJ,yB⟩:=m';obtain rfl:=hm.fn;obtain rfl:=hm.todo;obtain rfl:=hm.ret;have lK:(bJ bQ C.ds.ds).eval (.tmp tx)=.chan (some c):=V5 hw hK (hx▸Gg (C:=C) (x:=.tmp tx) hm.tmps rfl);have Af:bQ[tx]?.getD aA=.chan (some c):=by simpa[wA] using lK
 have uO:=Ip (C:=C) hm.tmps cD;have hb:(C.ds.base fn).kind≠ .early:=C.ds.ok;obtain⟨p1,p2,p3,_⟩:=hp R τ W hi;rw[mH,Cx.B_none ha];refine bY.usr rfl ?_;unfold mE;rw[pS];refine⟨?_,p1,λaI s s' r' hc=>?_⟩
 .obtain⟨dst,yW,type,pos,after,guard⟩:=o
  simp only at hop;subst hop;simp[mayWake,G,dJ.at,bC.frame,ho,Dk.base]
 .have e1:(aS (bJ bQ C.ds.ds).eval o).run C.p aI=.ok (.value (.tuple #[])) (aI.setChan c 0 #[] true s' r' false)/\(aS (bJ bQ C.ds.ds).eval o).events C.p aI #[]=closeEvents c:=by
   obtain⟨dst,yW,type,pos,after,guard⟩:=o;simp only at hop;subst hop;constructor
   .simp[aS,go_sem,resolve,Af,invoke,run_close_open _ _ hc,Le]
   .simp[aS,go_sem,resolve,Af,invoke,events_close_open _ _ hc,closeEvents]
  have aY:=zml (main:=C.main) (rest:=rest) (k:=k) (cs:=C.base) ho uO hb e1.1;have hl:xA C.p (C.ds.base fn).fn ⟨bQ,C.ds.ds⟩ o aI=closeEvents c:=by
   unfold xA;rw[e1.2];refine seen_eq ?_ ?_
   .show(C.p.funcs[fn]?).any (·.norace)=false
    rw[hf];simp[Cb]
   .intro e he f
    simp only[closeEvents,List.mem_toArray,jH,l8,or_false] at he;rcases he with rfl|rfl<;>simp
  rw[hl] at aY;refine⟨_,aY,rfl,?_⟩;have dI:C.Rel R w aI:=Cx.Rel.suf (C:=C) hw ht s;have yU:=hI.suf _ _ _ _ hi s;have hR:∀b,¬R b c:=λb x=>by
   by_cases hs:C.St b
   .exact p3 ((ht b c x).1 hs)
   .exact p2 ((ht b c x).2 hs)
  have D7:cC ⟨bQ,C.ds.ds⟩ o.dst (.tuple #[])=⟨(cC ⟨bQ,C.ds.ds⟩ o.dst (.tuple #[])).tmps,C.ds.ds⟩:=by cases o.dst<;>rfl
  rw[D7,<-mH,<-Cx.B_none ha];exact h1 R _ ⟨fn,_,_,false⟩ τ (cV.setC dI hR _ _ _ _ _ _) ⟨rfl,rfl,rfl,Jj (C:=C) hm.tmps (VR.tuple' .empty),Ix (C:=C) hm.pins lH⟩ ht ((hp R τ aI yU).2.2.2 s' r')
end
end Go.Mt
namespace Go.Mt
open Go.Conc Go.Tt Go.RowKit Go.Conc.Lib Go.ConcR.Gen
open Go.ConcR (KK wgBlock WgAt stA smA rd wr mk Payload DC0)
structure IQ (W0:aE)(St:Nat->Prop)(Shun:Loc->Prop)(Wg:Nat)(SS:Nat->Prop)(R0:Pr)(Fz:Nat->Prop)(Wf:aE)(qs chs:List Nat)(R:Pr)(τ:cF)(W:aE):Prop where
 x:IM2 W0 St Shun Wg SS R0 Fz Wf chs R τ W
 pass:∀c∈qs,τ.pass c/\¬τ.own c/\¬τ.still c/\c<W.heap.size/\c≠Wg
section
variable {W0:aE}{St:Nat->Prop}{Shun:Loc->Prop}{Wg:Nat}{SS:Nat->Prop}{R0:Pr}{Fz:Nat->Prop}{Wf:aE}{qs chs:List Nat}
theorem zfN {ty:aM}(vJ:∀b,b<W0.heap.size->SS b)(hF:∀b,Fz b->SS b)(nX:W0.heap.size<=Wg):IX ty Wg (IQ W0 St Shun Wg SS R0 Fz Wf qs chs):=by
 have hx:=zrI (ty:=ty) (St:=St) (Shun:=Shun) (Wg:=Wg) (R0:=R0) (Wf:=Wf) (chs:=chs) (Fz:=Fz) vJ hF nX;refine⟨λR τ W aX h s=>⟨hx.suf _ _ _ _ h.x s,λc hc=>?_⟩,λR τ W a v h ha=>⟨hx.cell _ _ _ _ _ h.x ha,λc hc=>?_⟩,λR τ W d h=>⟨hx.at_ _ _ _ d h.x,h.pass⟩,λR τ W h=>h.x.x.im.rel⟩
 .obtain⟨h1,h2,h3,h4,h5⟩:=h.pass c hc
  exact⟨h1,h2,h3,lE h4 s.size,h5⟩
 .obtain⟨h1,h2,h3,h4,h5⟩:=h.pass c hc
  exact⟨h1,h2,h3,by rw[H5];exact h4,h5⟩
variable {L:Type}{C:Cx L}
theorem zlC (hC:C.I=yI C.ty C.Wg (IQ W0 St Shun C.Wg SS R0 Fz Wf qs chs))(aY:∀a,St a->C.St a)(vJ:∀b,b<W0.heap.size->SS b)(hF:∀b,Fz b->SS b)(nX:W0.heap.size<=C.Wg):fF C:=by
 have h0:=im2_ok (C:={C with I:=yI C.ty C.Wg (IM2 W0 St Shun C.Wg SS R0 Fz Wf chs)}) rfl aY vJ hF nX;have hx:=zfN (ty:=C.ty) (St:=St) (Shun:=Shun) (R0:=R0) (Fz:=Fz) (Wf:=Wf) (qs:=qs) (chs:=chs) vJ hF nX;refine⟨λR τ W aX h s=>?_,λR τ W R1 W1 h ht hs=>?_⟩<;>rw[hC] at*
 .exact⟨hx.suf _ _ _ _ h.1 s,s.live h.2⟩
 .obtain⟨k1,k2⟩:=h0.step R τ W R1 W1 ⟨h.1.x,h.2⟩ ht hs
  refine⟨⟨k1,λc hc=>?_⟩,k2⟩;obtain⟨h1,h2,h3,h4,h5⟩:=h.1.pass c hc;exact⟨h1,λe=>e.elim h2 λy=>by omega,h3,lE h4 hs.size,h5⟩
variable {R:Pr}{τ:cF}{W:aE}
theorem zqu (h:IQ W0 St Shun Wg SS R0 Fz Wf qs chs R τ W)(aN:∀a b,R a b->b<W.heap.size):
 IQ W0 St Shun Wg SS R0 Fz Wf qs (W.heap.size::chs) R (τ.grow W (W.alloc (.chan 0 #[] false 0 0 false))) (W.alloc (.chan 0 #[] false 0 0 false)):=by
 have sz:(W.alloc (.chan 0 #[] false 0 0 false)).heap.size=W.heap.size+1:=rF _ _;have zCu:=h.x.x.im.wg;refine⟨⟨⟨⟨⟨h.x.x.im.kp.os,h.x.x.im.kp.tape,h.x.x.im.kp.output,by rw[sz];have:=h.x.x.im.kp.size;omega,λb hb=>(Fb (by have:=h.x.x.im.kp.size;omega)).trans (h.x.x.im.kp.block b hb),h.x.x.im.kp.old⟩,⟨h.x.x.im.sh.old,h.x.x.im.sh.rel,λl b hl hb=>h.x.x.im.sh.new l b hl (by rw[sz] at hb;omega)⟩,h.x.x.im.still,by rw[sz];omega,λb hb=>?_,h.x.x.im.rel⟩,h.x.x.le,λb hb=>by
  obtain⟨l1,l2,l3,l4⟩:=h.x.x.fz b hb;exact⟨by rw[sz];omega,(Fb l1).trans l2,λe=>e.elim l3 λy=>by omega,l4⟩⟩,λb hb hs=>?_,λb hb=>by have:=h.x.slt b hb;rw[sz];omega,λc hc=>?_⟩,λc hc=>?_⟩
 .rcases hb with hb|⟨hb,_⟩
  .exact h.x.x.im.own b hb
  .omega
 .rcases hb with hb|⟨hb,_⟩
  .exact h.x.dis b hb hs
  .have:=h.x.slt b hs;omega
 .rcases jH.1 hc with rfl|hc
  .exact⟨.inr ⟨aV _,by rw[sz];omega⟩,Ef _ _,λa x=>by have:=aN a _ x;omega⟩
  .obtain⟨h1,h2,h3⟩:=h.x.ch c hc
   exact⟨.inl h1,(Fb h2.lt).trans h2,h3⟩
 .obtain⟨h1,h2,h3,h4,h5⟩:=h.pass c hc
  exact⟨h1,λe=>e.elim h2 λy=>by omega,h3,by rw[sz];omega,h5⟩
theorem iq_cut {c:Nat}(h:IQ W0 St Shun Wg SS R0 Fz Wf qs [c] R τ W):(∀a∈[c],τ.own a/\¬τ.still a/\Ij W a/\∀b,¬R b a)/\IQ W0 St Shun Wg SS R0 Fz Wf qs [] R (τ.cut [c]) W:=by
 refine⟨λa ha=>?_,⟨⟨⟨⟨h.x.x.im.kp,h.x.x.im.sh,h.x.x.im.still,h.x.x.im.wg,λb hb=>h.x.x.im.own b hb.1,h.x.x.im.rel⟩,h.x.x.le,λb hb=>let⟨l1,l2,l3,l4⟩:=h.x.x.fz b hb;⟨l1,l2,λe=>l3 e.1,l4⟩⟩,λb hb hs=>h.x.dis b hb.1 hs,h.x.slt,λc hc=>by cases hc⟩,λc hc=>?_⟩⟩
 .obtain⟨h1,h2,h3⟩:=h.x.ch a ha
  exact⟨h1,λhs=>h.x.dis a h1 hs,h2,h3⟩
 .obtain⟨h1,h2,h3⟩:=h.pass c hc
  exact⟨h1,λe=>h2 e.1,h3⟩
theorem zBF (h:IQ W0 St Shun Wg SS R0 Fz Wf qs chs R τ W){c:Nat}(hc:c∈qs)(s r:Nat)(aY:∀b,b<W0.heap.size->SS b)(hF:∀b,Fz b->SS b):IQ W0 St Shun Wg SS R0 Fz Wf qs chs R τ (W.setChan c 0 #[] true s r false):=by
 have sz:(W.setChan c 0 #[] true s r false).heap.size=W.heap.size:=by simp[Le]
 have ne:∀b,b≠c->(W.setChan c 0 #[] true s r false).heap[b]? =W.heap[b]? :=λb hb=>by simp only[Le];rw[jP (Ne.symm hb)]
 obtain⟨p1,p2,p3,p4,p5⟩:=h.pass c hc;refine⟨⟨⟨⟨⟨h.x.x.im.kp.os,h.x.x.im.kp.tape,h.x.x.im.kp.output,by rw[sz];exact h.x.x.im.kp.size,λb hb=>(ne b λe=>?_).trans (h.x.x.im.kp.block b hb),h.x.x.im.kp.old⟩,⟨h.x.x.im.sh.old,h.x.x.im.sh.rel,λl b hl hb=>h.x.x.im.sh.new l b hl (by rw[sz] at hb;exact hb)⟩,h.x.x.im.still,by rw[sz];exact h.x.x.im.wg,h.x.x.im.own,h.x.x.im.rel⟩,h.x.x.le,λb hb=>by
  obtain⟨l1,l2,l3,l4⟩:=h.x.x.fz b hb;refine⟨by rw[sz];exact l1,(ne b λe=>?_).trans l2,l3,l4⟩;subst e;exact p3 (by rw[h.x.x.im.still];exact hF b hb)⟩,h.x.dis,λb hb=>by rw[sz];exact h.x.slt b hb,λa ha=>?_⟩,λa ha=>by rw[sz];exact h.pass a ha⟩
 .subst e
  exact p3 (by rw[h.x.x.im.still];exact aY b hb)
 .obtain⟨h1,h2,h3⟩:=h.x.ch a ha
  exact⟨h1,(ne a λe=>p2 (e▸h1)).trans h2,h3⟩
def Ll (τ:cF)(R:Pr)(X:Nat->Bool)(N:Nat)(qs:List Nat):cF:=⟨λb=>τ.own b/\b≠N/\¬∃a,R a b/\X a=true,λb=>τ.still b\/∃a,R a b/\X a=true,λb=>b∈qs++[N]⟩
def Wk (τ:cF)(R:Pr)(X:Nat->Bool):cF:=⟨λ_=>False,λb=>τ.still b\/∃a,R a b/\X a=true,λ_=>False⟩
variable {S:aO->Prop}{K:Pr}{G:Gp}{eP:Nat->Prop}{w:aE}{X:Nat->Bool}{N:Nat}
theorem parts_q (hT:vO τ R eP)(h:IQ W0 St Shun Wg SS R0 Fz Wf qs [N] R τ W):ziI τ (Ll τ R X N qs) (Wk τ R X) [N] W:=by
 have hx:∀b,(∃a,R a b/\X a=true)->τ.still b\/τ.own b:=λb ⟨a,h,_⟩=>by
  by_cases hs:eP a
  .exact .inl ((hT a b h).1 hs)
  .exact .inr ((hT a b h).2 hs)
 obtain⟨n1,n2,n3⟩:=h.x.ch N (sK.2 rfl);refine⟨λb hb=>?_,λb hb=>?_,λb hb=>?_,λb hb=>⟨id,?_,id⟩,λb hb=>hb.elim,λa ha=>?_⟩
 .rcases hb with hb|hb
  .exact hb.1
  .exact hb.elim
 .rcases hb with(hb|hb)|hb|hb
  .exact .inl hb
  .exact hx b hb
  .exact .inl hb
  .exact hx b hb
 .rcases hb with hb|hb
  .rcases E5.1 hb with hb|hb
   .exact .inl (h.pass b hb).1
   .obtain rfl:=sK.1 hb
    exact .inr (.inl n1)
  .exact hb.elim
 .rintro(hs|hs)
  .exact h.x.dis b hb.1 hs
  .exact hb.2.2 hs
 .obtain rfl:=sK.1 ha
  refine⟨n1,n2,λh=>h.2.1 rfl,?_,id,?_⟩
  .rintro(hs|⟨g,hg,_⟩)
   .exact h.x.dis a n1 hs
   .exact n3 g hg
  .rintro(hs|⟨g,hg,_⟩)
   .exact h.x.dis a n1 hs
   .exact n3 g hg
theorem zyK (hw:cV S K R G eP w W)(hT:vO τ R eP)(hN:∀a,¬R a N):vO (Ll τ R X N qs) R (λa=>eP a\/X a=true):=λa b x=>by
 refine⟨λh=>?_,λh=>?_⟩
 .rcases h with h|h
  .exact .inl ((hT a b x).1 h)
  .exact .inr ⟨a,x,h⟩
 .refine⟨(hT a b x).2 λhs=>h (.inl hs),λe=>hN a (e▸x),?_⟩
  rintro⟨a',x',h'⟩;obtain rfl:=hw.inj' a a' b (.inl x) (.inl x');exact h (.inr h')
def zHg:vO (Wk τ R X) (rX R X) (λa=>X a=true):=λa b x=>⟨λh=>.inr ⟨a,x.1,x.2⟩,λh=>absurd x.2 h⟩
theorem iq_qm (hw:cV S K R G eP w W)(hT:vO τ R eP)(h:IQ W0 St Shun Wg SS R0 Fz Wf qs [N] R τ W):IQ W0 St Shun Wg (Ll τ R X N qs).still R (Gd R eP X) W (qs++[N]) [] R (Ll τ R X N qs) W:=by
 obtain⟨n1,n2,n3⟩:=h.x.ch N (sK.2 rfl);have hx:∀b,(∃a,R a b/\X a=true)->∀c∈qs,b≠c:=λb ⟨a,h',_⟩ c hc e=>by
  subst e;obtain⟨_,p2,p3,_⟩:=h.pass b hc;by_cases hs:eP a
  .exact p3 ((hT a b h').1 hs)
  .exact p2 ((hT a b h').2 hs)
 refine⟨⟨⟨⟨h.x.x.im.kp,h.x.x.im.sh,rfl,h.x.x.im.wg,λb hb=>h.x.x.im.own b hb.1,h.x.x.im.rel⟩,.refl R,λb hb=>by
  obtain⟨a,x,hh⟩:=hb;refine⟨(hw.lt a b (.inl x)).2,rfl,λho=>?_,h.x.x.im.rel a b x⟩;rcases hh with hh|hh
  .exact h.x.dis b ho.1 ((hT a b x).1 hh)
  .exact ho.2.2 ⟨a,x,hh⟩⟩,λb hb hs=>?_,λb hb=>?_,λc hc=>by cases hc⟩,λc hc=>?_⟩
 .rcases hs with hs|hs
  .exact h.x.dis b hb.1 hs
  .exact hb.2.2 hs
 .rcases hb with hb|⟨a,x,_⟩
  .exact h.x.slt b hb
  .exact(hw.lt a b (.inl x)).2
 .refine⟨hc,?_⟩
  rcases E5.1 hc with kS|kS
  .obtain⟨_,p2,p3,p4,p5⟩:=h.pass c kS
   exact⟨λe=>p2 e.1,λe=>e.elim p3 λy=>hx c y c kS rfl,p4,p5⟩
  .obtain rfl:=sK.1 kS
   refine⟨λe=>e.2.1 rfl,?_,n2.lt,h.x.x.im.own c n1⟩;rintro(hs|⟨g,hg,_⟩)
   .exact h.x.dis c n1 hs
   .exact n3 g hg
def tauWm (τ:cF):cF:=⟨λ_=>False,τ.still,λ_=>False⟩
theorem parts_w (h:IQ W0 St Shun Wg SS R0 Fz Wf qs [] R τ W):ziI τ (tauWm τ) τ [] W:=
 ⟨λb hb=>hb.elim (λx=>x.elim) id,λb hb=>.inl (hb.elim id id),λb hb=>hb.elim (λx=>x.elim) .inl,λb hb=>hb.elim,λb hb=>⟨λhs=>h.x.dis b hb hs,id⟩,λa ha=>by cases ha⟩
end
section
variable [Payload]{Lk:WgLink}
variable {L:Type}{C:Cx L}{l:L}{I0:Pr->cF->aE->Prop}
theorem BO.doneD (H:WgLib C.p Lk)(ha:C.alone=none)(zfY:C.main=false)(Cs:C.ty=Lk.tWg)(zeF:C.I=yI Lk.tWg C.Wg I0)(hX:IX Lk.tWg C.Wg I0)(zyA:C.ds=⟨[dcall Lk.done #[.pointer (some ⟨C.Wg,0,none⟩)]],.deferred,aP⟩)(rS:C.base=[vW C.p])
 {f:aO} {fn:Func} (hf:C.p.funcs[f]? =some fn) (hr:fn.results=#[]) (pS:C.A.act l=.done) {T:Array aF} {todo:List eF} {w:aE} (tZ:∀R τ W,C.Rel R w W->I0 R τ W->C.A.dep l W):BO C l ⟨f,T,todo,true⟩ w:=by
 intro R W m' τ hw hm ht hi;obtain⟨fn',T',yJ,yB⟩:=m';obtain rfl:=hm.fn;obtain rfl:=hm.todo;obtain rfl:=hm.ret;rw[zeF] at hi;have kf:=zoW (C:=C) (w:=w) Cs hX ht;rw[zk4,Cx.B_none ha,zfY,Cs,zyA,rS];refine Nx rfl rfl (λaX s=>stepG_unwind_enter rfl H.f_done (nm_done Lk) rfl) λaX s=>?_;exact doneW (F:=λW=>C.Rel R w W/\I0 R τ W) (Fin:=C.Fin) H pS kf (λW' h=>tZ R τ W' h.1 h.2) (c:={(baseD f).at ⟨T',[]⟩ todo with mode:=.returning}) (cs:=[vW C.p]) rfl (zDE hf hr T' todo) aX ⟨kf.suf _ _ s ⟨hw,hi.1⟩,s.live hi.2⟩
end
variable [Payload]{Lk:WgLink}
section
variable {L:Type}{p:bR}{A:jU L}{Fin:bC->aE->Prop}{Wg:Nat}{l:L}
theorem zDA (H:WgLib p Lk)(pS:A.act l=.wait)(Mp:∀(n:Nat) g w,Goes p true AtRel DC0 Fin n g w->Fin g w){fn:aO}{T:Array aF}{zGG ops:Array aZ}{id s:Nat}{o:aZ}{kT:Array aM}{tail:Code}{base:List dJ}{τ:cF}{W:aE}
 (zkc:ops=#[o]) (hg:o.guard=none) (hop:o.op=.call ⟨.value (.func Lk.wait),#[.tmp s],kT⟩) (hs:T.getD s aA=.pointer (some ⟨Wg,0,none⟩)) (nA:WgLive Lk.tWg Wg W)
 (h:∀Wn d,zat A Wn->Fin (G ((Dk.nil.base fn).at ⟨(cC ⟨T,[]⟩ o.dst (.tuple #[])).tmps,[]⟩ [.inRegion ops [],.code tail]) base) (Wn.at d)):
 bY p Lk.tWg Wg A Fin true (.usr l) 0 τ (G ((Dk.nil.base fn).at ⟨T,[]⟩ (.inRegion zGG []::[.code (.seq (.region id ops false) tail)])) base) W:=by
 subst zkc;have ho:(#[o]:Array aZ)[0]? =some o:=rfl;have cD:dD o (dR #[o] T)=true:=by unfold dD;rw[hg]
 have hb:=Dk.nil.ok;have D7:∀v,cC ⟨T,[]⟩ o.dst v=⟨(cC ⟨T,[]⟩ o.dst v).tmps,[]⟩:=λv=>by cases o.dst<;>rfl
 have hr:gN (#[o]:Array aZ).size=[0]:=rfl;refine Nx rfl rfl (λaX s1=>stepG_region_end) λW1 s1=>?_;refine Nx rfl rfl (λaX s1=>stepG_seq) λW2 s2=>?_;refine Nx rfl rfl (λaX s1=>stepG_region) λW3 s3=>?_;rw[hr];refine Nx rfl rfl (g':=G ((Conc.base Lk.wait).at ⟨#[.pointer (some ⟨Wg,0,none⟩),aA,aA,aA,aA,aA,aA,aA,aA,aA,aA,aA,aA,aA,aA,aA,aA,aA,aA,aA,aA,aA,aA,aA,aA,aA,aA,aA,aA,aA,aA,aA,aA,aA,aA,aA,aA,aA,aA,aA,aA,aA,aA,aA,aA,aA,aA,aA,aA,aA,aA,aA,aA,aA,aA,aA,aA,aA,aA,aA,aA,aA,aA,aA,aA,aA,aA,aA,aA,aA,aA,aA,aA,aA,aA,aA,aA,aA,aA,aA,aA,aA,aA,aA],[]⟩ [.code (body_wait Lk)]) ((Dk.nil.base fn).at ⟨T,[]⟩ (.inRegion #[o] [0]::[.code tail])::base)) (λFv s4=>?_) λFv s4=>?_
 .obtain⟨x1,x2⟩:=zbP (p:=p) (o:=o) hop (ρ:=(bJ T []).eval) (λg=>rfl) H.f_wait rfl rfl Fv
  have tD:(#[.tmp s]:Array cN).map (bJ T []).eval=#[.pointer (some ⟨Wg,0,none⟩)]:=by simp only[uW,fL,tM,wA];rw[hs]
  rw[tD] at x1;have zby:=stepG_enter (main:=true) (b:=Dk.nil.base fn) (a:=⟨T,[]⟩) (rest:=[]) (cs:=base) (k:=[.code tail]) ho cD hb x1;rw[zby];unfold xA;rw[x2,Ce,zAk H]
 .have kf:=Gs.triv Lk.tWg Wg τ
  refine zbF (A:=A) (b₀:=Dk.nil.base fn) (a₀:=⟨T,[]⟩) (ops₀:=#[o]) (i₀:=0) (rest₀:=[]) (k₀:=[.code tail]) (cs:=base) (Fin:=Fin) (l:=l) (Wg:=Wg) H pS kf Mp (λWn _ _ hD d=>?_) Fv ⟨trivial,s4.live (s3.live (s2.live (s1.live nA)))⟩;have:=h Wn d hD;rw[ho];simp only[vN];rw[D7];exact this
end
end Go.Mt
namespace Go.Mt
open Go.Conc Go.Tt
open Go.ConcR (KK wgBlock WgAt stA smA rd wr)
structure pF where
 p:bR
 gs:aO->Bool
 fs:aO->Bool
 ty:aM
 Wg:Nat
 N:Nat
 W:List fJ
 D:aE->Prop
 Fin:bC->aE->Prop
 St:Nat->Prop
 W0:aE
 StI:Nat->Prop
 Shun:Loc->Prop
 SS:Nat->Prop
 R0:Pr
 Fz:Nat->Prop
 Wf:aE
 qs:List Nat
def pF.I (d:pF)(Q:Pr->Prop)(chs:List Nat):Pr->cF->aE->Prop:=λR τ W=>yI d.ty d.Wg (IQ d.W0 d.StI d.Shun d.Wg d.SS d.R0 d.Fz d.Wf d.qs chs) R τ W/\Q R
def pF.cx (d:pF)(K:Pr)(Q:Pr->Prop)(chs:List Nat)(base:List dJ)(ds:Dk)(pin:List (Nat×aF)):Cx gS:=
 {p:=d.p,gs:=d.gs,fs:=d.fs,ty:=d.ty,Wg:=d.Wg,A:=By d.N d.W d.D,Fin:=d.Fin,main:=false,base:=base,ds:=ds,K:=K,St:=d.St,I:=d.I Q chs,pin:=pin}
def Up (Q:Pr->Prop):Prop:=∀R R':Pr,R.le R'->Q R->Q R'
structure pF.Ok (d:pF):Prop where
 st:∀a,d.StI a->d.St a
 ss:∀b,b<d.W0.heap.size->d.SS b
 fz:∀b,d.Fz b->d.SS b
 low:d.W0.heap.size<=d.Wg
 fit:vD (PS d.p d.gs) d.fs
theorem pF.sub_eq (d:pF)(K:Pr)(Q:Pr->Prop)(chs:List Nat)(base:List dJ)(ds:Dk)(pin:List (Nat×aF))(m':Fm)(n7:Pr):
 (d.cx K Q chs base ds pin).sub m' n7=d.cx K (λR=>Q R/\n7.le R) chs (fx [] ds m'::base) .nil []:=by
 have e:(λR τ W=>d.I Q chs R τ W/\n7.le R)=d.I (λR=>Q R/\n7.le R) chs:=by
  funext R τ W;exact propext and_assoc
 unfold Cx.sub pF.cx;simp only;rw[e]
def Up.and {Q:Pr->Prop}(h:Up Q)(n7:Pr):Up (λR=>Q R/\n7.le R):=λR R' hl hq=>⟨h R R' hl hq.1,hq.2.trans hl⟩
section
variable {d:pF}{K:Pr}{Q:Pr->Prop}{chs:List Nat}{base:List dJ}{ds:Dk}{pin:List (Nat×aF)}
theorem pF.Ok.iok (H:d.Ok)(hQ:Up Q):fF (d.cx K Q chs base ds pin):=by
 have h0:=zlC (C:={d.cx K Q chs base ds pin with I:=yI d.ty d.Wg (IQ d.W0 d.StI d.Shun d.Wg d.SS d.R0 d.Fz d.Wf d.qs chs)}) rfl H.st H.ss H.fz H.low;exact⟨λR τ W aX h s=>⟨h0.suf R τ W aX h.1 s,h.2⟩,λR τ W R1 W1 h ht hs=>⟨h0.step R τ W R1 W1 h.1 ht hs,hQ R R1 hs.le h.2⟩⟩
structure WS where
 chs:List Nat
 K:Pr
 l:gS
 T:Array aF
 w:aE
def pF.bo (d:pF)(Q:Pr->Prop)(base:List dJ)(s:WS)(f:aO)(kk:List eF)(ret:Bool):Prop:=BO (d.cx s.K Q s.chs base .nil []) s.l ⟨f,s.T,kk,ret⟩ s.w
def CW (d:pF)(B:List Nat)(f:aO)(c:Code)(s:WS)(Φ:nZ->WS->Prop):Prop:=
 ∀(Q:Pr->Prop) (base:List dJ) (kk:List eF),Up Q->(∀id∈B,∃k2,exitTo id kk=some k2)->(∀s',s.K.le s'.K->Φ .normal s'->d.bo Q base s' f kk false)->(∀id k2 s',s.K.le s'.K->exitTo id kk=some k2->Φ (.exit id) s'->d.bo Q base s' f k2 false)->
  (∀s' todo,s.K.le s'.K->Φ .ret s'->d.bo Q base s' f todo true)->d.bo Q base s f (.code c::kk) false
def CR (d:pF)(f:aO)(ops:Array aZ)(is:List Nat)(s:WS)(Φ:WS->Prop):Prop:=
 ∀(Q:Pr->Prop) (base:List dJ) (kk:List eF),Up Q->(∀s',s.K.le s'.K->Φ s'->d.bo Q base s' f kk false)->d.bo Q base s f (.inRegion ops is::kk) false
def wO (K:Pr):K.le K:=λ_ _ x=>x
def wF {K K' zwD:Pr}(h:K.le K')(h':K'.le zwD):K.le zwD:=λ_ _ x=>h' _ _ (h _ _ x)
variable {f:aO}{s:WS}{Φ Ψ:nZ->WS->Prop}{B:List Nat}{c:Code}
def CW.skip (H:d.Ok)(h:Φ .normal s):CW d B f .skip s Φ:=λQ base kk hQ hB h1 h2 h3=>BO.skip (H.iok hQ) (h1 s (wO _) h)
def CW.ret (H:d.Ok)(h:Φ .ret s):CW d B f .ret s Φ:=λQ base kk hQ hB h1 h2 h3=>BO.ret (H.iok hQ) (h3 s _ (wO _) h)
def CW.seq (H:d.Ok){a b:Code}(h:CW d B f a s (λe s'=>match e with| .normal=>CW d B f b s' Φ|e=>Φ e s')):CW d B f (.seq a b) s Φ:=λQ base kk hQ hB h1 h2 h3=>
 BO.seq (H.iok hQ) (h Q base (.code b::kk) hQ (λid hid=>hB id hid) (λs' l x=>x Q base kk hQ hB (λs2 l2=>h1 s2 (wF l l2)) (λid k2 s2 l2=>h2 id k2 s2 (wF l l2)) (λs2 todo l2=>h3 s2 todo (wF l l2)))
  (λid k2 s' l e x=>h2 id k2 s' l e x) (λs' todo l x=>h3 s' todo l x))
def CW.cond (H:d.Ok){x:cN}{a b:Code}{t:Bool}(hx:dP d.fs x=true)(hc:(bJ s.T []).eval x=.bool t)(h:CW d B f (if t then a else b) s Φ):CW d B f (.cond x a b) s Φ:=λQ base kk hQ hB h1 h2 h3=>
 BO.cond (H.iok hQ) hx hc (h Q base kk hQ hB h1 h2 h3)
theorem CW.exit (H:d.Ok){id:Nat}(n8:id∈B)(h:Φ (.exit id) s):CW d B f (.exit id) s Φ:=λQ base kk hQ hB h1 h2 h3=>by
 obtain⟨k2,e⟩:=hB id n8;exact BO.exit (H.iok hQ) e (h2 id k2 s (wO _) e h)
theorem CW.block (H:d.Ok){id:Nat}(h:CW d (id::B) f c s (λe s'=>match e with| .normal=>Φ .normal s'| .exit i=>if i=id then Φ .normal s' else Φ (.exit i) s'|e=>Φ e s')):CW d B f (.block id c) s Φ:=λQ base kk hQ hB h1 h2 h3=>by
 refine BO.block (H.iok hQ) (h Q base (.inBlock id::kk) hQ (λi hi=>?_) (λs' l x=>BO.inBlock (H.iok hQ) (h1 s' l x)) (λi k2 s' l e x=>?_) (λs' todo l x=>h3 s' todo l x))
 .by_cases e:i=id
  .subst e;exact⟨kk,by simp[exitTo]⟩
  .rcases jH.1 hi with hi|hi
   .exact absurd hi e
   .obtain⟨k2,h2⟩:=hB i hi
    exact⟨k2,by simp only[exitTo];rw[if_neg (by simpa using Ne.symm e)];exact h2⟩
 .simp only[exitTo] at e
  by_cases e1:i=id
  .subst e1
   rw[if_pos aP] at e;obtain rfl:=cE e;simp only[if_pos rfl] at x;exact h1 s' l x
  .rw[if_neg (by simpa using Ne.symm e1)] at e
   simp only[if_neg e1] at x;exact h2 i k2 s' l e x
theorem CW.loop (H:d.Ok)(Inv:Nat->WS->Prop)(vK:∀n s,Inv n s->CW d B f c s (λe s'=>match e with| .normal=>∃n',n'<n/\Inv n' s'|e=>Φ e s')){n:Nat}(h0:Inv n s):CW d B f (.loop c) s Φ:=λQ base kk hQ hB h1 h2 h3=>by
 refine BO.loop (H.iok hQ) ?_;have key:∀n s2,s.K.le s2.K->Inv n s2->d.bo Q base s2 f (.code c:: .inLoop c::kk) false:=by
  intro n
  induction n using Nat.strongRecOn with
  |ind n ih=>
   intro s2 hl hi;refine vK n s2 hi Q base (.inLoop c::kk) hQ (λid hid=>hB id hid) (λs' l x=>?_) (λid k2 s' l e x=>h2 id k2 s' (wF hl l) e x) (λs' todo l x=>h3 s' todo (wF hl l) x);obtain⟨n',aN,gT⟩:=x;exact BO.inLoop (H.iok hQ) (ih n' aN s' (wF hl l) gT)
 exact key n s (wO _) h0
def CW.piece (H:d.Ok)(hc:oC d.p ⟨d.fs,d.gs,true⟩ c=true)(hf:vR d.p f)(rI:∀T,Code.wp d.p c (λe a' w'=>e=.normal/\Φ .normal {s with T:=a'.tmps,w:=w'}) ⟨s.T,[]⟩ (Tt.tp s.w T 0)):CW d B f c s Φ:=λQ base kk hQ hB h1 h2 h3=>
 BO.piece H.fit (H.iok hQ) hc hf (zFI c hc) λT=>Code.wp_mono (λe a' w' h=>⟨h.1,h1 {s with T:=a'.tmps,w:=w'} (wO _) h.2⟩) (rI T)
def CW.reg (H:d.Ok){id:Nat}{ops:Array aZ}(is:List Nat)(hr:gN ops.size=is)(h:CR d f ops is s (λs'=>Φ .normal s')):CW d B f (.region id ops false) s Φ:=λQ base kk hQ hB h1 h2 h3=>
 BO.regs (H.iok hQ) is hr (h Q base kk hQ (λs' l x=>h1 s' l x))
section
variable {ops:Array aZ}{i:Nat}{rest is:List Nat}{Φ:WS->Prop}{o:aZ}
def CR.nil (H:d.Ok)(h:Φ s):CR d f ops [] s Φ:=λQ base kk hQ h1=>BO.regEnd (H.iok hQ) (h1 s (wO _) h)
theorem CR.op (H:d.Ok)(ho:ops[i]? =some o)(cD:dD o (dR ops s.T)=true)(bV:rL d.p ⟨d.fs,d.gs,true⟩ o.op=true)
 (hx:∀T,∃v w',((aS (bJ s.T []).eval o).run d.p (Tt.tp s.w T 0)=.ok (.value v) w'\/((aS (bJ s.T []).eval o).run d.p (Tt.tp s.w T 0)=.ok .skip w'/\v=aA))/\CR d f ops rest {s with T:=(cC ⟨s.T,[]⟩ o.dst v).tmps,w:=w'} Φ):CR d f ops (i::rest) s Φ:=λQ base kk hQ h1=>
 BO.op H.fit (H.iok hQ) ho cD bV (λ_ _=>l8) λT=>by
  obtain⟨v,w',e,h⟩:=hx T;exact⟨v,w',e,h Q base kk hQ h1⟩
structure CF (d:pF)(g:aO)(args:Array aF)(K:Pr)(l:gS)(w:aE)(Ψ:Pr->gS->aF->aE->Prop):Prop where
 ex:∃fnf cf,d.p.funcs[g]? =some fnf/\(fnf.name== "runtime.NumGoroutine")=false/\fnf.body=some cf/\Du fnf.results.toList/\
  CW d [] g cf ⟨[],K,l,args++nL (fnf.ntmps-args.size) aA,w⟩ (λe s'=>(e=.normal\/e=.ret)/\s'.chs=[]/\∃v,(oN fnf.results.toList s'.T).run d.p s'.w=.ok v s'.w/\Ψ s'.K s'.l v s'.w)
theorem CR.call (H:d.Ok){g:aO}{args:Array cN}{kT:Array aM}{Ψ:Pr->gS->aF->aE->Prop}(ho:ops[i]? =some o)(cD:dD o (dR ops s.T)=true)(hop:o.op=.call ⟨.value (.func g),args,kT⟩)(tD:args.all (dP d.fs)=true)(tN:s.chs=[])
 (hc:CF d g (args.map (bJ s.T []).eval) s.K s.l s.w Ψ) (hk:∀K' l' v w',s.K.le K'->Ψ K' l' v w'->CR d f ops rest ⟨[],K',l',(cC ⟨s.T,[]⟩ o.dst v).tmps,w'⟩ Φ):CR d f ops (i::rest) s Φ:=λQ base kk hQ h1=>by
 obtain⟨chs,K,l,T,w⟩:=s;simp only at*;subst tN;obtain⟨fnf,cf,g1,g2,g3,g4,g5⟩:=hc.ex;refine BO.callN (H.iok hQ) ho cD hop (Callee.static _ _) tD g1 g2 g3 g4 λn7 m' hm=>?_;rw[pF.sub_eq];have fin:∀(s':WS) todo,K.le s'.K->(s'.chs=[]/\∃v,(oN fnf.results.toList s'.T).run d.p s'.w=.ok v s'.w/\Ψ s'.K s'.l v s'.w)->d.bo (λR=>Q R/\n7.le R) (fx [] .nil m'::base) s' g todo true:=λs' todo hl ⟨h2,v,h3,h4⟩=>by
  obtain⟨zIZ,K',l',T',w'⟩:=s';simp only at*;subst h2;unfold pF.bo;simp only;rw[<-pF.sub_eq];refine BO.retN (C:=d.cx K' Q [] base .nil []) (H.iok hQ) (hm.upK hl _) rfl rfl (λ_ _=>l8) g1 h3 ?_;have:=hk K' l' v w' hl h4 Q base kk hQ (λs' l2 x=>h1 s' (wF hl l2) x);unfold pF.bo at this;simp only[Fm.fin,ho,vN]
  cases hd:o.dst with
  |none=>rw[hd] at this;exact this
  |some s=>rw[hd] at this;exact this
 have e:(#[]:Array aF)++args.map (bJ T []).eval++ #[]=args.map (bJ T []).eval:=aP;rw[e];refine g5 (λR=>Q R/\n7.le R) (fx [] .nil m'::base) [] (hQ.and n7) (λ_ h=>by cases h) (λs' hl x=>BO.fall (H.iok (hQ.and n7)) (fin s' [] hl x.2)) (λid k2 s' hl ee x=>by cases ee) (λs' todo hl x=>fin s' todo hl x.2)
variable {e:aM}{dir:Mm}{ie:wY}
theorem CR.make (H:d.Ok){t:aM}(ho:ops[i]? =some o)(cD:dD o (dR ops s.T)=true)(hop:o.op=.makeChan t (.const (.int .i64 0)))(zdz:d.p.underlying t=some (.chan dir e))(jY:d.p.info? e=some ie)(tN:s.chs=[])
 (h:∀c,CR d f ops rest ⟨[c],s.K.add s.w.heap.size c,s.l,(cC ⟨s.T,[]⟩ o.dst (.chan (some s.w.heap.size))).tmps,s.w.alloc oR⟩ Φ):CR d f ops (i::rest) s Φ:=λQ base kk hQ h1=>by
 obtain⟨chs,K,l,T,w⟩:=s;simp only at*;subst tN;refine BO.makeK (H.iok hQ) ho cD hop zdz jY (λ_ _=>l8) (I':=λc=>d.I Q [c]) (λR τ W hi ht aN=>?_) λc=>h c Q base kk hQ (λs' l2 x=>h1 s' (wF (Pr.le_add _ _ _) l2) x);obtain⟨⟨hi,hl⟩,hq⟩:=hi;refine⟨⟨zqu hi aN,?_⟩,hq⟩;obtain⟨st,sm,hx⟩:=hl;have lK:=hx;exact⟨st,sm,(Fb (dQ.1 lK).1).trans lK⟩
variable {x:cN}
theorem CR.ask (H:d.Ok){ans:Int}{y:cN}{k q g a ga:Nat}{kd cl:Int}(ho:ops[i]? =some o)(cD:dD o (dR ops s.T)=true)(hop:o.op=.send x y)(rW:dP d.fs x=true)(Dl:dP d.fs y=true)(hl:s.l=.wk d.qs k)(hW:d.W[k]? =some (.ask q kd cl ans))(tN:s.chs=[a])
 (hx:(bJ s.T []).eval x=.chan (some g)) (hg:s.K g (qa d.qs q)) (hy:(bJ s.T []).eval y=.agg #[.int .i64 kd,.int .i64 cl,.chan (some ga)]) (ha:s.K ga a)
 (h:CR d f ops rest ⟨[],s.K,.wr d.qs k a,(cC ⟨s.T,[]⟩ o.dst aA).tmps,s.w⟩ Φ):CR d f ops (i::rest) s Φ:=λQ base kk hQ h1=>by
 obtain⟨chs,K,l,T,w⟩:=s;simp only at*;subst tN hl;refine BO.sendP (C:=d.cx K Q [a] base .nil []) rfl (H.iok hQ) ho cD hop rW hx hg Dl (λ_ _=>l8) (c:=qa d.qs q) (okv:=λv=>∃a,v=Mh kd cl a) (pub:=O9) (nx:=Ww d.qs k) (ps:=[a]) (I':=d.I Q []) ?_ (λR W v' hw hv=>?_) (λR τ W hi=>?_) (h Q base kk hQ h1)
 .show eN d.N d.W (.wk d.qs k)=_
  simp only[eN,hW]
 .rw[hy] at hv
  obtain rfl:v'=Mh kd cl a:=by
   cases hv with
   |agg e1 e2=>
    rename_i bX;obtain⟨l'⟩:=bX
    match l',e1 with
    |[v0,v1,v2],_=>
     have h0:=e2 0 _ v0 rfl rfl;have h1:=e2 1 _ v1 rfl rfl;have h2:=e2 2 _ v2 rfl rfl;have h3:=V5 hw ha h2;cases h0;cases h1;subst h3;rfl
  exact⟨⟨a,rfl⟩,rfl,rfl⟩
 .obtain⟨⟨hi,hl⟩,hq⟩:=hi
  obtain⟨k1,k2⟩:=iq_cut hi;exact⟨k1,⟨k2,hl⟩,hq⟩
theorem CR.ans (H:d.Ok){ans:Int}{ct:aM}{k q a ga:Nat}{kd cl:Int}(ho:ops[i]? =some o)(cD:dD o (dR ops s.T)=true)(hop:o.op=.recv ct x false)(Ep:d.p.underlying ct=some (.chan dir e))(jY:d.p.info? e=some ie)(hz:ie.zero=some (.int .i64 0))
 (rW:dP d.fs x=true) (hl:s.l=.wr d.qs k a) (hW:d.W[k]? =some (.ask q kd cl ans)) (tN:s.chs=[]) (hx:(bJ s.T []).eval x=.chan (some ga)) (ha:s.K ga a)
 (h:CR d f ops rest ⟨[],s.K,.wk d.qs (k+1),(cC ⟨s.T,[]⟩ o.dst (.int .i64 ans)).tmps,s.w⟩ Φ):CR d f ops (i::rest) s Φ:=λQ base kk hQ h1=>by
 obtain⟨chs,K,l,T,w⟩:=s;simp only at*;subst tN hl;refine BO.recv (C:=d.cx K Q [] base .nil []) rfl (H.iok hQ) ho cD hop Ep jY hz (λ_=>.int _ _) rW hx ha (λ_ _=>l8) (okv:=Z2 d.W k) (nx:=λ_=>.wk d.qs (k+1)) (sh:=.oD) rfl (λv hv=>?_) (λhc=>hc.elim);unfold Z2 at hv;rw[hW] at hv;simp only at hv;subst hv;exact⟨.int .i64 ans,λ_=>.int _ _,h Q base kk hQ h1⟩
theorem CR.shut (H:d.Ok){tx:Tmp}{kT:Array aM}{k q g:Nat}{fnf:Func}(ho:ops[i]? =some o)(cD:dD o (dR ops s.T)=true)(hop:o.op=.call {callee:=.builtin .close,args:=#[.tmp tx],argTypes:=kT})(hf:d.p.funcs[f]? =some fnf)(Cb:fnf.norace=false)
 (hl:s.l=.wk d.qs k) (hW:d.W[k]? =some (.shut q)) (hq:q<d.qs.length) (tN:s.chs=[]) (hx:(bJ s.T []).eval (.tmp tx)=.chan (some g)) (hg:s.K g (qa d.qs q))
 (h:CR d f ops rest ⟨[],s.K,.wk d.qs (k+1),(cC ⟨s.T,[]⟩ o.dst (.tuple #[])).tmps,s.w⟩ Φ):CR d f ops (i::rest) s Φ:=λQ base kk hQ h1=>by
 obtain⟨chs,K,l,T,w⟩:=s;simp only at*;subst tN hl;have hm:qa d.qs q∈d.qs:=by
  unfold qa;rw[Jx,lV hq];exact zvU hq
 refine BO.close (C:=d.cx K Q [] base .nil []) rfl (H.iok hQ) ho cD hop hx hg (λ_ _=>l8) (c:=qa d.qs q) (nx:=.wk d.qs (k+1)) ?_ hf Cb (λR τ W hi=>?_) (h Q base kk hQ h1)
 .show eN d.N d.W (.wk d.qs k)=_
  simp only[eN,hW]
 .obtain⟨⟨hi,hl⟩,Qo⟩:=hi
  obtain⟨p1,p2,p3,p4,p5⟩:=hi.pass _ hm;refine⟨p1,p2,p3,λs r=>⟨⟨zBF hi hm s r H.ss H.fz,?_⟩,Qo⟩⟩;obtain⟨st,sm,hx⟩:=hl;have lK:=hx;refine⟨st,sm,?_⟩;show(W.setChan _ _ _ _ _ _ _).heap[d.Wg]? =_;simp only[Le,jP p5];exact lK
end
end
section
variable {L:Type}{C:Cx L}{l:L}
theorem BO.draw (hI:fF C){fn:aO}{tmps:Array aF}{k:List eF}{w:aE}{id:Nat}{ops:Array aZ}(h:∀n,BO C l ⟨fn,tmps,.inRegion ops (Tr (C.p.follows .mixedOrders) ops n)::k,false⟩ w):BO C l ⟨fn,tmps,.code (.region id ops true)::k,false⟩ w:=by
 intro R W m' τ hw hm ht hi;obtain⟨fn',bQ,yJ,yB⟩:=m';obtain rfl:=hm.fn;obtain rfl:=hm.todo;obtain rfl:=hm.ret;rw[mH];refine Cx.ownQ rfl λaX s=>?_;have dI:C.Rel R w aX:=Cx.Rel.suf (C:=C) hw ht s;have yU:=hI.suf _ _ _ _ hi s;have aY:=stepG_region_draw (P:=C.p) (main:=C.main) (b:=C.ds.base fn) (a:=⟨bQ,C.ds.ds⟩) (k:=k) (cs:=C.base) (w:=aX) (id:=id) (ops:=ops);refine⟨_,{aX with drawn:=aX.drawn+1},_,aY,rfl,⟨rfl,rfl,rfl,aV _,λb _ _=>rfl⟩,λe he=>by simp at he,?_⟩;rw[<-mH];refine h _ R _ ⟨fn,bQ,_,false⟩ _ ⟨dI.inj,dI.inj',dI.lt,dI.low,dI.gle,dI.cont,dI.rest,dI.st,dI.np,dI.tb⟩ ⟨rfl,rfl,rfl,hm.tmps,hm.pins⟩ (λa b x=>⟨(ht a b x).1,λz=>.inl ((ht a b x).2 z)⟩) ?_;exact hI.step R τ aX R _ yU ht ⟨λ_ _ x=>x,rfl,rfl,rfl,aV _,λa b x=>.inl x,λb _ _=>rfl⟩
end
def dep (ops:Array aZ)(i j:Nat):Bool:=match ops[i]? with|some o=>o.after.any λe=>Fo .any e&&e.on==j|none=>false
def linked (ops:Array aZ):List Nat->Bool
 |a::b::l=>dep ops b a&&linked ops (b::l)
 |_=>true
def Tq (ops:Array aZ):Nat->Nat->Nat->Bool
 |0,_,_=>false
 |n+1,i,j=>dep ops i j||(gN ops.size).any λm=>dep ops i m&&Tq ops n m j
def Ng (ops:Array aZ)(ch:List Nat):Bool:=linked ops ch&&decide ch.Nodup&&(match ch.getLast? with|some z=>(gN ops.size).all λj=>j==z||Tq ops ops.size z j|none=>false)
variable {ops:Array aZ}{i:Nat}
theorem zl2 {j:Nat}(h:dep ops i j=true):∃o,ops[i]? =some o/\∃e∈o.after,Fo .any e=true/\e.on=j:=by
 unfold dep at h;split at h
 .next o ho=>
  rw[Array.any_eq_true] at h;obtain⟨x,hx,h3⟩:=h;simp only[fT,beq_iff_eq] at h3;exact⟨o,ho,_,Array.getElem_mem hx,h3.1,h3.2⟩
 .cases h
theorem zpk :∀{ch:List Nat},linked ops ch=true->∀(j a b:Nat),ch[j]? =some a->ch[j+1]? =some b->dep ops b a=true
 |[],_,j,a,b,h1,_=>by simp at h1
 |[x],_,j,a,b,_,h2=>by simp at h2
 |x::y::l,h,0,a,b,h1,h2=>by
  simp at h1 h2;subst h1 h2;unfold linked at h;simp only[fT] at h;exact h.1
 |x::y::l,h,j+1,a,b,h1,h2=>by
  unfold linked at h;simp only[fT] at h;exact zpk h.2 j a b Ua Sg
def Closed (ops:Array aZ)(bO:Array Bool):Prop:=∀(i:Nat) (o:aZ),ops[i]? =some o->bO.getD i false=true->∀e∈o.after,Fo .any e=true->bO.getD e.on false=true
variable {bO:Array Bool}
theorem zHa (hc:Closed ops bO):∀(n i j:Nat),Tq ops n i j=true->bO.getD i false=true->bO.getD j false=true:=by
 intro n
 induction n with
 |zero=>intro i j h _;cases h
 |succ n ih=>
  intro i j h hl;unfold Tq at h;simp only[Er,List.any_eq_true,fT] at h;rcases h with h|⟨m,_,h1,h2⟩
  .obtain⟨o,ho,e,he,hb,rfl⟩:=zl2 h
   exact hc i o ho hl e he hb
  .obtain⟨o,ho,e,he,hb,rfl⟩:=zl2 h1
   exact ih _ j h2 (hc i o ho hl e he hb)
variable {ch:List Nat}
theorem zCK {m:Nat}(h:ch.idxOf? i=some m):ch[m]? =some i/\m<ch.length:=by
 unfold zmI at h;obtain⟨h1,h2,_⟩:=zmA.1 h;rw[beq_iff_eq] at h2;exact⟨by rw[lV h1,h2],h1⟩
theorem zIa (h:i∉ch):ch.idxOf? i=none:=by
 unfold zmI;rw[List.findIdx?_eq_none_iff];intro x hx;simp only[beq_eq_false_iff_ne];exact λe=>h (e▸hx)
theorem znt (hn:ch.Nodup){m:Nat}(h:ch[m]? =some i):ch.idxOf? i=some m:=by
 unfold zmI;obtain⟨h1,h2⟩:=jX.1 h;rw[zmA];refine⟨h1,by rw[h2];simp,λj hj=>?_⟩;simp only[Bool.not_eq_true,beq_eq_false_iff_ne];intro e;have:=(List.getElem_inj hn).1 (e.trans h2.symm);omega
def VV (ch:List Nat)(V0:Nat->aF)(vs:List aF)(i:Nat):Value:=match ch.idxOf? i with|some j=>vs.getD j aA|none=>V0 i
variable {t0:Array aF}
theorem rV.congr {vals Vn:Nat->aF}{t:Array aF}(h:rV ops vals t0 bO t)(hv:∀i,bO.getD i false=true->vals i=Vn i):rV ops Vn t0 bO t:=
 ⟨h.size,λi o d h1 h2 h3 h4=>by rw[<-hv i h4];exact h.got i o d h1 h2 h3 h4,h.old⟩
variable {σ:Type}{P:bR}{V0:Nat->aF}
theorem drawnGo {J:σ->List Nat->Array aF->aE->Prop}{S:List aF->σ->aE->Prop}(KO:Mb ops)(tN:Ng ops ch=true)(n8:∀c∈ch,¬c<ops.size->False)
 (hop:∀vs s i o rest t w v,S vs s w->ops[i]? =some o->i∉ch->dD o (dR ops t)=true->(∀T,(aS (bJ t []).eval o).run P (Tt.tp w T 0)=.ok (.value v) (Tt.tp w T 0))->(∀T,J s rest (cC ⟨t,[]⟩ o.dst v).tmps (Tt.tp w T 0))->J s (i::rest) t w)
 (hT:∀vs s w T e,S vs s w->S vs s (Tt.tp w T e))
 (hR:∀(i:Nat) (o:aZ),ops[i]? =some o->i∉ch->∀vs s w,vs.length<ch.length->S vs s w->dD o (dR ops (dC ops (VV ch V0 vs) t0))=true/\(aS (bJ (dC ops (VV ch V0 vs) t0) []).eval o).run P w=.ok (.value (V0 i)) w)
 (hC:∀(vs:List aF) (c:Nat) (o:aZ) s w,ch[vs.length]? =some c->ops[c]? =some o->S vs s w->∀(t:Array aF) (rest:List Nat),(∀s∈o.looksAt ops,t[s]? =(dC ops (VV ch V0 vs) t0)[s]?)->
  (∀v s' w',S (vs++[v]) s' w'->J s' rest (cC ⟨t,[]⟩ o.dst v).tmps w')->J s (c::rest) t w)
 (hk:∀vs s w,vs.length=ch.length->S vs s w->J s [] (dC ops (VV ch V0 vs) t0) w):
 ∀(fuel q:Nat) (bO:Array Bool) (t:Array aF) (vs:List aF) (s:σ) (w:aE),bO.size=ops.size->((gN ops.size).filter λi=>!bO.getD i false).length<=fuel->rV ops (VV ch V0 vs) t0 bO t->Closed ops bO->
  (∀j c,ch[j]? =some c->(bO.getD c false=true↔j<vs.length))->vs.length<=ch.length->S vs s w->J s (zfU .any ops fuel q bO []) t w:=by
 have zl3:=tN;unfold Ng at zl3;simp only[fT,decide_eq_true_eq] at zl3;obtain⟨⟨yX,lH⟩,Ct⟩:=zl3;have fin:∀(bO:Array Bool) (t:Array aF) (vs:List aF) (s:σ) (w:aE),bO.size=ops.size->(∀i,i<ops.size->bO.getD i false=true)->rV ops (VV ch V0 vs) t0 bO t->(∀j c,ch[j]? =some c->(bO.getD c false=true↔j<vs.length))->vs.length<=ch.length->S vs s w->(∀c∈ch,c<ops.size)->J s [] t w:=by
  intro bO t vs s w hz sX hm hl hle hw fV;have e:bO=nL ops.size true:=by
   apply Array.ext_getElem?;intro j;by_cases hj:j<ops.size
   .have:=sX j hj
    have tY:j<bO.size:=aC;simp[tY] at this;simp[hj,tY,this]
   .rw[Hj aC,Hj qR]
  have uB:vs.length=ch.length:=by
   rcases mY vs.length ch.length with h|h
   .have h1:ch[vs.length]? =some ch[vs.length]:=lV h
    have:=(hl _ _ h1).1 (sX _ (fV _ (zvU h)));omega
   .omega
  subst e;have e2:=hm.unique (Sm (vals:=VV ch V0 vs) (t0:=t0) KO);subst e2;exact hk vs s w uB hw
 have fV:∀c∈ch,c<ops.size:=by
  intro c hc
  cases hg:ch.getLast? with
  |none=>rw[hg] at Ct;cases Ct
  |some z=>
   by_cases aN:c<ops.size
   .exact aN
   .exfalso
    exact n8 c hc aN
 intro fuel
 induction fuel with
 |zero=>
  intro q bO t vs s w hz hc hm mG hl hle hw;simp only[zfU,List.reverse_nil];refine fin bO t vs s w hz (λi hi=>?_) hm hl hle hw fV
  cases hl:bO.getD i false with
  |true=>rfl
  |false=>
   have:i∈(gN ops.size).filter λi=>!bO.getD i false:=Ia.2 ⟨Bh.2 hi,by rw[hl];rfl⟩;have:=List.length_pos_of_mem this;omega
 |succ fuel ih=>
  intro q bO t vs s w hz hc hm mG hl hle hw;simp only[zfU];change J s (match(Gx .any ops bO)[q%(Gx .any ops bO).length]? with
   |some i=>zfU .any ops fuel (q/(Gx .any ops bO).length) (bO.setIfInBounds i true) [i]
   |none=>[].reverse) t w
  cases hi:(Gx .any ops bO)[q%(Gx .any ops bO).length]? with
  |none=>
   have Xk:Gx .any ops bO=[]:=by
    cases hr:Gx .any ops bO with
    |nil=>rfl
    |cons x xs=>
     rw[hr] at hi;have aN:q%(x::xs).length<(x::xs).length:=Nat.mod_lt _ aP;simp at hi;simp at aN;omega
   exact fin bO t vs s w hz (zt7 KO hz Xk) hm hl hle hw fV
  |some i=>
   simp only[];rw[linearise_go_acc,List.reverse_singleton,List.singleton_append];obtain⟨hu,o,ho,tZ⟩:=mem_ready.1 (dX hi);have Be:i<ops.size:=(dQ.1 ho).1;have lY:=hm.sees KO (Sm (vals:=VV ch V0 vs) (t0:=t0) KO) ho tZ;have K7:∀j,(bO.setIfInBounds i true).getD j false=if j=i then true else bO.getD j false:=by
    intro j;by_cases e:j=i
    .subst e;have:j<bO.size:=aC
     simp[this]
    .rw[if_neg e];exact getD_set_ne false (Ne.symm e)
   have oU:bO.getD i false=false:=by
    have:i<bO.size:=aC;simp[this] at hu⊢;exact hu
   have zup:Closed ops (bO.setIfInBounds i true):=by
    intro j oj hj tY e he hb;rw[K7] at tY⊢;split
    .rfl
    .split at tY
     .next e1=>subst e1;rw[ho] at hj;obtain rfl:=cE hj;exact tZ e he hb
     .exact mG j oj hj tY e he hb
   have Wi:((gN ops.size).filter λj=>!(bO.setIfInBounds i true).getD j false).length<=fuel:=by
    have aN:((gN ops.size).filter λj=>!(bO.setIfInBounds i true).getD j false).length<((gN ops.size).filter λj=>!bO.getD j false).length:=by
     have e:((gN ops.size).filter λj=>!(bO.setIfInBounds i true).getD j false)=((gN ops.size).filter λj=>!bO.getD j false).filter (λj=>j !=i):=by
      rw[List.filter_filter];apply List.filter_congr;intro j hj;rw[K7];by_cases e:j=i
      .simp[e]
      .simp[e]
     rw[e];exact List.length_filter_lt_length_iff_exists.2 ⟨i,Ia.2 ⟨Bh.2 Be,by rw[oU];rfl⟩,aP⟩
    omega
   by_cases yO:i∈ch
   .
    obtain⟨j,hj⟩:=List.mem_iff_getElem?.1 yO;have zKI:=(jX.1 hj).1;have zzT:j=vs.length:=by
     have h1:¬j<vs.length:=λh=>by have:=(hl j i hj).2 h;rw[oU] at this;cases this
     rcases mY vs.length j with h|h
     .exfalso
      obtain⟨b,hb⟩:∃b,ch[j-1]? =some b:=⟨ch[j-1]' aC,lV aC⟩;have hd:=zpk yX (j-1) b i hb (by rw[Nat.sub_add_cancel aC];exact hj);obtain⟨o',vG,e,he,zaG,rfl⟩:=zl2 hd;rw[ho] at vG;obtain rfl:=cE vG;have:=(hl (j-1) _ hb).1 (tZ e he zaG);omega
     .omega
    subst zzT;have qF:∀v i',i'≠i->VV ch V0 (vs++[v]) i'=VV ch V0 vs i'\/bO.getD i' false=false:=by
     intro v i' aT;unfold VV
     cases hx:ch.idxOf? i' with
     |none=>exact .inl rfl
     |some m=>
      simp only;obtain⟨zhh,Hb⟩:=zCK hx;rcases zsh m vs.length with h|h|h
      .left;simp[Jx,zI h]
      .subst h;rw[hj] at zhh;exact absurd (cE zhh).symm aT
      .right
       cases Fl:bO.getD i' false with
       |false=>rfl
       |true=>have:=(hl m i' zhh).1 Fl;omega
    have ziP:∀v,VV ch V0 (vs++[v]) i=v:=by
     intro v;unfold VV;rw[znt lH hj];simp[Jx]
    refine hC vs i o s w hj ho hw t _ lY λv s' w' Pk=>?_;have Hb:rV ops (VV ch V0 (vs++[v])) t0 bO t:=hm.congr λi' gT=>by
     rcases qF v i' (λe=>by subst e;rw[oU] at gT;cases gT) with h|h
     .exact h.symm
     .rw[h] at gT;cases gT
    have Wu:=Hb.step KO ho hz hu;have:=ih (q/(Gx .any ops bO).length) (bO.setIfInBounds i true) _ (vs++[v]) s' w' (by simp[hz]) Wi Wu zup (λj c N7=>?_) qR Pk
    .rw[ziP] at this
     cases hd:o.dst with
     |none=>rw[hd] at this;exact this
     |some s=>rw[hd] at this;exact this
    .rw[K7]
     by_cases e:c=i
     .subst e
      rw[if_pos rfl];have:j=vs.length:=by
       have h1:=znt lH N7;have h2:=znt lH hj;rw[h1] at h2;exact cE h2
      subst this;simp
     .rw[if_neg e,hl j c N7]
      simp;constructor
      .intro h;omega
      .intro h
       rcases mY j vs.length with h2|h2
       .exact h2
       .have:j=vs.length:=aC
        subst this;rw[hj] at N7;exact absurd (cE N7).symm e
   .
    have zqy:=hR i o ho yO;have aN:vs.length<ch.length:=by
     rcases mY vs.length ch.length with h|h
     .exact h
     .exfalso
      cases hg:ch.getLast? with
      |none=>rw[hg] at Ct;cases Ct
      |some z=>
       rw[hg] at Ct;have zpF:ch[ch.length-1]? =some z:=by rw[<-List.getLast?_eq_getElem?];exact hg
       have Bs:0<ch.length:=by
        cases ch with
        |nil=>cases hg
        |cons _ _=>simp
       have zJf:=(hl _ z zpF).2 aC;have:=(tU.1 Ct) i (Bh.2 Be);simp only[Er,beq_iff_eq] at this;rcases this with rfl|this
       .exact yO (dX zpF)
       .have:=zHa mG _ _ _ this zJf
        rw[oU] at this;cases this
    obtain⟨h1,h2⟩:=zqy vs s w aN hw;have fB:dD o (dR ops t)=true:=(Zt lY).trans h1;refine hop vs s i o _ t w (V0 i) hw ho yO fB (λT=>?_) λT=>?_
    .rw[D9 (KO.sel i o ho) lY]
     exact(zqy vs s _ aN (hT _ _ _ T 0 hw)).2
    .have Wu:=hm.step KO ho hz hu
     have ziP:VV ch V0 vs i=V0 i:=by
      unfold VV;rw[zIa yO]
     rw[ziP] at Wu;have:=ih (q/(Gx .any ops bO).length) (bO.setIfInBounds i true) _ vs s (Tt.tp w T 0) (by simp[hz]) Wi Wu zup (λj c N7=>?_) hle (hT _ _ _ T 0 hw)
     .cases hd:o.dst with
      |none=>rw[hd] at this;exact this
      |some s=>rw[hd] at this;exact this
     .have aT:c≠i:=λe=>yO (e▸dX N7)
      rw[K7,if_neg aT];exact hl j c N7
theorem zvF {J:σ->List Nat->Array aF->aE->Prop}{S:List aF->σ->aE->Prop}(bV:Iq ops=true)(tN:Ng ops ch=true)(n8:ch.all (λc=>decide (c<ops.size))=true)
 (hop:∀vs s i o rest t w v,S vs s w->ops[i]? =some o->i∉ch->dD o (dR ops t)=true->(∀T,(aS (bJ t []).eval o).run P (Tt.tp w T 0)=.ok (.value v) (Tt.tp w T 0))->(∀T,J s rest (cC ⟨t,[]⟩ o.dst v).tmps (Tt.tp w T 0))->J s (i::rest) t w)
 (hT:∀vs s w T e,S vs s w->S vs s (Tt.tp w T e))
 (hR:∀(i:Nat) (o:aZ),ops[i]? =some o->i∉ch->∀vs s w,vs.length<ch.length->S vs s w->dD o (dR ops (dC ops (VV ch V0 vs) t0))=true/\(aS (bJ (dC ops (VV ch V0 vs) t0) []).eval o).run P w=.ok (.value (V0 i)) w)
 (hC:∀(vs:List aF) (c:Nat) (o:aZ) s w,ch[vs.length]? =some c->ops[c]? =some o->S vs s w->∀(t:Array aF) (rest:List Nat),(∀s∈o.looksAt ops,t[s]? =(dC ops (VV ch V0 vs) t0)[s]?)->
  (∀v s' w',S (vs++[v]) s' w'->J s' rest (cC ⟨t,[]⟩ o.dst v).tmps w')->J s (c::rest) t w)
 (hk:∀vs s w,vs.length=ch.length->S vs s w->J s [] (dC ops (VV ch V0 vs) t0) w) {s:σ} {w:aE} (h0:S [] s w) (n:Nat):J s (Tr true ops n) t0 w:=by
 simp only[Tr,Bool.true_or,if_true];refine drawnGo (Tn bV) tN (λc hc aN=>?_) hop hT hR hC hk ops.size n _ t0 [] s w aP (eM (List.length_filter_le _ _) aP) (rV.start _ λi=>?_) (λi o hi hl=>?_) (λj c hj=>?_) (jO _) h0
 .have:=tU.1 n8 c hc
  simp at this;exact aN this
 .by_cases hi:i<ops.size<;>simp[hi]
 .by_cases hi:i<ops.size<;>simp[hi] at hl
 .by_cases hi:c<ops.size<;>simp[hi]
section
variable {d:pF}{f:aO}
variable {Φ:nZ->WS->Prop}
theorem CW.drawn (H:d.Ok)(zm1:d.p.follows .mixedOrders=true){B:List Nat}{id:Nat}{t0:Array aF}{ops:Array aZ}(ch:List Nat)(V0:Nat->aF)(S:List aF->Pr->gS->aE->Prop)(bV:Iq ops=true)(tN:Ng ops ch=true)(n8:ch.all (λc=>decide (c<ops.size))=true)
 (hT:∀vs K l w T e,S vs K l w->S vs K l (Tt.tp w T e))
 (hR:∀(i:Nat) (o:aZ),ops[i]? =some o->i∉ch->rL d.p ⟨d.fs,d.gs,true⟩ o.op=true/\∀vs K l w,vs.length<ch.length->S vs K l w->dD o (dR ops (dC ops (VV ch V0 vs) t0))=true/\(aS (bJ (dC ops (VV ch V0 vs) t0) []).eval o).run d.p w=.ok (.value (V0 i)) w)
 (hC:∀(vs:List aF) (c:Nat) (o:aZ) K l w,ch[vs.length]? =some c->ops[c]? =some o->S vs K l w->∀(t:Array aF) (rest:List Nat),(∀s∈o.looksAt ops,t[s]? =(dC ops (VV ch V0 vs) t0)[s]?)->
  (∀v K' l' w',K.le K'->S (vs++[v]) K' l' w'->CR d f ops rest ⟨[],K',l',(cC ⟨t,[]⟩ o.dst v).tmps,w'⟩ (Φ .normal))->CR d f ops (c::rest) ⟨[],K,l,t,w⟩ (Φ .normal))
 (hk:∀vs K l w,vs.length=ch.length->S vs K l w->Φ .normal ⟨[],K,l,dC ops (VV ch V0 vs) t0,w⟩) {K:Pr} {l:gS} {w:aE} (h0:S [] K l w):CW d B f (.region id ops true) ⟨[],K,l,t0,w⟩ Φ:=λQ base kk hQ hB h1 h2 h3=>by
 refine BO.draw (H.iok hQ) λn=>?_
 have:=zvF (σ:=Pr×gS) (P:=d.p) (J:=λs is t w=>CR d f ops is ⟨[],s.1,s.2,t,w⟩ (Φ .normal)) (S:=λvs s w=>S vs s.1 s.2 w) bV tN n8
  (λvs s i o rest t w v hS ho yO hw hx hJ=>CR.op H ho hw (hR i o ho yO).1 λT=>⟨v,_,.inl (hx T),hJ T⟩) (λvs s=>hT vs s.1 s.2) (λi o ho yO vs s=>(hR i o ho yO).2 vs s.1 s.2)
  (λvs c o s w hj ho h t rest hs cO=>hC vs c o s.1 s.2 w hj ho h t rest hs λv K' l' w' _=>cO v (K',l') w') (λvs s w hl h=>CR.nil H (hk vs s.1 s.2 w hl h)) (s:=(K,l)) h0 n Q base kk hQ λs' l x=>h1 s' l x
 rw[<-zm1] at this;exact this
end
structure OvFn (p:bR)(f:aO)(t tr e:aM)(size:Nat):Prop where
 fn:∃fn,p.funcs[f]? =some fn/\(fn.name== "runtime.NumGoroutine")=false/\fn.body.isNone=true/\zq4 fn=none/\zoG fn=some (zkg #[t,t] #[tr])
 un:p.underlying t=some (.slice e)
 inf:∃i,p.info? e=some i/\i.size=size
variable {i:wY}
theorem zEr (w:aE)(tS tR e:aM)(ht:P.underlying tS=some (.slice e))(hi:P.info? e=some i)
 (a b:bL) (la ca lb cb:Nat) (aT:a.block≠b.block) (tA tB:aM) (kA kB:Nat)
 (H6:w.shape? a.block=some (tA,kA)) (Db:w.shape? b.block=some (tB,kB)) (Qg:kB≠0)
 (vM:w.frozen? a=false) (Mj:w.frozen? {block:=a.block,off:=kA}=false):
 (zkg #[tS,tS] #[tR] #[.slice (some a) la ca,.slice (some b) lb cb]).run P w=.ok (.bool false) w:=
 Lib.run_overlaps_apart w tS tR e ht i.size (λw=>by simp[sizeOf,typeInfo,hi]) a b la ca lb cb aT tA tB kA kB H6 Db Qg vM Mj
section
variable {P:bR}{w:aE}{es:Array Event}
def zoI (a:bL):(frozen a).events P w es=es:=rfl
def zkP (a:bL):(frozen a).run P w=.ok (w.frozen? a) w:=rfl
def zmv (r:Nat):(shape r).events P w es=es:=rfl
def Zg (r:Nat):(shape r).run P w=.ok (w.shape? r) w:=rfl
variable {a:bL}{t:aM}{n:Nat}
theorem zo1 (h:w.shape? a.block=some (t,n)):(noView a).events P w es=es:=by
 unfold noView viewAt;simp[zmv,Zg,h]
theorem zwW (h:w.shape? a.block=some (t,n)):(noView a).run P w=.ok () w:=by
 unfold noView viewAt;simp[Zg,h]
theorem zxm (h:w.shape? a.block=some (t,n)):(stringish a).events P w es=es:=by
 unfold stringish;cases hf:w.frozen? a<;>simp[zoI,zkP,zmv,Zg,h,hf]
theorem zhm (h:w.shape? a.block=some (t,n)):(stringish a).run P w=.ok (w.frozen? a||w.frozen? ⟨a.block,n,none⟩) w:=by
 unfold stringish;cases hf:w.frozen? a<;>simp[zkP,Zg,h,hf]
theorem zCe {b:bL}{tA tB:aM}{kA kB:Nat}(H6:w.shape? a.block=some (tA,kA))(Db:w.shape? b.block=some (tB,kB))(vM:w.frozen? a=false)(Mj:w.frozen? ⟨a.block,kA,none⟩=false)(Qg:kB≠0):
 (mayBeOne a b).events P w es=es/\(mayBeOne a b).run P w=.ok false w:=by
 cases kB with
 |zero=>exact absurd rfl Qg
 |succ kB=>
  unfold mayBeOne;constructor
  .simp[zxm H6,zhm H6,zxm Db,zhm Db,vM,Mj,zmv,Zg,H6,Db]
  .simp[zhm H6,zhm Db,vM,Mj,Zg,H6,Db]
end
theorem zJv (w:aE)(es:Array Event)(tS tR e:aM)(ht:P.underlying tS=some (.slice e))(hi:P.info? e=some i)
 (a b:bL) (la ca lb cb:Nat) (aT:a.block≠b.block) (tA tB:aM) (kA kB:Nat)
 (H6:w.shape? a.block=some (tA,kA)) (Db:w.shape? b.block=some (tB,kB)) (Qg:kB≠0)
 (vM:w.frozen? a=false) (Mj:w.frozen? {block:=a.block,off:=kA}=false):
 (zkg #[tS,tS] #[tR] #[.slice (some a) la ca,.slice (some b) lb cb]).events P w es=es:=by
 have nJ:(a.block !=b.block)=true:=by simpa using aT
 have zAo:(a.block==b.block)=false:=by simpa using aT
 change Sem.events P (α:=aF) (do
  let some t:=(#[tS,tS]:Array aM)[0]? |stuck "slices.overlaps: no parameter types"
  let .slice elem<-underlying t|stuck "slices.overlaps: slice type expected"
  let size<-sizeOf elem
  match(some a:Option bL),(some b:Option bL) with
  |some a,some b=>
   if la=0\/lb=0\/size=0 then pure (Nq false)
   else if a.block !=b.block&&(<-frozen a)&&(<-frozen b) then unsupported .addressObserved
   else do
    if a.block !=b.block then do
     noView a;noView b
     if<-mayBeOne a b then return Nq ((<-choose (.extern "sameAddr.stringBytes" 2))==1)
    pure (Nq (a.block==b.block&&a.off<b.off+lb*size&&b.off<a.off+la*size))
  |_,_=>pure (Nq false)) w es=_
 by_cases h0:la=0\/lb=0\/i.size=0
 .simp[wQ ht,sizeOf,typeInfo,hi,h0]
 .obtain⟨m1,m2⟩:=zCe (P:=P) (es:=es) H6 Db vM Mj Qg
  simp[wQ ht,sizeOf,typeInfo,hi,h0,nJ,zAo,zoI,zkP,vM,zo1 H6,zwW H6,zo1 Db,zwW Db,m1,m2]
section
variable {L:Type}{C:Cx L}{l:L}
variable {o:aZ}{f:aO}{kT:Array aM}{e:Array aF->Sem aF}{w:aE}
theorem zHn {p:bR}{args:Array cN}(hop:o.op=.call ⟨.value (.func f),args,kT⟩){ρ:cN->aF}(hρ:ρ (.func f)=.func (.func f) #[] #[]){fn:Func}(hf:p.funcs[f]? =some fn)
 (hn:(fn.name== "runtime.NumGoroutine")=false) (hb:fn.body.isNone=true) (h1:zq4 fn=none)  (h2:zoG fn=some e) {w':aE} {v:aF} (hr:(e (args.map ρ)).run p w=.ok v w') (he:∀es,(e (args.map ρ)).events p w es=es):
 (aS ρ o).run p w=.ok (.value v) w'/\(aS ρ o).events p w #[]=#[⟨.mark (.extern f),false,true⟩]:=by
 obtain⟨dst,yW,type,pos,after,guard⟩:=o;simp only at hop;subst hop;have sG:¬fn.name= "runtime.NumGoroutine" :=by simpa using hn
 have bZ:fn.body=none:=by simpa using hb
 constructor
 .simp[aS,resolve,Co,hρ,invoke,callFunc,program,mark,Sem.run,hf,sG,bZ,h1,h2,hr]
 .simp[aS,resolve,Co,hρ,invoke,callFunc,hf,sG,bZ,h1,h2,he]
theorem BO.overlaps (ha:C.alone=none)(hI:fF C){fn:aO}{tmps:Array aF}{ops:Array aZ}{i:Nat}{rest:List Nat}{k:List eF}{x y:cN}{A B:bL}{la ca lb cb:Nat}{t tr e:aM}{sz:Nat}{zji zct:Array aF}{TA TB:aM}{zhO:Nat×Nat}
 (H:OvFn C.p f t tr e sz) (ho:ops[i]? =some o) (cD:dD o (dR ops tmps)=true) (hop:o.op=.call ⟨.value (.func f),#[x,y],kT⟩) (rW:dP C.fs x=true) (Dl:dP C.fs y=true) (hx:(bJ tmps []).eval x=.slice (some A) la ca) (hy:(bJ tmps []).eval y=.slice (some B) lb cb)
 (aT:A.block≠B.block) (hA:w.heap[A.block]? =some (.cells zji TA (0,0))) (hB:w.heap[B.block]? =some (.cells zct TB zhO)) (hz:zct.size≠0) (lH:∀s,o.dst=some s->s∉C.S)
 (h1:BO C l ⟨fn,(cC ⟨tmps,[]⟩ o.dst (.bool false)).tmps,.inRegion ops rest::k,false⟩ w):BO C l ⟨fn,tmps,.inRegion ops (i::rest)::k,false⟩ w:=by
 intro R W m' τ hw hm ht hi;obtain⟨fn',bQ,yJ,yB⟩:=m';obtain rfl:=hm.fn;obtain rfl:=hm.todo;obtain rfl:=hm.ret;have uO:=Ip (C:=C) hm.tmps cD;have hb:(C.ds.base fn).kind≠ .early:=C.ds.ok;have vx:=Gg (C:=C) (d:=C.ds.ds) hm.tmps rW;have vy:=Gg (C:=C) (d:=C.ds.ds) hm.tmps Dl;rw[hx] at vx;rw[hy] at vy;obtain⟨fnf,g1,g2,g3,g4,g5⟩:=H.fn;obtain⟨ie,jY,cG⟩:=H.inf;rw[mH,Cx.B_none ha];refine bY.own rfl trivial λaX s=>?_;have dI:C.Rel R w aX:=Cx.Rel.suf (C:=C) hw ht s;have yU:=hI.suf _ _ _ _ hi s;generalize hex:(bJ bQ C.ds.ds).eval x=vx' at vx;generalize zF1:(bJ bQ C.ds.ds).eval y=vy' at vy
 cases vx with
 |slice qa=>
  cases qa with
  |some qa=>
   cases qa with
   |mk ra=>
    cases vy with
    |slice qb=>
     cases qb with
     |some qb=>
      cases qb with
      |mk rb=>
       rename_i a a' oa sa b b' ob sb;obtain⟨o1,o2,k1,k2,k3⟩:=dI.cont _ _ ra;obtain⟨p1,p2,q1,q2,q3⟩:=dI.cont _ _ rb;rw[hA] at k1;obtain rfl:=cE k1;rw[hB] at q1;obtain rfl:=cE q1
       cases k3 with
       |cells pY vM=>
        cases q3 with
        |cells I6 zK6=>
         rename_i cA' fA' znN fB';have zmn:∀n,aX.frozen? ⟨a',n,none⟩=false:=λn=>by
          simp only[S8,k2]
          cases hq:(decide (fA'.1<=n)&&decide (n<fA'.2)) with
          |false=>rfl
          |true=>
           have:=vM n (by simpa[Ln] using hq);unfold Ln at this;omega
         have zxU:aX.frozen? ⟨a',oa,sa⟩=false:=by
          have:=zmn oa;simpa[S8] using this
         have Wx:a'≠b':=λe=>aT (dI.inj' _ _ _ (.inl ra) (.inl (e▸rb)));have sA:aX.shape? a'=some (TA,cA'.size):=by simp[zci,k2]
         have sB:aX.shape? b'=some (TB,znN.size):=by simp[zci,q2]
         have tD:(#[x,y]:Array cN).map (bJ bQ C.ds.ds).eval=#[.slice (some ⟨a',oa,sa⟩) la ca,.slice (some ⟨b',ob,sb⟩) lb cb]:=by
          simp only[uW,fL,tM,hex,zF1]
         have r1:=zEr (P:=C.p) aX t tr e H.un jY ⟨a',oa,sa⟩ ⟨b',ob,sb⟩ la ca lb cb Wx TA TB _ _ sA sB (by rw[<-I6.1];exact hz) zxU (zmn _);have r2:=λes=>zJv (P:=C.p) aX es t tr e H.un jY ⟨a',oa,sa⟩ ⟨b',ob,sb⟩ la ca lb cb Wx TA TB _ _ sA sB (by rw[<-I6.1];exact hz) zxU (zmn _);obtain⟨x1,x2⟩:=zHn (p:=C.p) (o:=o) hop (ρ:=(bJ bQ C.ds.ds).eval) rfl g1 g2 g3 g4 g5 (by rw[tD];exact r1) (by rw[tD];exact r2);have aY:=zml (main:=C.main) (b:=C.ds.base fn) (rest:=rest) (k:=k) (cs:=C.base) ho uO hb x1;have hl:∀ev∈xA C.p (C.ds.base fn).fn ⟨bQ,C.ds.ds⟩ o aX,ev=⟨.mark (.extern f),false,true⟩:=λev mP=>by
          unfold xA at mP;rw[x2] at mP;simpa using mem_seen mP
         refine⟨_,aX,_,aY,rfl,zW.id _ _,λev mP=>?_,?_⟩
         .rw[hl ev mP];trivial
         .rw[deafBehind_still (λev mP=>by rw[hl ev mP];exact⟨aP,aP⟩)]
          have D7:cC ⟨bQ,C.ds.ds⟩ o.dst (.bool false)=⟨(cC ⟨bQ,C.ds.ds⟩ o.dst (.bool false)).tmps,C.ds.ds⟩:=by cases o.dst<;>rfl
          rw[D7,<-mH,<-Cx.B_none ha];have J0:=hI.step R τ aX R aX yU ht ⟨λ_ _ x=>x,rfl,rfl,rfl,aV _,λa b x=>.inl x,λb _ _=>rfl⟩;exact h1 R aX ⟨fn,_,_,false⟩ _ dI ⟨rfl,rfl,rfl,Jj (C:=C) hm.tmps (.bool false),Ix (C:=C) hm.pins lH⟩ (λa b x=>⟨(ht a b x).1,λz=>.inl ((ht a b x).2 z)⟩) J0
end
section
variable {d:pF}{f:aO}{s:WS}{ops:Array aZ}{i:Nat}{rest:List Nat}{Φ:WS->Prop}{o:aZ}
def CR.overlaps (H:d.Ok){x y:cN}{g:aO}{kT:Array aM}{A B:bL}{la ca lb cb:Nat}{t tr e:aM}{sz:Nat}{zji zct:Array aF}{TA TB:aM}{zhO:Nat×Nat}
 (HO:OvFn d.p g t tr e sz) (ho:ops[i]? =some o) (cD:dD o (dR ops s.T)=true) (hop:o.op=.call ⟨.value (.func g),#[x,y],kT⟩) (rW:dP d.fs x=true) (Dl:dP d.fs y=true) (hx:(bJ s.T []).eval x=.slice (some A) la ca) (hy:(bJ s.T []).eval y=.slice (some B) lb cb)
 (aT:A.block≠B.block) (hA:s.w.heap[A.block]? =some (.cells zji TA (0,0))) (hB:s.w.heap[B.block]? =some (.cells zct TB zhO)) (hz:zct.size≠0)
 (h:CR d f ops rest {s with T:=(cC ⟨s.T,[]⟩ o.dst (.bool false)).tmps} Φ):CR d f ops (i::rest) s Φ:=λQ base kk hQ h1=>
 BO.overlaps (C:=d.cx s.K Q s.chs base .nil []) rfl (H.iok hQ) HO ho cD hop rW Dl hx hy aT hA hB hz (λ_ _=>l8) (h Q base kk hQ h1)
end
end Go.Mt
namespace Go.Proofs.YtfcjiloojkjaeaaGreatDoor
open Go.RowKit Go.Mt Go.Conc Go.Tt Go.Maps
def sA:wJ->wJ| .seq a _=>a|_=>.skip
def sB:wJ->wJ| .seq _ b=>b|_=>.skip
def cA:wJ->wJ| .cond _ a _=>a|_=>.skip
def cB:wJ->wJ| .cond _ _ b=>b|_=>.skip
def cX:wJ->cN| .cond x _ _=>x|_=>.const aA
def bI:wJ->Nat| .block i _=>i| .region i _ _=>i|_=>0
def rO:wJ->Array aZ| .region _ o _=>o|_=>#[]
def Nr:Nat->List aF->List aF
 |0,_=>[]
 |n+1,[]=>aA::Nr n []
 |n+1,a::l=>a::Nr n l
theorem zuq:∀n,Nr n []=zwK n aA
 |0=>rfl
 |n+1=>by rw[Nr,zuq n];rfl
theorem ztT:∀(n:Nat) (l:List aF),l.length<=n->l++zwK (n-l.length) aA=Nr n l
 |n,[],_=>by rw[zuq];simp
 |n+1,a::l,h=>by
  simp only[List.length_cons,Nat.add_sub_add_right,List.cons_append,Nr];rw[ztT n l zeM]
theorem pad_eq {n:Nat}{l T:List aF}(hl:l.length<=n)(hT:Nr n l=T):l.toArray++nL (n-l.toArray.size) aA=T.toArray:=by
 subst hT;rw[<-ztT n l hl];simp
structure G0 where
 ty:aM
 Wg:Nat
 N:Nat
 W:List fJ
 D:aE->Prop
 Fin:bC->aE->Prop
 St:Nat->Prop
 W0:aE
 StI:Nat->Prop
 Shun:Loc->Prop
 SS:Nat->Prop
 R0:Pr
 Fz:Nat->Prop
 Wf:aE
 qs:List Nat
abbrev G0.d (e:G0):pF:=⟨aK,Bn,gG,e.ty,e.Wg,e.N,e.W,e.D,e.Fin,e.St,e.W0,e.StI,e.Shun,e.SS,e.R0,e.Fz,e.Wf,e.qs⟩
section
variable {d:pF}{f:aO}{s:WS}{B:List Nat}{c:wJ}
def CW.tape {Φ:nZ->WS->Prop}(h:CW d B f c s Φ)(T:jZ)(n:Nat):CW d B f c {s with w:=Tt.tp s.w T n} Φ:=λQ base kk hQ hB h1 h2 h3=>BO.tape (h Q base kk hQ hB h1 h2 h3) T n
def CW.pieceQ {Φ:nZ->WS->Prop}(H:d.Ok)(hc:oC d.p ⟨d.fs,d.gs,true⟩ c=true)(hf:vR d.p f)(rI:∀(T:jZ) (Q:nZ->tP->aE->Prop),pR (∀a' w',Φ .normal {s with T:=a'.tmps,w:=w'}->Q .normal a' w')->Code.wp d.p c Q ⟨s.T,[]⟩ (Tt.tp s.w T 0)):CW d B f c s Φ:=
 CW.piece H hc hf λT=>rI T _ (aD λa' w' h=>⟨rfl,h⟩)
theorem CW.pH {Φ:nZ->WS->Prop}{lo hb:Nat}{v v0:fO}{dd:nK}{w0:aE}(H:d.Ok)(hf:vR d.p f)(A:pR (bF s.w lo hb v dd))(T:pR (bM hb v0 w0 v s.w))
 (rI:∀(w1:aE) (Q:nZ->tP->aE->Prop),s.w.heap=w1.heap->pR (bF w1 lo hb v dd)->pR (bM hb v0 w0 v w1)->pR (∀a' w',Φ .normal {s with T:=a'.tmps,w:=w'}->Q .normal a' w')->Code.wp d.p c Q ⟨s.T,[]⟩ w1)
 (hc:oC d.p ⟨d.fs,d.gs,true⟩ c=true:=by kernel_rfl):CW d B f c s Φ:=
 CW.pieceQ H hc hf λ_ Q HQ=>rI _ Q rfl (aD (A.o.same rfl)) (aD (T.o.same rfl)) HQ
variable {ops:Array aZ}{i:Nat}{rest is:List Nat}{Φ:WS->Prop}{o:aZ}
def CR.tape (h:CR d f ops is s Φ)(T:jZ)(n:Nat):CR d f ops is {s with w:=Tt.tp s.w T n} Φ:=λQ base kk hQ h1=>BO.tape (h Q base kk hQ h1) T n
def CR.opw (H:d.Ok)(ho:ops[i]? =some o)(cD:dD o (dR ops s.T)=true)(bV:rL d.p ⟨d.fs,d.gs,true⟩ o.op=true){v:aF}(hx:∀T,(aS (bJ s.T []).eval o).run d.p (Tt.tp s.w T 0)=.ok (.value v) (Tt.tp s.w T 0))
 (h:CR d f ops rest {s with T:=(cC ⟨s.T,[]⟩ o.dst v).tmps} Φ):CR d f ops (i::rest) s Φ:=
 CR.op H ho cD bV λT=>⟨v,Tt.tp s.w T 0,.inl (hx T),CR.tape h T 0⟩
theorem nP {P Q:Prop}(k:Q)(h:Q->P:=by intro q;first|(simp only[Go.Act.put,List.setIfInBounds_toArray,List.set_cons_zero,List.set_cons_succ];exact q)|exact q):P:=h k
theorem CR.sto (H:d.Ok)(ho:ops[i]? =some o)(cD:dD o (dR ops s.T)=true)(bV:rL d.p ⟨d.fs,d.gs,true⟩ o.op=true)(hd:o.dst=none){w':aE}(hx:∀T,(aS (bJ s.T []).eval o).run d.p (Tt.tp s.w T 0)=.ok .skip (Tt.tp w' T 0))
 (h:CR d f ops rest {s with w:=w'} Φ):CR d f ops (i::rest) s Φ:=
 CR.op H ho cD bV λT=>⟨aA,Tt.tp w' T 0,.inr ⟨hx T,rfl⟩,by
  have:=CR.tape h T 0;have e:(cC ⟨s.T,[]⟩ o.dst aA).tmps=s.T:=by rw[hd];rfl
  rw[e];exact this⟩
end
section
variable {d:pF}{f:aO}{s:WS}{B:List Nat}{c:wJ}
theorem CW.sq (H:d.Ok){Φ:nZ->WS->Prop}(h:CW d B f (sA c) s (λe s'=>match e with| .normal=>CW d B f (sB c) s' Φ|e=>Φ e s'))(e:c=.seq (sA c) (sB c):=by exact rfl):CW d B f c s Φ:=by
 rw[e];exact CW.seq H h
theorem CW.cd (H:d.Ok){Φ:nZ->WS->Prop}(t:Bool)(h:CW d B f (if t then cA c else cB c) s Φ)(e:c=.cond (cX c) (cA c) (cB c):=by exact rfl)(hx:dP d.fs (cX c)=true:=by exact rfl)(hc:(bJ s.T []).eval (cX c)=.bool t:=by exact rfl):CW d B f c s Φ:=by
 rw[e];exact CW.cond H hx hc h
theorem CW.sk (H:d.Ok){Φ:nZ->WS->Prop}(h:Φ .normal s)(e:c=.skip:=by exact rfl):CW d B f c s Φ:=by
 rw[e];exact CW.skip H h
theorem CW.rt (H:d.Ok){Φ:nZ->WS->Prop}(h:Φ .ret s)(e:c=.ret:=by exact rfl):CW d B f c s Φ:=by
 rw[e];exact CW.ret H h
theorem CW.rg (H:d.Ok){Φ:nZ->WS->Prop}(is:List Nat)(h:CR d f (rO c) is s (λs'=>Φ .normal s'))(e:c=.region (bI c) (rO c) false:=by exact rfl)(hr:gN (rO c).size=is:=by exact rfl):CW d B f c s Φ:=by
 rw[e];exact CW.reg H is hr h
theorem CW.pQ {c':wJ}{Φ:nZ->WS->Prop}(H:d.Ok)(hf:vR d.p f)(rI:∀(T:jZ) (Q:nZ->tP->aE->Prop),pR (∀a' w',Φ .normal {s with T:=a'.tmps,w:=w'}->Q .normal a' w')->Code.wp d.p c' Q ⟨s.T,[]⟩ (Tt.tp s.w T 0))
 (e:c=c':=by conv=>lhs;whnf) (hc:oC d.p ⟨d.fs,d.gs,true⟩ c=true:=by kernel_rfl):CW d B f c s Φ:=by
 subst e;exact CW.pieceQ H hc hf rI
variable {v0:fO}{dd:nK}{w0:aE}
theorem CW.pW {c':wJ}{Φ:nZ->WS->Prop}{lo hb:Nat}{v:fO}(H:d.Ok)(hf:vR d.p f)(A:pR (bF s.w lo hb v dd))(T:pR (bM hb v0 w0 v s.w))
 (rI:∀(w1:aE) (Q:nZ->tP->aE->Prop),s.w.heap=w1.heap->pR (bF w1 lo hb v dd)->pR (bM hb v0 w0 v w1)->pR (∀a' w',Φ .normal {s with T:=a'.tmps,w:=w'}->Q .normal a' w')->Code.wp d.p c' Q ⟨s.T,[]⟩ w1)
 (e:c=c':=by conv=>lhs;whnf) (hc:oC d.p ⟨d.fs,d.gs,true⟩ c=true:=by kernel_rfl):CW d B f c s Φ:=by
 subst e;exact CW.pH H hf A T rI hc
theorem CW.p0 {c':wJ}{T':Array aF}{Φ:nZ->WS->Prop}{lo hb:Nat}{v:fO}(H:d.Ok)(hf:vR d.p f)(A:pR (bF s.w lo hb v dd))(T:pR (bM hb v0 w0 v s.w))
 (h:∀w1:aE,s.w.heap=w1.heap->pR (bF w1 lo hb v dd)->pR (bM hb v0 w0 v w1)->Φ .normal {s with T:=T',w:=w1})
 (e:c=c':=by conv=>lhs;whnf) (rI:∀(w1:aE) (Q:nZ->tP->aE->Prop),pR (∀a':tP,a'.tmps=T'->Q .normal a' w1)->Code.wp d.p c' Q ⟨s.T,[]⟩ w1:=by(intro w1 Q HQ;go_wp2;exact HQ.o _ rfl))
 (hc:oC d.p ⟨d.fs,d.gs,true⟩ c=true:=by kernel_rfl):CW d B f c s Φ:=by
 subst e;exact CW.pH H hf A T (λw1 Q hw A1 T1 HQ=>rI w1 Q (aD λa' ha=>HQ.o a' w1 (ha▸h w1 hw A1 T1))) hc
variable {K:Pr}{w:aE}
theorem CF.of {g:aO}{l:List aF}{L:gS}{Ψ:Pr->gS->aF->aE->Prop}{fnf:Func}(n:Nat){T:List aF}(hf:d.p.funcs[g]? =some fnf)(hp:Du fnf.results.toList)
 (h:CW d [] g (fnf.body.getD .skip) ⟨[],K,L,T.toArray,w⟩ (λe s'=>(e=.normal\/e=.ret)/\s'.chs=[]/\∃v,(oN fnf.results.toList s'.T).run d.p s'.w=.ok v s'.w/\Ψ s'.K s'.l v s'.w))
 (hT:Nr n l=T:=by(simp only[Nr];rfl)) (hl:l.length<=n:=by exact Nat.le_of_ble_eq_true rfl) (hn:fnf.ntmps=n:=by exact rfl) (hb:fnf.body=some (fnf.body.getD .skip):=by exact rfl) (hr:(fnf.name== "runtime.NumGoroutine")=false:=by decide):CF d g l.toArray K L w Ψ:=
 ⟨⟨fnf,_,hf,hr,hb,hp,by rw[hn,pad_eq hl hT];exact h⟩⟩
variable {ops:Array aZ}{i:Nat}{rest:List Nat}{Φ:WS->Prop}{o:aZ}
def zel {o':aZ}(h:ops[i]? =some o')(e:o'=o):ops[i]? =some o:=e▸h
variable {l:gS}
theorem CR.mv {chs:List Nat}{T T':Array aF}(H:d.Ok)(v:aF)(h:CR d f ops rest ⟨chs,K,l,T',w⟩ Φ)(ho:ops[i]? =some o:=by exact zel rfl (by conv=>lhs;whnf))
 (hx:∀τ,(aS (bJ T []).eval o).run d.p (Tt.tp w τ 0)=.ok (.value v) (Tt.tp w τ 0):=by exact λ_=>rfl)
 (cD:dD o (dR ops T)=true:=by exact rfl) (bV:rL d.p ⟨d.fs,d.gs,true⟩ o.op=true:=by kernel_rfl)
 (ht:(cC ⟨T,[]⟩ o.dst v).tmps=T':=by first|(simp only[Go.Act.put,List.setIfInBounds_toArray,List.set_cons_zero,List.set_cons_succ];done)|(simp only[Go.Act.put,List.setIfInBounds_toArray,List.set_cons_zero,List.set_cons_succ];rfl)):CR d f ops (i::rest) ⟨chs,K,l,T,w⟩ Φ:=
 CR.opw (s:=⟨chs,K,l,T,w⟩) H ho cD bV hx (ht▸h)
theorem CR.mg {chs:List Nat}{T T':Array aF}(H:d.Ok)(v:aF)(h:CR d f ops rest ⟨chs,K,l,T',w⟩ Φ)(ho:ops[i]? =some o:=by exact zel rfl (by conv=>lhs;whnf))
 (hx:∀τ,(aS (bJ T []).eval o).run d.p (Tt.tp w τ 0)=.ok (.value v) (Tt.tp w τ 0):=by intro τ;unfold execOp;go_simp)
 (cD:dD o (dR ops T)=true:=by exact rfl) (bV:rL d.p ⟨d.fs,d.gs,true⟩ o.op=true:=by kernel_rfl)
 (ht:(cC ⟨T,[]⟩ o.dst v).tmps=T':=by first|(simp only[Go.Act.put,List.setIfInBounds_toArray,List.set_cons_zero,List.set_cons_succ];done)|(simp only[Go.Act.put,List.setIfInBounds_toArray,List.set_cons_zero,List.set_cons_succ];rfl)):CR d f ops (i::rest) ⟨chs,K,l,T,w⟩ Φ:=
 CR.opw (s:=⟨chs,K,l,T,w⟩) H ho cD bV hx (ht▸h)
theorem allx {fs:aO->Bool}{l:List cN}(h:l.all (dP fs)=true):l.toArray.all (dP fs)=true:=by simpa using h
theorem CR.cl {T:Array aF}(H:d.Ok){g:aO}{args:List cN}{kT:Array aM}{Ψ:Pr->gS->aF->aE->Prop}{Ms:Array aF}
 (hc:CF d g Ms K l w Ψ) (hk:∀K' l' v w',K.le K'->Ψ K' l' v w'->CR d f ops rest ⟨[],K',l',(cC ⟨T,[]⟩ o.dst v).tmps,w'⟩ Φ)
 (ho:ops[i]? =some o:=by exact zel rfl (by conv=>lhs;whnf)) (hop:o.op=.call ⟨.value (.func g),args.toArray,kT⟩:=by exact rfl) (cD:dD o (dR ops T)=true:=by exact rfl) (tD:args.all (dP d.fs)=true:=by exact rfl) (ha:args.toArray.map (bJ T []).eval=Ms:=by(simp only[List.map_toArray,List.map_cons,List.map_nil];rfl)):CR d f ops (i::rest) ⟨[],K,l,T,w⟩ Φ:=
 CR.call (s:=⟨[],K,l,T,w⟩) H ho cD hop (allx tD) rfl (by rw[ha];exact hc) hk
end
section
variable {P:bR}{o:aZ}{Tf:Array aF}{w:aE}{A B C D:Prop}
theorem uE (v:aF)(a:A)(h:A->(aS (bJ Tf []).eval o).run P w=.ok (.value v) w:=by(intro e1;(conv at e1=>rhs;whnf);unfold execOp;go_simp)):(aS (bJ Tf []).eval o).run P w=.ok (.value v) w:=h a
theorem rd2 (v:aF)(a:A)(b:B)(h:A->B->(aS (bJ Tf []).eval o).run P w=.ok (.value v) w:=by(intro e1 e2;(conv at e1=>rhs;whnf);unfold execOp;go_simp)):(aS (bJ Tf []).eval o).run P w=.ok (.value v) w:=h a b
theorem rd4 (v:aF)(a:A)(b:B)(c:C)(d:D)(h:A->B->C->D->(aS (bJ Tf []).eval o).run P w=.ok (.value v) w:=by(intro e1 e2 e3 e4;(conv at e1=>rhs;whnf);unfold execOp;go_simp)):(aS (bJ Tf []).eval o).run P w=.ok (.value v) w:=h a b c d
end
def zkf:Go.Code:=(Tryz.f82.body).getD .skip
def rAO1:Go.Code:=match zkf with| .seq _ (.seq (a) _)=>a|_=>.skip
def rAO2:Go.Code:=match zkf with| .seq _ (.seq _ (.seq (a) _))=>a|_=>.skip
def rAO3:Go.Code:=match zkf with| .seq _ (.seq _ (.seq _ (.seq (a) _)))=>a|_=>.skip
def opsAO1:Array Oper:=match rAO1 with| .region _ ops _=>ops|_=>#[]
abbrev oAO1_0:Oper:=⟨some 10,.makeChan 84 (.const (.int .i64 0)),84,"l6_office.go:99",#[],none⟩
def zAS:opsAO1[0]? =some oAO1_0:=rfl
def opsAO2:Array Oper:=match rAO2 with| .region _ ops _=>ops|_=>#[]
abbrev oAO2_12:Oper:=⟨none,.send (.tmp 18) (.tmp 22),0,"l6_office.go:100",#[⟨7,.data⟩,⟨11,.data⟩],none⟩
def zDf:opsAO2[12]? =some oAO2_12:=rfl
def opsAO3:Array Oper:=match rAO3 with| .region _ ops _=>ops|_=>#[]
abbrev oAO3_1:Oper:=⟨some 24,.recv 84 (.tmp 23) false,3,"l6_office.go:101",#[⟨0,.data⟩],none⟩
def zzS:opsAO3[1]? =some oAO3_1:=rfl
def fokAO:vR aK 82:=⟨_,zoA,.inr (.inl ⟨_,rfl⟩)⟩
theorem zzY:∃ie,aK.info? 3=some ie/\ie.zero=some (.int .i64 0):=by
 obtain⟨i0,hi,gX,_,_⟩:=info_parts zrn;exact⟨i0,hi,gX⟩
theorem zbO {e:G0}(H:e.d.Ok){K:Pr}{k q:Nat}{w:aE}{lo hb:Nat}{v:fO}{d:nK}{kd cl ans:Int}(h:bF w lo hb v d)(hW:e.W[k]? =some (.ask q kd cl ans))(hq:q<d.qn.length)(yG:q<=100)(hK:∀(i g:Nat),d.qn[i]? =some g->K g (qa e.qs i)):
 CF e.d 82 #[.pointer (some ⟨hb,0,none⟩),.int .i64 ((q:Int)+1),.int .i64 kd,.int .i64 cl] K (.wk e.qs k) w (λK' l' x w'=>l'=.wk e.qs (k+1)/\x=.int .i64 ans/\w'=w.alloc oR):=by
 refine CF.of 25 zoA (.inr (.inl ⟨_,rfl⟩)) ?_;obtain⟨AQ,cQ,zbx,hs⟩:=Gt h.Q aH;obtain⟨bq,off,g,rfl,hg,hv⟩:=zf3 hs hq;have zgM:=aJ h.blk 6;have k6:w.cell? ⟨hb,6,none⟩=some (.slice (some ⟨bq,off,none⟩) d.qn.length cQ):=by rw[zgM,<-zbx];rfl
 have zHs:=hK q g hg;obtain⟨ie,jY,hz⟩:=zzY;clear zgM zbx hs hg hK h;refine CW.sq H ?_;refine CW.pQ H fokAO (λTp Q HQ=>?_);go_wp2;refine HQ.o _ _ ?_;clear HQ;refine CW.tape (s:=⟨[],K,.wk e.qs k,_,w⟩) ?_ Tp 0;refine CW.sq H ?_;refine CW.rg H [0,1] ?_;refine CR.make H zAS rfl rfl zrl jY rfl (λa=>?_);simp only[cC,gI,dW,dS];refine CR.mv H (.chan (some w.heap.size)) ?_;refine CR.nil H ?_;have zpA:(w.alloc oR).cell? ⟨hb,6,none⟩=some (.slice (some ⟨bq,off,none⟩) d.qn.length cQ):=Ax k6 _;have zt0:(w.alloc oR).cell? ⟨bq,off+q,none⟩=some (.chan (some g)):=Ax hv _;have i0:(0:Int)<=(q:Int):=aC;have i1:(q:Int)<(d.qn.length:Int):=aC;generalize fB:w.alloc oR=w1 at zpA zt0;refine CW.sq H ?_;refine CW.rg H [0,1,2,3,4,5,6,7,8,9,10,11,12] ?_;refine CR.mv H (.pointer (some ⟨hb,0,none⟩)) ?_;refine CR.mv H (.pointer (some ⟨hb,0,none⟩)) ?_;refine CR.mg H (.pointer (some ⟨hb,6,none⟩)) ?_;refine CR.mv H (.slice (some ⟨bq,off,none⟩) d.qn.length cQ) ?_ (hx:=λT=>by have hh:(Tt.tp w1 T 0).cell? _=_:=zpA;unfold aS;go_simp);refine CR.mv H (.int .i64 ((q:Int)+1)) ?_;refine CR.mv H (.int .i64 (q:Int)) ?_ (hx:=λT=>by unfold aS;go_simp;try exact D6 aC aC);refine CR.mg H (.pointer (some ⟨bq,off+q,none⟩)) ?_;refine CR.mv H (.chan (some g)) ?_ (hx:=λT=>by have hh:(Tt.tp w1 T 0).cell? _=_:=zt0;unfold aS;go_simp);refine CR.mv H (.int .i64 kd) ?_;refine CR.mv H (.int .i64 cl) ?_;refine CR.mv H (.chan (some w.heap.size)) ?_;refine CR.mv H (.agg #[.int .i64 kd,.int .i64 cl,.chan (some w.heap.size)]) ?_ (hx:=λT=>by unfold aS;go_simp;try rfl);refine CR.ask H (k:=k) (q:=q) (a:=a) zDf rfl rfl rfl rfl rfl hW rfl rfl (.inl zHs) rfl (.inr ⟨rfl,rfl⟩) ?_
 try simp only[cC,gI,dW,dS]
 refine CR.nil H ?_;refine CW.sq H ?_;refine CW.rg H [0,1,2] ?_;refine CR.mv H (.chan (some w.heap.size)) ?_;refine CR.ans H (k:=k) (q:=q) (a:=a) zzS rfl rfl zrl jY hz rfl rfl hW rfl rfl (.inr ⟨rfl,rfl⟩) ?_;simp only[cC,gI,dW,dS];refine CR.mv H (.int .i64 ans) ?_;refine CR.nil H ?_;refine CW.rt H ?_;exact⟨.inr rfl,rfl,.int .i64 ans,rfl,rfl,rfl,by first|rfl|exact fB.symm|(subst fB;rfl)⟩
end Go.Proofs.YtfcjiloojkjaeaaGreatDoor
namespace Go.Proofs.YtfcjiloojkjaeaaGreatDoor
open Go.RowKit
variable {v v':fO}{d:nK}
theorem gC.of (h:gC v d)(hc:v'.pC=v.pC)(ho:v'.pO=v.pO)(hm:v'.pM=v.pM){d':nK}(hr:d'.r.recs=d.r.recs)(hl:d'.ln=d.ln):gC v' d':=by
 obtain⟨a,b,c,e,f,g,i,j⟩:=h;exact⟨by rw[hc];exact a,by rw[ho];exact b,by rw[hm];exact c,by rw[hc,hr,hl];exact e,by rw[ho,hr,hl];exact f,by rw[ho,hr];exact g,by rw[hm,hr];exact i,by rw[hm,hr];exact j⟩
structure U4 (B:Nat)(w:aE)(hb:Nat)(v:fO)(s:aF)(xs:List bE):Prop where
 row:w.ownsRow B 149 2 s xs.length (bG xs)
 ap:∀b,s.ownBlock=some b->some b∉parts v hb
variable {B hb:Nat}{w:aE}{s:aF}{xs:List bE}
def U4.lt (h:U4 B w hb v s xs):∀b,s.ownBlock=some b->B<=b/\b<w.heap.size:=λb e=>h.row.lt b e
theorem U4.turn {w':aE}(h:U4 B w hb v s xs)(t:bM hb v w v' w'):U4 B w' hb v' s xs:=
 ⟨cI h.row λb e=>t.block b (h.lt b e).2 (h.ap b e),λb e x=>(t.moved b x).elim (h.ap b e) λy=>by have:=(h.lt b e).2;omega⟩
def vQ (d:nK)(m:Int)(k:Nat):nK:={d with r:={(cZ d.r m k).1 with wait:=d.r.wait}}
structure Dv (w:aE)(lo hb:Nat)(v:fO)(d:nK)(m:Int)(k:Nat)(v1:fO)(s:aF)(wr:aE):Prop where
 at_:bF wr lo hb v1 (vQ d m k)
 mr:gC v1 {d with r:=(cZ d.r m k).1}
 tn:bM hb v w v1 wr
 kp:zN v v1
 sW:v1.sW=v.sW
 so:U4 w.heap.size wr hb v1 s (sM d.r m k)
def below_drewN (n:Nat):Below w.heap.size w (w.drewN n):=⟨rfl,rfl,rfl,aV _,λ_ _=>rfl⟩
variable {lo k:Nat}{m:Int}{v1:fO}
def Dv.below {wr w':aE}(h:Dv w lo hb v d m k v1 s wr)(bZ:Below wr.heap.size wr w'):Dv w lo hb v d m k v1 s w':=
 ⟨h.at_.below bZ,h.mr,h.tn.trans (bM.below bZ),h.kp,h.sW,h.so.turn (bM.below bZ)⟩
variable {x:bE}
theorem Dv.more {n:Nat}{s':aF}{wr w':aE}(h:Dv w lo hb v d m k v1 s wr)(hg:wr.grownBy w' s.ownBlock)(cP:w'.ownsRow w.heap.size 149 2 s' n (bG (sM d.r m k)++x.cells))(hn:n=(sM d.r m k).length+1)
 (fA:s'.ownBlock=s.ownBlock\/∀b,s'.ownBlock=some b->wr.heap.size<=b) (e1:cZ d.r m (k+1)=cZ d.r m k) (e2:sM d.r m (k+1)=sM d.r m k++[x]):Dv w lo hb v d m (k+1) v1 s' w':=by
 have e3:vQ d m (k+1)=vQ d m k:=by unfold vQ;rw[e1]
 refine⟨by rw[e3];exact h.at_.grown hg h.so.ap,by rw[e1];exact h.mr,h.tn.grown hg λb e=>(h.so.lt b e).1,h.kp,h.sW,⟨?_,λb e x=>?_⟩⟩
 .rw[e2]
  have:bG (sM d.r m k++[x])=bG (sM d.r m k)++x.cells:=by simp[bG]
  rw[this,gM];subst hn;exact cP
 .rcases fA with fA|fA
  .exact h.so.ap b (fA▸e) x
  .have:=fA b e;have:=(h.at_.lt b x).2;omega
theorem zHl {i:Nat}(e1:cZ d.r m (k+1)=({lD (cZ d.r m k).1 i Dx with back:=(cZ d.r m k).1.back++[x]},(cZ d.r m k).2++[32]++jM x.c)):
 vQ d m (k+1)={vQ d m k with r:={(vQ d m k).r with recs:=(vQ d m k).r.recs.modify i (λz=>{z with t:=(vQ d m k).r.clk,e:=Dx}),back:=(vQ d m k).r.back++[x]}}:=by
 unfold vQ;rw[e1];rfl
theorem Dv.fin {wr:aE}(h:Dv w lo hb v d m k v1 s wr)(hk:k=d.r.wait.length)(T:TK d m k)(dV:lo<=w.heap.size)(ha:bF w lo hb v d):
 bF (wr.setCell ⟨hb,7,none⟩ s) lo hb {v1 with sW:=s} {d with r:=(uJ d.r m).1}/\gC {v1 with sW:=s} {d with r:=(uJ d.r m).1}/\bM hb v w {v1 with sW:=s} (wr.setCell ⟨hb,7,none⟩ s)/\zN v {v1 with sW:=s}:=by
 subst hk;have e0:=TK.end_ T;have e1:(cZ d.r m d.r.wait.length).1=(uJ d.r m).1:=by rw[zaW]
 have h1:=h.at_.newW (zpM h.so.row dV) rfl h.so.ap;have e2:{vQ d m d.r.wait.length with r:={(vQ d m d.r.wait.length).r with wait:=sM d.r m d.r.wait.length}}=({d with r:=(uJ d.r m).1}:nK):=by
  unfold vQ;simp only[e1,<-e0]
 refine⟨by rw[<-e2];exact h1,?_,⟨?_,λb bZ hn=>?_,λb hx=>?_⟩,h.kp⟩
 .have:=h.mr
  rw[e1] at this;exact gC.of (v':={v1 with sW:=s}) this rfl rfl rfl rfl rfl
 .rw[sU];exact h.tn.size
 .exact(eJ wr _ _ b (λe=>hn zw0)).trans (h.tn.block b bZ hn)
 .have hp:parts {v1 with sW:=s} hb=(parts v1 hb).set 5 s.ownBlock:=rfl
  rw[hp] at hx;rcases List.mem_or_eq_of_mem_set hx with hx|hx
  .exact h.tn.moved b hx
  .exact .inr (h.so.lt b hx.symm).1
theorem zBL (h:bF w lo hb v d)(mr:gC v d)(hi:yS d)(dV:lo<=w.heap.size)(ht:Ad lo w)(hm:0<=m)(hc:d.r.clk+m<=100000)(zc5:d.r.back.length+d.r.wait.length<=5000):
 Calls aK 105 #[.pointer (some ⟨hb,0,none⟩),.int .i64 m] w λe w'=>e=.returned (.string ⟨(uJ d.r m).2.toArray⟩)/\∃v',bF w' lo hb v' {d with r:=(uJ d.r m).1}/\gC v' {d with r:=(uJ d.r m).1}/\bM hb v w v' w'/\zN v v':=by
 have zjA:=aD (TK.all hi hm hc zc5);have zhC:=hi.sm.clk.1;have zhq:=hi.sm.nw;obtain⟨zLS,zJV⟩:=(Cd hi.R.off).2.2.2.2;obtain⟨AW,cW,Lw,J9⟩:=Gt h.W aH;obtain⟨n,hn⟩:=aU d.r.wait.length;obtain⟨ck,Dz⟩:=aU d.r.clk;have zqb:=aJ h.blk 11;have El:w.cell? ⟨hb,11,none⟩=some (.int .i64 ck):=by rw[zqb,Dz];rfl
 have kf:=eK h.blk;obtain⟨a1,t1⟩:=h.putClk (ck+m);have Rf:vQ d m 0={d with r:={d.r with clk:=ck+m}}:=by rw[Dz];rfl
 rw[<-Rf] at a1;have I1:=aD (show Dv w lo hb v d m 0 v (.slice none 0 0) _ from⟨a1,mr.of rfl rfl rfl rfl rfl,t1,zN.rf v,rfl,⟨⟨rfl,.inl ⟨rfl,rfl⟩⟩,λb e=>by cases e⟩⟩);have Ed:=aD (ht.turn h dV t1);have HN:=aD hn;have G2:=aD Dz;have Bb:=aD (show v.sW=.slice AW n cW by rw[hn];exact Lw);have Jw:n<=1000:=aC;rw[<-Dz] at hc zhC;have Me:=aD dV;have zMI:=aD ht;have HH:=aD h;clear hn Dz Lw J9 a1 t1 Rf h mr hi dV ht zqb zhq
 go_enter Tryz.func105,Tryz.ntmps105
 go_upto_region 2 with fail
 obtain⟨W1,dE⟩:=aU (w.setCell ⟨hb,11,none⟩ (.int .i64 (ck+m)));rw[<-dE] at I1 Ed⊢;clear dE El kf;have El:W1.cell? ⟨hb,11,none⟩=some (.int .i64 (ck+m)):=by
  have:=aJ I1.o.at_.blk 11;rw[this,G2.o];rfl
 have Fl:=P3 (c:=ck+m) aC aC
 go_upto_region 3 with(go_at_call 112;refine(zAe Ed.o (ck+m) aC aC).mono ?_;rintro x w3 ⟨rfl,Va⟩;have zaQ:=aD Va;clear Va)
 have I3:=aD (I1.o.below zaQ.o);clear El I1 Ed zaQ;have k7:w3.cell? ⟨hb,7,none⟩=some (.slice AW n cW):=by
  have:=aJ I3.o.at_.blk 7;rw[this,<-Bb.o];rfl
 have zkK:=aD (show(⟨([97,116,32]++jM (ck+m):List UInt8).toArray⟩:ByteArray)=⟨(cZ d.r m 0).2.toArray⟩ by rw[G2.o];rfl)
 go_wp2_with fail
 go_loopw [5,6,28] (λt s i wr=>∃(k:Nat) (v1:fO) (A:Option bL) (n2 c2:Nat),k<=n/\i=.int .i64 k/\t=.string ⟨(cZ d.r m k).2.toArray⟩/\s=.slice A n2 c2/\Dv w lo hb v d m k v1 (.slice A n2 c2) wr) (λ_ _ i _=>n-(intOf i).toNat)
 case atStart=>
  refine⟨0,v,none,0,0,jO _,rfl,?_,rfl,I3.o⟩;rw[<-zkK.o];congr 1
 case round=>
  obtain⟨k,v1,A2,n2,c2,hk,rfl,rfl,rfl,hI⟩:=hrel;have HI:=aD hI;have T:=zjA.o k (by have:=HN.o;omega);have zdW:(cZ d.r m k).2.length<=40000:=by have:=T.txt;omega
  have jQ:n2=(sM d.r m k).length:=by
   rcases hI.so.row.2 with⟨e,h0⟩|⟨g,cap,cur,e,_⟩
   .injection e with e1 e2 e3;rw[e2];exact h0.symm
   .injection e with e1 e2 e3
  have zwY:n2<=1000:=by have:=T.le;omega
  have uG:=aD jQ;clear hI jQ;by_cases aN:k<n
  .have hW:=HI.o.at_.W
   rw[HI.o.sW,Bb.o] at hW;have hW:wr.ownsRow lo 149 2 (.slice AW n cW) n (bG d.r.wait):=by
    have e:(vQ d m k).r.wait.length=n:=HN.o.symm;rw[e] at hW;exact hW
   obtain⟨bW,zKk,x,hA,mX,eE,e0,e1⟩:=zei (y9 hW aH) aN;subst hA;obtain⟨i,y,nx⟩:=T.next eE;obtain⟨gL,No,hO,hM,hC⟩:=HI.o.mr.onLine T.i nx.hy nx.op nx.c;obtain⟨gR,cR,zsK⟩:=zm5 HI.o.at_ nx.hy;obtain⟨Hl,uN⟩:=nx.b;obtain⟨Lg,zIP⟩:=nx.f;rw[<-G2.o] at zIP;have i0:(0:Int)<=(k:Int):=aC;have i1:(k:Int)<(n:Int):=aC;have NX:=aD nx;have zim:=aD eE;have HL:=aD (And.intro No (And.intro hO (And.intro hM hC)));have vB:=aD zsK;have HT:=aD T;clear hW nx eE No hO hM hC zsK T mX
   go_upto_region 7 with fail
   obtain⟨W4,sO⟩:=aU (wr.alloc (.cells #[.int .i64 x.c,.int .i64 x.p] 149));have I4:=aD (show Dv w lo hb v d m k v1 (.slice A2 n2 c2) W4 by rw[sO];exact HI.o.below (dO (eG _ _) _));have uF:W4.heap[wr.heap.size]? =some (.cells #[.int .i64 x.c,.int .i64 x.p] 149):=by rw[sO];exact lP _ _
   have Xe:=aD uF;have g0:=aJ uF 0;have g1:=aJ uF 1;have zqr:=aD (show some wr.heap.size∉parts v1 hb from λh=>by have:=(HI.o.at_.lt _ h).2;omega);obtain⟨gx,ztE⟩:∃y,y=wr.heap.size:=⟨_,rfl⟩;rw[<-sO];rw[<-ztE] at g0 g1 Xe zqr⊢;clear sO uF e0 e1 ztE;have El:W4.cell? ⟨hb,11,none⟩=some (.int .i64 (ck+m)):=by
    have:=aJ I4.o.at_.blk 11;rw[this];show some (Qc .i64 (cZ d.r m k).1.clk)=_;rw[HT.o.clk,G2.o]
   have k2:W4.cell? ⟨hb,2,none⟩=some (.int .i64 d.r.o.pt):=by
    have:=aJ I4.o.at_.blk 2;rw[this];show some (Qc .i64 (cZ d.r m k).1.o.pt)=_;rw[HT.o.o]
   have k3:=(I4.o.at_.recAt vB.o NX.o.hy (j:=3) (u:=.int .i64 y.f) aH rfl).1;have HE:=aD (λnq:Nat=>Calls.quiet_of (w:=W4) (n:=nq) ((zfd (w:=W4.drewN nq) (I4.o.at_.same rfl) vB.o NX.o.hy HL.o.2.2.1).mono λe w' hh=>⟨hh.1,1,hh.2⟩));by_cases hp:ck+m-y.f<d.r.o.pt
   .go_quiet ((go_at_call 115;exact HE.o _))
    go_upto_region 8 with fail
    obtain⟨wz,uY⟩:=aU (W4.drewN nq);rw[<-uY];have IZ:=aD (show Dv w lo hb v d m k v1 (.slice A2 n2 c2) wz by rw[uY];exact I4.o.below (below_drewN nq));have zmG:wz.heap[gx]? =some (.cells #[.int .i64 x.c,.int .i64 x.p] 149):=by rw[uY];exact Xe.o
    have g0:=aJ zmG 0;have g1:=aJ zmG 1;clear uY;obtain⟨OB,zcP⟩:=aU (.cells #[.int .i64 x.c,.int .i64 x.p] 149:Obj);have ztQ:=aD (IZ.o.below (dO (eG _ _) OB));have znJ:=ztQ.o.so.row;rw[<-uG.o] at znJ;obtain⟨q1,q2,w5,fP,cP,nE,fA⟩:=Oh (t:=69) (ty:=69) zcs Tryz.underlying69 rfl aH znJ (g:=wz.heap.size) (cs:=#[.int .i64 x.c,.int .i64 x.p]) (news:=bE.cells x) (by rw[zcP];exact lP _ _) rfl (m:=1) rfl aH Sb aC aH (by have:=IZ.o.tn.size;simp;omega);rw[zcP] at fP;have AP:=aD fP;clear fP znJ El k2 k3
    go_upto_region 12 with(at_builtin;refine zwB rfl (.tmp 50) (.tmp 52) 69 69 rfl (.slice A2 n2 c2) (.slice (some ⟨wz.heap.size,0,none⟩) 1 1) (.slice (some ⟨q1,0,none⟩) (n2+1) q2) rfl rfl AP.o ?_)
    have IM:=aD (ztQ.o.more nE (x:=x) cP (by rw[uG.o]) fA (NX.o.not_ zmd).1 (NX.o.not_ zmd).2);have ET:=aD (NX.o.not_ zmd).1;clear AP cP nE fA g0 g1 zmG;go_wp2;go_roundw
    case rel=>exact⟨k+1,v1,some ⟨q1,0,none⟩,n2+1,q2,aC,nC,by rw[ET.o],rfl,IM.o⟩
    case measure=>simp[intOf];omega
   .have zsm:d.r.o.pt<=d.r.clk+m-y.f:=by have:=G2.o;omega
    obtain⟨E1,E2⟩:=NX.o.tired zsm;have cK:=aD E1;have nF:=aD E2;have zIV:=aD (show some gx∉parts v1 hb from zqr.o);clear E1 E2 zsm
    go_quiet ((go_at_call 115;exact HE.o _))
    go_upto_region 9 with fail
    obtain⟨wz,uY⟩:=aU (W4.drewN nq);rw[<-uY];have IZ:=aD (show Dv w lo hb v d m k v1 (.slice A2 n2 c2) wz by rw[uY];exact I4.o.below (below_drewN nq));have zoL:=aD (show wz.heap[gx]? =some (.cells #[.int .i64 x.c,.int .i64 x.p] 149) by rw[uY];exact Xe.o);clear uY El k2 k3 g0 g1;have g0:=aJ zoL.o 0
    go_upto_region 10 with(go_at_call 116;refine(zm6 (e:=⟨#[116,105,114,101,100]⟩) IZ.o.at_ NX.o.hy HL.o.2.1 HL.o.2.2.2 HL.o.2.2.1 vB.o).mono ?_;rintro en w5 ⟨rfl,v5,a5,t5,p5⟩;have A5:=aD a5;have T5:=aD t5;have P5:=aD p5;clear a5 t5 p5)
    obtain⟨zhE,zuU⟩:=IZ.o.at_.turned T5.o zoL.o zIV.o;have zDw:=aD (gC.of (v':=v5) (IZ.o.mr.clear HT.o.i.S HT.o.i.ndl (λz hz=>(HT.o.i.lb z hz).1) NX.o.hy NX.o.op HL.o.1 (f:=λz=>{z with t:=(cZ d.r m k).1.clk,e:=Dx}) (λz=>⟨rfl,rfl⟩) zjo) P5.o.1 (by rw[P5.o.2.1,NX.o.c]) P5.o.2.2.1 rfl rfl);have zGS:=aD (IZ.o.so.turn T5.o);have Ds:=aD zhE;have k8:w5.cell? ⟨hb,8,none⟩=some v5.sB:=aJ A5.o.blk 8;have g5:=aJ zhE 0;obtain⟨OC,zad⟩:=aU (.cells #[.int .i64 x.c] 3:Obj);have a5:=(A5.o.alloc OC).drew;have nJ:(cZ d.r m k).1.back.length<=5000:=HT.o.i.sm.nb;obtain⟨q1,q2,w6,fP,cP,nE,fA⟩:=Oh (t:=38) (ty:=38) U9 Xq rfl aH a5.B (g:=w5.heap.size) (cs:=#[.int .i64 x.c]) (news:=[.int .i64 x.c]) (by rw[zad];exact lP _ _) rfl (m:=1) rfl aH La (by show(cZ d.r m k).1.back.length+1<=_;omega) aH (by have:=IZ.o.tn.size;have:=T5.o.size;have:=Me.o;simp;omega);obtain⟨a6,t6⟩:=a5.putB nE (xs:=(cZ d.r m k).1.back++[x]) (by have e:eH (((cZ d.r m k).1.back++[x]).map bE.c)=eH ((cZ d.r m k).1.back.map bE.c)++[.int .i64 x.c]:=(by simp[eH]);rw[e];exact cP) (by simp;rfl) fA;have A6:=aD (show bF (w6.setCell ⟨hb,8,none⟩ (.slice (some ⟨q1,0,none⟩) ((cZ d.r m k).1.back.length+1) q2)) lo hb {v5 with sB:=.slice (some ⟨q1,0,none⟩) ((cZ d.r m k).1.back.length+1) q2} (vQ d m (k+1)) by rw[zHl cK.o];exact a6);have T6:=aD (show bM hb v5 w5 {v5 with sB:=.slice (some ⟨q1,0,none⟩) ((cZ d.r m k).1.back.length+1) q2} (w6.setCell ⟨hb,8,none⟩ (.slice (some ⟨q1,0,none⟩) ((cZ d.r m k).1.back.length+1) q2)) from(bM.below (dO (eG _ w5) OC)).trans (⟨t6.size,t6.block,t6.moved⟩:bM hb v5 (w5.alloc OC) _ _));have Lo:w6.heap[hb]? =some (Pw v5 _):=(a5.other (j:=6) (c:=8) (x:=v5.sB) rfl aH nE (.slice (some ⟨q1,0,none⟩) ((cZ d.r m k).1.back.length+1) q2)).2.trans a5.blk;have Qe:=aJ Lo 8;have kf:=eK Lo 8;have AP:=aD fP;clear cP nE fA a6 t6 a5 Lo fP zhE g0;rw[zad] at AP;refine wp_WA10 w5 w6 hb gx q1 ((cZ d.r m k).1.back.length+1) q2 v5.sB x.c rfl rfl rfl k8 g5 AP.o Qe kf rfl ?_;rw[Go.Mt.Ac,zvo];simp only[Go.Mt.wN,dW,dS,zmR,lWA10,C2,Cy];obtain⟨W7,Ci⟩:=aU (w6.setCell ⟨hb,8,none⟩ (.slice (some ⟨q1,0,none⟩) ((cZ d.r m k).1.back.length+1) q2));rw[<-Ci] at A6 T6⊢;clear Ci k8 Qe kf g5 AP;have g7:=aJ (A5.o.turned T6.o Ds.o zuU).1 0;have zM3:=P3 (c:=x.c) aC aC
    have I7:=aD (show Dv w lo hb v d m (k+1) {v5 with sB:=.slice (some ⟨q1,0,none⟩) ((cZ d.r m k).1.back.length+1) q2} (.slice A2 n2 c2) W7 from
     ⟨A6.o,by rw[cK.o];refine gC.of zDw.o ?_ ?_ ?_ ?_ ?_<;>rfl,(IZ.o.tn.trans T5.o).trans T6.o,⟨P5.o.2.2.2.2.1.trans IZ.o.kp.1,P5.o.2.2.2.2.2.1.trans IZ.o.kp.2.1,P5.o.2.2.2.2.2.2.2.2.1.trans IZ.o.kp.2.2.1,P5.o.2.2.2.2.2.2.2.2.2.trans IZ.o.kp.2.2.2⟩,P5.o.2.2.2.2.2.2.1.trans IZ.o.sW,by rw[nF.o];exact zGS.o.turn T6.o⟩)
    clear T5 zuU A6 T6
    go_wp2_with (go_at_call 112;refine(zk2 x.c aC aC _).mono ?_;rintro en w8 ⟨rfl,Is⟩;obtain rfl:=Is)
    go_roundw
    case rel=>exact⟨k+1,_,A2,n2,c2,aC,nC,by rw[cK.o];simp[Hx],rfl,I7.o⟩
    case measure=>simp[intOf];omega
  .have e:k=n:=aC
   subst e;obtain⟨F1,F2,F3,F4⟩:=HI.o.fin HN.o T Me.o HH.o;have FF:=aD (And.intro F1 (And.intro F2 (And.intro F3 F4)));have k7:wr.cell? ⟨hb,7,none⟩=some v1.sW:=aJ HI.o.at_.blk 7;have Yx:wr.cell? ⟨hb,7,none⟩=some (.slice AW k cW):=by rw[k7,HI.o.sW,Bb.o]
   have kf:=eK HI.o.at_.blk;have HR:=aD (show(⟨(cZ d.r m k).2.toArray⟩:ByteArray)=⟨(uJ d.r m).2.toArray⟩ by rw[<-zaW,<-HN.o]);clear F1 F2 F3 F4 k7;go_wp2;go_ret;exact⟨by rw[HR.o];rfl,_,FF.o⟩
end Go.Proofs.YtfcjiloojkjaeaaGreatDoor
namespace Go.Proofs.YtfcjiloojkjaeaaGreatDoor
open Go.RowKit Go.Mt Go.Conc Go.Tt Go.Maps
section
variable {d:pF}{f:aO}{s:WS}{ops:Array aZ}{i:Nat}{rest:List Nat}{Φ:WS->Prop}{o:aZ}
theorem CR.call' (H:d.Ok){g:aO}{args:Array cN}{kT:Array aM}{Ψ:Pr->gS->aF->aE->Prop}(Ms:Array aF)(ho:ops[i]? =some o)(cD:dD o (dR ops s.T)=true)(hop:o.op=.call ⟨.value (.func g),args,kT⟩)(tD:args.all (dP d.fs)=true)(tN:s.chs=[])(ha:args.map (bJ s.T []).eval=Ms)
 (hc:CF d g Ms s.K s.l s.w Ψ) (hk:∀K' l' v w',s.K.le K'->Ψ K' l' v w'->CR d f ops rest ⟨[],K',l',(cC ⟨s.T,[]⟩ o.dst v).tmps,w'⟩ Φ):CR d f ops (i::rest) s Φ:=
 CR.call H ho cD hop tD tN (by rw[ha];exact hc) hk
end
variable {w:aE}{lo hb:Nat}{v:fO}{d:nK}
def bF.tp (h:bF w lo hb v d)(T:jZ)(n:Nat):bF (Tt.tp w T n) lo hb v d:=h.same rfl
variable {w':aE}{v':fO}
def bM.tp (h:bM hb v w v' w')(T:jZ)(n:Nat):bM hb v w v' (Tt.tp w' T n):=h.same rfl
def zaD:vR aK 120:=⟨_,zwR,.inr (.inl ⟨_,rfl⟩)⟩
variable {e:G0}{K:Pr}{k q i:Nat}{c:Int}{x:bS}
theorem ztY (H:e.d.Ok)(h:bF w lo hb v d)(hW:e.W[k]? =some (.ask q 1 c c))(hq:q<d.qn.length)(yG:q<=100)(hK:∀(i g:Nat),d.qn[i]? =some g->K g (qa e.qs i))
   (hx:d.r.recs[i]? =some x) (hM:kZ c v.pM=some (.int .i64 (i:Int))) (O1:1<=c) (qN:c<=99):
 CF e.d 120 #[.pointer (some ⟨hb,0,none⟩),.int .i64 ((q:Int)+1),.int .i64 c] K (.wk e.qs k) w (λK' l' y w'=>l'=.wk e.qs (k+1)/\y=.string ⟨([99,97,108,108,32]++jM c).toArray⟩/\bF w' lo hb v {d with r:={d.r with recs:=d.r.recs.modify i λz=>{z with o:=(q:Int)+1,h:=d.r.clk}}}/\bM hb v w v w'):=by
 refine CF.of 29 zwR (.inr (.inl ⟨_,rfl⟩)) ?_;have HX:=aD hx;have HM:=aD hM;obtain⟨gR,cR,hR⟩:=zm5 h hx;have HR:=aD hR;clear hx hM hR;refine CW.sq H ?_;refine CW.pQ H zaD (λTp Q HQ=>?_);go_wp2;refine HQ.o _ _ ?_;clear HQ;refine CW.tape (s:=⟨[],K,.wk e.qs k,_,w⟩) ?_ Tp 0;refine CW.sq H ?_;refine CW.rg H [0,1,2,3] ?_;refine CR.mv H (.pointer (some ⟨hb,0,none⟩)) ?_;refine CR.mv H (.int .i64 ((q:Int)+1)) ?_;refine CR.mv H (.int .i64 c) ?_;refine CR.cl H (zbO H h hW hq yG hK) (λK' l' y w' hl oQ=>?_);obtain⟨rfl,rfl,qO⟩:=oQ;simp only[cC,gI,dW,dS];have A1:=aD (show bF w' lo hb v d by rw[qO];exact h.alloc _);have T1:=aD (show bM hb v w v w' by rw[qO];exact bM.below (dO (eG _ _) _));clear h hW hq yG hK qO;refine CR.nil H ?_;refine CW.sq H ?_;refine CW.pQ H zaD (λTp Q HQ=>?_);obtain⟨wa,xF⟩:=aU (Tt.tp w' Tp 0);have A2:=aD (show bF wa lo hb v d by rw[xF];exact A1.o.tp Tp 0);have T2:=aD (show bM hb v w v wa by rw[xF];exact T1.o.tp Tp 0);rw[<-xF];clear xF A1 T1
 go_wp2_with (go_at_call 115;refine(zfd A2.o HR.o HX.o HM.o).mono ?_;rintro en w2 ⟨rfl,fZ⟩;obtain rfl:=fZ)
 refine HQ.o _ _ ?_;obtain⟨w2,fZ⟩:=aU wa.drew;rw[<-fZ];have A3:=aD (show bF w2 lo hb v d by rw[fZ];exact A2.o.drew);have T3:=aD (show bM hb v w v w2 by rw[fZ];exact T2.o.same rfl);clear HQ fZ A2 T2;refine CW.sq H ?_;refine CW.pQ H zaD (λzmL Q HQ=>?_);obtain⟨zk6,xF⟩:=aU (Tt.tp w2 zmL 0);have A4:=aD (show bF zk6 lo hb v d by rw[xF];exact A3.o.tp zmL 0);have T4:=aD (show bM hb v w v zk6 by rw[xF];exact T3.o.tp zmL 0);dsimp only;rw[<-xF];clear xF A3 T3;obtain⟨c2,f2⟩:=A4.o.recAt HR.o HX.o (j:=2) (u:=.int .i64 x.o) aH rfl;obtain⟨a5,t5⟩:=A4.o.setR (λz=>{z with o:=(q:Int)+1}) HR.o HX.o (j:=2) (u:=.int .i64 ((q:Int)+1)) aH zsp rfl;have A5:=aD a5;have T5:=aD (T4.o.trans t5);clear a5 t5;go_wp2;refine HQ.o _ _ ?_;clear HQ c2 f2 A4 T4;obtain⟨w5,n5⟩:=aU (zk6.setCell ⟨gR,i*7+2,none⟩ (.int .i64 ((q:Int)+1)));rw[<-n5] at A5 T5⊢;clear n5;have za3:=aD (show(d.r.recs.modify i λz=>{z with o:=(q:Int)+1})[i]? =some {x with o:=(q:Int)+1} from Z8 HX.o);have lI:=aD (show v.sR=.slice (some ⟨gR,0,none⟩) (d.r.recs.modify i λz=>{z with o:=(q:Int)+1}).length cR by rw[List.length_modify];exact HR.o);refine CW.sq H ?_;refine CW.pQ H zaD (λTv Q HQ=>?_);obtain⟨zg4,xF⟩:=aU (Tt.tp w5 Tv 0);have A6:=aD (show bF zg4 lo hb v _ by rw[xF];exact A5.o.tp Tv 0);have T6:=aD (show bM hb v w v zg4 by rw[xF];exact T5.o.tp Tv 0);dsimp only;rw[<-xF];clear xF A5 T5;have El:zg4.cell? ⟨hb,11,none⟩=some (.int .i64 d.r.clk):=aJ A6.o.blk 11;obtain⟨c4,f4⟩:=A6.o.recAt lI.o za3.o (j:=4) (u:=.int .i64 x.h) aH rfl;obtain⟨a7,t7⟩:=A6.o.setR (λz=>{z with h:=d.r.clk}) lI.o za3.o (j:=4) (u:=.int .i64 d.r.clk) aH zpZ rfl;simp only[zdl] at a7;have A7:=aD a7;have T7:=aD (T6.o.trans t7);clear a7 t7;go_wp2;refine HQ.o _ _ ?_;clear HQ c4 f4 A6 T6 El;obtain⟨w7,qU⟩:=aU (zg4.setCell ⟨gR,i*7+4,none⟩ (.int .i64 d.r.clk));rw[<-qU] at A7 T7⊢;clear qU;have Fl:=P3 (c:=c) aC aC;refine CW.sq H ?_;refine CW.pQ H zaD (λZq Q HQ=>?_);dsimp only
 go_wp2_with (go_at_call 112;refine(zk2 c aC aC _).mono ?_;rintro en w8 ⟨rfl,Is⟩;obtain rfl:=Is)
 refine HQ.o _ _ ?_;clear HQ;refine CW.rt H ?_;exact⟨.inr rfl,rfl,.string ⟨([99,97,108,108,32]++jM c).toArray⟩,(by have ee:(⟨#[99,97,108,108,32]⟩:ByteArray)++⟨(jM c).toArray⟩=⟨([99,97,108,108,32]++jM c).toArray⟩:=(by simp[Hx]);rw[<-ee];rfl),rfl,rfl,A7.o.tp Zq 0,T7.o.tp Zq 0⟩
structure zcn (qs:List Nat)(lo hb:Nat)(v:fO)(d:nK)(w:aE)(k n:Nat)(R:b6×List UInt8)(l':gS)(y:aF)(w':aE):Prop where
 l:l'=.wk qs (k+n)
 y:y=.string ⟨R.2.toArray⟩
 x:∃v',bF w' lo hb v' {d with r:=R.1}/\gC v' {d with r:=R.1}/\bM hb v w v' w'/\zN v v'
def B4 (W:List fJ)(k:Nat)(A:List fJ):Prop:=∀(j:Nat) (x:fJ),A[j]? =some x->W[k+j]? =some x
variable {W A:List fJ}
def B4.head {x:fJ}(h:B4 W k (x::A)):W[k]? =some x:=h 0 x rfl
theorem B4.tail {x:fJ}(h:B4 W k (x::A)):B4 W (k+1) A:=λj y hy=>by
 have:=h (j+1) y hy;rw[show k+1+j=k+(j+1) by omega];exact this
variable {n:Nat}
theorem zmf {E s:Nat}{v:aF}{xs:List aF}(h:w.ownsRow lo E s v n xs)(hn:0<n):∃g c,v=.slice (some ⟨g,0,none⟩) n c:=by
 rcases h.2 with⟨_,h0⟩|⟨g,cap,cur,e,_⟩
 .omega
 .exact⟨g,_,e⟩
variable {b:b6}
theorem zpP (hr:RInv b)(op:Int):0<=dK b.recs op/\(dK b.recs op≠0->0<dK b.recs op):=by
 rcases zuN b.recs op with⟨i,x,h1,_,_,h4⟩|⟨_,h4⟩
 .have:=(hr.recB x (dX h1)).1
  rw[h4];omega
 .rw[h4];exact⟨Int.le_refl _,λh=>absurd rfl h⟩
theorem Jz (q:Nat):zK ((q:Int)+1)=q:=by unfold zK;omega
def Rb:vR aK 103:=⟨_,zyh,.inr (.inl ⟨_,rfl⟩)⟩
theorem cf_pick (H:e.d.Ok)(h:bF w lo hb v d)(mr:gC v d)(hi:yS d)(hW:B4 e.W k (Fu d.r ((q:Int)+1)))(hq:q<d.qn.length)(yG:q<=100)(hK:∀(i g:Nat),d.qn[i]? =some g->K g (qa e.qs i)):
 CF e.d 103 #[.pointer (some ⟨hb,0,none⟩),.int .i64 ((q:Int)+1)] K (.wk e.qs k) w (λK' l' y w'=>zcn e.qs lo hb v d w k (Fu d.r ((q:Int)+1)).length (nH d.r ((q:Int)+1)) l' y w'):=by
 refine CF.of 35 zyh (.inr (.inl ⟨_,rfl⟩)) ?_;have A0:=aD h;have T0:=aD (bM.refl (hb:=hb) (v:=v) (w:=w));obtain⟨ans,M7⟩:=aU (dK d.r.recs ((q:Int)+1));have HA:=aD M7;have HI:=aD hi;have MR:=aD mr;have hg:=zpP hi.R ((q:Int)+1);rw[<-M7] at hg;have Qj:e.W[k]? =some (.ask q 0 0 ans):=by have:=hW.head;rw[Jz,<-M7] at this;exact this
 have HW:=aD hW;clear h mr hi hW M7;refine CW.sq H (CW.p0 H Rb A0 T0 λw1 fB A1 T1=>?_);refine CW.sq H ?_;refine CW.sq H ?_;refine CW.rg H [0,1,2,3] ?_;refine CR.mv H (.pointer (some ⟨hb,0,none⟩)) ?_;refine CR.mv H (.int .i64 ((q:Int)+1)) ?_;refine CR.cl H (zbO H A1.o Qj hq yG hK) (λK' l' y w' hl oQ=>?_);obtain⟨rfl,rfl,qO⟩:=oQ;simp only[cC,gI,dW,dS];have A2:=aD (show bF w' lo hb v d by rw[qO];exact A1.o.alloc _);have T2:=aD (show bM hb v w v w' by rw[qO];exact T1.o.trans (bM.below (dO (eG _ _) _)));have rT:∀(i g:Nat),d.qn[i]? =some g->K' g (qa e.qs i):=λi g hg=>hl _ _ (hK i g hg);clear qO A1 T1 Qj hK hl;by_cases hz:ans=0
 .
   subst hz;refine nP ?_;refine CR.mg H (.bool false) ?_;refine CR.nil H ?_;refine CW.cd H false ?_;refine CW.sk H ?_;dsimp only;refine CW.sq H ?_;have Bg:¬0<dK d.r.recs ((q:Int)+1):=by rw[<-HA.o];omega
   have HF:=aD Bg;clear hg Bg;obtain⟨AW,cW,Lw,J9⟩:=Gt A2.o.W aH;have Bb:=aD Lw
   cases cD:d.r.wait with
   |nil=>
    have Qm:=aD cD;have e1:nH d.r ((q:Int)+1)=(d.r,[110,111,110,101]):=by unfold nH;rw[if_neg HF.o,Qm.o]
    have e2:Fu d.r ((q:Int)+1)=[.ask q 0 0 0]:=by unfold Fu;rw[if_neg HF.o,Qm.o,Jz,<-HA.o]
    have cK:=aD e1;have nF:=aD e2;clear e1 e2;refine CW.sq H (CW.pW H Rb A2 T2 λw3 Q iT A3 T3 HQ=>?_);have k7:w3.cell? ⟨hb,7,none⟩=some (.slice AW 0 cW):=by
     have:=aJ A3.o.blk 7;rw[this,<-show v.sW=.slice AW 0 cW by rw[Bb.o,cD];rfl];rfl
    clear cD Lw J9;go_wp2;refine HQ.o _ _ ?_;clear HQ;refine CW.cd H true ?_;refine CW.sq H (CW.p0 H Rb A3 T3 λw4 lJ A4 T4=>?_);refine CW.rt H ?_;refine⟨.inr rfl,rfl,.string ⟨#[110,111,110,101]⟩,rfl,⟨by rw[nF.o];rfl,by rw[cK.o],v,?_,?_,?_,zN.rf v⟩⟩
    .rw[cK.o];exact A4.o
    .rw[cK.o];exact MR.o
    .exact T4.o
   |cons c cs=>
    have Qm:=aD cD;obtain⟨i,x,hx,rW,Ih,sY⟩:=HI.o.S.wt c U7;have fA:jI d.r.recs c.c=some i:=by rw[<-Ih];exact HI.o.S.at_ hx rW
    have I6:=HI.o.R.waitB c U7;obtain⟨gL,No,hO,hM,hC⟩:=MR.o.onLine HI.o hx rW Ih;have Ps:dY (c::cs) c.c=cs:=zgX (st:=[]) (by have:=HI.o.R.nodup;rw[cD] at this;exact this);have e1:nH d.r ((q:Int)+1)=({d.r with recs:=d.r.recs.modify i λz=>{z with o:=(q:Int)+1,h:=d.r.clk},wait:=cs},[99,97,108,108,32]++jM c.c):=by
     unfold nH;rw[if_neg HF.o,cD];simp only[fA,Ps]
    have e2:Fu d.r ((q:Int)+1)=[.ask q 0 0 0,.ask q 1 c.c c.c]:=by unfold Fu;rw[if_neg HF.o,cD,Jz,<-HA.o]
    have zbt:e.W[k+1]? =some (.ask q 1 c.c c.c):=by have:=HW.o;rw[e2] at this;exact this.tail.head
    obtain⟨gW,zJQ,zst⟩:=zmf A2.o.W U7;rw[Lw] at zst;injection zst with rG yA L2;subst rG;have hlen:d.r.wait.length=cs.length+1:=by rw[cD];rfl
    have Jw:=HI.o.sm.nw;have zuz:=aD hlen;have Ul:=aD (show v.sW=.slice (some ⟨gW,0,none⟩) (cs.length+1) cW by rw[Bb.o,hlen]);have HX:=aD hx;have HM:=aD hM;have cK:=aD e1;have nF:=aD e2;have zCj:cs.length<=1000:=aC;have O1:=I6.1;have qN:=I6.2;clear cD hx rW Ih sY fA I6 No hO hM hC Ps e1 e2 Lw J9 Bb hlen Jw yA L2;refine CW.sq H (CW.pW H Rb A2 T2 λw3 Q iT A3 T3 HQ=>?_);have k7:w3.cell? ⟨hb,7,none⟩=some (.slice (some ⟨gW,0,none⟩) (cs.length+1) cW):=by
     have:=aJ A3.o.blk 7;rw[this,<-Ul.o];rfl
    go_wp2;refine HQ.o _ _ ?_;clear HQ;clear k7;refine CW.cd H false ?_;refine CW.sk H ?_;dsimp only;refine CW.sq H (CW.pW H Rb A3 T3 λw4 Q lJ A4 T4 HQ=>?_);have k7:w4.cell? ⟨hb,7,none⟩=some (.slice (some ⟨gW,0,none⟩) (cs.length+1) cW):=by
     have:=aJ A4.o.blk 7;rw[this,<-Ul.o];rfl
    have oF:w4.ownsRow lo 149 2 (.slice (some ⟨gW,0,none⟩) (cs.length+1) cW) (cs.length+1) (bG (c::cs)):=by
     have:=A4.o.W;rw[Ul.o,Qm.o] at this;exact this
    obtain⟨bW,oW,x',hA,mX,eE,e0,e1⟩:=zei (y9 oF aH) (k:=0) aC;injection hA with hA;injection hA with y8 y4;subst y8 y4;have lK:c=x':=by simpa using eE
    subst lK;simp only[Nat.zero_mul,Qx] at e0 e1;clear oF eE;go_wp2;refine HQ.o _ _ ?_;clear HQ;clear k7 e0 e1 mX;refine CW.sq H (CW.pW H Rb A4 T4 λw5 Q n5 A5 T5 HQ=>?_);have k7:w5.cell? ⟨hb,7,none⟩=some (.slice (some ⟨gW,0,none⟩) (cs.length+1) cW):=by
     have:=aJ A5.o.blk 7;rw[this,<-Ul.o];rfl
    have oF:w5.ownsRow lo 149 2 (.slice (some ⟨gW,0,none⟩) (cs.length+1) cW) (cs.length+1) (bG (c::cs)):=by
     have:=A5.o.W;rw[Ul.o,Qm.o] at this;exact this
    have Tu:=aD oF;clear oF
    go_wp2_with (go_at_call 119;refine(zIp (i:=0) (j:=1) Tu.o (Vf _) aC aC).mono ?_;rintro en w6 ⟨rfl,Hv,Iv⟩;have Om:w6.ownsRow lo 149 2 (.slice (some ⟨gW,0,none⟩) cs.length cW) cs.length (bG cs):=Hv;have Bu:w5.grownBy w6 v.sW.ownBlock:=(by rw[Ul.o];exact Iv);have hq:=(A5.o.other (j:=5) (c:=7) (x:=v.sW) rfl aH Bu (.slice (some ⟨gW,0,none⟩) cs.length cW)).2;have Yx:=aJ (hq.trans A5.o.blk) 7;have kf:=eK (hq.trans A5.o.blk) 7;have An:=aD (And.intro Om Bu);clear Hv Iv Om Bu hq)
    refine HQ.o _ _ ?_;clear HQ;clear k7 Yx kf;obtain⟨a6,t6⟩:=A5.o.putW An.o.2 An.o.1 rfl (.inl (by rw[Ul.o];rfl));have A6:=A5;have T6:=T5;obtain⟨w7,qU⟩:=aU (w6.setCell ⟨hb,7,none⟩ (.slice (some ⟨gW,0,none⟩) cs.length cW));have A7:=aD (show bF w7 lo hb {v with sW:=.slice (some ⟨gW,0,none⟩) cs.length cW} {d with r:={d.r with wait:=cs}} by rw[qU];exact a6);have T7:=aD (show bM hb v w {v with sW:=.slice (some ⟨gW,0,none⟩) cs.length cW} w7 by rw[qU];exact(T5.o.trans t6));rw[<-qU];clear qU A6 T6;clear a6 t6 An A5 T5;refine CW.sq H ?_;refine CW.rg H [0,1,2,3,4] ?_;refine CR.mv H (.pointer (some ⟨hb,0,none⟩)) ?_;refine CR.mv H (.int .i64 ((q:Int)+1)) ?_;refine CR.mv H (.int .i64 c.c) ?_;refine CR.cl H (ztY H A7.o zbt hq yG rT HX.o HM.o O1 qN) (λK2 l2 y2 w8 zol oQ=>?_);obtain⟨rfl,rfl,a8,t8⟩:=oQ;simp only[cC,gI,dW,dS];refine nP ?_;refine CR.mv H (.string ⟨([99,97,108,108,32]++jM c.c).toArray⟩) ?_;refine CR.nil H ?_;refine CW.rt H ?_;refine⟨.inr rfl,rfl,.string ⟨([99,97,108,108,32]++jM c.c).toArray⟩,rfl,⟨by rw[nF.o];rfl,by rw[cK.o],_,?_,?_,T7.o.trans t8,⟨rfl,rfl,rfl,rfl⟩⟩⟩
    .rw[cK.o];exact a8
    .rw[cK.o];refine gC.of (MR.o.mod (f:=λz=>{z with o:=(q:Int)+1,h:=d.r.clk}) (i:=i) λz=>⟨rfl,rfl,rfl⟩) ?_ ?_ ?_ ?_ ?_<;>rfl
 .
   have aT:0<ans:=hg.2 hz;have nJ:(ans !=0)=true:=by simpa using hz
   refine nP ?_;refine CR.mv H (.bool true) ?_ (hx:=λT=>by unfold aS;go_simp;try exact nJ);refine CR.nil H ?_;refine CW.cd H true ?_;refine CW.sq H (CW.p0 H Rb A2 T2 λw3 iT A3 T3=>?_);refine CW.rt H ?_;have Bs:0<dK d.r.recs ((q:Int)+1):=by rw[<-HA.o];exact aT
   have e1:nH d.r ((q:Int)+1)=(d.r,[116,97,108,107,115]):=by unfold nH;rw[if_pos Bs]
   have e2:Fu d.r ((q:Int)+1)=[.ask q 0 0 ans]:=by unfold Fu;rw[if_pos Bs,Jz,<-HA.o]
   refine⟨.inr rfl,rfl,.string ⟨#[116,97,108,107,115]⟩,rfl,⟨by rw[e2];rfl,by rw[e1],v,?_,?_,?_,zN.rf v⟩⟩
   .rw[e1];exact A3.o
   .rw[e1];exact MR.o
   .exact T3.o
variable {f:bS->bS}
theorem zzh {rs:List bS}:(rs++[x]).modify rs.length f=rs++[f x]:=by
 apply List.ext_getElem?;intro j;rw[List.getElem?_modify];rcases zsh j rs.length with h|h|h
 .rw[zI h,zI h]
  have aT:rs.length≠j:=aC;simp[aT]
 .subst h
  rw[Ao (aV _),Ao (aV _),Mx];simp
 .rw[Ca qR,Ca qR];rfl
structure FreeAt (d:nK)(l:Int)(i g:Nat):Prop where
 l:l=(i:Int)+1
 g:d.ln[i]? =some g
 i6:i<=100
 un:q8 d.r.recs ((i:Int)+1)=false
variable {l:Int}{ls:List Int}
theorem yS.free (h:yS d)(hf:oE d.r.o d.r.recs=l::ls):∃i g,FreeAt d l i g:=by
 have hm:l∈oE d.r.o d.r.recs:=by rw[hf];simp
 obtain⟨h1,h2⟩:=ze7 h.R.off hm;have h3:=(zet hm).2;have hn:=h.nln;obtain⟨i,rfl⟩:∃i:Nat,l=(i:Int)+1:=⟨(l-1).toNat,aC⟩;have hi:i<d.ln.length:=aC;refine⟨i,_,rfl,lV hi,aC,?_⟩;unfold oE xU at hm;have:=(Ia.1 hm).2;simpa using this
theorem zxv (hf:oE d.r.o d.r.recs=l::ls):Iu d=l-1:=by unfold Iu;rw[hf]
theorem zv4 (hf:oE d.r.o d.r.recs=[]):Iu d= -1:=by unfold Iu;rw[hf]
def Ha:vR aK 104:=⟨_,zsg,.inr (.inl ⟨_,rfl⟩)⟩
theorem cf_back (H:e.d.Ok)(h:bF w lo hb v d)(mr:gC v d)(hi:yS d)(dV:lo<=w.heap.size)(hW:B4 e.W k (Dd d.r ((q:Int)+1)))(hq:q<d.qn.length)(yG:q<=100)(hK:∀(i g:Nat),d.qn[i]? =some g->K g (qa e.qs i)):
 CF e.d 104 #[.pointer (some ⟨hb,0,none⟩),.int .i64 ((q:Int)+1)] K (.wk e.qs k) w (λK' l' y w'=>zcn e.qs lo hb v d w k (Dd d.r ((q:Int)+1)).length (lZ d.r ((q:Int)+1)) l' y w'):=by
 refine CF.of 43 zsg (.inr (.inl ⟨_,rfl⟩)) ?_;have A0:=aD h;have T0:=aD (bM.refl (hb:=hb) (v:=v) (w:=w));obtain⟨ans,M7⟩:=aU (dK d.r.recs ((q:Int)+1));have HA:=aD M7;have HI:=aD hi;have MR:=aD mr;have Me:=aD dV;have hg:=zpP hi.R ((q:Int)+1);rw[<-M7] at hg;have Qj:e.W[k]? =some (.ask q 0 0 ans):=by have:=hW.head;rw[Jz,<-M7] at this;exact this
 have HW:=aD hW;clear h mr hi hW M7 dV;refine CW.sq H (CW.p0 H Ha A0 T0 λw1 fB A1 T1=>?_);refine CW.sq H ?_;refine CW.sq H ?_;refine CW.rg H [0,1,2,3] ?_;refine CR.mv H (.pointer (some ⟨hb,0,none⟩)) ?_;refine CR.mv H (.int .i64 ((q:Int)+1)) ?_;refine CR.cl H (zbO H A1.o Qj hq yG hK) (λK' l' y w' hl oQ=>?_);obtain⟨rfl,rfl,qO⟩:=oQ;simp only[cC,gI,dW,dS];have A2:=aD (show bF w' lo hb v d by rw[qO];exact A1.o.alloc _);have T2:=aD (show bM hb v w v w' by rw[qO];exact T1.o.trans (bM.below (dO (eG _ _) _)));have rT:∀(i g:Nat),d.qn[i]? =some g->K' g (qa e.qs i):=λi g hg=>hl _ _ (hK i g hg);clear qO A1 T1 Qj hK hl;by_cases hz:ans=0
 .
   subst hz;refine nP ?_;refine CR.mg H (.bool false) ?_;refine CR.nil H ?_;refine CW.cd H false ?_;refine CW.sk H ?_;dsimp only;have HF:=aD (show dK d.r.recs ((q:Int)+1)=0 from HA.o.symm);clear hg;refine CW.sq H ?_;obtain⟨AB,cB,L1,zaI⟩:=Gt A2.o.B aH;have yZ:=aD L1;clear zaI
   cases uX:d.r.back with
   |nil=>
    have Ik:=aD uX;have e1:lZ d.r ((q:Int)+1)=(d.r,[110,111,110,101]):=by unfold lZ;rw[if_neg Yv,Ik.o]
    have e2:Dd d.r ((q:Int)+1)=[.ask q 0 0 0]:=by unfold Dd;rw[if_neg Yv,Ik.o,Jz,<-HA.o]
    have cK:=aD e1;have nF:=aD e2;clear e1 e2;refine CW.sq H (CW.pW H Ha A2 T2 λw3 Q iT A3 T3 HQ=>?_);have k8:w3.cell? ⟨hb,8,none⟩=some (.slice AB 0 cB):=by
     have:=aJ A3.o.blk 8;rw[this,<-show v.sB=.slice AB 0 cB by rw[yZ.o,uX];rfl];rfl
    clear uX L1;go_wp2;refine HQ.o _ _ ?_;clear HQ;refine CW.cd H true ?_;refine CW.sq H (CW.p0 H Ha A3 T3 λw4 lJ A4 T4=>?_);refine CW.rt H ?_;refine⟨.inr rfl,rfl,.string ⟨#[110,111,110,101]⟩,rfl,⟨by rw[nF.o];rfl,by rw[cK.o],v,?_,?_,?_,zN.rf v⟩⟩
    .rw[cK.o];exact A4.o
    .rw[cK.o];exact MR.o
    .exact T4.o
   |cons c cs=>
    have Ik:=aD uX;have I6:=HI.o.R.backB c zcO;have fA:jI d.r.recs c.c=none:=HI.o.S.bo c zcO;have Ps:dY (c::cs) c.c=cs:=zgX (st:=[]) (by have:=HI.o.S.bk;rw[uX] at this;exact this);obtain⟨gB,znN,zM⟩:=zmf A2.o.B zcO;rw[L1] at zM;injection zM with rG yA L2;subst rG;have hlen:d.r.back.length=cs.length+1:=by rw[uX];rfl
    have nJ:=HI.o.sm.nb;have Cb:=HI.o.sm.nr;have Rp:=aD (show v.sB=.slice (some ⟨gB,0,none⟩) (cs.length+1) cB by rw[yZ.o,hlen]);have uQ:=aD fA;have zBn:=aD Ps;have zCj:cs.length<=5000:=aC;have O1:=I6.1;have qN:=I6.2;clear uX fA Ps I6 L1 yZ hlen nJ yA L2;refine CW.sq H (CW.pW H Ha A2 T2 λw3 Q iT A3 T3 HQ=>?_);have k8:w3.cell? ⟨hb,8,none⟩=some (.slice (some ⟨gB,0,none⟩) (cs.length+1) cB):=by
     have:=aJ A3.o.blk 8;rw[this,<-Rp.o];rfl
    go_wp2;refine HQ.o _ _ ?_;clear HQ;clear k8;refine CW.cd H false ?_;refine CW.sk H ?_;dsimp only;have zc9:=HI.o.nln;have zao:d.ln.length<=100:=by have:=(Cd HI.o.R.off).2.1;omega
    have zcB:=aD (λW (a:bF W lo hb v d)=>zpI a MR.o zc9 zao);clear zc9 zao;refine CW.sq H (CW.pW H Ha A3 T3 λw4 Q lJ A4 T4 HQ=>?_)
    go_wp2_with (go_at_call 109;refine(zcB.o _ A4.o).mono ?_;rintro en wz ⟨rfl,uY⟩;obtain rfl:=uY)
    refine HQ.o _ _ ?_;clear HQ;clear zcB;refine CW.sq H ?_
    cases fQ:oE d.r.o d.r.recs with
    |nil=>
     rw[zv4 fQ];have Qi:=aD fQ;have e1:lZ d.r ((q:Int)+1)=(d.r,[98,117,115,121]):=by unfold lZ;rw[if_neg Yv,Ik.o];simp only[fQ]
     have e2:Dd d.r ((q:Int)+1)=[.ask q 0 0 0]:=by unfold Dd;rw[if_neg Yv,Ik.o,Jz,<-HA.o];simp only[fQ]
     have cK:=aD e1;have nF:=aD e2;clear e1 e2 fQ;refine CW.sq H (CW.p0 H Ha A4 T4 λw5 n5 A5 T5=>?_);refine CW.cd H true ?_;refine CW.sq H (CW.p0 H Ha A5 T5 λw6 pK A6 T6=>?_);refine CW.rt H ?_;refine⟨.inr rfl,rfl,.string ⟨#[98,117,115,121]⟩,rfl,⟨by rw[nF.o];rfl,by rw[cK.o],v,?_,?_,?_,zN.rf v⟩⟩
     .rw[cK.o];exact A6.o
     .rw[cK.o];exact MR.o
     .exact T6.o
    |cons l ls=>
     obtain⟨i,gL,vM⟩:=HI.o.free fQ;have uH:Iu d=(i:Int):=by rw[zxv fQ,vM.l];omega
     rw[uH];have e1:lZ d.r ((q:Int)+1)=({d.r with back:=cs,recs:=d.r.recs++[⟨c.c,(i:Int)+1,(q:Int)+1,d.r.clk,d.r.clk,-1,eO⟩]},[99,97,108,108,32]++jM c.c):=by
      unfold lZ;rw[if_neg Yv,Ik.o];simp only[fQ,zBn.o,vM.l]
     have e2:Dd d.r ((q:Int)+1)=[.ask q 0 0 0,.ask q 1 c.c c.c]:=by unfold Dd;rw[if_neg Yv,Ik.o,Jz,<-HA.o];simp only[fQ]
     have zbt:e.W[k+1]? =some (.ask q 1 c.c c.c):=by have:=HW.o;rw[e2] at this;exact this.tail.head
     have cK:=aD e1;have nF:=aD e2;have FA:=aD vM;have zHr:=vM.i6;clear e1 e2 fQ vM uH;refine CW.sq H (CW.pW H Ha A4 T4 λw5 Q n5 A5 T5 HQ=>?_);have i0:(0:Int)<=(i:Int):=aC;go_wp2;refine HQ.o _ _ ?_;clear HQ;refine CW.cd H false ?_;refine CW.sk H ?_;dsimp only;refine CW.sq H (CW.pW H Ha A5 T5 λw6 Q pK A6 T6 HQ=>?_);have k8:w6.cell? ⟨hb,8,none⟩=some (.slice (some ⟨gB,0,none⟩) (cs.length+1) cB):=by
      have:=aJ A6.o.blk 8;rw[this,<-Rp.o];rfl
     have oF:w6.ownsRow lo 3 1 (.slice (some ⟨gB,0,none⟩) (cs.length+1) cB) (cs.length+1) (eH ((c::cs).map bE.c)):=by
      have:=A6.o.B;rw[Rp.o,Ik.o] at this;exact this
     obtain⟨bB,oB,x',hA,_,_,mX,eE,e0⟩:=(y9 oF aH).cellAt (k:=0) aC;injection hA with hA;injection hA with y8 y4;subst y8 y4;have lK:c.c=x':=by simpa using eE
     subst lK
     try simp only[Qx] at e0
     clear oF eE;go_wp2;refine HQ.o _ _ ?_;clear HQ;clear k8 e0 mX;refine CW.sq H (CW.pW H Ha A6 T6 λw7 Q qU A7 T7 HQ=>?_);have k8:w7.cell? ⟨hb,8,none⟩=some (.slice (some ⟨gB,0,none⟩) (cs.length+1) cB):=by
      have:=aJ A7.o.blk 8;rw[this,<-Rp.o];rfl
     have oF:w7.ownsRow lo 3 1 (.slice (some ⟨gB,0,none⟩) (cs.length+1) cB) (cs.length+1) (eH ((c::cs).map bE.c)):=by
      have:=A7.o.B;rw[Rp.o,Ik.o] at this;exact this
     have Tu:=aD oF;clear oF
     go_wp2_with (go_at_call 114;refine(zpa (i:=0) (j:=1) Tu.o (zqa _) aC aC).mono ?_;rintro en w8 ⟨rfl,Hv,Iv⟩;have Om:w8.ownsRow lo 3 1 (.slice (some ⟨gB,0,none⟩) cs.length cB) cs.length (eH (cs.map bE.c)):=Hv;have Bu:w7.grownBy w8 v.sB.ownBlock:=(by rw[Rp.o];exact Iv);have hq:=(A7.o.other (j:=6) (c:=8) (x:=v.sB) rfl aH Bu (.slice (some ⟨gB,0,none⟩) cs.length cB)).2;have Qe:=aJ (hq.trans A7.o.blk) 8;have kf:=eK (hq.trans A7.o.blk) 8;have An:=aD (And.intro Om Bu);clear Hv Iv Om Bu hq)
     refine HQ.o _ _ ?_;clear HQ;clear k8 Qe kf;obtain⟨a6,t6⟩:=A7.o.putB An.o.2 An.o.1 rfl (.inl (by rw[Rp.o];rfl));have A8:=A7;have T8:=T7;obtain⟨w9,Iw⟩:=aU (w8.setCell ⟨hb,8,none⟩ (.slice (some ⟨gB,0,none⟩) cs.length cB));have A9:=aD (show bF w9 lo hb {v with sB:=.slice (some ⟨gB,0,none⟩) cs.length cB} {d with r:={d.r with back:=cs}} by rw[Iw];exact a6);have T9:=aD (show bM hb v w {v with sB:=.slice (some ⟨gB,0,none⟩) cs.length cB} w9 by rw[Iw];exact(T7.o.trans t6));rw[<-Iw];clear Iw A8 T8;clear a6 t6 An A7 T7;refine CW.sq H (CW.pW H Ha A9 T9 λvU Q Dr sH wK HQ=>?_);have zBX:lo<=vU.heap.size:=eM Me.o wK.o.size
     go_wp2_with (go_at_call 110;refine(zxM sH.o zBX FA.o.g aC Cb c.c).mono ?_;rintro en Cr ⟨rfl,v11,zqU,t11,zpi⟩;have Ay:=aD zqU;have E0:=aD (wK.o.trans t11);have Qh:=aD zpi;clear zqU t11 zpi)
     refine HQ.o _ _ ?_;clear HQ;clear sH wK;refine CW.sq H ?_;refine CW.rg H [0,1,2,3,4] ?_;refine CR.mv H (.pointer (some ⟨hb,0,none⟩)) ?_;refine CR.mv H (.int .i64 ((q:Int)+1)) ?_;refine CR.mv H (.int .i64 c.c) ?_;refine CR.cl H (ztY H Ay.o zbt hq yG rT (i:=d.r.recs.length) (x:=⟨c.c,(i:Int)+1,0,d.r.clk,-1,-1,eO⟩) (by show(d.r.recs++[_])[d.r.recs.length]? =_;rw[Ao (aV _),Mx];rfl) (by rw[Qh.o.2.2.1,Z1,if_pos rfl]) O1 qN) (λK2 l2 y2 Kb zol oQ=>?_);obtain⟨rfl,rfl,a12,t12⟩:=oQ;simp only[cC,gI,dW,dS];refine nP ?_;refine CR.mv H (.string ⟨([99,97,108,108,32]++jM c.c).toArray⟩) ?_;refine CR.nil H ?_;refine CW.rt H ?_;have e3:(d.r.recs++[(⟨c.c,(i:Int)+1,0,d.r.clk,-1,-1,eO⟩:bS)]).modify d.r.recs.length (λz=>{z with o:=(q:Int)+1,h:=d.r.clk})=d.r.recs++[⟨c.c,(i:Int)+1,(q:Int)+1,d.r.clk,d.r.clk,-1,eO⟩]:=zzh;refine⟨.inr rfl,rfl,.string ⟨([99,97,108,108,32]++jM c.c).toArray⟩,rfl,⟨by rw[nF.o];rfl,by rw[cK.o],v11,?_,?_,E0.o.trans t12,?_⟩⟩
     .rw[cK.o]
      have znF:=a12;dsimp only at znF;rw[e3] at znF;exact znF
     .rw[cK.o]
      refine gC.of (MR.o.more HI.o.ndl FA.o.g FA.o.un uQ.o (o:=(q:Int)+1) (hh:=d.r.clk) (tt:=-1) (clk:=d.r.clk)) ?_ ?_ ?_ ?_ ?_
      .exact Qh.o.1
      .exact Qh.o.2.1
      .exact Qh.o.2.2.1
      .rfl
      .rfl
     .exact⟨Qh.o.2.2.2.1,Qh.o.2.2.2.2.1,Qh.o.2.2.2.2.2.2.2.1,Qh.o.2.2.2.2.2.2.2.2⟩
 .
   have aT:0<ans:=hg.2 hz;have nJ:(ans !=0)=true:=by simpa using hz
   have Bs:0<dK d.r.recs ((q:Int)+1):=by rw[<-HA.o];exact aT
   have cK:=aD (show lZ d.r ((q:Int)+1)=(d.r,[116,97,108,107,115]) by unfold lZ;rw[if_pos Bs]);have nF:=aD (show Dd d.r ((q:Int)+1)=[.ask q 0 0 ans] by unfold Dd;rw[if_pos Bs,Jz,<-HA.o]);clear Bs;refine nP ?_;refine CR.mv H (.bool true) ?_ (hx:=λT=>by unfold aS;go_simp;try exact nJ);refine CR.nil H ?_;refine CW.cd H true ?_;refine CW.sq H (CW.p0 H Ha A2 T2 λw3 iT A3 T3=>?_);refine CW.rt H ?_;refine⟨.inr rfl,rfl,.string ⟨#[116,97,108,107,115]⟩,rfl,⟨by rw[nF.o];rfl,by rw[cK.o],v,?_,?_,?_,zN.rf v⟩⟩
   .rw[cK.o];exact A3.o
   .rw[cK.o];exact MR.o
   .exact T3.o
theorem zxf (xs:List bE)(q:Int):(xs.map bE.c).findIdx? (·==q)=vP xs q:=by
 unfold vP;rw[List.findIdx?_map];rfl
variable {q:Int}{xs:List bE}
theorem zIx {p:Nat}(hn:(xs.map bE.c).Nodup)(h:vP xs q=some p):dY xs q=xs.take p++xs.drop (p+1)/\p<xs.length:=by
 unfold vP at h;obtain⟨hl,hx,_⟩:=zmA.1 h;have hq:xs[p].c=q:=by simpa using hx
 have e:xs=xs.take p++xs[p]::xs.drop (p+1):=by rw[<-List.drop_eq_getElem_cons hl,List.take_append_drop]
 refine⟨?_,hl⟩;have:=zgX (st:=xs.take p) (rest:=xs.drop (p+1)) (x:=xs[p]) (by rw[<-e];exact hn);rw[<-e,hq] at this;exact this
theorem zDQ (h:∀x∈xs,x.c≠q):dY xs q=xs:=by
 unfold dY;rw[List.filter_eq_self];intro x hx;simpa using h x hx
theorem zFU (xs:List bE)(p r:Nat):eH ((xs.take p++xs.drop r).map bE.c)=(eH (xs.map bE.c)).take p++(eH (xs.map bE.c)).drop r:=by
 unfold eH;rw[Hr,Hr,zuG,zse,zuG,zse]
theorem zDp {gx:Nat}(uF:w.heap[gx]? =some (.cells #[.int .i64 q] 3)):
 Calls aK 117 #[.slice none 0 0,.func (.func 118) #[] #[.pointer (some ⟨gx,0,none⟩)]] w λe w'=>e=.returned (.slice none 0 0)/\Below w.heap.size w w':=by
 have HI:=aD (zr7 0 w.heap.size 0 0 none [] gx q w ⟨rfl,jO _,jO _,λh=>absurd h aC⟩ aC uF)
 go_enter Tryz.func117,Tryz.ntmps117
 go_wp2_with (go_at_call 124;refine HI.o.mono ?_;rintro e w1 ⟨rfl,uN⟩;have pU:=aD uN)
 go_ret;exact⟨rfl,pU.o⟩
def x4:vR aK 102:=⟨_,zuT,.inr (.inl ⟨_,rfl⟩)⟩
theorem cf_hang (H:e.d.Ok)(h:bF w lo hb v d)(mr:gC v d)(hi:yS d)(dV:lo<=w.heap.size)(hW:B4 e.W k (Dp d.r c))(hK:∀(i g:Nat),d.qn[i]? =some g->K g (qa e.qs i)):
 CF e.d 102 #[.pointer (some ⟨hb,0,none⟩),.int .i64 c] K (.wk e.qs k) w (λK' l' y w'=>zcn e.qs lo hb v d w k (Dp d.r c).length (mJ d.r c) l' y w'):=by
 refine CF.of 59 zuT (.inr (.inl ⟨_,rfl⟩)) ?_;have A0:=aD h;have T0:=aD (bM.refl (hb:=hb) (v:=v) (w:=w));have HI:=aD hi;have MR:=aD mr;have Me:=aD dV;have HW:=aD hW;have nJ:=hi.sm.nb;have Jw:=hi.sm.nw;clear h mr hi hW dV;refine CW.sq H (CW.pW H x4 A0 T0 λw1 Q fB A1 T1 HQ=>?_);go_wp2;refine HQ.o _ _ ?_;clear HQ;obtain⟨gx,uF⟩:=aU w1.heap.size;obtain⟨w2,fZ⟩:=aU (w1.alloc (.cells #[.int .i64 c] 3));have A2:=aD (show bF w2 lo hb v d by rw[fZ];exact A1.o.alloc _);have T2:=aD (show bM hb v w v w2 by rw[fZ];exact T1.o.trans (bM.below (dO (eG _ _) _)));have zdv:=aD (show w2.heap[gx]? =some (.cells #[.int .i64 c] 3) by rw[fZ,uF];exact lP _ _);have NP:=aD (show some gx∉parts v hb from λhp=>by have:=(A1.o.lt _ hp).2;omega);rw[<-uF,<-fZ];clear fZ uF A1 T1;refine CW.sq H ?_
 cases fA:jI d.r.recs c with
 |none=>
  have uQ:=aD fA;have Rt:=aD (MR.o.offLine fA);clear fA;refine CW.sq H (CW.pW H x4 A2 T2 λw3 Q iT A3 T3 HQ=>?_);have vH:=aD (iT▸zdv.o);have k5:w3.cell? ⟨hb,5,none⟩=some (.map (some v.mO)):=aJ A3.o.blk 5;have kx:=aJ vH.o 0;have lk:(zP 67 (.map (some v.mO)) (.int .i64 c) false).run aK w3.drew=.ok (.chan none) w3.drew:=by
   have:=zar Te J8 (zcm w3.drew) (A3.o.drew.O) (c:=c) false;rw[Rt.o] at this;exact this
  refine zoc w3 hb gx v.mO c none rfl rfl rfl k5 kx lk rfl ?_;rw[Go.Mt.Ac,zih];simp only[Go.Mt.wN,dW,dS,fHG1,lHG1,C2,Cy];refine HQ.o _ _ ?_;clear HQ;clear k5 kx lk;obtain⟨w4,lJ⟩:=aU w3.drew;have A4:=aD (show bF w4 lo hb v d by rw[lJ];exact A3.o.drew);have T4:=aD (show bM hb v w v w4 by rw[lJ];exact T3.o.same rfl);have Nh:=aD (show w4.heap[gx]? =some (.cells #[.int .i64 c] 3) by rw[lJ];exact vH.o);rw[<-lJ];clear lJ A3 T3 vH;refine CW.cd H true ?_;obtain⟨AB,cB,L1,zaI⟩:=Gt A4.o.B aH;have yZ:=aD L1;clear L1 zaI;refine CW.sq H (CW.pW H x4 A4 T4 λw5 Q n5 A5 T5 HQ=>?_);have Ds:=aD (n5▸Nh.o);have k8:w5.cell? ⟨hb,8,none⟩=some (.slice AB d.r.back.length cB):=by
   have:=aJ A5.o.blk 8;rw[this,<-yZ.o];rfl
  have kx:=aJ Ds.o 0;have D8:=aD (show b7 w5 lo w5.heap.size 1 AB d.r.back.length cB (eH (d.r.back.map bE.c)) by have:=A5.o.B;rw[yZ.o] at this;exact y9 this aH);have HE:=aD (λnq:Nat=>Calls.quiet_of_same (w:=w5) (n:=nq) ((zw8 lo w5.heap.size d.r.back.length cB AB (d.r.back.map bE.c) c (w5.drewN nq) (have hs:=D8.o;⟨hs.len,hs.le,hs.cap,hs.at_⟩) aC).mono λe w' hh=>hh))
  go_wp2_with fail
  go_quiet ((go_at_call 113;exact HE.o _))
  go_wp2_with fail
  refine HQ.o _ _ ?_;clear HQ;obtain⟨w6,pK⟩:=aU (w5.drewN nq);have A6:=aD (show bF w6 lo hb v d by rw[pK];exact A5.o.same rfl);have T6:=aD (show bM hb v w v w6 by rw[pK];exact T5.o.same rfl);have Kn:=aD (show w6.heap[gx]? =some (.cells #[.int .i64 c] 3) by rw[pK];exact Ds.o);rw[<-pK];clear pK A5 T5 Ds k8 kx D8 HE;refine CW.sq H ?_;rw[zxf]
  cases G7:vP d.r.back c with
  |none=>
   have cK:=aD (show mJ d.r c=(d.r,[103,111,110,101]) by unfold mJ;rw[uQ.o];simp only[G7];rfl);have nF:=aD (show Dp d.r c=[] by unfold Dp;rw[uQ.o]);clear G7;simp only[G5];refine CW.sq H ?_;refine CW.pW H x4 A6 T6 λw7 Q qU A7 T7 HQ=>?_;have G9:=aD (qU▸Kn.o);go_wp2;refine HQ.o _ _ ?_;clear HQ;refine CW.cd H true ?_;refine CW.sq H (CW.pW H x4 A7 T7 λw8 Q Is A8 T8 HQ=>?_);have Il:=aD (Is▸G9.o);go_wp2;refine HQ.o _ _ ?_;clear HQ;refine CW.rt H ?_;refine⟨.inr rfl,rfl,.string ⟨#[103,111,110,101]⟩,rfl,⟨by rw[nF.o];rfl,by rw[cK.o],v,?_,?_,?_,zN.rf v⟩⟩
   .rw[cK.o];exact A8.o
   .rw[cK.o];exact MR.o
   .exact T8.o
  |some p=>
   obtain⟨Ps,l6⟩:=zIx HI.o.S.bk G7;have cK:=aD (show mJ d.r c=({d.r with back:=d.r.back.take p++d.r.back.drop (p+1)},[111,102,102]) by unfold mJ;rw[uQ.o];simp only[G7];rw[<-Ps];rfl);have nF:=aD (show Dp d.r c=[] by unfold Dp;rw[uQ.o]);have zLE:p<=5000:=aC;obtain⟨gB,znN,zM⟩:=zmf A6.o.B aC;rw[yZ.o] at zM;injection zM with rG yA L2;subst rG;have i0:(0:Int)<=(p:Int):=aC;clear G7 Ps yA L2;simp only[G5];refine CW.sq H ?_;refine CW.pW H x4 A6 T6 λw7 Q qU A7 T7 HQ=>?_;have G9:=aD (qU▸Kn.o);go_wp2;refine HQ.o _ _ ?_;clear HQ;refine CW.cd H false ?_;refine CW.sk H ?_;dsimp only;refine CW.sq H (CW.pW H x4 A7 T7 λw8 Q Is A8 T8 HQ=>?_);have Il:=aD (Is▸G9.o);have k8:w8.cell? ⟨hb,8,none⟩=some (.slice (some ⟨gB,0,none⟩) d.r.back.length cB):=by
    have:=aJ A8.o.blk 8;rw[this,<-yZ.o];rfl
   have Tu:=aD (show w8.ownsRow lo 3 1 (.slice (some ⟨gB,0,none⟩) d.r.back.length cB) d.r.back.length (eH (d.r.back.map bE.c)) by have:=A8.o.B;rw[yZ.o] at this;exact this)
   go_wp2_with (go_at_call 114;refine(zpa (i:=p) (j:=p+1) Tu.o (zqa _) aC aC).mono ?_;intro en w9;rw[show p+1-p=1 by omega];rintro⟨rfl,Hv,Iv⟩;have Om:w9.ownsRow lo 3 1 (.slice (some ⟨gB,0,none⟩) (d.r.back.length-1) cB) (d.r.back.length-1) (eH ((d.r.back.take p++d.r.back.drop (p+1)).map bE.c)):=(by rw[zFU];exact Hv);have Bu:w8.grownBy w9 v.sB.ownBlock:=(by rw[yZ.o];exact Iv);have hq:=(A8.o.other (j:=6) (c:=8) (x:=v.sB) rfl aH Bu (.slice (some ⟨gB,0,none⟩) (d.r.back.length-1) cB)).2;have Qe:=aJ (hq.trans A8.o.blk) 8;have kf:=eK (hq.trans A8.o.blk) 8;have An:=aD (And.intro Om Bu);clear Hv Iv Om Bu hq)
   refine HQ.o _ _ ?_;clear HQ;clear k8 Qe kf;obtain⟨a6,t6⟩:=A8.o.putB An.o.2 An.o.1 qR (.inl (by rw[yZ.o];rfl));have A9:=A8;have T9:=T8;obtain⟨vU,Dr⟩:=aU (w9.setCell ⟨hb,8,none⟩ (.slice (some ⟨gB,0,none⟩) (d.r.back.length-1) cB));have sH:=aD (show bF vU lo hb {v with sB:=.slice (some ⟨gB,0,none⟩) (d.r.back.length-1) cB} {d with r:={d.r with back:=d.r.back.take p++d.r.back.drop (p+1)}} by rw[Dr];exact a6);have wK:=aD (show bM hb v w {v with sB:=.slice (some ⟨gB,0,none⟩) (d.r.back.length-1) cB} vU by rw[Dr];exact(T8.o.trans t6));rw[<-Dr];clear Dr A9 T9;clear a6 t6 An A8 T8 Il;refine CW.sq H (CW.p0 H x4 sH wK λCr zBu Ay E0=>?_);refine CW.rt H ?_;refine⟨.inr rfl,rfl,.string ⟨#[111,102,102]⟩,rfl,⟨by rw[nF.o];rfl,by rw[cK.o],{v with sB:=.slice (some ⟨gB,0,none⟩) (d.r.back.length-1) cB},?_,?_,?_,⟨rfl,rfl,rfl,rfl⟩⟩⟩
   .rw[cK.o];exact Ay.o
   .rw[cK.o];refine gC.of MR.o ?_ ?_ ?_ ?_ ?_<;>rfl
   .exact E0.o
 |some i=>
  obtain⟨x,hx,Ih,rW⟩:=Cg fA;obtain⟨gL,No,hO,hM,hC⟩:=MR.o.onLine HI.o hx rW Ih;obtain⟨gR,cR,hR⟩:=zm5 A2.o hx;have Rt:=aD hO;have HX:=aD hx;have HL:=aD (And.intro No (And.intro hO (And.intro hM hC)));have HR:=aD hR;have uQ:=aD fA;have Y0:=aD (And.intro Ih rW);have hop:=HI.o.ops.op x (dX hx);have Rh:=HI.o.nqn;have Y9:=HI.o.R.off;have Ug:=aD (Cd Y9);have pY:F8 d.r.recs i=c:=by rw[S3 hx,Ih]
  have Mf:opAt d.r.recs i=x.o:=by unfold opAt;rw[hx]
  have Xm:=aD (And.intro pY Mf);clear hx Ih rW No hO hM hC hR fA Y9 pY Mf;refine CW.sq H (CW.pW H x4 A2 T2 λw3 Q iT A3 T3 HQ=>?_);have vH:=aD (iT▸zdv.o);have k5:w3.cell? ⟨hb,5,none⟩=some (.map (some v.mO)):=aJ A3.o.blk 5;have kx:=aJ vH.o 0;have lk:(zP 67 (.map (some v.mO)) (.int .i64 c) false).run aK w3.drew=.ok (.chan (some gL)) w3.drew:=by
   have:=zar Te J8 (zcm w3.drew) (A3.o.drew.O) (c:=c) false;rw[Rt.o] at this;exact this
  refine zoc w3 hb gx v.mO c (some gL) rfl rfl rfl k5 kx lk rfl ?_;rw[Go.Mt.Ac,zih];simp only[Go.Mt.wN,dW,dS,fHG1,lHG1,C2,Cy];refine HQ.o _ _ ?_;clear HQ;clear k5 kx lk;obtain⟨w4,lJ⟩:=aU w3.drew;have A4:=aD (show bF w4 lo hb v d by rw[lJ];exact A3.o.drew);have T4:=aD (show bM hb v w v w4 by rw[lJ];exact T3.o.same rfl);have Nh:=aD (show w4.heap[gx]? =some (.cells #[.int .i64 c] 3) by rw[lJ];exact vH.o);rw[<-lJ];clear lJ A3 T3 vH;refine CW.cd H false ?_;refine CW.sk H ?_;dsimp only;refine CW.sq H ?_;refine CW.sq H (CW.pW H x4 A4 T4 λw5 Q n5 A5 T5 HQ=>?_);have Ds:=aD (n5▸Nh.o);have kx:=aJ Ds.o 0;have zwr:=aD (λW (a:bF W lo hb v d)=>zfd a HR.o HX.o HL.o.2.2.1);obtain⟨c2,f2⟩:=A5.o.recAt HR.o HX.o (j:=2) (u:=.int .i64 x.o) aH rfl
  go_wp2_with (go_at_call 115;refine(zwr.o _ A5.o).mono ?_;rintro en wz ⟨rfl,uY⟩;obtain rfl:=uY)
  refine HQ.o _ _ ?_;clear HQ;clear kx zwr c2 f2;obtain⟨w6,pK⟩:=aU w5.drew;have A6:=aD (show bF w6 lo hb v d by rw[pK];exact A5.o.drew);have T6:=aD (show bM hb v w v w6 by rw[pK];exact T5.o.same rfl);have Kn:=aD (show w6.heap[gx]? =some (.cells #[.int .i64 c] 3) by rw[pK];exact Ds.o);rw[<-pK];clear pK A5 T5 Ds;refine CW.sq H ?_;by_cases hz:x.o=0
  .
    have cK:=aD (show mJ d.r c=(lD d.r i Bv,[108,101,102,116]) by unfold mJ;rw[uQ.o];simp only;rw[Xm.o.2,hz,if_neg aH]);have nF:=aD (show Dp d.r c=[] by unfold Dp;rw[uQ.o];simp only;rw[Xm.o.2,hz,if_neg aH]);rw[hz];clear hz;refine CW.pW H x4 A6 T6 λw7 Q qU A7 T7 HQ=>?_;have G9:=aD (qU▸Kn.o);go_wp2;refine HQ.o _ _ ?_;clear HQ;refine CW.cd H false ?_;refine CW.sk H ?_;dsimp only;refine CW.sq H (CW.pW H x4 A7 T7 λw8 Q Is A8 T8 HQ=>?_);have Il:=aD (Is▸G9.o);have kx:=aJ Il.o 0
    go_wp2_with (go_at_call 116;refine(zm6 (e:=⟨#[108,101,102,116]⟩) A8.o HX.o HL.o.2.1 HL.o.2.2.2 HL.o.2.2.1 HR.o).mono ?_;rintro en w9 ⟨rfl,v9,a5,t5,p5⟩;have A9:=aD a5;have T9:=aD (T8.o.trans t5);have P9:=aD p5;have zvf:=aD t5;clear a5 t5 p5)
    refine HQ.o _ _ ?_;clear HQ;clear kx;have zqs:=aD (gC.of (v':=v9) (MR.o.clear HI.o.S HI.o.ndl (λz hz=>(HI.o.lb z hz).1) HX.o Y0.o.2 HL.o.1 (f:=λz=>{z with t:=d.r.clk,e:=Bv}) (λz=>⟨rfl,rfl⟩) zlQ) P9.o.1 (by rw[P9.o.2.1,Y0.o.1]) P9.o.2.2.1 rfl rfl);obtain⟨kg,np⟩:=A8.o.turned zvf.o Il.o NP.o;have Yy:=aD kg;have zLp:=aD np;clear kg np zvf A8 T8 Il;have zh4:=A9.o.W;have zoi:({d with r:={d.r with recs:=d.r.recs.modify i λz=>{z with t:=d.r.clk,e:=Bv}}}:nK).r.wait.length=d.r.wait.length:=rfl;rcases zh4.2 with⟨Xk,h0⟩|⟨gW,cW,cur,J9,_⟩
    .
      have L6:d.r.wait=[]:=List.eq_nil_of_length_eq_zero h0;have uR:=aD (show lD d.r i Bv={d.r with recs:=d.r.recs.modify i λz=>{z with t:=d.r.clk,e:=Bv}} by unfold lD;rw[L6];show b6.mk _ _ _ [] _ _=_;rw[<-L6];rfl);have zja:=aD Xk;clear zh4 zoi Xk h0 L6;refine CW.sq H (CW.pW H x4 A9 T9 λvU Q Dr sH wK HQ=>?_);have Xx:=aD (Dr▸Yy.o);have k7:vU.cell? ⟨hb,7,none⟩=some (.slice none 0 0):=by
       have:=aJ sH.o.blk 7;rw[this,<-zja.o];rfl
      go_wp2_with (go_at_call 117;refine(zDp Xx.o).mono ?_;rintro en Cr ⟨rfl,zmV⟩;have Ay:=aD (sH.o.below zmV);have E0:=aD (wK.o.trans (bM.below zmV));have Yx:=aJ Ay.o.blk 7;have kf:=eK Ay.o.blk 7;clear zmV)
      refine HQ.o _ _ ?_;clear HQ;clear k7 Yx kf;have zkW:Cr.setCell ⟨hb,7,none⟩ (.slice none 0 0)=Cr.setCell ⟨hb,7,none⟩ v9.sW:=by rw[zja.o]
      have a12:=Ay.o.newW (s':=v9.sW) (xs:=d.r.wait) Ay.o.W rfl (λb e=>by rw[zja.o] at e;cases e);have t12:bM hb v9 Cr v9 (Cr.setCell ⟨hb,7,none⟩ v9.sW):=⟨by rw[sU];exact aV _,λb bZ hn=>eJ Cr _ _ b (λe=>hn zw0),λb hx=>.inl hx⟩;obtain⟨Kb,Na⟩:=aU (Cr.setCell ⟨hb,7,none⟩ (.slice none 0 0));have zcX:=aD (show bF Kb lo hb v9 {d with r:={d.r with recs:=d.r.recs.modify i λz=>{z with t:=d.r.clk,e:=Bv}}} by rw[Na];exact(by rw[zkW];exact a12));have zdh:=aD (show bM hb v w v9 Kb by rw[Na];exact(by rw[zkW];exact E0.o.trans t12));rw[<-Na];clear Na Ay E0;clear a12 t12 zkW sH wK Xx;refine CW.sq H (CW.p0 H x4 zcX zdh λzlJ ztq zap zcT=>?_);refine CW.rt H ?_;refine⟨.inr rfl,rfl,.string ⟨#[108,101,102,116]⟩,rfl,⟨by rw[nF.o];rfl,by rw[cK.o],v9,?_,?_,?_,Cn.kept P9.o.2.2.2.2⟩⟩
      .rw[cK.o];rw[uR.o];exact zap.o
      .rw[cK.o];rw[uR.o];exact zqs.o
      .exact zcT.o
    .
      have uR:=aD (show lD d.r i Bv={d.r with recs:=d.r.recs.modify i (λz=>{z with t:=d.r.clk,e:=Bv}),wait:=dY d.r.wait c} by unfold lD;rw[Xm.o.1];rfl);have Qz:=aD (show v9.sW=.slice (some ⟨gW,0,none⟩) d.r.wait.length cW from J9);clear zh4 zoi J9;refine CW.sq H (CW.pW H x4 A9 T9 λvU Q Dr sH wK HQ=>?_);have Xx:=aD (Dr▸Yy.o);have k7:vU.cell? ⟨hb,7,none⟩=some (.slice (some ⟨gW,0,none⟩) d.r.wait.length cW):=by
       have:=aJ sH.o.blk 7;rw[this,<-Qz.o];rfl
      have Tu:=aD (show vU.ownsRow lo 149 2 (.slice (some ⟨gW,0,none⟩) d.r.wait.length cW) d.r.wait.length (bG d.r.wait) by have:=sH.o.W;rw[Qz.o] at this;exact this)
      go_wp2_with (go_at_call 117;refine(zJL Tu.o aC Xx.o).mono ?_;rintro en Cr ⟨nW,rfl,zrb,Hv,Iv⟩;have Bu:vU.grownBy Cr v9.sW.ownBlock:=(by rw[Qz.o];exact Iv);have hq:=(sH.o.other (j:=5) (c:=7) (x:=v9.sW) rfl aH Bu (.slice (some ⟨gW,0,none⟩) nW cW)).2;have Yx:=aJ (hq.trans sH.o.blk) 7;have kf:=eK (hq.trans sH.o.blk) 7;have An:=aD (And.intro Hv (And.intro Bu zrb));clear Hv Iv Bu hq zrb)
      refine HQ.o _ _ ?_;clear HQ;clear k7 Yx kf;obtain⟨a6,t6⟩:=sH.o.putW An.o.2.1 An.o.1 An.o.2.2 (.inl (by rw[Qz.o];rfl));have Ay:=sH;have E0:=wK;obtain⟨Kb,Na⟩:=aU (Cr.setCell ⟨hb,7,none⟩ (.slice (some ⟨gW,0,none⟩) nW cW));have zcX:=aD (show bF Kb lo hb {v9 with sW:=.slice (some ⟨gW,0,none⟩) nW cW} {d with r:={d.r with recs:=d.r.recs.modify i (λz=>{z with t:=d.r.clk,e:=Bv}),wait:=dY d.r.wait c}} by rw[Na];exact a6);have zdh:=aD (show bM hb v w {v9 with sW:=.slice (some ⟨gW,0,none⟩) nW cW} Kb by rw[Na];exact(wK.o.trans t6));rw[<-Na];clear Na Ay E0;clear a6 t6 An sH wK Xx;refine CW.sq H (CW.p0 H x4 zcX zdh λzlJ ztq zap zcT=>?_);refine CW.rt H ?_;refine⟨.inr rfl,rfl,.string ⟨#[108,101,102,116]⟩,rfl,⟨by rw[nF.o];rfl,by rw[cK.o],{v9 with sW:=.slice (some ⟨gW,0,none⟩) nW cW},?_,?_,?_,⟨P9.o.2.2.2.2.1,P9.o.2.2.2.2.2.1,P9.o.2.2.2.2.2.2.2.2.1,P9.o.2.2.2.2.2.2.2.2.2⟩⟩⟩
      .rw[cK.o];rw[uR.o];exact zap.o
      .rw[cK.o];rw[uR.o];refine gC.of zqs.o ?_ ?_ ?_ ?_ ?_<;>rfl
      .exact zcT.o
  .
    have Bs:0<x.o:=aC;obtain⟨q,zum⟩:∃q:Nat,x.o=(q:Int)+1:=⟨(x.o-1).toNat,aC⟩;have hq:q<d.qn.length:=aC;have yG:q<=100:=by have:=Ug.o.2.2.2.1;omega
    have zhq:dY d.r.wait c=d.r.wait:=zDQ λy hy e=>by
     obtain⟨j,z,h1,h2,h3,h4⟩:=HI.o.S.wt y hy;have:=HI.o.S.opn i j x z HX.o h1 Y0.o.2 h2 (.inl (by rw[Y0.o.1,h3,e]));subst this;rw[HX.o] at h1;injection h1 with h1;rw[<-h1] at h4;exact hz h4
    have cK:=aD (show mJ d.r c=(lD d.r i F5,[100,111,110,101]) by unfold mJ;rw[uQ.o];simp only;rw[Xm.o.2,if_pos Bs]);have nF:=aD (show Dp d.r c=[.ask q 1 0 0] by unfold Dp;rw[uQ.o];simp only;rw[Xm.o.2,if_pos Bs,zum,Jz]);have uR:=aD (show lD d.r i F5={d.r with recs:=d.r.recs.modify i λz=>{z with t:=d.r.clk,e:=F5}} by unfold lD;rw[Xm.o.1,zhq];rfl);have zbt:e.W[k]? =some (.ask q 1 0 0):=by have:=HW.o;rw[nF.o] at this;exact this.head
    rw[zum];have zAF:((q:Int)+1 !=0)=true:=by have:(q:Int)+1≠0:=aC;simpa using this
    have zCT:¬(q:Int)+1=0:=aC;clear hz Bs zhq;refine CW.pW H x4 A6 T6 λw7 Q qU A7 T7 HQ=>?_;have G9:=aD (qU▸Kn.o);go_wp2;refine HQ.o _ _ ?_;clear HQ
    try simp only[zCT,not_false_eq_true,decide_true,bne_iff_ne,ne_eq]
    refine CW.cond H (t:=true) rfl (by first|rfl|exact congrArg Nq zAF) ?_;refine CW.sq H ?_;refine CW.rg H [0,1,2] ?_;refine CR.mv H (.pointer (some ⟨hb,0,none⟩)) ?_;refine CR.mv H (.int .i64 ((q:Int)+1)) ?_;refine CR.cl H (zbO H A7.o zbt hq yG hK) (λK' l' y w' hl oQ=>?_);obtain⟨rfl,rfl,qO⟩:=oQ;simp only[cC,gI,dW,dS];have A8:=aD (show bF w' lo hb v d by rw[qO];exact A7.o.alloc _);have T8:=aD (show bM hb v w v w' by rw[qO];exact T7.o.trans (bM.below (dO (eG _ _) _)));have Il:=aD (show w'.heap[gx]? =some (.cells #[.int .i64 c] 3) by rw[qO];exact dH G9.o _);clear qO A7 T7 G9;refine CR.nil H ?_;refine CW.sq H (CW.pW H x4 A8 T8 λw9 Q Iw A9 T9 HQ=>?_);have Yy:=aD (Iw▸Il.o);have kx:=aJ Yy.o 0
    go_wp2_with (go_at_call 116;refine(zm6 (e:=⟨#[100,111,110,101]⟩) A9.o HX.o HL.o.2.1 HL.o.2.2.2 HL.o.2.2.1 HR.o).mono ?_;rintro en vU ⟨rfl,v10,a5,t5,p5⟩;have sH:=aD a5;have wK:=aD (T9.o.trans t5);have zdu:=aD p5;have zru:=aD t5;clear a5 t5 p5)
    refine HQ.o _ _ ?_;clear HQ;clear kx;have zyZ:=aD (gC.of (v':=v10) (MR.o.clear HI.o.S HI.o.ndl (λz hz=>(HI.o.lb z hz).1) HX.o Y0.o.2 HL.o.1 (f:=λz=>{z with t:=d.r.clk,e:=F5}) (λz=>⟨rfl,rfl⟩) zdq) zdu.o.1 (by rw[zdu.o.2.1,Y0.o.1]) zdu.o.2.2.1 rfl rfl);obtain⟨kg,np⟩:=A9.o.turned zru.o Yy.o NP.o;have Xx:=aD kg;have zLz:=aD np;clear kg np zru A9 T9 Yy;refine CW.sq H (CW.p0 H x4 sH wK λCr zBu Ay E0=>?_);refine CW.rt H ?_;refine⟨.inr rfl,rfl,.string ⟨#[100,111,110,101]⟩,rfl,⟨by rw[nF.o];rfl,by rw[cK.o],v10,?_,?_,?_,Cn.kept zdu.o.2.2.2.2⟩⟩
    .rw[cK.o];rw[uR.o];exact Ay.o
    .rw[cK.o];rw[uR.o];exact zyZ.o
    .exact E0.o
section
variable {p:bR}{o:aZ}{ρ:cN->aF}{w w':aE}
variable {t e:aM}{sz:Nat}{ie:wY}
theorem zuV {x y:cN}{A:Option bL}{n c i:Nat}(ho:o.op=.slice t x (some y) none none)(hu:p.underlying t=some (.slice e))(hi:p.info? e=some ie)(hz:ie.size=sz)(hx:ρ x=.slice A n c)(hy:ρ y=.int .i64 (i:Int))(n8:i<=n):
 (aS ρ o).run p w=.ok (.value (.slice (if c=i then A else A.map (·.add (i*sz))) (n-i) (c-i))) w:=by
 obtain⟨dst,yW,type,pos,after,guard⟩:=o;simp only at ho;subst ho;have h0:(0:Int)<=(i:Int):=aC;have h1:(i:Int)<=(n:Int):=aC;simp[aS,Y7,Yr,Xh,Ka,hx,hy,wQ hu,sizeOf,typeInfo,hi,hz,asIntOf,h0,h1];exact λh=>absurd h aC
variable {j:Int}
theorem Qr {x y:cN}{g off n c i:Nat}(ho:o.op=.slice t x (some y) none none)(hu:p.underlying t=some (.slice e))(hi:p.info? e=some ie)(hz:ie.size=sz)(hx:ρ x=.slice (some ⟨g,0,none⟩) n c)(hy:ρ y=.int .i64 j)(hj:j=(i:Int))(n8:i<=n)(yO:i<c)(zE6:off=i*sz){n' c':Nat}(sG:n'=n-i)(kS:c'=c-i):
 (aS ρ o).run p w=.ok (.value (.slice (some ⟨g,off,none⟩) n' c')) w:=by
 subst zE6 sG kS hj;rw[zuV ho hu hi hz hx hy n8,if_neg aC];simp[Ly]
theorem znV {x y:cN}{g n c i:Nat}(ho:o.op=.slice t x none (some y) none)(hu:p.underlying t=some (.slice e))(hi:p.info? e=some ie)(hz:ie.size=sz)(hx:ρ x=.slice (some ⟨g,0,none⟩) n c)(hy:ρ y=.int .i64 j)(hj:j=(i:Int))(yO:i<=c):
 (aS ρ o).run p w=.ok (.value (.slice (some ⟨g,0,none⟩) i c)) w:=by
 subst hj;obtain⟨dst,yW,type,pos,after,guard⟩:=o;simp only at ho;subst ho;have h0:(0:Int)<=(i:Int):=aC;have h1:(i:Int)<=(c:Int):=aC;simp[aS,Y7,Yr,Xh,Ka,hx,hy,wQ hu,sizeOf,typeInfo,hi,hz,asIntOf,h0,h1,Ly];exact λh=>absurd h aC
theorem Yq {s x:cN}{tn:aM}{a b v:aF}{w':aE}(ho:o.op=.call ⟨.builtin .append,#[s,x],#[t,tn]⟩)(hs:ρ s=a)(hx:ρ x=b)(hr:(Builtin.append_ #[t,tn] o.type #[a,b]).run p w=.ok v w'):(aS ρ o).run p w=.ok (.value v) w':=by
 unfold aS;simp only[ho,resolve,invoke,builtin,Sem.run_bind,Sem.run_pure,Result.andThen_ok,uW,fL,tM,hs,hx,hr]
end
theorem Yi:∃ie,aK.info? 149=some ie/\ie.zero=some (.agg #[.int .i64 0,.int .i64 0])/\ie.size=2/\ie.bytes=16:=by
 obtain⟨i0,hi,gX,dZ,jW⟩:=info_parts zcs;exact⟨i0,hi,gX,dZ,jW⟩
def x6:aK.underlying 69=some (.slice 149):=aQ
def Re:Go.Code:=(Tryz.f111.body).getD .skip
def rIN7:Go.Code:=match Re with| .seq _ (.seq _ (.seq _ (.seq _ (.seq _ (.seq (.seq _ (.cond _ (.seq (a) _) _)) _)))))=>a|_=>.skip
def rIN9:Go.Code:=match Re with| .seq _ (.seq _ (.seq _ (.seq _ (.seq _ (.seq _ (.seq (.seq _ (.cond _ (.seq (a) _) _)) _))))))=>a|_=>.skip
def rIN10:Go.Code:=match Re with| .seq _ (.seq _ (.seq _ (.seq _ (.seq _ (.seq _ (.seq (.seq _ (.cond _ (.seq _ (.seq (a) _)) _)) _))))))=>a|_=>.skip
def rIN11:Go.Code:=match Re with| .seq _ (.seq _ (.seq _ (.seq _ (.seq _ (.seq _ (.seq (.seq _ (.cond _ (.seq _ (.seq _ (.seq (a) _))) _)) _))))))=>a|_=>.skip
def rIN14:Go.Code:=match Re with| .seq _ (.seq _ (.seq _ (.seq _ (.seq _ (.seq _ (.seq _ (.seq _ (.seq (.seq (a) _) _))))))))=>a|_=>.skip
def rIN15:Go.Code:=match Re with| .seq _ (.seq _ (.seq _ (.seq _ (.seq _ (.seq _ (.seq _ (.seq _ (.seq (.seq _ (.cond _ (.seq (a) _) _)) _))))))))=>a|_=>.skip
def rIN16:Go.Code:=match Re with| .seq _ (.seq _ (.seq _ (.seq _ (.seq _ (.seq _ (.seq _ (.seq _ (.seq (.seq _ (.cond _ (.seq _ (.seq (a) _)) _)) _))))))))=>a|_=>.skip
def opsIN7:Array Oper:=match rIN7 with| .region _ ops _=>ops|_=>#[]
abbrev oIN7_2:Oper:=⟨some 25,.call ⟨.builtin .append,#[.tmp 23,.tmp 24],#[69,69]⟩,69,"slices.go:145",#[⟨0,.data⟩,⟨1,.data⟩],none⟩
def zyT:opsIN7[2]? =some oIN7_2:=rfl
def opsIN9:Array Oper:=match rIN9 with| .region _ ops _=>ops|_=>#[]
abbrev oIN9_8:Oper:=⟨some 40,.call ⟨.builtin .append,#[.tmp 34,.tmp 39],#[69,3]⟩,69,"slices.go:152",#[⟨2,.data⟩,⟨7,.data⟩],none⟩
def zIo:opsIN9[8]? =some oIN9_8:=rfl
def opsIN10:Array Oper:=match rIN10 with| .region _ ops _=>ops|_=>#[]
abbrev oIN10_4:Oper:=⟨some 45,.call ⟨.builtin .copy,#[.tmp 43,.tmp 44],#[69,69]⟩,3,"slices.go:153",#[⟨2,.data⟩,⟨3,.data⟩],none⟩
def zB7:opsIN10[4]? =some oIN10_4:=rfl
def opsIN14:Array Oper:=match rIN14 with| .region _ ops _=>ops|_=>#[]
abbrev oIN14_6:Oper:=⟨some 67,.call ⟨.value (.func 121),#[.tmp 61,.tmp 66],#[69,69]⟩,4,"slices.go:173",#[⟨0,.data⟩,⟨5,.data⟩],none⟩
def zJM:opsIN14[6]? =some oIN14_6:=rfl
def opsIN16:Array Oper:=match rIN16 with| .region _ ops _=>ops|_=>#[]
abbrev oIN16_4:Oper:=⟨some 82,.call ⟨.builtin .copy,#[.tmp 80,.tmp 81],#[69,69]⟩,3,"slices.go:186",#[⟨2,.data⟩,⟨3,.data⟩],none⟩
def zza:opsIN16[4]? =some oIN16_4:=rfl
def zgn:Array Oper:=match rIN11 with| .region _ ops _=>ops|_=>#[]
def zqS:zgn.toList=[⟨some 46,.move (.tmp 9),69,"slices.go:154",#[],none⟩,⟨some 47,.move (.tmp 1),3,"slices.go:154",#[],none⟩,⟨some 48,.move (.tmp 7),3,"slices.go:154",#[],none⟩,⟨some 49,.binOp .add 3 (.tmp 47) (.tmp 48) 3,3,"slices.go:154",#[⟨1,.data⟩,⟨2,.data⟩],none⟩,⟨some 50,.slice 69 (.tmp 46) (some (.tmp 49)) none none,69,"slices.go:154",#[⟨0,.data⟩,⟨3,.data⟩],none⟩,⟨some 51,.move (.tmp 0),69,"slices.go:154",#[],none⟩,⟨some 52,.move (.tmp 1),3,"slices.go:154",#[],none⟩,⟨some 53,.slice 69 (.tmp 51) (some (.tmp 52)) none none,69,"slices.go:154",#[⟨5,.data⟩,⟨6,.data⟩],none⟩,⟨some 54,.call ⟨.builtin .copy,#[.tmp 50,.tmp 53],#[69,69]⟩,3,"slices.go:154",#[⟨4,.data⟩,⟨7,.data⟩],none⟩]:=rfl
def zd8:Array Oper:=match rIN15 with| .region _ ops _=>ops|_=>#[]
def zr2:zd8.toList=[⟨some 69,.move (.tmp 0),69,"slices.go:178",#[],none⟩,⟨some 70,.move (.tmp 1),3,"slices.go:178",#[],none⟩,⟨some 71,.move (.tmp 7),3,"slices.go:178",#[],none⟩,⟨some 72,.binOp .add 3 (.tmp 70) (.tmp 71) 3,3,"slices.go:178",#[⟨1,.data⟩,⟨2,.data⟩],none⟩,⟨some 73,.slice 69 (.tmp 69) (some (.tmp 72)) none none,69,"slices.go:178",#[⟨0,.data⟩,⟨3,.data⟩],none⟩,⟨some 74,.move (.tmp 0),69,"slices.go:178",#[],none⟩,⟨some 75,.move (.tmp 1),3,"slices.go:178",#[],none⟩,⟨some 76,.slice 69 (.tmp 74) (some (.tmp 75)) none none,69,"slices.go:178",#[⟨5,.data⟩,⟨6,.data⟩],none⟩,⟨some 77,.call ⟨.builtin .copy,#[.tmp 73,.tmp 76],#[69,69]⟩,3,"slices.go:178",#[⟨4,.data⟩,⟨7,.data⟩],none⟩]:=rfl
def zbA:vR aK 111:=⟨_,zsQ,.inr (.inl ⟨_,rfl⟩)⟩
def WIN11 (w w3:aE)(g1 n1 c1 g n c ix:Nat)(vc:aF):Nat->aE
 |0=>w.drew
 |_=>w3
theorem zsx:zgn.toList.map (·.dst)=[some 46,some 47,some 48,some 49,some 50,some 51,some 52,some 53,some 54]:=by rw[zqS];rfl
def lIN11 (w w3:aE)(g1 n1 c1 g n c ix:Nat)(vc:aF):List Value:=[.slice (some ⟨g1,0,none⟩) n1 c1,.int .i64 ((ix:Nat)),.int .i64 (1),.int .i64 (((ix+1:Nat):Int)),.slice (some ⟨g1,(ix+1)*2,none⟩) (n1-(ix+1)) (c1-(ix+1)),.slice (some ⟨g,0,none⟩) n c,.int .i64 ((ix:Nat)),.slice (some ⟨g,ix*2,none⟩) (n-ix) (c-ix),vc]
def zib (w w3:aE)(g1 n1 c1 g n c ix:Nat)(vc:aF)(i:Nat):Value:=(lIN11 w w3 g1 n1 c1 g n c ix vc).getD i aA
variable {d:List Deferred}{Q:nZ->tP->aE->Prop}{t0:Array aF}
theorem wp_IN11 (w w3:aE)(g1 n1 c1 g n c ix:Nat)(vc:aF)(hz:t0.size=95)(uC:t0.getD 0 aA=.slice (some ⟨g,0,none⟩) n c)(Ey:t0.getD 1 aA=.int .i64 ((ix:Nat)))(Em:t0.getD 7 aA=.int .i64 (1))(zmS:t0.getD 9 aA=.slice (some ⟨g1,0,none⟩) n1 c1)(hb:ix+1<=n1/\ix+1<c1/\ix<=n/\ix<c/\ix<=100000)(mU:(C5 #[69,69] 3 #[.slice (some ⟨g1,(ix+1)*2,none⟩) (n1-(ix+1)) (c1-(ix+1)),.slice (some ⟨g,ix*2,none⟩) (n-ix) (c-ix)]).run aK w.drew=.ok vc w3)(h0:WIN11 w w3 g1 n1 c1 g n c ix vc 0=w.drew)(hk:Q .normal ⟨dC zgn (zib w w3 g1 n1 c1 g n c ix vc) t0,d⟩ (w3)):
 (E6 11 zgn true).wp aK Q ⟨t0,d⟩ w:=by
 refine Iy (ws:=[8]) (Wd:=WIN11 w w3 g1 n1 c1 g n c ix vc) (vals:=zib w w3 g1 n1 c1 g n c ix vc) vL.mixed aQ aH aQ h0 Jk (λV hU hV=>?_) hk;obtain⟨Yd,zbZ,ziK,V4,zgx,Yf,Xy,zk1,zxj,-⟩:=Ig zsx hU;have e0:=(hV 0 aQ).trans uC;have e1:=(hV 1 aQ).trans Ey;have e7:=(hV 7 aQ).trans Em;have e9:=(hV 9 aQ).trans zmS;refine λTf hT=>I2 zqS ⟨bP.pv,bP.pv,bP.pv,bP.any (λkk fR hm=>?_),bP.any (λkk fR hm=>?_),bP.pv,bP.pv,bP.any (λkk fR hm=>?_),bP.act (v:=V 54) 0 rfl (eD rfl) ?_,trivial⟩
 .have i0:=hb.2.2.2.2
  unfold aS;go_simp;first|(push_cast;exact D6 aC aC)|(push_cast;rw[D6 aC aC])|trace_state
 .obtain⟨ie,jY,_,cG,_⟩:=Yi
  exact Qr rfl x6 jY cG (nU hT Yd) (nU hT V4) rfl hb.1 hb.2.1 rfl rfl rfl
 .obtain⟨ie,jY,_,cG,_⟩:=Yi
  exact Qr rfl x6 jY cG (nU hT Yf) (nU hT Xy) rfl hb.2.2.1 hb.2.2.2.1 rfl rfl rfl
 .rw[zxj];exact zfX rfl (nU hT zgx) (nU hT zk1) mU
def WIN15 (w w3:aE)(g n c ix:Nat)(vc:aF):Nat->aE
 |0=>w.drew
 |_=>w3
theorem zqB:zd8.toList.map (·.dst)=[some 69,some 70,some 71,some 72,some 73,some 74,some 75,some 76,some 77]:=by rw[zr2];rfl
def lIN15 (w w3:aE)(g n c ix:Nat)(vc:aF):List Value:=[.slice (some ⟨g,0,none⟩) n c,.int .i64 ((ix:Nat)),.int .i64 (1),.int .i64 (((ix+1:Nat):Int)),.slice (some ⟨g,(ix+1)*2,none⟩) (n-(ix+1)) (c-(ix+1)),.slice (some ⟨g,0,none⟩) n c,.int .i64 ((ix:Nat)),.slice (some ⟨g,ix*2,none⟩) (n-ix) (c-ix),vc]
def zme (w w3:aE)(g n c ix:Nat)(vc:aF)(i:Nat):Value:=(lIN15 w w3 g n c ix vc).getD i aA
theorem wp_IN15 (w w3:aE)(g n c ix:Nat)(vc:aF)(hz:t0.size=95)(uC:t0.getD 0 aA=.slice (some ⟨g,0,none⟩) n c)(Ey:t0.getD 1 aA=.int .i64 ((ix:Nat)))(Em:t0.getD 7 aA=.int .i64 (1))(hb:ix+1<=n/\ix+1<c/\ix<=n/\ix<c/\ix<=100000)(mU:(C5 #[69,69] 3 #[.slice (some ⟨g,(ix+1)*2,none⟩) (n-(ix+1)) (c-(ix+1)),.slice (some ⟨g,ix*2,none⟩) (n-ix) (c-ix)]).run aK w.drew=.ok vc w3)(h0:WIN15 w w3 g n c ix vc 0=w.drew)(hk:Q .normal ⟨dC zd8 (zme w w3 g n c ix vc) t0,d⟩ (w3)):
 (E6 15 zd8 true).wp aK Q ⟨t0,d⟩ w:=by
 refine Iy (ws:=[8]) (Wd:=WIN15 w w3 g n c ix vc) (vals:=zme w w3 g n c ix vc) vL.mixed aQ aH aQ h0 Jk (λV hU hV=>?_) hk;obtain⟨zGN,zM6,zLP,zAI,zIq,zJk,zzD,zHt,zDF,-⟩:=Ig zqB hU;have e0:=(hV 0 aQ).trans uC;have e1:=(hV 1 aQ).trans Ey;have e7:=(hV 7 aQ).trans Em;refine λTf hT=>I2 zr2 ⟨bP.pv,bP.pv,bP.pv,bP.any (λkk fR hm=>?_),bP.any (λkk fR hm=>?_),bP.pv,bP.pv,bP.any (λkk fR hm=>?_),bP.act (v:=V 77) 0 rfl (eD rfl) ?_,trivial⟩
 .have i0:=hb.2.2.2.2
  unfold aS;go_simp;first|(push_cast;exact D6 aC aC)|(push_cast;rw[D6 aC aC])|trace_state
 .obtain⟨ie,jY,_,cG,_⟩:=Yi
  exact Qr rfl x6 jY cG (nU hT zGN) (nU hT zAI) rfl hb.1 hb.2.1 rfl rfl rfl
 .obtain⟨ie,jY,_,cG,_⟩:=Yi
  exact Qr rfl x6 jY cG (nU hT zJk) (nU hT zzD) rfl hb.2.2.1 hb.2.2.2.1 rfl rfl rfl
 .rw[zDF];exact zfX rfl (nU hT zIq) (nU hT zHt) mU
variable {c1 c2:List aF}
theorem ins_up {c0 a b xx:List aF}(ha:c0.take a.length=a)(hl:a.length+xx.length+b.length<=c0.length)(h1:c1=c0.take a.length++xx++c0.drop (a.length+xx.length))(h2:c2=c1.take (a.length+xx.length)++b++c1.drop (a.length+xx.length+b.length)):
 c2.take (a.length+xx.length+b.length)=a++xx++b/\c2.length=c0.length:=by
 have e1:c1.take (a.length+xx.length)=a++xx:=by
  rw[h1,ha,Es (by rw[gM];exact aV _),zZ (by rw[gM];exact aV _)]
 have l1:c1.length=c0.length:=by rw[h1,ha];simp only[gM,xS];omega
 rw[h2,e1];refine⟨?_,?_⟩
 .rw[Es zeP,zZ zeP]
 .simp only[gM,xS];omega
theorem zGY {c0 a b xx:List aF}(ha:c0.take a.length=a)(hl:a.length+xx.length+b.length<=c0.length)(h1:c1=c0.take (a.length+xx.length)++b++c0.drop (a.length+xx.length+b.length))(h2:c2=c1.take a.length++xx++c1.drop (a.length+xx.length)):
 c2.take (a.length+xx.length+b.length)=a++xx++b/\c2.length=c0.length:=by
 have lt:(c0.take (a.length+xx.length)).length=a.length+xx.length:=by rw[rU];omega
 have e1:c1.take a.length=a:=by
  rw[h1,Jn,Es aC,O2,zvu aC,ha]
 have e2:c1.drop (a.length+xx.length)=b++c0.drop (a.length+xx.length+b.length):=by
  rw[h1,Jn,List.drop_append_of_le_length aC,zrE aC,List.nil_append]
 rw[h2,e1,e2];refine⟨?_,?_⟩
 .rw[<-Jn,Es zeP,zZ zeP]
 .simp only[gM,xS];omega
theorem zl8 (xs:List bE)(x:bE)(i:Nat):bG (xs.take i++x::xs.drop i)=(bG xs).take (i*2)++x.cells++(bG xs).drop (i*2):=by
 have h1:(bG xs).take (i*2)=bG (xs.take i):=by
  induction xs generalizing i with
  |nil=>simp[bG]
  |cons y ys ih=>
   cases i with
   |zero=>simp[bG]
   |succ i=>
    have:bG (y::ys)=y.cells++bG ys:=by simp[bG]
    rw[this,List.take_succ_cons,show(i+1)*2=y.cells.length+i*2 by simp[bE.cells];omega,List.take_length_add_append,ih i];simp[bG]
 have h2:(bG xs).drop (i*2)=bG (xs.drop i):=by
  clear h1
  induction xs generalizing i with
  |nil=>simp[bG]
  |cons y ys ih=>
   cases i with
   |zero=>simp[bG]
   |succ i=>
    have:bG (y::ys)=y.cells++bG ys:=by simp[bG]
    rw[this,List.drop_succ_cons,show(i+1)*2=y.cells.length+i*2 by simp[bE.cells];omega,List.drop_length_add_append,ih i]
 rw[h1,h2];simp[bG]
structure Grew (w w':aE)(r:Option Nat):Prop where
 size:w.heap.size<=w'.heap.size
 block:∀b,b<w.heap.size->¬some b=r->w'.heap[b]? =w.heap[b]?
theorem ov_fn:OvFn aK 121 69 4 149 2:=by
 obtain⟨ie,jY,_,cG,_⟩:=Yi;exact⟨⟨_,Tryz.func121,aH,rfl,aQ,aQ⟩,x6,⟨ie,jY,cG⟩⟩
variable {A:Option bL}{l:gS}
theorem zzs (H:e.d.Ok){gv c:Nat}{x:bE}(h:w.ownsRow lo 149 2 (.slice A n c) n (bG xs))(dV:lo<=w.heap.size)(hn:n<=1000)(hi:i<=n)(hv:w.heap[gv]? =some (.cells #[.int .i64 x.c,.int .i64 x.p] 149))(aT:(Q1 A n c).ownBlock≠some gv):
 CF e.d 111 #[.slice A n c,.int .i64 (i:Int),.slice (some ⟨gv,0,none⟩) 1 1] K l w (λK' l' y w'=>l'=l/\∃g2 c2,y=.slice (some ⟨g2,0,none⟩) (n+1) c2/\w'.ownsRow lo 149 2 (.slice (some ⟨g2,0,none⟩) (n+1) c2) (n+1) (bG (xs.take i++x::xs.drop i))/\Grew w w' (Q1 A n c).ownBlock/\(some g2=(Q1 A n c).ownBlock\/w.heap.size<=g2)):=by
 refine CF.of 95 zsQ (.inr (.inl ⟨_,rfl⟩)) ?_;obtain⟨ie,jY,gX,cG,uS⟩:=Yi;have ziB:xs.length=n:=by have h1:=h.1;have h2:(bG xs).length=xs.length*2:=Fe bE.cells (s:=2) (λ_=>rfl) xs;omega
 have h1:(1:Nat)<=1:=aV 1;refine CW.sq H ?_;refine CW.pQ H zbA (λzdX Q HQ=>?_);go_wp2;refine HQ.o _ _ ?_;clear HQ;refine CW.tape (s:=⟨[],K,l,_,w⟩) ?_ zdX 0;refine CW.sq H ?_;refine CW.rg H [0,1,2] ?_;refine CR.mv H (.slice A n c) ?_;refine CR.mv H (.int .i64 (i:Int)) ?_;refine CR.mv H (.slice (if c=i then A else A.map (·.add (i*2))) (n-i) (c-i)) ?_ (hx:=λT=>by exact zuV rfl x6 jY cG rfl rfl hi);refine CR.nil H ?_;refine CW.sq H ?_;refine CW.rg H [0,1,2] ?_;refine CR.mv H (.slice (some ⟨gv,0,none⟩) 1 1) ?_;refine CR.mv H (.int .i64 1) ?_ (hx:=λT=>by exact zri rfl x6 rfl);refine CR.mv H (.int .i64 1) ?_;refine CR.nil H ?_;refine CW.sq H ?_;refine CW.sq H ?_;refine CW.rg H [0,1] ?_;refine CR.mv H (.int .i64 1) ?_;refine CR.mg H (.bool false) ?_;refine CR.nil H ?_;refine CW.cd H false ?_;refine CW.sk H ?_;dsimp only;refine CW.sq H ?_;refine CW.rg H [0,1,2] ?_;refine CR.mv H (.slice A n c) ?_;refine CR.mv H (.int .i64 (n:Int)) ?_ (hx:=λT=>by exact zri rfl x6 rfl);refine CR.mv H (.int .i64 (n:Int)) ?_;refine CR.nil H ?_;refine CW.sq H ?_;refine CW.sq H ?_;refine CW.rg H [0,1,2] ?_;refine CR.mv H (.int .i64 (i:Int)) ?_;refine CR.mv H (.int .i64 (n:Int)) ?_;by_cases n8:i=n
 .
   subst n8;clear hi;refine nP ?_;refine CR.mg H (.bool true) ?_;refine CR.nil H ?_;refine CW.cd H true ?_;refine CW.sq H ?_;refine CW.rg H [0,1,2,3] ?_;refine CR.mv H (.slice A i c) ?_;refine CR.mv H (.slice (some ⟨gv,0,none⟩) 1 1) ?_;refine CR.op H zyT rfl aQ (λT=>?_);obtain⟨q1,q2,w5,fP,cP,nE,fA⟩:=Oh (w:=Tt.tp w T 0) (t:=69) (ty:=69) zcs x6 rfl aH (cI h λb e=>rfl) (g:=gv) (cs:=#[.int .i64 x.c,.int .i64 x.p]) (news:=bE.cells x) hv rfl (m:=1) rfl aH Sb aC aH dV;refine⟨.slice (some ⟨q1,0,none⟩) (i+1) q2,w5,.inl (Yq rfl rfl rfl fP),?_⟩;simp only[cC,gI,dW,dS];refine nP ?_;refine CR.mv H (.slice (some ⟨q1,0,none⟩) (i+1) q2) ?_;refine CR.nil H ?_;refine CW.rt H ?_;refine⟨.inr rfl,rfl,.slice (some ⟨q1,0,none⟩) (i+1) q2,rfl,rfl,q1,q2,rfl,?_,⟨nE.size,nE.block⟩,?_⟩
   .rw[zl8,zZ zuZ,zrE zuZ,List.append_nil]
    exact cP
   .exact fA.imp id λhh=>hh q1 rfl
 .
   have aN:i<n:=aC;have zAd:(i:Int)<(n:Int):=aC;have zL1:¬(i:Int)=(n:Int):=aC;refine nP ?_;refine CR.mg H (.bool false) ?_;refine CR.nil H ?_;refine CW.cd H false ?_;refine CW.sk H ?_;dsimp only;obtain⟨hlen,Xk|⟨g,cap,cur,Gn,zIn,hg,Vl,sD,fV,lN⟩⟩:=id h
   .exfalso;have:=Xk.2;omega
   injection Gn with e1 e2 e3;subst e1 e3;clear e2;have Aq:gv≠g:=λe=>aT (by rw[e];rfl);have mG:cur.toList.length=c*2:=by simpa using fV
   have la:((bG xs).take (i*2)).length=i*2:=by rw[rU,hlen];omega
   have lb:((bG xs).drop (i*2)).length=(n-i)*2:=by rw[xS,hlen];omega
   have Sq:∀j u,(bG xs)[j]? =some u->cur[j]? =some u:=λj u hj=>by
    rw[<-lN,Xl] at hj;split at hj
    .rw[<-Ai];exact hj
    .cases hj
   have zG2:cur.toList.take (i*2)=(bG xs).take (i*2):=by rw[<-lN,O2];congr 1;omega
   have one:=Vf xs;refine CW.sq H ?_;refine CW.sq H ?_;refine CW.rg H [0,1,2,3,4,5] ?_;refine CR.mv H (.int .i64 (n:Int)) ?_;refine CR.mv H (.int .i64 1) ?_;refine CR.mv H (.int .i64 ((n+1:Nat):Int)) ?_ (hx:=λT=>by unfold aS;go_simp;first|(push_cast;exact D6 aC aC)|(push_cast;rw[D6 aC aC])|trace_state);refine CR.mv H (.slice (some ⟨g,0,none⟩) n c) ?_;refine CR.mg H (.int .i64 (c:Int)) ?_;by_cases zLa:n+1>c
   .
     have zy7:(c:Int)<((n+1:Nat):Int):=aC;refine nP ?_;refine CR.mv H (.bool true) ?_ (hx:=λT=>by unfold aS;go_simp;try omega);refine CR.nil H ?_;refine CW.cd H true ?_;refine CW.sq H ?_;refine CW.rg H [0,1,2,3,4,5,6,7,8,9] ?_;refine CR.mv H (.slice (some ⟨g,0,none⟩) n c) ?_;refine CR.mv H (.int .i64 (i:Int)) ?_;refine CR.mv H (.slice (some ⟨g,0,none⟩) i c) ?_ (hx:=λT=>by exact znV rfl x6 jY cG rfl rfl rfl aC);refine CR.mv H (.int .i64 (n:Int)) ?_;refine CR.mv H (.int .i64 1) ?_;refine CR.mv H (.int .i64 ((n+1:Nat):Int)) ?_ (hx:=λT=>by unfold aS;go_simp;first|(push_cast;exact D6 aC aC)|trace_state);refine CR.mv H (.int .i64 (i:Int)) ?_;refine CR.mv H (.int .i64 ((n+1-i:Nat):Int)) ?_ (hx:=λT=>by unfold aS;go_simp;first|(rw[D6 aC aC];omega)|trace_state);refine CR.op H zIo rfl aQ (λT=>?_);have hold:(Sc ie.size i (.slice (some ⟨g,0,none⟩) i c)).run aK (Tt.tp w T 0).drew=.ok ((bG xs).take (i*2)).toArray (Tt.tp w T 0).drew:=by
      have hl:=run_loadCells_list (P:=aK) (Tt.tp w T 0).drew ⟨g,0,none⟩ ((bG xs).take (i*2)) (λj u hj=>by
       rw[Ly,qX];have Qp:(bG xs)[j]? =some u:=by
        rw[Xl] at hj;split at hj
        .exact hj
        .cases hj
       exact(aJ (w:=w) hg j).trans (Sq j u Qp))
      rw[la] at hl;simp[Sc,cG,hl]
     have fP:=Lib.run_append_grow_zeros (P:=aK) (Tt.tp w T 0) 69 3 69 149 ie _ .i64 .i64 x6 J8 jY gX (some ⟨g,0,none⟩) i c ((bG xs).take (i*2)) hold (n+1-i) aC aC aC aC (by rw[uS];omega) (by rw[uS];exact growslice_fits aC aC);obtain⟨c2,nM⟩:=aU (grownCap (Tt.tp w T 0) (i+(n+1-i)) c 149);have Bx:n+1<=c2:=by have:=grownCap_ge (Tt.tp w T 0) (i+(n+1-i)) c 149;omega
     have hle:c2<=maxLen:=by rw[nM];exact grownCap_le_maxLen _ _ _ _ Ya
     obtain⟨x9,zdP⟩:=aU (((bG xs).take (i*2)).toArray++p8 (.agg #[.int .i64 0,.int .i64 0]:aF).cells (n+1-i)++p8 (.agg #[.int .i64 0,.int .i64 0]:aF).cells (c2-(i+(n+1-i))):Array aF);have Y1:x9.toList.length=c2*2:=by
      have z1:(p8 (.agg #[.int .i64 0,.int .i64 0]:aF).cells (n+1-i)).size=(n+1-i)*2:=Zk _ _;have z2:(p8 (.agg #[.int .i64 0,.int .i64 0]:aF).cells (c2-(i+(n+1-i)))).size=(c2-(i+(n+1-i)))*2:=Zk _ _;rw[Dj,zdP,U0,U0,z1,z2,List.size_toArray,la];omega
     have zjn:x9.toList.take (i*2)=(bG xs).take (i*2):=by
      rw[zdP,Pe,Pe,Jn,Es (by rw[la];exact aV _),zZ (by rw[la];exact aV _)]
     rw[<-nM,<-zdP,show i+(n+1-i)=n+1 by omega] at fP;obtain⟨W1,dE⟩:=aU ((Tt.tp w T 0).drew.alloc (.cells x9 149));rw[<-dE] at fP;have yA:W1.heap[w.heap.size]? =some (.cells x9 149 (0,0)):=by rw[dE];exact lP _ _
     have zw2:∀b,b<w.heap.size->W1.heap[b]? =w.heap[b]? :=λb hb=>by rw[dE];exact Below.heap_alloc _ _ _ hb
     have dZ:W1.heap.size=w.heap.size+1:=by rw[dE];exact rF _ _
     have zpV:g<w.heap.size:=gA hg;have zvV:gv<w.heap.size:=gA hv;refine⟨.slice (some ⟨w.heap.size,0,none⟩) (n+1) c2,W1,.inl (Yq rfl rfl rfl fP),?_⟩;simp only[cC,gI,dW,dS];clear fP dE zdP hold nM;refine nP ?_;refine CR.mv H (.slice (some ⟨w.heap.size,0,none⟩) (n+1) c2) ?_;refine CR.nil H ?_;refine CW.sq H ?_;refine CW.rg H [0,1,2,3,4] ?_;refine CR.mv H (.slice (some ⟨w.heap.size,0,none⟩) (n+1) c2) ?_;refine CR.mv H (.int .i64 (i:Int)) ?_;refine CR.mv H (.slice (some ⟨w.heap.size,i*2,none⟩) (n+1-i) (c2-i)) ?_ (hx:=λT=>by exact Qr rfl x6 jY cG rfl rfl rfl aC aC rfl rfl rfl);refine CR.mv H (.slice (some ⟨gv,0,none⟩) 1 1) ?_;refine CR.op H zB7 rfl aQ (λT2=>?_);have mU:∀ty,(C5 #[69,69] ty #[.slice (some ⟨w.heap.size,i*2,none⟩) (n+1-i) (c2-i),.slice (some ⟨gv,0,none⟩) 1 1]).run aK (Tt.tp W1 T2 0)=.ok (goInt (zb3 1 (n+1-i))) ((Tt.tp W1 T2 0).setRow w.heap.size (x9.toList.take (i*2)++x.cells++x9.toList.drop (i*2+(x.cells).length)).toArray):=λty=>
      zdo (P:=aK) x6 jY yA zwn (λj u hj=>by rw[Ly,qX];exact(aJ (w:=W1) ((zw2 gv zvV).trans hv) j).trans (by rw[<-Ai];exact hj)) (by rw[<-Dj,Y1];show i*2+2<=_;omega) Sb
     obtain⟨tK,Su⟩:=aU ((x9.toList.take (i*2)++x.cells++x9.toList.drop (i*2+(x.cells).length)).toArray:Array aF);rw[<-Su] at mU;obtain⟨W2,qH⟩:=aU ((Tt.tp W1 T2 0).setRow w.heap.size tK);rw[<-qH] at mU;have L2:W2.heap[w.heap.size]? =some (.cells tK 149 (0,0)):=by rw[qH];exact Ki (Tt.tp W1 T2 0) w.heap.size x9 tK 149 (0,0) yA
     have zfu:∀b,b<w.heap.size->W2.heap[b]? =w.heap[b]? :=λb hb=>by rw[qH];exact(zff _ _ _ _ aC).trans (zw2 b hb)
     have jW:W2.heap.size=w.heap.size+1:=by rw[qH];simp[zfn];exact dZ
     have vZ:tK.toList.length=c2*2:=by rw[Su];show(_++_++_:List aF).length=_;simp only[gM,rU,xS,Y1];show min (i*2) (c2*2)+2+(c2*2-(i*2+2))=_;omega
     refine⟨_,W2,.inl (zfX rfl rfl rfl (mU _)),?_⟩;simp only[cC,gI,dW,dS];clear mU qH;refine CR.nil H ?_;refine CW.sq H ?_;refine CW.pQ H zbA (λT3 Q HQ=>?_);have mU:∀ty,(C5 #[69,69] ty #[.slice (some ⟨w.heap.size,(i+1)*2,none⟩) (n+1-(i+1)) (c2-(i+1)),.slice (some ⟨g,i*2,none⟩) (n-i) (c-i)]).run aK (Tt.tp W2 T3 0).drew=.ok (goInt (zb3 (n-i) (n+1-(i+1)))) ((Tt.tp W2 T3 0).drew.setRow w.heap.size (tK.toList.take ((i+1)*2)++((bG xs).drop (i*2))++tK.toList.drop ((i+1)*2+(((bG xs).drop (i*2))).length)).toArray):=λty=>
      zdo (P:=aK) x6 jY L2 (by rw[cG,lb,show n+1-(i+1)=n-i by omega];congr 1;exact(Nat.min_self _).symm) (λj u hj=>by rw[Ly];rw[Vo] at hj;exact(aJ (w:=W2) ((zfu g zpV).trans hg) (i*2+j)).trans (Sq _ _ hj)) (by rw[<-Dj,vZ,lb];omega) (λu hu=>one u (zcl hu))
     obtain⟨Hn,zcV⟩:=aU ((tK.toList.take ((i+1)*2)++((bG xs).drop (i*2))++tK.toList.drop ((i+1)*2+((bG xs).drop (i*2)).length)).toArray:Array aF);rw[<-zcV] at mU;obtain⟨W3,rZ⟩:=aU ((Tt.tp W2 T3 0).drew.setRow w.heap.size Hn);rw[<-rZ] at mU;have zf8:W3.heap[w.heap.size]? =some (.cells Hn 149 (0,0)):=by rw[rZ];exact Ki (Tt.tp W2 T3 0).drew w.heap.size tK Hn 149 (0,0) L2
     have zek:∀b,b<w.heap.size->W3.heap[b]? =w.heap[b]? :=λb hb=>by rw[rZ];exact(zff _ _ _ _ aC).trans (zfu b hb)
     have zni:W3.heap.size=w.heap.size+1:=by rw[rZ];simp[zfn];exact jW
     obtain⟨Uv,Tl⟩:=ins_up (c0:=x9.toList) (a:=(bG xs).take (i*2)) (b:=(bG xs).drop (i*2)) (xx:=x.cells) (c1:=tK.toList) (c2:=Hn.toList) (by rw[la];exact zjn) (by rw[la,lb,Y1];show i*2+2+_<=_;omega) (by rw[Su,la]) (by rw[zcV,la,show i*2+x.cells.length=(i+1)*2 by show i*2+2=_;omega]);rw[Y1] at Tl;rw[la,lb,show i*2+x.cells.length+(n-i)*2=(n+1)*2 by show i*2+2+_=_;omega,<-zl8] at Uv;have oF:W3.ownsRow lo 149 2 (.slice (some ⟨w.heap.size,0,none⟩) (n+1) c2) (n+1) (bG (xs.take i++x::xs.drop i)):=⟨by rw[<-Uv,rU,Tl];omega,.inr ⟨w.heap.size,c2,Hn,rfl,dV,zf8,Bx,hle,by rw[<-Dj];exact Tl,Uv⟩⟩;refine wp_IN11 (Tt.tp W2 T3 0) W3 w.heap.size (n+1) c2 g n c i _ rfl rfl rfl rfl rfl ⟨aC,aC,aC,aC,aC⟩ (mU _) rfl ?_;rw[Go.Mt.Ac,zsx];simp only[Go.Mt.wN,dW,dS,zib,lIN11,C2,Cy];show Q .normal _ W3;refine HQ.o _ _ ?_;clear HQ mU rZ;refine CW.sq H ?_;refine CW.pQ H zbA (λT4 Q HQ=>?_);go_wp2;refine HQ.o _ _ ?_;clear HQ;refine CW.rt H ?_;exact⟨.inr rfl,rfl,.slice (some ⟨w.heap.size,0,none⟩) (n+1) c2,rfl,rfl,w.heap.size,c2,rfl,cI oF λb e=>rfl,⟨by show _<=W3.heap.size;omega,λb hb _=>zek b hb⟩,.inr (aV _)⟩
   .
     have zy7:¬(c:Int)<((n+1:Nat):Int):=aC;refine nP ?_;refine CR.mv H (.bool false) ?_ (hx:=λT=>by unfold aS;go_simp;omega);refine CR.nil H ?_;refine CW.cd H false ?_;refine CW.sk H ?_;dsimp only;refine CW.sq H ?_;refine CW.rg H [0,1,2,3,4,5] ?_;refine CR.mv H (.slice (some ⟨g,0,none⟩) n c) ?_;refine CR.mv H (.int .i64 (n:Int)) ?_;refine CR.mv H (.int .i64 1) ?_;refine CR.mv H (.int .i64 ((n+1:Nat):Int)) ?_ (hx:=λT=>by unfold aS;go_simp;first|(push_cast;exact D6 aC aC)|trace_state);refine CR.mv H (.slice (some ⟨g,0,none⟩) (n+1) c) ?_ (hx:=λT=>by exact znV rfl x6 jY cG rfl rfl rfl aC);refine CR.mv H (.slice (some ⟨g,0,none⟩) (n+1) c) ?_;refine CR.nil H ?_;refine CW.sq H ?_;refine CW.sq H ?_;refine CW.rg H [0,1,2,3,4,5,6,7] ?_;refine CR.mv H (.slice (some ⟨gv,0,none⟩) 1 1) ?_;refine CR.mv H (.slice (some ⟨g,0,none⟩) (n+1) c) ?_;refine CR.mv H (.int .i64 (i:Int)) ?_;refine CR.mv H (.int .i64 1) ?_;refine CR.mv H (.int .i64 ((i+1:Nat):Int)) ?_ (hx:=λT=>by unfold aS;go_simp;first|(push_cast;exact D6 aC aC)|trace_state);refine CR.mv H (.slice (some ⟨g,(i+1)*2,none⟩) (n+1-(i+1)) (c-(i+1))) ?_ (hx:=λT=>by exact Qr rfl x6 jY cG rfl rfl rfl aC aC rfl rfl rfl);refine CR.overlaps H (A:=⟨gv,0,none⟩) (B:=⟨g,(i+1)*2,none⟩) ov_fn zJM rfl rfl rfl rfl rfl rfl Aq hv hg (by rw[fV];omega) ?_;simp only[cC,gI,dW,dS];refine nP ?_;refine CR.mg H (.bool true) ?_;refine CR.nil H ?_;refine CW.cd H true ?_;refine CW.sq H ?_;refine CW.pQ H zbA (λT3 Q HQ=>?_);have zpV:g<w.heap.size:=gA hg;have zvV:gv<w.heap.size:=gA hv;have mU:∀ty,(C5 #[69,69] ty #[.slice (some ⟨g,(i+1)*2,none⟩) (n+1-(i+1)) (c-(i+1)),.slice (some ⟨g,i*2,none⟩) (n+1-i) (c-i)]).run aK (Tt.tp w T3 0).drew=.ok (goInt (zb3 (n+1-i) (n+1-(i+1)))) ((Tt.tp w T3 0).drew.setRow g (cur.toList.take ((i+1)*2)++((bG xs).drop (i*2))++cur.toList.drop ((i+1)*2+(((bG xs).drop (i*2))).length)).toArray):=λty=>
      zdo (P:=aK) x6 jY hg (by rw[cG,lb,show n+1-(i+1)=n-i by omega];congr 1;exact(Nat.min_eq_right aC).symm) (λj u hj=>by rw[Ly];rw[Vo] at hj;exact(aJ (w:=w) hg (i*2+j)).trans (Sq _ _ hj)) (by rw[<-Dj,mG,lb];omega) (λu hu=>one u (zcl hu))
     obtain⟨tK,Su⟩:=aU ((cur.toList.take ((i+1)*2)++((bG xs).drop (i*2))++cur.toList.drop ((i+1)*2+((bG xs).drop (i*2)).length)).toArray:Array aF);rw[<-Su] at mU;obtain⟨W3,rZ⟩:=aU ((Tt.tp w T3 0).drew.setRow g tK);rw[<-rZ] at mU;have zf8:W3.heap[g]? =some (.cells tK 149 (0,0)):=by rw[rZ];exact Ki (Tt.tp w T3 0).drew g cur tK 149 (0,0) hg
     have zek:∀b,b≠g->W3.heap[b]? =w.heap[b]? :=λb hb=>by rw[rZ];exact zff _ _ _ _ hb
     have zni:W3.heap.size=w.heap.size:=by rw[rZ];simp[zfn];rfl
     have vZ:tK.toList.length=c*2:=by rw[Su];show(_++_++_:List aF).length=_;simp only[gM,rU,xS,mG,hlen];omega
     refine wp_IN15 (Tt.tp w T3 0) W3 g (n+1) c i _ rfl rfl rfl rfl ⟨aC,aC,aC,aC,aC⟩ (mU _) rfl ?_;rw[Go.Mt.Ac,zqB];simp only[Go.Mt.wN,dW,dS,zme,lIN15,C2,Cy];show Q .normal _ W3;refine HQ.o _ _ ?_;clear HQ mU rZ;refine CW.sq H ?_;refine CW.rg H [0,1,2,3,4] ?_;refine CR.mv H (.slice (some ⟨g,0,none⟩) (n+1) c) ?_;refine CR.mv H (.int .i64 (i:Int)) ?_;refine CR.mv H (.slice (some ⟨g,i*2,none⟩) (n+1-i) (c-i)) ?_ (hx:=λT=>by exact Qr rfl x6 jY cG rfl rfl rfl aC aC rfl rfl rfl);refine CR.mv H (.slice (some ⟨gv,0,none⟩) 1 1) ?_;refine CR.op H zza rfl aQ (λT2=>?_);have mU:∀ty,(C5 #[69,69] ty #[.slice (some ⟨g,i*2,none⟩) (n+1-i) (c-i),.slice (some ⟨gv,0,none⟩) 1 1]).run aK (Tt.tp W3 T2 0)=.ok (goInt (zb3 1 (n+1-i))) ((Tt.tp W3 T2 0).setRow g (tK.toList.take (i*2)++x.cells++tK.toList.drop (i*2+(x.cells).length)).toArray):=λty=>
      zdo (P:=aK) x6 jY zf8 zwn (λj u hj=>by rw[Ly,qX];exact(aJ (w:=W3) ((zek gv Aq).trans hv) j).trans (by rw[<-Ai];exact hj)) (by rw[<-Dj,vZ];show i*2+2<=_;omega) Sb
     obtain⟨Hn,zcV⟩:=aU ((tK.toList.take (i*2)++x.cells++tK.toList.drop (i*2+(x.cells).length)).toArray:Array aF);rw[<-zcV] at mU;obtain⟨W2,qH⟩:=aU ((Tt.tp W3 T2 0).setRow g Hn);rw[<-qH] at mU;have Kk:W2.heap[g]? =some (.cells Hn 149 (0,0)):=by rw[qH];exact Ki (Tt.tp W3 T2 0) g tK Hn 149 (0,0) zf8
     have zfu:∀b,b≠g->W2.heap[b]? =w.heap[b]? :=λb hb=>by rw[qH];exact(zff _ _ _ _ hb).trans (zek b hb)
     have jW:W2.heap.size=w.heap.size:=by rw[qH];simp[zfn];exact zni
     obtain⟨Uv,Tl⟩:=zGY (c0:=cur.toList) (a:=(bG xs).take (i*2)) (b:=(bG xs).drop (i*2)) (xx:=x.cells) (c1:=tK.toList) (c2:=Hn.toList) (by rw[la];exact zG2) (by rw[la,lb,mG];show i*2+2+_<=_;omega) (by rw[Su,la,show i*2+x.cells.length=(i+1)*2 by show i*2+2=_;omega]) (by rw[zcV,la]);rw[mG] at Tl;rw[la,lb,show i*2+x.cells.length+(n-i)*2=(n+1)*2 by show i*2+2+_=_;omega,<-zl8] at Uv;have oF:W2.ownsRow lo 149 2 (.slice (some ⟨g,0,none⟩) (n+1) c) (n+1) (bG (xs.take i++x::xs.drop i)):=⟨by rw[<-Uv,rU,Tl];omega,.inr ⟨g,c,Hn,rfl,zIn,Kk,aC,sD,by rw[<-Dj];exact Tl,Uv⟩⟩;refine⟨_,W2,.inl (zfX rfl rfl rfl (mU _)),?_⟩;simp only[cC,gI,dW,dS];clear mU qH;refine CR.nil H ?_;refine CW.sq H ?_;refine CW.pQ H zbA (λT4 Q HQ=>?_);go_wp2;refine HQ.o _ _ ?_;clear HQ;refine CW.rt H ?_;exact⟨.inr rfl,rfl,.slice (some ⟨g,0,none⟩) (n+1) c,rfl,rfl,g,c,rfl,cI oF λb e=>rfl,⟨by show _<=W2.heap.size;omega,λb hb hn=>zfu b λe=>hn (by rw[e];rfl)⟩,.inl rfl⟩
section
variable {P:bR}{w:aE}
theorem zuE {ops:Array aZ}{rest:List aZ}{o:aZ}{a:tP}{Q:nZ->tP->aE->Prop}(Fp:o.guard=none)(x y:cN)(t t2:aM)(ho:o.op=.binOp .neq t x y t2){d:Mm}{e:aM}(hu:P.underlying t=some (.chan d e))(p q:Option Nat)(hx:a.eval x=.chan p)(hy:a.eval y=.chan q){r:Bool}(hr:(!(p==q))=r)
 (h:wpList P ops Q rest (a.put o.dst (.bool r)) w):wpList P ops Q (o::rest) a w:=by
 subst hr;refine wpList_plain Fp λK hK=>?_;unfold aZ.wp;simp[aS,eqGuard,binOp,ho,hx,hy,ziE hu];exact hK _ _ h
end
def yR (xs:List bE)(p:Int):Nat:=(xs.takeWhile λx=>decide (p<=x.p)).length
def zdE (xs:List bE)(p:Int):yR xs p<=xs.length:=(zom _).length_le
theorem zC7 (xs:List bE)(c:bE):tH xs c=xs.take (yR xs c.p)++c::xs.drop (yR xs c.p):=by
 unfold tH yR;congr 1
 .exact(List.prefix_iff_eq_take.1 (zom _))
 .congr 1
  have h:=List.takeWhile_append_dropWhile (p:=λx:bE=>decide (c.p<=x.p)) (l:=xs);generalize xs.takeWhile (λx=>decide (c.p<=x.p))=a at*;generalize xs.dropWhile (λx=>decide (c.p<=x.p))=b at*;subst h;simp
variable {p:Int}
theorem zBf :∀{j:Nat} {x:bE},j<yR xs p->xs[j]? =some x->p<=x.p:=by
 unfold yR
 induction xs with
 |nil=>intro j x hj;simp at hj
 |cons y ys ih=>
  intro j x hj hx;rw[zcg] at hj;split at hj
  .rename_i hy
   cases j with
   |zero=>simp at hx;subst hx;simpa using hy
   |succ j=>exact ih zbD (by simpa using hx)
  .simp at hj
theorem zAV :∀{j:Nat} {x:bE},yR xs p=j->xs[j]? =some x->x.p<p:=by
 unfold yR
 induction xs with
 |nil=>intro j x hj hx;simp at hx
 |cons y ys ih=>
  intro j x hj hx;rw[zcg] at hj;split at hj
  .rename_i hy
   cases j with
   |zero=>simp at hj
   |succ j=>exact ih zbD (by simpa using hx)
  .rename_i hy
   simp at hj;subst hj;simp at hx;subst hx;simpa using hy
def zjd:Go.Code:=(zvT.body).getD .skip
def rRI9:Go.Code:=match zjd with| .seq _ (.seq _ (.seq _ (.seq _ (.seq _ (.seq _ (.seq (.block _ (.loop (.seq (.seq (a) _) _))) _))))))=>a|_=>.skip
def rRI11:Go.Code:=match zjd with| .seq _ (.seq _ (.seq _ (.seq _ (.seq _ (.seq _ (.seq _ (.seq (a) _)))))))=>a|_=>.skip
def zpq:Array Oper:=match rRI11 with| .region _ ops _=>ops|_=>#[]
abbrev oRI11_9:Oper:=⟨some 72,.buildSlice 69 1 #[(0,.tmp 71)],69,"l6_office.go:161",#[⟨8,.data⟩],none⟩
def zHw:zpq[9]? =some oRI11_9:=rfl
abbrev zE9:Oper:=⟨none,.store 69 (.tmp 75) (.tmp 73),0,"l6_office.go:161",#[⟨12,.data⟩,⟨10,.data⟩,⟨10,.chain⟩,⟨0,.phase⟩,⟨1,.phase⟩,⟨2,.phase⟩,⟨3,.phase⟩,⟨4,.phase⟩,⟨5,.phase⟩,⟨6,.phase⟩,⟨7,.phase⟩,⟨8,.phase⟩,⟨9,.phase⟩,⟨10,.phase⟩],none⟩
def zBd:zpq[13]? =some zE9:=rfl
def Cc:vR aK 101:=⟨_,zs3,.inr (.inl ⟨_,rfl⟩)⟩
section
variable {Q:nZ->tP->aE->Prop}{u3 u4 u5 u6 u7 u9 gU gH gK gJ gE gF u16 gY kQ kM jR gZ iJ iI iD iK iH iA iC iG jK jL u32 iO iL iB hY kI kR iM iN iF iX iP jB jC iW iV iY jD iS iU mF mL lC lA kN kJ kO kV kH kE kC j8 u64 kD j6 j5 kF lB kL kU j7 za7 Z9 zbq zcN zaJ zdg zbI:aF}{w:aE}
theorem wp_RI9 {lo hb n cW m:Nat}{AW:Option bL}{xs:List bE}{c:bE}(h7:w.cell? ⟨hb,7,none⟩=some (.slice AW n cW))(hs:b7 w lo w.heap.size 2 AW n cW (bG xs))(hn:xs.length=n)(P8:n<=1000)(hm:m<=yR xs c.p)(hp:0<=c.p/\c.p<=9)(h:∀zpj zrC ztV zoK z46 zxD zuk z49 zqh z51 zr4 z53 zwi zvJ zx7 zxS zqz z59,Q .normal ⟨#[.pointer (some ⟨hb,0,none⟩),.int .i64 c.c,.int .i64 c.p,u3,u4,u5,u6,u7,.int .i64 (m:Int),u9,gU,gH,gK,gJ,gE,gF,u16,gY,kQ,kM,jR,gZ,iJ,iI,iD,iK,iH,iA,iC,iG,jK,jL,u32,iO,iL,iB,hY,kI,kR,iM,iN,iF,zpj,zrC,ztV,zoK,z46,zxD,zuk,z49,zqh,z51,zr4,z53,zwi,zvJ,zx7,zxS,zqz,z59,.bool (decide (m<yR xs c.p)),kE,kC,j8,u64,kD,j6,j5,kF,lB,kL,kU,j7,za7,Z9,zbq,zcN,zaJ,zdg,zbI],[]⟩ w):
 Code.wp aK rRI9 Q ⟨#[.pointer (some ⟨hb,0,none⟩),.int .i64 c.c,.int .i64 c.p,u3,u4,u5,u6,u7,.int .i64 (m:Int),u9,gU,gH,gK,gJ,gE,gF,u16,gY,kQ,kM,jR,gZ,iJ,iI,iD,iK,iH,iA,iC,iG,jK,jL,u32,iO,iL,iB,hY,kI,kR,iM,iN,iF,iX,iP,jB,jC,iW,iV,iY,jD,iS,iU,mF,mL,lC,lA,kN,kJ,kO,kV,kH,kE,kC,j8,u64,kD,j6,j5,kF,lB,kL,kU,j7,za7,Z9,zbq,zcN,zaJ,zdg,zbI],[]⟩ w:=by
 have hle:=zdE xs c.p;have zow:=aD (show∀(j:Nat) (x:bE),j<yR xs c.p->xs[j]? =some x->c.p<=x.p from λj x hj hx=>zBf hj hx);obtain⟨pl,l6⟩:=aU (yR xs c.p);rw[<-l6] at hm h hle zow;have zak:=aD l6;have Uh:=aD hn;have HQ:=aD h;simp only[rRI9,zjd,zvT,y6];by_cases aN:m<n
 .obtain⟨bW,oW,x,hA,mX,eE,e0,e1⟩:=zei hs aN
  subst hA;have i0:(0:Int)<=(m:Int):=aC;have i1:(m:Int)<(n:Int):=aC;have HX:=aD eE;have HS:=aD hs;by_cases zGs:c.p<=x.p
  .have Pu:m<pl:=by
    rcases mY m pl with hh|hh
    .exact hh
    .have:m=pl:=aC
     subst this;exact absurd (zAV zak.o.symm HX.o) aC
   go_wp2;have:=HQ.o;simp only[Pu,decide_true] at this;exact this _ _ _ _ _ _ _ _ _ _ _ _ _ _ _ _ _ _
  .have Pu:¬m<pl:=λhh=>zGs (zow.o m x hh HX.o)
   go_wp2;have:=HQ.o;simp only[Pu,decide_false] at this;exact this _ _ _ _ _ _ _ _ _ _ _ _ _ _ _ _ _ _
 .have zCv:m=n:=by have:=Uh.o;omega
  subst zCv;have Pu:¬m<pl:=by have:=Uh.o;omega
  have HS:=aD hs;go_wp2;have:=HQ.o;simp only[Pu,decide_false] at this;exact this _ _ _ _ _ _ _ _ _ _ _ _ _ _ _ _ _ _
end
variable {d:nK}
theorem cf_ring (H:e.d.Ok){c:bE}(h:bF w lo hb v d)(mr:gC v d)(hi:yS d)(dV:lo<=w.heap.size)(hp:0<=c.p/\c.p<=9):
 CF e.d 101 #[.pointer (some ⟨hb,0,none⟩),.int .i64 c.c,.int .i64 c.p] K (.wk e.qs k) w (λK' l' y w'=>zcn e.qs lo hb v d w k 0 (qB d.r c) l' y w'):=by
 refine CF.of 80 zs3 (.inr (.inl ⟨_,rfl⟩)) ?_;have A0:=aD h;have T0:=aD (bM.refl (hb:=hb) (v:=v) (w:=w));have HI:=aD hi;have MR:=aD mr;have Me:=aD dV;have nJ:=hi.sm.nb;have Jw:=hi.sm.nw;have Cb:=hi.sm.nr;obtain⟨vS,zmz⟩:=hp;clear h mr hi dV;refine CW.sq H (CW.p0 H Cc A0 T0 λw1 fB A1 T1=>?_);obtain⟨AB,cB,L1,zaI⟩:=Gt A1.o.B aH;have yZ:=aD L1;clear L1 zaI;obtain⟨kn,sV⟩:=aU (((jI d.r.recs c.c).isSome||(vP d.r.back c.c).isSome));have fK:=aD sV;clear sV;refine CW.sq H ?_;refine CW.sq H ?_
 cases fA:jI d.r.recs c.c with
 |some i=>
  obtain⟨x,hx,Ih,rW⟩:=Cg fA;obtain⟨gL,No,hO,hM,hC⟩:=MR.o.onLine HI.o hx rW Ih;have Rt:=aD hO;have cK:=aD (show qB d.r c=(d.r,[107,110,111,119,110]) by unfold qB;rw[fA];rfl);clear hx Ih rW No hO hM hC fA;refine CW.pW H Cc A1 T1 λw2 Q fZ A2 T2 HQ=>?_;have k5:w2.cell? ⟨hb,5,none⟩=some (.map (some v.mO)):=aJ A2.o.blk 5;have k8:w2.cell? ⟨hb,8,none⟩=some (.slice AB d.r.back.length cB):=by
   have:=aJ A2.o.blk 8;rw[this,<-yZ.o];rfl
  have D8:=aD (show b7 w2 lo w2.heap.size 1 AB d.r.back.length cB (eH (d.r.back.map bE.c)) by have:=A2.o.B;rw[yZ.o] at this;exact y9 this aH);have Vz:=aD A2.o.O
  go_wp2_with (at_lookup;refine ztl _ rfl (.tmp 12) (.tmp 13) 67 false rfl 84 Te J8 (.chan none) (zcm _) v.mO c.c v.pO rfl rfl Vz.o ?_;rw[Rt.o];simp only[y6,zxs,jE,if_false];refine zuE rfl (.tmp 14) (.const (.chan none)) 84 84 rfl Sl (some gL) none rfl rfl (r:=true) rfl ?_)
  refine HQ.o _ _ ?_;clear HQ;clear k5 k8;refine CW.cd H true ?_;refine CW.sq H (CW.p0 H Cc A2 T2 λw3 iT A3 T3=>?_);refine CW.rt H ?_;refine⟨.inr rfl,rfl,.string ⟨#[107,110,111,119,110]⟩,rfl,⟨rfl,by rw[cK.o],v,?_,?_,?_,zN.rf v⟩⟩
  .rw[cK.o];exact A3.o
  .rw[cK.o];exact MR.o
  .exact T3.o
 |none=>
  have Rt:=aD (MR.o.offLine fA);have uQ:=aD fA;clear fA;refine CW.pW H Cc A1 T1 λw2 Q fZ A2 T2 HQ=>?_;have k5:w2.cell? ⟨hb,5,none⟩=some (.map (some v.mO)):=aJ A2.o.blk 5;have k8:w2.cell? ⟨hb,8,none⟩=some (.slice AB d.r.back.length cB):=by
   have:=aJ A2.o.blk 8;rw[this,<-yZ.o];rfl
  have D8:=aD (show b7 w2 lo w2.heap.size 1 AB d.r.back.length cB (eH (d.r.back.map bE.c)) by have:=A2.o.B;rw[yZ.o] at this;exact y9 this aH);have Vz:=aD A2.o.O
  go_wp2_with (first
   |(at_lookup;refine ztl _ rfl (.tmp 12) (.tmp 13) 67 false rfl 84 Te J8 (.chan none) (zcm _) v.mO c.c v.pO rfl rfl Vz.o ?_;rw[Rt.o];simp only[y6,zxs,jE,if_false];refine zuE rfl (.tmp 14) (.const (.chan none)) 84 84 rfl Sl (none) none rfl rfl (r:=false) rfl ?_)
   |(go_at_call 108;refine(zCk lo w2.heap.size d.r.back.length cB AB (d.r.back.map bE.c) c.c w2 D8.o aC).mono ?_;rintro en wz ⟨rfl,uY⟩;obtain rfl:=uY;rw[zxf]))
  refine HQ.o _ _ ?_;clear HQ;clear k8;have zLM:=A2
  cases G7:vP d.r.back c.c with
  |some p=>
   have cK:=aD (show qB d.r c=(d.r,[107,110,111,119,110]) by unfold qB;rw[G7,uQ.o];rfl);clear G7;refine CW.cd H true ?_;refine CW.sq H (CW.p0 H Cc A2 T2 λw3 iT A3 T3=>?_);refine CW.rt H ?_;refine⟨.inr rfl,rfl,.string ⟨#[107,110,111,119,110]⟩,rfl,⟨rfl,by rw[cK.o],v,?_,?_,?_,zN.rf v⟩⟩
   .rw[cK.o];exact A3.o
   .rw[cK.o];exact MR.o
   .exact T3.o
  |none=>
   have zsG:=aD G7;clear G7;refine CW.cd H false ?_;refine CW.sk H ?_;dsimp only;have zc9:=HI.o.nln;have zao:d.ln.length<=100:=by have:=(Cd HI.o.R.off).2.1;omega
   have zcB:=aD (λW (a:bF W lo hb v d)=>zpI a MR.o zc9 zao);clear zc9 zao fK;refine CW.sq H (CW.pW H Cc A2 T2 λw3 Q iT A3 T3 HQ=>?_)
   go_wp2_with (go_at_call 109;refine(zcB.o _ A3.o).mono ?_;rintro en wy ⟨rfl,zFZ⟩;obtain rfl:=zFZ)
   refine HQ.o _ _ ?_;clear HQ;clear zcB;refine CW.sq H ?_
   cases fQ:oE d.r.o d.r.recs with
   |nil=>
    rw[zv4 fQ];have cK:=aD (show qB d.r c=({d.r with back:=d.r.back++[c]},[98,117,115,121]) by unfold qB;rw[zsG.o,uQ.o];simp only[fQ];rfl);clear fQ;refine CW.sq H (CW.p0 H Cc A3 T3 λw4 lJ A4 T4=>?_);refine CW.cd H true ?_;refine CW.sq H (CW.pW H Cc A4 T4 λw5 Q n5 A5 T5 HQ=>?_);have k8:w5.cell? ⟨hb,8,none⟩=some v.sB:=aJ A5.o.blk 8;obtain⟨OC,zad⟩:=aU (.cells #[.int .i64 c.c] 3:Obj);have a5:=A5.o.alloc OC;obtain⟨q1,q2,w6,fP,cP,nE,fA⟩:=Oh (t:=38) (ty:=38) U9 Xq rfl aH a5.B (g:=w5.heap.size) (cs:=#[.int .i64 c.c]) (news:=[.int .i64 c.c]) (by rw[zad];exact lP _ _) rfl (m:=1) rfl aH La aC aH (by have:=T5.o.size;have:=Me.o;simp;omega);obtain⟨a6,t6⟩:=a5.putB nE (xs:=d.r.back++[c]) (by have e:eH ((d.r.back++[c]).map bE.c)=eH (d.r.back.map bE.c)++[.int .i64 c.c]:=(by simp[eH]);rw[e];exact cP) aP fA;have A6:=aD a6;have T6:=aD (T5.o.trans ((bM.below (dO (eG _ w5) OC)).trans (⟨t6.size,t6.block,t6.moved⟩:bM hb v (w5.alloc OC) _ _)));have Lo:w6.heap[hb]? =some (Pw v _):=(a5.other (j:=6) (c:=8) (x:=v.sB) rfl aH nE (.slice (some ⟨q1,0,none⟩) (d.r.back.length+1) q2)).2.trans a5.blk;have zrV:=aJ Lo 8;have kf:=eK Lo 8;have AP:=aD fP;obtain⟨A8,c8,zf7,_⟩:=Gt A5.o.B aH;have Qe:w5.cell? ⟨hb,8,none⟩=some (.slice A8 d.r.back.length c8):=by rw[k8,zf7]
    have zIz:w6.cell? ⟨hb,8,none⟩=some (.slice A8 d.r.back.length c8):=by rw[zrV,<-zf7];rfl
    rw[zf7,zad] at AP;clear cP nE fA a6 t6 a5 Lo fP k8 zrV zf7
    go_wp2_with (at_builtin;refine zwB rfl (.tmp 32) (.tmp 34) 38 38 rfl (.slice A8 d.r.back.length c8) (.slice (some ⟨w5.heap.size,0,none⟩) 1 1) (.slice (some ⟨q1,0,none⟩) (d.r.back.length+1) q2) rfl rfl AP.o ?_)
    refine HQ.o _ _ ?_;clear HQ;clear Qe zIz kf AP;clear A5 T5;obtain⟨zLu,zqP⟩:∃y,y=w6.setCell ⟨hb,8,none⟩ (.slice (some ⟨q1,0,none⟩) (d.r.back.length+1) q2):=⟨_,rfl⟩;rw[<-zqP] at A6 T6⊢;clear zqP;refine CW.sq H (CW.p0 H Cc A6 T6 λw7 qU A7 T7=>?_);refine CW.rt H ?_;refine⟨.inr rfl,rfl,.string ⟨#[98,117,115,121]⟩,rfl,⟨rfl,by rw[cK.o],{v with sB:=.slice (some ⟨q1,0,none⟩) (d.r.back.length+1) q2},?_,?_,?_,⟨rfl,rfl,rfl,rfl⟩⟩⟩
    .rw[cK.o];exact A7.o
    .rw[cK.o];refine gC.of MR.o ?_ ?_ ?_ ?_ ?_<;>rfl
    .exact T7.o
   |cons lf ls=>
    obtain⟨i,gL,vM⟩:=HI.o.free fQ;have uH:Iu d=(i:Int):=by rw[zxv fQ,vM.l];omega
    rw[uH];have cK:=aD (show qB d.r c=({d.r with recs:=d.r.recs++[⟨c.c,(i:Int)+1,0,d.r.clk,-1,-1,eO⟩],wait:=tH d.r.wait c},[108,105,110,101,32]++jM ((i:Int)+1)) by unfold qB;rw[zsG.o,uQ.o];simp only[fQ,vM.l];rfl);have FA:=aD vM;have zHr:=vM.i6;have zuK:i<=50:=by have:=(ze7 HI.o.R.off (l:=lf) (by rw[fQ];simp));have:=vM.l;omega
    clear fQ vM uH;refine CW.sq H (CW.pW H Cc A3 T3 λw4 Q lJ A4 T4 HQ=>?_);have i0:(0:Int)<=(i:Int):=aC;go_wp2;refine HQ.o _ _ ?_;clear HQ;refine CW.cd H false ?_;refine CW.sk H ?_;dsimp only;refine CW.sq H (CW.pW H Cc A4 T4 λw5 Q n5 A5 T5 HQ=>?_);have zIA:lo<=w5.heap.size:=eM Me.o T5.o.size
    go_wp2_with (go_at_call 110;refine(zxM A5.o zIA FA.o.g aC Cb c.c).mono ?_;rintro en w6 ⟨rfl,v6,a6,t6,p6⟩;have A6:=aD a6;have T6:=aD (T5.o.trans t6);have P6:=aD p6;clear a6 t6 p6)
    refine HQ.o _ _ ?_;clear HQ;clear A5 T5;have zBQ:=aD (gC.of (v':=v6) (d':={d with r:={d.r with recs:=d.r.recs++[⟨c.c,(i:Int)+1,0,d.r.clk,-1,-1,eO⟩]}}) (MR.o.more HI.o.ndl FA.o.g FA.o.un uQ.o (o:=0) (hh:=-1) (tt:=-1) (clk:=d.r.clk)) P6.o.1 P6.o.2.1 P6.o.2.2.1 rfl rfl);have zKJ:lo<=w6.heap.size:=eM Me.o T6.o.size;refine CW.sq H (CW.p0 H Cc A6 T6 λw7 qU A7 T7=>?_);obtain⟨AW,cW,Lw,zyu⟩:=Gt A7.o.W aH;have Bb:=aD (show v6.sW=.slice AW d.r.wait.length cW from Lw);clear Lw zyu;refine CW.sq H ?_;refine CW.block H ?_;refine CW.loop H (λnn s=>∃(m:Nat) (wz:aE) (u3 u4 u5 u6 u9 gU gH gK gJ gE gF u16 gY kQ kM jR gZ iJ iI iD iK iH iA iC iG jK jL u32 iO iL iB hY kI kR iM iN iF iX iP jB jC iW iV iY jD iS iU mF mL lC lA kN kJ kO kV kH kE kC j8 u64 kD j6 j5 kF lB kL kU j7 za7 Z9 zbq zcN zaJ zdg zbI:aF),s=⟨[],K,.wk e.qs k,#[.pointer (some ⟨hb,0,none⟩),.int .i64 c.c,.int .i64 c.p,u3,u4,u5,u6,.int .i64 (i:Int),.int .i64 (m:Int),u9,gU,gH,gK,gJ,gE,gF,u16,gY,kQ,kM,jR,gZ,iJ,iI,iD,iK,iH,iA,iC,iG,jK,jL,u32,iO,iL,iB,hY,kI,kR,iM,iN,iF,iX,iP,jB,jC,iW,iV,iY,jD,iS,iU,mF,mL,lC,lA,kN,kJ,kO,kV,kH,kE,kC,j8,u64,kD,j6,j5,kF,lB,kL,kU,j7,za7,Z9,zbq,zcN,zaJ,zdg,zbI],wz⟩/\m<=yR d.r.wait c.p/\nn=yR d.r.wait c.p-m/\bF wz lo hb v6 {d with r:={d.r with recs:=d.r.recs++[⟨c.c,(i:Int)+1,0,d.r.clk,-1,-1,eO⟩]}}/\bM hb v w v6 wz) (λnn s hs=>?_) (n:=yR d.r.wait c.p) ?_
    rotate_left
    .exact⟨0,w7,_,_,_,_,_,_,_,_,_,_,_,_,_,_,_,_,_,_,_,_,_,_,_,_,_,_,_,_,_,_,_,_,_,_,_,_,_,_,_,_,_,_,_,_,_,_,_,_,_,_,_,_,_,_,_,_,_,_,_,_,_,_,_,_,_,_,_,_,_,_,_,_,_,_,_,rfl,jO _,rfl,A7.o,T7.o⟩
    .obtain⟨m,wz,u3,u4,u5,u6,u9,gU,gH,gK,gJ,gE,gF,u16,gY,kQ,kM,jR,gZ,iJ,iI,iD,iK,iH,iA,iC,iG,jK,jL,u32,iO,iL,iB,hY,kI,kR,iM,iN,iF,iX,iP,jB,jC,iW,iV,iY,jD,iS,iU,mF,mL,lC,lA,kN,kJ,kO,kV,kH,kE,kC,j8,u64,kD,j6,j5,kF,lB,kL,kU,j7,za7,Z9,zbq,zcN,zaJ,zdg,zbI,rfl,Pu,Cq,az,tz⟩:=hs
     have A8:=aD az;have T8:=aD tz;clear az tz A7 T7;refine CW.sq H ?_;refine CW.sq H ?_;refine CW.pQ H Cc (λzj3 Q HQ=>?_);obtain⟨w9,Iw⟩:=aU (Tt.tp wz zj3 0);have A9:=aD (show bF w9 lo hb v6 {d with r:={d.r with recs:=d.r.recs++[⟨c.c,(i:Int)+1,0,d.r.clk,-1,-1,eO⟩]}} by rw[Iw];exact A8.o.tp zj3 0);have T9:=aD (show bM hb v w v6 w9 by rw[Iw];exact T8.o.tp zj3 0)
     try dsimp only
     rw[<-Iw];clear Iw A8 T8;have hW:=A9.o.W;rw[Bb.o] at hW;have k7:w9.cell? ⟨hb,7,none⟩=some (.slice AW d.r.wait.length cW):=by
      have:=aJ A9.o.blk 7;rw[this,<-Bb.o];rfl
     refine wp_RI9 k7 (y9 hW aH) rfl Jw Pu ⟨vS,zmz⟩ λzpj zrC ztV zoK z46 zxD zuk z49 zqh z51 zr4 z53 zwi zvJ zx7 zxS zqz z59=>?_;refine HQ.o _ _ ?_;clear HQ hW k7;by_cases aN:m<yR d.r.wait c.p
     .simp only[aN,decide_true]
      refine CW.cd H true ?_;refine CW.sk H ?_;dsimp only;refine CW.block H ?_;refine CW.pQ H Cc (λZv Q HQ=>?_);obtain⟨vU,Dr⟩:=aU (Tt.tp w9 Zv 0);have sH:=aD (show bF vU lo hb v6 {d with r:={d.r with recs:=d.r.recs++[⟨c.c,(i:Int)+1,0,d.r.clk,-1,-1,eO⟩]}} by rw[Dr];exact A9.o.tp Zv 0);have wK:=aD (show bM hb v w v6 vU by rw[Dr];exact T9.o.tp Zv 0)
      try dsimp only
      rw[<-Dr];clear Dr A9 T9;have zD3:m<=1000:=by have:=zdE d.r.wait c.p;omega
      go_wp2;refine HQ.o _ _ ?_;refine⟨yR d.r.wait c.p-(m+1),aC,m+1,vU,_,_,_,_,_,_,_,_,_,_,_,_,_,_,_,_,_,_,_,_,_,_,_,_,_,_,_,_,_,_,_,_,_,_,_,_,_,_,_,_,_,_,_,_,_,_,_,_,_,_,_,_,_,_,_,_,_,_,_,_,_,_,_,_,_,_,_,_,_,_,_,_,_,_,_,rfl,aC,rfl,sH.o,wK.o⟩
     .simp only[aN,decide_false]
      refine CW.cd H false ?_;refine CW.exit H aP ?_;dsimp only;rw[if_pos rfl];have Mz:m=yR d.r.wait c.p:=aC;have zCd:=aD Mz;have zD3:m<=1000:=by have:=zdE d.r.wait c.p;omega
      have zbl:m<=d.r.wait.length:=by have:=zdE d.r.wait c.p;omega
      clear Mz aN Pu Cq;have zAN:=aD (show w9.ownsRow lo 149 2 (.slice AW d.r.wait.length cW) d.r.wait.length (bG d.r.wait) by have:=A9.o.W;rw[Bb.o] at this;exact this);have k7:w9.cell? ⟨hb,7,none⟩=some (.slice AW d.r.wait.length cW):=by
       have:=aJ A9.o.blk 7;rw[this,<-Bb.o];rfl
      refine CW.sq H ?_;refine CW.rg H [0,1,2,3,4,5,6,7,8,9,10,11,12,13] ?_;refine CR.mv H (.pointer (some ⟨hb,0,none⟩)) ?_;refine CR.mv H (.pointer (some ⟨hb,0,none⟩)) ?_;refine CR.mv H (.pointer (some ⟨hb,0,none⟩)) ?_;refine CR.mg H (.pointer (some ⟨hb,7,none⟩)) ?_;refine nP ?_;refine CR.mv H (.slice AW d.r.wait.length cW) ?_ (hx:=λT=>by have hh:(Tt.tp w9 T 0).cell? _=_:=k7;unfold aS;go_simp);refine CR.mv H (.int .i64 (m:Int)) ?_;refine CR.mv H (.int .i64 c.c) ?_;refine CR.mv H (.int .i64 c.p) ?_;refine CR.mv H (.agg #[.int .i64 c.c,.int .i64 c.p]) ?_ (hx:=λT=>by unfold aS;go_simp;try rfl);refine CR.op H zHw rfl aQ (λT=>⟨.slice (some ⟨w9.heap.size,0,none⟩) 1 1,(Tt.tp w9 T 0).alloc (.cells #[.int .i64 c.c,.int .i64 c.p] 149),.inl Pb,?_⟩);simp only[cC,gI,dW,dS];obtain⟨wa,xF⟩:=aU ((Tt.tp w9 T 0).alloc (.cells #[.int .i64 c.c,.int .i64 c.p] 149));have sH:=aD (show bF wa lo hb v6 {d with r:={d.r with recs:=d.r.recs++[⟨c.c,(i:Int)+1,0,d.r.clk,-1,-1,eO⟩]}} by rw[xF];exact(A9.o.tp T 0).alloc _);have wK:=aD (show bM hb v w v6 wa by rw[xF];exact(T9.o.tp T 0).trans (bM.below (dO (eG _ _) _)));have HV:=aD (show wa.heap[w9.heap.size]? =some (.cells #[.int .i64 c.c,.int .i64 c.p] 149) by rw[xF];exact lP _ _);have zoH:=aD (show wa.ownsRow lo 149 2 (.slice AW d.r.wait.length cW) d.r.wait.length (bG d.r.wait) by have:=sH.o.W;rw[Bb.o] at this;exact this);have aT:(Q1 AW d.r.wait.length cW).ownBlock≠some w9.heap.size:=λe=>by have:=(zAN.o.lt _ e).2;omega
      have zJF:lo<=wa.heap.size:=eM Me.o wK.o.size;rw[<-xF];clear xF A9 T9 k7;refine CR.cl H (zzs H (x:=c) zoH.o zJF Jw zbl HV.o aT) (λK' l' y wb hl oQ=>?_);obtain⟨rfl,g2,c2,rfl,oF,zh5,fA⟩:=oQ;simp only[cC,gI,dW,dS];have Ri:({wb with heap:=wa.heap}:aE).grownBy wb v6.sW.ownBlock:=⟨rfl,rfl,rfl,zh5.size,λb bZ hn=>zh5.block b bZ (by rw[<-Bb.o];exact hn)⟩;have a0:bF ({wb with heap:=wa.heap}:aE) lo hb v6 {d with r:={d.r with recs:=d.r.recs++[⟨c.c,(i:Int)+1,0,d.r.clk,-1,-1,eO⟩]}}:=sH.o.same rfl;have zhW:d.r.wait.take m++c::d.r.wait.drop m=tH d.r.wait c:=by rw[zC7,zCd.o]
      rw[zhW] at oF;obtain⟨a6,t6⟩:=a0.putW Ri oF (by rw[<-zhW];simp;omega) (by rw[Bb.o];exact fA.imp (λe=>e) (λe b bZ=>by have qW:g2=b:=cE bZ;show wa.heap.size<=b;rw[<-qW];exact e));have zaS:=(a0.other (j:=5) (c:=7) (x:=v6.sW) rfl aH Ri (.slice (some ⟨g2,0,none⟩) (d.r.wait.length+1) c2)).2;have ztM:wb.cell? ⟨hb,7,none⟩=some (.slice AW d.r.wait.length cW):=by
       have:=aJ (zaS.trans a0.blk) 7;rw[this,<-Bb.o];rfl
      have zqZ:=eK (zaS.trans a0.blk) 7;have E0:=aD (wK.o.trans ((bM.refl (v:=v6) (w:=wa) (hb:=hb)).same (x:={wb with heap:=wa.heap}) rfl|>.trans t6));have Ay:=aD a6;clear a6 t6 a0 Ri zaS oF zh5 fA sH wK HV zoH aT zhW;refine nP ?_;refine CR.mv H (.pointer (some ⟨hb,0,none⟩)) ?_;refine CR.mg H (.pointer (some ⟨hb,7,none⟩)) ?_;refine CR.sto H zBd rfl aQ rfl (w':=wb.setCell ⟨hb,7,none⟩ (.slice (some ⟨g2,0,none⟩) (d.r.wait.length+1) c2)) (λT=>by have hh:(Tt.tp wb T 0).cell? _=_:=ztM;have hf:(Tt.tp wb T 0).frozen? _=_:=zqZ;unfold aS;go_simp;try rfl) ?_;obtain⟨wc,zd5⟩:=aU (wb.setCell ⟨hb,7,none⟩ (.slice (some ⟨g2,0,none⟩) (d.r.wait.length+1) c2));have zcX:=aD (show bF wc lo hb {v6 with sW:=.slice (some ⟨g2,0,none⟩) (d.r.wait.length+1) c2} {d with r:={d.r with recs:=d.r.recs++[⟨c.c,(i:Int)+1,0,d.r.clk,-1,-1,eO⟩],wait:=tH d.r.wait c}} by rw[zd5];exact Ay.o);have zdh:=aD (show bM hb v w {v6 with sW:=.slice (some ⟨g2,0,none⟩) (d.r.wait.length+1) c2} wc by rw[zd5];exact E0.o);dsimp only;rw[<-zd5];clear zd5 Ay E0 ztM zqZ;refine CR.nil H ?_;have Fl:=P3 (c:=(i:Int)+1) aC aC;refine CW.sq H (CW.pW H Cc zcX zdh λzlJ Q ztq zap zcT HQ=>?_)
      go_wp2_with (go_at_call 112;refine(zk2 ((i:Int)+1) aC aC _).mono ?_;rintro en zdD ⟨rfl,zGQ⟩;obtain rfl:=zGQ)
      refine HQ.o _ _ ?_;clear HQ;refine CW.rt H ?_;refine⟨.inr rfl,rfl,.string ⟨([108,105,110,101,32]++jM ((i:Int)+1)).toArray⟩,(by have ee:(⟨#[108,105,110,101,32]⟩:ByteArray)++⟨(jM ((i:Int)+1)).toArray⟩=⟨([108,105,110,101,32]++jM ((i:Int)+1)).toArray⟩:=(by simp[Hx]);rw[<-ee];rfl),⟨rfl,by rw[cK.o],{v6 with sW:=.slice (some ⟨g2,0,none⟩) (d.r.wait.length+1) c2},?_,?_,?_,⟨P6.o.2.2.2.1,P6.o.2.2.2.2.1,P6.o.2.2.2.2.2.2.2.1,P6.o.2.2.2.2.2.2.2.2⟩⟩⟩
      .rw[cK.o];exact zap.o
      .rw[cK.o];refine gC.of zBQ.o ?_ ?_ ?_ ?_ ?_<;>rfl
      .exact zcT.o
structure EvPre (lo hb:Nat)(v:fO)(d:nK)(w:aE):Prop where
 at_:bF w lo hb v d
 mr:gC v d
 i:yS d
 lo_:lo<=w.heap.size
 tab:Ad lo w
 clk:d.r.clk<=99000
 nbw:d.r.back.length+d.r.wait.length<=5000
def Jm:vR aK 81:=⟨_,zoZ,.inr (.inl ⟨_,rfl⟩)⟩
variable {ev:dG}
theorem zGq (H:e.d.Ok)(h:EvPre lo hb v d w)(mP:sN d.r.o.op ev=true)(hW:B4 e.W k (pJ d.r ev))(hK:∀(i g:Nat),d.qn[i]? =some g->K g (qa e.qs i)):
 CF e.d 81 #[.pointer (some ⟨hb,0,none⟩),.agg #[.string ev.k,.int .i64 ev.a,.int .i64 ev.b]] K (.wk e.qs k) w (λK' l' y w'=>zcn e.qs lo hb v d w k (pJ d.r ev).length (eU d.r ev) l' y w'):=by
 refine CF.of 37 zoZ (.inr (.inl ⟨_,rfl⟩)) ?_;have A0:=aD h.at_;have T0:=aD (bM.refl (hb:=hb) (v:=v) (w:=w));have HP:=aD h;have HW:=aD hW;have Y9:=(Cd h.i.R.off).2.2.2.1;have Rh:=h.i.nqn;have zaz:Kc d.r.o.op ev:=by unfold sN at mP;simpa using mP
 have zeK:=aD zaz;clear h hW mP zaz;refine CW.sq H (CW.pW H Jm A0 T0 λw1 Q fB A1 T1 HQ=>?_);go_wp2;refine HQ.o _ _ ?_;clear HQ;obtain⟨gx,uF⟩:=aU w1.heap.size;obtain⟨w2,fZ⟩:=aU (w1.alloc (.cells #[.string ev.k,.int .i64 ev.a,.int .i64 ev.b] 54));have A2:=aD (show bF w2 lo hb v d by rw[fZ];exact A1.o.alloc _);have T2:=aD (show bM hb v w v w2 by rw[fZ];exact T1.o.trans (bM.below (dO (eG _ _) _)));have zdv:=aD (show w2.heap[gx]? =some (.cells #[.string ev.k,.int .i64 ev.a,.int .i64 ev.b] 54) by rw[fZ,uF];exact lP _ _);rw[<-uF,<-fZ];clear fZ uF A1 T1;refine CW.sq H ?_;refine CW.sq H (CW.pW H Jm A2 T2 λw3 Q iT A3 T3 HQ=>?_);have vH:=aD (iT▸zdv.o);have kx:=aJ vH.o 0;go_wp2;refine HQ.o _ _ ?_;clear HQ;clear kx;refine CW.block H ?_;by_cases Yo:ev.k.toList=Jq
 .
   have qP:(ev.k.toList==[114,105,110,103])=true:=by rw[Yo];rfl
   have lU:=aD Yo;clear Yo;refine CW.sq H (CW.pW H Jm A3 T3 λw4 Q lJ A4 T4 HQ=>?_);have Nh:=aD (lJ▸vH.o);go_wp2;refine HQ.o _ _ ?_;clear HQ
   try simp only[qP]
   clear qP;refine CW.cond H (t:=true) rfl Qf ?_;refine CW.sq H ?_;refine CW.rg H [0,1,2,3,4,5,6] ?_;refine CR.mv H (.pointer (some ⟨hb,0,none⟩)) ?_;refine CR.mg H (.pointer (some ⟨gx,1,none⟩)) ?_;refine CR.mv H (.int .i64 ev.a) ?_ (hx:=λT=>by have hh:(Tt.tp w4 T 0).cell? _=_:=aJ Nh.o 1;unfold aS;go_simp);refine CR.mg H (.pointer (some ⟨gx,2,none⟩)) ?_;refine CR.mv H (.int .i64 ev.b) ?_ (hx:=λT=>by have hh:(Tt.tp w4 T 0).cell? _=_:=aJ Nh.o 2;unfold aS;go_simp)
   obtain⟨O4,Ar,Hl,uN⟩:1<=ev.a/\ev.a<=99/\0<=ev.b/\ev.b<=9:=by
    rcases zeK.o with h|h|⟨h,_⟩|h
    .exact h.2
    .rw[h.1] at lU;exact absurd lU.o aH
    .rcases h with h|h<;>(rw[h] at lU;exact absurd lU.o aH)
    .rw[h.1] at lU;exact absurd lU.o aH
   have l5:=aD (show eU d.r ev=qB d.r ⟨ev.a,ev.b⟩ by unfold eU;rw[if_pos lU.o]);have sP:=aD (show pJ d.r ev=[] by unfold pJ;rw[if_pos lU.o]);refine CR.cl H (cf_ring H (c:=⟨ev.a,ev.b⟩) A4.o HP.o.mr HP.o.i (eM HP.o.lo_ T4.o.size) ⟨Hl,uN⟩) (λK' l' y w' hl oQ=>?_);simp only[cC,gI,dW,dS];obtain⟨z1,rfl,z3⟩:=oQ;refine nP ?_;refine CR.mv H (.string ⟨(qB d.r ⟨ev.a,ev.b⟩).2.toArray⟩) ?_;refine CR.nil H ?_;refine CW.rt H ?_;obtain⟨v',z4,z5,z6,z7⟩:=z3;refine⟨.inr rfl,rfl,.string ⟨(qB d.r ⟨ev.a,ev.b⟩).2.toArray⟩,rfl,⟨by rw[sP.o];exact z1,by rw[l5.o],v',by rw[l5.o];exact z4,by rw[l5.o];exact z5,T4.o.trans z6,z7⟩⟩
 .
   have qP:(ev.k.toList==[114,105,110,103])=false:=by
    have hz:¬ev.k.toList=[114,105,110,103]:=Yo;simpa using hz
   have zj6:=aD Yo;clear Yo;refine CW.sq H (CW.pW H Jm A3 T3 λw4 Q lJ A4 T4 HQ=>?_);have Nh:=aD (lJ▸vH.o);go_wp2;refine HQ.o _ _ ?_;clear HQ
   try simp only[qP]
   clear qP;refine CW.cond H (t:=false) rfl Qf ?_;by_cases Yt:ev.k.toList=L5
   .
     have qP:(ev.k.toList==[104,97,110,103])=true:=by rw[Yt];rfl
     have lU:=aD Yt;clear Yt;refine CW.sq H (CW.pW H Jm A4 T4 λw5 Q n5 A5 T5 HQ=>?_);have Ds:=aD (n5▸Nh.o);go_wp2;refine HQ.o _ _ ?_;clear HQ
     try simp only[qP]
     clear qP;refine CW.cond H (t:=true) rfl Qf ?_;refine CW.sq H ?_;refine CW.rg H [0,1,2,3,4] ?_;refine CR.mv H (.pointer (some ⟨hb,0,none⟩)) ?_;refine CR.mg H (.pointer (some ⟨gx,1,none⟩)) ?_;refine CR.mv H (.int .i64 ev.a) ?_ (hx:=λT=>by have hh:(Tt.tp w5 T 0).cell? _=_:=aJ Ds.o 1;unfold aS;go_simp);have Pa:B4 e.W k (Dp d.r ev.a):=by
      have:=HW.o;unfold pJ at this;rw[if_neg yN,if_neg yN,if_neg yN,if_pos lU.o] at this;exact this
     have l5:=aD (show eU d.r ev=mJ d.r ev.a by unfold eU;rw[if_neg yN,if_neg yN,if_neg yN,if_pos lU.o]);have sP:=aD (show pJ d.r ev=Dp d.r ev.a by unfold pJ;rw[if_neg yN,if_neg yN,if_neg yN,if_pos lU.o]);refine CR.cl H (cf_hang H A5.o HP.o.mr HP.o.i (eM HP.o.lo_ T5.o.size) Pa hK) (λK' l' y w' hl oQ=>?_);simp only[cC,gI,dW,dS];obtain⟨z1,rfl,z3⟩:=oQ;refine nP ?_;refine CR.mv H (.string ⟨(mJ d.r ev.a).2.toArray⟩) ?_;refine CR.nil H ?_;refine CW.rt H ?_;obtain⟨v',z4,z5,z6,z7⟩:=z3;refine⟨.inr rfl,rfl,.string ⟨(mJ d.r ev.a).2.toArray⟩,rfl,⟨by rw[sP.o];exact z1,by rw[l5.o],v',by rw[l5.o];exact z4,by rw[l5.o];exact z5,T5.o.trans z6,z7⟩⟩
   .
     have qP:(ev.k.toList==[104,97,110,103])=false:=by
      have hz:¬ev.k.toList=[104,97,110,103]:=Yt;simpa using hz
     have zlP:=aD Yt;clear Yt;refine CW.sq H (CW.pW H Jm A4 T4 λw5 Q n5 A5 T5 HQ=>?_);have Ds:=aD (n5▸Nh.o);go_wp2;refine HQ.o _ _ ?_;clear HQ
     try simp only[qP]
     clear qP;refine CW.cond H (t:=false) rfl Qf ?_;by_cases U5:ev.k.toList=Jb
     .
       have qP:(ev.k.toList==[97,110,115,119,101,114])=true:=by rw[U5];rfl
       have lU:=aD U5;clear U5;refine CW.sq H (CW.pW H Jm A5 T5 λw6 Q pK A6 T6 HQ=>?_);have Kn:=aD (pK▸Ds.o);go_wp2;refine HQ.o _ _ ?_;clear HQ
       try simp only[qP]
       clear qP;refine CW.cond H (t:=true) rfl Qf ?_;refine CW.sq H ?_;refine CW.rg H [0,1,2,3,4] ?_;refine CR.mv H (.pointer (some ⟨hb,0,none⟩)) ?_;refine CR.mg H (.pointer (some ⟨gx,1,none⟩)) ?_;refine CR.mv H (.int .i64 ev.a) ?_ (hx:=λT=>by have hh:(Tt.tp w6 T 0).cell? _=_:=aJ Kn.o 1;unfold aS;go_simp)
       obtain⟨O4,Ar⟩:1<=ev.a/\ev.a<=d.r.o.op:=by
        rcases zeK.o with h|h|⟨_,h⟩|h
        .rw[h.1] at lU;exact absurd lU.o aH
        .rw[h.1] at lU;exact absurd lU.o aH
        .exact⟨h.1,h.2.1⟩
        .rw[h.1] at lU;exact absurd lU.o aH
       obtain⟨q,mB⟩:∃q:Nat,ev.a=(q:Int)+1:=⟨(ev.a-1).toNat,aC⟩;have hq:q<d.qn.length:=aC;have yG:q<=100:=aC;have Pa:B4 e.W k (Fu d.r ((q:Int)+1)):=by
        have:=HW.o;unfold pJ at this;rw[if_neg yN,if_pos lU.o,mB] at this;exact this
       have l5:=aD (show eU d.r ev=nH d.r ((q:Int)+1) by unfold eU;rw[if_neg yN,if_pos lU.o,mB]);have sP:=aD (show pJ d.r ev=Fu d.r ((q:Int)+1) by unfold pJ;rw[if_neg yN,if_pos lU.o,mB]);rw[mB];refine CR.cl H (cf_pick H A6.o HP.o.mr HP.o.i Pa hq yG hK) (λK' l' y w' hl oQ=>?_);simp only[cC,gI,dW,dS];obtain⟨z1,rfl,z3⟩:=oQ;refine nP ?_;refine CR.mv H (.string ⟨(nH d.r ((q:Int)+1)).2.toArray⟩) ?_;refine CR.nil H ?_;refine CW.rt H ?_;obtain⟨v',z4,z5,z6,z7⟩:=z3;refine⟨.inr rfl,rfl,.string ⟨(nH d.r ((q:Int)+1)).2.toArray⟩,rfl,⟨by rw[sP.o];exact z1,by rw[l5.o],v',by rw[l5.o];exact z4,by rw[l5.o];exact z5,T6.o.trans z6,z7⟩⟩
     .
       have qP:(ev.k.toList==[97,110,115,119,101,114])=false:=by
        have hz:¬ev.k.toList=[97,110,115,119,101,114]:=U5;simpa using hz
       have zl5:=aD U5;clear U5;refine CW.sq H (CW.pW H Jm A5 T5 λw6 Q pK A6 T6 HQ=>?_);have Kn:=aD (pK▸Ds.o);go_wp2;refine HQ.o _ _ ?_;clear HQ
       try simp only[qP]
       clear qP;refine CW.cond H (t:=false) rfl Qf ?_;by_cases V9:ev.k.toList=H0
       .
         have qP:(ev.k.toList==[114,101,116,117,114,110])=true:=by rw[V9];rfl
         have lU:=aD V9;clear V9;refine CW.sq H (CW.pW H Jm A6 T6 λw7 Q qU A7 T7 HQ=>?_);have G9:=aD (qU▸Kn.o);go_wp2;refine HQ.o _ _ ?_;clear HQ
         try simp only[qP]
         clear qP;refine CW.cond H (t:=true) rfl Qf ?_;refine CW.sq H ?_;refine CW.rg H [0,1,2,3,4] ?_;refine CR.mv H (.pointer (some ⟨hb,0,none⟩)) ?_;refine CR.mg H (.pointer (some ⟨gx,1,none⟩)) ?_;refine CR.mv H (.int .i64 ev.a) ?_ (hx:=λT=>by have hh:(Tt.tp w7 T 0).cell? _=_:=aJ G9.o 1;unfold aS;go_simp)
         obtain⟨O4,Ar⟩:1<=ev.a/\ev.a<=d.r.o.op:=by
          rcases zeK.o with h|h|⟨_,h⟩|h
          .rw[h.1] at lU;exact absurd lU.o aH
          .rw[h.1] at lU;exact absurd lU.o aH
          .exact⟨h.1,h.2.1⟩
          .rw[h.1] at lU;exact absurd lU.o aH
         obtain⟨q,mB⟩:∃q:Nat,ev.a=(q:Int)+1:=⟨(ev.a-1).toNat,aC⟩;have hq:q<d.qn.length:=aC;have yG:q<=100:=aC;have Pa:B4 e.W k (Dd d.r ((q:Int)+1)):=by
          have:=HW.o;unfold pJ at this;rw[if_neg yN,if_neg yN,if_pos lU.o,mB] at this;exact this
         have l5:=aD (show eU d.r ev=lZ d.r ((q:Int)+1) by unfold eU;rw[if_neg yN,if_neg yN,if_pos lU.o,mB]);have sP:=aD (show pJ d.r ev=Dd d.r ((q:Int)+1) by unfold pJ;rw[if_neg yN,if_neg yN,if_pos lU.o,mB]);rw[mB];refine CR.cl H (cf_back H A7.o HP.o.mr HP.o.i (eM HP.o.lo_ T7.o.size) Pa hq yG hK) (λK' l' y w' hl oQ=>?_);simp only[cC,gI,dW,dS];obtain⟨z1,rfl,z3⟩:=oQ;refine nP ?_;refine CR.mv H (.string ⟨(lZ d.r ((q:Int)+1)).2.toArray⟩) ?_;refine CR.nil H ?_;refine CW.rt H ?_;obtain⟨v',z4,z5,z6,z7⟩:=z3;refine⟨.inr rfl,rfl,.string ⟨(lZ d.r ((q:Int)+1)).2.toArray⟩,rfl,⟨by rw[sP.o];exact z1,by rw[l5.o],v',by rw[l5.o];exact z4,by rw[l5.o];exact z5,T7.o.trans z6,z7⟩⟩
       .
         have qP:(ev.k.toList==[114,101,116,117,114,110])=false:=by
          have hz:¬ev.k.toList=[114,101,116,117,114,110]:=V9;simpa using hz
         have zj0:=aD V9;clear V9;refine CW.sq H (CW.pW H Jm A6 T6 λw7 Q qU A7 T7 HQ=>?_);have G9:=aD (qU▸Kn.o);go_wp2;refine HQ.o _ _ ?_;clear HQ
         try simp only[qP]
         clear qP;refine CW.cond H (t:=false) rfl Qf ?_;refine CW.sk H ?_;dsimp only
         obtain⟨O4,Ar⟩:1<=ev.a/\ev.a<=60:=by
          rcases zeK.o with h|h|⟨h,_⟩|h
          .exact absurd h.1 zj6.o
          .exact absurd h.1 zlP.o
          .rcases h with h|h
           .exact absurd h zl5.o
           .exact absurd h zj0.o
          .exact⟨h.2.1,h.2.2.1⟩
         have l5:=aD (show eU d.r ev=uJ d.r ev.a by unfold eU;rw[if_neg zj6.o,if_neg zl5.o,if_neg zj0.o,if_neg zlP.o]);have sP:=aD (show pJ d.r ev=[] by unfold pJ;rw[if_neg zj6.o,if_neg zl5.o,if_neg zj0.o,if_neg zlP.o]);have zBi:=aD (λW (t:bM hb v w v W)=>HP.o.tab.turn HP.o.at_ HP.o.lo_ t);refine CW.sq H (CW.pW H Jm A7 T7 λw8 Q Is A8 T8 HQ=>?_);have Il:=aD (Is▸G9.o);have kx:=aJ Il.o 1;have zMl:=aJ Il.o 0
         go_wp2_with (go_at_call 105;refine(zBL A8.o HP.o.mr HP.o.i (eM HP.o.lo_ T8.o.size) (zBi.o _ T8.o) aC (by have:=HP.o.clk;omega) HP.o.nbw).mono ?_;rintro en wz ⟨rfl,z3⟩;have Z3:=aD z3;clear z3)
         refine HQ.o _ _ ?_;clear HQ;refine CW.rt H ?_;obtain⟨v',z4,z5,z6,z7⟩:=Z3.o;refine⟨.inr rfl,rfl,.string ⟨(uJ d.r ev.a).2.toArray⟩,rfl,⟨by rw[sP.o];rfl,by rw[l5.o],v',by rw[l5.o];exact z4,by rw[l5.o];exact z5,T8.o.trans z6,z7⟩⟩
section
variable {ops:Array aZ}{ch:List Nat}{V0:Nat->aF}{vs:List aF}{t0 t:Array aF}
variable {s:Tmp}
theorem qI (KO:Mb ops){i:Nat}{o:aZ}{v:aF}(ho:ops[i]? =some o)(hd:o.dst=some s)(hz:s<t0.size)(hv:VV ch V0 vs i=v):(dC ops (VV ch V0 vs) t0).getD s aA=v:=by
 have h:=(Sm (vals:=VV ch V0 vs) (t0:=t0) KO).got i o s ho hd hz (by simp[(dQ.1 ho).1]);rw[tJ,h,hv];rfl
theorem zew (KO:Mb ops)(hs:Hg ops s=false):(dC ops (VV ch V0 vs) t0).getD s aA=t0.getD s undef:=by
 rw[tJ,(Sm (vals:=VV ch V0 vs) (t0:=t0) KO).old s (λi o h1 _ h2=>by rw[zlh h1 h2] at hs;cases hs),tJ]
theorem Gc {o:aZ}(lY:∀s∈o.looksAt ops,t[s]? =(dC ops (VV ch V0 vs) t0)[s]?)(hs:s∈o.looksAt ops){v:aF}(h:(dC ops (VV ch V0 vs) t0).getD s aA=v):(bJ t []).eval (.tmp s)=v:=by
 have e:(bJ t []).eval (.tmp s)=t.getD s undef:=rfl;rw[e,tJ,lY s hs,<-tJ];exact h
end
def zmW:Go.Code:=(Tryz.f58.body).getD .skip
def rWO3:Go.Code:=match zmW with| .seq (.seq _ (.block _ (.loop (.seq _ (.seq _ (.seq (.block _ (.seq _ (a))) _)))))) _=>a|_=>.skip
def rWO8:Go.Code:=match zmW with| .seq _ (.seq _ (.block _ (.loop (.seq _ (.seq _ (.seq (.block _ (.seq _ (.seq (a) _))) _))))))=>a|_=>.skip
def rWO9:Go.Code:=match zmW with| .seq _ (.seq _ (.block _ (.loop (.seq _ (.seq _ (.seq (.block _ (.seq _ (.seq _ (a)))) _))))))=>a|_=>.skip
def o6:Array Oper:=match rWO3 with| .region _ ops _=>ops|_=>#[]
def rWO3_eq:rWO3=.region 3 o6 true:=rfl
abbrev zsI:Oper:=⟨some 14,.move (.tmp 0),63,"l6_office.go:253",#[],none⟩
def zH1:o6[0]? =some zsI:=rfl
abbrev zya:Oper:=⟨some 15,.move (.tmp 0),63,"l6_office.go:253",#[],none⟩
def zCR:o6[1]? =some zya:=rfl
abbrev ztC:Oper:=⟨some 16,.nilCheck (.tmp 15),0,"l6_office.go:253",#[⟨1,.data⟩],none⟩
def zA8:o6[2]? =some ztC:=rfl
abbrev zvx:Oper:=⟨some 17,.fieldAddr 72 (.tmp 16) 10,0,"l6_office.go:253",#[⟨2,.data⟩],none⟩
def zBN:o6[3]? =some zvx:=rfl
abbrev zqG:Oper:=⟨some 18,.load 26 (.tmp 17),26,"l6_office.go:253",#[⟨3,.data⟩],none⟩
def zIK:o6[4]? =some zqG:=rfl
abbrev zuH:Oper:=⟨some 19,.move (.tmp 0),63,"l6_office.go:253",#[],none⟩
def zGj:o6[5]? =some zuH:=rfl
abbrev zu9:Oper:=⟨some 20,.load 54 (.tmp 5),54,"l6_office.go:253",#[],none⟩
def zI5:o6[6]? =some zu9:=rfl
abbrev zxX:Oper:=⟨some 21,.call ⟨.value (.func 81),#[.tmp 19,.tmp 20],#[63,54]⟩,9,"l6_office.go:253",#[⟨5,.data⟩,⟨6,.data⟩],none⟩
def zlv:o6[7]? =some zxX:=rfl
abbrev znc:Oper:=⟨some 22,.buildSlice 26 1 #[(0,.tmp 21)],26,"l6_office.go:253",#[⟨7,.data⟩],none⟩
def zfH:o6[8]? =some znc:=rfl
abbrev zqt:Oper:=⟨some 23,.call ⟨.builtin .append,#[.tmp 18,.tmp 22],#[26,26]⟩,26,"l6_office.go:253",#[⟨4,.data⟩,⟨8,.data⟩,⟨7,.chain⟩],none⟩
def ziS:o6[9]? =some zqt:=rfl
abbrev znZ:Oper:=⟨some 24,.nilCheck (.tmp 14),0,"l6_office.go:253",#[⟨0,.data⟩,⟨0,.phase⟩,⟨1,.phase⟩,⟨2,.phase⟩,⟨3,.phase⟩,⟨4,.phase⟩,⟨5,.phase⟩,⟨6,.phase⟩,⟨7,.phase⟩,⟨8,.phase⟩,⟨9,.phase⟩],none⟩
def zFB:o6[10]? =some znZ:=rfl
abbrev zxF:Oper:=⟨some 25,.fieldAddr 72 (.tmp 24) 10,0,"l6_office.go:253",#[⟨10,.data⟩,⟨0,.phase⟩,⟨1,.phase⟩,⟨2,.phase⟩,⟨3,.phase⟩,⟨4,.phase⟩,⟨5,.phase⟩,⟨6,.phase⟩,⟨7,.phase⟩,⟨8,.phase⟩,⟨9,.phase⟩],none⟩
def zI2:o6[11]? =some zxF:=rfl
abbrev zik:Oper:=⟨none,.store 26 (.tmp 25) (.tmp 23),0,"l6_office.go:253",#[⟨11,.data⟩,⟨9,.data⟩,⟨9,.chain⟩,⟨0,.phase⟩,⟨1,.phase⟩,⟨2,.phase⟩,⟨3,.phase⟩,⟨4,.phase⟩,⟨5,.phase⟩,⟨6,.phase⟩,⟨7,.phase⟩,⟨8,.phase⟩,⟨9,.phase⟩],none⟩
def zio:o6[12]? =some zik:=rfl
def nY:Array Oper:=match rWO8 with| .region _ ops _=>ops|_=>#[]
def rWO8_eq:rWO8=.region 8 nY true:=rfl
abbrev zvc:Oper:=⟨some 37,.move (.tmp 0),63,"l6_office.go:256",#[],none⟩
def zAa:nY[0]? =some zvc:=rfl
abbrev zrr:Oper:=⟨some 38,.move (.tmp 0),63,"l6_office.go:256",#[],none⟩
def zEs:nY[1]? =some zrr:=rfl
abbrev zsH:Oper:=⟨some 39,.nilCheck (.tmp 38),0,"l6_office.go:256",#[⟨1,.data⟩],none⟩
def zH2:nY[2]? =some zsH:=rfl
abbrev zqk:Oper:=⟨some 40,.fieldAddr 72 (.tmp 39) 11,0,"l6_office.go:256",#[⟨2,.data⟩],none⟩
def zA0:nY[3]? =some zqk:=rfl
abbrev zv3:Oper:=⟨some 41,.load 38 (.tmp 40),38,"l6_office.go:256",#[⟨3,.data⟩],none⟩
def zD9:nY[4]? =some zv3:=rfl
abbrev zuc:Oper:=⟨some 42,.move (.tmp 0),63,"l6_office.go:256",#[],none⟩
def zzg:nY[5]? =some zuc:=rfl
abbrev zto:Oper:=⟨some 43,.move (.tmp 6),3,"l6_office.go:256",#[],none⟩
def zJN:nY[6]? =some zto:=rfl
abbrev zmp:Oper:=⟨some 44,.binOp .add 3 (.tmp 43) (.const (.int .i64 1)) 3,3,"l6_office.go:256",#[⟨6,.data⟩],none⟩
def zGd:nY[7]? =some zmp:=rfl
abbrev zrB:Oper:=⟨some 45,.call ⟨.value (.func 82),#[.tmp 42,.tmp 44,.const (.int .i64 0),.const (.int .i64 0)],#[63,3,3,3]⟩,3,"l6_office.go:256",#[⟨5,.data⟩,⟨7,.data⟩],none⟩
def zkL:nY[8]? =some zrB:=rfl
abbrev zjV:Oper:=⟨some 46,.buildSlice 38 1 #[(0,.tmp 45)],38,"l6_office.go:256",#[⟨8,.data⟩],none⟩
def zeN:nY[9]? =some zjV:=rfl
abbrev zqp:Oper:=⟨some 47,.call ⟨.builtin .append,#[.tmp 41,.tmp 46],#[38,38]⟩,38,"l6_office.go:256",#[⟨4,.data⟩,⟨9,.data⟩,⟨8,.chain⟩],none⟩
def zld:nY[10]? =some zqp:=rfl
abbrev zub:Oper:=⟨some 48,.nilCheck (.tmp 37),0,"l6_office.go:256",#[⟨0,.data⟩,⟨0,.phase⟩,⟨1,.phase⟩,⟨2,.phase⟩,⟨3,.phase⟩,⟨4,.phase⟩,⟨5,.phase⟩,⟨6,.phase⟩,⟨7,.phase⟩,⟨8,.phase⟩,⟨9,.phase⟩,⟨10,.phase⟩],none⟩
def zBq:nY[11]? =some zub:=rfl
abbrev zqT:Oper:=⟨some 49,.fieldAddr 72 (.tmp 48) 11,0,"l6_office.go:256",#[⟨11,.data⟩,⟨0,.phase⟩,⟨1,.phase⟩,⟨2,.phase⟩,⟨3,.phase⟩,⟨4,.phase⟩,⟨5,.phase⟩,⟨6,.phase⟩,⟨7,.phase⟩,⟨8,.phase⟩,⟨9,.phase⟩,⟨10,.phase⟩],none⟩
def zJH:nY[12]? =some zqT:=rfl
abbrev ziF:Oper:=⟨none,.store 38 (.tmp 49) (.tmp 47),0,"l6_office.go:256",#[⟨12,.data⟩,⟨10,.data⟩,⟨10,.chain⟩,⟨0,.phase⟩,⟨1,.phase⟩,⟨2,.phase⟩,⟨3,.phase⟩,⟨4,.phase⟩,⟨5,.phase⟩,⟨6,.phase⟩,⟨7,.phase⟩,⟨8,.phase⟩,⟨9,.phase⟩,⟨10,.phase⟩],none⟩
def zjq:nY[13]? =some ziF:=rfl
def opsWO9:Array Oper:=match rWO9 with| .region _ ops _=>ops|_=>#[]
abbrev oWO9_1:Oper:=⟨none,.call ⟨.builtin .close,#[.tmp 50],#[95]⟩,0,"l6_office.go:257",#[⟨0,.data⟩],none⟩
def zFP:opsWO9[1]? =some oWO9_1:=rfl
def P4:vR aK 58:=⟨_,znE,.inl rfl⟩
def zHS:(aK.info? 9).map (λi=>(i.zero,i.size,i.bytes))=some (some (.string ⟨#[]⟩),1,16):=aQ
variable {V:Nat->aF}{Tf:Array aF}
theorem bs3 {s:ByteArray}(hT:wR Tf V)(zM4:V 21=.string s):(aS (bJ Tf []).eval znc).run aK w=.ok (.value (.slice (some ⟨w.heap.size,0,none⟩) 1 1)) (w.alloc (.cells #[.string s] 9)):=by
 unfold aS;go_simp
variable {sA:aF}{T:jZ}
theorem st3 {q1 q2:Nat}(hT:wR Tf V)(zMe:V 25=.pointer (some ⟨hb,12,none⟩))(zM5:V 23=.slice (some ⟨q1,0,none⟩) n q2)(hh:w.cell? ⟨hb,12,none⟩=some sA)(hf:w.frozen? ⟨hb,12,none⟩=false):(aS (bJ Tf []).eval zik).run aK (Tt.tp w T 0)=.ok .skip (Tt.tp (w.setCell ⟨hb,12,none⟩ (.slice (some ⟨q1,0,none⟩) n q2)) T 0):=by
 have zgy:(Tt.tp w T 0).cell? ⟨hb,12,none⟩=some sA:=hh;have Ag:(Tt.tp w T 0).frozen? ⟨hb,12,none⟩=false:=hf;clear hh hf;unfold aS;go_simp
 try rfl
def zxu:Iq o6=true:=aQ
def zEV:Ng o6 [7,8,9,12]=true:=aQ
def zGM:o6.toList.map (·.dst)=[some 14,some 15,some 16,some 17,some 18,some 19,some 20,some 21,some 22,some 23,some 24,some 25,none]:=rfl
def zzE:o6.toList=[zsI,zya,ztC,zvx,zqG,zuH,zu9,zxX,znc,zqt,znZ,zxF,zik]:=rfl
def Gz (hb gb:Nat)(sA:aF)(ev:dG)(i:Nat):Value:=([.pointer (some ⟨hb,0,none⟩),.pointer (some ⟨hb,0,none⟩),.pointer (some ⟨hb,0,none⟩),.pointer (some ⟨hb,12,none⟩),sA,.pointer (some ⟨hb,0,none⟩),.agg #[.string ev.k,.int .i64 ev.a,.int .i64 ev.b],aA,aA,aA,.pointer (some ⟨hb,0,none⟩),.pointer (some ⟨hb,12,none⟩),aA]:List aF).getD i aA
structure W3 where
 es:G0
 lo:Nat
 hb:Nat
 gb:Nat
 k:Nat
 v0:fO
 w0:aE
 v:fO
 d:nK
 ev:dG
 K0:Pr
def W3.P1 (c:W3)(w:aE):Prop:=∃v1,bF w c.lo c.hb v1 {c.d with r:=(eU c.d.r c.ev).1}/\gC v1 {c.d with r:=(eU c.d.r c.ev).1}/\bM c.hb c.v0 c.w0 v1 w/\zN c.v v1/\some c.gb∉parts v1 c.hb
def W3.P2 (c:W3)(w:aE):Prop:=∃v2,bF w c.lo c.hb v2 {c.d with r:=Ei (eU c.d.r c.ev)}/\gC v2 {c.d with r:=Ei (eU c.d.r c.ev)}/\bM c.hb c.v0 c.w0 v2 w/\v2.sL=c.v.sL/\v2.sQ=c.v.sQ
def W3.y (c:W3):Value:=.string ⟨(eU c.d.r c.ev).2.toArray⟩
def W3.Rd (c:W3)(w:aE):Prop:=w.cell? ⟨c.hb,12,none⟩=some c.v.sA/\w.heap[c.gb]? =some (.cells #[.string c.ev.k,.int .i64 c.ev.a,.int .i64 c.ev.b] 54)
def W3.n1 (c:W3):Nat:=c.k+(pJ c.d.r c.ev).length
def W3.St (c:W3)(vs:List aF)(l':gS)(w':aE):Prop:=match vs with
 |[]=>l'=.wk c.es.qs c.k/\EvPre c.lo c.hb c.v c.d w'/\bM c.hb c.v0 c.w0 c.v w'/\some c.gb∉parts c.v c.hb
 |[a]=>l'=.wk c.es.qs c.n1/\a=c.y/\c.P1 w'/\c.lo<=w'.heap.size
 |[a,b]=>l'=.wk c.es.qs c.n1/\(∃g,b=.slice (some ⟨g,0,none⟩) 1 1/\w'.heap[g]? =some (.cells #[c.y] 9))/\c.P1 w'/\c.lo<=w'.heap.size
 |[a,b,x]=>l'=.wk c.es.qs c.n1/\(∃q1 q2,x=.slice (some ⟨q1,0,none⟩) (c.d.r.log.length+1) q2)/\w'.frozen? ⟨c.hb,12,none⟩=false/\c.P2 (w'.setCell ⟨c.hb,12,none⟩ x)
 |_=>l'=.wk c.es.qs c.n1/\c.P2 w'
def SR3 (c:W3)(vs:List aF)(K':Pr)(l':gS)(w':aE):Prop:=c.K0.le K'/\(vs.length<4->c.Rd w')/\c.St vs l' w'
def EvPre.tp (h:EvPre lo hb v d w)(T:jZ)(n:Nat):EvPre lo hb v d (Tt.tp w T n):=⟨h.at_.tp T n,h.mr,h.i,h.lo_,h.tab.keep λ_ _=>rfl,h.clk,h.nbw⟩
variable {c:W3}
theorem W3.P1.tp (h:c.P1 w)(T:jZ)(n:Nat):c.P1 (Tt.tp w T n):=by
 obtain⟨v1,a,b,d,e⟩:=h;exact⟨v1,a.tp T n,b,d.tp T n,e⟩
theorem W3.P2.tp (h:c.P2 w)(T:jZ)(n:Nat):c.P2 (Tt.tp w T n):=by
 obtain⟨v1,a,b,d,e⟩:=h;exact⟨v1,a.tp T n,b,d.tp T n,e⟩
theorem SR3.tp (vs:List aF)(K':Pr)(l':gS)(w':aE)(T:jZ)(n:Nat)(h:SR3 c vs K' l' w'):SR3 c vs K' l' (Tt.tp w' T n):=by
 obtain⟨h1,h2,h3⟩:=h;refine⟨h1,h2,?_⟩;rcases vs with _|⟨a,_|⟨b,_|⟨x,_|⟨y,vs⟩⟩⟩⟩
 .exact⟨h3.1,h3.2.1.tp T n,h3.2.2.1.tp T n,h3.2.2.2⟩
 .exact⟨h3.1,h3.2.1,h3.2.2.1.tp T n,h3.2.2.2⟩
 .exact⟨h3.1,h3.2.1,h3.2.2.1.tp T n,h3.2.2.2⟩
 .exact⟨h3.1,h3.2.1,h3.2.2.1,W3.P2.tp (w:=w'.setCell _ _) h3.2.2.2 T n⟩
 .exact⟨h3.1,W3.P2.tp h3.2 T n⟩
variable {B:List Nat}{Φ:nZ->WS->Prop}
theorem cw_R3 (H:c.es.d.Ok)(mP:sN c.d.r.o.op c.ev=true)(hW:B4 c.es.W c.k (pJ c.d.r c.ev))(hK:∀(i g:Nat),c.d.qn[i]? =some g->c.K0 g (qa c.es.qs i))(zkb:(eU c.d.r c.ev).1.log.length<=1000)(zwF:(eU c.d.r c.ev).1.log=c.d.r.log)(hz:t0.size=52)(uC:t0.getD 0 aA=.pointer (some ⟨c.hb,0,none⟩))(zzO:t0.getD 5 aA=.pointer (some ⟨c.gb,0,none⟩))
 (hk:∀vs K' l' w',vs.length=4->SR3 c vs K' l' w'->Φ .normal ⟨[],K',l',dC o6 (VV [7,8,9,12] (Gz c.hb c.gb c.v.sA c.ev) vs) t0,w'⟩) (h0:SR3 c [] K l w):CW c.es.d B 58 rWO3 ⟨[],K,l,t0,w⟩ Φ:=by
 rw[rWO3_eq];have KO:=Tn zxu;refine CW.drawn H vL.mixed [7,8,9,12] (Gz c.hb c.gb c.v.sA c.ev) (SR3 c) zxu zEV Ks (λvs K l w T e h=>SR3.tp vs K l w T e h) (λi o ho hi=>?_) (λvs ci o K' l' w' hc ho hS t rest lY fR=>?_) hk h0
 .have hl:o6.toList[i]? =some o:=by rw[Ai];exact ho
  rw[zzE] at hl;have aN:i<13:=by have:=(jX.1 hl).1;simpa using this
  have tn:∀(vs:List aF) {j:Nat} {oj:aZ} {s:Tmp} {v:aF},o6[j]? =some oj->oj.dst=some s->s<t0.size->VV [7,8,9,12] (Gz c.hb c.gb c.v.sA c.ev) vs j=v->(dC o6 (VV [7,8,9,12] (Gz c.hb c.gb c.v.sA c.ev) vs) t0).getD s aA=v:=λvs _ _ _ _ a b c d=>qI KO a b c d;have tq:∀(vs:List aF) {s:Tmp},Hg o6 s=false->(dC o6 (VV [7,8,9,12] (Gz c.hb c.gb c.v.sA c.ev) vs) t0).getD s aA=t0.getD s undef:=λvs _ a=>zew KO a;rcases i with _|_|_|_|_|_|_|_|_|_|_|_|_|i
  .obtain rfl:=cE hl
   exact⟨aQ,λvs K' l' w' hv hS=>⟨eD rfl,uE (.pointer (some ⟨c.hb,0,none⟩)) ((tq vs aQ).trans uC)⟩⟩
  .obtain rfl:=cE hl
   exact⟨aQ,λvs K' l' w' hv hS=>⟨eD rfl,uE (.pointer (some ⟨c.hb,0,none⟩)) ((tq vs aQ).trans uC)⟩⟩
  .obtain rfl:=cE hl
   exact⟨aQ,λvs K' l' w' hv hS=>⟨eD rfl,uE (.pointer (some ⟨c.hb,0,none⟩)) (tn vs zCR rfl kP rfl)⟩⟩
  .obtain rfl:=cE hl
   exact⟨aQ,λvs K' l' w' hv hS=>⟨eD rfl,uE (.pointer (some ⟨c.hb,12,none⟩)) (tn vs zA8 rfl kP rfl)⟩⟩
  .obtain rfl:=cE hl
   exact⟨aQ,λvs K' l' w' hv hS=>⟨eD rfl,rd2 (c.v.sA) (tn vs zBN rfl kP rfl) (hS.2.1 hv).1⟩⟩
  .obtain rfl:=cE hl
   exact⟨aQ,λvs K' l' w' hv hS=>⟨eD rfl,uE (.pointer (some ⟨c.hb,0,none⟩)) ((tq vs aQ).trans uC)⟩⟩
  .obtain rfl:=cE hl
   exact⟨aQ,λvs K' l' w' hv hS=>⟨eD rfl,rd4 (.agg #[.string c.ev.k,.int .i64 c.ev.a,.int .i64 c.ev.b]) ((tq vs aQ).trans zzO) (aJ (hS.2.1 hv).2 0) (aJ (hS.2.1 hv).2 1) (aJ (hS.2.1 hv).2 2)⟩⟩
  .exact absurd aH hi
  .exact absurd aH hi
  .exact absurd aH hi
  .obtain rfl:=cE hl
   exact⟨aQ,λvs K' l' w' hv hS=>⟨eD rfl,uE (.pointer (some ⟨c.hb,0,none⟩)) (tn vs zH1 rfl kP rfl)⟩⟩
  .obtain rfl:=cE hl
   exact⟨aQ,λvs K' l' w' hv hS=>⟨eD rfl,uE (.pointer (some ⟨c.hb,12,none⟩)) (tn vs zFB rfl kP rfl)⟩⟩
  .exact absurd aH hi
  .omega
 .rcases vs with _|⟨a,_|⟨b,_|⟨c',_|⟨d',vs⟩⟩⟩⟩
  .obtain rfl:7=ci:=by simpa using hc
   rw[zlv] at ho;obtain rfl:=cE ho;obtain⟨s1,s2,s3,s4,s5,s6⟩:=hS;have zCx:=Gc lY (s:=19) aH (qI KO zGj rfl kP rfl);have a20:=Gc lY (s:=20) aH (qI KO zI5 rfl kP rfl);refine CR.call' H #[.pointer (some ⟨c.hb,0,none⟩),.agg #[.string c.ev.k,.int .i64 c.ev.a,.int .i64 c.ev.b]] zlv (eD rfl) rfl (allx rfl) rfl (by simp only[uW,fL,tM];rw[zCx,a20];rfl) (s3▸zGq H s4 mP hW (λi g hg=>s1 _ _ (hK i g hg))) (λK2 l2 y w2 hl oQ=>?_);obtain⟨z1,z2,v1,z3,z4,z5,z6⟩:=oQ;have eV:=s4.at_.turned z5 (s2 aP).2 s6;refine fR y K2 l2 w2 hl ⟨wF s1 hl,λ_=>⟨?_,eV.1⟩,z1,z2,⟨v1,z3,z4,s5.trans z5,z6,eV.2⟩,eM s4.lo_ z5.size⟩;have:=aJ z3.blk 12;rw[this,<-z6.2.2.1];rfl
  .obtain rfl:8=ci:=by simpa using hc
   rw[zfH] at ho;obtain rfl:=cE ho;obtain⟨s1,s2,s3,rfl,⟨v1,z3,z4,z5,z6,z7⟩,s6⟩:=hS;have zJE:(dC o6 (VV [7,8,9,12] (Gz c.hb c.gb c.v.sA c.ev) [c.y]) t0).getD 21 aA=c.y:=qI KO zlv rfl kP rfl;refine CR.op H zfH (eD rfl) aQ (λT=>⟨.slice (some ⟨w'.heap.size,0,none⟩) 1 1,(Tt.tp w' T 0).alloc (.cells #[c.y] 9),.inl ?_,?_⟩)
   .rw[D9 (KO.sel 8 _ zfH) lY]
    have hT:wR (dC o6 (VV [7,8,9,12] (Gz c.hb c.gb c.v.sA c.ev) [c.y]) t0) (λs=>(dC o6 (VV [7,8,9,12] (Gz c.hb c.gb c.v.sA c.ev) [c.y]) t0).getD s aA):=λs=>rfl;exact bs3 (s:=⟨(eU c.d.r c.ev).2.toArray⟩) hT zJE
   .have al:bM c.hb v1 w' v1 ((Tt.tp w' T 0).alloc (.cells #[c.y] 9)):=(bM.refl.tp T 0).trans (bM.below (dO (eG _ _) _))
    exact fR _ _ _ _ (wO _) ⟨s1,λ_=>⟨Ax (s2 aP).1 _,dH (s2 aP).2 _⟩,s3,⟨_,rfl,lP _ _⟩,⟨v1,(z3.tp T 0).alloc _,z4,z5.trans al,z6,z7⟩,eM s6 zep⟩
  .obtain rfl:9=ci:=by simpa using hc
   rw[ziS] at ho;obtain rfl:=cE ho;obtain⟨s1,s2,s3,⟨g,rfl,hg⟩,⟨v1,z3,z4,z5,z6,z7⟩,s6⟩:=hS;have zHK:=Gc lY (s:=18) aH (qI KO zIK rfl kP rfl);have zCE:=Gc lY (s:=22) aH (qI KO zfH rfl kP rfl);refine CR.op H ziS (eD rfl) aQ (λT=>?_);have a1:=z3.tp T 0;have oF:=a1.A;rw[z6.2.2.1] at oF;obtain⟨q1,q2,w5,fP,cP,nE,fA⟩:=Oh (w:=Tt.tp w' T 0) (t:=26) (ty:=26) zHS Tryz.underlying26 rfl aH oF (g:=g) (cs:=#[c.y]) (news:=[c.y]) hg rfl (m:=1) rfl aH La (show(eU c.d.r c.ev).1.log.length+1<=1000000 by omega) aH s6;have Fl:({c.d with r:=(eU c.d.r c.ev).1}:nK).r.log.length=c.d.r.log.length:=by show(eU c.d.r c.ev).1.log.length=_;rw[zwF]
   rw[Fl] at fP cP fA;have zh6:(Tt.tp w' T 0).grownBy w5 v1.sA.ownBlock:=by rw[z6.2.2.1];exact nE
   obtain⟨a6,t6⟩:=a1.putA zh6 (xs:=(eU c.d.r c.ev).1.log++[(eU c.d.r c.ev).2]) (by have e:Eh ((eU c.d.r c.ev).1.log++[(eU c.d.r c.ev).2])=Eh (eU c.d.r c.ev).1.log++[c.y]:=(by simp[Eh,txt,W3.y]);rw[e];exact cP) (by rw[gM,zwF];rfl) (by rw[z6.2.2.1];exact fA);have zaS:=a1.other (j:=9) (c:=12) (x:=v1.sA) rfl aH zh6 (.slice (some ⟨q1,0,none⟩) (c.d.r.log.length+1) q2);have xY:=zaS.2.trans a1.blk;have eV:w5.heap[c.gb]? =some _:=(zh6.block c.gb (gA (s2 aP).2) (λe=>z7 (dX (i:=9) (show(parts v1 c.hb)[9]? =some (some c.gb) by rw[e];rfl)))).trans (s2 aP).2;refine⟨_,w5,.inl (Yq rfl zHK zCE fP),fR _ _ _ _ (wO _) ⟨s1,λ_=>⟨?_,eV⟩,s3,⟨q1,q2,rfl⟩,eK xY 12,_,a6,?_,z5.trans ((bM.refl.tp T 0).trans t6),?_,?_⟩⟩
   .have:=aJ xY 12
    rw[this,<-z6.2.2.1];rfl
   .refine gC.of z4 ?_ ?_ ?_ ?_ ?_<;>rfl
   .exact z6.1
   .exact z6.2.1
  .obtain rfl:12=ci:=by simpa using hc
   rw[zio] at ho;obtain rfl:=cE ho;obtain⟨s1,s2,s3,⟨q1,q2,rfl⟩,mR,yQ⟩:=hS;have zG1:(dC o6 (VV [7,8,9,12] (Gz c.hb c.gb c.v.sA c.ev) [a,b,.slice (some ⟨q1,0,none⟩) (c.d.r.log.length+1) q2]) t0).getD 23 aA=.slice (some ⟨q1,0,none⟩) (c.d.r.log.length+1) q2:=qI KO ziS rfl kP rfl;have zzi:(dC o6 (VV [7,8,9,12] (Gz c.hb c.gb c.v.sA c.ev) [a,b,.slice (some ⟨q1,0,none⟩) (c.d.r.log.length+1) q2]) t0).getD 25 aA=.pointer (some ⟨c.hb,12,none⟩):=qI KO zI2 rfl kP rfl;refine CR.op H zio (eD rfl) aQ (λT=>⟨aA,Tt.tp (w'.setCell ⟨c.hb,12,none⟩ (.slice (some ⟨q1,0,none⟩) (c.d.r.log.length+1) q2)) T 0,.inr ⟨?_,rfl⟩,?_⟩)
   .rw[D9 (KO.sel 12 _ zio) lY]
    have hT:wR (dC o6 (VV [7,8,9,12] (Gz c.hb c.gb c.v.sA c.ev) [a,b,.slice (some ⟨q1,0,none⟩) (c.d.r.log.length+1) q2]) t0) (λs=>(dC o6 (VV [7,8,9,12] (Gz c.hb c.gb c.v.sA c.ev) [a,b,.slice (some ⟨q1,0,none⟩) (c.d.r.log.length+1) q2]) t0).getD s aA):=λs=>rfl;exact st3 hT zzi zG1 (s2 aP).1 mR
   .exact fR aA _ _ _ (wO _) ⟨s1,λh=>absurd h aP,s3,W3.P2.tp yQ T 0⟩
  .simp at hc
theorem bs8 {s:Int}(hT:wR Tf V)(zli:V 45=.int .i64 s):(aS (bJ Tf []).eval zjV).run aK w=.ok (.value (.slice (some ⟨w.heap.size,0,none⟩) 1 1)) (w.alloc (.cells #[.int .i64 s] 3)):=by
 unfold aS;go_simp
theorem st8 {q1 q2:Nat}(hT:wR Tf V)(V4:V 49=.pointer (some ⟨hb,13,none⟩))(zbZ:V 47=.slice (some ⟨q1,0,none⟩) n q2)(hh:w.cell? ⟨hb,13,none⟩=some sA)(hf:w.frozen? ⟨hb,13,none⟩=false):(aS (bJ Tf []).eval ziF).run aK (Tt.tp w T 0)=.ok .skip (Tt.tp (w.setCell ⟨hb,13,none⟩ (.slice (some ⟨q1,0,none⟩) n q2)) T 0):=by
 have zgy:(Tt.tp w T 0).cell? ⟨hb,13,none⟩=some sA:=hh;have Ag:(Tt.tp w T 0).frozen? ⟨hb,13,none⟩=false:=hf;clear hh hf;unfold aS;go_simp
 try rfl
def zs0:Iq nY=true:=aQ
def zEN:Ng nY [8,9,10,13]=true:=aQ
def zC0:nY.toList.map (·.dst)=[some 37,some 38,some 39,some 40,some 41,some 42,some 43,some 44,some 45,some 46,some 47,some 48,some 49,none]:=rfl
def zHZ:nY.toList=[zvc,zrr,zsH,zqk,zv3,zuc,zto,zmp,zrB,zjV,zqp,zub,zqT,ziF]:=rfl
def E8 (hb q:Nat)(sT:aF)(i:Nat):Value:=([.pointer (some ⟨hb,0,none⟩),.pointer (some ⟨hb,0,none⟩),.pointer (some ⟨hb,0,none⟩),.pointer (some ⟨hb,13,none⟩),sT,.pointer (some ⟨hb,0,none⟩),.int .i64 (q:Int),.int .i64 ((q:Int)+1),aA,aA,aA,.pointer (some ⟨hb,0,none⟩),.pointer (some ⟨hb,13,none⟩),aA]:List aF).getD i aA
theorem rdR8_7 {q:Nat}{sT:aF}(hT:wR Tf V)(zhJ:V 43=.int .i64 (q:Int))(zM9:q<=100):(aS (bJ Tf []).eval zmp).run aK w=.ok (.value (.int .i64 ((q:Int)+1))) w:=by
 unfold aS;go_simp;exact D6 aC aC
structure W8 where
 es:G0
 lo:Nat
 hb:Nat
 q:Nat
 k:Nat
 ans:Int
 v0:fO
 w0:aE
 v:fO
 d:nK
 K0:Pr
def W8.P1 (c:W8)(w:aE):Prop:=bF w c.lo c.hb c.v c.d/\bM c.hb c.v0 c.w0 c.v w/\c.lo<=w.heap.size
def W8.P2 (c:W8)(w:aE):Prop:=∃v2,bF w c.lo c.hb v2 {c.d with tk:=c.d.tk++[c.ans]}/\gC v2 {c.d with tk:=c.d.tk++[c.ans]}/\bM c.hb c.v0 c.w0 v2 w/\v2.sL=c.v.sL/\v2.sQ=c.v.sQ
def W8.y (c:W8):Value:=.int .i64 c.ans
def W8.Rd (c:W8)(w:aE):Prop:=w.cell? ⟨c.hb,13,none⟩=some c.v.sT
def W8.St (c:W8)(vs:List aF)(l':gS)(w':aE):Prop:=match vs with
 |[]=>l'=.wk c.es.qs c.k/\c.P1 w'
 |[a]=>l'=.wk c.es.qs (c.k+1)/\a=c.y/\c.P1 w'
 |[a,b]=>l'=.wk c.es.qs (c.k+1)/\(∃g,b=.slice (some ⟨g,0,none⟩) 1 1/\w'.heap[g]? =some (.cells #[c.y] 3))/\c.P1 w'
 |[a,b,x]=>l'=.wk c.es.qs (c.k+1)/\(∃q1 q2,x=.slice (some ⟨q1,0,none⟩) (c.d.tk.length+1) q2)/\w'.frozen? ⟨c.hb,13,none⟩=false/\c.P2 (w'.setCell ⟨c.hb,13,none⟩ x)
 |_=>l'=.wk c.es.qs (c.k+1)/\c.P2 w'
def SR8 (c:W8)(vs:List aF)(K':Pr)(l':gS)(w':aE):Prop:=c.K0.le K'/\(vs.length<4->c.Rd w')/\c.St vs l' w'
variable {c:W8}
def W8.P1.tp (h:c.P1 w)(T:jZ)(n:Nat):c.P1 (Tt.tp w T n):=⟨h.1.tp T n,h.2.1.tp T n,h.2.2⟩
theorem W8.P2.tp (h:c.P2 w)(T:jZ)(n:Nat):c.P2 (Tt.tp w T n):=by
 obtain⟨v1,a,b,d,e⟩:=h;exact⟨v1,a.tp T n,b,d.tp T n,e⟩
theorem SR8.tp (vs:List aF)(K':Pr)(l':gS)(w':aE)(T:jZ)(n:Nat)(h:SR8 c vs K' l' w'):SR8 c vs K' l' (Tt.tp w' T n):=by
 obtain⟨h1,h2,h3⟩:=h;refine⟨h1,h2,?_⟩;rcases vs with _|⟨a,_|⟨b,_|⟨x,_|⟨y,vs⟩⟩⟩⟩
 .exact⟨h3.1,W8.P1.tp h3.2 T n⟩
 .exact⟨h3.1,h3.2.1,W8.P1.tp h3.2.2 T n⟩
 .exact⟨h3.1,h3.2.1,W8.P1.tp h3.2.2 T n⟩
 .exact⟨h3.1,h3.2.1,h3.2.2.1,W8.P2.tp (w:=w'.setCell _ _) h3.2.2.2 T n⟩
 .exact⟨h3.1,W8.P2.tp h3.2 T n⟩
theorem cw_R8 (H:c.es.d.Ok)(zGC:gC c.v c.d)(hW:c.es.W[c.k]? =some (.ask c.q 0 0 c.ans))(hq:c.q<c.d.qn.length)(yG:c.q<=100)(hK:∀(i g:Nat),c.d.qn[i]? =some g->c.K0 g (qa c.es.qs i))(zkb:c.d.tk.length<=1000)(hz:t0.size=52)(uC:t0.getD 0 aA=.pointer (some ⟨c.hb,0,none⟩))(zaf:t0.getD 6 aA=.int .i64 (c.q:Int))
 (hk:∀vs K' l' w',vs.length=4->SR8 c vs K' l' w'->Φ .normal ⟨[],K',l',dC nY (VV [8,9,10,13] (E8 c.hb c.q c.v.sT) vs) t0,w'⟩) (h0:SR8 c [] K l w):CW c.es.d B 58 rWO8 ⟨[],K,l,t0,w⟩ Φ:=by
 rw[rWO8_eq];have KO:=Tn zs0;refine CW.drawn H vL.mixed [8,9,10,13] (E8 c.hb c.q c.v.sT) (SR8 c) zs0 zEN Ks (λvs K l w T e h=>SR8.tp vs K l w T e h) (λi o ho hi=>?_) (λvs ci o K' l' w' hc ho hS t rest lY fR=>?_) hk h0
 .have hl:nY.toList[i]? =some o:=by rw[Ai];exact ho
  rw[zHZ] at hl;have aN:i<14:=by have:=(jX.1 hl).1;simpa using this
  have tn:∀(vs:List aF) {j:Nat} {oj:aZ} {s:Tmp} {v:aF},nY[j]? =some oj->oj.dst=some s->s<t0.size->VV [8,9,10,13] (E8 c.hb c.q c.v.sT) vs j=v->(dC nY (VV [8,9,10,13] (E8 c.hb c.q c.v.sT) vs) t0).getD s aA=v:=λvs _ _ _ _ a b c d=>qI KO a b c d;have tq:∀(vs:List aF) {s:Tmp},Hg nY s=false->(dC nY (VV [8,9,10,13] (E8 c.hb c.q c.v.sT) vs) t0).getD s aA=t0.getD s undef:=λvs _ a=>zew KO a;rcases i with _|_|_|_|_|_|_|_|_|_|_|_|_|_|i
  .obtain rfl:=cE hl
   exact⟨aQ,λvs K' l' w' hv hS=>⟨eD rfl,uE (.pointer (some ⟨c.hb,0,none⟩)) ((tq vs aQ).trans uC)⟩⟩
  .obtain rfl:=cE hl
   exact⟨aQ,λvs K' l' w' hv hS=>⟨eD rfl,uE (.pointer (some ⟨c.hb,0,none⟩)) ((tq vs aQ).trans uC)⟩⟩
  .obtain rfl:=cE hl
   exact⟨aQ,λvs K' l' w' hv hS=>⟨eD rfl,uE (.pointer (some ⟨c.hb,0,none⟩)) (tn vs zEs rfl kP rfl)⟩⟩
  .obtain rfl:=cE hl
   exact⟨aQ,λvs K' l' w' hv hS=>⟨eD rfl,uE (.pointer (some ⟨c.hb,13,none⟩)) (tn vs zH2 rfl kP rfl)⟩⟩
  .obtain rfl:=cE hl
   exact⟨aQ,λvs K' l' w' hv hS=>⟨eD rfl,rd2 (c.v.sT) (tn vs zA0 rfl kP rfl) (show w'.cell? ⟨c.hb,13,none⟩=some c.v.sT from(hS.2.1 hv))⟩⟩
  .obtain rfl:=cE hl
   exact⟨aQ,λvs K' l' w' hv hS=>⟨eD rfl,uE (.pointer (some ⟨c.hb,0,none⟩)) ((tq vs aQ).trans uC)⟩⟩
  .obtain rfl:=cE hl
   exact⟨aQ,λvs K' l' w' hv hS=>⟨eD rfl,uE (.int .i64 (c.q:Int)) ((tq vs aQ).trans zaf)⟩⟩
  .obtain rfl:=cE hl
   exact⟨aQ,λvs K' l' w' hv hS=>⟨eD rfl,rdR8_7 (q:=c.q) (sT:=c.v.sT) (V:=λs=>(dC nY (VV [8,9,10,13] (E8 c.hb c.q c.v.sT) vs) t0).getD s aA) (λs=>rfl) (tn vs zJN rfl kP rfl) yG⟩⟩
  .exact absurd aH hi
  .exact absurd aH hi
  .exact absurd aH hi
  .obtain rfl:=cE hl
   exact⟨aQ,λvs K' l' w' hv hS=>⟨eD rfl,uE (.pointer (some ⟨c.hb,0,none⟩)) (tn vs zAa rfl kP rfl)⟩⟩
  .obtain rfl:=cE hl
   exact⟨aQ,λvs K' l' w' hv hS=>⟨eD rfl,uE (.pointer (some ⟨c.hb,13,none⟩)) (tn vs zBq rfl kP rfl)⟩⟩
  .exact absurd aH hi
  .omega
 .rcases vs with _|⟨a,_|⟨b,_|⟨c',_|⟨d',vs⟩⟩⟩⟩
  .obtain rfl:8=ci:=by simpa using hc
   rw[zkL] at ho;obtain rfl:=cE ho;obtain⟨s1,s2,s3,s4⟩:=hS;have zFn:=Gc lY (s:=42) aH (qI KO zzg rfl kP rfl);have zBj:=Gc lY (s:=44) aH (qI KO zGd rfl kP rfl);refine CR.call' H #[.pointer (some ⟨c.hb,0,none⟩),.int .i64 ((c.q:Int)+1),.int .i64 0,.int .i64 0] zkL (eD rfl) rfl (allx rfl) rfl (by simp only[uW,fL,tM];rw[zFn,zBj];rfl) (s3▸zbO H s4.1 hW hq yG (λi g hg=>s1 _ _ (hK i g hg))) (λK2 l2 y w2 hl oQ=>?_);obtain⟨z1,rfl,z3⟩:=oQ;subst z3;exact fR _ K2 l2 _ hl ⟨wF s1 hl,λ_=>Ax (s2 aP) _,z1,rfl,s4.1.alloc _,s4.2.1.trans (bM.below (dO (eG _ _) _)),eM s4.2.2 (by show w'.heap.size<=(w'.alloc oR).heap.size;rw[rF];exact Tg _)⟩
  .obtain rfl:9=ci:=by simpa using hc
   rw[zeN] at ho;obtain rfl:=cE ho;obtain⟨s1,s2,s3,rfl,z3,z5,s6⟩:=hS;have zEf:(dC nY (VV [8,9,10,13] (E8 c.hb c.q c.v.sT) [c.y]) t0).getD 45 aA=c.y:=qI KO zkL rfl kP rfl;refine CR.op H zeN (eD rfl) aQ (λT=>⟨.slice (some ⟨w'.heap.size,0,none⟩) 1 1,(Tt.tp w' T 0).alloc (.cells #[c.y] 3),.inl ?_,?_⟩)
   .rw[D9 (KO.sel 9 _ zeN) lY]
    have hT:wR (dC nY (VV [8,9,10,13] (E8 c.hb c.q c.v.sT) [c.y]) t0) (λs=>(dC nY (VV [8,9,10,13] (E8 c.hb c.q c.v.sT) [c.y]) t0).getD s aA):=λs=>rfl;exact bs8 hT zEf
   .have al:bM c.hb c.v w' c.v ((Tt.tp w' T 0).alloc (.cells #[c.y] 3)):=(bM.refl.tp T 0).trans (bM.below (dO (eG _ _) _))
    exact fR _ _ _ _ (wO _) ⟨s1,λ_=>Ax (s2 aP) _,s3,⟨_,rfl,lP _ _⟩,(z3.tp T 0).alloc _,z5.trans al,eM s6 zep⟩
  .obtain rfl:10=ci:=by simpa using hc
   rw[zld] at ho;obtain rfl:=cE ho;obtain⟨s1,s2,s3,⟨g,rfl,hg⟩,z3,z5,s6⟩:=hS;have zDb:=Gc lY (s:=41) aH (qI KO zD9 rfl kP rfl);have a46:=Gc lY (s:=46) aH (qI KO zeN rfl kP rfl);refine CR.op H zld (eD rfl) aQ (λT=>?_);have a1:=z3.tp T 0;obtain⟨q1,q2,w5,fP,cP,nE,fA⟩:=Oh (w:=Tt.tp w' T 0) (t:=38) (ty:=38) U9 Xq rfl aH a1.T (g:=g) (cs:=#[c.y]) (news:=[c.y]) hg rfl (m:=1) rfl aH La aC aH s6;obtain⟨a6,t6⟩:=a1.putT nE (xs:=c.d.tk++[c.ans]) (by have e:eH (c.d.tk++[c.ans])=eH c.d.tk++[c.y]:=(by simp[eH,W8.y]);rw[e];exact cP) aP fA;have xY:=(a1.other (j:=10) (c:=13) (x:=c.v.sT) rfl aH nE (.slice (some ⟨q1,0,none⟩) (c.d.tk.length+1) q2)).2.trans a1.blk;refine⟨_,w5,.inl (Yq rfl zDb a46 fP),fR _ _ _ _ (wO _) ⟨s1,λ_=>aJ xY 13,s3,⟨q1,q2,rfl⟩,eK xY 13,_,a6,?_,z5.trans ((bM.refl.tp T 0).trans t6),rfl,rfl⟩⟩;refine gC.of zGC ?_ ?_ ?_ ?_ ?_<;>rfl
  .obtain rfl:13=ci:=by simpa using hc
   rw[zjq] at ho;obtain rfl:=cE ho;obtain⟨s1,s2,s3,⟨q1,q2,rfl⟩,mR,yQ⟩:=hS;have zJA:(dC nY (VV [8,9,10,13] (E8 c.hb c.q c.v.sT) [a,b,.slice (some ⟨q1,0,none⟩) (c.d.tk.length+1) q2]) t0).getD 47 aA=.slice (some ⟨q1,0,none⟩) (c.d.tk.length+1) q2:=qI KO zld rfl kP rfl;have zGw:(dC nY (VV [8,9,10,13] (E8 c.hb c.q c.v.sT) [a,b,.slice (some ⟨q1,0,none⟩) (c.d.tk.length+1) q2]) t0).getD 49 aA=.pointer (some ⟨c.hb,13,none⟩):=qI KO zJH rfl kP rfl;refine CR.op H zjq (eD rfl) aQ (λT=>⟨aA,Tt.tp (w'.setCell ⟨c.hb,13,none⟩ (.slice (some ⟨q1,0,none⟩) (c.d.tk.length+1) q2)) T 0,.inr ⟨?_,rfl⟩,?_⟩)
   .rw[D9 (KO.sel 13 _ zjq) lY]
    have hT:wR (dC nY (VV [8,9,10,13] (E8 c.hb c.q c.v.sT) [a,b,.slice (some ⟨q1,0,none⟩) (c.d.tk.length+1) q2]) t0) (λs=>(dC nY (VV [8,9,10,13] (E8 c.hb c.q c.v.sT) [a,b,.slice (some ⟨q1,0,none⟩) (c.d.tk.length+1) q2]) t0).getD s aA):=λs=>rfl;exact st8 hT zGw zJA (s2 aP) mR
   .exact fR aA _ _ _ (wO _) ⟨s1,λh=>absurd h aP,s3,W8.P2.tp yQ T 0⟩
  .simp at hc
def Gr (b:b6):Prop:=∀x∈b.recs,1<=x.l/\x.l<=b.o.ln
theorem Gr.mod (h:Gr b)(hf:∀x,(f x).l=x.l):∀x∈b.recs.modify i f,1<=x.l/\x.l<=b.o.ln:=λx hx=>by
 obtain⟨y,hy,rfl|rfl⟩:=Ui hx
 .exact h _ hy
 .rw[hf];exact h _ hy
theorem Gr.tires:∀(xs:List bE) (b:b6) (t:List UInt8),Gr b->Gr (xs.foldl l9 (b,t)).1
 |[],b,t,h=>h
 |x::xs,b,t,h=>by
  rw[List.foldl_cons];obtain⟨e1,_,_,_,_,_,e7⟩:=zix b t x;have h1:Gr (l9 (b,t) x).1:=λz hz=>by
   obtain⟨y,hy,_,e⟩:=e7 z hz;rw[e,e1];exact h y hy
  obtain⟨b',t',e⟩:∃b' t',l9 (b,t) x=(b',t'):=⟨_,_,rfl⟩;rw[e] at h1⊢;exact Gr.tires xs b' t' h1
theorem Gr.step (h:Gr b)(e:dG):Gr (eU b e).1:=by
 have more:∀{l:Int} {ls:List Int} {c o f hh tt:Int} {s:ByteArray},oE b.o b.recs=l::ls->∀x∈b.recs++[(⟨c,l,o,f,hh,tt,s⟩:bS)],1<=x.l/\x.l<=b.o.ln:=λhf x hx=>by
  rcases E5.1 hx with hx|hx
  .exact h x hx
  .obtain rfl:=sK.1 hx
   exact zet Y6
 unfold eU;split
 .unfold qB
  split
  .exact h
  .split
   .exact h
   .rename_i hf;exact more hf
 .split
  .unfold nH
   split
   .exact h
   .split
    .exact h
    .split
     .exact h
     .exact h.mod λx=>rfl
  .split
   .unfold lZ
    split
    .exact h
    .split
     .exact h
     .split
      .exact h
      .rename_i hf;exact more hf
   .split
    .unfold mJ
     split
     .split
      .exact h.mod λx=>rfl
      .exact h.mod λx=>rfl
     .split
      .exact h
      .exact h
    .exact Gr.tires _ _ _ h
variable {o:jN}{es:List dG}
theorem zn6 :∀k,k<=es.length->Gr (mK o es k)
 |0,_=>λx hx=>by cases hx
 |k+1,hk=>by
  rw[Vq (lV aC)];exact(zn6 k aC).step _
variable {ln qn:List Nat}
theorem zoY (h:j9 o es=true)(hk:k<=es.length){tk:List Int}(h1:ln.Nodup)(h2:(ln.length:Int)=o.ln)(h3:(qn.length:Int)=o.op):yS ⟨mK o es k,ln,qn,tk⟩:=by
 obtain⟨a1,a2,a3⟩:=N9 h k hk;have hop:o.op=(o.op.toNat:Int):=by
  have:=(Cd a1.off).2.2.1;rw[a3] at this;omega
 obtain⟨_,_,b3⟩:=zrR h hop k hk;have hl:es.length<=60:=by unfold j9 at h;simp at h;exact h.1.2
 have hg:=a1.good a2 aC;exact⟨zv5 h k hk,a1,b3,h1,by show(ln.length:Int)=(mK o es k).o.ln;rw[a3];exact h2,zn6 k hk,by show(qn.length:Int)=(mK o es k).o.op;rw[a3];exact h3,hg.1⟩
theorem zD6 (hk:k<=es.length):∃B,rY o es es.length=rY o es k++B:=by
 have key:∀n,k<=n->∃B,rY o es n=rY o es k++B:=λn hn=>by
  induction n with
  |zero=>
   obtain rfl:k=0:=aC;exact⟨[],aP⟩
  |succ n ih=>
   rcases mY k (n+1) with h|h
   .obtain⟨B,e⟩:=ih aC
    exact⟨B++(match es[n]? with|some e=>pJ (mK o es n) e|none=>[]),by show rY o es n++_=_;rw[e,Jn];rfl⟩
   .obtain rfl:k=n+1:=aC
    exact⟨[],aP⟩
 exact key _ hk
theorem asks_at (he:es[k]? =some ev):B4 (B6 o es) (rY o es k).length (pJ (mK o es k) ev):=λj x hj=>by
 have hk:=(jX.1 he).1;obtain⟨B,e⟩:=zD6 (o:=o) (es:=es) (k:=k+1) hk;have e2:rY o es (k+1)=rY o es k++pJ (mK o es k) ev:=by show rY o es k++_=_;rw[he]
 have hl:=(jX.1 hj).1;unfold B6;rw[e,e2,Jn,Jn,Ao aC,zI aC,zvs];exact hj
theorem zir (b:b6):∀n,(yH b n).length=2*n
 |0=>rfl
 |n+1=>by show(yH b n++_).length=_;rw[gM,zir b n];simp;omega
theorem zx5 (b:b6):∀(n i:Nat),i<n->(yH b n)[2*i]? =some (.ask i 0 0 (dK b.recs ((i:Int)+1)))/\(yH b n)[2*i+1]? =some (.shut i)
 |0,i,h=>by omega
 |n+1,i,h=>by
  have hl:=zir b n;show(yH b n++_)[2*i]? =_/\(yH b n++_)[2*i+1]? =_;rcases mY i n with hi|hi
  .rw[zI aC,zI aC]
   exact zx5 b n i hi
  .obtain rfl:i=n:=aC
   rw[Ao aC,Ao aC,hl,Mx,show 2*i+1-2*i=1 by omega];exact⟨rfl,rfl⟩
def Z5 (b:b6):Nat->List Int
 |0=>[]
 |n+1=>Z5 b n++[dK b.recs ((n:Int)+1)]
theorem zwH (b:b6):∀n,(Z5 b n).length=n
 |0=>rfl
 |n+1=>by show(Z5 b n++_).length=_;rw[gM,zwH b n];rfl
theorem zDu (h:j9 o es=true)(he:es[k]? =some ev):(eU (mK o es k) ev).1.log=(mK o es k).log/\(mK o es k).log.length<=1000/\sN (mK o es k).o.op ev=true:=by
 have hk:=(jX.1 he).1;obtain⟨a1,a2,a3⟩:=N9 h k aC;have bV:=h;unfold j9 at bV;simp only[fT,tU,decide_eq_true_eq] at bV;have mP:sN (mK o es k).o.op ev=true:=by rw[a3];exact bV.2 ev (dX he)
 have:=a2.nl;exact⟨(a1.step a2 mP aC).2.2.2,aC,mP⟩
def Ap (o:jN)(es:List dG)(ln qn:List Nat)(k:Nat):nK:=⟨mK o es k,ln,qn,[]⟩
def uP (o:jN)(es:List dG)(ln qn:List Nat)(i:Nat):nK:=⟨H9 o es,ln,qn,Z5 (H9 o es) i⟩
structure zah (e:G0)(o:jN)(es:List dG)(ln qn:List Nat)(lo hb:Nat)(v:fO)(w:aE)(K:Pr)(A:Option bL)(n c:Nat):Prop where
 ok:j9 o es=true
 W:e.W=B6 o es
 at_:bF w lo hb v (Ap o es ln qn 0)
 mr:gC v (Ap o es ln qn 0)
 nd:ln.Nodup
 nl:(ln.length:Int)=o.ln
 nq:(qn.length:Int)=o.op
 qs:e.qs.length=qn.length
 lo_:lo<=w.heap.size
 tab:Ad lo w
 ev:b7 w 0 lo 3 A n c (lM es)
 K:∀(i g:Nat),qn[i]? =some g->K g (qa e.qs i)
theorem b7.lowT {s c:Nat}{xs:List aF}(h:b7 w 0 lo s A n c xs)(a:bF w lo hb v d)(dV:lo<=w.heap.size)(t:bM hb v w v' w'):b7 w' 0 lo s A n c xs:=by
 refine⟨h.len,h.le,h.cap,λhn=>?_⟩;obtain⟨b,off,e,h1,h2,h3,h4⟩:=h.at_ hn;have hz:=t.size;exact⟨b,off,e,h1,h2,aC,λj u hj=>(aE.cell?_of_block (t.block b h3 (λx=>by have:=(a.lt b x).1;omega))).trans (h4 j u hj)⟩
theorem cf_work (H:e.d.Ok){c:Nat}(h:zah e o es ln qn lo hb v w K A n c):
 CF e.d 58 #[.pointer (some ⟨hb,0,none⟩),.slice A n c] K (.wk e.qs 0) w (λK' l' y w'=>l'=.wk e.qs e.W.length/\∃v',bF w' lo hb v' (uP o es ln qn qn.length)/\gC v' (uP o es ln qn qn.length)/\bM hb v w v' w'):=by
 refine CF.of 52 znE (.inl rfl) ?_;have HP:=aD h;have Ck:es.length=n:=h.ev.eventsLen;have oU:es.length<=60:=by have:=h.ok;unfold j9 at this;simp at this;exact this.1.2
 have zAm:n<=60:=aC;have Py:=aD Ck;clear Ck oU h;refine CW.sq H ?_;refine CW.sq H ?_;refine CW.pQ H P4 (λzFt Q HQ=>?_);go_wp2;refine HQ.o _ _ ?_;clear HQ;refine CW.tape (s:=⟨[],K,.wk e.qs 0,_,w⟩) ?_ zFt 0;refine CW.block H ?_;refine CW.loop H (λnn s=>∃(k:Nat) (wz:aE) (Kz:Pr) (vz:fO) (u2 u3 u4 u5 u6 u7 gH gK gJ gE gF u16 gY kQ kM jR gZ iJ iI iD iK iH iA iC iG jK jL u32 iO iL iB hY kI kR iM iN iF iX iP jB jC iW iV iY jD iS iU:aF),s=⟨[],Kz,.wk e.qs (rY o es k).length,#[.pointer (some ⟨hb,0,none⟩),.slice A n c,u2,u3,u4,u5,u6,u7,.slice A n c,.int .i64 (n:Int),.int .i64 (k:Int),gH,gK,gJ,gE,gF,u16,gY,kQ,kM,jR,gZ,iJ,iI,iD,iK,iH,iA,iC,iG,jK,jL,u32,iO,iL,iB,hY,kI,kR,iM,iN,iF,iX,iP,jB,jC,iW,iV,iY,jD,iS,iU],wz⟩/\k<=n/\nn=n-k/\K.le Kz/\bF wz lo hb vz (Ap o es ln qn k)/\gC vz (Ap o es ln qn k)/\bM hb v w vz wz/\vz.sL=v.sL/\vz.sQ=v.sQ) (λnn s hs=>?_) (n:=n) ?_
 rotate_left
 .exact⟨0,w,K,v,_,_,_,_,_,_,_,_,_,_,_,_,_,_,_,_,_,_,_,_,_,_,_,_,_,_,_,_,_,_,_,_,_,_,_,_,_,_,_,_,_,_,_,_,_,_,_,rfl,jO _,rfl,wO _,HP.o.at_,HP.o.mr,bM.refl,rfl,rfl⟩
 .obtain⟨k,wz,Kz,vz,u2,u3,u4,u5,u6,u7,gH,gK,gJ,gE,gF,u16,gY,kQ,kM,jR,gZ,iJ,iI,iD,iK,iH,iA,iC,iG,jK,jL,u32,iO,iL,iB,hY,kI,kR,iM,iN,iF,iX,iP,jB,jC,iW,iV,iY,jD,iS,iU,rfl,sV,Cq,zhH,az,mz,tz,zvR,zxp⟩:=hs
  have A1:=aD az;have M1:=aD mz;have T1:=aD tz;have EZ:=aD (And.intro zvR zxp);clear az mz tz zvR zxp;refine CW.sq H ?_;refine CW.pQ H P4 (λzdX Q HQ=>?_);by_cases aN:k<n
  .have Gw:(k:Int)<(n:Int):=aC
   go_wp2;refine HQ.o _ _ ?_;clear HQ Gw;refine CW.tape (s:=⟨[],Kz,.wk e.qs (rY o es k).length,_,wz⟩) ?_ zdX 0;refine CW.sq H ?_;refine CW.cd H true ?_;refine CW.sk H ?_;dsimp only;have Gn:=HP.o.ev.lowT HP.o.at_ HP.o.lo_ T1.o;obtain⟨be,oe,ev,hA,zCU,zgN,zkv,Eo,e0,e1,e2⟩:=Gn.eventsAt aN;subst hA;obtain⟨zpQ,zux,st3⟩:=zDu HP.o.ok Eo;have Mv:=aD Eo;have uT:=aD (And.intro zpQ (And.intro zux st3));clear Eo zpQ zux st3 Gn;have i0:(0:Int)<=(k:Int):=aC;have i1:(k:Int)<(n:Int):=aC;refine CW.sq H ?_;refine CW.block H ?_;refine CW.sq H ?_;refine CW.pQ H P4 (λPq Q HQ=>?_);obtain⟨w2,fZ⟩:=aU (Tt.tp wz Pq 0);have A2:=aD (show bF w2 lo hb vz (Ap o es ln qn k) by rw[fZ];exact A1.o.tp Pq 0);have T2:=aD (show bM hb v w vz w2 by rw[fZ];exact T1.o.tp Pq 0);have zdV:w2.cell? ⟨be,oe+k*3,none⟩=some (.string ev.k):=by rw[fZ];exact e0
   have Ff:w2.cell? ⟨be,oe+k*3+1,none⟩=some (.int .i64 ev.a):=by rw[fZ];exact e1
   have ziA:w2.cell? ⟨be,oe+k*3+2,none⟩=some (.int .i64 ev.b):=by rw[fZ];exact e2
   try dsimp only
   rw[<-fZ];clear fZ A1 T1 e0 e1 e2;go_wp2;refine HQ.o _ _ ?_;clear HQ zdV Ff ziA;obtain⟨gb,eV⟩:=aU w2.heap.size;obtain⟨w3,iT⟩:=aU (w2.alloc (.cells #[.string ev.k,.int .i64 ev.a,.int .i64 ev.b] 54));have A3:=aD (show bF w3 lo hb vz (Ap o es ln qn k) by rw[iT];exact A2.o.alloc _);have T3:=aD (show bM hb v w vz w3 by rw[iT];exact T2.o.trans (bM.below (dO (eG _ _) _)));have vH:=aD (show w3.heap[gb]? =some (.cells #[.string ev.k,.int .i64 ev.a,.int .i64 ev.b] 54) by rw[iT,eV];exact lP _ _);have NP:=aD (show some gb∉parts vz hb from λhp=>by have:=(A2.o.lt _ hp).2;omega);rw[<-eV,<-iT];clear iT eV A2 T2;have zs6:lo<=w3.heap.size:=eM HP.o.lo_ T3.o.size;have znT:k<=es.length:=by have:=Py.o;omega
   obtain⟨yP,zdK,zy4⟩:=N9 HP.o.ok k znT;have pre:EvPre lo hb vz (Ap o es ln qn k) w3:=⟨A3.o,M1.o,zoY HP.o.ok znT HP.o.nd HP.o.nl HP.o.nq,zs6,HP.o.tab.turn HP.o.at_ HP.o.lo_ T3.o,by have:=zdK.clk;show(mK o es k).clk<=_;omega,by have h1:=zdK.nw;have h2:=zdK.nb;show(mK o es k).back.length+(mK o es k).wait.length<=_;omega⟩;have zvj:w3.cell? ⟨hb,12,none⟩=some vz.sA:=aJ A3.o.blk 12;have zHu:=aD pre;have RD:=aD zvj;clear pre zvj yP zdK zy4;refine cw_R3 (c:=⟨e,lo,hb,gb,(rY o es k).length,v,w,vz,Ap o es ln qn k,ev,Kz⟩) H uT.o.2.2 (by show B4 e.W _ _;rw[HP.o.W];exact asks_at Mv.o) (λi g hg=>zhH _ _ (HP.o.K i g hg)) (by show(eU (mK o es k) ev).1.log.length<=1000;rw[uT.o.1];exact uT.o.2.1) uT.o.1 rfl rfl rfl (λvs K' l' w' uB hS=>?_) ⟨wO _,λ_=>⟨RD.o,vH.o⟩,rfl,zHu.o,T3.o,NP.o⟩;rw[Go.Mt.Ac,zGM];simp only[Go.Mt.wN,dW,dS];obtain⟨s1,s2,s3⟩:=hS;have s4:l'=.wk e.qs ((rY o es k).length+(pJ (mK o es k) ev).length)/\W3.P2 ⟨e,lo,hb,gb,(rY o es k).length,v,w,vz,Ap o es ln qn k,ev,Kz⟩ w':=by
    rcases vs with _|⟨a,_|⟨b,_|⟨x,_|⟨y,vs⟩⟩⟩⟩
    .cases uB
    .cases uB
    .cases uB
    .cases uB
    .exact s3
   obtain⟨rfl,v2,a2,m2,t2,q1,q2⟩:=s4;have e3:(rY o es (k+1)).length=(rY o es k).length+(pJ (mK o es k) ev).length:=by show(rY o es k++_).length=_;rw[Mv.o,gM]
   have e4:Ap o es ln qn (k+1)={Ap o es ln qn k with r:=Ei (eU (mK o es k) ev)}:=by unfold Ap;rw[Vq Mv.o]
   have A4:=aD (show bF w' lo hb v2 (Ap o es ln qn (k+1)) by rw[e4];exact a2);have M4:=aD (show gC v2 (Ap o es ln qn (k+1)) by rw[e4];exact m2);have T4:=aD t2;have Q4:=aD (And.intro (q1.trans EZ.o.1) (q2.trans EZ.o.2));have rT:K.le K':=wF zhH s1;rw[<-e3];clear a2 m2 t2 q1 q2 e3 e4 s1 s2 s3 uB;refine CW.pQ H P4 (λztX Q HQ=>?_);go_wp2;refine HQ.o _ _ ?_;clear HQ;exact⟨n-(k+1),aC,k+1,_,K',v2,_,_,_,_,_,_,_,_,_,_,_,_,_,_,_,_,_,_,_,_,_,_,_,_,_,_,_,_,_,_,_,_,_,_,_,_,_,_,_,_,_,_,_,_,_,_,_,rfl,aC,rfl,rT,A4.o.tp ztX 0,M4.o,T4.o.tp ztX 0,Q4.o.1,Q4.o.2⟩
  .have Gw:¬(k:Int)<(n:Int):=aC
   have lU:=aD (show k=es.length by have:=Py.o;omega);go_wp2;refine HQ.o _ _ ?_;clear HQ Gw;refine CW.tape (s:=⟨[],Kz,.wk e.qs (rY o es k).length,_,wz⟩) ?_ zdX 0;refine CW.sq H ?_;refine CW.cd H false ?_;refine CW.exit H aP ?_;dsimp only;rw[if_pos rfl];have yY:=lU.o;subst yY;have Rf:Ap o es ln qn es.length=uP o es ln qn 0:=by unfold Ap uP;rw[zc4];rfl
   rw[Rf] at A1 M1;obtain⟨AQ,cQ,zbx,zG7⟩:=Gt A1.o.Q aH;obtain⟨nq,zcb⟩:=aU qn.length;have Sr:=aD zcb;have zsc:=aD (show vz.sQ=.slice AQ nq cQ by rw[zcb];exact zbx);have Y9:=(Cd (zoY (tk:=[]) HP.o.ok (jO _) HP.o.nd HP.o.nl HP.o.nq).R.off).2.2.2.1;have zKg:nq<=4:=by
    have h1:=HP.o.nq;have h2:(mK o es 0).o.op<=4:=Y9;have h3:(mK o es 0).o=o:=rfl;rw[h3] at h2;omega
   clear zbx zG7 zcb Rf Y9 aN Cq;refine CW.sq H ?_;refine CW.pQ H P4 (λTv Q HQ=>?_);obtain⟨w5,n5⟩:=aU (Tt.tp wz Tv 0);have A5:=aD (show bF w5 lo hb vz (uP o es ln qn 0) by rw[n5];exact A1.o.tp Tv 0);have T5:=aD (show bM hb v w vz w5 by rw[n5];exact T1.o.tp Tv 0)
   try dsimp only
   rw[<-n5];clear n5 A1 T1;have k6:w5.cell? ⟨hb,6,none⟩=some (.slice AQ nq cQ):=by
    have:=aJ A5.o.blk 6;rw[this,<-zsc.o];rfl
   go_wp2;refine HQ.o _ _ ?_;clear HQ k6;obtain⟨k0,iR⟩:=aU ((rY o es es.length).length);have Bw:=aD iR;rw[<-iR];clear iR;refine CW.block H ?_;refine CW.loop H (λnn s=>∃(k:Nat) (wy:aE) (Ky:Pr) (vy:fO) (u1 u2 u3 u4 u5 u6 u7 u8 u9 gU gH gK gJ gE gF u16 gY kQ kM jR gZ iJ iI iD iK iH iA iC iG iO iL iB hY kI kR iM iN iF iX iP jB jC iW iV iY jD iS iU:aF),s=⟨[],Ky,.wk e.qs (k0+2*k),#[.pointer (some ⟨hb,0,none⟩),u1,u2,u3,u4,u5,u6,u7,u8,u9,gU,gH,gK,gJ,gE,gF,u16,gY,kQ,kM,jR,gZ,iJ,iI,iD,iK,iH,iA,iC,iG,.slice AQ nq cQ,.int .i64 (nq:Int),.int .i64 (k:Int),iO,iL,iB,hY,kI,kR,iM,iN,iF,iX,iP,jB,jC,iW,iV,iY,jD,iS,iU],wy⟩/\k<=nq/\nn=nq-k/\K.le Ky/\bF wy lo hb vy (uP o es ln qn k)/\gC vy (uP o es ln qn k)/\bM hb v w vy wy/\vy.sQ=vz.sQ) (λnn s hs=>?_) (n:=nq) ?_
   rotate_left
   .exact⟨0,w5,Kz,vz,_,_,_,_,_,_,_,_,_,_,_,_,_,_,_,_,_,_,_,_,_,_,_,_,_,_,_,_,_,_,_,_,_,_,_,_,_,_,_,_,_,_,_,_,_,_,_,_,rfl,jO _,rfl,zhH,A5.o,M1.o,T5.o,rfl⟩
   .obtain⟨k,wy,Ky,vy,u1,u2,u3,u4,u5,u6,u7,u8,u9,gU,gH,gK,gJ,gE,gF,u16,gY,kQ,kM,jR,gZ,iJ,iI,iD,iK,iH,iA,iC,iG,iO,iL,iB,hY,kI,kR,iM,iN,iF,iX,iP,jB,jC,iW,iV,iY,jD,iS,iU,rfl,zJY,zKa,zxx,ay,my,ty,ey⟩:=hs
    have A6:=aD ay;have M6:=aD my;have T6:=aD ty;have EY:=aD ey;clear ay my ty ey A5 T5 M1;refine CW.sq H ?_;refine CW.pQ H P4 (λzca Q HQ=>?_);by_cases aN:k<nq
    .have Gw:(k:Int)<(nq:Int):=aC
     go_wp2;refine HQ.o _ _ ?_;clear HQ;refine CW.sq H ?_;refine CW.cd H true ?_;refine CW.sk H ?_;dsimp only;have Pa:e.W[k0+2*k]? =some (.ask k 0 0 (dK (H9 o es).recs ((k:Int)+1)))/\e.W[k0+2*k+1]? =some (.shut k):=by
      have zle:o.op.toNat=nq:=by have:=HP.o.nq;have:=Sr.o;omega
      obtain⟨x1,x2⟩:=zx5 (H9 o es) nq k aN;rw[HP.o.W];unfold B6;rw[zle,Ao (by have:=Bw.o;omega),Ao (by have:=Bw.o;omega),<-Bw.o,zvs,show k0+2*k+1-k0=2*k+1 by omega];exact⟨x1,x2⟩
     refine CW.sq H ?_;refine CW.block H ?_;refine CW.sq H ?_;refine CW.pQ H P4 (λZq Q HQ=>?_);obtain⟨w7,qU⟩:=aU (Tt.tp (Tt.tp wy zca 0) Zq 0);have A7:=aD (show bF w7 lo hb vy (uP o es ln qn k) by rw[qU];exact(A6.o.tp zca 0).tp Zq 0);have T7:=aD (show bM hb v w vy w7 by rw[qU];exact(T6.o.tp zca 0).tp Zq 0)
     try dsimp only
     rw[<-qU];clear qU A6 T6;have oF:=A7.o.Q;rw[EY.o,zsc.o] at oF;have oF:w7.ownsRow lo 95 1 (.slice AQ nq cQ) nq (Jc qn):=by rw[Sr.o];rw[Sr.o] at oF;exact oF
     obtain⟨bq,oq,gq,hA,Bd,zD0⟩:=zf3 (y9 oF aH) aN;subst hA;have zyL:=aD Bd;have i0:(0:Int)<=(k:Int):=aC;clear oF Bd;go_wp2;refine HQ.o _ _ ?_;clear HQ zD0;have zxo:w7.cell? ⟨hb,13,none⟩=some vy.sT:=aJ A7.o.blk 13;have zBc:lo<=w7.heap.size:=eM HP.o.lo_ T7.o.size;have zvE:k<qn.length:=by have:=Sr.o;omega
     refine CW.sq H ?_;refine cw_R8 (c:=⟨e,lo,hb,k,k0+2*k,dK (H9 o es).recs ((k:Int)+1),v,w,vy,uP o es ln qn k,Ky⟩) H M6.o Pa.1 zvE (by show k<=100;omega) (λi g hg=>zxx _ _ (HP.o.K i g hg)) (by show(Z5 (H9 o es) k).length<=1000;rw[zwH];omega) rfl rfl rfl (λvs K' l' w' uB hS=>?_) ⟨wO _,λ_=>zxo,rfl,A7.o,T7.o,zBc⟩;rw[Go.Mt.Ac,zC0];simp only[Go.Mt.wN,dW,dS];obtain⟨s1,s2,s3⟩:=hS;have s4:l'=.wk e.qs (k0+2*k+1)/\W8.P2 ⟨e,lo,hb,k,k0+2*k,dK (H9 o es).recs ((k:Int)+1),v,w,vy,uP o es ln qn k,Ky⟩ w':=by
      rcases vs with _|⟨a,_|⟨b,_|⟨x,_|⟨y,vs⟩⟩⟩⟩
      .cases uB
      .cases uB
      .cases uB
      .cases uB
      .exact s3
     obtain⟨rfl,v2,a2,m2,t2,q1,q2⟩:=s4;have A8:=aD (show bF w' lo hb v2 (uP o es ln qn (k+1)) from a2);have M8:=aD (show gC v2 (uP o es ln qn (k+1)) from m2);have T8:=aD t2;have Q8:=aD (q2.trans EY.o);have rT:K.le K':=wF zxx s1;have zJG:K' gq (qa e.qs k):=rT _ _ (HP.o.K k gq zyL.o);clear a2 m2 t2 q1 q2 s1 s2 s3 uB zxo;refine CW.rg H [0,1] ?_;refine CR.mv H (.chan (some gq)) ?_;refine CR.shut H (k:=k0+2*k+1) (q:=k) zFP rfl rfl znE rfl rfl Pa.2 (by show k<e.qs.length;rw[HP.o.qs];exact zvE) rfl rfl zJG ?_;simp only[cC,gI,dW,dS];refine CR.nil H ?_;refine CW.pQ H P4 (λZv Q HQ=>?_);go_wp2;refine HQ.o _ _ ?_;clear HQ;exact⟨nq-(k+1),aC,k+1,_,K',v2,_,_,_,_,_,_,_,_,_,_,_,_,_,_,_,_,_,_,_,_,_,_,_,_,_,_,_,_,_,_,_,_,_,_,_,_,_,_,_,_,_,_,_,_,_,_,_,_,rfl,aC,rfl,rT,A8.o.tp Zv 0,M8.o,T8.o.tp Zv 0,Q8.o⟩
    .have Gw:¬(k:Int)<(nq:Int):=aC
     have lU:=aD (show k=nq by omega);go_wp2;refine HQ.o _ _ ?_;clear HQ Gw;refine CW.sq H ?_;refine CW.cd H false ?_;refine CW.exit H aP ?_;dsimp only;rw[if_pos rfl];have yY:=lU.o;subst yY;have zC4:e.W.length=k0+2*k:=by
      have zle:o.op.toNat=k:=by have:=HP.o.nq;have:=Sr.o;omega
      rw[HP.o.W];unfold B6;rw[gM,<-Bw.o,zle,zir]
     refine⟨aP,rfl,.tuple #[],rfl,by rw[zC4],vy,?_,?_,T6.o.tp zca 0⟩
     .rw[<-Sr.o];exact A6.o.tp zca 0
     .rw[<-Sr.o];exact M6.o
end Go.Proofs.YtfcjiloojkjaeaaGreatDoor
namespace Go.Proofs.YtfcjiloojkjaeaaGreatDoor
open Go.RowKit Go.Mt Go.Conc Go.Tt Go.Conc.Lib Go.ConcR.Gen
abbrev rM:WgLink:={add:=53,done:=55,wait:=59,relMerge:=68,disable:=69,enable:=70,inBubble:=71,associate:=72,fatal:=73,uOr:=74,uAdd:=75,raceRead:=76,uLoad:=77,uStore:=78,disassociate:=79,semrelease:=80,acquire:=83,isAssociated:=84,uCas:=85,raceWrite:=86,semacquire:=87,orU64:=97,addU64:=98,loadU64:=99,storeU64:=100,casU64:=106,tWgP:=108,tUP:=110,tAssoc:=112,tWg:=94,tAU:=91,tU64:=89,tUint:=116,tU32:=92,tPU32:=117,tPAU:=137,tPU64:=139,tNoCopy:=86,tANoCopy:=87,tAlign64:=88}
def zcr:WgLib aK rM:=
 ⟨Tryz.func53,Tryz.func55,Tryz.func59,Tryz.func68,Tryz.func69,Tryz.func70,Tryz.func71,Tryz.func72,Tryz.func73,Tryz.func74,Tryz.func75,Tryz.func76,Tryz.func77,Tryz.func78,Tryz.func79,Tryz.func80,Tryz.func83,Tryz.func84,Tryz.func85,Tryz.func86,Tryz.func87,Tryz.func97,Tryz.func98,Tryz.func99,Tryz.func100,Tryz.func106,Tryz.underlying108,Tryz.runUnderlying108,Tryz.sizeOf108,Tryz.isAgg108,Tryz.zeroValue108,Tryz.underlying110,Tryz.runUnderlying110,Tryz.sizeOf110,Tryz.isAgg110,Tryz.zeroValue110,Tryz.underlying112,Tryz.runUnderlying112,Tryz.sizeOf112,Tryz.isAgg112,Tryz.zeroValue112,Tryz.underlying94,Tryz.runUnderlying94,Tryz.sizeOf94,Tryz.isAgg94,Tryz.zeroValue94,Tryz.underlying91,Tryz.runUnderlying91,Tryz.sizeOf91,Tryz.isAgg91,Tryz.zeroValue91,Tryz.underlying89,Tryz.runUnderlying89,Tryz.sizeOf89,Tryz.isAgg89,Tryz.zeroValue89,Tryz.underlying116,Tryz.runUnderlying116,Tryz.sizeOf116,Tryz.isAgg116,Tryz.zeroValue116,Tryz.underlying92,Tryz.runUnderlying92,Tryz.sizeOf92,Tryz.isAgg92,Tryz.zeroValue92,Tryz.underlying117,Tryz.runUnderlying117,Tryz.sizeOf117,Tryz.isAgg117,Tryz.zeroValue117,Tryz.underlying137,Tryz.runUnderlying137,Tryz.sizeOf137,Tryz.isAgg137,Tryz.zeroValue137,Tryz.underlying139,Tryz.runUnderlying139,Tryz.sizeOf139,Tryz.isAgg139,Tryz.zeroValue139,Tryz.underlying0,Tryz.runUnderlying0,Tryz.sizeOf0,Tryz.isAgg0,Tryz.zeroValue0,Tryz.underlying3,Tryz.runUnderlying3,Tryz.sizeOf3,Tryz.isAgg3,Tryz.zeroValue3,Tryz.underlying4,Tryz.runUnderlying4,Tryz.sizeOf4,Tryz.isAgg4,Tryz.zeroValue4,Tryz.underlying9,Tryz.runUnderlying9,Tryz.sizeOf9,Tryz.isAgg9,Tryz.zeroValue9,Tryz.underlying20,Tryz.runUnderlying20,Tryz.sizeOf20,Tryz.isAgg20,Tryz.zeroValue20,Tryz.underlying21,Tryz.runUnderlying21,Tryz.sizeOf21,Tryz.isAgg21,Tryz.zeroValue21,aQ,aQ⟩
instance:Go.ConcR.Payload:=⟨3⟩
end Go.Proofs.YtfcjiloojkjaeaaGreatDoor
namespace Go.Proofs.YtfcjiloojkjaeaaGreatDoor
open Go.RowKit Go.Mt Go.Conc Go.Tt Go.Maps Go.Conc.Lib Go.ConcR.Gen
open Go.ConcR (KK wgBlock WgAt stA smA rd wr)
variable {K:Pr}{Q:Pr->Prop}{pin:List (Nat×aF)}{w:aE}{Ψ:Pr->gS->aF->aE->Prop}
theorem BO.callF {d:pF}(H:d.Ok){base:List dJ}{ds:Dk}(hQ:Up Q){fn:aO}{tmps:Array aF}{ops:Array aZ}{i:Nat}{rest:List Nat}{k:List eF}{l:gS}{o:aZ}{g:aO}{args:Array cN}{kT:Array aM}(Ms:Array aF)
 (ho:ops[i]? =some o) (cD:dD o (dR ops tmps)=true) (hop:o.op=.call ⟨.value (.func g),args,kT⟩) (tD:args.all (dP d.fs)=true) (ha:args.map (bJ tmps []).eval=Ms) (lH:∀s,o.dst=some s->s∉pin.map (·.1)) (hc:CF d g Ms K l w Ψ)
 (hk:∀K' l' v w',K.le K'->Ψ K' l' v w'->BO (d.cx K' Q [] base ds pin) l' ⟨fn,(cC ⟨tmps,[]⟩ o.dst v).tmps,.inRegion ops rest::k,false⟩ w'):BO (d.cx K Q [] base ds pin) l ⟨fn,tmps,.inRegion ops (i::rest)::k,false⟩ w:=by
 obtain⟨fnf,cf,g1,g2,g3,g4,g5⟩:=hc.ex;refine BO.callN (H.iok hQ) ho cD hop (Callee.static _ _) tD g1 g2 g3 g4 λn7 m' hm=>?_;rw[pF.sub_eq];have fin:∀(s':WS) todo,K.le s'.K->(s'.chs=[]/\∃v,(oN fnf.results.toList s'.T).run d.p s'.w=.ok v s'.w/\Ψ s'.K s'.l v s'.w)->d.bo (λR=>Q R/\n7.le R) (fx [] ds m'::base) s' g todo true:=λs' todo hl ⟨h2,v,h3,h4⟩=>by
  obtain⟨zIZ,K',l',T',w'⟩:=s';simp only at*;subst h2;unfold pF.bo;simp only;rw[<-pF.sub_eq (pin:=pin)];refine BO.retN (C:=d.cx K' Q [] base ds pin) (H.iok hQ) (hm.upK hl _) rfl rfl (λs hs=>lH s (by rw[ho] at hs;exact hs)) g1 h3 ?_;have:=hk K' l' v w' hl h4;simp only[Fm.fin,ho,vN]
  cases hd:o.dst with
  |none=>rw[hd] at this;exact this
  |some s=>rw[hd] at this;exact this
 have e:(#[]:Array aF)++args.map (bJ tmps []).eval++ #[]=Ms:=by rw[<-ha];simp
 rw[e];refine g5 (λR=>Q R/\n7.le R) (fx [] ds m'::base) [] (hQ.and n7) (λ_ h=>by cases h) (λs' hl x=>BO.fall (H.iok (hQ.and n7)) (fin s' [] hl x.2)) (λid k2 s' hl ee x=>by cases ee) (λs' todo hl x=>fin s' todo hl x.2)
def Xd:Go.Code:=(Tryz.f57.body).getD .skip
def rH20:Go.Code:=match Xd with| .seq (a) _=>a|_=>.skip
def rH21:Go.Code:=match Xd with| .seq _ (a)=>a|_=>.skip
def zyO:Xd=.seq (rH20) (rH21):=rfl
def zhu:Array Oper:=match rH20 with| .region _ ops _=>ops|_=>#[]
def rH20_eq:rH20=.region 0 zhu false:=rfl
def zFY:gN zhu.size=[0]:=rfl
abbrev ztj:Oper:=⟨none,.defer ⟨.value (.func 55),#[.tmp 0],#[94]⟩,0,"l6_office.go:292",#[],none⟩
def zG6:zhu[0]? =some ztj:=rfl
def zbk:Array Oper:=match rH21 with| .region _ ops _=>ops|_=>#[]
def rH21_eq:rH21=.region 1 zbk false:=rfl
def zzm:gN zbk.size=[0,1,2]:=rfl
abbrev oH21_0:Oper:=⟨some 3,.load 63 (.tmp 1),63,"l6_office.go:293",#[],none⟩
def zES:zbk[0]? =some oH21_0:=rfl
abbrev oH21_1:Oper:=⟨some 4,.load 31 (.tmp 2),31,"l6_office.go:293",#[],none⟩
def zGO:zbk[1]? =some oH21_1:=rfl
abbrev oH21_2:Oper:=⟨some 5,.call ⟨.value (.func 58),#[.tmp 3,.tmp 4],#[63,31]⟩,0,"l6_office.go:293",#[⟨0,.data⟩,⟨1,.data⟩],none⟩
def zFv:zbk[2]? =some oH21_2:=rfl
theorem zDH {N:Nat}{W:List fJ}{D:aE->Prop}{qs:List Nat}:(By N W D).act (.wk qs W.length)=.done:=by
 show eN N W (.wk qs W.length)=_;simp[eN]
theorem zHA {e:G0}(H:e.d.Ok)(Cs:e.ty=rM.tWg){lo hb gh ge n c:Nat}{A:Option bL}{v:fO}{o:jN}{es:List dG}{ln qn:List Nat}(h:zah e o es ln qn lo hb v w K A n c)(hh:w.cell? ⟨gh,0,none⟩=some (.pointer (some ⟨hb,0,none⟩)))(he:w.cell? ⟨ge,0,none⟩=some (.slice A n c))(hQ:Up Q)
 (tZ:∀K' R τ W w' v',K.le K'->Q R->cV (SF gG) K' R (o5 aK) e.St w' W->IQ e.W0 e.StI e.Shun e.Wg e.SS e.R0 e.Fz e.Wf e.qs [] R τ W->bF w' lo hb v' (uP o es ln qn qn.length)->gC v' (uP o es ln qn qn.length)->bM hb v w v' w'->e.D W):
 BO (e.d.cx K Q [] [vW aK] ⟨[],.deferred,aP⟩ [(0,.pointer (some ⟨e.Wg,0,none⟩))]) (.wk e.qs 0) ⟨57,#[.nilFunc,.pointer (some ⟨gh,0,none⟩),.pointer (some ⟨ge,0,none⟩),aA,aA,aA],[.code Xd],false⟩ w:=by
 let C:=e.d.cx K Q [] [vW aK] ⟨[],.deferred,aP⟩ [(0,.pointer (some ⟨e.Wg,0,none⟩))]
 have hI:fF C:=H.iok hQ
 let d1:=dcall 55 #[.pointer (some ⟨e.Wg,0,none⟩)]
 have Kd:fF (C.dfr d1):=hI.dfr d1;have F:vD C.P C.fs:=mQ;show BO C _ _ _;rw[zyO];refine BO.seq hI ?_;rw[rH20_eq];refine BO.regs hI _ zFY ?_;refine BO.defer hI (d:=d1) zG6 rfl rfl (λR w W bQ _ _ Dm aX=>?_) ?_
 .have h0:=Dm (0,.pointer (some ⟨e.Wg,0,none⟩)) (by show _∈[_];simp)
  have:=zwg (p:=C.p) (o:=ztj) (ρ:=(bJ bQ C.ds.ds).eval) rfl rfl aX;simp only[uW,fL,tM,wA] at this;simp only at h0;rw[h0] at this;exact this
 refine BO.regEnd Kd ?_;rw[rH21_eq];refine BO.regs Kd _ zzm ?_;refine BO.op (C:=C.dfr d1) F Kd zES rfl aQ zry (λT=>⟨.pointer (some ⟨hb,0,none⟩),Tt.tp w T 0,.inl (zbK (a:=⟨gh,0,none⟩) rfl rfl (Tryz.isAgg63 _) hh),?_⟩);simp only[cC,gI,dW,dS];refine BO.tape ?_ T 0;clear T;refine BO.op (C:=C.dfr d1) F Kd zGO rfl aQ (by intro s hs;cases hs;show(4:Nat)∉([0]:List Nat);decide) (λT=>⟨.slice A n c,Tt.tp w T 0,.inl (zbK (a:=⟨ge,0,none⟩) rfl rfl (Tryz.isAgg31 _) he),?_⟩);simp only[cC,gI,dW,dS];refine BO.tape ?_ T 0;clear T;have eC:C.dfr d1=e.d.cx K Q [] [vW aK] ⟨[d1],.deferred,aP⟩ [(0,.pointer (some ⟨e.Wg,0,none⟩))]:=rfl;rw[eC];refine BO.callF H hQ #[.pointer (some ⟨hb,0,none⟩),.slice A n c] zFv rfl rfl aQ (by simp only[uW,fL,tM,wA];rfl) (by intro s hs;cases hs;show(5:Nat)∉([0]:List Nat);decide) (cf_work H h) λK' l' y w' hl hx=>?_;obtain⟨rfl,v',hA,hm,hT⟩:=hx;have F7:fF (e.d.cx K' Q [] [vW aK] ⟨[d1],.deferred,aP⟩ [(0,.pointer (some ⟨e.Wg,0,none⟩))]):=H.iok hQ;refine BO.regEnd F7 (BO.fall F7 ?_);refine BO.doneD (C:=e.d.cx K' Q [] [vW aK] ⟨[d1],.deferred,aP⟩ [(0,.pointer (some ⟨e.Wg,0,none⟩))]) (I0:=λR τ W=>IQ e.W0 e.StI e.Shun e.Wg e.SS e.R0 e.Fz e.Wf e.qs [] R τ W/\Q R) zcr rfl rfl Cs ?_ ?_ rfl rfl Tryz.func57 rfl zDH (λR τ W hr hi=>tZ K' R τ W w' v' hl hi.2 hr hi.1 hA hm hT)
 .funext R τ w
  show((IQ _ _ _ _ _ _ _ _ _ _ R τ w/\WgLive e.ty _ w)/\Q R)=((IQ _ _ _ _ _ _ _ _ _ _ R τ w/\Q R)/\WgLive _ _ w);rw[Cs];exact propext ⟨λ⟨⟨a,b⟩,c⟩=>⟨⟨a,c⟩,b⟩,λ⟨⟨a,c⟩,b⟩=>⟨⟨a,b⟩,c⟩⟩
 .have hx:=zfN (ty:=rM.tWg) (W0:=e.W0) (St:=e.StI) (Shun:=e.Shun) (Wg:=e.Wg) (SS:=e.SS) (R0:=e.R0) (Fz:=e.Fz) (Wf:=e.Wf) (qs:=e.qs) (chs:=[]) H.ss H.fz H.low
  exact⟨λR τ W aX h s=>⟨hx.suf _ _ _ _ h.1 s,h.2⟩,λR τ W a v h ha=>⟨hx.cell _ _ _ _ _ h.1 ha,h.2⟩,λR τ W d h=>⟨hx.at_ _ _ _ d h.1,h.2⟩,λR τ W h=>hx.rel _ _ _ h.1⟩
section
variable {L:Type}{C:Cx L}{l:L}
variable {fn:aO}{tmps:Array aF}{c:wJ}{k:List eF}{w:aE}
def BO.pieceQ (F:vD C.P C.fs)(hI:fF C)(hc:oC C.p ⟨C.fs,C.gs,true⟩ c=true)(hf:vR C.p fn)(dB:x3 C.S c=true)
 (rI:∀(T:jZ) (Q:nZ->tP->aE->Prop),pR (∀a' w',BO C l ⟨fn,a'.tmps,k,false⟩ w'->Q .normal a' w')->Code.wp C.p c Q ⟨tmps,[]⟩ (Tt.tp w T 0)):BO C l ⟨fn,tmps,.code c::k,false⟩ w:=
 BO.piece F hI hc hf dB λT=>rI T _ (aD λa' w' h=>⟨rfl,h⟩)
theorem BO.pV {c':wJ}(F:vD C.P C.fs)(hI:fF C)(hf:vR C.p fn)
 (rI:∀(w1:aE) (T:jZ),w1=Tt.tp w T 0->∀Q:nZ->tP->aE->Prop,pR (∀a' w',BO C l ⟨fn,a'.tmps,k,false⟩ w'->Q .normal a' w')->Code.wp aK c' Q ⟨tmps,[]⟩ w1)
 (e:c=c':=by conv=>lhs;whnf) (hp:C.p=Tryz.prog:=by exact rfl) (hc:oC C.p ⟨C.fs,C.gs,true⟩ c=true:=by kernel_rfl) (dB:x3 C.S c=true:=by kernel_rfl):BO C l ⟨fn,tmps,.code c::k,false⟩ w:=by
 subst e;exact BO.pieceQ F hI hc hf dB λT Q HQ=>by rw[hp];exact rI _ T rfl Q HQ
end
structure IOp (Wg:Nat)(R:Pr)(τ:cF)(W:aE):Prop where
 rel:∀a b,R a b->b≠Wg
 lt:Wg<W.heap.size
theorem iop_ix {ty:aM}{Wg:Nat}:IX ty Wg (IOp Wg):=
 ⟨λR τ W aX h s=>⟨h.rel,lE h.lt s.size⟩,λR τ W a v h ha=>⟨h.rel,by rw[H5];exact h.lt⟩,λR τ W d h=>⟨h.rel,h.lt⟩,λR τ W h=>h.rel⟩
theorem zdH {L:Type}{C:Cx L}(hQ:Up Q)(hC:C.I=λR τ W=>yI C.ty C.Wg (IOp C.Wg) R τ W/\Q R):fF C:=by
 refine⟨λR τ W aX h s=>?_,λR τ W R1 W1 h ht hs=>?_⟩<;>rw[hC] at*
 .exact⟨⟨⟨h.1.1.rel,lE h.1.1.lt s.size⟩,s.live h.1.2⟩,h.2⟩
 .refine⟨⟨⟨λa b x=>?_,lE h.1.1.lt hs.size⟩,?_⟩,hQ R R1 hs.le h.2⟩
  .rcases hs.new a b x with y|⟨y,_⟩
   .exact h.1.1.rel a b y
   .have:=h.1.1.lt;omega
  .obtain⟨a,b,hl⟩:=h.1.2
   exact⟨a,b,(hs.keep C.Wg h.1.1.lt λa x=>absurd rfl (h.1.1.rel a _ x)).trans hl⟩
def fX (Wg N:Nat)(W:List fJ)(D:aE->Prop)(Fin:bC->aE->Prop)(St:Nat->Prop)(K:Pr)(Q:Pr->Prop)(base:List dJ)(ds:Dk)(pin:List (Nat×aF)):Cx gS:=
 {p:=aK,gs:=Bn,fs:=gG,ty:=rM.tWg,Wg:=Wg,A:=By N W D,Fin:=Fin,main:=false,base:=base,ds:=ds,K:=K,St:=St,I:=λR τ w=>yI rM.tWg Wg (IOp Wg) R τ w/\Q R,pin:=pin}
def Lm:Go.Code:=(Tryz.f56.body).getD .skip
def rOP0:Go.Code:=match Lm with| .seq (a) _=>a|_=>.skip
def rOP1:Go.Code:=match Lm with| .seq _ (.seq (a) _)=>a|_=>.skip
def rOP2:Go.Code:=match Lm with| .seq _ (.seq _ (.block _ (.loop (.seq (a) _))))=>a|_=>.skip
def rOP3:Go.Code:=match Lm with| .seq _ (.seq _ (.block _ (.loop (.seq _ (.seq _ (.block _ (.seq (a) _)))))))=>a|_=>.skip
def rOP4:Go.Code:=match Lm with| .seq _ (.seq _ (.block _ (.loop (.seq _ (.seq _ (.block _ (.seq _ (.seq (.seq (a) _) _))))))))=>a|_=>.skip
def rOP5:Go.Code:=match Lm with| .seq _ (.seq _ (.block _ (.loop (.seq _ (.seq _ (.block _ (.seq _ (.seq (.seq _ (.cond _ (a) _)) _))))))))=>a|_=>.skip
def rOP6:Go.Code:=match Lm with| .seq _ (.seq _ (.block _ (.loop (.seq _ (.seq _ (.block _ (.seq _ (.seq _ (a)))))))))=>a|_=>.skip
def zJo:Lm=.seq (rOP0) (.seq (rOP1) (.block 0 (.loop (.seq (rOP2) (.seq (.cond (.tmp 6) (.skip) (.exit 0)) (.block 1 (.seq (rOP3) (.seq (.seq (rOP4) (.cond (.tmp 10) (rOP5) (.skip))) (rOP6))))))))):=rfl
def zfg:Array Oper:=match rOP2 with| .region _ ops _=>ops|_=>#[]
def zsW:rOP2=.region 2 zfg false:=rfl
def zpn:gN zfg.size=[0,1]:=rfl
abbrev oOP2_0:Oper:=⟨some 5,.recv 122 (.tmp 4) true,0,"l6_office.go:89",#[],none⟩
def zrW:zfg[0]? =some oOP2_0:=rfl
abbrev oOP2_1:Oper:=⟨some 6,.extract (.tmp 5) 1,4,"l6_office.go:89",#[⟨0,.data⟩],none⟩
def zjs:zfg[1]? =some oOP2_1:=rfl
def Zf:Array Oper:=match rOP6 with| .region _ ops _=>ops|_=>#[]
def ztp:rOP6=.region 6 Zf false:=rfl
def zpK:gN Zf.size=[0,1,2,3]:=rfl
abbrev oOP6_0:Oper:=⟨some 13,.fieldAddr 124 (.tmp 3) 2,0,"l6_office.go:93",#[],none⟩
def zoo:Zf[0]? =some oOP6_0:=rfl
abbrev oOP6_1:Oper:=⟨some 14,.load 84 (.tmp 13),84,"l6_office.go:93",#[⟨0,.data⟩],none⟩
def zxY:Zf[1]? =some oOP6_1:=rfl
abbrev oOP6_2:Oper:=⟨some 15,.move (.tmp 2),3,"l6_office.go:93",#[],none⟩
def zt4:Zf[2]? =some oOP6_2:=rfl
abbrev oOP6_3:Oper:=⟨none,.send (.tmp 14) (.tmp 15),0,"l6_office.go:93",#[⟨1,.data⟩,⟨2,.data⟩],none⟩
def zt6:Zf[3]? =some oOP6_3:=rfl
def Vm:vR aK 56:=⟨_,Tryz.func56,.inl rfl⟩
def zdU:Go.Code:=.seq rOP2 (.seq (.cond (.tmp 6) .skip (.exit 0)) (.block 1 (.seq rOP3 (.seq (.seq rOP4 (.cond (.tmp 10) rOP5 .skip)) rOP6))))
theorem info_q:∃ie,aK.info? 124=some ie/\ie.zero=some (.agg #[.int .i64 0,.int .i64 0,.chan none]):=by
 have h:(aK.info? 124).bind (·.zero)=some (.agg #[.int .i64 0,.int .i64 0,.chan none]):=aQ;obtain⟨ie,h1,h2⟩:=Option.bind_eq_some_iff.1 h;exact⟨ie,h1,h2⟩
def ztD:aK.underlying 122=some (.chan .recv 124):=aQ
def vr3 {S:aO->Prop}{R:Pr}{a b:Int}{x y:aF}(h:VR S K R x y):VR S K R (.agg #[.int .i64 a,.int .i64 b,x]) (.agg #[.int .i64 a,.int .i64 b,y]):=
 .agg' (((bK.empty.push (.int _ _)).push (.int _ _)).push h)
section
variable {Wg N:Nat}{W:List fJ}{D:aE->Prop}{Fin:bC->aE->Prop}{St:Nat->Prop}{Q:Pr->Prop}{base:List dJ}{gc c:Nat}
theorem op_loop {K0:Pr}(zox:K0 gc c)(hQ:Up Q)(Pn:∀K T todo w,K0.le K->BO (fX Wg N W D Fin St K Q base .nil []) .oD ⟨56,T,todo,true⟩ w):
 ∀(m:Nat) (K:Pr) (w:aE) (call:Int) (u1 u3 u5 u6 u7 u8 u9 gU gH gK gJ gE gF:aF),K0.le K->BO (fX Wg N W D Fin St K Q base .nil []) (.op c call m) ⟨56,#[.chan (some gc),u1,.int .i64 call,u3,.chan (some gc),u5,u6,u7,u8,u9,gU,gH,gK,gJ,gE,gF],[.code zdU,.inLoop zdU,.inBlock 0],false⟩ w:=by
 have F:∀K,vD (fX Wg N W D Fin St K Q base .nil []).P (fX Wg N W D Fin St K Q base .nil []).fs:=λK=>mQ;have hI:∀K,fF (fX Wg N W D Fin St K Q base .nil []):=λK=>zdH hQ rfl;obtain⟨ie,jY,hz⟩:=info_q;intro m
 induction m with
 |zero=>
  intro K w call u1 u3 u5 u6 u7 u8 u9 gU gH gK gJ gE gF hL;have hK:K gc c:=hL _ _ zox;unfold zdU;refine BO.seq (hI K) ?_;rw[zsW];refine BO.regs (hI K) _ zpn ?_;refine BO.recvK rfl (hI K) zrW rfl rfl ztD jY hz (λR=>vr3 (.chan .none)) rfl rfl hK Im rfl (λv hv=>absurd hv.2 (Nat.lt_irrefl 0)) (λ_=>?_);simp only[cC,gI,dW,dS];refine BO.op (F K) (hI K) zjs rfl aQ Im (λT=>⟨.bool false,Tt.tp w T 0,.inl Pb,?_⟩);simp only[cC,gI,dW,dS];refine BO.regEnd (hI K) ?_;refine BO.seq (hI K) ?_;refine BO.cond (hI K) (t:=false) rfl rfl ?_;refine BO.exit (hI K) (k':=[]) rfl (BO.fall (hI K) (Pn K _ _ _ hL))
 |succ m ih=>
  intro K w call u1 u3 u5 u6 u7 u8 u9 gU gH gK gJ gE gF hL;have hK:K gc c:=hL _ _ zox;unfold zdU;refine BO.seq (hI K) ?_;rw[zsW];refine BO.regs (hI K) _ zpn ?_;refine BO.recvK rfl (hI K) zrW rfl rfl ztD jY hz (λR=>vr3 (.chan .none)) rfl rfl hK Im rfl (λv hv=>?_) (λ_=>?_)
  .obtain⟨hs,_⟩:=hv
   obtain⟨⟨kd,cl,a⟩,hu⟩:=Option.isSome_iff_exists.1 hs;obtain rfl:=unQ_inv hu;refine⟨a,by show a∈O9 (Mh kd cl a);simp[O9,zft],λK' ga w' hle zbB jT=>⟨.agg #[.int .i64 kd,.int .i64 cl,.chan (some ga)],λR=>vr3 (.chan (.some (.inr zbB))),?_⟩⟩;have rT:K' gc c:=hle _ _ hK;have zbH:=wF hL hle;show BO (fX Wg N W D Fin St K' Q base .nil []) (Uz c call (m+1) (Mh kd cl a)) _ w';simp only[Uz,zft,Nat.add_sub_cancel];simp only[cC,gI,dW,dS];refine BO.op (F K') (hI K') zjs rfl aQ Im (λT=>⟨.bool true,Tt.tp w' T 0,.inl Pb,?_⟩);simp only[cC,gI,dW,dS];refine BO.regEnd (hI K') ?_;refine BO.seq (hI K') ?_;refine BO.cond (hI K') (t:=true) rfl rfl ?_;refine BO.skip (hI K') ?_;refine BO.block (hI K') ?_;refine BO.seq (hI K') ?_;obtain⟨w1,fB⟩:=aU (Tt.tp w' T 0);rw[<-fB];clear fB;refine BO.pV (F K') (hI K') Vm (λw2 T1 fZ Q' cY=>?_);clear fZ;simp only[recvd,if_true];go_wp2;refine cY.o _ _ ?_;clear cY;obtain⟨gb,eV⟩:=aU w2.heap.size;obtain⟨w3,iT⟩:=aU (w2.alloc (.cells #[.int .i64 kd,.int .i64 cl,.chan (some ga)] 124));have kg:w3.heap[gb]? =some (.cells #[.int .i64 kd,.int .i64 cl,.chan (some ga)] 124):=by rw[iT,eV];exact lP _ _
   rw[<-eV,<-iT];clear iT eV;refine BO.seq (hI K') ?_;refine BO.seq (hI K') ?_;have k0:=aJ kg 0;have k1:=aJ kg 1;have k2:=aJ kg 2;by_cases n9:kd=1
   .refine BO.pV (F K') (hI K') Vm (λwt T1 cD Q' cY=>?_)
    subst cD;have zmQ:(Tt.tp w3 T1 0).cell? ⟨gb,0,none⟩=some (.int .i64 kd):=k0;subst n9;go_wp2;refine cY.o _ _ ?_;clear cY zmQ;refine BO.cond (hI K') (t:=true) rfl rfl ?_;refine BO.pV (F K') (hI K') Vm (λwt T2 cD Q' cY=>?_);subst cD;have zHP:(Tt.tp (Tt.tp w3 T1 0) T2 0).cell? ⟨gb,1,none⟩=some (.int .i64 cl):=k1;go_wp2;refine cY.o _ _ ?_;clear cY zHP;rw[if_pos trivial];rw[ztp];refine BO.regs (hI K') _ zpK ?_;refine BO.op (F K') (hI K') zoo rfl aQ Im (λT3=>⟨.pointer (some ⟨gb,2,none⟩),_,.inl Pb,?_⟩);simp only[cC,gI,dW,dS];refine BO.op (F K') (hI K') zxY rfl aQ Im (λT4=>⟨.chan (some ga),_,.inl (zbK (a:=⟨gb,2,none⟩) rfl rfl (zqn _) k2),?_⟩);simp only[cC,gI,dW,dS];refine BO.op (F K') (hI K') zt4 rfl aQ Im (λT5=>⟨.int .i64 cl,_,.inl Pb,?_⟩);simp only[cC,gI,dW,dS];refine BO.send rfl (hI K') (l':=.op c cl m) zt6 rfl rfl rfl rfl zbB rfl zm4 rfl (λR v' hv=>⟨by cases hv;rfl,rfl,rfl⟩) ?_;refine BO.regEnd (hI K') ?_;refine BO.inBlock (hI K') ?_;refine BO.inLoop (hI K') ?_;exact ih K' _ cl _ _ _ _ _ _ _ _ _ _ _ _ _ zbH
   .refine BO.pV (F K') (hI K') Vm (λwt T1 cD Q' cY=>?_)
    subst cD;have zmQ:(Tt.tp w3 T1 0).cell? ⟨gb,0,none⟩=some (.int .i64 kd):=k0;have qP:(kd==1)=false:=by simpa using n9
    go_wp2;refine cY.o _ _ ?_;clear cY zmQ;refine BO.cond (hI K') (t:=false) rfl (by first|rfl|(simp[wA,n9])) ?_;refine BO.skip (hI K') ?_;rw[if_neg n9];rw[ztp];refine BO.regs (hI K') _ zpK ?_;refine BO.op (F K') (hI K') zoo rfl aQ Im (λT3=>⟨.pointer (some ⟨gb,2,none⟩),_,.inl Pb,?_⟩);simp only[cC,gI,dW,dS];refine BO.op (F K') (hI K') zxY rfl aQ Im (λT4=>⟨.chan (some ga),_,.inl (zbK (a:=⟨gb,2,none⟩) rfl rfl (zqn _) k2),?_⟩);simp only[cC,gI,dW,dS];refine BO.op (F K') (hI K') zt4 rfl aQ Im (λT5=>⟨.int .i64 call,_,.inl Pb,?_⟩);simp only[cC,gI,dW,dS];refine BO.send rfl (hI K') (l':=.op c call m) zt6 rfl rfl rfl rfl zbB rfl zm4 rfl (λR v' hv=>⟨by cases hv;rfl,rfl,rfl⟩) ?_;refine BO.regEnd (hI K') ?_;refine BO.inBlock (hI K') ?_;refine BO.inLoop (hI K') ?_;exact ih K' _ call _ _ _ _ _ _ _ _ _ _ _ _ _ zbH
  .simp only[cC,gI,dW,dS]
   refine BO.op (F K) (hI K) zjs rfl aQ Im (λT=>⟨.bool false,Tt.tp w T 0,.inl Pb,?_⟩);simp only[cC,gI,dW,dS];refine BO.regEnd (hI K) ?_;refine BO.seq (hI K) ?_;refine BO.cond (hI K) (t:=false) rfl rfl ?_;refine BO.exit (hI K) (k':=[]) rfl (BO.fall (hI K) (Pn K _ _ _ hL))
end
end Go.Proofs.YtfcjiloojkjaeaaGreatDoor
