/-
  Part 5 of what stands behind the last text.
-/
import Derived.Lib.Overlaps
import Derived.Lib.AppendZerosOnto
import Derived.Test.YtfcjiloojkjaeaaGreatDoorRunFPq4
set_option linter.all false
set_option maxHeartbeats 16000000
set_option maxRecDepth 100000
open Array renaming getD_eq_getD_getElem?→sZ,getElem?_eq_none→Nr,getElem?_eq_some_iff→dR,getElem?_setIfInBounds_ne→sO,getElem?_toList→C3,length_toList→Ef,replicate→nK,size_append→zae,toList_append→P3
open Bool renaming and_eq_true→iT,false_eq_true→jG,or_eq_true→C4
open Go renaming Act→uL,Addr→bC,ChanDir→Nq,Code→wS,Exit→oP,Frame→dL,FuncId→aO,Goroutine→bF,Item→dI,Oper→aX,Operand→cJ,Program→bT,Tape→kS,TypeId→aN,TypeInfo→xO,Value→aF,World→aE,execOp→aS,heap_alloc_new→gV,run_underlying→xM,setRow_heap→Mk,setRow_other→zg8,size_zeroCells→Yw,undef→aA,yielded→cS
open Go.Act renaming eval→wJ,mk→bE,put→b7
open Go.Addr renaming add_lit→Ml
open Go.Builtin renaming copy_→Ep,firstCells→Rv,zeroCells→qM
open Go.Code renaming region→F5
open Go.Conc renaming listed→xY,seen_none→Cz,stepG_value→znX
open Go.Deferred renaming ofValue→Dh
open Go.Extern renaming find→zsa,findNext→zpq
open Go.Extern.SlicesOverlaps renaming overlaps→ziO
open Go.Instr renaming lookup→Ac,slice→Wz,sliceAt→Wh,sliceBound→La,sliceBounds→Zc
open Go.Proofs.Tryz renaming checked→uB,f101→zov,func101→zw7,func102→zsB,func103→zyx,func104→zs8,func111→zrP,func120→zrx,func58→zk6,func81→zwV,func82→zsN,isAgg84→zqn,prog→aK,underlying38→Wv,underlying84→zr7
open Go.Region renaming binds→Fi,ready→uK,schedule→Md,wanted→cO
open Go.Region.linearise renaming go→Fx
open Go.RowKit.Below renaming heap_setCell→dU,refl→fK
open Go.Value renaming bool→N1,int→Lx,slice→Sg
open Go.World renaming frozen?→Jt,setChan→K9,setRow→zhk,shape?→zdJ,size_setCell→wR
open List renaming all_eq_true→vA,append_assoc→Ix,drop_of_length_le→zx5,findIdx?_eq_some_iff_getElem→zk1,getD_cons_succ→Es,getD_cons_zero→En,getD_eq_getElem?_getD→S8,getElem?_append_left→N9,getElem?_append_right→O2,getElem?_drop→Xg,getElem?_eq_getElem→nI,getElem?_eq_none→O0,getElem?_eq_some_iff→l8,getElem?_take→Oe,getElem_mem→zu7,idxOf?→zum,length_append→jZ,length_drop→x5,length_take→qO,map_append→Uo,map_cons→jD,map_drop→zqs,map_nil→sC,map_take→zqV,map_toArray→tJ,mem_append→Ju,mem_cons→lV,mem_filter→Jo,mem_of_getElem?→fI,mem_of_mem_drop→zdl,mem_range→Da,mem_singleton→yX,not_mem_nil→nM,range→fV,replicate→zyH,setIfInBounds_toArray→gF,set_cons_succ→dX,set_cons_zero→dY,takeWhile_cons→zpM,takeWhile_prefix→zun,take_append_of_le_length→Ff,take_of_length_le→zV,take_take→Pw
open Nat renaming add_sub_cancel_left→zwE,add_zero→Rp,le_refl→bL,le_succ→zfU,le_trans→eG,lt_of_lt_of_le→j5,lt_or_ge→rM,lt_trichotomy→zvW,min→zbs,min_eq_left→zvE,sub_self→zj3,zero_add→rL,zero_le→mK
open Option renaming bind_some→uF,getD_none→zuR,getD_some→vB
open Option.some renaming inj→cH
noncomputable section
namespace Go
theorem gK{P:Prop}(h:P:=by rw[hz];decide):P:=h
theorem y4{P:Prop}(h:P:=by rw[mG.o];decide):P:=h
theorem Ja{P:Prop}(h:P:=by intro s hs;cases hs;exact nM):P:=h
theorem Q6{P:Prop}(h:P:=by first|rfl|(simp only[wJ];rfl)):P:=h
theorem zgL{P:Prop}(h:P:=by show _<=((Tt.tp w' T 0).alloc _).heap.size;rw[vI];exact zfU _):P:=h
theorem Qp{P:Prop}(h:P:=by unfold aS;go_simp;try rfl):P:=h
theorem zru{P:Prop}(h:P:=by have:(bH xs).length=xs.length*2:=J2 bN.cells (s:=2) (λ_=>rfl) xs;omega):P:=h
theorem zac{P:Prop}(h:P:=by rw[HF.o];decide):P:=h
theorem ztG{P:Prop}(h:P:=by intro s hs;cases hs;show(3:Nat)∉([0]:List Nat);decide):P:=h
theorem zpY{P:Prop}(h:P:=by rw[cK,show zbs 1 (n+1-i)=1 from zvE (by omega)];rfl):P:=h
theorem zfn{P:Prop}(h:P:=by simp only[jZ];omega):P:=h
theorem ztA{P:Prop}(h:P:=by have e:b=hb:=e;subst e;exact fI (i:=0) rfl):P:=h
theorem zku{P:Prop}(h:P:=by have:=Hy.o;omega):P:=h
end Go
namespace Go.Mt
open Go.Conc Go.Tt
open Go.ConcR (KK wgBlock WgAt stA smA rd wr)
section
variable {L:Type}{C:Cx L}{l l':L}
def Cx.upK (C:Cx L)(K':Pr)(I':Pr->cI->aE->Prop):Cx L:={C with K:=K',I:=I'}
variable {m:Fm}{w:aE}
theorem BO.note (ha:C.alone=none){can:L->Prop}(rH:C.A.act l=.note can)(hc:can l')(h:BO C l' m w):BO C l m w:=by
 intro R W m' τ hw hm ht hi;have:=h R W m' τ hw hm ht hi;rw[Cx.B_none ha] at this⊢;refine cG.usr rfl ?_;unfold nH
 grind
variable {S:aO->Prop}{R:Pr}{St:Nat->Prop}
theorem dB.alR {K:Pr}{G:Gp}{W:aE}(h:dB S K R G St w W)(o:Obj):dB S K R G St w (W.alloc o):=by
 refine⟨h.inj,h.inj',λa b x=>⟨(h.lt a b x).1,by rw[vI];exact Nat.lt_succ_of_lt (h.lt a b x).2⟩,h.low,⟨h.gle.1,by rw[vI];exact Nat.le_succ_of_le h.gle.2⟩,λa b x=>?_,h.rest,h.st,h.np,h.tb⟩;obtain⟨o1,o2,h1,h2,h3⟩:=h.cont a b x;exact⟨o1,o2,h1,(Cs (h.lt a b (.inl x)).2).trans h2,h3⟩
variable {c:Nat}
theorem dB.setC {K:Pr}{G:Gp}{W:aE}(h:dB S K R G St w W)(hc:∀a,¬R a c)(cap:Nat)(L5:Array aF)(cl:Bool)(s r:Nat)(tm:Bool):dB S K R G St w (W.setChan c cap L5 cl s r tm):=by
 have cK:(W.setChan c cap L5 cl s r tm).heap.size=W.heap.size:=by simp[K9]
 refine⟨h.inj,h.inj',λa b x=>⟨(h.lt a b x).1,by rw[cK];exact(h.lt a b x).2⟩,h.low,⟨h.gle.1,by rw[cK];exact h.gle.2⟩,λa b x=>?_,h.rest,h.st,h.np,h.tb⟩;obtain⟨o1,o2,h1,h2,h3⟩:=h.cont a b x;refine⟨o1,o2,h1,?_,h3⟩;have aV:c≠b:=λe=>hc a (e▸x);simp only[K9,sO aV];exact h2
def FmW.upK {m':Fm}(h:FmW C R m m'){K':Pr}(hK:C.K.le K')(I':Pr->cI->aE->Prop):FmW (C.upK K' I') R m m':=⟨h.fn,h.todo,h.ret,bO.monoK hK h.tmps,h.pins⟩
variable {fn:aO}{tmps:Array aF}{ops:Array aX}{i:Nat}{rest:List Nat}{k:List dI}{o:aX}{e:aN}{dir:Nq}{ie:xO}{I':Nat->Pr->cI->aE->Prop}
theorem BO.makeK (hI:fE C){t:aN}(ho:ops[i]? =some o)(cF:cO o (cS ops tmps)=true)
 (hop:o.op=.makeChan t (.const (.int .i64 0))) (zfA:C.p.underlying t=some (.chan dir e)) (jK:C.p.info? e=some ie) (lK:∀s,o.dst=some s->s∉C.S) 
 (zjr:∀R τ W,C.I R τ W->wE τ R C.St->(∀a b,R a b->b<W.heap.size)->I' W.heap.size R (τ.grow W (W.alloc (.chan 0 #[] false 0 0 false))) (W.alloc (.chan 0 #[] false 0 0 false)))
 (h:∀c,BO (C.upK (C.K.add w.heap.size c) (I' c)) l ⟨fn,(b7 ⟨tmps,[]⟩ o.dst (.chan (some w.heap.size))).tmps,.inRegion ops rest::k,false⟩ (w.alloc pN)):BO C l ⟨fn,tmps,.inRegion ops (i::rest)::k,false⟩ w:=by
 intro R W m' τ hw hm ht hi;obtain⟨fn',bU,zE,zD⟩:=m';obtain rfl:=hm.fn;obtain rfl:=hm.todo;obtain rfl:=hm.ret;have hb:(C.ds.base fn).kind≠ .early:=C.ds.ok;have uY:=Jc (C:=C) hm.tmps cF;rw[nJ];refine Cx.ownQ rfl λaZ s=>?_;have dK:C.Rel R w aZ:=Cx.Rel.suf (C:=C) hw ht s;have zN:=hI.suf _ _ _ _ hi s;have e1:(aS (bE bU C.ds.ds).eval o).run C.p aZ=.ok (.value (.chan (some aZ.heap.size))) (aZ.alloc (.chan 0 #[] false 0 0 false))/\(aS (bE bU C.ds.ds).eval o).events C.p aZ #[]=#[]:=by
  obtain⟨dst,yJ,type,pos,after,guard⟩:=o;simp only at hop;subst hop;have hm:(Instr.makeChan t (.int .i64 0)).run C.p aZ=_:=run_makeChan (P:=C.p) (w:=aZ) zfA jK .i64 0 aC aC;have hv:=events_makeChan (P:=C.p) (w:=aZ) zfA jK .i64 0 aC aC #[];exact⟨run_bv hm,ev_bv hm hv⟩
 have aY:=znX (main:=C.main) (rest:=rest) (k:=k) (cs:=C.base) ho uY hb e1.1;unfold xY at aY;rw[e1.2,Cz] at aY;refine⟨_,aZ.alloc (.chan 0 #[] false 0 0 false),_,aY,rfl,⟨rfl,rfl,rfl,by rw[vI];omega,λb hb _=>Cs hb⟩,λe he=>by simp at he,?_⟩;have E7:b7 ⟨bU,C.ds.ds⟩ o.dst (.chan (some aZ.heap.size))=⟨(b7 ⟨bU,C.ds.ds⟩ o.dst (.chan (some aZ.heap.size))).tmps,C.ds.ds⟩:=by cases o.dst<;>rfl
 rw[E7,<-nJ];have aU:∀a b,R.or C.K a b->b<aZ.heap.size:=λa b x=>(dK.lt a b x).2;have eZ:dB (SF C.fs) (C.K.add w.heap.size aZ.heap.size) R (o9 C.p) C.St (w.alloc pN) (aZ.alloc (.chan 0 #[] false 0 0 false)):=dB.pushK (dB.alR dK _) (by rw[vI];omega) λa x=>by grind
 refine h aZ.heap.size R _ ⟨fn,_,_,false⟩ _ eZ ⟨rfl,rfl,rfl,Ke (C:=C.upK _ (I' aZ.heap.size)) (bO.monoK (Pr.le_add _ _ _) hm.tmps) (.chan (.some (.inr (.inr ⟨rfl,rfl⟩)))),I5 (C:=C) hm.pins lK⟩ (λa b x=>⟨(ht a b x).1,λz=>.inl ((ht a b x).2 z)⟩) (zjr R τ aZ zN ht λa b x=>aU a b (.inl x))
def cI.cut (τ:cI)(ps:List Nat):cI:={τ with own:=λb=>τ.own b/\b∉ps}
variable {I':Pr->cI->aE->Prop}{x:cJ}{g:Nat}{okv:aF->Prop}{pub:aF->List Nat}
theorem BO.sendP (ha:C.alone=none)(hI:fE C){y:cJ}{nx:aF->L}{ps:List Nat}
 (ho:ops[i]? =some o) (cF:cO o (cS ops tmps)=true) (hop:o.op=.send x y)
 (sD:dP C.fs x=true) (hx:(bE tmps []).eval x=.chan (some g)) (hK:C.K g c) (Dr:dP C.fs y=true) (lK:∀s,o.dst=some s->s∉C.S) (rH:C.A.act l=.send c okv pub nx)
 (hv:∀R W v',C.Rel R w W->VR (SF C.fs) C.K R ((bE tmps []).eval y) v'->okv v'/\pub v'=ps/\nx v'=l') 
 (qP:∀R τ W,C.I R τ W->(∀a∈ps,τ.own a/\¬τ.still a/\I8 W a/\∀b,¬R b a)/\I' R (τ.cut ps) W)
 (h1:BO (C.upK C.K I') l' ⟨fn,(b7 ⟨tmps,[]⟩ o.dst aA).tmps,.inRegion ops rest::k,false⟩ w):BO C l ⟨fn,tmps,.inRegion ops (i::rest)::k,false⟩ w:=by
 intro R W m' τ hw hm ht hi;obtain⟨fn',bU,zE,zD⟩:=m';obtain rfl:=hm.fn;obtain rfl:=hm.todo;obtain rfl:=hm.ret;have lZ:(bE bU C.ds.ds).eval x=.chan (some c):=Wl hw hK (hx▸Hb (C:=C) hm.tmps sD);have uY:=Jc (C:=C) hm.tmps cF;have hb:(C.ds.base fn).kind≠ .early:=C.ds.ok;obtain⟨k1,k2,k3⟩:=hv R W _ hw (Hb (C:=C) (d:=C.ds.ds) hm.tmps Dr);obtain⟨p1,p2⟩:=qP R τ W hi;rw[nJ,Cx.B_none ha];refine cG.usr rfl ?_;unfold nH;rw[rH];refine⟨rfl,_,.tuple #[],τ.cut ps,λaJ s=>?_,k1,λb h=>h.1,rfl,λb h=>.inl h,(λa ha=>?_),?_⟩
 .obtain⟨e1,e2⟩:=zxS (p:=C.p) (ρ:=(bE bU C.ds.ds).eval) hop lZ rfl aJ
  rw[stepG_comm ho uY hb e1];unfold xY;rw[e2,Cz]
 .rw[k2] at ha
  obtain⟨q1,q2,q3,_⟩:=p1 a ha;exact⟨q1,λe=>e.2 ha,q2,q3⟩
 .rw[k3,zb2 ho]
  rw[<-Cx.B_none ha];refine h1 R W _ (τ.cut ps) hw ⟨rfl,rfl,rfl,Ke (C:=C) hm.tmps yA,I5 (C:=C) hm.pins lK⟩ (λa b x=>⟨(ht a b x).1,λz=>⟨(ht a b x).2 z,λhb=>(p1 b hb).2.2.2 a x⟩⟩) p2
theorem BO.recvK (ha:C.alone=none)(hI:fE C){ct:aN}{ok:Bool}{z:aF}{nx:aF->L}{sh:L}
 (ho:ops[i]? =some o) (cF:cO o (cS ops tmps)=true) (hop:o.op=.recv ct x ok) (Gd:C.p.underlying ct=some (.chan dir e)) (jK:C.p.info? e=some ie) (hz:ie.zero=some z) (zh9:∀R,VR (SF C.fs) C.K R z z)
 (sD:dP C.fs x=true) (hx:(bE tmps []).eval x=.chan (some g)) (hK:C.K g c) (lK:∀s,o.dst=some s->s∉C.S) (rH:C.A.act l=.recv c okv nx sh)
 (h1:∀v,okv v->∃a,a∈C.A.got l v/\∀K' ga w',C.K.le K'->K' ga a->(w'=w\/w'=w.alloc pN)->∃vg,(∀R,VR (SF C.fs) K' R vg v)/\BO (C.upK K' C.I) (nx v) ⟨fn,(b7 ⟨tmps,[]⟩ o.dst (recvd ok vg true)).tmps,.inRegion ops rest::k,false⟩ w')
 (h2:C.A.cl l->BO C sh ⟨fn,(b7 ⟨tmps,[]⟩ o.dst (recvd ok z false)).tmps,.inRegion ops rest::k,false⟩ w):BO C l ⟨fn,tmps,.inRegion ops (i::rest)::k,false⟩ w:=by
 intro R W m' τ hw hm ht hi;obtain⟨fn',bU,zE,zD⟩:=m';obtain rfl:=hm.fn;obtain rfl:=hm.todo;obtain rfl:=hm.ret;have lZ:(bE bU C.ds.ds).eval x=.chan (some c):=Wl hw hK (hx▸Hb (C:=C) hm.tmps sD);have uY:=Jc (C:=C) hm.tmps cF;have hb:(C.ds.base fn).kind≠ .early:=C.ds.ok;have zaw:∀K' vg v' b,VR (SF C.fs) K' R vg v'->VR (SF C.fs) K' R (recvd ok vg b) (recvd ok v' b):=λK' vg v' b h=>by
  unfold recvd
  cases ok with
  |false=>exact h
  |true=>
   simp only[if_true];exact VR.tuple' (by
    have:=bO.empty (S:=SF C.fs) (K:=K') (R:=R);exact(this.push h).push (.bool b))
 rw[nJ,Cx.B_none ha];refine cG.usr rfl ?_;unfold nH;rw[rH];refine⟨rfl,z,ok,λaJ s=>?_,λv hv aJ s hg=>?_,λnE=>?_⟩
 .obtain⟨e1,e2⟩:=zuF (p:=C.p) (ρ:=(bE bU C.ds.ds).eval) hop Gd jK hz lZ aJ
  rw[stepG_comm ho uY hb e1];unfold xY;rw[e2,Cz]
 .obtain⟨a,zBl,hB⟩:=h1 v hv
  obtain⟨a1,a2,a3⟩:=hg a zBl;have dK:C.Rel R w aJ:=Cx.Rel.suf (C:=C) hw ht s;have zN:=hI.suf _ _ _ _ hi s;have go:∀K' ga w',C.K.le K'->K' ga a->(w'=w\/w'=w.alloc pN)->dB (SF C.fs) K' R (o9 C.p) C.St w' aJ->cG C.p C.ty C.Wg C.A C.Fin C.main (.usr (nx v)) 0 τ (Conc.served (G ((C.ds.base fn).at ⟨bU,C.ds.ds⟩ (.inRegion ops (i::rest)::k)) C.base) (recvd ok v true)) aJ:=λK' ga w' hle zcM jU hr=>by
   obtain⟨vg,zjB,zA9⟩:=hB K' ga w' hle zcM jU;rw[zb2 ho,<-Cx.B_none ha];exact zA9 R aJ _ τ hr ⟨rfl,rfl,rfl,Ke (C:=C.upK K' C.I) (bO.monoK hle hm.tmps) (zaw K' _ _ _ (zjB R)),I5 (C:=C) hm.pins lK⟩ ht zN
  have hR:∀b,¬R b a:=λb x=>by
   by_cases hs:C.St b
   .exact a3 ((ht b a x).1 hs)
   .exact a2 ((ht b a x).2 hs)
  by_cases hk:∃b,C.K b a
  .obtain⟨b,b9⟩:=hk
   exact go C.K b w (λ_ _ x=>x) b9 (.inl rfl) dK
  .exact go (C.K.add w.heap.size a) w.heap.size (w.alloc pN) (Pr.le_add _ _ _) (.inr ⟨rfl,rfl⟩) (.inr rfl) (dB.pushK dK a1 λb x=>x.elim (hR b) λy=>hk ⟨b,y⟩)
 .rw[zb2 ho,<-Cx.B_none ha]
  exact h2 nE R W _ τ hw ⟨rfl,rfl,rfl,Ke (C:=C) hm.tmps (zaw _ _ _ _ (zh9 R)),I5 (C:=C) hm.pins lK⟩ ht hi
theorem BO.close (ha:C.alone=none)(hI:fE C){tx:Tmp}{jM:Array aN}{nx:L}{fnf:Func}
 (ho:ops[i]? =some o) (cF:cO o (cS ops tmps)=true) (hop:o.op=.call {callee:=.builtin .close,args:=#[.tmp tx],argTypes:=jM}) (hx:(bE tmps []).eval (.tmp tx)=.chan (some g)) (hK:C.K g c) (lK:∀s,o.dst=some s->s∉C.S) (rH:C.A.act l=.close c nx)
 (hf:C.p.funcs[fn]? =some fnf) (Co:fnf.norace=false)
 (hp:∀R τ W,C.I R τ W->τ.pass c/\¬τ.own c/\¬τ.still c/\∀s r,C.I R τ (W.setChan c 0 #[] true s r false))
 (h1:BO C nx ⟨fn,(b7 ⟨tmps,[]⟩ o.dst (.tuple #[])).tmps,.inRegion ops rest::k,false⟩ w):BO C l ⟨fn,tmps,.inRegion ops (i::rest)::k,false⟩ w:=by
 intro R W m' τ hw hm ht hi;obtain⟨fn',bU,zE,zD⟩:=m';obtain rfl:=hm.fn;obtain rfl:=hm.todo;obtain rfl:=hm.ret;have lZ:(bE bU C.ds.ds).eval (.tmp tx)=.chan (some c):=Wl hw hK (hx▸Hb (C:=C) (x:=.tmp tx) hm.tmps rfl);have zW:bU[tx]?.getD aA=.chan (some c):=by simpa[wJ] using lZ
 have uY:=Jc (C:=C) hm.tmps cF;have hb:(C.ds.base fn).kind≠ .early:=C.ds.ok;obtain⟨p1,p2,p3,_⟩:=hp R τ W hi;rw[nJ,Cx.B_none ha];refine cG.usr rfl ?_;unfold nH;rw[rH];refine⟨?_,p1,λaJ s s' r' hc=>?_⟩
 .obtain⟨dst,yJ,type,pos,after,guard⟩:=o
  simp only at hop;subst hop;simp[mayWake,G,dL.at,bF.frame,ho,Dk.base]
 .have e1:(aS (bE bU C.ds.ds).eval o).run C.p aJ=.ok (.value (.tuple #[])) (aJ.setChan c 0 #[] true s' r' false)/\(aS (bE bU C.ds.ds).eval o).events C.p aJ #[]=closeEvents c:=by
   obtain⟨dst,yJ,type,pos,after,guard⟩:=o;simp only at hop;subst hop;constructor
   .simp[aS,go_sem,resolve,zW,invoke,run_close_open _ _ hc,K9]
   .simp[aS,go_sem,resolve,zW,invoke,events_close_open _ _ hc,closeEvents]
  have aY:=znX (main:=C.main) (rest:=rest) (k:=k) (cs:=C.base) ho uY hb e1.1;have hl:xY C.p (C.ds.base fn).fn ⟨bU,C.ds.ds⟩ o aJ=closeEvents c:=by
   unfold xY;rw[e1.2];refine seen_eq ?_ ?_
   .show(C.p.funcs[fn]?).any (·.norace)=false
    rw[hf];simp[Co]
   .intro e he f
    simp only[closeEvents,List.mem_toArray,lV,nM,or_false] at he
    grind
  rw[hl] at aY;refine⟨_,aY,rfl,?_⟩;have dK:C.Rel R w aJ:=Cx.Rel.suf (C:=C) hw ht s;have zN:=hI.suf _ _ _ _ hi s;have hR:∀b,¬R b c:=λb x=>by
   by_cases hs:C.St b
   .exact p3 ((ht b c x).1 hs)
   .exact p2 ((ht b c x).2 hs)
  have E7:b7 ⟨bU,C.ds.ds⟩ o.dst (.tuple #[])=⟨(b7 ⟨bU,C.ds.ds⟩ o.dst (.tuple #[])).tmps,C.ds.ds⟩:=by cases o.dst<;>rfl
  rw[E7,<-nJ,<-Cx.B_none ha];exact h1 R _ ⟨fn,_,_,false⟩ τ (dB.setC dK hR _ _ _ _ _ _) ⟨rfl,rfl,rfl,Ke (C:=C) hm.tmps (VR.tuple' .empty),I5 (C:=C) hm.pins lK⟩ ht ((hp R τ aJ zN).2.2.2 s' r')
end
end Go.Mt
namespace Go.Mt
open Go.Conc Go.Tt Go.RowKit Go.Conc.Lib Go.ConcR.Gen
open Go.ConcR (KK wgBlock WgAt stA smA rd wr mk Payload DC0)
structure IQ (W0:aE)(St:Nat->Prop)(Shun:Loc->Prop)(Wg:Nat)(SS:Nat->Prop)(R0:Pr)(Fz:Nat->Prop)(Wf:aE)(qs chs:List Nat)(R:Pr)(τ:cI)(W:aE):Prop where
 x:IM2 W0 St Shun Wg SS R0 Fz Wf chs R τ W
 pass:∀c∈qs,τ.pass c/\¬τ.own c/\¬τ.still c/\c<W.heap.size/\c≠Wg
section
variable {W0:aE}{St:Nat->Prop}{Shun:Loc->Prop}{Wg:Nat}{SS:Nat->Prop}{R0:Pr}{Fz:Nat->Prop}{Wf:aE}{qs chs:List Nat}
theorem zeU {ty:aN}(vX:∀b,b<W0.heap.size->SS b)(hF:∀b,Fz b->SS b)(pB:W0.heap.size<=Wg):IX ty Wg (IQ W0 St Shun Wg SS R0 Fz Wf qs chs):=by
 have hx:=zvd (ty:=ty) (St:=St) (Shun:=Shun) (Wg:=Wg) (R0:=R0) (Wf:=Wf) (chs:=chs) (Fz:=Fz) vX hF pB;refine⟨λR τ W aZ h s=>⟨hx.suf _ _ _ _ h.x s,λc hc=>?_⟩,λR τ W a v h ha=>⟨hx.cell _ _ _ _ _ h.x ha,λc hc=>?_⟩,λR τ W d h=>⟨hx.at_ _ _ _ d h.x,h.pass⟩,λR τ W h=>h.x.x.im.rel⟩
 .obtain⟨h1,h2,h3,h4,h5⟩:=h.pass c hc
  exact⟨h1,h2,h3,j5 h4 s.size,h5⟩
 .obtain⟨h1,h2,h3,h4,h5⟩:=h.pass c hc
  simp_all
variable {L:Type}{C:Cx L}
theorem zmD (hC:C.I=zJ C.ty C.Wg (IQ W0 St Shun C.Wg SS R0 Fz Wf qs chs))(aY:∀a,St a->C.St a)(vX:∀b,b<W0.heap.size->SS b)(hF:∀b,Fz b->SS b)(pB:W0.heap.size<=C.Wg):fE C:=by
 have h0:=im2_ok (C:={C with I:=zJ C.ty C.Wg (IM2 W0 St Shun C.Wg SS R0 Fz Wf chs)}) rfl aY vX hF pB;have hx:=zeU (ty:=C.ty) (St:=St) (Shun:=Shun) (R0:=R0) (Fz:=Fz) (Wf:=Wf) (qs:=qs) (chs:=chs) vX hF pB;refine⟨λR τ W aZ h s=>?_,λR τ W R1 W1 h ht hs=>?_⟩<;>rw[hC] at*
 .exact⟨hx.suf _ _ _ _ h.1 s,s.live h.2⟩
 .obtain⟨k1,k2⟩:=h0.step R τ W R1 W1 ⟨h.1.x,h.2⟩ ht hs
  refine⟨⟨k1,λc hc=>?_⟩,k2⟩;obtain⟨h1,h2,h3,h4,h5⟩:=h.1.pass c hc;exact⟨h1,λe=>e.elim h2 λy=>by omega,h3,j5 h4 hs.size,h5⟩
variable {R:Pr}{τ:cI}{W:aE}
theorem zwS (h:IQ W0 St Shun Wg SS R0 Fz Wf qs chs R τ W)(aU:∀a b,R a b->b<W.heap.size):
 IQ W0 St Shun Wg SS R0 Fz Wf qs (W.heap.size::chs) R (τ.grow W (W.alloc (.chan 0 #[] false 0 0 false))) (W.alloc (.chan 0 #[] false 0 0 false)):=by
 have sz:(W.alloc (.chan 0 #[] false 0 0 false)).heap.size=W.heap.size+1:=vI _ _;have zy0:=h.x.x.im.wg;refine⟨⟨⟨⟨⟨h.x.x.im.kp.os,h.x.x.im.kp.tape,h.x.x.im.kp.output,by rw[sz];have:=h.x.x.im.kp.size;omega,λb hb=>(Cs (by have:=h.x.x.im.kp.size;omega)).trans (h.x.x.im.kp.block b hb),h.x.x.im.kp.old⟩,⟨h.x.x.im.sh.old,h.x.x.im.sh.rel,λl b hl hb=>h.x.x.im.sh.new l b hl (by rw[sz] at hb;omega)⟩,h.x.x.im.still,by rw[sz];omega,λb hb=>?_,h.x.x.im.rel⟩,h.x.x.le,λb hb=>by
  obtain⟨l1,l2,l3,l4⟩:=h.x.x.fz b hb;exact⟨by rw[sz];omega,(Cs l1).trans l2,λe=>e.elim l3 λy=>by omega,l4⟩⟩,λb hb hs=>?_,λb hb=>by have:=h.x.slt b hb;rw[sz];omega,λc hc=>?_⟩,λc hc=>?_⟩
 .rcases hb with hb|⟨hb,_⟩
  .exact h.x.x.im.own b hb
  .omega
 .rcases hb with hb|⟨hb,_⟩
  .exact h.x.dis b hb hs
  .have:=h.x.slt b hs;omega
 .rcases lV.1 hc with rfl|hc
  .exact⟨.inr ⟨bL _,by rw[sz];omega⟩,Ec _ _,λa x=>by grind⟩
  .obtain⟨h1,h2,h3⟩:=h.x.ch c hc
   exact⟨.inl h1,(Cs h2.lt).trans h2,h3⟩
 .obtain⟨h1,h2,h3,h4,h5⟩:=h.pass c hc
  exact⟨h1,λe=>e.elim h2 λy=>by omega,h3,by rw[sz];omega,h5⟩
theorem iq_cut {c:Nat}(h:IQ W0 St Shun Wg SS R0 Fz Wf qs [c] R τ W):(∀a∈[c],τ.own a/\¬τ.still a/\I8 W a/\∀b,¬R b a)/\IQ W0 St Shun Wg SS R0 Fz Wf qs [] R (τ.cut [c]) W:=by
 refine⟨λa ha=>?_,⟨⟨⟨⟨h.x.x.im.kp,h.x.x.im.sh,h.x.x.im.still,h.x.x.im.wg,λb hb=>h.x.x.im.own b hb.1,h.x.x.im.rel⟩,h.x.x.le,λb hb=>let⟨l1,l2,l3,l4⟩:=h.x.x.fz b hb;⟨l1,l2,λe=>l3 e.1,l4⟩⟩,λb hb hs=>h.x.dis b hb.1 hs,h.x.slt,λc hc=>by cases hc⟩,λc hc=>?_⟩⟩
 .obtain⟨h1,h2,h3⟩:=h.x.ch a ha
  exact⟨h1,λhs=>h.x.dis a h1 hs,h2,h3⟩
 .obtain⟨h1,h2,h3⟩:=h.pass c hc
  exact⟨h1,λe=>h2 e.1,h3⟩
theorem zFc (h:IQ W0 St Shun Wg SS R0 Fz Wf qs chs R τ W){c:Nat}(hc:c∈qs)(s r:Nat)(aY:∀b,b<W0.heap.size->SS b)(hF:∀b,Fz b->SS b):IQ W0 St Shun Wg SS R0 Fz Wf qs chs R τ (W.setChan c 0 #[] true s r false):=by
 have sz:(W.setChan c 0 #[] true s r false).heap.size=W.heap.size:=by simp[K9]
 have ne:∀b,b≠c->(W.setChan c 0 #[] true s r false).heap[b]? =W.heap[b]? :=λb hb=>by simp only[K9];grind
 obtain⟨p1,p2,p3,p4,p5⟩:=h.pass c hc;refine⟨⟨⟨⟨⟨h.x.x.im.kp.os,h.x.x.im.kp.tape,h.x.x.im.kp.output,by rw[sz];exact h.x.x.im.kp.size,λb hb=>(ne b λe=>?_).trans (h.x.x.im.kp.block b hb),h.x.x.im.kp.old⟩,⟨h.x.x.im.sh.old,h.x.x.im.sh.rel,λl b hl hb=>h.x.x.im.sh.new l b hl (by rw[sz] at hb;exact hb)⟩,h.x.x.im.still,by rw[sz];exact h.x.x.im.wg,h.x.x.im.own,h.x.x.im.rel⟩,h.x.x.le,λb hb=>by
  obtain⟨l1,l2,l3,l4⟩:=h.x.x.fz b hb;refine⟨by rw[sz];exact l1,(ne b λe=>?_).trans l2,l3,l4⟩;subst e;exact p3 (by rw[h.x.x.im.still];exact hF b hb)⟩,h.x.dis,λb hb=>by rw[sz];exact h.x.slt b hb,λa ha=>?_⟩,λa ha=>by rw[sz];exact h.pass a ha⟩
 .subst e
  exact p3 (by rw[h.x.x.im.still];exact aY b hb)
 .obtain⟨h1,h2,h3⟩:=h.x.ch a ha
  exact⟨h1,(ne a λe=>p2 (e▸h1)).trans h2,h3⟩
def Kk (τ:cI)(R:Pr)(X:Nat->Bool)(N:Nat)(qs:List Nat):cI:=⟨λb=>τ.own b/\b≠N/\¬∃a,R a b/\X a=true,λb=>τ.still b\/∃a,R a b/\X a=true,λb=>b∈qs++[N]⟩
def Yb (τ:cI)(R:Pr)(X:Nat->Bool):cI:=⟨λ_=>False,λb=>τ.still b\/∃a,R a b/\X a=true,λ_=>False⟩
variable {S:aO->Prop}{K:Pr}{G:Gp}{eJ:Nat->Prop}{w:aE}{X:Nat->Bool}{N:Nat}
theorem parts_q (hT:wE τ R eJ)(h:IQ W0 St Shun Wg SS R0 Fz Wf qs [N] R τ W):znf τ (Kk τ R X N qs) (Yb τ R X) [N] W:=by
 have hx:∀b,(∃a,R a b/\X a=true)->τ.still b\/τ.own b:=λb ⟨a,h,_⟩=>by
  by_cases hs:eJ a
  .exact .inl ((hT a b h).1 hs)
  .exact .inr ((hT a b h).2 hs)
 obtain⟨n1,n2,n3⟩:=h.x.ch N (yX.2 rfl);refine⟨λb hb=>?_,λb hb=>?_,λb hb=>?_,λb hb=>⟨id,?_,id⟩,λb hb=>hb.elim,λa ha=>?_⟩
 .rcases hb with hb|hb
  .exact hb.1
  .exact hb.elim
 .rcases hb with(hb|hb)|hb|hb
  .exact .inl hb
  .exact hx b hb
  .exact .inl hb
  .exact hx b hb
 .rcases hb with hb|hb
  .rcases Ju.1 hb with hb|hb
   .exact .inl (h.pass b hb).1
   simp_all
  .exact hb.elim
 .rintro(hs|hs)
  .exact h.x.dis b hb.1 hs
  .exact hb.2.2 hs
 .obtain rfl:=yX.1 ha
  refine⟨n1,n2,λh=>h.2.1 rfl,?_,id,?_⟩
  .rintro(hs|⟨g,hg,_⟩)
   .exact h.x.dis a n1 hs
   .exact n3 g hg
  .rintro(hs|⟨g,hg,_⟩)
   .exact h.x.dis a n1 hs
   .exact n3 g hg
theorem zBB (hw:dB S K R G eJ w W)(hT:wE τ R eJ)(hN:∀a,¬R a N):wE (Kk τ R X N qs) R (λa=>eJ a\/X a=true):=λa b x=>by
 refine⟨λh=>?_,λh=>?_⟩
 .rcases h with h|h
  .exact .inl ((hT a b x).1 h)
  .exact .inr ⟨a,x,h⟩
 .refine⟨(hT a b x).2 λhs=>h (.inl hs),λe=>hN a (e▸x),?_⟩
  rintro⟨a',x',h'⟩;obtain rfl:=hw.inj' a a' b (.inl x) (.inl x');exact h (.inr h')
def zF3:wE (Yb τ R X) (rX R X) (λa=>X a=true):=λa b x=>⟨λh=>.inr ⟨a,x.1,x.2⟩,λh=>absurd x.2 h⟩
theorem iq_qm (hw:dB S K R G eJ w W)(hT:wE τ R eJ)(h:IQ W0 St Shun Wg SS R0 Fz Wf qs [N] R τ W):IQ W0 St Shun Wg (Kk τ R X N qs).still R (G7 R eJ X) W (qs++[N]) [] R (Kk τ R X N qs) W:=by
 obtain⟨n1,n2,n3⟩:=h.x.ch N (yX.2 rfl);have hx:∀b,(∃a,R a b/\X a=true)->∀c∈qs,b≠c:=λb ⟨a,h',_⟩ c hc e=>by
  subst e;obtain⟨_,p2,p3,_⟩:=h.pass b hc;by_cases hs:eJ a
  .exact p3 ((hT a b h').1 hs)
  .exact p2 ((hT a b h').2 hs)
 refine⟨⟨⟨⟨h.x.x.im.kp,h.x.x.im.sh,rfl,h.x.x.im.wg,λb hb=>h.x.x.im.own b hb.1,h.x.x.im.rel⟩,.refl R,λb hb=>by
  obtain⟨a,x,hh⟩:=hb;refine⟨(hw.lt a b (.inl x)).2,rfl,λho=>?_,h.x.x.im.rel a b x⟩;rcases hh with hh|hh
  .exact h.x.dis b ho.1 ((hT a b x).1 hh)
  .exact ho.2.2 ⟨a,x,hh⟩⟩,λb hb hs=>?_,λb hb=>?_,λc hc=>by cases hc⟩,λc hc=>?_⟩
 .rcases hs with hs|hs
  .exact h.x.dis b hb.1 hs
  .exact hb.2.2 hs
 .rcases hb with hb|⟨a,x,_⟩
  .exact h.x.slt b hb
  .exact(hw.lt a b (.inl x)).2
 .refine⟨hc,?_⟩
  rcases Ju.1 hc with kQ|kQ
  .obtain⟨_,p2,p3,p4,p5⟩:=h.pass c kQ
   exact⟨λe=>p2 e.1,λe=>e.elim p3 λy=>hx c y c kQ rfl,p4,p5⟩
  .obtain rfl:=yX.1 kQ
   refine⟨λe=>e.2.1 rfl,?_,n2.lt,h.x.x.im.own c n1⟩;rintro(hs|⟨g,hg,_⟩)
   .exact h.x.dis c n1 hs
   .exact n3 g hg
def tauWm (τ:cI):cI:=⟨λ_=>False,τ.still,λ_=>False⟩
theorem parts_w (h:IQ W0 St Shun Wg SS R0 Fz Wf qs [] R τ W):znf τ (tauWm τ) τ [] W:=
 ⟨λb hb=>hb.elim (λx=>x.elim) id,λb hb=>.inl (hb.elim id id),λb hb=>hb.elim (λx=>x.elim) .inl,λb hb=>hb.elim,λb hb=>⟨λhs=>h.x.dis b hb hs,id⟩,λa ha=>by cases ha⟩
end
section
variable [Payload]{Lk:WgLink}
variable {L:Type}{C:Cx L}{l:L}{I0:Pr->cI->aE->Prop}
theorem BO.doneD (H:WgLib C.p Lk)(ha:C.alone=none)(zgC:C.main=false)(Ck:C.ty=Lk.tWg)(zfQ:C.I=zJ Lk.tWg C.Wg I0)(hX:IX Lk.tWg C.Wg I0)(zzX:C.ds=⟨[dcall Lk.done #[.pointer (some ⟨C.Wg,0,none⟩)]],.deferred,aQ⟩)(sS:C.base=[wQ C.p])
 {f:aO} {fn:Func} (hf:C.p.funcs[f]? =some fn) (hr:fn.results=#[]) (rH:C.A.act l=.done) {T:Array aF} {todo:List dI} {w:aE} (sX:∀R τ W,C.Rel R w W->I0 R τ W->C.A.dep l W):BO C l ⟨f,T,todo,true⟩ w:=by
 intro R W m' τ hw hm ht hi;obtain⟨fn',T',zE,zD⟩:=m';obtain rfl:=hm.fn;obtain rfl:=hm.todo;obtain rfl:=hm.ret;rw[zfQ] at hi;have kf:=zoZ (C:=C) (w:=w) Ck hX ht;rw[zi8,Cx.B_none ha,zgC,Ck,zzX,sS];refine Nk rfl rfl (λaZ s=>stepG_unwind_enter rfl H.f_done (nm_done Lk) rfl) λaZ s=>?_;exact doneW (F:=λW=>C.Rel R w W/\I0 R τ W) (Fin:=C.Fin) H rH kf (λW' h=>sX R τ W' h.1 h.2) (c:={(baseD f).at ⟨T',[]⟩ todo with mode:=.returning}) (cs:=[wQ C.p]) rfl (zEO hf hr T' todo) aZ ⟨kf.suf _ _ s ⟨hw,hi.1⟩,s.live hi.2⟩
end
variable [Payload]{Lk:WgLink}
section
variable {L:Type}{p:bT}{A:jN L}{Fin:bF->aE->Prop}{Wg:Nat}{l:L}
theorem zFd (H:WgLib p Lk)(rH:A.act l=.wait)(Ms:∀(n:Nat) g w,Goes p true AtRel DC0 Fin n g w->Fin g w){fn:aO}{T:Array aF}{zDM ops:Array aX}{id s:Nat}{o:aX}{jM:Array aN}{tail:Code}{base:List dL}{τ:cI}{W:aE}
 (zm2:ops=#[o]) (hg:o.guard=none) (hop:o.op=.call ⟨.value (.func Lk.wait),#[.tmp s],jM⟩) (hs:T.getD s aA=.pointer (some ⟨Wg,0,none⟩)) (nU:WgLive Lk.tWg Wg W)
 (h:∀Wn d,zds A Wn->Fin (G ((Dk.nil.base fn).at ⟨(b7 ⟨T,[]⟩ o.dst (.tuple #[])).tmps,[]⟩ [.inRegion ops [],.code tail]) base) (Wn.at d)):
 cG p Lk.tWg Wg A Fin true (.usr l) 0 τ (G ((Dk.nil.base fn).at ⟨T,[]⟩ (.inRegion zDM []::[.code (.seq (.region id ops false) tail)])) base) W:=by
 subst zm2;have ho:(#[o]:Array aX)[0]? =some o:=rfl;have cF:cO o (cS #[o] T)=true:=by unfold cO;rw[hg]
 have hb:=Dk.nil.ok;have E7:∀v,b7 ⟨T,[]⟩ o.dst v=⟨(b7 ⟨T,[]⟩ o.dst v).tmps,[]⟩:=λv=>by cases o.dst<;>rfl
 have hr:fV (#[o]:Array aX).size=[0]:=rfl;refine Nk rfl rfl (λaZ s1=>stepG_region_end) λW1 s1=>?_;refine Nk rfl rfl (λaZ s1=>stepG_seq) λW2 s2=>?_;refine Nk rfl rfl (λaZ s1=>stepG_region) λW3 s3=>?_;rw[hr];refine Nk rfl rfl (g':=G ((Conc.base Lk.wait).at ⟨#[.pointer (some ⟨Wg,0,none⟩),aA,aA,aA,aA,aA,aA,aA,aA,aA,aA,aA,aA,aA,aA,aA,aA,aA,aA,aA,aA,aA,aA,aA,aA,aA,aA,aA,aA,aA,aA,aA,aA,aA,aA,aA,aA,aA,aA,aA,aA,aA,aA,aA,aA,aA,aA,aA,aA,aA,aA,aA,aA,aA,aA,aA,aA,aA,aA,aA,aA,aA,aA,aA,aA,aA,aA,aA,aA,aA,aA,aA,aA,aA,aA,aA,aA,aA,aA,aA,aA,aA,aA,aA],[]⟩ [.code (body_wait Lk)]) ((Dk.nil.base fn).at ⟨T,[]⟩ (.inRegion #[o] [0]::[.code tail])::base)) (λG0 s4=>?_) λG0 s4=>?_
 .obtain⟨x1,x2⟩:=zdH (p:=p) (o:=o) hop (ρ:=(bE T []).eval) (λg=>rfl) H.f_wait rfl rfl G0
  have rS:(#[.tmp s]:Array cJ).map (bE T []).eval=#[.pointer (some ⟨Wg,0,none⟩)]:=by simp only[tJ,jD,sC,wJ];rw[hs]
  rw[rS] at x1;have zcC:=stepG_enter (main:=true) (b:=Dk.nil.base fn) (a:=⟨T,[]⟩) (rest:=[]) (cs:=base) (k:=[.code tail]) ho cF hb x1;rw[zcC];unfold xY;rw[x2,Cz,zzH H]
 .have kf:=G6.triv Lk.tWg Wg τ
  refine Sw (A:=A) (b₀:=Dk.nil.base fn) (a₀:=⟨T,[]⟩) (ops₀:=#[o]) (i₀:=0) (rest₀:=[]) (k₀:=[.code tail]) (cs:=base) (Fin:=Fin) (l:=l) (Wg:=Wg) H rH kf Ms (λWn _ _ hD d=>?_) G0 ⟨trivial,s4.live (s3.live (s2.live (s1.live nU)))⟩;have:=h Wn d hD;rw[ho];simp only[uF];rw[E7];exact this
end
end Go.Mt
namespace Go.Mt
open Go.Conc Go.Tt
open Go.ConcR (KK wgBlock WgAt stA smA rd wr)
structure pY where
 p:bT
 gs:aO->Bool
 fs:aO->Bool
 ty:aN
 Wg:Nat
 N:Nat
 W:List fC
 D:aE->Prop
 Fin:bF->aE->Prop
 St:Nat->Prop
 W0:aE
 StI:Nat->Prop
 Shun:Loc->Prop
 SS:Nat->Prop
 R0:Pr
 Fz:Nat->Prop
 Wf:aE
 qs:List Nat
def pY.I (d:pY)(Q:Pr->Prop)(chs:List Nat):Pr->cI->aE->Prop:=λR τ W=>zJ d.ty d.Wg (IQ d.W0 d.StI d.Shun d.Wg d.SS d.R0 d.Fz d.Wf d.qs chs) R τ W/\Q R
def pY.cx (d:pY)(K:Pr)(Q:Pr->Prop)(chs:List Nat)(base:List dL)(ds:Dk)(pin:List (Nat×aF)):Cx gN:=
 {p:=d.p,gs:=d.gs,fs:=d.fs,ty:=d.ty,Wg:=d.Wg,A:=Cr d.N d.W d.D,Fin:=d.Fin,main:=false,base:=base,ds:=ds,K:=K,St:=d.St,I:=d.I Q chs,pin:=pin}
def Up (Q:Pr->Prop):Prop:=∀R R':Pr,R.le R'->Q R->Q R'
structure pY.Ok (d:pY):Prop where
 st:∀a,d.StI a->d.St a
 ss:∀b,b<d.W0.heap.size->d.SS b
 fz:∀b,d.Fz b->d.SS b
 low:d.W0.heap.size<=d.Wg
 fit:vZ (PS d.p d.gs) d.fs
theorem pY.sub_eq (d:pY)(K:Pr)(Q:Pr->Prop)(chs:List Nat)(base:List dL)(ds:Dk)(pin:List (Nat×aF))(m':Fm)(oO:Pr):
 (d.cx K Q chs base ds pin).sub m' oO=d.cx K (λR=>Q R/\oO.le R) chs (fx [] ds m'::base) .nil []:=by
 have e:(λR τ W=>d.I Q chs R τ W/\oO.le R)=d.I (λR=>Q R/\oO.le R) chs:=by
  funext R τ W;exact propext and_assoc
 unfold Cx.sub pY.cx;simp only;rw[e]
def Up.and {Q:Pr->Prop}(h:Up Q)(oO:Pr):Up (λR=>Q R/\oO.le R):=λR R' hl hq=>⟨h R R' hl hq.1,hq.2.trans hl⟩
section
variable {d:pY}{K:Pr}{Q:Pr->Prop}{chs:List Nat}{base:List dL}{ds:Dk}{pin:List (Nat×aF)}
theorem pY.Ok.iok (H:d.Ok)(hQ:Up Q):fE (d.cx K Q chs base ds pin):=by
 have h0:=zmD (C:={d.cx K Q chs base ds pin with I:=zJ d.ty d.Wg (IQ d.W0 d.StI d.Shun d.Wg d.SS d.R0 d.Fz d.Wf d.qs chs)}) rfl H.st H.ss H.fz H.low;exact⟨λR τ W aZ h s=>⟨h0.suf R τ W aZ h.1 s,h.2⟩,λR τ W R1 W1 h ht hs=>⟨h0.step R τ W R1 W1 h.1 ht hs,hQ R R1 hs.le h.2⟩⟩
structure WS where
 chs:List Nat
 K:Pr
 l:gN
 T:Array aF
 w:aE
def pY.bo (d:pY)(Q:Pr->Prop)(base:List dL)(s:WS)(f:aO)(kk:List dI)(ret:Bool):Prop:=BO (d.cx s.K Q s.chs base .nil []) s.l ⟨f,s.T,kk,ret⟩ s.w
def CW (d:pY)(B:List Nat)(f:aO)(c:Code)(s:WS)(Φ:oP->WS->Prop):Prop:=
 ∀(Q:Pr->Prop) (base:List dL) (kk:List dI),Up Q->(∀id∈B,∃k2,exitTo id kk=some k2)->(∀s',s.K.le s'.K->Φ .normal s'->d.bo Q base s' f kk false)->(∀id k2 s',s.K.le s'.K->exitTo id kk=some k2->Φ (.exit id) s'->d.bo Q base s' f k2 false)->
  (∀s' todo,s.K.le s'.K->Φ .ret s'->d.bo Q base s' f todo true)->d.bo Q base s f (.code c::kk) false
def CR (d:pY)(f:aO)(ops:Array aX)(is:List Nat)(s:WS)(Φ:WS->Prop):Prop:=
 ∀(Q:Pr->Prop) (base:List dL) (kk:List dI),Up Q->(∀s',s.K.le s'.K->Φ s'->d.bo Q base s' f kk false)->d.bo Q base s f (.inRegion ops is::kk) false
def xH (K:Pr):K.le K:=λ_ _ x=>x
def wH {K K' zyL:Pr}(h:K.le K')(h':K'.le zyL):K.le zyL:=λ_ _ x=>h' _ _ (h _ _ x)
variable {f:aO}{s:WS}{Φ Ψ:oP->WS->Prop}{B:List Nat}{c:Code}
def CW.skip (H:d.Ok)(h:Φ .normal s):CW d B f .skip s Φ:=λQ base kk hQ hB h1 h2 h3=>BO.skip (H.iok hQ) (h1 s (xH _) h)
def CW.ret (H:d.Ok)(h:Φ .ret s):CW d B f .ret s Φ:=λQ base kk hQ hB h1 h2 h3=>BO.ret (H.iok hQ) (h3 s _ (xH _) h)
def CW.seq (H:d.Ok){a b:Code}(h:CW d B f a s (λe s'=>match e with| .normal=>CW d B f b s' Φ|e=>Φ e s')):CW d B f (.seq a b) s Φ:=λQ base kk hQ hB h1 h2 h3=>
 BO.seq (H.iok hQ) (h Q base (.code b::kk) hQ (λid hid=>hB id hid) (λs' l x=>x Q base kk hQ hB (λs2 l2=>h1 s2 (wH l l2)) (λid k2 s2 l2=>h2 id k2 s2 (wH l l2)) (λs2 todo l2=>h3 s2 todo (wH l l2)))
  (λid k2 s' l e x=>h2 id k2 s' l e x) (λs' todo l x=>h3 s' todo l x))
def CW.cond (H:d.Ok){x:cJ}{a b:Code}{t:Bool}(hx:dP d.fs x=true)(hc:(bE s.T []).eval x=.bool t)(h:CW d B f (if t then a else b) s Φ):CW d B f (.cond x a b) s Φ:=λQ base kk hQ hB h1 h2 h3=>
 BO.cond (H.iok hQ) hx hc (h Q base kk hQ hB h1 h2 h3)
theorem CW.exit (H:d.Ok){id:Nat}(oK:id∈B)(h:Φ (.exit id) s):CW d B f (.exit id) s Φ:=λQ base kk hQ hB h1 h2 h3=>by
 obtain⟨k2,e⟩:=hB id oK;exact BO.exit (H.iok hQ) e (h2 id k2 s (xH _) e h)
theorem CW.block (H:d.Ok){id:Nat}(h:CW d (id::B) f c s (λe s'=>match e with| .normal=>Φ .normal s'| .exit i=>if i=id then Φ .normal s' else Φ (.exit i) s'|e=>Φ e s')):CW d B f (.block id c) s Φ:=λQ base kk hQ hB h1 h2 h3=>by
 refine BO.block (H.iok hQ) (h Q base (.inBlock id::kk) hQ (λi hi=>?_) (λs' l x=>BO.inBlock (H.iok hQ) (h1 s' l x)) (λi k2 s' l e x=>?_) (λs' todo l x=>h3 s' todo l x))
 .by_cases e:i=id
  .subst e;exact⟨kk,by simp[exitTo]⟩
  .rcases lV.1 hi with hi|hi
   .exact absurd hi e
   .obtain⟨k2,h2⟩:=hB i hi
    exact⟨k2,by simp only[exitTo];rw[if_neg tL];exact h2⟩
 .simp only[exitTo] at e
  by_cases e1:i=id
  .simp_all
  .grind
theorem CW.loop (H:d.Ok)(Inv:Nat->WS->Prop)(vS:∀n s,Inv n s->CW d B f c s (λe s'=>match e with| .normal=>∃n',n'<n/\Inv n' s'|e=>Φ e s')){n:Nat}(h0:Inv n s):CW d B f (.loop c) s Φ:=λQ base kk hQ hB h1 h2 h3=>by
 refine BO.loop (H.iok hQ) ?_;have key:∀n s2,s.K.le s2.K->Inv n s2->d.bo Q base s2 f (.code c:: .inLoop c::kk) false:=by
  intro n
  induction n using Nat.strongRecOn with
  |ind n ih=>
   intro s2 hl hi;refine vS n s2 hi Q base (.inLoop c::kk) hQ (λid hid=>hB id hid) (λs' l x=>?_) (λid k2 s' l e x=>h2 id k2 s' (wH hl l) e x) (λs' todo l x=>h3 s' todo (wH hl l) x);obtain⟨n',aU,kN⟩:=x;exact BO.inLoop (H.iok hQ) (ih n' aU s' (wH hl l) kN)
 exact key n s (xH _) h0
def CW.piece (H:d.Ok)(hc:qG d.p ⟨d.fs,d.gs,true⟩ c=true)(hf:wM d.p f)(vM:∀T,Code.wp d.p c (λe a' w'=>e=.normal/\Φ .normal {s with T:=a'.tmps,w:=w'}) ⟨s.T,[]⟩ (Tt.tp s.w T 0)):CW d B f c s Φ:=λQ base kk hQ hB h1 h2 h3=>
 BO.piece H.fit (H.iok hQ) hc hf (zDg c hc) λT=>Code.wp_mono (λe a' w' h=>⟨h.1,h1 {s with T:=a'.tmps,w:=w'} (xH _) h.2⟩) (vM T)
def CW.reg (H:d.Ok){id:Nat}{ops:Array aX}(is:List Nat)(hr:fV ops.size=is)(h:CR d f ops is s (λs'=>Φ .normal s')):CW d B f (.region id ops false) s Φ:=λQ base kk hQ hB h1 h2 h3=>
 BO.regs (H.iok hQ) is hr (h Q base kk hQ (λs' l x=>h1 s' l x))
section
variable {ops:Array aX}{i:Nat}{rest is:List Nat}{Φ:WS->Prop}{o:aX}
def CR.nil (H:d.Ok)(h:Φ s):CR d f ops [] s Φ:=λQ base kk hQ h1=>BO.regEnd (H.iok hQ) (h1 s (xH _) h)
theorem CR.op (H:d.Ok)(ho:ops[i]? =some o)(cF:cO o (cS ops s.T)=true)(bM:s9 d.p ⟨d.fs,d.gs,true⟩ o.op=true)
 (hx:∀T,∃v w',((aS (bE s.T []).eval o).run d.p (Tt.tp s.w T 0)=.ok (.value v) w'\/((aS (bE s.T []).eval o).run d.p (Tt.tp s.w T 0)=.ok .skip w'/\v=aA))/\CR d f ops rest {s with T:=(b7 ⟨s.T,[]⟩ o.dst v).tmps,w:=w'} Φ):CR d f ops (i::rest) s Φ:=λQ base kk hQ h1=>
 BO.op H.fit (H.iok hQ) ho cF bM (λ_ _=>nM) λT=>by
  obtain⟨v,w',e,h⟩:=hx T;exact⟨v,w',e,h Q base kk hQ h1⟩
structure CF (d:pY)(g:aO)(args:Array aF)(K:Pr)(l:gN)(w:aE)(Ψ:Pr->gN->aF->aE->Prop):Prop where
 ex:∃fnf cf,d.p.funcs[g]? =some fnf/\(fnf.name== "runtime.NumGoroutine")=false/\fnf.body=some cf/\Dq fnf.results.toList/\
  CW d [] g cf ⟨[],K,l,args++nK (fnf.ntmps-args.size) aA,w⟩ (λe s'=>(e=.normal\/e=.ret)/\s'.chs=[]/\∃v,(oC fnf.results.toList s'.T).run d.p s'.w=.ok v s'.w/\Ψ s'.K s'.l v s'.w)
theorem CR.call (H:d.Ok){g:aO}{args:Array cJ}{jM:Array aN}{Ψ:Pr->gN->aF->aE->Prop}(ho:ops[i]? =some o)(cF:cO o (cS ops s.T)=true)(hop:o.op=.call ⟨.value (.func g),args,jM⟩)(rS:args.all (dP d.fs)=true)(sG:s.chs=[])
 (hc:CF d g (args.map (bE s.T []).eval) s.K s.l s.w Ψ) (hk:∀K' l' v w',s.K.le K'->Ψ K' l' v w'->CR d f ops rest ⟨[],K',l',(b7 ⟨s.T,[]⟩ o.dst v).tmps,w'⟩ Φ):CR d f ops (i::rest) s Φ:=λQ base kk hQ h1=>by
 obtain⟨chs,K,l,T,w⟩:=s;simp only at*;subst sG;obtain⟨fnf,cf,g1,g2,g3,g4,g5⟩:=hc.ex;refine BO.callN (H.iok hQ) ho cF hop (Callee.static _ _) rS g1 g2 g3 g4 λoO m' hm=>?_;rw[pY.sub_eq];have fin:∀(s':WS) todo,K.le s'.K->(s'.chs=[]/\∃v,(oC fnf.results.toList s'.T).run d.p s'.w=.ok v s'.w/\Ψ s'.K s'.l v s'.w)->d.bo (λR=>Q R/\oO.le R) (fx [] .nil m'::base) s' g todo true:=λs' todo hl ⟨h2,v,h3,h4⟩=>by
  obtain⟨zFL,K',l',T',w'⟩:=s';simp only at*;subst h2;unfold pY.bo;simp only;rw[<-pY.sub_eq];refine BO.retN (C:=d.cx K' Q [] base .nil []) (H.iok hQ) (hm.upK hl _) rfl rfl (λ_ _=>nM) g1 h3 ?_;have:=hk K' l' v w' hl h4 Q base kk hQ (λs' l2 x=>h1 s' (wH hl l2) x);unfold pY.bo at this;simp only[Fm.fin,ho,uF]
  cases hd:o.dst with
  |none=>rw[hd] at this;exact this
  |some s=>rw[hd] at this;exact this
 have e:(#[]:Array aF)++args.map (bE T []).eval++ #[]=args.map (bE T []).eval:=aQ;rw[e];refine g5 (λR=>Q R/\oO.le R) (fx [] .nil m'::base) [] (hQ.and oO) (λ_ h=>by cases h) (λs' hl x=>BO.fall (H.iok (hQ.and oO)) (fin s' [] hl x.2)) (λid k2 s' hl ee x=>by cases ee) (λs' todo hl x=>fin s' todo hl x.2)
variable {e:aN}{dir:Nq}{ie:xO}
theorem CR.make (H:d.Ok){t:aN}(ho:ops[i]? =some o)(cF:cO o (cS ops s.T)=true)(hop:o.op=.makeChan t (.const (.int .i64 0)))(zfA:d.p.underlying t=some (.chan dir e))(jK:d.p.info? e=some ie)(sG:s.chs=[])
 (h:∀c,CR d f ops rest ⟨[c],s.K.add s.w.heap.size c,s.l,(b7 ⟨s.T,[]⟩ o.dst (.chan (some s.w.heap.size))).tmps,s.w.alloc pN⟩ Φ):CR d f ops (i::rest) s Φ:=λQ base kk hQ h1=>by
 obtain⟨chs,K,l,T,w⟩:=s;simp only at*;subst sG;refine BO.makeK (H.iok hQ) ho cF hop zfA jK (λ_ _=>nM) (I':=λc=>d.I Q [c]) (λR τ W hi ht aU=>?_) λc=>h c Q base kk hQ (λs' l2 x=>h1 s' (wH (Pr.le_add _ _ _) l2) x);obtain⟨⟨hi,hl⟩,hq⟩:=hi;refine⟨⟨zwS hi aU,?_⟩,hq⟩;obtain⟨st,sm,hx⟩:=hl;have lZ:=hx;exact⟨st,sm,(Cs (dR.1 lZ).1).trans lZ⟩
variable {x:cJ}{anz:Int}
theorem CR.ask (H:d.Ok){y:cJ}{k q g a ga:Nat}{kd cl:Int}(ho:ops[i]? =some o)(cF:cO o (cS ops s.T)=true)(hop:o.op=.send x y)(sD:dP d.fs x=true)(Dr:dP d.fs y=true)(hl:s.l=.wk d.qs k)(hW:d.W[k]? =some (.ask q kd cl anz))(sG:s.chs=[a])
 (hx:(bE s.T []).eval x=.chan (some g)) (hg:s.K g (qa d.qs q)) (hy:(bE s.T []).eval y=.agg #[.int .i64 kd,.int .i64 cl,.chan (some ga)]) (ha:s.K ga a)
 (h:CR d f ops rest ⟨[],s.K,.wr d.qs k a,(b7 ⟨s.T,[]⟩ o.dst aA).tmps,s.w⟩ Φ):CR d f ops (i::rest) s Φ:=λQ base kk hQ h1=>by
 obtain⟨chs,K,l,T,w⟩:=s;simp only at*;subst sG hl;refine BO.sendP (C:=d.cx K Q [a] base .nil []) rfl (H.iok hQ) ho cF hop sD hx hg Dr (λ_ _=>nM) (c:=qa d.qs q) (okv:=λv=>∃a,v=quV kd cl a) (pub:=O9) (nx:=Z9 d.qs k) (ps:=[a]) (I':=d.I Q []) ?_ (λR W v' hw hv=>?_) (λR τ W hi=>?_) (h Q base kk hQ h1)
 .show eP d.N d.W (.wk d.qs k)=_
  simp only[eP,hW]
 .rw[hy] at hv
  obtain rfl:v'=quV kd cl a:=by
   cases hv with
   |agg e1 e2=>
    rename_i bZ;obtain⟨l'⟩:=bZ
    match l',e1 with
    |[v0,v1,v2],_=>
     have h0:=e2 0 _ v0 rfl rfl;have h1:=e2 1 _ v1 rfl rfl;have h2:=e2 2 _ v2 rfl rfl;have h3:=Wl hw ha h2;cases h0;cases h1;subst h3;rfl
  exact⟨⟨a,rfl⟩,rfl,rfl⟩
 .obtain⟨⟨hi,hl⟩,hq⟩:=hi
  obtain⟨k1,k2⟩:=iq_cut hi;exact⟨k1,⟨k2,hl⟩,hq⟩
theorem CR.ans (H:d.Ok){ct:aN}{k q a ga:Nat}{kd cl:Int}(ho:ops[i]? =some o)(cF:cO o (cS ops s.T)=true)(hop:o.op=.recv ct x false)(Gd:d.p.underlying ct=some (.chan dir e))(jK:d.p.info? e=some ie)(hz:ie.zero=some (.int .i64 0))
 (sD:dP d.fs x=true) (hl:s.l=.wr d.qs k a) (hW:d.W[k]? =some (.ask q kd cl anz)) (sG:s.chs=[]) (hx:(bE s.T []).eval x=.chan (some ga)) (ha:s.K ga a)
 (h:CR d f ops rest ⟨[],s.K,.wk d.qs (k+1),(b7 ⟨s.T,[]⟩ o.dst (.int .i64 anz)).tmps,s.w⟩ Φ):CR d f ops (i::rest) s Φ:=λQ base kk hQ h1=>by
 obtain⟨chs,K,l,T,w⟩:=s;simp only at*;subst sG hl;refine BO.recv (C:=d.cx K Q [] base .nil []) rfl (H.iok hQ) ho cF hop Gd jK hz (λ_=>.int _ _) sD hx ha (λ_ _=>nM) (okv:=Zm d.W k) (nx:=λ_=>.wk d.qs (k+1)) (sh:=.oD) rfl (λv hv=>?_) (λhc=>hc.elim);unfold Zm at hv;rw[hW] at hv;simp only at hv;subst hv;exact⟨.int .i64 anz,λ_=>.int _ _,h Q base kk hQ h1⟩
theorem CR.shut (H:d.Ok){tx:Tmp}{jM:Array aN}{k q g:Nat}{fnf:Func}(ho:ops[i]? =some o)(cF:cO o (cS ops s.T)=true)(hop:o.op=.call {callee:=.builtin .close,args:=#[.tmp tx],argTypes:=jM})(hf:d.p.funcs[f]? =some fnf)(Co:fnf.norace=false)
 (hl:s.l=.wk d.qs k) (hW:d.W[k]? =some (.shut q)) (hq:q<d.qs.length) (sG:s.chs=[]) (hx:(bE s.T []).eval (.tmp tx)=.chan (some g)) (hg:s.K g (qa d.qs q))
 (h:CR d f ops rest ⟨[],s.K,.wk d.qs (k+1),(b7 ⟨s.T,[]⟩ o.dst (.tuple #[])).tmps,s.w⟩ Φ):CR d f ops (i::rest) s Φ:=λQ base kk hQ h1=>by
 obtain⟨chs,K,l,T,w⟩:=s;simp only at*;subst sG hl;have hm:qa d.qs q∈d.qs:=by
  unfold qa;rw[S8,nI hq];exact zu7 hq
 refine BO.close (C:=d.cx K Q [] base .nil []) rfl (H.iok hQ) ho cF hop hx hg (λ_ _=>nM) (c:=qa d.qs q) (nx:=.wk d.qs (k+1)) ?_ hf Co (λR τ W hi=>?_) (h Q base kk hQ h1)
 .show eP d.N d.W (.wk d.qs k)=_
  simp only[eP,hW]
 .obtain⟨⟨hi,hl⟩,Ni⟩:=hi
  obtain⟨p1,p2,p3,p4,p5⟩:=hi.pass _ hm;refine⟨p1,p2,p3,λs r=>⟨⟨zFc hi hm s r H.ss H.fz,?_⟩,Ni⟩⟩;obtain⟨st,sm,hx⟩:=hl;have lZ:=hx;refine⟨st,sm,?_⟩;show(W.setChan _ _ _ _ _ _ _).heap[d.Wg]? =_;simp only[K9,sO p5];exact lZ
end
end
section
variable {L:Type}{C:Cx L}{l:L}
theorem BO.draw (hI:fE C){fn:aO}{tmps:Array aF}{k:List dI}{w:aE}{id:Nat}{ops:Array aX}(h:∀n,BO C l ⟨fn,tmps,.inRegion ops (Md (C.p.follows .mixedOrders) ops n)::k,false⟩ w):BO C l ⟨fn,tmps,.code (.region id ops true)::k,false⟩ w:=by
 intro R W m' τ hw hm ht hi;obtain⟨fn',bU,zE,zD⟩:=m';obtain rfl:=hm.fn;obtain rfl:=hm.todo;obtain rfl:=hm.ret;rw[nJ];refine Cx.ownQ rfl λaZ s=>?_;have dK:C.Rel R w aZ:=Cx.Rel.suf (C:=C) hw ht s;have zN:=hI.suf _ _ _ _ hi s;have aY:=stepG_region_draw (P:=C.p) (main:=C.main) (b:=C.ds.base fn) (a:=⟨bU,C.ds.ds⟩) (k:=k) (cs:=C.base) (w:=aZ) (id:=id) (ops:=ops);refine⟨_,{aZ with drawn:=aZ.drawn+1},_,aY,rfl,⟨rfl,rfl,rfl,bL _,λb _ _=>rfl⟩,λe he=>by simp at he,?_⟩;rw[<-nJ];refine h _ R _ ⟨fn,bU,_,false⟩ _ ⟨dK.inj,dK.inj',dK.lt,dK.low,dK.gle,dK.cont,dK.rest,dK.st,dK.np,dK.tb⟩ ⟨rfl,rfl,rfl,hm.tmps,hm.pins⟩ (λa b x=>⟨(ht a b x).1,λz=>.inl ((ht a b x).2 z)⟩) ?_;exact hI.step R τ aZ R _ zN ht ⟨λ_ _ x=>x,rfl,rfl,rfl,bL _,λa b x=>.inl x,λb _ _=>rfl⟩
end
def dep (ops:Array aX)(i j:Nat):Bool:=match ops[i]? with|some o=>o.after.any λe=>Fi .any e&&e.on==j|none=>false
def Ov (ops:Array aX):Nat->Nat->Nat->Bool
 |0,_,_=>false
 |n+1,i,j=>dep ops i j||(fV ops.size).any λm=>dep ops i m&&Ov ops n m j
def linked (ops:Array aX):List Nat->Bool
 |a::b::l=>Ov ops (ops.size+1) b a&&linked ops (b::l)
 |_=>true
def J9 (ops:Array aX)(ch:List Nat):Bool:=linked ops ch&&decide ch.Nodup&&(match ch.getLast? with|some z=>(fV ops.size).all λj=>j==z||Ov ops ops.size z j|none=>false)
variable {ops:Array aX}{i:Nat}
theorem zne {j:Nat}(h:dep ops i j=true):∃o,ops[i]? =some o/\∃e∈o.after,Fi .any e=true/\e.on=j:=by
 unfold dep at h;split at h
 .grind
 .cases h
theorem ztv :∀{ch:List Nat},linked ops ch=true->∀(j a b:Nat),ch[j]? =some a->ch[j+1]? =some b->Ov ops (ops.size+1) b a=true
 |[],_,j,a,b,h1,_=>by simp at h1
 |[x],_,j,a,b,_,h2=>by simp at h2
 |x::y::l,h,0,a,b,h1,h2=>by
  simp at h1 h2;subst h1 h2;unfold linked at h;simp_all
 |x::y::l,h,j+1,a,b,h1,h2=>by
  unfold linked at h;simp only[iT] at h;exact ztv h.2 j a b Yo Xb
def Closed (ops:Array aX)(bD:Array Bool):Prop:=∀(i:Nat) (o:aX),ops[i]? =some o->bD.getD i false=true->∀e∈o.after,Fi .any e=true->bD.getD e.on false=true
variable {bD:Array Bool}
theorem zvJ (hc:Closed ops bD):∀(n i j:Nat),Ov ops n i j=true->bD.getD i false=true->bD.getD j false=true:=by
 intro n
 induction n with
 |zero=>intro i j h _;cases h
 |succ n ih=>
  intro i j h hl;unfold Ov at h;simp only[C4,List.any_eq_true,iT] at h;rcases h with h|⟨m,_,h1,h2⟩
  .obtain⟨o,ho,e,he,hb,rfl⟩:=zne h
   exact hc i o ho hl e he hb
  .obtain⟨o,ho,e,he,hb,rfl⟩:=zne h1
   exact ih _ j h2 (hc i o ho hl e he hb)
variable {ch:List Nat}
theorem zCS {m:Nat}(h:ch.idxOf? i=some m):ch[m]? =some i/\m<ch.length:=by
 unfold zum at h;obtain⟨h1,h2,_⟩:=zk1.1 h;simp_all
theorem zCw (h:i∉ch):ch.idxOf? i=none:=by simp_all
theorem zcA (hn:ch.Nodup){m:Nat}(h:ch[m]? =some i):ch.idxOf? i=some m:=by
 unfold zum;obtain⟨h1,h2⟩:=l8.1 h;rw[zk1];refine⟨h1,by rw[h2];simp,λj hj=>?_⟩;simp only[Bool.not_eq_true,beq_eq_false_iff_ne];intro e;have:=(List.getElem_inj hn).1 (e.trans h2.symm);omega
def VV (ch:List Nat)(V0:Nat->aF)(vs:List aF)(i:Nat):Value:=match ch.idxOf? i with|some j=>vs.getD j aA|none=>V0 i
variable {t0:Array aF}
theorem qA.congr {vals zdM:Nat->aF}{t:Array aF}(h:qA ops vals t0 bD t)(hv:∀i,bD.getD i false=true->vals i=zdM i):qA ops zdM t0 bD t:=
 ⟨h.size,λi o d h1 h2 h3 h4=>by rw[<-hv i h4];exact h.got i o d h1 h2 h3 h4,h.old⟩
variable {σ:Type}{P:bT}{V0:Nat->aF}
theorem drawnGo {J:σ->List Nat->Array aF->aE->Prop}{S:List aF->σ->aE->Prop}(KO:G2 ops)(sG:J9 ops ch=true)(oK:∀c∈ch,¬c<ops.size->False)
 (hop:∀vs s i o rest t w v,S vs s w->ops[i]? =some o->i∉ch->cO o (cS ops t)=true->(∀T,(aS (bE t []).eval o).run P (Tt.tp w T 0)=.ok (.value v) (Tt.tp w T 0))->(∀T,J s rest (b7 ⟨t,[]⟩ o.dst v).tmps (Tt.tp w T 0))->J s (i::rest) t w)
 (hT:∀vs s w T e,S vs s w->S vs s (Tt.tp w T e))
 (hR:∀(i:Nat) (o:aX),ops[i]? =some o->i∉ch->∀vs s w,vs.length<ch.length->(∀j c,ch[j]? =some c->dep ops i c=true->j<vs.length)->S vs s w->cO o (cS ops (cT ops (VV ch V0 vs) t0))=true/\(aS (bE (cT ops (VV ch V0 vs) t0) []).eval o).run P w=.ok (.value (V0 i)) w)
 (hC:∀(vs:List aF) (c:Nat) (o:aX) s w,ch[vs.length]? =some c->ops[c]? =some o->S vs s w->∀(t:Array aF) (rest:List Nat),(∀s∈o.looksAt ops,t[s]? =(cT ops (VV ch V0 vs) t0)[s]?)->
  (∀v s' w',S (vs++[v]) s' w'->J s' rest (b7 ⟨t,[]⟩ o.dst v).tmps w')->J s (c::rest) t w)
 (hk:∀vs s w,vs.length=ch.length->S vs s w->J s [] (cT ops (VV ch V0 vs) t0) w):
 ∀(fuel q:Nat) (bD:Array Bool) (t:Array aF) (vs:List aF) (s:σ) (w:aE),bD.size=ops.size->((fV ops.size).filter λi=>!bD.getD i false).length<=fuel->qA ops (VV ch V0 vs) t0 bD t->Closed ops bD->
  (∀j c,ch[j]? =some c->(bD.getD c false=true↔j<vs.length))->vs.length<=ch.length->S vs s w->J s (Fx .any ops fuel q bD []) t w:=by
 have znJ:=sG;unfold J9 at znJ;simp only[iT,decide_eq_true_eq] at znJ;obtain⟨⟨y5,lK⟩,Er⟩:=znJ;have fin:∀(bD:Array Bool) (t:Array aF) (vs:List aF) (s:σ) (w:aE),bD.size=ops.size->(∀i,i<ops.size->bD.getD i false=true)->qA ops (VV ch V0 vs) t0 bD t->(∀j c,ch[j]? =some c->(bD.getD c false=true↔j<vs.length))->vs.length<=ch.length->S vs s w->(∀c∈ch,c<ops.size)->J s [] t w:=by
  intro bD t vs s w hz sY hm hl hle hw gJ;have e:bD=nK ops.size true:=by
   apply Array.ext_getElem?;intro j;by_cases hj:j<ops.size
   .have:=sY j hj
    have uW:j<bD.size:=aC;simp[uW] at this;simp[hj,uW,this]
   .rw[Nr aC,Nr pX]
  have uH:vs.length=ch.length:=by
   rcases rM vs.length ch.length with h|h
   .have h1:ch[vs.length]? =some ch[vs.length]:=nI h
    have:=(hl _ _ h1).1 (sY _ (gJ _ (zu7 h)));omega
   .omega
  subst e;have e2:=hm.unique (Gs (vals:=VV ch V0 vs) (t0:=t0) KO);subst e2;exact hk vs s w uH hw
 have gJ:∀c∈ch,c<ops.size:=by
  intro c hc
  cases hg:ch.getLast? with
  |none=>rw[hg] at Er;cases Er
  |some z=>
   by_cases aU:c<ops.size
   .exact aU
   .exfalso
    exact oK c hc aU
 intro fuel
 induction fuel with
 |zero=>
  intro q bD t vs s w hz hc hm nE hl hle hw;simp only[Fx,List.reverse_nil];refine fin bD t vs s w hz (λi hi=>?_) hm hl hle hw gJ
  cases hl:bD.getD i false with
  |true=>rfl
  |false=>
   have:i∈(fV ops.size).filter λi=>!bD.getD i false:=Jo.2 ⟨Da.2 hi,by rw[hl];rfl⟩;have:=List.length_pos_of_mem this;omega
 |succ fuel ih=>
  intro q bD t vs s w hz hc hm nE hl hle hw;simp only[Fx];change J s (match(uK .any ops bD)[q%(uK .any ops bD).length]? with
   |some i=>Fx .any ops fuel (q/(uK .any ops bD).length) (bD.setIfInBounds i true) [i]
   |none=>[].reverse) t w
  cases hi:(uK .any ops bD)[q%(uK .any ops bD).length]? with
  |none=>
   have Qn:uK .any ops bD=[]:=by
    cases hr:uK .any ops bD with
    |nil=>rfl
    |cons x xs=>
     rw[hr] at hi;have aU:q%(x::xs).length<(x::xs).length:=Nat.mod_lt _ aQ;simp at hi;simp at aU;omega
   exact fin bD t vs s w hz (zny KO hz Qn) hm hl hle hw gJ
  |some i=>
   simp only[];rw[linearise_go_acc,List.reverse_singleton,List.singleton_append];obtain⟨hu,o,ho,sX⟩:=mem_ready.1 (fI hi);have Bd:i<ops.size:=(dR.1 ho).1;have lA:=hm.sees KO (Gs (vals:=VV ch V0 vs) (t0:=t0) KO) ho sX;have Lp:∀j,(bD.setIfInBounds i true).getD j false=if j=i then true else bD.getD j false:=by
    intro j;by_cases e:j=i
    .subst e;have:j<bD.size:=aC
     simp[this]
    .rw[if_neg e];exact getD_set_ne false (Ne.symm e)
   have pP:bD.getD i false=false:=by
    have:i<bD.size:=aC;simp[this] at hu⊢;exact hu
   have zkz:Closed ops (bD.setIfInBounds i true):=by
    intro j oj hj uW e he hb;rw[Lp] at uW⊢;split
    .rfl
    .split at uW
     .next e1=>subst e1;rw[ho] at hj;obtain rfl:=cH hj;exact sX e he hb
     .exact nE j oj hj uW e he hb
   have P4:((fV ops.size).filter λj=>!(bD.setIfInBounds i true).getD j false).length<=fuel:=by
    have aU:((fV ops.size).filter λj=>!(bD.setIfInBounds i true).getD j false).length<((fV ops.size).filter λj=>!bD.getD j false).length:=by
     have e:((fV ops.size).filter λj=>!(bD.setIfInBounds i true).getD j false)=((fV ops.size).filter λj=>!bD.getD j false).filter (λj=>j !=i):=by
      rw[List.filter_filter];apply List.filter_congr;intro j hj;rw[Lp];by_cases e:j=i
      .simp[e]
      .simp[e]
     rw[e];exact List.length_filter_lt_length_iff_exists.2 ⟨i,Jo.2 ⟨Da.2 Bd,by rw[pP];rfl⟩,aQ⟩
    omega
   by_cases uP:i∈ch
   .
    obtain⟨j,hj⟩:=List.mem_iff_getElem?.1 uP;have zK7:=(l8.1 hj).1;have zIl:j=vs.length:=by
     have h1:¬j<vs.length:=λh=>by have:=(hl j i hj).2 h;rw[pP] at this;cases this
     rcases rM vs.length j with h|h
     .exfalso
      obtain⟨b,hb⟩:∃b,ch[j-1]? =some b:=⟨ch[j-1]' aC,nI aC⟩;have hd:=zvJ zkz _ _ _ (ztv y5 (j-1) b i hb (by rw[Nat.sub_add_cancel aC];exact hj)) (by rw[Lp,if_pos rfl]);rw[Lp] at hd;split at hd
      .next e=>
       subst e;have h1:=zcA lK hb;rw[zcA lK hj] at h1;have:=cH h1;omega
      .have:=(hl (j-1) _ hb).1 hd
       omega
     .omega
    subst zIl;have wI:∀v i',i'≠i->VV ch V0 (vs++[v]) i'=VV ch V0 vs i'\/bD.getD i' false=false:=by
     intro v i' aV;unfold VV
     cases hx:ch.idxOf? i' with
     |none=>exact .inl rfl
     |some m=>
      simp only;obtain⟨Yd,xA⟩:=zCS hx;rcases zvW m vs.length with h|h|h
      .left;simp[S8,N9 h]
      .subst h;rw[hj] at Yd;exact absurd (cH Yd).symm aV
      .right
       cases Jm:bD.getD i' false with
       |false=>rfl
       |true=>have:=(hl m i' Yd).1 Jm;omega
    have zjn:∀v,VV ch V0 (vs++[v]) i=v:=by
     intro v;unfold VV;rw[zcA lK hj];simp[S8]
    refine hC vs i o s w hj ho hw t _ lA λv s' w' Nj=>?_;have xA:qA ops (VV ch V0 (vs++[v])) t0 bD t:=hm.congr λi' kN=>by
     rcases wI v i' (λe=>by subst e;rw[pP] at kN;cases kN) with h|h
     .exact h.symm
     .rw[h] at kN;cases kN
    have Ql:=xA.step KO ho hz hu;have:=ih (q/(uK .any ops bD).length) (bD.setIfInBounds i true) _ (vs++[v]) s' w' zct P4 Ql zkz (λj c Nv=>?_) pX Nj
    .rw[zjn] at this
     cases hd:o.dst with
     |none=>rw[hd] at this;exact this
     |some s=>rw[hd] at this;exact this
    .rw[Lp]
     by_cases e:c=i
     .subst e
      rw[if_pos rfl];have:j=vs.length:=by
       have h1:=zcA lK Nv;have h2:=zcA lK hj;rw[h1] at h2;exact cH h2
      subst this;simp
     .rw[if_neg e,hl j c Nv]
      simp;constructor
      .intro h;omega
      .intro h
       rcases rM j vs.length with h2|h2
       .exact h2
       .have:j=vs.length:=aC
        subst this;rw[hj] at Nv;exact absurd (cH Nv).symm e
   .
    have zo2:=hR i o ho uP;have aU:vs.length<ch.length:=by
     rcases rM vs.length ch.length with h|h
     .exact h
     .exfalso
      cases hg:ch.getLast? with
      |none=>rw[hg] at Er;cases Er
      |some z=>
       rw[hg] at Er;have zs7:ch[ch.length-1]? =some z:=by rw[<-List.getLast?_eq_getElem?];exact hg
       have Ce:0<ch.length:=by
        cases ch with
        |nil=>cases hg
        |cons _ _=>simp
       have zEZ:=(hl _ z zs7).2 aC;have:=(vA.1 Er) i (Da.2 Bd);simp only[C4,beq_iff_eq] at this;rcases this with rfl|this
       .exact uP (fI zs7)
       .have:=zvJ nE _ _ _ this zEZ
        rw[pP] at this;cases this
    have tH:∀j c,ch[j]? =some c->dep ops i c=true->j<vs.length:=λj c hj hd=>by
     obtain⟨o',xL,e,he,zhW,rfl⟩:=zne hd;rw[ho] at xL;obtain rfl:=cH xL;exact(hl j _ hj).1 (sX e he zhW)
    obtain⟨h1,h2⟩:=zo2 vs s w aU tH hw;have eD:cO o (cS ops t)=true:=(Ns lA).trans h1;refine hop vs s i o _ t w (V0 i) hw ho uP eD (λT=>?_) λT=>?_
    .rw[Dx (KO.sel i o ho) lA]
     exact(zo2 vs s _ aU tH (hT _ _ _ T 0 hw)).2
    .have Ql:=hm.step KO ho hz hu
     have zjn:VV ch V0 vs i=V0 i:=by
      unfold VV;rw[zCw uP]
     rw[zjn] at Ql;have:=ih (q/(uK .any ops bD).length) (bD.setIfInBounds i true) _ vs s (Tt.tp w T 0) zct P4 Ql zkz (λj c Nv=>?_) hle (hT _ _ _ T 0 hw)
     .cases hd:o.dst with
      |none=>rw[hd] at this;exact this
      |some s=>rw[hd] at this;exact this
     .have aV:c≠i:=λe=>uP (e▸fI Nv)
      rw[Lp,if_neg aV];exact hl j c Nv
theorem zkC {J:σ->List Nat->Array aF->aE->Prop}{S:List aF->σ->aE->Prop}(bM:yO ops=true)(sG:J9 ops ch=true)(oK:ch.all (λc=>decide (c<ops.size))=true)
 (hop:∀vs s i o rest t w v,S vs s w->ops[i]? =some o->i∉ch->cO o (cS ops t)=true->(∀T,(aS (bE t []).eval o).run P (Tt.tp w T 0)=.ok (.value v) (Tt.tp w T 0))->(∀T,J s rest (b7 ⟨t,[]⟩ o.dst v).tmps (Tt.tp w T 0))->J s (i::rest) t w)
 (hT:∀vs s w T e,S vs s w->S vs s (Tt.tp w T e))
 (hR:∀(i:Nat) (o:aX),ops[i]? =some o->i∉ch->∀vs s w,vs.length<ch.length->(∀j c,ch[j]? =some c->dep ops i c=true->j<vs.length)->S vs s w->cO o (cS ops (cT ops (VV ch V0 vs) t0))=true/\(aS (bE (cT ops (VV ch V0 vs) t0) []).eval o).run P w=.ok (.value (V0 i)) w)
 (hC:∀(vs:List aF) (c:Nat) (o:aX) s w,ch[vs.length]? =some c->ops[c]? =some o->S vs s w->∀(t:Array aF) (rest:List Nat),(∀s∈o.looksAt ops,t[s]? =(cT ops (VV ch V0 vs) t0)[s]?)->
  (∀v s' w',S (vs++[v]) s' w'->J s' rest (b7 ⟨t,[]⟩ o.dst v).tmps w')->J s (c::rest) t w)
 (hk:∀vs s w,vs.length=ch.length->S vs s w->J s [] (cT ops (VV ch V0 vs) t0) w) {s:σ} {w:aE} (h0:S [] s w) (n:Nat):J s (Md true ops n) t0 w:=by
 simp only[Md,Bool.true_or,if_true];refine drawnGo (Gr bM) sG (λc hc aU=>?_) hop hT hR hC hk ops.size n _ t0 [] s w aQ (eG (List.length_filter_le _ _) aQ) (qA.start _ λi=>?_) (λi o hi hl=>?_) (λj c hj=>?_) (mK _) h0
 .simp_all
 .by_cases hi:i<ops.size<;>simp[hi]
 .by_cases hi:i<ops.size<;>simp[hi] at hl
 .by_cases hi:c<ops.size<;>simp[hi]
section
variable {d:pY}{f:aO}
variable {Φ:oP->WS->Prop}
theorem CW.drawn (H:d.Ok)(Jy:d.p.follows .mixedOrders=true){B:List Nat}{id:Nat}{t0:Array aF}{ops:Array aX}(ch:List Nat)(V0:Nat->aF)(S:List aF->Pr->gN->aE->Prop)(bM:yO ops=true)(sG:J9 ops ch=true)(oK:ch.all (λc=>decide (c<ops.size))=true)
 (hT:∀vs K l w T e,S vs K l w->S vs K l (Tt.tp w T e))
 (hR:∀(i:Nat) (o:aX),ops[i]? =some o->i∉ch->s9 d.p ⟨d.fs,d.gs,true⟩ o.op=true/\∀vs K l w,vs.length<ch.length->S vs K l w->cO o (cS ops (cT ops (VV ch V0 vs) t0))=true/\(aS (bE (cT ops (VV ch V0 vs) t0) []).eval o).run d.p w=.ok (.value (V0 i)) w)
 (hC:∀(vs:List aF) (c:Nat) (o:aX) K l w,ch[vs.length]? =some c->ops[c]? =some o->S vs K l w->∀(t:Array aF) (rest:List Nat),(∀s∈o.looksAt ops,t[s]? =(cT ops (VV ch V0 vs) t0)[s]?)->
  (∀v K' l' w',K.le K'->S (vs++[v]) K' l' w'->CR d f ops rest ⟨[],K',l',(b7 ⟨t,[]⟩ o.dst v).tmps,w'⟩ (Φ .normal))->CR d f ops (c::rest) ⟨[],K,l,t,w⟩ (Φ .normal))
 (hk:∀vs K l w,vs.length=ch.length->S vs K l w->Φ .normal ⟨[],K,l,cT ops (VV ch V0 vs) t0,w⟩) {K:Pr} {l:gN} {w:aE} (h0:S [] K l w):CW d B f (.region id ops true) ⟨[],K,l,t0,w⟩ Φ:=λQ base kk hQ hB h1 h2 h3=>by
 refine BO.draw (H.iok hQ) λn=>?_
 have:=zkC (σ:=Pr×gN) (P:=d.p) (J:=λs is t w=>CR d f ops is ⟨[],s.1,s.2,t,w⟩ (Φ .normal)) (S:=λvs s w=>S vs s.1 s.2 w) bM sG oK
  (λvs s i o rest t w v hS ho uP hw hx hJ=>CR.op H ho hw (hR i o ho uP).1 λT=>⟨v,_,.inl (hx T),hJ T⟩) (λvs s=>hT vs s.1 s.2) (λi o ho uP vs s w hv _=>(hR i o ho uP).2 vs s.1 s.2 w hv)
  (λvs c o s w hj ho h t rest hs cY=>hC vs c o s.1 s.2 w hj ho h t rest hs λv K' l' w' _=>cY v (K',l') w') (λvs s w hl h=>CR.nil H (hk vs s.1 s.2 w hl h)) (s:=(K,l)) h0 n Q base kk hQ λs' l x=>h1 s' l x
 rw[<-Jy] at this;exact this
end
structure OvFn (p:bT)(f:aO)(t tr e:aN)(size:Nat):Prop where
 fn:∃fn,p.funcs[f]? =some fn/\(fn.name== "runtime.NumGoroutine")=false/\fn.body.isNone=true/\zpq fn=none/\zsa fn=some (ziO #[t,t] #[tr])
 un:p.underlying t=some (.slice e)
 inf:∃i,p.info? e=some i/\i.size=size
variable {i:xO}
theorem zF7 (w:aE)(tS tR e:aN)(ht:P.underlying tS=some (.slice e))(hi:P.info? e=some i)
 (a b:bC) (la ca lb cb:Nat) (aV:a.block≠b.block) (tA tB:aN) (kA kB:Nat)
 (J0:w.shape? a.block=some (tA,kA)) (Dw:w.shape? b.block=some (tB,kB)) (Qu:kB≠0)
 (vV:w.frozen? a=false) (N6:w.frozen? {block:=a.block,off:=kA}=false):
 (ziO #[tS,tS] #[tR] #[.slice (some a) la ca,.slice (some b) lb cb]).run P w=.ok (.bool false) w:=
 Lib.run_overlaps_apart w tS tR e ht i.size (λw=>by simp[sizeOf,typeInfo,hi]) a b la ca lb cb aV tA tB kA kB J0 Dw Qu vV N6
section
variable {P:bT}{w:aE}{es:Array Event}
def zDD (a:bC):(frozen a).events P w es=es:=rfl
def zvx (a:bC):(frozen a).run P w=.ok (w.frozen? a) w:=rfl
def zCH (r:Nat):(shape r).events P w es=es:=rfl
def zhG (r:Nat):(shape r).run P w=.ok (w.shape? r) w:=rfl
variable {a:bC}{t:aN}{n:Nat}
theorem zwF (h:w.shape? a.block=some (t,n)):(noView a).events P w es=es:=by
 unfold noView viewAt;simp_all
theorem zuQ (h:w.shape? a.block=some (t,n)):(noView a).run P w=.ok () w:=by
 unfold noView viewAt;simp[zhG,h]
theorem zs6 (h:w.shape? a.block=some (t,n)):(stringish a).events P w es=es:=by
 unfold stringish;simp_all
theorem zgE (h:w.shape? a.block=some (t,n)):(stringish a).run P w=.ok (w.frozen? a||w.frozen? ⟨a.block,n,none⟩) w:=by
 unfold stringish;cases hf:w.frozen? a<;>simp[zvx,zhG,h,hf]
theorem zBg {b:bC}{tA tB:aN}{kA kB:Nat}(J0:w.shape? a.block=some (tA,kA))(Dw:w.shape? b.block=some (tB,kB))(vV:w.frozen? a=false)(N6:w.frozen? ⟨a.block,kA,none⟩=false)(Qu:kB≠0):
 (mayBeOne a b).events P w es=es/\(mayBeOne a b).run P w=.ok false w:=by
 cases kB with
 |zero=>exact absurd rfl Qu
 |succ kB=>
  unfold mayBeOne;constructor
  .simp[zs6 J0,zgE J0,zs6 Dw,zgE Dw,vV,N6,zCH,zhG,J0,Dw]
  .simp[zgE J0,zgE Dw,vV,N6,zhG,J0,Dw]
end
theorem zCo (w:aE)(es:Array Event)(tS tR e:aN)(ht:P.underlying tS=some (.slice e))(hi:P.info? e=some i)
 (a b:bC) (la ca lb cb:Nat) (aV:a.block≠b.block) (tA tB:aN) (kA kB:Nat)
 (J0:w.shape? a.block=some (tA,kA)) (Dw:w.shape? b.block=some (tB,kB)) (Qu:kB≠0)
 (vV:w.frozen? a=false) (N6:w.frozen? {block:=a.block,off:=kA}=false):
 (ziO #[tS,tS] #[tR] #[.slice (some a) la ca,.slice (some b) lb cb]).events P w es=es:=by
 have oF:(a.block !=b.block)=true:=by simpa using aV
 have zBH:(a.block==b.block)=false:=by simpa using aV
 change Sem.events P (α:=aF) (do
  let some t:=(#[tS,tS]:Array aN)[0]? |stuck "slices.overlaps: no parameter types"
  let .slice elem<-underlying t|stuck "slices.overlaps: slice type expected"
  let size<-sizeOf elem
  match(some a:Option bC),(some b:Option bC) with
  |some a,some b=>
   if la=0\/lb=0\/size=0 then pure (N1 false)
   else if a.block !=b.block&&(<-frozen a)&&(<-frozen b) then unsupported .addressObserved
   else do
    if a.block !=b.block then do
     noView a;noView b
     if<-mayBeOne a b then return N1 ((<-choose (.extern "sameAddr.stringBytes" 2))==1)
    pure (N1 (a.block==b.block&&a.off<b.off+lb*size&&b.off<a.off+la*size))
  |_,_=>pure (N1 false)) w es=_
 by_cases h0:la=0\/lb=0\/i.size=0
 .simp[xM ht,sizeOf,typeInfo,hi,h0]
 .obtain⟨m1,m2⟩:=zBg (P:=P) (es:=es) J0 Dw vV N6 Qu
  simp[xM ht,sizeOf,typeInfo,hi,h0,oF,zBH,zDD,zvx,vV,zwF J0,zuQ J0,zwF Dw,zuQ Dw,m1,m2]
section
variable {L:Type}{C:Cx L}{l:L}
variable {o:aX}{f:aO}{jM:Array aN}{e:Array aF->Sem aF}{w:aE}
theorem zEl {p:bT}{args:Array cJ}(hop:o.op=.call ⟨.value (.func f),args,jM⟩){ρ:cJ->aF}(hρ:ρ (.func f)=.func (.func f) #[] #[]){fn:Func}(hf:p.funcs[f]? =some fn)
 (hn:(fn.name== "runtime.NumGoroutine")=false) (hb:fn.body.isNone=true) (h1:zpq fn=none)  (h2:zsa fn=some e) {w':aE} {v:aF} (hr:(e (args.map ρ)).run p w=.ok v w') (he:∀es,(e (args.map ρ)).events p w es=es):
 (aS ρ o).run p w=.ok (.value v) w'/\(aS ρ o).events p w #[]=#[⟨.mark (.extern f),false,true⟩]:=by
 obtain⟨dst,yJ,type,pos,after,guard⟩:=o;simp only at hop;subst hop;have wD:¬fn.name= "runtime.NumGoroutine" :=by simpa using hn
 have b9:fn.body=none:=by simpa using hb
 constructor
 .simp[aS,resolve,Dh,hρ,invoke,callFunc,program,mark,Sem.run,hf,wD,b9,h1,h2,hr]
 .simp[aS,resolve,Dh,hρ,invoke,callFunc,hf,wD,b9,h1,h2,he]
theorem BO.overlaps (ha:C.alone=none)(hI:fE C){fn:aO}{tmps:Array aF}{ops:Array aX}{i:Nat}{rest:List Nat}{k:List dI}{x y:cJ}{A B:bC}{la ca lb cb:Nat}{t tr e:aN}{sz:Nat}{zid zcD:Array aF}{TA TB:aN}{znD:Nat×Nat}
 (H:OvFn C.p f t tr e sz) (ho:ops[i]? =some o) (cF:cO o (cS ops tmps)=true) (hop:o.op=.call ⟨.value (.func f),#[x,y],jM⟩) (sD:dP C.fs x=true) (Dr:dP C.fs y=true) (hx:(bE tmps []).eval x=.slice (some A) la ca) (hy:(bE tmps []).eval y=.slice (some B) lb cb)
 (aV:A.block≠B.block) (hA:w.heap[A.block]? =some (.cells zid TA (0,0))) (hB:w.heap[B.block]? =some (.cells zcD TB znD)) (hz:zcD.size≠0) (lK:∀s,o.dst=some s->s∉C.S)
 (h1:BO C l ⟨fn,(b7 ⟨tmps,[]⟩ o.dst (.bool false)).tmps,.inRegion ops rest::k,false⟩ w):BO C l ⟨fn,tmps,.inRegion ops (i::rest)::k,false⟩ w:=by
 intro R W m' τ hw hm ht hi;obtain⟨fn',bU,zE,zD⟩:=m';obtain rfl:=hm.fn;obtain rfl:=hm.todo;obtain rfl:=hm.ret;have uY:=Jc (C:=C) hm.tmps cF;have hb:(C.ds.base fn).kind≠ .early:=C.ds.ok;have vx:=Hb (C:=C) (d:=C.ds.ds) hm.tmps sD;have vy:=Hb (C:=C) (d:=C.ds.ds) hm.tmps Dr;rw[hx] at vx;rw[hy] at vy;obtain⟨fnf,g1,g2,g3,g4,g5⟩:=H.fn;obtain⟨ie,jK,cK⟩:=H.inf;rw[nJ,Cx.B_none ha];refine cG.own rfl trivial λaZ s=>?_;have dK:C.Rel R w aZ:=Cx.Rel.suf (C:=C) hw ht s;have zN:=hI.suf _ _ _ _ hi s;generalize hex:(bE bU C.ds.ds).eval x=vx' at vx;generalize zB0:(bE bU C.ds.ds).eval y=vy' at vy
 cases vx with
 |slice qa=>
  cases qa with
  |some qa=>
   cases qa with
   |mk ra=>
    cases vy with
    |slice qb=>
     cases qb with
     |some qb=>
      cases qb with
      |mk rb=>
       rename_i a a' oa sa b b' ob sb;obtain⟨o1,o2,k1,k2,k3⟩:=dK.cont _ _ ra;obtain⟨p1,p2,q1,q2,q3⟩:=dK.cont _ _ rb;rw[hA] at k1;obtain rfl:=cH k1;rw[hB] at q1;obtain rfl:=cH q1
       cases k3 with
       |cells rD vV=>
        cases q3 with
        |cells Jz zJt=>
         rename_i cA' fA' zll fB';have zk5:∀n,aZ.frozen? ⟨a',n,none⟩=false:=λn=>by
          simp only[Jt,k2]
          cases hq:(decide (fA'.1<=n)&&decide (n<fA'.2)) with
          |false=>rfl
          |true=>
           have:=vV n (by simpa[Lf] using hq);unfold Lf at this;omega
         have zxF:aZ.frozen? ⟨a',oa,sa⟩=false:=by
          have:=zk5 oa;simpa[Jt] using this
         have za7:a'≠b':=λe=>aV (dK.inj' _ _ _ (.inl ra) (.inl (e▸rb)));have sA:aZ.shape? a'=some (TA,cA'.size):=by simp[zdJ,k2]
         have sB:aZ.shape? b'=some (TB,zll.size):=by simp[zdJ,q2]
         have rS:(#[x,y]:Array cJ).map (bE bU C.ds.ds).eval=#[.slice (some ⟨a',oa,sa⟩) la ca,.slice (some ⟨b',ob,sb⟩) lb cb]:=by
          simp only[tJ,jD,sC,hex,zB0]
         have r1:=zF7 (P:=C.p) aZ t tr e H.un jK ⟨a',oa,sa⟩ ⟨b',ob,sb⟩ la ca lb cb za7 TA TB _ _ sA sB (by rw[<-Jz.1];exact hz) zxF (zk5 _);have r2:=λes=>zCo (P:=C.p) aZ es t tr e H.un jK ⟨a',oa,sa⟩ ⟨b',ob,sb⟩ la ca lb cb za7 TA TB _ _ sA sB (by rw[<-Jz.1];exact hz) zxF (zk5 _);obtain⟨x1,x2⟩:=zEl (p:=C.p) (o:=o) hop (ρ:=(bE bU C.ds.ds).eval) rfl g1 g2 g3 g4 g5 (by rw[rS];exact r1) (by rw[rS];exact r2);have aY:=znX (main:=C.main) (b:=C.ds.base fn) (rest:=rest) (k:=k) (cs:=C.base) ho uY hb x1;have hl:∀ev∈xY C.p (C.ds.base fn).fn ⟨bU,C.ds.ds⟩ o aZ,ev=⟨.mark (.extern f),false,true⟩:=λev l9=>by
          unfold xY at l9;rw[x2] at l9;simpa using mem_seen l9
         refine⟨_,aZ,_,aY,rfl,Aw.id _ _,λev l9=>?_,?_⟩
         .rw[hl ev l9];trivial
         .rw[deafBehind_still (λev l9=>by grind)]
          have E7:b7 ⟨bU,C.ds.ds⟩ o.dst (.bool false)=⟨(b7 ⟨bU,C.ds.ds⟩ o.dst (.bool false)).tmps,C.ds.ds⟩:=by cases o.dst<;>rfl
          rw[E7,<-nJ,<-Cx.B_none ha];have M7:=hI.step R τ aZ R aZ zN ht ⟨λ_ _ x=>x,rfl,rfl,rfl,bL _,λa b x=>.inl x,λb _ _=>rfl⟩;exact h1 R aZ ⟨fn,_,_,false⟩ _ dK ⟨rfl,rfl,rfl,Ke (C:=C) hm.tmps (.bool false),I5 (C:=C) hm.pins lK⟩ (λa b x=>⟨(ht a b x).1,λz=>.inl ((ht a b x).2 z)⟩) M7
end
section
variable {d:pY}{f:aO}{s:WS}{ops:Array aX}{i:Nat}{rest:List Nat}{Φ:WS->Prop}{o:aX}
def CR.overlaps (H:d.Ok){x y:cJ}{g:aO}{jM:Array aN}{A B:bC}{la ca lb cb:Nat}{t tr e:aN}{sz:Nat}{zid zcD:Array aF}{TA TB:aN}{znD:Nat×Nat}
 (HO:OvFn d.p g t tr e sz) (ho:ops[i]? =some o) (cF:cO o (cS ops s.T)=true) (hop:o.op=.call ⟨.value (.func g),#[x,y],jM⟩) (sD:dP d.fs x=true) (Dr:dP d.fs y=true) (hx:(bE s.T []).eval x=.slice (some A) la ca) (hy:(bE s.T []).eval y=.slice (some B) lb cb)
 (aV:A.block≠B.block) (hA:s.w.heap[A.block]? =some (.cells zid TA (0,0))) (hB:s.w.heap[B.block]? =some (.cells zcD TB znD)) (hz:zcD.size≠0)
 (h:CR d f ops rest {s with T:=(b7 ⟨s.T,[]⟩ o.dst (.bool false)).tmps} Φ):CR d f ops (i::rest) s Φ:=λQ base kk hQ h1=>
 BO.overlaps (C:=d.cx s.K Q s.chs base .nil []) rfl (H.iok hQ) HO ho cF hop sD Dr hx hy aV hA hB hz (λ_ _=>nM) (h Q base kk hQ h1)
end
end Go.Mt
namespace Go.Proofs.YtfcjiloojkjaeaaGreatDoor
open Go.RowKit Go.Mt Go.Conc Go.Tt Go.Maps
def sA:wS->wS| .seq a _=>a|_=>.skip
def sB:wS->wS| .seq _ b=>b|_=>.skip
def cA:wS->wS| .cond _ a _=>a|_=>.skip
def cB:wS->wS| .cond _ _ b=>b|_=>.skip
def cX:wS->cJ| .cond x _ _=>x|_=>.const aA
def bI:wS->Nat| .block i _=>i| .region i _ _=>i|_=>0
def rO:wS->Array aX| .region _ o _=>o|_=>#[]
def N0:Nat->List aF->List aF
 |0,_=>[]
 |n+1,[]=>aA::N0 n []
 |n+1,a::l=>a::N0 n l
theorem zx3:∀n,N0 n []=zyH n aA
 |0=>rfl
 |n+1=>by rw[N0,zx3 n];rfl
theorem zto:∀(n:Nat) (l:List aF),l.length<=n->l++zyH (n-l.length) aA=N0 n l
 |n,[],_=>by rw[zx3];simp
 |n+1,a::l,h=>by
  simp only[List.length_cons,Nat.add_sub_add_right,List.cons_append,N0];rw[zto n l zhp]
theorem pad_eq {n:Nat}{l T:List aF}(hl:l.length<=n)(hT:N0 n l=T):l.toArray++nK (n-l.toArray.size) aA=T.toArray:=by
 subst hT;rw[<-zto n l hl];simp
structure Iq where
 ty:aN
 Wg:Nat
 N:Nat
 W:List fC
 D:aE->Prop
 Fin:bF->aE->Prop
 St:Nat->Prop
 W0:aE
 StI:Nat->Prop
 Shun:Loc->Prop
 SS:Nat->Prop
 R0:Pr
 Fz:Nat->Prop
 Wf:aE
 qs:List Nat
abbrev Iq.d (e:Iq):pY:=⟨aK,Cy,fW,e.ty,e.Wg,e.N,e.W,e.D,e.Fin,e.St,e.W0,e.StI,e.Shun,e.SS,e.R0,e.Fz,e.Wf,e.qs⟩
section
variable {d:pY}{f:aO}{s:WS}{B:List Nat}{c:wS}
def CW.tape {Φ:oP->WS->Prop}(h:CW d B f c s Φ)(T:kS)(n:Nat):CW d B f c {s with w:=Tt.tp s.w T n} Φ:=λQ base kk hQ hB h1 h2 h3=>BO.tape (h Q base kk hQ hB h1 h2 h3) T n
def CW.pieceQ {Φ:oP->WS->Prop}(H:d.Ok)(hc:qG d.p ⟨d.fs,d.gs,true⟩ c=true)(hf:wM d.p f)(vM:∀(T:kS) (Q:oP->uL->aE->Prop),rA (∀a' w',Φ .normal {s with T:=a'.tmps,w:=w'}->Q .normal a' w')->Code.wp d.p c Q ⟨s.T,[]⟩ (Tt.tp s.w T 0)):CW d B f c s Φ:=
 CW.piece H hc hf λT=>vM T _ (aD λa' w' h=>⟨rfl,h⟩)
theorem CW.pH {Φ:oP->WS->Prop}{lo hb:Nat}{v v0:fH}{dd:oG}{w0:aE}(H:d.Ok)(hf:wM d.p f)(A:rA (bG s.w lo hb v dd))(T:rA (bP hb v0 w0 v s.w))
 (vM:∀(w1:aE) (Q:oP->uL->aE->Prop),s.w.heap=w1.heap->rA (bG w1 lo hb v dd)->rA (bP hb v0 w0 v w1)->rA (∀a' w',Φ .normal {s with T:=a'.tmps,w:=w'}->Q .normal a' w')->Code.wp d.p c Q ⟨s.T,[]⟩ w1)
 (hc:qG d.p ⟨d.fs,d.gs,true⟩ c=true:=by kernel_rfl):CW d B f c s Φ:=
 CW.pieceQ H hc hf λ_ Q HQ=>vM _ Q rfl (aD (A.o.same rfl)) (aD (T.o.same rfl)) HQ
variable {ops:Array aX}{i:Nat}{rest is:List Nat}{Φ:WS->Prop}{o:aX}
def CR.tape (h:CR d f ops is s Φ)(T:kS)(n:Nat):CR d f ops is {s with w:=Tt.tp s.w T n} Φ:=λQ base kk hQ h1=>BO.tape (h Q base kk hQ h1) T n
def CR.opw (H:d.Ok)(ho:ops[i]? =some o)(cF:cO o (cS ops s.T)=true)(bM:s9 d.p ⟨d.fs,d.gs,true⟩ o.op=true){v:aF}(hx:∀T,(aS (bE s.T []).eval o).run d.p (Tt.tp s.w T 0)=.ok (.value v) (Tt.tp s.w T 0))
 (h:CR d f ops rest {s with T:=(b7 ⟨s.T,[]⟩ o.dst v).tmps} Φ):CR d f ops (i::rest) s Φ:=
 CR.op H ho cF bM λT=>⟨v,Tt.tp s.w T 0,.inl (hx T),CR.tape h T 0⟩
theorem nP {P Q:Prop}(k:Q)(h:Q->P:=by intro q;first|(simp only[Go.Act.put,List.setIfInBounds_toArray,List.set_cons_zero,List.set_cons_succ];exact q)|exact q):P:=h k
theorem CR.sto (H:d.Ok)(ho:ops[i]? =some o)(cF:cO o (cS ops s.T)=true)(bM:s9 d.p ⟨d.fs,d.gs,true⟩ o.op=true)(hd:o.dst=none){w':aE}(hx:∀T,(aS (bE s.T []).eval o).run d.p (Tt.tp s.w T 0)=.ok .skip (Tt.tp w' T 0))
 (h:CR d f ops rest {s with w:=w'} Φ):CR d f ops (i::rest) s Φ:=
 CR.op H ho cF bM λT=>⟨aA,Tt.tp w' T 0,.inr ⟨hx T,rfl⟩,by
  have:=CR.tape h T 0;have e:(b7 ⟨s.T,[]⟩ o.dst aA).tmps=s.T:=by rw[hd];rfl
  rw[e];exact this⟩
end
section
variable {d:pY}{f:aO}{s:WS}{B:List Nat}{c:wS}
theorem CW.sq (H:d.Ok){Φ:oP->WS->Prop}(h:CW d B f (sA c) s (λe s'=>match e with| .normal=>CW d B f (sB c) s' Φ|e=>Φ e s'))(e:c=.seq (sA c) (sB c):=by exact rfl):CW d B f c s Φ:=by
 rw[e];exact CW.seq H h
theorem CW.cd (H:d.Ok){Φ:oP->WS->Prop}(t:Bool)(h:CW d B f (if t then cA c else cB c) s Φ)(e:c=.cond (cX c) (cA c) (cB c):=by exact rfl)(hx:dP d.fs (cX c)=true:=by exact rfl)(hc:(bE s.T []).eval (cX c)=.bool t:=by exact rfl):CW d B f c s Φ:=by
 rw[e];exact CW.cond H hx hc h
theorem CW.sk (H:d.Ok){Φ:oP->WS->Prop}(h:Φ .normal s)(e:c=.skip:=by exact rfl):CW d B f c s Φ:=by
 rw[e];exact CW.skip H h
theorem CW.rt (H:d.Ok){Φ:oP->WS->Prop}(h:Φ .ret s)(e:c=.ret:=by exact rfl):CW d B f c s Φ:=by
 rw[e];exact CW.ret H h
theorem CW.rg (H:d.Ok){Φ:oP->WS->Prop}(is:List Nat)(h:CR d f (rO c) is s (λs'=>Φ .normal s'))(e:c=.region (bI c) (rO c) false:=by exact rfl)(hr:fV (rO c).size=is:=by exact rfl):CW d B f c s Φ:=by
 rw[e];exact CW.reg H is hr h
theorem CW.pQ {c':wS}{Φ:oP->WS->Prop}(H:d.Ok)(hf:wM d.p f)(vM:∀(T:kS) (Q:oP->uL->aE->Prop),rA (∀a' w',Φ .normal {s with T:=a'.tmps,w:=w'}->Q .normal a' w')->Code.wp d.p c' Q ⟨s.T,[]⟩ (Tt.tp s.w T 0))
 (e:c=c':=by conv=>lhs;whnf) (hc:qG d.p ⟨d.fs,d.gs,true⟩ c=true:=by kernel_rfl):CW d B f c s Φ:=by
 subst e;exact CW.pieceQ H hc hf vM
variable {v0:fH}{dd:oG}{w0:aE}
theorem CW.pW {c':wS}{Φ:oP->WS->Prop}{lo hb:Nat}{v:fH}(H:d.Ok)(hf:wM d.p f)(A:rA (bG s.w lo hb v dd))(T:rA (bP hb v0 w0 v s.w))
 (vM:∀(w1:aE) (Q:oP->uL->aE->Prop),s.w.heap=w1.heap->rA (bG w1 lo hb v dd)->rA (bP hb v0 w0 v w1)->rA (∀a' w',Φ .normal {s with T:=a'.tmps,w:=w'}->Q .normal a' w')->Code.wp d.p c' Q ⟨s.T,[]⟩ w1)
 (e:c=c':=by conv=>lhs;whnf) (hc:qG d.p ⟨d.fs,d.gs,true⟩ c=true:=by kernel_rfl):CW d B f c s Φ:=by
 subst e;exact CW.pH H hf A T vM hc
theorem CW.p0 {c':wS}{T':Array aF}{Φ:oP->WS->Prop}{lo hb:Nat}{v:fH}(H:d.Ok)(hf:wM d.p f)(A:rA (bG s.w lo hb v dd))(T:rA (bP hb v0 w0 v s.w))
 (h:∀w1:aE,s.w.heap=w1.heap->rA (bG w1 lo hb v dd)->rA (bP hb v0 w0 v w1)->Φ .normal {s with T:=T',w:=w1})
 (e:c=c':=by conv=>lhs;whnf) (vM:∀(w1:aE) (Q:oP->uL->aE->Prop),rA (∀a':uL,a'.tmps=T'->Q .normal a' w1)->Code.wp d.p c' Q ⟨s.T,[]⟩ w1:=by(intro w1 Q HQ;go_wp2;exact HQ.o _ rfl))
 (hc:qG d.p ⟨d.fs,d.gs,true⟩ c=true:=by kernel_rfl):CW d B f c s Φ:=by
 subst e;exact CW.pH H hf A T (λw1 Q hw A1 T1 HQ=>vM w1 Q (aD λa' ha=>HQ.o a' w1 (ha▸h w1 hw A1 T1))) hc
variable {K:Pr}{w:aE}
theorem CF.of {g:aO}{l:List aF}{L:gN}{Ψ:Pr->gN->aF->aE->Prop}{fnf:Func}(n:Nat){T:List aF}(hf:d.p.funcs[g]? =some fnf)(hp:Dq fnf.results.toList)
 (h:CW d [] g (fnf.body.getD .skip) ⟨[],K,L,T.toArray,w⟩ (λe s'=>(e=.normal\/e=.ret)/\s'.chs=[]/\∃v,(oC fnf.results.toList s'.T).run d.p s'.w=.ok v s'.w/\Ψ s'.K s'.l v s'.w))
 (hT:N0 n l=T:=by(simp only[N0];rfl)) (hl:l.length<=n:=by exact Nat.le_of_ble_eq_true rfl) (hn:fnf.ntmps=n:=by exact rfl) (hb:fnf.body=some (fnf.body.getD .skip):=by exact rfl) (hr:(fnf.name== "runtime.NumGoroutine")=false:=by decide):CF d g l.toArray K L w Ψ:=
 ⟨⟨fnf,_,hf,hr,hb,hp,by rw[hn,pad_eq hl hT];exact h⟩⟩
variable {ops:Array aX}{i:Nat}{rest:List Nat}{Φ:WS->Prop}{o:aX}
def zbS {o':aX}(h:ops[i]? =some o')(e:o'=o):ops[i]? =some o:=e▸h
variable {l:gN}
theorem CR.mv {chs:List Nat}{T T':Array aF}(H:d.Ok)(v:aF)(h:CR d f ops rest ⟨chs,K,l,T',w⟩ Φ)(ho:ops[i]? =some o:=by exact zbS rfl (by conv=>lhs;whnf))
 (hx:∀τ,(aS (bE T []).eval o).run d.p (Tt.tp w τ 0)=.ok (.value v) (Tt.tp w τ 0):=by exact λ_=>rfl)
 (cF:cO o (cS ops T)=true:=by exact rfl) (bM:s9 d.p ⟨d.fs,d.gs,true⟩ o.op=true:=by kernel_rfl)
 (ht:(b7 ⟨T,[]⟩ o.dst v).tmps=T':=by first|(simp only[Go.Act.put,List.setIfInBounds_toArray,List.set_cons_zero,List.set_cons_succ];done)|(simp only[Go.Act.put,List.setIfInBounds_toArray,List.set_cons_zero,List.set_cons_succ];rfl)):CR d f ops (i::rest) ⟨chs,K,l,T,w⟩ Φ:=
 CR.opw (s:=⟨chs,K,l,T,w⟩) H ho cF bM hx (ht▸h)
theorem CR.mg {chs:List Nat}{T T':Array aF}(H:d.Ok)(v:aF)(h:CR d f ops rest ⟨chs,K,l,T',w⟩ Φ)(ho:ops[i]? =some o:=by exact zbS rfl (by conv=>lhs;whnf))
 (hx:∀τ,(aS (bE T []).eval o).run d.p (Tt.tp w τ 0)=.ok (.value v) (Tt.tp w τ 0):=by intro τ;unfold execOp;go_simp)
 (cF:cO o (cS ops T)=true:=by exact rfl) (bM:s9 d.p ⟨d.fs,d.gs,true⟩ o.op=true:=by kernel_rfl)
 (ht:(b7 ⟨T,[]⟩ o.dst v).tmps=T':=by first|(simp only[Go.Act.put,List.setIfInBounds_toArray,List.set_cons_zero,List.set_cons_succ];done)|(simp only[Go.Act.put,List.setIfInBounds_toArray,List.set_cons_zero,List.set_cons_succ];rfl)):CR d f ops (i::rest) ⟨chs,K,l,T,w⟩ Φ:=
 CR.opw (s:=⟨chs,K,l,T,w⟩) H ho cF bM hx (ht▸h)
theorem allx {fs:aO->Bool}{l:List cJ}(h:l.all (dP fs)=true):l.toArray.all (dP fs)=true:=by simpa using h
theorem CR.cl {T:Array aF}(H:d.Ok){g:aO}{args:List cJ}{jM:Array aN}{Ψ:Pr->gN->aF->aE->Prop}{N5:Array aF}
 (hc:CF d g N5 K l w Ψ) (hk:∀K' l' v w',K.le K'->Ψ K' l' v w'->CR d f ops rest ⟨[],K',l',(b7 ⟨T,[]⟩ o.dst v).tmps,w'⟩ Φ)
 (ho:ops[i]? =some o:=by exact zbS rfl (by conv=>lhs;whnf)) (hop:o.op=.call ⟨.value (.func g),args.toArray,jM⟩:=by exact rfl) (cF:cO o (cS ops T)=true:=by exact rfl) (rS:args.all (dP d.fs)=true:=by exact rfl) (ha:args.toArray.map (bE T []).eval=N5:=by(simp only[List.map_toArray,List.map_cons,List.map_nil];rfl)):CR d f ops (i::rest) ⟨[],K,l,T,w⟩ Φ:=
 CR.call (s:=⟨[],K,l,T,w⟩) H ho cF hop (allx rS) rfl (by rw[ha];exact hc) hk
end
section
variable {P:bT}{o:aX}{Tf:Array aF}{w:aE}{A B C D:Prop}
theorem uX (v:aF)(a:A)(h:A->(aS (bE Tf []).eval o).run P w=.ok (.value v) w:=by(intro e1;(conv at e1=>rhs;whnf);unfold execOp;go_simp)):(aS (bE Tf []).eval o).run P w=.ok (.value v) w:=h a
theorem rd2 (v:aF)(a:A)(b:B)(h:A->B->(aS (bE Tf []).eval o).run P w=.ok (.value v) w:=by(intro e1 e2;(conv at e1=>rhs;whnf);unfold execOp;go_simp)):(aS (bE Tf []).eval o).run P w=.ok (.value v) w:=h a b
theorem rd4 (v:aF)(a:A)(b:B)(c:C)(d:D)(h:A->B->C->D->(aS (bE Tf []).eval o).run P w=.ok (.value v) w:=by(intro e1 e2 e3 e4;(conv at e1=>rhs;whnf);unfold execOp;go_simp)):(aS (bE Tf []).eval o).run P w=.ok (.value v) w:=h a b c d
end
def zoe:Go.Code:=(Tryz.f82.body).getD .skip
def rAO1:Go.Code:=match zoe with| .seq _ (.seq (a) _)=>a|_=>.skip
def rAO2:Go.Code:=match zoe with| .seq _ (.seq _ (.seq (a) _))=>a|_=>.skip
def rAO3:Go.Code:=match zoe with| .seq _ (.seq _ (.seq _ (.seq (a) _)))=>a|_=>.skip
def zpb:Array Oper:=match rAO1 with| .region _ ops _=>ops|_=>#[]
abbrev oAO1_0:Oper:=aM zpb 0 (some 10) (.makeChan 84 (.const (.int .i64 0)))
def zBm:zpb[0]? =some oAO1_0:=rfl
def zo9:Array Oper:=match rAO2 with| .region _ ops _=>ops|_=>#[]
abbrev oAO2_12:Oper:=aM zo9 12 none (.send (.tmp 18) (.tmp 22))
def zDe:zo9[12]? =some oAO2_12:=rfl
def zqo:Array Oper:=match rAO3 with| .region _ ops _=>ops|_=>#[]
abbrev oAO3_1:Oper:=aM zqo 1 (some 24) (.recv 84 (.tmp 23) false)
def zGw:zqo[1]? =some oAO3_1:=rfl
def fokAO:wM aK 82:=⟨_,zsN,.inr (.inl ⟨_,rfl⟩)⟩
theorem zCh:∃ie,aK.info? 3=some ie/\ie.zero=some (.int .i64 0):=by
 obtain⟨i0,hi,gA,_,_⟩:=info_parts zGH;exact⟨i0,hi,gA⟩
theorem zbp {e:Iq}(H:e.d.Ok){K:Pr}{k q:Nat}{w:aE}{lo hb:Nat}{v:fH}{d:oG}{kd cl anz:Int}(h:bG w lo hb v d)(hW:e.W[k]? =some (.ask q kd cl anz))(hq:q<d.qn.length)(zC:q<=100)(hK:∀(i g:Nat),d.qn[i]? =some g->K g (qa e.qs i)):
 CF e.d 82 #[.pointer (some ⟨hb,0,none⟩),.int .i64 ((q:Int)+1),.int .i64 kd,.int .i64 cl] K (.wk e.qs k) w (λK' l' x w'=>l'=.wk e.qs (k+1)/\x=.int .i64 anz/\w'=w.alloc pN):=by
 refine CF.of 25 zsN (.inr (.inl ⟨_,rfl⟩)) ?_;obtain⟨AQ,cQ,zaA,hs⟩:=G8 h.Q aH;obtain⟨bq,off,g,rfl,hg,hv⟩:=zgn hs hq;have ze3:=aI h.blk 6;have k6:w.cell? ⟨hb,6,none⟩=some (.slice (some ⟨bq,off,none⟩) d.qn.length cQ):=by rw[ze3,<-zaA];rfl
 have zHi:=hK q g hg;obtain⟨ie,jK,hz⟩:=zCh;clear ze3 zaA hs hg hK h;refine CW.sq H ?_;refine CW.pQ H fokAO (λTp Q HQ=>?_);go_wp2;refine HQ.o _ _ ?_;clear HQ;refine CW.tape (s:=⟨[],K,.wk e.qs k,_,w⟩) ?_ Tp 0;refine CW.sq H ?_;refine CW.rg H [0,1] ?_;refine CR.make H zBm rfl rfl zr7 jK rfl (λa=>?_);simp only[b7,gF,dY,dX];refine CR.mv H (.chan (some w.heap.size)) ?_;refine CR.nil H ?_;have zvq:(w.alloc pN).cell? ⟨hb,6,none⟩=some (.slice (some ⟨bq,off,none⟩) d.qn.length cQ):=B7 k6 _;have ztw:(w.alloc pN).cell? ⟨bq,off+q,none⟩=some (.chan (some g)):=B7 hv _;have i0:(0:Int)<=(q:Int):=aC;have i1:(q:Int)<(d.qn.length:Int):=aC;generalize eD:w.alloc pN=w1 at zvq ztw;refine CW.sq H ?_;refine CW.rg H [0,1,2,3,4,5,6,7,8,9,10,11,12] ?_;refine CR.mv H (.pointer (some ⟨hb,0,none⟩)) ?_;refine CR.mv H (.pointer (some ⟨hb,0,none⟩)) ?_;refine CR.mg H (.pointer (some ⟨hb,6,none⟩)) ?_;refine CR.mv H (.slice (some ⟨bq,off,none⟩) d.qn.length cQ) ?_ (hx:=λT=>by have hh:(Tt.tp w1 T 0).cell? _=_:=zvq;unfold aS;go_simp);refine CR.mv H (.int .i64 ((q:Int)+1)) ?_;refine CR.mv H (.int .i64 (q:Int)) ?_ (hx:=λT=>by unfold aS;go_simp;try exact Gu aC aC);refine CR.mg H (.pointer (some ⟨bq,off+q,none⟩)) ?_;refine CR.mv H (.chan (some g)) ?_ (hx:=λT=>by have hh:(Tt.tp w1 T 0).cell? _=_:=ztw;unfold aS;go_simp);refine CR.mv H (.int .i64 kd) ?_;refine CR.mv H (.int .i64 cl) ?_;refine CR.mv H (.chan (some w.heap.size)) ?_;refine CR.mv H (.agg #[.int .i64 kd,.int .i64 cl,.chan (some w.heap.size)]) ?_ (hx:=λT=>by unfold aS;go_simp;try rfl);refine CR.ask H (k:=k) (q:=q) (a:=a) zDe rfl rfl rfl rfl rfl hW rfl rfl (.inl zHi) rfl (.inr ⟨rfl,rfl⟩) ?_
 try simp only[b7,gF,dY,dX]
 refine CR.nil H ?_;refine CW.sq H ?_;refine CW.rg H [0,1,2] ?_;refine CR.mv H (.chan (some w.heap.size)) ?_;refine CR.ans H (k:=k) (q:=q) (a:=a) zGw rfl rfl zr7 jK hz rfl rfl hW rfl rfl (.inr ⟨rfl,rfl⟩) ?_;simp only[b7,gF,dY,dX];refine CR.mv H (.int .i64 anz) ?_;refine CR.nil H ?_;refine CW.rt H ?_;exact⟨.inr rfl,rfl,.int .i64 anz,rfl,rfl,rfl,aQ⟩
end Go.Proofs.YtfcjiloojkjaeaaGreatDoor
namespace Go.Proofs.YtfcjiloojkjaeaaGreatDoor
open Go.RowKit
variable {v v':fH}{d:oG}
theorem fZ.of (h:fZ v d)(hc:v'.pC=v.pC)(ho:v'.pO=v.pO)(hm:v'.pM=v.pM){d':oG}(hr:d'.r.recs=d.r.recs)(hl:d'.ln=d.ln):fZ v' d':=by
 obtain⟨a,b,c,e,f,g,i,j⟩:=h;exact⟨by rw[hc];exact a,by rw[ho];exact b,by rw[hm];exact c,by rw[hc,hr,hl];exact e,by rw[ho,hr,hl];exact f,by rw[ho,hr];exact g,by rw[hm,hr];exact i,by rw[hm,hr];exact j⟩
structure Xt (B:Nat)(w:aE)(hb:Nat)(v:fH)(s:aF)(xs:List bN):Prop where
 row:w.ownsRow B 149 2 s xs.length (bH xs)
 ap:∀b,s.ownBlock=some b->some b∉parts v hb
variable {B hb:Nat}{w:aE}{s:aF}{xs:List bN}
def Xt.lt (h:Xt B w hb v s xs):∀b,s.ownBlock=some b->B<=b/\b<w.heap.size:=λb e=>h.row.lt b e
theorem Xt.turn {w':aE}(h:Xt B w hb v s xs)(t:bP hb v w v' w'):Xt B w' hb v' s xs:=
 ⟨cM h.row λb e=>t.block b (h.lt b e).2 (h.ap b e),λb e x=>(t.moved b x).elim (h.ap b e) λy=>by have:=(h.lt b e).2;omega⟩
def wY (d:oG)(m:Int)(k:Nat):oG:={d with r:={(dC d.r m k).1 with wait:=d.r.wait}}
structure Eo (w:aE)(lo hb:Nat)(v:fH)(d:oG)(m:Int)(k:Nat)(v1:fH)(s:aF)(wr:aE):Prop where
 at_:bG wr lo hb v1 (wY d m k)
 mr:fZ v1 {d with r:=(dC d.r m k).1}
 tn:bP hb v w v1 wr
 kp:Am v v1
 sW:v1.sW=v.sW
 so:Xt w.heap.size wr hb v1 s (tW d.r m k)
def below_drewN (n:Nat):Below w.heap.size w (w.drewN n):=⟨rfl,rfl,rfl,bL _,λ_ _=>rfl⟩
variable {lo k:Nat}{m:Int}{v1:fH}
def Eo.below {wr w':aE}(h:Eo w lo hb v d m k v1 s wr)(b9:Below wr.heap.size wr w'):Eo w lo hb v d m k v1 s w':=
 ⟨h.at_.below b9,h.mr,h.tn.trans (bP.below b9),h.kp,h.sW,h.so.turn (bP.below b9)⟩
variable {x:bN}
theorem Eo.more {n:Nat}{s':aF}{wr w':aE}(h:Eo w lo hb v d m k v1 s wr)(hg:wr.grownBy w' s.ownBlock)(dF:w'.ownsRow w.heap.size 149 2 s' n (bH (tW d.r m k)++x.cells))(hn:n=(tW d.r m k).length+1)
 (fA:s'.ownBlock=s.ownBlock\/∀b,s'.ownBlock=some b->wr.heap.size<=b) (e1:dC d.r m (k+1)=dC d.r m k) (e2:tW d.r m (k+1)=tW d.r m k++[x]):Eo w lo hb v d m (k+1) v1 s' w':=by
 have e3:wY d m (k+1)=wY d m k:=by unfold wY;rw[e1]
 refine⟨by rw[e3];exact h.at_.grown hg h.so.ap,by rw[e1];exact h.mr,h.tn.grown hg λb e=>(h.so.lt b e).1,h.kp,h.sW,⟨?_,λb e x=>?_⟩⟩
 .rw[e2]
  have:bH (tW d.r m k++[x])=bH (tW d.r m k)++x.cells:=by simp[bH]
  rw[this,jZ];subst hn;exact dF
 .rcases fA with fA|fA
  .exact h.so.ap b (fA▸e) x
  .have:=fA b e;have:=(h.at_.lt b x).2;omega
theorem zFe {i:Nat}(e1:dC d.r m (k+1)=({lN (dC d.r m k).1 i Gn with back:=(dC d.r m k).1.back++[x]},(dC d.r m k).2++[32]++jH x.c)):
 wY d m (k+1)={wY d m k with r:={(wY d m k).r with recs:=(wY d m k).r.recs.modify i (λz=>{z with t:=(wY d m k).r.clk,e:=Gn}),back:=(wY d m k).r.back++[x]}}:=by
 unfold wY;rw[e1];rfl
theorem Eo.fin {wr:aE}(h:Eo w lo hb v d m k v1 s wr)(hk:k=d.r.wait.length)(T:TK d m k)(eF:lo<=w.heap.size)(ha:bG w lo hb v d):
 bG (wr.setCell ⟨hb,7,none⟩ s) lo hb {v1 with sW:=s} {d with r:=(uQ d.r m).1}/\fZ {v1 with sW:=s} {d with r:=(uQ d.r m).1}/\bP hb v w {v1 with sW:=s} (wr.setCell ⟨hb,7,none⟩ s)/\Am v {v1 with sW:=s}:=by
 subst hk;have e0:=TK.end_ T;have e1:(dC d.r m d.r.wait.length).1=(uQ d.r m).1:=by rw[zbV]
 have h1:=h.at_.newW (zqC h.so.row eF) rfl h.so.ap;have e2:{wY d m d.r.wait.length with r:={(wY d m d.r.wait.length).r with wait:=tW d.r m d.r.wait.length}}=({d with r:=(uQ d.r m).1}:oG):=by
  unfold wY;simp only[e1,<-e0]
 refine⟨by rw[<-e2];exact h1,?_,⟨?_,λb b9 hn=>?_,λb hx=>?_⟩,h.kp⟩
 .have:=h.mr
  rw[e1] at this;exact fZ.of (v':={v1 with sW:=s}) this rfl rfl rfl rfl rfl
 .rw[wR];exact h.tn.size
 .exact(dU wr _ _ b (λe=>hn ztA)).trans (h.tn.block b b9 hn)
 .have hp:parts {v1 with sW:=s} hb=(parts v1 hb).set 5 s.ownBlock:=rfl
  rw[hp] at hx;rcases List.mem_or_eq_of_mem_set hx with hx|hx
  .exact h.tn.moved b hx
  .exact .inr (h.so.lt b hx.symm).1
theorem zEj (h:bG w lo hb v d)(mr:fZ v d)(hi:y9 d)(eF:lo<=w.heap.size)(ht:Bw lo w)(hm:0<=m)(hc:d.r.clk+m<=100000)(zaj:d.r.back.length+d.r.wait.length<=5000):
 Calls aK 105 #[.pointer (some ⟨hb,0,none⟩),.int .i64 m] w λe w'=>e=.returned (.string ⟨(uQ d.r m).2.toArray⟩)/\∃v',bG w' lo hb v' {d with r:=(uQ d.r m).1}/\fZ v' {d with r:=(uQ d.r m).1}/\bP hb v w v' w'/\Am v v':=by
 have zjC:=aD (TK.all hi hm hc zaj);have zle:=hi.sm.clk.1;have zgP:=hi.sm.nw;obtain⟨zKb,zL2⟩:=(C9 hi.R.off).2.2.2.2;obtain⟨AW,cW,Mj,Mr⟩:=G8 h.W aH;obtain⟨n,hn⟩:=aT d.r.wait.length;obtain⟨ck,Iz⟩:=aT d.r.clk;have zsZ:=aI h.blk 11;have Fb:w.cell? ⟨hb,11,none⟩=some (.int .i64 ck):=by rw[zsZ,Iz];rfl
 have kf:=eW h.blk;obtain⟨a1,t1⟩:=h.putClk (ck+m);have Tr:wY d m 0={d with r:={d.r with clk:=ck+m}}:=by rw[Iz];rfl
 rw[<-Tr] at a1;have I1:=aD (show Eo w lo hb v d m 0 v (.slice none 0 0) _ from⟨a1,mr.of rfl rfl rfl rfl rfl,t1,Am.rf v,rfl,⟨⟨rfl,.inl ⟨rfl,rfl⟩⟩,λb e=>by cases e⟩⟩);have E6:=aD (ht.turn h eF t1);have HN:=aD hn;have Hy:=aD Iz;have Bv:=aD (show v.sW=.slice AW n cW by rw[hn];exact Mj);have L2:n<=1000:=aC;rw[<-Iz] at hc zle;have Lm:=aD eF;have zK3:=aD ht;have HH:=aD h;clear hn Iz Mj Mr a1 t1 Tr h mr hi eF ht zsZ zgP
 go_enter Tryz.func105,Tryz.ntmps105
 go_upto_region 2 with fail
 obtain⟨W1,cV⟩:=aT (w.setCell ⟨hb,11,none⟩ (.int .i64 (ck+m)));rw[<-cV] at I1 E6⊢;clear cV Fb kf;have Fb:W1.cell? ⟨hb,11,none⟩=some (.int .i64 (ck+m)):=by
  have:=aI I1.o.at_.blk 11;rw[this,Hy.o];rfl
 have Jm:=Pg (c:=ck+m) aC aC
 go_upto_region 3 with(go_at_call 112;refine(zA0 E6.o (ck+m) aC aC).mono ?_;rintro x w3 ⟨rfl,Vw⟩;have wO:=aD Vw;clear Vw)
 have I3:=aD (I1.o.below wO.o);clear Fb I1 E6 wO;have k7:w3.cell? ⟨hb,7,none⟩=some (.slice AW n cW):=by
  have:=aI I3.o.at_.blk 7;rw[this,<-Bv.o];rfl
 have zlO:=aD (show(⟨([97,116,32]++jH (ck+m):List UInt8).toArray⟩:ByteArray)=⟨(dC d.r m 0).2.toArray⟩ by rw[Hy.o];rfl)
 go_wp2_with fail
 go_loopw [5,6,28] (λt s i wr=>∃(k:Nat) (v1:fH) (A:Option bC) (n2 c2:Nat),k<=n/\i=.int .i64 k/\t=.string ⟨(dC d.r m k).2.toArray⟩/\s=.slice A n2 c2/\Eo w lo hb v d m k v1 (.slice A n2 c2) wr) (λ_ _ i _=>n-(intOf i).toNat)
 case atStart=>
  refine⟨0,v,none,0,0,mK _,rfl,?_,rfl,I3.o⟩;rw[<-zlO.o];congr 1
 case round=>
  obtain⟨k,v1,A2,n2,c2,hk,rfl,rfl,rfl,hI⟩:=hrel;have HI:=aD hI;have T:=zjC.o k (by have:=HN.o;omega);have zeN:(dC d.r m k).2.length<=40000:=by have:=T.txt;omega
  have jO:n2=(tW d.r m k).length:=by
   rcases hI.so.row.2 with⟨e,h0⟩|⟨g,cap,cur,e,_⟩
   .injection e with e1 e2 e3;rw[e2];exact h0.symm
   .injection e with e1 e2 e3
  have Yc:n2<=1000:=by have:=T.le;omega
  have vJ:=aD jO;clear hI jO;by_cases aU:k<n
  .have hW:=HI.o.at_.W
   rw[HI.o.sW,Bv.o] at hW;have hW:wr.ownsRow lo 149 2 (.slice AW n cW) n (bH d.r.wait):=by
    have e:(wY d m k).r.wait.length=n:=HN.o.symm;rw[e] at hW;exact hW
   obtain⟨bW,zMn,x,hA,lQ,fG,e0,e1⟩:=zfp (Be hW aH) aU;subst hA;obtain⟨i,y,nx⟩:=T.next fG;obtain⟨gL,On,hO,hM,hC⟩:=HI.o.mr.onLine T.i nx.hy nx.op nx.c;obtain⟨gR,cR,zvF⟩:=ziP HI.o.at_ nx.hy;obtain⟨Rc,Iu⟩:=nx.b;obtain⟨Ld,zHL⟩:=nx.f;rw[<-Hy.o] at zHL;have i0:(0:Int)<=(k:Int):=aC;have i1:(k:Int)<(n:Int):=aC;have NX:=aD nx;have zkp:=aD fG;have HL:=aD (And.intro On (And.intro hO (And.intro hM hC)));have vT:=aD zvF;have HT:=aD T;clear hW nx fG On hO hM hC zvF T lQ
   go_upto_region 7 with fail
   obtain⟨W4,rE⟩:=aT (wr.alloc (.cells #[.int .i64 x.c,.int .i64 x.p] 149));have I4:=aD (show Eo w lo hb v d m k v1 (.slice A2 n2 c2) W4 by rw[rE];exact HI.o.below (eT (fK _ _) _));have vE:W4.heap[wr.heap.size]? =some (.cells #[.int .i64 x.c,.int .i64 x.p] 149):=by rw[rE];exact gV _ _
   have W9:=aD vE;have g0:=aI vE 0;have g1:=aI vE 1;have zuJ:=aD (show some wr.heap.size∉parts v1 hb from λh=>by have:=(HI.o.at_.lt _ h).2;omega);obtain⟨gx,zpI⟩:∃y,y=wr.heap.size:=⟨_,rfl⟩;rw[<-rE];rw[<-zpI] at g0 g1 W9 zuJ⊢;clear rE vE e0 e1 zpI;have Fb:W4.cell? ⟨hb,11,none⟩=some (.int .i64 (ck+m)):=by
    have:=aI I4.o.at_.blk 11;rw[this];show some (Lx .i64 (dC d.r m k).1.clk)=_;rw[HT.o.clk,Hy.o]
   have k2:W4.cell? ⟨hb,2,none⟩=some (.int .i64 d.r.o.pt):=by
    have:=aI I4.o.at_.blk 2;rw[this];show some (Lx .i64 (dC d.r m k).1.o.pt)=_;rw[HT.o.o]
   have k3:=(I4.o.at_.recAt vT.o NX.o.hy (j:=3) (u:=.int .i64 y.f) aH rfl).1;have HE:=aD (λnq:Nat=>Calls.quiet_of (w:=W4) (n:=nq) ((zfa (w:=W4.drewN nq) (I4.o.at_.same rfl) vT.o NX.o.hy HL.o.2.2.1).mono λe w' hh=>⟨hh.1,1,hh.2⟩));by_cases hp:ck+m-y.f<d.r.o.pt
   .go_quiet ((go_at_call 115;exact HE.o _))
    go_upto_region 8 with fail
    obtain⟨wz,tD⟩:=aT (W4.drewN nq);rw[<-tD];have IZ:=aD (show Eo w lo hb v d m k v1 (.slice A2 n2 c2) wz by rw[tD];exact I4.o.below (below_drewN nq));have zjl:wz.heap[gx]? =some (.cells #[.int .i64 x.c,.int .i64 x.p] 149):=by rw[tD];exact W9.o
    have g0:=aI zjl 0;have g1:=aI zjl 1;clear tD;obtain⟨OB,zaY⟩:=aT (.cells #[.int .i64 x.c,.int .i64 x.p] 149:Obj);have zwI:=aD (IZ.o.below (eT (fK _ _) OB));have zn4:=zwI.o.so.row;rw[<-vJ.o] at zn4;obtain⟨q1,q2,w5,fM,dF,nA,fA⟩:=Nl (t:=69) (ty:=69) zdv Tryz.underlying69 rfl aH zn4 (g:=wz.heap.size) (cs:=#[.int .i64 x.c,.int .i64 x.p]) (news:=bN.cells x) (by rw[zaY];exact gV _ _) rfl (m:=1) rfl aH Rz aC aH (by have:=IZ.o.tn.size;simp;omega);rw[zaY] at fM;have AP:=aD fM;clear fM zn4 Fb k2 k3
    go_upto_region 12 with(at_builtin;refine ztl rfl (.tmp 50) (.tmp 52) 69 69 rfl (.slice A2 n2 c2) (.slice (some ⟨wz.heap.size,0,none⟩) 1 1) (.slice (some ⟨q1,0,none⟩) (n2+1) q2) rfl rfl AP.o ?_)
    have IM:=aD (zwI.o.more nA (x:=x) dF (by rw[vJ.o]) fA (NX.o.not_ zku).1 (NX.o.not_ zku).2);have ET:=aD (NX.o.not_ zku).1;clear AP dF nA fA g0 g1 zjl;go_wp2;go_roundw
    case rel=>exact⟨k+1,v1,some ⟨q1,0,none⟩,n2+1,q2,aC,qJ,by rw[ET.o],rfl,IM.o⟩
    case measure=>simp[intOf];omega
   .have zqB:d.r.o.pt<=d.r.clk+m-y.f:=by have:=Hy.o;omega
    obtain⟨E1,E2⟩:=NX.o.tired zqB;have cN:=aD E1;have n9:=aD E2;have zEW:=aD (show some gx∉parts v1 hb from zuJ.o);clear E1 E2 zqB
    go_quiet ((go_at_call 115;exact HE.o _))
    go_upto_region 9 with fail
    obtain⟨wz,tD⟩:=aT (W4.drewN nq);rw[<-tD];have IZ:=aD (show Eo w lo hb v d m k v1 (.slice A2 n2 c2) wz by rw[tD];exact I4.o.below (below_drewN nq));have zw5:=aD (show wz.heap[gx]? =some (.cells #[.int .i64 x.c,.int .i64 x.p] 149) by rw[tD];exact W9.o);clear tD Fb k2 k3 g0 g1;have g0:=aI zw5.o 0
    go_upto_region 10 with(go_at_call 116;refine(zmk (e:=⟨#[116,105,114,101,100]⟩) IZ.o.at_ NX.o.hy HL.o.2.1 HL.o.2.2.2 HL.o.2.2.1 vT.o).mono ?_;rintro en w5 ⟨rfl,v5,a5,t5,p5⟩;have A5:=aD a5;have T5:=aD t5;have P5:=aD p5;clear a5 t5 p5)
    obtain⟨zkh,zqG⟩:=IZ.o.at_.turned T5.o zw5.o zEW.o;have zCa:=aD (fZ.of (v':=v5) (IZ.o.mr.clear HT.o.i.S HT.o.i.ndl (λz hz=>(HT.o.i.lb z hz).1) NX.o.hy NX.o.op HL.o.1 (f:=λz=>{z with t:=(dC d.r m k).1.clk,e:=Gn}) (λz=>⟨rfl,rfl⟩) zi6) P5.o.1 (by rw[P5.o.2.1,NX.o.c]) P5.o.2.2.1 rfl rfl);have zIg:=aD (IZ.o.so.turn T5.o);have Dy:=aD zkh;have k8:w5.cell? ⟨hb,8,none⟩=some v5.sB:=aI A5.o.blk 8;have g5:=aI zkh 0;obtain⟨OC,zag⟩:=aT (.cells #[.int .i64 x.c] 3:Obj);have a5:=(A5.o.alloc OC).drew;have oF:(dC d.r m k).1.back.length<=5000:=HT.o.i.sm.nb;obtain⟨q1,q2,w6,fM,dF,nA,fA⟩:=Nl (t:=38) (ty:=38) zbi Wv rfl aH a5.B (g:=w5.heap.size) (cs:=#[.int .i64 x.c]) (news:=[.int .i64 x.c]) (by rw[zag];exact gV _ _) rfl (m:=1) rfl aH Oj (by show(dC d.r m k).1.back.length+1<=_;omega) aH (by have:=IZ.o.tn.size;have:=T5.o.size;have:=Lm.o;simp;omega);obtain⟨a6,t6⟩:=a5.putB nA (xs:=(dC d.r m k).1.back++[x]) (by have e:jY (((dC d.r m k).1.back++[x]).map bN.c)=jY ((dC d.r m k).1.back.map bN.c)++[.int .i64 x.c]:=(by simp[jY]);rw[e];exact dF) (by simp;rfl) fA;have A6:=aD (show bG (w6.setCell ⟨hb,8,none⟩ (.slice (some ⟨q1,0,none⟩) ((dC d.r m k).1.back.length+1) q2)) lo hb {v5 with sB:=.slice (some ⟨q1,0,none⟩) ((dC d.r m k).1.back.length+1) q2} (wY d m (k+1)) by rw[zFe cN.o];exact a6);have T6:=aD (show bP hb v5 w5 {v5 with sB:=.slice (some ⟨q1,0,none⟩) ((dC d.r m k).1.back.length+1) q2} (w6.setCell ⟨hb,8,none⟩ (.slice (some ⟨q1,0,none⟩) ((dC d.r m k).1.back.length+1) q2)) from(bP.below (eT (fK _ w5) OC)).trans (⟨t6.size,t6.block,t6.moved⟩:bP hb v5 (w5.alloc OC) _ _));have Li:w6.heap[hb]? =some (Oa v5 _):=(a5.other (j:=6) (c:=8) (x:=v5.sB) rfl aH nA (.slice (some ⟨q1,0,none⟩) ((dC d.r m k).1.back.length+1) q2)).2.trans a5.blk;have Qf:=aI Li 8;have kf:=eW Li 8;have AP:=aD fM;clear dF nA fA a6 t6 a5 Li fM zkh g0;rw[zag] at AP;refine wp_WA10 w5 w6 hb gx q1 ((dC d.r m k).1.back.length+1) q2 v5.sB x.c rfl rfl rfl k8 g5 AP.o Qf kf rfl ?_;rw[Go.Mt.zO,zyi];simp only[Go.Mt.wV,dY,dX,zjF,lWA10,En,Es];obtain⟨W7,Cm⟩:=aT (w6.setCell ⟨hb,8,none⟩ (.slice (some ⟨q1,0,none⟩) ((dC d.r m k).1.back.length+1) q2));rw[<-Cm] at A6 T6⊢;clear Cm k8 Qf kf g5 AP;have g7:=aI (A5.o.turned T6.o Dy.o zqG).1 0;have zJT:=Pg (c:=x.c) aC aC
    have I7:=aD (show Eo w lo hb v d m (k+1) {v5 with sB:=.slice (some ⟨q1,0,none⟩) ((dC d.r m k).1.back.length+1) q2} (.slice A2 n2 c2) W7 from
     ⟨A6.o,by rw[cN.o];refine fZ.of zCa.o ?_ ?_ ?_ ?_ ?_<;>rfl,(IZ.o.tn.trans T5.o).trans T6.o,⟨P5.o.2.2.2.2.1.trans IZ.o.kp.1,P5.o.2.2.2.2.2.1.trans IZ.o.kp.2.1,P5.o.2.2.2.2.2.2.2.2.1.trans IZ.o.kp.2.2.1,P5.o.2.2.2.2.2.2.2.2.2.trans IZ.o.kp.2.2.2⟩,P5.o.2.2.2.2.2.2.1.trans IZ.o.sW,by rw[n9.o];exact zIg.o.turn T6.o⟩)
    clear T5 zqG A6 T6
    go_wp2_with (go_at_call 112;refine(znd x.c aC aC _).mono ?_;rintro en w8 ⟨rfl,Kb⟩;obtain rfl:=Kb)
    go_roundw
    case rel=>exact⟨k+1,_,A2,n2,c2,aC,qJ,by rw[cN.o];simp[Oy],rfl,I7.o⟩
    case measure=>simp[intOf];omega
  .have e:k=n:=aC
   subst e;obtain⟨F1,F2,F3,F4⟩:=HI.o.fin HN.o T Lm.o HH.o;have FF:=aD (And.intro F1 (And.intro F2 (And.intro F3 F4)));have k7:wr.cell? ⟨hb,7,none⟩=some v1.sW:=aI HI.o.at_.blk 7;have Z0:wr.cell? ⟨hb,7,none⟩=some (.slice AW k cW):=by rw[k7,HI.o.sW,Bv.o]
   have kf:=eW HI.o.at_.blk;have HR:=aD (show(⟨(dC d.r m k).2.toArray⟩:ByteArray)=⟨(uQ d.r m).2.toArray⟩ by rw[<-zbV,<-HN.o]);clear F1 F2 F3 F4 k7;go_wp2;go_ret;exact⟨by rw[HR.o];rfl,_,FF.o⟩
end Go.Proofs.YtfcjiloojkjaeaaGreatDoor
namespace Go.Proofs.YtfcjiloojkjaeaaGreatDoor
open Go.RowKit Go.Mt Go.Conc Go.Tt Go.Maps
section
variable {d:pY}{f:aO}{s:WS}{ops:Array aX}{i:Nat}{rest:List Nat}{Φ:WS->Prop}{o:aX}
theorem CR.call' (H:d.Ok){g:aO}{args:Array cJ}{jM:Array aN}{Ψ:Pr->gN->aF->aE->Prop}(N5:Array aF)(ho:ops[i]? =some o)(cF:cO o (cS ops s.T)=true)(hop:o.op=.call ⟨.value (.func g),args,jM⟩)(rS:args.all (dP d.fs)=true)(sG:s.chs=[])(ha:args.map (bE s.T []).eval=N5)
 (hc:CF d g N5 s.K s.l s.w Ψ) (hk:∀K' l' v w',s.K.le K'->Ψ K' l' v w'->CR d f ops rest ⟨[],K',l',(b7 ⟨s.T,[]⟩ o.dst v).tmps,w'⟩ Φ):CR d f ops (i::rest) s Φ:=
 CR.call H ho cF hop rS sG (by rw[ha];exact hc) hk
end
variable {w:aE}{lo hb:Nat}{v:fH}{d:oG}
def bG.tp (h:bG w lo hb v d)(T:kS)(n:Nat):bG (Tt.tp w T n) lo hb v d:=h.same rfl
variable {w':aE}{v':fH}
def bP.tp (h:bP hb v w v' w')(T:kS)(n:Nat):bP hb v w v' (Tt.tp w' T n):=h.same rfl
def zcB:wM aK 120:=⟨_,zrx,.inr (.inl ⟨_,rfl⟩)⟩
variable {e:Iq}{K:Pr}{k q i:Nat}{c:Int}{x:bV}
theorem zvV (H:e.d.Ok)(h:bG w lo hb v d)(hW:e.W[k]? =some (.ask q 1 c c))(hq:q<d.qn.length)(zC:q<=100)(hK:∀(i g:Nat),d.qn[i]? =some g->K g (qa e.qs i))
   (hx:d.r.recs[i]? =some x) (hM:lH c v.pM=some (.int .i64 (i:Int))) (Z2:1<=c) (wZ:c<=99):
 CF e.d 120 #[.pointer (some ⟨hb,0,none⟩),.int .i64 ((q:Int)+1),.int .i64 c] K (.wk e.qs k) w (λK' l' y w'=>l'=.wk e.qs (k+1)/\y=.string ⟨([99,97,108,108,32]++jH c).toArray⟩/\bG w' lo hb v {d with r:={d.r with recs:=d.r.recs.modify i λz=>{z with o:=(q:Int)+1,h:=d.r.clk}}}/\bP hb v w v w'):=by
 refine CF.of 29 zrx (.inr (.inl ⟨_,rfl⟩)) ?_;have HX:=aD hx;have HM:=aD hM;obtain⟨gR,cR,hR⟩:=ziP h hx;have HR:=aD hR;clear hx hM hR;refine CW.sq H ?_;refine CW.pQ H zcB (λTp Q HQ=>?_);go_wp2;refine HQ.o _ _ ?_;clear HQ;refine CW.tape (s:=⟨[],K,.wk e.qs k,_,w⟩) ?_ Tp 0;refine CW.sq H ?_;refine CW.rg H [0,1,2,3] ?_;refine CR.mv H (.pointer (some ⟨hb,0,none⟩)) ?_;refine CR.mv H (.int .i64 ((q:Int)+1)) ?_;refine CR.mv H (.int .i64 c) ?_;refine CR.cl H (zbp H h hW hq zC hK) (λK' l' y w' hl qP=>?_);obtain⟨rfl,rfl,lX⟩:=qP;simp only[b7,gF,dY,dX];have A1:=aD (show bG w' lo hb v d by rw[lX];exact h.alloc _);have T1:=aD (show bP hb v w v w' by rw[lX];exact bP.below (eT (fK _ _) _));clear h hW hq zC hK lX;refine CR.nil H ?_;refine CW.sq H ?_;refine CW.pQ H zcB (λTp Q HQ=>?_);obtain⟨wa,xZ⟩:=aT (Tt.tp w' Tp 0);have A2:=aD (show bG wa lo hb v d by rw[xZ];exact A1.o.tp Tp 0);have T2:=aD (show bP hb v w v wa by rw[xZ];exact T1.o.tp Tp 0);rw[<-xZ];clear xZ A1 T1
 go_wp2_with (go_at_call 115;refine(zfa A2.o HR.o HX.o HM.o).mono ?_;rintro en w2 ⟨rfl,eZ⟩;obtain rfl:=eZ)
 refine HQ.o _ _ ?_;obtain⟨w2,eZ⟩:=aT wa.drew;rw[<-eZ];have A3:=aD (show bG w2 lo hb v d by rw[eZ];exact A2.o.drew);have T3:=aD (show bP hb v w v w2 by rw[eZ];exact T2.o.same rfl);clear HQ eZ A2 T2;refine CW.sq H ?_;refine CW.pQ H zcB (λzkP Q HQ=>?_);obtain⟨zob,xZ⟩:=aT (Tt.tp w2 zkP 0);have A4:=aD (show bG zob lo hb v d by rw[xZ];exact A3.o.tp zkP 0);have T4:=aD (show bP hb v w v zob by rw[xZ];exact T3.o.tp zkP 0);dsimp only;rw[<-xZ];clear xZ A3 T3;obtain⟨c2,f2⟩:=A4.o.recAt HR.o HX.o (j:=2) (u:=.int .i64 x.o) aH rfl;obtain⟨a5,t5⟩:=A4.o.setR (λz=>{z with o:=(q:Int)+1}) HR.o HX.o (j:=2) (u:=.int .i64 ((q:Int)+1)) aH zpU rfl;have A5:=aD a5;have T5:=aD (T4.o.trans t5);clear a5 t5;go_wp2;refine HQ.o _ _ ?_;clear HQ c2 f2 A4 T4;obtain⟨w5,mV⟩:=aT (zob.setCell ⟨gR,i*7+2,none⟩ (.int .i64 ((q:Int)+1)));rw[<-mV] at A5 T5⊢;clear mV;have zaZ:=aD (show(d.r.recs.modify i λz=>{z with o:=(q:Int)+1})[i]? =some {x with o:=(q:Int)+1} from zeV HX.o);have jW:=aD (show v.sR=.slice (some ⟨gR,0,none⟩) (d.r.recs.modify i λz=>{z with o:=(q:Int)+1}).length cR by rw[List.length_modify];exact HR.o);refine CW.sq H ?_;refine CW.pQ H zcB (λSk Q HQ=>?_);obtain⟨zfz,xZ⟩:=aT (Tt.tp w5 Sk 0);have A6:=aD (show bG zfz lo hb v _ by rw[xZ];exact A5.o.tp Sk 0);have T6:=aD (show bP hb v w v zfz by rw[xZ];exact T5.o.tp Sk 0);dsimp only;rw[<-xZ];clear xZ A5 T5;have Fb:zfz.cell? ⟨hb,11,none⟩=some (.int .i64 d.r.clk):=aI A6.o.blk 11;obtain⟨c4,f4⟩:=A6.o.recAt jW.o zaZ.o (j:=4) (u:=.int .i64 x.h) aH rfl;obtain⟨a7,t7⟩:=A6.o.setR (λz=>{z with h:=d.r.clk}) jW.o zaZ.o (j:=4) (u:=.int .i64 d.r.clk) aH zwG rfl;simp only[zgI] at a7;have A7:=aD a7;have T7:=aD (T6.o.trans t7);clear a7 t7;go_wp2;refine HQ.o _ _ ?_;clear HQ c4 f4 A6 T6 Fb;obtain⟨w7,rZ⟩:=aT (zfz.setCell ⟨gR,i*7+4,none⟩ (.int .i64 d.r.clk));rw[<-rZ] at A7 T7⊢;clear rZ;have Jm:=Pg (c:=c) aC aC;refine CW.sq H ?_;refine CW.pQ H zcB (λWj Q HQ=>?_);dsimp only
 go_wp2_with (go_at_call 112;refine(znd c aC aC _).mono ?_;rintro en w8 ⟨rfl,Kb⟩;obtain rfl:=Kb)
 refine HQ.o _ _ ?_;clear HQ;refine CW.rt H ?_;exact⟨.inr rfl,rfl,.string ⟨([99,97,108,108,32]++jH c).toArray⟩,(by have ee:(⟨#[99,97,108,108,32]⟩:ByteArray)++⟨(jH c).toArray⟩=⟨([99,97,108,108,32]++jH c).toArray⟩:=(by simp[Oy]);rw[<-ee];rfl),rfl,rfl,A7.o.tp Wj 0,T7.o.tp Wj 0⟩
structure zc0 (qs:List Nat)(lo hb:Nat)(v:fH)(d:oG)(w:aE)(k n:Nat)(R:cC×List UInt8)(l':gN)(y:aF)(w':aE):Prop where
 l:l'=.wk qs (k+n)
 y:y=.string ⟨R.2.toArray⟩
 x:∃v',bG w' lo hb v' {d with r:=R.1}/\fZ v' {d with r:=R.1}/\bP hb v w v' w'/\Am v v'
def Dj (W:List fC)(k:Nat)(A:List fC):Prop:=∀(j:Nat) (x:fC),A[j]? =some x->W[k+j]? =some x
variable {W A:List fC}
def Dj.head {x:fC}(h:Dj W k (x::A)):W[k]? =some x:=h 0 x rfl
theorem Dj.tail {x:fC}(h:Dj W k (x::A)):Dj W (k+1) A:=λj y hy=>by
 have:=h (j+1) y hy;rw[show k+1+j=k+(j+1) by omega];exact this
variable {n:Nat}
theorem zkb {E s:Nat}{v:aF}{xs:List aF}(h:w.ownsRow lo E s v n xs)(hn:0<n):∃g c,v=.slice (some ⟨g,0,none⟩) n c:=by
 rcases h.2 with⟨_,h0⟩|⟨g,cap,cur,e,_⟩
 .omega
 .exact⟨g,_,e⟩
variable {b:cC}
theorem zyf (hr:RInv b)(op:Int):0<=dO b.recs op/\(dO b.recs op≠0->0<dO b.recs op):=by
 rcases zuY b.recs op with⟨i,x,h1,_,_,h4⟩|⟨_,h4⟩
 .have:=(hr.recB x (fI h1)).1
  rw[h4];omega
 .rw[h4];exact⟨Int.le_refl _,λh=>absurd rfl h⟩
theorem Kv (q:Nat):yV ((q:Int)+1)=q:=by unfold yV;omega
def To:wM aK 103:=⟨_,zyx,.inr (.inl ⟨_,rfl⟩)⟩
theorem cf_pick (H:e.d.Ok)(h:bG w lo hb v d)(mr:fZ v d)(hi:y9 d)(hW:Dj e.W k (Hz d.r ((q:Int)+1)))(hq:q<d.qn.length)(zC:q<=100)(hK:∀(i g:Nat),d.qn[i]? =some g->K g (qa e.qs i)):
 CF e.d 103 #[.pointer (some ⟨hb,0,none⟩),.int .i64 ((q:Int)+1)] K (.wk e.qs k) w (λK' l' y w'=>zc0 e.qs lo hb v d w k (Hz d.r ((q:Int)+1)).length (n6 d.r ((q:Int)+1)) l' y w'):=by
 refine CF.of 35 zyx (.inr (.inl ⟨_,rfl⟩)) ?_;have A0:=aD h;have T0:=aD (bP.refl (hb:=hb) (v:=v) (w:=w));obtain⟨anz,Nd⟩:=aT (dO d.r.recs ((q:Int)+1));have HA:=aD Nd;have HI:=aD hi;have MR:=aD mr;have hg:=zyf hi.R ((q:Int)+1);rw[<-Nd] at hg;have H9:e.W[k]? =some (.ask q 0 0 anz):=by have:=hW.head;rw[Kv,<-Nd] at this;exact this
 have HW:=aD hW;clear h mr hi hW Nd;refine CW.sq H (CW.p0 H To A0 T0 λw1 eD A1 T1=>?_);refine CW.sq H ?_;refine CW.sq H ?_;refine CW.rg H [0,1,2,3] ?_;refine CR.mv H (.pointer (some ⟨hb,0,none⟩)) ?_;refine CR.mv H (.int .i64 ((q:Int)+1)) ?_;refine CR.cl H (zbp H A1.o H9 hq zC hK) (λK' l' y w' hl qP=>?_);obtain⟨rfl,rfl,lX⟩:=qP;simp only[b7,gF,dY,dX];have A2:=aD (show bG w' lo hb v d by rw[lX];exact A1.o.alloc _);have T2:=aD (show bP hb v w v w' by rw[lX];exact T1.o.trans (bP.below (eT (fK _ _) _)));have sN:∀(i g:Nat),d.qn[i]? =some g->K' g (qa e.qs i):=λi g hg=>hl _ _ (hK i g hg);clear lX A1 T1 H9 hK hl;by_cases hz:anz=0
 .
   subst hz;refine nP ?_;refine CR.mg H (.bool false) ?_;refine CR.nil H ?_;refine CW.cd H false ?_;refine CW.sk H ?_;dsimp only;refine CW.sq H ?_;have Fw:¬0<dO d.r.recs ((q:Int)+1):=by rw[<-HA.o];omega
   have HF:=aD Fw;clear hg Fw;obtain⟨AW,cW,Mj,Mr⟩:=G8 A2.o.W aH;have Bv:=aD Mj
   cases cF:d.r.wait with
   |nil=>
    have Pz:=aD cF;have e1:n6 d.r ((q:Int)+1)=(d.r,[110,111,110,101]):=by unfold n6;rw[if_neg HF.o,Pz.o]
    have e2:Hz d.r ((q:Int)+1)=[.ask q 0 0 0]:=by unfold Hz;rw[if_neg HF.o,Pz.o,Kv,<-HA.o]
    have cN:=aD e1;have n9:=aD e2;clear e1 e2;refine CW.sq H (CW.pW H To A2 T2 λw3 Q jB A3 T3 HQ=>?_);have k7:w3.cell? ⟨hb,7,none⟩=some (.slice AW 0 cW):=by
     have:=aI A3.o.blk 7;rw[this,<-show v.sW=.slice AW 0 cW by rw[Bv.o,cF];rfl];rfl
    clear cF Mj Mr;go_wp2;refine HQ.o _ _ ?_;clear HQ;refine CW.cd H true ?_;refine CW.sq H (CW.p0 H To A3 T3 λw4 lW A4 T4=>?_);refine CW.rt H ?_;refine⟨.inr rfl,rfl,.string ⟨#[110,111,110,101]⟩,rfl,⟨by rw[n9.o];rfl,by rw[cN.o],v,?_,?_,?_,Am.rf v⟩⟩
    .rw[cN.o];exact A4.o
    .rw[cN.o];exact MR.o
    .exact T4.o
   |cons c cs=>
    have Pz:=aD cF;obtain⟨i,x,hx,sD,Jq,tM⟩:=HI.o.S.wt c Zl;have fA:iS d.r.recs c.c=some i:=by rw[<-Jq];exact HI.o.S.at_ hx sD
    have Jz:=HI.o.R.waitB c Zl;obtain⟨gL,On,hO,hM,hC⟩:=MR.o.onLine HI.o hx sD Jq;have Qc:dZ (c::cs) c.c=cs:=zg5 (st:=[]) (by have:=HI.o.R.nodup;rw[cF] at this;exact this);have e1:n6 d.r ((q:Int)+1)=({d.r with recs:=d.r.recs.modify i λz=>{z with o:=(q:Int)+1,h:=d.r.clk},wait:=cs},[99,97,108,108,32]++jH c.c):=by
     unfold n6;rw[if_neg HF.o,cF];simp only[fA,Qc]
    have e2:Hz d.r ((q:Int)+1)=[.ask q 0 0 0,.ask q 1 c.c c.c]:=by unfold Hz;rw[if_neg HF.o,cF,Kv,<-HA.o]
    have zb0:e.W[k+1]? =some (.ask q 1 c.c c.c):=by have:=HW.o;rw[e2] at this;exact this.tail.head
    obtain⟨gW,zKc,zfw⟩:=zkb A2.o.W Zl;rw[Mj] at zfw;injection zfw with rF o6 zP;subst rF;have hlen:d.r.wait.length=cs.length+1:=by rw[cF];rfl
    have L2:=HI.o.sm.nw;have zqI:=aD hlen;have Uf:=aD (show v.sW=.slice (some ⟨gW,0,none⟩) (cs.length+1) cW by rw[Bv.o,hlen]);have HX:=aD hx;have HM:=aD hM;have cN:=aD e1;have n9:=aD e2;have zBv:cs.length<=1000:=aC;have Z2:=Jz.1;have wZ:=Jz.2;clear cF hx sD Jq tM fA Jz On hO hM hC Qc e1 e2 Mj Mr Bv hlen L2 o6 zP;refine CW.sq H (CW.pW H To A2 T2 λw3 Q jB A3 T3 HQ=>?_);have k7:w3.cell? ⟨hb,7,none⟩=some (.slice (some ⟨gW,0,none⟩) (cs.length+1) cW):=by
     have:=aI A3.o.blk 7;rw[this,<-Uf.o];rfl
    go_wp2;refine HQ.o _ _ ?_;clear HQ;clear k7;refine CW.cd H false ?_;refine CW.sk H ?_;dsimp only;refine CW.sq H (CW.pW H To A3 T3 λw4 Q lW A4 T4 HQ=>?_);have k7:w4.cell? ⟨hb,7,none⟩=some (.slice (some ⟨gW,0,none⟩) (cs.length+1) cW):=by
     have:=aI A4.o.blk 7;rw[this,<-Uf.o];rfl
    have oJ:w4.ownsRow lo 149 2 (.slice (some ⟨gW,0,none⟩) (cs.length+1) cW) (cs.length+1) (bH (c::cs)):=by
     have:=A4.o.W;rw[Uf.o,Pz.o] at this;exact this
    obtain⟨bW,oW,x',hA,lQ,fG,e0,e1⟩:=zfp (Be oJ aH) (k:=0) aC;injection hA with hA;injection hA with Ab As;subst Ab As;have lZ:c=x':=by simpa using fG
    subst lZ;simp only[Nat.zero_mul,Rp] at e0 e1;clear oJ fG;go_wp2;refine HQ.o _ _ ?_;clear HQ;clear k7 e0 e1 lQ;refine CW.sq H (CW.pW H To A4 T4 λw5 Q mV A5 T5 HQ=>?_);have k7:w5.cell? ⟨hb,7,none⟩=some (.slice (some ⟨gW,0,none⟩) (cs.length+1) cW):=by
     have:=aI A5.o.blk 7;rw[this,<-Uf.o];rfl
    have oJ:w5.ownsRow lo 149 2 (.slice (some ⟨gW,0,none⟩) (cs.length+1) cW) (cs.length+1) (bH (c::cs)):=by
     have:=A5.o.W;rw[Uf.o,Pz.o] at this;exact this
    have Tc:=aD oJ;clear oJ
    go_wp2_with (go_at_call 119;refine(zFz (i:=0) (j:=1) Tc.o (Zu _) aC aC).mono ?_;rintro en w6 ⟨rfl,jX,lC⟩;have Qt:w6.ownsRow lo 149 2 (.slice (some ⟨gW,0,none⟩) cs.length cW) cs.length (bH cs):=jX;have Ch:w5.grownBy w6 v.sW.ownBlock:=(by rw[Uf.o];exact lC);have hq:=(A5.o.other (j:=5) (c:=7) (x:=v.sW) rfl aH Ch (.slice (some ⟨gW,0,none⟩) cs.length cW)).2;have Z0:=aI (hq.trans A5.o.blk) 7;have kf:=eW (hq.trans A5.o.blk) 7;have Ay:=aD (And.intro Qt Ch);clear jX lC Qt Ch hq)
    refine HQ.o _ _ ?_;clear HQ;clear k7 Z0 kf;obtain⟨a6,t6⟩:=A5.o.putW Ay.o.2 Ay.o.1 rfl (.inl (by rw[Uf.o];rfl));have A6:=A5;have T6:=T5;obtain⟨w7,rZ⟩:=aT (w6.setCell ⟨hb,7,none⟩ (.slice (some ⟨gW,0,none⟩) cs.length cW));have A7:=aD (show bG w7 lo hb {v with sW:=.slice (some ⟨gW,0,none⟩) cs.length cW} {d with r:={d.r with wait:=cs}} by rw[rZ];exact a6);have T7:=aD (show bP hb v w {v with sW:=.slice (some ⟨gW,0,none⟩) cs.length cW} w7 by rw[rZ];exact(T5.o.trans t6));rw[<-rZ];clear rZ A6 T6;clear a6 t6 Ay A5 T5;refine CW.sq H ?_;refine CW.rg H [0,1,2,3,4] ?_;refine CR.mv H (.pointer (some ⟨hb,0,none⟩)) ?_;refine CR.mv H (.int .i64 ((q:Int)+1)) ?_;refine CR.mv H (.int .i64 c.c) ?_;refine CR.cl H (zvV H A7.o zb0 hq zC sN HX.o HM.o Z2 wZ) (λK2 l2 y2 w8 zuC qP=>?_);obtain⟨rfl,rfl,a8,t8⟩:=qP;simp only[b7,gF,dY,dX];refine nP ?_;refine CR.mv H (.string ⟨([99,97,108,108,32]++jH c.c).toArray⟩) ?_;refine CR.nil H ?_;refine CW.rt H ?_;refine⟨.inr rfl,rfl,.string ⟨([99,97,108,108,32]++jH c.c).toArray⟩,rfl,⟨by rw[n9.o];rfl,by rw[cN.o],_,?_,?_,T7.o.trans t8,⟨rfl,rfl,rfl,rfl⟩⟩⟩
    .rw[cN.o];exact a8
    .rw[cN.o];refine fZ.of (MR.o.mod (f:=λz=>{z with o:=(q:Int)+1,h:=d.r.clk}) (i:=i) λz=>⟨rfl,rfl,rfl⟩) ?_ ?_ ?_ ?_ ?_<;>rfl
 .
   have aV:0<anz:=hg.2 hz;have oF:(anz !=0)=true:=by simpa using hz
   refine nP ?_;refine CR.mv H (.bool true) ?_ (hx:=λT=>by unfold aS;go_simp;try exact oF);refine CR.nil H ?_;refine CW.cd H true ?_;refine CW.sq H (CW.p0 H To A2 T2 λw3 jB A3 T3=>?_);refine CW.rt H ?_;have Ce:0<dO d.r.recs ((q:Int)+1):=by rw[<-HA.o];exact aV
   have e1:n6 d.r ((q:Int)+1)=(d.r,[116,97,108,107,115]):=by unfold n6;rw[if_pos Ce]
   have e2:Hz d.r ((q:Int)+1)=[.ask q 0 0 anz]:=by unfold Hz;rw[if_pos Ce,Kv,<-HA.o]
   refine⟨.inr rfl,rfl,.string ⟨#[116,97,108,107,115]⟩,rfl,⟨by rw[e2];rfl,by rw[e1],v,?_,?_,?_,Am.rf v⟩⟩
   .rw[e1];exact A3.o
   .rw[e1];exact MR.o
   .exact T3.o
variable {f:bV->bV}
theorem zIR {rs:List bV}:(rs++[x]).modify rs.length f=rs++[f x]:=by
 apply List.ext_getElem?;intro j;rw[List.getElem?_modify];rcases zvW j rs.length with h|h|h
 .rw[N9 h,N9 h]
  have aV:rs.length≠j:=aC;simp[aV]
 .subst h
  rw[O2 (bL _),O2 (bL _),zj3];simp
 .rw[O0 pX,O0 pX];rfl
structure FreeAt (d:oG)(l:Int)(i g:Nat):Prop where
 l:l=(i:Int)+1
 g:d.ln[i]? =some g
 i6:i<=100
 un:rN d.r.recs ((i:Int)+1)=false
variable {l:Int}{ls:List Int}
theorem y9.free (h:y9 d)(hf:o0 d.r.o d.r.recs=l::ls):∃i g,FreeAt d l i g:=by
 have hm:l∈o0 d.r.o d.r.recs:=by rw[hf];simp
 obtain⟨h1,h2⟩:=zfK h.R.off hm;have h3:=(zfc hm).2;have hn:=h.nln;obtain⟨i,rfl⟩:∃i:Nat,l=(i:Int)+1:=⟨(l-1).toNat,aC⟩;have hi:i<d.ln.length:=aC;refine⟨i,_,rfl,nI hi,aC,?_⟩;unfold o0 x4 at hm;have:=(Jo.1 hm).2;simpa using this
theorem ztD (hf:o0 d.r.o d.r.recs=l::ls):I2 d=l-1:=by unfold I2;rw[hf]
theorem zvn (hf:o0 d.r.o d.r.recs=[]):I2 d= -1:=by unfold I2;rw[hf]
def Ha:wM aK 104:=⟨_,zs8,.inr (.inl ⟨_,rfl⟩)⟩
theorem cf_back (H:e.d.Ok)(h:bG w lo hb v d)(mr:fZ v d)(hi:y9 d)(eF:lo<=w.heap.size)(hW:Dj e.W k (Ej d.r ((q:Int)+1)))(hq:q<d.qn.length)(zC:q<=100)(hK:∀(i g:Nat),d.qn[i]? =some g->K g (qa e.qs i)):
 CF e.d 104 #[.pointer (some ⟨hb,0,none⟩),.int .i64 ((q:Int)+1)] K (.wk e.qs k) w (λK' l' y w'=>zc0 e.qs lo hb v d w k (Ej d.r ((q:Int)+1)).length (mQ d.r ((q:Int)+1)) l' y w'):=by
 refine CF.of 43 zs8 (.inr (.inl ⟨_,rfl⟩)) ?_;have A0:=aD h;have T0:=aD (bP.refl (hb:=hb) (v:=v) (w:=w));obtain⟨anz,Nd⟩:=aT (dO d.r.recs ((q:Int)+1));have HA:=aD Nd;have HI:=aD hi;have MR:=aD mr;have Lm:=aD eF;have hg:=zyf hi.R ((q:Int)+1);rw[<-Nd] at hg;have H9:e.W[k]? =some (.ask q 0 0 anz):=by have:=hW.head;rw[Kv,<-Nd] at this;exact this
 have HW:=aD hW;clear h mr hi hW Nd eF;refine CW.sq H (CW.p0 H Ha A0 T0 λw1 eD A1 T1=>?_);refine CW.sq H ?_;refine CW.sq H ?_;refine CW.rg H [0,1,2,3] ?_;refine CR.mv H (.pointer (some ⟨hb,0,none⟩)) ?_;refine CR.mv H (.int .i64 ((q:Int)+1)) ?_;refine CR.cl H (zbp H A1.o H9 hq zC hK) (λK' l' y w' hl qP=>?_);obtain⟨rfl,rfl,lX⟩:=qP;simp only[b7,gF,dY,dX];have A2:=aD (show bG w' lo hb v d by rw[lX];exact A1.o.alloc _);have T2:=aD (show bP hb v w v w' by rw[lX];exact T1.o.trans (bP.below (eT (fK _ _) _)));have sN:∀(i g:Nat),d.qn[i]? =some g->K' g (qa e.qs i):=λi g hg=>hl _ _ (hK i g hg);clear lX A1 T1 H9 hK hl;by_cases hz:anz=0
 .
   subst hz;refine nP ?_;refine CR.mg H (.bool false) ?_;refine CR.nil H ?_;refine CW.cd H false ?_;refine CW.sk H ?_;dsimp only;have HF:=aD (show dO d.r.recs ((q:Int)+1)=0 from HA.o.symm);clear hg;refine CW.sq H ?_;obtain⟨AB,cB,Lb,zap⟩:=G8 A2.o.B aH;have Aj:=aD Lb;clear zap
   cases xU:d.r.back with
   |nil=>
    have Ou:=aD xU;have e1:mQ d.r ((q:Int)+1)=(d.r,[110,111,110,101]):=by unfold mQ;rw[if_neg zac,Ou.o]
    have e2:Ej d.r ((q:Int)+1)=[.ask q 0 0 0]:=by unfold Ej;rw[if_neg zac,Ou.o,Kv,<-HA.o]
    have cN:=aD e1;have n9:=aD e2;clear e1 e2;refine CW.sq H (CW.pW H Ha A2 T2 λw3 Q jB A3 T3 HQ=>?_);have k8:w3.cell? ⟨hb,8,none⟩=some (.slice AB 0 cB):=by
     have:=aI A3.o.blk 8;rw[this,<-show v.sB=.slice AB 0 cB by rw[Aj.o,xU];rfl];rfl
    clear xU Lb;go_wp2;refine HQ.o _ _ ?_;clear HQ;refine CW.cd H true ?_;refine CW.sq H (CW.p0 H Ha A3 T3 λw4 lW A4 T4=>?_);refine CW.rt H ?_;refine⟨.inr rfl,rfl,.string ⟨#[110,111,110,101]⟩,rfl,⟨by rw[n9.o];rfl,by rw[cN.o],v,?_,?_,?_,Am.rf v⟩⟩
    .rw[cN.o];exact A4.o
    .rw[cN.o];exact MR.o
    .exact T4.o
   |cons c cs=>
    have Ou:=aD xU;have Jz:=HI.o.R.backB c zdo;have fA:iS d.r.recs c.c=none:=HI.o.S.bo c zdo;have Qc:dZ (c::cs) c.c=cs:=zg5 (st:=[]) (by have:=HI.o.S.bk;rw[xU] at this;exact this);obtain⟨gB,zll,zS⟩:=zkb A2.o.B zdo;rw[Lb] at zS;injection zS with rF o6 zP;subst rF;have hlen:d.r.back.length=cs.length+1:=by rw[xU];rfl
    have oF:=HI.o.sm.nb;have Co:=HI.o.sm.nr;have Ss:=aD (show v.sB=.slice (some ⟨gB,0,none⟩) (cs.length+1) cB by rw[Aj.o,hlen]);have vL:=aD fA;have zB8:=aD Qc;have zBv:cs.length<=5000:=aC;have Z2:=Jz.1;have wZ:=Jz.2;clear xU fA Qc Jz Lb Aj hlen oF o6 zP;refine CW.sq H (CW.pW H Ha A2 T2 λw3 Q jB A3 T3 HQ=>?_);have k8:w3.cell? ⟨hb,8,none⟩=some (.slice (some ⟨gB,0,none⟩) (cs.length+1) cB):=by
     have:=aI A3.o.blk 8;rw[this,<-Ss.o];rfl
    go_wp2;refine HQ.o _ _ ?_;clear HQ;clear k8;refine CW.cd H false ?_;refine CW.sk H ?_;dsimp only;have zcZ:=HI.o.nln;have zaW:d.ln.length<=100:=by have:=(C9 HI.o.R.off).2.1;omega
    have zdy:=aD (λW (a:bG W lo hb v d)=>zqR a MR.o zcZ zaW);clear zcZ zaW;refine CW.sq H (CW.pW H Ha A3 T3 λw4 Q lW A4 T4 HQ=>?_)
    go_wp2_with (go_at_call 109;refine(zdy.o _ A4.o).mono ?_;rintro en wz ⟨rfl,tD⟩;obtain rfl:=tD)
    refine HQ.o _ _ ?_;clear HQ;clear zdy;refine CW.sq H ?_
    cases fL:o0 d.r.o d.r.recs with
    |nil=>
     rw[zvn fL];have Q0:=aD fL;have e1:mQ d.r ((q:Int)+1)=(d.r,[98,117,115,121]):=by unfold mQ;rw[if_neg zac,Ou.o];simp only[fL]
     have e2:Ej d.r ((q:Int)+1)=[.ask q 0 0 0]:=by unfold Ej;rw[if_neg zac,Ou.o,Kv,<-HA.o];simp only[fL]
     have cN:=aD e1;have n9:=aD e2;clear e1 e2 fL;refine CW.sq H (CW.p0 H Ha A4 T4 λw5 mV A5 T5=>?_);refine CW.cd H true ?_;refine CW.sq H (CW.p0 H Ha A5 T5 λw6 qE A6 T6=>?_);refine CW.rt H ?_;refine⟨.inr rfl,rfl,.string ⟨#[98,117,115,121]⟩,rfl,⟨by rw[n9.o];rfl,by rw[cN.o],v,?_,?_,?_,Am.rf v⟩⟩
     .rw[cN.o];exact A6.o
     .rw[cN.o];exact MR.o
     .exact T6.o
    |cons l ls=>
     obtain⟨i,gL,vV⟩:=HI.o.free fL;have uT:I2 d=(i:Int):=by rw[ztD fL,vV.l];omega
     rw[uT];have e1:mQ d.r ((q:Int)+1)=({d.r with back:=cs,recs:=d.r.recs++[⟨c.c,(i:Int)+1,(q:Int)+1,d.r.clk,d.r.clk,-1,eN⟩]},[99,97,108,108,32]++jH c.c):=by
      unfold mQ;rw[if_neg zac,Ou.o];simp only[fL,zB8.o,vV.l]
     have e2:Ej d.r ((q:Int)+1)=[.ask q 0 0 0,.ask q 1 c.c c.c]:=by unfold Ej;rw[if_neg zac,Ou.o,Kv,<-HA.o];simp only[fL]
     have zb0:e.W[k+1]? =some (.ask q 1 c.c c.c):=by have:=HW.o;rw[e2] at this;exact this.tail.head
     have cN:=aD e1;have n9:=aD e2;have FA:=aD vV;have zzg:=vV.i6;clear e1 e2 fL vV uT;refine CW.sq H (CW.pW H Ha A4 T4 λw5 Q mV A5 T5 HQ=>?_);have i0:(0:Int)<=(i:Int):=aC;go_wp2;refine HQ.o _ _ ?_;clear HQ;refine CW.cd H false ?_;refine CW.sk H ?_;dsimp only;refine CW.sq H (CW.pW H Ha A5 T5 λw6 Q qE A6 T6 HQ=>?_);have k8:w6.cell? ⟨hb,8,none⟩=some (.slice (some ⟨gB,0,none⟩) (cs.length+1) cB):=by
      have:=aI A6.o.blk 8;rw[this,<-Ss.o];rfl
     have oJ:w6.ownsRow lo 3 1 (.slice (some ⟨gB,0,none⟩) (cs.length+1) cB) (cs.length+1) (jY ((c::cs).map bN.c)):=by
      have:=A6.o.B;rw[Ss.o,Ou.o] at this;exact this
     obtain⟨bB,oB,x',hA,_,_,lQ,fG,e0⟩:=(Be oJ aH).cellAt (k:=0) aC;injection hA with hA;injection hA with Ab As;subst Ab As;have lZ:c.c=x':=by simpa using fG
     subst lZ
     try simp only[Rp] at e0
     clear oJ fG;go_wp2;refine HQ.o _ _ ?_;clear HQ;clear k8 e0 lQ;refine CW.sq H (CW.pW H Ha A6 T6 λw7 Q rZ A7 T7 HQ=>?_);have k8:w7.cell? ⟨hb,8,none⟩=some (.slice (some ⟨gB,0,none⟩) (cs.length+1) cB):=by
      have:=aI A7.o.blk 8;rw[this,<-Ss.o];rfl
     have oJ:w7.ownsRow lo 3 1 (.slice (some ⟨gB,0,none⟩) (cs.length+1) cB) (cs.length+1) (jY ((c::cs).map bN.c)):=by
      have:=A7.o.B;rw[Ss.o,Ou.o] at this;exact this
     have Tc:=aD oJ;clear oJ
     go_wp2_with (go_at_call 114;refine(ztP (i:=0) (j:=1) Tc.o (zrE _) aC aC).mono ?_;rintro en w8 ⟨rfl,jX,lC⟩;have Qt:w8.ownsRow lo 3 1 (.slice (some ⟨gB,0,none⟩) cs.length cB) cs.length (jY (cs.map bN.c)):=jX;have Ch:w7.grownBy w8 v.sB.ownBlock:=(by rw[Ss.o];exact lC);have hq:=(A7.o.other (j:=6) (c:=8) (x:=v.sB) rfl aH Ch (.slice (some ⟨gB,0,none⟩) cs.length cB)).2;have Qf:=aI (hq.trans A7.o.blk) 8;have kf:=eW (hq.trans A7.o.blk) 8;have Ay:=aD (And.intro Qt Ch);clear jX lC Qt Ch hq)
     refine HQ.o _ _ ?_;clear HQ;clear k8 Qf kf;obtain⟨a6,t6⟩:=A7.o.putB Ay.o.2 Ay.o.1 rfl (.inl (by rw[Ss.o];rfl));have A8:=A7;have T8:=T7;obtain⟨w9,I6⟩:=aT (w8.setCell ⟨hb,8,none⟩ (.slice (some ⟨gB,0,none⟩) cs.length cB));have A9:=aD (show bG w9 lo hb {v with sB:=.slice (some ⟨gB,0,none⟩) cs.length cB} {d with r:={d.r with back:=cs}} by rw[I6];exact a6);have T9:=aD (show bP hb v w {v with sB:=.slice (some ⟨gB,0,none⟩) cs.length cB} w9 by rw[I6];exact(T7.o.trans t6));rw[<-I6];clear I6 A8 T8;clear a6 t6 Ay A7 T7;refine CW.sq H (CW.pW H Ha A9 T9 λqH Q Ed kK xR HQ=>?_);have zHF:lo<=qH.heap.size:=eG Lm.o xR.o.size
     go_wp2_with (go_at_call 110;refine(zva kK.o zHF FA.o.g aC Co c.c).mono ?_;rintro en z8 ⟨rfl,v11,zvi,t11,zpL⟩;have Bs:=aD zvi;have F0:=aD (xR.o.trans t11);have Pn:=aD zpL;clear zvi t11 zpL)
     refine HQ.o _ _ ?_;clear HQ;clear kK xR;refine CW.sq H ?_;refine CW.rg H [0,1,2,3,4] ?_;refine CR.mv H (.pointer (some ⟨hb,0,none⟩)) ?_;refine CR.mv H (.int .i64 ((q:Int)+1)) ?_;refine CR.mv H (.int .i64 c.c) ?_;refine CR.cl H (zvV H Bs.o zb0 hq zC sN (i:=d.r.recs.length) (x:=⟨c.c,(i:Int)+1,0,d.r.clk,-1,-1,eN⟩) (by show(d.r.recs++[_])[d.r.recs.length]? =_;rw[O2 (bL _),zj3];rfl) (by rw[Pn.o.2.2.1,Y7,if_pos rfl]) Z2 wZ) (λK2 l2 y2 Q9 zuC qP=>?_);obtain⟨rfl,rfl,a12,t12⟩:=qP;simp only[b7,gF,dY,dX];refine nP ?_;refine CR.mv H (.string ⟨([99,97,108,108,32]++jH c.c).toArray⟩) ?_;refine CR.nil H ?_;refine CW.rt H ?_;have e3:(d.r.recs++[(⟨c.c,(i:Int)+1,0,d.r.clk,-1,-1,eN⟩:bV)]).modify d.r.recs.length (λz=>{z with o:=(q:Int)+1,h:=d.r.clk})=d.r.recs++[⟨c.c,(i:Int)+1,(q:Int)+1,d.r.clk,d.r.clk,-1,eN⟩]:=zIR;refine⟨.inr rfl,rfl,.string ⟨([99,97,108,108,32]++jH c.c).toArray⟩,rfl,⟨by rw[n9.o];rfl,by rw[cN.o],v11,?_,?_,F0.o.trans t12,?_⟩⟩
     .rw[cN.o]
      have zmH:=a12;dsimp only at zmH;rw[e3] at zmH;exact zmH
     .rw[cN.o]
      refine fZ.of (MR.o.more HI.o.ndl FA.o.g FA.o.un vL.o (o:=(q:Int)+1) (hh:=d.r.clk) (tt:=-1) (clk:=d.r.clk)) ?_ ?_ ?_ ?_ ?_
      .exact Pn.o.1
      .exact Pn.o.2.1
      .exact Pn.o.2.2.1
      .rfl
      .rfl
     .exact⟨Pn.o.2.2.2.1,Pn.o.2.2.2.2.1,Pn.o.2.2.2.2.2.2.2.1,Pn.o.2.2.2.2.2.2.2.2⟩
 .
   have aV:0<anz:=hg.2 hz;have oF:(anz !=0)=true:=by simpa using hz
   have Ce:0<dO d.r.recs ((q:Int)+1):=by rw[<-HA.o];exact aV
   have cN:=aD (show mQ d.r ((q:Int)+1)=(d.r,[116,97,108,107,115]) by unfold mQ;rw[if_pos Ce]);have n9:=aD (show Ej d.r ((q:Int)+1)=[.ask q 0 0 anz] by unfold Ej;rw[if_pos Ce,Kv,<-HA.o]);clear Ce;refine nP ?_;refine CR.mv H (.bool true) ?_ (hx:=λT=>by unfold aS;go_simp;try exact oF);refine CR.nil H ?_;refine CW.cd H true ?_;refine CW.sq H (CW.p0 H Ha A2 T2 λw3 jB A3 T3=>?_);refine CW.rt H ?_;refine⟨.inr rfl,rfl,.string ⟨#[116,97,108,107,115]⟩,rfl,⟨by rw[n9.o];rfl,by rw[cN.o],v,?_,?_,?_,Am.rf v⟩⟩
   .rw[cN.o];exact A3.o
   .rw[cN.o];exact MR.o
   .exact T3.o
theorem zuO (xs:List bN)(q:Int):(xs.map bN.c).findIdx? (·==q)=wA xs q:=by
 unfold wA;rw[List.findIdx?_map];rfl
variable {q:Int}{xs:List bN}
theorem zEi {p:Nat}(hn:(xs.map bN.c).Nodup)(h:wA xs q=some p):dZ xs q=xs.take p++xs.drop (p+1)/\p<xs.length:=by
 unfold wA at h;obtain⟨hl,hx,_⟩:=zk1.1 h;have hq:xs[p].c=q:=by simpa using hx
 have e:xs=xs.take p++xs[p]::xs.drop (p+1):=by rw[<-List.drop_eq_getElem_cons hl,List.take_append_drop]
 refine⟨?_,hl⟩;have:=zg5 (st:=xs.take p) (rest:=xs.drop (p+1)) (x:=xs[p]) (by rw[<-e];exact hn);rw[<-e,hq] at this;exact this
theorem zIf (h:∀x∈xs,x.c≠q):dZ xs q=xs:=by
 unfold dZ;rw[List.filter_eq_self];intro x hx;simpa using h x hx
theorem zAU (xs:List bN)(p r:Nat):jY ((xs.take p++xs.drop r).map bN.c)=(jY (xs.map bN.c)).take p++(jY (xs.map bN.c)).drop r:=by
 unfold jY;rw[Uo,Uo,zqV,zqs,zqV,zqs]
theorem zIz {gx:Nat}(vE:w.heap[gx]? =some (.cells #[.int .i64 q] 3)):
 Calls aK 117 #[.slice none 0 0,.func (.func 118) #[] #[.pointer (some ⟨gx,0,none⟩)]] w λe w'=>e=.returned (.slice none 0 0)/\Below w.heap.size w w':=by
 have HI:=aD (zpT 0 w.heap.size 0 0 none [] gx q w ⟨rfl,mK _,mK _,λh=>absurd h aC⟩ aC vE)
 go_enter Tryz.func117,Tryz.ntmps117
 go_wp2_with (go_at_call 124;refine HI.o.mono ?_;rintro e w1 ⟨rfl,Iu⟩;have gT:=aD Iu)
 go_ret;exact⟨rfl,gT.o⟩
def yG:wM aK 102:=⟨_,zsB,.inr (.inl ⟨_,rfl⟩)⟩
theorem cf_hang (H:e.d.Ok)(h:bG w lo hb v d)(mr:fZ v d)(hi:y9 d)(eF:lo<=w.heap.size)(hW:Dj e.W k (Dt d.r c))(hK:∀(i g:Nat),d.qn[i]? =some g->K g (qa e.qs i)):
 CF e.d 102 #[.pointer (some ⟨hb,0,none⟩),.int .i64 c] K (.wk e.qs k) w (λK' l' y w'=>zc0 e.qs lo hb v d w k (Dt d.r c).length (nD d.r c) l' y w'):=by
 refine CF.of 59 zsB (.inr (.inl ⟨_,rfl⟩)) ?_;have A0:=aD h;have T0:=aD (bP.refl (hb:=hb) (v:=v) (w:=w));have HI:=aD hi;have MR:=aD mr;have Lm:=aD eF;have HW:=aD hW;have oF:=hi.sm.nb;have L2:=hi.sm.nw;clear h mr hi hW eF;refine CW.sq H (CW.pW H yG A0 T0 λw1 Q eD A1 T1 HQ=>?_);go_wp2;refine HQ.o _ _ ?_;clear HQ;obtain⟨gx,vE⟩:=aT w1.heap.size;obtain⟨w2,eZ⟩:=aT (w1.alloc (.cells #[.int .i64 c] 3));have A2:=aD (show bG w2 lo hb v d by rw[eZ];exact A1.o.alloc _);have T2:=aD (show bP hb v w v w2 by rw[eZ];exact T1.o.trans (bP.below (eT (fK _ _) _)));have zgb:=aD (show w2.heap[gx]? =some (.cells #[.int .i64 c] 3) by rw[eZ,vE];exact gV _ _);have NP:=aD (show some gx∉parts v hb from λhp=>by have:=(A1.o.lt _ hp).2;omega);rw[<-vE,<-eZ];clear eZ vE A1 T1;refine CW.sq H ?_
 cases fA:iS d.r.recs c with
 |none=>
  have vL:=aD fA;have Ut:=aD (MR.o.offLine fA);clear fA;refine CW.sq H (CW.pW H yG A2 T2 λw3 Q jB A3 T3 HQ=>?_);have vU:=aD (jB▸zgb.o);have k5:w3.cell? ⟨hb,5,none⟩=some (.map (some v.mO)):=aI A3.o.blk 5;have kx:=aI vU.o 0;have lk:(Ac 67 (.map (some v.mO)) (.int .i64 c) false).run aK w3.drew=.ok (.chan none) w3.drew:=by
   have:=zaI S3 Lg (zbr w3.drew) (A3.o.drew.O) (c:=c) false;rw[Ut.o] at this;exact this
  refine ztj w3 hb gx v.mO c none rfl rfl rfl k5 kx lk rfl ?_;rw[Go.Mt.zO,zio];simp only[Go.Mt.wV,dY,dX,fHG1,lHG1,En,Es];refine HQ.o _ _ ?_;clear HQ;clear k5 kx lk;obtain⟨w4,lW⟩:=aT w3.drew;have A4:=aD (show bG w4 lo hb v d by rw[lW];exact A3.o.drew);have T4:=aD (show bP hb v w v w4 by rw[lW];exact T3.o.same rfl);have N3:=aD (show w4.heap[gx]? =some (.cells #[.int .i64 c] 3) by rw[lW];exact vU.o);rw[<-lW];clear lW A3 T3 vU;refine CW.cd H true ?_;obtain⟨AB,cB,Lb,zap⟩:=G8 A4.o.B aH;have Aj:=aD Lb;clear Lb zap;refine CW.sq H (CW.pW H yG A4 T4 λw5 Q mV A5 T5 HQ=>?_);have Dy:=aD (mV▸N3.o);have k8:w5.cell? ⟨hb,8,none⟩=some (.slice AB d.r.back.length cB):=by
   have:=aI A5.o.blk 8;rw[this,<-Aj.o];rfl
  have kx:=aI Dy.o 0;have Gv:=aD (show cE w5 lo w5.heap.size 1 AB d.r.back.length cB (jY (d.r.back.map bN.c)) by have:=A5.o.B;rw[Aj.o] at this;exact Be this aH);have HE:=aD (λnq:Nat=>Calls.quiet_of_same (w:=w5) (n:=nq) ((zyy lo w5.heap.size d.r.back.length cB AB (d.r.back.map bN.c) c (w5.drewN nq) (have hs:=Gv.o;⟨hs.len,hs.le,hs.cap,hs.at_⟩) aC).mono λe w' hh=>hh))
  go_wp2_with fail
  go_quiet ((go_at_call 113;exact HE.o _))
  go_wp2_with fail
  refine HQ.o _ _ ?_;clear HQ;obtain⟨w6,qE⟩:=aT (w5.drewN nq);have A6:=aD (show bG w6 lo hb v d by rw[qE];exact A5.o.same rfl);have T6:=aD (show bP hb v w v w6 by rw[qE];exact T5.o.same rfl);have Le:=aD (show w6.heap[gx]? =some (.cells #[.int .i64 c] 3) by rw[qE];exact Dy.o);rw[<-qE];clear qE A5 T5 Dy k8 kx Gv HE;refine CW.sq H ?_;rw[zuO]
  cases I9:wA d.r.back c with
  |none=>
   have cN:=aD (show nD d.r c=(d.r,[103,111,110,101]) by unfold nD;rw[vL.o];simp only[I9];rfl);have n9:=aD (show Dt d.r c=[] by unfold Dt;rw[vL.o]);clear I9;simp only[H8];refine CW.sq H ?_;refine CW.pW H yG A6 T6 λw7 Q rZ A7 T7 HQ=>?_;have Hj:=aD (rZ▸Le.o);go_wp2;refine HQ.o _ _ ?_;clear HQ;refine CW.cd H true ?_;refine CW.sq H (CW.pW H yG A7 T7 λw8 Q Kb A8 T8 HQ=>?_);have Jd:=aD (Kb▸Hj.o);go_wp2;refine HQ.o _ _ ?_;clear HQ;refine CW.rt H ?_;refine⟨.inr rfl,rfl,.string ⟨#[103,111,110,101]⟩,rfl,⟨by rw[n9.o];rfl,by rw[cN.o],v,?_,?_,?_,Am.rf v⟩⟩
   .rw[cN.o];exact A8.o
   .rw[cN.o];exact MR.o
   .exact T8.o
  |some p=>
   obtain⟨Qc,nG⟩:=zEi HI.o.S.bk I9;have cN:=aD (show nD d.r c=({d.r with back:=d.r.back.take p++d.r.back.drop (p+1)},[111,102,102]) by unfold nD;rw[vL.o];simp only[I9];rw[<-Qc];rfl);have n9:=aD (show Dt d.r c=[] by unfold Dt;rw[vL.o]);have zKP:p<=5000:=aC;obtain⟨gB,zll,zS⟩:=zkb A6.o.B aC;rw[Aj.o] at zS;injection zS with rF o6 zP;subst rF;have i0:(0:Int)<=(p:Int):=aC;clear I9 Qc o6 zP;simp only[H8];refine CW.sq H ?_;refine CW.pW H yG A6 T6 λw7 Q rZ A7 T7 HQ=>?_;have Hj:=aD (rZ▸Le.o);go_wp2;refine HQ.o _ _ ?_;clear HQ;refine CW.cd H false ?_;refine CW.sk H ?_;dsimp only;refine CW.sq H (CW.pW H yG A7 T7 λw8 Q Kb A8 T8 HQ=>?_);have Jd:=aD (Kb▸Hj.o);have k8:w8.cell? ⟨hb,8,none⟩=some (.slice (some ⟨gB,0,none⟩) d.r.back.length cB):=by
    have:=aI A8.o.blk 8;rw[this,<-Aj.o];rfl
   have Tc:=aD (show w8.ownsRow lo 3 1 (.slice (some ⟨gB,0,none⟩) d.r.back.length cB) d.r.back.length (jY (d.r.back.map bN.c)) by have:=A8.o.B;rw[Aj.o] at this;exact this)
   go_wp2_with (go_at_call 114;refine(ztP (i:=p) (j:=p+1) Tc.o (zrE _) aC aC).mono ?_;intro en w9;rw[show p+1-p=1 by omega];rintro⟨rfl,jX,lC⟩;have Qt:w9.ownsRow lo 3 1 (.slice (some ⟨gB,0,none⟩) (d.r.back.length-1) cB) (d.r.back.length-1) (jY ((d.r.back.take p++d.r.back.drop (p+1)).map bN.c)):=(by rw[zAU];exact jX);have Ch:w8.grownBy w9 v.sB.ownBlock:=(by rw[Aj.o];exact lC);have hq:=(A8.o.other (j:=6) (c:=8) (x:=v.sB) rfl aH Ch (.slice (some ⟨gB,0,none⟩) (d.r.back.length-1) cB)).2;have Qf:=aI (hq.trans A8.o.blk) 8;have kf:=eW (hq.trans A8.o.blk) 8;have Ay:=aD (And.intro Qt Ch);clear jX lC Qt Ch hq)
   refine HQ.o _ _ ?_;clear HQ;clear k8 Qf kf;obtain⟨a6,t6⟩:=A8.o.putB Ay.o.2 Ay.o.1 pX (.inl (by rw[Aj.o];rfl));have A9:=A8;have T9:=T8;obtain⟨qH,Ed⟩:=aT (w9.setCell ⟨hb,8,none⟩ (.slice (some ⟨gB,0,none⟩) (d.r.back.length-1) cB));have kK:=aD (show bG qH lo hb {v with sB:=.slice (some ⟨gB,0,none⟩) (d.r.back.length-1) cB} {d with r:={d.r with back:=d.r.back.take p++d.r.back.drop (p+1)}} by rw[Ed];exact a6);have xR:=aD (show bP hb v w {v with sB:=.slice (some ⟨gB,0,none⟩) (d.r.back.length-1) cB} qH by rw[Ed];exact(T8.o.trans t6));rw[<-Ed];clear Ed A9 T9;clear a6 t6 Ay A8 T8 Jd;refine CW.sq H (CW.p0 H yG kK xR λz8 zFA Bs F0=>?_);refine CW.rt H ?_;refine⟨.inr rfl,rfl,.string ⟨#[111,102,102]⟩,rfl,⟨by rw[n9.o];rfl,by rw[cN.o],{v with sB:=.slice (some ⟨gB,0,none⟩) (d.r.back.length-1) cB},?_,?_,?_,⟨rfl,rfl,rfl,rfl⟩⟩⟩
   .rw[cN.o];exact Bs.o
   .rw[cN.o];refine fZ.of MR.o ?_ ?_ ?_ ?_ ?_<;>rfl
   .exact F0.o
 |some i=>
  obtain⟨x,hx,Jq,sD⟩:=C1 fA;obtain⟨gL,On,hO,hM,hC⟩:=MR.o.onLine HI.o hx sD Jq;obtain⟨gR,cR,hR⟩:=ziP A2.o hx;have Ut:=aD hO;have HX:=aD hx;have HL:=aD (And.intro On (And.intro hO (And.intro hM hC)));have HR:=aD hR;have vL:=aD fA;have X2:=aD (And.intro Jq sD);have hop:=HI.o.ops.op x (fI hx);have Tl:=HI.o.nqn;have Y4:=HI.o.R.off;have Rb:=aD (C9 Y4);have rD:Hu d.r.recs i=c:=by rw[Ur hx,Jq]
  have Lw:opAt d.r.recs i=x.o:=by unfold opAt;rw[hx]
  have Xc:=aD (And.intro rD Lw);clear hx Jq sD On hO hM hC hR fA Y4 rD Lw;refine CW.sq H (CW.pW H yG A2 T2 λw3 Q jB A3 T3 HQ=>?_);have vU:=aD (jB▸zgb.o);have k5:w3.cell? ⟨hb,5,none⟩=some (.map (some v.mO)):=aI A3.o.blk 5;have kx:=aI vU.o 0;have lk:(Ac 67 (.map (some v.mO)) (.int .i64 c) false).run aK w3.drew=.ok (.chan (some gL)) w3.drew:=by
   have:=zaI S3 Lg (zbr w3.drew) (A3.o.drew.O) (c:=c) false;rw[Ut.o] at this;exact this
  refine ztj w3 hb gx v.mO c (some gL) rfl rfl rfl k5 kx lk rfl ?_;rw[Go.Mt.zO,zio];simp only[Go.Mt.wV,dY,dX,fHG1,lHG1,En,Es];refine HQ.o _ _ ?_;clear HQ;clear k5 kx lk;obtain⟨w4,lW⟩:=aT w3.drew;have A4:=aD (show bG w4 lo hb v d by rw[lW];exact A3.o.drew);have T4:=aD (show bP hb v w v w4 by rw[lW];exact T3.o.same rfl);have N3:=aD (show w4.heap[gx]? =some (.cells #[.int .i64 c] 3) by rw[lW];exact vU.o);rw[<-lW];clear lW A3 T3 vU;refine CW.cd H false ?_;refine CW.sk H ?_;dsimp only;refine CW.sq H ?_;refine CW.sq H (CW.pW H yG A4 T4 λw5 Q mV A5 T5 HQ=>?_);have Dy:=aD (mV▸N3.o);have kx:=aI Dy.o 0;have zpv:=aD (λW (a:bG W lo hb v d)=>zfa a HR.o HX.o HL.o.2.2.1);obtain⟨c2,f2⟩:=A5.o.recAt HR.o HX.o (j:=2) (u:=.int .i64 x.o) aH rfl
  go_wp2_with (go_at_call 115;refine(zpv.o _ A5.o).mono ?_;rintro en wz ⟨rfl,tD⟩;obtain rfl:=tD)
  refine HQ.o _ _ ?_;clear HQ;clear kx zpv c2 f2;obtain⟨w6,qE⟩:=aT w5.drew;have A6:=aD (show bG w6 lo hb v d by rw[qE];exact A5.o.drew);have T6:=aD (show bP hb v w v w6 by rw[qE];exact T5.o.same rfl);have Le:=aD (show w6.heap[gx]? =some (.cells #[.int .i64 c] 3) by rw[qE];exact Dy.o);rw[<-qE];clear qE A5 T5 Dy;refine CW.sq H ?_;by_cases hz:x.o=0
  .
    have cN:=aD (show nD d.r c=(lN d.r i Dd,[108,101,102,116]) by unfold nD;rw[vL.o];simp only;rw[Xc.o.2,hz,if_neg aH]);have n9:=aD (show Dt d.r c=[] by unfold Dt;rw[vL.o];simp only;rw[Xc.o.2,hz,if_neg aH]);rw[hz];clear hz;refine CW.pW H yG A6 T6 λw7 Q rZ A7 T7 HQ=>?_;have Hj:=aD (rZ▸Le.o);go_wp2;refine HQ.o _ _ ?_;clear HQ;refine CW.cd H false ?_;refine CW.sk H ?_;dsimp only;refine CW.sq H (CW.pW H yG A7 T7 λw8 Q Kb A8 T8 HQ=>?_);have Jd:=aD (Kb▸Hj.o);have kx:=aI Jd.o 0
    go_wp2_with (go_at_call 116;refine(zmk (e:=⟨#[108,101,102,116]⟩) A8.o HX.o HL.o.2.1 HL.o.2.2.2 HL.o.2.2.1 HR.o).mono ?_;rintro en w9 ⟨rfl,v9,a5,t5,p5⟩;have A9:=aD a5;have T9:=aD (T8.o.trans t5);have P9:=aD p5;have zqK:=aD t5;clear a5 t5 p5)
    refine HQ.o _ _ ?_;clear HQ;clear kx;have zsg:=aD (fZ.of (v':=v9) (MR.o.clear HI.o.S HI.o.ndl (λz hz=>(HI.o.lb z hz).1) HX.o X2.o.2 HL.o.1 (f:=λz=>{z with t:=d.r.clk,e:=Dd}) (λz=>⟨rfl,rfl⟩) ziJ) P9.o.1 (by rw[P9.o.2.1,X2.o.1]) P9.o.2.2.1 rfl rfl);obtain⟨kg,np⟩:=A8.o.turned zqK.o Jd.o NP.o;have Xv:=aD kg;have zKq:=aD np;clear kg np zqK A8 T8 Jd;have zmM:=A9.o.W;have zp8:({d with r:={d.r with recs:=d.r.recs.modify i λz=>{z with t:=d.r.clk,e:=Dd}}}:oG).r.wait.length=d.r.wait.length:=rfl;rcases zmM.2 with⟨Qn,h0⟩|⟨gW,cW,cur,Mr,_⟩
    .
      have H0:d.r.wait=[]:=List.eq_nil_of_length_eq_zero h0;have vH:=aD (show lN d.r i Dd={d.r with recs:=d.r.recs.modify i λz=>{z with t:=d.r.clk,e:=Dd}} by unfold lN;rw[H0];show cC.mk _ _ _ [] _ _=_;rw[<-H0];rfl);have znT:=aD Qn;clear zmM zp8 Qn h0 H0;refine CW.sq H (CW.pW H yG A9 T9 λqH Q Ed kK xR HQ=>?_);have Xz:=aD (Ed▸Xv.o);have k7:qH.cell? ⟨hb,7,none⟩=some (.slice none 0 0):=by
       have:=aI kK.o.blk 7;rw[this,<-znT.o];rfl
      go_wp2_with (go_at_call 117;refine(zIz Xz.o).mono ?_;rintro en z8 ⟨rfl,zn0⟩;have Bs:=aD (kK.o.below zn0);have F0:=aD (xR.o.trans (bP.below zn0));have Z0:=aI Bs.o.blk 7;have kf:=eW Bs.o.blk 7;clear zn0)
      refine HQ.o _ _ ?_;clear HQ;clear k7 Z0 kf;have zlw:z8.setCell ⟨hb,7,none⟩ (.slice none 0 0)=z8.setCell ⟨hb,7,none⟩ v9.sW:=by rw[znT.o]
      have a12:=Bs.o.newW (s':=v9.sW) (xs:=d.r.wait) Bs.o.W rfl (λb e=>by rw[znT.o] at e;cases e);have t12:bP hb v9 z8 v9 (z8.setCell ⟨hb,7,none⟩ v9.sW):=⟨by rw[wR];exact bL _,λb b9 hn=>dU z8 _ _ b (λe=>hn ztA),λb hx=>.inl hx⟩;obtain⟨Q9,M3⟩:=aT (z8.setCell ⟨hb,7,none⟩ (.slice none 0 0));have za4:=aD (show bG Q9 lo hb v9 {d with r:={d.r with recs:=d.r.recs.modify i λz=>{z with t:=d.r.clk,e:=Dd}}} by rw[M3];exact(by rw[zlw];exact a12));have zcj:=aD (show bP hb v w v9 Q9 by rw[M3];exact(by rw[zlw];exact F0.o.trans t12));rw[<-M3];clear M3 Bs F0;clear a12 t12 zlw kK xR Xz;refine CW.sq H (CW.p0 H yG za4 zcj λzhX zoO zdK zaU=>?_);refine CW.rt H ?_;refine⟨.inr rfl,rfl,.string ⟨#[108,101,102,116]⟩,rfl,⟨by rw[n9.o];rfl,by rw[cN.o],v9,?_,?_,?_,Dl.kept P9.o.2.2.2.2⟩⟩
      .rw[cN.o];rw[vH.o];exact zdK.o
      .rw[cN.o];rw[vH.o];exact zsg.o
      .exact zaU.o
    .
      have vH:=aD (show lN d.r i Dd={d.r with recs:=d.r.recs.modify i (λz=>{z with t:=d.r.clk,e:=Dd}),wait:=dZ d.r.wait c} by unfold lN;rw[Xc.o.1];rfl);have Us:=aD (show v9.sW=.slice (some ⟨gW,0,none⟩) d.r.wait.length cW from Mr);clear zmM zp8 Mr;refine CW.sq H (CW.pW H yG A9 T9 λqH Q Ed kK xR HQ=>?_);have Xz:=aD (Ed▸Xv.o);have k7:qH.cell? ⟨hb,7,none⟩=some (.slice (some ⟨gW,0,none⟩) d.r.wait.length cW):=by
       have:=aI kK.o.blk 7;rw[this,<-Us.o];rfl
      have Tc:=aD (show qH.ownsRow lo 149 2 (.slice (some ⟨gW,0,none⟩) d.r.wait.length cW) d.r.wait.length (bH d.r.wait) by have:=kK.o.W;rw[Us.o] at this;exact this)
      go_wp2_with (go_at_call 117;refine(zyP Tc.o aC Xz.o).mono ?_;rintro en z8 ⟨nW,rfl,zoj,jX,lC⟩;have Ch:qH.grownBy z8 v9.sW.ownBlock:=(by rw[Us.o];exact lC);have hq:=(kK.o.other (j:=5) (c:=7) (x:=v9.sW) rfl aH Ch (.slice (some ⟨gW,0,none⟩) nW cW)).2;have Z0:=aI (hq.trans kK.o.blk) 7;have kf:=eW (hq.trans kK.o.blk) 7;have Ay:=aD (And.intro jX (And.intro Ch zoj));clear jX lC Ch hq zoj)
      refine HQ.o _ _ ?_;clear HQ;clear k7 Z0 kf;obtain⟨a6,t6⟩:=kK.o.putW Ay.o.2.1 Ay.o.1 Ay.o.2.2 (.inl (by rw[Us.o];rfl));have Bs:=kK;have F0:=xR;obtain⟨Q9,M3⟩:=aT (z8.setCell ⟨hb,7,none⟩ (.slice (some ⟨gW,0,none⟩) nW cW));have za4:=aD (show bG Q9 lo hb {v9 with sW:=.slice (some ⟨gW,0,none⟩) nW cW} {d with r:={d.r with recs:=d.r.recs.modify i (λz=>{z with t:=d.r.clk,e:=Dd}),wait:=dZ d.r.wait c}} by rw[M3];exact a6);have zcj:=aD (show bP hb v w {v9 with sW:=.slice (some ⟨gW,0,none⟩) nW cW} Q9 by rw[M3];exact(xR.o.trans t6));rw[<-M3];clear M3 Bs F0;clear a6 t6 Ay kK xR Xz;refine CW.sq H (CW.p0 H yG za4 zcj λzhX zoO zdK zaU=>?_);refine CW.rt H ?_;refine⟨.inr rfl,rfl,.string ⟨#[108,101,102,116]⟩,rfl,⟨by rw[n9.o];rfl,by rw[cN.o],{v9 with sW:=.slice (some ⟨gW,0,none⟩) nW cW},?_,?_,?_,⟨P9.o.2.2.2.2.1,P9.o.2.2.2.2.2.1,P9.o.2.2.2.2.2.2.2.2.1,P9.o.2.2.2.2.2.2.2.2.2⟩⟩⟩
      .rw[cN.o];rw[vH.o];exact zdK.o
      .rw[cN.o];rw[vH.o];refine fZ.of zsg.o ?_ ?_ ?_ ?_ ?_<;>rfl
      .exact zaU.o
  .
    have Ce:0<x.o:=aC;obtain⟨q,zwH⟩:∃q:Nat,x.o=(q:Int)+1:=⟨(x.o-1).toNat,aC⟩;have hq:q<d.qn.length:=aC;have zC:q<=100:=by have:=Rb.o.2.2.2.1;omega
    have zgP:dZ d.r.wait c=d.r.wait:=zIf λy hy e=>by
     obtain⟨j,z,h1,h2,h3,h4⟩:=HI.o.S.wt y hy;have:=HI.o.S.opn i j x z HX.o h1 X2.o.2 h2 (.inl (by rw[X2.o.1,h3,e]));subst this;rw[HX.o] at h1;injection h1 with h1;rw[<-h1] at h4;exact hz h4
    have cN:=aD (show nD d.r c=(lN d.r i G4,[100,111,110,101]) by unfold nD;rw[vL.o];simp only;rw[Xc.o.2,if_pos Ce]);have n9:=aD (show Dt d.r c=[.ask q 1 0 0] by unfold Dt;rw[vL.o];simp only;rw[Xc.o.2,if_pos Ce,zwH,Kv]);have vH:=aD (show lN d.r i G4={d.r with recs:=d.r.recs.modify i λz=>{z with t:=d.r.clk,e:=G4}} by unfold lN;rw[Xc.o.1,zgP];rfl);have zb0:e.W[k]? =some (.ask q 1 0 0):=by have:=HW.o;rw[n9.o] at this;exact this.head
    rw[zwH];have zfq:((q:Int)+1 !=0)=true:=by have:(q:Int)+1≠0:=aC;simpa using this
    have zFQ:¬(q:Int)+1=0:=aC;clear hz Ce zgP;refine CW.pW H yG A6 T6 λw7 Q rZ A7 T7 HQ=>?_;have Hj:=aD (rZ▸Le.o);go_wp2;refine HQ.o _ _ ?_;clear HQ
    try simp only[zFQ,not_false_eq_true,decide_true,bne_iff_ne,ne_eq]
    refine CW.cond H (t:=true) rfl (by first|rfl|exact congrArg N1 zfq) ?_;refine CW.sq H ?_;refine CW.rg H [0,1,2] ?_;refine CR.mv H (.pointer (some ⟨hb,0,none⟩)) ?_;refine CR.mv H (.int .i64 ((q:Int)+1)) ?_;refine CR.cl H (zbp H A7.o zb0 hq zC hK) (λK' l' y w' hl qP=>?_);obtain⟨rfl,rfl,lX⟩:=qP;simp only[b7,gF,dY,dX];have A8:=aD (show bG w' lo hb v d by rw[lX];exact A7.o.alloc _);have T8:=aD (show bP hb v w v w' by rw[lX];exact T7.o.trans (bP.below (eT (fK _ _) _)));have Jd:=aD (show w'.heap[gx]? =some (.cells #[.int .i64 c] 3) by rw[lX];exact dH Hj.o _);clear lX A7 T7 Hj;refine CR.nil H ?_;refine CW.sq H (CW.pW H yG A8 T8 λw9 Q I6 A9 T9 HQ=>?_);have Xv:=aD (I6▸Jd.o);have kx:=aI Xv.o 0
    go_wp2_with (go_at_call 116;refine(zmk (e:=⟨#[100,111,110,101]⟩) A9.o HX.o HL.o.2.1 HL.o.2.2.2 HL.o.2.2.1 HR.o).mono ?_;rintro en qH ⟨rfl,v10,a5,t5,p5⟩;have kK:=aD a5;have xR:=aD (T9.o.trans t5);have zgT:=aD p5;have zv5:=aD t5;clear a5 t5 p5)
    refine HQ.o _ _ ?_;clear HQ;clear kx;have zAZ:=aD (fZ.of (v':=v10) (MR.o.clear HI.o.S HI.o.ndl (λz hz=>(HI.o.lb z hz).1) HX.o X2.o.2 HL.o.1 (f:=λz=>{z with t:=d.r.clk,e:=G4}) (λz=>⟨rfl,rfl⟩) zdR) zgT.o.1 (by rw[zgT.o.2.1,X2.o.1]) zgT.o.2.2.1 rfl rfl);obtain⟨kg,np⟩:=A9.o.turned zv5.o Xv.o NP.o;have Xz:=aD kg;have zJ7:=aD np;clear kg np zv5 A9 T9 Xv;refine CW.sq H (CW.p0 H yG kK xR λz8 zFA Bs F0=>?_);refine CW.rt H ?_;refine⟨.inr rfl,rfl,.string ⟨#[100,111,110,101]⟩,rfl,⟨by rw[n9.o];rfl,by rw[cN.o],v10,?_,?_,?_,Dl.kept zgT.o.2.2.2.2⟩⟩
    .rw[cN.o];rw[vH.o];exact Bs.o
    .rw[cN.o];rw[vH.o];exact zAZ.o
    .exact F0.o
section
variable {p:bT}{o:aX}{ρ:cJ->aF}{w w':aE}
variable {t e:aN}{sz:Nat}{ie:xO}
theorem zrD {x y:cJ}{A:Option bC}{n c i:Nat}(ho:o.op=.slice t x (some y) none none)(hu:p.underlying t=some (.slice e))(hi:p.info? e=some ie)(hz:ie.size=sz)(hx:ρ x=.slice A n c)(hy:ρ y=.int .i64 (i:Int))(oK:i<=n):
 (aS ρ o).run p w=.ok (.value (.slice (if c=i then A else A.map (·.add (i*sz))) (n-i) (c-i))) w:=by
 obtain⟨dst,yJ,type,pos,after,guard⟩:=o;simp only at ho;subst ho;have h0:(0:Int)<=(i:Int):=aC;have h1:(i:Int)<=(n:Int):=aC;simp[aS,Wh,Wz,Zc,La,hx,hy,xM hu,sizeOf,typeInfo,hi,hz,asIntOf,h0,h1];exact λh=>absurd h aC
variable {j:Int}
theorem Ts {x y:cJ}{g off n c i:Nat}(ho:o.op=.slice t x (some y) none none)(hu:p.underlying t=some (.slice e))(hi:p.info? e=some ie)(hz:ie.size=sz)(hx:ρ x=.slice (some ⟨g,0,none⟩) n c)(hy:ρ y=.int .i64 j)(hj:j=(i:Int))(oK:i<=n)(uP:i<c)(zGn:off=i*sz){n' c':Nat}(wD:n'=n-i)(kQ:c'=c-i):
 (aS ρ o).run p w=.ok (.value (.slice (some ⟨g,off,none⟩) n' c')) w:=by
 subst zGn wD kQ hj;rw[zrD ho hu hi hz hx hy oK,if_neg aC];simp[Ml]
theorem zsn {x y:cJ}{g n c i:Nat}(ho:o.op=.slice t x none (some y) none)(hu:p.underlying t=some (.slice e))(hi:p.info? e=some ie)(hz:ie.size=sz)(hx:ρ x=.slice (some ⟨g,0,none⟩) n c)(hy:ρ y=.int .i64 j)(hj:j=(i:Int))(uP:i<=c):
 (aS ρ o).run p w=.ok (.value (.slice (some ⟨g,0,none⟩) i c)) w:=by
 subst hj;obtain⟨dst,yJ,type,pos,after,guard⟩:=o;simp only at ho;subst ho;have h0:(0:Int)<=(i:Int):=aC;have h1:(i:Int)<=(c:Int):=aC;simp[aS,Wh,Wz,Zc,La,hx,hy,xM hu,sizeOf,typeInfo,hi,hz,asIntOf,h0,h1,Ml];exact λh=>absurd h aC
theorem X6 {s x:cJ}{tn:aN}{a b v:aF}{w':aE}(ho:o.op=.call ⟨.builtin .append,#[s,x],#[t,tn]⟩)(hs:ρ s=a)(hx:ρ x=b)(hr:(Builtin.append_ #[t,tn] o.type #[a,b]).run p w=.ok v w'):(aS ρ o).run p w=.ok (.value v) w':=by
 unfold aS;simp only[ho,resolve,invoke,builtin,Sem.run_bind,Sem.run_pure,Result.andThen_ok,tJ,jD,sC,hs,hx,hr]
end
theorem Zh:∃ie,aK.info? 149=some ie/\ie.zero=some (.agg #[.int .i64 0,.int .i64 0])/\ie.size=2/\ie.bytes=16:=by
 obtain⟨i0,hi,gA,dS,jQ⟩:=info_parts zdv;exact⟨i0,hi,gA,dS,jQ⟩
def yN:aK.underlying 69=some (.slice 149):=aP
def Sn:Go.Code:=(Tryz.f111.body).getD .skip
def rIN7:Go.Code:=match Sn with| .seq _ (.seq _ (.seq _ (.seq _ (.seq _ (.seq (.seq _ (.cond _ (.seq (a) _) _)) _)))))=>a|_=>.skip
def rIN9:Go.Code:=match Sn with| .seq _ (.seq _ (.seq _ (.seq _ (.seq _ (.seq _ (.seq (.seq _ (.cond _ (.seq (a) _) _)) _))))))=>a|_=>.skip
def rIN10:Go.Code:=match Sn with| .seq _ (.seq _ (.seq _ (.seq _ (.seq _ (.seq _ (.seq (.seq _ (.cond _ (.seq _ (.seq (a) _)) _)) _))))))=>a|_=>.skip
def rIN11:Go.Code:=match Sn with| .seq _ (.seq _ (.seq _ (.seq _ (.seq _ (.seq _ (.seq (.seq _ (.cond _ (.seq _ (.seq _ (.seq (a) _))) _)) _))))))=>a|_=>.skip
def rIN14:Go.Code:=match Sn with| .seq _ (.seq _ (.seq _ (.seq _ (.seq _ (.seq _ (.seq _ (.seq _ (.seq (.seq (a) _) _))))))))=>a|_=>.skip
def rIN15:Go.Code:=match Sn with| .seq _ (.seq _ (.seq _ (.seq _ (.seq _ (.seq _ (.seq _ (.seq _ (.seq (.seq _ (.cond _ (.seq (a) _) _)) _))))))))=>a|_=>.skip
def rIN16:Go.Code:=match Sn with| .seq _ (.seq _ (.seq _ (.seq _ (.seq _ (.seq _ (.seq _ (.seq _ (.seq (.seq _ (.cond _ (.seq _ (.seq (a) _)) _)) _))))))))=>a|_=>.skip
def zw3:Array Oper:=match rIN7 with| .region _ ops _=>ops|_=>#[]
abbrev oIN7_2:Oper:=aM zw3 2 (some 25) (.call ⟨.builtin .append,#[.tmp 23,.tmp 24],#[69,69]⟩)
def zBU:zw3[2]? =some oIN7_2:=rfl
def zpW:Array Oper:=match rIN9 with| .region _ ops _=>ops|_=>#[]
abbrev oIN9_8:Oper:=aM zpW 8 (some 40) (.call ⟨.builtin .append,#[.tmp 34,.tmp 39],#[69,3]⟩)
def zEo:zpW[8]? =some oIN9_8:=rfl
def zu2:Array Oper:=match rIN10 with| .region _ ops _=>ops|_=>#[]
abbrev oIN10_4:Oper:=aM zu2 4 (some 45) (.call ⟨.builtin .copy,#[.tmp 43,.tmp 44],#[69,69]⟩)
def zEh:zu2[4]? =some oIN10_4:=rfl
def zyK:Array Oper:=match rIN14 with| .region _ ops _=>ops|_=>#[]
abbrev oIN14_6:Oper:=aM zyK 6 (some 67) (.call ⟨.value (.func 121),#[.tmp 61,.tmp 66],#[69,69]⟩)
def zyN:zyK[6]? =some oIN14_6:=rfl
def zvL:Array Oper:=match rIN16 with| .region _ ops _=>ops|_=>#[]
abbrev oIN16_4:Oper:=aM zvL 4 (some 82) (.call ⟨.builtin .copy,#[.tmp 80,.tmp 81],#[69,69]⟩)
def zG4:zvL[4]? =some oIN16_4:=rfl
def F8:Array Oper:=match rIN11 with| .region _ ops _=>ops|_=>#[]
def zs2:F8.toList=[aM F8 0 (some 46) (.move (.tmp 9)),aM F8 1 (some 47) (.move (.tmp 1)),aM F8 2 (some 48) (.move (.tmp 7)),aM F8 3 (some 49) (.binOp .add 3 (.tmp 47) (.tmp 48) 3),aM F8 4 (some 50) (.slice 69 (.tmp 46) (some (.tmp 49)) none none),aM F8 5 (some 51) (.move (.tmp 0)),aM F8 6 (some 52) (.move (.tmp 1)),aM F8 7 (some 53) (.slice 69 (.tmp 51) (some (.tmp 52)) none none),aM F8 8 (some 54) (.call ⟨.builtin .copy,#[.tmp 50,.tmp 53],#[69,69]⟩)]:=rfl
def Fp:Array Oper:=match rIN15 with| .region _ ops _=>ops|_=>#[]
def zud:Fp.toList=[aM Fp 0 (some 69) (.move (.tmp 0)),aM Fp 1 (some 70) (.move (.tmp 1)),aM Fp 2 (some 71) (.move (.tmp 7)),aM Fp 3 (some 72) (.binOp .add 3 (.tmp 70) (.tmp 71) 3),aM Fp 4 (some 73) (.slice 69 (.tmp 69) (some (.tmp 72)) none none),aM Fp 5 (some 74) (.move (.tmp 0)),aM Fp 6 (some 75) (.move (.tmp 1)),aM Fp 7 (some 76) (.slice 69 (.tmp 74) (some (.tmp 75)) none none),aM Fp 8 (some 77) (.call ⟨.builtin .copy,#[.tmp 73,.tmp 76],#[69,69]⟩)]:=rfl
def zcv:wM aK 111:=⟨_,zrP,.inr (.inl ⟨_,rfl⟩)⟩
def WIN11 (w w3:aE)(g1 n1 c1 g n c ix:Nat)(vc:aF):Nat->aE
 |0=>w.drew
 |_=>w3
theorem zol:F8.toList.map (·.dst)=[some 46,some 47,some 48,some 49,some 50,some 51,some 52,some 53,some 54]:=by rw[zs2];rfl
def lIN11 (w w3:aE)(g1 n1 c1 g n c ix:Nat)(vc:aF):List Value:=[.slice (some ⟨g1,0,none⟩) n1 c1,.int .i64 ((ix:Nat)),.int .i64 (1),.int .i64 (((ix+1:Nat):Int)),.slice (some ⟨g1,(ix+1)*2,none⟩) (n1-(ix+1)) (c1-(ix+1)),.slice (some ⟨g,0,none⟩) n c,.int .i64 ((ix:Nat)),.slice (some ⟨g,ix*2,none⟩) (n-ix) (c-ix),vc]
def zh7 (w w3:aE)(g1 n1 c1 g n c ix:Nat)(vc:aF)(i:Nat):Value:=(lIN11 w w3 g1 n1 c1 g n c ix vc).getD i aA
variable {d:List Deferred}{Q:oP->uL->aE->Prop}{t0:Array aF}
theorem wp_IN11 (w w3:aE)(g1 n1 c1 g n c ix:Nat)(vc:aF)(hz:t0.size=95)(uV:t0.getD 0 aA=.slice (some ⟨g,0,none⟩) n c)(Ew:t0.getD 1 aA=.int .i64 ((ix:Nat)))(Et:t0.getD 7 aA=.int .i64 (1))(zk0:t0.getD 9 aA=.slice (some ⟨g1,0,none⟩) n1 c1)(hb:ix+1<=n1/\ix+1<c1/\ix<=n/\ix<c/\ix<=100000)(nX:(Ep #[69,69] 3 #[.slice (some ⟨g1,(ix+1)*2,none⟩) (n1-(ix+1)) (c1-(ix+1)),.slice (some ⟨g,ix*2,none⟩) (n-ix) (c-ix)]).run aK w.drew=.ok vc w3)(h0:WIN11 w w3 g1 n1 c1 g n c ix vc 0=w.drew)(hk:Q .normal ⟨cT F8 (zh7 w w3 g1 n1 c1 g n c ix vc) t0,d⟩ (w3)):
 (F5 11 F8 true).wp aK Q ⟨t0,d⟩ w:=by
 refine Jr (ws:=[8]) (Wd:=WIN11 w w3 g1 n1 c1 g n c ix vc) (vals:=zh7 w w3 g1 n1 c1 g n c ix vc) uB.mixed aP aH aP h0 Ho (λV hU hV=>?_) hk;obtain⟨Ye,zcY,ziy,Yt,zeI,V7,Xw,zlk,zqr,-⟩:=Ie zol hU;have e0:=(hV 0 aP).trans uV;have e1:=(hV 1 aP).trans Ew;have e7:=(hV 7 aP).trans Et;have e9:=(hV 9 aP).trans zk0;refine λTf hT=>Hr zs2 ⟨bR.pv,bR.pv,bR.pv,bR.any (λkk gI hm=>?_),bR.any (λkk gI hm=>?_),bR.pv,bR.pv,bR.any (λkk gI hm=>?_),bR.act (v:=V 54) 0 rfl (dE rfl) ?_,trivial⟩
 .have i0:=hb.2.2.2.2
  unfold aS;go_simp;first|(push_cast;exact Gu aC aC)|(push_cast;rw[Gu aC aC])|trace_state
 .obtain⟨ie,jK,_,cK,_⟩:=Zh
  exact Ts rfl yN jK cK (jP hT Ye) (jP hT Yt) rfl hb.1 hb.2.1 rfl rfl rfl
 .obtain⟨ie,jK,_,cK,_⟩:=Zh
  exact Ts rfl yN jK cK (jP hT V7) (jP hT Xw) rfl hb.2.2.1 hb.2.2.2.1 rfl rfl rfl
 .rw[zqr];exact zgQ rfl (jP hT zeI) (jP hT zlk) nX
def WIN15 (w w3:aE)(g n c ix:Nat)(vc:aF):Nat->aE
 |0=>w.drew
 |_=>w3
theorem zt9:Fp.toList.map (·.dst)=[some 69,some 70,some 71,some 72,some 73,some 74,some 75,some 76,some 77]:=by rw[zud];rfl
def lIN15 (w w3:aE)(g n c ix:Nat)(vc:aF):List Value:=[.slice (some ⟨g,0,none⟩) n c,.int .i64 ((ix:Nat)),.int .i64 (1),.int .i64 (((ix+1:Nat):Int)),.slice (some ⟨g,(ix+1)*2,none⟩) (n-(ix+1)) (c-(ix+1)),.slice (some ⟨g,0,none⟩) n c,.int .i64 ((ix:Nat)),.slice (some ⟨g,ix*2,none⟩) (n-ix) (c-ix),vc]
def zmc (w w3:aE)(g n c ix:Nat)(vc:aF)(i:Nat):Value:=(lIN15 w w3 g n c ix vc).getD i aA
theorem wp_IN15 (w w3:aE)(g n c ix:Nat)(vc:aF)(hz:t0.size=95)(uV:t0.getD 0 aA=.slice (some ⟨g,0,none⟩) n c)(Ew:t0.getD 1 aA=.int .i64 ((ix:Nat)))(Et:t0.getD 7 aA=.int .i64 (1))(hb:ix+1<=n/\ix+1<c/\ix<=n/\ix<c/\ix<=100000)(nX:(Ep #[69,69] 3 #[.slice (some ⟨g,(ix+1)*2,none⟩) (n-(ix+1)) (c-(ix+1)),.slice (some ⟨g,ix*2,none⟩) (n-ix) (c-ix)]).run aK w.drew=.ok vc w3)(h0:WIN15 w w3 g n c ix vc 0=w.drew)(hk:Q .normal ⟨cT Fp (zmc w w3 g n c ix vc) t0,d⟩ (w3)):
 (F5 15 Fp true).wp aK Q ⟨t0,d⟩ w:=by
 refine Jr (ws:=[8]) (Wd:=WIN15 w w3 g n c ix vc) (vals:=zmc w w3 g n c ix vc) uB.mixed aP aH aP h0 Ho (λV hU hV=>?_) hk;obtain⟨zGQ,zJo,zLE,zzG,zDB,zGr,zBb,zFw,zB2,-⟩:=Ie zt9 hU;have e0:=(hV 0 aP).trans uV;have e1:=(hV 1 aP).trans Ew;have e7:=(hV 7 aP).trans Et;refine λTf hT=>Hr zud ⟨bR.pv,bR.pv,bR.pv,bR.any (λkk gI hm=>?_),bR.any (λkk gI hm=>?_),bR.pv,bR.pv,bR.any (λkk gI hm=>?_),bR.act (v:=V 77) 0 rfl (dE rfl) ?_,trivial⟩
 .have i0:=hb.2.2.2.2
  unfold aS;go_simp;first|(push_cast;exact Gu aC aC)|(push_cast;rw[Gu aC aC])|trace_state
 .obtain⟨ie,jK,_,cK,_⟩:=Zh
  exact Ts rfl yN jK cK (jP hT zGQ) (jP hT zzG) rfl hb.1 hb.2.1 rfl rfl rfl
 .obtain⟨ie,jK,_,cK,_⟩:=Zh
  exact Ts rfl yN jK cK (jP hT zGr) (jP hT zBb) rfl hb.2.2.1 hb.2.2.2.1 rfl rfl rfl
 .rw[zB2];exact zgQ rfl (jP hT zDB) (jP hT zFw) nX
variable {c1 c2:List aF}
theorem ins_up {c0 a b xx:List aF}(ha:c0.take a.length=a)(hl:a.length+xx.length+b.length<=c0.length)(h1:c1=c0.take a.length++xx++c0.drop (a.length+xx.length))(h2:c2=c1.take (a.length+xx.length)++b++c1.drop (a.length+xx.length+b.length)):
 c2.take (a.length+xx.length+b.length)=a++xx++b/\c2.length=c0.length:=by
 have e1:c1.take (a.length+xx.length)=a++xx:=by
  rw[h1,ha,Ff (by rw[jZ];exact bL _),zV (by rw[jZ];exact bL _)]
 have l1:c1.length=c0.length:=by rw[h1,ha];simp only[jZ,x5];omega
 rw[h2,e1];refine⟨?_,?_⟩
 .rw[Ff zfn,zV zfn]
 .simp only[jZ,x5];omega
theorem zCu {c0 a b xx:List aF}(ha:c0.take a.length=a)(hl:a.length+xx.length+b.length<=c0.length)(h1:c1=c0.take (a.length+xx.length)++b++c0.drop (a.length+xx.length+b.length))(h2:c2=c1.take a.length++xx++c1.drop (a.length+xx.length)):
 c2.take (a.length+xx.length+b.length)=a++xx++b/\c2.length=c0.length:=by
 have lt:(c0.take (a.length+xx.length)).length=a.length+xx.length:=by rw[qO];omega
 have e1:c1.take a.length=a:=by
  rw[h1,Ix,Ff aC,Pw,zvE aC,ha]
 have e2:c1.drop (a.length+xx.length)=b++c0.drop (a.length+xx.length+b.length):=by
  rw[h1,Ix,List.drop_append_of_le_length aC,zx5 aC,List.nil_append]
 rw[h2,e1,e2];refine⟨?_,?_⟩
 .rw[<-Ix,Ff zfn,zV zfn]
 .simp only[jZ,x5];omega
theorem zlV (xs:List bN)(x:bN)(i:Nat):bH (xs.take i++x::xs.drop i)=(bH xs).take (i*2)++x.cells++(bH xs).drop (i*2):=by
 have h1:(bH xs).take (i*2)=bH (xs.take i):=by
  induction xs generalizing i with
  |nil=>simp[bH]
  |cons y ys ih=>
   cases i with
   |zero=>simp[bH]
   |succ i=>
    have:bH (y::ys)=y.cells++bH ys:=by simp[bH]
    rw[this,List.take_succ_cons,show(i+1)*2=y.cells.length+i*2 by simp[bN.cells];omega,List.take_length_add_append,ih i];simp[bH]
 have h2:(bH xs).drop (i*2)=bH (xs.drop i):=by
  clear h1
  induction xs generalizing i with
  |nil=>simp[bH]
  |cons y ys ih=>
   cases i with
   |zero=>simp[bH]
   |succ i=>
    have:bH (y::ys)=y.cells++bH ys:=by simp[bH]
    rw[this,List.drop_succ_cons,show(i+1)*2=y.cells.length+i*2 by simp[bN.cells];omega,List.drop_length_add_append,ih i]
 rw[h1,h2];simp[bH]
structure Grew (w w':aE)(r:Option Nat):Prop where
 size:w.heap.size<=w'.heap.size
 block:∀b,b<w.heap.size->¬some b=r->w'.heap[b]? =w.heap[b]?
theorem ov_fn:OvFn aK 121 69 4 149 2:=by
 obtain⟨ie,jK,_,cK,_⟩:=Zh;exact⟨⟨_,Tryz.func121,aH,rfl,aP,aP⟩,yN,⟨ie,jK,cK⟩⟩
variable {A:Option bC}{l:gN}
theorem zCY (H:e.d.Ok){gv c:Nat}{x:bN}(h:w.ownsRow lo 149 2 (.slice A n c) n (bH xs))(eF:lo<=w.heap.size)(hn:n<=1000)(hi:i<=n)(hv:w.heap[gv]? =some (.cells #[.int .i64 x.c,.int .i64 x.p] 149))(aV:(Sg A n c).ownBlock≠some gv):
 CF e.d 111 #[.slice A n c,.int .i64 (i:Int),.slice (some ⟨gv,0,none⟩) 1 1] K l w (λK' l' y w'=>l'=l/\∃g2 c2,y=.slice (some ⟨g2,0,none⟩) (n+1) c2/\w'.ownsRow lo 149 2 (.slice (some ⟨g2,0,none⟩) (n+1) c2) (n+1) (bH (xs.take i++x::xs.drop i))/\Grew w w' (Sg A n c).ownBlock/\(some g2=(Sg A n c).ownBlock\/w.heap.size<=g2)):=by
 refine CF.of 95 zrP (.inr (.inl ⟨_,rfl⟩)) ?_;obtain⟨ie,jK,gA,cK,vK⟩:=Zh;have zkw:xs.length=n:=by have h1:=h.1;have h2:(bH xs).length=xs.length*2:=J2 bN.cells (s:=2) (λ_=>rfl) xs;omega
 have h1:(1:Nat)<=1:=bL 1;refine CW.sq H ?_;refine CW.pQ H zcv (λzgj Q HQ=>?_);go_wp2;refine HQ.o _ _ ?_;clear HQ;refine CW.tape (s:=⟨[],K,l,_,w⟩) ?_ zgj 0;refine CW.sq H ?_;refine CW.rg H [0,1,2] ?_;refine CR.mv H (.slice A n c) ?_;refine CR.mv H (.int .i64 (i:Int)) ?_;refine CR.mv H (.slice (if c=i then A else A.map (·.add (i*2))) (n-i) (c-i)) ?_ (hx:=λT=>by exact zrD rfl yN jK cK rfl rfl hi);refine CR.nil H ?_;refine CW.sq H ?_;refine CW.rg H [0,1,2] ?_;refine CR.mv H (.slice (some ⟨gv,0,none⟩) 1 1) ?_;refine CR.mv H (.int .i64 1) ?_ (hx:=λT=>by exact zfu rfl yN rfl);refine CR.mv H (.int .i64 1) ?_;refine CR.nil H ?_;refine CW.sq H ?_;refine CW.sq H ?_;refine CW.rg H [0,1] ?_;refine CR.mv H (.int .i64 1) ?_;refine CR.mg H (.bool false) ?_;refine CR.nil H ?_;refine CW.cd H false ?_;refine CW.sk H ?_;dsimp only;refine CW.sq H ?_;refine CW.rg H [0,1,2] ?_;refine CR.mv H (.slice A n c) ?_;refine CR.mv H (.int .i64 (n:Int)) ?_ (hx:=λT=>by exact zfu rfl yN rfl);refine CR.mv H (.int .i64 (n:Int)) ?_;refine CR.nil H ?_;refine CW.sq H ?_;refine CW.sq H ?_;refine CW.rg H [0,1,2] ?_;refine CR.mv H (.int .i64 (i:Int)) ?_;refine CR.mv H (.int .i64 (n:Int)) ?_;by_cases oK:i=n
 .
   subst oK;clear hi;refine nP ?_;refine CR.mg H (.bool true) ?_;refine CR.nil H ?_;refine CW.cd H true ?_;refine CW.sq H ?_;refine CW.rg H [0,1,2,3] ?_;refine CR.mv H (.slice A i c) ?_;refine CR.mv H (.slice (some ⟨gv,0,none⟩) 1 1) ?_;refine CR.op H zBU rfl aP (λT=>?_);obtain⟨q1,q2,w5,fM,dF,nA,fA⟩:=Nl (w:=Tt.tp w T 0) (t:=69) (ty:=69) zdv yN rfl aH (cM h λb e=>rfl) (g:=gv) (cs:=#[.int .i64 x.c,.int .i64 x.p]) (news:=bN.cells x) hv rfl (m:=1) rfl aH Rz aC aH eF;refine⟨.slice (some ⟨q1,0,none⟩) (i+1) q2,w5,.inl (X6 rfl rfl rfl fM),?_⟩;simp only[b7,gF,dY,dX];refine nP ?_;refine CR.mv H (.slice (some ⟨q1,0,none⟩) (i+1) q2) ?_;refine CR.nil H ?_;refine CW.rt H ?_;refine⟨.inr rfl,rfl,.slice (some ⟨q1,0,none⟩) (i+1) q2,rfl,rfl,q1,q2,rfl,?_,⟨nA.size,nA.block⟩,?_⟩
   .rw[zlV,zV zru,zx5 zru,List.append_nil]
    exact dF
   .exact fA.imp id λhh=>hh q1 rfl
 .
   have aU:i<n:=aC;have zmq:(i:Int)<(n:Int):=aC;have zKF:¬(i:Int)=(n:Int):=aC;refine nP ?_;refine CR.mg H (.bool false) ?_;refine CR.nil H ?_;refine CW.cd H false ?_;refine CW.sk H ?_;dsimp only;obtain⟨hlen,Qn|⟨g,cap,cur,Dz,zbY,hg,Vj,pJ,gJ,l7⟩⟩:=id h
   .exfalso;have:=Qn.2;omega
   injection Dz with e1 e2 e3;subst e1 e3;clear e2;have Bx:gv≠g:=λe=>aV (by rw[e];rfl);have nE:cur.toList.length=c*2:=by simpa using gJ
   have la:((bH xs).take (i*2)).length=i*2:=by rw[qO,hlen];omega
   have lb:((bH xs).drop (i*2)).length=(n-i)*2:=by rw[x5,hlen];omega
   have Sm:∀j u,(bH xs)[j]? =some u->cur[j]? =some u:=λj u hj=>by
    rw[<-l7,Oe] at hj;split at hj
    .rw[<-C3];exact hj
    .cases hj
   have zEk:cur.toList.take (i*2)=(bH xs).take (i*2):=by rw[<-l7,Pw];congr 1;omega
   have one:=Zu xs;refine CW.sq H ?_;refine CW.sq H ?_;refine CW.rg H [0,1,2,3,4,5] ?_;refine CR.mv H (.int .i64 (n:Int)) ?_;refine CR.mv H (.int .i64 1) ?_;refine CR.mv H (.int .i64 ((n+1:Nat):Int)) ?_ (hx:=λT=>by unfold aS;go_simp;first|(push_cast;exact Gu aC aC)|(push_cast;rw[Gu aC aC])|trace_state);refine CR.mv H (.slice (some ⟨g,0,none⟩) n c) ?_;refine CR.mg H (.int .i64 (c:Int)) ?_;by_cases zKQ:n+1>c
   .
     have zBa:(c:Int)<((n+1:Nat):Int):=aC;refine nP ?_;refine CR.mv H (.bool true) ?_ (hx:=λT=>by unfold aS;go_simp;try omega);refine CR.nil H ?_;refine CW.cd H true ?_;refine CW.sq H ?_;refine CW.rg H [0,1,2,3,4,5,6,7,8,9] ?_;refine CR.mv H (.slice (some ⟨g,0,none⟩) n c) ?_;refine CR.mv H (.int .i64 (i:Int)) ?_;refine CR.mv H (.slice (some ⟨g,0,none⟩) i c) ?_ (hx:=λT=>by exact zsn rfl yN jK cK rfl rfl rfl aC);refine CR.mv H (.int .i64 (n:Int)) ?_;refine CR.mv H (.int .i64 1) ?_;refine CR.mv H (.int .i64 ((n+1:Nat):Int)) ?_ (hx:=λT=>by unfold aS;go_simp;first|(push_cast;exact Gu aC aC)|trace_state);refine CR.mv H (.int .i64 (i:Int)) ?_;refine CR.mv H (.int .i64 ((n+1-i:Nat):Int)) ?_ (hx:=λT=>by unfold aS;go_simp;first|(rw[Gu aC aC];omega)|trace_state);refine CR.op H zEo rfl aP (λT=>?_);have hold:(Rv ie.size i (.slice (some ⟨g,0,none⟩) i c)).run aK (Tt.tp w T 0).drew=.ok ((bH xs).take (i*2)).toArray (Tt.tp w T 0).drew:=by
      have hl:=run_loadCells_list (P:=aK) (Tt.tp w T 0).drew ⟨g,0,none⟩ ((bH xs).take (i*2)) (λj u hj=>by
       rw[Ml,rL];have Zv:(bH xs)[j]? =some u:=by
        rw[Oe] at hj;split at hj
        .exact hj
        .cases hj
       exact(aI (w:=w) hg j).trans (Sm j u Zv))
      rw[la] at hl;simp[Rv,cK,hl]
     have fM:=Lib.run_append_grow_zeros (P:=aK) (Tt.tp w T 0) 69 3 69 149 ie _ .i64 .i64 yN Lg jK gA (some ⟨g,0,none⟩) i c ((bH xs).take (i*2)) hold (n+1-i) aC aC aC aC (by rw[vK];omega) (by rw[vK];exact growslice_fits aC aC);obtain⟨c2,o8⟩:=aT (grownCap (Tt.tp w T 0) (i+(n+1-i)) c 149);have Df:n+1<=c2:=by have:=grownCap_ge (Tt.tp w T 0) (i+(n+1-i)) c 149;omega
     have hle:c2<=maxLen:=by rw[o8];exact grownCap_le_maxLen _ _ _ _ Wb
     obtain⟨Gh,zgV⟩:=aT (((bH xs).take (i*2)).toArray++qM (.agg #[.int .i64 0,.int .i64 0]:aF).cells (n+1-i)++qM (.agg #[.int .i64 0,.int .i64 0]:aF).cells (c2-(i+(n+1-i))):Array aF);have zdZ:Gh.toList.length=c2*2:=by
      have z1:(qM (.agg #[.int .i64 0,.int .i64 0]:aF).cells (n+1-i)).size=(n+1-i)*2:=Yw _ _;have z2:(qM (.agg #[.int .i64 0,.int .i64 0]:aF).cells (c2-(i+(n+1-i)))).size=(c2-(i+(n+1-i)))*2:=Yw _ _;rw[Ef,zgV,zae,zae,z1,z2,List.size_toArray,la];omega
     have zix:Gh.toList.take (i*2)=(bH xs).take (i*2):=by
      rw[zgV,P3,P3,Ix,Ff (by rw[la];exact bL _),zV (by rw[la];exact bL _)]
     rw[<-o8,<-zgV,show i+(n+1-i)=n+1 by omega] at fM;obtain⟨W1,cV⟩:=aT ((Tt.tp w T 0).drew.alloc (.cells Gh 149));rw[<-cV] at fM;have o6:W1.heap[w.heap.size]? =some (.cells Gh 149 (0,0)):=by rw[cV];exact gV _ _
     have zoH:∀b,b<w.heap.size->W1.heap[b]? =w.heap[b]? :=λb hb=>by rw[cV];exact Below.heap_alloc _ _ _ hb
     have dS:W1.heap.size=w.heap.size+1:=by rw[cV];exact vI _ _
     have zrb:g<w.heap.size:=iR hg;have zrS:gv<w.heap.size:=iR hv;refine⟨.slice (some ⟨w.heap.size,0,none⟩) (n+1) c2,W1,.inl (X6 rfl rfl rfl fM),?_⟩;simp only[b7,gF,dY,dX];clear fM cV zgV hold o8;refine nP ?_;refine CR.mv H (.slice (some ⟨w.heap.size,0,none⟩) (n+1) c2) ?_;refine CR.nil H ?_;refine CW.sq H ?_;refine CW.rg H [0,1,2,3,4] ?_;refine CR.mv H (.slice (some ⟨w.heap.size,0,none⟩) (n+1) c2) ?_;refine CR.mv H (.int .i64 (i:Int)) ?_;refine CR.mv H (.slice (some ⟨w.heap.size,i*2,none⟩) (n+1-i) (c2-i)) ?_ (hx:=λT=>by exact Ts rfl yN jK cK rfl rfl rfl aC aC rfl rfl rfl);refine CR.mv H (.slice (some ⟨gv,0,none⟩) 1 1) ?_;refine CR.op H zEh rfl aP (λT2=>?_);have nX:∀ty,(Ep #[69,69] ty #[.slice (some ⟨w.heap.size,i*2,none⟩) (n+1-i) (c2-i),.slice (some ⟨gv,0,none⟩) 1 1]).run aK (Tt.tp W1 T2 0)=.ok (goInt (zbs 1 (n+1-i))) ((Tt.tp W1 T2 0).setRow w.heap.size (Gh.toList.take (i*2)++x.cells++Gh.toList.drop (i*2+(x.cells).length)).toArray):=λty=>
      zfm (P:=aK) yN jK o6 zpY (λj u hj=>by rw[Ml,rL];exact(aI (w:=W1) ((zoH gv zrS).trans hv) j).trans (by rw[<-C3];exact hj)) (by rw[<-Ef,zdZ];show i*2+2<=_;omega) Rz
     obtain⟨uD,Sx⟩:=aT ((Gh.toList.take (i*2)++x.cells++Gh.toList.drop (i*2+(x.cells).length)).toArray:Array aF);rw[<-Sx] at nX;obtain⟨W2,oE⟩:=aT ((Tt.tp W1 T2 0).setRow w.heap.size uD);rw[<-oE] at nX;have zP:W2.heap[w.heap.size]? =some (.cells uD 149 (0,0)):=by rw[oE];exact Mk (Tt.tp W1 T2 0) w.heap.size Gh uD 149 (0,0) o6
     have zhA:∀b,b<w.heap.size->W2.heap[b]? =w.heap[b]? :=λb hb=>by rw[oE];exact(zg8 _ _ _ _ aC).trans (zoH b hb)
     have jQ:W2.heap.size=w.heap.size+1:=by rw[oE];simp[zhk];exact dS
     have yQ:uD.toList.length=c2*2:=by rw[Sx];show(_++_++_:List aF).length=_;simp only[jZ,qO,x5,zdZ];show min (i*2) (c2*2)+2+(c2*2-(i*2+2))=_;omega
     refine⟨_,W2,.inl (zgQ rfl rfl rfl (nX _)),?_⟩;simp only[b7,gF,dY,dX];clear nX oE;refine CR.nil H ?_;refine CW.sq H ?_;refine CW.pQ H zcv (λT3 Q HQ=>?_);have nX:∀ty,(Ep #[69,69] ty #[.slice (some ⟨w.heap.size,(i+1)*2,none⟩) (n+1-(i+1)) (c2-(i+1)),.slice (some ⟨g,i*2,none⟩) (n-i) (c-i)]).run aK (Tt.tp W2 T3 0).drew=.ok (goInt (zbs (n-i) (n+1-(i+1)))) ((Tt.tp W2 T3 0).drew.setRow w.heap.size (uD.toList.take ((i+1)*2)++((bH xs).drop (i*2))++uD.toList.drop ((i+1)*2+(((bH xs).drop (i*2))).length)).toArray):=λty=>
      zfm (P:=aK) yN jK zP (by rw[cK,lb,show n+1-(i+1)=n-i by omega];congr 1;exact(Nat.min_self _).symm) (λj u hj=>by rw[Ml];rw[Xg] at hj;exact(aI (w:=W2) ((zhA g zrb).trans hg) (i*2+j)).trans (Sm _ _ hj)) (by rw[<-Ef,yQ,lb];omega) (λu hu=>one u (zdl hu))
     obtain⟨J8,zc3⟩:=aT ((uD.toList.take ((i+1)*2)++((bH xs).drop (i*2))++uD.toList.drop ((i+1)*2+((bH xs).drop (i*2)).length)).toArray:Array aF);rw[<-zc3] at nX;obtain⟨W3,sE⟩:=aT ((Tt.tp W2 T3 0).drew.setRow w.heap.size J8);rw[<-sE] at nX;have Ii:W3.heap[w.heap.size]? =some (.cells J8 149 (0,0)):=by rw[sE];exact Mk (Tt.tp W2 T3 0).drew w.heap.size uD J8 149 (0,0) zP
     have zhi:∀b,b<w.heap.size->W3.heap[b]? =w.heap[b]? :=λb hb=>by rw[sE];exact(zg8 _ _ _ _ aC).trans (zhA b hb)
     have zd0:W3.heap.size=w.heap.size+1:=by rw[sE];simp[zhk];exact jQ
     obtain⟨Tz,Ve⟩:=ins_up (c0:=Gh.toList) (a:=(bH xs).take (i*2)) (b:=(bH xs).drop (i*2)) (xx:=x.cells) (c1:=uD.toList) (c2:=J8.toList) (by rw[la];exact zix) (by rw[la,lb,zdZ];show i*2+2+_<=_;omega) (by rw[Sx,la]) (by rw[zc3,la,show i*2+x.cells.length=(i+1)*2 by show i*2+2=_;omega]);rw[zdZ] at Ve;rw[la,lb,show i*2+x.cells.length+(n-i)*2=(n+1)*2 by show i*2+2+_=_;omega,<-zlV] at Tz;have oJ:W3.ownsRow lo 149 2 (.slice (some ⟨w.heap.size,0,none⟩) (n+1) c2) (n+1) (bH (xs.take i++x::xs.drop i)):=⟨by rw[<-Tz,qO,Ve];omega,.inr ⟨w.heap.size,c2,J8,rfl,eF,Ii,Df,hle,by rw[<-Ef];exact Ve,Tz⟩⟩;refine wp_IN11 (Tt.tp W2 T3 0) W3 w.heap.size (n+1) c2 g n c i _ rfl rfl rfl rfl rfl ⟨aC,aC,aC,aC,aC⟩ (nX _) rfl ?_;rw[Go.Mt.zO,zol];simp only[Go.Mt.wV,dY,dX,zh7,lIN11,En,Es];show Q .normal _ W3;refine HQ.o _ _ ?_;clear HQ nX sE;refine CW.sq H ?_;refine CW.pQ H zcv (λT4 Q HQ=>?_);go_wp2;refine HQ.o _ _ ?_;clear HQ;refine CW.rt H ?_;exact⟨.inr rfl,rfl,.slice (some ⟨w.heap.size,0,none⟩) (n+1) c2,rfl,rfl,w.heap.size,c2,rfl,cM oJ λb e=>rfl,⟨by show _<=W3.heap.size;omega,λb hb _=>zhi b hb⟩,.inr (bL _)⟩
   .
     have zBa:¬(c:Int)<((n+1:Nat):Int):=aC;refine nP ?_;refine CR.mv H (.bool false) ?_ (hx:=λT=>by unfold aS;go_simp;omega);refine CR.nil H ?_;refine CW.cd H false ?_;refine CW.sk H ?_;dsimp only;refine CW.sq H ?_;refine CW.rg H [0,1,2,3,4,5] ?_;refine CR.mv H (.slice (some ⟨g,0,none⟩) n c) ?_;refine CR.mv H (.int .i64 (n:Int)) ?_;refine CR.mv H (.int .i64 1) ?_;refine CR.mv H (.int .i64 ((n+1:Nat):Int)) ?_ (hx:=λT=>by unfold aS;go_simp;first|(push_cast;exact Gu aC aC)|trace_state);refine CR.mv H (.slice (some ⟨g,0,none⟩) (n+1) c) ?_ (hx:=λT=>by exact zsn rfl yN jK cK rfl rfl rfl aC);refine CR.mv H (.slice (some ⟨g,0,none⟩) (n+1) c) ?_;refine CR.nil H ?_;refine CW.sq H ?_;refine CW.sq H ?_;refine CW.rg H [0,1,2,3,4,5,6,7] ?_;refine CR.mv H (.slice (some ⟨gv,0,none⟩) 1 1) ?_;refine CR.mv H (.slice (some ⟨g,0,none⟩) (n+1) c) ?_;refine CR.mv H (.int .i64 (i:Int)) ?_;refine CR.mv H (.int .i64 1) ?_;refine CR.mv H (.int .i64 ((i+1:Nat):Int)) ?_ (hx:=λT=>by unfold aS;go_simp;first|(push_cast;exact Gu aC aC)|trace_state);refine CR.mv H (.slice (some ⟨g,(i+1)*2,none⟩) (n+1-(i+1)) (c-(i+1))) ?_ (hx:=λT=>by exact Ts rfl yN jK cK rfl rfl rfl aC aC rfl rfl rfl);refine CR.overlaps H (A:=⟨gv,0,none⟩) (B:=⟨g,(i+1)*2,none⟩) ov_fn zyN rfl rfl rfl rfl rfl rfl Bx hv hg (by rw[gJ];omega) ?_;simp only[b7,gF,dY,dX];refine nP ?_;refine CR.mg H (.bool true) ?_;refine CR.nil H ?_;refine CW.cd H true ?_;refine CW.sq H ?_;refine CW.pQ H zcv (λT3 Q HQ=>?_);have zrb:g<w.heap.size:=iR hg;have zrS:gv<w.heap.size:=iR hv;have nX:∀ty,(Ep #[69,69] ty #[.slice (some ⟨g,(i+1)*2,none⟩) (n+1-(i+1)) (c-(i+1)),.slice (some ⟨g,i*2,none⟩) (n+1-i) (c-i)]).run aK (Tt.tp w T3 0).drew=.ok (goInt (zbs (n+1-i) (n+1-(i+1)))) ((Tt.tp w T3 0).drew.setRow g (cur.toList.take ((i+1)*2)++((bH xs).drop (i*2))++cur.toList.drop ((i+1)*2+(((bH xs).drop (i*2))).length)).toArray):=λty=>
      zfm (P:=aK) yN jK hg (by rw[cK,lb,show n+1-(i+1)=n-i by omega];congr 1;exact(Nat.min_eq_right aC).symm) (λj u hj=>by rw[Ml];rw[Xg] at hj;exact(aI (w:=w) hg (i*2+j)).trans (Sm _ _ hj)) (by rw[<-Ef,nE,lb];omega) (λu hu=>one u (zdl hu))
     obtain⟨uD,Sx⟩:=aT ((cur.toList.take ((i+1)*2)++((bH xs).drop (i*2))++cur.toList.drop ((i+1)*2+((bH xs).drop (i*2)).length)).toArray:Array aF);rw[<-Sx] at nX;obtain⟨W3,sE⟩:=aT ((Tt.tp w T3 0).drew.setRow g uD);rw[<-sE] at nX;have Ii:W3.heap[g]? =some (.cells uD 149 (0,0)):=by rw[sE];exact Mk (Tt.tp w T3 0).drew g cur uD 149 (0,0) hg
     have zhi:∀b,b≠g->W3.heap[b]? =w.heap[b]? :=λb hb=>by rw[sE];exact zg8 _ _ _ _ hb
     have zd0:W3.heap.size=w.heap.size:=by rw[sE];simp[zhk];rfl
     have yQ:uD.toList.length=c*2:=by rw[Sx];show(_++_++_:List aF).length=_;simp only[jZ,qO,x5,nE,hlen];omega
     refine wp_IN15 (Tt.tp w T3 0) W3 g (n+1) c i _ rfl rfl rfl rfl ⟨aC,aC,aC,aC,aC⟩ (nX _) rfl ?_;rw[Go.Mt.zO,zt9];simp only[Go.Mt.wV,dY,dX,zmc,lIN15,En,Es];show Q .normal _ W3;refine HQ.o _ _ ?_;clear HQ nX sE;refine CW.sq H ?_;refine CW.rg H [0,1,2,3,4] ?_;refine CR.mv H (.slice (some ⟨g,0,none⟩) (n+1) c) ?_;refine CR.mv H (.int .i64 (i:Int)) ?_;refine CR.mv H (.slice (some ⟨g,i*2,none⟩) (n+1-i) (c-i)) ?_ (hx:=λT=>by exact Ts rfl yN jK cK rfl rfl rfl aC aC rfl rfl rfl);refine CR.mv H (.slice (some ⟨gv,0,none⟩) 1 1) ?_;refine CR.op H zG4 rfl aP (λT2=>?_);have nX:∀ty,(Ep #[69,69] ty #[.slice (some ⟨g,i*2,none⟩) (n+1-i) (c-i),.slice (some ⟨gv,0,none⟩) 1 1]).run aK (Tt.tp W3 T2 0)=.ok (goInt (zbs 1 (n+1-i))) ((Tt.tp W3 T2 0).setRow g (uD.toList.take (i*2)++x.cells++uD.toList.drop (i*2+(x.cells).length)).toArray):=λty=>
      zfm (P:=aK) yN jK Ii zpY (λj u hj=>by rw[Ml,rL];exact(aI (w:=W3) ((zhi gv Bx).trans hv) j).trans (by rw[<-C3];exact hj)) (by rw[<-Ef,yQ];show i*2+2<=_;omega) Rz
     obtain⟨J8,zc3⟩:=aT ((uD.toList.take (i*2)++x.cells++uD.toList.drop (i*2+(x.cells).length)).toArray:Array aF);rw[<-zc3] at nX;obtain⟨W2,oE⟩:=aT ((Tt.tp W3 T2 0).setRow g J8);rw[<-oE] at nX;have Gj:W2.heap[g]? =some (.cells J8 149 (0,0)):=by rw[oE];exact Mk (Tt.tp W3 T2 0) g uD J8 149 (0,0) Ii
     have zhA:∀b,b≠g->W2.heap[b]? =w.heap[b]? :=λb hb=>by rw[oE];exact(zg8 _ _ _ _ hb).trans (zhi b hb)
     have jQ:W2.heap.size=w.heap.size:=by rw[oE];simp[zhk];exact zd0
     obtain⟨Tz,Ve⟩:=zCu (c0:=cur.toList) (a:=(bH xs).take (i*2)) (b:=(bH xs).drop (i*2)) (xx:=x.cells) (c1:=uD.toList) (c2:=J8.toList) (by rw[la];exact zEk) (by rw[la,lb,nE];show i*2+2+_<=_;omega) (by rw[Sx,la,show i*2+x.cells.length=(i+1)*2 by show i*2+2=_;omega]) (by rw[zc3,la]);rw[nE] at Ve;rw[la,lb,show i*2+x.cells.length+(n-i)*2=(n+1)*2 by show i*2+2+_=_;omega,<-zlV] at Tz;have oJ:W2.ownsRow lo 149 2 (.slice (some ⟨g,0,none⟩) (n+1) c) (n+1) (bH (xs.take i++x::xs.drop i)):=⟨by rw[<-Tz,qO,Ve];omega,.inr ⟨g,c,J8,rfl,zbY,Gj,aC,pJ,by rw[<-Ef];exact Ve,Tz⟩⟩;refine⟨_,W2,.inl (zgQ rfl rfl rfl (nX _)),?_⟩;simp only[b7,gF,dY,dX];clear nX oE;refine CR.nil H ?_;refine CW.sq H ?_;refine CW.pQ H zcv (λT4 Q HQ=>?_);go_wp2;refine HQ.o _ _ ?_;clear HQ;refine CW.rt H ?_;exact⟨.inr rfl,rfl,.slice (some ⟨g,0,none⟩) (n+1) c,rfl,rfl,g,c,rfl,cM oJ λb e=>rfl,⟨by show _<=W2.heap.size;omega,λb hb hn=>zhA b λe=>hn (by rw[e];rfl)⟩,.inl rfl⟩
section
variable {P:bT}{w:aE}
theorem zrd {ops:Array aX}{rest:List aX}{o:aX}{a:uL}{Q:oP->uL->aE->Prop}(Fy:o.guard=none)(x y:cJ)(t t2:aN)(ho:o.op=.binOp .neq t x y t2){d:Nq}{e:aN}(hu:P.underlying t=some (.chan d e))(p q:Option Nat)(hx:a.eval x=.chan p)(hy:a.eval y=.chan q){r:Bool}(hr:(!(p==q))=r)
 (h:wpList P ops Q rest (a.put o.dst (.bool r)) w):wpList P ops Q (o::rest) a w:=by
 subst hr;refine wpList_plain Fy λK hK=>?_;unfold aX.wp;simp[aS,eqGuard,binOp,ho,hx,hy,zja hu];exact hK _ _ h
end
def yY (xs:List bN)(p:Int):Nat:=(xs.takeWhile λx=>decide (p<=x.p)).length
def zhM (xs:List bN)(p:Int):yY xs p<=xs.length:=(zun _).length_le
theorem zAM (xs:List bN)(c:bN):uE xs c=xs.take (yY xs c.p)++c::xs.drop (yY xs c.p):=by
 unfold uE yY;congr 1
 .exact(List.prefix_iff_eq_take.1 (zun _))
 .congr 1
  have h:=List.takeWhile_append_dropWhile (p:=λx:bN=>decide (c.p<=x.p)) (l:=xs);generalize xs.takeWhile (λx=>decide (c.p<=x.p))=a at*;generalize xs.dropWhile (λx=>decide (c.p<=x.p))=b at*;subst h;simp
variable {p:Int}
theorem zHd :∀{j:Nat} {x:bN},j<yY xs p->xs[j]? =some x->p<=x.p:=by
 unfold yY
 induction xs with
 |nil=>intro j x hj;simp at hj
 |cons y ys ih=>
  intro j x hj hx;rw[zpM] at hj;split at hj
  .rename_i hy
   cases j with
   |zero=>simp at hx;subst hx;simpa using hy
   |succ j=>exact ih zco (by simpa using hx)
  .simp at hj
theorem zIC :∀{j:Nat} {x:bN},yY xs p=j->xs[j]? =some x->x.p<p:=by
 unfold yY
 induction xs with
 |nil=>intro j x hj hx;simp at hx
 |cons y ys ih=>
  intro j x hj hx;rw[zpM] at hj;split at hj
  .rename_i hy
   cases j with
   |zero=>simp at hj
   |succ j=>exact ih zco (by simpa using hx)
  .rename_i hy
   simp at hj;subst hj;simp at hx;subst hx;simpa using hy
def zm7:Go.Code:=(zov.body).getD .skip
def rRI9:Go.Code:=match zm7 with| .seq _ (.seq _ (.seq _ (.seq _ (.seq _ (.seq _ (.seq (.block _ (.loop (.seq (.seq (a) _) _))) _))))))=>a|_=>.skip
def rRI11:Go.Code:=match zm7 with| .seq _ (.seq _ (.seq _ (.seq _ (.seq _ (.seq _ (.seq _ (.seq (a) _)))))))=>a|_=>.skip
def zea:Array Oper:=match rRI11 with| .region _ ops _=>ops|_=>#[]
abbrev oRI11_9:Oper:=aM zea 9 (some 72) (.buildSlice 69 1 #[(0,.tmp 71)])
def zAp:zea[9]? =some oRI11_9:=rfl
abbrev zDq:Oper:=aM zea 13 none (.store 69 (.tmp 75) (.tmp 73))
def zBY:zea[13]? =some zDq:=rfl
def Cu:wM aK 101:=⟨_,zw7,.inr (.inl ⟨_,rfl⟩)⟩
section
variable {Q:oP->uL->aE->Prop}{u3 u4 u5 u6 u7 u9 gS gC gD gE gH gG u16 gZ kL kU jT iM iF iA gX iC hY iH iK iB jJ jL u32 iG iL iJ iE kJ kR iN iD gY iY iU iP iZ jA iQ jC iW iV iO nF nL lF lG kI kV kY kP kZ kD j7 kF u64 kH j8 j9 kE lJ kW kM j6 zbf zcu zdE zbG zcr zb4 zdG:aF}{w:aE}
theorem wp_RI9 {lo hb n cW m:Nat}{AW:Option bC}{xs:List bN}{c:bN}(h7:w.cell? ⟨hb,7,none⟩=some (.slice AW n cW))(hs:cE w lo w.heap.size 2 AW n cW (bH xs))(hn:xs.length=n)(Pv:n<=1000)(hm:m<=yY xs c.p)(hp:0<=c.p/\c.p<=9)(h:∀zqQ zso zxk zw9 z46 zrq zsY z49 zti z51 zvG z53 zoT zyt zuV zuW zx4 z59,Q .normal ⟨#[.pointer (some ⟨hb,0,none⟩),.int .i64 c.c,.int .i64 c.p,u3,u4,u5,u6,u7,.int .i64 (m:Int),u9,gS,gC,gD,gE,gH,gG,u16,gZ,kL,kU,jT,iM,iF,iA,gX,iC,hY,iH,iK,iB,jJ,jL,u32,iG,iL,iJ,iE,kJ,kR,iN,iD,gY,zqQ,zso,zxk,zw9,z46,zrq,zsY,z49,zti,z51,zvG,z53,zoT,zyt,zuV,zuW,zx4,z59,.bool (decide (m<yY xs c.p)),kD,j7,kF,u64,kH,j8,j9,kE,lJ,kW,kM,j6,zbf,zcu,zdE,zbG,zcr,zb4,zdG],[]⟩ w):
 Code.wp aK rRI9 Q ⟨#[.pointer (some ⟨hb,0,none⟩),.int .i64 c.c,.int .i64 c.p,u3,u4,u5,u6,u7,.int .i64 (m:Int),u9,gS,gC,gD,gE,gH,gG,u16,gZ,kL,kU,jT,iM,iF,iA,gX,iC,hY,iH,iK,iB,jJ,jL,u32,iG,iL,iJ,iE,kJ,kR,iN,iD,gY,iY,iU,iP,iZ,jA,iQ,jC,iW,iV,iO,nF,nL,lF,lG,kI,kV,kY,kP,kZ,kD,j7,kF,u64,kH,j8,j9,kE,lJ,kW,kM,j6,zbf,zcu,zdE,zbG,zcr,zb4,zdG],[]⟩ w:=by
 have hle:=zhM xs c.p;have zu1:=aD (show∀(j:Nat) (x:bN),j<yY xs c.p->xs[j]? =some x->c.p<=x.p from λj x hj hx=>zHd hj hx);obtain⟨pl,nG⟩:=aT (yY xs c.p);rw[<-nG] at hm h hle zu1;have zH0:=aD nG;have Sj:=aD hn;have HQ:=aD h;simp only[rRI9,zm7,zov,vB];by_cases aU:m<n
 .obtain⟨bW,oW,x,hA,lQ,fG,e0,e1⟩:=zfp hs aU
  subst hA;have i0:(0:Int)<=(m:Int):=aC;have i1:(m:Int)<(n:Int):=aC;have HX:=aD fG;have HS:=aD hs;by_cases zFr:c.p<=x.p
  .have Pt:m<pl:=by
    rcases rM m pl with hh|hh
    .exact hh
    .have:m=pl:=aC
     subst this;exact absurd (zIC zH0.o.symm HX.o) aC
   go_wp2;have:=HQ.o;simp only[Pt,decide_true] at this;exact this _ _ _ _ _ _ _ _ _ _ _ _ _ _ _ _ _ _
  .have Pt:¬m<pl:=λhh=>zFr (zu1.o m x hh HX.o)
   go_wp2;have:=HQ.o;simp only[Pt,decide_false] at this;exact this _ _ _ _ _ _ _ _ _ _ _ _ _ _ _ _ _ _
 .have zHU:m=n:=by have:=Sj.o;omega
  subst zHU;have Pt:¬m<pl:=by have:=Sj.o;omega
  have HS:=aD hs;go_wp2;have:=HQ.o;simp only[Pt,decide_false] at this;exact this _ _ _ _ _ _ _ _ _ _ _ _ _ _ _ _ _ _
end
variable {d:oG}
theorem cf_ring (H:e.d.Ok){c:bN}(h:bG w lo hb v d)(mr:fZ v d)(hi:y9 d)(eF:lo<=w.heap.size)(hp:0<=c.p/\c.p<=9):
 CF e.d 101 #[.pointer (some ⟨hb,0,none⟩),.int .i64 c.c,.int .i64 c.p] K (.wk e.qs k) w (λK' l' y w'=>zc0 e.qs lo hb v d w k 0 (pR d.r c) l' y w'):=by
 refine CF.of 80 zw7 (.inr (.inl ⟨_,rfl⟩)) ?_;have A0:=aD h;have T0:=aD (bP.refl (hb:=hb) (v:=v) (w:=w));have HI:=aD hi;have MR:=aD mr;have Lm:=aD eF;have oF:=hi.sm.nb;have L2:=hi.sm.nw;have Co:=hi.sm.nr;obtain⟨yT,zmd⟩:=hp;clear h mr hi eF;refine CW.sq H (CW.p0 H Cu A0 T0 λw1 eD A1 T1=>?_);obtain⟨AB,cB,Lb,zap⟩:=G8 A1.o.B aH;have Aj:=aD Lb;clear Lb zap;obtain⟨kn,tY⟩:=aT (((iS d.r.recs c.c).isSome||(wA d.r.back c.c).isSome));have fD:=aD tY;clear tY;refine CW.sq H ?_;refine CW.sq H ?_
 cases fA:iS d.r.recs c.c with
 |some i=>
  obtain⟨x,hx,Jq,sD⟩:=C1 fA;obtain⟨gL,On,hO,hM,hC⟩:=MR.o.onLine HI.o hx sD Jq;have Ut:=aD hO;have cN:=aD (show pR d.r c=(d.r,[107,110,111,119,110]) by unfold pR;rw[fA];rfl);clear hx Jq sD On hO hM hC fA;refine CW.pW H Cu A1 T1 λw2 Q eZ A2 T2 HQ=>?_;have k5:w2.cell? ⟨hb,5,none⟩=some (.map (some v.mO)):=aI A2.o.blk 5;have k8:w2.cell? ⟨hb,8,none⟩=some (.slice AB d.r.back.length cB):=by
   have:=aI A2.o.blk 8;rw[this,<-Aj.o];rfl
  have Gv:=aD (show cE w2 lo w2.heap.size 1 AB d.r.back.length cB (jY (d.r.back.map bN.c)) by have:=A2.o.B;rw[Aj.o] at this;exact Be this aH);have Xq:=aD A2.o.O
  go_wp2_with (at_lookup;refine zrp _ rfl (.tmp 12) (.tmp 13) 67 false rfl 84 S3 Lg (.chan none) (zbr _) v.mO c.c v.pO rfl rfl Xq.o ?_;rw[Ut.o];simp only[vB,zuR,jG,if_false];refine zrd rfl (.tmp 14) (.const (.chan none)) 84 84 rfl Se (some gL) none rfl rfl (r:=true) rfl ?_)
  refine HQ.o _ _ ?_;clear HQ;clear k5 k8;refine CW.cd H true ?_;refine CW.sq H (CW.p0 H Cu A2 T2 λw3 jB A3 T3=>?_);refine CW.rt H ?_;refine⟨.inr rfl,rfl,.string ⟨#[107,110,111,119,110]⟩,rfl,⟨rfl,by rw[cN.o],v,?_,?_,?_,Am.rf v⟩⟩
  .rw[cN.o];exact A3.o
  .rw[cN.o];exact MR.o
  .exact T3.o
 |none=>
  have Ut:=aD (MR.o.offLine fA);have vL:=aD fA;clear fA;refine CW.pW H Cu A1 T1 λw2 Q eZ A2 T2 HQ=>?_;have k5:w2.cell? ⟨hb,5,none⟩=some (.map (some v.mO)):=aI A2.o.blk 5;have k8:w2.cell? ⟨hb,8,none⟩=some (.slice AB d.r.back.length cB):=by
   have:=aI A2.o.blk 8;rw[this,<-Aj.o];rfl
  have Gv:=aD (show cE w2 lo w2.heap.size 1 AB d.r.back.length cB (jY (d.r.back.map bN.c)) by have:=A2.o.B;rw[Aj.o] at this;exact Be this aH);have Xq:=aD A2.o.O
  go_wp2_with (first
   |(at_lookup;refine zrp _ rfl (.tmp 12) (.tmp 13) 67 false rfl 84 S3 Lg (.chan none) (zbr _) v.mO c.c v.pO rfl rfl Xq.o ?_;rw[Ut.o];simp only[vB,zuR,jG,if_false];refine zrd rfl (.tmp 14) (.const (.chan none)) 84 84 rfl Se (none) none rfl rfl (r:=false) rfl ?_)
   |(go_at_call 108;refine(zyX lo w2.heap.size d.r.back.length cB AB (d.r.back.map bN.c) c.c w2 Gv.o aC).mono ?_;rintro en wz ⟨rfl,tD⟩;obtain rfl:=tD;rw[zuO]))
  refine HQ.o _ _ ?_;clear HQ;clear k8;have zJf:=A2
  cases I9:wA d.r.back c.c with
  |some p=>
   have cN:=aD (show pR d.r c=(d.r,[107,110,111,119,110]) by unfold pR;rw[I9,vL.o];rfl);clear I9;refine CW.cd H true ?_;refine CW.sq H (CW.p0 H Cu A2 T2 λw3 jB A3 T3=>?_);refine CW.rt H ?_;refine⟨.inr rfl,rfl,.string ⟨#[107,110,111,119,110]⟩,rfl,⟨rfl,by rw[cN.o],v,?_,?_,?_,Am.rf v⟩⟩
   .rw[cN.o];exact A3.o
   .rw[cN.o];exact MR.o
   .exact T3.o
  |none=>
   have zsX:=aD I9;clear I9;refine CW.cd H false ?_;refine CW.sk H ?_;dsimp only;have zcZ:=HI.o.nln;have zaW:d.ln.length<=100:=by have:=(C9 HI.o.R.off).2.1;omega
   have zdy:=aD (λW (a:bG W lo hb v d)=>zqR a MR.o zcZ zaW);clear zcZ zaW fD;refine CW.sq H (CW.pW H Cu A2 T2 λw3 Q jB A3 T3 HQ=>?_)
   go_wp2_with (go_at_call 109;refine(zdy.o _ A3.o).mono ?_;rintro en wy ⟨rfl,zGV⟩;obtain rfl:=zGV)
   refine HQ.o _ _ ?_;clear HQ;clear zdy;refine CW.sq H ?_
   cases fL:o0 d.r.o d.r.recs with
   |nil=>
    rw[zvn fL];have cN:=aD (show pR d.r c=({d.r with back:=d.r.back++[c]},[98,117,115,121]) by unfold pR;rw[zsX.o,vL.o];simp only[fL];rfl);clear fL;refine CW.sq H (CW.p0 H Cu A3 T3 λw4 lW A4 T4=>?_);refine CW.cd H true ?_;refine CW.sq H (CW.pW H Cu A4 T4 λw5 Q mV A5 T5 HQ=>?_);have k8:w5.cell? ⟨hb,8,none⟩=some v.sB:=aI A5.o.blk 8;obtain⟨OC,zag⟩:=aT (.cells #[.int .i64 c.c] 3:Obj);have a5:=A5.o.alloc OC;obtain⟨q1,q2,w6,fM,dF,nA,fA⟩:=Nl (t:=38) (ty:=38) zbi Wv rfl aH a5.B (g:=w5.heap.size) (cs:=#[.int .i64 c.c]) (news:=[.int .i64 c.c]) (by rw[zag];exact gV _ _) rfl (m:=1) rfl aH Oj aC aH (by have:=T5.o.size;have:=Lm.o;simp;omega);obtain⟨a6,t6⟩:=a5.putB nA (xs:=d.r.back++[c]) (by have e:jY ((d.r.back++[c]).map bN.c)=jY (d.r.back.map bN.c)++[.int .i64 c.c]:=(by simp[jY]);rw[e];exact dF) aQ fA;have A6:=aD a6;have T6:=aD (T5.o.trans ((bP.below (eT (fK _ w5) OC)).trans (⟨t6.size,t6.block,t6.moved⟩:bP hb v (w5.alloc OC) _ _)));have Li:w6.heap[hb]? =some (Oa v _):=(a5.other (j:=6) (c:=8) (x:=v.sB) rfl aH nA (.slice (some ⟨q1,0,none⟩) (d.r.back.length+1) q2)).2.trans a5.blk;have zul:=aI Li 8;have kf:=eW Li 8;have AP:=aD fM;obtain⟨A8,c8,zhy,_⟩:=G8 A5.o.B aH;have Qf:w5.cell? ⟨hb,8,none⟩=some (.slice A8 d.r.back.length c8):=by rw[k8,zhy]
    have zyZ:w6.cell? ⟨hb,8,none⟩=some (.slice A8 d.r.back.length c8):=by rw[zul,<-zhy];rfl
    rw[zhy,zag] at AP;clear dF nA fA a6 t6 a5 Li fM k8 zul zhy
    go_wp2_with (at_builtin;refine ztl rfl (.tmp 32) (.tmp 34) 38 38 rfl (.slice A8 d.r.back.length c8) (.slice (some ⟨w5.heap.size,0,none⟩) 1 1) (.slice (some ⟨q1,0,none⟩) (d.r.back.length+1) q2) rfl rfl AP.o ?_)
    refine HQ.o _ _ ?_;clear HQ;clear Qf zyZ kf AP;clear A5 T5;obtain⟨zLB,zqS⟩:∃y,y=w6.setCell ⟨hb,8,none⟩ (.slice (some ⟨q1,0,none⟩) (d.r.back.length+1) q2):=⟨_,rfl⟩;rw[<-zqS] at A6 T6⊢;clear zqS;refine CW.sq H (CW.p0 H Cu A6 T6 λw7 rZ A7 T7=>?_);refine CW.rt H ?_;refine⟨.inr rfl,rfl,.string ⟨#[98,117,115,121]⟩,rfl,⟨rfl,by rw[cN.o],{v with sB:=.slice (some ⟨q1,0,none⟩) (d.r.back.length+1) q2},?_,?_,?_,⟨rfl,rfl,rfl,rfl⟩⟩⟩
    .rw[cN.o];exact A7.o
    .rw[cN.o];refine fZ.of MR.o ?_ ?_ ?_ ?_ ?_<;>rfl
    .exact T7.o
   |cons lf ls=>
    obtain⟨i,gL,vV⟩:=HI.o.free fL;have uT:I2 d=(i:Int):=by rw[ztD fL,vV.l];omega
    rw[uT];have cN:=aD (show pR d.r c=({d.r with recs:=d.r.recs++[⟨c.c,(i:Int)+1,0,d.r.clk,-1,-1,eN⟩],wait:=uE d.r.wait c},[108,105,110,101,32]++jH ((i:Int)+1)) by unfold pR;rw[zsX.o,vL.o];simp only[fL,vV.l];rfl);have FA:=aD vV;have zzg:=vV.i6;have zqU:i<=50:=by have:=(zfK HI.o.R.off (l:=lf) (by rw[fL];simp));have:=vV.l;omega
    clear fL vV uT;refine CW.sq H (CW.pW H Cu A3 T3 λw4 Q lW A4 T4 HQ=>?_);have i0:(0:Int)<=(i:Int):=aC;go_wp2;refine HQ.o _ _ ?_;clear HQ;refine CW.cd H false ?_;refine CW.sk H ?_;dsimp only;refine CW.sq H (CW.pW H Cu A4 T4 λw5 Q mV A5 T5 HQ=>?_);have zGA:lo<=w5.heap.size:=eG Lm.o T5.o.size
    go_wp2_with (go_at_call 110;refine(zva A5.o zGA FA.o.g aC Co c.c).mono ?_;rintro en w6 ⟨rfl,v6,a6,t6,p6⟩;have A6:=aD a6;have T6:=aD (T5.o.trans t6);have P6:=aD p6;clear a6 t6 p6)
    refine HQ.o _ _ ?_;clear HQ;clear A5 T5;have zEu:=aD (fZ.of (v':=v6) (d':={d with r:={d.r with recs:=d.r.recs++[⟨c.c,(i:Int)+1,0,d.r.clk,-1,-1,eN⟩]}}) (MR.o.more HI.o.ndl FA.o.g FA.o.un vL.o (o:=0) (hh:=-1) (tt:=-1) (clk:=d.r.clk)) P6.o.1 P6.o.2.1 P6.o.2.2.1 rfl rfl);have zLp:lo<=w6.heap.size:=eG Lm.o T6.o.size;refine CW.sq H (CW.p0 H Cu A6 T6 λw7 rZ A7 T7=>?_);obtain⟨AW,cW,Mj,zIh⟩:=G8 A7.o.W aH;have Bv:=aD (show v6.sW=.slice AW d.r.wait.length cW from Mj);clear Mj zIh;refine CW.sq H ?_;refine CW.block H ?_;refine CW.loop H (λnn s=>∃(m:Nat) (wz:aE) (u3 u4 u5 u6 u9 gS gC gD gE gH gG u16 gZ kL kU jT iM iF iA gX iC hY iH iK iB jJ jL u32 iG iL iJ iE kJ kR iN iD gY iY iU iP iZ jA iQ jC iW iV iO nF nL lF lG kI kV kY kP kZ kD j7 kF u64 kH j8 j9 kE lJ kW kM j6 zbf zcu zdE zbG zcr zb4 zdG:aF),s=⟨[],K,.wk e.qs k,#[.pointer (some ⟨hb,0,none⟩),.int .i64 c.c,.int .i64 c.p,u3,u4,u5,u6,.int .i64 (i:Int),.int .i64 (m:Int),u9,gS,gC,gD,gE,gH,gG,u16,gZ,kL,kU,jT,iM,iF,iA,gX,iC,hY,iH,iK,iB,jJ,jL,u32,iG,iL,iJ,iE,kJ,kR,iN,iD,gY,iY,iU,iP,iZ,jA,iQ,jC,iW,iV,iO,nF,nL,lF,lG,kI,kV,kY,kP,kZ,kD,j7,kF,u64,kH,j8,j9,kE,lJ,kW,kM,j6,zbf,zcu,zdE,zbG,zcr,zb4,zdG],wz⟩/\m<=yY d.r.wait c.p/\nn=yY d.r.wait c.p-m/\bG wz lo hb v6 {d with r:={d.r with recs:=d.r.recs++[⟨c.c,(i:Int)+1,0,d.r.clk,-1,-1,eN⟩]}}/\bP hb v w v6 wz) (λnn s hs=>?_) (n:=yY d.r.wait c.p) ?_
    rotate_left
    .exact⟨0,w7,_,_,_,_,_,_,_,_,_,_,_,_,_,_,_,_,_,_,_,_,_,_,_,_,_,_,_,_,_,_,_,_,_,_,_,_,_,_,_,_,_,_,_,_,_,_,_,_,_,_,_,_,_,_,_,_,_,_,_,_,_,_,_,_,_,_,_,_,_,_,_,_,_,_,_,rfl,mK _,rfl,A7.o,T7.o⟩
    .obtain⟨m,wz,u3,u4,u5,u6,u9,gS,gC,gD,gE,gH,gG,u16,gZ,kL,kU,jT,iM,iF,iA,gX,iC,hY,iH,iK,iB,jJ,jL,u32,iG,iL,iJ,iE,kJ,kR,iN,iD,gY,iY,iU,iP,iZ,jA,iQ,jC,iW,iV,iO,nF,nL,lF,lG,kI,kV,kY,kP,kZ,kD,j7,kF,u64,kH,j8,j9,kE,lJ,kW,kM,j6,zbf,zcu,zdE,zbG,zcr,zb4,zdG,rfl,Pt,Cg,az,tz⟩:=hs
     have A8:=aD az;have T8:=aD tz;clear az tz A7 T7;refine CW.sq H ?_;refine CW.sq H ?_;refine CW.pQ H Cu (λzmf Q HQ=>?_);obtain⟨w9,I6⟩:=aT (Tt.tp wz zmf 0);have A9:=aD (show bG w9 lo hb v6 {d with r:={d.r with recs:=d.r.recs++[⟨c.c,(i:Int)+1,0,d.r.clk,-1,-1,eN⟩]}} by rw[I6];exact A8.o.tp zmf 0);have T9:=aD (show bP hb v w v6 w9 by rw[I6];exact T8.o.tp zmf 0)
     try dsimp only
     rw[<-I6];clear I6 A8 T8;have hW:=A9.o.W;rw[Bv.o] at hW;have k7:w9.cell? ⟨hb,7,none⟩=some (.slice AW d.r.wait.length cW):=by
      have:=aI A9.o.blk 7;rw[this,<-Bv.o];rfl
     refine wp_RI9 k7 (Be hW aH) rfl L2 Pt ⟨yT,zmd⟩ λzqQ zso zxk zw9 z46 zrq zsY z49 zti z51 zvG z53 zoT zyt zuV zuW zx4 z59=>?_;refine HQ.o _ _ ?_;clear HQ hW k7;by_cases aU:m<yY d.r.wait c.p
     .simp only[aU,decide_true]
      refine CW.cd H true ?_;refine CW.sk H ?_;dsimp only;refine CW.block H ?_;refine CW.pQ H Cu (λXj Q HQ=>?_);obtain⟨qH,Ed⟩:=aT (Tt.tp w9 Xj 0);have kK:=aD (show bG qH lo hb v6 {d with r:={d.r with recs:=d.r.recs++[⟨c.c,(i:Int)+1,0,d.r.clk,-1,-1,eN⟩]}} by rw[Ed];exact A9.o.tp Xj 0);have xR:=aD (show bP hb v w v6 qH by rw[Ed];exact T9.o.tp Xj 0)
      try dsimp only
      rw[<-Ed];clear Ed A9 T9;have zFy:m<=1000:=by have:=zhM d.r.wait c.p;omega
      go_wp2;refine HQ.o _ _ ?_;refine⟨yY d.r.wait c.p-(m+1),aC,m+1,qH,_,_,_,_,_,_,_,_,_,_,_,_,_,_,_,_,_,_,_,_,_,_,_,_,_,_,_,_,_,_,_,_,_,_,_,_,_,_,_,_,_,_,_,_,_,_,_,_,_,_,_,_,_,_,_,_,_,_,_,_,_,_,_,_,_,_,_,_,_,_,_,_,_,_,_,rfl,aC,rfl,kK.o,xR.o⟩
     .simp only[aU,decide_false]
      refine CW.cd H false ?_;refine CW.exit H aQ ?_;dsimp only;rw[if_pos rfl];have zay:m=yY d.r.wait c.p:=aC;have zCX:=aD zay;have zFy:m<=1000:=by have:=zhM d.r.wait c.p;omega
      have zcz:m<=d.r.wait.length:=by have:=zhM d.r.wait c.p;omega
      clear zay aU Pt Cg;have zA5:=aD (show w9.ownsRow lo 149 2 (.slice AW d.r.wait.length cW) d.r.wait.length (bH d.r.wait) by have:=A9.o.W;rw[Bv.o] at this;exact this);have k7:w9.cell? ⟨hb,7,none⟩=some (.slice AW d.r.wait.length cW):=by
       have:=aI A9.o.blk 7;rw[this,<-Bv.o];rfl
      refine CW.sq H ?_;refine CW.rg H [0,1,2,3,4,5,6,7,8,9,10,11,12,13] ?_;refine CR.mv H (.pointer (some ⟨hb,0,none⟩)) ?_;refine CR.mv H (.pointer (some ⟨hb,0,none⟩)) ?_;refine CR.mv H (.pointer (some ⟨hb,0,none⟩)) ?_;refine CR.mg H (.pointer (some ⟨hb,7,none⟩)) ?_;refine nP ?_;refine CR.mv H (.slice AW d.r.wait.length cW) ?_ (hx:=λT=>by have hh:(Tt.tp w9 T 0).cell? _=_:=k7;unfold aS;go_simp);refine CR.mv H (.int .i64 (m:Int)) ?_;refine CR.mv H (.int .i64 c.c) ?_;refine CR.mv H (.int .i64 c.p) ?_;refine CR.mv H (.agg #[.int .i64 c.c,.int .i64 c.p]) ?_ (hx:=λT=>by unfold aS;go_simp;try rfl);refine CR.op H zAp rfl aP (λT=>⟨.slice (some ⟨w9.heap.size,0,none⟩) 1 1,(Tt.tp w9 T 0).alloc (.cells #[.int .i64 c.c,.int .i64 c.p] 149),.inl Qp,?_⟩);simp only[b7,gF,dY,dX];obtain⟨wa,xZ⟩:=aT ((Tt.tp w9 T 0).alloc (.cells #[.int .i64 c.c,.int .i64 c.p] 149));have kK:=aD (show bG wa lo hb v6 {d with r:={d.r with recs:=d.r.recs++[⟨c.c,(i:Int)+1,0,d.r.clk,-1,-1,eN⟩]}} by rw[xZ];exact(A9.o.tp T 0).alloc _);have xR:=aD (show bP hb v w v6 wa by rw[xZ];exact(T9.o.tp T 0).trans (bP.below (eT (fK _ _) _)));have HV:=aD (show wa.heap[w9.heap.size]? =some (.cells #[.int .i64 c.c,.int .i64 c.p] 149) by rw[xZ];exact gV _ _);have zvj:=aD (show wa.ownsRow lo 149 2 (.slice AW d.r.wait.length cW) d.r.wait.length (bH d.r.wait) by have:=kK.o.W;rw[Bv.o] at this;exact this);have aV:(Sg AW d.r.wait.length cW).ownBlock≠some w9.heap.size:=λe=>by have:=(zA5.o.lt _ e).2;omega
      have zHr:lo<=wa.heap.size:=eG Lm.o xR.o.size;rw[<-xZ];clear xZ A9 T9 k7;refine CR.cl H (zCY H (x:=c) zvj.o zHr L2 zcz HV.o aV) (λK' l' y wb hl qP=>?_);obtain⟨rfl,g2,c2,rfl,oJ,zm0,fA⟩:=qP;simp only[b7,gF,dY,dX];have So:({wb with heap:=wa.heap}:aE).grownBy wb v6.sW.ownBlock:=⟨rfl,rfl,rfl,zm0.size,λb b9 hn=>zm0.block b b9 (by rw[<-Bv.o];exact hn)⟩;have a0:bG ({wb with heap:=wa.heap}:aE) lo hb v6 {d with r:={d.r with recs:=d.r.recs++[⟨c.c,(i:Int)+1,0,d.r.clk,-1,-1,eN⟩]}}:=kK.o.same rfl;have zmN:d.r.wait.take m++c::d.r.wait.drop m=uE d.r.wait c:=by rw[zAM,zCX.o]
      rw[zmN] at oJ;obtain⟨a6,t6⟩:=a0.putW So oJ (by rw[<-zmN];simp;omega) (by rw[Bv.o];exact fA.imp (λe=>e) (λe b b9=>by have pU:g2=b:=cH b9;show wa.heap.size<=b;rw[<-pU];exact e));have zbI:=(a0.other (j:=5) (c:=7) (x:=v6.sW) rfl aH So (.slice (some ⟨g2,0,none⟩) (d.r.wait.length+1) c2)).2;have zrG:wb.cell? ⟨hb,7,none⟩=some (.slice AW d.r.wait.length cW):=by
       have:=aI (zbI.trans a0.blk) 7;rw[this,<-Bv.o];rfl
      have ztf:=eW (zbI.trans a0.blk) 7;have F0:=aD (xR.o.trans ((bP.refl (v:=v6) (w:=wa) (hb:=hb)).same (x:={wb with heap:=wa.heap}) rfl|>.trans t6));have Bs:=aD a6;clear a6 t6 a0 So zbI oJ zm0 fA kK xR HV zvj aV zmN;refine nP ?_;refine CR.mv H (.pointer (some ⟨hb,0,none⟩)) ?_;refine CR.mg H (.pointer (some ⟨hb,7,none⟩)) ?_;refine CR.sto H zBY rfl aP rfl (w':=wb.setCell ⟨hb,7,none⟩ (.slice (some ⟨g2,0,none⟩) (d.r.wait.length+1) c2)) (λT=>by have hh:(Tt.tp wb T 0).cell? _=_:=zrG;have hf:(Tt.tp wb T 0).frozen? _=_:=ztf;unfold aS;go_simp;try rfl) ?_;obtain⟨wc,zef⟩:=aT (wb.setCell ⟨hb,7,none⟩ (.slice (some ⟨g2,0,none⟩) (d.r.wait.length+1) c2));have za4:=aD (show bG wc lo hb {v6 with sW:=.slice (some ⟨g2,0,none⟩) (d.r.wait.length+1) c2} {d with r:={d.r with recs:=d.r.recs++[⟨c.c,(i:Int)+1,0,d.r.clk,-1,-1,eN⟩],wait:=uE d.r.wait c}} by rw[zef];exact Bs.o);have zcj:=aD (show bP hb v w {v6 with sW:=.slice (some ⟨g2,0,none⟩) (d.r.wait.length+1) c2} wc by rw[zef];exact F0.o);dsimp only;rw[<-zef];clear zef Bs F0 zrG ztf;refine CR.nil H ?_;have Jm:=Pg (c:=(i:Int)+1) aC aC;refine CW.sq H (CW.pW H Cu za4 zcj λzhX Q zoO zdK zaU HQ=>?_)
      go_wp2_with (go_at_call 112;refine(znd ((i:Int)+1) aC aC _).mono ?_;rintro en zow ⟨rfl,zGG⟩;obtain rfl:=zGG)
      refine HQ.o _ _ ?_;clear HQ;refine CW.rt H ?_;refine⟨.inr rfl,rfl,.string ⟨([108,105,110,101,32]++jH ((i:Int)+1)).toArray⟩,(by have ee:(⟨#[108,105,110,101,32]⟩:ByteArray)++⟨(jH ((i:Int)+1)).toArray⟩=⟨([108,105,110,101,32]++jH ((i:Int)+1)).toArray⟩:=(by simp[Oy]);rw[<-ee];rfl),⟨rfl,by rw[cN.o],{v6 with sW:=.slice (some ⟨g2,0,none⟩) (d.r.wait.length+1) c2},?_,?_,?_,⟨P6.o.2.2.2.1,P6.o.2.2.2.2.1,P6.o.2.2.2.2.2.2.2.1,P6.o.2.2.2.2.2.2.2.2⟩⟩⟩
      .rw[cN.o];exact zdK.o
      .rw[cN.o];refine fZ.of zEu.o ?_ ?_ ?_ ?_ ?_<;>rfl
      .exact zaU.o
structure EvPre (lo hb:Nat)(v:fH)(d:oG)(w:aE):Prop where
 at_:bG w lo hb v d
 mr:fZ v d
 i:y9 d
 lo_:lo<=w.heap.size
 tab:Bw lo w
 clk:d.r.clk<=99000
 nbw:d.r.back.length+d.r.wait.length<=5000
def Jv:wM aK 81:=⟨_,zwV,.inr (.inl ⟨_,rfl⟩)⟩
variable {ev:dQ}
theorem zGK (H:e.d.Ok)(h:EvPre lo hb v d w)(l9:qR d.r.o.op ev=true)(hW:Dj e.W k (qB d.r ev))(hK:∀(i g:Nat),d.qn[i]? =some g->K g (qa e.qs i)):
 CF e.d 81 #[.pointer (some ⟨hb,0,none⟩),.agg #[.string ev.k,.int .i64 ev.a,.int .i64 ev.b]] K (.wk e.qs k) w (λK' l' y w'=>zc0 e.qs lo hb v d w k (qB d.r ev).length (eB d.r ev) l' y w'):=by
 refine CF.of 37 zwV (.inr (.inl ⟨_,rfl⟩)) ?_;have A0:=aD h.at_;have T0:=aD (bP.refl (hb:=hb) (v:=v) (w:=w));have HP:=aD h;have HW:=aD hW;have Y4:=(C9 h.i.R.off).2.2.2.1;have Tl:=h.i.nqn;have zbP:Gf d.r.o.op ev:=by unfold qR at l9;simpa using l9
 have zgU:=aD zbP;clear h hW l9 zbP;refine CW.sq H (CW.pW H Jv A0 T0 λw1 Q eD A1 T1 HQ=>?_);go_wp2;refine HQ.o _ _ ?_;clear HQ;obtain⟨gx,vE⟩:=aT w1.heap.size;obtain⟨w2,eZ⟩:=aT (w1.alloc (.cells #[.string ev.k,.int .i64 ev.a,.int .i64 ev.b] 54));have A2:=aD (show bG w2 lo hb v d by rw[eZ];exact A1.o.alloc _);have T2:=aD (show bP hb v w v w2 by rw[eZ];exact T1.o.trans (bP.below (eT (fK _ _) _)));have zgb:=aD (show w2.heap[gx]? =some (.cells #[.string ev.k,.int .i64 ev.a,.int .i64 ev.b] 54) by rw[eZ,vE];exact gV _ _);rw[<-vE,<-eZ];clear eZ vE A1 T1;refine CW.sq H ?_;refine CW.sq H (CW.pW H Jv A2 T2 λw3 Q jB A3 T3 HQ=>?_);have vU:=aD (jB▸zgb.o);have kx:=aI vU.o 0;go_wp2;refine HQ.o _ _ ?_;clear HQ;clear kx;refine CW.block H ?_;by_cases Y1:ev.k.toList=Gz
 .
   have qT:(ev.k.toList==[114,105,110,103])=true:=by rw[Y1];rfl
   have mG:=aD Y1;clear Y1;refine CW.sq H (CW.pW H Jv A3 T3 λw4 Q lW A4 T4 HQ=>?_);have N3:=aD (lW▸vU.o);go_wp2;refine HQ.o _ _ ?_;clear HQ
   try simp only[qT]
   clear qT;refine CW.cond H (t:=true) rfl Q6 ?_;refine CW.sq H ?_;refine CW.rg H [0,1,2,3,4,5,6] ?_;refine CR.mv H (.pointer (some ⟨hb,0,none⟩)) ?_;refine CR.mg H (.pointer (some ⟨gx,1,none⟩)) ?_;refine CR.mv H (.int .i64 ev.a) ?_ (hx:=λT=>by have hh:(Tt.tp w4 T 0).cell? _=_:=aI N3.o 1;unfold aS;go_simp);refine CR.mg H (.pointer (some ⟨gx,2,none⟩)) ?_;refine CR.mv H (.int .i64 ev.b) ?_ (hx:=λT=>by have hh:(Tt.tp w4 T 0).cell? _=_:=aI N3.o 2;unfold aS;go_simp)
   obtain⟨O1,Bu,Rc,Iu⟩:1<=ev.a/\ev.a<=99/\0<=ev.b/\ev.b<=9:=by
    rcases zgU.o with h|h|⟨h,_⟩|h
    .exact h.2
    .rw[h.1] at mG;exact absurd mG.o aH
    .rcases h with h|h<;>(rw[h] at mG;exact absurd mG.o aH)
    .rw[h.1] at mG;exact absurd mG.o aH
   have l5:=aD (show eB d.r ev=pR d.r ⟨ev.a,ev.b⟩ by unfold eB;rw[if_pos mG.o]);have rC:=aD (show qB d.r ev=[] by unfold qB;rw[if_pos mG.o]);refine CR.cl H (cf_ring H (c:=⟨ev.a,ev.b⟩) A4.o HP.o.mr HP.o.i (eG HP.o.lo_ T4.o.size) ⟨Rc,Iu⟩) (λK' l' y w' hl qP=>?_);simp only[b7,gF,dY,dX];obtain⟨z1,rfl,z3⟩:=qP;refine nP ?_;refine CR.mv H (.string ⟨(pR d.r ⟨ev.a,ev.b⟩).2.toArray⟩) ?_;refine CR.nil H ?_;refine CW.rt H ?_;obtain⟨v',z4,z5,z6,z7⟩:=z3;refine⟨.inr rfl,rfl,.string ⟨(pR d.r ⟨ev.a,ev.b⟩).2.toArray⟩,rfl,⟨by rw[rC.o];exact z1,by rw[l5.o],v',by rw[l5.o];exact z4,by rw[l5.o];exact z5,T4.o.trans z6,z7⟩⟩
 .
   have qT:(ev.k.toList==[114,105,110,103])=false:=by
    have hz:¬ev.k.toList=[114,105,110,103]:=Y1;simpa using hz
   have zl3:=aD Y1;clear Y1;refine CW.sq H (CW.pW H Jv A3 T3 λw4 Q lW A4 T4 HQ=>?_);have N3:=aD (lW▸vU.o);go_wp2;refine HQ.o _ _ ?_;clear HQ
   try simp only[qT]
   clear qT;refine CW.cond H (t:=false) rfl Q6 ?_;by_cases Vy:ev.k.toList=J6
   .
     have qT:(ev.k.toList==[104,97,110,103])=true:=by rw[Vy];rfl
     have mG:=aD Vy;clear Vy;refine CW.sq H (CW.pW H Jv A4 T4 λw5 Q mV A5 T5 HQ=>?_);have Dy:=aD (mV▸N3.o);go_wp2;refine HQ.o _ _ ?_;clear HQ
     try simp only[qT]
     clear qT;refine CW.cond H (t:=true) rfl Q6 ?_;refine CW.sq H ?_;refine CW.rg H [0,1,2,3,4] ?_;refine CR.mv H (.pointer (some ⟨hb,0,none⟩)) ?_;refine CR.mg H (.pointer (some ⟨gx,1,none⟩)) ?_;refine CR.mv H (.int .i64 ev.a) ?_ (hx:=λT=>by have hh:(Tt.tp w5 T 0).cell? _=_:=aI Dy.o 1;unfold aS;go_simp);have Qo:Dj e.W k (Dt d.r ev.a):=by
      have:=HW.o;unfold qB at this;rw[if_neg y4,if_neg y4,if_neg y4,if_pos mG.o] at this;exact this
     have l5:=aD (show eB d.r ev=nD d.r ev.a by unfold eB;rw[if_neg y4,if_neg y4,if_neg y4,if_pos mG.o]);have rC:=aD (show qB d.r ev=Dt d.r ev.a by unfold qB;rw[if_neg y4,if_neg y4,if_neg y4,if_pos mG.o]);refine CR.cl H (cf_hang H A5.o HP.o.mr HP.o.i (eG HP.o.lo_ T5.o.size) Qo hK) (λK' l' y w' hl qP=>?_);simp only[b7,gF,dY,dX];obtain⟨z1,rfl,z3⟩:=qP;refine nP ?_;refine CR.mv H (.string ⟨(nD d.r ev.a).2.toArray⟩) ?_;refine CR.nil H ?_;refine CW.rt H ?_;obtain⟨v',z4,z5,z6,z7⟩:=z3;refine⟨.inr rfl,rfl,.string ⟨(nD d.r ev.a).2.toArray⟩,rfl,⟨by rw[rC.o];exact z1,by rw[l5.o],v',by rw[l5.o];exact z4,by rw[l5.o];exact z5,T5.o.trans z6,z7⟩⟩
   .
     have qT:(ev.k.toList==[104,97,110,103])=false:=by
      have hz:¬ev.k.toList=[104,97,110,103]:=Vy;simpa using hz
     have zlG:=aD Vy;clear Vy;refine CW.sq H (CW.pW H Jv A4 T4 λw5 Q mV A5 T5 HQ=>?_);have Dy:=aD (mV▸N3.o);go_wp2;refine HQ.o _ _ ?_;clear HQ
     try simp only[qT]
     clear qT;refine CW.cond H (t:=false) rfl Q6 ?_;by_cases Wq:ev.k.toList=Ij
     .
       have qT:(ev.k.toList==[97,110,115,119,101,114])=true:=by rw[Wq];rfl
       have mG:=aD Wq;clear Wq;refine CW.sq H (CW.pW H Jv A5 T5 λw6 Q qE A6 T6 HQ=>?_);have Le:=aD (qE▸Dy.o);go_wp2;refine HQ.o _ _ ?_;clear HQ
       try simp only[qT]
       clear qT;refine CW.cond H (t:=true) rfl Q6 ?_;refine CW.sq H ?_;refine CW.rg H [0,1,2,3,4] ?_;refine CR.mv H (.pointer (some ⟨hb,0,none⟩)) ?_;refine CR.mg H (.pointer (some ⟨gx,1,none⟩)) ?_;refine CR.mv H (.int .i64 ev.a) ?_ (hx:=λT=>by have hh:(Tt.tp w6 T 0).cell? _=_:=aI Le.o 1;unfold aS;go_simp)
       obtain⟨O1,Bu⟩:1<=ev.a/\ev.a<=d.r.o.op:=by
        rcases zgU.o with h|h|⟨_,h⟩|h
        .rw[h.1] at mG;exact absurd mG.o aH
        .rw[h.1] at mG;exact absurd mG.o aH
        .exact⟨h.1,h.2.1⟩
        .rw[h.1] at mG;exact absurd mG.o aH
       obtain⟨q,oN⟩:∃q:Nat,ev.a=(q:Int)+1:=⟨(ev.a-1).toNat,aC⟩;have hq:q<d.qn.length:=aC;have zC:q<=100:=aC;have Qo:Dj e.W k (Hz d.r ((q:Int)+1)):=by
        have:=HW.o;unfold qB at this;rw[if_neg y4,if_pos mG.o,oN] at this;exact this
       have l5:=aD (show eB d.r ev=n6 d.r ((q:Int)+1) by unfold eB;rw[if_neg y4,if_pos mG.o,oN]);have rC:=aD (show qB d.r ev=Hz d.r ((q:Int)+1) by unfold qB;rw[if_neg y4,if_pos mG.o,oN]);rw[oN];refine CR.cl H (cf_pick H A6.o HP.o.mr HP.o.i Qo hq zC hK) (λK' l' y w' hl qP=>?_);simp only[b7,gF,dY,dX];obtain⟨z1,rfl,z3⟩:=qP;refine nP ?_;refine CR.mv H (.string ⟨(n6 d.r ((q:Int)+1)).2.toArray⟩) ?_;refine CR.nil H ?_;refine CW.rt H ?_;obtain⟨v',z4,z5,z6,z7⟩:=z3;refine⟨.inr rfl,rfl,.string ⟨(n6 d.r ((q:Int)+1)).2.toArray⟩,rfl,⟨by rw[rC.o];exact z1,by rw[l5.o],v',by rw[l5.o];exact z4,by rw[l5.o];exact z5,T6.o.trans z6,z7⟩⟩
     .
       have qT:(ev.k.toList==[97,110,115,119,101,114])=false:=by
        have hz:¬ev.k.toList=[97,110,115,119,101,114]:=Wq;simpa using hz
       have zmU:=aD Wq;clear Wq;refine CW.sq H (CW.pW H Jv A5 T5 λw6 Q qE A6 T6 HQ=>?_);have Le:=aD (qE▸Dy.o);go_wp2;refine HQ.o _ _ ?_;clear HQ
       try simp only[qT]
       clear qT;refine CW.cond H (t:=false) rfl Q6 ?_;by_cases Xf:ev.k.toList=Ik
       .
         have qT:(ev.k.toList==[114,101,116,117,114,110])=true:=by rw[Xf];rfl
         have mG:=aD Xf;clear Xf;refine CW.sq H (CW.pW H Jv A6 T6 λw7 Q rZ A7 T7 HQ=>?_);have Hj:=aD (rZ▸Le.o);go_wp2;refine HQ.o _ _ ?_;clear HQ
         try simp only[qT]
         clear qT;refine CW.cond H (t:=true) rfl Q6 ?_;refine CW.sq H ?_;refine CW.rg H [0,1,2,3,4] ?_;refine CR.mv H (.pointer (some ⟨hb,0,none⟩)) ?_;refine CR.mg H (.pointer (some ⟨gx,1,none⟩)) ?_;refine CR.mv H (.int .i64 ev.a) ?_ (hx:=λT=>by have hh:(Tt.tp w7 T 0).cell? _=_:=aI Hj.o 1;unfold aS;go_simp)
         obtain⟨O1,Bu⟩:1<=ev.a/\ev.a<=d.r.o.op:=by
          rcases zgU.o with h|h|⟨_,h⟩|h
          .rw[h.1] at mG;exact absurd mG.o aH
          .rw[h.1] at mG;exact absurd mG.o aH
          .exact⟨h.1,h.2.1⟩
          .rw[h.1] at mG;exact absurd mG.o aH
         obtain⟨q,oN⟩:∃q:Nat,ev.a=(q:Int)+1:=⟨(ev.a-1).toNat,aC⟩;have hq:q<d.qn.length:=aC;have zC:q<=100:=aC;have Qo:Dj e.W k (Ej d.r ((q:Int)+1)):=by
          have:=HW.o;unfold qB at this;rw[if_neg y4,if_neg y4,if_pos mG.o,oN] at this;exact this
         have l5:=aD (show eB d.r ev=mQ d.r ((q:Int)+1) by unfold eB;rw[if_neg y4,if_neg y4,if_pos mG.o,oN]);have rC:=aD (show qB d.r ev=Ej d.r ((q:Int)+1) by unfold qB;rw[if_neg y4,if_neg y4,if_pos mG.o,oN]);rw[oN];refine CR.cl H (cf_back H A7.o HP.o.mr HP.o.i (eG HP.o.lo_ T7.o.size) Qo hq zC hK) (λK' l' y w' hl qP=>?_);simp only[b7,gF,dY,dX];obtain⟨z1,rfl,z3⟩:=qP;refine nP ?_;refine CR.mv H (.string ⟨(mQ d.r ((q:Int)+1)).2.toArray⟩) ?_;refine CR.nil H ?_;refine CW.rt H ?_;obtain⟨v',z4,z5,z6,z7⟩:=z3;refine⟨.inr rfl,rfl,.string ⟨(mQ d.r ((q:Int)+1)).2.toArray⟩,rfl,⟨by rw[rC.o];exact z1,by rw[l5.o],v',by rw[l5.o];exact z4,by rw[l5.o];exact z5,T7.o.trans z6,z7⟩⟩
       .
         have qT:(ev.k.toList==[114,101,116,117,114,110])=false:=by
          have hz:¬ev.k.toList=[114,101,116,117,114,110]:=Xf;simpa using hz
         have zkH:=aD Xf;clear Xf;refine CW.sq H (CW.pW H Jv A6 T6 λw7 Q rZ A7 T7 HQ=>?_);have Hj:=aD (rZ▸Le.o);go_wp2;refine HQ.o _ _ ?_;clear HQ
         try simp only[qT]
         clear qT;refine CW.cond H (t:=false) rfl Q6 ?_;refine CW.sk H ?_;dsimp only
         obtain⟨O1,Bu⟩:1<=ev.a/\ev.a<=60:=by
          rcases zgU.o with h|h|⟨h,_⟩|h
          .exact absurd h.1 zl3.o
          .exact absurd h.1 zlG.o
          .rcases h with h|h
           .exact absurd h zmU.o
           .exact absurd h zkH.o
          .exact⟨h.2.1,h.2.2.1⟩
         have l5:=aD (show eB d.r ev=uQ d.r ev.a by unfold eB;rw[if_neg zl3.o,if_neg zmU.o,if_neg zkH.o,if_neg zlG.o]);have rC:=aD (show qB d.r ev=[] by unfold qB;rw[if_neg zl3.o,if_neg zmU.o,if_neg zkH.o,if_neg zlG.o]);have zDY:=aD (λW (t:bP hb v w v W)=>HP.o.tab.turn HP.o.at_ HP.o.lo_ t);refine CW.sq H (CW.pW H Jv A7 T7 λw8 Q Kb A8 T8 HQ=>?_);have Jd:=aD (Kb▸Hj.o);have kx:=aI Jd.o 1;have zLa:=aI Jd.o 0
         go_wp2_with (go_at_call 105;refine(zEj A8.o HP.o.mr HP.o.i (eG HP.o.lo_ T8.o.size) (zDY.o _ T8.o) aC (by have:=HP.o.clk;omega) HP.o.nbw).mono ?_;rintro en wz ⟨rfl,z3⟩;have Z3:=aD z3;clear z3)
         refine HQ.o _ _ ?_;clear HQ;refine CW.rt H ?_;obtain⟨v',z4,z5,z6,z7⟩:=Z3.o;refine⟨.inr rfl,rfl,.string ⟨(uQ d.r ev.a).2.toArray⟩,rfl,⟨by rw[rC.o];rfl,by rw[l5.o],v',by rw[l5.o];exact z4,by rw[l5.o];exact z5,T8.o.trans z6,z7⟩⟩
section
variable {ops:Array aX}{ch:List Nat}{V0:Nat->aF}{vs:List aF}{t0 t:Array aF}
variable {s:Tmp}
theorem qW (KO:G2 ops){i:Nat}{o:aX}{v:aF}(ho:ops[i]? =some o)(hd:o.dst=some s)(hz:s<t0.size)(hv:VV ch V0 vs i=v):(cT ops (VV ch V0 vs) t0).getD s aA=v:=by
 have h:=(Gs (vals:=VV ch V0 vs) (t0:=t0) KO).got i o s ho hd hz (by simp[(dR.1 ho).1]);rw[sZ,h,hv];rfl
theorem zhs (KO:G2 ops)(hs:tP ops s=false):(cT ops (VV ch V0 vs) t0).getD s aA=t0.getD s undef:=by
 rw[sZ,(Gs (vals:=VV ch V0 vs) (t0:=t0) KO).old s (λi o h1 _ h2=>by rw[Tx h1 h2] at hs;cases hs),sZ]
theorem He {o:aX}(lA:∀s∈o.looksAt ops,t[s]? =(cT ops (VV ch V0 vs) t0)[s]?)(hs:s∈o.looksAt ops){v:aF}(h:(cT ops (VV ch V0 vs) t0).getD s aA=v):(bE t []).eval (.tmp s)=v:=by
 have e:(bE t []).eval (.tmp s)=t.getD s undef:=rfl;rw[e,sZ,lA s hs,<-sZ];exact h
end
def zma:Go.Code:=(Tryz.f58.body).getD .skip
def rWO3:Go.Code:=match zma with| .seq (.seq _ (.block _ (.loop (.seq _ (.seq _ (.seq (.block _ (.seq _ (a))) _)))))) _=>a|_=>.skip
def rWO8:Go.Code:=match zma with| .seq _ (.seq _ (.block _ (.loop (.seq _ (.seq _ (.seq (.block _ (.seq _ (.seq (a) _))) _))))))=>a|_=>.skip
def rWO9:Go.Code:=match zma with| .seq _ (.seq _ (.block _ (.loop (.seq _ (.seq _ (.seq (.block _ (.seq _ (.seq _ (a)))) _))))))=>a|_=>.skip
def lD:Array Oper:=match rWO3 with| .region _ ops _=>ops|_=>#[]
def rWO3_eq:rWO3=.region 3 lD true:=rfl
abbrev zwB:Oper:=aM lD 0 (some 14) (.move (.tmp 0))
def zGc:lD[0]? =some zwB:=rfl
abbrev zrl:Oper:=aM lD 1 (some 15) (.move (.tmp 0))
def zIU:lD[1]? =some zrl:=rfl
abbrev zwP:Oper:=aM lD 2 (some 16) (.nilCheck (.tmp 15))
def zzZ:lD[2]? =some zwP:=rfl
abbrev zoR:Oper:=aM lD 3 (some 17) (.fieldAddr 72 (.tmp 16) 10)
def zDZ:lD[3]? =some zoR:=rfl
abbrev zvZ:Oper:=aM lD 4 (some 18) (.load 26 (.tmp 17))
def zAy:lD[4]? =some zvZ:=rfl
abbrev zxn:Oper:=aM lD 5 (some 19) (.move (.tmp 0))
def zzf:lD[5]? =some zxn:=rfl
abbrev zxo:Oper:=aM lD 6 (some 20) (.load 54 (.tmp 5))
def zGU:lD[6]? =some zxo:=rfl
abbrev zxr:Oper:=aM lD 7 (some 21) (.call ⟨.value (.func 81),#[.tmp 19,.tmp 20],#[63,54]⟩)
def ziR:lD[7]? =some zxr:=rfl
abbrev zl4:Oper:=aM lD 8 (some 22) (.buildSlice 26 1 #[(0,.tmp 21)])
def zew:lD[8]? =some zl4:=rfl
abbrev zuw:Oper:=aM lD 9 (some 23) (.call ⟨.builtin .append,#[.tmp 18,.tmp 22],#[26,26]⟩)
def zkW:lD[9]? =some zuw:=rfl
abbrev zxw:Oper:=aM lD 10 (some 24) (.nilCheck (.tmp 14))
def zIs:lD[10]? =some zxw:=rfl
abbrev zpo:Oper:=aM lD 11 (some 25) (.fieldAddr 72 (.tmp 24) 10)
def zGR:lD[11]? =some zpo:=rfl
abbrev znP:Oper:=aM lD 12 none (.store 26 (.tmp 25) (.tmp 23))
def zif:lD[12]? =some znP:=rfl
def jV:Array Oper:=match rWO8 with| .region _ ops _=>ops|_=>#[]
def rWO8_eq:rWO8=.region 8 jV true:=rfl
abbrev ztc:Oper:=aM jV 0 (some 37) (.move (.tmp 0))
def zHa:jV[0]? =some ztc:=rfl
abbrev zoU:Oper:=aM jV 1 (some 38) (.move (.tmp 0))
def zGb:jV[1]? =some zoU:=rfl
abbrev zwv:Oper:=aM jV 2 (some 39) (.nilCheck (.tmp 38))
def zAq:jV[2]? =some zwv:=rfl
abbrev zwu:Oper:=aM jV 3 (some 40) (.fieldAddr 72 (.tmp 39) 11)
def zCJ:jV[3]? =some zwu:=rfl
abbrev zqz:Oper:=aM jV 4 (some 41) (.load 38 (.tmp 40))
def zA2:jV[4]? =some zqz:=rfl
abbrev zwJ:Oper:=aM jV 5 (some 42) (.move (.tmp 0))
def zEI:jV[5]? =some zwJ:=rfl
abbrev zqX:Oper:=aM jV 6 (some 43) (.move (.tmp 6))
def zH1:jV[6]? =some zqX:=rfl
abbrev zln:Oper:=aM jV 7 (some 44) (.binOp .add 3 (.tmp 43) (.const (.int .i64 1)) 3)
def zFM:jV[7]? =some zln:=rfl
abbrev zpV:Oper:=aM jV 8 (some 45) (.call ⟨.value (.func 82),#[.tmp 42,.tmp 44,.const (.int .i64 0),.const (.int .i64 0)],#[63,3,3,3]⟩)
def zl2:jV[8]? =some zpV:=rfl
abbrev ziC:Oper:=aM jV 9 (some 46) (.buildSlice 38 1 #[(0,.tmp 45)])
def zhS:jV[9]? =some ziC:=rfl
abbrev zsD:Oper:=aM jV 10 (some 47) (.call ⟨.builtin .append,#[.tmp 41,.tmp 46],#[38,38]⟩)
def zjy:jV[10]? =some zsD:=rfl
abbrev zsG:Oper:=aM jV 11 (some 48) (.nilCheck (.tmp 37))
def zIY:jV[11]? =some zsG:=rfl
abbrev zps:Oper:=aM jV 12 (some 49) (.fieldAddr 72 (.tmp 48) 11)
def zGS:jV[12]? =some zps:=rfl
abbrev zkj:Oper:=aM jV 13 none (.store 38 (.tmp 49) (.tmp 47))
def zmE:jV[13]? =some zkj:=rfl
def zrM:Array Oper:=match rWO9 with| .region _ ops _=>ops|_=>#[]
abbrev oWO9_1:Oper:=aM zrM 1 none (.call ⟨.builtin .close,#[.tmp 50],#[95]⟩)
def zzP:zrM[1]? =some oWO9_1:=rfl
def O3:wM aK 58:=⟨_,zk6,.inl rfl⟩
def zBL:(aK.info? 9).map (λi=>(i.zero,i.size,i.bytes))=some (some (.string ⟨#[]⟩),1,16):=aP
variable {V:Nat->aF}{Tf:Array aF}
theorem bs3 {s:ByteArray}(hT:rI Tf V)(zJm:V 21=.string s):(aS (bE Tf []).eval zl4).run aK w=.ok (.value (.slice (some ⟨w.heap.size,0,none⟩) 1 1)) (w.alloc (.cells #[.string s] 9)):=by
 unfold aS;go_simp
variable {sA:aF}{T:kS}
theorem st3 {q1 q2:Nat}(hT:rI Tf V)(zKk:V 25=.pointer (some ⟨hb,12,none⟩))(zJM:V 23=.slice (some ⟨q1,0,none⟩) n q2)(hh:w.cell? ⟨hb,12,none⟩=some sA)(hf:w.frozen? ⟨hb,12,none⟩=false):(aS (bE Tf []).eval znP).run aK (Tt.tp w T 0)=.ok .skip (Tt.tp (w.setCell ⟨hb,12,none⟩ (.slice (some ⟨q1,0,none⟩) n q2)) T 0):=by
 have zhL:(Tt.tp w T 0).cell? ⟨hb,12,none⟩=some sA:=hh;have Ei:(Tt.tp w T 0).frozen? ⟨hb,12,none⟩=false:=hf;clear hh hf;unfold aS;go_simp
 try rfl
def ztd:yO lD=true:=aP
def zF0:J9 lD [7,8,9,12]=true:=aP
def zC2:lD.toList.map (·.dst)=[some 14,some 15,some 16,some 17,some 18,some 19,some 20,some 21,some 22,some 23,some 24,some 25,none]:=rfl
def zIj:lD.toList=[zwB,zrl,zwP,zoR,zvZ,zxn,zxo,zxr,zl4,zuw,zxw,zpo,znP]:=rfl
def Ib (hb gb:Nat)(sA:aF)(ev:dQ)(i:Nat):Value:=([.pointer (some ⟨hb,0,none⟩),.pointer (some ⟨hb,0,none⟩),.pointer (some ⟨hb,0,none⟩),.pointer (some ⟨hb,12,none⟩),sA,.pointer (some ⟨hb,0,none⟩),.agg #[.string ev.k,.int .i64 ev.a,.int .i64 ev.b],aA,aA,aA,.pointer (some ⟨hb,0,none⟩),.pointer (some ⟨hb,12,none⟩),aA]:List aF).getD i aA
structure W3 where
 es:Iq
 lo:Nat
 hb:Nat
 gb:Nat
 k:Nat
 v0:fH
 w0:aE
 v:fH
 d:oG
 ev:dQ
 K0:Pr
def W3.P1 (c:W3)(w:aE):Prop:=∃v1,bG w c.lo c.hb v1 {c.d with r:=(eB c.d.r c.ev).1}/\fZ v1 {c.d with r:=(eB c.d.r c.ev).1}/\bP c.hb c.v0 c.w0 v1 w/\Am c.v v1/\some c.gb∉parts v1 c.hb
def W3.P2 (c:W3)(w:aE):Prop:=∃v2,bG w c.lo c.hb v2 {c.d with r:=F6 (eB c.d.r c.ev)}/\fZ v2 {c.d with r:=F6 (eB c.d.r c.ev)}/\bP c.hb c.v0 c.w0 v2 w/\v2.sL=c.v.sL/\v2.sQ=c.v.sQ
def W3.y (c:W3):Value:=.string ⟨(eB c.d.r c.ev).2.toArray⟩
def W3.Rd (c:W3)(w:aE):Prop:=w.cell? ⟨c.hb,12,none⟩=some c.v.sA/\w.heap[c.gb]? =some (.cells #[.string c.ev.k,.int .i64 c.ev.a,.int .i64 c.ev.b] 54)
def W3.n1 (c:W3):Nat:=c.k+(qB c.d.r c.ev).length
def W3.St (c:W3)(vs:List aF)(l':gN)(w':aE):Prop:=match vs with
 |[]=>l'=.wk c.es.qs c.k/\EvPre c.lo c.hb c.v c.d w'/\bP c.hb c.v0 c.w0 c.v w'/\some c.gb∉parts c.v c.hb
 |[a]=>l'=.wk c.es.qs c.n1/\a=c.y/\c.P1 w'/\c.lo<=w'.heap.size
 |[a,b]=>l'=.wk c.es.qs c.n1/\(∃g,b=.slice (some ⟨g,0,none⟩) 1 1/\w'.heap[g]? =some (.cells #[c.y] 9))/\c.P1 w'/\c.lo<=w'.heap.size
 |[a,b,x]=>l'=.wk c.es.qs c.n1/\(∃q1 q2,x=.slice (some ⟨q1,0,none⟩) (c.d.r.log.length+1) q2)/\w'.frozen? ⟨c.hb,12,none⟩=false/\c.P2 (w'.setCell ⟨c.hb,12,none⟩ x)
 |_=>l'=.wk c.es.qs c.n1/\c.P2 w'
def SR3 (c:W3)(vs:List aF)(K':Pr)(l':gN)(w':aE):Prop:=c.K0.le K'/\(vs.length<4->c.Rd w')/\c.St vs l' w'
def EvPre.tp (h:EvPre lo hb v d w)(T:kS)(n:Nat):EvPre lo hb v d (Tt.tp w T n):=⟨h.at_.tp T n,h.mr,h.i,h.lo_,h.tab.keep λ_ _=>rfl,h.clk,h.nbw⟩
variable {c:W3}
theorem W3.P1.tp (h:c.P1 w)(T:kS)(n:Nat):c.P1 (Tt.tp w T n):=by
 obtain⟨v1,a,b,d,e⟩:=h;exact⟨v1,a.tp T n,b,d.tp T n,e⟩
theorem W3.P2.tp (h:c.P2 w)(T:kS)(n:Nat):c.P2 (Tt.tp w T n):=by
 obtain⟨v1,a,b,d,e⟩:=h;exact⟨v1,a.tp T n,b,d.tp T n,e⟩
theorem SR3.tp (vs:List aF)(K':Pr)(l':gN)(w':aE)(T:kS)(n:Nat)(h:SR3 c vs K' l' w'):SR3 c vs K' l' (Tt.tp w' T n):=by
 obtain⟨h1,h2,h3⟩:=h;refine⟨h1,h2,?_⟩;rcases vs with _|⟨a,_|⟨b,_|⟨x,_|⟨y,vs⟩⟩⟩⟩
 .exact⟨h3.1,h3.2.1.tp T n,h3.2.2.1.tp T n,h3.2.2.2⟩
 .exact⟨h3.1,h3.2.1,h3.2.2.1.tp T n,h3.2.2.2⟩
 .exact⟨h3.1,h3.2.1,h3.2.2.1.tp T n,h3.2.2.2⟩
 .exact⟨h3.1,h3.2.1,h3.2.2.1,W3.P2.tp (w:=w'.setCell _ _) h3.2.2.2 T n⟩
 .exact⟨h3.1,W3.P2.tp h3.2 T n⟩
variable {B:List Nat}{Φ:oP->WS->Prop}
theorem cw_R3 (H:c.es.d.Ok)(l9:qR c.d.r.o.op c.ev=true)(hW:Dj c.es.W c.k (qB c.d.r c.ev))(hK:∀(i g:Nat),c.d.qn[i]? =some g->c.K0 g (qa c.es.qs i))(zlp:(eB c.d.r c.ev).1.log.length<=1000)(zrH:(eB c.d.r c.ev).1.log=c.d.r.log)(hz:t0.size=52)(uV:t0.getD 0 aA=.pointer (some ⟨c.hb,0,none⟩))(zHf:t0.getD 5 aA=.pointer (some ⟨c.gb,0,none⟩))
 (hk:∀vs K' l' w',vs.length=4->SR3 c vs K' l' w'->Φ .normal ⟨[],K',l',cT lD (VV [7,8,9,12] (Ib c.hb c.gb c.v.sA c.ev) vs) t0,w'⟩) (h0:SR3 c [] K l w):CW c.es.d B 58 rWO3 ⟨[],K,l,t0,w⟩ Φ:=by
 rw[rWO3_eq];have KO:=Gr ztd;refine CW.drawn H uB.mixed [7,8,9,12] (Ib c.hb c.gb c.v.sA c.ev) (SR3 c) ztd zF0 Kg (λvs K l w T e h=>SR3.tp vs K l w T e h) (λi o ho hi=>?_) (λvs ci o K' l' w' hc ho hS t rest lA gI=>?_) hk h0
 .have hl:lD.toList[i]? =some o:=by rw[C3];exact ho
  rw[zIj] at hl;have aU:i<13:=by have:=(l8.1 hl).1;simpa using this
  have tn:∀(vs:List aF) {j:Nat} {oj:aX} {s:Tmp} {v:aF},lD[j]? =some oj->oj.dst=some s->s<t0.size->VV [7,8,9,12] (Ib c.hb c.gb c.v.sA c.ev) vs j=v->(cT lD (VV [7,8,9,12] (Ib c.hb c.gb c.v.sA c.ev) vs) t0).getD s aA=v:=λvs _ _ _ _ a b c d=>qW KO a b c d;have tq:∀(vs:List aF) {s:Tmp},tP lD s=false->(cT lD (VV [7,8,9,12] (Ib c.hb c.gb c.v.sA c.ev) vs) t0).getD s aA=t0.getD s undef:=λvs _ a=>zhs KO a;rcases i with _|_|_|_|_|_|_|_|_|_|_|_|_|i
  .obtain rfl:=cH hl
   exact⟨aP,λvs K' l' w' hv hS=>⟨dE rfl,uX (.pointer (some ⟨c.hb,0,none⟩)) ((tq vs aP).trans uV)⟩⟩
  .obtain rfl:=cH hl
   exact⟨aP,λvs K' l' w' hv hS=>⟨dE rfl,uX (.pointer (some ⟨c.hb,0,none⟩)) ((tq vs aP).trans uV)⟩⟩
  .obtain rfl:=cH hl
   exact⟨aP,λvs K' l' w' hv hS=>⟨dE rfl,uX (.pointer (some ⟨c.hb,0,none⟩)) (tn vs zIU rfl gK rfl)⟩⟩
  .obtain rfl:=cH hl
   exact⟨aP,λvs K' l' w' hv hS=>⟨dE rfl,uX (.pointer (some ⟨c.hb,12,none⟩)) (tn vs zzZ rfl gK rfl)⟩⟩
  .obtain rfl:=cH hl
   exact⟨aP,λvs K' l' w' hv hS=>⟨dE rfl,rd2 (c.v.sA) (tn vs zDZ rfl gK rfl) (hS.2.1 hv).1⟩⟩
  .obtain rfl:=cH hl
   exact⟨aP,λvs K' l' w' hv hS=>⟨dE rfl,uX (.pointer (some ⟨c.hb,0,none⟩)) ((tq vs aP).trans uV)⟩⟩
  .obtain rfl:=cH hl
   exact⟨aP,λvs K' l' w' hv hS=>⟨dE rfl,rd4 (.agg #[.string c.ev.k,.int .i64 c.ev.a,.int .i64 c.ev.b]) ((tq vs aP).trans zHf) (aI (hS.2.1 hv).2 0) (aI (hS.2.1 hv).2 1) (aI (hS.2.1 hv).2 2)⟩⟩
  .exact absurd aH hi
  .exact absurd aH hi
  .exact absurd aH hi
  .obtain rfl:=cH hl
   exact⟨aP,λvs K' l' w' hv hS=>⟨dE rfl,uX (.pointer (some ⟨c.hb,0,none⟩)) (tn vs zGc rfl gK rfl)⟩⟩
  .obtain rfl:=cH hl
   exact⟨aP,λvs K' l' w' hv hS=>⟨dE rfl,uX (.pointer (some ⟨c.hb,12,none⟩)) (tn vs zIs rfl gK rfl)⟩⟩
  .exact absurd aH hi
  .omega
 .rcases vs with _|⟨a,_|⟨b,_|⟨c',_|⟨d',vs⟩⟩⟩⟩
  .obtain rfl:7=ci:=by simpa using hc
   rw[ziR] at ho;obtain rfl:=cH ho;obtain⟨s1,s2,s3,s4,s5,s6⟩:=hS;have zBG:=He lA (s:=19) aH (qW KO zzf rfl gK rfl);have a20:=He lA (s:=20) aH (qW KO zGU rfl gK rfl);refine CR.call' H #[.pointer (some ⟨c.hb,0,none⟩),.agg #[.string c.ev.k,.int .i64 c.ev.a,.int .i64 c.ev.b]] ziR (dE rfl) rfl (allx rfl) rfl (by simp only[tJ,jD,sC];rw[zBG,a20];rfl) (s3▸zGK H s4 l9 hW (λi g hg=>s1 _ _ (hK i g hg))) (λK2 l2 y w2 hl qP=>?_);obtain⟨z1,z2,v1,z3,z4,z5,z6⟩:=qP;have eU:=s4.at_.turned z5 (s2 aQ).2 s6;refine gI y K2 l2 w2 hl ⟨wH s1 hl,λ_=>⟨?_,eU.1⟩,z1,z2,⟨v1,z3,z4,s5.trans z5,z6,eU.2⟩,eG s4.lo_ z5.size⟩;have:=aI z3.blk 12;rw[this,<-z6.2.2.1];rfl
  .obtain rfl:8=ci:=by simpa using hc
   rw[zew] at ho;obtain rfl:=cH ho;obtain⟨s1,s2,s3,rfl,⟨v1,z3,z4,z5,z6,z7⟩,s6⟩:=hS;have zCb:(cT lD (VV [7,8,9,12] (Ib c.hb c.gb c.v.sA c.ev) [c.y]) t0).getD 21 aA=c.y:=qW KO ziR rfl gK rfl;refine CR.op H zew (dE rfl) aP (λT=>⟨.slice (some ⟨w'.heap.size,0,none⟩) 1 1,(Tt.tp w' T 0).alloc (.cells #[c.y] 9),.inl ?_,?_⟩)
   .rw[Dx (KO.sel 8 _ zew) lA]
    have hT:rI (cT lD (VV [7,8,9,12] (Ib c.hb c.gb c.v.sA c.ev) [c.y]) t0) (λs=>(cT lD (VV [7,8,9,12] (Ib c.hb c.gb c.v.sA c.ev) [c.y]) t0).getD s aA):=λs=>rfl;exact bs3 (s:=⟨(eB c.d.r c.ev).2.toArray⟩) hT zCb
   .have al:bP c.hb v1 w' v1 ((Tt.tp w' T 0).alloc (.cells #[c.y] 9)):=(bP.refl.tp T 0).trans (bP.below (eT (fK _ _) _))
    exact gI _ _ _ _ (xH _) ⟨s1,λ_=>⟨B7 (s2 aQ).1 _,dH (s2 aQ).2 _⟩,s3,⟨_,rfl,gV _ _⟩,⟨v1,(z3.tp T 0).alloc _,z4,z5.trans al,z6,z7⟩,eG s6 zgL⟩
  .obtain rfl:9=ci:=by simpa using hc
   rw[zkW] at ho;obtain rfl:=cH ho;obtain⟨s1,s2,s3,⟨g,rfl,hg⟩,⟨v1,z3,z4,z5,z6,z7⟩,s6⟩:=hS;have zEM:=He lA (s:=18) aH (qW KO zAy rfl gK rfl);have zEV:=He lA (s:=22) aH (qW KO zew rfl gK rfl);refine CR.op H zkW (dE rfl) aP (λT=>?_);have a1:=z3.tp T 0;have oJ:=a1.A;rw[z6.2.2.1] at oJ;obtain⟨q1,q2,w5,fM,dF,nA,fA⟩:=Nl (w:=Tt.tp w' T 0) (t:=26) (ty:=26) zBL Tryz.underlying26 rfl aH oJ (g:=g) (cs:=#[c.y]) (news:=[c.y]) hg rfl (m:=1) rfl aH Oj (show(eB c.d.r c.ev).1.log.length+1<=1000000 by omega) aH s6;have Jm:({c.d with r:=(eB c.d.r c.ev).1}:oG).r.log.length=c.d.r.log.length:=by show(eB c.d.r c.ev).1.log.length=_;rw[zrH]
   rw[Jm] at fM dF fA;have zmY:(Tt.tp w' T 0).grownBy w5 v1.sA.ownBlock:=by rw[z6.2.2.1];exact nA
   obtain⟨a6,t6⟩:=a1.putA zmY (xs:=(eB c.d.r c.ev).1.log++[(eB c.d.r c.ev).2]) (by have e:nV ((eB c.d.r c.ev).1.log++[(eB c.d.r c.ev).2])=nV (eB c.d.r c.ev).1.log++[c.y]:=(by simp[nV,txt,W3.y]);rw[e];exact dF) (by rw[jZ,zrH];rfl) (by rw[z6.2.2.1];exact fA);have zbI:=a1.other (j:=9) (c:=12) (x:=v1.sA) rfl aH zmY (.slice (some ⟨q1,0,none⟩) (c.d.r.log.length+1) q2);have yL:=zbI.2.trans a1.blk;have eU:w5.heap[c.gb]? =some _:=(zmY.block c.gb (iR (s2 aQ).2) (λe=>z7 (fI (i:=9) (show(parts v1 c.hb)[9]? =some (some c.gb) by rw[e];rfl)))).trans (s2 aQ).2;refine⟨_,w5,.inl (X6 rfl zEM zEV fM),gI _ _ _ _ (xH _) ⟨s1,λ_=>⟨?_,eU⟩,s3,⟨q1,q2,rfl⟩,eW yL 12,_,a6,?_,z5.trans ((bP.refl.tp T 0).trans t6),?_,?_⟩⟩
   .have:=aI yL 12
    rw[this,<-z6.2.2.1];rfl
   .refine fZ.of z4 ?_ ?_ ?_ ?_ ?_<;>rfl
   .exact z6.1
   .exact z6.2.1
  .obtain rfl:12=ci:=by simpa using hc
   rw[zif] at ho;obtain rfl:=cH ho;obtain⟨s1,s2,s3,⟨q1,q2,rfl⟩,oH,y3⟩:=hS;have zB4:(cT lD (VV [7,8,9,12] (Ib c.hb c.gb c.v.sA c.ev) [a,b,.slice (some ⟨q1,0,none⟩) (c.d.r.log.length+1) q2]) t0).getD 23 aA=.slice (some ⟨q1,0,none⟩) (c.d.r.log.length+1) q2:=qW KO zkW rfl gK rfl;have zCj:(cT lD (VV [7,8,9,12] (Ib c.hb c.gb c.v.sA c.ev) [a,b,.slice (some ⟨q1,0,none⟩) (c.d.r.log.length+1) q2]) t0).getD 25 aA=.pointer (some ⟨c.hb,12,none⟩):=qW KO zGR rfl gK rfl;refine CR.op H zif (dE rfl) aP (λT=>⟨aA,Tt.tp (w'.setCell ⟨c.hb,12,none⟩ (.slice (some ⟨q1,0,none⟩) (c.d.r.log.length+1) q2)) T 0,.inr ⟨?_,rfl⟩,?_⟩)
   .rw[Dx (KO.sel 12 _ zif) lA]
    have hT:rI (cT lD (VV [7,8,9,12] (Ib c.hb c.gb c.v.sA c.ev) [a,b,.slice (some ⟨q1,0,none⟩) (c.d.r.log.length+1) q2]) t0) (λs=>(cT lD (VV [7,8,9,12] (Ib c.hb c.gb c.v.sA c.ev) [a,b,.slice (some ⟨q1,0,none⟩) (c.d.r.log.length+1) q2]) t0).getD s aA):=λs=>rfl;exact st3 hT zCj zB4 (s2 aQ).1 oH
   .exact gI aA _ _ _ (xH _) ⟨s1,λh=>absurd h aQ,s3,W3.P2.tp y3 T 0⟩
  .simp at hc
theorem bs8 {s:Int}(hT:rI Tf V)(zh3:V 45=.int .i64 s):(aS (bE Tf []).eval ziC).run aK w=.ok (.value (.slice (some ⟨w.heap.size,0,none⟩) 1 1)) (w.alloc (.cells #[.int .i64 s] 3)):=by
 unfold aS;go_simp
theorem st8 {q1 q2:Nat}(hT:rI Tf V)(Yt:V 49=.pointer (some ⟨hb,13,none⟩))(zcY:V 47=.slice (some ⟨q1,0,none⟩) n q2)(hh:w.cell? ⟨hb,13,none⟩=some sA)(hf:w.frozen? ⟨hb,13,none⟩=false):(aS (bE Tf []).eval zkj).run aK (Tt.tp w T 0)=.ok .skip (Tt.tp (w.setCell ⟨hb,13,none⟩ (.slice (some ⟨q1,0,none⟩) n q2)) T 0):=by
 have zhL:(Tt.tp w T 0).cell? ⟨hb,13,none⟩=some sA:=hh;have Ei:(Tt.tp w T 0).frozen? ⟨hb,13,none⟩=false:=hf;clear hh hf;unfold aS;go_simp
 try rfl
def zsi:yO jV=true:=aP
def zF2:J9 jV [8,9,10,13]=true:=aP
def zyS:jV.toList.map (·.dst)=[some 37,some 38,some 39,some 40,some 41,some 42,some 43,some 44,some 45,some 46,some 47,some 48,some 49,none]:=rfl
def zAK:jV.toList=[ztc,zoU,zwv,zwu,zqz,zwJ,zqX,zln,zpV,ziC,zsD,zsG,zps,zkj]:=rfl
def F9 (hb q:Nat)(sT:aF)(i:Nat):Value:=([.pointer (some ⟨hb,0,none⟩),.pointer (some ⟨hb,0,none⟩),.pointer (some ⟨hb,0,none⟩),.pointer (some ⟨hb,13,none⟩),sT,.pointer (some ⟨hb,0,none⟩),.int .i64 (q:Int),.int .i64 ((q:Int)+1),aA,aA,aA,.pointer (some ⟨hb,0,none⟩),.pointer (some ⟨hb,13,none⟩),aA]:List aF).getD i aA
theorem rdR8_7 {q:Nat}{sT:aF}(hT:rI Tf V)(zjw:V 43=.int .i64 (q:Int))(zKL:q<=100):(aS (bE Tf []).eval zln).run aK w=.ok (.value (.int .i64 ((q:Int)+1))) w:=by
 unfold aS;go_simp;exact Gu aC aC
structure W8 where
 es:Iq
 lo:Nat
 hb:Nat
 q:Nat
 k:Nat
 anz:Int
 v0:fH
 w0:aE
 v:fH
 d:oG
 K0:Pr
def W8.P1 (c:W8)(w:aE):Prop:=bG w c.lo c.hb c.v c.d/\bP c.hb c.v0 c.w0 c.v w/\c.lo<=w.heap.size
def W8.P2 (c:W8)(w:aE):Prop:=∃v2,bG w c.lo c.hb v2 {c.d with tk:=c.d.tk++[c.anz]}/\fZ v2 {c.d with tk:=c.d.tk++[c.anz]}/\bP c.hb c.v0 c.w0 v2 w/\v2.sL=c.v.sL/\v2.sQ=c.v.sQ
def W8.y (c:W8):Value:=.int .i64 c.anz
def W8.Rd (c:W8)(w:aE):Prop:=w.cell? ⟨c.hb,13,none⟩=some c.v.sT
def W8.St (c:W8)(vs:List aF)(l':gN)(w':aE):Prop:=match vs with
 |[]=>l'=.wk c.es.qs c.k/\c.P1 w'
 |[a]=>l'=.wk c.es.qs (c.k+1)/\a=c.y/\c.P1 w'
 |[a,b]=>l'=.wk c.es.qs (c.k+1)/\(∃g,b=.slice (some ⟨g,0,none⟩) 1 1/\w'.heap[g]? =some (.cells #[c.y] 3))/\c.P1 w'
 |[a,b,x]=>l'=.wk c.es.qs (c.k+1)/\(∃q1 q2,x=.slice (some ⟨q1,0,none⟩) (c.d.tk.length+1) q2)/\w'.frozen? ⟨c.hb,13,none⟩=false/\c.P2 (w'.setCell ⟨c.hb,13,none⟩ x)
 |_=>l'=.wk c.es.qs (c.k+1)/\c.P2 w'
def SR8 (c:W8)(vs:List aF)(K':Pr)(l':gN)(w':aE):Prop:=c.K0.le K'/\(vs.length<4->c.Rd w')/\c.St vs l' w'
variable {c:W8}
def W8.P1.tp (h:c.P1 w)(T:kS)(n:Nat):c.P1 (Tt.tp w T n):=⟨h.1.tp T n,h.2.1.tp T n,h.2.2⟩
theorem W8.P2.tp (h:c.P2 w)(T:kS)(n:Nat):c.P2 (Tt.tp w T n):=by
 obtain⟨v1,a,b,d,e⟩:=h;exact⟨v1,a.tp T n,b,d.tp T n,e⟩
theorem SR8.tp (vs:List aF)(K':Pr)(l':gN)(w':aE)(T:kS)(n:Nat)(h:SR8 c vs K' l' w'):SR8 c vs K' l' (Tt.tp w' T n):=by
 obtain⟨h1,h2,h3⟩:=h;refine⟨h1,h2,?_⟩;rcases vs with _|⟨a,_|⟨b,_|⟨x,_|⟨y,vs⟩⟩⟩⟩
 .exact⟨h3.1,W8.P1.tp h3.2 T n⟩
 .exact⟨h3.1,h3.2.1,W8.P1.tp h3.2.2 T n⟩
 .exact⟨h3.1,h3.2.1,W8.P1.tp h3.2.2 T n⟩
 .exact⟨h3.1,h3.2.1,h3.2.2.1,W8.P2.tp (w:=w'.setCell _ _) h3.2.2.2 T n⟩
 .exact⟨h3.1,W8.P2.tp h3.2 T n⟩
theorem cw_R8 (H:c.es.d.Ok)(zEr:fZ c.v c.d)(hW:c.es.W[c.k]? =some (.ask c.q 0 0 c.anz))(hq:c.q<c.d.qn.length)(zC:c.q<=100)(hK:∀(i g:Nat),c.d.qn[i]? =some g->c.K0 g (qa c.es.qs i))(zlp:c.d.tk.length<=1000)(hz:t0.size=52)(uV:t0.getD 0 aA=.pointer (some ⟨c.hb,0,none⟩))(zb1:t0.getD 6 aA=.int .i64 (c.q:Int))
 (hk:∀vs K' l' w',vs.length=4->SR8 c vs K' l' w'->Φ .normal ⟨[],K',l',cT jV (VV [8,9,10,13] (F9 c.hb c.q c.v.sT) vs) t0,w'⟩) (h0:SR8 c [] K l w):CW c.es.d B 58 rWO8 ⟨[],K,l,t0,w⟩ Φ:=by
 rw[rWO8_eq];have KO:=Gr zsi;refine CW.drawn H uB.mixed [8,9,10,13] (F9 c.hb c.q c.v.sT) (SR8 c) zsi zF2 Kg (λvs K l w T e h=>SR8.tp vs K l w T e h) (λi o ho hi=>?_) (λvs ci o K' l' w' hc ho hS t rest lA gI=>?_) hk h0
 .have hl:jV.toList[i]? =some o:=by rw[C3];exact ho
  rw[zAK] at hl;have aU:i<14:=by have:=(l8.1 hl).1;simpa using this
  have tn:∀(vs:List aF) {j:Nat} {oj:aX} {s:Tmp} {v:aF},jV[j]? =some oj->oj.dst=some s->s<t0.size->VV [8,9,10,13] (F9 c.hb c.q c.v.sT) vs j=v->(cT jV (VV [8,9,10,13] (F9 c.hb c.q c.v.sT) vs) t0).getD s aA=v:=λvs _ _ _ _ a b c d=>qW KO a b c d;have tq:∀(vs:List aF) {s:Tmp},tP jV s=false->(cT jV (VV [8,9,10,13] (F9 c.hb c.q c.v.sT) vs) t0).getD s aA=t0.getD s undef:=λvs _ a=>zhs KO a;rcases i with _|_|_|_|_|_|_|_|_|_|_|_|_|_|i
  .obtain rfl:=cH hl
   exact⟨aP,λvs K' l' w' hv hS=>⟨dE rfl,uX (.pointer (some ⟨c.hb,0,none⟩)) ((tq vs aP).trans uV)⟩⟩
  .obtain rfl:=cH hl
   exact⟨aP,λvs K' l' w' hv hS=>⟨dE rfl,uX (.pointer (some ⟨c.hb,0,none⟩)) ((tq vs aP).trans uV)⟩⟩
  .obtain rfl:=cH hl
   exact⟨aP,λvs K' l' w' hv hS=>⟨dE rfl,uX (.pointer (some ⟨c.hb,0,none⟩)) (tn vs zGb rfl gK rfl)⟩⟩
  .obtain rfl:=cH hl
   exact⟨aP,λvs K' l' w' hv hS=>⟨dE rfl,uX (.pointer (some ⟨c.hb,13,none⟩)) (tn vs zAq rfl gK rfl)⟩⟩
  .obtain rfl:=cH hl
   exact⟨aP,λvs K' l' w' hv hS=>⟨dE rfl,rd2 (c.v.sT) (tn vs zCJ rfl gK rfl) (show w'.cell? ⟨c.hb,13,none⟩=some c.v.sT from(hS.2.1 hv))⟩⟩
  .obtain rfl:=cH hl
   exact⟨aP,λvs K' l' w' hv hS=>⟨dE rfl,uX (.pointer (some ⟨c.hb,0,none⟩)) ((tq vs aP).trans uV)⟩⟩
  .obtain rfl:=cH hl
   exact⟨aP,λvs K' l' w' hv hS=>⟨dE rfl,uX (.int .i64 (c.q:Int)) ((tq vs aP).trans zb1)⟩⟩
  .obtain rfl:=cH hl
   exact⟨aP,λvs K' l' w' hv hS=>⟨dE rfl,rdR8_7 (q:=c.q) (sT:=c.v.sT) (V:=λs=>(cT jV (VV [8,9,10,13] (F9 c.hb c.q c.v.sT) vs) t0).getD s aA) (λs=>rfl) (tn vs zH1 rfl gK rfl) zC⟩⟩
  .exact absurd aH hi
  .exact absurd aH hi
  .exact absurd aH hi
  .obtain rfl:=cH hl
   exact⟨aP,λvs K' l' w' hv hS=>⟨dE rfl,uX (.pointer (some ⟨c.hb,0,none⟩)) (tn vs zHa rfl gK rfl)⟩⟩
  .obtain rfl:=cH hl
   exact⟨aP,λvs K' l' w' hv hS=>⟨dE rfl,uX (.pointer (some ⟨c.hb,13,none⟩)) (tn vs zIY rfl gK rfl)⟩⟩
  .exact absurd aH hi
  .omega
 .rcases vs with _|⟨a,_|⟨b,_|⟨c',_|⟨d',vs⟩⟩⟩⟩
  .obtain rfl:8=ci:=by simpa using hc
   rw[zl2] at ho;obtain rfl:=cH ho;obtain⟨s1,s2,s3,s4⟩:=hS;have zy1:=He lA (s:=42) aH (qW KO zEI rfl gK rfl);have zHA:=He lA (s:=44) aH (qW KO zFM rfl gK rfl);refine CR.call' H #[.pointer (some ⟨c.hb,0,none⟩),.int .i64 ((c.q:Int)+1),.int .i64 0,.int .i64 0] zl2 (dE rfl) rfl (allx rfl) rfl (by simp only[tJ,jD,sC];rw[zy1,zHA];rfl) (s3▸zbp H s4.1 hW hq zC (λi g hg=>s1 _ _ (hK i g hg))) (λK2 l2 y w2 hl qP=>?_);obtain⟨z1,rfl,z3⟩:=qP;subst z3;exact gI _ K2 l2 _ hl ⟨wH s1 hl,λ_=>B7 (s2 aQ) _,z1,rfl,s4.1.alloc _,s4.2.1.trans (bP.below (eT (fK _ _) _)),eG s4.2.2 (by show w'.heap.size<=(w'.alloc pN).heap.size;rw[vI];exact zfU _)⟩
  .obtain rfl:9=ci:=by simpa using hc
   rw[zhS] at ho;obtain rfl:=cH ho;obtain⟨s1,s2,s3,rfl,z3,z5,s6⟩:=hS;have zAJ:(cT jV (VV [8,9,10,13] (F9 c.hb c.q c.v.sT) [c.y]) t0).getD 45 aA=c.y:=qW KO zl2 rfl gK rfl;refine CR.op H zhS (dE rfl) aP (λT=>⟨.slice (some ⟨w'.heap.size,0,none⟩) 1 1,(Tt.tp w' T 0).alloc (.cells #[c.y] 3),.inl ?_,?_⟩)
   .rw[Dx (KO.sel 9 _ zhS) lA]
    have hT:rI (cT jV (VV [8,9,10,13] (F9 c.hb c.q c.v.sT) [c.y]) t0) (λs=>(cT jV (VV [8,9,10,13] (F9 c.hb c.q c.v.sT) [c.y]) t0).getD s aA):=λs=>rfl;exact bs8 hT zAJ
   .have al:bP c.hb c.v w' c.v ((Tt.tp w' T 0).alloc (.cells #[c.y] 3)):=(bP.refl.tp T 0).trans (bP.below (eT (fK _ _) _))
    exact gI _ _ _ _ (xH _) ⟨s1,λ_=>B7 (s2 aQ) _,s3,⟨_,rfl,gV _ _⟩,(z3.tp T 0).alloc _,z5.trans al,eG s6 zgL⟩
  .obtain rfl:10=ci:=by simpa using hc
   rw[zjy] at ho;obtain rfl:=cH ho;obtain⟨s1,s2,s3,⟨g,rfl,hg⟩,z3,z5,s6⟩:=hS;have zBK:=He lA (s:=41) aH (qW KO zA2 rfl gK rfl);have a46:=He lA (s:=46) aH (qW KO zhS rfl gK rfl);refine CR.op H zjy (dE rfl) aP (λT=>?_);have a1:=z3.tp T 0;obtain⟨q1,q2,w5,fM,dF,nA,fA⟩:=Nl (w:=Tt.tp w' T 0) (t:=38) (ty:=38) zbi Wv rfl aH a1.T (g:=g) (cs:=#[c.y]) (news:=[c.y]) hg rfl (m:=1) rfl aH Oj aC aH s6;obtain⟨a6,t6⟩:=a1.putT nA (xs:=c.d.tk++[c.anz]) (by have e:jY (c.d.tk++[c.anz])=jY c.d.tk++[c.y]:=(by simp[jY,W8.y]);rw[e];exact dF) aQ fA;have yL:=(a1.other (j:=10) (c:=13) (x:=c.v.sT) rfl aH nA (.slice (some ⟨q1,0,none⟩) (c.d.tk.length+1) q2)).2.trans a1.blk;refine⟨_,w5,.inl (X6 rfl zBK a46 fM),gI _ _ _ _ (xH _) ⟨s1,λ_=>aI yL 13,s3,⟨q1,q2,rfl⟩,eW yL 13,_,a6,?_,z5.trans ((bP.refl.tp T 0).trans t6),rfl,rfl⟩⟩;refine fZ.of zEr ?_ ?_ ?_ ?_ ?_<;>rfl
  .obtain rfl:13=ci:=by simpa using hc
   rw[zmE] at ho;obtain rfl:=cH ho;obtain⟨s1,s2,s3,⟨q1,q2,rfl⟩,oH,y3⟩:=hS;have zzE:(cT jV (VV [8,9,10,13] (F9 c.hb c.q c.v.sT) [a,b,.slice (some ⟨q1,0,none⟩) (c.d.tk.length+1) q2]) t0).getD 47 aA=.slice (some ⟨q1,0,none⟩) (c.d.tk.length+1) q2:=qW KO zjy rfl gK rfl;have zCc:(cT jV (VV [8,9,10,13] (F9 c.hb c.q c.v.sT) [a,b,.slice (some ⟨q1,0,none⟩) (c.d.tk.length+1) q2]) t0).getD 49 aA=.pointer (some ⟨c.hb,13,none⟩):=qW KO zGS rfl gK rfl;refine CR.op H zmE (dE rfl) aP (λT=>⟨aA,Tt.tp (w'.setCell ⟨c.hb,13,none⟩ (.slice (some ⟨q1,0,none⟩) (c.d.tk.length+1) q2)) T 0,.inr ⟨?_,rfl⟩,?_⟩)
   .rw[Dx (KO.sel 13 _ zmE) lA]
    have hT:rI (cT jV (VV [8,9,10,13] (F9 c.hb c.q c.v.sT) [a,b,.slice (some ⟨q1,0,none⟩) (c.d.tk.length+1) q2]) t0) (λs=>(cT jV (VV [8,9,10,13] (F9 c.hb c.q c.v.sT) [a,b,.slice (some ⟨q1,0,none⟩) (c.d.tk.length+1) q2]) t0).getD s aA):=λs=>rfl;exact st8 hT zCc zzE (s2 aQ) oH
   .exact gI aA _ _ _ (xH _) ⟨s1,λh=>absurd h aQ,s3,W8.P2.tp y3 T 0⟩
  .simp at hc
def Hh (b:cC):Prop:=∀x∈b.recs,1<=x.l/\x.l<=b.o.ln
theorem Hh.mod (h:Hh b)(hf:∀x,(f x).l=x.l):∀x∈b.recs.modify i f,1<=x.l/\x.l<=b.o.ln:=λx hx=>by
 obtain⟨y,hy,rfl|rfl⟩:=Sr hx
 .exact h _ hy
 .rw[hf];exact h _ hy
theorem Hh.tires:∀(xs:List bN) (b:cC) (t:List UInt8),Hh b->Hh (xs.foldl lT (b,t)).1
 |[],b,t,h=>h
 |x::xs,b,t,h=>by
  rw[List.foldl_cons];obtain⟨e1,_,_,_,_,_,e7⟩:=zh4 b t x;have h1:Hh (lT (b,t) x).1:=λz hz=>by
   obtain⟨y,hy,_,e⟩:=e7 z hz;rw[e,e1];exact h y hy
  obtain⟨b',t',e⟩:∃b' t',lT (b,t) x=(b',t'):=⟨_,_,rfl⟩;rw[e] at h1⊢;exact Hh.tires xs b' t' h1
theorem Hh.step {b:cC}(h:Hh b)(e:dQ):Hh (eB b e).1:=by
 have more:∀{l:Int} {ls:List Int} {c o f hh tt:Int} {s:ByteArray},o0 b.o b.recs=l::ls->∀x∈b.recs++[(⟨c,l,o,f,hh,tt,s⟩:bV)],1<=x.l/\x.l<=b.o.ln:=λhf x hx=>by
  rcases Ju.1 hx with hx|hx
  .exact h x hx
  .obtain rfl:=yX.1 hx
   exact zfc Y2
 unfold eB;split
 .unfold pR
  split
  .exact h
  .split
   .exact h
   .rename_i hf;exact more hf
 .split
  .unfold n6
   split
   .exact h
   .split
    .exact h
    .split
     .exact h
     .exact h.mod λx=>rfl
  .split
   .unfold mQ
    split
    .exact h
    .split
     .exact h
     .split
      .exact h
      .rename_i hf;exact more hf
   .split
    .unfold nD
     split
     .split
      .exact h.mod λx=>rfl
      .exact h.mod λx=>rfl
     .split
      .exact h
      .exact h
    .exact Hh.tires _ _ _ h
variable {o:fP}{es:List dQ}
theorem zrg :∀k,k<=es.length->Hh (lP o es k)
 |0,_=>λx hx=>by cases hx
 |k+1,hk=>by
  rw[Q2 (nI aC)];exact(zrg k aC).step _
variable {ln qn:List Nat}
theorem zsr (h:eM o es=true)(hk:k<=es.length){tk:List Int}(h1:ln.Nodup)(h2:(ln.length:Int)=o.ln)(h3:(qn.length:Int)=o.op):y9 ⟨lP o es k,ln,qn,tk⟩:=by
 obtain⟨a1,a2,a3⟩:=Pq h k hk;have hop:o.op=(o.op.toNat:Int):=by
  have:=(C9 a1.off).2.2.1;rw[a3] at this;omega
 obtain⟨_,_,b3⟩:=zyn h hop k hk;have hl:es.length<=60:=by unfold eM at h;simp at h;exact h.1.2
 have hg:=a1.good a2 aC;exact⟨zxB h k hk,a1,b3,h1,by show(ln.length:Int)=(lP o es k).o.ln;rw[a3];exact h2,zrg k hk,by show(qn.length:Int)=(lP o es k).o.op;rw[a3];exact h3,hg.1⟩
theorem zE3 (hk:k<=es.length):∃B,sJ o es es.length=sJ o es k++B:=by
 have key:∀n,k<=n->∃B,sJ o es n=sJ o es k++B:=λn hn=>by
  induction n with
  |zero=>
   obtain rfl:k=0:=aC;exact⟨[],aQ⟩
  |succ n ih=>
   rcases rM k (n+1) with h|h
   .obtain⟨B,e⟩:=ih aC
    exact⟨B++(match es[n]? with|some e=>qB (lP o es n) e|none=>[]),by show sJ o es n++_=_;rw[e,Ix];rfl⟩
   .obtain rfl:k=n+1:=aC
    exact⟨[],aQ⟩
 exact key _ hk
theorem asks_at (he:es[k]? =some ev):Dj (Cj o es) (sJ o es k).length (qB (lP o es k) ev):=λj x hj=>by
 have hk:=(l8.1 he).1;obtain⟨B,e⟩:=zE3 (o:=o) (es:=es) (k:=k+1) hk;have e2:sJ o es (k+1)=sJ o es k++qB (lP o es k) ev:=by show sJ o es k++_=_;rw[he]
 have hl:=(l8.1 hj).1;unfold Cj;rw[e,e2,Ix,Ix,O2 aC,N9 aC,zwE];exact hj
theorem ziu (b:cC):∀n,(zH b n).length=2*n
 |0=>rfl
 |n+1=>by show(zH b n++_).length=_;rw[jZ,ziu b n];simp;omega
theorem zsm (b:cC):∀(n i:Nat),i<n->(zH b n)[2*i]? =some (.ask i 0 0 (dO b.recs ((i:Int)+1)))/\(zH b n)[2*i+1]? =some (.shut i)
 |0,i,h=>by omega
 |n+1,i,h=>by
  have hl:=ziu b n;show(zH b n++_)[2*i]? =_/\(zH b n++_)[2*i+1]? =_;rcases rM i n with hi|hi
  .rw[N9 aC,N9 aC]
   exact zsm b n i hi
  .obtain rfl:i=n:=aC
   rw[O2 aC,O2 aC,hl,zj3,show 2*i+1-2*i=1 by omega];exact⟨rfl,rfl⟩
def zbC (b:cC):Nat->List Int
 |0=>[]
 |n+1=>zbC b n++[dO b.recs ((n:Int)+1)]
theorem zuM (b:cC):∀n,(zbC b n).length=n
 |0=>rfl
 |n+1=>by show(zbC b n++_).length=_;rw[jZ,zuM b n];rfl
theorem zCv (h:eM o es=true)(he:es[k]? =some ev):(eB (lP o es k) ev).1.log=(lP o es k).log/\(lP o es k).log.length<=1000/\qR (lP o es k).o.op ev=true:=by
 have hk:=(l8.1 he).1;obtain⟨a1,a2,a3⟩:=Pq h k aC;have bM:=h;unfold eM at bM;simp only[iT,vA,decide_eq_true_eq] at bM;have l9:qR (lP o es k).o.op ev=true:=by rw[a3];exact bM.2 ev (fI he)
 have:=a2.nl;exact⟨(a1.step a2 l9 aC).2.2.2,aC,l9⟩
def Bc (o:fP)(es:List dQ)(ln qn:List Nat)(k:Nat):oG:=⟨lP o es k,ln,qn,[]⟩
def sP (o:fP)(es:List dQ)(ln qn:List Nat)(i:Nat):oG:=⟨C8 o es,ln,qn,zbC (C8 o es) i⟩
structure zcI (e:Iq)(o:fP)(es:List dQ)(ln qn:List Nat)(lo hb:Nat)(v:fH)(w:aE)(K:Pr)(A:Option bC)(n c:Nat):Prop where
 ok:eM o es=true
 W:e.W=Cj o es
 at_:bG w lo hb v (Bc o es ln qn 0)
 mr:fZ v (Bc o es ln qn 0)
 nd:ln.Nodup
 nl:(ln.length:Int)=o.ln
 nq:(qn.length:Int)=o.op
 qs:e.qs.length=qn.length
 lo_:lo<=w.heap.size
 tab:Bw lo w
 ev:cE w 0 lo 3 A n c (pA es)
 K:∀(i g:Nat),qn[i]? =some g->K g (qa e.qs i)
theorem cE.lowT {s c:Nat}{xs:List aF}(h:cE w 0 lo s A n c xs)(a:bG w lo hb v d)(eF:lo<=w.heap.size)(t:bP hb v w v' w'):cE w' 0 lo s A n c xs:=by
 refine⟨h.len,h.le,h.cap,λhn=>?_⟩;obtain⟨b,off,e,h1,h2,h3,h4⟩:=h.at_ hn;have hz:=t.size;exact⟨b,off,e,h1,h2,aC,λj u hj=>(aE.cell?_of_block (t.block b h3 (λx=>by have:=(a.lt b x).1;omega))).trans (h4 j u hj)⟩
theorem cf_work (H:e.d.Ok){c:Nat}(h:zcI e o es ln qn lo hb v w K A n c):
 CF e.d 58 #[.pointer (some ⟨hb,0,none⟩),.slice A n c] K (.wk e.qs 0) w (λK' l' y w'=>l'=.wk e.qs e.W.length/\∃v',bG w' lo hb v' (sP o es ln qn qn.length)/\fZ v' (sP o es ln qn qn.length)/\bP hb v w v' w'):=by
 refine CF.of 52 zk6 (.inl rfl) ?_;have HP:=aD h;have By:es.length=n:=h.ev.eventsLen;have pP:es.length<=60:=by have:=h.ok;unfold eM at this;simp at this;exact this.1.2
 have zE6:n<=60:=aC;have Q7:=aD By;clear By pP h;refine CW.sq H ?_;refine CW.sq H ?_;refine CW.pQ H O3 (λzHN Q HQ=>?_);go_wp2;refine HQ.o _ _ ?_;clear HQ;refine CW.tape (s:=⟨[],K,.wk e.qs 0,_,w⟩) ?_ zHN 0;refine CW.block H ?_;refine CW.loop H (λnn s=>∃(k:Nat) (wz:aE) (Kz:Pr) (vz:fH) (u2 u3 u4 u5 u6 u7 gC gD gE gH gG u16 gZ kL kU jT iM iF iA gX iC hY iH iK iB jJ jL u32 iG iL iJ iE kJ kR iN iD gY iY iU iP iZ jA iQ jC iW iV iO:aF),s=⟨[],Kz,.wk e.qs (sJ o es k).length,#[.pointer (some ⟨hb,0,none⟩),.slice A n c,u2,u3,u4,u5,u6,u7,.slice A n c,.int .i64 (n:Int),.int .i64 (k:Int),gC,gD,gE,gH,gG,u16,gZ,kL,kU,jT,iM,iF,iA,gX,iC,hY,iH,iK,iB,jJ,jL,u32,iG,iL,iJ,iE,kJ,kR,iN,iD,gY,iY,iU,iP,iZ,jA,iQ,jC,iW,iV,iO],wz⟩/\k<=n/\nn=n-k/\K.le Kz/\bG wz lo hb vz (Bc o es ln qn k)/\fZ vz (Bc o es ln qn k)/\bP hb v w vz wz/\vz.sL=v.sL/\vz.sQ=v.sQ) (λnn s hs=>?_) (n:=n) ?_
 rotate_left
 .exact⟨0,w,K,v,_,_,_,_,_,_,_,_,_,_,_,_,_,_,_,_,_,_,_,_,_,_,_,_,_,_,_,_,_,_,_,_,_,_,_,_,_,_,_,_,_,_,_,_,_,_,_,rfl,mK _,rfl,xH _,HP.o.at_,HP.o.mr,bP.refl,rfl,rfl⟩
 .obtain⟨k,wz,Kz,vz,u2,u3,u4,u5,u6,u7,gC,gD,gE,gH,gG,u16,gZ,kL,kU,jT,iM,iF,iA,gX,iC,hY,iH,iK,iB,jJ,jL,u32,iG,iL,iJ,iE,kJ,kR,iN,iD,gY,iY,iU,iP,iZ,jA,iQ,jC,iW,iV,iO,rfl,tY,Cg,zl9,az,mz,tz,zvl,zst⟩:=hs
  have A1:=aD az;have M1:=aD mz;have T1:=aD tz;have EZ:=aD (And.intro zvl zst);clear az mz tz zvl zst;refine CW.sq H ?_;refine CW.pQ H O3 (λzgj Q HQ=>?_);by_cases aU:k<n
  .have H3:(k:Int)<(n:Int):=aC
   go_wp2;refine HQ.o _ _ ?_;clear HQ H3;refine CW.tape (s:=⟨[],Kz,.wk e.qs (sJ o es k).length,_,wz⟩) ?_ zgj 0;refine CW.sq H ?_;refine CW.cd H true ?_;refine CW.sk H ?_;dsimp only;have Dz:=HP.o.ev.lowT HP.o.at_ HP.o.lo_ T1.o;obtain⟨be,oe,ev,hA,zzn,zgG,zkf,Gm,e0,e1,e2⟩:=Dz.eventsAt aU;subst hA;obtain⟨zyz,ztH,st3⟩:=zCv HP.o.ok Gm;have Nh:=aD Gm;have uS:=aD (And.intro zyz (And.intro ztH st3));clear Gm zyz ztH st3 Dz;have i0:(0:Int)<=(k:Int):=aC;have i1:(k:Int)<(n:Int):=aC;refine CW.sq H ?_;refine CW.block H ?_;refine CW.sq H ?_;refine CW.pQ H O3 (λFc Q HQ=>?_);obtain⟨w2,eZ⟩:=aT (Tt.tp wz Fc 0);have A2:=aD (show bG w2 lo hb vz (Bc o es ln qn k) by rw[eZ];exact A1.o.tp Fc 0);have T2:=aD (show bP hb v w vz w2 by rw[eZ];exact T1.o.tp Fc 0);have Yu:w2.cell? ⟨be,oe+k*3,none⟩=some (.string ev.k):=by rw[eZ];exact e0
   have Cv:w2.cell? ⟨be,oe+k*3+1,none⟩=some (.int .i64 ev.a):=by rw[eZ];exact e1
   have zbN:w2.cell? ⟨be,oe+k*3+2,none⟩=some (.int .i64 ev.b):=by rw[eZ];exact e2
   try dsimp only
   rw[<-eZ];clear eZ A1 T1 e0 e1 e2;go_wp2;refine HQ.o _ _ ?_;clear HQ Yu Cv zbN;obtain⟨gb,eU⟩:=aT w2.heap.size;obtain⟨w3,jB⟩:=aT (w2.alloc (.cells #[.string ev.k,.int .i64 ev.a,.int .i64 ev.b] 54));have A3:=aD (show bG w3 lo hb vz (Bc o es ln qn k) by rw[jB];exact A2.o.alloc _);have T3:=aD (show bP hb v w vz w3 by rw[jB];exact T2.o.trans (bP.below (eT (fK _ _) _)));have vU:=aD (show w3.heap[gb]? =some (.cells #[.string ev.k,.int .i64 ev.a,.int .i64 ev.b] 54) by rw[jB,eU];exact gV _ _);have NP:=aD (show some gb∉parts vz hb from λhp=>by have:=(A2.o.lt _ hp).2;omega);rw[<-eU,<-jB];clear jB eU A2 T2;have zh5:lo<=w3.heap.size:=eG HP.o.lo_ T3.o.size;have zth:k<=es.length:=by have:=Q7.o;omega
   obtain⟨Gt,zf4,zzW⟩:=Pq HP.o.ok k zth;have pre:EvPre lo hb vz (Bc o es ln qn k) w3:=⟨A3.o,M1.o,zsr HP.o.ok zth HP.o.nd HP.o.nl HP.o.nq,zh5,HP.o.tab.turn HP.o.at_ HP.o.lo_ T3.o,by have:=zf4.clk;show(lP o es k).clk<=_;omega,by have h1:=zf4.nw;have h2:=zf4.nb;show(lP o es k).back.length+(lP o es k).wait.length<=_;omega⟩;have zuf:w3.cell? ⟨hb,12,none⟩=some vz.sA:=aI A3.o.blk 12;have zAF:=aD pre;have RD:=aD zuf;clear pre zuf Gt zf4 zzW;refine cw_R3 (c:=⟨e,lo,hb,gb,(sJ o es k).length,v,w,vz,Bc o es ln qn k,ev,Kz⟩) H uS.o.2.2 (by show Dj e.W _ _;rw[HP.o.W];exact asks_at Nh.o) (λi g hg=>zl9 _ _ (HP.o.K i g hg)) (by show(eB (lP o es k) ev).1.log.length<=1000;rw[uS.o.1];exact uS.o.2.1) uS.o.1 rfl rfl rfl (λvs K' l' w' uH hS=>?_) ⟨xH _,λ_=>⟨RD.o,vU.o⟩,rfl,zAF.o,T3.o,NP.o⟩;rw[Go.Mt.zO,zC2];simp only[Go.Mt.wV,dY,dX];obtain⟨s1,s2,s3⟩:=hS;have s4:l'=.wk e.qs ((sJ o es k).length+(qB (lP o es k) ev).length)/\W3.P2 ⟨e,lo,hb,gb,(sJ o es k).length,v,w,vz,Bc o es ln qn k,ev,Kz⟩ w':=by
    rcases vs with _|⟨a,_|⟨b,_|⟨x,_|⟨y,vs⟩⟩⟩⟩
    .cases uH
    .cases uH
    .cases uH
    .cases uH
    .exact s3
   obtain⟨rfl,v2,a2,m2,t2,q1,q2⟩:=s4;have e3:(sJ o es (k+1)).length=(sJ o es k).length+(qB (lP o es k) ev).length:=by show(sJ o es k++_).length=_;rw[Nh.o,jZ]
   have e4:Bc o es ln qn (k+1)={Bc o es ln qn k with r:=F6 (eB (lP o es k) ev)}:=by unfold Bc;rw[Q2 Nh.o]
   have A4:=aD (show bG w' lo hb v2 (Bc o es ln qn (k+1)) by rw[e4];exact a2);have M4:=aD (show fZ v2 (Bc o es ln qn (k+1)) by rw[e4];exact m2);have T4:=aD t2;have Q4:=aD (And.intro (q1.trans EZ.o.1) (q2.trans EZ.o.2));have sN:K.le K':=wH zl9 s1;rw[<-e3];clear a2 m2 t2 q1 q2 e3 e4 s1 s2 s3 uH;refine CW.pQ H O3 (λzpE Q HQ=>?_);go_wp2;refine HQ.o _ _ ?_;clear HQ;exact⟨n-(k+1),aC,k+1,_,K',v2,_,_,_,_,_,_,_,_,_,_,_,_,_,_,_,_,_,_,_,_,_,_,_,_,_,_,_,_,_,_,_,_,_,_,_,_,_,_,_,_,_,_,_,_,_,_,_,rfl,aC,rfl,sN,A4.o.tp zpE 0,M4.o,T4.o.tp zpE 0,Q4.o.1,Q4.o.2⟩
  .have H3:¬(k:Int)<(n:Int):=aC
   have mG:=aD (show k=es.length by have:=Q7.o;omega);go_wp2;refine HQ.o _ _ ?_;clear HQ H3;refine CW.tape (s:=⟨[],Kz,.wk e.qs (sJ o es k).length,_,wz⟩) ?_ zgj 0;refine CW.sq H ?_;refine CW.cd H false ?_;refine CW.exit H aQ ?_;dsimp only;rw[if_pos rfl];have Ar:=mG.o;subst Ar;have Tr:Bc o es ln qn es.length=sP o es ln qn 0:=by unfold Bc sP;rw[za3];rfl
   rw[Tr] at A1 M1;obtain⟨AQ,cQ,zaA,zHk⟩:=G8 A1.o.Q aH;obtain⟨nq,zaq⟩:=aT qn.length;have Rf:=aD zaq;have zqt:=aD (show vz.sQ=.slice AQ nq cQ by rw[zaq];exact zaA);have Y4:=(C9 (zsr (tk:=[]) HP.o.ok (mK _) HP.o.nd HP.o.nl HP.o.nq).R.off).2.2.2.1;have zJi:nq<=4:=by
    have h1:=HP.o.nq;have h2:(lP o es 0).o.op<=4:=Y4;have h3:(lP o es 0).o=o:=rfl;rw[h3] at h2;omega
   clear zaA zHk zaq Tr Y4 aU Cg;refine CW.sq H ?_;refine CW.pQ H O3 (λSk Q HQ=>?_);obtain⟨w5,mV⟩:=aT (Tt.tp wz Sk 0);have A5:=aD (show bG w5 lo hb vz (sP o es ln qn 0) by rw[mV];exact A1.o.tp Sk 0);have T5:=aD (show bP hb v w vz w5 by rw[mV];exact T1.o.tp Sk 0)
   try dsimp only
   rw[<-mV];clear mV A1 T1;have k6:w5.cell? ⟨hb,6,none⟩=some (.slice AQ nq cQ):=by
    have:=aI A5.o.blk 6;rw[this,<-zqt.o];rfl
   go_wp2;refine HQ.o _ _ ?_;clear HQ k6;obtain⟨k0,l6⟩:=aT ((sJ o es es.length).length);have zG:=aD l6;rw[<-l6];clear l6;refine CW.block H ?_;refine CW.loop H (λnn s=>∃(k:Nat) (wy:aE) (Ky:Pr) (vy:fH) (u1 u2 u3 u4 u5 u6 u7 u8 u9 gS gC gD gE gH gG u16 gZ kL kU jT iM iF iA gX iC hY iH iK iB iG iL iJ iE kJ kR iN iD gY iY iU iP iZ jA iQ jC iW iV iO:aF),s=⟨[],Ky,.wk e.qs (k0+2*k),#[.pointer (some ⟨hb,0,none⟩),u1,u2,u3,u4,u5,u6,u7,u8,u9,gS,gC,gD,gE,gH,gG,u16,gZ,kL,kU,jT,iM,iF,iA,gX,iC,hY,iH,iK,iB,.slice AQ nq cQ,.int .i64 (nq:Int),.int .i64 (k:Int),iG,iL,iJ,iE,kJ,kR,iN,iD,gY,iY,iU,iP,iZ,jA,iQ,jC,iW,iV,iO],wy⟩/\k<=nq/\nn=nq-k/\K.le Ky/\bG wy lo hb vy (sP o es ln qn k)/\fZ vy (sP o es ln qn k)/\bP hb v w vy wy/\vy.sQ=vz.sQ) (λnn s hs=>?_) (n:=nq) ?_
   rotate_left
   .exact⟨0,w5,Kz,vz,_,_,_,_,_,_,_,_,_,_,_,_,_,_,_,_,_,_,_,_,_,_,_,_,_,_,_,_,_,_,_,_,_,_,_,_,_,_,_,_,_,_,_,_,_,_,_,_,rfl,mK _,rfl,zl9,A5.o,M1.o,T5.o,rfl⟩
   .obtain⟨k,wy,Ky,vy,u1,u2,u3,u4,u5,u6,u7,u8,u9,gS,gC,gD,gE,gH,gG,u16,gZ,kL,kU,jT,iM,iF,iA,gX,iC,hY,iH,iK,iB,iG,iL,iJ,iE,kJ,kR,iN,iD,gY,iY,iU,iP,iZ,jA,iQ,jC,iW,iV,iO,rfl,zMc,zJK,zqw,ay,my,ty,ey⟩:=hs
    have A6:=aD ay;have M6:=aD my;have T6:=aD ty;have EY:=aD ey;clear ay my ty ey A5 T5 M1;refine CW.sq H ?_;refine CW.pQ H O3 (λzdw Q HQ=>?_);by_cases aU:k<nq
    .have H3:(k:Int)<(nq:Int):=aC
     go_wp2;refine HQ.o _ _ ?_;clear HQ;refine CW.sq H ?_;refine CW.cd H true ?_;refine CW.sk H ?_;dsimp only;have Qo:e.W[k0+2*k]? =some (.ask k 0 0 (dO (C8 o es).recs ((k:Int)+1)))/\e.W[k0+2*k+1]? =some (.shut k):=by
      have ziS:o.op.toNat=nq:=by have:=HP.o.nq;have:=Rf.o;omega
      obtain⟨x1,x2⟩:=zsm (C8 o es) nq k aU;rw[HP.o.W];unfold Cj;rw[ziS,O2 (by have:=zG.o;omega),O2 (by have:=zG.o;omega),<-zG.o,zwE,show k0+2*k+1-k0=2*k+1 by omega];exact⟨x1,x2⟩
     refine CW.sq H ?_;refine CW.block H ?_;refine CW.sq H ?_;refine CW.pQ H O3 (λWj Q HQ=>?_);obtain⟨w7,rZ⟩:=aT (Tt.tp (Tt.tp wy zdw 0) Wj 0);have A7:=aD (show bG w7 lo hb vy (sP o es ln qn k) by rw[rZ];exact(A6.o.tp zdw 0).tp Wj 0);have T7:=aD (show bP hb v w vy w7 by rw[rZ];exact(T6.o.tp zdw 0).tp Wj 0)
     try dsimp only
     rw[<-rZ];clear rZ A6 T6;have oJ:=A7.o.Q;rw[EY.o,zqt.o] at oJ;have oJ:w7.ownsRow lo 95 1 (.slice AQ nq cQ) nq (Jx qn):=by rw[Rf.o];rw[Rf.o] at oJ;exact oJ
     obtain⟨bq,oq,gq,hA,Cd,zA1⟩:=zgn (Be oJ aH) aU;subst hA;have zEU:=aD Cd;have i0:(0:Int)<=(k:Int):=aC;clear oJ Cd;go_wp2;refine HQ.o _ _ ?_;clear HQ zA1;have zwZ:w7.cell? ⟨hb,13,none⟩=some vy.sT:=aI A7.o.blk 13;have zBt:lo<=w7.heap.size:=eG HP.o.lo_ T7.o.size;have zv2:k<qn.length:=by have:=Rf.o;omega
     refine CW.sq H ?_;refine cw_R8 (c:=⟨e,lo,hb,k,k0+2*k,dO (C8 o es).recs ((k:Int)+1),v,w,vy,sP o es ln qn k,Ky⟩) H M6.o Qo.1 zv2 (by show k<=100;omega) (λi g hg=>zqw _ _ (HP.o.K i g hg)) (by show(zbC (C8 o es) k).length<=1000;rw[zuM];omega) rfl rfl rfl (λvs K' l' w' uH hS=>?_) ⟨xH _,λ_=>zwZ,rfl,A7.o,T7.o,zBt⟩;rw[Go.Mt.zO,zyS];simp only[Go.Mt.wV,dY,dX];obtain⟨s1,s2,s3⟩:=hS;have s4:l'=.wk e.qs (k0+2*k+1)/\W8.P2 ⟨e,lo,hb,k,k0+2*k,dO (C8 o es).recs ((k:Int)+1),v,w,vy,sP o es ln qn k,Ky⟩ w':=by
      rcases vs with _|⟨a,_|⟨b,_|⟨x,_|⟨y,vs⟩⟩⟩⟩
      .cases uH
      .cases uH
      .cases uH
      .cases uH
      .exact s3
     obtain⟨rfl,v2,a2,m2,t2,q1,q2⟩:=s4;have A8:=aD (show bG w' lo hb v2 (sP o es ln qn (k+1)) from a2);have M8:=aD (show fZ v2 (sP o es ln qn (k+1)) from m2);have T8:=aD t2;have Q8:=aD (q2.trans EY.o);have sN:K.le K':=wH zqw s1;have zHo:K' gq (qa e.qs k):=sN _ _ (HP.o.K k gq zEU.o);clear a2 m2 t2 q1 q2 s1 s2 s3 uH zwZ;refine CW.rg H [0,1] ?_;refine CR.mv H (.chan (some gq)) ?_;refine CR.shut H (k:=k0+2*k+1) (q:=k) zzP rfl rfl zk6 rfl rfl Qo.2 (by show k<e.qs.length;rw[HP.o.qs];exact zv2) rfl rfl zHo ?_;simp only[b7,gF,dY,dX];refine CR.nil H ?_;refine CW.pQ H O3 (λXj Q HQ=>?_);go_wp2;refine HQ.o _ _ ?_;clear HQ;exact⟨nq-(k+1),aC,k+1,_,K',v2,_,_,_,_,_,_,_,_,_,_,_,_,_,_,_,_,_,_,_,_,_,_,_,_,_,_,_,_,_,_,_,_,_,_,_,_,_,_,_,_,_,_,_,_,_,_,_,_,rfl,aC,rfl,sN,A8.o.tp Xj 0,M8.o,T8.o.tp Xj 0,Q8.o⟩
    .have H3:¬(k:Int)<(nq:Int):=aC
     have mG:=aD (show k=nq by omega);go_wp2;refine HQ.o _ _ ?_;clear HQ H3;refine CW.sq H ?_;refine CW.cd H false ?_;refine CW.exit H aQ ?_;dsimp only;rw[if_pos rfl];have Ar:=mG.o;subst Ar;have zIO:e.W.length=k0+2*k:=by
      have ziS:o.op.toNat=k:=by have:=HP.o.nq;have:=Rf.o;omega
      rw[HP.o.W];unfold Cj;rw[jZ,<-zG.o,ziS,ziu]
     refine⟨aQ,rfl,.tuple #[],rfl,by rw[zIO],vy,?_,?_,T6.o.tp zdw 0⟩
     .rw[<-Rf.o];exact A6.o.tp zdw 0
     .rw[<-Rf.o];exact M6.o
end Go.Proofs.YtfcjiloojkjaeaaGreatDoor
namespace Go.Proofs.YtfcjiloojkjaeaaGreatDoor
open Go.RowKit Go.Mt Go.Conc Go.Tt Go.Conc.Lib Go.ConcR.Gen
abbrev sK:WgLink:={add:=53,done:=55,wait:=59,relMerge:=68,disable:=69,enable:=70,inBubble:=71,associate:=72,fatal:=73,uOr:=74,uAdd:=75,raceRead:=76,uLoad:=77,uStore:=78,disassociate:=79,semrelease:=80,acquire:=83,isAssociated:=84,uCas:=85,raceWrite:=86,semacquire:=87,orU64:=97,addU64:=98,loadU64:=99,storeU64:=100,casU64:=106,tWgP:=108,tUP:=110,tAssoc:=112,tWg:=94,tAU:=91,tU64:=89,tUint:=116,tU32:=92,tPU32:=117,tPAU:=137,tPU64:=139,tNoCopy:=86,tANoCopy:=87,tAlign64:=88}
def zce:WgLib aK sK:=
 ⟨Tryz.func53,Tryz.func55,Tryz.func59,Tryz.func68,Tryz.func69,Tryz.func70,Tryz.func71,Tryz.func72,Tryz.func73,Tryz.func74,Tryz.func75,Tryz.func76,Tryz.func77,Tryz.func78,Tryz.func79,Tryz.func80,Tryz.func83,Tryz.func84,Tryz.func85,Tryz.func86,Tryz.func87,Tryz.func97,Tryz.func98,Tryz.func99,Tryz.func100,Tryz.func106,Tryz.underlying108,Tryz.runUnderlying108,Tryz.sizeOf108,Tryz.isAgg108,Tryz.zeroValue108,Tryz.underlying110,Tryz.runUnderlying110,Tryz.sizeOf110,Tryz.isAgg110,Tryz.zeroValue110,Tryz.underlying112,Tryz.runUnderlying112,Tryz.sizeOf112,Tryz.isAgg112,Tryz.zeroValue112,Tryz.underlying94,Tryz.runUnderlying94,Tryz.sizeOf94,Tryz.isAgg94,Tryz.zeroValue94,Tryz.underlying91,Tryz.runUnderlying91,Tryz.sizeOf91,Tryz.isAgg91,Tryz.zeroValue91,Tryz.underlying89,Tryz.runUnderlying89,Tryz.sizeOf89,Tryz.isAgg89,Tryz.zeroValue89,Tryz.underlying116,Tryz.runUnderlying116,Tryz.sizeOf116,Tryz.isAgg116,Tryz.zeroValue116,Tryz.underlying92,Tryz.runUnderlying92,Tryz.sizeOf92,Tryz.isAgg92,Tryz.zeroValue92,Tryz.underlying117,Tryz.runUnderlying117,Tryz.sizeOf117,Tryz.isAgg117,Tryz.zeroValue117,Tryz.underlying137,Tryz.runUnderlying137,Tryz.sizeOf137,Tryz.isAgg137,Tryz.zeroValue137,Tryz.underlying139,Tryz.runUnderlying139,Tryz.sizeOf139,Tryz.isAgg139,Tryz.zeroValue139,Tryz.underlying0,Tryz.runUnderlying0,Tryz.sizeOf0,Tryz.isAgg0,Tryz.zeroValue0,Tryz.underlying3,Tryz.runUnderlying3,Tryz.sizeOf3,Tryz.isAgg3,Tryz.zeroValue3,Tryz.underlying4,Tryz.runUnderlying4,Tryz.sizeOf4,Tryz.isAgg4,Tryz.zeroValue4,Tryz.underlying9,Tryz.runUnderlying9,Tryz.sizeOf9,Tryz.isAgg9,Tryz.zeroValue9,Tryz.underlying20,Tryz.runUnderlying20,Tryz.sizeOf20,Tryz.isAgg20,Tryz.zeroValue20,Tryz.underlying21,Tryz.runUnderlying21,Tryz.sizeOf21,Tryz.isAgg21,Tryz.zeroValue21,aP,aP⟩
instance:Go.ConcR.Payload:=⟨3⟩
end Go.Proofs.YtfcjiloojkjaeaaGreatDoor
namespace Go.Proofs.YtfcjiloojkjaeaaGreatDoor
open Go.RowKit Go.Mt Go.Conc Go.Tt Go.Maps Go.Conc.Lib Go.ConcR.Gen
open Go.ConcR (KK wgBlock WgAt stA smA rd wr)
variable {K:Pr}{Q:Pr->Prop}{pin:List (Nat×aF)}{w:aE}{Ψ:Pr->gN->aF->aE->Prop}
theorem BO.callF {d:pY}(H:d.Ok){base:List dL}{ds:Dk}(hQ:Up Q){fn:aO}{tmps:Array aF}{ops:Array aX}{i:Nat}{rest:List Nat}{k:List dI}{l:gN}{o:aX}{g:aO}{args:Array cJ}{jM:Array aN}(N5:Array aF)
 (ho:ops[i]? =some o) (cF:cO o (cS ops tmps)=true) (hop:o.op=.call ⟨.value (.func g),args,jM⟩) (rS:args.all (dP d.fs)=true) (ha:args.map (bE tmps []).eval=N5) (lK:∀s,o.dst=some s->s∉pin.map (·.1)) (hc:CF d g N5 K l w Ψ)
 (hk:∀K' l' v w',K.le K'->Ψ K' l' v w'->BO (d.cx K' Q [] base ds pin) l' ⟨fn,(b7 ⟨tmps,[]⟩ o.dst v).tmps,.inRegion ops rest::k,false⟩ w'):BO (d.cx K Q [] base ds pin) l ⟨fn,tmps,.inRegion ops (i::rest)::k,false⟩ w:=by
 obtain⟨fnf,cf,g1,g2,g3,g4,g5⟩:=hc.ex;refine BO.callN (H.iok hQ) ho cF hop (Callee.static _ _) rS g1 g2 g3 g4 λoO m' hm=>?_;rw[pY.sub_eq];have fin:∀(s':WS) todo,K.le s'.K->(s'.chs=[]/\∃v,(oC fnf.results.toList s'.T).run d.p s'.w=.ok v s'.w/\Ψ s'.K s'.l v s'.w)->d.bo (λR=>Q R/\oO.le R) (fx [] ds m'::base) s' g todo true:=λs' todo hl ⟨h2,v,h3,h4⟩=>by
  obtain⟨zFL,K',l',T',w'⟩:=s';simp only at*;subst h2;unfold pY.bo;simp only;rw[<-pY.sub_eq (pin:=pin)];refine BO.retN (C:=d.cx K' Q [] base ds pin) (H.iok hQ) (hm.upK hl _) rfl rfl (λs hs=>lK s uU) g1 h3 ?_;have:=hk K' l' v w' hl h4;simp only[Fm.fin,ho,uF]
  cases hd:o.dst with
  |none=>rw[hd] at this;exact this
  |some s=>rw[hd] at this;exact this
 have e:(#[]:Array aF)++args.map (bE tmps []).eval++ #[]=N5:=by rw[<-ha];simp
 rw[e];refine g5 (λR=>Q R/\oO.le R) (fx [] ds m'::base) [] (hQ.and oO) (λ_ h=>by cases h) (λs' hl x=>BO.fall (H.iok (hQ.and oO)) (fin s' [] hl x.2)) (λid k2 s' hl ee x=>by cases ee) (λs' todo hl x=>fin s' todo hl x.2)
def Zn:Go.Code:=(Tryz.f57.body).getD .skip
def rH20:Go.Code:=match Zn with| .seq (a) _=>a|_=>.skip
def rH21:Go.Code:=match Zn with| .seq _ (a)=>a|_=>.skip
def zzd:Zn=.seq (rH20) (rH21):=rfl
def ze8:Array Oper:=match rH20 with| .region _ ops _=>ops|_=>#[]
def rH20_eq:rH20=.region 0 ze8 false:=rfl
def zGv:fV ze8.size=[0]:=rfl
abbrev zpH:Oper:=aM ze8 0 none (.defer ⟨.value (.func 55),#[.tmp 0],#[94]⟩)
def zHw:ze8[0]? =some zpH:=rfl
def Qv:Array Oper:=match rH21 with| .region _ ops _=>ops|_=>#[]
def rH21_eq:rH21=.region 1 Qv false:=rfl
def zIv:fV Qv.size=[0,1,2]:=rfl
abbrev oH21_0:Oper:=aM Qv 0 (some 3) (.load 63 (.tmp 1))
def zHm:Qv[0]? =some oH21_0:=rfl
abbrev oH21_1:Oper:=aM Qv 1 (some 4) (.load 31 (.tmp 2))
def zCD:Qv[1]? =some oH21_1:=rfl
abbrev oH21_2:Oper:=aM Qv 2 (some 5) (.call ⟨.value (.func 58),#[.tmp 3,.tmp 4],#[63,31]⟩)
def zDz:Qv[2]? =some oH21_2:=rfl
theorem zAA {N:Nat}{W:List fC}{D:aE->Prop}{qs:List Nat}:(Cr N W D).act (.wk qs W.length)=.done:=by
 show eP N W (.wk qs W.length)=_;simp[eP]
theorem zI0 {e:Iq}(H:e.d.Ok)(Ck:e.ty=sK.tWg){lo hb gh ge n c:Nat}{A:Option bC}{v:fH}{o:fP}{es:List dQ}{ln qn:List Nat}(h:zcI e o es ln qn lo hb v w K A n c)(hh:w.cell? ⟨gh,0,none⟩=some (.pointer (some ⟨hb,0,none⟩)))(he:w.cell? ⟨ge,0,none⟩=some (.slice A n c))(hQ:Up Q)
 (sX:∀K' R τ W w' v',K.le K'->Q R->dB (SF fW) K' R (o9 aK) e.St w' W->IQ e.W0 e.StI e.Shun e.Wg e.SS e.R0 e.Fz e.Wf e.qs [] R τ W->bG w' lo hb v' (sP o es ln qn qn.length)->fZ v' (sP o es ln qn qn.length)->bP hb v w v' w'->e.D W):
 BO (e.d.cx K Q [] [wQ aK] ⟨[],.deferred,aQ⟩ [(0,.pointer (some ⟨e.Wg,0,none⟩))]) (.wk e.qs 0) ⟨57,#[.nilFunc,.pointer (some ⟨gh,0,none⟩),.pointer (some ⟨ge,0,none⟩),aA,aA,aA],[.code Zn],false⟩ w:=by
 let C:=e.d.cx K Q [] [wQ aK] ⟨[],.deferred,aQ⟩ [(0,.pointer (some ⟨e.Wg,0,none⟩))]
 have hI:fE C:=H.iok hQ
 let d1:=dcall 55 #[.pointer (some ⟨e.Wg,0,none⟩)]
 have Ku:fE (C.dfr d1):=hI.dfr d1;have F:vZ C.P C.fs:=nO;show BO C _ _ _;rw[zzd];refine BO.seq hI ?_;rw[rH20_eq];refine BO.regs hI _ zGv ?_;refine BO.defer hI (d:=d1) zHw rfl rfl (λR w W bU _ _ Em aZ=>?_) ?_
 .have h0:=Em (0,.pointer (some ⟨e.Wg,0,none⟩)) (by show _∈[_];simp)
  have:=zoG (p:=C.p) (o:=zpH) (ρ:=(bE bU C.ds.ds).eval) rfl rfl aZ;simp only[tJ,jD,sC,wJ] at this;simp only at h0;rw[h0] at this;exact this
 refine BO.regEnd Ku ?_;rw[rH21_eq];refine BO.regs Ku _ zIv ?_;refine BO.op (C:=C.dfr d1) F Ku zHm rfl aP ztG (λT=>⟨.pointer (some ⟨hb,0,none⟩),Tt.tp w T 0,.inl (zaD (a:=⟨gh,0,none⟩) rfl rfl (Tryz.isAgg63 _) hh),?_⟩);simp only[b7,gF,dY,dX];refine BO.tape ?_ T 0;clear T;refine BO.op (C:=C.dfr d1) F Ku zCD rfl aP (by intro s hs;cases hs;show(4:Nat)∉([0]:List Nat);decide) (λT=>⟨.slice A n c,Tt.tp w T 0,.inl (zaD (a:=⟨ge,0,none⟩) rfl rfl (Tryz.isAgg31 _) he),?_⟩);simp only[b7,gF,dY,dX];refine BO.tape ?_ T 0;clear T;have eC:C.dfr d1=e.d.cx K Q [] [wQ aK] ⟨[d1],.deferred,aQ⟩ [(0,.pointer (some ⟨e.Wg,0,none⟩))]:=rfl;rw[eC];refine BO.callF H hQ #[.pointer (some ⟨hb,0,none⟩),.slice A n c] zDz rfl rfl aP (by simp only[tJ,jD,sC,wJ];rfl) aQ (cf_work H h) λK' l' y w' hl hx=>?_;obtain⟨rfl,v',hA,hm,hT⟩:=hx;have Hl:fE (e.d.cx K' Q [] [wQ aK] ⟨[d1],.deferred,aQ⟩ [(0,.pointer (some ⟨e.Wg,0,none⟩))]):=H.iok hQ;refine BO.regEnd Hl (BO.fall Hl ?_);refine BO.doneD (C:=e.d.cx K' Q [] [wQ aK] ⟨[d1],.deferred,aQ⟩ [(0,.pointer (some ⟨e.Wg,0,none⟩))]) (I0:=λR τ W=>IQ e.W0 e.StI e.Shun e.Wg e.SS e.R0 e.Fz e.Wf e.qs [] R τ W/\Q R) zce rfl rfl Ck ?_ ?_ rfl rfl Tryz.func57 rfl zAA (λR τ W hr hi=>sX K' R τ W w' v' hl hi.2 hr hi.1 hA hm hT)
 .funext R τ w
  show((IQ _ _ _ _ _ _ _ _ _ _ R τ w/\WgLive e.ty _ w)/\Q R)=((IQ _ _ _ _ _ _ _ _ _ _ R τ w/\Q R)/\WgLive _ _ w);rw[Ck];exact propext ⟨λ⟨⟨a,b⟩,c⟩=>⟨⟨a,c⟩,b⟩,λ⟨⟨a,c⟩,b⟩=>⟨⟨a,b⟩,c⟩⟩
 .have hx:=zeU (ty:=sK.tWg) (W0:=e.W0) (St:=e.StI) (Shun:=e.Shun) (Wg:=e.Wg) (SS:=e.SS) (R0:=e.R0) (Fz:=e.Fz) (Wf:=e.Wf) (qs:=e.qs) (chs:=[]) H.ss H.fz H.low
  exact⟨λR τ W aZ h s=>⟨hx.suf _ _ _ _ h.1 s,h.2⟩,λR τ W a v h ha=>⟨hx.cell _ _ _ _ _ h.1 ha,h.2⟩,λR τ W d h=>⟨hx.at_ _ _ _ d h.1,h.2⟩,λR τ W h=>hx.rel _ _ _ h.1⟩
section
variable {L:Type}{C:Cx L}{l:L}
variable {fn:aO}{tmps:Array aF}{c:wS}{k:List dI}{w:aE}
def BO.pieceQ (F:vZ C.P C.fs)(hI:fE C)(hc:qG C.p ⟨C.fs,C.gs,true⟩ c=true)(hf:wM C.p fn)(fQ:yH C.S c=true)
 (vM:∀(T:kS) (Q:oP->uL->aE->Prop),rA (∀a' w',BO C l ⟨fn,a'.tmps,k,false⟩ w'->Q .normal a' w')->Code.wp C.p c Q ⟨tmps,[]⟩ (Tt.tp w T 0)):BO C l ⟨fn,tmps,.code c::k,false⟩ w:=
 BO.piece F hI hc hf fQ λT=>vM T _ (aD λa' w' h=>⟨rfl,h⟩)
theorem BO.pV {c':wS}(F:vZ C.P C.fs)(hI:fE C)(hf:wM C.p fn)
 (vM:∀(w1:aE) (T:kS),w1=Tt.tp w T 0->∀Q:oP->uL->aE->Prop,rA (∀a' w',BO C l ⟨fn,a'.tmps,k,false⟩ w'->Q .normal a' w')->Code.wp aK c' Q ⟨tmps,[]⟩ w1)
 (e:c=c':=by conv=>lhs;whnf) (hp:C.p=Tryz.prog:=by exact rfl) (hc:qG C.p ⟨C.fs,C.gs,true⟩ c=true:=by kernel_rfl) (fQ:yH C.S c=true:=by kernel_rfl):BO C l ⟨fn,tmps,.code c::k,false⟩ w:=by
 subst e;exact BO.pieceQ F hI hc hf fQ λT Q HQ=>by rw[hp];exact vM _ T rfl Q HQ
end
structure IOp (Wg:Nat)(R:Pr)(τ:cI)(W:aE):Prop where
 rel:∀a b,R a b->b≠Wg
 lt:Wg<W.heap.size
theorem iop_ix {ty:aN}{Wg:Nat}:IX ty Wg (IOp Wg):=
 ⟨λR τ W aZ h s=>⟨h.rel,j5 h.lt s.size⟩,λR τ W a v h ha=>⟨h.rel,by rw[Ux];exact h.lt⟩,λR τ W d h=>⟨h.rel,h.lt⟩,λR τ W h=>h.rel⟩
theorem zeJ {L:Type}{C:Cx L}(hQ:Up Q)(hC:C.I=λR τ W=>zJ C.ty C.Wg (IOp C.Wg) R τ W/\Q R):fE C:=by
 refine⟨λR τ W aZ h s=>?_,λR τ W R1 W1 h ht hs=>?_⟩<;>rw[hC] at*
 .exact⟨⟨⟨h.1.1.rel,j5 h.1.1.lt s.size⟩,s.live h.1.2⟩,h.2⟩
 .refine⟨⟨⟨λa b x=>?_,j5 h.1.1.lt hs.size⟩,?_⟩,hQ R R1 hs.le h.2⟩
  .rcases hs.new a b x with y|⟨y,_⟩
   .exact h.1.1.rel a b y
   .have:=h.1.1.lt;omega
  .obtain⟨a,b,hl⟩:=h.1.2
   exact⟨a,b,(hs.keep C.Wg h.1.1.lt λa x=>absurd rfl (h.1.1.rel a _ x)).trans hl⟩
def fS (Wg N:Nat)(W:List fC)(D:aE->Prop)(Fin:bF->aE->Prop)(St:Nat->Prop)(K:Pr)(Q:Pr->Prop)(base:List dL)(ds:Dk)(pin:List (Nat×aF)):Cx gN:=
 {p:=aK,gs:=Cy,fs:=fW,ty:=sK.tWg,Wg:=Wg,A:=Cr N W D,Fin:=Fin,main:=false,base:=base,ds:=ds,K:=K,St:=St,I:=λR τ w=>zJ sK.tWg Wg (IOp Wg) R τ w/\Q R,pin:=pin}
def K3:Go.Code:=(Tryz.f56.body).getD .skip
def rOP0:Go.Code:=match K3 with| .seq (a) _=>a|_=>.skip
def rOP1:Go.Code:=match K3 with| .seq _ (.seq (a) _)=>a|_=>.skip
def rOP2:Go.Code:=match K3 with| .seq _ (.seq _ (.block _ (.loop (.seq (a) _))))=>a|_=>.skip
def rOP3:Go.Code:=match K3 with| .seq _ (.seq _ (.block _ (.loop (.seq _ (.seq _ (.block _ (.seq (a) _)))))))=>a|_=>.skip
def rOP4:Go.Code:=match K3 with| .seq _ (.seq _ (.block _ (.loop (.seq _ (.seq _ (.block _ (.seq _ (.seq (.seq (a) _) _))))))))=>a|_=>.skip
def rOP5:Go.Code:=match K3 with| .seq _ (.seq _ (.block _ (.loop (.seq _ (.seq _ (.block _ (.seq _ (.seq (.seq _ (.cond _ (a) _)) _))))))))=>a|_=>.skip
def rOP6:Go.Code:=match K3 with| .seq _ (.seq _ (.block _ (.loop (.seq _ (.seq _ (.block _ (.seq _ (.seq _ (a)))))))))=>a|_=>.skip
def zy6:K3=.seq (rOP0) (.seq (rOP1) (.block 0 (.loop (.seq (rOP2) (.seq (.cond (.tmp 6) (.skip) (.exit 0)) (.block 1 (.seq (rOP3) (.seq (.seq (rOP4) (.cond (.tmp 10) (rOP5) (.skip))) (rOP6))))))))):=rfl
def Z5:Array Oper:=match rOP2 with| .region _ ops _=>ops|_=>#[]
def ztO:rOP2=.region 2 Z5 false:=rfl
def zxu:fV Z5.size=[0,1]:=rfl
abbrev oOP2_0:Oper:=aM Z5 0 (some 5) (.recv 122 (.tmp 4) true)
def zrY:Z5[0]? =some oOP2_0:=rfl
abbrev oOP2_1:Oper:=aM Z5 1 (some 6) (.extract (.tmp 5) 1)
def zkX:Z5[1]? =some oOP2_1:=rfl
def K5:Array Oper:=match rOP6 with| .region _ ops _=>ops|_=>#[]
def zts:rOP6=.region 6 K5 false:=rfl
def zs0:fV K5.size=[0,1,2,3]:=rfl
abbrev oOP6_0:Oper:=aM K5 0 (some 13) (.fieldAddr 124 (.tmp 3) 2)
def zuH:K5[0]? =some oOP6_0:=rfl
abbrev oOP6_1:Oper:=aM K5 1 (some 14) (.load 84 (.tmp 13))
def zr2:K5[1]? =some oOP6_1:=rfl
abbrev oOP6_2:Oper:=aM K5 2 (some 15) (.move (.tmp 2))
def zxz:K5[2]? =some oOP6_2:=rfl
abbrev oOP6_3:Oper:=aM K5 3 none (.send (.tmp 14) (.tmp 15))
def zue:K5[3]? =some oOP6_3:=rfl
def Yv:wM aK 56:=⟨_,Tryz.func56,.inl rfl⟩
def zdN:Go.Code:=.seq rOP2 (.seq (.cond (.tmp 6) .skip (.exit 0)) (.block 1 (.seq rOP3 (.seq (.seq rOP4 (.cond (.tmp 10) rOP5 .skip)) rOP6))))
theorem info_q:∃ie,aK.info? 124=some ie/\ie.zero=some (.agg #[.int .i64 0,.int .i64 0,.chan none]):=by
 have h:(aK.info? 124).bind (·.zero)=some (.agg #[.int .i64 0,.int .i64 0,.chan none]):=aP;obtain⟨ie,h1,h2⟩:=Option.bind_eq_some_iff.1 h;exact⟨ie,h1,h2⟩
def ztU:aK.underlying 122=some (.chan .recv 124):=aP
def vr3 {S:aO->Prop}{R:Pr}{a b:Int}{x y:aF}(h:VR S K R x y):VR S K R (.agg #[.int .i64 a,.int .i64 b,x]) (.agg #[.int .i64 a,.int .i64 b,y]):=
 .agg' (((bO.empty.push (.int _ _)).push (.int _ _)).push h)
section
variable {Wg N:Nat}{W:List fC}{D:aE->Prop}{Fin:bF->aE->Prop}{St:Nat->Prop}{Q:Pr->Prop}{base:List dL}{gc c:Nat}
theorem op_loop {K0:Pr}(zq1:K0 gc c)(hQ:Up Q)(Qz:∀K T todo w,K0.le K->BO (fS Wg N W D Fin St K Q base .nil []) .oD ⟨56,T,todo,true⟩ w):
 ∀(m:Nat) (K:Pr) (w:aE) (call:Int) (u1 u3 u5 u6 u7 u8 u9 gS gC gD gE gH gG:aF),K0.le K->BO (fS Wg N W D Fin St K Q base .nil []) (.op c call m) ⟨56,#[.chan (some gc),u1,.int .i64 call,u3,.chan (some gc),u5,u6,u7,u8,u9,gS,gC,gD,gE,gH,gG],[.code zdN,.inLoop zdN,.inBlock 0],false⟩ w:=by
 have F:∀K,vZ (fS Wg N W D Fin St K Q base .nil []).P (fS Wg N W D Fin St K Q base .nil []).fs:=λK=>nO;have hI:∀K,fE (fS Wg N W D Fin St K Q base .nil []):=λK=>zeJ hQ rfl;obtain⟨ie,jK,hz⟩:=info_q;intro m
 induction m with
 |zero=>
  intro K w call u1 u3 u5 u6 u7 u8 u9 gS gC gD gE gH gG hL;have hK:K gc c:=hL _ _ zq1;unfold zdN;refine BO.seq (hI K) ?_;rw[ztO];refine BO.regs (hI K) _ zxu ?_;refine BO.recvK rfl (hI K) zrY rfl rfl ztU jK hz (λR=>vr3 (.chan .none)) rfl rfl hK Ja rfl (λv hv=>absurd hv.2 (Nat.lt_irrefl 0)) (λ_=>?_);simp only[b7,gF,dY,dX];refine BO.op (F K) (hI K) zkX rfl aP Ja (λT=>⟨.bool false,Tt.tp w T 0,.inl Qp,?_⟩);simp only[b7,gF,dY,dX];refine BO.regEnd (hI K) ?_;refine BO.seq (hI K) ?_;refine BO.cond (hI K) (t:=false) rfl rfl ?_;refine BO.exit (hI K) (k':=[]) rfl (BO.fall (hI K) (Qz K _ _ _ hL))
 |succ m ih=>
  intro K w call u1 u3 u5 u6 u7 u8 u9 gS gC gD gE gH gG hL;have hK:K gc c:=hL _ _ zq1;unfold zdN;refine BO.seq (hI K) ?_;rw[ztO];refine BO.regs (hI K) _ zxu ?_;refine BO.recvK rfl (hI K) zrY rfl rfl ztU jK hz (λR=>vr3 (.chan .none)) rfl rfl hK Ja rfl (λv hv=>?_) (λ_=>?_)
  .obtain⟨hs,_⟩:=hv
   obtain⟨⟨kd,cl,a⟩,hu⟩:=Option.isSome_iff_exists.1 hs;obtain rfl:=unQ_inv hu;refine⟨a,by show a∈O9 (quV kd cl a);simp[O9,zgJ],λK' ga w' hle zcM jU=>⟨.agg #[.int .i64 kd,.int .i64 cl,.chan (some ga)],λR=>vr3 (.chan (.some (.inr zcM))),?_⟩⟩;have sN:K' gc c:=hle _ _ hK;have zak:=wH hL hle;show BO (fS Wg N W D Fin St K' Q base .nil []) (Ra c call (m+1) (quV kd cl a)) _ w';simp only[Ra,zgJ,Nat.add_sub_cancel];simp only[b7,gF,dY,dX];refine BO.op (F K') (hI K') zkX rfl aP Ja (λT=>⟨.bool true,Tt.tp w' T 0,.inl Qp,?_⟩);simp only[b7,gF,dY,dX];refine BO.regEnd (hI K') ?_;refine BO.seq (hI K') ?_;refine BO.cond (hI K') (t:=true) rfl rfl ?_;refine BO.skip (hI K') ?_;refine BO.block (hI K') ?_;refine BO.seq (hI K') ?_;obtain⟨w1,eD⟩:=aT (Tt.tp w' T 0);rw[<-eD];clear eD;refine BO.pV (F K') (hI K') Yv (λw2 T1 eZ Q' dD=>?_);clear eZ;simp only[recvd,if_true];go_wp2;refine dD.o _ _ ?_;clear dD;obtain⟨gb,eU⟩:=aT w2.heap.size;obtain⟨w3,jB⟩:=aT (w2.alloc (.cells #[.int .i64 kd,.int .i64 cl,.chan (some ga)] 124));have kg:w3.heap[gb]? =some (.cells #[.int .i64 kd,.int .i64 cl,.chan (some ga)] 124):=by rw[jB,eU];exact gV _ _
   rw[<-eU,<-jB];clear jB eU;refine BO.seq (hI K') ?_;refine BO.seq (hI K') ?_;have k0:=aI kg 0;have k1:=aI kg 1;have k2:=aI kg 2;by_cases rJ:kd=1
   .refine BO.pV (F K') (hI K') Yv (λwt T1 cF Q' dD=>?_)
    subst cF;have zmr:(Tt.tp w3 T1 0).cell? ⟨gb,0,none⟩=some (.int .i64 kd):=k0;subst rJ;go_wp2;refine dD.o _ _ ?_;clear dD zmr;refine BO.cond (hI K') (t:=true) rfl rfl ?_;refine BO.pV (F K') (hI K') Yv (λwt T2 cF Q' dD=>?_);subst cF;have zAe:(Tt.tp (Tt.tp w3 T1 0) T2 0).cell? ⟨gb,1,none⟩=some (.int .i64 cl):=k1;go_wp2;refine dD.o _ _ ?_;clear dD zAe;rw[if_pos trivial];rw[zts];refine BO.regs (hI K') _ zs0 ?_;refine BO.op (F K') (hI K') zuH rfl aP Ja (λT3=>⟨.pointer (some ⟨gb,2,none⟩),_,.inl Qp,?_⟩);simp only[b7,gF,dY,dX];refine BO.op (F K') (hI K') zr2 rfl aP Ja (λT4=>⟨.chan (some ga),_,.inl (zaD (a:=⟨gb,2,none⟩) rfl rfl (zqn _) k2),?_⟩);simp only[b7,gF,dY,dX];refine BO.op (F K') (hI K') zxz rfl aP Ja (λT5=>⟨.int .i64 cl,_,.inl Qp,?_⟩);simp only[b7,gF,dY,dX];refine BO.send rfl (hI K') (l':=.op c cl m) zue rfl rfl rfl rfl zcM rfl (by intro s hs;cases hs) rfl (λR v' hv=>⟨by cases hv;rfl,rfl,rfl⟩) ?_;refine BO.regEnd (hI K') ?_;refine BO.inBlock (hI K') ?_;refine BO.inLoop (hI K') ?_;exact ih K' _ cl _ _ _ _ _ _ _ _ _ _ _ _ _ zak
   .refine BO.pV (F K') (hI K') Yv (λwt T1 cF Q' dD=>?_)
    subst cF;have zmr:(Tt.tp w3 T1 0).cell? ⟨gb,0,none⟩=some (.int .i64 kd):=k0;have qT:(kd==1)=false:=by simpa using rJ
    go_wp2;refine dD.o _ _ ?_;clear dD zmr;refine BO.cond (hI K') (t:=false) rfl (by first|rfl|(simp[wJ,rJ])) ?_;refine BO.skip (hI K') ?_;rw[if_neg rJ];rw[zts];refine BO.regs (hI K') _ zs0 ?_;refine BO.op (F K') (hI K') zuH rfl aP Ja (λT3=>⟨.pointer (some ⟨gb,2,none⟩),_,.inl Qp,?_⟩);simp only[b7,gF,dY,dX];refine BO.op (F K') (hI K') zr2 rfl aP Ja (λT4=>⟨.chan (some ga),_,.inl (zaD (a:=⟨gb,2,none⟩) rfl rfl (zqn _) k2),?_⟩);simp only[b7,gF,dY,dX];refine BO.op (F K') (hI K') zxz rfl aP Ja (λT5=>⟨.int .i64 call,_,.inl Qp,?_⟩);simp only[b7,gF,dY,dX];refine BO.send rfl (hI K') (l':=.op c call m) zue rfl rfl rfl rfl zcM rfl (by intro s hs;cases hs) rfl (λR v' hv=>⟨by cases hv;rfl,rfl,rfl⟩) ?_;refine BO.regEnd (hI K') ?_;refine BO.inBlock (hI K') ?_;refine BO.inLoop (hI K') ?_;exact ih K' _ call _ _ _ _ _ _ _ _ _ _ _ _ _ zak
  .simp only[b7,gF,dY,dX]
   refine BO.op (F K) (hI K) zkX rfl aP Ja (λT=>⟨.bool false,Tt.tp w T 0,.inl Qp,?_⟩);simp only[b7,gF,dY,dX];refine BO.regEnd (hI K) ?_;refine BO.seq (hI K) ?_;refine BO.cond (hI K) (t:=false) rfl rfl ?_;refine BO.exit (hI K) (k':=[]) rfl (BO.fall (hI K) (Qz K _ _ _ hL))
end
end Go.Proofs.YtfcjiloojkjaeaaGreatDoor
