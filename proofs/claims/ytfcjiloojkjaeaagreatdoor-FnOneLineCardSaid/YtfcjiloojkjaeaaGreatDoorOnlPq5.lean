/-
  Part 5 of what stands behind the last text.
-/
import Derived.Lib.Overlaps
import Derived.Lib.AppendZerosOnto
import Derived.Test.YtfcjiloojkjaeaaGreatDoorOnlPq4
set_option linter.all false
set_option maxHeartbeats 16000000
set_option maxRecDepth 100000
open Array renaming getD_eq_getD_getElem?→xE,getElem?_eq_none→My,getElem?_eq_some_iff→eE,getElem?_setIfInBounds_ne→rN,getElem?_toList→Cf,length_toList→Em,replicate→oC,size_append→Yx,toList_append→Sn
open Bool renaming and_eq_true→iY,false_eq_true→gK,or_eq_true→Di
open Go renaming Act→uB,Addr→bD,ChanDir→Mz,Code→wA,Exit→n6,Frame→dJ,FuncId→aN,Goroutine→bC,Item→dS,Oper→aZ,Operand→cI,Program→bT,Tape→lM,TypeId→aM,TypeInfo→xB,Value→aF,World→aE,execOp→aO,heap_alloc_new→gU,run_underlying→xJ,setRow_heap→Lf,setRow_other→zgV,size_zeroCells→Zp,undef→aA,yielded→dO
open Go.Act renaming eval→vT,mk→bJ,put→b7
open Go.Addr renaming add_lit→Kv
open Go.Builtin renaming copy_→Dh,firstCells→Uy,zeroCells→pU
open Go.Code renaming region→Ff
open Go.Conc renaming listed→wU,seen_none→Df,stepG_value→ziz
open Go.Deferred renaming ofValue→C0
open Go.Extern renaming find→zrE,findNext→zxX
open Go.Extern.SlicesOverlaps renaming overlaps→ziq
open Go.Instr renaming lookup→Ah,slice→V4,sliceAt→X9,sliceBound→L0,sliceBounds→Y4
open Go.Proofs.Tryz renaming checked→vN,f101→zpE,func101→zw6,func102→zot,func103→zqP,func104→zsZ,func111→zoQ,func120→ztx,func58→zlB,func81→zoY,func82→zvA,isAgg84→zpi,prog→aK,underlying38→Vs,underlying84→zxw
open Go.Region renaming binds→F5,ready→Hp,schedule→Sm,wanted→dG
open Go.Region.linearise renaming go→zf1
open Go.RowKit.Below renaming heap_setCell→dN,refl→fN
open Go.Value renaming bool→Ng,int→Lo,slice→Sv
open Go.World renaming frozen?→Il,setChan→Ke,setRow→zf2,shape?→zag,size_setCell→wL
open List renaming all_eq_true→uD,append_assoc→J0,drop_of_length_le→ztI,findIdx?_eq_some_iff_getElem→zmz,getD_cons_succ→Dp,getD_cons_zero→Dz,getD_eq_getElem?_getD→Vn,getElem?_append_left→Mo,getElem?_append_right→Pv,getElem?_drop→Xm,getElem?_eq_getElem→oX,getElem?_eq_none→zxr,getElem?_eq_some_iff→lR,getElem?_take→U3,getElem_mem→zrF,idxOf?→zv7,length_append→jP,length_drop→xY,length_take→sU,map_append→Sz,map_cons→jG,map_drop→zxn,map_nil→tK,map_take→zsD,map_toArray→uR,mem_append→C3,mem_cons→lO,mem_filter→L9,mem_of_getElem?→dZ,mem_of_mem_drop→zcO,mem_range→D4,mem_singleton→yT,not_mem_nil→nM,range→iX,replicate→ztZ,setIfInBounds_toArray→gC,set_cons_succ→dU,set_cons_zero→dV,takeWhile_cons→zoB,takeWhile_prefix→zsk,take_append_of_le_length→E5,take_of_length_le→Ee,take_take→P7
open Nat renaming add_sub_cancel_left→zqW,add_zero→S7,le_refl→bN,le_succ→zeC,le_trans→eM,lt_of_lt_of_le→jW,lt_or_ge→uE,lt_trichotomy→zrG,min→zat,min_eq_left→zqt,sub_self→zkI,zero_add→rH,zero_le→mP
open Option renaming bind_some→xS,getD_none→zrD,getD_some→Bp
open Option.some renaming inj→cJ
noncomputable section
namespace Go
theorem kG{P:Prop}(h:P:=by rw[hz];decide):P:=h
theorem zJ{P:Prop}(h:P:=by rw[lU.o];decide):P:=h
theorem Jw{P:Prop}(h:P:=by intro s hs;cases hs;exact nM):P:=h
theorem Pq{P:Prop}(h:P:=by first|rfl|(simp only[vT];rfl)):P:=h
theorem zgs{P:Prop}(h:P:=by show _<=((Tt.tp w' T 0).alloc _).heap.size;rw[rC];exact zeC _):P:=h
theorem O2{P:Prop}(h:P:=by unfold aO;go_simp;try rfl):P:=h
theorem zoE{P:Prop}(h:P:=by have:(bG xs).length=xs.length*2:=J6 bF.cells (s:=2) (λ_=>rfl) xs;omega):P:=h
theorem Wj{P:Prop}(h:P:=by rw[HF.o];decide):P:=h
theorem zvR{P:Prop}(h:P:=by intro s hs;cases hs;show(3:Nat)∉([0]:List Nat);decide):P:=h
theorem zsR{P:Prop}(h:P:=by rw[cK,show zat 1 (n+1-i)=1 from zqt (by omega)];rfl):P:=h
theorem zfT{P:Prop}(h:P:=by simp only[jP];omega):P:=h
theorem zo2{P:Prop}(h:P:=by have e:b=hb:=e;subst e;exact dZ (i:=0) rfl):P:=h
theorem zhG{P:Prop}(h:P:=by have:=H0.o;omega):P:=h
end Go
namespace Go.Mt
open Go.Conc Go.Tt
open Go.ConcR (KK wgBlock WgAt stA smA rd wr)
section
variable {L:Type}{C:Cx L}{l l':L}
def Cx.upK (C:Cx L)(K':Pr)(I':Pr->cC->aE->Prop):Cx L:={C with K:=K',I:=I'}
variable {m:Fm}{w:aE}
theorem BO.note (ha:C.alone=none){can:L->Prop}(qR:C.A.act l=.note can)(hc:can l')(h:BO C l' m w):BO C l m w:=by
 intro R W m' τ hw hm ht hi;have:=h R W m' τ hw hm ht hi;rw[Cx.B_none ha] at this⊢;refine b6.usr rfl ?_;unfold mR
 grind
variable {S:aN->Prop}{R:Pr}{St:Nat->Prop}
theorem cV.alR {K:Pr}{G:Gp}{W:aE}(h:cV S K R G St w W)(o:Obj):cV S K R G St w (W.alloc o):=by
 refine⟨h.inj,h.inj',λa b x=>⟨(h.lt a b x).1,by rw[rC];exact Nat.lt_succ_of_lt (h.lt a b x).2⟩,h.low,⟨h.gle.1,by rw[rC];exact Nat.le_succ_of_le h.gle.2⟩,λa b x=>?_,h.rest,h.st,h.np,h.tb⟩;obtain⟨o1,o2,h1,h2,h3⟩:=h.cont a b x;exact⟨o1,o2,h1,(C4 (h.lt a b (.inl x)).2).trans h2,h3⟩
variable {c:Nat}
theorem cV.setC {K:Pr}{G:Gp}{W:aE}(h:cV S K R G St w W)(hc:∀a,¬R a c)(cap:Nat)(K4:Array aF)(cl:Bool)(s r:Nat)(tm:Bool):cV S K R G St w (W.setChan c cap K4 cl s r tm):=by
 have cK:(W.setChan c cap K4 cl s r tm).heap.size=W.heap.size:=by simp[Ke]
 refine⟨h.inj,h.inj',λa b x=>⟨(h.lt a b x).1,by rw[cK];exact(h.lt a b x).2⟩,h.low,⟨h.gle.1,by rw[cK];exact h.gle.2⟩,λa b x=>?_,h.rest,h.st,h.np,h.tb⟩;obtain⟨o1,o2,h1,h2,h3⟩:=h.cont a b x;refine⟨o1,o2,h1,?_,h3⟩;have aS:c≠b:=λe=>hc a (e▸x);simp only[Ke,rN aS];exact h2
def FmW.upK {m':Fm}(h:FmW C R m m'){K':Pr}(hK:C.K.le K')(I':Pr->cC->aE->Prop):FmW (C.upK K' I') R m m':=⟨h.fn,h.todo,h.ret,bL.monoK hK h.tmps,h.pins⟩
variable {fn:aN}{tmps:Array aF}{ops:Array aZ}{i:Nat}{rest:List Nat}{k:List dS}{o:aZ}{e:aM}{dir:Mz}{ie:xB}{I':Nat->Pr->cC->aE->Prop}
theorem BO.makeK (hI:eZ C){t:aM}(ho:ops[i]? =some o)(b9:dG o (dO ops tmps)=true)
 (hop:o.op=.makeChan t (.const (.int .i64 0))) (zfF:C.p.underlying t=some (.chan dir e)) (jS:C.p.info? e=some ie) (kU:∀s,o.dst=some s->s∉C.S) 
 (zkN:∀R τ W,C.I R τ W->vM τ R C.St->(∀a b,R a b->b<W.heap.size)->I' W.heap.size R (τ.grow W (W.alloc (.chan 0 #[] false 0 0 false))) (W.alloc (.chan 0 #[] false 0 0 false)))
 (h:∀c,BO (C.upK (C.K.add w.heap.size c) (I' c)) l ⟨fn,(b7 ⟨tmps,[]⟩ o.dst (.chan (some w.heap.size))).tmps,.inRegion ops rest::k,false⟩ (w.alloc o6)):BO C l ⟨fn,tmps,.inRegion ops (i::rest)::k,false⟩ w:=by
 intro R W m' τ hw hm ht hi;obtain⟨fn',bS,y9,zI⟩:=m';obtain rfl:=hm.fn;obtain rfl:=hm.todo;obtain rfl:=hm.ret;have hb:(C.ds.base fn).kind≠ .early:=C.ds.ok;have uM:=J2 (C:=C) hm.tmps b9;rw[mX];refine Cx.ownQ rfl λaY s=>?_;have dI:C.Rel R w aY:=Cx.Rel.suf (C:=C) hw ht s;have y7:=hI.suf _ _ _ _ hi s;have e1:(aO (bJ bS C.ds.ds).eval o).run C.p aY=.ok (.value (.chan (some aY.heap.size))) (aY.alloc (.chan 0 #[] false 0 0 false))/\(aO (bJ bS C.ds.ds).eval o).events C.p aY #[]=#[]:=by
  obtain⟨dst,y5,type,pos,after,guard⟩:=o;simp only at hop;subst hop;have hm:(Instr.makeChan t (.int .i64 0)).run C.p aY=_:=run_makeChan (P:=C.p) (w:=aY) zfF jS .i64 0 aC aC;have hv:=events_makeChan (P:=C.p) (w:=aY) zfF jS .i64 0 aC aC #[];exact⟨run_bv hm,ev_bv hm hv⟩
 have aX:=ziz (main:=C.main) (rest:=rest) (k:=k) (cs:=C.base) ho uM hb e1.1;unfold wU at aX;rw[e1.2,Df] at aX;refine⟨_,aY.alloc (.chan 0 #[] false 0 0 false),_,aX,rfl,⟨rfl,rfl,rfl,by rw[rC];omega,λb hb _=>C4 hb⟩,λe he=>by simp at he,?_⟩;have Gk:b7 ⟨bS,C.ds.ds⟩ o.dst (.chan (some aY.heap.size))=⟨(b7 ⟨bS,C.ds.ds⟩ o.dst (.chan (some aY.heap.size))).tmps,C.ds.ds⟩:=by cases o.dst<;>rfl
 rw[Gk,<-mX];have aU:∀a b,R.or C.K a b->b<aY.heap.size:=λa b x=>(dI.lt a b x).2;have eT:cV (SF C.fs) (C.K.add w.heap.size aY.heap.size) R (pE C.p) C.St (w.alloc o6) (aY.alloc (.chan 0 #[] false 0 0 false)):=cV.pushK (cV.alR dI _) (by rw[rC];omega) λa x=>by grind
 refine h aY.heap.size R _ ⟨fn,_,_,false⟩ _ eT ⟨rfl,rfl,rfl,Is (C:=C.upK _ (I' aY.heap.size)) (bL.monoK (Pr.le_add _ _ _) hm.tmps) (.chan (.some (.inr (.inr ⟨rfl,rfl⟩)))),Jj (C:=C) hm.pins kU⟩ (λa b x=>⟨(ht a b x).1,λz=>.inl ((ht a b x).2 z)⟩) (zkN R τ aY y7 ht λa b x=>aU a b (.inl x))
def cC.cut (τ:cC)(ps:List Nat):cC:={τ with own:=λb=>τ.own b/\b∉ps}
variable {I':Pr->cC->aE->Prop}{x:cI}{g:Nat}{okv:aF->Prop}{pub:aF->List Nat}
theorem BO.sendP (ha:C.alone=none)(hI:eZ C){y:cI}{nx:aF->L}{ps:List Nat}
 (ho:ops[i]? =some o) (b9:dG o (dO ops tmps)=true) (hop:o.op=.send x y)
 (rM:dP C.fs x=true) (hx:(bJ tmps []).eval x=.chan (some g)) (hK:C.K g c) (Eo:dP C.fs y=true) (kU:∀s,o.dst=some s->s∉C.S) (qR:C.A.act l=.send c okv pub nx)
 (hv:∀R W v',C.Rel R w W->VR (SF C.fs) C.K R ((bJ tmps []).eval y) v'->okv v'/\pub v'=ps/\nx v'=l') 
 (qC:∀R τ W,C.I R τ W->(∀a∈ps,τ.own a/\¬τ.still a/\Jz W a/\∀b,¬R b a)/\I' R (τ.cut ps) W)
 (h1:BO (C.upK C.K I') l' ⟨fn,(b7 ⟨tmps,[]⟩ o.dst aA).tmps,.inRegion ops rest::k,false⟩ w):BO C l ⟨fn,tmps,.inRegion ops (i::rest)::k,false⟩ w:=by
 intro R W m' τ hw hm ht hi;obtain⟨fn',bS,y9,zI⟩:=m';obtain rfl:=hm.fn;obtain rfl:=hm.todo;obtain rfl:=hm.ret;have l9:(bJ bS C.ds.ds).eval x=.chan (some c):=Zd hw hK (hx▸Gx (C:=C) hm.tmps rM);have uM:=J2 (C:=C) hm.tmps b9;have hb:(C.ds.base fn).kind≠ .early:=C.ds.ok;obtain⟨k1,k2,k3⟩:=hv R W _ hw (Gx (C:=C) (d:=C.ds.ds) hm.tmps Eo);obtain⟨p1,p2⟩:=qC R τ W hi;rw[mX,Cx.B_none ha];refine b6.usr rfl ?_;unfold mR;rw[qR];refine⟨rfl,_,.tuple #[],τ.cut ps,λaJ s=>?_,k1,λb h=>h.1,rfl,λb h=>.inl h,(λa ha=>?_),?_⟩
 .obtain⟨e1,e2⟩:=zsA (p:=C.p) (ρ:=(bJ bS C.ds.ds).eval) hop l9 rfl aJ
  rw[stepG_comm ho uM hb e1];unfold wU;rw[e2,Df]
 .rw[k2] at ha
  obtain⟨q1,q2,q3,_⟩:=p1 a ha;exact⟨q1,λe=>e.2 ha,q2,q3⟩
 .rw[k3,zbX ho]
  rw[<-Cx.B_none ha];refine h1 R W _ (τ.cut ps) hw ⟨rfl,rfl,rfl,Is (C:=C) hm.tmps yS,Jj (C:=C) hm.pins kU⟩ (λa b x=>⟨(ht a b x).1,λz=>⟨(ht a b x).2 z,λhb=>(p1 b hb).2.2.2 a x⟩⟩) p2
theorem BO.recvK (ha:C.alone=none)(hI:eZ C){ct:aM}{ok:Bool}{z:aF}{nx:aF->L}{sh:L}
 (ho:ops[i]? =some o) (b9:dG o (dO ops tmps)=true) (hop:o.op=.recv ct x ok) (Er:C.p.underlying ct=some (.chan dir e)) (jS:C.p.info? e=some ie) (hz:ie.zero=some z) (znv:∀R,VR (SF C.fs) C.K R z z)
 (rM:dP C.fs x=true) (hx:(bJ tmps []).eval x=.chan (some g)) (hK:C.K g c) (kU:∀s,o.dst=some s->s∉C.S) (qR:C.A.act l=.recv c okv nx sh)
 (h1:∀v,okv v->∃a,a∈C.A.got l v/\∀K' ga w',C.K.le K'->K' ga a->(w'=w\/w'=w.alloc o6)->∃vg,(∀R,VR (SF C.fs) K' R vg v)/\BO (C.upK K' C.I) (nx v) ⟨fn,(b7 ⟨tmps,[]⟩ o.dst (recvd ok vg true)).tmps,.inRegion ops rest::k,false⟩ w')
 (h2:C.A.cl l->BO C sh ⟨fn,(b7 ⟨tmps,[]⟩ o.dst (recvd ok z false)).tmps,.inRegion ops rest::k,false⟩ w):BO C l ⟨fn,tmps,.inRegion ops (i::rest)::k,false⟩ w:=by
 intro R W m' τ hw hm ht hi;obtain⟨fn',bS,y9,zI⟩:=m';obtain rfl:=hm.fn;obtain rfl:=hm.todo;obtain rfl:=hm.ret;have l9:(bJ bS C.ds.ds).eval x=.chan (some c):=Zd hw hK (hx▸Gx (C:=C) hm.tmps rM);have uM:=J2 (C:=C) hm.tmps b9;have hb:(C.ds.base fn).kind≠ .early:=C.ds.ok;have zb6:∀K' vg v' b,VR (SF C.fs) K' R vg v'->VR (SF C.fs) K' R (recvd ok vg b) (recvd ok v' b):=λK' vg v' b h=>by
  unfold recvd
  cases ok with
  |false=>exact h
  |true=>
   simp only[if_true];exact VR.tuple' (by
    have:=bL.empty (S:=SF C.fs) (K:=K') (R:=R);exact(this.push h).push (.bool b))
 rw[mX,Cx.B_none ha];refine b6.usr rfl ?_;unfold mR;rw[qR];refine⟨rfl,z,ok,λaJ s=>?_,λv hv aJ s hg=>?_,λlE=>?_⟩
 .obtain⟨e1,e2⟩:=zvV (p:=C.p) (ρ:=(bJ bS C.ds.ds).eval) hop Er jS hz l9 aJ
  rw[stepG_comm ho uM hb e1];unfold wU;rw[e2,Df]
 .obtain⟨a,zAQ,hB⟩:=h1 v hv
  obtain⟨a1,a2,a3⟩:=hg a zAQ;have dI:C.Rel R w aJ:=Cx.Rel.suf (C:=C) hw ht s;have y7:=hI.suf _ _ _ _ hi s;have go:∀K' ga w',C.K.le K'->K' ga a->(w'=w\/w'=w.alloc o6)->cV (SF C.fs) K' R (pE C.p) C.St w' aJ->b6 C.p C.ty C.Wg C.A C.Fin C.main (.usr (nx v)) 0 τ (Conc.served (G ((C.ds.base fn).at ⟨bS,C.ds.ds⟩ (.inRegion ops (i::rest)::k)) C.base) (recvd ok v true)) aJ:=λK' ga w' hle zcI jI hr=>by
   obtain⟨vg,zje,zAY⟩:=hB K' ga w' hle zcI jI;rw[zbX ho,<-Cx.B_none ha];exact zAY R aJ _ τ hr ⟨rfl,rfl,rfl,Is (C:=C.upK K' C.I) (bL.monoK hle hm.tmps) (zb6 K' _ _ _ (zje R)),Jj (C:=C) hm.pins kU⟩ ht y7
  have hR:∀b,¬R b a:=λb x=>by
   by_cases hs:C.St b
   .exact a3 ((ht b a x).1 hs)
   .exact a2 ((ht b a x).2 hs)
  by_cases hk:∃b,C.K b a
  .obtain⟨b,bZ⟩:=hk
   exact go C.K b w (λ_ _ x=>x) bZ (.inl rfl) dI
  .exact go (C.K.add w.heap.size a) w.heap.size (w.alloc o6) (Pr.le_add _ _ _) (.inr ⟨rfl,rfl⟩) (.inr rfl) (cV.pushK dI a1 λb x=>x.elim (hR b) λy=>hk ⟨b,y⟩)
 .rw[zbX ho,<-Cx.B_none ha]
  exact h2 lE R W _ τ hw ⟨rfl,rfl,rfl,Is (C:=C) hm.tmps (zb6 _ _ _ _ (znv R)),Jj (C:=C) hm.pins kU⟩ ht hi
theorem BO.close (ha:C.alone=none)(hI:eZ C){tx:Tmp}{kY:Array aM}{nx:L}{fnf:Func}
 (ho:ops[i]? =some o) (b9:dG o (dO ops tmps)=true) (hop:o.op=.call {callee:=.builtin .close,args:=#[.tmp tx],argTypes:=kY}) (hx:(bJ tmps []).eval (.tmp tx)=.chan (some g)) (hK:C.K g c) (kU:∀s,o.dst=some s->s∉C.S) (qR:C.A.act l=.close c nx)
 (hf:C.p.funcs[fn]? =some fnf) (Dv:fnf.norace=false)
 (hp:∀R τ W,C.I R τ W->τ.pass c/\¬τ.own c/\¬τ.still c/\∀s r,C.I R τ (W.setChan c 0 #[] true s r false))
 (h1:BO C nx ⟨fn,(b7 ⟨tmps,[]⟩ o.dst (.tuple #[])).tmps,.inRegion ops rest::k,false⟩ w):BO C l ⟨fn,tmps,.inRegion ops (i::rest)::k,false⟩ w:=by
 intro R W m' τ hw hm ht hi;obtain⟨fn',bS,y9,zI⟩:=m';obtain rfl:=hm.fn;obtain rfl:=hm.todo;obtain rfl:=hm.ret;have l9:(bJ bS C.ds.ds).eval (.tmp tx)=.chan (some c):=Zd hw hK (hx▸Gx (C:=C) (x:=.tmp tx) hm.tmps rfl);have vS:bS[tx]?.getD aA=.chan (some c):=by simpa[vT] using l9
 have uM:=J2 (C:=C) hm.tmps b9;have hb:(C.ds.base fn).kind≠ .early:=C.ds.ok;obtain⟨p1,p2,p3,_⟩:=hp R τ W hi;rw[mX,Cx.B_none ha];refine b6.usr rfl ?_;unfold mR;rw[qR];refine⟨?_,p1,λaJ s s' r' hc=>?_⟩
 .obtain⟨dst,y5,type,pos,after,guard⟩:=o
  simp only at hop;subst hop;simp[mayWake,G,dJ.at,bC.frame,ho,Dk.base]
 .have e1:(aO (bJ bS C.ds.ds).eval o).run C.p aJ=.ok (.value (.tuple #[])) (aJ.setChan c 0 #[] true s' r' false)/\(aO (bJ bS C.ds.ds).eval o).events C.p aJ #[]=closeEvents c:=by
   obtain⟨dst,y5,type,pos,after,guard⟩:=o;simp only at hop;subst hop;constructor
   .simp[aO,go_sem,resolve,vS,invoke,run_close_open _ _ hc,Ke]
   .simp[aO,go_sem,resolve,vS,invoke,events_close_open _ _ hc,closeEvents]
  have aX:=ziz (main:=C.main) (rest:=rest) (k:=k) (cs:=C.base) ho uM hb e1.1;have hl:wU C.p (C.ds.base fn).fn ⟨bS,C.ds.ds⟩ o aJ=closeEvents c:=by
   unfold wU;rw[e1.2];refine seen_eq ?_ ?_
   .show(C.p.funcs[fn]?).any (·.norace)=false
    rw[hf];simp[Dv]
   .intro e he f
    simp only[closeEvents,List.mem_toArray,lO,nM,or_false] at he
    grind
  rw[hl] at aX;refine⟨_,aX,rfl,?_⟩;have dI:C.Rel R w aJ:=Cx.Rel.suf (C:=C) hw ht s;have y7:=hI.suf _ _ _ _ hi s;have hR:∀b,¬R b c:=λb x=>by
   by_cases hs:C.St b
   .exact p3 ((ht b c x).1 hs)
   .exact p2 ((ht b c x).2 hs)
  have Gk:b7 ⟨bS,C.ds.ds⟩ o.dst (.tuple #[])=⟨(b7 ⟨bS,C.ds.ds⟩ o.dst (.tuple #[])).tmps,C.ds.ds⟩:=by cases o.dst<;>rfl
  rw[Gk,<-mX,<-Cx.B_none ha];exact h1 R _ ⟨fn,_,_,false⟩ τ (cV.setC dI hR _ _ _ _ _ _) ⟨rfl,rfl,rfl,Is (C:=C) hm.tmps (VR.tuple' .empty),Jj (C:=C) hm.pins kU⟩ ht ((hp R τ aJ y7).2.2.2 s' r')
end
end Go.Mt
namespace Go.Mt
open Go.Conc Go.Tt Go.RowKit Go.Conc.Lib Go.ConcR.Gen
open Go.ConcR (KK wgBlock WgAt stA smA rd wr mk Payload DC0)
structure IQ (W0:aE)(St:Nat->Prop)(Shun:Loc->Prop)(Wg:Nat)(SS:Nat->Prop)(R0:Pr)(Fz:Nat->Prop)(Wf:aE)(qs chs:List Nat)(R:Pr)(τ:cC)(W:aE):Prop where
 x:IM2 W0 St Shun Wg SS R0 Fz Wf chs R τ W
 pass:∀c∈qs,τ.pass c/\¬τ.own c/\¬τ.still c/\c<W.heap.size/\c≠Wg
section
variable {W0:aE}{St:Nat->Prop}{Shun:Loc->Prop}{Wg:Nat}{SS:Nat->Prop}{R0:Pr}{Fz:Nat->Prop}{Wf:aE}{qs chs:List Nat}
theorem zeJ {ty:aM}(vG:∀b,b<W0.heap.size->SS b)(hF:∀b,Fz b->SS b)(o8:W0.heap.size<=Wg):IX ty Wg (IQ W0 St Shun Wg SS R0 Fz Wf qs chs):=by
 have hx:=zxH (ty:=ty) (St:=St) (Shun:=Shun) (Wg:=Wg) (R0:=R0) (Wf:=Wf) (chs:=chs) (Fz:=Fz) vG hF o8;refine⟨λR τ W aY h s=>⟨hx.suf _ _ _ _ h.x s,λc hc=>?_⟩,λR τ W a v h ha=>⟨hx.cell _ _ _ _ _ h.x ha,λc hc=>?_⟩,λR τ W d h=>⟨hx.at_ _ _ _ d h.x,h.pass⟩,λR τ W h=>h.x.x.im.rel⟩
 .obtain⟨h1,h2,h3,h4,h5⟩:=h.pass c hc
  exact⟨h1,h2,h3,jW h4 s.size,h5⟩
 .obtain⟨h1,h2,h3,h4,h5⟩:=h.pass c hc
  simp_all
variable {L:Type}{C:Cx L}
theorem zj9 (hC:C.I=zD C.ty C.Wg (IQ W0 St Shun C.Wg SS R0 Fz Wf qs chs))(aX:∀a,St a->C.St a)(vG:∀b,b<W0.heap.size->SS b)(hF:∀b,Fz b->SS b)(o8:W0.heap.size<=C.Wg):eZ C:=by
 have h0:=im2_ok (C:={C with I:=zD C.ty C.Wg (IM2 W0 St Shun C.Wg SS R0 Fz Wf chs)}) rfl aX vG hF o8;have hx:=zeJ (ty:=C.ty) (St:=St) (Shun:=Shun) (R0:=R0) (Fz:=Fz) (Wf:=Wf) (qs:=qs) (chs:=chs) vG hF o8;refine⟨λR τ W aY h s=>?_,λR τ W R1 W1 h ht hs=>?_⟩<;>rw[hC] at*
 .exact⟨hx.suf _ _ _ _ h.1 s,s.live h.2⟩
 .obtain⟨k1,k2⟩:=h0.step R τ W R1 W1 ⟨h.1.x,h.2⟩ ht hs
  refine⟨⟨k1,λc hc=>?_⟩,k2⟩;obtain⟨h1,h2,h3,h4,h5⟩:=h.1.pass c hc;exact⟨h1,λe=>e.elim h2 λy=>by omega,h3,jW h4 hs.size,h5⟩
variable {R:Pr}{τ:cC}{W:aE}
theorem zss (h:IQ W0 St Shun Wg SS R0 Fz Wf qs chs R τ W)(aU:∀a b,R a b->b<W.heap.size):
 IQ W0 St Shun Wg SS R0 Fz Wf qs (W.heap.size::chs) R (τ.grow W (W.alloc (.chan 0 #[] false 0 0 false))) (W.alloc (.chan 0 #[] false 0 0 false)):=by
 have sz:(W.alloc (.chan 0 #[] false 0 0 false)).heap.size=W.heap.size+1:=rC _ _;have zAE:=h.x.x.im.wg;refine⟨⟨⟨⟨⟨h.x.x.im.kp.os,h.x.x.im.kp.tape,h.x.x.im.kp.output,by rw[sz];have:=h.x.x.im.kp.size;omega,λb hb=>(C4 (by have:=h.x.x.im.kp.size;omega)).trans (h.x.x.im.kp.block b hb),h.x.x.im.kp.old⟩,⟨h.x.x.im.sh.old,h.x.x.im.sh.rel,λl b hl hb=>h.x.x.im.sh.new l b hl (by rw[sz] at hb;omega)⟩,h.x.x.im.still,by rw[sz];omega,λb hb=>?_,h.x.x.im.rel⟩,h.x.x.le,λb hb=>by
  obtain⟨l1,l2,l3,l4⟩:=h.x.x.fz b hb;exact⟨by rw[sz];omega,(C4 l1).trans l2,λe=>e.elim l3 λy=>by omega,l4⟩⟩,λb hb hs=>?_,λb hb=>by have:=h.x.slt b hb;rw[sz];omega,λc hc=>?_⟩,λc hc=>?_⟩
 .rcases hb with hb|⟨hb,_⟩
  .exact h.x.x.im.own b hb
  .omega
 .rcases hb with hb|⟨hb,_⟩
  .exact h.x.dis b hb hs
  .have:=h.x.slt b hs;omega
 .rcases lO.1 hc with rfl|hc
  .exact⟨.inr ⟨bN _,by rw[sz];omega⟩,De _ _,λa x=>by grind⟩
  .obtain⟨h1,h2,h3⟩:=h.x.ch c hc
   exact⟨.inl h1,(C4 h2.lt).trans h2,h3⟩
 .obtain⟨h1,h2,h3,h4,h5⟩:=h.pass c hc
  exact⟨h1,λe=>e.elim h2 λy=>by omega,h3,by rw[sz];omega,h5⟩
theorem iq_cut {c:Nat}(h:IQ W0 St Shun Wg SS R0 Fz Wf qs [c] R τ W):(∀a∈[c],τ.own a/\¬τ.still a/\Jz W a/\∀b,¬R b a)/\IQ W0 St Shun Wg SS R0 Fz Wf qs [] R (τ.cut [c]) W:=by
 refine⟨λa ha=>?_,⟨⟨⟨⟨h.x.x.im.kp,h.x.x.im.sh,h.x.x.im.still,h.x.x.im.wg,λb hb=>h.x.x.im.own b hb.1,h.x.x.im.rel⟩,h.x.x.le,λb hb=>let⟨l1,l2,l3,l4⟩:=h.x.x.fz b hb;⟨l1,l2,λe=>l3 e.1,l4⟩⟩,λb hb hs=>h.x.dis b hb.1 hs,h.x.slt,λc hc=>by cases hc⟩,λc hc=>?_⟩⟩
 .obtain⟨h1,h2,h3⟩:=h.x.ch a ha
  exact⟨h1,λhs=>h.x.dis a h1 hs,h2,h3⟩
 .obtain⟨h1,h2,h3⟩:=h.pass c hc
  exact⟨h1,λe=>h2 e.1,h3⟩
theorem zzt (h:IQ W0 St Shun Wg SS R0 Fz Wf qs chs R τ W){c:Nat}(hc:c∈qs)(s r:Nat)(aX:∀b,b<W0.heap.size->SS b)(hF:∀b,Fz b->SS b):IQ W0 St Shun Wg SS R0 Fz Wf qs chs R τ (W.setChan c 0 #[] true s r false):=by
 have sz:(W.setChan c 0 #[] true s r false).heap.size=W.heap.size:=by simp[Ke]
 have ne:∀b,b≠c->(W.setChan c 0 #[] true s r false).heap[b]? =W.heap[b]? :=λb hb=>by simp only[Ke];grind
 obtain⟨p1,p2,p3,p4,p5⟩:=h.pass c hc;refine⟨⟨⟨⟨⟨h.x.x.im.kp.os,h.x.x.im.kp.tape,h.x.x.im.kp.output,by rw[sz];exact h.x.x.im.kp.size,λb hb=>(ne b λe=>?_).trans (h.x.x.im.kp.block b hb),h.x.x.im.kp.old⟩,⟨h.x.x.im.sh.old,h.x.x.im.sh.rel,λl b hl hb=>h.x.x.im.sh.new l b hl (by rw[sz] at hb;exact hb)⟩,h.x.x.im.still,by rw[sz];exact h.x.x.im.wg,h.x.x.im.own,h.x.x.im.rel⟩,h.x.x.le,λb hb=>by
  obtain⟨l1,l2,l3,l4⟩:=h.x.x.fz b hb;refine⟨by rw[sz];exact l1,(ne b λe=>?_).trans l2,l3,l4⟩;subst e;exact p3 (by rw[h.x.x.im.still];exact hF b hb)⟩,h.x.dis,λb hb=>by rw[sz];exact h.x.slt b hb,λa ha=>?_⟩,λa ha=>by rw[sz];exact h.pass a ha⟩
 .subst e
  exact p3 (by rw[h.x.x.im.still];exact aX b hb)
 .obtain⟨h1,h2,h3⟩:=h.x.ch a ha
  exact⟨h1,(ne a λe=>p2 (e▸h1)).trans h2,h3⟩
def Lz (τ:cC)(R:Pr)(X:Nat->Bool)(N:Nat)(qs:List Nat):cC:=⟨λb=>τ.own b/\b≠N/\¬∃a,R a b/\X a=true,λb=>τ.still b\/∃a,R a b/\X a=true,λb=>b∈qs++[N]⟩
def Yi (τ:cC)(R:Pr)(X:Nat->Bool):cC:=⟨λ_=>False,λb=>τ.still b\/∃a,R a b/\X a=true,λ_=>False⟩
variable {S:aN->Prop}{K:Pr}{G:Gp}{eI:Nat->Prop}{w:aE}{X:Nat->Bool}{N:Nat}
theorem parts_q (hT:vM τ R eI)(h:IQ W0 St Shun Wg SS R0 Fz Wf qs [N] R τ W):zmJ τ (Lz τ R X N qs) (Yi τ R X) [N] W:=by
 have hx:∀b,(∃a,R a b/\X a=true)->τ.still b\/τ.own b:=λb ⟨a,h,_⟩=>by
  by_cases hs:eI a
  .exact .inl ((hT a b h).1 hs)
  .exact .inr ((hT a b h).2 hs)
 obtain⟨n1,n2,n3⟩:=h.x.ch N (yT.2 rfl);refine⟨λb hb=>?_,λb hb=>?_,λb hb=>?_,λb hb=>⟨id,?_,id⟩,λb hb=>hb.elim,λa ha=>?_⟩
 .rcases hb with hb|hb
  .exact hb.1
  .exact hb.elim
 .rcases hb with(hb|hb)|hb|hb
  .exact .inl hb
  .exact hx b hb
  .exact .inl hb
  .exact hx b hb
 .rcases hb with hb|hb
  .rcases C3.1 hb with hb|hb
   .exact .inl (h.pass b hb).1
   simp_all
  .exact hb.elim
 .rintro(hs|hs)
  .exact h.x.dis b hb.1 hs
  .exact hb.2.2 hs
 .obtain rfl:=yT.1 ha
  refine⟨n1,n2,λh=>h.2.1 rfl,?_,id,?_⟩
  .rintro(hs|⟨g,hg,_⟩)
   .exact h.x.dis a n1 hs
   .exact n3 g hg
  .rintro(hs|⟨g,hg,_⟩)
   .exact h.x.dis a n1 hs
   .exact n3 g hg
theorem zBl (hw:cV S K R G eI w W)(hT:vM τ R eI)(hN:∀a,¬R a N):vM (Lz τ R X N qs) R (λa=>eI a\/X a=true):=λa b x=>by
 refine⟨λh=>?_,λh=>?_⟩
 .rcases h with h|h
  .exact .inl ((hT a b x).1 h)
  .exact .inr ⟨a,x,h⟩
 .refine⟨(hT a b x).2 λhs=>h (.inl hs),λe=>hN a (e▸x),?_⟩
  rintro⟨a',x',h'⟩;obtain rfl:=hw.inj' a a' b (.inl x) (.inl x');exact h (.inr h')
def zBx:vM (Yi τ R X) (rX R X) (λa=>X a=true):=λa b x=>⟨λh=>.inr ⟨a,x.1,x.2⟩,λh=>absurd x.2 h⟩
theorem iq_qm (hw:cV S K R G eI w W)(hT:vM τ R eI)(h:IQ W0 St Shun Wg SS R0 Fz Wf qs [N] R τ W):IQ W0 St Shun Wg (Lz τ R X N qs).still R (H8 R eI X) W (qs++[N]) [] R (Lz τ R X N qs) W:=by
 obtain⟨n1,n2,n3⟩:=h.x.ch N (yT.2 rfl);have hx:∀b,(∃a,R a b/\X a=true)->∀c∈qs,b≠c:=λb ⟨a,h',_⟩ c hc e=>by
  subst e;obtain⟨_,p2,p3,_⟩:=h.pass b hc;by_cases hs:eI a
  .exact p3 ((hT a b h').1 hs)
  .exact p2 ((hT a b h').2 hs)
 refine⟨⟨⟨⟨h.x.x.im.kp,h.x.x.im.sh,rfl,h.x.x.im.wg,λb hb=>h.x.x.im.own b hb.1,h.x.x.im.rel⟩,.refl R,λb hb=>by
  obtain⟨a,x,hh⟩:=hb;refine⟨(hw.lt a b (.inl x)).2,rfl,λho=>?_,h.x.x.im.rel a b x⟩;rcases hh with hh|hh
  .exact h.x.dis b ho.1 ((hT a b x).1 hh)
  .exact ho.2.2 ⟨a,x,hh⟩⟩,λb hb hs=>?_,λb hb=>?_,λc hc=>by cases hc⟩,λc hc=>?_⟩
 .rcases hs with hs|hs
  .exact h.x.dis b hb.1 hs
  .exact hb.2.2 hs
 .rcases hb with hb|⟨a,x,_⟩
  .exact h.x.slt b hb
  .exact(hw.lt a b (.inl x)).2
 .refine⟨hc,?_⟩
  rcases C3.1 hc with lG|lG
  .obtain⟨_,p2,p3,p4,p5⟩:=h.pass c lG
   exact⟨λe=>p2 e.1,λe=>e.elim p3 λy=>hx c y c lG rfl,p4,p5⟩
  .obtain rfl:=yT.1 lG
   refine⟨λe=>e.2.1 rfl,?_,n2.lt,h.x.x.im.own c n1⟩;rintro(hs|⟨g,hg,_⟩)
   .exact h.x.dis c n1 hs
   .exact n3 g hg
def tauWm (τ:cC):cC:=⟨λ_=>False,τ.still,λ_=>False⟩
theorem parts_w (h:IQ W0 St Shun Wg SS R0 Fz Wf qs [] R τ W):zmJ τ (tauWm τ) τ [] W:=
 ⟨λb hb=>hb.elim (λx=>x.elim) id,λb hb=>.inl (hb.elim id id),λb hb=>hb.elim (λx=>x.elim) .inl,λb hb=>hb.elim,λb hb=>⟨λhs=>h.x.dis b hb hs,id⟩,λa ha=>by cases ha⟩
end
section
variable [Payload]{Lk:WgLink}
variable {L:Type}{C:Cx L}{l:L}{I0:Pr->cC->aE->Prop}
theorem BO.doneD (H:WgLib C.p Lk)(ha:C.alone=none)(zdw:C.main=false)(B8:C.ty=Lk.tWg)(zhi:C.I=zD Lk.tWg C.Wg I0)(hX:IX Lk.tWg C.Wg I0)(zGj:C.ds=⟨[dcall Lk.done #[.pointer (some ⟨C.Wg,0,none⟩)]],.deferred,aQ⟩)(rY:C.base=[wG C.p])
 {f:aN} {fn:Func} (hf:C.p.funcs[f]? =some fn) (hr:fn.results=#[]) (qR:C.A.act l=.done) {T:Array aF} {todo:List dS} {w:aE} (tU:∀R τ W,C.Rel R w W->I0 R τ W->C.A.dep l W):BO C l ⟨f,T,todo,true⟩ w:=by
 intro R W m' τ hw hm ht hi;obtain⟨fn',T',y9,zI⟩:=m';obtain rfl:=hm.fn;obtain rfl:=hm.todo;obtain rfl:=hm.ret;rw[zhi] at hi;have kf:=zuX (C:=C) (w:=w) B8 hX ht;rw[zmc,Cx.B_none ha,zdw,B8,zGj,rY];refine Nk rfl rfl (λaY s=>stepG_unwind_enter rfl H.f_done (nm_done Lk) rfl) λaY s=>?_;exact doneW (F:=λW=>C.Rel R w W/\I0 R τ W) (Fin:=C.Fin) H qR kf (λW' h=>tU R τ W' h.1 h.2) (c:={(baseD f).at ⟨T',[]⟩ todo with mode:=.returning}) (cs:=[wG C.p]) rfl (zCE hf hr T' todo) aY ⟨kf.suf _ _ s ⟨hw,hi.1⟩,s.live hi.2⟩
end
variable [Payload]{Lk:WgLink}
section
variable {L:Type}{p:bT}{A:jL L}{Fin:bC->aE->Prop}{Wg:Nat}{l:L}
theorem zCg (H:WgLib p Lk)(qR:A.act l=.wait)(Nh:∀(n:Nat) g w,Goes p true AtRel DC0 Fin n g w->Fin g w){fn:aN}{T:Array aF}{zEh ops:Array aZ}{id s:Nat}{o:aZ}{kY:Array aM}{tail:Code}{base:List dJ}{τ:cC}{W:aE}
 (zj1:ops=#[o]) (hg:o.guard=none) (hop:o.op=.call ⟨.value (.func Lk.wait),#[.tmp s],kY⟩) (hs:T.getD s aA=.pointer (some ⟨Wg,0,none⟩)) (nI:WgLive Lk.tWg Wg W)
 (h:∀Wn d,zcR A Wn->Fin (G ((Dk.nil.base fn).at ⟨(b7 ⟨T,[]⟩ o.dst (.tuple #[])).tmps,[]⟩ [.inRegion ops [],.code tail]) base) (Wn.at d)):
 b6 p Lk.tWg Wg A Fin true (.usr l) 0 τ (G ((Dk.nil.base fn).at ⟨T,[]⟩ (.inRegion zEh []::[.code (.seq (.region id ops false) tail)])) base) W:=by
 subst zj1;have ho:(#[o]:Array aZ)[0]? =some o:=rfl;have b9:dG o (dO #[o] T)=true:=by unfold dG;rw[hg]
 have hb:=Dk.nil.ok;have Gk:∀v,b7 ⟨T,[]⟩ o.dst v=⟨(b7 ⟨T,[]⟩ o.dst v).tmps,[]⟩:=λv=>by cases o.dst<;>rfl
 have hr:iX (#[o]:Array aZ).size=[0]:=rfl;refine Nk rfl rfl (λaY s1=>stepG_region_end) λW1 s1=>?_;refine Nk rfl rfl (λaY s1=>stepG_seq) λW2 s2=>?_;refine Nk rfl rfl (λaY s1=>stepG_region) λW3 s3=>?_;rw[hr];refine Nk rfl rfl (g':=G ((Conc.base Lk.wait).at ⟨#[.pointer (some ⟨Wg,0,none⟩),aA,aA,aA,aA,aA,aA,aA,aA,aA,aA,aA,aA,aA,aA,aA,aA,aA,aA,aA,aA,aA,aA,aA,aA,aA,aA,aA,aA,aA,aA,aA,aA,aA,aA,aA,aA,aA,aA,aA,aA,aA,aA,aA,aA,aA,aA,aA,aA,aA,aA,aA,aA,aA,aA,aA,aA,aA,aA,aA,aA,aA,aA,aA,aA,aA,aA,aA,aA,aA,aA,aA,aA,aA,aA,aA,aA,aA,aA,aA,aA,aA,aA,aA],[]⟩ [.code (body_wait Lk)]) ((Dk.nil.base fn).at ⟨T,[]⟩ (.inRegion #[o] [0]::[.code tail])::base)) (λGu s4=>?_) λGu s4=>?_
 .obtain⟨x1,x2⟩:=zgj (p:=p) (o:=o) hop (ρ:=(bJ T []).eval) (λg=>rfl) H.f_wait rfl rfl Gu
  have wF:(#[.tmp s]:Array cI).map (bJ T []).eval=#[.pointer (some ⟨Wg,0,none⟩)]:=by simp only[uR,jG,tK,vT];rw[hs]
  rw[wF] at x1;have zcg:=stepG_enter (main:=true) (b:=Dk.nil.base fn) (a:=⟨T,[]⟩) (rest:=[]) (cs:=base) (k:=[.code tail]) ho b9 hb x1;rw[zcg];unfold wU;rw[x2,Df,zHw H]
 .have kf:=H4.triv Lk.tWg Wg τ
  refine zc2 (A:=A) (b₀:=Dk.nil.base fn) (a₀:=⟨T,[]⟩) (ops₀:=#[o]) (i₀:=0) (rest₀:=[]) (k₀:=[.code tail]) (cs:=base) (Fin:=Fin) (l:=l) (Wg:=Wg) H qR kf Nh (λWn _ _ hD d=>?_) Gu ⟨trivial,s4.live (s3.live (s2.live (s1.live nI)))⟩;have:=h Wn d hD;rw[ho];simp only[xS];rw[Gk];exact this
end
end Go.Mt
namespace Go.Mt
open Go.Conc Go.Tt
open Go.ConcR (KK wgBlock WgAt stA smA rd wr)
structure pT where
 p:bT
 gs:aN->Bool
 fs:aN->Bool
 ty:aM
 Wg:Nat
 N:Nat
 W:List fB
 D:aE->Prop
 Fin:bC->aE->Prop
 St:Nat->Prop
 W0:aE
 StI:Nat->Prop
 Shun:Loc->Prop
 SS:Nat->Prop
 R0:Pr
 Fz:Nat->Prop
 Wf:aE
 qs:List Nat
def pT.I (d:pT)(Q:Pr->Prop)(chs:List Nat):Pr->cC->aE->Prop:=λR τ W=>zD d.ty d.Wg (IQ d.W0 d.StI d.Shun d.Wg d.SS d.R0 d.Fz d.Wf d.qs chs) R τ W/\Q R
def pT.cx (d:pT)(K:Pr)(Q:Pr->Prop)(chs:List Nat)(base:List dJ)(ds:Dk)(pin:List (Nat×aF)):Cx gI:=
 {p:=d.p,gs:=d.gs,fs:=d.fs,ty:=d.ty,Wg:=d.Wg,A:=Db d.N d.W d.D,Fin:=d.Fin,main:=false,base:=base,ds:=ds,K:=K,St:=d.St,I:=d.I Q chs,pin:=pin}
def Up (Q:Pr->Prop):Prop:=∀R R':Pr,R.le R'->Q R->Q R'
structure pT.Ok (d:pT):Prop where
 st:∀a,d.StI a->d.St a
 ss:∀b,b<d.W0.heap.size->d.SS b
 fz:∀b,d.Fz b->d.SS b
 low:d.W0.heap.size<=d.Wg
 fit:vQ (PS d.p d.gs) d.fs
theorem pT.sub_eq (d:pT)(K:Pr)(Q:Pr->Prop)(chs:List Nat)(base:List dJ)(ds:Dk)(pin:List (Nat×aF))(m':Fm)(oA:Pr):
 (d.cx K Q chs base ds pin).sub m' oA=d.cx K (λR=>Q R/\oA.le R) chs (fx [] ds m'::base) .nil []:=by
 have e:(λR τ W=>d.I Q chs R τ W/\oA.le R)=d.I (λR=>Q R/\oA.le R) chs:=by
  funext R τ W;exact propext and_assoc
 unfold Cx.sub pT.cx;simp only;rw[e]
def Up.and {Q:Pr->Prop}(h:Up Q)(oA:Pr):Up (λR=>Q R/\oA.le R):=λR R' hl hq=>⟨h R R' hl hq.1,hq.2.trans hl⟩
section
variable {d:pT}{K:Pr}{Q:Pr->Prop}{chs:List Nat}{base:List dJ}{ds:Dk}{pin:List (Nat×aF)}
theorem pT.Ok.iok (H:d.Ok)(hQ:Up Q):eZ (d.cx K Q chs base ds pin):=by
 have h0:=zj9 (C:={d.cx K Q chs base ds pin with I:=zD d.ty d.Wg (IQ d.W0 d.StI d.Shun d.Wg d.SS d.R0 d.Fz d.Wf d.qs chs)}) rfl H.st H.ss H.fz H.low;exact⟨λR τ W aY h s=>⟨h0.suf R τ W aY h.1 s,h.2⟩,λR τ W R1 W1 h ht hs=>⟨h0.step R τ W R1 W1 h.1 ht hs,hQ R R1 hs.le h.2⟩⟩
structure WS where
 chs:List Nat
 K:Pr
 l:gI
 T:Array aF
 w:aE
def pT.bo (d:pT)(Q:Pr->Prop)(base:List dJ)(s:WS)(f:aN)(kk:List dS)(ret:Bool):Prop:=BO (d.cx s.K Q s.chs base .nil []) s.l ⟨f,s.T,kk,ret⟩ s.w
def CW (d:pT)(B:List Nat)(f:aN)(c:Code)(s:WS)(Φ:n6->WS->Prop):Prop:=
 ∀(Q:Pr->Prop) (base:List dJ) (kk:List dS),Up Q->(∀id∈B,∃k2,exitTo id kk=some k2)->(∀s',s.K.le s'.K->Φ .normal s'->d.bo Q base s' f kk false)->(∀id k2 s',s.K.le s'.K->exitTo id kk=some k2->Φ (.exit id) s'->d.bo Q base s' f k2 false)->
  (∀s' todo,s.K.le s'.K->Φ .ret s'->d.bo Q base s' f todo true)->d.bo Q base s f (.code c::kk) false
def CR (d:pT)(f:aN)(ops:Array aZ)(is:List Nat)(s:WS)(Φ:WS->Prop):Prop:=
 ∀(Q:Pr->Prop) (base:List dJ) (kk:List dS),Up Q->(∀s',s.K.le s'.K->Φ s'->d.bo Q base s' f kk false)->d.bo Q base s f (.inRegion ops is::kk) false
def xU (K:Pr):K.le K:=λ_ _ x=>x
def vU {K K' zpL:Pr}(h:K.le K')(h':K'.le zpL):K.le zpL:=λ_ _ x=>h' _ _ (h _ _ x)
variable {f:aN}{s:WS}{Φ Ψ:n6->WS->Prop}{B:List Nat}{c:Code}
def CW.skip (H:d.Ok)(h:Φ .normal s):CW d B f .skip s Φ:=λQ base kk hQ hB h1 h2 h3=>BO.skip (H.iok hQ) (h1 s (xU _) h)
def CW.ret (H:d.Ok)(h:Φ .ret s):CW d B f .ret s Φ:=λQ base kk hQ hB h1 h2 h3=>BO.ret (H.iok hQ) (h3 s _ (xU _) h)
def CW.seq (H:d.Ok){a b:Code}(h:CW d B f a s (λe s'=>match e with| .normal=>CW d B f b s' Φ|e=>Φ e s')):CW d B f (.seq a b) s Φ:=λQ base kk hQ hB h1 h2 h3=>
 BO.seq (H.iok hQ) (h Q base (.code b::kk) hQ (λid hid=>hB id hid) (λs' l x=>x Q base kk hQ hB (λs2 l2=>h1 s2 (vU l l2)) (λid k2 s2 l2=>h2 id k2 s2 (vU l l2)) (λs2 todo l2=>h3 s2 todo (vU l l2)))
  (λid k2 s' l e x=>h2 id k2 s' l e x) (λs' todo l x=>h3 s' todo l x))
def CW.cond (H:d.Ok){x:cI}{a b:Code}{t:Bool}(hx:dP d.fs x=true)(hc:(bJ s.T []).eval x=.bool t)(h:CW d B f (if t then a else b) s Φ):CW d B f (.cond x a b) s Φ:=λQ base kk hQ hB h1 h2 h3=>
 BO.cond (H.iok hQ) hx hc (h Q base kk hQ hB h1 h2 h3)
theorem CW.exit (H:d.Ok){id:Nat}(oQ:id∈B)(h:Φ (.exit id) s):CW d B f (.exit id) s Φ:=λQ base kk hQ hB h1 h2 h3=>by
 obtain⟨k2,e⟩:=hB id oQ;exact BO.exit (H.iok hQ) e (h2 id k2 s (xU _) e h)
theorem CW.block (H:d.Ok){id:Nat}(h:CW d (id::B) f c s (λe s'=>match e with| .normal=>Φ .normal s'| .exit i=>if i=id then Φ .normal s' else Φ (.exit i) s'|e=>Φ e s')):CW d B f (.block id c) s Φ:=λQ base kk hQ hB h1 h2 h3=>by
 refine BO.block (H.iok hQ) (h Q base (.inBlock id::kk) hQ (λi hi=>?_) (λs' l x=>BO.inBlock (H.iok hQ) (h1 s' l x)) (λi k2 s' l e x=>?_) (λs' todo l x=>h3 s' todo l x))
 .by_cases e:i=id
  .subst e;exact⟨kk,by simp[exitTo]⟩
  .rcases lO.1 hi with hi|hi
   .exact absurd hi e
   .obtain⟨k2,h2⟩:=hB i hi
    exact⟨k2,by simp only[exitTo];rw[if_neg (by simpa using Ne.symm e)];exact h2⟩
 .simp only[exitTo] at e
  grind
theorem CW.loop (H:d.Ok)(Inv:Nat->WS->Prop)(vB:∀n s,Inv n s->CW d B f c s (λe s'=>match e with| .normal=>∃n',n'<n/\Inv n' s'|e=>Φ e s')){n:Nat}(h0:Inv n s):CW d B f (.loop c) s Φ:=λQ base kk hQ hB h1 h2 h3=>by
 refine BO.loop (H.iok hQ) ?_;have key:∀n s2,s.K.le s2.K->Inv n s2->d.bo Q base s2 f (.code c:: .inLoop c::kk) false:=by
  intro n
  induction n using Nat.strongRecOn with
  |ind n ih=>
   intro s2 hl hi;refine vB n s2 hi Q base (.inLoop c::kk) hQ (λid hid=>hB id hid) (λs' l x=>?_) (λid k2 s' l e x=>h2 id k2 s' (vU hl l) e x) (λs' todo l x=>h3 s' todo (vU hl l) x);obtain⟨n',aU,mJ⟩:=x;exact BO.inLoop (H.iok hQ) (ih n' aU s' (vU hl l) mJ)
 exact key n s (xU _) h0
def CW.piece (H:d.Ok)(hc:pJ d.p ⟨d.fs,d.gs,true⟩ c=true)(hf:vW d.p f)(uF:∀T,Code.wp d.p c (λe a' w'=>e=.normal/\Φ .normal {s with T:=a'.tmps,w:=w'}) ⟨s.T,[]⟩ (Tt.tp s.w T 0)):CW d B f c s Φ:=λQ base kk hQ hB h1 h2 h3=>
 BO.piece H.fit (H.iok hQ) hc hf (zFf c hc) λT=>Code.wp_mono (λe a' w' h=>⟨h.1,h1 {s with T:=a'.tmps,w:=w'} (xU _) h.2⟩) (uF T)
def CW.reg (H:d.Ok){id:Nat}{ops:Array aZ}(is:List Nat)(hr:iX ops.size=is)(h:CR d f ops is s (λs'=>Φ .normal s')):CW d B f (.region id ops false) s Φ:=λQ base kk hQ hB h1 h2 h3=>
 BO.regs (H.iok hQ) is hr (h Q base kk hQ (λs' l x=>h1 s' l x))
section
variable {ops:Array aZ}{i:Nat}{rest is:List Nat}{Φ:WS->Prop}{o:aZ}
def CR.nil (H:d.Ok)(h:Φ s):CR d f ops [] s Φ:=λQ base kk hQ h1=>BO.regEnd (H.iok hQ) (h1 s (xU _) h)
theorem CR.op (H:d.Ok)(ho:ops[i]? =some o)(b9:dG o (dO ops s.T)=true)(bU:rP d.p ⟨d.fs,d.gs,true⟩ o.op=true)
 (hx:∀T,∃v w',((aO (bJ s.T []).eval o).run d.p (Tt.tp s.w T 0)=.ok (.value v) w'\/((aO (bJ s.T []).eval o).run d.p (Tt.tp s.w T 0)=.ok .skip w'/\v=aA))/\CR d f ops rest {s with T:=(b7 ⟨s.T,[]⟩ o.dst v).tmps,w:=w'} Φ):CR d f ops (i::rest) s Φ:=λQ base kk hQ h1=>
 BO.op H.fit (H.iok hQ) ho b9 bU (λ_ _=>nM) λT=>by
  obtain⟨v,w',e,h⟩:=hx T;exact⟨v,w',e,h Q base kk hQ h1⟩
structure CF (d:pT)(g:aN)(args:Array aF)(K:Pr)(l:gI)(w:aE)(Ψ:Pr->gI->aF->aE->Prop):Prop where
 ex:∃fnf cf,d.p.funcs[g]? =some fnf/\(fnf.name== "runtime.NumGoroutine")=false/\fnf.body=some cf/\Ia fnf.results.toList/\
  CW d [] g cf ⟨[],K,l,args++oC (fnf.ntmps-args.size) aA,w⟩ (λe s'=>(e=.normal\/e=.ret)/\s'.chs=[]/\∃v,(o5 fnf.results.toList s'.T).run d.p s'.w=.ok v s'.w/\Ψ s'.K s'.l v s'.w)
theorem CR.call (H:d.Ok){g:aN}{args:Array cI}{kY:Array aM}{Ψ:Pr->gI->aF->aE->Prop}(ho:ops[i]? =some o)(b9:dG o (dO ops s.T)=true)(hop:o.op=.call ⟨.value (.func g),args,kY⟩)(wF:args.all (dP d.fs)=true)(tL:s.chs=[])
 (hc:CF d g (args.map (bJ s.T []).eval) s.K s.l s.w Ψ) (hk:∀K' l' v w',s.K.le K'->Ψ K' l' v w'->CR d f ops rest ⟨[],K',l',(b7 ⟨s.T,[]⟩ o.dst v).tmps,w'⟩ Φ):CR d f ops (i::rest) s Φ:=λQ base kk hQ h1=>by
 obtain⟨chs,K,l,T,w⟩:=s;simp only at*;subst tL;obtain⟨fnf,cf,g1,g2,g3,g4,g5⟩:=hc.ex;refine BO.callN (H.iok hQ) ho b9 hop (Callee.static _ _) wF g1 g2 g3 g4 λoA m' hm=>?_;rw[pT.sub_eq];have fin:∀(s':WS) todo,K.le s'.K->(s'.chs=[]/\∃v,(o5 fnf.results.toList s'.T).run d.p s'.w=.ok v s'.w/\Ψ s'.K s'.l v s'.w)->d.bo (λR=>Q R/\oA.le R) (fx [] .nil m'::base) s' g todo true:=λs' todo hl ⟨h2,v,h3,h4⟩=>by
  obtain⟨zym,K',l',T',w'⟩:=s';simp only at*;subst h2;unfold pT.bo;simp only;rw[<-pT.sub_eq];refine BO.retN (C:=d.cx K' Q [] base .nil []) (H.iok hQ) (hm.upK hl _) rfl rfl (λ_ _=>nM) g1 h3 ?_;have:=hk K' l' v w' hl h4 Q base kk hQ (λs' l2 x=>h1 s' (vU hl l2) x);unfold pT.bo at this;simp only[Fm.fin,ho,xS]
  cases hd:o.dst with
  |none=>rw[hd] at this;exact this
  |some s=>rw[hd] at this;exact this
 have e:(#[]:Array aF)++args.map (bJ T []).eval++ #[]=args.map (bJ T []).eval:=aQ;rw[e];refine g5 (λR=>Q R/\oA.le R) (fx [] .nil m'::base) [] (hQ.and oA) (λ_ h=>by cases h) (λs' hl x=>BO.fall (H.iok (hQ.and oA)) (fin s' [] hl x.2)) (λid k2 s' hl ee x=>by cases ee) (λs' todo hl x=>fin s' todo hl x.2)
variable {e:aM}{dir:Mz}{ie:xB}
theorem CR.make (H:d.Ok){t:aM}(ho:ops[i]? =some o)(b9:dG o (dO ops s.T)=true)(hop:o.op=.makeChan t (.const (.int .i64 0)))(zfF:d.p.underlying t=some (.chan dir e))(jS:d.p.info? e=some ie)(tL:s.chs=[])
 (h:∀c,CR d f ops rest ⟨[c],s.K.add s.w.heap.size c,s.l,(b7 ⟨s.T,[]⟩ o.dst (.chan (some s.w.heap.size))).tmps,s.w.alloc o6⟩ Φ):CR d f ops (i::rest) s Φ:=λQ base kk hQ h1=>by
 obtain⟨chs,K,l,T,w⟩:=s;simp only at*;subst tL;refine BO.makeK (H.iok hQ) ho b9 hop zfF jS (λ_ _=>nM) (I':=λc=>d.I Q [c]) (λR τ W hi ht aU=>?_) λc=>h c Q base kk hQ (λs' l2 x=>h1 s' (vU (Pr.le_add _ _ _) l2) x);obtain⟨⟨hi,hl⟩,hq⟩:=hi;refine⟨⟨zss hi aU,?_⟩,hq⟩;obtain⟨st,sm,hx⟩:=hl;have l9:=hx;exact⟨st,sm,(C4 (eE.1 l9).1).trans l9⟩
variable {x:cI}{anz:Int}
theorem CR.ask (H:d.Ok){y:cI}{k q g a ga:Nat}{kd cl:Int}(ho:ops[i]? =some o)(b9:dG o (dO ops s.T)=true)(hop:o.op=.send x y)(rM:dP d.fs x=true)(Eo:dP d.fs y=true)(hl:s.l=.wk d.qs k)(hW:d.W[k]? =some (.ask q kd cl anz))(tL:s.chs=[a])
 (hx:(bJ s.T []).eval x=.chan (some g)) (hg:s.K g (qa d.qs q)) (hy:(bJ s.T []).eval y=.agg #[.int .i64 kd,.int .i64 cl,.chan (some ga)]) (ha:s.K ga a)
 (h:CR d f ops rest ⟨[],s.K,.wr d.qs k a,(b7 ⟨s.T,[]⟩ o.dst aA).tmps,s.w⟩ Φ):CR d f ops (i::rest) s Φ:=λQ base kk hQ h1=>by
 obtain⟨chs,K,l,T,w⟩:=s;simp only at*;subst tL hl;refine BO.sendP (C:=d.cx K Q [a] base .nil []) rfl (H.iok hQ) ho b9 hop rM hx hg Eo (λ_ _=>nM) (c:=qa d.qs q) (okv:=λv=>∃a,v=quV kd cl a) (pub:=Qc) (nx:=Yg d.qs k) (ps:=[a]) (I':=d.I Q []) ?_ (λR W v' hw hv=>?_) (λR τ W hi=>?_) (h Q base kk hQ h1)
 .show eK d.N d.W (.wk d.qs k)=_
  simp only[eK,hW]
 .rw[hy] at hv
  obtain rfl:v'=quV kd cl a:=by
   cases hv with
   |agg e1 e2=>
    rename_i bV;obtain⟨l'⟩:=bV
    match l',e1 with
    |[v0,v1,v2],_=>
     have h0:=e2 0 _ v0 rfl rfl;have h1:=e2 1 _ v1 rfl rfl;have h2:=e2 2 _ v2 rfl rfl;have h3:=Zd hw ha h2;cases h0;cases h1;subst h3;rfl
  exact⟨⟨a,rfl⟩,rfl,rfl⟩
 .obtain⟨⟨hi,hl⟩,hq⟩:=hi
  obtain⟨k1,k2⟩:=iq_cut hi;exact⟨k1,⟨k2,hl⟩,hq⟩
theorem CR.ans (H:d.Ok){ct:aM}{k q a ga:Nat}{kd cl:Int}(ho:ops[i]? =some o)(b9:dG o (dO ops s.T)=true)(hop:o.op=.recv ct x false)(Er:d.p.underlying ct=some (.chan dir e))(jS:d.p.info? e=some ie)(hz:ie.zero=some (.int .i64 0))
 (rM:dP d.fs x=true) (hl:s.l=.wr d.qs k a) (hW:d.W[k]? =some (.ask q kd cl anz)) (tL:s.chs=[]) (hx:(bJ s.T []).eval x=.chan (some ga)) (ha:s.K ga a)
 (h:CR d f ops rest ⟨[],s.K,.wk d.qs (k+1),(b7 ⟨s.T,[]⟩ o.dst (.int .i64 anz)).tmps,s.w⟩ Φ):CR d f ops (i::rest) s Φ:=λQ base kk hQ h1=>by
 obtain⟨chs,K,l,T,w⟩:=s;simp only at*;subst tL hl;refine BO.recv (C:=d.cx K Q [] base .nil []) rfl (H.iok hQ) ho b9 hop Er jS hz (λ_=>.int _ _) rM hx ha (λ_ _=>nM) (okv:=Zo d.W k) (nx:=λ_=>.wk d.qs (k+1)) (sh:=.oD) rfl (λv hv=>?_) (λhc=>hc.elim);unfold Zo at hv;rw[hW] at hv;simp only at hv;subst hv;exact⟨.int .i64 anz,λ_=>.int _ _,h Q base kk hQ h1⟩
theorem CR.shut (H:d.Ok){tx:Tmp}{kY:Array aM}{k q g:Nat}{fnf:Func}(ho:ops[i]? =some o)(b9:dG o (dO ops s.T)=true)(hop:o.op=.call {callee:=.builtin .close,args:=#[.tmp tx],argTypes:=kY})(hf:d.p.funcs[f]? =some fnf)(Dv:fnf.norace=false)
 (hl:s.l=.wk d.qs k) (hW:d.W[k]? =some (.shut q)) (hq:q<d.qs.length) (tL:s.chs=[]) (hx:(bJ s.T []).eval (.tmp tx)=.chan (some g)) (hg:s.K g (qa d.qs q))
 (h:CR d f ops rest ⟨[],s.K,.wk d.qs (k+1),(b7 ⟨s.T,[]⟩ o.dst (.tuple #[])).tmps,s.w⟩ Φ):CR d f ops (i::rest) s Φ:=λQ base kk hQ h1=>by
 obtain⟨chs,K,l,T,w⟩:=s;simp only at*;subst tL hl;have hm:qa d.qs q∈d.qs:=by
  unfold qa;rw[Vn,oX hq];exact zrF hq
 refine BO.close (C:=d.cx K Q [] base .nil []) rfl (H.iok hQ) ho b9 hop hx hg (λ_ _=>nM) (c:=qa d.qs q) (nx:=.wk d.qs (k+1)) ?_ hf Dv (λR τ W hi=>?_) (h Q base kk hQ h1)
 .show eK d.N d.W (.wk d.qs k)=_
  simp only[eK,hW]
 .obtain⟨⟨hi,hl⟩,Ni⟩:=hi
  obtain⟨p1,p2,p3,p4,p5⟩:=hi.pass _ hm;refine⟨p1,p2,p3,λs r=>⟨⟨zzt hi hm s r H.ss H.fz,?_⟩,Ni⟩⟩;obtain⟨st,sm,hx⟩:=hl;have l9:=hx;refine⟨st,sm,?_⟩;show(W.setChan _ _ _ _ _ _ _).heap[d.Wg]? =_;simp only[Ke,rN p5];exact l9
end
end
section
variable {L:Type}{C:Cx L}{l:L}
theorem BO.draw (hI:eZ C){fn:aN}{tmps:Array aF}{k:List dS}{w:aE}{id:Nat}{ops:Array aZ}(h:∀n,BO C l ⟨fn,tmps,.inRegion ops (Sm (C.p.follows .mixedOrders) ops n)::k,false⟩ w):BO C l ⟨fn,tmps,.code (.region id ops true)::k,false⟩ w:=by
 intro R W m' τ hw hm ht hi;obtain⟨fn',bS,y9,zI⟩:=m';obtain rfl:=hm.fn;obtain rfl:=hm.todo;obtain rfl:=hm.ret;rw[mX];refine Cx.ownQ rfl λaY s=>?_;have dI:C.Rel R w aY:=Cx.Rel.suf (C:=C) hw ht s;have y7:=hI.suf _ _ _ _ hi s;have aX:=stepG_region_draw (P:=C.p) (main:=C.main) (b:=C.ds.base fn) (a:=⟨bS,C.ds.ds⟩) (k:=k) (cs:=C.base) (w:=aY) (id:=id) (ops:=ops);refine⟨_,{aY with drawn:=aY.drawn+1},_,aX,rfl,⟨rfl,rfl,rfl,bN _,λb _ _=>rfl⟩,λe he=>by simp at he,?_⟩;rw[<-mX];refine h _ R _ ⟨fn,bS,_,false⟩ _ ⟨dI.inj,dI.inj',dI.lt,dI.low,dI.gle,dI.cont,dI.rest,dI.st,dI.np,dI.tb⟩ ⟨rfl,rfl,rfl,hm.tmps,hm.pins⟩ (λa b x=>⟨(ht a b x).1,λz=>.inl ((ht a b x).2 z)⟩) ?_;exact hI.step R τ aY R _ y7 ht ⟨λ_ _ x=>x,rfl,rfl,rfl,bN _,λa b x=>.inl x,λb _ _=>rfl⟩
end
def dep (ops:Array aZ)(i j:Nat):Bool:=match ops[i]? with|some o=>o.after.any λe=>F5 .any e&&e.on==j|none=>false
def Pg (ops:Array aZ):Nat->Nat->Nat->Bool
 |0,_,_=>false
 |n+1,i,j=>dep ops i j||(iX ops.size).any λm=>dep ops i m&&Pg ops n m j
def linked (ops:Array aZ):List Nat->Bool
 |a::b::l=>Pg ops (ops.size+1) b a&&linked ops (b::l)
 |_=>true
def Nf (ops:Array aZ)(ch:List Nat):Bool:=linked ops ch&&decide ch.Nodup&&(match ch.getLast? with|some z=>(iX ops.size).all λj=>j==z||Pg ops ops.size z j|none=>false)
variable {ops:Array aZ}{i:Nat}
theorem zmt {j:Nat}(h:dep ops i j=true):∃o,ops[i]? =some o/\∃e∈o.after,F5 .any e=true/\e.on=j:=by
 unfold dep at h;split at h
 .grind
 .cases h
theorem zwO :∀{ch:List Nat},linked ops ch=true->∀(j a b:Nat),ch[j]? =some a->ch[j+1]? =some b->Pg ops (ops.size+1) b a=true
 |[],_,j,a,b,h1,_=>by simp at h1
 |[x],_,j,a,b,_,h2=>by simp at h2
 |x::y::l,h,0,a,b,h1,h2=>by
  simp at h1 h2;subst h1 h2;unfold linked at h;simp_all
 |x::y::l,h,j+1,a,b,h1,h2=>by
  unfold linked at h;simp only[iY] at h;exact zwO h.2 j a b Vq V9
def Closed (ops:Array aZ)(bQ:Array Bool):Prop:=∀(i:Nat) (o:aZ),ops[i]? =some o->bQ.getD i false=true->∀e∈o.after,F5 .any e=true->bQ.getD e.on false=true
variable {bQ:Array Bool}
theorem zwP (hc:Closed ops bQ):∀(n i j:Nat),Pg ops n i j=true->bQ.getD i false=true->bQ.getD j false=true:=by
 intro n
 induction n with
 |zero=>intro i j h _;cases h
 |succ n ih=>
  intro i j h hl;unfold Pg at h;simp only[Di,List.any_eq_true,iY] at h;rcases h with h|⟨m,_,h1,h2⟩
  .obtain⟨o,ho,e,he,hb,rfl⟩:=zmt h
   exact hc i o ho hl e he hb
  .obtain⟨o,ho,e,he,hb,rfl⟩:=zmt h1
   exact ih _ j h2 (hc i o ho hl e he hb)
variable {ch:List Nat}
theorem zF9 {m:Nat}(h:ch.idxOf? i=some m):ch[m]? =some i/\m<ch.length:=by
 unfold zv7 at h;obtain⟨h1,h2,_⟩:=zmz.1 h;simp_all
theorem zzN (h:i∉ch):ch.idxOf? i=none:=by simp_all
theorem zaP (hn:ch.Nodup){m:Nat}(h:ch[m]? =some i):ch.idxOf? i=some m:=by
 unfold zv7;obtain⟨h1,h2⟩:=lR.1 h;rw[zmz];refine⟨h1,by rw[h2];simp,λj hj=>?_⟩;simp only[Bool.not_eq_true,beq_eq_false_iff_ne];intro e;have:=(List.getElem_inj hn).1 (e.trans h2.symm);omega
def VV (ch:List Nat)(V0:Nat->aF)(vs:List aF)(i:Nat):Value:=match ch.idxOf? i with|some j=>vs.getD j aA|none=>V0 i
variable {t0:Array aF}
theorem r8.congr {vals zcn:Nat->aF}{t:Array aF}(h:r8 ops vals t0 bQ t)(hv:∀i,bQ.getD i false=true->vals i=zcn i):r8 ops zcn t0 bQ t:=
 ⟨h.size,λi o d h1 h2 h3 h4=>by rw[<-hv i h4];exact h.got i o d h1 h2 h3 h4,h.old⟩
variable {σ:Type}{P:bT}{V0:Nat->aF}
theorem drawnGo {J:σ->List Nat->Array aF->aE->Prop}{S:List aF->σ->aE->Prop}(KO:Le ops)(tL:Nf ops ch=true)(oQ:∀c∈ch,¬c<ops.size->False)
 (hop:∀vs s i o rest t w v,S vs s w->ops[i]? =some o->i∉ch->dG o (dO ops t)=true->(∀T,(aO (bJ t []).eval o).run P (Tt.tp w T 0)=.ok (.value v) (Tt.tp w T 0))->(∀T,J s rest (b7 ⟨t,[]⟩ o.dst v).tmps (Tt.tp w T 0))->J s (i::rest) t w)
 (hT:∀vs s w T e,S vs s w->S vs s (Tt.tp w T e))
 (hR:∀(i:Nat) (o:aZ),ops[i]? =some o->i∉ch->∀vs s w,vs.length<ch.length->(∀j c,ch[j]? =some c->dep ops i c=true->j<vs.length)->S vs s w->dG o (dO ops (dF ops (VV ch V0 vs) t0))=true/\(aO (bJ (dF ops (VV ch V0 vs) t0) []).eval o).run P w=.ok (.value (V0 i)) w)
 (hC:∀(vs:List aF) (c:Nat) (o:aZ) s w,ch[vs.length]? =some c->ops[c]? =some o->S vs s w->∀(t:Array aF) (rest:List Nat),(∀s∈o.looksAt ops,t[s]? =(dF ops (VV ch V0 vs) t0)[s]?)->
  (∀v s' w',S (vs++[v]) s' w'->J s' rest (b7 ⟨t,[]⟩ o.dst v).tmps w')->J s (c::rest) t w)
 (hk:∀vs s w,vs.length=ch.length->S vs s w->J s [] (dF ops (VV ch V0 vs) t0) w):
 ∀(fuel q:Nat) (bQ:Array Bool) (t:Array aF) (vs:List aF) (s:σ) (w:aE),bQ.size=ops.size->((iX ops.size).filter λi=>!bQ.getD i false).length<=fuel->r8 ops (VV ch V0 vs) t0 bQ t->Closed ops bQ->
  (∀j c,ch[j]? =some c->(bQ.getD c false=true↔j<vs.length))->vs.length<=ch.length->S vs s w->J s (zf1 .any ops fuel q bQ []) t w:=by
 have zl1:=tL;unfold Nf at zl1;simp only[iY,decide_eq_true_eq] at zl1;obtain⟨⟨yW,kU⟩,Ei⟩:=zl1;have fin:∀(bQ:Array Bool) (t:Array aF) (vs:List aF) (s:σ) (w:aE),bQ.size=ops.size->(∀i,i<ops.size->bQ.getD i false=true)->r8 ops (VV ch V0 vs) t0 bQ t->(∀j c,ch[j]? =some c->(bQ.getD c false=true↔j<vs.length))->vs.length<=ch.length->S vs s w->(∀c∈ch,c<ops.size)->J s [] t w:=by
  intro bQ t vs s w hz sN hm hl hle hw iW;have e:bQ=oC ops.size true:=by
   apply Array.ext_getElem?;intro j;by_cases hj:j<ops.size
   .have:=sN j hj
    have uU:j<bQ.size:=aC;simp[uU] at this;simp[hj,uU,this]
   .rw[My aC,My pR]
  have tX:vs.length=ch.length:=by
   rcases uE vs.length ch.length with h|h
   .have h1:ch[vs.length]? =some ch[vs.length]:=oX h
    have:=(hl _ _ h1).1 (sN _ (iW _ (zrF h)));omega
   .omega
  subst e;have e2:=hm.unique (So (vals:=VV ch V0 vs) (t0:=t0) KO);subst e2;exact hk vs s w tX hw
 have iW:∀c∈ch,c<ops.size:=by
  intro c hc
  cases hg:ch.getLast? with
  |none=>rw[hg] at Ei;cases Ei
  |some z=>
   by_cases aU:c<ops.size
   .exact aU
   .exfalso
    exact oQ c hc aU
 intro fuel
 induction fuel with
 |zero=>
  intro q bQ t vs s w hz hc hm lE hl hle hw;simp only[zf1,List.reverse_nil];refine fin bQ t vs s w hz (λi hi=>?_) hm hl hle hw iW
  cases hl:bQ.getD i false with
  |true=>rfl
  |false=>
   have:i∈(iX ops.size).filter λi=>!bQ.getD i false:=L9.2 ⟨D4.2 hi,by rw[hl];rfl⟩;have:=List.length_pos_of_mem this;omega
 |succ fuel ih=>
  intro q bQ t vs s w hz hc hm lE hl hle hw;simp only[zf1];change J s (match(Hp .any ops bQ)[q%(Hp .any ops bQ).length]? with
   |some i=>zf1 .any ops fuel (q/(Hp .any ops bQ).length) (bQ.setIfInBounds i true) [i]
   |none=>[].reverse) t w
  cases hi:(Hp .any ops bQ)[q%(Hp .any ops bQ).length]? with
  |none=>
   have Yc:Hp .any ops bQ=[]:=by
    cases hr:Hp .any ops bQ with
    |nil=>rfl
    |cons x xs=>
     rw[hr] at hi;have aU:q%(x::xs).length<(x::xs).length:=Nat.mod_lt _ aQ;simp at hi;simp at aU;omega
   exact fin bQ t vs s w hz (zq7 KO hz Yc) hm hl hle hw iW
  |some i=>
   simp only[];rw[linearise_go_acc,List.reverse_singleton,List.singleton_append];obtain⟨hu,o,ho,tU⟩:=mem_ready.1 (dZ hi);have Hw:i<ops.size:=(eE.1 ho).1;have mE:=hm.sees KO (So (vals:=VV ch V0 vs) (t0:=t0) KO) ho tU;have Lt:∀j,(bQ.setIfInBounds i true).getD j false=if j=i then true else bQ.getD j false:=by
    intro j;by_cases e:j=i
    .subst e;have:j<bQ.size:=aC
     simp[this]
    .rw[if_neg e];exact getD_set_ne false (Ne.symm e)
   have o9:bQ.getD i false=false:=by
    have:i<bQ.size:=aC;simp[this] at hu⊢;exact hu
   have zg6:Closed ops (bQ.setIfInBounds i true):=by
    intro j oj hj uU e he hb;rw[Lt] at uU⊢;split
    .rfl
    .split at uU
     .next e1=>subst e1;rw[ho] at hj;obtain rfl:=cJ hj;exact tU e he hb
     .exact lE j oj hj uU e he hb
   have Zx:((iX ops.size).filter λj=>!(bQ.setIfInBounds i true).getD j false).length<=fuel:=by
    have aU:((iX ops.size).filter λj=>!(bQ.setIfInBounds i true).getD j false).length<((iX ops.size).filter λj=>!bQ.getD j false).length:=by
     have e:((iX ops.size).filter λj=>!(bQ.setIfInBounds i true).getD j false)=((iX ops.size).filter λj=>!bQ.getD j false).filter (λj=>j !=i):=by
      rw[List.filter_filter];apply List.filter_congr;intro j hj;rw[Lt];by_cases e:j=i
      .simp[e]
      .simp[e]
     rw[e];exact List.length_filter_lt_length_iff_exists.2 ⟨i,L9.2 ⟨D4.2 Hw,by rw[o9];rfl⟩,aQ⟩
    omega
   by_cases zG:i∈ch
   .
    obtain⟨j,hj⟩:=List.mem_iff_getElem?.1 zG;have zKo:=(lR.1 hj).1;have zCV:j=vs.length:=by
     have h1:¬j<vs.length:=λh=>by have:=(hl j i hj).2 h;rw[o9] at this;cases this
     rcases uE vs.length j with h|h
     .exfalso
      obtain⟨b,hb⟩:∃b,ch[j-1]? =some b:=⟨ch[j-1]' aC,oX aC⟩;have hd:=zwP zg6 _ _ _ (zwO yW (j-1) b i hb (by rw[Nat.sub_add_cancel aC];exact hj)) (by rw[Lt,if_pos rfl]);rw[Lt] at hd;split at hd
      .next e=>
       subst e;have h1:=zaP kU hb;rw[zaP kU hj] at h1;have:=cJ h1;omega
      .have:=(hl (j-1) _ hb).1 hd
       omega
     .omega
    subst zCV;have vX:∀v i',i'≠i->VV ch V0 (vs++[v]) i'=VV ch V0 vs i'\/bQ.getD i' false=false:=by
     intro v i' aS;unfold VV
     cases hx:ch.idxOf? i' with
     |none=>exact .inl rfl
     |some m=>
      simp only;obtain⟨Vh,wH⟩:=zF9 hx;rcases zrG m vs.length with h|h|h
      .left;simp[Vn,Mo h]
      .subst h;rw[hj] at Vh;exact absurd (cJ Vh).symm aS
      .right
       cases Jy:bQ.getD i' false with
       |false=>rfl
       |true=>have:=(hl m i' Vh).1 Jy;omega
    have zh6:∀v,VV ch V0 (vs++[v]) i=v:=by
     intro v;unfold VV;rw[zaP kU hj];simp[Vn]
    refine hC vs i o s w hj ho hw t _ mE λv s' w' Pt=>?_;have wH:r8 ops (VV ch V0 (vs++[v])) t0 bQ t:=hm.congr λi' mJ=>by
     rcases vX v i' (λe=>by subst e;rw[o9] at mJ;cases mJ) with h|h
     .exact h.symm
     .rw[h] at mJ;cases mJ
    have Xn:=wH.step KO ho hz hu;have:=ih (q/(Hp .any ops bQ).length) (bQ.setIfInBounds i true) _ (vs++[v]) s' w' (by simp[hz]) Zx Xn zg6 (λj c Mn=>?_) pR Pt
    .rw[zh6] at this
     cases hd:o.dst with
     |none=>rw[hd] at this;exact this
     |some s=>rw[hd] at this;exact this
    .rw[Lt]
     by_cases e:c=i
     .subst e
      rw[if_pos rfl];have:j=vs.length:=by
       have h1:=zaP kU Mn;have h2:=zaP kU hj;rw[h1] at h2;exact cJ h2
      subst this;simp
     .rw[if_neg e,hl j c Mn]
      simp;constructor
      .intro h;omega
      .intro h
       rcases uE j vs.length with h2|h2
       .exact h2
       .have:j=vs.length:=aC
        subst this;rw[hj] at Mn;exact absurd (cJ Mn).symm e
   .
    have zor:=hR i o ho zG;have aU:vs.length<ch.length:=by
     rcases uE vs.length ch.length with h|h
     .exact h
     .exfalso
      cases hg:ch.getLast? with
      |none=>rw[hg] at Ei;cases Ei
      |some z=>
       rw[hg] at Ei;have zfa:ch[ch.length-1]? =some z:=by rw[<-List.getLast?_eq_getElem?];exact hg
       have Aj:0<ch.length:=by
        cases ch with
        |nil=>cases hg
        |cons _ _=>simp
       have zBr:=(hl _ z zfa).2 aC;have:=(uD.1 Ei) i (D4.2 Hw);simp only[Di,beq_iff_eq] at this;rcases this with rfl|this
       .exact zG (dZ zfa)
       .have:=zwP lE _ _ _ this zBr
        rw[o9] at this;cases this
    have uJ:∀j c,ch[j]? =some c->dep ops i c=true->j<vs.length:=λj c hj hd=>by
     obtain⟨o',yO,e,he,zfn,rfl⟩:=zmt hd;rw[ho] at yO;obtain rfl:=cJ yO;exact(hl j _ hj).1 (tU e he zfn)
    obtain⟨h1,h2⟩:=zor vs s w aU uJ hw;have eG:dG o (dO ops t)=true:=(Zy mE).trans h1;refine hop vs s i o _ t w (V0 i) hw ho zG eG (λT=>?_) λT=>?_
    .rw[F0 (KO.sel i o ho) mE]
     exact(zor vs s _ aU uJ (hT _ _ _ T 0 hw)).2
    .have Xn:=hm.step KO ho hz hu
     have zh6:VV ch V0 vs i=V0 i:=by
      unfold VV;rw[zzN zG]
     rw[zh6] at Xn;have:=ih (q/(Hp .any ops bQ).length) (bQ.setIfInBounds i true) _ vs s (Tt.tp w T 0) (by simp[hz]) Zx Xn zg6 (λj c Mn=>?_) hle (hT _ _ _ T 0 hw)
     .cases hd:o.dst with
      |none=>rw[hd] at this;exact this
      |some s=>rw[hd] at this;exact this
     .have aS:c≠i:=λe=>zG (e▸dZ Mn)
      rw[Lt,if_neg aS];exact hl j c Mn
theorem zqd {J:σ->List Nat->Array aF->aE->Prop}{S:List aF->σ->aE->Prop}(bU:Ir ops=true)(tL:Nf ops ch=true)(oQ:ch.all (λc=>decide (c<ops.size))=true)
 (hop:∀vs s i o rest t w v,S vs s w->ops[i]? =some o->i∉ch->dG o (dO ops t)=true->(∀T,(aO (bJ t []).eval o).run P (Tt.tp w T 0)=.ok (.value v) (Tt.tp w T 0))->(∀T,J s rest (b7 ⟨t,[]⟩ o.dst v).tmps (Tt.tp w T 0))->J s (i::rest) t w)
 (hT:∀vs s w T e,S vs s w->S vs s (Tt.tp w T e))
 (hR:∀(i:Nat) (o:aZ),ops[i]? =some o->i∉ch->∀vs s w,vs.length<ch.length->(∀j c,ch[j]? =some c->dep ops i c=true->j<vs.length)->S vs s w->dG o (dO ops (dF ops (VV ch V0 vs) t0))=true/\(aO (bJ (dF ops (VV ch V0 vs) t0) []).eval o).run P w=.ok (.value (V0 i)) w)
 (hC:∀(vs:List aF) (c:Nat) (o:aZ) s w,ch[vs.length]? =some c->ops[c]? =some o->S vs s w->∀(t:Array aF) (rest:List Nat),(∀s∈o.looksAt ops,t[s]? =(dF ops (VV ch V0 vs) t0)[s]?)->
  (∀v s' w',S (vs++[v]) s' w'->J s' rest (b7 ⟨t,[]⟩ o.dst v).tmps w')->J s (c::rest) t w)
 (hk:∀vs s w,vs.length=ch.length->S vs s w->J s [] (dF ops (VV ch V0 vs) t0) w) {s:σ} {w:aE} (h0:S [] s w) (n:Nat):J s (Sm true ops n) t0 w:=by
 simp only[Sm,Bool.true_or,if_true];refine drawnGo (Qw bU) tL (λc hc aU=>?_) hop hT hR hC hk ops.size n _ t0 [] s w aQ (eM (List.length_filter_le _ _) aQ) (r8.start _ λi=>?_) (λi o hi hl=>?_) (λj c hj=>?_) (mP _) h0
 .simp_all
 .by_cases hi:i<ops.size<;>simp[hi]
 .by_cases hi:i<ops.size<;>simp[hi] at hl
 .by_cases hi:c<ops.size<;>simp[hi]
section
variable {d:pT}{f:aN}
variable {Φ:n6->WS->Prop}
theorem CW.drawn (H:d.Ok)(znh:d.p.follows .mixedOrders=true){B:List Nat}{id:Nat}{t0:Array aF}{ops:Array aZ}(ch:List Nat)(V0:Nat->aF)(S:List aF->Pr->gI->aE->Prop)(bU:Ir ops=true)(tL:Nf ops ch=true)(oQ:ch.all (λc=>decide (c<ops.size))=true)
 (hT:∀vs K l w T e,S vs K l w->S vs K l (Tt.tp w T e))
 (hR:∀(i:Nat) (o:aZ),ops[i]? =some o->i∉ch->rP d.p ⟨d.fs,d.gs,true⟩ o.op=true/\∀vs K l w,vs.length<ch.length->S vs K l w->dG o (dO ops (dF ops (VV ch V0 vs) t0))=true/\(aO (bJ (dF ops (VV ch V0 vs) t0) []).eval o).run d.p w=.ok (.value (V0 i)) w)
 (hC:∀(vs:List aF) (c:Nat) (o:aZ) K l w,ch[vs.length]? =some c->ops[c]? =some o->S vs K l w->∀(t:Array aF) (rest:List Nat),(∀s∈o.looksAt ops,t[s]? =(dF ops (VV ch V0 vs) t0)[s]?)->
  (∀v K' l' w',K.le K'->S (vs++[v]) K' l' w'->CR d f ops rest ⟨[],K',l',(b7 ⟨t,[]⟩ o.dst v).tmps,w'⟩ (Φ .normal))->CR d f ops (c::rest) ⟨[],K,l,t,w⟩ (Φ .normal))
 (hk:∀vs K l w,vs.length=ch.length->S vs K l w->Φ .normal ⟨[],K,l,dF ops (VV ch V0 vs) t0,w⟩) {K:Pr} {l:gI} {w:aE} (h0:S [] K l w):CW d B f (.region id ops true) ⟨[],K,l,t0,w⟩ Φ:=λQ base kk hQ hB h1 h2 h3=>by
 refine BO.draw (H.iok hQ) λn=>?_
 have:=zqd (σ:=Pr×gI) (P:=d.p) (J:=λs is t w=>CR d f ops is ⟨[],s.1,s.2,t,w⟩ (Φ .normal)) (S:=λvs s w=>S vs s.1 s.2 w) bU tL oQ
  (λvs s i o rest t w v hS ho zG hw hx hJ=>CR.op H ho hw (hR i o ho zG).1 λT=>⟨v,_,.inl (hx T),hJ T⟩) (λvs s=>hT vs s.1 s.2) (λi o ho zG vs s w hv _=>(hR i o ho zG).2 vs s.1 s.2 w hv)
  (λvs c o s w hj ho h t rest hs cU=>hC vs c o s.1 s.2 w hj ho h t rest hs λv K' l' w' _=>cU v (K',l') w') (λvs s w hl h=>CR.nil H (hk vs s.1 s.2 w hl h)) (s:=(K,l)) h0 n Q base kk hQ λs' l x=>h1 s' l x
 rw[<-znh] at this;exact this
end
structure OvFn (p:bT)(f:aN)(t tr e:aM)(size:Nat):Prop where
 fn:∃fn,p.funcs[f]? =some fn/\(fn.name== "runtime.NumGoroutine")=false/\fn.body.isNone=true/\zxX fn=none/\zrE fn=some (ziq #[t,t] #[tr])
 un:p.underlying t=some (.slice e)
 inf:∃i,p.info? e=some i/\i.size=size
variable {i:xB}
theorem zDS (w:aE)(tS tR e:aM)(ht:P.underlying tS=some (.slice e))(hi:P.info? e=some i)
 (a b:bD) (la ca lb cb:Nat) (aS:a.block≠b.block) (tA tB:aM) (kA kB:Nat)
 (Ij:w.shape? a.block=some (tA,kA)) (Dx:w.shape? b.block=some (tB,kB)) (O4:kB≠0)
 (vC:w.frozen? a=false) (N5:w.frozen? {block:=a.block,off:=kA}=false):
 (ziq #[tS,tS] #[tR] #[.slice (some a) la ca,.slice (some b) lb cb]).run P w=.ok (.bool false) w:=
 Lib.run_overlaps_apart w tS tR e ht i.size (λw=>by simp[sizeOf,typeInfo,hi]) a b la ca lb cb aS tA tB kA kB Ij Dx O4 vC N5
section
variable {P:bT}{w:aE}{es:Array Event}
def zIa (a:bD):(frozen a).events P w es=es:=rfl
def zuG (a:bD):(frozen a).run P w=.ok (w.frozen? a) w:=rfl
def zy7 (r:Nat):(shape r).events P w es=es:=rfl
def zgY (r:Nat):(shape r).run P w=.ok (w.shape? r) w:=rfl
variable {a:bD}{t:aM}{n:Nat}
theorem zvf (h:w.shape? a.block=some (t,n)):(noView a).events P w es=es:=by
 unfold noView viewAt;simp_all
theorem ztM (h:w.shape? a.block=some (t,n)):(noView a).run P w=.ok () w:=by
 unfold noView viewAt;simp[zgY,h]
theorem zxY (h:w.shape? a.block=some (t,n)):(stringish a).events P w es=es:=by
 unfold stringish;simp_all
theorem zf9 (h:w.shape? a.block=some (t,n)):(stringish a).run P w=.ok (w.frozen? a||w.frozen? ⟨a.block,n,none⟩) w:=by
 unfold stringish;cases hf:w.frozen? a<;>simp[zuG,zgY,h,hf]
theorem zB1 {b:bD}{tA tB:aM}{kA kB:Nat}(Ij:w.shape? a.block=some (tA,kA))(Dx:w.shape? b.block=some (tB,kB))(vC:w.frozen? a=false)(N5:w.frozen? ⟨a.block,kA,none⟩=false)(O4:kB≠0):
 (mayBeOne a b).events P w es=es/\(mayBeOne a b).run P w=.ok false w:=by
 cases kB with
 |zero=>exact absurd rfl O4
 |succ kB=>
  unfold mayBeOne;constructor
  .simp[zxY Ij,zf9 Ij,zxY Dx,zf9 Dx,vC,N5,zy7,zgY,Ij,Dx]
  .simp[zf9 Ij,zf9 Dx,vC,N5,zgY,Ij,Dx]
end
theorem zEX (w:aE)(es:Array Event)(tS tR e:aM)(ht:P.underlying tS=some (.slice e))(hi:P.info? e=some i)
 (a b:bD) (la ca lb cb:Nat) (aS:a.block≠b.block) (tA tB:aM) (kA kB:Nat)
 (Ij:w.shape? a.block=some (tA,kA)) (Dx:w.shape? b.block=some (tB,kB)) (O4:kB≠0)
 (vC:w.frozen? a=false) (N5:w.frozen? {block:=a.block,off:=kA}=false):
 (ziq #[tS,tS] #[tR] #[.slice (some a) la ca,.slice (some b) lb cb]).events P w es=es:=by
 have nX:(a.block !=b.block)=true:=by simpa using aS
 have zyL:(a.block==b.block)=false:=by simpa using aS
 change Sem.events P (α:=aF) (do
  let some t:=(#[tS,tS]:Array aM)[0]? |stuck "slices.overlaps: no parameter types"
  let .slice elem<-underlying t|stuck "slices.overlaps: slice type expected"
  let size<-sizeOf elem
  match(some a:Option bD),(some b:Option bD) with
  |some a,some b=>
   if la=0\/lb=0\/size=0 then pure (Ng false)
   else if a.block !=b.block&&(<-frozen a)&&(<-frozen b) then unsupported .addressObserved
   else do
    if a.block !=b.block then do
     noView a;noView b
     if<-mayBeOne a b then return Ng ((<-choose (.extern "sameAddr.stringBytes" 2))==1)
    pure (Ng (a.block==b.block&&a.off<b.off+lb*size&&b.off<a.off+la*size))
  |_,_=>pure (Ng false)) w es=_
 by_cases h0:la=0\/lb=0\/i.size=0
 .simp[xJ ht,sizeOf,typeInfo,hi,h0]
 .obtain⟨m1,m2⟩:=zB1 (P:=P) (es:=es) Ij Dx vC N5 O4
  simp[xJ ht,sizeOf,typeInfo,hi,h0,nX,zyL,zIa,zuG,vC,zvf Ij,ztM Ij,zvf Dx,ztM Dx,m1,m2]
section
variable {L:Type}{C:Cx L}{l:L}
variable {o:aZ}{f:aN}{kY:Array aM}{e:Array aF->Sem aF}{w:aE}
theorem zAo {p:bT}{args:Array cI}(hop:o.op=.call ⟨.value (.func f),args,kY⟩){ρ:cI->aF}(hρ:ρ (.func f)=.func (.func f) #[] #[]){fn:Func}(hf:p.funcs[f]? =some fn)
 (hn:(fn.name== "runtime.NumGoroutine")=false) (hb:fn.body.isNone=true) (h1:zxX fn=none)  (h2:zrE fn=some e) {w':aE} {v:aF} (hr:(e (args.map ρ)).run p w=.ok v w') (he:∀es,(e (args.map ρ)).events p w es=es):
 (aO ρ o).run p w=.ok (.value v) w'/\(aO ρ o).events p w #[]=#[⟨.mark (.extern f),false,true⟩]:=by
 obtain⟨dst,y5,type,pos,after,guard⟩:=o;simp only at hop;subst hop;have yB:¬fn.name= "runtime.NumGoroutine" :=by simpa using hn
 have bZ:fn.body=none:=by simpa using hb
 constructor
 .simp[aO,resolve,C0,hρ,invoke,callFunc,program,mark,Sem.run,hf,yB,bZ,h1,h2,hr]
 .simp[aO,resolve,C0,hρ,invoke,callFunc,hf,yB,bZ,h1,h2,he]
theorem BO.overlaps (ha:C.alone=none)(hI:eZ C){fn:aN}{tmps:Array aF}{ops:Array aZ}{i:Nat}{rest:List Nat}{k:List dS}{x y:cI}{A B:bD}{la ca lb cb:Nat}{t tr e:aM}{sz:Nat}{znz zds:Array aF}{TA TB:aM}{zkp:Nat×Nat}
 (H:OvFn C.p f t tr e sz) (ho:ops[i]? =some o) (b9:dG o (dO ops tmps)=true) (hop:o.op=.call ⟨.value (.func f),#[x,y],kY⟩) (rM:dP C.fs x=true) (Eo:dP C.fs y=true) (hx:(bJ tmps []).eval x=.slice (some A) la ca) (hy:(bJ tmps []).eval y=.slice (some B) lb cb)
 (aS:A.block≠B.block) (hA:w.heap[A.block]? =some (.cells znz TA (0,0))) (hB:w.heap[B.block]? =some (.cells zds TB zkp)) (hz:zds.size≠0) (kU:∀s,o.dst=some s->s∉C.S)
 (h1:BO C l ⟨fn,(b7 ⟨tmps,[]⟩ o.dst (.bool false)).tmps,.inRegion ops rest::k,false⟩ w):BO C l ⟨fn,tmps,.inRegion ops (i::rest)::k,false⟩ w:=by
 intro R W m' τ hw hm ht hi;obtain⟨fn',bS,y9,zI⟩:=m';obtain rfl:=hm.fn;obtain rfl:=hm.todo;obtain rfl:=hm.ret;have uM:=J2 (C:=C) hm.tmps b9;have hb:(C.ds.base fn).kind≠ .early:=C.ds.ok;have vx:=Gx (C:=C) (d:=C.ds.ds) hm.tmps rM;have vy:=Gx (C:=C) (d:=C.ds.ds) hm.tmps Eo;rw[hx] at vx;rw[hy] at vy;obtain⟨fnf,g1,g2,g3,g4,g5⟩:=H.fn;obtain⟨ie,jS,cK⟩:=H.inf;rw[mX,Cx.B_none ha];refine b6.own rfl trivial λaY s=>?_;have dI:C.Rel R w aY:=Cx.Rel.suf (C:=C) hw ht s;have y7:=hI.suf _ _ _ _ hi s;generalize hex:(bJ bS C.ds.ds).eval x=vx' at vx;generalize zCl:(bJ bS C.ds.ds).eval y=vy' at vy
 cases vx with
 |slice qa=>
  cases qa with
  |some qa=>
   cases qa with
   |mk ra=>
    cases vy with
    |slice qb=>
     cases qb with
     |some qb=>
      cases qb with
      |mk rb=>
       rename_i a a' oa sa b b' ob sb;obtain⟨o1,o2,k1,k2,k3⟩:=dI.cont _ _ ra;obtain⟨p1,p2,q1,q2,q3⟩:=dI.cont _ _ rb;rw[hA] at k1;obtain rfl:=cJ k1;rw[hB] at q1;obtain rfl:=cJ q1
       cases k3 with
       |cells qH vC=>
        cases q3 with
        |cells Cz zKb=>
         rename_i cA' fA' zma fB';have zmb:∀n,aY.frozen? ⟨a',n,none⟩=false:=λn=>by
          simp only[Il,k2]
          cases hq:(decide (fA'.1<=n)&&decide (n<fA'.2)) with
          |false=>rfl
          |true=>
           have:=vC n (by simpa[Lg] using hq);unfold Lg at this;omega
         have zsU:aY.frozen? ⟨a',oa,sa⟩=false:=by
          have:=zmb oa;simpa[Il] using this
         have zaY:a'≠b':=λe=>aS (dI.inj' _ _ _ (.inl ra) (.inl (e▸rb)));have sA:aY.shape? a'=some (TA,cA'.size):=by simp[zag,k2]
         have sB:aY.shape? b'=some (TB,zma.size):=by simp[zag,q2]
         have wF:(#[x,y]:Array cI).map (bJ bS C.ds.ds).eval=#[.slice (some ⟨a',oa,sa⟩) la ca,.slice (some ⟨b',ob,sb⟩) lb cb]:=by
          simp only[uR,jG,tK,hex,zCl]
         have r1:=zDS (P:=C.p) aY t tr e H.un jS ⟨a',oa,sa⟩ ⟨b',ob,sb⟩ la ca lb cb zaY TA TB _ _ sA sB (by rw[<-Cz.1];exact hz) zsU (zmb _);have r2:=λes=>zEX (P:=C.p) aY es t tr e H.un jS ⟨a',oa,sa⟩ ⟨b',ob,sb⟩ la ca lb cb zaY TA TB _ _ sA sB (by rw[<-Cz.1];exact hz) zsU (zmb _);obtain⟨x1,x2⟩:=zAo (p:=C.p) (o:=o) hop (ρ:=(bJ bS C.ds.ds).eval) rfl g1 g2 g3 g4 g5 (by rw[wF];exact r1) (by rw[wF];exact r2);have aX:=ziz (main:=C.main) (b:=C.ds.base fn) (rest:=rest) (k:=k) (cs:=C.base) ho uM hb x1;have hl:∀ev∈wU C.p (C.ds.base fn).fn ⟨bS,C.ds.ds⟩ o aY,ev=⟨.mark (.extern f),false,true⟩:=λev nG=>by
          unfold wU at nG;rw[x2] at nG;simpa using mem_seen nG
         refine⟨_,aY,_,aX,rfl,zT.id _ _,λev nG=>?_,?_⟩
         .rw[hl ev nG];trivial
         .rw[deafBehind_still (λev nG=>by grind)]
          have Gk:b7 ⟨bS,C.ds.ds⟩ o.dst (.bool false)=⟨(b7 ⟨bS,C.ds.ds⟩ o.dst (.bool false)).tmps,C.ds.ds⟩:=by cases o.dst<;>rfl
          rw[Gk,<-mX,<-Cx.B_none ha];have Bz:=hI.step R τ aY R aY y7 ht ⟨λ_ _ x=>x,rfl,rfl,rfl,bN _,λa b x=>.inl x,λb _ _=>rfl⟩;exact h1 R aY ⟨fn,_,_,false⟩ _ dI ⟨rfl,rfl,rfl,Is (C:=C) hm.tmps (.bool false),Jj (C:=C) hm.pins kU⟩ (λa b x=>⟨(ht a b x).1,λz=>.inl ((ht a b x).2 z)⟩) Bz
end
section
variable {d:pT}{f:aN}{s:WS}{ops:Array aZ}{i:Nat}{rest:List Nat}{Φ:WS->Prop}{o:aZ}
def CR.overlaps (H:d.Ok){x y:cI}{g:aN}{kY:Array aM}{A B:bD}{la ca lb cb:Nat}{t tr e:aM}{sz:Nat}{znz zds:Array aF}{TA TB:aM}{zkp:Nat×Nat}
 (HO:OvFn d.p g t tr e sz) (ho:ops[i]? =some o) (b9:dG o (dO ops s.T)=true) (hop:o.op=.call ⟨.value (.func g),#[x,y],kY⟩) (rM:dP d.fs x=true) (Eo:dP d.fs y=true) (hx:(bJ s.T []).eval x=.slice (some A) la ca) (hy:(bJ s.T []).eval y=.slice (some B) lb cb)
 (aS:A.block≠B.block) (hA:s.w.heap[A.block]? =some (.cells znz TA (0,0))) (hB:s.w.heap[B.block]? =some (.cells zds TB zkp)) (hz:zds.size≠0)
 (h:CR d f ops rest {s with T:=(b7 ⟨s.T,[]⟩ o.dst (.bool false)).tmps} Φ):CR d f ops (i::rest) s Φ:=λQ base kk hQ h1=>
 BO.overlaps (C:=d.cx s.K Q s.chs base .nil []) rfl (H.iok hQ) HO ho b9 hop rM Eo hx hy aS hA hB hz (λ_ _=>nM) (h Q base kk hQ h1)
end
end Go.Mt
namespace Go.Proofs.YtfcjiloojkjaeaaGreatDoor
open Go.RowKit Go.Mt Go.Conc Go.Tt Go.Maps
def sA:wA->wA| .seq a _=>a|_=>.skip
def sB:wA->wA| .seq _ b=>b|_=>.skip
def cA:wA->wA| .cond _ a _=>a|_=>.skip
def cB:wA->wA| .cond _ _ b=>b|_=>.skip
def cX:wA->cI| .cond x _ _=>x|_=>.const aA
def bI:wA->Nat| .block i _=>i| .region i _ _=>i|_=>0
def rO:wA->Array aZ| .region _ o _=>o|_=>#[]
def N4:Nat->List aF->List aF
 |0,_=>[]
 |n+1,[]=>aA::N4 n []
 |n+1,a::l=>a::N4 n l
theorem zsl:∀n,N4 n []=ztZ n aA
 |0=>rfl
 |n+1=>by rw[N4,zsl n];rfl
theorem zq4:∀(n:Nat) (l:List aF),l.length<=n->l++ztZ (n-l.length) aA=N4 n l
 |n,[],_=>by rw[zsl];simp
 |n+1,a::l,h=>by
  simp only[List.length_cons,Nat.add_sub_add_right,List.cons_append,N4];rw[zq4 n l ze9]
theorem pad_eq {n:Nat}{l T:List aF}(hl:l.length<=n)(hT:N4 n l=T):l.toArray++oC (n-l.toArray.size) aA=T.toArray:=by
 subst hT;rw[<-zq4 n l hl];simp
structure G2 where
 ty:aM
 Wg:Nat
 N:Nat
 W:List fB
 D:aE->Prop
 Fin:bC->aE->Prop
 St:Nat->Prop
 W0:aE
 StI:Nat->Prop
 Shun:Loc->Prop
 SS:Nat->Prop
 R0:Pr
 Fz:Nat->Prop
 Wf:aE
 qs:List Nat
abbrev G2.d (e:G2):pT:=⟨aK,C7,fT,e.ty,e.Wg,e.N,e.W,e.D,e.Fin,e.St,e.W0,e.StI,e.Shun,e.SS,e.R0,e.Fz,e.Wf,e.qs⟩
section
variable {d:pT}{f:aN}{s:WS}{B:List Nat}{c:wA}
def CW.tape {Φ:n6->WS->Prop}(h:CW d B f c s Φ)(T:lM)(n:Nat):CW d B f c {s with w:=Tt.tp s.w T n} Φ:=λQ base kk hQ hB h1 h2 h3=>BO.tape (h Q base kk hQ hB h1 h2 h3) T n
def CW.pieceQ {Φ:n6->WS->Prop}(H:d.Ok)(hc:pJ d.p ⟨d.fs,d.gs,true⟩ c=true)(hf:vW d.p f)(uF:∀(T:lM) (Q:n6->uB->aE->Prop),qE (∀a' w',Φ .normal {s with T:=a'.tmps,w:=w'}->Q .normal a' w')->Code.wp d.p c Q ⟨s.T,[]⟩ (Tt.tp s.w T 0)):CW d B f c s Φ:=
 CW.piece H hc hf λT=>uF T _ (aD λa' w' h=>⟨rfl,h⟩)
theorem CW.pH {Φ:n6->WS->Prop}{lo hb:Nat}{v v0:fC}{dd:nV}{w0:aE}(H:d.Ok)(hf:vW d.p f)(A:qE (bE s.w lo hb v dd))(T:qE (bP hb v0 w0 v s.w))
 (uF:∀(w1:aE) (Q:n6->uB->aE->Prop),s.w.heap=w1.heap->qE (bE w1 lo hb v dd)->qE (bP hb v0 w0 v w1)->qE (∀a' w',Φ .normal {s with T:=a'.tmps,w:=w'}->Q .normal a' w')->Code.wp d.p c Q ⟨s.T,[]⟩ w1)
 (hc:pJ d.p ⟨d.fs,d.gs,true⟩ c=true:=by kernel_rfl):CW d B f c s Φ:=
 CW.pieceQ H hc hf λ_ Q HQ=>uF _ Q rfl (aD (A.o.same rfl)) (aD (T.o.same rfl)) HQ
variable {ops:Array aZ}{i:Nat}{rest is:List Nat}{Φ:WS->Prop}{o:aZ}
def CR.tape (h:CR d f ops is s Φ)(T:lM)(n:Nat):CR d f ops is {s with w:=Tt.tp s.w T n} Φ:=λQ base kk hQ h1=>BO.tape (h Q base kk hQ h1) T n
def CR.opw (H:d.Ok)(ho:ops[i]? =some o)(b9:dG o (dO ops s.T)=true)(bU:rP d.p ⟨d.fs,d.gs,true⟩ o.op=true){v:aF}(hx:∀T,(aO (bJ s.T []).eval o).run d.p (Tt.tp s.w T 0)=.ok (.value v) (Tt.tp s.w T 0))
 (h:CR d f ops rest {s with T:=(b7 ⟨s.T,[]⟩ o.dst v).tmps} Φ):CR d f ops (i::rest) s Φ:=
 CR.op H ho b9 bU λT=>⟨v,Tt.tp s.w T 0,.inl (hx T),CR.tape h T 0⟩
theorem nP {P Q:Prop}(k:Q)(h:Q->P:=by intro q;first|(simp only[Go.Act.put,List.setIfInBounds_toArray,List.set_cons_zero,List.set_cons_succ];exact q)|exact q):P:=h k
theorem CR.sto (H:d.Ok)(ho:ops[i]? =some o)(b9:dG o (dO ops s.T)=true)(bU:rP d.p ⟨d.fs,d.gs,true⟩ o.op=true)(hd:o.dst=none){w':aE}(hx:∀T,(aO (bJ s.T []).eval o).run d.p (Tt.tp s.w T 0)=.ok .skip (Tt.tp w' T 0))
 (h:CR d f ops rest {s with w:=w'} Φ):CR d f ops (i::rest) s Φ:=
 CR.op H ho b9 bU λT=>⟨aA,Tt.tp w' T 0,.inr ⟨hx T,rfl⟩,by
  have:=CR.tape h T 0;have e:(b7 ⟨s.T,[]⟩ o.dst aA).tmps=s.T:=by rw[hd];rfl
  rw[e];exact this⟩
end
section
variable {d:pT}{f:aN}{s:WS}{B:List Nat}{c:wA}
theorem CW.sq (H:d.Ok){Φ:n6->WS->Prop}(h:CW d B f (sA c) s (λe s'=>match e with| .normal=>CW d B f (sB c) s' Φ|e=>Φ e s'))(e:c=.seq (sA c) (sB c):=by exact rfl):CW d B f c s Φ:=by
 rw[e];exact CW.seq H h
theorem CW.cd (H:d.Ok){Φ:n6->WS->Prop}(t:Bool)(h:CW d B f (if t then cA c else cB c) s Φ)(e:c=.cond (cX c) (cA c) (cB c):=by exact rfl)(hx:dP d.fs (cX c)=true:=by exact rfl)(hc:(bJ s.T []).eval (cX c)=.bool t:=by exact rfl):CW d B f c s Φ:=by
 rw[e];exact CW.cond H hx hc h
theorem CW.sk (H:d.Ok){Φ:n6->WS->Prop}(h:Φ .normal s)(e:c=.skip:=by exact rfl):CW d B f c s Φ:=by
 rw[e];exact CW.skip H h
theorem CW.rt (H:d.Ok){Φ:n6->WS->Prop}(h:Φ .ret s)(e:c=.ret:=by exact rfl):CW d B f c s Φ:=by
 rw[e];exact CW.ret H h
theorem CW.rg (H:d.Ok){Φ:n6->WS->Prop}(is:List Nat)(h:CR d f (rO c) is s (λs'=>Φ .normal s'))(e:c=.region (bI c) (rO c) false:=by exact rfl)(hr:iX (rO c).size=is:=by exact rfl):CW d B f c s Φ:=by
 rw[e];exact CW.reg H is hr h
theorem CW.pQ {c':wA}{Φ:n6->WS->Prop}(H:d.Ok)(hf:vW d.p f)(uF:∀(T:lM) (Q:n6->uB->aE->Prop),qE (∀a' w',Φ .normal {s with T:=a'.tmps,w:=w'}->Q .normal a' w')->Code.wp d.p c' Q ⟨s.T,[]⟩ (Tt.tp s.w T 0))
 (e:c=c':=by conv=>lhs;whnf) (hc:pJ d.p ⟨d.fs,d.gs,true⟩ c=true:=by kernel_rfl):CW d B f c s Φ:=by
 subst e;exact CW.pieceQ H hc hf uF
variable {v0:fC}{dd:nV}{w0:aE}
theorem CW.pW {c':wA}{Φ:n6->WS->Prop}{lo hb:Nat}{v:fC}(H:d.Ok)(hf:vW d.p f)(A:qE (bE s.w lo hb v dd))(T:qE (bP hb v0 w0 v s.w))
 (uF:∀(w1:aE) (Q:n6->uB->aE->Prop),s.w.heap=w1.heap->qE (bE w1 lo hb v dd)->qE (bP hb v0 w0 v w1)->qE (∀a' w',Φ .normal {s with T:=a'.tmps,w:=w'}->Q .normal a' w')->Code.wp d.p c' Q ⟨s.T,[]⟩ w1)
 (e:c=c':=by conv=>lhs;whnf) (hc:pJ d.p ⟨d.fs,d.gs,true⟩ c=true:=by kernel_rfl):CW d B f c s Φ:=by
 subst e;exact CW.pH H hf A T uF hc
theorem CW.p0 {c':wA}{T':Array aF}{Φ:n6->WS->Prop}{lo hb:Nat}{v:fC}(H:d.Ok)(hf:vW d.p f)(A:qE (bE s.w lo hb v dd))(T:qE (bP hb v0 w0 v s.w))
 (h:∀w1:aE,s.w.heap=w1.heap->qE (bE w1 lo hb v dd)->qE (bP hb v0 w0 v w1)->Φ .normal {s with T:=T',w:=w1})
 (e:c=c':=by conv=>lhs;whnf) (uF:∀(w1:aE) (Q:n6->uB->aE->Prop),qE (∀a':uB,a'.tmps=T'->Q .normal a' w1)->Code.wp d.p c' Q ⟨s.T,[]⟩ w1:=by(intro w1 Q HQ;go_wp2;exact HQ.o _ rfl))
 (hc:pJ d.p ⟨d.fs,d.gs,true⟩ c=true:=by kernel_rfl):CW d B f c s Φ:=by
 subst e;exact CW.pH H hf A T (λw1 Q hw A1 T1 HQ=>uF w1 Q (aD λa' ha=>HQ.o a' w1 (ha▸h w1 hw A1 T1))) hc
variable {K:Pr}{w:aE}
theorem CF.of {g:aN}{l:List aF}{L:gI}{Ψ:Pr->gI->aF->aE->Prop}{fnf:Func}(n:Nat){T:List aF}(hf:d.p.funcs[g]? =some fnf)(hp:Ia fnf.results.toList)
 (h:CW d [] g (fnf.body.getD .skip) ⟨[],K,L,T.toArray,w⟩ (λe s'=>(e=.normal\/e=.ret)/\s'.chs=[]/\∃v,(o5 fnf.results.toList s'.T).run d.p s'.w=.ok v s'.w/\Ψ s'.K s'.l v s'.w))
 (hT:N4 n l=T:=by(simp only[N4];rfl)) (hl:l.length<=n:=by exact Nat.le_of_ble_eq_true rfl) (hn:fnf.ntmps=n:=by exact rfl) (hb:fnf.body=some (fnf.body.getD .skip):=by exact rfl) (hr:(fnf.name== "runtime.NumGoroutine")=false:=by decide):CF d g l.toArray K L w Ψ:=
 ⟨⟨fnf,_,hf,hr,hb,hp,by rw[hn,pad_eq hl hT];exact h⟩⟩
variable {ops:Array aZ}{i:Nat}{rest:List Nat}{Φ:WS->Prop}{o:aZ}
def zcU {o':aZ}(h:ops[i]? =some o')(e:o'=o):ops[i]? =some o:=e▸h
variable {l:gI}
theorem CR.mv {chs:List Nat}{T T':Array aF}(H:d.Ok)(v:aF)(h:CR d f ops rest ⟨chs,K,l,T',w⟩ Φ)(ho:ops[i]? =some o:=by exact zcU rfl (by conv=>lhs;whnf))
 (hx:∀τ,(aO (bJ T []).eval o).run d.p (Tt.tp w τ 0)=.ok (.value v) (Tt.tp w τ 0):=by exact λ_=>rfl)
 (b9:dG o (dO ops T)=true:=by exact rfl) (bU:rP d.p ⟨d.fs,d.gs,true⟩ o.op=true:=by kernel_rfl)
 (ht:(b7 ⟨T,[]⟩ o.dst v).tmps=T':=by first|(simp only[Go.Act.put,List.setIfInBounds_toArray,List.set_cons_zero,List.set_cons_succ];done)|(simp only[Go.Act.put,List.setIfInBounds_toArray,List.set_cons_zero,List.set_cons_succ];rfl)):CR d f ops (i::rest) ⟨chs,K,l,T,w⟩ Φ:=
 CR.opw (s:=⟨chs,K,l,T,w⟩) H ho b9 bU hx (ht▸h)
theorem CR.mg {chs:List Nat}{T T':Array aF}(H:d.Ok)(v:aF)(h:CR d f ops rest ⟨chs,K,l,T',w⟩ Φ)(ho:ops[i]? =some o:=by exact zcU rfl (by conv=>lhs;whnf))
 (hx:∀τ,(aO (bJ T []).eval o).run d.p (Tt.tp w τ 0)=.ok (.value v) (Tt.tp w τ 0):=by intro τ;unfold execOp;go_simp)
 (b9:dG o (dO ops T)=true:=by exact rfl) (bU:rP d.p ⟨d.fs,d.gs,true⟩ o.op=true:=by kernel_rfl)
 (ht:(b7 ⟨T,[]⟩ o.dst v).tmps=T':=by first|(simp only[Go.Act.put,List.setIfInBounds_toArray,List.set_cons_zero,List.set_cons_succ];done)|(simp only[Go.Act.put,List.setIfInBounds_toArray,List.set_cons_zero,List.set_cons_succ];rfl)):CR d f ops (i::rest) ⟨chs,K,l,T,w⟩ Φ:=
 CR.opw (s:=⟨chs,K,l,T,w⟩) H ho b9 bU hx (ht▸h)
theorem allx {fs:aN->Bool}{l:List cI}(h:l.all (dP fs)=true):l.toArray.all (dP fs)=true:=by simpa using h
theorem CR.cl {T:Array aF}(H:d.Ok){g:aN}{args:List cI}{kY:Array aM}{Ψ:Pr->gI->aF->aE->Prop}{Nt:Array aF}
 (hc:CF d g Nt K l w Ψ) (hk:∀K' l' v w',K.le K'->Ψ K' l' v w'->CR d f ops rest ⟨[],K',l',(b7 ⟨T,[]⟩ o.dst v).tmps,w'⟩ Φ)
 (ho:ops[i]? =some o:=by exact zcU rfl (by conv=>lhs;whnf)) (hop:o.op=.call ⟨.value (.func g),args.toArray,kY⟩:=by exact rfl) (b9:dG o (dO ops T)=true:=by exact rfl) (wF:args.all (dP d.fs)=true:=by exact rfl) (ha:args.toArray.map (bJ T []).eval=Nt:=by(simp only[List.map_toArray,List.map_cons,List.map_nil];rfl)):CR d f ops (i::rest) ⟨[],K,l,T,w⟩ Φ:=
 CR.call (s:=⟨[],K,l,T,w⟩) H ho b9 hop (allx wF) rfl (by rw[ha];exact hc) hk
end
section
variable {P:bT}{o:aZ}{Tf:Array aF}{w:aE}{A B C D:Prop}
theorem uN (v:aF)(a:A)(h:A->(aO (bJ Tf []).eval o).run P w=.ok (.value v) w:=by(intro e1;(conv at e1=>rhs;whnf);unfold execOp;go_simp)):(aO (bJ Tf []).eval o).run P w=.ok (.value v) w:=h a
theorem rd2 (v:aF)(a:A)(b:B)(h:A->B->(aO (bJ Tf []).eval o).run P w=.ok (.value v) w:=by(intro e1 e2;(conv at e1=>rhs;whnf);unfold execOp;go_simp)):(aO (bJ Tf []).eval o).run P w=.ok (.value v) w:=h a b
theorem rd4 (v:aF)(a:A)(b:B)(c:C)(d:D)(h:A->B->C->D->(aO (bJ Tf []).eval o).run P w=.ok (.value v) w:=by(intro e1 e2 e3 e4;(conv at e1=>rhs;whnf);unfold execOp;go_simp)):(aO (bJ Tf []).eval o).run P w=.ok (.value v) w:=h a b c d
end
def ziU:Go.Code:=(Tryz.f82.body).getD .skip
def rAO1:Go.Code:=match ziU with| .seq _ (.seq (a) _)=>a|_=>.skip
def rAO2:Go.Code:=match ziU with| .seq _ (.seq _ (.seq (a) _))=>a|_=>.skip
def rAO3:Go.Code:=match ziU with| .seq _ (.seq _ (.seq _ (.seq (a) _)))=>a|_=>.skip
def zx1:Array Oper:=match rAO1 with| .region _ ops _=>ops|_=>#[]
abbrev oAO1_0:Oper:=aV zx1 0 (some 10) (.makeChan 84 (.const (.int .i64 0)))
def zz0:zx1[0]? =some oAO1_0:=rfl
def zvS:Array Oper:=match rAO2 with| .region _ ops _=>ops|_=>#[]
abbrev oAO2_12:Oper:=aV zvS 12 none (.send (.tmp 18) (.tmp 22))
def zGo:zvS[12]? =some oAO2_12:=rfl
def zug:Array Oper:=match rAO3 with| .region _ ops _=>ops|_=>#[]
abbrev oAO3_1:Oper:=aV zug 1 (some 24) (.recv 84 (.tmp 23) false)
def zDW:zug[1]? =some oAO3_1:=rfl
def fokAO:vW aK 82:=⟨_,zvA,.inr (.inl ⟨_,rfl⟩)⟩
theorem zzH:∃ie,aK.info? 3=some ie/\ie.zero=some (.int .i64 0):=by
 obtain⟨i0,hi,fV,_,_⟩:=info_parts zFt;exact⟨i0,hi,fV⟩
theorem zck {e:G2}(H:e.d.Ok){K:Pr}{k q:Nat}{w:aE}{lo hb:Nat}{v:fC}{d:nV}{kd cl anz:Int}(h:bE w lo hb v d)(hW:e.W[k]? =some (.ask q kd cl anz))(hq:q<d.qn.length)(zA:q<=100)(hK:∀(i g:Nat),d.qn[i]? =some g->K g (qa e.qs i)):
 CF e.d 82 #[.pointer (some ⟨hb,0,none⟩),.int .i64 ((q:Int)+1),.int .i64 kd,.int .i64 cl] K (.wk e.qs k) w (λK' l' x w'=>l'=.wk e.qs (k+1)/\x=.int .i64 anz/\w'=w.alloc o6):=by
 refine CF.of 25 zvA (.inr (.inl ⟨_,rfl⟩)) ?_;obtain⟨AQ,cQ,Z6,hs⟩:=Hn h.Q aH;obtain⟨bq,off,g,rfl,hg,hv⟩:=zgI hs hq;have zfz:=aI h.blk 6;have k6:w.cell? ⟨hb,6,none⟩=some (.slice (some ⟨bq,off,none⟩) d.qn.length cQ):=by rw[zfz,<-Z6];rfl
 have zGV:=hK q g hg;obtain⟨ie,jS,hz⟩:=zzH;clear zfz Z6 hs hg hK h;refine CW.sq H ?_;refine CW.pQ H fokAO (λTp Q HQ=>?_);go_wp2;refine HQ.o _ _ ?_;clear HQ;refine CW.tape (s:=⟨[],K,.wk e.qs k,_,w⟩) ?_ Tp 0;refine CW.sq H ?_;refine CW.rg H [0,1] ?_;refine CR.make H zz0 rfl rfl zxw jS rfl (λa=>?_);simp only[b7,gC,dV,dU];refine CR.mv H (.chan (some w.heap.size)) ?_;refine CR.nil H ?_;have zti:(w.alloc o6).cell? ⟨hb,6,none⟩=some (.slice (some ⟨bq,off,none⟩) d.qn.length cQ):=Aw k6 _;have zow:(w.alloc o6).cell? ⟨bq,off+q,none⟩=some (.chan (some g)):=Aw hv _;have i0:(0:Int)<=(q:Int):=aC;have i1:(q:Int)<(d.qn.length:Int):=aC;generalize eG:w.alloc o6=w1 at zti zow;refine CW.sq H ?_;refine CW.rg H [0,1,2,3,4,5,6,7,8,9,10,11,12] ?_;refine CR.mv H (.pointer (some ⟨hb,0,none⟩)) ?_;refine CR.mv H (.pointer (some ⟨hb,0,none⟩)) ?_;refine CR.mg H (.pointer (some ⟨hb,6,none⟩)) ?_;refine CR.mv H (.slice (some ⟨bq,off,none⟩) d.qn.length cQ) ?_ (hx:=λT=>by have hh:(Tt.tp w1 T 0).cell? _=_:=zti;unfold aO;go_simp);refine CR.mv H (.int .i64 ((q:Int)+1)) ?_;refine CR.mv H (.int .i64 (q:Int)) ?_ (hx:=λT=>by unfold aO;go_simp;try exact Ge aC aC);refine CR.mg H (.pointer (some ⟨bq,off+q,none⟩)) ?_;refine CR.mv H (.chan (some g)) ?_ (hx:=λT=>by have hh:(Tt.tp w1 T 0).cell? _=_:=zow;unfold aO;go_simp);refine CR.mv H (.int .i64 kd) ?_;refine CR.mv H (.int .i64 cl) ?_;refine CR.mv H (.chan (some w.heap.size)) ?_;refine CR.mv H (.agg #[.int .i64 kd,.int .i64 cl,.chan (some w.heap.size)]) ?_ (hx:=λT=>by unfold aO;go_simp;try rfl);refine CR.ask H (k:=k) (q:=q) (a:=a) zGo rfl rfl rfl rfl rfl hW rfl rfl (.inl zGV) rfl (.inr ⟨rfl,rfl⟩) ?_
 try simp only[b7,gC,dV,dU]
 refine CR.nil H ?_;refine CW.sq H ?_;refine CW.rg H [0,1,2] ?_;refine CR.mv H (.chan (some w.heap.size)) ?_;refine CR.ans H (k:=k) (q:=q) (a:=a) zDW rfl rfl zxw jS hz rfl rfl hW rfl rfl (.inr ⟨rfl,rfl⟩) ?_;simp only[b7,gC,dV,dU];refine CR.mv H (.int .i64 anz) ?_;refine CR.nil H ?_;refine CW.rt H ?_;exact⟨.inr rfl,rfl,.int .i64 anz,rfl,rfl,rfl,aQ⟩
end Go.Proofs.YtfcjiloojkjaeaaGreatDoor
namespace Go.Proofs.YtfcjiloojkjaeaaGreatDoor
open Go.RowKit
variable {v v':fC}{d:nV}
theorem fX.of (h:fX v d)(hc:v'.pC=v.pC)(ho:v'.pO=v.pO)(hm:v'.pM=v.pM){d':nV}(hr:d'.r.recs=d.r.recs)(hl:d'.ln=d.ln):fX v' d':=by
 obtain⟨a,b,c,e,f,g,i,j⟩:=h;exact⟨by rw[hc];exact a,by rw[ho];exact b,by rw[hm];exact c,by rw[hc,hr,hl];exact e,by rw[ho,hr,hl];exact f,by rw[ho,hr];exact g,by rw[hm,hr];exact i,by rw[hm,hr];exact j⟩
structure U2 (B:Nat)(w:aE)(hb:Nat)(v:fC)(s:aF)(xs:List bF):Prop where
 row:w.ownsRow B 149 2 s xs.length (bG xs)
 ap:∀b,s.ownBlock=some b->some b∉parts v hb
variable {B hb:Nat}{w:aE}{s:aF}{xs:List bF}
def U2.lt (h:U2 B w hb v s xs):∀b,s.ownBlock=some b->B<=b/\b<w.heap.size:=λb e=>h.row.lt b e
theorem U2.turn {w':aE}(h:U2 B w hb v s xs)(t:bP hb v w v' w'):U2 B w' hb v' s xs:=
 ⟨cF h.row λb e=>t.block b (h.lt b e).2 (h.ap b e),λb e x=>(t.moved b x).elim (h.ap b e) λy=>by have:=(h.lt b e).2;omega⟩
def wJ (d:nV)(m:Int)(k:Nat):nV:={d with r:={(cY d.r m k).1 with wait:=d.r.wait}}
structure Dm (w:aE)(lo hb:Nat)(v:fC)(d:nV)(m:Int)(k:Nat)(v1:fC)(s:aF)(wr:aE):Prop where
 at_:bE wr lo hb v1 (wJ d m k)
 mr:fX v1 {d with r:=(cY d.r m k).1}
 tn:bP hb v w v1 wr
 kp:zV v v1
 sW:v1.sW=v.sW
 so:U2 w.heap.size wr hb v1 s (sX d.r m k)
def below_drewN (n:Nat):Below w.heap.size w (w.drewN n):=⟨rfl,rfl,rfl,bN _,λ_ _=>rfl⟩
variable {lo k:Nat}{m:Int}{v1:fC}
def Dm.below {wr w':aE}(h:Dm w lo hb v d m k v1 s wr)(bZ:Below wr.heap.size wr w'):Dm w lo hb v d m k v1 s w':=
 ⟨h.at_.below bZ,h.mr,h.tn.trans (bP.below bZ),h.kp,h.sW,h.so.turn (bP.below bZ)⟩
variable {x:bF}
theorem Dm.more {n:Nat}{s':aF}{wr w':aE}(h:Dm w lo hb v d m k v1 s wr)(hg:wr.grownBy w' s.ownBlock)(cZ:w'.ownsRow w.heap.size 149 2 s' n (bG (sX d.r m k)++x.cells))(hn:n=(sX d.r m k).length+1)
 (eU:s'.ownBlock=s.ownBlock\/∀b,s'.ownBlock=some b->wr.heap.size<=b) (e1:cY d.r m (k+1)=cY d.r m k) (e2:sX d.r m (k+1)=sX d.r m k++[x]):Dm w lo hb v d m (k+1) v1 s' w':=by
 have e3:wJ d m (k+1)=wJ d m k:=by unfold wJ;rw[e1]
 refine⟨by rw[e3];exact h.at_.grown hg h.so.ap,by rw[e1];exact h.mr,h.tn.grown hg λb e=>(h.so.lt b e).1,h.kp,h.sW,⟨?_,λb e x=>?_⟩⟩
 .rw[e2]
  have:bG (sX d.r m k++[x])=bG (sX d.r m k)++x.cells:=by simp[bG]
  rw[this,jP];subst hn;exact cZ
 .rcases eU with eU|eU
  .exact h.so.ap b (eU▸e) x
  .have:=eU b e;have:=(h.at_.lt b x).2;omega
theorem zB4 {i:Nat}(e1:cY d.r m (k+1)=({lF (cY d.r m k).1 i tW with back:=(cY d.r m k).1.back++[x]},(cY d.r m k).2++[32]++fW x.c)):
 wJ d m (k+1)={wJ d m k with r:={(wJ d m k).r with recs:=(wJ d m k).r.recs.modify i (λz=>{z with t:=(wJ d m k).r.clk,e:=tW}),back:=(wJ d m k).r.back++[x]}}:=by
 unfold wJ;rw[e1];rfl
theorem Dm.fin {wr:aE}(h:Dm w lo hb v d m k v1 s wr)(hk:k=d.r.wait.length)(T:TK d m k)(eB:lo<=w.heap.size)(ha:bE w lo hb v d):
 bE (wr.setCell ⟨hb,7,none⟩ s) lo hb {v1 with sW:=s} {d with r:=(tG d.r m).1}/\fX {v1 with sW:=s} {d with r:=(tG d.r m).1}/\bP hb v w {v1 with sW:=s} (wr.setCell ⟨hb,7,none⟩ s)/\zV v {v1 with sW:=s}:=by
 subst hk;have e0:=TK.end_ T;have e1:(cY d.r m d.r.wait.length).1=(tG d.r m).1:=by rw[Z2]
 have h1:=h.at_.newW (ztR h.so.row eB) rfl h.so.ap;have e2:{wJ d m d.r.wait.length with r:={(wJ d m d.r.wait.length).r with wait:=sX d.r m d.r.wait.length}}=({d with r:=(tG d.r m).1}:nV):=by
  unfold wJ;simp only[e1,<-e0]
 refine⟨by rw[<-e2];exact h1,?_,⟨?_,λb bZ hn=>?_,λb hx=>?_⟩,h.kp⟩
 .have:=h.mr
  rw[e1] at this;exact fX.of (v':={v1 with sW:=s}) this rfl rfl rfl rfl rfl
 .rw[wL];exact h.tn.size
 .exact(dN wr _ _ b (λe=>hn zo2)).trans (h.tn.block b bZ hn)
 .have hp:parts {v1 with sW:=s} hb=(parts v1 hb).set 5 s.ownBlock:=rfl
  rw[hp] at hx;rcases List.mem_or_eq_of_mem_set hx with hx|hx
  .exact h.tn.moved b hx
  .exact .inr (h.so.lt b hx.symm).1
theorem zCv (h:bE w lo hb v d)(mr:fX v d)(hi:y3 d)(eB:lo<=w.heap.size)(ht:Bd lo w)(hm:0<=m)(hc:d.r.clk+m<=100000)(zbl:d.r.back.length+d.r.wait.length<=5000):
 Calls aK 105 #[.pointer (some ⟨hb,0,none⟩),.int .i64 m] w λe w'=>e=.returned (.string ⟨(tG d.r m).2.toArray⟩)/\∃v',bE w' lo hb v' {d with r:=(tG d.r m).1}/\fX v' {d with r:=(tG d.r m).1}/\bP hb v w v' w'/\zV v v':=by
 have zi8:=aD (TK.all hi hm hc zbl);have zkE:=hi.sm.clk.1;have zei:=hi.sm.nw;obtain⟨zKW,zI9⟩:=(Bb hi.R.off).2.2.2.2;obtain⟨AW,cW,Li,Lr⟩:=Hn h.W aH;obtain⟨n,hn⟩:=aP d.r.wait.length;obtain⟨ck,Jo⟩:=aP d.r.clk;have zxa:=aI h.blk 11;have Gh:w.cell? ⟨hb,11,none⟩=some (.int .i64 ck):=by rw[zxa,Jo];rfl
 have kf:=eO h.blk;obtain⟨a1,t1⟩:=h.putClk (ck+m);have Sf:wJ d m 0={d with r:={d.r with clk:=ck+m}}:=by rw[Jo];rfl
 rw[<-Sf] at a1;have I1:=aD (show Dm w lo hb v d m 0 v (.slice none 0 0) _ from⟨a1,mr.of rfl rfl rfl rfl rfl,t1,zV.rf v,rfl,⟨⟨rfl,.inl ⟨rfl,rfl⟩⟩,λb e=>by cases e⟩⟩);have Fq:=aD (ht.turn h eB t1);have HN:=aD hn;have H0:=aD Jo;have Bm:=aD (show v.sW=.slice AW n cW by rw[hn];exact Li);have Ly:n<=1000:=aC;rw[<-Jo] at hc zkE;have K7:=aD eB;have zLe:=aD ht;have HH:=aD h;clear hn Jo Li Lr a1 t1 Sf h mr hi eB ht zxa zei
 go_enter Tryz.func105,Tryz.ntmps105
 go_upto_region 2 with fail
 obtain⟨W1,cO⟩:=aP (w.setCell ⟨hb,11,none⟩ (.int .i64 (ck+m)));rw[<-cO] at I1 Fq⊢;clear cO Gh kf;have Gh:W1.cell? ⟨hb,11,none⟩=some (.int .i64 (ck+m)):=by
  have:=aI I1.o.at_.blk 11;rw[this,H0.o];rfl
 have Jy:=Pd (c:=ck+m) aC aC
 go_upto_region 3 with(go_at_call 112;refine(zzq Fq.o (ck+m) aC aC).mono ?_;rintro x w3 ⟨rfl,Vm⟩;have wD:=aD Vm;clear Vm)
 have I3:=aD (I1.o.below wD.o);clear Gh I1 Fq wD;have k7:w3.cell? ⟨hb,7,none⟩=some (.slice AW n cW):=by
  have:=aI I3.o.at_.blk 7;rw[this,<-Bm.o];rfl
 have ziL:=aD (show(⟨([97,116,32]++fW (ck+m):List UInt8).toArray⟩:ByteArray)=⟨(cY d.r m 0).2.toArray⟩ by rw[H0.o];rfl)
 go_wp2_with fail
 go_loopw [5,6,28] (λt s i wr=>∃(k:Nat) (v1:fC) (A:Option bD) (n2 c2:Nat),k<=n/\i=.int .i64 k/\t=.string ⟨(cY d.r m k).2.toArray⟩/\s=.slice A n2 c2/\Dm w lo hb v d m k v1 (.slice A n2 c2) wr) (λ_ _ i _=>n-(intOf i).toNat)
 case atStart=>
  refine⟨0,v,none,0,0,mP _,rfl,?_,rfl,I3.o⟩;rw[<-ziL.o];congr 1
 case round=>
  obtain⟨k,v1,A2,n2,c2,hk,rfl,rfl,rfl,hI⟩:=hrel;have HI:=aD hI;have T:=zi8.o k (by have:=HN.o;omega);have zeF:(cY d.r m k).2.length<=40000:=by have:=T.txt;omega
  have jO:n2=(sX d.r m k).length:=by
   rcases hI.so.row.2 with⟨e,h0⟩|⟨g,cap,cur,e,_⟩
   .injection e with e1 e2 e3;rw[e2];exact h0.symm
   .injection e with e1 e2 e3
  have Ze:n2<=1000:=by have:=T.le;omega
  have uX:=aD jO;clear hI jO;by_cases aU:k<n
  .have hW:=HI.o.at_.W
   rw[HI.o.sW,Bm.o] at hW;have hW:wr.ownsRow lo 149 2 (.slice AW n cW) n (bG d.r.wait):=by
    have e:(wJ d m k).r.wait.length=n:=HN.o.symm;rw[e] at hW;exact hW
   obtain⟨bW,zK5,x,hA,lL,fI,e0,e1⟩:=zdB (As hW aH) aU;subst hA;obtain⟨i,y,nx⟩:=T.next fI;obtain⟨gL,Nz,hO,hM,hC⟩:=HI.o.mr.onLine T.i nx.hy nx.op nx.c;obtain⟨gR,cR,ztK⟩:=zmv HI.o.at_ nx.hy;obtain⟨Su,J8⟩:=nx.b;obtain⟨Km,zzY⟩:=nx.f;rw[<-H0.o] at zzY;have i0:(0:Int)<=(k:Int):=aC;have i1:(k:Int)<(n:Int):=aC;have NX:=aD nx;have Sy:=aD fI;have HL:=aD (And.intro Nz (And.intro hO (And.intro hM hC)));have vI:=aD ztK;have HT:=aD T;clear hW nx fI Nz hO hM hC ztK T lL
   go_upto_region 7 with fail
   obtain⟨W4,qQ⟩:=aP (wr.alloc (.cells #[.int .i64 x.c,.int .i64 x.p] 149));have I4:=aD (show Dm w lo hb v d m k v1 (.slice A2 n2 c2) W4 by rw[qQ];exact HI.o.below (eD (fN _ _) _));have uW:W4.heap[wr.heap.size]? =some (.cells #[.int .i64 x.c,.int .i64 x.p] 149):=by rw[qQ];exact gU _ _
   have X2:=aD uW;have g0:=aI uW 0;have g1:=aI uW 1;have zs5:=aD (show some wr.heap.size∉parts v1 hb from λh=>by have:=(HI.o.at_.lt _ h).2;omega);obtain⟨gx,zp3⟩:∃y,y=wr.heap.size:=⟨_,rfl⟩;rw[<-qQ];rw[<-zp3] at g0 g1 X2 zs5⊢;clear qQ uW e0 e1 zp3;have Gh:W4.cell? ⟨hb,11,none⟩=some (.int .i64 (ck+m)):=by
    have:=aI I4.o.at_.blk 11;rw[this];show some (Lo .i64 (cY d.r m k).1.clk)=_;rw[HT.o.clk,H0.o]
   have k2:W4.cell? ⟨hb,2,none⟩=some (.int .i64 d.r.o.pt):=by
    have:=aI I4.o.at_.blk 2;rw[this];show some (Lo .i64 (cY d.r m k).1.o.pt)=_;rw[HT.o.o]
   have k3:=(I4.o.at_.recAt vI.o NX.o.hy (j:=3) (u:=.int .i64 y.f) aH rfl).1;have HE:=aD (λnq:Nat=>Calls.quiet_of (w:=W4) (n:=nq) ((zes (w:=W4.drewN nq) (I4.o.at_.same rfl) vI.o NX.o.hy HL.o.2.2.1).mono λe w' hh=>⟨hh.1,1,hh.2⟩));by_cases hp:ck+m-y.f<d.r.o.pt
   .go_quiet ((go_at_call 115;exact HE.o _))
    go_upto_region 8 with fail
    obtain⟨wz,sM⟩:=aP (W4.drewN nq);rw[<-sM];have IZ:=aD (show Dm w lo hb v d m k v1 (.slice A2 n2 c2) wz by rw[sM];exact I4.o.below (below_drewN nq));have zjg:wz.heap[gx]? =some (.cells #[.int .i64 x.c,.int .i64 x.p] 149):=by rw[sM];exact X2.o
    have g0:=aI zjg 0;have g1:=aI zjg 1;clear sM;obtain⟨OB,zaE⟩:=aP (.cells #[.int .i64 x.c,.int .i64 x.p] 149:Obj);have zru:=aD (IZ.o.below (eD (fN _ _) OB));have zi4:=zru.o.so.row;rw[<-uX.o] at zi4;obtain⟨q1,q2,w5,fF,cZ,mQ,eU⟩:=M3 (t:=69) (ty:=69) zdl Tryz.underlying69 rfl aH zi4 (g:=wz.heap.size) (cs:=#[.int .i64 x.c,.int .i64 x.p]) (news:=bF.cells x) (by rw[zaE];exact gU _ _) rfl (m:=1) rfl aH Qq aC aH (by have:=IZ.o.tn.size;simp;omega);rw[zaE] at fF;have AP:=aD fF;clear fF zi4 Gh k2 k3
    go_upto_region 12 with(at_builtin;refine zqr rfl (.tmp 50) (.tmp 52) 69 69 rfl (.slice A2 n2 c2) (.slice (some ⟨wz.heap.size,0,none⟩) 1 1) (.slice (some ⟨q1,0,none⟩) (n2+1) q2) rfl rfl AP.o ?_)
    have IM:=aD (zru.o.more mQ (x:=x) cZ (by rw[uX.o]) eU (NX.o.not_ zhG).1 (NX.o.not_ zhG).2);have ET:=aD (NX.o.not_ zhG).1;clear AP cZ mQ eU g0 g1 zjg;go_wp2;go_roundw
    case rel=>exact⟨k+1,v1,some ⟨q1,0,none⟩,n2+1,q2,aC,oH,by rw[ET.o],rfl,IM.o⟩
    case measure=>simp[intOf];omega
   .have zxZ:d.r.o.pt<=d.r.clk+m-y.f:=by have:=H0.o;omega
    obtain⟨E1,E2⟩:=NX.o.tired zxZ;have cG:=aD E1;have nK:=aD E2;have zzQ:=aD (show some gx∉parts v1 hb from zs5.o);clear E1 E2 zxZ
    go_quiet ((go_at_call 115;exact HE.o _))
    go_upto_region 9 with fail
    obtain⟨wz,sM⟩:=aP (W4.drewN nq);rw[<-sM];have IZ:=aD (show Dm w lo hb v d m k v1 (.slice A2 n2 c2) wz by rw[sM];exact I4.o.below (below_drewN nq));have zox:=aD (show wz.heap[gx]? =some (.cells #[.int .i64 x.c,.int .i64 x.p] 149) by rw[sM];exact X2.o);clear sM Gh k2 k3 g0 g1;have g0:=aI zox.o 0
    go_upto_region 10 with(go_at_call 116;refine(zm6 (e:=⟨#[116,105,114,101,100]⟩) IZ.o.at_ NX.o.hy HL.o.2.1 HL.o.2.2.2 HL.o.2.2.1 vI.o).mono ?_;rintro en w5 ⟨rfl,v5,a5,t5,p5⟩;have A5:=aD a5;have T5:=aD t5;have P5:=aD p5;clear a5 t5 p5)
    obtain⟨zm3,zuE⟩:=IZ.o.at_.turned T5.o zox.o zzQ.o;have zGx:=aD (fX.of (v':=v5) (IZ.o.mr.clear HT.o.i.S HT.o.i.ndl (λz hz=>(HT.o.i.lb z hz).1) NX.o.hy NX.o.op HL.o.1 (f:=λz=>{z with t:=(cY d.r m k).1.clk,e:=tW}) (λz=>⟨rfl,rfl⟩) Zg) P5.o.1 (by rw[P5.o.2.1,NX.o.c]) P5.o.2.2.1 rfl rfl);have zBA:=aD (IZ.o.so.turn T5.o);have Ed:=aD zm3;have k8:w5.cell? ⟨hb,8,none⟩=some v5.sB:=aI A5.o.blk 8;have g5:=aI zm3 0;obtain⟨OC,zaL⟩:=aP (.cells #[.int .i64 x.c] 3:Obj);have a5:=(A5.o.alloc OC).drew;have nX:(cY d.r m k).1.back.length<=5000:=HT.o.i.sm.nb;obtain⟨q1,q2,w6,fF,cZ,mQ,eU⟩:=M3 (t:=38) (ty:=38) zcX Vs rfl aH a5.B (g:=w5.heap.size) (cs:=#[.int .i64 x.c]) (news:=[.int .i64 x.c]) (by rw[zaL];exact gU _ _) rfl (m:=1) rfl aH Mk (by show(cY d.r m k).1.back.length+1<=_;omega) aH (by have:=IZ.o.tn.size;have:=T5.o.size;have:=K7.o;simp;omega);obtain⟨a6,t6⟩:=a5.putB mQ (xs:=(cY d.r m k).1.back++[x]) (by have e:jQ (((cY d.r m k).1.back++[x]).map bF.c)=jQ ((cY d.r m k).1.back.map bF.c)++[.int .i64 x.c]:=(by simp[jQ]);rw[e];exact cZ) (by simp;rfl) eU;have A6:=aD (show bE (w6.setCell ⟨hb,8,none⟩ (.slice (some ⟨q1,0,none⟩) ((cY d.r m k).1.back.length+1) q2)) lo hb {v5 with sB:=.slice (some ⟨q1,0,none⟩) ((cY d.r m k).1.back.length+1) q2} (wJ d m (k+1)) by rw[zB4 cG.o];exact a6);have T6:=aD (show bP hb v5 w5 {v5 with sB:=.slice (some ⟨q1,0,none⟩) ((cY d.r m k).1.back.length+1) q2} (w6.setCell ⟨hb,8,none⟩ (.slice (some ⟨q1,0,none⟩) ((cY d.r m k).1.back.length+1) q2)) from(bP.below (eD (fN _ w5) OC)).trans (⟨t6.size,t6.block,t6.moved⟩:bP hb v5 (w5.alloc OC) _ _));have Kx:w6.heap[hb]? =some (Nx v5 _):=(a5.other (j:=6) (c:=8) (x:=v5.sB) rfl aH mQ (.slice (some ⟨q1,0,none⟩) ((cY d.r m k).1.back.length+1) q2)).2.trans a5.blk;have Pc:=aI Kx 8;have kf:=eO Kx 8;have AP:=aD fF;clear cZ mQ eU a6 t6 a5 Kx fF zm3 g0;rw[zaL] at AP;refine wp_WA10 w5 w6 hb gx q1 ((cY d.r m k).1.back.length+1) q2 v5.sB x.c rfl rfl rfl k8 g5 AP.o Pc kf rfl ?_;rw[Go.Mt.Ax,ztn];simp only[Go.Mt.xR,dV,dU,zk6,lWA10,Dz,Dp];obtain⟨W7,Cc⟩:=aP (w6.setCell ⟨hb,8,none⟩ (.slice (some ⟨q1,0,none⟩) ((cY d.r m k).1.back.length+1) q2));rw[<-Cc] at A6 T6⊢;clear Cc k8 Pc kf g5 AP;have g7:=aI (A5.o.turned T6.o Ed.o zuE).1 0;have zJN:=Pd (c:=x.c) aC aC
    have I7:=aD (show Dm w lo hb v d m (k+1) {v5 with sB:=.slice (some ⟨q1,0,none⟩) ((cY d.r m k).1.back.length+1) q2} (.slice A2 n2 c2) W7 from
     ⟨A6.o,by rw[cG.o];refine fX.of zGx.o ?_ ?_ ?_ ?_ ?_<;>rfl,(IZ.o.tn.trans T5.o).trans T6.o,⟨P5.o.2.2.2.2.1.trans IZ.o.kp.1,P5.o.2.2.2.2.2.1.trans IZ.o.kp.2.1,P5.o.2.2.2.2.2.2.2.2.1.trans IZ.o.kp.2.2.1,P5.o.2.2.2.2.2.2.2.2.2.trans IZ.o.kp.2.2.2⟩,P5.o.2.2.2.2.2.2.1.trans IZ.o.sW,by rw[nK.o];exact zBA.o.turn T6.o⟩)
    clear T5 zuE A6 T6
    go_wp2_with (go_at_call 112;refine(zhU x.c aC aC _).mono ?_;rintro en w8 ⟨rfl,Ih⟩;obtain rfl:=Ih)
    go_roundw
    case rel=>exact⟨k+1,_,A2,n2,c2,aC,oH,by rw[cG.o];simp[N0],rfl,I7.o⟩
    case measure=>simp[intOf];omega
  .have e:k=n:=aC
   subst e;obtain⟨F1,F2,F3,F4⟩:=HI.o.fin HN.o T K7.o HH.o;have FF:=aD (And.intro F1 (And.intro F2 (And.intro F3 F4)));have k7:wr.cell? ⟨hb,7,none⟩=some v1.sW:=aI HI.o.at_.blk 7;have Vw:wr.cell? ⟨hb,7,none⟩=some (.slice AW k cW):=by rw[k7,HI.o.sW,Bm.o]
   have kf:=eO HI.o.at_.blk;have HR:=aD (show(⟨(cY d.r m k).2.toArray⟩:ByteArray)=⟨(tG d.r m).2.toArray⟩ by rw[<-Z2,<-HN.o]);clear F1 F2 F3 F4 k7;go_wp2;go_ret;exact⟨by rw[HR.o];rfl,_,FF.o⟩
end Go.Proofs.YtfcjiloojkjaeaaGreatDoor
namespace Go.Proofs.YtfcjiloojkjaeaaGreatDoor
open Go.RowKit Go.Mt Go.Conc Go.Tt Go.Maps
section
variable {d:pT}{f:aN}{s:WS}{ops:Array aZ}{i:Nat}{rest:List Nat}{Φ:WS->Prop}{o:aZ}
theorem CR.call' (H:d.Ok){g:aN}{args:Array cI}{kY:Array aM}{Ψ:Pr->gI->aF->aE->Prop}(Nt:Array aF)(ho:ops[i]? =some o)(b9:dG o (dO ops s.T)=true)(hop:o.op=.call ⟨.value (.func g),args,kY⟩)(wF:args.all (dP d.fs)=true)(tL:s.chs=[])(ha:args.map (bJ s.T []).eval=Nt)
 (hc:CF d g Nt s.K s.l s.w Ψ) (hk:∀K' l' v w',s.K.le K'->Ψ K' l' v w'->CR d f ops rest ⟨[],K',l',(b7 ⟨s.T,[]⟩ o.dst v).tmps,w'⟩ Φ):CR d f ops (i::rest) s Φ:=
 CR.call H ho b9 hop wF tL (by rw[ha];exact hc) hk
end
variable {w:aE}{lo hb:Nat}{v:fC}{d:nV}
def bE.tp (h:bE w lo hb v d)(T:lM)(n:Nat):bE (Tt.tp w T n) lo hb v d:=h.same rfl
variable {w':aE}{v':fC}
def bP.tp (h:bP hb v w v' w')(T:lM)(n:Nat):bP hb v w v' (Tt.tp w' T n):=h.same rfl
def zdq:vW aK 120:=⟨_,ztx,.inr (.inl ⟨_,rfl⟩)⟩
variable {e:G2}{K:Pr}{k q i:Nat}{c:Int}{x:bO}
theorem zom (H:e.d.Ok)(h:bE w lo hb v d)(hW:e.W[k]? =some (.ask q 1 c c))(hq:q<d.qn.length)(zA:q<=100)(hK:∀(i g:Nat),d.qn[i]? =some g->K g (qa e.qs i))
   (hx:d.r.recs[i]? =some x) (hM:lB c v.pM=some (.int .i64 (i:Int))) (U7:1<=c) (uO:c<=99):
 CF e.d 120 #[.pointer (some ⟨hb,0,none⟩),.int .i64 ((q:Int)+1),.int .i64 c] K (.wk e.qs k) w (λK' l' y w'=>l'=.wk e.qs (k+1)/\y=.string ⟨([99,97,108,108,32]++fW c).toArray⟩/\bE w' lo hb v {d with r:={d.r with recs:=d.r.recs.modify i λz=>{z with o:=(q:Int)+1,h:=d.r.clk}}}/\bP hb v w v w'):=by
 refine CF.of 29 ztx (.inr (.inl ⟨_,rfl⟩)) ?_;have HX:=aD hx;have HM:=aD hM;obtain⟨gR,cR,hR⟩:=zmv h hx;have HR:=aD hR;clear hx hM hR;refine CW.sq H ?_;refine CW.pQ H zdq (λTp Q HQ=>?_);go_wp2;refine HQ.o _ _ ?_;clear HQ;refine CW.tape (s:=⟨[],K,.wk e.qs k,_,w⟩) ?_ Tp 0;refine CW.sq H ?_;refine CW.rg H [0,1,2,3] ?_;refine CR.mv H (.pointer (some ⟨hb,0,none⟩)) ?_;refine CR.mv H (.int .i64 ((q:Int)+1)) ?_;refine CR.mv H (.int .i64 c) ?_;refine CR.cl H (zck H h hW hq zA hK) (λK' l' y w' hl qC=>?_);obtain⟨rfl,rfl,rJ⟩:=qC;simp only[b7,gC,dV,dU];have A1:=aD (show bE w' lo hb v d by rw[rJ];exact h.alloc _);have T1:=aD (show bP hb v w v w' by rw[rJ];exact bP.below (eD (fN _ _) _));clear h hW hq zA hK rJ;refine CR.nil H ?_;refine CW.sq H ?_;refine CW.pQ H zdq (λTp Q HQ=>?_);obtain⟨wa,xG⟩:=aP (Tt.tp w' Tp 0);have A2:=aD (show bE wa lo hb v d by rw[xG];exact A1.o.tp Tp 0);have T2:=aD (show bP hb v w v wa by rw[xG];exact T1.o.tp Tp 0);rw[<-xG];clear xG A1 T1
 go_wp2_with (go_at_call 115;refine(zes A2.o HR.o HX.o HM.o).mono ?_;rintro en w2 ⟨rfl,eT⟩;obtain rfl:=eT)
 refine HQ.o _ _ ?_;obtain⟨w2,eT⟩:=aP wa.drew;rw[<-eT];have A3:=aD (show bE w2 lo hb v d by rw[eT];exact A2.o.drew);have T3:=aD (show bP hb v w v w2 by rw[eT];exact T2.o.same rfl);clear HQ eT A2 T2;refine CW.sq H ?_;refine CW.pQ H zdq (λzmB Q HQ=>?_);obtain⟨zlq,xG⟩:=aP (Tt.tp w2 zmB 0);have A4:=aD (show bE zlq lo hb v d by rw[xG];exact A3.o.tp zmB 0);have T4:=aD (show bP hb v w v zlq by rw[xG];exact T3.o.tp zmB 0);dsimp only;rw[<-xG];clear xG A3 T3;obtain⟨c2,f2⟩:=A4.o.recAt HR.o HX.o (j:=2) (u:=.int .i64 x.o) aH rfl;obtain⟨a5,t5⟩:=A4.o.setR (λz=>{z with o:=(q:Int)+1}) HR.o HX.o (j:=2) (u:=.int .i64 ((q:Int)+1)) aH zsT rfl;have A5:=aD a5;have T5:=aD (T4.o.trans t5);clear a5 t5;go_wp2;refine HQ.o _ _ ?_;clear HQ c2 f2 A4 T4;obtain⟨w5,mF⟩:=aP (zlq.setCell ⟨gR,i*7+2,none⟩ (.int .i64 ((q:Int)+1)));rw[<-mF] at A5 T5⊢;clear mF;have zae:=aD (show(d.r.recs.modify i λz=>{z with o:=(q:Int)+1})[i]? =some {x with o:=(q:Int)+1} from zdM HX.o);have jR:=aD (show v.sR=.slice (some ⟨gR,0,none⟩) (d.r.recs.modify i λz=>{z with o:=(q:Int)+1}).length cR by rw[List.length_modify];exact HR.o);refine CW.sq H ?_;refine CW.pQ H zdq (λUg Q HQ=>?_);obtain⟨zek,xG⟩:=aP (Tt.tp w5 Ug 0);have A6:=aD (show bE zek lo hb v _ by rw[xG];exact A5.o.tp Ug 0);have T6:=aD (show bP hb v w v zek by rw[xG];exact T5.o.tp Ug 0);dsimp only;rw[<-xG];clear xG A5 T5;have Gh:zek.cell? ⟨hb,11,none⟩=some (.int .i64 d.r.clk):=aI A6.o.blk 11;obtain⟨c4,f4⟩:=A6.o.recAt jR.o zae.o (j:=4) (u:=.int .i64 x.h) aH rfl;obtain⟨a7,t7⟩:=A6.o.setR (λz=>{z with h:=d.r.clk}) jR.o zae.o (j:=4) (u:=.int .i64 d.r.clk) aH zpX rfl;simp only[zhz] at a7;have A7:=aD a7;have T7:=aD (T6.o.trans t7);clear a7 t7;go_wp2;refine HQ.o _ _ ?_;clear HQ c4 f4 A6 T6 Gh;obtain⟨w7,rE⟩:=aP (zek.setCell ⟨gR,i*7+4,none⟩ (.int .i64 d.r.clk));rw[<-rE] at A7 T7⊢;clear rE;have Jy:=Pd (c:=c) aC aC;refine CW.sq H ?_;refine CW.pQ H zdq (λY1 Q HQ=>?_);dsimp only
 go_wp2_with (go_at_call 112;refine(zhU c aC aC _).mono ?_;rintro en w8 ⟨rfl,Ih⟩;obtain rfl:=Ih)
 refine HQ.o _ _ ?_;clear HQ;refine CW.rt H ?_;exact⟨.inr rfl,rfl,.string ⟨([99,97,108,108,32]++fW c).toArray⟩,(by have ee:(⟨#[99,97,108,108,32]⟩:ByteArray)++⟨(fW c).toArray⟩=⟨([99,97,108,108,32]++fW c).toArray⟩:=(by simp[N0]);rw[<-ee];rfl),rfl,rfl,A7.o.tp Y1 0,T7.o.tp Y1 0⟩
structure zcx (qs:List Nat)(lo hb:Nat)(v:fC)(d:nV)(w:aE)(k n:Nat)(R:bY×List UInt8)(l':gI)(y:aF)(w':aE):Prop where
 l:l'=.wk qs (k+n)
 y:y=.string ⟨R.2.toArray⟩
 x:∃v',bE w' lo hb v' {d with r:=R.1}/\fX v' {d with r:=R.1}/\bP hb v w v' w'/\zV v v'
def Cu (W:List fB)(k:Nat)(A:List fB):Prop:=∀(j:Nat) (x:fB),A[j]? =some x->W[k+j]? =some x
variable {W A:List fB}
def Cu.head {x:fB}(h:Cu W k (x::A)):W[k]? =some x:=h 0 x rfl
theorem Cu.tail {x:fB}(h:Cu W k (x::A)):Cu W (k+1) A:=λj y hy=>by
 have:=h (j+1) y hy;rw[show k+1+j=k+(j+1) by omega];exact this
variable {n:Nat}
theorem zm7 {E s:Nat}{v:aF}{xs:List aF}(h:w.ownsRow lo E s v n xs)(hn:0<n):∃g c,v=.slice (some ⟨g,0,none⟩) n c:=by
 rcases h.2 with⟨_,h0⟩|⟨g,cap,cur,e,_⟩
 .omega
 .exact⟨g,_,e⟩
variable {b:bY}
theorem zrZ (hr:RInv b)(op:Int):0<=dL b.recs op/\(dL b.recs op≠0->0<dL b.recs op):=by
 rcases zxL b.recs op with⟨i,x,h1,_,_,h4⟩|⟨_,h4⟩
 .have:=(hr.recB x (dZ h1)).1
  rw[h4];omega
 .rw[h4];exact⟨Int.le_refl _,λh=>absurd rfl h⟩
theorem L6 (q:Nat):zL ((q:Int)+1)=q:=by unfold zL;omega
def Q3:vW aK 103:=⟨_,zqP,.inr (.inl ⟨_,rfl⟩)⟩
theorem cf_pick (H:e.d.Ok)(h:bE w lo hb v d)(mr:fX v d)(hi:y3 d)(hW:Cu e.W k (Ha d.r ((q:Int)+1)))(hq:q<d.qn.length)(zA:q<=100)(hK:∀(i g:Nat),d.qn[i]? =some g->K g (qa e.qs i)):
 CF e.d 103 #[.pointer (some ⟨hb,0,none⟩),.int .i64 ((q:Int)+1)] K (.wk e.qs k) w (λK' l' y w'=>zcx e.qs lo hb v d w k (Ha d.r ((q:Int)+1)).length (nH d.r ((q:Int)+1)) l' y w'):=by
 refine CF.of 35 zqP (.inr (.inl ⟨_,rfl⟩)) ?_;have A0:=aD h;have T0:=aD (bP.refl (hb:=hb) (v:=v) (w:=w));obtain⟨anz,M5⟩:=aP (dL d.r.recs ((q:Int)+1));have HA:=aD M5;have HI:=aD hi;have MR:=aD mr;have hg:=zrZ hi.R ((q:Int)+1);rw[<-M5] at hg;have Hs:e.W[k]? =some (.ask q 0 0 anz):=by have:=hW.head;rw[L6,<-M5] at this;exact this
 have HW:=aD hW;clear h mr hi hW M5;refine CW.sq H (CW.p0 H Q3 A0 T0 λw1 eG A1 T1=>?_);refine CW.sq H ?_;refine CW.sq H ?_;refine CW.rg H [0,1,2,3] ?_;refine CR.mv H (.pointer (some ⟨hb,0,none⟩)) ?_;refine CR.mv H (.int .i64 ((q:Int)+1)) ?_;refine CR.cl H (zck H A1.o Hs hq zA hK) (λK' l' y w' hl qC=>?_);obtain⟨rfl,rfl,rJ⟩:=qC;simp only[b7,gC,dV,dU];have A2:=aD (show bE w' lo hb v d by rw[rJ];exact A1.o.alloc _);have T2:=aD (show bP hb v w v w' by rw[rJ];exact T1.o.trans (bP.below (eD (fN _ _) _)));have rQ:∀(i g:Nat),d.qn[i]? =some g->K' g (qa e.qs i):=λi g hg=>hl _ _ (hK i g hg);clear rJ A1 T1 Hs hK hl;by_cases hz:anz=0
 .
   subst hz;refine nP ?_;refine CR.mg H (.bool false) ?_;refine CR.nil H ?_;refine CW.cd H false ?_;refine CW.sk H ?_;dsimp only;refine CW.sq H ?_;have Gs:¬0<dL d.r.recs ((q:Int)+1):=by rw[<-HA.o];omega
   have HF:=aD Gs;clear hg Gs;obtain⟨AW,cW,Li,Lr⟩:=Hn A2.o.W aH;have Bm:=aD Li
   cases b9:d.r.wait with
   |nil=>
    have Oz:=aD b9;have e1:nH d.r ((q:Int)+1)=(d.r,[110,111,110,101]):=by unfold nH;rw[if_neg HF.o,Oz.o]
    have e2:Ha d.r ((q:Int)+1)=[.ask q 0 0 0]:=by unfold Ha;rw[if_neg HF.o,Oz.o,L6,<-HA.o]
    have cG:=aD e1;have nK:=aD e2;clear e1 e2;refine CW.sq H (CW.pW H Q3 A2 T2 λw3 Q iT A3 T3 HQ=>?_);have k7:w3.cell? ⟨hb,7,none⟩=some (.slice AW 0 cW):=by
     have:=aI A3.o.blk 7;rw[this,<-show v.sW=.slice AW 0 cW by rw[Bm.o,b9];rfl];rfl
    clear b9 Li Lr;go_wp2;refine HQ.o _ _ ?_;clear HQ;refine CW.cd H true ?_;refine CW.sq H (CW.p0 H Q3 A3 T3 λw4 lS A4 T4=>?_);refine CW.rt H ?_;refine⟨.inr rfl,rfl,.string ⟨#[110,111,110,101]⟩,rfl,⟨by rw[nK.o];rfl,by rw[cG.o],v,?_,?_,?_,zV.rf v⟩⟩
    .rw[cG.o];exact A4.o
    .rw[cG.o];exact MR.o
    .exact T4.o
   |cons c cs=>
    have Oz:=aD b9;obtain⟨i,x,hx,rM,Jf,sH⟩:=HI.o.S.wt c U9;have eU:gN d.r.recs c.c=some i:=by rw[<-Jf];exact HI.o.S.at_ hx rM
    have Cz:=HI.o.R.waitB c U9;obtain⟨gL,Nz,hO,hM,hC⟩:=MR.o.onLine HI.o hx rM Jf;have Qi:dE (c::cs) c.c=cs:=zhc (st:=[]) (by have:=HI.o.R.nodup;rw[b9] at this;exact this);have e1:nH d.r ((q:Int)+1)=({d.r with recs:=d.r.recs.modify i λz=>{z with o:=(q:Int)+1,h:=d.r.clk},wait:=cs},[99,97,108,108,32]++fW c.c):=by
     unfold nH;rw[if_neg HF.o,b9];simp only[eU,Qi]
    have e2:Ha d.r ((q:Int)+1)=[.ask q 0 0 0,.ask q 1 c.c c.c]:=by unfold Ha;rw[if_neg HF.o,b9,L6,<-HA.o]
    have zbK:e.W[k+1]? =some (.ask q 1 c.c c.c):=by have:=HW.o;rw[e2] at this;exact this.tail.head
    obtain⟨gW,zJX,zfQ⟩:=zm7 A2.o.W U9;rw[Li] at zfQ;injection zfQ with qO oO An;subst qO;have hlen:d.r.wait.length=cs.length+1:=by rw[b9];rfl
    have Ly:=HI.o.sm.nw;have zwc:=aD hlen;have Rb:=aD (show v.sW=.slice (some ⟨gW,0,none⟩) (cs.length+1) cW by rw[Bm.o,hlen]);have HX:=aD hx;have HM:=aD hM;have cG:=aD e1;have nK:=aD e2;have zAm:cs.length<=1000:=aC;have U7:=Cz.1;have uO:=Cz.2;clear b9 hx rM Jf sH eU Cz Nz hO hM hC Qi e1 e2 Li Lr Bm hlen Ly oO An;refine CW.sq H (CW.pW H Q3 A2 T2 λw3 Q iT A3 T3 HQ=>?_);have k7:w3.cell? ⟨hb,7,none⟩=some (.slice (some ⟨gW,0,none⟩) (cs.length+1) cW):=by
     have:=aI A3.o.blk 7;rw[this,<-Rb.o];rfl
    go_wp2;refine HQ.o _ _ ?_;clear HQ;clear k7;refine CW.cd H false ?_;refine CW.sk H ?_;dsimp only;refine CW.sq H (CW.pW H Q3 A3 T3 λw4 Q lS A4 T4 HQ=>?_);have k7:w4.cell? ⟨hb,7,none⟩=some (.slice (some ⟨gW,0,none⟩) (cs.length+1) cW):=by
     have:=aI A4.o.blk 7;rw[this,<-Rb.o];rfl
    have oN:w4.ownsRow lo 149 2 (.slice (some ⟨gW,0,none⟩) (cs.length+1) cW) (cs.length+1) (bG (c::cs)):=by
     have:=A4.o.W;rw[Rb.o,Oz.o] at this;exact this
    obtain⟨bW,oW,x',hA,lL,fI,e0,e1⟩:=zdB (As oN aH) (k:=0) aC;injection hA with hA;injection hA with Ad Ap;subst Ad Ap;have l9:c=x':=by simpa using fI
    subst l9;simp only[Nat.zero_mul,S7] at e0 e1;clear oN fI;go_wp2;refine HQ.o _ _ ?_;clear HQ;clear k7 e0 e1 lL;refine CW.sq H (CW.pW H Q3 A4 T4 λw5 Q mF A5 T5 HQ=>?_);have k7:w5.cell? ⟨hb,7,none⟩=some (.slice (some ⟨gW,0,none⟩) (cs.length+1) cW):=by
     have:=aI A5.o.blk 7;rw[this,<-Rb.o];rfl
    have oN:w5.ownsRow lo 149 2 (.slice (some ⟨gW,0,none⟩) (cs.length+1) cW) (cs.length+1) (bG (c::cs)):=by
     have:=A5.o.W;rw[Rb.o,Oz.o] at this;exact this
    have Rz:=aD oN;clear oN
    go_wp2_with (go_at_call 119;refine(zyu (i:=0) (j:=1) Rz.o (Zv _) aC aC).mono ?_;rintro en w6 ⟨rfl,lD,kT⟩;have O0:w6.ownsRow lo 149 2 (.slice (some ⟨gW,0,none⟩) cs.length cW) cs.length (bG cs):=lD;have B6:w5.grownBy w6 v.sW.ownBlock:=(by rw[Rb.o];exact kT);have hq:=(A5.o.other (j:=5) (c:=7) (x:=v.sW) rfl aH B6 (.slice (some ⟨gW,0,none⟩) cs.length cW)).2;have Vw:=aI (hq.trans A5.o.blk) 7;have kf:=eO (hq.trans A5.o.blk) 7;have Bj:=aD (And.intro O0 B6);clear lD kT O0 B6 hq)
    refine HQ.o _ _ ?_;clear HQ;clear k7 Vw kf;obtain⟨a6,t6⟩:=A5.o.putW Bj.o.2 Bj.o.1 rfl (.inl (by rw[Rb.o];rfl));have A6:=A5;have T6:=T5;obtain⟨w7,rE⟩:=aP (w6.setCell ⟨hb,7,none⟩ (.slice (some ⟨gW,0,none⟩) cs.length cW));have A7:=aD (show bE w7 lo hb {v with sW:=.slice (some ⟨gW,0,none⟩) cs.length cW} {d with r:={d.r with wait:=cs}} by rw[rE];exact a6);have T7:=aD (show bP hb v w {v with sW:=.slice (some ⟨gW,0,none⟩) cs.length cW} w7 by rw[rE];exact(T5.o.trans t6));rw[<-rE];clear rE A6 T6;clear a6 t6 Bj A5 T5;refine CW.sq H ?_;refine CW.rg H [0,1,2,3,4] ?_;refine CR.mv H (.pointer (some ⟨hb,0,none⟩)) ?_;refine CR.mv H (.int .i64 ((q:Int)+1)) ?_;refine CR.mv H (.int .i64 c.c) ?_;refine CR.cl H (zom H A7.o zbK hq zA rQ HX.o HM.o U7 uO) (λK2 l2 y2 w8 zvO qC=>?_);obtain⟨rfl,rfl,a8,t8⟩:=qC;simp only[b7,gC,dV,dU];refine nP ?_;refine CR.mv H (.string ⟨([99,97,108,108,32]++fW c.c).toArray⟩) ?_;refine CR.nil H ?_;refine CW.rt H ?_;refine⟨.inr rfl,rfl,.string ⟨([99,97,108,108,32]++fW c.c).toArray⟩,rfl,⟨by rw[nK.o];rfl,by rw[cG.o],_,?_,?_,T7.o.trans t8,⟨rfl,rfl,rfl,rfl⟩⟩⟩
    .rw[cG.o];exact a8
    .rw[cG.o];refine fX.of (MR.o.mod (f:=λz=>{z with o:=(q:Int)+1,h:=d.r.clk}) (i:=i) λz=>⟨rfl,rfl,rfl⟩) ?_ ?_ ?_ ?_ ?_<;>rfl
 .
   have aS:0<anz:=hg.2 hz;have nX:(anz !=0)=true:=by simpa using hz
   refine nP ?_;refine CR.mv H (.bool true) ?_ (hx:=λT=>by unfold aO;go_simp;try exact nX);refine CR.nil H ?_;refine CW.cd H true ?_;refine CW.sq H (CW.p0 H Q3 A2 T2 λw3 iT A3 T3=>?_);refine CW.rt H ?_;have Aj:0<dL d.r.recs ((q:Int)+1):=by rw[<-HA.o];exact aS
   have e1:nH d.r ((q:Int)+1)=(d.r,[116,97,108,107,115]):=by unfold nH;rw[if_pos Aj]
   have e2:Ha d.r ((q:Int)+1)=[.ask q 0 0 anz]:=by unfold Ha;rw[if_pos Aj,L6,<-HA.o]
   refine⟨.inr rfl,rfl,.string ⟨#[116,97,108,107,115]⟩,rfl,⟨by rw[e2];rfl,by rw[e1],v,?_,?_,?_,zV.rf v⟩⟩
   .rw[e1];exact A3.o
   .rw[e1];exact MR.o
   .exact T3.o
variable {f:bO->bO}
theorem zyM {rs:List bO}:(rs++[x]).modify rs.length f=rs++[f x]:=by
 apply List.ext_getElem?;intro j;rw[List.getElem?_modify];rcases zrG j rs.length with h|h|h
 .rw[Mo h,Mo h]
  have aS:rs.length≠j:=aC;simp[aS]
 .subst h
  rw[Pv (bN _),Pv (bN _),zkI];simp
 .rw[zxr pR,zxr pR];rfl
structure FreeAt (d:nV)(l:Int)(i g:Nat):Prop where
 l:l=(i:Int)+1
 g:d.ln[i]? =some g
 i6:i<=100
 un:rD d.r.recs ((i:Int)+1)=false
variable {l:Int}{ls:List Int}
theorem y3.free (h:y3 d)(hf:oM d.r.o d.r.recs=l::ls):∃i g,FreeAt d l i g:=by
 have hm:l∈oM d.r.o d.r.recs:=by rw[hf];simp
 obtain⟨h1,h2⟩:=zfE h.R.off hm;have h3:=(Xz hm).2;have hn:=h.nln;obtain⟨i,rfl⟩:∃i:Nat,l=(i:Int)+1:=⟨(l-1).toNat,aC⟩;have hi:i<d.ln.length:=aC;refine⟨i,_,rfl,oX hi,aC,?_⟩;unfold oM yA at hm;have:=(L9.1 hm).2;simpa using this
theorem zw1 (hf:oM d.r.o d.r.recs=l::ls):Js d=l-1:=by unfold Js;rw[hf]
theorem zwI (hf:oM d.r.o d.r.recs=[]):Js d= -1:=by unfold Js;rw[hf]
def G6:vW aK 104:=⟨_,zsZ,.inr (.inl ⟨_,rfl⟩)⟩
theorem cf_back (H:e.d.Ok)(h:bE w lo hb v d)(mr:fX v d)(hi:y3 d)(eB:lo<=w.heap.size)(hW:Cu e.W k (Dg d.r ((q:Int)+1)))(hq:q<d.qn.length)(zA:q<=100)(hK:∀(i g:Nat),d.qn[i]? =some g->K g (qa e.qs i)):
 CF e.d 104 #[.pointer (some ⟨hb,0,none⟩),.int .i64 ((q:Int)+1)] K (.wk e.qs k) w (λK' l' y w'=>zcx e.qs lo hb v d w k (Dg d.r ((q:Int)+1)).length (l7 d.r ((q:Int)+1)) l' y w'):=by
 refine CF.of 43 zsZ (.inr (.inl ⟨_,rfl⟩)) ?_;have A0:=aD h;have T0:=aD (bP.refl (hb:=hb) (v:=v) (w:=w));obtain⟨anz,M5⟩:=aP (dL d.r.recs ((q:Int)+1));have HA:=aD M5;have HI:=aD hi;have MR:=aD mr;have K7:=aD eB;have hg:=zrZ hi.R ((q:Int)+1);rw[<-M5] at hg;have Hs:e.W[k]? =some (.ask q 0 0 anz):=by have:=hW.head;rw[L6,<-M5] at this;exact this
 have HW:=aD hW;clear h mr hi hW M5 eB;refine CW.sq H (CW.p0 H G6 A0 T0 λw1 eG A1 T1=>?_);refine CW.sq H ?_;refine CW.sq H ?_;refine CW.rg H [0,1,2,3] ?_;refine CR.mv H (.pointer (some ⟨hb,0,none⟩)) ?_;refine CR.mv H (.int .i64 ((q:Int)+1)) ?_;refine CR.cl H (zck H A1.o Hs hq zA hK) (λK' l' y w' hl qC=>?_);obtain⟨rfl,rfl,rJ⟩:=qC;simp only[b7,gC,dV,dU];have A2:=aD (show bE w' lo hb v d by rw[rJ];exact A1.o.alloc _);have T2:=aD (show bP hb v w v w' by rw[rJ];exact T1.o.trans (bP.below (eD (fN _ _) _)));have rQ:∀(i g:Nat),d.qn[i]? =some g->K' g (qa e.qs i):=λi g hg=>hl _ _ (hK i g hg);clear rJ A1 T1 Hs hK hl;by_cases hz:anz=0
 .
   subst hz;refine nP ?_;refine CR.mg H (.bool false) ?_;refine CR.nil H ?_;refine CW.cd H false ?_;refine CW.sk H ?_;dsimp only;have HF:=aD (show dL d.r.recs ((q:Int)+1)=0 from HA.o.symm);clear hg;refine CW.sq H ?_;obtain⟨AB,cB,Kw,zcN⟩:=Hn A2.o.B aH;have zS:=aD Kw;clear zcN
   cases xA:d.r.back with
   |nil=>
    have N9:=aD xA;have e1:l7 d.r ((q:Int)+1)=(d.r,[110,111,110,101]):=by unfold l7;rw[if_neg Wj,N9.o]
    have e2:Dg d.r ((q:Int)+1)=[.ask q 0 0 0]:=by unfold Dg;rw[if_neg Wj,N9.o,L6,<-HA.o]
    have cG:=aD e1;have nK:=aD e2;clear e1 e2;refine CW.sq H (CW.pW H G6 A2 T2 λw3 Q iT A3 T3 HQ=>?_);have k8:w3.cell? ⟨hb,8,none⟩=some (.slice AB 0 cB):=by
     have:=aI A3.o.blk 8;rw[this,<-show v.sB=.slice AB 0 cB by rw[zS.o,xA];rfl];rfl
    clear xA Kw;go_wp2;refine HQ.o _ _ ?_;clear HQ;refine CW.cd H true ?_;refine CW.sq H (CW.p0 H G6 A3 T3 λw4 lS A4 T4=>?_);refine CW.rt H ?_;refine⟨.inr rfl,rfl,.string ⟨#[110,111,110,101]⟩,rfl,⟨by rw[nK.o];rfl,by rw[cG.o],v,?_,?_,?_,zV.rf v⟩⟩
    .rw[cG.o];exact A4.o
    .rw[cG.o];exact MR.o
    .exact T4.o
   |cons c cs=>
    have N9:=aD xA;have Cz:=HI.o.R.backB c zaM;have eU:gN d.r.recs c.c=none:=HI.o.S.bo c zaM;have Qi:dE (c::cs) c.c=cs:=zhc (st:=[]) (by have:=HI.o.S.bk;rw[xA] at this;exact this);obtain⟨gB,zma,Aq⟩:=zm7 A2.o.B zaM;rw[Kw] at Aq;injection Aq with qO oO An;subst qO;have hlen:d.r.back.length=cs.length+1:=by rw[xA];rfl
    have nX:=HI.o.sm.nb;have Dv:=HI.o.sm.nr;have Ub:=aD (show v.sB=.slice (some ⟨gB,0,none⟩) (cs.length+1) cB by rw[zS.o,hlen]);have uT:=aD eU;have zzZ:=aD Qi;have zAm:cs.length<=5000:=aC;have U7:=Cz.1;have uO:=Cz.2;clear xA eU Qi Cz Kw zS hlen nX oO An;refine CW.sq H (CW.pW H G6 A2 T2 λw3 Q iT A3 T3 HQ=>?_);have k8:w3.cell? ⟨hb,8,none⟩=some (.slice (some ⟨gB,0,none⟩) (cs.length+1) cB):=by
     have:=aI A3.o.blk 8;rw[this,<-Ub.o];rfl
    go_wp2;refine HQ.o _ _ ?_;clear HQ;clear k8;refine CW.cd H false ?_;refine CW.sk H ?_;dsimp only;have zcZ:=HI.o.nln;have zbq:d.ln.length<=100:=by have:=(Bb HI.o.R.off).2.1;omega
    have zcc:=aD (λW (a:bE W lo hb v d)=>zwZ a MR.o zcZ zbq);clear zcZ zbq;refine CW.sq H (CW.pW H G6 A3 T3 λw4 Q lS A4 T4 HQ=>?_)
    go_wp2_with (go_at_call 109;refine(zcc.o _ A4.o).mono ?_;rintro en wz ⟨rfl,sM⟩;obtain rfl:=sM)
    refine HQ.o _ _ ?_;clear HQ;clear zcc;refine CW.sq H ?_
    cases fS:oM d.r.o d.r.recs with
    |nil=>
     rw[zwI fS];have On:=aD fS;have e1:l7 d.r ((q:Int)+1)=(d.r,[98,117,115,121]):=by unfold l7;rw[if_neg Wj,N9.o];simp only[fS]
     have e2:Dg d.r ((q:Int)+1)=[.ask q 0 0 0]:=by unfold Dg;rw[if_neg Wj,N9.o,L6,<-HA.o];simp only[fS]
     have cG:=aD e1;have nK:=aD e2;clear e1 e2 fS;refine CW.sq H (CW.p0 H G6 A4 T4 λw5 mF A5 T5=>?_);refine CW.cd H true ?_;refine CW.sq H (CW.p0 H G6 A5 T5 λw6 pN A6 T6=>?_);refine CW.rt H ?_;refine⟨.inr rfl,rfl,.string ⟨#[98,117,115,121]⟩,rfl,⟨by rw[nK.o];rfl,by rw[cG.o],v,?_,?_,?_,zV.rf v⟩⟩
     .rw[cG.o];exact A6.o
     .rw[cG.o];exact MR.o
     .exact T6.o
    |cons l ls=>
     obtain⟨i,gL,vC⟩:=HI.o.free fS;have uL:Js d=(i:Int):=by rw[zw1 fS,vC.l];omega
     rw[uL];have e1:l7 d.r ((q:Int)+1)=({d.r with back:=cs,recs:=d.r.recs++[⟨c.c,(i:Int)+1,(q:Int)+1,d.r.clk,d.r.clk,-1,dY⟩]},[99,97,108,108,32]++fW c.c):=by
      unfold l7;rw[if_neg Wj,N9.o];simp only[fS,zzZ.o,vC.l]
     have e2:Dg d.r ((q:Int)+1)=[.ask q 0 0 0,.ask q 1 c.c c.c]:=by unfold Dg;rw[if_neg Wj,N9.o,L6,<-HA.o];simp only[fS]
     have zbK:e.W[k+1]? =some (.ask q 1 c.c c.c):=by have:=HW.o;rw[e2] at this;exact this.tail.head
     have cG:=aD e1;have nK:=aD e2;have FA:=aD vC;have zGR:=vC.i6;clear e1 e2 fS vC uL;refine CW.sq H (CW.pW H G6 A4 T4 λw5 Q mF A5 T5 HQ=>?_);have i0:(0:Int)<=(i:Int):=aC;go_wp2;refine HQ.o _ _ ?_;clear HQ;refine CW.cd H false ?_;refine CW.sk H ?_;dsimp only;refine CW.sq H (CW.pW H G6 A5 T5 λw6 Q pN A6 T6 HQ=>?_);have k8:w6.cell? ⟨hb,8,none⟩=some (.slice (some ⟨gB,0,none⟩) (cs.length+1) cB):=by
      have:=aI A6.o.blk 8;rw[this,<-Ub.o];rfl
     have oN:w6.ownsRow lo 3 1 (.slice (some ⟨gB,0,none⟩) (cs.length+1) cB) (cs.length+1) (jQ ((c::cs).map bF.c)):=by
      have:=A6.o.B;rw[Ub.o,N9.o] at this;exact this
     obtain⟨bB,oB,x',hA,_,_,lL,fI,e0⟩:=(As oN aH).cellAt (k:=0) aC;injection hA with hA;injection hA with Ad Ap;subst Ad Ap;have l9:c.c=x':=by simpa using fI
     subst l9
     try simp only[S7] at e0
     clear oN fI;go_wp2;refine HQ.o _ _ ?_;clear HQ;clear k8 e0 lL;refine CW.sq H (CW.pW H G6 A6 T6 λw7 Q rE A7 T7 HQ=>?_);have k8:w7.cell? ⟨hb,8,none⟩=some (.slice (some ⟨gB,0,none⟩) (cs.length+1) cB):=by
      have:=aI A7.o.blk 8;rw[this,<-Ub.o];rfl
     have oN:w7.ownsRow lo 3 1 (.slice (some ⟨gB,0,none⟩) (cs.length+1) cB) (cs.length+1) (jQ ((c::cs).map bF.c)):=by
      have:=A7.o.B;rw[Ub.o,N9.o] at this;exact this
     have Rz:=aD oN;clear oN
     go_wp2_with (go_at_call 114;refine(zvQ (i:=0) (j:=1) Rz.o (zs9 _) aC aC).mono ?_;rintro en w8 ⟨rfl,lD,kT⟩;have O0:w8.ownsRow lo 3 1 (.slice (some ⟨gB,0,none⟩) cs.length cB) cs.length (jQ (cs.map bF.c)):=lD;have B6:w7.grownBy w8 v.sB.ownBlock:=(by rw[Ub.o];exact kT);have hq:=(A7.o.other (j:=6) (c:=8) (x:=v.sB) rfl aH B6 (.slice (some ⟨gB,0,none⟩) cs.length cB)).2;have Pc:=aI (hq.trans A7.o.blk) 8;have kf:=eO (hq.trans A7.o.blk) 8;have Bj:=aD (And.intro O0 B6);clear lD kT O0 B6 hq)
     refine HQ.o _ _ ?_;clear HQ;clear k8 Pc kf;obtain⟨a6,t6⟩:=A7.o.putB Bj.o.2 Bj.o.1 rfl (.inl (by rw[Ub.o];rfl));have A8:=A7;have T8:=T7;obtain⟨w9,J1⟩:=aP (w8.setCell ⟨hb,8,none⟩ (.slice (some ⟨gB,0,none⟩) cs.length cB));have A9:=aD (show bE w9 lo hb {v with sB:=.slice (some ⟨gB,0,none⟩) cs.length cB} {d with r:={d.r with back:=cs}} by rw[J1];exact a6);have T9:=aD (show bP hb v w {v with sB:=.slice (some ⟨gB,0,none⟩) cs.length cB} w9 by rw[J1];exact(T7.o.trans t6));rw[<-J1];clear J1 A8 T8;clear a6 t6 Bj A7 T7;refine CW.sq H (CW.pW H G6 A9 T9 λwE Q Eb sO xH HQ=>?_);have zE0:lo<=wE.heap.size:=eM K7.o xH.o.size
     go_wp2_with (go_at_call 110;refine(zrp sO.o zE0 FA.o.g aC Dv c.c).mono ?_;rintro en wI ⟨rfl,v11,zoJ,t11,zoC⟩;have Bs:=aD zoJ;have F6:=aD (xH.o.trans t11);have O6:=aD zoC;clear zoJ t11 zoC)
     refine HQ.o _ _ ?_;clear HQ;clear sO xH;refine CW.sq H ?_;refine CW.rg H [0,1,2,3,4] ?_;refine CR.mv H (.pointer (some ⟨hb,0,none⟩)) ?_;refine CR.mv H (.int .i64 ((q:Int)+1)) ?_;refine CR.mv H (.int .i64 c.c) ?_;refine CR.cl H (zom H Bs.o zbK hq zA rQ (i:=d.r.recs.length) (x:=⟨c.c,(i:Int)+1,0,d.r.clk,-1,-1,dY⟩) (by show(d.r.recs++[_])[d.r.recs.length]? =_;rw[Pv (bN _),zkI];rfl) (by rw[O6.o.2.2.1,Wm,if_pos rfl]) U7 uO) (λK2 l2 y2 Y6 zvO qC=>?_);obtain⟨rfl,rfl,a12,t12⟩:=qC;simp only[b7,gC,dV,dU];refine nP ?_;refine CR.mv H (.string ⟨([99,97,108,108,32]++fW c.c).toArray⟩) ?_;refine CR.nil H ?_;refine CW.rt H ?_;have e3:(d.r.recs++[(⟨c.c,(i:Int)+1,0,d.r.clk,-1,-1,dY⟩:bO)]).modify d.r.recs.length (λz=>{z with o:=(q:Int)+1,h:=d.r.clk})=d.r.recs++[⟨c.c,(i:Int)+1,(q:Int)+1,d.r.clk,d.r.clk,-1,dY⟩]:=zyM;refine⟨.inr rfl,rfl,.string ⟨([99,97,108,108,32]++fW c.c).toArray⟩,rfl,⟨by rw[nK.o];rfl,by rw[cG.o],v11,?_,?_,F6.o.trans t12,?_⟩⟩
     .rw[cG.o]
      have zll:=a12;dsimp only at zll;rw[e3] at zll;exact zll
     .rw[cG.o]
      refine fX.of (MR.o.more HI.o.ndl FA.o.g FA.o.un uT.o (o:=(q:Int)+1) (hh:=d.r.clk) (tt:=-1) (clk:=d.r.clk)) ?_ ?_ ?_ ?_ ?_
      .exact O6.o.1
      .exact O6.o.2.1
      .exact O6.o.2.2.1
      .rfl
      .rfl
     .exact⟨O6.o.2.2.2.1,O6.o.2.2.2.2.1,O6.o.2.2.2.2.2.2.2.1,O6.o.2.2.2.2.2.2.2.2⟩
 .
   have aS:0<anz:=hg.2 hz;have nX:(anz !=0)=true:=by simpa using hz
   have Aj:0<dL d.r.recs ((q:Int)+1):=by rw[<-HA.o];exact aS
   have cG:=aD (show l7 d.r ((q:Int)+1)=(d.r,[116,97,108,107,115]) by unfold l7;rw[if_pos Aj]);have nK:=aD (show Dg d.r ((q:Int)+1)=[.ask q 0 0 anz] by unfold Dg;rw[if_pos Aj,L6,<-HA.o]);clear Aj;refine nP ?_;refine CR.mv H (.bool true) ?_ (hx:=λT=>by unfold aO;go_simp;try exact nX);refine CR.nil H ?_;refine CW.cd H true ?_;refine CW.sq H (CW.p0 H G6 A2 T2 λw3 iT A3 T3=>?_);refine CW.rt H ?_;refine⟨.inr rfl,rfl,.string ⟨#[116,97,108,107,115]⟩,rfl,⟨by rw[nK.o];rfl,by rw[cG.o],v,?_,?_,?_,zV.rf v⟩⟩
   .rw[cG.o];exact A3.o
   .rw[cG.o];exact MR.o
   .exact T3.o
theorem zqA (xs:List bF)(q:Int):(xs.map bF.c).findIdx? (·==q)=tV xs q:=by
 unfold tV;rw[List.findIdx?_map];rfl
variable {q:Int}{xs:List bF}
theorem zHY {p:Nat}(hn:(xs.map bF.c).Nodup)(h:tV xs q=some p):dE xs q=xs.take p++xs.drop (p+1)/\p<xs.length:=by
 unfold tV at h;obtain⟨hl,hx,_⟩:=zmz.1 h;have hq:xs[p].c=q:=by simpa using hx
 have e:xs=xs.take p++xs[p]::xs.drop (p+1):=by rw[<-List.drop_eq_getElem_cons hl,List.take_append_drop]
 refine⟨?_,hl⟩;have:=zhc (st:=xs.take p) (rest:=xs.drop (p+1)) (x:=xs[p]) (by rw[<-e];exact hn);rw[<-e,hq] at this;exact this
theorem zAd (h:∀x∈xs,x.c≠q):dE xs q=xs:=by
 unfold dE;rw[List.filter_eq_self];intro x hx;simpa using h x hx
theorem zGd (xs:List bF)(p r:Nat):jQ ((xs.take p++xs.drop r).map bF.c)=(jQ (xs.map bF.c)).take p++(jQ (xs.map bF.c)).drop r:=by
 unfold jQ;rw[Sz,Sz,zsD,zxn,zsD,zxn]
theorem zCe {gx:Nat}(uW:w.heap[gx]? =some (.cells #[.int .i64 q] 3)):
 Calls aK 117 #[.slice none 0 0,.func (.func 118) #[] #[.pointer (some ⟨gx,0,none⟩)]] w λe w'=>e=.returned (.slice none 0 0)/\Below w.heap.size w w':=by
 have HI:=aD (zuB 0 w.heap.size 0 0 none [] gx q w ⟨rfl,mP _,mP _,λh=>absurd h aC⟩ aC uW)
 go_enter Tryz.func117,Tryz.ntmps117
 go_wp2_with (go_at_call 124;refine HI.o.mono ?_;rintro e w1 ⟨rfl,J8⟩;have gJ:=aD J8)
 go_ret;exact⟨rfl,gJ.o⟩
def yL:vW aK 102:=⟨_,zot,.inr (.inl ⟨_,rfl⟩)⟩
theorem cf_hang (H:e.d.Ok)(h:bE w lo hb v d)(mr:fX v d)(hi:y3 d)(eB:lo<=w.heap.size)(hW:Cu e.W k (Dl d.r c))(hK:∀(i g:Nat),d.qn[i]? =some g->K g (qa e.qs i)):
 CF e.d 102 #[.pointer (some ⟨hb,0,none⟩),.int .i64 c] K (.wk e.qs k) w (λK' l' y w'=>zcx e.qs lo hb v d w k (Dl d.r c).length (mG d.r c) l' y w'):=by
 refine CF.of 59 zot (.inr (.inl ⟨_,rfl⟩)) ?_;have A0:=aD h;have T0:=aD (bP.refl (hb:=hb) (v:=v) (w:=w));have HI:=aD hi;have MR:=aD mr;have K7:=aD eB;have HW:=aD hW;have nX:=hi.sm.nb;have Ly:=hi.sm.nw;clear h mr hi hW eB;refine CW.sq H (CW.pW H yL A0 T0 λw1 Q eG A1 T1 HQ=>?_);go_wp2;refine HQ.o _ _ ?_;clear HQ;obtain⟨gx,uW⟩:=aP w1.heap.size;obtain⟨w2,eT⟩:=aP (w1.alloc (.cells #[.int .i64 c] 3));have A2:=aD (show bE w2 lo hb v d by rw[eT];exact A1.o.alloc _);have T2:=aD (show bP hb v w v w2 by rw[eT];exact T1.o.trans (bP.below (eD (fN _ _) _)));have zdR:=aD (show w2.heap[gx]? =some (.cells #[.int .i64 c] 3) by rw[eT,uW];exact gU _ _);have NP:=aD (show some gx∉parts v hb from λhp=>by have:=(A1.o.lt _ hp).2;omega);rw[<-uW,<-eT];clear eT uW A1 T1;refine CW.sq H ?_
 cases eU:gN d.r.recs c with
 |none=>
  have uT:=aD eU;have S3:=aD (MR.o.offLine eU);clear eU;refine CW.sq H (CW.pW H yL A2 T2 λw3 Q iT A3 T3 HQ=>?_);have vO:=aD (iT▸zdR.o);have k5:w3.cell? ⟨hb,5,none⟩=some (.map (some v.mO)):=aI A3.o.blk 5;have kx:=aI vO.o 0;have lk:(Ah 67 (.map (some v.mO)) (.int .i64 c) false).run aK w3.drew=.ok (.chan none) w3.drew:=by
   have:=za1 Te Kf (zbH w3.drew) (A3.o.drew.O) (c:=c) false;rw[S3.o] at this;exact this
  refine zq2 w3 hb gx v.mO c none rfl rfl rfl k5 kx lk rfl ?_;rw[Go.Mt.Ax,zme];simp only[Go.Mt.xR,dV,dU,fHG1,lHG1,Dz,Dp];refine HQ.o _ _ ?_;clear HQ;clear k5 kx lk;obtain⟨w4,lS⟩:=aP w3.drew;have A4:=aD (show bE w4 lo hb v d by rw[lS];exact A3.o.drew);have T4:=aD (show bP hb v w v w4 by rw[lS];exact T3.o.same rfl);have Ms:=aD (show w4.heap[gx]? =some (.cells #[.int .i64 c] 3) by rw[lS];exact vO.o);rw[<-lS];clear lS A3 T3 vO;refine CW.cd H true ?_;obtain⟨AB,cB,Kw,zcN⟩:=Hn A4.o.B aH;have zS:=aD Kw;clear Kw zcN;refine CW.sq H (CW.pW H yL A4 T4 λw5 Q mF A5 T5 HQ=>?_);have Ed:=aD (mF▸Ms.o);have k8:w5.cell? ⟨hb,8,none⟩=some (.slice AB d.r.back.length cB):=by
   have:=aI A5.o.blk 8;rw[this,<-zS.o];rfl
  have kx:=aI Ed.o 0;have Gd:=aD (show cM w5 lo w5.heap.size 1 AB d.r.back.length cB (jQ (d.r.back.map bF.c)) by have:=A5.o.B;rw[zS.o] at this;exact As this aH);have HE:=aD (λnq:Nat=>Calls.quiet_of_same (w:=w5) (n:=nq) ((zpN lo w5.heap.size d.r.back.length cB AB (d.r.back.map bF.c) c (w5.drewN nq) (have hs:=Gd.o;⟨hs.len,hs.le,hs.cap,hs.at_⟩) aC).mono λe w' hh=>hh))
  go_wp2_with fail
  go_quiet ((go_at_call 113;exact HE.o _))
  go_wp2_with fail
  refine HQ.o _ _ ?_;clear HQ;obtain⟨w6,pN⟩:=aP (w5.drewN nq);have A6:=aD (show bE w6 lo hb v d by rw[pN];exact A5.o.same rfl);have T6:=aD (show bP hb v w v w6 by rw[pN];exact T5.o.same rfl);have Lb:=aD (show w6.heap[gx]? =some (.cells #[.int .i64 c] 3) by rw[pN];exact Ed.o);rw[<-pN];clear pN A5 T5 Ed k8 kx Gd HE;refine CW.sq H ?_;rw[zqA]
  cases J4:tV d.r.back c with
  |none=>
   have cG:=aD (show mG d.r c=(d.r,[103,111,110,101]) by unfold mG;rw[uT.o];simp only[J4];rfl);have nK:=aD (show Dl d.r c=[] by unfold Dl;rw[uT.o]);clear J4;simp only[Gw];refine CW.sq H ?_;refine CW.pW H yL A6 T6 λw7 Q rE A7 T7 HQ=>?_;have Hr:=aD (rE▸Lb.o);go_wp2;refine HQ.o _ _ ?_;clear HQ;refine CW.cd H true ?_;refine CW.sq H (CW.pW H yL A7 T7 λw8 Q Ih A8 T8 HQ=>?_);have Jk:=aD (Ih▸Hr.o);go_wp2;refine HQ.o _ _ ?_;clear HQ;refine CW.rt H ?_;refine⟨.inr rfl,rfl,.string ⟨#[103,111,110,101]⟩,rfl,⟨by rw[nK.o];rfl,by rw[cG.o],v,?_,?_,?_,zV.rf v⟩⟩
   .rw[cG.o];exact A8.o
   .rw[cG.o];exact MR.o
   .exact T8.o
  |some p=>
   obtain⟨Qi,nU⟩:=zHY HI.o.S.bk J4;have cG:=aD (show mG d.r c=({d.r with back:=d.r.back.take p++d.r.back.drop (p+1)},[111,102,102]) by unfold mG;rw[uT.o];simp only[J4];rw[<-Qi];rfl);have nK:=aD (show Dl d.r c=[] by unfold Dl;rw[uT.o]);have zKQ:p<=5000:=aC;obtain⟨gB,zma,Aq⟩:=zm7 A6.o.B aC;rw[zS.o] at Aq;injection Aq with qO oO An;subst qO;have i0:(0:Int)<=(p:Int):=aC;clear J4 Qi oO An;simp only[Gw];refine CW.sq H ?_;refine CW.pW H yL A6 T6 λw7 Q rE A7 T7 HQ=>?_;have Hr:=aD (rE▸Lb.o);go_wp2;refine HQ.o _ _ ?_;clear HQ;refine CW.cd H false ?_;refine CW.sk H ?_;dsimp only;refine CW.sq H (CW.pW H yL A7 T7 λw8 Q Ih A8 T8 HQ=>?_);have Jk:=aD (Ih▸Hr.o);have k8:w8.cell? ⟨hb,8,none⟩=some (.slice (some ⟨gB,0,none⟩) d.r.back.length cB):=by
    have:=aI A8.o.blk 8;rw[this,<-zS.o];rfl
   have Rz:=aD (show w8.ownsRow lo 3 1 (.slice (some ⟨gB,0,none⟩) d.r.back.length cB) d.r.back.length (jQ (d.r.back.map bF.c)) by have:=A8.o.B;rw[zS.o] at this;exact this)
   go_wp2_with (go_at_call 114;refine(zvQ (i:=p) (j:=p+1) Rz.o (zs9 _) aC aC).mono ?_;intro en w9;rw[show p+1-p=1 by omega];rintro⟨rfl,lD,kT⟩;have O0:w9.ownsRow lo 3 1 (.slice (some ⟨gB,0,none⟩) (d.r.back.length-1) cB) (d.r.back.length-1) (jQ ((d.r.back.take p++d.r.back.drop (p+1)).map bF.c)):=(by rw[zGd];exact lD);have B6:w8.grownBy w9 v.sB.ownBlock:=(by rw[zS.o];exact kT);have hq:=(A8.o.other (j:=6) (c:=8) (x:=v.sB) rfl aH B6 (.slice (some ⟨gB,0,none⟩) (d.r.back.length-1) cB)).2;have Pc:=aI (hq.trans A8.o.blk) 8;have kf:=eO (hq.trans A8.o.blk) 8;have Bj:=aD (And.intro O0 B6);clear lD kT O0 B6 hq)
   refine HQ.o _ _ ?_;clear HQ;clear k8 Pc kf;obtain⟨a6,t6⟩:=A8.o.putB Bj.o.2 Bj.o.1 pR (.inl (by rw[zS.o];rfl));have A9:=A8;have T9:=T8;obtain⟨wE,Eb⟩:=aP (w9.setCell ⟨hb,8,none⟩ (.slice (some ⟨gB,0,none⟩) (d.r.back.length-1) cB));have sO:=aD (show bE wE lo hb {v with sB:=.slice (some ⟨gB,0,none⟩) (d.r.back.length-1) cB} {d with r:={d.r with back:=d.r.back.take p++d.r.back.drop (p+1)}} by rw[Eb];exact a6);have xH:=aD (show bP hb v w {v with sB:=.slice (some ⟨gB,0,none⟩) (d.r.back.length-1) cB} wE by rw[Eb];exact(T8.o.trans t6));rw[<-Eb];clear Eb A9 T9;clear a6 t6 Bj A8 T8 Jk;refine CW.sq H (CW.p0 H yL sO xH λwI zCK Bs F6=>?_);refine CW.rt H ?_;refine⟨.inr rfl,rfl,.string ⟨#[111,102,102]⟩,rfl,⟨by rw[nK.o];rfl,by rw[cG.o],{v with sB:=.slice (some ⟨gB,0,none⟩) (d.r.back.length-1) cB},?_,?_,?_,⟨rfl,rfl,rfl,rfl⟩⟩⟩
   .rw[cG.o];exact Bs.o
   .rw[cG.o];refine fX.of MR.o ?_ ?_ ?_ ?_ ?_<;>rfl
   .exact F6.o
 |some i=>
  obtain⟨x,hx,Jf,rM⟩:=zH eU;obtain⟨gL,Nz,hO,hM,hC⟩:=MR.o.onLine HI.o hx rM Jf;obtain⟨gR,cR,hR⟩:=zmv A2.o hx;have S3:=aD hO;have HX:=aD hx;have HL:=aD (And.intro Nz (And.intro hO (And.intro hM hC)));have HR:=aD hR;have uT:=aD eU;have We:=aD (And.intro Jf rM);have hop:=HI.o.ops.op x (dZ hx);have S8:=HI.o.nqn;have Zs:=HI.o.R.off;have Ur:=aD (Bb Zs);have qH:B7 d.r.recs i=c:=by rw[Ua hx,Jf]
  have Ma:opAt d.r.recs i=x.o:=by unfold opAt;rw[hx]
  have Wv:=aD (And.intro qH Ma);clear hx Jf rM Nz hO hM hC hR eU Zs qH Ma;refine CW.sq H (CW.pW H yL A2 T2 λw3 Q iT A3 T3 HQ=>?_);have vO:=aD (iT▸zdR.o);have k5:w3.cell? ⟨hb,5,none⟩=some (.map (some v.mO)):=aI A3.o.blk 5;have kx:=aI vO.o 0;have lk:(Ah 67 (.map (some v.mO)) (.int .i64 c) false).run aK w3.drew=.ok (.chan (some gL)) w3.drew:=by
   have:=za1 Te Kf (zbH w3.drew) (A3.o.drew.O) (c:=c) false;rw[S3.o] at this;exact this
  refine zq2 w3 hb gx v.mO c (some gL) rfl rfl rfl k5 kx lk rfl ?_;rw[Go.Mt.Ax,zme];simp only[Go.Mt.xR,dV,dU,fHG1,lHG1,Dz,Dp];refine HQ.o _ _ ?_;clear HQ;clear k5 kx lk;obtain⟨w4,lS⟩:=aP w3.drew;have A4:=aD (show bE w4 lo hb v d by rw[lS];exact A3.o.drew);have T4:=aD (show bP hb v w v w4 by rw[lS];exact T3.o.same rfl);have Ms:=aD (show w4.heap[gx]? =some (.cells #[.int .i64 c] 3) by rw[lS];exact vO.o);rw[<-lS];clear lS A3 T3 vO;refine CW.cd H false ?_;refine CW.sk H ?_;dsimp only;refine CW.sq H ?_;refine CW.sq H (CW.pW H yL A4 T4 λw5 Q mF A5 T5 HQ=>?_);have Ed:=aD (mF▸Ms.o);have kx:=aI Ed.o 0;have zwa:=aD (λW (a:bE W lo hb v d)=>zes a HR.o HX.o HL.o.2.2.1);obtain⟨c2,f2⟩:=A5.o.recAt HR.o HX.o (j:=2) (u:=.int .i64 x.o) aH rfl
  go_wp2_with (go_at_call 115;refine(zwa.o _ A5.o).mono ?_;rintro en wz ⟨rfl,sM⟩;obtain rfl:=sM)
  refine HQ.o _ _ ?_;clear HQ;clear kx zwa c2 f2;obtain⟨w6,pN⟩:=aP w5.drew;have A6:=aD (show bE w6 lo hb v d by rw[pN];exact A5.o.drew);have T6:=aD (show bP hb v w v w6 by rw[pN];exact T5.o.same rfl);have Lb:=aD (show w6.heap[gx]? =some (.cells #[.int .i64 c] 3) by rw[pN];exact Ed.o);rw[<-pN];clear pN A5 T5 Ed;refine CW.sq H ?_;by_cases hz:x.o=0
  .
    have cG:=aD (show mG d.r c=(lF d.r i vL,[108,101,102,116]) by unfold mG;rw[uT.o];simp only;rw[Wv.o.2,hz,if_neg aH]);have nK:=aD (show Dl d.r c=[] by unfold Dl;rw[uT.o];simp only;rw[Wv.o.2,hz,if_neg aH]);rw[hz];clear hz;refine CW.pW H yL A6 T6 λw7 Q rE A7 T7 HQ=>?_;have Hr:=aD (rE▸Lb.o);go_wp2;refine HQ.o _ _ ?_;clear HQ;refine CW.cd H false ?_;refine CW.sk H ?_;dsimp only;refine CW.sq H (CW.pW H yL A7 T7 λw8 Q Ih A8 T8 HQ=>?_);have Jk:=aD (Ih▸Hr.o);have kx:=aI Jk.o 0
    go_wp2_with (go_at_call 116;refine(zm6 (e:=⟨#[108,101,102,116]⟩) A8.o HX.o HL.o.2.1 HL.o.2.2.2 HL.o.2.2.1 HR.o).mono ?_;rintro en w9 ⟨rfl,v9,a5,t5,p5⟩;have A9:=aD a5;have T9:=aD (T8.o.trans t5);have P9:=aD p5;have zxS:=aD t5;clear a5 t5 p5)
    refine HQ.o _ _ ?_;clear HQ;clear kx;have znR:=aD (fX.of (v':=v9) (MR.o.clear HI.o.S HI.o.ndl (λz hz=>(HI.o.lb z hz).1) HX.o We.o.2 HL.o.1 (f:=λz=>{z with t:=d.r.clk,e:=vL}) (λz=>⟨rfl,rfl⟩) zfx) P9.o.1 (by rw[P9.o.2.1,We.o.1]) P9.o.2.2.1 rfl rfl);obtain⟨kg,np⟩:=A8.o.turned zxS.o Jk.o NP.o;have Zz:=aD kg;have zJi:=aD np;clear kg np zxS A8 T8 Jk;have ziS:=A9.o.W;have zu6:({d with r:={d.r with recs:=d.r.recs.modify i λz=>{z with t:=d.r.clk,e:=vL}}}:nV).r.wait.length=d.r.wait.length:=rfl;rcases ziS.2 with⟨Yc,h0⟩|⟨gW,cW,cur,Lr,_⟩
    .
      have K5:d.r.wait=[]:=List.eq_nil_of_length_eq_zero h0;have uQ:=aD (show lF d.r i vL={d.r with recs:=d.r.recs.modify i λz=>{z with t:=d.r.clk,e:=vL}} by unfold lF;rw[K5];show bY.mk _ _ _ [] _ _=_;rw[<-K5];rfl);have zjW:=aD Yc;clear ziS zu6 Yc h0 K5;refine CW.sq H (CW.pW H yL A9 T9 λwE Q Eb sO xH HQ=>?_);have Wt:=aD (Eb▸Zz.o);have k7:wE.cell? ⟨hb,7,none⟩=some (.slice none 0 0):=by
       have:=aI sO.o.blk 7;rw[this,<-zjW.o];rfl
      go_wp2_with (go_at_call 117;refine(zCe Wt.o).mono ?_;rintro en wI ⟨rfl,zi1⟩;have Bs:=aD (sO.o.below zi1);have F6:=aD (xH.o.trans (bP.below zi1));have Vw:=aI Bs.o.blk 7;have kf:=eO Bs.o.blk 7;clear zi1)
      refine HQ.o _ _ ?_;clear HQ;clear k7 Vw kf;have zlY:wI.setCell ⟨hb,7,none⟩ (.slice none 0 0)=wI.setCell ⟨hb,7,none⟩ v9.sW:=by rw[zjW.o]
      have a12:=Bs.o.newW (s':=v9.sW) (xs:=d.r.wait) Bs.o.W rfl (λb e=>by rw[zjW.o] at e;cases e);have t12:bP hb v9 wI v9 (wI.setCell ⟨hb,7,none⟩ v9.sW):=⟨by rw[wL];exact bN _,λb bZ hn=>dN wI _ _ b (λe=>hn zo2),λb hx=>.inl hx⟩;obtain⟨Y6,Nj⟩:=aP (wI.setCell ⟨hb,7,none⟩ (.slice none 0 0));have zcT:=aD (show bE Y6 lo hb v9 {d with r:={d.r with recs:=d.r.recs.modify i λz=>{z with t:=d.r.clk,e:=vL}}} by rw[Nj];exact(by rw[zlY];exact a12));have zbI:=aD (show bP hb v w v9 Y6 by rw[Nj];exact(by rw[zlY];exact F6.o.trans t12));rw[<-Nj];clear Nj Bs F6;clear a12 t12 zlY sO xH Wt;refine CW.sq H (CW.p0 H yL zcT zbI λzsa zuw zcm zc8=>?_);refine CW.rt H ?_;refine⟨.inr rfl,rfl,.string ⟨#[108,101,102,116]⟩,rfl,⟨by rw[nK.o];rfl,by rw[cG.o],v9,?_,?_,?_,Cs.kept P9.o.2.2.2.2⟩⟩
      .rw[cG.o];rw[uQ.o];exact zcm.o
      .rw[cG.o];rw[uQ.o];exact znR.o
      .exact zc8.o
    .
      have uQ:=aD (show lF d.r i vL={d.r with recs:=d.r.recs.modify i (λz=>{z with t:=d.r.clk,e:=vL}),wait:=dE d.r.wait c} by unfold lF;rw[Wv.o.1];rfl);have Qp:=aD (show v9.sW=.slice (some ⟨gW,0,none⟩) d.r.wait.length cW from Lr);clear ziS zu6 Lr;refine CW.sq H (CW.pW H yL A9 T9 λwE Q Eb sO xH HQ=>?_);have Wt:=aD (Eb▸Zz.o);have k7:wE.cell? ⟨hb,7,none⟩=some (.slice (some ⟨gW,0,none⟩) d.r.wait.length cW):=by
       have:=aI sO.o.blk 7;rw[this,<-Qp.o];rfl
      have Rz:=aD (show wE.ownsRow lo 149 2 (.slice (some ⟨gW,0,none⟩) d.r.wait.length cW) d.r.wait.length (bG d.r.wait) by have:=sO.o.W;rw[Qp.o] at this;exact this)
      go_wp2_with (go_at_call 117;refine(zBq Rz.o aC Wt.o).mono ?_;rintro en wI ⟨nW,rfl,zuM,lD,kT⟩;have B6:wE.grownBy wI v9.sW.ownBlock:=(by rw[Qp.o];exact kT);have hq:=(sO.o.other (j:=5) (c:=7) (x:=v9.sW) rfl aH B6 (.slice (some ⟨gW,0,none⟩) nW cW)).2;have Vw:=aI (hq.trans sO.o.blk) 7;have kf:=eO (hq.trans sO.o.blk) 7;have Bj:=aD (And.intro lD (And.intro B6 zuM));clear lD kT B6 hq zuM)
      refine HQ.o _ _ ?_;clear HQ;clear k7 Vw kf;obtain⟨a6,t6⟩:=sO.o.putW Bj.o.2.1 Bj.o.1 Bj.o.2.2 (.inl (by rw[Qp.o];rfl));have Bs:=sO;have F6:=xH;obtain⟨Y6,Nj⟩:=aP (wI.setCell ⟨hb,7,none⟩ (.slice (some ⟨gW,0,none⟩) nW cW));have zcT:=aD (show bE Y6 lo hb {v9 with sW:=.slice (some ⟨gW,0,none⟩) nW cW} {d with r:={d.r with recs:=d.r.recs.modify i (λz=>{z with t:=d.r.clk,e:=vL}),wait:=dE d.r.wait c}} by rw[Nj];exact a6);have zbI:=aD (show bP hb v w {v9 with sW:=.slice (some ⟨gW,0,none⟩) nW cW} Y6 by rw[Nj];exact(xH.o.trans t6));rw[<-Nj];clear Nj Bs F6;clear a6 t6 Bj sO xH Wt;refine CW.sq H (CW.p0 H yL zcT zbI λzsa zuw zcm zc8=>?_);refine CW.rt H ?_;refine⟨.inr rfl,rfl,.string ⟨#[108,101,102,116]⟩,rfl,⟨by rw[nK.o];rfl,by rw[cG.o],{v9 with sW:=.slice (some ⟨gW,0,none⟩) nW cW},?_,?_,?_,⟨P9.o.2.2.2.2.1,P9.o.2.2.2.2.2.1,P9.o.2.2.2.2.2.2.2.2.1,P9.o.2.2.2.2.2.2.2.2.2⟩⟩⟩
      .rw[cG.o];rw[uQ.o];exact zcm.o
      .rw[cG.o];rw[uQ.o];refine fX.of znR.o ?_ ?_ ?_ ?_ ?_<;>rfl
      .exact zc8.o
  .
    have Aj:0<x.o:=aC;obtain⟨q,zww⟩:∃q:Nat,x.o=(q:Int)+1:=⟨(x.o-1).toNat,aC⟩;have hq:q<d.qn.length:=aC;have zA:q<=100:=by have:=Ur.o.2.2.2.1;omega
    have zei:dE d.r.wait c=d.r.wait:=zAd λy hy e=>by
     obtain⟨j,z,h1,h2,h3,h4⟩:=HI.o.S.wt y hy;have:=HI.o.S.opn i j x z HX.o h1 We.o.2 h2 (.inl (by rw[We.o.1,h3,e]));subst this;rw[HX.o] at h1;injection h1 with h1;rw[<-h1] at h4;exact hz h4
    have cG:=aD (show mG d.r c=(lF d.r i vK,[100,111,110,101]) by unfold mG;rw[uT.o];simp only;rw[Wv.o.2,if_pos Aj]);have nK:=aD (show Dl d.r c=[.ask q 1 0 0] by unfold Dl;rw[uT.o];simp only;rw[Wv.o.2,if_pos Aj,zww,L6]);have uQ:=aD (show lF d.r i vK={d.r with recs:=d.r.recs.modify i λz=>{z with t:=d.r.clk,e:=vK}} by unfold lF;rw[Wv.o.1,zei];rfl);have zbK:e.W[k]? =some (.ask q 1 0 0):=by have:=HW.o;rw[nK.o] at this;exact this.head
    rw[zww];have zfG:((q:Int)+1 !=0)=true:=by have:(q:Int)+1≠0:=aC;simpa using this
    have zFz:¬(q:Int)+1=0:=aC;clear hz Aj zei;refine CW.pW H yL A6 T6 λw7 Q rE A7 T7 HQ=>?_;have Hr:=aD (rE▸Lb.o);go_wp2;refine HQ.o _ _ ?_;clear HQ
    try simp only[zFz,not_false_eq_true,decide_true,bne_iff_ne,ne_eq]
    refine CW.cond H (t:=true) rfl (by first|rfl|exact congrArg Ng zfG) ?_;refine CW.sq H ?_;refine CW.rg H [0,1,2] ?_;refine CR.mv H (.pointer (some ⟨hb,0,none⟩)) ?_;refine CR.mv H (.int .i64 ((q:Int)+1)) ?_;refine CR.cl H (zck H A7.o zbK hq zA hK) (λK' l' y w' hl qC=>?_);obtain⟨rfl,rfl,rJ⟩:=qC;simp only[b7,gC,dV,dU];have A8:=aD (show bE w' lo hb v d by rw[rJ];exact A7.o.alloc _);have T8:=aD (show bP hb v w v w' by rw[rJ];exact T7.o.trans (bP.below (eD (fN _ _) _)));have Jk:=aD (show w'.heap[gx]? =some (.cells #[.int .i64 c] 3) by rw[rJ];exact dD Hr.o _);clear rJ A7 T7 Hr;refine CR.nil H ?_;refine CW.sq H (CW.pW H yL A8 T8 λw9 Q J1 A9 T9 HQ=>?_);have Zz:=aD (J1▸Jk.o);have kx:=aI Zz.o 0
    go_wp2_with (go_at_call 116;refine(zm6 (e:=⟨#[100,111,110,101]⟩) A9.o HX.o HL.o.2.1 HL.o.2.2.2 HL.o.2.2.1 HR.o).mono ?_;rintro en wE ⟨rfl,v10,a5,t5,p5⟩;have sO:=aD a5;have xH:=aD (T9.o.trans t5);have zhj:=aD p5;have zo7:=aD t5;clear a5 t5 p5)
    refine HQ.o _ _ ?_;clear HQ;clear kx;have zCh:=aD (fX.of (v':=v10) (MR.o.clear HI.o.S HI.o.ndl (λz hz=>(HI.o.lb z hz).1) HX.o We.o.2 HL.o.1 (f:=λz=>{z with t:=d.r.clk,e:=vK}) (λz=>⟨rfl,rfl⟩) Xy) zhj.o.1 (by rw[zhj.o.2.1,We.o.1]) zhj.o.2.2.1 rfl rfl);obtain⟨kg,np⟩:=A9.o.turned zo7.o Zz.o NP.o;have Wt:=aD kg;have zIu:=aD np;clear kg np zo7 A9 T9 Zz;refine CW.sq H (CW.p0 H yL sO xH λwI zCK Bs F6=>?_);refine CW.rt H ?_;refine⟨.inr rfl,rfl,.string ⟨#[100,111,110,101]⟩,rfl,⟨by rw[nK.o];rfl,by rw[cG.o],v10,?_,?_,?_,Cs.kept zhj.o.2.2.2.2⟩⟩
    .rw[cG.o];rw[uQ.o];exact Bs.o
    .rw[cG.o];rw[uQ.o];exact zCh.o
    .exact F6.o
section
variable {p:bT}{o:aZ}{ρ:cI->aF}{w w':aE}
variable {t e:aM}{sz:Nat}{ie:xB}
theorem zpl {x y:cI}{A:Option bD}{n c i:Nat}(ho:o.op=.slice t x (some y) none none)(hu:p.underlying t=some (.slice e))(hi:p.info? e=some ie)(hz:ie.size=sz)(hx:ρ x=.slice A n c)(hy:ρ y=.int .i64 (i:Int))(oQ:i<=n):
 (aO ρ o).run p w=.ok (.value (.slice (if c=i then A else A.map (·.add (i*sz))) (n-i) (c-i))) w:=by
 obtain⟨dst,y5,type,pos,after,guard⟩:=o;simp only at ho;subst ho;have h0:(0:Int)<=(i:Int):=aC;have h1:(i:Int)<=(n:Int):=aC;simp[aO,X9,V4,Y4,L0,hx,hy,xJ hu,sizeOf,typeInfo,hi,hz,asIntOf,h0,h1];exact λh=>absurd h aC
variable {j:Int}
theorem Tj {x y:cI}{g off n c i:Nat}(ho:o.op=.slice t x (some y) none none)(hu:p.underlying t=some (.slice e))(hi:p.info? e=some ie)(hz:ie.size=sz)(hx:ρ x=.slice (some ⟨g,0,none⟩) n c)(hy:ρ y=.int .i64 j)(hj:j=(i:Int))(oQ:i<=n)(zG:i<c)(zzP:off=i*sz){n' c':Nat}(yB:n'=n-i)(lG:c'=c-i):
 (aO ρ o).run p w=.ok (.value (.slice (some ⟨g,off,none⟩) n' c')) w:=by
 subst zzP yB lG hj;rw[zpl ho hu hi hz hx hy oQ,if_neg aC];simp[Kv]
theorem zpx {x y:cI}{g n c i:Nat}(ho:o.op=.slice t x none (some y) none)(hu:p.underlying t=some (.slice e))(hi:p.info? e=some ie)(hz:ie.size=sz)(hx:ρ x=.slice (some ⟨g,0,none⟩) n c)(hy:ρ y=.int .i64 j)(hj:j=(i:Int))(zG:i<=c):
 (aO ρ o).run p w=.ok (.value (.slice (some ⟨g,0,none⟩) i c)) w:=by
 subst hj;obtain⟨dst,y5,type,pos,after,guard⟩:=o;simp only at ho;subst ho;have h0:(0:Int)<=(i:Int):=aC;have h1:(i:Int)<=(c:Int):=aC;simp[aO,X9,V4,Y4,L0,hx,hy,xJ hu,sizeOf,typeInfo,hi,hz,asIntOf,h0,h1,Kv];exact λh=>absurd h aC
theorem Y8 {s x:cI}{tn:aM}{a b v:aF}{w':aE}(ho:o.op=.call ⟨.builtin .append,#[s,x],#[t,tn]⟩)(hs:ρ s=a)(hx:ρ x=b)(hr:(Builtin.append_ #[t,tn] o.type #[a,b]).run p w=.ok v w'):(aO ρ o).run p w=.ok (.value v) w':=by
 unfold aO;simp only[ho,resolve,invoke,builtin,Sem.run_bind,Sem.run_pure,Result.andThen_ok,uR,jG,tK,hs,hx,hr]
end
theorem Vz:∃ie,aK.info? 149=some ie/\ie.zero=some (.agg #[.int .i64 0,.int .i64 0])/\ie.size=2/\ie.bytes=16:=by
 obtain⟨i0,hi,fV,dM,jJ⟩:=info_parts zdl;exact⟨i0,hi,fV,dM,jJ⟩
def yG:aK.underlying 69=some (.slice 149):=aT
def Uz:Go.Code:=(Tryz.f111.body).getD .skip
def rIN7:Go.Code:=match Uz with| .seq _ (.seq _ (.seq _ (.seq _ (.seq _ (.seq (.seq _ (.cond _ (.seq (a) _) _)) _)))))=>a|_=>.skip
def rIN9:Go.Code:=match Uz with| .seq _ (.seq _ (.seq _ (.seq _ (.seq _ (.seq _ (.seq (.seq _ (.cond _ (.seq (a) _) _)) _))))))=>a|_=>.skip
def rIN10:Go.Code:=match Uz with| .seq _ (.seq _ (.seq _ (.seq _ (.seq _ (.seq _ (.seq (.seq _ (.cond _ (.seq _ (.seq (a) _)) _)) _))))))=>a|_=>.skip
def rIN11:Go.Code:=match Uz with| .seq _ (.seq _ (.seq _ (.seq _ (.seq _ (.seq _ (.seq (.seq _ (.cond _ (.seq _ (.seq _ (.seq (a) _))) _)) _))))))=>a|_=>.skip
def rIN14:Go.Code:=match Uz with| .seq _ (.seq _ (.seq _ (.seq _ (.seq _ (.seq _ (.seq _ (.seq _ (.seq (.seq (a) _) _))))))))=>a|_=>.skip
def rIN15:Go.Code:=match Uz with| .seq _ (.seq _ (.seq _ (.seq _ (.seq _ (.seq _ (.seq _ (.seq _ (.seq (.seq _ (.cond _ (.seq (a) _) _)) _))))))))=>a|_=>.skip
def rIN16:Go.Code:=match Uz with| .seq _ (.seq _ (.seq _ (.seq _ (.seq _ (.seq _ (.seq _ (.seq _ (.seq (.seq _ (.cond _ (.seq _ (.seq (a) _)) _)) _))))))))=>a|_=>.skip
def zvM:Array Oper:=match rIN7 with| .region _ ops _=>ops|_=>#[]
abbrev oIN7_2:Oper:=aV zvM 2 (some 25) (.call ⟨.builtin .append,#[.tmp 23,.tmp 24],#[69,69]⟩)
def zyE:zvM[2]? =some oIN7_2:=rfl
def zuF:Array Oper:=match rIN9 with| .region _ ops _=>ops|_=>#[]
abbrev oIN9_8:Oper:=aV zuF 8 (some 40) (.call ⟨.builtin .append,#[.tmp 34,.tmp 39],#[69,3]⟩)
def zHx:zuF[8]? =some oIN9_8:=rfl
def zry:Array Oper:=match rIN10 with| .region _ ops _=>ops|_=>#[]
abbrev oIN10_4:Oper:=aV zry 4 (some 45) (.call ⟨.builtin .copy,#[.tmp 43,.tmp 44],#[69,69]⟩)
def zGa:zry[4]? =some oIN10_4:=rfl
def zuy:Array Oper:=match rIN14 with| .region _ ops _=>ops|_=>#[]
abbrev oIN14_6:Oper:=aV zuy 6 (some 67) (.call ⟨.value (.func 121),#[.tmp 61,.tmp 66],#[69,69]⟩)
def zE9:zuy[6]? =some oIN14_6:=rfl
def zpU:Array Oper:=match rIN16 with| .region _ ops _=>ops|_=>#[]
abbrev oIN16_4:Oper:=aV zpU 4 (some 82) (.call ⟨.builtin .copy,#[.tmp 80,.tmp 81],#[69,69]⟩)
def zIp:zpU[4]? =some oIN16_4:=rfl
def Ga:Array Oper:=match rIN11 with| .region _ ops _=>ops|_=>#[]
def zvh:Ga.toList=[aV Ga 0 (some 46) (.move (.tmp 9)),aV Ga 1 (some 47) (.move (.tmp 1)),aV Ga 2 (some 48) (.move (.tmp 7)),aV Ga 3 (some 49) (.binOp .add 3 (.tmp 47) (.tmp 48) 3),aV Ga 4 (some 50) (.slice 69 (.tmp 46) (some (.tmp 49)) none none),aV Ga 5 (some 51) (.move (.tmp 0)),aV Ga 6 (some 52) (.move (.tmp 1)),aV Ga 7 (some 53) (.slice 69 (.tmp 51) (some (.tmp 52)) none none),aV Ga 8 (some 54) (.call ⟨.builtin .copy,#[.tmp 50,.tmp 53],#[69,69]⟩)]:=rfl
def Ew:Array Oper:=match rIN15 with| .region _ ops _=>ops|_=>#[]
def zvv:Ew.toList=[aV Ew 0 (some 69) (.move (.tmp 0)),aV Ew 1 (some 70) (.move (.tmp 1)),aV Ew 2 (some 71) (.move (.tmp 7)),aV Ew 3 (some 72) (.binOp .add 3 (.tmp 70) (.tmp 71) 3),aV Ew 4 (some 73) (.slice 69 (.tmp 69) (some (.tmp 72)) none none),aV Ew 5 (some 74) (.move (.tmp 0)),aV Ew 6 (some 75) (.move (.tmp 1)),aV Ew 7 (some 76) (.slice 69 (.tmp 74) (some (.tmp 75)) none none),aV Ew 8 (some 77) (.call ⟨.builtin .copy,#[.tmp 73,.tmp 76],#[69,69]⟩)]:=rfl
def zdc:vW aK 111:=⟨_,zoQ,.inr (.inl ⟨_,rfl⟩)⟩
def WIN11 (w w3:aE)(g1 n1 c1 g n c ix:Nat)(vc:aF):Nat->aE
 |0=>w.drew
 |_=>w3
theorem zwT:Ga.toList.map (·.dst)=[some 46,some 47,some 48,some 49,some 50,some 51,some 52,some 53,some 54]:=by rw[zvh];rfl
def lIN11 (w w3:aE)(g1 n1 c1 g n c ix:Nat)(vc:aF):List Value:=[.slice (some ⟨g1,0,none⟩) n1 c1,.int .i64 ((ix:Nat)),.int .i64 (1),.int .i64 (((ix+1:Nat):Int)),.slice (some ⟨g1,(ix+1)*2,none⟩) (n1-(ix+1)) (c1-(ix+1)),.slice (some ⟨g,0,none⟩) n c,.int .i64 ((ix:Nat)),.slice (some ⟨g,ix*2,none⟩) (n-ix) (c-ix),vc]
def zlF (w w3:aE)(g1 n1 c1 g n c ix:Nat)(vc:aF)(i:Nat):Value:=(lIN11 w w3 g1 n1 c1 g n c ix vc).getD i aA
variable {d:List Deferred}{Q:n6->uB->aE->Prop}{t0:Array aF}
theorem wp_IN11 (w w3:aE)(g1 n1 c1 g n c ix:Nat)(vc:aF)(hz:t0.size=95)(uH:t0.getD 0 aA=.slice (some ⟨g,0,none⟩) n c)(Gj:t0.getD 1 aA=.int .i64 ((ix:Nat)))(Fp:t0.getD 7 aA=.int .i64 (1))(zkA:t0.getD 9 aA=.slice (some ⟨g1,0,none⟩) n1 c1)(hb:ix+1<=n1/\ix+1<c1/\ix<=n/\ix<c/\ix<=100000)(nE:(Dh #[69,69] 3 #[.slice (some ⟨g1,(ix+1)*2,none⟩) (n1-(ix+1)) (c1-(ix+1)),.slice (some ⟨g,ix*2,none⟩) (n-ix) (c-ix)]).run aK w.drew=.ok vc w3)(h0:WIN11 w w3 g1 n1 c1 g n c ix vc 0=w.drew)(hk:Q .normal ⟨dF Ga (zlF w w3 g1 n1 c1 g n c ix vc) t0,d⟩ (w3)):
 (Ff 11 Ga true).wp aK Q ⟨t0,d⟩ w:=by
 refine Ji (ws:=[8]) (Wd:=WIN11 w w3 g1 n1 c1 g n c ix vc) (vals:=zlF w w3 g1 n1 c1 g n c ix vc) vN.mixed aT aH aT h0 Je (λV hU hV=>?_) hk;obtain⟨Xj,zcA,zlJ,Yd,zgm,Yp,W9,zji,zya,-⟩:=Ik zwT hU;have e0:=(hV 0 aT).trans uH;have e1:=(hV 1 aT).trans Gj;have e7:=(hV 7 aT).trans Fp;have e9:=(hV 9 aT).trans zkA;refine λTf hT=>Jh zvh ⟨bR.pv,bR.pv,bR.pv,bR.any (λkk gD hm=>?_),bR.any (λkk gD hm=>?_),bR.pv,bR.pv,bR.any (λkk gD hm=>?_),bR.act (v:=V 54) 0 rfl (dW rfl) ?_,trivial⟩
 .have i0:=hb.2.2.2.2
  unfold aO;go_simp;first|(push_cast;exact Ge aC aC)|(push_cast;rw[Ge aC aC])|trace_state
 .obtain⟨ie,jS,_,cK,_⟩:=Vz
  exact Tj rfl yG jS cK (nY hT Xj) (nY hT Yd) rfl hb.1 hb.2.1 rfl rfl rfl
 .obtain⟨ie,jS,_,cK,_⟩:=Vz
  exact Tj rfl yG jS cK (nY hT Yp) (nY hT W9) rfl hb.2.2.1 hb.2.2.2.1 rfl rfl rfl
 .rw[zya];exact zd2 rfl (nY hT zgm) (nY hT zji) nE
def WIN15 (w w3:aE)(g n c ix:Nat)(vc:aF):Nat->aE
 |0=>w.drew
 |_=>w3
theorem zrq:Ew.toList.map (·.dst)=[some 69,some 70,some 71,some 72,some 73,some 74,some 75,some 76,some 77]:=by rw[zvv];rfl
def lIN15 (w w3:aE)(g n c ix:Nat)(vc:aF):List Value:=[.slice (some ⟨g,0,none⟩) n c,.int .i64 ((ix:Nat)),.int .i64 (1),.int .i64 (((ix+1:Nat):Int)),.slice (some ⟨g,(ix+1)*2,none⟩) (n-(ix+1)) (c-(ix+1)),.slice (some ⟨g,0,none⟩) n c,.int .i64 ((ix:Nat)),.slice (some ⟨g,ix*2,none⟩) (n-ix) (c-ix),vc]
def zjt (w w3:aE)(g n c ix:Nat)(vc:aF)(i:Nat):Value:=(lIN15 w w3 g n c ix vc).getD i aA
theorem wp_IN15 (w w3:aE)(g n c ix:Nat)(vc:aF)(hz:t0.size=95)(uH:t0.getD 0 aA=.slice (some ⟨g,0,none⟩) n c)(Gj:t0.getD 1 aA=.int .i64 ((ix:Nat)))(Fp:t0.getD 7 aA=.int .i64 (1))(hb:ix+1<=n/\ix+1<c/\ix<=n/\ix<c/\ix<=100000)(nE:(Dh #[69,69] 3 #[.slice (some ⟨g,(ix+1)*2,none⟩) (n-(ix+1)) (c-(ix+1)),.slice (some ⟨g,ix*2,none⟩) (n-ix) (c-ix)]).run aK w.drew=.ok vc w3)(h0:WIN15 w w3 g n c ix vc 0=w.drew)(hk:Q .normal ⟨dF Ew (zjt w w3 g n c ix vc) t0,d⟩ (w3)):
 (Ff 15 Ew true).wp aK Q ⟨t0,d⟩ w:=by
 refine Ji (ws:=[8]) (Wd:=WIN15 w w3 g n c ix vc) (vals:=zjt w w3 g n c ix vc) vN.mixed aT aH aT h0 Je (λV hU hV=>?_) hk;obtain⟨zHW,zKm,zJY,zGI,zz5,zBQ,zCZ,zHO,zGO,-⟩:=Ik zrq hU;have e0:=(hV 0 aT).trans uH;have e1:=(hV 1 aT).trans Gj;have e7:=(hV 7 aT).trans Fp;refine λTf hT=>Jh zvv ⟨bR.pv,bR.pv,bR.pv,bR.any (λkk gD hm=>?_),bR.any (λkk gD hm=>?_),bR.pv,bR.pv,bR.any (λkk gD hm=>?_),bR.act (v:=V 77) 0 rfl (dW rfl) ?_,trivial⟩
 .have i0:=hb.2.2.2.2
  unfold aO;go_simp;first|(push_cast;exact Ge aC aC)|(push_cast;rw[Ge aC aC])|trace_state
 .obtain⟨ie,jS,_,cK,_⟩:=Vz
  exact Tj rfl yG jS cK (nY hT zHW) (nY hT zGI) rfl hb.1 hb.2.1 rfl rfl rfl
 .obtain⟨ie,jS,_,cK,_⟩:=Vz
  exact Tj rfl yG jS cK (nY hT zBQ) (nY hT zCZ) rfl hb.2.2.1 hb.2.2.2.1 rfl rfl rfl
 .rw[zGO];exact zd2 rfl (nY hT zz5) (nY hT zHO) nE
variable {c1 c2:List aF}
theorem ins_up {c0 a b xx:List aF}(ha:c0.take a.length=a)(hl:a.length+xx.length+b.length<=c0.length)(h1:c1=c0.take a.length++xx++c0.drop (a.length+xx.length))(h2:c2=c1.take (a.length+xx.length)++b++c1.drop (a.length+xx.length+b.length)):
 c2.take (a.length+xx.length+b.length)=a++xx++b/\c2.length=c0.length:=by
 have e1:c1.take (a.length+xx.length)=a++xx:=by
  rw[h1,ha,E5 (by rw[jP];exact bN _),Ee (by rw[jP];exact bN _)]
 have l1:c1.length=c0.length:=by rw[h1,ha];simp only[jP,xY];omega
 rw[h2,e1];refine⟨?_,?_⟩
 .rw[E5 zfT,Ee zfT]
 .simp only[jP,xY];omega
theorem zFn {c0 a b xx:List aF}(ha:c0.take a.length=a)(hl:a.length+xx.length+b.length<=c0.length)(h1:c1=c0.take (a.length+xx.length)++b++c0.drop (a.length+xx.length+b.length))(h2:c2=c1.take a.length++xx++c1.drop (a.length+xx.length)):
 c2.take (a.length+xx.length+b.length)=a++xx++b/\c2.length=c0.length:=by
 have lt:(c0.take (a.length+xx.length)).length=a.length+xx.length:=by rw[sU];omega
 have e1:c1.take a.length=a:=by
  rw[h1,J0,E5 aC,P7,zqt aC,ha]
 have e2:c1.drop (a.length+xx.length)=b++c0.drop (a.length+xx.length+b.length):=by
  rw[h1,J0,List.drop_append_of_le_length aC,ztI aC,List.nil_append]
 rw[h2,e1,e2];refine⟨?_,?_⟩
 .rw[<-J0,E5 zfT,Ee zfT]
 .simp only[jP,xY];omega
theorem zkL (xs:List bF)(x:bF)(i:Nat):bG (xs.take i++x::xs.drop i)=(bG xs).take (i*2)++x.cells++(bG xs).drop (i*2):=by
 have h1:(bG xs).take (i*2)=bG (xs.take i):=by
  induction xs generalizing i with
  |nil=>simp[bG]
  |cons y ys ih=>
   cases i with
   |zero=>simp[bG]
   |succ i=>
    have:bG (y::ys)=y.cells++bG ys:=by simp[bG]
    rw[this,List.take_succ_cons,show(i+1)*2=y.cells.length+i*2 by simp[bF.cells];omega,List.take_length_add_append,ih i];simp[bG]
 have h2:(bG xs).drop (i*2)=bG (xs.drop i):=by
  clear h1
  induction xs generalizing i with
  |nil=>simp[bG]
  |cons y ys ih=>
   cases i with
   |zero=>simp[bG]
   |succ i=>
    have:bG (y::ys)=y.cells++bG ys:=by simp[bG]
    rw[this,List.drop_succ_cons,show(i+1)*2=y.cells.length+i*2 by simp[bF.cells];omega,List.drop_length_add_append,ih i]
 rw[h1,h2];simp[bG]
structure Grew (w w':aE)(r:Option Nat):Prop where
 size:w.heap.size<=w'.heap.size
 block:∀b,b<w.heap.size->¬some b=r->w'.heap[b]? =w.heap[b]?
theorem ov_fn:OvFn aK 121 69 4 149 2:=by
 obtain⟨ie,jS,_,cK,_⟩:=Vz;exact⟨⟨_,Tryz.func121,aH,rfl,aT,aT⟩,yG,⟨ie,jS,cK⟩⟩
variable {A:Option bD}{l:gI}
theorem zBe (H:e.d.Ok){gv c:Nat}{x:bF}(h:w.ownsRow lo 149 2 (.slice A n c) n (bG xs))(eB:lo<=w.heap.size)(hn:n<=1000)(hi:i<=n)(hv:w.heap[gv]? =some (.cells #[.int .i64 x.c,.int .i64 x.p] 149))(aS:(Sv A n c).ownBlock≠some gv):
 CF e.d 111 #[.slice A n c,.int .i64 (i:Int),.slice (some ⟨gv,0,none⟩) 1 1] K l w (λK' l' y w'=>l'=l/\∃g2 c2,y=.slice (some ⟨g2,0,none⟩) (n+1) c2/\w'.ownsRow lo 149 2 (.slice (some ⟨g2,0,none⟩) (n+1) c2) (n+1) (bG (xs.take i++x::xs.drop i))/\Grew w w' (Sv A n c).ownBlock/\(some g2=(Sv A n c).ownBlock\/w.heap.size<=g2)):=by
 refine CF.of 95 zoQ (.inr (.inl ⟨_,rfl⟩)) ?_;obtain⟨ie,jS,fV,cK,uG⟩:=Vz;have zmr:xs.length=n:=by have h1:=h.1;have h2:(bG xs).length=xs.length*2:=J6 bF.cells (s:=2) (λ_=>rfl) xs;omega
 have h1:(1:Nat)<=1:=bN 1;refine CW.sq H ?_;refine CW.pQ H zdc (λze2 Q HQ=>?_);go_wp2;refine HQ.o _ _ ?_;clear HQ;refine CW.tape (s:=⟨[],K,l,_,w⟩) ?_ ze2 0;refine CW.sq H ?_;refine CW.rg H [0,1,2] ?_;refine CR.mv H (.slice A n c) ?_;refine CR.mv H (.int .i64 (i:Int)) ?_;refine CR.mv H (.slice (if c=i then A else A.map (·.add (i*2))) (n-i) (c-i)) ?_ (hx:=λT=>by exact zpl rfl yG jS cK rfl rfl hi);refine CR.nil H ?_;refine CW.sq H ?_;refine CW.rg H [0,1,2] ?_;refine CR.mv H (.slice (some ⟨gv,0,none⟩) 1 1) ?_;refine CR.mv H (.int .i64 1) ?_ (hx:=λT=>by exact zs2 rfl yG rfl);refine CR.mv H (.int .i64 1) ?_;refine CR.nil H ?_;refine CW.sq H ?_;refine CW.sq H ?_;refine CW.rg H [0,1] ?_;refine CR.mv H (.int .i64 1) ?_;refine CR.mg H (.bool false) ?_;refine CR.nil H ?_;refine CW.cd H false ?_;refine CW.sk H ?_;dsimp only;refine CW.sq H ?_;refine CW.rg H [0,1,2] ?_;refine CR.mv H (.slice A n c) ?_;refine CR.mv H (.int .i64 (n:Int)) ?_ (hx:=λT=>by exact zs2 rfl yG rfl);refine CR.mv H (.int .i64 (n:Int)) ?_;refine CR.nil H ?_;refine CW.sq H ?_;refine CW.sq H ?_;refine CW.rg H [0,1,2] ?_;refine CR.mv H (.int .i64 (i:Int)) ?_;refine CR.mv H (.int .i64 (n:Int)) ?_;by_cases oQ:i=n
 .
   subst oQ;clear hi;refine nP ?_;refine CR.mg H (.bool true) ?_;refine CR.nil H ?_;refine CW.cd H true ?_;refine CW.sq H ?_;refine CW.rg H [0,1,2,3] ?_;refine CR.mv H (.slice A i c) ?_;refine CR.mv H (.slice (some ⟨gv,0,none⟩) 1 1) ?_;refine CR.op H zyE rfl aT (λT=>?_);obtain⟨q1,q2,w5,fF,cZ,mQ,eU⟩:=M3 (w:=Tt.tp w T 0) (t:=69) (ty:=69) zdl yG rfl aH (cF h λb e=>rfl) (g:=gv) (cs:=#[.int .i64 x.c,.int .i64 x.p]) (news:=bF.cells x) hv rfl (m:=1) rfl aH Qq aC aH eB;refine⟨.slice (some ⟨q1,0,none⟩) (i+1) q2,w5,.inl (Y8 rfl rfl rfl fF),?_⟩;simp only[b7,gC,dV,dU];refine nP ?_;refine CR.mv H (.slice (some ⟨q1,0,none⟩) (i+1) q2) ?_;refine CR.nil H ?_;refine CW.rt H ?_;refine⟨.inr rfl,rfl,.slice (some ⟨q1,0,none⟩) (i+1) q2,rfl,rfl,q1,q2,rfl,?_,⟨mQ.size,mQ.block⟩,?_⟩
   .rw[zkL,Ee zoE,ztI zoE,List.append_nil]
    exact cZ
   .exact eU.imp id λhh=>hh q1 rfl
 .
   have aU:i<n:=aC;have zGh:(i:Int)<(n:Int):=aC;have zJ2:¬(i:Int)=(n:Int):=aC;refine nP ?_;refine CR.mg H (.bool false) ?_;refine CR.nil H ?_;refine CW.cd H false ?_;refine CW.sk H ?_;dsimp only;obtain⟨hlen,Yc|⟨g,cap,cur,D5,zbG,hg,Zr,qB,iW,lQ⟩⟩:=id h
   .exfalso;have:=Yc.2;omega
   injection D5 with e1 e2 e3;subst e1 e3;clear e2;have Be:gv≠g:=λe=>aS (by rw[e];rfl);have lE:cur.toList.length=c*2:=by simpa using iW
   have la:((bG xs).take (i*2)).length=i*2:=by rw[sU,hlen];omega
   have lb:((bG xs).drop (i*2)).length=(n-i)*2:=by rw[xY,hlen];omega
   have Rl:∀j u,(bG xs)[j]? =some u->cur[j]? =some u:=λj u hj=>by
    rw[<-lQ,U3] at hj;split at hj
    .rw[<-Cf];exact hj
    .cases hj
   have zFN:cur.toList.take (i*2)=(bG xs).take (i*2):=by rw[<-lQ,P7];congr 1;omega
   have one:=Zv xs;refine CW.sq H ?_;refine CW.sq H ?_;refine CW.rg H [0,1,2,3,4,5] ?_;refine CR.mv H (.int .i64 (n:Int)) ?_;refine CR.mv H (.int .i64 1) ?_;refine CR.mv H (.int .i64 ((n+1:Nat):Int)) ?_ (hx:=λT=>by unfold aO;go_simp;first|(push_cast;exact Ge aC aC)|(push_cast;rw[Ge aC aC])|trace_state);refine CR.mv H (.slice (some ⟨g,0,none⟩) n c) ?_;refine CR.mg H (.int .i64 (c:Int)) ?_;by_cases zI8:n+1>c
   .
     have zHc:(c:Int)<((n+1:Nat):Int):=aC;refine nP ?_;refine CR.mv H (.bool true) ?_ (hx:=λT=>by unfold aO;go_simp;try omega);refine CR.nil H ?_;refine CW.cd H true ?_;refine CW.sq H ?_;refine CW.rg H [0,1,2,3,4,5,6,7,8,9] ?_;refine CR.mv H (.slice (some ⟨g,0,none⟩) n c) ?_;refine CR.mv H (.int .i64 (i:Int)) ?_;refine CR.mv H (.slice (some ⟨g,0,none⟩) i c) ?_ (hx:=λT=>by exact zpx rfl yG jS cK rfl rfl rfl aC);refine CR.mv H (.int .i64 (n:Int)) ?_;refine CR.mv H (.int .i64 1) ?_;refine CR.mv H (.int .i64 ((n+1:Nat):Int)) ?_ (hx:=λT=>by unfold aO;go_simp;first|(push_cast;exact Ge aC aC)|trace_state);refine CR.mv H (.int .i64 (i:Int)) ?_;refine CR.mv H (.int .i64 ((n+1-i:Nat):Int)) ?_ (hx:=λT=>by unfold aO;go_simp;first|(rw[Ge aC aC];omega)|trace_state);refine CR.op H zHx rfl aT (λT=>?_);have hold:(Uy ie.size i (.slice (some ⟨g,0,none⟩) i c)).run aK (Tt.tp w T 0).drew=.ok ((bG xs).take (i*2)).toArray (Tt.tp w T 0).drew:=by
      have hl:=run_loadCells_list (P:=aK) (Tt.tp w T 0).drew ⟨g,0,none⟩ ((bG xs).take (i*2)) (λj u hj=>by
       rw[Kv,rH];have Py:(bG xs)[j]? =some u:=by
        rw[U3] at hj;split at hj
        .exact hj
        .cases hj
       exact(aI (w:=w) hg j).trans (Rl j u Py))
      rw[la] at hl;simp[Uy,cK,hl]
     have fF:=Lib.run_append_grow_zeros (P:=aK) (Tt.tp w T 0) 69 3 69 149 ie _ .i64 .i64 yG Kf jS fV (some ⟨g,0,none⟩) i c ((bG xs).take (i*2)) hold (n+1-i) aC aC aC aC (by rw[uG];omega) (by rw[uG];exact growslice_fits aC aC);obtain⟨c2,oP⟩:=aP (grownCap (Tt.tp w T 0) (i+(n+1-i)) c 149);have Cr:n+1<=c2:=by have:=grownCap_ge (Tt.tp w T 0) (i+(n+1-i)) c 149;omega
     have hle:c2<=maxLen:=by rw[oP];exact grownCap_le_maxLen _ _ _ _ X0
     obtain⟨Gt,zeI⟩:=aP (((bG xs).take (i*2)).toArray++pU (.agg #[.int .i64 0,.int .i64 0]:aF).cells (n+1-i)++pU (.agg #[.int .i64 0,.int .i64 0]:aF).cells (c2-(i+(n+1-i))):Array aF);have ze6:Gt.toList.length=c2*2:=by
      have z1:(pU (.agg #[.int .i64 0,.int .i64 0]:aF).cells (n+1-i)).size=(n+1-i)*2:=Zp _ _;have z2:(pU (.agg #[.int .i64 0,.int .i64 0]:aF).cells (c2-(i+(n+1-i)))).size=(c2-(i+(n+1-i)))*2:=Zp _ _;rw[Em,zeI,Yx,Yx,z1,z2,List.size_toArray,la];omega
     have zk1:Gt.toList.take (i*2)=(bG xs).take (i*2):=by
      rw[zeI,Sn,Sn,J0,E5 (by rw[la];exact bN _),Ee (by rw[la];exact bN _)]
     rw[<-oP,<-zeI,show i+(n+1-i)=n+1 by omega] at fF;obtain⟨W1,cO⟩:=aP ((Tt.tp w T 0).drew.alloc (.cells Gt 149));rw[<-cO] at fF;have oO:W1.heap[w.heap.size]? =some (.cells Gt 149 (0,0)):=by rw[cO];exact gU _ _
     have zue:∀b,b<w.heap.size->W1.heap[b]? =w.heap[b]? :=λb hb=>by rw[cO];exact Below.heap_alloc _ _ _ hb
     have dM:W1.heap.size=w.heap.size+1:=by rw[cO];exact rC _ _
     have zte:g<w.heap.size:=iB hg;have zr9:gv<w.heap.size:=iB hv;refine⟨.slice (some ⟨w.heap.size,0,none⟩) (n+1) c2,W1,.inl (Y8 rfl rfl rfl fF),?_⟩;simp only[b7,gC,dV,dU];clear fF cO zeI hold oP;refine nP ?_;refine CR.mv H (.slice (some ⟨w.heap.size,0,none⟩) (n+1) c2) ?_;refine CR.nil H ?_;refine CW.sq H ?_;refine CW.rg H [0,1,2,3,4] ?_;refine CR.mv H (.slice (some ⟨w.heap.size,0,none⟩) (n+1) c2) ?_;refine CR.mv H (.int .i64 (i:Int)) ?_;refine CR.mv H (.slice (some ⟨w.heap.size,i*2,none⟩) (n+1-i) (c2-i)) ?_ (hx:=λT=>by exact Tj rfl yG jS cK rfl rfl rfl aC aC rfl rfl rfl);refine CR.mv H (.slice (some ⟨gv,0,none⟩) 1 1) ?_;refine CR.op H zGa rfl aT (λT2=>?_);have nE:∀ty,(Dh #[69,69] ty #[.slice (some ⟨w.heap.size,i*2,none⟩) (n+1-i) (c2-i),.slice (some ⟨gv,0,none⟩) 1 1]).run aK (Tt.tp W1 T2 0)=.ok (goInt (zat 1 (n+1-i))) ((Tt.tp W1 T2 0).setRow w.heap.size (Gt.toList.take (i*2)++x.cells++Gt.toList.drop (i*2+(x.cells).length)).toArray):=λty=>
      zg1 (P:=aK) yG jS oO zsR (λj u hj=>by rw[Kv,rH];exact(aI (w:=W1) ((zue gv zr9).trans hv) j).trans (by rw[<-Cf];exact hj)) (by rw[<-Em,ze6];show i*2+2<=_;omega) Qq
     obtain⟨tM,Ts⟩:=aP ((Gt.toList.take (i*2)++x.cells++Gt.toList.drop (i*2+(x.cells).length)).toArray:Array aF);rw[<-Ts] at nE;obtain⟨W2,nZ⟩:=aP ((Tt.tp W1 T2 0).setRow w.heap.size tM);rw[<-nZ] at nE;have An:W2.heap[w.heap.size]? =some (.cells tM 149 (0,0)):=by rw[nZ];exact Lf (Tt.tp W1 T2 0) w.heap.size Gt tM 149 (0,0) oO
     have zeO:∀b,b<w.heap.size->W2.heap[b]? =w.heap[b]? :=λb hb=>by rw[nZ];exact(zgV _ _ _ _ aC).trans (zue b hb)
     have jJ:W2.heap.size=w.heap.size+1:=by rw[nZ];simp[zf2];exact dM
     have x3:tM.toList.length=c2*2:=by rw[Ts];show(_++_++_:List aF).length=_;simp only[jP,sU,xY,ze6];show min (i*2) (c2*2)+2+(c2*2-(i*2+2))=_;omega
     refine⟨_,W2,.inl (zd2 rfl rfl rfl (nE _)),?_⟩;simp only[b7,gC,dV,dU];clear nE nZ;refine CR.nil H ?_;refine CW.sq H ?_;refine CW.pQ H zdc (λT3 Q HQ=>?_);have nE:∀ty,(Dh #[69,69] ty #[.slice (some ⟨w.heap.size,(i+1)*2,none⟩) (n+1-(i+1)) (c2-(i+1)),.slice (some ⟨g,i*2,none⟩) (n-i) (c-i)]).run aK (Tt.tp W2 T3 0).drew=.ok (goInt (zat (n-i) (n+1-(i+1)))) ((Tt.tp W2 T3 0).drew.setRow w.heap.size (tM.toList.take ((i+1)*2)++((bG xs).drop (i*2))++tM.toList.drop ((i+1)*2+(((bG xs).drop (i*2))).length)).toArray):=λty=>
      zg1 (P:=aK) yG jS An (by rw[cK,lb,show n+1-(i+1)=n-i by omega];congr 1;exact(Nat.min_self _).symm) (λj u hj=>by rw[Kv];rw[Xm] at hj;exact(aI (w:=W2) ((zeO g zte).trans hg) (i*2+j)).trans (Rl _ _ hj)) (by rw[<-Em,x3,lb];omega) (λu hu=>one u (zcO hu))
     obtain⟨Ii,zcM⟩:=aP ((tM.toList.take ((i+1)*2)++((bG xs).drop (i*2))++tM.toList.drop ((i+1)*2+((bG xs).drop (i*2)).length)).toArray:Array aF);rw[<-zcM] at nE;obtain⟨W3,sC⟩:=aP ((Tt.tp W2 T3 0).drew.setRow w.heap.size Ii);rw[<-sC] at nE;have Ib:W3.heap[w.heap.size]? =some (.cells Ii 149 (0,0)):=by rw[sC];exact Lf (Tt.tp W2 T3 0).drew w.heap.size tM Ii 149 (0,0) An
     have zgu:∀b,b<w.heap.size->W3.heap[b]? =w.heap[b]? :=λb hb=>by rw[sC];exact(zgV _ _ _ _ aC).trans (zeO b hb)
     have zg2:W3.heap.size=w.heap.size+1:=by rw[sC];simp[zf2];exact jJ
     obtain⟨Rw,Sk⟩:=ins_up (c0:=Gt.toList) (a:=(bG xs).take (i*2)) (b:=(bG xs).drop (i*2)) (xx:=x.cells) (c1:=tM.toList) (c2:=Ii.toList) (by rw[la];exact zk1) (by rw[la,lb,ze6];show i*2+2+_<=_;omega) (by rw[Ts,la]) (by rw[zcM,la,show i*2+x.cells.length=(i+1)*2 by show i*2+2=_;omega]);rw[ze6] at Sk;rw[la,lb,show i*2+x.cells.length+(n-i)*2=(n+1)*2 by show i*2+2+_=_;omega,<-zkL] at Rw;have oN:W3.ownsRow lo 149 2 (.slice (some ⟨w.heap.size,0,none⟩) (n+1) c2) (n+1) (bG (xs.take i++x::xs.drop i)):=⟨by rw[<-Rw,sU,Sk];omega,.inr ⟨w.heap.size,c2,Ii,rfl,eB,Ib,Cr,hle,by rw[<-Em];exact Sk,Rw⟩⟩;refine wp_IN11 (Tt.tp W2 T3 0) W3 w.heap.size (n+1) c2 g n c i _ rfl rfl rfl rfl rfl ⟨aC,aC,aC,aC,aC⟩ (nE _) rfl ?_;rw[Go.Mt.Ax,zwT];simp only[Go.Mt.xR,dV,dU,zlF,lIN11,Dz,Dp];show Q .normal _ W3;refine HQ.o _ _ ?_;clear HQ nE sC;refine CW.sq H ?_;refine CW.pQ H zdc (λT4 Q HQ=>?_);go_wp2;refine HQ.o _ _ ?_;clear HQ;refine CW.rt H ?_;exact⟨.inr rfl,rfl,.slice (some ⟨w.heap.size,0,none⟩) (n+1) c2,rfl,rfl,w.heap.size,c2,rfl,cF oN λb e=>rfl,⟨by show _<=W3.heap.size;omega,λb hb _=>zgu b hb⟩,.inr (bN _)⟩
   .
     have zHc:¬(c:Int)<((n+1:Nat):Int):=aC;refine nP ?_;refine CR.mv H (.bool false) ?_ (hx:=λT=>by unfold aO;go_simp;omega);refine CR.nil H ?_;refine CW.cd H false ?_;refine CW.sk H ?_;dsimp only;refine CW.sq H ?_;refine CW.rg H [0,1,2,3,4,5] ?_;refine CR.mv H (.slice (some ⟨g,0,none⟩) n c) ?_;refine CR.mv H (.int .i64 (n:Int)) ?_;refine CR.mv H (.int .i64 1) ?_;refine CR.mv H (.int .i64 ((n+1:Nat):Int)) ?_ (hx:=λT=>by unfold aO;go_simp;first|(push_cast;exact Ge aC aC)|trace_state);refine CR.mv H (.slice (some ⟨g,0,none⟩) (n+1) c) ?_ (hx:=λT=>by exact zpx rfl yG jS cK rfl rfl rfl aC);refine CR.mv H (.slice (some ⟨g,0,none⟩) (n+1) c) ?_;refine CR.nil H ?_;refine CW.sq H ?_;refine CW.sq H ?_;refine CW.rg H [0,1,2,3,4,5,6,7] ?_;refine CR.mv H (.slice (some ⟨gv,0,none⟩) 1 1) ?_;refine CR.mv H (.slice (some ⟨g,0,none⟩) (n+1) c) ?_;refine CR.mv H (.int .i64 (i:Int)) ?_;refine CR.mv H (.int .i64 1) ?_;refine CR.mv H (.int .i64 ((i+1:Nat):Int)) ?_ (hx:=λT=>by unfold aO;go_simp;first|(push_cast;exact Ge aC aC)|trace_state);refine CR.mv H (.slice (some ⟨g,(i+1)*2,none⟩) (n+1-(i+1)) (c-(i+1))) ?_ (hx:=λT=>by exact Tj rfl yG jS cK rfl rfl rfl aC aC rfl rfl rfl);refine CR.overlaps H (A:=⟨gv,0,none⟩) (B:=⟨g,(i+1)*2,none⟩) ov_fn zE9 rfl rfl rfl rfl rfl rfl Be hv hg (by rw[iW];omega) ?_;simp only[b7,gC,dV,dU];refine nP ?_;refine CR.mg H (.bool true) ?_;refine CR.nil H ?_;refine CW.cd H true ?_;refine CW.sq H ?_;refine CW.pQ H zdc (λT3 Q HQ=>?_);have zte:g<w.heap.size:=iB hg;have zr9:gv<w.heap.size:=iB hv;have nE:∀ty,(Dh #[69,69] ty #[.slice (some ⟨g,(i+1)*2,none⟩) (n+1-(i+1)) (c-(i+1)),.slice (some ⟨g,i*2,none⟩) (n+1-i) (c-i)]).run aK (Tt.tp w T3 0).drew=.ok (goInt (zat (n+1-i) (n+1-(i+1)))) ((Tt.tp w T3 0).drew.setRow g (cur.toList.take ((i+1)*2)++((bG xs).drop (i*2))++cur.toList.drop ((i+1)*2+(((bG xs).drop (i*2))).length)).toArray):=λty=>
      zg1 (P:=aK) yG jS hg (by rw[cK,lb,show n+1-(i+1)=n-i by omega];congr 1;exact(Nat.min_eq_right aC).symm) (λj u hj=>by rw[Kv];rw[Xm] at hj;exact(aI (w:=w) hg (i*2+j)).trans (Rl _ _ hj)) (by rw[<-Em,lE,lb];omega) (λu hu=>one u (zcO hu))
     obtain⟨tM,Ts⟩:=aP ((cur.toList.take ((i+1)*2)++((bG xs).drop (i*2))++cur.toList.drop ((i+1)*2+((bG xs).drop (i*2)).length)).toArray:Array aF);rw[<-Ts] at nE;obtain⟨W3,sC⟩:=aP ((Tt.tp w T3 0).drew.setRow g tM);rw[<-sC] at nE;have Ib:W3.heap[g]? =some (.cells tM 149 (0,0)):=by rw[sC];exact Lf (Tt.tp w T3 0).drew g cur tM 149 (0,0) hg
     have zgu:∀b,b≠g->W3.heap[b]? =w.heap[b]? :=λb hb=>by rw[sC];exact zgV _ _ _ _ hb
     have zg2:W3.heap.size=w.heap.size:=by rw[sC];simp[zf2];rfl
     have x3:tM.toList.length=c*2:=by rw[Ts];show(_++_++_:List aF).length=_;simp only[jP,sU,xY,lE,hlen];omega
     refine wp_IN15 (Tt.tp w T3 0) W3 g (n+1) c i _ rfl rfl rfl rfl ⟨aC,aC,aC,aC,aC⟩ (nE _) rfl ?_;rw[Go.Mt.Ax,zrq];simp only[Go.Mt.xR,dV,dU,zjt,lIN15,Dz,Dp];show Q .normal _ W3;refine HQ.o _ _ ?_;clear HQ nE sC;refine CW.sq H ?_;refine CW.rg H [0,1,2,3,4] ?_;refine CR.mv H (.slice (some ⟨g,0,none⟩) (n+1) c) ?_;refine CR.mv H (.int .i64 (i:Int)) ?_;refine CR.mv H (.slice (some ⟨g,i*2,none⟩) (n+1-i) (c-i)) ?_ (hx:=λT=>by exact Tj rfl yG jS cK rfl rfl rfl aC aC rfl rfl rfl);refine CR.mv H (.slice (some ⟨gv,0,none⟩) 1 1) ?_;refine CR.op H zIp rfl aT (λT2=>?_);have nE:∀ty,(Dh #[69,69] ty #[.slice (some ⟨g,i*2,none⟩) (n+1-i) (c-i),.slice (some ⟨gv,0,none⟩) 1 1]).run aK (Tt.tp W3 T2 0)=.ok (goInt (zat 1 (n+1-i))) ((Tt.tp W3 T2 0).setRow g (tM.toList.take (i*2)++x.cells++tM.toList.drop (i*2+(x.cells).length)).toArray):=λty=>
      zg1 (P:=aK) yG jS Ib zsR (λj u hj=>by rw[Kv,rH];exact(aI (w:=W3) ((zgu gv Be).trans hv) j).trans (by rw[<-Cf];exact hj)) (by rw[<-Em,x3];show i*2+2<=_;omega) Qq
     obtain⟨Ii,zcM⟩:=aP ((tM.toList.take (i*2)++x.cells++tM.toList.drop (i*2+(x.cells).length)).toArray:Array aF);rw[<-zcM] at nE;obtain⟨W2,nZ⟩:=aP ((Tt.tp W3 T2 0).setRow g Ii);rw[<-nZ] at nE;have Fs:W2.heap[g]? =some (.cells Ii 149 (0,0)):=by rw[nZ];exact Lf (Tt.tp W3 T2 0) g tM Ii 149 (0,0) Ib
     have zeO:∀b,b≠g->W2.heap[b]? =w.heap[b]? :=λb hb=>by rw[nZ];exact(zgV _ _ _ _ hb).trans (zgu b hb)
     have jJ:W2.heap.size=w.heap.size:=by rw[nZ];simp[zf2];exact zg2
     obtain⟨Rw,Sk⟩:=zFn (c0:=cur.toList) (a:=(bG xs).take (i*2)) (b:=(bG xs).drop (i*2)) (xx:=x.cells) (c1:=tM.toList) (c2:=Ii.toList) (by rw[la];exact zFN) (by rw[la,lb,lE];show i*2+2+_<=_;omega) (by rw[Ts,la,show i*2+x.cells.length=(i+1)*2 by show i*2+2=_;omega]) (by rw[zcM,la]);rw[lE] at Sk;rw[la,lb,show i*2+x.cells.length+(n-i)*2=(n+1)*2 by show i*2+2+_=_;omega,<-zkL] at Rw;have oN:W2.ownsRow lo 149 2 (.slice (some ⟨g,0,none⟩) (n+1) c) (n+1) (bG (xs.take i++x::xs.drop i)):=⟨by rw[<-Rw,sU,Sk];omega,.inr ⟨g,c,Ii,rfl,zbG,Fs,aC,qB,by rw[<-Em];exact Sk,Rw⟩⟩;refine⟨_,W2,.inl (zd2 rfl rfl rfl (nE _)),?_⟩;simp only[b7,gC,dV,dU];clear nE nZ;refine CR.nil H ?_;refine CW.sq H ?_;refine CW.pQ H zdc (λT4 Q HQ=>?_);go_wp2;refine HQ.o _ _ ?_;clear HQ;refine CW.rt H ?_;exact⟨.inr rfl,rfl,.slice (some ⟨g,0,none⟩) (n+1) c,rfl,rfl,g,c,rfl,cF oN λb e=>rfl,⟨by show _<=W2.heap.size;omega,λb hb hn=>zeO b λe=>hn (by rw[e];rfl)⟩,.inl rfl⟩
section
variable {P:bT}{w:aE}
theorem zux {ops:Array aZ}{rest:List aZ}{o:aZ}{a:uB}{Q:n6->uB->aE->Prop}(Eu:o.guard=none)(x y:cI)(t t2:aM)(ho:o.op=.binOp .neq t x y t2){d:Mz}{e:aM}(hu:P.underlying t=some (.chan d e))(p q:Option Nat)(hx:a.eval x=.chan p)(hy:a.eval y=.chan q){r:Bool}(hr:(!(p==q))=r)
 (h:wpList P ops Q rest (a.put o.dst (.bool r)) w):wpList P ops Q (o::rest) a w:=by
 subst hr;refine wpList_plain Eu λK hK=>?_;unfold aZ.wp;simp[aO,eqGuard,binOp,ho,hx,hy,zmP hu];exact hK _ _ h
end
def yX (xs:List bF)(p:Int):Nat:=(xs.takeWhile λx=>decide (p<=x.p)).length
def zgC (xs:List bF)(p:Int):yX xs p<=xs.length:=(zsk _).length_le
theorem zFM (xs:List bF)(c:bF):sE xs c=xs.take (yX xs c.p)++c::xs.drop (yX xs c.p):=by
 unfold sE yX;congr 1
 .exact(List.prefix_iff_eq_take.1 (zsk _))
 .congr 1
  have h:=List.takeWhile_append_dropWhile (p:=λx:bF=>decide (c.p<=x.p)) (l:=xs);generalize xs.takeWhile (λx=>decide (c.p<=x.p))=a at*;generalize xs.dropWhile (λx=>decide (c.p<=x.p))=b at*;subst h;simp
variable {p:Int}
theorem zFC :∀{j:Nat} {x:bF},j<yX xs p->xs[j]? =some x->p<=x.p:=by
 unfold yX
 induction xs with
 |nil=>intro j x hj;simp at hj
 |cons y ys ih=>
  intro j x hj hx;rw[zoB] at hj;split at hj
  .rename_i hy
   cases j with
   |zero=>simp at hx;subst hx;simpa using hy
   |succ j=>exact ih zcz (by simpa using hx)
  .simp at hj
theorem zAz :∀{j:Nat} {x:bF},yX xs p=j->xs[j]? =some x->x.p<p:=by
 unfold yX
 induction xs with
 |nil=>intro j x hj hx;simp at hx
 |cons y ys ih=>
  intro j x hj hx;rw[zoB] at hj;split at hj
  .rename_i hy
   cases j with
   |zero=>simp at hj
   |succ j=>exact ih zcz (by simpa using hx)
  .rename_i hy
   simp at hj;subst hj;simp at hx;subst hx;simpa using hy
def zkz:Go.Code:=(zpE.body).getD .skip
def rRI9:Go.Code:=match zkz with| .seq _ (.seq _ (.seq _ (.seq _ (.seq _ (.seq _ (.seq (.block _ (.loop (.seq (.seq (a) _) _))) _))))))=>a|_=>.skip
def rRI11:Go.Code:=match zkz with| .seq _ (.seq _ (.seq _ (.seq _ (.seq _ (.seq _ (.seq _ (.seq (a) _)))))))=>a|_=>.skip
def zfI:Array Oper:=match rRI11 with| .region _ ops _=>ops|_=>#[]
abbrev oRI11_9:Oper:=aV zfI 9 (some 72) (.buildSlice 69 1 #[(0,.tmp 71)])
def zFv:zfI[9]? =some oRI11_9:=rfl
abbrev zH8:Oper:=aV zfI 13 none (.store 69 (.tmp 75) (.tmp 73))
def zH2:zfI[13]? =some zH8:=rfl
def Ch:vW aK 101:=⟨_,zw6,.inr (.inl ⟨_,rfl⟩)⟩
section
variable {Q:n6->uB->aE->Prop}{u3 u4 u5 u6 u7 u9 gS gF gE fZ fY gA u16 hY kH kO jH gT iA gY gZ iG iM gV iF iE jE jD u32 iL iK iD iC kE kL iH iI iJ jB iO iV iQ jA iN iP iU iS iZ mU mY kV kS kN kP kD kQ kM jU j7 jZ u64 j9 jY j5 j6 kZ kK kF j8 zbY zbV zdm zbe zc1 Z5 zdt:aF}{w:aE}
theorem wp_RI9 {lo hb n cW m:Nat}{AW:Option bD}{xs:List bF}{c:bF}(h7:w.cell? ⟨hb,7,none⟩=some (.slice AW n cW))(hs:cM w lo w.heap.size 2 AW n cW (bG xs))(hn:xs.length=n)(Qa:n<=1000)(hm:m<=yX xs c.p)(hp:0<=c.p/\c.p<=9)(h:∀zxu zxs zwY zwS z46 zp1 zn9 z49 zqm z51 zud z53 zvB zqR zsP zu9 zqF z59,Q .normal ⟨#[.pointer (some ⟨hb,0,none⟩),.int .i64 c.c,.int .i64 c.p,u3,u4,u5,u6,u7,.int .i64 (m:Int),u9,gS,gF,gE,fZ,fY,gA,u16,hY,kH,kO,jH,gT,iA,gY,gZ,iG,iM,gV,iF,iE,jE,jD,u32,iL,iK,iD,iC,kE,kL,iH,iI,iJ,zxu,zxs,zwY,zwS,z46,zp1,zn9,z49,zqm,z51,zud,z53,zvB,zqR,zsP,zu9,zqF,z59,.bool (decide (m<yX xs c.p)),jU,j7,jZ,u64,j9,jY,j5,j6,kZ,kK,kF,j8,zbY,zbV,zdm,zbe,zc1,Z5,zdt],[]⟩ w):
 Code.wp aK rRI9 Q ⟨#[.pointer (some ⟨hb,0,none⟩),.int .i64 c.c,.int .i64 c.p,u3,u4,u5,u6,u7,.int .i64 (m:Int),u9,gS,gF,gE,fZ,fY,gA,u16,hY,kH,kO,jH,gT,iA,gY,gZ,iG,iM,gV,iF,iE,jE,jD,u32,iL,iK,iD,iC,kE,kL,iH,iI,iJ,jB,iO,iV,iQ,jA,iN,iP,iU,iS,iZ,mU,mY,kV,kS,kN,kP,kD,kQ,kM,jU,j7,jZ,u64,j9,jY,j5,j6,kZ,kK,kF,j8,zbY,zbV,zdm,zbe,zc1,Z5,zdt],[]⟩ w:=by
 have hle:=zgC xs c.p;have zpq:=aD (show∀(j:Nat) (x:bF),j<yX xs c.p->xs[j]? =some x->c.p<=x.p from λj x hj hx=>zFC hj hx);obtain⟨pl,nU⟩:=aP (yX xs c.p);rw[<-nU] at hm h hle zpq;have zDY:=aD nU;have Rm:=aD hn;have HQ:=aD h;simp only[rRI9,zkz,zpE,Bp];by_cases aU:m<n
 .obtain⟨bW,oW,x,hA,lL,fI,e0,e1⟩:=zdB hs aU
  subst hA;have i0:(0:Int)<=(m:Int):=aC;have i1:(m:Int)<(n:Int):=aC;have HX:=aD fI;have HS:=aD hs;by_cases zHE:c.p<=x.p
  .have Pp:m<pl:=by
    rcases uE m pl with hh|hh
    .exact hh
    .have:m=pl:=aC
     subst this;exact absurd (zAz zDY.o.symm HX.o) aC
   go_wp2;have:=HQ.o;simp only[Pp,decide_true] at this;exact this _ _ _ _ _ _ _ _ _ _ _ _ _ _ _ _ _ _
  .have Pp:¬m<pl:=λhh=>zHE (zpq.o m x hh HX.o)
   go_wp2;have:=HQ.o;simp only[Pp,decide_false] at this;exact this _ _ _ _ _ _ _ _ _ _ _ _ _ _ _ _ _ _
 .have zFr:m=n:=by have:=Rm.o;omega
  subst zFr;have Pp:¬m<pl:=by have:=Rm.o;omega
  have HS:=aD hs;go_wp2;have:=HQ.o;simp only[Pp,decide_false] at this;exact this _ _ _ _ _ _ _ _ _ _ _ _ _ _ _ _ _ _
end
variable {d:nV}
theorem cf_ring (H:e.d.Ok){c:bF}(h:bE w lo hb v d)(mr:fX v d)(hi:y3 d)(eB:lo<=w.heap.size)(hp:0<=c.p/\c.p<=9):
 CF e.d 101 #[.pointer (some ⟨hb,0,none⟩),.int .i64 c.c,.int .i64 c.p] K (.wk e.qs k) w (λK' l' y w'=>zcx e.qs lo hb v d w k 0 (oY d.r c) l' y w'):=by
 refine CF.of 80 zw6 (.inr (.inl ⟨_,rfl⟩)) ?_;have A0:=aD h;have T0:=aD (bP.refl (hb:=hb) (v:=v) (w:=w));have HI:=aD hi;have MR:=aD mr;have K7:=aD eB;have nX:=hi.sm.nb;have Ly:=hi.sm.nw;have Dv:=hi.sm.nr;obtain⟨yJ,znx⟩:=hp;clear h mr hi eB;refine CW.sq H (CW.p0 H Ch A0 T0 λw1 eG A1 T1=>?_);obtain⟨AB,cB,Kw,zcN⟩:=Hn A1.o.B aH;have zS:=aD Kw;clear Kw zcN;obtain⟨kn,sP⟩:=aP (((gN d.r.recs c.c).isSome||(tV d.r.back c.c).isSome));have fA:=aD sP;clear sP;refine CW.sq H ?_;refine CW.sq H ?_
 cases eU:gN d.r.recs c.c with
 |some i=>
  obtain⟨x,hx,Jf,rM⟩:=zH eU;obtain⟨gL,Nz,hO,hM,hC⟩:=MR.o.onLine HI.o hx rM Jf;have S3:=aD hO;have cG:=aD (show oY d.r c=(d.r,[107,110,111,119,110]) by unfold oY;rw[eU];rfl);clear hx Jf rM Nz hO hM hC eU;refine CW.pW H Ch A1 T1 λw2 Q eT A2 T2 HQ=>?_;have k5:w2.cell? ⟨hb,5,none⟩=some (.map (some v.mO)):=aI A2.o.blk 5;have k8:w2.cell? ⟨hb,8,none⟩=some (.slice AB d.r.back.length cB):=by
   have:=aI A2.o.blk 8;rw[this,<-zS.o];rfl
  have Gd:=aD (show cM w2 lo w2.heap.size 1 AB d.r.back.length cB (jQ (d.r.back.map bF.c)) by have:=A2.o.B;rw[zS.o] at this;exact As this aH);have Vi:=aD A2.o.O
  go_wp2_with (at_lookup;refine zp8 _ rfl (.tmp 12) (.tmp 13) 67 false rfl 84 Te Kf (.chan none) (zbH _) v.mO c.c v.pO rfl rfl Vi.o ?_;rw[S3.o];simp only[Bp,zrD,gK,if_false];refine zux rfl (.tmp 14) (.const (.chan none)) 84 84 rfl Rt (some gL) none rfl rfl (r:=true) rfl ?_)
  refine HQ.o _ _ ?_;clear HQ;clear k5 k8;refine CW.cd H true ?_;refine CW.sq H (CW.p0 H Ch A2 T2 λw3 iT A3 T3=>?_);refine CW.rt H ?_;refine⟨.inr rfl,rfl,.string ⟨#[107,110,111,119,110]⟩,rfl,⟨rfl,by rw[cG.o],v,?_,?_,?_,zV.rf v⟩⟩
  .rw[cG.o];exact A3.o
  .rw[cG.o];exact MR.o
  .exact T3.o
 |none=>
  have S3:=aD (MR.o.offLine eU);have uT:=aD eU;clear eU;refine CW.pW H Ch A1 T1 λw2 Q eT A2 T2 HQ=>?_;have k5:w2.cell? ⟨hb,5,none⟩=some (.map (some v.mO)):=aI A2.o.blk 5;have k8:w2.cell? ⟨hb,8,none⟩=some (.slice AB d.r.back.length cB):=by
   have:=aI A2.o.blk 8;rw[this,<-zS.o];rfl
  have Gd:=aD (show cM w2 lo w2.heap.size 1 AB d.r.back.length cB (jQ (d.r.back.map bF.c)) by have:=A2.o.B;rw[zS.o] at this;exact As this aH);have Vi:=aD A2.o.O
  go_wp2_with (first
   |(at_lookup;refine zp8 _ rfl (.tmp 12) (.tmp 13) 67 false rfl 84 Te Kf (.chan none) (zbH _) v.mO c.c v.pO rfl rfl Vi.o ?_;rw[S3.o];simp only[Bp,zrD,gK,if_false];refine zux rfl (.tmp 14) (.const (.chan none)) 84 84 rfl Rt (none) none rfl rfl (r:=false) rfl ?_)
   |(go_at_call 108;refine(zGY lo w2.heap.size d.r.back.length cB AB (d.r.back.map bF.c) c.c w2 Gd.o aC).mono ?_;rintro en wz ⟨rfl,sM⟩;obtain rfl:=sM;rw[zqA]))
  refine HQ.o _ _ ?_;clear HQ;clear k8;have zK6:=A2
  cases J4:tV d.r.back c.c with
  |some p=>
   have cG:=aD (show oY d.r c=(d.r,[107,110,111,119,110]) by unfold oY;rw[J4,uT.o];rfl);clear J4;refine CW.cd H true ?_;refine CW.sq H (CW.p0 H Ch A2 T2 λw3 iT A3 T3=>?_);refine CW.rt H ?_;refine⟨.inr rfl,rfl,.string ⟨#[107,110,111,119,110]⟩,rfl,⟨rfl,by rw[cG.o],v,?_,?_,?_,zV.rf v⟩⟩
   .rw[cG.o];exact A3.o
   .rw[cG.o];exact MR.o
   .exact T3.o
  |none=>
   have zxv:=aD J4;clear J4;refine CW.cd H false ?_;refine CW.sk H ?_;dsimp only;have zcZ:=HI.o.nln;have zbq:d.ln.length<=100:=by have:=(Bb HI.o.R.off).2.1;omega
   have zcc:=aD (λW (a:bE W lo hb v d)=>zwZ a MR.o zcZ zbq);clear zcZ zbq fA;refine CW.sq H (CW.pW H Ch A2 T2 λw3 Q iT A3 T3 HQ=>?_)
   go_wp2_with (go_at_call 109;refine(zcc.o _ A3.o).mono ?_;rintro en wy ⟨rfl,zAk⟩;obtain rfl:=zAk)
   refine HQ.o _ _ ?_;clear HQ;clear zcc;refine CW.sq H ?_
   cases fS:oM d.r.o d.r.recs with
   |nil=>
    rw[zwI fS];have cG:=aD (show oY d.r c=({d.r with back:=d.r.back++[c]},[98,117,115,121]) by unfold oY;rw[zxv.o,uT.o];simp only[fS];rfl);clear fS;refine CW.sq H (CW.p0 H Ch A3 T3 λw4 lS A4 T4=>?_);refine CW.cd H true ?_;refine CW.sq H (CW.pW H Ch A4 T4 λw5 Q mF A5 T5 HQ=>?_);have k8:w5.cell? ⟨hb,8,none⟩=some v.sB:=aI A5.o.blk 8;obtain⟨OC,zaL⟩:=aP (.cells #[.int .i64 c.c] 3:Obj);have a5:=A5.o.alloc OC;obtain⟨q1,q2,w6,fF,cZ,mQ,eU⟩:=M3 (t:=38) (ty:=38) zcX Vs rfl aH a5.B (g:=w5.heap.size) (cs:=#[.int .i64 c.c]) (news:=[.int .i64 c.c]) (by rw[zaL];exact gU _ _) rfl (m:=1) rfl aH Mk aC aH (by have:=T5.o.size;have:=K7.o;simp;omega);obtain⟨a6,t6⟩:=a5.putB mQ (xs:=d.r.back++[c]) (by have e:jQ ((d.r.back++[c]).map bF.c)=jQ (d.r.back.map bF.c)++[.int .i64 c.c]:=(by simp[jQ]);rw[e];exact cZ) aQ eU;have A6:=aD a6;have T6:=aD (T5.o.trans ((bP.below (eD (fN _ w5) OC)).trans (⟨t6.size,t6.block,t6.moved⟩:bP hb v (w5.alloc OC) _ _)));have Kx:w6.heap[hb]? =some (Nx v _):=(a5.other (j:=6) (c:=8) (x:=v.sB) rfl aH mQ (.slice (some ⟨q1,0,none⟩) (d.r.back.length+1) q2)).2.trans a5.blk;have zv2:=aI Kx 8;have kf:=eO Kx 8;have AP:=aD fF;obtain⟨A8,c8,zgM,_⟩:=Hn A5.o.B aH;have Pc:w5.cell? ⟨hb,8,none⟩=some (.slice A8 d.r.back.length c8):=by rw[k8,zgM]
    have zAu:w6.cell? ⟨hb,8,none⟩=some (.slice A8 d.r.back.length c8):=by rw[zv2,<-zgM];rfl
    rw[zgM,zaL] at AP;clear cZ mQ eU a6 t6 a5 Kx fF k8 zv2 zgM
    go_wp2_with (at_builtin;refine zqr rfl (.tmp 32) (.tmp 34) 38 38 rfl (.slice A8 d.r.back.length c8) (.slice (some ⟨w5.heap.size,0,none⟩) 1 1) (.slice (some ⟨q1,0,none⟩) (d.r.back.length+1) q2) rfl rfl AP.o ?_)
    refine HQ.o _ _ ?_;clear HQ;clear Pc zAu kf AP;clear A5 T5;obtain⟨zIV,zwd⟩:∃y,y=w6.setCell ⟨hb,8,none⟩ (.slice (some ⟨q1,0,none⟩) (d.r.back.length+1) q2):=⟨_,rfl⟩;rw[<-zwd] at A6 T6⊢;clear zwd;refine CW.sq H (CW.p0 H Ch A6 T6 λw7 rE A7 T7=>?_);refine CW.rt H ?_;refine⟨.inr rfl,rfl,.string ⟨#[98,117,115,121]⟩,rfl,⟨rfl,by rw[cG.o],{v with sB:=.slice (some ⟨q1,0,none⟩) (d.r.back.length+1) q2},?_,?_,?_,⟨rfl,rfl,rfl,rfl⟩⟩⟩
    .rw[cG.o];exact A7.o
    .rw[cG.o];refine fX.of MR.o ?_ ?_ ?_ ?_ ?_<;>rfl
    .exact T7.o
   |cons lf ls=>
    obtain⟨i,gL,vC⟩:=HI.o.free fS;have uL:Js d=(i:Int):=by rw[zw1 fS,vC.l];omega
    rw[uL];have cG:=aD (show oY d.r c=({d.r with recs:=d.r.recs++[⟨c.c,(i:Int)+1,0,d.r.clk,-1,-1,dY⟩],wait:=sE d.r.wait c},[108,105,110,101,32]++fW ((i:Int)+1)) by unfold oY;rw[zxv.o,uT.o];simp only[fS,vC.l];rfl);have FA:=aD vC;have zGR:=vC.i6;have ztF:i<=50:=by have:=(zfE HI.o.R.off (l:=lf) (by rw[fS];simp));have:=vC.l;omega
    clear fS vC uL;refine CW.sq H (CW.pW H Ch A3 T3 λw4 Q lS A4 T4 HQ=>?_);have i0:(0:Int)<=(i:Int):=aC;go_wp2;refine HQ.o _ _ ?_;clear HQ;refine CW.cd H false ?_;refine CW.sk H ?_;dsimp only;refine CW.sq H (CW.pW H Ch A4 T4 λw5 Q mF A5 T5 HQ=>?_);have zFF:lo<=w5.heap.size:=eM K7.o T5.o.size
    go_wp2_with (go_at_call 110;refine(zrp A5.o zFF FA.o.g aC Dv c.c).mono ?_;rintro en w6 ⟨rfl,v6,a6,t6,p6⟩;have A6:=aD a6;have T6:=aD (T5.o.trans t6);have P6:=aD p6;clear a6 t6 p6)
    refine HQ.o _ _ ?_;clear HQ;clear A5 T5;have zz7:=aD (fX.of (v':=v6) (d':={d with r:={d.r with recs:=d.r.recs++[⟨c.c,(i:Int)+1,0,d.r.clk,-1,-1,dY⟩]}}) (MR.o.more HI.o.ndl FA.o.g FA.o.un uT.o (o:=0) (hh:=-1) (tt:=-1) (clk:=d.r.clk)) P6.o.1 P6.o.2.1 P6.o.2.2.1 rfl rfl);have zJV:lo<=w6.heap.size:=eM K7.o T6.o.size;refine CW.sq H (CW.p0 H Ch A6 T6 λw7 rE A7 T7=>?_);obtain⟨AW,cW,Li,zCy⟩:=Hn A7.o.W aH;have Bm:=aD (show v6.sW=.slice AW d.r.wait.length cW from Li);clear Li zCy;refine CW.sq H ?_;refine CW.block H ?_;refine CW.loop H (λnn s=>∃(m:Nat) (wz:aE) (u3 u4 u5 u6 u9 gS gF gE fZ fY gA u16 hY kH kO jH gT iA gY gZ iG iM gV iF iE jE jD u32 iL iK iD iC kE kL iH iI iJ jB iO iV iQ jA iN iP iU iS iZ mU mY kV kS kN kP kD kQ kM jU j7 jZ u64 j9 jY j5 j6 kZ kK kF j8 zbY zbV zdm zbe zc1 Z5 zdt:aF),s=⟨[],K,.wk e.qs k,#[.pointer (some ⟨hb,0,none⟩),.int .i64 c.c,.int .i64 c.p,u3,u4,u5,u6,.int .i64 (i:Int),.int .i64 (m:Int),u9,gS,gF,gE,fZ,fY,gA,u16,hY,kH,kO,jH,gT,iA,gY,gZ,iG,iM,gV,iF,iE,jE,jD,u32,iL,iK,iD,iC,kE,kL,iH,iI,iJ,jB,iO,iV,iQ,jA,iN,iP,iU,iS,iZ,mU,mY,kV,kS,kN,kP,kD,kQ,kM,jU,j7,jZ,u64,j9,jY,j5,j6,kZ,kK,kF,j8,zbY,zbV,zdm,zbe,zc1,Z5,zdt],wz⟩/\m<=yX d.r.wait c.p/\nn=yX d.r.wait c.p-m/\bE wz lo hb v6 {d with r:={d.r with recs:=d.r.recs++[⟨c.c,(i:Int)+1,0,d.r.clk,-1,-1,dY⟩]}}/\bP hb v w v6 wz) (λnn s hs=>?_) (n:=yX d.r.wait c.p) ?_
    rotate_left
    .exact⟨0,w7,_,_,_,_,_,_,_,_,_,_,_,_,_,_,_,_,_,_,_,_,_,_,_,_,_,_,_,_,_,_,_,_,_,_,_,_,_,_,_,_,_,_,_,_,_,_,_,_,_,_,_,_,_,_,_,_,_,_,_,_,_,_,_,_,_,_,_,_,_,_,_,_,_,_,_,rfl,mP _,rfl,A7.o,T7.o⟩
    .obtain⟨m,wz,u3,u4,u5,u6,u9,gS,gF,gE,fZ,fY,gA,u16,hY,kH,kO,jH,gT,iA,gY,gZ,iG,iM,gV,iF,iE,jE,jD,u32,iL,iK,iD,iC,kE,kL,iH,iI,iJ,jB,iO,iV,iQ,jA,iN,iP,iU,iS,iZ,mU,mY,kV,kS,kN,kP,kD,kQ,kM,jU,j7,jZ,u64,j9,jY,j5,j6,kZ,kK,kF,j8,zbY,zbV,zdm,zbe,zc1,Z5,zdt,rfl,Pp,Da,az,tz⟩:=hs
     have A8:=aD az;have T8:=aD tz;clear az tz A7 T7;refine CW.sq H ?_;refine CW.sq H ?_;refine CW.pQ H Ch (λzig Q HQ=>?_);obtain⟨w9,J1⟩:=aP (Tt.tp wz zig 0);have A9:=aD (show bE w9 lo hb v6 {d with r:={d.r with recs:=d.r.recs++[⟨c.c,(i:Int)+1,0,d.r.clk,-1,-1,dY⟩]}} by rw[J1];exact A8.o.tp zig 0);have T9:=aD (show bP hb v w v6 w9 by rw[J1];exact T8.o.tp zig 0)
     try dsimp only
     rw[<-J1];clear J1 A8 T8;have hW:=A9.o.W;rw[Bm.o] at hW;have k7:w9.cell? ⟨hb,7,none⟩=some (.slice AW d.r.wait.length cW):=by
      have:=aI A9.o.blk 7;rw[this,<-Bm.o];rfl
     refine wp_RI9 k7 (As hW aH) rfl Ly Pp ⟨yJ,znx⟩ λzxu zxs zwY zwS z46 zp1 zn9 z49 zqm z51 zud z53 zvB zqR zsP zu9 zqF z59=>?_;refine HQ.o _ _ ?_;clear HQ hW k7;by_cases aU:m<yX d.r.wait c.p
     .simp only[aU,decide_true]
      refine CW.cd H true ?_;refine CW.sk H ?_;dsimp only;refine CW.block H ?_;refine CW.pQ H Ch (λVy Q HQ=>?_);obtain⟨wE,Eb⟩:=aP (Tt.tp w9 Vy 0);have sO:=aD (show bE wE lo hb v6 {d with r:={d.r with recs:=d.r.recs++[⟨c.c,(i:Int)+1,0,d.r.clk,-1,-1,dY⟩]}} by rw[Eb];exact A9.o.tp Vy 0);have xH:=aD (show bP hb v w v6 wE by rw[Eb];exact T9.o.tp Vy 0)
      try dsimp only
      rw[<-Eb];clear Eb A9 T9;have zzC:m<=1000:=by have:=zgC d.r.wait c.p;omega
      go_wp2;refine HQ.o _ _ ?_;refine⟨yX d.r.wait c.p-(m+1),aC,m+1,wE,_,_,_,_,_,_,_,_,_,_,_,_,_,_,_,_,_,_,_,_,_,_,_,_,_,_,_,_,_,_,_,_,_,_,_,_,_,_,_,_,_,_,_,_,_,_,_,_,_,_,_,_,_,_,_,_,_,_,_,_,_,_,_,_,_,_,_,_,_,_,_,_,_,_,_,rfl,aC,rfl,sO.o,xH.o⟩
     .simp only[aU,decide_false]
      refine CW.cd H false ?_;refine CW.exit H aQ ?_;dsimp only;rw[if_pos rfl];have zbx:m=yX d.r.wait c.p:=aC;have zze:=aD zbx;have zzC:m<=1000:=by have:=zgC d.r.wait c.p;omega
      have zb1:m<=d.r.wait.length:=by have:=zgC d.r.wait c.p;omega
      clear zbx aU Pp Da;have zyy:=aD (show w9.ownsRow lo 149 2 (.slice AW d.r.wait.length cW) d.r.wait.length (bG d.r.wait) by have:=A9.o.W;rw[Bm.o] at this;exact this);have k7:w9.cell? ⟨hb,7,none⟩=some (.slice AW d.r.wait.length cW):=by
       have:=aI A9.o.blk 7;rw[this,<-Bm.o];rfl
      refine CW.sq H ?_;refine CW.rg H [0,1,2,3,4,5,6,7,8,9,10,11,12,13] ?_;refine CR.mv H (.pointer (some ⟨hb,0,none⟩)) ?_;refine CR.mv H (.pointer (some ⟨hb,0,none⟩)) ?_;refine CR.mv H (.pointer (some ⟨hb,0,none⟩)) ?_;refine CR.mg H (.pointer (some ⟨hb,7,none⟩)) ?_;refine nP ?_;refine CR.mv H (.slice AW d.r.wait.length cW) ?_ (hx:=λT=>by have hh:(Tt.tp w9 T 0).cell? _=_:=k7;unfold aO;go_simp);refine CR.mv H (.int .i64 (m:Int)) ?_;refine CR.mv H (.int .i64 c.c) ?_;refine CR.mv H (.int .i64 c.p) ?_;refine CR.mv H (.agg #[.int .i64 c.c,.int .i64 c.p]) ?_ (hx:=λT=>by unfold aO;go_simp;try rfl);refine CR.op H zFv rfl aT (λT=>⟨.slice (some ⟨w9.heap.size,0,none⟩) 1 1,(Tt.tp w9 T 0).alloc (.cells #[.int .i64 c.c,.int .i64 c.p] 149),.inl O2,?_⟩);simp only[b7,gC,dV,dU];obtain⟨wa,xG⟩:=aP ((Tt.tp w9 T 0).alloc (.cells #[.int .i64 c.c,.int .i64 c.p] 149));have sO:=aD (show bE wa lo hb v6 {d with r:={d.r with recs:=d.r.recs++[⟨c.c,(i:Int)+1,0,d.r.clk,-1,-1,dY⟩]}} by rw[xG];exact(A9.o.tp T 0).alloc _);have xH:=aD (show bP hb v w v6 wa by rw[xG];exact(T9.o.tp T 0).trans (bP.below (eD (fN _ _) _)));have HV:=aD (show wa.heap[w9.heap.size]? =some (.cells #[.int .i64 c.c,.int .i64 c.p] 149) by rw[xG];exact gU _ _);have zqp:=aD (show wa.ownsRow lo 149 2 (.slice AW d.r.wait.length cW) d.r.wait.length (bG d.r.wait) by have:=sO.o.W;rw[Bm.o] at this;exact this);have aS:(Sv AW d.r.wait.length cW).ownBlock≠some w9.heap.size:=λe=>by have:=(zyy.o.lt _ e).2;omega
      have zCt:lo<=wa.heap.size:=eM K7.o xH.o.size;rw[<-xG];clear xG A9 T9 k7;refine CR.cl H (zBe H (x:=c) zqp.o zCt Ly zb1 HV.o aS) (λK' l' y wb hl qC=>?_);obtain⟨rfl,g2,c2,rfl,oN,zl2,eU⟩:=qC;simp only[b7,gC,dV,dU];have To:({wb with heap:=wa.heap}:aE).grownBy wb v6.sW.ownBlock:=⟨rfl,rfl,rfl,zl2.size,λb bZ hn=>zl2.block b bZ (by rw[<-Bm.o];exact hn)⟩;have a0:bE ({wb with heap:=wa.heap}:aE) lo hb v6 {d with r:={d.r with recs:=d.r.recs++[⟨c.c,(i:Int)+1,0,d.r.clk,-1,-1,dY⟩]}}:=sO.o.same rfl;have zjc:d.r.wait.take m++c::d.r.wait.drop m=sE d.r.wait c:=by rw[zFM,zze.o]
      rw[zjc] at oN;obtain⟨a6,t6⟩:=a0.putW To oN (by rw[<-zjc];simp;omega) (by rw[Bm.o];exact eU.imp (λe=>e) (λe b bZ=>by have q9:g2=b:=cJ bZ;show wa.heap.size<=b;rw[<-q9];exact e));have zbi:=(a0.other (j:=5) (c:=7) (x:=v6.sW) rfl aH To (.slice (some ⟨g2,0,none⟩) (d.r.wait.length+1) c2)).2;have zxb:wb.cell? ⟨hb,7,none⟩=some (.slice AW d.r.wait.length cW):=by
       have:=aI (zbi.trans a0.blk) 7;rw[this,<-Bm.o];rfl
      have zvy:=eO (zbi.trans a0.blk) 7;have F6:=aD (xH.o.trans ((bP.refl (v:=v6) (w:=wa) (hb:=hb)).same (x:={wb with heap:=wa.heap}) rfl|>.trans t6));have Bs:=aD a6;clear a6 t6 a0 To zbi oN zl2 eU sO xH HV zqp aS zjc;refine nP ?_;refine CR.mv H (.pointer (some ⟨hb,0,none⟩)) ?_;refine CR.mg H (.pointer (some ⟨hb,7,none⟩)) ?_;refine CR.sto H zH2 rfl aT rfl (w':=wb.setCell ⟨hb,7,none⟩ (.slice (some ⟨g2,0,none⟩) (d.r.wait.length+1) c2)) (λT=>by have hh:(Tt.tp wb T 0).cell? _=_:=zxb;have hf:(Tt.tp wb T 0).frozen? _=_:=zvy;unfold aO;go_simp;try rfl) ?_;obtain⟨wc,zgt⟩:=aP (wb.setCell ⟨hb,7,none⟩ (.slice (some ⟨g2,0,none⟩) (d.r.wait.length+1) c2));have zcT:=aD (show bE wc lo hb {v6 with sW:=.slice (some ⟨g2,0,none⟩) (d.r.wait.length+1) c2} {d with r:={d.r with recs:=d.r.recs++[⟨c.c,(i:Int)+1,0,d.r.clk,-1,-1,dY⟩],wait:=sE d.r.wait c}} by rw[zgt];exact Bs.o);have zbI:=aD (show bP hb v w {v6 with sW:=.slice (some ⟨g2,0,none⟩) (d.r.wait.length+1) c2} wc by rw[zgt];exact F6.o);dsimp only;rw[<-zgt];clear zgt Bs F6 zxb zvy;refine CR.nil H ?_;have Jy:=Pd (c:=(i:Int)+1) aC aC;refine CW.sq H (CW.pW H Ch zcT zbI λzsa Q zuw zcm zc8 HQ=>?_)
      go_wp2_with (go_at_call 112;refine(zhU ((i:Int)+1) aC aC _).mono ?_;rintro en zJD ⟨rfl,zDI⟩;obtain rfl:=zDI)
      refine HQ.o _ _ ?_;clear HQ;refine CW.rt H ?_;refine⟨.inr rfl,rfl,.string ⟨([108,105,110,101,32]++fW ((i:Int)+1)).toArray⟩,(by have ee:(⟨#[108,105,110,101,32]⟩:ByteArray)++⟨(fW ((i:Int)+1)).toArray⟩=⟨([108,105,110,101,32]++fW ((i:Int)+1)).toArray⟩:=(by simp[N0]);rw[<-ee];rfl),⟨rfl,by rw[cG.o],{v6 with sW:=.slice (some ⟨g2,0,none⟩) (d.r.wait.length+1) c2},?_,?_,?_,⟨P6.o.2.2.2.1,P6.o.2.2.2.2.1,P6.o.2.2.2.2.2.2.2.1,P6.o.2.2.2.2.2.2.2.2⟩⟩⟩
      .rw[cG.o];exact zcm.o
      .rw[cG.o];refine fX.of zz7.o ?_ ?_ ?_ ?_ ?_<;>rfl
      .exact zc8.o
structure EvPre (lo hb:Nat)(v:fC)(d:nV)(w:aE):Prop where
 at_:bE w lo hb v d
 mr:fX v d
 i:y3 d
 lo_:lo<=w.heap.size
 tab:Bd lo w
 clk:d.r.clk<=99000
 nbw:d.r.back.length+d.r.wait.length<=5000
def Iy:vW aK 81:=⟨_,zoY,.inr (.inl ⟨_,rfl⟩)⟩
variable {ev:dX}
theorem zyU (H:e.d.Ok)(h:EvPre lo hb v d w)(nG:qX d.r.o.op ev=true)(hW:Cu e.W k (pA d.r ev))(hK:∀(i g:Nat),d.qn[i]? =some g->K g (qa e.qs i)):
 CF e.d 81 #[.pointer (some ⟨hb,0,none⟩),.agg #[.string ev.k,.int .i64 ev.a,.int .i64 ev.b]] K (.wk e.qs k) w (λK' l' y w'=>zcx e.qs lo hb v d w k (pA d.r ev).length (eF d.r ev) l' y w'):=by
 refine CF.of 37 zoY (.inr (.inl ⟨_,rfl⟩)) ?_;have A0:=aD h.at_;have T0:=aD (bP.refl (hb:=hb) (v:=v) (w:=w));have HP:=aD h;have HW:=aD hW;have Zs:=(Bb h.i.R.off).2.2.2.1;have S8:=h.i.nqn;have zbB:Lm d.r.o.op ev:=by unfold qX at nG;simpa using nG
 have zhd:=aD zbB;clear h hW nG zbB;refine CW.sq H (CW.pW H Iy A0 T0 λw1 Q eG A1 T1 HQ=>?_);go_wp2;refine HQ.o _ _ ?_;clear HQ;obtain⟨gx,uW⟩:=aP w1.heap.size;obtain⟨w2,eT⟩:=aP (w1.alloc (.cells #[.string ev.k,.int .i64 ev.a,.int .i64 ev.b] 54));have A2:=aD (show bE w2 lo hb v d by rw[eT];exact A1.o.alloc _);have T2:=aD (show bP hb v w v w2 by rw[eT];exact T1.o.trans (bP.below (eD (fN _ _) _)));have zdR:=aD (show w2.heap[gx]? =some (.cells #[.string ev.k,.int .i64 ev.a,.int .i64 ev.b] 54) by rw[eT,uW];exact gU _ _);rw[<-uW,<-eT];clear eT uW A1 T1;refine CW.sq H ?_;refine CW.sq H (CW.pW H Iy A2 T2 λw3 Q iT A3 T3 HQ=>?_);have vO:=aD (iT▸zdR.o);have kx:=aI vO.o 0;go_wp2;refine HQ.o _ _ ?_;clear HQ;clear kx;refine CW.block H ?_;by_cases X7:ev.k.toList=Bt
 .
   have qL:(ev.k.toList==[114,105,110,103])=true:=by rw[X7];rfl
   have lU:=aD X7;clear X7;refine CW.sq H (CW.pW H Iy A3 T3 λw4 Q lS A4 T4 HQ=>?_);have Ms:=aD (lS▸vO.o);go_wp2;refine HQ.o _ _ ?_;clear HQ
   try simp only[qL]
   clear qL;refine CW.cond H (t:=true) rfl Pq ?_;refine CW.sq H ?_;refine CW.rg H [0,1,2,3,4,5,6] ?_;refine CR.mv H (.pointer (some ⟨hb,0,none⟩)) ?_;refine CR.mg H (.pointer (some ⟨gx,1,none⟩)) ?_;refine CR.mv H (.int .i64 ev.a) ?_ (hx:=λT=>by have hh:(Tt.tp w4 T 0).cell? _=_:=aI Ms.o 1;unfold aO;go_simp);refine CR.mg H (.pointer (some ⟨gx,2,none⟩)) ?_;refine CR.mv H (.int .i64 ev.b) ?_ (hx:=λT=>by have hh:(Tt.tp w4 T 0).cell? _=_:=aI Ms.o 2;unfold aO;go_simp)
   obtain⟨P3,Bu,Su,J8⟩:1<=ev.a/\ev.a<=99/\0<=ev.b/\ev.b<=9:=by
    rcases zhd.o with h|h|⟨h,_⟩|h
    .exact h.2
    .rw[h.1] at lU;exact absurd lU.o aH
    .rcases h with h|h<;>(rw[h] at lU;exact absurd lU.o aH)
    .rw[h.1] at lU;exact absurd lU.o aH
   have mL:=aD (show eF d.r ev=oY d.r ⟨ev.a,ev.b⟩ by unfold eF;rw[if_pos lU.o]);have tH:=aD (show pA d.r ev=[] by unfold pA;rw[if_pos lU.o]);refine CR.cl H (cf_ring H (c:=⟨ev.a,ev.b⟩) A4.o HP.o.mr HP.o.i (eM HP.o.lo_ T4.o.size) ⟨Su,J8⟩) (λK' l' y w' hl qC=>?_);simp only[b7,gC,dV,dU];obtain⟨z1,rfl,z3⟩:=qC;refine nP ?_;refine CR.mv H (.string ⟨(oY d.r ⟨ev.a,ev.b⟩).2.toArray⟩) ?_;refine CR.nil H ?_;refine CW.rt H ?_;obtain⟨v',z4,z5,z6,z7⟩:=z3;refine⟨.inr rfl,rfl,.string ⟨(oY d.r ⟨ev.a,ev.b⟩).2.toArray⟩,rfl,⟨by rw[tH.o];exact z1,by rw[mL.o],v',by rw[mL.o];exact z4,by rw[mL.o];exact z5,T4.o.trans z6,z7⟩⟩
 .
   have qL:(ev.k.toList==[114,105,110,103])=false:=by
    have hz:¬ev.k.toList=[114,105,110,103]:=X7;simpa using hz
   have zmy:=aD X7;clear X7;refine CW.sq H (CW.pW H Iy A3 T3 λw4 Q lS A4 T4 HQ=>?_);have Ms:=aD (lS▸vO.o);go_wp2;refine HQ.o _ _ ?_;clear HQ
   try simp only[qL]
   clear qL;refine CW.cond H (t:=false) rfl Pq ?_;by_cases Vo:ev.k.toList=Eg
   .
     have qL:(ev.k.toList==[104,97,110,103])=true:=by rw[Vo];rfl
     have lU:=aD Vo;clear Vo;refine CW.sq H (CW.pW H Iy A4 T4 λw5 Q mF A5 T5 HQ=>?_);have Ed:=aD (mF▸Ms.o);go_wp2;refine HQ.o _ _ ?_;clear HQ
     try simp only[qL]
     clear qL;refine CW.cond H (t:=true) rfl Pq ?_;refine CW.sq H ?_;refine CW.rg H [0,1,2,3,4] ?_;refine CR.mv H (.pointer (some ⟨hb,0,none⟩)) ?_;refine CR.mg H (.pointer (some ⟨gx,1,none⟩)) ?_;refine CR.mv H (.int .i64 ev.a) ?_ (hx:=λT=>by have hh:(Tt.tp w5 T 0).cell? _=_:=aI Ed.o 1;unfold aO;go_simp);have Qd:Cu e.W k (Dl d.r ev.a):=by
      have:=HW.o;unfold pA at this;rw[if_neg zJ,if_neg zJ,if_neg zJ,if_pos lU.o] at this;exact this
     have mL:=aD (show eF d.r ev=mG d.r ev.a by unfold eF;rw[if_neg zJ,if_neg zJ,if_neg zJ,if_pos lU.o]);have tH:=aD (show pA d.r ev=Dl d.r ev.a by unfold pA;rw[if_neg zJ,if_neg zJ,if_neg zJ,if_pos lU.o]);refine CR.cl H (cf_hang H A5.o HP.o.mr HP.o.i (eM HP.o.lo_ T5.o.size) Qd hK) (λK' l' y w' hl qC=>?_);simp only[b7,gC,dV,dU];obtain⟨z1,rfl,z3⟩:=qC;refine nP ?_;refine CR.mv H (.string ⟨(mG d.r ev.a).2.toArray⟩) ?_;refine CR.nil H ?_;refine CW.rt H ?_;obtain⟨v',z4,z5,z6,z7⟩:=z3;refine⟨.inr rfl,rfl,.string ⟨(mG d.r ev.a).2.toArray⟩,rfl,⟨by rw[tH.o];exact z1,by rw[mL.o],v',by rw[mL.o];exact z4,by rw[mL.o];exact z5,T5.o.trans z6,z7⟩⟩
   .
     have qL:(ev.k.toList==[104,97,110,103])=false:=by
      have hz:¬ev.k.toList=[104,97,110,103]:=Vo;simpa using hz
     have zhR:=aD Vo;clear Vo;refine CW.sq H (CW.pW H Iy A4 T4 λw5 Q mF A5 T5 HQ=>?_);have Ed:=aD (mF▸Ms.o);go_wp2;refine HQ.o _ _ ?_;clear HQ
     try simp only[qL]
     clear qL;refine CW.cond H (t:=false) rfl Pq ?_;by_cases Ym:ev.k.toList=F7
     .
       have qL:(ev.k.toList==[97,110,115,119,101,114])=true:=by rw[Ym];rfl
       have lU:=aD Ym;clear Ym;refine CW.sq H (CW.pW H Iy A5 T5 λw6 Q pN A6 T6 HQ=>?_);have Lb:=aD (pN▸Ed.o);go_wp2;refine HQ.o _ _ ?_;clear HQ
       try simp only[qL]
       clear qL;refine CW.cond H (t:=true) rfl Pq ?_;refine CW.sq H ?_;refine CW.rg H [0,1,2,3,4] ?_;refine CR.mv H (.pointer (some ⟨hb,0,none⟩)) ?_;refine CR.mg H (.pointer (some ⟨gx,1,none⟩)) ?_;refine CR.mv H (.int .i64 ev.a) ?_ (hx:=λT=>by have hh:(Tt.tp w6 T 0).cell? _=_:=aI Lb.o 1;unfold aO;go_simp)
       obtain⟨P3,Bu⟩:1<=ev.a/\ev.a<=d.r.o.op:=by
        rcases zhd.o with h|h|⟨_,h⟩|h
        .rw[h.1] at lU;exact absurd lU.o aH
        .rw[h.1] at lU;exact absurd lU.o aH
        .exact⟨h.1,h.2.1⟩
        .rw[h.1] at lU;exact absurd lU.o aH
       obtain⟨q,oE⟩:∃q:Nat,ev.a=(q:Int)+1:=⟨(ev.a-1).toNat,aC⟩;have hq:q<d.qn.length:=aC;have zA:q<=100:=aC;have Qd:Cu e.W k (Ha d.r ((q:Int)+1)):=by
        have:=HW.o;unfold pA at this;rw[if_neg zJ,if_pos lU.o,oE] at this;exact this
       have mL:=aD (show eF d.r ev=nH d.r ((q:Int)+1) by unfold eF;rw[if_neg zJ,if_pos lU.o,oE]);have tH:=aD (show pA d.r ev=Ha d.r ((q:Int)+1) by unfold pA;rw[if_neg zJ,if_pos lU.o,oE]);rw[oE];refine CR.cl H (cf_pick H A6.o HP.o.mr HP.o.i Qd hq zA hK) (λK' l' y w' hl qC=>?_);simp only[b7,gC,dV,dU];obtain⟨z1,rfl,z3⟩:=qC;refine nP ?_;refine CR.mv H (.string ⟨(nH d.r ((q:Int)+1)).2.toArray⟩) ?_;refine CR.nil H ?_;refine CW.rt H ?_;obtain⟨v',z4,z5,z6,z7⟩:=z3;refine⟨.inr rfl,rfl,.string ⟨(nH d.r ((q:Int)+1)).2.toArray⟩,rfl,⟨by rw[tH.o];exact z1,by rw[mL.o],v',by rw[mL.o];exact z4,by rw[mL.o];exact z5,T6.o.trans z6,z7⟩⟩
     .
       have qL:(ev.k.toList==[97,110,115,119,101,114])=false:=by
        have hz:¬ev.k.toList=[97,110,115,119,101,114]:=Ym;simpa using hz
       have zhN:=aD Ym;clear Ym;refine CW.sq H (CW.pW H Iy A5 T5 λw6 Q pN A6 T6 HQ=>?_);have Lb:=aD (pN▸Ed.o);go_wp2;refine HQ.o _ _ ?_;clear HQ
       try simp only[qL]
       clear qL;refine CW.cond H (t:=false) rfl Pq ?_;by_cases Zb:ev.k.toList=C8
       .
         have qL:(ev.k.toList==[114,101,116,117,114,110])=true:=by rw[Zb];rfl
         have lU:=aD Zb;clear Zb;refine CW.sq H (CW.pW H Iy A6 T6 λw7 Q rE A7 T7 HQ=>?_);have Hr:=aD (rE▸Lb.o);go_wp2;refine HQ.o _ _ ?_;clear HQ
         try simp only[qL]
         clear qL;refine CW.cond H (t:=true) rfl Pq ?_;refine CW.sq H ?_;refine CW.rg H [0,1,2,3,4] ?_;refine CR.mv H (.pointer (some ⟨hb,0,none⟩)) ?_;refine CR.mg H (.pointer (some ⟨gx,1,none⟩)) ?_;refine CR.mv H (.int .i64 ev.a) ?_ (hx:=λT=>by have hh:(Tt.tp w7 T 0).cell? _=_:=aI Hr.o 1;unfold aO;go_simp)
         obtain⟨P3,Bu⟩:1<=ev.a/\ev.a<=d.r.o.op:=by
          rcases zhd.o with h|h|⟨_,h⟩|h
          .rw[h.1] at lU;exact absurd lU.o aH
          .rw[h.1] at lU;exact absurd lU.o aH
          .exact⟨h.1,h.2.1⟩
          .rw[h.1] at lU;exact absurd lU.o aH
         obtain⟨q,oE⟩:∃q:Nat,ev.a=(q:Int)+1:=⟨(ev.a-1).toNat,aC⟩;have hq:q<d.qn.length:=aC;have zA:q<=100:=aC;have Qd:Cu e.W k (Dg d.r ((q:Int)+1)):=by
          have:=HW.o;unfold pA at this;rw[if_neg zJ,if_neg zJ,if_pos lU.o,oE] at this;exact this
         have mL:=aD (show eF d.r ev=l7 d.r ((q:Int)+1) by unfold eF;rw[if_neg zJ,if_neg zJ,if_pos lU.o,oE]);have tH:=aD (show pA d.r ev=Dg d.r ((q:Int)+1) by unfold pA;rw[if_neg zJ,if_neg zJ,if_pos lU.o,oE]);rw[oE];refine CR.cl H (cf_back H A7.o HP.o.mr HP.o.i (eM HP.o.lo_ T7.o.size) Qd hq zA hK) (λK' l' y w' hl qC=>?_);simp only[b7,gC,dV,dU];obtain⟨z1,rfl,z3⟩:=qC;refine nP ?_;refine CR.mv H (.string ⟨(l7 d.r ((q:Int)+1)).2.toArray⟩) ?_;refine CR.nil H ?_;refine CW.rt H ?_;obtain⟨v',z4,z5,z6,z7⟩:=z3;refine⟨.inr rfl,rfl,.string ⟨(l7 d.r ((q:Int)+1)).2.toArray⟩,rfl,⟨by rw[tH.o];exact z1,by rw[mL.o],v',by rw[mL.o];exact z4,by rw[mL.o];exact z5,T7.o.trans z6,z7⟩⟩
       .
         have qL:(ev.k.toList==[114,101,116,117,114,110])=false:=by
          have hz:¬ev.k.toList=[114,101,116,117,114,110]:=Zb;simpa using hz
         have znC:=aD Zb;clear Zb;refine CW.sq H (CW.pW H Iy A6 T6 λw7 Q rE A7 T7 HQ=>?_);have Hr:=aD (rE▸Lb.o);go_wp2;refine HQ.o _ _ ?_;clear HQ
         try simp only[qL]
         clear qL;refine CW.cond H (t:=false) rfl Pq ?_;refine CW.sk H ?_;dsimp only
         obtain⟨P3,Bu⟩:1<=ev.a/\ev.a<=60:=by
          rcases zhd.o with h|h|⟨h,_⟩|h
          .exact absurd h.1 zmy.o
          .exact absurd h.1 zhR.o
          .rcases h with h|h
           .exact absurd h zhN.o
           .exact absurd h znC.o
          .exact⟨h.2.1,h.2.2.1⟩
         have mL:=aD (show eF d.r ev=tG d.r ev.a by unfold eF;rw[if_neg zmy.o,if_neg zhN.o,if_neg znC.o,if_neg zhR.o]);have tH:=aD (show pA d.r ev=[] by unfold pA;rw[if_neg zmy.o,if_neg zhN.o,if_neg znC.o,if_neg zhR.o]);have zA0:=aD (λW (t:bP hb v w v W)=>HP.o.tab.turn HP.o.at_ HP.o.lo_ t);refine CW.sq H (CW.pW H Iy A7 T7 λw8 Q Ih A8 T8 HQ=>?_);have Jk:=aD (Ih▸Hr.o);have kx:=aI Jk.o 1;have zJd:=aI Jk.o 0
         go_wp2_with (go_at_call 105;refine(zCv A8.o HP.o.mr HP.o.i (eM HP.o.lo_ T8.o.size) (zA0.o _ T8.o) aC (by have:=HP.o.clk;omega) HP.o.nbw).mono ?_;rintro en wz ⟨rfl,z3⟩;have Z3:=aD z3;clear z3)
         refine HQ.o _ _ ?_;clear HQ;refine CW.rt H ?_;obtain⟨v',z4,z5,z6,z7⟩:=Z3.o;refine⟨.inr rfl,rfl,.string ⟨(tG d.r ev.a).2.toArray⟩,rfl,⟨by rw[tH.o];rfl,by rw[mL.o],v',by rw[mL.o];exact z4,by rw[mL.o];exact z5,T8.o.trans z6,z7⟩⟩
section
variable {ops:Array aZ}{ch:List Nat}{V0:Nat->aF}{vs:List aF}{t0 t:Array aF}
variable {s:Tmp}
theorem qF (KO:Le ops){i:Nat}{o:aZ}{v:aF}(ho:ops[i]? =some o)(hd:o.dst=some s)(hz:s<t0.size)(hv:VV ch V0 vs i=v):(dF ops (VV ch V0 vs) t0).getD s aA=v:=by
 have h:=(So (vals:=VV ch V0 vs) (t0:=t0) KO).got i o s ho hd hz (by simp[(eE.1 ho).1]);rw[xE,h,hv];rfl
theorem zgr (KO:Le ops)(hs:Hl ops s=false):(dF ops (VV ch V0 vs) t0).getD s aA=t0.getD s undef:=by
 rw[xE,(So (vals:=VV ch V0 vs) (t0:=t0) KO).old s (λi o h1 _ h2=>by rw[zj8 h1 h2] at hs;cases hs),xE]
theorem Hq {o:aZ}(mE:∀s∈o.looksAt ops,t[s]? =(dF ops (VV ch V0 vs) t0)[s]?)(hs:s∈o.looksAt ops){v:aF}(h:(dF ops (VV ch V0 vs) t0).getD s aA=v):(bJ t []).eval (.tmp s)=v:=by
 have e:(bJ t []).eval (.tmp s)=t.getD s undef:=rfl;rw[e,xE,mE s hs,<-xE];exact h
end
def zki:Go.Code:=(Tryz.f58.body).getD .skip
def rWO3:Go.Code:=match zki with| .seq (.seq _ (.block _ (.loop (.seq _ (.seq _ (.seq (.block _ (.seq _ (a))) _)))))) _=>a|_=>.skip
def rWO8:Go.Code:=match zki with| .seq _ (.seq _ (.block _ (.loop (.seq _ (.seq _ (.seq (.block _ (.seq _ (.seq (a) _))) _))))))=>a|_=>.skip
def rWO9:Go.Code:=match zki with| .seq _ (.seq _ (.block _ (.loop (.seq _ (.seq _ (.seq (.block _ (.seq _ (.seq _ (a)))) _))))))=>a|_=>.skip
def lA:Array Oper:=match rWO3 with| .region _ ops _=>ops|_=>#[]
def rWO3_eq:rWO3=.region 3 lA true:=rfl
abbrev zqJ:Oper:=aV lA 0 (some 14) (.move (.tmp 0))
def zAh:lA[0]? =some zqJ:=rfl
abbrev zri:Oper:=aV lA 1 (some 15) (.move (.tmp 0))
def zAy:lA[1]? =some zri:=rfl
abbrev zsO:Oper:=aV lA 2 (some 16) (.nilCheck (.tmp 15))
def zF8:lA[2]? =some zsO:=rfl
abbrev zrk:Oper:=aV lA 3 (some 17) (.fieldAddr 72 (.tmp 16) 10)
def zEK:lA[3]? =some zrk:=rfl
abbrev zoV:Oper:=aV lA 4 (some 18) (.load 26 (.tmp 17))
def zCT:lA[4]? =some zoV:=rfl
abbrev zvP:Oper:=aV lA 5 (some 19) (.move (.tmp 0))
def zDp:lA[5]? =some zvP:=rfl
abbrev zoP:Oper:=aV lA 6 (some 20) (.load 54 (.tmp 5))
def zF3:lA[6]? =some zoP:=rfl
abbrev zrL:Oper:=aV lA 7 (some 21) (.call ⟨.value (.func 81),#[.tmp 19,.tmp 20],#[63,54]⟩)
def zlH:lA[7]? =some zrL:=rfl
abbrev zi5:Oper:=aV lA 8 (some 22) (.buildSlice 26 1 #[(0,.tmp 21)])
def zgK:lA[8]? =some zi5:=rfl
abbrev zpW:Oper:=aV lA 9 (some 23) (.call ⟨.builtin .append,#[.tmp 18,.tmp 22],#[26,26]⟩)
def zkc:lA[9]? =some zpW:=rfl
abbrev zq3:Oper:=aV lA 10 (some 24) (.nilCheck (.tmp 14))
def zyP:lA[10]? =some zq3:=rfl
abbrev zu2:Oper:=aV lA 11 (some 25) (.fieldAddr 72 (.tmp 24) 10)
def zHF:lA[11]? =some zu2:=rfl
abbrev zmO:Oper:=aV lA 12 none (.store 26 (.tmp 25) (.tmp 23))
def zmk:lA[12]? =some zmO:=rfl
def jT:Array Oper:=match rWO8 with| .region _ ops _=>ops|_=>#[]
def rWO8_eq:rWO8=.region 8 jT true:=rfl
abbrev ztl:Oper:=aV jT 0 (some 37) (.move (.tmp 0))
def zz6:jT[0]? =some ztl:=rfl
abbrev zwb:Oper:=aV jT 1 (some 38) (.move (.tmp 0))
def zD6:jT[1]? =some zwb:=rfl
abbrev zoK:Oper:=aV jT 2 (some 39) (.nilCheck (.tmp 38))
def zzf:jT[2]? =some zoK:=rfl
abbrev zst:Oper:=aV jT 3 (some 40) (.fieldAddr 72 (.tmp 39) 11)
def zDE:jT[3]? =some zst:=rfl
abbrev zuT:Oper:=aV jT 4 (some 41) (.load 38 (.tmp 40))
def zDA:jT[4]? =some zuT:=rfl
abbrev zvG:Oper:=aV jT 5 (some 42) (.move (.tmp 0))
def zF6:jT[5]? =some zvG:=rfl
abbrev zoH:Oper:=aV jT 6 (some 43) (.move (.tmp 6))
def zIf:jT[6]? =some zoH:=rfl
abbrev zj7:Oper:=aV jT 7 (some 44) (.binOp .add 3 (.tmp 43) (.const (.int .i64 1)) 3)
def zHt:jT[7]? =some zj7:=rfl
abbrev zsB:Oper:=aV jT 8 (some 45) (.call ⟨.value (.func 82),#[.tmp 42,.tmp 44,.const (.int .i64 0),.const (.int .i64 0)],#[63,3,3,3]⟩)
def zil:jT[8]? =some zsB:=rfl
abbrev zjV:Oper:=aV jT 9 (some 46) (.buildSlice 38 1 #[(0,.tmp 45)])
def zht:jT[9]? =some zjV:=rfl
abbrev ztA:Oper:=aV jT 10 (some 47) (.call ⟨.builtin .append,#[.tmp 41,.tmp 46],#[38,38]⟩)
def zit:jT[10]? =some ztA:=rfl
abbrev zpp:Oper:=aV jT 11 (some 48) (.nilCheck (.tmp 37))
def zzd:jT[11]? =some zpp:=rfl
abbrev zwA:Oper:=aV jT 12 (some 49) (.fieldAddr 72 (.tmp 48) 11)
def zEF:jT[12]? =some zwA:=rfl
abbrev zii:Oper:=aV jT 13 none (.store 38 (.tmp 49) (.tmp 47))
def zkm:jT[13]? =some zii:=rfl
def zvn:Array Oper:=match rWO9 with| .region _ ops _=>ops|_=>#[]
abbrev oWO9_1:Oper:=aV zvn 1 none (.call ⟨.builtin .close,#[.tmp 50],#[95]⟩)
def zHN:zvn[1]? =some oWO9_1:=rfl
def Ox:vW aK 58:=⟨_,zlB,.inl rfl⟩
def zzT:(aK.info? 9).map (λi=>(i.zero,i.size,i.bytes))=some (some (.string ⟨#[]⟩),1,16):=aT
variable {V:Nat->aF}{Tf:Array aF}
theorem bs3 {s:ByteArray}(hT:xO Tf V)(zI1:V 21=.string s):(aO (bJ Tf []).eval zi5).run aK w=.ok (.value (.slice (some ⟨w.heap.size,0,none⟩) 1 1)) (w.alloc (.cells #[.string s] 9)):=by
 unfold aO;go_simp
variable {sA:aF}{T:lM}
theorem st3 {q1 q2:Nat}(hT:xO Tf V)(zLf:V 25=.pointer (some ⟨hb,12,none⟩))(zJ3:V 23=.slice (some ⟨q1,0,none⟩) n q2)(hh:w.cell? ⟨hb,12,none⟩=some sA)(hf:w.frozen? ⟨hb,12,none⟩=false):(aO (bJ Tf []).eval zmO).run aK (Tt.tp w T 0)=.ok .skip (Tt.tp (w.setCell ⟨hb,12,none⟩ (.slice (some ⟨q1,0,none⟩) n q2)) T 0):=by
 have zdK:(Tt.tp w T 0).cell? ⟨hb,12,none⟩=some sA:=hh;have El:(Tt.tp w T 0).frozen? ⟨hb,12,none⟩=false:=hf;clear hh hf;unfold aO;go_simp
 try rfl
def ztz:Ir lA=true:=aT
def zHC:Nf lA [7,8,9,12]=true:=aT
def zzg:lA.toList.map (·.dst)=[some 14,some 15,some 16,some 17,some 18,some 19,some 20,some 21,some 22,some 23,some 24,some 25,none]:=rfl
def zzo:lA.toList=[zqJ,zri,zsO,zrk,zoV,zvP,zoP,zrL,zi5,zpW,zq3,zu2,zmO]:=rfl
def Hz (hb gb:Nat)(sA:aF)(ev:dX)(i:Nat):Value:=([.pointer (some ⟨hb,0,none⟩),.pointer (some ⟨hb,0,none⟩),.pointer (some ⟨hb,0,none⟩),.pointer (some ⟨hb,12,none⟩),sA,.pointer (some ⟨hb,0,none⟩),.agg #[.string ev.k,.int .i64 ev.a,.int .i64 ev.b],aA,aA,aA,.pointer (some ⟨hb,0,none⟩),.pointer (some ⟨hb,12,none⟩),aA]:List aF).getD i aA
structure W3 where
 es:G2
 lo:Nat
 hb:Nat
 gb:Nat
 k:Nat
 v0:fC
 w0:aE
 v:fC
 d:nV
 ev:dX
 K0:Pr
def W3.P1 (c:W3)(w:aE):Prop:=∃v1,bE w c.lo c.hb v1 {c.d with r:=(eF c.d.r c.ev).1}/\fX v1 {c.d with r:=(eF c.d.r c.ev).1}/\bP c.hb c.v0 c.w0 v1 w/\zV c.v v1/\some c.gb∉parts v1 c.hb
def W3.P2 (c:W3)(w:aE):Prop:=∃v2,bE w c.lo c.hb v2 {c.d with r:=Fi (eF c.d.r c.ev)}/\fX v2 {c.d with r:=Fi (eF c.d.r c.ev)}/\bP c.hb c.v0 c.w0 v2 w/\v2.sL=c.v.sL/\v2.sQ=c.v.sQ
def W3.y (c:W3):Value:=.string ⟨(eF c.d.r c.ev).2.toArray⟩
def W3.Rd (c:W3)(w:aE):Prop:=w.cell? ⟨c.hb,12,none⟩=some c.v.sA/\w.heap[c.gb]? =some (.cells #[.string c.ev.k,.int .i64 c.ev.a,.int .i64 c.ev.b] 54)
def W3.n1 (c:W3):Nat:=c.k+(pA c.d.r c.ev).length
def W3.St (c:W3)(vs:List aF)(l':gI)(w':aE):Prop:=match vs with
 |[]=>l'=.wk c.es.qs c.k/\EvPre c.lo c.hb c.v c.d w'/\bP c.hb c.v0 c.w0 c.v w'/\some c.gb∉parts c.v c.hb
 |[a]=>l'=.wk c.es.qs c.n1/\a=c.y/\c.P1 w'/\c.lo<=w'.heap.size
 |[a,b]=>l'=.wk c.es.qs c.n1/\(∃g,b=.slice (some ⟨g,0,none⟩) 1 1/\w'.heap[g]? =some (.cells #[c.y] 9))/\c.P1 w'/\c.lo<=w'.heap.size
 |[a,b,x]=>l'=.wk c.es.qs c.n1/\(∃q1 q2,x=.slice (some ⟨q1,0,none⟩) (c.d.r.log.length+1) q2)/\w'.frozen? ⟨c.hb,12,none⟩=false/\c.P2 (w'.setCell ⟨c.hb,12,none⟩ x)
 |_=>l'=.wk c.es.qs c.n1/\c.P2 w'
def SR3 (c:W3)(vs:List aF)(K':Pr)(l':gI)(w':aE):Prop:=c.K0.le K'/\(vs.length<4->c.Rd w')/\c.St vs l' w'
def EvPre.tp (h:EvPre lo hb v d w)(T:lM)(n:Nat):EvPre lo hb v d (Tt.tp w T n):=⟨h.at_.tp T n,h.mr,h.i,h.lo_,h.tab.keep λ_ _=>rfl,h.clk,h.nbw⟩
variable {c:W3}
theorem W3.P1.tp (h:c.P1 w)(T:lM)(n:Nat):c.P1 (Tt.tp w T n):=by
 obtain⟨v1,a,b,d,e⟩:=h;exact⟨v1,a.tp T n,b,d.tp T n,e⟩
theorem W3.P2.tp (h:c.P2 w)(T:lM)(n:Nat):c.P2 (Tt.tp w T n):=by
 obtain⟨v1,a,b,d,e⟩:=h;exact⟨v1,a.tp T n,b,d.tp T n,e⟩
theorem SR3.tp (vs:List aF)(K':Pr)(l':gI)(w':aE)(T:lM)(n:Nat)(h:SR3 c vs K' l' w'):SR3 c vs K' l' (Tt.tp w' T n):=by
 obtain⟨h1,h2,h3⟩:=h;refine⟨h1,h2,?_⟩;rcases vs with _|⟨a,_|⟨b,_|⟨x,_|⟨y,vs⟩⟩⟩⟩
 .exact⟨h3.1,h3.2.1.tp T n,h3.2.2.1.tp T n,h3.2.2.2⟩
 .exact⟨h3.1,h3.2.1,h3.2.2.1.tp T n,h3.2.2.2⟩
 .exact⟨h3.1,h3.2.1,h3.2.2.1.tp T n,h3.2.2.2⟩
 .exact⟨h3.1,h3.2.1,h3.2.2.1,W3.P2.tp (w:=w'.setCell _ _) h3.2.2.2 T n⟩
 .exact⟨h3.1,W3.P2.tp h3.2 T n⟩
variable {B:List Nat}{Φ:n6->WS->Prop}
theorem cw_R3 (H:c.es.d.Ok)(nG:qX c.d.r.o.op c.ev=true)(hW:Cu c.es.W c.k (pA c.d.r c.ev))(hK:∀(i g:Nat),c.d.qn[i]? =some g->c.K0 g (qa c.es.qs i))(zjJ:(eF c.d.r c.ev).1.log.length<=1000)(zrg:(eF c.d.r c.ev).1.log=c.d.r.log)(hz:t0.size=52)(uH:t0.getD 0 aA=.pointer (some ⟨c.hb,0,none⟩))(zzF:t0.getD 5 aA=.pointer (some ⟨c.gb,0,none⟩))
 (hk:∀vs K' l' w',vs.length=4->SR3 c vs K' l' w'->Φ .normal ⟨[],K',l',dF lA (VV [7,8,9,12] (Hz c.hb c.gb c.v.sA c.ev) vs) t0,w'⟩) (h0:SR3 c [] K l w):CW c.es.d B 58 rWO3 ⟨[],K,l,t0,w⟩ Φ:=by
 rw[rWO3_eq];have KO:=Qw ztz;refine CW.drawn H vN.mixed [7,8,9,12] (Hz c.hb c.gb c.v.sA c.ev) (SR3 c) ztz zHC Mb (λvs K l w T e h=>SR3.tp vs K l w T e h) (λi o ho hi=>?_) (λvs ci o K' l' w' hc ho hS t rest mE gD=>?_) hk h0
 .have hl:lA.toList[i]? =some o:=by rw[Cf];exact ho
  rw[zzo] at hl;have aU:i<13:=by have:=(lR.1 hl).1;simpa using this
  have tn:∀(vs:List aF) {j:Nat} {oj:aZ} {s:Tmp} {v:aF},lA[j]? =some oj->oj.dst=some s->s<t0.size->VV [7,8,9,12] (Hz c.hb c.gb c.v.sA c.ev) vs j=v->(dF lA (VV [7,8,9,12] (Hz c.hb c.gb c.v.sA c.ev) vs) t0).getD s aA=v:=λvs _ _ _ _ a b c d=>qF KO a b c d;have tq:∀(vs:List aF) {s:Tmp},Hl lA s=false->(dF lA (VV [7,8,9,12] (Hz c.hb c.gb c.v.sA c.ev) vs) t0).getD s aA=t0.getD s undef:=λvs _ a=>zgr KO a;rcases i with _|_|_|_|_|_|_|_|_|_|_|_|_|i
  .obtain rfl:=cJ hl
   exact⟨aT,λvs K' l' w' hv hS=>⟨dW rfl,uN (.pointer (some ⟨c.hb,0,none⟩)) ((tq vs aT).trans uH)⟩⟩
  .obtain rfl:=cJ hl
   exact⟨aT,λvs K' l' w' hv hS=>⟨dW rfl,uN (.pointer (some ⟨c.hb,0,none⟩)) ((tq vs aT).trans uH)⟩⟩
  .obtain rfl:=cJ hl
   exact⟨aT,λvs K' l' w' hv hS=>⟨dW rfl,uN (.pointer (some ⟨c.hb,0,none⟩)) (tn vs zAy rfl kG rfl)⟩⟩
  .obtain rfl:=cJ hl
   exact⟨aT,λvs K' l' w' hv hS=>⟨dW rfl,uN (.pointer (some ⟨c.hb,12,none⟩)) (tn vs zF8 rfl kG rfl)⟩⟩
  .obtain rfl:=cJ hl
   exact⟨aT,λvs K' l' w' hv hS=>⟨dW rfl,rd2 (c.v.sA) (tn vs zEK rfl kG rfl) (hS.2.1 hv).1⟩⟩
  .obtain rfl:=cJ hl
   exact⟨aT,λvs K' l' w' hv hS=>⟨dW rfl,uN (.pointer (some ⟨c.hb,0,none⟩)) ((tq vs aT).trans uH)⟩⟩
  .obtain rfl:=cJ hl
   exact⟨aT,λvs K' l' w' hv hS=>⟨dW rfl,rd4 (.agg #[.string c.ev.k,.int .i64 c.ev.a,.int .i64 c.ev.b]) ((tq vs aT).trans zzF) (aI (hS.2.1 hv).2 0) (aI (hS.2.1 hv).2 1) (aI (hS.2.1 hv).2 2)⟩⟩
  .exact absurd aH hi
  .exact absurd aH hi
  .exact absurd aH hi
  .obtain rfl:=cJ hl
   exact⟨aT,λvs K' l' w' hv hS=>⟨dW rfl,uN (.pointer (some ⟨c.hb,0,none⟩)) (tn vs zAh rfl kG rfl)⟩⟩
  .obtain rfl:=cJ hl
   exact⟨aT,λvs K' l' w' hv hS=>⟨dW rfl,uN (.pointer (some ⟨c.hb,12,none⟩)) (tn vs zyP rfl kG rfl)⟩⟩
  .exact absurd aH hi
  .omega
 .rcases vs with _|⟨a,_|⟨b,_|⟨c',_|⟨d',vs⟩⟩⟩⟩
  .obtain rfl:7=ci:=by simpa using hc
   rw[zlH] at ho;obtain rfl:=cJ ho;obtain⟨s1,s2,s3,s4,s5,s6⟩:=hS;have zGy:=Hq mE (s:=19) aH (qF KO zDp rfl kG rfl);have a20:=Hq mE (s:=20) aH (qF KO zF3 rfl kG rfl);refine CR.call' H #[.pointer (some ⟨c.hb,0,none⟩),.agg #[.string c.ev.k,.int .i64 c.ev.a,.int .i64 c.ev.b]] zlH (dW rfl) rfl (allx rfl) rfl (by simp only[uR,jG,tK];rw[zGy,a20];rfl) (s3▸zyU H s4 nG hW (λi g hg=>s1 _ _ (hK i g hg))) (λK2 l2 y w2 hl qC=>?_);obtain⟨z1,z2,v1,z3,z4,z5,z6⟩:=qC;have eR:=s4.at_.turned z5 (s2 aQ).2 s6;refine gD y K2 l2 w2 hl ⟨vU s1 hl,λ_=>⟨?_,eR.1⟩,z1,z2,⟨v1,z3,z4,s5.trans z5,z6,eR.2⟩,eM s4.lo_ z5.size⟩;have:=aI z3.blk 12;rw[this,<-z6.2.2.1];rfl
  .obtain rfl:8=ci:=by simpa using hc
   rw[zgK] at ho;obtain rfl:=cJ ho;obtain⟨s1,s2,s3,rfl,⟨v1,z3,z4,z5,z6,z7⟩,s6⟩:=hS;have zz3:(dF lA (VV [7,8,9,12] (Hz c.hb c.gb c.v.sA c.ev) [c.y]) t0).getD 21 aA=c.y:=qF KO zlH rfl kG rfl;refine CR.op H zgK (dW rfl) aT (λT=>⟨.slice (some ⟨w'.heap.size,0,none⟩) 1 1,(Tt.tp w' T 0).alloc (.cells #[c.y] 9),.inl ?_,?_⟩)
   .rw[F0 (KO.sel 8 _ zgK) mE]
    have hT:xO (dF lA (VV [7,8,9,12] (Hz c.hb c.gb c.v.sA c.ev) [c.y]) t0) (λs=>(dF lA (VV [7,8,9,12] (Hz c.hb c.gb c.v.sA c.ev) [c.y]) t0).getD s aA):=λs=>rfl;exact bs3 (s:=⟨(eF c.d.r c.ev).2.toArray⟩) hT zz3
   .have al:bP c.hb v1 w' v1 ((Tt.tp w' T 0).alloc (.cells #[c.y] 9)):=(bP.refl.tp T 0).trans (bP.below (eD (fN _ _) _))
    exact gD _ _ _ _ (xU _) ⟨s1,λ_=>⟨Aw (s2 aQ).1 _,dD (s2 aQ).2 _⟩,s3,⟨_,rfl,gU _ _⟩,⟨v1,(z3.tp T 0).alloc _,z4,z5.trans al,z6,z7⟩,eM s6 zgs⟩
  .obtain rfl:9=ci:=by simpa using hc
   rw[zkc] at ho;obtain rfl:=cJ ho;obtain⟨s1,s2,s3,⟨g,rfl,hg⟩,⟨v1,z3,z4,z5,z6,z7⟩,s6⟩:=hS;have zHD:=Hq mE (s:=18) aH (qF KO zCT rfl kG rfl);have zGs:=Hq mE (s:=22) aH (qF KO zgK rfl kG rfl);refine CR.op H zkc (dW rfl) aT (λT=>?_);have a1:=z3.tp T 0;have oN:=a1.A;rw[z6.2.2.1] at oN;obtain⟨q1,q2,w5,fF,cZ,mQ,eU⟩:=M3 (w:=Tt.tp w' T 0) (t:=26) (ty:=26) zzT Tryz.underlying26 rfl aH oN (g:=g) (cs:=#[c.y]) (news:=[c.y]) hg rfl (m:=1) rfl aH Mk (show(eF c.d.r c.ev).1.log.length+1<=1000000 by omega) aH s6;have Jy:({c.d with r:=(eF c.d.r c.ev).1}:nV).r.log.length=c.d.r.log.length:=by show(eF c.d.r c.ev).1.log.length=_;rw[zrg]
   rw[Jy] at fF cZ eU;have ziF:(Tt.tp w' T 0).grownBy w5 v1.sA.ownBlock:=by rw[z6.2.2.1];exact mQ
   obtain⟨a6,t6⟩:=a1.putA ziF (xs:=(eF c.d.r c.ev).1.log++[(eF c.d.r c.ev).2]) (by have e:Gg ((eF c.d.r c.ev).1.log++[(eF c.d.r c.ev).2])=Gg (eF c.d.r c.ev).1.log++[c.y]:=(by simp[Gg,txt,W3.y]);rw[e];exact cZ) (by rw[jP,zrg];rfl) (by rw[z6.2.2.1];exact eU);have zbi:=a1.other (j:=9) (c:=12) (x:=v1.sA) rfl aH ziF (.slice (some ⟨q1,0,none⟩) (c.d.r.log.length+1) q2);have yN:=zbi.2.trans a1.blk;have eR:w5.heap[c.gb]? =some _:=(ziF.block c.gb (iB (s2 aQ).2) (λe=>z7 (dZ (i:=9) (show(parts v1 c.hb)[9]? =some (some c.gb) by rw[e];rfl)))).trans (s2 aQ).2;refine⟨_,w5,.inl (Y8 rfl zHD zGs fF),gD _ _ _ _ (xU _) ⟨s1,λ_=>⟨?_,eR⟩,s3,⟨q1,q2,rfl⟩,eO yN 12,_,a6,?_,z5.trans ((bP.refl.tp T 0).trans t6),?_,?_⟩⟩
   .have:=aI yN 12
    rw[this,<-z6.2.2.1];rfl
   .refine fX.of z4 ?_ ?_ ?_ ?_ ?_<;>rfl
   .exact z6.1
   .exact z6.2.1
  .obtain rfl:12=ci:=by simpa using hc
   rw[zmk] at ho;obtain rfl:=cJ ho;obtain⟨s1,s2,s3,⟨q1,q2,rfl⟩,nQ,yY⟩:=hS;have zH0:(dF lA (VV [7,8,9,12] (Hz c.hb c.gb c.v.sA c.ev) [a,b,.slice (some ⟨q1,0,none⟩) (c.d.r.log.length+1) q2]) t0).getD 23 aA=.slice (some ⟨q1,0,none⟩) (c.d.r.log.length+1) q2:=qF KO zkc rfl kG rfl;have zyf:(dF lA (VV [7,8,9,12] (Hz c.hb c.gb c.v.sA c.ev) [a,b,.slice (some ⟨q1,0,none⟩) (c.d.r.log.length+1) q2]) t0).getD 25 aA=.pointer (some ⟨c.hb,12,none⟩):=qF KO zHF rfl kG rfl;refine CR.op H zmk (dW rfl) aT (λT=>⟨aA,Tt.tp (w'.setCell ⟨c.hb,12,none⟩ (.slice (some ⟨q1,0,none⟩) (c.d.r.log.length+1) q2)) T 0,.inr ⟨?_,rfl⟩,?_⟩)
   .rw[F0 (KO.sel 12 _ zmk) mE]
    have hT:xO (dF lA (VV [7,8,9,12] (Hz c.hb c.gb c.v.sA c.ev) [a,b,.slice (some ⟨q1,0,none⟩) (c.d.r.log.length+1) q2]) t0) (λs=>(dF lA (VV [7,8,9,12] (Hz c.hb c.gb c.v.sA c.ev) [a,b,.slice (some ⟨q1,0,none⟩) (c.d.r.log.length+1) q2]) t0).getD s aA):=λs=>rfl;exact st3 hT zyf zH0 (s2 aQ).1 nQ
   .exact gD aA _ _ _ (xU _) ⟨s1,λh=>absurd h aQ,s3,W3.P2.tp yY T 0⟩
  .simp at hc
theorem bs8 {s:Int}(hT:xO Tf V)(zi3:V 45=.int .i64 s):(aO (bJ Tf []).eval zjV).run aK w=.ok (.value (.slice (some ⟨w.heap.size,0,none⟩) 1 1)) (w.alloc (.cells #[.int .i64 s] 3)):=by
 unfold aO;go_simp
theorem st8 {q1 q2:Nat}(hT:xO Tf V)(Yd:V 49=.pointer (some ⟨hb,13,none⟩))(zcA:V 47=.slice (some ⟨q1,0,none⟩) n q2)(hh:w.cell? ⟨hb,13,none⟩=some sA)(hf:w.frozen? ⟨hb,13,none⟩=false):(aO (bJ Tf []).eval zii).run aK (Tt.tp w T 0)=.ok .skip (Tt.tp (w.setCell ⟨hb,13,none⟩ (.slice (some ⟨q1,0,none⟩) n q2)) T 0):=by
 have zdK:(Tt.tp w T 0).cell? ⟨hb,13,none⟩=some sA:=hh;have El:(Tt.tp w T 0).frozen? ⟨hb,13,none⟩=false:=hf;clear hh hf;unfold aO;go_simp
 try rfl
def zwu:Ir jT=true:=aT
def zC4:Nf jT [8,9,10,13]=true:=aT
def zDH:jT.toList.map (·.dst)=[some 37,some 38,some 39,some 40,some 41,some 42,some 43,some 44,some 45,some 46,some 47,some 48,some 49,none]:=rfl
def zAp:jT.toList=[ztl,zwb,zoK,zst,zuT,zvG,zoH,zj7,zsB,zjV,ztA,zpp,zwA,zii]:=rfl
def Gb (hb q:Nat)(sT:aF)(i:Nat):Value:=([.pointer (some ⟨hb,0,none⟩),.pointer (some ⟨hb,0,none⟩),.pointer (some ⟨hb,0,none⟩),.pointer (some ⟨hb,13,none⟩),sT,.pointer (some ⟨hb,0,none⟩),.int .i64 (q:Int),.int .i64 ((q:Int)+1),aA,aA,aA,.pointer (some ⟨hb,0,none⟩),.pointer (some ⟨hb,13,none⟩),aA]:List aF).getD i aA
theorem rdR8_7 {q:Nat}{sT:aF}(hT:xO Tf V)(zlw:V 43=.int .i64 (q:Int))(zJh:q<=100):(aO (bJ Tf []).eval zj7).run aK w=.ok (.value (.int .i64 ((q:Int)+1))) w:=by
 unfold aO;go_simp;exact Ge aC aC
structure W8 where
 es:G2
 lo:Nat
 hb:Nat
 q:Nat
 k:Nat
 anz:Int
 v0:fC
 w0:aE
 v:fC
 d:nV
 K0:Pr
def W8.P1 (c:W8)(w:aE):Prop:=bE w c.lo c.hb c.v c.d/\bP c.hb c.v0 c.w0 c.v w/\c.lo<=w.heap.size
def W8.P2 (c:W8)(w:aE):Prop:=∃v2,bE w c.lo c.hb v2 {c.d with tk:=c.d.tk++[c.anz]}/\fX v2 {c.d with tk:=c.d.tk++[c.anz]}/\bP c.hb c.v0 c.w0 v2 w/\v2.sL=c.v.sL/\v2.sQ=c.v.sQ
def W8.y (c:W8):Value:=.int .i64 c.anz
def W8.Rd (c:W8)(w:aE):Prop:=w.cell? ⟨c.hb,13,none⟩=some c.v.sT
def W8.St (c:W8)(vs:List aF)(l':gI)(w':aE):Prop:=match vs with
 |[]=>l'=.wk c.es.qs c.k/\c.P1 w'
 |[a]=>l'=.wk c.es.qs (c.k+1)/\a=c.y/\c.P1 w'
 |[a,b]=>l'=.wk c.es.qs (c.k+1)/\(∃g,b=.slice (some ⟨g,0,none⟩) 1 1/\w'.heap[g]? =some (.cells #[c.y] 3))/\c.P1 w'
 |[a,b,x]=>l'=.wk c.es.qs (c.k+1)/\(∃q1 q2,x=.slice (some ⟨q1,0,none⟩) (c.d.tk.length+1) q2)/\w'.frozen? ⟨c.hb,13,none⟩=false/\c.P2 (w'.setCell ⟨c.hb,13,none⟩ x)
 |_=>l'=.wk c.es.qs (c.k+1)/\c.P2 w'
def SR8 (c:W8)(vs:List aF)(K':Pr)(l':gI)(w':aE):Prop:=c.K0.le K'/\(vs.length<4->c.Rd w')/\c.St vs l' w'
variable {c:W8}
def W8.P1.tp (h:c.P1 w)(T:lM)(n:Nat):c.P1 (Tt.tp w T n):=⟨h.1.tp T n,h.2.1.tp T n,h.2.2⟩
theorem W8.P2.tp (h:c.P2 w)(T:lM)(n:Nat):c.P2 (Tt.tp w T n):=by
 obtain⟨v1,a,b,d,e⟩:=h;exact⟨v1,a.tp T n,b,d.tp T n,e⟩
theorem SR8.tp (vs:List aF)(K':Pr)(l':gI)(w':aE)(T:lM)(n:Nat)(h:SR8 c vs K' l' w'):SR8 c vs K' l' (Tt.tp w' T n):=by
 obtain⟨h1,h2,h3⟩:=h;refine⟨h1,h2,?_⟩;rcases vs with _|⟨a,_|⟨b,_|⟨x,_|⟨y,vs⟩⟩⟩⟩
 .exact⟨h3.1,W8.P1.tp h3.2 T n⟩
 .exact⟨h3.1,h3.2.1,W8.P1.tp h3.2.2 T n⟩
 .exact⟨h3.1,h3.2.1,W8.P1.tp h3.2.2 T n⟩
 .exact⟨h3.1,h3.2.1,h3.2.2.1,W8.P2.tp (w:=w'.setCell _ _) h3.2.2.2 T n⟩
 .exact⟨h3.1,W8.P2.tp h3.2 T n⟩
theorem cw_R8 (H:c.es.d.Ok)(zBJ:fX c.v c.d)(hW:c.es.W[c.k]? =some (.ask c.q 0 0 c.anz))(hq:c.q<c.d.qn.length)(zA:c.q<=100)(hK:∀(i g:Nat),c.d.qn[i]? =some g->c.K0 g (qa c.es.qs i))(zjJ:c.d.tk.length<=1000)(hz:t0.size=52)(uH:t0.getD 0 aA=.pointer (some ⟨c.hb,0,none⟩))(zan:t0.getD 6 aA=.int .i64 (c.q:Int))
 (hk:∀vs K' l' w',vs.length=4->SR8 c vs K' l' w'->Φ .normal ⟨[],K',l',dF jT (VV [8,9,10,13] (Gb c.hb c.q c.v.sT) vs) t0,w'⟩) (h0:SR8 c [] K l w):CW c.es.d B 58 rWO8 ⟨[],K,l,t0,w⟩ Φ:=by
 rw[rWO8_eq];have KO:=Qw zwu;refine CW.drawn H vN.mixed [8,9,10,13] (Gb c.hb c.q c.v.sT) (SR8 c) zwu zC4 Mb (λvs K l w T e h=>SR8.tp vs K l w T e h) (λi o ho hi=>?_) (λvs ci o K' l' w' hc ho hS t rest mE gD=>?_) hk h0
 .have hl:jT.toList[i]? =some o:=by rw[Cf];exact ho
  rw[zAp] at hl;have aU:i<14:=by have:=(lR.1 hl).1;simpa using this
  have tn:∀(vs:List aF) {j:Nat} {oj:aZ} {s:Tmp} {v:aF},jT[j]? =some oj->oj.dst=some s->s<t0.size->VV [8,9,10,13] (Gb c.hb c.q c.v.sT) vs j=v->(dF jT (VV [8,9,10,13] (Gb c.hb c.q c.v.sT) vs) t0).getD s aA=v:=λvs _ _ _ _ a b c d=>qF KO a b c d;have tq:∀(vs:List aF) {s:Tmp},Hl jT s=false->(dF jT (VV [8,9,10,13] (Gb c.hb c.q c.v.sT) vs) t0).getD s aA=t0.getD s undef:=λvs _ a=>zgr KO a;rcases i with _|_|_|_|_|_|_|_|_|_|_|_|_|_|i
  .obtain rfl:=cJ hl
   exact⟨aT,λvs K' l' w' hv hS=>⟨dW rfl,uN (.pointer (some ⟨c.hb,0,none⟩)) ((tq vs aT).trans uH)⟩⟩
  .obtain rfl:=cJ hl
   exact⟨aT,λvs K' l' w' hv hS=>⟨dW rfl,uN (.pointer (some ⟨c.hb,0,none⟩)) ((tq vs aT).trans uH)⟩⟩
  .obtain rfl:=cJ hl
   exact⟨aT,λvs K' l' w' hv hS=>⟨dW rfl,uN (.pointer (some ⟨c.hb,0,none⟩)) (tn vs zD6 rfl kG rfl)⟩⟩
  .obtain rfl:=cJ hl
   exact⟨aT,λvs K' l' w' hv hS=>⟨dW rfl,uN (.pointer (some ⟨c.hb,13,none⟩)) (tn vs zzf rfl kG rfl)⟩⟩
  .obtain rfl:=cJ hl
   exact⟨aT,λvs K' l' w' hv hS=>⟨dW rfl,rd2 (c.v.sT) (tn vs zDE rfl kG rfl) (show w'.cell? ⟨c.hb,13,none⟩=some c.v.sT from(hS.2.1 hv))⟩⟩
  .obtain rfl:=cJ hl
   exact⟨aT,λvs K' l' w' hv hS=>⟨dW rfl,uN (.pointer (some ⟨c.hb,0,none⟩)) ((tq vs aT).trans uH)⟩⟩
  .obtain rfl:=cJ hl
   exact⟨aT,λvs K' l' w' hv hS=>⟨dW rfl,uN (.int .i64 (c.q:Int)) ((tq vs aT).trans zan)⟩⟩
  .obtain rfl:=cJ hl
   exact⟨aT,λvs K' l' w' hv hS=>⟨dW rfl,rdR8_7 (q:=c.q) (sT:=c.v.sT) (V:=λs=>(dF jT (VV [8,9,10,13] (Gb c.hb c.q c.v.sT) vs) t0).getD s aA) (λs=>rfl) (tn vs zIf rfl kG rfl) zA⟩⟩
  .exact absurd aH hi
  .exact absurd aH hi
  .exact absurd aH hi
  .obtain rfl:=cJ hl
   exact⟨aT,λvs K' l' w' hv hS=>⟨dW rfl,uN (.pointer (some ⟨c.hb,0,none⟩)) (tn vs zz6 rfl kG rfl)⟩⟩
  .obtain rfl:=cJ hl
   exact⟨aT,λvs K' l' w' hv hS=>⟨dW rfl,uN (.pointer (some ⟨c.hb,13,none⟩)) (tn vs zzd rfl kG rfl)⟩⟩
  .exact absurd aH hi
  .omega
 .rcases vs with _|⟨a,_|⟨b,_|⟨c',_|⟨d',vs⟩⟩⟩⟩
  .obtain rfl:8=ci:=by simpa using hc
   rw[zil] at ho;obtain rfl:=cJ ho;obtain⟨s1,s2,s3,s4⟩:=hS;have zGC:=Hq mE (s:=42) aH (qF KO zF6 rfl kG rfl);have zCm:=Hq mE (s:=44) aH (qF KO zHt rfl kG rfl);refine CR.call' H #[.pointer (some ⟨c.hb,0,none⟩),.int .i64 ((c.q:Int)+1),.int .i64 0,.int .i64 0] zil (dW rfl) rfl (allx rfl) rfl (by simp only[uR,jG,tK];rw[zGC,zCm];rfl) (s3▸zck H s4.1 hW hq zA (λi g hg=>s1 _ _ (hK i g hg))) (λK2 l2 y w2 hl qC=>?_);obtain⟨z1,rfl,z3⟩:=qC;subst z3;exact gD _ K2 l2 _ hl ⟨vU s1 hl,λ_=>Aw (s2 aQ) _,z1,rfl,s4.1.alloc _,s4.2.1.trans (bP.below (eD (fN _ _) _)),eM s4.2.2 (by show w'.heap.size<=(w'.alloc o6).heap.size;rw[rC];exact zeC _)⟩
  .obtain rfl:9=ci:=by simpa using hc
   rw[zht] at ho;obtain rfl:=cJ ho;obtain⟨s1,s2,s3,rfl,z3,z5,s6⟩:=hS;have zC9:(dF jT (VV [8,9,10,13] (Gb c.hb c.q c.v.sT) [c.y]) t0).getD 45 aA=c.y:=qF KO zil rfl kG rfl;refine CR.op H zht (dW rfl) aT (λT=>⟨.slice (some ⟨w'.heap.size,0,none⟩) 1 1,(Tt.tp w' T 0).alloc (.cells #[c.y] 3),.inl ?_,?_⟩)
   .rw[F0 (KO.sel 9 _ zht) mE]
    have hT:xO (dF jT (VV [8,9,10,13] (Gb c.hb c.q c.v.sT) [c.y]) t0) (λs=>(dF jT (VV [8,9,10,13] (Gb c.hb c.q c.v.sT) [c.y]) t0).getD s aA):=λs=>rfl;exact bs8 hT zC9
   .have al:bP c.hb c.v w' c.v ((Tt.tp w' T 0).alloc (.cells #[c.y] 3)):=(bP.refl.tp T 0).trans (bP.below (eD (fN _ _) _))
    exact gD _ _ _ _ (xU _) ⟨s1,λ_=>Aw (s2 aQ) _,s3,⟨_,rfl,gU _ _⟩,(z3.tp T 0).alloc _,z5.trans al,eM s6 zgs⟩
  .obtain rfl:10=ci:=by simpa using hc
   rw[zit] at ho;obtain rfl:=cJ ho;obtain⟨s1,s2,s3,⟨g,rfl,hg⟩,z3,z5,s6⟩:=hS;have zDh:=Hq mE (s:=41) aH (qF KO zDA rfl kG rfl);have a46:=Hq mE (s:=46) aH (qF KO zht rfl kG rfl);refine CR.op H zit (dW rfl) aT (λT=>?_);have a1:=z3.tp T 0;obtain⟨q1,q2,w5,fF,cZ,mQ,eU⟩:=M3 (w:=Tt.tp w' T 0) (t:=38) (ty:=38) zcX Vs rfl aH a1.T (g:=g) (cs:=#[c.y]) (news:=[c.y]) hg rfl (m:=1) rfl aH Mk aC aH s6;obtain⟨a6,t6⟩:=a1.putT mQ (xs:=c.d.tk++[c.anz]) (by have e:jQ (c.d.tk++[c.anz])=jQ c.d.tk++[c.y]:=(by simp[jQ,W8.y]);rw[e];exact cZ) aQ eU;have yN:=(a1.other (j:=10) (c:=13) (x:=c.v.sT) rfl aH mQ (.slice (some ⟨q1,0,none⟩) (c.d.tk.length+1) q2)).2.trans a1.blk;refine⟨_,w5,.inl (Y8 rfl zDh a46 fF),gD _ _ _ _ (xU _) ⟨s1,λ_=>aI yN 13,s3,⟨q1,q2,rfl⟩,eO yN 13,_,a6,?_,z5.trans ((bP.refl.tp T 0).trans t6),rfl,rfl⟩⟩;refine fX.of zBJ ?_ ?_ ?_ ?_ ?_<;>rfl
  .obtain rfl:13=ci:=by simpa using hc
   rw[zkm] at ho;obtain rfl:=cJ ho;obtain⟨s1,s2,s3,⟨q1,q2,rfl⟩,nQ,yY⟩:=hS;have zHf:(dF jT (VV [8,9,10,13] (Gb c.hb c.q c.v.sT) [a,b,.slice (some ⟨q1,0,none⟩) (c.d.tk.length+1) q2]) t0).getD 47 aA=.slice (some ⟨q1,0,none⟩) (c.d.tk.length+1) q2:=qF KO zit rfl kG rfl;have zFp:(dF jT (VV [8,9,10,13] (Gb c.hb c.q c.v.sT) [a,b,.slice (some ⟨q1,0,none⟩) (c.d.tk.length+1) q2]) t0).getD 49 aA=.pointer (some ⟨c.hb,13,none⟩):=qF KO zEF rfl kG rfl;refine CR.op H zkm (dW rfl) aT (λT=>⟨aA,Tt.tp (w'.setCell ⟨c.hb,13,none⟩ (.slice (some ⟨q1,0,none⟩) (c.d.tk.length+1) q2)) T 0,.inr ⟨?_,rfl⟩,?_⟩)
   .rw[F0 (KO.sel 13 _ zkm) mE]
    have hT:xO (dF jT (VV [8,9,10,13] (Gb c.hb c.q c.v.sT) [a,b,.slice (some ⟨q1,0,none⟩) (c.d.tk.length+1) q2]) t0) (λs=>(dF jT (VV [8,9,10,13] (Gb c.hb c.q c.v.sT) [a,b,.slice (some ⟨q1,0,none⟩) (c.d.tk.length+1) q2]) t0).getD s aA):=λs=>rfl;exact st8 hT zFp zHf (s2 aQ) nQ
   .exact gD aA _ _ _ (xU _) ⟨s1,λh=>absurd h aQ,s3,W8.P2.tp yY T 0⟩
  .simp at hc
def H3 (b:bY):Prop:=∀x∈b.recs,1<=x.l/\x.l<=b.o.ln
theorem H3.mod (h:H3 b)(hf:∀x,(f x).l=x.l):∀x∈b.recs.modify i f,1<=x.l/\x.l<=b.o.ln:=λx hx=>by
 obtain⟨y,hy,rfl|rfl⟩:=Q7 hx
 .exact h _ hy
 .rw[hf];exact h _ hy
theorem H3.tires:∀(xs:List bF) (b:bY) (t:List UInt8),H3 b->H3 (xs.foldl lW (b,t)).1
 |[],b,t,h=>h
 |x::xs,b,t,h=>by
  rw[List.foldl_cons];obtain⟨e1,_,_,_,_,_,e7⟩:=zm9 b t x;have h1:H3 (lW (b,t) x).1:=λz hz=>by
   obtain⟨y,hy,_,e⟩:=e7 z hz;rw[e,e1];exact h y hy
  obtain⟨b',t',e⟩:∃b' t',lW (b,t) x=(b',t'):=⟨_,_,rfl⟩;rw[e] at h1⊢;exact H3.tires xs b' t' h1
theorem H3.step (h:H3 b)(e:dX):H3 (eF b e).1:=by
 have more:∀{l:Int} {ls:List Int} {c o f hh tt:Int} {s:ByteArray},oM b.o b.recs=l::ls->∀x∈b.recs++[(⟨c,l,o,f,hh,tt,s⟩:bO)],1<=x.l/\x.l<=b.o.ln:=λhf x hx=>by
  rcases C3.1 hx with hx|hx
  .exact h x hx
  .obtain rfl:=yT.1 hx
   exact Xz Kb
 unfold eF;split
 .unfold oY
  split
  .exact h
  .split
   .exact h
   .rename_i hf;exact more hf
 .split
  .unfold nH
   split
   .exact h
   .split
    .exact h
    .split
     .exact h
     .exact h.mod λx=>rfl
  .split
   .unfold l7
    split
    .exact h
    .split
     .exact h
     .split
      .exact h
      .rename_i hf;exact more hf
   .split
    .unfold mG
     split
     .split
      .exact h.mod λx=>rfl
      .exact h.mod λx=>rfl
     .split
      .exact h
      .exact h
    .exact H3.tires _ _ _ h
variable {o:gG}{es:List dX}
theorem zp0 :∀k,k<=es.length->H3 (l5 o es k)
 |0,_=>λx hx=>by cases hx
 |k+1,hk=>by
  rw[Ut (oX aC)];exact(zp0 k aC).step _
variable {ln qn:List Nat}
theorem zxU (h:fJ o es=true)(hk:k<=es.length){tk:List Int}(h1:ln.Nodup)(h2:(ln.length:Int)=o.ln)(h3:(qn.length:Int)=o.op):y3 ⟨l5 o es k,ln,qn,tk⟩:=by
 obtain⟨a1,a2,a3⟩:=K3 h k hk;have hop:o.op=(o.op.toNat:Int):=by
  have:=(Bb a1.off).2.2.1;rw[a3] at this;omega
 obtain⟨_,_,b3⟩:=zul h hop k hk;have hl:es.length<=60:=by unfold fJ at h;simp at h;exact h.1.2
 have hg:=a1.good a2 aC;exact⟨zeG h k hk,a1,b3,h1,by show(ln.length:Int)=(l5 o es k).o.ln;rw[a3];exact h2,zp0 k hk,by show(qn.length:Int)=(l5 o es k).o.op;rw[a3];exact h3,hg.1⟩
theorem zAI (hk:k<=es.length):∃B,rZ o es es.length=rZ o es k++B:=by
 have key:∀n,k<=n->∃B,rZ o es n=rZ o es k++B:=λn hn=>by
  induction n with
  |zero=>
   obtain rfl:k=0:=aC;exact⟨[],aQ⟩
  |succ n ih=>
   rcases uE k (n+1) with h|h
   .obtain⟨B,e⟩:=ih aC
    exact⟨B++(match es[n]? with|some e=>pA (l5 o es n) e|none=>[]),by show rZ o es n++_=_;rw[e,J0];rfl⟩
   .obtain rfl:k=n+1:=aC
    exact⟨[],aQ⟩
 exact key _ hk
theorem asks_at (he:es[k]? =some ev):Cu (C1 o es) (rZ o es k).length (pA (l5 o es k) ev):=λj x hj=>by
 have hk:=(lR.1 he).1;obtain⟨B,e⟩:=zAI (o:=o) (es:=es) (k:=k+1) hk;have e2:rZ o es (k+1)=rZ o es k++pA (l5 o es k) ev:=by show rZ o es k++_=_;rw[he]
 have hl:=(lR.1 hj).1;unfold C1;rw[e,e2,J0,J0,Pv aC,Mo aC,zqW];exact hj
theorem zmM (b:bY):∀n,(zC b n).length=2*n
 |0=>rfl
 |n+1=>by show(zC b n++_).length=_;rw[jP,zmM b n];simp;omega
theorem zt9 (b:bY):∀(n i:Nat),i<n->(zC b n)[2*i]? =some (.ask i 0 0 (dL b.recs ((i:Int)+1)))/\(zC b n)[2*i+1]? =some (.shut i)
 |0,i,h=>by omega
 |n+1,i,h=>by
  have hl:=zmM b n;show(zC b n++_)[2*i]? =_/\(zC b n++_)[2*i+1]? =_;rcases uE i n with hi|hi
  .rw[Mo aC,Mo aC]
   exact zt9 b n i hi
  .obtain rfl:i=n:=aC
   rw[Pv aC,Pv aC,hl,zkI,show 2*i+1-2*i=1 by omega];exact⟨rfl,rfl⟩
def zap (b:bY):Nat->List Int
 |0=>[]
 |n+1=>zap b n++[dL b.recs ((n:Int)+1)]
theorem zt2 (b:bY):∀n,(zap b n).length=n
 |0=>rfl
 |n+1=>by show(zap b n++_).length=_;rw[jP,zt2 b n];rfl
theorem zH3 (h:fJ o es=true)(he:es[k]? =some ev):(eF (l5 o es k) ev).1.log=(l5 o es k).log/\(l5 o es k).log.length<=1000/\qX (l5 o es k).o.op ev=true:=by
 have hk:=(lR.1 he).1;obtain⟨a1,a2,a3⟩:=K3 h k aC;have bU:=h;unfold fJ at bU;simp only[iY,uD,decide_eq_true_eq] at bU;have nG:qX (l5 o es k).o.op ev=true:=by rw[a3];exact bU.2 ev (dZ he)
 have:=a2.nl;exact⟨(a1.step a2 nG aC).2.2.2,aC,nG⟩
def Ay (o:gG)(es:List dX)(ln qn:List Nat)(k:Nat):nV:=⟨l5 o es k,ln,qn,[]⟩
def rW (o:gG)(es:List dX)(ln qn:List Nat)(i:Nat):nV:=⟨F8 o es,ln,qn,zap (F8 o es) i⟩
structure zcs (e:G2)(o:gG)(es:List dX)(ln qn:List Nat)(lo hb:Nat)(v:fC)(w:aE)(K:Pr)(A:Option bD)(n c:Nat):Prop where
 ok:fJ o es=true
 W:e.W=C1 o es
 at_:bE w lo hb v (Ay o es ln qn 0)
 mr:fX v (Ay o es ln qn 0)
 nd:ln.Nodup
 nl:(ln.length:Int)=o.ln
 nq:(qn.length:Int)=o.op
 qs:e.qs.length=qn.length
 lo_:lo<=w.heap.size
 tab:Bd lo w
 ev:cM w 0 lo 3 A n c (sY es)
 K:∀(i g:Nat),qn[i]? =some g->K g (qa e.qs i)
theorem cM.lowT {s c:Nat}{xs:List aF}(h:cM w 0 lo s A n c xs)(a:bE w lo hb v d)(eB:lo<=w.heap.size)(t:bP hb v w v' w'):cM w' 0 lo s A n c xs:=by
 refine⟨h.len,h.le,h.cap,λhn=>?_⟩;obtain⟨b,off,e,h1,h2,h3,h4⟩:=h.at_ hn;have hz:=t.size;exact⟨b,off,e,h1,h2,aC,λj u hj=>(aE.cell?_of_block (t.block b h3 (λx=>by have:=(a.lt b x).1;omega))).trans (h4 j u hj)⟩
theorem cf_work (H:e.d.Ok){c:Nat}(h:zcs e o es ln qn lo hb v w K A n c):
 CF e.d 58 #[.pointer (some ⟨hb,0,none⟩),.slice A n c] K (.wk e.qs 0) w (λK' l' y w'=>l'=.wk e.qs e.W.length/\∃v',bE w' lo hb v' (rW o es ln qn qn.length)/\fX v' (rW o es ln qn qn.length)/\bP hb v w v' w'):=by
 refine CF.of 52 zlB (.inl rfl) ?_;have HP:=aD h;have Gf:es.length=n:=h.ev.eventsLen;have o9:es.length<=60:=by have:=h.ok;unfold fJ at this;simp at this;exact this.1.2
 have zAN:n<=60:=aC;have Ov:=aD Gf;clear Gf o9 h;refine CW.sq H ?_;refine CW.sq H ?_;refine CW.pQ H Ox (λzEt Q HQ=>?_);go_wp2;refine HQ.o _ _ ?_;clear HQ;refine CW.tape (s:=⟨[],K,.wk e.qs 0,_,w⟩) ?_ zEt 0;refine CW.block H ?_;refine CW.loop H (λnn s=>∃(k:Nat) (wz:aE) (Kz:Pr) (vz:fC) (u2 u3 u4 u5 u6 u7 gF gE fZ fY gA u16 hY kH kO jH gT iA gY gZ iG iM gV iF iE jE jD u32 iL iK iD iC kE kL iH iI iJ jB iO iV iQ jA iN iP iU iS iZ:aF),s=⟨[],Kz,.wk e.qs (rZ o es k).length,#[.pointer (some ⟨hb,0,none⟩),.slice A n c,u2,u3,u4,u5,u6,u7,.slice A n c,.int .i64 (n:Int),.int .i64 (k:Int),gF,gE,fZ,fY,gA,u16,hY,kH,kO,jH,gT,iA,gY,gZ,iG,iM,gV,iF,iE,jE,jD,u32,iL,iK,iD,iC,kE,kL,iH,iI,iJ,jB,iO,iV,iQ,jA,iN,iP,iU,iS,iZ],wz⟩/\k<=n/\nn=n-k/\K.le Kz/\bE wz lo hb vz (Ay o es ln qn k)/\fX vz (Ay o es ln qn k)/\bP hb v w vz wz/\vz.sL=v.sL/\vz.sQ=v.sQ) (λnn s hs=>?_) (n:=n) ?_
 rotate_left
 .exact⟨0,w,K,v,_,_,_,_,_,_,_,_,_,_,_,_,_,_,_,_,_,_,_,_,_,_,_,_,_,_,_,_,_,_,_,_,_,_,_,_,_,_,_,_,_,_,_,_,_,_,_,rfl,mP _,rfl,xU _,HP.o.at_,HP.o.mr,bP.refl,rfl,rfl⟩
 .obtain⟨k,wz,Kz,vz,u2,u3,u4,u5,u6,u7,gF,gE,fZ,fY,gA,u16,hY,kH,kO,jH,gT,iA,gY,gZ,iG,iM,gV,iF,iE,jE,jD,u32,iL,iK,iD,iC,kE,kL,iH,iI,iJ,jB,iO,iV,iQ,jA,iN,iP,iU,iS,iZ,rfl,sP,Da,zj2,az,mz,tz,zqV,zpu⟩:=hs
  have A1:=aD az;have M1:=aD mz;have T1:=aD tz;have EZ:=aD (And.intro zqV zpu);clear az mz tz zqV zpu;refine CW.sq H ?_;refine CW.pQ H Ox (λze2 Q HQ=>?_);by_cases aU:k<n
  .have Hy:(k:Int)<(n:Int):=aC
   go_wp2;refine HQ.o _ _ ?_;clear HQ Hy;refine CW.tape (s:=⟨[],Kz,.wk e.qs (rZ o es k).length,_,wz⟩) ?_ ze2 0;refine CW.sq H ?_;refine CW.cd H true ?_;refine CW.sk H ?_;dsimp only;have D5:=HP.o.ev.lowT HP.o.at_ HP.o.lo_ T1.o;obtain⟨be,oe,ev,hA,zCH,zhh,zl5,Fx,e0,e1,e2⟩:=D5.eventsAt aU;subst hA;obtain⟨zpd,zr0,st3⟩:=zH3 HP.o.ok Fx;have Nn:=aD Fx;have uZ:=aD (And.intro zpd (And.intro zr0 st3));clear Fx zpd zr0 st3 D5;have i0:(0:Int)<=(k:Int):=aC;have i1:(k:Int)<(n:Int):=aC;refine CW.sq H ?_;refine CW.block H ?_;refine CW.sq H ?_;refine CW.pQ H Ox (λEz Q HQ=>?_);obtain⟨w2,eT⟩:=aP (Tt.tp wz Ez 0);have A2:=aD (show bE w2 lo hb vz (Ay o es ln qn k) by rw[eT];exact A1.o.tp Ez 0);have T2:=aD (show bP hb v w vz w2 by rw[eT];exact T1.o.tp Ez 0);have Ya:w2.cell? ⟨be,oe+k*3,none⟩=some (.string ev.k):=by rw[eT];exact e0
   have wN:w2.cell? ⟨be,oe+k*3+1,none⟩=some (.int .i64 ev.a):=by rw[eT];exact e1
   have Fb:w2.cell? ⟨be,oe+k*3+2,none⟩=some (.int .i64 ev.b):=by rw[eT];exact e2
   try dsimp only
   rw[<-eT];clear eT A1 T1 e0 e1 e2;go_wp2;refine HQ.o _ _ ?_;clear HQ Ya wN Fb;obtain⟨gb,eR⟩:=aP w2.heap.size;obtain⟨w3,iT⟩:=aP (w2.alloc (.cells #[.string ev.k,.int .i64 ev.a,.int .i64 ev.b] 54));have A3:=aD (show bE w3 lo hb vz (Ay o es ln qn k) by rw[iT];exact A2.o.alloc _);have T3:=aD (show bP hb v w vz w3 by rw[iT];exact T2.o.trans (bP.below (eD (fN _ _) _)));have vO:=aD (show w3.heap[gb]? =some (.cells #[.string ev.k,.int .i64 ev.a,.int .i64 ev.b] 54) by rw[iT,eR];exact gU _ _);have NP:=aD (show some gb∉parts vz hb from λhp=>by have:=(A2.o.lt _ hp).2;omega);rw[<-eR,<-iT];clear iT eR A2 T2;have zi2:lo<=w3.heap.size:=eM HP.o.lo_ T3.o.size;have zsG:k<=es.length:=by have:=Ov.o;omega
   obtain⟨Ex,zgq,zHq⟩:=K3 HP.o.ok k zsG;have pre:EvPre lo hb vz (Ay o es ln qn k) w3:=⟨A3.o,M1.o,zxU HP.o.ok zsG HP.o.nd HP.o.nl HP.o.nq,zi2,HP.o.tab.turn HP.o.at_ HP.o.lo_ T3.o,by have:=zgq.clk;show(l5 o es k).clk<=_;omega,by have h1:=zgq.nw;have h2:=zgq.nb;show(l5 o es k).back.length+(l5 o es k).wait.length<=_;omega⟩;have zoq:w3.cell? ⟨hb,12,none⟩=some vz.sA:=aI A3.o.blk 12;have zzL:=aD pre;have RD:=aD zoq;clear pre zoq Ex zgq zHq;refine cw_R3 (c:=⟨e,lo,hb,gb,(rZ o es k).length,v,w,vz,Ay o es ln qn k,ev,Kz⟩) H uZ.o.2.2 (by show Cu e.W _ _;rw[HP.o.W];exact asks_at Nn.o) (λi g hg=>zj2 _ _ (HP.o.K i g hg)) (by show(eF (l5 o es k) ev).1.log.length<=1000;rw[uZ.o.1];exact uZ.o.2.1) uZ.o.1 rfl rfl rfl (λvs K' l' w' tX hS=>?_) ⟨xU _,λ_=>⟨RD.o,vO.o⟩,rfl,zzL.o,T3.o,NP.o⟩;rw[Go.Mt.Ax,zzg];simp only[Go.Mt.xR,dV,dU];obtain⟨s1,s2,s3⟩:=hS;have s4:l'=.wk e.qs ((rZ o es k).length+(pA (l5 o es k) ev).length)/\W3.P2 ⟨e,lo,hb,gb,(rZ o es k).length,v,w,vz,Ay o es ln qn k,ev,Kz⟩ w':=by
    rcases vs with _|⟨a,_|⟨b,_|⟨x,_|⟨y,vs⟩⟩⟩⟩
    .cases tX
    .cases tX
    .cases tX
    .cases tX
    .exact s3
   obtain⟨rfl,v2,a2,m2,t2,q1,q2⟩:=s4;have e3:(rZ o es (k+1)).length=(rZ o es k).length+(pA (l5 o es k) ev).length:=by show(rZ o es k++_).length=_;rw[Nn.o,jP]
   have e4:Ay o es ln qn (k+1)={Ay o es ln qn k with r:=Fi (eF (l5 o es k) ev)}:=by unfold Ay;rw[Ut Nn.o]
   have A4:=aD (show bE w' lo hb v2 (Ay o es ln qn (k+1)) by rw[e4];exact a2);have M4:=aD (show fX v2 (Ay o es ln qn (k+1)) by rw[e4];exact m2);have T4:=aD t2;have Q4:=aD (And.intro (q1.trans EZ.o.1) (q2.trans EZ.o.2));have rQ:K.le K':=vU zj2 s1;rw[<-e3];clear a2 m2 t2 q1 q2 e3 e4 s1 s2 s3 tX;refine CW.pQ H Ox (λzsL Q HQ=>?_);go_wp2;refine HQ.o _ _ ?_;clear HQ;exact⟨n-(k+1),aC,k+1,_,K',v2,_,_,_,_,_,_,_,_,_,_,_,_,_,_,_,_,_,_,_,_,_,_,_,_,_,_,_,_,_,_,_,_,_,_,_,_,_,_,_,_,_,_,_,_,_,_,_,rfl,aC,rfl,rQ,A4.o.tp zsL 0,M4.o,T4.o.tp zsL 0,Q4.o.1,Q4.o.2⟩
  .have Hy:¬(k:Int)<(n:Int):=aC
   have lU:=aD (show k=es.length by have:=Ov.o;omega);go_wp2;refine HQ.o _ _ ?_;clear HQ Hy;refine CW.tape (s:=⟨[],Kz,.wk e.qs (rZ o es k).length,_,wz⟩) ?_ ze2 0;refine CW.sq H ?_;refine CW.cd H false ?_;refine CW.exit H aQ ?_;dsimp only;rw[if_pos rfl];have zR:=lU.o;subst zR;have Sf:Ay o es ln qn es.length=rW o es ln qn 0:=by unfold Ay rW;rw[zdj];rfl
   rw[Sf] at A1 M1;obtain⟨AQ,cQ,Z6,zGf⟩:=Hn A1.o.Q aH;obtain⟨nq,zcP⟩:=aP qn.length;have Q9:=aD zcP;have zuL:=aD (show vz.sQ=.slice AQ nq cQ by rw[zcP];exact Z6);have Zs:=(Bb (zxU (tk:=[]) HP.o.ok (mP _) HP.o.nd HP.o.nl HP.o.nq).R.off).2.2.2.1;have zI5:nq<=4:=by
    have h1:=HP.o.nq;have h2:(l5 o es 0).o.op<=4:=Zs;have h3:(l5 o es 0).o=o:=rfl;rw[h3] at h2;omega
   clear Z6 zGf zcP Sf Zs aU Da;refine CW.sq H ?_;refine CW.pQ H Ox (λUg Q HQ=>?_);obtain⟨w5,mF⟩:=aP (Tt.tp wz Ug 0);have A5:=aD (show bE w5 lo hb vz (rW o es ln qn 0) by rw[mF];exact A1.o.tp Ug 0);have T5:=aD (show bP hb v w vz w5 by rw[mF];exact T1.o.tp Ug 0)
   try dsimp only
   rw[<-mF];clear mF A1 T1;have k6:w5.cell? ⟨hb,6,none⟩=some (.slice AQ nq cQ):=by
    have:=aI A5.o.blk 6;rw[this,<-zuL.o];rfl
   go_wp2;refine HQ.o _ _ ?_;clear HQ k6;obtain⟨k0,lP⟩:=aP ((rZ o es es.length).length);have zP:=aD lP;rw[<-lP];clear lP;refine CW.block H ?_;refine CW.loop H (λnn s=>∃(k:Nat) (wy:aE) (Ky:Pr) (vy:fC) (u1 u2 u3 u4 u5 u6 u7 u8 u9 gS gF gE fZ fY gA u16 hY kH kO jH gT iA gY gZ iG iM gV iF iE iL iK iD iC kE kL iH iI iJ jB iO iV iQ jA iN iP iU iS iZ:aF),s=⟨[],Ky,.wk e.qs (k0+2*k),#[.pointer (some ⟨hb,0,none⟩),u1,u2,u3,u4,u5,u6,u7,u8,u9,gS,gF,gE,fZ,fY,gA,u16,hY,kH,kO,jH,gT,iA,gY,gZ,iG,iM,gV,iF,iE,.slice AQ nq cQ,.int .i64 (nq:Int),.int .i64 (k:Int),iL,iK,iD,iC,kE,kL,iH,iI,iJ,jB,iO,iV,iQ,jA,iN,iP,iU,iS,iZ],wy⟩/\k<=nq/\nn=nq-k/\K.le Ky/\bE wy lo hb vy (rW o es ln qn k)/\fX vy (rW o es ln qn k)/\bP hb v w vy wy/\vy.sQ=vz.sQ) (λnn s hs=>?_) (n:=nq) ?_
   rotate_left
   .exact⟨0,w5,Kz,vz,_,_,_,_,_,_,_,_,_,_,_,_,_,_,_,_,_,_,_,_,_,_,_,_,_,_,_,_,_,_,_,_,_,_,_,_,_,_,_,_,_,_,_,_,_,_,_,_,rfl,mP _,rfl,zj2,A5.o,M1.o,T5.o,rfl⟩
   .obtain⟨k,wy,Ky,vy,u1,u2,u3,u4,u5,u6,u7,u8,u9,gS,gF,gE,fZ,fY,gA,u16,hY,kH,kO,jH,gT,iA,gY,gZ,iG,iM,gV,iF,iE,iL,iK,iD,iC,kE,kL,iH,iI,iJ,jB,iO,iV,iQ,jA,iN,iP,iU,iS,iZ,rfl,zKN,zJU,zxE,ay,my,ty,ey⟩:=hs
    have A6:=aD ay;have M6:=aD my;have T6:=aD ty;have EY:=aD ey;clear ay my ty ey A5 T5 M1;refine CW.sq H ?_;refine CW.pQ H Ox (λzaW Q HQ=>?_);by_cases aU:k<nq
    .have Hy:(k:Int)<(nq:Int):=aC
     go_wp2;refine HQ.o _ _ ?_;clear HQ;refine CW.sq H ?_;refine CW.cd H true ?_;refine CW.sk H ?_;dsimp only;have Qd:e.W[k0+2*k]? =some (.ask k 0 0 (dL (F8 o es).recs ((k:Int)+1)))/\e.W[k0+2*k+1]? =some (.shut k):=by
      have zlS:o.op.toNat=nq:=by have:=HP.o.nq;have:=Q9.o;omega
      obtain⟨x1,x2⟩:=zt9 (F8 o es) nq k aU;rw[HP.o.W];unfold C1;rw[zlS,Pv (by have:=zP.o;omega),Pv (by have:=zP.o;omega),<-zP.o,zqW,show k0+2*k+1-k0=2*k+1 by omega];exact⟨x1,x2⟩
     refine CW.sq H ?_;refine CW.block H ?_;refine CW.sq H ?_;refine CW.pQ H Ox (λY1 Q HQ=>?_);obtain⟨w7,rE⟩:=aP (Tt.tp (Tt.tp wy zaW 0) Y1 0);have A7:=aD (show bE w7 lo hb vy (rW o es ln qn k) by rw[rE];exact(A6.o.tp zaW 0).tp Y1 0);have T7:=aD (show bP hb v w vy w7 by rw[rE];exact(T6.o.tp zaW 0).tp Y1 0)
     try dsimp only
     rw[<-rE];clear rE A6 T6;have oN:=A7.o.Q;rw[EY.o,zuL.o] at oN;have oN:w7.ownsRow lo 95 1 (.slice AQ nq cQ) nq (J7 qn):=by rw[Q9.o];rw[Q9.o] at oN;exact oN
     obtain⟨bq,oq,gq,hA,C9,zIe⟩:=zgI (As oN aH) aU;subst hA;have zGk:=aD C9;have i0:(0:Int)<=(k:Int):=aC;clear oN C9;go_wp2;refine HQ.o _ _ ?_;clear HQ zIe;have zvT:w7.cell? ⟨hb,13,none⟩=some vy.sT:=aI A7.o.blk 13;have zHe:lo<=w7.heap.size:=eM HP.o.lo_ T7.o.size;have zsC:k<qn.length:=by have:=Q9.o;omega
     refine CW.sq H ?_;refine cw_R8 (c:=⟨e,lo,hb,k,k0+2*k,dL (F8 o es).recs ((k:Int)+1),v,w,vy,rW o es ln qn k,Ky⟩) H M6.o Qd.1 zsC (by show k<=100;omega) (λi g hg=>zxE _ _ (HP.o.K i g hg)) (by show(zap (F8 o es) k).length<=1000;rw[zt2];omega) rfl rfl rfl (λvs K' l' w' tX hS=>?_) ⟨xU _,λ_=>zvT,rfl,A7.o,T7.o,zHe⟩;rw[Go.Mt.Ax,zDH];simp only[Go.Mt.xR,dV,dU];obtain⟨s1,s2,s3⟩:=hS;have s4:l'=.wk e.qs (k0+2*k+1)/\W8.P2 ⟨e,lo,hb,k,k0+2*k,dL (F8 o es).recs ((k:Int)+1),v,w,vy,rW o es ln qn k,Ky⟩ w':=by
      rcases vs with _|⟨a,_|⟨b,_|⟨x,_|⟨y,vs⟩⟩⟩⟩
      .cases tX
      .cases tX
      .cases tX
      .cases tX
      .exact s3
     obtain⟨rfl,v2,a2,m2,t2,q1,q2⟩:=s4;have A8:=aD (show bE w' lo hb v2 (rW o es ln qn (k+1)) from a2);have M8:=aD (show fX v2 (rW o es ln qn (k+1)) from m2);have T8:=aD t2;have Q8:=aD (q2.trans EY.o);have rQ:K.le K':=vU zxE s1;have zy2:K' gq (qa e.qs k):=rQ _ _ (HP.o.K k gq zGk.o);clear a2 m2 t2 q1 q2 s1 s2 s3 tX zvT;refine CW.rg H [0,1] ?_;refine CR.mv H (.chan (some gq)) ?_;refine CR.shut H (k:=k0+2*k+1) (q:=k) zHN rfl rfl zlB rfl rfl Qd.2 (by show k<e.qs.length;rw[HP.o.qs];exact zsC) rfl rfl zy2 ?_;simp only[b7,gC,dV,dU];refine CR.nil H ?_;refine CW.pQ H Ox (λVy Q HQ=>?_);go_wp2;refine HQ.o _ _ ?_;clear HQ;exact⟨nq-(k+1),aC,k+1,_,K',v2,_,_,_,_,_,_,_,_,_,_,_,_,_,_,_,_,_,_,_,_,_,_,_,_,_,_,_,_,_,_,_,_,_,_,_,_,_,_,_,_,_,_,_,_,_,_,_,_,rfl,aC,rfl,rQ,A8.o.tp Vy 0,M8.o,T8.o.tp Vy 0,Q8.o⟩
    .have Hy:¬(k:Int)<(nq:Int):=aC
     have lU:=aD (show k=nq by omega);go_wp2;refine HQ.o _ _ ?_;clear HQ Hy;refine CW.sq H ?_;refine CW.cd H false ?_;refine CW.exit H aQ ?_;dsimp only;rw[if_pos rfl];have zR:=lU.o;subst zR;have zBc:e.W.length=k0+2*k:=by
      have zlS:o.op.toNat=k:=by have:=HP.o.nq;have:=Q9.o;omega
      rw[HP.o.W];unfold C1;rw[jP,<-zP.o,zlS,zmM]
     refine⟨aQ,rfl,.tuple #[],rfl,by rw[zBc],vy,?_,?_,T6.o.tp zaW 0⟩
     .rw[<-Q9.o];exact A6.o.tp zaW 0
     .rw[<-Q9.o];exact M6.o
end Go.Proofs.YtfcjiloojkjaeaaGreatDoor
namespace Go.Proofs.YtfcjiloojkjaeaaGreatDoor
open Go.RowKit Go.Mt Go.Conc Go.Tt Go.Conc.Lib Go.ConcR.Gen
abbrev rR:WgLink:={add:=53,done:=55,wait:=59,relMerge:=68,disable:=69,enable:=70,inBubble:=71,associate:=72,fatal:=73,uOr:=74,uAdd:=75,raceRead:=76,uLoad:=77,uStore:=78,disassociate:=79,semrelease:=80,acquire:=83,isAssociated:=84,uCas:=85,raceWrite:=86,semacquire:=87,orU64:=97,addU64:=98,loadU64:=99,storeU64:=100,casU64:=106,tWgP:=108,tUP:=110,tAssoc:=112,tWg:=94,tAU:=91,tU64:=89,tUint:=116,tU32:=92,tPU32:=117,tPAU:=137,tPU64:=139,tNoCopy:=86,tANoCopy:=87,tAlign64:=88}
def zau:WgLib aK rR:=
 ⟨Tryz.func53,Tryz.func55,Tryz.func59,Tryz.func68,Tryz.func69,Tryz.func70,Tryz.func71,Tryz.func72,Tryz.func73,Tryz.func74,Tryz.func75,Tryz.func76,Tryz.func77,Tryz.func78,Tryz.func79,Tryz.func80,Tryz.func83,Tryz.func84,Tryz.func85,Tryz.func86,Tryz.func87,Tryz.func97,Tryz.func98,Tryz.func99,Tryz.func100,Tryz.func106,Tryz.underlying108,Tryz.runUnderlying108,Tryz.sizeOf108,Tryz.isAgg108,Tryz.zeroValue108,Tryz.underlying110,Tryz.runUnderlying110,Tryz.sizeOf110,Tryz.isAgg110,Tryz.zeroValue110,Tryz.underlying112,Tryz.runUnderlying112,Tryz.sizeOf112,Tryz.isAgg112,Tryz.zeroValue112,Tryz.underlying94,Tryz.runUnderlying94,Tryz.sizeOf94,Tryz.isAgg94,Tryz.zeroValue94,Tryz.underlying91,Tryz.runUnderlying91,Tryz.sizeOf91,Tryz.isAgg91,Tryz.zeroValue91,Tryz.underlying89,Tryz.runUnderlying89,Tryz.sizeOf89,Tryz.isAgg89,Tryz.zeroValue89,Tryz.underlying116,Tryz.runUnderlying116,Tryz.sizeOf116,Tryz.isAgg116,Tryz.zeroValue116,Tryz.underlying92,Tryz.runUnderlying92,Tryz.sizeOf92,Tryz.isAgg92,Tryz.zeroValue92,Tryz.underlying117,Tryz.runUnderlying117,Tryz.sizeOf117,Tryz.isAgg117,Tryz.zeroValue117,Tryz.underlying137,Tryz.runUnderlying137,Tryz.sizeOf137,Tryz.isAgg137,Tryz.zeroValue137,Tryz.underlying139,Tryz.runUnderlying139,Tryz.sizeOf139,Tryz.isAgg139,Tryz.zeroValue139,Tryz.underlying0,Tryz.runUnderlying0,Tryz.sizeOf0,Tryz.isAgg0,Tryz.zeroValue0,Tryz.underlying3,Tryz.runUnderlying3,Tryz.sizeOf3,Tryz.isAgg3,Tryz.zeroValue3,Tryz.underlying4,Tryz.runUnderlying4,Tryz.sizeOf4,Tryz.isAgg4,Tryz.zeroValue4,Tryz.underlying9,Tryz.runUnderlying9,Tryz.sizeOf9,Tryz.isAgg9,Tryz.zeroValue9,Tryz.underlying20,Tryz.runUnderlying20,Tryz.sizeOf20,Tryz.isAgg20,Tryz.zeroValue20,Tryz.underlying21,Tryz.runUnderlying21,Tryz.sizeOf21,Tryz.isAgg21,Tryz.zeroValue21,aT,aT⟩
instance:Go.ConcR.Payload:=⟨3⟩
end Go.Proofs.YtfcjiloojkjaeaaGreatDoor
namespace Go.Proofs.YtfcjiloojkjaeaaGreatDoor
open Go.RowKit Go.Mt Go.Conc Go.Tt Go.Maps Go.Conc.Lib Go.ConcR.Gen
open Go.ConcR (KK wgBlock WgAt stA smA rd wr)
variable {K:Pr}{Q:Pr->Prop}{pin:List (Nat×aF)}{w:aE}{Ψ:Pr->gI->aF->aE->Prop}
theorem BO.callF {d:pT}(H:d.Ok){base:List dJ}{ds:Dk}(hQ:Up Q){fn:aN}{tmps:Array aF}{ops:Array aZ}{i:Nat}{rest:List Nat}{k:List dS}{l:gI}{o:aZ}{g:aN}{args:Array cI}{kY:Array aM}(Nt:Array aF)
 (ho:ops[i]? =some o) (b9:dG o (dO ops tmps)=true) (hop:o.op=.call ⟨.value (.func g),args,kY⟩) (wF:args.all (dP d.fs)=true) (ha:args.map (bJ tmps []).eval=Nt) (kU:∀s,o.dst=some s->s∉pin.map (·.1)) (hc:CF d g Nt K l w Ψ)
 (hk:∀K' l' v w',K.le K'->Ψ K' l' v w'->BO (d.cx K' Q [] base ds pin) l' ⟨fn,(b7 ⟨tmps,[]⟩ o.dst v).tmps,.inRegion ops rest::k,false⟩ w'):BO (d.cx K Q [] base ds pin) l ⟨fn,tmps,.inRegion ops (i::rest)::k,false⟩ w:=by
 obtain⟨fnf,cf,g1,g2,g3,g4,g5⟩:=hc.ex;refine BO.callN (H.iok hQ) ho b9 hop (Callee.static _ _) wF g1 g2 g3 g4 λoA m' hm=>?_;rw[pT.sub_eq];have fin:∀(s':WS) todo,K.le s'.K->(s'.chs=[]/\∃v,(o5 fnf.results.toList s'.T).run d.p s'.w=.ok v s'.w/\Ψ s'.K s'.l v s'.w)->d.bo (λR=>Q R/\oA.le R) (fx [] ds m'::base) s' g todo true:=λs' todo hl ⟨h2,v,h3,h4⟩=>by
  obtain⟨zym,K',l',T',w'⟩:=s';simp only at*;subst h2;unfold pT.bo;simp only;rw[<-pT.sub_eq (pin:=pin)];refine BO.retN (C:=d.cx K' Q [] base ds pin) (H.iok hQ) (hm.upK hl _) rfl rfl (λs hs=>kU s tJ) g1 h3 ?_;have:=hk K' l' v w' hl h4;simp only[Fm.fin,ho,xS]
  cases hd:o.dst with
  |none=>rw[hd] at this;exact this
  |some s=>rw[hd] at this;exact this
 have e:(#[]:Array aF)++args.map (bJ tmps []).eval++ #[]=Nt:=by rw[<-ha];simp
 rw[e];refine g5 (λR=>Q R/\oA.le R) (fx [] ds m'::base) [] (hQ.and oA) (λ_ h=>by cases h) (λs' hl x=>BO.fall (H.iok (hQ.and oA)) (fin s' [] hl x.2)) (λid k2 s' hl ee x=>by cases ee) (λs' todo hl x=>fin s' todo hl x.2)
def Vr:Go.Code:=(Tryz.f57.body).getD .skip
def rH20:Go.Code:=match Vr with| .seq (a) _=>a|_=>.skip
def rH21:Go.Code:=match Vr with| .seq _ (a)=>a|_=>.skip
def zy5:Vr=.seq (rH20) (rH21):=rfl
def zfl:Array Oper:=match rH20 with| .region _ ops _=>ops|_=>#[]
def rH20_eq:rH20=.region 0 zfl false:=rfl
def zCO:iX zfl.size=[0]:=rfl
abbrev zqS:Oper:=aV zfl 0 none (.defer ⟨.value (.func 55),#[.tmp 0],#[94]⟩)
def zFJ:zfl[0]? =some zqS:=rfl
def Qk:Array Oper:=match rH21 with| .region _ ops _=>ops|_=>#[]
def rH21_eq:rH21=.region 1 Qk false:=rfl
def zC0:iX Qk.size=[0,1,2]:=rfl
abbrev oH21_0:Oper:=aV Qk 0 (some 3) (.load 63 (.tmp 1))
def zFL:Qk[0]? =some oH21_0:=rfl
abbrev oH21_1:Oper:=aV Qk 1 (some 4) (.load 31 (.tmp 2))
def zCI:Qk[1]? =some oH21_1:=rfl
abbrev oH21_2:Oper:=aV Qk 2 (some 5) (.call ⟨.value (.func 58),#[.tmp 3,.tmp 4],#[63,31]⟩)
def zCQ:Qk[2]? =some oH21_2:=rfl
theorem zFV {N:Nat}{W:List fB}{D:aE->Prop}{qs:List Nat}:(Db N W D).act (.wk qs W.length)=.done:=by
 show eK N W (.wk qs W.length)=_;simp[eK]
theorem zCr {e:G2}(H:e.d.Ok)(B8:e.ty=rR.tWg){lo hb gh ge n c:Nat}{A:Option bD}{v:fC}{o:gG}{es:List dX}{ln qn:List Nat}(h:zcs e o es ln qn lo hb v w K A n c)(hh:w.cell? ⟨gh,0,none⟩=some (.pointer (some ⟨hb,0,none⟩)))(he:w.cell? ⟨ge,0,none⟩=some (.slice A n c))(hQ:Up Q)
 (tU:∀K' R τ W w' v',K.le K'->Q R->cV (SF fT) K' R (pE aK) e.St w' W->IQ e.W0 e.StI e.Shun e.Wg e.SS e.R0 e.Fz e.Wf e.qs [] R τ W->bE w' lo hb v' (rW o es ln qn qn.length)->fX v' (rW o es ln qn qn.length)->bP hb v w v' w'->e.D W):
 BO (e.d.cx K Q [] [wG aK] ⟨[],.deferred,aQ⟩ [(0,.pointer (some ⟨e.Wg,0,none⟩))]) (.wk e.qs 0) ⟨57,#[.nilFunc,.pointer (some ⟨gh,0,none⟩),.pointer (some ⟨ge,0,none⟩),aA,aA,aA],[.code Vr],false⟩ w:=by
 let C:=e.d.cx K Q [] [wG aK] ⟨[],.deferred,aQ⟩ [(0,.pointer (some ⟨e.Wg,0,none⟩))]
 have hI:eZ C:=H.iok hQ
 let d1:=dcall 55 #[.pointer (some ⟨e.Wg,0,none⟩)]
 have La:eZ (C.dfr d1):=hI.dfr d1;have F:vQ C.P C.fs:=nD;show BO C _ _ _;rw[zy5];refine BO.seq hI ?_;rw[rH20_eq];refine BO.regs hI _ zCO ?_;refine BO.defer hI (d:=d1) zFJ rfl rfl (λR w W bS _ _ Dt aY=>?_) ?_
 .have h0:=Dt (0,.pointer (some ⟨e.Wg,0,none⟩)) (by show _∈[_];simp)
  have:=zui (p:=C.p) (o:=zqS) (ρ:=(bJ bS C.ds.ds).eval) rfl rfl aY;simp only[uR,jG,tK,vT] at this
  grind
 refine BO.regEnd La ?_;rw[rH21_eq];refine BO.regs La _ zC0 ?_;refine BO.op (C:=C.dfr d1) F La zFL rfl aT zvR (λT=>⟨.pointer (some ⟨hb,0,none⟩),Tt.tp w T 0,.inl (Z1 (a:=⟨gh,0,none⟩) rfl rfl (Tryz.isAgg63 _) hh),?_⟩);simp only[b7,gC,dV,dU];refine BO.tape ?_ T 0;clear T;refine BO.op (C:=C.dfr d1) F La zCI rfl aT (by intro s hs;cases hs;show(4:Nat)∉([0]:List Nat);decide) (λT=>⟨.slice A n c,Tt.tp w T 0,.inl (Z1 (a:=⟨ge,0,none⟩) rfl rfl (Tryz.isAgg31 _) he),?_⟩);simp only[b7,gC,dV,dU];refine BO.tape ?_ T 0;clear T;have eC:C.dfr d1=e.d.cx K Q [] [wG aK] ⟨[d1],.deferred,aQ⟩ [(0,.pointer (some ⟨e.Wg,0,none⟩))]:=rfl;rw[eC];refine BO.callF H hQ #[.pointer (some ⟨hb,0,none⟩),.slice A n c] zCQ rfl rfl aT (by simp only[uR,jG,tK,vT];rfl) tJ (cf_work H h) λK' l' y w' hl hx=>?_;obtain⟨rfl,v',hA,hm,hT⟩:=hx;have Hv:eZ (e.d.cx K' Q [] [wG aK] ⟨[d1],.deferred,aQ⟩ [(0,.pointer (some ⟨e.Wg,0,none⟩))]):=H.iok hQ;refine BO.regEnd Hv (BO.fall Hv ?_);refine BO.doneD (C:=e.d.cx K' Q [] [wG aK] ⟨[d1],.deferred,aQ⟩ [(0,.pointer (some ⟨e.Wg,0,none⟩))]) (I0:=λR τ W=>IQ e.W0 e.StI e.Shun e.Wg e.SS e.R0 e.Fz e.Wf e.qs [] R τ W/\Q R) zau rfl rfl B8 ?_ ?_ rfl rfl Tryz.func57 rfl zFV (λR τ W hr hi=>tU K' R τ W w' v' hl hi.2 hr hi.1 hA hm hT)
 .funext R τ w
  show((IQ _ _ _ _ _ _ _ _ _ _ R τ w/\WgLive e.ty _ w)/\Q R)=((IQ _ _ _ _ _ _ _ _ _ _ R τ w/\Q R)/\WgLive _ _ w);rw[B8];exact propext ⟨λ⟨⟨a,b⟩,c⟩=>⟨⟨a,c⟩,b⟩,λ⟨⟨a,c⟩,b⟩=>⟨⟨a,b⟩,c⟩⟩
 .have hx:=zeJ (ty:=rR.tWg) (W0:=e.W0) (St:=e.StI) (Shun:=e.Shun) (Wg:=e.Wg) (SS:=e.SS) (R0:=e.R0) (Fz:=e.Fz) (Wf:=e.Wf) (qs:=e.qs) (chs:=[]) H.ss H.fz H.low
  exact⟨λR τ W aY h s=>⟨hx.suf _ _ _ _ h.1 s,h.2⟩,λR τ W a v h ha=>⟨hx.cell _ _ _ _ _ h.1 ha,h.2⟩,λR τ W d h=>⟨hx.at_ _ _ _ d h.1,h.2⟩,λR τ W h=>hx.rel _ _ _ h.1⟩
section
variable {L:Type}{C:Cx L}{l:L}
variable {fn:aN}{tmps:Array aF}{c:wA}{k:List dS}{w:aE}
def BO.pieceQ (F:vQ C.P C.fs)(hI:eZ C)(hc:pJ C.p ⟨C.fs,C.gs,true⟩ c=true)(hf:vW C.p fn)(fG:yV C.S c=true)
 (uF:∀(T:lM) (Q:n6->uB->aE->Prop),qE (∀a' w',BO C l ⟨fn,a'.tmps,k,false⟩ w'->Q .normal a' w')->Code.wp C.p c Q ⟨tmps,[]⟩ (Tt.tp w T 0)):BO C l ⟨fn,tmps,.code c::k,false⟩ w:=
 BO.piece F hI hc hf fG λT=>uF T _ (aD λa' w' h=>⟨rfl,h⟩)
theorem BO.pV {c':wA}(F:vQ C.P C.fs)(hI:eZ C)(hf:vW C.p fn)
 (uF:∀(w1:aE) (T:lM),w1=Tt.tp w T 0->∀Q:n6->uB->aE->Prop,qE (∀a' w',BO C l ⟨fn,a'.tmps,k,false⟩ w'->Q .normal a' w')->Code.wp aK c' Q ⟨tmps,[]⟩ w1)
 (e:c=c':=by conv=>lhs;whnf) (hp:C.p=Tryz.prog:=by exact rfl) (hc:pJ C.p ⟨C.fs,C.gs,true⟩ c=true:=by kernel_rfl) (fG:yV C.S c=true:=by kernel_rfl):BO C l ⟨fn,tmps,.code c::k,false⟩ w:=by
 subst e;exact BO.pieceQ F hI hc hf fG λT Q HQ=>by rw[hp];exact uF _ T rfl Q HQ
end
structure IOp (Wg:Nat)(R:Pr)(τ:cC)(W:aE):Prop where
 rel:∀a b,R a b->b≠Wg
 lt:Wg<W.heap.size
theorem iop_ix {ty:aM}{Wg:Nat}:IX ty Wg (IOp Wg):=
 ⟨λR τ W aY h s=>⟨h.rel,jW h.lt s.size⟩,λR τ W a v h ha=>⟨h.rel,by rw[Sj];exact h.lt⟩,λR τ W d h=>⟨h.rel,h.lt⟩,λR τ W h=>h.rel⟩
theorem zfZ {L:Type}{C:Cx L}(hQ:Up Q)(hC:C.I=λR τ W=>zD C.ty C.Wg (IOp C.Wg) R τ W/\Q R):eZ C:=by
 refine⟨λR τ W aY h s=>?_,λR τ W R1 W1 h ht hs=>?_⟩<;>rw[hC] at*
 .exact⟨⟨⟨h.1.1.rel,jW h.1.1.lt s.size⟩,s.live h.1.2⟩,h.2⟩
 .refine⟨⟨⟨λa b x=>?_,jW h.1.1.lt hs.size⟩,?_⟩,hQ R R1 hs.le h.2⟩
  .rcases hs.new a b x with y|⟨y,_⟩
   .exact h.1.1.rel a b y
   .have:=h.1.1.lt;omega
  .obtain⟨a,b,hl⟩:=h.1.2
   exact⟨a,b,(hs.keep C.Wg h.1.1.lt λa x=>absurd rfl (h.1.1.rel a _ x)).trans hl⟩
def fM (Wg N:Nat)(W:List fB)(D:aE->Prop)(Fin:bC->aE->Prop)(St:Nat->Prop)(K:Pr)(Q:Pr->Prop)(base:List dJ)(ds:Dk)(pin:List (Nat×aF)):Cx gI:=
 {p:=aK,gs:=C7,fs:=fT,ty:=rR.tWg,Wg:=Wg,A:=Db N W D,Fin:=Fin,main:=false,base:=base,ds:=ds,K:=K,St:=St,I:=λR τ w=>zD rR.tWg Wg (IOp Wg) R τ w/\Q R,pin:=pin}
def L2:Go.Code:=(Tryz.f56.body).getD .skip
def rOP0:Go.Code:=match L2 with| .seq (a) _=>a|_=>.skip
def rOP1:Go.Code:=match L2 with| .seq _ (.seq (a) _)=>a|_=>.skip
def rOP2:Go.Code:=match L2 with| .seq _ (.seq _ (.block _ (.loop (.seq (a) _))))=>a|_=>.skip
def rOP3:Go.Code:=match L2 with| .seq _ (.seq _ (.block _ (.loop (.seq _ (.seq _ (.block _ (.seq (a) _)))))))=>a|_=>.skip
def rOP4:Go.Code:=match L2 with| .seq _ (.seq _ (.block _ (.loop (.seq _ (.seq _ (.block _ (.seq _ (.seq (.seq (a) _) _))))))))=>a|_=>.skip
def rOP5:Go.Code:=match L2 with| .seq _ (.seq _ (.block _ (.loop (.seq _ (.seq _ (.block _ (.seq _ (.seq (.seq _ (.cond _ (a) _)) _))))))))=>a|_=>.skip
def rOP6:Go.Code:=match L2 with| .seq _ (.seq _ (.block _ (.loop (.seq _ (.seq _ (.block _ (.seq _ (.seq _ (a)))))))))=>a|_=>.skip
def zBh:L2=.seq (rOP0) (.seq (rOP1) (.block 0 (.loop (.seq (rOP2) (.seq (.cond (.tmp 6) (.skip) (.exit 0)) (.block 1 (.seq (rOP3) (.seq (.seq (rOP4) (.cond (.tmp 10) (rOP5) (.skip))) (rOP6))))))))):=rfl
def Wa:Array Oper:=match rOP2 with| .region _ ops _=>ops|_=>#[]
def zvI:rOP2=.region 2 Wa false:=rfl
def zq0:iX Wa.size=[0,1]:=rfl
abbrev oOP2_0:Oper:=aV Wa 0 (some 5) (.recv 122 (.tmp 4) true)
def ztp:Wa[0]? =some oOP2_0:=rfl
abbrev oOP2_1:Oper:=aV Wa 1 (some 6) (.extract (.tmp 5) 1)
def zir:Wa[1]? =some oOP2_1:=rfl
def Ln:Array Oper:=match rOP6 with| .region _ ops _=>ops|_=>#[]
def zqn:rOP6=.region 6 Ln false:=rfl
def zoy:iX Ln.size=[0,1,2,3]:=rfl
abbrev oOP6_0:Oper:=aV Ln 0 (some 13) (.fieldAddr 124 (.tmp 3) 2)
def zwo:Ln[0]? =some oOP6_0:=rfl
abbrev oOP6_1:Oper:=aV Ln 1 (some 14) (.load 84 (.tmp 13))
def zx3:Ln[1]? =some oOP6_1:=rfl
abbrev oOP6_2:Oper:=aV Ln 2 (some 15) (.move (.tmp 2))
def zre:Ln[2]? =some oOP6_2:=rfl
abbrev oOP6_3:Oper:=aV Ln 3 none (.send (.tmp 14) (.tmp 15))
def ztd:Ln[3]? =some oOP6_3:=rfl
def Xp:vW aK 56:=⟨_,Tryz.func56,.inl rfl⟩
def zfw:Go.Code:=.seq rOP2 (.seq (.cond (.tmp 6) .skip (.exit 0)) (.block 1 (.seq rOP3 (.seq (.seq rOP4 (.cond (.tmp 10) rOP5 .skip)) rOP6))))
theorem info_q:∃ie,aK.info? 124=some ie/\ie.zero=some (.agg #[.int .i64 0,.int .i64 0,.chan none]):=by
 have h:(aK.info? 124).bind (·.zero)=some (.agg #[.int .i64 0,.int .i64 0,.chan none]):=aT;obtain⟨ie,h1,h2⟩:=Option.bind_eq_some_iff.1 h;exact⟨ie,h1,h2⟩
def zxC:aK.underlying 122=some (.chan .recv 124):=aT
def vr3 {S:aN->Prop}{R:Pr}{a b:Int}{x y:aF}(h:VR S K R x y):VR S K R (.agg #[.int .i64 a,.int .i64 b,x]) (.agg #[.int .i64 a,.int .i64 b,y]):=
 .agg' (((bL.empty.push (.int _ _)).push (.int _ _)).push h)
section
variable {Wg N:Nat}{W:List fB}{D:aE->Prop}{Fin:bC->aE->Prop}{St:Nat->Prop}{Q:Pr->Prop}{base:List dJ}{gc c:Nat}
theorem op_loop {K0:Pr}(zpQ:K0 gc c)(hQ:Up Q)(Pb:∀K T todo w,K0.le K->BO (fM Wg N W D Fin St K Q base .nil []) .oD ⟨56,T,todo,true⟩ w):
 ∀(m:Nat) (K:Pr) (w:aE) (call:Int) (u1 u3 u5 u6 u7 u8 u9 gS gF gE fZ fY gA:aF),K0.le K->BO (fM Wg N W D Fin St K Q base .nil []) (.op c call m) ⟨56,#[.chan (some gc),u1,.int .i64 call,u3,.chan (some gc),u5,u6,u7,u8,u9,gS,gF,gE,fZ,fY,gA],[.code zfw,.inLoop zfw,.inBlock 0],false⟩ w:=by
 have F:∀K,vQ (fM Wg N W D Fin St K Q base .nil []).P (fM Wg N W D Fin St K Q base .nil []).fs:=λK=>nD;have hI:∀K,eZ (fM Wg N W D Fin St K Q base .nil []):=λK=>zfZ hQ rfl;obtain⟨ie,jS,hz⟩:=info_q;intro m
 induction m with
 |zero=>
  intro K w call u1 u3 u5 u6 u7 u8 u9 gS gF gE fZ fY gA hL;have hK:K gc c:=hL _ _ zpQ;unfold zfw;refine BO.seq (hI K) ?_;rw[zvI];refine BO.regs (hI K) _ zq0 ?_;refine BO.recvK rfl (hI K) ztp rfl rfl zxC jS hz (λR=>vr3 (.chan .none)) rfl rfl hK Jw rfl (λv hv=>absurd hv.2 (Nat.lt_irrefl 0)) (λ_=>?_);simp only[b7,gC,dV,dU];refine BO.op (F K) (hI K) zir rfl aT Jw (λT=>⟨.bool false,Tt.tp w T 0,.inl O2,?_⟩);simp only[b7,gC,dV,dU];refine BO.regEnd (hI K) ?_;refine BO.seq (hI K) ?_;refine BO.cond (hI K) (t:=false) rfl rfl ?_;refine BO.exit (hI K) (k':=[]) rfl (BO.fall (hI K) (Pb K _ _ _ hL))
 |succ m ih=>
  intro K w call u1 u3 u5 u6 u7 u8 u9 gS gF gE fZ fY gA hL;have hK:K gc c:=hL _ _ zpQ;unfold zfw;refine BO.seq (hI K) ?_;rw[zvI];refine BO.regs (hI K) _ zq0 ?_;refine BO.recvK rfl (hI K) ztp rfl rfl zxC jS hz (λR=>vr3 (.chan .none)) rfl rfl hK Jw rfl (λv hv=>?_) (λ_=>?_)
  .obtain⟨hs,_⟩:=hv
   obtain⟨⟨kd,cl,a⟩,hu⟩:=Option.isSome_iff_exists.1 hs;obtain rfl:=unQ_inv hu;refine⟨a,by show a∈Qc (quV kd cl a);simp[Qc,zd9],λK' ga w' hle zcI jI=>⟨.agg #[.int .i64 kd,.int .i64 cl,.chan (some ga)],λR=>vr3 (.chan (.some (.inr zcI))),?_⟩⟩;have rQ:K' gc c:=hle _ _ hK;have zaj:=vU hL hle;show BO (fM Wg N W D Fin St K' Q base .nil []) (Qx c call (m+1) (quV kd cl a)) _ w';simp only[Qx,zd9,Nat.add_sub_cancel];simp only[b7,gC,dV,dU];refine BO.op (F K') (hI K') zir rfl aT Jw (λT=>⟨.bool true,Tt.tp w' T 0,.inl O2,?_⟩);simp only[b7,gC,dV,dU];refine BO.regEnd (hI K') ?_;refine BO.seq (hI K') ?_;refine BO.cond (hI K') (t:=true) rfl rfl ?_;refine BO.skip (hI K') ?_;refine BO.block (hI K') ?_;refine BO.seq (hI K') ?_;obtain⟨w1,eG⟩:=aP (Tt.tp w' T 0);rw[<-eG];clear eG;refine BO.pV (F K') (hI K') Xp (λw2 T1 eT Q' dA=>?_);clear eT;simp only[recvd,if_true];go_wp2;refine dA.o _ _ ?_;clear dA;obtain⟨gb,eR⟩:=aP w2.heap.size;obtain⟨w3,iT⟩:=aP (w2.alloc (.cells #[.int .i64 kd,.int .i64 cl,.chan (some ga)] 124));have kg:w3.heap[gb]? =some (.cells #[.int .i64 kd,.int .i64 cl,.chan (some ga)] 124):=by rw[iT,eR];exact gU _ _
   rw[<-eR,<-iT];clear iT eR;refine BO.seq (hI K') ?_;refine BO.seq (hI K') ?_;have k0:=aI kg 0;have k1:=aI kg 1;have k2:=aI kg 2;by_cases pK:kd=1
   .refine BO.pV (F K') (hI K') Xp (λwt T1 b9 Q' dA=>?_)
    subst b9;have zjL:(Tt.tp w3 T1 0).cell? ⟨gb,0,none⟩=some (.int .i64 kd):=k0;subst pK;go_wp2;refine dA.o _ _ ?_;clear dA zjL;refine BO.cond (hI K') (t:=true) rfl rfl ?_;refine BO.pV (F K') (hI K') Xp (λwt T2 b9 Q' dA=>?_);subst b9;have zHk:(Tt.tp (Tt.tp w3 T1 0) T2 0).cell? ⟨gb,1,none⟩=some (.int .i64 cl):=k1;go_wp2;refine dA.o _ _ ?_;clear dA zHk;rw[if_pos trivial];rw[zqn];refine BO.regs (hI K') _ zoy ?_;refine BO.op (F K') (hI K') zwo rfl aT Jw (λT3=>⟨.pointer (some ⟨gb,2,none⟩),_,.inl O2,?_⟩);simp only[b7,gC,dV,dU];refine BO.op (F K') (hI K') zx3 rfl aT Jw (λT4=>⟨.chan (some ga),_,.inl (Z1 (a:=⟨gb,2,none⟩) rfl rfl (zpi _) k2),?_⟩);simp only[b7,gC,dV,dU];refine BO.op (F K') (hI K') zre rfl aT Jw (λT5=>⟨.int .i64 cl,_,.inl O2,?_⟩);simp only[b7,gC,dV,dU];refine BO.send rfl (hI K') (l':=.op c cl m) ztd rfl rfl rfl rfl zcI rfl (by intro s hs;cases hs) rfl (λR v' hv=>⟨by cases hv;rfl,rfl,rfl⟩) ?_;refine BO.regEnd (hI K') ?_;refine BO.inBlock (hI K') ?_;refine BO.inLoop (hI K') ?_;exact ih K' _ cl _ _ _ _ _ _ _ _ _ _ _ _ _ zaj
   .refine BO.pV (F K') (hI K') Xp (λwt T1 b9 Q' dA=>?_)
    subst b9;have zjL:(Tt.tp w3 T1 0).cell? ⟨gb,0,none⟩=some (.int .i64 kd):=k0;have qL:(kd==1)=false:=by simpa using pK
    go_wp2;refine dA.o _ _ ?_;clear dA zjL;refine BO.cond (hI K') (t:=false) rfl (by first|rfl|(simp[vT,pK])) ?_;refine BO.skip (hI K') ?_;rw[if_neg pK];rw[zqn];refine BO.regs (hI K') _ zoy ?_;refine BO.op (F K') (hI K') zwo rfl aT Jw (λT3=>⟨.pointer (some ⟨gb,2,none⟩),_,.inl O2,?_⟩);simp only[b7,gC,dV,dU];refine BO.op (F K') (hI K') zx3 rfl aT Jw (λT4=>⟨.chan (some ga),_,.inl (Z1 (a:=⟨gb,2,none⟩) rfl rfl (zpi _) k2),?_⟩);simp only[b7,gC,dV,dU];refine BO.op (F K') (hI K') zre rfl aT Jw (λT5=>⟨.int .i64 call,_,.inl O2,?_⟩);simp only[b7,gC,dV,dU];refine BO.send rfl (hI K') (l':=.op c call m) ztd rfl rfl rfl rfl zcI rfl (by intro s hs;cases hs) rfl (λR v' hv=>⟨by cases hv;rfl,rfl,rfl⟩) ?_;refine BO.regEnd (hI K') ?_;refine BO.inBlock (hI K') ?_;refine BO.inLoop (hI K') ?_;exact ih K' _ call _ _ _ _ _ _ _ _ _ _ _ _ _ zaj
  .simp only[b7,gC,dV,dU]
   refine BO.op (F K) (hI K) zir rfl aT Jw (λT=>⟨.bool false,Tt.tp w T 0,.inl O2,?_⟩);simp only[b7,gC,dV,dU];refine BO.regEnd (hI K) ?_;refine BO.seq (hI K) ?_;refine BO.cond (hI K) (t:=false) rfl rfl ?_;refine BO.exit (hI K) (k':=[]) rfl (BO.fall (hI K) (Pb K _ _ _ hL))
end
end Go.Proofs.YtfcjiloojkjaeaaGreatDoor
