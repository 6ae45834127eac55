/-
  Part 5 of what stands behind the last text.
-/
import Derived.Lib.Overlaps
import Derived.Lib.AppendZerosOnto
import Derived.Test.YtfcjiloojkjaeaaGreatDoorTalkCPq4
set_option linter.all false
set_option maxHeartbeats 16000000
set_option maxRecDepth 100000
open Array renaming getD_eq_getD_getElem?→tJ,getElem?_eq_none→F7,getElem?_eq_some_iff→dP,getElem?_setIfInBounds_ne→jV,getElem?_toList→Aw,length_toList→Ds,replicate→nU,size_append→Sn,toList_append→Oz
open Bool renaming and_eq_true→fU,false_eq_true→jE,or_eq_true→Ey
open Go renaming Act→tK,Addr→bL,ChanDir→Nu,Code→vX,Exit→n5,Frame→dK,FuncId→aP,Goroutine→bC,Item→eE,Oper→aZ,Operand→cM,Program→bS,Tape→jW,TypeId→aM,TypeInfo→wW,Value→aF,World→aE,execOp→aS,heap_alloc_new→lF,run_underlying→wU,setRow_heap→L0,setRow_other→zgx,size_zeroCells→Ys,undef→aA,yielded→dR
open Go.Act renaming eval→wF,mk→bH,put→cC
open Go.Addr renaming add_lit→Lo
open Go.Builtin renaming copy_→C7,firstCells→Tn,zeroCells→qD
open Go.Code renaming region→Ep
open Go.Conc renaming listed→wJ,seen_none→Ct,stepG_value→zjh
open Go.Deferred renaming ofValue→Bu
open Go.Extern renaming find→zve,findNext→zr4
open Go.Extern.SlicesOverlaps renaming overlaps→ziZ
open Go.Instr renaming lookup→zK,slice→Wx,sliceAt→Vj,sliceBound→Lh,sliceBounds→Xz
open Go.Proofs.Tryz renaming checked→vK,f101→zxN,func101→zn0,func102→zuB,func103→zs4,func104→zxi,func111→zwi,func120→zrd,func58→ziz,func81→zu5,func82→zqL,isAgg84→zsa,prog→aK,underlying38→Y4,underlying84→zqK
open Go.Region renaming binds→Dz,ready→Hj,schedule→Sj,wanted→dF
open Go.Region.linearise renaming go→zd5
open Go.RowKit.Below renaming heap_setCell→eH,refl→eF
open Go.Value renaming bool→M5,int→Pq,slice→Sd
open Go.World renaming frozen?→Ri,setChan→J8,setRow→zfc,shape?→zcq,size_setCell→tD
open List renaming all_eq_true→tY,append_assoc→Hs,drop_of_length_le→zpA,findIdx?_eq_some_iff_getElem→zjv,getD_cons_succ→C9,getD_cons_zero→Dn,getD_eq_getElem?_getD→Lj,getElem?_append_left→Ab,getElem?_append_right→At,getElem?_drop→Zv,getElem?_eq_getElem→lX,getElem?_eq_none→Ca,getElem?_eq_some_iff→kD,getElem?_take→Zi,getElem_mem→zoF,idxOf?→zib,length_append→gN,length_drop→x3,length_take→rQ,map_append→Jl,map_cons→fO,map_drop→zn9,map_nil→tW,map_take→zrr,map_toArray→uI,mem_append→Ee,mem_cons→jJ,mem_filter→Jd,mem_of_getElem?→dZ,mem_of_mem_drop→zb2,mem_range→Bz,mem_singleton→sZ,not_mem_nil→lZ,range→gF,replicate→zos,setIfInBounds_toArray→gK,set_cons_succ→dV,set_cons_zero→dU,takeWhile_cons→zah,takeWhile_prefix→zuL,take_append_of_le_length→Ft,take_of_length_le→zB,take_take→Qg
open Nat renaming add_sub_cancel_left→zqe,add_zero→Ur,le_refl→aX,le_succ→Rt,le_trans→eG,lt_of_lt_of_le→lD,lt_or_ge→nC,lt_trichotomy→zwa,min→zat,min_eq_left→zoN,sub_self→Og,zero_add→qY,zero_le→jT
open Option renaming bind_some→vD,getD_none→zrV,getD_some→y4
open Option.some renaming inj→cE
noncomputable section
namespace Go
def kP{P:Prop}(h:P:=by rw[hz];decide):P:=h
def yC{P:Prop}(h:P:=by rw[lS.o];decide):P:=h
def I8{P:Prop}(h:P:=by intro s hs;cases hs;exact lZ):P:=h
def P8{P:Prop}(h:P:=by first|rfl|(simp only[wF];rfl)):P:=h
def zeq{P:Prop}(h:P:=by show _<=((Tt.tp w' T 0).alloc _).heap.size;rw[rE];exact Rt _):P:=h
def P3{P:Prop}(h:P:=by unfold aS;go_simp;try rfl):P:=h
def zr7{P:Prop}(h:P:=by have:(bF xs).length=xs.length*2:=Fi bJ.cells (s:=2) (λ_=>rfl) xs;omega):P:=h
def Y0{P:Prop}(h:P:=by rw[HF.o];decide):P:=h
def zyv{P:Prop}(h:P:=by intro s hs;cases hs;show(3:Nat)∉([0]:List Nat);decide):P:=h
def zwB{P:Prop}(h:P:=by rw[cG,show zat 1 (n+1-i)=1 from zoN (by omega)];rfl):P:=h
def zeL{P:Prop}(h:P:=by simp only[gN];omega):P:=h
def zxx{P:Prop}(h:P:=by have e:b=hb:=e;subst e;exact dZ (i:=0) rfl):P:=h
def zkS{P:Prop}(h:P:=by intro s hs;cases hs):P:=h
def znh{P:Prop}(h:P:=by have:=F8.o;omega):P:=h
end Go
namespace Go.Mt
open Go.Conc Go.Tt
open Go.ConcR (KK wgBlock WgAt stA smA rd wr)
section
variable {L:Type}{C:Cx L}{l l':L}
def Cx.upK (C:Cx L)(K':Pr)(I':Pr->cF->aE->Prop):Cx L:={C with K:=K',I:=I'}
variable {m:Fm}{w:aE}
theorem BO.note (ha:C.alone=none){can:L->Prop}(p8:C.A.act l=.note can)(hc:can l')(h:BO C l' m w):BO C l m w:=by
 intro R W m' τ hw hm ht hi;have:=h R W m' τ hw hm ht hi;rw[Cx.B_none ha] at this⊢;refine bZ.usr rfl ?_;unfold mF;rw[p8];exact⟨l',hc,this⟩
variable {S:aP->Prop}{R:Pr}{St:Nat->Prop}
theorem cV.alR {K:Pr}{G:Gp}{W:aE}(h:cV S K R G St w W)(o:Obj):cV S K R G St w (W.alloc o):=by
 refine⟨h.inj,h.inj',λa b x=>⟨(h.lt a b x).1,by rw[rE];exact Nat.lt_succ_of_lt (h.lt a b x).2⟩,h.low,⟨h.gle.1,by rw[rE];exact Nat.le_succ_of_le h.gle.2⟩,λa b x=>?_,h.rest,h.st,h.np,h.tb⟩;obtain⟨o1,o2,h1,h2,h3⟩:=h.cont a b x;exact⟨o1,o2,h1,(Fs (h.lt a b (.inl x)).2).trans h2,h3⟩
variable {c:Nat}
theorem cV.setC {K:Pr}{G:Gp}{W:aE}(h:cV S K R G St w W)(hc:∀a,¬R a c)(cap:Nat)(Lx:Array aF)(cl:Bool)(s r:Nat)(tm:Bool):cV S K R G St w (W.setChan c cap Lx cl s r tm):=by
 have cG:(W.setChan c cap Lx cl s r tm).heap.size=W.heap.size:=by simp[J8]
 refine⟨h.inj,h.inj',λa b x=>⟨(h.lt a b x).1,by rw[cG];exact(h.lt a b x).2⟩,h.low,⟨h.gle.1,by rw[cG];exact h.gle.2⟩,λa b x=>?_,h.rest,h.st,h.np,h.tb⟩;obtain⟨o1,o2,h1,h2,h3⟩:=h.cont a b x;refine⟨o1,o2,h1,?_,h3⟩;have aT:c≠b:=λe=>hc a (e▸x);simp only[J8,jV aT];exact h2
def FmW.upK {m':Fm}(h:FmW C R m m'){K':Pr}(hK:C.K.le K')(I':Pr->cF->aE->Prop):FmW (C.upK K' I') R m m':=⟨h.fn,h.todo,h.ret,bK.monoK hK h.tmps,h.pins⟩
variable {fn:aP}{tmps:Array aF}{ops:Array aZ}{i:Nat}{rest:List Nat}{k:List eE}{o:aZ}{e:aM}{dir:Nu}{ie:wW}{I':Nat->Pr->cF->aE->Prop}
theorem BO.makeK (hI:fG C){t:aM}(ho:ops[i]? =some o)(cD:dF o (dR ops tmps)=true)
 (hop:o.op=.makeChan t (.const (.int .i64 0))) (ze2:C.p.underlying t=some (.chan dir e)) (jY:C.p.info? e=some ie) (lH:∀s,o.dst=some s->s∉C.S) 
 (zkF:∀R τ W,C.I R τ W->vF τ R C.St->(∀a b,R a b->b<W.heap.size)->I' W.heap.size R (τ.grow W (W.alloc (.chan 0 #[] false 0 0 false))) (W.alloc (.chan 0 #[] false 0 0 false)))
 (h:∀c,BO (C.upK (C.K.add w.heap.size c) (I' c)) l ⟨fn,(cC ⟨tmps,[]⟩ o.dst (.chan (some w.heap.size))).tmps,.inRegion ops rest::k,false⟩ (w.alloc oY)):BO C l ⟨fn,tmps,.inRegion ops (i::rest)::k,false⟩ w:=by
 intro R W m' τ hw hm ht hi;obtain⟨fn',bQ,yQ,y3⟩:=m';obtain rfl:=hm.fn;obtain rfl:=hm.todo;obtain rfl:=hm.ret;have hb:(C.ds.base fn).kind≠ .early:=C.ds.ok;have uD:=Hu (C:=C) hm.tmps cD;rw[mG];refine Cx.ownQ rfl λaV s=>?_;have dJ:C.Rel R w aV:=Cx.Rel.suf (C:=C) hw ht s;have yI:=hI.suf _ _ _ _ hi s;have e1:(aS (bH bQ C.ds.ds).eval o).run C.p aV=.ok (.value (.chan (some aV.heap.size))) (aV.alloc (.chan 0 #[] false 0 0 false))/\(aS (bH bQ C.ds.ds).eval o).events C.p aV #[]=#[]:=by
  obtain⟨dst,yJ,type,pos,after,guard⟩:=o;simp only at hop;subst hop;have hm:(Instr.makeChan t (.int .i64 0)).run C.p aV=_:=run_makeChan (P:=C.p) (w:=aV) ze2 jY .i64 0 aC aC;have hv:=events_makeChan (P:=C.p) (w:=aV) ze2 jY .i64 0 aC aC #[];exact⟨run_bv hm,ev_bv hm hv⟩
 have aY:=zjh (main:=C.main) (rest:=rest) (k:=k) (cs:=C.base) ho uD hb e1.1;unfold wJ at aY;rw[e1.2,Ct] at aY;refine⟨_,aV.alloc (.chan 0 #[] false 0 0 false),_,aY,rfl,⟨rfl,rfl,rfl,by rw[rE];omega,λb hb _=>Fs hb⟩,λe he=>by simp at he,?_⟩;have Fw:cC ⟨bQ,C.ds.ds⟩ o.dst (.chan (some aV.heap.size))=⟨(cC ⟨bQ,C.ds.ds⟩ o.dst (.chan (some aV.heap.size))).tmps,C.ds.ds⟩:=by cases o.dst<;>rfl
 rw[Fw,<-mG];have aN:∀a b,R.or C.K a b->b<aV.heap.size:=λa b x=>(dJ.lt a b x).2;have fZ:cV (SF C.fs) (C.K.add w.heap.size aV.heap.size) R (o6 C.p) C.St (w.alloc oY) (aV.alloc (.chan 0 #[] false 0 0 false)):=cV.pushK (cV.alR dJ _) (by rw[rE];omega) λa x=>by have:=aN a _ x;omega
 refine h aV.heap.size R _ ⟨fn,_,_,false⟩ _ fZ ⟨rfl,rfl,rfl,Jf (C:=C.upK _ (I' aV.heap.size)) (bK.monoK (Pr.le_add _ _ _) hm.tmps) (.chan (.some (.inr (.inr ⟨rfl,rfl⟩)))),Jn (C:=C) hm.pins lH⟩ (λa b x=>⟨(ht a b x).1,λz=>.inl ((ht a b x).2 z)⟩) (zkF R τ aV yI ht λa b x=>aN a b (.inl x))
def cF.cut (τ:cF)(ps:List Nat):cF:={τ with own:=λb=>τ.own b/\b∉ps}
variable {I':Pr->cF->aE->Prop}{x:cM}{g:Nat}{okv:aF->Prop}{pub:aF->List Nat}
theorem BO.sendP (ha:C.alone=none)(hI:fG C){y:cM}{nx:aF->L}{ps:List Nat}
 (ho:ops[i]? =some o) (cD:dF o (dR ops tmps)=true) (hop:o.op=.send x y)
 (sC:dQ C.fs x=true) (hx:(bH tmps []).eval x=.chan (some g)) (hK:C.K g c) (Dr:dQ C.fs y=true) (lH:∀s,o.dst=some s->s∉C.S) (p8:C.A.act l=.send c okv pub nx)
 (hv:∀R W v',C.Rel R w W->VR (SF C.fs) C.K R ((bH tmps []).eval y) v'->okv v'/\pub v'=ps/\nx v'=l') 
 (o5:∀R τ W,C.I R τ W->(∀a∈ps,τ.own a/\¬τ.still a/\Ij W a/\∀b,¬R b a)/\I' R (τ.cut ps) W)
 (h1:BO (C.upK C.K I') l' ⟨fn,(cC ⟨tmps,[]⟩ o.dst aA).tmps,.inRegion ops rest::k,false⟩ w):BO C l ⟨fn,tmps,.inRegion ops (i::rest)::k,false⟩ w:=by
 intro R W m' τ hw hm ht hi;obtain⟨fn',bQ,yQ,y3⟩:=m';obtain rfl:=hm.fn;obtain rfl:=hm.todo;obtain rfl:=hm.ret;have lK:(bH bQ C.ds.ds).eval x=.chan (some c):=Vh hw hK (hx▸Hq (C:=C) hm.tmps sC);have uD:=Hu (C:=C) hm.tmps cD;have hb:(C.ds.base fn).kind≠ .early:=C.ds.ok;obtain⟨k1,k2,k3⟩:=hv R W _ hw (Hq (C:=C) (d:=C.ds.ds) hm.tmps Dr);obtain⟨p1,p2⟩:=o5 R τ W hi;rw[mG,Cx.B_none ha];refine bZ.usr rfl ?_;unfold mF;rw[p8];refine⟨rfl,_,.tuple #[],τ.cut ps,λaI s=>?_,k1,λb h=>h.1,rfl,λb h=>.inl h,(λa ha=>?_),?_⟩
 .obtain⟨e1,e2⟩:=zol (p:=C.p) (ρ:=(bH bQ C.ds.ds).eval) hop lK rfl aI
  rw[stepG_comm ho uD hb e1];unfold wJ;rw[e2,Ct]
 .rw[k2] at ha
  obtain⟨q1,q2,q3,_⟩:=p1 a ha;exact⟨q1,λe=>e.2 ha,q2,q3⟩
 .rw[k3,zbe ho]
  rw[<-Cx.B_none ha];refine h1 R W _ (τ.cut ps) hw ⟨rfl,rfl,rfl,Jf (C:=C) hm.tmps xN,Jn (C:=C) hm.pins lH⟩ (λa b x=>⟨(ht a b x).1,λz=>⟨(ht a b x).2 z,λhb=>(p1 b hb).2.2.2 a x⟩⟩) p2
theorem BO.recvK (ha:C.alone=none)(hI:fG C){ct:aM}{ok:Bool}{z:aF}{nx:aF->L}{sh:L}
 (ho:ops[i]? =some o) (cD:dF o (dR ops tmps)=true) (hop:o.op=.recv ct x ok) (D6:C.p.underlying ct=some (.chan dir e)) (jY:C.p.info? e=some ie) (hz:ie.zero=some z) (ziu:∀R,VR (SF C.fs) C.K R z z)
 (sC:dQ C.fs x=true) (hx:(bH tmps []).eval x=.chan (some g)) (hK:C.K g c) (lH:∀s,o.dst=some s->s∉C.S) (p8:C.A.act l=.recv c okv nx sh)
 (h1:∀v,okv v->∃a,a∈C.A.got l v/\∀K' ga w',C.K.le K'->K' ga a->(w'=w\/w'=w.alloc oY)->∃vg,(∀R,VR (SF C.fs) K' R vg v)/\BO (C.upK K' C.I) (nx v) ⟨fn,(cC ⟨tmps,[]⟩ o.dst (recvd ok vg true)).tmps,.inRegion ops rest::k,false⟩ w')
 (h2:C.A.cl l->BO C sh ⟨fn,(cC ⟨tmps,[]⟩ o.dst (recvd ok z false)).tmps,.inRegion ops rest::k,false⟩ w):BO C l ⟨fn,tmps,.inRegion ops (i::rest)::k,false⟩ w:=by
 intro R W m' τ hw hm ht hi;obtain⟨fn',bQ,yQ,y3⟩:=m';obtain rfl:=hm.fn;obtain rfl:=hm.todo;obtain rfl:=hm.ret;have lK:(bH bQ C.ds.ds).eval x=.chan (some c):=Vh hw hK (hx▸Hq (C:=C) hm.tmps sC);have uD:=Hu (C:=C) hm.tmps cD;have hb:(C.ds.base fn).kind≠ .early:=C.ds.ok;have za0:∀K' vg v' b,VR (SF C.fs) K' R vg v'->VR (SF C.fs) K' R (recvd ok vg b) (recvd ok v' b):=λK' vg v' b h=>by
  unfold recvd
  cases ok with
  |false=>exact h
  |true=>
   simp only[if_true];exact VR.tuple' (by
    have:=bK.empty (S:=SF C.fs) (K:=K') (R:=R);exact(this.push h).push (.bool b))
 rw[mG,Cx.B_none ha];refine bZ.usr rfl ?_;unfold mF;rw[p8];refine⟨rfl,z,ok,λaI s=>?_,λv hv aI s hg=>?_,λmK=>?_⟩
 .obtain⟨e1,e2⟩:=zoL (p:=C.p) (ρ:=(bH bQ C.ds.ds).eval) hop D6 jY hz lK aI
  rw[stepG_comm ho uD hb e1];unfold wJ;rw[e2,Ct]
 .obtain⟨a,zEg,hB⟩:=h1 v hv
  obtain⟨a1,a2,a3⟩:=hg a zEg;have dJ:C.Rel R w aI:=Cx.Rel.suf (C:=C) hw ht s;have yI:=hI.suf _ _ _ _ hi s;have go:∀K' ga w',C.K.le K'->K' ga a->(w'=w\/w'=w.alloc oY)->cV (SF C.fs) K' R (o6 C.p) C.St w' aI->bZ C.p C.ty C.Wg C.A C.Fin C.main (.usr (nx v)) 0 τ (Conc.served (G ((C.ds.base fn).at ⟨bQ,C.ds.ds⟩ (.inRegion ops (i::rest)::k)) C.base) (recvd ok v true)) aI:=λK' ga w' hle zbp jH hr=>by
   obtain⟨vg,znm,zC2⟩:=hB K' ga w' hle zbp jH;rw[zbe ho,<-Cx.B_none ha];exact zC2 R aI _ τ hr ⟨rfl,rfl,rfl,Jf (C:=C.upK K' C.I) (bK.monoK hle hm.tmps) (za0 K' _ _ _ (znm R)),Jn (C:=C) hm.pins lH⟩ ht yI
  have hR:∀b,¬R b a:=λb x=>by
   by_cases hs:C.St b
   .exact a3 ((ht b a x).1 hs)
   .exact a2 ((ht b a x).2 hs)
  by_cases hk:∃b,C.K b a
  .obtain⟨b,b6⟩:=hk
   exact go C.K b w (λ_ _ x=>x) b6 (.inl rfl) dJ
  .exact go (C.K.add w.heap.size a) w.heap.size (w.alloc oY) (Pr.le_add _ _ _) (.inr ⟨rfl,rfl⟩) (.inr rfl) (cV.pushK dJ a1 λb x=>x.elim (hR b) λy=>hk ⟨b,y⟩)
 .rw[zbe ho,<-Cx.B_none ha]
  exact h2 mK R W _ τ hw ⟨rfl,rfl,rfl,Jf (C:=C) hm.tmps (za0 _ _ _ _ (ziu R)),Jn (C:=C) hm.pins lH⟩ ht hi
theorem BO.close (ha:C.alone=none)(hI:fG C){tx:Tmp}{kH:Array aM}{nx:L}{fnf:Func}
 (ho:ops[i]? =some o) (cD:dF o (dR ops tmps)=true) (hop:o.op=.call {callee:=.builtin .close,args:=#[.tmp tx],argTypes:=kH}) (hx:(bH tmps []).eval (.tmp tx)=.chan (some g)) (hK:C.K g c) (lH:∀s,o.dst=some s->s∉C.S) (p8:C.A.act l=.close c nx)
 (hf:C.p.funcs[fn]? =some fnf) (Bv:fnf.norace=false)
 (hp:∀R τ W,C.I R τ W->τ.pass c/\¬τ.own c/\¬τ.still c/\∀s r,C.I R τ (W.setChan c 0 #[] true s r false))
 (h1:BO C nx ⟨fn,(cC ⟨tmps,[]⟩ o.dst (.tuple #[])).tmps,.inRegion ops rest::k,false⟩ w):BO C l ⟨fn,tmps,.inRegion ops (i::rest)::k,false⟩ w:=by
 intro R W m' τ hw hm ht hi;obtain⟨fn',bQ,yQ,y3⟩:=m';obtain rfl:=hm.fn;obtain rfl:=hm.todo;obtain rfl:=hm.ret;have lK:(bH bQ C.ds.ds).eval (.tmp tx)=.chan (some c):=Vh hw hK (hx▸Hq (C:=C) (x:=.tmp tx) hm.tmps rfl);have Ak:bQ[tx]?.getD aA=.chan (some c):=by simpa[wF] using lK
 have uD:=Hu (C:=C) hm.tmps cD;have hb:(C.ds.base fn).kind≠ .early:=C.ds.ok;obtain⟨p1,p2,p3,_⟩:=hp R τ W hi;rw[mG,Cx.B_none ha];refine bZ.usr rfl ?_;unfold mF;rw[p8];refine⟨?_,p1,λaI s s' r' hc=>?_⟩
 .obtain⟨dst,yJ,type,pos,after,guard⟩:=o
  simp only at hop;subst hop;simp[mayWake,G,dK.at,bC.frame,ho,Dk.base]
 .have e1:(aS (bH bQ C.ds.ds).eval o).run C.p aI=.ok (.value (.tuple #[])) (aI.setChan c 0 #[] true s' r' false)/\(aS (bH bQ C.ds.ds).eval o).events C.p aI #[]=closeEvents c:=by
   obtain⟨dst,yJ,type,pos,after,guard⟩:=o;simp only at hop;subst hop;constructor
   .simp[aS,go_sem,resolve,Ak,invoke,run_close_open _ _ hc,J8]
   .simp[aS,go_sem,resolve,Ak,invoke,events_close_open _ _ hc,closeEvents]
  have aY:=zjh (main:=C.main) (rest:=rest) (k:=k) (cs:=C.base) ho uD hb e1.1;have hl:wJ C.p (C.ds.base fn).fn ⟨bQ,C.ds.ds⟩ o aI=closeEvents c:=by
   unfold wJ;rw[e1.2];refine seen_eq ?_ ?_
   .show(C.p.funcs[fn]?).any (·.norace)=false
    rw[hf];simp[Bv]
   .intro e he f
    simp only[closeEvents,List.mem_toArray,jJ,lZ,or_false] at he;rcases he with rfl|rfl<;>simp
  rw[hl] at aY;refine⟨_,aY,rfl,?_⟩;have dJ:C.Rel R w aI:=Cx.Rel.suf (C:=C) hw ht s;have yI:=hI.suf _ _ _ _ hi s;have hR:∀b,¬R b c:=λb x=>by
   by_cases hs:C.St b
   .exact p3 ((ht b c x).1 hs)
   .exact p2 ((ht b c x).2 hs)
  have Fw:cC ⟨bQ,C.ds.ds⟩ o.dst (.tuple #[])=⟨(cC ⟨bQ,C.ds.ds⟩ o.dst (.tuple #[])).tmps,C.ds.ds⟩:=by cases o.dst<;>rfl
  rw[Fw,<-mG,<-Cx.B_none ha];exact h1 R _ ⟨fn,_,_,false⟩ τ (cV.setC dJ hR _ _ _ _ _ _) ⟨rfl,rfl,rfl,Jf (C:=C) hm.tmps (VR.tuple' .empty),Jn (C:=C) hm.pins lH⟩ ht ((hp R τ aI yI).2.2.2 s' r')
end
end Go.Mt
namespace Go.Mt
open Go.Conc Go.Tt Go.RowKit Go.Conc.Lib Go.ConcR.Gen
open Go.ConcR (KK wgBlock WgAt stA smA rd wr mk Payload DC0)
structure IQ (W0:aE)(St:Nat->Prop)(Shun:Loc->Prop)(Wg:Nat)(SS:Nat->Prop)(R0:Pr)(Fz:Nat->Prop)(Wf:aE)(qs chs:List Nat)(R:Pr)(τ:cF)(W:aE):Prop where
 x:IM2 W0 St Shun Wg SS R0 Fz Wf chs R τ W
 pass:∀c∈qs,τ.pass c/\¬τ.own c/\¬τ.still c/\c<W.heap.size/\c≠Wg
section
variable {W0:aE}{St:Nat->Prop}{Shun:Loc->Prop}{Wg:Nat}{SS:Nat->Prop}{R0:Pr}{Fz:Nat->Prop}{Wf:aE}{qs chs:List Nat}
theorem zfk {ty:aM}(vM:∀b,b<W0.heap.size->SS b)(hF:∀b,Fz b->SS b)(nI:W0.heap.size<=Wg):IX ty Wg (IQ W0 St Shun Wg SS R0 Fz Wf qs chs):=by
 have hx:=zx6 (ty:=ty) (St:=St) (Shun:=Shun) (Wg:=Wg) (R0:=R0) (Wf:=Wf) (chs:=chs) (Fz:=Fz) vM hF nI;refine⟨λR τ W aV h s=>⟨hx.suf _ _ _ _ h.x s,λc hc=>?_⟩,λR τ W a v h ha=>⟨hx.cell _ _ _ _ _ h.x ha,λc hc=>?_⟩,λR τ W d h=>⟨hx.at_ _ _ _ d h.x,h.pass⟩,λR τ W h=>h.x.x.im.rel⟩
 .obtain⟨h1,h2,h3,h4,h5⟩:=h.pass c hc
  exact⟨h1,h2,h3,lD h4 s.size,h5⟩
 .obtain⟨h1,h2,h3,h4,h5⟩:=h.pass c hc
  exact⟨h1,h2,h3,by rw[Jo];exact h4,h5⟩
variable {L:Type}{C:Cx L}
theorem zjE (hC:C.I=yZ C.ty C.Wg (IQ W0 St Shun C.Wg SS R0 Fz Wf qs chs))(aY:∀a,St a->C.St a)(vM:∀b,b<W0.heap.size->SS b)(hF:∀b,Fz b->SS b)(nI:W0.heap.size<=C.Wg):fG C:=by
 have h0:=im2_ok (C:={C with I:=yZ C.ty C.Wg (IM2 W0 St Shun C.Wg SS R0 Fz Wf chs)}) rfl aY vM hF nI;have hx:=zfk (ty:=C.ty) (St:=St) (Shun:=Shun) (R0:=R0) (Fz:=Fz) (Wf:=Wf) (qs:=qs) (chs:=chs) vM hF nI;refine⟨λR τ W aV h s=>?_,λR τ W R1 W1 h ht hs=>?_⟩<;>rw[hC] at*
 .exact⟨hx.suf _ _ _ _ h.1 s,s.live h.2⟩
 .obtain⟨k1,k2⟩:=h0.step R τ W R1 W1 ⟨h.1.x,h.2⟩ ht hs
  refine⟨⟨k1,λc hc=>?_⟩,k2⟩;obtain⟨h1,h2,h3,h4,h5⟩:=h.1.pass c hc;exact⟨h1,λe=>e.elim h2 λy=>by omega,h3,lD h4 hs.size,h5⟩
variable {R:Pr}{τ:cF}{W:aE}
theorem zse (h:IQ W0 St Shun Wg SS R0 Fz Wf qs chs R τ W)(aN:∀a b,R a b->b<W.heap.size):
 IQ W0 St Shun Wg SS R0 Fz Wf qs (W.heap.size::chs) R (τ.grow W (W.alloc (.chan 0 #[] false 0 0 false))) (W.alloc (.chan 0 #[] false 0 0 false)):=by
 have sz:(W.alloc (.chan 0 #[] false 0 0 false)).heap.size=W.heap.size+1:=rE _ _;have zz6:=h.x.x.im.wg;refine⟨⟨⟨⟨⟨h.x.x.im.kp.os,h.x.x.im.kp.tape,h.x.x.im.kp.output,by rw[sz];have:=h.x.x.im.kp.size;omega,λb hb=>(Fs (by have:=h.x.x.im.kp.size;omega)).trans (h.x.x.im.kp.block b hb),h.x.x.im.kp.old⟩,⟨h.x.x.im.sh.old,h.x.x.im.sh.rel,λl b hl hb=>h.x.x.im.sh.new l b hl (by rw[sz] at hb;omega)⟩,h.x.x.im.still,by rw[sz];omega,λb hb=>?_,h.x.x.im.rel⟩,h.x.x.le,λb hb=>by
  obtain⟨l1,l2,l3,l4⟩:=h.x.x.fz b hb;exact⟨by rw[sz];omega,(Fs l1).trans l2,λe=>e.elim l3 λy=>by omega,l4⟩⟩,λb hb hs=>?_,λb hb=>by have:=h.x.slt b hb;rw[sz];omega,λc hc=>?_⟩,λc hc=>?_⟩
 .rcases hb with hb|⟨hb,_⟩
  .exact h.x.x.im.own b hb
  .omega
 .rcases hb with hb|⟨hb,_⟩
  .exact h.x.dis b hb hs
  .have:=h.x.slt b hs;omega
 .rcases jJ.1 hc with rfl|hc
  .exact⟨.inr ⟨aX _,by rw[sz];omega⟩,Ex _ _,λa x=>by have:=aN a _ x;omega⟩
  .obtain⟨h1,h2,h3⟩:=h.x.ch c hc
   exact⟨.inl h1,(Fs h2.lt).trans h2,h3⟩
 .obtain⟨h1,h2,h3,h4,h5⟩:=h.pass c hc
  exact⟨h1,λe=>e.elim h2 λy=>by omega,h3,by rw[sz];omega,h5⟩
theorem iq_cut {c:Nat}(h:IQ W0 St Shun Wg SS R0 Fz Wf qs [c] R τ W):(∀a∈[c],τ.own a/\¬τ.still a/\Ij W a/\∀b,¬R b a)/\IQ W0 St Shun Wg SS R0 Fz Wf qs [] R (τ.cut [c]) W:=by
 refine⟨λa ha=>?_,⟨⟨⟨⟨h.x.x.im.kp,h.x.x.im.sh,h.x.x.im.still,h.x.x.im.wg,λb hb=>h.x.x.im.own b hb.1,h.x.x.im.rel⟩,h.x.x.le,λb hb=>let⟨l1,l2,l3,l4⟩:=h.x.x.fz b hb;⟨l1,l2,λe=>l3 e.1,l4⟩⟩,λb hb hs=>h.x.dis b hb.1 hs,h.x.slt,λc hc=>by cases hc⟩,λc hc=>?_⟩⟩
 .obtain⟨h1,h2,h3⟩:=h.x.ch a ha
  exact⟨h1,λhs=>h.x.dis a h1 hs,h2,h3⟩
 .obtain⟨h1,h2,h3⟩:=h.pass c hc
  exact⟨h1,λe=>h2 e.1,h3⟩
theorem zzn (h:IQ W0 St Shun Wg SS R0 Fz Wf qs chs R τ W){c:Nat}(hc:c∈qs)(s r:Nat)(aY:∀b,b<W0.heap.size->SS b)(hF:∀b,Fz b->SS b):IQ W0 St Shun Wg SS R0 Fz Wf qs chs R τ (W.setChan c 0 #[] true s r false):=by
 have sz:(W.setChan c 0 #[] true s r false).heap.size=W.heap.size:=by simp[J8]
 have ne:∀b,b≠c->(W.setChan c 0 #[] true s r false).heap[b]? =W.heap[b]? :=λb hb=>by simp only[J8];rw[jV (Ne.symm hb)]
 obtain⟨p1,p2,p3,p4,p5⟩:=h.pass c hc;refine⟨⟨⟨⟨⟨h.x.x.im.kp.os,h.x.x.im.kp.tape,h.x.x.im.kp.output,by rw[sz];exact h.x.x.im.kp.size,λb hb=>(ne b λe=>?_).trans (h.x.x.im.kp.block b hb),h.x.x.im.kp.old⟩,⟨h.x.x.im.sh.old,h.x.x.im.sh.rel,λl b hl hb=>h.x.x.im.sh.new l b hl (by rw[sz] at hb;exact hb)⟩,h.x.x.im.still,by rw[sz];exact h.x.x.im.wg,h.x.x.im.own,h.x.x.im.rel⟩,h.x.x.le,λb hb=>by
  obtain⟨l1,l2,l3,l4⟩:=h.x.x.fz b hb;refine⟨by rw[sz];exact l1,(ne b λe=>?_).trans l2,l3,l4⟩;subst e;exact p3 (by rw[h.x.x.im.still];exact hF b hb)⟩,h.x.dis,λb hb=>by rw[sz];exact h.x.slt b hb,λa ha=>?_⟩,λa ha=>by rw[sz];exact h.pass a ha⟩
 .subst e
  exact p3 (by rw[h.x.x.im.still];exact aY b hb)
 .obtain⟨h1,h2,h3⟩:=h.x.ch a ha
  exact⟨h1,(ne a λe=>p2 (e▸h1)).trans h2,h3⟩
def Ll (τ:cF)(R:Pr)(X:Nat->Bool)(N:Nat)(qs:List Nat):cF:=⟨λb=>τ.own b/\b≠N/\¬∃a,R a b/\X a=true,λb=>τ.still b\/∃a,R a b/\X a=true,λb=>b∈qs++[N]⟩
def Ze (τ:cF)(R:Pr)(X:Nat->Bool):cF:=⟨λ_=>False,λb=>τ.still b\/∃a,R a b/\X a=true,λ_=>False⟩
variable {S:aP->Prop}{K:Pr}{G:Gp}{eO:Nat->Prop}{w:aE}{X:Nat->Bool}{N:Nat}
theorem parts_q (hT:vF τ R eO)(h:IQ W0 St Shun Wg SS R0 Fz Wf qs [N] R τ W):zi8 τ (Ll τ R X N qs) (Ze τ R X) [N] W:=by
 have hx:∀b,(∃a,R a b/\X a=true)->τ.still b\/τ.own b:=λb ⟨a,h,_⟩=>by
  by_cases hs:eO a
  .exact .inl ((hT a b h).1 hs)
  .exact .inr ((hT a b h).2 hs)
 obtain⟨n1,n2,n3⟩:=h.x.ch N (sZ.2 rfl);refine⟨λb hb=>?_,λb hb=>?_,λb hb=>?_,λb hb=>⟨id,?_,id⟩,λb hb=>hb.elim,λa ha=>?_⟩
 .rcases hb with hb|hb
  .exact hb.1
  .exact hb.elim
 .rcases hb with(hb|hb)|hb|hb
  .exact .inl hb
  .exact hx b hb
  .exact .inl hb
  .exact hx b hb
 .rcases hb with hb|hb
  .rcases Ee.1 hb with hb|hb
   .exact .inl (h.pass b hb).1
   .obtain rfl:=sZ.1 hb
    exact .inr (.inl n1)
  .exact hb.elim
 .rintro(hs|hs)
  .exact h.x.dis b hb.1 hs
  .exact hb.2.2 hs
 .obtain rfl:=sZ.1 ha
  refine⟨n1,n2,λh=>h.2.1 rfl,?_,id,?_⟩
  .rintro(hs|⟨g,hg,_⟩)
   .exact h.x.dis a n1 hs
   .exact n3 g hg
  .rintro(hs|⟨g,hg,_⟩)
   .exact h.x.dis a n1 hs
   .exact n3 g hg
theorem zEc (hw:cV S K R G eO w W)(hT:vF τ R eO)(hN:∀a,¬R a N):vF (Ll τ R X N qs) R (λa=>eO a\/X a=true):=λa b x=>by
 refine⟨λh=>?_,λh=>?_⟩
 .rcases h with h|h
  .exact .inl ((hT a b x).1 h)
  .exact .inr ⟨a,x,h⟩
 .refine⟨(hT a b x).2 λhs=>h (.inl hs),λe=>hN a (e▸x),?_⟩
  rintro⟨a',x',h'⟩;obtain rfl:=hw.inj' a a' b (.inl x) (.inl x');exact h (.inr h')
def zE9:vF (Ze τ R X) (rX R X) (λa=>X a=true):=λa b x=>⟨λh=>.inr ⟨a,x.1,x.2⟩,λh=>absurd x.2 h⟩
theorem iq_qm (hw:cV S K R G eO w W)(hT:vF τ R eO)(h:IQ W0 St Shun Wg SS R0 Fz Wf qs [N] R τ W):IQ W0 St Shun Wg (Ll τ R X N qs).still R (Gc R eO X) W (qs++[N]) [] R (Ll τ R X N qs) W:=by
 obtain⟨n1,n2,n3⟩:=h.x.ch N (sZ.2 rfl);have hx:∀b,(∃a,R a b/\X a=true)->∀c∈qs,b≠c:=λb ⟨a,h',_⟩ c hc e=>by
  subst e;obtain⟨_,p2,p3,_⟩:=h.pass b hc;by_cases hs:eO a
  .exact p3 ((hT a b h').1 hs)
  .exact p2 ((hT a b h').2 hs)
 refine⟨⟨⟨⟨h.x.x.im.kp,h.x.x.im.sh,rfl,h.x.x.im.wg,λb hb=>h.x.x.im.own b hb.1,h.x.x.im.rel⟩,.refl R,λb hb=>by
  obtain⟨a,x,hh⟩:=hb;refine⟨(hw.lt a b (.inl x)).2,rfl,λho=>?_,h.x.x.im.rel a b x⟩;rcases hh with hh|hh
  .exact h.x.dis b ho.1 ((hT a b x).1 hh)
  .exact ho.2.2 ⟨a,x,hh⟩⟩,λb hb hs=>?_,λb hb=>?_,λc hc=>by cases hc⟩,λc hc=>?_⟩
 .rcases hs with hs|hs
  .exact h.x.dis b hb.1 hs
  .exact hb.2.2 hs
 .rcases hb with hb|⟨a,x,_⟩
  .exact h.x.slt b hb
  .exact(hw.lt a b (.inl x)).2
 .refine⟨hc,?_⟩
  rcases Ee.1 hc with kI|kI
  .obtain⟨_,p2,p3,p4,p5⟩:=h.pass c kI
   exact⟨λe=>p2 e.1,λe=>e.elim p3 λy=>hx c y c kI rfl,p4,p5⟩
  .obtain rfl:=sZ.1 kI
   refine⟨λe=>e.2.1 rfl,?_,n2.lt,h.x.x.im.own c n1⟩;rintro(hs|⟨g,hg,_⟩)
   .exact h.x.dis c n1 hs
   .exact n3 g hg
def tauWm (τ:cF):cF:=⟨λ_=>False,τ.still,λ_=>False⟩
theorem parts_w (h:IQ W0 St Shun Wg SS R0 Fz Wf qs [] R τ W):zi8 τ (tauWm τ) τ [] W:=
 ⟨λb hb=>hb.elim (λx=>x.elim) id,λb hb=>.inl (hb.elim id id),λb hb=>hb.elim (λx=>x.elim) .inl,λb hb=>hb.elim,λb hb=>⟨λhs=>h.x.dis b hb hs,id⟩,λa ha=>by cases ha⟩
end
section
variable [Payload]{Lk:WgLink}
variable {L:Type}{C:Cx L}{l:L}{I0:Pr->cF->aE->Prop}
theorem BO.doneD (H:WgLib C.p Lk)(ha:C.alone=none)(zfo:C.main=false)(By:C.ty=Lk.tWg)(ze1:C.I=yZ Lk.tWg C.Wg I0)(hX:IX Lk.tWg C.Wg I0)(zzC:C.ds=⟨[dcall Lk.done #[.pointer (some ⟨C.Wg,0,none⟩)]],.deferred,aO⟩)(rT:C.base=[wI C.p])
 {f:aP} {fn:Func} (hf:C.p.funcs[f]? =some fn) (hr:fn.results=#[]) (p8:C.A.act l=.done) {T:Array aF} {todo:List eE} {w:aE} (tV:∀R τ W,C.Rel R w W->I0 R τ W->C.A.dep l W):BO C l ⟨f,T,todo,true⟩ w:=by
 intro R W m' τ hw hm ht hi;obtain⟨fn',T',yQ,y3⟩:=m';obtain rfl:=hm.fn;obtain rfl:=hm.todo;obtain rfl:=hm.ret;rw[ze1] at hi;have kf:=zq3 (C:=C) (w:=w) By hX ht;rw[znj,Cx.B_none ha,zfo,By,zzC,rT];refine M3 rfl rfl (λaV s=>stepG_unwind_enter rfl H.f_done (nm_done Lk) rfl) λaV s=>?_;exact doneW (F:=λW=>C.Rel R w W/\I0 R τ W) (Fin:=C.Fin) H p8 kf (λW' h=>tV R τ W' h.1 h.2) (c:={(baseD f).at ⟨T',[]⟩ todo with mode:=.returning}) (cs:=[wI C.p]) rfl (zB7 hf hr T' todo) aV ⟨kf.suf _ _ s ⟨hw,hi.1⟩,s.live hi.2⟩
end
variable [Payload]{Lk:WgLink}
section
variable {L:Type}{p:bS}{A:jU L}{Fin:bC->aE->Prop}{Wg:Nat}{l:L}
theorem zza (H:WgLib p Lk)(p8:A.act l=.wait)(N8:∀(n:Nat) g w,Goes p true AtRel DC0 Fin n g w->Fin g w){fn:aP}{T:Array aF}{zyM ops:Array aZ}{id s:Nat}{o:aZ}{kH:Array aM}{tail:Code}{base:List dK}{τ:cF}{W:aE}
 (zhB:ops=#[o]) (hg:o.guard=none) (hop:o.op=.call ⟨.value (.func Lk.wait),#[.tmp s],kH⟩) (hs:T.getD s aA=.pointer (some ⟨Wg,0,none⟩)) (mU:WgLive Lk.tWg Wg W)
 (h:∀Wn d,Z8 A Wn->Fin (G ((Dk.nil.base fn).at ⟨(cC ⟨T,[]⟩ o.dst (.tuple #[])).tmps,[]⟩ [.inRegion ops [],.code tail]) base) (Wn.at d)):
 bZ p Lk.tWg Wg A Fin true (.usr l) 0 τ (G ((Dk.nil.base fn).at ⟨T,[]⟩ (.inRegion zyM []::[.code (.seq (.region id ops false) tail)])) base) W:=by
 subst zhB;have ho:(#[o]:Array aZ)[0]? =some o:=rfl;have cD:dF o (dR #[o] T)=true:=by unfold dF;rw[hg]
 have hb:=Dk.nil.ok;have Fw:∀v,cC ⟨T,[]⟩ o.dst v=⟨(cC ⟨T,[]⟩ o.dst v).tmps,[]⟩:=λv=>by cases o.dst<;>rfl
 have hr:gF (#[o]:Array aZ).size=[0]:=rfl;refine M3 rfl rfl (λaV s1=>stepG_region_end) λW1 s1=>?_;refine M3 rfl rfl (λaV s1=>stepG_seq) λW2 s2=>?_;refine M3 rfl rfl (λaV s1=>stepG_region) λW3 s3=>?_;rw[hr];refine M3 rfl rfl (g':=G ((Conc.base Lk.wait).at ⟨#[.pointer (some ⟨Wg,0,none⟩),aA,aA,aA,aA,aA,aA,aA,aA,aA,aA,aA,aA,aA,aA,aA,aA,aA,aA,aA,aA,aA,aA,aA,aA,aA,aA,aA,aA,aA,aA,aA,aA,aA,aA,aA,aA,aA,aA,aA,aA,aA,aA,aA,aA,aA,aA,aA,aA,aA,aA,aA,aA,aA,aA,aA,aA,aA,aA,aA,aA,aA,aA,aA,aA,aA,aA,aA,aA,aA,aA,aA,aA,aA,aA,aA,aA,aA,aA,aA,aA,aA,aA,aA],[]⟩ [.code (body_wait Lk)]) ((Dk.nil.base fn).at ⟨T,[]⟩ (.inRegion #[o] [0]::[.code tail])::base)) (λF0 s4=>?_) λF0 s4=>?_
 .obtain⟨x1,x2⟩:=zcK (p:=p) (o:=o) hop (ρ:=(bH T []).eval) (λg=>rfl) H.f_wait rfl rfl F0
  have sH:(#[.tmp s]:Array cM).map (bH T []).eval=#[.pointer (some ⟨Wg,0,none⟩)]:=by simp only[uI,fO,tW,wF];rw[hs]
  rw[sH] at x1;have zcv:=stepG_enter (main:=true) (b:=Dk.nil.base fn) (a:=⟨T,[]⟩) (rest:=[]) (cs:=base) (k:=[.code tail]) ho cD hb x1;rw[zcv];unfold wJ;rw[x2,Ct,zGU H]
 .have kf:=Gt.triv Lk.tWg Wg τ
  refine zcM (A:=A) (b₀:=Dk.nil.base fn) (a₀:=⟨T,[]⟩) (ops₀:=#[o]) (i₀:=0) (rest₀:=[]) (k₀:=[.code tail]) (cs:=base) (Fin:=Fin) (l:=l) (Wg:=Wg) H p8 kf N8 (λWn _ _ hD d=>?_) F0 ⟨trivial,s4.live (s3.live (s2.live (s1.live mU)))⟩;have:=h Wn d hD;rw[ho];simp only[vD];rw[Fw];exact this
end
end Go.Mt
namespace Go.Mt
open Go.Conc Go.Tt
open Go.ConcR (KK wgBlock WgAt stA smA rd wr)
structure pN where
 p:bS
 gs:aP->Bool
 fs:aP->Bool
 ty:aM
 Wg:Nat
 N:Nat
 W:List fH
 D:aE->Prop
 Fin:bC->aE->Prop
 St:Nat->Prop
 W0:aE
 StI:Nat->Prop
 Shun:Loc->Prop
 SS:Nat->Prop
 R0:Pr
 Fz:Nat->Prop
 Wf:aE
 qs:List Nat
def pN.I (d:pN)(Q:Pr->Prop)(chs:List Nat):Pr->cF->aE->Prop:=λR τ W=>yZ d.ty d.Wg (IQ d.W0 d.StI d.Shun d.Wg d.SS d.R0 d.Fz d.Wf d.qs chs) R τ W/\Q R
def pN.cx (d:pN)(K:Pr)(Q:Pr->Prop)(chs:List Nat)(base:List dK)(ds:Dk)(pin:List (Nat×aF)):Cx gO:=
 {p:=d.p,gs:=d.gs,fs:=d.fs,ty:=d.ty,Wg:=d.Wg,A:=B6 d.N d.W d.D,Fin:=d.Fin,main:=false,base:=base,ds:=ds,K:=K,St:=d.St,I:=d.I Q chs,pin:=pin}
def Up (Q:Pr->Prop):Prop:=∀R R':Pr,R.le R'->Q R->Q R'
structure pN.Ok (d:pN):Prop where
 st:∀a,d.StI a->d.St a
 ss:∀b,b<d.W0.heap.size->d.SS b
 fz:∀b,d.Fz b->d.SS b
 low:d.W0.heap.size<=d.Wg
 fit:vN (PS d.p d.gs) d.fs
theorem pN.sub_eq (d:pN)(K:Pr)(Q:Pr->Prop)(chs:List Nat)(base:List dK)(ds:Dk)(pin:List (Nat×aF))(m':Fm)(n6:Pr):
 (d.cx K Q chs base ds pin).sub m' n6=d.cx K (λR=>Q R/\n6.le R) chs (fx [] ds m'::base) .nil []:=by
 have e:(λR τ W=>d.I Q chs R τ W/\n6.le R)=d.I (λR=>Q R/\n6.le R) chs:=by
  funext R τ W;exact propext and_assoc
 unfold Cx.sub pN.cx;simp only;rw[e]
def Up.and {Q:Pr->Prop}(h:Up Q)(n6:Pr):Up (λR=>Q R/\n6.le R):=λR R' hl hq=>⟨h R R' hl hq.1,hq.2.trans hl⟩
section
variable {d:pN}{K:Pr}{Q:Pr->Prop}{chs:List Nat}{base:List dK}{ds:Dk}{pin:List (Nat×aF)}
theorem pN.Ok.iok (H:d.Ok)(hQ:Up Q):fG (d.cx K Q chs base ds pin):=by
 have h0:=zjE (C:={d.cx K Q chs base ds pin with I:=yZ d.ty d.Wg (IQ d.W0 d.StI d.Shun d.Wg d.SS d.R0 d.Fz d.Wf d.qs chs)}) rfl H.st H.ss H.fz H.low;exact⟨λR τ W aV h s=>⟨h0.suf R τ W aV h.1 s,h.2⟩,λR τ W R1 W1 h ht hs=>⟨h0.step R τ W R1 W1 h.1 ht hs,hQ R R1 hs.le h.2⟩⟩
structure WS where
 chs:List Nat
 K:Pr
 l:gO
 T:Array aF
 w:aE
def pN.bo (d:pN)(Q:Pr->Prop)(base:List dK)(s:WS)(f:aP)(kk:List eE)(ret:Bool):Prop:=BO (d.cx s.K Q s.chs base .nil []) s.l ⟨f,s.T,kk,ret⟩ s.w
def CW (d:pN)(B:List Nat)(f:aP)(c:Code)(s:WS)(Φ:n5->WS->Prop):Prop:=
 ∀(Q:Pr->Prop) (base:List dK) (kk:List eE),Up Q->(∀id∈B,∃k2,exitTo id kk=some k2)->(∀s',s.K.le s'.K->Φ .normal s'->d.bo Q base s' f kk false)->(∀id k2 s',s.K.le s'.K->exitTo id kk=some k2->Φ (.exit id) s'->d.bo Q base s' f k2 false)->
  (∀s' todo,s.K.le s'.K->Φ .ret s'->d.bo Q base s' f todo true)->d.bo Q base s f (.code c::kk) false
def CR (d:pN)(f:aP)(ops:Array aZ)(is:List Nat)(s:WS)(Φ:WS->Prop):Prop:=
 ∀(Q:Pr->Prop) (base:List dK) (kk:List eE),Up Q->(∀s',s.K.le s'.K->Φ s'->d.bo Q base s' f kk false)->d.bo Q base s f (.inRegion ops is::kk) false
def wP (K:Pr):K.le K:=λ_ _ x=>x
def wD {K K' zxA:Pr}(h:K.le K')(h':K'.le zxA):K.le zxA:=λ_ _ x=>h' _ _ (h _ _ x)
variable {f:aP}{s:WS}{Φ Ψ:n5->WS->Prop}{B:List Nat}{c:Code}
def CW.skip (H:d.Ok)(h:Φ .normal s):CW d B f .skip s Φ:=λQ base kk hQ hB h1 h2 h3=>BO.skip (H.iok hQ) (h1 s (wP _) h)
def CW.ret (H:d.Ok)(h:Φ .ret s):CW d B f .ret s Φ:=λQ base kk hQ hB h1 h2 h3=>BO.ret (H.iok hQ) (h3 s _ (wP _) h)
def CW.seq (H:d.Ok){a b:Code}(h:CW d B f a s (λe s'=>match e with| .normal=>CW d B f b s' Φ|e=>Φ e s')):CW d B f (.seq a b) s Φ:=λQ base kk hQ hB h1 h2 h3=>
 BO.seq (H.iok hQ) (h Q base (.code b::kk) hQ (λid hid=>hB id hid) (λs' l x=>x Q base kk hQ hB (λs2 l2=>h1 s2 (wD l l2)) (λid k2 s2 l2=>h2 id k2 s2 (wD l l2)) (λs2 todo l2=>h3 s2 todo (wD l l2)))
  (λid k2 s' l e x=>h2 id k2 s' l e x) (λs' todo l x=>h3 s' todo l x))
def CW.cond (H:d.Ok){x:cM}{a b:Code}{t:Bool}(hx:dQ d.fs x=true)(hc:(bH s.T []).eval x=.bool t)(h:CW d B f (if t then a else b) s Φ):CW d B f (.cond x a b) s Φ:=λQ base kk hQ hB h1 h2 h3=>
 BO.cond (H.iok hQ) hx hc (h Q base kk hQ hB h1 h2 h3)
theorem CW.exit (H:d.Ok){id:Nat}(nY:id∈B)(h:Φ (.exit id) s):CW d B f (.exit id) s Φ:=λQ base kk hQ hB h1 h2 h3=>by
 obtain⟨k2,e⟩:=hB id nY;exact BO.exit (H.iok hQ) e (h2 id k2 s (wP _) e h)
theorem CW.block (H:d.Ok){id:Nat}(h:CW d (id::B) f c s (λe s'=>match e with| .normal=>Φ .normal s'| .exit i=>if i=id then Φ .normal s' else Φ (.exit i) s'|e=>Φ e s')):CW d B f (.block id c) s Φ:=λQ base kk hQ hB h1 h2 h3=>by
 refine BO.block (H.iok hQ) (h Q base (.inBlock id::kk) hQ (λi hi=>?_) (λs' l x=>BO.inBlock (H.iok hQ) (h1 s' l x)) (λi k2 s' l e x=>?_) (λs' todo l x=>h3 s' todo l x))
 .by_cases e:i=id
  .subst e;exact⟨kk,by simp[exitTo]⟩
  .rcases jJ.1 hi with hi|hi
   .exact absurd hi e
   .obtain⟨k2,h2⟩:=hB i hi
    exact⟨k2,by simp only[exitTo];rw[if_neg (by simpa using Ne.symm e)];exact h2⟩
 .simp only[exitTo] at e
  by_cases e1:i=id
  .subst e1
   rw[if_pos aO] at e;obtain rfl:=cE e;simp only[if_pos rfl] at x;exact h1 s' l x
  .rw[if_neg (by simpa using Ne.symm e1)] at e
   simp only[if_neg e1] at x;exact h2 i k2 s' l e x
theorem CW.loop (H:d.Ok)(Inv:Nat->WS->Prop)(vJ:∀n s,Inv n s->CW d B f c s (λe s'=>match e with| .normal=>∃n',n'<n/\Inv n' s'|e=>Φ e s')){n:Nat}(h0:Inv n s):CW d B f (.loop c) s Φ:=λQ base kk hQ hB h1 h2 h3=>by
 refine BO.loop (H.iok hQ) ?_;have key:∀n s2,s.K.le s2.K->Inv n s2->d.bo Q base s2 f (.code c:: .inLoop c::kk) false:=by
  intro n
  induction n using Nat.strongRecOn with
  |ind n ih=>
   intro s2 hl hi;refine vJ n s2 hi Q base (.inLoop c::kk) hQ (λid hid=>hB id hid) (λs' l x=>?_) (λid k2 s' l e x=>h2 id k2 s' (wD hl l) e x) (λs' todo l x=>h3 s' todo (wD hl l) x);obtain⟨n',aN,gV⟩:=x;exact BO.inLoop (H.iok hQ) (ih n' aN s' (wD hl l) gV)
 exact key n s (wP _) h0
def CW.piece (H:d.Ok)(hc:oI d.p ⟨d.fs,d.gs,true⟩ c=true)(hf:wC d.p f)(rL:∀T,Code.wp d.p c (λe a' w'=>e=.normal/\Φ .normal {s with T:=a'.tmps,w:=w'}) ⟨s.T,[]⟩ (Tt.tp s.w T 0)):CW d B f c s Φ:=λQ base kk hQ hB h1 h2 h3=>
 BO.piece H.fit (H.iok hQ) hc hf (zFF c hc) λT=>Code.wp_mono (λe a' w' h=>⟨h.1,h1 {s with T:=a'.tmps,w:=w'} (wP _) h.2⟩) (rL T)
def CW.reg (H:d.Ok){id:Nat}{ops:Array aZ}(is:List Nat)(hr:gF ops.size=is)(h:CR d f ops is s (λs'=>Φ .normal s')):CW d B f (.region id ops false) s Φ:=λQ base kk hQ hB h1 h2 h3=>
 BO.regs (H.iok hQ) is hr (h Q base kk hQ (λs' l x=>h1 s' l x))
section
variable {ops:Array aZ}{i:Nat}{rest is:List Nat}{Φ:WS->Prop}{o:aZ}
def CR.nil (H:d.Ok)(h:Φ s):CR d f ops [] s Φ:=λQ base kk hQ h1=>BO.regEnd (H.iok hQ) (h1 s (wP _) h)
theorem CR.op (H:d.Ok)(ho:ops[i]? =some o)(cD:dF o (dR ops s.T)=true)(bU:sG d.p ⟨d.fs,d.gs,true⟩ o.op=true)
 (hx:∀T,∃v w',((aS (bH s.T []).eval o).run d.p (Tt.tp s.w T 0)=.ok (.value v) w'\/((aS (bH s.T []).eval o).run d.p (Tt.tp s.w T 0)=.ok .skip w'/\v=aA))/\CR d f ops rest {s with T:=(cC ⟨s.T,[]⟩ o.dst v).tmps,w:=w'} Φ):CR d f ops (i::rest) s Φ:=λQ base kk hQ h1=>
 BO.op H.fit (H.iok hQ) ho cD bU (λ_ _=>lZ) λT=>by
  obtain⟨v,w',e,h⟩:=hx T;exact⟨v,w',e,h Q base kk hQ h1⟩
structure CF (d:pN)(g:aP)(args:Array aF)(K:Pr)(l:gO)(w:aE)(Ψ:Pr->gO->aF->aE->Prop):Prop where
 ex:∃fnf cf,d.p.funcs[g]? =some fnf/\(fnf.name== "runtime.NumGoroutine")=false/\fnf.body=some cf/\C3 fnf.results.toList/\
  CW d [] g cf ⟨[],K,l,args++nU (fnf.ntmps-args.size) aA,w⟩ (λe s'=>(e=.normal\/e=.ret)/\s'.chs=[]/\∃v,(oK fnf.results.toList s'.T).run d.p s'.w=.ok v s'.w/\Ψ s'.K s'.l v s'.w)
theorem CR.call (H:d.Ok){g:aP}{args:Array cM}{kH:Array aM}{Ψ:Pr->gO->aF->aE->Prop}(ho:ops[i]? =some o)(cD:dF o (dR ops s.T)=true)(hop:o.op=.call ⟨.value (.func g),args,kH⟩)(sH:args.all (dQ d.fs)=true)(tM:s.chs=[])
 (hc:CF d g (args.map (bH s.T []).eval) s.K s.l s.w Ψ) (hk:∀K' l' v w',s.K.le K'->Ψ K' l' v w'->CR d f ops rest ⟨[],K',l',(cC ⟨s.T,[]⟩ o.dst v).tmps,w'⟩ Φ):CR d f ops (i::rest) s Φ:=λQ base kk hQ h1=>by
 obtain⟨chs,K,l,T,w⟩:=s;simp only at*;subst tM;obtain⟨fnf,cf,g1,g2,g3,g4,g5⟩:=hc.ex;refine BO.callN (H.iok hQ) ho cD hop (Callee.static _ _) sH g1 g2 g3 g4 λn6 m' hm=>?_;rw[pN.sub_eq];have fin:∀(s':WS) todo,K.le s'.K->(s'.chs=[]/\∃v,(oK fnf.results.toList s'.T).run d.p s'.w=.ok v s'.w/\Ψ s'.K s'.l v s'.w)->d.bo (λR=>Q R/\n6.le R) (fx [] .nil m'::base) s' g todo true:=λs' todo hl ⟨h2,v,h3,h4⟩=>by
  obtain⟨zJm,K',l',T',w'⟩:=s';simp only at*;subst h2;unfold pN.bo;simp only;rw[<-pN.sub_eq];refine BO.retN (C:=d.cx K' Q [] base .nil []) (H.iok hQ) (hm.upK hl _) rfl rfl (λ_ _=>lZ) g1 h3 ?_;have:=hk K' l' v w' hl h4 Q base kk hQ (λs' l2 x=>h1 s' (wD hl l2) x);unfold pN.bo at this;simp only[Fm.fin,ho,vD]
  cases hd:o.dst with
  |none=>rw[hd] at this;exact this
  |some s=>rw[hd] at this;exact this
 have e:(#[]:Array aF)++args.map (bH T []).eval++ #[]=args.map (bH T []).eval:=aO;rw[e];refine g5 (λR=>Q R/\n6.le R) (fx [] .nil m'::base) [] (hQ.and n6) (λ_ h=>by cases h) (λs' hl x=>BO.fall (H.iok (hQ.and n6)) (fin s' [] hl x.2)) (λid k2 s' hl ee x=>by cases ee) (λs' todo hl x=>fin s' todo hl x.2)
variable {e:aM}{dir:Nu}{ie:wW}
theorem CR.make (H:d.Ok){t:aM}(ho:ops[i]? =some o)(cD:dF o (dR ops s.T)=true)(hop:o.op=.makeChan t (.const (.int .i64 0)))(ze2:d.p.underlying t=some (.chan dir e))(jY:d.p.info? e=some ie)(tM:s.chs=[])
 (h:∀c,CR d f ops rest ⟨[c],s.K.add s.w.heap.size c,s.l,(cC ⟨s.T,[]⟩ o.dst (.chan (some s.w.heap.size))).tmps,s.w.alloc oY⟩ Φ):CR d f ops (i::rest) s Φ:=λQ base kk hQ h1=>by
 obtain⟨chs,K,l,T,w⟩:=s;simp only at*;subst tM;refine BO.makeK (H.iok hQ) ho cD hop ze2 jY (λ_ _=>lZ) (I':=λc=>d.I Q [c]) (λR τ W hi ht aN=>?_) λc=>h c Q base kk hQ (λs' l2 x=>h1 s' (wD (Pr.le_add _ _ _) l2) x);obtain⟨⟨hi,hl⟩,hq⟩:=hi;refine⟨⟨zse hi aN,?_⟩,hq⟩;obtain⟨st,sm,hx⟩:=hl;have lK:=hx;exact⟨st,sm,(Fs (dP.1 lK).1).trans lK⟩
variable {x:cM}
theorem CR.ask (H:d.Ok){ans:Int}{y:cM}{k q g a ga:Nat}{kd cl:Int}(ho:ops[i]? =some o)(cD:dF o (dR ops s.T)=true)(hop:o.op=.send x y)(sC:dQ d.fs x=true)(Dr:dQ d.fs y=true)(hl:s.l=.wk d.qs k)(hW:d.W[k]? =some (.ask q kd cl ans))(tM:s.chs=[a])
 (hx:(bH s.T []).eval x=.chan (some g)) (hg:s.K g (qa d.qs q)) (hy:(bH s.T []).eval y=.agg #[.int .i64 kd,.int .i64 cl,.chan (some ga)]) (ha:s.K ga a)
 (h:CR d f ops rest ⟨[],s.K,.wr d.qs k a,(cC ⟨s.T,[]⟩ o.dst aA).tmps,s.w⟩ Φ):CR d f ops (i::rest) s Φ:=λQ base kk hQ h1=>by
 obtain⟨chs,K,l,T,w⟩:=s;simp only at*;subst tM hl;refine BO.sendP (C:=d.cx K Q [a] base .nil []) rfl (H.iok hQ) ho cD hop sC hx hg Dr (λ_ _=>lZ) (c:=qa d.qs q) (okv:=λv=>∃a,v=Lw kd cl a) (pub:=Po) (nx:=Zu d.qs k) (ps:=[a]) (I':=d.I Q []) ?_ (λR W v' hw hv=>?_) (λR τ W hi=>?_) (h Q base kk hQ h1)
 .show eT d.N d.W (.wk d.qs k)=_
  simp only[eT,hW]
 .rw[hy] at hv
  obtain rfl:v'=Lw kd cl a:=by
   cases hv with
   |agg e1 e2=>
    rename_i bY;obtain⟨l'⟩:=bY
    match l',e1 with
    |[v0,v1,v2],_=>
     have h0:=e2 0 _ v0 rfl rfl;have h1:=e2 1 _ v1 rfl rfl;have h2:=e2 2 _ v2 rfl rfl;have h3:=Vh hw ha h2;cases h0;cases h1;subst h3;rfl
  exact⟨⟨a,rfl⟩,rfl,rfl⟩
 .obtain⟨⟨hi,hl⟩,hq⟩:=hi
  obtain⟨k1,k2⟩:=iq_cut hi;exact⟨k1,⟨k2,hl⟩,hq⟩
theorem CR.ans (H:d.Ok){ans:Int}{ct:aM}{k q a ga:Nat}{kd cl:Int}(ho:ops[i]? =some o)(cD:dF o (dR ops s.T)=true)(hop:o.op=.recv ct x false)(D6:d.p.underlying ct=some (.chan dir e))(jY:d.p.info? e=some ie)(hz:ie.zero=some (.int .i64 0))
 (sC:dQ d.fs x=true) (hl:s.l=.wr d.qs k a) (hW:d.W[k]? =some (.ask q kd cl ans)) (tM:s.chs=[]) (hx:(bH s.T []).eval x=.chan (some ga)) (ha:s.K ga a)
 (h:CR d f ops rest ⟨[],s.K,.wk d.qs (k+1),(cC ⟨s.T,[]⟩ o.dst (.int .i64 ans)).tmps,s.w⟩ Φ):CR d f ops (i::rest) s Φ:=λQ base kk hQ h1=>by
 obtain⟨chs,K,l,T,w⟩:=s;simp only at*;subst tM hl;refine BO.recv (C:=d.cx K Q [] base .nil []) rfl (H.iok hQ) ho cD hop D6 jY hz (λ_=>.int _ _) sC hx ha (λ_ _=>lZ) (okv:=Yu d.W k) (nx:=λ_=>.wk d.qs (k+1)) (sh:=.oD) rfl (λv hv=>?_) (λhc=>hc.elim);unfold Yu at hv;rw[hW] at hv;simp only at hv;subst hv;exact⟨.int .i64 ans,λ_=>.int _ _,h Q base kk hQ h1⟩
theorem CR.shut (H:d.Ok){tx:Tmp}{kH:Array aM}{k q g:Nat}{fnf:Func}(ho:ops[i]? =some o)(cD:dF o (dR ops s.T)=true)(hop:o.op=.call {callee:=.builtin .close,args:=#[.tmp tx],argTypes:=kH})(hf:d.p.funcs[f]? =some fnf)(Bv:fnf.norace=false)
 (hl:s.l=.wk d.qs k) (hW:d.W[k]? =some (.shut q)) (hq:q<d.qs.length) (tM:s.chs=[]) (hx:(bH s.T []).eval (.tmp tx)=.chan (some g)) (hg:s.K g (qa d.qs q))
 (h:CR d f ops rest ⟨[],s.K,.wk d.qs (k+1),(cC ⟨s.T,[]⟩ o.dst (.tuple #[])).tmps,s.w⟩ Φ):CR d f ops (i::rest) s Φ:=λQ base kk hQ h1=>by
 obtain⟨chs,K,l,T,w⟩:=s;simp only at*;subst tM hl;have hm:qa d.qs q∈d.qs:=by
  unfold qa;rw[Lj,lX hq];exact zoF hq
 refine BO.close (C:=d.cx K Q [] base .nil []) rfl (H.iok hQ) ho cD hop hx hg (λ_ _=>lZ) (c:=qa d.qs q) (nx:=.wk d.qs (k+1)) ?_ hf Bv (λR τ W hi=>?_) (h Q base kk hQ h1)
 .show eT d.N d.W (.wk d.qs k)=_
  simp only[eT,hW]
 .obtain⟨⟨hi,hl⟩,Pp⟩:=hi
  obtain⟨p1,p2,p3,p4,p5⟩:=hi.pass _ hm;refine⟨p1,p2,p3,λs r=>⟨⟨zzn hi hm s r H.ss H.fz,?_⟩,Pp⟩⟩;obtain⟨st,sm,hx⟩:=hl;have lK:=hx;refine⟨st,sm,?_⟩;show(W.setChan _ _ _ _ _ _ _).heap[d.Wg]? =_;simp only[J8,jV p5];exact lK
end
end
section
variable {L:Type}{C:Cx L}{l:L}
theorem BO.draw (hI:fG C){fn:aP}{tmps:Array aF}{k:List eE}{w:aE}{id:Nat}{ops:Array aZ}(h:∀n,BO C l ⟨fn,tmps,.inRegion ops (Sj (C.p.follows .mixedOrders) ops n)::k,false⟩ w):BO C l ⟨fn,tmps,.code (.region id ops true)::k,false⟩ w:=by
 intro R W m' τ hw hm ht hi;obtain⟨fn',bQ,yQ,y3⟩:=m';obtain rfl:=hm.fn;obtain rfl:=hm.todo;obtain rfl:=hm.ret;rw[mG];refine Cx.ownQ rfl λaV s=>?_;have dJ:C.Rel R w aV:=Cx.Rel.suf (C:=C) hw ht s;have yI:=hI.suf _ _ _ _ hi s;have aY:=stepG_region_draw (P:=C.p) (main:=C.main) (b:=C.ds.base fn) (a:=⟨bQ,C.ds.ds⟩) (k:=k) (cs:=C.base) (w:=aV) (id:=id) (ops:=ops);refine⟨_,{aV with drawn:=aV.drawn+1},_,aY,rfl,⟨rfl,rfl,rfl,aX _,λb _ _=>rfl⟩,λe he=>by simp at he,?_⟩;rw[<-mG];refine h _ R _ ⟨fn,bQ,_,false⟩ _ ⟨dJ.inj,dJ.inj',dJ.lt,dJ.low,dJ.gle,dJ.cont,dJ.rest,dJ.st,dJ.np,dJ.tb⟩ ⟨rfl,rfl,rfl,hm.tmps,hm.pins⟩ (λa b x=>⟨(ht a b x).1,λz=>.inl ((ht a b x).2 z)⟩) ?_;exact hI.step R τ aV R _ yI ht ⟨λ_ _ x=>x,rfl,rfl,rfl,aX _,λa b x=>.inl x,λb _ _=>rfl⟩
end
def dep (ops:Array aZ)(i j:Nat):Bool:=match ops[i]? with|some o=>o.after.any λe=>Dz .any e&&e.on==j|none=>false
def linked (ops:Array aZ):List Nat->Bool
 |a::b::l=>dep ops b a&&linked ops (b::l)
 |_=>true
def Rv (ops:Array aZ):Nat->Nat->Nat->Bool
 |0,_,_=>false
 |n+1,i,j=>dep ops i j||(gF ops.size).any λm=>dep ops i m&&Rv ops n m j
def Nt (ops:Array aZ)(ch:List Nat):Bool:=linked ops ch&&decide ch.Nodup&&(match ch.getLast? with|some z=>(gF ops.size).all λj=>j==z||Rv ops ops.size z j|none=>false)
variable {ops:Array aZ}{i:Nat}
theorem zmg {j:Nat}(h:dep ops i j=true):∃o,ops[i]? =some o/\∃e∈o.after,Dz .any e=true/\e.on=j:=by
 unfold dep at h;split at h
 .next o ho=>
  rw[Array.any_eq_true] at h;obtain⟨x,hx,h3⟩:=h;simp only[fU,beq_iff_eq] at h3;exact⟨o,ho,_,Array.getElem_mem hx,h3.1,h3.2⟩
 .cases h
theorem zsI :∀{ch:List Nat},linked ops ch=true->∀(j a b:Nat),ch[j]? =some a->ch[j+1]? =some b->dep ops b a=true
 |[],_,j,a,b,h1,_=>by simp at h1
 |[x],_,j,a,b,_,h2=>by simp at h2
 |x::y::l,h,0,a,b,h1,h2=>by
  simp at h1 h2;subst h1 h2;unfold linked at h;simp only[fU] at h;exact h.1
 |x::y::l,h,j+1,a,b,h1,h2=>by
  unfold linked at h;simp only[fU] at h;exact zsI h.2 j a b Uz Sb
def Closed (ops:Array aZ)(bO:Array Bool):Prop:=∀(i:Nat) (o:aZ),ops[i]? =some o->bO.getD i false=true->∀e∈o.after,Dz .any e=true->bO.getD e.on false=true
variable {bO:Array Bool}
theorem zC5 (hc:Closed ops bO):∀(n i j:Nat),Rv ops n i j=true->bO.getD i false=true->bO.getD j false=true:=by
 intro n
 induction n with
 |zero=>intro i j h _;cases h
 |succ n ih=>
  intro i j h hl;unfold Rv at h;simp only[Ey,List.any_eq_true,fU] at h;rcases h with h|⟨m,_,h1,h2⟩
  .obtain⟨o,ho,e,he,hb,rfl⟩:=zmg h
   exact hc i o ho hl e he hb
  .obtain⟨o,ho,e,he,hb,rfl⟩:=zmg h1
   exact ih _ j h2 (hc i o ho hl e he hb)
variable {ch:List Nat}
theorem zDd {m:Nat}(h:ch.idxOf? i=some m):ch[m]? =some i/\m<ch.length:=by
 unfold zib at h;obtain⟨h1,h2,_⟩:=zjv.1 h;rw[beq_iff_eq] at h2;exact⟨by rw[lX h1,h2],h1⟩
theorem zED (h:i∉ch):ch.idxOf? i=none:=by
 unfold zib;rw[List.findIdx?_eq_none_iff];intro x hx;simp only[beq_eq_false_iff_ne];exact λe=>h (e▸hx)
theorem zhE (hn:ch.Nodup){m:Nat}(h:ch[m]? =some i):ch.idxOf? i=some m:=by
 unfold zib;obtain⟨h1,h2⟩:=kD.1 h;rw[zjv];refine⟨h1,by rw[h2];simp,λj hj=>?_⟩;simp only[Bool.not_eq_true,beq_eq_false_iff_ne];intro e;have:=(List.getElem_inj hn).1 (e.trans h2.symm);omega
def VV (ch:List Nat)(V0:Nat->aF)(vs:List aF)(i:Nat):Value:=match ch.idxOf? i with|some j=>vs.getD j aA|none=>V0 i
variable {t0:Array aF}
theorem r8.congr {vals Y9:Nat->aF}{t:Array aF}(h:r8 ops vals t0 bO t)(hv:∀i,bO.getD i false=true->vals i=Y9 i):r8 ops Y9 t0 bO t:=
 ⟨h.size,λi o d h1 h2 h3 h4=>by rw[<-hv i h4];exact h.got i o d h1 h2 h3 h4,h.old⟩
variable {σ:Type}{P:bS}{V0:Nat->aF}
theorem drawnGo {J:σ->List Nat->Array aF->aE->Prop}{S:List aF->σ->aE->Prop}(KO:Jx ops)(tM:Nt ops ch=true)(nY:∀c∈ch,¬c<ops.size->False)
 (hop:∀vs s i o rest t w v,S vs s w->ops[i]? =some o->i∉ch->dF o (dR ops t)=true->(∀T,(aS (bH t []).eval o).run P (Tt.tp w T 0)=.ok (.value v) (Tt.tp w T 0))->(∀T,J s rest (cC ⟨t,[]⟩ o.dst v).tmps (Tt.tp w T 0))->J s (i::rest) t w)
 (hT:∀vs s w T e,S vs s w->S vs s (Tt.tp w T e))
 (hR:∀(i:Nat) (o:aZ),ops[i]? =some o->i∉ch->∀vs s w,vs.length<ch.length->S vs s w->dF o (dR ops (dE ops (VV ch V0 vs) t0))=true/\(aS (bH (dE ops (VV ch V0 vs) t0) []).eval o).run P w=.ok (.value (V0 i)) w)
 (hC:∀(vs:List aF) (c:Nat) (o:aZ) s w,ch[vs.length]? =some c->ops[c]? =some o->S vs s w->∀(t:Array aF) (rest:List Nat),(∀s∈o.looksAt ops,t[s]? =(dE ops (VV ch V0 vs) t0)[s]?)->
  (∀v s' w',S (vs++[v]) s' w'->J s' rest (cC ⟨t,[]⟩ o.dst v).tmps w')->J s (c::rest) t w)
 (hk:∀vs s w,vs.length=ch.length->S vs s w->J s [] (dE ops (VV ch V0 vs) t0) w):
 ∀(fuel q:Nat) (bO:Array Bool) (t:Array aF) (vs:List aF) (s:σ) (w:aE),bO.size=ops.size->((gF ops.size).filter λi=>!bO.getD i false).length<=fuel->r8 ops (VV ch V0 vs) t0 bO t->Closed ops bO->
  (∀j c,ch[j]? =some c->(bO.getD c false=true↔j<vs.length))->vs.length<=ch.length->S vs s w->J s (zd5 .any ops fuel q bO []) t w:=by
 have zl9:=tM;unfold Nt at zl9;simp only[fU,decide_eq_true_eq] at zl9;obtain⟨⟨yU,lH⟩,Cw⟩:=zl9;have fin:∀(bO:Array Bool) (t:Array aF) (vs:List aF) (s:σ) (w:aE),bO.size=ops.size->(∀i,i<ops.size->bO.getD i false=true)->r8 ops (VV ch V0 vs) t0 bO t->(∀j c,ch[j]? =some c->(bO.getD c false=true↔j<vs.length))->vs.length<=ch.length->S vs s w->(∀c∈ch,c<ops.size)->J s [] t w:=by
  intro bO t vs s w hz tF hm hl hle hw fV;have e:bO=nU ops.size true:=by
   apply Array.ext_getElem?;intro j;by_cases hj:j<ops.size
   .have:=tF j hj
    have uC:j<bO.size:=aC;simp[uC] at this;simp[hj,uC,this]
   .rw[F7 aC,F7 q8]
  have tT:vs.length=ch.length:=by
   rcases nC vs.length ch.length with h|h
   .have h1:ch[vs.length]? =some ch[vs.length]:=lX h
    have:=(hl _ _ h1).1 (tF _ (fV _ (zoF h)));omega
   .omega
  subst e;have e2:=hm.unique (Sz (vals:=VV ch V0 vs) (t0:=t0) KO);subst e2;exact hk vs s w tT hw
 have fV:∀c∈ch,c<ops.size:=by
  intro c hc
  cases hg:ch.getLast? with
  |none=>rw[hg] at Cw;cases Cw
  |some z=>
   by_cases aN:c<ops.size
   .exact aN
   .exfalso
    exact nY c hc aN
 intro fuel
 induction fuel with
 |zero=>
  intro q bO t vs s w hz hc hm mK hl hle hw;simp only[zd5,List.reverse_nil];refine fin bO t vs s w hz (λi hi=>?_) hm hl hle hw fV
  cases hl:bO.getD i false with
  |true=>rfl
  |false=>
   have:i∈(gF ops.size).filter λi=>!bO.getD i false:=Jd.2 ⟨Bz.2 hi,by rw[hl];rfl⟩;have:=List.length_pos_of_mem this;omega
 |succ fuel ih=>
  intro q bO t vs s w hz hc hm mK hl hle hw;simp only[zd5];change J s (match(Hj .any ops bO)[q%(Hj .any ops bO).length]? with
   |some i=>zd5 .any ops fuel (q/(Hj .any ops bO).length) (bO.setIfInBounds i true) [i]
   |none=>[].reverse) t w
  cases hi:(Hj .any ops bO)[q%(Hj .any ops bO).length]? with
  |none=>
   have Xu:Hj .any ops bO=[]:=by
    cases hr:Hj .any ops bO with
    |nil=>rfl
    |cons x xs=>
     rw[hr] at hi;have aN:q%(x::xs).length<(x::xs).length:=Nat.mod_lt _ aO;simp at hi;simp at aN;omega
   exact fin bO t vs s w hz (zpC KO hz Xu) hm hl hle hw fV
  |some i=>
   simp only[];rw[linearise_go_acc,List.reverse_singleton,List.singleton_append];obtain⟨hu,o,ho,tV⟩:=mem_ready.1 (dZ hi);have Bw:i<ops.size:=(dP.1 ho).1;have lV:=hm.sees KO (Sz (vals:=VV ch V0 vs) (t0:=t0) KO) ho tV;have Ka:∀j,(bO.setIfInBounds i true).getD j false=if j=i then true else bO.getD j false:=by
    intro j;by_cases e:j=i
    .subst e;have:j<bO.size:=aC
     simp[this]
    .rw[if_neg e];exact getD_set_ne false (Ne.symm e)
   have oX:bO.getD i false=false:=by
    have:i<bO.size:=aC;simp[this] at hu⊢;exact hu
   have zue:Closed ops (bO.setIfInBounds i true):=by
    intro j oj hj uC e he hb;rw[Ka] at uC⊢;split
    .rfl
    .split at uC
     .next e1=>subst e1;rw[ho] at hj;obtain rfl:=cE hj;exact tV e he hb
     .exact mK j oj hj uC e he hb
   have Zx:((gF ops.size).filter λj=>!(bO.setIfInBounds i true).getD j false).length<=fuel:=by
    have aN:((gF ops.size).filter λj=>!(bO.setIfInBounds i true).getD j false).length<((gF ops.size).filter λj=>!bO.getD j false).length:=by
     have e:((gF ops.size).filter λj=>!(bO.setIfInBounds i true).getD j false)=((gF ops.size).filter λj=>!bO.getD j false).filter (λj=>j !=i):=by
      rw[List.filter_filter];apply List.filter_congr;intro j hj;rw[Ka];by_cases e:j=i
      .simp[e]
      .simp[e]
     rw[e];exact List.length_filter_lt_length_iff_exists.2 ⟨i,Jd.2 ⟨Bz.2 Bw,by rw[oX];rfl⟩,aO⟩
    omega
   by_cases yD:i∈ch
   .
    obtain⟨j,hj⟩:=List.mem_iff_getElem?.1 yD;have zKV:=(kD.1 hj).1;have zJp:j=vs.length:=by
     have h1:¬j<vs.length:=λh=>by have:=(hl j i hj).2 h;rw[oX] at this;cases this
     rcases nC vs.length j with h|h
     .exfalso
      obtain⟨b,hb⟩:∃b,ch[j-1]? =some b:=⟨ch[j-1]' aC,lX aC⟩;have hd:=zsI yU (j-1) b i hb (by rw[Nat.sub_add_cancel aC];exact hj);obtain⟨o',vH,e,he,zcs,rfl⟩:=zmg hd;rw[ho] at vH;obtain rfl:=cE vH;have:=(hl (j-1) _ hb).1 (tV e he zcs);omega
     .omega
    subst zJp;have qS:∀v i',i'≠i->VV ch V0 (vs++[v]) i'=VV ch V0 vs i'\/bO.getD i' false=false:=by
     intro v i' aT;unfold VV
     cases hx:ch.idxOf? i' with
     |none=>exact .inl rfl
     |some m=>
      simp only;obtain⟨zfV,yK⟩:=zDd hx;rcases zwa m vs.length with h|h|h
      .left;simp[Lj,Ab h]
      .subst h;rw[hj] at zfV;exact absurd (cE zfV).symm aT
      .right
       cases E6:bO.getD i' false with
       |false=>rfl
       |true=>have:=(hl m i' zfV).1 E6;omega
    have zmV:∀v,VV ch V0 (vs++[v]) i=v:=by
     intro v;unfold VV;rw[zhE lH hj];simp[Lj]
    refine hC vs i o s w hj ho hw t _ lV λv s' w' Qp=>?_;have yK:r8 ops (VV ch V0 (vs++[v])) t0 bO t:=hm.congr λi' gV=>by
     rcases qS v i' (λe=>by subst e;rw[oX] at gV;cases gV) with h|h
     .exact h.symm
     .rw[h] at gV;cases gV
    have Wl:=yK.step KO ho hz hu;have:=ih (q/(Hj .any ops bO).length) (bO.setIfInBounds i true) _ (vs++[v]) s' w' (by simp[hz]) Zx Wl zue (λj c N5=>?_) q8 Qp
    .rw[zmV] at this
     cases hd:o.dst with
     |none=>rw[hd] at this;exact this
     |some s=>rw[hd] at this;exact this
    .rw[Ka]
     by_cases e:c=i
     .subst e
      rw[if_pos rfl];have:j=vs.length:=by
       have h1:=zhE lH N5;have h2:=zhE lH hj;rw[h1] at h2;exact cE h2
      subst this;simp
     .rw[if_neg e,hl j c N5]
      simp;constructor
      .intro h;omega
      .intro h
       rcases nC j vs.length with h2|h2
       .exact h2
       .have:j=vs.length:=aC
        subst this;rw[hj] at N5;exact absurd (cE N5).symm e
   .
    have zt1:=hR i o ho yD;have aN:vs.length<ch.length:=by
     rcases nC vs.length ch.length with h|h
     .exact h
     .exfalso
      cases hg:ch.getLast? with
      |none=>rw[hg] at Cw;cases Cw
      |some z=>
       rw[hg] at Cw;have zw1:ch[ch.length-1]? =some z:=by rw[<-List.getLast?_eq_getElem?];exact hg
       have Cd:0<ch.length:=by
        cases ch with
        |nil=>cases hg
        |cons _ _=>simp
       have zGH:=(hl _ z zw1).2 aC;have:=(tY.1 Cw) i (Bz.2 Bw);simp only[Ey,beq_iff_eq] at this;rcases this with rfl|this
       .exact yD (dZ zw1)
       .have:=zC5 mK _ _ _ this zGH
        rw[oX] at this;cases this
    obtain⟨h1,h2⟩:=zt1 vs s w aN hw;have fA:dF o (dR ops t)=true:=(Vv lV).trans h1;refine hop vs s i o _ t w (V0 i) hw ho yD fA (λT=>?_) λT=>?_
    .rw[El (KO.sel i o ho) lV]
     exact(zt1 vs s _ aN (hT _ _ _ T 0 hw)).2
    .have Wl:=hm.step KO ho hz hu
     have zmV:VV ch V0 vs i=V0 i:=by
      unfold VV;rw[zED yD]
     rw[zmV] at Wl;have:=ih (q/(Hj .any ops bO).length) (bO.setIfInBounds i true) _ vs s (Tt.tp w T 0) (by simp[hz]) Zx Wl zue (λj c N5=>?_) hle (hT _ _ _ T 0 hw)
     .cases hd:o.dst with
      |none=>rw[hd] at this;exact this
      |some s=>rw[hd] at this;exact this
     .have aT:c≠i:=λe=>yD (e▸dZ N5)
      rw[Ka,if_neg aT];exact hl j c N5
theorem zvN {J:σ->List Nat->Array aF->aE->Prop}{S:List aF->σ->aE->Prop}(bU:I5 ops=true)(tM:Nt ops ch=true)(nY:ch.all (λc=>decide (c<ops.size))=true)
 (hop:∀vs s i o rest t w v,S vs s w->ops[i]? =some o->i∉ch->dF o (dR ops t)=true->(∀T,(aS (bH t []).eval o).run P (Tt.tp w T 0)=.ok (.value v) (Tt.tp w T 0))->(∀T,J s rest (cC ⟨t,[]⟩ o.dst v).tmps (Tt.tp w T 0))->J s (i::rest) t w)
 (hT:∀vs s w T e,S vs s w->S vs s (Tt.tp w T e))
 (hR:∀(i:Nat) (o:aZ),ops[i]? =some o->i∉ch->∀vs s w,vs.length<ch.length->S vs s w->dF o (dR ops (dE ops (VV ch V0 vs) t0))=true/\(aS (bH (dE ops (VV ch V0 vs) t0) []).eval o).run P w=.ok (.value (V0 i)) w)
 (hC:∀(vs:List aF) (c:Nat) (o:aZ) s w,ch[vs.length]? =some c->ops[c]? =some o->S vs s w->∀(t:Array aF) (rest:List Nat),(∀s∈o.looksAt ops,t[s]? =(dE ops (VV ch V0 vs) t0)[s]?)->
  (∀v s' w',S (vs++[v]) s' w'->J s' rest (cC ⟨t,[]⟩ o.dst v).tmps w')->J s (c::rest) t w)
 (hk:∀vs s w,vs.length=ch.length->S vs s w->J s [] (dE ops (VV ch V0 vs) t0) w) {s:σ} {w:aE} (h0:S [] s w) (n:Nat):J s (Sj true ops n) t0 w:=by
 simp only[Sj,Bool.true_or,if_true];refine drawnGo (Uv bU) tM (λc hc aN=>?_) hop hT hR hC hk ops.size n _ t0 [] s w aO (eG (List.length_filter_le _ _) aO) (r8.start _ λi=>?_) (λi o hi hl=>?_) (λj c hj=>?_) (jT _) h0
 .have:=tY.1 nY c hc
  simp at this;exact aN this
 .by_cases hi:i<ops.size<;>simp[hi]
 .by_cases hi:i<ops.size<;>simp[hi] at hl
 .by_cases hi:c<ops.size<;>simp[hi]
section
variable {d:pN}{f:aP}
variable {Φ:n5->WS->Prop}
theorem CW.drawn (H:d.Ok)(zmW:d.p.follows .mixedOrders=true){B:List Nat}{id:Nat}{t0:Array aF}{ops:Array aZ}(ch:List Nat)(V0:Nat->aF)(S:List aF->Pr->gO->aE->Prop)(bU:I5 ops=true)(tM:Nt ops ch=true)(nY:ch.all (λc=>decide (c<ops.size))=true)
 (hT:∀vs K l w T e,S vs K l w->S vs K l (Tt.tp w T e))
 (hR:∀(i:Nat) (o:aZ),ops[i]? =some o->i∉ch->sG d.p ⟨d.fs,d.gs,true⟩ o.op=true/\∀vs K l w,vs.length<ch.length->S vs K l w->dF o (dR ops (dE ops (VV ch V0 vs) t0))=true/\(aS (bH (dE ops (VV ch V0 vs) t0) []).eval o).run d.p w=.ok (.value (V0 i)) w)
 (hC:∀(vs:List aF) (c:Nat) (o:aZ) K l w,ch[vs.length]? =some c->ops[c]? =some o->S vs K l w->∀(t:Array aF) (rest:List Nat),(∀s∈o.looksAt ops,t[s]? =(dE ops (VV ch V0 vs) t0)[s]?)->
  (∀v K' l' w',K.le K'->S (vs++[v]) K' l' w'->CR d f ops rest ⟨[],K',l',(cC ⟨t,[]⟩ o.dst v).tmps,w'⟩ (Φ .normal))->CR d f ops (c::rest) ⟨[],K,l,t,w⟩ (Φ .normal))
 (hk:∀vs K l w,vs.length=ch.length->S vs K l w->Φ .normal ⟨[],K,l,dE ops (VV ch V0 vs) t0,w⟩) {K:Pr} {l:gO} {w:aE} (h0:S [] K l w):CW d B f (.region id ops true) ⟨[],K,l,t0,w⟩ Φ:=λQ base kk hQ hB h1 h2 h3=>by
 refine BO.draw (H.iok hQ) λn=>?_
 have:=zvN (σ:=Pr×gO) (P:=d.p) (J:=λs is t w=>CR d f ops is ⟨[],s.1,s.2,t,w⟩ (Φ .normal)) (S:=λvs s w=>S vs s.1 s.2 w) bU tM nY
  (λvs s i o rest t w v hS ho yD hw hx hJ=>CR.op H ho hw (hR i o ho yD).1 λT=>⟨v,_,.inl (hx T),hJ T⟩) (λvs s=>hT vs s.1 s.2) (λi o ho yD vs s=>(hR i o ho yD).2 vs s.1 s.2)
  (λvs c o s w hj ho h t rest hs cO=>hC vs c o s.1 s.2 w hj ho h t rest hs λv K' l' w' _=>cO v (K',l') w') (λvs s w hl h=>CR.nil H (hk vs s.1 s.2 w hl h)) (s:=(K,l)) h0 n Q base kk hQ λs' l x=>h1 s' l x
 rw[<-zmW] at this;exact this
end
structure OvFn (p:bS)(f:aP)(t tr e:aM)(size:Nat):Prop where
 fn:∃fn,p.funcs[f]? =some fn/\(fn.name== "runtime.NumGoroutine")=false/\fn.body.isNone=true/\zr4 fn=none/\zve fn=some (ziZ #[t,t] #[tr])
 un:p.underlying t=some (.slice e)
 inf:∃i,p.info? e=some i/\i.size=size
variable {i:wW}
theorem zyZ (w:aE)(tS tR e:aM)(ht:P.underlying tS=some (.slice e))(hi:P.info? e=some i)
 (a b:bL) (la ca lb cb:Nat) (aT:a.block≠b.block) (tA tB:aM) (kA kB:Nat)
 (Ji:w.shape? a.block=some (tA,kA)) (Dj:w.shape? b.block=some (tB,kB)) (Px:kB≠0)
 (vI:w.frozen? a=false) (Oc:w.frozen? {block:=a.block,off:=kA}=false):
 (ziZ #[tS,tS] #[tR] #[.slice (some a) la ca,.slice (some b) lb cb]).run P w=.ok (.bool false) w:=
 Lib.run_overlaps_apart w tS tR e ht i.size (λw=>by simp[sizeOf,typeInfo,hi]) a b la ca lb cb aT tA tB kA kB Ji Dj Px vI Oc
section
variable {P:bS}{w:aE}{es:Array Event}
def zt6 (a:bL):(frozen a).events P w es=es:=rfl
def zls (a:bL):(frozen a).run P w=.ok (w.frozen? a) w:=rfl
def zmf (r:Nat):(shape r).events P w es=es:=rfl
def Wk (r:Nat):(shape r).run P w=.ok (w.shape? r) w:=rfl
variable {a:bL}{t:aM}{n:Nat}
theorem zw2 (h:w.shape? a.block=some (t,n)):(noView a).events P w es=es:=by
 unfold noView viewAt;simp[zmf,Wk,h]
theorem zvz (h:w.shape? a.block=some (t,n)):(noView a).run P w=.ok () w:=by
 unfold noView viewAt;simp[Wk,h]
theorem zwc (h:w.shape? a.block=some (t,n)):(stringish a).events P w es=es:=by
 unfold stringish;cases hf:w.frozen? a<;>simp[zt6,zls,zmf,Wk,h,hf]
theorem zg0 (h:w.shape? a.block=some (t,n)):(stringish a).run P w=.ok (w.frozen? a||w.frozen? ⟨a.block,n,none⟩) w:=by
 unfold stringish;cases hf:w.frozen? a<;>simp[zls,Wk,h,hf]
theorem zGM {b:bL}{tA tB:aM}{kA kB:Nat}(Ji:w.shape? a.block=some (tA,kA))(Dj:w.shape? b.block=some (tB,kB))(vI:w.frozen? a=false)(Oc:w.frozen? ⟨a.block,kA,none⟩=false)(Px:kB≠0):
 (mayBeOne a b).events P w es=es/\(mayBeOne a b).run P w=.ok false w:=by
 cases kB with
 |zero=>exact absurd rfl Px
 |succ kB=>
  unfold mayBeOne;constructor
  .simp[zwc Ji,zg0 Ji,zwc Dj,zg0 Dj,vI,Oc,zmf,Wk,Ji,Dj]
  .simp[zg0 Ji,zg0 Dj,vI,Oc,Wk,Ji,Dj]
end
theorem zJh (w:aE)(es:Array Event)(tS tR e:aM)(ht:P.underlying tS=some (.slice e))(hi:P.info? e=some i)
 (a b:bL) (la ca lb cb:Nat) (aT:a.block≠b.block) (tA tB:aM) (kA kB:Nat)
 (Ji:w.shape? a.block=some (tA,kA)) (Dj:w.shape? b.block=some (tB,kB)) (Px:kB≠0)
 (vI:w.frozen? a=false) (Oc:w.frozen? {block:=a.block,off:=kA}=false):
 (ziZ #[tS,tS] #[tR] #[.slice (some a) la ca,.slice (some b) lb cb]).events P w es=es:=by
 have nL:(a.block !=b.block)=true:=by simpa using aT
 have zGb:(a.block==b.block)=false:=by simpa using aT
 change Sem.events P (α:=aF) (do
  let some t:=(#[tS,tS]:Array aM)[0]? |stuck "slices.overlaps: no parameter types"
  let .slice elem<-underlying t|stuck "slices.overlaps: slice type expected"
  let size<-sizeOf elem
  match(some a:Option bL),(some b:Option bL) with
  |some a,some b=>
   if la=0\/lb=0\/size=0 then pure (M5 false)
   else if a.block !=b.block&&(<-frozen a)&&(<-frozen b) then unsupported .addressObserved
   else do
    if a.block !=b.block then do
     noView a;noView b
     if<-mayBeOne a b then return M5 ((<-choose (.extern "sameAddr.stringBytes" 2))==1)
    pure (M5 (a.block==b.block&&a.off<b.off+lb*size&&b.off<a.off+la*size))
  |_,_=>pure (M5 false)) w es=_
 by_cases h0:la=0\/lb=0\/i.size=0
 .simp[wU ht,sizeOf,typeInfo,hi,h0]
 .obtain⟨m1,m2⟩:=zGM (P:=P) (es:=es) Ji Dj vI Oc Px
  simp[wU ht,sizeOf,typeInfo,hi,h0,nL,zGb,zt6,zls,vI,zw2 Ji,zvz Ji,zw2 Dj,zvz Dj,m1,m2]
section
variable {L:Type}{C:Cx L}{l:L}
variable {o:aZ}{f:aP}{kH:Array aM}{e:Array aF->Sem aF}{w:aE}
theorem zCy {p:bS}{args:Array cM}(hop:o.op=.call ⟨.value (.func f),args,kH⟩){ρ:cM->aF}(hρ:ρ (.func f)=.func (.func f) #[] #[]){fn:Func}(hf:p.funcs[f]? =some fn)
 (hn:(fn.name== "runtime.NumGoroutine")=false) (hb:fn.body.isNone=true) (h1:zr4 fn=none)  (h2:zve fn=some e) {w':aE} {v:aF} (hr:(e (args.map ρ)).run p w=.ok v w') (he:∀es,(e (args.map ρ)).events p w es=es):
 (aS ρ o).run p w=.ok (.value v) w'/\(aS ρ o).events p w #[]=#[⟨.mark (.extern f),false,true⟩]:=by
 obtain⟨dst,yJ,type,pos,after,guard⟩:=o;simp only at hop;subst hop;have sV:¬fn.name= "runtime.NumGoroutine" :=by simpa using hn
 have b6:fn.body=none:=by simpa using hb
 constructor
 .simp[aS,resolve,Bu,hρ,invoke,callFunc,program,mark,Sem.run,hf,sV,b6,h1,h2,hr]
 .simp[aS,resolve,Bu,hρ,invoke,callFunc,hf,sV,b6,h1,h2,he]
theorem BO.overlaps (ha:C.alone=none)(hI:fG C){fn:aP}{tmps:Array aF}{ops:Array aZ}{i:Nat}{rest:List Nat}{k:List eE}{x y:cM}{A B:bL}{la ca lb cb:Nat}{t tr e:aM}{sz:Nat}{zi9 zcn:Array aF}{TA TB:aM}{zj6:Nat×Nat}
 (H:OvFn C.p f t tr e sz) (ho:ops[i]? =some o) (cD:dF o (dR ops tmps)=true) (hop:o.op=.call ⟨.value (.func f),#[x,y],kH⟩) (sC:dQ C.fs x=true) (Dr:dQ C.fs y=true) (hx:(bH tmps []).eval x=.slice (some A) la ca) (hy:(bH tmps []).eval y=.slice (some B) lb cb)
 (aT:A.block≠B.block) (hA:w.heap[A.block]? =some (.cells zi9 TA (0,0))) (hB:w.heap[B.block]? =some (.cells zcn TB zj6)) (hz:zcn.size≠0) (lH:∀s,o.dst=some s->s∉C.S)
 (h1:BO C l ⟨fn,(cC ⟨tmps,[]⟩ o.dst (.bool false)).tmps,.inRegion ops rest::k,false⟩ w):BO C l ⟨fn,tmps,.inRegion ops (i::rest)::k,false⟩ w:=by
 intro R W m' τ hw hm ht hi;obtain⟨fn',bQ,yQ,y3⟩:=m';obtain rfl:=hm.fn;obtain rfl:=hm.todo;obtain rfl:=hm.ret;have uD:=Hu (C:=C) hm.tmps cD;have hb:(C.ds.base fn).kind≠ .early:=C.ds.ok;have vx:=Hq (C:=C) (d:=C.ds.ds) hm.tmps sC;have vy:=Hq (C:=C) (d:=C.ds.ds) hm.tmps Dr;rw[hx] at vx;rw[hy] at vy;obtain⟨fnf,g1,g2,g3,g4,g5⟩:=H.fn;obtain⟨ie,jY,cG⟩:=H.inf;rw[mG,Cx.B_none ha];refine bZ.own rfl trivial λaV s=>?_;have dJ:C.Rel R w aV:=Cx.Rel.suf (C:=C) hw ht s;have yI:=hI.suf _ _ _ _ hi s;generalize hex:(bH bQ C.ds.ds).eval x=vx' at vx;generalize zBa:(bH bQ C.ds.ds).eval y=vy' at vy
 cases vx with
 |slice qa=>
  cases qa with
  |some qa=>
   cases qa with
   |mk ra=>
    cases vy with
    |slice qb=>
     cases qb with
     |some qb=>
      cases qb with
      |mk rb=>
       rename_i a a' oa sa b b' ob sb;obtain⟨o1,o2,k1,k2,k3⟩:=dJ.cont _ _ ra;obtain⟨p1,p2,q1,q2,q3⟩:=dJ.cont _ _ rb;rw[hA] at k1;obtain rfl:=cE k1;rw[hB] at q1;obtain rfl:=cE q1
       cases k3 with
       |cells pR vI=>
        cases q3 with
        |cells Jk zLL=>
         rename_i cA' fA' zlV fB';have ziK:∀n,aV.frozen? ⟨a',n,none⟩=false:=λn=>by
          simp only[Ri,k2]
          cases hq:(decide (fA'.1<=n)&&decide (n<fA'.2)) with
          |false=>rfl
          |true=>
           have:=vI n (by simpa[Lr] using hq);unfold Lr at this;omega
         have zxt:aV.frozen? ⟨a',oa,sa⟩=false:=by
          have:=ziK oa;simpa[Ri] using this
         have Vl:a'≠b':=λe=>aT (dJ.inj' _ _ _ (.inl ra) (.inl (e▸rb)));have sA:aV.shape? a'=some (TA,cA'.size):=by simp[zcq,k2]
         have sB:aV.shape? b'=some (TB,zlV.size):=by simp[zcq,q2]
         have sH:(#[x,y]:Array cM).map (bH bQ C.ds.ds).eval=#[.slice (some ⟨a',oa,sa⟩) la ca,.slice (some ⟨b',ob,sb⟩) lb cb]:=by
          simp only[uI,fO,tW,hex,zBa]
         have r1:=zyZ (P:=C.p) aV t tr e H.un jY ⟨a',oa,sa⟩ ⟨b',ob,sb⟩ la ca lb cb Vl TA TB _ _ sA sB (by rw[<-Jk.1];exact hz) zxt (ziK _);have r2:=λes=>zJh (P:=C.p) aV es t tr e H.un jY ⟨a',oa,sa⟩ ⟨b',ob,sb⟩ la ca lb cb Vl TA TB _ _ sA sB (by rw[<-Jk.1];exact hz) zxt (ziK _);obtain⟨x1,x2⟩:=zCy (p:=C.p) (o:=o) hop (ρ:=(bH bQ C.ds.ds).eval) rfl g1 g2 g3 g4 g5 (by rw[sH];exact r1) (by rw[sH];exact r2);have aY:=zjh (main:=C.main) (b:=C.ds.base fn) (rest:=rest) (k:=k) (cs:=C.base) ho uD hb x1;have hl:∀ev∈wJ C.p (C.ds.base fn).fn ⟨bQ,C.ds.ds⟩ o aV,ev=⟨.mark (.extern f),false,true⟩:=λev mJ=>by
          unfold wJ at mJ;rw[x2] at mJ;simpa using mem_seen mJ
         refine⟨_,aV,_,aY,rfl,zP.id _ _,λev mJ=>?_,?_⟩
         .rw[hl ev mJ];trivial
         .rw[deafBehind_still (λev mJ=>by rw[hl ev mJ];exact⟨aO,aO⟩)]
          have Fw:cC ⟨bQ,C.ds.ds⟩ o.dst (.bool false)=⟨(cC ⟨bQ,C.ds.ds⟩ o.dst (.bool false)).tmps,C.ds.ds⟩:=by cases o.dst<;>rfl
          rw[Fw,<-mG,<-Cx.B_none ha];have L2:=hI.step R τ aV R aV yI ht ⟨λ_ _ x=>x,rfl,rfl,rfl,aX _,λa b x=>.inl x,λb _ _=>rfl⟩;exact h1 R aV ⟨fn,_,_,false⟩ _ dJ ⟨rfl,rfl,rfl,Jf (C:=C) hm.tmps (.bool false),Jn (C:=C) hm.pins lH⟩ (λa b x=>⟨(ht a b x).1,λz=>.inl ((ht a b x).2 z)⟩) L2
end
section
variable {d:pN}{f:aP}{s:WS}{ops:Array aZ}{i:Nat}{rest:List Nat}{Φ:WS->Prop}{o:aZ}
def CR.overlaps (H:d.Ok){x y:cM}{g:aP}{kH:Array aM}{A B:bL}{la ca lb cb:Nat}{t tr e:aM}{sz:Nat}{zi9 zcn:Array aF}{TA TB:aM}{zj6:Nat×Nat}
 (HO:OvFn d.p g t tr e sz) (ho:ops[i]? =some o) (cD:dF o (dR ops s.T)=true) (hop:o.op=.call ⟨.value (.func g),#[x,y],kH⟩) (sC:dQ d.fs x=true) (Dr:dQ d.fs y=true) (hx:(bH s.T []).eval x=.slice (some A) la ca) (hy:(bH s.T []).eval y=.slice (some B) lb cb)
 (aT:A.block≠B.block) (hA:s.w.heap[A.block]? =some (.cells zi9 TA (0,0))) (hB:s.w.heap[B.block]? =some (.cells zcn TB zj6)) (hz:zcn.size≠0)
 (h:CR d f ops rest {s with T:=(cC ⟨s.T,[]⟩ o.dst (.bool false)).tmps} Φ):CR d f ops (i::rest) s Φ:=λQ base kk hQ h1=>
 BO.overlaps (C:=d.cx s.K Q s.chs base .nil []) rfl (H.iok hQ) HO ho cD hop sC Dr hx hy aT hA hB hz (λ_ _=>lZ) (h Q base kk hQ h1)
end
end Go.Mt
namespace Go.Proofs.YtfcjiloojkjaeaaGreatDoor
open Go.RowKit Go.Mt Go.Conc Go.Tt Go.Maps
def sA:vX->vX| .seq a _=>a|_=>.skip
def sB:vX->vX| .seq _ b=>b|_=>.skip
def cA:vX->vX| .cond _ a _=>a|_=>.skip
def cB:vX->vX| .cond _ _ b=>b|_=>.skip
def cX:vX->cM| .cond x _ _=>x|_=>.const aA
def bI:vX->Nat| .block i _=>i| .region i _ _=>i|_=>0
def rO:vX->Array aZ| .region _ o _=>o|_=>#[]
def N3:Nat->List aF->List aF
 |0,_=>[]
 |n+1,[]=>aA::N3 n []
 |n+1,a::l=>a::N3 n l
theorem zxg:∀n,N3 n []=zos n aA
 |0=>rfl
 |n+1=>by rw[N3,zxg n];rfl
theorem zxK:∀(n:Nat) (l:List aF),l.length<=n->l++zos (n-l.length) aA=N3 n l
 |n,[],_=>by rw[zxg];simp
 |n+1,a::l,h=>by
  simp only[List.length_cons,Nat.add_sub_add_right,List.cons_append,N3];rw[zxK n l zgM]
theorem pad_eq {n:Nat}{l T:List aF}(hl:l.length<=n)(hT:N3 n l=T):l.toArray++nU (n-l.toArray.size) aA=T.toArray:=by
 subst hT;rw[<-zxK n l hl];simp
structure Ho where
 ty:aM
 Wg:Nat
 N:Nat
 W:List fH
 D:aE->Prop
 Fin:bC->aE->Prop
 St:Nat->Prop
 W0:aE
 StI:Nat->Prop
 Shun:Loc->Prop
 SS:Nat->Prop
 R0:Pr
 Fz:Nat->Prop
 Wf:aE
 qs:List Nat
abbrev Ho.d (e:Ho):pN:=⟨aK,Cf,gE,e.ty,e.Wg,e.N,e.W,e.D,e.Fin,e.St,e.W0,e.StI,e.Shun,e.SS,e.R0,e.Fz,e.Wf,e.qs⟩
section
variable {d:pN}{f:aP}{s:WS}{B:List Nat}{c:vX}
def CW.tape {Φ:n5->WS->Prop}(h:CW d B f c s Φ)(T:jW)(n:Nat):CW d B f c {s with w:=Tt.tp s.w T n} Φ:=λQ base kk hQ hB h1 h2 h3=>BO.tape (h Q base kk hQ hB h1 h2 h3) T n
def CW.pieceQ {Φ:n5->WS->Prop}(H:d.Ok)(hc:oI d.p ⟨d.fs,d.gs,true⟩ c=true)(hf:wC d.p f)(rL:∀(T:jW) (Q:n5->tK->aE->Prop),qC (∀a' w',Φ .normal {s with T:=a'.tmps,w:=w'}->Q .normal a' w')->Code.wp d.p c Q ⟨s.T,[]⟩ (Tt.tp s.w T 0)):CW d B f c s Φ:=
 CW.piece H hc hf λT=>rL T _ (aD λa' w' h=>⟨rfl,h⟩)
theorem CW.pH {Φ:n5->WS->Prop}{lo hb:Nat}{v v0:fJ}{dd:nM}{w0:aE}(H:d.Ok)(hf:wC d.p f)(A:qC (bE s.w lo hb v dd))(T:qC (bM hb v0 w0 v s.w))
 (rL:∀(w1:aE) (Q:n5->tK->aE->Prop),s.w.heap=w1.heap->qC (bE w1 lo hb v dd)->qC (bM hb v0 w0 v w1)->qC (∀a' w',Φ .normal {s with T:=a'.tmps,w:=w'}->Q .normal a' w')->Code.wp d.p c Q ⟨s.T,[]⟩ w1)
 (hc:oI d.p ⟨d.fs,d.gs,true⟩ c=true:=by kernel_rfl):CW d B f c s Φ:=
 CW.pieceQ H hc hf λ_ Q HQ=>rL _ Q rfl (aD (A.o.same rfl)) (aD (T.o.same rfl)) HQ
variable {ops:Array aZ}{i:Nat}{rest is:List Nat}{Φ:WS->Prop}{o:aZ}
def CR.tape (h:CR d f ops is s Φ)(T:jW)(n:Nat):CR d f ops is {s with w:=Tt.tp s.w T n} Φ:=λQ base kk hQ h1=>BO.tape (h Q base kk hQ h1) T n
def CR.opw (H:d.Ok)(ho:ops[i]? =some o)(cD:dF o (dR ops s.T)=true)(bU:sG d.p ⟨d.fs,d.gs,true⟩ o.op=true){v:aF}(hx:∀T,(aS (bH s.T []).eval o).run d.p (Tt.tp s.w T 0)=.ok (.value v) (Tt.tp s.w T 0))
 (h:CR d f ops rest {s with T:=(cC ⟨s.T,[]⟩ o.dst v).tmps} Φ):CR d f ops (i::rest) s Φ:=
 CR.op H ho cD bU λT=>⟨v,Tt.tp s.w T 0,.inl (hx T),CR.tape h T 0⟩
theorem nP {P Q:Prop}(k:Q)(h:Q->P:=by intro q;first|(simp only[Go.Act.put,List.setIfInBounds_toArray,List.set_cons_zero,List.set_cons_succ];exact q)|exact q):P:=h k
theorem CR.sto (H:d.Ok)(ho:ops[i]? =some o)(cD:dF o (dR ops s.T)=true)(bU:sG d.p ⟨d.fs,d.gs,true⟩ o.op=true)(hd:o.dst=none){w':aE}(hx:∀T,(aS (bH s.T []).eval o).run d.p (Tt.tp s.w T 0)=.ok .skip (Tt.tp w' T 0))
 (h:CR d f ops rest {s with w:=w'} Φ):CR d f ops (i::rest) s Φ:=
 CR.op H ho cD bU λT=>⟨aA,Tt.tp w' T 0,.inr ⟨hx T,rfl⟩,by
  have:=CR.tape h T 0;have e:(cC ⟨s.T,[]⟩ o.dst aA).tmps=s.T:=by rw[hd];rfl
  rw[e];exact this⟩
end
section
variable {d:pN}{f:aP}{s:WS}{B:List Nat}{c:vX}
theorem CW.sq (H:d.Ok){Φ:n5->WS->Prop}(h:CW d B f (sA c) s (λe s'=>match e with| .normal=>CW d B f (sB c) s' Φ|e=>Φ e s'))(e:c=.seq (sA c) (sB c):=by exact rfl):CW d B f c s Φ:=by
 rw[e];exact CW.seq H h
theorem CW.cd (H:d.Ok){Φ:n5->WS->Prop}(t:Bool)(h:CW d B f (if t then cA c else cB c) s Φ)(e:c=.cond (cX c) (cA c) (cB c):=by exact rfl)(hx:dQ d.fs (cX c)=true:=by exact rfl)(hc:(bH s.T []).eval (cX c)=.bool t:=by exact rfl):CW d B f c s Φ:=by
 rw[e];exact CW.cond H hx hc h
theorem CW.sk (H:d.Ok){Φ:n5->WS->Prop}(h:Φ .normal s)(e:c=.skip:=by exact rfl):CW d B f c s Φ:=by
 rw[e];exact CW.skip H h
theorem CW.rt (H:d.Ok){Φ:n5->WS->Prop}(h:Φ .ret s)(e:c=.ret:=by exact rfl):CW d B f c s Φ:=by
 rw[e];exact CW.ret H h
theorem CW.rg (H:d.Ok){Φ:n5->WS->Prop}(is:List Nat)(h:CR d f (rO c) is s (λs'=>Φ .normal s'))(e:c=.region (bI c) (rO c) false:=by exact rfl)(hr:gF (rO c).size=is:=by exact rfl):CW d B f c s Φ:=by
 rw[e];exact CW.reg H is hr h
theorem CW.pQ {c':vX}{Φ:n5->WS->Prop}(H:d.Ok)(hf:wC d.p f)(rL:∀(T:jW) (Q:n5->tK->aE->Prop),qC (∀a' w',Φ .normal {s with T:=a'.tmps,w:=w'}->Q .normal a' w')->Code.wp d.p c' Q ⟨s.T,[]⟩ (Tt.tp s.w T 0))
 (e:c=c':=by conv=>lhs;whnf) (hc:oI d.p ⟨d.fs,d.gs,true⟩ c=true:=by kernel_rfl):CW d B f c s Φ:=by
 subst e;exact CW.pieceQ H hc hf rL
variable {v0:fJ}{dd:nM}{w0:aE}
theorem CW.pW {c':vX}{Φ:n5->WS->Prop}{lo hb:Nat}{v:fJ}(H:d.Ok)(hf:wC d.p f)(A:qC (bE s.w lo hb v dd))(T:qC (bM hb v0 w0 v s.w))
 (rL:∀(w1:aE) (Q:n5->tK->aE->Prop),s.w.heap=w1.heap->qC (bE w1 lo hb v dd)->qC (bM hb v0 w0 v w1)->qC (∀a' w',Φ .normal {s with T:=a'.tmps,w:=w'}->Q .normal a' w')->Code.wp d.p c' Q ⟨s.T,[]⟩ w1)
 (e:c=c':=by conv=>lhs;whnf) (hc:oI d.p ⟨d.fs,d.gs,true⟩ c=true:=by kernel_rfl):CW d B f c s Φ:=by
 subst e;exact CW.pH H hf A T rL hc
theorem CW.p0 {c':vX}{T':Array aF}{Φ:n5->WS->Prop}{lo hb:Nat}{v:fJ}(H:d.Ok)(hf:wC d.p f)(A:qC (bE s.w lo hb v dd))(T:qC (bM hb v0 w0 v s.w))
 (h:∀w1:aE,s.w.heap=w1.heap->qC (bE w1 lo hb v dd)->qC (bM hb v0 w0 v w1)->Φ .normal {s with T:=T',w:=w1})
 (e:c=c':=by conv=>lhs;whnf) (rL:∀(w1:aE) (Q:n5->tK->aE->Prop),qC (∀a':tK,a'.tmps=T'->Q .normal a' w1)->Code.wp d.p c' Q ⟨s.T,[]⟩ w1:=by(intro w1 Q HQ;go_wp2;exact HQ.o _ rfl))
 (hc:oI d.p ⟨d.fs,d.gs,true⟩ c=true:=by kernel_rfl):CW d B f c s Φ:=by
 subst e;exact CW.pH H hf A T (λw1 Q hw A1 T1 HQ=>rL w1 Q (aD λa' ha=>HQ.o a' w1 (ha▸h w1 hw A1 T1))) hc
variable {K:Pr}{w:aE}
theorem CF.of {g:aP}{l:List aF}{L:gO}{Ψ:Pr->gO->aF->aE->Prop}{fnf:Func}(n:Nat){T:List aF}(hf:d.p.funcs[g]? =some fnf)(hp:C3 fnf.results.toList)
 (h:CW d [] g (fnf.body.getD .skip) ⟨[],K,L,T.toArray,w⟩ (λe s'=>(e=.normal\/e=.ret)/\s'.chs=[]/\∃v,(oK fnf.results.toList s'.T).run d.p s'.w=.ok v s'.w/\Ψ s'.K s'.l v s'.w))
 (hT:N3 n l=T:=by(simp only[N3];rfl)) (hl:l.length<=n:=by exact Nat.le_of_ble_eq_true rfl) (hn:fnf.ntmps=n:=by exact rfl) (hb:fnf.body=some (fnf.body.getD .skip):=by exact rfl) (hr:(fnf.name== "runtime.NumGoroutine")=false:=by decide):CF d g l.toArray K L w Ψ:=
 ⟨⟨fnf,_,hf,hr,hb,hp,by rw[hn,pad_eq hl hT];exact h⟩⟩
variable {ops:Array aZ}{i:Nat}{rest:List Nat}{Φ:WS->Prop}{o:aZ}
def zdq {o':aZ}(h:ops[i]? =some o')(e:o'=o):ops[i]? =some o:=e▸h
variable {l:gO}
theorem CR.mv {chs:List Nat}{T T':Array aF}(H:d.Ok)(v:aF)(h:CR d f ops rest ⟨chs,K,l,T',w⟩ Φ)(ho:ops[i]? =some o:=by exact zdq rfl (by conv=>lhs;whnf))
 (hx:∀τ,(aS (bH T []).eval o).run d.p (Tt.tp w τ 0)=.ok (.value v) (Tt.tp w τ 0):=by exact λ_=>rfl)
 (cD:dF o (dR ops T)=true:=by exact rfl) (bU:sG d.p ⟨d.fs,d.gs,true⟩ o.op=true:=by kernel_rfl)
 (ht:(cC ⟨T,[]⟩ o.dst v).tmps=T':=by first|(simp only[Go.Act.put,List.setIfInBounds_toArray,List.set_cons_zero,List.set_cons_succ];done)|(simp only[Go.Act.put,List.setIfInBounds_toArray,List.set_cons_zero,List.set_cons_succ];rfl)):CR d f ops (i::rest) ⟨chs,K,l,T,w⟩ Φ:=
 CR.opw (s:=⟨chs,K,l,T,w⟩) H ho cD bU hx (ht▸h)
theorem CR.mg {chs:List Nat}{T T':Array aF}(H:d.Ok)(v:aF)(h:CR d f ops rest ⟨chs,K,l,T',w⟩ Φ)(ho:ops[i]? =some o:=by exact zdq rfl (by conv=>lhs;whnf))
 (hx:∀τ,(aS (bH T []).eval o).run d.p (Tt.tp w τ 0)=.ok (.value v) (Tt.tp w τ 0):=by intro τ;unfold execOp;go_simp)
 (cD:dF o (dR ops T)=true:=by exact rfl) (bU:sG d.p ⟨d.fs,d.gs,true⟩ o.op=true:=by kernel_rfl)
 (ht:(cC ⟨T,[]⟩ o.dst v).tmps=T':=by first|(simp only[Go.Act.put,List.setIfInBounds_toArray,List.set_cons_zero,List.set_cons_succ];done)|(simp only[Go.Act.put,List.setIfInBounds_toArray,List.set_cons_zero,List.set_cons_succ];rfl)):CR d f ops (i::rest) ⟨chs,K,l,T,w⟩ Φ:=
 CR.opw (s:=⟨chs,K,l,T,w⟩) H ho cD bU hx (ht▸h)
theorem allx {fs:aP->Bool}{l:List cM}(h:l.all (dQ fs)=true):l.toArray.all (dQ fs)=true:=by simpa using h
theorem CR.cl {T:Array aF}(H:d.Ok){g:aP}{args:List cM}{kH:Array aM}{Ψ:Pr->gO->aF->aE->Prop}{Ny:Array aF}
 (hc:CF d g Ny K l w Ψ) (hk:∀K' l' v w',K.le K'->Ψ K' l' v w'->CR d f ops rest ⟨[],K',l',(cC ⟨T,[]⟩ o.dst v).tmps,w'⟩ Φ)
 (ho:ops[i]? =some o:=by exact zdq rfl (by conv=>lhs;whnf)) (hop:o.op=.call ⟨.value (.func g),args.toArray,kH⟩:=by exact rfl) (cD:dF o (dR ops T)=true:=by exact rfl) (sH:args.all (dQ d.fs)=true:=by exact rfl) (ha:args.toArray.map (bH T []).eval=Ny:=by(simp only[List.map_toArray,List.map_cons,List.map_nil];rfl)):CR d f ops (i::rest) ⟨[],K,l,T,w⟩ Φ:=
 CR.call (s:=⟨[],K,l,T,w⟩) H ho cD hop (allx sH) rfl (by rw[ha];exact hc) hk
end
section
variable {P:bS}{o:aZ}{Tf:Array aF}{w:aE}{A B C D:Prop}
theorem uG (v:aF)(a:A)(h:A->(aS (bH Tf []).eval o).run P w=.ok (.value v) w:=by(intro e1;(conv at e1=>rhs;whnf);unfold execOp;go_simp)):(aS (bH Tf []).eval o).run P w=.ok (.value v) w:=h a
theorem rd2 (v:aF)(a:A)(b:B)(h:A->B->(aS (bH Tf []).eval o).run P w=.ok (.value v) w:=by(intro e1 e2;(conv at e1=>rhs;whnf);unfold execOp;go_simp)):(aS (bH Tf []).eval o).run P w=.ok (.value v) w:=h a b
theorem rd4 (v:aF)(a:A)(b:B)(c:C)(d:D)(h:A->B->C->D->(aS (bH Tf []).eval o).run P w=.ok (.value v) w:=by(intro e1 e2 e3 e4;(conv at e1=>rhs;whnf);unfold execOp;go_simp)):(aS (bH Tf []).eval o).run P w=.ok (.value v) w:=h a b c d
end
def zlh:Go.Code:=(Tryz.f82.body).getD .skip
def rAO1:Go.Code:=match zlh with| .seq _ (.seq (a) _)=>a|_=>.skip
def rAO2:Go.Code:=match zlh with| .seq _ (.seq _ (.seq (a) _))=>a|_=>.skip
def rAO3:Go.Code:=match zlh with| .seq _ (.seq _ (.seq _ (.seq (a) _)))=>a|_=>.skip
def opsAO1:Array Oper:=match rAO1 with| .region _ ops _=>ops|_=>#[]
abbrev oAO1_0:Oper:=⟨some 10,.makeChan 84 (.const (.int .i64 0)),84,"l6_office.go:99",#[],none⟩
def zDj:opsAO1[0]? =some oAO1_0:=rfl
def opsAO2:Array Oper:=match rAO2 with| .region _ ops _=>ops|_=>#[]
abbrev oAO2_12:Oper:=⟨none,.send (.tmp 18) (.tmp 22),0,"l6_office.go:100",#[⟨7,.data⟩,⟨11,.data⟩],none⟩
def zJi:opsAO2[12]? =some oAO2_12:=rfl
def opsAO3:Array Oper:=match rAO3 with| .region _ ops _=>ops|_=>#[]
abbrev oAO3_1:Oper:=⟨some 24,.recv 84 (.tmp 23) false,3,"l6_office.go:101",#[⟨0,.data⟩],none⟩
def zIV:opsAO3[1]? =some oAO3_1:=rfl
def fokAO:wC aK 82:=⟨_,zqL,.inr (.inl ⟨_,rfl⟩)⟩
theorem zIW:∃ie,aK.info? 3=some ie/\ie.zero=some (.int .i64 0):=by
 obtain⟨i0,hi,gX,_,_⟩:=info_parts zot;exact⟨i0,hi,gX⟩
theorem zc7 {e:Ho}(H:e.d.Ok){K:Pr}{k q:Nat}{w:aE}{lo hb:Nat}{v:fJ}{d:nM}{kd cl ans:Int}(h:bE w lo hb v d)(hW:e.W[k]? =some (.ask q kd cl ans))(hq:q<d.qn.length)(yS:q<=100)(hK:∀(i g:Nat),d.qn[i]? =some g->K g (qa e.qs i)):
 CF e.d 82 #[.pointer (some ⟨hb,0,none⟩),.int .i64 ((q:Int)+1),.int .i64 kd,.int .i64 cl] K (.wk e.qs k) w (λK' l' x w'=>l'=.wk e.qs (k+1)/\x=.int .i64 ans/\w'=w.alloc oY):=by
 refine CF.of 25 zqL (.inr (.inl ⟨_,rfl⟩)) ?_;obtain⟨AQ,cQ,zbt,hs⟩:=Gh h.Q aH;obtain⟨bq,off,g,rfl,hg,hv⟩:=zho hs hq;have zgi:=aJ h.blk 6;have k6:w.cell? ⟨hb,6,none⟩=some (.slice (some ⟨bq,off,none⟩) d.qn.length cQ):=by rw[zgi,<-zbt];rfl
 have zy8:=hK q g hg;obtain⟨ie,jY,hz⟩:=zIW;clear zgi zbt hs hg hK h;refine CW.sq H ?_;refine CW.pQ H fokAO (λTp Q HQ=>?_);go_wp2;refine HQ.o _ _ ?_;clear HQ;refine CW.tape (s:=⟨[],K,.wk e.qs k,_,w⟩) ?_ Tp 0;refine CW.sq H ?_;refine CW.rg H [0,1] ?_;refine CR.make H zDj rfl rfl zqK jY rfl (λa=>?_);simp only[cC,gK,dU,dV];refine CR.mv H (.chan (some w.heap.size)) ?_;refine CR.nil H ?_;have zpf:(w.alloc oY).cell? ⟨hb,6,none⟩=some (.slice (some ⟨bq,off,none⟩) d.qn.length cQ):=Ae k6 _;have zrq:(w.alloc oY).cell? ⟨bq,off+q,none⟩=some (.chan (some g)):=Ae hv _;have i0:(0:Int)<=(q:Int):=aC;have i1:(q:Int)<(d.qn.length:Int):=aC;generalize fA:w.alloc oY=w1 at zpf zrq;refine CW.sq H ?_;refine CW.rg H [0,1,2,3,4,5,6,7,8,9,10,11,12] ?_;refine CR.mv H (.pointer (some ⟨hb,0,none⟩)) ?_;refine CR.mv H (.pointer (some ⟨hb,0,none⟩)) ?_;refine CR.mg H (.pointer (some ⟨hb,6,none⟩)) ?_;refine CR.mv H (.slice (some ⟨bq,off,none⟩) d.qn.length cQ) ?_ (hx:=λT=>by have hh:(Tt.tp w1 T 0).cell? _=_:=zpf;unfold aS;go_simp);refine CR.mv H (.int .i64 ((q:Int)+1)) ?_;refine CR.mv H (.int .i64 (q:Int)) ?_ (hx:=λT=>by unfold aS;go_simp;try exact D9 aC aC);refine CR.mg H (.pointer (some ⟨bq,off+q,none⟩)) ?_;refine CR.mv H (.chan (some g)) ?_ (hx:=λT=>by have hh:(Tt.tp w1 T 0).cell? _=_:=zrq;unfold aS;go_simp);refine CR.mv H (.int .i64 kd) ?_;refine CR.mv H (.int .i64 cl) ?_;refine CR.mv H (.chan (some w.heap.size)) ?_;refine CR.mv H (.agg #[.int .i64 kd,.int .i64 cl,.chan (some w.heap.size)]) ?_ (hx:=λT=>by unfold aS;go_simp;try rfl);refine CR.ask H (k:=k) (q:=q) (a:=a) zJi rfl rfl rfl rfl rfl hW rfl rfl (.inl zy8) rfl (.inr ⟨rfl,rfl⟩) ?_
 try simp only[cC,gK,dU,dV]
 refine CR.nil H ?_;refine CW.sq H ?_;refine CW.rg H [0,1,2] ?_;refine CR.mv H (.chan (some w.heap.size)) ?_;refine CR.ans H (k:=k) (q:=q) (a:=a) zIV rfl rfl zqK jY hz rfl rfl hW rfl rfl (.inr ⟨rfl,rfl⟩) ?_;simp only[cC,gK,dU,dV];refine CR.mv H (.int .i64 ans) ?_;refine CR.nil H ?_;refine CW.rt H ?_;exact⟨.inr rfl,rfl,.int .i64 ans,rfl,rfl,rfl,by first|rfl|exact fA.symm|(subst fA;rfl)⟩
end Go.Proofs.YtfcjiloojkjaeaaGreatDoor
namespace Go.Proofs.YtfcjiloojkjaeaaGreatDoor
open Go.RowKit
variable {v v':fJ}{d:nM}
theorem gC.of (h:gC v d)(hc:v'.pC=v.pC)(ho:v'.pO=v.pO)(hm:v'.pM=v.pM){d':nM}(hr:d'.r.recs=d.r.recs)(hl:d'.ln=d.ln):gC v' d':=by
 obtain⟨a,b,c,e,f,g,i,j⟩:=h;exact⟨by rw[hc];exact a,by rw[ho];exact b,by rw[hm];exact c,by rw[hc,hr,hl];exact e,by rw[ho,hr,hl];exact f,by rw[ho,hr];exact g,by rw[hm,hr];exact i,by rw[hm,hr];exact j⟩
structure Wm (B:Nat)(w:aE)(hb:Nat)(v:fJ)(s:aF)(xs:List bJ):Prop where
 row:w.ownsRow B 149 2 s xs.length (bF xs)
 ap:∀b,s.ownBlock=some b->some b∉parts v hb
variable {B hb:Nat}{w:aE}{s:aF}{xs:List bJ}
def Wm.lt (h:Wm B w hb v s xs):∀b,s.ownBlock=some b->B<=b/\b<w.heap.size:=λb e=>h.row.lt b e
theorem Wm.turn {w':aE}(h:Wm B w hb v s xs)(t:bM hb v w v' w'):Wm B w' hb v' s xs:=
 ⟨cJ h.row λb e=>t.block b (h.lt b e).2 (h.ap b e),λb e x=>(t.moved b x).elim (h.ap b e) λy=>by have:=(h.lt b e).2;omega⟩
def wH (d:nM)(m:Int)(k:Nat):nM:={d with r:={(cY d.r m k).1 with wait:=d.r.wait}}
structure Dd (w:aE)(lo hb:Nat)(v:fJ)(d:nM)(m:Int)(k:Nat)(v1:fJ)(s:aF)(wr:aE):Prop where
 at_:bE wr lo hb v1 (wH d m k)
 mr:gC v1 {d with r:=(cY d.r m k).1}
 tn:bM hb v w v1 wr
 kp:zS v v1
 sW:v1.sW=v.sW
 so:Wm w.heap.size wr hb v1 s (sK d.r m k)
def below_drewN (n:Nat):Below w.heap.size w (w.drewN n):=⟨rfl,rfl,rfl,aX _,λ_ _=>rfl⟩
variable {lo k:Nat}{m:Int}{v1:fJ}
def Dd.below {wr w':aE}(h:Dd w lo hb v d m k v1 s wr)(b6:Below wr.heap.size wr w'):Dd w lo hb v d m k v1 s w':=
 ⟨h.at_.below b6,h.mr,h.tn.trans (bM.below b6),h.kp,h.sW,h.so.turn (bM.below b6)⟩
variable {x:bJ}
theorem Dd.more {n:Nat}{s':aF}{wr w':aE}(h:Dd w lo hb v d m k v1 s wr)(hg:wr.grownBy w' s.ownBlock)(cP:w'.ownsRow w.heap.size 149 2 s' n (bF (sK d.r m k)++x.cells))(hn:n=(sK d.r m k).length+1)
 (fB:s'.ownBlock=s.ownBlock\/∀b,s'.ownBlock=some b->wr.heap.size<=b) (e1:cY d.r m (k+1)=cY d.r m k) (e2:sK d.r m (k+1)=sK d.r m k++[x]):Dd w lo hb v d m (k+1) v1 s' w':=by
 have e3:wH d m (k+1)=wH d m k:=by unfold wH;rw[e1]
 refine⟨by rw[e3];exact h.at_.grown hg h.so.ap,by rw[e1];exact h.mr,h.tn.grown hg λb e=>(h.so.lt b e).1,h.kp,h.sW,⟨?_,λb e x=>?_⟩⟩
 .rw[e2]
  have:bF (sK d.r m k++[x])=bF (sK d.r m k)++x.cells:=by simp[bF]
  rw[this,gN];subst hn;exact cP
 .rcases fB with fB|fB
  .exact h.so.ap b (fB▸e) x
  .have:=fB b e;have:=(h.at_.lt b x).2;omega
theorem zBL {i:Nat}(e1:cY d.r m (k+1)=({lE (cY d.r m k).1 i Fc with back:=(cY d.r m k).1.back++[x]},(cY d.r m k).2++[32]++jK x.c)):
 wH d m (k+1)={wH d m k with r:={(wH d m k).r with recs:=(wH d m k).r.recs.modify i (λz=>{z with t:=(wH d m k).r.clk,e:=Fc}),back:=(wH d m k).r.back++[x]}}:=by
 unfold wH;rw[e1];rfl
theorem Dd.fin {wr:aE}(h:Dd w lo hb v d m k v1 s wr)(hk:k=d.r.wait.length)(T:TK d m k)(dW:lo<=w.heap.size)(ha:bE w lo hb v d):
 bE (wr.setCell ⟨hb,7,none⟩ s) lo hb {v1 with sW:=s} {d with r:=(uR d.r m).1}/\gC {v1 with sW:=s} {d with r:=(uR d.r m).1}/\bM hb v w {v1 with sW:=s} (wr.setCell ⟨hb,7,none⟩ s)/\zS v {v1 with sW:=s}:=by
 subst hk;have e0:=TK.end_ T;have e1:(cY d.r m d.r.wait.length).1=(uR d.r m).1:=by rw[zbz]
 have h1:=h.at_.newW (zsl h.so.row dW) rfl h.so.ap;have e2:{wH d m d.r.wait.length with r:={(wH d m d.r.wait.length).r with wait:=sK d.r m d.r.wait.length}}=({d with r:=(uR d.r m).1}:nM):=by
  unfold wH;simp only[e1,<-e0]
 refine⟨by rw[<-e2];exact h1,?_,⟨?_,λb b6 hn=>?_,λb hx=>?_⟩,h.kp⟩
 .have:=h.mr
  rw[e1] at this;exact gC.of (v':={v1 with sW:=s}) this rfl rfl rfl rfl rfl
 .rw[tD];exact h.tn.size
 .exact(eH wr _ _ b (λe=>hn zxx)).trans (h.tn.block b b6 hn)
 .have hp:parts {v1 with sW:=s} hb=(parts v1 hb).set 5 s.ownBlock:=rfl
  rw[hp] at hx;rcases List.mem_or_eq_of_mem_set hx with hx|hx
  .exact h.tn.moved b hx
  .exact .inr (h.so.lt b hx.symm).1
theorem zC3 (h:bE w lo hb v d)(mr:gC v d)(hi:yM d)(dW:lo<=w.heap.size)(ht:Af lo w)(hm:0<=m)(hc:d.r.clk+m<=100000)(zal:d.r.back.length+d.r.wait.length<=5000):
 Calls aK 105 #[.pointer (some ⟨hb,0,none⟩),.int .i64 m] w λe w'=>e=.returned (.string ⟨(uR d.r m).2.toArray⟩)/\∃v',bE w' lo hb v' {d with r:=(uR d.r m).1}/\gC v' {d with r:=(uR d.r m).1}/\bM hb v w v' w'/\zS v v':=by
 have zi3:=aD (TK.all hi hm hc zal);have zit:=hi.sm.clk.1;have zgI:=hi.sm.nw;obtain⟨zMB,zKc⟩:=(Ad hi.R.off).2.2.2.2;obtain⟨AW,cW,Kk,Kr⟩:=Gh h.W aH;obtain⟨n,hn⟩:=aU d.r.wait.length;obtain⟨ck,D3⟩:=aU d.r.clk;have zuc:=aJ h.blk 11;have Fj:w.cell? ⟨hb,11,none⟩=some (.int .i64 ck):=by rw[zuc,D3];rfl
 have kf:=eL h.blk;obtain⟨a1,t1⟩:=h.putClk (ck+m);have Sv:wH d m 0={d with r:={d.r with clk:=ck+m}}:=by rw[D3];rfl
 rw[<-Sv] at a1;have I1:=aD (show Dd w lo hb v d m 0 v (.slice none 0 0) _ from⟨a1,mr.of rfl rfl rfl rfl rfl,t1,zS.rf v,rfl,⟨⟨rfl,.inl ⟨rfl,rfl⟩⟩,λb e=>by cases e⟩⟩);have Fe:=aD (ht.turn h dW t1);have HN:=aD hn;have F8:=aD D3;have Am:=aD (show v.sW=.slice AW n cW by rw[hn];exact Kk);have K6:n<=1000:=aC;rw[<-D3] at hc zit;have Kw:=aD dW;have zKu:=aD ht;have HH:=aD h;clear hn D3 Kk Kr a1 t1 Sv h mr hi dW ht zuc zgI
 go_enter Tryz.func105,Tryz.ntmps105
 go_upto_region 2 with fail
 obtain⟨W1,dH⟩:=aU (w.setCell ⟨hb,11,none⟩ (.int .i64 (ck+m)));rw[<-dH] at I1 Fe⊢;clear dH Fj kf;have Fj:W1.cell? ⟨hb,11,none⟩=some (.int .i64 (ck+m)):=by
  have:=aJ I1.o.at_.blk 11;rw[this,F8.o];rfl
 have E6:=Qn (c:=ck+m) aC aC
 go_upto_region 3 with(go_at_call 112;refine(zF4 Fe.o (ck+m) aC aC).mono ?_;rintro x w3 ⟨rfl,Wb⟩;have zcQ:=aD Wb;clear Wb)
 have I3:=aD (I1.o.below zcQ.o);clear Fj I1 Fe zcQ;have k7:w3.cell? ⟨hb,7,none⟩=some (.slice AW n cW):=by
  have:=aJ I3.o.at_.blk 7;rw[this,<-Am.o];rfl
 have zmt:=aD (show(⟨([97,116,32]++jK (ck+m):List UInt8).toArray⟩:ByteArray)=⟨(cY d.r m 0).2.toArray⟩ by rw[F8.o];rfl)
 go_wp2_with fail
 go_loopw [5,6,28] (λt s i wr=>∃(k:Nat) (v1:fJ) (A:Option bL) (n2 c2:Nat),k<=n/\i=.int .i64 k/\t=.string ⟨(cY d.r m k).2.toArray⟩/\s=.slice A n2 c2/\Dd w lo hb v d m k v1 (.slice A n2 c2) wr) (λ_ _ i _=>n-(intOf i).toNat)
 case atStart=>
  refine⟨0,v,none,0,0,jT _,rfl,?_,rfl,I3.o⟩;rw[<-zmt.o];congr 1
 case round=>
  obtain⟨k,v1,A2,n2,c2,hk,rfl,rfl,rfl,hI⟩:=hrel;have HI:=aD hI;have T:=zi3.o k (by have:=HN.o;omega);have zdS:(cY d.r m k).2.length<=40000:=by have:=T.txt;omega
  have jQ:n2=(sK d.r m k).length:=by
   rcases hI.so.row.2 with⟨e,h0⟩|⟨g,cap,cur,e,_⟩
   .injection e with e1 e2 e3;rw[e2];exact h0.symm
   .injection e with e1 e2 e3
  have zpx:n2<=1000:=by have:=T.le;omega
  have uU:=aD jQ;clear hI jQ;by_cases aN:k<n
  .have hW:=HI.o.at_.W
   rw[HI.o.sW,Am.o] at hW;have hW:wr.ownsRow lo 149 2 (.slice AW n cW) n (bF d.r.wait):=by
    have e:(wH d m k).r.wait.length=n:=HN.o.symm;rw[e] at hW;exact hW
   obtain⟨bW,zMF,x,hA,mQ,eM,e0,e1⟩:=zev (zZ hW aH) aN;subst hA;obtain⟨i,y,nx⟩:=T.next eM;obtain⟨gL,N9,hO,hM,hC⟩:=HI.o.mr.onLine T.i nx.hy nx.op nx.c;obtain⟨gR,cR,zvQ⟩:=zl0 HI.o.at_ nx.hy;obtain⟨G6,uL⟩:=nx.b;obtain⟨Kq,zzQ⟩:=nx.f;rw[<-F8.o] at zzQ;have i0:(0:Int)<=(k:Int):=aC;have i1:(k:Int)<(n:Int):=aC;have NX:=aD nx;have zk7:=aD eM;have HL:=aD (And.intro N9 (And.intro hO (And.intro hM hC)));have tP:=aD zvQ;have HT:=aD T;clear hW nx eM N9 hO hM hC zvQ T mQ
   go_upto_region 7 with fail
   obtain⟨W4,sP⟩:=aU (wr.alloc (.cells #[.int .i64 x.c,.int .i64 x.p] 149));have I4:=aD (show Dd w lo hb v d m k v1 (.slice A2 n2 c2) W4 by rw[sP];exact HI.o.below (dN (eF _ _) _));have uT:W4.heap[wr.heap.size]? =some (.cells #[.int .i64 x.c,.int .i64 x.p] 149):=by rw[sP];exact lF _ _
   have Yb:=aD uT;have g0:=aJ uT 0;have g1:=aJ uT 1;have zss:=aD (show some wr.heap.size∉parts v1 hb from λh=>by have:=(HI.o.at_.lt _ h).2;omega);obtain⟨gx,zq7⟩:∃y,y=wr.heap.size:=⟨_,rfl⟩;rw[<-sP];rw[<-zq7] at g0 g1 Yb zss⊢;clear sP uT e0 e1 zq7;have Fj:W4.cell? ⟨hb,11,none⟩=some (.int .i64 (ck+m)):=by
    have:=aJ I4.o.at_.blk 11;rw[this];show some (Pq .i64 (cY d.r m k).1.clk)=_;rw[HT.o.clk,F8.o]
   have k2:W4.cell? ⟨hb,2,none⟩=some (.int .i64 d.r.o.pt):=by
    have:=aJ I4.o.at_.blk 2;rw[this];show some (Pq .i64 (cY d.r m k).1.o.pt)=_;rw[HT.o.o]
   have k3:=(I4.o.at_.recAt tP.o NX.o.hy (j:=3) (u:=.int .i64 y.f) aH rfl).1;have HE:=aD (λnq:Nat=>Calls.quiet_of (w:=W4) (n:=nq) ((zd2 (w:=W4.drewN nq) (I4.o.at_.same rfl) tP.o NX.o.hy HL.o.2.2.1).mono λe w' hh=>⟨hh.1,1,hh.2⟩));by_cases hp:ck+m-y.f<d.r.o.pt
   .go_quiet ((go_at_call 115;exact HE.o _))
    go_upto_region 8 with fail
    obtain⟨wz,uX⟩:=aU (W4.drewN nq);rw[<-uX];have IZ:=aD (show Dd w lo hb v d m k v1 (.slice A2 n2 c2) wz by rw[uX];exact I4.o.below (below_drewN nq));have ziJ:wz.heap[gx]? =some (.cells #[.int .i64 x.c,.int .i64 x.p] 149):=by rw[uX];exact Yb.o
    have g0:=aJ ziJ 0;have g1:=aJ ziJ 1;clear uX;obtain⟨OB,zbg⟩:=aU (.cells #[.int .i64 x.c,.int .i64 x.p] 149:Obj);have zvq:=aD (IZ.o.below (dN (eF _ _) OB));have zhW:=zvq.o.so.row;rw[<-uU.o] at zhW;obtain⟨q1,q2,w5,fR,cP,nF,fB⟩:=Np (t:=69) (ty:=69) zau Tryz.underlying69 rfl aH zhW (g:=wz.heap.size) (cs:=#[.int .i64 x.c,.int .i64 x.p]) (news:=bJ.cells x) (by rw[zbg];exact lF _ _) rfl (m:=1) rfl aH Uu aC aH (by have:=IZ.o.tn.size;simp;omega);rw[zbg] at fR;have AP:=aD fR;clear fR zhW Fj k2 k3
    go_upto_region 12 with(at_builtin;refine zrP rfl (.tmp 50) (.tmp 52) 69 69 rfl (.slice A2 n2 c2) (.slice (some ⟨wz.heap.size,0,none⟩) 1 1) (.slice (some ⟨q1,0,none⟩) (n2+1) q2) rfl rfl AP.o ?_)
    have IM:=aD (zvq.o.more nF (x:=x) cP (by rw[uU.o]) fB (NX.o.not_ znh).1 (NX.o.not_ znh).2);have ET:=aD (NX.o.not_ znh).1;clear AP cP nF fB g0 g1 ziJ;go_wp2;go_roundw
    case rel=>exact⟨k+1,v1,some ⟨q1,0,none⟩,n2+1,q2,aC,mV,by rw[ET.o],rfl,IM.o⟩
    case measure=>simp[intOf];omega
   .have zug:d.r.o.pt<=d.r.clk+m-y.f:=by have:=F8.o;omega
    obtain⟨E1,E2⟩:=NX.o.tired zug;have cK:=aD E1;have nG:=aD E2;have zH1:=aD (show some gx∉parts v1 hb from zss.o);clear E1 E2 zug
    go_quiet ((go_at_call 115;exact HE.o _))
    go_upto_region 9 with fail
    obtain⟨wz,uX⟩:=aU (W4.drewN nq);rw[<-uX];have IZ:=aD (show Dd w lo hb v d m k v1 (.slice A2 n2 c2) wz by rw[uX];exact I4.o.below (below_drewN nq));have zxB:=aD (show wz.heap[gx]? =some (.cells #[.int .i64 x.c,.int .i64 x.p] 149) by rw[uX];exact Yb.o);clear uX Fj k2 k3 g0 g1;have g0:=aJ zxB.o 0
    go_upto_region 10 with(go_at_call 116;refine(zkQ (e:=⟨#[116,105,114,101,100]⟩) IZ.o.at_ NX.o.hy HL.o.2.1 HL.o.2.2.2 HL.o.2.2.1 tP.o).mono ?_;rintro en w5 ⟨rfl,v5,a5,t5,p5⟩;have A5:=aD a5;have T5:=aD t5;have P5:=aD p5;clear a5 t5 p5)
    obtain⟨zjJ,zqA⟩:=IZ.o.at_.turned T5.o zxB.o zH1.o;have zzv:=aD (gC.of (v':=v5) (IZ.o.mr.clear HT.o.i.S HT.o.i.ndl (λz hz=>(HT.o.i.lb z hz).1) NX.o.hy NX.o.op HL.o.1 (f:=λz=>{z with t:=(cY d.r m k).1.clk,e:=Fc}) (λz=>⟨rfl,rfl⟩) zi4) P5.o.1 (by rw[P5.o.2.1,NX.o.c]) P5.o.2.2.1 rfl rfl);have zGx:=aD (IZ.o.so.turn T5.o);have C6:=aD zjJ;have k8:w5.cell? ⟨hb,8,none⟩=some v5.sB:=aJ A5.o.blk 8;have g5:=aJ zjJ 0;obtain⟨OC,zdc⟩:=aU (.cells #[.int .i64 x.c] 3:Obj);have a5:=(A5.o.alloc OC).drew;have nL:(cY d.r m k).1.back.length<=5000:=HT.o.i.sm.nb;obtain⟨q1,q2,w6,fR,cP,nF,fB⟩:=Np (t:=38) (ty:=38) Xq Y4 rfl aH a5.B (g:=w5.heap.size) (cs:=#[.int .i64 x.c]) (news:=[.int .i64 x.c]) (by rw[zdc];exact lF _ _) rfl (m:=1) rfl aH Lm (by show(cY d.r m k).1.back.length+1<=_;omega) aH (by have:=IZ.o.tn.size;have:=T5.o.size;have:=Kw.o;simp;omega);obtain⟨a6,t6⟩:=a5.putB nF (xs:=(cY d.r m k).1.back++[x]) (by have e:eJ (((cY d.r m k).1.back++[x]).map bJ.c)=eJ ((cY d.r m k).1.back.map bJ.c)++[.int .i64 x.c]:=(by simp[eJ]);rw[e];exact cP) (by simp;rfl) fB;have A6:=aD (show bE (w6.setCell ⟨hb,8,none⟩ (.slice (some ⟨q1,0,none⟩) ((cY d.r m k).1.back.length+1) q2)) lo hb {v5 with sB:=.slice (some ⟨q1,0,none⟩) ((cY d.r m k).1.back.length+1) q2} (wH d m (k+1)) by rw[zBL cK.o];exact a6);have T6:=aD (show bM hb v5 w5 {v5 with sB:=.slice (some ⟨q1,0,none⟩) ((cY d.r m k).1.back.length+1) q2} (w6.setCell ⟨hb,8,none⟩ (.slice (some ⟨q1,0,none⟩) ((cY d.r m k).1.back.length+1) q2)) from(bM.below (dN (eF _ w5) OC)).trans (⟨t6.size,t6.block,t6.moved⟩:bM hb v5 (w5.alloc OC) _ _));have K4:w6.heap[hb]? =some (Qc v5 _):=(a5.other (j:=6) (c:=8) (x:=v5.sB) rfl aH nF (.slice (some ⟨q1,0,none⟩) ((cY d.r m k).1.back.length+1) q2)).2.trans a5.blk;have Pu:=aJ K4 8;have kf:=eL K4 8;have AP:=aD fR;clear cP nF fB a6 t6 a5 K4 fR zjJ g0;rw[zdc] at AP;refine wp_WA10 w5 w6 hb gx q1 ((cY d.r m k).1.back.length+1) q2 v5.sB x.c rfl rfl rfl k8 g5 AP.o Pu kf rfl ?_;rw[Go.Mt.Al,zoM];simp only[Go.Mt.wL,dU,dV,zj5,lWA10,Dn,C9];obtain⟨W7,Cb⟩:=aU (w6.setCell ⟨hb,8,none⟩ (.slice (some ⟨q1,0,none⟩) ((cY d.r m k).1.back.length+1) q2));rw[<-Cb] at A6 T6⊢;clear Cb k8 Pu kf g5 AP;have g7:=aJ (A5.o.turned T6.o C6.o zqA).1 0;have zMA:=Qn (c:=x.c) aC aC
    have I7:=aD (show Dd w lo hb v d m (k+1) {v5 with sB:=.slice (some ⟨q1,0,none⟩) ((cY d.r m k).1.back.length+1) q2} (.slice A2 n2 c2) W7 from
     ⟨A6.o,by rw[cK.o];refine gC.of zzv.o ?_ ?_ ?_ ?_ ?_<;>rfl,(IZ.o.tn.trans T5.o).trans T6.o,⟨P5.o.2.2.2.2.1.trans IZ.o.kp.1,P5.o.2.2.2.2.2.1.trans IZ.o.kp.2.1,P5.o.2.2.2.2.2.2.2.2.1.trans IZ.o.kp.2.2.1,P5.o.2.2.2.2.2.2.2.2.2.trans IZ.o.kp.2.2.2⟩,P5.o.2.2.2.2.2.2.1.trans IZ.o.sW,by rw[nG.o];exact zGx.o.turn T6.o⟩)
    clear T5 zqA A6 T6
    go_wp2_with (go_at_call 112;refine(zl4 x.c aC aC _).mono ?_;rintro en w8 ⟨rfl,Ip⟩;obtain rfl:=Ip)
    go_roundw
    case rel=>exact⟨k+1,_,A2,n2,c2,aC,mV,by rw[cK.o];simp[I9],rfl,I7.o⟩
    case measure=>simp[intOf];omega
  .have e:k=n:=aC
   subst e;obtain⟨F1,F2,F3,F4⟩:=HI.o.fin HN.o T Kw.o HH.o;have FF:=aD (And.intro F1 (And.intro F2 (And.intro F3 F4)));have k7:wr.cell? ⟨hb,7,none⟩=some v1.sW:=aJ HI.o.at_.blk 7;have Ym:wr.cell? ⟨hb,7,none⟩=some (.slice AW k cW):=by rw[k7,HI.o.sW,Am.o]
   have kf:=eL HI.o.at_.blk;have HR:=aD (show(⟨(cY d.r m k).2.toArray⟩:ByteArray)=⟨(uR d.r m).2.toArray⟩ by rw[<-zbz,<-HN.o]);clear F1 F2 F3 F4 k7;go_wp2;go_ret;exact⟨by rw[HR.o];rfl,_,FF.o⟩
end Go.Proofs.YtfcjiloojkjaeaaGreatDoor
namespace Go.Proofs.YtfcjiloojkjaeaaGreatDoor
open Go.RowKit Go.Mt Go.Conc Go.Tt Go.Maps
section
variable {d:pN}{f:aP}{s:WS}{ops:Array aZ}{i:Nat}{rest:List Nat}{Φ:WS->Prop}{o:aZ}
theorem CR.call' (H:d.Ok){g:aP}{args:Array cM}{kH:Array aM}{Ψ:Pr->gO->aF->aE->Prop}(Ny:Array aF)(ho:ops[i]? =some o)(cD:dF o (dR ops s.T)=true)(hop:o.op=.call ⟨.value (.func g),args,kH⟩)(sH:args.all (dQ d.fs)=true)(tM:s.chs=[])(ha:args.map (bH s.T []).eval=Ny)
 (hc:CF d g Ny s.K s.l s.w Ψ) (hk:∀K' l' v w',s.K.le K'->Ψ K' l' v w'->CR d f ops rest ⟨[],K',l',(cC ⟨s.T,[]⟩ o.dst v).tmps,w'⟩ Φ):CR d f ops (i::rest) s Φ:=
 CR.call H ho cD hop sH tM (by rw[ha];exact hc) hk
end
variable {w:aE}{lo hb:Nat}{v:fJ}{d:nM}
def bE.tp (h:bE w lo hb v d)(T:jW)(n:Nat):bE (Tt.tp w T n) lo hb v d:=h.same rfl
variable {w':aE}{v':fJ}
def bM.tp (h:bM hb v w v' w')(T:jW)(n:Nat):bM hb v w v' (Tt.tp w' T n):=h.same rfl
def zaC:wC aK 120:=⟨_,zrd,.inr (.inl ⟨_,rfl⟩)⟩
variable {e:Ho}{K:Pr}{k q i:Nat}{c:Int}{x:bR}
theorem zrH (H:e.d.Ok)(h:bE w lo hb v d)(hW:e.W[k]? =some (.ask q 1 c c))(hq:q<d.qn.length)(yS:q<=100)(hK:∀(i g:Nat),d.qn[i]? =some g->K g (qa e.qs i))
   (hx:d.r.recs[i]? =some x) (hM:lA c v.pM=some (.int .i64 (i:Int))) (O1:1<=c) (qR:c<=99):
 CF e.d 120 #[.pointer (some ⟨hb,0,none⟩),.int .i64 ((q:Int)+1),.int .i64 c] K (.wk e.qs k) w (λK' l' y w'=>l'=.wk e.qs (k+1)/\y=.string ⟨([99,97,108,108,32]++jK c).toArray⟩/\bE w' lo hb v {d with r:={d.r with recs:=d.r.recs.modify i λz=>{z with o:=(q:Int)+1,h:=d.r.clk}}}/\bM hb v w v w'):=by
 refine CF.of 29 zrd (.inr (.inl ⟨_,rfl⟩)) ?_;have HX:=aD hx;have HM:=aD hM;obtain⟨gR,cR,hR⟩:=zl0 h hx;have HR:=aD hR;clear hx hM hR;refine CW.sq H ?_;refine CW.pQ H zaC (λTp Q HQ=>?_);go_wp2;refine HQ.o _ _ ?_;clear HQ;refine CW.tape (s:=⟨[],K,.wk e.qs k,_,w⟩) ?_ Tp 0;refine CW.sq H ?_;refine CW.rg H [0,1,2,3] ?_;refine CR.mv H (.pointer (some ⟨hb,0,none⟩)) ?_;refine CR.mv H (.int .i64 ((q:Int)+1)) ?_;refine CR.mv H (.int .i64 c) ?_;refine CR.cl H (zc7 H h hW hq yS hK) (λK' l' y w' hl o5=>?_);obtain⟨rfl,rfl,qF⟩:=o5;simp only[cC,gK,dU,dV];have A1:=aD (show bE w' lo hb v d by rw[qF];exact h.alloc _);have T1:=aD (show bM hb v w v w' by rw[qF];exact bM.below (dN (eF _ _) _));clear h hW hq yS hK qF;refine CR.nil H ?_;refine CW.sq H ?_;refine CW.pQ H zaC (λTp Q HQ=>?_);obtain⟨wa,wQ⟩:=aU (Tt.tp w' Tp 0);have A2:=aD (show bE wa lo hb v d by rw[wQ];exact A1.o.tp Tp 0);have T2:=aD (show bM hb v w v wa by rw[wQ];exact T1.o.tp Tp 0);rw[<-wQ];clear wQ A1 T1
 go_wp2_with (go_at_call 115;refine(zd2 A2.o HR.o HX.o HM.o).mono ?_;rintro en w2 ⟨rfl,fZ⟩;obtain rfl:=fZ)
 refine HQ.o _ _ ?_;obtain⟨w2,fZ⟩:=aU wa.drew;rw[<-fZ];have A3:=aD (show bE w2 lo hb v d by rw[fZ];exact A2.o.drew);have T3:=aD (show bM hb v w v w2 by rw[fZ];exact T2.o.same rfl);clear HQ fZ A2 T2;refine CW.sq H ?_;refine CW.pQ H zaC (λzk6 Q HQ=>?_);obtain⟨zjZ,wQ⟩:=aU (Tt.tp w2 zk6 0);have A4:=aD (show bE zjZ lo hb v d by rw[wQ];exact A3.o.tp zk6 0);have T4:=aD (show bM hb v w v zjZ by rw[wQ];exact T3.o.tp zk6 0);dsimp only;rw[<-wQ];clear wQ A3 T3;obtain⟨c2,f2⟩:=A4.o.recAt HR.o HX.o (j:=2) (u:=.int .i64 x.o) aH rfl;obtain⟨a5,t5⟩:=A4.o.setR (λz=>{z with o:=(q:Int)+1}) HR.o HX.o (j:=2) (u:=.int .i64 ((q:Int)+1)) aH zuU rfl;have A5:=aD a5;have T5:=aD (T4.o.trans t5);clear a5 t5;go_wp2;refine HQ.o _ _ ?_;clear HQ c2 f2 A4 T4;obtain⟨w5,n8⟩:=aU (zjZ.setCell ⟨gR,i*7+2,none⟩ (.int .i64 ((q:Int)+1)));rw[<-n8] at A5 T5⊢;clear n8;have zao:=aD (show(d.r.recs.modify i λz=>{z with o:=(q:Int)+1})[i]? =some {x with o:=(q:Int)+1} from zbV HX.o);have lG:=aD (show v.sR=.slice (some ⟨gR,0,none⟩) (d.r.recs.modify i λz=>{z with o:=(q:Int)+1}).length cR by rw[List.length_modify];exact HR.o);refine CW.sq H ?_;refine CW.pQ H zaC (λU8 Q HQ=>?_);obtain⟨zdB,wQ⟩:=aU (Tt.tp w5 U8 0);have A6:=aD (show bE zdB lo hb v _ by rw[wQ];exact A5.o.tp U8 0);have T6:=aD (show bM hb v w v zdB by rw[wQ];exact T5.o.tp U8 0);dsimp only;rw[<-wQ];clear wQ A5 T5;have Fj:zdB.cell? ⟨hb,11,none⟩=some (.int .i64 d.r.clk):=aJ A6.o.blk 11;obtain⟨c4,f4⟩:=A6.o.recAt lG.o zao.o (j:=4) (u:=.int .i64 x.h) aH rfl;obtain⟨a7,t7⟩:=A6.o.setR (λz=>{z with h:=d.r.clk}) lG.o zao.o (j:=4) (u:=.int .i64 d.r.clk) aH zpv rfl;simp only[zgt] at a7;have A7:=aD a7;have T7:=aD (T6.o.trans t7);clear a7 t7;go_wp2;refine HQ.o _ _ ?_;clear HQ c4 f4 A6 T6 Fj;obtain⟨w7,rF⟩:=aU (zdB.setCell ⟨gR,i*7+4,none⟩ (.int .i64 d.r.clk));rw[<-rF] at A7 T7⊢;clear rF;have E6:=Qn (c:=c) aC aC;refine CW.sq H ?_;refine CW.pQ H zaC (λZ4 Q HQ=>?_);dsimp only
 go_wp2_with (go_at_call 112;refine(zl4 c aC aC _).mono ?_;rintro en w8 ⟨rfl,Ip⟩;obtain rfl:=Ip)
 refine HQ.o _ _ ?_;clear HQ;refine CW.rt H ?_;exact⟨.inr rfl,rfl,.string ⟨([99,97,108,108,32]++jK c).toArray⟩,(by have ee:(⟨#[99,97,108,108,32]⟩:ByteArray)++⟨(jK c).toArray⟩=⟨([99,97,108,108,32]++jK c).toArray⟩:=(by simp[I9]);rw[<-ee];rfl),rfl,rfl,A7.o.tp Z4 0,T7.o.tp Z4 0⟩
structure zb6 (qs:List Nat)(lo hb:Nat)(v:fJ)(d:nM)(w:aE)(k n:Nat)(R:bX×List UInt8)(l':gO)(y:aF)(w':aE):Prop where
 l:l'=.wk qs (k+n)
 y:y=.string ⟨R.2.toArray⟩
 x:∃v',bE w' lo hb v' {d with r:=R.1}/\gC v' {d with r:=R.1}/\bM hb v w v' w'/\zS v v'
def B7 (W:List fH)(k:Nat)(A:List fH):Prop:=∀(j:Nat) (x:fH),A[j]? =some x->W[k+j]? =some x
variable {W A:List fH}
def B7.head {x:fH}(h:B7 W k (x::A)):W[k]? =some x:=h 0 x rfl
theorem B7.tail {x:fH}(h:B7 W k (x::A)):B7 W (k+1) A:=λj y hy=>by
 have:=h (j+1) y hy;rw[show k+1+j=k+(j+1) by omega];exact this
variable {n:Nat}
theorem zh1 {E s:Nat}{v:aF}{xs:List aF}(h:w.ownsRow lo E s v n xs)(hn:0<n):∃g c,v=.slice (some ⟨g,0,none⟩) n c:=by
 rcases h.2 with⟨_,h0⟩|⟨g,cap,cur,e,_⟩
 .omega
 .exact⟨g,_,e⟩
variable {b:bX}
theorem zoy (hr:RInv b)(op:Int):0<=dA b.recs op/\(dA b.recs op≠0->0<dA b.recs op):=by
 rcases zuQ b.recs op with⟨i,x,h1,_,_,h4⟩|⟨_,h4⟩
 .have:=(hr.recB x (dZ h1)).1
  rw[h4];omega
 .rw[h4];exact⟨Int.le_refl _,λh=>absurd rfl h⟩
theorem Kc (q:Nat):y5 ((q:Int)+1)=q:=by unfold y5;omega
def Ry:wC aK 103:=⟨_,zs4,.inr (.inl ⟨_,rfl⟩)⟩
theorem cf_pick (H:e.d.Ok)(h:bE w lo hb v d)(mr:gC v d)(hi:yM d)(hW:B7 e.W k (Hb d.r ((q:Int)+1)))(hq:q<d.qn.length)(yS:q<=100)(hK:∀(i g:Nat),d.qn[i]? =some g->K g (qa e.qs i)):
 CF e.d 103 #[.pointer (some ⟨hb,0,none⟩),.int .i64 ((q:Int)+1)] K (.wk e.qs k) w (λK' l' y w'=>zb6 e.qs lo hb v d w k (Hb d.r ((q:Int)+1)).length (nO d.r ((q:Int)+1)) l' y w'):=by
 refine CF.of 35 zs4 (.inr (.inl ⟨_,rfl⟩)) ?_;have A0:=aD h;have T0:=aD (bM.refl (hb:=hb) (v:=v) (w:=w));obtain⟨ans,Mp⟩:=aU (dA d.r.recs ((q:Int)+1));have HA:=aD Mp;have HI:=aD hi;have MR:=aD mr;have hg:=zoy hi.R ((q:Int)+1);rw[<-Mp] at hg;have Oq:e.W[k]? =some (.ask q 0 0 ans):=by have:=hW.head;rw[Kc,<-Mp] at this;exact this
 have HW:=aD hW;clear h mr hi hW Mp;refine CW.sq H (CW.p0 H Ry A0 T0 λw1 fA A1 T1=>?_);refine CW.sq H ?_;refine CW.sq H ?_;refine CW.rg H [0,1,2,3] ?_;refine CR.mv H (.pointer (some ⟨hb,0,none⟩)) ?_;refine CR.mv H (.int .i64 ((q:Int)+1)) ?_;refine CR.cl H (zc7 H A1.o Oq hq yS hK) (λK' l' y w' hl o5=>?_);obtain⟨rfl,rfl,qF⟩:=o5;simp only[cC,gK,dU,dV];have A2:=aD (show bE w' lo hb v d by rw[qF];exact A1.o.alloc _);have T2:=aD (show bM hb v w v w' by rw[qF];exact T1.o.trans (bM.below (dN (eF _ _) _)));have rV:∀(i g:Nat),d.qn[i]? =some g->K' g (qa e.qs i):=λi g hg=>hl _ _ (hK i g hg);clear qF A1 T1 Oq hK hl;by_cases hz:ans=0
 .
   subst hz;refine nP ?_;refine CR.mg H (.bool false) ?_;refine CR.nil H ?_;refine CW.cd H false ?_;refine CW.sk H ?_;dsimp only;refine CW.sq H ?_;have Bp:¬0<dA d.r.recs ((q:Int)+1):=by rw[<-HA.o];omega
   have HF:=aD Bp;clear hg Bp;obtain⟨AW,cW,Kk,Kr⟩:=Gh A2.o.W aH;have Am:=aD Kk
   cases cD:d.r.wait with
   |nil=>
    have Pm:=aD cD;have e1:nO d.r ((q:Int)+1)=(d.r,[110,111,110,101]):=by unfold nO;rw[if_neg HF.o,Pm.o]
    have e2:Hb d.r ((q:Int)+1)=[.ask q 0 0 0]:=by unfold Hb;rw[if_neg HF.o,Pm.o,Kc,<-HA.o]
    have cK:=aD e1;have nG:=aD e2;clear e1 e2;refine CW.sq H (CW.pW H Ry A2 T2 λw3 Q iT A3 T3 HQ=>?_);have k7:w3.cell? ⟨hb,7,none⟩=some (.slice AW 0 cW):=by
     have:=aJ A3.o.blk 7;rw[this,<-show v.sW=.slice AW 0 cW by rw[Am.o,cD];rfl];rfl
    clear cD Kk Kr;go_wp2;refine HQ.o _ _ ?_;clear HQ;refine CW.cd H true ?_;refine CW.sq H (CW.p0 H Ry A3 T3 λw4 lM A4 T4=>?_);refine CW.rt H ?_;refine⟨.inr rfl,rfl,.string ⟨#[110,111,110,101]⟩,rfl,⟨by rw[nG.o];rfl,by rw[cK.o],v,?_,?_,?_,zS.rf v⟩⟩
    .rw[cK.o];exact A4.o
    .rw[cK.o];exact MR.o
    .exact T4.o
   |cons c cs=>
    have Pm:=aD cD;obtain⟨i,x,hx,sC,Im,tE⟩:=HI.o.S.wt c Xc;have fB:jL d.r.recs c.c=some i:=by rw[<-Im];exact HI.o.S.at_ hx sC
    have Jk:=HI.o.R.waitB c Xc;obtain⟨gL,N9,hO,hM,hC⟩:=MR.o.onLine HI.o hx sC Im;have Ps:dX (c::cs) c.c=cs:=zhk (st:=[]) (by have:=HI.o.R.nodup;rw[cD] at this;exact this);have e1:nO d.r ((q:Int)+1)=({d.r with recs:=d.r.recs.modify i λz=>{z with o:=(q:Int)+1,h:=d.r.clk},wait:=cs},[99,97,108,108,32]++jK c.c):=by
     unfold nO;rw[if_neg HF.o,cD];simp only[fB,Ps]
    have e2:Hb d.r ((q:Int)+1)=[.ask q 0 0 0,.ask q 1 c.c c.c]:=by unfold Hb;rw[if_neg HF.o,cD,Kc,<-HA.o]
    have zbE:e.W[k+1]? =some (.ask q 1 c.c c.c):=by have:=HW.o;rw[e2] at this;exact this.tail.head
    obtain⟨gW,zLA,zps⟩:=zh1 A2.o.W Xc;rw[Kk] at zps;injection zps with qX yG Lp;subst qX;have hlen:d.r.wait.length=cs.length+1:=by rw[cD];rfl
    have K6:=HI.o.sm.nw;have ztI:=aD hlen;have Sp:=aD (show v.sW=.slice (some ⟨gW,0,none⟩) (cs.length+1) cW by rw[Am.o,hlen]);have HX:=aD hx;have HM:=aD hM;have cK:=aD e1;have nG:=aD e2;have zz3:cs.length<=1000:=aC;have O1:=Jk.1;have qR:=Jk.2;clear cD hx sC Im tE fB Jk N9 hO hM hC Ps e1 e2 Kk Kr Am hlen K6 yG Lp;refine CW.sq H (CW.pW H Ry A2 T2 λw3 Q iT A3 T3 HQ=>?_);have k7:w3.cell? ⟨hb,7,none⟩=some (.slice (some ⟨gW,0,none⟩) (cs.length+1) cW):=by
     have:=aJ A3.o.blk 7;rw[this,<-Sp.o];rfl
    go_wp2;refine HQ.o _ _ ?_;clear HQ;clear k7;refine CW.cd H false ?_;refine CW.sk H ?_;dsimp only;refine CW.sq H (CW.pW H Ry A3 T3 λw4 Q lM A4 T4 HQ=>?_);have k7:w4.cell? ⟨hb,7,none⟩=some (.slice (some ⟨gW,0,none⟩) (cs.length+1) cW):=by
     have:=aJ A4.o.blk 7;rw[this,<-Sp.o];rfl
    have oM:w4.ownsRow lo 149 2 (.slice (some ⟨gW,0,none⟩) (cs.length+1) cW) (cs.length+1) (bF (c::cs)):=by
     have:=A4.o.W;rw[Sp.o,Pm.o] at this;exact this
    obtain⟨bW,oW,x',hA,mQ,eM,e0,e1⟩:=zev (zZ oM aH) (k:=0) aC;injection hA with hA;injection hA with zV zE;subst zV zE;have lK:c=x':=by simpa using eM
    subst lK;simp only[Nat.zero_mul,Ur] at e0 e1;clear oM eM;go_wp2;refine HQ.o _ _ ?_;clear HQ;clear k7 e0 e1 mQ;refine CW.sq H (CW.pW H Ry A4 T4 λw5 Q n8 A5 T5 HQ=>?_);have k7:w5.cell? ⟨hb,7,none⟩=some (.slice (some ⟨gW,0,none⟩) (cs.length+1) cW):=by
     have:=aJ A5.o.blk 7;rw[this,<-Sp.o];rfl
    have oM:w5.ownsRow lo 149 2 (.slice (some ⟨gW,0,none⟩) (cs.length+1) cW) (cs.length+1) (bF (c::cs)):=by
     have:=A5.o.W;rw[Sp.o,Pm.o] at this;exact this
    have Uf:=aD oM;clear oM
    go_wp2_with (go_at_call 119;refine(zEX (i:=0) (j:=1) Uf.o (Xg _) aC aC).mono ?_;rintro en w6 ⟨rfl,Jp,If⟩;have Qh:w6.ownsRow lo 149 2 (.slice (some ⟨gW,0,none⟩) cs.length cW) cs.length (bF cs):=Jp;have Cj:w5.grownBy w6 v.sW.ownBlock:=(by rw[Sp.o];exact If);have hq:=(A5.o.other (j:=5) (c:=7) (x:=v.sW) rfl aH Cj (.slice (some ⟨gW,0,none⟩) cs.length cW)).2;have Ym:=aJ (hq.trans A5.o.blk) 7;have kf:=eL (hq.trans A5.o.blk) 7;have Bg:=aD (And.intro Qh Cj);clear Jp If Qh Cj hq)
    refine HQ.o _ _ ?_;clear HQ;clear k7 Ym kf;obtain⟨a6,t6⟩:=A5.o.putW Bg.o.2 Bg.o.1 rfl (.inl (by rw[Sp.o];rfl));have A6:=A5;have T6:=T5;obtain⟨w7,rF⟩:=aU (w6.setCell ⟨hb,7,none⟩ (.slice (some ⟨gW,0,none⟩) cs.length cW));have A7:=aD (show bE w7 lo hb {v with sW:=.slice (some ⟨gW,0,none⟩) cs.length cW} {d with r:={d.r with wait:=cs}} by rw[rF];exact a6);have T7:=aD (show bM hb v w {v with sW:=.slice (some ⟨gW,0,none⟩) cs.length cW} w7 by rw[rF];exact(T5.o.trans t6));rw[<-rF];clear rF A6 T6;clear a6 t6 Bg A5 T5;refine CW.sq H ?_;refine CW.rg H [0,1,2,3,4] ?_;refine CR.mv H (.pointer (some ⟨hb,0,none⟩)) ?_;refine CR.mv H (.int .i64 ((q:Int)+1)) ?_;refine CR.mv H (.int .i64 c.c) ?_;refine CR.cl H (zrH H A7.o zbE hq yS rV HX.o HM.o O1 qR) (λK2 l2 y2 w8 zoK o5=>?_);obtain⟨rfl,rfl,a8,t8⟩:=o5;simp only[cC,gK,dU,dV];refine nP ?_;refine CR.mv H (.string ⟨([99,97,108,108,32]++jK c.c).toArray⟩) ?_;refine CR.nil H ?_;refine CW.rt H ?_;refine⟨.inr rfl,rfl,.string ⟨([99,97,108,108,32]++jK c.c).toArray⟩,rfl,⟨by rw[nG.o];rfl,by rw[cK.o],_,?_,?_,T7.o.trans t8,⟨rfl,rfl,rfl,rfl⟩⟩⟩
    .rw[cK.o];exact a8
    .rw[cK.o];refine gC.of (MR.o.mod (f:=λz=>{z with o:=(q:Int)+1,h:=d.r.clk}) (i:=i) λz=>⟨rfl,rfl,rfl⟩) ?_ ?_ ?_ ?_ ?_<;>rfl
 .
   have aT:0<ans:=hg.2 hz;have nL:(ans !=0)=true:=by simpa using hz
   refine nP ?_;refine CR.mv H (.bool true) ?_ (hx:=λT=>by unfold aS;go_simp;try exact nL);refine CR.nil H ?_;refine CW.cd H true ?_;refine CW.sq H (CW.p0 H Ry A2 T2 λw3 iT A3 T3=>?_);refine CW.rt H ?_;have Cd:0<dA d.r.recs ((q:Int)+1):=by rw[<-HA.o];exact aT
   have e1:nO d.r ((q:Int)+1)=(d.r,[116,97,108,107,115]):=by unfold nO;rw[if_pos Cd]
   have e2:Hb d.r ((q:Int)+1)=[.ask q 0 0 ans]:=by unfold Hb;rw[if_pos Cd,Kc,<-HA.o]
   refine⟨.inr rfl,rfl,.string ⟨#[116,97,108,107,115]⟩,rfl,⟨by rw[e2];rfl,by rw[e1],v,?_,?_,?_,zS.rf v⟩⟩
   .rw[e1];exact A3.o
   .rw[e1];exact MR.o
   .exact T3.o
variable {f:bR->bR}
theorem zzj {rs:List bR}:(rs++[x]).modify rs.length f=rs++[f x]:=by
 apply List.ext_getElem?;intro j;rw[List.getElem?_modify];rcases zwa j rs.length with h|h|h
 .rw[Ab h,Ab h]
  have aT:rs.length≠j:=aC;simp[aT]
 .subst h
  rw[At (aX _),At (aX _),Og];simp
 .rw[Ca q8,Ca q8];rfl
structure FreeAt (d:nM)(l:Int)(i g:Nat):Prop where
 l:l=(i:Int)+1
 g:d.ln[i]? =some g
 i6:i<=100
 un:rB d.r.recs ((i:Int)+1)=false
variable {l:Int}{ls:List Int}
theorem yM.free (h:yM d)(hf:oJ d.r.o d.r.recs=l::ls):∃i g,FreeAt d l i g:=by
 have hm:l∈oJ d.r.o d.r.recs:=by rw[hf];simp
 obtain⟨h1,h2⟩:=zhc h.R.off hm;have h3:=(zeI hm).2;have hn:=h.nln;obtain⟨i,rfl⟩:∃i:Nat,l=(i:Int)+1:=⟨(l-1).toNat,aC⟩;have hi:i<d.ln.length:=aC;refine⟨i,_,rfl,lX hi,aC,?_⟩;unfold oJ xO at hm;have:=(Jd.1 hm).2;simpa using this
theorem ztL (hf:oJ d.r.o d.r.recs=l::ls):Hy d=l-1:=by unfold Hy;rw[hf]
theorem zqb (hf:oJ d.r.o d.r.recs=[]):Hy d= -1:=by unfold Hy;rw[hf]
def Gn:wC aK 104:=⟨_,zxi,.inr (.inl ⟨_,rfl⟩)⟩
theorem cf_back (H:e.d.Ok)(h:bE w lo hb v d)(mr:gC v d)(hi:yM d)(dW:lo<=w.heap.size)(hW:B7 e.W k (C0 d.r ((q:Int)+1)))(hq:q<d.qn.length)(yS:q<=100)(hK:∀(i g:Nat),d.qn[i]? =some g->K g (qa e.qs i)):
 CF e.d 104 #[.pointer (some ⟨hb,0,none⟩),.int .i64 ((q:Int)+1)] K (.wk e.qs k) w (λK' l' y w'=>zb6 e.qs lo hb v d w k (C0 d.r ((q:Int)+1)).length (l6 d.r ((q:Int)+1)) l' y w'):=by
 refine CF.of 43 zxi (.inr (.inl ⟨_,rfl⟩)) ?_;have A0:=aD h;have T0:=aD (bM.refl (hb:=hb) (v:=v) (w:=w));obtain⟨ans,Mp⟩:=aU (dA d.r.recs ((q:Int)+1));have HA:=aD Mp;have HI:=aD hi;have MR:=aD mr;have Kw:=aD dW;have hg:=zoy hi.R ((q:Int)+1);rw[<-Mp] at hg;have Oq:e.W[k]? =some (.ask q 0 0 ans):=by have:=hW.head;rw[Kc,<-Mp] at this;exact this
 have HW:=aD hW;clear h mr hi hW Mp dW;refine CW.sq H (CW.p0 H Gn A0 T0 λw1 fA A1 T1=>?_);refine CW.sq H ?_;refine CW.sq H ?_;refine CW.rg H [0,1,2,3] ?_;refine CR.mv H (.pointer (some ⟨hb,0,none⟩)) ?_;refine CR.mv H (.int .i64 ((q:Int)+1)) ?_;refine CR.cl H (zc7 H A1.o Oq hq yS hK) (λK' l' y w' hl o5=>?_);obtain⟨rfl,rfl,qF⟩:=o5;simp only[cC,gK,dU,dV];have A2:=aD (show bE w' lo hb v d by rw[qF];exact A1.o.alloc _);have T2:=aD (show bM hb v w v w' by rw[qF];exact T1.o.trans (bM.below (dN (eF _ _) _)));have rV:∀(i g:Nat),d.qn[i]? =some g->K' g (qa e.qs i):=λi g hg=>hl _ _ (hK i g hg);clear qF A1 T1 Oq hK hl;by_cases hz:ans=0
 .
   subst hz;refine nP ?_;refine CR.mg H (.bool false) ?_;refine CR.nil H ?_;refine CW.cd H false ?_;refine CW.sk H ?_;dsimp only;have HF:=aD (show dA d.r.recs ((q:Int)+1)=0 from HA.o.symm);clear hg;refine CW.sq H ?_;obtain⟨AB,cB,Lz,zbx⟩:=Gh A2.o.B aH;have z8:=aD Lz;clear zbx
   cases wX:d.r.back with
   |nil=>
    have M7:=aD wX;have e1:l6 d.r ((q:Int)+1)=(d.r,[110,111,110,101]):=by unfold l6;rw[if_neg Y0,M7.o]
    have e2:C0 d.r ((q:Int)+1)=[.ask q 0 0 0]:=by unfold C0;rw[if_neg Y0,M7.o,Kc,<-HA.o]
    have cK:=aD e1;have nG:=aD e2;clear e1 e2;refine CW.sq H (CW.pW H Gn A2 T2 λw3 Q iT A3 T3 HQ=>?_);have k8:w3.cell? ⟨hb,8,none⟩=some (.slice AB 0 cB):=by
     have:=aJ A3.o.blk 8;rw[this,<-show v.sB=.slice AB 0 cB by rw[z8.o,wX];rfl];rfl
    clear wX Lz;go_wp2;refine HQ.o _ _ ?_;clear HQ;refine CW.cd H true ?_;refine CW.sq H (CW.p0 H Gn A3 T3 λw4 lM A4 T4=>?_);refine CW.rt H ?_;refine⟨.inr rfl,rfl,.string ⟨#[110,111,110,101]⟩,rfl,⟨by rw[nG.o];rfl,by rw[cK.o],v,?_,?_,?_,zS.rf v⟩⟩
    .rw[cK.o];exact A4.o
    .rw[cK.o];exact MR.o
    .exact T4.o
   |cons c cs=>
    have M7:=aD wX;have Jk:=HI.o.R.backB c zba;have fB:jL d.r.recs c.c=none:=HI.o.S.bo c zba;have Ps:dX (c::cs) c.c=cs:=zhk (st:=[]) (by have:=HI.o.S.bk;rw[wX] at this;exact this);obtain⟨gB,zlV,zC⟩:=zh1 A2.o.B zba;rw[Lz] at zC;injection zC with qX yG Lp;subst qX;have hlen:d.r.back.length=cs.length+1:=by rw[wX];rfl
    have nL:=HI.o.sm.nb;have Bv:=HI.o.sm.nr;have Tk:=aD (show v.sB=.slice (some ⟨gB,0,none⟩) (cs.length+1) cB by rw[z8.o,hlen]);have uZ:=aD fB;have zH8:=aD Ps;have zz3:cs.length<=5000:=aC;have O1:=Jk.1;have qR:=Jk.2;clear wX fB Ps Jk Lz z8 hlen nL yG Lp;refine CW.sq H (CW.pW H Gn A2 T2 λw3 Q iT A3 T3 HQ=>?_);have k8:w3.cell? ⟨hb,8,none⟩=some (.slice (some ⟨gB,0,none⟩) (cs.length+1) cB):=by
     have:=aJ A3.o.blk 8;rw[this,<-Tk.o];rfl
    go_wp2;refine HQ.o _ _ ?_;clear HQ;clear k8;refine CW.cd H false ?_;refine CW.sk H ?_;dsimp only;have zap:=HI.o.nln;have zby:d.ln.length<=100:=by have:=(Ad HI.o.R.off).2.1;omega
    have zbs:=aD (λW (a:bE W lo hb v d)=>zp2 a MR.o zap zby);clear zap zby;refine CW.sq H (CW.pW H Gn A3 T3 λw4 Q lM A4 T4 HQ=>?_)
    go_wp2_with (go_at_call 109;refine(zbs.o _ A4.o).mono ?_;rintro en wz ⟨rfl,uX⟩;obtain rfl:=uX)
    refine HQ.o _ _ ?_;clear HQ;clear zbs;refine CW.sq H ?_
    cases fQ:oJ d.r.o d.r.recs with
    |nil=>
     rw[zqb fQ];have Ot:=aD fQ;have e1:l6 d.r ((q:Int)+1)=(d.r,[98,117,115,121]):=by unfold l6;rw[if_neg Y0,M7.o];simp only[fQ]
     have e2:C0 d.r ((q:Int)+1)=[.ask q 0 0 0]:=by unfold C0;rw[if_neg Y0,M7.o,Kc,<-HA.o];simp only[fQ]
     have cK:=aD e1;have nG:=aD e2;clear e1 e2 fQ;refine CW.sq H (CW.p0 H Gn A4 T4 λw5 n8 A5 T5=>?_);refine CW.cd H true ?_;refine CW.sq H (CW.p0 H Gn A5 T5 λw6 pB A6 T6=>?_);refine CW.rt H ?_;refine⟨.inr rfl,rfl,.string ⟨#[98,117,115,121]⟩,rfl,⟨by rw[nG.o];rfl,by rw[cK.o],v,?_,?_,?_,zS.rf v⟩⟩
     .rw[cK.o];exact A6.o
     .rw[cK.o];exact MR.o
     .exact T6.o
    |cons l ls=>
     obtain⟨i,gL,vI⟩:=HI.o.free fQ;have uH:Hy d=(i:Int):=by rw[ztL fQ,vI.l];omega
     rw[uH];have e1:l6 d.r ((q:Int)+1)=({d.r with back:=cs,recs:=d.r.recs++[⟨c.c,(i:Int)+1,(q:Int)+1,d.r.clk,d.r.clk,-1,eU⟩]},[99,97,108,108,32]++jK c.c):=by
      unfold l6;rw[if_neg Y0,M7.o];simp only[fQ,zH8.o,vI.l]
     have e2:C0 d.r ((q:Int)+1)=[.ask q 0 0 0,.ask q 1 c.c c.c]:=by unfold C0;rw[if_neg Y0,M7.o,Kc,<-HA.o];simp only[fQ]
     have zbE:e.W[k+1]? =some (.ask q 1 c.c c.c):=by have:=HW.o;rw[e2] at this;exact this.tail.head
     have cK:=aD e1;have nG:=aD e2;have FA:=aD vI;have zyX:=vI.i6;clear e1 e2 fQ vI uH;refine CW.sq H (CW.pW H Gn A4 T4 λw5 Q n8 A5 T5 HQ=>?_);have i0:(0:Int)<=(i:Int):=aC;go_wp2;refine HQ.o _ _ ?_;clear HQ;refine CW.cd H false ?_;refine CW.sk H ?_;dsimp only;refine CW.sq H (CW.pW H Gn A5 T5 λw6 Q pB A6 T6 HQ=>?_);have k8:w6.cell? ⟨hb,8,none⟩=some (.slice (some ⟨gB,0,none⟩) (cs.length+1) cB):=by
      have:=aJ A6.o.blk 8;rw[this,<-Tk.o];rfl
     have oM:w6.ownsRow lo 3 1 (.slice (some ⟨gB,0,none⟩) (cs.length+1) cB) (cs.length+1) (eJ ((c::cs).map bJ.c)):=by
      have:=A6.o.B;rw[Tk.o,M7.o] at this;exact this
     obtain⟨bB,oB,x',hA,_,_,mQ,eM,e0⟩:=(zZ oM aH).cellAt (k:=0) aC;injection hA with hA;injection hA with zV zE;subst zV zE;have lK:c.c=x':=by simpa using eM
     subst lK
     try simp only[Ur] at e0
     clear oM eM;go_wp2;refine HQ.o _ _ ?_;clear HQ;clear k8 e0 mQ;refine CW.sq H (CW.pW H Gn A6 T6 λw7 Q rF A7 T7 HQ=>?_);have k8:w7.cell? ⟨hb,8,none⟩=some (.slice (some ⟨gB,0,none⟩) (cs.length+1) cB):=by
      have:=aJ A7.o.blk 8;rw[this,<-Tk.o];rfl
     have oM:w7.ownsRow lo 3 1 (.slice (some ⟨gB,0,none⟩) (cs.length+1) cB) (cs.length+1) (eJ ((c::cs).map bJ.c)):=by
      have:=A7.o.B;rw[Tk.o,M7.o] at this;exact this
     have Uf:=aD oM;clear oM
     go_wp2_with (go_at_call 114;refine(ztx (i:=0) (j:=1) Uf.o (zvw _) aC aC).mono ?_;rintro en w8 ⟨rfl,Jp,If⟩;have Qh:w8.ownsRow lo 3 1 (.slice (some ⟨gB,0,none⟩) cs.length cB) cs.length (eJ (cs.map bJ.c)):=Jp;have Cj:w7.grownBy w8 v.sB.ownBlock:=(by rw[Tk.o];exact If);have hq:=(A7.o.other (j:=6) (c:=8) (x:=v.sB) rfl aH Cj (.slice (some ⟨gB,0,none⟩) cs.length cB)).2;have Pu:=aJ (hq.trans A7.o.blk) 8;have kf:=eL (hq.trans A7.o.blk) 8;have Bg:=aD (And.intro Qh Cj);clear Jp If Qh Cj hq)
     refine HQ.o _ _ ?_;clear HQ;clear k8 Pu kf;obtain⟨a6,t6⟩:=A7.o.putB Bg.o.2 Bg.o.1 rfl (.inl (by rw[Tk.o];rfl));have A8:=A7;have T8:=T7;obtain⟨w9,Is⟩:=aU (w8.setCell ⟨hb,8,none⟩ (.slice (some ⟨gB,0,none⟩) cs.length cB));have A9:=aD (show bE w9 lo hb {v with sB:=.slice (some ⟨gB,0,none⟩) cs.length cB} {d with r:={d.r with back:=cs}} by rw[Is];exact a6);have T9:=aD (show bM hb v w {v with sB:=.slice (some ⟨gB,0,none⟩) cs.length cB} w9 by rw[Is];exact(T7.o.trans t6));rw[<-Is];clear Is A8 T8;clear a6 t6 Bg A7 T7;refine CW.sq H (CW.pW H Gn A9 T9 λvU Q Du tG wM HQ=>?_);have zFL:lo<=vU.heap.size:=eG Kw.o wM.o.size
     go_wp2_with (go_at_call 110;refine(zoA tG.o zFL FA.o.g aC Bv c.c).mono ?_;rintro en Cu ⟨rfl,v11,zqy,t11,zqc⟩;have An:=aD zqy;have Fp:=aD (wM.o.trans t11);have Qq:=aD zqc;clear zqy t11 zqc)
     refine HQ.o _ _ ?_;clear HQ;clear tG wM;refine CW.sq H ?_;refine CW.rg H [0,1,2,3,4] ?_;refine CR.mv H (.pointer (some ⟨hb,0,none⟩)) ?_;refine CR.mv H (.int .i64 ((q:Int)+1)) ?_;refine CR.mv H (.int .i64 c.c) ?_;refine CR.cl H (zrH H An.o zbE hq yS rV (i:=d.r.recs.length) (x:=⟨c.c,(i:Int)+1,0,d.r.clk,-1,-1,eU⟩) (by show(d.r.recs++[_])[d.r.recs.length]? =_;rw[At (aX _),Og];rfl) (by rw[Qq.o.2.2.1,V9,if_pos rfl]) O1 qR) (λK2 l2 y2 Ld zoK o5=>?_);obtain⟨rfl,rfl,a12,t12⟩:=o5;simp only[cC,gK,dU,dV];refine nP ?_;refine CR.mv H (.string ⟨([99,97,108,108,32]++jK c.c).toArray⟩) ?_;refine CR.nil H ?_;refine CW.rt H ?_;have e3:(d.r.recs++[(⟨c.c,(i:Int)+1,0,d.r.clk,-1,-1,eU⟩:bR)]).modify d.r.recs.length (λz=>{z with o:=(q:Int)+1,h:=d.r.clk})=d.r.recs++[⟨c.c,(i:Int)+1,(q:Int)+1,d.r.clk,d.r.clk,-1,eU⟩]:=zzj;refine⟨.inr rfl,rfl,.string ⟨([99,97,108,108,32]++jK c.c).toArray⟩,rfl,⟨by rw[nG.o];rfl,by rw[cK.o],v11,?_,?_,Fp.o.trans t12,?_⟩⟩
     .rw[cK.o]
      have zk1:=a12;dsimp only at zk1;rw[e3] at zk1;exact zk1
     .rw[cK.o]
      refine gC.of (MR.o.more HI.o.ndl FA.o.g FA.o.un uZ.o (o:=(q:Int)+1) (hh:=d.r.clk) (tt:=-1) (clk:=d.r.clk)) ?_ ?_ ?_ ?_ ?_
      .exact Qq.o.1
      .exact Qq.o.2.1
      .exact Qq.o.2.2.1
      .rfl
      .rfl
     .exact⟨Qq.o.2.2.2.1,Qq.o.2.2.2.2.1,Qq.o.2.2.2.2.2.2.2.1,Qq.o.2.2.2.2.2.2.2.2⟩
 .
   have aT:0<ans:=hg.2 hz;have nL:(ans !=0)=true:=by simpa using hz
   have Cd:0<dA d.r.recs ((q:Int)+1):=by rw[<-HA.o];exact aT
   have cK:=aD (show l6 d.r ((q:Int)+1)=(d.r,[116,97,108,107,115]) by unfold l6;rw[if_pos Cd]);have nG:=aD (show C0 d.r ((q:Int)+1)=[.ask q 0 0 ans] by unfold C0;rw[if_pos Cd,Kc,<-HA.o]);clear Cd;refine nP ?_;refine CR.mv H (.bool true) ?_ (hx:=λT=>by unfold aS;go_simp;try exact nL);refine CR.nil H ?_;refine CW.cd H true ?_;refine CW.sq H (CW.p0 H Gn A2 T2 λw3 iT A3 T3=>?_);refine CW.rt H ?_;refine⟨.inr rfl,rfl,.string ⟨#[116,97,108,107,115]⟩,rfl,⟨by rw[nG.o];rfl,by rw[cK.o],v,?_,?_,?_,zS.rf v⟩⟩
   .rw[cK.o];exact A3.o
   .rw[cK.o];exact MR.o
   .exact T3.o
theorem zwh (xs:List bJ)(q:Int):(xs.map bJ.c).findIdx? (·==q)=vC xs q:=by
 unfold vC;rw[List.findIdx?_map];rfl
variable {q:Int}{xs:List bJ}
theorem zEH {p:Nat}(hn:(xs.map bJ.c).Nodup)(h:vC xs q=some p):dX xs q=xs.take p++xs.drop (p+1)/\p<xs.length:=by
 unfold vC at h;obtain⟨hl,hx,_⟩:=zjv.1 h;have hq:xs[p].c=q:=by simpa using hx
 have e:xs=xs.take p++xs[p]::xs.drop (p+1):=by rw[<-List.drop_eq_getElem_cons hl,List.take_append_drop]
 refine⟨?_,hl⟩;have:=zhk (st:=xs.take p) (rest:=xs.drop (p+1)) (x:=xs[p]) (by rw[<-e];exact hn);rw[<-e,hq] at this;exact this
theorem zFX (h:∀x∈xs,x.c≠q):dX xs q=xs:=by
 unfold dX;rw[List.filter_eq_self];intro x hx;simpa using h x hx
theorem zDA (xs:List bJ)(p r:Nat):eJ ((xs.take p++xs.drop r).map bJ.c)=(eJ (xs.map bJ.c)).take p++(eJ (xs.map bJ.c)).drop r:=by
 unfold eJ;rw[Jl,Jl,zrr,zn9,zrr,zn9]
theorem zFu {gx:Nat}(uT:w.heap[gx]? =some (.cells #[.int .i64 q] 3)):
 Calls aK 117 #[.slice none 0 0,.func (.func 118) #[] #[.pointer (some ⟨gx,0,none⟩)]] w λe w'=>e=.returned (.slice none 0 0)/\Below w.heap.size w w':=by
 have HI:=aD (zsM 0 w.heap.size 0 0 none [] gx q w ⟨rfl,jT _,jT _,λh=>absurd h aC⟩ aC uT)
 go_enter Tryz.func117,Tryz.ntmps117
 go_wp2_with (go_at_call 124;refine HI.o.mono ?_;rintro e w1 ⟨rfl,uL⟩;have rC:=aD uL)
 go_ret;exact⟨rfl,rC.o⟩
def x9:wC aK 102:=⟨_,zuB,.inr (.inl ⟨_,rfl⟩)⟩
theorem cf_hang (H:e.d.Ok)(h:bE w lo hb v d)(mr:gC v d)(hi:yM d)(dW:lo<=w.heap.size)(hW:B7 e.W k (Dv d.r c))(hK:∀(i g:Nat),d.qn[i]? =some g->K g (qa e.qs i)):
 CF e.d 102 #[.pointer (some ⟨hb,0,none⟩),.int .i64 c] K (.wk e.qs k) w (λK' l' y w'=>zb6 e.qs lo hb v d w k (Dv d.r c).length (mB d.r c) l' y w'):=by
 refine CF.of 59 zuB (.inr (.inl ⟨_,rfl⟩)) ?_;have A0:=aD h;have T0:=aD (bM.refl (hb:=hb) (v:=v) (w:=w));have HI:=aD hi;have MR:=aD mr;have Kw:=aD dW;have HW:=aD hW;have nL:=hi.sm.nb;have K6:=hi.sm.nw;clear h mr hi hW dW;refine CW.sq H (CW.pW H x9 A0 T0 λw1 Q fA A1 T1 HQ=>?_);go_wp2;refine HQ.o _ _ ?_;clear HQ;obtain⟨gx,uT⟩:=aU w1.heap.size;obtain⟨w2,fZ⟩:=aU (w1.alloc (.cells #[.int .i64 c] 3));have A2:=aD (show bE w2 lo hb v d by rw[fZ];exact A1.o.alloc _);have T2:=aD (show bM hb v w v w2 by rw[fZ];exact T1.o.trans (bM.below (dN (eF _ _) _)));have zg9:=aD (show w2.heap[gx]? =some (.cells #[.int .i64 c] 3) by rw[fZ,uT];exact lF _ _);have NP:=aD (show some gx∉parts v hb from λhp=>by have:=(A1.o.lt _ hp).2;omega);rw[<-uT,<-fZ];clear fZ uT A1 T1;refine CW.sq H ?_
 cases fB:jL d.r.recs c with
 |none=>
  have uZ:=aD fB;have Qz:=aD (MR.o.offLine fB);clear fB;refine CW.sq H (CW.pW H x9 A2 T2 λw3 Q iT A3 T3 HQ=>?_);have vG:=aD (iT▸zg9.o);have k5:w3.cell? ⟨hb,5,none⟩=some (.map (some v.mO)):=aJ A3.o.blk 5;have kx:=aJ vG.o 0;have lk:(zK 67 (.map (some v.mO)) (.int .i64 c) false).run aK w3.drew=.ok (.chan none) w3.drew:=by
   have:=zcO U2 Ko (zcY w3.drew) (A3.o.drew.O) (c:=c) false;rw[Qz.o] at this;exact this
  refine zqP w3 hb gx v.mO c none rfl rfl rfl k5 kx lk rfl ?_;rw[Go.Mt.Al,zmA];simp only[Go.Mt.wL,dU,dV,fHG1,lHG1,Dn,C9];refine HQ.o _ _ ?_;clear HQ;clear k5 kx lk;obtain⟨w4,lM⟩:=aU w3.drew;have A4:=aD (show bE w4 lo hb v d by rw[lM];exact A3.o.drew);have T4:=aD (show bM hb v w v w4 by rw[lM];exact T3.o.same rfl);have Mr:=aD (show w4.heap[gx]? =some (.cells #[.int .i64 c] 3) by rw[lM];exact vG.o);rw[<-lM];clear lM A3 T3 vG;refine CW.cd H true ?_;obtain⟨AB,cB,Lz,zbx⟩:=Gh A4.o.B aH;have z8:=aD Lz;clear Lz zbx;refine CW.sq H (CW.pW H x9 A4 T4 λw5 Q n8 A5 T5 HQ=>?_);have C6:=aD (n8▸Mr.o);have k8:w5.cell? ⟨hb,8,none⟩=some (.slice AB d.r.back.length cB):=by
   have:=aJ A5.o.blk 8;rw[this,<-z8.o];rfl
  have kx:=aJ C6.o 0;have Ej:=aD (show b7 w5 lo w5.heap.size 1 AB d.r.back.length cB (eJ (d.r.back.map bJ.c)) by have:=A5.o.B;rw[z8.o] at this;exact zZ this aH);have HE:=aD (λnq:Nat=>Calls.quiet_of_same (w:=w5) (n:=nq) ((zpU lo w5.heap.size d.r.back.length cB AB (d.r.back.map bJ.c) c (w5.drewN nq) (have hs:=Ej.o;⟨hs.len,hs.le,hs.cap,hs.at_⟩) aC).mono λe w' hh=>hh))
  go_wp2_with fail
  go_quiet ((go_at_call 113;exact HE.o _))
  go_wp2_with fail
  refine HQ.o _ _ ?_;clear HQ;obtain⟨w6,pB⟩:=aU (w5.drewN nq);have A6:=aD (show bE w6 lo hb v d by rw[pB];exact A5.o.same rfl);have T6:=aD (show bM hb v w v w6 by rw[pB];exact T5.o.same rfl);have K9:=aD (show w6.heap[gx]? =some (.cells #[.int .i64 c] 3) by rw[pB];exact C6.o);rw[<-pB];clear pB A5 T5 C6 k8 kx Ej HE;refine CW.sq H ?_;rw[zwh]
  cases Gw:vC d.r.back c with
  |none=>
   have cK:=aD (show mB d.r c=(d.r,[103,111,110,101]) by unfold mB;rw[uZ.o];simp only[Gw];rfl);have nG:=aD (show Dv d.r c=[] by unfold Dv;rw[uZ.o]);clear Gw;simp only[Gu];refine CW.sq H ?_;refine CW.pW H x9 A6 T6 λw7 Q rF A7 T7 HQ=>?_;have F9:=aD (rF▸K9.o);go_wp2;refine HQ.o _ _ ?_;clear HQ;refine CW.cd H true ?_;refine CW.sq H (CW.pW H x9 A7 T7 λw8 Q Ip A8 T8 HQ=>?_);have Iw:=aD (Ip▸F9.o);go_wp2;refine HQ.o _ _ ?_;clear HQ;refine CW.rt H ?_;refine⟨.inr rfl,rfl,.string ⟨#[103,111,110,101]⟩,rfl,⟨by rw[nG.o];rfl,by rw[cK.o],v,?_,?_,?_,zS.rf v⟩⟩
   .rw[cK.o];exact A8.o
   .rw[cK.o];exact MR.o
   .exact T8.o
  |some p=>
   obtain⟨Ps,lY⟩:=zEH HI.o.S.bk Gw;have cK:=aD (show mB d.r c=({d.r with back:=d.r.back.take p++d.r.back.drop (p+1)},[111,102,102]) by unfold mB;rw[uZ.o];simp only[Gw];rw[<-Ps];rfl);have nG:=aD (show Dv d.r c=[] by unfold Dv;rw[uZ.o]);have zKf:p<=5000:=aC;obtain⟨gB,zlV,zC⟩:=zh1 A6.o.B aC;rw[z8.o] at zC;injection zC with qX yG Lp;subst qX;have i0:(0:Int)<=(p:Int):=aC;clear Gw Ps yG Lp;simp only[Gu];refine CW.sq H ?_;refine CW.pW H x9 A6 T6 λw7 Q rF A7 T7 HQ=>?_;have F9:=aD (rF▸K9.o);go_wp2;refine HQ.o _ _ ?_;clear HQ;refine CW.cd H false ?_;refine CW.sk H ?_;dsimp only;refine CW.sq H (CW.pW H x9 A7 T7 λw8 Q Ip A8 T8 HQ=>?_);have Iw:=aD (Ip▸F9.o);have k8:w8.cell? ⟨hb,8,none⟩=some (.slice (some ⟨gB,0,none⟩) d.r.back.length cB):=by
    have:=aJ A8.o.blk 8;rw[this,<-z8.o];rfl
   have Uf:=aD (show w8.ownsRow lo 3 1 (.slice (some ⟨gB,0,none⟩) d.r.back.length cB) d.r.back.length (eJ (d.r.back.map bJ.c)) by have:=A8.o.B;rw[z8.o] at this;exact this)
   go_wp2_with (go_at_call 114;refine(ztx (i:=p) (j:=p+1) Uf.o (zvw _) aC aC).mono ?_;intro en w9;rw[show p+1-p=1 by omega];rintro⟨rfl,Jp,If⟩;have Qh:w9.ownsRow lo 3 1 (.slice (some ⟨gB,0,none⟩) (d.r.back.length-1) cB) (d.r.back.length-1) (eJ ((d.r.back.take p++d.r.back.drop (p+1)).map bJ.c)):=(by rw[zDA];exact Jp);have Cj:w8.grownBy w9 v.sB.ownBlock:=(by rw[z8.o];exact If);have hq:=(A8.o.other (j:=6) (c:=8) (x:=v.sB) rfl aH Cj (.slice (some ⟨gB,0,none⟩) (d.r.back.length-1) cB)).2;have Pu:=aJ (hq.trans A8.o.blk) 8;have kf:=eL (hq.trans A8.o.blk) 8;have Bg:=aD (And.intro Qh Cj);clear Jp If Qh Cj hq)
   refine HQ.o _ _ ?_;clear HQ;clear k8 Pu kf;obtain⟨a6,t6⟩:=A8.o.putB Bg.o.2 Bg.o.1 q8 (.inl (by rw[z8.o];rfl));have A9:=A8;have T9:=T8;obtain⟨vU,Du⟩:=aU (w9.setCell ⟨hb,8,none⟩ (.slice (some ⟨gB,0,none⟩) (d.r.back.length-1) cB));have tG:=aD (show bE vU lo hb {v with sB:=.slice (some ⟨gB,0,none⟩) (d.r.back.length-1) cB} {d with r:={d.r with back:=d.r.back.take p++d.r.back.drop (p+1)}} by rw[Du];exact a6);have wM:=aD (show bM hb v w {v with sB:=.slice (some ⟨gB,0,none⟩) (d.r.back.length-1) cB} vU by rw[Du];exact(T8.o.trans t6));rw[<-Du];clear Du A9 T9;clear a6 t6 Bg A8 T8 Iw;refine CW.sq H (CW.p0 H x9 tG wM λCu zIm An Fp=>?_);refine CW.rt H ?_;refine⟨.inr rfl,rfl,.string ⟨#[111,102,102]⟩,rfl,⟨by rw[nG.o];rfl,by rw[cK.o],{v with sB:=.slice (some ⟨gB,0,none⟩) (d.r.back.length-1) cB},?_,?_,?_,⟨rfl,rfl,rfl,rfl⟩⟩⟩
   .rw[cK.o];exact An.o
   .rw[cK.o];refine gC.of MR.o ?_ ?_ ?_ ?_ ?_<;>rfl
   .exact Fp.o
 |some i=>
  obtain⟨x,hx,Im,sC⟩:=B4 fB;obtain⟨gL,N9,hO,hM,hC⟩:=MR.o.onLine HI.o hx sC Im;obtain⟨gR,cR,hR⟩:=zl0 A2.o hx;have Qz:=aD hO;have HX:=aD hx;have HL:=aD (And.intro N9 (And.intro hO (And.intro hM hC)));have HR:=aD hR;have uZ:=aD fB;have Zf:=aD (And.intro Im sC);have hop:=HI.o.ops.op x (dZ hx);have Uw:=HI.o.nqn;have Wo:=HI.o.R.off;have Tb:=aD (Ad Wo);have pR:Gz d.r.recs i=c:=by rw[Tc hx,Im]
  have Md:opAt d.r.recs i=x.o:=by unfold opAt;rw[hx]
  have Yo:=aD (And.intro pR Md);clear hx Im sC N9 hO hM hC hR fB Wo pR Md;refine CW.sq H (CW.pW H x9 A2 T2 λw3 Q iT A3 T3 HQ=>?_);have vG:=aD (iT▸zg9.o);have k5:w3.cell? ⟨hb,5,none⟩=some (.map (some v.mO)):=aJ A3.o.blk 5;have kx:=aJ vG.o 0;have lk:(zK 67 (.map (some v.mO)) (.int .i64 c) false).run aK w3.drew=.ok (.chan (some gL)) w3.drew:=by
   have:=zcO U2 Ko (zcY w3.drew) (A3.o.drew.O) (c:=c) false;rw[Qz.o] at this;exact this
  refine zqP w3 hb gx v.mO c (some gL) rfl rfl rfl k5 kx lk rfl ?_;rw[Go.Mt.Al,zmA];simp only[Go.Mt.wL,dU,dV,fHG1,lHG1,Dn,C9];refine HQ.o _ _ ?_;clear HQ;clear k5 kx lk;obtain⟨w4,lM⟩:=aU w3.drew;have A4:=aD (show bE w4 lo hb v d by rw[lM];exact A3.o.drew);have T4:=aD (show bM hb v w v w4 by rw[lM];exact T3.o.same rfl);have Mr:=aD (show w4.heap[gx]? =some (.cells #[.int .i64 c] 3) by rw[lM];exact vG.o);rw[<-lM];clear lM A3 T3 vG;refine CW.cd H false ?_;refine CW.sk H ?_;dsimp only;refine CW.sq H ?_;refine CW.sq H (CW.pW H x9 A4 T4 λw5 Q n8 A5 T5 HQ=>?_);have C6:=aD (n8▸Mr.o);have kx:=aJ C6.o 0;have zvs:=aD (λW (a:bE W lo hb v d)=>zd2 a HR.o HX.o HL.o.2.2.1);obtain⟨c2,f2⟩:=A5.o.recAt HR.o HX.o (j:=2) (u:=.int .i64 x.o) aH rfl
  go_wp2_with (go_at_call 115;refine(zvs.o _ A5.o).mono ?_;rintro en wz ⟨rfl,uX⟩;obtain rfl:=uX)
  refine HQ.o _ _ ?_;clear HQ;clear kx zvs c2 f2;obtain⟨w6,pB⟩:=aU w5.drew;have A6:=aD (show bE w6 lo hb v d by rw[pB];exact A5.o.drew);have T6:=aD (show bM hb v w v w6 by rw[pB];exact T5.o.same rfl);have K9:=aD (show w6.heap[gx]? =some (.cells #[.int .i64 c] 3) by rw[pB];exact C6.o);rw[<-pB];clear pB A5 T5 C6;refine CW.sq H ?_;by_cases hz:x.o=0
  .
    have cK:=aD (show mB d.r c=(lE d.r i Cc,[108,101,102,116]) by unfold mB;rw[uZ.o];simp only;rw[Yo.o.2,hz,if_neg aH]);have nG:=aD (show Dv d.r c=[] by unfold Dv;rw[uZ.o];simp only;rw[Yo.o.2,hz,if_neg aH]);rw[hz];clear hz;refine CW.pW H x9 A6 T6 λw7 Q rF A7 T7 HQ=>?_;have F9:=aD (rF▸K9.o);go_wp2;refine HQ.o _ _ ?_;clear HQ;refine CW.cd H false ?_;refine CW.sk H ?_;dsimp only;refine CW.sq H (CW.pW H x9 A7 T7 λw8 Q Ip A8 T8 HQ=>?_);have Iw:=aD (Ip▸F9.o);have kx:=aJ Iw.o 0
    go_wp2_with (go_at_call 116;refine(zkQ (e:=⟨#[108,101,102,116]⟩) A8.o HX.o HL.o.2.1 HL.o.2.2.2 HL.o.2.2.1 HR.o).mono ?_;rintro en w9 ⟨rfl,v9,a5,t5,p5⟩;have A9:=aD a5;have T9:=aD (T8.o.trans t5);have P9:=aD p5;have zw5:=aD t5;clear a5 t5 p5)
    refine HQ.o _ _ ?_;clear HQ;clear kx;have zwW:=aD (gC.of (v':=v9) (MR.o.clear HI.o.S HI.o.ndl (λz hz=>(HI.o.lb z hz).1) HX.o Zf.o.2 HL.o.1 (f:=λz=>{z with t:=d.r.clk,e:=Cc}) (λz=>⟨rfl,rfl⟩) zkz) P9.o.1 (by rw[P9.o.2.1,Zf.o.1]) P9.o.2.2.1 rfl rfl);obtain⟨kg,np⟩:=A8.o.turned zw5.o Iw.o NP.o;have Wv:=aD kg;have zKK:=aD np;clear kg np zw5 A8 T8 Iw;have znQ:=A9.o.W;have zvf:({d with r:={d.r with recs:=d.r.recs.modify i λz=>{z with t:=d.r.clk,e:=Cc}}}:nM).r.wait.length=d.r.wait.length:=rfl;rcases znQ.2 with⟨Xu,h0⟩|⟨gW,cW,cur,Kr,_⟩
    .
      have Kb:d.r.wait=[]:=List.eq_nil_of_length_eq_zero h0;have uY:=aD (show lE d.r i Cc={d.r with recs:=d.r.recs.modify i λz=>{z with t:=d.r.clk,e:=Cc}} by unfold lE;rw[Kb];show bX.mk _ _ _ [] _ _=_;rw[<-Kb];rfl);have zh4:=aD Xu;clear znQ zvf Xu h0 Kb;refine CW.sq H (CW.pW H x9 A9 T9 λvU Q Du tG wM HQ=>?_);have Xr:=aD (Du▸Wv.o);have k7:vU.cell? ⟨hb,7,none⟩=some (.slice none 0 0):=by
       have:=aJ tG.o.blk 7;rw[this,<-zh4.o];rfl
      go_wp2_with (go_at_call 117;refine(zFu Xr.o).mono ?_;rintro en Cu ⟨rfl,znr⟩;have An:=aD (tG.o.below znr);have Fp:=aD (wM.o.trans (bM.below znr));have Ym:=aJ An.o.blk 7;have kf:=eL An.o.blk 7;clear znr)
      refine HQ.o _ _ ?_;clear HQ;clear k7 Ym kf;have zjU:Cu.setCell ⟨hb,7,none⟩ (.slice none 0 0)=Cu.setCell ⟨hb,7,none⟩ v9.sW:=by rw[zh4.o]
      have a12:=An.o.newW (s':=v9.sW) (xs:=d.r.wait) An.o.W rfl (λb e=>by rw[zh4.o] at e;cases e);have t12:bM hb v9 Cu v9 (Cu.setCell ⟨hb,7,none⟩ v9.sW):=⟨by rw[tD];exact aX _,λb b6 hn=>eH Cu _ _ b (λe=>hn zxx),λb hx=>.inl hx⟩;obtain⟨Ld,N7⟩:=aU (Cu.setCell ⟨hb,7,none⟩ (.slice none 0 0));have zbY:=aD (show bE Ld lo hb v9 {d with r:={d.r with recs:=d.r.recs.modify i λz=>{z with t:=d.r.clk,e:=Cc}}} by rw[N7];exact(by rw[zjU];exact a12));have zc3:=aD (show bM hb v w v9 Ld by rw[N7];exact(by rw[zjU];exact Fp.o.trans t12));rw[<-N7];clear N7 An Fp;clear a12 t12 zjU tG wM Xr;refine CW.sq H (CW.p0 H x9 zbY zc3 λzkc zp5 zct zb8=>?_);refine CW.rt H ?_;refine⟨.inr rfl,rfl,.string ⟨#[108,101,102,116]⟩,rfl,⟨by rw[nG.o];rfl,by rw[cK.o],v9,?_,?_,?_,Bj.kept P9.o.2.2.2.2⟩⟩
      .rw[cK.o];rw[uY.o];exact zct.o
      .rw[cK.o];rw[uY.o];exact zwW.o
      .exact zb8.o
    .
      have uY:=aD (show lE d.r i Cc={d.r with recs:=d.r.recs.modify i (λz=>{z with t:=d.r.clk,e:=Cc}),wait:=dX d.r.wait c} by unfold lE;rw[Yo.o.1];rfl);have Sg:=aD (show v9.sW=.slice (some ⟨gW,0,none⟩) d.r.wait.length cW from Kr);clear znQ zvf Kr;refine CW.sq H (CW.pW H x9 A9 T9 λvU Q Du tG wM HQ=>?_);have Xr:=aD (Du▸Wv.o);have k7:vU.cell? ⟨hb,7,none⟩=some (.slice (some ⟨gW,0,none⟩) d.r.wait.length cW):=by
       have:=aJ tG.o.blk 7;rw[this,<-Sg.o];rfl
      have Uf:=aD (show vU.ownsRow lo 149 2 (.slice (some ⟨gW,0,none⟩) d.r.wait.length cW) d.r.wait.length (bF d.r.wait) by have:=tG.o.W;rw[Sg.o] at this;exact this)
      go_wp2_with (go_at_call 117;refine(zDT Uf.o aC Xr.o).mono ?_;rintro en Cu ⟨nW,rfl,zxo,Jp,If⟩;have Cj:vU.grownBy Cu v9.sW.ownBlock:=(by rw[Sg.o];exact If);have hq:=(tG.o.other (j:=5) (c:=7) (x:=v9.sW) rfl aH Cj (.slice (some ⟨gW,0,none⟩) nW cW)).2;have Ym:=aJ (hq.trans tG.o.blk) 7;have kf:=eL (hq.trans tG.o.blk) 7;have Bg:=aD (And.intro Jp (And.intro Cj zxo));clear Jp If Cj hq zxo)
      refine HQ.o _ _ ?_;clear HQ;clear k7 Ym kf;obtain⟨a6,t6⟩:=tG.o.putW Bg.o.2.1 Bg.o.1 Bg.o.2.2 (.inl (by rw[Sg.o];rfl));have An:=tG;have Fp:=wM;obtain⟨Ld,N7⟩:=aU (Cu.setCell ⟨hb,7,none⟩ (.slice (some ⟨gW,0,none⟩) nW cW));have zbY:=aD (show bE Ld lo hb {v9 with sW:=.slice (some ⟨gW,0,none⟩) nW cW} {d with r:={d.r with recs:=d.r.recs.modify i (λz=>{z with t:=d.r.clk,e:=Cc}),wait:=dX d.r.wait c}} by rw[N7];exact a6);have zc3:=aD (show bM hb v w {v9 with sW:=.slice (some ⟨gW,0,none⟩) nW cW} Ld by rw[N7];exact(wM.o.trans t6));rw[<-N7];clear N7 An Fp;clear a6 t6 Bg tG wM Xr;refine CW.sq H (CW.p0 H x9 zbY zc3 λzkc zp5 zct zb8=>?_);refine CW.rt H ?_;refine⟨.inr rfl,rfl,.string ⟨#[108,101,102,116]⟩,rfl,⟨by rw[nG.o];rfl,by rw[cK.o],{v9 with sW:=.slice (some ⟨gW,0,none⟩) nW cW},?_,?_,?_,⟨P9.o.2.2.2.2.1,P9.o.2.2.2.2.2.1,P9.o.2.2.2.2.2.2.2.2.1,P9.o.2.2.2.2.2.2.2.2.2⟩⟩⟩
      .rw[cK.o];rw[uY.o];exact zct.o
      .rw[cK.o];rw[uY.o];refine gC.of zwW.o ?_ ?_ ?_ ?_ ?_<;>rfl
      .exact zb8.o
  .
    have Cd:0<x.o:=aC;obtain⟨q,zwf⟩:∃q:Nat,x.o=(q:Int)+1:=⟨(x.o-1).toNat,aC⟩;have hq:q<d.qn.length:=aC;have yS:q<=100:=by have:=Tb.o.2.2.2.1;omega
    have zgI:dX d.r.wait c=d.r.wait:=zFX λy hy e=>by
     obtain⟨j,z,h1,h2,h3,h4⟩:=HI.o.S.wt y hy;have:=HI.o.S.opn i j x z HX.o h1 Zf.o.2 h2 (.inl (by rw[Zf.o.1,h3,e]));subst this;rw[HX.o] at h1;injection h1 with h1;rw[<-h1] at h4;exact hz h4
    have cK:=aD (show mB d.r c=(lE d.r i Gj,[100,111,110,101]) by unfold mB;rw[uZ.o];simp only;rw[Yo.o.2,if_pos Cd]);have nG:=aD (show Dv d.r c=[.ask q 1 0 0] by unfold Dv;rw[uZ.o];simp only;rw[Yo.o.2,if_pos Cd,zwf,Kc]);have uY:=aD (show lE d.r i Gj={d.r with recs:=d.r.recs.modify i λz=>{z with t:=d.r.clk,e:=Gj}} by unfold lE;rw[Yo.o.1,zgI];rfl);have zbE:e.W[k]? =some (.ask q 1 0 0):=by have:=HW.o;rw[nG.o] at this;exact this.head
    rw[zwf];have zCq:((q:Int)+1 !=0)=true:=by have:(q:Int)+1≠0:=aC;simpa using this
    have zD8:¬(q:Int)+1=0:=aC;clear hz Cd zgI;refine CW.pW H x9 A6 T6 λw7 Q rF A7 T7 HQ=>?_;have F9:=aD (rF▸K9.o);go_wp2;refine HQ.o _ _ ?_;clear HQ
    try simp only[zD8,not_false_eq_true,decide_true,bne_iff_ne,ne_eq]
    refine CW.cond H (t:=true) rfl (by first|rfl|exact congrArg M5 zCq) ?_;refine CW.sq H ?_;refine CW.rg H [0,1,2] ?_;refine CR.mv H (.pointer (some ⟨hb,0,none⟩)) ?_;refine CR.mv H (.int .i64 ((q:Int)+1)) ?_;refine CR.cl H (zc7 H A7.o zbE hq yS hK) (λK' l' y w' hl o5=>?_);obtain⟨rfl,rfl,qF⟩:=o5;simp only[cC,gK,dU,dV];have A8:=aD (show bE w' lo hb v d by rw[qF];exact A7.o.alloc _);have T8:=aD (show bM hb v w v w' by rw[qF];exact T7.o.trans (bM.below (dN (eF _ _) _)));have Iw:=aD (show w'.heap[gx]? =some (.cells #[.int .i64 c] 3) by rw[qF];exact dB F9.o _);clear qF A7 T7 F9;refine CR.nil H ?_;refine CW.sq H (CW.pW H x9 A8 T8 λw9 Q Is A9 T9 HQ=>?_);have Wv:=aD (Is▸Iw.o);have kx:=aJ Wv.o 0
    go_wp2_with (go_at_call 116;refine(zkQ (e:=⟨#[100,111,110,101]⟩) A9.o HX.o HL.o.2.1 HL.o.2.2.2 HL.o.2.2.1 HR.o).mono ?_;rintro en vU ⟨rfl,v10,a5,t5,p5⟩;have tG:=aD a5;have wM:=aD (T9.o.trans t5);have zfH:=aD p5;have zrK:=aD t5;clear a5 t5 p5)
    refine HQ.o _ _ ?_;clear HQ;clear kx;have zy1:=aD (gC.of (v':=v10) (MR.o.clear HI.o.S HI.o.ndl (λz hz=>(HI.o.lb z hz).1) HX.o Zf.o.2 HL.o.1 (f:=λz=>{z with t:=d.r.clk,e:=Gj}) (λz=>⟨rfl,rfl⟩) zg3) zfH.o.1 (by rw[zfH.o.2.1,Zf.o.1]) zfH.o.2.2.1 rfl rfl);obtain⟨kg,np⟩:=A9.o.turned zrK.o Wv.o NP.o;have Xr:=aD kg;have zKs:=aD np;clear kg np zrK A9 T9 Wv;refine CW.sq H (CW.p0 H x9 tG wM λCu zIm An Fp=>?_);refine CW.rt H ?_;refine⟨.inr rfl,rfl,.string ⟨#[100,111,110,101]⟩,rfl,⟨by rw[nG.o];rfl,by rw[cK.o],v10,?_,?_,?_,Bj.kept zfH.o.2.2.2.2⟩⟩
    .rw[cK.o];rw[uY.o];exact An.o
    .rw[cK.o];rw[uY.o];exact zy1.o
    .exact Fp.o
section
variable {p:bS}{o:aZ}{ρ:cM->aF}{w w':aE}
variable {t e:aM}{sz:Nat}{ie:wW}
theorem zvo {x y:cM}{A:Option bL}{n c i:Nat}(ho:o.op=.slice t x (some y) none none)(hu:p.underlying t=some (.slice e))(hi:p.info? e=some ie)(hz:ie.size=sz)(hx:ρ x=.slice A n c)(hy:ρ y=.int .i64 (i:Int))(nY:i<=n):
 (aS ρ o).run p w=.ok (.value (.slice (if c=i then A else A.map (·.add (i*sz))) (n-i) (c-i))) w:=by
 obtain⟨dst,yJ,type,pos,after,guard⟩:=o;simp only at ho;subst ho;have h0:(0:Int)<=(i:Int):=aC;have h1:(i:Int)<=(n:Int):=aC;simp[aS,Vj,Wx,Xz,Lh,hx,hy,wU hu,sizeOf,typeInfo,hi,hz,asIntOf,h0,h1];exact λh=>absurd h aC
variable {j:Int}
theorem Rh {x y:cM}{g off n c i:Nat}(ho:o.op=.slice t x (some y) none none)(hu:p.underlying t=some (.slice e))(hi:p.info? e=some ie)(hz:ie.size=sz)(hx:ρ x=.slice (some ⟨g,0,none⟩) n c)(hy:ρ y=.int .i64 j)(hj:j=(i:Int))(nY:i<=n)(yD:i<c)(zFA:off=i*sz){n' c':Nat}(sV:n'=n-i)(kI:c'=c-i):
 (aS ρ o).run p w=.ok (.value (.slice (some ⟨g,off,none⟩) n' c')) w:=by
 subst zFA sV kI hj;rw[zvo ho hu hi hz hx hy nY,if_neg aC];simp[Lo]
theorem zsD {x y:cM}{g n c i:Nat}(ho:o.op=.slice t x none (some y) none)(hu:p.underlying t=some (.slice e))(hi:p.info? e=some ie)(hz:ie.size=sz)(hx:ρ x=.slice (some ⟨g,0,none⟩) n c)(hy:ρ y=.int .i64 j)(hj:j=(i:Int))(yD:i<=c):
 (aS ρ o).run p w=.ok (.value (.slice (some ⟨g,0,none⟩) i c)) w:=by
 subst hj;obtain⟨dst,yJ,type,pos,after,guard⟩:=o;simp only at ho;subst ho;have h0:(0:Int)<=(i:Int):=aC;have h1:(i:Int)<=(c:Int):=aC;simp[aS,Vj,Wx,Xz,Lh,hx,hy,wU hu,sizeOf,typeInfo,hi,hz,asIntOf,h0,h1,Lo];exact λh=>absurd h aC
theorem Y2 {s x:cM}{tn:aM}{a b v:aF}{w':aE}(ho:o.op=.call ⟨.builtin .append,#[s,x],#[t,tn]⟩)(hs:ρ s=a)(hx:ρ x=b)(hr:(Builtin.append_ #[t,tn] o.type #[a,b]).run p w=.ok v w'):(aS ρ o).run p w=.ok (.value v) w':=by
 unfold aS;simp only[ho,resolve,invoke,builtin,Sem.run_bind,Sem.run_pure,Result.andThen_ok,uI,fO,tW,hs,hx,hr]
end
theorem Xe:∃ie,aK.info? 149=some ie/\ie.zero=some (.agg #[.int .i64 0,.int .i64 0])/\ie.size=2/\ie.bytes=16:=by
 obtain⟨i0,hi,gX,eB,jZ⟩:=info_parts zau;exact⟨i0,hi,gX,eB,jZ⟩
def x4:aK.underlying 69=some (.slice 149):=aQ
def To:Go.Code:=(Tryz.f111.body).getD .skip
def rIN7:Go.Code:=match To with| .seq _ (.seq _ (.seq _ (.seq _ (.seq _ (.seq (.seq _ (.cond _ (.seq (a) _) _)) _)))))=>a|_=>.skip
def rIN9:Go.Code:=match To with| .seq _ (.seq _ (.seq _ (.seq _ (.seq _ (.seq _ (.seq (.seq _ (.cond _ (.seq (a) _) _)) _))))))=>a|_=>.skip
def rIN10:Go.Code:=match To with| .seq _ (.seq _ (.seq _ (.seq _ (.seq _ (.seq _ (.seq (.seq _ (.cond _ (.seq _ (.seq (a) _)) _)) _))))))=>a|_=>.skip
def rIN11:Go.Code:=match To with| .seq _ (.seq _ (.seq _ (.seq _ (.seq _ (.seq _ (.seq (.seq _ (.cond _ (.seq _ (.seq _ (.seq (a) _))) _)) _))))))=>a|_=>.skip
def rIN14:Go.Code:=match To with| .seq _ (.seq _ (.seq _ (.seq _ (.seq _ (.seq _ (.seq _ (.seq _ (.seq (.seq (a) _) _))))))))=>a|_=>.skip
def rIN15:Go.Code:=match To with| .seq _ (.seq _ (.seq _ (.seq _ (.seq _ (.seq _ (.seq _ (.seq _ (.seq (.seq _ (.cond _ (.seq (a) _) _)) _))))))))=>a|_=>.skip
def rIN16:Go.Code:=match To with| .seq _ (.seq _ (.seq _ (.seq _ (.seq _ (.seq _ (.seq _ (.seq _ (.seq (.seq _ (.cond _ (.seq _ (.seq (a) _)) _)) _))))))))=>a|_=>.skip
def opsIN7:Array Oper:=match rIN7 with| .region _ ops _=>ops|_=>#[]
abbrev oIN7_2:Oper:=⟨some 25,.call ⟨.builtin .append,#[.tmp 23,.tmp 24],#[69,69]⟩,69,"slices.go:145",#[⟨0,.data⟩,⟨1,.data⟩],none⟩
def zIp:opsIN7[2]? =some oIN7_2:=rfl
def opsIN9:Array Oper:=match rIN9 with| .region _ ops _=>ops|_=>#[]
abbrev oIN9_8:Oper:=⟨some 40,.call ⟨.builtin .append,#[.tmp 34,.tmp 39],#[69,3]⟩,69,"slices.go:152",#[⟨2,.data⟩,⟨7,.data⟩],none⟩
def zIh:opsIN9[8]? =some oIN9_8:=rfl
def opsIN10:Array Oper:=match rIN10 with| .region _ ops _=>ops|_=>#[]
abbrev oIN10_4:Oper:=⟨some 45,.call ⟨.builtin .copy,#[.tmp 43,.tmp 44],#[69,69]⟩,3,"slices.go:153",#[⟨2,.data⟩,⟨3,.data⟩],none⟩
def zIb:opsIN10[4]? =some oIN10_4:=rfl
def opsIN14:Array Oper:=match rIN14 with| .region _ ops _=>ops|_=>#[]
abbrev oIN14_6:Oper:=⟨some 67,.call ⟨.value (.func 121),#[.tmp 61,.tmp 66],#[69,69]⟩,4,"slices.go:173",#[⟨0,.data⟩,⟨5,.data⟩],none⟩
def zHV:opsIN14[6]? =some oIN14_6:=rfl
def opsIN16:Array Oper:=match rIN16 with| .region _ ops _=>ops|_=>#[]
abbrev oIN16_4:Oper:=⟨some 82,.call ⟨.builtin .copy,#[.tmp 80,.tmp 81],#[69,69]⟩,3,"slices.go:186",#[⟨2,.data⟩,⟨3,.data⟩],none⟩
def zJt:opsIN16[4]? =some oIN16_4:=rfl
def zfn:Array Oper:=match rIN11 with| .region _ ops _=>ops|_=>#[]
def zud:zfn.toList=[⟨some 46,.move (.tmp 9),69,"slices.go:154",#[],none⟩,⟨some 47,.move (.tmp 1),3,"slices.go:154",#[],none⟩,⟨some 48,.move (.tmp 7),3,"slices.go:154",#[],none⟩,⟨some 49,.binOp .add 3 (.tmp 47) (.tmp 48) 3,3,"slices.go:154",#[⟨1,.data⟩,⟨2,.data⟩],none⟩,⟨some 50,.slice 69 (.tmp 46) (some (.tmp 49)) none none,69,"slices.go:154",#[⟨0,.data⟩,⟨3,.data⟩],none⟩,⟨some 51,.move (.tmp 0),69,"slices.go:154",#[],none⟩,⟨some 52,.move (.tmp 1),3,"slices.go:154",#[],none⟩,⟨some 53,.slice 69 (.tmp 51) (some (.tmp 52)) none none,69,"slices.go:154",#[⟨5,.data⟩,⟨6,.data⟩],none⟩,⟨some 54,.call ⟨.builtin .copy,#[.tmp 50,.tmp 53],#[69,69]⟩,3,"slices.go:154",#[⟨4,.data⟩,⟨7,.data⟩],none⟩]:=rfl
def zeV:Array Oper:=match rIN15 with| .region _ ops _=>ops|_=>#[]
def ztl:zeV.toList=[⟨some 69,.move (.tmp 0),69,"slices.go:178",#[],none⟩,⟨some 70,.move (.tmp 1),3,"slices.go:178",#[],none⟩,⟨some 71,.move (.tmp 7),3,"slices.go:178",#[],none⟩,⟨some 72,.binOp .add 3 (.tmp 70) (.tmp 71) 3,3,"slices.go:178",#[⟨1,.data⟩,⟨2,.data⟩],none⟩,⟨some 73,.slice 69 (.tmp 69) (some (.tmp 72)) none none,69,"slices.go:178",#[⟨0,.data⟩,⟨3,.data⟩],none⟩,⟨some 74,.move (.tmp 0),69,"slices.go:178",#[],none⟩,⟨some 75,.move (.tmp 1),3,"slices.go:178",#[],none⟩,⟨some 76,.slice 69 (.tmp 74) (some (.tmp 75)) none none,69,"slices.go:178",#[⟨5,.data⟩,⟨6,.data⟩],none⟩,⟨some 77,.call ⟨.builtin .copy,#[.tmp 73,.tmp 76],#[69,69]⟩,3,"slices.go:178",#[⟨4,.data⟩,⟨7,.data⟩],none⟩]:=rfl
def za1:wC aK 111:=⟨_,zwi,.inr (.inl ⟨_,rfl⟩)⟩
def WIN11 (w w3:aE)(g1 n1 c1 g n c ix:Nat)(vc:aF):Nat->aE
 |0=>w.drew
 |_=>w3
theorem zom:zfn.toList.map (·.dst)=[some 46,some 47,some 48,some 49,some 50,some 51,some 52,some 53,some 54]:=by rw[zud];rfl
def lIN11 (w w3:aE)(g1 n1 c1 g n c ix:Nat)(vc:aF):List Value:=[.slice (some ⟨g1,0,none⟩) n1 c1,.int .i64 ((ix:Nat)),.int .i64 (1),.int .i64 (((ix+1:Nat):Int)),.slice (some ⟨g1,(ix+1)*2,none⟩) (n1-(ix+1)) (c1-(ix+1)),.slice (some ⟨g,0,none⟩) n c,.int .i64 ((ix:Nat)),.slice (some ⟨g,ix*2,none⟩) (n-ix) (c-ix),vc]
def zlU (w w3:aE)(g1 n1 c1 g n c ix:Nat)(vc:aF)(i:Nat):Value:=(lIN11 w w3 g1 n1 c1 g n c ix vc).getD i aA
variable {d:List Deferred}{Q:n5->tK->aE->Prop}{t0:Array aF}
theorem wp_IN11 (w w3:aE)(g1 n1 c1 g n c ix:Nat)(vc:aF)(hz:t0.size=95)(uK:t0.getD 0 aA=.slice (some ⟨g,0,none⟩) n c)(Ei:t0.getD 1 aA=.int .i64 ((ix:Nat)))(Es:t0.getD 7 aA=.int .i64 (1))(zkb:t0.getD 9 aA=.slice (some ⟨g1,0,none⟩) n1 c1)(hb:ix+1<=n1/\ix+1<c1/\ix<=n/\ix<c/\ix<=100000)(mR:(C7 #[69,69] 3 #[.slice (some ⟨g1,(ix+1)*2,none⟩) (n1-(ix+1)) (c1-(ix+1)),.slice (some ⟨g,ix*2,none⟩) (n-ix) (c-ix)]).run aK w.drew=.ok vc w3)(h0:WIN11 w w3 g1 n1 c1 g n c ix vc 0=w.drew)(hk:Q .normal ⟨dE zfn (zlU w w3 g1 n1 c1 g n c ix vc) t0,d⟩ (w3)):
 (Ep 11 zfn true).wp aK Q ⟨t0,d⟩ w:=by
 refine H8 (ws:=[8]) (Wd:=WIN11 w w3 g1 n1 c1 g n c ix vc) (vals:=zlU w w3 g1 n1 c1 g n c ix vc) vK.mixed aQ aH aQ h0 Hv (λV hU hV=>?_) hk;obtain⟨X8,zbQ,znE,Xm,zfP,Vn,Vt,zki,zro,-⟩:=Ib zom hU;have e0:=(hV 0 aQ).trans uK;have e1:=(hV 1 aQ).trans Ei;have e7:=(hV 7 aQ).trans Es;have e9:=(hV 9 aQ).trans zkb;refine λTf hT=>Ht zud ⟨bP.pv,bP.pv,bP.pv,bP.any (λkk fS hm=>?_),bP.any (λkk fS hm=>?_),bP.pv,bP.pv,bP.any (λkk fS hm=>?_),bP.act (v:=V 54) 0 rfl (eD rfl) ?_,trivial⟩
 .have i0:=hb.2.2.2.2
  unfold aS;go_simp;first|(push_cast;exact D9 aC aC)|(push_cast;rw[D9 aC aC])|trace_state
 .obtain⟨ie,jY,_,cG,_⟩:=Xe
  exact Rh rfl x4 jY cG (nN hT X8) (nN hT Xm) rfl hb.1 hb.2.1 rfl rfl rfl
 .obtain⟨ie,jY,_,cG,_⟩:=Xe
  exact Rh rfl x4 jY cG (nN hT Vn) (nN hT Vt) rfl hb.2.2.1 hb.2.2.2.1 rfl rfl rfl
 .rw[zro];exact zec rfl (nN hT zfP) (nN hT zki) mR
def WIN15 (w w3:aE)(g n c ix:Nat)(vc:aF):Nat->aE
 |0=>w.drew
 |_=>w3
theorem zr1:zeV.toList.map (·.dst)=[some 69,some 70,some 71,some 72,some 73,some 74,some 75,some 76,some 77]:=by rw[ztl];rfl
def lIN15 (w w3:aE)(g n c ix:Nat)(vc:aF):List Value:=[.slice (some ⟨g,0,none⟩) n c,.int .i64 ((ix:Nat)),.int .i64 (1),.int .i64 (((ix+1:Nat):Int)),.slice (some ⟨g,(ix+1)*2,none⟩) (n-(ix+1)) (c-(ix+1)),.slice (some ⟨g,0,none⟩) n c,.int .i64 ((ix:Nat)),.slice (some ⟨g,ix*2,none⟩) (n-ix) (c-ix),vc]
def zko (w w3:aE)(g n c ix:Nat)(vc:aF)(i:Nat):Value:=(lIN15 w w3 g n c ix vc).getD i aA
theorem wp_IN15 (w w3:aE)(g n c ix:Nat)(vc:aF)(hz:t0.size=95)(uK:t0.getD 0 aA=.slice (some ⟨g,0,none⟩) n c)(Ei:t0.getD 1 aA=.int .i64 ((ix:Nat)))(Es:t0.getD 7 aA=.int .i64 (1))(hb:ix+1<=n/\ix+1<c/\ix<=n/\ix<c/\ix<=100000)(mR:(C7 #[69,69] 3 #[.slice (some ⟨g,(ix+1)*2,none⟩) (n-(ix+1)) (c-(ix+1)),.slice (some ⟨g,ix*2,none⟩) (n-ix) (c-ix)]).run aK w.drew=.ok vc w3)(h0:WIN15 w w3 g n c ix vc 0=w.drew)(hk:Q .normal ⟨dE zeV (zko w w3 g n c ix vc) t0,d⟩ (w3)):
 (Ep 15 zeV true).wp aK Q ⟨t0,d⟩ w:=by
 refine H8 (ws:=[8]) (Wd:=WIN15 w w3 g n c ix vc) (vals:=zko w w3 g n c ix vc) vK.mixed aQ aH aQ h0 Hv (λV hU hV=>?_) hk;obtain⟨zEr,zMN,zKh,zH2,zz0,zAs,zAW,zyw,zAU,-⟩:=Ib zr1 hU;have e0:=(hV 0 aQ).trans uK;have e1:=(hV 1 aQ).trans Ei;have e7:=(hV 7 aQ).trans Es;refine λTf hT=>Ht ztl ⟨bP.pv,bP.pv,bP.pv,bP.any (λkk fS hm=>?_),bP.any (λkk fS hm=>?_),bP.pv,bP.pv,bP.any (λkk fS hm=>?_),bP.act (v:=V 77) 0 rfl (eD rfl) ?_,trivial⟩
 .have i0:=hb.2.2.2.2
  unfold aS;go_simp;first|(push_cast;exact D9 aC aC)|(push_cast;rw[D9 aC aC])|trace_state
 .obtain⟨ie,jY,_,cG,_⟩:=Xe
  exact Rh rfl x4 jY cG (nN hT zEr) (nN hT zH2) rfl hb.1 hb.2.1 rfl rfl rfl
 .obtain⟨ie,jY,_,cG,_⟩:=Xe
  exact Rh rfl x4 jY cG (nN hT zAs) (nN hT zAW) rfl hb.2.2.1 hb.2.2.2.1 rfl rfl rfl
 .rw[zAU];exact zec rfl (nN hT zz0) (nN hT zyw) mR
variable {c1 c2:List aF}
theorem ins_up {c0 a b xx:List aF}(ha:c0.take a.length=a)(hl:a.length+xx.length+b.length<=c0.length)(h1:c1=c0.take a.length++xx++c0.drop (a.length+xx.length))(h2:c2=c1.take (a.length+xx.length)++b++c1.drop (a.length+xx.length+b.length)):
 c2.take (a.length+xx.length+b.length)=a++xx++b/\c2.length=c0.length:=by
 have e1:c1.take (a.length+xx.length)=a++xx:=by
  rw[h1,ha,Ft (by rw[gN];exact aX _),zB (by rw[gN];exact aX _)]
 have l1:c1.length=c0.length:=by rw[h1,ha];simp only[gN,x3];omega
 rw[h2,e1];refine⟨?_,?_⟩
 .rw[Ft zeL,zB zeL]
 .simp only[gN,x3];omega
theorem zDu {c0 a b xx:List aF}(ha:c0.take a.length=a)(hl:a.length+xx.length+b.length<=c0.length)(h1:c1=c0.take (a.length+xx.length)++b++c0.drop (a.length+xx.length+b.length))(h2:c2=c1.take a.length++xx++c1.drop (a.length+xx.length)):
 c2.take (a.length+xx.length+b.length)=a++xx++b/\c2.length=c0.length:=by
 have lt:(c0.take (a.length+xx.length)).length=a.length+xx.length:=by rw[rQ];omega
 have e1:c1.take a.length=a:=by
  rw[h1,Hs,Ft aC,Qg,zoN aC,ha]
 have e2:c1.drop (a.length+xx.length)=b++c0.drop (a.length+xx.length+b.length):=by
  rw[h1,Hs,List.drop_append_of_le_length aC,zpA aC,List.nil_append]
 rw[h2,e1,e2];refine⟨?_,?_⟩
 .rw[<-Hs,Ft zeL,zB zeL]
 .simp only[gN,x3];omega
theorem zlp (xs:List bJ)(x:bJ)(i:Nat):bF (xs.take i++x::xs.drop i)=(bF xs).take (i*2)++x.cells++(bF xs).drop (i*2):=by
 have h1:(bF xs).take (i*2)=bF (xs.take i):=by
  induction xs generalizing i with
  |nil=>simp[bF]
  |cons y ys ih=>
   cases i with
   |zero=>simp[bF]
   |succ i=>
    have:bF (y::ys)=y.cells++bF ys:=by simp[bF]
    rw[this,List.take_succ_cons,show(i+1)*2=y.cells.length+i*2 by simp[bJ.cells];omega,List.take_length_add_append,ih i];simp[bF]
 have h2:(bF xs).drop (i*2)=bF (xs.drop i):=by
  clear h1
  induction xs generalizing i with
  |nil=>simp[bF]
  |cons y ys ih=>
   cases i with
   |zero=>simp[bF]
   |succ i=>
    have:bF (y::ys)=y.cells++bF ys:=by simp[bF]
    rw[this,List.drop_succ_cons,show(i+1)*2=y.cells.length+i*2 by simp[bJ.cells];omega,List.drop_length_add_append,ih i]
 rw[h1,h2];simp[bF]
structure Grew (w w':aE)(r:Option Nat):Prop where
 size:w.heap.size<=w'.heap.size
 block:∀b,b<w.heap.size->¬some b=r->w'.heap[b]? =w.heap[b]?
theorem ov_fn:OvFn aK 121 69 4 149 2:=by
 obtain⟨ie,jY,_,cG,_⟩:=Xe;exact⟨⟨_,Tryz.func121,aH,rfl,aQ,aQ⟩,x4,⟨ie,jY,cG⟩⟩
variable {A:Option bL}{l:gO}
theorem zIe (H:e.d.Ok){gv c:Nat}{x:bJ}(h:w.ownsRow lo 149 2 (.slice A n c) n (bF xs))(dW:lo<=w.heap.size)(hn:n<=1000)(hi:i<=n)(hv:w.heap[gv]? =some (.cells #[.int .i64 x.c,.int .i64 x.p] 149))(aT:(Sd A n c).ownBlock≠some gv):
 CF e.d 111 #[.slice A n c,.int .i64 (i:Int),.slice (some ⟨gv,0,none⟩) 1 1] K l w (λK' l' y w'=>l'=l/\∃g2 c2,y=.slice (some ⟨g2,0,none⟩) (n+1) c2/\w'.ownsRow lo 149 2 (.slice (some ⟨g2,0,none⟩) (n+1) c2) (n+1) (bF (xs.take i++x::xs.drop i))/\Grew w w' (Sd A n c).ownBlock/\(some g2=(Sd A n c).ownBlock\/w.heap.size<=g2)):=by
 refine CF.of 95 zwi (.inr (.inl ⟨_,rfl⟩)) ?_;obtain⟨ie,jY,gX,cG,uQ⟩:=Xe;have zlv:xs.length=n:=by have h1:=h.1;have h2:(bF xs).length=xs.length*2:=Fi bJ.cells (s:=2) (λ_=>rfl) xs;omega
 have h1:(1:Nat)<=1:=aX 1;refine CW.sq H ?_;refine CW.pQ H za1 (λzdG Q HQ=>?_);go_wp2;refine HQ.o _ _ ?_;clear HQ;refine CW.tape (s:=⟨[],K,l,_,w⟩) ?_ zdG 0;refine CW.sq H ?_;refine CW.rg H [0,1,2] ?_;refine CR.mv H (.slice A n c) ?_;refine CR.mv H (.int .i64 (i:Int)) ?_;refine CR.mv H (.slice (if c=i then A else A.map (·.add (i*2))) (n-i) (c-i)) ?_ (hx:=λT=>by exact zvo rfl x4 jY cG rfl rfl hi);refine CR.nil H ?_;refine CW.sq H ?_;refine CW.rg H [0,1,2] ?_;refine CR.mv H (.slice (some ⟨gv,0,none⟩) 1 1) ?_;refine CR.mv H (.int .i64 1) ?_ (hx:=λT=>by exact zqJ rfl x4 rfl);refine CR.mv H (.int .i64 1) ?_;refine CR.nil H ?_;refine CW.sq H ?_;refine CW.sq H ?_;refine CW.rg H [0,1] ?_;refine CR.mv H (.int .i64 1) ?_;refine CR.mg H (.bool false) ?_;refine CR.nil H ?_;refine CW.cd H false ?_;refine CW.sk H ?_;dsimp only;refine CW.sq H ?_;refine CW.rg H [0,1,2] ?_;refine CR.mv H (.slice A n c) ?_;refine CR.mv H (.int .i64 (n:Int)) ?_ (hx:=λT=>by exact zqJ rfl x4 rfl);refine CR.mv H (.int .i64 (n:Int)) ?_;refine CR.nil H ?_;refine CW.sq H ?_;refine CW.sq H ?_;refine CW.rg H [0,1,2] ?_;refine CR.mv H (.int .i64 (i:Int)) ?_;refine CR.mv H (.int .i64 (n:Int)) ?_;by_cases nY:i=n
 .
   subst nY;clear hi;refine nP ?_;refine CR.mg H (.bool true) ?_;refine CR.nil H ?_;refine CW.cd H true ?_;refine CW.sq H ?_;refine CW.rg H [0,1,2,3] ?_;refine CR.mv H (.slice A i c) ?_;refine CR.mv H (.slice (some ⟨gv,0,none⟩) 1 1) ?_;refine CR.op H zIp rfl aQ (λT=>?_);obtain⟨q1,q2,w5,fR,cP,nF,fB⟩:=Np (w:=Tt.tp w T 0) (t:=69) (ty:=69) zau x4 rfl aH (cJ h λb e=>rfl) (g:=gv) (cs:=#[.int .i64 x.c,.int .i64 x.p]) (news:=bJ.cells x) hv rfl (m:=1) rfl aH Uu aC aH dW;refine⟨.slice (some ⟨q1,0,none⟩) (i+1) q2,w5,.inl (Y2 rfl rfl rfl fR),?_⟩;simp only[cC,gK,dU,dV];refine nP ?_;refine CR.mv H (.slice (some ⟨q1,0,none⟩) (i+1) q2) ?_;refine CR.nil H ?_;refine CW.rt H ?_;refine⟨.inr rfl,rfl,.slice (some ⟨q1,0,none⟩) (i+1) q2,rfl,rfl,q1,q2,rfl,?_,⟨nF.size,nF.block⟩,?_⟩
   .rw[zlp,zB zr7,zpA zr7,List.append_nil]
    exact cP
   .exact fB.imp id λhh=>hh q1 rfl
 .
   have aN:i<n:=aC;have zz2:(i:Int)<(n:Int):=aC;have zLd:¬(i:Int)=(n:Int):=aC;refine nP ?_;refine CR.mg H (.bool false) ?_;refine CR.nil H ?_;refine CW.cd H false ?_;refine CW.sk H ?_;dsimp only;obtain⟨hlen,Xu|⟨g,cap,cur,Gl,zyA,hg,Zs,r9,fV,lP⟩⟩:=id h
   .exfalso;have:=Xu.2;omega
   injection Gl with e1 e2 e3;subst e1 e3;clear e2;have Ai:gv≠g:=λe=>aT (by rw[e];rfl);have mK:cur.toList.length=c*2:=by simpa using fV
   have la:((bF xs).take (i*2)).length=i*2:=by rw[rQ,hlen];omega
   have lb:((bF xs).drop (i*2)).length=(n-i)*2:=by rw[x3,hlen];omega
   have Ru:∀j u,(bF xs)[j]? =some u->cur[j]? =some u:=λj u hj=>by
    rw[<-lP,Zi] at hj;split at hj
    .rw[<-Aw];exact hj
    .cases hj
   have zzZ:cur.toList.take (i*2)=(bF xs).take (i*2):=by rw[<-lP,Qg];congr 1;omega
   have one:=Xg xs;refine CW.sq H ?_;refine CW.sq H ?_;refine CW.rg H [0,1,2,3,4,5] ?_;refine CR.mv H (.int .i64 (n:Int)) ?_;refine CR.mv H (.int .i64 1) ?_;refine CR.mv H (.int .i64 ((n+1:Nat):Int)) ?_ (hx:=λT=>by unfold aS;go_simp;first|(push_cast;exact D9 aC aC)|(push_cast;rw[D9 aC aC])|trace_state);refine CR.mv H (.slice (some ⟨g,0,none⟩) n c) ?_;refine CR.mg H (.int .i64 (c:Int)) ?_;by_cases zMk:n+1>c
   .
     have zFz:(c:Int)<((n+1:Nat):Int):=aC;refine nP ?_;refine CR.mv H (.bool true) ?_ (hx:=λT=>by unfold aS;go_simp;try omega);refine CR.nil H ?_;refine CW.cd H true ?_;refine CW.sq H ?_;refine CW.rg H [0,1,2,3,4,5,6,7,8,9] ?_;refine CR.mv H (.slice (some ⟨g,0,none⟩) n c) ?_;refine CR.mv H (.int .i64 (i:Int)) ?_;refine CR.mv H (.slice (some ⟨g,0,none⟩) i c) ?_ (hx:=λT=>by exact zsD rfl x4 jY cG rfl rfl rfl aC);refine CR.mv H (.int .i64 (n:Int)) ?_;refine CR.mv H (.int .i64 1) ?_;refine CR.mv H (.int .i64 ((n+1:Nat):Int)) ?_ (hx:=λT=>by unfold aS;go_simp;first|(push_cast;exact D9 aC aC)|trace_state);refine CR.mv H (.int .i64 (i:Int)) ?_;refine CR.mv H (.int .i64 ((n+1-i:Nat):Int)) ?_ (hx:=λT=>by unfold aS;go_simp;first|(rw[D9 aC aC];omega)|trace_state);refine CR.op H zIh rfl aQ (λT=>?_);have hold:(Tn ie.size i (.slice (some ⟨g,0,none⟩) i c)).run aK (Tt.tp w T 0).drew=.ok ((bF xs).take (i*2)).toArray (Tt.tp w T 0).drew:=by
      have hl:=run_loadCells_list (P:=aK) (Tt.tp w T 0).drew ⟨g,0,none⟩ ((bF xs).take (i*2)) (λj u hj=>by
       rw[Lo,qY];have Qv:(bF xs)[j]? =some u:=by
        rw[Zi] at hj;split at hj
        .exact hj
        .cases hj
       exact(aJ (w:=w) hg j).trans (Ru j u Qv))
      rw[la] at hl;simp[Tn,cG,hl]
     have fR:=Lib.run_append_grow_zeros (P:=aK) (Tt.tp w T 0) 69 3 69 149 ie _ .i64 .i64 x4 Ko jY gX (some ⟨g,0,none⟩) i c ((bF xs).take (i*2)) hold (n+1-i) aC aC aC aC (by rw[uQ];omega) (by rw[uQ];exact growslice_fits aC aC);obtain⟨c2,nK⟩:=aU (grownCap (Tt.tp w T 0) (i+(n+1-i)) c 149);have Aq:n+1<=c2:=by have:=grownCap_ge (Tt.tp w T 0) (i+(n+1-i)) c 149;omega
     have hle:c2<=maxLen:=by rw[nK];exact grownCap_le_maxLen _ _ _ _ X2
     obtain⟨xP,zfK⟩:=aU (((bF xs).take (i*2)).toArray++qD (.agg #[.int .i64 0,.int .i64 0]:aF).cells (n+1-i)++qD (.agg #[.int .i64 0,.int .i64 0]:aF).cells (c2-(i+(n+1-i))):Array aF);have Zj:xP.toList.length=c2*2:=by
      have z1:(qD (.agg #[.int .i64 0,.int .i64 0]:aF).cells (n+1-i)).size=(n+1-i)*2:=Ys _ _;have z2:(qD (.agg #[.int .i64 0,.int .i64 0]:aF).cells (c2-(i+(n+1-i)))).size=(c2-(i+(n+1-i)))*2:=Ys _ _;rw[Ds,zfK,Sn,Sn,z1,z2,List.size_toArray,la];omega
     have zh6:xP.toList.take (i*2)=(bF xs).take (i*2):=by
      rw[zfK,Oz,Oz,Hs,Ft (by rw[la];exact aX _),zB (by rw[la];exact aX _)]
     rw[<-nK,<-zfK,show i+(n+1-i)=n+1 by omega] at fR;obtain⟨W1,dH⟩:=aU ((Tt.tp w T 0).drew.alloc (.cells xP 149));rw[<-dH] at fR;have yG:W1.heap[w.heap.size]? =some (.cells xP 149 (0,0)):=by rw[dH];exact lF _ _
     have zuT:∀b,b<w.heap.size->W1.heap[b]? =w.heap[b]? :=λb hb=>by rw[dH];exact Below.heap_alloc _ _ _ hb
     have eB:W1.heap.size=w.heap.size+1:=by rw[dH];exact rE _ _
     have zqz:g<w.heap.size:=fP hg;have zod:gv<w.heap.size:=fP hv;refine⟨.slice (some ⟨w.heap.size,0,none⟩) (n+1) c2,W1,.inl (Y2 rfl rfl rfl fR),?_⟩;simp only[cC,gK,dU,dV];clear fR dH zfK hold nK;refine nP ?_;refine CR.mv H (.slice (some ⟨w.heap.size,0,none⟩) (n+1) c2) ?_;refine CR.nil H ?_;refine CW.sq H ?_;refine CW.rg H [0,1,2,3,4] ?_;refine CR.mv H (.slice (some ⟨w.heap.size,0,none⟩) (n+1) c2) ?_;refine CR.mv H (.int .i64 (i:Int)) ?_;refine CR.mv H (.slice (some ⟨w.heap.size,i*2,none⟩) (n+1-i) (c2-i)) ?_ (hx:=λT=>by exact Rh rfl x4 jY cG rfl rfl rfl aC aC rfl rfl rfl);refine CR.mv H (.slice (some ⟨gv,0,none⟩) 1 1) ?_;refine CR.op H zIb rfl aQ (λT2=>?_);have mR:∀ty,(C7 #[69,69] ty #[.slice (some ⟨w.heap.size,i*2,none⟩) (n+1-i) (c2-i),.slice (some ⟨gv,0,none⟩) 1 1]).run aK (Tt.tp W1 T2 0)=.ok (goInt (zat 1 (n+1-i))) ((Tt.tp W1 T2 0).setRow w.heap.size (xP.toList.take (i*2)++x.cells++xP.toList.drop (i*2+(x.cells).length)).toArray):=λty=>
      zhf (P:=aK) x4 jY yG zwB (λj u hj=>by rw[Lo,qY];exact(aJ (w:=W1) ((zuT gv zod).trans hv) j).trans (by rw[<-Aw];exact hj)) (by rw[<-Ds,Zj];show i*2+2<=_;omega) Uu
     obtain⟨uA,U3⟩:=aU ((xP.toList.take (i*2)++x.cells++xP.toList.drop (i*2+(x.cells).length)).toArray:Array aF);rw[<-U3] at mR;obtain⟨W2,qV⟩:=aU ((Tt.tp W1 T2 0).setRow w.heap.size uA);rw[<-qV] at mR;have Lp:W2.heap[w.heap.size]? =some (.cells uA 149 (0,0)):=by rw[qV];exact L0 (Tt.tp W1 T2 0) w.heap.size xP uA 149 (0,0) yG
     have zgP:∀b,b<w.heap.size->W2.heap[b]? =w.heap[b]? :=λb hb=>by rw[qV];exact(zgx _ _ _ _ aC).trans (zuT b hb)
     have jZ:W2.heap.size=w.heap.size+1:=by rw[qV];simp[zfc];exact eB
     have vS:uA.toList.length=c2*2:=by rw[U3];show(_++_++_:List aF).length=_;simp only[gN,rQ,x3,Zj];show min (i*2) (c2*2)+2+(c2*2-(i*2+2))=_;omega
     refine⟨_,W2,.inl (zec rfl rfl rfl (mR _)),?_⟩;simp only[cC,gK,dU,dV];clear mR qV;refine CR.nil H ?_;refine CW.sq H ?_;refine CW.pQ H za1 (λT3 Q HQ=>?_);have mR:∀ty,(C7 #[69,69] ty #[.slice (some ⟨w.heap.size,(i+1)*2,none⟩) (n+1-(i+1)) (c2-(i+1)),.slice (some ⟨g,i*2,none⟩) (n-i) (c-i)]).run aK (Tt.tp W2 T3 0).drew=.ok (goInt (zat (n-i) (n+1-(i+1)))) ((Tt.tp W2 T3 0).drew.setRow w.heap.size (uA.toList.take ((i+1)*2)++((bF xs).drop (i*2))++uA.toList.drop ((i+1)*2+(((bF xs).drop (i*2))).length)).toArray):=λty=>
      zhf (P:=aK) x4 jY Lp (by rw[cG,lb,show n+1-(i+1)=n-i by omega];congr 1;exact(Nat.min_self _).symm) (λj u hj=>by rw[Lo];rw[Zv] at hj;exact(aJ (w:=W2) ((zgP g zqz).trans hg) (i*2+j)).trans (Ru _ _ hj)) (by rw[<-Ds,vS,lb];omega) (λu hu=>one u (zb2 hu))
     obtain⟨Jg,zcm⟩:=aU ((uA.toList.take ((i+1)*2)++((bF xs).drop (i*2))++uA.toList.drop ((i+1)*2+((bF xs).drop (i*2)).length)).toArray:Array aF);rw[<-zcm] at mR;obtain⟨W3,pY⟩:=aU ((Tt.tp W2 T3 0).drew.setRow w.heap.size Jg);rw[<-pY] at mR;have zgH:W3.heap[w.heap.size]? =some (.cells Jg 149 (0,0)):=by rw[pY];exact L0 (Tt.tp W2 T3 0).drew w.heap.size uA Jg 149 (0,0) Lp
     have zeR:∀b,b<w.heap.size->W3.heap[b]? =w.heap[b]? :=λb hb=>by rw[pY];exact(zgx _ _ _ _ aC).trans (zgP b hb)
     have zmF:W3.heap.size=w.heap.size+1:=by rw[pY];simp[zfc];exact jZ
     obtain⟨Rj,Rq⟩:=ins_up (c0:=xP.toList) (a:=(bF xs).take (i*2)) (b:=(bF xs).drop (i*2)) (xx:=x.cells) (c1:=uA.toList) (c2:=Jg.toList) (by rw[la];exact zh6) (by rw[la,lb,Zj];show i*2+2+_<=_;omega) (by rw[U3,la]) (by rw[zcm,la,show i*2+x.cells.length=(i+1)*2 by show i*2+2=_;omega]);rw[Zj] at Rq;rw[la,lb,show i*2+x.cells.length+(n-i)*2=(n+1)*2 by show i*2+2+_=_;omega,<-zlp] at Rj;have oM:W3.ownsRow lo 149 2 (.slice (some ⟨w.heap.size,0,none⟩) (n+1) c2) (n+1) (bF (xs.take i++x::xs.drop i)):=⟨by rw[<-Rj,rQ,Rq];omega,.inr ⟨w.heap.size,c2,Jg,rfl,dW,zgH,Aq,hle,by rw[<-Ds];exact Rq,Rj⟩⟩;refine wp_IN11 (Tt.tp W2 T3 0) W3 w.heap.size (n+1) c2 g n c i _ rfl rfl rfl rfl rfl ⟨aC,aC,aC,aC,aC⟩ (mR _) rfl ?_;rw[Go.Mt.Al,zom];simp only[Go.Mt.wL,dU,dV,zlU,lIN11,Dn,C9];show Q .normal _ W3;refine HQ.o _ _ ?_;clear HQ mR pY;refine CW.sq H ?_;refine CW.pQ H za1 (λT4 Q HQ=>?_);go_wp2;refine HQ.o _ _ ?_;clear HQ;refine CW.rt H ?_;exact⟨.inr rfl,rfl,.slice (some ⟨w.heap.size,0,none⟩) (n+1) c2,rfl,rfl,w.heap.size,c2,rfl,cJ oM λb e=>rfl,⟨by show _<=W3.heap.size;omega,λb hb _=>zeR b hb⟩,.inr (aX _)⟩
   .
     have zFz:¬(c:Int)<((n+1:Nat):Int):=aC;refine nP ?_;refine CR.mv H (.bool false) ?_ (hx:=λT=>by unfold aS;go_simp;omega);refine CR.nil H ?_;refine CW.cd H false ?_;refine CW.sk H ?_;dsimp only;refine CW.sq H ?_;refine CW.rg H [0,1,2,3,4,5] ?_;refine CR.mv H (.slice (some ⟨g,0,none⟩) n c) ?_;refine CR.mv H (.int .i64 (n:Int)) ?_;refine CR.mv H (.int .i64 1) ?_;refine CR.mv H (.int .i64 ((n+1:Nat):Int)) ?_ (hx:=λT=>by unfold aS;go_simp;first|(push_cast;exact D9 aC aC)|trace_state);refine CR.mv H (.slice (some ⟨g,0,none⟩) (n+1) c) ?_ (hx:=λT=>by exact zsD rfl x4 jY cG rfl rfl rfl aC);refine CR.mv H (.slice (some ⟨g,0,none⟩) (n+1) c) ?_;refine CR.nil H ?_;refine CW.sq H ?_;refine CW.sq H ?_;refine CW.rg H [0,1,2,3,4,5,6,7] ?_;refine CR.mv H (.slice (some ⟨gv,0,none⟩) 1 1) ?_;refine CR.mv H (.slice (some ⟨g,0,none⟩) (n+1) c) ?_;refine CR.mv H (.int .i64 (i:Int)) ?_;refine CR.mv H (.int .i64 1) ?_;refine CR.mv H (.int .i64 ((i+1:Nat):Int)) ?_ (hx:=λT=>by unfold aS;go_simp;first|(push_cast;exact D9 aC aC)|trace_state);refine CR.mv H (.slice (some ⟨g,(i+1)*2,none⟩) (n+1-(i+1)) (c-(i+1))) ?_ (hx:=λT=>by exact Rh rfl x4 jY cG rfl rfl rfl aC aC rfl rfl rfl);refine CR.overlaps H (A:=⟨gv,0,none⟩) (B:=⟨g,(i+1)*2,none⟩) ov_fn zHV rfl rfl rfl rfl rfl rfl Ai hv hg (by rw[fV];omega) ?_;simp only[cC,gK,dU,dV];refine nP ?_;refine CR.mg H (.bool true) ?_;refine CR.nil H ?_;refine CW.cd H true ?_;refine CW.sq H ?_;refine CW.pQ H za1 (λT3 Q HQ=>?_);have zqz:g<w.heap.size:=fP hg;have zod:gv<w.heap.size:=fP hv;have mR:∀ty,(C7 #[69,69] ty #[.slice (some ⟨g,(i+1)*2,none⟩) (n+1-(i+1)) (c-(i+1)),.slice (some ⟨g,i*2,none⟩) (n+1-i) (c-i)]).run aK (Tt.tp w T3 0).drew=.ok (goInt (zat (n+1-i) (n+1-(i+1)))) ((Tt.tp w T3 0).drew.setRow g (cur.toList.take ((i+1)*2)++((bF xs).drop (i*2))++cur.toList.drop ((i+1)*2+(((bF xs).drop (i*2))).length)).toArray):=λty=>
      zhf (P:=aK) x4 jY hg (by rw[cG,lb,show n+1-(i+1)=n-i by omega];congr 1;exact(Nat.min_eq_right aC).symm) (λj u hj=>by rw[Lo];rw[Zv] at hj;exact(aJ (w:=w) hg (i*2+j)).trans (Ru _ _ hj)) (by rw[<-Ds,mK,lb];omega) (λu hu=>one u (zb2 hu))
     obtain⟨uA,U3⟩:=aU ((cur.toList.take ((i+1)*2)++((bF xs).drop (i*2))++cur.toList.drop ((i+1)*2+((bF xs).drop (i*2)).length)).toArray:Array aF);rw[<-U3] at mR;obtain⟨W3,pY⟩:=aU ((Tt.tp w T3 0).drew.setRow g uA);rw[<-pY] at mR;have zgH:W3.heap[g]? =some (.cells uA 149 (0,0)):=by rw[pY];exact L0 (Tt.tp w T3 0).drew g cur uA 149 (0,0) hg
     have zeR:∀b,b≠g->W3.heap[b]? =w.heap[b]? :=λb hb=>by rw[pY];exact zgx _ _ _ _ hb
     have zmF:W3.heap.size=w.heap.size:=by rw[pY];simp[zfc];rfl
     have vS:uA.toList.length=c*2:=by rw[U3];show(_++_++_:List aF).length=_;simp only[gN,rQ,x3,mK,hlen];omega
     refine wp_IN15 (Tt.tp w T3 0) W3 g (n+1) c i _ rfl rfl rfl rfl ⟨aC,aC,aC,aC,aC⟩ (mR _) rfl ?_;rw[Go.Mt.Al,zr1];simp only[Go.Mt.wL,dU,dV,zko,lIN15,Dn,C9];show Q .normal _ W3;refine HQ.o _ _ ?_;clear HQ mR pY;refine CW.sq H ?_;refine CW.rg H [0,1,2,3,4] ?_;refine CR.mv H (.slice (some ⟨g,0,none⟩) (n+1) c) ?_;refine CR.mv H (.int .i64 (i:Int)) ?_;refine CR.mv H (.slice (some ⟨g,i*2,none⟩) (n+1-i) (c-i)) ?_ (hx:=λT=>by exact Rh rfl x4 jY cG rfl rfl rfl aC aC rfl rfl rfl);refine CR.mv H (.slice (some ⟨gv,0,none⟩) 1 1) ?_;refine CR.op H zJt rfl aQ (λT2=>?_);have mR:∀ty,(C7 #[69,69] ty #[.slice (some ⟨g,i*2,none⟩) (n+1-i) (c-i),.slice (some ⟨gv,0,none⟩) 1 1]).run aK (Tt.tp W3 T2 0)=.ok (goInt (zat 1 (n+1-i))) ((Tt.tp W3 T2 0).setRow g (uA.toList.take (i*2)++x.cells++uA.toList.drop (i*2+(x.cells).length)).toArray):=λty=>
      zhf (P:=aK) x4 jY zgH zwB (λj u hj=>by rw[Lo,qY];exact(aJ (w:=W3) ((zeR gv Ai).trans hv) j).trans (by rw[<-Aw];exact hj)) (by rw[<-Ds,vS];show i*2+2<=_;omega) Uu
     obtain⟨Jg,zcm⟩:=aU ((uA.toList.take (i*2)++x.cells++uA.toList.drop (i*2+(x.cells).length)).toArray:Array aF);rw[<-zcm] at mR;obtain⟨W2,qV⟩:=aU ((Tt.tp W3 T2 0).setRow g Jg);rw[<-qV] at mR;have J4:W2.heap[g]? =some (.cells Jg 149 (0,0)):=by rw[qV];exact L0 (Tt.tp W3 T2 0) g uA Jg 149 (0,0) zgH
     have zgP:∀b,b≠g->W2.heap[b]? =w.heap[b]? :=λb hb=>by rw[qV];exact(zgx _ _ _ _ hb).trans (zeR b hb)
     have jZ:W2.heap.size=w.heap.size:=by rw[qV];simp[zfc];exact zmF
     obtain⟨Rj,Rq⟩:=zDu (c0:=cur.toList) (a:=(bF xs).take (i*2)) (b:=(bF xs).drop (i*2)) (xx:=x.cells) (c1:=uA.toList) (c2:=Jg.toList) (by rw[la];exact zzZ) (by rw[la,lb,mK];show i*2+2+_<=_;omega) (by rw[U3,la,show i*2+x.cells.length=(i+1)*2 by show i*2+2=_;omega]) (by rw[zcm,la]);rw[mK] at Rq;rw[la,lb,show i*2+x.cells.length+(n-i)*2=(n+1)*2 by show i*2+2+_=_;omega,<-zlp] at Rj;have oM:W2.ownsRow lo 149 2 (.slice (some ⟨g,0,none⟩) (n+1) c) (n+1) (bF (xs.take i++x::xs.drop i)):=⟨by rw[<-Rj,rQ,Rq];omega,.inr ⟨g,c,Jg,rfl,zyA,J4,aC,r9,by rw[<-Ds];exact Rq,Rj⟩⟩;refine⟨_,W2,.inl (zec rfl rfl rfl (mR _)),?_⟩;simp only[cC,gK,dU,dV];clear mR qV;refine CR.nil H ?_;refine CW.sq H ?_;refine CW.pQ H za1 (λT4 Q HQ=>?_);go_wp2;refine HQ.o _ _ ?_;clear HQ;refine CW.rt H ?_;exact⟨.inr rfl,rfl,.slice (some ⟨g,0,none⟩) (n+1) c,rfl,rfl,g,c,rfl,cJ oM λb e=>rfl,⟨by show _<=W2.heap.size;omega,λb hb hn=>zgP b λe=>hn (by rw[e];rfl)⟩,.inl rfl⟩
section
variable {P:bS}{w:aE}
theorem zsO {ops:Array aZ}{rest:List aZ}{o:aZ}{a:tK}{Q:n5->tK->aE->Prop}(E8:o.guard=none)(x y:cM)(t t2:aM)(ho:o.op=.binOp .neq t x y t2){d:Nu}{e:aM}(hu:P.underlying t=some (.chan d e))(p q:Option Nat)(hx:a.eval x=.chan p)(hy:a.eval y=.chan q){r:Bool}(hr:(!(p==q))=r)
 (h:wpList P ops Q rest (a.put o.dst (.bool r)) w):wpList P ops Q (o::rest) a w:=by
 subst hr;refine wpList_plain E8 λK hK=>?_;unfold aZ.wp;simp[aS,eqGuard,binOp,ho,hx,hy,zkZ hu];exact hK _ _ h
end
def yX (xs:List bJ)(p:Int):Nat:=(xs.takeWhile λx=>decide (p<=x.p)).length
def zez (xs:List bJ)(p:Int):yX xs p<=xs.length:=(zuL _).length_le
theorem zGt (xs:List bJ)(c:bJ):uB xs c=xs.take (yX xs c.p)++c::xs.drop (yX xs c.p):=by
 unfold uB yX;congr 1
 .exact(List.prefix_iff_eq_take.1 (zuL _))
 .congr 1
  have h:=List.takeWhile_append_dropWhile (p:=λx:bJ=>decide (c.p<=x.p)) (l:=xs);generalize xs.takeWhile (λx=>decide (c.p<=x.p))=a at*;generalize xs.dropWhile (λx=>decide (c.p<=x.p))=b at*;subst h;simp
variable {p:Int}
theorem zI8 :∀{j:Nat} {x:bJ},j<yX xs p->xs[j]? =some x->p<=x.p:=by
 unfold yX
 induction xs with
 |nil=>intro j x hj;simp at hj
 |cons y ys ih=>
  intro j x hj hx;rw[zah] at hj;split at hj
  .rename_i hy
   cases j with
   |zero=>simp at hx;subst hx;simpa using hy
   |succ j=>exact ih zcC (by simpa using hx)
  .simp at hj
theorem zJC :∀{j:Nat} {x:bJ},yX xs p=j->xs[j]? =some x->x.p<p:=by
 unfold yX
 induction xs with
 |nil=>intro j x hj hx;simp at hx
 |cons y ys ih=>
  intro j x hj hx;rw[zah] at hj;split at hj
  .rename_i hy
   cases j with
   |zero=>simp at hj
   |succ j=>exact ih zcC (by simpa using hx)
  .rename_i hy
   simp at hj;subst hj;simp at hx;subst hx;simpa using hy
def zjX:Go.Code:=(zxN.body).getD .skip
def rRI9:Go.Code:=match zjX with| .seq _ (.seq _ (.seq _ (.seq _ (.seq _ (.seq _ (.seq (.block _ (.loop (.seq (.seq (a) _) _))) _))))))=>a|_=>.skip
def rRI11:Go.Code:=match zjX with| .seq _ (.seq _ (.seq _ (.seq _ (.seq _ (.seq _ (.seq _ (.seq (a) _)))))))=>a|_=>.skip
def zpX:Array Oper:=match rRI11 with| .region _ ops _=>ops|_=>#[]
abbrev oRI11_9:Oper:=⟨some 72,.buildSlice 69 1 #[(0,.tmp 71)],69,"l6_office.go:161",#[⟨8,.data⟩],none⟩
def zHB:zpX[9]? =some oRI11_9:=rfl
abbrev zCH:Oper:=⟨none,.store 69 (.tmp 75) (.tmp 73),0,"l6_office.go:161",#[⟨12,.data⟩,⟨10,.data⟩,⟨10,.chain⟩,⟨0,.phase⟩,⟨1,.phase⟩,⟨2,.phase⟩,⟨3,.phase⟩,⟨4,.phase⟩,⟨5,.phase⟩,⟨6,.phase⟩,⟨7,.phase⟩,⟨8,.phase⟩,⟨9,.phase⟩,⟨10,.phase⟩],none⟩
def zHZ:zpX[13]? =some zCH:=rfl
def Cg:wC aK 101:=⟨_,zn0,.inr (.inl ⟨_,rfl⟩)⟩
section
variable {Q:n5->tK->aE->Prop}{u3 u4 u5 u6 u7 u9 gU gJ gI gH gG gM u16 iK kL kS jR iO iD iE gZ iH iC iJ iF iB jM jO u32 iG hY iN iM kT kQ iI gY iL iQ iX jD iZ iV iU iR iY iW jB mL mD lC lB kV kJ kO kM kR kE kG j5 u64 kC j9 j6 kF kZ kU kK j7 zag zbM zb4 zce zaz za6 zbo:aF}{w:aE}
theorem wp_RI9 {lo hb n cW m:Nat}{AW:Option bL}{xs:List bJ}{c:bJ}(h7:w.cell? ⟨hb,7,none⟩=some (.slice AW n cW))(hs:b7 w lo w.heap.size 2 AW n cW (bF xs))(hn:xs.length=n)(Pa:n<=1000)(hm:m<=yX xs c.p)(hp:0<=c.p/\c.p<=9)(h:∀zwz zxQ zwY zpK z46 zqd zpz z49 zwN z51 zw9 z53 zuj zyh zrc zwr zrX z59,Q .normal ⟨#[.pointer (some ⟨hb,0,none⟩),.int .i64 c.c,.int .i64 c.p,u3,u4,u5,u6,u7,.int .i64 (m:Int),u9,gU,gJ,gI,gH,gG,gM,u16,iK,kL,kS,jR,iO,iD,iE,gZ,iH,iC,iJ,iF,iB,jM,jO,u32,iG,hY,iN,iM,kT,kQ,iI,gY,iL,zwz,zxQ,zwY,zpK,z46,zqd,zpz,z49,zwN,z51,zw9,z53,zuj,zyh,zrc,zwr,zrX,z59,.bool (decide (m<yX xs c.p)),kE,kG,j5,u64,kC,j9,j6,kF,kZ,kU,kK,j7,zag,zbM,zb4,zce,zaz,za6,zbo],[]⟩ w):
 Code.wp aK rRI9 Q ⟨#[.pointer (some ⟨hb,0,none⟩),.int .i64 c.c,.int .i64 c.p,u3,u4,u5,u6,u7,.int .i64 (m:Int),u9,gU,gJ,gI,gH,gG,gM,u16,iK,kL,kS,jR,iO,iD,iE,gZ,iH,iC,iJ,iF,iB,jM,jO,u32,iG,hY,iN,iM,kT,kQ,iI,gY,iL,iQ,iX,jD,iZ,iV,iU,iR,iY,iW,jB,mL,mD,lC,lB,kV,kJ,kO,kM,kR,kE,kG,j5,u64,kC,j9,j6,kF,kZ,kU,kK,j7,zag,zbM,zb4,zce,zaz,za6,zbo],[]⟩ w:=by
 have hle:=zez xs c.p;have zo0:=aD (show∀(j:Nat) (x:bJ),j<yX xs c.p->xs[j]? =some x->c.p<=x.p from λj x hj hx=>zI8 hj hx);obtain⟨pl,lY⟩:=aU (yX xs c.p);rw[<-lY] at hm h hle zo0;have zcU:=aD lY;have Re:=aD hn;have HQ:=aD h;simp only[rRI9,zjX,zxN,y4];by_cases aN:m<n
 .obtain⟨bW,oW,x,hA,mQ,eM,e0,e1⟩:=zev hs aN
  subst hA;have i0:(0:Int)<=(m:Int):=aC;have i1:(m:Int)<(n:Int):=aC;have HX:=aD eM;have HS:=aD hs;by_cases zD0:c.p<=x.p
  .have Pb:m<pl:=by
    rcases nC m pl with hh|hh
    .exact hh
    .have:m=pl:=aC
     subst this;exact absurd (zJC zcU.o.symm HX.o) aC
   go_wp2;have:=HQ.o;simp only[Pb,decide_true] at this;exact this _ _ _ _ _ _ _ _ _ _ _ _ _ _ _ _ _ _
  .have Pb:¬m<pl:=λhh=>zD0 (zo0.o m x hh HX.o)
   go_wp2;have:=HQ.o;simp only[Pb,decide_false] at this;exact this _ _ _ _ _ _ _ _ _ _ _ _ _ _ _ _ _ _
 .have zEN:m=n:=by have:=Re.o;omega
  subst zEN;have Pb:¬m<pl:=by have:=Re.o;omega
  have HS:=aD hs;go_wp2;have:=HQ.o;simp only[Pb,decide_false] at this;exact this _ _ _ _ _ _ _ _ _ _ _ _ _ _ _ _ _ _
end
variable {d:nM}
theorem cf_ring (H:e.d.Ok){c:bJ}(h:bE w lo hb v d)(mr:gC v d)(hi:yM d)(dW:lo<=w.heap.size)(hp:0<=c.p/\c.p<=9):
 CF e.d 101 #[.pointer (some ⟨hb,0,none⟩),.int .i64 c.c,.int .i64 c.p] K (.wk e.qs k) w (λK' l' y w'=>zb6 e.qs lo hb v d w k 0 (qB d.r c) l' y w'):=by
 refine CF.of 80 zn0 (.inr (.inl ⟨_,rfl⟩)) ?_;have A0:=aD h;have T0:=aD (bM.refl (hb:=hb) (v:=v) (w:=w));have HI:=aD hi;have MR:=aD mr;have Kw:=aD dW;have nL:=hi.sm.nb;have K6:=hi.sm.nw;have Bv:=hi.sm.nr;obtain⟨vW,zl1⟩:=hp;clear h mr hi dW;refine CW.sq H (CW.p0 H Cg A0 T0 λw1 fA A1 T1=>?_);obtain⟨AB,cB,Lz,zbx⟩:=Gh A1.o.B aH;have z8:=aD Lz;clear Lz zbx;obtain⟨kn,sX⟩:=aU (((jL d.r.recs c.c).isSome||(vC d.r.back c.c).isSome));have fI:=aD sX;clear sX;refine CW.sq H ?_;refine CW.sq H ?_
 cases fB:jL d.r.recs c.c with
 |some i=>
  obtain⟨x,hx,Im,sC⟩:=B4 fB;obtain⟨gL,N9,hO,hM,hC⟩:=MR.o.onLine HI.o hx sC Im;have Qz:=aD hO;have cK:=aD (show qB d.r c=(d.r,[107,110,111,119,110]) by unfold qB;rw[fB];rfl);clear hx Im sC N9 hO hM hC fB;refine CW.pW H Cg A1 T1 λw2 Q fZ A2 T2 HQ=>?_;have k5:w2.cell? ⟨hb,5,none⟩=some (.map (some v.mO)):=aJ A2.o.blk 5;have k8:w2.cell? ⟨hb,8,none⟩=some (.slice AB d.r.back.length cB):=by
   have:=aJ A2.o.blk 8;rw[this,<-z8.o];rfl
  have Ej:=aD (show b7 w2 lo w2.heap.size 1 AB d.r.back.length cB (eJ (d.r.back.map bJ.c)) by have:=A2.o.B;rw[z8.o] at this;exact zZ this aH);have Wq:=aD A2.o.O
  go_wp2_with (at_lookup;refine zvu _ rfl (.tmp 12) (.tmp 13) 67 false rfl 84 U2 Ko (.chan none) (zcY _) v.mO c.c v.pO rfl rfl Wq.o ?_;rw[Qz.o];simp only[y4,zrV,jE,if_false];refine zsO rfl (.tmp 14) (.const (.chan none)) 84 84 rfl U5 (some gL) none rfl rfl (r:=true) rfl ?_)
  refine HQ.o _ _ ?_;clear HQ;clear k5 k8;refine CW.cd H true ?_;refine CW.sq H (CW.p0 H Cg A2 T2 λw3 iT A3 T3=>?_);refine CW.rt H ?_;refine⟨.inr rfl,rfl,.string ⟨#[107,110,111,119,110]⟩,rfl,⟨rfl,by rw[cK.o],v,?_,?_,?_,zS.rf v⟩⟩
  .rw[cK.o];exact A3.o
  .rw[cK.o];exact MR.o
  .exact T3.o
 |none=>
  have Qz:=aD (MR.o.offLine fB);have uZ:=aD fB;clear fB;refine CW.pW H Cg A1 T1 λw2 Q fZ A2 T2 HQ=>?_;have k5:w2.cell? ⟨hb,5,none⟩=some (.map (some v.mO)):=aJ A2.o.blk 5;have k8:w2.cell? ⟨hb,8,none⟩=some (.slice AB d.r.back.length cB):=by
   have:=aJ A2.o.blk 8;rw[this,<-z8.o];rfl
  have Ej:=aD (show b7 w2 lo w2.heap.size 1 AB d.r.back.length cB (eJ (d.r.back.map bJ.c)) by have:=A2.o.B;rw[z8.o] at this;exact zZ this aH);have Wq:=aD A2.o.O
  go_wp2_with (first
   |(at_lookup;refine zvu _ rfl (.tmp 12) (.tmp 13) 67 false rfl 84 U2 Ko (.chan none) (zcY _) v.mO c.c v.pO rfl rfl Wq.o ?_;rw[Qz.o];simp only[y4,zrV,jE,if_false];refine zsO rfl (.tmp 14) (.const (.chan none)) 84 84 rfl U5 (none) none rfl rfl (r:=false) rfl ?_)
   |(go_at_call 108;refine(zFn lo w2.heap.size d.r.back.length cB AB (d.r.back.map bJ.c) c.c w2 Ej.o aC).mono ?_;rintro en wz ⟨rfl,uX⟩;obtain rfl:=uX;rw[zwh]))
  refine HQ.o _ _ ?_;clear HQ;clear k8;have zML:=A2
  cases Gw:vC d.r.back c.c with
  |some p=>
   have cK:=aD (show qB d.r c=(d.r,[107,110,111,119,110]) by unfold qB;rw[Gw,uZ.o];rfl);clear Gw;refine CW.cd H true ?_;refine CW.sq H (CW.p0 H Cg A2 T2 λw3 iT A3 T3=>?_);refine CW.rt H ?_;refine⟨.inr rfl,rfl,.string ⟨#[107,110,111,119,110]⟩,rfl,⟨rfl,by rw[cK.o],v,?_,?_,?_,zS.rf v⟩⟩
   .rw[cK.o];exact A3.o
   .rw[cK.o];exact MR.o
   .exact T3.o
  |none=>
   have zoO:=aD Gw;clear Gw;refine CW.cd H false ?_;refine CW.sk H ?_;dsimp only;have zap:=HI.o.nln;have zby:d.ln.length<=100:=by have:=(Ad HI.o.R.off).2.1;omega
   have zbs:=aD (λW (a:bE W lo hb v d)=>zp2 a MR.o zap zby);clear zap zby fI;refine CW.sq H (CW.pW H Cg A2 T2 λw3 Q iT A3 T3 HQ=>?_)
   go_wp2_with (go_at_call 109;refine(zbs.o _ A3.o).mono ?_;rintro en wy ⟨rfl,zIt⟩;obtain rfl:=zIt)
   refine HQ.o _ _ ?_;clear HQ;clear zbs;refine CW.sq H ?_
   cases fQ:oJ d.r.o d.r.recs with
   |nil=>
    rw[zqb fQ];have cK:=aD (show qB d.r c=({d.r with back:=d.r.back++[c]},[98,117,115,121]) by unfold qB;rw[zoO.o,uZ.o];simp only[fQ];rfl);clear fQ;refine CW.sq H (CW.p0 H Cg A3 T3 λw4 lM A4 T4=>?_);refine CW.cd H true ?_;refine CW.sq H (CW.pW H Cg A4 T4 λw5 Q n8 A5 T5 HQ=>?_);have k8:w5.cell? ⟨hb,8,none⟩=some v.sB:=aJ A5.o.blk 8;obtain⟨OC,zdc⟩:=aU (.cells #[.int .i64 c.c] 3:Obj);have a5:=A5.o.alloc OC;obtain⟨q1,q2,w6,fR,cP,nF,fB⟩:=Np (t:=38) (ty:=38) Xq Y4 rfl aH a5.B (g:=w5.heap.size) (cs:=#[.int .i64 c.c]) (news:=[.int .i64 c.c]) (by rw[zdc];exact lF _ _) rfl (m:=1) rfl aH Lm aC aH (by have:=T5.o.size;have:=Kw.o;simp;omega);obtain⟨a6,t6⟩:=a5.putB nF (xs:=d.r.back++[c]) (by have e:eJ ((d.r.back++[c]).map bJ.c)=eJ (d.r.back.map bJ.c)++[.int .i64 c.c]:=(by simp[eJ]);rw[e];exact cP) aO fB;have A6:=aD a6;have T6:=aD (T5.o.trans ((bM.below (dN (eF _ w5) OC)).trans (⟨t6.size,t6.block,t6.moved⟩:bM hb v (w5.alloc OC) _ _)));have K4:w6.heap[hb]? =some (Qc v _):=(a5.other (j:=6) (c:=8) (x:=v.sB) rfl aH nF (.slice (some ⟨q1,0,none⟩) (d.r.back.length+1) q2)).2.trans a5.blk;have ztV:=aJ K4 8;have kf:=eL K4 8;have AP:=aD fR;obtain⟨A8,c8,zfg,_⟩:=Gh A5.o.B aH;have Pu:w5.cell? ⟨hb,8,none⟩=some (.slice A8 d.r.back.length c8):=by rw[k8,zfg]
    have zFC:w6.cell? ⟨hb,8,none⟩=some (.slice A8 d.r.back.length c8):=by rw[ztV,<-zfg];rfl
    rw[zfg,zdc] at AP;clear cP nF fB a6 t6 a5 K4 fR k8 ztV zfg
    go_wp2_with (at_builtin;refine zrP rfl (.tmp 32) (.tmp 34) 38 38 rfl (.slice A8 d.r.back.length c8) (.slice (some ⟨w5.heap.size,0,none⟩) 1 1) (.slice (some ⟨q1,0,none⟩) (d.r.back.length+1) q2) rfl rfl AP.o ?_)
    refine HQ.o _ _ ?_;clear HQ;clear Pu zFC kf AP;clear A5 T5;obtain⟨zLo,zyn⟩:∃y,y=w6.setCell ⟨hb,8,none⟩ (.slice (some ⟨q1,0,none⟩) (d.r.back.length+1) q2):=⟨_,rfl⟩;rw[<-zyn] at A6 T6⊢;clear zyn;refine CW.sq H (CW.p0 H Cg A6 T6 λw7 rF A7 T7=>?_);refine CW.rt H ?_;refine⟨.inr rfl,rfl,.string ⟨#[98,117,115,121]⟩,rfl,⟨rfl,by rw[cK.o],{v with sB:=.slice (some ⟨q1,0,none⟩) (d.r.back.length+1) q2},?_,?_,?_,⟨rfl,rfl,rfl,rfl⟩⟩⟩
    .rw[cK.o];exact A7.o
    .rw[cK.o];refine gC.of MR.o ?_ ?_ ?_ ?_ ?_<;>rfl
    .exact T7.o
   |cons lf ls=>
    obtain⟨i,gL,vI⟩:=HI.o.free fQ;have uH:Hy d=(i:Int):=by rw[ztL fQ,vI.l];omega
    rw[uH];have cK:=aD (show qB d.r c=({d.r with recs:=d.r.recs++[⟨c.c,(i:Int)+1,0,d.r.clk,-1,-1,eU⟩],wait:=uB d.r.wait c},[108,105,110,101,32]++jK ((i:Int)+1)) by unfold qB;rw[zoO.o,uZ.o];simp only[fQ,vI.l];rfl);have FA:=aD vI;have zyX:=vI.i6;have zvM:i<=50:=by have:=(zhc HI.o.R.off (l:=lf) (by rw[fQ];simp));have:=vI.l;omega
    clear fQ vI uH;refine CW.sq H (CW.pW H Cg A3 T3 λw4 Q lM A4 T4 HQ=>?_);have i0:(0:Int)<=(i:Int):=aC;go_wp2;refine HQ.o _ _ ?_;clear HQ;refine CW.cd H false ?_;refine CW.sk H ?_;dsimp only;refine CW.sq H (CW.pW H Cg A4 T4 λw5 Q n8 A5 T5 HQ=>?_);have zDe:lo<=w5.heap.size:=eG Kw.o T5.o.size
    go_wp2_with (go_at_call 110;refine(zoA A5.o zDe FA.o.g aC Bv c.c).mono ?_;rintro en w6 ⟨rfl,v6,a6,t6,p6⟩;have A6:=aD a6;have T6:=aD (T5.o.trans t6);have P6:=aD p6;clear a6 t6 p6)
    refine HQ.o _ _ ?_;clear HQ;clear A5 T5;have zHR:=aD (gC.of (v':=v6) (d':={d with r:={d.r with recs:=d.r.recs++[⟨c.c,(i:Int)+1,0,d.r.clk,-1,-1,eU⟩]}}) (MR.o.more HI.o.ndl FA.o.g FA.o.un uZ.o (o:=0) (hh:=-1) (tt:=-1) (clk:=d.r.clk)) P6.o.1 P6.o.2.1 P6.o.2.2.1 rfl rfl);have zLB:lo<=w6.heap.size:=eG Kw.o T6.o.size;refine CW.sq H (CW.p0 H Cg A6 T6 λw7 rF A7 T7=>?_);obtain⟨AW,cW,Kk,zFM⟩:=Gh A7.o.W aH;have Am:=aD (show v6.sW=.slice AW d.r.wait.length cW from Kk);clear Kk zFM;refine CW.sq H ?_;refine CW.block H ?_;refine CW.loop H (λnn s=>∃(m:Nat) (wz:aE) (u3 u4 u5 u6 u9 gU gJ gI gH gG gM u16 iK kL kS jR iO iD iE gZ iH iC iJ iF iB jM jO u32 iG hY iN iM kT kQ iI gY iL iQ iX jD iZ iV iU iR iY iW jB mL mD lC lB kV kJ kO kM kR kE kG j5 u64 kC j9 j6 kF kZ kU kK j7 zag zbM zb4 zce zaz za6 zbo:aF),s=⟨[],K,.wk e.qs k,#[.pointer (some ⟨hb,0,none⟩),.int .i64 c.c,.int .i64 c.p,u3,u4,u5,u6,.int .i64 (i:Int),.int .i64 (m:Int),u9,gU,gJ,gI,gH,gG,gM,u16,iK,kL,kS,jR,iO,iD,iE,gZ,iH,iC,iJ,iF,iB,jM,jO,u32,iG,hY,iN,iM,kT,kQ,iI,gY,iL,iQ,iX,jD,iZ,iV,iU,iR,iY,iW,jB,mL,mD,lC,lB,kV,kJ,kO,kM,kR,kE,kG,j5,u64,kC,j9,j6,kF,kZ,kU,kK,j7,zag,zbM,zb4,zce,zaz,za6,zbo],wz⟩/\m<=yX d.r.wait c.p/\nn=yX d.r.wait c.p-m/\bE wz lo hb v6 {d with r:={d.r with recs:=d.r.recs++[⟨c.c,(i:Int)+1,0,d.r.clk,-1,-1,eU⟩]}}/\bM hb v w v6 wz) (λnn s hs=>?_) (n:=yX d.r.wait c.p) ?_
    rotate_left
    .exact⟨0,w7,_,_,_,_,_,_,_,_,_,_,_,_,_,_,_,_,_,_,_,_,_,_,_,_,_,_,_,_,_,_,_,_,_,_,_,_,_,_,_,_,_,_,_,_,_,_,_,_,_,_,_,_,_,_,_,_,_,_,_,_,_,_,_,_,_,_,_,_,_,_,_,_,_,_,_,rfl,jT _,rfl,A7.o,T7.o⟩
    .obtain⟨m,wz,u3,u4,u5,u6,u9,gU,gJ,gI,gH,gG,gM,u16,iK,kL,kS,jR,iO,iD,iE,gZ,iH,iC,iJ,iF,iB,jM,jO,u32,iG,hY,iN,iM,kT,kQ,iI,gY,iL,iQ,iX,jD,iZ,iV,iU,iR,iY,iW,jB,mL,mD,lC,lB,kV,kJ,kO,kM,kR,kE,kG,j5,u64,kC,j9,j6,kF,kZ,kU,kK,j7,zag,zbM,zb4,zce,zaz,za6,zbo,rfl,Pb,Cm,az,tz⟩:=hs
     have A8:=aD az;have T8:=aD tz;clear az tz A7 T7;refine CW.sq H ?_;refine CW.sq H ?_;refine CW.pQ H Cg (λzj2 Q HQ=>?_);obtain⟨w9,Is⟩:=aU (Tt.tp wz zj2 0);have A9:=aD (show bE w9 lo hb v6 {d with r:={d.r with recs:=d.r.recs++[⟨c.c,(i:Int)+1,0,d.r.clk,-1,-1,eU⟩]}} by rw[Is];exact A8.o.tp zj2 0);have T9:=aD (show bM hb v w v6 w9 by rw[Is];exact T8.o.tp zj2 0)
     try dsimp only
     rw[<-Is];clear Is A8 T8;have hW:=A9.o.W;rw[Am.o] at hW;have k7:w9.cell? ⟨hb,7,none⟩=some (.slice AW d.r.wait.length cW):=by
      have:=aJ A9.o.blk 7;rw[this,<-Am.o];rfl
     refine wp_RI9 k7 (zZ hW aH) rfl K6 Pb ⟨vW,zl1⟩ λzwz zxQ zwY zpK z46 zqd zpz z49 zwN z51 zw9 z53 zuj zyh zrc zwr zrX z59=>?_;refine HQ.o _ _ ?_;clear HQ hW k7;by_cases aN:m<yX d.r.wait c.p
     .simp only[aN,decide_true]
      refine CW.cd H true ?_;refine CW.sk H ?_;dsimp only;refine CW.block H ?_;refine CW.pQ H Cg (λXf Q HQ=>?_);obtain⟨vU,Du⟩:=aU (Tt.tp w9 Xf 0);have tG:=aD (show bE vU lo hb v6 {d with r:={d.r with recs:=d.r.recs++[⟨c.c,(i:Int)+1,0,d.r.clk,-1,-1,eU⟩]}} by rw[Du];exact A9.o.tp Xf 0);have wM:=aD (show bM hb v w v6 vU by rw[Du];exact T9.o.tp Xf 0)
      try dsimp only
      rw[<-Du];clear Du A9 T9;have zBW:m<=1000:=by have:=zez d.r.wait c.p;omega
      go_wp2;refine HQ.o _ _ ?_;refine⟨yX d.r.wait c.p-(m+1),aC,m+1,vU,_,_,_,_,_,_,_,_,_,_,_,_,_,_,_,_,_,_,_,_,_,_,_,_,_,_,_,_,_,_,_,_,_,_,_,_,_,_,_,_,_,_,_,_,_,_,_,_,_,_,_,_,_,_,_,_,_,_,_,_,_,_,_,_,_,_,_,_,_,_,_,_,_,_,_,rfl,aC,rfl,tG.o,wM.o⟩
     .simp only[aN,decide_false]
      refine CW.cd H false ?_;refine CW.exit H aO ?_;dsimp only;rw[if_pos rfl];have Ml:m=yX d.r.wait c.p:=aC;have zHx:=aD Ml;have zBW:m<=1000:=by have:=zez d.r.wait c.p;omega
      have zbG:m<=d.r.wait.length:=by have:=zez d.r.wait c.p;omega
      clear Ml aN Pb Cm;have zGp:=aD (show w9.ownsRow lo 149 2 (.slice AW d.r.wait.length cW) d.r.wait.length (bF d.r.wait) by have:=A9.o.W;rw[Am.o] at this;exact this);have k7:w9.cell? ⟨hb,7,none⟩=some (.slice AW d.r.wait.length cW):=by
       have:=aJ A9.o.blk 7;rw[this,<-Am.o];rfl
      refine CW.sq H ?_;refine CW.rg H [0,1,2,3,4,5,6,7,8,9,10,11,12,13] ?_;refine CR.mv H (.pointer (some ⟨hb,0,none⟩)) ?_;refine CR.mv H (.pointer (some ⟨hb,0,none⟩)) ?_;refine CR.mv H (.pointer (some ⟨hb,0,none⟩)) ?_;refine CR.mg H (.pointer (some ⟨hb,7,none⟩)) ?_;refine nP ?_;refine CR.mv H (.slice AW d.r.wait.length cW) ?_ (hx:=λT=>by have hh:(Tt.tp w9 T 0).cell? _=_:=k7;unfold aS;go_simp);refine CR.mv H (.int .i64 (m:Int)) ?_;refine CR.mv H (.int .i64 c.c) ?_;refine CR.mv H (.int .i64 c.p) ?_;refine CR.mv H (.agg #[.int .i64 c.c,.int .i64 c.p]) ?_ (hx:=λT=>by unfold aS;go_simp;try rfl);refine CR.op H zHB rfl aQ (λT=>⟨.slice (some ⟨w9.heap.size,0,none⟩) 1 1,(Tt.tp w9 T 0).alloc (.cells #[.int .i64 c.c,.int .i64 c.p] 149),.inl P3,?_⟩);simp only[cC,gK,dU,dV];obtain⟨wa,wQ⟩:=aU ((Tt.tp w9 T 0).alloc (.cells #[.int .i64 c.c,.int .i64 c.p] 149));have tG:=aD (show bE wa lo hb v6 {d with r:={d.r with recs:=d.r.recs++[⟨c.c,(i:Int)+1,0,d.r.clk,-1,-1,eU⟩]}} by rw[wQ];exact(A9.o.tp T 0).alloc _);have wM:=aD (show bM hb v w v6 wa by rw[wQ];exact(T9.o.tp T 0).trans (bM.below (dN (eF _ _) _)));have HV:=aD (show wa.heap[w9.heap.size]? =some (.cells #[.int .i64 c.c,.int .i64 c.p] 149) by rw[wQ];exact lF _ _);have zwL:=aD (show wa.ownsRow lo 149 2 (.slice AW d.r.wait.length cW) d.r.wait.length (bF d.r.wait) by have:=tG.o.W;rw[Am.o] at this;exact this);have aT:(Sd AW d.r.wait.length cW).ownBlock≠some w9.heap.size:=λe=>by have:=(zGp.o.lt _ e).2;omega
      have zGC:lo<=wa.heap.size:=eG Kw.o wM.o.size;rw[<-wQ];clear wQ A9 T9 k7;refine CR.cl H (zIe H (x:=c) zwL.o zGC K6 zbG HV.o aT) (λK' l' y wb hl o5=>?_);obtain⟨rfl,g2,c2,rfl,oM,zmy,fB⟩:=o5;simp only[cC,gK,dU,dV];have S8:({wb with heap:=wa.heap}:aE).grownBy wb v6.sW.ownBlock:=⟨rfl,rfl,rfl,zmy.size,λb b6 hn=>zmy.block b b6 (by rw[<-Am.o];exact hn)⟩;have a0:bE ({wb with heap:=wa.heap}:aE) lo hb v6 {d with r:={d.r with recs:=d.r.recs++[⟨c.c,(i:Int)+1,0,d.r.clk,-1,-1,eU⟩]}}:=tG.o.same rfl;have zia:d.r.wait.take m++c::d.r.wait.drop m=uB d.r.wait c:=by rw[zGt,zHx.o]
      rw[zia] at oM;obtain⟨a6,t6⟩:=a0.putW S8 oM (by rw[<-zia];simp;omega) (by rw[Am.o];exact fB.imp (λe=>e) (λe b b6=>by have rG:g2=b:=cE b6;show wa.heap.size<=b;rw[<-rG];exact e));have zaT:=(a0.other (j:=5) (c:=7) (x:=v6.sW) rfl aH S8 (.slice (some ⟨g2,0,none⟩) (d.r.wait.length+1) c2)).2;have zn1:wb.cell? ⟨hb,7,none⟩=some (.slice AW d.r.wait.length cW):=by
       have:=aJ (zaT.trans a0.blk) 7;rw[this,<-Am.o];rfl
      have zvC:=eL (zaT.trans a0.blk) 7;have Fp:=aD (wM.o.trans ((bM.refl (v:=v6) (w:=wa) (hb:=hb)).same (x:={wb with heap:=wa.heap}) rfl|>.trans t6));have An:=aD a6;clear a6 t6 a0 S8 zaT oM zmy fB tG wM HV zwL aT zia;refine nP ?_;refine CR.mv H (.pointer (some ⟨hb,0,none⟩)) ?_;refine CR.mg H (.pointer (some ⟨hb,7,none⟩)) ?_;refine CR.sto H zHZ rfl aQ rfl (w':=wb.setCell ⟨hb,7,none⟩ (.slice (some ⟨g2,0,none⟩) (d.r.wait.length+1) c2)) (λT=>by have hh:(Tt.tp wb T 0).cell? _=_:=zn1;have hf:(Tt.tp wb T 0).frozen? _=_:=zvC;unfold aS;go_simp;try rfl) ?_;obtain⟨wc,zgp⟩:=aU (wb.setCell ⟨hb,7,none⟩ (.slice (some ⟨g2,0,none⟩) (d.r.wait.length+1) c2));have zbY:=aD (show bE wc lo hb {v6 with sW:=.slice (some ⟨g2,0,none⟩) (d.r.wait.length+1) c2} {d with r:={d.r with recs:=d.r.recs++[⟨c.c,(i:Int)+1,0,d.r.clk,-1,-1,eU⟩],wait:=uB d.r.wait c}} by rw[zgp];exact An.o);have zc3:=aD (show bM hb v w {v6 with sW:=.slice (some ⟨g2,0,none⟩) (d.r.wait.length+1) c2} wc by rw[zgp];exact Fp.o);dsimp only;rw[<-zgp];clear zgp An Fp zn1 zvC;refine CR.nil H ?_;have E6:=Qn (c:=(i:Int)+1) aC aC;refine CW.sq H (CW.pW H Cg zbY zc3 λzkc Q zp5 zct zb8 HQ=>?_)
      go_wp2_with (go_at_call 112;refine(zl4 ((i:Int)+1) aC aC _).mono ?_;rintro en zhp ⟨rfl,zIP⟩;obtain rfl:=zIP)
      refine HQ.o _ _ ?_;clear HQ;refine CW.rt H ?_;refine⟨.inr rfl,rfl,.string ⟨([108,105,110,101,32]++jK ((i:Int)+1)).toArray⟩,(by have ee:(⟨#[108,105,110,101,32]⟩:ByteArray)++⟨(jK ((i:Int)+1)).toArray⟩=⟨([108,105,110,101,32]++jK ((i:Int)+1)).toArray⟩:=(by simp[I9]);rw[<-ee];rfl),⟨rfl,by rw[cK.o],{v6 with sW:=.slice (some ⟨g2,0,none⟩) (d.r.wait.length+1) c2},?_,?_,?_,⟨P6.o.2.2.2.1,P6.o.2.2.2.2.1,P6.o.2.2.2.2.2.2.2.1,P6.o.2.2.2.2.2.2.2.2⟩⟩⟩
      .rw[cK.o];exact zct.o
      .rw[cK.o];refine gC.of zHR.o ?_ ?_ ?_ ?_ ?_<;>rfl
      .exact zb8.o
structure EvPre (lo hb:Nat)(v:fJ)(d:nM)(w:aE):Prop where
 at_:bE w lo hb v d
 mr:gC v d
 i:yM d
 lo_:lo<=w.heap.size
 tab:Af lo w
 clk:d.r.clk<=99000
 nbw:d.r.back.length+d.r.wait.length<=5000
def Jt:wC aK 81:=⟨_,zu5,.inr (.inl ⟨_,rfl⟩)⟩
variable {ev:dD}
theorem zF9 (H:e.d.Ok)(h:EvPre lo hb v d w)(mJ:sO d.r.o.op ev=true)(hW:B7 e.W k (pG d.r ev))(hK:∀(i g:Nat),d.qn[i]? =some g->K g (qa e.qs i)):
 CF e.d 81 #[.pointer (some ⟨hb,0,none⟩),.agg #[.string ev.k,.int .i64 ev.a,.int .i64 ev.b]] K (.wk e.qs k) w (λK' l' y w'=>zb6 e.qs lo hb v d w k (pG d.r ev).length (eN d.r ev) l' y w'):=by
 refine CF.of 37 zu5 (.inr (.inl ⟨_,rfl⟩)) ?_;have A0:=aD h.at_;have T0:=aD (bM.refl (hb:=hb) (v:=v) (w:=w));have HP:=aD h;have HW:=aD hW;have Wo:=(Ad h.i.R.off).2.2.2.1;have Uw:=h.i.nqn;have zb9:L8 d.r.o.op ev:=by unfold sO at mJ;simpa using mJ
 have zfh:=aD zb9;clear h hW mJ zb9;refine CW.sq H (CW.pW H Jt A0 T0 λw1 Q fA A1 T1 HQ=>?_);go_wp2;refine HQ.o _ _ ?_;clear HQ;obtain⟨gx,uT⟩:=aU w1.heap.size;obtain⟨w2,fZ⟩:=aU (w1.alloc (.cells #[.string ev.k,.int .i64 ev.a,.int .i64 ev.b] 54));have A2:=aD (show bE w2 lo hb v d by rw[fZ];exact A1.o.alloc _);have T2:=aD (show bM hb v w v w2 by rw[fZ];exact T1.o.trans (bM.below (dN (eF _ _) _)));have zg9:=aD (show w2.heap[gx]? =some (.cells #[.string ev.k,.int .i64 ev.a,.int .i64 ev.b] 54) by rw[fZ,uT];exact lF _ _);rw[<-uT,<-fZ];clear fZ uT A1 T1;refine CW.sq H ?_;refine CW.sq H (CW.pW H Jt A2 T2 λw3 Q iT A3 T3 HQ=>?_);have vG:=aD (iT▸zg9.o);have kx:=aJ vG.o 0;go_wp2;refine HQ.o _ _ ?_;clear HQ;clear kx;refine CW.block H ?_;by_cases Vk:ev.k.toList=Hz
 .
   have qP:(ev.k.toList==[114,105,110,103])=true:=by rw[Vk];rfl
   have lS:=aD Vk;clear Vk;refine CW.sq H (CW.pW H Jt A3 T3 λw4 Q lM A4 T4 HQ=>?_);have Mr:=aD (lM▸vG.o);go_wp2;refine HQ.o _ _ ?_;clear HQ
   try simp only[qP]
   clear qP;refine CW.cond H (t:=true) rfl P8 ?_;refine CW.sq H ?_;refine CW.rg H [0,1,2,3,4,5,6] ?_;refine CR.mv H (.pointer (some ⟨hb,0,none⟩)) ?_;refine CR.mg H (.pointer (some ⟨gx,1,none⟩)) ?_;refine CR.mv H (.int .i64 ev.a) ?_ (hx:=λT=>by have hh:(Tt.tp w4 T 0).cell? _=_:=aJ Mr.o 1;unfold aS;go_simp);refine CR.mg H (.pointer (some ⟨gx,2,none⟩)) ?_;refine CR.mv H (.int .i64 ev.b) ?_ (hx:=λT=>by have hh:(Tt.tp w4 T 0).cell? _=_:=aJ Mr.o 2;unfold aS;go_simp)
   obtain⟨Ou,Bf,G6,uL⟩:1<=ev.a/\ev.a<=99/\0<=ev.b/\ev.b<=9:=by
    rcases zfh.o with h|h|⟨h,_⟩|h
    .exact h.2
    .rw[h.1] at lS;exact absurd lS.o aH
    .rcases h with h|h<;>(rw[h] at lS;exact absurd lS.o aH)
    .rw[h.1] at lS;exact absurd lS.o aH
   have l5:=aD (show eN d.r ev=qB d.r ⟨ev.a,ev.b⟩ by unfold eN;rw[if_pos lS.o]);have sJ:=aD (show pG d.r ev=[] by unfold pG;rw[if_pos lS.o]);refine CR.cl H (cf_ring H (c:=⟨ev.a,ev.b⟩) A4.o HP.o.mr HP.o.i (eG HP.o.lo_ T4.o.size) ⟨G6,uL⟩) (λK' l' y w' hl o5=>?_);simp only[cC,gK,dU,dV];obtain⟨z1,rfl,z3⟩:=o5;refine nP ?_;refine CR.mv H (.string ⟨(qB d.r ⟨ev.a,ev.b⟩).2.toArray⟩) ?_;refine CR.nil H ?_;refine CW.rt H ?_;obtain⟨v',z4,z5,z6,z7⟩:=z3;refine⟨.inr rfl,rfl,.string ⟨(qB d.r ⟨ev.a,ev.b⟩).2.toArray⟩,rfl,⟨by rw[sJ.o];exact z1,by rw[l5.o],v',by rw[l5.o];exact z4,by rw[l5.o];exact z5,T4.o.trans z6,z7⟩⟩
 .
   have qP:(ev.k.toList==[114,105,110,103])=false:=by
    have hz:¬ev.k.toList=[114,105,110,103]:=Vk;simpa using hz
   have zju:=aD Vk;clear Vk;refine CW.sq H (CW.pW H Jt A3 T3 λw4 Q lM A4 T4 HQ=>?_);have Mr:=aD (lM▸vG.o);go_wp2;refine HQ.o _ _ ?_;clear HQ
   try simp only[qP]
   clear qP;refine CW.cond H (t:=false) rfl P8 ?_;by_cases Wt:ev.k.toList=Kf
   .
     have qP:(ev.k.toList==[104,97,110,103])=true:=by rw[Wt];rfl
     have lS:=aD Wt;clear Wt;refine CW.sq H (CW.pW H Jt A4 T4 λw5 Q n8 A5 T5 HQ=>?_);have C6:=aD (n8▸Mr.o);go_wp2;refine HQ.o _ _ ?_;clear HQ
     try simp only[qP]
     clear qP;refine CW.cond H (t:=true) rfl P8 ?_;refine CW.sq H ?_;refine CW.rg H [0,1,2,3,4] ?_;refine CR.mv H (.pointer (some ⟨hb,0,none⟩)) ?_;refine CR.mg H (.pointer (some ⟨gx,1,none⟩)) ?_;refine CR.mv H (.int .i64 ev.a) ?_ (hx:=λT=>by have hh:(Tt.tp w5 T 0).cell? _=_:=aJ C6.o 1;unfold aS;go_simp);have Qw:B7 e.W k (Dv d.r ev.a):=by
      have:=HW.o;unfold pG at this;rw[if_neg yC,if_neg yC,if_neg yC,if_pos lS.o] at this;exact this
     have l5:=aD (show eN d.r ev=mB d.r ev.a by unfold eN;rw[if_neg yC,if_neg yC,if_neg yC,if_pos lS.o]);have sJ:=aD (show pG d.r ev=Dv d.r ev.a by unfold pG;rw[if_neg yC,if_neg yC,if_neg yC,if_pos lS.o]);refine CR.cl H (cf_hang H A5.o HP.o.mr HP.o.i (eG HP.o.lo_ T5.o.size) Qw hK) (λK' l' y w' hl o5=>?_);simp only[cC,gK,dU,dV];obtain⟨z1,rfl,z3⟩:=o5;refine nP ?_;refine CR.mv H (.string ⟨(mB d.r ev.a).2.toArray⟩) ?_;refine CR.nil H ?_;refine CW.rt H ?_;obtain⟨v',z4,z5,z6,z7⟩:=z3;refine⟨.inr rfl,rfl,.string ⟨(mB d.r ev.a).2.toArray⟩,rfl,⟨by rw[sJ.o];exact z1,by rw[l5.o],v',by rw[l5.o];exact z4,by rw[l5.o];exact z5,T5.o.trans z6,z7⟩⟩
   .
     have qP:(ev.k.toList==[104,97,110,103])=false:=by
      have hz:¬ev.k.toList=[104,97,110,103]:=Wt;simpa using hz
     have zlF:=aD Wt;clear Wt;refine CW.sq H (CW.pW H Jt A4 T4 λw5 Q n8 A5 T5 HQ=>?_);have C6:=aD (n8▸Mr.o);go_wp2;refine HQ.o _ _ ?_;clear HQ
     try simp only[qP]
     clear qP;refine CW.cond H (t:=false) rfl P8 ?_;by_cases Yn:ev.k.toList=Ii
     .
       have qP:(ev.k.toList==[97,110,115,119,101,114])=true:=by rw[Yn];rfl
       have lS:=aD Yn;clear Yn;refine CW.sq H (CW.pW H Jt A5 T5 λw6 Q pB A6 T6 HQ=>?_);have K9:=aD (pB▸C6.o);go_wp2;refine HQ.o _ _ ?_;clear HQ
       try simp only[qP]
       clear qP;refine CW.cond H (t:=true) rfl P8 ?_;refine CW.sq H ?_;refine CW.rg H [0,1,2,3,4] ?_;refine CR.mv H (.pointer (some ⟨hb,0,none⟩)) ?_;refine CR.mg H (.pointer (some ⟨gx,1,none⟩)) ?_;refine CR.mv H (.int .i64 ev.a) ?_ (hx:=λT=>by have hh:(Tt.tp w6 T 0).cell? _=_:=aJ K9.o 1;unfold aS;go_simp)
       obtain⟨Ou,Bf⟩:1<=ev.a/\ev.a<=d.r.o.op:=by
        rcases zfh.o with h|h|⟨_,h⟩|h
        .rw[h.1] at lS;exact absurd lS.o aH
        .rw[h.1] at lS;exact absurd lS.o aH
        .exact⟨h.1,h.2.1⟩
        .rw[h.1] at lS;exact absurd lS.o aH
       obtain⟨q,l8⟩:∃q:Nat,ev.a=(q:Int)+1:=⟨(ev.a-1).toNat,aC⟩;have hq:q<d.qn.length:=aC;have yS:q<=100:=aC;have Qw:B7 e.W k (Hb d.r ((q:Int)+1)):=by
        have:=HW.o;unfold pG at this;rw[if_neg yC,if_pos lS.o,l8] at this;exact this
       have l5:=aD (show eN d.r ev=nO d.r ((q:Int)+1) by unfold eN;rw[if_neg yC,if_pos lS.o,l8]);have sJ:=aD (show pG d.r ev=Hb d.r ((q:Int)+1) by unfold pG;rw[if_neg yC,if_pos lS.o,l8]);rw[l8];refine CR.cl H (cf_pick H A6.o HP.o.mr HP.o.i Qw hq yS hK) (λK' l' y w' hl o5=>?_);simp only[cC,gK,dU,dV];obtain⟨z1,rfl,z3⟩:=o5;refine nP ?_;refine CR.mv H (.string ⟨(nO d.r ((q:Int)+1)).2.toArray⟩) ?_;refine CR.nil H ?_;refine CW.rt H ?_;obtain⟨v',z4,z5,z6,z7⟩:=z3;refine⟨.inr rfl,rfl,.string ⟨(nO d.r ((q:Int)+1)).2.toArray⟩,rfl,⟨by rw[sJ.o];exact z1,by rw[l5.o],v',by rw[l5.o];exact z4,by rw[l5.o];exact z5,T6.o.trans z6,z7⟩⟩
     .
       have qP:(ev.k.toList==[97,110,115,119,101,114])=false:=by
        have hz:¬ev.k.toList=[97,110,115,119,101,114]:=Yn;simpa using hz
       have zl6:=aD Yn;clear Yn;refine CW.sq H (CW.pW H Jt A5 T5 λw6 Q pB A6 T6 HQ=>?_);have K9:=aD (pB▸C6.o);go_wp2;refine HQ.o _ _ ?_;clear HQ
       try simp only[qP]
       clear qP;refine CW.cond H (t:=false) rfl P8 ?_;by_cases Xo:ev.k.toList=Hw
       .
         have qP:(ev.k.toList==[114,101,116,117,114,110])=true:=by rw[Xo];rfl
         have lS:=aD Xo;clear Xo;refine CW.sq H (CW.pW H Jt A6 T6 λw7 Q rF A7 T7 HQ=>?_);have F9:=aD (rF▸K9.o);go_wp2;refine HQ.o _ _ ?_;clear HQ
         try simp only[qP]
         clear qP;refine CW.cond H (t:=true) rfl P8 ?_;refine CW.sq H ?_;refine CW.rg H [0,1,2,3,4] ?_;refine CR.mv H (.pointer (some ⟨hb,0,none⟩)) ?_;refine CR.mg H (.pointer (some ⟨gx,1,none⟩)) ?_;refine CR.mv H (.int .i64 ev.a) ?_ (hx:=λT=>by have hh:(Tt.tp w7 T 0).cell? _=_:=aJ F9.o 1;unfold aS;go_simp)
         obtain⟨Ou,Bf⟩:1<=ev.a/\ev.a<=d.r.o.op:=by
          rcases zfh.o with h|h|⟨_,h⟩|h
          .rw[h.1] at lS;exact absurd lS.o aH
          .rw[h.1] at lS;exact absurd lS.o aH
          .exact⟨h.1,h.2.1⟩
          .rw[h.1] at lS;exact absurd lS.o aH
         obtain⟨q,l8⟩:∃q:Nat,ev.a=(q:Int)+1:=⟨(ev.a-1).toNat,aC⟩;have hq:q<d.qn.length:=aC;have yS:q<=100:=aC;have Qw:B7 e.W k (C0 d.r ((q:Int)+1)):=by
          have:=HW.o;unfold pG at this;rw[if_neg yC,if_neg yC,if_pos lS.o,l8] at this;exact this
         have l5:=aD (show eN d.r ev=l6 d.r ((q:Int)+1) by unfold eN;rw[if_neg yC,if_neg yC,if_pos lS.o,l8]);have sJ:=aD (show pG d.r ev=C0 d.r ((q:Int)+1) by unfold pG;rw[if_neg yC,if_neg yC,if_pos lS.o,l8]);rw[l8];refine CR.cl H (cf_back H A7.o HP.o.mr HP.o.i (eG HP.o.lo_ T7.o.size) Qw hq yS hK) (λK' l' y w' hl o5=>?_);simp only[cC,gK,dU,dV];obtain⟨z1,rfl,z3⟩:=o5;refine nP ?_;refine CR.mv H (.string ⟨(l6 d.r ((q:Int)+1)).2.toArray⟩) ?_;refine CR.nil H ?_;refine CW.rt H ?_;obtain⟨v',z4,z5,z6,z7⟩:=z3;refine⟨.inr rfl,rfl,.string ⟨(l6 d.r ((q:Int)+1)).2.toArray⟩,rfl,⟨by rw[sJ.o];exact z1,by rw[l5.o],v',by rw[l5.o];exact z4,by rw[l5.o];exact z5,T7.o.trans z6,z7⟩⟩
       .
         have qP:(ev.k.toList==[114,101,116,117,114,110])=false:=by
          have hz:¬ev.k.toList=[114,101,116,117,114,110]:=Xo;simpa using hz
         have zlD:=aD Xo;clear Xo;refine CW.sq H (CW.pW H Jt A6 T6 λw7 Q rF A7 T7 HQ=>?_);have F9:=aD (rF▸K9.o);go_wp2;refine HQ.o _ _ ?_;clear HQ
         try simp only[qP]
         clear qP;refine CW.cond H (t:=false) rfl P8 ?_;refine CW.sk H ?_;dsimp only
         obtain⟨Ou,Bf⟩:1<=ev.a/\ev.a<=60:=by
          rcases zfh.o with h|h|⟨h,_⟩|h
          .exact absurd h.1 zju.o
          .exact absurd h.1 zlF.o
          .rcases h with h|h
           .exact absurd h zl6.o
           .exact absurd h zlD.o
          .exact⟨h.2.1,h.2.2.1⟩
         have l5:=aD (show eN d.r ev=uR d.r ev.a by unfold eN;rw[if_neg zju.o,if_neg zl6.o,if_neg zlD.o,if_neg zlF.o]);have sJ:=aD (show pG d.r ev=[] by unfold pG;rw[if_neg zju.o,if_neg zl6.o,if_neg zlD.o,if_neg zlF.o]);have zB8:=aD (λW (t:bM hb v w v W)=>HP.o.tab.turn HP.o.at_ HP.o.lo_ t);refine CW.sq H (CW.pW H Jt A7 T7 λw8 Q Ip A8 T8 HQ=>?_);have Iw:=aD (Ip▸F9.o);have kx:=aJ Iw.o 1;have zLx:=aJ Iw.o 0
         go_wp2_with (go_at_call 105;refine(zC3 A8.o HP.o.mr HP.o.i (eG HP.o.lo_ T8.o.size) (zB8.o _ T8.o) aC (by have:=HP.o.clk;omega) HP.o.nbw).mono ?_;rintro en wz ⟨rfl,z3⟩;have Z3:=aD z3;clear z3)
         refine HQ.o _ _ ?_;clear HQ;refine CW.rt H ?_;obtain⟨v',z4,z5,z6,z7⟩:=Z3.o;refine⟨.inr rfl,rfl,.string ⟨(uR d.r ev.a).2.toArray⟩,rfl,⟨by rw[sJ.o];rfl,by rw[l5.o],v',by rw[l5.o];exact z4,by rw[l5.o];exact z5,T8.o.trans z6,z7⟩⟩
section
variable {ops:Array aZ}{ch:List Nat}{V0:Nat->aF}{vs:List aF}{t0 t:Array aF}
variable {s:Tmp}
theorem qL (KO:Jx ops){i:Nat}{o:aZ}{v:aF}(ho:ops[i]? =some o)(hd:o.dst=some s)(hz:s<t0.size)(hv:VV ch V0 vs i=v):(dE ops (VV ch V0 vs) t0).getD s aA=v:=by
 have h:=(Sz (vals:=VV ch V0 vs) (t0:=t0) KO).got i o s ho hd hz (by simp[(dP.1 ho).1]);rw[tJ,h,hv];rfl
theorem zgC (KO:Jx ops)(hs:Hg ops s=false):(dE ops (VV ch V0 vs) t0).getD s aA=t0.getD s undef:=by
 rw[tJ,(Sz (vals:=VV ch V0 vs) (t0:=t0) KO).old s (λi o h1 _ h2=>by rw[zhu h1 h2] at hs;cases hs),tJ]
theorem Gr {o:aZ}(lV:∀s∈o.looksAt ops,t[s]? =(dE ops (VV ch V0 vs) t0)[s]?)(hs:s∈o.looksAt ops){v:aF}(h:(dE ops (VV ch V0 vs) t0).getD s aA=v):(bH t []).eval (.tmp s)=v:=by
 have e:(bH t []).eval (.tmp s)=t.getD s undef:=rfl;rw[e,tJ,lV s hs,<-tJ];exact h
end
def znA:Go.Code:=(Tryz.f58.body).getD .skip
def rWO3:Go.Code:=match znA with| .seq (.seq _ (.block _ (.loop (.seq _ (.seq _ (.seq (.block _ (.seq _ (a))) _)))))) _=>a|_=>.skip
def rWO8:Go.Code:=match znA with| .seq _ (.seq _ (.block _ (.loop (.seq _ (.seq _ (.seq (.block _ (.seq _ (.seq (a) _))) _))))))=>a|_=>.skip
def rWO9:Go.Code:=match znA with| .seq _ (.seq _ (.block _ (.loop (.seq _ (.seq _ (.seq (.block _ (.seq _ (.seq _ (a)))) _))))))=>a|_=>.skip
def oT:Array Oper:=match rWO3 with| .region _ ops _=>ops|_=>#[]
def rWO3_eq:rWO3=.region 3 oT true:=rfl
abbrev zqj:Oper:=⟨some 14,.move (.tmp 0),63,"l6_office.go:253",#[],none⟩
def zyR:oT[0]? =some zqj:=rfl
abbrev znZ:Oper:=⟨some 15,.move (.tmp 0),63,"l6_office.go:253",#[],none⟩
def zBh:oT[1]? =some znZ:=rfl
abbrev zsB:Oper:=⟨some 16,.nilCheck (.tmp 15),0,"l6_office.go:253",#[⟨1,.data⟩],none⟩
def zGn:oT[2]? =some zsB:=rfl
abbrev zup:Oper:=⟨some 17,.fieldAddr 72 (.tmp 16) 10,0,"l6_office.go:253",#[⟨2,.data⟩],none⟩
def zEF:oT[3]? =some zup:=rfl
abbrev zp1:Oper:=⟨some 18,.load 26 (.tmp 17),26,"l6_office.go:253",#[⟨3,.data⟩],none⟩
def zC7:oT[4]? =some zp1:=rfl
abbrev zvl:Oper:=⟨some 19,.move (.tmp 0),63,"l6_office.go:253",#[],none⟩
def zAX:oT[5]? =some zvl:=rfl
abbrev zvH:Oper:=⟨some 20,.load 54 (.tmp 5),54,"l6_office.go:253",#[],none⟩
def zzB:oT[6]? =some zvH:=rfl
abbrev zyc:Oper:=⟨some 21,.call ⟨.value (.func 81),#[.tmp 19,.tmp 20],#[63,54]⟩,9,"l6_office.go:253",#[⟨5,.data⟩,⟨6,.data⟩],none⟩
def zhF:oT[7]? =some zyc:=rfl
abbrev zm0:Oper:=⟨some 22,.buildSlice 26 1 #[(0,.tmp 21)],26,"l6_office.go:253",#[⟨7,.data⟩],none⟩
def zgY:oT[8]? =some zm0:=rfl
abbrev zoQ:Oper:=⟨some 23,.call ⟨.builtin .append,#[.tmp 18,.tmp 22],#[26,26]⟩,26,"l6_office.go:253",#[⟨4,.data⟩,⟨8,.data⟩,⟨7,.chain⟩],none⟩
def zmd:oT[9]? =some zoQ:=rfl
abbrev zta:Oper:=⟨some 24,.nilCheck (.tmp 14),0,"l6_office.go:253",#[⟨0,.data⟩,⟨0,.phase⟩,⟨1,.phase⟩,⟨2,.phase⟩,⟨3,.phase⟩,⟨4,.phase⟩,⟨5,.phase⟩,⟨6,.phase⟩,⟨7,.phase⟩,⟨8,.phase⟩,⟨9,.phase⟩],none⟩
def zEV:oT[10]? =some zta:=rfl
abbrev zrI:Oper:=⟨some 25,.fieldAddr 72 (.tmp 24) 10,0,"l6_office.go:253",#[⟨10,.data⟩,⟨0,.phase⟩,⟨1,.phase⟩,⟨2,.phase⟩,⟨3,.phase⟩,⟨4,.phase⟩,⟨5,.phase⟩,⟨6,.phase⟩,⟨7,.phase⟩,⟨8,.phase⟩,⟨9,.phase⟩],none⟩
def zDh:oT[11]? =some zrI:=rfl
abbrev zh3:Oper:=⟨none,.store 26 (.tmp 25) (.tmp 23),0,"l6_office.go:253",#[⟨11,.data⟩,⟨9,.data⟩,⟨9,.chain⟩,⟨0,.phase⟩,⟨1,.phase⟩,⟨2,.phase⟩,⟨3,.phase⟩,⟨4,.phase⟩,⟨5,.phase⟩,⟨6,.phase⟩,⟨7,.phase⟩,⟨8,.phase⟩,⟨9,.phase⟩],none⟩
def zjc:oT[12]? =some zh3:=rfl
def n7:Array Oper:=match rWO8 with| .region _ ops _=>ops|_=>#[]
def rWO8_eq:rWO8=.region 8 n7 true:=rfl
abbrev zoY:Oper:=⟨some 37,.move (.tmp 0),63,"l6_office.go:256",#[],none⟩
def zF8:n7[0]? =some zoY:=rfl
abbrev zxW:Oper:=⟨some 38,.move (.tmp 0),63,"l6_office.go:256",#[],none⟩
def zDD:n7[1]? =some zxW:=rfl
abbrev zs9:Oper:=⟨some 39,.nilCheck (.tmp 38),0,"l6_office.go:256",#[⟨1,.data⟩],none⟩
def zG4:n7[2]? =some zs9:=rfl
abbrev zth:Oper:=⟨some 40,.fieldAddr 72 (.tmp 39) 11,0,"l6_office.go:256",#[⟨2,.data⟩],none⟩
def zAR:n7[3]? =some zth:=rfl
abbrev zo9:Oper:=⟨some 41,.load 38 (.tmp 40),38,"l6_office.go:256",#[⟨3,.data⟩],none⟩
def zHP:n7[4]? =some zo9:=rfl
abbrev zo8:Oper:=⟨some 42,.move (.tmp 0),63,"l6_office.go:256",#[],none⟩
def zIK:n7[5]? =some zo8:=rfl
abbrev ztv:Oper:=⟨some 43,.move (.tmp 6),3,"l6_office.go:256",#[],none⟩
def zIg:n7[6]? =some ztv:=rfl
abbrev zlR:Oper:=⟨some 44,.binOp .add 3 (.tmp 43) (.const (.int .i64 1)) 3,3,"l6_office.go:256",#[⟨6,.data⟩],none⟩
def zEA:n7[7]? =some zlR:=rfl
abbrev zoZ:Oper:=⟨some 45,.call ⟨.value (.func 82),#[.tmp 42,.tmp 44,.const (.int .i64 0),.const (.int .i64 0)],#[63,3,3,3]⟩,3,"l6_office.go:256",#[⟨5,.data⟩,⟨7,.data⟩],none⟩
def znN:n7[8]? =some zoZ:=rfl
abbrev zhA:Oper:=⟨some 46,.buildSlice 38 1 #[(0,.tmp 45)],38,"l6_office.go:256",#[⟨8,.data⟩],none⟩
def zd8:n7[9]? =some zhA:=rfl
abbrev znX:Oper:=⟨some 47,.call ⟨.builtin .append,#[.tmp 41,.tmp 46],#[38,38]⟩,38,"l6_office.go:256",#[⟨4,.data⟩,⟨9,.data⟩,⟨8,.chain⟩],none⟩
def zns:n7[10]? =some znX:=rfl
abbrev zxu:Oper:=⟨some 48,.nilCheck (.tmp 37),0,"l6_office.go:256",#[⟨0,.data⟩,⟨0,.phase⟩,⟨1,.phase⟩,⟨2,.phase⟩,⟨3,.phase⟩,⟨4,.phase⟩,⟨5,.phase⟩,⟨6,.phase⟩,⟨7,.phase⟩,⟨8,.phase⟩,⟨9,.phase⟩,⟨10,.phase⟩],none⟩
def zFi:n7[11]? =some zxu:=rfl
abbrev zxm:Oper:=⟨some 49,.fieldAddr 72 (.tmp 48) 11,0,"l6_office.go:256",#[⟨11,.data⟩,⟨0,.phase⟩,⟨1,.phase⟩,⟨2,.phase⟩,⟨3,.phase⟩,⟨4,.phase⟩,⟨5,.phase⟩,⟨6,.phase⟩,⟨7,.phase⟩,⟨8,.phase⟩,⟨9,.phase⟩,⟨10,.phase⟩],none⟩
def zGg:n7[12]? =some zxm:=rfl
abbrev ziB:Oper:=⟨none,.store 38 (.tmp 49) (.tmp 47),0,"l6_office.go:256",#[⟨12,.data⟩,⟨10,.data⟩,⟨10,.chain⟩,⟨0,.phase⟩,⟨1,.phase⟩,⟨2,.phase⟩,⟨3,.phase⟩,⟨4,.phase⟩,⟨5,.phase⟩,⟨6,.phase⟩,⟨7,.phase⟩,⟨8,.phase⟩,⟨9,.phase⟩,⟨10,.phase⟩],none⟩
def znO:n7[13]? =some ziB:=rfl
def opsWO9:Array Oper:=match rWO9 with| .region _ ops _=>ops|_=>#[]
abbrev oWO9_1:Oper:=⟨none,.call ⟨.builtin .close,#[.tmp 50],#[95]⟩,0,"l6_office.go:257",#[⟨0,.data⟩],none⟩
def zJr:opsWO9[1]? =some oWO9_1:=rfl
def Qr:wC aK 58:=⟨_,ziz,.inl rfl⟩
def zBg:(aK.info? 9).map (λi=>(i.zero,i.size,i.bytes))=some (some (.string ⟨#[]⟩),1,16):=aQ
variable {V:Nat->aF}{Tf:Array aF}
theorem bs3 {s:ByteArray}(hT:xI Tf V)(zM6:V 21=.string s):(aS (bH Tf []).eval zm0).run aK w=.ok (.value (.slice (some ⟨w.heap.size,0,none⟩) 1 1)) (w.alloc (.cells #[.string s] 9)):=by
 unfold aS;go_simp
variable {sA:aF}{T:jW}
theorem st3 {q1 q2:Nat}(hT:xI Tf V)(zM5:V 25=.pointer (some ⟨hb,12,none⟩))(zMT:V 23=.slice (some ⟨q1,0,none⟩) n q2)(hh:w.cell? ⟨hb,12,none⟩=some sA)(hf:w.frozen? ⟨hb,12,none⟩=false):(aS (bH Tf []).eval zh3).run aK (Tt.tp w T 0)=.ok .skip (Tt.tp (w.setCell ⟨hb,12,none⟩ (.slice (some ⟨q1,0,none⟩) n q2)) T 0):=by
 have zfO:(Tt.tp w T 0).cell? ⟨hb,12,none⟩=some sA:=hh;have Az:(Tt.tp w T 0).frozen? ⟨hb,12,none⟩=false:=hf;clear hh hf;unfold aS;go_simp
 try rfl
def zx5:I5 oT=true:=aQ
def zAN:Nt oT [7,8,9,12]=true:=aQ
def zAC:oT.toList.map (·.dst)=[some 14,some 15,some 16,some 17,some 18,some 19,some 20,some 21,some 22,some 23,some 24,some 25,none]:=rfl
def zC1:oT.toList=[zqj,znZ,zsB,zup,zp1,zvl,zvH,zyc,zm0,zoQ,zta,zrI,zh3]:=rfl
def Gb (hb gb:Nat)(sA:aF)(ev:dD)(i:Nat):Value:=([.pointer (some ⟨hb,0,none⟩),.pointer (some ⟨hb,0,none⟩),.pointer (some ⟨hb,0,none⟩),.pointer (some ⟨hb,12,none⟩),sA,.pointer (some ⟨hb,0,none⟩),.agg #[.string ev.k,.int .i64 ev.a,.int .i64 ev.b],aA,aA,aA,.pointer (some ⟨hb,0,none⟩),.pointer (some ⟨hb,12,none⟩),aA]:List aF).getD i aA
structure W3 where
 es:Ho
 lo:Nat
 hb:Nat
 gb:Nat
 k:Nat
 v0:fJ
 w0:aE
 v:fJ
 d:nM
 ev:dD
 K0:Pr
def W3.P1 (c:W3)(w:aE):Prop:=∃v1,bE w c.lo c.hb v1 {c.d with r:=(eN c.d.r c.ev).1}/\gC v1 {c.d with r:=(eN c.d.r c.ev).1}/\bM c.hb c.v0 c.w0 v1 w/\zS c.v v1/\some c.gb∉parts v1 c.hb
def W3.P2 (c:W3)(w:aE):Prop:=∃v2,bE w c.lo c.hb v2 {c.d with r:=Ed (eN c.d.r c.ev)}/\gC v2 {c.d with r:=Ed (eN c.d.r c.ev)}/\bM c.hb c.v0 c.w0 v2 w/\v2.sL=c.v.sL/\v2.sQ=c.v.sQ
def W3.y (c:W3):Value:=.string ⟨(eN c.d.r c.ev).2.toArray⟩
def W3.Rd (c:W3)(w:aE):Prop:=w.cell? ⟨c.hb,12,none⟩=some c.v.sA/\w.heap[c.gb]? =some (.cells #[.string c.ev.k,.int .i64 c.ev.a,.int .i64 c.ev.b] 54)
def W3.n1 (c:W3):Nat:=c.k+(pG c.d.r c.ev).length
def W3.St (c:W3)(vs:List aF)(l':gO)(w':aE):Prop:=match vs with
 |[]=>l'=.wk c.es.qs c.k/\EvPre c.lo c.hb c.v c.d w'/\bM c.hb c.v0 c.w0 c.v w'/\some c.gb∉parts c.v c.hb
 |[a]=>l'=.wk c.es.qs c.n1/\a=c.y/\c.P1 w'/\c.lo<=w'.heap.size
 |[a,b]=>l'=.wk c.es.qs c.n1/\(∃g,b=.slice (some ⟨g,0,none⟩) 1 1/\w'.heap[g]? =some (.cells #[c.y] 9))/\c.P1 w'/\c.lo<=w'.heap.size
 |[a,b,x]=>l'=.wk c.es.qs c.n1/\(∃q1 q2,x=.slice (some ⟨q1,0,none⟩) (c.d.r.log.length+1) q2)/\w'.frozen? ⟨c.hb,12,none⟩=false/\c.P2 (w'.setCell ⟨c.hb,12,none⟩ x)
 |_=>l'=.wk c.es.qs c.n1/\c.P2 w'
def SR3 (c:W3)(vs:List aF)(K':Pr)(l':gO)(w':aE):Prop:=c.K0.le K'/\(vs.length<4->c.Rd w')/\c.St vs l' w'
def EvPre.tp (h:EvPre lo hb v d w)(T:jW)(n:Nat):EvPre lo hb v d (Tt.tp w T n):=⟨h.at_.tp T n,h.mr,h.i,h.lo_,h.tab.keep λ_ _=>rfl,h.clk,h.nbw⟩
variable {c:W3}
theorem W3.P1.tp (h:c.P1 w)(T:jW)(n:Nat):c.P1 (Tt.tp w T n):=by
 obtain⟨v1,a,b,d,e⟩:=h;exact⟨v1,a.tp T n,b,d.tp T n,e⟩
theorem W3.P2.tp (h:c.P2 w)(T:jW)(n:Nat):c.P2 (Tt.tp w T n):=by
 obtain⟨v1,a,b,d,e⟩:=h;exact⟨v1,a.tp T n,b,d.tp T n,e⟩
theorem SR3.tp (vs:List aF)(K':Pr)(l':gO)(w':aE)(T:jW)(n:Nat)(h:SR3 c vs K' l' w'):SR3 c vs K' l' (Tt.tp w' T n):=by
 obtain⟨h1,h2,h3⟩:=h;refine⟨h1,h2,?_⟩;rcases vs with _|⟨a,_|⟨b,_|⟨x,_|⟨y,vs⟩⟩⟩⟩
 .exact⟨h3.1,h3.2.1.tp T n,h3.2.2.1.tp T n,h3.2.2.2⟩
 .exact⟨h3.1,h3.2.1,h3.2.2.1.tp T n,h3.2.2.2⟩
 .exact⟨h3.1,h3.2.1,h3.2.2.1.tp T n,h3.2.2.2⟩
 .exact⟨h3.1,h3.2.1,h3.2.2.1,W3.P2.tp (w:=w'.setCell _ _) h3.2.2.2 T n⟩
 .exact⟨h3.1,W3.P2.tp h3.2 T n⟩
variable {B:List Nat}{Φ:n5->WS->Prop}
theorem cw_R3 (H:c.es.d.Ok)(mJ:sO c.d.r.o.op c.ev=true)(hW:B7 c.es.W c.k (pG c.d.r c.ev))(hK:∀(i g:Nat),c.d.qn[i]? =some g->c.K0 g (qa c.es.qs i))(zj4:(eN c.d.r c.ev).1.log.length<=1000)(zxC:(eN c.d.r c.ev).1.log=c.d.r.log)(hz:t0.size=52)(uK:t0.getD 0 aA=.pointer (some ⟨c.hb,0,none⟩))(zEC:t0.getD 5 aA=.pointer (some ⟨c.gb,0,none⟩))
 (hk:∀vs K' l' w',vs.length=4->SR3 c vs K' l' w'->Φ .normal ⟨[],K',l',dE oT (VV [7,8,9,12] (Gb c.hb c.gb c.v.sA c.ev) vs) t0,w'⟩) (h0:SR3 c [] K l w):CW c.es.d B 58 rWO3 ⟨[],K,l,t0,w⟩ Φ:=by
 rw[rWO3_eq];have KO:=Uv zx5;refine CW.drawn H vK.mixed [7,8,9,12] (Gb c.hb c.gb c.v.sA c.ev) (SR3 c) zx5 zAN Mk (λvs K l w T e h=>SR3.tp vs K l w T e h) (λi o ho hi=>?_) (λvs ci o K' l' w' hc ho hS t rest lV fS=>?_) hk h0
 .have hl:oT.toList[i]? =some o:=by rw[Aw];exact ho
  rw[zC1] at hl;have aN:i<13:=by have:=(kD.1 hl).1;simpa using this
  have tn:∀(vs:List aF) {j:Nat} {oj:aZ} {s:Tmp} {v:aF},oT[j]? =some oj->oj.dst=some s->s<t0.size->VV [7,8,9,12] (Gb c.hb c.gb c.v.sA c.ev) vs j=v->(dE oT (VV [7,8,9,12] (Gb c.hb c.gb c.v.sA c.ev) vs) t0).getD s aA=v:=λvs _ _ _ _ a b c d=>qL KO a b c d;have tq:∀(vs:List aF) {s:Tmp},Hg oT s=false->(dE oT (VV [7,8,9,12] (Gb c.hb c.gb c.v.sA c.ev) vs) t0).getD s aA=t0.getD s undef:=λvs _ a=>zgC KO a;rcases i with _|_|_|_|_|_|_|_|_|_|_|_|_|i
  .obtain rfl:=cE hl
   exact⟨aQ,λvs K' l' w' hv hS=>⟨eD rfl,uG (.pointer (some ⟨c.hb,0,none⟩)) ((tq vs aQ).trans uK)⟩⟩
  .obtain rfl:=cE hl
   exact⟨aQ,λvs K' l' w' hv hS=>⟨eD rfl,uG (.pointer (some ⟨c.hb,0,none⟩)) ((tq vs aQ).trans uK)⟩⟩
  .obtain rfl:=cE hl
   exact⟨aQ,λvs K' l' w' hv hS=>⟨eD rfl,uG (.pointer (some ⟨c.hb,0,none⟩)) (tn vs zBh rfl kP rfl)⟩⟩
  .obtain rfl:=cE hl
   exact⟨aQ,λvs K' l' w' hv hS=>⟨eD rfl,uG (.pointer (some ⟨c.hb,12,none⟩)) (tn vs zGn rfl kP rfl)⟩⟩
  .obtain rfl:=cE hl
   exact⟨aQ,λvs K' l' w' hv hS=>⟨eD rfl,rd2 (c.v.sA) (tn vs zEF rfl kP rfl) (hS.2.1 hv).1⟩⟩
  .obtain rfl:=cE hl
   exact⟨aQ,λvs K' l' w' hv hS=>⟨eD rfl,uG (.pointer (some ⟨c.hb,0,none⟩)) ((tq vs aQ).trans uK)⟩⟩
  .obtain rfl:=cE hl
   exact⟨aQ,λvs K' l' w' hv hS=>⟨eD rfl,rd4 (.agg #[.string c.ev.k,.int .i64 c.ev.a,.int .i64 c.ev.b]) ((tq vs aQ).trans zEC) (aJ (hS.2.1 hv).2 0) (aJ (hS.2.1 hv).2 1) (aJ (hS.2.1 hv).2 2)⟩⟩
  .exact absurd aH hi
  .exact absurd aH hi
  .exact absurd aH hi
  .obtain rfl:=cE hl
   exact⟨aQ,λvs K' l' w' hv hS=>⟨eD rfl,uG (.pointer (some ⟨c.hb,0,none⟩)) (tn vs zyR rfl kP rfl)⟩⟩
  .obtain rfl:=cE hl
   exact⟨aQ,λvs K' l' w' hv hS=>⟨eD rfl,uG (.pointer (some ⟨c.hb,12,none⟩)) (tn vs zEV rfl kP rfl)⟩⟩
  .exact absurd aH hi
  .omega
 .rcases vs with _|⟨a,_|⟨b,_|⟨c',_|⟨d',vs⟩⟩⟩⟩
  .obtain rfl:7=ci:=by simpa using hc
   rw[zhF] at ho;obtain rfl:=cE ho;obtain⟨s1,s2,s3,s4,s5,s6⟩:=hS;have zDg:=Gr lV (s:=19) aH (qL KO zAX rfl kP rfl);have a20:=Gr lV (s:=20) aH (qL KO zzB rfl kP rfl);refine CR.call' H #[.pointer (some ⟨c.hb,0,none⟩),.agg #[.string c.ev.k,.int .i64 c.ev.a,.int .i64 c.ev.b]] zhF (eD rfl) rfl (allx rfl) rfl (by simp only[uI,fO,tW];rw[zDg,a20];rfl) (s3▸zF9 H s4 mJ hW (λi g hg=>s1 _ _ (hK i g hg))) (λK2 l2 y w2 hl o5=>?_);obtain⟨z1,z2,v1,z3,z4,z5,z6⟩:=o5;have eY:=s4.at_.turned z5 (s2 aO).2 s6;refine fS y K2 l2 w2 hl ⟨wD s1 hl,λ_=>⟨?_,eY.1⟩,z1,z2,⟨v1,z3,z4,s5.trans z5,z6,eY.2⟩,eG s4.lo_ z5.size⟩;have:=aJ z3.blk 12;rw[this,<-z6.2.2.1];rfl
  .obtain rfl:8=ci:=by simpa using hc
   rw[zgY] at ho;obtain rfl:=cE ho;obtain⟨s1,s2,s3,rfl,⟨v1,z3,z4,z5,z6,z7⟩,s6⟩:=hS;have zJB:(dE oT (VV [7,8,9,12] (Gb c.hb c.gb c.v.sA c.ev) [c.y]) t0).getD 21 aA=c.y:=qL KO zhF rfl kP rfl;refine CR.op H zgY (eD rfl) aQ (λT=>⟨.slice (some ⟨w'.heap.size,0,none⟩) 1 1,(Tt.tp w' T 0).alloc (.cells #[c.y] 9),.inl ?_,?_⟩)
   .rw[El (KO.sel 8 _ zgY) lV]
    have hT:xI (dE oT (VV [7,8,9,12] (Gb c.hb c.gb c.v.sA c.ev) [c.y]) t0) (λs=>(dE oT (VV [7,8,9,12] (Gb c.hb c.gb c.v.sA c.ev) [c.y]) t0).getD s aA):=λs=>rfl;exact bs3 (s:=⟨(eN c.d.r c.ev).2.toArray⟩) hT zJB
   .have al:bM c.hb v1 w' v1 ((Tt.tp w' T 0).alloc (.cells #[c.y] 9)):=(bM.refl.tp T 0).trans (bM.below (dN (eF _ _) _))
    exact fS _ _ _ _ (wP _) ⟨s1,λ_=>⟨Ae (s2 aO).1 _,dB (s2 aO).2 _⟩,s3,⟨_,rfl,lF _ _⟩,⟨v1,(z3.tp T 0).alloc _,z4,z5.trans al,z6,z7⟩,eG s6 zeq⟩
  .obtain rfl:9=ci:=by simpa using hc
   rw[zmd] at ho;obtain rfl:=cE ho;obtain⟨s1,s2,s3,⟨g,rfl,hg⟩,⟨v1,z3,z4,z5,z6,z7⟩,s6⟩:=hS;have zBC:=Gr lV (s:=18) aH (qL KO zC7 rfl kP rfl);have zGX:=Gr lV (s:=22) aH (qL KO zgY rfl kP rfl);refine CR.op H zmd (eD rfl) aQ (λT=>?_);have a1:=z3.tp T 0;have oM:=a1.A;rw[z6.2.2.1] at oM;obtain⟨q1,q2,w5,fR,cP,nF,fB⟩:=Np (w:=Tt.tp w' T 0) (t:=26) (ty:=26) zBg Tryz.underlying26 rfl aH oM (g:=g) (cs:=#[c.y]) (news:=[c.y]) hg rfl (m:=1) rfl aH Lm (show(eN c.d.r c.ev).1.log.length+1<=1000000 by omega) aH s6;have E6:({c.d with r:=(eN c.d.r c.ev).1}:nM).r.log.length=c.d.r.log.length:=by show(eN c.d.r c.ev).1.log.length=_;rw[zxC]
   rw[E6] at fR cP fB;have zjN:(Tt.tp w' T 0).grownBy w5 v1.sA.ownBlock:=by rw[z6.2.2.1];exact nF
   obtain⟨a6,t6⟩:=a1.putA zjN (xs:=(eN c.d.r c.ev).1.log++[(eN c.d.r c.ev).2]) (by have e:Fx ((eN c.d.r c.ev).1.log++[(eN c.d.r c.ev).2])=Fx (eN c.d.r c.ev).1.log++[c.y]:=(by simp[Fx,txt,W3.y]);rw[e];exact cP) (by rw[gN,zxC];rfl) (by rw[z6.2.2.1];exact fB);have zaT:=a1.other (j:=9) (c:=12) (x:=v1.sA) rfl aH zjN (.slice (some ⟨q1,0,none⟩) (c.d.r.log.length+1) q2);have xY:=zaT.2.trans a1.blk;have eY:w5.heap[c.gb]? =some _:=(zjN.block c.gb (fP (s2 aO).2) (λe=>z7 (dZ (i:=9) (show(parts v1 c.hb)[9]? =some (some c.gb) by rw[e];rfl)))).trans (s2 aO).2;refine⟨_,w5,.inl (Y2 rfl zBC zGX fR),fS _ _ _ _ (wP _) ⟨s1,λ_=>⟨?_,eY⟩,s3,⟨q1,q2,rfl⟩,eL xY 12,_,a6,?_,z5.trans ((bM.refl.tp T 0).trans t6),?_,?_⟩⟩
   .have:=aJ xY 12
    rw[this,<-z6.2.2.1];rfl
   .refine gC.of z4 ?_ ?_ ?_ ?_ ?_<;>rfl
   .exact z6.1
   .exact z6.2.1
  .obtain rfl:12=ci:=by simpa using hc
   rw[zjc] at ho;obtain rfl:=cE ho;obtain⟨s1,s2,s3,⟨q1,q2,rfl⟩,mY,yR⟩:=hS;have zEx:(dE oT (VV [7,8,9,12] (Gb c.hb c.gb c.v.sA c.ev) [a,b,.slice (some ⟨q1,0,none⟩) (c.d.r.log.length+1) q2]) t0).getD 23 aA=.slice (some ⟨q1,0,none⟩) (c.d.r.log.length+1) q2:=qL KO zmd rfl kP rfl;have zHK:(dE oT (VV [7,8,9,12] (Gb c.hb c.gb c.v.sA c.ev) [a,b,.slice (some ⟨q1,0,none⟩) (c.d.r.log.length+1) q2]) t0).getD 25 aA=.pointer (some ⟨c.hb,12,none⟩):=qL KO zDh rfl kP rfl;refine CR.op H zjc (eD rfl) aQ (λT=>⟨aA,Tt.tp (w'.setCell ⟨c.hb,12,none⟩ (.slice (some ⟨q1,0,none⟩) (c.d.r.log.length+1) q2)) T 0,.inr ⟨?_,rfl⟩,?_⟩)
   .rw[El (KO.sel 12 _ zjc) lV]
    have hT:xI (dE oT (VV [7,8,9,12] (Gb c.hb c.gb c.v.sA c.ev) [a,b,.slice (some ⟨q1,0,none⟩) (c.d.r.log.length+1) q2]) t0) (λs=>(dE oT (VV [7,8,9,12] (Gb c.hb c.gb c.v.sA c.ev) [a,b,.slice (some ⟨q1,0,none⟩) (c.d.r.log.length+1) q2]) t0).getD s aA):=λs=>rfl;exact st3 hT zHK zEx (s2 aO).1 mY
   .exact fS aA _ _ _ (wP _) ⟨s1,λh=>absurd h aO,s3,W3.P2.tp yR T 0⟩
  .simp at hc
theorem bs8 {s:Int}(hT:xI Tf V)(zkY:V 45=.int .i64 s):(aS (bH Tf []).eval zhA).run aK w=.ok (.value (.slice (some ⟨w.heap.size,0,none⟩) 1 1)) (w.alloc (.cells #[.int .i64 s] 3)):=by
 unfold aS;go_simp
theorem st8 {q1 q2:Nat}(hT:xI Tf V)(Xm:V 49=.pointer (some ⟨hb,13,none⟩))(zbQ:V 47=.slice (some ⟨q1,0,none⟩) n q2)(hh:w.cell? ⟨hb,13,none⟩=some sA)(hf:w.frozen? ⟨hb,13,none⟩=false):(aS (bH Tf []).eval ziB).run aK (Tt.tp w T 0)=.ok .skip (Tt.tp (w.setCell ⟨hb,13,none⟩ (.slice (some ⟨q1,0,none⟩) n q2)) T 0):=by
 have zfO:(Tt.tp w T 0).cell? ⟨hb,13,none⟩=some sA:=hh;have Az:(Tt.tp w T 0).frozen? ⟨hb,13,none⟩=false:=hf;clear hh hf;unfold aS;go_simp
 try rfl
def zsY:I5 n7=true:=aQ
def zGk:Nt n7 [8,9,10,13]=true:=aQ
def zH4:n7.toList.map (·.dst)=[some 37,some 38,some 39,some 40,some 41,some 42,some 43,some 44,some 45,some 46,some 47,some 48,some 49,none]:=rfl
def zI7:n7.toList=[zoY,zxW,zs9,zth,zo9,zo8,ztv,zlR,zoZ,zhA,znX,zxu,zxm,ziB]:=rfl
def Fv (hb q:Nat)(sT:aF)(i:Nat):Value:=([.pointer (some ⟨hb,0,none⟩),.pointer (some ⟨hb,0,none⟩),.pointer (some ⟨hb,0,none⟩),.pointer (some ⟨hb,13,none⟩),sT,.pointer (some ⟨hb,0,none⟩),.int .i64 (q:Int),.int .i64 ((q:Int)+1),aA,aA,aA,.pointer (some ⟨hb,0,none⟩),.pointer (some ⟨hb,13,none⟩),aA]:List aF).getD i aA
theorem rdR8_7 {q:Nat}{sT:aF}(hT:xI Tf V)(zhQ:V 43=.int .i64 (q:Int))(zJ6:q<=100):(aS (bH Tf []).eval zlR).run aK w=.ok (.value (.int .i64 ((q:Int)+1))) w:=by
 unfold aS;go_simp;exact D9 aC aC
structure W8 where
 es:Ho
 lo:Nat
 hb:Nat
 q:Nat
 k:Nat
 ans:Int
 v0:fJ
 w0:aE
 v:fJ
 d:nM
 K0:Pr
def W8.P1 (c:W8)(w:aE):Prop:=bE w c.lo c.hb c.v c.d/\bM c.hb c.v0 c.w0 c.v w/\c.lo<=w.heap.size
def W8.P2 (c:W8)(w:aE):Prop:=∃v2,bE w c.lo c.hb v2 {c.d with tk:=c.d.tk++[c.ans]}/\gC v2 {c.d with tk:=c.d.tk++[c.ans]}/\bM c.hb c.v0 c.w0 v2 w/\v2.sL=c.v.sL/\v2.sQ=c.v.sQ
def W8.y (c:W8):Value:=.int .i64 c.ans
def W8.Rd (c:W8)(w:aE):Prop:=w.cell? ⟨c.hb,13,none⟩=some c.v.sT
def W8.St (c:W8)(vs:List aF)(l':gO)(w':aE):Prop:=match vs with
 |[]=>l'=.wk c.es.qs c.k/\c.P1 w'
 |[a]=>l'=.wk c.es.qs (c.k+1)/\a=c.y/\c.P1 w'
 |[a,b]=>l'=.wk c.es.qs (c.k+1)/\(∃g,b=.slice (some ⟨g,0,none⟩) 1 1/\w'.heap[g]? =some (.cells #[c.y] 3))/\c.P1 w'
 |[a,b,x]=>l'=.wk c.es.qs (c.k+1)/\(∃q1 q2,x=.slice (some ⟨q1,0,none⟩) (c.d.tk.length+1) q2)/\w'.frozen? ⟨c.hb,13,none⟩=false/\c.P2 (w'.setCell ⟨c.hb,13,none⟩ x)
 |_=>l'=.wk c.es.qs (c.k+1)/\c.P2 w'
def SR8 (c:W8)(vs:List aF)(K':Pr)(l':gO)(w':aE):Prop:=c.K0.le K'/\(vs.length<4->c.Rd w')/\c.St vs l' w'
variable {c:W8}
def W8.P1.tp (h:c.P1 w)(T:jW)(n:Nat):c.P1 (Tt.tp w T n):=⟨h.1.tp T n,h.2.1.tp T n,h.2.2⟩
theorem W8.P2.tp (h:c.P2 w)(T:jW)(n:Nat):c.P2 (Tt.tp w T n):=by
 obtain⟨v1,a,b,d,e⟩:=h;exact⟨v1,a.tp T n,b,d.tp T n,e⟩
theorem SR8.tp (vs:List aF)(K':Pr)(l':gO)(w':aE)(T:jW)(n:Nat)(h:SR8 c vs K' l' w'):SR8 c vs K' l' (Tt.tp w' T n):=by
 obtain⟨h1,h2,h3⟩:=h;refine⟨h1,h2,?_⟩;rcases vs with _|⟨a,_|⟨b,_|⟨x,_|⟨y,vs⟩⟩⟩⟩
 .exact⟨h3.1,W8.P1.tp h3.2 T n⟩
 .exact⟨h3.1,h3.2.1,W8.P1.tp h3.2.2 T n⟩
 .exact⟨h3.1,h3.2.1,W8.P1.tp h3.2.2 T n⟩
 .exact⟨h3.1,h3.2.1,h3.2.2.1,W8.P2.tp (w:=w'.setCell _ _) h3.2.2.2 T n⟩
 .exact⟨h3.1,W8.P2.tp h3.2 T n⟩
theorem cw_R8 (H:c.es.d.Ok)(zyz:gC c.v c.d)(hW:c.es.W[c.k]? =some (.ask c.q 0 0 c.ans))(hq:c.q<c.d.qn.length)(yS:c.q<=100)(hK:∀(i g:Nat),c.d.qn[i]? =some g->c.K0 g (qa c.es.qs i))(zj4:c.d.tk.length<=1000)(hz:t0.size=52)(uK:t0.getD 0 aA=.pointer (some ⟨c.hb,0,none⟩))(zb1:t0.getD 6 aA=.int .i64 (c.q:Int))
 (hk:∀vs K' l' w',vs.length=4->SR8 c vs K' l' w'->Φ .normal ⟨[],K',l',dE n7 (VV [8,9,10,13] (Fv c.hb c.q c.v.sT) vs) t0,w'⟩) (h0:SR8 c [] K l w):CW c.es.d B 58 rWO8 ⟨[],K,l,t0,w⟩ Φ:=by
 rw[rWO8_eq];have KO:=Uv zsY;refine CW.drawn H vK.mixed [8,9,10,13] (Fv c.hb c.q c.v.sT) (SR8 c) zsY zGk Mk (λvs K l w T e h=>SR8.tp vs K l w T e h) (λi o ho hi=>?_) (λvs ci o K' l' w' hc ho hS t rest lV fS=>?_) hk h0
 .have hl:n7.toList[i]? =some o:=by rw[Aw];exact ho
  rw[zI7] at hl;have aN:i<14:=by have:=(kD.1 hl).1;simpa using this
  have tn:∀(vs:List aF) {j:Nat} {oj:aZ} {s:Tmp} {v:aF},n7[j]? =some oj->oj.dst=some s->s<t0.size->VV [8,9,10,13] (Fv c.hb c.q c.v.sT) vs j=v->(dE n7 (VV [8,9,10,13] (Fv c.hb c.q c.v.sT) vs) t0).getD s aA=v:=λvs _ _ _ _ a b c d=>qL KO a b c d;have tq:∀(vs:List aF) {s:Tmp},Hg n7 s=false->(dE n7 (VV [8,9,10,13] (Fv c.hb c.q c.v.sT) vs) t0).getD s aA=t0.getD s undef:=λvs _ a=>zgC KO a;rcases i with _|_|_|_|_|_|_|_|_|_|_|_|_|_|i
  .obtain rfl:=cE hl
   exact⟨aQ,λvs K' l' w' hv hS=>⟨eD rfl,uG (.pointer (some ⟨c.hb,0,none⟩)) ((tq vs aQ).trans uK)⟩⟩
  .obtain rfl:=cE hl
   exact⟨aQ,λvs K' l' w' hv hS=>⟨eD rfl,uG (.pointer (some ⟨c.hb,0,none⟩)) ((tq vs aQ).trans uK)⟩⟩
  .obtain rfl:=cE hl
   exact⟨aQ,λvs K' l' w' hv hS=>⟨eD rfl,uG (.pointer (some ⟨c.hb,0,none⟩)) (tn vs zDD rfl kP rfl)⟩⟩
  .obtain rfl:=cE hl
   exact⟨aQ,λvs K' l' w' hv hS=>⟨eD rfl,uG (.pointer (some ⟨c.hb,13,none⟩)) (tn vs zG4 rfl kP rfl)⟩⟩
  .obtain rfl:=cE hl
   exact⟨aQ,λvs K' l' w' hv hS=>⟨eD rfl,rd2 (c.v.sT) (tn vs zAR rfl kP rfl) (show w'.cell? ⟨c.hb,13,none⟩=some c.v.sT from(hS.2.1 hv))⟩⟩
  .obtain rfl:=cE hl
   exact⟨aQ,λvs K' l' w' hv hS=>⟨eD rfl,uG (.pointer (some ⟨c.hb,0,none⟩)) ((tq vs aQ).trans uK)⟩⟩
  .obtain rfl:=cE hl
   exact⟨aQ,λvs K' l' w' hv hS=>⟨eD rfl,uG (.int .i64 (c.q:Int)) ((tq vs aQ).trans zb1)⟩⟩
  .obtain rfl:=cE hl
   exact⟨aQ,λvs K' l' w' hv hS=>⟨eD rfl,rdR8_7 (q:=c.q) (sT:=c.v.sT) (V:=λs=>(dE n7 (VV [8,9,10,13] (Fv c.hb c.q c.v.sT) vs) t0).getD s aA) (λs=>rfl) (tn vs zIg rfl kP rfl) yS⟩⟩
  .exact absurd aH hi
  .exact absurd aH hi
  .exact absurd aH hi
  .obtain rfl:=cE hl
   exact⟨aQ,λvs K' l' w' hv hS=>⟨eD rfl,uG (.pointer (some ⟨c.hb,0,none⟩)) (tn vs zF8 rfl kP rfl)⟩⟩
  .obtain rfl:=cE hl
   exact⟨aQ,λvs K' l' w' hv hS=>⟨eD rfl,uG (.pointer (some ⟨c.hb,13,none⟩)) (tn vs zFi rfl kP rfl)⟩⟩
  .exact absurd aH hi
  .omega
 .rcases vs with _|⟨a,_|⟨b,_|⟨c',_|⟨d',vs⟩⟩⟩⟩
  .obtain rfl:8=ci:=by simpa using hc
   rw[znN] at ho;obtain rfl:=cE ho;obtain⟨s1,s2,s3,s4⟩:=hS;have zFe:=Gr lV (s:=42) aH (qL KO zIK rfl kP rfl);have zHy:=Gr lV (s:=44) aH (qL KO zEA rfl kP rfl);refine CR.call' H #[.pointer (some ⟨c.hb,0,none⟩),.int .i64 ((c.q:Int)+1),.int .i64 0,.int .i64 0] znN (eD rfl) rfl (allx rfl) rfl (by simp only[uI,fO,tW];rw[zFe,zHy];rfl) (s3▸zc7 H s4.1 hW hq yS (λi g hg=>s1 _ _ (hK i g hg))) (λK2 l2 y w2 hl o5=>?_);obtain⟨z1,rfl,z3⟩:=o5;subst z3;exact fS _ K2 l2 _ hl ⟨wD s1 hl,λ_=>Ae (s2 aO) _,z1,rfl,s4.1.alloc _,s4.2.1.trans (bM.below (dN (eF _ _) _)),eG s4.2.2 (by show w'.heap.size<=(w'.alloc oY).heap.size;rw[rE];exact Rt _)⟩
  .obtain rfl:9=ci:=by simpa using hc
   rw[zd8] at ho;obtain rfl:=cE ho;obtain⟨s1,s2,s3,rfl,z3,z5,s6⟩:=hS;have zGw:(dE n7 (VV [8,9,10,13] (Fv c.hb c.q c.v.sT) [c.y]) t0).getD 45 aA=c.y:=qL KO znN rfl kP rfl;refine CR.op H zd8 (eD rfl) aQ (λT=>⟨.slice (some ⟨w'.heap.size,0,none⟩) 1 1,(Tt.tp w' T 0).alloc (.cells #[c.y] 3),.inl ?_,?_⟩)
   .rw[El (KO.sel 9 _ zd8) lV]
    have hT:xI (dE n7 (VV [8,9,10,13] (Fv c.hb c.q c.v.sT) [c.y]) t0) (λs=>(dE n7 (VV [8,9,10,13] (Fv c.hb c.q c.v.sT) [c.y]) t0).getD s aA):=λs=>rfl;exact bs8 hT zGw
   .have al:bM c.hb c.v w' c.v ((Tt.tp w' T 0).alloc (.cells #[c.y] 3)):=(bM.refl.tp T 0).trans (bM.below (dN (eF _ _) _))
    exact fS _ _ _ _ (wP _) ⟨s1,λ_=>Ae (s2 aO) _,s3,⟨_,rfl,lF _ _⟩,(z3.tp T 0).alloc _,z5.trans al,eG s6 zeq⟩
  .obtain rfl:10=ci:=by simpa using hc
   rw[zns] at ho;obtain rfl:=cE ho;obtain⟨s1,s2,s3,⟨g,rfl,hg⟩,z3,z5,s6⟩:=hS;have zDi:=Gr lV (s:=41) aH (qL KO zHP rfl kP rfl);have a46:=Gr lV (s:=46) aH (qL KO zd8 rfl kP rfl);refine CR.op H zns (eD rfl) aQ (λT=>?_);have a1:=z3.tp T 0;obtain⟨q1,q2,w5,fR,cP,nF,fB⟩:=Np (w:=Tt.tp w' T 0) (t:=38) (ty:=38) Xq Y4 rfl aH a1.T (g:=g) (cs:=#[c.y]) (news:=[c.y]) hg rfl (m:=1) rfl aH Lm aC aH s6;obtain⟨a6,t6⟩:=a1.putT nF (xs:=c.d.tk++[c.ans]) (by have e:eJ (c.d.tk++[c.ans])=eJ c.d.tk++[c.y]:=(by simp[eJ,W8.y]);rw[e];exact cP) aO fB;have xY:=(a1.other (j:=10) (c:=13) (x:=c.v.sT) rfl aH nF (.slice (some ⟨q1,0,none⟩) (c.d.tk.length+1) q2)).2.trans a1.blk;refine⟨_,w5,.inl (Y2 rfl zDi a46 fR),fS _ _ _ _ (wP _) ⟨s1,λ_=>aJ xY 13,s3,⟨q1,q2,rfl⟩,eL xY 13,_,a6,?_,z5.trans ((bM.refl.tp T 0).trans t6),rfl,rfl⟩⟩;refine gC.of zyz ?_ ?_ ?_ ?_ ?_<;>rfl
  .obtain rfl:13=ci:=by simpa using hc
   rw[znO] at ho;obtain rfl:=cE ho;obtain⟨s1,s2,s3,⟨q1,q2,rfl⟩,mY,yR⟩:=hS;have zDq:(dE n7 (VV [8,9,10,13] (Fv c.hb c.q c.v.sT) [a,b,.slice (some ⟨q1,0,none⟩) (c.d.tk.length+1) q2]) t0).getD 47 aA=.slice (some ⟨q1,0,none⟩) (c.d.tk.length+1) q2:=qL KO zns rfl kP rfl;have zJD:(dE n7 (VV [8,9,10,13] (Fv c.hb c.q c.v.sT) [a,b,.slice (some ⟨q1,0,none⟩) (c.d.tk.length+1) q2]) t0).getD 49 aA=.pointer (some ⟨c.hb,13,none⟩):=qL KO zGg rfl kP rfl;refine CR.op H znO (eD rfl) aQ (λT=>⟨aA,Tt.tp (w'.setCell ⟨c.hb,13,none⟩ (.slice (some ⟨q1,0,none⟩) (c.d.tk.length+1) q2)) T 0,.inr ⟨?_,rfl⟩,?_⟩)
   .rw[El (KO.sel 13 _ znO) lV]
    have hT:xI (dE n7 (VV [8,9,10,13] (Fv c.hb c.q c.v.sT) [a,b,.slice (some ⟨q1,0,none⟩) (c.d.tk.length+1) q2]) t0) (λs=>(dE n7 (VV [8,9,10,13] (Fv c.hb c.q c.v.sT) [a,b,.slice (some ⟨q1,0,none⟩) (c.d.tk.length+1) q2]) t0).getD s aA):=λs=>rfl;exact st8 hT zJD zDq (s2 aO) mY
   .exact fS aA _ _ _ (wP _) ⟨s1,λh=>absurd h aO,s3,W8.P2.tp yR T 0⟩
  .simp at hc
def Ga (b:bX):Prop:=∀x∈b.recs,1<=x.l/\x.l<=b.o.ln
theorem Ga.mod (h:Ga b)(hf:∀x,(f x).l=x.l):∀x∈b.recs.modify i f,1<=x.l/\x.l<=b.o.ln:=λx hx=>by
 obtain⟨y,hy,rfl|rfl⟩:=Uo hx
 .exact h _ hy
 .rw[hf];exact h _ hy
theorem Ga.tires:∀(xs:List bJ) (b:bX) (t:List UInt8),Ga b->Ga (xs.foldl l7 (b,t)).1
 |[],b,t,h=>h
 |x::xs,b,t,h=>by
  rw[List.foldl_cons];obtain⟨e1,_,_,_,_,_,e7⟩:=zkC b t x;have h1:Ga (l7 (b,t) x).1:=λz hz=>by
   obtain⟨y,hy,_,e⟩:=e7 z hz;rw[e,e1];exact h y hy
  obtain⟨b',t',e⟩:∃b' t',l7 (b,t) x=(b',t'):=⟨_,_,rfl⟩;rw[e] at h1⊢;exact Ga.tires xs b' t' h1
theorem Ga.step (h:Ga b)(e:dD):Ga (eN b e).1:=by
 have more:∀{l:Int} {ls:List Int} {c o f hh tt:Int} {s:ByteArray},oJ b.o b.recs=l::ls->∀x∈b.recs++[(⟨c,l,o,f,hh,tt,s⟩:bR)],1<=x.l/\x.l<=b.o.ln:=λhf x hx=>by
  rcases Ee.1 hx with hx|hx
  .exact h x hx
  .obtain rfl:=sZ.1 hx
   exact zeI Vp
 unfold eN;split
 .unfold qB
  split
  .exact h
  .split
   .exact h
   .rename_i hf;exact more hf
 .split
  .unfold nO
   split
   .exact h
   .split
    .exact h
    .split
     .exact h
     .exact h.mod λx=>rfl
  .split
   .unfold l6
    split
    .exact h
    .split
     .exact h
     .split
      .exact h
      .rename_i hf;exact more hf
   .split
    .unfold mB
     split
     .split
      .exact h.mod λx=>rfl
      .exact h.mod λx=>rfl
     .split
      .exact h
      .exact h
    .exact Ga.tires _ _ _ h
variable {o:jG}{es:List dD}
theorem zr2 :∀k,k<=es.length->Ga (mH o es k)
 |0,_=>λx hx=>by cases hx
 |k+1,hk=>by
  rw[Wj (lX aC)];exact(zr2 k aC).step _
variable {ln qn:List Nat}
theorem zq8 (h:jP o es=true)(hk:k<=es.length){tk:List Int}(h1:ln.Nodup)(h2:(ln.length:Int)=o.ln)(h3:(qn.length:Int)=o.op):yM ⟨mH o es k,ln,qn,tk⟩:=by
 obtain⟨a1,a2,a3⟩:=P7 h k hk;have hop:o.op=(o.op.toNat:Int):=by
  have:=(Ad a1.off).2.2.1;rw[a3] at this;omega
 obtain⟨_,_,b3⟩:=zxy h hop k hk;have hl:es.length<=60:=by unfold jP at h;simp at h;exact h.1.2
 have hg:=a1.good a2 aC;exact⟨zuf h k hk,a1,b3,h1,by show(ln.length:Int)=(mH o es k).o.ln;rw[a3];exact h2,zr2 k hk,by show(qn.length:Int)=(mH o es k).o.op;rw[a3];exact h3,hg.1⟩
theorem zzV (hk:k<=es.length):∃B,rZ o es es.length=rZ o es k++B:=by
 have key:∀n,k<=n->∃B,rZ o es n=rZ o es k++B:=λn hn=>by
  induction n with
  |zero=>
   obtain rfl:k=0:=aC;exact⟨[],aO⟩
  |succ n ih=>
   rcases nC k (n+1) with h|h
   .obtain⟨B,e⟩:=ih aC
    exact⟨B++(match es[n]? with|some e=>pG (mH o es n) e|none=>[]),by show rZ o es n++_=_;rw[e,Hs];rfl⟩
   .obtain rfl:k=n+1:=aC
    exact⟨[],aO⟩
 exact key _ hk
theorem asks_at (he:es[k]? =some ev):B7 (Bo o es) (rZ o es k).length (pG (mH o es k) ev):=λj x hj=>by
 have hk:=(kD.1 he).1;obtain⟨B,e⟩:=zzV (o:=o) (es:=es) (k:=k+1) hk;have e2:rZ o es (k+1)=rZ o es k++pG (mH o es k) ev:=by show rZ o es k++_=_;rw[he]
 have hl:=(kD.1 hj).1;unfold Bo;rw[e,e2,Hs,Hs,At aC,Ab aC,zqe];exact hj
theorem ziU (b:bX):∀n,(yN b n).length=2*n
 |0=>rfl
 |n+1=>by show(yN b n++_).length=_;rw[gN,ziU b n];simp;omega
theorem zrn (b:bX):∀(n i:Nat),i<n->(yN b n)[2*i]? =some (.ask i 0 0 (dA b.recs ((i:Int)+1)))/\(yN b n)[2*i+1]? =some (.shut i)
 |0,i,h=>by omega
 |n+1,i,h=>by
  have hl:=ziU b n;show(yN b n++_)[2*i]? =_/\(yN b n++_)[2*i+1]? =_;rcases nC i n with hi|hi
  .rw[Ab aC,Ab aC]
   exact zrn b n i hi
  .obtain rfl:i=n:=aC
   rw[At aC,At aC,hl,Og,show 2*i+1-2*i=1 by omega];exact⟨rfl,rfl⟩
def U1 (b:bX):Nat->List Int
 |0=>[]
 |n+1=>U1 b n++[dA b.recs ((n:Int)+1)]
theorem zlX (b:bX):∀n,(U1 b n).length=n
 |0=>rfl
 |n+1=>by show(U1 b n++_).length=_;rw[gN,zlX b n];rfl
theorem zJI (h:jP o es=true)(he:es[k]? =some ev):(eN (mH o es k) ev).1.log=(mH o es k).log/\(mH o es k).log.length<=1000/\sO (mH o es k).o.op ev=true:=by
 have hk:=(kD.1 he).1;obtain⟨a1,a2,a3⟩:=P7 h k aC;have bU:=h;unfold jP at bU;simp only[fU,tY,decide_eq_true_eq] at bU;have mJ:sO (mH o es k).o.op ev=true:=by rw[a3];exact bU.2 ev (dZ he)
 have:=a2.nl;exact⟨(a1.step a2 mJ aC).2.2.2,aC,mJ⟩
def Ac (o:jG)(es:List dD)(ln qn:List Nat)(k:Nat):nM:=⟨mH o es k,ln,qn,[]⟩
def uO (o:jG)(es:List dD)(ln qn:List Nat)(i:Nat):nM:=⟨Eu o es,ln,qn,U1 (Eu o es) i⟩
structure zcc (e:Ho)(o:jG)(es:List dD)(ln qn:List Nat)(lo hb:Nat)(v:fJ)(w:aE)(K:Pr)(A:Option bL)(n c:Nat):Prop where
 ok:jP o es=true
 W:e.W=Bo o es
 at_:bE w lo hb v (Ac o es ln qn 0)
 mr:gC v (Ac o es ln qn 0)
 nd:ln.Nodup
 nl:(ln.length:Int)=o.ln
 nq:(qn.length:Int)=o.op
 qs:e.qs.length=qn.length
 lo_:lo<=w.heap.size
 tab:Af lo w
 ev:b7 w 0 lo 3 A n c (lN es)
 K:∀(i g:Nat),qn[i]? =some g->K g (qa e.qs i)
theorem b7.lowT {s c:Nat}{xs:List aF}(h:b7 w 0 lo s A n c xs)(a:bE w lo hb v d)(dW:lo<=w.heap.size)(t:bM hb v w v' w'):b7 w' 0 lo s A n c xs:=by
 refine⟨h.len,h.le,h.cap,λhn=>?_⟩;obtain⟨b,off,e,h1,h2,h3,h4⟩:=h.at_ hn;have hz:=t.size;exact⟨b,off,e,h1,h2,aC,λj u hj=>(aE.cell?_of_block (t.block b h3 (λx=>by have:=(a.lt b x).1;omega))).trans (h4 j u hj)⟩
theorem cf_work (H:e.d.Ok){c:Nat}(h:zcc e o es ln qn lo hb v w K A n c):
 CF e.d 58 #[.pointer (some ⟨hb,0,none⟩),.slice A n c] K (.wk e.qs 0) w (λK' l' y w'=>l'=.wk e.qs e.W.length/\∃v',bE w' lo hb v' (uO o es ln qn qn.length)/\gC v' (uO o es ln qn qn.length)/\bM hb v w v' w'):=by
 refine CF.of 52 ziz (.inl rfl) ?_;have HP:=aD h;have Ck:es.length=n:=h.ev.eventsLen;have oX:es.length<=60:=by have:=h.ok;unfold jP at this;simp at this;exact this.1.2
 have zDE:n<=60:=aC;have Ox:=aD Ck;clear Ck oX h;refine CW.sq H ?_;refine CW.sq H ?_;refine CW.pQ H Qr (λzFb Q HQ=>?_);go_wp2;refine HQ.o _ _ ?_;clear HQ;refine CW.tape (s:=⟨[],K,.wk e.qs 0,_,w⟩) ?_ zFb 0;refine CW.block H ?_;refine CW.loop H (λnn s=>∃(k:Nat) (wz:aE) (Kz:Pr) (vz:fJ) (u2 u3 u4 u5 u6 u7 gJ gI gH gG gM u16 iK kL kS jR iO iD iE gZ iH iC iJ iF iB jM jO u32 iG hY iN iM kT kQ iI gY iL iQ iX jD iZ iV iU iR iY iW jB:aF),s=⟨[],Kz,.wk e.qs (rZ o es k).length,#[.pointer (some ⟨hb,0,none⟩),.slice A n c,u2,u3,u4,u5,u6,u7,.slice A n c,.int .i64 (n:Int),.int .i64 (k:Int),gJ,gI,gH,gG,gM,u16,iK,kL,kS,jR,iO,iD,iE,gZ,iH,iC,iJ,iF,iB,jM,jO,u32,iG,hY,iN,iM,kT,kQ,iI,gY,iL,iQ,iX,jD,iZ,iV,iU,iR,iY,iW,jB],wz⟩/\k<=n/\nn=n-k/\K.le Kz/\bE wz lo hb vz (Ac o es ln qn k)/\gC vz (Ac o es ln qn k)/\bM hb v w vz wz/\vz.sL=v.sL/\vz.sQ=v.sQ) (λnn s hs=>?_) (n:=n) ?_
 rotate_left
 .exact⟨0,w,K,v,_,_,_,_,_,_,_,_,_,_,_,_,_,_,_,_,_,_,_,_,_,_,_,_,_,_,_,_,_,_,_,_,_,_,_,_,_,_,_,_,_,_,_,_,_,_,_,rfl,jT _,rfl,wP _,HP.o.at_,HP.o.mr,bM.refl,rfl,rfl⟩
 .obtain⟨k,wz,Kz,vz,u2,u3,u4,u5,u6,u7,gJ,gI,gH,gG,gM,u16,iK,kL,kS,jR,iO,iD,iE,gZ,iH,iC,iJ,iF,iB,jM,jO,u32,iG,hY,iN,iM,kT,kQ,iI,gY,iL,iQ,iX,jD,iZ,iV,iU,iR,iY,iW,jB,rfl,sX,Cm,ziQ,az,mz,tz,zxR,zpS⟩:=hs
  have A1:=aD az;have M1:=aD mz;have T1:=aD tz;have EZ:=aD (And.intro zxR zpS);clear az mz tz zxR zpS;refine CW.sq H ?_;refine CW.pQ H Qr (λzdG Q HQ=>?_);by_cases aN:k<n
  .have Gm:(k:Int)<(n:Int):=aC
   go_wp2;refine HQ.o _ _ ?_;clear HQ Gm;refine CW.tape (s:=⟨[],Kz,.wk e.qs (rZ o es k).length,_,wz⟩) ?_ zdG 0;refine CW.sq H ?_;refine CW.cd H true ?_;refine CW.sk H ?_;dsimp only;have Gl:=HP.o.ev.lowT HP.o.at_ HP.o.lo_ T1.o;obtain⟨be,oe,ev,hA,zGu,zf7,ziI,Em,e0,e1,e2⟩:=Gl.eventsAt aN;subst hA;obtain⟨ztd,zpO,st3⟩:=zJI HP.o.ok Em;have Nc:=aD Em;have uJ:=aD (And.intro ztd (And.intro zpO st3));clear Em ztd zpO st3 Gl;have i0:(0:Int)<=(k:Int):=aC;have i1:(k:Int)<(n:Int):=aC;refine CW.sq H ?_;refine CW.block H ?_;refine CW.sq H ?_;refine CW.pQ H Qr (λPz Q HQ=>?_);obtain⟨w2,fZ⟩:=aU (Tt.tp wz Pz 0);have A2:=aD (show bE w2 lo hb vz (Ac o es ln qn k) by rw[fZ];exact A1.o.tp Pz 0);have T2:=aD (show bM hb v w vz w2 by rw[fZ];exact T1.o.tp Pz 0);have zhn:w2.cell? ⟨be,oe+k*3,none⟩=some (.string ev.k):=by rw[fZ];exact e0
   have Ez:w2.cell? ⟨be,oe+k*3+1,none⟩=some (.int .i64 ev.a):=by rw[fZ];exact e1
   have zii:w2.cell? ⟨be,oe+k*3+2,none⟩=some (.int .i64 ev.b):=by rw[fZ];exact e2
   try dsimp only
   rw[<-fZ];clear fZ A1 T1 e0 e1 e2;go_wp2;refine HQ.o _ _ ?_;clear HQ zhn Ez zii;obtain⟨gb,eY⟩:=aU w2.heap.size;obtain⟨w3,iT⟩:=aU (w2.alloc (.cells #[.string ev.k,.int .i64 ev.a,.int .i64 ev.b] 54));have A3:=aD (show bE w3 lo hb vz (Ac o es ln qn k) by rw[iT];exact A2.o.alloc _);have T3:=aD (show bM hb v w vz w3 by rw[iT];exact T2.o.trans (bM.below (dN (eF _ _) _)));have vG:=aD (show w3.heap[gb]? =some (.cells #[.string ev.k,.int .i64 ev.a,.int .i64 ev.b] 54) by rw[iT,eY];exact lF _ _);have NP:=aD (show some gb∉parts vz hb from λhp=>by have:=(A2.o.lt _ hp).2;omega);rw[<-eY,<-iT];clear iT eY A2 T2;have ztA:lo<=w3.heap.size:=eG HP.o.lo_ T3.o.size;have zuO:k<=es.length:=by have:=Ox.o;omega
   obtain⟨yY,zdr,zCG⟩:=P7 HP.o.ok k zuO;have pre:EvPre lo hb vz (Ac o es ln qn k) w3:=⟨A3.o,M1.o,zq8 HP.o.ok zuO HP.o.nd HP.o.nl HP.o.nq,ztA,HP.o.tab.turn HP.o.at_ HP.o.lo_ T3.o,by have:=zdr.clk;show(mH o es k).clk<=_;omega,by have h1:=zdr.nw;have h2:=zdr.nb;show(mH o es k).back.length+(mH o es k).wait.length<=_;omega⟩;have zxn:w3.cell? ⟨hb,12,none⟩=some vz.sA:=aJ A3.o.blk 12;have zFo:=aD pre;have RD:=aD zxn;clear pre zxn yY zdr zCG;refine cw_R3 (c:=⟨e,lo,hb,gb,(rZ o es k).length,v,w,vz,Ac o es ln qn k,ev,Kz⟩) H uJ.o.2.2 (by show B7 e.W _ _;rw[HP.o.W];exact asks_at Nc.o) (λi g hg=>ziQ _ _ (HP.o.K i g hg)) (by show(eN (mH o es k) ev).1.log.length<=1000;rw[uJ.o.1];exact uJ.o.2.1) uJ.o.1 rfl rfl rfl (λvs K' l' w' tT hS=>?_) ⟨wP _,λ_=>⟨RD.o,vG.o⟩,rfl,zFo.o,T3.o,NP.o⟩;rw[Go.Mt.Al,zAC];simp only[Go.Mt.wL,dU,dV];obtain⟨s1,s2,s3⟩:=hS;have s4:l'=.wk e.qs ((rZ o es k).length+(pG (mH o es k) ev).length)/\W3.P2 ⟨e,lo,hb,gb,(rZ o es k).length,v,w,vz,Ac o es ln qn k,ev,Kz⟩ w':=by
    rcases vs with _|⟨a,_|⟨b,_|⟨x,_|⟨y,vs⟩⟩⟩⟩
    .cases tT
    .cases tT
    .cases tT
    .cases tT
    .exact s3
   obtain⟨rfl,v2,a2,m2,t2,q1,q2⟩:=s4;have e3:(rZ o es (k+1)).length=(rZ o es k).length+(pG (mH o es k) ev).length:=by show(rZ o es k++_).length=_;rw[Nc.o,gN]
   have e4:Ac o es ln qn (k+1)={Ac o es ln qn k with r:=Ed (eN (mH o es k) ev)}:=by unfold Ac;rw[Wj Nc.o]
   have A4:=aD (show bE w' lo hb v2 (Ac o es ln qn (k+1)) by rw[e4];exact a2);have M4:=aD (show gC v2 (Ac o es ln qn (k+1)) by rw[e4];exact m2);have T4:=aD t2;have Q4:=aD (And.intro (q1.trans EZ.o.1) (q2.trans EZ.o.2));have rV:K.le K':=wD ziQ s1;rw[<-e3];clear a2 m2 t2 q1 q2 e3 e4 s1 s2 s3 tT;refine CW.pQ H Qr (λzpJ Q HQ=>?_);go_wp2;refine HQ.o _ _ ?_;clear HQ;exact⟨n-(k+1),aC,k+1,_,K',v2,_,_,_,_,_,_,_,_,_,_,_,_,_,_,_,_,_,_,_,_,_,_,_,_,_,_,_,_,_,_,_,_,_,_,_,_,_,_,_,_,_,_,_,_,_,_,_,rfl,aC,rfl,rV,A4.o.tp zpJ 0,M4.o,T4.o.tp zpJ 0,Q4.o.1,Q4.o.2⟩
  .have Gm:¬(k:Int)<(n:Int):=aC
   have lS:=aD (show k=es.length by have:=Ox.o;omega);go_wp2;refine HQ.o _ _ ?_;clear HQ Gm;refine CW.tape (s:=⟨[],Kz,.wk e.qs (rZ o es k).length,_,wz⟩) ?_ zdG 0;refine CW.sq H ?_;refine CW.cd H false ?_;refine CW.exit H aO ?_;dsimp only;rw[if_pos rfl];have y6:=lS.o;subst y6;have Sv:Ac o es ln qn es.length=uO o es ln qn 0:=by unfold Ac uO;rw[zg1];rfl
   rw[Sv] at A1 M1;obtain⟨AQ,cQ,zbt,zE8⟩:=Gh A1.o.Q aH;obtain⟨nq,zca⟩:=aU qn.length;have Tg:=aD zca;have zpq:=aD (show vz.sQ=.slice AQ nq cQ by rw[zca];exact zbt);have Wo:=(Ad (zq8 (tk:=[]) HP.o.ok (jT _) HP.o.nd HP.o.nl HP.o.nq).R.off).2.2.2.1;have zKT:nq<=4:=by
    have h1:=HP.o.nq;have h2:(mH o es 0).o.op<=4:=Wo;have h3:(mH o es 0).o=o:=rfl;rw[h3] at h2;omega
   clear zbt zE8 zca Sv Wo aN Cm;refine CW.sq H ?_;refine CW.pQ H Qr (λU8 Q HQ=>?_);obtain⟨w5,n8⟩:=aU (Tt.tp wz U8 0);have A5:=aD (show bE w5 lo hb vz (uO o es ln qn 0) by rw[n8];exact A1.o.tp U8 0);have T5:=aD (show bM hb v w vz w5 by rw[n8];exact T1.o.tp U8 0)
   try dsimp only
   rw[<-n8];clear n8 A1 T1;have k6:w5.cell? ⟨hb,6,none⟩=some (.slice AQ nq cQ):=by
    have:=aJ A5.o.blk 6;rw[this,<-zpq.o];rfl
   go_wp2;refine HQ.o _ _ ?_;clear HQ k6;obtain⟨k0,jC⟩:=aU ((rZ o es es.length).length);have Ce:=aD jC;rw[<-jC];clear jC;refine CW.block H ?_;refine CW.loop H (λnn s=>∃(k:Nat) (wy:aE) (Ky:Pr) (vy:fJ) (u1 u2 u3 u4 u5 u6 u7 u8 u9 gU gJ gI gH gG gM u16 iK kL kS jR iO iD iE gZ iH iC iJ iF iB iG hY iN iM kT kQ iI gY iL iQ iX jD iZ iV iU iR iY iW jB:aF),s=⟨[],Ky,.wk e.qs (k0+2*k),#[.pointer (some ⟨hb,0,none⟩),u1,u2,u3,u4,u5,u6,u7,u8,u9,gU,gJ,gI,gH,gG,gM,u16,iK,kL,kS,jR,iO,iD,iE,gZ,iH,iC,iJ,iF,iB,.slice AQ nq cQ,.int .i64 (nq:Int),.int .i64 (k:Int),iG,hY,iN,iM,kT,kQ,iI,gY,iL,iQ,iX,jD,iZ,iV,iU,iR,iY,iW,jB],wy⟩/\k<=nq/\nn=nq-k/\K.le Ky/\bE wy lo hb vy (uO o es ln qn k)/\gC vy (uO o es ln qn k)/\bM hb v w vy wy/\vy.sQ=vz.sQ) (λnn s hs=>?_) (n:=nq) ?_
   rotate_left
   .exact⟨0,w5,Kz,vz,_,_,_,_,_,_,_,_,_,_,_,_,_,_,_,_,_,_,_,_,_,_,_,_,_,_,_,_,_,_,_,_,_,_,_,_,_,_,_,_,_,_,_,_,_,_,_,_,rfl,jT _,rfl,ziQ,A5.o,M1.o,T5.o,rfl⟩
   .obtain⟨k,wy,Ky,vy,u1,u2,u3,u4,u5,u6,u7,u8,u9,gU,gJ,gI,gH,gG,gM,u16,iK,kL,kS,jR,iO,iD,iE,gZ,iH,iC,iJ,iF,iB,iG,hY,iN,iM,kT,kQ,iI,gY,iL,iQ,iX,jD,iZ,iV,iU,iR,iY,iW,jB,rfl,zLf,zKb,zvg,ay,my,ty,ey⟩:=hs
    have A6:=aD ay;have M6:=aD my;have T6:=aD ty;have EY:=aD ey;clear ay my ty ey A5 T5 M1;refine CW.sq H ?_;refine CW.pQ H Qr (λza8 Q HQ=>?_);by_cases aN:k<nq
    .have Gm:(k:Int)<(nq:Int):=aC
     go_wp2;refine HQ.o _ _ ?_;clear HQ;refine CW.sq H ?_;refine CW.cd H true ?_;refine CW.sk H ?_;dsimp only;have Qw:e.W[k0+2*k]? =some (.ask k 0 0 (dA (Eu o es).recs ((k:Int)+1)))/\e.W[k0+2*k+1]? =some (.shut k):=by
      have zmc:o.op.toNat=nq:=by have:=HP.o.nq;have:=Tg.o;omega
      obtain⟨x1,x2⟩:=zrn (Eu o es) nq k aN;rw[HP.o.W];unfold Bo;rw[zmc,At (by have:=Ce.o;omega),At (by have:=Ce.o;omega),<-Ce.o,zqe,show k0+2*k+1-k0=2*k+1 by omega];exact⟨x1,x2⟩
     refine CW.sq H ?_;refine CW.block H ?_;refine CW.sq H ?_;refine CW.pQ H Qr (λZ4 Q HQ=>?_);obtain⟨w7,rF⟩:=aU (Tt.tp (Tt.tp wy za8 0) Z4 0);have A7:=aD (show bE w7 lo hb vy (uO o es ln qn k) by rw[rF];exact(A6.o.tp za8 0).tp Z4 0);have T7:=aD (show bM hb v w vy w7 by rw[rF];exact(T6.o.tp za8 0).tp Z4 0)
     try dsimp only
     rw[<-rF];clear rF A6 T6;have oM:=A7.o.Q;rw[EY.o,zpq.o] at oM;have oM:w7.ownsRow lo 95 1 (.slice AQ nq cQ) nq (I2 qn):=by rw[Tg.o];rw[Tg.o] at oM;exact oM
     obtain⟨bq,oq,gq,hA,Bd,zCm⟩:=zho (zZ oM aH) aN;subst hA;have zHX:=aD Bd;have i0:(0:Int)<=(k:Int):=aC;clear oM Bd;go_wp2;refine HQ.o _ _ ?_;clear HQ zCm;have zvE:w7.cell? ⟨hb,13,none⟩=some vy.sT:=aJ A7.o.blk 13;have zDM:lo<=w7.heap.size:=eG HP.o.lo_ T7.o.size;have zoT:k<qn.length:=by have:=Tg.o;omega
     refine CW.sq H ?_;refine cw_R8 (c:=⟨e,lo,hb,k,k0+2*k,dA (Eu o es).recs ((k:Int)+1),v,w,vy,uO o es ln qn k,Ky⟩) H M6.o Qw.1 zoT (by show k<=100;omega) (λi g hg=>zvg _ _ (HP.o.K i g hg)) (by show(U1 (Eu o es) k).length<=1000;rw[zlX];omega) rfl rfl rfl (λvs K' l' w' tT hS=>?_) ⟨wP _,λ_=>zvE,rfl,A7.o,T7.o,zDM⟩;rw[Go.Mt.Al,zH4];simp only[Go.Mt.wL,dU,dV];obtain⟨s1,s2,s3⟩:=hS;have s4:l'=.wk e.qs (k0+2*k+1)/\W8.P2 ⟨e,lo,hb,k,k0+2*k,dA (Eu o es).recs ((k:Int)+1),v,w,vy,uO o es ln qn k,Ky⟩ w':=by
      rcases vs with _|⟨a,_|⟨b,_|⟨x,_|⟨y,vs⟩⟩⟩⟩
      .cases tT
      .cases tT
      .cases tT
      .cases tT
      .exact s3
     obtain⟨rfl,v2,a2,m2,t2,q1,q2⟩:=s4;have A8:=aD (show bE w' lo hb v2 (uO o es ln qn (k+1)) from a2);have M8:=aD (show gC v2 (uO o es ln qn (k+1)) from m2);have T8:=aD t2;have Q8:=aD (q2.trans EY.o);have rV:K.le K':=wD zvg s1;have zAi:K' gq (qa e.qs k):=rV _ _ (HP.o.K k gq zHX.o);clear a2 m2 t2 q1 q2 s1 s2 s3 tT zvE;refine CW.rg H [0,1] ?_;refine CR.mv H (.chan (some gq)) ?_;refine CR.shut H (k:=k0+2*k+1) (q:=k) zJr rfl rfl ziz rfl rfl Qw.2 (by show k<e.qs.length;rw[HP.o.qs];exact zoT) rfl rfl zAi ?_;simp only[cC,gK,dU,dV];refine CR.nil H ?_;refine CW.pQ H Qr (λXf Q HQ=>?_);go_wp2;refine HQ.o _ _ ?_;clear HQ;exact⟨nq-(k+1),aC,k+1,_,K',v2,_,_,_,_,_,_,_,_,_,_,_,_,_,_,_,_,_,_,_,_,_,_,_,_,_,_,_,_,_,_,_,_,_,_,_,_,_,_,_,_,_,_,_,_,_,_,_,_,rfl,aC,rfl,rV,A8.o.tp Xf 0,M8.o,T8.o.tp Xf 0,Q8.o⟩
    .have Gm:¬(k:Int)<(nq:Int):=aC
     have lS:=aD (show k=nq by omega);go_wp2;refine HQ.o _ _ ?_;clear HQ Gm;refine CW.sq H ?_;refine CW.cd H false ?_;refine CW.exit H aO ?_;dsimp only;rw[if_pos rfl];have y6:=lS.o;subst y6;have zFq:e.W.length=k0+2*k:=by
      have zmc:o.op.toNat=k:=by have:=HP.o.nq;have:=Tg.o;omega
      rw[HP.o.W];unfold Bo;rw[gN,<-Ce.o,zmc,ziU]
     refine⟨aO,rfl,.tuple #[],rfl,by rw[zFq],vy,?_,?_,T6.o.tp za8 0⟩
     .rw[<-Tg.o];exact A6.o.tp za8 0
     .rw[<-Tg.o];exact M6.o
end Go.Proofs.YtfcjiloojkjaeaaGreatDoor
namespace Go.Proofs.YtfcjiloojkjaeaaGreatDoor
open Go.RowKit Go.Mt Go.Conc Go.Tt Go.Conc.Lib Go.ConcR.Gen
abbrev sD:WgLink:={add:=53,done:=55,wait:=59,relMerge:=68,disable:=69,enable:=70,inBubble:=71,associate:=72,fatal:=73,uOr:=74,uAdd:=75,raceRead:=76,uLoad:=77,uStore:=78,disassociate:=79,semrelease:=80,acquire:=83,isAssociated:=84,uCas:=85,raceWrite:=86,semacquire:=87,orU64:=97,addU64:=98,loadU64:=99,storeU64:=100,casU64:=106,tWgP:=108,tUP:=110,tAssoc:=112,tWg:=94,tAU:=91,tU64:=89,tUint:=116,tU32:=92,tPU32:=117,tPAU:=137,tPU64:=139,tNoCopy:=86,tANoCopy:=87,tAlign64:=88}
def zaZ:WgLib aK sD:=
 ⟨Tryz.func53,Tryz.func55,Tryz.func59,Tryz.func68,Tryz.func69,Tryz.func70,Tryz.func71,Tryz.func72,Tryz.func73,Tryz.func74,Tryz.func75,Tryz.func76,Tryz.func77,Tryz.func78,Tryz.func79,Tryz.func80,Tryz.func83,Tryz.func84,Tryz.func85,Tryz.func86,Tryz.func87,Tryz.func97,Tryz.func98,Tryz.func99,Tryz.func100,Tryz.func106,Tryz.underlying108,Tryz.runUnderlying108,Tryz.sizeOf108,Tryz.isAgg108,Tryz.zeroValue108,Tryz.underlying110,Tryz.runUnderlying110,Tryz.sizeOf110,Tryz.isAgg110,Tryz.zeroValue110,Tryz.underlying112,Tryz.runUnderlying112,Tryz.sizeOf112,Tryz.isAgg112,Tryz.zeroValue112,Tryz.underlying94,Tryz.runUnderlying94,Tryz.sizeOf94,Tryz.isAgg94,Tryz.zeroValue94,Tryz.underlying91,Tryz.runUnderlying91,Tryz.sizeOf91,Tryz.isAgg91,Tryz.zeroValue91,Tryz.underlying89,Tryz.runUnderlying89,Tryz.sizeOf89,Tryz.isAgg89,Tryz.zeroValue89,Tryz.underlying116,Tryz.runUnderlying116,Tryz.sizeOf116,Tryz.isAgg116,Tryz.zeroValue116,Tryz.underlying92,Tryz.runUnderlying92,Tryz.sizeOf92,Tryz.isAgg92,Tryz.zeroValue92,Tryz.underlying117,Tryz.runUnderlying117,Tryz.sizeOf117,Tryz.isAgg117,Tryz.zeroValue117,Tryz.underlying137,Tryz.runUnderlying137,Tryz.sizeOf137,Tryz.isAgg137,Tryz.zeroValue137,Tryz.underlying139,Tryz.runUnderlying139,Tryz.sizeOf139,Tryz.isAgg139,Tryz.zeroValue139,Tryz.underlying0,Tryz.runUnderlying0,Tryz.sizeOf0,Tryz.isAgg0,Tryz.zeroValue0,Tryz.underlying3,Tryz.runUnderlying3,Tryz.sizeOf3,Tryz.isAgg3,Tryz.zeroValue3,Tryz.underlying4,Tryz.runUnderlying4,Tryz.sizeOf4,Tryz.isAgg4,Tryz.zeroValue4,Tryz.underlying9,Tryz.runUnderlying9,Tryz.sizeOf9,Tryz.isAgg9,Tryz.zeroValue9,Tryz.underlying20,Tryz.runUnderlying20,Tryz.sizeOf20,Tryz.isAgg20,Tryz.zeroValue20,Tryz.underlying21,Tryz.runUnderlying21,Tryz.sizeOf21,Tryz.isAgg21,Tryz.zeroValue21,aQ,aQ⟩
instance:Go.ConcR.Payload:=⟨3⟩
end Go.Proofs.YtfcjiloojkjaeaaGreatDoor
namespace Go.Proofs.YtfcjiloojkjaeaaGreatDoor
open Go.RowKit Go.Mt Go.Conc Go.Tt Go.Maps Go.Conc.Lib Go.ConcR.Gen
open Go.ConcR (KK wgBlock WgAt stA smA rd wr)
variable {K:Pr}{Q:Pr->Prop}{pin:List (Nat×aF)}{w:aE}{Ψ:Pr->gO->aF->aE->Prop}
theorem BO.callF {d:pN}(H:d.Ok){base:List dK}{ds:Dk}(hQ:Up Q){fn:aP}{tmps:Array aF}{ops:Array aZ}{i:Nat}{rest:List Nat}{k:List eE}{l:gO}{o:aZ}{g:aP}{args:Array cM}{kH:Array aM}(Ny:Array aF)
 (ho:ops[i]? =some o) (cD:dF o (dR ops tmps)=true) (hop:o.op=.call ⟨.value (.func g),args,kH⟩) (sH:args.all (dQ d.fs)=true) (ha:args.map (bH tmps []).eval=Ny) (lH:∀s,o.dst=some s->s∉pin.map (·.1)) (hc:CF d g Ny K l w Ψ)
 (hk:∀K' l' v w',K.le K'->Ψ K' l' v w'->BO (d.cx K' Q [] base ds pin) l' ⟨fn,(cC ⟨tmps,[]⟩ o.dst v).tmps,.inRegion ops rest::k,false⟩ w'):BO (d.cx K Q [] base ds pin) l ⟨fn,tmps,.inRegion ops (i::rest)::k,false⟩ w:=by
 obtain⟨fnf,cf,g1,g2,g3,g4,g5⟩:=hc.ex;refine BO.callN (H.iok hQ) ho cD hop (Callee.static _ _) sH g1 g2 g3 g4 λn6 m' hm=>?_;rw[pN.sub_eq];have fin:∀(s':WS) todo,K.le s'.K->(s'.chs=[]/\∃v,(oK fnf.results.toList s'.T).run d.p s'.w=.ok v s'.w/\Ψ s'.K s'.l v s'.w)->d.bo (λR=>Q R/\n6.le R) (fx [] ds m'::base) s' g todo true:=λs' todo hl ⟨h2,v,h3,h4⟩=>by
  obtain⟨zJm,K',l',T',w'⟩:=s';simp only at*;subst h2;unfold pN.bo;simp only;rw[<-pN.sub_eq (pin:=pin)];refine BO.retN (C:=d.cx K' Q [] base ds pin) (H.iok hQ) (hm.upK hl _) rfl rfl (λs hs=>lH s (by rw[ho] at hs;exact hs)) g1 h3 ?_;have:=hk K' l' v w' hl h4;simp only[Fm.fin,ho,vD]
  cases hd:o.dst with
  |none=>rw[hd] at this;exact this
  |some s=>rw[hd] at this;exact this
 have e:(#[]:Array aF)++args.map (bH tmps []).eval++ #[]=Ny:=by rw[<-ha];simp
 rw[e];refine g5 (λR=>Q R/\n6.le R) (fx [] ds m'::base) [] (hQ.and n6) (λ_ h=>by cases h) (λs' hl x=>BO.fall (H.iok (hQ.and n6)) (fin s' [] hl x.2)) (λid k2 s' hl ee x=>by cases ee) (λs' todo hl x=>fin s' todo hl x.2)
def Yr:Go.Code:=(Tryz.f57.body).getD .skip
def rH20:Go.Code:=match Yr with| .seq (a) _=>a|_=>.skip
def rH21:Go.Code:=match Yr with| .seq _ (a)=>a|_=>.skip
def zGW:Yr=.seq (rH20) (rH21):=rfl
def zjf:Array Oper:=match rH20 with| .region _ ops _=>ops|_=>#[]
def rH20_eq:rH20=.region 0 zjf false:=rfl
def zBN:gF zjf.size=[0]:=rfl
abbrev zrY:Oper:=⟨none,.defer ⟨.value (.func 55),#[.tmp 0],#[94]⟩,0,"l6_office.go:292",#[],none⟩
def zE6:zjf[0]? =some zrY:=rfl
def zaU:Array Oper:=match rH21 with| .region _ ops _=>ops|_=>#[]
def rH21_eq:rH21=.region 1 zaU false:=rfl
def zAV:gF zaU.size=[0,1,2]:=rfl
abbrev oH21_0:Oper:=⟨some 3,.load 63 (.tmp 1),63,"l6_office.go:293",#[],none⟩
def zGr:zaU[0]? =some oH21_0:=rfl
abbrev oH21_1:Oper:=⟨some 4,.load 31 (.tmp 2),31,"l6_office.go:293",#[],none⟩
def zBD:zaU[1]? =some oH21_1:=rfl
abbrev oH21_2:Oper:=⟨some 5,.call ⟨.value (.func 58),#[.tmp 3,.tmp 4],#[63,31]⟩,0,"l6_office.go:293",#[⟨0,.data⟩,⟨1,.data⟩],none⟩
def zEo:zaU[2]? =some oH21_2:=rfl
theorem zIz {N:Nat}{W:List fH}{D:aE->Prop}{qs:List Nat}:(B6 N W D).act (.wk qs W.length)=.done:=by
 show eT N W (.wk qs W.length)=_;simp[eT]
theorem zH9 {e:Ho}(H:e.d.Ok)(By:e.ty=sD.tWg){lo hb gh ge n c:Nat}{A:Option bL}{v:fJ}{o:jG}{es:List dD}{ln qn:List Nat}(h:zcc e o es ln qn lo hb v w K A n c)(hh:w.cell? ⟨gh,0,none⟩=some (.pointer (some ⟨hb,0,none⟩)))(he:w.cell? ⟨ge,0,none⟩=some (.slice A n c))(hQ:Up Q)
 (tV:∀K' R τ W w' v',K.le K'->Q R->cV (SF gE) K' R (o6 aK) e.St w' W->IQ e.W0 e.StI e.Shun e.Wg e.SS e.R0 e.Fz e.Wf e.qs [] R τ W->bE w' lo hb v' (uO o es ln qn qn.length)->gC v' (uO o es ln qn qn.length)->bM hb v w v' w'->e.D W):
 BO (e.d.cx K Q [] [wI aK] ⟨[],.deferred,aO⟩ [(0,.pointer (some ⟨e.Wg,0,none⟩))]) (.wk e.qs 0) ⟨57,#[.nilFunc,.pointer (some ⟨gh,0,none⟩),.pointer (some ⟨ge,0,none⟩),aA,aA,aA],[.code Yr],false⟩ w:=by
 let C:=e.d.cx K Q [] [wI aK] ⟨[],.deferred,aO⟩ [(0,.pointer (some ⟨e.Wg,0,none⟩))]
 have hI:fG C:=H.iok hQ
 let d1:=dcall 55 #[.pointer (some ⟨e.Wg,0,none⟩)]
 have J3:fG (C.dfr d1):=hI.dfr d1;have F:vN C.P C.fs:=mX;show BO C _ _ _;rw[zGW];refine BO.seq hI ?_;rw[rH20_eq];refine BO.regs hI _ zBN ?_;refine BO.defer hI (d:=d1) zE6 rfl rfl (λR w W bQ _ _ Dp aV=>?_) ?_
 .have h0:=Dp (0,.pointer (some ⟨e.Wg,0,none⟩)) (by show _∈[_];simp)
  have:=zqq (p:=C.p) (o:=zrY) (ρ:=(bH bQ C.ds.ds).eval) rfl rfl aV;simp only[uI,fO,tW,wF] at this;simp only at h0;rw[h0] at this;exact this
 refine BO.regEnd J3 ?_;rw[rH21_eq];refine BO.regs J3 _ zAV ?_;refine BO.op (C:=C.dfr d1) F J3 zGr rfl aQ zyv (λT=>⟨.pointer (some ⟨hb,0,none⟩),Tt.tp w T 0,.inl (zbr (a:=⟨gh,0,none⟩) rfl rfl (Tryz.isAgg63 _) hh),?_⟩);simp only[cC,gK,dU,dV];refine BO.tape ?_ T 0;clear T;refine BO.op (C:=C.dfr d1) F J3 zBD rfl aQ (by intro s hs;cases hs;show(4:Nat)∉([0]:List Nat);decide) (λT=>⟨.slice A n c,Tt.tp w T 0,.inl (zbr (a:=⟨ge,0,none⟩) rfl rfl (Tryz.isAgg31 _) he),?_⟩);simp only[cC,gK,dU,dV];refine BO.tape ?_ T 0;clear T;have eC:C.dfr d1=e.d.cx K Q [] [wI aK] ⟨[d1],.deferred,aO⟩ [(0,.pointer (some ⟨e.Wg,0,none⟩))]:=rfl;rw[eC];refine BO.callF H hQ #[.pointer (some ⟨hb,0,none⟩),.slice A n c] zEo rfl rfl aQ (by simp only[uI,fO,tW,wF];rfl) (by intro s hs;cases hs;show(5:Nat)∉([0]:List Nat);decide) (cf_work H h) λK' l' y w' hl hx=>?_;obtain⟨rfl,v',hA,hm,hT⟩:=hx;have Gy:fG (e.d.cx K' Q [] [wI aK] ⟨[d1],.deferred,aO⟩ [(0,.pointer (some ⟨e.Wg,0,none⟩))]):=H.iok hQ;refine BO.regEnd Gy (BO.fall Gy ?_);refine BO.doneD (C:=e.d.cx K' Q [] [wI aK] ⟨[d1],.deferred,aO⟩ [(0,.pointer (some ⟨e.Wg,0,none⟩))]) (I0:=λR τ W=>IQ e.W0 e.StI e.Shun e.Wg e.SS e.R0 e.Fz e.Wf e.qs [] R τ W/\Q R) zaZ rfl rfl By ?_ ?_ rfl rfl Tryz.func57 rfl zIz (λR τ W hr hi=>tV K' R τ W w' v' hl hi.2 hr hi.1 hA hm hT)
 .funext R τ w
  show((IQ _ _ _ _ _ _ _ _ _ _ R τ w/\WgLive e.ty _ w)/\Q R)=((IQ _ _ _ _ _ _ _ _ _ _ R τ w/\Q R)/\WgLive _ _ w);rw[By];exact propext ⟨λ⟨⟨a,b⟩,c⟩=>⟨⟨a,c⟩,b⟩,λ⟨⟨a,c⟩,b⟩=>⟨⟨a,b⟩,c⟩⟩
 .have hx:=zfk (ty:=sD.tWg) (W0:=e.W0) (St:=e.StI) (Shun:=e.Shun) (Wg:=e.Wg) (SS:=e.SS) (R0:=e.R0) (Fz:=e.Fz) (Wf:=e.Wf) (qs:=e.qs) (chs:=[]) H.ss H.fz H.low
  exact⟨λR τ W aV h s=>⟨hx.suf _ _ _ _ h.1 s,h.2⟩,λR τ W a v h ha=>⟨hx.cell _ _ _ _ _ h.1 ha,h.2⟩,λR τ W d h=>⟨hx.at_ _ _ _ d h.1,h.2⟩,λR τ W h=>hx.rel _ _ _ h.1⟩
section
variable {L:Type}{C:Cx L}{l:L}
variable {fn:aP}{tmps:Array aF}{c:vX}{k:List eE}{w:aE}
def BO.pieceQ (F:vN C.P C.fs)(hI:fG C)(hc:oI C.p ⟨C.fs,C.gs,true⟩ c=true)(hf:wC C.p fn)(dG:x5 C.S c=true)
 (rL:∀(T:jW) (Q:n5->tK->aE->Prop),qC (∀a' w',BO C l ⟨fn,a'.tmps,k,false⟩ w'->Q .normal a' w')->Code.wp C.p c Q ⟨tmps,[]⟩ (Tt.tp w T 0)):BO C l ⟨fn,tmps,.code c::k,false⟩ w:=
 BO.piece F hI hc hf dG λT=>rL T _ (aD λa' w' h=>⟨rfl,h⟩)
theorem BO.pV {c':vX}(F:vN C.P C.fs)(hI:fG C)(hf:wC C.p fn)
 (rL:∀(w1:aE) (T:jW),w1=Tt.tp w T 0->∀Q:n5->tK->aE->Prop,qC (∀a' w',BO C l ⟨fn,a'.tmps,k,false⟩ w'->Q .normal a' w')->Code.wp aK c' Q ⟨tmps,[]⟩ w1)
 (e:c=c':=by conv=>lhs;whnf) (hp:C.p=Tryz.prog:=by exact rfl) (hc:oI C.p ⟨C.fs,C.gs,true⟩ c=true:=by kernel_rfl) (dG:x5 C.S c=true:=by kernel_rfl):BO C l ⟨fn,tmps,.code c::k,false⟩ w:=by
 subst e;exact BO.pieceQ F hI hc hf dG λT Q HQ=>by rw[hp];exact rL _ T rfl Q HQ
end
structure IOp (Wg:Nat)(R:Pr)(τ:cF)(W:aE):Prop where
 rel:∀a b,R a b->b≠Wg
 lt:Wg<W.heap.size
theorem iop_ix {ty:aM}{Wg:Nat}:IX ty Wg (IOp Wg):=
 ⟨λR τ W aV h s=>⟨h.rel,lD h.lt s.size⟩,λR τ W a v h ha=>⟨h.rel,by rw[Jo];exact h.lt⟩,λR τ W d h=>⟨h.rel,h.lt⟩,λR τ W h=>h.rel⟩
theorem zeu {L:Type}{C:Cx L}(hQ:Up Q)(hC:C.I=λR τ W=>yZ C.ty C.Wg (IOp C.Wg) R τ W/\Q R):fG C:=by
 refine⟨λR τ W aV h s=>?_,λR τ W R1 W1 h ht hs=>?_⟩<;>rw[hC] at*
 .exact⟨⟨⟨h.1.1.rel,lD h.1.1.lt s.size⟩,s.live h.1.2⟩,h.2⟩
 .refine⟨⟨⟨λa b x=>?_,lD h.1.1.lt hs.size⟩,?_⟩,hQ R R1 hs.le h.2⟩
  .rcases hs.new a b x with y|⟨y,_⟩
   .exact h.1.1.rel a b y
   .have:=h.1.1.lt;omega
  .obtain⟨a,b,hl⟩:=h.1.2
   exact⟨a,b,(hs.keep C.Wg h.1.1.lt λa x=>absurd rfl (h.1.1.rel a _ x)).trans hl⟩
def fY (Wg N:Nat)(W:List fH)(D:aE->Prop)(Fin:bC->aE->Prop)(St:Nat->Prop)(K:Pr)(Q:Pr->Prop)(base:List dK)(ds:Dk)(pin:List (Nat×aF)):Cx gO:=
 {p:=aK,gs:=Cf,fs:=gE,ty:=sD.tWg,Wg:=Wg,A:=B6 N W D,Fin:=Fin,main:=false,base:=base,ds:=ds,K:=K,St:=St,I:=λR τ w=>yZ sD.tWg Wg (IOp Wg) R τ w/\Q R,pin:=pin}
def K3:Go.Code:=(Tryz.f56.body).getD .skip
def rOP0:Go.Code:=match K3 with| .seq (a) _=>a|_=>.skip
def rOP1:Go.Code:=match K3 with| .seq _ (.seq (a) _)=>a|_=>.skip
def rOP2:Go.Code:=match K3 with| .seq _ (.seq _ (.block _ (.loop (.seq (a) _))))=>a|_=>.skip
def rOP3:Go.Code:=match K3 with| .seq _ (.seq _ (.block _ (.loop (.seq _ (.seq _ (.block _ (.seq (a) _)))))))=>a|_=>.skip
def rOP4:Go.Code:=match K3 with| .seq _ (.seq _ (.block _ (.loop (.seq _ (.seq _ (.block _ (.seq _ (.seq (.seq (a) _) _))))))))=>a|_=>.skip
def rOP5:Go.Code:=match K3 with| .seq _ (.seq _ (.block _ (.loop (.seq _ (.seq _ (.block _ (.seq _ (.seq (.seq _ (.cond _ (a) _)) _))))))))=>a|_=>.skip
def rOP6:Go.Code:=match K3 with| .seq _ (.seq _ (.block _ (.loop (.seq _ (.seq _ (.block _ (.seq _ (.seq _ (a)))))))))=>a|_=>.skip
def zFS:K3=.seq (rOP0) (.seq (rOP1) (.block 0 (.loop (.seq (rOP2) (.seq (.cond (.tmp 6) (.skip) (.exit 0)) (.block 1 (.seq (rOP3) (.seq (.seq (rOP4) (.cond (.tmp 10) (rOP5) (.skip))) (rOP6))))))))):=rfl
def zfq:Array Oper:=match rOP2 with| .region _ ops _=>ops|_=>#[]
def zvV:rOP2=.region 2 zfq false:=rfl
def ztT:gF zfq.size=[0,1]:=rfl
abbrev oOP2_0:Oper:=⟨some 5,.recv 122 (.tmp 4) true,0,"l6_office.go:89",#[],none⟩
def zr6:zfq[0]? =some oOP2_0:=rfl
abbrev oOP2_1:Oper:=⟨some 6,.extract (.tmp 5) 1,4,"l6_office.go:89",#[⟨0,.data⟩],none⟩
def zlc:zfq[1]? =some oOP2_1:=rfl
def Ye:Array Oper:=match rOP6 with| .region _ ops _=>ops|_=>#[]
def zoa:rOP6=.region 6 Ye false:=rfl
def zwG:gF Ye.size=[0,1,2,3]:=rfl
abbrev oOP6_0:Oper:=⟨some 13,.fieldAddr 124 (.tmp 3) 2,0,"l6_office.go:93",#[],none⟩
def ztu:Ye[0]? =some oOP6_0:=rfl
abbrev oOP6_1:Oper:=⟨some 14,.load 84 (.tmp 13),84,"l6_office.go:93",#[⟨0,.data⟩],none⟩
def zsy:Ye[1]? =some oOP6_1:=rfl
abbrev oOP6_2:Oper:=⟨some 15,.move (.tmp 2),3,"l6_office.go:93",#[],none⟩
def zsH:Ye[2]? =some oOP6_2:=rfl
abbrev oOP6_3:Oper:=⟨none,.send (.tmp 14) (.tmp 15),0,"l6_office.go:93",#[⟨1,.data⟩,⟨2,.data⟩],none⟩
def zsc:Ye[3]? =some oOP6_3:=rfl
def V7:wC aK 56:=⟨_,Tryz.func56,.inl rfl⟩
def zfZ:Go.Code:=.seq rOP2 (.seq (.cond (.tmp 6) .skip (.exit 0)) (.block 1 (.seq rOP3 (.seq (.seq rOP4 (.cond (.tmp 10) rOP5 .skip)) rOP6))))
theorem info_q:∃ie,aK.info? 124=some ie/\ie.zero=some (.agg #[.int .i64 0,.int .i64 0,.chan none]):=by
 have h:(aK.info? 124).bind (·.zero)=some (.agg #[.int .i64 0,.int .i64 0,.chan none]):=aQ;obtain⟨ie,h1,h2⟩:=Option.bind_eq_some_iff.1 h;exact⟨ie,h1,h2⟩
def zx1:aK.underlying 122=some (.chan .recv 124):=aQ
def vr3 {S:aP->Prop}{R:Pr}{a b:Int}{x y:aF}(h:VR S K R x y):VR S K R (.agg #[.int .i64 a,.int .i64 b,x]) (.agg #[.int .i64 a,.int .i64 b,y]):=
 .agg' (((bK.empty.push (.int _ _)).push (.int _ _)).push h)
section
variable {Wg N:Nat}{W:List fH}{D:aE->Prop}{Fin:bC->aE->Prop}{St:Nat->Prop}{Q:Pr->Prop}{base:List dK}{gc c:Nat}
theorem op_loop {K0:Pr}(zr8:K0 gc c)(hQ:Up Q)(Pg:∀K T todo w,K0.le K->BO (fY Wg N W D Fin St K Q base .nil []) .oD ⟨56,T,todo,true⟩ w):
 ∀(m:Nat) (K:Pr) (w:aE) (call:Int) (u1 u3 u5 u6 u7 u8 u9 gU gJ gI gH gG gM:aF),K0.le K->BO (fY Wg N W D Fin St K Q base .nil []) (.op c call m) ⟨56,#[.chan (some gc),u1,.int .i64 call,u3,.chan (some gc),u5,u6,u7,u8,u9,gU,gJ,gI,gH,gG,gM],[.code zfZ,.inLoop zfZ,.inBlock 0],false⟩ w:=by
 have F:∀K,vN (fY Wg N W D Fin St K Q base .nil []).P (fY Wg N W D Fin St K Q base .nil []).fs:=λK=>mX;have hI:∀K,fG (fY Wg N W D Fin St K Q base .nil []):=λK=>zeu hQ rfl;obtain⟨ie,jY,hz⟩:=info_q;intro m
 induction m with
 |zero=>
  intro K w call u1 u3 u5 u6 u7 u8 u9 gU gJ gI gH gG gM hL;have hK:K gc c:=hL _ _ zr8;unfold zfZ;refine BO.seq (hI K) ?_;rw[zvV];refine BO.regs (hI K) _ ztT ?_;refine BO.recvK rfl (hI K) zr6 rfl rfl zx1 jY hz (λR=>vr3 (.chan .none)) rfl rfl hK I8 rfl (λv hv=>absurd hv.2 (Nat.lt_irrefl 0)) (λ_=>?_);simp only[cC,gK,dU,dV];refine BO.op (F K) (hI K) zlc rfl aQ I8 (λT=>⟨.bool false,Tt.tp w T 0,.inl P3,?_⟩);simp only[cC,gK,dU,dV];refine BO.regEnd (hI K) ?_;refine BO.seq (hI K) ?_;refine BO.cond (hI K) (t:=false) rfl rfl ?_;refine BO.exit (hI K) (k':=[]) rfl (BO.fall (hI K) (Pg K _ _ _ hL))
 |succ m ih=>
  intro K w call u1 u3 u5 u6 u7 u8 u9 gU gJ gI gH gG gM hL;have hK:K gc c:=hL _ _ zr8;unfold zfZ;refine BO.seq (hI K) ?_;rw[zvV];refine BO.regs (hI K) _ ztT ?_;refine BO.recvK rfl (hI K) zr6 rfl rfl zx1 jY hz (λR=>vr3 (.chan .none)) rfl rfl hK I8 rfl (λv hv=>?_) (λ_=>?_)
  .obtain⟨hs,_⟩:=hv
   obtain⟨⟨kd,cl,a⟩,hu⟩:=Option.isSome_iff_exists.1 hs;obtain rfl:=unQ_inv hu;refine⟨a,by show a∈Po (Lw kd cl a);simp[Po,zfj],λK' ga w' hle zbp jH=>⟨.agg #[.int .i64 kd,.int .i64 cl,.chan (some ga)],λR=>vr3 (.chan (.some (.inr zbp))),?_⟩⟩;have rV:K' gc c:=hle _ _ hK;have zbD:=wD hL hle;show BO (fY Wg N W D Fin St K' Q base .nil []) (U0 c call (m+1) (Lw kd cl a)) _ w';simp only[U0,zfj,Nat.add_sub_cancel];simp only[cC,gK,dU,dV];refine BO.op (F K') (hI K') zlc rfl aQ I8 (λT=>⟨.bool true,Tt.tp w' T 0,.inl P3,?_⟩);simp only[cC,gK,dU,dV];refine BO.regEnd (hI K') ?_;refine BO.seq (hI K') ?_;refine BO.cond (hI K') (t:=true) rfl rfl ?_;refine BO.skip (hI K') ?_;refine BO.block (hI K') ?_;refine BO.seq (hI K') ?_;obtain⟨w1,fA⟩:=aU (Tt.tp w' T 0);rw[<-fA];clear fA;refine BO.pV (F K') (hI K') V7 (λw2 T1 fZ Q' cZ=>?_);clear fZ;simp only[recvd,if_true];go_wp2;refine cZ.o _ _ ?_;clear cZ;obtain⟨gb,eY⟩:=aU w2.heap.size;obtain⟨w3,iT⟩:=aU (w2.alloc (.cells #[.int .i64 kd,.int .i64 cl,.chan (some ga)] 124));have kg:w3.heap[gb]? =some (.cells #[.int .i64 kd,.int .i64 cl,.chan (some ga)] 124):=by rw[iT,eY];exact lF _ _
   rw[<-eY,<-iT];clear iT eY;refine BO.seq (hI K') ?_;refine BO.seq (hI K') ?_;have k0:=aJ kg 0;have k1:=aJ kg 1;have k2:=aJ kg 2;by_cases nZ:kd=1
   .refine BO.pV (F K') (hI K') V7 (λwt T1 cD Q' cZ=>?_)
    subst cD;have zkA:(Tt.tp w3 T1 0).cell? ⟨gb,0,none⟩=some (.int .i64 kd):=k0;subst nZ;go_wp2;refine cZ.o _ _ ?_;clear cZ zkA;refine BO.cond (hI K') (t:=true) rfl rfl ?_;refine BO.pV (F K') (hI K') V7 (λwt T2 cD Q' cZ=>?_);subst cD;have zGz:(Tt.tp (Tt.tp w3 T1 0) T2 0).cell? ⟨gb,1,none⟩=some (.int .i64 cl):=k1;go_wp2;refine cZ.o _ _ ?_;clear cZ zGz;rw[if_pos trivial];rw[zoa];refine BO.regs (hI K') _ zwG ?_;refine BO.op (F K') (hI K') ztu rfl aQ I8 (λT3=>⟨.pointer (some ⟨gb,2,none⟩),_,.inl P3,?_⟩);simp only[cC,gK,dU,dV];refine BO.op (F K') (hI K') zsy rfl aQ I8 (λT4=>⟨.chan (some ga),_,.inl (zbr (a:=⟨gb,2,none⟩) rfl rfl (zsa _) k2),?_⟩);simp only[cC,gK,dU,dV];refine BO.op (F K') (hI K') zsH rfl aQ I8 (λT5=>⟨.int .i64 cl,_,.inl P3,?_⟩);simp only[cC,gK,dU,dV];refine BO.send rfl (hI K') (l':=.op c cl m) zsc rfl rfl rfl rfl zbp rfl zkS rfl (λR v' hv=>⟨by cases hv;rfl,rfl,rfl⟩) ?_;refine BO.regEnd (hI K') ?_;refine BO.inBlock (hI K') ?_;refine BO.inLoop (hI K') ?_;exact ih K' _ cl _ _ _ _ _ _ _ _ _ _ _ _ _ zbD
   .refine BO.pV (F K') (hI K') V7 (λwt T1 cD Q' cZ=>?_)
    subst cD;have zkA:(Tt.tp w3 T1 0).cell? ⟨gb,0,none⟩=some (.int .i64 kd):=k0;have qP:(kd==1)=false:=by simpa using nZ
    go_wp2;refine cZ.o _ _ ?_;clear cZ zkA;refine BO.cond (hI K') (t:=false) rfl (by first|rfl|(simp[wF,nZ])) ?_;refine BO.skip (hI K') ?_;rw[if_neg nZ];rw[zoa];refine BO.regs (hI K') _ zwG ?_;refine BO.op (F K') (hI K') ztu rfl aQ I8 (λT3=>⟨.pointer (some ⟨gb,2,none⟩),_,.inl P3,?_⟩);simp only[cC,gK,dU,dV];refine BO.op (F K') (hI K') zsy rfl aQ I8 (λT4=>⟨.chan (some ga),_,.inl (zbr (a:=⟨gb,2,none⟩) rfl rfl (zsa _) k2),?_⟩);simp only[cC,gK,dU,dV];refine BO.op (F K') (hI K') zsH rfl aQ I8 (λT5=>⟨.int .i64 call,_,.inl P3,?_⟩);simp only[cC,gK,dU,dV];refine BO.send rfl (hI K') (l':=.op c call m) zsc rfl rfl rfl rfl zbp rfl zkS rfl (λR v' hv=>⟨by cases hv;rfl,rfl,rfl⟩) ?_;refine BO.regEnd (hI K') ?_;refine BO.inBlock (hI K') ?_;refine BO.inLoop (hI K') ?_;exact ih K' _ call _ _ _ _ _ _ _ _ _ _ _ _ _ zbD
  .simp only[cC,gK,dU,dV]
   refine BO.op (F K) (hI K) zlc rfl aQ I8 (λT=>⟨.bool false,Tt.tp w T 0,.inl P3,?_⟩);simp only[cC,gK,dU,dV];refine BO.regEnd (hI K) ?_;refine BO.seq (hI K) ?_;refine BO.cond (hI K) (t:=false) rfl rfl ?_;refine BO.exit (hI K) (k':=[]) rfl (BO.fall (hI K) (Pg K _ _ _ hL))
end
end Go.Proofs.YtfcjiloojkjaeaaGreatDoor
