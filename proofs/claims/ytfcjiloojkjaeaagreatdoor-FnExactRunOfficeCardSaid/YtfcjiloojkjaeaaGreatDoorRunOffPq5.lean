/-
  Part 5 of what stands behind the last text.
-/
import Derived.Lib.Overlaps
import Derived.Lib.AppendZerosOnto
import Derived.Test.YtfcjiloojkjaeaaGreatDoorRunOffPq4
set_option linter.all false
set_option maxHeartbeats 16000000
set_option maxRecDepth 100000
open Array renaming getD_eq_getD_getElem?→tZ,getElem?_eq_none→Gr,getElem?_eq_some_iff→dO,getElem?_setIfInBounds_ne→jQ,getElem?_toList→Ap,length_toList→Dm,replicate→nI,size_append→Tj,toList_append→Qc
open Bool renaming and_eq_true→fV,false_eq_true→jF,or_eq_true→Eo
open Go renaming Act→uA,Addr→bL,ChanDir→Na,Code→vR,Exit→nZ,Frame→dH,FuncId→aO,Goroutine→bC,Item→eE,Oper→aZ,Operand→cN,Program→bS,Tape→jV,TypeId→aM,TypeInfo→wW,Value→aF,World→aE,execOp→aS,heap_alloc_new→lQ,run_underlying→wP,setRow_heap→Lg,setRow_other→zfk,size_zeroCells→Xl,undef→aA,yielded→dR
open Go.Act renaming eval→wH,mk→bH,put→cC
open Go.Addr renaming add_lit→Md
open Go.Builtin renaming copy_→C4,firstCells→Uz,zeroCells→pZ
open Go.Code renaming region→E7
open Go.Conc renaming listed→wL,seen_none→Bg,stepG_value→zlZ
open Go.Deferred renaming ofValue→Bt
open Go.Extern renaming find→zqN,findNext→zvE
open Go.Extern.SlicesOverlaps renaming overlaps→zmN
open Go.Instr renaming lookup→zM,slice→Yk,sliceAt→X4,sliceBound→Mf,sliceBounds→Vu
open Go.Proofs.Tryz renaming checked→vE,f101→zqx,func101→zvz,func102→zwp,func103→zu4,func104→zsr,func111→zwa,func120→zq9,func58→zkv,func81→ztM,func82→zxU,isAgg84→zx4,prog→aK,underlying38→X8,underlying84→zv4
open Go.Region renaming binds→Em,ready→Gt,schedule→Un,wanted→dD
open Go.Region.linearise renaming go→zhj
open Go.RowKit.Below renaming heap_setCell→eH,refl→eF
open Go.Value renaming bool→Mm,int→Qo,slice→U7
open Go.World renaming frozen?→Sa,setChan→K9,setRow→zeV,shape?→zbf,size_setCell→sN
open List renaming all_eq_true→tK,append_assoc→Jc,drop_of_length_le→zyk,findIdx?_eq_some_iff_getElem→zj7,getD_cons_succ→C7,getD_cons_zero→Ds,getD_eq_getElem?_getD→Kl,getElem?_append_left→y3,getElem?_append_right→Ah,getElem?_drop→Y5,getElem?_eq_getElem→lO,getElem?_eq_none→Cu,getElem?_eq_some_iff→kE,getElem?_take→Wo,getElem_mem→zsL,idxOf?→zlE,length_append→gM,length_drop→xO,length_take→rV,map_append→Im,map_cons→fK,map_drop→zpG,map_nil→tL,map_take→zwI,map_toArray→uS,mem_append→Er,mem_cons→jL,mem_filter→Iy,mem_of_getElem?→dX,mem_of_mem_drop→zcr,mem_range→Bd,mem_singleton→sE,not_mem_nil→lZ,range→gN,replicate→zoI,setIfInBounds_toArray→gE,set_cons_succ→dW,set_cons_zero→dV,takeWhile_cons→zde,takeWhile_prefix→zpa,take_append_of_le_length→El,take_of_length_le→zP,take_take→Pf
open Nat renaming add_sub_cancel_left→zo6,add_zero→Ul,le_refl→aX,le_succ→Sd,le_trans→eG,lt_of_lt_of_le→lC,lt_or_ge→mX,lt_trichotomy→zwh,min→zbk,min_eq_left→zoL,sub_self→Nv,zero_add→qZ,zero_le→jY
open Option renaming bind_some→vC,getD_none→zyy,getD_some→zG
open Option.some renaming inj→cE
noncomputable section
namespace Go
def kQ{P:Prop}(h:P:=by rw[hz];decide):P:=h
def yG{P:Prop}(h:P:=by rw[lR.o];decide):P:=h
def Jo{P:Prop}(h:P:=by intro s hs;cases hs;exact lZ):P:=h
def Oq{P:Prop}(h:P:=by first|rfl|(simp only[wH];rfl)):P:=h
def zfh{P:Prop}(h:P:=by show _<=((Tt.tp w' T 0).alloc _).heap.size;rw[qR];exact Sd _):P:=h
def Pn{P:Prop}(h:P:=by unfold aS;go_simp;try rfl):P:=h
def zrP{P:Prop}(h:P:=by have:(bF xs).length=xs.length*2:=Fb bJ.cells (s:=2) (λ_=>rfl) xs;omega):P:=h
def Vt{P:Prop}(h:P:=by rw[HF.o];decide):P:=h
def zxA{P:Prop}(h:P:=by intro s hs;cases hs;show(3:Nat)∉([0]:List Nat);decide):P:=h
def zto{P:Prop}(h:P:=by rw[cJ,show zbk 1 (n+1-i)=1 from zoL (by omega)];rfl):P:=h
def zgA{P:Prop}(h:P:=by simp only[gM];omega):P:=h
def zwv{P:Prop}(h:P:=by have e:b=hb:=e;subst e;exact dX (i:=0) rfl):P:=h
def zlk{P:Prop}(h:P:=by intro s hs;cases hs):P:=h
def zhU{P:Prop}(h:P:=by have:=Gf.o;omega):P:=h
end Go
namespace Go.Mt
open Go.Conc Go.Tt
open Go.ConcR (KK wgBlock WgAt stA smA rd wr)
section
variable {L:Type}{C:Cx L}{l l':L}
def Cx.upK (C:Cx L)(K':Pr)(I':Pr->cF->aE->Prop):Cx L:={C with K:=K',I:=I'}
variable {m:Fm}{w:aE}
theorem BO.note (ha:C.alone=none){can:L->Prop}(pT:C.A.act l=.note can)(hc:can l')(h:BO C l' m w):BO C l m w:=by
 intro R W m' τ hw hm ht hi;have:=h R W m' τ hw hm ht hi;rw[Cx.B_none ha] at this⊢;refine b6.usr rfl ?_;unfold mF;rw[pT];exact⟨l',hc,this⟩
variable {S:aO->Prop}{R:Pr}{St:Nat->Prop}
theorem cT.alR {K:Pr}{G:Gp}{W:aE}(h:cT S K R G St w W)(o:Obj):cT S K R G St w (W.alloc o):=by
 refine⟨h.inj,h.inj',λa b x=>⟨(h.lt a b x).1,by rw[qR];exact Nat.lt_succ_of_lt (h.lt a b x).2⟩,h.low,⟨h.gle.1,by rw[qR];exact Nat.le_succ_of_le h.gle.2⟩,λa b x=>?_,h.rest,h.st,h.np,h.tb⟩;obtain⟨o1,o2,h1,h2,h3⟩:=h.cont a b x;exact⟨o1,o2,h1,(Fp (h.lt a b (.inl x)).2).trans h2,h3⟩
variable {c:Nat}
theorem cT.setC {K:Pr}{G:Gp}{W:aE}(h:cT S K R G St w W)(hc:∀a,¬R a c)(cap:Nat)(Jw:Array aF)(cl:Bool)(s r:Nat)(tm:Bool):cT S K R G St w (W.setChan c cap Jw cl s r tm):=by
 have cJ:(W.setChan c cap Jw cl s r tm).heap.size=W.heap.size:=by simp[K9]
 refine⟨h.inj,h.inj',λa b x=>⟨(h.lt a b x).1,by rw[cJ];exact(h.lt a b x).2⟩,h.low,⟨h.gle.1,by rw[cJ];exact h.gle.2⟩,λa b x=>?_,h.rest,h.st,h.np,h.tb⟩;obtain⟨o1,o2,h1,h2,h3⟩:=h.cont a b x;refine⟨o1,o2,h1,?_,h3⟩;have aT:c≠b:=λe=>hc a (e▸x);simp only[K9,jQ aT];exact h2
def FmW.upK {m':Fm}(h:FmW C R m m'){K':Pr}(hK:C.K.le K')(I':Pr->cF->aE->Prop):FmW (C.upK K' I') R m m':=⟨h.fn,h.todo,h.ret,bK.monoK hK h.tmps,h.pins⟩
variable {fn:aO}{tmps:Array aF}{ops:Array aZ}{i:Nat}{rest:List Nat}{k:List eE}{o:aZ}{e:aM}{dir:Na}{ie:wW}{I':Nat->Pr->cF->aE->Prop}
theorem BO.makeK (hI:fE C){t:aM}(ho:ops[i]? =some o)(cD:dD o (dR ops tmps)=true)
 (hop:o.op=.makeChan t (.const (.int .i64 0))) (zdz:C.p.underlying t=some (.chan dir e)) (jU:C.p.info? e=some ie) (lG:∀s,o.dst=some s->s∉C.S) 
 (zlP:∀R τ W,C.I R τ W->vH τ R C.St->(∀a b,R a b->b<W.heap.size)->I' W.heap.size R (τ.grow W (W.alloc (.chan 0 #[] false 0 0 false))) (W.alloc (.chan 0 #[] false 0 0 false)))
 (h:∀c,BO (C.upK (C.K.add w.heap.size c) (I' c)) l ⟨fn,(cC ⟨tmps,[]⟩ o.dst (.chan (some w.heap.size))).tmps,.inRegion ops rest::k,false⟩ (w.alloc o9)):BO C l ⟨fn,tmps,.inRegion ops (i::rest)::k,false⟩ w:=by
 intro R W m' τ hw hm ht hi;obtain⟨fn',bQ,yW,yL⟩:=m';obtain rfl:=hm.fn;obtain rfl:=hm.todo;obtain rfl:=hm.ret;have hb:(C.ds.base fn).kind≠ .early:=C.ds.ok;have uE:=Hn (C:=C) hm.tmps cD;rw[mI];refine Cx.ownQ rfl λaV s=>?_;have dI:C.Rel R w aV:=Cx.Rel.suf (C:=C) hw ht s;have yI:=hI.suf _ _ _ _ hi s;have e1:(aS (bH bQ C.ds.ds).eval o).run C.p aV=.ok (.value (.chan (some aV.heap.size))) (aV.alloc (.chan 0 #[] false 0 0 false))/\(aS (bH bQ C.ds.ds).eval o).events C.p aV #[]=#[]:=by
  obtain⟨dst,yP,type,pos,after,guard⟩:=o;simp only at hop;subst hop;have hm:(Instr.makeChan t (.int .i64 0)).run C.p aV=_:=run_makeChan (P:=C.p) (w:=aV) zdz jU .i64 0 aC aC;have hv:=events_makeChan (P:=C.p) (w:=aV) zdz jU .i64 0 aC aC #[];exact⟨run_bv hm,ev_bv hm hv⟩
 have aY:=zlZ (main:=C.main) (rest:=rest) (k:=k) (cs:=C.base) ho uE hb e1.1;unfold wL at aY;rw[e1.2,Bg] at aY;refine⟨_,aV.alloc (.chan 0 #[] false 0 0 false),_,aY,rfl,⟨rfl,rfl,rfl,by rw[qR];omega,λb hb _=>Fp hb⟩,λe he=>by simp at he,?_⟩;have Es:cC ⟨bQ,C.ds.ds⟩ o.dst (.chan (some aV.heap.size))=⟨(cC ⟨bQ,C.ds.ds⟩ o.dst (.chan (some aV.heap.size))).tmps,C.ds.ds⟩:=by cases o.dst<;>rfl
 rw[Es,<-mI];have aN:∀a b,R.or C.K a b->b<aV.heap.size:=λa b x=>(dI.lt a b x).2;have fX:cT (SF C.fs) (C.K.add w.heap.size aV.heap.size) R (oZ C.p) C.St (w.alloc o9) (aV.alloc (.chan 0 #[] false 0 0 false)):=cT.pushK (cT.alR dI _) (by rw[qR];omega) λa x=>by have:=aN a _ x;omega
 refine h aV.heap.size R _ ⟨fn,_,_,false⟩ _ fX ⟨rfl,rfl,rfl,Ja (C:=C.upK _ (I' aV.heap.size)) (bK.monoK (Pr.le_add _ _ _) hm.tmps) (.chan (.some (.inr (.inr ⟨rfl,rfl⟩)))),Jn (C:=C) hm.pins lG⟩ (λa b x=>⟨(ht a b x).1,λz=>.inl ((ht a b x).2 z)⟩) (zlP R τ aV yI ht λa b x=>aN a b (.inl x))
def cF.cut (τ:cF)(ps:List Nat):cF:={τ with own:=λb=>τ.own b/\b∉ps}
variable {I':Pr->cF->aE->Prop}{x:cN}{g:Nat}{okv:aF->Prop}{pub:aF->List Nat}
theorem BO.sendP (ha:C.alone=none)(hI:fE C){y:cN}{nx:aF->L}{ps:List Nat}
 (ho:ops[i]? =some o) (cD:dD o (dR ops tmps)=true) (hop:o.op=.send x y)
 (rQ:dP C.fs x=true) (hx:(bH tmps []).eval x=.chan (some g)) (hK:C.K g c) (Dh:dP C.fs y=true) (lG:∀s,o.dst=some s->s∉C.S) (pT:C.A.act l=.send c okv pub nx)
 (hv:∀R W v',C.Rel R w W->VR (SF C.fs) C.K R ((bH tmps []).eval y) v'->okv v'/\pub v'=ps/\nx v'=l') 
 (oR:∀R τ W,C.I R τ W->(∀a∈ps,τ.own a/\¬τ.still a/\Jq W a/\∀b,¬R b a)/\I' R (τ.cut ps) W)
 (h1:BO (C.upK C.K I') l' ⟨fn,(cC ⟨tmps,[]⟩ o.dst aA).tmps,.inRegion ops rest::k,false⟩ w):BO C l ⟨fn,tmps,.inRegion ops (i::rest)::k,false⟩ w:=by
 intro R W m' τ hw hm ht hi;obtain⟨fn',bQ,yW,yL⟩:=m';obtain rfl:=hm.fn;obtain rfl:=hm.todo;obtain rfl:=hm.ret;have lP:(bH bQ C.ds.ds).eval x=.chan (some c):=Xt hw hK (hx▸Gw (C:=C) hm.tmps rQ);have uE:=Hn (C:=C) hm.tmps cD;have hb:(C.ds.base fn).kind≠ .early:=C.ds.ok;obtain⟨k1,k2,k3⟩:=hv R W _ hw (Gw (C:=C) (d:=C.ds.ds) hm.tmps Dh);obtain⟨p1,p2⟩:=oR R τ W hi;rw[mI,Cx.B_none ha];refine b6.usr rfl ?_;unfold mF;rw[pT];refine⟨rfl,_,.tuple #[],τ.cut ps,λaI s=>?_,k1,λb h=>h.1,rfl,λb h=>.inl h,(λa ha=>?_),?_⟩
 .obtain⟨e1,e2⟩:=zrR (p:=C.p) (ρ:=(bH bQ C.ds.ds).eval) hop lP rfl aI
  rw[stepG_comm ho uE hb e1];unfold wL;rw[e2,Bg]
 .rw[k2] at ha
  obtain⟨q1,q2,q3,_⟩:=p1 a ha;exact⟨q1,λe=>e.2 ha,q2,q3⟩
 .rw[k3,zcU ho]
  rw[<-Cx.B_none ha];refine h1 R W _ (τ.cut ps) hw ⟨rfl,rfl,rfl,Ja (C:=C) hm.tmps xW,Jn (C:=C) hm.pins lG⟩ (λa b x=>⟨(ht a b x).1,λz=>⟨(ht a b x).2 z,λhb=>(p1 b hb).2.2.2 a x⟩⟩) p2
theorem BO.recvK (ha:C.alone=none)(hI:fE C){ct:aM}{ok:Bool}{z:aF}{nx:aF->L}{sh:L}
 (ho:ops[i]? =some o) (cD:dD o (dR ops tmps)=true) (hop:o.op=.recv ct x ok) (Fc:C.p.underlying ct=some (.chan dir e)) (jU:C.p.info? e=some ie) (hz:ie.zero=some z) (zmM:∀R,VR (SF C.fs) C.K R z z)
 (rQ:dP C.fs x=true) (hx:(bH tmps []).eval x=.chan (some g)) (hK:C.K g c) (lG:∀s,o.dst=some s->s∉C.S) (pT:C.A.act l=.recv c okv nx sh)
 (h1:∀v,okv v->∃a,a∈C.A.got l v/\∀K' ga w',C.K.le K'->K' ga a->(w'=w\/w'=w.alloc o9)->∃vg,(∀R,VR (SF C.fs) K' R vg v)/\BO (C.upK K' C.I) (nx v) ⟨fn,(cC ⟨tmps,[]⟩ o.dst (recvd ok vg true)).tmps,.inRegion ops rest::k,false⟩ w')
 (h2:C.A.cl l->BO C sh ⟨fn,(cC ⟨tmps,[]⟩ o.dst (recvd ok z false)).tmps,.inRegion ops rest::k,false⟩ w):BO C l ⟨fn,tmps,.inRegion ops (i::rest)::k,false⟩ w:=by
 intro R W m' τ hw hm ht hi;obtain⟨fn',bQ,yW,yL⟩:=m';obtain rfl:=hm.fn;obtain rfl:=hm.todo;obtain rfl:=hm.ret;have lP:(bH bQ C.ds.ds).eval x=.chan (some c):=Xt hw hK (hx▸Gw (C:=C) hm.tmps rQ);have uE:=Hn (C:=C) hm.tmps cD;have hb:(C.ds.base fn).kind≠ .early:=C.ds.ok;have za5:∀K' vg v' b,VR (SF C.fs) K' R vg v'->VR (SF C.fs) K' R (recvd ok vg b) (recvd ok v' b):=λK' vg v' b h=>by
  unfold recvd
  cases ok with
  |false=>exact h
  |true=>
   simp only[if_true];exact VR.tuple' (by
    have:=bK.empty (S:=SF C.fs) (K:=K') (R:=R);exact(this.push h).push (.bool b))
 rw[mI,Cx.B_none ha];refine b6.usr rfl ?_;unfold mF;rw[pT];refine⟨rfl,z,ok,λaI s=>?_,λv hv aI s hg=>?_,λmL=>?_⟩
 .obtain⟨e1,e2⟩:=zpf (p:=C.p) (ρ:=(bH bQ C.ds.ds).eval) hop Fc jU hz lP aI
  rw[stepG_comm ho uE hb e1];unfold wL;rw[e2,Bg]
 .obtain⟨a,zD9,hB⟩:=h1 v hv
  obtain⟨a1,a2,a3⟩:=hg a zD9;have dI:C.Rel R w aI:=Cx.Rel.suf (C:=C) hw ht s;have yI:=hI.suf _ _ _ _ hi s;have go:∀K' ga w',C.K.le K'->K' ga a->(w'=w\/w'=w.alloc o9)->cT (SF C.fs) K' R (oZ C.p) C.St w' aI->b6 C.p C.ty C.Wg C.A C.Fin C.main (.usr (nx v)) 0 τ (Conc.served (G ((C.ds.base fn).at ⟨bQ,C.ds.ds⟩ (.inRegion ops (i::rest)::k)) C.base) (recvd ok v true)) aI:=λK' ga w' hle zbv jR hr=>by
   obtain⟨vg,zjF,zFk⟩:=hB K' ga w' hle zbv jR;rw[zcU ho,<-Cx.B_none ha];exact zFk R aI _ τ hr ⟨rfl,rfl,rfl,Ja (C:=C.upK K' C.I) (bK.monoK hle hm.tmps) (za5 K' _ _ _ (zjF R)),Jn (C:=C) hm.pins lG⟩ ht yI
  have hR:∀b,¬R b a:=λb x=>by
   by_cases hs:C.St b
   .exact a3 ((ht b a x).1 hs)
   .exact a2 ((ht b a x).2 hs)
  by_cases hk:∃b,C.K b a
  .obtain⟨b,bZ⟩:=hk
   exact go C.K b w (λ_ _ x=>x) bZ (.inl rfl) dI
  .exact go (C.K.add w.heap.size a) w.heap.size (w.alloc o9) (Pr.le_add _ _ _) (.inr ⟨rfl,rfl⟩) (.inr rfl) (cT.pushK dI a1 λb x=>x.elim (hR b) λy=>hk ⟨b,y⟩)
 .rw[zcU ho,<-Cx.B_none ha]
  exact h2 mL R W _ τ hw ⟨rfl,rfl,rfl,Ja (C:=C) hm.tmps (za5 _ _ _ _ (zmM R)),Jn (C:=C) hm.pins lG⟩ ht hi
theorem BO.close (ha:C.alone=none)(hI:fE C){tx:Tmp}{kS:Array aM}{nx:L}{fnf:Func}
 (ho:ops[i]? =some o) (cD:dD o (dR ops tmps)=true) (hop:o.op=.call {callee:=.builtin .close,args:=#[.tmp tx],argTypes:=kS}) (hx:(bH tmps []).eval (.tmp tx)=.chan (some g)) (hK:C.K g c) (lG:∀s,o.dst=some s->s∉C.S) (pT:C.A.act l=.close c nx)
 (hf:C.p.funcs[fn]? =some fnf) (Bf:fnf.norace=false)
 (hp:∀R τ W,C.I R τ W->τ.pass c/\¬τ.own c/\¬τ.still c/\∀s r,C.I R τ (W.setChan c 0 #[] true s r false))
 (h1:BO C nx ⟨fn,(cC ⟨tmps,[]⟩ o.dst (.tuple #[])).tmps,.inRegion ops rest::k,false⟩ w):BO C l ⟨fn,tmps,.inRegion ops (i::rest)::k,false⟩ w:=by
 intro R W m' τ hw hm ht hi;obtain⟨fn',bQ,yW,yL⟩:=m';obtain rfl:=hm.fn;obtain rfl:=hm.todo;obtain rfl:=hm.ret;have lP:(bH bQ C.ds.ds).eval (.tmp tx)=.chan (some c):=Xt hw hK (hx▸Gw (C:=C) (x:=.tmp tx) hm.tmps rfl);have Af:bQ[tx]?.getD aA=.chan (some c):=by simpa[wH] using lP
 have uE:=Hn (C:=C) hm.tmps cD;have hb:(C.ds.base fn).kind≠ .early:=C.ds.ok;obtain⟨p1,p2,p3,_⟩:=hp R τ W hi;rw[mI,Cx.B_none ha];refine b6.usr rfl ?_;unfold mF;rw[pT];refine⟨?_,p1,λaI s s' r' hc=>?_⟩
 .obtain⟨dst,yP,type,pos,after,guard⟩:=o
  simp only at hop;subst hop;simp[mayWake,G,dH.at,bC.frame,ho,Dk.base]
 .have e1:(aS (bH bQ C.ds.ds).eval o).run C.p aI=.ok (.value (.tuple #[])) (aI.setChan c 0 #[] true s' r' false)/\(aS (bH bQ C.ds.ds).eval o).events C.p aI #[]=closeEvents c:=by
   obtain⟨dst,yP,type,pos,after,guard⟩:=o;simp only at hop;subst hop;constructor
   .simp[aS,go_sem,resolve,Af,invoke,run_close_open _ _ hc,K9]
   .simp[aS,go_sem,resolve,Af,invoke,events_close_open _ _ hc,closeEvents]
  have aY:=zlZ (main:=C.main) (rest:=rest) (k:=k) (cs:=C.base) ho uE hb e1.1;have hl:wL C.p (C.ds.base fn).fn ⟨bQ,C.ds.ds⟩ o aI=closeEvents c:=by
   unfold wL;rw[e1.2];refine seen_eq ?_ ?_
   .show(C.p.funcs[fn]?).any (·.norace)=false
    rw[hf];simp[Bf]
   .intro e he f
    simp only[closeEvents,List.mem_toArray,jL,lZ,or_false] at he;rcases he with rfl|rfl<;>simp
  rw[hl] at aY;refine⟨_,aY,rfl,?_⟩;have dI:C.Rel R w aI:=Cx.Rel.suf (C:=C) hw ht s;have yI:=hI.suf _ _ _ _ hi s;have hR:∀b,¬R b c:=λb x=>by
   by_cases hs:C.St b
   .exact p3 ((ht b c x).1 hs)
   .exact p2 ((ht b c x).2 hs)
  have Es:cC ⟨bQ,C.ds.ds⟩ o.dst (.tuple #[])=⟨(cC ⟨bQ,C.ds.ds⟩ o.dst (.tuple #[])).tmps,C.ds.ds⟩:=by cases o.dst<;>rfl
  rw[Es,<-mI,<-Cx.B_none ha];exact h1 R _ ⟨fn,_,_,false⟩ τ (cT.setC dI hR _ _ _ _ _ _) ⟨rfl,rfl,rfl,Ja (C:=C) hm.tmps (VR.tuple' .empty),Jn (C:=C) hm.pins lG⟩ ht ((hp R τ aI yI).2.2.2 s' r')
end
end Go.Mt
namespace Go.Mt
open Go.Conc Go.Tt Go.RowKit Go.Conc.Lib Go.ConcR.Gen
open Go.ConcR (KK wgBlock WgAt stA smA rd wr mk Payload DC0)
structure IQ (W0:aE)(St:Nat->Prop)(Shun:Loc->Prop)(Wg:Nat)(SS:Nat->Prop)(R0:Pr)(Fz:Nat->Prop)(Wf:aE)(qs chs:List Nat)(R:Pr)(τ:cF)(W:aE):Prop where
 x:IM2 W0 St Shun Wg SS R0 Fz Wf chs R τ W
 pass:∀c∈qs,τ.pass c/\¬τ.own c/\¬τ.still c/\c<W.heap.size/\c≠Wg
section
variable {W0:aE}{St:Nat->Prop}{Shun:Loc->Prop}{Wg:Nat}{SS:Nat->Prop}{R0:Pr}{Fz:Nat->Prop}{Wf:aE}{qs chs:List Nat}
theorem zgw {ty:aM}(vI:∀b,b<W0.heap.size->SS b)(hF:∀b,Fz b->SS b)(nO:W0.heap.size<=Wg):IX ty Wg (IQ W0 St Shun Wg SS R0 Fz Wf qs chs):=by
 have hx:=zoE (ty:=ty) (St:=St) (Shun:=Shun) (Wg:=Wg) (R0:=R0) (Wf:=Wf) (chs:=chs) (Fz:=Fz) vI hF nO;refine⟨λR τ W aV h s=>⟨hx.suf _ _ _ _ h.x s,λc hc=>?_⟩,λR τ W a v h ha=>⟨hx.cell _ _ _ _ _ h.x ha,λc hc=>?_⟩,λR τ W d h=>⟨hx.at_ _ _ _ d h.x,h.pass⟩,λR τ W h=>h.x.x.im.rel⟩
 .obtain⟨h1,h2,h3,h4,h5⟩:=h.pass c hc
  exact⟨h1,h2,h3,lC h4 s.size,h5⟩
 .obtain⟨h1,h2,h3,h4,h5⟩:=h.pass c hc
  exact⟨h1,h2,h3,by rw[I2];exact h4,h5⟩
variable {L:Type}{C:Cx L}
theorem zkB (hC:C.I=yS C.ty C.Wg (IQ W0 St Shun C.Wg SS R0 Fz Wf qs chs))(aY:∀a,St a->C.St a)(vI:∀b,b<W0.heap.size->SS b)(hF:∀b,Fz b->SS b)(nO:W0.heap.size<=C.Wg):fE C:=by
 have h0:=im2_ok (C:={C with I:=yS C.ty C.Wg (IM2 W0 St Shun C.Wg SS R0 Fz Wf chs)}) rfl aY vI hF nO;have hx:=zgw (ty:=C.ty) (St:=St) (Shun:=Shun) (R0:=R0) (Fz:=Fz) (Wf:=Wf) (qs:=qs) (chs:=chs) vI hF nO;refine⟨λR τ W aV h s=>?_,λR τ W R1 W1 h ht hs=>?_⟩<;>rw[hC] at*
 .exact⟨hx.suf _ _ _ _ h.1 s,s.live h.2⟩
 .obtain⟨k1,k2⟩:=h0.step R τ W R1 W1 ⟨h.1.x,h.2⟩ ht hs
  refine⟨⟨k1,λc hc=>?_⟩,k2⟩;obtain⟨h1,h2,h3,h4,h5⟩:=h.1.pass c hc;exact⟨h1,λe=>e.elim h2 λy=>by omega,h3,lC h4 hs.size,h5⟩
variable {R:Pr}{τ:cF}{W:aE}
theorem zus (h:IQ W0 St Shun Wg SS R0 Fz Wf qs chs R τ W)(aN:∀a b,R a b->b<W.heap.size):
 IQ W0 St Shun Wg SS R0 Fz Wf qs (W.heap.size::chs) R (τ.grow W (W.alloc (.chan 0 #[] false 0 0 false))) (W.alloc (.chan 0 #[] false 0 0 false)):=by
 have sz:(W.alloc (.chan 0 #[] false 0 0 false)).heap.size=W.heap.size+1:=qR _ _;have zAV:=h.x.x.im.wg;refine⟨⟨⟨⟨⟨h.x.x.im.kp.os,h.x.x.im.kp.tape,h.x.x.im.kp.output,by rw[sz];have:=h.x.x.im.kp.size;omega,λb hb=>(Fp (by have:=h.x.x.im.kp.size;omega)).trans (h.x.x.im.kp.block b hb),h.x.x.im.kp.old⟩,⟨h.x.x.im.sh.old,h.x.x.im.sh.rel,λl b hl hb=>h.x.x.im.sh.new l b hl (by rw[sz] at hb;omega)⟩,h.x.x.im.still,by rw[sz];omega,λb hb=>?_,h.x.x.im.rel⟩,h.x.x.le,λb hb=>by
  obtain⟨l1,l2,l3,l4⟩:=h.x.x.fz b hb;exact⟨by rw[sz];omega,(Fp l1).trans l2,λe=>e.elim l3 λy=>by omega,l4⟩⟩,λb hb hs=>?_,λb hb=>by have:=h.x.slt b hb;rw[sz];omega,λc hc=>?_⟩,λc hc=>?_⟩
 .rcases hb with hb|⟨hb,_⟩
  .exact h.x.x.im.own b hb
  .omega
 .rcases hb with hb|⟨hb,_⟩
  .exact h.x.dis b hb hs
  .have:=h.x.slt b hs;omega
 .rcases jL.1 hc with rfl|hc
  .exact⟨.inr ⟨aX _,by rw[sz];omega⟩,Ee _ _,λa x=>by have:=aN a _ x;omega⟩
  .obtain⟨h1,h2,h3⟩:=h.x.ch c hc
   exact⟨.inl h1,(Fp h2.lt).trans h2,h3⟩
 .obtain⟨h1,h2,h3,h4,h5⟩:=h.pass c hc
  exact⟨h1,λe=>e.elim h2 λy=>by omega,h3,by rw[sz];omega,h5⟩
theorem iq_cut {c:Nat}(h:IQ W0 St Shun Wg SS R0 Fz Wf qs [c] R τ W):(∀a∈[c],τ.own a/\¬τ.still a/\Jq W a/\∀b,¬R b a)/\IQ W0 St Shun Wg SS R0 Fz Wf qs [] R (τ.cut [c]) W:=by
 refine⟨λa ha=>?_,⟨⟨⟨⟨h.x.x.im.kp,h.x.x.im.sh,h.x.x.im.still,h.x.x.im.wg,λb hb=>h.x.x.im.own b hb.1,h.x.x.im.rel⟩,h.x.x.le,λb hb=>let⟨l1,l2,l3,l4⟩:=h.x.x.fz b hb;⟨l1,l2,λe=>l3 e.1,l4⟩⟩,λb hb hs=>h.x.dis b hb.1 hs,h.x.slt,λc hc=>by cases hc⟩,λc hc=>?_⟩⟩
 .obtain⟨h1,h2,h3⟩:=h.x.ch a ha
  exact⟨h1,λhs=>h.x.dis a h1 hs,h2,h3⟩
 .obtain⟨h1,h2,h3⟩:=h.pass c hc
  exact⟨h1,λe=>h2 e.1,h3⟩
theorem zFx (h:IQ W0 St Shun Wg SS R0 Fz Wf qs chs R τ W){c:Nat}(hc:c∈qs)(s r:Nat)(aY:∀b,b<W0.heap.size->SS b)(hF:∀b,Fz b->SS b):IQ W0 St Shun Wg SS R0 Fz Wf qs chs R τ (W.setChan c 0 #[] true s r false):=by
 have sz:(W.setChan c 0 #[] true s r false).heap.size=W.heap.size:=by simp[K9]
 have ne:∀b,b≠c->(W.setChan c 0 #[] true s r false).heap[b]? =W.heap[b]? :=λb hb=>by simp only[K9];rw[jQ (Ne.symm hb)]
 obtain⟨p1,p2,p3,p4,p5⟩:=h.pass c hc;refine⟨⟨⟨⟨⟨h.x.x.im.kp.os,h.x.x.im.kp.tape,h.x.x.im.kp.output,by rw[sz];exact h.x.x.im.kp.size,λb hb=>(ne b λe=>?_).trans (h.x.x.im.kp.block b hb),h.x.x.im.kp.old⟩,⟨h.x.x.im.sh.old,h.x.x.im.sh.rel,λl b hl hb=>h.x.x.im.sh.new l b hl (by rw[sz] at hb;exact hb)⟩,h.x.x.im.still,by rw[sz];exact h.x.x.im.wg,h.x.x.im.own,h.x.x.im.rel⟩,h.x.x.le,λb hb=>by
  obtain⟨l1,l2,l3,l4⟩:=h.x.x.fz b hb;refine⟨by rw[sz];exact l1,(ne b λe=>?_).trans l2,l3,l4⟩;subst e;exact p3 (by rw[h.x.x.im.still];exact hF b hb)⟩,h.x.dis,λb hb=>by rw[sz];exact h.x.slt b hb,λa ha=>?_⟩,λa ha=>by rw[sz];exact h.pass a ha⟩
 .subst e
  exact p3 (by rw[h.x.x.im.still];exact aY b hb)
 .obtain⟨h1,h2,h3⟩:=h.x.ch a ha
  exact⟨h1,(ne a λe=>p2 (e▸h1)).trans h2,h3⟩
def Jy (τ:cF)(R:Pr)(X:Nat->Bool)(N:Nat)(qs:List Nat):cF:=⟨λb=>τ.own b/\b≠N/\¬∃a,R a b/\X a=true,λb=>τ.still b\/∃a,R a b/\X a=true,λb=>b∈qs++[N]⟩
def Yu (τ:cF)(R:Pr)(X:Nat->Bool):cF:=⟨λ_=>False,λb=>τ.still b\/∃a,R a b/\X a=true,λ_=>False⟩
variable {S:aO->Prop}{K:Pr}{G:Gp}{eP:Nat->Prop}{w:aE}{X:Nat->Bool}{N:Nat}
theorem parts_q (hT:vH τ R eP)(h:IQ W0 St Shun Wg SS R0 Fz Wf qs [N] R τ W):zmB τ (Jy τ R X N qs) (Yu τ R X) [N] W:=by
 have hx:∀b,(∃a,R a b/\X a=true)->τ.still b\/τ.own b:=λb ⟨a,h,_⟩=>by
  by_cases hs:eP a
  .exact .inl ((hT a b h).1 hs)
  .exact .inr ((hT a b h).2 hs)
 obtain⟨n1,n2,n3⟩:=h.x.ch N (sE.2 rfl);refine⟨λb hb=>?_,λb hb=>?_,λb hb=>?_,λb hb=>⟨id,?_,id⟩,λb hb=>hb.elim,λa ha=>?_⟩
 .rcases hb with hb|hb
  .exact hb.1
  .exact hb.elim
 .rcases hb with(hb|hb)|hb|hb
  .exact .inl hb
  .exact hx b hb
  .exact .inl hb
  .exact hx b hb
 .rcases hb with hb|hb
  .rcases Er.1 hb with hb|hb
   .exact .inl (h.pass b hb).1
   .obtain rfl:=sE.1 hb
    exact .inr (.inl n1)
  .exact hb.elim
 .rintro(hs|hs)
  .exact h.x.dis b hb.1 hs
  .exact hb.2.2 hs
 .obtain rfl:=sE.1 ha
  refine⟨n1,n2,λh=>h.2.1 rfl,?_,id,?_⟩
  .rintro(hs|⟨g,hg,_⟩)
   .exact h.x.dis a n1 hs
   .exact n3 g hg
  .rintro(hs|⟨g,hg,_⟩)
   .exact h.x.dis a n1 hs
   .exact n3 g hg
theorem zD5 (hw:cT S K R G eP w W)(hT:vH τ R eP)(hN:∀a,¬R a N):vH (Jy τ R X N qs) R (λa=>eP a\/X a=true):=λa b x=>by
 refine⟨λh=>?_,λh=>?_⟩
 .rcases h with h|h
  .exact .inl ((hT a b x).1 h)
  .exact .inr ⟨a,x,h⟩
 .refine⟨(hT a b x).2 λhs=>h (.inl hs),λe=>hN a (e▸x),?_⟩
  rintro⟨a',x',h'⟩;obtain rfl:=hw.inj' a a' b (.inl x) (.inl x');exact h (.inr h')
def zDm:vH (Yu τ R X) (rX R X) (λa=>X a=true):=λa b x=>⟨λh=>.inr ⟨a,x.1,x.2⟩,λh=>absurd x.2 h⟩
theorem iq_qm (hw:cT S K R G eP w W)(hT:vH τ R eP)(h:IQ W0 St Shun Wg SS R0 Fz Wf qs [N] R τ W):IQ W0 St Shun Wg (Jy τ R X N qs).still R (Gv R eP X) W (qs++[N]) [] R (Jy τ R X N qs) W:=by
 obtain⟨n1,n2,n3⟩:=h.x.ch N (sE.2 rfl);have hx:∀b,(∃a,R a b/\X a=true)->∀c∈qs,b≠c:=λb ⟨a,h',_⟩ c hc e=>by
  subst e;obtain⟨_,p2,p3,_⟩:=h.pass b hc;by_cases hs:eP a
  .exact p3 ((hT a b h').1 hs)
  .exact p2 ((hT a b h').2 hs)
 refine⟨⟨⟨⟨h.x.x.im.kp,h.x.x.im.sh,rfl,h.x.x.im.wg,λb hb=>h.x.x.im.own b hb.1,h.x.x.im.rel⟩,.refl R,λb hb=>by
  obtain⟨a,x,hh⟩:=hb;refine⟨(hw.lt a b (.inl x)).2,rfl,λho=>?_,h.x.x.im.rel a b x⟩;rcases hh with hh|hh
  .exact h.x.dis b ho.1 ((hT a b x).1 hh)
  .exact ho.2.2 ⟨a,x,hh⟩⟩,λb hb hs=>?_,λb hb=>?_,λc hc=>by cases hc⟩,λc hc=>?_⟩
 .rcases hs with hs|hs
  .exact h.x.dis b hb.1 hs
  .exact hb.2.2 hs
 .rcases hb with hb|⟨a,x,_⟩
  .exact h.x.slt b hb
  .exact(hw.lt a b (.inl x)).2
 .refine⟨hc,?_⟩
  rcases Er.1 hc with kM|kM
  .obtain⟨_,p2,p3,p4,p5⟩:=h.pass c kM
   exact⟨λe=>p2 e.1,λe=>e.elim p3 λy=>hx c y c kM rfl,p4,p5⟩
  .obtain rfl:=sE.1 kM
   refine⟨λe=>e.2.1 rfl,?_,n2.lt,h.x.x.im.own c n1⟩;rintro(hs|⟨g,hg,_⟩)
   .exact h.x.dis c n1 hs
   .exact n3 g hg
def tauWm (τ:cF):cF:=⟨λ_=>False,τ.still,λ_=>False⟩
theorem parts_w (h:IQ W0 St Shun Wg SS R0 Fz Wf qs [] R τ W):zmB τ (tauWm τ) τ [] W:=
 ⟨λb hb=>hb.elim (λx=>x.elim) id,λb hb=>.inl (hb.elim id id),λb hb=>hb.elim (λx=>x.elim) .inl,λb hb=>hb.elim,λb hb=>⟨λhs=>h.x.dis b hb hs,id⟩,λa ha=>by cases ha⟩
end
section
variable [Payload]{Lk:WgLink}
variable {L:Type}{C:Cx L}{l:L}{I0:Pr->cF->aE->Prop}
theorem BO.doneD (H:WgLib C.p Lk)(ha:C.alone=none)(zgY:C.main=false)(Cc:C.ty=Lk.tWg)(zd5:C.I=yS Lk.tWg C.Wg I0)(hX:IX Lk.tWg C.Wg I0)(zI4:C.ds=⟨[dcall Lk.done #[.pointer (some ⟨C.Wg,0,none⟩)]],.deferred,aQ⟩)(sC:C.base=[wF C.p])
 {f:aO} {fn:Func} (hf:C.p.funcs[f]? =some fn) (hr:fn.results=#[]) (pT:C.A.act l=.done) {T:Array aF} {todo:List eE} {w:aE} (tJ:∀R τ W,C.Rel R w W->I0 R τ W->C.A.dep l W):BO C l ⟨f,T,todo,true⟩ w:=by
 intro R W m' τ hw hm ht hi;obtain⟨fn',T',yW,yL⟩:=m';obtain rfl:=hm.fn;obtain rfl:=hm.todo;obtain rfl:=hm.ret;rw[zd5] at hi;have kf:=zrC (C:=C) (w:=w) Cc hX ht;rw[zlR,Cx.B_none ha,zgY,Cc,zI4,sC];refine Ml rfl rfl (λaV s=>stepG_unwind_enter rfl H.f_done (nm_done Lk) rfl) λaV s=>?_;exact doneW (F:=λW=>C.Rel R w W/\I0 R τ W) (Fin:=C.Fin) H pT kf (λW' h=>tJ R τ W' h.1 h.2) (c:={(baseD f).at ⟨T',[]⟩ todo with mode:=.returning}) (cs:=[wF C.p]) rfl (zzP hf hr T' todo) aV ⟨kf.suf _ _ s ⟨hw,hi.1⟩,s.live hi.2⟩
end
variable [Payload]{Lk:WgLink}
section
variable {L:Type}{p:bS}{A:jP L}{Fin:bC->aE->Prop}{Wg:Nat}{l:L}
theorem zGE (H:WgLib p Lk)(pT:A.act l=.wait)(N6:∀(n:Nat) g w,Goes p true AtRel DC0 Fin n g w->Fin g w){fn:aO}{T:Array aF}{zEr ops:Array aZ}{id s:Nat}{o:aZ}{kS:Array aM}{tail:Code}{base:List dH}{τ:cF}{W:aE}
 (zll:ops=#[o]) (hg:o.guard=none) (hop:o.op=.call ⟨.value (.func Lk.wait),#[.tmp s],kS⟩) (hs:T.getD s aA=.pointer (some ⟨Wg,0,none⟩)) (mY:WgLive Lk.tWg Wg W)
 (h:∀Wn d,zct A Wn->Fin (G ((Dk.nil.base fn).at ⟨(cC ⟨T,[]⟩ o.dst (.tuple #[])).tmps,[]⟩ [.inRegion ops [],.code tail]) base) (Wn.at d)):
 b6 p Lk.tWg Wg A Fin true (.usr l) 0 τ (G ((Dk.nil.base fn).at ⟨T,[]⟩ (.inRegion zEr []::[.code (.seq (.region id ops false) tail)])) base) W:=by
 subst zll;have ho:(#[o]:Array aZ)[0]? =some o:=rfl;have cD:dD o (dR #[o] T)=true:=by unfold dD;rw[hg]
 have hb:=Dk.nil.ok;have Es:∀v,cC ⟨T,[]⟩ o.dst v=⟨(cC ⟨T,[]⟩ o.dst v).tmps,[]⟩:=λv=>by cases o.dst<;>rfl
 have hr:gN (#[o]:Array aZ).size=[0]:=rfl;refine Ml rfl rfl (λaV s1=>stepG_region_end) λW1 s1=>?_;refine Ml rfl rfl (λaV s1=>stepG_seq) λW2 s2=>?_;refine Ml rfl rfl (λaV s1=>stepG_region) λW3 s3=>?_;rw[hr];refine Ml rfl rfl (g':=G ((Conc.base Lk.wait).at ⟨#[.pointer (some ⟨Wg,0,none⟩),aA,aA,aA,aA,aA,aA,aA,aA,aA,aA,aA,aA,aA,aA,aA,aA,aA,aA,aA,aA,aA,aA,aA,aA,aA,aA,aA,aA,aA,aA,aA,aA,aA,aA,aA,aA,aA,aA,aA,aA,aA,aA,aA,aA,aA,aA,aA,aA,aA,aA,aA,aA,aA,aA,aA,aA,aA,aA,aA,aA,aA,aA,aA,aA,aA,aA,aA,aA,aA,aA,aA,aA,aA,aA,aA,aA,aA,aA,aA,aA,aA,aA,aA],[]⟩ [.code (body_wait Lk)]) ((Dk.nil.base fn).at ⟨T,[]⟩ (.inRegion #[o] [0]::[.code tail])::base)) (λGc s4=>?_) λGc s4=>?_
 .obtain⟨x1,x2⟩:=zbs (p:=p) (o:=o) hop (ρ:=(bH T []).eval) (λg=>rfl) H.f_wait rfl rfl Gc
  have sZ:(#[.tmp s]:Array cN).map (bH T []).eval=#[.pointer (some ⟨Wg,0,none⟩)]:=by simp only[uS,fK,tL,wH];rw[hs]
  rw[sZ] at x1;have zbc:=stepG_enter (main:=true) (b:=Dk.nil.base fn) (a:=⟨T,[]⟩) (rest:=[]) (cs:=base) (k:=[.code tail]) ho cD hb x1;rw[zbc];unfold wL;rw[x2,Bg,zzr H]
 .have kf:=G0.triv Lk.tWg Wg τ
  refine zai (A:=A) (b₀:=Dk.nil.base fn) (a₀:=⟨T,[]⟩) (ops₀:=#[o]) (i₀:=0) (rest₀:=[]) (k₀:=[.code tail]) (cs:=base) (Fin:=Fin) (l:=l) (Wg:=Wg) H pT kf N6 (λWn _ _ hD d=>?_) Gc ⟨trivial,s4.live (s3.live (s2.live (s1.live mY)))⟩;have:=h Wn d hD;rw[ho];simp only[vC];rw[Es];exact this
end
end Go.Mt
namespace Go.Mt
open Go.Conc Go.Tt
open Go.ConcR (KK wgBlock WgAt stA smA rd wr)
structure pR where
 p:bS
 gs:aO->Bool
 fs:aO->Bool
 ty:aM
 Wg:Nat
 N:Nat
 W:List fG
 D:aE->Prop
 Fin:bC->aE->Prop
 St:Nat->Prop
 W0:aE
 StI:Nat->Prop
 Shun:Loc->Prop
 SS:Nat->Prop
 R0:Pr
 Fz:Nat->Prop
 Wf:aE
 qs:List Nat
def pR.I (d:pR)(Q:Pr->Prop)(chs:List Nat):Pr->cF->aE->Prop:=λR τ W=>yS d.ty d.Wg (IQ d.W0 d.StI d.Shun d.Wg d.SS d.R0 d.Fz d.Wf d.qs chs) R τ W/\Q R
def pR.cx (d:pR)(K:Pr)(Q:Pr->Prop)(chs:List Nat)(base:List dH)(ds:Dk)(pin:List (Nat×aF)):Cx gQ:=
 {p:=d.p,gs:=d.gs,fs:=d.fs,ty:=d.ty,Wg:=d.Wg,A:=Ce d.N d.W d.D,Fin:=d.Fin,main:=false,base:=base,ds:=ds,K:=K,St:=d.St,I:=d.I Q chs,pin:=pin}
def Up (Q:Pr->Prop):Prop:=∀R R':Pr,R.le R'->Q R->Q R'
structure pR.Ok (d:pR):Prop where
 st:∀a,d.StI a->d.St a
 ss:∀b,b<d.W0.heap.size->d.SS b
 fz:∀b,d.Fz b->d.SS b
 low:d.W0.heap.size<=d.Wg
 fit:vM (PS d.p d.gs) d.fs
theorem pR.sub_eq (d:pR)(K:Pr)(Q:Pr->Prop)(chs:List Nat)(base:List dH)(ds:Dk)(pin:List (Nat×aF))(m':Fm)(n5:Pr):
 (d.cx K Q chs base ds pin).sub m' n5=d.cx K (λR=>Q R/\n5.le R) chs (fx [] ds m'::base) .nil []:=by
 have e:(λR τ W=>d.I Q chs R τ W/\n5.le R)=d.I (λR=>Q R/\n5.le R) chs:=by
  funext R τ W;exact propext and_assoc
 unfold Cx.sub pR.cx;simp only;rw[e]
def Up.and {Q:Pr->Prop}(h:Up Q)(n5:Pr):Up (λR=>Q R/\n5.le R):=λR R' hl hq=>⟨h R R' hl hq.1,hq.2.trans hl⟩
section
variable {d:pR}{K:Pr}{Q:Pr->Prop}{chs:List Nat}{base:List dH}{ds:Dk}{pin:List (Nat×aF)}
theorem pR.Ok.iok (H:d.Ok)(hQ:Up Q):fE (d.cx K Q chs base ds pin):=by
 have h0:=zkB (C:={d.cx K Q chs base ds pin with I:=yS d.ty d.Wg (IQ d.W0 d.StI d.Shun d.Wg d.SS d.R0 d.Fz d.Wf d.qs chs)}) rfl H.st H.ss H.fz H.low;exact⟨λR τ W aV h s=>⟨h0.suf R τ W aV h.1 s,h.2⟩,λR τ W R1 W1 h ht hs=>⟨h0.step R τ W R1 W1 h.1 ht hs,hQ R R1 hs.le h.2⟩⟩
structure WS where
 chs:List Nat
 K:Pr
 l:gQ
 T:Array aF
 w:aE
def pR.bo (d:pR)(Q:Pr->Prop)(base:List dH)(s:WS)(f:aO)(kk:List eE)(ret:Bool):Prop:=BO (d.cx s.K Q s.chs base .nil []) s.l ⟨f,s.T,kk,ret⟩ s.w
def CW (d:pR)(B:List Nat)(f:aO)(c:Code)(s:WS)(Φ:nZ->WS->Prop):Prop:=
 ∀(Q:Pr->Prop) (base:List dH) (kk:List eE),Up Q->(∀id∈B,∃k2,exitTo id kk=some k2)->(∀s',s.K.le s'.K->Φ .normal s'->d.bo Q base s' f kk false)->(∀id k2 s',s.K.le s'.K->exitTo id kk=some k2->Φ (.exit id) s'->d.bo Q base s' f k2 false)->
  (∀s' todo,s.K.le s'.K->Φ .ret s'->d.bo Q base s' f todo true)->d.bo Q base s f (.code c::kk) false
def CR (d:pR)(f:aO)(ops:Array aZ)(is:List Nat)(s:WS)(Φ:WS->Prop):Prop:=
 ∀(Q:Pr->Prop) (base:List dH) (kk:List eE),Up Q->(∀s',s.K.le s'.K->Φ s'->d.bo Q base s' f kk false)->d.bo Q base s f (.inRegion ops is::kk) false
def wX (K:Pr):K.le K:=λ_ _ x=>x
def vP {K K' zn0:Pr}(h:K.le K')(h':K'.le zn0):K.le zn0:=λ_ _ x=>h' _ _ (h _ _ x)
variable {f:aO}{s:WS}{Φ Ψ:nZ->WS->Prop}{B:List Nat}{c:Code}
def CW.skip (H:d.Ok)(h:Φ .normal s):CW d B f .skip s Φ:=λQ base kk hQ hB h1 h2 h3=>BO.skip (H.iok hQ) (h1 s (wX _) h)
def CW.ret (H:d.Ok)(h:Φ .ret s):CW d B f .ret s Φ:=λQ base kk hQ hB h1 h2 h3=>BO.ret (H.iok hQ) (h3 s _ (wX _) h)
def CW.seq (H:d.Ok){a b:Code}(h:CW d B f a s (λe s'=>match e with| .normal=>CW d B f b s' Φ|e=>Φ e s')):CW d B f (.seq a b) s Φ:=λQ base kk hQ hB h1 h2 h3=>
 BO.seq (H.iok hQ) (h Q base (.code b::kk) hQ (λid hid=>hB id hid) (λs' l x=>x Q base kk hQ hB (λs2 l2=>h1 s2 (vP l l2)) (λid k2 s2 l2=>h2 id k2 s2 (vP l l2)) (λs2 todo l2=>h3 s2 todo (vP l l2)))
  (λid k2 s' l e x=>h2 id k2 s' l e x) (λs' todo l x=>h3 s' todo l x))
def CW.cond (H:d.Ok){x:cN}{a b:Code}{t:Bool}(hx:dP d.fs x=true)(hc:(bH s.T []).eval x=.bool t)(h:CW d B f (if t then a else b) s Φ):CW d B f (.cond x a b) s Φ:=λQ base kk hQ hB h1 h2 h3=>
 BO.cond (H.iok hQ) hx hc (h Q base kk hQ hB h1 h2 h3)
theorem CW.exit (H:d.Ok){id:Nat}(n9:id∈B)(h:Φ (.exit id) s):CW d B f (.exit id) s Φ:=λQ base kk hQ hB h1 h2 h3=>by
 obtain⟨k2,e⟩:=hB id n9;exact BO.exit (H.iok hQ) e (h2 id k2 s (wX _) e h)
theorem CW.block (H:d.Ok){id:Nat}(h:CW d (id::B) f c s (λe s'=>match e with| .normal=>Φ .normal s'| .exit i=>if i=id then Φ .normal s' else Φ (.exit i) s'|e=>Φ e s')):CW d B f (.block id c) s Φ:=λQ base kk hQ hB h1 h2 h3=>by
 refine BO.block (H.iok hQ) (h Q base (.inBlock id::kk) hQ (λi hi=>?_) (λs' l x=>BO.inBlock (H.iok hQ) (h1 s' l x)) (λi k2 s' l e x=>?_) (λs' todo l x=>h3 s' todo l x))
 .by_cases e:i=id
  .subst e;exact⟨kk,by simp[exitTo]⟩
  .rcases jL.1 hi with hi|hi
   .exact absurd hi e
   .obtain⟨k2,h2⟩:=hB i hi
    exact⟨k2,by simp only[exitTo];rw[if_neg (by simpa using Ne.symm e)];exact h2⟩
 .simp only[exitTo] at e
  by_cases e1:i=id
  .subst e1
   rw[if_pos aQ] at e;obtain rfl:=cE e;simp only[if_pos rfl] at x;exact h1 s' l x
  .rw[if_neg (by simpa using Ne.symm e1)] at e
   simp only[if_neg e1] at x;exact h2 i k2 s' l e x
theorem CW.loop (H:d.Ok)(Inv:Nat->WS->Prop)(vN:∀n s,Inv n s->CW d B f c s (λe s'=>match e with| .normal=>∃n',n'<n/\Inv n' s'|e=>Φ e s')){n:Nat}(h0:Inv n s):CW d B f (.loop c) s Φ:=λQ base kk hQ hB h1 h2 h3=>by
 refine BO.loop (H.iok hQ) ?_;have key:∀n s2,s.K.le s2.K->Inv n s2->d.bo Q base s2 f (.code c:: .inLoop c::kk) false:=by
  intro n
  induction n using Nat.strongRecOn with
  |ind n ih=>
   intro s2 hl hi;refine vN n s2 hi Q base (.inLoop c::kk) hQ (λid hid=>hB id hid) (λs' l x=>?_) (λid k2 s' l e x=>h2 id k2 s' (vP hl l) e x) (λs' todo l x=>h3 s' todo (vP hl l) x);obtain⟨n',aN,gT⟩:=x;exact BO.inLoop (H.iok hQ) (ih n' aN s' (vP hl l) gT)
 exact key n s (wX _) h0
def CW.piece (H:d.Ok)(hc:oG d.p ⟨d.fs,d.gs,true⟩ c=true)(hf:vX d.p f)(qX:∀T,Code.wp d.p c (λe a' w'=>e=.normal/\Φ .normal {s with T:=a'.tmps,w:=w'}) ⟨s.T,[]⟩ (Tt.tp s.w T 0)):CW d B f c s Φ:=λQ base kk hQ hB h1 h2 h3=>
 BO.piece H.fit (H.iok hQ) hc hf (zAY c hc) λT=>Code.wp_mono (λe a' w' h=>⟨h.1,h1 {s with T:=a'.tmps,w:=w'} (wX _) h.2⟩) (qX T)
def CW.reg (H:d.Ok){id:Nat}{ops:Array aZ}(is:List Nat)(hr:gN ops.size=is)(h:CR d f ops is s (λs'=>Φ .normal s')):CW d B f (.region id ops false) s Φ:=λQ base kk hQ hB h1 h2 h3=>
 BO.regs (H.iok hQ) is hr (h Q base kk hQ (λs' l x=>h1 s' l x))
section
variable {ops:Array aZ}{i:Nat}{rest is:List Nat}{Φ:WS->Prop}{o:aZ}
def CR.nil (H:d.Ok)(h:Φ s):CR d f ops [] s Φ:=λQ base kk hQ h1=>BO.regEnd (H.iok hQ) (h1 s (wX _) h)
theorem CR.op (H:d.Ok)(ho:ops[i]? =some o)(cD:dD o (dR ops s.T)=true)(bV:rU d.p ⟨d.fs,d.gs,true⟩ o.op=true)
 (hx:∀T,∃v w',((aS (bH s.T []).eval o).run d.p (Tt.tp s.w T 0)=.ok (.value v) w'\/((aS (bH s.T []).eval o).run d.p (Tt.tp s.w T 0)=.ok .skip w'/\v=aA))/\CR d f ops rest {s with T:=(cC ⟨s.T,[]⟩ o.dst v).tmps,w:=w'} Φ):CR d f ops (i::rest) s Φ:=λQ base kk hQ h1=>
 BO.op H.fit (H.iok hQ) ho cD bV (λ_ _=>lZ) λT=>by
  obtain⟨v,w',e,h⟩:=hx T;exact⟨v,w',e,h Q base kk hQ h1⟩
structure CF (d:pR)(g:aO)(args:Array aF)(K:Pr)(l:gQ)(w:aE)(Ψ:Pr->gQ->aF->aE->Prop):Prop where
 ex:∃fnf cf,d.p.funcs[g]? =some fnf/\(fnf.name== "runtime.NumGoroutine")=false/\fnf.body=some cf/\Cw fnf.results.toList/\
  CW d [] g cf ⟨[],K,l,args++nI (fnf.ntmps-args.size) aA,w⟩ (λe s'=>(e=.normal\/e=.ret)/\s'.chs=[]/\∃v,(oH fnf.results.toList s'.T).run d.p s'.w=.ok v s'.w/\Ψ s'.K s'.l v s'.w)
theorem CR.call (H:d.Ok){g:aO}{args:Array cN}{kS:Array aM}{Ψ:Pr->gQ->aF->aE->Prop}(ho:ops[i]? =some o)(cD:dD o (dR ops s.T)=true)(hop:o.op=.call ⟨.value (.func g),args,kS⟩)(sZ:args.all (dP d.fs)=true)(tP:s.chs=[])
 (hc:CF d g (args.map (bH s.T []).eval) s.K s.l s.w Ψ) (hk:∀K' l' v w',s.K.le K'->Ψ K' l' v w'->CR d f ops rest ⟨[],K',l',(cC ⟨s.T,[]⟩ o.dst v).tmps,w'⟩ Φ):CR d f ops (i::rest) s Φ:=λQ base kk hQ h1=>by
 obtain⟨chs,K,l,T,w⟩:=s;simp only at*;subst tP;obtain⟨fnf,cf,g1,g2,g3,g4,g5⟩:=hc.ex;refine BO.callN (H.iok hQ) ho cD hop (Callee.static _ _) sZ g1 g2 g3 g4 λn5 m' hm=>?_;rw[pR.sub_eq];have fin:∀(s':WS) todo,K.le s'.K->(s'.chs=[]/\∃v,(oH fnf.results.toList s'.T).run d.p s'.w=.ok v s'.w/\Ψ s'.K s'.l v s'.w)->d.bo (λR=>Q R/\n5.le R) (fx [] .nil m'::base) s' g todo true:=λs' todo hl ⟨h2,v,h3,h4⟩=>by
  obtain⟨zDi,K',l',T',w'⟩:=s';simp only at*;subst h2;unfold pR.bo;simp only;rw[<-pR.sub_eq];refine BO.retN (C:=d.cx K' Q [] base .nil []) (H.iok hQ) (hm.upK hl _) rfl rfl (λ_ _=>lZ) g1 h3 ?_;have:=hk K' l' v w' hl h4 Q base kk hQ (λs' l2 x=>h1 s' (vP hl l2) x);unfold pR.bo at this;simp only[Fm.fin,ho,vC]
  cases hd:o.dst with
  |none=>rw[hd] at this;exact this
  |some s=>rw[hd] at this;exact this
 have e:(#[]:Array aF)++args.map (bH T []).eval++ #[]=args.map (bH T []).eval:=aQ;rw[e];refine g5 (λR=>Q R/\n5.le R) (fx [] .nil m'::base) [] (hQ.and n5) (λ_ h=>by cases h) (λs' hl x=>BO.fall (H.iok (hQ.and n5)) (fin s' [] hl x.2)) (λid k2 s' hl ee x=>by cases ee) (λs' todo hl x=>fin s' todo hl x.2)
variable {e:aM}{dir:Na}{ie:wW}
theorem CR.make (H:d.Ok){t:aM}(ho:ops[i]? =some o)(cD:dD o (dR ops s.T)=true)(hop:o.op=.makeChan t (.const (.int .i64 0)))(zdz:d.p.underlying t=some (.chan dir e))(jU:d.p.info? e=some ie)(tP:s.chs=[])
 (h:∀c,CR d f ops rest ⟨[c],s.K.add s.w.heap.size c,s.l,(cC ⟨s.T,[]⟩ o.dst (.chan (some s.w.heap.size))).tmps,s.w.alloc o9⟩ Φ):CR d f ops (i::rest) s Φ:=λQ base kk hQ h1=>by
 obtain⟨chs,K,l,T,w⟩:=s;simp only at*;subst tP;refine BO.makeK (H.iok hQ) ho cD hop zdz jU (λ_ _=>lZ) (I':=λc=>d.I Q [c]) (λR τ W hi ht aN=>?_) λc=>h c Q base kk hQ (λs' l2 x=>h1 s' (vP (Pr.le_add _ _ _) l2) x);obtain⟨⟨hi,hl⟩,hq⟩:=hi;refine⟨⟨zus hi aN,?_⟩,hq⟩;obtain⟨st,sm,hx⟩:=hl;have lP:=hx;exact⟨st,sm,(Fp (dO.1 lP).1).trans lP⟩
variable {x:cN}
theorem CR.ask (H:d.Ok){ans:Int}{y:cN}{k q g a ga:Nat}{kd cl:Int}(ho:ops[i]? =some o)(cD:dD o (dR ops s.T)=true)(hop:o.op=.send x y)(rQ:dP d.fs x=true)(Dh:dP d.fs y=true)(hl:s.l=.wk d.qs k)(hW:d.W[k]? =some (.ask q kd cl ans))(tP:s.chs=[a])
 (hx:(bH s.T []).eval x=.chan (some g)) (hg:s.K g (qa d.qs q)) (hy:(bH s.T []).eval y=.agg #[.int .i64 kd,.int .i64 cl,.chan (some ga)]) (ha:s.K ga a)
 (h:CR d f ops rest ⟨[],s.K,.wr d.qs k a,(cC ⟨s.T,[]⟩ o.dst aA).tmps,s.w⟩ Φ):CR d f ops (i::rest) s Φ:=λQ base kk hQ h1=>by
 obtain⟨chs,K,l,T,w⟩:=s;simp only at*;subst tP hl;refine BO.sendP (C:=d.cx K Q [a] base .nil []) rfl (H.iok hQ) ho cD hop rQ hx hg Dh (λ_ _=>lZ) (c:=qa d.qs q) (okv:=λv=>∃a,v=L9 kd cl a) (pub:=Qb) (nx:=Yw d.qs k) (ps:=[a]) (I':=d.I Q []) ?_ (λR W v' hw hv=>?_) (λR τ W hi=>?_) (h Q base kk hQ h1)
 .show eT d.N d.W (.wk d.qs k)=_
  simp only[eT,hW]
 .rw[hy] at hv
  obtain rfl:v'=L9 kd cl a:=by
   cases hv with
   |agg e1 e2=>
    rename_i bY;obtain⟨l'⟩:=bY
    match l',e1 with
    |[v0,v1,v2],_=>
     have h0:=e2 0 _ v0 rfl rfl;have h1:=e2 1 _ v1 rfl rfl;have h2:=e2 2 _ v2 rfl rfl;have h3:=Xt hw ha h2;cases h0;cases h1;subst h3;rfl
  exact⟨⟨a,rfl⟩,rfl,rfl⟩
 .obtain⟨⟨hi,hl⟩,hq⟩:=hi
  obtain⟨k1,k2⟩:=iq_cut hi;exact⟨k1,⟨k2,hl⟩,hq⟩
theorem CR.ans (H:d.Ok){ans:Int}{ct:aM}{k q a ga:Nat}{kd cl:Int}(ho:ops[i]? =some o)(cD:dD o (dR ops s.T)=true)(hop:o.op=.recv ct x false)(Fc:d.p.underlying ct=some (.chan dir e))(jU:d.p.info? e=some ie)(hz:ie.zero=some (.int .i64 0))
 (rQ:dP d.fs x=true) (hl:s.l=.wr d.qs k a) (hW:d.W[k]? =some (.ask q kd cl ans)) (tP:s.chs=[]) (hx:(bH s.T []).eval x=.chan (some ga)) (ha:s.K ga a)
 (h:CR d f ops rest ⟨[],s.K,.wk d.qs (k+1),(cC ⟨s.T,[]⟩ o.dst (.int .i64 ans)).tmps,s.w⟩ Φ):CR d f ops (i::rest) s Φ:=λQ base kk hQ h1=>by
 obtain⟨chs,K,l,T,w⟩:=s;simp only at*;subst tP hl;refine BO.recv (C:=d.cx K Q [] base .nil []) rfl (H.iok hQ) ho cD hop Fc jU hz (λ_=>.int _ _) rQ hx ha (λ_ _=>lZ) (okv:=Xn d.W k) (nx:=λ_=>.wk d.qs (k+1)) (sh:=.oD) rfl (λv hv=>?_) (λhc=>hc.elim);unfold Xn at hv;rw[hW] at hv;simp only at hv;subst hv;exact⟨.int .i64 ans,λ_=>.int _ _,h Q base kk hQ h1⟩
theorem CR.shut (H:d.Ok){tx:Tmp}{kS:Array aM}{k q g:Nat}{fnf:Func}(ho:ops[i]? =some o)(cD:dD o (dR ops s.T)=true)(hop:o.op=.call {callee:=.builtin .close,args:=#[.tmp tx],argTypes:=kS})(hf:d.p.funcs[f]? =some fnf)(Bf:fnf.norace=false)
 (hl:s.l=.wk d.qs k) (hW:d.W[k]? =some (.shut q)) (hq:q<d.qs.length) (tP:s.chs=[]) (hx:(bH s.T []).eval (.tmp tx)=.chan (some g)) (hg:s.K g (qa d.qs q))
 (h:CR d f ops rest ⟨[],s.K,.wk d.qs (k+1),(cC ⟨s.T,[]⟩ o.dst (.tuple #[])).tmps,s.w⟩ Φ):CR d f ops (i::rest) s Φ:=λQ base kk hQ h1=>by
 obtain⟨chs,K,l,T,w⟩:=s;simp only at*;subst tP hl;have hm:qa d.qs q∈d.qs:=by
  unfold qa;rw[Kl,lO hq];exact zsL hq
 refine BO.close (C:=d.cx K Q [] base .nil []) rfl (H.iok hQ) ho cD hop hx hg (λ_ _=>lZ) (c:=qa d.qs q) (nx:=.wk d.qs (k+1)) ?_ hf Bf (λR τ W hi=>?_) (h Q base kk hQ h1)
 .show eT d.N d.W (.wk d.qs k)=_
  simp only[eT,hW]
 .obtain⟨⟨hi,hl⟩,Ol⟩:=hi
  obtain⟨p1,p2,p3,p4,p5⟩:=hi.pass _ hm;refine⟨p1,p2,p3,λs r=>⟨⟨zFx hi hm s r H.ss H.fz,?_⟩,Ol⟩⟩;obtain⟨st,sm,hx⟩:=hl;have lP:=hx;refine⟨st,sm,?_⟩;show(W.setChan _ _ _ _ _ _ _).heap[d.Wg]? =_;simp only[K9,jQ p5];exact lP
end
end
section
variable {L:Type}{C:Cx L}{l:L}
theorem BO.draw (hI:fE C){fn:aO}{tmps:Array aF}{k:List eE}{w:aE}{id:Nat}{ops:Array aZ}(h:∀n,BO C l ⟨fn,tmps,.inRegion ops (Un (C.p.follows .mixedOrders) ops n)::k,false⟩ w):BO C l ⟨fn,tmps,.code (.region id ops true)::k,false⟩ w:=by
 intro R W m' τ hw hm ht hi;obtain⟨fn',bQ,yW,yL⟩:=m';obtain rfl:=hm.fn;obtain rfl:=hm.todo;obtain rfl:=hm.ret;rw[mI];refine Cx.ownQ rfl λaV s=>?_;have dI:C.Rel R w aV:=Cx.Rel.suf (C:=C) hw ht s;have yI:=hI.suf _ _ _ _ hi s;have aY:=stepG_region_draw (P:=C.p) (main:=C.main) (b:=C.ds.base fn) (a:=⟨bQ,C.ds.ds⟩) (k:=k) (cs:=C.base) (w:=aV) (id:=id) (ops:=ops);refine⟨_,{aV with drawn:=aV.drawn+1},_,aY,rfl,⟨rfl,rfl,rfl,aX _,λb _ _=>rfl⟩,λe he=>by simp at he,?_⟩;rw[<-mI];refine h _ R _ ⟨fn,bQ,_,false⟩ _ ⟨dI.inj,dI.inj',dI.lt,dI.low,dI.gle,dI.cont,dI.rest,dI.st,dI.np,dI.tb⟩ ⟨rfl,rfl,rfl,hm.tmps,hm.pins⟩ (λa b x=>⟨(ht a b x).1,λz=>.inl ((ht a b x).2 z)⟩) ?_;exact hI.step R τ aV R _ yI ht ⟨λ_ _ x=>x,rfl,rfl,rfl,aX _,λa b x=>.inl x,λb _ _=>rfl⟩
end
def dep (ops:Array aZ)(i j:Nat):Bool:=match ops[i]? with|some o=>o.after.any λe=>Em .any e&&e.on==j|none=>false
def linked (ops:Array aZ):List Nat->Bool
 |a::b::l=>dep ops b a&&linked ops (b::l)
 |_=>true
def Sb (ops:Array aZ):Nat->Nat->Nat->Bool
 |0,_,_=>false
 |n+1,i,j=>dep ops i j||(gN ops.size).any λm=>dep ops i m&&Sb ops n m j
def N3 (ops:Array aZ)(ch:List Nat):Bool:=linked ops ch&&decide ch.Nodup&&(match ch.getLast? with|some z=>(gN ops.size).all λj=>j==z||Sb ops ops.size z j|none=>false)
variable {ops:Array aZ}{i:Nat}
theorem zhs {j:Nat}(h:dep ops i j=true):∃o,ops[i]? =some o/\∃e∈o.after,Em .any e=true/\e.on=j:=by
 unfold dep at h;split at h
 .next o ho=>
  rw[Array.any_eq_true] at h;obtain⟨x,hx,h3⟩:=h;simp only[fV,beq_iff_eq] at h3;exact⟨o,ho,_,Array.getElem_mem hx,h3.1,h3.2⟩
 .cases h
theorem ztq :∀{ch:List Nat},linked ops ch=true->∀(j a b:Nat),ch[j]? =some a->ch[j+1]? =some b->dep ops b a=true
 |[],_,j,a,b,h1,_=>by simp at h1
 |[x],_,j,a,b,_,h2=>by simp at h2
 |x::y::l,h,0,a,b,h1,h2=>by
  simp at h1 h2;subst h1 h2;unfold linked at h;simp only[fV] at h;exact h.1
 |x::y::l,h,j+1,a,b,h1,h2=>by
  unfold linked at h;simp only[fV] at h;exact ztq h.2 j a b Q9 Ts
def Closed (ops:Array aZ)(bN:Array Bool):Prop:=∀(i:Nat) (o:aZ),ops[i]? =some o->bN.getD i false=true->∀e∈o.after,Em .any e=true->bN.getD e.on false=true
variable {bN:Array Bool}
theorem zzB (hc:Closed ops bN):∀(n i j:Nat),Sb ops n i j=true->bN.getD i false=true->bN.getD j false=true:=by
 intro n
 induction n with
 |zero=>intro i j h _;cases h
 |succ n ih=>
  intro i j h hl;unfold Sb at h;simp only[Eo,List.any_eq_true,fV] at h;rcases h with h|⟨m,_,h1,h2⟩
  .obtain⟨o,ho,e,he,hb,rfl⟩:=zhs h
   exact hc i o ho hl e he hb
  .obtain⟨o,ho,e,he,hb,rfl⟩:=zhs h1
   exact ih _ j h2 (hc i o ho hl e he hb)
variable {ch:List Nat}
theorem zHt {m:Nat}(h:ch.idxOf? i=some m):ch[m]? =some i/\m<ch.length:=by
 unfold zlE at h;obtain⟨h1,h2,_⟩:=zj7.1 h;rw[beq_iff_eq] at h2;exact⟨by rw[lO h1,h2],h1⟩
theorem zBC (h:i∉ch):ch.idxOf? i=none:=by
 unfold zlE;rw[List.findIdx?_eq_none_iff];intro x hx;simp only[beq_eq_false_iff_ne];exact λe=>h (e▸hx)
theorem zmP (hn:ch.Nodup){m:Nat}(h:ch[m]? =some i):ch.idxOf? i=some m:=by
 unfold zlE;obtain⟨h1,h2⟩:=kE.1 h;rw[zj7];refine⟨h1,by rw[h2];simp,λj hj=>?_⟩;simp only[Bool.not_eq_true,beq_eq_false_iff_ne];intro e;have:=(List.getElem_inj hn).1 (e.trans h2.symm);omega
def VV (ch:List Nat)(V0:Nat->aF)(vs:List aF)(i:Nat):Value:=match ch.idxOf? i with|some j=>vs.getD j aA|none=>V0 i
variable {t0:Array aF}
theorem rT.congr {vals Zd:Nat->aF}{t:Array aF}(h:rT ops vals t0 bN t)(hv:∀i,bN.getD i false=true->vals i=Zd i):rT ops Zd t0 bN t:=
 ⟨h.size,λi o d h1 h2 h3 h4=>by rw[<-hv i h4];exact h.got i o d h1 h2 h3 h4,h.old⟩
variable {σ:Type}{P:bS}{V0:Nat->aF}
theorem drawnGo {J:σ->List Nat->Array aF->aE->Prop}{S:List aF->σ->aE->Prop}(KO:Lw ops)(tP:N3 ops ch=true)(n9:∀c∈ch,¬c<ops.size->False)
 (hop:∀vs s i o rest t w v,S vs s w->ops[i]? =some o->i∉ch->dD o (dR ops t)=true->(∀T,(aS (bH t []).eval o).run P (Tt.tp w T 0)=.ok (.value v) (Tt.tp w T 0))->(∀T,J s rest (cC ⟨t,[]⟩ o.dst v).tmps (Tt.tp w T 0))->J s (i::rest) t w)
 (hT:∀vs s w T e,S vs s w->S vs s (Tt.tp w T e))
 (hR:∀(i:Nat) (o:aZ),ops[i]? =some o->i∉ch->∀vs s w,vs.length<ch.length->S vs s w->dD o (dR ops (dC ops (VV ch V0 vs) t0))=true/\(aS (bH (dC ops (VV ch V0 vs) t0) []).eval o).run P w=.ok (.value (V0 i)) w)
 (hC:∀(vs:List aF) (c:Nat) (o:aZ) s w,ch[vs.length]? =some c->ops[c]? =some o->S vs s w->∀(t:Array aF) (rest:List Nat),(∀s∈o.looksAt ops,t[s]? =(dC ops (VV ch V0 vs) t0)[s]?)->
  (∀v s' w',S (vs++[v]) s' w'->J s' rest (cC ⟨t,[]⟩ o.dst v).tmps w')->J s (c::rest) t w)
 (hk:∀vs s w,vs.length=ch.length->S vs s w->J s [] (dC ops (VV ch V0 vs) t0) w):
 ∀(fuel q:Nat) (bN:Array Bool) (t:Array aF) (vs:List aF) (s:σ) (w:aE),bN.size=ops.size->((gN ops.size).filter λi=>!bN.getD i false).length<=fuel->rT ops (VV ch V0 vs) t0 bN t->Closed ops bN->
  (∀j c,ch[j]? =some c->(bN.getD c false=true↔j<vs.length))->vs.length<=ch.length->S vs s w->J s (zhj .any ops fuel q bN []) t w:=by
 have zl9:=tP;unfold N3 at zl9;simp only[fV,decide_eq_true_eq] at zl9;obtain⟨⟨yJ,lG⟩,Dc⟩:=zl9;have fin:∀(bN:Array Bool) (t:Array aF) (vs:List aF) (s:σ) (w:aE),bN.size=ops.size->(∀i,i<ops.size->bN.getD i false=true)->rT ops (VV ch V0 vs) t0 bN t->(∀j c,ch[j]? =some c->(bN.getD c false=true↔j<vs.length))->vs.length<=ch.length->S vs s w->(∀c∈ch,c<ops.size)->J s [] t w:=by
  intro bN t vs s w hz tF hm hl hle hw fW;have e:bN=nI ops.size true:=by
   apply Array.ext_getElem?;intro j;by_cases hj:j<ops.size
   .have:=tF j hj
    have tW:j<bN.size:=aC;simp[tW] at this;simp[hj,tW,this]
   .rw[Gr aC,Gr r9]
  have tU:vs.length=ch.length:=by
   rcases mX vs.length ch.length with h|h
   .have h1:ch[vs.length]? =some ch[vs.length]:=lO h
    have:=(hl _ _ h1).1 (tF _ (fW _ (zsL h)));omega
   .omega
  subst e;have e2:=hm.unique (Tg (vals:=VV ch V0 vs) (t0:=t0) KO);subst e2;exact hk vs s w tU hw
 have fW:∀c∈ch,c<ops.size:=by
  intro c hc
  cases hg:ch.getLast? with
  |none=>rw[hg] at Dc;cases Dc
  |some z=>
   by_cases aN:c<ops.size
   .exact aN
   .exfalso
    exact n9 c hc aN
 intro fuel
 induction fuel with
 |zero=>
  intro q bN t vs s w hz hc hm mL hl hle hw;simp only[zhj,List.reverse_nil];refine fin bN t vs s w hz (λi hi=>?_) hm hl hle hw fW
  cases hl:bN.getD i false with
  |true=>rfl
  |false=>
   have:i∈(gN ops.size).filter λi=>!bN.getD i false:=Iy.2 ⟨Bd.2 hi,by rw[hl];rfl⟩;have:=List.length_pos_of_mem this;omega
 |succ fuel ih=>
  intro q bN t vs s w hz hc hm mL hl hle hw;simp only[zhj];change J s (match(Gt .any ops bN)[q%(Gt .any ops bN).length]? with
   |some i=>zhj .any ops fuel (q/(Gt .any ops bN).length) (bN.setIfInBounds i true) [i]
   |none=>[].reverse) t w
  cases hi:(Gt .any ops bN)[q%(Gt .any ops bN).length]? with
  |none=>
   have Yl:Gt .any ops bN=[]:=by
    cases hr:Gt .any ops bN with
    |nil=>rfl
    |cons x xs=>
     rw[hr] at hi;have aN:q%(x::xs).length<(x::xs).length:=Nat.mod_lt _ aQ;simp at hi;simp at aN;omega
   exact fin bN t vs s w hz (ztd KO hz Yl) hm hl hle hw fW
  |some i=>
   simp only[];rw[linearise_go_acc,List.reverse_singleton,List.singleton_append];obtain⟨hu,o,ho,tJ⟩:=mem_ready.1 (dX hi);have Ch:i<ops.size:=(dO.1 ho).1;have lW:=hm.sees KO (Tg (vals:=VV ch V0 vs) (t0:=t0) KO) ho tJ;have Mb:∀j,(bN.setIfInBounds i true).getD j false=if j=i then true else bN.getD j false:=by
    intro j;by_cases e:j=i
    .subst e;have:j<bN.size:=aC
     simp[this]
    .rw[if_neg e];exact getD_set_ne false (Ne.symm e)
   have oS:bN.getD i false=false:=by
    have:i<bN.size:=aC;simp[this] at hu⊢;exact hu
   have zpJ:Closed ops (bN.setIfInBounds i true):=by
    intro j oj hj tW e he hb;rw[Mb] at tW⊢;split
    .rfl
    .split at tW
     .next e1=>subst e1;rw[ho] at hj;obtain rfl:=cE hj;exact tJ e he hb
     .exact mL j oj hj tW e he hb
   have Yd:((gN ops.size).filter λj=>!(bN.setIfInBounds i true).getD j false).length<=fuel:=by
    have aN:((gN ops.size).filter λj=>!(bN.setIfInBounds i true).getD j false).length<((gN ops.size).filter λj=>!bN.getD j false).length:=by
     have e:((gN ops.size).filter λj=>!(bN.setIfInBounds i true).getD j false)=((gN ops.size).filter λj=>!bN.getD j false).filter (λj=>j !=i):=by
      rw[List.filter_filter];apply List.filter_congr;intro j hj;rw[Mb];by_cases e:j=i
      .simp[e]
      .simp[e]
     rw[e];exact List.length_filter_lt_length_iff_exists.2 ⟨i,Iy.2 ⟨Bd.2 Ch,by rw[oS];rfl⟩,aQ⟩
    omega
   by_cases yU:i∈ch
   .
    obtain⟨j,hj⟩:=List.mem_iff_getElem?.1 yU;have zJT:=(kE.1 hj).1;have zGu:j=vs.length:=by
     have h1:¬j<vs.length:=λh=>by have:=(hl j i hj).2 h;rw[oS] at this;cases this
     rcases mX vs.length j with h|h
     .exfalso
      obtain⟨b,hb⟩:∃b,ch[j-1]? =some b:=⟨ch[j-1]' aC,lO aC⟩;have hd:=ztq yJ (j-1) b i hb (by rw[Nat.sub_add_cancel aC];exact hj);obtain⟨o',uZ,e,he,zbV,rfl⟩:=zhs hd;rw[ho] at uZ;obtain rfl:=cE uZ;have:=(hl (j-1) _ hb).1 (tJ e he zbV);omega
     .omega
    subst zGu;have wI:∀v i',i'≠i->VV ch V0 (vs++[v]) i'=VV ch V0 vs i'\/bN.getD i' false=false:=by
     intro v i' aT;unfold VV
     cases hx:ch.idxOf? i' with
     |none=>exact .inl rfl
     |some m=>
      simp only;obtain⟨zeu,Hf⟩:=zHt hx;rcases zwh m vs.length with h|h|h
      .left;simp[Kl,y3 h]
      .subst h;rw[hj] at zeu;exact absurd (cE zeu).symm aT
      .right
       cases Ea:bN.getD i' false with
       |false=>rfl
       |true=>have:=(hl m i' zeu).1 Ea;omega
    have zji:∀v,VV ch V0 (vs++[v]) i=v:=by
     intro v;unfold VV;rw[zmP lG hj];simp[Kl]
    refine hC vs i o s w hj ho hw t _ lW λv s' w' Py=>?_;have Hf:rT ops (VV ch V0 (vs++[v])) t0 bN t:=hm.congr λi' gT=>by
     rcases wI v i' (λe=>by subst e;rw[oS] at gT;cases gT) with h|h
     .exact h.symm
     .rw[h] at gT;cases gT
    have Wp:=Hf.step KO ho hz hu;have:=ih (q/(Gt .any ops bN).length) (bN.setIfInBounds i true) _ (vs++[v]) s' w' (by simp[hz]) Yd Wp zpJ (λj c Nl=>?_) r9 Py
    .rw[zji] at this
     cases hd:o.dst with
     |none=>rw[hd] at this;exact this
     |some s=>rw[hd] at this;exact this
    .rw[Mb]
     by_cases e:c=i
     .subst e
      rw[if_pos rfl];have:j=vs.length:=by
       have h1:=zmP lG Nl;have h2:=zmP lG hj;rw[h1] at h2;exact cE h2
      subst this;simp
     .rw[if_neg e,hl j c Nl]
      simp;constructor
      .intro h;omega
      .intro h
       rcases mX j vs.length with h2|h2
       .exact h2
       .have:j=vs.length:=aC
        subst this;rw[hj] at Nl;exact absurd (cE Nl).symm e
   .
    have zp5:=hR i o ho yU;have aN:vs.length<ch.length:=by
     rcases mX vs.length ch.length with h|h
     .exact h
     .exfalso
      cases hg:ch.getLast? with
      |none=>rw[hg] at Dc;cases Dc
      |some z=>
       rw[hg] at Dc;have zt6:ch[ch.length-1]? =some z:=by rw[<-List.getLast?_eq_getElem?];exact hg
       have B4:0<ch.length:=by
        cases ch with
        |nil=>cases hg
        |cons _ _=>simp
       have zFU:=(hl _ z zt6).2 aC;have:=(tK.1 Dc) i (Bd.2 Ch);simp only[Eo,beq_iff_eq] at this;rcases this with rfl|this
       .exact yU (dX zt6)
       .have:=zzB mL _ _ _ this zFU
        rw[oS] at this;cases this
    obtain⟨h1,h2⟩:=zp5 vs s w aN hw;have fB:dD o (dR ops t)=true:=(Wb lW).trans h1;refine hop vs s i o _ t w (V0 i) hw ho yU fB (λT=>?_) λT=>?_
    .rw[Ei (KO.sel i o ho) lW]
     exact(zp5 vs s _ aN (hT _ _ _ T 0 hw)).2
    .have Wp:=hm.step KO ho hz hu
     have zji:VV ch V0 vs i=V0 i:=by
      unfold VV;rw[zBC yU]
     rw[zji] at Wp;have:=ih (q/(Gt .any ops bN).length) (bN.setIfInBounds i true) _ vs s (Tt.tp w T 0) (by simp[hz]) Yd Wp zpJ (λj c Nl=>?_) hle (hT _ _ _ T 0 hw)
     .cases hd:o.dst with
      |none=>rw[hd] at this;exact this
      |some s=>rw[hd] at this;exact this
     .have aT:c≠i:=λe=>yU (e▸dX Nl)
      rw[Mb,if_neg aT];exact hl j c Nl
theorem ztV {J:σ->List Nat->Array aF->aE->Prop}{S:List aF->σ->aE->Prop}(bV:It ops=true)(tP:N3 ops ch=true)(n9:ch.all (λc=>decide (c<ops.size))=true)
 (hop:∀vs s i o rest t w v,S vs s w->ops[i]? =some o->i∉ch->dD o (dR ops t)=true->(∀T,(aS (bH t []).eval o).run P (Tt.tp w T 0)=.ok (.value v) (Tt.tp w T 0))->(∀T,J s rest (cC ⟨t,[]⟩ o.dst v).tmps (Tt.tp w T 0))->J s (i::rest) t w)
 (hT:∀vs s w T e,S vs s w->S vs s (Tt.tp w T e))
 (hR:∀(i:Nat) (o:aZ),ops[i]? =some o->i∉ch->∀vs s w,vs.length<ch.length->S vs s w->dD o (dR ops (dC ops (VV ch V0 vs) t0))=true/\(aS (bH (dC ops (VV ch V0 vs) t0) []).eval o).run P w=.ok (.value (V0 i)) w)
 (hC:∀(vs:List aF) (c:Nat) (o:aZ) s w,ch[vs.length]? =some c->ops[c]? =some o->S vs s w->∀(t:Array aF) (rest:List Nat),(∀s∈o.looksAt ops,t[s]? =(dC ops (VV ch V0 vs) t0)[s]?)->
  (∀v s' w',S (vs++[v]) s' w'->J s' rest (cC ⟨t,[]⟩ o.dst v).tmps w')->J s (c::rest) t w)
 (hk:∀vs s w,vs.length=ch.length->S vs s w->J s [] (dC ops (VV ch V0 vs) t0) w) {s:σ} {w:aE} (h0:S [] s w) (n:Nat):J s (Un true ops n) t0 w:=by
 simp only[Un,Bool.true_or,if_true];refine drawnGo (S3 bV) tP (λc hc aN=>?_) hop hT hR hC hk ops.size n _ t0 [] s w aQ (eG (List.length_filter_le _ _) aQ) (rT.start _ λi=>?_) (λi o hi hl=>?_) (λj c hj=>?_) (jY _) h0
 .have:=tK.1 n9 c hc
  simp at this;exact aN this
 .by_cases hi:i<ops.size<;>simp[hi]
 .by_cases hi:i<ops.size<;>simp[hi] at hl
 .by_cases hi:c<ops.size<;>simp[hi]
section
variable {d:pR}{f:aO}
variable {Φ:nZ->WS->Prop}
theorem CW.drawn (H:d.Ok)(zkh:d.p.follows .mixedOrders=true){B:List Nat}{id:Nat}{t0:Array aF}{ops:Array aZ}(ch:List Nat)(V0:Nat->aF)(S:List aF->Pr->gQ->aE->Prop)(bV:It ops=true)(tP:N3 ops ch=true)(n9:ch.all (λc=>decide (c<ops.size))=true)
 (hT:∀vs K l w T e,S vs K l w->S vs K l (Tt.tp w T e))
 (hR:∀(i:Nat) (o:aZ),ops[i]? =some o->i∉ch->rU d.p ⟨d.fs,d.gs,true⟩ o.op=true/\∀vs K l w,vs.length<ch.length->S vs K l w->dD o (dR ops (dC ops (VV ch V0 vs) t0))=true/\(aS (bH (dC ops (VV ch V0 vs) t0) []).eval o).run d.p w=.ok (.value (V0 i)) w)
 (hC:∀(vs:List aF) (c:Nat) (o:aZ) K l w,ch[vs.length]? =some c->ops[c]? =some o->S vs K l w->∀(t:Array aF) (rest:List Nat),(∀s∈o.looksAt ops,t[s]? =(dC ops (VV ch V0 vs) t0)[s]?)->
  (∀v K' l' w',K.le K'->S (vs++[v]) K' l' w'->CR d f ops rest ⟨[],K',l',(cC ⟨t,[]⟩ o.dst v).tmps,w'⟩ (Φ .normal))->CR d f ops (c::rest) ⟨[],K,l,t,w⟩ (Φ .normal))
 (hk:∀vs K l w,vs.length=ch.length->S vs K l w->Φ .normal ⟨[],K,l,dC ops (VV ch V0 vs) t0,w⟩) {K:Pr} {l:gQ} {w:aE} (h0:S [] K l w):CW d B f (.region id ops true) ⟨[],K,l,t0,w⟩ Φ:=λQ base kk hQ hB h1 h2 h3=>by
 refine BO.draw (H.iok hQ) λn=>?_
 have:=ztV (σ:=Pr×gQ) (P:=d.p) (J:=λs is t w=>CR d f ops is ⟨[],s.1,s.2,t,w⟩ (Φ .normal)) (S:=λvs s w=>S vs s.1 s.2 w) bV tP n9
  (λvs s i o rest t w v hS ho yU hw hx hJ=>CR.op H ho hw (hR i o ho yU).1 λT=>⟨v,_,.inl (hx T),hJ T⟩) (λvs s=>hT vs s.1 s.2) (λi o ho yU vs s=>(hR i o ho yU).2 vs s.1 s.2)
  (λvs c o s w hj ho h t rest hs cP=>hC vs c o s.1 s.2 w hj ho h t rest hs λv K' l' w' _=>cP v (K',l') w') (λvs s w hl h=>CR.nil H (hk vs s.1 s.2 w hl h)) (s:=(K,l)) h0 n Q base kk hQ λs' l x=>h1 s' l x
 rw[<-zkh] at this;exact this
end
structure OvFn (p:bS)(f:aO)(t tr e:aM)(size:Nat):Prop where
 fn:∃fn,p.funcs[f]? =some fn/\(fn.name== "runtime.NumGoroutine")=false/\fn.body.isNone=true/\zvE fn=none/\zqN fn=some (zmN #[t,t] #[tr])
 un:p.underlying t=some (.slice e)
 inf:∃i,p.info? e=some i/\i.size=size
variable {i:wW}
theorem zy3 (w:aE)(tS tR e:aM)(ht:P.underlying tS=some (.slice e))(hi:P.info? e=some i)
 (a b:bL) (la ca lb cb:Nat) (aT:a.block≠b.block) (tA tB:aM) (kA kB:Nat)
 (Jj:w.shape? a.block=some (tA,kA)) (Dd:w.shape? b.block=some (tB,kB)) (Og:kB≠0)
 (vB:w.frozen? a=false) (Nc:w.frozen? {block:=a.block,off:=kA}=false):
 (zmN #[tS,tS] #[tR] #[.slice (some a) la ca,.slice (some b) lb cb]).run P w=.ok (.bool false) w:=
 Lib.run_overlaps_apart w tS tR e ht i.size (λw=>by simp[sizeOf,typeInfo,hi]) a b la ca lb cb aT tA tB kA kB Jj Dd Og vB Nc
section
variable {P:bS}{w:aE}{es:Array Event}
def zsE (a:bL):(frozen a).events P w es=es:=rfl
def znF (a:bL):(frozen a).run P w=.ok (w.frozen? a) w:=rfl
def zle (r:Nat):(shape r).events P w es=es:=rfl
def Zf (r:Nat):(shape r).run P w=.ok (w.shape? r) w:=rfl
variable {a:bL}{t:aM}{n:Nat}
theorem zqw (h:w.shape? a.block=some (t,n)):(noView a).events P w es=es:=by
 unfold noView viewAt;simp[zle,Zf,h]
theorem zp0 (h:w.shape? a.block=some (t,n)):(noView a).run P w=.ok () w:=by
 unfold noView viewAt;simp[Zf,h]
theorem zvO (h:w.shape? a.block=some (t,n)):(stringish a).events P w es=es:=by
 unfold stringish;cases hf:w.frozen? a<;>simp[zsE,znF,zle,Zf,h,hf]
theorem zfH (h:w.shape? a.block=some (t,n)):(stringish a).run P w=.ok (w.frozen? a||w.frozen? ⟨a.block,n,none⟩) w:=by
 unfold stringish;cases hf:w.frozen? a<;>simp[znF,Zf,h,hf]
theorem zyI {b:bL}{tA tB:aM}{kA kB:Nat}(Jj:w.shape? a.block=some (tA,kA))(Dd:w.shape? b.block=some (tB,kB))(vB:w.frozen? a=false)(Nc:w.frozen? ⟨a.block,kA,none⟩=false)(Og:kB≠0):
 (mayBeOne a b).events P w es=es/\(mayBeOne a b).run P w=.ok false w:=by
 cases kB with
 |zero=>exact absurd rfl Og
 |succ kB=>
  unfold mayBeOne;constructor
  .simp[zvO Jj,zfH Jj,zvO Dd,zfH Dd,vB,Nc,zle,Zf,Jj,Dd]
  .simp[zfH Jj,zfH Dd,vB,Nc,Zf,Jj,Dd]
end
theorem zAy (w:aE)(es:Array Event)(tS tR e:aM)(ht:P.underlying tS=some (.slice e))(hi:P.info? e=some i)
 (a b:bL) (la ca lb cb:Nat) (aT:a.block≠b.block) (tA tB:aM) (kA kB:Nat)
 (Jj:w.shape? a.block=some (tA,kA)) (Dd:w.shape? b.block=some (tB,kB)) (Og:kB≠0)
 (vB:w.frozen? a=false) (Nc:w.frozen? {block:=a.block,off:=kA}=false):
 (zmN #[tS,tS] #[tR] #[.slice (some a) la ca,.slice (some b) lb cb]).events P w es=es:=by
 have nK:(a.block !=b.block)=true:=by simpa using aT
 have zF1:(a.block==b.block)=false:=by simpa using aT
 change Sem.events P (α:=aF) (do
  let some t:=(#[tS,tS]:Array aM)[0]? |stuck "slices.overlaps: no parameter types"
  let .slice elem<-underlying t|stuck "slices.overlaps: slice type expected"
  let size<-sizeOf elem
  match(some a:Option bL),(some b:Option bL) with
  |some a,some b=>
   if la=0\/lb=0\/size=0 then pure (Mm false)
   else if a.block !=b.block&&(<-frozen a)&&(<-frozen b) then unsupported .addressObserved
   else do
    if a.block !=b.block then do
     noView a;noView b
     if<-mayBeOne a b then return Mm ((<-choose (.extern "sameAddr.stringBytes" 2))==1)
    pure (Mm (a.block==b.block&&a.off<b.off+lb*size&&b.off<a.off+la*size))
  |_,_=>pure (Mm false)) w es=_
 by_cases h0:la=0\/lb=0\/i.size=0
 .simp[wP ht,sizeOf,typeInfo,hi,h0]
 .obtain⟨m1,m2⟩:=zyI (P:=P) (es:=es) Jj Dd vB Nc Og
  simp[wP ht,sizeOf,typeInfo,hi,h0,nK,zF1,zsE,znF,vB,zqw Jj,zp0 Jj,zqw Dd,zp0 Dd,m1,m2]
section
variable {L:Type}{C:Cx L}{l:L}
variable {o:aZ}{f:aO}{kS:Array aM}{e:Array aF->Sem aF}{w:aE}
theorem zEs {p:bS}{args:Array cN}(hop:o.op=.call ⟨.value (.func f),args,kS⟩){ρ:cN->aF}(hρ:ρ (.func f)=.func (.func f) #[] #[]){fn:Func}(hf:p.funcs[f]? =some fn)
 (hn:(fn.name== "runtime.NumGoroutine")=false) (hb:fn.body.isNone=true) (h1:zvE fn=none)  (h2:zqN fn=some e) {w':aE} {v:aF} (hr:(e (args.map ρ)).run p w=.ok v w') (he:∀es,(e (args.map ρ)).events p w es=es):
 (aS ρ o).run p w=.ok (.value v) w'/\(aS ρ o).events p w #[]=#[⟨.mark (.extern f),false,true⟩]:=by
 obtain⟨dst,yP,type,pos,after,guard⟩:=o;simp only at hop;subst hop;have sU:¬fn.name= "runtime.NumGoroutine" :=by simpa using hn
 have bZ:fn.body=none:=by simpa using hb
 constructor
 .simp[aS,resolve,Bt,hρ,invoke,callFunc,program,mark,Sem.run,hf,sU,bZ,h1,h2,hr]
 .simp[aS,resolve,Bt,hρ,invoke,callFunc,hf,sU,bZ,h1,h2,he]
theorem BO.overlaps (ha:C.alone=none)(hI:fE C){fn:aO}{tmps:Array aF}{ops:Array aZ}{i:Nat}{rest:List Nat}{k:List eE}{x y:cN}{A B:bL}{la ca lb cb:Nat}{t tr e:aM}{sz:Nat}{zhF zci:Array aF}{TA TB:aM}{zme:Nat×Nat}
 (H:OvFn C.p f t tr e sz) (ho:ops[i]? =some o) (cD:dD o (dR ops tmps)=true) (hop:o.op=.call ⟨.value (.func f),#[x,y],kS⟩) (rQ:dP C.fs x=true) (Dh:dP C.fs y=true) (hx:(bH tmps []).eval x=.slice (some A) la ca) (hy:(bH tmps []).eval y=.slice (some B) lb cb)
 (aT:A.block≠B.block) (hA:w.heap[A.block]? =some (.cells zhF TA (0,0))) (hB:w.heap[B.block]? =some (.cells zci TB zme)) (hz:zci.size≠0) (lG:∀s,o.dst=some s->s∉C.S)
 (h1:BO C l ⟨fn,(cC ⟨tmps,[]⟩ o.dst (.bool false)).tmps,.inRegion ops rest::k,false⟩ w):BO C l ⟨fn,tmps,.inRegion ops (i::rest)::k,false⟩ w:=by
 intro R W m' τ hw hm ht hi;obtain⟨fn',bQ,yW,yL⟩:=m';obtain rfl:=hm.fn;obtain rfl:=hm.todo;obtain rfl:=hm.ret;have uE:=Hn (C:=C) hm.tmps cD;have hb:(C.ds.base fn).kind≠ .early:=C.ds.ok;have vx:=Gw (C:=C) (d:=C.ds.ds) hm.tmps rQ;have vy:=Gw (C:=C) (d:=C.ds.ds) hm.tmps Dh;rw[hx] at vx;rw[hy] at vy;obtain⟨fnf,g1,g2,g3,g4,g5⟩:=H.fn;obtain⟨ie,jU,cJ⟩:=H.inf;rw[mI,Cx.B_none ha];refine b6.own rfl trivial λaV s=>?_;have dI:C.Rel R w aV:=Cx.Rel.suf (C:=C) hw ht s;have yI:=hI.suf _ _ _ _ hi s;generalize hex:(bH bQ C.ds.ds).eval x=vx' at vx;generalize zJa:(bH bQ C.ds.ds).eval y=vy' at vy
 cases vx with
 |slice qa=>
  cases qa with
  |some qa=>
   cases qa with
   |mk ra=>
    cases vy with
    |slice qb=>
     cases qb with
     |some qb=>
      cases qb with
      |mk rb=>
       rename_i a a' oa sa b b' ob sb;obtain⟨o1,o2,k1,k2,k3⟩:=dI.cont _ _ ra;obtain⟨p1,p2,q1,q2,q3⟩:=dI.cont _ _ rb;rw[hA] at k1;obtain rfl:=cE k1;rw[hB] at q1;obtain rfl:=cE q1
       cases k3 with
       |cells qD vB=>
        cases q3 with
        |cells Ib zKR=>
         rename_i cA' fA' zk1 fB';have zlQ:∀n,aV.frozen? ⟨a',n,none⟩=false:=λn=>by
          simp only[Sa,k2]
          cases hq:(decide (fA'.1<=n)&&decide (n<fA'.2)) with
          |false=>rfl
          |true=>
           have:=vB n (by simpa[Jv] using hq);unfold Jv at this;omega
         have zx7:aV.frozen? ⟨a',oa,sa⟩=false:=by
          have:=zlQ oa;simpa[Sa] using this
         have V8:a'≠b':=λe=>aT (dI.inj' _ _ _ (.inl ra) (.inl (e▸rb)));have sA:aV.shape? a'=some (TA,cA'.size):=by simp[zbf,k2]
         have sB:aV.shape? b'=some (TB,zk1.size):=by simp[zbf,q2]
         have sZ:(#[x,y]:Array cN).map (bH bQ C.ds.ds).eval=#[.slice (some ⟨a',oa,sa⟩) la ca,.slice (some ⟨b',ob,sb⟩) lb cb]:=by
          simp only[uS,fK,tL,hex,zJa]
         have r1:=zy3 (P:=C.p) aV t tr e H.un jU ⟨a',oa,sa⟩ ⟨b',ob,sb⟩ la ca lb cb V8 TA TB _ _ sA sB (by rw[<-Ib.1];exact hz) zx7 (zlQ _);have r2:=λes=>zAy (P:=C.p) aV es t tr e H.un jU ⟨a',oa,sa⟩ ⟨b',ob,sb⟩ la ca lb cb V8 TA TB _ _ sA sB (by rw[<-Ib.1];exact hz) zx7 (zlQ _);obtain⟨x1,x2⟩:=zEs (p:=C.p) (o:=o) hop (ρ:=(bH bQ C.ds.ds).eval) rfl g1 g2 g3 g4 g5 (by rw[sZ];exact r1) (by rw[sZ];exact r2);have aY:=zlZ (main:=C.main) (b:=C.ds.base fn) (rest:=rest) (k:=k) (cs:=C.base) ho uE hb x1;have hl:∀ev∈wL C.p (C.ds.base fn).fn ⟨bQ,C.ds.ds⟩ o aV,ev=⟨.mark (.extern f),false,true⟩:=λev mH=>by
          unfold wL at mH;rw[x2] at mH;simpa using mem_seen mH
         refine⟨_,aV,_,aY,rfl,zO.id _ _,λev mH=>?_,?_⟩
         .rw[hl ev mH];trivial
         .rw[deafBehind_still (λev mH=>by rw[hl ev mH];exact⟨aQ,aQ⟩)]
          have Es:cC ⟨bQ,C.ds.ds⟩ o.dst (.bool false)=⟨(cC ⟨bQ,C.ds.ds⟩ o.dst (.bool false)).tmps,C.ds.ds⟩:=by cases o.dst<;>rfl
          rw[Es,<-mI,<-Cx.B_none ha];have Ls:=hI.step R τ aV R aV yI ht ⟨λ_ _ x=>x,rfl,rfl,rfl,aX _,λa b x=>.inl x,λb _ _=>rfl⟩;exact h1 R aV ⟨fn,_,_,false⟩ _ dI ⟨rfl,rfl,rfl,Ja (C:=C) hm.tmps (.bool false),Jn (C:=C) hm.pins lG⟩ (λa b x=>⟨(ht a b x).1,λz=>.inl ((ht a b x).2 z)⟩) Ls
end
section
variable {d:pR}{f:aO}{s:WS}{ops:Array aZ}{i:Nat}{rest:List Nat}{Φ:WS->Prop}{o:aZ}
def CR.overlaps (H:d.Ok){x y:cN}{g:aO}{kS:Array aM}{A B:bL}{la ca lb cb:Nat}{t tr e:aM}{sz:Nat}{zhF zci:Array aF}{TA TB:aM}{zme:Nat×Nat}
 (HO:OvFn d.p g t tr e sz) (ho:ops[i]? =some o) (cD:dD o (dR ops s.T)=true) (hop:o.op=.call ⟨.value (.func g),#[x,y],kS⟩) (rQ:dP d.fs x=true) (Dh:dP d.fs y=true) (hx:(bH s.T []).eval x=.slice (some A) la ca) (hy:(bH s.T []).eval y=.slice (some B) lb cb)
 (aT:A.block≠B.block) (hA:s.w.heap[A.block]? =some (.cells zhF TA (0,0))) (hB:s.w.heap[B.block]? =some (.cells zci TB zme)) (hz:zci.size≠0)
 (h:CR d f ops rest {s with T:=(cC ⟨s.T,[]⟩ o.dst (.bool false)).tmps} Φ):CR d f ops (i::rest) s Φ:=λQ base kk hQ h1=>
 BO.overlaps (C:=d.cx s.K Q s.chs base .nil []) rfl (H.iok hQ) HO ho cD hop rQ Dh hx hy aT hA hB hz (λ_ _=>lZ) (h Q base kk hQ h1)
end
end Go.Mt
namespace Go.Proofs.YtfcjiloojkjaeaaGreatDoor
open Go.RowKit Go.Mt Go.Conc Go.Tt Go.Maps
def sA:vR->vR| .seq a _=>a|_=>.skip
def sB:vR->vR| .seq _ b=>b|_=>.skip
def cA:vR->vR| .cond _ a _=>a|_=>.skip
def cB:vR->vR| .cond _ _ b=>b|_=>.skip
def cX:vR->cN| .cond x _ _=>x|_=>.const aA
def bI:vR->Nat| .block i _=>i| .region i _ _=>i|_=>0
def rO:vR->Array aZ| .region _ o _=>o|_=>#[]
def N5:Nat->List aF->List aF
 |0,_=>[]
 |n+1,[]=>aA::N5 n []
 |n+1,a::l=>a::N5 n l
theorem zv7:∀n,N5 n []=zoI n aA
 |0=>rfl
 |n+1=>by rw[N5,zv7 n];rfl
theorem zts:∀(n:Nat) (l:List aF),l.length<=n->l++zoI (n-l.length) aA=N5 n l
 |n,[],_=>by rw[zv7];simp
 |n+1,a::l,h=>by
  simp only[List.length_cons,Nat.add_sub_add_right,List.cons_append,N5];rw[zts n l zgL]
theorem pad_eq {n:Nat}{l T:List aF}(hl:l.length<=n)(hT:N5 n l=T):l.toArray++nI (n-l.toArray.size) aA=T.toArray:=by
 subst hT;rw[<-zts n l hl];simp
structure Gd where
 ty:aM
 Wg:Nat
 N:Nat
 W:List fG
 D:aE->Prop
 Fin:bC->aE->Prop
 St:Nat->Prop
 W0:aE
 StI:Nat->Prop
 Shun:Loc->Prop
 SS:Nat->Prop
 R0:Pr
 Fz:Nat->Prop
 Wf:aE
 qs:List Nat
abbrev Gd.d (e:Gd):pR:=⟨aK,Bq,gD,e.ty,e.Wg,e.N,e.W,e.D,e.Fin,e.St,e.W0,e.StI,e.Shun,e.SS,e.R0,e.Fz,e.Wf,e.qs⟩
section
variable {d:pR}{f:aO}{s:WS}{B:List Nat}{c:vR}
def CW.tape {Φ:nZ->WS->Prop}(h:CW d B f c s Φ)(T:jV)(n:Nat):CW d B f c {s with w:=Tt.tp s.w T n} Φ:=λQ base kk hQ hB h1 h2 h3=>BO.tape (h Q base kk hQ hB h1 h2 h3) T n
def CW.pieceQ {Φ:nZ->WS->Prop}(H:d.Ok)(hc:oG d.p ⟨d.fs,d.gs,true⟩ c=true)(hf:vX d.p f)(qX:∀(T:jV) (Q:nZ->uA->aE->Prop),qC (∀a' w',Φ .normal {s with T:=a'.tmps,w:=w'}->Q .normal a' w')->Code.wp d.p c Q ⟨s.T,[]⟩ (Tt.tp s.w T 0)):CW d B f c s Φ:=
 CW.piece H hc hf λT=>qX T _ (aD λa' w' h=>⟨rfl,h⟩)
theorem CW.pH {Φ:nZ->WS->Prop}{lo hb:Nat}{v v0:fL}{dd:nQ}{w0:aE}(H:d.Ok)(hf:vX d.p f)(A:qC (bE s.w lo hb v dd))(T:qC (bM hb v0 w0 v s.w))
 (qX:∀(w1:aE) (Q:nZ->uA->aE->Prop),s.w.heap=w1.heap->qC (bE w1 lo hb v dd)->qC (bM hb v0 w0 v w1)->qC (∀a' w',Φ .normal {s with T:=a'.tmps,w:=w'}->Q .normal a' w')->Code.wp d.p c Q ⟨s.T,[]⟩ w1)
 (hc:oG d.p ⟨d.fs,d.gs,true⟩ c=true:=by kernel_rfl):CW d B f c s Φ:=
 CW.pieceQ H hc hf λ_ Q HQ=>qX _ Q rfl (aD (A.o.same rfl)) (aD (T.o.same rfl)) HQ
variable {ops:Array aZ}{i:Nat}{rest is:List Nat}{Φ:WS->Prop}{o:aZ}
def CR.tape (h:CR d f ops is s Φ)(T:jV)(n:Nat):CR d f ops is {s with w:=Tt.tp s.w T n} Φ:=λQ base kk hQ h1=>BO.tape (h Q base kk hQ h1) T n
def CR.opw (H:d.Ok)(ho:ops[i]? =some o)(cD:dD o (dR ops s.T)=true)(bV:rU d.p ⟨d.fs,d.gs,true⟩ o.op=true){v:aF}(hx:∀T,(aS (bH s.T []).eval o).run d.p (Tt.tp s.w T 0)=.ok (.value v) (Tt.tp s.w T 0))
 (h:CR d f ops rest {s with T:=(cC ⟨s.T,[]⟩ o.dst v).tmps} Φ):CR d f ops (i::rest) s Φ:=
 CR.op H ho cD bV λT=>⟨v,Tt.tp s.w T 0,.inl (hx T),CR.tape h T 0⟩
theorem nP {P Q:Prop}(k:Q)(h:Q->P:=by intro q;first|(simp only[Go.Act.put,List.setIfInBounds_toArray,List.set_cons_zero,List.set_cons_succ];exact q)|exact q):P:=h k
theorem CR.sto (H:d.Ok)(ho:ops[i]? =some o)(cD:dD o (dR ops s.T)=true)(bV:rU d.p ⟨d.fs,d.gs,true⟩ o.op=true)(hd:o.dst=none){w':aE}(hx:∀T,(aS (bH s.T []).eval o).run d.p (Tt.tp s.w T 0)=.ok .skip (Tt.tp w' T 0))
 (h:CR d f ops rest {s with w:=w'} Φ):CR d f ops (i::rest) s Φ:=
 CR.op H ho cD bV λT=>⟨aA,Tt.tp w' T 0,.inr ⟨hx T,rfl⟩,by
  have:=CR.tape h T 0;have e:(cC ⟨s.T,[]⟩ o.dst aA).tmps=s.T:=by rw[hd];rfl
  rw[e];exact this⟩
end
section
variable {d:pR}{f:aO}{s:WS}{B:List Nat}{c:vR}
theorem CW.sq (H:d.Ok){Φ:nZ->WS->Prop}(h:CW d B f (sA c) s (λe s'=>match e with| .normal=>CW d B f (sB c) s' Φ|e=>Φ e s'))(e:c=.seq (sA c) (sB c):=by exact rfl):CW d B f c s Φ:=by
 rw[e];exact CW.seq H h
theorem CW.cd (H:d.Ok){Φ:nZ->WS->Prop}(t:Bool)(h:CW d B f (if t then cA c else cB c) s Φ)(e:c=.cond (cX c) (cA c) (cB c):=by exact rfl)(hx:dP d.fs (cX c)=true:=by exact rfl)(hc:(bH s.T []).eval (cX c)=.bool t:=by exact rfl):CW d B f c s Φ:=by
 rw[e];exact CW.cond H hx hc h
theorem CW.sk (H:d.Ok){Φ:nZ->WS->Prop}(h:Φ .normal s)(e:c=.skip:=by exact rfl):CW d B f c s Φ:=by
 rw[e];exact CW.skip H h
theorem CW.rt (H:d.Ok){Φ:nZ->WS->Prop}(h:Φ .ret s)(e:c=.ret:=by exact rfl):CW d B f c s Φ:=by
 rw[e];exact CW.ret H h
theorem CW.rg (H:d.Ok){Φ:nZ->WS->Prop}(is:List Nat)(h:CR d f (rO c) is s (λs'=>Φ .normal s'))(e:c=.region (bI c) (rO c) false:=by exact rfl)(hr:gN (rO c).size=is:=by exact rfl):CW d B f c s Φ:=by
 rw[e];exact CW.reg H is hr h
theorem CW.pQ {c':vR}{Φ:nZ->WS->Prop}(H:d.Ok)(hf:vX d.p f)(qX:∀(T:jV) (Q:nZ->uA->aE->Prop),qC (∀a' w',Φ .normal {s with T:=a'.tmps,w:=w'}->Q .normal a' w')->Code.wp d.p c' Q ⟨s.T,[]⟩ (Tt.tp s.w T 0))
 (e:c=c':=by conv=>lhs;whnf) (hc:oG d.p ⟨d.fs,d.gs,true⟩ c=true:=by kernel_rfl):CW d B f c s Φ:=by
 subst e;exact CW.pieceQ H hc hf qX
variable {v0:fL}{dd:nQ}{w0:aE}
theorem CW.pW {c':vR}{Φ:nZ->WS->Prop}{lo hb:Nat}{v:fL}(H:d.Ok)(hf:vX d.p f)(A:qC (bE s.w lo hb v dd))(T:qC (bM hb v0 w0 v s.w))
 (qX:∀(w1:aE) (Q:nZ->uA->aE->Prop),s.w.heap=w1.heap->qC (bE w1 lo hb v dd)->qC (bM hb v0 w0 v w1)->qC (∀a' w',Φ .normal {s with T:=a'.tmps,w:=w'}->Q .normal a' w')->Code.wp d.p c' Q ⟨s.T,[]⟩ w1)
 (e:c=c':=by conv=>lhs;whnf) (hc:oG d.p ⟨d.fs,d.gs,true⟩ c=true:=by kernel_rfl):CW d B f c s Φ:=by
 subst e;exact CW.pH H hf A T qX hc
theorem CW.p0 {c':vR}{T':Array aF}{Φ:nZ->WS->Prop}{lo hb:Nat}{v:fL}(H:d.Ok)(hf:vX d.p f)(A:qC (bE s.w lo hb v dd))(T:qC (bM hb v0 w0 v s.w))
 (h:∀w1:aE,s.w.heap=w1.heap->qC (bE w1 lo hb v dd)->qC (bM hb v0 w0 v w1)->Φ .normal {s with T:=T',w:=w1})
 (e:c=c':=by conv=>lhs;whnf) (qX:∀(w1:aE) (Q:nZ->uA->aE->Prop),qC (∀a':uA,a'.tmps=T'->Q .normal a' w1)->Code.wp d.p c' Q ⟨s.T,[]⟩ w1:=by(intro w1 Q HQ;go_wp2;exact HQ.o _ rfl))
 (hc:oG d.p ⟨d.fs,d.gs,true⟩ c=true:=by kernel_rfl):CW d B f c s Φ:=by
 subst e;exact CW.pH H hf A T (λw1 Q hw A1 T1 HQ=>qX w1 Q (aD λa' ha=>HQ.o a' w1 (ha▸h w1 hw A1 T1))) hc
variable {K:Pr}{w:aE}
theorem CF.of {g:aO}{l:List aF}{L:gQ}{Ψ:Pr->gQ->aF->aE->Prop}{fnf:Func}(n:Nat){T:List aF}(hf:d.p.funcs[g]? =some fnf)(hp:Cw fnf.results.toList)
 (h:CW d [] g (fnf.body.getD .skip) ⟨[],K,L,T.toArray,w⟩ (λe s'=>(e=.normal\/e=.ret)/\s'.chs=[]/\∃v,(oH fnf.results.toList s'.T).run d.p s'.w=.ok v s'.w/\Ψ s'.K s'.l v s'.w))
 (hT:N5 n l=T:=by(simp only[N5];rfl)) (hl:l.length<=n:=by exact Nat.le_of_ble_eq_true rfl) (hn:fnf.ntmps=n:=by exact rfl) (hb:fnf.body=some (fnf.body.getD .skip):=by exact rfl) (hr:(fnf.name== "runtime.NumGoroutine")=false:=by decide):CF d g l.toArray K L w Ψ:=
 ⟨⟨fnf,_,hf,hr,hb,hp,by rw[hn,pad_eq hl hT];exact h⟩⟩
variable {ops:Array aZ}{i:Nat}{rest:List Nat}{Φ:WS->Prop}{o:aZ}
def zfc {o':aZ}(h:ops[i]? =some o')(e:o'=o):ops[i]? =some o:=e▸h
variable {l:gQ}
theorem CR.mv {chs:List Nat}{T T':Array aF}(H:d.Ok)(v:aF)(h:CR d f ops rest ⟨chs,K,l,T',w⟩ Φ)(ho:ops[i]? =some o:=by exact zfc rfl (by conv=>lhs;whnf))
 (hx:∀τ,(aS (bH T []).eval o).run d.p (Tt.tp w τ 0)=.ok (.value v) (Tt.tp w τ 0):=by exact λ_=>rfl)
 (cD:dD o (dR ops T)=true:=by exact rfl) (bV:rU d.p ⟨d.fs,d.gs,true⟩ o.op=true:=by kernel_rfl)
 (ht:(cC ⟨T,[]⟩ o.dst v).tmps=T':=by first|(simp only[Go.Act.put,List.setIfInBounds_toArray,List.set_cons_zero,List.set_cons_succ];done)|(simp only[Go.Act.put,List.setIfInBounds_toArray,List.set_cons_zero,List.set_cons_succ];rfl)):CR d f ops (i::rest) ⟨chs,K,l,T,w⟩ Φ:=
 CR.opw (s:=⟨chs,K,l,T,w⟩) H ho cD bV hx (ht▸h)
theorem CR.mg {chs:List Nat}{T T':Array aF}(H:d.Ok)(v:aF)(h:CR d f ops rest ⟨chs,K,l,T',w⟩ Φ)(ho:ops[i]? =some o:=by exact zfc rfl (by conv=>lhs;whnf))
 (hx:∀τ,(aS (bH T []).eval o).run d.p (Tt.tp w τ 0)=.ok (.value v) (Tt.tp w τ 0):=by intro τ;unfold execOp;go_simp)
 (cD:dD o (dR ops T)=true:=by exact rfl) (bV:rU d.p ⟨d.fs,d.gs,true⟩ o.op=true:=by kernel_rfl)
 (ht:(cC ⟨T,[]⟩ o.dst v).tmps=T':=by first|(simp only[Go.Act.put,List.setIfInBounds_toArray,List.set_cons_zero,List.set_cons_succ];done)|(simp only[Go.Act.put,List.setIfInBounds_toArray,List.set_cons_zero,List.set_cons_succ];rfl)):CR d f ops (i::rest) ⟨chs,K,l,T,w⟩ Φ:=
 CR.opw (s:=⟨chs,K,l,T,w⟩) H ho cD bV hx (ht▸h)
theorem allx {fs:aO->Bool}{l:List cN}(h:l.all (dP fs)=true):l.toArray.all (dP fs)=true:=by simpa using h
theorem CR.cl {T:Array aF}(H:d.Ok){g:aO}{args:List cN}{kS:Array aM}{Ψ:Pr->gQ->aF->aE->Prop}{Mq:Array aF}
 (hc:CF d g Mq K l w Ψ) (hk:∀K' l' v w',K.le K'->Ψ K' l' v w'->CR d f ops rest ⟨[],K',l',(cC ⟨T,[]⟩ o.dst v).tmps,w'⟩ Φ)
 (ho:ops[i]? =some o:=by exact zfc rfl (by conv=>lhs;whnf)) (hop:o.op=.call ⟨.value (.func g),args.toArray,kS⟩:=by exact rfl) (cD:dD o (dR ops T)=true:=by exact rfl) (sZ:args.all (dP d.fs)=true:=by exact rfl) (ha:args.toArray.map (bH T []).eval=Mq:=by(simp only[List.map_toArray,List.map_cons,List.map_nil];rfl)):CR d f ops (i::rest) ⟨[],K,l,T,w⟩ Φ:=
 CR.call (s:=⟨[],K,l,T,w⟩) H ho cD hop (allx sZ) rfl (by rw[ha];exact hc) hk
end
section
variable {P:bS}{o:aZ}{Tf:Array aF}{w:aE}{A B C D:Prop}
theorem uJ (v:aF)(a:A)(h:A->(aS (bH Tf []).eval o).run P w=.ok (.value v) w:=by(intro e1;(conv at e1=>rhs;whnf);unfold execOp;go_simp)):(aS (bH Tf []).eval o).run P w=.ok (.value v) w:=h a
theorem rd2 (v:aF)(a:A)(b:B)(h:A->B->(aS (bH Tf []).eval o).run P w=.ok (.value v) w:=by(intro e1 e2;(conv at e1=>rhs;whnf);unfold execOp;go_simp)):(aS (bH Tf []).eval o).run P w=.ok (.value v) w:=h a b
theorem rd4 (v:aF)(a:A)(b:B)(c:C)(d:D)(h:A->B->C->D->(aS (bH Tf []).eval o).run P w=.ok (.value v) w:=by(intro e1 e2 e3 e4;(conv at e1=>rhs;whnf);unfold execOp;go_simp)):(aS (bH Tf []).eval o).run P w=.ok (.value v) w:=h a b c d
end
def znS:Go.Code:=(Tryz.f82.body).getD .skip
def rAO1:Go.Code:=match znS with| .seq _ (.seq (a) _)=>a|_=>.skip
def rAO2:Go.Code:=match znS with| .seq _ (.seq _ (.seq (a) _))=>a|_=>.skip
def rAO3:Go.Code:=match znS with| .seq _ (.seq _ (.seq _ (.seq (a) _)))=>a|_=>.skip
def opsAO1:Array Oper:=match rAO1 with| .region _ ops _=>ops|_=>#[]
abbrev oAO1_0:Oper:=⟨some 10,.makeChan 84 (.const (.int .i64 0)),84,"l6_office.go:99",#[],none⟩
def zyF:opsAO1[0]? =some oAO1_0:=rfl
def opsAO2:Array Oper:=match rAO2 with| .region _ ops _=>ops|_=>#[]
abbrev oAO2_12:Oper:=⟨none,.send (.tmp 18) (.tmp 22),0,"l6_office.go:100",#[⟨7,.data⟩,⟨11,.data⟩],none⟩
def zIH:opsAO2[12]? =some oAO2_12:=rfl
def opsAO3:Array Oper:=match rAO3 with| .region _ ops _=>ops|_=>#[]
abbrev oAO3_1:Oper:=⟨some 24,.recv 84 (.tmp 23) false,3,"l6_office.go:101",#[⟨0,.data⟩],none⟩
def zFb:opsAO3[1]? =some oAO3_1:=rfl
def fokAO:vX aK 82:=⟨_,zxU,.inr (.inl ⟨_,rfl⟩)⟩
theorem zGq:∃ie,aK.info? 3=some ie/\ie.zero=some (.int .i64 0):=by
 obtain⟨i0,hi,jN,_,_⟩:=info_parts zv5;exact⟨i0,hi,jN⟩
theorem zbh {e:Gd}(H:e.d.Ok){K:Pr}{k q:Nat}{w:aE}{lo hb:Nat}{v:fL}{d:nQ}{kd cl ans:Int}(h:bE w lo hb v d)(hW:e.W[k]? =some (.ask q kd cl ans))(hq:q<d.qn.length)(yF:q<=100)(hK:∀(i g:Nat),d.qn[i]? =some g->K g (qa e.qs i)):
 CF e.d 82 #[.pointer (some ⟨hb,0,none⟩),.int .i64 ((q:Int)+1),.int .i64 kd,.int .i64 cl] K (.wk e.qs k) w (λK' l' x w'=>l'=.wk e.qs (k+1)/\x=.int .i64 ans/\w'=w.alloc o9):=by
 refine CF.of 25 zxU (.inr (.inl ⟨_,rfl⟩)) ?_;obtain⟨AQ,cQ,zah,hs⟩:=Ge h.Q aH;obtain⟨bq,off,g,rfl,hg,hv⟩:=zgH hs hq;have zfi:=aJ h.blk 6;have k6:w.cell? ⟨hb,6,none⟩=some (.slice (some ⟨bq,off,none⟩) d.qn.length cQ):=by rw[zfi,<-zah];rfl
 have zzC:=hK q g hg;obtain⟨ie,jU,hz⟩:=zGq;clear zfi zah hs hg hK h;refine CW.sq H ?_;refine CW.pQ H fokAO (λTp Q HQ=>?_);go_wp2;refine HQ.o _ _ ?_;clear HQ;refine CW.tape (s:=⟨[],K,.wk e.qs k,_,w⟩) ?_ Tp 0;refine CW.sq H ?_;refine CW.rg H [0,1] ?_;refine CR.make H zyF rfl rfl zv4 jU rfl (λa=>?_);simp only[cC,gE,dV,dW];refine CR.mv H (.chan (some w.heap.size)) ?_;refine CR.nil H ?_;have zwR:(w.alloc o9).cell? ⟨hb,6,none⟩=some (.slice (some ⟨bq,off,none⟩) d.qn.length cQ):=Aa k6 _;have zsM:(w.alloc o9).cell? ⟨bq,off+q,none⟩=some (.chan (some g)):=Aa hv _;have i0:(0:Int)<=(q:Int):=aC;have i1:(q:Int)<(d.qn.length:Int):=aC;generalize fB:w.alloc o9=w1 at zwR zsM;refine CW.sq H ?_;refine CW.rg H [0,1,2,3,4,5,6,7,8,9,10,11,12] ?_;refine CR.mv H (.pointer (some ⟨hb,0,none⟩)) ?_;refine CR.mv H (.pointer (some ⟨hb,0,none⟩)) ?_;refine CR.mg H (.pointer (some ⟨hb,6,none⟩)) ?_;refine CR.mv H (.slice (some ⟨bq,off,none⟩) d.qn.length cQ) ?_ (hx:=λT=>by have hh:(Tt.tp w1 T 0).cell? _=_:=zwR;unfold aS;go_simp);refine CR.mv H (.int .i64 ((q:Int)+1)) ?_;refine CR.mv H (.int .i64 (q:Int)) ?_ (hx:=λT=>by unfold aS;go_simp;try exact Dz aC aC);refine CR.mg H (.pointer (some ⟨bq,off+q,none⟩)) ?_;refine CR.mv H (.chan (some g)) ?_ (hx:=λT=>by have hh:(Tt.tp w1 T 0).cell? _=_:=zsM;unfold aS;go_simp);refine CR.mv H (.int .i64 kd) ?_;refine CR.mv H (.int .i64 cl) ?_;refine CR.mv H (.chan (some w.heap.size)) ?_;refine CR.mv H (.agg #[.int .i64 kd,.int .i64 cl,.chan (some w.heap.size)]) ?_ (hx:=λT=>by unfold aS;go_simp;try rfl);refine CR.ask H (k:=k) (q:=q) (a:=a) zIH rfl rfl rfl rfl rfl hW rfl rfl (.inl zzC) rfl (.inr ⟨rfl,rfl⟩) ?_
 try simp only[cC,gE,dV,dW]
 refine CR.nil H ?_;refine CW.sq H ?_;refine CW.rg H [0,1,2] ?_;refine CR.mv H (.chan (some w.heap.size)) ?_;refine CR.ans H (k:=k) (q:=q) (a:=a) zFb rfl rfl zv4 jU hz rfl rfl hW rfl rfl (.inr ⟨rfl,rfl⟩) ?_;simp only[cC,gE,dV,dW];refine CR.mv H (.int .i64 ans) ?_;refine CR.nil H ?_;refine CW.rt H ?_;exact⟨.inr rfl,rfl,.int .i64 ans,rfl,rfl,rfl,by first|rfl|exact fB.symm|(subst fB;rfl)⟩
end Go.Proofs.YtfcjiloojkjaeaaGreatDoor
namespace Go.Proofs.YtfcjiloojkjaeaaGreatDoor
open Go.RowKit
variable {v v':fL}{d:nQ}
theorem gC.of (h:gC v d)(hc:v'.pC=v.pC)(ho:v'.pO=v.pO)(hm:v'.pM=v.pM){d':nQ}(hr:d'.r.recs=d.r.recs)(hl:d'.ln=d.ln):gC v' d':=by
 obtain⟨a,b,c,e,f,g,i,j⟩:=h;exact⟨by rw[hc];exact a,by rw[ho];exact b,by rw[hm];exact c,by rw[hc,hr,hl];exact e,by rw[ho,hr,hl];exact f,by rw[ho,hr];exact g,by rw[hm,hr];exact i,by rw[hm,hr];exact j⟩
structure Wz (B:Nat)(w:aE)(hb:Nat)(v:fL)(s:aF)(xs:List bJ):Prop where
 row:w.ownsRow B 149 2 s xs.length (bF xs)
 ap:∀b,s.ownBlock=some b->some b∉parts v hb
variable {B hb:Nat}{w:aE}{s:aF}{xs:List bJ}
def Wz.lt (h:Wz B w hb v s xs):∀b,s.ownBlock=some b->B<=b/\b<w.heap.size:=λb e=>h.row.lt b e
theorem Wz.turn {w':aE}(h:Wz B w hb v s xs)(t:bM hb v w v' w'):Wz B w' hb v' s xs:=
 ⟨cI h.row λb e=>t.block b (h.lt b e).2 (h.ap b e),λb e x=>(t.moved b x).elim (h.ap b e) λy=>by have:=(h.lt b e).2;omega⟩
def wC (d:nQ)(m:Int)(k:Nat):nQ:={d with r:={(cZ d.r m k).1 with wait:=d.r.wait}}
structure Du (w:aE)(lo hb:Nat)(v:fL)(d:nQ)(m:Int)(k:Nat)(v1:fL)(s:aF)(wr:aE):Prop where
 at_:bE wr lo hb v1 (wC d m k)
 mr:gC v1 {d with r:=(cZ d.r m k).1}
 tn:bM hb v w v1 wr
 kp:zL v v1
 sW:v1.sW=v.sW
 so:Wz w.heap.size wr hb v1 s (sK d.r m k)
def below_drewN (n:Nat):Below w.heap.size w (w.drewN n):=⟨rfl,rfl,rfl,aX _,λ_ _=>rfl⟩
variable {lo k:Nat}{m:Int}{v1:fL}
def Du.below {wr w':aE}(h:Du w lo hb v d m k v1 s wr)(bZ:Below wr.heap.size wr w'):Du w lo hb v d m k v1 s w':=
 ⟨h.at_.below bZ,h.mr,h.tn.trans (bM.below bZ),h.kp,h.sW,h.so.turn (bM.below bZ)⟩
variable {x:bJ}
theorem Du.more {n:Nat}{s':aF}{wr w':aE}(h:Du w lo hb v d m k v1 s wr)(hg:wr.grownBy w' s.ownBlock)(cV:w'.ownsRow w.heap.size 149 2 s' n (bF (sK d.r m k)++x.cells))(hn:n=(sK d.r m k).length+1)
 (eY:s'.ownBlock=s.ownBlock\/∀b,s'.ownBlock=some b->wr.heap.size<=b) (e1:cZ d.r m (k+1)=cZ d.r m k) (e2:sK d.r m (k+1)=sK d.r m k++[x]):Du w lo hb v d m (k+1) v1 s' w':=by
 have e3:wC d m (k+1)=wC d m k:=by unfold wC;rw[e1]
 refine⟨by rw[e3];exact h.at_.grown hg h.so.ap,by rw[e1];exact h.mr,h.tn.grown hg λb e=>(h.so.lt b e).1,h.kp,h.sW,⟨?_,λb e x=>?_⟩⟩
 .rw[e2]
  have:bF (sK d.r m k++[x])=bF (sK d.r m k)++x.cells:=by simp[bF]
  rw[this,gM];subst hn;exact cV
 .rcases eY with eY|eY
  .exact h.so.ap b (eY▸e) x
  .have:=eY b e;have:=(h.at_.lt b x).2;omega
theorem zy2 {i:Nat}(e1:cZ d.r m (k+1)=({lD (cZ d.r m k).1 i D8 with back:=(cZ d.r m k).1.back++[x]},(cZ d.r m k).2++[32]++jM x.c)):
 wC d m (k+1)={wC d m k with r:={(wC d m k).r with recs:=(wC d m k).r.recs.modify i (λz=>{z with t:=(wC d m k).r.clk,e:=D8}),back:=(wC d m k).r.back++[x]}}:=by
 unfold wC;rw[e1];rfl
theorem Du.fin {wr:aE}(h:Du w lo hb v d m k v1 s wr)(hk:k=d.r.wait.length)(T:TK d m k)(dQ:lo<=w.heap.size)(ha:bE w lo hb v d):
 bE (wr.setCell ⟨hb,7,none⟩ s) lo hb {v1 with sW:=s} {d with r:=(uY d.r m).1}/\gC {v1 with sW:=s} {d with r:=(uY d.r m).1}/\bM hb v w {v1 with sW:=s} (wr.setCell ⟨hb,7,none⟩ s)/\zL v {v1 with sW:=s}:=by
 subst hk;have e0:=TK.end_ T;have e1:(cZ d.r m d.r.wait.length).1=(uY d.r m).1:=by rw[zcV]
 have h1:=h.at_.newW (zv1 h.so.row dQ) rfl h.so.ap;have e2:{wC d m d.r.wait.length with r:={(wC d m d.r.wait.length).r with wait:=sK d.r m d.r.wait.length}}=({d with r:=(uY d.r m).1}:nQ):=by
  unfold wC;simp only[e1,<-e0]
 refine⟨by rw[<-e2];exact h1,?_,⟨?_,λb bZ hn=>?_,λb hx=>?_⟩,h.kp⟩
 .have:=h.mr
  rw[e1] at this;exact gC.of (v':={v1 with sW:=s}) this rfl rfl rfl rfl rfl
 .rw[sN];exact h.tn.size
 .exact(eH wr _ _ b (λe=>hn zwv)).trans (h.tn.block b bZ hn)
 .have hp:parts {v1 with sW:=s} hb=(parts v1 hb).set 5 s.ownBlock:=rfl
  rw[hp] at hx;rcases List.mem_or_eq_of_mem_set hx with hx|hx
  .exact h.tn.moved b hx
  .exact .inr (h.so.lt b hx.symm).1
theorem zH9 (h:bE w lo hb v d)(mr:gC v d)(hi:yB d)(dQ:lo<=w.heap.size)(ht:zZ lo w)(hm:0<=m)(hc:d.r.clk+m<=100000)(zbr:d.r.back.length+d.r.wait.length<=5000):
 Calls aK 105 #[.pointer (some ⟨hb,0,none⟩),.int .i64 m] w λe w'=>e=.returned (.string ⟨(uY d.r m).2.toArray⟩)/\∃v',bE w' lo hb v' {d with r:=(uY d.r m).1}/\gC v' {d with r:=(uY d.r m).1}/\bM hb v w v' w'/\zL v v':=by
 have zkl:=aD (TK.all hi hm hc zbr);have zit:=hi.sm.clk.1;have zdH:=hi.sm.nw;obtain⟨zL2,zMH⟩:=(Cs hi.R.off).2.2.2.2;obtain⟨AW,cW,Lf,Kv⟩:=Ge h.W aH;obtain⟨n,hn⟩:=aU d.r.wait.length;obtain⟨ck,Jd⟩:=aU d.r.clk;have zuj:=aJ h.blk 11;have Ef:w.cell? ⟨hb,11,none⟩=some (.int .i64 ck):=by rw[zuj,Jd];rfl
 have kf:=eJ h.blk;obtain⟨a1,t1⟩:=h.putClk (ck+m);have Tb:wC d m 0={d with r:={d.r with clk:=ck+m}}:=by rw[Jd];rfl
 rw[<-Tb] at a1;have I1:=aD (show Du w lo hb v d m 0 v (.slice none 0 0) _ from⟨a1,mr.of rfl rfl rfl rfl rfl,t1,zL.rf v,rfl,⟨⟨rfl,.inl ⟨rfl,rfl⟩⟩,λb e=>by cases e⟩⟩);have Ed:=aD (ht.turn h dQ t1);have HN:=aD hn;have Gf:=aD Jd;have Ba:=aD (show v.sW=.slice AW n cW by rw[hn];exact Lf);have J8:n<=1000:=aC;rw[<-Jd] at hc zit;have Mg:=aD dQ;have zLR:=aD ht;have HH:=aD h;clear hn Jd Lf Kv a1 t1 Tb h mr hi dQ ht zuj zdH
 go_enter Tryz.func105,Tryz.ntmps105
 go_upto_region 2 with fail
 obtain⟨W1,dG⟩:=aU (w.setCell ⟨hb,11,none⟩ (.int .i64 (ck+m)));rw[<-dG] at I1 Ed⊢;clear dG Ef kf;have Ef:W1.cell? ⟨hb,11,none⟩=some (.int .i64 (ck+m)):=by
  have:=aJ I1.o.at_.blk 11;rw[this,Gf.o];rfl
 have Ea:=P3 (c:=ck+m) aC aC
 go_upto_region 3 with(go_at_call 112;refine(zGY Ed.o (ck+m) aC aC).mono ?_;rintro x w3 ⟨rfl,Zl⟩;have zaP:=aD Zl;clear Zl)
 have I3:=aD (I1.o.below zaP.o);clear Ef I1 Ed zaP;have k7:w3.cell? ⟨hb,7,none⟩=some (.slice AW n cW):=by
  have:=aJ I3.o.at_.blk 7;rw[this,<-Ba.o];rfl
 have zjf:=aD (show(⟨([97,116,32]++jM (ck+m):List UInt8).toArray⟩:ByteArray)=⟨(cZ d.r m 0).2.toArray⟩ by rw[Gf.o];rfl)
 go_wp2_with fail
 go_loopw [5,6,28] (λt s i wr=>∃(k:Nat) (v1:fL) (A:Option bL) (n2 c2:Nat),k<=n/\i=.int .i64 k/\t=.string ⟨(cZ d.r m k).2.toArray⟩/\s=.slice A n2 c2/\Du w lo hb v d m k v1 (.slice A n2 c2) wr) (λ_ _ i _=>n-(intOf i).toNat)
 case atStart=>
  refine⟨0,v,none,0,0,jY _,rfl,?_,rfl,I3.o⟩;rw[<-zjf.o];congr 1
 case round=>
  obtain⟨k,v1,A2,n2,c2,hk,rfl,rfl,rfl,hI⟩:=hrel;have HI:=aD hI;have T:=zkl.o k (by have:=HN.o;omega);have zgd:(cZ d.r m k).2.length<=40000:=by have:=T.txt;omega
  have jT:n2=(sK d.r m k).length:=by
   rcases hI.so.row.2 with⟨e,h0⟩|⟨g,cap,cur,e,_⟩
   .injection e with e1 e2 e3;rw[e2];exact h0.symm
   .injection e with e1 e2 e3
  have zwu:n2<=1000:=by have:=T.le;omega
  have uF:=aD jT;clear hI jT;by_cases aN:k<n
  .have hW:=HI.o.at_.W
   rw[HI.o.sW,Ba.o] at hW;have hW:wr.ownsRow lo 149 2 (.slice AW n cW) n (bF d.r.wait):=by
    have e:(wC d m k).r.wait.length=n:=HN.o.symm;rw[e] at hW;exact hW
   obtain⟨bW,zK7,x,hA,mQ,eK,e0,e1⟩:=zdm (Ak hW aH) aN;subst hA;obtain⟨i,y,nx⟩:=T.next eK;obtain⟨gL,Mo,hO,hM,hC⟩:=HI.o.mr.onLine T.i nx.hy nx.op nx.c;obtain⟨gR,cR,zx6⟩:=ziU HI.o.at_ nx.hy;obtain⟨Gy,qG⟩:=nx.b;obtain⟨L4,zIT⟩:=nx.f;rw[<-Gf.o] at zIT;have i0:(0:Int)<=(k:Int):=aC;have i1:(k:Int)<(n:Int):=aC;have NX:=aD nx;have zkK:=aD eK;have HL:=aD (And.intro Mo (And.intro hO (And.intro hM hC)));have vJ:=aD zx6;have HT:=aD T;clear hW nx eK Mo hO hM hC zx6 T mQ
   go_upto_region 7 with fail
   obtain⟨W4,sS⟩:=aU (wr.alloc (.cells #[.int .i64 x.c,.int .i64 x.p] 149));have I4:=aD (show Du w lo hb v d m k v1 (.slice A2 n2 c2) W4 by rw[sS];exact HI.o.below (dS (eF _ _) _));have uX:W4.heap[wr.heap.size]? =some (.cells #[.int .i64 x.c,.int .i64 x.p] 149):=by rw[sS];exact lQ _ _
   have Xy:=aD uX;have g0:=aJ uX 0;have g1:=aJ uX 1;have zw3:=aD (show some wr.heap.size∉parts v1 hb from λh=>by have:=(HI.o.at_.lt _ h).2;omega);obtain⟨gx,zrT⟩:∃y,y=wr.heap.size:=⟨_,rfl⟩;rw[<-sS];rw[<-zrT] at g0 g1 Xy zw3⊢;clear sS uX e0 e1 zrT;have Ef:W4.cell? ⟨hb,11,none⟩=some (.int .i64 (ck+m)):=by
    have:=aJ I4.o.at_.blk 11;rw[this];show some (Qo .i64 (cZ d.r m k).1.clk)=_;rw[HT.o.clk,Gf.o]
   have k2:W4.cell? ⟨hb,2,none⟩=some (.int .i64 d.r.o.pt):=by
    have:=aJ I4.o.at_.blk 2;rw[this];show some (Qo .i64 (cZ d.r m k).1.o.pt)=_;rw[HT.o.o]
   have k3:=(I4.o.at_.recAt vJ.o NX.o.hy (j:=3) (u:=.int .i64 y.f) aH rfl).1;have HE:=aD (λnq:Nat=>Calls.quiet_of (w:=W4) (n:=nq) ((zd7 (w:=W4.drewN nq) (I4.o.at_.same rfl) vJ.o NX.o.hy HL.o.2.2.1).mono λe w' hh=>⟨hh.1,1,hh.2⟩));by_cases hp:ck+m-y.f<d.r.o.pt
   .go_quiet ((go_at_call 115;exact HE.o _))
    go_upto_region 8 with fail
    obtain⟨wz,uV⟩:=aU (W4.drewN nq);rw[<-uV];have IZ:=aD (show Du w lo hb v d m k v1 (.slice A2 n2 c2) wz by rw[uV];exact I4.o.below (below_drewN nq));have zhr:wz.heap[gx]? =some (.cells #[.int .i64 x.c,.int .i64 x.p] 149):=by rw[uV];exact Xy.o
    have g0:=aJ zhr 0;have g1:=aJ zhr 1;clear uV;obtain⟨OB,za6⟩:=aU (.cells #[.int .i64 x.c,.int .i64 x.p] 149:Obj);have zwn:=aD (IZ.o.below (dS (eF _ _) OB));have zmi:=zwn.o.so.row;rw[<-uF.o] at zmi;obtain⟨q1,q2,w5,fN,cV,nD,eY⟩:=M9 (t:=69) (ty:=69) zaA Tryz.underlying69 rfl aH zmi (g:=wz.heap.size) (cs:=#[.int .i64 x.c,.int .i64 x.p]) (news:=bJ.cells x) (by rw[za6];exact lQ _ _) rfl (m:=1) rfl aH Q7 aC aH (by have:=IZ.o.tn.size;simp;omega);rw[za6] at fN;have AP:=aD fN;clear fN zmi Ef k2 k3
    go_upto_region 12 with(at_builtin;refine zsH rfl (.tmp 50) (.tmp 52) 69 69 rfl (.slice A2 n2 c2) (.slice (some ⟨wz.heap.size,0,none⟩) 1 1) (.slice (some ⟨q1,0,none⟩) (n2+1) q2) rfl rfl AP.o ?_)
    have IM:=aD (zwn.o.more nD (x:=x) cV (by rw[uF.o]) eY (NX.o.not_ zhU).1 (NX.o.not_ zhU).2);have ET:=aD (NX.o.not_ zhU).1;clear AP cV nD eY g0 g1 zhr;go_wp2;go_roundw
    case rel=>exact⟨k+1,v1,some ⟨q1,0,none⟩,n2+1,q2,aC,n6,by rw[ET.o],rfl,IM.o⟩
    case measure=>simp[intOf];omega
   .have zwq:d.r.o.pt<=d.r.clk+m-y.f:=by have:=Gf.o;omega
    obtain⟨E1,E2⟩:=NX.o.tired zwq;have cK:=aD E1;have nC:=aD E2;have zBR:=aD (show some gx∉parts v1 hb from zw3.o);clear E1 E2 zwq
    go_quiet ((go_at_call 115;exact HE.o _))
    go_upto_region 9 with fail
    obtain⟨wz,uV⟩:=aU (W4.drewN nq);rw[<-uV];have IZ:=aD (show Du w lo hb v d m k v1 (.slice A2 n2 c2) wz by rw[uV];exact I4.o.below (below_drewN nq));have zpt:=aD (show wz.heap[gx]? =some (.cells #[.int .i64 x.c,.int .i64 x.p] 149) by rw[uV];exact Xy.o);clear uV Ef k2 k3 g0 g1;have g0:=aJ zpt.o 0
    go_upto_region 10 with(go_at_call 116;refine(zki (e:=⟨#[116,105,114,101,100]⟩) IZ.o.at_ NX.o.hy HL.o.2.1 HL.o.2.2.2 HL.o.2.2.1 vJ.o).mono ?_;rintro en w5 ⟨rfl,v5,a5,t5,p5⟩;have A5:=aD a5;have T5:=aD t5;have P5:=aD p5;clear a5 t5 p5)
    obtain⟨zl1,zqy⟩:=IZ.o.at_.turned T5.o zpt.o zBR.o;have zGS:=aD (gC.of (v':=v5) (IZ.o.mr.clear HT.o.i.S HT.o.i.ndl (λz hz=>(HT.o.i.lb z hz).1) NX.o.hy NX.o.op HL.o.1 (f:=λz=>{z with t:=(cZ d.r m k).1.clk,e:=D8}) (λz=>⟨rfl,rfl⟩) zhP) P5.o.1 (by rw[P5.o.2.1,NX.o.c]) P5.o.2.2.1 rfl rfl);have zGX:=aD (IZ.o.so.turn T5.o);have Di:=aD zl1;have k8:w5.cell? ⟨hb,8,none⟩=some v5.sB:=aJ A5.o.blk 8;have g5:=aJ zl1 0;obtain⟨OC,zap⟩:=aU (.cells #[.int .i64 x.c] 3:Obj);have a5:=(A5.o.alloc OC).drew;have nK:(cZ d.r m k).1.back.length<=5000:=HT.o.i.sm.nb;obtain⟨q1,q2,w6,fN,cV,nD,eY⟩:=M9 (t:=38) (ty:=38) zaQ X8 rfl aH a5.B (g:=w5.heap.size) (cs:=#[.int .i64 x.c]) (news:=[.int .i64 x.c]) (by rw[zap];exact lQ _ _) rfl (m:=1) rfl aH Ng (by show(cZ d.r m k).1.back.length+1<=_;omega) aH (by have:=IZ.o.tn.size;have:=T5.o.size;have:=Mg.o;simp;omega);obtain⟨a6,t6⟩:=a5.putB nD (xs:=(cZ d.r m k).1.back++[x]) (by have e:jX (((cZ d.r m k).1.back++[x]).map bJ.c)=jX ((cZ d.r m k).1.back.map bJ.c)++[.int .i64 x.c]:=(by simp[jX]);rw[e];exact cV) (by simp;rfl) eY;have A6:=aD (show bE (w6.setCell ⟨hb,8,none⟩ (.slice (some ⟨q1,0,none⟩) ((cZ d.r m k).1.back.length+1) q2)) lo hb {v5 with sB:=.slice (some ⟨q1,0,none⟩) ((cZ d.r m k).1.back.length+1) q2} (wC d m (k+1)) by rw[zy2 cK.o];exact a6);have T6:=aD (show bM hb v5 w5 {v5 with sB:=.slice (some ⟨q1,0,none⟩) ((cZ d.r m k).1.back.length+1) q2} (w6.setCell ⟨hb,8,none⟩ (.slice (some ⟨q1,0,none⟩) ((cZ d.r m k).1.back.length+1) q2)) from(bM.below (dS (eF _ w5) OC)).trans (⟨t6.size,t6.block,t6.moved⟩:bM hb v5 (w5.alloc OC) _ _));have L1:w6.heap[hb]? =some (O0 v5 _):=(a5.other (j:=6) (c:=8) (x:=v5.sB) rfl aH nD (.slice (some ⟨q1,0,none⟩) ((cZ d.r m k).1.back.length+1) q2)).2.trans a5.blk;have Ov:=aJ L1 8;have kf:=eJ L1 8;have AP:=aD fN;clear cV nD eY a6 t6 a5 L1 fN zl1 g0;rw[zap] at AP;refine wp_WA10 w5 w6 hb gx q1 ((cZ d.r m k).1.back.length+1) q2 v5.sB x.c rfl rfl rfl k8 g5 AP.o Ov kf rfl ?_;rw[Go.Mt.An,zwD];simp only[Go.Mt.xL,dV,dW,zjK,lWA10,Ds,C7];obtain⟨W7,Bz⟩:=aU (w6.setCell ⟨hb,8,none⟩ (.slice (some ⟨q1,0,none⟩) ((cZ d.r m k).1.back.length+1) q2));rw[<-Bz] at A6 T6⊢;clear Bz k8 Ov kf g5 AP;have g7:=aJ (A5.o.turned T6.o Di.o zqy).1 0;have zMa:=P3 (c:=x.c) aC aC
    have I7:=aD (show Du w lo hb v d m (k+1) {v5 with sB:=.slice (some ⟨q1,0,none⟩) ((cZ d.r m k).1.back.length+1) q2} (.slice A2 n2 c2) W7 from
     ⟨A6.o,by rw[cK.o];refine gC.of zGS.o ?_ ?_ ?_ ?_ ?_<;>rfl,(IZ.o.tn.trans T5.o).trans T6.o,⟨P5.o.2.2.2.2.1.trans IZ.o.kp.1,P5.o.2.2.2.2.2.1.trans IZ.o.kp.2.1,P5.o.2.2.2.2.2.2.2.2.1.trans IZ.o.kp.2.2.1,P5.o.2.2.2.2.2.2.2.2.2.trans IZ.o.kp.2.2.2⟩,P5.o.2.2.2.2.2.2.1.trans IZ.o.sW,by rw[nC.o];exact zGX.o.turn T6.o⟩)
    clear T5 zqy A6 T6
    go_wp2_with (go_at_call 112;refine(zhE x.c aC aC _).mono ?_;rintro en w8 ⟨rfl,Hr⟩;obtain rfl:=Hr)
    go_roundw
    case rel=>exact⟨k+1,_,A2,n2,c2,aC,n6,by rw[cK.o];simp[I9],rfl,I7.o⟩
    case measure=>simp[intOf];omega
  .have e:k=n:=aC
   subst e;obtain⟨F1,F2,F3,F4⟩:=HI.o.fin HN.o T Mg.o HH.o;have FF:=aD (And.intro F1 (And.intro F2 (And.intro F3 F4)));have k7:wr.cell? ⟨hb,7,none⟩=some v1.sW:=aJ HI.o.at_.blk 7;have Xz:wr.cell? ⟨hb,7,none⟩=some (.slice AW k cW):=by rw[k7,HI.o.sW,Ba.o]
   have kf:=eJ HI.o.at_.blk;have HR:=aD (show(⟨(cZ d.r m k).2.toArray⟩:ByteArray)=⟨(uY d.r m).2.toArray⟩ by rw[<-zcV,<-HN.o]);clear F1 F2 F3 F4 k7;go_wp2;go_ret;exact⟨by rw[HR.o];rfl,_,FF.o⟩
end Go.Proofs.YtfcjiloojkjaeaaGreatDoor
namespace Go.Proofs.YtfcjiloojkjaeaaGreatDoor
open Go.RowKit Go.Mt Go.Conc Go.Tt Go.Maps
section
variable {d:pR}{f:aO}{s:WS}{ops:Array aZ}{i:Nat}{rest:List Nat}{Φ:WS->Prop}{o:aZ}
theorem CR.call' (H:d.Ok){g:aO}{args:Array cN}{kS:Array aM}{Ψ:Pr->gQ->aF->aE->Prop}(Mq:Array aF)(ho:ops[i]? =some o)(cD:dD o (dR ops s.T)=true)(hop:o.op=.call ⟨.value (.func g),args,kS⟩)(sZ:args.all (dP d.fs)=true)(tP:s.chs=[])(ha:args.map (bH s.T []).eval=Mq)
 (hc:CF d g Mq s.K s.l s.w Ψ) (hk:∀K' l' v w',s.K.le K'->Ψ K' l' v w'->CR d f ops rest ⟨[],K',l',(cC ⟨s.T,[]⟩ o.dst v).tmps,w'⟩ Φ):CR d f ops (i::rest) s Φ:=
 CR.call H ho cD hop sZ tP (by rw[ha];exact hc) hk
end
variable {w:aE}{lo hb:Nat}{v:fL}{d:nQ}
def bE.tp (h:bE w lo hb v d)(T:jV)(n:Nat):bE (Tt.tp w T n) lo hb v d:=h.same rfl
variable {w':aE}{v':fL}
def bM.tp (h:bM hb v w v' w')(T:jV)(n:Nat):bM hb v w v' (Tt.tp w' T n):=h.same rfl
def zb4:vX aK 120:=⟨_,zq9,.inr (.inl ⟨_,rfl⟩)⟩
variable {e:Gd}{K:Pr}{k q i:Nat}{c:Int}{x:bT}
theorem zyi (H:e.d.Ok)(h:bE w lo hb v d)(hW:e.W[k]? =some (.ask q 1 c c))(hq:q<d.qn.length)(yF:q<=100)(hK:∀(i g:Nat),d.qn[i]? =some g->K g (qa e.qs i))
   (hx:d.r.recs[i]? =some x) (hM:kW c v.pM=some (.int .i64 (i:Int))) (Ia:1<=c) (qN:c<=99):
 CF e.d 120 #[.pointer (some ⟨hb,0,none⟩),.int .i64 ((q:Int)+1),.int .i64 c] K (.wk e.qs k) w (λK' l' y w'=>l'=.wk e.qs (k+1)/\y=.string ⟨([99,97,108,108,32]++jM c).toArray⟩/\bE w' lo hb v {d with r:={d.r with recs:=d.r.recs.modify i λz=>{z with o:=(q:Int)+1,h:=d.r.clk}}}/\bM hb v w v w'):=by
 refine CF.of 29 zq9 (.inr (.inl ⟨_,rfl⟩)) ?_;have HX:=aD hx;have HM:=aD hM;obtain⟨gR,cR,hR⟩:=ziU h hx;have HR:=aD hR;clear hx hM hR;refine CW.sq H ?_;refine CW.pQ H zb4 (λTp Q HQ=>?_);go_wp2;refine HQ.o _ _ ?_;clear HQ;refine CW.tape (s:=⟨[],K,.wk e.qs k,_,w⟩) ?_ Tp 0;refine CW.sq H ?_;refine CW.rg H [0,1,2,3] ?_;refine CR.mv H (.pointer (some ⟨hb,0,none⟩)) ?_;refine CR.mv H (.int .i64 ((q:Int)+1)) ?_;refine CR.mv H (.int .i64 c) ?_;refine CR.cl H (zbh H h hW hq yF hK) (λK' l' y w' hl oR=>?_);obtain⟨rfl,rfl,qE⟩:=oR;simp only[cC,gE,dV,dW];have A1:=aD (show bE w' lo hb v d by rw[qE];exact h.alloc _);have T1:=aD (show bM hb v w v w' by rw[qE];exact bM.below (dS (eF _ _) _));clear h hW hq yF hK qE;refine CR.nil H ?_;refine CW.sq H ?_;refine CW.pQ H zb4 (λTp Q HQ=>?_);obtain⟨wa,xB⟩:=aU (Tt.tp w' Tp 0);have A2:=aD (show bE wa lo hb v d by rw[xB];exact A1.o.tp Tp 0);have T2:=aD (show bM hb v w v wa by rw[xB];exact T1.o.tp Tp 0);rw[<-xB];clear xB A1 T1
 go_wp2_with (go_at_call 115;refine(zd7 A2.o HR.o HX.o HM.o).mono ?_;rintro en w2 ⟨rfl,fX⟩;obtain rfl:=fX)
 refine HQ.o _ _ ?_;obtain⟨w2,fX⟩:=aU wa.drew;rw[<-fX];have A3:=aD (show bE w2 lo hb v d by rw[fX];exact A2.o.drew);have T3:=aD (show bM hb v w v w2 by rw[fX];exact T2.o.same rfl);clear HQ fX A2 T2;refine CW.sq H ?_;refine CW.pQ H zb4 (λzhS Q HQ=>?_);obtain⟨zkp,xB⟩:=aU (Tt.tp w2 zhS 0);have A4:=aD (show bE zkp lo hb v d by rw[xB];exact A3.o.tp zhS 0);have T4:=aD (show bM hb v w v zkp by rw[xB];exact T3.o.tp zhS 0);dsimp only;rw[<-xB];clear xB A3 T3;obtain⟨c2,f2⟩:=A4.o.recAt HR.o HX.o (j:=2) (u:=.int .i64 x.o) aH rfl;obtain⟨a5,t5⟩:=A4.o.setR (λz=>{z with o:=(q:Int)+1}) HR.o HX.o (j:=2) (u:=.int .i64 ((q:Int)+1)) aH zw6 rfl;have A5:=aD a5;have T5:=aD (T4.o.trans t5);clear a5 t5;go_wp2;refine HQ.o _ _ ?_;clear HQ c2 f2 A4 T4;obtain⟨w5,nY⟩:=aU (zkp.setCell ⟨gR,i*7+2,none⟩ (.int .i64 ((q:Int)+1)));rw[<-nY] at A5 T5⊢;clear nY;have zaU:=aD (show(d.r.recs.modify i λz=>{z with o:=(q:Int)+1})[i]? =some {x with o:=(q:Int)+1} from zcD HX.o);have lE:=aD (show v.sR=.slice (some ⟨gR,0,none⟩) (d.r.recs.modify i λz=>{z with o:=(q:Int)+1}).length cR by rw[List.length_modify];exact HR.o);refine CW.sq H ?_;refine CW.pQ H zb4 (λSg Q HQ=>?_);obtain⟨zfA,xB⟩:=aU (Tt.tp w5 Sg 0);have A6:=aD (show bE zfA lo hb v _ by rw[xB];exact A5.o.tp Sg 0);have T6:=aD (show bM hb v w v zfA by rw[xB];exact T5.o.tp Sg 0);dsimp only;rw[<-xB];clear xB A5 T5;have Ef:zfA.cell? ⟨hb,11,none⟩=some (.int .i64 d.r.clk):=aJ A6.o.blk 11;obtain⟨c4,f4⟩:=A6.o.recAt lE.o zaU.o (j:=4) (u:=.int .i64 x.h) aH rfl;obtain⟨a7,t7⟩:=A6.o.setR (λz=>{z with h:=d.r.clk}) lE.o zaU.o (j:=4) (u:=.int .i64 d.r.clk) aH zws rfl;simp only[zel] at a7;have A7:=aD a7;have T7:=aD (T6.o.trans t7);clear a7 t7;go_wp2;refine HQ.o _ _ ?_;clear HQ c4 f4 A6 T6 Ef;obtain⟨w7,rG⟩:=aU (zfA.setCell ⟨gR,i*7+4,none⟩ (.int .i64 d.r.clk));rw[<-rG] at A7 T7⊢;clear rG;have Ea:=P3 (c:=c) aC aC;refine CW.sq H ?_;refine CW.pQ H zb4 (λX5 Q HQ=>?_);dsimp only
 go_wp2_with (go_at_call 112;refine(zhE c aC aC _).mono ?_;rintro en w8 ⟨rfl,Hr⟩;obtain rfl:=Hr)
 refine HQ.o _ _ ?_;clear HQ;refine CW.rt H ?_;exact⟨.inr rfl,rfl,.string ⟨([99,97,108,108,32]++jM c).toArray⟩,(by have ee:(⟨#[99,97,108,108,32]⟩:ByteArray)++⟨(jM c).toArray⟩=⟨([99,97,108,108,32]++jM c).toArray⟩:=(by simp[I9]);rw[<-ee];rfl),rfl,rfl,A7.o.tp X5 0,T7.o.tp X5 0⟩
structure zcd (qs:List Nat)(lo hb:Nat)(v:fL)(d:nQ)(w:aE)(k n:Nat)(R:b7×List UInt8)(l':gQ)(y:aF)(w':aE):Prop where
 l:l'=.wk qs (k+n)
 y:y=.string ⟨R.2.toArray⟩
 x:∃v',bE w' lo hb v' {d with r:=R.1}/\gC v' {d with r:=R.1}/\bM hb v w v' w'/\zL v v'
def Co (W:List fG)(k:Nat)(A:List fG):Prop:=∀(j:Nat) (x:fG),A[j]? =some x->W[k+j]? =some x
variable {W A:List fG}
def Co.head {x:fG}(h:Co W k (x::A)):W[k]? =some x:=h 0 x rfl
theorem Co.tail {x:fG}(h:Co W k (x::A)):Co W (k+1) A:=λj y hy=>by
 have:=h (j+1) y hy;rw[show k+1+j=k+(j+1) by omega];exact this
variable {n:Nat}
theorem zmp {E s:Nat}{v:aF}{xs:List aF}(h:w.ownsRow lo E s v n xs)(hn:0<n):∃g c,v=.slice (some ⟨g,0,none⟩) n c:=by
 rcases h.2 with⟨_,h0⟩|⟨g,cap,cur,e,_⟩
 .omega
 .exact⟨g,_,e⟩
variable {b:b7}
theorem zwL (hr:RInv b)(op:Int):0<=dK b.recs op/\(dK b.recs op≠0->0<dK b.recs op):=by
 rcases zrw b.recs op with⟨i,x,h1,_,_,h4⟩|⟨_,h4⟩
 .have:=(hr.recB x (dX h1)).1
  rw[h4];omega
 .rw[h4];exact⟨Int.le_refl _,λh=>absurd rfl h⟩
theorem Lp (q:Nat):zB ((q:Int)+1)=q:=by unfold zB;omega
def Ry:vX aK 103:=⟨_,zu4,.inr (.inl ⟨_,rfl⟩)⟩
theorem cf_pick (H:e.d.Ok)(h:bE w lo hb v d)(mr:gC v d)(hi:yB d)(hW:Co e.W k (Gu d.r ((q:Int)+1)))(hq:q<d.qn.length)(yF:q<=100)(hK:∀(i g:Nat),d.qn[i]? =some g->K g (qa e.qs i)):
 CF e.d 103 #[.pointer (some ⟨hb,0,none⟩),.int .i64 ((q:Int)+1)] K (.wk e.qs k) w (λK' l' y w'=>zcd e.qs lo hb v d w k (Gu d.r ((q:Int)+1)).length (nU d.r ((q:Int)+1)) l' y w'):=by
 refine CF.of 35 zu4 (.inr (.inl ⟨_,rfl⟩)) ?_;have A0:=aD h;have T0:=aD (bM.refl (hb:=hb) (v:=v) (w:=w));obtain⟨ans,Np⟩:=aU (dK d.r.recs ((q:Int)+1));have HA:=aD Np;have HI:=aD hi;have MR:=aD mr;have hg:=zwL hi.R ((q:Int)+1);rw[<-Np] at hg;have Qg:e.W[k]? =some (.ask q 0 0 ans):=by have:=hW.head;rw[Lp,<-Np] at this;exact this
 have HW:=aD hW;clear h mr hi hW Np;refine CW.sq H (CW.p0 H Ry A0 T0 λw1 fB A1 T1=>?_);refine CW.sq H ?_;refine CW.sq H ?_;refine CW.rg H [0,1,2,3] ?_;refine CR.mv H (.pointer (some ⟨hb,0,none⟩)) ?_;refine CR.mv H (.int .i64 ((q:Int)+1)) ?_;refine CR.cl H (zbh H A1.o Qg hq yF hK) (λK' l' y w' hl oR=>?_);obtain⟨rfl,rfl,qE⟩:=oR;simp only[cC,gE,dV,dW];have A2:=aD (show bE w' lo hb v d by rw[qE];exact A1.o.alloc _);have T2:=aD (show bM hb v w v w' by rw[qE];exact T1.o.trans (bM.below (dS (eF _ _) _)));have rL:∀(i g:Nat),d.qn[i]? =some g->K' g (qa e.qs i):=λi g hg=>hl _ _ (hK i g hg);clear qE A1 T1 Qg hK hl;by_cases hz:ans=0
 .
   subst hz;refine nP ?_;refine CR.mg H (.bool false) ?_;refine CR.nil H ?_;refine CW.cd H false ?_;refine CW.sk H ?_;dsimp only;refine CW.sq H ?_;have Be:¬0<dK d.r.recs ((q:Int)+1):=by rw[<-HA.o];omega
   have HF:=aD Be;clear hg Be;obtain⟨AW,cW,Lf,Kv⟩:=Ge A2.o.W aH;have Ba:=aD Lf
   cases cD:d.r.wait with
   |nil=>
    have Qn:=aD cD;have e1:nU d.r ((q:Int)+1)=(d.r,[110,111,110,101]):=by unfold nU;rw[if_neg HF.o,Qn.o]
    have e2:Gu d.r ((q:Int)+1)=[.ask q 0 0 0]:=by unfold Gu;rw[if_neg HF.o,Qn.o,Lp,<-HA.o]
    have cK:=aD e1;have nC:=aD e2;clear e1 e2;refine CW.sq H (CW.pW H Ry A2 T2 λw3 Q iU A3 T3 HQ=>?_);have k7:w3.cell? ⟨hb,7,none⟩=some (.slice AW 0 cW):=by
     have:=aJ A3.o.blk 7;rw[this,<-show v.sW=.slice AW 0 cW by rw[Ba.o,cD];rfl];rfl
    clear cD Lf Kv;go_wp2;refine HQ.o _ _ ?_;clear HQ;refine CW.cd H true ?_;refine CW.sq H (CW.p0 H Ry A3 T3 λw4 lN A4 T4=>?_);refine CW.rt H ?_;refine⟨.inr rfl,rfl,.string ⟨#[110,111,110,101]⟩,rfl,⟨by rw[nC.o];rfl,by rw[cK.o],v,?_,?_,?_,zL.rf v⟩⟩
    .rw[cK.o];exact A4.o
    .rw[cK.o];exact MR.o
    .exact T4.o
   |cons c cs=>
    have Qn:=aD cD;obtain⟨i,x,hx,rQ,Io,sV⟩:=HI.o.S.wt c Zv;have eY:jJ d.r.recs c.c=some i:=by rw[<-Io];exact HI.o.S.at_ hx rQ
    have Ib:=HI.o.R.waitB c Zv;obtain⟨gL,Mo,hO,hM,hC⟩:=MR.o.onLine HI.o hx rQ Io;have Pe:dY (c::cs) c.c=cs:=zgU (st:=[]) (by have:=HI.o.R.nodup;rw[cD] at this;exact this);have e1:nU d.r ((q:Int)+1)=({d.r with recs:=d.r.recs.modify i λz=>{z with o:=(q:Int)+1,h:=d.r.clk},wait:=cs},[99,97,108,108,32]++jM c.c):=by
     unfold nU;rw[if_neg HF.o,cD];simp only[eY,Pe]
    have e2:Gu d.r ((q:Int)+1)=[.ask q 0 0 0,.ask q 1 c.c c.c]:=by unfold Gu;rw[if_neg HF.o,cD,Lp,<-HA.o]
    have zcX:e.W[k+1]? =some (.ask q 1 c.c c.c):=by have:=HW.o;rw[e2] at this;exact this.tail.head
    obtain⟨gW,zKU,zt4⟩:=zmp A2.o.W Zv;rw[Lf] at zt4;injection zt4 with qV yD Kx;subst qV;have hlen:d.r.wait.length=cs.length+1:=by rw[cD];rfl
    have J8:=HI.o.sm.nw;have ztP:=aD hlen;have U0:=aD (show v.sW=.slice (some ⟨gW,0,none⟩) (cs.length+1) cW by rw[Ba.o,hlen]);have HX:=aD hx;have HM:=aD hM;have cK:=aD e1;have nC:=aD e2;have zH5:cs.length<=1000:=aC;have Ia:=Ib.1;have qN:=Ib.2;clear cD hx rQ Io sV eY Ib Mo hO hM hC Pe e1 e2 Lf Kv Ba hlen J8 yD Kx;refine CW.sq H (CW.pW H Ry A2 T2 λw3 Q iU A3 T3 HQ=>?_);have k7:w3.cell? ⟨hb,7,none⟩=some (.slice (some ⟨gW,0,none⟩) (cs.length+1) cW):=by
     have:=aJ A3.o.blk 7;rw[this,<-U0.o];rfl
    go_wp2;refine HQ.o _ _ ?_;clear HQ;clear k7;refine CW.cd H false ?_;refine CW.sk H ?_;dsimp only;refine CW.sq H (CW.pW H Ry A3 T3 λw4 Q lN A4 T4 HQ=>?_);have k7:w4.cell? ⟨hb,7,none⟩=some (.slice (some ⟨gW,0,none⟩) (cs.length+1) cW):=by
     have:=aJ A4.o.blk 7;rw[this,<-U0.o];rfl
    have oA:w4.ownsRow lo 149 2 (.slice (some ⟨gW,0,none⟩) (cs.length+1) cW) (cs.length+1) (bF (c::cs)):=by
     have:=A4.o.W;rw[U0.o,Qn.o] at this;exact this
    obtain⟨bW,oW,x',hA,mQ,eK,e0,e1⟩:=zdm (Ak oA aH) (k:=0) aC;injection hA with hA;injection hA with zT y5;subst zT y5;have lP:c=x':=by simpa using eK
    subst lP;simp only[Nat.zero_mul,Ul] at e0 e1;clear oA eK;go_wp2;refine HQ.o _ _ ?_;clear HQ;clear k7 e0 e1 mQ;refine CW.sq H (CW.pW H Ry A4 T4 λw5 Q nY A5 T5 HQ=>?_);have k7:w5.cell? ⟨hb,7,none⟩=some (.slice (some ⟨gW,0,none⟩) (cs.length+1) cW):=by
     have:=aJ A5.o.blk 7;rw[this,<-U0.o];rfl
    have oA:w5.ownsRow lo 149 2 (.slice (some ⟨gW,0,none⟩) (cs.length+1) cW) (cs.length+1) (bF (c::cs)):=by
     have:=A5.o.W;rw[U0.o,Qn.o] at this;exact this
    have Sf:=aD oA;clear oA
    go_wp2_with (go_at_call 119;refine(zAS (i:=0) (j:=1) Sf.o (Wc _) aC aC).mono ?_;rintro en w6 ⟨rfl,Hu,Ie⟩;have Om:w6.ownsRow lo 149 2 (.slice (some ⟨gW,0,none⟩) cs.length cW) cs.length (bF cs):=Hu;have Cg:w5.grownBy w6 v.sW.ownBlock:=(by rw[U0.o];exact Ie);have hq:=(A5.o.other (j:=5) (c:=7) (x:=v.sW) rfl aH Cg (.slice (some ⟨gW,0,none⟩) cs.length cW)).2;have Xz:=aJ (hq.trans A5.o.blk) 7;have kf:=eJ (hq.trans A5.o.blk) 7;have Al:=aD (And.intro Om Cg);clear Hu Ie Om Cg hq)
    refine HQ.o _ _ ?_;clear HQ;clear k7 Xz kf;obtain⟨a6,t6⟩:=A5.o.putW Al.o.2 Al.o.1 rfl (.inl (by rw[U0.o];rfl));have A6:=A5;have T6:=T5;obtain⟨w7,rG⟩:=aU (w6.setCell ⟨hb,7,none⟩ (.slice (some ⟨gW,0,none⟩) cs.length cW));have A7:=aD (show bE w7 lo hb {v with sW:=.slice (some ⟨gW,0,none⟩) cs.length cW} {d with r:={d.r with wait:=cs}} by rw[rG];exact a6);have T7:=aD (show bM hb v w {v with sW:=.slice (some ⟨gW,0,none⟩) cs.length cW} w7 by rw[rG];exact(T5.o.trans t6));rw[<-rG];clear rG A6 T6;clear a6 t6 Al A5 T5;refine CW.sq H ?_;refine CW.rg H [0,1,2,3,4] ?_;refine CR.mv H (.pointer (some ⟨hb,0,none⟩)) ?_;refine CR.mv H (.int .i64 ((q:Int)+1)) ?_;refine CR.mv H (.int .i64 c.c) ?_;refine CR.cl H (zyi H A7.o zcX hq yF rL HX.o HM.o Ia qN) (λK2 l2 y2 w8 zud oR=>?_);obtain⟨rfl,rfl,a8,t8⟩:=oR;simp only[cC,gE,dV,dW];refine nP ?_;refine CR.mv H (.string ⟨([99,97,108,108,32]++jM c.c).toArray⟩) ?_;refine CR.nil H ?_;refine CW.rt H ?_;refine⟨.inr rfl,rfl,.string ⟨([99,97,108,108,32]++jM c.c).toArray⟩,rfl,⟨by rw[nC.o];rfl,by rw[cK.o],_,?_,?_,T7.o.trans t8,⟨rfl,rfl,rfl,rfl⟩⟩⟩
    .rw[cK.o];exact a8
    .rw[cK.o];refine gC.of (MR.o.mod (f:=λz=>{z with o:=(q:Int)+1,h:=d.r.clk}) (i:=i) λz=>⟨rfl,rfl,rfl⟩) ?_ ?_ ?_ ?_ ?_<;>rfl
 .
   have aT:0<ans:=hg.2 hz;have nK:(ans !=0)=true:=by simpa using hz
   refine nP ?_;refine CR.mv H (.bool true) ?_ (hx:=λT=>by unfold aS;go_simp;try exact nK);refine CR.nil H ?_;refine CW.cd H true ?_;refine CW.sq H (CW.p0 H Ry A2 T2 λw3 iU A3 T3=>?_);refine CW.rt H ?_;have B4:0<dK d.r.recs ((q:Int)+1):=by rw[<-HA.o];exact aT
   have e1:nU d.r ((q:Int)+1)=(d.r,[116,97,108,107,115]):=by unfold nU;rw[if_pos B4]
   have e2:Gu d.r ((q:Int)+1)=[.ask q 0 0 ans]:=by unfold Gu;rw[if_pos B4,Lp,<-HA.o]
   refine⟨.inr rfl,rfl,.string ⟨#[116,97,108,107,115]⟩,rfl,⟨by rw[e2];rfl,by rw[e1],v,?_,?_,?_,zL.rf v⟩⟩
   .rw[e1];exact A3.o
   .rw[e1];exact MR.o
   .exact T3.o
variable {f:bT->bT}
theorem zAH {rs:List bT}:(rs++[x]).modify rs.length f=rs++[f x]:=by
 apply List.ext_getElem?;intro j;rw[List.getElem?_modify];rcases zwh j rs.length with h|h|h
 .rw[y3 h,y3 h]
  have aT:rs.length≠j:=aC;simp[aT]
 .subst h
  rw[Ah (aX _),Ah (aX _),Nv];simp
 .rw[Cu r9,Cu r9];rfl
structure FreeAt (d:nQ)(l:Int)(i g:Nat):Prop where
 l:l=(i:Int)+1
 g:d.ln[i]? =some g
 i6:i<=100
 un:rB d.r.recs ((i:Int)+1)=false
variable {l:Int}{ls:List Int}
theorem yB.free (h:yB d)(hf:oJ d.r.o d.r.recs=l::ls):∃i g,FreeAt d l i g:=by
 have hm:l∈oJ d.r.o d.r.recs:=by rw[hf];simp
 obtain⟨h1,h2⟩:=zgg h.R.off hm;have h3:=(zdk hm).2;have hn:=h.nln;obtain⟨i,rfl⟩:∃i:Nat,l=(i:Int)+1:=⟨(l-1).toNat,aC⟩;have hi:i<d.ln.length:=aC;refine⟨i,_,rfl,lO hi,aC,?_⟩;unfold oJ x6 at hm;have:=(Iy.1 hm).2;simpa using this
theorem zo9 (hf:oJ d.r.o d.r.recs=l::ls):Jl d=l-1:=by unfold Jl;rw[hf]
theorem zsi (hf:oJ d.r.o d.r.recs=[]):Jl d= -1:=by unfold Jl;rw[hf]
def F8:vX aK 104:=⟨_,zsr,.inr (.inl ⟨_,rfl⟩)⟩
theorem cf_back (H:e.d.Ok)(h:bE w lo hb v d)(mr:gC v d)(hi:yB d)(dQ:lo<=w.heap.size)(hW:Co e.W k (Cz d.r ((q:Int)+1)))(hq:q<d.qn.length)(yF:q<=100)(hK:∀(i g:Nat),d.qn[i]? =some g->K g (qa e.qs i)):
 CF e.d 104 #[.pointer (some ⟨hb,0,none⟩),.int .i64 ((q:Int)+1)] K (.wk e.qs k) w (λK' l' y w'=>zcd e.qs lo hb v d w k (Cz d.r ((q:Int)+1)).length (l8 d.r ((q:Int)+1)) l' y w'):=by
 refine CF.of 43 zsr (.inr (.inl ⟨_,rfl⟩)) ?_;have A0:=aD h;have T0:=aD (bM.refl (hb:=hb) (v:=v) (w:=w));obtain⟨ans,Np⟩:=aU (dK d.r.recs ((q:Int)+1));have HA:=aD Np;have HI:=aD hi;have MR:=aD mr;have Mg:=aD dQ;have hg:=zwL hi.R ((q:Int)+1);rw[<-Np] at hg;have Qg:e.W[k]? =some (.ask q 0 0 ans):=by have:=hW.head;rw[Lp,<-Np] at this;exact this
 have HW:=aD hW;clear h mr hi hW Np dQ;refine CW.sq H (CW.p0 H F8 A0 T0 λw1 fB A1 T1=>?_);refine CW.sq H ?_;refine CW.sq H ?_;refine CW.rg H [0,1,2,3] ?_;refine CR.mv H (.pointer (some ⟨hb,0,none⟩)) ?_;refine CR.mv H (.int .i64 ((q:Int)+1)) ?_;refine CR.cl H (zbh H A1.o Qg hq yF hK) (λK' l' y w' hl oR=>?_);obtain⟨rfl,rfl,qE⟩:=oR;simp only[cC,gE,dV,dW];have A2:=aD (show bE w' lo hb v d by rw[qE];exact A1.o.alloc _);have T2:=aD (show bM hb v w v w' by rw[qE];exact T1.o.trans (bM.below (dS (eF _ _) _)));have rL:∀(i g:Nat),d.qn[i]? =some g->K' g (qa e.qs i):=λi g hg=>hl _ _ (hK i g hg);clear qE A1 T1 Qg hK hl;by_cases hz:ans=0
 .
   subst hz;refine nP ?_;refine CR.mg H (.bool false) ?_;refine CR.nil H ?_;refine CW.cd H false ?_;refine CW.sk H ?_;dsimp only;have HF:=aD (show dK d.r.recs ((q:Int)+1)=0 from HA.o.symm);clear hg;refine CW.sq H ?_;obtain⟨AB,cB,Lm,zbG⟩:=Ge A2.o.B aH;have zS:=aD Lm;clear zbG
   cases wM:d.r.back with
   |nil=>
    have Ni:=aD wM;have e1:l8 d.r ((q:Int)+1)=(d.r,[110,111,110,101]):=by unfold l8;rw[if_neg Vt,Ni.o]
    have e2:Cz d.r ((q:Int)+1)=[.ask q 0 0 0]:=by unfold Cz;rw[if_neg Vt,Ni.o,Lp,<-HA.o]
    have cK:=aD e1;have nC:=aD e2;clear e1 e2;refine CW.sq H (CW.pW H F8 A2 T2 λw3 Q iU A3 T3 HQ=>?_);have k8:w3.cell? ⟨hb,8,none⟩=some (.slice AB 0 cB):=by
     have:=aJ A3.o.blk 8;rw[this,<-show v.sB=.slice AB 0 cB by rw[zS.o,wM];rfl];rfl
    clear wM Lm;go_wp2;refine HQ.o _ _ ?_;clear HQ;refine CW.cd H true ?_;refine CW.sq H (CW.p0 H F8 A3 T3 λw4 lN A4 T4=>?_);refine CW.rt H ?_;refine⟨.inr rfl,rfl,.string ⟨#[110,111,110,101]⟩,rfl,⟨by rw[nC.o];rfl,by rw[cK.o],v,?_,?_,?_,zL.rf v⟩⟩
    .rw[cK.o];exact A4.o
    .rw[cK.o];exact MR.o
    .exact T4.o
   |cons c cs=>
    have Ni:=aD wM;have Ib:=HI.o.R.backB c zaR;have eY:jJ d.r.recs c.c=none:=HI.o.S.bo c zaR;have Pe:dY (c::cs) c.c=cs:=zgU (st:=[]) (by have:=HI.o.S.bk;rw[wM] at this;exact this);obtain⟨gB,zk1,y9⟩:=zmp A2.o.B zaR;rw[Lm] at y9;injection y9 with qV yD Kx;subst qV;have hlen:d.r.back.length=cs.length+1:=by rw[wM];rfl
    have nK:=HI.o.sm.nb;have Bf:=HI.o.sm.nr;have Ua:=aD (show v.sB=.slice (some ⟨gB,0,none⟩) (cs.length+1) cB by rw[zS.o,hlen]);have uL:=aD eY;have zI8:=aD Pe;have zH5:cs.length<=5000:=aC;have Ia:=Ib.1;have qN:=Ib.2;clear wM eY Pe Ib Lm zS hlen nK yD Kx;refine CW.sq H (CW.pW H F8 A2 T2 λw3 Q iU A3 T3 HQ=>?_);have k8:w3.cell? ⟨hb,8,none⟩=some (.slice (some ⟨gB,0,none⟩) (cs.length+1) cB):=by
     have:=aJ A3.o.blk 8;rw[this,<-Ua.o];rfl
    go_wp2;refine HQ.o _ _ ?_;clear HQ;clear k8;refine CW.cd H false ?_;refine CW.sk H ?_;dsimp only;have zbO:=HI.o.nln;have zcP:d.ln.length<=100:=by have:=(Cs HI.o.R.off).2.1;omega
    have zcL:=aD (λW (a:bE W lo hb v d)=>zvX a MR.o zbO zcP);clear zbO zcP;refine CW.sq H (CW.pW H F8 A3 T3 λw4 Q lN A4 T4 HQ=>?_)
    go_wp2_with (go_at_call 109;refine(zcL.o _ A4.o).mono ?_;rintro en wz ⟨rfl,uV⟩;obtain rfl:=uV)
    refine HQ.o _ _ ?_;clear HQ;clear zcL;refine CW.sq H ?_
    cases fP:oJ d.r.o d.r.recs with
    |nil=>
     rw[zsi fP];have Ou:=aD fP;have e1:l8 d.r ((q:Int)+1)=(d.r,[98,117,115,121]):=by unfold l8;rw[if_neg Vt,Ni.o];simp only[fP]
     have e2:Cz d.r ((q:Int)+1)=[.ask q 0 0 0]:=by unfold Cz;rw[if_neg Vt,Ni.o,Lp,<-HA.o];simp only[fP]
     have cK:=aD e1;have nC:=aD e2;clear e1 e2 fP;refine CW.sq H (CW.p0 H F8 A4 T4 λw5 nY A5 T5=>?_);refine CW.cd H true ?_;refine CW.sq H (CW.p0 H F8 A5 T5 λw6 pB A6 T6=>?_);refine CW.rt H ?_;refine⟨.inr rfl,rfl,.string ⟨#[98,117,115,121]⟩,rfl,⟨by rw[nC.o];rfl,by rw[cK.o],v,?_,?_,?_,zL.rf v⟩⟩
     .rw[cK.o];exact A6.o
     .rw[cK.o];exact MR.o
     .exact T6.o
    |cons l ls=>
     obtain⟨i,gL,vB⟩:=HI.o.free fP;have uO:Jl d=(i:Int):=by rw[zo9 fP,vB.l];omega
     rw[uO];have e1:l8 d.r ((q:Int)+1)=({d.r with back:=cs,recs:=d.r.recs++[⟨c.c,(i:Int)+1,(q:Int)+1,d.r.clk,d.r.clk,-1,eM⟩]},[99,97,108,108,32]++jM c.c):=by
      unfold l8;rw[if_neg Vt,Ni.o];simp only[fP,zI8.o,vB.l]
     have e2:Cz d.r ((q:Int)+1)=[.ask q 0 0 0,.ask q 1 c.c c.c]:=by unfold Cz;rw[if_neg Vt,Ni.o,Lp,<-HA.o];simp only[fP]
     have zcX:e.W[k+1]? =some (.ask q 1 c.c c.c):=by have:=HW.o;rw[e2] at this;exact this.tail.head
     have cK:=aD e1;have nC:=aD e2;have FA:=aD vB;have zG0:=vB.i6;clear e1 e2 fP vB uO;refine CW.sq H (CW.pW H F8 A4 T4 λw5 Q nY A5 T5 HQ=>?_);have i0:(0:Int)<=(i:Int):=aC;go_wp2;refine HQ.o _ _ ?_;clear HQ;refine CW.cd H false ?_;refine CW.sk H ?_;dsimp only;refine CW.sq H (CW.pW H F8 A5 T5 λw6 Q pB A6 T6 HQ=>?_);have k8:w6.cell? ⟨hb,8,none⟩=some (.slice (some ⟨gB,0,none⟩) (cs.length+1) cB):=by
      have:=aJ A6.o.blk 8;rw[this,<-Ua.o];rfl
     have oA:w6.ownsRow lo 3 1 (.slice (some ⟨gB,0,none⟩) (cs.length+1) cB) (cs.length+1) (jX ((c::cs).map bJ.c)):=by
      have:=A6.o.B;rw[Ua.o,Ni.o] at this;exact this
     obtain⟨bB,oB,x',hA,_,_,mQ,eK,e0⟩:=(Ak oA aH).cellAt (k:=0) aC;injection hA with hA;injection hA with zT y5;subst zT y5;have lP:c.c=x':=by simpa using eK
     subst lP
     try simp only[Ul] at e0
     clear oA eK;go_wp2;refine HQ.o _ _ ?_;clear HQ;clear k8 e0 mQ;refine CW.sq H (CW.pW H F8 A6 T6 λw7 Q rG A7 T7 HQ=>?_);have k8:w7.cell? ⟨hb,8,none⟩=some (.slice (some ⟨gB,0,none⟩) (cs.length+1) cB):=by
      have:=aJ A7.o.blk 8;rw[this,<-Ua.o];rfl
     have oA:w7.ownsRow lo 3 1 (.slice (some ⟨gB,0,none⟩) (cs.length+1) cB) (cs.length+1) (jX ((c::cs).map bJ.c)):=by
      have:=A7.o.B;rw[Ua.o,Ni.o] at this;exact this
     have Sf:=aD oA;clear oA
     go_wp2_with (go_at_call 114;refine(zwC (i:=0) (j:=1) Sf.o (zpC _) aC aC).mono ?_;rintro en w8 ⟨rfl,Hu,Ie⟩;have Om:w8.ownsRow lo 3 1 (.slice (some ⟨gB,0,none⟩) cs.length cB) cs.length (jX (cs.map bJ.c)):=Hu;have Cg:w7.grownBy w8 v.sB.ownBlock:=(by rw[Ua.o];exact Ie);have hq:=(A7.o.other (j:=6) (c:=8) (x:=v.sB) rfl aH Cg (.slice (some ⟨gB,0,none⟩) cs.length cB)).2;have Ov:=aJ (hq.trans A7.o.blk) 8;have kf:=eJ (hq.trans A7.o.blk) 8;have Al:=aD (And.intro Om Cg);clear Hu Ie Om Cg hq)
     refine HQ.o _ _ ?_;clear HQ;clear k8 Ov kf;obtain⟨a6,t6⟩:=A7.o.putB Al.o.2 Al.o.1 rfl (.inl (by rw[Ua.o];rfl));have A8:=A7;have T8:=T7;obtain⟨w9,Hy⟩:=aU (w8.setCell ⟨hb,8,none⟩ (.slice (some ⟨gB,0,none⟩) cs.length cB));have A9:=aD (show bE w9 lo hb {v with sB:=.slice (some ⟨gB,0,none⟩) cs.length cB} {d with r:={d.r with back:=cs}} by rw[Hy];exact a6);have T9:=aD (show bM hb v w {v with sB:=.slice (some ⟨gB,0,none⟩) cs.length cB} w9 by rw[Hy];exact(T7.o.trans t6));rw[<-Hy];clear Hy A8 T8;clear a6 t6 Al A7 T7;refine CW.sq H (CW.pW H F8 A9 T9 λvZ Q Cy sM wY HQ=>?_);have zAL:lo<=vZ.heap.size:=eG Mg.o wY.o.size
     go_wp2_with (go_at_call 110;refine(zwB sM.o zAL FA.o.g aC Bf c.c).mono ?_;rintro en Bm ⟨rfl,v11,ztE,t11,ztt⟩;have Av:=aD ztE;have Fi:=aD (wY.o.trans t11);have Pv:=aD ztt;clear ztE t11 ztt)
     refine HQ.o _ _ ?_;clear HQ;clear sM wY;refine CW.sq H ?_;refine CW.rg H [0,1,2,3,4] ?_;refine CR.mv H (.pointer (some ⟨hb,0,none⟩)) ?_;refine CR.mv H (.int .i64 ((q:Int)+1)) ?_;refine CR.mv H (.int .i64 c.c) ?_;refine CR.cl H (zyi H Av.o zcX hq yF rL (i:=d.r.recs.length) (x:=⟨c.c,(i:Int)+1,0,d.r.clk,-1,-1,eM⟩) (by show(d.r.recs++[_])[d.r.recs.length]? =_;rw[Ah (aX _),Nv];rfl) (by rw[Pv.o.2.2.1,U8,if_pos rfl]) Ia qN) (λK2 l2 y2 Li zud oR=>?_);obtain⟨rfl,rfl,a12,t12⟩:=oR;simp only[cC,gE,dV,dW];refine nP ?_;refine CR.mv H (.string ⟨([99,97,108,108,32]++jM c.c).toArray⟩) ?_;refine CR.nil H ?_;refine CW.rt H ?_;have e3:(d.r.recs++[(⟨c.c,(i:Int)+1,0,d.r.clk,-1,-1,eM⟩:bT)]).modify d.r.recs.length (λz=>{z with o:=(q:Int)+1,h:=d.r.clk})=d.r.recs++[⟨c.c,(i:Int)+1,(q:Int)+1,d.r.clk,d.r.clk,-1,eM⟩]:=zAH;refine⟨.inr rfl,rfl,.string ⟨([99,97,108,108,32]++jM c.c).toArray⟩,rfl,⟨by rw[nC.o];rfl,by rw[cK.o],v11,?_,?_,Fi.o.trans t12,?_⟩⟩
     .rw[cK.o]
      have zkS:=a12;dsimp only at zkS;rw[e3] at zkS;exact zkS
     .rw[cK.o]
      refine gC.of (MR.o.more HI.o.ndl FA.o.g FA.o.un uL.o (o:=(q:Int)+1) (hh:=d.r.clk) (tt:=-1) (clk:=d.r.clk)) ?_ ?_ ?_ ?_ ?_
      .exact Pv.o.1
      .exact Pv.o.2.1
      .exact Pv.o.2.2.1
      .rfl
      .rfl
     .exact⟨Pv.o.2.2.2.1,Pv.o.2.2.2.2.1,Pv.o.2.2.2.2.2.2.2.1,Pv.o.2.2.2.2.2.2.2.2⟩
 .
   have aT:0<ans:=hg.2 hz;have nK:(ans !=0)=true:=by simpa using hz
   have B4:0<dK d.r.recs ((q:Int)+1):=by rw[<-HA.o];exact aT
   have cK:=aD (show l8 d.r ((q:Int)+1)=(d.r,[116,97,108,107,115]) by unfold l8;rw[if_pos B4]);have nC:=aD (show Cz d.r ((q:Int)+1)=[.ask q 0 0 ans] by unfold Cz;rw[if_pos B4,Lp,<-HA.o]);clear B4;refine nP ?_;refine CR.mv H (.bool true) ?_ (hx:=λT=>by unfold aS;go_simp;try exact nK);refine CR.nil H ?_;refine CW.cd H true ?_;refine CW.sq H (CW.p0 H F8 A2 T2 λw3 iU A3 T3=>?_);refine CW.rt H ?_;refine⟨.inr rfl,rfl,.string ⟨#[116,97,108,107,115]⟩,rfl,⟨by rw[nC.o];rfl,by rw[cK.o],v,?_,?_,?_,zL.rf v⟩⟩
   .rw[cK.o];exact A3.o
   .rw[cK.o];exact MR.o
   .exact T3.o
theorem zui (xs:List bJ)(q:Int):(xs.map bJ.c).findIdx? (·==q)=vD xs q:=by
 unfold vD;rw[List.findIdx?_map];rfl
variable {q:Int}{xs:List bJ}
theorem zBT {p:Nat}(hn:(xs.map bJ.c).Nodup)(h:vD xs q=some p):dY xs q=xs.take p++xs.drop (p+1)/\p<xs.length:=by
 unfold vD at h;obtain⟨hl,hx,_⟩:=zj7.1 h;have hq:xs[p].c=q:=by simpa using hx
 have e:xs=xs.take p++xs[p]::xs.drop (p+1):=by rw[<-List.drop_eq_getElem_cons hl,List.take_append_drop]
 refine⟨?_,hl⟩;have:=zgU (st:=xs.take p) (rest:=xs.drop (p+1)) (x:=xs[p]) (by rw[<-e];exact hn);rw[<-e,hq] at this;exact this
theorem zGA (h:∀x∈xs,x.c≠q):dY xs q=xs:=by
 unfold dY;rw[List.filter_eq_self];intro x hx;simpa using h x hx
theorem zzE (xs:List bJ)(p r:Nat):jX ((xs.take p++xs.drop r).map bJ.c)=(jX (xs.map bJ.c)).take p++(jX (xs.map bJ.c)).drop r:=by
 unfold jX;rw[Im,Im,zwI,zpG,zwI,zpG]
theorem zGV {gx:Nat}(uX:w.heap[gx]? =some (.cells #[.int .i64 q] 3)):
 Calls aK 117 #[.slice none 0 0,.func (.func 118) #[] #[.pointer (some ⟨gx,0,none⟩)]] w λe w'=>e=.returned (.slice none 0 0)/\Below w.heap.size w w':=by
 have HI:=aD (zyu 0 w.heap.size 0 0 none [] gx q w ⟨rfl,jY _,jY _,λh=>absurd h aC⟩ aC uX)
 go_enter Tryz.func117,Tryz.ntmps117
 go_wp2_with (go_at_call 124;refine HI.o.mono ?_;rintro e w1 ⟨rfl,qG⟩;have pX:=aD qG)
 go_ret;exact⟨rfl,pX.o⟩
def x9:vX aK 102:=⟨_,zwp,.inr (.inl ⟨_,rfl⟩)⟩
theorem cf_hang (H:e.d.Ok)(h:bE w lo hb v d)(mr:gC v d)(hi:yB d)(dQ:lo<=w.heap.size)(hW:Co e.W k (Dr d.r c))(hK:∀(i g:Nat),d.qn[i]? =some g->K g (qa e.qs i)):
 CF e.d 102 #[.pointer (some ⟨hb,0,none⟩),.int .i64 c] K (.wk e.qs k) w (λK' l' y w'=>zcd e.qs lo hb v d w k (Dr d.r c).length (mD d.r c) l' y w'):=by
 refine CF.of 59 zwp (.inr (.inl ⟨_,rfl⟩)) ?_;have A0:=aD h;have T0:=aD (bM.refl (hb:=hb) (v:=v) (w:=w));have HI:=aD hi;have MR:=aD mr;have Mg:=aD dQ;have HW:=aD hW;have nK:=hi.sm.nb;have J8:=hi.sm.nw;clear h mr hi hW dQ;refine CW.sq H (CW.pW H x9 A0 T0 λw1 Q fB A1 T1 HQ=>?_);go_wp2;refine HQ.o _ _ ?_;clear HQ;obtain⟨gx,uX⟩:=aU w1.heap.size;obtain⟨w2,fX⟩:=aU (w1.alloc (.cells #[.int .i64 c] 3));have A2:=aD (show bE w2 lo hb v d by rw[fX];exact A1.o.alloc _);have T2:=aD (show bM hb v w v w2 by rw[fX];exact T1.o.trans (bM.below (dS (eF _ _) _)));have zhm:=aD (show w2.heap[gx]? =some (.cells #[.int .i64 c] 3) by rw[fX,uX];exact lQ _ _);have NP:=aD (show some gx∉parts v hb from λhp=>by have:=(A1.o.lt _ hp).2;omega);rw[<-uX,<-fX];clear fX uX A1 T1;refine CW.sq H ?_
 cases eY:jJ d.r.recs c with
 |none=>
  have uL:=aD eY;have Us:=aD (MR.o.offLine eY);clear eY;refine CW.sq H (CW.pW H x9 A2 T2 λw3 Q iU A3 T3 HQ=>?_);have vL:=aD (iU▸zhm.o);have k5:w3.cell? ⟨hb,5,none⟩=some (.map (some v.mO)):=aJ A3.o.blk 5;have kx:=aJ vL.o 0;have lk:(zM 67 (.map (some v.mO)) (.int .i64 c) false).run aK w3.drew=.ok (.chan none) w3.drew:=by
   have:=zcn Rg Ko (zbu w3.drew) (A3.o.drew.O) (c:=c) false;rw[Us.o] at this;exact this
  refine ztF w3 hb gx v.mO c none rfl rfl rfl k5 kx lk rfl ?_;rw[Go.Mt.An,znB];simp only[Go.Mt.xL,dV,dW,fHG1,lHG1,Ds,C7];refine HQ.o _ _ ?_;clear HQ;clear k5 kx lk;obtain⟨w4,lN⟩:=aU w3.drew;have A4:=aD (show bE w4 lo hb v d by rw[lN];exact A3.o.drew);have T4:=aD (show bM hb v w v w4 by rw[lN];exact T3.o.same rfl);have Mi:=aD (show w4.heap[gx]? =some (.cells #[.int .i64 c] 3) by rw[lN];exact vL.o);rw[<-lN];clear lN A3 T3 vL;refine CW.cd H true ?_;obtain⟨AB,cB,Lm,zbG⟩:=Ge A4.o.B aH;have zS:=aD Lm;clear Lm zbG;refine CW.sq H (CW.pW H x9 A4 T4 λw5 Q nY A5 T5 HQ=>?_);have Di:=aD (nY▸Mi.o);have k8:w5.cell? ⟨hb,8,none⟩=some (.slice AB d.r.back.length cB):=by
   have:=aJ A5.o.blk 8;rw[this,<-zS.o];rfl
  have kx:=aJ Di.o 0;have Fo:=aD (show bX w5 lo w5.heap.size 1 AB d.r.back.length cB (jX (d.r.back.map bJ.c)) by have:=A5.o.B;rw[zS.o] at this;exact Ak this aH);have HE:=aD (λnq:Nat=>Calls.quiet_of_same (w:=w5) (n:=nq) ((zsR lo w5.heap.size d.r.back.length cB AB (d.r.back.map bJ.c) c (w5.drewN nq) (have hs:=Fo.o;⟨hs.len,hs.le,hs.cap,hs.at_⟩) aC).mono λe w' hh=>hh))
  go_wp2_with fail
  go_quiet ((go_at_call 113;exact HE.o _))
  go_wp2_with fail
  refine HQ.o _ _ ?_;clear HQ;obtain⟨w6,pB⟩:=aU (w5.drewN nq);have A6:=aD (show bE w6 lo hb v d by rw[pB];exact A5.o.same rfl);have T6:=aD (show bM hb v w v w6 by rw[pB];exact T5.o.same rfl);have K6:=aD (show w6.heap[gx]? =some (.cells #[.int .i64 c] 3) by rw[pB];exact Di.o);rw[<-pB];clear pB A5 T5 Di k8 kx Fo HE;refine CW.sq H ?_;rw[zui]
  cases Hi:vD d.r.back c with
  |none=>
   have cK:=aD (show mD d.r c=(d.r,[103,111,110,101]) by unfold mD;rw[uL.o];simp only[Hi];rfl);have nC:=aD (show Dr d.r c=[] by unfold Dr;rw[uL.o]);clear Hi;simp only[F0];refine CW.sq H ?_;refine CW.pW H x9 A6 T6 λw7 Q rG A7 T7 HQ=>?_;have Hb:=aD (rG▸K6.o);go_wp2;refine HQ.o _ _ ?_;clear HQ;refine CW.cd H true ?_;refine CW.sq H (CW.pW H x9 A7 T7 λw8 Q Hr A8 T8 HQ=>?_);have H6:=aD (Hr▸Hb.o);go_wp2;refine HQ.o _ _ ?_;clear HQ;refine CW.rt H ?_;refine⟨.inr rfl,rfl,.string ⟨#[103,111,110,101]⟩,rfl,⟨by rw[nC.o];rfl,by rw[cK.o],v,?_,?_,?_,zL.rf v⟩⟩
   .rw[cK.o];exact A8.o
   .rw[cK.o];exact MR.o
   .exact T8.o
  |some p=>
   obtain⟨Pe,l6⟩:=zBT HI.o.S.bk Hi;have cK:=aD (show mD d.r c=({d.r with back:=d.r.back.take p++d.r.back.drop (p+1)},[111,102,102]) by unfold mD;rw[uL.o];simp only[Hi];rw[<-Pe];rfl);have nC:=aD (show Dr d.r c=[] by unfold Dr;rw[uL.o]);have zMo:p<=5000:=aC;obtain⟨gB,zk1,y9⟩:=zmp A6.o.B aC;rw[zS.o] at y9;injection y9 with qV yD Kx;subst qV;have i0:(0:Int)<=(p:Int):=aC;clear Hi Pe yD Kx;simp only[F0];refine CW.sq H ?_;refine CW.pW H x9 A6 T6 λw7 Q rG A7 T7 HQ=>?_;have Hb:=aD (rG▸K6.o);go_wp2;refine HQ.o _ _ ?_;clear HQ;refine CW.cd H false ?_;refine CW.sk H ?_;dsimp only;refine CW.sq H (CW.pW H x9 A7 T7 λw8 Q Hr A8 T8 HQ=>?_);have H6:=aD (Hr▸Hb.o);have k8:w8.cell? ⟨hb,8,none⟩=some (.slice (some ⟨gB,0,none⟩) d.r.back.length cB):=by
    have:=aJ A8.o.blk 8;rw[this,<-zS.o];rfl
   have Sf:=aD (show w8.ownsRow lo 3 1 (.slice (some ⟨gB,0,none⟩) d.r.back.length cB) d.r.back.length (jX (d.r.back.map bJ.c)) by have:=A8.o.B;rw[zS.o] at this;exact this)
   go_wp2_with (go_at_call 114;refine(zwC (i:=p) (j:=p+1) Sf.o (zpC _) aC aC).mono ?_;intro en w9;rw[show p+1-p=1 by omega];rintro⟨rfl,Hu,Ie⟩;have Om:w9.ownsRow lo 3 1 (.slice (some ⟨gB,0,none⟩) (d.r.back.length-1) cB) (d.r.back.length-1) (jX ((d.r.back.take p++d.r.back.drop (p+1)).map bJ.c)):=(by rw[zzE];exact Hu);have Cg:w8.grownBy w9 v.sB.ownBlock:=(by rw[zS.o];exact Ie);have hq:=(A8.o.other (j:=6) (c:=8) (x:=v.sB) rfl aH Cg (.slice (some ⟨gB,0,none⟩) (d.r.back.length-1) cB)).2;have Ov:=aJ (hq.trans A8.o.blk) 8;have kf:=eJ (hq.trans A8.o.blk) 8;have Al:=aD (And.intro Om Cg);clear Hu Ie Om Cg hq)
   refine HQ.o _ _ ?_;clear HQ;clear k8 Ov kf;obtain⟨a6,t6⟩:=A8.o.putB Al.o.2 Al.o.1 r9 (.inl (by rw[zS.o];rfl));have A9:=A8;have T9:=T8;obtain⟨vZ,Cy⟩:=aU (w9.setCell ⟨hb,8,none⟩ (.slice (some ⟨gB,0,none⟩) (d.r.back.length-1) cB));have sM:=aD (show bE vZ lo hb {v with sB:=.slice (some ⟨gB,0,none⟩) (d.r.back.length-1) cB} {d with r:={d.r with back:=d.r.back.take p++d.r.back.drop (p+1)}} by rw[Cy];exact a6);have wY:=aD (show bM hb v w {v with sB:=.slice (some ⟨gB,0,none⟩) (d.r.back.length-1) cB} vZ by rw[Cy];exact(T8.o.trans t6));rw[<-Cy];clear Cy A9 T9;clear a6 t6 Al A8 T8 H6;refine CW.sq H (CW.p0 H x9 sM wY λBm zF7 Av Fi=>?_);refine CW.rt H ?_;refine⟨.inr rfl,rfl,.string ⟨#[111,102,102]⟩,rfl,⟨by rw[nC.o];rfl,by rw[cK.o],{v with sB:=.slice (some ⟨gB,0,none⟩) (d.r.back.length-1) cB},?_,?_,?_,⟨rfl,rfl,rfl,rfl⟩⟩⟩
   .rw[cK.o];exact Av.o
   .rw[cK.o];refine gC.of MR.o ?_ ?_ ?_ ?_ ?_<;>rfl
   .exact Fi.o
 |some i=>
  obtain⟨x,hx,Io,rQ⟩:=Bs eY;obtain⟨gL,Mo,hO,hM,hC⟩:=MR.o.onLine HI.o hx rQ Io;obtain⟨gR,cR,hR⟩:=ziU A2.o hx;have Us:=aD hO;have HX:=aD hx;have HL:=aD (And.intro Mo (And.intro hO (And.intro hM hC)));have HR:=aD hR;have uL:=aD eY;have Xi:=aD (And.intro Io rQ);have hop:=HI.o.ops.op x (dX hx);have Sm:=HI.o.nqn;have Ve:=HI.o.R.off;have Ra:=aD (Cs Ve);have qD:G6 d.r.recs i=c:=by rw[Ui hx,Io]
  have J7:opAt d.r.recs i=x.o:=by unfold opAt;rw[hx]
  have Zx:=aD (And.intro qD J7);clear hx Io rQ Mo hO hM hC hR eY Ve qD J7;refine CW.sq H (CW.pW H x9 A2 T2 λw3 Q iU A3 T3 HQ=>?_);have vL:=aD (iU▸zhm.o);have k5:w3.cell? ⟨hb,5,none⟩=some (.map (some v.mO)):=aJ A3.o.blk 5;have kx:=aJ vL.o 0;have lk:(zM 67 (.map (some v.mO)) (.int .i64 c) false).run aK w3.drew=.ok (.chan (some gL)) w3.drew:=by
   have:=zcn Rg Ko (zbu w3.drew) (A3.o.drew.O) (c:=c) false;rw[Us.o] at this;exact this
  refine ztF w3 hb gx v.mO c (some gL) rfl rfl rfl k5 kx lk rfl ?_;rw[Go.Mt.An,znB];simp only[Go.Mt.xL,dV,dW,fHG1,lHG1,Ds,C7];refine HQ.o _ _ ?_;clear HQ;clear k5 kx lk;obtain⟨w4,lN⟩:=aU w3.drew;have A4:=aD (show bE w4 lo hb v d by rw[lN];exact A3.o.drew);have T4:=aD (show bM hb v w v w4 by rw[lN];exact T3.o.same rfl);have Mi:=aD (show w4.heap[gx]? =some (.cells #[.int .i64 c] 3) by rw[lN];exact vL.o);rw[<-lN];clear lN A3 T3 vL;refine CW.cd H false ?_;refine CW.sk H ?_;dsimp only;refine CW.sq H ?_;refine CW.sq H (CW.pW H x9 A4 T4 λw5 Q nY A5 T5 HQ=>?_);have Di:=aD (nY▸Mi.o);have kx:=aJ Di.o 0;have zo5:=aD (λW (a:bE W lo hb v d)=>zd7 a HR.o HX.o HL.o.2.2.1);obtain⟨c2,f2⟩:=A5.o.recAt HR.o HX.o (j:=2) (u:=.int .i64 x.o) aH rfl
  go_wp2_with (go_at_call 115;refine(zo5.o _ A5.o).mono ?_;rintro en wz ⟨rfl,uV⟩;obtain rfl:=uV)
  refine HQ.o _ _ ?_;clear HQ;clear kx zo5 c2 f2;obtain⟨w6,pB⟩:=aU w5.drew;have A6:=aD (show bE w6 lo hb v d by rw[pB];exact A5.o.drew);have T6:=aD (show bM hb v w v w6 by rw[pB];exact T5.o.same rfl);have K6:=aD (show w6.heap[gx]? =some (.cells #[.int .i64 c] 3) by rw[pB];exact Di.o);rw[<-pB];clear pB A5 T5 Di;refine CW.sq H ?_;by_cases hz:x.o=0
  .
    have cK:=aD (show mD d.r c=(lD d.r i Bx,[108,101,102,116]) by unfold mD;rw[uL.o];simp only;rw[Zx.o.2,hz,if_neg aH]);have nC:=aD (show Dr d.r c=[] by unfold Dr;rw[uL.o];simp only;rw[Zx.o.2,hz,if_neg aH]);rw[hz];clear hz;refine CW.pW H x9 A6 T6 λw7 Q rG A7 T7 HQ=>?_;have Hb:=aD (rG▸K6.o);go_wp2;refine HQ.o _ _ ?_;clear HQ;refine CW.cd H false ?_;refine CW.sk H ?_;dsimp only;refine CW.sq H (CW.pW H x9 A7 T7 λw8 Q Hr A8 T8 HQ=>?_);have H6:=aD (Hr▸Hb.o);have kx:=aJ H6.o 0
    go_wp2_with (go_at_call 116;refine(zki (e:=⟨#[108,101,102,116]⟩) A8.o HX.o HL.o.2.1 HL.o.2.2.2 HL.o.2.2.1 HR.o).mono ?_;rintro en w9 ⟨rfl,v9,a5,t5,p5⟩;have A9:=aD a5;have T9:=aD (T8.o.trans t5);have P9:=aD p5;have ztC:=aD t5;clear a5 t5 p5)
    refine HQ.o _ _ ?_;clear HQ;clear kx;have zoa:=aD (gC.of (v':=v9) (MR.o.clear HI.o.S HI.o.ndl (λz hz=>(HI.o.lb z hz).1) HX.o Xi.o.2 HL.o.1 (f:=λz=>{z with t:=d.r.clk,e:=Bx}) (λz=>⟨rfl,rfl⟩) zmy) P9.o.1 (by rw[P9.o.2.1,Xi.o.1]) P9.o.2.2.1 rfl rfl);obtain⟨kg,np⟩:=A8.o.turned ztC.o H6.o NP.o;have We:=aD kg;have zKF:=aD np;clear kg np ztC A8 T8 H6;have zkM:=A9.o.W;have zpe:({d with r:={d.r with recs:=d.r.recs.modify i λz=>{z with t:=d.r.clk,e:=Bx}}}:nQ).r.wait.length=d.r.wait.length:=rfl;rcases zkM.2 with⟨Yl,h0⟩|⟨gW,cW,cur,Kv,_⟩
    .
      have Ly:d.r.wait=[]:=List.eq_nil_of_length_eq_zero h0;have uQ:=aD (show lD d.r i Bx={d.r with recs:=d.r.recs.modify i λz=>{z with t:=d.r.clk,e:=Bx}} by unfold lD;rw[Ly];show b7.mk _ _ _ [] _ _=_;rw[<-Ly];rfl);have zhC:=aD Yl;clear zkM zpe Yl h0 Ly;refine CW.sq H (CW.pW H x9 A9 T9 λvZ Q Cy sM wY HQ=>?_);have X0:=aD (Cy▸We.o);have k7:vZ.cell? ⟨hb,7,none⟩=some (.slice none 0 0):=by
       have:=aJ sM.o.blk 7;rw[this,<-zhC.o];rfl
      go_wp2_with (go_at_call 117;refine(zGV X0.o).mono ?_;rintro en Bm ⟨rfl,znX⟩;have Av:=aD (sM.o.below znX);have Fi:=aD (wY.o.trans (bM.below znX));have Xz:=aJ Av.o.blk 7;have kf:=eJ Av.o.blk 7;clear znX)
      refine HQ.o _ _ ?_;clear HQ;clear k7 Xz kf;have zmW:Bm.setCell ⟨hb,7,none⟩ (.slice none 0 0)=Bm.setCell ⟨hb,7,none⟩ v9.sW:=by rw[zhC.o]
      have a12:=Av.o.newW (s':=v9.sW) (xs:=d.r.wait) Av.o.W rfl (λb e=>by rw[zhC.o] at e;cases e);have t12:bM hb v9 Bm v9 (Bm.setCell ⟨hb,7,none⟩ v9.sW):=⟨by rw[sN];exact aX _,λb bZ hn=>eH Bm _ _ b (λe=>hn zwv),λb hx=>.inl hx⟩;obtain⟨Li,Nf⟩:=aU (Bm.setCell ⟨hb,7,none⟩ (.slice none 0 0));have zcM:=aD (show bE Li lo hb v9 {d with r:={d.r with recs:=d.r.recs.modify i λz=>{z with t:=d.r.clk,e:=Bx}}} by rw[Nf];exact(by rw[zmW];exact a12));have zaj:=aD (show bM hb v w v9 Li by rw[Nf];exact(by rw[zmW];exact Fi.o.trans t12));rw[<-Nf];clear Nf Av Fi;clear a12 t12 zmW sM wY X0;refine CW.sq H (CW.p0 H x9 zcM zaj λzhy zoH zbE zcv=>?_);refine CW.rt H ?_;refine⟨.inr rfl,rfl,.string ⟨#[108,101,102,116]⟩,rfl,⟨by rw[nC.o];rfl,by rw[cK.o],v9,?_,?_,?_,B8.kept P9.o.2.2.2.2⟩⟩
      .rw[cK.o];rw[uQ.o];exact zbE.o
      .rw[cK.o];rw[uQ.o];exact zoa.o
      .exact zcv.o
    .
      have uQ:=aD (show lD d.r i Bx={d.r with recs:=d.r.recs.modify i (λz=>{z with t:=d.r.clk,e:=Bx}),wait:=dY d.r.wait c} by unfold lD;rw[Zx.o.1];rfl);have Ut:=aD (show v9.sW=.slice (some ⟨gW,0,none⟩) d.r.wait.length cW from Kv);clear zkM zpe Kv;refine CW.sq H (CW.pW H x9 A9 T9 λvZ Q Cy sM wY HQ=>?_);have X0:=aD (Cy▸We.o);have k7:vZ.cell? ⟨hb,7,none⟩=some (.slice (some ⟨gW,0,none⟩) d.r.wait.length cW):=by
       have:=aJ sM.o.blk 7;rw[this,<-Ut.o];rfl
      have Sf:=aD (show vZ.ownsRow lo 149 2 (.slice (some ⟨gW,0,none⟩) d.r.wait.length cW) d.r.wait.length (bF d.r.wait) by have:=sM.o.W;rw[Ut.o] at this;exact this)
      go_wp2_with (go_at_call 117;refine(zHD Sf.o aC X0.o).mono ?_;rintro en Bm ⟨nW,rfl,zoF,Hu,Ie⟩;have Cg:vZ.grownBy Bm v9.sW.ownBlock:=(by rw[Ut.o];exact Ie);have hq:=(sM.o.other (j:=5) (c:=7) (x:=v9.sW) rfl aH Cg (.slice (some ⟨gW,0,none⟩) nW cW)).2;have Xz:=aJ (hq.trans sM.o.blk) 7;have kf:=eJ (hq.trans sM.o.blk) 7;have Al:=aD (And.intro Hu (And.intro Cg zoF));clear Hu Ie Cg hq zoF)
      refine HQ.o _ _ ?_;clear HQ;clear k7 Xz kf;obtain⟨a6,t6⟩:=sM.o.putW Al.o.2.1 Al.o.1 Al.o.2.2 (.inl (by rw[Ut.o];rfl));have Av:=sM;have Fi:=wY;obtain⟨Li,Nf⟩:=aU (Bm.setCell ⟨hb,7,none⟩ (.slice (some ⟨gW,0,none⟩) nW cW));have zcM:=aD (show bE Li lo hb {v9 with sW:=.slice (some ⟨gW,0,none⟩) nW cW} {d with r:={d.r with recs:=d.r.recs.modify i (λz=>{z with t:=d.r.clk,e:=Bx}),wait:=dY d.r.wait c}} by rw[Nf];exact a6);have zaj:=aD (show bM hb v w {v9 with sW:=.slice (some ⟨gW,0,none⟩) nW cW} Li by rw[Nf];exact(wY.o.trans t6));rw[<-Nf];clear Nf Av Fi;clear a6 t6 Al sM wY X0;refine CW.sq H (CW.p0 H x9 zcM zaj λzhy zoH zbE zcv=>?_);refine CW.rt H ?_;refine⟨.inr rfl,rfl,.string ⟨#[108,101,102,116]⟩,rfl,⟨by rw[nC.o];rfl,by rw[cK.o],{v9 with sW:=.slice (some ⟨gW,0,none⟩) nW cW},?_,?_,?_,⟨P9.o.2.2.2.2.1,P9.o.2.2.2.2.2.1,P9.o.2.2.2.2.2.2.2.2.1,P9.o.2.2.2.2.2.2.2.2.2⟩⟩⟩
      .rw[cK.o];rw[uQ.o];exact zbE.o
      .rw[cK.o];rw[uQ.o];refine gC.of zoa.o ?_ ?_ ?_ ?_ ?_<;>rfl
      .exact zcv.o
  .
    have B4:0<x.o:=aC;obtain⟨q,zss⟩:∃q:Nat,x.o=(q:Int)+1:=⟨(x.o-1).toNat,aC⟩;have hq:q<d.qn.length:=aC;have yF:q<=100:=by have:=Ra.o.2.2.2.1;omega
    have zdH:dY d.r.wait c=d.r.wait:=zGA λy hy e=>by
     obtain⟨j,z,h1,h2,h3,h4⟩:=HI.o.S.wt y hy;have:=HI.o.S.opn i j x z HX.o h1 Xi.o.2 h2 (.inl (by rw[Xi.o.1,h3,e]));subst this;rw[HX.o] at h1;injection h1 with h1;rw[<-h1] at h4;exact hz h4
    have cK:=aD (show mD d.r c=(lD d.r i Gi,[100,111,110,101]) by unfold mD;rw[uL.o];simp only;rw[Zx.o.2,if_pos B4]);have nC:=aD (show Dr d.r c=[.ask q 1 0 0] by unfold Dr;rw[uL.o];simp only;rw[Zx.o.2,if_pos B4,zss,Lp]);have uQ:=aD (show lD d.r i Gi={d.r with recs:=d.r.recs.modify i λz=>{z with t:=d.r.clk,e:=Gi}} by unfold lD;rw[Zx.o.1,zdH];rfl);have zcX:e.W[k]? =some (.ask q 1 0 0):=by have:=HW.o;rw[nC.o] at this;exact this.head
    rw[zss];have zGO:((q:Int)+1 !=0)=true:=by have:(q:Int)+1≠0:=aC;simpa using this
    have zCH:¬(q:Int)+1=0:=aC;clear hz B4 zdH;refine CW.pW H x9 A6 T6 λw7 Q rG A7 T7 HQ=>?_;have Hb:=aD (rG▸K6.o);go_wp2;refine HQ.o _ _ ?_;clear HQ
    try simp only[zCH,not_false_eq_true,decide_true,bne_iff_ne,ne_eq]
    refine CW.cond H (t:=true) rfl (by first|rfl|exact congrArg Mm zGO) ?_;refine CW.sq H ?_;refine CW.rg H [0,1,2] ?_;refine CR.mv H (.pointer (some ⟨hb,0,none⟩)) ?_;refine CR.mv H (.int .i64 ((q:Int)+1)) ?_;refine CR.cl H (zbh H A7.o zcX hq yF hK) (λK' l' y w' hl oR=>?_);obtain⟨rfl,rfl,qE⟩:=oR;simp only[cC,gE,dV,dW];have A8:=aD (show bE w' lo hb v d by rw[qE];exact A7.o.alloc _);have T8:=aD (show bM hb v w v w' by rw[qE];exact T7.o.trans (bM.below (dS (eF _ _) _)));have H6:=aD (show w'.heap[gx]? =some (.cells #[.int .i64 c] 3) by rw[qE];exact dJ Hb.o _);clear qE A7 T7 Hb;refine CR.nil H ?_;refine CW.sq H (CW.pW H x9 A8 T8 λw9 Q Hy A9 T9 HQ=>?_);have We:=aD (Hy▸H6.o);have kx:=aJ We.o 0
    go_wp2_with (go_at_call 116;refine(zki (e:=⟨#[100,111,110,101]⟩) A9.o HX.o HL.o.2.1 HL.o.2.2.2 HL.o.2.2.1 HR.o).mono ?_;rintro en vZ ⟨rfl,v10,a5,t5,p5⟩;have sM:=aD a5;have wY:=aD (T9.o.trans t5);have zdW:=aD p5;have zur:=aD t5;clear a5 t5 p5)
    refine HQ.o _ _ ?_;clear HQ;clear kx;have zD2:=aD (gC.of (v':=v10) (MR.o.clear HI.o.S HI.o.ndl (λz hz=>(HI.o.lb z hz).1) HX.o Xi.o.2 HL.o.1 (f:=λz=>{z with t:=d.r.clk,e:=Gi}) (λz=>⟨rfl,rfl⟩) zgk) zdW.o.1 (by rw[zdW.o.2.1,Xi.o.1]) zdW.o.2.2.1 rfl rfl);obtain⟨kg,np⟩:=A9.o.turned zur.o We.o NP.o;have X0:=aD kg;have zMp:=aD np;clear kg np zur A9 T9 We;refine CW.sq H (CW.p0 H x9 sM wY λBm zF7 Av Fi=>?_);refine CW.rt H ?_;refine⟨.inr rfl,rfl,.string ⟨#[100,111,110,101]⟩,rfl,⟨by rw[nC.o];rfl,by rw[cK.o],v10,?_,?_,?_,B8.kept zdW.o.2.2.2.2⟩⟩
    .rw[cK.o];rw[uQ.o];exact Av.o
    .rw[cK.o];rw[uQ.o];exact zD2.o
    .exact Fi.o
section
variable {p:bS}{o:aZ}{ρ:cN->aF}{w w':aE}
variable {t e:aM}{sz:Nat}{ie:wW}
theorem zrJ {x y:cN}{A:Option bL}{n c i:Nat}(ho:o.op=.slice t x (some y) none none)(hu:p.underlying t=some (.slice e))(hi:p.info? e=some ie)(hz:ie.size=sz)(hx:ρ x=.slice A n c)(hy:ρ y=.int .i64 (i:Int))(n9:i<=n):
 (aS ρ o).run p w=.ok (.value (.slice (if c=i then A else A.map (·.add (i*sz))) (n-i) (c-i))) w:=by
 obtain⟨dst,yP,type,pos,after,guard⟩:=o;simp only at ho;subst ho;have h0:(0:Int)<=(i:Int):=aC;have h1:(i:Int)<=(n:Int):=aC;simp[aS,X4,Yk,Vu,Mf,hx,hy,wP hu,sizeOf,typeInfo,hi,hz,asIntOf,h0,h1];exact λh=>absurd h aC
variable {j:Int}
theorem Qy {x y:cN}{g off n c i:Nat}(ho:o.op=.slice t x (some y) none none)(hu:p.underlying t=some (.slice e))(hi:p.info? e=some ie)(hz:ie.size=sz)(hx:ρ x=.slice (some ⟨g,0,none⟩) n c)(hy:ρ y=.int .i64 j)(hj:j=(i:Int))(n9:i<=n)(yU:i<c)(zCV:off=i*sz){n' c':Nat}(sU:n'=n-i)(kM:c'=c-i):
 (aS ρ o).run p w=.ok (.value (.slice (some ⟨g,off,none⟩) n' c')) w:=by
 subst zCV sU kM hj;rw[zrJ ho hu hi hz hx hy n9,if_neg aC];simp[Md]
theorem zuD {x y:cN}{g n c i:Nat}(ho:o.op=.slice t x none (some y) none)(hu:p.underlying t=some (.slice e))(hi:p.info? e=some ie)(hz:ie.size=sz)(hx:ρ x=.slice (some ⟨g,0,none⟩) n c)(hy:ρ y=.int .i64 j)(hj:j=(i:Int))(yU:i<=c):
 (aS ρ o).run p w=.ok (.value (.slice (some ⟨g,0,none⟩) i c)) w:=by
 subst hj;obtain⟨dst,yP,type,pos,after,guard⟩:=o;simp only at ho;subst ho;have h0:(0:Int)<=(i:Int):=aC;have h1:(i:Int)<=(c:Int):=aC;simp[aS,X4,Yk,Vu,Mf,hx,hy,wP hu,sizeOf,typeInfo,hi,hz,asIntOf,h0,h1,Md];exact λh=>absurd h aC
theorem Y3 {s x:cN}{tn:aM}{a b v:aF}{w':aE}(ho:o.op=.call ⟨.builtin .append,#[s,x],#[t,tn]⟩)(hs:ρ s=a)(hx:ρ x=b)(hr:(Builtin.append_ #[t,tn] o.type #[a,b]).run p w=.ok v w'):(aS ρ o).run p w=.ok (.value v) w':=by
 unfold aS;simp only[ho,resolve,invoke,builtin,Sem.run_bind,Sem.run_pure,Result.andThen_ok,uS,fK,tL,hs,hx,hr]
end
theorem Vm:∃ie,aK.info? 149=some ie/\ie.zero=some (.agg #[.int .i64 0,.int .i64 0])/\ie.size=2/\ie.bytes=16:=by
 obtain⟨i0,hi,jN,eL,lH⟩:=info_parts zaA;exact⟨i0,hi,jN,eL,lH⟩
def x5:aK.underlying 69=some (.slice 149):=aP
def U1:Go.Code:=(Tryz.f111.body).getD .skip
def rIN7:Go.Code:=match U1 with| .seq _ (.seq _ (.seq _ (.seq _ (.seq _ (.seq (.seq _ (.cond _ (.seq (a) _) _)) _)))))=>a|_=>.skip
def rIN9:Go.Code:=match U1 with| .seq _ (.seq _ (.seq _ (.seq _ (.seq _ (.seq _ (.seq (.seq _ (.cond _ (.seq (a) _) _)) _))))))=>a|_=>.skip
def rIN10:Go.Code:=match U1 with| .seq _ (.seq _ (.seq _ (.seq _ (.seq _ (.seq _ (.seq (.seq _ (.cond _ (.seq _ (.seq (a) _)) _)) _))))))=>a|_=>.skip
def rIN11:Go.Code:=match U1 with| .seq _ (.seq _ (.seq _ (.seq _ (.seq _ (.seq _ (.seq (.seq _ (.cond _ (.seq _ (.seq _ (.seq (a) _))) _)) _))))))=>a|_=>.skip
def rIN14:Go.Code:=match U1 with| .seq _ (.seq _ (.seq _ (.seq _ (.seq _ (.seq _ (.seq _ (.seq _ (.seq (.seq (a) _) _))))))))=>a|_=>.skip
def rIN15:Go.Code:=match U1 with| .seq _ (.seq _ (.seq _ (.seq _ (.seq _ (.seq _ (.seq _ (.seq _ (.seq (.seq _ (.cond _ (.seq (a) _) _)) _))))))))=>a|_=>.skip
def rIN16:Go.Code:=match U1 with| .seq _ (.seq _ (.seq _ (.seq _ (.seq _ (.seq _ (.seq _ (.seq _ (.seq (.seq _ (.cond _ (.seq _ (.seq (a) _)) _)) _))))))))=>a|_=>.skip
def opsIN7:Array Oper:=match rIN7 with| .region _ ops _=>ops|_=>#[]
abbrev oIN7_2:Oper:=⟨some 25,.call ⟨.builtin .append,#[.tmp 23,.tmp 24],#[69,69]⟩,69,"slices.go:145",#[⟨0,.data⟩,⟨1,.data⟩],none⟩
def zyC:opsIN7[2]? =some oIN7_2:=rfl
def opsIN9:Array Oper:=match rIN9 with| .region _ ops _=>ops|_=>#[]
abbrev oIN9_8:Oper:=⟨some 40,.call ⟨.builtin .append,#[.tmp 34,.tmp 39],#[69,3]⟩,69,"slices.go:152",#[⟨2,.data⟩,⟨7,.data⟩],none⟩
def zHE:opsIN9[8]? =some oIN9_8:=rfl
def opsIN10:Array Oper:=match rIN10 with| .region _ ops _=>ops|_=>#[]
abbrev oIN10_4:Oper:=⟨some 45,.call ⟨.builtin .copy,#[.tmp 43,.tmp 44],#[69,69]⟩,3,"slices.go:153",#[⟨2,.data⟩,⟨3,.data⟩],none⟩
def zAD:opsIN10[4]? =some oIN10_4:=rfl
def opsIN14:Array Oper:=match rIN14 with| .region _ ops _=>ops|_=>#[]
abbrev oIN14_6:Oper:=⟨some 67,.call ⟨.value (.func 121),#[.tmp 61,.tmp 66],#[69,69]⟩,4,"slices.go:173",#[⟨0,.data⟩,⟨5,.data⟩],none⟩
def zJk:opsIN14[6]? =some oIN14_6:=rfl
def opsIN16:Array Oper:=match rIN16 with| .region _ ops _=>ops|_=>#[]
abbrev oIN16_4:Oper:=⟨some 82,.call ⟨.builtin .copy,#[.tmp 80,.tmp 81],#[69,69]⟩,3,"slices.go:186",#[⟨2,.data⟩,⟨3,.data⟩],none⟩
def zGf:opsIN16[4]? =some oIN16_4:=rfl
def zdJ:Array Oper:=match rIN11 with| .region _ ops _=>ops|_=>#[]
def zu7:zdJ.toList=[⟨some 46,.move (.tmp 9),69,"slices.go:154",#[],none⟩,⟨some 47,.move (.tmp 1),3,"slices.go:154",#[],none⟩,⟨some 48,.move (.tmp 7),3,"slices.go:154",#[],none⟩,⟨some 49,.binOp .add 3 (.tmp 47) (.tmp 48) 3,3,"slices.go:154",#[⟨1,.data⟩,⟨2,.data⟩],none⟩,⟨some 50,.slice 69 (.tmp 46) (some (.tmp 49)) none none,69,"slices.go:154",#[⟨0,.data⟩,⟨3,.data⟩],none⟩,⟨some 51,.move (.tmp 0),69,"slices.go:154",#[],none⟩,⟨some 52,.move (.tmp 1),3,"slices.go:154",#[],none⟩,⟨some 53,.slice 69 (.tmp 51) (some (.tmp 52)) none none,69,"slices.go:154",#[⟨5,.data⟩,⟨6,.data⟩],none⟩,⟨some 54,.call ⟨.builtin .copy,#[.tmp 50,.tmp 53],#[69,69]⟩,3,"slices.go:154",#[⟨4,.data⟩,⟨7,.data⟩],none⟩]:=rfl
def zdR:Array Oper:=match rIN15 with| .region _ ops _=>ops|_=>#[]
def zxs:zdR.toList=[⟨some 69,.move (.tmp 0),69,"slices.go:178",#[],none⟩,⟨some 70,.move (.tmp 1),3,"slices.go:178",#[],none⟩,⟨some 71,.move (.tmp 7),3,"slices.go:178",#[],none⟩,⟨some 72,.binOp .add 3 (.tmp 70) (.tmp 71) 3,3,"slices.go:178",#[⟨1,.data⟩,⟨2,.data⟩],none⟩,⟨some 73,.slice 69 (.tmp 69) (some (.tmp 72)) none none,69,"slices.go:178",#[⟨0,.data⟩,⟨3,.data⟩],none⟩,⟨some 74,.move (.tmp 0),69,"slices.go:178",#[],none⟩,⟨some 75,.move (.tmp 1),3,"slices.go:178",#[],none⟩,⟨some 76,.slice 69 (.tmp 74) (some (.tmp 75)) none none,69,"slices.go:178",#[⟨5,.data⟩,⟨6,.data⟩],none⟩,⟨some 77,.call ⟨.builtin .copy,#[.tmp 73,.tmp 76],#[69,69]⟩,3,"slices.go:178",#[⟨4,.data⟩,⟨7,.data⟩],none⟩]:=rfl
def zcm:vX aK 111:=⟨_,zwa,.inr (.inl ⟨_,rfl⟩)⟩
def WIN11 (w w3:aE)(g1 n1 c1 g n c ix:Nat)(vc:aF):Nat->aE
 |0=>w.drew
 |_=>w3
theorem zsX:zdJ.toList.map (·.dst)=[some 46,some 47,some 48,some 49,some 50,some 51,some 52,some 53,some 54]:=by rw[zu7];rfl
def lIN11 (w w3:aE)(g1 n1 c1 g n c ix:Nat)(vc:aF):List Value:=[.slice (some ⟨g1,0,none⟩) n1 c1,.int .i64 ((ix:Nat)),.int .i64 (1),.int .i64 (((ix+1:Nat):Int)),.slice (some ⟨g1,(ix+1)*2,none⟩) (n1-(ix+1)) (c1-(ix+1)),.slice (some ⟨g,0,none⟩) n c,.int .i64 ((ix:Nat)),.slice (some ⟨g,ix*2,none⟩) (n-ix) (c-ix),vc]
def zno (w w3:aE)(g1 n1 c1 g n c ix:Nat)(vc:aF)(i:Nat):Value:=(lIN11 w w3 g1 n1 c1 g n c ix vc).getD i aA
variable {d:List Deferred}{Q:nZ->uA->aE->Prop}{t0:Array aF}
theorem wp_IN11 (w w3:aE)(g1 n1 c1 g n c ix:Nat)(vc:aF)(hz:t0.size=95)(uD:t0.getD 0 aA=.slice (some ⟨g,0,none⟩) n c)(Ej:t0.getD 1 aA=.int .i64 ((ix:Nat)))(Ev:t0.getD 7 aA=.int .i64 (1))(zmH:t0.getD 9 aA=.slice (some ⟨g1,0,none⟩) n1 c1)(hb:ix+1<=n1/\ix+1<c1/\ix<=n/\ix<c/\ix<=100000)(mR:(C4 #[69,69] 3 #[.slice (some ⟨g1,(ix+1)*2,none⟩) (n1-(ix+1)) (c1-(ix+1)),.slice (some ⟨g,ix*2,none⟩) (n-ix) (c-ix)]).run aK w.drew=.ok vc w3)(h0:WIN11 w w3 g1 n1 c1 g n c ix vc 0=w.drew)(hk:Q .normal ⟨dC zdJ (zno w w3 g1 n1 c1 g n c ix vc) t0,d⟩ (w3)):
 (E7 11 zdJ true).wp aK Q ⟨t0,d⟩ w:=by
 refine Jp (ws:=[8]) (Wd:=WIN11 w w3 g1 n1 c1 g n c ix vc) (vals:=zno w w3 g1 n1 c1 g n c ix vc) vE.mixed aP aH aP h0 Jf (λV hU hV=>?_) hk;obtain⟨Xw,zcc,zlw,Y0,zgp,Wk,Wq,zm7,zxC,-⟩:=Hx zsX hU;have e0:=(hV 0 aP).trans uD;have e1:=(hV 1 aP).trans Ej;have e7:=(hV 7 aP).trans Ev;have e9:=(hV 9 aP).trans zmH;refine λTf hT=>Jm zu7 ⟨bP.pv,bP.pv,bP.pv,bP.any (λkk fO hm=>?_),bP.any (λkk fO hm=>?_),bP.pv,bP.pv,bP.any (λkk fO hm=>?_),bP.act (v:=V 54) 0 rfl (eB rfl) ?_,trivial⟩
 .have i0:=hb.2.2.2.2
  unfold aS;go_simp;first|(push_cast;exact Dz aC aC)|(push_cast;rw[Dz aC aC])|trace_state
 .obtain⟨ie,jU,_,cJ,_⟩:=Vm
  exact Qy rfl x5 jU cJ (nL hT Xw) (nL hT Y0) rfl hb.1 hb.2.1 rfl rfl rfl
 .obtain⟨ie,jU,_,cJ,_⟩:=Vm
  exact Qy rfl x5 jU cJ (nL hT Wk) (nL hT Wq) rfl hb.2.2.1 hb.2.2.2.1 rfl rfl rfl
 .rw[zxC];exact ze6 rfl (nL hT zgp) (nL hT zm7) mR
def WIN15 (w w3:aE)(g n c ix:Nat)(vc:aF):Nat->aE
 |0=>w.drew
 |_=>w3
theorem zsg:zdR.toList.map (·.dst)=[some 69,some 70,some 71,some 72,some 73,some 74,some 75,some 76,some 77]:=by rw[zxs];rfl
def lIN15 (w w3:aE)(g n c ix:Nat)(vc:aF):List Value:=[.slice (some ⟨g,0,none⟩) n c,.int .i64 ((ix:Nat)),.int .i64 (1),.int .i64 (((ix+1:Nat):Int)),.slice (some ⟨g,(ix+1)*2,none⟩) (n-(ix+1)) (c-(ix+1)),.slice (some ⟨g,0,none⟩) n c,.int .i64 ((ix:Nat)),.slice (some ⟨g,ix*2,none⟩) (n-ix) (c-ix),vc]
def zlo (w w3:aE)(g n c ix:Nat)(vc:aF)(i:Nat):Value:=(lIN15 w w3 g n c ix vc).getD i aA
theorem wp_IN15 (w w3:aE)(g n c ix:Nat)(vc:aF)(hz:t0.size=95)(uD:t0.getD 0 aA=.slice (some ⟨g,0,none⟩) n c)(Ej:t0.getD 1 aA=.int .i64 ((ix:Nat)))(Ev:t0.getD 7 aA=.int .i64 (1))(hb:ix+1<=n/\ix+1<c/\ix<=n/\ix<c/\ix<=100000)(mR:(C4 #[69,69] 3 #[.slice (some ⟨g,(ix+1)*2,none⟩) (n-(ix+1)) (c-(ix+1)),.slice (some ⟨g,ix*2,none⟩) (n-ix) (c-ix)]).run aK w.drew=.ok vc w3)(h0:WIN15 w w3 g n c ix vc 0=w.drew)(hk:Q .normal ⟨dC zdR (zlo w w3 g n c ix vc) t0,d⟩ (w3)):
 (E7 15 zdR true).wp aK Q ⟨t0,d⟩ w:=by
 refine Jp (ws:=[8]) (Wd:=WIN15 w w3 g n c ix vc) (vals:=zlo w w3 g n c ix vc) vE.mixed aP aH aP h0 Jf (λV hU hV=>?_) hk;obtain⟨zD6,zLt,zKi,zCl,zFe,zCB,zGv,zBh,zGr,-⟩:=Hx zsg hU;have e0:=(hV 0 aP).trans uD;have e1:=(hV 1 aP).trans Ej;have e7:=(hV 7 aP).trans Ev;refine λTf hT=>Jm zxs ⟨bP.pv,bP.pv,bP.pv,bP.any (λkk fO hm=>?_),bP.any (λkk fO hm=>?_),bP.pv,bP.pv,bP.any (λkk fO hm=>?_),bP.act (v:=V 77) 0 rfl (eB rfl) ?_,trivial⟩
 .have i0:=hb.2.2.2.2
  unfold aS;go_simp;first|(push_cast;exact Dz aC aC)|(push_cast;rw[Dz aC aC])|trace_state
 .obtain⟨ie,jU,_,cJ,_⟩:=Vm
  exact Qy rfl x5 jU cJ (nL hT zD6) (nL hT zCl) rfl hb.1 hb.2.1 rfl rfl rfl
 .obtain⟨ie,jU,_,cJ,_⟩:=Vm
  exact Qy rfl x5 jU cJ (nL hT zCB) (nL hT zGv) rfl hb.2.2.1 hb.2.2.2.1 rfl rfl rfl
 .rw[zGr];exact ze6 rfl (nL hT zFe) (nL hT zBh) mR
variable {c1 c2:List aF}
theorem ins_up {c0 a b xx:List aF}(ha:c0.take a.length=a)(hl:a.length+xx.length+b.length<=c0.length)(h1:c1=c0.take a.length++xx++c0.drop (a.length+xx.length))(h2:c2=c1.take (a.length+xx.length)++b++c1.drop (a.length+xx.length+b.length)):
 c2.take (a.length+xx.length+b.length)=a++xx++b/\c2.length=c0.length:=by
 have e1:c1.take (a.length+xx.length)=a++xx:=by
  rw[h1,ha,El (by rw[gM];exact aX _),zP (by rw[gM];exact aX _)]
 have l1:c1.length=c0.length:=by rw[h1,ha];simp only[gM,xO];omega
 rw[h2,e1];refine⟨?_,?_⟩
 .rw[El zgA,zP zgA]
 .simp only[gM,xO];omega
theorem zH7 {c0 a b xx:List aF}(ha:c0.take a.length=a)(hl:a.length+xx.length+b.length<=c0.length)(h1:c1=c0.take (a.length+xx.length)++b++c0.drop (a.length+xx.length+b.length))(h2:c2=c1.take a.length++xx++c1.drop (a.length+xx.length)):
 c2.take (a.length+xx.length+b.length)=a++xx++b/\c2.length=c0.length:=by
 have lt:(c0.take (a.length+xx.length)).length=a.length+xx.length:=by rw[rV];omega
 have e1:c1.take a.length=a:=by
  rw[h1,Jc,El aC,Pf,zoL aC,ha]
 have e2:c1.drop (a.length+xx.length)=b++c0.drop (a.length+xx.length+b.length):=by
  rw[h1,Jc,List.drop_append_of_le_length aC,zyk aC,List.nil_append]
 rw[h2,e1,e2];refine⟨?_,?_⟩
 .rw[<-Jc,El zgA,zP zgA]
 .simp only[gM,xO];omega
theorem zmC (xs:List bJ)(x:bJ)(i:Nat):bF (xs.take i++x::xs.drop i)=(bF xs).take (i*2)++x.cells++(bF xs).drop (i*2):=by
 have h1:(bF xs).take (i*2)=bF (xs.take i):=by
  induction xs generalizing i with
  |nil=>simp[bF]
  |cons y ys ih=>
   cases i with
   |zero=>simp[bF]
   |succ i=>
    have:bF (y::ys)=y.cells++bF ys:=by simp[bF]
    rw[this,List.take_succ_cons,show(i+1)*2=y.cells.length+i*2 by simp[bJ.cells];omega,List.take_length_add_append,ih i];simp[bF]
 have h2:(bF xs).drop (i*2)=bF (xs.drop i):=by
  clear h1
  induction xs generalizing i with
  |nil=>simp[bF]
  |cons y ys ih=>
   cases i with
   |zero=>simp[bF]
   |succ i=>
    have:bF (y::ys)=y.cells++bF ys:=by simp[bF]
    rw[this,List.drop_succ_cons,show(i+1)*2=y.cells.length+i*2 by simp[bJ.cells];omega,List.drop_length_add_append,ih i]
 rw[h1,h2];simp[bF]
structure Grew (w w':aE)(r:Option Nat):Prop where
 size:w.heap.size<=w'.heap.size
 block:∀b,b<w.heap.size->¬some b=r->w'.heap[b]? =w.heap[b]?
theorem ov_fn:OvFn aK 121 69 4 149 2:=by
 obtain⟨ie,jU,_,cJ,_⟩:=Vm;exact⟨⟨_,Tryz.func121,aH,rfl,aP,aP⟩,x5,⟨ie,jU,cJ⟩⟩
variable {A:Option bL}{l:gQ}
theorem zEe (H:e.d.Ok){gv c:Nat}{x:bJ}(h:w.ownsRow lo 149 2 (.slice A n c) n (bF xs))(dQ:lo<=w.heap.size)(hn:n<=1000)(hi:i<=n)(hv:w.heap[gv]? =some (.cells #[.int .i64 x.c,.int .i64 x.p] 149))(aT:(U7 A n c).ownBlock≠some gv):
 CF e.d 111 #[.slice A n c,.int .i64 (i:Int),.slice (some ⟨gv,0,none⟩) 1 1] K l w (λK' l' y w'=>l'=l/\∃g2 c2,y=.slice (some ⟨g2,0,none⟩) (n+1) c2/\w'.ownsRow lo 149 2 (.slice (some ⟨g2,0,none⟩) (n+1) c2) (n+1) (bF (xs.take i++x::xs.drop i))/\Grew w w' (U7 A n c).ownBlock/\(some g2=(U7 A n c).ownBlock\/w.heap.size<=g2)):=by
 refine CF.of 95 zwa (.inr (.inl ⟨_,rfl⟩)) ?_;obtain⟨ie,jU,jN,cJ,uM⟩:=Vm;have znh:xs.length=n:=by have h1:=h.1;have h2:(bF xs).length=xs.length*2:=Fb bJ.cells (s:=2) (λ_=>rfl) xs;omega
 have h1:(1:Nat)<=1:=aX 1;refine CW.sq H ?_;refine CW.pQ H zcm (λzdg Q HQ=>?_);go_wp2;refine HQ.o _ _ ?_;clear HQ;refine CW.tape (s:=⟨[],K,l,_,w⟩) ?_ zdg 0;refine CW.sq H ?_;refine CW.rg H [0,1,2] ?_;refine CR.mv H (.slice A n c) ?_;refine CR.mv H (.int .i64 (i:Int)) ?_;refine CR.mv H (.slice (if c=i then A else A.map (·.add (i*2))) (n-i) (c-i)) ?_ (hx:=λT=>by exact zrJ rfl x5 jU cJ rfl rfl hi);refine CR.nil H ?_;refine CW.sq H ?_;refine CW.rg H [0,1,2] ?_;refine CR.mv H (.slice (some ⟨gv,0,none⟩) 1 1) ?_;refine CR.mv H (.int .i64 1) ?_ (hx:=λT=>by exact zsP rfl x5 rfl);refine CR.mv H (.int .i64 1) ?_;refine CR.nil H ?_;refine CW.sq H ?_;refine CW.sq H ?_;refine CW.rg H [0,1] ?_;refine CR.mv H (.int .i64 1) ?_;refine CR.mg H (.bool false) ?_;refine CR.nil H ?_;refine CW.cd H false ?_;refine CW.sk H ?_;dsimp only;refine CW.sq H ?_;refine CW.rg H [0,1,2] ?_;refine CR.mv H (.slice A n c) ?_;refine CR.mv H (.int .i64 (n:Int)) ?_ (hx:=λT=>by exact zsP rfl x5 rfl);refine CR.mv H (.int .i64 (n:Int)) ?_;refine CR.nil H ?_;refine CW.sq H ?_;refine CW.sq H ?_;refine CW.rg H [0,1,2] ?_;refine CR.mv H (.int .i64 (i:Int)) ?_;refine CR.mv H (.int .i64 (n:Int)) ?_;by_cases n9:i=n
 .
   subst n9;clear hi;refine nP ?_;refine CR.mg H (.bool true) ?_;refine CR.nil H ?_;refine CW.cd H true ?_;refine CW.sq H ?_;refine CW.rg H [0,1,2,3] ?_;refine CR.mv H (.slice A i c) ?_;refine CR.mv H (.slice (some ⟨gv,0,none⟩) 1 1) ?_;refine CR.op H zyC rfl aP (λT=>?_);obtain⟨q1,q2,w5,fN,cV,nD,eY⟩:=M9 (w:=Tt.tp w T 0) (t:=69) (ty:=69) zaA x5 rfl aH (cI h λb e=>rfl) (g:=gv) (cs:=#[.int .i64 x.c,.int .i64 x.p]) (news:=bJ.cells x) hv rfl (m:=1) rfl aH Q7 aC aH dQ;refine⟨.slice (some ⟨q1,0,none⟩) (i+1) q2,w5,.inl (Y3 rfl rfl rfl fN),?_⟩;simp only[cC,gE,dV,dW];refine nP ?_;refine CR.mv H (.slice (some ⟨q1,0,none⟩) (i+1) q2) ?_;refine CR.nil H ?_;refine CW.rt H ?_;refine⟨.inr rfl,rfl,.slice (some ⟨q1,0,none⟩) (i+1) q2,rfl,rfl,q1,q2,rfl,?_,⟨nD.size,nD.block⟩,?_⟩
   .rw[zmC,zP zrP,zyk zrP,List.append_nil]
    exact cV
   .exact eY.imp id λhh=>hh q1 rfl
 .
   have aN:i<n:=aC;have zCv:(i:Int)<(n:Int):=aC;have zKg:¬(i:Int)=(n:Int):=aC;refine nP ?_;refine CR.mg H (.bool false) ?_;refine CR.nil H ?_;refine CW.cd H false ?_;refine CW.sk H ?_;dsimp only;obtain⟨hlen,Yl|⟨g,cap,cur,Hh,zHI,hg,Yz,rM,fW,lM⟩⟩:=id h
   .exfalso;have:=Yl.2;omega
   injection Hh with e1 e2 e3;subst e1 e3;clear e2;have Ab:gv≠g:=λe=>aT (by rw[e];rfl);have mL:cur.toList.length=c*2:=by simpa using fW
   have la:((bF xs).take (i*2)).length=i*2:=by rw[rV,hlen];omega
   have lb:((bF xs).drop (i*2)).length=(n-i)*2:=by rw[xO,hlen];omega
   have Tl:∀j u,(bF xs)[j]? =some u->cur[j]? =some u:=λj u hj=>by
    rw[<-lM,Wo] at hj;split at hj
    .rw[<-Ap];exact hj
    .cases hj
   have zIt:cur.toList.take (i*2)=(bF xs).take (i*2):=by rw[<-lM,Pf];congr 1;omega
   have one:=Wc xs;refine CW.sq H ?_;refine CW.sq H ?_;refine CW.rg H [0,1,2,3,4,5] ?_;refine CR.mv H (.int .i64 (n:Int)) ?_;refine CR.mv H (.int .i64 1) ?_;refine CR.mv H (.int .i64 ((n+1:Nat):Int)) ?_ (hx:=λT=>by unfold aS;go_simp;first|(push_cast;exact Dz aC aC)|(push_cast;rw[Dz aC aC])|trace_state);refine CR.mv H (.slice (some ⟨g,0,none⟩) n c) ?_;refine CR.mg H (.int .i64 (c:Int)) ?_;by_cases zMj:n+1>c
   .
     have zG8:(c:Int)<((n+1:Nat):Int):=aC;refine nP ?_;refine CR.mv H (.bool true) ?_ (hx:=λT=>by unfold aS;go_simp;try omega);refine CR.nil H ?_;refine CW.cd H true ?_;refine CW.sq H ?_;refine CW.rg H [0,1,2,3,4,5,6,7,8,9] ?_;refine CR.mv H (.slice (some ⟨g,0,none⟩) n c) ?_;refine CR.mv H (.int .i64 (i:Int)) ?_;refine CR.mv H (.slice (some ⟨g,0,none⟩) i c) ?_ (hx:=λT=>by exact zuD rfl x5 jU cJ rfl rfl rfl aC);refine CR.mv H (.int .i64 (n:Int)) ?_;refine CR.mv H (.int .i64 1) ?_;refine CR.mv H (.int .i64 ((n+1:Nat):Int)) ?_ (hx:=λT=>by unfold aS;go_simp;first|(push_cast;exact Dz aC aC)|trace_state);refine CR.mv H (.int .i64 (i:Int)) ?_;refine CR.mv H (.int .i64 ((n+1-i:Nat):Int)) ?_ (hx:=λT=>by unfold aS;go_simp;first|(rw[Dz aC aC];omega)|trace_state);refine CR.op H zHE rfl aP (λT=>?_);have hold:(Uz ie.size i (.slice (some ⟨g,0,none⟩) i c)).run aK (Tt.tp w T 0).drew=.ok ((bF xs).take (i*2)).toArray (Tt.tp w T 0).drew:=by
      have hl:=run_loadCells_list (P:=aK) (Tt.tp w T 0).drew ⟨g,0,none⟩ ((bF xs).take (i*2)) (λj u hj=>by
       rw[Md,qZ];have Pw:(bF xs)[j]? =some u:=by
        rw[Wo] at hj;split at hj
        .exact hj
        .cases hj
       exact(aJ (w:=w) hg j).trans (Tl j u Pw))
      rw[la] at hl;simp[Uz,cJ,hl]
     have fN:=Lib.run_append_grow_zeros (P:=aK) (Tt.tp w T 0) 69 3 69 149 ie _ .i64 .i64 x5 Ko jU jN (some ⟨g,0,none⟩) i c ((bF xs).take (i*2)) hold (n+1-i) aC aC aC aC (by rw[uM];omega) (by rw[uM];exact growslice_fits aC aC);obtain⟨c2,nM⟩:=aU (grownCap (Tt.tp w T 0) (i+(n+1-i)) c 149);have Cb:n+1<=c2:=by have:=grownCap_ge (Tt.tp w T 0) (i+(n+1-i)) c 149;omega
     have hle:c2<=maxLen:=by rw[nM];exact grownCap_le_maxLen _ _ _ _ X2
     obtain⟨xS,zgu⟩:=aU (((bF xs).take (i*2)).toArray++pZ (.agg #[.int .i64 0,.int .i64 0]:aF).cells (n+1-i)++pZ (.agg #[.int .i64 0,.int .i64 0]:aF).cells (c2-(i+(n+1-i))):Array aF);have X7:xS.toList.length=c2*2:=by
      have z1:(pZ (.agg #[.int .i64 0,.int .i64 0]:aF).cells (n+1-i)).size=(n+1-i)*2:=Xl _ _;have z2:(pZ (.agg #[.int .i64 0,.int .i64 0]:aF).cells (c2-(i+(n+1-i)))).size=(c2-(i+(n+1-i)))*2:=Xl _ _;rw[Dm,zgu,Tj,Tj,z1,z2,List.size_toArray,la];omega
     have zlT:xS.toList.take (i*2)=(bF xs).take (i*2):=by
      rw[zgu,Qc,Qc,Jc,El (by rw[la];exact aX _),zP (by rw[la];exact aX _)]
     rw[<-nM,<-zgu,show i+(n+1-i)=n+1 by omega] at fN;obtain⟨W1,dG⟩:=aU ((Tt.tp w T 0).drew.alloc (.cells xS 149));rw[<-dG] at fN;have yD:W1.heap[w.heap.size]? =some (.cells xS 149 (0,0)):=by rw[dG];exact lQ _ _
     have zqr:∀b,b<w.heap.size->W1.heap[b]? =w.heap[b]? :=λb hb=>by rw[dG];exact Below.heap_alloc _ _ _ hb
     have eL:W1.heap.size=w.heap.size+1:=by rw[dG];exact qR _ _
     have zxw:g<w.heap.size:=fY hg;have zxm:gv<w.heap.size:=fY hv;refine⟨.slice (some ⟨w.heap.size,0,none⟩) (n+1) c2,W1,.inl (Y3 rfl rfl rfl fN),?_⟩;simp only[cC,gE,dV,dW];clear fN dG zgu hold nM;refine nP ?_;refine CR.mv H (.slice (some ⟨w.heap.size,0,none⟩) (n+1) c2) ?_;refine CR.nil H ?_;refine CW.sq H ?_;refine CW.rg H [0,1,2,3,4] ?_;refine CR.mv H (.slice (some ⟨w.heap.size,0,none⟩) (n+1) c2) ?_;refine CR.mv H (.int .i64 (i:Int)) ?_;refine CR.mv H (.slice (some ⟨w.heap.size,i*2,none⟩) (n+1-i) (c2-i)) ?_ (hx:=λT=>by exact Qy rfl x5 jU cJ rfl rfl rfl aC aC rfl rfl rfl);refine CR.mv H (.slice (some ⟨gv,0,none⟩) 1 1) ?_;refine CR.op H zAD rfl aP (λT2=>?_);have mR:∀ty,(C4 #[69,69] ty #[.slice (some ⟨w.heap.size,i*2,none⟩) (n+1-i) (c2-i),.slice (some ⟨gv,0,none⟩) 1 1]).run aK (Tt.tp W1 T2 0)=.ok (goInt (zbk 1 (n+1-i))) ((Tt.tp W1 T2 0).setRow w.heap.size (xS.toList.take (i*2)++x.cells++xS.toList.drop (i*2+(x.cells).length)).toArray):=λty=>
      zeY (P:=aK) x5 jU yD zto (λj u hj=>by rw[Md,qZ];exact(aJ (w:=W1) ((zqr gv zxm).trans hv) j).trans (by rw[<-Ap];exact hj)) (by rw[<-Dm,X7];show i*2+2<=_;omega) Q7
     obtain⟨tY,Sr⟩:=aU ((xS.toList.take (i*2)++x.cells++xS.toList.drop (i*2+(x.cells).length)).toArray:Array aF);rw[<-Sr] at mR;obtain⟨W2,qM⟩:=aU ((Tt.tp W1 T2 0).setRow w.heap.size tY);rw[<-qM] at mR;have Kx:W2.heap[w.heap.size]? =some (.cells tY 149 (0,0)):=by rw[qM];exact Lg (Tt.tp W1 T2 0) w.heap.size xS tY 149 (0,0) yD
     have zd8:∀b,b<w.heap.size->W2.heap[b]? =w.heap[b]? :=λb hb=>by rw[qM];exact(zfk _ _ _ _ aC).trans (zqr b hb)
     have lH:W2.heap.size=w.heap.size+1:=by rw[qM];simp[zeV];exact eL
     have vY:tY.toList.length=c2*2:=by rw[Sr];show(_++_++_:List aF).length=_;simp only[gM,rV,xO,X7];show min (i*2) (c2*2)+2+(c2*2-(i*2+2))=_;omega
     refine⟨_,W2,.inl (ze6 rfl rfl rfl (mR _)),?_⟩;simp only[cC,gE,dV,dW];clear mR qM;refine CR.nil H ?_;refine CW.sq H ?_;refine CW.pQ H zcm (λT3 Q HQ=>?_);have mR:∀ty,(C4 #[69,69] ty #[.slice (some ⟨w.heap.size,(i+1)*2,none⟩) (n+1-(i+1)) (c2-(i+1)),.slice (some ⟨g,i*2,none⟩) (n-i) (c-i)]).run aK (Tt.tp W2 T3 0).drew=.ok (goInt (zbk (n-i) (n+1-(i+1)))) ((Tt.tp W2 T3 0).drew.setRow w.heap.size (tY.toList.take ((i+1)*2)++((bF xs).drop (i*2))++tY.toList.drop ((i+1)*2+(((bF xs).drop (i*2))).length)).toArray):=λty=>
      zeY (P:=aK) x5 jU Kx (by rw[cJ,lb,show n+1-(i+1)=n-i by omega];congr 1;exact(Nat.min_self _).symm) (λj u hj=>by rw[Md];rw[Y5] at hj;exact(aJ (w:=W2) ((zd8 g zxw).trans hg) (i*2+j)).trans (Tl _ _ hj)) (by rw[<-Dm,vY,lb];omega) (λu hu=>one u (zcr hu))
     obtain⟨Is,zbS⟩:=aU ((tY.toList.take ((i+1)*2)++((bF xs).drop (i*2))++tY.toList.drop ((i+1)*2+((bF xs).drop (i*2)).length)).toArray:Array aF);rw[<-zbS] at mR;obtain⟨W3,sD⟩:=aU ((Tt.tp W2 T3 0).drew.setRow w.heap.size Is);rw[<-sD] at mR;have zgS:W3.heap[w.heap.size]? =some (.cells Is 149 (0,0)):=by rw[sD];exact Lg (Tt.tp W2 T3 0).drew w.heap.size tY Is 149 (0,0) Kx
     have zgq:∀b,b<w.heap.size->W3.heap[b]? =w.heap[b]? :=λb hb=>by rw[sD];exact(zfk _ _ _ _ aC).trans (zd8 b hb)
     have zjy:W3.heap.size=w.heap.size+1:=by rw[sD];simp[zeV];exact lH
     obtain⟨Tz,Ux⟩:=ins_up (c0:=xS.toList) (a:=(bF xs).take (i*2)) (b:=(bF xs).drop (i*2)) (xx:=x.cells) (c1:=tY.toList) (c2:=Is.toList) (by rw[la];exact zlT) (by rw[la,lb,X7];show i*2+2+_<=_;omega) (by rw[Sr,la]) (by rw[zbS,la,show i*2+x.cells.length=(i+1)*2 by show i*2+2=_;omega]);rw[X7] at Ux;rw[la,lb,show i*2+x.cells.length+(n-i)*2=(n+1)*2 by show i*2+2+_=_;omega,<-zmC] at Tz;have oA:W3.ownsRow lo 149 2 (.slice (some ⟨w.heap.size,0,none⟩) (n+1) c2) (n+1) (bF (xs.take i++x::xs.drop i)):=⟨by rw[<-Tz,rV,Ux];omega,.inr ⟨w.heap.size,c2,Is,rfl,dQ,zgS,Cb,hle,by rw[<-Dm];exact Ux,Tz⟩⟩;refine wp_IN11 (Tt.tp W2 T3 0) W3 w.heap.size (n+1) c2 g n c i _ rfl rfl rfl rfl rfl ⟨aC,aC,aC,aC,aC⟩ (mR _) rfl ?_;rw[Go.Mt.An,zsX];simp only[Go.Mt.xL,dV,dW,zno,lIN11,Ds,C7];show Q .normal _ W3;refine HQ.o _ _ ?_;clear HQ mR sD;refine CW.sq H ?_;refine CW.pQ H zcm (λT4 Q HQ=>?_);go_wp2;refine HQ.o _ _ ?_;clear HQ;refine CW.rt H ?_;exact⟨.inr rfl,rfl,.slice (some ⟨w.heap.size,0,none⟩) (n+1) c2,rfl,rfl,w.heap.size,c2,rfl,cI oA λb e=>rfl,⟨by show _<=W3.heap.size;omega,λb hb _=>zgq b hb⟩,.inr (aX _)⟩
   .
     have zG8:¬(c:Int)<((n+1:Nat):Int):=aC;refine nP ?_;refine CR.mv H (.bool false) ?_ (hx:=λT=>by unfold aS;go_simp;omega);refine CR.nil H ?_;refine CW.cd H false ?_;refine CW.sk H ?_;dsimp only;refine CW.sq H ?_;refine CW.rg H [0,1,2,3,4,5] ?_;refine CR.mv H (.slice (some ⟨g,0,none⟩) n c) ?_;refine CR.mv H (.int .i64 (n:Int)) ?_;refine CR.mv H (.int .i64 1) ?_;refine CR.mv H (.int .i64 ((n+1:Nat):Int)) ?_ (hx:=λT=>by unfold aS;go_simp;first|(push_cast;exact Dz aC aC)|trace_state);refine CR.mv H (.slice (some ⟨g,0,none⟩) (n+1) c) ?_ (hx:=λT=>by exact zuD rfl x5 jU cJ rfl rfl rfl aC);refine CR.mv H (.slice (some ⟨g,0,none⟩) (n+1) c) ?_;refine CR.nil H ?_;refine CW.sq H ?_;refine CW.sq H ?_;refine CW.rg H [0,1,2,3,4,5,6,7] ?_;refine CR.mv H (.slice (some ⟨gv,0,none⟩) 1 1) ?_;refine CR.mv H (.slice (some ⟨g,0,none⟩) (n+1) c) ?_;refine CR.mv H (.int .i64 (i:Int)) ?_;refine CR.mv H (.int .i64 1) ?_;refine CR.mv H (.int .i64 ((i+1:Nat):Int)) ?_ (hx:=λT=>by unfold aS;go_simp;first|(push_cast;exact Dz aC aC)|trace_state);refine CR.mv H (.slice (some ⟨g,(i+1)*2,none⟩) (n+1-(i+1)) (c-(i+1))) ?_ (hx:=λT=>by exact Qy rfl x5 jU cJ rfl rfl rfl aC aC rfl rfl rfl);refine CR.overlaps H (A:=⟨gv,0,none⟩) (B:=⟨g,(i+1)*2,none⟩) ov_fn zJk rfl rfl rfl rfl rfl rfl Ab hv hg (by rw[fW];omega) ?_;simp only[cC,gE,dV,dW];refine nP ?_;refine CR.mg H (.bool true) ?_;refine CR.nil H ?_;refine CW.cd H true ?_;refine CW.sq H ?_;refine CW.pQ H zcm (λT3 Q HQ=>?_);have zxw:g<w.heap.size:=fY hg;have zxm:gv<w.heap.size:=fY hv;have mR:∀ty,(C4 #[69,69] ty #[.slice (some ⟨g,(i+1)*2,none⟩) (n+1-(i+1)) (c-(i+1)),.slice (some ⟨g,i*2,none⟩) (n+1-i) (c-i)]).run aK (Tt.tp w T3 0).drew=.ok (goInt (zbk (n+1-i) (n+1-(i+1)))) ((Tt.tp w T3 0).drew.setRow g (cur.toList.take ((i+1)*2)++((bF xs).drop (i*2))++cur.toList.drop ((i+1)*2+(((bF xs).drop (i*2))).length)).toArray):=λty=>
      zeY (P:=aK) x5 jU hg (by rw[cJ,lb,show n+1-(i+1)=n-i by omega];congr 1;exact(Nat.min_eq_right aC).symm) (λj u hj=>by rw[Md];rw[Y5] at hj;exact(aJ (w:=w) hg (i*2+j)).trans (Tl _ _ hj)) (by rw[<-Dm,mL,lb];omega) (λu hu=>one u (zcr hu))
     obtain⟨tY,Sr⟩:=aU ((cur.toList.take ((i+1)*2)++((bF xs).drop (i*2))++cur.toList.drop ((i+1)*2+((bF xs).drop (i*2)).length)).toArray:Array aF);rw[<-Sr] at mR;obtain⟨W3,sD⟩:=aU ((Tt.tp w T3 0).drew.setRow g tY);rw[<-sD] at mR;have zgS:W3.heap[g]? =some (.cells tY 149 (0,0)):=by rw[sD];exact Lg (Tt.tp w T3 0).drew g cur tY 149 (0,0) hg
     have zgq:∀b,b≠g->W3.heap[b]? =w.heap[b]? :=λb hb=>by rw[sD];exact zfk _ _ _ _ hb
     have zjy:W3.heap.size=w.heap.size:=by rw[sD];simp[zeV];rfl
     have vY:tY.toList.length=c*2:=by rw[Sr];show(_++_++_:List aF).length=_;simp only[gM,rV,xO,mL,hlen];omega
     refine wp_IN15 (Tt.tp w T3 0) W3 g (n+1) c i _ rfl rfl rfl rfl ⟨aC,aC,aC,aC,aC⟩ (mR _) rfl ?_;rw[Go.Mt.An,zsg];simp only[Go.Mt.xL,dV,dW,zlo,lIN15,Ds,C7];show Q .normal _ W3;refine HQ.o _ _ ?_;clear HQ mR sD;refine CW.sq H ?_;refine CW.rg H [0,1,2,3,4] ?_;refine CR.mv H (.slice (some ⟨g,0,none⟩) (n+1) c) ?_;refine CR.mv H (.int .i64 (i:Int)) ?_;refine CR.mv H (.slice (some ⟨g,i*2,none⟩) (n+1-i) (c-i)) ?_ (hx:=λT=>by exact Qy rfl x5 jU cJ rfl rfl rfl aC aC rfl rfl rfl);refine CR.mv H (.slice (some ⟨gv,0,none⟩) 1 1) ?_;refine CR.op H zGf rfl aP (λT2=>?_);have mR:∀ty,(C4 #[69,69] ty #[.slice (some ⟨g,i*2,none⟩) (n+1-i) (c-i),.slice (some ⟨gv,0,none⟩) 1 1]).run aK (Tt.tp W3 T2 0)=.ok (goInt (zbk 1 (n+1-i))) ((Tt.tp W3 T2 0).setRow g (tY.toList.take (i*2)++x.cells++tY.toList.drop (i*2+(x.cells).length)).toArray):=λty=>
      zeY (P:=aK) x5 jU zgS zto (λj u hj=>by rw[Md,qZ];exact(aJ (w:=W3) ((zgq gv Ab).trans hv) j).trans (by rw[<-Ap];exact hj)) (by rw[<-Dm,vY];show i*2+2<=_;omega) Q7
     obtain⟨Is,zbS⟩:=aU ((tY.toList.take (i*2)++x.cells++tY.toList.drop (i*2+(x.cells).length)).toArray:Array aF);rw[<-zbS] at mR;obtain⟨W2,qM⟩:=aU ((Tt.tp W3 T2 0).setRow g Is);rw[<-qM] at mR;have Lt:W2.heap[g]? =some (.cells Is 149 (0,0)):=by rw[qM];exact Lg (Tt.tp W3 T2 0) g tY Is 149 (0,0) zgS
     have zd8:∀b,b≠g->W2.heap[b]? =w.heap[b]? :=λb hb=>by rw[qM];exact(zfk _ _ _ _ hb).trans (zgq b hb)
     have lH:W2.heap.size=w.heap.size:=by rw[qM];simp[zeV];exact zjy
     obtain⟨Tz,Ux⟩:=zH7 (c0:=cur.toList) (a:=(bF xs).take (i*2)) (b:=(bF xs).drop (i*2)) (xx:=x.cells) (c1:=tY.toList) (c2:=Is.toList) (by rw[la];exact zIt) (by rw[la,lb,mL];show i*2+2+_<=_;omega) (by rw[Sr,la,show i*2+x.cells.length=(i+1)*2 by show i*2+2=_;omega]) (by rw[zbS,la]);rw[mL] at Ux;rw[la,lb,show i*2+x.cells.length+(n-i)*2=(n+1)*2 by show i*2+2+_=_;omega,<-zmC] at Tz;have oA:W2.ownsRow lo 149 2 (.slice (some ⟨g,0,none⟩) (n+1) c) (n+1) (bF (xs.take i++x::xs.drop i)):=⟨by rw[<-Tz,rV,Ux];omega,.inr ⟨g,c,Is,rfl,zHI,Lt,aC,rM,by rw[<-Dm];exact Ux,Tz⟩⟩;refine⟨_,W2,.inl (ze6 rfl rfl rfl (mR _)),?_⟩;simp only[cC,gE,dV,dW];clear mR qM;refine CR.nil H ?_;refine CW.sq H ?_;refine CW.pQ H zcm (λT4 Q HQ=>?_);go_wp2;refine HQ.o _ _ ?_;clear HQ;refine CW.rt H ?_;exact⟨.inr rfl,rfl,.slice (some ⟨g,0,none⟩) (n+1) c,rfl,rfl,g,c,rfl,cI oA λb e=>rfl,⟨by show _<=W2.heap.size;omega,λb hb hn=>zd8 b λe=>hn (by rw[e];rfl)⟩,.inl rfl⟩
section
variable {P:bS}{w:aE}
theorem zv9 {ops:Array aZ}{rest:List aZ}{o:aZ}{a:uA}{Q:nZ->uA->aE->Prop}(Fl:o.guard=none)(x y:cN)(t t2:aM)(ho:o.op=.binOp .neq t x y t2){d:Na}{e:aM}(hu:P.underlying t=some (.chan d e))(p q:Option Nat)(hx:a.eval x=.chan p)(hy:a.eval y=.chan q){r:Bool}(hr:(!(p==q))=r)
 (h:wpList P ops Q rest (a.put o.dst (.bool r)) w):wpList P ops Q (o::rest) a w:=by
 subst hr;refine wpList_plain Fl λK hK=>?_;unfold aZ.wp;simp[aS,eqGuard,binOp,ho,hx,hy,zm4 hu];exact hK _ _ h
end
def yT (xs:List bJ)(p:Int):Nat:=(xs.takeWhile λx=>decide (p<=x.p)).length
def zfs (xs:List bJ)(p:Int):yT xs p<=xs.length:=(zpa _).length_le
theorem zCN (xs:List bJ)(c:bJ):tN xs c=xs.take (yT xs c.p)++c::xs.drop (yT xs c.p):=by
 unfold tN yT;congr 1
 .exact(List.prefix_iff_eq_take.1 (zpa _))
 .congr 1
  have h:=List.takeWhile_append_dropWhile (p:=λx:bJ=>decide (c.p<=x.p)) (l:=xs);generalize xs.takeWhile (λx=>decide (c.p<=x.p))=a at*;generalize xs.dropWhile (λx=>decide (c.p<=x.p))=b at*;subst h;simp
variable {p:Int}
theorem zCf :∀{j:Nat} {x:bJ},j<yT xs p->xs[j]? =some x->p<=x.p:=by
 unfold yT
 induction xs with
 |nil=>intro j x hj;simp at hj
 |cons y ys ih=>
  intro j x hj hx;rw[zde] at hj;split at hj
  .rename_i hy
   cases j with
   |zero=>simp at hx;subst hx;simpa using hy
   |succ j=>exact ih zax (by simpa using hx)
  .simp at hj
theorem zBv :∀{j:Nat} {x:bJ},yT xs p=j->xs[j]? =some x->x.p<p:=by
 unfold yT
 induction xs with
 |nil=>intro j x hj hx;simp at hx
 |cons y ys ih=>
  intro j x hj hx;rw[zde] at hj;split at hj
  .rename_i hy
   cases j with
   |zero=>simp at hj
   |succ j=>exact ih zax (by simpa using hx)
  .rename_i hy
   simp at hj;subst hj;simp at hx;subst hx;simpa using hy
def zjI:Go.Code:=(zqx.body).getD .skip
def rRI9:Go.Code:=match zjI with| .seq _ (.seq _ (.seq _ (.seq _ (.seq _ (.seq _ (.seq (.block _ (.loop (.seq (.seq (a) _) _))) _))))))=>a|_=>.skip
def rRI11:Go.Code:=match zjI with| .seq _ (.seq _ (.seq _ (.seq _ (.seq _ (.seq _ (.seq _ (.seq (a) _)))))))=>a|_=>.skip
def zoC:Array Oper:=match rRI11 with| .region _ ops _=>ops|_=>#[]
abbrev oRI11_9:Oper:=⟨some 72,.buildSlice 69 1 #[(0,.tmp 71)],69,"l6_office.go:161",#[⟨8,.data⟩],none⟩
def zG2:zoC[9]? =some oRI11_9:=rfl
abbrev zID:Oper:=⟨none,.store 69 (.tmp 75) (.tmp 73),0,"l6_office.go:161",#[⟨12,.data⟩,⟨10,.data⟩,⟨10,.chain⟩,⟨0,.phase⟩,⟨1,.phase⟩,⟨2,.phase⟩,⟨3,.phase⟩,⟨4,.phase⟩,⟨5,.phase⟩,⟨6,.phase⟩,⟨7,.phase⟩,⟨8,.phase⟩,⟨9,.phase⟩,⟨10,.phase⟩],none⟩
def zA5:zoC[13]? =some zID:=rfl
def Bh:vX aK 101:=⟨_,zvz,.inr (.inl ⟨_,rfl⟩)⟩
section
variable {Q:nZ->uA->aE->Prop}{u3 u4 u5 u6 u7 u9 gU gH gK gF gJ gI u16 iH kO kH jO iM iE gY iD iJ iC iI iO iK jH jI u32 iG iB iF iA kV kN iL gZ iN iZ iX iP iS iY jB jC iV iT iW mJ mE lB lA kJ kK kR kT kP jZ j6 j8 u64 j7 kF kD j9 kY kI kL j5 zb0 zc9 zbI zc3 Z2 zaW zb3:aF}{w:aE}
theorem wp_RI9 {lo hb n cW m:Nat}{AW:Option bL}{xs:List bJ}{c:bJ}(h7:w.cell? ⟨hb,7,none⟩=some (.slice AW n cW))(hs:bX w lo w.heap.size 2 AW n cW (bF xs))(hn:xs.length=n)(Qh:n<=1000)(hm:m<=yT xs c.p)(hp:0<=c.p/\c.p<=9)(h:∀zxG zwH zpR zqS z46 zrf zrk z49 zsO z51 zvU z53 zyb zsJ zrt zup zyc z59,Q .normal ⟨#[.pointer (some ⟨hb,0,none⟩),.int .i64 c.c,.int .i64 c.p,u3,u4,u5,u6,u7,.int .i64 (m:Int),u9,gU,gH,gK,gF,gJ,gI,u16,iH,kO,kH,jO,iM,iE,gY,iD,iJ,iC,iI,iO,iK,jH,jI,u32,iG,iB,iF,iA,kV,kN,iL,gZ,iN,zxG,zwH,zpR,zqS,z46,zrf,zrk,z49,zsO,z51,zvU,z53,zyb,zsJ,zrt,zup,zyc,z59,.bool (decide (m<yT xs c.p)),jZ,j6,j8,u64,j7,kF,kD,j9,kY,kI,kL,j5,zb0,zc9,zbI,zc3,Z2,zaW,zb3],[]⟩ w):
 Code.wp aK rRI9 Q ⟨#[.pointer (some ⟨hb,0,none⟩),.int .i64 c.c,.int .i64 c.p,u3,u4,u5,u6,u7,.int .i64 (m:Int),u9,gU,gH,gK,gF,gJ,gI,u16,iH,kO,kH,jO,iM,iE,gY,iD,iJ,iC,iI,iO,iK,jH,jI,u32,iG,iB,iF,iA,kV,kN,iL,gZ,iN,iZ,iX,iP,iS,iY,jB,jC,iV,iT,iW,mJ,mE,lB,lA,kJ,kK,kR,kT,kP,jZ,j6,j8,u64,j7,kF,kD,j9,kY,kI,kL,j5,zb0,zc9,zbI,zc3,Z2,zaW,zb3],[]⟩ w:=by
 have hle:=zfs xs c.p;have zoA:=aD (show∀(j:Nat) (x:bJ),j<yT xs c.p->xs[j]? =some x->c.p<=x.p from λj x hj hx=>zCf hj hx);obtain⟨pl,l6⟩:=aU (yT xs c.p);rw[<-l6] at hm h hle zoA;have zc6:=aD l6;have Uq:=aD hn;have HQ:=aD h;simp only[rRI9,zjI,zqx,zG];by_cases aN:m<n
 .obtain⟨bW,oW,x,hA,mQ,eK,e0,e1⟩:=zdm hs aN
  subst hA;have i0:(0:Int)<=(m:Int):=aC;have i1:(m:Int)<(n:Int):=aC;have HX:=aD eK;have HS:=aD hs;by_cases zAa:c.p<=x.p
  .have O1:m<pl:=by
    rcases mX m pl with hh|hh
    .exact hh
    .have:m=pl:=aC
     subst this;exact absurd (zBv zc6.o.symm HX.o) aC
   go_wp2;have:=HQ.o;simp only[O1,decide_true] at this;exact this _ _ _ _ _ _ _ _ _ _ _ _ _ _ _ _ _ _
  .have O1:¬m<pl:=λhh=>zAa (zoA.o m x hh HX.o)
   go_wp2;have:=HQ.o;simp only[O1,decide_false] at this;exact this _ _ _ _ _ _ _ _ _ _ _ _ _ _ _ _ _ _
 .have zGb:m=n:=by have:=Uq.o;omega
  subst zGb;have O1:¬m<pl:=by have:=Uq.o;omega
  have HS:=aD hs;go_wp2;have:=HQ.o;simp only[O1,decide_false] at this;exact this _ _ _ _ _ _ _ _ _ _ _ _ _ _ _ _ _ _
end
variable {d:nQ}
theorem cf_ring (H:e.d.Ok){c:bJ}(h:bE w lo hb v d)(mr:gC v d)(hi:yB d)(dQ:lo<=w.heap.size)(hp:0<=c.p/\c.p<=9):
 CF e.d 101 #[.pointer (some ⟨hb,0,none⟩),.int .i64 c.c,.int .i64 c.p] K (.wk e.qs k) w (λK' l' y w'=>zcd e.qs lo hb v d w k 0 (qB d.r c) l' y w'):=by
 refine CF.of 80 zvz (.inr (.inl ⟨_,rfl⟩)) ?_;have A0:=aD h;have T0:=aD (bM.refl (hb:=hb) (v:=v) (w:=w));have HI:=aD hi;have MR:=aD mr;have Mg:=aD dQ;have nK:=hi.sm.nb;have J8:=hi.sm.nw;have Bf:=hi.sm.nr;obtain⟨vV,ziT⟩:=hp;clear h mr hi dQ;refine CW.sq H (CW.p0 H Bh A0 T0 λw1 fB A1 T1=>?_);obtain⟨AB,cB,Lm,zbG⟩:=Ge A1.o.B aH;have zS:=aD Lm;clear Lm zbG;obtain⟨kn,sX⟩:=aU (((jJ d.r.recs c.c).isSome||(vD d.r.back c.c).isSome));have fD:=aD sX;clear sX;refine CW.sq H ?_;refine CW.sq H ?_
 cases eY:jJ d.r.recs c.c with
 |some i=>
  obtain⟨x,hx,Io,rQ⟩:=Bs eY;obtain⟨gL,Mo,hO,hM,hC⟩:=MR.o.onLine HI.o hx rQ Io;have Us:=aD hO;have cK:=aD (show qB d.r c=(d.r,[107,110,111,119,110]) by unfold qB;rw[eY];rfl);clear hx Io rQ Mo hO hM hC eY;refine CW.pW H Bh A1 T1 λw2 Q fX A2 T2 HQ=>?_;have k5:w2.cell? ⟨hb,5,none⟩=some (.map (some v.mO)):=aJ A2.o.blk 5;have k8:w2.cell? ⟨hb,8,none⟩=some (.slice AB d.r.back.length cB):=by
   have:=aJ A2.o.blk 8;rw[this,<-zS.o];rfl
  have Fo:=aD (show bX w2 lo w2.heap.size 1 AB d.r.back.length cB (jX (d.r.back.map bJ.c)) by have:=A2.o.B;rw[zS.o] at this;exact Ak this aH);have Wx:=aD A2.o.O
  go_wp2_with (at_lookup;refine zuJ _ rfl (.tmp 12) (.tmp 13) 67 false rfl 84 Rg Ko (.chan none) (zbu _) v.mO c.c v.pO rfl rfl Wx.o ?_;rw[Us.o];simp only[zG,zyy,jF,if_false];refine zv9 rfl (.tmp 14) (.const (.chan none)) 84 84 rfl Uy (some gL) none rfl rfl (r:=true) rfl ?_)
  refine HQ.o _ _ ?_;clear HQ;clear k5 k8;refine CW.cd H true ?_;refine CW.sq H (CW.p0 H Bh A2 T2 λw3 iU A3 T3=>?_);refine CW.rt H ?_;refine⟨.inr rfl,rfl,.string ⟨#[107,110,111,119,110]⟩,rfl,⟨rfl,by rw[cK.o],v,?_,?_,?_,zL.rf v⟩⟩
  .rw[cK.o];exact A3.o
  .rw[cK.o];exact MR.o
  .exact T3.o
 |none=>
  have Us:=aD (MR.o.offLine eY);have uL:=aD eY;clear eY;refine CW.pW H Bh A1 T1 λw2 Q fX A2 T2 HQ=>?_;have k5:w2.cell? ⟨hb,5,none⟩=some (.map (some v.mO)):=aJ A2.o.blk 5;have k8:w2.cell? ⟨hb,8,none⟩=some (.slice AB d.r.back.length cB):=by
   have:=aJ A2.o.blk 8;rw[this,<-zS.o];rfl
  have Fo:=aD (show bX w2 lo w2.heap.size 1 AB d.r.back.length cB (jX (d.r.back.map bJ.c)) by have:=A2.o.B;rw[zS.o] at this;exact Ak this aH);have Wx:=aD A2.o.O
  go_wp2_with (first
   |(at_lookup;refine zuJ _ rfl (.tmp 12) (.tmp 13) 67 false rfl 84 Rg Ko (.chan none) (zbu _) v.mO c.c v.pO rfl rfl Wx.o ?_;rw[Us.o];simp only[zG,zyy,jF,if_false];refine zv9 rfl (.tmp 14) (.const (.chan none)) 84 84 rfl Uy (none) none rfl rfl (r:=false) rfl ?_)
   |(go_at_call 108;refine(zDL lo w2.heap.size d.r.back.length cB AB (d.r.back.map bJ.c) c.c w2 Fo.o aC).mono ?_;rintro en wz ⟨rfl,uV⟩;obtain rfl:=uV;rw[zui]))
  refine HQ.o _ _ ?_;clear HQ;clear k8;have zKn:=A2
  cases Hi:vD d.r.back c.c with
  |some p=>
   have cK:=aD (show qB d.r c=(d.r,[107,110,111,119,110]) by unfold qB;rw[Hi,uL.o];rfl);clear Hi;refine CW.cd H true ?_;refine CW.sq H (CW.p0 H Bh A2 T2 λw3 iU A3 T3=>?_);refine CW.rt H ?_;refine⟨.inr rfl,rfl,.string ⟨#[107,110,111,119,110]⟩,rfl,⟨rfl,by rw[cK.o],v,?_,?_,?_,zL.rf v⟩⟩
   .rw[cK.o];exact A3.o
   .rw[cK.o];exact MR.o
   .exact T3.o
  |none=>
   have zp3:=aD Hi;clear Hi;refine CW.cd H false ?_;refine CW.sk H ?_;dsimp only;have zbO:=HI.o.nln;have zcP:d.ln.length<=100:=by have:=(Cs HI.o.R.off).2.1;omega
   have zcL:=aD (λW (a:bE W lo hb v d)=>zvX a MR.o zbO zcP);clear zbO zcP fD;refine CW.sq H (CW.pW H Bh A2 T2 λw3 Q iU A3 T3 HQ=>?_)
   go_wp2_with (go_at_call 109;refine(zcL.o _ A3.o).mono ?_;rintro en wy ⟨rfl,zHQ⟩;obtain rfl:=zHQ)
   refine HQ.o _ _ ?_;clear HQ;clear zcL;refine CW.sq H ?_
   cases fP:oJ d.r.o d.r.recs with
   |nil=>
    rw[zsi fP];have cK:=aD (show qB d.r c=({d.r with back:=d.r.back++[c]},[98,117,115,121]) by unfold qB;rw[zp3.o,uL.o];simp only[fP];rfl);clear fP;refine CW.sq H (CW.p0 H Bh A3 T3 λw4 lN A4 T4=>?_);refine CW.cd H true ?_;refine CW.sq H (CW.pW H Bh A4 T4 λw5 Q nY A5 T5 HQ=>?_);have k8:w5.cell? ⟨hb,8,none⟩=some v.sB:=aJ A5.o.blk 8;obtain⟨OC,zap⟩:=aU (.cells #[.int .i64 c.c] 3:Obj);have a5:=A5.o.alloc OC;obtain⟨q1,q2,w6,fN,cV,nD,eY⟩:=M9 (t:=38) (ty:=38) zaQ X8 rfl aH a5.B (g:=w5.heap.size) (cs:=#[.int .i64 c.c]) (news:=[.int .i64 c.c]) (by rw[zap];exact lQ _ _) rfl (m:=1) rfl aH Ng aC aH (by have:=T5.o.size;have:=Mg.o;simp;omega);obtain⟨a6,t6⟩:=a5.putB nD (xs:=d.r.back++[c]) (by have e:jX ((d.r.back++[c]).map bJ.c)=jX (d.r.back.map bJ.c)++[.int .i64 c.c]:=(by simp[jX]);rw[e];exact cV) aQ eY;have A6:=aD a6;have T6:=aD (T5.o.trans ((bM.below (dS (eF _ w5) OC)).trans (⟨t6.size,t6.block,t6.moved⟩:bM hb v (w5.alloc OC) _ _)));have L1:w6.heap[hb]? =some (O0 v _):=(a5.other (j:=6) (c:=8) (x:=v.sB) rfl aH nD (.slice (some ⟨q1,0,none⟩) (d.r.back.length+1) q2)).2.trans a5.blk;have zsn:=aJ L1 8;have kf:=eJ L1 8;have AP:=aD fN;obtain⟨A8,c8,zfw,_⟩:=Ge A5.o.B aH;have Ov:w5.cell? ⟨hb,8,none⟩=some (.slice A8 d.r.back.length c8):=by rw[k8,zfw]
    have zEc:w6.cell? ⟨hb,8,none⟩=some (.slice A8 d.r.back.length c8):=by rw[zsn,<-zfw];rfl
    rw[zfw,zap] at AP;clear cV nD eY a6 t6 a5 L1 fN k8 zsn zfw
    go_wp2_with (at_builtin;refine zsH rfl (.tmp 32) (.tmp 34) 38 38 rfl (.slice A8 d.r.back.length c8) (.slice (some ⟨w5.heap.size,0,none⟩) 1 1) (.slice (some ⟨q1,0,none⟩) (d.r.back.length+1) q2) rfl rfl AP.o ?_)
    refine HQ.o _ _ ?_;clear HQ;clear Ov zEc kf AP;clear A5 T5;obtain⟨zM2,zqv⟩:∃y,y=w6.setCell ⟨hb,8,none⟩ (.slice (some ⟨q1,0,none⟩) (d.r.back.length+1) q2):=⟨_,rfl⟩;rw[<-zqv] at A6 T6⊢;clear zqv;refine CW.sq H (CW.p0 H Bh A6 T6 λw7 rG A7 T7=>?_);refine CW.rt H ?_;refine⟨.inr rfl,rfl,.string ⟨#[98,117,115,121]⟩,rfl,⟨rfl,by rw[cK.o],{v with sB:=.slice (some ⟨q1,0,none⟩) (d.r.back.length+1) q2},?_,?_,?_,⟨rfl,rfl,rfl,rfl⟩⟩⟩
    .rw[cK.o];exact A7.o
    .rw[cK.o];refine gC.of MR.o ?_ ?_ ?_ ?_ ?_<;>rfl
    .exact T7.o
   |cons lf ls=>
    obtain⟨i,gL,vB⟩:=HI.o.free fP;have uO:Jl d=(i:Int):=by rw[zo9 fP,vB.l];omega
    rw[uO];have cK:=aD (show qB d.r c=({d.r with recs:=d.r.recs++[⟨c.c,(i:Int)+1,0,d.r.clk,-1,-1,eM⟩],wait:=tN d.r.wait c},[108,105,110,101,32]++jM ((i:Int)+1)) by unfold qB;rw[zp3.o,uL.o];simp only[fP,vB.l];rfl);have FA:=aD vB;have zG0:=vB.i6;have zyA:i<=50:=by have:=(zgg HI.o.R.off (l:=lf) (by rw[fP];simp));have:=vB.l;omega
    clear fP vB uO;refine CW.sq H (CW.pW H Bh A3 T3 λw4 Q lN A4 T4 HQ=>?_);have i0:(0:Int)<=(i:Int):=aC;go_wp2;refine HQ.o _ _ ?_;clear HQ;refine CW.cd H false ?_;refine CW.sk H ?_;dsimp only;refine CW.sq H (CW.pW H Bh A4 T4 λw5 Q nY A5 T5 HQ=>?_);have zEL:lo<=w5.heap.size:=eG Mg.o T5.o.size
    go_wp2_with (go_at_call 110;refine(zwB A5.o zEL FA.o.g aC Bf c.c).mono ?_;rintro en w6 ⟨rfl,v6,a6,t6,p6⟩;have A6:=aD a6;have T6:=aD (T5.o.trans t6);have P6:=aD p6;clear a6 t6 p6)
    refine HQ.o _ _ ?_;clear HQ;clear A5 T5;have zBB:=aD (gC.of (v':=v6) (d':={d with r:={d.r with recs:=d.r.recs++[⟨c.c,(i:Int)+1,0,d.r.clk,-1,-1,eM⟩]}}) (MR.o.more HI.o.ndl FA.o.g FA.o.un uL.o (o:=0) (hh:=-1) (tt:=-1) (clk:=d.r.clk)) P6.o.1 P6.o.2.1 P6.o.2.2.1 rfl rfl);have zKB:lo<=w6.heap.size:=eG Mg.o T6.o.size;refine CW.sq H (CW.p0 H Bh A6 T6 λw7 rG A7 T7=>?_);obtain⟨AW,cW,Lf,zGG⟩:=Ge A7.o.W aH;have Ba:=aD (show v6.sW=.slice AW d.r.wait.length cW from Lf);clear Lf zGG;refine CW.sq H ?_;refine CW.block H ?_;refine CW.loop H (λnn s=>∃(m:Nat) (wz:aE) (u3 u4 u5 u6 u9 gU gH gK gF gJ gI u16 iH kO kH jO iM iE gY iD iJ iC iI iO iK jH jI u32 iG iB iF iA kV kN iL gZ iN iZ iX iP iS iY jB jC iV iT iW mJ mE lB lA kJ kK kR kT kP jZ j6 j8 u64 j7 kF kD j9 kY kI kL j5 zb0 zc9 zbI zc3 Z2 zaW zb3:aF),s=⟨[],K,.wk e.qs k,#[.pointer (some ⟨hb,0,none⟩),.int .i64 c.c,.int .i64 c.p,u3,u4,u5,u6,.int .i64 (i:Int),.int .i64 (m:Int),u9,gU,gH,gK,gF,gJ,gI,u16,iH,kO,kH,jO,iM,iE,gY,iD,iJ,iC,iI,iO,iK,jH,jI,u32,iG,iB,iF,iA,kV,kN,iL,gZ,iN,iZ,iX,iP,iS,iY,jB,jC,iV,iT,iW,mJ,mE,lB,lA,kJ,kK,kR,kT,kP,jZ,j6,j8,u64,j7,kF,kD,j9,kY,kI,kL,j5,zb0,zc9,zbI,zc3,Z2,zaW,zb3],wz⟩/\m<=yT d.r.wait c.p/\nn=yT d.r.wait c.p-m/\bE wz lo hb v6 {d with r:={d.r with recs:=d.r.recs++[⟨c.c,(i:Int)+1,0,d.r.clk,-1,-1,eM⟩]}}/\bM hb v w v6 wz) (λnn s hs=>?_) (n:=yT d.r.wait c.p) ?_
    rotate_left
    .exact⟨0,w7,_,_,_,_,_,_,_,_,_,_,_,_,_,_,_,_,_,_,_,_,_,_,_,_,_,_,_,_,_,_,_,_,_,_,_,_,_,_,_,_,_,_,_,_,_,_,_,_,_,_,_,_,_,_,_,_,_,_,_,_,_,_,_,_,_,_,_,_,_,_,_,_,_,_,_,rfl,jY _,rfl,A7.o,T7.o⟩
    .obtain⟨m,wz,u3,u4,u5,u6,u9,gU,gH,gK,gF,gJ,gI,u16,iH,kO,kH,jO,iM,iE,gY,iD,iJ,iC,iI,iO,iK,jH,jI,u32,iG,iB,iF,iA,kV,kN,iL,gZ,iN,iZ,iX,iP,iS,iY,jB,jC,iV,iT,iW,mJ,mE,lB,lA,kJ,kK,kR,kT,kP,jZ,j6,j8,u64,j7,kF,kD,j9,kY,kI,kL,j5,zb0,zc9,zbI,zc3,Z2,zaW,zb3,rfl,O1,Cm,az,tz⟩:=hs
     have A8:=aD az;have T8:=aD tz;clear az tz A7 T7;refine CW.sq H ?_;refine CW.sq H ?_;refine CW.pQ H Bh (λziJ Q HQ=>?_);obtain⟨w9,Hy⟩:=aU (Tt.tp wz ziJ 0);have A9:=aD (show bE w9 lo hb v6 {d with r:={d.r with recs:=d.r.recs++[⟨c.c,(i:Int)+1,0,d.r.clk,-1,-1,eM⟩]}} by rw[Hy];exact A8.o.tp ziJ 0);have T9:=aD (show bM hb v w v6 w9 by rw[Hy];exact T8.o.tp ziJ 0)
     try dsimp only
     rw[<-Hy];clear Hy A8 T8;have hW:=A9.o.W;rw[Ba.o] at hW;have k7:w9.cell? ⟨hb,7,none⟩=some (.slice AW d.r.wait.length cW):=by
      have:=aJ A9.o.blk 7;rw[this,<-Ba.o];rfl
     refine wp_RI9 k7 (Ak hW aH) rfl J8 O1 ⟨vV,ziT⟩ λzxG zwH zpR zqS z46 zrf zrk z49 zsO z51 zvU z53 zyb zsJ zrt zup zyc z59=>?_;refine HQ.o _ _ ?_;clear HQ hW k7;by_cases aN:m<yT d.r.wait c.p
     .simp only[aN,decide_true]
      refine CW.cd H true ?_;refine CW.sk H ?_;dsimp only;refine CW.block H ?_;refine CW.pQ H Bh (λV5 Q HQ=>?_);obtain⟨vZ,Cy⟩:=aU (Tt.tp w9 V5 0);have sM:=aD (show bE vZ lo hb v6 {d with r:={d.r with recs:=d.r.recs++[⟨c.c,(i:Int)+1,0,d.r.clk,-1,-1,eM⟩]}} by rw[Cy];exact A9.o.tp V5 0);have wY:=aD (show bM hb v w v6 vZ by rw[Cy];exact T9.o.tp V5 0)
      try dsimp only
      rw[<-Cy];clear Cy A9 T9;have zAW:m<=1000:=by have:=zfs d.r.wait c.p;omega
      go_wp2;refine HQ.o _ _ ?_;refine⟨yT d.r.wait c.p-(m+1),aC,m+1,vZ,_,_,_,_,_,_,_,_,_,_,_,_,_,_,_,_,_,_,_,_,_,_,_,_,_,_,_,_,_,_,_,_,_,_,_,_,_,_,_,_,_,_,_,_,_,_,_,_,_,_,_,_,_,_,_,_,_,_,_,_,_,_,_,_,_,_,_,_,_,_,_,_,_,_,_,rfl,aC,rfl,sM.o,wY.o⟩
     .simp only[aN,decide_false]
      refine CW.cd H false ?_;refine CW.exit H aQ ?_;dsimp only;rw[if_pos rfl];have Oe:m=yT d.r.wait c.p:=aC;have zzc:=aD Oe;have zAW:m<=1000:=by have:=zfs d.r.wait c.p;omega
      have zc1:m<=d.r.wait.length:=by have:=zfs d.r.wait c.p;omega
      clear Oe aN O1 Cm;have zyP:=aD (show w9.ownsRow lo 149 2 (.slice AW d.r.wait.length cW) d.r.wait.length (bF d.r.wait) by have:=A9.o.W;rw[Ba.o] at this;exact this);have k7:w9.cell? ⟨hb,7,none⟩=some (.slice AW d.r.wait.length cW):=by
       have:=aJ A9.o.blk 7;rw[this,<-Ba.o];rfl
      refine CW.sq H ?_;refine CW.rg H [0,1,2,3,4,5,6,7,8,9,10,11,12,13] ?_;refine CR.mv H (.pointer (some ⟨hb,0,none⟩)) ?_;refine CR.mv H (.pointer (some ⟨hb,0,none⟩)) ?_;refine CR.mv H (.pointer (some ⟨hb,0,none⟩)) ?_;refine CR.mg H (.pointer (some ⟨hb,7,none⟩)) ?_;refine nP ?_;refine CR.mv H (.slice AW d.r.wait.length cW) ?_ (hx:=λT=>by have hh:(Tt.tp w9 T 0).cell? _=_:=k7;unfold aS;go_simp);refine CR.mv H (.int .i64 (m:Int)) ?_;refine CR.mv H (.int .i64 c.c) ?_;refine CR.mv H (.int .i64 c.p) ?_;refine CR.mv H (.agg #[.int .i64 c.c,.int .i64 c.p]) ?_ (hx:=λT=>by unfold aS;go_simp;try rfl);refine CR.op H zG2 rfl aP (λT=>⟨.slice (some ⟨w9.heap.size,0,none⟩) 1 1,(Tt.tp w9 T 0).alloc (.cells #[.int .i64 c.c,.int .i64 c.p] 149),.inl Pn,?_⟩);simp only[cC,gE,dV,dW];obtain⟨wa,xB⟩:=aU ((Tt.tp w9 T 0).alloc (.cells #[.int .i64 c.c,.int .i64 c.p] 149));have sM:=aD (show bE wa lo hb v6 {d with r:={d.r with recs:=d.r.recs++[⟨c.c,(i:Int)+1,0,d.r.clk,-1,-1,eM⟩]}} by rw[xB];exact(A9.o.tp T 0).alloc _);have wY:=aD (show bM hb v w v6 wa by rw[xB];exact(T9.o.tp T 0).trans (bM.below (dS (eF _ _) _)));have HV:=aD (show wa.heap[w9.heap.size]? =some (.cells #[.int .i64 c.c,.int .i64 c.p] 149) by rw[xB];exact lQ _ _);have zyg:=aD (show wa.ownsRow lo 149 2 (.slice AW d.r.wait.length cW) d.r.wait.length (bF d.r.wait) by have:=sM.o.W;rw[Ba.o] at this;exact this);have aT:(U7 AW d.r.wait.length cW).ownBlock≠some w9.heap.size:=λe=>by have:=(zyP.o.lt _ e).2;omega
      have zyJ:lo<=wa.heap.size:=eG Mg.o wY.o.size;rw[<-xB];clear xB A9 T9 k7;refine CR.cl H (zEe H (x:=c) zyg.o zyJ J8 zc1 HV.o aT) (λK' l' y wb hl oR=>?_);obtain⟨rfl,g2,c2,rfl,oA,zhQ,eY⟩:=oR;simp only[cC,gE,dV,dW];have Rw:({wb with heap:=wa.heap}:aE).grownBy wb v6.sW.ownBlock:=⟨rfl,rfl,rfl,zhQ.size,λb bZ hn=>zhQ.block b bZ (by rw[<-Ba.o];exact hn)⟩;have a0:bE ({wb with heap:=wa.heap}:aE) lo hb v6 {d with r:={d.r with recs:=d.r.recs++[⟨c.c,(i:Int)+1,0,d.r.clk,-1,-1,eM⟩]}}:=sM.o.same rfl;have zio:d.r.wait.take m++c::d.r.wait.drop m=tN d.r.wait c:=by rw[zCN,zzc.o]
      rw[zio] at oA;obtain⟨a6,t6⟩:=a0.putW Rw oA (by rw[<-zio];simp;omega) (by rw[Ba.o];exact eY.imp (λe=>e) (λe b bZ=>by have rF:g2=b:=cE bZ;show wa.heap.size<=b;rw[<-rF];exact e));have zcf:=(a0.other (j:=5) (c:=7) (x:=v6.sW) rfl aH Rw (.slice (some ⟨g2,0,none⟩) (d.r.wait.length+1) c2)).2;have zoV:wb.cell? ⟨hb,7,none⟩=some (.slice AW d.r.wait.length cW):=by
       have:=aJ (zcf.trans a0.blk) 7;rw[this,<-Ba.o];rfl
      have zxh:=eJ (zcf.trans a0.blk) 7;have Fi:=aD (wY.o.trans ((bM.refl (v:=v6) (w:=wa) (hb:=hb)).same (x:={wb with heap:=wa.heap}) rfl|>.trans t6));have Av:=aD a6;clear a6 t6 a0 Rw zcf oA zhQ eY sM wY HV zyg aT zio;refine nP ?_;refine CR.mv H (.pointer (some ⟨hb,0,none⟩)) ?_;refine CR.mg H (.pointer (some ⟨hb,7,none⟩)) ?_;refine CR.sto H zA5 rfl aP rfl (w':=wb.setCell ⟨hb,7,none⟩ (.slice (some ⟨g2,0,none⟩) (d.r.wait.length+1) c2)) (λT=>by have hh:(Tt.tp wb T 0).cell? _=_:=zoV;have hf:(Tt.tp wb T 0).frozen? _=_:=zxh;unfold aS;go_simp;try rfl) ?_;obtain⟨wc,zdQ⟩:=aU (wb.setCell ⟨hb,7,none⟩ (.slice (some ⟨g2,0,none⟩) (d.r.wait.length+1) c2));have zcM:=aD (show bE wc lo hb {v6 with sW:=.slice (some ⟨g2,0,none⟩) (d.r.wait.length+1) c2} {d with r:={d.r with recs:=d.r.recs++[⟨c.c,(i:Int)+1,0,d.r.clk,-1,-1,eM⟩],wait:=tN d.r.wait c}} by rw[zdQ];exact Av.o);have zaj:=aD (show bM hb v w {v6 with sW:=.slice (some ⟨g2,0,none⟩) (d.r.wait.length+1) c2} wc by rw[zdQ];exact Fi.o);dsimp only;rw[<-zdQ];clear zdQ Av Fi zoV zxh;refine CR.nil H ?_;have Ea:=P3 (c:=(i:Int)+1) aC aC;refine CW.sq H (CW.pW H Bh zcM zaj λzhy Q zoH zbE zcv HQ=>?_)
      go_wp2_with (go_at_call 112;refine(zhE ((i:Int)+1) aC aC _).mono ?_;rintro en zhh ⟨rfl,zFH⟩;obtain rfl:=zFH)
      refine HQ.o _ _ ?_;clear HQ;refine CW.rt H ?_;refine⟨.inr rfl,rfl,.string ⟨([108,105,110,101,32]++jM ((i:Int)+1)).toArray⟩,(by have ee:(⟨#[108,105,110,101,32]⟩:ByteArray)++⟨(jM ((i:Int)+1)).toArray⟩=⟨([108,105,110,101,32]++jM ((i:Int)+1)).toArray⟩:=(by simp[I9]);rw[<-ee];rfl),⟨rfl,by rw[cK.o],{v6 with sW:=.slice (some ⟨g2,0,none⟩) (d.r.wait.length+1) c2},?_,?_,?_,⟨P6.o.2.2.2.1,P6.o.2.2.2.2.1,P6.o.2.2.2.2.2.2.2.1,P6.o.2.2.2.2.2.2.2.2⟩⟩⟩
      .rw[cK.o];exact zbE.o
      .rw[cK.o];refine gC.of zBB.o ?_ ?_ ?_ ?_ ?_<;>rfl
      .exact zcv.o
structure EvPre (lo hb:Nat)(v:fL)(d:nQ)(w:aE):Prop where
 at_:bE w lo hb v d
 mr:gC v d
 i:yB d
 lo_:lo<=w.heap.size
 tab:zZ lo w
 clk:d.r.clk<=99000
 nbw:d.r.back.length+d.r.wait.length<=5000
def Iu:vX aK 81:=⟨_,ztM,.inr (.inl ⟨_,rfl⟩)⟩
variable {ev:dB}
theorem zIq (H:e.d.Ok)(h:EvPre lo hb v d w)(mH:tE d.r.o.op ev=true)(hW:Co e.W k (pI d.r ev))(hK:∀(i g:Nat),d.qn[i]? =some g->K g (qa e.qs i)):
 CF e.d 81 #[.pointer (some ⟨hb,0,none⟩),.agg #[.string ev.k,.int .i64 ev.a,.int .i64 ev.b]] K (.wk e.qs k) w (λK' l' y w'=>zcd e.qs lo hb v d w k (pI d.r ev).length (eN d.r ev) l' y w'):=by
 refine CF.of 37 ztM (.inr (.inl ⟨_,rfl⟩)) ?_;have A0:=aD h.at_;have T0:=aD (bM.refl (hb:=hb) (v:=v) (w:=w));have HP:=aD h;have HW:=aD hW;have Ve:=(Cs h.i.R.off).2.2.2.1;have Sm:=h.i.nqn;have zcR:Js d.r.o.op ev:=by unfold tE at mH;simpa using mH
 have zgP:=aD zcR;clear h hW mH zcR;refine CW.sq H (CW.pW H Iu A0 T0 λw1 Q fB A1 T1 HQ=>?_);go_wp2;refine HQ.o _ _ ?_;clear HQ;obtain⟨gx,uX⟩:=aU w1.heap.size;obtain⟨w2,fX⟩:=aU (w1.alloc (.cells #[.string ev.k,.int .i64 ev.a,.int .i64 ev.b] 54));have A2:=aD (show bE w2 lo hb v d by rw[fX];exact A1.o.alloc _);have T2:=aD (show bM hb v w v w2 by rw[fX];exact T1.o.trans (bM.below (dS (eF _ _) _)));have zhm:=aD (show w2.heap[gx]? =some (.cells #[.string ev.k,.int .i64 ev.a,.int .i64 ev.b] 54) by rw[fX,uX];exact lQ _ _);rw[<-uX,<-fX];clear fX uX A1 T1;refine CW.sq H ?_;refine CW.sq H (CW.pW H Iu A2 T2 λw3 Q iU A3 T3 HQ=>?_);have vL:=aD (iU▸zhm.o);have kx:=aJ vL.o 0;go_wp2;refine HQ.o _ _ ?_;clear HQ;clear kx;refine CW.block H ?_;by_cases Zm:ev.k.toList=Iz
 .
   have qP:(ev.k.toList==[114,105,110,103])=true:=by rw[Zm];rfl
   have lR:=aD Zm;clear Zm;refine CW.sq H (CW.pW H Iu A3 T3 λw4 Q lN A4 T4 HQ=>?_);have Mi:=aD (lN▸vL.o);go_wp2;refine HQ.o _ _ ?_;clear HQ
   try simp only[qP]
   clear qP;refine CW.cond H (t:=true) rfl Oq ?_;refine CW.sq H ?_;refine CW.rg H [0,1,2,3,4,5,6] ?_;refine CR.mv H (.pointer (some ⟨hb,0,none⟩)) ?_;refine CR.mg H (.pointer (some ⟨gx,1,none⟩)) ?_;refine CR.mv H (.int .i64 ev.a) ?_ (hx:=λT=>by have hh:(Tt.tp w4 T 0).cell? _=_:=aJ Mi.o 1;unfold aS;go_simp);refine CR.mg H (.pointer (some ⟨gx,2,none⟩)) ?_;refine CR.mv H (.int .i64 ev.b) ?_ (hx:=λT=>by have hh:(Tt.tp w4 T 0).cell? _=_:=aJ Mi.o 2;unfold aS;go_simp)
   obtain⟨Px,Ay,Gy,qG⟩:1<=ev.a/\ev.a<=99/\0<=ev.b/\ev.b<=9:=by
    rcases zgP.o with h|h|⟨h,_⟩|h
    .exact h.2
    .rw[h.1] at lR;exact absurd lR.o aH
    .rcases h with h|h<;>(rw[h] at lR;exact absurd lR.o aH)
    .rw[h.1] at lR;exact absurd lR.o aH
   have l9:=aD (show eN d.r ev=qB d.r ⟨ev.a,ev.b⟩ by unfold eN;rw[if_pos lR.o]);have sY:=aD (show pI d.r ev=[] by unfold pI;rw[if_pos lR.o]);refine CR.cl H (cf_ring H (c:=⟨ev.a,ev.b⟩) A4.o HP.o.mr HP.o.i (eG HP.o.lo_ T4.o.size) ⟨Gy,qG⟩) (λK' l' y w' hl oR=>?_);simp only[cC,gE,dV,dW];obtain⟨z1,rfl,z3⟩:=oR;refine nP ?_;refine CR.mv H (.string ⟨(qB d.r ⟨ev.a,ev.b⟩).2.toArray⟩) ?_;refine CR.nil H ?_;refine CW.rt H ?_;obtain⟨v',z4,z5,z6,z7⟩:=z3;refine⟨.inr rfl,rfl,.string ⟨(qB d.r ⟨ev.a,ev.b⟩).2.toArray⟩,rfl,⟨by rw[sY.o];exact z1,by rw[l9.o],v',by rw[l9.o];exact z4,by rw[l9.o];exact z5,T4.o.trans z6,z7⟩⟩
 .
   have qP:(ev.k.toList==[114,105,110,103])=false:=by
    have hz:¬ev.k.toList=[114,105,110,103]:=Zm;simpa using hz
   have zlg:=aD Zm;clear Zm;refine CW.sq H (CW.pW H Iu A3 T3 λw4 Q lN A4 T4 HQ=>?_);have Mi:=aD (lN▸vL.o);go_wp2;refine HQ.o _ _ ?_;clear HQ
   try simp only[qP]
   clear qP;refine CW.cond H (t:=false) rfl Oq ?_;by_cases Zi:ev.k.toList=K8
   .
     have qP:(ev.k.toList==[104,97,110,103])=true:=by rw[Zi];rfl
     have lR:=aD Zi;clear Zi;refine CW.sq H (CW.pW H Iu A4 T4 λw5 Q nY A5 T5 HQ=>?_);have Di:=aD (nY▸Mi.o);go_wp2;refine HQ.o _ _ ?_;clear HQ
     try simp only[qP]
     clear qP;refine CW.cond H (t:=true) rfl Oq ?_;refine CW.sq H ?_;refine CW.rg H [0,1,2,3,4] ?_;refine CR.mv H (.pointer (some ⟨hb,0,none⟩)) ?_;refine CR.mg H (.pointer (some ⟨gx,1,none⟩)) ?_;refine CR.mv H (.int .i64 ev.a) ?_ (hx:=λT=>by have hh:(Tt.tp w5 T 0).cell? _=_:=aJ Di.o 1;unfold aS;go_simp);have O4:Co e.W k (Dr d.r ev.a):=by
      have:=HW.o;unfold pI at this;rw[if_neg yG,if_neg yG,if_neg yG,if_pos lR.o] at this;exact this
     have l9:=aD (show eN d.r ev=mD d.r ev.a by unfold eN;rw[if_neg yG,if_neg yG,if_neg yG,if_pos lR.o]);have sY:=aD (show pI d.r ev=Dr d.r ev.a by unfold pI;rw[if_neg yG,if_neg yG,if_neg yG,if_pos lR.o]);refine CR.cl H (cf_hang H A5.o HP.o.mr HP.o.i (eG HP.o.lo_ T5.o.size) O4 hK) (λK' l' y w' hl oR=>?_);simp only[cC,gE,dV,dW];obtain⟨z1,rfl,z3⟩:=oR;refine nP ?_;refine CR.mv H (.string ⟨(mD d.r ev.a).2.toArray⟩) ?_;refine CR.nil H ?_;refine CW.rt H ?_;obtain⟨v',z4,z5,z6,z7⟩:=z3;refine⟨.inr rfl,rfl,.string ⟨(mD d.r ev.a).2.toArray⟩,rfl,⟨by rw[sY.o];exact z1,by rw[l9.o],v',by rw[l9.o];exact z4,by rw[l9.o];exact z5,T5.o.trans z6,z7⟩⟩
   .
     have qP:(ev.k.toList==[104,97,110,103])=false:=by
      have hz:¬ev.k.toList=[104,97,110,103]:=Zi;simpa using hz
     have zh6:=aD Zi;clear Zi;refine CW.sq H (CW.pW H Iu A4 T4 λw5 Q nY A5 T5 HQ=>?_);have Di:=aD (nY▸Mi.o);go_wp2;refine HQ.o _ _ ?_;clear HQ
     try simp only[qP]
     clear qP;refine CW.cond H (t:=false) rfl Oq ?_;by_cases Ws:ev.k.toList=Hp
     .
       have qP:(ev.k.toList==[97,110,115,119,101,114])=true:=by rw[Ws];rfl
       have lR:=aD Ws;clear Ws;refine CW.sq H (CW.pW H Iu A5 T5 λw6 Q pB A6 T6 HQ=>?_);have K6:=aD (pB▸Di.o);go_wp2;refine HQ.o _ _ ?_;clear HQ
       try simp only[qP]
       clear qP;refine CW.cond H (t:=true) rfl Oq ?_;refine CW.sq H ?_;refine CW.rg H [0,1,2,3,4] ?_;refine CR.mv H (.pointer (some ⟨hb,0,none⟩)) ?_;refine CR.mg H (.pointer (some ⟨gx,1,none⟩)) ?_;refine CR.mv H (.int .i64 ev.a) ?_ (hx:=λT=>by have hh:(Tt.tp w6 T 0).cell? _=_:=aJ K6.o 1;unfold aS;go_simp)
       obtain⟨Px,Ay⟩:1<=ev.a/\ev.a<=d.r.o.op:=by
        rcases zgP.o with h|h|⟨_,h⟩|h
        .rw[h.1] at lR;exact absurd lR.o aH
        .rw[h.1] at lR;exact absurd lR.o aH
        .exact⟨h.1,h.2.1⟩
        .rw[h.1] at lR;exact absurd lR.o aH
       obtain⟨q,mB⟩:∃q:Nat,ev.a=(q:Int)+1:=⟨(ev.a-1).toNat,aC⟩;have hq:q<d.qn.length:=aC;have yF:q<=100:=aC;have O4:Co e.W k (Gu d.r ((q:Int)+1)):=by
        have:=HW.o;unfold pI at this;rw[if_neg yG,if_pos lR.o,mB] at this;exact this
       have l9:=aD (show eN d.r ev=nU d.r ((q:Int)+1) by unfold eN;rw[if_neg yG,if_pos lR.o,mB]);have sY:=aD (show pI d.r ev=Gu d.r ((q:Int)+1) by unfold pI;rw[if_neg yG,if_pos lR.o,mB]);rw[mB];refine CR.cl H (cf_pick H A6.o HP.o.mr HP.o.i O4 hq yF hK) (λK' l' y w' hl oR=>?_);simp only[cC,gE,dV,dW];obtain⟨z1,rfl,z3⟩:=oR;refine nP ?_;refine CR.mv H (.string ⟨(nU d.r ((q:Int)+1)).2.toArray⟩) ?_;refine CR.nil H ?_;refine CW.rt H ?_;obtain⟨v',z4,z5,z6,z7⟩:=z3;refine⟨.inr rfl,rfl,.string ⟨(nU d.r ((q:Int)+1)).2.toArray⟩,rfl,⟨by rw[sY.o];exact z1,by rw[l9.o],v',by rw[l9.o];exact z4,by rw[l9.o];exact z5,T6.o.trans z6,z7⟩⟩
     .
       have qP:(ev.k.toList==[97,110,115,119,101,114])=false:=by
        have hz:¬ev.k.toList=[97,110,115,119,101,114]:=Ws;simpa using hz
       have zi4:=aD Ws;clear Ws;refine CW.sq H (CW.pW H Iu A5 T5 λw6 Q pB A6 T6 HQ=>?_);have K6:=aD (pB▸Di.o);go_wp2;refine HQ.o _ _ ?_;clear HQ
       try simp only[qP]
       clear qP;refine CW.cond H (t:=false) rfl Oq ?_;by_cases Y2:ev.k.toList=Hs
       .
         have qP:(ev.k.toList==[114,101,116,117,114,110])=true:=by rw[Y2];rfl
         have lR:=aD Y2;clear Y2;refine CW.sq H (CW.pW H Iu A6 T6 λw7 Q rG A7 T7 HQ=>?_);have Hb:=aD (rG▸K6.o);go_wp2;refine HQ.o _ _ ?_;clear HQ
         try simp only[qP]
         clear qP;refine CW.cond H (t:=true) rfl Oq ?_;refine CW.sq H ?_;refine CW.rg H [0,1,2,3,4] ?_;refine CR.mv H (.pointer (some ⟨hb,0,none⟩)) ?_;refine CR.mg H (.pointer (some ⟨gx,1,none⟩)) ?_;refine CR.mv H (.int .i64 ev.a) ?_ (hx:=λT=>by have hh:(Tt.tp w7 T 0).cell? _=_:=aJ Hb.o 1;unfold aS;go_simp)
         obtain⟨Px,Ay⟩:1<=ev.a/\ev.a<=d.r.o.op:=by
          rcases zgP.o with h|h|⟨_,h⟩|h
          .rw[h.1] at lR;exact absurd lR.o aH
          .rw[h.1] at lR;exact absurd lR.o aH
          .exact⟨h.1,h.2.1⟩
          .rw[h.1] at lR;exact absurd lR.o aH
         obtain⟨q,mB⟩:∃q:Nat,ev.a=(q:Int)+1:=⟨(ev.a-1).toNat,aC⟩;have hq:q<d.qn.length:=aC;have yF:q<=100:=aC;have O4:Co e.W k (Cz d.r ((q:Int)+1)):=by
          have:=HW.o;unfold pI at this;rw[if_neg yG,if_neg yG,if_pos lR.o,mB] at this;exact this
         have l9:=aD (show eN d.r ev=l8 d.r ((q:Int)+1) by unfold eN;rw[if_neg yG,if_neg yG,if_pos lR.o,mB]);have sY:=aD (show pI d.r ev=Cz d.r ((q:Int)+1) by unfold pI;rw[if_neg yG,if_neg yG,if_pos lR.o,mB]);rw[mB];refine CR.cl H (cf_back H A7.o HP.o.mr HP.o.i (eG HP.o.lo_ T7.o.size) O4 hq yF hK) (λK' l' y w' hl oR=>?_);simp only[cC,gE,dV,dW];obtain⟨z1,rfl,z3⟩:=oR;refine nP ?_;refine CR.mv H (.string ⟨(l8 d.r ((q:Int)+1)).2.toArray⟩) ?_;refine CR.nil H ?_;refine CW.rt H ?_;obtain⟨v',z4,z5,z6,z7⟩:=z3;refine⟨.inr rfl,rfl,.string ⟨(l8 d.r ((q:Int)+1)).2.toArray⟩,rfl,⟨by rw[sY.o];exact z1,by rw[l9.o],v',by rw[l9.o];exact z4,by rw[l9.o];exact z5,T7.o.trans z6,z7⟩⟩
       .
         have qP:(ev.k.toList==[114,101,116,117,114,110])=false:=by
          have hz:¬ev.k.toList=[114,101,116,117,114,110]:=Y2;simpa using hz
         have zk3:=aD Y2;clear Y2;refine CW.sq H (CW.pW H Iu A6 T6 λw7 Q rG A7 T7 HQ=>?_);have Hb:=aD (rG▸K6.o);go_wp2;refine HQ.o _ _ ?_;clear HQ
         try simp only[qP]
         clear qP;refine CW.cond H (t:=false) rfl Oq ?_;refine CW.sk H ?_;dsimp only
         obtain⟨Px,Ay⟩:1<=ev.a/\ev.a<=60:=by
          rcases zgP.o with h|h|⟨h,_⟩|h
          .exact absurd h.1 zlg.o
          .exact absurd h.1 zh6.o
          .rcases h with h|h
           .exact absurd h zi4.o
           .exact absurd h zk3.o
          .exact⟨h.2.1,h.2.2.1⟩
         have l9:=aD (show eN d.r ev=uY d.r ev.a by unfold eN;rw[if_neg zlg.o,if_neg zi4.o,if_neg zk3.o,if_neg zh6.o]);have sY:=aD (show pI d.r ev=[] by unfold pI;rw[if_neg zlg.o,if_neg zi4.o,if_neg zk3.o,if_neg zh6.o]);have zCy:=aD (λW (t:bM hb v w v W)=>HP.o.tab.turn HP.o.at_ HP.o.lo_ t);refine CW.sq H (CW.pW H Iu A7 T7 λw8 Q Hr A8 T8 HQ=>?_);have H6:=aD (Hr▸Hb.o);have kx:=aJ H6.o 1;have zJY:=aJ H6.o 0
         go_wp2_with (go_at_call 105;refine(zH9 A8.o HP.o.mr HP.o.i (eG HP.o.lo_ T8.o.size) (zCy.o _ T8.o) aC (by have:=HP.o.clk;omega) HP.o.nbw).mono ?_;rintro en wz ⟨rfl,z3⟩;have Z3:=aD z3;clear z3)
         refine HQ.o _ _ ?_;clear HQ;refine CW.rt H ?_;obtain⟨v',z4,z5,z6,z7⟩:=Z3.o;refine⟨.inr rfl,rfl,.string ⟨(uY d.r ev.a).2.toArray⟩,rfl,⟨by rw[sY.o];rfl,by rw[l9.o],v',by rw[l9.o];exact z4,by rw[l9.o];exact z5,T8.o.trans z6,z7⟩⟩
section
variable {ops:Array aZ}{ch:List Nat}{V0:Nat->aF}{vs:List aF}{t0 t:Array aF}
variable {s:Tmp}
theorem qL (KO:Lw ops){i:Nat}{o:aZ}{v:aF}(ho:ops[i]? =some o)(hd:o.dst=some s)(hz:s<t0.size)(hv:VV ch V0 vs i=v):(dC ops (VV ch V0 vs) t0).getD s aA=v:=by
 have h:=(Tg (vals:=VV ch V0 vs) (t0:=t0) KO).got i o s ho hd hz (by simp[(dO.1 ho).1]);rw[tZ,h,hv];rfl
theorem zgD (KO:Lw ops)(hs:Ha ops s=false):(dC ops (VV ch V0 vs) t0).getD s aA=t0.getD s undef:=by
 rw[tZ,(Tg (vals:=VV ch V0 vs) (t0:=t0) KO).old s (λi o h1 _ h2=>by rw[zih h1 h2] at hs;cases hs),tZ]
theorem F7 {o:aZ}(lW:∀s∈o.looksAt ops,t[s]? =(dC ops (VV ch V0 vs) t0)[s]?)(hs:s∈o.looksAt ops){v:aF}(h:(dC ops (VV ch V0 vs) t0).getD s aA=v):(bH t []).eval (.tmp s)=v:=by
 have e:(bH t []).eval (.tmp s)=t.getD s undef:=rfl;rw[e,tZ,lW s hs,<-tZ];exact h
end
def zlm:Go.Code:=(Tryz.f58.body).getD .skip
def rWO3:Go.Code:=match zlm with| .seq (.seq _ (.block _ (.loop (.seq _ (.seq _ (.seq (.block _ (.seq _ (a))) _)))))) _=>a|_=>.skip
def rWO8:Go.Code:=match zlm with| .seq _ (.seq _ (.block _ (.loop (.seq _ (.seq _ (.seq (.block _ (.seq _ (.seq (a) _))) _))))))=>a|_=>.skip
def rWO9:Go.Code:=match zlm with| .seq _ (.seq _ (.block _ (.loop (.seq _ (.seq _ (.seq (.block _ (.seq _ (.seq _ (a)))) _))))))=>a|_=>.skip
def oQ:Array Oper:=match rWO3 with| .region _ ops _=>ops|_=>#[]
def rWO3_eq:rWO3=.region 3 oQ true:=rfl
abbrev zye:Oper:=⟨some 14,.move (.tmp 0),63,"l6_office.go:253",#[],none⟩
def zCe:oQ[0]? =some zye:=rfl
abbrev zww:Oper:=⟨some 15,.move (.tmp 0),63,"l6_office.go:253",#[],none⟩
def zzI:oQ[1]? =some zww:=rfl
abbrev zyp:Oper:=⟨some 16,.nilCheck (.tmp 15),0,"l6_office.go:253",#[⟨1,.data⟩],none⟩
def zD0:oQ[2]? =some zyp:=rfl
abbrev zqs:Oper:=⟨some 17,.fieldAddr 72 (.tmp 16) 10,0,"l6_office.go:253",#[⟨2,.data⟩],none⟩
def zBl:oQ[3]? =some zqs:=rfl
abbrev zsV:Oper:=⟨some 18,.load 26 (.tmp 17),26,"l6_office.go:253",#[⟨3,.data⟩],none⟩
def zyQ:oQ[4]? =some zsV:=rfl
abbrev zwJ:Oper:=⟨some 19,.move (.tmp 0),63,"l6_office.go:253",#[],none⟩
def zEb:oQ[5]? =some zwJ:=rfl
abbrev zn5:Oper:=⟨some 20,.load 54 (.tmp 5),54,"l6_office.go:253",#[],none⟩
def zDU:oQ[6]? =some zn5:=rfl
abbrev zvo:Oper:=⟨some 21,.call ⟨.value (.func 81),#[.tmp 19,.tmp 20],#[63,54]⟩,9,"l6_office.go:253",#[⟨5,.data⟩,⟨6,.data⟩],none⟩
def zm5:oQ[7]? =some zvo:=rfl
abbrev ziI:Oper:=⟨some 22,.buildSlice 26 1 #[(0,.tmp 21)],26,"l6_office.go:253",#[⟨7,.data⟩],none⟩
def zge:oQ[8]? =some ziI:=rfl
abbrev zsz:Oper:=⟨some 23,.call ⟨.builtin .append,#[.tmp 18,.tmp 22],#[26,26]⟩,26,"l6_office.go:253",#[⟨4,.data⟩,⟨8,.data⟩,⟨7,.chain⟩],none⟩
def zjY:oQ[9]? =some zsz:=rfl
abbrev zuz:Oper:=⟨some 24,.nilCheck (.tmp 14),0,"l6_office.go:253",#[⟨0,.data⟩,⟨0,.phase⟩,⟨1,.phase⟩,⟨2,.phase⟩,⟨3,.phase⟩,⟨4,.phase⟩,⟨5,.phase⟩,⟨6,.phase⟩,⟨7,.phase⟩,⟨8,.phase⟩,⟨9,.phase⟩],none⟩
def zF3:oQ[10]? =some zuz:=rfl
abbrev zqV:Oper:=⟨some 25,.fieldAddr 72 (.tmp 24) 10,0,"l6_office.go:253",#[⟨10,.data⟩,⟨0,.phase⟩,⟨1,.phase⟩,⟨2,.phase⟩,⟨3,.phase⟩,⟨4,.phase⟩,⟨5,.phase⟩,⟨6,.phase⟩,⟨7,.phase⟩,⟨8,.phase⟩,⟨9,.phase⟩],none⟩
def zGw:oQ[11]? =some zqV:=rfl
abbrev zmK:Oper:=⟨none,.store 26 (.tmp 25) (.tmp 23),0,"l6_office.go:253",#[⟨11,.data⟩,⟨9,.data⟩,⟨9,.chain⟩,⟨0,.phase⟩,⟨1,.phase⟩,⟨2,.phase⟩,⟨3,.phase⟩,⟨4,.phase⟩,⟨5,.phase⟩,⟨6,.phase⟩,⟨7,.phase⟩,⟨8,.phase⟩,⟨9,.phase⟩],none⟩
def ziM:oQ[12]? =some zmK:=rfl
def n8:Array Oper:=match rWO8 with| .region _ ops _=>ops|_=>#[]
def rWO8_eq:rWO8=.region 8 n8 true:=rfl
abbrev zuy:Oper:=⟨some 37,.move (.tmp 0),63,"l6_office.go:256",#[],none⟩
def zBw:n8[0]? =some zuy:=rfl
abbrev zxl:Oper:=⟨some 38,.move (.tmp 0),63,"l6_office.go:256",#[],none⟩
def zDu:n8[1]? =some zxl:=rfl
abbrev zrB:Oper:=⟨some 39,.nilCheck (.tmp 38),0,"l6_office.go:256",#[⟨1,.data⟩],none⟩
def zDQ:n8[2]? =some zrB:=rfl
abbrev zwG:Oper:=⟨some 40,.fieldAddr 72 (.tmp 39) 11,0,"l6_office.go:256",#[⟨2,.data⟩],none⟩
def zAs:n8[3]? =some zwG:=rfl
abbrev zpb:Oper:=⟨some 41,.load 38 (.tmp 40),38,"l6_office.go:256",#[⟨3,.data⟩],none⟩
def zzd:n8[4]? =some zpb:=rfl
abbrev zxt:Oper:=⟨some 42,.move (.tmp 0),63,"l6_office.go:256",#[],none⟩
def zJK:n8[5]? =some zxt:=rfl
abbrev zr3:Oper:=⟨some 43,.move (.tmp 6),3,"l6_office.go:256",#[],none⟩
def zJI:n8[6]? =some zr3:=rfl
abbrev ziS:Oper:=⟨some 44,.binOp .add 3 (.tmp 43) (.const (.int .i64 1)) 3,3,"l6_office.go:256",#[⟨6,.data⟩],none⟩
def zF2:n8[7]? =some ziS:=rfl
abbrev zvj:Oper:=⟨some 45,.call ⟨.value (.func 82),#[.tmp 42,.tmp 44,.const (.int .i64 0),.const (.int .i64 0)],#[63,3,3,3]⟩,3,"l6_office.go:256",#[⟨5,.data⟩,⟨7,.data⟩],none⟩
def znj:n8[8]? =some zvj:=rfl
abbrev znv:Oper:=⟨some 46,.buildSlice 38 1 #[(0,.tmp 45)],38,"l6_office.go:256",#[⟨8,.data⟩],none⟩
def zdv:n8[9]? =some znv:=rfl
abbrev zov:Oper:=⟨some 47,.call ⟨.builtin .append,#[.tmp 41,.tmp 46],#[38,38]⟩,38,"l6_office.go:256",#[⟨4,.data⟩,⟨9,.data⟩,⟨8,.chain⟩],none⟩
def zjr:n8[10]? =some zov:=rfl
abbrev zrD:Oper:=⟨some 48,.nilCheck (.tmp 37),0,"l6_office.go:256",#[⟨0,.data⟩,⟨0,.phase⟩,⟨1,.phase⟩,⟨2,.phase⟩,⟨3,.phase⟩,⟨4,.phase⟩,⟨5,.phase⟩,⟨6,.phase⟩,⟨7,.phase⟩,⟨8,.phase⟩,⟨9,.phase⟩,⟨10,.phase⟩],none⟩
def zHv:n8[11]? =some zrD:=rfl
abbrev zpj:Oper:=⟨some 49,.fieldAddr 72 (.tmp 48) 11,0,"l6_office.go:256",#[⟨11,.data⟩,⟨0,.phase⟩,⟨1,.phase⟩,⟨2,.phase⟩,⟨3,.phase⟩,⟨4,.phase⟩,⟨5,.phase⟩,⟨6,.phase⟩,⟨7,.phase⟩,⟨8,.phase⟩,⟨9,.phase⟩,⟨10,.phase⟩],none⟩
def zFz:n8[12]? =some zpj:=rfl
abbrev znP:Oper:=⟨none,.store 38 (.tmp 49) (.tmp 47),0,"l6_office.go:256",#[⟨12,.data⟩,⟨10,.data⟩,⟨10,.chain⟩,⟨0,.phase⟩,⟨1,.phase⟩,⟨2,.phase⟩,⟨3,.phase⟩,⟨4,.phase⟩,⟨5,.phase⟩,⟨6,.phase⟩,⟨7,.phase⟩,⟨8,.phase⟩,⟨9,.phase⟩,⟨10,.phase⟩],none⟩
def zls:n8[13]? =some znP:=rfl
def opsWO9:Array Oper:=match rWO9 with| .region _ ops _=>ops|_=>#[]
abbrev oWO9_1:Oper:=⟨none,.call ⟨.builtin .close,#[.tmp 50],#[95]⟩,0,"l6_office.go:257",#[⟨0,.data⟩],none⟩
def zIh:opsWO9[1]? =some oWO9_1:=rfl
def O3:vX aK 58:=⟨_,zkv,.inl rfl⟩
def zCY:(aK.info? 9).map (λi=>(i.zero,i.size,i.bytes))=some (some (.string ⟨#[]⟩),1,16):=aP
variable {V:Nat->aF}{Tf:Array aF}
theorem bs3 {s:ByteArray}(hT:xA Tf V)(zKO:V 21=.string s):(aS (bH Tf []).eval ziI).run aK w=.ok (.value (.slice (some ⟨w.heap.size,0,none⟩) 1 1)) (w.alloc (.cells #[.string s] 9)):=by
 unfold aS;go_simp
variable {sA:aF}{T:jV}
theorem st3 {q1 q2:Nat}(hT:xA Tf V)(zK3:V 25=.pointer (some ⟨hb,12,none⟩))(zKH:V 23=.slice (some ⟨q1,0,none⟩) n q2)(hh:w.cell? ⟨hb,12,none⟩=some sA)(hf:w.frozen? ⟨hb,12,none⟩=false):(aS (bH Tf []).eval zmK).run aK (Tt.tp w T 0)=.ok .skip (Tt.tp (w.setCell ⟨hb,12,none⟩ (.slice (some ⟨q1,0,none⟩) n q2)) T 0):=by
 have zeZ:(Tt.tp w T 0).cell? ⟨hb,12,none⟩=some sA:=hh;have At:(Tt.tp w T 0).frozen? ⟨hb,12,none⟩=false:=hf;clear hh hf;unfold aS;go_simp
 try rfl
def zsd:It oQ=true:=aP
def zHd:N3 oQ [7,8,9,12]=true:=aP
def zGW:oQ.toList.map (·.dst)=[some 14,some 15,some 16,some 17,some 18,some 19,some 20,some 21,some 22,some 23,some 24,some 25,none]:=rfl
def zJo:oQ.toList=[zye,zww,zyp,zqs,zsV,zwJ,zn5,zvo,ziI,zsz,zuz,zqV,zmK]:=rfl
def Gn (hb gb:Nat)(sA:aF)(ev:dB)(i:Nat):Value:=([.pointer (some ⟨hb,0,none⟩),.pointer (some ⟨hb,0,none⟩),.pointer (some ⟨hb,0,none⟩),.pointer (some ⟨hb,12,none⟩),sA,.pointer (some ⟨hb,0,none⟩),.agg #[.string ev.k,.int .i64 ev.a,.int .i64 ev.b],aA,aA,aA,.pointer (some ⟨hb,0,none⟩),.pointer (some ⟨hb,12,none⟩),aA]:List aF).getD i aA
structure W3 where
 es:Gd
 lo:Nat
 hb:Nat
 gb:Nat
 k:Nat
 v0:fL
 w0:aE
 v:fL
 d:nQ
 ev:dB
 K0:Pr
def W3.P1 (c:W3)(w:aE):Prop:=∃v1,bE w c.lo c.hb v1 {c.d with r:=(eN c.d.r c.ev).1}/\gC v1 {c.d with r:=(eN c.d.r c.ev).1}/\bM c.hb c.v0 c.w0 v1 w/\zL c.v v1/\some c.gb∉parts v1 c.hb
def W3.P2 (c:W3)(w:aE):Prop:=∃v2,bE w c.lo c.hb v2 {c.d with r:=Dy (eN c.d.r c.ev)}/\gC v2 {c.d with r:=Dy (eN c.d.r c.ev)}/\bM c.hb c.v0 c.w0 v2 w/\v2.sL=c.v.sL/\v2.sQ=c.v.sQ
def W3.y (c:W3):Value:=.string ⟨(eN c.d.r c.ev).2.toArray⟩
def W3.Rd (c:W3)(w:aE):Prop:=w.cell? ⟨c.hb,12,none⟩=some c.v.sA/\w.heap[c.gb]? =some (.cells #[.string c.ev.k,.int .i64 c.ev.a,.int .i64 c.ev.b] 54)
def W3.n1 (c:W3):Nat:=c.k+(pI c.d.r c.ev).length
def W3.St (c:W3)(vs:List aF)(l':gQ)(w':aE):Prop:=match vs with
 |[]=>l'=.wk c.es.qs c.k/\EvPre c.lo c.hb c.v c.d w'/\bM c.hb c.v0 c.w0 c.v w'/\some c.gb∉parts c.v c.hb
 |[a]=>l'=.wk c.es.qs c.n1/\a=c.y/\c.P1 w'/\c.lo<=w'.heap.size
 |[a,b]=>l'=.wk c.es.qs c.n1/\(∃g,b=.slice (some ⟨g,0,none⟩) 1 1/\w'.heap[g]? =some (.cells #[c.y] 9))/\c.P1 w'/\c.lo<=w'.heap.size
 |[a,b,x]=>l'=.wk c.es.qs c.n1/\(∃q1 q2,x=.slice (some ⟨q1,0,none⟩) (c.d.r.log.length+1) q2)/\w'.frozen? ⟨c.hb,12,none⟩=false/\c.P2 (w'.setCell ⟨c.hb,12,none⟩ x)
 |_=>l'=.wk c.es.qs c.n1/\c.P2 w'
def SR3 (c:W3)(vs:List aF)(K':Pr)(l':gQ)(w':aE):Prop:=c.K0.le K'/\(vs.length<4->c.Rd w')/\c.St vs l' w'
def EvPre.tp (h:EvPre lo hb v d w)(T:jV)(n:Nat):EvPre lo hb v d (Tt.tp w T n):=⟨h.at_.tp T n,h.mr,h.i,h.lo_,h.tab.keep λ_ _=>rfl,h.clk,h.nbw⟩
variable {c:W3}
theorem W3.P1.tp (h:c.P1 w)(T:jV)(n:Nat):c.P1 (Tt.tp w T n):=by
 obtain⟨v1,a,b,d,e⟩:=h;exact⟨v1,a.tp T n,b,d.tp T n,e⟩
theorem W3.P2.tp (h:c.P2 w)(T:jV)(n:Nat):c.P2 (Tt.tp w T n):=by
 obtain⟨v1,a,b,d,e⟩:=h;exact⟨v1,a.tp T n,b,d.tp T n,e⟩
theorem SR3.tp (vs:List aF)(K':Pr)(l':gQ)(w':aE)(T:jV)(n:Nat)(h:SR3 c vs K' l' w'):SR3 c vs K' l' (Tt.tp w' T n):=by
 obtain⟨h1,h2,h3⟩:=h;refine⟨h1,h2,?_⟩;rcases vs with _|⟨a,_|⟨b,_|⟨x,_|⟨y,vs⟩⟩⟩⟩
 .exact⟨h3.1,h3.2.1.tp T n,h3.2.2.1.tp T n,h3.2.2.2⟩
 .exact⟨h3.1,h3.2.1,h3.2.2.1.tp T n,h3.2.2.2⟩
 .exact⟨h3.1,h3.2.1,h3.2.2.1.tp T n,h3.2.2.2⟩
 .exact⟨h3.1,h3.2.1,h3.2.2.1,W3.P2.tp (w:=w'.setCell _ _) h3.2.2.2 T n⟩
 .exact⟨h3.1,W3.P2.tp h3.2 T n⟩
variable {B:List Nat}{Φ:nZ->WS->Prop}
theorem cw_R3 (H:c.es.d.Ok)(mH:tE c.d.r.o.op c.ev=true)(hW:Co c.es.W c.k (pI c.d.r c.ev))(hK:∀(i g:Nat),c.d.qn[i]? =some g->c.K0 g (qa c.es.qs i))(zm8:(eN c.d.r c.ev).1.log.length<=1000)(zqM:(eN c.d.r c.ev).1.log=c.d.r.log)(hz:t0.size=52)(uD:t0.getD 0 aA=.pointer (some ⟨c.hb,0,none⟩))(zDo:t0.getD 5 aA=.pointer (some ⟨c.gb,0,none⟩))
 (hk:∀vs K' l' w',vs.length=4->SR3 c vs K' l' w'->Φ .normal ⟨[],K',l',dC oQ (VV [7,8,9,12] (Gn c.hb c.gb c.v.sA c.ev) vs) t0,w'⟩) (h0:SR3 c [] K l w):CW c.es.d B 58 rWO3 ⟨[],K,l,t0,w⟩ Φ:=by
 rw[rWO3_eq];have KO:=S3 zsd;refine CW.drawn H vE.mixed [7,8,9,12] (Gn c.hb c.gb c.v.sA c.ev) (SR3 c) zsd zHd J2 (λvs K l w T e h=>SR3.tp vs K l w T e h) (λi o ho hi=>?_) (λvs ci o K' l' w' hc ho hS t rest lW fO=>?_) hk h0
 .have hl:oQ.toList[i]? =some o:=by rw[Ap];exact ho
  rw[zJo] at hl;have aN:i<13:=by have:=(kE.1 hl).1;simpa using this
  have tn:∀(vs:List aF) {j:Nat} {oj:aZ} {s:Tmp} {v:aF},oQ[j]? =some oj->oj.dst=some s->s<t0.size->VV [7,8,9,12] (Gn c.hb c.gb c.v.sA c.ev) vs j=v->(dC oQ (VV [7,8,9,12] (Gn c.hb c.gb c.v.sA c.ev) vs) t0).getD s aA=v:=λvs _ _ _ _ a b c d=>qL KO a b c d;have tq:∀(vs:List aF) {s:Tmp},Ha oQ s=false->(dC oQ (VV [7,8,9,12] (Gn c.hb c.gb c.v.sA c.ev) vs) t0).getD s aA=t0.getD s undef:=λvs _ a=>zgD KO a;rcases i with _|_|_|_|_|_|_|_|_|_|_|_|_|i
  .obtain rfl:=cE hl
   exact⟨aP,λvs K' l' w' hv hS=>⟨eB rfl,uJ (.pointer (some ⟨c.hb,0,none⟩)) ((tq vs aP).trans uD)⟩⟩
  .obtain rfl:=cE hl
   exact⟨aP,λvs K' l' w' hv hS=>⟨eB rfl,uJ (.pointer (some ⟨c.hb,0,none⟩)) ((tq vs aP).trans uD)⟩⟩
  .obtain rfl:=cE hl
   exact⟨aP,λvs K' l' w' hv hS=>⟨eB rfl,uJ (.pointer (some ⟨c.hb,0,none⟩)) (tn vs zzI rfl kQ rfl)⟩⟩
  .obtain rfl:=cE hl
   exact⟨aP,λvs K' l' w' hv hS=>⟨eB rfl,uJ (.pointer (some ⟨c.hb,12,none⟩)) (tn vs zD0 rfl kQ rfl)⟩⟩
  .obtain rfl:=cE hl
   exact⟨aP,λvs K' l' w' hv hS=>⟨eB rfl,rd2 (c.v.sA) (tn vs zBl rfl kQ rfl) (hS.2.1 hv).1⟩⟩
  .obtain rfl:=cE hl
   exact⟨aP,λvs K' l' w' hv hS=>⟨eB rfl,uJ (.pointer (some ⟨c.hb,0,none⟩)) ((tq vs aP).trans uD)⟩⟩
  .obtain rfl:=cE hl
   exact⟨aP,λvs K' l' w' hv hS=>⟨eB rfl,rd4 (.agg #[.string c.ev.k,.int .i64 c.ev.a,.int .i64 c.ev.b]) ((tq vs aP).trans zDo) (aJ (hS.2.1 hv).2 0) (aJ (hS.2.1 hv).2 1) (aJ (hS.2.1 hv).2 2)⟩⟩
  .exact absurd aH hi
  .exact absurd aH hi
  .exact absurd aH hi
  .obtain rfl:=cE hl
   exact⟨aP,λvs K' l' w' hv hS=>⟨eB rfl,uJ (.pointer (some ⟨c.hb,0,none⟩)) (tn vs zCe rfl kQ rfl)⟩⟩
  .obtain rfl:=cE hl
   exact⟨aP,λvs K' l' w' hv hS=>⟨eB rfl,uJ (.pointer (some ⟨c.hb,12,none⟩)) (tn vs zF3 rfl kQ rfl)⟩⟩
  .exact absurd aH hi
  .omega
 .rcases vs with _|⟨a,_|⟨b,_|⟨c',_|⟨d',vs⟩⟩⟩⟩
  .obtain rfl:7=ci:=by simpa using hc
   rw[zm5] at ho;obtain rfl:=cE ho;obtain⟨s1,s2,s3,s4,s5,s6⟩:=hS;have zy1:=F7 lW (s:=19) aH (qL KO zEb rfl kQ rfl);have a20:=F7 lW (s:=20) aH (qL KO zDU rfl kQ rfl);refine CR.call' H #[.pointer (some ⟨c.hb,0,none⟩),.agg #[.string c.ev.k,.int .i64 c.ev.a,.int .i64 c.ev.b]] zm5 (eB rfl) rfl (allx rfl) rfl (by simp only[uS,fK,tL];rw[zy1,a20];rfl) (s3▸zIq H s4 mH hW (λi g hg=>s1 _ _ (hK i g hg))) (λK2 l2 y w2 hl oR=>?_);obtain⟨z1,z2,v1,z3,z4,z5,z6⟩:=oR;have eV:=s4.at_.turned z5 (s2 aQ).2 s6;refine fO y K2 l2 w2 hl ⟨vP s1 hl,λ_=>⟨?_,eV.1⟩,z1,z2,⟨v1,z3,z4,s5.trans z5,z6,eV.2⟩,eG s4.lo_ z5.size⟩;have:=aJ z3.blk 12;rw[this,<-z6.2.2.1];rfl
  .obtain rfl:8=ci:=by simpa using hc
   rw[zge] at ho;obtain rfl:=cE ho;obtain⟨s1,s2,s3,rfl,⟨v1,z3,z4,z5,z6,z7⟩,s6⟩:=hS;have zzx:(dC oQ (VV [7,8,9,12] (Gn c.hb c.gb c.v.sA c.ev) [c.y]) t0).getD 21 aA=c.y:=qL KO zm5 rfl kQ rfl;refine CR.op H zge (eB rfl) aP (λT=>⟨.slice (some ⟨w'.heap.size,0,none⟩) 1 1,(Tt.tp w' T 0).alloc (.cells #[c.y] 9),.inl ?_,?_⟩)
   .rw[Ei (KO.sel 8 _ zge) lW]
    have hT:xA (dC oQ (VV [7,8,9,12] (Gn c.hb c.gb c.v.sA c.ev) [c.y]) t0) (λs=>(dC oQ (VV [7,8,9,12] (Gn c.hb c.gb c.v.sA c.ev) [c.y]) t0).getD s aA):=λs=>rfl;exact bs3 (s:=⟨(eN c.d.r c.ev).2.toArray⟩) hT zzx
   .have al:bM c.hb v1 w' v1 ((Tt.tp w' T 0).alloc (.cells #[c.y] 9)):=(bM.refl.tp T 0).trans (bM.below (dS (eF _ _) _))
    exact fO _ _ _ _ (wX _) ⟨s1,λ_=>⟨Aa (s2 aQ).1 _,dJ (s2 aQ).2 _⟩,s3,⟨_,rfl,lQ _ _⟩,⟨v1,(z3.tp T 0).alloc _,z4,z5.trans al,z6,z7⟩,eG s6 zfh⟩
  .obtain rfl:9=ci:=by simpa using hc
   rw[zjY] at ho;obtain rfl:=cE ho;obtain⟨s1,s2,s3,⟨g,rfl,hg⟩,⟨v1,z3,z4,z5,z6,z7⟩,s6⟩:=hS;have zHM:=F7 lW (s:=18) aH (qL KO zyQ rfl kQ rfl);have zEo:=F7 lW (s:=22) aH (qL KO zge rfl kQ rfl);refine CR.op H zjY (eB rfl) aP (λT=>?_);have a1:=z3.tp T 0;have oA:=a1.A;rw[z6.2.2.1] at oA;obtain⟨q1,q2,w5,fN,cV,nD,eY⟩:=M9 (w:=Tt.tp w' T 0) (t:=26) (ty:=26) zCY Tryz.underlying26 rfl aH oA (g:=g) (cs:=#[c.y]) (news:=[c.y]) hg rfl (m:=1) rfl aH Ng (show(eN c.d.r c.ev).1.log.length+1<=1000000 by omega) aH s6;have Ea:({c.d with r:=(eN c.d.r c.ev).1}:nQ).r.log.length=c.d.r.log.length:=by show(eN c.d.r c.ev).1.log.length=_;rw[zqM]
   rw[Ea] at fN cV eY;have zne:(Tt.tp w' T 0).grownBy w5 v1.sA.ownBlock:=by rw[z6.2.2.1];exact nD
   obtain⟨a6,t6⟩:=a1.putA zne (xs:=(eN c.d.r c.ev).1.log++[(eN c.d.r c.ev).2]) (by have e:nG ((eN c.d.r c.ev).1.log++[(eN c.d.r c.ev).2])=nG (eN c.d.r c.ev).1.log++[c.y]:=(by simp[nG,txt,W3.y]);rw[e];exact cV) (by rw[gM,zqM];rfl) (by rw[z6.2.2.1];exact eY);have zcf:=a1.other (j:=9) (c:=12) (x:=v1.sA) rfl aH zne (.slice (some ⟨q1,0,none⟩) (c.d.r.log.length+1) q2);have x4:=zcf.2.trans a1.blk;have eV:w5.heap[c.gb]? =some _:=(zne.block c.gb (fY (s2 aQ).2) (λe=>z7 (dX (i:=9) (show(parts v1 c.hb)[9]? =some (some c.gb) by rw[e];rfl)))).trans (s2 aQ).2;refine⟨_,w5,.inl (Y3 rfl zHM zEo fN),fO _ _ _ _ (wX _) ⟨s1,λ_=>⟨?_,eV⟩,s3,⟨q1,q2,rfl⟩,eJ x4 12,_,a6,?_,z5.trans ((bM.refl.tp T 0).trans t6),?_,?_⟩⟩
   .have:=aJ x4 12
    rw[this,<-z6.2.2.1];rfl
   .refine gC.of z4 ?_ ?_ ?_ ?_ ?_<;>rfl
   .exact z6.1
   .exact z6.2.1
  .obtain rfl:12=ci:=by simpa using hc
   rw[ziM] at ho;obtain rfl:=cE ho;obtain⟨s1,s2,s3,⟨q1,q2,rfl⟩,mU,yM⟩:=hS;have zIs:(dC oQ (VV [7,8,9,12] (Gn c.hb c.gb c.v.sA c.ev) [a,b,.slice (some ⟨q1,0,none⟩) (c.d.r.log.length+1) q2]) t0).getD 23 aA=.slice (some ⟨q1,0,none⟩) (c.d.r.log.length+1) q2:=qL KO zjY rfl kQ rfl;have zzU:(dC oQ (VV [7,8,9,12] (Gn c.hb c.gb c.v.sA c.ev) [a,b,.slice (some ⟨q1,0,none⟩) (c.d.r.log.length+1) q2]) t0).getD 25 aA=.pointer (some ⟨c.hb,12,none⟩):=qL KO zGw rfl kQ rfl;refine CR.op H ziM (eB rfl) aP (λT=>⟨aA,Tt.tp (w'.setCell ⟨c.hb,12,none⟩ (.slice (some ⟨q1,0,none⟩) (c.d.r.log.length+1) q2)) T 0,.inr ⟨?_,rfl⟩,?_⟩)
   .rw[Ei (KO.sel 12 _ ziM) lW]
    have hT:xA (dC oQ (VV [7,8,9,12] (Gn c.hb c.gb c.v.sA c.ev) [a,b,.slice (some ⟨q1,0,none⟩) (c.d.r.log.length+1) q2]) t0) (λs=>(dC oQ (VV [7,8,9,12] (Gn c.hb c.gb c.v.sA c.ev) [a,b,.slice (some ⟨q1,0,none⟩) (c.d.r.log.length+1) q2]) t0).getD s aA):=λs=>rfl;exact st3 hT zzU zIs (s2 aQ).1 mU
   .exact fO aA _ _ _ (wX _) ⟨s1,λh=>absurd h aQ,s3,W3.P2.tp yM T 0⟩
  .simp at hc
theorem bs8 {s:Int}(hT:xA Tf V)(zkR:V 45=.int .i64 s):(aS (bH Tf []).eval znv).run aK w=.ok (.value (.slice (some ⟨w.heap.size,0,none⟩) 1 1)) (w.alloc (.cells #[.int .i64 s] 3)):=by
 unfold aS;go_simp
theorem st8 {q1 q2:Nat}(hT:xA Tf V)(Y0:V 49=.pointer (some ⟨hb,13,none⟩))(zcc:V 47=.slice (some ⟨q1,0,none⟩) n q2)(hh:w.cell? ⟨hb,13,none⟩=some sA)(hf:w.frozen? ⟨hb,13,none⟩=false):(aS (bH Tf []).eval znP).run aK (Tt.tp w T 0)=.ok .skip (Tt.tp (w.setCell ⟨hb,13,none⟩ (.slice (some ⟨q1,0,none⟩) n q2)) T 0):=by
 have zeZ:(Tt.tp w T 0).cell? ⟨hb,13,none⟩=some sA:=hh;have At:(Tt.tp w T 0).frozen? ⟨hb,13,none⟩=false:=hf;clear hh hf;unfold aS;go_simp
 try rfl
def zrg:It n8=true:=aP
def zEn:N3 n8 [8,9,10,13]=true:=aP
def zIk:n8.toList.map (·.dst)=[some 37,some 38,some 39,some 40,some 41,some 42,some 43,some 44,some 45,some 46,some 47,some 48,some 49,none]:=rfl
def zEN:n8.toList=[zuy,zxl,zrB,zwG,zpb,zxt,zr3,ziS,zvj,znv,zov,zrD,zpj,znP]:=rfl
def Fa (hb q:Nat)(sT:aF)(i:Nat):Value:=([.pointer (some ⟨hb,0,none⟩),.pointer (some ⟨hb,0,none⟩),.pointer (some ⟨hb,0,none⟩),.pointer (some ⟨hb,13,none⟩),sT,.pointer (some ⟨hb,0,none⟩),.int .i64 (q:Int),.int .i64 ((q:Int)+1),aA,aA,aA,.pointer (some ⟨hb,0,none⟩),.pointer (some ⟨hb,13,none⟩),aA]:List aF).getD i aA
theorem rdR8_7 {q:Nat}{sT:aF}(hT:xA Tf V)(ziX:V 43=.int .i64 (q:Int))(zLX:q<=100):(aS (bH Tf []).eval ziS).run aK w=.ok (.value (.int .i64 ((q:Int)+1))) w:=by
 unfold aS;go_simp;exact Dz aC aC
structure W8 where
 es:Gd
 lo:Nat
 hb:Nat
 q:Nat
 k:Nat
 ans:Int
 v0:fL
 w0:aE
 v:fL
 d:nQ
 K0:Pr
def W8.P1 (c:W8)(w:aE):Prop:=bE w c.lo c.hb c.v c.d/\bM c.hb c.v0 c.w0 c.v w/\c.lo<=w.heap.size
def W8.P2 (c:W8)(w:aE):Prop:=∃v2,bE w c.lo c.hb v2 {c.d with tk:=c.d.tk++[c.ans]}/\gC v2 {c.d with tk:=c.d.tk++[c.ans]}/\bM c.hb c.v0 c.w0 v2 w/\v2.sL=c.v.sL/\v2.sQ=c.v.sQ
def W8.y (c:W8):Value:=.int .i64 c.ans
def W8.Rd (c:W8)(w:aE):Prop:=w.cell? ⟨c.hb,13,none⟩=some c.v.sT
def W8.St (c:W8)(vs:List aF)(l':gQ)(w':aE):Prop:=match vs with
 |[]=>l'=.wk c.es.qs c.k/\c.P1 w'
 |[a]=>l'=.wk c.es.qs (c.k+1)/\a=c.y/\c.P1 w'
 |[a,b]=>l'=.wk c.es.qs (c.k+1)/\(∃g,b=.slice (some ⟨g,0,none⟩) 1 1/\w'.heap[g]? =some (.cells #[c.y] 3))/\c.P1 w'
 |[a,b,x]=>l'=.wk c.es.qs (c.k+1)/\(∃q1 q2,x=.slice (some ⟨q1,0,none⟩) (c.d.tk.length+1) q2)/\w'.frozen? ⟨c.hb,13,none⟩=false/\c.P2 (w'.setCell ⟨c.hb,13,none⟩ x)
 |_=>l'=.wk c.es.qs (c.k+1)/\c.P2 w'
def SR8 (c:W8)(vs:List aF)(K':Pr)(l':gQ)(w':aE):Prop:=c.K0.le K'/\(vs.length<4->c.Rd w')/\c.St vs l' w'
variable {c:W8}
def W8.P1.tp (h:c.P1 w)(T:jV)(n:Nat):c.P1 (Tt.tp w T n):=⟨h.1.tp T n,h.2.1.tp T n,h.2.2⟩
theorem W8.P2.tp (h:c.P2 w)(T:jV)(n:Nat):c.P2 (Tt.tp w T n):=by
 obtain⟨v1,a,b,d,e⟩:=h;exact⟨v1,a.tp T n,b,d.tp T n,e⟩
theorem SR8.tp (vs:List aF)(K':Pr)(l':gQ)(w':aE)(T:jV)(n:Nat)(h:SR8 c vs K' l' w'):SR8 c vs K' l' (Tt.tp w' T n):=by
 obtain⟨h1,h2,h3⟩:=h;refine⟨h1,h2,?_⟩;rcases vs with _|⟨a,_|⟨b,_|⟨x,_|⟨y,vs⟩⟩⟩⟩
 .exact⟨h3.1,W8.P1.tp h3.2 T n⟩
 .exact⟨h3.1,h3.2.1,W8.P1.tp h3.2.2 T n⟩
 .exact⟨h3.1,h3.2.1,W8.P1.tp h3.2.2 T n⟩
 .exact⟨h3.1,h3.2.1,h3.2.2.1,W8.P2.tp (w:=w'.setCell _ _) h3.2.2.2 T n⟩
 .exact⟨h3.1,W8.P2.tp h3.2 T n⟩
theorem cw_R8 (H:c.es.d.Ok)(zHN:gC c.v c.d)(hW:c.es.W[c.k]? =some (.ask c.q 0 0 c.ans))(hq:c.q<c.d.qn.length)(yF:c.q<=100)(hK:∀(i g:Nat),c.d.qn[i]? =some g->c.K0 g (qa c.es.qs i))(zm8:c.d.tk.length<=1000)(hz:t0.size=52)(uD:t0.getD 0 aA=.pointer (some ⟨c.hb,0,none⟩))(zbm:t0.getD 6 aA=.int .i64 (c.q:Int))
 (hk:∀vs K' l' w',vs.length=4->SR8 c vs K' l' w'->Φ .normal ⟨[],K',l',dC n8 (VV [8,9,10,13] (Fa c.hb c.q c.v.sT) vs) t0,w'⟩) (h0:SR8 c [] K l w):CW c.es.d B 58 rWO8 ⟨[],K,l,t0,w⟩ Φ:=by
 rw[rWO8_eq];have KO:=S3 zrg;refine CW.drawn H vE.mixed [8,9,10,13] (Fa c.hb c.q c.v.sT) (SR8 c) zrg zEn J2 (λvs K l w T e h=>SR8.tp vs K l w T e h) (λi o ho hi=>?_) (λvs ci o K' l' w' hc ho hS t rest lW fO=>?_) hk h0
 .have hl:n8.toList[i]? =some o:=by rw[Ap];exact ho
  rw[zEN] at hl;have aN:i<14:=by have:=(kE.1 hl).1;simpa using this
  have tn:∀(vs:List aF) {j:Nat} {oj:aZ} {s:Tmp} {v:aF},n8[j]? =some oj->oj.dst=some s->s<t0.size->VV [8,9,10,13] (Fa c.hb c.q c.v.sT) vs j=v->(dC n8 (VV [8,9,10,13] (Fa c.hb c.q c.v.sT) vs) t0).getD s aA=v:=λvs _ _ _ _ a b c d=>qL KO a b c d;have tq:∀(vs:List aF) {s:Tmp},Ha n8 s=false->(dC n8 (VV [8,9,10,13] (Fa c.hb c.q c.v.sT) vs) t0).getD s aA=t0.getD s undef:=λvs _ a=>zgD KO a;rcases i with _|_|_|_|_|_|_|_|_|_|_|_|_|_|i
  .obtain rfl:=cE hl
   exact⟨aP,λvs K' l' w' hv hS=>⟨eB rfl,uJ (.pointer (some ⟨c.hb,0,none⟩)) ((tq vs aP).trans uD)⟩⟩
  .obtain rfl:=cE hl
   exact⟨aP,λvs K' l' w' hv hS=>⟨eB rfl,uJ (.pointer (some ⟨c.hb,0,none⟩)) ((tq vs aP).trans uD)⟩⟩
  .obtain rfl:=cE hl
   exact⟨aP,λvs K' l' w' hv hS=>⟨eB rfl,uJ (.pointer (some ⟨c.hb,0,none⟩)) (tn vs zDu rfl kQ rfl)⟩⟩
  .obtain rfl:=cE hl
   exact⟨aP,λvs K' l' w' hv hS=>⟨eB rfl,uJ (.pointer (some ⟨c.hb,13,none⟩)) (tn vs zDQ rfl kQ rfl)⟩⟩
  .obtain rfl:=cE hl
   exact⟨aP,λvs K' l' w' hv hS=>⟨eB rfl,rd2 (c.v.sT) (tn vs zAs rfl kQ rfl) (show w'.cell? ⟨c.hb,13,none⟩=some c.v.sT from(hS.2.1 hv))⟩⟩
  .obtain rfl:=cE hl
   exact⟨aP,λvs K' l' w' hv hS=>⟨eB rfl,uJ (.pointer (some ⟨c.hb,0,none⟩)) ((tq vs aP).trans uD)⟩⟩
  .obtain rfl:=cE hl
   exact⟨aP,λvs K' l' w' hv hS=>⟨eB rfl,uJ (.int .i64 (c.q:Int)) ((tq vs aP).trans zbm)⟩⟩
  .obtain rfl:=cE hl
   exact⟨aP,λvs K' l' w' hv hS=>⟨eB rfl,rdR8_7 (q:=c.q) (sT:=c.v.sT) (V:=λs=>(dC n8 (VV [8,9,10,13] (Fa c.hb c.q c.v.sT) vs) t0).getD s aA) (λs=>rfl) (tn vs zJI rfl kQ rfl) yF⟩⟩
  .exact absurd aH hi
  .exact absurd aH hi
  .exact absurd aH hi
  .obtain rfl:=cE hl
   exact⟨aP,λvs K' l' w' hv hS=>⟨eB rfl,uJ (.pointer (some ⟨c.hb,0,none⟩)) (tn vs zBw rfl kQ rfl)⟩⟩
  .obtain rfl:=cE hl
   exact⟨aP,λvs K' l' w' hv hS=>⟨eB rfl,uJ (.pointer (some ⟨c.hb,13,none⟩)) (tn vs zHv rfl kQ rfl)⟩⟩
  .exact absurd aH hi
  .omega
 .rcases vs with _|⟨a,_|⟨b,_|⟨c',_|⟨d',vs⟩⟩⟩⟩
  .obtain rfl:8=ci:=by simpa using hc
   rw[znj] at ho;obtain rfl:=cE ho;obtain⟨s1,s2,s3,s4⟩:=hS;have zBD:=F7 lW (s:=42) aH (qL KO zJK rfl kQ rfl);have zCD:=F7 lW (s:=44) aH (qL KO zF2 rfl kQ rfl);refine CR.call' H #[.pointer (some ⟨c.hb,0,none⟩),.int .i64 ((c.q:Int)+1),.int .i64 0,.int .i64 0] znj (eB rfl) rfl (allx rfl) rfl (by simp only[uS,fK,tL];rw[zBD,zCD];rfl) (s3▸zbh H s4.1 hW hq yF (λi g hg=>s1 _ _ (hK i g hg))) (λK2 l2 y w2 hl oR=>?_);obtain⟨z1,rfl,z3⟩:=oR;subst z3;exact fO _ K2 l2 _ hl ⟨vP s1 hl,λ_=>Aa (s2 aQ) _,z1,rfl,s4.1.alloc _,s4.2.1.trans (bM.below (dS (eF _ _) _)),eG s4.2.2 (by show w'.heap.size<=(w'.alloc o9).heap.size;rw[qR];exact Sd _)⟩
  .obtain rfl:9=ci:=by simpa using hc
   rw[zdv] at ho;obtain rfl:=cE ho;obtain⟨s1,s2,s3,rfl,z3,z5,s6⟩:=hS;have zDr:(dC n8 (VV [8,9,10,13] (Fa c.hb c.q c.v.sT) [c.y]) t0).getD 45 aA=c.y:=qL KO znj rfl kQ rfl;refine CR.op H zdv (eB rfl) aP (λT=>⟨.slice (some ⟨w'.heap.size,0,none⟩) 1 1,(Tt.tp w' T 0).alloc (.cells #[c.y] 3),.inl ?_,?_⟩)
   .rw[Ei (KO.sel 9 _ zdv) lW]
    have hT:xA (dC n8 (VV [8,9,10,13] (Fa c.hb c.q c.v.sT) [c.y]) t0) (λs=>(dC n8 (VV [8,9,10,13] (Fa c.hb c.q c.v.sT) [c.y]) t0).getD s aA):=λs=>rfl;exact bs8 hT zDr
   .have al:bM c.hb c.v w' c.v ((Tt.tp w' T 0).alloc (.cells #[c.y] 3)):=(bM.refl.tp T 0).trans (bM.below (dS (eF _ _) _))
    exact fO _ _ _ _ (wX _) ⟨s1,λ_=>Aa (s2 aQ) _,s3,⟨_,rfl,lQ _ _⟩,(z3.tp T 0).alloc _,z5.trans al,eG s6 zfh⟩
  .obtain rfl:10=ci:=by simpa using hc
   rw[zjr] at ho;obtain rfl:=cE ho;obtain⟨s1,s2,s3,⟨g,rfl,hg⟩,z3,z5,s6⟩:=hS;have zDh:=F7 lW (s:=41) aH (qL KO zzd rfl kQ rfl);have a46:=F7 lW (s:=46) aH (qL KO zdv rfl kQ rfl);refine CR.op H zjr (eB rfl) aP (λT=>?_);have a1:=z3.tp T 0;obtain⟨q1,q2,w5,fN,cV,nD,eY⟩:=M9 (w:=Tt.tp w' T 0) (t:=38) (ty:=38) zaQ X8 rfl aH a1.T (g:=g) (cs:=#[c.y]) (news:=[c.y]) hg rfl (m:=1) rfl aH Ng aC aH s6;obtain⟨a6,t6⟩:=a1.putT nD (xs:=c.d.tk++[c.ans]) (by have e:jX (c.d.tk++[c.ans])=jX c.d.tk++[c.y]:=(by simp[jX,W8.y]);rw[e];exact cV) aQ eY;have x4:=(a1.other (j:=10) (c:=13) (x:=c.v.sT) rfl aH nD (.slice (some ⟨q1,0,none⟩) (c.d.tk.length+1) q2)).2.trans a1.blk;refine⟨_,w5,.inl (Y3 rfl zDh a46 fN),fO _ _ _ _ (wX _) ⟨s1,λ_=>aJ x4 13,s3,⟨q1,q2,rfl⟩,eJ x4 13,_,a6,?_,z5.trans ((bM.refl.tp T 0).trans t6),rfl,rfl⟩⟩;refine gC.of zHN ?_ ?_ ?_ ?_ ?_<;>rfl
  .obtain rfl:13=ci:=by simpa using hc
   rw[zls] at ho;obtain rfl:=cE ho;obtain⟨s1,s2,s3,⟨q1,q2,rfl⟩,mU,yM⟩:=hS;have zIX:(dC n8 (VV [8,9,10,13] (Fa c.hb c.q c.v.sT) [a,b,.slice (some ⟨q1,0,none⟩) (c.d.tk.length+1) q2]) t0).getD 47 aA=.slice (some ⟨q1,0,none⟩) (c.d.tk.length+1) q2:=qL KO zjr rfl kQ rfl;have zz0:(dC n8 (VV [8,9,10,13] (Fa c.hb c.q c.v.sT) [a,b,.slice (some ⟨q1,0,none⟩) (c.d.tk.length+1) q2]) t0).getD 49 aA=.pointer (some ⟨c.hb,13,none⟩):=qL KO zFz rfl kQ rfl;refine CR.op H zls (eB rfl) aP (λT=>⟨aA,Tt.tp (w'.setCell ⟨c.hb,13,none⟩ (.slice (some ⟨q1,0,none⟩) (c.d.tk.length+1) q2)) T 0,.inr ⟨?_,rfl⟩,?_⟩)
   .rw[Ei (KO.sel 13 _ zls) lW]
    have hT:xA (dC n8 (VV [8,9,10,13] (Fa c.hb c.q c.v.sT) [a,b,.slice (some ⟨q1,0,none⟩) (c.d.tk.length+1) q2]) t0) (λs=>(dC n8 (VV [8,9,10,13] (Fa c.hb c.q c.v.sT) [a,b,.slice (some ⟨q1,0,none⟩) (c.d.tk.length+1) q2]) t0).getD s aA):=λs=>rfl;exact st8 hT zz0 zIX (s2 aQ) mU
   .exact fO aA _ _ _ (wX _) ⟨s1,λh=>absurd h aQ,s3,W8.P2.tp yM T 0⟩
  .simp at hc
def Gj (b:b7):Prop:=∀x∈b.recs,1<=x.l/\x.l<=b.o.ln
theorem Gj.mod (h:Gj b)(hf:∀x,(f x).l=x.l):∀x∈b.recs.modify i f,1<=x.l/\x.l<=b.o.ln:=λx hx=>by
 obtain⟨y,hy,rfl|rfl⟩:=Sw hx
 .exact h _ hy
 .rw[hf];exact h _ hy
theorem Gj.tires:∀(xs:List bJ) (b:b7) (t:List UInt8),Gj b->Gj (xs.foldl l5 (b,t)).1
 |[],b,t,h=>h
 |x::xs,b,t,h=>by
  rw[List.foldl_cons];obtain⟨e1,_,_,_,_,_,e7⟩:=zlA b t x;have h1:Gj (l5 (b,t) x).1:=λz hz=>by
   obtain⟨y,hy,_,e⟩:=e7 z hz;rw[e,e1];exact h y hy
  obtain⟨b',t',e⟩:∃b' t',l5 (b,t) x=(b',t'):=⟨_,_,rfl⟩;rw[e] at h1⊢;exact Gj.tires xs b' t' h1
theorem Gj.step (h:Gj b)(e:dB):Gj (eN b e).1:=by
 have more:∀{l:Int} {ls:List Int} {c o f hh tt:Int} {s:ByteArray},oJ b.o b.recs=l::ls->∀x∈b.recs++[(⟨c,l,o,f,hh,tt,s⟩:bT)],1<=x.l/\x.l<=b.o.ln:=λhf x hx=>by
  rcases Er.1 hx with hx|hx
  .exact h x hx
  .obtain rfl:=sE.1 hx
   exact zdk Wt
 unfold eN;split
 .unfold qB
  split
  .exact h
  .split
   .exact h
   .rename_i hf;exact more hf
 .split
  .unfold nU
   split
   .exact h
   .split
    .exact h
    .split
     .exact h
     .exact h.mod λx=>rfl
  .split
   .unfold l8
    split
    .exact h
    .split
     .exact h
     .split
      .exact h
      .rename_i hf;exact more hf
   .split
    .unfold mD
     split
     .split
      .exact h.mod λx=>rfl
      .exact h.mod λx=>rfl
     .split
      .exact h
      .exact h
    .exact Gj.tires _ _ _ h
variable {o:jD}{es:List dB}
theorem zvx :∀k,k<=es.length->Gj (mG o es k)
 |0,_=>λx hx=>by cases hx
 |k+1,hk=>by
  rw[Xs (lO aC)];exact(zvx k aC).step _
variable {ln qn:List Nat}
theorem zrl (h:gG o es=true)(hk:k<=es.length){tk:List Int}(h1:ln.Nodup)(h2:(ln.length:Int)=o.ln)(h3:(qn.length:Int)=o.op):yB ⟨mG o es k,ln,qn,tk⟩:=by
 obtain⟨a1,a2,a3⟩:=P8 h k hk;have hop:o.op=(o.op.toNat:Int):=by
  have:=(Cs a1.off).2.2.1;rw[a3] at this;omega
 obtain⟨_,_,b3⟩:=zuv h hop k hk;have hl:es.length<=60:=by unfold gG at h;simp at h;exact h.1.2
 have hg:=a1.good a2 aC;exact⟨zua h k hk,a1,b3,h1,by show(ln.length:Int)=(mG o es k).o.ln;rw[a3];exact h2,zvx k hk,by show(qn.length:Int)=(mG o es k).o.op;rw[a3];exact h3,hg.1⟩
theorem zDs (hk:k<=es.length):∃B,rW o es es.length=rW o es k++B:=by
 have key:∀n,k<=n->∃B,rW o es n=rW o es k++B:=λn hn=>by
  induction n with
  |zero=>
   obtain rfl:k=0:=aC;exact⟨[],aQ⟩
  |succ n ih=>
   rcases mX k (n+1) with h|h
   .obtain⟨B,e⟩:=ih aC
    exact⟨B++(match es[n]? with|some e=>pI (mG o es n) e|none=>[]),by show rW o es n++_=_;rw[e,Jc];rfl⟩
   .obtain rfl:k=n+1:=aC
    exact⟨[],aQ⟩
 exact key _ hk
theorem asks_at (he:es[k]? =some ev):Co (Bj o es) (rW o es k).length (pI (mG o es k) ev):=λj x hj=>by
 have hk:=(kE.1 he).1;obtain⟨B,e⟩:=zDs (o:=o) (es:=es) (k:=k+1) hk;have e2:rW o es (k+1)=rW o es k++pI (mG o es k) ev:=by show rW o es k++_=_;rw[he]
 have hl:=(kE.1 hj).1;unfold Bj;rw[e,e2,Jc,Jc,Ah aC,y3 aC,zo6];exact hj
theorem zjL (b:b7):∀n,(yV b n).length=2*n
 |0=>rfl
 |n+1=>by show(yV b n++_).length=_;rw[gM,zjL b n];simp;omega
theorem zte (b:b7):∀(n i:Nat),i<n->(yV b n)[2*i]? =some (.ask i 0 0 (dK b.recs ((i:Int)+1)))/\(yV b n)[2*i+1]? =some (.shut i)
 |0,i,h=>by omega
 |n+1,i,h=>by
  have hl:=zjL b n;show(yV b n++_)[2*i]? =_/\(yV b n++_)[2*i+1]? =_;rcases mX i n with hi|hi
  .rw[y3 aC,y3 aC]
   exact zte b n i hi
  .obtain rfl:i=n:=aC
   rw[Ah aC,Ah aC,hl,Nv,show 2*i+1-2*i=1 by omega];exact⟨rfl,rfl⟩
def zbq (b:b7):Nat->List Int
 |0=>[]
 |n+1=>zbq b n++[dK b.recs ((n:Int)+1)]
theorem zwO (b:b7):∀n,(zbq b n).length=n
 |0=>rfl
 |n+1=>by show(zbq b n++_).length=_;rw[gM,zwO b n];rfl
theorem zzZ (h:gG o es=true)(he:es[k]? =some ev):(eN (mG o es k) ev).1.log=(mG o es k).log/\(mG o es k).log.length<=1000/\tE (mG o es k).o.op ev=true:=by
 have hk:=(kE.1 he).1;obtain⟨a1,a2,a3⟩:=P8 h k aC;have bV:=h;unfold gG at bV;simp only[fV,tK,decide_eq_true_eq] at bV;have mH:tE (mG o es k).o.op ev=true:=by rw[a3];exact bV.2 ev (dX he)
 have:=a2.nl;exact⟨(a1.step a2 mH aC).2.2.2,aC,mH⟩
def As (o:jD)(es:List dB)(ln qn:List Nat)(k:Nat):nQ:=⟨mG o es k,ln,qn,[]⟩
def uW (o:jD)(es:List dB)(ln qn:List Nat)(i:Nat):nQ:=⟨I6 o es,ln,qn,zbq (I6 o es) i⟩
structure zcp (e:Gd)(o:jD)(es:List dB)(ln qn:List Nat)(lo hb:Nat)(v:fL)(w:aE)(K:Pr)(A:Option bL)(n c:Nat):Prop where
 ok:gG o es=true
 W:e.W=Bj o es
 at_:bE w lo hb v (As o es ln qn 0)
 mr:gC v (As o es ln qn 0)
 nd:ln.Nodup
 nl:(ln.length:Int)=o.ln
 nq:(qn.length:Int)=o.op
 qs:e.qs.length=qn.length
 lo_:lo<=w.heap.size
 tab:zZ lo w
 ev:bX w 0 lo 3 A n c (lL es)
 K:∀(i g:Nat),qn[i]? =some g->K g (qa e.qs i)
theorem bX.lowT {s c:Nat}{xs:List aF}(h:bX w 0 lo s A n c xs)(a:bE w lo hb v d)(dQ:lo<=w.heap.size)(t:bM hb v w v' w'):bX w' 0 lo s A n c xs:=by
 refine⟨h.len,h.le,h.cap,λhn=>?_⟩;obtain⟨b,off,e,h1,h2,h3,h4⟩:=h.at_ hn;have hz:=t.size;exact⟨b,off,e,h1,h2,aC,λj u hj=>(aE.cell?_of_block (t.block b h3 (λx=>by have:=(a.lt b x).1;omega))).trans (h4 j u hj)⟩
theorem cf_work (H:e.d.Ok){c:Nat}(h:zcp e o es ln qn lo hb v w K A n c):
 CF e.d 58 #[.pointer (some ⟨hb,0,none⟩),.slice A n c] K (.wk e.qs 0) w (λK' l' y w'=>l'=.wk e.qs e.W.length/\∃v',bE w' lo hb v' (uW o es ln qn qn.length)/\gC v' (uW o es ln qn qn.length)/\bM hb v w v' w'):=by
 refine CF.of 52 zkv (.inl rfl) ?_;have HP:=aD h;have Bo:es.length=n:=h.ev.eventsLen;have oS:es.length<=60:=by have:=h.ok;unfold gG at this;simp at this;exact this.1.2
 have zDb:n<=60:=aC;have Oj:=aD Bo;clear Bo oS h;refine CW.sq H ?_;refine CW.sq H ?_;refine CW.pQ H O3 (λzz7 Q HQ=>?_);go_wp2;refine HQ.o _ _ ?_;clear HQ;refine CW.tape (s:=⟨[],K,.wk e.qs 0,_,w⟩) ?_ zz7 0;refine CW.block H ?_;refine CW.loop H (λnn s=>∃(k:Nat) (wz:aE) (Kz:Pr) (vz:fL) (u2 u3 u4 u5 u6 u7 gH gK gF gJ gI u16 iH kO kH jO iM iE gY iD iJ iC iI iO iK jH jI u32 iG iB iF iA kV kN iL gZ iN iZ iX iP iS iY jB jC iV iT iW:aF),s=⟨[],Kz,.wk e.qs (rW o es k).length,#[.pointer (some ⟨hb,0,none⟩),.slice A n c,u2,u3,u4,u5,u6,u7,.slice A n c,.int .i64 (n:Int),.int .i64 (k:Int),gH,gK,gF,gJ,gI,u16,iH,kO,kH,jO,iM,iE,gY,iD,iJ,iC,iI,iO,iK,jH,jI,u32,iG,iB,iF,iA,kV,kN,iL,gZ,iN,iZ,iX,iP,iS,iY,jB,jC,iV,iT,iW],wz⟩/\k<=n/\nn=n-k/\K.le Kz/\bE wz lo hb vz (As o es ln qn k)/\gC vz (As o es ln qn k)/\bM hb v w vz wz/\vz.sL=v.sL/\vz.sQ=v.sQ) (λnn s hs=>?_) (n:=n) ?_
 rotate_left
 .exact⟨0,w,K,v,_,_,_,_,_,_,_,_,_,_,_,_,_,_,_,_,_,_,_,_,_,_,_,_,_,_,_,_,_,_,_,_,_,_,_,_,_,_,_,_,_,_,_,_,_,_,_,rfl,jY _,rfl,wX _,HP.o.at_,HP.o.mr,bM.refl,rfl,rfl⟩
 .obtain⟨k,wz,Kz,vz,u2,u3,u4,u5,u6,u7,gH,gK,gF,gJ,gI,u16,iH,kO,kH,jO,iM,iE,gY,iD,iJ,iC,iI,iO,iK,jH,jI,u32,iG,iB,iF,iA,kV,kN,iL,gZ,iN,iZ,iX,iP,iS,iY,jB,jC,iV,iT,iW,rfl,sX,Cm,zlu,az,mz,tz,zra,zvt⟩:=hs
  have A1:=aD az;have M1:=aD mz;have T1:=aD tz;have EZ:=aD (And.intro zra zvt);clear az mz tz zra zvt;refine CW.sq H ?_;refine CW.pQ H O3 (λzdg Q HQ=>?_);by_cases aN:k<n
  .have Hj:(k:Int)<(n:Int):=aC
   go_wp2;refine HQ.o _ _ ?_;clear HQ Hj;refine CW.tape (s:=⟨[],Kz,.wk e.qs (rW o es k).length,_,wz⟩) ?_ zdg 0;refine CW.sq H ?_;refine CW.cd H true ?_;refine CW.sk H ?_;dsimp only;have Hh:=HP.o.ev.lowT HP.o.at_ HP.o.lo_ T1.o;obtain⟨be,oe,ev,hA,zAu,zgh,ziR,E9,e0,e1,e2⟩:=Hh.eventsAt aN;subst hA;obtain⟨zwz,ztX,st3⟩:=zzZ HP.o.ok E9;have Nu:=aD E9;have uH:=aD (And.intro zwz (And.intro ztX st3));clear E9 zwz ztX st3 Hh;have i0:(0:Int)<=(k:Int):=aC;have i1:(k:Int)<(n:Int):=aC;refine CW.sq H ?_;refine CW.block H ?_;refine CW.sq H ?_;refine CW.pQ H O3 (λOi Q HQ=>?_);obtain⟨w2,fX⟩:=aU (Tt.tp wz Oi 0);have A2:=aD (show bE w2 lo hb vz (As o es ln qn k) by rw[fX];exact A1.o.tp Oi 0);have T2:=aD (show bM hb v w vz w2 by rw[fX];exact T1.o.tp Oi 0);have zeU:w2.cell? ⟨be,oe+k*3,none⟩=some (.string ev.k):=by rw[fX];exact e0
   have Fq:w2.cell? ⟨be,oe+k*3+1,none⟩=some (.int .i64 ev.a):=by rw[fX];exact e1
   have zht:w2.cell? ⟨be,oe+k*3+2,none⟩=some (.int .i64 ev.b):=by rw[fX];exact e2
   try dsimp only
   rw[<-fX];clear fX A1 T1 e0 e1 e2;go_wp2;refine HQ.o _ _ ?_;clear HQ zeU Fq zht;obtain⟨gb,eV⟩:=aU w2.heap.size;obtain⟨w3,iU⟩:=aU (w2.alloc (.cells #[.string ev.k,.int .i64 ev.a,.int .i64 ev.b] 54));have A3:=aD (show bE w3 lo hb vz (As o es ln qn k) by rw[iU];exact A2.o.alloc _);have T3:=aD (show bM hb v w vz w3 by rw[iU];exact T2.o.trans (bM.below (dS (eF _ _) _)));have vL:=aD (show w3.heap[gb]? =some (.cells #[.string ev.k,.int .i64 ev.a,.int .i64 ev.b] 54) by rw[iU,eV];exact lQ _ _);have NP:=aD (show some gb∉parts vz hb from λhp=>by have:=(A2.o.lt _ hp).2;omega);rw[<-eV,<-iU];clear iU eV A2 T2;have zvu:lo<=w3.heap.size:=eG HP.o.lo_ T3.o.size;have zuE:k<=es.length:=by have:=Oj.o;omega
   obtain⟨yO,zf8,zF8⟩:=P8 HP.o.ok k zuE;have pre:EvPre lo hb vz (As o es ln qn k) w3:=⟨A3.o,M1.o,zrl HP.o.ok zuE HP.o.nd HP.o.nl HP.o.nq,zvu,HP.o.tab.turn HP.o.at_ HP.o.lo_ T3.o,by have:=zf8.clk;show(mG o es k).clk<=_;omega,by have h1:=zf8.nw;have h2:=zf8.nb;show(mG o es k).back.length+(mG o es k).wait.length<=_;omega⟩;have zse:w3.cell? ⟨hb,12,none⟩=some vz.sA:=aJ A3.o.blk 12;have zCk:=aD pre;have RD:=aD zse;clear pre zse yO zf8 zF8;refine cw_R3 (c:=⟨e,lo,hb,gb,(rW o es k).length,v,w,vz,As o es ln qn k,ev,Kz⟩) H uH.o.2.2 (by show Co e.W _ _;rw[HP.o.W];exact asks_at Nu.o) (λi g hg=>zlu _ _ (HP.o.K i g hg)) (by show(eN (mG o es k) ev).1.log.length<=1000;rw[uH.o.1];exact uH.o.2.1) uH.o.1 rfl rfl rfl (λvs K' l' w' tU hS=>?_) ⟨wX _,λ_=>⟨RD.o,vL.o⟩,rfl,zCk.o,T3.o,NP.o⟩;rw[Go.Mt.An,zGW];simp only[Go.Mt.xL,dV,dW];obtain⟨s1,s2,s3⟩:=hS;have s4:l'=.wk e.qs ((rW o es k).length+(pI (mG o es k) ev).length)/\W3.P2 ⟨e,lo,hb,gb,(rW o es k).length,v,w,vz,As o es ln qn k,ev,Kz⟩ w':=by
    rcases vs with _|⟨a,_|⟨b,_|⟨x,_|⟨y,vs⟩⟩⟩⟩
    .cases tU
    .cases tU
    .cases tU
    .cases tU
    .exact s3
   obtain⟨rfl,v2,a2,m2,t2,q1,q2⟩:=s4;have e3:(rW o es (k+1)).length=(rW o es k).length+(pI (mG o es k) ev).length:=by show(rW o es k++_).length=_;rw[Nu.o,gM]
   have e4:As o es ln qn (k+1)={As o es ln qn k with r:=Dy (eN (mG o es k) ev)}:=by unfold As;rw[Xs Nu.o]
   have A4:=aD (show bE w' lo hb v2 (As o es ln qn (k+1)) by rw[e4];exact a2);have M4:=aD (show gC v2 (As o es ln qn (k+1)) by rw[e4];exact m2);have T4:=aD t2;have Q4:=aD (And.intro (q1.trans EZ.o.1) (q2.trans EZ.o.2));have rL:K.le K':=vP zlu s1;rw[<-e3];clear a2 m2 t2 q1 q2 e3 e4 s1 s2 s3 tU;refine CW.pQ H O3 (λzvc Q HQ=>?_);go_wp2;refine HQ.o _ _ ?_;clear HQ;exact⟨n-(k+1),aC,k+1,_,K',v2,_,_,_,_,_,_,_,_,_,_,_,_,_,_,_,_,_,_,_,_,_,_,_,_,_,_,_,_,_,_,_,_,_,_,_,_,_,_,_,_,_,_,_,_,_,_,_,rfl,aC,rfl,rL,A4.o.tp zvc 0,M4.o,T4.o.tp zvc 0,Q4.o.1,Q4.o.2⟩
  .have Hj:¬(k:Int)<(n:Int):=aC
   have lR:=aD (show k=es.length by have:=Oj.o;omega);go_wp2;refine HQ.o _ _ ?_;clear HQ Hj;refine CW.tape (s:=⟨[],Kz,.wk e.qs (rW o es k).length,_,wz⟩) ?_ zdg 0;refine CW.sq H ?_;refine CW.cd H false ?_;refine CW.exit H aQ ?_;dsimp only;rw[if_pos rfl];have zA:=lR.o;subst zA;have Tb:As o es ln qn es.length=uW o es ln qn 0:=by unfold As uW;rw[zdI];rfl
   rw[Tb] at A1 M1;obtain⟨AQ,cQ,zah,zIr⟩:=Ge A1.o.Q aH;obtain⟨nq,zbn⟩:=aU qn.length;have Tn:=aD zbn;have zsa:=aD (show vz.sQ=.slice AQ nq cQ by rw[zbn];exact zah);have Ve:=(Cs (zrl (tk:=[]) HP.o.ok (jY _) HP.o.nd HP.o.nl HP.o.nq).R.off).2.2.2.1;have zLH:nq<=4:=by
    have h1:=HP.o.nq;have h2:(mG o es 0).o.op<=4:=Ve;have h3:(mG o es 0).o=o:=rfl;rw[h3] at h2;omega
   clear zah zIr zbn Tb Ve aN Cm;refine CW.sq H ?_;refine CW.pQ H O3 (λSg Q HQ=>?_);obtain⟨w5,nY⟩:=aU (Tt.tp wz Sg 0);have A5:=aD (show bE w5 lo hb vz (uW o es ln qn 0) by rw[nY];exact A1.o.tp Sg 0);have T5:=aD (show bM hb v w vz w5 by rw[nY];exact T1.o.tp Sg 0)
   try dsimp only
   rw[<-nY];clear nY A1 T1;have k6:w5.cell? ⟨hb,6,none⟩=some (.slice AQ nq cQ):=by
    have:=aJ A5.o.blk 6;rw[this,<-zsa.o];rfl
   go_wp2;refine HQ.o _ _ ?_;clear HQ k6;obtain⟨k0,gV⟩:=aU ((rW o es es.length).length);have Bp:=aD gV;rw[<-gV];clear gV;refine CW.block H ?_;refine CW.loop H (λnn s=>∃(k:Nat) (wy:aE) (Ky:Pr) (vy:fL) (u1 u2 u3 u4 u5 u6 u7 u8 u9 gU gH gK gF gJ gI u16 iH kO kH jO iM iE gY iD iJ iC iI iO iK iG iB iF iA kV kN iL gZ iN iZ iX iP iS iY jB jC iV iT iW:aF),s=⟨[],Ky,.wk e.qs (k0+2*k),#[.pointer (some ⟨hb,0,none⟩),u1,u2,u3,u4,u5,u6,u7,u8,u9,gU,gH,gK,gF,gJ,gI,u16,iH,kO,kH,jO,iM,iE,gY,iD,iJ,iC,iI,iO,iK,.slice AQ nq cQ,.int .i64 (nq:Int),.int .i64 (k:Int),iG,iB,iF,iA,kV,kN,iL,gZ,iN,iZ,iX,iP,iS,iY,jB,jC,iV,iT,iW],wy⟩/\k<=nq/\nn=nq-k/\K.le Ky/\bE wy lo hb vy (uW o es ln qn k)/\gC vy (uW o es ln qn k)/\bM hb v w vy wy/\vy.sQ=vz.sQ) (λnn s hs=>?_) (n:=nq) ?_
   rotate_left
   .exact⟨0,w5,Kz,vz,_,_,_,_,_,_,_,_,_,_,_,_,_,_,_,_,_,_,_,_,_,_,_,_,_,_,_,_,_,_,_,_,_,_,_,_,_,_,_,_,_,_,_,_,_,_,_,_,rfl,jY _,rfl,zlu,A5.o,M1.o,T5.o,rfl⟩
   .obtain⟨k,wy,Ky,vy,u1,u2,u3,u4,u5,u6,u7,u8,u9,gU,gH,gK,gF,gJ,gI,u16,iH,kO,kH,jO,iM,iE,gY,iD,iJ,iC,iI,iO,iK,iG,iB,iF,iA,kV,kN,iL,gZ,iN,iZ,iX,iP,iS,iY,jB,jC,iV,iT,iW,rfl,zJ3,zMm,zrz,ay,my,ty,ey⟩:=hs
    have A6:=aD ay;have M6:=aD my;have T6:=aD ty;have EY:=aD ey;clear ay my ty ey A5 T5 M1;refine CW.sq H ?_;refine CW.pQ H O3 (λzcW Q HQ=>?_);by_cases aN:k<nq
    .have Hj:(k:Int)<(nq:Int):=aC
     go_wp2;refine HQ.o _ _ ?_;clear HQ;refine CW.sq H ?_;refine CW.cd H true ?_;refine CW.sk H ?_;dsimp only;have O4:e.W[k0+2*k]? =some (.ask k 0 0 (dK (I6 o es).recs ((k:Int)+1)))/\e.W[k0+2*k+1]? =some (.shut k):=by
      have zjV:o.op.toNat=nq:=by have:=HP.o.nq;have:=Tn.o;omega
      obtain⟨x1,x2⟩:=zte (I6 o es) nq k aN;rw[HP.o.W];unfold Bj;rw[zjV,Ah (by have:=Bp.o;omega),Ah (by have:=Bp.o;omega),<-Bp.o,zo6,show k0+2*k+1-k0=2*k+1 by omega];exact⟨x1,x2⟩
     refine CW.sq H ?_;refine CW.block H ?_;refine CW.sq H ?_;refine CW.pQ H O3 (λX5 Q HQ=>?_);obtain⟨w7,rG⟩:=aU (Tt.tp (Tt.tp wy zcW 0) X5 0);have A7:=aD (show bE w7 lo hb vy (uW o es ln qn k) by rw[rG];exact(A6.o.tp zcW 0).tp X5 0);have T7:=aD (show bM hb v w vy w7 by rw[rG];exact(T6.o.tp zcW 0).tp X5 0)
     try dsimp only
     rw[<-rG];clear rG A6 T6;have oA:=A7.o.Q;rw[EY.o,zsa.o] at oA;have oA:w7.ownsRow lo 95 1 (.slice AQ nq cQ) nq (I8 qn):=by rw[Tn.o];rw[Tn.o] at oA;exact oA
     obtain⟨bq,oq,gq,hA,Ag,zER⟩:=zgH (Ak oA aH) aN;subst hA;have zAw:=aD Ag;have i0:(0:Int)<=(k:Int):=aC;clear oA Ag;go_wp2;refine HQ.o _ _ ?_;clear HQ zER;have zsc:w7.cell? ⟨hb,13,none⟩=some vy.sT:=aJ A7.o.blk 13;have zHG:lo<=w7.heap.size:=eG HP.o.lo_ T7.o.size;have zwK:k<qn.length:=by have:=Tn.o;omega
     refine CW.sq H ?_;refine cw_R8 (c:=⟨e,lo,hb,k,k0+2*k,dK (I6 o es).recs ((k:Int)+1),v,w,vy,uW o es ln qn k,Ky⟩) H M6.o O4.1 zwK (by show k<=100;omega) (λi g hg=>zrz _ _ (HP.o.K i g hg)) (by show(zbq (I6 o es) k).length<=1000;rw[zwO];omega) rfl rfl rfl (λvs K' l' w' tU hS=>?_) ⟨wX _,λ_=>zsc,rfl,A7.o,T7.o,zHG⟩;rw[Go.Mt.An,zIk];simp only[Go.Mt.xL,dV,dW];obtain⟨s1,s2,s3⟩:=hS;have s4:l'=.wk e.qs (k0+2*k+1)/\W8.P2 ⟨e,lo,hb,k,k0+2*k,dK (I6 o es).recs ((k:Int)+1),v,w,vy,uW o es ln qn k,Ky⟩ w':=by
      rcases vs with _|⟨a,_|⟨b,_|⟨x,_|⟨y,vs⟩⟩⟩⟩
      .cases tU
      .cases tU
      .cases tU
      .cases tU
      .exact s3
     obtain⟨rfl,v2,a2,m2,t2,q1,q2⟩:=s4;have A8:=aD (show bE w' lo hb v2 (uW o es ln qn (k+1)) from a2);have M8:=aD (show gC v2 (uW o es ln qn (k+1)) from m2);have T8:=aD t2;have Q8:=aD (q2.trans EY.o);have rL:K.le K':=vP zrz s1;have zzy:K' gq (qa e.qs k):=rL _ _ (HP.o.K k gq zAw.o);clear a2 m2 t2 q1 q2 s1 s2 s3 tU zsc;refine CW.rg H [0,1] ?_;refine CR.mv H (.chan (some gq)) ?_;refine CR.shut H (k:=k0+2*k+1) (q:=k) zIh rfl rfl zkv rfl rfl O4.2 (by show k<e.qs.length;rw[HP.o.qs];exact zwK) rfl rfl zzy ?_;simp only[cC,gE,dV,dW];refine CR.nil H ?_;refine CW.pQ H O3 (λV5 Q HQ=>?_);go_wp2;refine HQ.o _ _ ?_;clear HQ;exact⟨nq-(k+1),aC,k+1,_,K',v2,_,_,_,_,_,_,_,_,_,_,_,_,_,_,_,_,_,_,_,_,_,_,_,_,_,_,_,_,_,_,_,_,_,_,_,_,_,_,_,_,_,_,_,_,_,_,_,_,rfl,aC,rfl,rL,A8.o.tp V5 0,M8.o,T8.o.tp V5 0,Q8.o⟩
    .have Hj:¬(k:Int)<(nq:Int):=aC
     have lR:=aD (show k=nq by omega);go_wp2;refine HQ.o _ _ ?_;clear HQ Hj;refine CW.sq H ?_;refine CW.cd H false ?_;refine CW.exit H aQ ?_;dsimp only;rw[if_pos rfl];have zA:=lR.o;subst zA;have zDS:e.W.length=k0+2*k:=by
      have zjV:o.op.toNat=k:=by have:=HP.o.nq;have:=Tn.o;omega
      rw[HP.o.W];unfold Bj;rw[gM,<-Bp.o,zjV,zjL]
     refine⟨aQ,rfl,.tuple #[],rfl,by rw[zDS],vy,?_,?_,T6.o.tp zcW 0⟩
     .rw[<-Tn.o];exact A6.o.tp zcW 0
     .rw[<-Tn.o];exact M6.o
end Go.Proofs.YtfcjiloojkjaeaaGreatDoor
namespace Go.Proofs.YtfcjiloojkjaeaaGreatDoor
open Go.RowKit Go.Mt Go.Conc Go.Tt Go.Conc.Lib Go.ConcR.Gen
abbrev rI:WgLink:={add:=53,done:=55,wait:=59,relMerge:=68,disable:=69,enable:=70,inBubble:=71,associate:=72,fatal:=73,uOr:=74,uAdd:=75,raceRead:=76,uLoad:=77,uStore:=78,disassociate:=79,semrelease:=80,acquire:=83,isAssociated:=84,uCas:=85,raceWrite:=86,semacquire:=87,orU64:=97,addU64:=98,loadU64:=99,storeU64:=100,casU64:=106,tWgP:=108,tUP:=110,tAssoc:=112,tWg:=94,tAU:=91,tU64:=89,tUint:=116,tU32:=92,tPU32:=117,tPAU:=137,tPU64:=139,tNoCopy:=86,tANoCopy:=87,tAlign64:=88}
def zc7:WgLib aK rI:=
 ⟨Tryz.func53,Tryz.func55,Tryz.func59,Tryz.func68,Tryz.func69,Tryz.func70,Tryz.func71,Tryz.func72,Tryz.func73,Tryz.func74,Tryz.func75,Tryz.func76,Tryz.func77,Tryz.func78,Tryz.func79,Tryz.func80,Tryz.func83,Tryz.func84,Tryz.func85,Tryz.func86,Tryz.func87,Tryz.func97,Tryz.func98,Tryz.func99,Tryz.func100,Tryz.func106,Tryz.underlying108,Tryz.runUnderlying108,Tryz.sizeOf108,Tryz.isAgg108,Tryz.zeroValue108,Tryz.underlying110,Tryz.runUnderlying110,Tryz.sizeOf110,Tryz.isAgg110,Tryz.zeroValue110,Tryz.underlying112,Tryz.runUnderlying112,Tryz.sizeOf112,Tryz.isAgg112,Tryz.zeroValue112,Tryz.underlying94,Tryz.runUnderlying94,Tryz.sizeOf94,Tryz.isAgg94,Tryz.zeroValue94,Tryz.underlying91,Tryz.runUnderlying91,Tryz.sizeOf91,Tryz.isAgg91,Tryz.zeroValue91,Tryz.underlying89,Tryz.runUnderlying89,Tryz.sizeOf89,Tryz.isAgg89,Tryz.zeroValue89,Tryz.underlying116,Tryz.runUnderlying116,Tryz.sizeOf116,Tryz.isAgg116,Tryz.zeroValue116,Tryz.underlying92,Tryz.runUnderlying92,Tryz.sizeOf92,Tryz.isAgg92,Tryz.zeroValue92,Tryz.underlying117,Tryz.runUnderlying117,Tryz.sizeOf117,Tryz.isAgg117,Tryz.zeroValue117,Tryz.underlying137,Tryz.runUnderlying137,Tryz.sizeOf137,Tryz.isAgg137,Tryz.zeroValue137,Tryz.underlying139,Tryz.runUnderlying139,Tryz.sizeOf139,Tryz.isAgg139,Tryz.zeroValue139,Tryz.underlying0,Tryz.runUnderlying0,Tryz.sizeOf0,Tryz.isAgg0,Tryz.zeroValue0,Tryz.underlying3,Tryz.runUnderlying3,Tryz.sizeOf3,Tryz.isAgg3,Tryz.zeroValue3,Tryz.underlying4,Tryz.runUnderlying4,Tryz.sizeOf4,Tryz.isAgg4,Tryz.zeroValue4,Tryz.underlying9,Tryz.runUnderlying9,Tryz.sizeOf9,Tryz.isAgg9,Tryz.zeroValue9,Tryz.underlying20,Tryz.runUnderlying20,Tryz.sizeOf20,Tryz.isAgg20,Tryz.zeroValue20,Tryz.underlying21,Tryz.runUnderlying21,Tryz.sizeOf21,Tryz.isAgg21,Tryz.zeroValue21,aP,aP⟩
instance:Go.ConcR.Payload:=⟨3⟩
end Go.Proofs.YtfcjiloojkjaeaaGreatDoor
namespace Go.Proofs.YtfcjiloojkjaeaaGreatDoor
open Go.RowKit Go.Mt Go.Conc Go.Tt Go.Maps Go.Conc.Lib Go.ConcR.Gen
open Go.ConcR (KK wgBlock WgAt stA smA rd wr)
variable {K:Pr}{Q:Pr->Prop}{pin:List (Nat×aF)}{w:aE}{Ψ:Pr->gQ->aF->aE->Prop}
theorem BO.callF {d:pR}(H:d.Ok){base:List dH}{ds:Dk}(hQ:Up Q){fn:aO}{tmps:Array aF}{ops:Array aZ}{i:Nat}{rest:List Nat}{k:List eE}{l:gQ}{o:aZ}{g:aO}{args:Array cN}{kS:Array aM}(Mq:Array aF)
 (ho:ops[i]? =some o) (cD:dD o (dR ops tmps)=true) (hop:o.op=.call ⟨.value (.func g),args,kS⟩) (sZ:args.all (dP d.fs)=true) (ha:args.map (bH tmps []).eval=Mq) (lG:∀s,o.dst=some s->s∉pin.map (·.1)) (hc:CF d g Mq K l w Ψ)
 (hk:∀K' l' v w',K.le K'->Ψ K' l' v w'->BO (d.cx K' Q [] base ds pin) l' ⟨fn,(cC ⟨tmps,[]⟩ o.dst v).tmps,.inRegion ops rest::k,false⟩ w'):BO (d.cx K Q [] base ds pin) l ⟨fn,tmps,.inRegion ops (i::rest)::k,false⟩ w:=by
 obtain⟨fnf,cf,g1,g2,g3,g4,g5⟩:=hc.ex;refine BO.callN (H.iok hQ) ho cD hop (Callee.static _ _) sZ g1 g2 g3 g4 λn5 m' hm=>?_;rw[pR.sub_eq];have fin:∀(s':WS) todo,K.le s'.K->(s'.chs=[]/\∃v,(oH fnf.results.toList s'.T).run d.p s'.w=.ok v s'.w/\Ψ s'.K s'.l v s'.w)->d.bo (λR=>Q R/\n5.le R) (fx [] ds m'::base) s' g todo true:=λs' todo hl ⟨h2,v,h3,h4⟩=>by
  obtain⟨zDi,K',l',T',w'⟩:=s';simp only at*;subst h2;unfold pR.bo;simp only;rw[<-pR.sub_eq (pin:=pin)];refine BO.retN (C:=d.cx K' Q [] base ds pin) (H.iok hQ) (hm.upK hl _) rfl rfl (λs hs=>lG s (by rw[ho] at hs;exact hs)) g1 h3 ?_;have:=hk K' l' v w' hl h4;simp only[Fm.fin,ho,vC]
  cases hd:o.dst with
  |none=>rw[hd] at this;exact this
  |some s=>rw[hd] at this;exact this
 have e:(#[]:Array aF)++args.map (bH tmps []).eval++ #[]=Mq:=by rw[<-ha];simp
 rw[e];refine g5 (λR=>Q R/\n5.le R) (fx [] ds m'::base) [] (hQ.and n5) (λ_ h=>by cases h) (λs' hl x=>BO.fall (H.iok (hQ.and n5)) (fin s' [] hl x.2)) (λid k2 s' hl ee x=>by cases ee) (λs' todo hl x=>fin s' todo hl x.2)
def Wj:Go.Code:=(Tryz.f57.body).getD .skip
def rH20:Go.Code:=match Wj with| .seq (a) _=>a|_=>.skip
def rH21:Go.Code:=match Wj with| .seq _ (a)=>a|_=>.skip
def zDN:Wj=.seq (rH20) (rH21):=rfl
def zhw:Array Oper:=match rH20 with| .region _ ops _=>ops|_=>#[]
def rH20_eq:rH20=.region 0 zhw false:=rfl
def zBy:gN zhw.size=[0]:=rfl
abbrev zr5:Oper:=⟨none,.defer ⟨.value (.func 55),#[.tmp 0],#[94]⟩,0,"l6_office.go:292",#[],none⟩
def zEC:zhw[0]? =some zr5:=rfl
def zcY:Array Oper:=match rH21 with| .region _ ops _=>ops|_=>#[]
def rH21_eq:rH21=.region 1 zcY false:=rfl
def zAK:gN zcY.size=[0,1,2]:=rfl
abbrev oH21_0:Oper:=⟨some 3,.load 63 (.tmp 1),63,"l6_office.go:293",#[],none⟩
def zED:zcY[0]? =some oH21_0:=rfl
abbrev oH21_1:Oper:=⟨some 4,.load 31 (.tmp 2),31,"l6_office.go:293",#[],none⟩
def zBm:zcY[1]? =some oH21_1:=rfl
abbrev oH21_2:Oper:=⟨some 5,.call ⟨.value (.func 58),#[.tmp 3,.tmp 4],#[63,31]⟩,0,"l6_office.go:293",#[⟨0,.data⟩,⟨1,.data⟩],none⟩
def zJz:zcY[2]? =some oH21_2:=rfl
theorem zEz {N:Nat}{W:List fG}{D:aE->Prop}{qs:List Nat}:(Ce N W D).act (.wk qs W.length)=.done:=by
 show eT N W (.wk qs W.length)=_;simp[eT]
theorem zAi {e:Gd}(H:e.d.Ok)(Cc:e.ty=rI.tWg){lo hb gh ge n c:Nat}{A:Option bL}{v:fL}{o:jD}{es:List dB}{ln qn:List Nat}(h:zcp e o es ln qn lo hb v w K A n c)(hh:w.cell? ⟨gh,0,none⟩=some (.pointer (some ⟨hb,0,none⟩)))(he:w.cell? ⟨ge,0,none⟩=some (.slice A n c))(hQ:Up Q)
 (tJ:∀K' R τ W w' v',K.le K'->Q R->cT (SF gD) K' R (oZ aK) e.St w' W->IQ e.W0 e.StI e.Shun e.Wg e.SS e.R0 e.Fz e.Wf e.qs [] R τ W->bE w' lo hb v' (uW o es ln qn qn.length)->gC v' (uW o es ln qn qn.length)->bM hb v w v' w'->e.D W):
 BO (e.d.cx K Q [] [wF aK] ⟨[],.deferred,aQ⟩ [(0,.pointer (some ⟨e.Wg,0,none⟩))]) (.wk e.qs 0) ⟨57,#[.nilFunc,.pointer (some ⟨gh,0,none⟩),.pointer (some ⟨ge,0,none⟩),aA,aA,aA],[.code Wj],false⟩ w:=by
 let C:=e.d.cx K Q [] [wF aK] ⟨[],.deferred,aQ⟩ [(0,.pointer (some ⟨e.Wg,0,none⟩))]
 have hI:fE C:=H.iok hQ
 let d1:=dcall 55 #[.pointer (some ⟨e.Wg,0,none⟩)]
 have Ma:fE (C.dfr d1):=hI.dfr d1;have F:vM C.P C.fs:=mP;show BO C _ _ _;rw[zDN];refine BO.seq hI ?_;rw[rH20_eq];refine BO.regs hI _ zBy ?_;refine BO.defer hI (d:=d1) zEC rfl rfl (λR w W bQ _ _ Dj aV=>?_) ?_
 .have h0:=Dj (0,.pointer (some ⟨e.Wg,0,none⟩)) (by show _∈[_];simp)
  have:=zqd (p:=C.p) (o:=zr5) (ρ:=(bH bQ C.ds.ds).eval) rfl rfl aV;simp only[uS,fK,tL,wH] at this;simp only at h0;rw[h0] at this;exact this
 refine BO.regEnd Ma ?_;rw[rH21_eq];refine BO.regs Ma _ zAK ?_;refine BO.op (C:=C.dfr d1) F Ma zED rfl aP zxA (λT=>⟨.pointer (some ⟨hb,0,none⟩),Tt.tp w T 0,.inl (zav (a:=⟨gh,0,none⟩) rfl rfl (Tryz.isAgg63 _) hh),?_⟩);simp only[cC,gE,dV,dW];refine BO.tape ?_ T 0;clear T;refine BO.op (C:=C.dfr d1) F Ma zBm rfl aP (by intro s hs;cases hs;show(4:Nat)∉([0]:List Nat);decide) (λT=>⟨.slice A n c,Tt.tp w T 0,.inl (zav (a:=⟨ge,0,none⟩) rfl rfl (Tryz.isAgg31 _) he),?_⟩);simp only[cC,gE,dV,dW];refine BO.tape ?_ T 0;clear T;have eC:C.dfr d1=e.d.cx K Q [] [wF aK] ⟨[d1],.deferred,aQ⟩ [(0,.pointer (some ⟨e.Wg,0,none⟩))]:=rfl;rw[eC];refine BO.callF H hQ #[.pointer (some ⟨hb,0,none⟩),.slice A n c] zJz rfl rfl aP (by simp only[uS,fK,tL,wH];rfl) (by intro s hs;cases hs;show(5:Nat)∉([0]:List Nat);decide) (cf_work H h) λK' l' y w' hl hx=>?_;obtain⟨rfl,v',hA,hm,hT⟩:=hx;have Gk:fE (e.d.cx K' Q [] [wF aK] ⟨[d1],.deferred,aQ⟩ [(0,.pointer (some ⟨e.Wg,0,none⟩))]):=H.iok hQ;refine BO.regEnd Gk (BO.fall Gk ?_);refine BO.doneD (C:=e.d.cx K' Q [] [wF aK] ⟨[d1],.deferred,aQ⟩ [(0,.pointer (some ⟨e.Wg,0,none⟩))]) (I0:=λR τ W=>IQ e.W0 e.StI e.Shun e.Wg e.SS e.R0 e.Fz e.Wf e.qs [] R τ W/\Q R) zc7 rfl rfl Cc ?_ ?_ rfl rfl Tryz.func57 rfl zEz (λR τ W hr hi=>tJ K' R τ W w' v' hl hi.2 hr hi.1 hA hm hT)
 .funext R τ w
  show((IQ _ _ _ _ _ _ _ _ _ _ R τ w/\WgLive e.ty _ w)/\Q R)=((IQ _ _ _ _ _ _ _ _ _ _ R τ w/\Q R)/\WgLive _ _ w);rw[Cc];exact propext ⟨λ⟨⟨a,b⟩,c⟩=>⟨⟨a,c⟩,b⟩,λ⟨⟨a,c⟩,b⟩=>⟨⟨a,b⟩,c⟩⟩
 .have hx:=zgw (ty:=rI.tWg) (W0:=e.W0) (St:=e.StI) (Shun:=e.Shun) (Wg:=e.Wg) (SS:=e.SS) (R0:=e.R0) (Fz:=e.Fz) (Wf:=e.Wf) (qs:=e.qs) (chs:=[]) H.ss H.fz H.low
  exact⟨λR τ W aV h s=>⟨hx.suf _ _ _ _ h.1 s,h.2⟩,λR τ W a v h ha=>⟨hx.cell _ _ _ _ _ h.1 ha,h.2⟩,λR τ W d h=>⟨hx.at_ _ _ _ d h.1,h.2⟩,λR τ W h=>hx.rel _ _ _ h.1⟩
section
variable {L:Type}{C:Cx L}{l:L}
variable {fn:aO}{tmps:Array aF}{c:vR}{k:List eE}{w:aE}
def BO.pieceQ (F:vM C.P C.fs)(hI:fE C)(hc:oG C.p ⟨C.fs,C.gs,true⟩ c=true)(hf:vX C.p fn)(dE:xM C.S c=true)
 (qX:∀(T:jV) (Q:nZ->uA->aE->Prop),qC (∀a' w',BO C l ⟨fn,a'.tmps,k,false⟩ w'->Q .normal a' w')->Code.wp C.p c Q ⟨tmps,[]⟩ (Tt.tp w T 0)):BO C l ⟨fn,tmps,.code c::k,false⟩ w:=
 BO.piece F hI hc hf dE λT=>qX T _ (aD λa' w' h=>⟨rfl,h⟩)
theorem BO.pV {c':vR}(F:vM C.P C.fs)(hI:fE C)(hf:vX C.p fn)
 (qX:∀(w1:aE) (T:jV),w1=Tt.tp w T 0->∀Q:nZ->uA->aE->Prop,qC (∀a' w',BO C l ⟨fn,a'.tmps,k,false⟩ w'->Q .normal a' w')->Code.wp aK c' Q ⟨tmps,[]⟩ w1)
 (e:c=c':=by conv=>lhs;whnf) (hp:C.p=Tryz.prog:=by exact rfl) (hc:oG C.p ⟨C.fs,C.gs,true⟩ c=true:=by kernel_rfl) (dE:xM C.S c=true:=by kernel_rfl):BO C l ⟨fn,tmps,.code c::k,false⟩ w:=by
 subst e;exact BO.pieceQ F hI hc hf dE λT Q HQ=>by rw[hp];exact qX _ T rfl Q HQ
end
structure IOp (Wg:Nat)(R:Pr)(τ:cF)(W:aE):Prop where
 rel:∀a b,R a b->b≠Wg
 lt:Wg<W.heap.size
theorem iop_ix {ty:aM}{Wg:Nat}:IX ty Wg (IOp Wg):=
 ⟨λR τ W aV h s=>⟨h.rel,lC h.lt s.size⟩,λR τ W a v h ha=>⟨h.rel,by rw[I2];exact h.lt⟩,λR τ W d h=>⟨h.rel,h.lt⟩,λR τ W h=>h.rel⟩
theorem zdT {L:Type}{C:Cx L}(hQ:Up Q)(hC:C.I=λR τ W=>yS C.ty C.Wg (IOp C.Wg) R τ W/\Q R):fE C:=by
 refine⟨λR τ W aV h s=>?_,λR τ W R1 W1 h ht hs=>?_⟩<;>rw[hC] at*
 .exact⟨⟨⟨h.1.1.rel,lC h.1.1.lt s.size⟩,s.live h.1.2⟩,h.2⟩
 .refine⟨⟨⟨λa b x=>?_,lC h.1.1.lt hs.size⟩,?_⟩,hQ R R1 hs.le h.2⟩
  .rcases hs.new a b x with y|⟨y,_⟩
   .exact h.1.1.rel a b y
   .have:=h.1.1.lt;omega
  .obtain⟨a,b,hl⟩:=h.1.2
   exact⟨a,b,(hs.keep C.Wg h.1.1.lt λa x=>absurd rfl (h.1.1.rel a _ x)).trans hl⟩
def fZ (Wg N:Nat)(W:List fG)(D:aE->Prop)(Fin:bC->aE->Prop)(St:Nat->Prop)(K:Pr)(Q:Pr->Prop)(base:List dH)(ds:Dk)(pin:List (Nat×aF)):Cx gQ:=
 {p:=aK,gs:=Bq,fs:=gD,ty:=rI.tWg,Wg:=Wg,A:=Ce N W D,Fin:=Fin,main:=false,base:=base,ds:=ds,K:=K,St:=St,I:=λR τ w=>yS rI.tWg Wg (IOp Wg) R τ w/\Q R,pin:=pin}
def L6:Go.Code:=(Tryz.f56.body).getD .skip
def rOP0:Go.Code:=match L6 with| .seq (a) _=>a|_=>.skip
def rOP1:Go.Code:=match L6 with| .seq _ (.seq (a) _)=>a|_=>.skip
def rOP2:Go.Code:=match L6 with| .seq _ (.seq _ (.block _ (.loop (.seq (a) _))))=>a|_=>.skip
def rOP3:Go.Code:=match L6 with| .seq _ (.seq _ (.block _ (.loop (.seq _ (.seq _ (.block _ (.seq (a) _)))))))=>a|_=>.skip
def rOP4:Go.Code:=match L6 with| .seq _ (.seq _ (.block _ (.loop (.seq _ (.seq _ (.block _ (.seq _ (.seq (.seq (a) _) _))))))))=>a|_=>.skip
def rOP5:Go.Code:=match L6 with| .seq _ (.seq _ (.block _ (.loop (.seq _ (.seq _ (.block _ (.seq _ (.seq (.seq _ (.cond _ (a) _)) _))))))))=>a|_=>.skip
def rOP6:Go.Code:=match L6 with| .seq _ (.seq _ (.block _ (.loop (.seq _ (.seq _ (.block _ (.seq _ (.seq _ (a)))))))))=>a|_=>.skip
def zHA:L6=.seq (rOP0) (.seq (rOP1) (.block 0 (.loop (.seq (rOP2) (.seq (.cond (.tmp 6) (.skip) (.exit 0)) (.block 1 (.seq (rOP3) (.seq (.seq (rOP4) (.cond (.tmp 10) (rOP5) (.skip))) (rOP6))))))))):=rfl
def zeT:Array Oper:=match rOP2 with| .region _ ops _=>ops|_=>#[]
def zry:rOP2=.region 2 zeT false:=rfl
def zrH:gN zeT.size=[0,1]:=rfl
abbrev oOP2_0:Oper:=⟨some 5,.recv 122 (.tmp 4) true,0,"l6_office.go:89",#[],none⟩
def zox:zeT[0]? =some oOP2_0:=rfl
abbrev oOP2_1:Oper:=⟨some 6,.extract (.tmp 5) 1,4,"l6_office.go:89",#[⟨0,.data⟩],none⟩
def zh2:zeT[1]? =some oOP2_1:=rfl
def Y8:Array Oper:=match rOP6 with| .region _ ops _=>ops|_=>#[]
def zqY:rOP6=.region 6 Y8 false:=rfl
def zyl:gN Y8.size=[0,1,2,3]:=rfl
abbrev oOP6_0:Oper:=⟨some 13,.fieldAddr 124 (.tmp 3) 2,0,"l6_office.go:93",#[],none⟩
def zxT:Y8[0]? =some oOP6_0:=rfl
abbrev oOP6_1:Oper:=⟨some 14,.load 84 (.tmp 13),84,"l6_office.go:93",#[⟨0,.data⟩],none⟩
def zxX:Y8[1]? =some oOP6_1:=rfl
abbrev oOP6_2:Oper:=⟨some 15,.move (.tmp 2),3,"l6_office.go:93",#[],none⟩
def zoe:Y8[2]? =some oOP6_2:=rfl
abbrev oOP6_3:Oper:=⟨none,.send (.tmp 14) (.tmp 15),0,"l6_office.go:93",#[⟨1,.data⟩,⟨2,.data⟩],none⟩
def zuP:Y8[3]? =some oOP6_3:=rfl
def Zk:vX aK 56:=⟨_,Tryz.func56,.inl rfl⟩
def ze3:Go.Code:=.seq rOP2 (.seq (.cond (.tmp 6) .skip (.exit 0)) (.block 1 (.seq rOP3 (.seq (.seq rOP4 (.cond (.tmp 10) rOP5 .skip)) rOP6))))
theorem info_q:∃ie,aK.info? 124=some ie/\ie.zero=some (.agg #[.int .i64 0,.int .i64 0,.chan none]):=by
 have h:(aK.info? 124).bind (·.zero)=some (.agg #[.int .i64 0,.int .i64 0,.chan none]):=aP;obtain⟨ie,h1,h2⟩:=Option.bind_eq_some_iff.1 h;exact⟨ie,h1,h2⟩
def zo3:aK.underlying 122=some (.chan .recv 124):=aP
def vr3 {S:aO->Prop}{R:Pr}{a b:Int}{x y:aF}(h:VR S K R x y):VR S K R (.agg #[.int .i64 a,.int .i64 b,x]) (.agg #[.int .i64 a,.int .i64 b,y]):=
 .agg' (((bK.empty.push (.int _ _)).push (.int _ _)).push h)
section
variable {Wg N:Nat}{W:List fG}{D:aE->Prop}{Fin:bC->aE->Prop}{St:Nat->Prop}{Q:Pr->Prop}{base:List dH}{gc c:Nat}
theorem op_loop {K0:Pr}(zvQ:K0 gc c)(hQ:Up Q)(Qm:∀K T todo w,K0.le K->BO (fZ Wg N W D Fin St K Q base .nil []) .oD ⟨56,T,todo,true⟩ w):
 ∀(m:Nat) (K:Pr) (w:aE) (call:Int) (u1 u3 u5 u6 u7 u8 u9 gU gH gK gF gJ gI:aF),K0.le K->BO (fZ Wg N W D Fin St K Q base .nil []) (.op c call m) ⟨56,#[.chan (some gc),u1,.int .i64 call,u3,.chan (some gc),u5,u6,u7,u8,u9,gU,gH,gK,gF,gJ,gI],[.code ze3,.inLoop ze3,.inBlock 0],false⟩ w:=by
 have F:∀K,vM (fZ Wg N W D Fin St K Q base .nil []).P (fZ Wg N W D Fin St K Q base .nil []).fs:=λK=>mP;have hI:∀K,fE (fZ Wg N W D Fin St K Q base .nil []):=λK=>zdT hQ rfl;obtain⟨ie,jU,hz⟩:=info_q;intro m
 induction m with
 |zero=>
  intro K w call u1 u3 u5 u6 u7 u8 u9 gU gH gK gF gJ gI hL;have hK:K gc c:=hL _ _ zvQ;unfold ze3;refine BO.seq (hI K) ?_;rw[zry];refine BO.regs (hI K) _ zrH ?_;refine BO.recvK rfl (hI K) zox rfl rfl zo3 jU hz (λR=>vr3 (.chan .none)) rfl rfl hK Jo rfl (λv hv=>absurd hv.2 (Nat.lt_irrefl 0)) (λ_=>?_);simp only[cC,gE,dV,dW];refine BO.op (F K) (hI K) zh2 rfl aP Jo (λT=>⟨.bool false,Tt.tp w T 0,.inl Pn,?_⟩);simp only[cC,gE,dV,dW];refine BO.regEnd (hI K) ?_;refine BO.seq (hI K) ?_;refine BO.cond (hI K) (t:=false) rfl rfl ?_;refine BO.exit (hI K) (k':=[]) rfl (BO.fall (hI K) (Qm K _ _ _ hL))
 |succ m ih=>
  intro K w call u1 u3 u5 u6 u7 u8 u9 gU gH gK gF gJ gI hL;have hK:K gc c:=hL _ _ zvQ;unfold ze3;refine BO.seq (hI K) ?_;rw[zry];refine BO.regs (hI K) _ zrH ?_;refine BO.recvK rfl (hI K) zox rfl rfl zo3 jU hz (λR=>vr3 (.chan .none)) rfl rfl hK Jo rfl (λv hv=>?_) (λ_=>?_)
  .obtain⟨hs,_⟩:=hv
   obtain⟨⟨kd,cl,a⟩,hu⟩:=Option.isSome_iff_exists.1 hs;obtain rfl:=unQ_inv hu;refine⟨a,by show a∈Qb (L9 kd cl a);simp[Qb,zgy],λK' ga w' hle zbv jR=>⟨.agg #[.int .i64 kd,.int .i64 cl,.chan (some ga)],λR=>vr3 (.chan (.some (.inr zbv))),?_⟩⟩;have rL:K' gc c:=hle _ _ hK;have zaE:=vP hL hle;show BO (fZ Wg N W D Fin St K' Q base .nil []) (Tc c call (m+1) (L9 kd cl a)) _ w';simp only[Tc,zgy,Nat.add_sub_cancel];simp only[cC,gE,dV,dW];refine BO.op (F K') (hI K') zh2 rfl aP Jo (λT=>⟨.bool true,Tt.tp w' T 0,.inl Pn,?_⟩);simp only[cC,gE,dV,dW];refine BO.regEnd (hI K') ?_;refine BO.seq (hI K') ?_;refine BO.cond (hI K') (t:=true) rfl rfl ?_;refine BO.skip (hI K') ?_;refine BO.block (hI K') ?_;refine BO.seq (hI K') ?_;obtain⟨w1,fB⟩:=aU (Tt.tp w' T 0);rw[<-fB];clear fB;refine BO.pV (F K') (hI K') Zk (λw2 T1 fX Q' cY=>?_);clear fX;simp only[recvd,if_true];go_wp2;refine cY.o _ _ ?_;clear cY;obtain⟨gb,eV⟩:=aU w2.heap.size;obtain⟨w3,iU⟩:=aU (w2.alloc (.cells #[.int .i64 kd,.int .i64 cl,.chan (some ga)] 124));have kg:w3.heap[gb]? =some (.cells #[.int .i64 kd,.int .i64 cl,.chan (some ga)] 124):=by rw[iU,eV];exact lQ _ _
   rw[<-eV,<-iU];clear iU eV;refine BO.seq (hI K') ?_;refine BO.seq (hI K') ?_;have k0:=aJ kg 0;have k1:=aJ kg 1;have k2:=aJ kg 2;by_cases o5:kd=1
   .refine BO.pV (F K') (hI K') Zk (λwt T1 cD Q' cY=>?_)
    subst cD;have zmU:(Tt.tp w3 T1 0).cell? ⟨gb,0,none⟩=some (.int .i64 kd):=k0;subst o5;go_wp2;refine cY.o _ _ ?_;clear cY zmU;refine BO.cond (hI K') (t:=true) rfl rfl ?_;refine BO.pV (F K') (hI K') Zk (λwt T2 cD Q' cY=>?_);subst cD;have zDk:(Tt.tp (Tt.tp w3 T1 0) T2 0).cell? ⟨gb,1,none⟩=some (.int .i64 cl):=k1;go_wp2;refine cY.o _ _ ?_;clear cY zDk;rw[if_pos trivial];rw[zqY];refine BO.regs (hI K') _ zyl ?_;refine BO.op (F K') (hI K') zxT rfl aP Jo (λT3=>⟨.pointer (some ⟨gb,2,none⟩),_,.inl Pn,?_⟩);simp only[cC,gE,dV,dW];refine BO.op (F K') (hI K') zxX rfl aP Jo (λT4=>⟨.chan (some ga),_,.inl (zav (a:=⟨gb,2,none⟩) rfl rfl (zx4 _) k2),?_⟩);simp only[cC,gE,dV,dW];refine BO.op (F K') (hI K') zoe rfl aP Jo (λT5=>⟨.int .i64 cl,_,.inl Pn,?_⟩);simp only[cC,gE,dV,dW];refine BO.send rfl (hI K') (l':=.op c cl m) zuP rfl rfl rfl rfl zbv rfl zlk rfl (λR v' hv=>⟨by cases hv;rfl,rfl,rfl⟩) ?_;refine BO.regEnd (hI K') ?_;refine BO.inBlock (hI K') ?_;refine BO.inLoop (hI K') ?_;exact ih K' _ cl _ _ _ _ _ _ _ _ _ _ _ _ _ zaE
   .refine BO.pV (F K') (hI K') Zk (λwt T1 cD Q' cY=>?_)
    subst cD;have zmU:(Tt.tp w3 T1 0).cell? ⟨gb,0,none⟩=some (.int .i64 kd):=k0;have qP:(kd==1)=false:=by simpa using o5
    go_wp2;refine cY.o _ _ ?_;clear cY zmU;refine BO.cond (hI K') (t:=false) rfl (by first|rfl|(simp[wH,o5])) ?_;refine BO.skip (hI K') ?_;rw[if_neg o5];rw[zqY];refine BO.regs (hI K') _ zyl ?_;refine BO.op (F K') (hI K') zxT rfl aP Jo (λT3=>⟨.pointer (some ⟨gb,2,none⟩),_,.inl Pn,?_⟩);simp only[cC,gE,dV,dW];refine BO.op (F K') (hI K') zxX rfl aP Jo (λT4=>⟨.chan (some ga),_,.inl (zav (a:=⟨gb,2,none⟩) rfl rfl (zx4 _) k2),?_⟩);simp only[cC,gE,dV,dW];refine BO.op (F K') (hI K') zoe rfl aP Jo (λT5=>⟨.int .i64 call,_,.inl Pn,?_⟩);simp only[cC,gE,dV,dW];refine BO.send rfl (hI K') (l':=.op c call m) zuP rfl rfl rfl rfl zbv rfl zlk rfl (λR v' hv=>⟨by cases hv;rfl,rfl,rfl⟩) ?_;refine BO.regEnd (hI K') ?_;refine BO.inBlock (hI K') ?_;refine BO.inLoop (hI K') ?_;exact ih K' _ call _ _ _ _ _ _ _ _ _ _ _ _ _ zaE
  .simp only[cC,gE,dV,dW]
   refine BO.op (F K) (hI K) zh2 rfl aP Jo (λT=>⟨.bool false,Tt.tp w T 0,.inl Pn,?_⟩);simp only[cC,gE,dV,dW];refine BO.regEnd (hI K) ?_;refine BO.seq (hI K) ?_;refine BO.cond (hI K) (t:=false) rfl rfl ?_;refine BO.exit (hI K) (k':=[]) rfl (BO.fall (hI K) (Qm K _ _ _ hL))
end
end Go.Proofs.YtfcjiloojkjaeaaGreatDoor
