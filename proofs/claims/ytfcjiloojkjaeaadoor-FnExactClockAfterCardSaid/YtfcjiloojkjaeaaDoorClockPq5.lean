/-
  Part 5 of what stands behind the last text.
-/
import Derived.Lib.Overlaps
import Derived.Lib.AppendZerosOnto
import Derived.Test.YtfcjiloojkjaeaaDoorClockPq4
set_option linter.all false
set_option maxHeartbeats 16000000
set_option maxRecDepth 100000
open Array renaming getD_eq_getD_getElem?→tD,getElem?_eq_none→G4,getElem?_eq_some_iff→dM,getElem?_setIfInBounds_ne→jM,getElem?_toList→zR,length_toList→De,replicate→nD,size_append→Ua,toList_append→N5
open Bool renaming and_eq_true→fN,false_eq_true→iU,or_eq_true→Dq
open Go renaming Act→tE,Addr→bO,ChanDir→Mr,Code→vJ,Exit→nQ,Frame→dE,FuncId→aN,Goroutine→bC,Item→dW,Oper→aY,Operand→cM,Program→bS,Tape→kK,TypeId→aM,TypeInfo→wI,Value→aF,World→aE,execOp→aO,heap_alloc_new→lO,run_underlying→wU,setRow_heap→Jb,setRow_other→zfW,size_zeroCells→Xz,undef→aA,yielded→dN
open Go.Act renaming eval→vW,mk→bH,put→b7
open Go.Addr renaming add_lit→Jt
open Go.Builtin renaming copy_→C8,firstCells→Sl,zeroCells→pS
open Go.Code renaming region→Dl
open Go.Conc renaming listed→wK,seen_none→Bm,stepG_value→zlr
open Go.Deferred renaming ofValue→Bg
open Go.Extern renaming find→zwG,findNext→zu9
open Go.Extern.SlicesOverlaps renaming overlaps→zmh
open Go.Instr renaming lookup→yP,slice→Ub,sliceAt→Ui,sliceBound→Lg,sliceBounds→Xp
open Go.Operand renaming tmp→zhQ
open Go.Proofs.Tryd renaming checked→vD,f23→zef,f65→ztn,func23→zkp,func25→zg3,func46→zqi,func47→zro,func65→zrm,func66→zqv,func67→zut,func68→zra,func74→zsM,func83→zqC,isAgg61→zpL,prog→aK,underlying52→Xd,underlying61→zsD
open Go.Region renaming binds→Ej,ready→Gi,schedule→S9,wanted→dA
open Go.Region.linearise renaming go→zep
open Go.RowKit.Below renaming heap_setCell→dZ,refl→eR
open Go.Value renaming bool→Nd,int→Oi,slice→Sm
open Go.World renaming frozen?→To,setChan→Ks,setRow→zfR,shape?→zb1,size_setCell→sE
open List renaming all_eq_true→tJ,append_assoc→G8,drop_of_length_le→zsp,findIdx?_eq_some_iff_getElem→zma,getD_cons_succ→Cm,getD_cons_zero→C4,getD_eq_getElem?_getD→Jl,getElem?_append_left→yO,getElem?_append_right→zS,getElem?_drop→Vf,getElem?_eq_getElem→lP,getElem?_eq_none→Gk,getElem?_eq_some_iff→jW,getElem?_take→Uz,getElem_mem→zrU,idxOf?→zmg,length_append→gJ,length_cons→pG,length_drop→xS,length_take→rJ,map_append→If,map_cons→fG,map_drop→zrl,map_nil→tH,map_take→zv1,map_toArray→uG,mem_append→Dv,mem_cons→iX,mem_filter→H5,mem_of_getElem?→dS,mem_of_mem_drop→zcI,mem_range→B6,mem_singleton→sC,not_mem_nil→lX,range→gD,replicate→zoO,setIfInBounds_toArray→gK,set_cons_succ→dX,set_cons_zero→dV,size_toArray→Ec,takeWhile_cons→zbx,takeWhile_prefix→znC,take_append_of_le_length→Dp,take_of_length_le→yR,take_take→Nv
open Nat renaming add_sub_cancel_left→zp8,add_zero→Ra,le_refl→aZ,le_succ→Pu,le_trans→eP,lt_of_lt_of_le→lA,lt_or_ge→nM,lt_trichotomy→zu6,min→zaD,min_eq_left→zxl,sub_self→M9,zero_add→rL,zero_le→lB
open Option renaming bind_some→xI,getD_none→zvo,getD_some→zC
open Option.some renaming inj→cD
noncomputable section
namespace Go
theorem kH{P:Prop}(h:P:=by rw[hz];decide):P:=h
theorem xY{P:Prop}(h:P:=by rw[lM.o];decide):P:=h
theorem Hr{P:Prop}(h:P:=by intro s hs;cases hs;exact lX):P:=h
theorem Ns{P:Prop}(h:P:=by first|rfl|(simp only[vW];rfl)):P:=h
theorem zdk{P:Prop}(h:P:=by show _<=((Tt.tp w' T 0).alloc _).heap.size;rw[qS];exact Pu _):P:=h
theorem Oc{P:Prop}(h:P:=by unfold aO;go_simp;try rfl):P:=h
theorem zqR{P:Prop}(h:P:=by have:(bF xs).length=xs.length*2:=Er bJ.cells (s:=2) (λ_=>rfl) xs;omega):P:=h
theorem Ux{P:Prop}(h:P:=by rw[HF.o];decide):P:=h
theorem zsf{P:Prop}(h:P:=by intro s hs;cases hs;show(3:Nat)∉([0]:List Nat);decide):P:=h
theorem zpp{P:Prop}(h:P:=by rw[cH,show zaD 1 (n+1-i)=1 from zxl (by omega)];rfl):P:=h
theorem zel{P:Prop}(h:P:=by simp only[gJ];omega):P:=h
theorem zs2{P:Prop}(h:P:=by have e:b=hb:=e;subst e;exact dS (i:=0) rfl):P:=h
theorem zh4{P:Prop}(h:P:=by intro s hs;cases hs):P:=h
theorem zkq{P:Prop}(h:P:=by have:=Gh.o;omega):P:=h
end Go
namespace Go.Mt
open Go.Conc Go.Tt
open Go.ConcR (KK wgBlock WgAt stA smA rd wr)
section
variable {L:Type}{C:Cx L}{l l':L}
def Cx.upK (C:Cx L)(K':Pr)(I':Pr->cE->aE->Prop):Cx L:={C with K:=K',I:=I'}
variable {m:Fm}{w:aE}
theorem BO.note (ha:C.alone=none){can:L->Prop}(pN:C.A.act l=.note can)(hc:can l')(h:BO C l' m w):BO C l m w:=by
 intro R W m' τ hw hm ht hi;have:=h R W m' τ hw hm ht hi;rw[Cx.B_none ha] at this⊢;refine bZ.usr rfl ?_;unfold l9;rw[pN];exact⟨l',hc,this⟩
variable {S:aN->Prop}{R:Pr}{St:Nat->Prop}
theorem cT.alR {K:Pr}{G:Gp}{W:aE}(h:cT S K R G St w W)(o:Obj):cT S K R G St w (W.alloc o):=by
 refine⟨h.inj,h.inj',λa b x=>⟨(h.lt a b x).1,by rw[qS];exact Nat.lt_succ_of_lt (h.lt a b x).2⟩,h.low,⟨h.gle.1,by rw[qS];exact Nat.le_succ_of_le h.gle.2⟩,λa b x=>?_,h.rest,h.st,h.np,h.tb⟩;obtain⟨o1,o2,h1,h2,h3⟩:=h.cont a b x;exact⟨o1,o2,h1,(Dm (h.lt a b (.inl x)).2).trans h2,h3⟩
variable {c:Nat}
theorem cT.setC {K:Pr}{G:Gp}{W:aE}(h:cT S K R G St w W)(hc:∀a,¬R a c)(cap:Nat)(Ix:Array aF)(cl:Bool)(s r:Nat)(tm:Bool):cT S K R G St w (W.setChan c cap Ix cl s r tm):=by
 have cH:(W.setChan c cap Ix cl s r tm).heap.size=W.heap.size:=by simp[Ks]
 refine⟨h.inj,h.inj',λa b x=>⟨(h.lt a b x).1,by rw[cH];exact(h.lt a b x).2⟩,h.low,⟨h.gle.1,by rw[cH];exact h.gle.2⟩,λa b x=>?_,h.rest,h.st,h.np,h.tb⟩;obtain⟨o1,o2,h1,h2,h3⟩:=h.cont a b x;refine⟨o1,o2,h1,?_,h3⟩;have aT:c≠b:=λe=>hc a (e▸x);simp only[Ks,jM aT];exact h2
def FmW.upK {m':Fm}(h:FmW C R m m'){K':Pr}(hK:C.K.le K')(I':Pr->cE->aE->Prop):FmW (C.upK K' I') R m m':=⟨h.fn,h.todo,h.ret,bK.monoK hK h.tmps,h.pins⟩
variable {fn:aN}{tmps:Array aF}{ops:Array aY}{i:Nat}{rest:List Nat}{k:List dW}{o:aY}{e:aM}{dir:Mr}{ie:wI}{I':Nat->Pr->cE->aE->Prop}
theorem BO.makeK (hI:fB C){t:aM}(ho:ops[i]? =some o)(cC:dA o (dN ops tmps)=true)
 (hop:o.op=.makeChan t (.const (.int .i64 0))) (zdc:C.p.underlying t=some (.chan dir e)) (jL:C.p.info? e=some ie) (lD:∀s,o.dst=some s->s∉C.S) 
 (zlq:∀R τ W,C.I R τ W->uZ τ R C.St->(∀a b,R a b->b<W.heap.size)->I' W.heap.size R (τ.grow W (W.alloc (.chan 0 #[] false 0 0 false))) (W.alloc (.chan 0 #[] false 0 0 false)))
 (h:∀c,BO (C.upK (C.K.add w.heap.size c) (I' c)) l ⟨fn,(b7 ⟨tmps,[]⟩ o.dst (.chan (some w.heap.size))).tmps,.inRegion ops rest::k,false⟩ (w.alloc oM)):BO C l ⟨fn,tmps,.inRegion ops (i::rest)::k,false⟩ w:=by
 intro R W m' τ hw hm ht hi;obtain⟨fn',bQ,yJ,x3⟩:=m';obtain rfl:=hm.fn;obtain rfl:=hm.todo;obtain rfl:=hm.ret;have hb:(C.ds.base fn).kind≠ .early:=C.ds.ok;have uH:=Hd (C:=C) hm.tmps cC;rw[mE];refine Cx.ownQ rfl λaV s=>?_;have dH:C.Rel R w aV:=Cx.Rel.suf (C:=C) hw ht s;have yH:=hI.suf _ _ _ _ hi s;have e1:(aO (bH bQ C.ds.ds).eval o).run C.p aV=.ok (.value (.chan (some aV.heap.size))) (aV.alloc (.chan 0 #[] false 0 0 false))/\(aO (bH bQ C.ds.ds).eval o).events C.p aV #[]=#[]:=by
  obtain⟨dst,yF,type,pos,after,guard⟩:=o;simp only at hop;subst hop;have hm:(Instr.makeChan t (.int .i64 0)).run C.p aV=_:=run_makeChan (P:=C.p) (w:=aV) zdc jL .i64 0 aD aD;have hv:=events_makeChan (P:=C.p) (w:=aV) zdc jL .i64 0 aD aD #[];exact⟨run_bv hm,ev_bv hm hv⟩
 have aX:=zlr (main:=C.main) (rest:=rest) (k:=k) (cs:=C.base) ho uH hb e1.1;unfold wK at aX;rw[e1.2,Bm] at aX;refine⟨_,aV.alloc (.chan 0 #[] false 0 0 false),_,aX,rfl,⟨rfl,rfl,rfl,by rw[qS];omega,λb hb _=>Dm hb⟩,λe he=>by simp at he,?_⟩;have Dz:b7 ⟨bQ,C.ds.ds⟩ o.dst (.chan (some aV.heap.size))=⟨(b7 ⟨bQ,C.ds.ds⟩ o.dst (.chan (some aV.heap.size))).tmps,C.ds.ds⟩:=by cases o.dst<;>rfl
 rw[Dz,<-mE];have aP:∀a b,R.or C.K a b->b<aV.heap.size:=λa b x=>(dH.lt a b x).2;have fQ:cT (SF C.fs) (C.K.add w.heap.size aV.heap.size) R (oR C.p) C.St (w.alloc oM) (aV.alloc (.chan 0 #[] false 0 0 false)):=cT.pushK (cT.alR dH _) (by rw[qS];omega) λa x=>by have:=aP a _ x;omega
 refine h aV.heap.size R _ ⟨fn,_,_,false⟩ _ fQ ⟨rfl,rfl,rfl,Hh (C:=C.upK _ (I' aV.heap.size)) (bK.monoK (Pr.le_add _ _ _) hm.tmps) (.chan (.some (.inr (.inr ⟨rfl,rfl⟩)))),Is (C:=C) hm.pins lD⟩ (λa b x=>⟨(ht a b x).1,λz=>.inl ((ht a b x).2 z)⟩) (zlq R τ aV yH ht λa b x=>aP a b (.inl x))
def cE.cut (τ:cE)(ps:List Nat):cE:={τ with own:=λb=>τ.own b/\b∉ps}
variable {I':Pr->cE->aE->Prop}{x:cM}{g:Nat}{okv:aF->Prop}{pub:aF->List Nat}
theorem BO.sendP (ha:C.alone=none)(hI:fB C){y:cM}{nx:aF->L}{ps:List Nat}
 (ho:ops[i]? =some o) (cC:dA o (dN ops tmps)=true) (hop:o.op=.send x y)
 (rK:dL C.fs x=true) (hx:(bH tmps []).eval x=.chan (some g)) (hK:C.K g c) (C6:dL C.fs y=true) (lD:∀s,o.dst=some s->s∉C.S) (pN:C.A.act l=.send c okv pub nx)
 (hv:∀R W v',C.Rel R w W->VR (SF C.fs) C.K R ((bH tmps []).eval y) v'->okv v'/\pub v'=ps/\nx v'=l') 
 (oN:∀R τ W,C.I R τ W->(∀a∈ps,τ.own a/\¬τ.still a/\Ic W a/\∀b,¬R b a)/\I' R (τ.cut ps) W)
 (h1:BO (C.upK C.K I') l' ⟨fn,(b7 ⟨tmps,[]⟩ o.dst aA).tmps,.inRegion ops rest::k,false⟩ w):BO C l ⟨fn,tmps,.inRegion ops (i::rest)::k,false⟩ w:=by
 intro R W m' τ hw hm ht hi;obtain⟨fn',bQ,yJ,x3⟩:=m';obtain rfl:=hm.fn;obtain rfl:=hm.todo;obtain rfl:=hm.ret;have lH:(bH bQ C.ds.ds).eval x=.chan (some c):=Vh hw hK (hx▸Fx (C:=C) hm.tmps rK);have uH:=Hd (C:=C) hm.tmps cC;have hb:(C.ds.base fn).kind≠ .early:=C.ds.ok;obtain⟨k1,k2,k3⟩:=hv R W _ hw (Fx (C:=C) (d:=C.ds.ds) hm.tmps C6);obtain⟨p1,p2⟩:=oN R τ W hi;rw[mE,Cx.B_none ha];refine bZ.usr rfl ?_;unfold l9;rw[pN];refine⟨rfl,_,.tuple #[],τ.cut ps,λaI s=>?_,k1,λb h=>h.1,rfl,λb h=>.inl h,(λa ha=>?_),?_⟩
 .obtain⟨e1,e2⟩:=zxs (p:=C.p) (ρ:=(bH bQ C.ds.ds).eval) hop lH rfl aI
  rw[stepG_comm ho uH hb e1];unfold wK;rw[e2,Bm]
 .rw[k2] at ha
  obtain⟨q1,q2,q3,_⟩:=p1 a ha;exact⟨q1,λe=>e.2 ha,q2,q3⟩
 .rw[k3,zbu ho]
  rw[<-Cx.B_none ha];refine h1 R W _ (τ.cut ps) hw ⟨rfl,rfl,rfl,Hh (C:=C) hm.tmps xD,Is (C:=C) hm.pins lD⟩ (λa b x=>⟨(ht a b x).1,λz=>⟨(ht a b x).2 z,λhb=>(p1 b hb).2.2.2 a x⟩⟩) p2
theorem BO.recvK (ha:C.alone=none)(hI:fB C){ct:aM}{ok:Bool}{z:aF}{nx:aF->L}{sh:L}
 (ho:ops[i]? =some o) (cC:dA o (dN ops tmps)=true) (hop:o.op=.recv ct x ok) (E6:C.p.underlying ct=some (.chan dir e)) (jL:C.p.info? e=some ie) (hz:ie.zero=some z) (zi5:∀R,VR (SF C.fs) C.K R z z)
 (rK:dL C.fs x=true) (hx:(bH tmps []).eval x=.chan (some g)) (hK:C.K g c) (lD:∀s,o.dst=some s->s∉C.S) (pN:C.A.act l=.recv c okv nx sh)
 (h1:∀v,okv v->∃a,a∈C.A.got l v/\∀K' ga w',C.K.le K'->K' ga a->(w'=w\/w'=w.alloc oM)->∃vg,(∀R,VR (SF C.fs) K' R vg v)/\BO (C.upK K' C.I) (nx v) ⟨fn,(b7 ⟨tmps,[]⟩ o.dst (recvd ok vg true)).tmps,.inRegion ops rest::k,false⟩ w')
 (h2:C.A.cl l->BO C sh ⟨fn,(b7 ⟨tmps,[]⟩ o.dst (recvd ok z false)).tmps,.inRegion ops rest::k,false⟩ w):BO C l ⟨fn,tmps,.inRegion ops (i::rest)::k,false⟩ w:=by
 intro R W m' τ hw hm ht hi;obtain⟨fn',bQ,yJ,x3⟩:=m';obtain rfl:=hm.fn;obtain rfl:=hm.todo;obtain rfl:=hm.ret;have lH:(bH bQ C.ds.ds).eval x=.chan (some c):=Vh hw hK (hx▸Fx (C:=C) hm.tmps rK);have uH:=Hd (C:=C) hm.tmps cC;have hb:(C.ds.base fn).kind≠ .early:=C.ds.ok;have zar:∀K' vg v' b,VR (SF C.fs) K' R vg v'->VR (SF C.fs) K' R (recvd ok vg b) (recvd ok v' b):=λK' vg v' b h=>by
  unfold recvd
  cases ok with
  |false=>exact h
  |true=>
   simp only[if_true];exact VR.tuple' (by
    have:=bK.empty (S:=SF C.fs) (K:=K') (R:=R);exact(this.push h).push (.bool b))
 rw[mE,Cx.B_none ha];refine bZ.usr rfl ?_;unfold l9;rw[pN];refine⟨rfl,z,ok,λaI s=>?_,λv hv aI s hg=>?_,λmF=>?_⟩
 .obtain⟨e1,e2⟩:=zrN (p:=C.p) (ρ:=(bH bQ C.ds.ds).eval) hop E6 jL hz lH aI
  rw[stepG_comm ho uH hb e1];unfold wK;rw[e2,Bm]
 .obtain⟨a,zGX,hB⟩:=h1 v hv
  obtain⟨a1,a2,a3⟩:=hg a zGX;have dH:C.Rel R w aI:=Cx.Rel.suf (C:=C) hw ht s;have yH:=hI.suf _ _ _ _ hi s;have go:∀K' ga w',C.K.le K'->K' ga a->(w'=w\/w'=w.alloc oM)->cT (SF C.fs) K' R (oR C.p) C.St w' aI->bZ C.p C.ty C.Wg C.A C.Fin C.main (.usr (nx v)) 0 τ (Conc.served (G ((C.ds.base fn).at ⟨bQ,C.ds.ds⟩ (.inRegion ops (i::rest)::k)) C.base) (recvd ok v true)) aI:=λK' ga w' hle Z8 jH hr=>by
   obtain⟨vg,zhg,zyx⟩:=hB K' ga w' hle Z8 jH;rw[zbu ho,<-Cx.B_none ha];exact zyx R aI _ τ hr ⟨rfl,rfl,rfl,Hh (C:=C.upK K' C.I) (bK.monoK hle hm.tmps) (zar K' _ _ _ (zhg R)),Is (C:=C) hm.pins lD⟩ ht yH
  have hR:∀b,¬R b a:=λb x=>by
   by_cases hs:C.St b
   .exact a3 ((ht b a x).1 hs)
   .exact a2 ((ht b a x).2 hs)
  by_cases hk:∃b,C.K b a
  .obtain⟨b,bY⟩:=hk
   exact go C.K b w (λ_ _ x=>x) bY (.inl rfl) dH
  .exact go (C.K.add w.heap.size a) w.heap.size (w.alloc oM) (Pr.le_add _ _ _) (.inr ⟨rfl,rfl⟩) (.inr rfl) (cT.pushK dH a1 λb x=>x.elim (hR b) λy=>hk ⟨b,y⟩)
 .rw[zbu ho,<-Cx.B_none ha]
  exact h2 mF R W _ τ hw ⟨rfl,rfl,rfl,Hh (C:=C) hm.tmps (zar _ _ _ _ (zi5 R)),Is (C:=C) hm.pins lD⟩ ht hi
theorem BO.close (ha:C.alone=none)(hI:fB C){tx:Tmp}{j8:Array aM}{nx:L}{fnf:Func}
 (ho:ops[i]? =some o) (cC:dA o (dN ops tmps)=true) (hop:o.op=.call {callee:=.builtin .close,args:=#[.tmp tx],argTypes:=j8}) (hx:(bH tmps []).eval (.tmp tx)=.chan (some g)) (hK:C.K g c) (lD:∀s,o.dst=some s->s∉C.S) (pN:C.A.act l=.close c nx)
 (hf:C.p.funcs[fn]? =some fnf) (Bn:fnf.norace=false)
 (hp:∀R τ W,C.I R τ W->τ.pass c/\¬τ.own c/\¬τ.still c/\∀s r,C.I R τ (W.setChan c 0 #[] true s r false))
 (h1:BO C nx ⟨fn,(b7 ⟨tmps,[]⟩ o.dst (.tuple #[])).tmps,.inRegion ops rest::k,false⟩ w):BO C l ⟨fn,tmps,.inRegion ops (i::rest)::k,false⟩ w:=by
 intro R W m' τ hw hm ht hi;obtain⟨fn',bQ,yJ,x3⟩:=m';obtain rfl:=hm.fn;obtain rfl:=hm.todo;obtain rfl:=hm.ret;have lH:(bH bQ C.ds.ds).eval (.tmp tx)=.chan (some c):=Vh hw hK (hx▸Fx (C:=C) (x:=.tmp tx) hm.tmps rfl);have Am:bQ[tx]?.getD aA=.chan (some c):=by simpa[vW] using lH
 have uH:=Hd (C:=C) hm.tmps cC;have hb:(C.ds.base fn).kind≠ .early:=C.ds.ok;obtain⟨p1,p2,p3,_⟩:=hp R τ W hi;rw[mE,Cx.B_none ha];refine bZ.usr rfl ?_;unfold l9;rw[pN];refine⟨?_,p1,λaI s s' r' hc=>?_⟩
 .obtain⟨dst,yF,type,pos,after,guard⟩:=o
  simp only at hop;subst hop;simp[mayWake,G,dE.at,bC.frame,ho,Dk.base]
 .have e1:(aO (bH bQ C.ds.ds).eval o).run C.p aI=.ok (.value (.tuple #[])) (aI.setChan c 0 #[] true s' r' false)/\(aO (bH bQ C.ds.ds).eval o).events C.p aI #[]=closeEvents c:=by
   obtain⟨dst,yF,type,pos,after,guard⟩:=o;simp only at hop;subst hop;constructor
   .simp[aO,go_sem,resolve,Am,invoke,run_close_open _ _ hc,Ks]
   .simp[aO,go_sem,resolve,Am,invoke,events_close_open _ _ hc,closeEvents]
  have aX:=zlr (main:=C.main) (rest:=rest) (k:=k) (cs:=C.base) ho uH hb e1.1;have hl:wK C.p (C.ds.base fn).fn ⟨bQ,C.ds.ds⟩ o aI=closeEvents c:=by
   unfold wK;rw[e1.2];refine seen_eq ?_ ?_
   .show(C.p.funcs[fn]?).any (·.norace)=false
    rw[hf];simp[Bn]
   .intro e he f
    simp only[closeEvents,List.mem_toArray,iX,lX,or_false] at he;rcases he with rfl|rfl<;>simp
  rw[hl] at aX;refine⟨_,aX,rfl,?_⟩;have dH:C.Rel R w aI:=Cx.Rel.suf (C:=C) hw ht s;have yH:=hI.suf _ _ _ _ hi s;have hR:∀b,¬R b c:=λb x=>by
   by_cases hs:C.St b
   .exact p3 ((ht b c x).1 hs)
   .exact p2 ((ht b c x).2 hs)
  have Dz:b7 ⟨bQ,C.ds.ds⟩ o.dst (.tuple #[])=⟨(b7 ⟨bQ,C.ds.ds⟩ o.dst (.tuple #[])).tmps,C.ds.ds⟩:=by cases o.dst<;>rfl
  rw[Dz,<-mE,<-Cx.B_none ha];exact h1 R _ ⟨fn,_,_,false⟩ τ (cT.setC dH hR _ _ _ _ _ _) ⟨rfl,rfl,rfl,Hh (C:=C) hm.tmps (VR.tuple' .empty),Is (C:=C) hm.pins lD⟩ ht ((hp R τ aI yH).2.2.2 s' r')
end
end Go.Mt
namespace Go.Mt
open Go.Conc Go.Tt Go.RowKit Go.Conc.Lib Go.ConcR.Gen
open Go.ConcR (KK wgBlock WgAt stA smA rd wr mk Payload DC0)
structure IQ (W0:aE)(St:Nat->Prop)(Shun:Loc->Prop)(Wg:Nat)(SS:Nat->Prop)(R0:Pr)(Fz:Nat->Prop)(Wf:aE)(qs chs:List Nat)(R:Pr)(τ:cE)(W:aE):Prop where
 x:IM2 W0 St Shun Wg SS R0 Fz Wf chs R τ W
 pass:∀c∈qs,τ.pass c/\¬τ.own c/\¬τ.still c/\c<W.heap.size/\c≠Wg
section
variable {W0:aE}{St:Nat->Prop}{Shun:Loc->Prop}{Wg:Nat}{SS:Nat->Prop}{R0:Pr}{Fz:Nat->Prop}{Wf:aE}{qs chs:List Nat}
theorem zdE {ty:aM}(vC:∀b,b<W0.heap.size->SS b)(hF:∀b,Fz b->SS b)(nL:W0.heap.size<=Wg):IX ty Wg (IQ W0 St Shun Wg SS R0 Fz Wf qs chs):=by
 have hx:=zq0 (ty:=ty) (St:=St) (Shun:=Shun) (Wg:=Wg) (R0:=R0) (Wf:=Wf) (chs:=chs) (Fz:=Fz) vC hF nL;refine⟨λR τ W aV h s=>⟨hx.suf _ _ _ _ h.x s,λc hc=>?_⟩,λR τ W a v h ha=>⟨hx.cell _ _ _ _ _ h.x ha,λc hc=>?_⟩,λR τ W d h=>⟨hx.at_ _ _ _ d h.x,h.pass⟩,λR τ W h=>h.x.x.im.rel⟩
 .obtain⟨h1,h2,h3,h4,h5⟩:=h.pass c hc
  exact⟨h1,h2,h3,lA h4 s.size,h5⟩
 .obtain⟨h1,h2,h3,h4,h5⟩:=h.pass c hc
  exact⟨h1,h2,h3,by rw[Hc];exact h4,h5⟩
variable {L:Type}{C:Cx L}
theorem zmL (hC:C.I=yK C.ty C.Wg (IQ W0 St Shun C.Wg SS R0 Fz Wf qs chs))(aX:∀a,St a->C.St a)(vC:∀b,b<W0.heap.size->SS b)(hF:∀b,Fz b->SS b)(nL:W0.heap.size<=C.Wg):fB C:=by
 have h0:=im2_ok (C:={C with I:=yK C.ty C.Wg (IM2 W0 St Shun C.Wg SS R0 Fz Wf chs)}) rfl aX vC hF nL;have hx:=zdE (ty:=C.ty) (St:=St) (Shun:=Shun) (R0:=R0) (Fz:=Fz) (Wf:=Wf) (qs:=qs) (chs:=chs) vC hF nL;refine⟨λR τ W aV h s=>?_,λR τ W R1 W1 h ht hs=>?_⟩<;>rw[hC] at*
 .exact⟨hx.suf _ _ _ _ h.1 s,s.live h.2⟩
 .obtain⟨k1,k2⟩:=h0.step R τ W R1 W1 ⟨h.1.x,h.2⟩ ht hs
  refine⟨⟨k1,λc hc=>?_⟩,k2⟩;obtain⟨h1,h2,h3,h4,h5⟩:=h.1.pass c hc;exact⟨h1,λe=>e.elim h2 λy=>by omega,h3,lA h4 hs.size,h5⟩
variable {R:Pr}{τ:cE}{W:aE}
theorem zqT (h:IQ W0 St Shun Wg SS R0 Fz Wf qs chs R τ W)(aP:∀a b,R a b->b<W.heap.size):
 IQ W0 St Shun Wg SS R0 Fz Wf qs (W.heap.size::chs) R (τ.grow W (W.alloc (.chan 0 #[] false 0 0 false))) (W.alloc (.chan 0 #[] false 0 0 false)):=by
 have sz:(W.alloc (.chan 0 #[] false 0 0 false)).heap.size=W.heap.size+1:=qS _ _;have zD3:=h.x.x.im.wg;refine⟨⟨⟨⟨⟨h.x.x.im.kp.os,h.x.x.im.kp.tape,h.x.x.im.kp.output,by rw[sz];have:=h.x.x.im.kp.size;omega,λb hb=>(Dm (by have:=h.x.x.im.kp.size;omega)).trans (h.x.x.im.kp.block b hb),h.x.x.im.kp.old⟩,⟨h.x.x.im.sh.old,h.x.x.im.sh.rel,λl b hl hb=>h.x.x.im.sh.new l b hl (by rw[sz] at hb;omega)⟩,h.x.x.im.still,by rw[sz];omega,λb hb=>?_,h.x.x.im.rel⟩,h.x.x.le,λb hb=>by
  obtain⟨l1,l2,l3,l4⟩:=h.x.x.fz b hb;exact⟨by rw[sz];omega,(Dm l1).trans l2,λe=>e.elim l3 λy=>by omega,l4⟩⟩,λb hb hs=>?_,λb hb=>by have:=h.x.slt b hb;rw[sz];omega,λc hc=>?_⟩,λc hc=>?_⟩
 .rcases hb with hb|⟨hb,_⟩
  .exact h.x.x.im.own b hb
  .omega
 .rcases hb with hb|⟨hb,_⟩
  .exact h.x.dis b hb hs
  .have:=h.x.slt b hs;omega
 .rcases iX.1 hc with rfl|hc
  .exact⟨.inr ⟨aZ _,by rw[sz];omega⟩,D3 _ _,λa x=>by have:=aP a _ x;omega⟩
  .obtain⟨h1,h2,h3⟩:=h.x.ch c hc
   exact⟨.inl h1,(Dm h2.lt).trans h2,h3⟩
 .obtain⟨h1,h2,h3,h4,h5⟩:=h.pass c hc
  exact⟨h1,λe=>e.elim h2 λy=>by omega,h3,by rw[sz];omega,h5⟩
theorem iq_cut {c:Nat}(h:IQ W0 St Shun Wg SS R0 Fz Wf qs [c] R τ W):(∀a∈[c],τ.own a/\¬τ.still a/\Ic W a/\∀b,¬R b a)/\IQ W0 St Shun Wg SS R0 Fz Wf qs [] R (τ.cut [c]) W:=by
 refine⟨λa ha=>?_,⟨⟨⟨⟨h.x.x.im.kp,h.x.x.im.sh,h.x.x.im.still,h.x.x.im.wg,λb hb=>h.x.x.im.own b hb.1,h.x.x.im.rel⟩,h.x.x.le,λb hb=>let⟨l1,l2,l3,l4⟩:=h.x.x.fz b hb;⟨l1,l2,λe=>l3 e.1,l4⟩⟩,λb hb hs=>h.x.dis b hb.1 hs,h.x.slt,λc hc=>by cases hc⟩,λc hc=>?_⟩⟩
 .obtain⟨h1,h2,h3⟩:=h.x.ch a ha
  exact⟨h1,λhs=>h.x.dis a h1 hs,h2,h3⟩
 .obtain⟨h1,h2,h3⟩:=h.pass c hc
  exact⟨h1,λe=>h2 e.1,h3⟩
theorem zGT (h:IQ W0 St Shun Wg SS R0 Fz Wf qs chs R τ W){c:Nat}(hc:c∈qs)(s r:Nat)(aX:∀b,b<W0.heap.size->SS b)(hF:∀b,Fz b->SS b):IQ W0 St Shun Wg SS R0 Fz Wf qs chs R τ (W.setChan c 0 #[] true s r false):=by
 have sz:(W.setChan c 0 #[] true s r false).heap.size=W.heap.size:=by simp[Ks]
 have ne:∀b,b≠c->(W.setChan c 0 #[] true s r false).heap[b]? =W.heap[b]? :=λb hb=>by simp only[Ks];rw[jM (Ne.symm hb)]
 obtain⟨p1,p2,p3,p4,p5⟩:=h.pass c hc;refine⟨⟨⟨⟨⟨h.x.x.im.kp.os,h.x.x.im.kp.tape,h.x.x.im.kp.output,by rw[sz];exact h.x.x.im.kp.size,λb hb=>(ne b λe=>?_).trans (h.x.x.im.kp.block b hb),h.x.x.im.kp.old⟩,⟨h.x.x.im.sh.old,h.x.x.im.sh.rel,λl b hl hb=>h.x.x.im.sh.new l b hl (by rw[sz] at hb;exact hb)⟩,h.x.x.im.still,by rw[sz];exact h.x.x.im.wg,h.x.x.im.own,h.x.x.im.rel⟩,h.x.x.le,λb hb=>by
  obtain⟨l1,l2,l3,l4⟩:=h.x.x.fz b hb;refine⟨by rw[sz];exact l1,(ne b λe=>?_).trans l2,l3,l4⟩;subst e;exact p3 (by rw[h.x.x.im.still];exact hF b hb)⟩,h.x.dis,λb hb=>by rw[sz];exact h.x.slt b hb,λa ha=>?_⟩,λa ha=>by rw[sz];exact h.pass a ha⟩
 .subst e
  exact p3 (by rw[h.x.x.im.still];exact aX b hb)
 .obtain⟨h1,h2,h3⟩:=h.x.ch a ha
  exact⟨h1,(ne a λe=>p2 (e▸h1)).trans h2,h3⟩
def Ku (τ:cE)(R:Pr)(X:Nat->Bool)(N:Nat)(qs:List Nat):cE:=⟨λb=>τ.own b/\b≠N/\¬∃a,R a b/\X a=true,λb=>τ.still b\/∃a,R a b/\X a=true,λb=>b∈qs++[N]⟩
def Vs (τ:cE)(R:Pr)(X:Nat->Bool):cE:=⟨λ_=>False,λb=>τ.still b\/∃a,R a b/\X a=true,λ_=>False⟩
variable {S:aN->Prop}{K:Pr}{G:Gp}{eD:Nat->Prop}{w:aE}{X:Nat->Bool}{N:Nat}
theorem zyc (hT:uZ τ R eD)(h:IQ W0 St Shun Wg SS R0 Fz Wf qs [N] R τ W):zlv τ (Ku τ R X N qs) (Vs τ R X) [N] W:=by
 have hx:∀b,(∃a,R a b/\X a=true)->τ.still b\/τ.own b:=λb ⟨a,h,_⟩=>by
  by_cases hs:eD a
  .exact .inl ((hT a b h).1 hs)
  .exact .inr ((hT a b h).2 hs)
 obtain⟨n1,n2,n3⟩:=h.x.ch N (sC.2 rfl);refine⟨λb hb=>?_,λb hb=>?_,λb hb=>?_,λb hb=>⟨id,?_,id⟩,λb hb=>hb.elim,λa ha=>?_⟩
 .rcases hb with hb|hb
  .exact hb.1
  .exact hb.elim
 .rcases hb with(hb|hb)|hb|hb
  .exact .inl hb
  .exact hx b hb
  .exact .inl hb
  .exact hx b hb
 .rcases hb with hb|hb
  .rcases Dv.1 hb with hb|hb
   .exact .inl (h.pass b hb).1
   .obtain rfl:=sC.1 hb
    exact .inr (.inl n1)
  .exact hb.elim
 .rintro(hs|hs)
  .exact h.x.dis b hb.1 hs
  .exact hb.2.2 hs
 .obtain rfl:=sC.1 ha
  refine⟨n1,n2,λh=>h.2.1 rfl,?_,id,?_⟩
  .rintro(hs|⟨g,hg,_⟩)
   .exact h.x.dis a n1 hs
   .exact n3 g hg
  .rintro(hs|⟨g,hg,_⟩)
   .exact h.x.dis a n1 hs
   .exact n3 g hg
theorem zEA (hw:cT S K R G eD w W)(hT:uZ τ R eD)(hN:∀a,¬R a N):uZ (Ku τ R X N qs) R (λa=>eD a\/X a=true):=λa b x=>by
 refine⟨λh=>?_,λh=>?_⟩
 .rcases h with h|h
  .exact .inl ((hT a b x).1 h)
  .exact .inr ⟨a,x,h⟩
 .refine⟨(hT a b x).2 λhs=>h (.inl hs),λe=>hN a (e▸x),?_⟩
  rintro⟨a',x',h'⟩;obtain rfl:=hw.inj' a a' b (.inl x) (.inl x');exact h (.inr h')
def zHJ:uZ (Vs τ R X) (rX R X) (λa=>X a=true):=λa b x=>⟨λh=>.inr ⟨a,x.1,x.2⟩,λh=>absurd x.2 h⟩
theorem iq_qm (hw:cT S K R G eD w W)(hT:uZ τ R eD)(h:IQ W0 St Shun Wg SS R0 Fz Wf qs [N] R τ W):IQ W0 St Shun Wg (Ku τ R X N qs).still R (Fp R eD X) W (qs++[N]) [] R (Ku τ R X N qs) W:=by
 obtain⟨n1,n2,n3⟩:=h.x.ch N (sC.2 rfl);have hx:∀b,(∃a,R a b/\X a=true)->∀c∈qs,b≠c:=λb ⟨a,h',_⟩ c hc e=>by
  subst e;obtain⟨_,p2,p3,_⟩:=h.pass b hc;by_cases hs:eD a
  .exact p3 ((hT a b h').1 hs)
  .exact p2 ((hT a b h').2 hs)
 refine⟨⟨⟨⟨h.x.x.im.kp,h.x.x.im.sh,rfl,h.x.x.im.wg,λb hb=>h.x.x.im.own b hb.1,h.x.x.im.rel⟩,.refl R,λb hb=>by
  obtain⟨a,x,hh⟩:=hb;refine⟨(hw.lt a b (.inl x)).2,rfl,λho=>?_,h.x.x.im.rel a b x⟩;rcases hh with hh|hh
  .exact h.x.dis b ho.1 ((hT a b x).1 hh)
  .exact ho.2.2 ⟨a,x,hh⟩⟩,λb hb hs=>?_,λb hb=>?_,λc hc=>by cases hc⟩,λc hc=>?_⟩
 .rcases hs with hs|hs
  .exact h.x.dis b hb.1 hs
  .exact hb.2.2 hs
 .rcases hb with hb|⟨a,x,_⟩
  .exact h.x.slt b hb
  .exact(hw.lt a b (.inl x)).2
 .refine⟨hc,?_⟩
  rcases Dv.1 hc with kF|kF
  .obtain⟨_,p2,p3,p4,p5⟩:=h.pass c kF
   exact⟨λe=>p2 e.1,λe=>e.elim p3 λy=>hx c y c kF rfl,p4,p5⟩
  .obtain rfl:=sC.1 kF
   refine⟨λe=>e.2.1 rfl,?_,n2.lt,h.x.x.im.own c n1⟩;rintro(hs|⟨g,hg,_⟩)
   .exact h.x.dis c n1 hs
   .exact n3 g hg
def tauWm (τ:cE):cE:=⟨λ_=>False,τ.still,λ_=>False⟩
theorem zzl (h:IQ W0 St Shun Wg SS R0 Fz Wf qs [] R τ W):zlv τ (tauWm τ) τ [] W:=
 ⟨λb hb=>hb.elim (λx=>x.elim) id,λb hb=>.inl (hb.elim id id),λb hb=>hb.elim (λx=>x.elim) .inl,λb hb=>hb.elim,λb hb=>⟨λhs=>h.x.dis b hb hs,id⟩,λa ha=>by cases ha⟩
end
section
variable [Payload]{Lk:WgLink}
variable {L:Type}{C:Cx L}{l:L}{I0:Pr->cE->aE->Prop}
theorem BO.doneD (H:WgLib C.p Lk)(ha:C.alone=none)(zeK:C.main=false)(Bh:C.ty=Lk.tWg)(zgz:C.I=yK Lk.tWg C.Wg I0)(hX:IX Lk.tWg C.Wg I0)(zx0:C.ds=⟨[dcall Lk.done #[.pointer (some ⟨C.Wg,0,none⟩)]],.deferred,aQ⟩)(qZ:C.base=[vR C.p])
 {f:aN} {fn:Func} (hf:C.p.funcs[f]? =some fn) (hr:fn.results=#[]) (pN:C.A.act l=.done) {T:Array aF} {todo:List dW} {w:aE} (sZ:∀R τ W,C.Rel R w W->I0 R τ W->C.A.dep l W):BO C l ⟨f,T,todo,true⟩ w:=by
 intro R W m' τ hw hm ht hi;obtain⟨fn',T',yJ,x3⟩:=m';obtain rfl:=hm.fn;obtain rfl:=hm.todo;obtain rfl:=hm.ret;rw[zgz] at hi;have kf:=zuL (C:=C) (w:=w) Bh hX ht;rw[zhJ,Cx.B_none ha,zeK,Bh,zx0,qZ];refine L3 rfl rfl (λaV s=>stepG_unwind_enter rfl H.f_done (nm_done Lk) rfl) λaV s=>?_;exact doneW (F:=λW=>C.Rel R w W/\I0 R τ W) (Fin:=C.Fin) H pN kf (λW' h=>sZ R τ W' h.1 h.2) (c:={(baseD f).at ⟨T',[]⟩ todo with mode:=.returning}) (cs:=[vR C.p]) rfl (zGa hf hr T' todo) aV ⟨kf.suf _ _ s ⟨hw,hi.1⟩,s.live hi.2⟩
end
variable [Payload]{Lk:WgLink}
section
variable {L:Type}{p:bS}{A:jF L}{Fin:bC->aE->Prop}{Wg:Nat}{l:L}
theorem zyJ (H:WgLib p Lk)(pN:A.act l=.wait)(Mp:∀(n:Nat) g w,Goes p true AtRel DC0 Fin n g w->Fin g w){fn:aN}{T:Array aF}{zH5 ops:Array aY}{id s:Nat}{o:aY}{j8:Array aM}{tail:Code}{base:List dE}{τ:cE}{W:aE}
 (zhr:ops=#[o]) (hg:o.guard=none) (hop:o.op=.call ⟨.value (.func Lk.wait),#[.tmp s],j8⟩) (hs:T.getD s aA=.pointer (some ⟨Wg,0,none⟩)) (mP:WgLive Lk.tWg Wg W)
 (h:∀Wn d,zcF A Wn->Fin (G ((Dk.nil.base fn).at ⟨(b7 ⟨T,[]⟩ o.dst (.tuple #[])).tmps,[]⟩ [.inRegion ops [],.code tail]) base) (Wn.at d)):
 bZ p Lk.tWg Wg A Fin true (.usr l) 0 τ (G ((Dk.nil.base fn).at ⟨T,[]⟩ (.inRegion zH5 []::[.code (.seq (.region id ops false) tail)])) base) W:=by
 subst zhr;have ho:(#[o]:Array aY)[0]? =some o:=rfl;have cC:dA o (dN #[o] T)=true:=by unfold dA;rw[hg]
 have hb:=Dk.nil.ok;have Dz:∀v,b7 ⟨T,[]⟩ o.dst v=⟨(b7 ⟨T,[]⟩ o.dst v).tmps,[]⟩:=λv=>by cases o.dst<;>rfl
 have hr:gD (#[o]:Array aY).size=[0]:=rfl;refine L3 rfl rfl (λaV s1=>stepG_region_end) λW1 s1=>?_;refine L3 rfl rfl (λaV s1=>stepG_seq) λW2 s2=>?_;refine L3 rfl rfl (λaV s1=>stepG_region) λW3 s3=>?_;rw[hr];refine L3 rfl rfl (g':=G ((Conc.base Lk.wait).at ⟨#[.pointer (some ⟨Wg,0,none⟩),aA,aA,aA,aA,aA,aA,aA,aA,aA,aA,aA,aA,aA,aA,aA,aA,aA,aA,aA,aA,aA,aA,aA,aA,aA,aA,aA,aA,aA,aA,aA,aA,aA,aA,aA,aA,aA,aA,aA,aA,aA,aA,aA,aA,aA,aA,aA,aA,aA,aA,aA,aA,aA,aA,aA,aA,aA,aA,aA,aA,aA,aA,aA,aA,aA,aA,aA,aA,aA,aA,aA,aA,aA,aA,aA,aA,aA,aA,aA,aA,aA,aA,aA],[]⟩ [.code (body_wait Lk)]) ((Dk.nil.base fn).at ⟨T,[]⟩ (.inRegion #[o] [0]::[.code tail])::base)) (λFa s4=>?_) λFa s4=>?_
 .obtain⟨x1,x2⟩:=zct (p:=p) (o:=o) hop (ρ:=(bH T []).eval) (λg=>rfl) H.f_wait rfl rfl Fa
  have rR:(#[.tmp s]:Array cM).map (bH T []).eval=#[.pointer (some ⟨Wg,0,none⟩)]:=by simp only[uG,fG,tH,vW];rw[hs]
  rw[rR] at x1;have zac:=stepG_enter (main:=true) (b:=Dk.nil.base fn) (a:=⟨T,[]⟩) (rest:=[]) (cs:=base) (k:=[.code tail]) ho cC hb x1;rw[zac];unfold wK;rw[x2,Bm,zxK H]
 .have kf:=Fl.triv Lk.tWg Wg τ
  refine zbX (A:=A) (b₀:=Dk.nil.base fn) (a₀:=⟨T,[]⟩) (ops₀:=#[o]) (i₀:=0) (rest₀:=[]) (k₀:=[.code tail]) (cs:=base) (Fin:=Fin) (l:=l) (Wg:=Wg) H pN kf Mp (λWn _ _ hD d=>?_) Fa ⟨trivial,s4.live (s3.live (s2.live (s1.live mP)))⟩;have:=h Wn d hD;rw[ho];simp only[xI];rw[Dz];exact this
end
end Go.Mt
namespace Go.Mt
open Go.Conc Go.Tt
open Go.ConcR (KK wgBlock WgAt stA smA rd wr)
structure o9 where
 p:bS
 gs:aN->Bool
 fs:aN->Bool
 ty:aM
 Wg:Nat
 N:Nat
 W:List fE
 D:aE->Prop
 Fin:bC->aE->Prop
 St:Nat->Prop
 W0:aE
 StI:Nat->Prop
 Shun:Loc->Prop
 SS:Nat->Prop
 R0:Pr
 Fz:Nat->Prop
 Wf:aE
 qs:List Nat
def o9.I (d:o9)(Q:Pr->Prop)(chs:List Nat):Pr->cE->aE->Prop:=λR τ W=>yK d.ty d.Wg (IQ d.W0 d.StI d.Shun d.Wg d.SS d.R0 d.Fz d.Wf d.qs chs) R τ W/\Q R
def o9.cx (d:o9)(K:Pr)(Q:Pr->Prop)(chs:List Nat)(base:List dE)(ds:Dk)(pin:List (Nat×aF)):Cx gE:=
 {p:=d.p,gs:=d.gs,fs:=d.fs,ty:=d.ty,Wg:=d.Wg,A:=Au d.N d.W d.D,Fin:=d.Fin,main:=false,base:=base,ds:=ds,K:=K,St:=d.St,I:=d.I Q chs,pin:=pin}
def Up (Q:Pr->Prop):Prop:=∀R R':Pr,R.le R'->Q R->Q R'
structure o9.Ok (d:o9):Prop where
 st:∀a,d.StI a->d.St a
 ss:∀b,b<d.W0.heap.size->d.SS b
 fz:∀b,d.Fz b->d.SS b
 low:d.W0.heap.size<=d.Wg
 fit:uT (PS d.p d.gs) d.fs
theorem o9.sub_eq (d:o9)(K:Pr)(Q:Pr->Prop)(chs:List Nat)(base:List dE)(ds:Dk)(pin:List (Nat×aF))(m':Fm)(nO:Pr):
 (d.cx K Q chs base ds pin).sub m' nO=d.cx K (λR=>Q R/\nO.le R) chs (fx [] ds m'::base) .nil []:=by
 have e:(λR τ W=>d.I Q chs R τ W/\nO.le R)=d.I (λR=>Q R/\nO.le R) chs:=by
  funext R τ W;exact propext and_assoc
 unfold Cx.sub o9.cx;simp only;rw[e]
def Up.and {Q:Pr->Prop}(h:Up Q)(nO:Pr):Up (λR=>Q R/\nO.le R):=λR R' hl hq=>⟨h R R' hl hq.1,hq.2.trans hl⟩
section
variable {d:o9}{K:Pr}{Q:Pr->Prop}{chs:List Nat}{base:List dE}{ds:Dk}{pin:List (Nat×aF)}
theorem o9.Ok.iok (H:d.Ok)(hQ:Up Q):fB (d.cx K Q chs base ds pin):=by
 have h0:=zmL (C:={d.cx K Q chs base ds pin with I:=yK d.ty d.Wg (IQ d.W0 d.StI d.Shun d.Wg d.SS d.R0 d.Fz d.Wf d.qs chs)}) rfl H.st H.ss H.fz H.low;exact⟨λR τ W aV h s=>⟨h0.suf R τ W aV h.1 s,h.2⟩,λR τ W R1 W1 h ht hs=>⟨h0.step R τ W R1 W1 h.1 ht hs,hQ R R1 hs.le h.2⟩⟩
structure WS where
 chs:List Nat
 K:Pr
 l:gE
 T:Array aF
 w:aE
def o9.bo (d:o9)(Q:Pr->Prop)(base:List dE)(s:WS)(f:aN)(kk:List dW)(ret:Bool):Prop:=BO (d.cx s.K Q s.chs base .nil []) s.l ⟨f,s.T,kk,ret⟩ s.w
def CW (d:o9)(B:List Nat)(f:aN)(c:Code)(s:WS)(Φ:nQ->WS->Prop):Prop:=
 ∀(Q:Pr->Prop) (base:List dE) (kk:List dW),Up Q->(∀id∈B,∃k2,exitTo id kk=some k2)->(∀s',s.K.le s'.K->Φ .normal s'->d.bo Q base s' f kk false)->(∀id k2 s',s.K.le s'.K->exitTo id kk=some k2->Φ (.exit id) s'->d.bo Q base s' f k2 false)->
  (∀s' todo,s.K.le s'.K->Φ .ret s'->d.bo Q base s' f todo true)->d.bo Q base s f (.code c::kk) false
def CR (d:o9)(f:aN)(ops:Array aY)(is:List Nat)(s:WS)(Φ:WS->Prop):Prop:=
 ∀(Q:Pr->Prop) (base:List dE) (kk:List dW),Up Q->(∀s',s.K.le s'.K->Φ s'->d.bo Q base s' f kk false)->d.bo Q base s f (.inRegion ops is::kk) false
def vY (K:Pr):K.le K:=λ_ _ x=>x
def vS {K K' zoK:Pr}(h:K.le K')(h':K'.le zoK):K.le zoK:=λ_ _ x=>h' _ _ (h _ _ x)
variable {f:aN}{s:WS}{Φ Ψ:nQ->WS->Prop}{B:List Nat}{c:Code}
def CW.skip (H:d.Ok)(h:Φ .normal s):CW d B f .skip s Φ:=λQ base kk hQ hB h1 h2 h3=>BO.skip (H.iok hQ) (h1 s (vY _) h)
def CW.ret (H:d.Ok)(h:Φ .ret s):CW d B f .ret s Φ:=λQ base kk hQ hB h1 h2 h3=>BO.ret (H.iok hQ) (h3 s _ (vY _) h)
def CW.seq (H:d.Ok){a b:Code}(h:CW d B f a s (λe s'=>match e with| .normal=>CW d B f b s' Φ|e=>Φ e s')):CW d B f (.seq a b) s Φ:=λQ base kk hQ hB h1 h2 h3=>
 BO.seq (H.iok hQ) (h Q base (.code b::kk) hQ (λid hid=>hB id hid) (λs' l x=>x Q base kk hQ hB (λs2 l2=>h1 s2 (vS l l2)) (λid k2 s2 l2=>h2 id k2 s2 (vS l l2)) (λs2 todo l2=>h3 s2 todo (vS l l2)))
  (λid k2 s' l e x=>h2 id k2 s' l e x) (λs' todo l x=>h3 s' todo l x))
def CW.cond (H:d.Ok){x:cM}{a b:Code}{t:Bool}(hx:dL d.fs x=true)(hc:(bH s.T []).eval x=.bool t)(h:CW d B f (if t then a else b) s Φ):CW d B f (.cond x a b) s Φ:=λQ base kk hQ hB h1 h2 h3=>
 BO.cond (H.iok hQ) hx hc (h Q base kk hQ hB h1 h2 h3)
theorem CW.exit (H:d.Ok){id:Nat}(nV:id∈B)(h:Φ (.exit id) s):CW d B f (.exit id) s Φ:=λQ base kk hQ hB h1 h2 h3=>by
 obtain⟨k2,e⟩:=hB id nV;exact BO.exit (H.iok hQ) e (h2 id k2 s (vY _) e h)
theorem CW.block (H:d.Ok){id:Nat}(h:CW d (id::B) f c s (λe s'=>match e with| .normal=>Φ .normal s'| .exit i=>if i=id then Φ .normal s' else Φ (.exit i) s'|e=>Φ e s')):CW d B f (.block id c) s Φ:=λQ base kk hQ hB h1 h2 h3=>by
 refine BO.block (H.iok hQ) (h Q base (.inBlock id::kk) hQ (λi hi=>?_) (λs' l x=>BO.inBlock (H.iok hQ) (h1 s' l x)) (λi k2 s' l e x=>?_) (λs' todo l x=>h3 s' todo l x))
 .by_cases e:i=id
  .subst e;exact⟨kk,by simp[exitTo]⟩
  .rcases iX.1 hi with hi|hi
   .exact absurd hi e
   .obtain⟨k2,h2⟩:=hB i hi
    exact⟨k2,by simp only[exitTo];rw[if_neg (by simpa using Ne.symm e)];exact h2⟩
 .simp only[exitTo] at e
  by_cases e1:i=id
  .subst e1
   rw[if_pos aQ] at e;obtain rfl:=cD e;simp only[if_pos rfl] at x;exact h1 s' l x
  .rw[if_neg (by simpa using Ne.symm e1)] at e
   simp only[if_neg e1] at x;exact h2 i k2 s' l e x
theorem CW.loop (H:d.Ok)(Inv:Nat->WS->Prop)(uO:∀n s,Inv n s->CW d B f c s (λe s'=>match e with| .normal=>∃n',n'<n/\Inv n' s'|e=>Φ e s')){n:Nat}(h0:Inv n s):CW d B f (.loop c) s Φ:=λQ base kk hQ hB h1 h2 h3=>by
 refine BO.loop (H.iok hQ) ?_;have key:∀n s2,s.K.le s2.K->Inv n s2->d.bo Q base s2 f (.code c:: .inLoop c::kk) false:=by
  intro n
  induction n using Nat.strongRecOn with
  |ind n ih=>
   intro s2 hl hi;refine uO n s2 hi Q base (.inLoop c::kk) hQ (λid hid=>hB id hid) (λs' l x=>?_) (λid k2 s' l e x=>h2 id k2 s' (vS hl l) e x) (λs' todo l x=>h3 s' todo (vS hl l) x);obtain⟨n',aP,iY⟩:=x;exact BO.inLoop (H.iok hQ) (ih n' aP s' (vS hl l) iY)
 exact key n s (vY _) h0
def CW.piece (H:d.Ok)(hc:oI d.p ⟨d.fs,d.gs,true⟩ c=true)(hf:vK d.p f)(qI:∀T,Code.wp d.p c (λe a' w'=>e=.normal/\Φ .normal {s with T:=a'.tmps,w:=w'}) ⟨s.T,[]⟩ (Tt.tp s.w T 0)):CW d B f c s Φ:=λQ base kk hQ hB h1 h2 h3=>
 BO.piece H.fit (H.iok hQ) hc hf (zHh c hc) λT=>Code.wp_mono (λe a' w' h=>⟨h.1,h1 {s with T:=a'.tmps,w:=w'} (vY _) h.2⟩) (qI T)
def CW.reg (H:d.Ok){id:Nat}{ops:Array aY}(is:List Nat)(hr:gD ops.size=is)(h:CR d f ops is s (λs'=>Φ .normal s')):CW d B f (.region id ops false) s Φ:=λQ base kk hQ hB h1 h2 h3=>
 BO.regs (H.iok hQ) is hr (h Q base kk hQ (λs' l x=>h1 s' l x))
section
variable {ops:Array aY}{i:Nat}{rest is:List Nat}{Φ:WS->Prop}{o:aY}
def CR.nil (H:d.Ok)(h:Φ s):CR d f ops [] s Φ:=λQ base kk hQ h1=>BO.regEnd (H.iok hQ) (h1 s (vY _) h)
theorem CR.op (H:d.Ok)(ho:ops[i]? =some o)(cC:dA o (dN ops s.T)=true)(bV:rD d.p ⟨d.fs,d.gs,true⟩ o.op=true)
 (hx:∀T,∃v w',((aO (bH s.T []).eval o).run d.p (Tt.tp s.w T 0)=.ok (.value v) w'\/((aO (bH s.T []).eval o).run d.p (Tt.tp s.w T 0)=.ok .skip w'/\v=aA))/\CR d f ops rest {s with T:=(b7 ⟨s.T,[]⟩ o.dst v).tmps,w:=w'} Φ):CR d f ops (i::rest) s Φ:=λQ base kk hQ h1=>
 BO.op H.fit (H.iok hQ) ho cC bV (λ_ _=>lX) λT=>by
  obtain⟨v,w',e,h⟩:=hx T;exact⟨v,w',e,h Q base kk hQ h1⟩
structure CF (d:o9)(g:aN)(args:Array aF)(K:Pr)(l:gE)(w:aE)(Ψ:Pr->gE->aF->aE->Prop):Prop where
 ex:∃fnf cf,d.p.funcs[g]? =some fnf/\(fnf.name== "runtime.NumGoroutine")=false/\fnf.body=some cf/\Cs fnf.results.toList/\
  CW d [] g cf ⟨[],K,l,args++nD (fnf.ntmps-args.size) aA,w⟩ (λe s'=>(e=.normal\/e=.ret)/\s'.chs=[]/\∃v,(nY fnf.results.toList s'.T).run d.p s'.w=.ok v s'.w/\Ψ s'.K s'.l v s'.w)
theorem CR.call (H:d.Ok){g:aN}{args:Array cM}{j8:Array aM}{Ψ:Pr->gE->aF->aE->Prop}(ho:ops[i]? =some o)(cC:dA o (dN ops s.T)=true)(hop:o.op=.call ⟨.value (.func g),args,j8⟩)(rR:args.all (dL d.fs)=true)(sS:s.chs=[])
 (hc:CF d g (args.map (bH s.T []).eval) s.K s.l s.w Ψ) (hk:∀K' l' v w',s.K.le K'->Ψ K' l' v w'->CR d f ops rest ⟨[],K',l',(b7 ⟨s.T,[]⟩ o.dst v).tmps,w'⟩ Φ):CR d f ops (i::rest) s Φ:=λQ base kk hQ h1=>by
 obtain⟨chs,K,l,T,w⟩:=s;simp only at*;subst sS;obtain⟨fnf,cf,g1,g2,g3,g4,g5⟩:=hc.ex;refine BO.callN (H.iok hQ) ho cC hop (Callee.static _ _) rR g1 g2 g3 g4 λnO m' hm=>?_;rw[o9.sub_eq];have fin:∀(s':WS) todo,K.le s'.K->(s'.chs=[]/\∃v,(nY fnf.results.toList s'.T).run d.p s'.w=.ok v s'.w/\Ψ s'.K s'.l v s'.w)->d.bo (λR=>Q R/\nO.le R) (fx [] .nil m'::base) s' g todo true:=λs' todo hl ⟨h2,v,h3,h4⟩=>by
  obtain⟨zCX,K',l',T',w'⟩:=s';simp only at*;subst h2;unfold o9.bo;simp only;rw[<-o9.sub_eq];refine BO.retN (C:=d.cx K' Q [] base .nil []) (H.iok hQ) (hm.upK hl _) rfl rfl (λ_ _=>lX) g1 h3 ?_;have:=hk K' l' v w' hl h4 Q base kk hQ (λs' l2 x=>h1 s' (vS hl l2) x);unfold o9.bo at this;simp only[Fm.fin,ho,xI]
  cases hd:o.dst with
  |none=>rw[hd] at this;exact this
  |some s=>rw[hd] at this;exact this
 have e:(#[]:Array aF)++args.map (bH T []).eval++ #[]=args.map (bH T []).eval:=aQ;rw[e];refine g5 (λR=>Q R/\nO.le R) (fx [] .nil m'::base) [] (hQ.and nO) (λ_ h=>by cases h) (λs' hl x=>BO.fall (H.iok (hQ.and nO)) (fin s' [] hl x.2)) (λid k2 s' hl ee x=>by cases ee) (λs' todo hl x=>fin s' todo hl x.2)
variable {e:aM}{dir:Mr}{ie:wI}
theorem CR.make (H:d.Ok){t:aM}(ho:ops[i]? =some o)(cC:dA o (dN ops s.T)=true)(hop:o.op=.makeChan t (.const (.int .i64 0)))(zdc:d.p.underlying t=some (.chan dir e))(jL:d.p.info? e=some ie)(sS:s.chs=[])
 (h:∀c,CR d f ops rest ⟨[c],s.K.add s.w.heap.size c,s.l,(b7 ⟨s.T,[]⟩ o.dst (.chan (some s.w.heap.size))).tmps,s.w.alloc oM⟩ Φ):CR d f ops (i::rest) s Φ:=λQ base kk hQ h1=>by
 obtain⟨chs,K,l,T,w⟩:=s;simp only at*;subst sS;refine BO.makeK (H.iok hQ) ho cC hop zdc jL (λ_ _=>lX) (I':=λc=>d.I Q [c]) (λR τ W hi ht aP=>?_) λc=>h c Q base kk hQ (λs' l2 x=>h1 s' (vS (Pr.le_add _ _ _) l2) x);obtain⟨⟨hi,hl⟩,hq⟩:=hi;refine⟨⟨zqT hi aP,?_⟩,hq⟩;obtain⟨st,sm,hx⟩:=hl;have lH:=hx;exact⟨st,sm,(Dm (dM.1 lH).1).trans lH⟩
variable {x:cM}
theorem CR.ask (H:d.Ok){ans:Int}{y:cM}{k q g a ga:Nat}{kd cl:Int}(ho:ops[i]? =some o)(cC:dA o (dN ops s.T)=true)(hop:o.op=.send x y)(rK:dL d.fs x=true)(C6:dL d.fs y=true)(hl:s.l=.wk d.qs k)(hW:d.W[k]? =some (.ask q kd cl ans))(sS:s.chs=[a])
 (hx:(bH s.T []).eval x=.chan (some g)) (hg:s.K g (qa d.qs q)) (hy:(bH s.T []).eval y=.agg #[.int .i64 kd,.int .i64 cl,.chan (some ga)]) (ha:s.K ga a)
 (h:CR d f ops rest ⟨[],s.K,.wr d.qs k a,(b7 ⟨s.T,[]⟩ o.dst aA).tmps,s.w⟩ Φ):CR d f ops (i::rest) s Φ:=λQ base kk hQ h1=>by
 obtain⟨chs,K,l,T,w⟩:=s;simp only at*;subst sS hl;refine BO.sendP (C:=d.cx K Q [a] base .nil []) rfl (H.iok hQ) ho cC hop rK hx hg C6 (λ_ _=>lX) (c:=qa d.qs q) (okv:=λv=>∃a,v=J6 kd cl a) (pub:=Oz) (nx:=Vj d.qs k) (ps:=[a]) (I':=d.I Q []) ?_ (λR W v' hw hv=>?_) (λR τ W hi=>?_) (h Q base kk hQ h1)
 .show eH d.N d.W (.wk d.qs k)=_
  simp only[eH,hW]
 .rw[hy] at hv
  obtain rfl:v'=J6 kd cl a:=by
   cases hv with
   |agg e1 e2=>
    rename_i bX;obtain⟨l'⟩:=bX
    match l',e1 with
    |[v0,v1,v2],_=>
     have h0:=e2 0 _ v0 rfl rfl;have h1:=e2 1 _ v1 rfl rfl;have h2:=e2 2 _ v2 rfl rfl;have h3:=Vh hw ha h2;cases h0;cases h1;subst h3;rfl
  exact⟨⟨a,rfl⟩,rfl,rfl⟩
 .obtain⟨⟨hi,hl⟩,hq⟩:=hi
  obtain⟨k1,k2⟩:=iq_cut hi;exact⟨k1,⟨k2,hl⟩,hq⟩
theorem CR.ans (H:d.Ok){ans:Int}{ct:aM}{k q a ga:Nat}{kd cl:Int}(ho:ops[i]? =some o)(cC:dA o (dN ops s.T)=true)(hop:o.op=.recv ct x false)(E6:d.p.underlying ct=some (.chan dir e))(jL:d.p.info? e=some ie)(hz:ie.zero=some (.int .i64 0))
 (rK:dL d.fs x=true) (hl:s.l=.wr d.qs k a) (hW:d.W[k]? =some (.ask q kd cl ans)) (sS:s.chs=[]) (hx:(bH s.T []).eval x=.chan (some ga)) (ha:s.K ga a)
 (h:CR d f ops rest ⟨[],s.K,.wk d.qs (k+1),(b7 ⟨s.T,[]⟩ o.dst (.int .i64 ans)).tmps,s.w⟩ Φ):CR d f ops (i::rest) s Φ:=λQ base kk hQ h1=>by
 obtain⟨chs,K,l,T,w⟩:=s;simp only at*;subst sS hl;refine BO.recv (C:=d.cx K Q [] base .nil []) rfl (H.iok hQ) ho cC hop E6 jL hz (λ_=>.int _ _) rK hx ha (λ_ _=>lX) (okv:=Wh d.W k) (nx:=λ_=>.wk d.qs (k+1)) (sh:=.oD) rfl (λv hv=>?_) (λhc=>hc.elim);unfold Wh at hv;rw[hW] at hv;simp only at hv;subst hv;exact⟨.int .i64 ans,λ_=>.int _ _,h Q base kk hQ h1⟩
theorem CR.shut (H:d.Ok){tx:Tmp}{j8:Array aM}{k q g:Nat}{fnf:Func}(ho:ops[i]? =some o)(cC:dA o (dN ops s.T)=true)(hop:o.op=.call {callee:=.builtin .close,args:=#[.tmp tx],argTypes:=j8})(hf:d.p.funcs[f]? =some fnf)(Bn:fnf.norace=false)
 (hl:s.l=.wk d.qs k) (hW:d.W[k]? =some (.shut q)) (hq:q<d.qs.length) (sS:s.chs=[]) (hx:(bH s.T []).eval (.tmp tx)=.chan (some g)) (hg:s.K g (qa d.qs q))
 (h:CR d f ops rest ⟨[],s.K,.wk d.qs (k+1),(b7 ⟨s.T,[]⟩ o.dst (.tuple #[])).tmps,s.w⟩ Φ):CR d f ops (i::rest) s Φ:=λQ base kk hQ h1=>by
 obtain⟨chs,K,l,T,w⟩:=s;simp only at*;subst sS hl;have hm:qa d.qs q∈d.qs:=by
  unfold qa;rw[Jl,lP hq];exact zrU hq
 refine BO.close (C:=d.cx K Q [] base .nil []) rfl (H.iok hQ) ho cC hop hx hg (λ_ _=>lX) (c:=qa d.qs q) (nx:=.wk d.qs (k+1)) ?_ hf Bn (λR τ W hi=>?_) (h Q base kk hQ h1)
 .show eH d.N d.W (.wk d.qs k)=_
  simp only[eH,hW]
 .obtain⟨⟨hi,hl⟩,O9⟩:=hi
  obtain⟨p1,p2,p3,p4,p5⟩:=hi.pass _ hm;refine⟨p1,p2,p3,λs r=>⟨⟨zGT hi hm s r H.ss H.fz,?_⟩,O9⟩⟩;obtain⟨st,sm,hx⟩:=hl;have lH:=hx;refine⟨st,sm,?_⟩;show(W.setChan _ _ _ _ _ _ _).heap[d.Wg]? =_;simp only[Ks,jM p5];exact lH
end
end
section
variable {L:Type}{C:Cx L}{l:L}
theorem BO.draw (hI:fB C){fn:aN}{tmps:Array aF}{k:List dW}{w:aE}{id:Nat}{ops:Array aY}(h:∀n,BO C l ⟨fn,tmps,.inRegion ops (S9 (C.p.follows .mixedOrders) ops n)::k,false⟩ w):BO C l ⟨fn,tmps,.code (.region id ops true)::k,false⟩ w:=by
 intro R W m' τ hw hm ht hi;obtain⟨fn',bQ,yJ,x3⟩:=m';obtain rfl:=hm.fn;obtain rfl:=hm.todo;obtain rfl:=hm.ret;rw[mE];refine Cx.ownQ rfl λaV s=>?_;have dH:C.Rel R w aV:=Cx.Rel.suf (C:=C) hw ht s;have yH:=hI.suf _ _ _ _ hi s;have aX:=stepG_region_draw (P:=C.p) (main:=C.main) (b:=C.ds.base fn) (a:=⟨bQ,C.ds.ds⟩) (k:=k) (cs:=C.base) (w:=aV) (id:=id) (ops:=ops);refine⟨_,{aV with drawn:=aV.drawn+1},_,aX,rfl,⟨rfl,rfl,rfl,aZ _,λb _ _=>rfl⟩,λe he=>by simp at he,?_⟩;rw[<-mE];refine h _ R _ ⟨fn,bQ,_,false⟩ _ ⟨dH.inj,dH.inj',dH.lt,dH.low,dH.gle,dH.cont,dH.rest,dH.st,dH.np,dH.tb⟩ ⟨rfl,rfl,rfl,hm.tmps,hm.pins⟩ (λa b x=>⟨(ht a b x).1,λz=>.inl ((ht a b x).2 z)⟩) ?_;exact hI.step R τ aV R _ yH ht ⟨λ_ _ x=>x,rfl,rfl,rfl,aZ _,λa b x=>.inl x,λb _ _=>rfl⟩
end
def dep (ops:Array aY)(i j:Nat):Bool:=match ops[i]? with|some o=>o.after.any λe=>Ej .any e&&e.on==j|none=>false
def linked (ops:Array aY):List Nat->Bool
 |a::b::l=>dep ops b a&&linked ops (b::l)
 |_=>true
def Sf (ops:Array aY):Nat->Nat->Nat->Bool
 |0,_,_=>false
 |n+1,i,j=>dep ops i j||(gD ops.size).any λm=>dep ops i m&&Sf ops n m j
def Nq (ops:Array aY)(ch:List Nat):Bool:=linked ops ch&&decide ch.Nodup&&(match ch.getLast? with|some z=>(gD ops.size).all λj=>j==z||Sf ops ops.size z j|none=>false)
variable {ops:Array aY}{i:Nat}
theorem zlN {j:Nat}(h:dep ops i j=true):∃o,ops[i]? =some o/\∃e∈o.after,Ej .any e=true/\e.on=j:=by
 unfold dep at h;split at h
 .next o ho=>
  rw[Array.any_eq_true] at h;obtain⟨x,hx,h3⟩:=h;simp only[fN,beq_iff_eq] at h3;exact⟨o,ho,_,Array.getElem_mem hx,h3.1,h3.2⟩
 .cases h
theorem zuJ :∀{ch:List Nat},linked ops ch=true->∀(j a b:Nat),ch[j]? =some a->ch[j+1]? =some b->dep ops b a=true
 |[],_,j,a,b,h1,_=>by simp at h1
 |[x],_,j,a,b,_,h2=>by simp at h2
 |x::y::l,h,0,a,b,h1,h2=>by
  simp at h1 h2;subst h1 h2;unfold linked at h;simp only[fN] at h;exact h.1
 |x::y::l,h,j+1,a,b,h1,h2=>by
  unfold linked at h;simp only[fN] at h;exact zuJ h.2 j a b Qb Qz
def Closed (ops:Array aY)(bN:Array Bool):Prop:=∀(i:Nat) (o:aY),ops[i]? =some o->bN.getD i false=true->∀e∈o.after,Ej .any e=true->bN.getD e.on false=true
variable {bN:Array Bool}
theorem zAG (hc:Closed ops bN):∀(n i j:Nat),Sf ops n i j=true->bN.getD i false=true->bN.getD j false=true:=by
 intro n
 induction n with
 |zero=>intro i j h _;cases h
 |succ n ih=>
  intro i j h hl;unfold Sf at h;simp only[Dq,List.any_eq_true,fN] at h;rcases h with h|⟨m,_,h1,h2⟩
  .obtain⟨o,ho,e,he,hb,rfl⟩:=zlN h
   exact hc i o ho hl e he hb
  .obtain⟨o,ho,e,he,hb,rfl⟩:=zlN h1
   exact ih _ j h2 (hc i o ho hl e he hb)
variable {ch:List Nat}
theorem zFo {m:Nat}(h:ch.idxOf? i=some m):ch[m]? =some i/\m<ch.length:=by
 unfold zmg at h;obtain⟨h1,h2,_⟩:=zma.1 h;rw[beq_iff_eq] at h2;exact⟨by rw[lP h1,h2],h1⟩
theorem zHM (h:i∉ch):ch.idxOf? i=none:=by
 unfold zmg;rw[List.findIdx?_eq_none_iff];intro x hx;simp only[beq_eq_false_iff_ne];exact λe=>h (e▸hx)
theorem zlb (hn:ch.Nodup){m:Nat}(h:ch[m]? =some i):ch.idxOf? i=some m:=by
 unfold zmg;obtain⟨h1,h2⟩:=jW.1 h;rw[zma];refine⟨h1,by rw[h2];simp,λj hj=>?_⟩;simp only[Bool.not_eq_true,beq_eq_false_iff_ne];intro e;have:=(List.getElem_inj hn).1 (e.trans h2.symm);omega
def VV (ch:List Nat)(V0:Nat->aF)(vs:List aF)(i:Nat):Value:=match ch.idxOf? i with|some j=>vs.getD j aA|none=>V0 i
variable {t0:Array aF}
theorem rG.congr {vals Wy:Nat->aF}{t:Array aF}(h:rG ops vals t0 bN t)(hv:∀i,bN.getD i false=true->vals i=Wy i):rG ops Wy t0 bN t:=
 ⟨h.size,λi o d h1 h2 h3 h4=>by rw[<-hv i h4];exact h.got i o d h1 h2 h3 h4,h.old⟩
variable {σ:Type}{P:bS}{V0:Nat->aF}
theorem zDB {J:σ->List Nat->Array aF->aE->Prop}{S:List aF->σ->aE->Prop}(KO:J4 ops)(sS:Nq ops ch=true)(nV:∀c∈ch,¬c<ops.size->False)
 (hop:∀vs s i o rest t w v,S vs s w->ops[i]? =some o->i∉ch->dA o (dN ops t)=true->(∀T,(aO (bH t []).eval o).run P (Tt.tp w T 0)=.ok (.value v) (Tt.tp w T 0))->(∀T,J s rest (b7 ⟨t,[]⟩ o.dst v).tmps (Tt.tp w T 0))->J s (i::rest) t w)
 (hT:∀vs s w T e,S vs s w->S vs s (Tt.tp w T e))
 (hR:∀(i:Nat) (o:aY),ops[i]? =some o->i∉ch->∀vs s w,vs.length<ch.length->S vs s w->dA o (dN ops (cZ ops (VV ch V0 vs) t0))=true/\(aO (bH (cZ ops (VV ch V0 vs) t0) []).eval o).run P w=.ok (.value (V0 i)) w)
 (hC:∀(vs:List aF) (c:Nat) (o:aY) s w,ch[vs.length]? =some c->ops[c]? =some o->S vs s w->∀(t:Array aF) (rest:List Nat),(∀s∈o.looksAt ops,t[s]? =(cZ ops (VV ch V0 vs) t0)[s]?)->
  (∀v s' w',S (vs++[v]) s' w'->J s' rest (b7 ⟨t,[]⟩ o.dst v).tmps w')->J s (c::rest) t w)
 (hk:∀vs s w,vs.length=ch.length->S vs s w->J s [] (cZ ops (VV ch V0 vs) t0) w):
 ∀(fuel q:Nat) (bN:Array Bool) (t:Array aF) (vs:List aF) (s:σ) (w:aE),bN.size=ops.size->((gD ops.size).filter λi=>!bN.getD i false).length<=fuel->rG ops (VV ch V0 vs) t0 bN t->Closed ops bN->
  (∀j c,ch[j]? =some c->(bN.getD c false=true↔j<vs.length))->vs.length<=ch.length->S vs s w->J s (zep .any ops fuel q bN []) t w:=by
 have zi3:=sS;unfold Nq at zi3;simp only[fN,decide_eq_true_eq] at zi3;obtain⟨⟨x5,lD⟩,Ck⟩:=zi3;have fin:∀(bN:Array Bool) (t:Array aF) (vs:List aF) (s:σ) (w:aE),bN.size=ops.size->(∀i,i<ops.size->bN.getD i false=true)->rG ops (VV ch V0 vs) t0 bN t->(∀j c,ch[j]? =some c->(bN.getD c false=true↔j<vs.length))->vs.length<=ch.length->S vs s w->(∀c∈ch,c<ops.size)->J s [] t w:=by
  intro bN t vs s w hz rU hm hl hle hw fP;have e:bN=nD ops.size true:=by
   apply Array.ext_getElem?;intro j;by_cases hj:j<ops.size
   .have:=rU j hj
    have sN:j<bN.size:=aD;simp[sN] at this;simp[hj,sN,this]
   .rw[G4 aD,G4 rF]
  have tG:vs.length=ch.length:=by
   rcases nM vs.length ch.length with h|h
   .have h1:ch[vs.length]? =some ch[vs.length]:=lP h
    have:=(hl _ _ h1).1 (rU _ (fP _ (zrU h)));omega
   .omega
  subst e;have e2:=hm.unique (Tr (vals:=VV ch V0 vs) (t0:=t0) KO);subst e2;exact hk vs s w tG hw
 have fP:∀c∈ch,c<ops.size:=by
  intro c hc
  cases hg:ch.getLast? with
  |none=>rw[hg] at Ck;cases Ck
  |some z=>
   by_cases aP:c<ops.size
   .exact aP
   .exfalso
    exact nV c hc aP
 intro fuel
 induction fuel with
 |zero=>
  intro q bN t vs s w hz hc hm mF hl hle hw;simp only[zep,List.reverse_nil];refine fin bN t vs s w hz (λi hi=>?_) hm hl hle hw fP
  cases hl:bN.getD i false with
  |true=>rfl
  |false=>
   have:i∈(gD ops.size).filter λi=>!bN.getD i false:=H5.2 ⟨B6.2 hi,by rw[hl];rfl⟩;have:=List.length_pos_of_mem this;omega
 |succ fuel ih=>
  intro q bN t vs s w hz hc hm mF hl hle hw;simp only[zep];change J s (match(Gi .any ops bN)[q%(Gi .any ops bN).length]? with
   |some i=>zep .any ops fuel (q/(Gi .any ops bN).length) (bN.setIfInBounds i true) [i]
   |none=>[].reverse) t w
  cases hi:(Gi .any ops bN)[q%(Gi .any ops bN).length]? with
  |none=>
   have Wt:Gi .any ops bN=[]:=by
    cases hr:Gi .any ops bN with
    |nil=>rfl
    |cons x xs=>
     rw[hr] at hi;have aP:q%(x::xs).length<(x::xs).length:=Nat.mod_lt _ aQ;simp at hi;simp at aP;omega
   exact fin bN t vs s w hz (zpm KO hz Wt) hm hl hle hw fP
  |some i=>
   simp only[];rw[linearise_go_acc,List.reverse_singleton,List.singleton_append];obtain⟨hu,o,ho,sZ⟩:=mem_ready.1 (dS hi);have Bw:i<ops.size:=(dM.1 ho).1;have lR:=hm.sees KO (Tr (vals:=VV ch V0 vs) (t0:=t0) KO) ho sZ;have Kw:∀j,(bN.setIfInBounds i true).getD j false=if j=i then true else bN.getD j false:=by
    intro j;by_cases e:j=i
    .subst e;have:j<bN.size:=aD
     simp[this]
    .rw[if_neg e];exact getD_set_ne false (Ne.symm e)
   have oQ:bN.getD i false=false:=by
    have:i<bN.size:=aD;simp[this] at hu⊢;exact hu
   have zq7:Closed ops (bN.setIfInBounds i true):=by
    intro j oj hj sN e he hb;rw[Kw] at sN⊢;split
    .rfl
    .split at sN
     .next e1=>subst e1;rw[ho] at hj;obtain rfl:=cD hj;exact sZ e he hb
     .exact mF j oj hj sN e he hb
   have Yy:((gD ops.size).filter λj=>!(bN.setIfInBounds i true).getD j false).length<=fuel:=by
    have aP:((gD ops.size).filter λj=>!(bN.setIfInBounds i true).getD j false).length<((gD ops.size).filter λj=>!bN.getD j false).length:=by
     have e:((gD ops.size).filter λj=>!(bN.setIfInBounds i true).getD j false)=((gD ops.size).filter λj=>!bN.getD j false).filter (λj=>j !=i):=by
      rw[List.filter_filter];apply List.filter_congr;intro j hj;rw[Kw];by_cases e:j=i
      .simp[e]
      .simp[e]
     rw[e];exact List.length_filter_lt_length_iff_exists.2 ⟨i,H5.2 ⟨B6.2 Bw,by rw[oQ];rfl⟩,aQ⟩
    omega
   by_cases yB:i∈ch
   .
    obtain⟨j,hj⟩:=List.mem_iff_getElem?.1 yB;have zLZ:=(jW.1 hj).1;have zzO:j=vs.length:=by
     have h1:¬j<vs.length:=λh=>by have:=(hl j i hj).2 h;rw[oQ] at this;cases this
     rcases nM vs.length j with h|h
     .exfalso
      obtain⟨b,hb⟩:∃b,ch[j-1]? =some b:=⟨ch[j-1]' aD,lP aD⟩;have hd:=zuJ x5 (j-1) b i hb (by rw[Nat.sub_add_cancel aD];exact hj);obtain⟨o',uW,e,he,zbP,rfl⟩:=zlN hd;rw[ho] at uW;obtain rfl:=cD uW;have:=(hl (j-1) _ hb).1 (sZ e he zbP);omega
     .omega
    subst zzO;have vI:∀v i',i'≠i->VV ch V0 (vs++[v]) i'=VV ch V0 vs i'\/bN.getD i' false=false:=by
     intro v i' aT;unfold VV
     cases hx:ch.idxOf? i' with
     |none=>exact .inl rfl
     |some m=>
      simp only;obtain⟨zgJ,Fs⟩:=zFo hx;rcases zu6 m vs.length with h|h|h
      .left;simp[Jl,yO h]
      .subst h;rw[hj] at zgJ;exact absurd (cD zgJ).symm aT
      .right
       cases Ip:bN.getD i' false with
       |false=>rfl
       |true=>have:=(hl m i' zgJ).1 Ip;omega
    have zla:∀v,VV ch V0 (vs++[v]) i=v:=by
     intro v;unfold VV;rw[zlb lD hj];simp[Jl]
    refine hC vs i o s w hj ho hw t _ lR λv s' w' Pe=>?_;have Fs:rG ops (VV ch V0 (vs++[v])) t0 bN t:=hm.congr λi' iY=>by
     rcases vI v i' (λe=>by subst e;rw[oQ] at iY;cases iY) with h|h
     .exact h.symm
     .rw[h] at iY;cases iY
    have Vn:=Fs.step KO ho hz hu;have:=ih (q/(Gi .any ops bN).length) (bN.setIfInBounds i true) _ (vs++[v]) s' w' (by simp[hz]) Yy Vn zq7 (λj c Md=>?_) rF Pe
    .rw[zla] at this
     cases hd:o.dst with
     |none=>rw[hd] at this;exact this
     |some s=>rw[hd] at this;exact this
    .rw[Kw]
     by_cases e:c=i
     .subst e
      rw[if_pos rfl];have:j=vs.length:=by
       have h1:=zlb lD Md;have h2:=zlb lD hj;rw[h1] at h2;exact cD h2
      subst this;simp
     .rw[if_neg e,hl j c Md]
      simp;constructor
      .intro h;omega
      .intro h
       rcases nM j vs.length with h2|h2
       .exact h2
       .have:j=vs.length:=aD
        subst this;rw[hj] at Md;exact absurd (cD Md).symm e
   .
    have zq3:=hR i o ho yB;have aP:vs.length<ch.length:=by
     rcases nM vs.length ch.length with h|h
     .exact h
     .exfalso
      cases hg:ch.getLast? with
      |none=>rw[hg] at Ck;cases Ck
      |some z=>
       rw[hg] at Ck;have zoA:ch[ch.length-1]? =some z:=by rw[<-List.getLast?_eq_getElem?];exact hg
       have Bt:0<ch.length:=by
        cases ch with
        |nil=>cases hg
        |cons _ _=>simp
       have zIa:=(hl _ z zoA).2 aD;have:=(tJ.1 Ck) i (B6.2 Bw);simp only[Dq,beq_iff_eq] at this;rcases this with rfl|this
       .exact yB (dS zoA)
       .have:=zAG mF _ _ _ this zIa
        rw[oQ] at this;cases this
    obtain⟨h1,h2⟩:=zq3 vs s w aP hw;have eT:dA o (dN ops t)=true:=(Yu lR).trans h1;refine hop vs s i o _ t w (V0 i) hw ho yB eT (λT=>?_) λT=>?_
    .rw[Ds (KO.sel i o ho) lR]
     exact(zq3 vs s _ aP (hT _ _ _ T 0 hw)).2
    .have Vn:=hm.step KO ho hz hu
     have zla:VV ch V0 vs i=V0 i:=by
      unfold VV;rw[zHM yB]
     rw[zla] at Vn;have:=ih (q/(Gi .any ops bN).length) (bN.setIfInBounds i true) _ vs s (Tt.tp w T 0) (by simp[hz]) Yy Vn zq7 (λj c Md=>?_) hle (hT _ _ _ T 0 hw)
     .cases hd:o.dst with
      |none=>rw[hd] at this;exact this
      |some s=>rw[hd] at this;exact this
     .have aT:c≠i:=λe=>yB (e▸dS Md)
      rw[Kw,if_neg aT];exact hl j c Md
theorem zwZ {J:σ->List Nat->Array aF->aE->Prop}{S:List aF->σ->aE->Prop}(bV:Hw ops=true)(sS:Nq ops ch=true)(nV:ch.all (λc=>decide (c<ops.size))=true)
 (hop:∀vs s i o rest t w v,S vs s w->ops[i]? =some o->i∉ch->dA o (dN ops t)=true->(∀T,(aO (bH t []).eval o).run P (Tt.tp w T 0)=.ok (.value v) (Tt.tp w T 0))->(∀T,J s rest (b7 ⟨t,[]⟩ o.dst v).tmps (Tt.tp w T 0))->J s (i::rest) t w)
 (hT:∀vs s w T e,S vs s w->S vs s (Tt.tp w T e))
 (hR:∀(i:Nat) (o:aY),ops[i]? =some o->i∉ch->∀vs s w,vs.length<ch.length->S vs s w->dA o (dN ops (cZ ops (VV ch V0 vs) t0))=true/\(aO (bH (cZ ops (VV ch V0 vs) t0) []).eval o).run P w=.ok (.value (V0 i)) w)
 (hC:∀(vs:List aF) (c:Nat) (o:aY) s w,ch[vs.length]? =some c->ops[c]? =some o->S vs s w->∀(t:Array aF) (rest:List Nat),(∀s∈o.looksAt ops,t[s]? =(cZ ops (VV ch V0 vs) t0)[s]?)->
  (∀v s' w',S (vs++[v]) s' w'->J s' rest (b7 ⟨t,[]⟩ o.dst v).tmps w')->J s (c::rest) t w)
 (hk:∀vs s w,vs.length=ch.length->S vs s w->J s [] (cZ ops (VV ch V0 vs) t0) w) {s:σ} {w:aE} (h0:S [] s w) (n:Nat):J s (S9 true ops n) t0 w:=by
 simp only[S9,Bool.true_or,if_true];refine zDB (Rq bV) sS (λc hc aP=>?_) hop hT hR hC hk ops.size n _ t0 [] s w aQ (eP (List.length_filter_le _ _) aQ) (rG.start _ λi=>?_) (λi o hi hl=>?_) (λj c hj=>?_) (lB _) h0
 .have:=tJ.1 nV c hc
  simp at this;exact aP this
 .by_cases hi:i<ops.size<;>simp[hi]
 .by_cases hi:i<ops.size<;>simp[hi] at hl
 .by_cases hi:c<ops.size<;>simp[hi]
section
variable {d:o9}{f:aN}
variable {Φ:nQ->WS->Prop}
theorem CW.drawn (H:d.Ok)(zk9:d.p.follows .mixedOrders=true){B:List Nat}{id:Nat}{t0:Array aF}{ops:Array aY}(ch:List Nat)(V0:Nat->aF)(S:List aF->Pr->gE->aE->Prop)(bV:Hw ops=true)(sS:Nq ops ch=true)(nV:ch.all (λc=>decide (c<ops.size))=true)
 (hT:∀vs K l w T e,S vs K l w->S vs K l (Tt.tp w T e))
 (hR:∀(i:Nat) (o:aY),ops[i]? =some o->i∉ch->rD d.p ⟨d.fs,d.gs,true⟩ o.op=true/\∀vs K l w,vs.length<ch.length->S vs K l w->dA o (dN ops (cZ ops (VV ch V0 vs) t0))=true/\(aO (bH (cZ ops (VV ch V0 vs) t0) []).eval o).run d.p w=.ok (.value (V0 i)) w)
 (hC:∀(vs:List aF) (c:Nat) (o:aY) K l w,ch[vs.length]? =some c->ops[c]? =some o->S vs K l w->∀(t:Array aF) (rest:List Nat),(∀s∈o.looksAt ops,t[s]? =(cZ ops (VV ch V0 vs) t0)[s]?)->
  (∀v K' l' w',K.le K'->S (vs++[v]) K' l' w'->CR d f ops rest ⟨[],K',l',(b7 ⟨t,[]⟩ o.dst v).tmps,w'⟩ (Φ .normal))->CR d f ops (c::rest) ⟨[],K,l,t,w⟩ (Φ .normal))
 (hk:∀vs K l w,vs.length=ch.length->S vs K l w->Φ .normal ⟨[],K,l,cZ ops (VV ch V0 vs) t0,w⟩) {K:Pr} {l:gE} {w:aE} (h0:S [] K l w):CW d B f (.region id ops true) ⟨[],K,l,t0,w⟩ Φ:=λQ base kk hQ hB h1 h2 h3=>by
 refine BO.draw (H.iok hQ) λn=>?_
 have:=zwZ (σ:=Pr×gE) (P:=d.p) (J:=λs is t w=>CR d f ops is ⟨[],s.1,s.2,t,w⟩ (Φ .normal)) (S:=λvs s w=>S vs s.1 s.2 w) bV sS nV
  (λvs s i o rest t w v hS ho yB hw hx hJ=>CR.op H ho hw (hR i o ho yB).1 λT=>⟨v,_,.inl (hx T),hJ T⟩) (λvs s=>hT vs s.1 s.2) (λi o ho yB vs s=>(hR i o ho yB).2 vs s.1 s.2)
  (λvs c o s w hj ho h t rest hs cN=>hC vs c o s.1 s.2 w hj ho h t rest hs λv K' l' w' _=>cN v (K',l') w') (λvs s w hl h=>CR.nil H (hk vs s.1 s.2 w hl h)) (s:=(K,l)) h0 n Q base kk hQ λs' l x=>h1 s' l x
 rw[<-zk9] at this;exact this
end
structure OvFn (p:bS)(f:aN)(t tr e:aM)(size:Nat):Prop where
 fn:∃fn,p.funcs[f]? =some fn/\(fn.name== "runtime.NumGoroutine")=false/\fn.body.isNone=true/\zu9 fn=none/\zwG fn=some (zmh #[t,t] #[tr])
 un:p.underlying t=some (.slice e)
 inf:∃i,p.info? e=some i/\i.size=size
variable {i:wI}
theorem zyi (w:aE)(tS tR e:aM)(ht:P.underlying tS=some (.slice e))(hi:P.info? e=some i)
 (a b:bO) (la ca lb cb:Nat) (aT:a.block≠b.block) (tA tB:aM) (kA kB:Nat)
 (Iv:w.shape? a.block=some (tA,kA)) (Dg:w.shape? b.block=some (tB,kB)) (Pn:kB≠0)
 (uS:w.frozen? a=false) (Lt:w.frozen? {block:=a.block,off:=kA}=false):
 (zmh #[tS,tS] #[tR] #[.slice (some a) la ca,.slice (some b) lb cb]).run P w=.ok (.bool false) w:=
 Lib.run_overlaps_apart w tS tR e ht i.size (λw=>by simp[sizeOf,typeInfo,hi]) a b la ca lb cb aT tA tB kA kB Iv Dg Pn uS Lt
section
variable {P:bS}{w:aE}{es:Array Event}
def zsh (a:bO):(frozen a).events P w es=es:=rfl
def zit (a:bO):(frozen a).run P w=.ok (w.frozen? a) w:=rfl
def zlX (r:Nat):(shape r).events P w es=es:=rfl
def Xv (r:Nat):(shape r).run P w=.ok (w.shape? r) w:=rfl
variable {a:bO}{t:aM}{n:Nat}
theorem zvW (h:w.shape? a.block=some (t,n)):(noView a).events P w es=es:=by
 unfold noView viewAt;simp[zlX,Xv,h]
theorem zrp (h:w.shape? a.block=some (t,n)):(noView a).run P w=.ok () w:=by
 unfold noView viewAt;simp[Xv,h]
theorem zpQ (h:w.shape? a.block=some (t,n)):(stringish a).events P w es=es:=by
 unfold stringish;cases hf:w.frozen? a<;>simp[zsh,zit,zlX,Xv,h,hf]
theorem zfa (h:w.shape? a.block=some (t,n)):(stringish a).run P w=.ok (w.frozen? a||w.frozen? ⟨a.block,n,none⟩) w:=by
 unfold stringish;cases hf:w.frozen? a<;>simp[zit,Xv,h,hf]
theorem zAC {b:bO}{tA tB:aM}{kA kB:Nat}(Iv:w.shape? a.block=some (tA,kA))(Dg:w.shape? b.block=some (tB,kB))(uS:w.frozen? a=false)(Lt:w.frozen? ⟨a.block,kA,none⟩=false)(Pn:kB≠0):
 (mayBeOne a b).events P w es=es/\(mayBeOne a b).run P w=.ok false w:=by
 cases kB with
 |zero=>exact absurd rfl Pn
 |succ kB=>
  unfold mayBeOne;constructor
  .simp[zpQ Iv,zfa Iv,zpQ Dg,zfa Dg,uS,Lt,zlX,Xv,Iv,Dg]
  .simp[zfa Iv,zfa Dg,uS,Lt,Xv,Iv,Dg]
end
theorem zy2 (w:aE)(es:Array Event)(tS tR e:aM)(ht:P.underlying tS=some (.slice e))(hi:P.info? e=some i)
 (a b:bO) (la ca lb cb:Nat) (aT:a.block≠b.block) (tA tB:aM) (kA kB:Nat)
 (Iv:w.shape? a.block=some (tA,kA)) (Dg:w.shape? b.block=some (tB,kB)) (Pn:kB≠0)
 (uS:w.frozen? a=false) (Lt:w.frozen? {block:=a.block,off:=kA}=false):
 (zmh #[tS,tS] #[tR] #[.slice (some a) la ca,.slice (some b) lb cb]).events P w es=es:=by
 have nE:(a.block !=b.block)=true:=by simpa using aT
 have zFH:(a.block==b.block)=false:=by simpa using aT
 change Sem.events P (α:=aF) (do
  let some t:=(#[tS,tS]:Array aM)[0]? |stuck "slices.overlaps: no parameter types"
  let .slice elem<-underlying t|stuck "slices.overlaps: slice type expected"
  let size<-sizeOf elem
  match(some a:Option bO),(some b:Option bO) with
  |some a,some b=>
   if la=0\/lb=0\/size=0 then pure (Nd false)
   else if a.block !=b.block&&(<-frozen a)&&(<-frozen b) then unsupported .addressObserved
   else do
    if a.block !=b.block then do
     noView a;noView b
     if<-mayBeOne a b then return Nd ((<-choose (.extern "sameAddr.stringBytes" 2))==1)
    pure (Nd (a.block==b.block&&a.off<b.off+lb*size&&b.off<a.off+la*size))
  |_,_=>pure (Nd false)) w es=_
 by_cases h0:la=0\/lb=0\/i.size=0
 .simp[wU ht,sizeOf,typeInfo,hi,h0]
 .obtain⟨m1,m2⟩:=zAC (P:=P) (es:=es) Iv Dg uS Lt Pn
  simp[wU ht,sizeOf,typeInfo,hi,h0,nE,zFH,zsh,zit,uS,zvW Iv,zrp Iv,zvW Dg,zrp Dg,m1,m2]
section
variable {L:Type}{C:Cx L}{l:L}
variable {o:aY}{f:aN}{j8:Array aM}{e:Array aF->Sem aF}{w:aE}
theorem zD5 {p:bS}{args:Array cM}(hop:o.op=.call ⟨.value (.func f),args,j8⟩){ρ:cM->aF}(hρ:ρ (.func f)=.func (.func f) #[] #[]){fn:Func}(hf:p.funcs[f]? =some fn)
 (hn:(fn.name== "runtime.NumGoroutine")=false) (hb:fn.body.isNone=true) (h1:zu9 fn=none)  (h2:zwG fn=some e) {w':aE} {v:aF} (hr:(e (args.map ρ)).run p w=.ok v w') (he:∀es,(e (args.map ρ)).events p w es=es):
 (aO ρ o).run p w=.ok (.value v) w'/\(aO ρ o).events p w #[]=#[⟨.mark (.extern f),false,true⟩]:=by
 obtain⟨dst,yF,type,pos,after,guard⟩:=o;simp only at hop;subst hop;have vB:¬fn.name= "runtime.NumGoroutine" :=by simpa using hn
 have bY:fn.body=none:=by simpa using hb
 constructor
 .simp[aO,resolve,Bg,hρ,invoke,callFunc,program,mark,Sem.run,hf,vB,bY,h1,h2,hr]
 .simp[aO,resolve,Bg,hρ,invoke,callFunc,hf,vB,bY,h1,h2,he]
theorem BO.overlaps (ha:C.alone=none)(hI:fB C){fn:aN}{tmps:Array aF}{ops:Array aY}{i:Nat}{rest:List Nat}{k:List dW}{x y:cM}{A B:bO}{la ca lb cb:Nat}{t tr e:aM}{sz:Nat}{zid zb0:Array aF}{TA TB:aM}{zis:Nat×Nat}
 (H:OvFn C.p f t tr e sz) (ho:ops[i]? =some o) (cC:dA o (dN ops tmps)=true) (hop:o.op=.call ⟨.value (.func f),#[x,y],j8⟩) (rK:dL C.fs x=true) (C6:dL C.fs y=true) (hx:(bH tmps []).eval x=.slice (some A) la ca) (hy:(bH tmps []).eval y=.slice (some B) lb cb)
 (aT:A.block≠B.block) (hA:w.heap[A.block]? =some (.cells zid TA (0,0))) (hB:w.heap[B.block]? =some (.cells zb0 TB zis)) (hz:zb0.size≠0) (lD:∀s,o.dst=some s->s∉C.S)
 (h1:BO C l ⟨fn,(b7 ⟨tmps,[]⟩ o.dst (.bool false)).tmps,.inRegion ops rest::k,false⟩ w):BO C l ⟨fn,tmps,.inRegion ops (i::rest)::k,false⟩ w:=by
 intro R W m' τ hw hm ht hi;obtain⟨fn',bQ,yJ,x3⟩:=m';obtain rfl:=hm.fn;obtain rfl:=hm.todo;obtain rfl:=hm.ret;have uH:=Hd (C:=C) hm.tmps cC;have hb:(C.ds.base fn).kind≠ .early:=C.ds.ok;have vx:=Fx (C:=C) (d:=C.ds.ds) hm.tmps rK;have vy:=Fx (C:=C) (d:=C.ds.ds) hm.tmps C6;rw[hx] at vx;rw[hy] at vy;obtain⟨fnf,g1,g2,g3,g4,g5⟩:=H.fn;obtain⟨ie,jL,cH⟩:=H.inf;rw[mE,Cx.B_none ha];refine bZ.own rfl trivial λaV s=>?_;have dH:C.Rel R w aV:=Cx.Rel.suf (C:=C) hw ht s;have yH:=hI.suf _ _ _ _ hi s;generalize hex:(bH bQ C.ds.ds).eval x=vx' at vx;generalize zze:(bH bQ C.ds.ds).eval y=vy' at vy
 cases vx with
 |slice qa=>
  cases qa with
  |some qa=>
   cases qa with
   |mk ra=>
    cases vy with
    |slice qb=>
     cases qb with
     |some qb=>
      cases qb with
      |mk rb=>
       rename_i a a' oa sa b b' ob sb;obtain⟨o1,o2,k1,k2,k3⟩:=dH.cont _ _ ra;obtain⟨p1,p2,q1,q2,q3⟩:=dH.cont _ _ rb;rw[hA] at k1;obtain rfl:=cD k1;rw[hB] at q1;obtain rfl:=cD q1
       cases k3 with
       |cells pK uS=>
        cases q3 with
        |cells Ii zKh=>
         rename_i cA' fA' znh fB';have zks:∀n,aV.frozen? ⟨a',n,none⟩=false:=λn=>by
          simp only[To,k2]
          cases hq:(decide (fA'.1<=n)&&decide (n<fA'.2)) with
          |false=>rfl
          |true=>
           have:=uS n (by simpa[Ja] using hq);unfold Ja at this;omega
         have zpT:aV.frozen? ⟨a',oa,sa⟩=false:=by
          have:=zks oa;simpa[To] using this
         have Yh:a'≠b':=λe=>aT (dH.inj' _ _ _ (.inl ra) (.inl (e▸rb)));have sA:aV.shape? a'=some (TA,cA'.size):=by simp[zb1,k2]
         have sB:aV.shape? b'=some (TB,znh.size):=by simp[zb1,q2]
         have rR:(#[x,y]:Array cM).map (bH bQ C.ds.ds).eval=#[.slice (some ⟨a',oa,sa⟩) la ca,.slice (some ⟨b',ob,sb⟩) lb cb]:=by
          simp only[uG,fG,tH,hex,zze]
         have r1:=zyi (P:=C.p) aV t tr e H.un jL ⟨a',oa,sa⟩ ⟨b',ob,sb⟩ la ca lb cb Yh TA TB _ _ sA sB (by rw[<-Ii.1];exact hz) zpT (zks _);have r2:=λes=>zy2 (P:=C.p) aV es t tr e H.un jL ⟨a',oa,sa⟩ ⟨b',ob,sb⟩ la ca lb cb Yh TA TB _ _ sA sB (by rw[<-Ii.1];exact hz) zpT (zks _);obtain⟨x1,x2⟩:=zD5 (p:=C.p) (o:=o) hop (ρ:=(bH bQ C.ds.ds).eval) rfl g1 g2 g3 g4 g5 (by rw[rR];exact r1) (by rw[rR];exact r2);have aX:=zlr (main:=C.main) (b:=C.ds.base fn) (rest:=rest) (k:=k) (cs:=C.base) ho uH hb x1;have hl:∀ev∈wK C.p (C.ds.base fn).fn ⟨bQ,C.ds.ds⟩ o aV,ev=⟨.mark (.extern f),false,true⟩:=λev mD=>by
          unfold wK at mD;rw[x2] at mD;simpa using mem_seen mD
         refine⟨_,aV,_,aX,rfl,zA.id _ _,λev mD=>?_,?_⟩
         .rw[hl ev mD];trivial
         .rw[deafBehind_still (λev mD=>by rw[hl ev mD];exact⟨aQ,aQ⟩)]
          have Dz:b7 ⟨bQ,C.ds.ds⟩ o.dst (.bool false)=⟨(b7 ⟨bQ,C.ds.ds⟩ o.dst (.bool false)).tmps,C.ds.ds⟩:=by cases o.dst<;>rfl
          rw[Dz,<-mE,<-Cx.B_none ha];have Km:=hI.step R τ aV R aV yH ht ⟨λ_ _ x=>x,rfl,rfl,rfl,aZ _,λa b x=>.inl x,λb _ _=>rfl⟩;exact h1 R aV ⟨fn,_,_,false⟩ _ dH ⟨rfl,rfl,rfl,Hh (C:=C) hm.tmps (.bool false),Is (C:=C) hm.pins lD⟩ (λa b x=>⟨(ht a b x).1,λz=>.inl ((ht a b x).2 z)⟩) Km
end
section
variable {d:o9}{f:aN}{s:WS}{ops:Array aY}{i:Nat}{rest:List Nat}{Φ:WS->Prop}{o:aY}
def CR.overlaps (H:d.Ok){x y:cM}{g:aN}{j8:Array aM}{A B:bO}{la ca lb cb:Nat}{t tr e:aM}{sz:Nat}{zid zb0:Array aF}{TA TB:aM}{zis:Nat×Nat}
 (HO:OvFn d.p g t tr e sz) (ho:ops[i]? =some o) (cC:dA o (dN ops s.T)=true) (hop:o.op=.call ⟨.value (.func g),#[x,y],j8⟩) (rK:dL d.fs x=true) (C6:dL d.fs y=true) (hx:(bH s.T []).eval x=.slice (some A) la ca) (hy:(bH s.T []).eval y=.slice (some B) lb cb)
 (aT:A.block≠B.block) (hA:s.w.heap[A.block]? =some (.cells zid TA (0,0))) (hB:s.w.heap[B.block]? =some (.cells zb0 TB zis)) (hz:zb0.size≠0)
 (h:CR d f ops rest {s with T:=(b7 ⟨s.T,[]⟩ o.dst (.bool false)).tmps} Φ):CR d f ops (i::rest) s Φ:=λQ base kk hQ h1=>
 BO.overlaps (C:=d.cx s.K Q s.chs base .nil []) rfl (H.iok hQ) HO ho cC hop rK C6 hx hy aT hA hB hz (λ_ _=>lX) (h Q base kk hQ h1)
end
end Go.Mt
namespace Go.Proofs.YtfcjiloojkjaeaaDoor
open Go.RowKit Go.Mt Go.Conc Go.Tt Go.Maps
def sA:vJ->vJ| .seq a _=>a|_=>.skip
def sB:vJ->vJ| .seq _ b=>b|_=>.skip
def cA:vJ->vJ| .cond _ a _=>a|_=>.skip
def cB:vJ->vJ| .cond _ _ b=>b|_=>.skip
def cX:vJ->cM| .cond x _ _=>x|_=>.const aA
def bI:vJ->Nat| .block i _=>i| .region i _ _=>i|_=>0
def rO:vJ->Array aY| .region _ o _=>o|_=>#[]
def Lh:Nat->List aF->List aF
 |0,_=>[]
 |n+1,[]=>aA::Lh n []
 |n+1,a::l=>a::Lh n l
theorem zt0:∀n,Lh n []=zoO n aA
 |0=>rfl
 |n+1=>by rw[Lh,zt0 n];rfl
theorem zuc:∀(n:Nat) (l:List aF),l.length<=n->l++zoO (n-l.length) aA=Lh n l
 |n,[],_=>by rw[zt0];simp
 |n+1,a::l,h=>by
  simp only[pG,Nat.add_sub_add_right,List.cons_append,Lh];rw[zuc n l zfg]
theorem pad_eq {n:Nat}{l T:List aF}(hl:l.length<=n)(hT:Lh n l=T):l.toArray++nD (n-l.toArray.size) aA=T.toArray:=by
 subst hT;rw[<-zuc n l hl];simp
structure Fy where
 ty:aM
 Wg:Nat
 N:Nat
 W:List fE
 D:aE->Prop
 Fin:bC->aE->Prop
 St:Nat->Prop
 W0:aE
 StI:Nat->Prop
 Shun:Loc->Prop
 SS:Nat->Prop
 R0:Pr
 Fz:Nat->Prop
 Wf:aE
 qs:List Nat
abbrev Fy.d (e:Fy):o9:=⟨aK,Bi,fZ,e.ty,e.Wg,e.N,e.W,e.D,e.Fin,e.St,e.W0,e.StI,e.Shun,e.SS,e.R0,e.Fz,e.Wf,e.qs⟩
section
variable {d:o9}{f:aN}{s:WS}{B:List Nat}{c:vJ}
def CW.tape {Φ:nQ->WS->Prop}(h:CW d B f c s Φ)(T:kK)(n:Nat):CW d B f c {s with w:=Tt.tp s.w T n} Φ:=λQ base kk hQ hB h1 h2 h3=>BO.tape (h Q base kk hQ hB h1 h2 h3) T n
def CW.pieceQ {Φ:nQ->WS->Prop}(H:d.Ok)(hc:oI d.p ⟨d.fs,d.gs,true⟩ c=true)(hf:vK d.p f)(qI:∀(T:kK) (Q:nQ->tE->aE->Prop),pP (∀a' w',Φ .normal {s with T:=a'.tmps,w:=w'}->Q .normal a' w')->Code.wp d.p c Q ⟨s.T,[]⟩ (Tt.tp s.w T 0)):CW d B f c s Φ:=
 CW.piece H hc hf λT=>qI T _ (aC λa' w' h=>⟨rfl,h⟩)
theorem CW.pH {Φ:nQ->WS->Prop}{lo hb:Nat}{v v0:fC}{dd:nF}{w0:aE}(H:d.Ok)(hf:vK d.p f)(A:pP (bE s.w lo hb v dd))(T:pP (bL hb v0 w0 v s.w))
 (qI:∀(w1:aE) (Q:nQ->tE->aE->Prop),s.w.heap=w1.heap->pP (bE w1 lo hb v dd)->pP (bL hb v0 w0 v w1)->pP (∀a' w',Φ .normal {s with T:=a'.tmps,w:=w'}->Q .normal a' w')->Code.wp d.p c Q ⟨s.T,[]⟩ w1)
 (hc:oI d.p ⟨d.fs,d.gs,true⟩ c=true:=by kernel_rfl):CW d B f c s Φ:=
 CW.pieceQ H hc hf λ_ Q HQ=>qI _ Q rfl (aC (A.o.same rfl)) (aC (T.o.same rfl)) HQ
variable {ops:Array aY}{i:Nat}{rest is:List Nat}{Φ:WS->Prop}{o:aY}
def CR.tape (h:CR d f ops is s Φ)(T:kK)(n:Nat):CR d f ops is {s with w:=Tt.tp s.w T n} Φ:=λQ base kk hQ h1=>BO.tape (h Q base kk hQ h1) T n
def CR.opw (H:d.Ok)(ho:ops[i]? =some o)(cC:dA o (dN ops s.T)=true)(bV:rD d.p ⟨d.fs,d.gs,true⟩ o.op=true){v:aF}(hx:∀T,(aO (bH s.T []).eval o).run d.p (Tt.tp s.w T 0)=.ok (.value v) (Tt.tp s.w T 0))
 (h:CR d f ops rest {s with T:=(b7 ⟨s.T,[]⟩ o.dst v).tmps} Φ):CR d f ops (i::rest) s Φ:=
 CR.op H ho cC bV λT=>⟨v,Tt.tp s.w T 0,.inl (hx T),CR.tape h T 0⟩
theorem nP {P Q:Prop}(k:Q)(h:Q->P:=by intro q;first|(simp only[Go.Act.put,List.setIfInBounds_toArray,List.set_cons_zero,List.set_cons_succ];exact q)|exact q):P:=h k
theorem CR.sto (H:d.Ok)(ho:ops[i]? =some o)(cC:dA o (dN ops s.T)=true)(bV:rD d.p ⟨d.fs,d.gs,true⟩ o.op=true)(hd:o.dst=none){w':aE}(hx:∀T,(aO (bH s.T []).eval o).run d.p (Tt.tp s.w T 0)=.ok .skip (Tt.tp w' T 0))
 (h:CR d f ops rest {s with w:=w'} Φ):CR d f ops (i::rest) s Φ:=
 CR.op H ho cC bV λT=>⟨aA,Tt.tp w' T 0,.inr ⟨hx T,rfl⟩,by
  have:=CR.tape h T 0;have e:(b7 ⟨s.T,[]⟩ o.dst aA).tmps=s.T:=by rw[hd];rfl
  rw[e];exact this⟩
end
section
variable {d:o9}{f:aN}{s:WS}{B:List Nat}{c:vJ}
theorem CW.sq (H:d.Ok){Φ:nQ->WS->Prop}(h:CW d B f (sA c) s (λe s'=>match e with| .normal=>CW d B f (sB c) s' Φ|e=>Φ e s'))(e:c=.seq (sA c) (sB c):=by exact rfl):CW d B f c s Φ:=by
 rw[e];exact CW.seq H h
theorem CW.cd (H:d.Ok){Φ:nQ->WS->Prop}(t:Bool)(h:CW d B f (if t then cA c else cB c) s Φ)(e:c=.cond (cX c) (cA c) (cB c):=by exact rfl)(hx:dL d.fs (cX c)=true:=by exact rfl)(hc:(bH s.T []).eval (cX c)=.bool t:=by exact rfl):CW d B f c s Φ:=by
 rw[e];exact CW.cond H hx hc h
theorem CW.sk (H:d.Ok){Φ:nQ->WS->Prop}(h:Φ .normal s)(e:c=.skip:=by exact rfl):CW d B f c s Φ:=by
 rw[e];exact CW.skip H h
theorem CW.rt (H:d.Ok){Φ:nQ->WS->Prop}(h:Φ .ret s)(e:c=.ret:=by exact rfl):CW d B f c s Φ:=by
 rw[e];exact CW.ret H h
theorem CW.rg (H:d.Ok){Φ:nQ->WS->Prop}(is:List Nat)(h:CR d f (rO c) is s (λs'=>Φ .normal s'))(e:c=.region (bI c) (rO c) false:=by exact rfl)(hr:gD (rO c).size=is:=by exact rfl):CW d B f c s Φ:=by
 rw[e];exact CW.reg H is hr h
theorem CW.pQ {c':vJ}{Φ:nQ->WS->Prop}(H:d.Ok)(hf:vK d.p f)(qI:∀(T:kK) (Q:nQ->tE->aE->Prop),pP (∀a' w',Φ .normal {s with T:=a'.tmps,w:=w'}->Q .normal a' w')->Code.wp d.p c' Q ⟨s.T,[]⟩ (Tt.tp s.w T 0))
 (e:c=c':=by conv=>lhs;whnf) (hc:oI d.p ⟨d.fs,d.gs,true⟩ c=true:=by kernel_rfl):CW d B f c s Φ:=by
 subst e;exact CW.pieceQ H hc hf qI
variable {v0:fC}{dd:nF}{w0:aE}
theorem CW.pW {c':vJ}{Φ:nQ->WS->Prop}{lo hb:Nat}{v:fC}(H:d.Ok)(hf:vK d.p f)(A:pP (bE s.w lo hb v dd))(T:pP (bL hb v0 w0 v s.w))
 (qI:∀(w1:aE) (Q:nQ->tE->aE->Prop),s.w.heap=w1.heap->pP (bE w1 lo hb v dd)->pP (bL hb v0 w0 v w1)->pP (∀a' w',Φ .normal {s with T:=a'.tmps,w:=w'}->Q .normal a' w')->Code.wp d.p c' Q ⟨s.T,[]⟩ w1)
 (e:c=c':=by conv=>lhs;whnf) (hc:oI d.p ⟨d.fs,d.gs,true⟩ c=true:=by kernel_rfl):CW d B f c s Φ:=by
 subst e;exact CW.pH H hf A T qI hc
theorem CW.p0 {c':vJ}{T':Array aF}{Φ:nQ->WS->Prop}{lo hb:Nat}{v:fC}(H:d.Ok)(hf:vK d.p f)(A:pP (bE s.w lo hb v dd))(T:pP (bL hb v0 w0 v s.w))
 (h:∀w1:aE,s.w.heap=w1.heap->pP (bE w1 lo hb v dd)->pP (bL hb v0 w0 v w1)->Φ .normal {s with T:=T',w:=w1})
 (e:c=c':=by conv=>lhs;whnf) (qI:∀(w1:aE) (Q:nQ->tE->aE->Prop),pP (∀a':tE,a'.tmps=T'->Q .normal a' w1)->Code.wp d.p c' Q ⟨s.T,[]⟩ w1:=by(intro w1 Q HQ;go_wp2;exact HQ.o _ rfl))
 (hc:oI d.p ⟨d.fs,d.gs,true⟩ c=true:=by kernel_rfl):CW d B f c s Φ:=by
 subst e;exact CW.pH H hf A T (λw1 Q hw A1 T1 HQ=>qI w1 Q (aC λa' ha=>HQ.o a' w1 (ha▸h w1 hw A1 T1))) hc
variable {K:Pr}{w:aE}
theorem CF.of {g:aN}{l:List aF}{L:gE}{Ψ:Pr->gE->aF->aE->Prop}{fnf:Func}(n:Nat){T:List aF}(hf:d.p.funcs[g]? =some fnf)(hp:Cs fnf.results.toList)
 (h:CW d [] g (fnf.body.getD .skip) ⟨[],K,L,T.toArray,w⟩ (λe s'=>(e=.normal\/e=.ret)/\s'.chs=[]/\∃v,(nY fnf.results.toList s'.T).run d.p s'.w=.ok v s'.w/\Ψ s'.K s'.l v s'.w))
 (hT:Lh n l=T:=by(simp only[Lh];rfl)) (hl:l.length<=n:=by exact Nat.le_of_ble_eq_true rfl) (hn:fnf.ntmps=n:=by exact rfl) (hb:fnf.body=some (fnf.body.getD .skip):=by exact rfl) (hr:(fnf.name== "runtime.NumGoroutine")=false:=by decide):CF d g l.toArray K L w Ψ:=
 ⟨⟨fnf,_,hf,hr,hb,hp,by rw[hn,pad_eq hl hT];exact h⟩⟩
variable {ops:Array aY}{i:Nat}{rest:List Nat}{Φ:WS->Prop}{o:aY}
def zgi {o':aY}(h:ops[i]? =some o')(e:o'=o):ops[i]? =some o:=e▸h
variable {l:gE}
theorem CR.mv {chs:List Nat}{T T':Array aF}(H:d.Ok)(v:aF)(h:CR d f ops rest ⟨chs,K,l,T',w⟩ Φ)(ho:ops[i]? =some o:=by exact zgi rfl (by conv=>lhs;whnf))
 (hx:∀τ,(aO (bH T []).eval o).run d.p (Tt.tp w τ 0)=.ok (.value v) (Tt.tp w τ 0):=by exact λ_=>rfl)
 (cC:dA o (dN ops T)=true:=by exact rfl) (bV:rD d.p ⟨d.fs,d.gs,true⟩ o.op=true:=by kernel_rfl)
 (ht:(b7 ⟨T,[]⟩ o.dst v).tmps=T':=by first|(simp only[Go.Act.put,List.setIfInBounds_toArray,List.set_cons_zero,List.set_cons_succ];done)|(simp only[Go.Act.put,List.setIfInBounds_toArray,List.set_cons_zero,List.set_cons_succ];rfl)):CR d f ops (i::rest) ⟨chs,K,l,T,w⟩ Φ:=
 CR.opw (s:=⟨chs,K,l,T,w⟩) H ho cC bV hx (ht▸h)
theorem CR.mg {chs:List Nat}{T T':Array aF}(H:d.Ok)(v:aF)(h:CR d f ops rest ⟨chs,K,l,T',w⟩ Φ)(ho:ops[i]? =some o:=by exact zgi rfl (by conv=>lhs;whnf))
 (hx:∀τ,(aO (bH T []).eval o).run d.p (Tt.tp w τ 0)=.ok (.value v) (Tt.tp w τ 0):=by intro τ;unfold execOp;go_simp)
 (cC:dA o (dN ops T)=true:=by exact rfl) (bV:rD d.p ⟨d.fs,d.gs,true⟩ o.op=true:=by kernel_rfl)
 (ht:(b7 ⟨T,[]⟩ o.dst v).tmps=T':=by first|(simp only[Go.Act.put,List.setIfInBounds_toArray,List.set_cons_zero,List.set_cons_succ];done)|(simp only[Go.Act.put,List.setIfInBounds_toArray,List.set_cons_zero,List.set_cons_succ];rfl)):CR d f ops (i::rest) ⟨chs,K,l,T,w⟩ Φ:=
 CR.opw (s:=⟨chs,K,l,T,w⟩) H ho cC bV hx (ht▸h)
theorem allx {fs:aN->Bool}{l:List cM}(h:l.all (dL fs)=true):l.toArray.all (dL fs)=true:=by simpa using h
theorem CR.cl {T:Array aF}(H:d.Ok){g:aN}{args:List cM}{j8:Array aM}{Ψ:Pr->gE->aF->aE->Prop}{Ly:Array aF}
 (hc:CF d g Ly K l w Ψ) (hk:∀K' l' v w',K.le K'->Ψ K' l' v w'->CR d f ops rest ⟨[],K',l',(b7 ⟨T,[]⟩ o.dst v).tmps,w'⟩ Φ)
 (ho:ops[i]? =some o:=by exact zgi rfl (by conv=>lhs;whnf)) (hop:o.op=.call ⟨.value (.func g),args.toArray,j8⟩:=by exact rfl) (cC:dA o (dN ops T)=true:=by exact rfl) (rR:args.all (dL d.fs)=true:=by exact rfl) (ha:args.toArray.map (bH T []).eval=Ly:=by(simp only[List.map_toArray,List.map_cons,List.map_nil];rfl)):CR d f ops (i::rest) ⟨[],K,l,T,w⟩ Φ:=
 CR.call (s:=⟨[],K,l,T,w⟩) H ho cC hop (allx rR) rfl (by rw[ha];exact hc) hk
end
section
variable {P:bS}{o:aY}{Tf:Array aF}{w:aE}{A B C D:Prop}
theorem tZ (v:aF)(a:A)(h:A->(aO (bH Tf []).eval o).run P w=.ok (.value v) w:=by(intro e1;(conv at e1=>rhs;whnf);unfold execOp;go_simp)):(aO (bH Tf []).eval o).run P w=.ok (.value v) w:=h a
theorem Mw (v:aF)(a:A)(b:B)(h:A->B->(aO (bH Tf []).eval o).run P w=.ok (.value v) w:=by(intro e1 e2;(conv at e1=>rhs;whnf);unfold execOp;go_simp)):(aO (bH Tf []).eval o).run P w=.ok (.value v) w:=h a b
theorem rd4 (v:aF)(a:A)(b:B)(c:C)(d:D)(h:A->B->C->D->(aO (bH Tf []).eval o).run P w=.ok (.value v) w:=by(intro e1 e2 e3 e4;(conv at e1=>rhs;whnf);unfold execOp;go_simp)):(aO (bH Tf []).eval o).run P w=.ok (.value v) w:=h a b c d
end
def zjh:Go.Code:=(Tryd.f47.body).getD .skip
def rAO1:Go.Code:=match zjh with| .seq _ (.seq (a) _)=>a|_=>.skip
def rAO2:Go.Code:=match zjh with| .seq _ (.seq _ (.seq (a) _))=>a|_=>.skip
def rAO3:Go.Code:=match zjh with| .seq _ (.seq _ (.seq _ (.seq (a) _)))=>a|_=>.skip
def opsAO1:Array Oper:=match rAO1 with| .region _ ops _=>ops|_=>#[]
abbrev oAO1_0:Oper:=⟨some 10,.makeChan 61 (.const (.int .i64 0)),61,"l6_office.go:99",#[],none⟩
def zzJ:opsAO1[0]? =some oAO1_0:=rfl
def opsAO2:Array Oper:=match rAO2 with| .region _ ops _=>ops|_=>#[]
abbrev zC5:Oper:=⟨none,.send (.tmp 18) (.tmp 22),0,"l6_office.go:100",#[⟨7,.data⟩,⟨11,.data⟩],none⟩
def zHN:opsAO2[12]? =some zC5:=rfl
def opsAO3:Array Oper:=match rAO3 with| .region _ ops _=>ops|_=>#[]
abbrev oAO3_1:Oper:=⟨some 24,.recv 61 (.tmp 23) false,3,"l6_office.go:101",#[⟨0,.data⟩],none⟩
def zz7:opsAO3[1]? =some oAO3_1:=rfl
def fokAO:vK aK 47:=⟨_,zro,.inr (.inl ⟨_,rfl⟩)⟩
theorem zx4:∃ie,aK.info? 3=some ie/\ie.zero=some (.int .i64 0):=by
 obtain⟨i0,hi,jJ,_,_⟩:=info_parts zoN;exact⟨i0,hi,jJ⟩
theorem zbf {e:Fy}(H:e.d.Ok){K:Pr}{k q:Nat}{w:aE}{lo hb:Nat}{v:fC}{d:nF}{kd cl ans:Int}(h:bE w lo hb v d)(hW:e.W[k]? =some (.ask q kd cl ans))(hq:q<d.qn.length)(x6:q<=100)(hK:∀(i g:Nat),d.qn[i]? =some g->K g (qa e.qs i)):
 CF e.d 47 #[.pointer (some ⟨hb,0,none⟩),.int .i64 ((q:Int)+1),.int .i64 kd,.int .i64 cl] K (.wk e.qs k) w (λK' l' x w'=>l'=.wk e.qs (k+1)/\x=.int .i64 ans/\w'=w.alloc oM):=by
 refine CF.of 25 zro (.inr (.inl ⟨_,rfl⟩)) ?_;obtain⟨AQ,cQ,zaP,hs⟩:=Fo h.Q aH;obtain⟨bq,off,g,rfl,hg,hv⟩:=zer hs hq;have zfE:=aJ h.blk 6;have k6:w.cell? ⟨hb,6,none⟩=some (.slice (some ⟨bq,off,none⟩) d.qn.length cQ):=by rw[zfE,<-zaP];rfl
 have zAN:=hK q g hg;obtain⟨ie,jL,hz⟩:=zx4;clear zfE zaP hs hg hK h;refine CW.sq H ?_;refine CW.pQ H fokAO (λTp Q HQ=>?_);go_wp2;refine HQ.o _ _ ?_;clear HQ;refine CW.tape (s:=⟨[],K,.wk e.qs k,_,w⟩) ?_ Tp 0;refine CW.sq H ?_;refine CW.rg H [0,1] ?_;refine CR.make H zzJ rfl rfl zsD jL rfl (λa=>?_);simp only[b7,gK,dV,dX];refine CR.mv H (.chan (some w.heap.size)) ?_;refine CR.nil H ?_;have zr0:(w.alloc oM).cell? ⟨hb,6,none⟩=some (.slice (some ⟨bq,off,none⟩) d.qn.length cQ):=An k6 _;have zpY:(w.alloc oM).cell? ⟨bq,off+q,none⟩=some (.chan (some g)):=An hv _;have i0:(0:Int)<=(q:Int):=aD;have i1:(q:Int)<(d.qn.length:Int):=aD;generalize eT:w.alloc oM=w1 at zr0 zpY;refine CW.sq H ?_;refine CW.rg H [0,1,2,3,4,5,6,7,8,9,10,11,12] ?_;refine CR.mv H (.pointer (some ⟨hb,0,none⟩)) ?_;refine CR.mv H (.pointer (some ⟨hb,0,none⟩)) ?_;refine CR.mg H (.pointer (some ⟨hb,6,none⟩)) ?_;refine CR.mv H (.slice (some ⟨bq,off,none⟩) d.qn.length cQ) ?_ (hx:=λT=>by have hh:(Tt.tp w1 T 0).cell? _=_:=zr0;unfold aO;go_simp);refine CR.mv H (.int .i64 ((q:Int)+1)) ?_;refine CR.mv H (.int .i64 (q:Int)) ?_ (hx:=λT=>by unfold aO;go_simp;try exact Ep aD aD);refine CR.mg H (.pointer (some ⟨bq,off+q,none⟩)) ?_;refine CR.mv H (.chan (some g)) ?_ (hx:=λT=>by have hh:(Tt.tp w1 T 0).cell? _=_:=zpY;unfold aO;go_simp);refine CR.mv H (.int .i64 kd) ?_;refine CR.mv H (.int .i64 cl) ?_;refine CR.mv H (.chan (some w.heap.size)) ?_;refine CR.mv H (.agg #[.int .i64 kd,.int .i64 cl,.chan (some w.heap.size)]) ?_ (hx:=λT=>by unfold aO;go_simp;try rfl);refine CR.ask H (k:=k) (q:=q) (a:=a) zHN rfl rfl rfl rfl rfl hW rfl rfl (.inl zAN) rfl (.inr ⟨rfl,rfl⟩) ?_
 try simp only[b7,gK,dV,dX]
 refine CR.nil H ?_;refine CW.sq H ?_;refine CW.rg H [0,1,2] ?_;refine CR.mv H (.chan (some w.heap.size)) ?_;refine CR.ans H (k:=k) (q:=q) (a:=a) zz7 rfl rfl zsD jL hz rfl rfl hW rfl rfl (.inr ⟨rfl,rfl⟩) ?_;simp only[b7,gK,dV,dX];refine CR.mv H (.int .i64 ans) ?_;refine CR.nil H ?_;refine CW.rt H ?_;exact⟨.inr rfl,rfl,.int .i64 ans,rfl,rfl,rfl,by first|rfl|exact eT.symm|(subst eT;rfl)⟩
end Go.Proofs.YtfcjiloojkjaeaaDoor
namespace Go.Proofs.YtfcjiloojkjaeaaDoor
open Go.RowKit
variable {v v':fC}{d:nF}
theorem fT.of (h:fT v d)(hc:v'.pC=v.pC)(ho:v'.pO=v.pO)(hm:v'.pM=v.pM){d':nF}(hr:d'.r.recs=d.r.recs)(hl:d'.ln=d.ln):fT v' d':=by
 obtain⟨a,b,c,e,f,g,i,j⟩:=h;exact⟨by rw[hc];exact a,by rw[ho];exact b,by rw[hm];exact c,by rw[hc,hr,hl];exact e,by rw[ho,hr,hl];exact f,by rw[ho,hr];exact g,by rw[hm,hr];exact i,by rw[hm,hr];exact j⟩
structure Y1 (B:Nat)(w:aE)(hb:Nat)(v:fC)(s:aF)(xs:List bJ):Prop where
 row:w.ownsRow B 124 2 s xs.length (bF xs)
 ap:∀b,s.ownBlock=some b->some b∉parts v hb
variable {B hb:Nat}{w:aE}{s:aF}{xs:List bJ}
def Y1.lt (h:Y1 B w hb v s xs):∀b,s.ownBlock=some b->B<=b/\b<w.heap.size:=λb e=>h.row.lt b e
theorem Y1.turn {w':aE}(h:Y1 B w hb v s xs)(t:bL hb v w v' w'):Y1 B w' hb v' s xs:=
 ⟨cI h.row λb e=>t.block b (h.lt b e).2 (h.ap b e),λb e x=>(t.moved b x).elim (h.ap b e) λy=>by have:=(h.lt b e).2;omega⟩
def vL (d:nF)(m:Int)(k:Nat):nF:={d with r:={(cU d.r m k).1 with wait:=d.r.wait}}
structure Cz (w:aE)(lo hb:Nat)(v:fC)(d:nF)(m:Int)(k:Nat)(v1:fC)(s:aF)(wr:aE):Prop where
 at_:bE wr lo hb v1 (vL d m k)
 mr:fT v1 {d with r:=(cU d.r m k).1}
 tn:bL hb v w v1 wr
 kp:zI v v1
 sW:v1.sW=v.sW
 so:Y1 w.heap.size wr hb v1 s (rY d.r m k)
def below_drewN (n:Nat):Below w.heap.size w (w.drewN n):=⟨rfl,rfl,rfl,aZ _,λ_ _=>rfl⟩
variable {lo k:Nat}{m:Int}{v1:fC}
def Cz.below {wr w':aE}(h:Cz w lo hb v d m k v1 s wr)(bY:Below wr.heap.size wr w'):Cz w lo hb v d m k v1 s w':=
 ⟨h.at_.below bY,h.mr,h.tn.trans (bL.below bY),h.kp,h.sW,h.so.turn (bL.below bY)⟩
variable {x:bJ}
theorem Cz.more {n:Nat}{s':aF}{wr w':aE}(h:Cz w lo hb v d m k v1 s wr)(hg:wr.grownBy w' s.ownBlock)(cP:w'.ownsRow w.heap.size 124 2 s' n (bF (rY d.r m k)++x.cells))(hn:n=(rY d.r m k).length+1)
 (eY:s'.ownBlock=s.ownBlock\/∀b,s'.ownBlock=some b->wr.heap.size<=b) (e1:cU d.r m (k+1)=cU d.r m k) (e2:rY d.r m (k+1)=rY d.r m k++[x]):Cz w lo hb v d m (k+1) v1 s' w':=by
 have e3:vL d m (k+1)=vL d m k:=by unfold vL;rw[e1]
 refine⟨by rw[e3];exact h.at_.grown hg h.so.ap,by rw[e1];exact h.mr,h.tn.grown hg λb e=>(h.so.lt b e).1,h.kp,h.sW,⟨?_,λb e x=>?_⟩⟩
 .rw[e2]
  have:bF (rY d.r m k++[x])=bF (rY d.r m k)++x.cells:=by simp[bF]
  rw[this,gJ];subst hn;exact cP
 .rcases eY with eY|eY
  .exact h.so.ap b (eY▸e) x
  .have:=eY b e;have:=(h.at_.lt b x).2;omega
theorem zDs {i:Nat}(e1:cU d.r m (k+1)=({kT (cU d.r m k).1 i Ea with back:=(cU d.r m k).1.back++[x]},(cU d.r m k).2++[32]++jC x.c)):
 vL d m (k+1)={vL d m k with r:={(vL d m k).r with recs:=(vL d m k).r.recs.modify i (λz=>{z with t:=(vL d m k).r.clk,e:=Ea}),back:=(vL d m k).r.back++[x]}}:=by
 unfold vL;rw[e1];rfl
theorem Cz.fin {wr:aE}(h:Cz w lo hb v d m k v1 s wr)(hk:k=d.r.wait.length)(T:TK d m k)(dY:lo<=w.heap.size)(ha:bE w lo hb v d):
 bE (wr.setCell ⟨hb,7,none⟩ s) lo hb {v1 with sW:=s} {d with r:=(tT d.r m).1}/\fT {v1 with sW:=s} {d with r:=(tT d.r m).1}/\bL hb v w {v1 with sW:=s} (wr.setCell ⟨hb,7,none⟩ s)/\zI v {v1 with sW:=s}:=by
 subst hk;have e0:=TK.end_ T;have e1:(cU d.r m d.r.wait.length).1=(tT d.r m).1:=by rw[zcC]
 have h1:=h.at_.newW (zCK h.so.row dY) rfl h.so.ap;have e2:{vL d m d.r.wait.length with r:={(vL d m d.r.wait.length).r with wait:=rY d.r m d.r.wait.length}}=({d with r:=(tT d.r m).1}:nF):=by
  unfold vL;simp only[e1,<-e0]
 refine⟨by rw[<-e2];exact h1,?_,⟨?_,λb bY hn=>?_,λb hx=>?_⟩,h.kp⟩
 .have:=h.mr
  rw[e1] at this;exact fT.of (v':={v1 with sW:=s}) this rfl rfl rfl rfl rfl
 .rw[sE];exact h.tn.size
 .exact(dZ wr _ _ b (λe=>hn zs2)).trans (h.tn.block b bY hn)
 .have hp:parts {v1 with sW:=s} hb=(parts v1 hb).set 5 s.ownBlock:=rfl
  rw[hp] at hx;rcases List.mem_or_eq_of_mem_set hx with hx|hx
  .exact h.tn.moved b hx
  .exact .inr (h.so.lt b hx.symm).1
theorem zGL (h:bE w lo hb v d)(mr:fT v d)(hi:yE d)(dY:lo<=w.heap.size)(ht:Al lo w)(hm:0<=m)(hc:d.r.clk+m<=100000)(Zw:d.r.back.length+d.r.wait.length<=5000):
 Calls aK 69 #[.pointer (some ⟨hb,0,none⟩),.int .i64 m] w λe w'=>e=.returned (.string ⟨(tT d.r m).2.toArray⟩)/\∃v',bE w' lo hb v' {d with r:=(tT d.r m).1}/\fT v' {d with r:=(tT d.r m).1}/\bL hb v w v' w'/\zI v v':=by
 have zmz:=aC (TK.all hi hm hc Zw);have zhf:=hi.sm.clk.1;have zfZ:=hi.sm.nw;obtain⟨zL9,zLc⟩:=(Cd hi.R.off).2.2.2.2;obtain⟨AW,cW,Jf,K6⟩:=Fo h.W aH;obtain⟨n,hn⟩:=aU d.r.wait.length;obtain⟨ck,Hm⟩:=aU d.r.clk;have zqr:=aJ h.blk 11;have Dx:w.cell? ⟨hb,11,none⟩=some (.int .i64 ck):=by rw[zqr,Hm];rfl
 have kf:=eL h.blk;obtain⟨a1,t1⟩:=h.putClk (ck+m);have Q9:vL d m 0={d with r:={d.r with clk:=ck+m}}:=by rw[Hm];rfl
 rw[<-Q9] at a1;have I1:=aC (show Cz w lo hb v d m 0 v (.slice none 0 0) _ from⟨a1,mr.of rfl rfl rfl rfl rfl,t1,zI.rf v,rfl,⟨⟨rfl,.inl ⟨rfl,rfl⟩⟩,λb e=>by cases e⟩⟩);have D7:=aC (ht.turn h dY t1);have HN:=aC hn;have Gh:=aC Hm;have zV:=aC (show v.sW=.slice AW n cW by rw[hn];exact Jf);have Kf:n<=1000:=aD;rw[<-Hm] at hc zhf;have K4:=aC dY;have zMl:=aC ht;have HH:=aC h;clear hn Hm Jf K6 a1 t1 Q9 h mr hi dY ht zqr zfZ
 go_enter Tryd.func69,Tryd.ntmps69
 go_upto_region 2 with fail
 obtain⟨W1,dC⟩:=aU (w.setCell ⟨hb,11,none⟩ (.int .i64 (ck+m)));rw[<-dC] at I1 D7⊢;clear dC Dx kf;have Dx:W1.cell? ⟨hb,11,none⟩=some (.int .i64 (ck+m)):=by
  have:=aJ I1.o.at_.blk 11;rw[this,Gh.o];rfl
 have Ip:=N4 (c:=ck+m) aD aD
 go_upto_region 3 with(go_at_call 75;refine(zA8 D7.o (ck+m) aD aD).mono ?_;rintro x w3 ⟨rfl,Vo⟩;have zca:=aC Vo;clear Vo)
 have I3:=aC (I1.o.below zca.o);clear Dx I1 D7 zca;have k7:w3.cell? ⟨hb,7,none⟩=some (.slice AW n cW):=by
  have:=aJ I3.o.at_.blk 7;rw[this,<-zV.o];rfl
 have zi9:=aC (show(⟨([97,116,32]++jC (ck+m):List UInt8).toArray⟩:ByteArray)=⟨(cU d.r m 0).2.toArray⟩ by rw[Gh.o];rfl)
 go_wp2_with fail
 go_loopw [5,6,28] (λt s i wr=>∃(k:Nat) (v1:fC) (A:Option bO) (n2 c2:Nat),k<=n/\i=.int .i64 k/\t=.string ⟨(cU d.r m k).2.toArray⟩/\s=.slice A n2 c2/\Cz w lo hb v d m k v1 (.slice A n2 c2) wr) (λ_ _ i _=>n-(intOf i).toNat)
 case atStart=>
  refine⟨0,v,none,0,0,lB _,rfl,?_,rfl,I3.o⟩;rw[<-zi9.o];congr 1
 case round=>
  obtain⟨k,v1,A2,n2,c2,hk,rfl,rfl,rfl,hI⟩:=hrel;have HI:=aC hI;have T:=zmz.o k (by have:=HN.o;omega);have zeV:(cU d.r m k).2.length<=40000:=by have:=T.txt;omega
  have jI:n2=(rY d.r m k).length:=by
   rcases hI.so.row.2 with⟨e,h0⟩|⟨g,cap,cur,e,_⟩
   .injection e with e1 e2 e3;rw[e2];exact h0.symm
   .injection e with e1 e2 e3
  have znq:n2<=1000:=by have:=T.le;omega
  have tU:=aC jI;clear hI jI;by_cases aP:k<n
  .have hW:=HI.o.at_.W
   rw[HI.o.sW,zV.o] at hW;have hW:wr.ownsRow lo 124 2 (.slice AW n cW) n (bF d.r.wait):=by
    have e:(vL d m k).r.wait.length=n:=HN.o.symm;rw[e] at hW;exact hW
   obtain⟨bW,zMv,x,hA,mI,eB,e0,e1⟩:=zeJ (zQ hW aH) aP;subst hA;obtain⟨i,y,nx⟩:=T.next eB;obtain⟨gL,Mv,hO,hM,hC⟩:=HI.o.mr.onLine T.i nx.hy nx.op nx.c;obtain⟨gR,cR,znM⟩:=zg4 HI.o.at_ nx.hy;obtain⟨Sr,xB⟩:=nx.b;obtain⟨Jk,zGH⟩:=nx.f;rw[<-Gh.o] at zGH;have i0:(0:Int)<=(k:Int):=aD;have i1:(k:Int)<(n:Int):=aD;have NX:=aC nx;have zmj:=aC eB;have HL:=aC (And.intro Mv (And.intro hO (And.intro hM hC)));have uV:=aC znM;have HT:=aC T;clear hW nx eB Mv hO hM hC znM T mI
   go_upto_region 7 with fail
   obtain⟨W4,rW⟩:=aU (wr.alloc (.cells #[.int .i64 x.c,.int .i64 x.p] 124));have I4:=aC (show Cz w lo hb v d m k v1 (.slice A2 n2 c2) W4 by rw[rW];exact HI.o.below (dO (eR _ _) _));have sU:W4.heap[wr.heap.size]? =some (.cells #[.int .i64 x.c,.int .i64 x.p] 124):=by rw[rW];exact lO _ _
   have Wc:=aC sU;have g0:=aJ sU 0;have g1:=aJ sU 1;have zox:=aC (show some wr.heap.size∉parts v1 hb from λh=>by have:=(HI.o.at_.lt _ h).2;omega);obtain⟨gx,znK⟩:∃y,y=wr.heap.size:=⟨_,rfl⟩;rw[<-rW];rw[<-znK] at g0 g1 Wc zox⊢;clear rW sU e0 e1 znK;have Dx:W4.cell? ⟨hb,11,none⟩=some (.int .i64 (ck+m)):=by
    have:=aJ I4.o.at_.blk 11;rw[this];show some (Oi .i64 (cU d.r m k).1.clk)=_;rw[HT.o.clk,Gh.o]
   have k2:W4.cell? ⟨hb,2,none⟩=some (.int .i64 d.r.o.pt):=by
    have:=aJ I4.o.at_.blk 2;rw[this];show some (Oi .i64 (cU d.r m k).1.o.pt)=_;rw[HT.o.o]
   have k3:=(I4.o.at_.recAt uV.o NX.o.hy (j:=3) (u:=.int .i64 y.f) aH rfl).1;have HE:=aC (λnq:Nat=>Calls.quiet_of (w:=W4) (n:=nq) ((zd5 (w:=W4.drewN nq) (I4.o.at_.same rfl) uV.o NX.o.hy HL.o.2.2.1).mono λe w' hh=>⟨hh.1,1,hh.2⟩));by_cases hp:ck+m-y.f<d.r.o.pt
   .go_quiet ((go_at_call 78;exact HE.o _))
    go_upto_region 8 with fail
    obtain⟨wz,uB⟩:=aU (W4.drewN nq);rw[<-uB];have IZ:=aC (show Cz w lo hb v d m k v1 (.slice A2 n2 c2) wz by rw[uB];exact I4.o.below (below_drewN nq));have zl2:wz.heap[gx]? =some (.cells #[.int .i64 x.c,.int .i64 x.p] 124):=by rw[uB];exact Wc.o
    have g0:=aJ zl2 0;have g1:=aJ zl2 1;clear uB;obtain⟨OB,Ze⟩:=aU (.cells #[.int .i64 x.c,.int .i64 x.p] 124:Obj);have zps:=aC (IZ.o.below (dO (eR _ _) OB));have zkx:=zps.o.so.row;rw[<-tU.o] at zkx;obtain⟨q1,q2,w5,fH,cP,mU,eY⟩:=L5 (t:=51) (ty:=51) zcg Tryd.underlying51 rfl aH zkx (g:=wz.heap.size) (cs:=#[.int .i64 x.c,.int .i64 x.p]) (news:=bJ.cells x) (by rw[Ze];exact lO _ _) rfl (m:=1) rfl aH Ru aD aH (by have:=IZ.o.tn.size;simp;omega);rw[Ze] at fH;have AP:=aC fH;clear fH zkx Dx k2 k3
    go_upto_region 12 with(at_builtin;refine zsX rfl (.tmp 50) (.tmp 52) 51 51 rfl (.slice A2 n2 c2) (.slice (some ⟨wz.heap.size,0,none⟩) 1 1) (.slice (some ⟨q1,0,none⟩) (n2+1) q2) rfl rfl AP.o ?_)
    have IM:=aC (zps.o.more mU (x:=x) cP (by rw[tU.o]) eY (NX.o.not_ zkq).1 (NX.o.not_ zkq).2);have ET:=aC (NX.o.not_ zkq).1;clear AP cP mU eY g0 g1 zl2;go_wp2;go_roundw
    case rel=>exact⟨k+1,v1,some ⟨q1,0,none⟩,n2+1,q2,aD,pT,by rw[ET.o],rfl,IM.o⟩
    case measure=>simp[intOf];omega
   .have zva:d.r.o.pt<=d.r.clk+m-y.f:=by have:=Gh.o;omega
    obtain⟨E1,E2⟩:=NX.o.tired zva;have cJ:=aC E1;have mR:=aC E2;have zGJ:=aC (show some gx∉parts v1 hb from zox.o);clear E1 E2 zva
    go_quiet ((go_at_call 78;exact HE.o _))
    go_upto_region 9 with fail
    obtain⟨wz,uB⟩:=aU (W4.drewN nq);rw[<-uB];have IZ:=aC (show Cz w lo hb v d m k v1 (.slice A2 n2 c2) wz by rw[uB];exact I4.o.below (below_drewN nq));have zvI:=aC (show wz.heap[gx]? =some (.cells #[.int .i64 x.c,.int .i64 x.p] 124) by rw[uB];exact Wc.o);clear uB Dx k2 k3 g0 g1;have g0:=aJ zvI.o 0
    go_upto_region 10 with(go_at_call 79;refine(zlF (e:=⟨#[116,105,114,101,100]⟩) IZ.o.at_ NX.o.hy HL.o.2.1 HL.o.2.2.2 HL.o.2.2.1 uV.o).mono ?_;rintro en w5 ⟨rfl,v5,a5,t5,p5⟩;have A5:=aC a5;have T5:=aC t5;have P5:=aC p5;clear a5 t5 p5)
    obtain⟨ziX,zwX⟩:=IZ.o.at_.turned T5.o zvI.o zGJ.o;have zB7:=aC (fT.of (v':=v5) (IZ.o.mr.clear HT.o.i.S HT.o.i.ndl (λz hz=>(HT.o.i.lb z hz).1) NX.o.hy NX.o.op HL.o.1 (f:=λz=>{z with t:=(cU d.r m k).1.clk,e:=Ea}) (λz=>⟨rfl,rfl⟩) zjQ) P5.o.1 (by rw[P5.o.2.1,NX.o.c]) P5.o.2.2.1 rfl rfl);have zEK:=aC (IZ.o.so.turn T5.o);have Cu:=aC ziX;have k8:w5.cell? ⟨hb,8,none⟩=some v5.sB:=aJ A5.o.blk 8;have g5:=aJ ziX 0;obtain⟨OC,Zc⟩:=aU (.cells #[.int .i64 x.c] 3:Obj);have a5:=(A5.o.alloc OC).drew;have nE:(cU d.r m k).1.back.length<=5000:=HT.o.i.sm.nb;obtain⟨q1,q2,w6,fH,cP,mU,eY⟩:=L5 (t:=52) (ty:=52) zbO Xd rfl aH a5.B (g:=w5.heap.size) (cs:=#[.int .i64 x.c]) (news:=[.int .i64 x.c]) (by rw[Zc];exact lO _ _) rfl (m:=1) rfl aH Me (by show(cU d.r m k).1.back.length+1<=_;omega) aH (by have:=IZ.o.tn.size;have:=T5.o.size;have:=K4.o;simp;omega);obtain⟨a6,t6⟩:=a5.putB mU (xs:=(cU d.r m k).1.back++[x]) (by have e:jN (((cU d.r m k).1.back++[x]).map bJ.c)=jN ((cU d.r m k).1.back.map bJ.c)++[.int .i64 x.c]:=(by simp[jN]);rw[e];exact cP) (by simp;rfl) eY;have A6:=aC (show bE (w6.setCell ⟨hb,8,none⟩ (.slice (some ⟨q1,0,none⟩) ((cU d.r m k).1.back.length+1) q2)) lo hb {v5 with sB:=.slice (some ⟨q1,0,none⟩) ((cU d.r m k).1.back.length+1) q2} (vL d m (k+1)) by rw[zDs cJ.o];exact a6);have T6:=aC (show bL hb v5 w5 {v5 with sB:=.slice (some ⟨q1,0,none⟩) ((cU d.r m k).1.back.length+1) q2} (w6.setCell ⟨hb,8,none⟩ (.slice (some ⟨q1,0,none⟩) ((cU d.r m k).1.back.length+1) q2)) from(bL.below (dO (eR _ w5) OC)).trans (⟨t6.size,t6.block,t6.moved⟩:bL hb v5 (w5.alloc OC) _ _));have Jz:w6.heap[hb]? =some (J9 v5 _):=(a5.other (j:=6) (c:=8) (x:=v5.sB) rfl aH mU (.slice (some ⟨q1,0,none⟩) ((cU d.r m k).1.back.length+1) q2)).2.trans a5.blk;have Ol:=aJ Jz 8;have kf:=eL Jz 8;have AP:=aC fH;clear cP mU eY a6 t6 a5 Jz fH ziX g0;rw[Zc] at AP;refine zAp w5 w6 hb gx q1 ((cU d.r m k).1.back.length+1) q2 v5.sB x.c rfl rfl rfl k8 g5 AP.o Ol kf rfl ?_;rw[Go.Mt.zY,zs9];simp only[Go.Mt.wO,dV,dX,zkP,zxt,C4,Cm];obtain⟨W7,Cg⟩:=aU (w6.setCell ⟨hb,8,none⟩ (.slice (some ⟨q1,0,none⟩) ((cU d.r m k).1.back.length+1) q2));rw[<-Cg] at A6 T6⊢;clear Cg k8 Ol kf g5 AP;have g7:=aJ (A5.o.turned T6.o Cu.o zwX).1 0;have zMr:=N4 (c:=x.c) aD aD
    have I7:=aC (show Cz w lo hb v d m (k+1) {v5 with sB:=.slice (some ⟨q1,0,none⟩) ((cU d.r m k).1.back.length+1) q2} (.slice A2 n2 c2) W7 from
     ⟨A6.o,by rw[cJ.o];refine fT.of zB7.o ?_ ?_ ?_ ?_ ?_<;>rfl,(IZ.o.tn.trans T5.o).trans T6.o,⟨P5.o.2.2.2.2.1.trans IZ.o.kp.1,P5.o.2.2.2.2.2.1.trans IZ.o.kp.2.1,P5.o.2.2.2.2.2.2.2.2.1.trans IZ.o.kp.2.2.1,P5.o.2.2.2.2.2.2.2.2.2.trans IZ.o.kp.2.2.2⟩,P5.o.2.2.2.2.2.2.1.trans IZ.o.sW,by rw[mR.o];exact zEK.o.turn T6.o⟩)
    clear T5 zwX A6 T6
    go_wp2_with (go_at_call 75;refine(ziF x.c aD aD _).mono ?_;rintro en w8 ⟨rfl,Hp⟩;obtain rfl:=Hp)
    go_roundw
    case rel=>exact⟨k+1,_,A2,n2,c2,aD,pT,by rw[cJ.o];simp[Nf],rfl,I7.o⟩
    case measure=>simp[intOf];omega
  .have e:k=n:=aD
   subst e;obtain⟨F1,F2,F3,F4⟩:=HI.o.fin HN.o T K4.o HH.o;have FF:=aC (And.intro F1 (And.intro F2 (And.intro F3 F4)));have k7:wr.cell? ⟨hb,7,none⟩=some v1.sW:=aJ HI.o.at_.blk 7;have Xw:wr.cell? ⟨hb,7,none⟩=some (.slice AW k cW):=by rw[k7,HI.o.sW,zV.o]
   have kf:=eL HI.o.at_.blk;have HR:=aC (show(⟨(cU d.r m k).2.toArray⟩:ByteArray)=⟨(tT d.r m).2.toArray⟩ by rw[<-zcC,<-HN.o]);clear F1 F2 F3 F4 k7;go_wp2;go_ret;exact⟨by rw[HR.o];rfl,_,FF.o⟩
end Go.Proofs.YtfcjiloojkjaeaaDoor
namespace Go.Proofs.YtfcjiloojkjaeaaDoor
open Go.RowKit Go.Mt Go.Conc Go.Tt Go.Maps
section
variable {d:o9}{f:aN}{s:WS}{ops:Array aY}{i:Nat}{rest:List Nat}{Φ:WS->Prop}{o:aY}
theorem CR.call' (H:d.Ok){g:aN}{args:Array cM}{j8:Array aM}{Ψ:Pr->gE->aF->aE->Prop}(Ly:Array aF)(ho:ops[i]? =some o)(cC:dA o (dN ops s.T)=true)(hop:o.op=.call ⟨.value (.func g),args,j8⟩)(rR:args.all (dL d.fs)=true)(sS:s.chs=[])(ha:args.map (bH s.T []).eval=Ly)
 (hc:CF d g Ly s.K s.l s.w Ψ) (hk:∀K' l' v w',s.K.le K'->Ψ K' l' v w'->CR d f ops rest ⟨[],K',l',(b7 ⟨s.T,[]⟩ o.dst v).tmps,w'⟩ Φ):CR d f ops (i::rest) s Φ:=
 CR.call H ho cC hop rR sS (by rw[ha];exact hc) hk
end
variable {w:aE}{lo hb:Nat}{v:fC}{d:nF}
def bE.tp (h:bE w lo hb v d)(T:kK)(n:Nat):bE (Tt.tp w T n) lo hb v d:=h.same rfl
variable {w':aE}{v':fC}
def bL.tp (h:bL hb v w v' w')(T:kK)(n:Nat):bL hb v w v' (Tt.tp w' T n):=h.same rfl
def zcG:vK aK 83:=⟨_,zqC,.inr (.inl ⟨_,rfl⟩)⟩
variable {e:Fy}{K:Pr}{k q i:Nat}{c:Int}{x:bR}
theorem zrA (H:e.d.Ok)(h:bE w lo hb v d)(hW:e.W[k]? =some (.ask q 1 c c))(hq:q<d.qn.length)(x6:q<=100)(hK:∀(i g:Nat),d.qn[i]? =some g->K g (qa e.qs i))
   (hx:d.r.recs[i]? =some x) (hM:kQ c v.pM=some (.int .i64 (i:Int))) (Y0:1<=c) (pY:c<=99):
 CF e.d 83 #[.pointer (some ⟨hb,0,none⟩),.int .i64 ((q:Int)+1),.int .i64 c] K (.wk e.qs k) w (λK' l' y w'=>l'=.wk e.qs (k+1)/\y=.string ⟨([99,97,108,108,32]++jC c).toArray⟩/\bE w' lo hb v {d with r:={d.r with recs:=d.r.recs.modify i λz=>{z with o:=(q:Int)+1,h:=d.r.clk}}}/\bL hb v w v w'):=by
 refine CF.of 29 zqC (.inr (.inl ⟨_,rfl⟩)) ?_;have HX:=aC hx;have HM:=aC hM;obtain⟨gR,cR,hR⟩:=zg4 h hx;have HR:=aC hR;clear hx hM hR;refine CW.sq H ?_;refine CW.pQ H zcG (λTp Q HQ=>?_);go_wp2;refine HQ.o _ _ ?_;clear HQ;refine CW.tape (s:=⟨[],K,.wk e.qs k,_,w⟩) ?_ Tp 0;refine CW.sq H ?_;refine CW.rg H [0,1,2,3] ?_;refine CR.mv H (.pointer (some ⟨hb,0,none⟩)) ?_;refine CR.mv H (.int .i64 ((q:Int)+1)) ?_;refine CR.mv H (.int .i64 c) ?_;refine CR.cl H (zbf H h hW hq x6 hK) (λK' l' y w' hl oN=>?_);obtain⟨rfl,rfl,p8⟩:=oN;simp only[b7,gK,dV,dX];have A1:=aC (show bE w' lo hb v d by rw[p8];exact h.alloc _);have T1:=aC (show bL hb v w v w' by rw[p8];exact bL.below (dO (eR _ _) _));clear h hW hq x6 hK p8;refine CR.nil H ?_;refine CW.sq H ?_;refine CW.pQ H zcG (λTp Q HQ=>?_);obtain⟨wa,wS⟩:=aU (Tt.tp w' Tp 0);have A2:=aC (show bE wa lo hb v d by rw[wS];exact A1.o.tp Tp 0);have T2:=aC (show bL hb v w v wa by rw[wS];exact T1.o.tp Tp 0);rw[<-wS];clear wS A1 T1
 go_wp2_with (go_at_call 78;refine(zd5 A2.o HR.o HX.o HM.o).mono ?_;rintro en w2 ⟨rfl,fQ⟩;obtain rfl:=fQ)
 refine HQ.o _ _ ?_;obtain⟨w2,fQ⟩:=aU wa.drew;rw[<-fQ];have A3:=aC (show bE w2 lo hb v d by rw[fQ];exact A2.o.drew);have T3:=aC (show bL hb v w v w2 by rw[fQ];exact T2.o.same rfl);clear HQ fQ A2 T2;refine CW.sq H ?_;refine CW.pQ H zcG (λzl1 Q HQ=>?_);obtain⟨zj3,wS⟩:=aU (Tt.tp w2 zl1 0);have A4:=aC (show bE zj3 lo hb v d by rw[wS];exact A3.o.tp zl1 0);have T4:=aC (show bL hb v w v zj3 by rw[wS];exact T3.o.tp zl1 0);dsimp only;rw[<-wS];clear wS A3 T3;obtain⟨c2,f2⟩:=A4.o.recAt HR.o HX.o (j:=2) (u:=.int .i64 x.o) aH rfl;obtain⟨a5,t5⟩:=A4.o.setR (λz=>{z with o:=(q:Int)+1}) HR.o HX.o (j:=2) (u:=.int .i64 ((q:Int)+1)) aH ztg rfl;have A5:=aC a5;have T5:=aC (T4.o.trans t5);clear a5 t5;go_wp2;refine HQ.o _ _ ?_;clear HQ c2 f2 A4 T4;obtain⟨w5,nU⟩:=aU (zj3.setCell ⟨gR,i*7+2,none⟩ (.int .i64 ((q:Int)+1)));rw[<-nU] at A5 T5⊢;clear nU;have zaN:=aC (show(d.r.recs.modify i λz=>{z with o:=(q:Int)+1})[i]? =some {x with o:=(q:Int)+1} from zcw HX.o);have lC:=aC (show v.sR=.slice (some ⟨gR,0,none⟩) (d.r.recs.modify i λz=>{z with o:=(q:Int)+1}).length cR by rw[List.length_modify];exact HR.o);refine CW.sq H ?_;refine CW.pQ H zcG (λSc Q HQ=>?_);obtain⟨zdq,wS⟩:=aU (Tt.tp w5 Sc 0);have A6:=aC (show bE zdq lo hb v _ by rw[wS];exact A5.o.tp Sc 0);have T6:=aC (show bL hb v w v zdq by rw[wS];exact T5.o.tp Sc 0);dsimp only;rw[<-wS];clear wS A5 T5;have Dx:zdq.cell? ⟨hb,11,none⟩=some (.int .i64 d.r.clk):=aJ A6.o.blk 11;obtain⟨c4,f4⟩:=A6.o.recAt lC.o zaN.o (j:=4) (u:=.int .i64 x.h) aH rfl;obtain⟨a7,t7⟩:=A6.o.setR (λz=>{z with h:=d.r.clk}) lC.o zaN.o (j:=4) (u:=.int .i64 d.r.clk) aH zpP rfl;simp only[zgF] at a7;have A7:=aC a7;have T7:=aC (T6.o.trans t7);clear a7 t7;go_wp2;refine HQ.o _ _ ?_;clear HQ c4 f4 A6 T6 Dx;obtain⟨w7,qT⟩:=aU (zdq.setCell ⟨gR,i*7+4,none⟩ (.int .i64 d.r.clk));rw[<-qT] at A7 T7⊢;clear qT;have Ip:=N4 (c:=c) aD aD;refine CW.sq H ?_;refine CW.pQ H zcG (λWm Q HQ=>?_);dsimp only
 go_wp2_with (go_at_call 75;refine(ziF c aD aD _).mono ?_;rintro en w8 ⟨rfl,Hp⟩;obtain rfl:=Hp)
 refine HQ.o _ _ ?_;clear HQ;refine CW.rt H ?_;exact⟨.inr rfl,rfl,.string ⟨([99,97,108,108,32]++jC c).toArray⟩,(by have ee:(⟨#[99,97,108,108,32]⟩:ByteArray)++⟨(jC c).toArray⟩=⟨([99,97,108,108,32]++jC c).toArray⟩:=(by simp[Nf]);rw[<-ee];rfl),rfl,rfl,A7.o.tp Wm 0,T7.o.tp Wm 0⟩
structure Z7 (qs:List Nat)(lo hb:Nat)(v:fC)(d:nF)(w:aE)(k n:Nat)(R:b6×List UInt8)(l':gE)(y:aF)(w':aE):Prop where
 l:l'=.wk qs (k+n)
 y:y=.string ⟨R.2.toArray⟩
 x:∃v',bE w' lo hb v' {d with r:=R.1}/\fT v' {d with r:=R.1}/\bL hb v w v' w'/\zI v v'
def Bu (W:List fE)(k:Nat)(A:List fE):Prop:=∀(j:Nat) (x:fE),A[j]? =some x->W[k+j]? =some x
variable {W A:List fE}
def Bu.head {x:fE}(h:Bu W k (x::A)):W[k]? =some x:=h 0 x rfl
theorem Bu.tail {x:fE}(h:Bu W k (x::A)):Bu W (k+1) A:=λj y hy=>by
 have:=h (j+1) y hy;rw[show k+1+j=k+(j+1) by omega];exact this
variable {n:Nat}
theorem zl7 {E s:Nat}{v:aF}{xs:List aF}(h:w.ownsRow lo E s v n xs)(hn:0<n):∃g c,v=.slice (some ⟨g,0,none⟩) n c:=by
 rcases h.2 with⟨_,h0⟩|⟨g,cap,cur,e,_⟩
 .omega
 .exact⟨g,_,e⟩
variable {b:b6}
theorem zrt (hr:RInv b)(op:Int):0<=dJ b.recs op/\(dJ b.recs op≠0->0<dJ b.recs op):=by
 rcases zoJ b.recs op with⟨i,x,h1,_,_,h4⟩|⟨_,h4⟩
 .have:=(hr.recB x (dS h1)).1
  rw[h4];omega
 .rw[h4];exact⟨Int.le_refl _,λh=>absurd rfl h⟩
theorem Lc (q:Nat):zE ((q:Int)+1)=q:=by unfold zE;omega
def Ri:vK aK 67:=⟨_,zut,.inr (.inl ⟨_,rfl⟩)⟩
theorem zE0 (H:e.d.Ok)(h:bE w lo hb v d)(mr:fT v d)(hi:yE d)(hW:Bu e.W k (Gc d.r ((q:Int)+1)))(hq:q<d.qn.length)(x6:q<=100)(hK:∀(i g:Nat),d.qn[i]? =some g->K g (qa e.qs i)):
 CF e.d 67 #[.pointer (some ⟨hb,0,none⟩),.int .i64 ((q:Int)+1)] K (.wk e.qs k) w (λK' l' y w'=>Z7 e.qs lo hb v d w k (Gc d.r ((q:Int)+1)).length (nG d.r ((q:Int)+1)) l' y w'):=by
 refine CF.of 35 zut (.inr (.inl ⟨_,rfl⟩)) ?_;have A0:=aC h;have T0:=aC (bL.refl (hb:=hb) (v:=v) (w:=w));obtain⟨ans,Lu⟩:=aU (dJ d.r.recs ((q:Int)+1));have HA:=aC Lu;have HI:=aC hi;have MR:=aC mr;have hg:=zrt hi.R ((q:Int)+1);rw[<-Lu] at hg;have N9:e.W[k]? =some (.ask q 0 0 ans):=by have:=hW.head;rw[Lc,<-Lu] at this;exact this
 have HW:=aC hW;clear h mr hi hW Lu;refine CW.sq H (CW.p0 H Ri A0 T0 λw1 eT A1 T1=>?_);refine CW.sq H ?_;refine CW.sq H ?_;refine CW.rg H [0,1,2,3] ?_;refine CR.mv H (.pointer (some ⟨hb,0,none⟩)) ?_;refine CR.mv H (.int .i64 ((q:Int)+1)) ?_;refine CR.cl H (zbf H A1.o N9 hq x6 hK) (λK' l' y w' hl oN=>?_);obtain⟨rfl,rfl,p8⟩:=oN;simp only[b7,gK,dV,dX];have A2:=aC (show bE w' lo hb v d by rw[p8];exact A1.o.alloc _);have T2:=aC (show bL hb v w v w' by rw[p8];exact T1.o.trans (bL.below (dO (eR _ _) _)));have rI:∀(i g:Nat),d.qn[i]? =some g->K' g (qa e.qs i):=λi g hg=>hl _ _ (hK i g hg);clear p8 A1 T1 N9 hK hl;by_cases hz:ans=0
 .
   subst hz;refine nP ?_;refine CR.mg H (.bool false) ?_;refine CR.nil H ?_;refine CW.cd H false ?_;refine CW.sk H ?_;dsimp only;refine CW.sq H ?_;have Bj:¬0<dJ d.r.recs ((q:Int)+1):=by rw[<-HA.o];omega
   have HF:=aC Bj;clear hg Bj;obtain⟨AW,cW,Jf,K6⟩:=Fo A2.o.W aH;have zV:=aC Jf
   cases cC:d.r.wait with
   |nil=>
    have Ox:=aC cC;have e1:nG d.r ((q:Int)+1)=(d.r,[110,111,110,101]):=by unfold nG;rw[if_neg HF.o,Ox.o]
    have e2:Gc d.r ((q:Int)+1)=[.ask q 0 0 0]:=by unfold Gc;rw[if_neg HF.o,Ox.o,Lc,<-HA.o]
    have cJ:=aC e1;have mR:=aC e2;clear e1 e2;refine CW.sq H (CW.pW H Ri A2 T2 λw3 Q iM A3 T3 HQ=>?_);have k7:w3.cell? ⟨hb,7,none⟩=some (.slice AW 0 cW):=by
     have:=aJ A3.o.blk 7;rw[this,<-show v.sW=.slice AW 0 cW by rw[zV.o,cC];rfl];rfl
    clear cC Jf K6;go_wp2;refine HQ.o _ _ ?_;clear HQ;refine CW.cd H true ?_;refine CW.sq H (CW.p0 H Ri A3 T3 λw4 lG A4 T4=>?_);refine CW.rt H ?_;refine⟨.inr rfl,rfl,.string ⟨#[110,111,110,101]⟩,rfl,⟨by rw[mR.o];rfl,by rw[cJ.o],v,?_,?_,?_,zI.rf v⟩⟩
    .rw[cJ.o];exact A4.o
    .rw[cJ.o];exact MR.o
    .exact T4.o
   |cons c cs=>
    have Ox:=aC cC;obtain⟨i,x,hx,rK,Hb,sH⟩:=HI.o.S.wt c Vk;have eY:jD d.r.recs c.c=some i:=by rw[<-Hb];exact HI.o.S.at_ hx rK
    have Ii:=HI.o.R.waitB c Vk;obtain⟨gL,Mv,hO,hM,hC⟩:=MR.o.onLine HI.o hx rK Hb;have Ow:dQ (c::cs) c.c=cs:=zdD (st:=[]) (by have:=HI.o.R.nodup;rw[cC] at this;exact this);have e1:nG d.r ((q:Int)+1)=({d.r with recs:=d.r.recs.modify i λz=>{z with o:=(q:Int)+1,h:=d.r.clk},wait:=cs},[99,97,108,108,32]++jC c.c):=by
     unfold nG;rw[if_neg HF.o,cC];simp only[eY,Ow]
    have e2:Gc d.r ((q:Int)+1)=[.ask q 0 0 0,.ask q 1 c.c c.c]:=by unfold Gc;rw[if_neg HF.o,cC,Lc,<-HA.o]
    have zcB:e.W[k+1]? =some (.ask q 1 c.c c.c):=by have:=HW.o;rw[e2] at this;exact this.tail.head
    obtain⟨gW,zLm,zsm⟩:=zl7 A2.o.W Vk;rw[Jf] at zsm;injection zsm with qX yA K3;subst qX;have hlen:d.r.wait.length=cs.length+1:=by rw[cC];rfl
    have Kf:=HI.o.sm.nw;have zqg:=aC hlen;have Q2:=aC (show v.sW=.slice (some ⟨gW,0,none⟩) (cs.length+1) cW by rw[zV.o,hlen]);have HX:=aC hx;have HM:=aC hM;have cJ:=aC e1;have mR:=aC e2;have zIk:cs.length<=1000:=aD;have Y0:=Ii.1;have pY:=Ii.2;clear cC hx rK Hb sH eY Ii Mv hO hM hC Ow e1 e2 Jf K6 zV hlen Kf yA K3;refine CW.sq H (CW.pW H Ri A2 T2 λw3 Q iM A3 T3 HQ=>?_);have k7:w3.cell? ⟨hb,7,none⟩=some (.slice (some ⟨gW,0,none⟩) (cs.length+1) cW):=by
     have:=aJ A3.o.blk 7;rw[this,<-Q2.o];rfl
    go_wp2;refine HQ.o _ _ ?_;clear HQ;clear k7;refine CW.cd H false ?_;refine CW.sk H ?_;dsimp only;refine CW.sq H (CW.pW H Ri A3 T3 λw4 Q lG A4 T4 HQ=>?_);have k7:w4.cell? ⟨hb,7,none⟩=some (.slice (some ⟨gW,0,none⟩) (cs.length+1) cW):=by
     have:=aJ A4.o.blk 7;rw[this,<-Q2.o];rfl
    have nZ:w4.ownsRow lo 124 2 (.slice (some ⟨gW,0,none⟩) (cs.length+1) cW) (cs.length+1) (bF (c::cs)):=by
     have:=A4.o.W;rw[Q2.o,Ox.o] at this;exact this
    obtain⟨bW,oW,x',hA,mI,eB,e0,e1⟩:=zeJ (zQ nZ aH) (k:=0) aD;injection hA with hA;injection hA with zH yX;subst zH yX;have lH:c=x':=by simpa using eB
    subst lH;simp only[Nat.zero_mul,Ra] at e0 e1;clear nZ eB;go_wp2;refine HQ.o _ _ ?_;clear HQ;clear k7 e0 e1 mI;refine CW.sq H (CW.pW H Ri A4 T4 λw5 Q nU A5 T5 HQ=>?_);have k7:w5.cell? ⟨hb,7,none⟩=some (.slice (some ⟨gW,0,none⟩) (cs.length+1) cW):=by
     have:=aJ A5.o.blk 7;rw[this,<-Q2.o];rfl
    have nZ:w5.ownsRow lo 124 2 (.slice (some ⟨gW,0,none⟩) (cs.length+1) cW) (cs.length+1) (bF (c::cs)):=by
     have:=A5.o.W;rw[Q2.o,Ox.o] at this;exact this
    have Rg:=aC nZ;clear nZ
    go_wp2_with (go_at_call 82;refine(zF2 (i:=0) (j:=1) Rg.o (U0 _) aD aD).mono ?_;rintro en w6 ⟨rfl,Hf,H8⟩;have Oj:w6.ownsRow lo 124 2 (.slice (some ⟨gW,0,none⟩) cs.length cW) cs.length (bF cs):=Hf;have Ax:w5.grownBy w6 v.sW.ownBlock:=(by rw[Q2.o];exact H8);have hq:=(A5.o.other (j:=5) (c:=7) (x:=v.sW) rfl aH Ax (.slice (some ⟨gW,0,none⟩) cs.length cW)).2;have Xw:=aJ (hq.trans A5.o.blk) 7;have kf:=eL (hq.trans A5.o.blk) 7;have Ae:=aC (And.intro Oj Ax);clear Hf H8 Oj Ax hq)
    refine HQ.o _ _ ?_;clear HQ;clear k7 Xw kf;obtain⟨a6,t6⟩:=A5.o.putW Ae.o.2 Ae.o.1 rfl (.inl (by rw[Q2.o];rfl));have A6:=A5;have T6:=T5;obtain⟨w7,qT⟩:=aU (w6.setCell ⟨hb,7,none⟩ (.slice (some ⟨gW,0,none⟩) cs.length cW));have A7:=aC (show bE w7 lo hb {v with sW:=.slice (some ⟨gW,0,none⟩) cs.length cW} {d with r:={d.r with wait:=cs}} by rw[qT];exact a6);have T7:=aC (show bL hb v w {v with sW:=.slice (some ⟨gW,0,none⟩) cs.length cW} w7 by rw[qT];exact(T5.o.trans t6));rw[<-qT];clear qT A6 T6;clear a6 t6 Ae A5 T5;refine CW.sq H ?_;refine CW.rg H [0,1,2,3,4] ?_;refine CR.mv H (.pointer (some ⟨hb,0,none⟩)) ?_;refine CR.mv H (.int .i64 ((q:Int)+1)) ?_;refine CR.mv H (.int .i64 c.c) ?_;refine CR.cl H (zrA H A7.o zcB hq x6 rI HX.o HM.o Y0 pY) (λK2 l2 y2 w8 zn4 oN=>?_);obtain⟨rfl,rfl,a8,t8⟩:=oN;simp only[b7,gK,dV,dX];refine nP ?_;refine CR.mv H (.string ⟨([99,97,108,108,32]++jC c.c).toArray⟩) ?_;refine CR.nil H ?_;refine CW.rt H ?_;refine⟨.inr rfl,rfl,.string ⟨([99,97,108,108,32]++jC c.c).toArray⟩,rfl,⟨by rw[mR.o];rfl,by rw[cJ.o],_,?_,?_,T7.o.trans t8,⟨rfl,rfl,rfl,rfl⟩⟩⟩
    .rw[cJ.o];exact a8
    .rw[cJ.o];refine fT.of (MR.o.mod (f:=λz=>{z with o:=(q:Int)+1,h:=d.r.clk}) (i:=i) λz=>⟨rfl,rfl,rfl⟩) ?_ ?_ ?_ ?_ ?_<;>rfl
 .
   have aT:0<ans:=hg.2 hz;have nE:(ans !=0)=true:=by simpa using hz
   refine nP ?_;refine CR.mv H (.bool true) ?_ (hx:=λT=>by unfold aO;go_simp;try exact nE);refine CR.nil H ?_;refine CW.cd H true ?_;refine CW.sq H (CW.p0 H Ri A2 T2 λw3 iM A3 T3=>?_);refine CW.rt H ?_;have Bt:0<dJ d.r.recs ((q:Int)+1):=by rw[<-HA.o];exact aT
   have e1:nG d.r ((q:Int)+1)=(d.r,[116,97,108,107,115]):=by unfold nG;rw[if_pos Bt]
   have e2:Gc d.r ((q:Int)+1)=[.ask q 0 0 ans]:=by unfold Gc;rw[if_pos Bt,Lc,<-HA.o]
   refine⟨.inr rfl,rfl,.string ⟨#[116,97,108,107,115]⟩,rfl,⟨by rw[e2];rfl,by rw[e1],v,?_,?_,?_,zI.rf v⟩⟩
   .rw[e1];exact A3.o
   .rw[e1];exact MR.o
   .exact T3.o
variable {f:bR->bR}
theorem zCr {rs:List bR}:(rs++[x]).modify rs.length f=rs++[f x]:=by
 apply List.ext_getElem?;intro j;rw[List.getElem?_modify];rcases zu6 j rs.length with h|h|h
 .rw[yO h,yO h]
  have aT:rs.length≠j:=aD;simp[aT]
 .subst h
  rw[zS (aZ _),zS (aZ _),M9];simp
 .rw[Gk rF,Gk rF];rfl
structure FreeAt (d:nF)(l:Int)(i g:Nat):Prop where
 l:l=(i:Int)+1
 g:d.ln[i]? =some g
 i6:i<=100
 un:qW d.r.recs ((i:Int)+1)=false
variable {l:Int}{ls:List Int}
theorem yE.free (h:yE d)(hf:n6 d.r.o d.r.recs=l::ls):∃i g,FreeAt d l i g:=by
 have hm:l∈n6 d.r.o d.r.recs:=by rw[hf];simp
 obtain⟨h1,h2⟩:=zff h.R.off hm;have h3:=(zf1 hm).2;have hn:=h.nln;obtain⟨i,rfl⟩:∃i:Nat,l=(i:Int)+1:=⟨(l-1).toNat,aD⟩;have hi:i<d.ln.length:=aD;refine⟨i,_,rfl,lP hi,aD,?_⟩;unfold n6 xR at hm;have:=(H5.1 hm).2;simpa using this
theorem zr6 (hf:n6 d.r.o d.r.recs=l::ls):Ik d=l-1:=by unfold Ik;rw[hf]
theorem zry (hf:n6 d.r.o d.r.recs=[]):Ik d= -1:=by unfold Ik;rw[hf]
def Gf:vK aK 68:=⟨_,zra,.inr (.inl ⟨_,rfl⟩)⟩
theorem zJq (H:e.d.Ok)(h:bE w lo hb v d)(mr:fT v d)(hi:yE d)(dY:lo<=w.heap.size)(hW:Bu e.W k (Ct d.r ((q:Int)+1)))(hq:q<d.qn.length)(x6:q<=100)(hK:∀(i g:Nat),d.qn[i]? =some g->K g (qa e.qs i)):
 CF e.d 68 #[.pointer (some ⟨hb,0,none⟩),.int .i64 ((q:Int)+1)] K (.wk e.qs k) w (λK' l' y w'=>Z7 e.qs lo hb v d w k (Ct d.r ((q:Int)+1)).length (lV d.r ((q:Int)+1)) l' y w'):=by
 refine CF.of 43 zra (.inr (.inl ⟨_,rfl⟩)) ?_;have A0:=aC h;have T0:=aC (bL.refl (hb:=hb) (v:=v) (w:=w));obtain⟨ans,Lu⟩:=aU (dJ d.r.recs ((q:Int)+1));have HA:=aC Lu;have HI:=aC hi;have MR:=aC mr;have K4:=aC dY;have hg:=zrt hi.R ((q:Int)+1);rw[<-Lu] at hg;have N9:e.W[k]? =some (.ask q 0 0 ans):=by have:=hW.head;rw[Lc,<-Lu] at this;exact this
 have HW:=aC hW;clear h mr hi hW Lu dY;refine CW.sq H (CW.p0 H Gf A0 T0 λw1 eT A1 T1=>?_);refine CW.sq H ?_;refine CW.sq H ?_;refine CW.rg H [0,1,2,3] ?_;refine CR.mv H (.pointer (some ⟨hb,0,none⟩)) ?_;refine CR.mv H (.int .i64 ((q:Int)+1)) ?_;refine CR.cl H (zbf H A1.o N9 hq x6 hK) (λK' l' y w' hl oN=>?_);obtain⟨rfl,rfl,p8⟩:=oN;simp only[b7,gK,dV,dX];have A2:=aC (show bE w' lo hb v d by rw[p8];exact A1.o.alloc _);have T2:=aC (show bL hb v w v w' by rw[p8];exact T1.o.trans (bL.below (dO (eR _ _) _)));have rI:∀(i g:Nat),d.qn[i]? =some g->K' g (qa e.qs i):=λi g hg=>hl _ _ (hK i g hg);clear p8 A1 T1 N9 hK hl;by_cases hz:ans=0
 .
   subst hz;refine nP ?_;refine CR.mg H (.bool false) ?_;refine CR.nil H ?_;refine CW.cd H false ?_;refine CW.sk H ?_;dsimp only;have HF:=aC (show dJ d.r.recs ((q:Int)+1)=0 from HA.o.symm);clear hg;refine CW.sq H ?_;obtain⟨AB,cB,Kx,zbU⟩:=Fo A2.o.B aH;have zK:=aC Kx;clear zbU
   cases wH:d.r.back with
   |nil=>
    have Lz:=aC wH;have e1:lV d.r ((q:Int)+1)=(d.r,[110,111,110,101]):=by unfold lV;rw[if_neg Ux,Lz.o]
    have e2:Ct d.r ((q:Int)+1)=[.ask q 0 0 0]:=by unfold Ct;rw[if_neg Ux,Lz.o,Lc,<-HA.o]
    have cJ:=aC e1;have mR:=aC e2;clear e1 e2;refine CW.sq H (CW.pW H Gf A2 T2 λw3 Q iM A3 T3 HQ=>?_);have k8:w3.cell? ⟨hb,8,none⟩=some (.slice AB 0 cB):=by
     have:=aJ A3.o.blk 8;rw[this,<-show v.sB=.slice AB 0 cB by rw[zK.o,wH];rfl];rfl
    clear wH Kx;go_wp2;refine HQ.o _ _ ?_;clear HQ;refine CW.cd H true ?_;refine CW.sq H (CW.p0 H Gf A3 T3 λw4 lG A4 T4=>?_);refine CW.rt H ?_;refine⟨.inr rfl,rfl,.string ⟨#[110,111,110,101]⟩,rfl,⟨by rw[mR.o];rfl,by rw[cJ.o],v,?_,?_,?_,zI.rf v⟩⟩
    .rw[cJ.o];exact A4.o
    .rw[cJ.o];exact MR.o
    .exact T4.o
   |cons c cs=>
    have Lz:=aC wH;have Ii:=HI.o.R.backB c zak;have eY:jD d.r.recs c.c=none:=HI.o.S.bo c zak;have Ow:dQ (c::cs) c.c=cs:=zdD (st:=[]) (by have:=HI.o.S.bk;rw[wH] at this;exact this);obtain⟨gB,znh,y7⟩:=zl7 A2.o.B zak;rw[Kx] at y7;injection y7 with qX yA K3;subst qX;have hlen:d.r.back.length=cs.length+1:=by rw[wH];rfl
    have nE:=HI.o.sm.nb;have Bn:=HI.o.sm.nr;have Sg:=aC (show v.sB=.slice (some ⟨gB,0,none⟩) (cs.length+1) cB by rw[zK.o,hlen]);have uJ:=aC eY;have zDC:=aC Ow;have zIk:cs.length<=5000:=aD;have Y0:=Ii.1;have pY:=Ii.2;clear wH eY Ow Ii Kx zK hlen nE yA K3;refine CW.sq H (CW.pW H Gf A2 T2 λw3 Q iM A3 T3 HQ=>?_);have k8:w3.cell? ⟨hb,8,none⟩=some (.slice (some ⟨gB,0,none⟩) (cs.length+1) cB):=by
     have:=aJ A3.o.blk 8;rw[this,<-Sg.o];rfl
    go_wp2;refine HQ.o _ _ ?_;clear HQ;clear k8;refine CW.cd H false ?_;refine CW.sk H ?_;dsimp only;have zcJ:=HI.o.nln;have zcd:d.ln.length<=100:=by have:=(Cd HI.o.R.off).2.1;omega
    have zby:=aC (λW (a:bE W lo hb v d)=>zuX a MR.o zcJ zcd);clear zcJ zcd;refine CW.sq H (CW.pW H Gf A3 T3 λw4 Q lG A4 T4 HQ=>?_)
    go_wp2_with (go_at_call 72;refine(zby.o _ A4.o).mono ?_;rintro en wz ⟨rfl,uB⟩;obtain rfl:=uB)
    refine HQ.o _ _ ?_;clear HQ;clear zby;refine CW.sq H ?_
    cases fI:n6 d.r.o d.r.recs with
    |nil=>
     rw[zry fI];have O1:=aC fI;have e1:lV d.r ((q:Int)+1)=(d.r,[98,117,115,121]):=by unfold lV;rw[if_neg Ux,Lz.o];simp only[fI]
     have e2:Ct d.r ((q:Int)+1)=[.ask q 0 0 0]:=by unfold Ct;rw[if_neg Ux,Lz.o,Lc,<-HA.o];simp only[fI]
     have cJ:=aC e1;have mR:=aC e2;clear e1 e2 fI;refine CW.sq H (CW.p0 H Gf A4 T4 λw5 nU A5 T5=>?_);refine CW.cd H true ?_;refine CW.sq H (CW.p0 H Gf A5 T5 λw6 o5 A6 T6=>?_);refine CW.rt H ?_;refine⟨.inr rfl,rfl,.string ⟨#[98,117,115,121]⟩,rfl,⟨by rw[mR.o];rfl,by rw[cJ.o],v,?_,?_,?_,zI.rf v⟩⟩
     .rw[cJ.o];exact A6.o
     .rw[cJ.o];exact MR.o
     .exact T6.o
    |cons l ls=>
     obtain⟨i,gL,uS⟩:=HI.o.free fI;have tW:Ik d=(i:Int):=by rw[zr6 fI,uS.l];omega
     rw[tW];have e1:lV d.r ((q:Int)+1)=({d.r with back:=cs,recs:=d.r.recs++[⟨c.c,(i:Int)+1,(q:Int)+1,d.r.clk,d.r.clk,-1,eJ⟩]},[99,97,108,108,32]++jC c.c):=by
      unfold lV;rw[if_neg Ux,Lz.o];simp only[fI,zDC.o,uS.l]
     have e2:Ct d.r ((q:Int)+1)=[.ask q 0 0 0,.ask q 1 c.c c.c]:=by unfold Ct;rw[if_neg Ux,Lz.o,Lc,<-HA.o];simp only[fI]
     have zcB:e.W[k+1]? =some (.ask q 1 c.c c.c):=by have:=HW.o;rw[e2] at this;exact this.tail.head
     have cJ:=aC e1;have mR:=aC e2;have FA:=aC uS;have zGU:=uS.i6;clear e1 e2 fI uS tW;refine CW.sq H (CW.pW H Gf A4 T4 λw5 Q nU A5 T5 HQ=>?_);have i0:(0:Int)<=(i:Int):=aD;go_wp2;refine HQ.o _ _ ?_;clear HQ;refine CW.cd H false ?_;refine CW.sk H ?_;dsimp only;refine CW.sq H (CW.pW H Gf A5 T5 λw6 Q o5 A6 T6 HQ=>?_);have k8:w6.cell? ⟨hb,8,none⟩=some (.slice (some ⟨gB,0,none⟩) (cs.length+1) cB):=by
      have:=aJ A6.o.blk 8;rw[this,<-Sg.o];rfl
     have nZ:w6.ownsRow lo 3 1 (.slice (some ⟨gB,0,none⟩) (cs.length+1) cB) (cs.length+1) (jN ((c::cs).map bJ.c)):=by
      have:=A6.o.B;rw[Sg.o,Lz.o] at this;exact this
     obtain⟨bB,oB,x',hA,_,_,mI,eB,e0⟩:=(zQ nZ aH).cellAt (k:=0) aD;injection hA with hA;injection hA with zH yX;subst zH yX;have lH:c.c=x':=by simpa using eB
     subst lH
     try simp only[Ra] at e0
     clear nZ eB;go_wp2;refine HQ.o _ _ ?_;clear HQ;clear k8 e0 mI;refine CW.sq H (CW.pW H Gf A6 T6 λw7 Q qT A7 T7 HQ=>?_);have k8:w7.cell? ⟨hb,8,none⟩=some (.slice (some ⟨gB,0,none⟩) (cs.length+1) cB):=by
      have:=aJ A7.o.blk 8;rw[this,<-Sg.o];rfl
     have nZ:w7.ownsRow lo 3 1 (.slice (some ⟨gB,0,none⟩) (cs.length+1) cB) (cs.length+1) (jN ((c::cs).map bJ.c)):=by
      have:=A7.o.B;rw[Sg.o,Lz.o] at this;exact this
     have Rg:=aC nZ;clear nZ
     go_wp2_with (go_at_call 77;refine(zts (i:=0) (j:=1) Rg.o (zsg _) aD aD).mono ?_;rintro en w8 ⟨rfl,Hf,H8⟩;have Oj:w8.ownsRow lo 3 1 (.slice (some ⟨gB,0,none⟩) cs.length cB) cs.length (jN (cs.map bJ.c)):=Hf;have Ax:w7.grownBy w8 v.sB.ownBlock:=(by rw[Sg.o];exact H8);have hq:=(A7.o.other (j:=6) (c:=8) (x:=v.sB) rfl aH Ax (.slice (some ⟨gB,0,none⟩) cs.length cB)).2;have Ol:=aJ (hq.trans A7.o.blk) 8;have kf:=eL (hq.trans A7.o.blk) 8;have Ae:=aC (And.intro Oj Ax);clear Hf H8 Oj Ax hq)
     refine HQ.o _ _ ?_;clear HQ;clear k8 Ol kf;obtain⟨a6,t6⟩:=A7.o.putB Ae.o.2 Ae.o.1 rfl (.inl (by rw[Sg.o];rfl));have A8:=A7;have T8:=T7;obtain⟨w9,Hg⟩:=aU (w8.setCell ⟨hb,8,none⟩ (.slice (some ⟨gB,0,none⟩) cs.length cB));have A9:=aC (show bE w9 lo hb {v with sB:=.slice (some ⟨gB,0,none⟩) cs.length cB} {d with r:={d.r with back:=cs}} by rw[Hg];exact a6);have T9:=aC (show bL hb v w {v with sB:=.slice (some ⟨gB,0,none⟩) cs.length cB} w9 by rw[Hg];exact(T7.o.trans t6));rw[<-Hg];clear Hg A8 T8;clear a6 t6 Ae A7 T7;refine CW.sq H (CW.pW H Gf A9 T9 λuE Q Cy rS wQ HQ=>?_);have zGo:lo<=uE.heap.size:=eP K4.o wQ.o.size
     go_wp2_with (go_at_call 73;refine(zss rS.o zGo FA.o.g aD Bn c.c).mono ?_;rintro en y9 ⟨rfl,v11,zs1,t11,zsT⟩;have As:=aC zs1;have D4:=aC (wQ.o.trans t11);have Ot:=aC zsT;clear zs1 t11 zsT)
     refine HQ.o _ _ ?_;clear HQ;clear rS wQ;refine CW.sq H ?_;refine CW.rg H [0,1,2,3,4] ?_;refine CR.mv H (.pointer (some ⟨hb,0,none⟩)) ?_;refine CR.mv H (.int .i64 ((q:Int)+1)) ?_;refine CR.mv H (.int .i64 c.c) ?_;refine CR.cl H (zrA H As.o zcB hq x6 rI (i:=d.r.recs.length) (x:=⟨c.c,(i:Int)+1,0,d.r.clk,-1,-1,eJ⟩) (by show(d.r.recs++[_])[d.r.recs.length]? =_;rw[zS (aZ _),M9];rfl) (by rw[Ot.o.2.2.1,Xe,if_pos rfl]) Y0 pY) (λK2 l2 y2 La zn4 oN=>?_);obtain⟨rfl,rfl,a12,t12⟩:=oN;simp only[b7,gK,dV,dX];refine nP ?_;refine CR.mv H (.string ⟨([99,97,108,108,32]++jC c.c).toArray⟩) ?_;refine CR.nil H ?_;refine CW.rt H ?_;have e3:(d.r.recs++[(⟨c.c,(i:Int)+1,0,d.r.clk,-1,-1,eJ⟩:bR)]).modify d.r.recs.length (λz=>{z with o:=(q:Int)+1,h:=d.r.clk})=d.r.recs++[⟨c.c,(i:Int)+1,(q:Int)+1,d.r.clk,d.r.clk,-1,eJ⟩]:=zCr;refine⟨.inr rfl,rfl,.string ⟨([99,97,108,108,32]++jC c.c).toArray⟩,rfl,⟨by rw[mR.o];rfl,by rw[cJ.o],v11,?_,?_,D4.o.trans t12,?_⟩⟩
     .rw[cJ.o]
      have zkf:=a12;dsimp only at zkf;rw[e3] at zkf;exact zkf
     .rw[cJ.o]
      refine fT.of (MR.o.more HI.o.ndl FA.o.g FA.o.un uJ.o (o:=(q:Int)+1) (hh:=d.r.clk) (tt:=-1) (clk:=d.r.clk)) ?_ ?_ ?_ ?_ ?_
      .exact Ot.o.1
      .exact Ot.o.2.1
      .exact Ot.o.2.2.1
      .rfl
      .rfl
     .exact⟨Ot.o.2.2.2.1,Ot.o.2.2.2.2.1,Ot.o.2.2.2.2.2.2.2.1,Ot.o.2.2.2.2.2.2.2.2⟩
 .
   have aT:0<ans:=hg.2 hz;have nE:(ans !=0)=true:=by simpa using hz
   have Bt:0<dJ d.r.recs ((q:Int)+1):=by rw[<-HA.o];exact aT
   have cJ:=aC (show lV d.r ((q:Int)+1)=(d.r,[116,97,108,107,115]) by unfold lV;rw[if_pos Bt]);have mR:=aC (show Ct d.r ((q:Int)+1)=[.ask q 0 0 ans] by unfold Ct;rw[if_pos Bt,Lc,<-HA.o]);clear Bt;refine nP ?_;refine CR.mv H (.bool true) ?_ (hx:=λT=>by unfold aO;go_simp;try exact nE);refine CR.nil H ?_;refine CW.cd H true ?_;refine CW.sq H (CW.p0 H Gf A2 T2 λw3 iM A3 T3=>?_);refine CW.rt H ?_;refine⟨.inr rfl,rfl,.string ⟨#[116,97,108,107,115]⟩,rfl,⟨by rw[mR.o];rfl,by rw[cJ.o],v,?_,?_,?_,zI.rf v⟩⟩
   .rw[cJ.o];exact A3.o
   .rw[cJ.o];exact MR.o
   .exact T3.o
theorem zqf (xs:List bJ)(q:Int):(xs.map bJ.c).findIdx? (·==q)=uX xs q:=by
 unfold uX;rw[List.findIdx?_map];rfl
variable {q:Int}{xs:List bJ}
theorem zG0 {p:Nat}(hn:(xs.map bJ.c).Nodup)(h:uX xs q=some p):dQ xs q=xs.take p++xs.drop (p+1)/\p<xs.length:=by
 unfold uX at h;obtain⟨hl,hx,_⟩:=zma.1 h;have hq:xs[p].c=q:=by simpa using hx
 have e:xs=xs.take p++xs[p]::xs.drop (p+1):=by rw[<-List.drop_eq_getElem_cons hl,List.take_append_drop]
 refine⟨?_,hl⟩;have:=zdD (st:=xs.take p) (rest:=xs.drop (p+1)) (x:=xs[p]) (by rw[<-e];exact hn);rw[<-e,hq] at this;exact this
theorem zJi (h:∀x∈xs,x.c≠q):dQ xs q=xs:=by
 unfold dQ;rw[List.filter_eq_self];intro x hx;simpa using h x hx
theorem zC8 (xs:List bJ)(p r:Nat):jN ((xs.take p++xs.drop r).map bJ.c)=(jN (xs.map bJ.c)).take p++(jN (xs.map bJ.c)).drop r:=by
 unfold jN;rw[If,If,zv1,zrl,zv1,zrl]
theorem zFX {gx:Nat}(sU:w.heap[gx]? =some (.cells #[.int .i64 q] 3)):
 Calls aK 80 #[.slice none 0 0,.func (.func 81) #[] #[.pointer (some ⟨gx,0,none⟩)]] w λe w'=>e=.returned (.slice none 0 0)/\Below w.heap.size w w':=by
 have HI:=aC (zsR 0 w.heap.size 0 0 none [] gx q w ⟨rfl,lB _,lB _,λh=>absurd h aD⟩ aD sU);clear sU
 go_enter Tryd.func80,Tryd.ntmps80
 go_wp2_with (go_at_call 87;refine HI.o.mono ?_;rintro e w1 ⟨rfl,xB⟩;have sG:=aC xB;clear xB)
 go_ret;exact⟨rfl,sG.o⟩
def xK:vK aK 66:=⟨_,zqv,.inr (.inl ⟨_,rfl⟩)⟩
theorem zBq (H:e.d.Ok)(h:bE w lo hb v d)(mr:fT v d)(hi:yE d)(dY:lo<=w.heap.size)(hW:Bu e.W k (Cq d.r c))(hK:∀(i g:Nat),d.qn[i]? =some g->K g (qa e.qs i)):
 CF e.d 66 #[.pointer (some ⟨hb,0,none⟩),.int .i64 c] K (.wk e.qs k) w (λK' l' y w'=>Z7 e.qs lo hb v d w k (Cq d.r c).length (l7 d.r c) l' y w'):=by
 refine CF.of 59 zqv (.inr (.inl ⟨_,rfl⟩)) ?_;have A0:=aC h;have T0:=aC (bL.refl (hb:=hb) (v:=v) (w:=w));have HI:=aC hi;have MR:=aC mr;have K4:=aC dY;have HW:=aC hW;have nE:=hi.sm.nb;have Kf:=hi.sm.nw;clear h mr hi hW dY;refine CW.sq H (CW.pW H xK A0 T0 λw1 Q eT A1 T1 HQ=>?_);go_wp2;refine HQ.o _ _ ?_;clear HQ;obtain⟨gx,sU⟩:=aU w1.heap.size;obtain⟨w2,fQ⟩:=aU (w1.alloc (.cells #[.int .i64 c] 3));have A2:=aC (show bE w2 lo hb v d by rw[fQ];exact A1.o.alloc _);have T2:=aC (show bL hb v w v w2 by rw[fQ];exact T1.o.trans (bL.below (dO (eR _ _) _)));have zdP:=aC (show w2.heap[gx]? =some (.cells #[.int .i64 c] 3) by rw[fQ,sU];exact lO _ _);have NP:=aC (show some gx∉parts v hb from λhp=>by have:=(A1.o.lt _ hp).2;omega);rw[<-sU,<-fQ];clear fQ sU A1 T1;refine CW.sq H ?_
 cases eY:jD d.r.recs c with
 |none=>
  have uJ:=aC eY;have Rr:=aC (MR.o.offLine eY);clear eY;refine CW.sq H (CW.pW H xK A2 T2 λw3 Q iM A3 T3 HQ=>?_);have uP:=aC (iM▸zdP.o);have k5:w3.cell? ⟨hb,5,none⟩=some (.map (some v.mO)):=aJ A3.o.blk 5;have kx:=aJ uP.o 0;have lk:(yP 49 (.map (some v.mO)) (.int .i64 c) false).run aK w3.drew=.ok (.chan none) w3.drew:=by
   have:=za6 Ry Kv (zaK w3.drew) (A3.o.drew.O) (c:=c) false;rw[Rr.o] at this;exact this
  refine zqB w3 hb gx v.mO c none rfl rfl rfl k5 kx lk rfl ?_;rw[Go.Mt.zY,ziy];simp only[Go.Mt.wO,dV,dX,zfh,lHG1,C4,Cm];refine HQ.o _ _ ?_;clear HQ;clear k5 kx lk;obtain⟨w4,lG⟩:=aU w3.drew;have A4:=aC (show bE w4 lo hb v d by rw[lG];exact A3.o.drew);have T4:=aC (show bL hb v w v w4 by rw[lG];exact T3.o.same rfl);have Ng:=aC (show w4.heap[gx]? =some (.cells #[.int .i64 c] 3) by rw[lG];exact uP.o);rw[<-lG];clear lG A3 T3 uP;refine CW.cd H true ?_;obtain⟨AB,cB,Kx,zbU⟩:=Fo A4.o.B aH;have zK:=aC Kx;clear Kx zbU;refine CW.sq H (CW.pW H xK A4 T4 λw5 Q nU A5 T5 HQ=>?_);have Cu:=aC (nU▸Ng.o);have k8:w5.cell? ⟨hb,8,none⟩=some (.slice AB d.r.back.length cB):=by
   have:=aJ A5.o.blk 8;rw[this,<-zK.o];rfl
  have kx:=aJ Cu.o 0;have Ee:=aC (show cG w5 lo w5.heap.size 1 AB d.r.back.length cB (jN (d.r.back.map bJ.c)) by have:=A5.o.B;rw[zK.o] at this;exact zQ this aH);have HE:=aC (λnq:Nat=>Calls.quiet_of_same (w:=w5) (n:=nq) ((zoa lo w5.heap.size d.r.back.length cB AB (d.r.back.map bJ.c) c (w5.drewN nq) (have hs:=Ee.o;⟨hs.len,hs.le,hs.cap,hs.at_⟩) aD).mono λe w' hh=>hh))
  go_wp2_with fail
  go_quiet ((go_at_call 76;exact HE.o _))
  go_wp2_with fail
  refine HQ.o _ _ ?_;clear HQ;obtain⟨w6,o5⟩:=aU (w5.drewN nq);have A6:=aC (show bE w6 lo hb v d by rw[o5];exact A5.o.same rfl);have T6:=aC (show bL hb v w v w6 by rw[o5];exact T5.o.same rfl);have Ko:=aC (show w6.heap[gx]? =some (.cells #[.int .i64 c] 3) by rw[o5];exact Cu.o);rw[<-o5];clear o5 A5 T5 Cu k8 kx Ee HE;refine CW.sq H ?_;rw[zqf]
  cases Gm:uX d.r.back c with
  |none=>
   have cJ:=aC (show l7 d.r c=(d.r,[103,111,110,101]) by unfold l7;rw[uJ.o];simp only[Gm];rfl);have mR:=aC (show Cq d.r c=[] by unfold Cq;rw[uJ.o]);clear Gm;simp only[Fj];refine CW.sq H ?_;refine CW.pW H xK A6 T6 λw7 Q qT A7 T7 HQ=>?_;have Fb:=aC (qT▸Ko.o);go_wp2;refine HQ.o _ _ ?_;clear HQ;refine CW.cd H true ?_;refine CW.sq H (CW.pW H xK A7 T7 λw8 Q Hp A8 T8 HQ=>?_);have Iu:=aC (Hp▸Fb.o);go_wp2;refine HQ.o _ _ ?_;clear HQ;refine CW.rt H ?_;refine⟨.inr rfl,rfl,.string ⟨#[103,111,110,101]⟩,rfl,⟨by rw[mR.o];rfl,by rw[cJ.o],v,?_,?_,?_,zI.rf v⟩⟩
   .rw[cJ.o];exact A8.o
   .rw[cJ.o];exact MR.o
   .exact T8.o
  |some p=>
   obtain⟨Ow,lS⟩:=zG0 HI.o.S.bk Gm;have cJ:=aC (show l7 d.r c=({d.r with back:=d.r.back.take p++d.r.back.drop (p+1)},[111,102,102]) by unfold l7;rw[uJ.o];simp only[Gm];rw[<-Ow];rfl);have mR:=aC (show Cq d.r c=[] by unfold Cq;rw[uJ.o]);have zMa:p<=5000:=aD;obtain⟨gB,znh,y7⟩:=zl7 A6.o.B aD;rw[zK.o] at y7;injection y7 with qX yA K3;subst qX;have i0:(0:Int)<=(p:Int):=aD;clear Gm Ow yA K3;simp only[Fj];refine CW.sq H ?_;refine CW.pW H xK A6 T6 λw7 Q qT A7 T7 HQ=>?_;have Fb:=aC (qT▸Ko.o);go_wp2;refine HQ.o _ _ ?_;clear HQ;refine CW.cd H false ?_;refine CW.sk H ?_;dsimp only;refine CW.sq H (CW.pW H xK A7 T7 λw8 Q Hp A8 T8 HQ=>?_);have Iu:=aC (Hp▸Fb.o);have k8:w8.cell? ⟨hb,8,none⟩=some (.slice (some ⟨gB,0,none⟩) d.r.back.length cB):=by
    have:=aJ A8.o.blk 8;rw[this,<-zK.o];rfl
   have Rg:=aC (show w8.ownsRow lo 3 1 (.slice (some ⟨gB,0,none⟩) d.r.back.length cB) d.r.back.length (jN (d.r.back.map bJ.c)) by have:=A8.o.B;rw[zK.o] at this;exact this)
   go_wp2_with (go_at_call 77;refine(zts (i:=p) (j:=p+1) Rg.o (zsg _) aD aD).mono ?_;intro en w9;rw[show p+1-p=1 by omega];rintro⟨rfl,Hf,H8⟩;have Oj:w9.ownsRow lo 3 1 (.slice (some ⟨gB,0,none⟩) (d.r.back.length-1) cB) (d.r.back.length-1) (jN ((d.r.back.take p++d.r.back.drop (p+1)).map bJ.c)):=(by rw[zC8];exact Hf);have Ax:w8.grownBy w9 v.sB.ownBlock:=(by rw[zK.o];exact H8);have hq:=(A8.o.other (j:=6) (c:=8) (x:=v.sB) rfl aH Ax (.slice (some ⟨gB,0,none⟩) (d.r.back.length-1) cB)).2;have Ol:=aJ (hq.trans A8.o.blk) 8;have kf:=eL (hq.trans A8.o.blk) 8;have Ae:=aC (And.intro Oj Ax);clear Hf H8 Oj Ax hq)
   refine HQ.o _ _ ?_;clear HQ;clear k8 Ol kf;obtain⟨a6,t6⟩:=A8.o.putB Ae.o.2 Ae.o.1 rF (.inl (by rw[zK.o];rfl));have A9:=A8;have T9:=T8;obtain⟨uE,Cy⟩:=aU (w9.setCell ⟨hb,8,none⟩ (.slice (some ⟨gB,0,none⟩) (d.r.back.length-1) cB));have rS:=aC (show bE uE lo hb {v with sB:=.slice (some ⟨gB,0,none⟩) (d.r.back.length-1) cB} {d with r:={d.r with back:=d.r.back.take p++d.r.back.drop (p+1)}} by rw[Cy];exact a6);have wQ:=aC (show bL hb v w {v with sB:=.slice (some ⟨gB,0,none⟩) (d.r.back.length-1) cB} uE by rw[Cy];exact(T8.o.trans t6));rw[<-Cy];clear Cy A9 T9;clear a6 t6 Ae A8 T8 Iu;refine CW.sq H (CW.p0 H xK rS wQ λy9 zBG As D4=>?_);refine CW.rt H ?_;refine⟨.inr rfl,rfl,.string ⟨#[111,102,102]⟩,rfl,⟨by rw[mR.o];rfl,by rw[cJ.o],{v with sB:=.slice (some ⟨gB,0,none⟩) (d.r.back.length-1) cB},?_,?_,?_,⟨rfl,rfl,rfl,rfl⟩⟩⟩
   .rw[cJ.o];exact As.o
   .rw[cJ.o];refine fT.of MR.o ?_ ?_ ?_ ?_ ?_<;>rfl
   .exact D4.o
 |some i=>
  obtain⟨x,hx,Hb,rK⟩:=Ca eY;obtain⟨gL,Mv,hO,hM,hC⟩:=MR.o.onLine HI.o hx rK Hb;obtain⟨gR,cR,hR⟩:=zg4 A2.o hx;have Rr:=aC hO;have HX:=aC hx;have HL:=aC (And.intro Mv (And.intro hO (And.intro hM hC)));have HR:=aC hR;have uJ:=aC eY;have Vp:=aC (And.intro Hb rK);have hop:=HI.o.ops.op x (dS hx);have Tv:=HI.o.nqn;have Xr:=HI.o.R.off;have Qu:=aC (Cd Xr);have pK:Fu d.r.recs i=c:=by rw[Qe hx,Hb]
  have K5:opAt d.r.recs i=x.o:=by unfold opAt;rw[hx]
  have Yo:=aC (And.intro pK K5);clear hx Hb rK Mv hO hM hC hR eY Xr pK K5;refine CW.sq H (CW.pW H xK A2 T2 λw3 Q iM A3 T3 HQ=>?_);have uP:=aC (iM▸zdP.o);have k5:w3.cell? ⟨hb,5,none⟩=some (.map (some v.mO)):=aJ A3.o.blk 5;have kx:=aJ uP.o 0;have lk:(yP 49 (.map (some v.mO)) (.int .i64 c) false).run aK w3.drew=.ok (.chan (some gL)) w3.drew:=by
   have:=za6 Ry Kv (zaK w3.drew) (A3.o.drew.O) (c:=c) false;rw[Rr.o] at this;exact this
  refine zqB w3 hb gx v.mO c (some gL) rfl rfl rfl k5 kx lk rfl ?_;rw[Go.Mt.zY,ziy];simp only[Go.Mt.wO,dV,dX,zfh,lHG1,C4,Cm];refine HQ.o _ _ ?_;clear HQ;clear k5 kx lk;obtain⟨w4,lG⟩:=aU w3.drew;have A4:=aC (show bE w4 lo hb v d by rw[lG];exact A3.o.drew);have T4:=aC (show bL hb v w v w4 by rw[lG];exact T3.o.same rfl);have Ng:=aC (show w4.heap[gx]? =some (.cells #[.int .i64 c] 3) by rw[lG];exact uP.o);rw[<-lG];clear lG A3 T3 uP;refine CW.cd H false ?_;refine CW.sk H ?_;dsimp only;refine CW.sq H ?_;refine CW.sq H (CW.pW H xK A4 T4 λw5 Q nU A5 T5 HQ=>?_);have Cu:=aC (nU▸Ng.o);have kx:=aJ Cu.o 0;have zoj:=aC (λW (a:bE W lo hb v d)=>zd5 a HR.o HX.o HL.o.2.2.1);obtain⟨c2,f2⟩:=A5.o.recAt HR.o HX.o (j:=2) (u:=.int .i64 x.o) aH rfl
  go_wp2_with (go_at_call 78;refine(zoj.o _ A5.o).mono ?_;rintro en wz ⟨rfl,uB⟩;obtain rfl:=uB)
  refine HQ.o _ _ ?_;clear HQ;clear kx zoj c2 f2;obtain⟨w6,o5⟩:=aU w5.drew;have A6:=aC (show bE w6 lo hb v d by rw[o5];exact A5.o.drew);have T6:=aC (show bL hb v w v w6 by rw[o5];exact T5.o.same rfl);have Ko:=aC (show w6.heap[gx]? =some (.cells #[.int .i64 c] 3) by rw[o5];exact Cu.o);rw[<-o5];clear o5 A5 T5 Cu;refine CW.sq H ?_;by_cases hz:x.o=0
  .
    have cJ:=aC (show l7 d.r c=(kT d.r i Bs,[108,101,102,116]) by unfold l7;rw[uJ.o];simp only;rw[Yo.o.2,hz,if_neg aH]);have mR:=aC (show Cq d.r c=[] by unfold Cq;rw[uJ.o];simp only;rw[Yo.o.2,hz,if_neg aH]);rw[hz];clear hz;refine CW.pW H xK A6 T6 λw7 Q qT A7 T7 HQ=>?_;have Fb:=aC (qT▸Ko.o);go_wp2;refine HQ.o _ _ ?_;clear HQ;refine CW.cd H false ?_;refine CW.sk H ?_;dsimp only;refine CW.sq H (CW.pW H xK A7 T7 λw8 Q Hp A8 T8 HQ=>?_);have Iu:=aC (Hp▸Fb.o);have kx:=aJ Iu.o 0
    go_wp2_with (go_at_call 79;refine(zlF (e:=⟨#[108,101,102,116]⟩) A8.o HX.o HL.o.2.1 HL.o.2.2.2 HL.o.2.2.1 HR.o).mono ?_;rintro en w9 ⟨rfl,v9,a5,t5,p5⟩;have A9:=aC a5;have T9:=aC (T8.o.trans t5);have P9:=aC p5;have zxv:=aC t5;clear a5 t5 p5)
    refine HQ.o _ _ ?_;clear HQ;clear kx;have zp9:=aC (fT.of (v':=v9) (MR.o.clear HI.o.S HI.o.ndl (λz hz=>(HI.o.lb z hz).1) HX.o Vp.o.2 HL.o.1 (f:=λz=>{z with t:=d.r.clk,e:=Bs}) (λz=>⟨rfl,rfl⟩) zjX) P9.o.1 (by rw[P9.o.2.1,Vp.o.1]) P9.o.2.2.1 rfl rfl);obtain⟨kg,np⟩:=A8.o.turned zxv.o Iu.o NP.o;have X6:=aC kg;have zLG:=aC np;clear kg np zxv A8 T8 Iu;have zm7:=A9.o.W;have zo8:({d with r:={d.r with recs:=d.r.recs.modify i λz=>{z with t:=d.r.clk,e:=Bs}}}:nF).r.wait.length=d.r.wait.length:=rfl;rcases zm7.2 with⟨Wt,h0⟩|⟨gW,cW,cur,K6,_⟩
    .
      have Jj:d.r.wait=[]:=List.eq_nil_of_length_eq_zero h0;have uI:=aC (show kT d.r i Bs={d.r with recs:=d.r.recs.modify i λz=>{z with t:=d.r.clk,e:=Bs}} by unfold kT;rw[Jj];show b6.mk _ _ _ [] _ _=_;rw[<-Jj];rfl);have zmp:=aC Wt;clear zm7 zo8 Wt h0 Jj;refine CW.sq H (CW.pW H xK A9 T9 λuE Q Cy rS wQ HQ=>?_);have Vx:=aC (Cy▸X6.o);have k7:uE.cell? ⟨hb,7,none⟩=some (.slice none 0 0):=by
       have:=aJ rS.o.blk 7;rw[this,<-zmp.o];rfl
      go_wp2_with (go_at_call 80;refine(zFX Vx.o).mono ?_;rintro en y9 ⟨rfl,zlV⟩;have As:=aC (rS.o.below zlV);have D4:=aC (wQ.o.trans (bL.below zlV));have Xw:=aJ As.o.blk 7;have kf:=eL As.o.blk 7;clear zlV)
      refine HQ.o _ _ ?_;clear HQ;clear k7 Xw kf;have zkM:y9.setCell ⟨hb,7,none⟩ (.slice none 0 0)=y9.setCell ⟨hb,7,none⟩ v9.sW:=by rw[zmp.o]
      have a12:=As.o.newW (s':=v9.sW) (xs:=d.r.wait) As.o.W rfl (λb e=>by rw[zmp.o] at e;cases e);have t12:bL hb v9 y9 v9 (y9.setCell ⟨hb,7,none⟩ v9.sW):=⟨by rw[sE];exact aZ _,λb bY hn=>dZ y9 _ _ b (λe=>hn zs2),λb hx=>.inl hx⟩;obtain⟨La,Lm⟩:=aU (y9.setCell ⟨hb,7,none⟩ (.slice none 0 0));have zbN:=aC (show bE La lo hb v9 {d with r:={d.r with recs:=d.r.recs.modify i λz=>{z with t:=d.r.clk,e:=Bs}}} by rw[Lm];exact(by rw[zkM];exact a12));have zbt:=aC (show bL hb v w v9 La by rw[Lm];exact(by rw[zkM];exact D4.o.trans t12));rw[<-Lm];clear Lm As D4;clear a12 t12 zkM rS wQ Vx;refine CW.sq H (CW.p0 H xK zbN zbt λzic zwC Zq zax=>?_);refine CW.rt H ?_;refine⟨.inr rfl,rfl,.string ⟨#[108,101,102,116]⟩,rfl,⟨by rw[mR.o];rfl,by rw[cJ.o],v9,?_,?_,?_,B4.kept P9.o.2.2.2.2⟩⟩
      .rw[cJ.o];rw[uI.o];exact Zq.o
      .rw[cJ.o];rw[uI.o];exact zp9.o
      .exact zax.o
    .
      have uI:=aC (show kT d.r i Bs={d.r with recs:=d.r.recs.modify i (λz=>{z with t:=d.r.clk,e:=Bs}),wait:=dQ d.r.wait c} by unfold kT;rw[Yo.o.1];rfl);have Q5:=aC (show v9.sW=.slice (some ⟨gW,0,none⟩) d.r.wait.length cW from K6);clear zm7 zo8 K6;refine CW.sq H (CW.pW H xK A9 T9 λuE Q Cy rS wQ HQ=>?_);have Vx:=aC (Cy▸X6.o);have k7:uE.cell? ⟨hb,7,none⟩=some (.slice (some ⟨gW,0,none⟩) d.r.wait.length cW):=by
       have:=aJ rS.o.blk 7;rw[this,<-Q5.o];rfl
      have Rg:=aC (show uE.ownsRow lo 124 2 (.slice (some ⟨gW,0,none⟩) d.r.wait.length cW) d.r.wait.length (bF d.r.wait) by have:=rS.o.W;rw[Q5.o] at this;exact this)
      go_wp2_with (go_at_call 80;refine(zEk Rg.o aD Vx.o).mono ?_;rintro en y9 ⟨nW,rfl,zsi,Hf,H8⟩;have Ax:uE.grownBy y9 v9.sW.ownBlock:=(by rw[Q5.o];exact H8);have hq:=(rS.o.other (j:=5) (c:=7) (x:=v9.sW) rfl aH Ax (.slice (some ⟨gW,0,none⟩) nW cW)).2;have Xw:=aJ (hq.trans rS.o.blk) 7;have kf:=eL (hq.trans rS.o.blk) 7;have Ae:=aC (And.intro Hf (And.intro Ax zsi));clear Hf H8 Ax hq zsi)
      refine HQ.o _ _ ?_;clear HQ;clear k7 Xw kf;obtain⟨a6,t6⟩:=rS.o.putW Ae.o.2.1 Ae.o.1 Ae.o.2.2 (.inl (by rw[Q5.o];rfl));have As:=rS;have D4:=wQ;obtain⟨La,Lm⟩:=aU (y9.setCell ⟨hb,7,none⟩ (.slice (some ⟨gW,0,none⟩) nW cW));have zbN:=aC (show bE La lo hb {v9 with sW:=.slice (some ⟨gW,0,none⟩) nW cW} {d with r:={d.r with recs:=d.r.recs.modify i (λz=>{z with t:=d.r.clk,e:=Bs}),wait:=dQ d.r.wait c}} by rw[Lm];exact a6);have zbt:=aC (show bL hb v w {v9 with sW:=.slice (some ⟨gW,0,none⟩) nW cW} La by rw[Lm];exact(wQ.o.trans t6));rw[<-Lm];clear Lm As D4;clear a6 t6 Ae rS wQ Vx;refine CW.sq H (CW.p0 H xK zbN zbt λzic zwC Zq zax=>?_);refine CW.rt H ?_;refine⟨.inr rfl,rfl,.string ⟨#[108,101,102,116]⟩,rfl,⟨by rw[mR.o];rfl,by rw[cJ.o],{v9 with sW:=.slice (some ⟨gW,0,none⟩) nW cW},?_,?_,?_,⟨P9.o.2.2.2.2.1,P9.o.2.2.2.2.2.1,P9.o.2.2.2.2.2.2.2.2.1,P9.o.2.2.2.2.2.2.2.2.2⟩⟩⟩
      .rw[cJ.o];rw[uI.o];exact Zq.o
      .rw[cJ.o];rw[uI.o];refine fT.of zp9.o ?_ ?_ ?_ ?_ ?_<;>rfl
      .exact zax.o
  .
    have Bt:0<x.o:=aD;obtain⟨q,zxe⟩:∃q:Nat,x.o=(q:Int)+1:=⟨(x.o-1).toNat,aD⟩;have hq:q<d.qn.length:=aD;have x6:q<=100:=by have:=Qu.o.2.2.2.1;omega
    have zfZ:dQ d.r.wait c=d.r.wait:=zJi λy hy e=>by
     obtain⟨j,z,h1,h2,h3,h4⟩:=HI.o.S.wt y hy;have:=HI.o.S.opn i j x z HX.o h1 Vp.o.2 h2 (.inl (by rw[Vp.o.1,h3,e]));subst this;rw[HX.o] at h1;injection h1 with h1;rw[<-h1] at h4;exact hz h4
    have cJ:=aC (show l7 d.r c=(kT d.r i Gv,[100,111,110,101]) by unfold l7;rw[uJ.o];simp only;rw[Yo.o.2,if_pos Bt]);have mR:=aC (show Cq d.r c=[.ask q 1 0 0] by unfold Cq;rw[uJ.o];simp only;rw[Yo.o.2,if_pos Bt,zxe,Lc]);have uI:=aC (show kT d.r i Gv={d.r with recs:=d.r.recs.modify i λz=>{z with t:=d.r.clk,e:=Gv}} by unfold kT;rw[Yo.o.1,zfZ];rfl);have zcB:e.W[k]? =some (.ask q 1 0 0):=by have:=HW.o;rw[mR.o] at this;exact this.head
    rw[zxe];have zzs:((q:Int)+1 !=0)=true:=by have:(q:Int)+1≠0:=aD;simpa using this
    have zD4:¬(q:Int)+1=0:=aD;clear hz Bt zfZ;refine CW.pW H xK A6 T6 λw7 Q qT A7 T7 HQ=>?_;have Fb:=aC (qT▸Ko.o);go_wp2;refine HQ.o _ _ ?_;clear HQ
    try simp only[zD4,not_false_eq_true,decide_true,bne_iff_ne,ne_eq]
    refine CW.cond H (t:=true) rfl (by first|rfl|exact congrArg Nd zzs) ?_;refine CW.sq H ?_;refine CW.rg H [0,1,2] ?_;refine CR.mv H (.pointer (some ⟨hb,0,none⟩)) ?_;refine CR.mv H (.int .i64 ((q:Int)+1)) ?_;refine CR.cl H (zbf H A7.o zcB hq x6 hK) (λK' l' y w' hl oN=>?_);obtain⟨rfl,rfl,p8⟩:=oN;simp only[b7,gK,dV,dX];have A8:=aC (show bE w' lo hb v d by rw[p8];exact A7.o.alloc _);have T8:=aC (show bL hb v w v w' by rw[p8];exact T7.o.trans (bL.below (dO (eR _ _) _)));have Iu:=aC (show w'.heap[gx]? =some (.cells #[.int .i64 c] 3) by rw[p8];exact dF Fb.o _);clear p8 A7 T7 Fb;refine CR.nil H ?_;refine CW.sq H (CW.pW H xK A8 T8 λw9 Q Hg A9 T9 HQ=>?_);have X6:=aC (Hg▸Iu.o);have kx:=aJ X6.o 0
    go_wp2_with (go_at_call 79;refine(zlF (e:=⟨#[100,111,110,101]⟩) A9.o HX.o HL.o.2.1 HL.o.2.2.2 HL.o.2.2.1 HR.o).mono ?_;rintro en uE ⟨rfl,v10,a5,t5,p5⟩;have rS:=aC a5;have wQ:=aC (T9.o.trans t5);have zfJ:=aC p5;have zrk:=aC t5;clear a5 t5 p5)
    refine HQ.o _ _ ?_;clear HQ;clear kx;have zBy:=aC (fT.of (v':=v10) (MR.o.clear HI.o.S HI.o.ndl (λz hz=>(HI.o.lb z hz).1) HX.o Vp.o.2 HL.o.1 (f:=λz=>{z with t:=d.r.clk,e:=Gv}) (λz=>⟨rfl,rfl⟩) zdX) zfJ.o.1 (by rw[zfJ.o.2.1,Vp.o.1]) zfJ.o.2.2.1 rfl rfl);obtain⟨kg,np⟩:=A9.o.turned zrk.o X6.o NP.o;have Vx:=aC kg;have zJJ:=aC np;clear kg np zrk A9 T9 X6;refine CW.sq H (CW.p0 H xK rS wQ λy9 zBG As D4=>?_);refine CW.rt H ?_;refine⟨.inr rfl,rfl,.string ⟨#[100,111,110,101]⟩,rfl,⟨by rw[mR.o];rfl,by rw[cJ.o],v10,?_,?_,?_,B4.kept zfJ.o.2.2.2.2⟩⟩
    .rw[cJ.o];rw[uI.o];exact As.o
    .rw[cJ.o];rw[uI.o];exact zBy.o
    .exact D4.o
section
variable {p:bS}{o:aY}{ρ:cM->aF}{w w':aE}
variable {t e:aM}{sz:Nat}{ie:wI}
theorem zrW {x y:cM}{A:Option bO}{n c i:Nat}(ho:o.op=.slice t x (some y) none none)(hu:p.underlying t=some (.slice e))(hi:p.info? e=some ie)(hz:ie.size=sz)(hx:ρ x=.slice A n c)(hy:ρ y=.int .i64 (i:Int))(nV:i<=n):
 (aO ρ o).run p w=.ok (.value (.slice (if c=i then A else A.map (·.add (i*sz))) (n-i) (c-i))) w:=by
 obtain⟨dst,yF,type,pos,after,guard⟩:=o;simp only at ho;subst ho;have h0:(0:Int)<=(i:Int):=aD;have h1:(i:Int)<=(n:Int):=aD;simp[aO,Ui,Ub,Xp,Lg,hx,hy,wU hu,sizeOf,typeInfo,hi,hz,asIntOf,h0,h1];exact λh=>absurd h aD
variable {j:Int}
theorem Ss {x y:cM}{g off n c i:Nat}(ho:o.op=.slice t x (some y) none none)(hu:p.underlying t=some (.slice e))(hi:p.info? e=some ie)(hz:ie.size=sz)(hx:ρ x=.slice (some ⟨g,0,none⟩) n c)(hy:ρ y=.int .i64 j)(hj:j=(i:Int))(nV:i<=n)(yB:i<c)(zCL:off=i*sz){n' c':Nat}(vB:n'=n-i)(kF:c'=c-i):
 (aO ρ o).run p w=.ok (.value (.slice (some ⟨g,off,none⟩) n' c')) w:=by
 subst zCL vB kF hj;rw[zrW ho hu hi hz hx hy nV,if_neg aD];simp[Jt]
theorem zvQ {x y:cM}{g n c i:Nat}(ho:o.op=.slice t x none (some y) none)(hu:p.underlying t=some (.slice e))(hi:p.info? e=some ie)(hz:ie.size=sz)(hx:ρ x=.slice (some ⟨g,0,none⟩) n c)(hy:ρ y=.int .i64 j)(hj:j=(i:Int))(yB:i<=c):
 (aO ρ o).run p w=.ok (.value (.slice (some ⟨g,0,none⟩) i c)) w:=by
 subst hj;obtain⟨dst,yF,type,pos,after,guard⟩:=o;simp only at ho;subst ho;have h0:(0:Int)<=(i:Int):=aD;have h1:(i:Int)<=(c:Int):=aD;simp[aO,Ui,Ub,Xp,Lg,hx,hy,wU hu,sizeOf,typeInfo,hi,hz,asIntOf,h0,h1,Jt];exact λh=>absurd h aD
theorem Wb {s x:cM}{tn:aM}{a b v:aF}{w':aE}(ho:o.op=.call ⟨.builtin .append,#[s,x],#[t,tn]⟩)(hs:ρ s=a)(hx:ρ x=b)(hr:(Builtin.append_ #[t,tn] o.type #[a,b]).run p w=.ok v w'):(aO ρ o).run p w=.ok (.value v) w':=by
 unfold aO;simp only[ho,resolve,invoke,builtin,Sem.run_bind,Sem.run_pure,Result.andThen_ok,uG,fG,tH,hs,hx,hr]
end
theorem X8:∃ie,aK.info? 124=some ie/\ie.zero=some (.agg #[.int .i64 0,.int .i64 0])/\ie.size=2/\ie.bytes=16:=by
 obtain⟨i0,hi,jJ,eE,kZ⟩:=info_parts zcg;exact⟨i0,hi,jJ,eE,kZ⟩
def xA:aK.underlying 51=some (.slice 124):=aS
def Tq:Go.Code:=(Tryd.f74.body).getD .skip
def rIN7:Go.Code:=match Tq with| .seq _ (.seq _ (.seq _ (.seq _ (.seq _ (.seq (.seq _ (.cond _ (.seq (a) _) _)) _)))))=>a|_=>.skip
def rIN9:Go.Code:=match Tq with| .seq _ (.seq _ (.seq _ (.seq _ (.seq _ (.seq _ (.seq (.seq _ (.cond _ (.seq (a) _) _)) _))))))=>a|_=>.skip
def rIN10:Go.Code:=match Tq with| .seq _ (.seq _ (.seq _ (.seq _ (.seq _ (.seq _ (.seq (.seq _ (.cond _ (.seq _ (.seq (a) _)) _)) _))))))=>a|_=>.skip
def rIN11:Go.Code:=match Tq with| .seq _ (.seq _ (.seq _ (.seq _ (.seq _ (.seq _ (.seq (.seq _ (.cond _ (.seq _ (.seq _ (.seq (a) _))) _)) _))))))=>a|_=>.skip
def rIN14:Go.Code:=match Tq with| .seq _ (.seq _ (.seq _ (.seq _ (.seq _ (.seq _ (.seq _ (.seq _ (.seq (.seq (a) _) _))))))))=>a|_=>.skip
def rIN15:Go.Code:=match Tq with| .seq _ (.seq _ (.seq _ (.seq _ (.seq _ (.seq _ (.seq _ (.seq _ (.seq (.seq _ (.cond _ (.seq (a) _) _)) _))))))))=>a|_=>.skip
def rIN16:Go.Code:=match Tq with| .seq _ (.seq _ (.seq _ (.seq _ (.seq _ (.seq _ (.seq _ (.seq _ (.seq (.seq _ (.cond _ (.seq _ (.seq (a) _)) _)) _))))))))=>a|_=>.skip
def opsIN7:Array Oper:=match rIN7 with| .region _ ops _=>ops|_=>#[]
abbrev oIN7_2:Oper:=⟨some 25,.call ⟨.builtin .append,#[.tmp 23,.tmp 24],#[51,51]⟩,51,"slices.go:145",#[⟨0,.data⟩,⟨1,.data⟩],none⟩
def zzS:opsIN7[2]? =some oIN7_2:=rfl
def opsIN9:Array Oper:=match rIN9 with| .region _ ops _=>ops|_=>#[]
abbrev oIN9_8:Oper:=⟨some 40,.call ⟨.builtin .append,#[.tmp 34,.tmp 39],#[51,3]⟩,51,"slices.go:152",#[⟨2,.data⟩,⟨7,.data⟩],none⟩
def zzA:opsIN9[8]? =some oIN9_8:=rfl
def zBs:Array Oper:=match rIN10 with| .region _ ops _=>ops|_=>#[]
abbrev zIW:Oper:=⟨some 45,.call ⟨.builtin .copy,#[.tmp 43,.tmp 44],#[51,51]⟩,3,"slices.go:153",#[⟨2,.data⟩,⟨3,.data⟩],none⟩
def zxH:zBs[4]? =some zIW:=rfl
def zHf:Array Oper:=match rIN14 with| .region _ ops _=>ops|_=>#[]
abbrev zHz:Oper:=⟨some 67,.call ⟨.value (.func 84),#[.tmp 61,.tmp 66],#[51,51]⟩,4,"slices.go:173",#[⟨0,.data⟩,⟨5,.data⟩],none⟩
def zIA:zHf[6]? =some zHz:=rfl
def zJm:Array Oper:=match rIN16 with| .region _ ops _=>ops|_=>#[]
abbrev zDM:Oper:=⟨some 82,.call ⟨.builtin .copy,#[.tmp 80,.tmp 81],#[51,51]⟩,3,"slices.go:186",#[⟨2,.data⟩,⟨3,.data⟩],none⟩
def zAc:zJm[4]? =some zDM:=rfl
def zeM:Array Oper:=match rIN11 with| .region _ ops _=>ops|_=>#[]
def zxd:zeM.toList=[⟨some 46,.move (.tmp 9),51,"slices.go:154",#[],none⟩,⟨some 47,.move (.tmp 1),3,"slices.go:154",#[],none⟩,⟨some 48,.move (.tmp 7),3,"slices.go:154",#[],none⟩,⟨some 49,.binOp .add 3 (.tmp 47) (.tmp 48) 3,3,"slices.go:154",#[⟨1,.data⟩,⟨2,.data⟩],none⟩,⟨some 50,.slice 51 (.tmp 46) (some (.tmp 49)) none none,51,"slices.go:154",#[⟨0,.data⟩,⟨3,.data⟩],none⟩,⟨some 51,.move (.tmp 0),51,"slices.go:154",#[],none⟩,⟨some 52,.move (.tmp 1),3,"slices.go:154",#[],none⟩,⟨some 53,.slice 51 (.tmp 51) (some (.tmp 52)) none none,51,"slices.go:154",#[⟨5,.data⟩,⟨6,.data⟩],none⟩,⟨some 54,.call ⟨.builtin .copy,#[.tmp 50,.tmp 53],#[51,51]⟩,3,"slices.go:154",#[⟨4,.data⟩,⟨7,.data⟩],none⟩]:=rfl
def zfk:Array Oper:=match rIN15 with| .region _ ops _=>ops|_=>#[]
def ztB:zfk.toList=[⟨some 69,.move (.tmp 0),51,"slices.go:178",#[],none⟩,⟨some 70,.move (.tmp 1),3,"slices.go:178",#[],none⟩,⟨some 71,.move (.tmp 7),3,"slices.go:178",#[],none⟩,⟨some 72,.binOp .add 3 (.tmp 70) (.tmp 71) 3,3,"slices.go:178",#[⟨1,.data⟩,⟨2,.data⟩],none⟩,⟨some 73,.slice 51 (.tmp 69) (some (.tmp 72)) none none,51,"slices.go:178",#[⟨0,.data⟩,⟨3,.data⟩],none⟩,⟨some 74,.move (.tmp 0),51,"slices.go:178",#[],none⟩,⟨some 75,.move (.tmp 1),3,"slices.go:178",#[],none⟩,⟨some 76,.slice 51 (.tmp 74) (some (.tmp 75)) none none,51,"slices.go:178",#[⟨5,.data⟩,⟨6,.data⟩],none⟩,⟨some 77,.call ⟨.builtin .copy,#[.tmp 73,.tmp 76],#[51,51]⟩,3,"slices.go:178",#[⟨4,.data⟩,⟨7,.data⟩],none⟩]:=rfl
def Zf:vK aK 74:=⟨_,zsM,.inr (.inl ⟨_,rfl⟩)⟩
def WIN11 (w w3:aE)(g1 n1 c1 g n c ix:Nat)(vc:aF):Nat->aE
 |0=>w.drew
 |_=>w3
theorem zuF:zeM.toList.map (·.dst)=[some 46,some 47,some 48,some 49,some 50,some 51,some 52,some 53,some 54]:=by rw[zxd];rfl
def lIN11 (w w3:aE)(g1 n1 c1 g n c ix:Nat)(vc:aF):List Value:=[.slice (some ⟨g1,0,none⟩) n1 c1,.int .i64 ((ix:Nat)),.int .i64 (1),.int .i64 (((ix+1:Nat):Int)),.slice (some ⟨g1,(ix+1)*2,none⟩) (n1-(ix+1)) (c1-(ix+1)),.slice (some ⟨g,0,none⟩) n c,.int .i64 ((ix:Nat)),.slice (some ⟨g,ix*2,none⟩) (n-ix) (c-ix),vc]
def zlC (w w3:aE)(g1 n1 c1 g n c ix:Nat)(vc:aF)(i:Nat):Value:=(lIN11 w w3 g1 n1 c1 g n c ix vc).getD i aA
variable {d:List Deferred}{Q:nQ->tE->aE->Prop}{t0:Array aF}
theorem zGu (w w3:aE)(g1 n1 c1 g n c ix:Nat)(vc:aF)(hz:t0.size=95)(tX:t0.getD 0 aA=.slice (some ⟨g,0,none⟩) n c)(Eu:t0.getD 1 aA=.int .i64 ((ix:Nat)))(Dy:t0.getD 7 aA=.int .i64 (1))(zi8:t0.getD 9 aA=.slice (some ⟨g1,0,none⟩) n1 c1)(hb:ix+1<=n1/\ix+1<c1/\ix<=n/\ix<c/\ix<=100000)(mQ:(C8 #[51,51] 3 #[.slice (some ⟨g1,(ix+1)*2,none⟩) (n1-(ix+1)) (c1-(ix+1)),.slice (some ⟨g,ix*2,none⟩) (n-ix) (c-ix)]).run aK w.drew=.ok vc w3)(h0:WIN11 w w3 g1 n1 c1 g n c ix vc 0=w.drew)(hk:Q .normal ⟨cZ zeM (zlC w w3 g1 n1 c1 g n c ix vc) t0,d⟩ (w3)):
 (Dl 11 zeM true).wp aK Q ⟨t0,d⟩ w:=by
 refine Ho (ws:=[8]) (Wd:=WIN11 w w3 g1 n1 c1 g n c ix vc) (vals:=zlC w w3 g1 n1 c1 g n c ix vc) vD.mixed aS aH aS h0 Ih (λV hU hV=>?_) hk;obtain⟨Vm,Zs,zkZ,X1,zf7,Vl,X4,zmd,znl,-⟩:=Hn zuF hU;have e0:=(hV 0 aS).trans tX;have e1:=(hV 1 aS).trans Eu;have e7:=(hV 7 aS).trans Dy;have e9:=(hV 9 aS).trans zi8;refine λTf hT=>Hz zxd ⟨bP.pv,bP.pv,bP.pv,bP.any (λkk fJ hm=>?_),bP.any (λkk fJ hm=>?_),bP.pv,bP.pv,bP.any (λkk fJ hm=>?_),bP.act (v:=V 54) 0 rfl (dU rfl) ?_,trivial⟩
 .have i0:=hb.2.2.2.2
  unfold aO;go_simp;first|(push_cast;exact Ep aD aD)|(push_cast;rw[Ep aD aD])|trace_state
 .obtain⟨ie,jL,_,cH,_⟩:=X8
  exact Ss rfl xA jL cH (nK hT Vm) (nK hT X1) rfl hb.1 hb.2.1 rfl rfl rfl
 .obtain⟨ie,jL,_,cH,_⟩:=X8
  exact Ss rfl xA jL cH (nK hT Vl) (nK hT X4) rfl hb.2.2.1 hb.2.2.2.1 rfl rfl rfl
 .rw[znl];exact zgq rfl (nK hT zf7) (nK hT zmd) mQ
def WIN15 (w w3:aE)(g n c ix:Nat)(vc:aF):Nat->aE
 |0=>w.drew
 |_=>w3
theorem zrM:zfk.toList.map (·.dst)=[some 69,some 70,some 71,some 72,some 73,some 74,some 75,some 76,some 77]:=by rw[ztB];rfl
def lIN15 (w w3:aE)(g n c ix:Nat)(vc:aF):List Value:=[.slice (some ⟨g,0,none⟩) n c,.int .i64 ((ix:Nat)),.int .i64 (1),.int .i64 (((ix+1:Nat):Int)),.slice (some ⟨g,(ix+1)*2,none⟩) (n-(ix+1)) (c-(ix+1)),.slice (some ⟨g,0,none⟩) n c,.int .i64 ((ix:Nat)),.slice (some ⟨g,ix*2,none⟩) (n-ix) (c-ix),vc]
def zmA (w w3:aE)(g n c ix:Nat)(vc:aF)(i:Nat):Value:=(lIN15 w w3 g n c ix vc).getD i aA
theorem zBL (w w3:aE)(g n c ix:Nat)(vc:aF)(hz:t0.size=95)(tX:t0.getD 0 aA=.slice (some ⟨g,0,none⟩) n c)(Eu:t0.getD 1 aA=.int .i64 ((ix:Nat)))(Dy:t0.getD 7 aA=.int .i64 (1))(hb:ix+1<=n/\ix+1<c/\ix<=n/\ix<c/\ix<=100000)(mQ:(C8 #[51,51] 3 #[.slice (some ⟨g,(ix+1)*2,none⟩) (n-(ix+1)) (c-(ix+1)),.slice (some ⟨g,ix*2,none⟩) (n-ix) (c-ix)]).run aK w.drew=.ok vc w3)(h0:WIN15 w w3 g n c ix vc 0=w.drew)(hk:Q .normal ⟨cZ zfk (zmA w w3 g n c ix vc) t0,d⟩ (w3)):
 (Dl 15 zfk true).wp aK Q ⟨t0,d⟩ w:=by
 refine Ho (ws:=[8]) (Wd:=WIN15 w w3 g n c ix vc) (vals:=zmA w w3 g n c ix vc) vD.mixed aS aH aS h0 Ih (λV hU hV=>?_) hk;obtain⟨zCN,zKo,zLk,zHx,zCV,zIS,zF5,zzL,zHk,-⟩:=Hn zrM hU;have e0:=(hV 0 aS).trans tX;have e1:=(hV 1 aS).trans Eu;have e7:=(hV 7 aS).trans Dy;refine λTf hT=>Hz ztB ⟨bP.pv,bP.pv,bP.pv,bP.any (λkk fJ hm=>?_),bP.any (λkk fJ hm=>?_),bP.pv,bP.pv,bP.any (λkk fJ hm=>?_),bP.act (v:=V 77) 0 rfl (dU rfl) ?_,trivial⟩
 .have i0:=hb.2.2.2.2
  unfold aO;go_simp;first|(push_cast;exact Ep aD aD)|(push_cast;rw[Ep aD aD])|trace_state
 .obtain⟨ie,jL,_,cH,_⟩:=X8
  exact Ss rfl xA jL cH (nK hT zCN) (nK hT zHx) rfl hb.1 hb.2.1 rfl rfl rfl
 .obtain⟨ie,jL,_,cH,_⟩:=X8
  exact Ss rfl xA jL cH (nK hT zIS) (nK hT zF5) rfl hb.2.2.1 hb.2.2.2.1 rfl rfl rfl
 .rw[zHk];exact zgq rfl (nK hT zCV) (nK hT zzL) mQ
variable {c1 c2:List aF}
theorem ins_up {c0 a b xx:List aF}(ha:c0.take a.length=a)(hl:a.length+xx.length+b.length<=c0.length)(h1:c1=c0.take a.length++xx++c0.drop (a.length+xx.length))(h2:c2=c1.take (a.length+xx.length)++b++c1.drop (a.length+xx.length+b.length)):
 c2.take (a.length+xx.length+b.length)=a++xx++b/\c2.length=c0.length:=by
 have e1:c1.take (a.length+xx.length)=a++xx:=by
  rw[h1,ha,Dp (by rw[gJ];exact aZ _),yR (by rw[gJ];exact aZ _)]
 have l1:c1.length=c0.length:=by rw[h1,ha];simp only[gJ,xS];omega
 rw[h2,e1];refine⟨?_,?_⟩
 .rw[Dp zel,yR zel]
 .simp only[gJ,xS];omega
theorem zCh {c0 a b xx:List aF}(ha:c0.take a.length=a)(hl:a.length+xx.length+b.length<=c0.length)(h1:c1=c0.take (a.length+xx.length)++b++c0.drop (a.length+xx.length+b.length))(h2:c2=c1.take a.length++xx++c1.drop (a.length+xx.length)):
 c2.take (a.length+xx.length+b.length)=a++xx++b/\c2.length=c0.length:=by
 have lt:(c0.take (a.length+xx.length)).length=a.length+xx.length:=by rw[rJ];omega
 have e1:c1.take a.length=a:=by
  rw[h1,G8,Dp aD,Nv,zxl aD,ha]
 have e2:c1.drop (a.length+xx.length)=b++c0.drop (a.length+xx.length+b.length):=by
  rw[h1,G8,List.drop_append_of_le_length aD,zsp aD,List.nil_append]
 rw[h2,e1,e2];refine⟨?_,?_⟩
 .rw[<-G8,Dp zel,yR zel]
 .simp only[gJ,xS];omega
theorem zjZ (xs:List bJ)(x:bJ)(i:Nat):bF (xs.take i++x::xs.drop i)=(bF xs).take (i*2)++x.cells++(bF xs).drop (i*2):=by
 have h1:(bF xs).take (i*2)=bF (xs.take i):=by
  induction xs generalizing i with
  |nil=>simp[bF]
  |cons y ys ih=>
   cases i with
   |zero=>simp[bF]
   |succ i=>
    have:bF (y::ys)=y.cells++bF ys:=by simp[bF]
    rw[this,List.take_succ_cons,show(i+1)*2=y.cells.length+i*2 by simp[bJ.cells];omega,List.take_length_add_append,ih i];simp[bF]
 have h2:(bF xs).drop (i*2)=bF (xs.drop i):=by
  clear h1
  induction xs generalizing i with
  |nil=>simp[bF]
  |cons y ys ih=>
   cases i with
   |zero=>simp[bF]
   |succ i=>
    have:bF (y::ys)=y.cells++bF ys:=by simp[bF]
    rw[this,List.drop_succ_cons,show(i+1)*2=y.cells.length+i*2 by simp[bJ.cells];omega,List.drop_length_add_append,ih i]
 rw[h1,h2];simp[bF]
structure Grew (w w':aE)(r:Option Nat):Prop where
 size:w.heap.size<=w'.heap.size
 block:∀b,b<w.heap.size->¬some b=r->w'.heap[b]? =w.heap[b]?
theorem ov_fn:OvFn aK 84 51 4 124 2:=by
 obtain⟨ie,jL,_,cH,_⟩:=X8;exact⟨⟨_,Tryd.func84,aH,rfl,aS,aS⟩,xA,⟨ie,jL,cH⟩⟩
variable {A:Option bO}{l:gE}
theorem zIn (H:e.d.Ok){gv c:Nat}{x:bJ}(h:w.ownsRow lo 124 2 (.slice A n c) n (bF xs))(dY:lo<=w.heap.size)(hn:n<=1000)(hi:i<=n)(hv:w.heap[gv]? =some (.cells #[.int .i64 x.c,.int .i64 x.p] 124))(aT:(Sm A n c).ownBlock≠some gv):
 CF e.d 74 #[.slice A n c,.int .i64 (i:Int),.slice (some ⟨gv,0,none⟩) 1 1] K l w (λK' l' y w'=>l'=l/\∃g2 c2,y=.slice (some ⟨g2,0,none⟩) (n+1) c2/\w'.ownsRow lo 124 2 (.slice (some ⟨g2,0,none⟩) (n+1) c2) (n+1) (bF (xs.take i++x::xs.drop i))/\Grew w w' (Sm A n c).ownBlock/\(some g2=(Sm A n c).ownBlock\/w.heap.size<=g2)):=by
 refine CF.of 95 zsM (.inr (.inl ⟨_,rfl⟩)) ?_;obtain⟨ie,jL,jJ,cH,uA⟩:=X8;have zkW:xs.length=n:=by have h1:=h.1;have h2:(bF xs).length=xs.length*2:=Er bJ.cells (s:=2) (λ_=>rfl) xs;omega
 have h1:(1:Nat)<=1:=aZ 1;refine CW.sq H ?_;refine CW.pQ H Zf (λzfH Q HQ=>?_);go_wp2;refine HQ.o _ _ ?_;clear HQ;refine CW.tape (s:=⟨[],K,l,_,w⟩) ?_ zfH 0;refine CW.sq H ?_;refine CW.rg H [0,1,2] ?_;refine CR.mv H (.slice A n c) ?_;refine CR.mv H (.int .i64 (i:Int)) ?_;refine CR.mv H (.slice (if c=i then A else A.map (·.add (i*2))) (n-i) (c-i)) ?_ (hx:=λT=>by exact zrW rfl xA jL cH rfl rfl hi);refine CR.nil H ?_;refine CW.sq H ?_;refine CW.rg H [0,1,2] ?_;refine CR.mv H (.slice (some ⟨gv,0,none⟩) 1 1) ?_;refine CR.mv H (.int .i64 1) ?_ (hx:=λT=>by exact zw6 rfl xA rfl);refine CR.mv H (.int .i64 1) ?_;refine CR.nil H ?_;refine CW.sq H ?_;refine CW.sq H ?_;refine CW.rg H [0,1] ?_;refine CR.mv H (.int .i64 1) ?_;refine CR.mg H (.bool false) ?_;refine CR.nil H ?_;refine CW.cd H false ?_;refine CW.sk H ?_;dsimp only;refine CW.sq H ?_;refine CW.rg H [0,1,2] ?_;refine CR.mv H (.slice A n c) ?_;refine CR.mv H (.int .i64 (n:Int)) ?_ (hx:=λT=>by exact zw6 rfl xA rfl);refine CR.mv H (.int .i64 (n:Int)) ?_;refine CR.nil H ?_;refine CW.sq H ?_;refine CW.sq H ?_;refine CW.rg H [0,1,2] ?_;refine CR.mv H (.int .i64 (i:Int)) ?_;refine CR.mv H (.int .i64 (n:Int)) ?_;by_cases nV:i=n
 .
   subst nV;clear hi;refine nP ?_;refine CR.mg H (.bool true) ?_;refine CR.nil H ?_;refine CW.cd H true ?_;refine CW.sq H ?_;refine CW.rg H [0,1,2,3] ?_;refine CR.mv H (.slice A i c) ?_;refine CR.mv H (.slice (some ⟨gv,0,none⟩) 1 1) ?_;refine CR.op H zzS rfl aS (λT=>?_);obtain⟨q1,q2,w5,fH,cP,mU,eY⟩:=L5 (w:=Tt.tp w T 0) (t:=51) (ty:=51) zcg xA rfl aH (cI h λb e=>rfl) (g:=gv) (cs:=#[.int .i64 x.c,.int .i64 x.p]) (news:=bJ.cells x) hv rfl (m:=1) rfl aH Ru aD aH dY;refine⟨.slice (some ⟨q1,0,none⟩) (i+1) q2,w5,.inl (Wb rfl rfl rfl fH),?_⟩;simp only[b7,gK,dV,dX];refine nP ?_;refine CR.mv H (.slice (some ⟨q1,0,none⟩) (i+1) q2) ?_;refine CR.nil H ?_;refine CW.rt H ?_;refine⟨.inr rfl,rfl,.slice (some ⟨q1,0,none⟩) (i+1) q2,rfl,rfl,q1,q2,rfl,?_,⟨mU.size,mU.block⟩,?_⟩
   .rw[zjZ,yR zqR,zsp zqR,List.append_nil]
    exact cP
   .exact eY.imp id λhh=>hh q1 rfl
 .
   have aP:i<n:=aD;have zy9:(i:Int)<(n:Int):=aD;have zLP:¬(i:Int)=(n:Int):=aD;refine nP ?_;refine CR.mg H (.bool false) ?_;refine CR.nil H ?_;refine CW.cd H false ?_;refine CW.sk H ?_;dsimp only;obtain⟨hlen,Wt|⟨g,cap,cur,G3,zyU,hg,Wu,q8,fP,lI⟩⟩:=id h
   .exfalso;have:=Wt.2;omega
   injection G3 with e1 e2 e3;subst e1 e3;clear e2;have Aa:gv≠g:=λe=>aT (by rw[e];rfl);have mF:cur.toList.length=c*2:=by simpa using fP
   have la:((bF xs).take (i*2)).length=i*2:=by rw[rJ,hlen];omega
   have lb:((bF xs).drop (i*2)).length=(n-i)*2:=by rw[xS,hlen];omega
   have Qm:∀j u,(bF xs)[j]? =some u->cur[j]? =some u:=λj u hj=>by
    rw[<-lI,Uz] at hj;split at hj
    .rw[<-zR];exact hj
    .cases hj
   have zFN:cur.toList.take (i*2)=(bF xs).take (i*2):=by rw[<-lI,Nv];congr 1;omega
   have one:=U0 xs;refine CW.sq H ?_;refine CW.sq H ?_;refine CW.rg H [0,1,2,3,4,5] ?_;refine CR.mv H (.int .i64 (n:Int)) ?_;refine CR.mv H (.int .i64 1) ?_;refine CR.mv H (.int .i64 ((n+1:Nat):Int)) ?_ (hx:=λT=>by unfold aO;go_simp;first|(push_cast;exact Ep aD aD)|(push_cast;rw[Ep aD aD])|trace_state);refine CR.mv H (.slice (some ⟨g,0,none⟩) n c) ?_;refine CR.mg H (.int .i64 (c:Int)) ?_;by_cases zL6:n+1>c
   .
     have zFb:(c:Int)<((n+1:Nat):Int):=aD;refine nP ?_;refine CR.mv H (.bool true) ?_ (hx:=λT=>by unfold aO;go_simp;try omega);refine CR.nil H ?_;refine CW.cd H true ?_;refine CW.sq H ?_;refine CW.rg H [0,1,2,3,4,5,6,7,8,9] ?_;refine CR.mv H (.slice (some ⟨g,0,none⟩) n c) ?_;refine CR.mv H (.int .i64 (i:Int)) ?_;refine CR.mv H (.slice (some ⟨g,0,none⟩) i c) ?_ (hx:=λT=>by exact zvQ rfl xA jL cH rfl rfl rfl aD);refine CR.mv H (.int .i64 (n:Int)) ?_;refine CR.mv H (.int .i64 1) ?_;refine CR.mv H (.int .i64 ((n+1:Nat):Int)) ?_ (hx:=λT=>by unfold aO;go_simp;first|(push_cast;exact Ep aD aD)|trace_state);refine CR.mv H (.int .i64 (i:Int)) ?_;refine CR.mv H (.int .i64 ((n+1-i:Nat):Int)) ?_ (hx:=λT=>by unfold aO;go_simp;first|(rw[Ep aD aD];omega)|trace_state);refine CR.op H zzA rfl aS (λT=>?_);have hold:(Sl ie.size i (.slice (some ⟨g,0,none⟩) i c)).run aK (Tt.tp w T 0).drew=.ok ((bF xs).take (i*2)).toArray (Tt.tp w T 0).drew:=by
      have hl:=run_loadCells_list (P:=aK) (Tt.tp w T 0).drew ⟨g,0,none⟩ ((bF xs).take (i*2)) (λj u hj=>by
       rw[Jt,rL];have O8:(bF xs)[j]? =some u:=by
        rw[Uz] at hj;split at hj
        .exact hj
        .cases hj
       exact(aJ (w:=w) hg j).trans (Qm j u O8))
      rw[la] at hl;simp[Sl,cH,hl]
     have fH:=Lib.run_append_grow_zeros (P:=aK) (Tt.tp w T 0) 51 3 51 124 ie _ .i64 .i64 xA Kv jL jJ (some ⟨g,0,none⟩) i c ((bF xs).take (i*2)) hold (n+1-i) aD aD aD aD (by rw[uA];omega) (by rw[uA];exact growslice_fits aD aD);obtain⟨c2,nI⟩:=aU (grownCap (Tt.tp w T 0) (i+(n+1-i)) c 124);have B8:n+1<=c2:=by have:=grownCap_ge (Tt.tp w T 0) (i+(n+1-i)) c 124;omega
     have hle:c2<=maxLen:=by rw[nI];exact grownCap_le_maxLen _ _ _ _ V8
     obtain⟨Bb,zfP⟩:=aU (((bF xs).take (i*2)).toArray++pS (.agg #[.int .i64 0,.int .i64 0]:aF).cells (n+1-i)++pS (.agg #[.int .i64 0,.int .i64 0]:aF).cells (c2-(i+(n+1-i))):Array aF);have Tg:Bb.toList.length=c2*2:=by
      have z1:(pS (.agg #[.int .i64 0,.int .i64 0]:aF).cells (n+1-i)).size=(n+1-i)*2:=Xz _ _;have z2:(pS (.agg #[.int .i64 0,.int .i64 0]:aF).cells (c2-(i+(n+1-i)))).size=(c2-(i+(n+1-i)))*2:=Xz _ _;rw[De,zfP,Ua,Ua,z1,z2,Ec,la];omega
     have zlG:Bb.toList.take (i*2)=(bF xs).take (i*2):=by
      rw[zfP,N5,N5,G8,Dp (by rw[la];exact aZ _),yR (by rw[la];exact aZ _)]
     rw[<-nI,<-zfP,show i+(n+1-i)=n+1 by omega] at fH;obtain⟨W1,dC⟩:=aU ((Tt.tp w T 0).drew.alloc (.cells Bb 124));rw[<-dC] at fH;have yA:W1.heap[w.heap.size]? =some (.cells Bb 124 (0,0)):=by rw[dC];exact lO _ _
     have zvE:∀b,b<w.heap.size->W1.heap[b]? =w.heap[b]? :=λb hb=>by rw[dC];exact Below.heap_alloc _ _ _ hb
     have eE:W1.heap.size=w.heap.size+1:=by rw[dC];exact qS _ _
     have ztJ:g<w.heap.size:=kU hg;have zuB:gv<w.heap.size:=kU hv;refine⟨.slice (some ⟨w.heap.size,0,none⟩) (n+1) c2,W1,.inl (Wb rfl rfl rfl fH),?_⟩;simp only[b7,gK,dV,dX];clear fH dC zfP hold nI;refine nP ?_;refine CR.mv H (.slice (some ⟨w.heap.size,0,none⟩) (n+1) c2) ?_;refine CR.nil H ?_;refine CW.sq H ?_;refine CW.rg H [0,1,2,3,4] ?_;refine CR.mv H (.slice (some ⟨w.heap.size,0,none⟩) (n+1) c2) ?_;refine CR.mv H (.int .i64 (i:Int)) ?_;refine CR.mv H (.slice (some ⟨w.heap.size,i*2,none⟩) (n+1-i) (c2-i)) ?_ (hx:=λT=>by exact Ss rfl xA jL cH rfl rfl rfl aD aD rfl rfl rfl);refine CR.mv H (.slice (some ⟨gv,0,none⟩) 1 1) ?_;refine CR.op H zxH rfl aS (λT2=>?_);have mQ:∀ty,(C8 #[51,51] ty #[.slice (some ⟨w.heap.size,i*2,none⟩) (n+1-i) (c2-i),.slice (some ⟨gv,0,none⟩) 1 1]).run aK (Tt.tp W1 T2 0)=.ok (goInt (zaD 1 (n+1-i))) ((Tt.tp W1 T2 0).setRow w.heap.size (Bb.toList.take (i*2)++x.cells++Bb.toList.drop (i*2+(x.cells).length)).toArray):=λty=>
      zcO (P:=aK) xA jL yA zpp (λj u hj=>by rw[Jt,rL];exact(aJ (w:=W1) ((zvE gv zuB).trans hv) j).trans (by rw[<-zR];exact hj)) (by rw[<-De,Tg];show i*2+2<=_;omega) Ru
     obtain⟨sP,Tn⟩:=aU ((Bb.toList.take (i*2)++x.cells++Bb.toList.drop (i*2+(x.cells).length)).toArray:Array aF);rw[<-Tn] at mQ;obtain⟨W2,qC⟩:=aU ((Tt.tp W1 T2 0).setRow w.heap.size sP);rw[<-qC] at mQ;have K3:W2.heap[w.heap.size]? =some (.cells sP 124 (0,0)):=by rw[qC];exact Jb (Tt.tp W1 T2 0) w.heap.size Bb sP 124 (0,0) yA
     have zfb:∀b,b<w.heap.size->W2.heap[b]? =w.heap[b]? :=λb hb=>by rw[qC];exact(zfW _ _ _ _ aD).trans (zvE b hb)
     have kZ:W2.heap.size=w.heap.size+1:=by rw[qC];simp[zfR];exact eE
     have vU:sP.toList.length=c2*2:=by rw[Tn];show(_++_++_:List aF).length=_;simp only[gJ,rJ,xS,Tg];show min (i*2) (c2*2)+2+(c2*2-(i*2+2))=_;omega
     refine⟨_,W2,.inl (zgq rfl rfl rfl (mQ _)),?_⟩;simp only[b7,gK,dV,dX];clear mQ qC;refine CR.nil H ?_;refine CW.sq H ?_;refine CW.pQ H Zf (λT3 Q HQ=>?_);have mQ:∀ty,(C8 #[51,51] ty #[.slice (some ⟨w.heap.size,(i+1)*2,none⟩) (n+1-(i+1)) (c2-(i+1)),.slice (some ⟨g,i*2,none⟩) (n-i) (c-i)]).run aK (Tt.tp W2 T3 0).drew=.ok (goInt (zaD (n-i) (n+1-(i+1)))) ((Tt.tp W2 T3 0).drew.setRow w.heap.size (sP.toList.take ((i+1)*2)++((bF xs).drop (i*2))++sP.toList.drop ((i+1)*2+(((bF xs).drop (i*2))).length)).toArray):=λty=>
      zcO (P:=aK) xA jL K3 (by rw[cH,lb,show n+1-(i+1)=n-i by omega];congr 1;exact(Nat.min_self _).symm) (λj u hj=>by rw[Jt];rw[Vf] at hj;exact(aJ (w:=W2) ((zfb g ztJ).trans hg) (i*2+j)).trans (Qm _ _ hj)) (by rw[<-De,vU,lb];omega) (λu hu=>one u (zcI hu))
     obtain⟨Hq,zcm⟩:=aU ((sP.toList.take ((i+1)*2)++((bF xs).drop (i*2))++sP.toList.drop ((i+1)*2+((bF xs).drop (i*2)).length)).toArray:Array aF);rw[<-zcm] at mQ;obtain⟨W3,rE⟩:=aU ((Tt.tp W2 T3 0).drew.setRow w.heap.size Hq);rw[<-rE] at mQ;have zc2:W3.heap[w.heap.size]? =some (.cells Hq 124 (0,0)):=by rw[rE];exact Jb (Tt.tp W2 T3 0).drew w.heap.size sP Hq 124 (0,0) K3
     have zdg:∀b,b<w.heap.size->W3.heap[b]? =w.heap[b]? :=λb hb=>by rw[rE];exact(zfW _ _ _ _ aD).trans (zfb b hb)
     have zjA:W3.heap.size=w.heap.size+1:=by rw[rE];simp[zfR];exact kZ
     obtain⟨Rf,Qc⟩:=ins_up (c0:=Bb.toList) (a:=(bF xs).take (i*2)) (b:=(bF xs).drop (i*2)) (xx:=x.cells) (c1:=sP.toList) (c2:=Hq.toList) (by rw[la];exact zlG) (by rw[la,lb,Tg];show i*2+2+_<=_;omega) (by rw[Tn,la]) (by rw[zcm,la,show i*2+x.cells.length=(i+1)*2 by show i*2+2=_;omega]);rw[Tg] at Qc;rw[la,lb,show i*2+x.cells.length+(n-i)*2=(n+1)*2 by show i*2+2+_=_;omega,<-zjZ] at Rf;have nZ:W3.ownsRow lo 124 2 (.slice (some ⟨w.heap.size,0,none⟩) (n+1) c2) (n+1) (bF (xs.take i++x::xs.drop i)):=⟨by rw[<-Rf,rJ,Qc];omega,.inr ⟨w.heap.size,c2,Hq,rfl,dY,zc2,B8,hle,by rw[<-De];exact Qc,Rf⟩⟩;refine zGu (Tt.tp W2 T3 0) W3 w.heap.size (n+1) c2 g n c i _ rfl rfl rfl rfl rfl ⟨aD,aD,aD,aD,aD⟩ (mQ _) rfl ?_;rw[Go.Mt.zY,zuF];simp only[Go.Mt.wO,dV,dX,zlC,lIN11,C4,Cm];show Q .normal _ W3;refine HQ.o _ _ ?_;clear HQ mQ rE;refine CW.sq H ?_;refine CW.pQ H Zf (λT4 Q HQ=>?_);go_wp2;refine HQ.o _ _ ?_;clear HQ;refine CW.rt H ?_;exact⟨.inr rfl,rfl,.slice (some ⟨w.heap.size,0,none⟩) (n+1) c2,rfl,rfl,w.heap.size,c2,rfl,cI nZ λb e=>rfl,⟨by show _<=W3.heap.size;omega,λb hb _=>zdg b hb⟩,.inr (aZ _)⟩
   .
     have zFb:¬(c:Int)<((n+1:Nat):Int):=aD;refine nP ?_;refine CR.mv H (.bool false) ?_ (hx:=λT=>by unfold aO;go_simp;omega);refine CR.nil H ?_;refine CW.cd H false ?_;refine CW.sk H ?_;dsimp only;refine CW.sq H ?_;refine CW.rg H [0,1,2,3,4,5] ?_;refine CR.mv H (.slice (some ⟨g,0,none⟩) n c) ?_;refine CR.mv H (.int .i64 (n:Int)) ?_;refine CR.mv H (.int .i64 1) ?_;refine CR.mv H (.int .i64 ((n+1:Nat):Int)) ?_ (hx:=λT=>by unfold aO;go_simp;first|(push_cast;exact Ep aD aD)|trace_state);refine CR.mv H (.slice (some ⟨g,0,none⟩) (n+1) c) ?_ (hx:=λT=>by exact zvQ rfl xA jL cH rfl rfl rfl aD);refine CR.mv H (.slice (some ⟨g,0,none⟩) (n+1) c) ?_;refine CR.nil H ?_;refine CW.sq H ?_;refine CW.sq H ?_;refine CW.rg H [0,1,2,3,4,5,6,7] ?_;refine CR.mv H (.slice (some ⟨gv,0,none⟩) 1 1) ?_;refine CR.mv H (.slice (some ⟨g,0,none⟩) (n+1) c) ?_;refine CR.mv H (.int .i64 (i:Int)) ?_;refine CR.mv H (.int .i64 1) ?_;refine CR.mv H (.int .i64 ((i+1:Nat):Int)) ?_ (hx:=λT=>by unfold aO;go_simp;first|(push_cast;exact Ep aD aD)|trace_state);refine CR.mv H (.slice (some ⟨g,(i+1)*2,none⟩) (n+1-(i+1)) (c-(i+1))) ?_ (hx:=λT=>by exact Ss rfl xA jL cH rfl rfl rfl aD aD rfl rfl rfl);refine CR.overlaps H (A:=⟨gv,0,none⟩) (B:=⟨g,(i+1)*2,none⟩) ov_fn zIA rfl rfl rfl rfl rfl rfl Aa hv hg (by rw[fP];omega) ?_;simp only[b7,gK,dV,dX];refine nP ?_;refine CR.mg H (.bool true) ?_;refine CR.nil H ?_;refine CW.cd H true ?_;refine CW.sq H ?_;refine CW.pQ H Zf (λT3 Q HQ=>?_);have ztJ:g<w.heap.size:=kU hg;have zuB:gv<w.heap.size:=kU hv;have mQ:∀ty,(C8 #[51,51] ty #[.slice (some ⟨g,(i+1)*2,none⟩) (n+1-(i+1)) (c-(i+1)),.slice (some ⟨g,i*2,none⟩) (n+1-i) (c-i)]).run aK (Tt.tp w T3 0).drew=.ok (goInt (zaD (n+1-i) (n+1-(i+1)))) ((Tt.tp w T3 0).drew.setRow g (cur.toList.take ((i+1)*2)++((bF xs).drop (i*2))++cur.toList.drop ((i+1)*2+(((bF xs).drop (i*2))).length)).toArray):=λty=>
      zcO (P:=aK) xA jL hg (by rw[cH,lb,show n+1-(i+1)=n-i by omega];congr 1;exact(Nat.min_eq_right aD).symm) (λj u hj=>by rw[Jt];rw[Vf] at hj;exact(aJ (w:=w) hg (i*2+j)).trans (Qm _ _ hj)) (by rw[<-De,mF,lb];omega) (λu hu=>one u (zcI hu))
     obtain⟨sP,Tn⟩:=aU ((cur.toList.take ((i+1)*2)++((bF xs).drop (i*2))++cur.toList.drop ((i+1)*2+((bF xs).drop (i*2)).length)).toArray:Array aF);rw[<-Tn] at mQ;obtain⟨W3,rE⟩:=aU ((Tt.tp w T3 0).drew.setRow g sP);rw[<-rE] at mQ;have zc2:W3.heap[g]? =some (.cells sP 124 (0,0)):=by rw[rE];exact Jb (Tt.tp w T3 0).drew g cur sP 124 (0,0) hg
     have zdg:∀b,b≠g->W3.heap[b]? =w.heap[b]? :=λb hb=>by rw[rE];exact zfW _ _ _ _ hb
     have zjA:W3.heap.size=w.heap.size:=by rw[rE];simp[zfR];rfl
     have vU:sP.toList.length=c*2:=by rw[Tn];show(_++_++_:List aF).length=_;simp only[gJ,rJ,xS,mF,hlen];omega
     refine zBL (Tt.tp w T3 0) W3 g (n+1) c i _ rfl rfl rfl rfl ⟨aD,aD,aD,aD,aD⟩ (mQ _) rfl ?_;rw[Go.Mt.zY,zrM];simp only[Go.Mt.wO,dV,dX,zmA,lIN15,C4,Cm];show Q .normal _ W3;refine HQ.o _ _ ?_;clear HQ mQ rE;refine CW.sq H ?_;refine CW.rg H [0,1,2,3,4] ?_;refine CR.mv H (.slice (some ⟨g,0,none⟩) (n+1) c) ?_;refine CR.mv H (.int .i64 (i:Int)) ?_;refine CR.mv H (.slice (some ⟨g,i*2,none⟩) (n+1-i) (c-i)) ?_ (hx:=λT=>by exact Ss rfl xA jL cH rfl rfl rfl aD aD rfl rfl rfl);refine CR.mv H (.slice (some ⟨gv,0,none⟩) 1 1) ?_;refine CR.op H zAc rfl aS (λT2=>?_);have mQ:∀ty,(C8 #[51,51] ty #[.slice (some ⟨g,i*2,none⟩) (n+1-i) (c-i),.slice (some ⟨gv,0,none⟩) 1 1]).run aK (Tt.tp W3 T2 0)=.ok (goInt (zaD 1 (n+1-i))) ((Tt.tp W3 T2 0).setRow g (sP.toList.take (i*2)++x.cells++sP.toList.drop (i*2+(x.cells).length)).toArray):=λty=>
      zcO (P:=aK) xA jL zc2 zpp (λj u hj=>by rw[Jt,rL];exact(aJ (w:=W3) ((zdg gv Aa).trans hv) j).trans (by rw[<-zR];exact hj)) (by rw[<-De,vU];show i*2+2<=_;omega) Ru
     obtain⟨Hq,zcm⟩:=aU ((sP.toList.take (i*2)++x.cells++sP.toList.drop (i*2+(x.cells).length)).toArray:Array aF);rw[<-zcm] at mQ;obtain⟨W2,qC⟩:=aU ((Tt.tp W3 T2 0).setRow g Hq);rw[<-qC] at mQ;have I2:W2.heap[g]? =some (.cells Hq 124 (0,0)):=by rw[qC];exact Jb (Tt.tp W3 T2 0) g sP Hq 124 (0,0) zc2
     have zfb:∀b,b≠g->W2.heap[b]? =w.heap[b]? :=λb hb=>by rw[qC];exact(zfW _ _ _ _ hb).trans (zdg b hb)
     have kZ:W2.heap.size=w.heap.size:=by rw[qC];simp[zfR];exact zjA
     obtain⟨Rf,Qc⟩:=zCh (c0:=cur.toList) (a:=(bF xs).take (i*2)) (b:=(bF xs).drop (i*2)) (xx:=x.cells) (c1:=sP.toList) (c2:=Hq.toList) (by rw[la];exact zFN) (by rw[la,lb,mF];show i*2+2+_<=_;omega) (by rw[Tn,la,show i*2+x.cells.length=(i+1)*2 by show i*2+2=_;omega]) (by rw[zcm,la]);rw[mF] at Qc;rw[la,lb,show i*2+x.cells.length+(n-i)*2=(n+1)*2 by show i*2+2+_=_;omega,<-zjZ] at Rf;have nZ:W2.ownsRow lo 124 2 (.slice (some ⟨g,0,none⟩) (n+1) c) (n+1) (bF (xs.take i++x::xs.drop i)):=⟨by rw[<-Rf,rJ,Qc];omega,.inr ⟨g,c,Hq,rfl,zyU,I2,aD,q8,by rw[<-De];exact Qc,Rf⟩⟩;refine⟨_,W2,.inl (zgq rfl rfl rfl (mQ _)),?_⟩;simp only[b7,gK,dV,dX];clear mQ qC;refine CR.nil H ?_;refine CW.sq H ?_;refine CW.pQ H Zf (λT4 Q HQ=>?_);go_wp2;refine HQ.o _ _ ?_;clear HQ;refine CW.rt H ?_;exact⟨.inr rfl,rfl,.slice (some ⟨g,0,none⟩) (n+1) c,rfl,rfl,g,c,rfl,cI nZ λb e=>rfl,⟨by show _<=W2.heap.size;omega,λb hb hn=>zfb b λe=>hn (by rw[e];rfl)⟩,.inl rfl⟩
section
variable {P:bS}{w:aE}
theorem znp {ops:Array aY}{rest:List aY}{o:aY}{a:tE}{Q:nQ->tE->aE->Prop}(Dn:o.guard=none)(x y:cM)(t t2:aM)(ho:o.op=.binOp .neq t x y t2){d:Mr}{e:aM}(hu:P.underlying t=some (.chan d e))(p q:Option Nat)(hx:a.eval x=.chan p)(hy:a.eval y=.chan q){r:Bool}(hr:(!(p==q))=r)
 (h:wpList P ops Q rest (a.put o.dst (.bool r)) w):wpList P ops Q (o::rest) a w:=by
 subst hr;refine wpList_plain Dn λK hK=>?_;unfold aY.wp;simp[aO,eqGuard,binOp,ho,hx,hy,zlT hu];exact hK _ _ h
end
def yL (xs:List bJ)(p:Int):Nat:=(xs.takeWhile λx=>decide (p<=x.p)).length
def zfK (xs:List bJ)(p:Int):yL xs p<=xs.length:=(znC _).length_le
theorem zH4 (xs:List bJ)(c:bJ):sV xs c=xs.take (yL xs c.p)++c::xs.drop (yL xs c.p):=by
 unfold sV yL;congr 1
 .exact(List.prefix_iff_eq_take.1 (znC _))
 .congr 1
  have h:=List.takeWhile_append_dropWhile (p:=λx:bJ=>decide (c.p<=x.p)) (l:=xs);generalize xs.takeWhile (λx=>decide (c.p<=x.p))=a at*;generalize xs.dropWhile (λx=>decide (c.p<=x.p))=b at*;subst h;simp
variable {p:Int}
theorem zIQ :∀{j:Nat} {x:bJ},j<yL xs p->xs[j]? =some x->p<=x.p:=by
 unfold yL
 induction xs with
 |nil=>intro j x hj;simp at hj
 |cons y ys ih=>
  intro j x hj hx;rw[zbx] at hj;split at hj
  .rename_i hy
   cases j with
   |zero=>simp at hx;subst hx;simpa using hy
   |succ j=>exact ih zbl (by simpa using hx)
  .simp at hj
theorem zy0 :∀{j:Nat} {x:bJ},yL xs p=j->xs[j]? =some x->x.p<p:=by
 unfold yL
 induction xs with
 |nil=>intro j x hj hx;simp at hx
 |cons y ys ih=>
  intro j x hj hx;rw[zbx] at hj;split at hj
  .rename_i hy
   cases j with
   |zero=>simp at hj
   |succ j=>exact ih zbl (by simpa using hx)
  .rename_i hy
   simp at hj;subst hj;simp at hx;subst hx;simpa using hy
def zlf:Go.Code:=(ztn.body).getD .skip
def rRI9:Go.Code:=match zlf with| .seq _ (.seq _ (.seq _ (.seq _ (.seq _ (.seq _ (.seq (.block _ (.loop (.seq (.seq (a) _) _))) _))))))=>a|_=>.skip
def rRI11:Go.Code:=match zlf with| .seq _ (.seq _ (.seq _ (.seq _ (.seq _ (.seq _ (.seq _ (.seq (a) _)))))))=>a|_=>.skip
def zvV:Array Oper:=match rRI11 with| .region _ ops _=>ops|_=>#[]
abbrev zIZ:Oper:=⟨some 72,.buildSlice 51 1 #[(0,.tmp 71)],51,"l6_office.go:161",#[⟨8,.data⟩],none⟩
def zBQ:zvV[9]? =some zIZ:=rfl
abbrev zyB:Oper:=⟨none,.store 51 (.tmp 75) (.tmp 73),0,"l6_office.go:161",#[⟨12,.data⟩,⟨10,.data⟩,⟨10,.chain⟩,⟨0,.phase⟩,⟨1,.phase⟩,⟨2,.phase⟩,⟨3,.phase⟩,⟨4,.phase⟩,⟨5,.phase⟩,⟨6,.phase⟩,⟨7,.phase⟩,⟨8,.phase⟩,⟨9,.phase⟩,⟨10,.phase⟩],none⟩
def zIB:zvV[13]? =some zyB:=rfl
def Bz:vK aK 65:=⟨_,zrm,.inr (.inl ⟨_,rfl⟩)⟩
section
variable {Q:nQ->tE->aE->Prop}{u3 u4 u5 u6 u7 u9 gH fY gA fW fX gC u16 gQ j6 kJ jG gU iB gM gN gX gP hY iF iA iZ jA u32 iD gO gT gY j7 j9 iC gZ gS iT iQ iH iO iI iG iR iP iK iL l5 l8 kS kO kD j5 kC kM kI jU jX jQ u64 jP jR jZ jY kN kG kL jS Z2 Zt zcn Zh zan zbL zco:aF}{w:aE}
theorem wp_RI9 {lo hb n cW m:Nat}{AW:Option bO}{xs:List bJ}{c:bJ}(h7:w.cell? ⟨hb,7,none⟩=some (.slice AW n cW))(hs:cG w lo w.heap.size 2 AW n cW (bF xs))(hn:xs.length=n)(Pp:n<=1000)(hm:m<=yL xs c.p)(hp:0<=c.p/\c.p<=9)(h:∀zwS zpf zxg zsv z46 ztH zpo z49 zoY z51 zxD z53 ztm zoe zve zoI zqW z59,Q .normal ⟨#[.pointer (some ⟨hb,0,none⟩),.int .i64 c.c,.int .i64 c.p,u3,u4,u5,u6,u7,.int .i64 (m:Int),u9,gH,fY,gA,fW,fX,gC,u16,gQ,j6,kJ,jG,gU,iB,gM,gN,gX,gP,hY,iF,iA,iZ,jA,u32,iD,gO,gT,gY,j7,j9,iC,gZ,gS,zwS,zpf,zxg,zsv,z46,ztH,zpo,z49,zoY,z51,zxD,z53,ztm,zoe,zve,zoI,zqW,z59,.bool (decide (m<yL xs c.p)),jU,jX,jQ,u64,jP,jR,jZ,jY,kN,kG,kL,jS,Z2,Zt,zcn,Zh,zan,zbL,zco],[]⟩ w):
 Code.wp aK rRI9 Q ⟨#[.pointer (some ⟨hb,0,none⟩),.int .i64 c.c,.int .i64 c.p,u3,u4,u5,u6,u7,.int .i64 (m:Int),u9,gH,fY,gA,fW,fX,gC,u16,gQ,j6,kJ,jG,gU,iB,gM,gN,gX,gP,hY,iF,iA,iZ,jA,u32,iD,gO,gT,gY,j7,j9,iC,gZ,gS,iT,iQ,iH,iO,iI,iG,iR,iP,iK,iL,l5,l8,kS,kO,kD,j5,kC,kM,kI,jU,jX,jQ,u64,jP,jR,jZ,jY,kN,kG,kL,jS,Z2,Zt,zcn,Zh,zan,zbL,zco],[]⟩ w:=by
 have hle:=zfK xs c.p;have ztN:=aC (show∀(j:Nat) (x:bJ),j<yL xs c.p->xs[j]? =some x->c.p<=x.p from λj x hj hx=>zIQ hj hx);obtain⟨pl,lS⟩:=aU (yL xs c.p);rw[<-lS] at hm h hle ztN;have zEI:=aC lS;have Qh:=aC hn;have HQ:=aC h;clear lS hn h;simp only[rRI9,zlf,ztn,zC];by_cases aP:m<n
 .obtain⟨bW,oW,x,hA,mI,eB,e0,e1⟩:=zeJ hs aP
  subst hA;have i0:(0:Int)<=(m:Int):=aD;have i1:(m:Int)<(n:Int):=aD;have HX:=aC eB;have HS:=aC hs;clear eB hs;by_cases zF1:c.p<=x.p
  .have Pb:m<pl:=by
    rcases nM m pl with hh|hh
    .exact hh
    .have:m=pl:=aD
     subst this;exact absurd (zy0 zEI.o.symm HX.o) aD
   go_wp2;have:=HQ.o;simp only[Pb,decide_true] at this;exact this _ _ _ _ _ _ _ _ _ _ _ _ _ _ _ _ _ _
  .have Pb:¬m<pl:=λhh=>zF1 (ztN.o m x hh HX.o)
   go_wp2;have:=HQ.o;simp only[Pb,decide_false] at this;exact this _ _ _ _ _ _ _ _ _ _ _ _ _ _ _ _ _ _
 .have zHe:m=n:=by have:=Qh.o;omega
  subst zHe;have Pb:¬m<pl:=by have:=Qh.o;omega
  have HS:=aC hs;clear hs;go_wp2;have:=HQ.o;simp only[Pb,decide_false] at this;exact this _ _ _ _ _ _ _ _ _ _ _ _ _ _ _ _ _ _
end
variable {d:nF}
theorem zHG (H:e.d.Ok){c:bJ}(h:bE w lo hb v d)(mr:fT v d)(hi:yE d)(dY:lo<=w.heap.size)(hp:0<=c.p/\c.p<=9):
 CF e.d 65 #[.pointer (some ⟨hb,0,none⟩),.int .i64 c.c,.int .i64 c.p] K (.wk e.qs k) w (λK' l' y w'=>Z7 e.qs lo hb v d w k 0 (pL d.r c) l' y w'):=by
 refine CF.of 80 zrm (.inr (.inl ⟨_,rfl⟩)) ?_;have A0:=aC h;have T0:=aC (bL.refl (hb:=hb) (v:=v) (w:=w));have HI:=aC hi;have MR:=aC mr;have K4:=aC dY;have nE:=hi.sm.nb;have Kf:=hi.sm.nw;have Bn:=hi.sm.nr;obtain⟨vM,ziV⟩:=hp;clear h mr hi dY;refine CW.sq H (CW.p0 H Bz A0 T0 λw1 eT A1 T1=>?_);obtain⟨AB,cB,Kx,zbU⟩:=Fo A1.o.B aH;have zK:=aC Kx;clear Kx zbU;obtain⟨kn,rT⟩:=aU (((jD d.r.recs c.c).isSome||(uX d.r.back c.c).isSome));have eZ:=aC rT;clear rT;refine CW.sq H ?_;refine CW.sq H ?_
 cases eY:jD d.r.recs c.c with
 |some i=>
  obtain⟨x,hx,Hb,rK⟩:=Ca eY;obtain⟨gL,Mv,hO,hM,hC⟩:=MR.o.onLine HI.o hx rK Hb;have Rr:=aC hO;have cJ:=aC (show pL d.r c=(d.r,[107,110,111,119,110]) by unfold pL;rw[eY];rfl);clear hx Hb rK Mv hO hM hC eY;refine CW.pW H Bz A1 T1 λw2 Q fQ A2 T2 HQ=>?_;have k5:w2.cell? ⟨hb,5,none⟩=some (.map (some v.mO)):=aJ A2.o.blk 5;have k8:w2.cell? ⟨hb,8,none⟩=some (.slice AB d.r.back.length cB):=by
   have:=aJ A2.o.blk 8;rw[this,<-zK.o];rfl
  have Ee:=aC (show cG w2 lo w2.heap.size 1 AB d.r.back.length cB (jN (d.r.back.map bJ.c)) by have:=A2.o.B;rw[zK.o] at this;exact zQ this aH);have Yb:=aC A2.o.O
  go_wp2_with (at_lookup;refine zqo _ rfl (.tmp 12) (.tmp 13) 49 false rfl 61 Ry Kv (.chan none) (zaK _) v.mO c.c v.pO rfl rfl Yb.o ?_;rw[Rr.o];simp only[zC,zvo,iU,if_false];refine znp rfl (.tmp 14) (.const (.chan none)) 61 61 rfl Q6 (some gL) none rfl rfl (r:=true) rfl ?_)
  refine HQ.o _ _ ?_;clear HQ;clear k5 k8;refine CW.cd H true ?_;refine CW.sq H (CW.p0 H Bz A2 T2 λw3 iM A3 T3=>?_);refine CW.rt H ?_;refine⟨.inr rfl,rfl,.string ⟨#[107,110,111,119,110]⟩,rfl,⟨rfl,by rw[cJ.o],v,?_,?_,?_,zI.rf v⟩⟩
  .rw[cJ.o];exact A3.o
  .rw[cJ.o];exact MR.o
  .exact T3.o
 |none=>
  have Rr:=aC (MR.o.offLine eY);have uJ:=aC eY;clear eY;refine CW.pW H Bz A1 T1 λw2 Q fQ A2 T2 HQ=>?_;have k5:w2.cell? ⟨hb,5,none⟩=some (.map (some v.mO)):=aJ A2.o.blk 5;have k8:w2.cell? ⟨hb,8,none⟩=some (.slice AB d.r.back.length cB):=by
   have:=aJ A2.o.blk 8;rw[this,<-zK.o];rfl
  have Ee:=aC (show cG w2 lo w2.heap.size 1 AB d.r.back.length cB (jN (d.r.back.map bJ.c)) by have:=A2.o.B;rw[zK.o] at this;exact zQ this aH);have Yb:=aC A2.o.O
  go_wp2_with (first
   |(at_lookup;refine zqo _ rfl (.tmp 12) (.tmp 13) 49 false rfl 61 Ry Kv (.chan none) (zaK _) v.mO c.c v.pO rfl rfl Yb.o ?_;rw[Rr.o];simp only[zC,zvo,iU,if_false];refine znp rfl (.tmp 14) (.const (.chan none)) 61 61 rfl Q6 (none) none rfl rfl (r:=false) rfl ?_)
   |(go_at_call 71;refine(zyG lo w2.heap.size d.r.back.length cB AB (d.r.back.map bJ.c) c.c w2 Ee.o aD).mono ?_;rintro en wz ⟨rfl,uB⟩;obtain rfl:=uB;rw[zqf]))
  refine HQ.o _ _ ?_;clear HQ;clear k8;have zK9:=A2
  cases Gm:uX d.r.back c.c with
  |some p=>
   have cJ:=aC (show pL d.r c=(d.r,[107,110,111,119,110]) by unfold pL;rw[Gm,uJ.o];rfl);clear Gm;refine CW.cd H true ?_;refine CW.sq H (CW.p0 H Bz A2 T2 λw3 iM A3 T3=>?_);refine CW.rt H ?_;refine⟨.inr rfl,rfl,.string ⟨#[107,110,111,119,110]⟩,rfl,⟨rfl,by rw[cJ.o],v,?_,?_,?_,zI.rf v⟩⟩
   .rw[cJ.o];exact A3.o
   .rw[cJ.o];exact MR.o
   .exact T3.o
  |none=>
   have znU:=aC Gm;clear Gm;refine CW.cd H false ?_;refine CW.sk H ?_;dsimp only;have zcJ:=HI.o.nln;have zcd:d.ln.length<=100:=by have:=(Cd HI.o.R.off).2.1;omega
   have zby:=aC (λW (a:bE W lo hb v d)=>zuX a MR.o zcJ zcd);clear zcJ zcd eZ;refine CW.sq H (CW.pW H Bz A2 T2 λw3 Q iM A3 T3 HQ=>?_)
   go_wp2_with (go_at_call 72;refine(zby.o _ A3.o).mono ?_;rintro en wy ⟨rfl,zDo⟩;obtain rfl:=zDo)
   refine HQ.o _ _ ?_;clear HQ;clear zby;refine CW.sq H ?_
   cases fI:n6 d.r.o d.r.recs with
   |nil=>
    rw[zry fI];have cJ:=aC (show pL d.r c=({d.r with back:=d.r.back++[c]},[98,117,115,121]) by unfold pL;rw[znU.o,uJ.o];simp only[fI];rfl);clear fI;refine CW.sq H (CW.p0 H Bz A3 T3 λw4 lG A4 T4=>?_);refine CW.cd H true ?_;refine CW.sq H (CW.pW H Bz A4 T4 λw5 Q nU A5 T5 HQ=>?_);have k8:w5.cell? ⟨hb,8,none⟩=some v.sB:=aJ A5.o.blk 8;obtain⟨OC,Zc⟩:=aU (.cells #[.int .i64 c.c] 3:Obj);have a5:=A5.o.alloc OC;obtain⟨q1,q2,w6,fH,cP,mU,eY⟩:=L5 (t:=52) (ty:=52) zbO Xd rfl aH a5.B (g:=w5.heap.size) (cs:=#[.int .i64 c.c]) (news:=[.int .i64 c.c]) (by rw[Zc];exact lO _ _) rfl (m:=1) rfl aH Me aD aH (by have:=T5.o.size;have:=K4.o;simp;omega);obtain⟨a6,t6⟩:=a5.putB mU (xs:=d.r.back++[c]) (by have e:jN ((d.r.back++[c]).map bJ.c)=jN (d.r.back.map bJ.c)++[.int .i64 c.c]:=(by simp[jN]);rw[e];exact cP) aQ eY;have A6:=aC a6;have T6:=aC (T5.o.trans ((bL.below (dO (eR _ w5) OC)).trans (⟨t6.size,t6.block,t6.moved⟩:bL hb v (w5.alloc OC) _ _)));have Jz:w6.heap[hb]? =some (J9 v _):=(a5.other (j:=6) (c:=8) (x:=v.sB) rfl aH mU (.slice (some ⟨q1,0,none⟩) (d.r.back.length+1) q2)).2.trans a5.blk;have zp6:=aJ Jz 8;have kf:=eL Jz 8;have AP:=aC fH;obtain⟨A8,c8,zdj,_⟩:=Fo A5.o.B aH;have Ol:w5.cell? ⟨hb,8,none⟩=some (.slice A8 d.r.back.length c8):=by rw[k8,zdj]
    have zCe:w6.cell? ⟨hb,8,none⟩=some (.slice A8 d.r.back.length c8):=by rw[zp6,<-zdj];rfl
    rw[zdj,Zc] at AP;clear cP mU eY a6 t6 a5 Jz fH k8 zp6 zdj
    go_wp2_with (at_builtin;refine zsX rfl (.tmp 32) (.tmp 34) 52 52 rfl (.slice A8 d.r.back.length c8) (.slice (some ⟨w5.heap.size,0,none⟩) 1 1) (.slice (some ⟨q1,0,none⟩) (d.r.back.length+1) q2) rfl rfl AP.o ?_)
    refine HQ.o _ _ ?_;clear HQ;clear Ol zCe kf AP;clear A5 T5;obtain⟨zMk,zrI⟩:∃y,y=w6.setCell ⟨hb,8,none⟩ (.slice (some ⟨q1,0,none⟩) (d.r.back.length+1) q2):=⟨_,rfl⟩;rw[<-zrI] at A6 T6⊢;clear zrI;refine CW.sq H (CW.p0 H Bz A6 T6 λw7 qT A7 T7=>?_);refine CW.rt H ?_;refine⟨.inr rfl,rfl,.string ⟨#[98,117,115,121]⟩,rfl,⟨rfl,by rw[cJ.o],{v with sB:=.slice (some ⟨q1,0,none⟩) (d.r.back.length+1) q2},?_,?_,?_,⟨rfl,rfl,rfl,rfl⟩⟩⟩
    .rw[cJ.o];exact A7.o
    .rw[cJ.o];refine fT.of MR.o ?_ ?_ ?_ ?_ ?_<;>rfl
    .exact T7.o
   |cons lf ls=>
    obtain⟨i,gL,uS⟩:=HI.o.free fI;have tW:Ik d=(i:Int):=by rw[zr6 fI,uS.l];omega
    rw[tW];have cJ:=aC (show pL d.r c=({d.r with recs:=d.r.recs++[⟨c.c,(i:Int)+1,0,d.r.clk,-1,-1,eJ⟩],wait:=sV d.r.wait c},[108,105,110,101,32]++jC ((i:Int)+1)) by unfold pL;rw[znU.o,uJ.o];simp only[fI,uS.l];rfl);have FA:=aC uS;have zGU:=uS.i6;have znt:i<=50:=by have:=(zff HI.o.R.off (l:=lf) (by rw[fI];simp));have:=uS.l;omega
    clear fI uS tW;refine CW.sq H (CW.pW H Bz A3 T3 λw4 Q lG A4 T4 HQ=>?_);have i0:(0:Int)<=(i:Int):=aD;go_wp2;refine HQ.o _ _ ?_;clear HQ;refine CW.cd H false ?_;refine CW.sk H ?_;dsimp only;refine CW.sq H (CW.pW H Bz A4 T4 λw5 Q nU A5 T5 HQ=>?_);have zEU:lo<=w5.heap.size:=eP K4.o T5.o.size
    go_wp2_with (go_at_call 73;refine(zss A5.o zEU FA.o.g aD Bn c.c).mono ?_;rintro en w6 ⟨rfl,v6,a6,t6,p6⟩;have A6:=aC a6;have T6:=aC (T5.o.trans t6);have P6:=aC p6;clear a6 t6 p6)
    refine HQ.o _ _ ?_;clear HQ;clear A5 T5;have zB3:=aC (fT.of (v':=v6) (d':={d with r:={d.r with recs:=d.r.recs++[⟨c.c,(i:Int)+1,0,d.r.clk,-1,-1,eJ⟩]}}) (MR.o.more HI.o.ndl FA.o.g FA.o.un uJ.o (o:=0) (hh:=-1) (tt:=-1) (clk:=d.r.clk)) P6.o.1 P6.o.2.1 P6.o.2.2.1 rfl rfl);have zKR:lo<=w6.heap.size:=eP K4.o T6.o.size;refine CW.sq H (CW.p0 H Bz A6 T6 λw7 qT A7 T7=>?_);obtain⟨AW,cW,Jf,zyt⟩:=Fo A7.o.W aH;have zV:=aC (show v6.sW=.slice AW d.r.wait.length cW from Jf);clear Jf zyt;refine CW.sq H ?_;refine CW.block H ?_;refine CW.loop H (λnn s=>∃(m:Nat) (wz:aE) (u3 u4 u5 u6 u9 gH fY gA fW fX gC u16 gQ j6 kJ jG gU iB gM gN gX gP hY iF iA iZ jA u32 iD gO gT gY j7 j9 iC gZ gS iT iQ iH iO iI iG iR iP iK iL l5 l8 kS kO kD j5 kC kM kI jU jX jQ u64 jP jR jZ jY kN kG kL jS Z2 Zt zcn Zh zan zbL zco:aF),s=⟨[],K,.wk e.qs k,#[.pointer (some ⟨hb,0,none⟩),.int .i64 c.c,.int .i64 c.p,u3,u4,u5,u6,.int .i64 (i:Int),.int .i64 (m:Int),u9,gH,fY,gA,fW,fX,gC,u16,gQ,j6,kJ,jG,gU,iB,gM,gN,gX,gP,hY,iF,iA,iZ,jA,u32,iD,gO,gT,gY,j7,j9,iC,gZ,gS,iT,iQ,iH,iO,iI,iG,iR,iP,iK,iL,l5,l8,kS,kO,kD,j5,kC,kM,kI,jU,jX,jQ,u64,jP,jR,jZ,jY,kN,kG,kL,jS,Z2,Zt,zcn,Zh,zan,zbL,zco],wz⟩/\m<=yL d.r.wait c.p/\nn=yL d.r.wait c.p-m/\bE wz lo hb v6 {d with r:={d.r with recs:=d.r.recs++[⟨c.c,(i:Int)+1,0,d.r.clk,-1,-1,eJ⟩]}}/\bL hb v w v6 wz) (λnn s hs=>?_) (n:=yL d.r.wait c.p) ?_
    rotate_left
    .exact⟨0,w7,_,_,_,_,_,_,_,_,_,_,_,_,_,_,_,_,_,_,_,_,_,_,_,_,_,_,_,_,_,_,_,_,_,_,_,_,_,_,_,_,_,_,_,_,_,_,_,_,_,_,_,_,_,_,_,_,_,_,_,_,_,_,_,_,_,_,_,_,_,_,_,_,_,_,_,rfl,lB _,rfl,A7.o,T7.o⟩
    .obtain⟨m,wz,u3,u4,u5,u6,u9,gH,fY,gA,fW,fX,gC,u16,gQ,j6,kJ,jG,gU,iB,gM,gN,gX,gP,hY,iF,iA,iZ,jA,u32,iD,gO,gT,gY,j7,j9,iC,gZ,gS,iT,iQ,iH,iO,iI,iG,iR,iP,iK,iL,l5,l8,kS,kO,kD,j5,kC,kM,kI,jU,jX,jQ,u64,jP,jR,jZ,jY,kN,kG,kL,jS,Z2,Zt,zcn,Zh,zan,zbL,zco,rfl,Pb,Br,az,tz⟩:=hs
     have A8:=aC az;have T8:=aC tz;clear az tz A7 T7;refine CW.sq H ?_;refine CW.sq H ?_;refine CW.pQ H Bz (λzkB Q HQ=>?_);obtain⟨w9,Hg⟩:=aU (Tt.tp wz zkB 0);have A9:=aC (show bE w9 lo hb v6 {d with r:={d.r with recs:=d.r.recs++[⟨c.c,(i:Int)+1,0,d.r.clk,-1,-1,eJ⟩]}} by rw[Hg];exact A8.o.tp zkB 0);have T9:=aC (show bL hb v w v6 w9 by rw[Hg];exact T8.o.tp zkB 0)
     try dsimp only
     rw[<-Hg];clear Hg A8 T8;have hW:=A9.o.W;rw[zV.o] at hW;have k7:w9.cell? ⟨hb,7,none⟩=some (.slice AW d.r.wait.length cW):=by
      have:=aJ A9.o.blk 7;rw[this,<-zV.o];rfl
     refine wp_RI9 k7 (zQ hW aH) rfl Kf Pb ⟨vM,ziV⟩ λzwS zpf zxg zsv z46 ztH zpo z49 zoY z51 zxD z53 ztm zoe zve zoI zqW z59=>?_;refine HQ.o _ _ ?_;clear HQ hW k7;by_cases aP:m<yL d.r.wait c.p
     .simp only[aP,decide_true]
      refine CW.cd H true ?_;refine CW.sk H ?_;dsimp only;refine CW.block H ?_;refine CW.pQ H Bz (λV4 Q HQ=>?_);obtain⟨uE,Cy⟩:=aU (Tt.tp w9 V4 0);have rS:=aC (show bE uE lo hb v6 {d with r:={d.r with recs:=d.r.recs++[⟨c.c,(i:Int)+1,0,d.r.clk,-1,-1,eJ⟩]}} by rw[Cy];exact A9.o.tp V4 0);have wQ:=aC (show bL hb v w v6 uE by rw[Cy];exact T9.o.tp V4 0)
      try dsimp only
      rw[<-Cy];clear Cy A9 T9;have zGO:m<=1000:=by have:=zfK d.r.wait c.p;omega
      go_wp2;refine HQ.o _ _ ?_;refine⟨yL d.r.wait c.p-(m+1),aD,m+1,uE,_,_,_,_,_,_,_,_,_,_,_,_,_,_,_,_,_,_,_,_,_,_,_,_,_,_,_,_,_,_,_,_,_,_,_,_,_,_,_,_,_,_,_,_,_,_,_,_,_,_,_,_,_,_,_,_,_,_,_,_,_,_,_,_,_,_,_,_,_,_,_,_,_,_,_,rfl,aD,rfl,rS.o,wQ.o⟩
     .simp only[aP,decide_false]
      refine CW.cd H false ?_;refine CW.exit H aQ ?_;dsimp only;rw[if_pos rfl];have L4:m=yL d.r.wait c.p:=aD;have zIR:=aC L4;have zGO:m<=1000:=by have:=zfK d.r.wait c.p;omega
      have Zx:m<=d.r.wait.length:=by have:=zfK d.r.wait c.p;omega
      clear L4 aP Pb Br;have zx8:=aC (show w9.ownsRow lo 124 2 (.slice AW d.r.wait.length cW) d.r.wait.length (bF d.r.wait) by have:=A9.o.W;rw[zV.o] at this;exact this);have k7:w9.cell? ⟨hb,7,none⟩=some (.slice AW d.r.wait.length cW):=by
       have:=aJ A9.o.blk 7;rw[this,<-zV.o];rfl
      refine CW.sq H ?_;refine CW.rg H [0,1,2,3,4,5,6,7,8,9,10,11,12,13] ?_;refine CR.mv H (.pointer (some ⟨hb,0,none⟩)) ?_;refine CR.mv H (.pointer (some ⟨hb,0,none⟩)) ?_;refine CR.mv H (.pointer (some ⟨hb,0,none⟩)) ?_;refine CR.mg H (.pointer (some ⟨hb,7,none⟩)) ?_;refine nP ?_;refine CR.mv H (.slice AW d.r.wait.length cW) ?_ (hx:=λT=>by have hh:(Tt.tp w9 T 0).cell? _=_:=k7;unfold aO;go_simp);refine CR.mv H (.int .i64 (m:Int)) ?_;refine CR.mv H (.int .i64 c.c) ?_;refine CR.mv H (.int .i64 c.p) ?_;refine CR.mv H (.agg #[.int .i64 c.c,.int .i64 c.p]) ?_ (hx:=λT=>by unfold aO;go_simp;try rfl);refine CR.op H zBQ rfl aS (λT=>⟨.slice (some ⟨w9.heap.size,0,none⟩) 1 1,(Tt.tp w9 T 0).alloc (.cells #[.int .i64 c.c,.int .i64 c.p] 124),.inl Oc,?_⟩);simp only[b7,gK,dV,dX];obtain⟨wa,wS⟩:=aU ((Tt.tp w9 T 0).alloc (.cells #[.int .i64 c.c,.int .i64 c.p] 124));have rS:=aC (show bE wa lo hb v6 {d with r:={d.r with recs:=d.r.recs++[⟨c.c,(i:Int)+1,0,d.r.clk,-1,-1,eJ⟩]}} by rw[wS];exact(A9.o.tp T 0).alloc _);have wQ:=aC (show bL hb v w v6 wa by rw[wS];exact(T9.o.tp T 0).trans (bL.below (dO (eR _ _) _)));have HV:=aC (show wa.heap[w9.heap.size]? =some (.cells #[.int .i64 c.c,.int .i64 c.p] 124) by rw[wS];exact lO _ _);have zvT:=aC (show wa.ownsRow lo 124 2 (.slice AW d.r.wait.length cW) d.r.wait.length (bF d.r.wait) by have:=rS.o.W;rw[zV.o] at this;exact this);have aT:(Sm AW d.r.wait.length cW).ownBlock≠some w9.heap.size:=λe=>by have:=(zx8.o.lt _ e).2;omega
      have zBD:lo<=wa.heap.size:=eP K4.o wQ.o.size;rw[<-wS];clear wS A9 T9 k7;refine CR.cl H (zIn H (x:=c) zvT.o zBD Kf Zx HV.o aT) (λK' l' y wb hl oN=>?_);obtain⟨rfl,g2,c2,rfl,nZ,zkt,eY⟩:=oN;simp only[b7,gK,dV,dX];have Sj:({wb with heap:=wa.heap}:aE).grownBy wb v6.sW.ownBlock:=⟨rfl,rfl,rfl,zkt.size,λb bY hn=>zkt.block b bY (by rw[<-zV.o];exact hn)⟩;have a0:bE ({wb with heap:=wa.heap}:aE) lo hb v6 {d with r:={d.r with recs:=d.r.recs++[⟨c.c,(i:Int)+1,0,d.r.clk,-1,-1,eJ⟩]}}:=rS.o.same rfl;have zkg:d.r.wait.take m++c::d.r.wait.drop m=sV d.r.wait c:=by rw[zH4,zIR.o]
      rw[zkg] at nZ;obtain⟨a6,t6⟩:=a0.putW Sj nZ (by rw[<-zkg];simp;omega) (by rw[zV.o];exact eY.imp (λe=>e) (λe b bY=>by have pI:g2=b:=cD bY;show wa.heap.size<=b;rw[<-pI];exact e));have zcj:=(a0.other (j:=5) (c:=7) (x:=v6.sW) rfl aH Sj (.slice (some ⟨g2,0,none⟩) (d.r.wait.length+1) c2)).2;have znX:wb.cell? ⟨hb,7,none⟩=some (.slice AW d.r.wait.length cW):=by
       have:=aJ (zcj.trans a0.blk) 7;rw[this,<-zV.o];rfl
      have zue:=eL (zcj.trans a0.blk) 7;have D4:=aC (wQ.o.trans ((bL.refl (v:=v6) (w:=wa) (hb:=hb)).same (x:={wb with heap:=wa.heap}) rfl|>.trans t6));have As:=aC a6;clear a6 t6 a0 Sj zcj nZ zkt eY rS wQ HV zvT aT zkg;refine nP ?_;refine CR.mv H (.pointer (some ⟨hb,0,none⟩)) ?_;refine CR.mg H (.pointer (some ⟨hb,7,none⟩)) ?_;refine CR.sto H zIB rfl aS rfl (w':=wb.setCell ⟨hb,7,none⟩ (.slice (some ⟨g2,0,none⟩) (d.r.wait.length+1) c2)) (λT=>by have hh:(Tt.tp wb T 0).cell? _=_:=znX;have hf:(Tt.tp wb T 0).frozen? _=_:=zue;unfold aO;go_simp;try rfl) ?_;obtain⟨wc,zeI⟩:=aU (wb.setCell ⟨hb,7,none⟩ (.slice (some ⟨g2,0,none⟩) (d.r.wait.length+1) c2));have zbN:=aC (show bE wc lo hb {v6 with sW:=.slice (some ⟨g2,0,none⟩) (d.r.wait.length+1) c2} {d with r:={d.r with recs:=d.r.recs++[⟨c.c,(i:Int)+1,0,d.r.clk,-1,-1,eJ⟩],wait:=sV d.r.wait c}} by rw[zeI];exact As.o);have zbt:=aC (show bL hb v w {v6 with sW:=.slice (some ⟨g2,0,none⟩) (d.r.wait.length+1) c2} wc by rw[zeI];exact D4.o);dsimp only;rw[<-zeI];clear zeI As D4 znX zue;refine CR.nil H ?_;have Ip:=N4 (c:=(i:Int)+1) aD aD;refine CW.sq H (CW.pW H Bz zbN zbt λzic Q zwC Zq zax HQ=>?_)
      go_wp2_with (go_at_call 75;refine(ziF ((i:Int)+1) aD aD _).mono ?_;rintro en zgW ⟨rfl,zH6⟩;obtain rfl:=zH6)
      refine HQ.o _ _ ?_;clear HQ;refine CW.rt H ?_;refine⟨.inr rfl,rfl,.string ⟨([108,105,110,101,32]++jC ((i:Int)+1)).toArray⟩,(by have ee:(⟨#[108,105,110,101,32]⟩:ByteArray)++⟨(jC ((i:Int)+1)).toArray⟩=⟨([108,105,110,101,32]++jC ((i:Int)+1)).toArray⟩:=(by simp[Nf]);rw[<-ee];rfl),⟨rfl,by rw[cJ.o],{v6 with sW:=.slice (some ⟨g2,0,none⟩) (d.r.wait.length+1) c2},?_,?_,?_,⟨P6.o.2.2.2.1,P6.o.2.2.2.2.1,P6.o.2.2.2.2.2.2.2.1,P6.o.2.2.2.2.2.2.2.2⟩⟩⟩
      .rw[cJ.o];exact Zq.o
      .rw[cJ.o];refine fT.of zB3.o ?_ ?_ ?_ ?_ ?_<;>rfl
      .exact zax.o
structure EvPre (lo hb:Nat)(v:fC)(d:nF)(w:aE):Prop where
 at_:bE w lo hb v d
 mr:fT v d
 i:yE d
 lo_:lo<=w.heap.size
 tab:Al lo w
 clk:d.r.clk<=99000
 nbw:d.r.back.length+d.r.wait.length<=5000
def Ir:vK aK 46:=⟨_,zqi,.inr (.inl ⟨_,rfl⟩)⟩
variable {ev:dG}
theorem zI2 (H:e.d.Ok)(h:EvPre lo hb v d w)(mD:sK d.r.o.op ev=true)(hW:Bu e.W k (o8 d.r ev))(hK:∀(i g:Nat),d.qn[i]? =some g->K g (qa e.qs i)):
 CF e.d 46 #[.pointer (some ⟨hb,0,none⟩),.agg #[.string ev.k,.int .i64 ev.a,.int .i64 ev.b]] K (.wk e.qs k) w (λK' l' y w'=>Z7 e.qs lo hb v d w k (o8 d.r ev).length (eG d.r ev) l' y w'):=by
 refine CF.of 37 zqi (.inr (.inl ⟨_,rfl⟩)) ?_;have A0:=aC h.at_;have T0:=aC (bL.refl (hb:=hb) (v:=v) (w:=w));have HP:=aC h;have HW:=aC hW;have Xr:=(Cd h.i.R.off).2.2.2.1;have Tv:=h.i.nqn;have zbi:Jd d.r.o.op ev:=by unfold sK at mD;simpa using mD
 have zfY:=aC zbi;clear h hW mD zbi;refine CW.sq H (CW.pW H Ir A0 T0 λw1 Q eT A1 T1 HQ=>?_);go_wp2;refine HQ.o _ _ ?_;clear HQ;obtain⟨gx,sU⟩:=aU w1.heap.size;obtain⟨w2,fQ⟩:=aU (w1.alloc (.cells #[.string ev.k,.int .i64 ev.a,.int .i64 ev.b] 43));have A2:=aC (show bE w2 lo hb v d by rw[fQ];exact A1.o.alloc _);have T2:=aC (show bL hb v w v w2 by rw[fQ];exact T1.o.trans (bL.below (dO (eR _ _) _)));have zdP:=aC (show w2.heap[gx]? =some (.cells #[.string ev.k,.int .i64 ev.a,.int .i64 ev.b] 43) by rw[fQ,sU];exact lO _ _);rw[<-sU,<-fQ];clear fQ sU A1 T1;refine CW.sq H ?_;refine CW.sq H (CW.pW H Ir A2 T2 λw3 Q iM A3 T3 HQ=>?_);have uP:=aC (iM▸zdP.o);have kx:=aJ uP.o 0;go_wp2;refine HQ.o _ _ ?_;clear HQ;clear kx;refine CW.block H ?_;by_cases Uw:ev.k.toList=H3
 .
   have qD:(ev.k.toList==[114,105,110,103])=true:=by rw[Uw];rfl
   have lM:=aC Uw;clear Uw;refine CW.sq H (CW.pW H Ir A3 T3 λw4 Q lG A4 T4 HQ=>?_);have Ng:=aC (lG▸uP.o);go_wp2;refine HQ.o _ _ ?_;clear HQ
   try simp only[qD]
   clear qD;refine CW.cond H (t:=true) rfl Ns ?_;refine CW.sq H ?_;refine CW.rg H [0,1,2,3,4,5,6] ?_;refine CR.mv H (.pointer (some ⟨hb,0,none⟩)) ?_;refine CR.mg H (.pointer (some ⟨gx,1,none⟩)) ?_;refine CR.mv H (.int .i64 ev.a) ?_ (hx:=λT=>by have hh:(Tt.tp w4 T 0).cell? _=_:=aJ Ng.o 1;unfold aO;go_simp);refine CR.mg H (.pointer (some ⟨gx,2,none⟩)) ?_;refine CR.mv H (.int .i64 ev.b) ?_ (hx:=λT=>by have hh:(Tt.tp w4 T 0).cell? _=_:=aJ Ng.o 2;unfold aO;go_simp)
   obtain⟨Ob,Ag,Sr,xB⟩:1<=ev.a/\ev.a<=99/\0<=ev.b/\ev.b<=9:=by
    rcases zfY.o with h|h|⟨h,_⟩|h
    .exact h.2
    .rw[h.1] at lM;exact absurd lM.o aH
    .rcases h with h|h<;>(rw[h] at lM;exact absurd lM.o aH)
    .rw[h.1] at lM;exact absurd lM.o aH
   have lZ:=aC (show eG d.r ev=pL d.r ⟨ev.a,ev.b⟩ by unfold eG;rw[if_pos lM.o]);have rP:=aC (show o8 d.r ev=[] by unfold o8;rw[if_pos lM.o]);refine CR.cl H (zHG H (c:=⟨ev.a,ev.b⟩) A4.o HP.o.mr HP.o.i (eP HP.o.lo_ T4.o.size) ⟨Sr,xB⟩) (λK' l' y w' hl oN=>?_);simp only[b7,gK,dV,dX];obtain⟨z1,rfl,z3⟩:=oN;refine nP ?_;refine CR.mv H (.string ⟨(pL d.r ⟨ev.a,ev.b⟩).2.toArray⟩) ?_;refine CR.nil H ?_;refine CW.rt H ?_;obtain⟨v',z4,z5,z6,z7⟩:=z3;refine⟨.inr rfl,rfl,.string ⟨(pL d.r ⟨ev.a,ev.b⟩).2.toArray⟩,rfl,⟨by rw[rP.o];exact z1,by rw[lZ.o],v',by rw[lZ.o];exact z4,by rw[lZ.o];exact z5,T4.o.trans z6,z7⟩⟩
 .
   have qD:(ev.k.toList==[114,105,110,103])=false:=by
    have hz:¬ev.k.toList=[114,105,110,103]:=Uw;simpa using hz
   have zkr:=aC Uw;clear Uw;refine CW.sq H (CW.pW H Ir A3 T3 λw4 Q lG A4 T4 HQ=>?_);have Ng:=aC (lG▸uP.o);go_wp2;refine HQ.o _ _ ?_;clear HQ
   try simp only[qD]
   clear qD;refine CW.cond H (t:=false) rfl Ns ?_;by_cases U2:ev.k.toList=I6
   .
     have qD:(ev.k.toList==[104,97,110,103])=true:=by rw[U2];rfl
     have lM:=aC U2;clear U2;refine CW.sq H (CW.pW H Ir A4 T4 λw5 Q nU A5 T5 HQ=>?_);have Cu:=aC (nU▸Ng.o);go_wp2;refine HQ.o _ _ ?_;clear HQ
     try simp only[qD]
     clear qD;refine CW.cond H (t:=true) rfl Ns ?_;refine CW.sq H ?_;refine CW.rg H [0,1,2,3,4] ?_;refine CR.mv H (.pointer (some ⟨hb,0,none⟩)) ?_;refine CR.mg H (.pointer (some ⟨gx,1,none⟩)) ?_;refine CR.mv H (.int .i64 ev.a) ?_ (hx:=λT=>by have hh:(Tt.tp w5 T 0).cell? _=_:=aJ Cu.o 1;unfold aO;go_simp);have Nw:Bu e.W k (Cq d.r ev.a):=by
      have:=HW.o;unfold o8 at this;rw[if_neg xY,if_neg xY,if_neg xY,if_pos lM.o] at this;exact this
     have lZ:=aC (show eG d.r ev=l7 d.r ev.a by unfold eG;rw[if_neg xY,if_neg xY,if_neg xY,if_pos lM.o]);have rP:=aC (show o8 d.r ev=Cq d.r ev.a by unfold o8;rw[if_neg xY,if_neg xY,if_neg xY,if_pos lM.o]);refine CR.cl H (zBq H A5.o HP.o.mr HP.o.i (eP HP.o.lo_ T5.o.size) Nw hK) (λK' l' y w' hl oN=>?_);simp only[b7,gK,dV,dX];obtain⟨z1,rfl,z3⟩:=oN;refine nP ?_;refine CR.mv H (.string ⟨(l7 d.r ev.a).2.toArray⟩) ?_;refine CR.nil H ?_;refine CW.rt H ?_;obtain⟨v',z4,z5,z6,z7⟩:=z3;refine⟨.inr rfl,rfl,.string ⟨(l7 d.r ev.a).2.toArray⟩,rfl,⟨by rw[rP.o];exact z1,by rw[lZ.o],v',by rw[lZ.o];exact z4,by rw[lZ.o];exact z5,T5.o.trans z6,z7⟩⟩
   .
     have qD:(ev.k.toList==[104,97,110,103])=false:=by
      have hz:¬ev.k.toList=[104,97,110,103]:=U2;simpa using hz
     have zjE:=aC U2;clear U2;refine CW.sq H (CW.pW H Ir A4 T4 λw5 Q nU A5 T5 HQ=>?_);have Cu:=aC (nU▸Ng.o);go_wp2;refine HQ.o _ _ ?_;clear HQ
     try simp only[qD]
     clear qD;refine CW.cond H (t:=false) rfl Ns ?_;by_cases Wx:ev.k.toList=Hs
     .
       have qD:(ev.k.toList==[97,110,115,119,101,114])=true:=by rw[Wx];rfl
       have lM:=aC Wx;clear Wx;refine CW.sq H (CW.pW H Ir A5 T5 λw6 Q o5 A6 T6 HQ=>?_);have Ko:=aC (o5▸Cu.o);go_wp2;refine HQ.o _ _ ?_;clear HQ
       try simp only[qD]
       clear qD;refine CW.cond H (t:=true) rfl Ns ?_;refine CW.sq H ?_;refine CW.rg H [0,1,2,3,4] ?_;refine CR.mv H (.pointer (some ⟨hb,0,none⟩)) ?_;refine CR.mg H (.pointer (some ⟨gx,1,none⟩)) ?_;refine CR.mv H (.int .i64 ev.a) ?_ (hx:=λT=>by have hh:(Tt.tp w6 T 0).cell? _=_:=aJ Ko.o 1;unfold aO;go_simp)
       obtain⟨Ob,Ag⟩:1<=ev.a/\ev.a<=d.r.o.op:=by
        rcases zfY.o with h|h|⟨_,h⟩|h
        .rw[h.1] at lM;exact absurd lM.o aH
        .rw[h.1] at lM;exact absurd lM.o aH
        .exact⟨h.1,h.2.1⟩
        .rw[h.1] at lM;exact absurd lM.o aH
       obtain⟨q,lT⟩:∃q:Nat,ev.a=(q:Int)+1:=⟨(ev.a-1).toNat,aD⟩;have hq:q<d.qn.length:=aD;have x6:q<=100:=aD;have Nw:Bu e.W k (Gc d.r ((q:Int)+1)):=by
        have:=HW.o;unfold o8 at this;rw[if_neg xY,if_pos lM.o,lT] at this;exact this
       have lZ:=aC (show eG d.r ev=nG d.r ((q:Int)+1) by unfold eG;rw[if_neg xY,if_pos lM.o,lT]);have rP:=aC (show o8 d.r ev=Gc d.r ((q:Int)+1) by unfold o8;rw[if_neg xY,if_pos lM.o,lT]);rw[lT];refine CR.cl H (zE0 H A6.o HP.o.mr HP.o.i Nw hq x6 hK) (λK' l' y w' hl oN=>?_);simp only[b7,gK,dV,dX];obtain⟨z1,rfl,z3⟩:=oN;refine nP ?_;refine CR.mv H (.string ⟨(nG d.r ((q:Int)+1)).2.toArray⟩) ?_;refine CR.nil H ?_;refine CW.rt H ?_;obtain⟨v',z4,z5,z6,z7⟩:=z3;refine⟨.inr rfl,rfl,.string ⟨(nG d.r ((q:Int)+1)).2.toArray⟩,rfl,⟨by rw[rP.o];exact z1,by rw[lZ.o],v',by rw[lZ.o];exact z4,by rw[lZ.o];exact z5,T6.o.trans z6,z7⟩⟩
     .
       have qD:(ev.k.toList==[97,110,115,119,101,114])=false:=by
        have hz:¬ev.k.toList=[97,110,115,119,101,114]:=Wx;simpa using hz
       have zmi:=aC Wx;clear Wx;refine CW.sq H (CW.pW H Ir A5 T5 λw6 Q o5 A6 T6 HQ=>?_);have Ko:=aC (o5▸Cu.o);go_wp2;refine HQ.o _ _ ?_;clear HQ
       try simp only[qD]
       clear qD;refine CW.cond H (t:=false) rfl Ns ?_;by_cases Vy:ev.k.toList=He
       .
         have qD:(ev.k.toList==[114,101,116,117,114,110])=true:=by rw[Vy];rfl
         have lM:=aC Vy;clear Vy;refine CW.sq H (CW.pW H Ir A6 T6 λw7 Q qT A7 T7 HQ=>?_);have Fb:=aC (qT▸Ko.o);go_wp2;refine HQ.o _ _ ?_;clear HQ
         try simp only[qD]
         clear qD;refine CW.cond H (t:=true) rfl Ns ?_;refine CW.sq H ?_;refine CW.rg H [0,1,2,3,4] ?_;refine CR.mv H (.pointer (some ⟨hb,0,none⟩)) ?_;refine CR.mg H (.pointer (some ⟨gx,1,none⟩)) ?_;refine CR.mv H (.int .i64 ev.a) ?_ (hx:=λT=>by have hh:(Tt.tp w7 T 0).cell? _=_:=aJ Fb.o 1;unfold aO;go_simp)
         obtain⟨Ob,Ag⟩:1<=ev.a/\ev.a<=d.r.o.op:=by
          rcases zfY.o with h|h|⟨_,h⟩|h
          .rw[h.1] at lM;exact absurd lM.o aH
          .rw[h.1] at lM;exact absurd lM.o aH
          .exact⟨h.1,h.2.1⟩
          .rw[h.1] at lM;exact absurd lM.o aH
         obtain⟨q,lT⟩:∃q:Nat,ev.a=(q:Int)+1:=⟨(ev.a-1).toNat,aD⟩;have hq:q<d.qn.length:=aD;have x6:q<=100:=aD;have Nw:Bu e.W k (Ct d.r ((q:Int)+1)):=by
          have:=HW.o;unfold o8 at this;rw[if_neg xY,if_neg xY,if_pos lM.o,lT] at this;exact this
         have lZ:=aC (show eG d.r ev=lV d.r ((q:Int)+1) by unfold eG;rw[if_neg xY,if_neg xY,if_pos lM.o,lT]);have rP:=aC (show o8 d.r ev=Ct d.r ((q:Int)+1) by unfold o8;rw[if_neg xY,if_neg xY,if_pos lM.o,lT]);rw[lT];refine CR.cl H (zJq H A7.o HP.o.mr HP.o.i (eP HP.o.lo_ T7.o.size) Nw hq x6 hK) (λK' l' y w' hl oN=>?_);simp only[b7,gK,dV,dX];obtain⟨z1,rfl,z3⟩:=oN;refine nP ?_;refine CR.mv H (.string ⟨(lV d.r ((q:Int)+1)).2.toArray⟩) ?_;refine CR.nil H ?_;refine CW.rt H ?_;obtain⟨v',z4,z5,z6,z7⟩:=z3;refine⟨.inr rfl,rfl,.string ⟨(lV d.r ((q:Int)+1)).2.toArray⟩,rfl,⟨by rw[rP.o];exact z1,by rw[lZ.o],v',by rw[lZ.o];exact z4,by rw[lZ.o];exact z5,T7.o.trans z6,z7⟩⟩
       .
         have qD:(ev.k.toList==[114,101,116,117,114,110])=false:=by
          have hz:¬ev.k.toList=[114,101,116,117,114,110]:=Vy;simpa using hz
         have zjN:=aC Vy;clear Vy;refine CW.sq H (CW.pW H Ir A6 T6 λw7 Q qT A7 T7 HQ=>?_);have Fb:=aC (qT▸Ko.o);go_wp2;refine HQ.o _ _ ?_;clear HQ
         try simp only[qD]
         clear qD;refine CW.cond H (t:=false) rfl Ns ?_;refine CW.sk H ?_;dsimp only
         obtain⟨Ob,Ag⟩:1<=ev.a/\ev.a<=60:=by
          rcases zfY.o with h|h|⟨h,_⟩|h
          .exact absurd h.1 zkr.o
          .exact absurd h.1 zjE.o
          .rcases h with h|h
           .exact absurd h zmi.o
           .exact absurd h zjN.o
          .exact⟨h.2.1,h.2.2.1⟩
         have lZ:=aC (show eG d.r ev=tT d.r ev.a by unfold eG;rw[if_neg zkr.o,if_neg zmi.o,if_neg zjN.o,if_neg zjE.o]);have rP:=aC (show o8 d.r ev=[] by unfold o8;rw[if_neg zkr.o,if_neg zmi.o,if_neg zjN.o,if_neg zjE.o]);have zDW:=aC (λW (t:bL hb v w v W)=>HP.o.tab.turn HP.o.at_ HP.o.lo_ t);refine CW.sq H (CW.pW H Ir A7 T7 λw8 Q Hp A8 T8 HQ=>?_);have Iu:=aC (Hp▸Fb.o);have kx:=aJ Iu.o 1;have zKm:=aJ Iu.o 0
         go_wp2_with (go_at_call 69;refine(zGL A8.o HP.o.mr HP.o.i (eP HP.o.lo_ T8.o.size) (zDW.o _ T8.o) aD (by have:=HP.o.clk;omega) HP.o.nbw).mono ?_;rintro en wz ⟨rfl,z3⟩;have Z3:=aC z3;clear z3)
         refine HQ.o _ _ ?_;clear HQ;refine CW.rt H ?_;obtain⟨v',z4,z5,z6,z7⟩:=Z3.o;refine⟨.inr rfl,rfl,.string ⟨(tT d.r ev.a).2.toArray⟩,rfl,⟨by rw[rP.o];rfl,by rw[lZ.o],v',by rw[lZ.o];exact z4,by rw[lZ.o];exact z5,T8.o.trans z6,z7⟩⟩
section
variable {ops:Array aY}{ch:List Nat}{V0:Nat->aF}{vs:List aF}{t0 t:Array aF}
variable {s:Tmp}
theorem qA (KO:J4 ops){i:Nat}{o:aY}{v:aF}(ho:ops[i]? =some o)(hd:o.dst=some s)(hz:s<t0.size)(hv:VV ch V0 vs i=v):(cZ ops (VV ch V0 vs) t0).getD s aA=v:=by
 have h:=(Tr (vals:=VV ch V0 vs) (t0:=t0) KO).got i o s ho hd hz (by simp[(dM.1 ho).1]);rw[tD,h,hv];rfl
theorem zej (KO:J4 ops)(hs:F6 ops s=false):(cZ ops (VV ch V0 vs) t0).getD s aA=t0.getD s undef:=by
 rw[tD,(Tr (vals:=VV ch V0 vs) (t0:=t0) KO).old s (λi o h1 _ h2=>by rw[zk4 h1 h2] at hs;cases hs),tD]
theorem Ge {o:aY}(lR:∀s∈o.looksAt ops,t[s]? =(cZ ops (VV ch V0 vs) t0)[s]?)(hs:s∈o.looksAt ops){v:aF}(h:(cZ ops (VV ch V0 vs) t0).getD s aA=v):(bH t []).eval (.tmp s)=v:=by
 have e:(bH t []).eval (.tmp s)=t.getD s undef:=rfl;rw[e,tD,lR s hs,<-tD];exact h
end
def zmc:Go.Code:=(Tryd.f25.body).getD .skip
def rWO3:Go.Code:=match zmc with| .seq (.seq _ (.block _ (.loop (.seq _ (.seq _ (.seq (.block _ (.seq _ (a))) _)))))) _=>a|_=>.skip
def rWO8:Go.Code:=match zmc with| .seq _ (.seq _ (.block _ (.loop (.seq _ (.seq _ (.seq (.block _ (.seq _ (.seq (a) _))) _))))))=>a|_=>.skip
def rWO9:Go.Code:=match zmc with| .seq _ (.seq _ (.block _ (.loop (.seq _ (.seq _ (.seq (.block _ (.seq _ (.seq _ (a)))) _))))))=>a|_=>.skip
def oY:Array Oper:=match rWO3 with| .region _ ops _=>ops|_=>#[]
def zz8:rWO3=.region 3 oY true:=rfl
abbrev zuW:Oper:=⟨some 14,.move (.tmp 0),45,"l6_office.go:253",#[],none⟩
def zHY:oY[0]? =some zuW:=rfl
abbrev zwj:Oper:=⟨some 15,.move (.tmp 0),45,"l6_office.go:253",#[],none⟩
def zBh:oY[1]? =some zwj:=rfl
abbrev znJ:Oper:=⟨some 16,.nilCheck (.tmp 15),0,"l6_office.go:253",#[⟨1,.data⟩],none⟩
def zE5:oY[2]? =some znJ:=rfl
abbrev zxp:Oper:=⟨some 17,.fieldAddr 55 (.tmp 16) 10,0,"l6_office.go:253",#[⟨2,.data⟩],none⟩
def zEr:oY[3]? =some zxp:=rfl
abbrev zo2:Oper:=⟨some 18,.load 38 (.tmp 17),38,"l6_office.go:253",#[⟨3,.data⟩],none⟩
def zFY:oY[4]? =some zo2:=rfl
abbrev zwL:Oper:=⟨some 19,.move (.tmp 0),45,"l6_office.go:253",#[],none⟩
def zHa:oY[5]? =some zwL:=rfl
abbrev zrv:Oper:=⟨some 20,.load 43 (.tmp 5),43,"l6_office.go:253",#[],none⟩
def zEl:oY[6]? =some zrv:=rfl
abbrev ztP:Oper:=⟨some 21,.call ⟨.value (.func 46),#[.tmp 19,.tmp 20],#[45,43]⟩,9,"l6_office.go:253",#[⟨5,.data⟩,⟨6,.data⟩],none⟩
def zhI:oY[7]? =some ztP:=rfl
abbrev zkd:Oper:=⟨some 22,.buildSlice 38 1 #[(0,.tmp 21)],38,"l6_office.go:253",#[⟨7,.data⟩],none⟩
def zgc:oY[8]? =some zkd:=rfl
abbrev zwA:Oper:=⟨some 23,.call ⟨.builtin .append,#[.tmp 18,.tmp 22],#[38,38]⟩,38,"l6_office.go:253",#[⟨4,.data⟩,⟨8,.data⟩,⟨7,.chain⟩],none⟩
def zlY:oY[9]? =some zwA:=rfl
abbrev zsA:Oper:=⟨some 24,.nilCheck (.tmp 14),0,"l6_office.go:253",#[⟨0,.data⟩,⟨0,.phase⟩,⟨1,.phase⟩,⟨2,.phase⟩,⟨3,.phase⟩,⟨4,.phase⟩,⟨5,.phase⟩,⟨6,.phase⟩,⟨7,.phase⟩,⟨8,.phase⟩,⟨9,.phase⟩],none⟩
def zGK:oY[10]? =some zsA:=rfl
abbrev zui:Oper:=⟨some 25,.fieldAddr 55 (.tmp 24) 10,0,"l6_office.go:253",#[⟨10,.data⟩,⟨0,.phase⟩,⟨1,.phase⟩,⟨2,.phase⟩,⟨3,.phase⟩,⟨4,.phase⟩,⟨5,.phase⟩,⟨6,.phase⟩,⟨7,.phase⟩,⟨8,.phase⟩,⟨9,.phase⟩],none⟩
def zCb:oY[11]? =some zui:=rfl
abbrev ziL:Oper:=⟨none,.store 38 (.tmp 25) (.tmp 23),0,"l6_office.go:253",#[⟨11,.data⟩,⟨9,.data⟩,⟨9,.chain⟩,⟨0,.phase⟩,⟨1,.phase⟩,⟨2,.phase⟩,⟨3,.phase⟩,⟨4,.phase⟩,⟨5,.phase⟩,⟨6,.phase⟩,⟨7,.phase⟩,⟨8,.phase⟩,⟨9,.phase⟩],none⟩
def zmG:oY[12]? =some ziL:=rfl
def nX:Array Oper:=match rWO8 with| .region _ ops _=>ops|_=>#[]
def zEx:rWO8=.region 8 nX true:=rfl
abbrev zv6:Oper:=⟨some 37,.move (.tmp 0),45,"l6_office.go:256",#[],none⟩
def zxO:nX[0]? =some zv6:=rfl
abbrev zr1:Oper:=⟨some 38,.move (.tmp 0),45,"l6_office.go:256",#[],none⟩
def zEh:nX[1]? =some zr1:=rfl
abbrev zrb:Oper:=⟨some 39,.nilCheck (.tmp 38),0,"l6_office.go:256",#[⟨1,.data⟩],none⟩
def zIM:nX[2]? =some zrb:=rfl
abbrev zvi:Oper:=⟨some 40,.fieldAddr 55 (.tmp 39) 11,0,"l6_office.go:256",#[⟨2,.data⟩],none⟩
def zJh:nX[3]? =some zvi:=rfl
abbrev zr7:Oper:=⟨some 41,.load 52 (.tmp 40),52,"l6_office.go:256",#[⟨3,.data⟩],none⟩
def zJd:nX[4]? =some zr7:=rfl
abbrev zob:Oper:=⟨some 42,.move (.tmp 0),45,"l6_office.go:256",#[],none⟩
def zHt:nX[5]? =some zob:=rfl
abbrev zrL:Oper:=⟨some 43,.move (.tmp 6),3,"l6_office.go:256",#[],none⟩
def zGr:nX[6]? =some zrL:=rfl
abbrev zk2:Oper:=⟨some 44,.binOp .add 3 (.tmp 43) (.const (.int .i64 1)) 3,3,"l6_office.go:256",#[⟨6,.data⟩],none⟩
def zyV:nX[7]? =some zk2:=rfl
abbrev zno:Oper:=⟨some 45,.call ⟨.value (.func 47),#[.tmp 42,.tmp 44,.const (.int .i64 0),.const (.int .i64 0)],#[45,3,3,3]⟩,3,"l6_office.go:256",#[⟨5,.data⟩,⟨7,.data⟩],none⟩
def zk8:nX[8]? =some zno:=rfl
abbrev zk6:Oper:=⟨some 46,.buildSlice 52 1 #[(0,.tmp 45)],52,"l6_office.go:256",#[⟨8,.data⟩],none⟩
def zgN:nX[9]? =some zk6:=rfl
abbrev zoo:Oper:=⟨some 47,.call ⟨.builtin .append,#[.tmp 41,.tmp 46],#[52,52]⟩,52,"l6_office.go:256",#[⟨4,.data⟩,⟨9,.data⟩,⟨8,.chain⟩],none⟩
def zkG:nX[10]? =some zoo:=rfl
abbrev zt7:Oper:=⟨some 48,.nilCheck (.tmp 37),0,"l6_office.go:256",#[⟨0,.data⟩,⟨0,.phase⟩,⟨1,.phase⟩,⟨2,.phase⟩,⟨3,.phase⟩,⟨4,.phase⟩,⟨5,.phase⟩,⟨6,.phase⟩,⟨7,.phase⟩,⟨8,.phase⟩,⟨9,.phase⟩,⟨10,.phase⟩],none⟩
def zIT:nX[11]? =some zt7:=rfl
abbrev zvs:Oper:=⟨some 49,.fieldAddr 55 (.tmp 48) 11,0,"l6_office.go:256",#[⟨11,.data⟩,⟨0,.phase⟩,⟨1,.phase⟩,⟨2,.phase⟩,⟨3,.phase⟩,⟨4,.phase⟩,⟨5,.phase⟩,⟨6,.phase⟩,⟨7,.phase⟩,⟨8,.phase⟩,⟨9,.phase⟩,⟨10,.phase⟩],none⟩
def zEM:nX[12]? =some zvs:=rfl
abbrev zjb:Oper:=⟨none,.store 52 (.tmp 49) (.tmp 47),0,"l6_office.go:256",#[⟨12,.data⟩,⟨10,.data⟩,⟨10,.chain⟩,⟨0,.phase⟩,⟨1,.phase⟩,⟨2,.phase⟩,⟨3,.phase⟩,⟨4,.phase⟩,⟨5,.phase⟩,⟨6,.phase⟩,⟨7,.phase⟩,⟨8,.phase⟩,⟨9,.phase⟩,⟨10,.phase⟩],none⟩
def zl9:nX[13]? =some zjb:=rfl
def opsWO9:Array Oper:=match rWO9 with| .region _ ops _=>ops|_=>#[]
abbrev oWO9_1:Oper:=⟨none,.call ⟨.builtin .close,#[.tmp 50],#[72]⟩,0,"l6_office.go:257",#[⟨0,.data⟩],none⟩
def zJb:opsWO9[1]? =some oWO9_1:=rfl
def O3:vK aK 25:=⟨_,zg3,.inl rfl⟩
def zzo:(aK.info? 9).map (λi=>(i.zero,i.size,i.bytes))=some (some (.string ⟨#[]⟩),1,16):=aS
variable {V:Nat->aF}{Tf:Array aF}
theorem bs3 {s:ByteArray}(hT:wR Tf V)(zKH:V 21=.string s):(aO (bH Tf []).eval zkd).run aK w=.ok (.value (.slice (some ⟨w.heap.size,0,none⟩) 1 1)) (w.alloc (.cells #[.string s] 9)):=by
 unfold aO;go_simp
variable {sA:aF}{T:kK}
theorem st3 {q1 q2:Nat}(hT:wR Tf V)(zL4:V 25=.pointer (some ⟨hb,12,none⟩))(zKJ:V 23=.slice (some ⟨q1,0,none⟩) n q2)(hh:w.cell? ⟨hb,12,none⟩=some sA)(hf:w.frozen? ⟨hb,12,none⟩=false):(aO (bH Tf []).eval ziL).run aK (Tt.tp w T 0)=.ok .skip (Tt.tp (w.setCell ⟨hb,12,none⟩ (.slice (some ⟨q1,0,none⟩) n q2)) T 0):=by
 have zfA:(Tt.tp w T 0).cell? ⟨hb,12,none⟩=some sA:=hh;have Ak:(Tt.tp w T 0).frozen? ⟨hb,12,none⟩=false:=hf;clear hh hf;unfold aO;go_simp
 try rfl
def zqK:Hw oY=true:=aS
def zD9:Nq oY [7,8,9,12]=true:=aS
def zDP:oY.toList.map (·.dst)=[some 14,some 15,some 16,some 17,some 18,some 19,some 20,some 21,some 22,some 23,some 24,some 25,none]:=rfl
def zAO:oY.toList=[zuW,zwj,znJ,zxp,zo2,zwL,zrv,ztP,zkd,zwA,zsA,zui,ziL]:=rfl
def Gs (hb gb:Nat)(sA:aF)(ev:dG)(i:Nat):Value:=([.pointer (some ⟨hb,0,none⟩),.pointer (some ⟨hb,0,none⟩),.pointer (some ⟨hb,0,none⟩),.pointer (some ⟨hb,12,none⟩),sA,.pointer (some ⟨hb,0,none⟩),.agg #[.string ev.k,.int .i64 ev.a,.int .i64 ev.b],aA,aA,aA,.pointer (some ⟨hb,0,none⟩),.pointer (some ⟨hb,12,none⟩),aA]:List aF).getD i aA
structure W3 where
 es:Fy
 lo:Nat
 hb:Nat
 gb:Nat
 k:Nat
 v0:fC
 w0:aE
 v:fC
 d:nF
 ev:dG
 K0:Pr
def W3.P1 (c:W3)(w:aE):Prop:=∃v1,bE w c.lo c.hb v1 {c.d with r:=(eG c.d.r c.ev).1}/\fT v1 {c.d with r:=(eG c.d.r c.ev).1}/\bL c.hb c.v0 c.w0 v1 w/\zI c.v v1/\some c.gb∉parts v1 c.hb
def W3.P2 (c:W3)(w:aE):Prop:=∃v2,bE w c.lo c.hb v2 {c.d with r:=Eb (eG c.d.r c.ev)}/\fT v2 {c.d with r:=Eb (eG c.d.r c.ev)}/\bL c.hb c.v0 c.w0 v2 w/\v2.sL=c.v.sL/\v2.sQ=c.v.sQ
def W3.y (c:W3):Value:=.string ⟨(eG c.d.r c.ev).2.toArray⟩
def W3.Rd (c:W3)(w:aE):Prop:=w.cell? ⟨c.hb,12,none⟩=some c.v.sA/\w.heap[c.gb]? =some (.cells #[.string c.ev.k,.int .i64 c.ev.a,.int .i64 c.ev.b] 43)
def W3.n1 (c:W3):Nat:=c.k+(o8 c.d.r c.ev).length
def W3.St (c:W3)(vs:List aF)(l':gE)(w':aE):Prop:=match vs with
 |[]=>l'=.wk c.es.qs c.k/\EvPre c.lo c.hb c.v c.d w'/\bL c.hb c.v0 c.w0 c.v w'/\some c.gb∉parts c.v c.hb
 |[a]=>l'=.wk c.es.qs c.n1/\a=c.y/\c.P1 w'/\c.lo<=w'.heap.size
 |[a,b]=>l'=.wk c.es.qs c.n1/\(∃g,b=.slice (some ⟨g,0,none⟩) 1 1/\w'.heap[g]? =some (.cells #[c.y] 9))/\c.P1 w'/\c.lo<=w'.heap.size
 |[a,b,x]=>l'=.wk c.es.qs c.n1/\(∃q1 q2,x=.slice (some ⟨q1,0,none⟩) (c.d.r.log.length+1) q2)/\w'.frozen? ⟨c.hb,12,none⟩=false/\c.P2 (w'.setCell ⟨c.hb,12,none⟩ x)
 |_=>l'=.wk c.es.qs c.n1/\c.P2 w'
def SR3 (c:W3)(vs:List aF)(K':Pr)(l':gE)(w':aE):Prop:=c.K0.le K'/\(vs.length<4->c.Rd w')/\c.St vs l' w'
def EvPre.tp (h:EvPre lo hb v d w)(T:kK)(n:Nat):EvPre lo hb v d (Tt.tp w T n):=⟨h.at_.tp T n,h.mr,h.i,h.lo_,h.tab.keep λ_ _=>rfl,h.clk,h.nbw⟩
variable {c:W3}
theorem W3.P1.tp (h:c.P1 w)(T:kK)(n:Nat):c.P1 (Tt.tp w T n):=by
 obtain⟨v1,a,b,d,e⟩:=h;exact⟨v1,a.tp T n,b,d.tp T n,e⟩
theorem W3.P2.tp (h:c.P2 w)(T:kK)(n:Nat):c.P2 (Tt.tp w T n):=by
 obtain⟨v1,a,b,d,e⟩:=h;exact⟨v1,a.tp T n,b,d.tp T n,e⟩
theorem SR3.tp (vs:List aF)(K':Pr)(l':gE)(w':aE)(T:kK)(n:Nat)(h:SR3 c vs K' l' w'):SR3 c vs K' l' (Tt.tp w' T n):=by
 obtain⟨h1,h2,h3⟩:=h;refine⟨h1,h2,?_⟩;rcases vs with _|⟨a,_|⟨b,_|⟨x,_|⟨y,vs⟩⟩⟩⟩
 .exact⟨h3.1,h3.2.1.tp T n,h3.2.2.1.tp T n,h3.2.2.2⟩
 .exact⟨h3.1,h3.2.1,h3.2.2.1.tp T n,h3.2.2.2⟩
 .exact⟨h3.1,h3.2.1,h3.2.2.1.tp T n,h3.2.2.2⟩
 .exact⟨h3.1,h3.2.1,h3.2.2.1,W3.P2.tp (w:=w'.setCell _ _) h3.2.2.2 T n⟩
 .exact⟨h3.1,W3.P2.tp h3.2 T n⟩
variable {B:List Nat}{Φ:nQ->WS->Prop}
theorem cw_R3 (H:c.es.d.Ok)(mD:sK c.d.r.o.op c.ev=true)(hW:Bu c.es.W c.k (o8 c.d.r c.ev))(hK:∀(i g:Nat),c.d.qn[i]? =some g->c.K0 g (qa c.es.qs i))(zh0:(eG c.d.r c.ev).1.log.length<=1000)(zoH:(eG c.d.r c.ev).1.log=c.d.r.log)(hz:t0.size=52)(tX:t0.getD 0 aA=.pointer (some ⟨c.hb,0,none⟩))(zFc:t0.getD 5 aA=.pointer (some ⟨c.gb,0,none⟩))
 (hk:∀vs K' l' w',vs.length=4->SR3 c vs K' l' w'->Φ .normal ⟨[],K',l',cZ oY (VV [7,8,9,12] (Gs c.hb c.gb c.v.sA c.ev) vs) t0,w'⟩) (h0:SR3 c [] K l w):CW c.es.d B 25 rWO3 ⟨[],K,l,t0,w⟩ Φ:=by
 rw[zz8];have KO:=Rq zqK;refine CW.drawn H vD.mixed [7,8,9,12] (Gs c.hb c.gb c.v.sA c.ev) (SR3 c) zqK zD9 Le (λvs K l w T e h=>SR3.tp vs K l w T e h) (λi o ho hi=>?_) (λvs ci o K' l' w' hc ho hS t rest lR fJ=>?_) hk h0
 .have hl:oY.toList[i]? =some o:=by rw[zR];exact ho
  rw[zAO] at hl;have aP:i<13:=by have:=(jW.1 hl).1;simpa using this
  have tn:∀(vs:List aF) {j:Nat} {oj:aY} {s:Tmp} {v:aF},oY[j]? =some oj->oj.dst=some s->s<t0.size->VV [7,8,9,12] (Gs c.hb c.gb c.v.sA c.ev) vs j=v->(cZ oY (VV [7,8,9,12] (Gs c.hb c.gb c.v.sA c.ev) vs) t0).getD s aA=v:=λvs _ _ _ _ a b c d=>qA KO a b c d;have tq:∀(vs:List aF) {s:Tmp},F6 oY s=false->(cZ oY (VV [7,8,9,12] (Gs c.hb c.gb c.v.sA c.ev) vs) t0).getD s aA=t0.getD s undef:=λvs _ a=>zej KO a;rcases i with _|_|_|_|_|_|_|_|_|_|_|_|_|i
  .obtain rfl:=cD hl
   exact⟨aS,λvs K' l' w' hv hS=>⟨dU rfl,tZ (.pointer (some ⟨c.hb,0,none⟩)) ((tq vs aS).trans tX)⟩⟩
  .obtain rfl:=cD hl
   exact⟨aS,λvs K' l' w' hv hS=>⟨dU rfl,tZ (.pointer (some ⟨c.hb,0,none⟩)) ((tq vs aS).trans tX)⟩⟩
  .obtain rfl:=cD hl
   exact⟨aS,λvs K' l' w' hv hS=>⟨dU rfl,tZ (.pointer (some ⟨c.hb,0,none⟩)) (tn vs zBh rfl kH rfl)⟩⟩
  .obtain rfl:=cD hl
   exact⟨aS,λvs K' l' w' hv hS=>⟨dU rfl,tZ (.pointer (some ⟨c.hb,12,none⟩)) (tn vs zE5 rfl kH rfl)⟩⟩
  .obtain rfl:=cD hl
   exact⟨aS,λvs K' l' w' hv hS=>⟨dU rfl,Mw (c.v.sA) (tn vs zEr rfl kH rfl) (hS.2.1 hv).1⟩⟩
  .obtain rfl:=cD hl
   exact⟨aS,λvs K' l' w' hv hS=>⟨dU rfl,tZ (.pointer (some ⟨c.hb,0,none⟩)) ((tq vs aS).trans tX)⟩⟩
  .obtain rfl:=cD hl
   exact⟨aS,λvs K' l' w' hv hS=>⟨dU rfl,rd4 (.agg #[.string c.ev.k,.int .i64 c.ev.a,.int .i64 c.ev.b]) ((tq vs aS).trans zFc) (aJ (hS.2.1 hv).2 0) (aJ (hS.2.1 hv).2 1) (aJ (hS.2.1 hv).2 2)⟩⟩
  .exact absurd aH hi
  .exact absurd aH hi
  .exact absurd aH hi
  .obtain rfl:=cD hl
   exact⟨aS,λvs K' l' w' hv hS=>⟨dU rfl,tZ (.pointer (some ⟨c.hb,0,none⟩)) (tn vs zHY rfl kH rfl)⟩⟩
  .obtain rfl:=cD hl
   exact⟨aS,λvs K' l' w' hv hS=>⟨dU rfl,tZ (.pointer (some ⟨c.hb,12,none⟩)) (tn vs zGK rfl kH rfl)⟩⟩
  .exact absurd aH hi
  .omega
 .rcases vs with _|⟨a,_|⟨b,_|⟨c',_|⟨d',vs⟩⟩⟩⟩
  .obtain rfl:7=ci:=by simpa using hc
   rw[zhI] at ho;obtain rfl:=cD ho;obtain⟨s1,s2,s3,s4,s5,s6⟩:=hS;have zGg:=Ge lR (s:=19) aH (qA KO zHa rfl kH rfl);have a20:=Ge lR (s:=20) aH (qA KO zEl rfl kH rfl);refine CR.call' H #[.pointer (some ⟨c.hb,0,none⟩),.agg #[.string c.ev.k,.int .i64 c.ev.a,.int .i64 c.ev.b]] zhI (dU rfl) rfl (allx rfl) rfl (by simp only[uG,fG,tH];rw[zGg,a20];rfl) (s3▸zI2 H s4 mD hW (λi g hg=>s1 _ _ (hK i g hg))) (λK2 l2 y w2 hl oN=>?_);obtain⟨z1,z2,v1,z3,z4,z5,z6⟩:=oN;have eK:=s4.at_.turned z5 (s2 aQ).2 s6;refine fJ y K2 l2 w2 hl ⟨vS s1 hl,λ_=>⟨?_,eK.1⟩,z1,z2,⟨v1,z3,z4,s5.trans z5,z6,eK.2⟩,eP s4.lo_ z5.size⟩;have:=aJ z3.blk 12;rw[this,<-z6.2.2.1];rfl
  .obtain rfl:8=ci:=by simpa using hc
   rw[zgc] at ho;obtain rfl:=cD ho;obtain⟨s1,s2,s3,rfl,⟨v1,z3,z4,z5,z6,z7⟩,s6⟩:=hS;have zDN:(cZ oY (VV [7,8,9,12] (Gs c.hb c.gb c.v.sA c.ev) [c.y]) t0).getD 21 aA=c.y:=qA KO zhI rfl kH rfl;refine CR.op H zgc (dU rfl) aS (λT=>⟨.slice (some ⟨w'.heap.size,0,none⟩) 1 1,(Tt.tp w' T 0).alloc (.cells #[c.y] 9),.inl ?_,?_⟩)
   .rw[Ds (KO.sel 8 _ zgc) lR]
    have hT:wR (cZ oY (VV [7,8,9,12] (Gs c.hb c.gb c.v.sA c.ev) [c.y]) t0) (λs=>(cZ oY (VV [7,8,9,12] (Gs c.hb c.gb c.v.sA c.ev) [c.y]) t0).getD s aA):=λs=>rfl;exact bs3 (s:=⟨(eG c.d.r c.ev).2.toArray⟩) hT zDN
   .have al:bL c.hb v1 w' v1 ((Tt.tp w' T 0).alloc (.cells #[c.y] 9)):=(bL.refl.tp T 0).trans (bL.below (dO (eR _ _) _))
    exact fJ _ _ _ _ (vY _) ⟨s1,λ_=>⟨An (s2 aQ).1 _,dF (s2 aQ).2 _⟩,s3,⟨_,rfl,lO _ _⟩,⟨v1,(z3.tp T 0).alloc _,z4,z5.trans al,z6,z7⟩,eP s6 zdk⟩
  .obtain rfl:9=ci:=by simpa using hc
   rw[zlY] at ho;obtain rfl:=cD ho;obtain⟨s1,s2,s3,⟨g,rfl,hg⟩,⟨v1,z3,z4,z5,z6,z7⟩,s6⟩:=hS;have zGv:=Ge lR (s:=18) aH (qA KO zFY rfl kH rfl);have a22:=Ge lR (s:=22) aH (qA KO zgc rfl kH rfl);refine CR.op H zlY (dU rfl) aS (λT=>?_);have a1:=z3.tp T 0;have nZ:=a1.A;rw[z6.2.2.1] at nZ;obtain⟨q1,q2,w5,fH,cP,mU,eY⟩:=L5 (w:=Tt.tp w' T 0) (t:=38) (ty:=38) zzo Tryd.underlying38 rfl aH nZ (g:=g) (cs:=#[c.y]) (news:=[c.y]) hg rfl (m:=1) rfl aH Me (show(eG c.d.r c.ev).1.log.length+1<=1000000 by omega) aH s6;have Ip:({c.d with r:=(eG c.d.r c.ev).1}:nF).r.log.length=c.d.r.log.length:=by show(eG c.d.r c.ev).1.log.length=_;rw[zoH]
   rw[Ip] at fH cP eY;have zlP:(Tt.tp w' T 0).grownBy w5 v1.sA.ownBlock:=by rw[z6.2.2.1];exact mU
   obtain⟨a6,t6⟩:=a1.putA zlP (xs:=(eG c.d.r c.ev).1.log++[(eG c.d.r c.ev).2]) (by have e:E7 ((eG c.d.r c.ev).1.log++[(eG c.d.r c.ev).2])=E7 (eG c.d.r c.ev).1.log++[c.y]:=(by simp[E7,txt,W3.y]);rw[e];exact cP) (by rw[gJ,zoH];rfl) (by rw[z6.2.2.1];exact eY);have zcj:=a1.other (j:=9) (c:=12) (x:=v1.sA) rfl aH zlP (.slice (some ⟨q1,0,none⟩) (c.d.r.log.length+1) q2);have xU:=zcj.2.trans a1.blk;have eK:w5.heap[c.gb]? =some _:=(zlP.block c.gb (kU (s2 aQ).2) (λe=>z7 (dS (i:=9) (show(parts v1 c.hb)[9]? =some (some c.gb) by rw[e];rfl)))).trans (s2 aQ).2;refine⟨_,w5,.inl (Wb rfl zGv a22 fH),fJ _ _ _ _ (vY _) ⟨s1,λ_=>⟨?_,eK⟩,s3,⟨q1,q2,rfl⟩,eL xU 12,_,a6,?_,z5.trans ((bL.refl.tp T 0).trans t6),?_,?_⟩⟩
   .have:=aJ xU 12
    rw[this,<-z6.2.2.1];rfl
   .refine fT.of z4 ?_ ?_ ?_ ?_ ?_<;>rfl
   .exact z6.1
   .exact z6.2.1
  .obtain rfl:12=ci:=by simpa using hc
   rw[zmG] at ho;obtain rfl:=cD ho;obtain⟨s1,s2,s3,⟨q1,q2,rfl⟩,mH,x7⟩:=hS;have zyp:(cZ oY (VV [7,8,9,12] (Gs c.hb c.gb c.v.sA c.ev) [a,b,.slice (some ⟨q1,0,none⟩) (c.d.r.log.length+1) q2]) t0).getD 23 aA=.slice (some ⟨q1,0,none⟩) (c.d.r.log.length+1) q2:=qA KO zlY rfl kH rfl;have zDh:(cZ oY (VV [7,8,9,12] (Gs c.hb c.gb c.v.sA c.ev) [a,b,.slice (some ⟨q1,0,none⟩) (c.d.r.log.length+1) q2]) t0).getD 25 aA=.pointer (some ⟨c.hb,12,none⟩):=qA KO zCb rfl kH rfl;refine CR.op H zmG (dU rfl) aS (λT=>⟨aA,Tt.tp (w'.setCell ⟨c.hb,12,none⟩ (.slice (some ⟨q1,0,none⟩) (c.d.r.log.length+1) q2)) T 0,.inr ⟨?_,rfl⟩,?_⟩)
   .rw[Ds (KO.sel 12 _ zmG) lR]
    have hT:wR (cZ oY (VV [7,8,9,12] (Gs c.hb c.gb c.v.sA c.ev) [a,b,.slice (some ⟨q1,0,none⟩) (c.d.r.log.length+1) q2]) t0) (λs=>(cZ oY (VV [7,8,9,12] (Gs c.hb c.gb c.v.sA c.ev) [a,b,.slice (some ⟨q1,0,none⟩) (c.d.r.log.length+1) q2]) t0).getD s aA):=λs=>rfl;exact st3 hT zDh zyp (s2 aQ).1 mH
   .exact fJ aA _ _ _ (vY _) ⟨s1,λh=>absurd h aQ,s3,W3.P2.tp x7 T 0⟩
  .simp at hc
theorem bs8 {s:Int}(hT:wR Tf V)(zle:V 45=.int .i64 s):(aO (bH Tf []).eval zk6).run aK w=.ok (.value (.slice (some ⟨w.heap.size,0,none⟩) 1 1)) (w.alloc (.cells #[.int .i64 s] 3)):=by
 unfold aO;go_simp
theorem st8 {q1 q2:Nat}(hT:wR Tf V)(X1:V 49=.pointer (some ⟨hb,13,none⟩))(Zs:V 47=.slice (some ⟨q1,0,none⟩) n q2)(hh:w.cell? ⟨hb,13,none⟩=some sA)(hf:w.frozen? ⟨hb,13,none⟩=false):(aO (bH Tf []).eval zjb).run aK (Tt.tp w T 0)=.ok .skip (Tt.tp (w.setCell ⟨hb,13,none⟩ (.slice (some ⟨q1,0,none⟩) n q2)) T 0):=by
 have zfA:(Tt.tp w T 0).cell? ⟨hb,13,none⟩=some sA:=hh;have Ak:(Tt.tp w T 0).frozen? ⟨hb,13,none⟩=false:=hf;clear hh hf;unfold aO;go_simp
 try rfl
def zxy:Hw nX=true:=aS
def zy6:Nq nX [8,9,10,13]=true:=aS
def zC4:nX.toList.map (·.dst)=[some 37,some 38,some 39,some 40,some 41,some 42,some 43,some 44,some 45,some 46,some 47,some 48,some 49,none]:=rfl
def zJj:nX.toList=[zv6,zr1,zrb,zvi,zr7,zob,zrL,zk2,zno,zk6,zoo,zt7,zvs,zjb]:=rfl
def E0 (hb q:Nat)(sT:aF)(i:Nat):Value:=([.pointer (some ⟨hb,0,none⟩),.pointer (some ⟨hb,0,none⟩),.pointer (some ⟨hb,0,none⟩),.pointer (some ⟨hb,13,none⟩),sT,.pointer (some ⟨hb,0,none⟩),.int .i64 (q:Int),.int .i64 ((q:Int)+1),aA,aA,aA,.pointer (some ⟨hb,0,none⟩),.pointer (some ⟨hb,13,none⟩),aA]:List aF).getD i aA
theorem rdR8_7 {q:Nat}{sT:aF}(hT:wR Tf V)(zg8:V 43=.int .i64 (q:Int))(zKb:q<=100):(aO (bH Tf []).eval zk2).run aK w=.ok (.value (.int .i64 ((q:Int)+1))) w:=by
 unfold aO;go_simp;exact Ep aD aD
structure W8 where
 es:Fy
 lo:Nat
 hb:Nat
 q:Nat
 k:Nat
 ans:Int
 v0:fC
 w0:aE
 v:fC
 d:nF
 K0:Pr
def W8.P1 (c:W8)(w:aE):Prop:=bE w c.lo c.hb c.v c.d/\bL c.hb c.v0 c.w0 c.v w/\c.lo<=w.heap.size
def W8.P2 (c:W8)(w:aE):Prop:=∃v2,bE w c.lo c.hb v2 {c.d with tk:=c.d.tk++[c.ans]}/\fT v2 {c.d with tk:=c.d.tk++[c.ans]}/\bL c.hb c.v0 c.w0 v2 w/\v2.sL=c.v.sL/\v2.sQ=c.v.sQ
def W8.y (c:W8):Value:=.int .i64 c.ans
def W8.Rd (c:W8)(w:aE):Prop:=w.cell? ⟨c.hb,13,none⟩=some c.v.sT
def W8.St (c:W8)(vs:List aF)(l':gE)(w':aE):Prop:=match vs with
 |[]=>l'=.wk c.es.qs c.k/\c.P1 w'
 |[a]=>l'=.wk c.es.qs (c.k+1)/\a=c.y/\c.P1 w'
 |[a,b]=>l'=.wk c.es.qs (c.k+1)/\(∃g,b=.slice (some ⟨g,0,none⟩) 1 1/\w'.heap[g]? =some (.cells #[c.y] 3))/\c.P1 w'
 |[a,b,x]=>l'=.wk c.es.qs (c.k+1)/\(∃q1 q2,x=.slice (some ⟨q1,0,none⟩) (c.d.tk.length+1) q2)/\w'.frozen? ⟨c.hb,13,none⟩=false/\c.P2 (w'.setCell ⟨c.hb,13,none⟩ x)
 |_=>l'=.wk c.es.qs (c.k+1)/\c.P2 w'
def SR8 (c:W8)(vs:List aF)(K':Pr)(l':gE)(w':aE):Prop:=c.K0.le K'/\(vs.length<4->c.Rd w')/\c.St vs l' w'
variable {c:W8}
def W8.P1.tp (h:c.P1 w)(T:kK)(n:Nat):c.P1 (Tt.tp w T n):=⟨h.1.tp T n,h.2.1.tp T n,h.2.2⟩
theorem W8.P2.tp (h:c.P2 w)(T:kK)(n:Nat):c.P2 (Tt.tp w T n):=by
 obtain⟨v1,a,b,d,e⟩:=h;exact⟨v1,a.tp T n,b,d.tp T n,e⟩
theorem SR8.tp (vs:List aF)(K':Pr)(l':gE)(w':aE)(T:kK)(n:Nat)(h:SR8 c vs K' l' w'):SR8 c vs K' l' (Tt.tp w' T n):=by
 obtain⟨h1,h2,h3⟩:=h;refine⟨h1,h2,?_⟩;rcases vs with _|⟨a,_|⟨b,_|⟨x,_|⟨y,vs⟩⟩⟩⟩
 .exact⟨h3.1,W8.P1.tp h3.2 T n⟩
 .exact⟨h3.1,h3.2.1,W8.P1.tp h3.2.2 T n⟩
 .exact⟨h3.1,h3.2.1,W8.P1.tp h3.2.2 T n⟩
 .exact⟨h3.1,h3.2.1,h3.2.2.1,W8.P2.tp (w:=w'.setCell _ _) h3.2.2.2 T n⟩
 .exact⟨h3.1,W8.P2.tp h3.2 T n⟩
theorem cw_R8 (H:c.es.d.Ok)(zCf:fT c.v c.d)(hW:c.es.W[c.k]? =some (.ask c.q 0 0 c.ans))(hq:c.q<c.d.qn.length)(x6:c.q<=100)(hK:∀(i g:Nat),c.d.qn[i]? =some g->c.K0 g (qa c.es.qs i))(zh0:c.d.tk.length<=1000)(hz:t0.size=52)(tX:t0.getD 0 aA=.pointer (some ⟨c.hb,0,none⟩))(zbW:t0.getD 6 aA=.int .i64 (c.q:Int))
 (hk:∀vs K' l' w',vs.length=4->SR8 c vs K' l' w'->Φ .normal ⟨[],K',l',cZ nX (VV [8,9,10,13] (E0 c.hb c.q c.v.sT) vs) t0,w'⟩) (h0:SR8 c [] K l w):CW c.es.d B 25 rWO8 ⟨[],K,l,t0,w⟩ Φ:=by
 rw[zEx];have KO:=Rq zxy;refine CW.drawn H vD.mixed [8,9,10,13] (E0 c.hb c.q c.v.sT) (SR8 c) zxy zy6 Le (λvs K l w T e h=>SR8.tp vs K l w T e h) (λi o ho hi=>?_) (λvs ci o K' l' w' hc ho hS t rest lR fJ=>?_) hk h0
 .have hl:nX.toList[i]? =some o:=by rw[zR];exact ho
  rw[zJj] at hl;have aP:i<14:=by have:=(jW.1 hl).1;simpa using this
  have tn:∀(vs:List aF) {j:Nat} {oj:aY} {s:Tmp} {v:aF},nX[j]? =some oj->oj.dst=some s->s<t0.size->VV [8,9,10,13] (E0 c.hb c.q c.v.sT) vs j=v->(cZ nX (VV [8,9,10,13] (E0 c.hb c.q c.v.sT) vs) t0).getD s aA=v:=λvs _ _ _ _ a b c d=>qA KO a b c d;have tq:∀(vs:List aF) {s:Tmp},F6 nX s=false->(cZ nX (VV [8,9,10,13] (E0 c.hb c.q c.v.sT) vs) t0).getD s aA=t0.getD s undef:=λvs _ a=>zej KO a;rcases i with _|_|_|_|_|_|_|_|_|_|_|_|_|_|i
  .obtain rfl:=cD hl
   exact⟨aS,λvs K' l' w' hv hS=>⟨dU rfl,tZ (.pointer (some ⟨c.hb,0,none⟩)) ((tq vs aS).trans tX)⟩⟩
  .obtain rfl:=cD hl
   exact⟨aS,λvs K' l' w' hv hS=>⟨dU rfl,tZ (.pointer (some ⟨c.hb,0,none⟩)) ((tq vs aS).trans tX)⟩⟩
  .obtain rfl:=cD hl
   exact⟨aS,λvs K' l' w' hv hS=>⟨dU rfl,tZ (.pointer (some ⟨c.hb,0,none⟩)) (tn vs zEh rfl kH rfl)⟩⟩
  .obtain rfl:=cD hl
   exact⟨aS,λvs K' l' w' hv hS=>⟨dU rfl,tZ (.pointer (some ⟨c.hb,13,none⟩)) (tn vs zIM rfl kH rfl)⟩⟩
  .obtain rfl:=cD hl
   exact⟨aS,λvs K' l' w' hv hS=>⟨dU rfl,Mw (c.v.sT) (tn vs zJh rfl kH rfl) (show w'.cell? ⟨c.hb,13,none⟩=some c.v.sT from(hS.2.1 hv))⟩⟩
  .obtain rfl:=cD hl
   exact⟨aS,λvs K' l' w' hv hS=>⟨dU rfl,tZ (.pointer (some ⟨c.hb,0,none⟩)) ((tq vs aS).trans tX)⟩⟩
  .obtain rfl:=cD hl
   exact⟨aS,λvs K' l' w' hv hS=>⟨dU rfl,tZ (.int .i64 (c.q:Int)) ((tq vs aS).trans zbW)⟩⟩
  .obtain rfl:=cD hl
   exact⟨aS,λvs K' l' w' hv hS=>⟨dU rfl,rdR8_7 (q:=c.q) (sT:=c.v.sT) (V:=λs=>(cZ nX (VV [8,9,10,13] (E0 c.hb c.q c.v.sT) vs) t0).getD s aA) (λs=>rfl) (tn vs zGr rfl kH rfl) x6⟩⟩
  .exact absurd aH hi
  .exact absurd aH hi
  .exact absurd aH hi
  .obtain rfl:=cD hl
   exact⟨aS,λvs K' l' w' hv hS=>⟨dU rfl,tZ (.pointer (some ⟨c.hb,0,none⟩)) (tn vs zxO rfl kH rfl)⟩⟩
  .obtain rfl:=cD hl
   exact⟨aS,λvs K' l' w' hv hS=>⟨dU rfl,tZ (.pointer (some ⟨c.hb,13,none⟩)) (tn vs zIT rfl kH rfl)⟩⟩
  .exact absurd aH hi
  .omega
 .rcases vs with _|⟨a,_|⟨b,_|⟨c',_|⟨d',vs⟩⟩⟩⟩
  .obtain rfl:8=ci:=by simpa using hc
   rw[zk8] at ho;obtain rfl:=cD ho;obtain⟨s1,s2,s3,s4⟩:=hS;have zI6:=Ge lR (s:=42) aH (qA KO zHt rfl kH rfl);have zH7:=Ge lR (s:=44) aH (qA KO zyV rfl kH rfl);refine CR.call' H #[.pointer (some ⟨c.hb,0,none⟩),.int .i64 ((c.q:Int)+1),.int .i64 0,.int .i64 0] zk8 (dU rfl) rfl (allx rfl) rfl (by simp only[uG,fG,tH];rw[zI6,zH7];rfl) (s3▸zbf H s4.1 hW hq x6 (λi g hg=>s1 _ _ (hK i g hg))) (λK2 l2 y w2 hl oN=>?_);obtain⟨z1,rfl,z3⟩:=oN;subst z3;exact fJ _ K2 l2 _ hl ⟨vS s1 hl,λ_=>An (s2 aQ) _,z1,rfl,s4.1.alloc _,s4.2.1.trans (bL.below (dO (eR _ _) _)),eP s4.2.2 (by show w'.heap.size<=(w'.alloc oM).heap.size;rw[qS];exact Pu _)⟩
  .obtain rfl:9=ci:=by simpa using hc
   rw[zgN] at ho;obtain rfl:=cD ho;obtain⟨s1,s2,s3,rfl,z3,z5,s6⟩:=hS;have zEe:(cZ nX (VV [8,9,10,13] (E0 c.hb c.q c.v.sT) [c.y]) t0).getD 45 aA=c.y:=qA KO zk8 rfl kH rfl;refine CR.op H zgN (dU rfl) aS (λT=>⟨.slice (some ⟨w'.heap.size,0,none⟩) 1 1,(Tt.tp w' T 0).alloc (.cells #[c.y] 3),.inl ?_,?_⟩)
   .rw[Ds (KO.sel 9 _ zgN) lR]
    have hT:wR (cZ nX (VV [8,9,10,13] (E0 c.hb c.q c.v.sT) [c.y]) t0) (λs=>(cZ nX (VV [8,9,10,13] (E0 c.hb c.q c.v.sT) [c.y]) t0).getD s aA):=λs=>rfl;exact bs8 hT zEe
   .have al:bL c.hb c.v w' c.v ((Tt.tp w' T 0).alloc (.cells #[c.y] 3)):=(bL.refl.tp T 0).trans (bL.below (dO (eR _ _) _))
    exact fJ _ _ _ _ (vY _) ⟨s1,λ_=>An (s2 aQ) _,s3,⟨_,rfl,lO _ _⟩,(z3.tp T 0).alloc _,z5.trans al,eP s6 zdk⟩
  .obtain rfl:10=ci:=by simpa using hc
   rw[zkG] at ho;obtain rfl:=cD ho;obtain⟨s1,s2,s3,⟨g,rfl,hg⟩,z3,z5,s6⟩:=hS;have zzD:=Ge lR (s:=41) aH (qA KO zJd rfl kH rfl);have a46:=Ge lR (s:=46) aH (qA KO zgN rfl kH rfl);refine CR.op H zkG (dU rfl) aS (λT=>?_);have a1:=z3.tp T 0;obtain⟨q1,q2,w5,fH,cP,mU,eY⟩:=L5 (w:=Tt.tp w' T 0) (t:=52) (ty:=52) zbO Xd rfl aH a1.T (g:=g) (cs:=#[c.y]) (news:=[c.y]) hg rfl (m:=1) rfl aH Me aD aH s6;obtain⟨a6,t6⟩:=a1.putT mU (xs:=c.d.tk++[c.ans]) (by have e:jN (c.d.tk++[c.ans])=jN c.d.tk++[c.y]:=(by simp[jN,W8.y]);rw[e];exact cP) aQ eY;have xU:=(a1.other (j:=10) (c:=13) (x:=c.v.sT) rfl aH mU (.slice (some ⟨q1,0,none⟩) (c.d.tk.length+1) q2)).2.trans a1.blk;refine⟨_,w5,.inl (Wb rfl zzD a46 fH),fJ _ _ _ _ (vY _) ⟨s1,λ_=>aJ xU 13,s3,⟨q1,q2,rfl⟩,eL xU 13,_,a6,?_,z5.trans ((bL.refl.tp T 0).trans t6),rfl,rfl⟩⟩;refine fT.of zCf ?_ ?_ ?_ ?_ ?_<;>rfl
  .obtain rfl:13=ci:=by simpa using hc
   rw[zl9] at ho;obtain rfl:=cD ho;obtain⟨s1,s2,s3,⟨q1,q2,rfl⟩,mH,x7⟩:=hS;have zAa:(cZ nX (VV [8,9,10,13] (E0 c.hb c.q c.v.sT) [a,b,.slice (some ⟨q1,0,none⟩) (c.d.tk.length+1) q2]) t0).getD 47 aA=.slice (some ⟨q1,0,none⟩) (c.d.tk.length+1) q2:=qA KO zkG rfl kH rfl;have zAo:(cZ nX (VV [8,9,10,13] (E0 c.hb c.q c.v.sT) [a,b,.slice (some ⟨q1,0,none⟩) (c.d.tk.length+1) q2]) t0).getD 49 aA=.pointer (some ⟨c.hb,13,none⟩):=qA KO zEM rfl kH rfl;refine CR.op H zl9 (dU rfl) aS (λT=>⟨aA,Tt.tp (w'.setCell ⟨c.hb,13,none⟩ (.slice (some ⟨q1,0,none⟩) (c.d.tk.length+1) q2)) T 0,.inr ⟨?_,rfl⟩,?_⟩)
   .rw[Ds (KO.sel 13 _ zl9) lR]
    have hT:wR (cZ nX (VV [8,9,10,13] (E0 c.hb c.q c.v.sT) [a,b,.slice (some ⟨q1,0,none⟩) (c.d.tk.length+1) q2]) t0) (λs=>(cZ nX (VV [8,9,10,13] (E0 c.hb c.q c.v.sT) [a,b,.slice (some ⟨q1,0,none⟩) (c.d.tk.length+1) q2]) t0).getD s aA):=λs=>rfl;exact st8 hT zAo zAa (s2 aQ) mH
   .exact fJ aA _ _ _ (vY _) ⟨s1,λh=>absurd h aQ,s3,W8.P2.tp x7 T 0⟩
  .simp at hc
def Fq (b:b6):Prop:=∀x∈b.recs,1<=x.l/\x.l<=b.o.ln
theorem Fq.mod (h:Fq b)(hf:∀x,(f x).l=x.l):∀x∈b.recs.modify i f,1<=x.l/\x.l<=b.o.ln:=λx hx=>by
 obtain⟨y,hy,rfl|rfl⟩:=Pt hx
 .exact h _ hy
 .rw[hf];exact h _ hy
theorem Fq.tires:∀(xs:List bJ) (b:b6) (t:List UInt8),Fq b->Fq (xs.foldl lY (b,t)).1
 |[],b,t,h=>h
 |x::xs,b,t,h=>by
  rw[List.foldl_cons];obtain⟨e1,_,_,_,_,_,e7⟩:=zms b t x;have h1:Fq (lY (b,t) x).1:=λz hz=>by
   obtain⟨y,hy,_,e⟩:=e7 z hz;rw[e,e1];exact h y hy
  obtain⟨b',t',e⟩:∃b' t',lY (b,t) x=(b',t'):=⟨_,_,rfl⟩;rw[e] at h1⊢;exact Fq.tires xs b' t' h1
theorem Fq.step (h:Fq b)(e:dG):Fq (eG b e).1:=by
 have more:∀{l:Int} {ls:List Int} {c o f hh tt:Int} {s:ByteArray},n6 b.o b.recs=l::ls->∀x∈b.recs++[(⟨c,l,o,f,hh,tt,s⟩:bR)],1<=x.l/\x.l<=b.o.ln:=λhf x hx=>by
  rcases Dv.1 hx with hx|hx
  .exact h x hx
  .obtain rfl:=sC.1 hx
   exact zf1 Uk
 unfold eG;split
 .unfold pL
  split
  .exact h
  .split
   .exact h
   .rename_i hf;exact more hf
 .split
  .unfold nG
   split
   .exact h
   .split
    .exact h
    .split
     .exact h
     .exact h.mod λx=>rfl
  .split
   .unfold lV
    split
    .exact h
    .split
     .exact h
     .split
      .exact h
      .rename_i hf;exact more hf
   .split
    .unfold l7
     split
     .split
      .exact h.mod λx=>rfl
      .exact h.mod λx=>rfl
     .split
      .exact h
      .exact h
    .exact Fq.tires _ _ _ h
variable {o:jE}{es:List dG}
theorem zwc :∀k,k<=es.length->Fq (mB o es k)
 |0,_=>λx hx=>by cases hx
 |k+1,hk=>by
  rw[Wz (lP aD)];exact(zwc k aD).step _
variable {ln qn:List Nat}
theorem zrG (h:jV o es=true)(hk:k<=es.length){tk:List Int}(h1:ln.Nodup)(h2:(ln.length:Int)=o.ln)(h3:(qn.length:Int)=o.op):yE ⟨mB o es k,ln,qn,tk⟩:=by
 obtain⟨a1,a2,a3⟩:=Tw h k hk;have hop:o.op=(o.op.toNat:Int):=by
  have:=(Cd a1.off).2.2.1;rw[a3] at this;omega
 obtain⟨_,_,b3⟩:=zrY h hop k hk;have hl:es.length<=60:=by unfold jV at h;simp at h;exact h.1.2
 have hg:=a1.good a2 aD;exact⟨zt9 h k hk,a1,b3,h1,by show(ln.length:Int)=(mB o es k).o.ln;rw[a3];exact h2,zwc k hk,by show(qn.length:Int)=(mB o es k).o.op;rw[a3];exact h3,hg.1⟩
theorem zAM (hk:k<=es.length):∃B,rM o es es.length=rM o es k++B:=by
 have key:∀n,k<=n->∃B,rM o es n=rM o es k++B:=λn hn=>by
  induction n with
  |zero=>
   obtain rfl:k=0:=aD;exact⟨[],aQ⟩
  |succ n ih=>
   rcases nM k (n+1) with h|h
   .obtain⟨B,e⟩:=ih aD
    exact⟨B++(match es[n]? with|some e=>o8 (mB o es n) e|none=>[]),by show rM o es n++_=_;rw[e,G8];rfl⟩
   .obtain rfl:k=n+1:=aD
    exact⟨[],aQ⟩
 exact key _ hk
theorem zCl (he:es[k]? =some ev):Bu (By o es) (rM o es k).length (o8 (mB o es k) ev):=λj x hj=>by
 have hk:=(jW.1 he).1;obtain⟨B,e⟩:=zAM (o:=o) (es:=es) (k:=k+1) hk;have e2:rM o es (k+1)=rM o es k++o8 (mB o es k) ev:=by show rM o es k++_=_;rw[he]
 have hl:=(jW.1 hj).1;unfold By;rw[e,e2,G8,G8,zS aD,yO aD,zp8];exact hj
theorem ziI (b:b6):∀n,(yI b n).length=2*n
 |0=>rfl
 |n+1=>by show(yI b n++_).length=_;rw[gJ,ziI b n];simp;omega
theorem zvp (b:b6):∀(n i:Nat),i<n->(yI b n)[2*i]? =some (.ask i 0 0 (dJ b.recs ((i:Int)+1)))/\(yI b n)[2*i+1]? =some (.shut i)
 |0,i,h=>by omega
 |n+1,i,h=>by
  have hl:=ziI b n;show(yI b n++_)[2*i]? =_/\(yI b n++_)[2*i+1]? =_;rcases nM i n with hi|hi
  .rw[yO aD,yO aD]
   exact zvp b n i hi
  .obtain rfl:i=n:=aD
   rw[zS aD,zS aD,hl,M9,show 2*i+1-2*i=1 by omega];exact⟨rfl,rfl⟩
def zcb (b:b6):Nat->List Int
 |0=>[]
 |n+1=>zcb b n++[dJ b.recs ((n:Int)+1)]
theorem zsY (b:b6):∀n,(zcb b n).length=n
 |0=>rfl
 |n+1=>by show(zcb b n++_).length=_;rw[gJ,zsY b n];rfl
theorem zxT (h:jV o es=true)(he:es[k]? =some ev):(eG (mB o es k) ev).1.log=(mB o es k).log/\(mB o es k).log.length<=1000/\sK (mB o es k).o.op ev=true:=by
 have hk:=(jW.1 he).1;obtain⟨a1,a2,a3⟩:=Tw h k aD;have bV:=h;unfold jV at bV;simp only[fN,tJ,decide_eq_true_eq] at bV;have mD:sK (mB o es k).o.op ev=true:=by rw[a3];exact bV.2 ev (dS he)
 have:=a2.nl;exact⟨(a1.step a2 mD aD).2.2.2,aD,mD⟩
def zX (o:jE)(es:List dG)(ln qn:List Nat)(k:Nat):nF:=⟨mB o es k,ln,qn,[]⟩
def rZ (o:jE)(es:List dG)(ln qn:List Nat)(i:Nat):nF:=⟨C3 o es,ln,qn,zcb (C3 o es) i⟩
structure Y9 (e:Fy)(o:jE)(es:List dG)(ln qn:List Nat)(lo hb:Nat)(v:fC)(w:aE)(K:Pr)(A:Option bO)(n c:Nat):Prop where
 ok:jV o es=true
 W:e.W=By o es
 at_:bE w lo hb v (zX o es ln qn 0)
 mr:fT v (zX o es ln qn 0)
 nd:ln.Nodup
 nl:(ln.length:Int)=o.ln
 nq:(qn.length:Int)=o.op
 qs:e.qs.length=qn.length
 lo_:lo<=w.heap.size
 tab:Al lo w
 ev:cG w 0 lo 3 A n c (lW es)
 K:∀(i g:Nat),qn[i]? =some g->K g (qa e.qs i)
theorem cG.lowT {s c:Nat}{xs:List aF}(h:cG w 0 lo s A n c xs)(a:bE w lo hb v d)(dY:lo<=w.heap.size)(t:bL hb v w v' w'):cG w' 0 lo s A n c xs:=by
 refine⟨h.len,h.le,h.cap,λhn=>?_⟩;obtain⟨b,off,e,h1,h2,h3,h4⟩:=h.at_ hn;have hz:=t.size;exact⟨b,off,e,h1,h2,aD,λj u hj=>(aE.cell?_of_block (t.block b h3 (λx=>by have:=(a.lt b x).1;omega))).trans (h4 j u hj)⟩
theorem zGP (H:e.d.Ok){c:Nat}(h:Y9 e o es ln qn lo hb v w K A n c):
 CF e.d 25 #[.pointer (some ⟨hb,0,none⟩),.slice A n c] K (.wk e.qs 0) w (λK' l' y w'=>l'=.wk e.qs e.W.length/\∃v',bE w' lo hb v' (rZ o es ln qn qn.length)/\fT v' (rZ o es ln qn qn.length)/\bL hb v w v' w'):=by
 refine CF.of 52 zg3 (.inl rfl) ?_;have HP:=aC h;have B7:es.length=n:=h.ev.eventsLen;have oQ:es.length<=60:=by have:=h.ok;unfold jV at this;simp at this;exact this.1.2
 have zy3:n<=60:=aD;have Ny:=aC B7;clear B7 oQ h;refine CW.sq H ?_;refine CW.sq H ?_;refine CW.pQ H O3 (λzID Q HQ=>?_);go_wp2;refine HQ.o _ _ ?_;clear HQ;refine CW.tape (s:=⟨[],K,.wk e.qs 0,_,w⟩) ?_ zID 0;refine CW.block H ?_;refine CW.loop H (λnn s=>∃(k:Nat) (wz:aE) (Kz:Pr) (vz:fC) (u2 u3 u4 u5 u6 u7 fY gA fW fX gC u16 gQ j6 kJ jG gU iB gM gN gX gP hY iF iA iZ jA u32 iD gO gT gY j7 j9 iC gZ gS iT iQ iH iO iI iG iR iP iK iL:aF),s=⟨[],Kz,.wk e.qs (rM o es k).length,#[.pointer (some ⟨hb,0,none⟩),.slice A n c,u2,u3,u4,u5,u6,u7,.slice A n c,.int .i64 (n:Int),.int .i64 (k:Int),fY,gA,fW,fX,gC,u16,gQ,j6,kJ,jG,gU,iB,gM,gN,gX,gP,hY,iF,iA,iZ,jA,u32,iD,gO,gT,gY,j7,j9,iC,gZ,gS,iT,iQ,iH,iO,iI,iG,iR,iP,iK,iL],wz⟩/\k<=n/\nn=n-k/\K.le Kz/\bE wz lo hb vz (zX o es ln qn k)/\fT vz (zX o es ln qn k)/\bL hb v w vz wz/\vz.sL=v.sL/\vz.sQ=v.sQ) (λnn s hs=>?_) (n:=n) ?_
 rotate_left
 .exact⟨0,w,K,v,_,_,_,_,_,_,_,_,_,_,_,_,_,_,_,_,_,_,_,_,_,_,_,_,_,_,_,_,_,_,_,_,_,_,_,_,_,_,_,_,_,_,_,_,_,_,_,rfl,lB _,rfl,vY _,HP.o.at_,HP.o.mr,bL.refl,rfl,rfl⟩
 .obtain⟨k,wz,Kz,vz,u2,u3,u4,u5,u6,u7,fY,gA,fW,fX,gC,u16,gQ,j6,kJ,jG,gU,iB,gM,gN,gX,gP,hY,iF,iA,iZ,jA,u32,iD,gO,gT,gY,j7,j9,iC,gZ,gS,iT,iQ,iH,iO,iI,iG,iR,iP,iK,iL,rfl,rT,Br,zmQ,az,mz,tz,zqn,zqM⟩:=hs
  have A1:=aC az;have M1:=aC mz;have T1:=aC tz;have EZ:=aC (And.intro zqn zqM);clear az mz tz zqn zqM;refine CW.sq H ?_;refine CW.pQ H O3 (λzfH Q HQ=>?_);by_cases aP:k<n
  .have Fv:(k:Int)<(n:Int):=aD
   go_wp2;refine HQ.o _ _ ?_;clear HQ Fv;refine CW.tape (s:=⟨[],Kz,.wk e.qs (rM o es k).length,_,wz⟩) ?_ zfH 0;refine CW.sq H ?_;refine CW.cd H true ?_;refine CW.sk H ?_;dsimp only;have G3:=HP.o.ev.lowT HP.o.at_ HP.o.lo_ T1.o;obtain⟨be,oe,ev,hA,zyQ,zc7,zhz,Dw,e0,e1,e2⟩:=G3.eventsAt aP;subst hA;obtain⟨zuG,znR,st3⟩:=zxT HP.o.ok Dw;have No:=aC Dw;have uK:=aC (And.intro zuG (And.intro znR st3));clear Dw zuG znR st3 G3;have i0:(0:Int)<=(k:Int):=aD;have i1:(k:Int)<(n:Int):=aD;refine CW.sq H ?_;refine CW.block H ?_;refine CW.sq H ?_;refine CW.pQ H O3 (λNx Q HQ=>?_);obtain⟨w2,fQ⟩:=aU (Tt.tp wz Nx 0);have A2:=aC (show bE w2 lo hb vz (zX o es ln qn k) by rw[fQ];exact A1.o.tp Nx 0);have T2:=aC (show bL hb v w vz w2 by rw[fQ];exact T1.o.tp Nx 0);have zdf:w2.cell? ⟨be,oe+k*3,none⟩=some (.string ev.k):=by rw[fQ];exact e0
   have Ei:w2.cell? ⟨be,oe+k*3+1,none⟩=some (.int .i64 ev.a):=by rw[fQ];exact e1
   have zjl:w2.cell? ⟨be,oe+k*3+2,none⟩=some (.int .i64 ev.b):=by rw[fQ];exact e2
   try dsimp only
   rw[<-fQ];clear fQ A1 T1 e0 e1 e2;go_wp2;refine HQ.o _ _ ?_;clear HQ zdf Ei zjl;obtain⟨gb,eK⟩:=aU w2.heap.size;obtain⟨w3,iM⟩:=aU (w2.alloc (.cells #[.string ev.k,.int .i64 ev.a,.int .i64 ev.b] 43));have A3:=aC (show bE w3 lo hb vz (zX o es ln qn k) by rw[iM];exact A2.o.alloc _);have T3:=aC (show bL hb v w vz w3 by rw[iM];exact T2.o.trans (bL.below (dO (eR _ _) _)));have uP:=aC (show w3.heap[gb]? =some (.cells #[.string ev.k,.int .i64 ev.a,.int .i64 ev.b] 43) by rw[iM,eK];exact lO _ _);have NP:=aC (show some gb∉parts vz hb from λhp=>by have:=(A2.o.lt _ hp).2;omega);rw[<-eK,<-iM];clear iM eK A2 T2;have zpA:lo<=w3.heap.size:=eP HP.o.lo_ T3.o.size;have zxu:k<=es.length:=by have:=Ny.o;omega
   obtain⟨yD,zfw,zDx⟩:=Tw HP.o.ok k zxu;have pre:EvPre lo hb vz (zX o es ln qn k) w3:=⟨A3.o,M1.o,zrG HP.o.ok zxu HP.o.nd HP.o.nl HP.o.nq,zpA,HP.o.tab.turn HP.o.at_ HP.o.lo_ T3.o,by have:=zfw.clk;show(mB o es k).clk<=_;omega,by have h1:=zfw.nw;have h2:=zfw.nb;show(mB o es k).back.length+(mB o es k).wait.length<=_;omega⟩;have zsc:w3.cell? ⟨hb,12,none⟩=some vz.sA:=aJ A3.o.blk 12;have zG2:=aC pre;have RD:=aC zsc;clear pre zsc yD zfw zDx;refine cw_R3 (c:=⟨e,lo,hb,gb,(rM o es k).length,v,w,vz,zX o es ln qn k,ev,Kz⟩) H uK.o.2.2 (by show Bu e.W _ _;rw[HP.o.W];exact zCl No.o) (λi g hg=>zmQ _ _ (HP.o.K i g hg)) (by show(eG (mB o es k) ev).1.log.length<=1000;rw[uK.o.1];exact uK.o.2.1) uK.o.1 rfl rfl rfl (λvs K' l' w' tG hS=>?_) ⟨vY _,λ_=>⟨RD.o,uP.o⟩,rfl,zG2.o,T3.o,NP.o⟩;rw[Go.Mt.zY,zDP];simp only[Go.Mt.wO,dV,dX];obtain⟨s1,s2,s3⟩:=hS;have s4:l'=.wk e.qs ((rM o es k).length+(o8 (mB o es k) ev).length)/\W3.P2 ⟨e,lo,hb,gb,(rM o es k).length,v,w,vz,zX o es ln qn k,ev,Kz⟩ w':=by
    rcases vs with _|⟨a,_|⟨b,_|⟨x,_|⟨y,vs⟩⟩⟩⟩
    .cases tG
    .cases tG
    .cases tG
    .cases tG
    .exact s3
   obtain⟨rfl,v2,a2,m2,t2,q1,q2⟩:=s4;have e3:(rM o es (k+1)).length=(rM o es k).length+(o8 (mB o es k) ev).length:=by show(rM o es k++_).length=_;rw[No.o,gJ]
   have e4:zX o es ln qn (k+1)={zX o es ln qn k with r:=Eb (eG (mB o es k) ev)}:=by unfold zX;rw[Wz No.o]
   have A4:=aC (show bE w' lo hb v2 (zX o es ln qn (k+1)) by rw[e4];exact a2);have M4:=aC (show fT v2 (zX o es ln qn (k+1)) by rw[e4];exact m2);have T4:=aC t2;have Q4:=aC (And.intro (q1.trans EZ.o.1) (q2.trans EZ.o.2));have rI:K.le K':=vS zmQ s1;rw[<-e3];clear a2 m2 t2 q1 q2 e3 e4 s1 s2 s3 tG;refine CW.pQ H O3 (λzsr Q HQ=>?_);go_wp2;refine HQ.o _ _ ?_;clear HQ;exact⟨n-(k+1),aD,k+1,_,K',v2,_,_,_,_,_,_,_,_,_,_,_,_,_,_,_,_,_,_,_,_,_,_,_,_,_,_,_,_,_,_,_,_,_,_,_,_,_,_,_,_,_,_,_,_,_,_,_,rfl,aD,rfl,rI,A4.o.tp zsr 0,M4.o,T4.o.tp zsr 0,Q4.o.1,Q4.o.2⟩
  .have Fv:¬(k:Int)<(n:Int):=aD
   have lM:=aC (show k=es.length by have:=Ny.o;omega);go_wp2;refine HQ.o _ _ ?_;clear HQ Fv;refine CW.tape (s:=⟨[],Kz,.wk e.qs (rM o es k).length,_,wz⟩) ?_ zfH 0;refine CW.sq H ?_;refine CW.cd H false ?_;refine CW.exit H aQ ?_;dsimp only;rw[if_pos rfl];have zJ:=lM.o;subst zJ;have Q9:zX o es ln qn es.length=rZ o es ln qn 0:=by unfold zX rZ;rw[zha];rfl
   rw[Q9] at A1 M1;obtain⟨AQ,cQ,zaP,zIO⟩:=Fo A1.o.Q aH;obtain⟨nq,zaI⟩:=aU qn.length;have Rw:=aC zaI;have zuC:=aC (show vz.sQ=.slice AQ nq cQ by rw[zaI];exact zaP);have Xr:=(Cd (zrG (tk:=[]) HP.o.ok (lB _) HP.o.nd HP.o.nl HP.o.nq).R.off).2.2.2.1;have zKe:nq<=4:=by
    have h1:=HP.o.nq;have h2:(mB o es 0).o.op<=4:=Xr;have h3:(mB o es 0).o=o:=rfl;rw[h3] at h2;omega
   clear zaP zIO zaI Q9 Xr aP Br;refine CW.sq H ?_;refine CW.pQ H O3 (λSc Q HQ=>?_);obtain⟨w5,nU⟩:=aU (Tt.tp wz Sc 0);have A5:=aC (show bE w5 lo hb vz (rZ o es ln qn 0) by rw[nU];exact A1.o.tp Sc 0);have T5:=aC (show bL hb v w vz w5 by rw[nU];exact T1.o.tp Sc 0)
   try dsimp only
   rw[<-nU];clear nU A1 T1;have k6:w5.cell? ⟨hb,6,none⟩=some (.slice AQ nq cQ):=by
    have:=aJ A5.o.blk 6;rw[this,<-zuC.o];rfl
   go_wp2;refine HQ.o _ _ ?_;clear HQ k6;obtain⟨k0,kW⟩:=aU ((rM o es es.length).length);have Cc:=aC kW;rw[<-kW];clear kW;refine CW.block H ?_;refine CW.loop H (λnn s=>∃(k:Nat) (wy:aE) (Ky:Pr) (vy:fC) (u1 u2 u3 u4 u5 u6 u7 u8 u9 gH fY gA fW fX gC u16 gQ j6 kJ jG gU iB gM gN gX gP hY iF iA iD gO gT gY j7 j9 iC gZ gS iT iQ iH iO iI iG iR iP iK iL:aF),s=⟨[],Ky,.wk e.qs (k0+2*k),#[.pointer (some ⟨hb,0,none⟩),u1,u2,u3,u4,u5,u6,u7,u8,u9,gH,fY,gA,fW,fX,gC,u16,gQ,j6,kJ,jG,gU,iB,gM,gN,gX,gP,hY,iF,iA,.slice AQ nq cQ,.int .i64 (nq:Int),.int .i64 (k:Int),iD,gO,gT,gY,j7,j9,iC,gZ,gS,iT,iQ,iH,iO,iI,iG,iR,iP,iK,iL],wy⟩/\k<=nq/\nn=nq-k/\K.le Ky/\bE wy lo hb vy (rZ o es ln qn k)/\fT vy (rZ o es ln qn k)/\bL hb v w vy wy/\vy.sQ=vz.sQ) (λnn s hs=>?_) (n:=nq) ?_
   rotate_left
   .exact⟨0,w5,Kz,vz,_,_,_,_,_,_,_,_,_,_,_,_,_,_,_,_,_,_,_,_,_,_,_,_,_,_,_,_,_,_,_,_,_,_,_,_,_,_,_,_,_,_,_,_,_,_,_,_,rfl,lB _,rfl,zmQ,A5.o,M1.o,T5.o,rfl⟩
   .obtain⟨k,wy,Ky,vy,u1,u2,u3,u4,u5,u6,u7,u8,u9,gH,fY,gA,fW,fX,gC,u16,gQ,j6,kJ,jG,gU,iB,gM,gN,gX,gP,hY,iF,iA,iD,gO,gT,gY,j7,j9,iC,gZ,gS,iT,iQ,iH,iO,iI,iG,iR,iP,iK,iL,rfl,zJT,zK4,zoS,ay,my,ty,ey⟩:=hs
    have A6:=aC ay;have M6:=aC my;have T6:=aC ty;have EY:=aC ey;clear ay my ty ey A5 T5 M1;refine CW.sq H ?_;refine CW.pQ H O3 (λY8 Q HQ=>?_);by_cases aP:k<nq
    .have Fv:(k:Int)<(nq:Int):=aD
     go_wp2;refine HQ.o _ _ ?_;clear HQ;refine CW.sq H ?_;refine CW.cd H true ?_;refine CW.sk H ?_;dsimp only;have Nw:e.W[k0+2*k]? =some (.ask k 0 0 (dJ (C3 o es).recs ((k:Int)+1)))/\e.W[k0+2*k+1]? =some (.shut k):=by
      have zio:o.op.toNat=nq:=by have:=HP.o.nq;have:=Rw.o;omega
      obtain⟨x1,x2⟩:=zvp (C3 o es) nq k aP;rw[HP.o.W];unfold By;rw[zio,zS (by have:=Cc.o;omega),zS (by have:=Cc.o;omega),<-Cc.o,zp8,show k0+2*k+1-k0=2*k+1 by omega];exact⟨x1,x2⟩
     refine CW.sq H ?_;refine CW.block H ?_;refine CW.sq H ?_;refine CW.pQ H O3 (λWm Q HQ=>?_);obtain⟨w7,qT⟩:=aU (Tt.tp (Tt.tp wy Y8 0) Wm 0);have A7:=aC (show bE w7 lo hb vy (rZ o es ln qn k) by rw[qT];exact(A6.o.tp Y8 0).tp Wm 0);have T7:=aC (show bL hb v w vy w7 by rw[qT];exact(T6.o.tp Y8 0).tp Wm 0)
     try dsimp only
     rw[<-qT];clear qT A6 T6;have nZ:=A7.o.Q;rw[EY.o,zuC.o] at nZ;have nZ:w7.ownsRow lo 72 1 (.slice AQ nq cQ) nq (Ia qn):=by rw[Rw.o];rw[Rw.o] at nZ;exact nZ
     obtain⟨bq,oq,gq,hA,Ad,zCO⟩:=zer (zQ nZ aH) aP;subst hA;have zzH:=aC Ad;have i0:(0:Int)<=(k:Int):=aD;clear nZ Ad;go_wp2;refine HQ.o _ _ ?_;clear HQ zCO;have zwr:w7.cell? ⟨hb,13,none⟩=some vy.sT:=aJ A7.o.blk 13;have zEQ:lo<=w7.heap.size:=eP HP.o.lo_ T7.o.size;have zpZ:k<qn.length:=by have:=Rw.o;omega
     refine CW.sq H ?_;refine cw_R8 (c:=⟨e,lo,hb,k,k0+2*k,dJ (C3 o es).recs ((k:Int)+1),v,w,vy,rZ o es ln qn k,Ky⟩) H M6.o Nw.1 zpZ (by show k<=100;omega) (λi g hg=>zoS _ _ (HP.o.K i g hg)) (by show(zcb (C3 o es) k).length<=1000;rw[zsY];omega) rfl rfl rfl (λvs K' l' w' tG hS=>?_) ⟨vY _,λ_=>zwr,rfl,A7.o,T7.o,zEQ⟩;rw[Go.Mt.zY,zC4];simp only[Go.Mt.wO,dV,dX];obtain⟨s1,s2,s3⟩:=hS;have s4:l'=.wk e.qs (k0+2*k+1)/\W8.P2 ⟨e,lo,hb,k,k0+2*k,dJ (C3 o es).recs ((k:Int)+1),v,w,vy,rZ o es ln qn k,Ky⟩ w':=by
      rcases vs with _|⟨a,_|⟨b,_|⟨x,_|⟨y,vs⟩⟩⟩⟩
      .cases tG
      .cases tG
      .cases tG
      .cases tG
      .exact s3
     obtain⟨rfl,v2,a2,m2,t2,q1,q2⟩:=s4;have A8:=aC (show bE w' lo hb v2 (rZ o es ln qn (k+1)) from a2);have M8:=aC (show fT v2 (rZ o es ln qn (k+1)) from m2);have T8:=aC t2;have Q8:=aC (q2.trans EY.o);have rI:K.le K':=vS zoS s1;have zEd:K' gq (qa e.qs k):=rI _ _ (HP.o.K k gq zzH.o);clear a2 m2 t2 q1 q2 s1 s2 s3 tG zwr;refine CW.rg H [0,1] ?_;refine CR.mv H (.chan (some gq)) ?_;refine CR.shut H (k:=k0+2*k+1) (q:=k) zJb rfl rfl zg3 rfl rfl Nw.2 (by show k<e.qs.length;rw[HP.o.qs];exact zpZ) rfl rfl zEd ?_;simp only[b7,gK,dV,dX];refine CR.nil H ?_;refine CW.pQ H O3 (λV4 Q HQ=>?_);go_wp2;refine HQ.o _ _ ?_;clear HQ;exact⟨nq-(k+1),aD,k+1,_,K',v2,_,_,_,_,_,_,_,_,_,_,_,_,_,_,_,_,_,_,_,_,_,_,_,_,_,_,_,_,_,_,_,_,_,_,_,_,_,_,_,_,_,_,_,_,_,_,_,_,rfl,aD,rfl,rI,A8.o.tp V4 0,M8.o,T8.o.tp V4 0,Q8.o⟩
    .have Fv:¬(k:Int)<(nq:Int):=aD
     have lM:=aC (show k=nq by omega);go_wp2;refine HQ.o _ _ ?_;clear HQ Fv;refine CW.sq H ?_;refine CW.cd H false ?_;refine CW.exit H aQ ?_;dsimp only;rw[if_pos rfl];have zJ:=lM.o;subst zJ;have zEV:e.W.length=k0+2*k:=by
      have zio:o.op.toNat=k:=by have:=HP.o.nq;have:=Rw.o;omega
      rw[HP.o.W];unfold By;rw[gJ,<-Cc.o,zio,ziI]
     refine⟨aQ,rfl,.tuple #[],rfl,by rw[zEV],vy,?_,?_,T6.o.tp Y8 0⟩
     .rw[<-Rw.o];exact A6.o.tp Y8 0
     .rw[<-Rw.o];exact M6.o
end Go.Proofs.YtfcjiloojkjaeaaDoor
namespace Go.Proofs.YtfcjiloojkjaeaaDoor
open Go.RowKit Go.Mt Go.Conc Go.Tt Go.Conc.Lib Go.ConcR.Gen
abbrev rC:WgLink:={add:=20,done:=22,wait:=26,relMerge:=33,disable:=34,enable:=35,inBubble:=36,associate:=37,fatal:=38,uOr:=39,uAdd:=40,raceRead:=41,uLoad:=42,uStore:=43,disassociate:=44,semrelease:=45,acquire:=48,isAssociated:=49,uCas:=50,raceWrite:=51,semacquire:=52,orU64:=61,addU64:=62,loadU64:=63,storeU64:=64,casU64:=70,tWgP:=81,tUP:=83,tAssoc:=85,tWg:=71,tAU:=68,tU64:=66,tUint:=89,tU32:=69,tPU32:=90,tPAU:=112,tPU64:=114,tNoCopy:=63,tANoCopy:=64,tAlign64:=65}
def zbm:WgLib aK rC:=
 ⟨Tryd.func20,Tryd.func22,Tryd.func26,Tryd.func33,Tryd.func34,Tryd.func35,Tryd.func36,Tryd.func37,Tryd.func38,Tryd.func39,Tryd.func40,Tryd.func41,Tryd.func42,Tryd.func43,Tryd.func44,Tryd.func45,Tryd.func48,Tryd.func49,Tryd.func50,Tryd.func51,Tryd.func52,Tryd.func61,Tryd.func62,Tryd.func63,Tryd.func64,Tryd.func70,Tryd.underlying81,Tryd.runUnderlying81,Tryd.sizeOf81,Tryd.isAgg81,Tryd.zeroValue81,Tryd.underlying83,Tryd.runUnderlying83,Tryd.sizeOf83,Tryd.isAgg83,Tryd.zeroValue83,Tryd.underlying85,Tryd.runUnderlying85,Tryd.sizeOf85,Tryd.isAgg85,Tryd.zeroValue85,Tryd.underlying71,Tryd.runUnderlying71,Tryd.sizeOf71,Tryd.isAgg71,Tryd.zeroValue71,Tryd.underlying68,Tryd.runUnderlying68,Tryd.sizeOf68,Tryd.isAgg68,Tryd.zeroValue68,Tryd.underlying66,Tryd.runUnderlying66,Tryd.sizeOf66,Tryd.isAgg66,Tryd.zeroValue66,Tryd.underlying89,Tryd.runUnderlying89,Tryd.sizeOf89,Tryd.isAgg89,Tryd.zeroValue89,Tryd.underlying69,Tryd.runUnderlying69,Tryd.sizeOf69,Tryd.isAgg69,Tryd.zeroValue69,Tryd.underlying90,Tryd.runUnderlying90,Tryd.sizeOf90,Tryd.isAgg90,Tryd.zeroValue90,Tryd.underlying112,Tryd.runUnderlying112,Tryd.sizeOf112,Tryd.isAgg112,Tryd.zeroValue112,Tryd.underlying114,Tryd.runUnderlying114,Tryd.sizeOf114,Tryd.isAgg114,Tryd.zeroValue114,Tryd.underlying0,Tryd.runUnderlying0,Tryd.sizeOf0,Tryd.isAgg0,Tryd.zeroValue0,Tryd.underlying3,Tryd.runUnderlying3,Tryd.sizeOf3,Tryd.isAgg3,Tryd.zeroValue3,Tryd.underlying4,Tryd.runUnderlying4,Tryd.sizeOf4,Tryd.isAgg4,Tryd.zeroValue4,Tryd.underlying9,Tryd.runUnderlying9,Tryd.sizeOf9,Tryd.isAgg9,Tryd.zeroValue9,Tryd.underlying20,Tryd.runUnderlying20,Tryd.sizeOf20,Tryd.isAgg20,Tryd.zeroValue20,Tryd.underlying21,Tryd.runUnderlying21,Tryd.sizeOf21,Tryd.isAgg21,Tryd.zeroValue21,aS,aS⟩
instance:Go.ConcR.Payload:=⟨3⟩
end Go.Proofs.YtfcjiloojkjaeaaDoor
namespace Go.Proofs.YtfcjiloojkjaeaaDoor
open Go.RowKit Go.Mt Go.Conc Go.Tt Go.Maps Go.Conc.Lib Go.ConcR.Gen
open Go.ConcR (KK wgBlock WgAt stA smA rd wr)
variable {K:Pr}{Q:Pr->Prop}{ds:Dk}{pin:List (Nat×aF)}{w:aE}{Ψ:Pr->gE->aF->aE->Prop}
theorem BO.callF {d:o9}(H:d.Ok){base:List dE}(hQ:Up Q){fn:aN}{tmps:Array aF}{ops:Array aY}{i:Nat}{rest:List Nat}{k:List dW}{l:gE}{o:aY}{g:aN}{args:Array cM}{j8:Array aM}(Ly:Array aF)
 (ho:ops[i]? =some o) (cC:dA o (dN ops tmps)=true) (hop:o.op=.call ⟨.value (.func g),args,j8⟩) (rR:args.all (dL d.fs)=true) (ha:args.map (bH tmps []).eval=Ly) (lD:∀s,o.dst=some s->s∉pin.map (·.1)) (hc:CF d g Ly K l w Ψ)
 (hk:∀K' l' v w',K.le K'->Ψ K' l' v w'->BO (d.cx K' Q [] base ds pin) l' ⟨fn,(b7 ⟨tmps,[]⟩ o.dst v).tmps,.inRegion ops rest::k,false⟩ w'):BO (d.cx K Q [] base ds pin) l ⟨fn,tmps,.inRegion ops (i::rest)::k,false⟩ w:=by
 obtain⟨fnf,cf,g1,g2,g3,g4,g5⟩:=hc.ex;refine BO.callN (H.iok hQ) ho cC hop (Callee.static _ _) rR g1 g2 g3 g4 λnO m' hm=>?_;rw[o9.sub_eq];have fin:∀(s':WS) todo,K.le s'.K->(s'.chs=[]/\∃v,(nY fnf.results.toList s'.T).run d.p s'.w=.ok v s'.w/\Ψ s'.K s'.l v s'.w)->d.bo (λR=>Q R/\nO.le R) (fx [] ds m'::base) s' g todo true:=λs' todo hl ⟨h2,v,h3,h4⟩=>by
  obtain⟨zCX,K',l',T',w'⟩:=s';simp only at*;subst h2;unfold o9.bo;simp only;rw[<-o9.sub_eq (pin:=pin)];refine BO.retN (C:=d.cx K' Q [] base ds pin) (H.iok hQ) (hm.upK hl _) rfl rfl (λs hs=>lD s (by rw[ho] at hs;exact hs)) g1 h3 ?_;have:=hk K' l' v w' hl h4;simp only[Fm.fin,ho,xI]
  cases hd:o.dst with
  |none=>rw[hd] at this;exact this
  |some s=>rw[hd] at this;exact this
 have e:(#[]:Array aF)++args.map (bH tmps []).eval++ #[]=Ly:=by rw[<-ha];simp
 rw[e];refine g5 (λR=>Q R/\nO.le R) (fx [] ds m'::base) [] (hQ.and nO) (λ_ h=>by cases h) (λs' hl x=>BO.fall (H.iok (hQ.and nO)) (fin s' [] hl x.2)) (λid k2 s' hl ee x=>by cases ee) (λs' todo hl x=>fin s' todo hl x.2)
def Yz:Go.Code:=(Tryd.f24.body).getD .skip
def rH20:Go.Code:=match Yz with| .seq (a) _=>a|_=>.skip
def rH21:Go.Code:=match Yz with| .seq _ (a)=>a|_=>.skip
def zx3:Yz=.seq (rH20) (rH21):=rfl
def zie:Array Oper:=match rH20 with| .region _ ops _=>ops|_=>#[]
def zEm:rH20=.region 0 zie false:=rfl
def zDY:gD zie.size=[0]:=rfl
abbrev ztl:Oper:=⟨none,.defer ⟨.value (.func 22),#[.tmp 0],#[71]⟩,0,"l6_office.go:292",#[],none⟩
def zHi:zie[0]? =some ztl:=rfl
def zbY:Array Oper:=match rH21 with| .region _ ops _=>ops|_=>#[]
def zCq:rH21=.region 1 zbY false:=rfl
def zG7:gD zbY.size=[0,1,2]:=rfl
abbrev oH21_0:Oper:=⟨some 3,.load 45 (.tmp 1),45,"l6_office.go:293",#[],none⟩
def zAL:zbY[0]? =some oH21_0:=rfl
abbrev oH21_1:Oper:=⟨some 4,.load 29 (.tmp 2),29,"l6_office.go:293",#[],none⟩
def zGY:zbY[1]? =some oH21_1:=rfl
abbrev oH21_2:Oper:=⟨some 5,.call ⟨.value (.func 25),#[.tmp 3,.tmp 4],#[45,29]⟩,0,"l6_office.go:293",#[⟨0,.data⟩,⟨1,.data⟩],none⟩
def zz6:zbY[2]? =some oH21_2:=rfl
variable {N:Nat}{W:List fE}{D:aE->Prop}
theorem zHS {qs:List Nat}:(Au N W D).act (.wk qs W.length)=.done:=by
 show eH N W (.wk qs W.length)=_;simp[eH]
theorem zxL {e:Fy}(H:e.d.Ok)(Bh:e.ty=rC.tWg){lo hb gh ge n c:Nat}{A:Option bO}{v:fC}{o:jE}{es:List dG}{ln qn:List Nat}(h:Y9 e o es ln qn lo hb v w K A n c)(hh:w.cell? ⟨gh,0,none⟩=some (.pointer (some ⟨hb,0,none⟩)))(he:w.cell? ⟨ge,0,none⟩=some (.slice A n c))(hQ:Up Q)
 (sZ:∀K' R τ W w' v',K.le K'->Q R->cT (SF fZ) K' R (oR aK) e.St w' W->IQ e.W0 e.StI e.Shun e.Wg e.SS e.R0 e.Fz e.Wf e.qs [] R τ W->bE w' lo hb v' (rZ o es ln qn qn.length)->fT v' (rZ o es ln qn qn.length)->bL hb v w v' w'->e.D W):
 BO (e.d.cx K Q [] [vR aK] ⟨[],.deferred,aQ⟩ [(0,.pointer (some ⟨e.Wg,0,none⟩))]) (.wk e.qs 0) ⟨24,#[.nilFunc,.pointer (some ⟨gh,0,none⟩),.pointer (some ⟨ge,0,none⟩),aA,aA,aA],[.code Yz],false⟩ w:=by
 let C:=e.d.cx K Q [] [vR aK] ⟨[],.deferred,aQ⟩ [(0,.pointer (some ⟨e.Wg,0,none⟩))]
 have hI:fB C:=H.iok hQ
 let d1:=dcall 22 #[.pointer (some ⟨e.Wg,0,none⟩)]
 have Ka:fB (C.dfr d1):=hI.dfr d1;have F:uT C.P C.fs:=mG;show BO C _ _ _;rw[zx3];refine BO.seq hI ?_;rw[zEm];refine BO.regs hI _ zDY ?_;refine BO.defer hI (d:=d1) zHi rfl rfl (λR w W bQ _ _ C2 aV=>?_) ?_
 .have h0:=C2 (0,.pointer (some ⟨e.Wg,0,none⟩)) (by show _∈[_];simp)
  have:=zpv (p:=C.p) (o:=ztl) (ρ:=(bH bQ C.ds.ds).eval) rfl rfl aV;simp only[uG,fG,tH,vW] at this;simp only at h0;rw[h0] at this;exact this
 refine BO.regEnd Ka ?_;rw[zCq];refine BO.regs Ka _ zG7 ?_;refine BO.op (C:=C.dfr d1) F Ka zAL rfl aS zsf (λT=>⟨.pointer (some ⟨hb,0,none⟩),Tt.tp w T 0,.inl (zaj (a:=⟨gh,0,none⟩) rfl rfl (Tryd.isAgg45 _) hh),?_⟩);simp only[b7,gK,dV,dX];refine BO.tape ?_ T 0;clear T;refine BO.op (C:=C.dfr d1) F Ka zGY rfl aS (by intro s hs;cases hs;show(4:Nat)∉([0]:List Nat);decide) (λT=>⟨.slice A n c,Tt.tp w T 0,.inl (zaj (a:=⟨ge,0,none⟩) rfl rfl (Tryd.isAgg29 _) he),?_⟩);simp only[b7,gK,dV,dX];refine BO.tape ?_ T 0;clear T;have eC:C.dfr d1=e.d.cx K Q [] [vR aK] ⟨[d1],.deferred,aQ⟩ [(0,.pointer (some ⟨e.Wg,0,none⟩))]:=rfl;rw[eC];refine BO.callF H hQ #[.pointer (some ⟨hb,0,none⟩),.slice A n c] zz6 rfl rfl aS (by simp only[uG,fG,tH,vW];rfl) (by intro s hs;cases hs;show(5:Nat)∉([0]:List Nat);decide) (zGP H h) λK' l' y w' hl hx=>?_;obtain⟨rfl,v',hA,hm,hT⟩:=hx;have Gx:fB (e.d.cx K' Q [] [vR aK] ⟨[d1],.deferred,aQ⟩ [(0,.pointer (some ⟨e.Wg,0,none⟩))]):=H.iok hQ;refine BO.regEnd Gx (BO.fall Gx ?_);refine BO.doneD (C:=e.d.cx K' Q [] [vR aK] ⟨[d1],.deferred,aQ⟩ [(0,.pointer (some ⟨e.Wg,0,none⟩))]) (I0:=λR τ W=>IQ e.W0 e.StI e.Shun e.Wg e.SS e.R0 e.Fz e.Wf e.qs [] R τ W/\Q R) zbm rfl rfl Bh ?_ ?_ rfl rfl Tryd.func24 rfl zHS (λR τ W hr hi=>sZ K' R τ W w' v' hl hi.2 hr hi.1 hA hm hT)
 .funext R τ w
  show((IQ _ _ _ _ _ _ _ _ _ _ R τ w/\WgLive e.ty _ w)/\Q R)=((IQ _ _ _ _ _ _ _ _ _ _ R τ w/\Q R)/\WgLive _ _ w);rw[Bh];exact propext ⟨λ⟨⟨a,b⟩,c⟩=>⟨⟨a,c⟩,b⟩,λ⟨⟨a,c⟩,b⟩=>⟨⟨a,b⟩,c⟩⟩
 .have hx:=zdE (ty:=rC.tWg) (W0:=e.W0) (St:=e.StI) (Shun:=e.Shun) (Wg:=e.Wg) (SS:=e.SS) (R0:=e.R0) (Fz:=e.Fz) (Wf:=e.Wf) (qs:=e.qs) (chs:=[]) H.ss H.fz H.low
  exact⟨λR τ W aV h s=>⟨hx.suf _ _ _ _ h.1 s,h.2⟩,λR τ W a v h ha=>⟨hx.cell _ _ _ _ _ h.1 ha,h.2⟩,λR τ W d h=>⟨hx.at_ _ _ _ d h.1,h.2⟩,λR τ W h=>hx.rel _ _ _ h.1⟩
section
variable {L:Type}{C:Cx L}{l:L}
variable {fn:aN}{tmps:Array aF}{c:vJ}{k:List dW}{w:aE}
def BO.pieceQ (F:uT C.P C.fs)(hI:fB C)(hc:oI C.p ⟨C.fs,C.gs,true⟩ c=true)(hf:vK C.p fn)(dB:xM C.S c=true)
 (qI:∀(T:kK) (Q:nQ->tE->aE->Prop),pP (∀a' w',BO C l ⟨fn,a'.tmps,k,false⟩ w'->Q .normal a' w')->Code.wp C.p c Q ⟨tmps,[]⟩ (Tt.tp w T 0)):BO C l ⟨fn,tmps,.code c::k,false⟩ w:=
 BO.piece F hI hc hf dB λT=>qI T _ (aC λa' w' h=>⟨rfl,h⟩)
theorem BO.pV {c':vJ}(F:uT C.P C.fs)(hI:fB C)(hf:vK C.p fn)
 (qI:∀(w1:aE) (T:kK),w1=Tt.tp w T 0->∀Q:nQ->tE->aE->Prop,pP (∀a' w',BO C l ⟨fn,a'.tmps,k,false⟩ w'->Q .normal a' w')->Code.wp aK c' Q ⟨tmps,[]⟩ w1)
 (e:c=c':=by conv=>lhs;whnf) (hp:C.p=Tryd.prog:=by exact rfl) (hc:oI C.p ⟨C.fs,C.gs,true⟩ c=true:=by kernel_rfl) (dB:xM C.S c=true:=by kernel_rfl):BO C l ⟨fn,tmps,.code c::k,false⟩ w:=by
 subst e;exact BO.pieceQ F hI hc hf dB λT Q HQ=>by rw[hp];exact qI _ T rfl Q HQ
end
structure IOp (Wg:Nat)(R:Pr)(τ:cE)(W:aE):Prop where
 rel:∀a b,R a b->b≠Wg
 lt:Wg<W.heap.size
variable {Wg:Nat}
theorem iop_ix {ty:aM}:IX ty Wg (IOp Wg):=
 ⟨λR τ W aV h s=>⟨h.rel,lA h.lt s.size⟩,λR τ W a v h ha=>⟨h.rel,by rw[Hc];exact h.lt⟩,λR τ W d h=>⟨h.rel,h.lt⟩,λR τ W h=>h.rel⟩
theorem zeo {L:Type}{C:Cx L}(hQ:Up Q)(hC:C.I=λR τ W=>yK C.ty C.Wg (IOp C.Wg) R τ W/\Q R):fB C:=by
 refine⟨λR τ W aV h s=>?_,λR τ W R1 W1 h ht hs=>?_⟩<;>rw[hC] at*
 .exact⟨⟨⟨h.1.1.rel,lA h.1.1.lt s.size⟩,s.live h.1.2⟩,h.2⟩
 .refine⟨⟨⟨λa b x=>?_,lA h.1.1.lt hs.size⟩,?_⟩,hQ R R1 hs.le h.2⟩
  .rcases hs.new a b x with y|⟨y,_⟩
   .exact h.1.1.rel a b y
   .have:=h.1.1.lt;omega
  .obtain⟨a,b,hl⟩:=h.1.2
   exact⟨a,b,(hs.keep C.Wg h.1.1.lt λa x=>absurd rfl (h.1.1.rel a _ x)).trans hl⟩
def fR (Wg N:Nat)(W:List fE)(D:aE->Prop)(Fin:bC->aE->Prop)(St:Nat->Prop)(K:Pr)(Q:Pr->Prop)(base:List dE)(ds:Dk)(pin:List (Nat×aF)):Cx gE:=
 {p:=aK,gs:=Bi,fs:=fZ,ty:=rC.tWg,Wg:=Wg,A:=Au N W D,Fin:=Fin,main:=false,base:=base,ds:=ds,K:=K,St:=St,I:=λR τ w=>yK rC.tWg Wg (IOp Wg) R τ w/\Q R,pin:=pin}
def Kc:Go.Code:=(zef.body).getD .skip
def rOP0:Go.Code:=match Kc with| .seq (a) _=>a|_=>.skip
def rOP1:Go.Code:=match Kc with| .seq _ (.seq (a) _)=>a|_=>.skip
def zdS:Go.Code:=match Kc with| .seq _ (.seq _ (.block _ (.loop (.seq (a) _))))=>a|_=>.skip
def rOP3:Go.Code:=match Kc with| .seq _ (.seq _ (.block _ (.loop (.seq _ (.seq _ (.block _ (.seq (a) _)))))))=>a|_=>.skip
def rOP4:Go.Code:=match Kc with| .seq _ (.seq _ (.block _ (.loop (.seq _ (.seq _ (.block _ (.seq _ (.seq (.seq (a) _) _))))))))=>a|_=>.skip
def rOP5:Go.Code:=match Kc with| .seq _ (.seq _ (.block _ (.loop (.seq _ (.seq _ (.block _ (.seq _ (.seq (.seq _ (.cond _ (a) _)) _))))))))=>a|_=>.skip
def zfB:Go.Code:=match Kc with| .seq _ (.seq _ (.block _ (.loop (.seq _ (.seq _ (.block _ (.seq _ (.seq _ (a)))))))))=>a|_=>.skip
def zE9:Kc=.seq (rOP0) (.seq (rOP1) (.block 0 (.loop (.seq (zdS) (.seq (.cond (.tmp 6) (.skip) (.exit 0)) (.block 1 (.seq (rOP3) (.seq (.seq (rOP4) (.cond (.tmp 10) (rOP5) (.skip))) (zfB))))))))):=rfl
def zcR:Array Oper:=match zdS with| .region _ ops _=>ops|_=>#[]
def zxk:zdS=.region 2 zcR false:=rfl
def zu7:gD zcR.size=[0,1]:=rfl
abbrev oOP2_0:Oper:=⟨some 5,.recv 95 (.tmp 4) true,0,"l6_office.go:89",#[],none⟩
def zoL:zcR[0]? =some oOP2_0:=rfl
abbrev oOP2_1:Oper:=⟨some 6,.extract (.tmp 5) 1,4,"l6_office.go:89",#[⟨0,.data⟩],none⟩
def zhp:zcR[1]? =some oOP2_1:=rfl
def Vr:Array Oper:=match zfB with| .region _ ops _=>ops|_=>#[]
def zsJ:zfB=.region 6 Vr false:=rfl
def zpi:gD Vr.size=[0,1,2,3]:=rfl
abbrev oOP6_0:Oper:=⟨some 13,.fieldAddr 97 (.tmp 3) 2,0,"l6_office.go:93",#[],none⟩
def zrj:Vr[0]? =some oOP6_0:=rfl
abbrev oOP6_1:Oper:=⟨some 14,.load 61 (.tmp 13),61,"l6_office.go:93",#[⟨0,.data⟩],none⟩
def zqN:Vr[1]? =some oOP6_1:=rfl
abbrev oOP6_2:Oper:=⟨some 15,.move (.tmp 2),3,"l6_office.go:93",#[],none⟩
def ztZ:Vr[2]? =some oOP6_2:=rfl
abbrev oOP6_3:Oper:=⟨none,.send (.tmp 14) (.tmp 15),0,"l6_office.go:93",#[⟨1,.data⟩,⟨2,.data⟩],none⟩
def zsK:Vr[3]? =some oOP6_3:=rfl
def Ww:vK aK 23:=⟨_,zkp,.inl rfl⟩
def zda:Go.Code:=.seq zdS (.seq (.cond (.tmp 6) .skip (.exit 0)) (.block 1 (.seq rOP3 (.seq (.seq rOP4 (.cond (.tmp 10) rOP5 .skip)) zfB))))
theorem info_q:∃ie,aK.info? 97=some ie/\ie.zero=some (.agg #[.int .i64 0,.int .i64 0,.chan none]):=by
 have h:(aK.info? 97).bind (·.zero)=some (.agg #[.int .i64 0,.int .i64 0,.chan none]):=aS;obtain⟨ie,h1,h2⟩:=Option.bind_eq_some_iff.1 h;exact⟨ie,h1,h2⟩
def zwK:aK.underlying 95=some (.chan .recv 97):=aS
def vr3 {S:aN->Prop}{R:Pr}{a b:Int}{x y:aF}(h:VR S K R x y):VR S K R (.agg #[.int .i64 a,.int .i64 b,x]) (.agg #[.int .i64 a,.int .i64 b,y]):=
 .agg' (((bK.empty.push (.int _ _)).push (.int _ _)).push h)
section
variable {Wg N:Nat}{W:List fE}{D:aE->Prop}{Fin:bC->aE->Prop}{St:Nat->Prop}{Q:Pr->Prop}{base:List dE}{gc c:Nat}
theorem zzm {K0:Pr}(ztz:K0 gc c)(hQ:Up Q)(N3:∀K T todo w,K0.le K->BO (fR Wg N W D Fin St K Q base .nil []) .oD ⟨23,T,todo,true⟩ w):
 ∀(m:Nat) (K:Pr) (w:aE) (call:Int) (u1 u3 u5 u6 u7 u8 u9 gH fY gA fW fX gC:aF),K0.le K->BO (fR Wg N W D Fin St K Q base .nil []) (.op c call m) ⟨23,#[.chan (some gc),u1,.int .i64 call,u3,.chan (some gc),u5,u6,u7,u8,u9,gH,fY,gA,fW,fX,gC],[.code zda,.inLoop zda,.inBlock 0],false⟩ w:=by
 have F:∀K,uT (fR Wg N W D Fin St K Q base .nil []).P (fR Wg N W D Fin St K Q base .nil []).fs:=λK=>mG;have hI:∀K,fB (fR Wg N W D Fin St K Q base .nil []):=λK=>zeo hQ rfl;obtain⟨ie,jL,hz⟩:=info_q;intro m
 induction m with
 |zero=>
  intro K w call u1 u3 u5 u6 u7 u8 u9 gH fY gA fW fX gC hL;have hK:K gc c:=hL _ _ ztz;unfold zda;refine BO.seq (hI K) ?_;rw[zxk];refine BO.regs (hI K) _ zu7 ?_;refine BO.recvK rfl (hI K) zoL rfl rfl zwK jL hz (λR=>vr3 (.chan .none)) rfl rfl hK Hr rfl (λv hv=>absurd hv.2 (Nat.lt_irrefl 0)) (λ_=>?_);simp only[b7,gK,dV,dX];refine BO.op (F K) (hI K) zhp rfl aS Hr (λT=>⟨.bool false,Tt.tp w T 0,.inl Oc,?_⟩);simp only[b7,gK,dV,dX];refine BO.regEnd (hI K) ?_;refine BO.seq (hI K) ?_;refine BO.cond (hI K) (t:=false) rfl rfl ?_;refine BO.exit (hI K) (k':=[]) rfl (BO.fall (hI K) (N3 K _ _ _ hL))
 |succ m ih=>
  intro K w call u1 u3 u5 u6 u7 u8 u9 gH fY gA fW fX gC hL;have hK:K gc c:=hL _ _ ztz;unfold zda;refine BO.seq (hI K) ?_;rw[zxk];refine BO.regs (hI K) _ zu7 ?_;refine BO.recvK rfl (hI K) zoL rfl rfl zwK jL hz (λR=>vr3 (.chan .none)) rfl rfl hK Hr rfl (λv hv=>?_) (λ_=>?_)
  .obtain⟨hs,_⟩:=hv
   obtain⟨⟨kd,cl,a⟩,hu⟩:=Option.isSome_iff_exists.1 hs;obtain rfl:=zHu hu;refine⟨a,by show a∈Oz (J6 kd cl a);simp[Oz,ze6],λK' ga w' hle Z8 jH=>⟨.agg #[.int .i64 kd,.int .i64 cl,.chan (some ga)],λR=>vr3 (.chan (.some (.inr Z8))),?_⟩⟩;have rI:K' gc c:=hle _ _ hK;have zaL:=vS hL hle;show BO (fR Wg N W D Fin St K' Q base .nil []) (Pz c call (m+1) (J6 kd cl a)) _ w';simp only[Pz,ze6,Nat.add_sub_cancel];simp only[b7,gK,dV,dX];refine BO.op (F K') (hI K') zhp rfl aS Hr (λT=>⟨.bool true,Tt.tp w' T 0,.inl Oc,?_⟩);simp only[b7,gK,dV,dX];refine BO.regEnd (hI K') ?_;refine BO.seq (hI K') ?_;refine BO.cond (hI K') (t:=true) rfl rfl ?_;refine BO.skip (hI K') ?_;refine BO.block (hI K') ?_;refine BO.seq (hI K') ?_;obtain⟨w1,eT⟩:=aU (Tt.tp w' T 0);rw[<-eT];clear eT;refine BO.pV (F K') (hI K') Ww (λw2 T1 fQ Q' cV=>?_);clear fQ;simp only[recvd,if_true];go_wp2;refine cV.o _ _ ?_;clear cV;obtain⟨gb,eK⟩:=aU w2.heap.size;obtain⟨w3,iM⟩:=aU (w2.alloc (.cells #[.int .i64 kd,.int .i64 cl,.chan (some ga)] 97));have kg:w3.heap[gb]? =some (.cells #[.int .i64 kd,.int .i64 cl,.chan (some ga)] 97):=by rw[iM,eK];exact lO _ _
   rw[<-eK,<-iM];clear iM eK;refine BO.seq (hI K') ?_;refine BO.seq (hI K') ?_;have k0:=aJ kg 0;have k1:=aJ kg 1;have k2:=aJ kg 2;by_cases n8:kd=1
   .refine BO.pV (F K') (hI K') Ww (λwt T1 cC Q' cV=>?_)
    subst cC;have zhc:(Tt.tp w3 T1 0).cell? ⟨gb,0,none⟩=some (.int .i64 kd):=k0;subst n8;go_wp2;refine cV.o _ _ ?_;clear cV zhc;refine BO.cond (hI K') (t:=true) rfl rfl ?_;refine BO.pV (F K') (hI K') Ww (λwt T2 cC Q' cV=>?_);subst cC;have zGn:(Tt.tp (Tt.tp w3 T1 0) T2 0).cell? ⟨gb,1,none⟩=some (.int .i64 cl):=k1;go_wp2;refine cV.o _ _ ?_;clear cV zGn;rw[if_pos trivial];rw[zsJ];refine BO.regs (hI K') _ zpi ?_;refine BO.op (F K') (hI K') zrj rfl aS Hr (λT3=>⟨.pointer (some ⟨gb,2,none⟩),_,.inl Oc,?_⟩);simp only[b7,gK,dV,dX];refine BO.op (F K') (hI K') zqN rfl aS Hr (λT4=>⟨.chan (some ga),_,.inl (zaj (a:=⟨gb,2,none⟩) rfl rfl (zpL _) k2),?_⟩);simp only[b7,gK,dV,dX];refine BO.op (F K') (hI K') ztZ rfl aS Hr (λT5=>⟨.int .i64 cl,_,.inl Oc,?_⟩);simp only[b7,gK,dV,dX];refine BO.send rfl (hI K') (l':=.op c cl m) zsK rfl rfl rfl rfl Z8 rfl zh4 rfl (λR v' hv=>⟨by cases hv;rfl,rfl,rfl⟩) ?_;refine BO.regEnd (hI K') ?_;refine BO.inBlock (hI K') ?_;refine BO.inLoop (hI K') ?_;exact ih K' _ cl _ _ _ _ _ _ _ _ _ _ _ _ _ zaL
   .refine BO.pV (F K') (hI K') Ww (λwt T1 cC Q' cV=>?_)
    subst cC;have zhc:(Tt.tp w3 T1 0).cell? ⟨gb,0,none⟩=some (.int .i64 kd):=k0;have qD:(kd==1)=false:=by simpa using n8
    go_wp2;refine cV.o _ _ ?_;clear cV zhc;refine BO.cond (hI K') (t:=false) rfl (by first|rfl|(simp[vW,n8])) ?_;refine BO.skip (hI K') ?_;rw[if_neg n8];rw[zsJ];refine BO.regs (hI K') _ zpi ?_;refine BO.op (F K') (hI K') zrj rfl aS Hr (λT3=>⟨.pointer (some ⟨gb,2,none⟩),_,.inl Oc,?_⟩);simp only[b7,gK,dV,dX];refine BO.op (F K') (hI K') zqN rfl aS Hr (λT4=>⟨.chan (some ga),_,.inl (zaj (a:=⟨gb,2,none⟩) rfl rfl (zpL _) k2),?_⟩);simp only[b7,gK,dV,dX];refine BO.op (F K') (hI K') ztZ rfl aS Hr (λT5=>⟨.int .i64 call,_,.inl Oc,?_⟩);simp only[b7,gK,dV,dX];refine BO.send rfl (hI K') (l':=.op c call m) zsK rfl rfl rfl rfl Z8 rfl zh4 rfl (λR v' hv=>⟨by cases hv;rfl,rfl,rfl⟩) ?_;refine BO.regEnd (hI K') ?_;refine BO.inBlock (hI K') ?_;refine BO.inLoop (hI K') ?_;exact ih K' _ call _ _ _ _ _ _ _ _ _ _ _ _ _ zaL
  .simp only[b7,gK,dV,dX]
   refine BO.op (F K) (hI K) zhp rfl aS Hr (λT=>⟨.bool false,Tt.tp w T 0,.inl Oc,?_⟩);simp only[b7,gK,dV,dX];refine BO.regEnd (hI K) ?_;refine BO.seq (hI K) ?_;refine BO.cond (hI K) (t:=false) rfl rfl ?_;refine BO.exit (hI K) (k':=[]) rfl (BO.fall (hI K) (N3 K _ _ _ hL))
end
def Xt:Go.Code:=(Tryd.f21.body).getD .skip
def rH10:Go.Code:=match Xt with| .seq (a) _=>a|_=>.skip
def rH11:Go.Code:=match Xt with| .seq _ (a)=>a|_=>.skip
def zCy:Xt=.seq (rH10) (rH11):=rfl
def zm5:Array Oper:=match rH10 with| .region _ ops _=>ops|_=>#[]
def zC1:rH10=.region 0 zm5 false:=rfl
def zBI:gD zm5.size=[0]:=rfl
abbrev zvh:Oper:=⟨none,.defer ⟨.value (.func 22),#[.tmp 0],#[71]⟩,0,"l6_office.go:286",#[],none⟩
def zyX:zm5[0]? =some zvh:=rfl
def zdy:Array Oper:=match rH11 with| .region _ ops _=>ops|_=>#[]
def zxU:rH11=.region 1 zdy false:=rfl
def zFZ:gD zdy.size=[0,1]:=rfl
abbrev oH11_0:Oper:=⟨some 2,.load 72 (.tmp 1),72,"l6_office.go:287",#[],none⟩
def zI8:zdy[0]? =some oH11_0:=rfl
abbrev oH11_1:Oper:=⟨some 3,.call ⟨.value (.func 23),#[.tmp 2],#[95]⟩,0,"l6_office.go:287",#[⟨0,.data⟩],none⟩
def zC2:zdy[1]? =some oH11_1:=rfl
theorem znV {Fin:bC->aE->Prop}{St:Nat->Prop}{base:List dE}(m':Fm)(nO:Pr):
 (fR Wg N W D Fin St K Q base ds pin).sub m' nO=fR Wg N W D Fin St K (λR=>Q R/\nO.le R) (fx [] ds m'::base) .nil []:=by
 have e:(λR τ w=>(yK rC.tWg Wg (IOp Wg) R τ w/\Q R)/\nO.le R)=(λR τ w=>yK rC.tWg Wg (IOp Wg) R τ w/\Q R/\nO.le R):=by
  funext R τ W;exact propext and_assoc
 unfold Cx.sub fR;simp only;rw[e]
section
variable {Wg N:Nat}{W:List fE}{D:aE->Prop}{Fin:bC->aE->Prop}{St:Nat->Prop}{gc gv c:Nat}
variable {K:Pr}
theorem zGi {Q:Pr->Prop}{base:List dE}(hK:K gc c)(hQ:Up Q)(m:Nat)(w:aE)(N3:∀K' T todo w,K.le K'->BO (fR Wg N W D Fin St K' Q base .nil []) .oD ⟨23,T,todo,true⟩ w):
 BO (fR Wg N W D Fin St K Q base .nil []) (.op c 0 m) ⟨23,#[.chan (some gc),aA,aA,aA,aA,aA,aA,aA,aA,aA,aA,aA,aA,aA,aA,aA],[.code Kc],false⟩ w:=by
 have F:uT (fR Wg N W D Fin St K Q base .nil []).P (fR Wg N W D Fin St K Q base .nil []).fs:=mG;have hI:fB (fR Wg N W D Fin St K Q base .nil []):=zeo hQ rfl;rw[zE9];refine BO.seq hI ?_;refine BO.pV F hI Ww (λw1 T1 eT Q' HQ=>?_);clear eT;go_wp2;refine HQ.o _ _ ?_;clear HQ;refine BO.seq hI ?_;refine BO.pV F hI Ww (λw2 T2 fQ Q' HQ=>?_);clear fQ;go_wp2;refine HQ.o _ _ ?_;clear HQ;refine BO.block hI ?_;refine BO.loop hI ?_;exact zzm hK hQ N3 m K w2 0 _ _ _ _ _ _ _ _ _ _ _ _ _ (vY K)
theorem zAw (hK:K gc c)(m:Nat){w:aE}(hv:w.cell? ⟨gv,0,none⟩=some (.chan (some gc))):
 BO (fR Wg N W D Fin St K (λ_=>True) [vR aK] ⟨[],.deferred,aQ⟩ [(0,.pointer (some ⟨Wg,0,none⟩))]) (.op c 0 m) ⟨21,#[.nilFunc,.pointer (some ⟨gv,0,none⟩),aA,aA],[.code Xt],false⟩ w:=by
 let C:=fR Wg N W D Fin St K (λ_=>True) [vR aK] ⟨[],.deferred,aQ⟩ [(0,.pointer (some ⟨Wg,0,none⟩))]
 have hQ:Up (λ_=>True):=λ_ _ _ _=>trivial;have hI:fB C:=zeo hQ rfl
 let d1:=dcall 22 #[.pointer (some ⟨Wg,0,none⟩)]
 have Ka:fB (C.dfr d1):=hI.dfr d1;have F:uT C.P C.fs:=mG;show BO C _ _ _;rw[zCy];refine BO.seq hI ?_;rw[zC1];refine BO.regs hI _ zBI ?_;refine BO.defer hI (d:=d1) zyX rfl rfl (λR w W bQ _ _ C2 aV=>?_) ?_
 .have h0:=C2 (0,.pointer (some ⟨Wg,0,none⟩)) (by show _∈[_];simp)
  have:=zpv (p:=C.p) (o:=zvh) (ρ:=(bH bQ C.ds.ds).eval) rfl rfl aV;simp only[uG,fG,tH,vW] at this;simp only at h0;rw[h0] at this;exact this
 refine BO.regEnd Ka ?_;rw[zxU];refine BO.regs Ka _ zFZ ?_;refine BO.op (C:=C.dfr d1) F Ka zI8 rfl aS (by intro s hs;cases hs;show(2:Nat)∉([0]:List Nat);decide) (λT=>⟨.chan (some gc),Tt.tp w T 0,.inl (zaj (a:=⟨gv,0,none⟩) rfl rfl (Tryd.isAgg72 _) hv),?_⟩);simp only[b7,gK,dV,dX];obtain⟨w1,eT⟩:=aU (Tt.tp w T 0);rw[<-eT];clear eT;refine BO.callN (C:=C.dfr d1) Ka zC2 rfl rfl (Callee.static _ _) aS zkp aH rfl (.inl rfl) λnO m' hm=>?_;have ha:(#[]++(#[zhQ 2]:Array cM).map (bH #[.nilFunc,.pointer (some ⟨gv,0,none⟩),.chan (some gc),aA] []).eval++ #[]:Array aF)=#[.chan (some gc)]:=by
  simp only[uG,fG,tH,vW,Array.empty_append,Array.append_empty];rfl
 have Aw:(#[.chan (some gc)]:Array aF)++nD ((zef).ntmps-(#[.chan (some gc)]:Array aF).size) aA=#[.chan (some gc),aA,aA,aA,aA,aA,aA,aA,aA,aA,aA,aA,aA,aA,aA,aA]:=by
  have e:(zef).ntmps=16:=rfl;rw[e];apply Array.ext';simp only[N5,Array.toList_replicate,Ec,pG,List.length_nil];rfl
 show BO (Cx.sub _ m' nO) _ ⟨_,(#[]++(#[zhQ 2]:Array cM).map (bH #[.nilFunc,.pointer (some ⟨gv,0,none⟩),.chan (some gc),aA] []).eval++ #[]:Array aF)++nD ((zef).ntmps-(#[]++(#[zhQ 2]:Array cM).map (bH #[.nilFunc,.pointer (some ⟨gv,0,none⟩),.chan (some gc),aA] []).eval++ #[]:Array aF).size) aA,[.code Kc],false⟩ _;rw[ha,Aw];have eC:C.dfr d1=fR Wg N W D Fin St K (λ_=>True) [vR aK] ⟨[d1],.deferred,aQ⟩ [(0,.pointer (some ⟨Wg,0,none⟩))]:=rfl;rw[eC] at hm⊢;rw[znV];refine zGi hK (hQ.and nO) m w1 λK' T todo w2 hl=>?_;rw[<-znV];have Gx:fB (fR Wg N W D Fin St K' (λ_=>True) [vR aK] ⟨[d1],.deferred,aQ⟩ [(0,.pointer (some ⟨Wg,0,none⟩))]):=zeo hQ rfl;refine BO.retN Gx (hm.upK hl _) (v:=.tuple #[]) rfl rfl zsf zkp rfl ?_;show BO _ _ ⟨_,_,[.inRegion _ []],false⟩ _;refine BO.regEnd Gx (BO.fall Gx ?_);exact BO.doneD zbm rfl rfl rfl (I0:=IOp Wg) (by
  funext R τ w;exact propext (and_iff_left trivial)) iop_ix rfl rfl Tryd.func21 rfl rfl (λ_ _ _ _ _=>trivial)
end
end Go.Proofs.YtfcjiloojkjaeaaDoor
