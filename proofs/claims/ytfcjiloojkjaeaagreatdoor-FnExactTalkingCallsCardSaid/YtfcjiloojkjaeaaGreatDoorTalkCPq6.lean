/-
  Part 6 of what stands behind the last text.
-/
import Derived.Lib.AppendIntMem
import Derived.LaidMore
import Derived.Test.YtfcjiloojkjaeaaGreatDoorCards
import Derived.Deep.CutBlock
import Derived.SevenTiedAt
import Derived.Test.YtfcjiloojkjaeaaGreatDoorTalkCPq5
set_option linter.all false
set_option maxHeartbeats 16000000
set_option maxRecDepth 100000
open Array renaming ext'→Ik,getD_eq_getD_getElem?→tJ,getElem?_eq_getElem→mE,getElem?_eq_some_iff→dP,getElem?_map→yB,getElem?_setIfInBounds_ne→jV,getElem?_toList→Aw,mem_of_getElem?→Sm,replicate→nU,toList_append→Oz,toList_replicate→zaN
open Bool renaming and_eq_true→fU,eq_iff_iff→M9,or_eq_true→Ey
open Go renaming Addr→bL,Calls→fN,Code→vX,Frame→dK,FuncId→aP,Goroutine→bC,Item→eE,Oper→aZ,Operand→cM,Program→bS,Tape→jW,TypeId→aM,Value→aF,World→aE,execOp→aS,heap_alloc_new→lF,undef→aA,yielded→dR
open Go.Act renaming eval→wF,mk→bH,put→cC
open Go.Claim7 renaming isSixth→zv1
open Go.Conc renaming base→J5
open Go.Fn renaming func→zuV
open Go.Item renaming code→Nr
open Go.Lib renaming TabIs→zfM,tabBelow_of_tabIs→zi5
open Go.MakeChecks renaming laidMetH_plain→zv0
open Go.Operand renaming tmp→zld
open Go.Proofs.Tryz renaming checked→vK,f21→zfL,f42→ze4,f54→znc,f56→zkp,f57→zqE,func21→zrk,func42→zdX,func54→zsf,func56→zqh,prog→aK,underlying23→zn6
open Go.Region renaming wanted→dF
open Go.RowKit renaming Below→bV
open Go.RowKit.Below renaming heap_alloc→qO,refl→eF
open Go.Value renaming bool→M5,int→Pq,ownBlock→D8
open Go.World renaming cell?→lI,var?→zer
open List renaming getD_eq_getElem?_getD→Lj,getElem?_append_left→Ab,getElem?_eq_some_iff→kD,length_append→gN,length_cons→pT,length_nil→rR,map_cons→fO,map_nil→tW,map_toArray→uI,mem_of_getElem?→dZ,mem_singleton→sZ,nodup_nil→Qu,not_mem_nil→lZ,range→gF,setIfInBounds_toArray→gK,set_cons_succ→dV,set_cons_zero→dU,size_toArray→Eh
open Nat renaming le_refl→aX,le_succ→Rt,le_trans→eG,lt_of_lt_of_le→lD,lt_or_ge→nC,lt_succ_self→xH,lt_trans→ziN,zero_le→jT
open Option renaming bind_some→vD,map_eq_some_iff→xK,map_some→Ao
open Option.some renaming inj→cE,injEq→gA
open SizeOf renaming sizeOf→N2
noncomputable section
namespace Go
def V5{P:Prop}(h:P:=by simp[Fm.eval]):P:=h
def zwH{P:Prop}(h:P:=by rw[<-zaf] at*;exact uY.o.oldB dW HK.o):P:=h
def ziW{P:Prop}(h:P:=by rw[hp,hg,hf];kernel_rfl):P:=h
end Go
namespace Go.Proofs.YtfcjiloojkjaeaaGreatDoor
open Go.RowKit Go.Mt Go.Conc Go.Tt Go.Maps Go.Conc.Lib Go.ConcR.Gen
open Go.ConcR (KK wgBlock WgAt stA smA rd wr)
def Xp:Go.Code:=(znc.body).getD .skip
def rH10:Go.Code:=match Xp with| .seq (a) _=>a|_=>.skip
def rH11:Go.Code:=match Xp with| .seq _ (a)=>a|_=>.skip
def zEO:Xp=.seq (rH10) (rH11):=rfl
def zix:Array Oper:=match rH10 with| .region _ ops _=>ops|_=>#[]
def rH10_eq:rH10=.region 0 zix false:=rfl
def zy2:gF zix.size=[0]:=rfl
abbrev zv2:Oper:=⟨none,.defer ⟨.value (.func 55),#[.tmp 0],#[94]⟩,0,"l6_office.go:286",#[],none⟩
def zJe:zix[0]? =some zv2:=rfl
def zeX:Array Oper:=match rH11 with| .region _ ops _=>ops|_=>#[]
def rH11_eq:rH11=.region 1 zeX false:=rfl
def zCd:gF zeX.size=[0,1]:=rfl
abbrev oH11_0:Oper:=⟨some 2,.load 95 (.tmp 1),95,"l6_office.go:287",#[],none⟩
def zGZ:zeX[0]? =some oH11_0:=rfl
abbrev oH11_1:Oper:=⟨some 3,.call ⟨.value (.func 56),#[.tmp 2],#[122]⟩,0,"l6_office.go:287",#[⟨0,.data⟩],none⟩
def zyN:zeX[1]? =some oH11_1:=rfl
variable {pin:List (Nat×aF)}
theorem zsE {Wg N:Nat}{W:List fH}{D:aE->Prop}{Fin:bC->aE->Prop}{St:Nat->Prop}{Q:Pr->Prop}{K:Pr}{base:List dK}{ds:Dk}(m':Fm)(n6:Pr):
 (fY Wg N W D Fin St K Q base ds pin).sub m' n6=fY Wg N W D Fin St K (λR=>Q R/\n6.le R) (fx [] ds m'::base) .nil []:=by
 have e:(λR τ w=>(yZ sD.tWg Wg (IOp Wg) R τ w/\Q R)/\n6.le R)=(λR τ w=>yZ sD.tWg Wg (IOp Wg) R τ w/\Q R/\n6.le R):=by
  funext R τ W;exact propext and_assoc
 unfold Cx.sub fY;simp only;rw[e]
section
variable {Wg N:Nat}{W:List fH}{D:aE->Prop}{Fin:bC->aE->Prop}{St:Nat->Prop}{gc gv c:Nat}
variable {K:Pr}
theorem op_body {Q:Pr->Prop}{base:List dK}(hK:K gc c)(hQ:Up Q)(m:Nat)(w:aE)(Pg:∀K' T todo w,K.le K'->BO (fY Wg N W D Fin St K' Q base .nil []) .oD ⟨56,T,todo,true⟩ w):
 BO (fY Wg N W D Fin St K Q base .nil []) (.op c 0 m) ⟨56,#[.chan (some gc),aA,aA,aA,aA,aA,aA,aA,aA,aA,aA,aA,aA,aA,aA,aA],[.code K3],false⟩ w:=by
 have F:vN (fY Wg N W D Fin St K Q base .nil []).P (fY Wg N W D Fin St K Q base .nil []).fs:=mX;have hI:fG (fY Wg N W D Fin St K Q base .nil []):=zeu hQ rfl;rw[zFS];refine BO.seq hI ?_;refine BO.pV F hI V7 (λw1 T1 fA Q' HQ=>?_);clear fA;go_wp2;refine HQ.o _ _ ?_;clear HQ;refine BO.seq hI ?_;refine BO.pV F hI V7 (λw2 T2 fZ Q' HQ=>?_);clear fZ;go_wp2;refine HQ.o _ _ ?_;clear HQ;refine BO.block hI ?_;refine BO.loop hI ?_;exact op_loop hK hQ Pg m K w2 0 _ _ _ _ _ _ _ _ _ _ _ _ _ (wP K)
theorem zID (hK:K gc c)(m:Nat){w:aE}(hv:w.cell? ⟨gv,0,none⟩=some (.chan (some gc))):
 BO (fY Wg N W D Fin St K (λ_=>True) [wI aK] ⟨[],.deferred,aO⟩ [(0,.pointer (some ⟨Wg,0,none⟩))]) (.op c 0 m) ⟨54,#[.nilFunc,.pointer (some ⟨gv,0,none⟩),aA,aA],[.code Xp],false⟩ w:=by
 let C:=fY Wg N W D Fin St K (λ_=>True) [wI aK] ⟨[],.deferred,aO⟩ [(0,.pointer (some ⟨Wg,0,none⟩))]
 have hQ:Up (λ_=>True):=λ_ _ _ _=>trivial;have hI:fG C:=zeu hQ rfl
 let d1:=dcall 55 #[.pointer (some ⟨Wg,0,none⟩)]
 have J3:fG (C.dfr d1):=hI.dfr d1;have F:vN C.P C.fs:=mX;show BO C _ _ _;rw[zEO];refine BO.seq hI ?_;rw[rH10_eq];refine BO.regs hI _ zy2 ?_;refine BO.defer hI (d:=d1) zJe rfl rfl (λR w W bQ _ _ Dp aV=>?_) ?_
 .have h0:=Dp (0,.pointer (some ⟨Wg,0,none⟩)) (by show _∈[_];simp)
  have:=zqq (p:=C.p) (o:=zv2) (ρ:=(bH bQ C.ds.ds).eval) rfl rfl aV;simp only[uI,fO,tW,wF] at this;simp only at h0;rw[h0] at this;exact this
 refine BO.regEnd J3 ?_;rw[rH11_eq];refine BO.regs J3 _ zCd ?_;refine BO.op (C:=C.dfr d1) F J3 zGZ rfl aQ (by intro s hs;cases hs;show(2:Nat)∉([0]:List Nat);decide) (λT=>⟨.chan (some gc),Tt.tp w T 0,.inl (zbr (a:=⟨gv,0,none⟩) rfl rfl (Tryz.isAgg95 _) hv),?_⟩);simp only[cC,gK,dU,dV];obtain⟨w1,fA⟩:=aU (Tt.tp w T 0);rw[<-fA];clear fA;refine BO.callN (C:=C.dfr d1) J3 zyN rfl rfl (Callee.static _ _) aQ zqh aH rfl (.inl rfl) λn6 m' hm=>?_;have ha:(#[]++(#[zld 2]:Array cM).map (bH #[.nilFunc,.pointer (some ⟨gv,0,none⟩),.chan (some gc),aA] []).eval++ #[]:Array aF)=#[.chan (some gc)]:=by
  simp only[uI,fO,tW,wF,Array.empty_append,Array.append_empty];rfl
 have Cn:(#[.chan (some gc)]:Array aF)++nU ((zkp).ntmps-(#[.chan (some gc)]:Array aF).size) aA=#[.chan (some gc),aA,aA,aA,aA,aA,aA,aA,aA,aA,aA,aA,aA,aA,aA,aA]:=by
  have e:(zkp).ntmps=16:=rfl;rw[e];apply Ik;simp only[Oz,zaN,Eh,pT,rR];rfl
 show BO (Cx.sub _ m' n6) _ ⟨_,(#[]++(#[zld 2]:Array cM).map (bH #[.nilFunc,.pointer (some ⟨gv,0,none⟩),.chan (some gc),aA] []).eval++ #[]:Array aF)++nU ((zkp).ntmps-(#[]++(#[zld 2]:Array cM).map (bH #[.nilFunc,.pointer (some ⟨gv,0,none⟩),.chan (some gc),aA] []).eval++ #[]:Array aF).size) aA,[.code K3],false⟩ _;rw[ha,Cn];have eC:C.dfr d1=fY Wg N W D Fin St K (λ_=>True) [wI aK] ⟨[d1],.deferred,aO⟩ [(0,.pointer (some ⟨Wg,0,none⟩))]:=rfl;rw[eC] at hm⊢;rw[zsE];refine op_body hK (hQ.and n6) m w1 λK' T todo w2 hl=>?_;rw[<-zsE];have Gy:fG (fY Wg N W D Fin St K' (λ_=>True) [wI aK] ⟨[d1],.deferred,aO⟩ [(0,.pointer (some ⟨Wg,0,none⟩))]):=zeu hQ rfl;refine BO.retN Gy (hm.upK hl _) (v:=.tuple #[]) rfl rfl zyv zqh rfl ?_;show BO _ _ ⟨_,_,[.inRegion _ []],false⟩ _;refine BO.regEnd Gy (BO.fall Gy ?_);exact BO.doneD zaZ rfl rfl rfl (I0:=IOp Wg) (by
  funext R τ w;exact propext (and_iff_left trivial)) iop_ix rfl rfl zsf rfl rfl (λ_ _ _ _ _=>trivial)
end
end Go.Proofs.YtfcjiloojkjaeaaGreatDoor
namespace Go.Mt
open Go.RowKit Go.Conc Go.Tt Go.Maps Go.Conc.Lib Go.ConcR.Gen
theorem BO.drawn {L:Type}{p:bS}{gs fs:aP->Bool}{f:aP}{kk:List eE}(zmW:p.follows .mixedOrders=true){id:Nat}{t0:Array aF}{ops:Array aZ}(ch:List Nat)(V0:Nat->aF)(S:List aF->Cx L->L->aE->Prop)(hS:∀vs C l w,S vs C l w->fG C/\C.p=p/\C.gs=gs/\C.fs=fs/\vN C.P C.fs/\∀(i:Nat) (o:aZ) (s:Tmp),ops[i]? =some o->o.dst=some s->s∉C.S)(bU:I5 ops=true)(tM:Nt ops ch=true)(nY:ch.all (λc=>decide (c<ops.size))=true)
 (hT:∀vs C l w T e,S vs C l w->S vs C l (Tt.tp w T e))
 (hR:∀(i:Nat) (o:aZ),ops[i]? =some o->i∉ch->sG p ⟨fs,gs,true⟩ o.op=true/\∀vs C l w,vs.length<ch.length->S vs C l w->dF o (dR ops (dE ops (VV ch V0 vs) t0))=true/\(aS (bH (dE ops (VV ch V0 vs) t0) []).eval o).run p w=.ok (.value (V0 i)) w)
 (hC:∀(vs:List aF) (c:Nat) (o:aZ) C l w,ch[vs.length]? =some c->ops[c]? =some o->S vs C l w->∀(t:Array aF) (rest:List Nat),(∀s∈o.looksAt ops,t[s]? =(dE ops (VV ch V0 vs) t0)[s]?)->
  (∀v C' l' w',S (vs++[v]) C' l' w'->BO C' l' ⟨f,(cC ⟨t,[]⟩ o.dst v).tmps,.inRegion ops rest::kk,false⟩ w')->BO C l ⟨f,t,.inRegion ops (c::rest)::kk,false⟩ w)
 (hk:∀vs C l w,vs.length=ch.length->S vs C l w->BO C l ⟨f,dE ops (VV ch V0 vs) t0,.inRegion ops []::kk,false⟩ w) {C:Cx L} {l:L} {w:aE} (h0:S [] C l w):BO C l ⟨f,t0,.code (.region id ops true)::kk,false⟩ w:=by
 obtain⟨sI,sp,_⟩:=hS _ _ _ _ h0;refine BO.draw sI λn=>?_;rw[sp,zmW]
 exact zvN (σ:=Cx L×L) (P:=p) (J:=λs is t w=>BO s.1 s.2 ⟨f,t,.inRegion ops is::kk,false⟩ w) (S:=λvs s w=>S vs s.1 s.2 w) bU tM nY
  (λvs s i o rest t w v h ho yD hw hx hJ=>by
   obtain⟨sI,sp,sg,sf,sF,sn⟩:=hS vs _ _ w h;exact BO.op sF sI ho hw (by rw[sp,sg,sf];exact(hR i o ho yD).1) (λs hs=>sn i o s ho hs) λT=>⟨v,_,.inl (by rw[sp];exact hx T),hJ T⟩)
  (λvs s=>hT vs s.1 s.2) (λi o ho yD vs s=>(hR i o ho yD).2 vs s.1 s.2) (λvs c o s w hj ho h t rest hs cO=>hC vs c o s.1 s.2 w hj ho h t rest hs λv C' l' w'=>cO v (C',l') w') (λvs s w=>hk vs s.1 s.2 w) (s:=(C,l)) h0 n
end Go.Mt
namespace Go.Proofs.YtfcjiloojkjaeaaGreatDoor
open Go.RowKit Go.Mt Go.Conc Go.Tt Go.Maps Go.Conc.Lib Go.ConcR.Gen
open Go.ConcR (KK wgBlock WgAt stA smA rd wr)
def oA:Go.Code:=(ze4.body).getD .skip
def rRH0:Go.Code:=match oA with| .seq (a) _=>a|_=>.skip
def rRH1:Go.Code:=match oA with| .seq _ (.seq (.seq (a) _) _)=>a|_=>.skip
def rRH2:Go.Code:=match oA with| .seq _ (.seq (.seq _ (.cond _ (.seq (a) _) _)) _)=>a|_=>.skip
def rRH3:Go.Code:=match oA with| .seq _ (.seq _ (.seq (.seq (a) _) _))=>a|_=>.skip
def rRH4:Go.Code:=match oA with| .seq _ (.seq _ (.seq (.seq _ (.block _ (.loop (.seq (a) _)))) _))=>a|_=>.skip
def rRH5:Go.Code:=match oA with| .seq _ (.seq _ (.seq (.seq _ (.block _ (.loop (.seq _ (.seq _ (.seq (.block _ (.seq (a) _)) _)))))) _))=>a|_=>.skip
def rRH6:Go.Code:=match oA with| .seq _ (.seq _ (.seq (.seq _ (.block _ (.loop (.seq _ (.seq _ (.seq (.block _ (.seq _ (.seq (a) _))) _)))))) _))=>a|_=>.skip
def rRH7:Go.Code:=match oA with| .seq _ (.seq _ (.seq (.seq _ (.block _ (.loop (.seq _ (.seq _ (.seq (.block _ (.seq _ (.seq _ (.cond _ (.seq (a) _) _)))) _)))))) _))=>a|_=>.skip
def rRH8:Go.Code:=match oA with| .seq _ (.seq _ (.seq (.seq _ (.block _ (.loop (.seq _ (.seq _ (.seq _ (a))))))) _))=>a|_=>.skip
def rRH9:Go.Code:=match oA with| .seq _ (.seq _ (.seq _ (.seq (a) _)))=>a|_=>.skip
def ziD:Go.Code:=match oA with| .seq _ (.seq _ (.seq _ (.seq _ (.seq (.seq (a) _) _))))=>a|_=>.skip
def rRH11:Go.Code:=match oA with| .seq _ (.seq _ (.seq _ (.seq _ (.seq (.seq _ (.block _ (.loop (.seq (a) _)))) _))))=>a|_=>.skip
def za5:Go.Code:=match oA with| .seq _ (.seq _ (.seq _ (.seq _ (.seq (.seq _ (.block _ (.loop (.seq _ (.seq _ (.seq (.block _ (a)) _)))))) _))))=>a|_=>.skip
def rRH13:Go.Code:=match oA with| .seq _ (.seq _ (.seq _ (.seq _ (.seq (.seq _ (.block _ (.loop (.seq _ (.seq _ (.seq _ (a))))))) _))))=>a|_=>.skip
def Nb:Go.Code:=match oA with| .seq _ (.seq _ (.seq _ (.seq _ (.seq _ (.seq (a) _)))))=>a|_=>.skip
def zk9:Go.Code:=match oA with| .seq _ (.seq _ (.seq _ (.seq _ (.seq _ (.seq _ (.seq (.seq (a) _) _))))))=>a|_=>.skip
def zk3:Go.Code:=match oA with| .seq _ (.seq _ (.seq _ (.seq _ (.seq _ (.seq _ (.seq (.seq _ (.block _ (.loop (.seq (a) _)))) _))))))=>a|_=>.skip
def zbF:Go.Code:=match oA with| .seq _ (.seq _ (.seq _ (.seq _ (.seq _ (.seq _ (.seq (.seq _ (.block _ (.loop (.seq _ (.seq _ (.seq (.block _ (.seq (a) _)) _)))))) _))))))=>a|_=>.skip
def Pt:Go.Code:=match oA with| .seq _ (.seq _ (.seq _ (.seq _ (.seq _ (.seq _ (.seq (.seq _ (.block _ (.loop (.seq _ (.seq _ (.seq (.block _ (.seq _ (.seq (a) _))) _)))))) _))))))=>a|_=>.skip
def So:Go.Code:=match oA with| .seq _ (.seq _ (.seq _ (.seq _ (.seq _ (.seq _ (.seq (.seq _ (.block _ (.loop (.seq _ (.seq _ (.seq (.block _ (.seq _ (.seq _ (.seq (a) _)))) _)))))) _))))))=>a|_=>.skip
def Qy:Go.Code:=match oA with| .seq _ (.seq _ (.seq _ (.seq _ (.seq _ (.seq _ (.seq (.seq _ (.block _ (.loop (.seq _ (.seq _ (.seq (.block _ (.seq _ (.seq _ (.seq _ (a))))) _)))))) _))))))=>a|_=>.skip
def zl2:Go.Code:=match oA with| .seq _ (.seq _ (.seq _ (.seq _ (.seq _ (.seq _ (.seq (.seq _ (.block _ (.loop (.seq _ (.seq _ (.seq _ (a))))))) _))))))=>a|_=>.skip
def Zl:Go.Code:=match oA with| .seq _ (.seq _ (.seq _ (.seq _ (.seq _ (.seq _ (.seq _ (.seq (a) _)))))))=>a|_=>.skip
def Xy:Go.Code:=match oA with| .seq _ (.seq _ (.seq _ (.seq _ (.seq _ (.seq _ (.seq _ (.seq _ (.seq (a) _))))))))=>a|_=>.skip
def Zt:Go.Code:=match oA with| .seq _ (.seq _ (.seq _ (.seq _ (.seq _ (.seq _ (.seq _ (.seq _ (.seq _ (.seq (a) _)))))))))=>a|_=>.skip
def Ty:Go.Code:=match oA with| .seq _ (.seq _ (.seq _ (.seq _ (.seq _ (.seq _ (.seq _ (.seq _ (.seq _ (.seq _ (.seq (a) _))))))))))=>a|_=>.skip
def zCb:oA=.seq (rRH0) (.seq (.seq (rRH1) (.cond (.tmp 17) (.seq (rRH2) (.ret)) (.skip))) (.seq (.seq (rRH3) (.block 0 (.loop (.seq (rRH4) (.seq (.cond (.tmp 21) (.skip) (.exit 0)) (.seq (.block 1 (.seq (rRH5) (.seq (rRH6) (.cond (.tmp 28) (.seq (rRH7) (.ret)) (.skip))))) (rRH8))))))) (.seq (rRH9) (.seq (.seq (ziD) (.block 2 (.loop (.seq (rRH11) (.seq (.cond (.tmp 39) (.skip) (.exit 2)) (.seq (.block 3 (za5)) (rRH13))))))) (.seq (Nb) (.seq (.seq (zk9) (.block 4 (.loop (.seq (zk3) (.seq (.cond (.tmp 54) (.skip) (.exit 4)) (.seq (.block 5 (.seq (zbF) (.seq (Pt) (.seq (So) (Qy))))) (zl2))))))) (.seq (Zl) (.seq (Xy) (.seq (Zt) (.seq (Ty) (.ret))))))))))):=rfl
def pP:Array Oper:=match za5 with| .region _ ops _=>ops|_=>#[]
def zHN:za5=.region 12 pP true:=rfl
abbrev zpN:Oper:=⟨some 40,.load 63 (.tmp 7),63,"l6_office.go:278",#[],none⟩
def zJG:pP[0]? =some zpN:=rfl
abbrev zqR:Oper:=⟨some 41,.load 63 (.tmp 7),63,"l6_office.go:278",#[],none⟩
def zBu:pP[1]? =some zqR:=rfl
abbrev zpW:Oper:=⟨some 42,.nilCheck (.tmp 41),0,"l6_office.go:278",#[⟨1,.data⟩],none⟩
def zAf:pP[2]? =some zpW:=rfl
abbrev zq6:Oper:=⟨some 43,.fieldAddr 72 (.tmp 42) 1,0,"l6_office.go:278",#[⟨2,.data⟩],none⟩
def zyE:pP[3]? =some zq6:=rfl
abbrev zwb:Oper:=⟨some 44,.load 65 (.tmp 43),65,"l6_office.go:278",#[⟨3,.data⟩],none⟩
def zHf:pP[4]? =some zwb:=rfl
abbrev zrQ:Oper:=⟨some 45,.makeChan 84 (.const (.int .i64 0)),84,"l6_office.go:278",#[],none⟩
def znM:pP[5]? =some zrQ:=rfl
abbrev zm9:Oper:=⟨some 46,.buildSlice 65 1 #[(0,.tmp 45)],65,"l6_office.go:278",#[⟨5,.data⟩],none⟩
def zgg:pP[6]? =some zm9:=rfl
abbrev zoz:Oper:=⟨some 47,.call ⟨.builtin .append,#[.tmp 44,.tmp 46],#[65,65]⟩,65,"l6_office.go:278",#[⟨4,.data⟩,⟨6,.data⟩],none⟩
def znu:pP[7]? =some zoz:=rfl
abbrev zvF:Oper:=⟨some 48,.nilCheck (.tmp 40),0,"l6_office.go:278",#[⟨0,.data⟩,⟨0,.phase⟩,⟨1,.phase⟩,⟨2,.phase⟩,⟨3,.phase⟩,⟨4,.phase⟩,⟨5,.phase⟩,⟨6,.phase⟩,⟨7,.phase⟩],none⟩
def zz5:pP[8]? =some zvF:=rfl
abbrev zyr:Oper:=⟨some 49,.fieldAddr 72 (.tmp 48) 1,0,"l6_office.go:278",#[⟨8,.data⟩,⟨0,.phase⟩,⟨1,.phase⟩,⟨2,.phase⟩,⟨3,.phase⟩,⟨4,.phase⟩,⟨5,.phase⟩,⟨6,.phase⟩,⟨7,.phase⟩],none⟩
def zDY:pP[9]? =some zyr:=rfl
abbrev zkD:Oper:=⟨none,.store 65 (.tmp 49) (.tmp 47),0,"l6_office.go:278",#[⟨9,.data⟩,⟨7,.data⟩,⟨7,.chain⟩,⟨0,.phase⟩,⟨1,.phase⟩,⟨2,.phase⟩,⟨3,.phase⟩,⟨4,.phase⟩,⟨5,.phase⟩,⟨6,.phase⟩,⟨7,.phase⟩],none⟩
def zkh:pP[10]? =some zkD:=rfl
def zav:Array Oper:=match zbF with| .region _ ops _=>ops|_=>#[]
def zDn:zbF=.region 17 zav false:=rfl
def zCT:gF zav.size=[0,1,2]:=rfl
abbrev oRH17_0:Oper:=⟨some 55,.makeChan 95 (.const (.int .i64 0)),95,"l6_office.go:282",#[],none⟩
def zBi:zav[0]? =some oRH17_0:=rfl
abbrev zpF:Oper:=⟨some 9,.alloc 95,0,"l6_office.go:282",#[],none⟩
def zFh:zav[1]? =some zpF:=rfl
abbrev zoD:Oper:=⟨none,.store 95 (.tmp 9) (.tmp 55),0,"l6_office.go:282",#[⟨1,.data⟩,⟨0,.data⟩,⟨0,.phase⟩,⟨1,.phase⟩],none⟩
def zB0:zav[2]? =some zoD:=rfl
def oL:Array Oper:=match Pt with| .region _ ops _=>ops|_=>#[]
def zzf:Pt=.region 18 oL true:=rfl
abbrev zqO:Oper:=⟨some 56,.load 63 (.tmp 7),63,"l6_office.go:283",#[],none⟩
def zyJ:oL[0]? =some zqO:=rfl
abbrev zrj:Oper:=⟨some 57,.load 63 (.tmp 7),63,"l6_office.go:283",#[],none⟩
def zB6:oL[1]? =some zrj:=rfl
abbrev zsr:Oper:=⟨some 58,.nilCheck (.tmp 57),0,"l6_office.go:283",#[⟨1,.data⟩],none⟩
def zzy:oL[2]? =some zsr:=rfl
abbrev zx8:Oper:=⟨some 59,.fieldAddr 72 (.tmp 58) 4,0,"l6_office.go:283",#[⟨2,.data⟩],none⟩
def zEu:oL[3]? =some zx8:=rfl
abbrev zp6:Oper:=⟨some 60,.load 68 (.tmp 59),68,"l6_office.go:283",#[⟨3,.data⟩],none⟩
def zzw:oL[4]? =some zp6:=rfl
abbrev zwv:Oper:=⟨some 61,.load 95 (.tmp 9),95,"l6_office.go:283",#[],none⟩
def zGG:oL[5]? =some zwv:=rfl
abbrev zjr:Oper:=⟨some 62,.buildSlice 68 1 #[(0,.tmp 61)],68,"l6_office.go:283",#[⟨5,.data⟩],none⟩
def zde:oL[6]? =some zjr:=rfl
abbrev zuk:Oper:=⟨some 63,.call ⟨.builtin .append,#[.tmp 60,.tmp 62],#[68,68]⟩,68,"l6_office.go:283",#[⟨4,.data⟩,⟨6,.data⟩],none⟩
def zeO:oL[7]? =some zuk:=rfl
abbrev zyi:Oper:=⟨some 64,.nilCheck (.tmp 56),0,"l6_office.go:283",#[⟨0,.data⟩,⟨0,.phase⟩,⟨1,.phase⟩,⟨2,.phase⟩,⟨3,.phase⟩,⟨4,.phase⟩,⟨5,.phase⟩,⟨6,.phase⟩,⟨7,.phase⟩],none⟩
def zzO:oL[8]? =some zyi:=rfl
abbrev ztE:Oper:=⟨some 65,.fieldAddr 72 (.tmp 64) 4,0,"l6_office.go:283",#[⟨8,.data⟩,⟨0,.phase⟩,⟨1,.phase⟩,⟨2,.phase⟩,⟨3,.phase⟩,⟨4,.phase⟩,⟨5,.phase⟩,⟨6,.phase⟩,⟨7,.phase⟩],none⟩
def zAE:oL[9]? =some ztE:=rfl
abbrev zj8:Oper:=⟨none,.store 68 (.tmp 65) (.tmp 63),0,"l6_office.go:283",#[⟨9,.data⟩,⟨7,.data⟩,⟨7,.chain⟩,⟨0,.phase⟩,⟨1,.phase⟩,⟨2,.phase⟩,⟨3,.phase⟩,⟨4,.phase⟩,⟨5,.phase⟩,⟨6,.phase⟩,⟨7,.phase⟩],none⟩
def zdj:oL[10]? =some zj8:=rfl
def zjD:Array Oper:=match So with| .region _ ops _=>ops|_=>#[]
def zHq:So=.region 19 zjD false:=rfl
def zzo:gF zjD.size=[0]:=rfl
abbrev oRH19_0:Oper:=⟨some 66,.call ⟨.value (.func 53),#[.tmp 8,.const (.int .i64 1)],#[94,3]⟩,0,"l6_office.go:284",#[],none⟩
def zAA:zjD[0]? =some oRH19_0:=rfl
def O8:Array Oper:=match Qy with| .region _ ops _=>ops|_=>#[]
def zDP:Qy=.region 20 O8 false:=rfl
def zFE:gF O8.size=[0,1]:=rfl
abbrev oRH20_0:Oper:=⟨some 67,.makeFunc (zuV 54) #[] #[.tmp 8,.tmp 9],1,"l6_office.go:285",#[],none⟩
def zBs:O8[0]? =some oRH20_0:=rfl
abbrev oRH20_1:Oper:=⟨none,.go ⟨.value (.tmp 67),#[],#[]⟩,0,"l6_office.go:285",#[⟨0,.data⟩],none⟩
def zEP:O8[1]? =some oRH20_1:=rfl
def zlT:Array Oper:=match Zl with| .region _ ops _=>ops|_=>#[]
def zA1:Zl=.region 22 zlT false:=rfl
def zD5:gF zlT.size=[0]:=rfl
abbrev oRH22_0:Oper:=⟨some 69,.call ⟨.value (.func 53),#[.tmp 8,.const (.int .i64 1)],#[94,3]⟩,0,"l6_office.go:290",#[],none⟩
def zD9:zlT[0]? =some oRH22_0:=rfl
def zdM:Array Oper:=match Xy with| .region _ ops _=>ops|_=>#[]
def zHu:Xy=.region 23 zdM false:=rfl
def zAL:gF zdM.size=[0,1]:=rfl
abbrev oRH23_0:Oper:=⟨some 70,.makeFunc (zuV 57) #[] #[.tmp 8,.tmp 7,.tmp 3],1,"l6_office.go:291",#[],none⟩
def zFZ:zdM[0]? =some oRH23_0:=rfl
abbrev oRH23_1:Oper:=⟨none,.go ⟨.value (.tmp 70),#[],#[]⟩,0,"l6_office.go:291",#[⟨0,.data⟩],none⟩
def zIn:zdM[1]? =some oRH23_1:=rfl
def zcA:Array Oper:=match Zt with| .region _ ops _=>ops|_=>#[]
def zEi:Zt=.region 24 zcA false:=rfl
abbrev oRH24_0:Oper:=⟨some 71,.call ⟨.value (.func 59),#[.tmp 8],#[94]⟩,0,"l6_office.go:295",#[],none⟩
def tX:wC aK 42:=⟨_,zdX,.inr (.inl ⟨_,rfl⟩)⟩
def info_ch:(aK.info? 84).map (λi=>(i.zero,i.size,i.bytes))=some (some (.chan none),1,8):=aQ
def info_cq:(aK.info? 95).map (λi=>(i.zero,i.size,i.bytes))=some (some (.chan none),1,8):=aQ
theorem zIS:∃ie,aK.info? 3=some ie:=by
 obtain⟨i,hi,_⟩:=xK.1 Xq;exact⟨i,hi⟩
theorem zrt (xs:List Nat)(g:Nat):I2 (xs++[g])=I2 xs++[.chan (some g)]:=by simp[I2]
structure WH where
 lo:Nat
 hb:Nat
 gh:Nat
 gq:Nat
 q:Nat
 v0:fJ
 w0:aE
 v:fJ
 d:nM
def WH.P1 (c:WH)(w:aE):Prop:=bE w c.lo c.hb c.v c.d/\bM c.hb c.v0 c.w0 c.v w/\c.lo<=w.heap.size
variable {c:WH}{w:aE}
def WH.P1.tp (h:c.P1 w)(T:jW)(n:Nat):c.P1 (Tt.tp w T n):=⟨h.1.tp T n,h.2.1.tp T n,h.2.2⟩
def fJ.maps (v v':fJ):Prop:=v'.pC=v.pC/\v'.pO=v.pO/\v'.pM=v.pM
def zt0:I5 pP=true:=aQ
def zE2:Nt pP [5,6,7,10]=true:=aQ
def zAY:pP.toList.map (·.dst)=[some 40,some 41,some 42,some 43,some 44,some 45,some 46,some 47,some 48,some 49,none]:=rfl
def zG2:pP.toList=[zpN,zqR,zpW,zq6,zwb,zrQ,zm9,zoz,zvF,zyr,zkD]:=rfl
def Gg (hb gh gq q:Nat)(sA:aF)(i:Nat):Value:=([.pointer (some ⟨hb,0,none⟩),.pointer (some ⟨hb,0,none⟩),.pointer (some ⟨hb,0,none⟩),.pointer (some ⟨hb,3,none⟩),sA,aA,aA,aA,.pointer (some ⟨hb,0,none⟩),.pointer (some ⟨hb,3,none⟩),aA]:List aF).getD i aA
variable {V:Nat->aF}{Tf:Array aF}{s:Nat}
theorem bsRL (hT:xI Tf V)(e:V 45=.chan (some s)):(aS (bH Tf []).eval zm9).run aK w=.ok (.value (.slice (some ⟨w.heap.size,0,none⟩) 1 1)) (w.alloc (.cells #[.chan (some s)] 84)):=by
 unfold aS;go_simp
variable {sA:aF}{T:jW}
theorem stRL {hb q1 n q2:Nat}(hT:xI Tf V)(e1:V 49=.pointer (some ⟨hb,3,none⟩))(e2:V 47=.slice (some ⟨q1,0,none⟩) n q2)(hh:w.cell? ⟨hb,3,none⟩=some sA)(hf:w.frozen? ⟨hb,3,none⟩=false):(aS (bH Tf []).eval zkD).run aK (Tt.tp w T 0)=.ok .skip (Tt.tp (w.setCell ⟨hb,3,none⟩ (.slice (some ⟨q1,0,none⟩) n q2)) T 0):=by
 have zfO:(Tt.tp w T 0).cell? ⟨hb,3,none⟩=some sA:=hh;have Az:(Tt.tp w T 0).frozen? ⟨hb,3,none⟩=false:=hf;clear hh hf;unfold aS;go_simp
 try rfl
def WH.RdRL (c:WH)(w:aE):Prop:=w.cell? ⟨c.hb,3,none⟩=some c.v.sL/\w.heap[c.gh]? =some (.cells #[.pointer (some ⟨c.hb,0,none⟩)] 63)
def WH.RL2 (c:WH)(g:Nat)(w:aE):Prop:=∃v2,bE w c.lo c.hb v2 {c.d with ln:=c.d.ln++[g]}/\bM c.hb c.v0 c.w0 v2 w/\c.v.maps v2
variable {g:Nat}
theorem WH.RL2.tp (h:c.RL2 g w)(T:jW)(n:Nat):c.RL2 g (Tt.tp w T n):=by
 obtain⟨v1,a,d,e⟩:=h;exact⟨v1,a.tp T n,d.tp T n,e⟩
def WH.StRL (c:WH)(vs:List aF)(w':aE):Prop:=match vs with
 |[]=>c.P1 w'/\∀x∈c.d.ln,x<w'.heap.size
 |[a]=>∃g,a=.chan (some g)/\(∀x∈c.d.ln,x<g)/\g<w'.heap.size/\c.P1 w'
 |[a,b]=>∃g q,b=.slice (some ⟨q,0,none⟩) 1 1/\w'.heap[q]? =some (.cells #[.chan (some g)] 84)/\(∀x∈c.d.ln,x<g)/\g<w'.heap.size/\c.P1 w'
 |[a,b,x]=>∃g q1 q2,x=.slice (some ⟨q1,0,none⟩) (c.d.ln.length+1) q2/\w'.frozen? ⟨c.hb,3,none⟩=false/\(∀x∈c.d.ln,x<g)/\g<w'.heap.size/\c.RL2 g (w'.setCell ⟨c.hb,3,none⟩ x)
 |_=>∃g,(∀x∈c.d.ln,x<g)/\g<w'.heap.size/\c.RL2 g w'
section
variable {Post:aF->aE->Prop}{Shun:Loc->Prop}{W0:aE}{St:Nat->Prop}{R0:Pr}{base:List dK}
def SRL (Post:aF->aE->Prop)(Shun:Loc->Prop)(W0:aE)(St:Nat->Prop)(R0:Pr)(base:List dK)(c:WH)(K0:Pr)(vs:List aF)(C':Cx Unit)(l':Unit)(w':aE):Prop:=∃K',K0.le K'/\C'=Fb aK Cf gE Post Shun W0 St K' R0 base/\(vs.length<4->c.RdRL w')/\c.StRL vs w'
variable {c:WH}
theorem SRL.tp {K0:Pr}(vs:List aF)(C':Cx Unit)(l':Unit)(w':aE)(T:jW)(n:Nat)(h:SRL Post Shun W0 St R0 base c K0 vs C' l' w'):SRL Post Shun W0 St R0 base c K0 vs C' l' (Tt.tp w' T n):=by
 obtain⟨K',h1,h2,h3,h4⟩:=h;refine⟨K',h1,h2,h3,?_⟩;rcases vs with _|⟨a,_|⟨b,_|⟨x,_|⟨y,vs⟩⟩⟩⟩
 .exact⟨h4.1.tp T n,h4.2⟩
 .obtain⟨g,a,b,d,e⟩:=h4
  exact⟨g,a,b,d,e.tp T n⟩
 .obtain⟨g,q,a,b,c,d,e⟩:=h4
  exact⟨g,q,a,b,c,d,e.tp T n⟩
 .obtain⟨g,q1,q2,a,b,c,d,e⟩:=h4
  exact⟨g,q1,q2,a,b,c,d,WH.RL2.tp (w:=w'.setCell _ _) e T n⟩
 .obtain⟨g,a,b,d⟩:=h4
  exact⟨g,a,b,d.tp T n⟩
theorem cw_RL {K:Pr}(yU:c.d.ln.length<=1000)(zbU:some c.gh∉parts c.v c.hb){t0:Array aF}{w:aE}{kk:List eE}(hz:t0.size=73)(Es:t0.getD 7 aA=.pointer (some ⟨c.gh,0,none⟩))
 (hk:∀vs C' l' w',vs.length=4->SRL Post Shun W0 St R0 base c K vs C' l' w'->BO C' l' ⟨42,dE pP (VV [5,6,7,10] (Gg c.hb c.gh c.gq c.q c.v.sL) vs) t0,.inRegion pP []::kk,false⟩ w') (h0:SRL Post Shun W0 St R0 base c K [] (Fb aK Cf gE Post Shun W0 St K R0 base) () w):BO (Fb aK Cf gE Post Shun W0 St K R0 base) () ⟨42,t0,.code za5::kk,false⟩ w:=by
 rw[zHN];have KO:=Uv zt0;refine BO.drawn (p:=aK) (gs:=Cf) (fs:=gE) vK.mixed [5,6,7,10] (Gg c.hb c.gh c.gq c.q c.v.sL) (SRL Post Shun W0 St R0 base c K) (λvs C l w h=>by
  obtain⟨K',_,rfl,_⟩:=h;exact⟨dC,rfl,rfl,rfl,mX,λ_ _ _ _ _=>lZ⟩) zt0 zE2 Mk (λvs K l w T e h=>SRL.tp vs K l w T e h) (λi o ho hi=>?_) (λvs ci o C' l' w' hc ho hS t rest lV fS=>?_) hk h0
 .have hl:pP.toList[i]? =some o:=by rw[Aw];exact ho
  rw[zG2] at hl;have aN:i<11:=by have:=(kD.1 hl).1;simpa using this
  have tn:∀(vs:List aF) {j:Nat} {oj:aZ} {s:Tmp} {v:aF},pP[j]? =some oj->oj.dst=some s->s<t0.size->VV [5,6,7,10] (Gg c.hb c.gh c.gq c.q c.v.sL) vs j=v->(dE pP (VV [5,6,7,10] (Gg c.hb c.gh c.gq c.q c.v.sL) vs) t0).getD s aA=v:=λvs _ _ _ _ a b c d=>qL KO a b c d;have tq:∀(vs:List aF) {s:Tmp},Hg pP s=false->(dE pP (VV [5,6,7,10] (Gg c.hb c.gh c.gq c.q c.v.sL) vs) t0).getD s aA=t0.getD s undef:=λvs _ a=>zgC KO a;have O6:∀{vs:List aF} {C' l' w'},(SRL Post Shun W0 St R0 base c K) vs C' l' w'->vs.length<4->c.RdRL w':=λh hv=>by
   obtain⟨_,_,_,h,_⟩:=h;exact h hv
  rcases i with _|_|_|_|_|_|_|_|_|_|_|i
  .obtain rfl:=cE hl
   exact⟨aQ,λvs K' l' w' hv hS=>⟨eD rfl,rd2 (.pointer (some ⟨c.hb,0,none⟩)) ((tq vs aQ).trans Es) (aJ (O6 hS hv).2 0)⟩⟩
  .obtain rfl:=cE hl
   exact⟨aQ,λvs K' l' w' hv hS=>⟨eD rfl,rd2 (.pointer (some ⟨c.hb,0,none⟩)) ((tq vs aQ).trans Es) (aJ (O6 hS hv).2 0)⟩⟩
  .obtain rfl:=cE hl
   exact⟨aQ,λvs K' l' w' hv hS=>⟨eD rfl,uG (.pointer (some ⟨c.hb,0,none⟩)) (tn vs zBu rfl kP rfl)⟩⟩
  .obtain rfl:=cE hl
   exact⟨aQ,λvs K' l' w' hv hS=>⟨eD rfl,uG (.pointer (some ⟨c.hb,3,none⟩)) (tn vs zAf rfl kP rfl)⟩⟩
  .obtain rfl:=cE hl
   exact⟨aQ,λvs K' l' w' hv hS=>⟨eD rfl,rd2 (c.v.sL) (tn vs zyE rfl kP rfl) (O6 hS hv).1⟩⟩
  .exact absurd aH hi
  .exact absurd aH hi
  .exact absurd aH hi
  .obtain rfl:=cE hl
   exact⟨aQ,λvs K' l' w' hv hS=>⟨eD rfl,uG (.pointer (some ⟨c.hb,0,none⟩)) (tn vs zJG rfl kP rfl)⟩⟩
  .obtain rfl:=cE hl
   exact⟨aQ,λvs K' l' w' hv hS=>⟨eD rfl,uG (.pointer (some ⟨c.hb,3,none⟩)) (tn vs zz5 rfl kP rfl)⟩⟩
  .exact absurd aH hi
  .omega
 .rcases vs with _|⟨a,_|⟨b,_|⟨c',_|⟨d',vs⟩⟩⟩⟩
  .obtain rfl:5=ci:=by simpa using hc
   rw[znM] at ho;obtain rfl:=cE ho;obtain⟨K',hK,rfl,hR,⟨s1,s2⟩⟩:=hS;obtain⟨ie,jY⟩:=zIS;refine BO.makeK dC znM (eD rfl) rfl Tryz.underlying84 jY (λ_ _=>lZ) (I':=λ_=>IA W0 St Shun R0) (λR τ W hi ht aN=>?_) (λg=>?_)
   .have hi:IA W0 St Shun R0 R τ W:=hi
    have sz:(W.alloc (.chan 0 #[] false 0 0 false)).heap.size=W.heap.size+1:=rE _ _;have hz:=hi.kp.size;exact⟨⟨hi.kp.os,hi.kp.tape,hi.kp.output,by rw[sz];omega,λb hb=>(Fs aC).trans (hi.kp.block b hb),hi.kp.old⟩,⟨hi.sh.old,hi.sh.rel,λl b hl hb=>hi.sh.new l b hl (by rw[sz] at hb;omega)⟩,hi.still,hi.le⟩
   .exact fS _ _ _ _ ⟨K'.add w'.heap.size g,wD hK (Pr.le_add _ _ _),rfl,λ_=>⟨Ae (hR aO).1 _,dB (hR aO).2 _⟩,w'.heap.size,rfl,s2,by rw[rE];exact xH _,s1.1.alloc _,s1.2.1.trans (bM.below (dN (eF _ _) _)),eG s1.2.2 (by rw[rE];exact Rt _)⟩
  .obtain rfl:6=ci:=by simpa using hc
   rw[zgg] at ho;obtain rfl:=cE ho;obtain⟨K',hK,rfl,hR,g,rfl,s2,s3,z3,z5,s6⟩:=hS;have V1:(dE pP (VV [5,6,7,10] (Gg c.hb c.gh c.gq c.q c.v.sL) [.chan (some g)]) t0).getD 45 aA=.chan (some g):=qL KO znM rfl kP rfl;refine BO.op mX dC zgg (eD rfl) aQ (λs hs=>lZ) (λT=>⟨.slice (some ⟨w'.heap.size,0,none⟩) 1 1,(Tt.tp w' T 0).alloc (.cells #[.chan (some g)] 84),.inl ?_,?_⟩)
   .rw[El (KO.sel 6 _ zgg) lV]
    have hT:xI (dE pP (VV [5,6,7,10] (Gg c.hb c.gh c.gq c.q c.v.sL) [.chan (some g)]) t0) (λs=>(dE pP (VV [5,6,7,10] (Gg c.hb c.gh c.gq c.q c.v.sL) [.chan (some g)]) t0).getD s aA):=λs=>rfl;exact bsRL hT V1
   .have al:bM c.hb c.v w' c.v ((Tt.tp w' T 0).alloc (.cells #[.chan (some g)] 84)):=(bM.refl.tp T 0).trans (bM.below (dN (eF _ _) _))
    exact fS _ _ _ _ ⟨K',hK,rfl,λ_=>⟨Ae (hR aO).1 _,dB (hR aO).2 _⟩,g,_,rfl,lF _ _,s2,ziN s3 (by show _<((Tt.tp w' T 0).alloc _).heap.size;rw[rE];exact xH _),(z3.tp T 0).alloc _,z5.trans al,eG s6 zeq⟩
  .obtain rfl:7=ci:=by simpa using hc
   rw[znu] at ho;obtain rfl:=cE ho;obtain⟨K',hK,rfl,hR,g,gs,rfl,zad,s2,s3,z3,z5,s6⟩:=hS;have zkM:=Gr lV (s:=44) aH (qL KO zHf rfl kP rfl);have zhO:=Gr lV (s:=46) aH (qL KO zgg rfl kP rfl);have zkX:some c.gh∉parts c.v c.hb:=zbU;refine BO.op mX dC znu (eD rfl) aQ (λs hs=>lZ) (λT=>?_);have a1:=z3.tp T 0;obtain⟨q1,q2,w5,fR,cP,nF,fB⟩:=Np (w:=Tt.tp w' T 0) (t:=65) (ty:=65) info_ch Tryz.underlying65 rfl aH a1.L (g:=gs) (cs:=#[.chan (some g)]) (news:=[.chan (some g)]) zad rfl (m:=1) rfl aH Lm aC aH s6;obtain⟨a6,t6⟩:=a1.putL nF (xs:=c.d.ln++[g]) (by rw[zrt];exact cP) aO fB;have xY:=(a1.other (j:=1) (c:=3) (x:=c.v.sL) rfl aH nF (.slice (some ⟨q1,0,none⟩) (c.d.ln.length+1) q2)).2.trans a1.blk;have Fa:w5.heap[c.gh]? =some _:=(nF.block c.gh (fP (hR aO).2) (λe=>zkX (dZ (i:=1) (show(parts c.v c.hb)[1]? =some (some c.gh) by rw[e];rfl)))).trans (hR aO).2;have cG:w'.heap.size<=w5.heap.size:=nF.size;refine⟨_,w5,.inl (Y2 rfl zkM zhO fR),fS _ _ _ _ ⟨K',hK,rfl,λ_=>⟨aJ xY 3,Fa⟩,g,q1,q2,rfl,eL xY 3,s2,lD s3 cG,_,a6,z5.trans ((bM.refl.tp T 0).trans t6),rfl,rfl,rfl⟩⟩
  .obtain rfl:10=ci:=by simpa using hc
   rw[zkh] at ho;obtain rfl:=cE ho;obtain⟨K',hK,rfl,hR,g,q1,q2,rfl,mY,s2,s3,yR⟩:=hS;have V1:(dE pP (VV [5,6,7,10] (Gg c.hb c.gh c.gq c.q c.v.sL) [a,b,.slice (some ⟨q1,0,none⟩) (c.d.ln.length+1) q2]) t0).getD 47 aA=.slice (some ⟨q1,0,none⟩) (c.d.ln.length+1) q2:=qL KO znu rfl kP rfl;have V2:(dE pP (VV [5,6,7,10] (Gg c.hb c.gh c.gq c.q c.v.sL) [a,b,.slice (some ⟨q1,0,none⟩) (c.d.ln.length+1) q2]) t0).getD 49 aA=.pointer (some ⟨c.hb,3,none⟩):=qL KO zDY rfl kP rfl;refine BO.op mX dC zkh (eD rfl) aQ (λs hs=>lZ) (λT=>⟨aA,Tt.tp (w'.setCell ⟨c.hb,3,none⟩ (.slice (some ⟨q1,0,none⟩) (c.d.ln.length+1) q2)) T 0,.inr ⟨?_,rfl⟩,?_⟩)
   .rw[El (KO.sel 10 _ zkh) lV]
    have hT:xI (dE pP (VV [5,6,7,10] (Gg c.hb c.gh c.gq c.q c.v.sL) [a,b,.slice (some ⟨q1,0,none⟩) (c.d.ln.length+1) q2]) t0) (λs=>(dE pP (VV [5,6,7,10] (Gg c.hb c.gh c.gq c.q c.v.sL) [a,b,.slice (some ⟨q1,0,none⟩) (c.d.ln.length+1) q2]) t0).getD s aA):=λs=>rfl;exact stRL hT V2 V1 (hR aO).1 mY
   .exact fS aA _ _ _ ⟨K',hK,rfl,λh=>absurd h aO,g,s2,(by show g<(w'.setCell _ _).heap.size;rw[Jo];exact s3),WH.RL2.tp yR T 0⟩
  .simp at hc
end
def zxv:I5 oL=true:=aQ
def zGj:Nt oL [6,7,10]=true:=aQ
def zoI:oL.toList.map (·.dst)=[some 56,some 57,some 58,some 59,some 60,some 61,some 62,some 63,some 64,some 65,none]:=rfl
def zFJ:oL.toList=[zqO,zrj,zsr,zx8,zp6,zwv,zjr,zuk,zyi,ztE,zj8]:=rfl
def Hp (hb gh gq q:Nat)(sA:aF)(i:Nat):Value:=([.pointer (some ⟨hb,0,none⟩),.pointer (some ⟨hb,0,none⟩),.pointer (some ⟨hb,0,none⟩),.pointer (some ⟨hb,6,none⟩),sA,.chan (some q),aA,aA,.pointer (some ⟨hb,0,none⟩),.pointer (some ⟨hb,6,none⟩),aA]:List aF).getD i aA
theorem bsRQ (hT:xI Tf V)(e:V 61=.chan (some s)):(aS (bH Tf []).eval zjr).run aK w=.ok (.value (.slice (some ⟨w.heap.size,0,none⟩) 1 1)) (w.alloc (.cells #[.chan (some s)] 95)):=by
 unfold aS;go_simp
theorem stRQ {hb q1 n q2:Nat}(hT:xI Tf V)(e1:V 65=.pointer (some ⟨hb,6,none⟩))(e2:V 63=.slice (some ⟨q1,0,none⟩) n q2)(hh:w.cell? ⟨hb,6,none⟩=some sA)(hf:w.frozen? ⟨hb,6,none⟩=false):(aS (bH Tf []).eval zj8).run aK (Tt.tp w T 0)=.ok .skip (Tt.tp (w.setCell ⟨hb,6,none⟩ (.slice (some ⟨q1,0,none⟩) n q2)) T 0):=by
 have zfO:(Tt.tp w T 0).cell? ⟨hb,6,none⟩=some sA:=hh;have Az:(Tt.tp w T 0).frozen? ⟨hb,6,none⟩=false:=hf;clear hh hf;unfold aS;go_simp
 try rfl
def WH.RdRQ (c:WH)(w:aE):Prop:=w.cell? ⟨c.hb,6,none⟩=some c.v.sQ/\w.heap[c.gh]? =some (.cells #[.pointer (some ⟨c.hb,0,none⟩)] 63)/\w.heap[c.gq]? =some (.cells #[.chan (some c.q)] 95)
def WH.RQ2 (c:WH)(g:Nat)(w:aE):Prop:=∃v2,bE w c.lo c.hb v2 {c.d with qn:=c.d.qn++[g]}/\bM c.hb c.v0 c.w0 v2 w/\c.v.maps v2
theorem WH.RQ2.tp (h:c.RQ2 g w)(T:jW)(n:Nat):c.RQ2 g (Tt.tp w T n):=by
 obtain⟨v1,a,d,e⟩:=h;exact⟨v1,a.tp T n,d.tp T n,e⟩
def WH.StRQ (c:WH)(vs:List aF)(w':aE):Prop:=match vs with
 |[]=>c.P1 w'
 |[b]=>(∃q,b=.slice (some ⟨q,0,none⟩) 1 1/\w'.heap[q]? =some (.cells #[.chan (some c.q)] 95))/\c.P1 w'
 |[b,x]=>(∃q1 q2,x=.slice (some ⟨q1,0,none⟩) (c.d.qn.length+1) q2)/\w'.frozen? ⟨c.hb,6,none⟩=false/\c.RQ2 c.q (w'.setCell ⟨c.hb,6,none⟩ x)
 |_=>c.RQ2 c.q w'
section
def SRQ {L:Type}(c:WH)(C:Cx L)(l:L)(vs:List aF)(C':Cx L)(l':L)(w':aE):Prop:=C'=C/\l'=l/\(vs.length<3->c.RdRQ w')/\c.StRQ vs w'
variable {L:Type}{c:WH}
theorem SRQ.tp {C:Cx L}{l:L}(vs:List aF)(C':Cx L)(l':L)(w':aE)(T:jW)(n:Nat)(h:SRQ c C l vs C' l' w'):SRQ c C l vs C' l' (Tt.tp w' T n):=by
 obtain⟨h1,h2,h3,h4⟩:=h;refine⟨h1,h2,h3,?_⟩;rcases vs with _|⟨b,_|⟨x,_|⟨y,vs⟩⟩⟩
 .exact h4.tp T n
 .exact⟨h4.1,h4.2.tp T n⟩
 .exact⟨h4.1,h4.2.1,WH.RQ2.tp (w:=w'.setCell _ _) h4.2.2 T n⟩
 .exact h4.tp T n
theorem cw_RQ {C:Cx L}{l:L}(hI:fG C)(hp:C.p=aK)(hg:C.gs=Cf)(hf:C.fs=gE)(hF:vN C.P C.fs)(hn:∀(i:Nat) (o:aZ) (s:Tmp),oL[i]? =some o->o.dst=some s->s∉C.S)(yU:c.d.qn.length<=1000)(zbU:some c.gh∉parts c.v c.hb)(zca:some c.gq∉parts c.v c.hb){t0:Array aF}{w:aE}{kk:List eE}(hz:t0.size=73)(Es:t0.getD 7 aA=.pointer (some ⟨c.gh,0,none⟩))(zkb:t0.getD 9 aA=.pointer (some ⟨c.gq,0,none⟩))
 (hk:∀vs C' l' w',vs.length=3->SRQ c C l vs C' l' w'->BO C' l' ⟨42,dE oL (VV [6,7,10] (Hp c.hb c.gh c.gq c.q c.v.sQ) vs) t0,.inRegion oL []::kk,false⟩ w') (h0:SRQ c C l [] C l w):BO C l ⟨42,t0,.code Pt::kk,false⟩ w:=by
 rw[zzf];have KO:=Uv zxv;refine BO.drawn (p:=aK) (gs:=Cf) (fs:=gE) vK.mixed [6,7,10] (Hp c.hb c.gh c.gq c.q c.v.sQ) (SRQ c C l) (λvs C l w h=>by
  obtain⟨rfl,rfl,_⟩:=h;exact⟨hI,hp,hg,hf,hF,hn⟩) zxv zGj Mk (λvs K l w T e h=>SRQ.tp vs K l w T e h) (λi o ho hi=>?_) (λvs ci o C' l' w' hc ho hS t rest lV fS=>?_) hk h0
 .have hl:oL.toList[i]? =some o:=by rw[Aw];exact ho
  rw[zFJ] at hl;have aN:i<11:=by have:=(kD.1 hl).1;simpa using this
  have tn:∀(vs:List aF) {j:Nat} {oj:aZ} {s:Tmp} {v:aF},oL[j]? =some oj->oj.dst=some s->s<t0.size->VV [6,7,10] (Hp c.hb c.gh c.gq c.q c.v.sQ) vs j=v->(dE oL (VV [6,7,10] (Hp c.hb c.gh c.gq c.q c.v.sQ) vs) t0).getD s aA=v:=λvs _ _ _ _ a b c d=>qL KO a b c d;have tq:∀(vs:List aF) {s:Tmp},Hg oL s=false->(dE oL (VV [6,7,10] (Hp c.hb c.gh c.gq c.q c.v.sQ) vs) t0).getD s aA=t0.getD s undef:=λvs _ a=>zgC KO a;have O6:∀{vs:List aF} {C' l' w'},(SRQ c C l) vs C' l' w'->vs.length<3->c.RdRQ w':=λh hv=>by
   obtain⟨_,_,h,_⟩:=h;exact h hv
  rcases i with _|_|_|_|_|_|_|_|_|_|_|i
  .obtain rfl:=cE hl
   exact⟨aQ,λvs K' l' w' hv hS=>⟨eD rfl,rd2 (.pointer (some ⟨c.hb,0,none⟩)) ((tq vs aQ).trans Es) (aJ (O6 hS hv).2.1 0)⟩⟩
  .obtain rfl:=cE hl
   exact⟨aQ,λvs K' l' w' hv hS=>⟨eD rfl,rd2 (.pointer (some ⟨c.hb,0,none⟩)) ((tq vs aQ).trans Es) (aJ (O6 hS hv).2.1 0)⟩⟩
  .obtain rfl:=cE hl
   exact⟨aQ,λvs K' l' w' hv hS=>⟨eD rfl,uG (.pointer (some ⟨c.hb,0,none⟩)) (tn vs zB6 rfl kP rfl)⟩⟩
  .obtain rfl:=cE hl
   exact⟨aQ,λvs K' l' w' hv hS=>⟨eD rfl,uG (.pointer (some ⟨c.hb,6,none⟩)) (tn vs zzy rfl kP rfl)⟩⟩
  .obtain rfl:=cE hl
   exact⟨aQ,λvs K' l' w' hv hS=>⟨eD rfl,rd2 (c.v.sQ) (tn vs zEu rfl kP rfl) (O6 hS hv).1⟩⟩
  .obtain rfl:=cE hl
   exact⟨aQ,λvs K' l' w' hv hS=>⟨eD rfl,rd2 (.chan (some c.q)) ((tq vs aQ).trans zkb) (aJ (O6 hS hv).2.2 0)⟩⟩
  .exact absurd aH hi
  .exact absurd aH hi
  .obtain rfl:=cE hl
   exact⟨aQ,λvs K' l' w' hv hS=>⟨eD rfl,uG (.pointer (some ⟨c.hb,0,none⟩)) (tn vs zyJ rfl kP rfl)⟩⟩
  .obtain rfl:=cE hl
   exact⟨aQ,λvs K' l' w' hv hS=>⟨eD rfl,uG (.pointer (some ⟨c.hb,6,none⟩)) (tn vs zzO rfl kP rfl)⟩⟩
  .exact absurd aH hi
  .omega
 .rcases vs with _|⟨a,_|⟨b,_|⟨c',vs⟩⟩⟩
  .obtain rfl:6=ci:=by simpa using hc
   rw[zde] at ho;obtain rfl:=cE ho;obtain⟨rfl,rfl,hR,z3,z5,s6⟩:=hS;have V1:(dE oL (VV [6,7,10] (Hp c.hb c.gh c.gq c.q c.v.sQ) []) t0).getD 61 aA=.chan (some c.q):=qL KO zGG rfl kP rfl;refine BO.op hF hI zde (eD rfl) ziW (λs hs=>hn 6 _ s zde hs) (λT=>⟨.slice (some ⟨w'.heap.size,0,none⟩) 1 1,(Tt.tp w' T 0).alloc (.cells #[.chan (some c.q)] 95),.inl ?_,?_⟩)
   .rw[hp]
    rw[El (KO.sel 6 _ zde) lV];have hT:xI (dE oL (VV [6,7,10] (Hp c.hb c.gh c.gq c.q c.v.sQ) []) t0) (λs=>(dE oL (VV [6,7,10] (Hp c.hb c.gh c.gq c.q c.v.sQ) []) t0).getD s aA):=λs=>rfl;exact bsRQ hT V1
   .have al:bM c.hb c.v w' c.v ((Tt.tp w' T 0).alloc (.cells #[.chan (some c.q)] 95)):=(bM.refl.tp T 0).trans (bM.below (dN (eF _ _) _))
    exact fS _ _ _ _ ⟨rfl,rfl,λ_=>⟨Ae (hR aO).1 _,dB (hR aO).2.1 _,dB (hR aO).2.2 _⟩,⟨_,rfl,lF _ _⟩,(z3.tp T 0).alloc _,z5.trans al,eG s6 zeq⟩
  .obtain rfl:7=ci:=by simpa using hc
   rw[zeO] at ho;obtain rfl:=cE ho;obtain⟨rfl,rfl,hR,⟨gs,rfl,zad⟩,z3,z5,s6⟩:=hS;have zkM:=Gr lV (s:=60) aH (qL KO zzw rfl kP rfl);have zhO:=Gr lV (s:=62) aH (qL KO zde rfl kP rfl);have zkX:some c.gh∉parts c.v c.hb:=zbU;have zD4:some c.gq∉parts c.v c.hb:=zca;refine BO.op hF hI zeO (eD rfl) ziW (λs hs=>hn 7 _ s zeO hs) (λT=>?_);have a1:=z3.tp T 0;obtain⟨q1,q2,w5,fR,cP,nF,fB⟩:=Np (w:=Tt.tp w' T 0) (t:=68) (ty:=68) info_cq Tryz.underlying68 rfl aH a1.Q (g:=gs) (cs:=#[.chan (some c.q)]) (news:=[.chan (some c.q)]) zad rfl (m:=1) rfl aH Lm aC aH s6;obtain⟨a6,t6⟩:=a1.putQ nF (xs:=c.d.qn++[c.q]) (by rw[zrt];exact cP) aO fB;have xY:=(a1.other (j:=4) (c:=6) (x:=c.v.sQ) rfl aH nF (.slice (some ⟨q1,0,none⟩) (c.d.qn.length+1) q2)).2.trans a1.blk;have Fa:w5.heap[c.gh]? =some _:=(nF.block c.gh (fP (hR aO).2.1) (λe=>zkX (dZ (i:=4) (show(parts c.v c.hb)[4]? =some (some c.gh) by rw[e];rfl)))).trans (hR aO).2.1;have Bd:w5.heap[c.gq]? =some _:=(nF.block c.gq (fP (hR aO).2.2) (λe=>zD4 (dZ (i:=4) (show(parts c.v c.hb)[4]? =some (some c.gq) by rw[e];rfl)))).trans (hR aO).2.2;refine⟨_,w5,.inl (by rw[hp];exact Y2 rfl zkM zhO fR),fS _ _ _ _ ⟨rfl,rfl,λ_=>⟨aJ xY 6,Fa,Bd⟩,⟨q1,q2,rfl⟩,eL xY 6,_,a6,z5.trans ((bM.refl.tp T 0).trans t6),rfl,rfl,rfl⟩⟩
  .obtain rfl:10=ci:=by simpa using hc
   rw[zdj] at ho;obtain rfl:=cE ho;obtain⟨rfl,rfl,hR,⟨q1,q2,rfl⟩,mY,yR⟩:=hS;have V1:(dE oL (VV [6,7,10] (Hp c.hb c.gh c.gq c.q c.v.sQ) [a,.slice (some ⟨q1,0,none⟩) (c.d.qn.length+1) q2]) t0).getD 63 aA=.slice (some ⟨q1,0,none⟩) (c.d.qn.length+1) q2:=qL KO zeO rfl kP rfl;have V2:(dE oL (VV [6,7,10] (Hp c.hb c.gh c.gq c.q c.v.sQ) [a,.slice (some ⟨q1,0,none⟩) (c.d.qn.length+1) q2]) t0).getD 65 aA=.pointer (some ⟨c.hb,6,none⟩):=qL KO zAE rfl kP rfl;refine BO.op hF hI zdj (eD rfl) ziW (λs hs=>hn 10 _ s zdj hs) (λT=>⟨aA,Tt.tp (w'.setCell ⟨c.hb,6,none⟩ (.slice (some ⟨q1,0,none⟩) (c.d.qn.length+1) q2)) T 0,.inr ⟨?_,rfl⟩,?_⟩)
   .rw[hp]
    rw[El (KO.sel 10 _ zdj) lV];have hT:xI (dE oL (VV [6,7,10] (Hp c.hb c.gh c.gq c.q c.v.sQ) [a,.slice (some ⟨q1,0,none⟩) (c.d.qn.length+1) q2]) t0) (λs=>(dE oL (VV [6,7,10] (Hp c.hb c.gh c.gq c.q c.v.sQ) [a,.slice (some ⟨q1,0,none⟩) (c.d.qn.length+1) q2]) t0).getD s aA):=λs=>rfl;exact stRQ hT V2 V1 (hR aO).1 mY
   .exact fS aA _ _ _ ⟨rfl,rfl,λh=>absurd h aO,WH.RQ2.tp yR T 0⟩
  .simp at hc
end
end Go.Proofs.YtfcjiloojkjaeaaGreatDoor
namespace Go.Proofs.YtfcjiloojkjaeaaGreatDoor
open Go.RowKit
theorem zlf (o:jG)(w:aE):
 fN aK 33 #[.agg #[.int .i64 o.ln,.int .i64 o.op,.int .i64 o.pt]] w λx w'=>x=.returned (.bool (qJ o))/\bV w.heap.size w w':=by
 go_enter Tryz.func33,Tryz.ntmps33
 go_wp2
 all_goals go_ret
 all_goals refine⟨D4 ?_,((eF _ _).alloc (aX _) _)⟩
 all_goals rw[M9]
 all_goals simp[qJ,inB] at*
 all_goals grind
theorem zt7 (e:dD)(ops:Int)(w:aE)(ho:1<=ops/\ops<=4):
 fN aK 52 #[.agg #[.string e.k,.int .i64 e.a,.int .i64 e.b],.int .i64 ops] w λx w'=>x=.returned (.bool (sO ops e))/\bV w.heap.size w w':=by
 obtain⟨yO,zcy⟩:=ho
 go_enter Tryz.func52,Tryz.ntmps52
 go_wp2
 all_goals go_ret
 all_goals refine⟨D4 ?_,((eF _ _).alloc (aX _) _)⟩
 all_goals rw[M9]
 all_goals simp[sO,L8,inB,Hz,Kf,Ii,Hw,zcM] at*
 all_goals grind
end Go.Proofs.YtfcjiloojkjaeaaGreatDoor
namespace Go.Proofs.YtfcjiloojkjaeaaGreatDoor
open Go.RowKit Go.Mt Go.Conc Go.Tt Go.Maps Go.Conc.Lib Go.ConcR.Gen
open Go.ConcR (KK wgBlock WgAt stA smA rd wr)
structure oN (wB:aE)(lo go ge n c:Nat)(A:Option bL)(o:jG)(es:List dD)(w:aE):Prop where
 lo_:lo<=w.heap.size
 tab:Af lo w
 ev:b7 w 0 lo 3 A n c (lN es)
 gol:go<lo
 gel:ge<lo
 bo:w.heap[go]? =some (.cells #[.int .i64 o.ln,.int .i64 o.op,.int .i64 o.pt] 29)
 be:w.heap[ge]? =some (.cells #[.slice A n c] 31)
 old:∀b,b<lo->w.heap[b]? =wB.heap[b]?
section
variable {lo go ge n c:Nat}{A:Option bL}{o:jG}{es:List dD}{wB w w':aE}
def oN.keep (h:oN wB lo go ge n c A o es w)(hs:w.heap.size<=w'.heap.size)(k:∀b,b<lo->w'.heap[b]? =w.heap[b]?):oN wB lo go ge n c A o es w':=
 ⟨eG h.lo_ hs,h.tab.keep k,h.ev.keep hs λb _ q _=>k b q,h.gol,h.gel,(k _ h.gol).trans h.bo,(k _ h.gel).trans h.be,λb hb=>(k b hb).trans (h.old b hb)⟩
def oN.below (h:oN wB lo go ge n c A o es w)(k:bV w.heap.size w w'):oN wB lo go ge n c A o es w':=h.keep k.size λb hb=>k.block b (lD hb h.lo_)
def oN.tp (h:oN wB lo go ge n c A o es w)(T:jW)(e:Nat):oN wB lo go ge n c A o es (Tt.tp w T e):=h.keep (aX _) λ_ _=>rfl
end
structure oG (wB:aE)(lo go ge n c:Nat)(A:Option bL)(o:jG)(es:List dD)(hb gh:Nat)(ln qn:List Nat)(v:fJ)(w:aE):Prop where
 e:oN wB lo go ge n c A o es w
 at_:bE w lo hb v ⟨mP o,ln,qn,[]⟩
 mp:v.pC=[]/\v.pO=[]/\v.pM=[]
 nd:ln.Nodup
 lt:∀x∈ln,x<w.heap.size
 bh:w.heap[gh]? =some (.cells #[.pointer (some ⟨hb,0,none⟩)] 63)
 nh:some gh∉parts v hb
 ghl:lo<=gh
section
variable {lo go ge n c hb gh:Nat}{A:Option bL}{o:jG}{es:List dD}{ln qn zgb zd7:List Nat}{v v':fJ}{wB w w':aE}
theorem oG.turn (h:oG wB lo go ge n c A o es hb gh ln qn v w)(t:bM hb v w v' w')(a:bE w' lo hb v' ⟨mP o,zgb,zd7,[]⟩)(m:v.maps v')(hn:zgb.Nodup)(hl:∀x∈zgb,x<w'.heap.size):oG wB lo go ge n c A o es hb gh zgb zd7 v' w':=by
 obtain⟨b1,b2⟩:=h.at_.turned t h.bh h.nh;refine⟨h.e.keep t.size λb b6=>t.block b (lD b6 h.e.lo_) λhp=>?_,a,⟨m.1.trans h.mp.1,m.2.1.trans h.mp.2.1,m.2.2.trans h.mp.2.2⟩,hn,hl,b1,b2,h.ghl⟩;have:=(h.at_.lt b hp).1;omega
def oG.below (h:oG wB lo go ge n c A o es hb gh ln qn v w)(k:bV w.heap.size w w'):oG wB lo go ge n c A o es hb gh ln qn v w':=
 h.turn (bM.below k) (h.at_.below k) ⟨rfl,rfl,rfl⟩ h.nd λx hx=>lD (h.lt x hx) k.size
def oG.tp (h:oG wB lo go ge n c A o es hb gh ln qn v w)(T:jW)(e:Nat):oG wB lo go ge n c A o es hb gh ln qn v (Tt.tp w T e):=⟨h.e.tp T e,h.at_.tp T e,h.mp,h.nd,h.lt,h.bh,h.nh,h.ghl⟩
theorem oG.mr (h:oG wB lo go ge n c A o es hb gh ln qn v w):gC v ⟨mP o,ln,qn,[]⟩:=by
 obtain⟨h1,h2,h3⟩:=h.mp;refine⟨by rw[h1];exact Qu,by rw[h2];exact Qu,by rw[h3];exact Qu,λi g _=>?_,λc y hy=>?_,λc _ i x hx=>?_,λc y hy=>?_,λc _ i x hx=>?_⟩
 .rw[h1]
  refine⟨λx=>(by cases x),λ⟨j,x,hx,_⟩=>?_⟩;have hx:([]:List bR)[j]? =some x:=hx;simp at hx
 .rw[h2] at hy;cases hy
 .have hx:([]:List bR)[i]? =some x:=hx
  simp at hx
 .rw[h3] at hy;cases hy
 .have hx:([]:List bR)[i]? =some x:=hx
  simp at hx
end
def Zb:Go.Code:=.seq rRH11 (.seq (.cond (.tmp 39) .skip (.exit 2)) (.seq (.block 3 za5) rRH13))
def zab:Go.Code:=.seq rRH4 (.seq (.cond (.tmp 21) .skip (.exit 0)) (.seq (.block 1 (.seq rRH5 (.seq rRH6 (.cond (.tmp 28) (.seq rRH7 .ret) .skip)))) rRH8))
section
variable {Post:aF->aE->Prop}{Shun:Loc->Prop}{W0:aE}{St:Nat->Prop}{R0:Pr}{base:List dK}{wB:aE}{lo go ge n c hb gh:Nat}{A:Option bL}{o:jG}{es:List dD}
abbrev H4 (Post:aF->aE->Prop)(Shun:Loc->Prop)(W0:aE)(St:Nat->Prop)(R0:Pr)(base:List dK)(K:Pr):Cx Unit:=Fb aK Cf gE Post Shun W0 St K R0 base
theorem zHn {kk:List eE}(h6:o.ln<=6)(K0:Pr)(zcZ:∀K w v ln u0 u1 u4 u5 u6 u8 u9 gU gJ gI gH gG gM u16 iK kL kS jR iO iD iE gZ iH iC iJ iF iB jM jO u32 iG hY iN iM iI gY iL iQ iX jD iZ iV iU iR iY iW jB mL mD lC lB kV kJ kO kM kR kE kG j5 u64 kC j9 j6 kF kZ kU kK j7,K0.le K->oG wB lo go ge n c A o es hb gh ln [] v w->(ln.length:Int)=o.ln->BO (H4 Post Shun W0 St R0 base K) () ⟨42,#[u0,u1,.pointer (some ⟨go,0,none⟩),.pointer (some ⟨ge,0,none⟩),u4,u5,u6,.pointer (some ⟨gh,0,none⟩),u8,u9,gU,gJ,gI,gH,gG,gM,u16,iK,kL,kS,jR,iO,iD,iE,gZ,iH,iC,iJ,iF,iB,jM,jO,u32,iG,hY,iN,iM,.int .i64 o.ln,.int .i64 o.ln,iI,gY,iL,iQ,iX,jD,iZ,iV,iU,iR,iY,iW,jB,mL,mD,lC,lB,kV,kJ,kO,kM,kR,kE,kG,j5,u64,kC,j9,j6,kF,kZ,kU,kK,j7],kk,false⟩ w):
 ∀(m k:Nat),((k+m:Nat):Int)=o.ln->∀(K:Pr) (w:aE) (v:fJ) (ln:List Nat) (u0 u1 u4 u5 u6 u8 u9 gU gJ gI gH gG gM u16 iK kL kS jR iO iD iE gZ iH iC iJ iF iB jM jO u32 iG hY iN iM iI gY iL iQ iX jD iZ iV iU iR iY iW jB mL mD lC lB kV kJ kO kM kR kE kG j5 u64 kC j9 j6 kF kZ kU kK j7:aF),K0.le K->oG wB lo go ge n c A o es hb gh ln [] v w->ln.length=k->BO (H4 Post Shun W0 St R0 base K) () ⟨42,#[u0,u1,.pointer (some ⟨go,0,none⟩),.pointer (some ⟨ge,0,none⟩),u4,u5,u6,.pointer (some ⟨gh,0,none⟩),u8,u9,gU,gJ,gI,gH,gG,gM,u16,iK,kL,kS,jR,iO,iD,iE,gZ,iH,iC,iJ,iF,iB,jM,jO,u32,iG,hY,iN,iM,.int .i64 o.ln,.int .i64 k,iI,gY,iL,iQ,iX,jD,iZ,iV,iU,iR,iY,iW,jB,mL,mD,lC,lB,kV,kJ,kO,kM,kR,kE,kG,j5,u64,kC,j9,j6,kF,kZ,kU,kK,j7],.code Zb:: .inLoop Zb:: .inBlock 2::kk,false⟩ w:=by
 intro m
 induction m with
 |zero=>
  intro k hk K w v ln u0 u1 u4 u5 u6 u8 u9 gU gJ gI gH gG gM u16 iK kL kS jR iO iD iE gZ iH iC iJ iF iB jM jO u32 iG hY iN iM iI gY iL iQ iX jD iZ iV iU iR iY iW jB mL mD lC lB kV kJ kO kM kR kE kG j5 u64 kC j9 j6 kF kZ kU kK j7 hK hR hl;have y6:(k:Int)=o.ln:=by simpa using hk
  have Gm:¬(k:Int)<o.ln:=aC;have HR:=aD hR;have HE:=aD y6;clear hR hk y6;unfold Zb;refine BO.seq dC ?_;refine BO.pV mX dC tX (λw1 T1 fA Q' cZ=>?_);have lO:=aD (show oG wB lo go ge n c A o es hb gh ln [] v w1 by rw[fA];exact HR.o.tp T1 0);clear HR;clear fA;go_wp2;refine cZ.o _ _ ?_;clear cZ;refine BO.seq dC ?_;refine BO.cond dC (t:=false) rfl rfl ?_;refine BO.exit dC (k':=kk) rfl ?_;have y6:=HE.o;rw[y6];exact zcZ K _ v ln _ _ _ _ _ _ _ _ _ _ _ _ _ _ _ _ _ _ _ _ _ _ _ _ _ _ _ _ _ _ _ _ _ _ _ _ _ _ _ _ _ _ _ _ _ _ _ _ _ _ _ _ _ _ _ _ _ _ _ _ _ _ _ _ _ _ _ _ hK lO.o aC
 |succ m ih=>
  intro k hk K w v ln u0 u1 u4 u5 u6 u8 u9 gU gJ gI gH gG gM u16 iK kL kS jR iO iD iE gZ iH iC iJ iF iB jM jO u32 iG hY iN iM iI gY iL iQ iX jD iZ iV iU iR iY iW jB mL mD lC lB kV kJ kO kM kR kE kG j5 u64 kC j9 j6 kF kZ kU kK j7 hK hR hl;have Gm:(k:Int)<o.ln:=aC;have HR:=aD hR;have HK:=aD hk;clear hR hk;unfold Zb;refine BO.seq dC ?_;refine BO.pV mX dC tX (λw1 T1 fA Q' cZ=>?_);have lO:=aD (show oG wB lo go ge n c A o es hb gh ln [] v w1 by rw[fA];exact HR.o.tp T1 0);clear HR;clear fA;go_wp2;refine cZ.o _ _ ?_;clear cZ;refine BO.seq dC ?_;refine BO.cond dC (t:=true) rfl rfl ?_;refine BO.skip dC ?_;refine BO.seq dC ?_;refine BO.block dC ?_;refine cw_RL (c:=⟨lo,hb,gh,0,0,v,w1,v,⟨mP o,ln,[],[]⟩⟩) (by show ln.length<=1000;omega) lO.o.nh rfl rfl (λvs C' l' w' tT hS=>?_) ⟨K,wP _,rfl,λ_=>⟨aJ lO.o.at_.blk 3,lO.o.bh⟩,⟨lO.o.at_,bM.refl,lO.o.e.lo_⟩,lO.o.lt⟩;rw[Go.Mt.Al,zAY];simp only[Go.Mt.wL,dU,dV];obtain⟨K',hle,rfl,_,h4⟩:=hS;have s4:∃g,(∀x∈ln,x<g)/\g<w'.heap.size/\WH.RL2 ⟨lo,hb,gh,0,0,v,w1,v,⟨mP o,ln,[],[]⟩⟩ g w':=by
   rcases vs with _|⟨a,_|⟨b,_|⟨x,_|⟨y,vs⟩⟩⟩⟩
   .cases tT
   .cases tT
   .cases tT
   .cases tT
   .exact h4
  obtain⟨g,s2,s3,v2,a2,t2,mp⟩:=s4;have rV:K0.le K':=wD hK hle;have Jv:oG wB lo go ge n c A o es hb gh (ln++[g]) [] v2 w':=lO.o.turn t2 a2 mp (by
   rw[List.nodup_append];refine⟨lO.o.nd,List.nodup_cons.2 ⟨lZ,Qu⟩,λa ha b b6=>?_⟩;obtain rfl:=sZ.1 b6;have:=s2 a ha;omega) (λx hx=>by
   rcases List.mem_append.1 hx with hx|hx
   .exact ziN (s2 x hx) s3
   .obtain rfl:=sZ.1 hx;exact s3)
  have lG:=aD Jv;clear Jv a2 t2 mp s2 h4 tT lO;refine BO.regEnd dC ?_;refine BO.inBlock dC ?_;refine BO.pV mX dC tX (λw2 T2 fZ Q' cZ=>?_);have Hh:=aD (show oG wB lo go ge n c A o es hb gh (ln++[g]) [] v2 w2 by rw[fZ];exact lG.o.tp T2 0);clear lG;clear fZ;go_wp2;refine cZ.o _ _ ?_;clear cZ;refine BO.inLoop dC ?_;exact ih (k+1) (by have:=HK.o;omega) K' _ v2 (ln++[g]) _ _ _ _ _ _ _ _ _ _ _ _ _ _ _ _ _ _ _ _ _ _ _ _ _ _ _ _ _ _ _ _ _ _ _ _ _ _ _ _ _ _ _ _ _ _ _ _ _ _ _ _ _ _ _ _ _ _ _ _ _ _ _ _ _ _ _ _ rV Hh.o (by rw[gN,hl];rfl)
end
section
variable {Post:aF->aE->Prop}{Shun:Loc->Prop}{W0:aE}{St:Nat->Prop}{R0:Pr}{base:List dK}{K:Pr}{wB:aE}{lo go ge n c:Nat}{A:Option bL}{o:jG}{es:List dD}
theorem zE3 {kk:List eE}(hop:1<=o.op/\o.op<=4)(zDE:n<=60)(Ck:es.length=n)
 (Sf:∀(T:Array aF) todo w,T.getD 4 aA=.pointer none->oN wB lo go ge n c A o es w->es.all (sO o.op)=false->BO (H4 Post Shun W0 St R0 base K) () ⟨42,T,todo,true⟩ w)
 (zcZ:∀w jR u0 u1 u5 u6 u7 u8 u9 gU gJ gI gH gG gM u16 iK iO iD iE gZ iH iC iJ iF iB jM jO u32 iG hY iN iM kT kQ iI gY iL iQ iX jD iZ iV iU iR iY iW jB mL mD lC lB kV kJ kO kM kR kE kG j5 u64 kC j9 j6 kF kZ kU kK j7,oN wB lo go ge n c A o es w->es.all (sO o.op)=true->BO (H4 Post Shun W0 St R0 base K) () ⟨42,#[u0,u1,.pointer (some ⟨go,0,none⟩),.pointer (some ⟨ge,0,none⟩),.pointer none,u5,u6,u7,u8,u9,gU,gJ,gI,gH,gG,gM,u16,iK,.slice A n c,.int .i64 n,jR,iO,iD,iE,gZ,iH,iC,iJ,iF,iB,jM,jO,u32,iG,hY,iN,iM,kT,kQ,iI,gY,iL,iQ,iX,jD,iZ,iV,iU,iR,iY,iW,jB,mL,mD,lC,lB,kV,kJ,kO,kM,kR,kE,kG,j5,u64,kC,j9,j6,kF,kZ,kU,kK,j7],kk,false⟩ w):
 ∀(m k:Nat),k+m=n->∀(w:aE) (u0 u1 u5 u6 u7 u8 u9 gU gJ gI gH gG gM u16 iK iO iD iE gZ iH iC iJ iF iB jM jO u32 iG hY iN iM kT kQ iI gY iL iQ iX jD iZ iV iU iR iY iW jB mL mD lC lB kV kJ kO kM kR kE kG j5 u64 kC j9 j6 kF kZ kU kK j7:aF),oN wB lo go ge n c A o es w->(∀j,j<k->∀b,es[j]? =some b->sO o.op b=true)->BO (H4 Post Shun W0 St R0 base K) () ⟨42,#[u0,u1,.pointer (some ⟨go,0,none⟩),.pointer (some ⟨ge,0,none⟩),.pointer none,u5,u6,u7,u8,u9,gU,gJ,gI,gH,gG,gM,u16,iK,.slice A n c,.int .i64 n,.int .i64 k,iO,iD,iE,gZ,iH,iC,iJ,iF,iB,jM,jO,u32,iG,hY,iN,iM,kT,kQ,iI,gY,iL,iQ,iX,jD,iZ,iV,iU,iR,iY,iW,jB,mL,mD,lC,lB,kV,kJ,kO,kM,kR,kE,kG,j5,u64,kC,j9,j6,kF,kZ,kU,kK,j7],.code zab:: .inLoop zab:: .inBlock 0::kk,false⟩ w:=by
 intro m
 induction m with
 |zero=>
  intro k hk w u0 u1 u5 u6 u7 u8 u9 gU gJ gI gH gG gM u16 iK iO iD iE gZ iH iC iJ iF iB jM jO u32 iG hY iN iM kT kQ iI gY iL iQ iX jD iZ iV iU iR iY iW jB mL mD lC lB kV kJ kO kM kR kE kG j5 u64 kC j9 j6 kF kZ kU kK j7 hE tF;have y6:n=k:=aC;subst y6;have Gm:¬(n:Int)<(n:Int):=aC;have HE:=aD hE;have HA:=aD tF;have HN:=aD Ck;clear hE tF Ck hk;unfold zab;refine BO.seq dC ?_;refine BO.pV mX dC tX (λw1 T1 fA Q' cZ=>?_);have cK:=aD (show oN wB lo go ge n c A o es w1 by rw[fA];exact HE.o.tp T1 0);clear HE;clear fA;go_wp2;refine cZ.o _ _ ?_;clear cZ;refine BO.seq dC ?_;refine BO.cond dC (t:=false) rfl rfl ?_;refine BO.exit dC (k':=kk) rfl ?_;exact zcZ _ _ _ _ _ _ _ _ _ _ _ _ _ _ _ _ _ _ _ _ _ _ _ _ _ _ _ _ _ _ _ _ _ _ _ _ _ _ _ _ _ _ _ _ _ _ _ _ _ _ _ _ _ _ _ _ _ _ _ _ _ _ _ _ _ _ _ _ _ cK.o (zBo HA.o (by rw[HN.o];exact aX _))
 |succ m ih=>
  intro k hk w u0 u1 u5 u6 u7 u8 u9 gU gJ gI gH gG gM u16 iK iO iD iE gZ iH iC iJ iF iB jM jO u32 iG hY iN iM kT kQ iI gY iL iQ iX jD iZ iV iU iR iY iW jB mL mD lC lB kV kJ kO kM kR kE kG j5 u64 kC j9 j6 kF kZ kU kK j7 hE tF;have aN:k<n:=aC;have Gm:(k:Int)<(n:Int):=aC;have i0:(0:Int)<=(k:Int):=aC;have HE:=aD hE;have HA:=aD tF;have HN:=aD Ck;have HK:=aD hk;clear hE tF Ck hk;unfold zab;refine BO.seq dC ?_;refine BO.pV mX dC tX (λw1 T1 fA Q' cZ=>?_);have cK:=aD (show oN wB lo go ge n c A o es w1 by rw[fA];exact HE.o.tp T1 0);clear HE;clear fA;go_wp2;refine cZ.o _ _ ?_;clear cZ;refine BO.seq dC ?_;refine BO.cond dC (t:=true) rfl rfl ?_;refine BO.skip dC ?_;refine BO.seq dC ?_;refine BO.block dC ?_;refine BO.seq dC ?_;obtain⟨be,oe,ev,hA,zGu,zf7,ziI,Em,e0,e1,e2⟩:=cK.o.ev.eventsAt aN;subst hA;have Nc:=aD Em;clear Em;refine BO.pV mX dC tX (λw2 T2 fZ Q' cZ=>?_);have nG:=aD (show oN wB lo go ge n c (some ⟨be,oe,none⟩) o es w2 by rw[fZ];exact cK.o.tp T2 0);have zhn:w2.cell? ⟨be,oe+k*3,none⟩=some (.string ev.k):=by rw[fZ];exact e0
  have Ez:w2.cell? ⟨be,oe+k*3+1,none⟩=some (.int .i64 ev.a):=by rw[fZ];exact e1
  have zii:w2.cell? ⟨be,oe+k*3+2,none⟩=some (.int .i64 ev.b):=by rw[fZ];exact e2
  clear e0 e1 e2;clear cK;clear fZ;go_wp2;refine cZ.o _ _ ?_;clear cZ;clear zhn Ez zii;obtain⟨gb,eY⟩:=aU w2.heap.size;obtain⟨w3,iT⟩:=aU (w2.alloc (.cells #[.string ev.k,.int .i64 ev.a,.int .i64 ev.b] 54));have uY:=aD (show oN wB lo go ge n c (some ⟨be,oe,none⟩) o es w3 by rw[iT];exact nG.o.below (dN (eF _ _) _));have vG:=aD (show w3.heap[gb]? =some (.cells #[.string ev.k,.int .i64 ev.a,.int .i64 ev.b] 54) by rw[iT,eY];exact lF _ _);rw[<-eY,<-iT];clear iT eY nG;refine BO.seq dC ?_
  cases hv:sO o.op ev with
  |true=>
   refine BO.pV mX dC tX (λw4 T3 lM Q' cZ=>?_);have zcS:=aD (show oN wB lo go ge n c (some ⟨be,oe,none⟩) o es w4 by rw[lM];exact uY.o.tp T3 0);have g0:w4.cell? ⟨gb,0,none⟩=some (.string ev.k):=by rw[lM];exact aJ vG.o 0
   have g1:w4.cell? ⟨gb,1,none⟩=some (.int .i64 ev.a):=by rw[lM];exact aJ vG.o 1
   have g2:w4.cell? ⟨gb,2,none⟩=some (.int .i64 ev.b):=by rw[lM];exact aJ vG.o 2
   have o1:w4.cell? ⟨go,1,none⟩=some (.int .i64 o.op):=by rw[lM];exact aJ uY.o.bo 1
   have HV:=aD hv;clear uY vG hv;clear lM
   go_wp2_with ((go_at_call 52;refine(zt7 ev o.op _ hop).mono ?_;rintro e w' ⟨rfl,mQ⟩))
   refine cZ.o _ _ ?_;clear cZ;clear g0 g1 g2 o1;have zaM:=aD (zcS.o.below mQ);clear mQ zcS;refine BO.cond dC (t:=false) rfl (by first|rfl|simp[wF,HV.o]) ?_;refine BO.skip dC ?_;refine BO.inBlock dC ?_;refine BO.pV mX dC tX (λw6 T6 pB Q' cZ=>?_);have zlk:=aD (show oN wB lo go ge n c (some ⟨be,oe,none⟩) o es w6 by rw[pB];exact zaM.o.tp T6 0);clear zaM;clear pB;go_wp2;refine cZ.o _ _ ?_;clear cZ;refine BO.inLoop dC ?_;exact ih (k+1) (by have:=HK.o;omega) _ _ _ _ _ _ _ _ _ _ _ _ _ _ _ _ _ _ _ _ _ _ _ _ _ _ _ _ _ _ _ _ _ _ _ _ _ _ _ _ _ _ _ _ _ _ _ _ _ _ _ _ _ _ _ _ _ _ _ _ _ _ _ _ _ _ _ _ zlk.o (zCs HA.o Nc.o HV.o)
  |false=>
   refine BO.pV mX dC tX (λw4 T3 lM Q' cZ=>?_);have zcS:=aD (show oN wB lo go ge n c (some ⟨be,oe,none⟩) o es w4 by rw[lM];exact uY.o.tp T3 0);have g0:w4.cell? ⟨gb,0,none⟩=some (.string ev.k):=by rw[lM];exact aJ vG.o 0
   have g1:w4.cell? ⟨gb,1,none⟩=some (.int .i64 ev.a):=by rw[lM];exact aJ vG.o 1
   have g2:w4.cell? ⟨gb,2,none⟩=some (.int .i64 ev.b):=by rw[lM];exact aJ vG.o 2
   have o1:w4.cell? ⟨go,1,none⟩=some (.int .i64 o.op):=by rw[lM];exact aJ uY.o.bo 1
   have HV:=aD hv;clear uY vG hv;clear lM
   go_wp2_with ((go_at_call 52;refine(zt7 ev o.op _ hop).mono ?_;rintro e w' ⟨rfl,mQ⟩))
   refine cZ.o _ _ ?_;clear cZ;clear g0 g1 g2 o1;have zaM:=aD (zcS.o.below mQ);clear mQ zcS;refine BO.cond dC (t:=true) rfl (by first|rfl|simp[wF,HV.o]) ?_;refine BO.seq dC ?_;refine BO.pV mX dC tX (λw6 T6 pB Q' cZ=>?_);have zlk:=aD (show oN wB lo go ge n c (some ⟨be,oe,none⟩) o es w6 by rw[pB];exact zaM.o.tp T6 0);clear zaM;clear pB;go_wp2;refine cZ.o _ _ ?_;clear cZ;refine BO.ret dC ?_;exact Sf _ _ _ rfl zlk.o (zAQ Nc.o HV.o)
end
variable {w w':aE}
theorem ziC (h:w'.heap=w.heap)(ht:vL w):vL w':=by
 unfold vL zfM zer at*;rw[h];exact ht
variable {lo:Nat}{w1:aE}
theorem Af.of (h:vL w)(dW:w.heap.size<=lo)(hs:lo<=w1.heap.size)(k:∀b,b<w.heap.size->w1.heap[b]? =w.heap[b]?):Af lo w1:=λw' hw=>by
 have hz:w.heap.size<=w'.heap.size:=by
  rcases nC w'.heap.size w.heap.size with h'|h'
  .have e1:=hw w'.heap.size aC
   rw[k _ h',Array.getElem?_eq_none (aX _),mE h'] at e1;cases e1
  .exact h'
 have hb:bV w.heap.size w {w' with os:=w.os,tape:=w.tape,output:=w.output}:=⟨rfl,rfl,rfl,hz,λb hb=>(hw b aC).trans (k b hb)⟩;exact ziC (w:={w' with os:=w.os,tape:=w.tape,output:=w.output}) rfl (zi5 h _ hb)
def fK (s:Nat):fJ:=⟨.slice none 0 0,.slice none 0 0,.slice none 0 0,.slice none 0 0,.slice none 0 0,.slice none 0 0,.slice none 0 0,s,s+1,s+2,[],[],[]⟩
variable {b:Nat}
def znY {x:Obj}(h:w.heap[b]? =some x)(o:Obj):(w.alloc o).heap[b]? =some x:=(qO w o b (dP.1 h).1).trans h
theorem zJz (dW:lo<=w.heap.size)(o:jG)(w5:aE)(h5:w5=((((w.alloc (.map #[] 0)).alloc (.map #[] 0)).alloc (.map #[] 0)).alloc (Qc (fK w.heap.size) ⟨mP o,[],[],[]⟩)).alloc (.cells #[.pointer (some ⟨w.heap.size+3,0,none⟩)] 63)):
 bE w5 lo (w.heap.size+3) (fK w.heap.size) ⟨mP o,[],[],[]⟩/\w5.heap[w.heap.size+4]? =some (.cells #[.pointer (some ⟨w.heap.size+3,0,none⟩)] 63)/\some (w.heap.size+4)∉parts (fK w.heap.size) (w.heap.size+3)/\bV w.heap.size w w5:=by
 obtain⟨a1,Bf⟩:=aU (w.alloc (.map #[] 0));obtain⟨a2,zaj⟩:=aU (a1.alloc (.map #[] 0));obtain⟨a3,Vu⟩:=aU (a2.alloc (.map #[] 0));obtain⟨a4,S4⟩:=aU (a3.alloc (Qc (fK w.heap.size) ⟨mP o,[],[],[]⟩));rw[<-Bf,<-zaj,<-Vu,<-S4] at h5;have z1:a1.heap.size=w.heap.size+1:=by rw[Bf];exact rE _ _
 have z2:a2.heap.size=w.heap.size+2:=by rw[zaj,rE,z1]
 have z3:a3.heap.size=w.heap.size+3:=by rw[Vu,rE,z2]
 have z4:a4.heap.size=w.heap.size+4:=by rw[S4,rE,z3]
 have z5:w5.heap.size=w.heap.size+5:=by rw[h5,rE,z4]
 have k1:a1.heap[w.heap.size]? =some (.map #[] 0):=by rw[Bf];exact Ex _ _
 have k2:a2.heap[w.heap.size+1]? =some (.map #[] 0):=by rw[zaj,<-z1];exact Ex _ _
 have k3:a3.heap[w.heap.size+2]? =some (.map #[] 0):=by rw[Vu,<-z2];exact Ex _ _
 have k4:a4.heap[w.heap.size+3]? =some (Qc (fK w.heap.size) ⟨mP o,[],[],[]⟩):=by rw[S4,<-z3];exact Ex _ _
 have k5:w5.heap[w.heap.size+4]? =some (.cells #[.pointer (some ⟨w.heap.size+3,0,none⟩)] 63):=by rw[h5,<-z4];exact Ex _ _
 have u:∀{x y:aE} {b:Nat} {ob q:Obj},y=x.alloc q->x.heap[b]? =some ob->y.heap[b]? =some ob:=λe h=>by rw[e];exact znY h _
 have m1:=u h5 (u S4 (u Vu (u zaj k1)));have m2:=u h5 (u S4 (u Vu k2));have m3:=u h5 (u S4 k3);have m4:=u h5 k4;have pp:∀(i b:Nat),(parts (fK w.heap.size) (w.heap.size+3))[i]? =some (some b)->(i=0/\b=w.heap.size+3)\/(i=2/\b=w.heap.size)\/(i=3/\b=w.heap.size+1)\/(i=8/\b=w.heap.size+2):=λi b h=>by
  unfold parts fK at h;rcases i with _|_|_|_|_|_|_|_|_|_|_|i<;>simp[D8] at h<;>omega
 refine⟨⟨m4,⟨aC,dW,by show lo<=w.heap.size+1;omega,by show lo<=w.heap.size+2;omega⟩,⟨rfl,.inl ⟨rfl,rfl⟩⟩,⟨rfl,.inl ⟨rfl,rfl⟩⟩,⟨rfl,.inl ⟨rfl,rfl⟩⟩,⟨rfl,.inl ⟨rfl,rfl⟩⟩,⟨rfl,.inl ⟨rfl,rfl⟩⟩,⟨rfl,.inl ⟨rfl,rfl⟩⟩,⟨rfl,.inl ⟨rfl,rfl⟩⟩,⟨_,_,m1,rfl⟩,⟨_,_,m2,rfl⟩,⟨_,_,m3,rfl⟩,λi j b hi hj=>?_⟩,k5,λhp=>?_,?_⟩
 .have:=pp i b hi;have:=pp j b hj;omega
 .obtain⟨i,hi⟩:=List.mem_iff_getElem?.1 hp
  have:=pp i _ hi;omega
 .subst h5;subst S4;subst Vu;subst zaj;subst Bf
  exact dN (dN (dN (dN (dN (eF _ _) _) _) _) _) _
def Fy:Go.Code:=.seq (.seq zk9 (.block 4 (.loop (.seq zk3 (.seq (.cond (.tmp 54) .skip (.exit 4)) (.seq (.block 5 (.seq zbF (.seq Pt (.seq So Qy)))) zl2)))))) (.seq Zl (.seq Xy (.seq Zt (.seq Ty .ret))))
section
variable {Post:aF->aE->Prop}{Shun:Loc->Prop}{W0:aE}{St:Nat->Prop}{R0:Pr}{base:List dK}{K:Pr}{wB:aE}{lo go ge n c:Nat}{A:Option bL}{o:jG}{es:List dD}
theorem rh_made (Dl:qJ o=true)(hgo:∀K' w v ln hb gh u0 u1 u4 u5 u6 u8 u9 gU gJ gI gH gG gM u16 iK kL kS jR iO iD iE gZ iH iC iJ iF iB jM jO u32 iG hY iN iM kT kQ iI gY iL iQ iX jD iZ iV iU iR iY iW jB mL mD lC lB kV kJ kO kM kR kE kG j5 u64 kC j9 j6 kF kZ kU kK j7,K.le K'->oG wB lo go ge n c A o es hb gh ln [] v w->(ln.length:Int)=o.ln->BO (H4 Post Shun W0 St R0 base K') () ⟨42,#[u0,u1,.pointer (some ⟨go,0,none⟩),.pointer (some ⟨ge,0,none⟩),u4,u5,u6,.pointer (some ⟨gh,0,none⟩),u8,u9,gU,gJ,gI,gH,gG,gM,u16,iK,kL,kS,jR,iO,iD,iE,gZ,iH,iC,iJ,iF,iB,jM,jO,u32,iG,hY,iN,iM,kT,kQ,iI,gY,iL,iQ,iX,jD,iZ,iV,iU,iR,iY,iW,jB,mL,mD,lC,lB,kV,kJ,kO,kM,kR,kE,kG,j5,u64,kC,j9,j6,kF,kZ,kU,kK,j7],[.code (.seq Nb Fy)],false⟩ w){w:aE}{u0 u1 u5 u6 u7 u8 u9 gU gJ gI gH gG gM u16 iK kL kS jR iO iD iE gZ iH iC iJ iF iB jM jO u32 iG hY iN iM kT kQ iI gY iL iQ iX jD iZ iV iU iR iY iW jB mL mD lC lB kV kJ kO kM kR kE kG j5 u64 kC j9 j6 kF kZ kU kK j7:aF}(hE:oN wB lo go ge n c A o es w):
 BO (H4 Post Shun W0 St R0 base K) () ⟨42,#[u0,u1,.pointer (some ⟨go,0,none⟩),.pointer (some ⟨ge,0,none⟩),.pointer none,u5,u6,u7,u8,u9,gU,gJ,gI,gH,gG,gM,u16,iK,kL,kS,jR,iO,iD,iE,gZ,iH,iC,iJ,iF,iB,jM,jO,u32,iG,hY,iN,iM,kT,kQ,iI,gY,iL,iQ,iX,jD,iZ,iV,iU,iR,iY,iW,jB,mL,mD,lC,lB,kV,kJ,kO,kM,kR,kE,kG,j5,u64,kC,j9,j6,kF,kZ,kU,kK,j7],[.code (.seq rRH9 (.seq (.seq ziD (.block 2 (.loop Zb))) (.seq Nb Fy)))],false⟩ w:=by
 have rW:=Dl;have HE:=aD hE;have HO:=aD Dl;clear hE Dl rW;refine BO.seq dC ?_;refine BO.pV mX dC tX (λw1 T1 fA Q' cZ=>?_);have cK:=aD (show oN wB lo go ge n c A o es w1 by rw[fA];exact HE.o.tp T1 0);clear HE;have g0:w1.cell? ⟨go,0,none⟩=some (.int .i64 o.ln):=aJ cK.o.bo 0;have g1:w1.cell? ⟨go,1,none⟩=some (.int .i64 o.op):=aJ cK.o.bo 1;have g2:w1.cell? ⟨go,2,none⟩=some (.int .i64 o.pt):=aJ cK.o.bo 2;have Ml:=@run_makeMap aK;clear fA;go_wp2;refine cZ.o _ _ ?_;clear cZ;clear g0 g1 g2 Ml;obtain⟨w5,n8⟩:=aU (((((w1.alloc (.map #[] 0)).alloc (.map #[] 0)).alloc (.map #[] 0)).alloc (Qc (fK w1.heap.size) ⟨mP o,[],[],[]⟩)).alloc (.cells #[.pointer (some ⟨w1.heap.size+3,0,none⟩)] 63));obtain⟨n1,n2,n3,n4⟩:=zJz cK.o.lo_ o w5 n8;have HR:=aD (show oG wB lo go ge n c A o es (w1.heap.size+3) (w1.heap.size+4) [] [] (fK w1.heap.size) w5 from⟨cK.o.below n4,n1,⟨rfl,rfl,rfl⟩,Qu,(λx hx=>by cases hx),n2,n3,(by have:=cK.o.lo_;omega)⟩);clear n1 n2 n3 n4;simp only[Nat.add_assoc,Nat.reduceAdd];have pB:=n8;simp only[Qc,hallA,fK,mP] at pB;rw[<-pB];clear n8 pB cK;refine BO.seq dC ?_;refine BO.seq dC ?_;generalize w1.heap.size+3=hb at HR⊢;generalize w1.heap.size+4=gh at HR⊢;generalize fK w1.heap.size=v at HR;refine BO.pV mX dC tX (λw6 T2 pB Q' cZ=>?_);have lO:=aD (show oG wB lo go ge n c A o es hb gh [] [] v w6 by rw[pB];exact HR.o.tp T2 0);clear HR;have g0:w6.cell? ⟨go,0,none⟩=some (.int .i64 o.ln):=aJ lO.o.e.bo 0;clear pB;go_wp2;refine cZ.o _ _ ?_;clear cZ;clear g0;refine BO.block dC ?_;refine BO.loop dC ?_;have rW:=HO.o;unfold qJ at rW;have rW:=of_decide_eq_true rW;refine zHn (wB:=wB) rW.2.1 K (λK' w' v' ln u0 u1 u4 u5 u6 u8 u9 gU gJ gI gH gG gM u16 iK kL kS jR iO iD iE gZ iH iC iJ iF iB jM jO u32 iG hY iN iM iI gY iL iQ iX jD iZ iV iU iR iY iW jB mL mD lC lB kV kJ kO kM kR kE kG j5 u64 kC j9 j6 kF kZ kU kK j7 hK hR hl=>?_) o.ln.toNat 0 aC K w6 v [] _ _ _ _ _ _ _ _ _ _ _ _ _ _ _ _ _ _ _ _ _ _ _ _ _ _ _ _ _ _ _ _ _ _ _ _ _ _ _ _ _ _ _ _ _ _ _ _ _ _ _ _ _ _ _ _ _ _ _ _ _ _ _ _ _ _ _ _ (wP _) lO.o rfl;exact hgo K' w' v' ln hb gh _ _ _ _ _ _ _ _ _ _ _ _ _ _ _ _ _ _ _ _ _ _ _ _ _ _ _ _ _ _ _ _ _ _ _ _ _ _ _ _ _ _ _ _ _ _ _ _ _ _ _ _ _ _ _ _ _ _ _ _ _ _ _ _ _ _ _ _ _ _ hK hR hl
end
def OldB (w w':aE):Prop:=w.heap.size<=w'.heap.size/\∀b,b<w.heap.size->w'.heap[b]? =w.heap[b]?
variable {wB:aE}{ge:Nat}{A:Option bL}{o:jG}{es:List dD}
def oN.oldB {go n c:Nat}(h:oN wB lo go ge n c A o es w1)(dW:w.heap.size<=lo)(k:∀b,b<w.heap.size->wB.heap[b]? =w.heap[b]?):OldB w w1:=
 ⟨eG dW h.lo_,λb hb=>(h.old b (lD hb dW)).trans (k b hb)⟩
section
variable {Post:aF->aE->Prop}{Shun:Loc->Prop}{W0:aE}{St:Nat->Prop}{R0:Pr}{base:List dK}{K:Pr}{n c:Nat}{A:Option bL}{o:jG}{es:List dD}
theorem zCR {w:aE}(Gl:b7 w 0 w.heap.size 3 A n c (lN es))(hn:n<=1048576)(zxG:vL w)
 (Sf:∀(T:Array aF) todo w',T.getD 4 aA=.pointer none->OldB w w'->jP o es=false->BO (H4 Post Shun W0 St R0 base K) () ⟨42,T,todo,true⟩ w')
 (hgo:∀wB lo go ge K' w' v ln hb gh u0 u1 u4 u5 u6 u8 u9 gU gJ gI gH gG gM u16 iK kL kS jR iO iD iE gZ iH iC iJ iF iB jM jO u32 iG hY iN iM kT kQ iI gY iL iQ iX jD iZ iV iU iR iY iW jB mL mD lC lB kV kJ kO kM kR kE kG j5 u64 kC j9 j6 kF kZ kU kK j7,K.le K'->jP o es=true->w.heap.size<=lo->w.heap.size<=go->w.heap.size<=ge->(∀b,b<w.heap.size->wB.heap[b]? =w.heap[b]?)->oG wB lo go ge n c A o es hb gh ln [] v w'->(ln.length:Int)=o.ln->BO (H4 Post Shun W0 St R0 base K') () ⟨42,#[u0,u1,.pointer (some ⟨go,0,none⟩),.pointer (some ⟨ge,0,none⟩),u4,u5,u6,.pointer (some ⟨gh,0,none⟩),u8,u9,gU,gJ,gI,gH,gG,gM,u16,iK,kL,kS,jR,iO,iD,iE,gZ,iH,iC,iJ,iF,iB,jM,jO,u32,iG,hY,iN,iM,kT,kQ,iI,gY,iL,iQ,iX,jD,iZ,iV,iU,iR,iY,iW,jB,mL,mD,lC,lB,kV,kJ,kO,kM,kR,kE,kG,j5,u64,kC,j9,j6,kF,kZ,kU,kK,j7],[.code (.seq Nb Fy)],false⟩ w'):
 BO (H4 Post Shun W0 St R0 base K) () ⟨42,#[.agg #[.int .i64 o.ln,.int .i64 o.op,.int .i64 o.pt],.slice A n c,aA,aA,aA,aA,aA,aA,aA,aA,aA,aA,aA,aA,aA,aA,aA,aA,aA,aA,aA,aA,aA,aA,aA,aA,aA,aA,aA,aA,aA,aA,aA,aA,aA,aA,aA,aA,aA,aA,aA,aA,aA,aA,aA,aA,aA,aA,aA,aA,aA,aA,aA,aA,aA,aA,aA,aA,aA,aA,aA,aA,aA,aA,aA,aA,aA,aA,aA,aA,aA,aA,aA],[.code oA],false⟩ w:=by
 have Ck:es.length=n:=Gl.eventsLen;have HS:=aD Gl;have HT:=aD zxG;have HN:=aD Ck;have HB:=aD hn;clear Gl zxG Ck hn;rw[show oA=.seq rRH0 (.seq (.seq rRH1 (.cond (.tmp 17) (.seq rRH2 .ret) .skip)) (.seq (.seq rRH3 (.block 0 (.loop zab))) (.seq rRH9 (.seq (.seq ziD (.block 2 (.loop Zb))) (.seq Nb Fy))))) from zCb];refine BO.seq dC ?_;refine BO.pV mX dC tX (λw1 T1 fA Q' cZ=>?_);have y9:=aD (show OldB w w1 by rw[fA];exact⟨aX _,λ_ _=>rfl⟩);have eB:w1.heap.size=w.heap.size:=by rw[fA];rfl
 clear fA;go_wp2;refine cZ.o _ _ ?_;clear cZ;obtain⟨wB,Y8⟩:=aU ((w1.alloc (.cells #[.int .i64 o.ln,.int .i64 o.op,.int .i64 o.pt] 29)).alloc (.cells #[.slice A n c] 31));have z0:(w1.alloc (.cells #[.int .i64 o.ln,.int .i64 o.op,.int .i64 o.pt] 29)).heap.size=w.heap.size+1:=by rw[rE,eB]
 have z1:wB.heap.size=w.heap.size+2:=by rw[Y8,rE,z0]
 have kB:∀b,b<w.heap.size->wB.heap[b]? =w.heap[b]? :=λb hb=>by
  rw[Y8,Fs aC,Fs aC];exact y9.o.2 b hb
 have HE:=aD (show oN wB (w.heap.size+2) w.heap.size (w.heap.size+1) n c A o es wB from⟨aC,Af.of HT.o aC aC kB,(HS.o.keep aC λb _ q _=>kB b q).wide (aX _) aC,aC,aC,by
  rw[Y8,<-eB];exact znY (Ex _ _) _,by rw[Y8,<-z0];exact Ex _ _,λ_ _=>rfl⟩)
 simp only[eB];rw[<-Y8];have HK:=aD kB;clear Y8 z0 z1 eB kB y9;have dW:w.heap.size<=w.heap.size+2:=aC;have zGJ:w.heap.size<w.heap.size+2:=aC;generalize zf7:w.heap.size+2=lo at HE dW zGJ⊢;generalize zaf:w.heap.size=go at HE⊢;generalize zAq:w.heap.size+1=ge at HE⊢;refine BO.seq dC ?_;refine BO.seq dC ?_;have ztQ:ge=go+1:=aC;have zMp:go<=ge:=aC;rw[<-ztQ] at HE⊢;clear zAq ztQ;by_cases hv:qJ o=true
 .by_cases zbk:n<=60
  .have zAH:¬(60:Int)<(n:Int):=aC
   refine BO.pV mX dC tX (λw1 T1 fA Q' cZ=>?_);have cK:=aD (show oN wB lo go ge n c A o es w1 by rw[fA];exact HE.o.tp T1 0);have g0:w1.cell? ⟨go,0,none⟩=some (.int .i64 o.ln):=aJ cK.o.bo 0;have g1:w1.cell? ⟨go,1,none⟩=some (.int .i64 o.op):=aJ cK.o.bo 1;have g2:w1.cell? ⟨go,2,none⟩=some (.int .i64 o.pt):=aJ cK.o.bo 2;have g3:w1.cell? ⟨ge,0,none⟩=some (.slice A n c):=aJ cK.o.be 0;have HV:=aD hv;clear HE hv;clear fA
   go_wp2_with ((go_at_call 33;refine(zlf o _).mono ?_;rintro e w' ⟨rfl,mQ⟩;have g4:w'.cell? ⟨ge,0,none⟩=some (.slice A n c):=aJ (cK.o.below mQ).be 0;rw[HV.o]))
   refine cZ.o _ _ ?_;clear cZ;clear g0 g1 g2 g3 g4;have nG:=aD (cK.o.below mQ);clear mQ cK;refine BO.cond dC (t:=false) rfl (show M5 (decide ((60:Int)<(n:Int)))=.bool false by rw[decide_eq_false aC]) ?_;refine BO.skip dC ?_;refine BO.seq dC ?_;refine BO.seq dC ?_;refine BO.pV mX dC tX (λw3 T3 iT Q' cZ=>?_);have uY:=aD (show oN wB lo go ge n c A o es w3 by rw[iT];exact nG.o.tp T3 0);have g3:w3.cell? ⟨ge,0,none⟩=some (.slice A n c):=aJ uY.o.be 0;clear nG;clear iT;go_wp2;refine cZ.o _ _ ?_;clear cZ;clear g3;refine BO.block dC ?_;refine BO.loop dC ?_;have rW:=HV.o;unfold qJ at rW;have rW:=of_decide_eq_true rW;refine zE3 (wB:=wB) (lo:=lo) ⟨rW.2.2.1,rW.2.2.2.1⟩ zbk HN.o (λT todo w2 hT ziL zjG=>?_) (λw2 jR u0 u1 u5 u6 u7 u8 u9 gU gJ gI gH gG gM u16 iK iO iD iE gZ iH iC iJ iF iB jM jO u32 iG hY iN iM kT kQ iI gY iL iQ iX jD iZ iV iU iR iY iW jB mL mD lC lB kV kJ kO kM kR kE kG j5 u64 kC j9 j6 kF kZ kU kK j7 ziL zjG=>?_) n 0 aC w3 _ _ _ _ _ _ _ _ _ _ _ _ _ _ _ _ _ _ _ _ _ _ _ _ _ _ _ _ _ _ _ _ _ _ _ _ _ _ _ _ _ _ _ _ _ _ _ _ _ _ _ _ _ _ _ _ _ _ _ _ _ _ _ _ _ _ _ uY.o (λj hj=>by omega)
   .refine Sf T todo w2 hT (ziL.oldB (zaf▸dW) (λb hb=>HK.o b (zaf▸hb))) ?_
    unfold jP;rw[zjG,Bool.and_false]
   .refine rh_made HV.o (λK' w' v ln hb gh u0 u1 u4 u5 u6 u8 u9 gU gJ gI gH gG gM u16 iK kL kS jR iO iD iE gZ iH iC iJ iF iB jM jO u32 iG hY iN iM kT kQ iI gY iL iQ iX jD iZ iV iU iR iY iW jB mL mD lC lB kV kJ kO kM kR kE kG j5 u64 kC j9 j6 kF kZ kU kK j7 hK hR hl=>hgo wB lo go ge K' w' v ln hb gh _ _ _ _ _ _ _ _ _ _ _ _ _ _ _ _ _ _ _ _ _ _ _ _ _ _ _ _ _ _ _ _ _ _ _ _ _ _ _ _ _ _ _ _ _ _ _ _ _ _ _ _ _ _ _ _ _ _ _ _ _ _ _ _ _ _ _ _ _ _ hK ?_ (zaf▸dW) aC aC (λb hb=>HK.o b (zaf▸hb)) hR hl) ziL
    unfold jP;rw[HV.o,zjG,HN.o];simp[zbk]
  .have zAH:(60:Int)<(n:Int):=aC
   have dG:jP o es=false:=by
    unfold jP;rw[HN.o];simp[zbk]
   refine BO.pV mX dC tX (λw1 T1 fA Q' cZ=>?_);have cK:=aD (show oN wB lo go ge n c A o es w1 by rw[fA];exact HE.o.tp T1 0);have g0:w1.cell? ⟨go,0,none⟩=some (.int .i64 o.ln):=aJ cK.o.bo 0;have g1:w1.cell? ⟨go,1,none⟩=some (.int .i64 o.op):=aJ cK.o.bo 1;have g2:w1.cell? ⟨go,2,none⟩=some (.int .i64 o.pt):=aJ cK.o.bo 2;have g3:w1.cell? ⟨ge,0,none⟩=some (.slice A n c):=aJ cK.o.be 0;have HV:=aD hv;clear HE hv;clear fA
   go_wp2_with ((go_at_call 33;refine(zlf o _).mono ?_;rintro e w' ⟨rfl,mQ⟩;have g4:w'.cell? ⟨ge,0,none⟩=some (.slice A n c):=aJ (cK.o.below mQ).be 0;rw[HV.o]))
   refine cZ.o _ _ ?_;clear cZ;clear g0 g1 g2 g3 g4;have nG:=aD (cK.o.below mQ);clear mQ cK;refine BO.cond dC (t:=true) rfl rfl ?_;refine BO.seq dC ?_;refine BO.pV mX dC tX (λw3 T3 iT Q' cZ=>?_);have uY:=aD (show oN wB lo go ge n c A o es w3 by rw[iT];exact nG.o.tp T3 0);clear nG;clear iT;go_wp2;refine cZ.o _ _ ?_;clear cZ;refine BO.ret dC ?_;exact Sf _ _ _ rfl zwH dG
 .have dG:jP o es=false:=by
   unfold jP;simp[hv]
  have hv:qJ o=false:=by simpa using hv
  refine BO.pV mX dC tX (λw1 T1 fA Q' cZ=>?_);have cK:=aD (show oN wB lo go ge n c A o es w1 by rw[fA];exact HE.o.tp T1 0);have g0:w1.cell? ⟨go,0,none⟩=some (.int .i64 o.ln):=aJ cK.o.bo 0;have g1:w1.cell? ⟨go,1,none⟩=some (.int .i64 o.op):=aJ cK.o.bo 1;have g2:w1.cell? ⟨go,2,none⟩=some (.int .i64 o.pt):=aJ cK.o.bo 2;have g3:w1.cell? ⟨ge,0,none⟩=some (.slice A n c):=aJ cK.o.be 0;have HV:=aD hv;clear HE hv;clear fA
  go_wp2_with ((go_at_call 33;refine(zlf o _).mono ?_;rintro e w' ⟨rfl,mQ⟩;have g4:w'.cell? ⟨ge,0,none⟩=some (.slice A n c):=aJ (cK.o.below mQ).be 0;rw[HV.o]))
  refine cZ.o _ _ ?_;clear cZ;clear g0 g1 g2 g3 g4;have nG:=aD (cK.o.below mQ);clear mQ cK;refine BO.cond dC (t:=true) rfl rfl ?_;refine BO.seq dC ?_;refine BO.pV mX dC tX (λw3 T3 iT Q' cZ=>?_);have uY:=aD (show oN wB lo go ge n c A o es w3 by rw[iT];exact nG.o.tp T3 0);clear nG;clear iT;go_wp2;refine cZ.o _ _ ?_;clear cZ;refine BO.ret dC ?_;exact Sf _ _ _ rfl zwH dG
end
def xT:Nat->Bool:=λa=>Ap aK a
def xQ (gq:Nat):Nat->Bool:=λa=>a==gq||Ap aK a
def Jy (w00:aE)(K R:Pr)(St eO:Nat->Prop)(Fz:Nat->Prop)(Wf:aE)(Xa:Nat->Prop):Prop:=
 ∀(K' R':Pr) (wn Wn:aE),K.le K'->R.le R'->cV (SF gE) K' R' (o6 aK) eO wn Wn->(∀b,Fz b->Wn.heap[b]? =Wf.heap[b]?)->
  ∃Yz,cV (SF gE) K' R' (o6 aK) St Yz Wn/\Yz.heap.size=wn.heap.size/\(∀a,¬Xa a->Yz.heap[a]? =wn.heap[a]?)/\∀a,xT a=true->Yz.heap[a]? =w00.heap[a]?
variable {K R:Pr}{St:Nat->Prop}
theorem Jy.first {W:aE}(hw:cV (SF gE) K R (o6 aK) St w W)(hx:XOk R xT w):Jy w K R St (λa=>St a\/xT a=true) (Gc R St xT) W (λa=>xT a=true):=λK' R' wn Wn hK hR hn mY=>by
 have h1:=ztU (St':=λa=>St a\/xT a=true) hw hx hR hK hn (λa h=>.inl h) (λa b zbW qK=>mY b ⟨a,qK,.inr zbW⟩);refine⟨_,h1,zdI _ _ _,λa ha=>Y6 (by simpa using ha),λa ha=>?_⟩;obtain⟨b,hb⟩:=hx.dom a ha;obtain⟨c,T,fz,hc⟩:=hx.cells a ha;rw[zey ha (hn.lt a b (.inl (hR _ _ hb))).1 hc,hc]
variable {eO:Nat->Prop}{X:Nat->Bool}
theorem Jy.step {w00 W Wf:aE}{K2 R2:Pr}{Fz Xa:Nat->Prop}(h:Jy w00 K R St eO Fz Wf Xa)(hK:K.le K2)(hR:R.le R2)(hw:cV (SF gE) K2 R2 (o6 aK) eO w W)(hx:XOk R2 X w)(hF:∀b,Fz b->W.heap[b]? =Wf.heap[b]? /\∃a,R2 a b/\eO a):
 Jy w00 K2 R2 St (λa=>eO a\/X a=true) (Gc R2 eO X) W (λa=>Xa a\/X a=true):=λK' R' wn Wn rV zxk hn mY=>by
 have h1:=ztU (St':=λa=>eO a\/X a=true) hw hx zxk rV hn (λa h=>.inl h) (λa b zbW qK=>mY b ⟨a,qK,.inr zbW⟩)
 obtain⟨Yz,k1,k2,k3,k4⟩:=h K' R' _ Wn (wD hK rV) (hR.trans zxk) h1 (λb hb=>by
  obtain⟨e,a,x,y⟩:=hF b hb;exact(mY b ⟨a,x,.inl y⟩).trans e)
 refine⟨Yz,k1,k2.trans (zdI _ _ _),λa ha=>?_,k4⟩;rw[k3 a (λx=>ha (.inl x)),Y6 (by cases e:X a with|false=>rfl|true=>exact absurd (.inr e) ha)]
theorem zHM (h:X b=true->∃c T hi,w.heap[b]? =some (.cells c T (0,hi))/\c.size<=hi):(uF X w).heap[b]? =w.heap[b]? :=by
 cases e:X b with
 |false=>exact N4 e
 |true=>
  obtain⟨c,T,hi,h1,h2⟩:=h e;rw[Tv e h1,h1];simp only[Nat.max_eq_right h2]
theorem zB5 {o:Nat}{v:aF}(hc:X b=true->∃c T fz,w.heap[b]? =some (.cells c T fz))(h:w.cell? ⟨b,o,none⟩=some v):(uF X w).cell? ⟨b,o,none⟩=some v:=by
 cases e:X b with
 |false=>exact(aE.cell?_of_block (a:=⟨b,o,none⟩) (N4 e)).trans h
 |true=>
  obtain⟨c,T,fz,hc⟩:=hc e;have e1:w.cell? ⟨b,o,none⟩=c[o]? :=by simp[lI,hc]
  have e2:(uF X w).cell? ⟨b,o,none⟩=c[o]? :=by simp[lI,Tv e hc]
  rw[e2,<-e1];exact h
def zAu:((aK.globalNamed "internal/strconv.uint64pow10").map λg=>Ap aK g)=some true:=aQ
theorem tabW_fr (h:vL w)(hx:∀a,xT a=true->X a=true)(hc:∀a,xT a=true->∃c T fz,w.heap[a]? =some (.cells c T fz))(hw:∀a,xT a=true->w'.heap[a]? =(uF X w).heap[a]?):vL w':=by
 obtain⟨g,hg,bU⟩:=xK.1 zAu;obtain⟨c,T,fz,Kb⟩:=hc g bU;unfold vL zfM zer at*;rw[hg] at h⊢;simp only[vD] at h⊢;rw[Kb] at h;rw[hw g bU,Tv (hx g bU) Kb];exact h
variable {v:fJ}{ln qn:List Nat}
theorem oG.frT {go n c hb gh lo0:Nat}(h:oG wB lo go ge n c A o es hb gh ln qn v w)(hgo:lo0<=go)(Aq:lo0<=ge)(dW:lo0<=lo)(ht:∀a,xT a=true->a<lo0)(hc:∀a,xT a=true->∃c T fz,w.heap[a]? =some (.cells c T fz)):oG (uF xT w) lo go ge n c A o es hb gh ln qn v (uF xT w):=by
 have out:∀b,lo0<=b->(uF xT w).heap[b]? =w.heap[b]? :=λb hb=>N4 (by
  cases e:xT b with
  |false=>rfl
  |true=>have:=ht b e;omega)
 have nT:xT gh=false:=by
  cases e:xT gh with
  |false=>rfl
  |true=>have:=ht gh e;have:=h.ghl;omega
 refine⟨⟨by rw[Tz];exact h.e.lo_,λw' hw=>tabW_fr h.e.tab.at_ (λa h=>h) hc λa ha=>hw a (lD (ht a ha) dW),?_,h.e.gol,h.e.gel,(out _ hgo).trans h.e.bo,(out _ Aq).trans h.e.be,λ_ _=>rfl⟩,h.at_.keep λb hb hp=>out b (by have:=(h.at_.lt b hp).1;omega),h.mp,h.nd,λx hx=>by rw[Tz];exact h.lt x hx,(N4 nT).trans h.bh,h.nh,h.ghl⟩;refine⟨h.e.ev.len,h.e.ev.le,h.e.ev.cap,λhn=>?_⟩;obtain⟨b,off,e,h1,h2,h3,h4⟩:=h.e.ev.at_ hn;exact⟨b,off,e,h1,h2,by rw[Tz];exact h3,λj v hv=>zB5 (λx=>hc b x) (h4 j v hv)⟩
variable {gq a:Nat}
theorem zbu (h:xQ gq a=true):a=gq\/xT a=true:=by
 unfold xQ at h;simp only[Ey,beq_iff_eq] at h;exact h
theorem xQ_q (gq:Nat):xQ gq gq=true:=by simp[xQ]
theorem xQ_t (h:xT a=true):xQ gq a=true:=by
 unfold xQ xT at*;rw[h,Bool.or_true]
theorem op_tmps (a b:aF):(#[]++ #[a,b])++nU ((znc).ntmps-(#[]++ #[a,b]:Array aF).size) aA=(#[a,b,aA,aA]:Array aF):=by
 have e:(znc).ntmps=4:=rfl;rw[e];have e:(#[]++ #[a,b]:Array aF).size=2:=aO;rw[e];apply Ik;simp only[Oz,zaN];rfl
def Gf (w:aE):Prop:=∀g,xT g=true->∃c T fz,w.heap[g]? =some (.cells c T fz)/\∀v∈c,vR v
variable {τ:cF}{Wr:aE}{gt t:Array aF}
theorem op_born {Wg N:Nat}{W:List fH}{D:aE->Prop}{Fin:bC->aE->Prop}{gc m:Nat}(hw:cV (SF gE) K R (o6 aK) eO w Wr)(hx:XOk R (xQ gq) w)(zck:K gc a)(dG:∀b,¬R b a)
 (hq:w.heap[gq]? =some (.cells #[.chan (some gc)] 95)) (Db:Gf w) (ha:bK (SF gE) K R gt t) (zIf:gt[9]? =some (.pointer (some ⟨gq,0,none⟩))) (h8:t.getD 8 aA=.pointer (some ⟨Wg,0,none⟩)) (zz6:Wg<Wr.heap.size) (zHs:∀a b,R a b->b≠Wg) (mU:WgLive sD.tWg Wg Wr):
 bZ aK sD.tWg Wg (B6 N W D) Fin false (.usr (.op a 0 m)) 0 (Ze τ R (xQ gq)) (born aK {target:=.fn (.func 54) #[t.getD 8 aA,t.getD 9 aA],args:=#[]}) Wr:=by
 refine M3 rfl rfl (λaV s=>ztX (c:=Xp) zsf aH rfl aV) λaV s=>?_;have Bv:∀b,¬R gc b:=λb x=>by
  obtain rfl:=hw.inj gc b a (.inl x) (.inr zck);exact dG _ x
 have mK:∀a c T fz,xQ gq a=true->w.heap[a]? =some (.cells c T fz)->∀v∈c,wN (λa=>xQ gq a=true) (λa=>a=gc) v:=λa c T fz zbW hc v hv=>by
  rcases zbu zbW with rfl|zqC
  .rw[hq] at hc
   injection hc with hc;injection hc with e1 _ _;subst e1;obtain rfl:=by simpa using hv
   exact .chan λx e=>by cases e;rfl
  .obtain⟨c',T',Iz,h1,h2⟩:=Db a zqC
   rw[hc] at h1;injection h1 with h1;injection h1 with e1 _ _;subst e1;exact(h2 v hv).inX
 have hrel:=reX_rel hw hx (λg hg=>xQ_t hg) (KD:=λa=>a=gc) mK (λa b x e=>absurd (e▸x) (Bv b));have zwn:vF (Ze τ R (xQ gq)) (rX R (xQ gq)) (λa=>xQ gq a=true):=zE9;have hv:(reX (xQ gq) w).cell? ⟨gq,0,none⟩=some (.chan (some gc)):=by
  simp[lI,zhd (xQ_q gq) hq]
 have hB:=zID (Wg:=Wg) (N:=N) (W:=W) (D:=D) (Fin:=Fin) (St:=λa=>xQ gq a=true) (gc:=gc) (gv:=gq) (c:=a) (K:=kX K (λa=>a=gc)) ⟨zck,rfl⟩ m hv;have U9:=Cx.Rel.suf (C:=fY Wg N W D Fin (λa=>xQ gq a=true) (kX K (λa=>a=gc)) (λ_=>True) [wI aK] ⟨[],.deferred,aO⟩ [(0,.pointer (some ⟨Wg,0,none⟩))]) hrel zwn s;have rV:∀a b,R.or K a b->a=gc->(rX R (xQ gq)).or (kX K (λa=>a=gc)) a b:=λa b x e=>by
  rcases x with x|x
  .exact absurd (e▸x) (Bv b)
  .exact .inr ⟨x,e⟩
 have p9:VR (SF gE) (kX K (λa=>a=gc)) (rX R (xQ gq)) (.pointer (some ⟨gq,0,none⟩)) (t.getD 9 aA):=by
  have h1:=ha.getD 9 (xN (S:=SF gE) (K:=K) (R:=R));rw[tJ,zIf] at h1;exact wN.vr h1 (λp q y z=>⟨y,z⟩) rV (.pointer λx e=>by cases e;exact xQ_q gq)
 rw[h8];generalize t.getD 9 aA=t9 at*;rw[op_tmps];have vu:=xN (S:=SF gE) (K:=kX K (λa=>a=gc)) (R:=rX R (xQ gq));have hj:∀x,Tt.HidV x->VR (SF gE) (kX K (λa=>a=gc)) (rX R (xQ gq)) .nilFunc x:=λx h=>.junk h;have:=hB (rX R (xQ gq)) aV ⟨54,#[.pointer (some ⟨Wg,0,none⟩),t9,aA,aA],[.code Xp],false⟩ (Ze τ R (xQ gq)) U9 ⟨rfl,rfl,rfl,?_,λx hx=>?_⟩ zwn ⟨⟨⟨λa b x=>zHs a b x.1,by have:=s.size;omega⟩,s.live mU⟩,trivial⟩
 .exact this
 .exact zuu (.cons (hj _ Vo) (.cons p9 (.cons vu (.cons vu .nil))))
 .obtain rfl:=sZ.1 hx
  rfl
theorem wk_tmps (a b c:aF):(#[]++ #[a,b,c])++nU ((zqE).ntmps-(#[]++ #[a,b,c]:Array aF).size) aA=(#[a,b,c,aA,aA,aA]:Array aF):=by
 have e:(zqE).ntmps=6:=rfl;rw[e];have e:(#[]++ #[a,b,c]:Array aF).size=3:=aO;rw[e];apply Ik;simp only[Oz,zaN];rfl
theorem wk_born {e:Ho}(H:e.d.Ok)(By:e.ty=sD.tWg){hb gh n c:Nat}{Q:Pr->Prop}(hQ:Up Q)(hq:Q R)
 (hw:cV (SF gE) K R (o6 aK) e.St w Wr) (hT:vF τ R e.St) (hi:IQ e.W0 e.StI e.Shun e.Wg e.SS e.R0 e.Fz e.Wf e.qs [] R τ Wr) (mU:WgLive sD.tWg e.Wg Wr) (h:zcc e o es ln qn lo hb v w K A n c) (hh:w.cell? ⟨gh,0,none⟩=some (.pointer (some ⟨hb,0,none⟩))) (he:w.cell? ⟨ge,0,none⟩=some (.slice A n c))
 (ha:bK (SF gE) K R gt t) (zJF:gt[7]? =some (.pointer (some ⟨gh,0,none⟩))) (Lp:gt[3]? =some (.pointer (some ⟨ge,0,none⟩))) (h8:t.getD 8 aA=.pointer (some ⟨e.Wg,0,none⟩))
 (tV:∀K' R τ W w' v',K.le K'->Q R->cV (SF gE) K' R (o6 aK) e.St w' W->IQ e.W0 e.StI e.Shun e.Wg e.SS e.R0 e.Fz e.Wf e.qs [] R τ W->bE w' lo hb v' (uO o es ln qn qn.length)->gC v' (uO o es ln qn qn.length)->bM hb v w v' w'->e.D W):
 bZ aK sD.tWg e.Wg (B6 e.N e.W e.D) e.Fin false (.usr (.wk e.qs 0)) 0 τ (born aK {target:=.fn (.func 57) #[t.getD 8 aA,t.getD 7 aA,t.getD 3 aA],args:=#[]}) Wr:=by
 refine M3 rfl rfl (λaV s=>ztX (c:=Yr) Tryz.func57 aH rfl aV) λaV s=>?_;have hB:=zH9 H By h hh he hQ tV
 let C:=e.d.cx K Q [] [wI aK] ⟨[],.deferred,aO⟩ [(0,.pointer (some ⟨e.Wg,0,none⟩))]
 have U9:=Cx.Rel.suf (C:=C) hw hT (show bT C.ty C.Wg τ Wr aV by show bT e.ty _ _ _ _;rw[By];exact s);have zU:=(H.iok hQ (K:=K) (chs:=[]) (base:=[wI aK]) (ds:=⟨[],.deferred,aO⟩) (pin:=[(0,.pointer (some ⟨e.Wg,0,none⟩))])).suf R τ Wr aV ⟨⟨hi,by show WgLive e.ty _ _;rw[By];exact mU⟩,hq⟩ (show bT C.ty C.Wg τ Wr aV by show bT e.ty _ _ _ _;rw[By];exact s);have p7:VR (SF gE) K R (.pointer (some ⟨gh,0,none⟩)) (t.getD 7 aA):=by
  have h1:=ha.getD 7 (xN (S:=SF gE) (K:=K) (R:=R));rw[tJ,zJF] at h1;exact h1
 have p3:VR (SF gE) K R (.pointer (some ⟨ge,0,none⟩)) (t.getD 3 aA):=by
  have h1:=ha.getD 3 (xN (S:=SF gE) (K:=K) (R:=R));rw[tJ,Lp] at h1;exact h1
 rw[h8];generalize t.getD 7 aA=t7 at*;generalize t.getD 3 aA=t3 at*;rw[wk_tmps];have vu:=xN (S:=SF gE) (K:=K) (R:=R);have hj:∀x,Tt.HidV x->VR (SF gE) K R .nilFunc x:=λx h=>.junk h;have:=hB R aV ⟨57,#[.pointer (some ⟨e.Wg,0,none⟩),t7,t3,aA,aA,aA],[.code Yr],false⟩ τ U9 ⟨rfl,rfl,rfl,?_,λx hx=>?_⟩ hT zU
 .rw[Cx.B_none (C:=C) rfl] at this
  have e2:C.ty=sD.tWg:=By;rw[e2] at this;exact this
 .exact zuu (.cons (hj _ Vo) (.cons p7 (.cons p3 (.cons vu (.cons vu (.cons vu .nil))))))
 .obtain rfl:=sZ.1 hx
  rfl
end Go.Proofs.YtfcjiloojkjaeaaGreatDoor
namespace Go.Mt
open Go.Conc Go.Tt
theorem zxc:∀(n:Nat) (u:aF),N2 u<n->∃u',vR u'/\(∀(S:aP->Prop) (K R:Pr) (v:aF),VR S K R u v->VR S K R u' v)/\(Oa u->u'=u):=by
 intro n
 induction n with
 |zero=>intro u h;omega
 |succ n ih=>
  intro u hu;have pl:∀{x:aF},(∀k m,x≠ .int k m)->(∀s,x≠ .string s)->(∀b,x≠ .bool b)->∀{y:aF},Oa x->y=x:=λh1 h2 h3 y hx=>by
   rcases hx with⟨k,m,e⟩|⟨s,e⟩|⟨b,e⟩
   .exact absurd e (h1 _ _)
   .exact absurd e (h2 _)
   .exact absurd e (h3 _)
  have rows:∀xs:Array aF,N2 xs<n->∃us:Array aF,us.size=xs.size/\(∀(i:Nat) (u:aF),us[i]? =some u->vR u)/\∀(S:aP->Prop) (K R:Pr) (i:Nat) (u x v:aF),us[i]? =some u->xs[i]? =some x->VR S K R x v->VR S K R u v:=λxs hx=>by
   have hex:∀x,∃u,x∈xs->vR u/\∀(S:aP->Prop) (K R:Pr) (v:aF),VR S K R x v->VR S K R u v:=λx=>by
    by_cases hm:x∈xs
    .obtain⟨u,h1,h2,_⟩:=ih x (ziN (Array.sizeOf_lt_of_mem hm) hx)
     exact⟨u,λ_=>⟨h1,h2⟩⟩
    .exact⟨x,λh=>absurd h hm⟩
   refine⟨xs.map λx=>(hex x).choose,aO,λi u h1=>?_,λS K R i u x v h1 h2 h3=>?_⟩
   .rw[yB] at h1
    cases h2:xs[i]? with
    |none=>rw[h2] at h1;cases h1
    |some v=>
     rw[h2] at h1;simp only[Ao,gA] at h1;subst h1;exact((hex v).choose_spec (Sm h2)).1
   .rw[yB,h2] at h1
    simp only[Ao,gA] at h1;subst h1;exact((hex x).choose_spec (Sm h2)).2 S K R v h3
  cases u with
  |bool b=>exact⟨_,.bool b,λS K R v h=>h,λ_=>rfl⟩
  |int k m=>exact⟨_,.int k m,λS K R v h=>h,λ_=>rfl⟩
  |string s=>exact⟨_,.string s,λS K R v h=>h,λ_=>rfl⟩
  |nilFunc=>exact⟨_,.nilFunc,λS K R v h=>h,λ_=>rfl⟩
  |nilIface=>exact⟨_,.nilIface,λS K R v h=>h,λ_=>rfl⟩
  |agg xs=>
   obtain⟨us,h1,h3,h2⟩:=rows xs (by simp at hu;omega);refine⟨.agg us,.agg h3,λS K R v h=>?_,pl (λ_ _ h=>by cases h) (λ_ h=>by cases h) (λ_ h=>by cases h)⟩
   cases h with
   | @agg _ bY e hh=>
    refine .agg (h1.trans e) λi a b ha hb=>?_;have hi:i<xs.size:=by rw[e];exact(dP.1 hb).1
    exact h2 S K R i a xs[i] b ha (mE hi) (hh i _ _ (mE hi) hb)
  |tuple xs=>
   obtain⟨us,h1,h3,h2⟩:=rows xs (by simp at hu;omega);refine⟨.tuple us,.tuple h3,λS K R v h=>?_,pl (λ_ _ h=>by cases h) (λ_ h=>by cases h) (λ_ h=>by cases h)⟩
   cases h with
   | @tuple _ bY e hh=>
    refine .tuple (h1.trans e) λi a b ha hb=>?_;have hi:i<xs.size:=by rw[e];exact(dP.1 hb).1
    exact h2 S K R i a xs[i] b ha (mE hi) (hh i _ _ (mE hi) hb)
  |_=>exact⟨.nilFunc,.nilFunc,λS K R v h=>.junk (by cases h<;>exact True.intro),pl (λ_ _ h=>by cases h) (λ_ h=>by cases h) (λ_ h=>by cases h)⟩
def cl (u:aF):Value:=(zxc (N2 u+1) u (xH _)).choose
def cl_spec (u:aF):vR (cl u)/\(∀(S:aP->Prop) (K R:Pr) (v:aF),VR S K R u v->VR S K R (cl u) v)/\(Oa u->cl u=u):=(zxc (N2 u+1) u (xH _)).choose_spec
end Go.Mt
namespace Go.Proofs.YtfcjiloojkjaeaaGreatDoor
open Go.RowKit Go.Mt Go.Conc Go.Tt Go.Maps Go.Conc.Lib Go.ConcR.Gen
open Go.ConcR (KK wgBlock WgAt stA smA rd wr)
abbrev Bb (Shun:Loc->Prop)(Wg:Nat):Loc->Prop:=λl=>Shun l\/nE l Wg
abbrev finS (Post:aF->aE->Prop)(Shun:Loc->Prop)(Wg:Nat):bC->aE->Prop:=λg w'=>J aK Post (Bb Shun Wg) w'.heap.size g w'
structure qZ where
 Post:aF->aE->Prop
 Shun:Loc->Prop
 W0:aE
 St:Nat->Prop
 base:List dK
 K1:Pr
 R1:Pr
 w00:aE
 lo0:Nat
 lo:Nat
 go:Nat
 ge:Nat
 n:Nat
 c:Nat
 A:Option bL
 o:jG
 es:List dD
 hb:Nat
 gh:Nat
 ln:List Nat
 Wg:Nat
def qZ.End (p:qZ)(qn:List Nat)(v':fJ)(w':aE):Prop:=
 bE w' p.lo p.hb v' (uO p.o p.es p.ln qn qn.length)/\(∀b,b<p.lo0->w'.heap[b]? =p.w00.heap[b]?)/\p.lo<=w'.heap.size/\w'.heap[p.gh]? =some (.cells #[.pointer (some ⟨p.hb,0,none⟩)] 63)/\(qn.length:Int)=p.o.op
def qZ.D (p:qZ)(W:aE):Prop:=∃(K' R':Pr) (w':aE) (v':fJ) (qn:List Nat),p.K1.le K'/\p.R1.le R'/\cV (SF gE) K' R' (o6 aK) p.St w' W/\Kp p.W0 R' p.St W/\Sh p.W0.heap.size (Bb p.Shun p.Wg) R' W/\p.End qn v' w'
def qZ.N (p:qZ):Nat:=p.o.op.toNat
def qZ.cx (p:qZ)(K:Pr)(eO:Nat->Prop)(SS:Nat->Prop)(R0:Pr)(Fz:Nat->Prop)(Wf:aE)(qs chs:List Nat):Cx gO:=
 {p:=aK,gs:=Cf,fs:=gE,ty:=sD.tWg,Wg:=p.Wg,A:=B6 p.N (Bo p.o p.es) p.D,Fin:=finS p.Post p.Shun p.Wg,main:=true,base:=p.base,ds:=.nil,K:=K,St:=eO,I:=yZ sD.tWg p.Wg (IQ p.W0 p.St (Bb p.Shun p.Wg) p.Wg SS R0 Fz Wf qs chs),pin:=[(8,.pointer (some ⟨p.Wg,0,none⟩))]}
theorem zIJ {N:Nat}{W:List fH}{D:aE->Prop}{Wn:aE}(h:Z8 (B6 N W D) Wn):D Wn:=by
 obtain⟨q,ch,hi,h0,hr,hd⟩:=h
 cases hi with
 |a n qs ix l _ _ _ h _ _ _=>rw[h0] at h;cases h
 |b qs ix iw k _ _ hw _ _ h _ _ _=>
  rcases h with h|⟨_,h⟩
  .exact absurd h (hr iw _)
  .exact hd iw _ h
 |c qs ix iw k i kd cl ans a _ _ _ _ _ h _ _ _ _ _=>exact absurd h (hr iw _)
variable {S:aP->Prop}{K R:Pr}{t:Array aF}
theorem bK.forget {K' R':Pr}{g:Array aF}(h:bK S K R g t):bK S K' R' (g.map cl) t:=by
 refine⟨by rw[Array.size_map];exact h.1,λi v v' h1 h2=>?_⟩;rw[yB] at h1
 cases h3:g[i]? with
 |none=>rw[h3] at h1;cases h1
 |some u=>
  rw[h3] at h1;simp only[Ao,gA] at h1;subst h1;obtain⟨c1,c2,_⟩:=cl_spec u;exact wN.vr (X:=λ_=>False) (KD:=λ_=>False) (c2 S K R v' (h.2 i u v' h3 h2)) (λp q y z=>z.elim) (λa b x e=>e.elim) c1.inX
variable {i:Nat}
theorem zzp (h:i<t.size):t.setIfInBounds i (t.getD i aA)=t:=by
 apply Array.ext_getElem?;intro j;rw[Array.getElem?_setIfInBounds];split
 .next e=>subst e;simp[h,tJ]
 .rfl
def qZ.After (p:qZ):Prop:=∀(K' R':Pr) (w':aE) (v':fJ) (qn:List Nat) (u0 u1 u2 u3 u4 u5 u6 u8 u9 gU gJ gI gH gG gM u16 iK kL kS jR iO iD iE gZ iH iC iJ iF iB jM jO u32 iG hY iN iM kT kQ iI gY iL iQ iX jD iZ iV iU iR iY iW jB mL mD lC lB kV kJ kO kM kR kE kG j5 u64 kC j9 j6 kF kZ kU kK j7:aF),p.K1.le K'->p.R1.le R'->p.End qn v' w'->BO (Fb aK Cf gE p.Post (Bb p.Shun p.Wg) p.W0 p.St K' R' p.base) () ⟨42,#[u0,u1,u2,u3,u4,u5,u6,.pointer (some ⟨p.gh,0,none⟩),u8,u9,gU,gJ,gI,gH,gG,gM,u16,iK,kL,kS,jR,iO,iD,iE,gZ,iH,iC,iJ,iF,iB,jM,jO,u32,iG,hY,iN,iM,kT,kQ,iI,gY,iL,iQ,iX,jD,iZ,iV,iU,iR,iY,iW,jB,mL,mD,lC,lB,kV,kJ,kO,kM,kR,kE,kG,j5,u64,kC,j9,j6,kF,kZ,kU,kK,j7],[.inRegion zcA [],.code (.seq Ty .ret)],false⟩ w'
variable {p:qZ}{eO SS Fz:Nat->Prop}{R0:Pr}{Wf w:aE}{qs qn:List Nat}{v:fJ}{gU gJ gI gH gG gM u16 iK kL kS jR iO iD iE gZ iH iC iJ iF iB jM jO u32 iG hY iN iM kT kQ iI gY iL iQ iX jD iZ iV iU iR iY iW jB kV kJ kO kM kR kE kG j5 u64 kC j9 j6 kF kZ kU kK j7:aF}
theorem rh_last (zhs:p.After)(Fa:∃b,p.R1 p.gh b)(hN:¬qs.length<p.N)(aY:∀a,p.St a->eO a)(vM:∀b,b<p.W0.heap.size->SS b)(hF:∀b,Fz b->SS b)(nI:p.W0.heap.size<=p.Wg)(zGm:p.R1.le R0)
 (cN:∀e:Ho,e.W=Bo p.o p.es->e.qs=qs->zcc e p.o p.es p.ln qn p.lo p.hb v w K p.A p.n p.c) (hh:w.cell? ⟨p.gh,0,none⟩=some (.pointer (some ⟨p.hb,0,none⟩))) (he:w.cell? ⟨p.ge,0,none⟩=some (.slice p.A p.n p.c))
 (tV:∀K' R τ W w' v',K.le K'->R0.le R->cV (SF gE) K' R (o6 aK) eO w' W->IQ p.W0 p.St (Bb p.Shun p.Wg) p.Wg SS R0 Fz Wf qs [] R τ W->bE w' p.lo p.hb v' (uO p.o p.es p.ln qn qn.length)->gC v' (uO p.o p.es p.ln qn qn.length)->bM p.hb v w v' w'->p.D W) {u0 u1 u2 u4 u5 u6 u9 mL mD lC lB:aF}:
 BO (p.cx K eO SS R0 Fz Wf qs []) (.mN qs) ⟨42,#[u0,u1,u2,.pointer (some ⟨p.ge,0,none⟩),u4,u5,u6,.pointer (some ⟨p.gh,0,none⟩),.nilFunc,u9,gU,gJ,gI,gH,gG,gM,u16,iK,kL,kS,jR,iO,iD,iE,gZ,iH,iC,iJ,iF,iB,jM,jO,u32,iG,hY,iN,iM,kT,kQ,iI,gY,iL,iQ,iX,jD,iZ,iV,iU,iR,iY,iW,jB,mL,mD,lC,lB,kV,kJ,kO,kM,kR,kE,kG,j5,u64,kC,j9,j6,kF,kZ,kU,kK,j7],[.code (.seq Zl (.seq Xy (.seq Zt (.seq Ty .ret))))],false⟩ w:=by
 let C:=p.cx K eO SS R0 Fz Wf qs []
 have hI:fG C:=zjE (C:=C) rfl aY vM hF nI;have hX:=zfk (ty:=sD.tWg) (St:=p.St) (Shun:=Bb p.Shun p.Wg) (R0:=R0) (Fz:=Fz) (Wf:=Wf) (qs:=qs) (chs:=[]) vM hF nI;show BO C _ _ _;refine BO.seq hI ?_;rw[zA1];refine BO.regs hI _ zD5 ?_;refine BO.add (C:=C) (Lk:=sD) (s:=8) (nx:=.mW qs) zaZ rfl rfl rfl hI rfl hX zD9 rfl rfl (sZ.2 rfl) (by intro s hs;cases hs;show(69:Nat)∉([8]:List Nat);decide) (by show eT p.N (Bo p.o p.es) (.mN qs)=_;simp[eT,hN]) ?_;simp only[cC,gK,dU,dV];refine BO.regEnd hI ?_;refine BO.seq hI ?_;rw[zHu];refine BO.regs hI _ zAL ?_;refine BO.go (C:=C) rfl hI zFZ zIn rfl rfl rfl rfl rfl rfl (lc:=.wk qs 0) (nx:=.mZ) (pub:=[]) rfl aO λR W t τ hw ha Dp ht hi=>?_;have hw:cV (SF gE) K R (o6 aK) eO w W:=hw;have hi:yZ sD.tWg p.Wg (IQ p.W0 p.St (Bb p.Shun p.Wg) p.Wg SS R0 Fz Wf qs []) R τ W:=hi;obtain⟨hi,mU⟩:=hi;have h8:t.getD 8 aA=.pointer (some ⟨p.Wg,0,none⟩):=Dp (8,.pointer (some ⟨p.Wg,0,none⟩)) (sZ.2 rfl);have V8:R0.le R:=hi.x.x.le;have ha:bK (SF gE) K R #[u0,u1,u2,.pointer (some ⟨p.ge,0,none⟩),u4,u5,u6,.pointer (some ⟨p.gh,0,none⟩),.nilFunc,u9,gU,gJ,gI,gH,gG,gM,u16,iK,kL,kS,jR,iO,iD,iE,gZ,iH,iC,iJ,iF,iB,jM,jO,u32,iG,hY,iN,iM,kT,kQ,iI,gY,iL,iQ,iX,jD,iZ,iV,iU,iR,iY,iW,jB,mL,mD,lC,lB,kV,kJ,kO,kM,kR,kE,kG,j5,u64,kC,j9,j6,kF,.tuple #[],kU,kK,j7] t:=ha;have cG:t.size=73:=ha.1.symm;obtain⟨zAa,qX⟩:=Fa;have h7:t.getD 7 aA=.pointer (some ⟨zAa,0,none⟩):=by
  have h1:VR (SF gE) K R (.pointer (some ⟨p.gh,0,none⟩)) (t.getD 7 aA):=ha.getD 7 (xN (S:=SF gE) (K:=K) (R:=R));generalize t.getD 7 aA=t7 at h1
  cases h1 with
  |pointer y=>cases y with|some y=>cases y with|mk y=>rw[hw.inj _ _ _ (.inl y) (.inl (V8 _ _ (zGm _ _ qX)))]
 refine⟨tauWm τ,τ,parts_w hi,?_,?_⟩
 .rw[zEi]
  refine zza (Lk:=sD) (s:=8) (ops:=zcA) (o:=oRH24_0) zaZ rfl (λn g w h=>zBd n g w h) rfl rfl rfl ?_ mU λWn d hD=>?_
  .show(t.setIfInBounds 70 _).getD 8 aA=.pointer (some ⟨p.Wg,0,none⟩)
   rw[<-h8];simp only[tJ,jV (show(70:Nat)≠8 by decide)]
  .obtain⟨K',R',w',v',zd7,k1,k2,k3,k4,k5,k6⟩:=zIJ hD
   have zAm:=zhs K' R' w' v' zd7 (cl (u0)) (cl (u1)) (cl (u2)) (cl (.pointer (some ⟨p.ge,0,none⟩))) (cl (u4)) (cl (u5)) (cl (u6)) (cl (.nilFunc)) (cl (u9)) (cl (gU)) (cl (gJ)) (cl (gI)) (cl (gH)) (cl (gG)) (cl (gM)) (cl (u16)) (cl (iK)) (cl (kL)) (cl (kS)) (cl (jR)) (cl (iO)) (cl (iD)) (cl (iE)) (cl (gZ)) (cl (iH)) (cl (iC)) (cl (iJ)) (cl (iF)) (cl (iB)) (cl (jM)) (cl (jO)) (cl (u32)) (cl (iG)) (cl (hY)) (cl (iN)) (cl (iM)) (cl (kT)) (cl (kQ)) (cl (iI)) (cl (gY)) (cl (iL)) (cl (iQ)) (cl (iX)) (cl (jD)) (cl (iZ)) (cl (iV)) (cl (iU)) (cl (iR)) (cl (iY)) (cl (iW)) (cl (jB)) (cl (mL)) (cl (mD)) (cl (lC)) (cl (lB)) (cl (kV)) (cl (kJ)) (cl (kO)) (cl (kM)) (cl (kR)) (cl (kE)) (cl (kG)) (cl (j5)) (cl (u64)) (cl (kC)) (cl (j9)) (cl (j6)) (cl (kF)) (cl (.tuple #[])) .nilFunc (.tuple #[]) (cl (j7)) k1 k2 k6;have h1:=(bK.forget (K':=K') (R':=R') ha).set 7 (v:=.pointer (some ⟨p.gh,0,none⟩)) (v':=t.getD 7 aA) (by rw[h7];exact .pointer (.some (.mk (k2 _ _ qX))));rw[zzp aC] at h1;simp only[uI,fO,tW,gK,dU,dV] at h1;have h1:=(h1.set 70 (.junk (v':=(.func (.func 57) #[] ((#[.tmp 8,.tmp 7,.tmp 3]:Array cM).map (bH t C.ds.ds).eval))) Vo)).set 71 (v:=.tuple #[]) (v':=.tuple #[]) (.tuple rfl λi v v' h=>by simp at h);simp only[gK,dU,dV] at h1;have nY:=BO.aloneIn (W:=Wn.at d) (m':=⟨42,(cC ⟨t.setIfInBounds 70 (.func (.func 57) #[] ((#[.tmp 8,.tmp 7,.tmp 3]:Array cM).map (bH t C.ds.ds).eval)),[]⟩ (some 71) (.tuple #[])).tmps,[.inRegion zcA [],.code (.seq Ty .ret)],false⟩) zAm (cV.at k3 d) ⟨rfl,rfl,rfl,h1,λx lK=>by cases lK⟩ ⟨k5.old,k5.rel,k5.new⟩ ⟨k4.os,k4.tape,k4.output,k4.size,k4.block,k4.old⟩;have e:=mG .nil 42 (cC ⟨t.setIfInBounds 70 (.func (.func 57) #[] ((#[.tmp 8,.tmp 7,.tmp 3]:Array cM).map (bH t C.ds.ds).eval)),[]⟩ (some 71) (.tuple #[])).tmps [.inRegion zcA [],.code (.seq Ty .ret)];rw[G9] at e;rw[e] at nY;exact nY
 .let e:Ho:=⟨sD.tWg,p.Wg,p.N,Bo p.o p.es,p.D,finS p.Post p.Shun p.Wg,eO,p.W0,p.St,Bb p.Shun p.Wg,SS,R0,Fz,Wf,qs⟩
  have H:e.d.Ok:=⟨aY,vM,hF,nI,mX⟩;simp only[uI,fO,tW,wF];exact wk_born (e:=e) H rfl (Q:=λR'=>R0.le R') (λR R' h h'=>h'.trans h) V8 hw ht hi mU (cN e rfl rfl) hh he ha rfl rfl h8 (λK' R τ W w' v'=>tV K' R τ W w' v')
variable {wB w':aE}{c gq:Nat}{A:Option bL}{o:jG}{es:List dD}{ln:List Nat}
theorem oG.but {lo go ge n hb gh:Nat}(h:oG wB lo go ge n c A o es hb gh ln qn v w)(hs:w'.heap.size=w.heap.size)(Bd:lo<=gq)(Ai:gq≠gh)(zbR:some gq∉parts v hb)(k:∀b,b≠gq->w'.heap[b]? =w.heap[b]?):oG wB lo go ge n c A o es hb gh ln qn v w':=
 ⟨h.e.keep aC λb hb=>k b aC,h.at_.keep λb _ hp=>k b λe=>zbR (e▸hp),h.mp,h.nd,λx hx=>by rw[hs];exact h.lt x hx,(k _ (Ne.symm Ai)).trans h.bh,h.nh,h.ghl⟩
variable {Tf:Array aF}
theorem al17 :(aS (bH Tf []).eval zpF).run aK w=.ok (.value (.pointer (some ⟨w.heap.size,0,none⟩))) (w.alloc (.cells #[.chan none] 95)):=by
 unfold aS;go_simp
theorem st17 {V:Nat->aF}{gc:Nat}(hT:xI Tf V)(e1:V 9=.pointer (some ⟨gq,0,none⟩))(e2:V 55=.chan (some gc))(hh:w.cell? ⟨gq,0,none⟩=some (.chan none))(hf:w.frozen? ⟨gq,0,none⟩=false){T:jW}:(aS (bH Tf []).eval zoD).run aK (Tt.tp w T 0)=.ok .skip (Tt.tp (w.setCell ⟨gq,0,none⟩ (.chan (some gc))) T 0):=by
 have zfO:(Tt.tp w T 0).cell? ⟨gq,0,none⟩=some (.chan none):=hh;have Az:(Tt.tp w T 0).frozen? ⟨gq,0,none⟩=false:=hf;clear hh hf;unfold aS;go_simp
 try rfl
def zbT:Go.Code:=.seq zk3 (.seq (.cond (.tmp 54) .skip (.exit 4)) (.seq (.block 5 (.seq zbF (.seq Pt (.seq So Qy)))) zl2))
def zmB:Go.Code:=.seq Zl (.seq Xy (.seq Zt (.seq Ty .ret)))
def qZ.ok {chs:List Nat}(aY:∀a,p.St a->eO a)(vM:∀b,b<p.W0.heap.size->SS b)(hF:∀b,Fz b->SS b)(nI:p.W0.heap.size<=p.Wg):fG (p.cx K eO SS R0 Fz Wf qs chs):=zjE (C:=p.cx K eO SS R0 Fz Wf qs chs) rfl aY vM hF nI
structure Cq (p:qZ)(wB:aE)(K:Pr)(eO SS:Nat->Prop)(R0:Pr)(Fz:Nat->Prop)(Wf:aE)(Xa:Nat->Prop)(qs qn:List Nat)(v:fJ)(w:aE):Prop where
 K1:p.K1.le K
 R1:p.R1.le R0
 st:∀a,p.St a->eO a
 ss:∀b,b<p.W0.heap.size->SS b
 F:∀b,Fz b->SS b
 th:Jy p.w00 K R0 p.St eO Fz Wf Xa
 fz:∀b,Fz b->∃a,R0 a b/\eO a
 xt:∀a,xT a=true->eO a
 xa:∀a,Xa a->xT a=true\/(p.lo<=a/\a<w.heap.size/\a≠p.gh/\some a∉parts v p.hb)
 lq:qs.length=qn.length
 kq:∀(i g:Nat),qn[i]? =some g->K g (qa qs i)
 h:oG wB p.lo p.go p.ge p.n p.c p.A p.o p.es p.hb p.gh p.ln qn v w
structure zas (p:qZ)(wB:aE):Prop where
 after:p.After
 gh:∃b,p.R1 p.gh b
 ok:jP p.o p.es=true
 low:p.W0.heap.size<=p.Wg
 lo0:p.lo0<=p.lo
 tb:Gf wB
 tl:∀a,xT a=true->a<p.lo0
 wB:∀b,b<p.lo0->xT b=false->wB.heap[b]? =p.w00.heap[b]?
 ln:(p.ln.length:Int)=p.o.ln
variable {W:aE}{Xa:Nat->Prop}
theorem op_dep (H:zas p wB)(I:Cq p wB K eO SS R0 Fz Wf Xa qs qn v w)(Uw:(qn.length:Int)=p.o.op){K':Pr}{τ:cF}{v':fJ}(hK:K.le K')(hR:R0.le R)(hw:cV (SF gE) K' R (o6 aK) eO w' W)(hi:IQ p.W0 p.St (Bb p.Shun p.Wg) p.Wg SS R0 Fz Wf qs [] R τ W)
 (hA:bE w' p.lo p.hb v' (uO p.o p.es p.ln qn qn.length)) (hT:bM p.hb v w v' w'):p.D W:=by
 obtain⟨wn,t1,t2,t3,t4⟩:=I.th K' R w' W hK hR hw (λb hb=>(hi.x.x.fz b hb).2.1);have dW:=I.h.e.lo_;have zJk:∀b,b<p.lo->xT b=false->¬Xa b:=λb hb hx h=>by
  rcases I.xa b h with h|⟨h,_⟩
  .rw[h] at hx;cases hx
  .omega
 have zvG:∀b,p.lo<=b->xT b=false:=λb hb=>by
  cases e:xT b with
  |false=>rfl
  |true=>have:=H.tl b e;have:=H.lo0;omega
 refine⟨K',R,wn,v',qn,wD I.K1 hK,I.R1.trans hR,t1,hi.x.x.im.kp,hi.x.x.im.sh,hA.keep λb _ hp=>t3 b λhx=>?_,λb hb=>?_,by have:=hT.size;omega,?_,Uw⟩
 .have zHL:=(hA.lt b hp).1
  rcases I.xa b hx with h|⟨_,h2,_,h4⟩
  .rw[zvG b zHL] at h;cases h
  .rcases hT.moved b hp with hm|hm
   .exact h4 hm
   .omega
 .cases e:xT b with
  |true=>exact t4 b e
  |false=>
   have b6:=lD hb H.lo0;rw[t3 b (zJk b b6 e),hT.block b aC (λhp=>by have:=(I.h.at_.lt b hp).1;omega),I.h.e.old b b6,H.wB b hb e]
 .rw[t3 p.gh λhx=>?_]
  .exact(I.h.at_.turned hT I.h.bh I.h.nh).1
  .rcases I.xa _ hx with h|⟨_,_,h3,_⟩
   .rw[zvG _ I.h.ghl] at h;cases h
   .exact h3 rfl
theorem op_pre (H:zas p wB)(I:Cq p wB K eO SS R0 Fz Wf Xa qs qn v w)(Uw:(qn.length:Int)=p.o.op)(e:Ho)(he:e.W=Bo p.o p.es)(hq:e.qs=qs):zcc e p.o p.es p.ln qn p.lo p.hb v w K p.A p.n p.c:=
 ⟨H.ok,he,I.h.at_,I.h.mr,I.h.nd,H.ln,Uw,by rw[hq];exact I.lq,I.h.e.lo_,I.h.e.tab,I.h.e.ev,by rw[hq];exact I.kq⟩
def und_chq:aK.underlying 95=some (.chan .both 124):=aQ
def zGh:∃ie,aK.info? 124=some ie:=Option.isSome_iff_exists.1 aQ
theorem zzX (h:i<qs.length):qa (qs++[c]) i=qa qs i:=by simp[qa,Lj,Ab h]
theorem qa_snoc :qa (qs++[c]) qs.length=c:=by simp[qa,Lj]
theorem rh_go (H:zas p wB){gc cr j:Nat}(I:Cq p wB K eO SS R0 Fz Wf Xa qs qn v w)(hN:qs.length<p.N)(zL3:j=qn.length)(zck:K gc cr)
 (Bd:w.heap[gq]? =some (.cells #[.chan (some gc)] 95)) (zaD:p.lo<=gq) (Fa:gq≠p.gh) (zac:some gq∉parts v p.hb) {kk:List eE}
 (zcZ:∀(zcu zcg:Nat->Prop) (zb0:Pr) (zae:Nat->Prop) (zbL:aE) (zkv:Nat->Prop) (v':fJ) (w':aE) u0 u1 u4 u5 u6 gU gJ gI gH gG gM u16 iK kL kS jR iO iD iE gZ iH iC iJ iF iB jM jO u32 iG hY iN iM kT kQ iI gY iL iQ iX jD iZ iV iU iR iY iW jB kV kJ kO kM kR kE kG j5 u64 kC j6 kF kZ kU kK j7 u9 lC lB j9,Cq p wB K zcu zcg zb0 zae zbL zkv (qs++[cr]) (qn++[gc]) v' w'->BO (p.cx K zcu zcg zb0 zae zbL (qs++[cr]) []) (.mN (qs++[cr])) ⟨42,#[u0,u1,.pointer (some ⟨p.go,0,none⟩),.pointer (some ⟨p.ge,0,none⟩),u4,u5,u6,.pointer (some ⟨p.gh,0,none⟩),.nilFunc,u9,gU,gJ,gI,gH,gG,gM,u16,iK,kL,kS,jR,iO,iD,iE,gZ,iH,iC,iJ,iF,iB,jM,jO,u32,iG,hY,iN,iM,kT,kQ,iI,gY,iL,iQ,iX,jD,iZ,iV,iU,iR,iY,iW,jB,.int .i64 p.o.op,.int .i64 j,lC,lB,kV,kJ,kO,kM,kR,kE,kG,j5,u64,kC,j9,j6,kF,kZ,kU,kK,j7],kk,false⟩ w')
 {u0 u1 u4 u5 u6:aF}:
 BO (p.cx K eO SS R0 Fz Wf qs [cr]) (.mA qs cr) ⟨42,#[u0,u1,.pointer (some ⟨p.go,0,none⟩),.pointer (some ⟨p.ge,0,none⟩),u4,u5,u6,.pointer (some ⟨p.gh,0,none⟩),.nilFunc,.pointer (some ⟨gq,0,none⟩),gU,gJ,gI,gH,gG,gM,u16,iK,kL,kS,jR,iO,iD,iE,gZ,iH,iC,iJ,iF,iB,jM,jO,u32,iG,hY,iN,iM,kT,kQ,iI,gY,iL,iQ,iX,jD,iZ,iV,iU,iR,iY,iW,jB,.int .i64 p.o.op,.int .i64 j,.bool true,.chan (some gc),kV,kJ,kO,kM,kR,kE,kG,j5,u64,kC,j9,j6,kF,kZ,kU,kK,j7],[.code (.seq Pt (.seq So Qy))]++kk,false⟩ w:=by
 let C:=p.cx K eO SS R0 Fz Wf qs [cr]
 have hI:fG C:=qZ.ok I.st I.ss I.F H.low;have hX:=zfk (ty:=sD.tWg) (St:=p.St) (Shun:=Bb p.Shun p.Wg) (R0:=R0) (Fz:=Fz) (Wf:=Wf) (qs:=qs) (chs:=[cr]) I.ss I.F H.low;show BO C _ ⟨_,_,.code (.seq Pt (.seq So Qy))::kk,false⟩ _;have rW:qJ p.o=true:=by
  have:=H.ok;unfold jP at this;simp only[fU] at this;exact this.1.1
 unfold qJ at rW;have rW:=of_decide_eq_true rW;have zKR:p.N<=4:=by unfold qZ.N;omega
 refine BO.seq hI ?_;refine cw_RQ (C:=C) (l:=.mA qs cr) (c:=⟨p.lo,p.hb,p.gh,gq,gc,v,w,v,⟨mP p.o,p.ln,qn,[]⟩⟩) hI rfl rfl rfl mX (λi o s h1 h2 h3=>?_) (by show qn.length<=1000;have:=I.lq;omega) I.h.nh zac rfl rfl rfl (λvs C' l' w' tT hS=>?_) ⟨rfl,rfl,λ_=>⟨aJ I.h.at_.blk 6,I.h.bh,Bd⟩,⟨I.h.at_,bM.refl,I.h.e.lo_⟩⟩
 .obtain rfl:s=8:=sZ.1 h3
  have hm:some 8∈oL.toList.map (·.dst):=List.mem_map.2 ⟨o,dZ (by rw[Aw];exact h1),h2⟩;rw[zoI] at hm;simp at hm
 rw[Go.Mt.Al,zoI];simp only[Go.Mt.wL,dU,dV];obtain⟨rfl,rfl,_,h4⟩:=hS;have s4:WH.RQ2 ⟨p.lo,p.hb,p.gh,gq,gc,v,w,v,⟨mP p.o,p.ln,qn,[]⟩⟩ gc w':=by
  rcases vs with _|⟨b,_|⟨x,_|⟨y,vs⟩⟩⟩
  .cases tT
  .cases tT
  .cases tT
  .exact h4
 obtain⟨v2,a2,t2,mp⟩:=s4;have Jv:oG wB p.lo p.go p.ge p.n p.c p.A p.o p.es p.hb p.gh p.ln (qn++[gc]) v2 w':=I.h.turn t2 a2 mp I.h.nd λx hx=>lD (I.h.lt x hx) t2.size;obtain⟨zkJ,zvx⟩:=I.h.at_.turned t2 Bd zac;have HR:=aD Jv;have T2:=aD t2;clear Jv a2 mp h4 tT;refine BO.regEnd hI ?_;refine BO.seq hI ?_;rw[zHq];refine BO.regs hI _ zzo ?_;refine BO.add (C:=C) (Lk:=sD) (s:=8) (nx:=.mS qs cr) zaZ rfl rfl rfl hI rfl hX zAA rfl rfl (sZ.2 rfl) (by intro s hs;cases hs;show(66:Nat)∉([8]:List Nat);decide) rfl ?_;simp only[cC,gK,dU,dV];refine BO.regEnd hI ?_;rw[zDP];refine BO.regs hI _ zFE ?_;refine BO.go (C:=C) rfl hI zBs zEP rfl rfl rfl rfl rfl rfl (lc:=.op cr 0 (nX (Bo p.o p.es) 0 qs.length)) (nx:=.mN (qs++[cr])) (pub:=[cr]) rfl aO λR W t τ hw ha Dp ht hi=>?_;have hw:cV (SF gE) K R (o6 aK) eO w' W:=hw;have hi:yZ sD.tWg p.Wg (IQ p.W0 p.St (Bb p.Shun p.Wg) p.Wg SS R0 Fz Wf qs [cr]) R τ W:=hi;obtain⟨hi,mU⟩:=hi;have h8:t.getD 8 aA=.pointer (some ⟨p.Wg,0,none⟩):=Dp (8,.pointer (some ⟨p.Wg,0,none⟩)) (sZ.2 rfl);have cG:t.size=73:=ha.1.symm;have dG:∀a,¬R a cr:=(hi.x.ch cr (sZ.2 rfl)).2.2;have Db:Gf w':=λg hg=>by
  have:=H.tl g hg;have:=H.lo0;rw[HR.o.e.old g aC];exact H.tb g hg
 have zCp:∃b,R gq b:=by
  have h1:VR (SF gE) K R (.pointer (some ⟨gq,0,none⟩)) (t.getD 9 aA):=ha.getD 9 (xN (S:=SF gE) (K:=K) (R:=R));generalize t.getD 9 aA=t9 at h1
  cases h1 with
  |pointer y=>cases y with|some y=>cases y with|mk y=>exact⟨_,y⟩
 have hx:XOk R (xQ gq) w':=⟨λa h=>by
  rcases zbu h with rfl|h
  .exact zCp
  .exact⟨a,hw.tb a h⟩,λa h=>by
  rcases zbu h with rfl|h
  .exact⟨_,_,_,zkJ⟩
  .obtain⟨c,T,fz,hc,_⟩:=Db a h;exact⟨c,T,fz,hc⟩⟩
 have V8:R0.le R:=hi.x.x.le;have fQ:=zoh hw hx;have zCK:∀b,b≠gq->(uF (xQ gq) w').heap[b]? =w'.heap[b]? :=λb hb=>zHM λh=>by
  rcases zbu h with h|h
  .exact absurd h hb
  .exact(hw.st b (I.xt b h)).2
 have zzE:=zEc (X:=xQ gq) (qs:=qs) hw ht dG;have zi1:=iq_qm (X:=xQ gq) hw ht hi;refine⟨Ll τ R (xQ gq) cr qs,Ze τ R (xQ gq),parts_q ht hi,?_,?_⟩
 .have J:Cq p wB K (λa=>eO a\/xQ gq a=true) (Ll τ R (xQ gq) cr qs).still R (Gc R eO (xQ gq)) W (λa=>Xa a\/xQ gq a=true) (qs++[cr]) (qn++[gc]) v2 (uF (xQ gq) w'):=by
   refine⟨I.K1,I.R1.trans V8,λa h=>.inl (I.st a h),λb hb=>.inl (by rw[hi.x.x.im.still];exact I.ss b hb),λb hb=>?_,I.th.step (wP K) V8 hw hx (λb hb=>⟨(hi.x.x.fz b hb).2.1,let⟨a,x,y⟩:=I.fz b hb;⟨a,V8 _ _ x,y⟩⟩),λb hb=>hb,λa h=>.inl (I.xt a h),λa h=>?_,by rw[gN,gN,I.lq];rfl,λi g hg=>?_,HR.o.but (Tz _ _) zaD Fa zvx zCK⟩
   .obtain⟨a,x,h⟩:=hb
    rcases h with h|h
    .exact .inl ((ht a b x).1 h)
    .exact .inr ⟨a,x,h⟩
   .rw[Tz]
    rcases h with h|h
    .rcases I.xa a h with h|⟨h1,h2,h3,h4⟩
     .exact .inl h
     .exact .inr ⟨h1,lD h2 T2.o.size,h3,λhp=>(T2.o.moved a hp).elim h4 λx=>absurd h2 (Nat.not_lt.2 x)⟩
    .rcases zbu h with rfl|h
     .exact .inr ⟨zaD,fP zkJ,Fa,zvx⟩
     .exact .inl h
   .rcases nC i qn.length with aN|Aq
    .rw[Ab aN] at hg
     rw[zzX (by rw[I.lq];exact aN)];exact I.kq i g hg
    .obtain rfl:i=qn.length:=by
      have:=(kD.1 hg).1;simp at this;omega
     simp at hg;subst hg;rw[<-I.lq,qa_snoc];exact zck
  have Gy:fG (p.cx K (λa=>eO a\/xQ gq a=true) (Ll τ R (xQ gq) cr qs).still R (Gc R eO (xQ gq)) W (qs++[cr]) []):=qZ.ok J.st J.ss J.F H.low;have h1:=ha.set 67 (.junk (v':=(.func (.func 54) #[] ((#[.tmp 8,.tmp 9]:Array cM).map (bH t C.ds.ds).eval))) Vo);simp only[gK,dU,dV] at h1;have fin:∀(G1:Array aF),bK (SF gE) K R G1 (t.setIfInBounds 67 (.func (.func 54) #[] ((#[.tmp 8,.tmp 9]:Array cM).map (bH t C.ds.ds).eval)))->BO (p.cx K (λa=>eO a\/xQ gq a=true) (Ll τ R (xQ gq) cr qs).still R (Gc R eO (xQ gq)) W (qs++[cr]) []) (.mN (qs++[cr])) ⟨42,G1,.inRegion O8 []::kk,false⟩ (uF (xQ gq) w')->bZ C.p C.ty C.Wg C.A C.Fin C.main (.usr (.mN (qs++[cr]))) 0 (Ll τ R (xQ gq) cr qs) (G ((C.ds.base 42).at ⟨t.setIfInBounds 67 (.func (.func 54) #[] ((#[.tmp 8,.tmp 9]:Array cM).map (bH t C.ds.ds).eval)),C.ds.ds⟩ (.inRegion O8 []::kk)) C.base) W:=λG1 h1 hB=>by
   have hm:=hB R W ⟨42,t.setIfInBounds 67 (.func (.func 54) #[] ((#[.tmp 8,.tmp 9]:Array cM).map (bH t C.ds.ds).eval)),.inRegion O8 []::kk,false⟩ (Ll τ R (xQ gq) cr qs) fQ ⟨rfl,rfl,rfl,h1,λx lK=>?_⟩ zzE ⟨zi1,mU⟩
   .rw[Cx.B_none rfl,mG] at hm
    exact hm
   .obtain rfl:=sZ.1 lK
    show(t.setIfInBounds 67 _).getD 8 aA=_;rw[<-h8];simp only[tJ,jV (show(67:Nat)≠8 by decide)]
  exact fin _ h1 (BO.regEnd (ops:=O8) Gy (zcZ _ _ _ _ _ _ v2 (uF (xQ gq) w') _ _ _ _ _ _ _ _ _ _ _ _ _ _ _ _ _ _ _ _ _ _ _ _ _ _ _ _ _ _ _ _ _ _ _ _ _ _ _ _ _ _ _ _ _ _ _ _ _ _ _ _ _ _ _ _ _ _ _ _ _ _ _ _ _ _ _ J))
 .simp only[uI,fO,tW,wF]
  exact op_born hw hx zck dG zkJ Db ha rfl h8 hi.x.x.im.wg hi.x.x.im.rel mU
variable {St:Nat->Prop}
def Jy.mono {w00:aE}{K2:Pr}(h:Jy w00 K R St eO Fz Wf Xa)(hK:K.le K2):Jy w00 K2 R St eO Fz Wf Xa:=λK' R' wn Wn a b c d=>h K' R' wn Wn (wD hK a) b c d
def Cq.tp (I:Cq p wB K eO SS R0 Fz Wf Xa qs qn v w)(T:jW)(n:Nat):Cq p wB K eO SS R0 Fz Wf Xa qs qn v (Tt.tp w T n):=⟨I.K1,I.R1,I.st,I.ss,I.F,I.th,I.fz,I.xt,I.xa,I.lq,I.kq,I.h.tp T n⟩
theorem rh_ops (H:zas p wB):∀(m j:Nat),((j+m:Nat):Int)=p.o.op->∀(K:Pr) (eO SS:Nat->Prop) (R0:Pr) (Fz:Nat->Prop) (Wf:aE) (Xa:Nat->Prop) (qs qn:List Nat) (v:fJ) (w:aE) (u0 u1 u4 u5 u6 u9 gU gJ gI gH gG gM u16 iK kL kS jR iO iD iE gZ iH iC iJ iF iB jM jO u32 iG hY iN iM kT kQ iI gY iL iQ iX jD iZ iV iU iR iY iW jB lC lB kV kJ kO kM kR kE kG j5 u64 kC j9 j6 kF kZ kU kK j7:aF),Cq p wB K eO SS R0 Fz Wf Xa qs qn v w->qn.length=j->
 BO (p.cx K eO SS R0 Fz Wf qs []) (.mN qs) ⟨42,#[u0,u1,.pointer (some ⟨p.go,0,none⟩),.pointer (some ⟨p.ge,0,none⟩),u4,u5,u6,.pointer (some ⟨p.gh,0,none⟩),.nilFunc,u9,gU,gJ,gI,gH,gG,gM,u16,iK,kL,kS,jR,iO,iD,iE,gZ,iH,iC,iJ,iF,iB,jM,jO,u32,iG,hY,iN,iM,kT,kQ,iI,gY,iL,iQ,iX,jD,iZ,iV,iU,iR,iY,iW,jB,.int .i64 p.o.op,.int .i64 j,lC,lB,kV,kJ,kO,kM,kR,kE,kG,j5,u64,kC,j9,j6,kF,kZ,kU,kK,j7],[.code zbT,.inLoop zbT,.inBlock 4,.code zmB],false⟩ w:=by
 have rW:qJ p.o=true:=by
  have:=H.ok;unfold jP at this;simp only[fU] at this;exact this.1.1
 unfold qJ at rW;have rW:=of_decide_eq_true rW;have h4:p.o.op<=4:=rW.2.2.2.1;clear rW;intro m
 induction m with
 |zero=>
  intro j hj K eO SS R0 Fz Wf Xa qs qn v w u0 u1 u4 u5 u6 u9 gU gJ gI gH gG gM u16 iK kL kS jR iO iD iE gZ iH iC iJ iF iB jM jO u32 iG hY iN iM kT kQ iI gY iL iQ iX jD iZ iV iU iR iY iW jB lC lB kV kJ kO kM kR kE kG j5 u64 kC j9 j6 kF kZ kU kK j7 I hl;have hI:fG (p.cx K eO SS R0 Fz Wf qs []):=qZ.ok I.st I.ss I.F H.low;have zkP:(j:Int)=p.o.op:=by simpa using hj
  have Gm:¬(j:Int)<p.o.op:=aC;have HI:=aD I;have HJ:=aD zkP;clear I hj zkP;unfold zbT;refine BO.seq hI ?_;refine BO.pV mX hI tX (λw1 T1 fA Q' cZ=>?_);have Ra:=aD (show Cq p wB K eO SS R0 Fz Wf Xa qs qn v w1 by rw[fA];exact HI.o.tp T1 0);clear HI
  try dsimp only
  clear fA;go_wp2;refine cZ.o _ _ ?_;clear cZ;refine BO.seq hI ?_;refine BO.cond hI (t:=false) rfl rfl ?_;refine BO.exit hI (k':=[.code zmB]) rfl ?_;have I:=Ra.o;have zkP:=HJ.o;have zAc:=I.lq;refine rh_last H.after H.gh (by unfold qZ.N;omega) I.st I.ss I.F H.low I.R1 (op_pre H I aC) (aJ I.h.bh 0) (aJ I.h.e.be 0) (λK' R τ W w' v' hK hR hw hi hA hm hT=>op_dep H I aC hK hR hw hi hA hT)
 |succ m ih=>
  intro j hj K eO SS R0 Fz Wf Xa qs qn v w u0 u1 u4 u5 u6 u9 gU gJ gI gH gG gM u16 iK kL kS jR iO iD iE gZ iH iC iJ iF iB jM jO u32 iG hY iN iM kT kQ iI gY iL iQ iX jD iZ iV iU iR iY iW jB lC lB kV kJ kO kM kR kE kG j5 u64 kC j9 j6 kF kZ kU kK j7 I hl;have hI:fG (p.cx K eO SS R0 Fz Wf qs []):=qZ.ok I.st I.ss I.F H.low;have Gm:(j:Int)<p.o.op:=aC;have HI:=aD I;have HJ:=aD hj;clear I hj;unfold zbT;refine BO.seq hI ?_;refine BO.pV mX hI tX (λw1 T1 fA Q' cZ=>?_);have Ra:=aD (show Cq p wB K eO SS R0 Fz Wf Xa qs qn v w1 by rw[fA];exact HI.o.tp T1 0);clear HI
  try dsimp only
  clear fA;go_wp2;refine cZ.o _ _ ?_;clear cZ;refine BO.seq hI ?_;refine BO.cond hI (t:=true) rfl rfl ?_;refine BO.skip hI ?_;refine BO.seq hI ?_;refine BO.block hI ?_;refine BO.seq hI ?_;have I:=Ra.o;have zAc:=I.lq;have ztJ:qs.length<p.N:=by unfold qZ.N;omega
  rw[zDn];refine BO.regs hI _ zCT ?_;obtain⟨ie,jY⟩:=zGh;refine BO.makeK hI zBi rfl rfl und_chq jY (by intro s hs;cases hs;show(55:Nat)∉([8]:List Nat);decide) (I':=λc=>yZ sD.tWg p.Wg (IQ p.W0 p.St (Bb p.Shun p.Wg) p.Wg SS R0 Fz Wf qs [c])) (λR τ W hi ht aN=>?_) (λcr=>?_)
  .have hi:yZ sD.tWg p.Wg (IQ p.W0 p.St (Bb p.Shun p.Wg) p.Wg SS R0 Fz Wf qs []) R τ W:=hi
   refine⟨zse hi.1 aN,?_⟩;obtain⟨st,sm,hx⟩:=hi.2;have lK:W.heap[p.Wg]? =some _:=hx;exact⟨st,sm,(Fs (dP.1 lK).1).trans lK⟩
  simp only[cC,gK,dU,dV];show BO (p.cx (K.add w1.heap.size cr) eO SS R0 Fz Wf qs [cr]) (.mN qs) _ _;refine BO.note (can:=λl'=>∃a,l'=.mA qs a) rfl (by show eT p.N (Bo p.o p.es) (.mN qs)=_;simp[eT,ztJ]) ⟨cr,rfl⟩ ?_;have J3:fG (p.cx (K.add w1.heap.size cr) eO SS R0 Fz Wf qs [cr]):=qZ.ok I.st I.ss I.F H.low;have lO:=aD (show oG wB p.lo p.go p.ge p.n p.c p.A p.o p.es p.hb p.gh p.ln qn v (w1.alloc oY) from I.h.below (dN (eF _ _) _));obtain⟨gc,Tu⟩:=aU w1.heap.size;have zw:(w1.alloc oY).heap.size=gc+1:=by rw[rE,Tu]
  rw[<-Tu];obtain⟨w2,fZ⟩:=aU (w1.alloc oY);rw[<-fZ] at lO zw⊢;have Gy:fG (p.cx (K.add gc cr) eO SS R0 Fz Wf qs [cr]):=qZ.ok I.st I.ss I.F H.low;refine BO.op mX Gy zFh rfl aQ (by intro s hs;cases hs;show(9:Nat)∉([8]:List Nat);decide) (λT=>⟨_,_,.inl al17,?_⟩);simp only[cC,gK,dU,dV];obtain⟨gq,Bd⟩:=aU ((Tt.tp w2 T 0).heap.size);have zBZ:gq=gc+1:=by rw[Bd];exact zw
  have lG:=aD (show oG wB p.lo p.go p.ge p.n p.c p.A p.o p.es p.hb p.gh p.ln qn v ((Tt.tp w2 T 0).alloc (.cells #[.chan none] 95)) from(lO.o.tp T 0).below (dN (eF _ _) _));have KB:=aD (show((Tt.tp w2 T 0).alloc (.cells #[.chan none] 95)).heap[gq]? =some (.cells #[.chan none] 95) by rw[Bd];exact Ex _ _);have z3:((Tt.tp w2 T 0).alloc (.cells #[.chan none] 95)).heap.size=gc+2:=by rw[rE,<-Bd,zBZ]
  have zaD:p.lo<=gq:=by have:=lO.o.e.lo_;omega
  have Fa:gq≠p.gh:=by
   intro e;have:=fP I.h.bh;omega
  have zac:some gq∉parts v p.hb:=λhp=>by have:=(I.h.at_.lt gq hp).2;omega
  rw[<-Bd];clear Bd;obtain⟨w3,iT⟩:=aU ((Tt.tp w2 T 0).alloc (.cells #[.chan none] 95));rw[<-iT] at lG KB z3⊢;clear iT lO zw fZ;refine BO.op mX Gy zB0 rfl aQ zkS (λT2=>⟨aA,Tt.tp (w3.setCell ⟨gq,0,none⟩ (.chan (some gc))) T2 0,.inr ⟨st17 (V:=λs=>(#[u0,u1,.pointer (some ⟨p.go,0,none⟩),.pointer (some ⟨p.ge,0,none⟩),u4,u5,u6,.pointer (some ⟨p.gh,0,none⟩),.nilFunc,.pointer (some ⟨gq,0,none⟩),gU,gJ,gI,gH,gG,gM,u16,iK,kL,kS,jR,iO,iD,iE,gZ,iH,iC,iJ,iF,iB,jM,jO,u32,iG,hY,iN,iM,kT,kQ,iI,gY,iL,iQ,iX,jD,iZ,iV,iU,iR,iY,iW,jB,.int .i64 p.o.op,.int .i64 j,.bool true,.chan (some gc),kV,kJ,kO,kM,kR,kE,kG,j5,u64,kC,j9,j6,kF,kZ,kU,kK,j7]:Array aF).getD s aA) (λs=>rfl) rfl rfl (aJ KB.o 0) (eL KB.o 0),rfl⟩,?_⟩);refine BO.regEnd Gy ?_;refine BO.tape ?_ T2 0;clear T2;have hK:K.le (K.add gc cr):=Pr.le_add _ _ _;have aT:∀b,b≠gq->(w3.setCell ⟨gq,0,none⟩ (.chan (some gc))).heap[b]? =w3.heap[b]? :=λb hb=>zaw w3 _ _ hb;have I3:Cq p wB (K.add gc cr) eO SS R0 Fz Wf Xa qs qn v (w3.setCell ⟨gq,0,none⟩ (.chan (some gc))):=⟨wD I.K1 hK,I.R1,I.st,I.ss,I.F,I.th.mono hK,I.fz,I.xt,λa ha=>by
   rcases I.xa a ha with h|⟨h1,h2,h3,h4⟩
   .exact .inl h
   .exact .inr ⟨h1,by rw[Jo,z3];omega,h3,h4⟩,I.lq,λi g hg=>hK _ _ (I.kq i g hg),lG.o.but (Jo _ _ _) zaD Fa zac aT⟩
  refine rh_go H I3 ztJ (j:=j) hl.symm (.inr ⟨rfl,rfl⟩) (nH KB.o _) zaD Fa zac (λzcu zcg zb0 zae zbL zkv v' w' u0 u1 u4 u5 u6 gU gJ gI gH gG gM u16 iK kL kS jR iO iD iE gZ iH iC iJ iF iB jM jO u32 iG hY iN iM kT kQ iI gY iL iQ iX jD iZ iV iU iR iY iW jB kV kJ kO kM kR kE kG j5 u64 kC j6 kF kZ kU kK j7 u9 lC lB j9 I4=>?_);have zlH:fG (p.cx (K.add gc cr) zcu zcg zb0 zae zbL (qs++[cr]) []):=qZ.ok I4.st I4.ss I4.F H.low;have zsw:=aD I4;clear I4 I3 aT lG KB I Ra;refine BO.inBlock zlH ?_;refine BO.pV mX zlH tX (λw5 T5 n8 Q' cZ=>?_);have zJj:=aD (show Cq p wB (K.add gc cr) zcu zcg zb0 zae zbL zkv (qs++[cr]) (qn++[gc]) v' w5 by rw[n8];exact zsw.o.tp T5 0);clear zsw
  try dsimp only
  clear n8;go_wp2;refine cZ.o _ _ ?_;clear cZ;refine BO.inLoop zlH ?_;exact ih (j+1) (by have:=HJ.o;omega) _ _ _ _ _ _ _ _ _ _ _ _ _ _ _ _ _ _ _ _ _ _ _ _ _ _ _ _ _ _ _ _ _ _ _ _ _ _ _ _ _ _ _ _ _ _ _ _ _ _ _ _ _ _ _ _ _ _ _ _ _ _ _ _ _ _ _ _ _ _ _ _ _ _ _ _ _ _ zJj.o (by rw[gN,hl];rfl)
structure StW (W W4:aE):Prop where
 size:W4.heap.size=W.heap.size+1
 keep:∀b,b<W.heap.size->W4.heap[b]? =W.heap[b]?
 wg:Go.ConcR.WgAt 94 W.heap.size W4 0 0
 os:W4.os=W.os
 tape:W4.tape=W.tape
 output:W4.output=W.output
variable {Post:aF->aE->Prop}{Shun:Loc->Prop}
theorem zEI {CS:List dK}
 (h:∀W4,StW W W4->J aK Post Shun W.heap.size (G ((J5 42).at ⟨t.setIfInBounds 8 (.pointer (some ⟨W.heap.size,0,none⟩)),[]⟩ [.code Fy]) CS) W4):
 J aK Post Shun W.heap.size (G ((J5 42).at ⟨t,[]⟩ [.code (.seq Nb Fy)]) CS) W:=by
 have start:∀d,J aK Post Shun W.heap.size (G ((J5 42).at ⟨t,[]⟩ [.code (.seq Nb Fy)]) CS) (W.at d):=by
  refine J.sil rfl (λw=>stepG_seq) ?_;generalize jC:Fy=K0 at h⊢;simp only[Nb,oA,ze4,Option.getD_some];refine J.sil rfl (λw=>stepG_region) ?_;refine J.opq (o:=_) (v:=.pointer (some ⟨W.heap.size,0,none⟩)) (w':=W.alloc (.cells #[.int .u64 0,.int .u32 0] 94)) rfl rfl aH (λd=>?_) (λd e he=>?_) ?_
  .show _=Result.ok _ ((W.at d).alloc _)
   have hz:(W.at d).heap.size=W.heap.size:=rfl;rw[<-hz];simp[aS,go_sem,wF]
  .simp[aS,go_sem,wF] at he
  refine J.sil rfl (λw=>stepG_region_end) ?_;intro d;have aY:StW W ((W.alloc (.cells #[.int .u64 0,.int .u32 0] 94)).at d):=by
   refine⟨?_,λb hb=>?_,?_,rfl,rfl,rfl⟩
   .show(W.alloc _).heap.size=_
    rw[rE]
   .show(W.alloc _).heap[b]? =_
    rw[Fs hb]
   .show(W.alloc _).heap[_]? =_
    rw[Ex];rfl
  exact h _ aY
 exact start W.drawn
variable {W0:aE}
theorem zBz {base:List dK}{lo0 lo go ge n hb gh:Nat}(hR:oG wB lo go ge n c A o es hb gh ln [] v w)(hgo:lo0<=go)(Aq:lo0<=ge)(dW:lo0<=lo)(bU:jP o es=true)(yU:(ln.length:Int)=o.ln)(Db:Gf w)(zbd:∀a,xT a=true->a<lo0)
 (zhs:∀(R1:Pr) (Wg:Nat),R0.le R1->qZ.After ⟨Post,Shun,W0,St,base,K,R1,w,lo0,lo,go,ge,n,c,A,o,es,hb,gh,ln,Wg⟩) {u0 u1 u4 u5 u6 u8 u9 mL mD lC lB:aF}:
 BO (H4 Post Shun W0 St R0 base K) () ⟨42,#[u0,u1,.pointer (some ⟨go,0,none⟩),.pointer (some ⟨ge,0,none⟩),u4,u5,u6,.pointer (some ⟨gh,0,none⟩),u8,u9,gU,gJ,gI,gH,gG,gM,u16,iK,kL,kS,jR,iO,iD,iE,gZ,iH,iC,iJ,iF,iB,jM,jO,u32,iG,hY,iN,iM,kT,kQ,iI,gY,iL,iQ,iX,jD,iZ,iV,iU,iR,iY,iW,jB,mL,mD,lC,lB,kV,kJ,kO,kM,kR,kE,kG,j5,u64,kC,j9,j6,kF,kZ,kU,kK,j7],[.code (.seq Nb Fy)],false⟩ w:=by
 intro R W m1 τ hw hm zK4 hi;obtain⟨fn',t,yQ,y3⟩:=m1;obtain rfl:=hm.fn;obtain rfl:=hm.todo;obtain rfl:=hm.ret;have hw:cV (SF gE) K R (o6 aK) St w W:=hw;have hi:IA W0 St Shun R0 R τ W:=hi;have ha:bK (SF gE) K R #[u0,u1,.pointer (some ⟨go,0,none⟩),.pointer (some ⟨ge,0,none⟩),u4,u5,u6,.pointer (some ⟨gh,0,none⟩),u8,u9,gU,gJ,gI,gH,gG,gM,u16,iK,kL,kS,jR,iO,iD,iE,gZ,iH,iC,iJ,iF,iB,jM,jO,u32,iG,hY,iN,iM,kT,kQ,iI,gY,iL,iQ,iX,jD,iZ,iV,iU,iR,iY,iW,jB,mL,mD,lC,lB,kV,kJ,kO,kM,kR,kE,kG,j5,u64,kC,j9,j6,kF,kZ,kU,kK,j7] t:=hm.tmps;have cG:t.size=73:=ha.1.symm;rw[mG,Cx.B_some rfl];intro _ Ci;refine zEI λW4 aY=>?_;have rW:qJ o=true:=by
  have:=bU;unfold jP at this;simp only[fU] at this;exact this.1.1
 unfold qJ at rW;have rW:=of_decide_eq_true rW
 let p:qZ:=⟨Post,Shun,W0,St,base,K,R,w,lo0,lo,go,ge,n,c,A,o,es,hb,gh,ln,W.heap.size⟩
 have aN:∀a b,R a b->b<W.heap.size:=λa b x=>(hw.lt a b (.inl x)).2;have hrel:cV (SF gE) K R (o6 aK) St w W4:=cV.real hw (λa b x=>aY.keep b (aN a b x)) (by rw[aY.size];omega);have ztS:∀a,xT a=true->∃c T fz,w.heap[a]? =some (.cells c T fz):=λa h=>let⟨c,T,fz,hc,_⟩:=Db a h;⟨c,T,fz,hc⟩
 have ztn:XOk R xT w:=⟨λa h=>⟨a,hw.tb a h⟩,ztS⟩;have fQ:=zoh hrel ztn;have hk:=hi.kp;have lL:=hi.sh;have zyS:=hk.size;have znD:Kp W0 R St W4:=⟨aY.os.trans hk.os,aY.tape.trans hk.tape,aY.output.trans hk.output,by rw[aY.size];omega,λb hb=>(aY.keep b aC).trans (hk.block b hb),hk.old⟩;have za9:∀a b,R a b->b≠W.heap.size:=λa b x=>by have:=aN a b x;omega
 have zHF:Sh W0.heap.size (Bb Shun W.heap.size) R W4:=by
  refine⟨λl b hl hb hx=>?_,λa b x l hl hx=>?_,λl b hl hb hx=>?_⟩
  .rcases hx with hx|hx
   .exact lL.old l b hl hb hx
   .have:=L6 hl hx;omega
  .rcases hx with hx|hx
   .exact lL.rel a b x l hl hx
   .exact za9 a b x (L6 hl hx)
  .rcases hx with hx|hx
   .exact lL.new l b hl (by rw[aY.size] at hb;omega) hx
   .have:=L6 hl hx;have:=aY.size;omega
 have Fa:∃b,R gh b:=by
  have h1:VR (SF gE) K R (.pointer (some ⟨gh,0,none⟩)) (t.getD 7 aA):=ha.getD 7 (xN (S:=SF gE) (K:=K) (R:=R));generalize t.getD 7 aA=t7 at h1
  cases h1 with
  |pointer y=>cases y with|some y=>cases y with|mk y=>exact⟨_,y⟩
 let SC:Nat->Prop:=λa=>St a\/xT a=true
 let τ0:cF:=tauP R SC W0 []
 have zxX:∀a b,R a b->SC a->¬τ0.own b:=λa b x h hb=>by
  rcases hb with⟨a',x',hn⟩|hb
  .obtain rfl:=hw.inj' a a' b (.inl x) (.inl x')
   exact hn h
  .cases hb
 have zi1:IQ W0 St (Bb Shun W.heap.size) W.heap.size τ0.still R (Gc R St xT) W4 [] [] R τ0 W4:=by
  refine⟨⟨⟨⟨znD,zHF,rfl,by rw[aY.size];omega,λb hb=>?_,za9⟩,.refl R,λb hb=>?_⟩,λb hb hs=>?_,λb hb=>?_,λc hc=>by cases hc⟩,λc hc=>by cases hc⟩
  .rcases hb with⟨a,x,_⟩|hb
   .exact za9 a b x
   .cases hb
  .obtain⟨a,x,h⟩:=hb
   exact⟨(hrel.lt a b (.inl x)).2,rfl,zxX a b x h,za9 a b x⟩
  .rcases hs with hs|⟨a,x,h⟩
   .rcases hb with⟨a',x',hn⟩|hb
    .exact hn (.inl (hk.old a' b x' hs))
    .cases hb
   .exact zxX a b x h hb
  .rcases hb with hb|⟨a,x,_⟩
   .rw[aY.size];omega
   .exact(hrel.lt a b (.inl x)).2
 have H:zas p (uF xT w):=⟨zhs R W.heap.size hi.le,Fa,bU,zyS,dW,λg hg=>by
  obtain⟨c,T,fz,h1,h2⟩:=Db g hg;exact⟨c,T,_,Tv hg h1,h2⟩,zbd,λb hb hx=>N4 hx,yU⟩
 have I:Cq p (uF xT w) K SC τ0.still R (Gc R St xT) W4 (λa=>xT a=true) [] [] v (uF xT w):=⟨wP K,.refl R,λa h=>.inl h,λb hb=>.inl hb,λb hb=>by
  obtain⟨a,x,h⟩:=hb;exact .inr ⟨a,x,h⟩,Jy.first hrel ztn,λb hb=>hb,λa h=>.inr h,λa h=>.inl h,rfl,λi g hg=>by simp at hg,hR.frT hgo Aq dW zbd ztS⟩
 refine J.phase (zzz p.N (Bo p.o p.es) p.D (zEs bU) (by show o.op.toNat<=_;omega)) (ty:=sD.tWg) (Wg:=W.heap.size) (l:=.mN []) (τ:=τ0) ?hb aY.wg ⟨aX _,by rw[aY.size];omega⟩ ?bnd rfl (.a 0 [] (λ_=>1) (.mN []) ⟨rfl,λj j' h=>by omega⟩ (jT _) (.inl rfl) rfl ⟨λj h=>by omega,λj j' h=>by omega,λj h=>by omega⟩ (λj h=>by omega) (λi hi _=>by simp[hi]))
 case bnd=>
  have hr:∀a b,R a b->b<W4.heap.size/\b≠W.heap.size/\∀l,nE l b->¬Shun l:=λa b x=>⟨(hrel.lt a b (.inl x)).2,za9 a b x,lL.rel a b x⟩;rintro b ((⟨a,x,_⟩|hb)|(hb|⟨a,x,_⟩)|hb)
  .exact hr a b x
  .cases hb
  .exact⟨by rw[aY.size];omega,aC,λl hl=>lL.old l b hl hb⟩
  .exact hr a b x
  .exact hb.elim
 case hb=>
  have hI:fG (p.cx K SC τ0.still R (Gc R St xT) W4 [] []):=qZ.ok I.st I.ss I.F H.low;have hB:BO (p.cx K SC τ0.still R (Gc R St xT) W4 [] []) (.mN []) ⟨42,#[u0,u1,.pointer (some ⟨go,0,none⟩),.pointer (some ⟨ge,0,none⟩),u4,u5,u6,.pointer (some ⟨gh,0,none⟩),.nilFunc,u9,gU,gJ,gI,gH,gG,gM,u16,iK,kL,kS,jR,iO,iD,iE,gZ,iH,iC,iJ,iF,iB,jM,jO,u32,iG,hY,iN,iM,kT,kQ,iI,gY,iL,iQ,iX,jD,iZ,iV,iU,iR,iY,iW,jB,mL,mD,lC,lB,kV,kJ,kO,kM,kR,kE,kG,j5,u64,kC,j9,j6,kF,kZ,kU,kK,j7],[.code Fy],false⟩ (uF xT w):=by
   rw[show Fy=.seq (.seq zk9 (.block 4 (.loop zbT))) zmB from rfl];refine BO.seq hI ?_;refine BO.seq hI ?_;refine BO.pV mX hI tX (λw1 T1 fA Q' cZ=>?_);have Ra:=aD (show Cq p (uF xT w) K SC τ0.still R (Gc R St xT) W4 (λa=>xT a=true) [] [] v w1 by rw[fA];exact I.tp T1 0);have g1:w1.cell? ⟨go,1,none⟩=some (.int .i64 o.op):=aJ Ra.o.h.e.bo 1
   try dsimp only
   clear fA;go_wp2;refine cZ.o _ _ ?_;clear cZ;refine BO.block hI ?_;refine BO.loop hI ?_;exact rh_ops H o.op.toNat 0 (by show _=o.op;omega) K SC τ0.still R (Gc R St xT) W4 (λa=>xT a=true) [] [] v w1 _ _ _ _ _ _ _ _ _ _ _ _ _ _ _ _ _ _ _ _ _ _ _ _ _ _ _ _ _ _ _ _ _ _ _ _ _ _ _ _ _ _ _ _ _ _ _ _ _ _ _ _ _ _ _ _ _ _ _ _ _ _ _ _ _ _ _ Ra.o rfl
  have h1:=ha.set 8 (.junk (v':=.pointer (some ⟨W.heap.size,0,none⟩)) Vo);simp only[gK,dU,dV] at h1;have hm:=hB R W4 ⟨42,t.setIfInBounds 8 (.pointer (some ⟨W.heap.size,0,none⟩)),[.code Fy],false⟩ τ0 fQ ⟨rfl,rfl,rfl,h1,λx hx=>?_⟩ terra_p ⟨zi1,⟨0,0,aY.wg⟩⟩
  .rw[Cx.B_none rfl,mG] at hm
   exact hm
  .obtain rfl:=sZ.1 hx
   show(t.setIfInBounds 8 _).getD 8 aA=_;simp[tJ,cG];rfl
abbrev JS (St:Nat->Prop)(W0:aE)(Post:aF->aE->Prop)(m:Fm)(ms:List Fm)(w:aE):Prop:=JL aK (oV olL) (oV alL) gE St W0 Post m ms w
theorem zBj {G:Gp}(h:cV S K R G St w W)(e:w'.heap=w.heap):cV S K R G St w' W:=by
 refine⟨h.inj,h.inj',λa b x=>by rw[e];exact h.lt a b x,h.low,by rw[e];exact h.gle,λa b x=>?_,λa b x hn=>?_,λa x=>?_,λa c y hp=>?_,h.tb⟩
 .rw[e];exact h.cont a b x
 .rw[e];exact h.rest a b x hn
 .rw[e];exact h.st a x
 .rw[e] at hp;exact h.np a c y hp
def JS.heap {m:Fm}{ms:List Fm}(h:JS St W0 Post m ms w)(e:w'.heap=w.heap):JS St W0 Post m ms w':=
 λK R W m' ms' Shun a b c d k=>h K R W m' ms' Shun (zBj a e.symm) b c d k
theorem rh_tmps (a b:aF):(#[a,b]:Array aF)++nU (73-(#[a,b]:Array aF).size) aA=#[a,b,aA,aA,aA,aA,aA,aA,aA,aA,aA,aA,aA,aA,aA,aA,aA,aA,aA,aA,aA,aA,aA,aA,aA,aA,aA,aA,aA,aA,aA,aA,aA,aA,aA,aA,aA,aA,aA,aA,aA,aA,aA,aA,aA,aA,aA,aA,aA,aA,aA,aA,aA,aA,aA,aA,aA,aA,aA,aA,aA,aA,aA,aA,aA,aA,aA,aA,aA,aA,aA,aA,aA]:=by
 have h:(#[a,b]:Array aF).size=2:=aO;rw[h];apply Ik;simp only[Oz,zaN];rfl
structure Hall (w wn:aE)(o:jG)(es:List dD)(hb:Nat):Prop where
 below:bV w.heap.size w wn
 ex:∃lo v ln qn,w.heap.size<=lo/\lo<=wn.heap.size/\bE wn lo hb v (uO o es ln qn qn.length)/\(ln.length:Int)=o.ln/\(qn.length:Int)=o.op
section
variable {Post:aF->aE->Prop}{W0:aE}{St:Nat->Prop}
theorem jo_hall {m:Fm}{ms:List Fm}{w:aE}{ops:Array aZ}{i:Nat}{rest:List Nat}{k:List eE}{oo:aZ}{args:Array cM}{kH:Array aM}{A:Option bL}{n c:Nat}{o:jG}{es:List dD}
 (hr:m.ret=false) (pS:m.todo=.inRegion ops (i::rest)::k) (ho:ops[i]? =some oo) (cD:dF oo (dR ops m.tmps)=true) (hop:oo.op=.call ⟨.value (.func 42),args,kH⟩) (sH:args.all (dQ gE)=true)
 (hv:args.map m.eval=#[.agg #[.int .i64 o.ln,.int .i64 o.op,.int .i64 o.pt],.slice A n c]) (Gl:b7 w 0 w.heap.size 3 A n c (lN es)) (hn:n<=1048576) (hT:vL w) (Db:Gf w)
 (zEd:jP o es=false->∀wn,bV w.heap.size w wn->JS St W0 Post (m.fin ops i rest k (.pointer none)) ms wn)
 (zAe:jP o es=true->∀wn hb,Hall w wn o es hb->JS St W0 Post (m.fin ops i rest k (.pointer (some ⟨hb,0,none⟩))) ms wn):JS St W0 Post m ms w:=by
 refine JO.callF lvF hr pS ho cD hop rfl sH λK R W m' ms' Shun bY hw hm iP lL hk Bx=>?_;rw[hv] at Bx;have lY:C3 (ze4).results.toList:=.inr (.inl ⟨_,rfl⟩);have Bp:(ze4).ntmps=73:=rfl;have zu9:=Bx.pad 73;rw[rh_tmps] at zu9;rw[Ve (c:=oA) zdX rfl,Bp];have zbd:∀a,xT a=true->a<w.heap.size:=λa h=>(hw.lt a a (.inl (hw.tb a h))).1;refine BO.aloneIn (p:=aK) (gs:=Cf) (fs:=gE) (St:=St) (K:=K) (R:=R) (m:=⟨42,#[.agg #[.int .i64 o.ln,.int .i64 o.op,.int .i64 o.pt],.slice A n c,aA,aA,aA,aA,aA,aA,aA,aA,aA,aA,aA,aA,aA,aA,aA,aA,aA,aA,aA,aA,aA,aA,aA,aA,aA,aA,aA,aA,aA,aA,aA,aA,aA,aA,aA,aA,aA,aA,aA,aA,aA,aA,aA,aA,aA,aA,aA,aA,aA,aA,aA,aA,aA,aA,aA,aA,aA,aA,aA,aA,aA,aA,aA,aA,aA,aA,aA,aA,aA,aA,aA],[.code oA],false⟩) ?_ hw ⟨rfl,rfl,rfl,zu9,λx hx=>by cases hx⟩ lL hk;refine zCR Gl hn hT (λT todo w' h4 hO bU=>?_) (λwB lo go ge K' w' v ln hb gh u0 u1 u4 u5 u6 u8 u9 gU gJ gI gH gG gM u16 iK kL kS jR iO iD iE gZ iH iC iJ iF iB jM jO u32 iG hY iN iM kT kQ iI gY iL iQ iX jD iZ iV iU iR iY iW jB mL mD lC lB kV kJ kO kM kR kE kG j5 u64 kC j9 j6 kF kZ kU kK j7 hK bU dW hgo Aq Px hR yU=>?_)
 .refine BO.aloneOut hm iP rfl hr pS (v:=.pointer none) zdX lY (by rw[<-h4];rfl) ?_
  have zJd:bV w.heap.size w {w' with os:=w.os,tape:=w.tape,output:=w.output}:=⟨rfl,rfl,rfl,hO.1,hO.2⟩;exact JS.heap (zEd bU _ zJd) rfl
 .refine zBz (lo0:=w.heap.size) hR hgo Aq dW bU yU (λg hg=>?_) zbd (λR1 Wg zgq K2 R2 w2 v2 qn u0 u1 u2 u3 u4 u5 u6 u8 u9 gU gJ gI gH gG gM u16 iK kL kS jR iO iD iE gZ iH iC iJ iF iB jM jO u32 iG hY iN iM kT kQ iI gY iL iQ iX jD iZ iV iU iR iY iW jB mL mD lC lB kV kJ kO kM kR kE kG j5 u64 kC j9 j6 kF kZ kU kK j7 zdK Jv hE=>?_)
  .have qX:=zbd g hg
   rw[hR.e.old g aC,Px g qX];exact Db g hg
  .have zdK:K'.le K2:=zdK
   have Jv:R1.le R2:=Jv;obtain⟨hA,hold,hz,Pd,Uw⟩:=hE;have hA:bE w2 lo hb v2 (uO o es ln qn qn.length):=hA;have hold:∀b,b<w.heap.size->w2.heap[b]? =w'.heap[b]? :=hold;have hz:lo<=w2.heap.size:=hz;have Pd:w2.heap[gh]? =some (.cells #[.pointer (some ⟨hb,0,none⟩)] 63):=Pd;have zx3:∀b,b<w.heap.size->w2.heap[b]? =w.heap[b]? :=λb b6=>by
    rw[hold b b6,hR.e.old b aC,Px b b6]
   have HA:=aD hA;have HO:=aD zx3;have HB:=aD Pd;clear hA hold zx3 Pd;show BO (Fb aK Cf gE Post (Bb Shun Wg) W0 St K2 R2 (m'.fr::ms'.map Fm.fr)) () _ _;refine BO.regEnd dC ?_;refine BO.seq dC ?_;refine BO.pV mX dC tX (λw3 T1 iT Q' cZ=>?_);have g1:(Tt.tp w2 T1 0).cell? ⟨gh,0,none⟩=some (.pointer (some ⟨hb,0,none⟩)):=aJ HB.o 0;have e3:w3.heap=w2.heap:=by rw[iT];rfl
   have uY:=aD e3
   try dsimp only
   rw[<-iT] at g1;clear iT e3;go_wp2;refine cZ.o _ _ ?_;clear cZ;refine BO.ret dC ?_;refine BO.aloneOut (oU.monoK (wD hK zdK) (hm.mono (zgq.trans Jv))) (uS.monoK (wD hK zdK) (iP.mono (zgq.trans Jv))) rfl hr pS (v:=.pointer (some ⟨hb,0,none⟩)) zdX lY rfl ?_;have hH:Hall w {w2 with os:=w.os,tape:=w.tape,output:=w.output} o es hb:=⟨⟨rfl,rfl,rfl,by show w.heap.size<=w2.heap.size;omega,HO.o⟩,lo,v2,ln,qn,dW,hz,HA.o.same rfl,yU,Uw⟩;exact JS.heap (zAe bU _ _ hH) uY.o
end
end Go.Proofs.YtfcjiloojkjaeaaGreatDoor
namespace Go.Proofs.YtfcjiloojkjaeaaGreatDoor
open Go.RowKit Go.Mt Go.Conc Go.Tt
structure Bl (B:Nat)(w w':aE):Prop where
 size:w.heap.size<=w'.heap.size
 block:∀b,b<B->w'.heap[b]? =w.heap[b]?
def Bl.refl (B:Nat)(w:aE):Bl B w w:=⟨aX _,λ_ _=>rfl⟩
variable {B:Nat}{a b c:aE}
def Bl.below (h:Bl B a b)(k:bV b.heap.size b c)(hB:B<=a.heap.size):Bl B a c:=⟨eG h.size k.size,λx hx=>(k.block x zjO).trans (h.block x hx)⟩
def Bl.tp (h:Bl B a b)(T:jW)(e:Nat):Bl B a (Tt.tp b T e):=⟨h.size,h.block⟩
section
variable {p:bS}{op gs gs₁ fs:aP->Bool}{St:Nat->Prop}{W0:aE}{Post:aF->aE->Prop}
variable {c:vX}{k:List eE}{ms:List Fm}
theorem JO.sq (L:Lv p op gs gs₁ fs){fn:aP}{tmps:Array aF}{w:aE}(hf:op fn=false)(h:JL p op gs fs St W0 Post ⟨fn,tmps,.code (sA c):: .code (sB c)::k,false⟩ ms w)(e:c=.seq (sA c) (sB c):=by exact rfl):JL p op gs fs St W0 Post ⟨fn,tmps,.code c::k,false⟩ ms w:=by
 rw[e];exact JO.seq L hf h
theorem JO.cd (L:Lv p op gs gs₁ fs){fn:aP}{tmps:Array aF}{w:aE}(t:Bool)(hf:op fn=false)(h:JL p op gs fs St W0 Post ⟨fn,tmps,.code (if t then cA c else cB c)::k,false⟩ ms w)(hc:(bH tmps []).eval (cX c)=.bool t:=by exact rfl)(e:c=.cond (cX c) (cA c) (cB c):=by exact rfl):JL p op gs fs St W0 Post ⟨fn,tmps,.code c::k,false⟩ ms w:=by
 rw[e];exact JO.cond L hf hc h
theorem JO.sk (L:Lv p op gs gs₁ fs){fn:aP}{tmps:Array aF}{w:aE}(hf:op fn=false)(h:JL p op gs fs St W0 Post ⟨fn,tmps,k,false⟩ ms w)(e:c=.skip:=by exact rfl):JL p op gs fs St W0 Post ⟨fn,tmps,.code c::k,false⟩ ms w:=by
 rw[e];exact JO.skip L hf h
theorem JO.rt (L:Lv p op gs gs₁ fs){fn:aP}{tmps:Array aF}{w:aE}(hf:op fn=false)(h:JL p op gs fs St W0 Post ⟨fn,tmps,.code .ret::k,true⟩ ms w)(e:c=.ret:=by exact rfl):JL p op gs fs St W0 Post ⟨fn,tmps,.code c::k,false⟩ ms w:=by
 rw[e];exact JO.ret L hf h
theorem JO.rn (L:Lv p op gs gs₁ fs){fn:aP}{tmps:Array aF}{w:aE}(hf:op fn=false)(ops:Array aZ)(is:List Nat)(h:JL p op gs fs St W0 Post ⟨fn,tmps,.inRegion ops is::k,false⟩ ms w)(e:c=.region (bI c) ops false:=by exact rfl)(hr:gF ops.size=is:=by exact rfl):JL p op gs fs St W0 Post ⟨fn,tmps,.code c::k,false⟩ ms w:=by
 subst hr;rw[e];exact JO.reg L hf h
variable {c':vX}{b:List Fm}
theorem JO.pQ (L:Lv p op gs gs₁ fs){fn:aP}{tmps:Array aF}{w:aE}(xB:op fn=false)
 (rL:∀(T:jW) (Q:Exit->Go.Act->aE->Prop),qC (∀a' w',JL p op gs fs St W0 Post ⟨fn,a'.tmps,k,false⟩ b w'->Q .normal a' w')->Code.wp p c' Q ⟨tmps,[]⟩ (Tt.tp w T 0)) (e:c=c':=by conv=>lhs;whnf) (hc:oI p ⟨fs,gs₁,true⟩ c=true:=by kernel_rfl):
 JL p op gs fs St W0 Post ⟨fn,tmps,.code c::k,false⟩ b w:=by
 subst e;exact JO.piece L hc xB λT=>rL T _ (aD λa' w' h=>⟨rfl,h⟩)
theorem JO.tQ (L:Lv p op gs gs₁ fs){fn:aP}{tmps:Array aF}{w:aE}(xB:op fn=false)
 (rL:∀(T:jW) (Q:Exit->Go.Act->aE->Prop),qC (∀a' w',(∀todo,JL p op gs fs St W0 Post ⟨fn,a'.tmps,todo,true⟩ b w')->Q .ret a' w')->Code.wp p c' Q ⟨tmps,[]⟩ (Tt.tp w T 0)) (e:c=c':=by conv=>lhs;whnf) (hc:oI p ⟨fs,gs₁,true⟩ c=true:=by kernel_rfl):
 JL p op gs fs St W0 Post ⟨fn,tmps,[.code c],false⟩ b w:=by
 subst e;exact JO.tail L hc xB λT=>rL T _ (aD λa' w' h=>⟨.inr rfl,h⟩)
theorem JO.mv (L:Lv p op gs gs₁ fs){fn:aP}{tmps T':Array aF}{ops:Array aZ}{i:Nat}{rest:List Nat}{w:aE}{o:aZ}(hf:op fn=false)(v:aF)(h:JL p op gs fs St W0 Post ⟨fn,T',.inRegion ops rest::k,false⟩ ms w)(ho:ops[i]? =some o:=by exact zdq rfl (by conv=>lhs;whnf))
 (hx:∀T e,(aS (bH tmps []).eval o).run p (Tt.tp w T e)=.ok (.value v) (Tt.tp w T e):=by exact λ_ _=>rfl) (cD:dF o (dR ops tmps)=true:=by exact rfl)
 (ht:(cC ⟨tmps,[]⟩ o.dst v).tmps=T':=by first|(simp only[Go.Act.put,List.setIfInBounds_toArray,List.set_cons_zero,List.set_cons_succ];done)|(simp only[Go.Act.put,List.setIfInBounds_toArray,List.set_cons_zero,List.set_cons_succ];rfl)):JL p op gs fs St W0 Post ⟨fn,tmps,.inRegion ops (i::rest)::k,false⟩ ms w:=
 JO.opv L hf ho cD hx (ht▸h)
end
variable {w:aE}{lo hi s n:Nat}{A:Option bL}{xs:List aF}
def b7.tp {c:Nat}(h:b7 w lo hi s A n c xs)(T:jW)(e:Nat):b7 (Tt.tp w T e) lo hi s A n c xs:=⟨h.len,h.le,h.cap,h.at_⟩
def rJ.tp {E c:Nat}(h:rJ E s w lo hi A n c xs)(T:jW)(e:Nat):rJ E s (Tt.tp w T e) lo hi A n c xs:=⟨h.slc.tp T e,h.blk⟩
variable {w':aE}
def b7.bls {c:Nat}(h:b7 w lo hi s A n c xs)(k:Bl B w w')(hB:w.heap.size<=B):b7 w' lo hi s A n c xs:=h.keep k.size λb _ _ h3=>k.block b aC
def rJ.bls {E c:Nat}(h:rJ E s w lo hi A n c xs)(k:Bl B w w')(hB:w.heap.size<=B):rJ E s w' lo hi A n c xs:=h.keep k.size λb _ _ h3=>k.block b aC
def Bl.chg (h:Bl B a b)(k:qI lo hi b c)(hB:B<=lo)(h2:B<=b.heap.size):Bl B a c:=⟨eG h.size k.size,λx hx=>(k.block x aC aC).trans (h.block x hx)⟩
def Bl.then {B':Nat}(h:Bl B a b)(k:Bl B' b c)(hB:B<=B'):Bl B a c:=⟨eG h.size k.size,λx hx=>(k.block x aC).trans (h.block x hx)⟩
def Bl.below' (h:Bl B a b)(k:bV b.heap.size b c)(hB:B<=b.heap.size):Bl B a c:=⟨eG h.size k.size,λx hx=>(k.block x aC).trans (h.block x hx)⟩
variable {o:Obj}
def Ah (h:Bl B a b){N:Nat}(hN:a.heap[N]? =some o)(hB:N<B):b.heap[N]? =some o:=(h.block N hB).trans hN
def C4 (o:jG)(es:List dD):List Int:=if jP o es then U1 (Eu o es) o.op.toNat else[]
def zqG:Go.Code:=(zfL.body).getD .skip
def rTC1:Go.Code:=match zqG with| .seq _ (.seq (a) _)=>a|_=>.skip
def ziv:Array Oper:=match rTC1 with| .region _ ops _=>ops|_=>#[]
abbrev oTC1_0:Oper:=⟨some 6,.load 29 (.tmp 2),29,"l6_office.go:388",#[],none⟩
def zIL:ziv[0]? =some oTC1_0:=rfl
abbrev oTC1_2:Oper:=⟨some 8,.call ⟨.value (.func 42),#[.tmp 6,.tmp 7],#[29,31]⟩,63,"l6_office.go:388",#[⟨0,.data⟩,⟨1,.data⟩],none⟩
def zjl:ziv[2]? =some oTC1_2:=rfl
section
variable {St:Nat->Prop}{W0:aE}{Post:aF->aE->Prop}
theorem zvL {m:Fm}{ms:List Fm}{w:aE}{ops:Array aZ}{i:Nat}{rest:List Nat}{k:List eE}{oo:aZ}{args:Array cM}{kH:Array aM}{A:Option bL}{n c:Nat}{o:jG}{es:List dD}
 (hr:m.ret=false) (zfC:oV olL m.fn=false) (pS:m.todo=.inRegion ops (i::rest)::k) (ho:ops[i]? =some oo) (cD:dF oo (dR ops m.tmps)=true) (hop:oo.op=.call ⟨.value (.func 21),args,kH⟩)
 (hv:args.map m.eval=#[.agg #[.int .i64 o.ln,.int .i64 o.op,.int .i64 o.pt],.slice A n c]) (Gl:b7 w 0 w.heap.size 3 A n c (lN es)) (hn:n<=1048576) (hT:vL w) (Db:Gf w)
 (hJ:∀wn V,Bl w.heap.size w wn->wn.ownsRow w.heap.size 3 1 V (C4 o es).length (eJ (C4 o es))->JS St W0 Post (m.fin ops i rest k (V)) ms wn):JS St W0 Post m ms w:=by
 have L:=lvF;have cT:oV olL 21=false:=aQ;have zGP:=JO.callN (St:=St) (W0:=W0) (Post:=Post) (ms:=ms) (w:=w) (fn:=zfL) (c:=zqG) L hr pS ho cD hop cT;refine zGP zrk aH rfl ?_;rw[hv];have Cn:(#[.agg #[.int .i64 o.ln,.int .i64 o.op,.int .i64 o.pt],.slice A n c]:Array aF)++nU ((zfL).ntmps-(#[.agg #[.int .i64 o.ln,.int .i64 o.op,.int .i64 o.pt],.slice A n c]:Array aF).size) aA=#[.agg #[.int .i64 o.ln,.int .i64 o.op,.int .i64 o.pt],.slice A n c,aA,aA,aA,aA,aA,aA,aA,aA,aA,aA,aA,aA,aA]:=by
  have e:(zfL).ntmps=15:=rfl;rw[e];apply Ik;simp only[Oz,zaN,Eh,pT,rR];rfl
 rw[Cn];have pA:w.heap.size<=w.heap.size:=aX _;have zc2:∀(tmps:Array aF) (td:List eE) (w':aE) (V:aF),tmps.getD 4 aA=V->Bl w.heap.size w w'->w'.ownsRow w.heap.size 3 1 V (C4 o es).length (eJ (C4 o es))->JS St W0 Post ⟨21,tmps,td,true⟩ (m::ms) w':=by
  intro tmps td w' V e4 hb cP;refine JO.back L rfl pS zrk (v:=V) ?_ zfC (hJ w' V hb cP);show(oK [.tmp 4] tmps).run _ _=_;simp only[oK,yF,e4];rfl
 refine JO.sq L cT ?_;refine JO.pQ L cT (λTp Q HQ=>?_);obtain⟨w1,fA⟩:=aU (Tt.tp w Tp 0);have B0:=aD (show Bl w.heap.size w w1 by rw[fA];exact(Bl.refl _ w).tp Tp 0);have eB:w1.heap.size=w.heap.size:=by rw[fA];rfl
 have eh:w1.heap=w.heap:=by rw[fA];rfl
 have EH:=aD eh;rw[<-fA];clear fA eh;go_wp2;refine HQ.o _ _ ?_;clear HQ;obtain⟨w2,fZ⟩:=aU (w1.alloc (.cells #[.int .i64 o.ln,.int .i64 o.op,.int .i64 o.pt] 29));have k2:∀b,b<w.heap.size->w2.heap[b]? =w.heap[b]? :=λb hb=>by rw[fZ,Fs aC,EH.o]
 have z2:w2.heap.size=w.heap.size+1:=by rw[fZ,rE,eB]
 have g2:w2.heap[w1.heap.size]? =some (.cells #[.int .i64 o.ln,.int .i64 o.op,.int .i64 o.pt] 29):=by rw[fZ];exact Ex _ _
 have zIo:bV w.heap.size w {w2 with os:=w.os,tape:=w.tape,output:=w.output}:=⟨rfl,rfl,rfl,by show w.heap.size<=w2.heap.size;omega,k2⟩;have zBO:vL w2:=ziC (w:={w2 with os:=w.os,tape:=w.tape,output:=w.output}) rfl (zi5 hT _ zIo);have zAp:Gf w2:=λg hg=>by
  obtain⟨c,T,fz,h1,h2⟩:=Db g hg;exact⟨c,T,fz,(k2 g (dP.1 h1).1).trans h1,h2⟩
 have Ba:b7 w2 0 w2.heap.size 3 A n c (lN es):=(Gl.keep aC λb _ q _=>k2 b q).wide (aX _) aC;rw[<-fZ];clear fZ;rw[eB] at g2;refine JO.sq L cT ?_;refine JO.rn L cT ziv [0,1,2,3] ?_;refine JO.opv L (v:=.agg #[.int .i64 o.ln,.int .i64 o.op,.int .i64 o.pt]) cT zIL rfl (λT e=>?_) ?_
 .have c0:(Tt.tp w2 T e).cell? ⟨w.heap.size,0,none⟩=some (.int .i64 o.ln):=aJ g2 0
  have c1:(Tt.tp w2 T e).cell? ⟨w.heap.size,1,none⟩=some (.int .i64 o.op):=aJ g2 1;have c2:(Tt.tp w2 T e).cell? ⟨w.heap.size,2,none⟩=some (.int .i64 o.pt):=aJ g2 2;unfold aS;go_simp
  try rfl
 simp only[cC,gK,dU,dV];refine JO.mv L cT (.slice A n c) ?_;refine jo_hall (o:=o) (es:=es) rfl rfl zjl rfl rfl aQ V5 Ba hn zBO zAp (λbU wn hb=>?_) (λbU wn hb hH=>?_)
 .simp only[Fm.fin,zjl,vD,gK,dU,dV]
  have b6:Bl w.heap.size w wn:=⟨by have:=hb.size;omega,λb b6=>(hb.block b aC).trans (k2 b b6)⟩;refine JO.mv L cT (.pointer none) ?_;refine JO.regEnd L cT ?_;refine JO.sq L cT ?_;refine JO.sq L cT ?_;refine JO.pQ L cT (λTp Q HQ=>?_);go_wp2;refine HQ.o _ _ ?_;clear HQ;refine JO.cd L true cT ?_;refine JO.sq L cT ?_;refine JO.pQ L cT (λPz Q HQ=>?_);go_wp2;refine HQ.o _ _ ?_;clear HQ;refine JO.rt L cT ?_;exact zc2 _ _ _ _ rfl ((b6.tp Tp 0).tp Pz 0) (by simp[C4,bU];exact⟨rfl,.inl ⟨rfl,rfl⟩⟩)
 .simp only[Fm.fin,zjl,vD,gK,dU,dV]
  obtain⟨mQ,lo,v,ln,qn,h1,h2,hA,h3,h4⟩:=hH;have b6:Bl w.heap.size w wn:=⟨by have:=mQ.size;omega,λb b6=>(mQ.block b aC).trans (k2 b b6)⟩;have HA:=aD hA;have zBk:=aD b6;clear hA b6 mQ;refine JO.mv L cT (.pointer (some ⟨hb,0,none⟩)) ?_;refine JO.regEnd L cT ?_;refine JO.sq L cT ?_;refine JO.sq L cT ?_;refine JO.pQ L cT (λTp Q HQ=>?_);go_wp2;refine HQ.o _ _ ?_;clear HQ;refine JO.cd L false cT ?_;refine JO.sk L cT ?_;refine JO.sq L cT ?_;refine JO.pQ L cT (λPz Q HQ=>?_);obtain⟨w5,n8⟩:=aU (Tt.tp (Tt.tp wn Tp 0) Pz 0);have c5:w5.cell? ⟨hb,13,none⟩=some (v.sT):=by rw[n8];exact aJ HA.o.blk 13
  have A5:=aD (show bE w5 lo hb v (uO o es ln qn qn.length) by rw[n8];exact HA.o.same rfl);have B5:=aD (show Bl w.heap.size w w5 by rw[n8];exact(zBk.o.tp Tp 0).tp Pz 0);rw[<-n8];clear n8;go_wp2;refine HQ.o _ _ ?_;clear HQ;refine JO.rt L cT ?_;exact zc2 _ _ _ _ rfl B5.o (by have e:o.op.toNat=qn.length:=aC;simp only[C4,bU,if_true,e];exact zsl A5.o.T aC)
end
section
variable {p:bS}{op gs gs₁ fs:aP->Bool}{St:Nat->Prop}{W0:aE}{Post:aF->aE->Prop}
def JO.callV (L:Lv p op gs gs₁ fs){m:Fm}{ms:List Fm}{w:aE}{ops:Array aZ}{i:Nat}{rest:List Nat}{k:List eE}{o:aZ}{f:aP}{args:Array cM}{kH:Array aM}{xs:Array aF}(hr:m.ret=false)(pS:m.todo=.inRegion ops (i::rest)::k)
 (ho:ops[i]? =some o) (cD:dF o (dR ops m.tmps)=true) (hop:o.op=.call ⟨.value (.func f),args,kH⟩) (hg:gs₁ f=true) (xB:op m.fn=false) (sH:args.all (dQ fs)=true) (hv:args.map m.eval=xs)
 {Q:aF->aE->Prop} (X4:∀v w T e,Q v w->Q v (Tt.tp w T e)) (hc:∀T,fN p f xs (Tt.tp w T 0) (λe w'=>∃v,e=.returned v/\Q v w'))
 (hJ:∀v w',Q v w'->JL p op gs fs St W0 Post (m.fin ops i rest k v) ms w'):JL p op gs fs St W0 Post m ms w:=
 JO.callL L hr pS ho cD hop hg xB sH X4 (λT=>hv▸hc T) hJ
end
variable {b:Nat}
def kW (h:w.heap[b]? =some o)(T:jW)(e:Nat):(Tt.tp w T e).heap[b]? =some o:=h
def Z1 (h:w.heap[b]? =some o)(k:qI lo hi w w')(hd:b<lo\/hi<=b):w'.heap[b]? =some o:=(k.block b (fP h) aC).trans h
def ToV (E:aM)(s:Nat)(l:List aF)(W:aE)(n:Nat)(v:aF)(w':aE):Prop:=
 ∃b cs,v=.slice (some ⟨b,0,none⟩) n n/\W.heap.size<=b/\w'.heap[b]? =some (.cells cs E)/\cs.toList=l/\rJ E s w' W.heap.size w'.heap.size (some ⟨b,0,none⟩) n n l/\Bl W.heap.size W w'
variable {W:aE}{v:aF}
theorem ToV.tp {E:aM}{l:List aF}(h:ToV E s l W n v w)(T:jW)(e:Nat):ToV E s l W n v (Tt.tp w T e):=by
 obtain⟨b,cs,h1,h2,h3,h4,h5,h6⟩:=h;exact⟨b,cs,h1,h2,h3,h4,h5.tp T e,h6.tp T e⟩
theorem zJx {c:Nat}{xs:List dD}(h:b7 W lo hi 3 A n c (lN xs))(hn:n<=1048576)(T:jW):
 fN aK 13 #[.slice A n c] (Tt.tp W T 0) λe w'=>∃v,e=.returned v/\ToV 54 3 (lN xs) W n v w':=by
 refine(zdk (h.tp T 0) hn).mono ?_;rintro e w' ⟨b,cs,he,h2,h3,h4,h5,h6⟩;exact⟨_,he,b,cs,rfl,h2,h3,h4,h5,((Bl.refl _ W).tp T 0).below h6 (aX _)⟩
theorem zJN {l:List dD}:∀v∈lN l,Oa v:=by
 intro v hv;obtain⟨d,_,hd⟩:=List.mem_flatMap.1 hv;simp only[dD.cells,List.mem_cons,lZ,or_false] at hd;rcases hd with rfl|rfl|rfl
 all_goals first
  |exact .inl ⟨_,_,rfl⟩
  |exact .inr (.inl ⟨_,rfl⟩)
theorem vL.bls (h:vL w)(hb:Bl B w w')(hB:w.heap.size<=B):vL w':=by
 have b6:bV w.heap.size w {w' with os:=w.os,tape:=w.tape,output:=w.output}:=⟨rfl,rfl,rfl,hb.size,λb zu8=>hb.block b aC⟩;exact ziC (w:={w' with os:=w.os,tape:=w.tape,output:=w.output}) rfl (zi5 h _ b6)
theorem Gf.bls (h:Gf w)(hb:Bl B w w')(hB:w.heap.size<=B):Gf w':=by
 intro g hg;obtain⟨c,T,fz,hc,hu⟩:=h g hg;exact⟨c,T,fz,(hb.block g (by have:=(dP.1 hc).1;omega)).trans hc,hu⟩
theorem zv5 {p:bS}{o:aZ}{t:aM}{x:cM}{ρ:cM->aF}{cs:Array aF}{T:aM}{fz:Nat×Nat}{d:TypeDesc}(hop:o.op=.load t x)(hb:w.heap[b]? =some (.cells cs T fz))(hx:ρ x=.pointer (some ⟨b,0,none⟩))
 (hu:p.underlying t=some d) (hd:d.isRow=true) (hi:(p.info? t).map (·.size)=some cs.size):(aS ρ o).run p w=.ok (.value (.agg cs)) w:=by
 obtain⟨dst,yJ,type,pos,after,guard⟩:=o;simp only at hop;subst hop;have:=run_loadAt_mid (P:=p) w b 0 t cs.toList d (λj v hj=>by rw[Nat.zero_add,aJ hb];simpa using hj) hu hd zhe;simp only[aS,hx,Sem.run_bind,this,Result.andThen_ok];rfl
def Pc (f s p:Int)(W:aE)(v:aF)(w':aE):Prop:=v=.agg #[.int .i64 f,.int .i64 s,.int .i64 p]/\Bl W.heap.size W w'
def Pc.tp {f s p:Int}(h:Pc f s p W v w)(T:jW)(e:Nat):Pc f s p W v (Tt.tp w T e):=⟨h.1,h.2.tp T e⟩
theorem zu3 (f s p:Int)(W:aE)(T:jW):
 fN aK 12 #[.agg #[.int .i64 f,.int .i64 s,.int .i64 p]] (Tt.tp W T 0) λe w'=>∃v,e=.returned v/\Pc f s p W v w':=by
 refine(zre f s p _).mono ?_;rintro e w' ⟨he,hb⟩;exact⟨_,he,rfl,((Bl.refl _ W).tp T 0).below hb (aX _)⟩
end Go.Proofs.YtfcjiloojkjaeaaGreatDoor
namespace Go.Proofs.YtfcjiloojkjaeaaGreatDoor
open Go.ChangeShapes Go.WideShapes Go.ChangeAt Go.RowKit Go.Mt Go.Conc Go.Tt
def U6:List (String×DataW Unit):=[("math/bits.deBruijn32tab",Rows.laid_math_bits_deBruijn32tab),("math/bits.deBruijn64tab",Rows.laid_math_bits_deBruijn64tab),("internal/strconv.uint64pow10",Rows.laid_internal_strconv_uint64pow10)]
def zHd (os:Os)(args:Array aF):laidMetH aK U6 ((aE.doorLaid aK 400 os).forCall (λ_ _=>0) ⟨#[],args,[]⟩).memory:=
 laidMetH_of_parts3 (fuel:=8) (laidMet_of_run' 8 aQ aQ) aQ aQ
def pow_eq:Rows.laid_internal_strconv_uint64pow10 (H:=Unit)=Lib.tabData .u64 Lib.pow10Tab:=aQ
variable {W:aE}
theorem of_laid (h:laidMetH aK U6 W):vL W:=by
 rw[zv0 _ _ _ aQ] at h;obtain⟨ps,⟨g0,t0,xP,f0,p0,q0,S8,zh6,fK,Sv,⟨g1,t1,uA,f1,p1,q1,qX,Gq,pD,No,⟨g2,t2,zxe,f2,p2,q2,yG,zrO,xJ,Ag,_,_⟩,_⟩,_⟩,_⟩:=h;have e1:aK.globalNamed "internal/strconv.uint64pow10" =some 0:=aQ;have e2:(aK.globals[0]?).map (·.type)=some 170:=aQ;obtain rfl:=cE (e1.symm.trans yG);obtain rfl:=cE (e2.symm.trans zrO);rw[pow_eq] at Ag;unfold vL zfM;rw[xJ,<-Lib.cells_of_tab Tryz.underlying170 Tryz.underlying89 aQ aQ Ag]
theorem zdD {nm:String}{g:Nat}{cs:Array aF}(hg:aK.globalNamed nm=some g)(h:W.var? aK nm=some cs):∃T fz,W.heap[g]? =some (.cells cs T fz):=by
 unfold zer at h;rw[hg] at h;simp only[vD] at h;split at h
 .rename_i c T fz hb
  injection h with h;subst h;exact⟨T,fz,hb⟩
 .cases h
theorem zCo (g:Nat)(h:Ap aK g=true):aK.globalNamed "math/bits.deBruijn32tab" =some g\/aK.globalNamed "math/bits.deBruijn64tab" =some g\/aK.globalNamed "internal/strconv.uint64pow10" =some g:=by
 have tF:((gF aK.globals.size).all λg=>!(Ap aK g)||decide (aK.globalNamed "math/bits.deBruijn32tab" =some g)||decide (aK.globalNamed "math/bits.deBruijn64tab" =some g)||decide (aK.globalNamed "internal/strconv.uint64pow10" =some g))=true:=aQ;have aN:g<Tryz.prog.globals.size:=by
  unfold Ap at h
  cases e:aK.globals[g]? with
  |none=>rw[e] at h;cases h
  |some x=>exact(dP.1 e).1
 have:=List.all_eq_true.1 tF g (List.mem_range.2 aN);simp only[h,Bool.not_true,Bool.false_or,Ey,decide_eq_true_eq] at this;rcases this with(h|h)|h
 .exact .inl h
 .exact .inr (.inl h)
 .exact .inr (.inr h)
theorem zyF (h:laidMetH aK U6 W)(g:Nat)(hg:Ap aK g=true):∃c T fz,W.heap[g]? =some (.cells c T fz):=by
 rw[zv0 _ _ _ aQ] at h;obtain⟨ps,⟨g0,t0,xP,f0,p0,q0,S8,zh6,fK,Sv,⟨g1,t1,uA,f1,p1,q1,qX,Gq,pD,No,⟨g2,t2,zxe,f2,p2,q2,yG,zrO,xJ,Ag,_,_⟩,_⟩,_⟩,_⟩:=h;rcases zCo g hg with e|e|e
 .exact⟨xP,zdD e fK⟩
 .exact⟨uA,zdD e pD⟩
 .exact⟨zxe,zdD e xJ⟩
def Vf (A:Option bL)(b:Nat):Bool:=match A with|some a=>decide (a.block=b)|none=>false
def K5 (A1 A2 A3:Option bL)(b:Nat):Bool:=Ap aK b||Vf A1 b||Vf A2 b||Vf A3 b
variable {A:Option bL}
theorem ziO {b:Nat}(h:Vf A b=true):∃a,A=some a/\a.block=b:=by
 unfold Vf at h
 cases A with
 |none=>cases h
 |some a=>exact⟨a,rfl,of_decide_eq_true h⟩
theorem zIH {A1 A2 A3:Option bL}(hL:laidMetH aK U6 W)(h1:∀a,A1=some a->a.spot=none/\∃c T fz,W.heap[a.block]? =some (.cells c T fz))(h2:∀a,A2=some a->a.spot=none/\∃c T fz,W.heap[a.block]? =some (.cells c T fz))(h3:∀a,A3=some a->a.spot=none/\∃c T fz,W.heap[a.block]? =some (.cells c T fz))(b:Nat)(hb:K5 A1 A2 A3 b=true):∃c T fz,W.heap[b]? =some (.cells c T fz):=by
 unfold K5 at hb;simp only[Ey] at hb;rcases hb with((hb|hb)|hb)|hb
 .exact zyF hL b hb
 .obtain⟨a,e,rfl⟩:=ziO hb;exact(h1 a e).2
 .obtain⟨a,e,rfl⟩:=ziO hb;exact(h2 a e).2
 .obtain⟨a,e,rfl⟩:=ziO hb;exact(h3 a e).2
variable {X:Nat->Bool}
theorem zyU (h:∀a,A=some a->X a.block=true):wK (R0 X) A A:=by
 cases A with
 |none=>exact .none
 |some a=>
  have:=h a rfl;obtain⟨bl,of,sp⟩:=a;exact .some (.mk ⟨rfl,this⟩)
variable {S:aP->Prop}
theorem zG8 {lo hi s n c:Nat}{xs:List aF}(hX:∀b,X b=true->∃c T fz,W.heap[b]? =some (.cells c T fz))(h:∀a,A=some a->X a.block=true)(hs:b7 W lo hi s A n c xs)(hp:∀v∈xs,Oa v):b7 (Cs S X W) 0 (Cs S X W).heap.size s A n c xs:=
 ⟨hs.len,hs.le,hs.cap,λhn=>by
  obtain⟨b,off,e,e1,e2,e3,e4⟩:=hs.at_ hn;exact⟨b,off,e,jT _,by rw[zfb];exact e3,by rw[zfb];exact e3,λj v hv=>zBJ hX (h _ e) (e4 j v hv) (hp v (dZ hv))⟩⟩
theorem zEj (hX:∀b,X b=true->∃c T fz,W.heap[b]? =some (.cells c T fz))(hT:∀g,Ap aK g=true->X g=true):Gf (Cs S X W):=by
 intro g hg;obtain⟨c,T,fz,hc⟩:=hX g (hT g hg);refine⟨_,_,_,zam hc (hT g hg),λv hv=>?_⟩;obtain⟨u,_,rfl⟩:=Array.mem_map.1 hv;exact(zgN S u).1
theorem gv_ints (S:aP->Prop)(zs:List Int):((zs.map λz=>Pq .u64 z).toArray).map (gv S)=(zs.map λz=>Pq .u64 z).toArray:=by
 apply Ik;simp only[Array.toList_map,List.map_map];exact List.map_congr_left λz _=>(zgN S _).2.2 (.inl ⟨_,_,rfl⟩)
theorem zyT (hX:∀b,X b=true->∃c T fz,W.heap[b]? =some (.cells c T fz))(hT:∀g,Ap aK g=true->X g=true)(h:vL W):vL (Cs S X W):=by
 have e1:aK.globalNamed "internal/strconv.uint64pow10" =some 0:=aQ;have e2:Ap aK 0=true:=aQ;unfold vL zfM at*;obtain⟨T,fz,hc⟩:=zdD e1 h;have kI:=zam (S:=S) hc (hT _ e2);unfold zer;rw[e1];simp only[vD,kI];exact congrArg some (gv_ints S _)
end Go.Proofs.YtfcjiloojkjaeaaGreatDoor
namespace Go.Proofs.YtfcjiloojkjaeaaGreatDoor
theorem oR {a b:Bool}(h:a=true)(k:b=true):(a&&b)=true:=by rw[h,k];rfl
namespace Facts
def zh0:laidOutB Tryz.pinned.checked.prog=true:=aQ
def mapsRowed:mapsRowed Tryz.pinned.checked.prog=true:=aQ
def stops:(Tryz.pinned.checked.prog.stops==[])=true:=aQ
def stopKnobs:(Tryz.pinned.checked.prog.stopKnobs==[])=true:=aQ
def plainKeys:(Rows.fnExactRunOfficeRow.plainKeys==Tryz.pinned.checked.prog.plainKeys)=true:=aQ
def stopsHeard:Tryz.pinned.checked.prog.stopsHeard=true:=aQ
def mayEnter:Tryz.pinned.checked.prog.mayEnter=true:=aQ
def lifted:(Rows.fnExactRunOfficeRow.lifted==Tryz.pinned.checked.prog.liftsFinal)=true:=aQ
def make:(Tryz.pinned.checked.prog.make==some Rows.fnExactRunOfficeRow.make)=true:=aQ
def mainIs:Tryz.pinned.checked.prog.mainIs=some (Rows.fnExactRunOfficeCard.stood.harness.1,Rows.fnExactRunOfficeCard.stood.harness.2.toList):=aQ
def looks:Rows.fnExactRunOfficeCard.stood.looks=Tryz.pinned.checked.prog.looks []:=aQ
end Facts
end Go.Proofs.YtfcjiloojkjaeaaGreatDoor
namespace Go.Proofs.YtfcjiloojkjaeaaGreatDoor
open Go.RowKit
structure Bytes (w:aE)(g:Nat)(A:Option bL)(n:Nat):Prop where
 le:n<=2000
 at_:0<n->∃b off,A=some ⟨b,off,none⟩/\b<g/\∀j,j<n->∃v:Int,w.cell? ⟨b,off+j,none⟩=some (.int .u8 v)/\0<=v/\v<=255
structure RdX (w:aE)(g:Nat)(A:Option bL)(n c p:Nat):Prop where
 blk:w.heap[g]? =some (.cells #[.slice A n c,.int .i64 (p:Int)] 105)
 bytes:Bytes w g A n
 lt:p<1000000000
def Rd (w:aE)(g:Nat)(A:Option bL)(n c q:Nat):Prop:=∃p,p<=q/\RdX w g A n c p
structure Code (w:aE)(A:Option bL)(n c:Nat):Prop where
 le:n<=c
 cap:c<=maxLen
 at_:0<n->∃b off,A=some ⟨b,off,none⟩/\b<w.heap.size/\∀j,j<n->∃v:Int,w.cell? ⟨b,off+j,none⟩=some (.int .u8 v)/\0<=v/\v<=255
structure DSt (w0:aE)(g:Nat)(A:Option bL)(n c q:Nat)(E s:Nat)(v:aF)(k:Nat)(xs:List aF)(W:aE):Prop where
 rd:Rd W g A n c q
 own:W.ownsRow w0.heap.size E s v k xs
 gr:w0.grownBy W (some g)
 hg:g<w0.heap.size
structure RsSt (w0:aE)(g:Nat)(A:Option bL)(n c q rb:Nat)(T:aM)(zs:Array aF)(W:aE):Prop where
 rd:Rd W g A n c q
 gr:w0.grownBy W (some g)
 hg:g<w0.heap.size
 res:W.heap[rb]? =some (.cells zs T)
 rlo:w0.heap.size<=rb
structure BxSt (w0:aE)(g:Nat)(A:Option bL)(n c q rb b:Nat)(T:aM)(zs cs:Array aF)(W:aE):Prop where
 rs:RsSt w0 g A n c q rb T zs W
 blk:W.heap[b]? =some (.cells cs T)
 lo:w0.heap.size<=b/\b≠rb
section
variable {w0:aE}{g:Nat}{A:Option bL}{n c q rb b:Nat}{T:aM}{zs cs:Array aF}{W W':aE}
end
variable {w:aE}
def zJH {B:Nat}{W:aE}(h:bV B w W)(o:Obj)(hB:B<=W.heap.size):bV B w (W.alloc o):=h.trans ((dN (eF W.heap.size W) o).mono hB)
theorem zFH {b c:Nat}{cs ds:Array aF}{T U:aM}{p q:Nat×Nat}(h:w.heap[b]? =some (.cells cs T p))(k:w.heap[c]? =some (.cells ds U q))(aT:T≠U):b≠c:=by
 intro e;subst e;rw[h] at k;injection k with k;injection k with _ k;exact aT k
variable {xs:List aF}
theorem ztH {E s:Nat}{base g n c:Nat}(h:w.ownsRow base E s (.slice (some ⟨g,0,none⟩) n c) n xs):base<=g/\∃cs,w.heap[g]? =some (.cells cs E):=by
 obtain⟨_,h|⟨g',cap,cur,e,h1,h2,h3⟩⟩:=h
 .cases h.1
 .injection e with e1 e2 e3;injection e1 with e1;injection e1 with e1 _;subst e1
  exact⟨h1,cur,h2⟩
def Et (b:bX)(n:Nat):List Int:=(gF n).map λi:Nat=>dA b.recs ((i:Int)+1)
theorem zxH (b:bX)(n:Nat):Et b (n+1)=Et b n++[dA b.recs ((n:Int)+1)]:=by unfold Et;rw[List.range_succ,List.map_append];rfl
def Oh (o:jG)(es:List dD):List Int:=if jP o es then Et (Gx o es) o.op.toNat else[]
theorem zBb (o:jG)(lo hi n c:Nat)(A:Option bL)(es:List dD)(w:aE)(h:b7 w lo hi 3 A n c (lN es))(hn:n<=1048576)(Se:hi<=w.heap.size):
 fN aK 20 #[.agg #[.int .i64 o.ln,.int .i64 o.op,.int .i64 o.pt],.slice A n c] w λx w'=>∃g cl,x=.returned (.slice (some ⟨g,0,none⟩) (Oh o es).length cl)/\
  w'.ownsRow w.heap.size 3 1 (.slice (some ⟨g,0,none⟩) (Oh o es).length cl) (Oh o es).length (eJ (Oh o es))/\bV w.heap.size w w':=by
 obtain⟨i0,eV,gX,eB,jZ⟩:=info_parts Xq;have HI:=aD (And.intro eV (And.intro gX (And.intro eB jZ)));clear eV gX eB jZ;obtain⟨O,hO⟩:=aU (.cells #[.int .i64 o.ln,.int .i64 o.op,.int .i64 o.pt] 29:Obj);have rC:=aD (dN (dN (eF w.heap.size w) O) (.cells #[] 3));have l5:=aD (h.below rC.o);have HO:=aD hO;have hz:((w.alloc O).alloc (.cells #[] 3)).heap.size=w.heap.size+2:=aO;have HZ:=aD hz;clear h hz hO
 go_enter Tryz.func20,Tryz.ntmps20
 go_upto_region 2 with fail
 rw[<-HO.o];obtain⟨W1,dH⟩:=aU ((w.alloc O).alloc (.cells #[] 3));have hk:=dB (lF w O) (.cells #[] 3);have hg:=lF (w.alloc O) (.cells #[] 3);have es:(w.alloc O).heap.size=w.heap.size+1:=aO;rw[es] at hg
 try rw[es]
 rw[<-dH] at rC l5 HZ hk hg⊢;rw[HO.o] at hk;have q:=aJ hk;obtain⟨q0,q1,q2⟩:=zyd q;clear dH es;have HK:=aD hk;have HG:=aD hg;clear hk hg q
 go_upto_region 3 with(go_at_call 40;refine(zyD o lo hi n c A es W1 l5.o hn (by have:=HZ.o;omega)).mono ?_;rintro x w2 ⟨v,rfl,bU,rG⟩;obtain⟨r5,fF⟩:=aU (Gx o es:bX);obtain⟨t5,oQ⟩:=aU (jP o es:Bool);rw[<-fF] at bU⊢;rw[<-oQ];have pL:=aD fF;have xL:=aD oQ;have vP:=aD bU;have pZ:=aD rG;clear fF oQ bU rG q0 q1 q2)
 have hz:=HZ.o;have s2:=pZ.o.size;have HF:=aD (show bV w.heap.size w (w2.alloc (yA v r5)) from rC.o.trans (zJH (pZ.o.mono aC) _ aC));have zrp:=aD (show(w2.alloc (yA v r5)).heap[w.heap.size]? =some (.cells #[.int .i64 o.ln,.int .i64 o.op,.int .i64 o.pt] 29) from dB ((pZ.o.block _ (fP HK.o)).trans HK.o) _);have zlY:=aD (show(w2.alloc (yA v r5)).heap[w.heap.size+1]? =some (.cells #[] 3) from dB ((pZ.o.block _ (fP HG.o)).trans HG.o) _);have zmX:=aD (lF w2 (yA v r5));have Hh:=aD (vP.o.alloc (yA v r5)).rc;obtain⟨N,hN⟩:=aU w2.heap.size;obtain⟨W3,pY⟩:=aU (w2.alloc (yA v r5));rw[<-pY] at HF zrp zlY zmX Hh⊢;rw[<-hN] at zmX⊢;clear pY hN hz s2 pZ vP HK HG;cases t5
 .go_wp2
  go_loopw [5,8] (λx i wr=>x=.slice (some ⟨w.heap.size+1,0,none⟩) 0 0/\i=.int .i64 1/\wr=W3) (λ_ _ _=>0)
  case atStart=>exact⟨rfl,rfl,rfl⟩
  case round=>
   obtain⟨rfl,rfl,rfl⟩:=hrel;go_wp2;go_ret;have e:Oh o es=[]:=by unfold Oh;rw[if_neg (by rw[<-xL.o];simp)]
   rw[e];exact⟨w.heap.size+1,0,rfl,L5 aC zlY.o,HF.o⟩
 .have HE:=aD (show Oh o es=Et r5 o.op.toNat by unfold Oh;rw[if_pos xL.o.symm,pL.o])
  have hop:=(Ad (show qJ o=true by have h:=xL.o.symm;unfold jP at h;simp at h;exact h.1.1)).2.2;have Ol:=aD hop;obtain⟨m,hm⟩:=aU o.op.toNat;have yK:o.op=(m:Int):=aC;rw[<-hm] at HE;have HM:=aD yK;have Iq:=aD (show r5.recs.length<=1048576 by
   rw[pL.o];unfold Gx;rw[if_pos xL.o.symm];have h:=(P7 xL.o.symm es.length (aX _)).2.1.nrec;rw[zg1] at h;have:es.length<=60:=by have h:=xL.o.symm;unfold jP at h;simp at h;exact h.1.2
   omega)
  clear hm yK hop;go_wp2
  go_loopw [5,8] (λx i wr=>∃(k g cl:Nat),k<=m/\i=.int .i64 ((k:Int)+1)/\x=.slice (some ⟨g,0,none⟩) k cl/\bV w.heap.size w wr/\wr.ownsRow w.heap.size 3 1 (.slice (some ⟨g,0,none⟩) k cl) k (eJ (Et r5 k))/\wr.heap[w.heap.size]? =some (.cells #[.int .i64 o.ln,.int .i64 o.op,.int .i64 o.pt] 29)/\wr.heap[N]? =some (yA v r5)/\wr.heap[v.gR]? =W3.heap[v.gR]?) (λ_ i _=>m+1-(intOf i).toNat)
  case atStart=>exact⟨0,w.heap.size+1,0,jT _,rfl,rfl,HF.o,L5 aC zlY.o,zrp.o,zmX.o,rfl⟩
  case round=>
   obtain⟨k,g,cl,hk,rfl,rfl,B,cP,Pd,X3,qM⟩:=hrel;have Ja:=aD cP;have HB:=aD B;have zo1:=aD Pd;have zpi:=aD X3;have Ln:=aD qM;have zjY:=B.size;have c1:=aJ Pd 1;have cR:=aJ X3 4;clear cP B Pd X3 qM;have yK:=HM.o;by_cases aN:k<m
   .have hle:(k:Int)+1<=o.op:=aC
    have zKv:m<=4:=by have:=Ol.o.1;have:=Ol.o.2;omega
    obtain⟨eV,gX,eB,jZ⟩:=HI.o;have HH:=aD eV;clear eV yK;have tP:=aD (zZ (Bi Hh.o Ln.o) aH)
    go_wp2_with (first
     |(go_at_call 45;refine(On _ _ _ _ _ r5.recs ((k:Int)+1) _ tP.o Iq.o).mono ?_;rintro y w9 ⟨rfl,jH⟩;obtain rfl:=jH.symm)
     |(at_builtin;refine znx _ rfl (.tmp 25) (.tmp 30) 38 rfl w.heap.size 3 i0 (.int .i64 0) 1 8 Tryz.underlying38 HH.o gX eB jZ rfl aH (.slice (some ⟨g,0,none⟩) k cl) k (eJ (Et r5 k)) rfl (zH Ja.o ?c1) aO ⟨_,0,none⟩ 1 1 [.int .i64 (dA r5.recs ((k:Int)+1))] rfl rfl ?c2 Lm ?c5 ?c6 ?c7 ?_;(case c1=>exact λb hb=>qO _ _ b hb);(case c2=>exact aE.news_of_block (cs:=#[.int .i64 (dA r5.recs ((k:Int)+1))]) (mI _ _ aO));(case c5=>unfold maxLen;omega);(case c6=>omega);(case c7=>(simp;omega));intro g1 zG7 w1 qE pU B1;have y9:=aD qE;have zBw:=aD B1;have Tq:=aD pU;clear qE pU B1))
    go_roundw
    case rel=>
     have ne:∀{b:Nat} {cs:Array aF} {T:aM},wr.heap[b]? =some (.cells cs T)->T≠3->w1.heap[b]? =wr.heap[b]? :=λ{b cs T} hb hT=>by
      obtain⟨_,q,hq⟩:=ztH Ja.o;have aT:b≠g:=zFH hb hq hT;have aN:=fP hb;rw[Tq.o.block b q8 (by simp[D8];exact aT)];exact qO _ _ b aN
     refine⟨k+1,g1,zG7,aC,mV,rfl,(dN HB.o _).trans zBw.o,?_,(ne zo1.o aH).trans zo1.o,(ne zpi.o aH).trans zpi.o,?_⟩
     .have e:eJ (Et r5 (k+1))=eJ (Et r5 k)++[.int .i64 (dA r5.recs ((k:Int)+1))]:=by rw[zxH];simp[eJ]
      rw[e];exact y9.o
     .obtain⟨_,q,hq⟩:=ztH Hh.o
      exact(ne (Ln.o.trans hq) aH).trans Ln.o
    case measure=>simp[intOf];omega
   .have e:k=m:=aC
    subst e;have Aq:¬(k:Int)+1<=o.op:=aC;clear yK;go_wp2;go_ret;rw[HE.o];have hl:(Et r5 k).length=k:=by unfold Et;simp
    rw[hl];exact⟨g,cl,rfl,Ja.o,HB.o⟩
theorem zrZ (o:jG)(es:List dD):(C4 o es).length<=60:=by
 unfold C4;split
 .next h=>
  rw[zlX];unfold jP qJ at h;simp at h;omega
 .simp
theorem zkR {lo E s n:Nat}{v:aF}(h:w.ownsRow lo E s v n xs)(hs:0<s)(hl:n<=1048576):∃A m c,v=.slice A m c/\m<=1048576/\rJ E s w lo w.heap.size A m c xs:=by
 obtain⟨A,c,e,o⟩:=zmS h hs;exact⟨A,n,c,e,hl,o⟩
theorem zsh (b:bX):∀n,U1 b n=Et b n
 |0=>rfl
 |n+1=>by rw[zxH,<-zsh b n];rfl
theorem zAM (o:jG)(es:List dD):(if jP o es then Et (Gx o es) o.op.toNat else[])=C4 o es:=by
 unfold C4;split
 .next h=>
  rw[zsh];have:Gx o es=Eu o es:=by unfold Gx;rw[if_pos h]
  rw[this]
 .rfl
theorem zDJ (o:jG){lo hi n c:Nat}{A:Option bL}{es:List dD}(h:b7 w lo hi 3 A n c (lN es))(hn:n<=1048576)(Se:hi<=w.heap.size):
 fN aK 20 #[.agg #[.int .i64 o.ln,.int .i64 o.op,.int .i64 o.pt],.slice A n c] w λx w'=>∃A n c,x=.returned (.slice A n c)/\n<=1048576/\rJ 3 1 w' w.heap.size w'.heap.size A n c (eJ (C4 o es))/\bV w.heap.size w w':=by
 refine(zBb o lo hi n c A es w h hn Se).mono ?_;rintro x w' ⟨g,c',rfl,hr,hb⟩;rw[show Oh o es=C4 o es from zAM o es] at hr⊢;obtain⟨A',m,c2,e,l,ow⟩:=zkR hr aH (eG (zrZ o es) aC);injection e with e1 e2 e3;subst e1 e2 e3;exact⟨_,_,_,rfl,l,ow,hb⟩
end Go.Proofs.YtfcjiloojkjaeaaGreatDoor
namespace Go.Proofs.YtfcjiloojkjaeaaGreatDoor
open Go.RowKit Go.Mt Go.Conc Go.Tt
def zcG:Go.Code:=(Tryz.f4.body).getD .skip
def rLTC7:Go.Code:=match zcG with| .seq _ (.seq _ (.seq _ (.seq _ (.seq _ (.seq _ (.seq (a) _))))))=>a|_=>.skip
def rLTC24:Go.Code:=match zcG with| .seq _ (.seq _ (.seq _ (.seq _ (.seq _ (.seq _ (.seq _ (.seq _ (.seq _ (.seq _ (.seq _ (.seq _ (.seq _ (.seq _ (.seq _ (.seq _ (.seq _ (.seq _ (.seq (a) _))))))))))))))))))=>a|_=>.skip
def zeS:Array Oper:=match rLTC7 with| .region _ ops _=>ops|_=>#[]
abbrev oLTC7_1:Oper:=⟨some 26,.call ⟨.value (.func 12),#[.tmp 25],#[23]⟩,29,"exact.go:3391",#[⟨0,.data⟩],none⟩
def zto:zeS[1]? =some oLTC7_1:=rfl
abbrev zrW:Oper:=⟨some 28,.call ⟨.value (.func 21),#[.tmp 26,.tmp 27],#[29,31]⟩,38,"exact.go:3391",#[⟨1,.data⟩,⟨2,.data⟩,⟨1,.chain⟩],none⟩
def zsb:zeS[3]? =some zrW:=rfl
def zcd:Array Oper:=match rLTC24 with| .region _ ops _=>ops|_=>#[]
abbrev zGL:Oper:=⟨some 61,.call ⟨.value (.func 12),#[.tmp 60],#[23]⟩,29,"exact.go:3413",#[⟨0,.data⟩],none⟩
def zvk:zcd[1]? =some zGL:=rfl
abbrev zFl:Oper:=⟨some 63,.call ⟨.value (.func 13),#[.tmp 62],#[24]⟩,31,"exact.go:3413",#[⟨2,.data⟩,⟨1,.chain⟩],none⟩
def zs2:zcd[3]? =some zFl:=rfl
abbrev zuv:Oper:=⟨some 64,.call ⟨.value (.func 21),#[.tmp 61,.tmp 63],#[29,31]⟩,38,"exact.go:3413",#[⟨1,.data⟩,⟨3,.data⟩,⟨3,.chain⟩],none⟩
def zsS:zcd[4]? =some zuv:=rfl
section
variable {St:Nat->Prop}{W0:aE}{Post:aF->aE->Prop}
theorem zJJ {w:aE}{A1:Option bL}{n1 c1:Nat}{o:jG}{es:List dD}(h1:b7 w 0 w.heap.size 3 A1 n1 c1 (lN es))(No:∀d∈es,d.k.size<=maxLen)(hT:vL w)(Db:Gf w)(hP:∀(R:Pr) (W:aE),Kp W0 R St W->Post (.bool true) W):
 JS St W0 Post ⟨4,#[.agg #[.int .i64 o.ln,.int .i64 o.op,.int .i64 o.pt],.slice A1 n1 c1,aA,aA,aA,aA,aA,aA,aA,aA,aA,aA,aA,aA,aA,aA,aA,aA,aA,aA,aA,aA,aA,aA,aA,aA,aA,aA,aA,aA,aA,aA,aA,aA,aA,aA,aA,aA,aA,aA,aA,aA,aA,aA,aA,aA,aA,aA,aA,aA,aA,aA,aA,aA,aA,aA,aA,aA,aA,aA,aA,aA,aA,aA,aA,aA,aA,aA,aA,aA,aA,aA,aA,aA,aA,aA,aA],[.code zcG],false⟩ [] w:=by
 have L:=lvF;have cT:oV olL 4=false:=aQ;have Ns:∀(tmps:Array aF) (td:List eE) (w':aE),tmps.getD 4 aA=.bool true->JS St W0 Post ⟨4,tmps,td,true⟩ [] w':=by
  intro tmps td w' h6;refine JO.fin L (t:=4) rfl Tryz.func4 rfl aQ λK R W v' hv hk=>?_;have Ke:VR (SF gE) K R (tmps.getD 4 aA) v':=hv;rw[h6] at Ke;cases Ke;exact hP R W hk
 have B:=Bl.refl w.heap.size w;have zJO:=aD (beq_self_eq_true (es));have zcU:=aD (beq_self_eq_true (C4 o es));have zn2:=aD (show(C4 o es).length<=1048576 from eG (zrZ o es) aC);refine JO.sq L cT ?_;refine JO.pQ L cT (λTp Q HQ=>?_);replace h1:=h1.tp Tp 0;replace B:=B.tp Tp 0;have s1:w.heap.size<=(Tt.tp w Tp 0).heap.size:=aX _;generalize Tt.tp w Tp 0=w1 at B h1 s1⊢;go_wp2;refine HQ.o _ _ ?_;clear HQ;obtain⟨g2,yG⟩:=aU w1.heap.size;have s2:w1.heap.size<=(w1.alloc (.cells #[.int .i64 o.ln,.int .i64 o.op,.int .i64 o.pt] 23)).heap.size:=aO;replace B:=B.below' (dN (eF _ _) (.cells #[.int .i64 o.ln,.int .i64 o.op,.int .i64 o.pt] 23)) aC;replace h1:=h1.alloc (.cells #[.int .i64 o.ln,.int .i64 o.op,.int .i64 o.pt] 23);have cI:(w1.alloc (.cells #[.int .i64 o.ln,.int .i64 o.op,.int .i64 o.pt] 23)).heap[g2]? =some (.cells #[.int .i64 o.ln,.int .i64 o.op,.int .i64 o.pt] 23):=by rw[yG];exact Ex w1 _
 rw[<-yG];generalize w1.alloc (.cells #[.int .i64 o.ln,.int .i64 o.op,.int .i64 o.pt] 23)=w2 at B h1 s2 cI⊢;have zKn:w.heap.size<=g2:=aC;have zLG:=fP cI;clear yG;refine JO.sq L cT ?_;refine JO.pQ L cT (λTp Q HQ=>?_);replace h1:=h1.tp Tp 0;replace cI:=kW cI Tp 0;replace B:=B.tp Tp 0;have s3:w2.heap.size<=(Tt.tp w2 Tp 0).heap.size:=aX _;generalize Tt.tp w2 Tp 0=w3 at B h1 cI s3⊢;go_wp2;refine HQ.o _ _ ?_;clear HQ;refine JO.sq L cT ?_;refine JO.pQ L cT (λTp Q HQ=>?_);replace h1:=h1.tp Tp 0;replace cI:=kW cI Tp 0;replace B:=B.tp Tp 0;have s4:w3.heap.size<=(Tt.tp w3 Tp 0).heap.size:=aX _;generalize Tt.tp w3 Tp 0=w4 at B h1 cI s4⊢;have zCn:True:=trivial
 go_wp2_with (go_at_call 10;clear zCn;refine(zIM (1048576) h1 No aC aC).mono ?_;rintro e w5 ⟨rfl,b5⟩)
 have s5:=b5.size;replace h1:=h1.below b5;replace cI:=(eI b5 cI).1;replace B:=B.below' b5 aC;clear b5;go_wp2;refine HQ.o _ _ ?_;clear HQ;refine JO.sq L cT ?_;refine JO.sq L cT ?_;refine JO.pQ L cT (λTp Q HQ=>?_);replace h1:=h1.tp Tp 0;replace cI:=kW cI Tp 0;replace B:=B.tp Tp 0;have s6:w5.heap.size<=(Tt.tp w5 Tp 0).heap.size:=aX _;generalize Tt.tp w5 Tp 0=w6 at B h1 cI s6⊢;go_wp2;refine HQ.o _ _ ?_;clear HQ;by_cases zux:Hr (1048576) n1 es<0
 .refine JO.cd L true cT ?_ (by show M5 (decide _)=_;rw[decide_eq_true zux])
  refine JO.sq L cT ?_;refine JO.pQ L cT (λTp Q HQ=>?_);go_wp2;refine HQ.o _ _ ?_;refine JO.rt L cT ?_;exact Ns _ _ _ rfl
 refine JO.cd L false cT ?_ (by show M5 (decide _)=_;rw[decide_eq_false zux]);refine JO.sk L cT ?_;have l1:n1<=1048576:=(zHG (by omega:0<=Hr (1048576) n1 es) aC).1;have zM0:Hr (1048576) n1 es<=1048576:=Int.le_trans (zy3 aC) aC;refine JO.sq L cT ?_;refine JO.pQ L cT (λTp Q HQ=>?_);replace h1:=h1.tp Tp 0;replace cI:=kW cI Tp 0;replace B:=B.tp Tp 0;have s7:w6.heap.size<=(Tt.tp w6 Tp 0).heap.size:=aX _;generalize Tt.tp w6 Tp 0=w7 at B h1 cI s7⊢;have zKW:=aJ cI 0;have zL5:=aJ cI 1;have zMJ:=aJ cI 2;have zzN:True:=trivial
 go_wp2_with (go_at_call 12;clear zzN;refine(zre o.ln o.op o.pt _).mono ?_;rintro e w8 ⟨rfl,b8⟩)
 have s8:=b8.size;replace h1:=h1.below b8;replace cI:=(eI b8 cI).1;replace B:=B.below' b8 aC;clear b8;have zIA:True:=trivial
 go_wp2_with (go_at_call 13;clear zIA;refine(zdk h1 l1).mono ?_;rintro e w9 ⟨zKt,zLw,rfl,zM9,dO,zKz,dY,b9⟩)
 have s9:=b9.size;replace h1:=h1.below b9;replace cI:=(eI b9 cI).1;replace B:=B.below' b9 aC;clear b9;have zL8:=fP dO;have zDN:True:=trivial
 go_wp2_with (go_at_call 20;clear zDN;refine(zDJ o dY.slc l1 aC).mono ?_;rintro e vU ⟨RA,Rn,Rc,rfl,Rl,R,Q1⟩)
 have zMr:=Q1.size;replace h1:=h1.below Q1;replace cI:=(eI Q1 cI).1;replace dY:=dY.below Q1;replace dO:=(eI Q1 dO).1;replace B:=B.below' Q1 aC;clear Q1;go_wp2;refine HQ.o _ _ ?_;clear HQ;refine JO.sq L cT ?_;refine JO.pQ L cT (λTp Q HQ=>?_);replace h1:=h1.tp Tp 0;replace cI:=kW cI Tp 0;replace dY:=dY.tp Tp 0;replace dO:=kW dO Tp 0;replace R:=R.tp Tp 0;replace B:=B.tp Tp 0;have zD3:vU.heap.size<=(Tt.tp vU Tp 0).heap.size:=aX _;generalize Tt.tp vU Tp 0=Cu at B h1 cI dY dO R zD3⊢;have zCl:True:=trivial
 go_wp2_with (go_at_call 13;clear zCl;refine(zdk h1 l1).mono ?_;rintro e Ld ⟨zwe,zLq,rfl,zJ3,rY,zKX,rS,Qj⟩)
 have zLZ:=Qj.size;replace h1:=h1.below Qj;replace cI:=(eI Qj cI).1;replace dY:=dY.below Qj;replace dO:=(eI Qj dO).1;replace R:=R.below Qj;replace B:=B.below' Qj aC;clear Qj;have zLO:=fP rY;go_wp2;refine HQ.o _ _ ?_;clear HQ;refine JO.sq L cT ?_;generalize jC:([Nr _]:List eE)=K0;refine JO.rn L cT zeS [0,1,2,3,4] ?_;refine JO.mv L cT (.agg #[.int .i64 o.ln,.int .i64 o.op,.int .i64 o.pt]) ?_ (hx:=(λT' e=>zv5 (w:=Tt.tp Ld T' e) (t:=23) (x:=.tmp 2) (b:=g2) rfl cI rfl zn6 rfl aQ));refine JO.callV L (xs:=#[.agg #[.int .i64 o.ln,.int .i64 o.op,.int .i64 o.pt]]) (Q:=Pc o.ln o.op o.pt Ld) rfl rfl zto rfl rfl aQ cT aQ V5 (λv w' T e h=>Pc.tp h T e) (zu3 o.ln o.op o.pt Ld) (λv zkc hq=>?_);obtain⟨rfl,J2⟩:=hq;have zK1:=J2.size;replace h1:=h1.bls J2 (aX _);replace cI:=Ah J2 cI (fP cI);replace dY:=dY.bls J2 (aX _);replace dO:=Ah J2 dO (fP dO);replace R:=R.bls J2 (aX _);replace rS:=rS.bls J2 (aX _);replace rY:=Ah J2 rY (fP rY);replace B:=B.then J2 aC;clear J2;simp only[Fm.fin,zto,vD,gK,dU,dV];refine JO.mv L cT (.slice (some ⟨zwe,0,none⟩) n1 n1) ?_;refine zvL (ops:=zeS) (i:=3) (oo:=zrW) (A:=some ⟨zwe,0,none⟩) (o:=o) (es:=es) rfl cT rfl zsb rfl rfl V5 (rS.slc.wide (jT _) aC) l1 (hT.bls B (aX _)) (Db.bls B (aX _)) (λzhp zLc Mf zrD=>?_);have zLJ:=Mf.size;replace h1:=h1.bls Mf (aX _);replace cI:=Ah Mf cI (fP cI);replace dY:=dY.bls Mf (aX _);replace dO:=Ah Mf dO (fP dO);replace R:=R.bls Mf (aX _);replace rS:=rS.bls Mf (aX _);replace rY:=Ah Mf rY (fP rY);replace B:=B.then Mf aC;clear Mf;obtain⟨zy4,zI5,zCJ,rfl,zdh,G3⟩:=zkR zrD aH zn2.o;clear zrD;simp only[Fm.fin,zsb,vD,gK,dU,dV];refine JO.mv L cT (.slice zy4 zI5 zCJ) ?_;refine JO.regEnd L cT ?_;subst jC;refine JO.sq L cT ?_;refine JO.pQ L cT (λTp Q HQ=>?_);replace h1:=h1.tp Tp 0;replace cI:=kW cI Tp 0;replace dY:=dY.tp Tp 0;replace dO:=kW dO Tp 0;replace R:=R.tp Tp 0;replace rS:=rS.tp Tp 0;replace rY:=kW rY Tp 0;replace G3:=G3.tp Tp 0;replace B:=B.tp Tp 0;have zJK:zhp.heap.size<=(Tt.tp zhp Tp 0).heap.size:=aX _;generalize Tt.tp zhp Tp 0=w15 at B h1 cI dY dO R rS rY G3 zJK⊢;have zBA:True:=trivial
 go_wp2_with (go_at_call 22;clear zBA;refine(zmz G3.slc R.slc zdh Rl).mono ?_;rintro e zjw ⟨rfl,Jq⟩;rw[zcU.o])
 have zLn:=Jq.size;replace h1:=h1.below Jq;replace cI:=(eI Jq cI).1;replace dY:=dY.below Jq;replace dO:=(eI Jq dO).1;replace R:=R.below Jq;replace rS:=rS.below Jq;replace rY:=(eI Jq rY).1;replace G3:=G3.below Jq;replace B:=B.below' Jq aC;clear Jq;go_wp2;refine HQ.o _ _ ?_;clear HQ;refine JO.sq L cT ?_;refine JO.pQ L cT (λTp Q HQ=>?_);replace h1:=h1.tp Tp 0;replace cI:=kW cI Tp 0;replace dY:=dY.tp Tp 0;replace dO:=kW dO Tp 0;replace R:=R.tp Tp 0;replace rS:=rS.tp Tp 0;replace rY:=kW rY Tp 0;replace G3:=G3.tp Tp 0;replace B:=B.tp Tp 0;have zHS:zjw.heap.size<=(Tt.tp zjw Tp 0).heap.size:=aX _;generalize Tt.tp zjw Tp 0=w17 at B h1 cI dY dO R rS rY G3 zHS⊢;have zFk:True:=trivial
 go_wp2_with (go_at_call 13;clear zFk;refine(zdk h1 l1).mono ?_;rintro e zMM ⟨zL9,zM2,rfl,zK5,gS,zMX,jA,H7⟩)
 have zKj:=H7.size;replace h1:=h1.below H7;replace cI:=(eI H7 cI).1;replace dY:=dY.below H7;replace dO:=(eI H7 dO).1;replace R:=R.below H7;replace rS:=rS.below H7;replace rY:=(eI H7 rY).1;replace G3:=G3.below H7;replace B:=B.below' H7 aC;clear H7;have zLC:=fP gS;have zAP:True:=trivial
 go_wp2_with (go_at_call 16;clear zAP;refine(zE4 rS.slc jA.slc l1 l1).mono ?_;rintro e zm1 ⟨rfl,E5⟩;rw[zJO.o])
 have zLD:=E5.size;replace h1:=h1.below E5;replace cI:=(eI E5 cI).1;replace dY:=dY.below E5;replace dO:=(eI E5 dO).1;replace R:=R.below E5;replace rS:=rS.below E5;replace rY:=(eI E5 rY).1;replace G3:=G3.below E5;replace jA:=jA.below E5;replace gS:=(eI E5 gS).1;replace B:=B.below' E5 aC;clear E5;go_wp2;refine HQ.o _ _ ?_;clear HQ;refine JO.sq L cT ?_;refine JO.pQ L cT (λTp Q HQ=>?_);replace h1:=h1.tp Tp 0;replace cI:=kW cI Tp 0;replace dY:=dY.tp Tp 0;replace dO:=kW dO Tp 0;replace R:=R.tp Tp 0;replace rS:=rS.tp Tp 0;replace rY:=kW rY Tp 0;replace G3:=G3.tp Tp 0;replace jA:=jA.tp Tp 0;replace gS:=kW gS Tp 0;replace B:=B.tp Tp 0;have zzP:zm1.heap.size<=(Tt.tp zm1 Tp 0).heap.size:=aX _;generalize Tt.tp zm1 Tp 0=w20 at B h1 cI dY dO R rS rY G3 jA gS zzP⊢;go_wp2;refine HQ.o _ _ ?_;clear HQ;refine JO.sq L cT ?_;refine JO.pQ L cT (λTp Q HQ=>?_);replace h1:=h1.tp Tp 0;replace cI:=kW cI Tp 0;replace dY:=dY.tp Tp 0;replace dO:=kW dO Tp 0;replace R:=R.tp Tp 0;replace rS:=rS.tp Tp 0;replace rY:=kW rY Tp 0;replace G3:=G3.tp Tp 0;replace jA:=jA.tp Tp 0;replace gS:=kW gS Tp 0;replace B:=B.tp Tp 0;have zIy:w20.heap.size<=(Tt.tp w20 Tp 0).heap.size:=aX _;generalize Tt.tp w20 Tp 0=w21 at B h1 cI dY dO R rS rY G3 jA gS zIy⊢;have zDl:True:=trivial
 go_wp2_with (go_at_call 17;clear zDl;refine(zIO (1) rS l1 aC).mono ?_;rintro e zhP ⟨rfl,Io⟩)
 have zMO:=Io.size;clear rS;clear rY;replace h1:=h1.chg Io aC;replace cI:=Z1 cI Io aC;replace dY:=dY.chg Io aC;replace dO:=Z1 dO Io aC;replace R:=R.chg Io aC;replace G3:=G3.chg Io aC;replace jA:=jA.chg Io aC;replace gS:=Z1 gS Io aC;replace B:=B.chg Io aC aC;clear Io;go_wp2;refine HQ.o _ _ ?_;clear HQ;refine JO.sq L cT ?_;refine JO.pQ L cT (λTp Q HQ=>?_);replace h1:=h1.tp Tp 0;replace cI:=kW cI Tp 0;replace dY:=dY.tp Tp 0;replace dO:=kW dO Tp 0;replace R:=R.tp Tp 0;replace G3:=G3.tp Tp 0;replace jA:=jA.tp Tp 0;replace gS:=kW gS Tp 0;replace B:=B.tp Tp 0;have zJv:zhP.heap.size<=(Tt.tp zhP Tp 0).heap.size:=aX _;generalize Tt.tp zhP Tp 0=w23 at B h1 cI dY dO R G3 jA gS zJv⊢;have zBP:True:=trivial
 go_wp2_with (go_at_call 22;clear zBP;refine(zmz G3.slc R.slc zdh Rl).mono ?_;rintro e zjy ⟨rfl,H3⟩;rw[zcU.o])
 have zMh:=H3.size;replace h1:=h1.below H3;replace cI:=(eI H3 cI).1;replace dY:=dY.below H3;replace dO:=(eI H3 dO).1;replace R:=R.below H3;replace G3:=G3.below H3;replace jA:=jA.below H3;replace gS:=(eI H3 gS).1;replace B:=B.below' H3 aC;clear H3;go_wp2;refine HQ.o _ _ ?_;clear HQ;refine JO.sq L cT ?_;refine JO.pQ L cT (λTp Q HQ=>?_);replace h1:=h1.tp Tp 0;replace cI:=kW cI Tp 0;replace dY:=dY.tp Tp 0;replace dO:=kW dO Tp 0;replace R:=R.tp Tp 0;replace G3:=G3.tp Tp 0;replace jA:=jA.tp Tp 0;replace gS:=kW gS Tp 0;replace B:=B.tp Tp 0;have zCN:zjy.heap.size<=(Tt.tp zjy Tp 0).heap.size:=aX _;generalize Tt.tp zjy Tp 0=w25 at B h1 cI dY dO R G3 jA gS zCN⊢;go_wp2;refine HQ.o _ _ ?_;clear HQ;refine JO.sq L cT ?_;refine JO.pQ L cT (λTp Q HQ=>?_);replace h1:=h1.tp Tp 0;replace cI:=kW cI Tp 0;replace dY:=dY.tp Tp 0;replace dO:=kW dO Tp 0;replace R:=R.tp Tp 0;replace G3:=G3.tp Tp 0;replace jA:=jA.tp Tp 0;replace gS:=kW gS Tp 0;replace B:=B.tp Tp 0;have zHI:w25.heap.size<=(Tt.tp w25 Tp 0).heap.size:=aX _;generalize Tt.tp w25 Tp 0=w26 at B h1 cI dY dO R G3 jA gS zHI⊢;have zId:True:=trivial
 go_wp2_with (go_at_call 23;clear zId;refine(zzY (1) G3 zdh aC).mono ?_;rintro e ziF ⟨rfl,pX,La⟩)
 have zKl:=La.size;clear G3;replace h1:=h1.chg La aC;replace cI:=Z1 cI La aC;replace dY:=dY.chg La aC;replace dO:=Z1 dO La aC;replace R:=R.chg La aC;replace jA:=jA.chg La aC;replace gS:=Z1 gS La aC;replace B:=B.chg La aC aC;clear La;go_wp2;refine HQ.o _ _ ?_;clear HQ;refine JO.sq L cT ?_;refine JO.pQ L cT (λTp Q HQ=>?_);replace h1:=h1.tp Tp 0;replace cI:=kW cI Tp 0;replace dY:=dY.tp Tp 0;replace dO:=kW dO Tp 0;replace R:=R.tp Tp 0;replace jA:=jA.tp Tp 0;replace gS:=kW gS Tp 0;replace pX:=pX.tp Tp 0;replace B:=B.tp Tp 0;have zDr:ziF.heap.size<=(Tt.tp ziF Tp 0).heap.size:=aX _;generalize Tt.tp ziF Tp 0=w28 at B h1 cI dY dO R jA gS pX zDr⊢;go_wp2;refine HQ.o _ _ ?_;clear HQ;refine JO.sq L cT ?_;refine JO.pQ L cT (λTp Q HQ=>?_);replace h1:=h1.tp Tp 0;replace cI:=kW cI Tp 0;replace dY:=dY.tp Tp 0;replace dO:=kW dO Tp 0;replace R:=R.tp Tp 0;replace jA:=jA.tp Tp 0;replace gS:=kW gS Tp 0;replace pX:=pX.tp Tp 0;replace B:=B.tp Tp 0;have zAy:w28.heap.size<=(Tt.tp w28 Tp 0).heap.size:=aX _;generalize Tt.tp w28 Tp 0=w29 at B h1 cI dY dO R jA gS pX zAy⊢;have zBv:True:=trivial
 go_wp2_with (go_at_call 24;clear zBv;refine(zvt 1 pX zdh aC).mono ?_;rintro e zlG ⟨rfl,Ig⟩)
 have zJ1:=Ig.size;replace h1:=h1.below Ig;replace cI:=(eI Ig cI).1;replace dY:=dY.below Ig;replace dO:=(eI Ig dO).1;replace R:=R.below Ig;replace jA:=jA.below Ig;replace gS:=(eI Ig gS).1;replace pX:=pX.below Ig;replace B:=B.below' Ig aC;clear Ig;go_wp2;refine HQ.o _ _ ?_;clear HQ;refine JO.sq L cT ?_;refine JO.pQ L cT (λTp Q HQ=>?_);replace h1:=h1.tp Tp 0;replace cI:=kW cI Tp 0;replace dY:=dY.tp Tp 0;replace dO:=kW dO Tp 0;replace R:=R.tp Tp 0;replace jA:=jA.tp Tp 0;replace gS:=kW gS Tp 0;replace pX:=pX.tp Tp 0;replace B:=B.tp Tp 0;have zI3:zlG.heap.size<=(Tt.tp zlG Tp 0).heap.size:=aX _;generalize Tt.tp zlG Tp 0=w31 at B h1 cI dY dO R jA gS pX zI3⊢;go_wp2;refine HQ.o _ _ ?_;clear HQ;refine JO.sq L cT ?_;refine JO.pQ L cT (λTp Q HQ=>?_);replace h1:=h1.tp Tp 0;replace cI:=kW cI Tp 0;replace dY:=dY.tp Tp 0;replace dO:=kW dO Tp 0;replace R:=R.tp Tp 0;replace jA:=jA.tp Tp 0;replace gS:=kW gS Tp 0;replace pX:=pX.tp Tp 0;replace B:=B.tp Tp 0;have zCe:w31.heap.size<=(Tt.tp w31 Tp 0).heap.size:=aX _;generalize Tt.tp w31 Tp 0=w32 at B h1 cI dY dO R jA gS pX zCe⊢;go_wp2;refine HQ.o _ _ ?_;clear HQ;refine JO.sq L cT ?_;generalize jC:([Nr _]:List eE)=K0;refine JO.rn L cT zcd [0,1,2,3,4,5] ?_;refine JO.mv L cT (.agg #[.int .i64 o.ln,.int .i64 o.op,.int .i64 o.pt]) ?_ (hx:=(λT' e=>zv5 (w:=Tt.tp w32 T' e) (t:=23) (x:=.tmp 2) (b:=g2) rfl cI rfl zn6 rfl aQ));refine JO.callV L (xs:=#[.agg #[.int .i64 o.ln,.int .i64 o.op,.int .i64 o.pt]]) (Q:=Pc o.ln o.op o.pt w32) rfl rfl zvk rfl rfl aQ cT aQ V5 (λv w' T e h=>Pc.tp h T e) (zu3 o.ln o.op o.pt w32) (λv zAK hq=>?_);obtain⟨rfl,Ih⟩:=hq;have zK2:=Ih.size;replace h1:=h1.bls Ih (aX _);replace cI:=Ah Ih cI (fP cI);replace dY:=dY.bls Ih (aX _);replace dO:=Ah Ih dO (fP dO);replace R:=R.bls Ih (aX _);replace jA:=jA.bls Ih (aX _);replace gS:=Ah Ih gS (fP gS);replace pX:=pX.bls Ih (aX _);replace B:=B.then Ih aC;clear Ih;simp only[Fm.fin,zvk,vD,gK,dU,dV];refine JO.mv L cT (.slice A1 n1 c1) ?_;refine JO.callV L (xs:=#[.slice A1 n1 c1]) (Q:=ToV 54 3 (lN es) zAK n1) rfl rfl zs2 rfl rfl aQ cT aQ V5 (λv w' T e h=>ToV.tp h T e) (zJx h1 l1) (λv zMw hq=>?_);obtain⟨zJy,zMo,rfl,zLN,Hx,zLm,Li,Je⟩:=hq;have zMd:=Je.size;replace h1:=h1.bls Je (aX _);replace cI:=Ah Je cI (fP cI);replace dY:=dY.bls Je (aX _);replace dO:=Ah Je dO (fP dO);replace R:=R.bls Je (aX _);replace jA:=jA.bls Je (aX _);replace gS:=Ah Je gS (fP gS);replace pX:=pX.bls Je (aX _);replace B:=B.then Je aC;clear Je;have zMD:=fP Hx;simp only[Fm.fin,zs2,vD,gK,dU,dV];refine zvL (ops:=zcd) (i:=4) (oo:=zuv) (A:=some ⟨zJy,0,none⟩) (o:=o) (es:=es) rfl cT rfl zsS rfl rfl V5 (Li.slc.wide (jT _) aC) l1 (hT.bls B (aX _)) (Db.bls B (aX _)) (λzjR zLT Ek zry=>?_);have zKI:=Ek.size;replace h1:=h1.bls Ek (aX _);replace cI:=Ah Ek cI (fP cI);replace dY:=dY.bls Ek (aX _);replace dO:=Ah Ek dO (fP dO);replace R:=R.bls Ek (aX _);replace jA:=jA.bls Ek (aX _);replace gS:=Ah Ek gS (fP gS);replace pX:=pX.bls Ek (aX _);replace Li:=Li.bls Ek (aX _);replace Hx:=Ah Ek Hx (fP Hx);replace B:=B.then Ek aC;clear Ek;obtain⟨zFW,zEG,zER,rfl,zA9,G8⟩:=zkR zry aH zn2.o;clear zry;simp only[Fm.fin,zsS,vD,gK,dU,dV];refine JO.mv L cT (.slice zFW zEG zER) ?_;refine JO.regEnd L cT ?_;subst jC;refine JO.tQ L cT (λTp Q HQ=>?_);replace h1:=h1.tp Tp 0;replace cI:=kW cI Tp 0;replace dY:=dY.tp Tp 0;replace dO:=kW dO Tp 0;replace R:=R.tp Tp 0;replace jA:=jA.tp Tp 0;replace gS:=kW gS Tp 0;replace pX:=pX.tp Tp 0;replace Li:=Li.tp Tp 0;replace Hx:=kW Hx Tp 0;replace G8:=G8.tp Tp 0;replace B:=B.tp Tp 0;have zFd:zjR.heap.size<=(Tt.tp zjR Tp 0).heap.size:=aX _;generalize Tt.tp zjR Tp 0=w36 at B h1 cI dY dO R jA gS pX Li Hx G8 zFd⊢;have zzg:True:=trivial
 go_wp2_with (go_at_call 22;clear zzg;refine(zmz G8.slc R.slc zA9 Rl).mono ?_;rintro e zMs ⟨rfl,C2⟩;rw[zcU.o])
 have zLj:=C2.size;replace h1:=h1.below C2;replace cI:=(eI C2 cI).1;replace dY:=dY.below C2;replace dO:=(eI C2 dO).1;replace R:=R.below C2;replace jA:=jA.below C2;replace gS:=(eI C2 gS).1;replace pX:=pX.below C2;replace Li:=Li.below C2;replace Hx:=(eI C2 Hx).1;replace G8:=G8.below C2;replace B:=B.below' C2 aC;clear C2;have zE7:True:=trivial
 go_wp2_with (go_at_call 24;clear zE7;refine(zvt 1 pX zdh aC).mono ?_;rintro e zKy ⟨rfl,Df⟩)
 have zLW:=Df.size;replace h1:=h1.below Df;replace cI:=(eI Df cI).1;replace dY:=dY.below Df;replace dO:=(eI Df dO).1;replace R:=R.below Df;replace jA:=jA.below Df;replace gS:=(eI Df gS).1;replace pX:=pX.below Df;replace Li:=Li.below Df;replace Hx:=(eI Df Hx).1;replace G8:=G8.below Df;replace B:=B.below' Df aC;clear Df;go_wp2;refine HQ.o _ _ (λtodo=>?_);exact Ns _ _ _ rfl
end
end Go.Proofs.YtfcjiloojkjaeaaGreatDoor
namespace Go.Proofs.YtfcjiloojkjaeaaGreatDoor
theorem zIQ (Lk:Looks){p:Pinned}{s:OpenSpec}{c:OpenClaim}(kinds:List LaidKind)(zlQ:Bool)(Sc:Bool×String)(lk:Bool)
 (hc:c.holds p s) (hw:c.wfByText s=true) (zJn:c.laidByTextAt Lk p kinds zlQ)
 (aY:c.start=.entering) (nL:c.noBlocks=false/\c.again=false) (hm:p.checked.prog.mainIs=some (Sc.1,Sc.2.toList)) (hn:(!Sc.1&&Sc.2.isEmpty&& !lk)=false)
 (hl:∀f fn,p.checked.prog.funcNamed c.func=some f->p.checked.prog.funcs[f]? =some fn->lk=p.checked.prog.looks []/\∀(j:Nat) t,fn.params[j]? =some t->p.checked.prog.wantsStandIn t=false)
 (hg:true=c.goesBy p.checked.prog):
 Claim7.holds p (.plain s) {stood:={row:=c,standIns:=[],harness:=Sc,looks:=lk},kinds:=[],alts:=[],goes:=true,laidByText:=true,laidKinds:=kinds,laidTests:=zlQ,laidLooks:=Lk}:=by
 have h6:∀r:OpenClaim,zv1 {stood:={row:=r,standIns:=[],harness:=Sc,looks:=lk},kinds:=[]}=false:=λr=>by simpa[zv1] using hn
 have h:=Claim7.tied_new_at Lk kinds zlQ (Claim7.new_of_sixth hc Sc lk aY nL hm (h6 c) hl) hw;exact⟨h,(λD hD=>by cases hD),zJn,(λh=>by cases h),hg⟩
end Go.Proofs.YtfcjiloojkjaeaaGreatDoor
