/-
  Part 6 of what stands behind the last text.
-/
import Derived.Lib.AppendIntMem
import Derived.LaidMore
import Derived.Test.YtfcjiloojkjaeaaGreatDoorCards
import Derived.Deep.CutBlock
import Derived.SevenTiedAt
import Derived.Test.YtfcjiloojkjaeaaGreatDoorReturnPq5
set_option linter.all false
set_option maxHeartbeats 16000000
set_option maxRecDepth 100000
open Array renaming ext'→Ja,getD_eq_getD_getElem?→tJ,getElem?_eq_getElem→mD,getElem?_eq_some_iff→dQ,getElem?_map→xL,getElem?_setIfInBounds_ne→jP,getElem?_toList→Ai,mem_of_getElem?→Uq,replicate→nL,toList_append→Pe,toList_replicate→zaa
open Bool renaming and_eq_true→fT,eq_iff_iff→Ns,or_eq_true→Er
open Go renaming Addr→bL,Calls→fH,Code→wJ,Frame→dJ,FuncId→aO,Goroutine→bC,Item→eF,Oper→aZ,Operand→cN,Program→bR,Tape→jZ,TypeId→aM,Value→aF,World→aE,execOp→aS,heap_alloc_new→lP,undef→aA,yielded→dR
open Go.Act renaming eval→wA,mk→bJ,put→cC
open Go.Claim7 renaming isSixth→zw9
open Go.Conc renaming base→Kw
open Go.Fn renaming func→zuo
open Go.Item renaming code→Nu
open Go.Lib renaming TabIs→zfw,tabBelow_of_tabIs→zjD
open Go.MakeChecks renaming laidMetH_plain→zqI
open Go.Operand renaming tmp→znd
open Go.Proofs.Tryz renaming checked→vL,f26→zhd,f42→zf9,f54→zh3,f56→zkw,f57→zss,func26→zsS,func42→zfE,func54→zpW,func56→zr5,prog→aK,underlying23→zo5
open Go.Region renaming wanted→dD
open Go.RowKit renaming Below→bU
open Go.RowKit.Below renaming heap_alloc→rA,refl→eG
open Go.Value renaming bool→Nq,int→Qc
open Go.World renaming cell?→lF,var?→zgD
open List renaming getD_eq_getElem?_getD→Jx,getElem?_append_left→zI,getElem?_eq_some_iff→jX,length_append→gM,length_cons→pX,length_map→Xt,length_nil→r8,map_cons→fL,map_nil→tM,map_toArray→uW,mem_of_getElem?→dX,mem_singleton→sK,nodup_nil→Ou,not_mem_nil→l8,range→gN,setIfInBounds_toArray→gI,set_cons_succ→dS,set_cons_zero→dW,size_toArray→Ej
open Nat renaming le_refl→aV,le_succ→Tg,le_trans→eM,lt_of_lt_of_le→lE,lt_or_ge→mY,lt_succ_self→xD,lt_trans→zlV,zero_le→jO
open Option renaming bind_some→vN,map_eq_some_iff→xB,map_some→Ak
open Option.some renaming inj→cE,injEq→fY
open SizeOf renaming sizeOf→N1
noncomputable section
namespace Go
def Zd{P:Prop}(h:P:=by simp[Fm.eval]):P:=h
def zsu{P:Prop}(h:P:=by rw[<-zcF] at*;exact uR.o.oldB dV HK.o):P:=h
def ziV{P:Prop}(h:P:=by rw[hp,hg,hf];kernel_rfl):P:=h
end Go
namespace Go.Proofs.YtfcjiloojkjaeaaGreatDoor
open Go.RowKit Go.Mt Go.Conc Go.Tt Go.Maps Go.Conc.Lib Go.ConcR.Gen
open Go.ConcR (KK wgBlock WgAt stA smA rd wr)
def Xs:Go.Code:=(zh3.body).getD .skip
def rH10:Go.Code:=match Xs with| .seq (a) _=>a|_=>.skip
def rH11:Go.Code:=match Xs with| .seq _ (a)=>a|_=>.skip
def zIm:Xs=.seq (rH10) (rH11):=rfl
def zjY:Array Oper:=match rH10 with| .region _ ops _=>ops|_=>#[]
def rH10_eq:rH10=.region 0 zjY false:=rfl
def zJx:gN zjY.size=[0]:=rfl
abbrev zx8:Oper:=⟨none,.defer ⟨.value (.func 55),#[.tmp 0],#[94]⟩,0,"l6_office.go:286",#[],none⟩
def zBx:zjY[0]? =some zx8:=rfl
def zdy:Array Oper:=match rH11 with| .region _ ops _=>ops|_=>#[]
def rH11_eq:rH11=.region 1 zdy false:=rfl
def zCw:gN zdy.size=[0,1]:=rfl
abbrev oH11_0:Oper:=⟨some 2,.load 95 (.tmp 1),95,"l6_office.go:287",#[],none⟩
def zC5:zdy[0]? =some oH11_0:=rfl
abbrev oH11_1:Oper:=⟨some 3,.call ⟨.value (.func 56),#[.tmp 2],#[122]⟩,0,"l6_office.go:287",#[⟨0,.data⟩],none⟩
def zBU:zdy[1]? =some oH11_1:=rfl
variable {pin:List (Nat×aF)}
theorem zuj {Wg N:Nat}{W:List fJ}{D:aE->Prop}{Fin:bC->aE->Prop}{St:Nat->Prop}{Q:Pr->Prop}{K:Pr}{base:List dJ}{ds:Dk}(m':Fm)(n7:Pr):
 (fX Wg N W D Fin St K Q base ds pin).sub m' n7=fX Wg N W D Fin St K (λR=>Q R/\n7.le R) (fx [] ds m'::base) .nil []:=by
 have e:(λR τ w=>(yI rM.tWg Wg (IOp Wg) R τ w/\Q R)/\n7.le R)=(λR τ w=>yI rM.tWg Wg (IOp Wg) R τ w/\Q R/\n7.le R):=by
  funext R τ W;exact propext and_assoc
 unfold Cx.sub fX;simp only;rw[e]
section
variable {Wg N:Nat}{W:List fJ}{D:aE->Prop}{Fin:bC->aE->Prop}{St:Nat->Prop}{gc gv c:Nat}
variable {K:Pr}
theorem op_body {Q:Pr->Prop}{base:List dJ}(hK:K gc c)(hQ:Up Q)(m:Nat)(w:aE)(Pn:∀K' T todo w,K.le K'->BO (fX Wg N W D Fin St K' Q base .nil []) .oD ⟨56,T,todo,true⟩ w):
 BO (fX Wg N W D Fin St K Q base .nil []) (.op c 0 m) ⟨56,#[.chan (some gc),aA,aA,aA,aA,aA,aA,aA,aA,aA,aA,aA,aA,aA,aA,aA],[.code Lm],false⟩ w:=by
 have F:vD (fX Wg N W D Fin St K Q base .nil []).P (fX Wg N W D Fin St K Q base .nil []).fs:=mQ;have hI:fF (fX Wg N W D Fin St K Q base .nil []):=zdH hQ rfl;rw[zJo];refine BO.seq hI ?_;refine BO.pV F hI Vm (λw1 T1 fB Q' HQ=>?_);clear fB;go_wp2;refine HQ.o _ _ ?_;clear HQ;refine BO.seq hI ?_;refine BO.pV F hI Vm (λw2 T2 fZ Q' HQ=>?_);clear fZ;go_wp2;refine HQ.o _ _ ?_;clear HQ;refine BO.block hI ?_;refine BO.loop hI ?_;exact op_loop hK hQ Pn m K w2 0 _ _ _ _ _ _ _ _ _ _ _ _ _ (wO K)
theorem zIO (hK:K gc c)(m:Nat){w:aE}(hv:w.cell? ⟨gv,0,none⟩=some (.chan (some gc))):
 BO (fX Wg N W D Fin St K (λ_=>True) [vW aK] ⟨[],.deferred,aP⟩ [(0,.pointer (some ⟨Wg,0,none⟩))]) (.op c 0 m) ⟨54,#[.nilFunc,.pointer (some ⟨gv,0,none⟩),aA,aA],[.code Xs],false⟩ w:=by
 let C:=fX Wg N W D Fin St K (λ_=>True) [vW aK] ⟨[],.deferred,aP⟩ [(0,.pointer (some ⟨Wg,0,none⟩))]
 have hQ:Up (λ_=>True):=λ_ _ _ _=>trivial;have hI:fF C:=zdH hQ rfl
 let d1:=dcall 55 #[.pointer (some ⟨Wg,0,none⟩)]
 have Kd:fF (C.dfr d1):=hI.dfr d1;have F:vD C.P C.fs:=mQ;show BO C _ _ _;rw[zIm];refine BO.seq hI ?_;rw[rH10_eq];refine BO.regs hI _ zJx ?_;refine BO.defer hI (d:=d1) zBx rfl rfl (λR w W bQ _ _ Dm aX=>?_) ?_
 .have h0:=Dm (0,.pointer (some ⟨Wg,0,none⟩)) (by show _∈[_];simp)
  have:=zwg (p:=C.p) (o:=zx8) (ρ:=(bJ bQ C.ds.ds).eval) rfl rfl aX;simp only[uW,fL,tM,wA] at this;simp only at h0;rw[h0] at this;exact this
 refine BO.regEnd Kd ?_;rw[rH11_eq];refine BO.regs Kd _ zCw ?_;refine BO.op (C:=C.dfr d1) F Kd zC5 rfl aQ (by intro s hs;cases hs;show(2:Nat)∉([0]:List Nat);decide) (λT=>⟨.chan (some gc),Tt.tp w T 0,.inl (zbK (a:=⟨gv,0,none⟩) rfl rfl (Tryz.isAgg95 _) hv),?_⟩);simp only[cC,gI,dW,dS];obtain⟨w1,fB⟩:=aU (Tt.tp w T 0);rw[<-fB];clear fB;refine BO.callN (C:=C.dfr d1) Kd zBU rfl rfl (Callee.static _ _) aQ zr5 aH rfl (.inl rfl) λn7 m' hm=>?_;have ha:(#[]++(#[znd 2]:Array cN).map (bJ #[.nilFunc,.pointer (some ⟨gv,0,none⟩),.chan (some gc),aA] []).eval++ #[]:Array aF)=#[.chan (some gc)]:=by
  simp only[uW,fL,tM,wA,Array.empty_append,Array.append_empty];rfl
 have Ch:(#[.chan (some gc)]:Array aF)++nL ((zkw).ntmps-(#[.chan (some gc)]:Array aF).size) aA=#[.chan (some gc),aA,aA,aA,aA,aA,aA,aA,aA,aA,aA,aA,aA,aA,aA,aA]:=by
  have e:(zkw).ntmps=16:=rfl;rw[e];apply Ja;simp only[Pe,zaa,Ej,pX,r8];rfl
 show BO (Cx.sub _ m' n7) _ ⟨_,(#[]++(#[znd 2]:Array cN).map (bJ #[.nilFunc,.pointer (some ⟨gv,0,none⟩),.chan (some gc),aA] []).eval++ #[]:Array aF)++nL ((zkw).ntmps-(#[]++(#[znd 2]:Array cN).map (bJ #[.nilFunc,.pointer (some ⟨gv,0,none⟩),.chan (some gc),aA] []).eval++ #[]:Array aF).size) aA,[.code Lm],false⟩ _;rw[ha,Ch];have eC:C.dfr d1=fX Wg N W D Fin St K (λ_=>True) [vW aK] ⟨[d1],.deferred,aP⟩ [(0,.pointer (some ⟨Wg,0,none⟩))]:=rfl;rw[eC] at hm⊢;rw[zuj];refine op_body hK (hQ.and n7) m w1 λK' T todo w2 hl=>?_;rw[<-zuj];have F7:fF (fX Wg N W D Fin St K' (λ_=>True) [vW aK] ⟨[d1],.deferred,aP⟩ [(0,.pointer (some ⟨Wg,0,none⟩))]):=zdH hQ rfl;refine BO.retN F7 (hm.upK hl _) (v:=.tuple #[]) rfl rfl zry zr5 rfl ?_;show BO _ _ ⟨_,_,[.inRegion _ []],false⟩ _;refine BO.regEnd F7 (BO.fall F7 ?_);exact BO.doneD zcr rfl rfl rfl (I0:=IOp Wg) (by
  funext R τ w;exact propext (and_iff_left trivial)) iop_ix rfl rfl zpW rfl rfl (λ_ _ _ _ _=>trivial)
end
end Go.Proofs.YtfcjiloojkjaeaaGreatDoor
namespace Go.Mt
open Go.RowKit Go.Conc Go.Tt Go.Maps Go.Conc.Lib Go.ConcR.Gen
theorem BO.drawn {L:Type}{p:bR}{gs fs:aO->Bool}{f:aO}{kk:List eF}(zm1:p.follows .mixedOrders=true){id:Nat}{t0:Array aF}{ops:Array aZ}(ch:List Nat)(V0:Nat->aF)(S:List aF->Cx L->L->aE->Prop)(hS:∀vs C l w,S vs C l w->fF C/\C.p=p/\C.gs=gs/\C.fs=fs/\vD C.P C.fs/\∀(i:Nat) (o:aZ) (s:Tmp),ops[i]? =some o->o.dst=some s->s∉C.S)(bV:Iq ops=true)(tN:Ng ops ch=true)(n8:ch.all (λc=>decide (c<ops.size))=true)
 (hT:∀vs C l w T e,S vs C l w->S vs C l (Tt.tp w T e))
 (hR:∀(i:Nat) (o:aZ),ops[i]? =some o->i∉ch->rL p ⟨fs,gs,true⟩ o.op=true/\∀vs C l w,vs.length<ch.length->S vs C l w->dD o (dR ops (dC ops (VV ch V0 vs) t0))=true/\(aS (bJ (dC ops (VV ch V0 vs) t0) []).eval o).run p w=.ok (.value (V0 i)) w)
 (hC:∀(vs:List aF) (c:Nat) (o:aZ) C l w,ch[vs.length]? =some c->ops[c]? =some o->S vs C l w->∀(t:Array aF) (rest:List Nat),(∀s∈o.looksAt ops,t[s]? =(dC ops (VV ch V0 vs) t0)[s]?)->
  (∀v C' l' w',S (vs++[v]) C' l' w'->BO C' l' ⟨f,(cC ⟨t,[]⟩ o.dst v).tmps,.inRegion ops rest::kk,false⟩ w')->BO C l ⟨f,t,.inRegion ops (c::rest)::kk,false⟩ w)
 (hk:∀vs C l w,vs.length=ch.length->S vs C l w->BO C l ⟨f,dC ops (VV ch V0 vs) t0,.inRegion ops []::kk,false⟩ w) {C:Cx L} {l:L} {w:aE} (h0:S [] C l w):BO C l ⟨f,t0,.code (.region id ops true)::kk,false⟩ w:=by
 obtain⟨sI,sp,_⟩:=hS _ _ _ _ h0;refine BO.draw sI λn=>?_;rw[sp,zm1]
 exact zvF (σ:=Cx L×L) (P:=p) (J:=λs is t w=>BO s.1 s.2 ⟨f,t,.inRegion ops is::kk,false⟩ w) (S:=λvs s w=>S vs s.1 s.2 w) bV tN n8
  (λvs s i o rest t w v h ho yO hw hx hJ=>by
   obtain⟨sI,sp,sg,sf,sF,sn⟩:=hS vs _ _ w h;exact BO.op sF sI ho hw (by rw[sp,sg,sf];exact(hR i o ho yO).1) (λs hs=>sn i o s ho hs) λT=>⟨v,_,.inl (by rw[sp];exact hx T),hJ T⟩)
  (λvs s=>hT vs s.1 s.2) (λi o ho yO vs s=>(hR i o ho yO).2 vs s.1 s.2) (λvs c o s w hj ho h t rest hs cO=>hC vs c o s.1 s.2 w hj ho h t rest hs λv C' l' w'=>cO v (C',l') w') (λvs s w=>hk vs s.1 s.2 w) (s:=(C,l)) h0 n
end Go.Mt
namespace Go.Proofs.YtfcjiloojkjaeaaGreatDoor
open Go.RowKit Go.Mt Go.Conc Go.Tt Go.Maps Go.Conc.Lib Go.ConcR.Gen
open Go.ConcR (KK wgBlock WgAt stA smA rd wr)
def oO:Go.Code:=(zf9.body).getD .skip
def rRH0:Go.Code:=match oO with| .seq (a) _=>a|_=>.skip
def rRH1:Go.Code:=match oO with| .seq _ (.seq (.seq (a) _) _)=>a|_=>.skip
def rRH2:Go.Code:=match oO with| .seq _ (.seq (.seq _ (.cond _ (.seq (a) _) _)) _)=>a|_=>.skip
def rRH3:Go.Code:=match oO with| .seq _ (.seq _ (.seq (.seq (a) _) _))=>a|_=>.skip
def rRH4:Go.Code:=match oO with| .seq _ (.seq _ (.seq (.seq _ (.block _ (.loop (.seq (a) _)))) _))=>a|_=>.skip
def rRH5:Go.Code:=match oO with| .seq _ (.seq _ (.seq (.seq _ (.block _ (.loop (.seq _ (.seq _ (.seq (.block _ (.seq (a) _)) _)))))) _))=>a|_=>.skip
def rRH6:Go.Code:=match oO with| .seq _ (.seq _ (.seq (.seq _ (.block _ (.loop (.seq _ (.seq _ (.seq (.block _ (.seq _ (.seq (a) _))) _)))))) _))=>a|_=>.skip
def rRH7:Go.Code:=match oO with| .seq _ (.seq _ (.seq (.seq _ (.block _ (.loop (.seq _ (.seq _ (.seq (.block _ (.seq _ (.seq _ (.cond _ (.seq (a) _) _)))) _)))))) _))=>a|_=>.skip
def rRH8:Go.Code:=match oO with| .seq _ (.seq _ (.seq (.seq _ (.block _ (.loop (.seq _ (.seq _ (.seq _ (a))))))) _))=>a|_=>.skip
def rRH9:Go.Code:=match oO with| .seq _ (.seq _ (.seq _ (.seq (a) _)))=>a|_=>.skip
def zkm:Go.Code:=match oO with| .seq _ (.seq _ (.seq _ (.seq _ (.seq (.seq (a) _) _))))=>a|_=>.skip
def rRH11:Go.Code:=match oO with| .seq _ (.seq _ (.seq _ (.seq _ (.seq (.seq _ (.block _ (.loop (.seq (a) _)))) _))))=>a|_=>.skip
def zbh:Go.Code:=match oO with| .seq _ (.seq _ (.seq _ (.seq _ (.seq (.seq _ (.block _ (.loop (.seq _ (.seq _ (.seq (.block _ (a)) _)))))) _))))=>a|_=>.skip
def rRH13:Go.Code:=match oO with| .seq _ (.seq _ (.seq _ (.seq _ (.seq (.seq _ (.block _ (.loop (.seq _ (.seq _ (.seq _ (a))))))) _))))=>a|_=>.skip
def Np:Go.Code:=match oO with| .seq _ (.seq _ (.seq _ (.seq _ (.seq _ (.seq (a) _)))))=>a|_=>.skip
def zmh:Go.Code:=match oO with| .seq _ (.seq _ (.seq _ (.seq _ (.seq _ (.seq _ (.seq (.seq (a) _) _))))))=>a|_=>.skip
def zhX:Go.Code:=match oO with| .seq _ (.seq _ (.seq _ (.seq _ (.seq _ (.seq _ (.seq (.seq _ (.block _ (.loop (.seq (a) _)))) _))))))=>a|_=>.skip
def zcf:Go.Code:=match oO with| .seq _ (.seq _ (.seq _ (.seq _ (.seq _ (.seq _ (.seq (.seq _ (.block _ (.loop (.seq _ (.seq _ (.seq (.block _ (.seq (a) _)) _)))))) _))))))=>a|_=>.skip
def Oy:Go.Code:=match oO with| .seq _ (.seq _ (.seq _ (.seq _ (.seq _ (.seq _ (.seq (.seq _ (.block _ (.loop (.seq _ (.seq _ (.seq (.block _ (.seq _ (.seq (a) _))) _)))))) _))))))=>a|_=>.skip
def Sy:Go.Code:=match oO with| .seq _ (.seq _ (.seq _ (.seq _ (.seq _ (.seq _ (.seq (.seq _ (.block _ (.loop (.seq _ (.seq _ (.seq (.block _ (.seq _ (.seq _ (.seq (a) _)))) _)))))) _))))))=>a|_=>.skip
def Ro:Go.Code:=match oO with| .seq _ (.seq _ (.seq _ (.seq _ (.seq _ (.seq _ (.seq (.seq _ (.block _ (.loop (.seq _ (.seq _ (.seq (.block _ (.seq _ (.seq _ (.seq _ (a))))) _)))))) _))))))=>a|_=>.skip
def zlH:Go.Code:=match oO with| .seq _ (.seq _ (.seq _ (.seq _ (.seq _ (.seq _ (.seq (.seq _ (.block _ (.loop (.seq _ (.seq _ (.seq _ (a))))))) _))))))=>a|_=>.skip
def Vb:Go.Code:=match oO with| .seq _ (.seq _ (.seq _ (.seq _ (.seq _ (.seq _ (.seq _ (.seq (a) _)))))))=>a|_=>.skip
def X2:Go.Code:=match oO with| .seq _ (.seq _ (.seq _ (.seq _ (.seq _ (.seq _ (.seq _ (.seq _ (.seq (a) _))))))))=>a|_=>.skip
def Zu:Go.Code:=match oO with| .seq _ (.seq _ (.seq _ (.seq _ (.seq _ (.seq _ (.seq _ (.seq _ (.seq _ (.seq (a) _)))))))))=>a|_=>.skip
def To:Go.Code:=match oO with| .seq _ (.seq _ (.seq _ (.seq _ (.seq _ (.seq _ (.seq _ (.seq _ (.seq _ (.seq _ (.seq (a) _))))))))))=>a|_=>.skip
def zEx:oO=.seq (rRH0) (.seq (.seq (rRH1) (.cond (.tmp 17) (.seq (rRH2) (.ret)) (.skip))) (.seq (.seq (rRH3) (.block 0 (.loop (.seq (rRH4) (.seq (.cond (.tmp 21) (.skip) (.exit 0)) (.seq (.block 1 (.seq (rRH5) (.seq (rRH6) (.cond (.tmp 28) (.seq (rRH7) (.ret)) (.skip))))) (rRH8))))))) (.seq (rRH9) (.seq (.seq (zkm) (.block 2 (.loop (.seq (rRH11) (.seq (.cond (.tmp 39) (.skip) (.exit 2)) (.seq (.block 3 (zbh)) (rRH13))))))) (.seq (Np) (.seq (.seq (zmh) (.block 4 (.loop (.seq (zhX) (.seq (.cond (.tmp 54) (.skip) (.exit 4)) (.seq (.block 5 (.seq (zcf) (.seq (Oy) (.seq (Sy) (Ro))))) (zlH))))))) (.seq (Vb) (.seq (X2) (.seq (Zu) (.seq (To) (.ret))))))))))):=rfl
def pE:Array Oper:=match zbh with| .region _ ops _=>ops|_=>#[]
def zGv:zbh=.region 12 pE true:=rfl
abbrev ztf:Oper:=⟨some 40,.load 63 (.tmp 7),63,"l6_office.go:278",#[],none⟩
def zBS:pE[0]? =some ztf:=rfl
abbrev zos:Oper:=⟨some 41,.load 63 (.tmp 7),63,"l6_office.go:278",#[],none⟩
def zEv:pE[1]? =some zos:=rfl
abbrev zwL:Oper:=⟨some 42,.nilCheck (.tmp 41),0,"l6_office.go:278",#[⟨1,.data⟩],none⟩
def zFp:pE[2]? =some zwL:=rfl
abbrev zpR:Oper:=⟨some 43,.fieldAddr 72 (.tmp 42) 1,0,"l6_office.go:278",#[⟨2,.data⟩],none⟩
def zIy:pE[3]? =some zpR:=rfl
abbrev zvY:Oper:=⟨some 44,.load 65 (.tmp 43),65,"l6_office.go:278",#[⟨3,.data⟩],none⟩
def zDh:pE[4]? =some zvY:=rfl
abbrev zxy:Oper:=⟨some 45,.makeChan 84 (.const (.int .i64 0)),84,"l6_office.go:278",#[],none⟩
def zl6:pE[5]? =some zxy:=rfl
abbrev zhP:Oper:=⟨some 46,.buildSlice 65 1 #[(0,.tmp 45)],65,"l6_office.go:278",#[⟨5,.data⟩],none⟩
def zd7:pE[6]? =some zhP:=rfl
abbrev zwI:Oper:=⟨some 47,.call ⟨.builtin .append,#[.tmp 44,.tmp 46],#[65,65]⟩,65,"l6_office.go:278",#[⟨4,.data⟩,⟨6,.data⟩],none⟩
def zlR:pE[7]? =some zwI:=rfl
abbrev zsl:Oper:=⟨some 48,.nilCheck (.tmp 40),0,"l6_office.go:278",#[⟨0,.data⟩,⟨0,.phase⟩,⟨1,.phase⟩,⟨2,.phase⟩,⟨3,.phase⟩,⟨4,.phase⟩,⟨5,.phase⟩,⟨6,.phase⟩,⟨7,.phase⟩],none⟩
def zF2:pE[8]? =some zsl:=rfl
abbrev zor:Oper:=⟨some 49,.fieldAddr 72 (.tmp 48) 1,0,"l6_office.go:278",#[⟨8,.data⟩,⟨0,.phase⟩,⟨1,.phase⟩,⟨2,.phase⟩,⟨3,.phase⟩,⟨4,.phase⟩,⟨5,.phase⟩,⟨6,.phase⟩,⟨7,.phase⟩],none⟩
def zBv:pE[9]? =some zor:=rfl
abbrev zlj:Oper:=⟨none,.store 65 (.tmp 49) (.tmp 47),0,"l6_office.go:278",#[⟨9,.data⟩,⟨7,.data⟩,⟨7,.chain⟩,⟨0,.phase⟩,⟨1,.phase⟩,⟨2,.phase⟩,⟨3,.phase⟩,⟨4,.phase⟩,⟨5,.phase⟩,⟨6,.phase⟩,⟨7,.phase⟩],none⟩
def zij:pE[10]? =some zlj:=rfl
def zdf:Array Oper:=match zcf with| .region _ ops _=>ops|_=>#[]
def zBE:zcf=.region 17 zdf false:=rfl
def zHv:gN zdf.size=[0,1,2]:=rfl
abbrev oRH17_0:Oper:=⟨some 55,.makeChan 95 (.const (.int .i64 0)),95,"l6_office.go:282",#[],none⟩
def zCc:zdf[0]? =some oRH17_0:=rfl
abbrev zn9:Oper:=⟨some 9,.alloc 95,0,"l6_office.go:282",#[],none⟩
def zyJ:zdf[1]? =some zn9:=rfl
abbrev zr1:Oper:=⟨none,.store 95 (.tmp 9) (.tmp 55),0,"l6_office.go:282",#[⟨1,.data⟩,⟨0,.data⟩,⟨0,.phase⟩,⟨1,.phase⟩],none⟩
def zCB:zdf[2]? =some zr1:=rfl
def oI:Array Oper:=match Oy with| .region _ ops _=>ops|_=>#[]
def zDj:Oy=.region 18 oI true:=rfl
abbrev zon:Oper:=⟨some 56,.load 63 (.tmp 7),63,"l6_office.go:283",#[],none⟩
def zDN:oI[0]? =some zon:=rfl
abbrev zp5:Oper:=⟨some 57,.load 63 (.tmp 7),63,"l6_office.go:283",#[],none⟩
def zFl:oI[1]? =some zp5:=rfl
abbrev ztG:Oper:=⟨some 58,.nilCheck (.tmp 57),0,"l6_office.go:283",#[⟨1,.data⟩],none⟩
def zGW:oI[2]? =some ztG:=rfl
abbrev zu8:Oper:=⟨some 59,.fieldAddr 72 (.tmp 58) 4,0,"l6_office.go:283",#[⟨2,.data⟩],none⟩
def zHM:oI[3]? =some zu8:=rfl
abbrev zwJ:Oper:=⟨some 60,.load 68 (.tmp 59),68,"l6_office.go:283",#[⟨3,.data⟩],none⟩
def zAv:oI[4]? =some zwJ:=rfl
abbrev zok:Oper:=⟨some 61,.load 95 (.tmp 9),95,"l6_office.go:283",#[],none⟩
def zIt:oI[5]? =some zok:=rfl
abbrev zkt:Oper:=⟨some 62,.buildSlice 68 1 #[(0,.tmp 61)],68,"l6_office.go:283",#[⟨5,.data⟩],none⟩
def zcA:oI[6]? =some zkt:=rfl
abbrev zqj:Oper:=⟨some 63,.call ⟨.builtin .append,#[.tmp 60,.tmp 62],#[68,68]⟩,68,"l6_office.go:283",#[⟨4,.data⟩,⟨6,.data⟩],none⟩
def zeV:oI[7]? =some zqj:=rfl
abbrev zwE:Oper:=⟨some 64,.nilCheck (.tmp 56),0,"l6_office.go:283",#[⟨0,.data⟩,⟨0,.phase⟩,⟨1,.phase⟩,⟨2,.phase⟩,⟨3,.phase⟩,⟨4,.phase⟩,⟨5,.phase⟩,⟨6,.phase⟩,⟨7,.phase⟩],none⟩
def zyS:oI[8]? =some zwE:=rfl
abbrev zoS:Oper:=⟨some 65,.fieldAddr 72 (.tmp 64) 4,0,"l6_office.go:283",#[⟨8,.data⟩,⟨0,.phase⟩,⟨1,.phase⟩,⟨2,.phase⟩,⟨3,.phase⟩,⟨4,.phase⟩,⟨5,.phase⟩,⟨6,.phase⟩,⟨7,.phase⟩],none⟩
def zDZ:oI[9]? =some zoS:=rfl
abbrev zlz:Oper:=⟨none,.store 68 (.tmp 65) (.tmp 63),0,"l6_office.go:283",#[⟨9,.data⟩,⟨7,.data⟩,⟨7,.chain⟩,⟨0,.phase⟩,⟨1,.phase⟩,⟨2,.phase⟩,⟨3,.phase⟩,⟨4,.phase⟩,⟨5,.phase⟩,⟨6,.phase⟩,⟨7,.phase⟩],none⟩
def zd0:oI[10]? =some zlz:=rfl
def zmo:Array Oper:=match Sy with| .region _ ops _=>ops|_=>#[]
def zCb:Sy=.region 19 zmo false:=rfl
def zDM:gN zmo.size=[0]:=rfl
abbrev oRH19_0:Oper:=⟨some 66,.call ⟨.value (.func 53),#[.tmp 8,.const (.int .i64 1)],#[94,3]⟩,0,"l6_office.go:284",#[],none⟩
def zzt:zmo[0]? =some oRH19_0:=rfl
def Ov:Array Oper:=match Ro with| .region _ ops _=>ops|_=>#[]
def zGl:Ro=.region 20 Ov false:=rfl
def zBs:gN Ov.size=[0,1]:=rfl
abbrev oRH20_0:Oper:=⟨some 67,.makeFunc (zuo 54) #[] #[.tmp 8,.tmp 9],1,"l6_office.go:285",#[],none⟩
def zzb:Ov[0]? =some oRH20_0:=rfl
abbrev oRH20_1:Oper:=⟨none,.go ⟨.value (.tmp 67),#[],#[]⟩,0,"l6_office.go:285",#[⟨0,.data⟩],none⟩
def zIX:Ov[1]? =some oRH20_1:=rfl
def zmu:Array Oper:=match Vb with| .region _ ops _=>ops|_=>#[]
def zJh:Vb=.region 22 zmu false:=rfl
def zDX:gN zmu.size=[0]:=rfl
abbrev oRH22_0:Oper:=⟨some 69,.call ⟨.value (.func 53),#[.tmp 8,.const (.int .i64 1)],#[94,3]⟩,0,"l6_office.go:290",#[],none⟩
def zys:zmu[0]? =some oRH22_0:=rfl
def zdx:Array Oper:=match X2 with| .region _ ops _=>ops|_=>#[]
def zIg:X2=.region 23 zdx false:=rfl
def zDn:gN zdx.size=[0,1]:=rfl
abbrev oRH23_0:Oper:=⟨some 70,.makeFunc (zuo 57) #[] #[.tmp 8,.tmp 7,.tmp 3],1,"l6_office.go:291",#[],none⟩
def zBt:zdx[0]? =some oRH23_0:=rfl
abbrev oRH23_1:Oper:=⟨none,.go ⟨.value (.tmp 70),#[],#[]⟩,0,"l6_office.go:291",#[⟨0,.data⟩],none⟩
def zHC:zdx[1]? =some oRH23_1:=rfl
def zdj:Array Oper:=match Zu with| .region _ ops _=>ops|_=>#[]
def zGx:Zu=.region 24 zdj false:=rfl
abbrev oRH24_0:Oper:=⟨some 71,.call ⟨.value (.func 59),#[.tmp 8],#[94]⟩,0,"l6_office.go:295",#[],none⟩
def tL:vR aK 42:=⟨_,zfE,.inr (.inl ⟨_,rfl⟩)⟩
def info_ch:(aK.info? 84).map (λi=>(i.zero,i.size,i.bytes))=some (some (.chan none),1,8):=aQ
def info_cq:(aK.info? 95).map (λi=>(i.zero,i.size,i.bytes))=some (some (.chan none),1,8):=aQ
theorem zz3:∃ie,aK.info? 3=some ie:=by
 obtain⟨i,hi,_⟩:=xB.1 U9;exact⟨i,hi⟩
theorem zrU (xs:List Nat)(g:Nat):Jc (xs++[g])=Jc xs++[.chan (some g)]:=by simp[Jc]
structure WH where
 lo:Nat
 hb:Nat
 gh:Nat
 gq:Nat
 q:Nat
 v0:fO
 w0:aE
 v:fO
 d:nK
def WH.P1 (c:WH)(w:aE):Prop:=bF w c.lo c.hb c.v c.d/\bM c.hb c.v0 c.w0 c.v w/\c.lo<=w.heap.size
variable {c:WH}{w:aE}
def WH.P1.tp (h:c.P1 w)(T:jZ)(n:Nat):c.P1 (Tt.tp w T n):=⟨h.1.tp T n,h.2.1.tp T n,h.2.2⟩
def fO.maps (v v':fO):Prop:=v'.pC=v.pC/\v'.pO=v.pO/\v'.pM=v.pM
def zrk:Iq pE=true:=aQ
def zJl:Ng pE [5,6,7,10]=true:=aQ
def zF7:pE.toList.map (·.dst)=[some 40,some 41,some 42,some 43,some 44,some 45,some 46,some 47,some 48,some 49,none]:=rfl
def zCA:pE.toList=[ztf,zos,zwL,zpR,zvY,zxy,zhP,zwI,zsl,zor,zlj]:=rfl
def Ge (hb gh gq q:Nat)(sA:aF)(i:Nat):Value:=([.pointer (some ⟨hb,0,none⟩),.pointer (some ⟨hb,0,none⟩),.pointer (some ⟨hb,0,none⟩),.pointer (some ⟨hb,3,none⟩),sA,aA,aA,aA,.pointer (some ⟨hb,0,none⟩),.pointer (some ⟨hb,3,none⟩),aA]:List aF).getD i aA
variable {V:Nat->aF}{Tf:Array aF}{s:Nat}
theorem bsRL (hT:wR Tf V)(e:V 45=.chan (some s)):(aS (bJ Tf []).eval zhP).run aK w=.ok (.value (.slice (some ⟨w.heap.size,0,none⟩) 1 1)) (w.alloc (.cells #[.chan (some s)] 84)):=by
 unfold aS;go_simp
variable {sA:aF}{T:jZ}
theorem stRL {hb q1 n q2:Nat}(hT:wR Tf V)(e1:V 49=.pointer (some ⟨hb,3,none⟩))(e2:V 47=.slice (some ⟨q1,0,none⟩) n q2)(hh:w.cell? ⟨hb,3,none⟩=some sA)(hf:w.frozen? ⟨hb,3,none⟩=false):(aS (bJ Tf []).eval zlj).run aK (Tt.tp w T 0)=.ok .skip (Tt.tp (w.setCell ⟨hb,3,none⟩ (.slice (some ⟨q1,0,none⟩) n q2)) T 0):=by
 have zgy:(Tt.tp w T 0).cell? ⟨hb,3,none⟩=some sA:=hh;have Ag:(Tt.tp w T 0).frozen? ⟨hb,3,none⟩=false:=hf;clear hh hf;unfold aS;go_simp
 try rfl
def WH.RdRL (c:WH)(w:aE):Prop:=w.cell? ⟨c.hb,3,none⟩=some c.v.sL/\w.heap[c.gh]? =some (.cells #[.pointer (some ⟨c.hb,0,none⟩)] 63)
def WH.RL2 (c:WH)(g:Nat)(w:aE):Prop:=∃v2,bF w c.lo c.hb v2 {c.d with ln:=c.d.ln++[g]}/\bM c.hb c.v0 c.w0 v2 w/\c.v.maps v2
variable {g:Nat}
theorem WH.RL2.tp (h:c.RL2 g w)(T:jZ)(n:Nat):c.RL2 g (Tt.tp w T n):=by
 obtain⟨v1,a,d,e⟩:=h;exact⟨v1,a.tp T n,d.tp T n,e⟩
def WH.StRL (c:WH)(vs:List aF)(w':aE):Prop:=match vs with
 |[]=>c.P1 w'/\∀x∈c.d.ln,x<w'.heap.size
 |[a]=>∃g,a=.chan (some g)/\(∀x∈c.d.ln,x<g)/\g<w'.heap.size/\c.P1 w'
 |[a,b]=>∃g q,b=.slice (some ⟨q,0,none⟩) 1 1/\w'.heap[q]? =some (.cells #[.chan (some g)] 84)/\(∀x∈c.d.ln,x<g)/\g<w'.heap.size/\c.P1 w'
 |[a,b,x]=>∃g q1 q2,x=.slice (some ⟨q1,0,none⟩) (c.d.ln.length+1) q2/\w'.frozen? ⟨c.hb,3,none⟩=false/\(∀x∈c.d.ln,x<g)/\g<w'.heap.size/\c.RL2 g (w'.setCell ⟨c.hb,3,none⟩ x)
 |_=>∃g,(∀x∈c.d.ln,x<g)/\g<w'.heap.size/\c.RL2 g w'
section
variable {Post:aF->aE->Prop}{Shun:Loc->Prop}{W0:aE}{St:Nat->Prop}{R0:Pr}{base:List dJ}
def SRL (Post:aF->aE->Prop)(Shun:Loc->Prop)(W0:aE)(St:Nat->Prop)(R0:Pr)(base:List dJ)(c:WH)(K0:Pr)(vs:List aF)(C':Cx Unit)(l':Unit)(w':aE):Prop:=∃K',K0.le K'/\C'=Fg aK Bn gG Post Shun W0 St K' R0 base/\(vs.length<4->c.RdRL w')/\c.StRL vs w'
variable {c:WH}
theorem SRL.tp {K0:Pr}(vs:List aF)(C':Cx Unit)(l':Unit)(w':aE)(T:jZ)(n:Nat)(h:SRL Post Shun W0 St R0 base c K0 vs C' l' w'):SRL Post Shun W0 St R0 base c K0 vs C' l' (Tt.tp w' T n):=by
 obtain⟨K',h1,h2,h3,h4⟩:=h;refine⟨K',h1,h2,h3,?_⟩;rcases vs with _|⟨a,_|⟨b,_|⟨x,_|⟨y,vs⟩⟩⟩⟩
 .exact⟨h4.1.tp T n,h4.2⟩
 .obtain⟨g,a,b,d,e⟩:=h4
  exact⟨g,a,b,d,e.tp T n⟩
 .obtain⟨g,q,a,b,c,d,e⟩:=h4
  exact⟨g,q,a,b,c,d,e.tp T n⟩
 .obtain⟨g,q1,q2,a,b,c,d,e⟩:=h4
  exact⟨g,q1,q2,a,b,c,d,WH.RL2.tp (w:=w'.setCell _ _) e T n⟩
 .obtain⟨g,a,b,d⟩:=h4
  exact⟨g,a,b,d.tp T n⟩
theorem cw_RL {K:Pr}(yX:c.d.ln.length<=1000)(zbW:some c.gh∉parts c.v c.hb){t0:Array aF}{w:aE}{kk:List eF}(hz:t0.size=73)(Em:t0.getD 7 aA=.pointer (some ⟨c.gh,0,none⟩))
 (hk:∀vs C' l' w',vs.length=4->SRL Post Shun W0 St R0 base c K vs C' l' w'->BO C' l' ⟨42,dC pE (VV [5,6,7,10] (Ge c.hb c.gh c.gq c.q c.v.sL) vs) t0,.inRegion pE []::kk,false⟩ w') (h0:SRL Post Shun W0 St R0 base c K [] (Fg aK Bn gG Post Shun W0 St K R0 base) () w):BO (Fg aK Bn gG Post Shun W0 St K R0 base) () ⟨42,t0,.code zbh::kk,false⟩ w:=by
 rw[zGv];have KO:=Tn zrk;refine BO.drawn (p:=aK) (gs:=Bn) (fs:=gG) vL.mixed [5,6,7,10] (Ge c.hb c.gh c.gq c.q c.v.sL) (SRL Post Shun W0 St R0 base c K) (λvs C l w h=>by
  obtain⟨K',_,rfl,_⟩:=h;exact⟨dA,rfl,rfl,rfl,mQ,λ_ _ _ _ _=>l8⟩) zrk zJl Ks (λvs K l w T e h=>SRL.tp vs K l w T e h) (λi o ho hi=>?_) (λvs ci o C' l' w' hc ho hS t rest lY fR=>?_) hk h0
 .have hl:pE.toList[i]? =some o:=by rw[Ai];exact ho
  rw[zCA] at hl;have aN:i<11:=by have:=(jX.1 hl).1;simpa using this
  have tn:∀(vs:List aF) {j:Nat} {oj:aZ} {s:Tmp} {v:aF},pE[j]? =some oj->oj.dst=some s->s<t0.size->VV [5,6,7,10] (Ge c.hb c.gh c.gq c.q c.v.sL) vs j=v->(dC pE (VV [5,6,7,10] (Ge c.hb c.gh c.gq c.q c.v.sL) vs) t0).getD s aA=v:=λvs _ _ _ _ a b c d=>qI KO a b c d;have tq:∀(vs:List aF) {s:Tmp},Hg pE s=false->(dC pE (VV [5,6,7,10] (Ge c.hb c.gh c.gq c.q c.v.sL) vs) t0).getD s aA=t0.getD s undef:=λvs _ a=>zew KO a;have O5:∀{vs:List aF} {C' l' w'},(SRL Post Shun W0 St R0 base c K) vs C' l' w'->vs.length<4->c.RdRL w':=λh hv=>by
   obtain⟨_,_,_,h,_⟩:=h;exact h hv
  rcases i with _|_|_|_|_|_|_|_|_|_|_|i
  .obtain rfl:=cE hl
   exact⟨aQ,λvs K' l' w' hv hS=>⟨eD rfl,rd2 (.pointer (some ⟨c.hb,0,none⟩)) ((tq vs aQ).trans Em) (aJ (O5 hS hv).2 0)⟩⟩
  .obtain rfl:=cE hl
   exact⟨aQ,λvs K' l' w' hv hS=>⟨eD rfl,rd2 (.pointer (some ⟨c.hb,0,none⟩)) ((tq vs aQ).trans Em) (aJ (O5 hS hv).2 0)⟩⟩
  .obtain rfl:=cE hl
   exact⟨aQ,λvs K' l' w' hv hS=>⟨eD rfl,uE (.pointer (some ⟨c.hb,0,none⟩)) (tn vs zEv rfl kP rfl)⟩⟩
  .obtain rfl:=cE hl
   exact⟨aQ,λvs K' l' w' hv hS=>⟨eD rfl,uE (.pointer (some ⟨c.hb,3,none⟩)) (tn vs zFp rfl kP rfl)⟩⟩
  .obtain rfl:=cE hl
   exact⟨aQ,λvs K' l' w' hv hS=>⟨eD rfl,rd2 (c.v.sL) (tn vs zIy rfl kP rfl) (O5 hS hv).1⟩⟩
  .exact absurd aH hi
  .exact absurd aH hi
  .exact absurd aH hi
  .obtain rfl:=cE hl
   exact⟨aQ,λvs K' l' w' hv hS=>⟨eD rfl,uE (.pointer (some ⟨c.hb,0,none⟩)) (tn vs zBS rfl kP rfl)⟩⟩
  .obtain rfl:=cE hl
   exact⟨aQ,λvs K' l' w' hv hS=>⟨eD rfl,uE (.pointer (some ⟨c.hb,3,none⟩)) (tn vs zF2 rfl kP rfl)⟩⟩
  .exact absurd aH hi
  .omega
 .rcases vs with _|⟨a,_|⟨b,_|⟨c',_|⟨d',vs⟩⟩⟩⟩
  .obtain rfl:5=ci:=by simpa using hc
   rw[zl6] at ho;obtain rfl:=cE ho;obtain⟨K',hK,rfl,hR,⟨s1,s2⟩⟩:=hS;obtain⟨ie,jY⟩:=zz3;refine BO.makeK dA zl6 (eD rfl) rfl Tryz.underlying84 jY (λ_ _=>l8) (I':=λ_=>IA W0 St Shun R0) (λR τ W hi ht aN=>?_) (λg=>?_)
   .have hi:IA W0 St Shun R0 R τ W:=hi
    have sz:(W.alloc (.chan 0 #[] false 0 0 false)).heap.size=W.heap.size+1:=rF _ _;have hz:=hi.kp.size;exact⟨⟨hi.kp.os,hi.kp.tape,hi.kp.output,by rw[sz];omega,λb hb=>(Fb aC).trans (hi.kp.block b hb),hi.kp.old⟩,⟨hi.sh.old,hi.sh.rel,λl b hl hb=>hi.sh.new l b hl (by rw[sz] at hb;omega)⟩,hi.still,hi.le⟩
   .exact fR _ _ _ _ ⟨K'.add w'.heap.size g,wF hK (Pr.le_add _ _ _),rfl,λ_=>⟨Ax (hR aP).1 _,dH (hR aP).2 _⟩,w'.heap.size,rfl,s2,by rw[rF];exact xD _,s1.1.alloc _,s1.2.1.trans (bM.below (dO (eG _ _) _)),eM s1.2.2 (by rw[rF];exact Tg _)⟩
  .obtain rfl:6=ci:=by simpa using hc
   rw[zd7] at ho;obtain rfl:=cE ho;obtain⟨K',hK,rfl,hR,g,rfl,s2,s3,z3,z5,s6⟩:=hS;have V1:(dC pE (VV [5,6,7,10] (Ge c.hb c.gh c.gq c.q c.v.sL) [.chan (some g)]) t0).getD 45 aA=.chan (some g):=qI KO zl6 rfl kP rfl;refine BO.op mQ dA zd7 (eD rfl) aQ (λs hs=>l8) (λT=>⟨.slice (some ⟨w'.heap.size,0,none⟩) 1 1,(Tt.tp w' T 0).alloc (.cells #[.chan (some g)] 84),.inl ?_,?_⟩)
   .rw[D9 (KO.sel 6 _ zd7) lY]
    have hT:wR (dC pE (VV [5,6,7,10] (Ge c.hb c.gh c.gq c.q c.v.sL) [.chan (some g)]) t0) (λs=>(dC pE (VV [5,6,7,10] (Ge c.hb c.gh c.gq c.q c.v.sL) [.chan (some g)]) t0).getD s aA):=λs=>rfl;exact bsRL hT V1
   .have al:bM c.hb c.v w' c.v ((Tt.tp w' T 0).alloc (.cells #[.chan (some g)] 84)):=(bM.refl.tp T 0).trans (bM.below (dO (eG _ _) _))
    exact fR _ _ _ _ ⟨K',hK,rfl,λ_=>⟨Ax (hR aP).1 _,dH (hR aP).2 _⟩,g,_,rfl,lP _ _,s2,zlV s3 (by show _<((Tt.tp w' T 0).alloc _).heap.size;rw[rF];exact xD _),(z3.tp T 0).alloc _,z5.trans al,eM s6 zep⟩
  .obtain rfl:7=ci:=by simpa using hc
   rw[zlR] at ho;obtain rfl:=cE ho;obtain⟨K',hK,rfl,hR,g,gs,rfl,zbn,s2,s3,z3,z5,s6⟩:=hS;have zjj:=Gc lY (s:=44) aH (qI KO zDh rfl kP rfl);have ziG:=Gc lY (s:=46) aH (qI KO zd7 rfl kP rfl);have zhV:some c.gh∉parts c.v c.hb:=zbW;refine BO.op mQ dA zlR (eD rfl) aQ (λs hs=>l8) (λT=>?_);have a1:=z3.tp T 0;obtain⟨q1,q2,w5,fP,cP,nE,fA⟩:=Oh (w:=Tt.tp w' T 0) (t:=65) (ty:=65) info_ch Tryz.underlying65 rfl aH a1.L (g:=gs) (cs:=#[.chan (some g)]) (news:=[.chan (some g)]) zbn rfl (m:=1) rfl aH La aC aH s6;obtain⟨a6,t6⟩:=a1.putL nE (xs:=c.d.ln++[g]) (by rw[zrU];exact cP) aP fA;have xY:=(a1.other (j:=1) (c:=3) (x:=c.v.sL) rfl aH nE (.slice (some ⟨q1,0,none⟩) (c.d.ln.length+1) q2)).2.trans a1.blk;have Fh:w5.heap[c.gh]? =some _:=(nE.block c.gh (gA (hR aP).2) (λe=>zhV (dX (i:=1) (show(parts c.v c.hb)[1]? =some (some c.gh) by rw[e];rfl)))).trans (hR aP).2;have cG:w'.heap.size<=w5.heap.size:=nE.size;refine⟨_,w5,.inl (Yq rfl zjj ziG fP),fR _ _ _ _ ⟨K',hK,rfl,λ_=>⟨aJ xY 3,Fh⟩,g,q1,q2,rfl,eK xY 3,s2,lE s3 cG,_,a6,z5.trans ((bM.refl.tp T 0).trans t6),rfl,rfl,rfl⟩⟩
  .obtain rfl:10=ci:=by simpa using hc
   rw[zij] at ho;obtain rfl:=cE ho;obtain⟨K',hK,rfl,hR,g,q1,q2,rfl,mR,s2,s3,yQ⟩:=hS;have V1:(dC pE (VV [5,6,7,10] (Ge c.hb c.gh c.gq c.q c.v.sL) [a,b,.slice (some ⟨q1,0,none⟩) (c.d.ln.length+1) q2]) t0).getD 47 aA=.slice (some ⟨q1,0,none⟩) (c.d.ln.length+1) q2:=qI KO zlR rfl kP rfl;have V2:(dC pE (VV [5,6,7,10] (Ge c.hb c.gh c.gq c.q c.v.sL) [a,b,.slice (some ⟨q1,0,none⟩) (c.d.ln.length+1) q2]) t0).getD 49 aA=.pointer (some ⟨c.hb,3,none⟩):=qI KO zBv rfl kP rfl;refine BO.op mQ dA zij (eD rfl) aQ (λs hs=>l8) (λT=>⟨aA,Tt.tp (w'.setCell ⟨c.hb,3,none⟩ (.slice (some ⟨q1,0,none⟩) (c.d.ln.length+1) q2)) T 0,.inr ⟨?_,rfl⟩,?_⟩)
   .rw[D9 (KO.sel 10 _ zij) lY]
    have hT:wR (dC pE (VV [5,6,7,10] (Ge c.hb c.gh c.gq c.q c.v.sL) [a,b,.slice (some ⟨q1,0,none⟩) (c.d.ln.length+1) q2]) t0) (λs=>(dC pE (VV [5,6,7,10] (Ge c.hb c.gh c.gq c.q c.v.sL) [a,b,.slice (some ⟨q1,0,none⟩) (c.d.ln.length+1) q2]) t0).getD s aA):=λs=>rfl;exact stRL hT V2 V1 (hR aP).1 mR
   .exact fR aA _ _ _ ⟨K',hK,rfl,λh=>absurd h aP,g,s2,(by show g<(w'.setCell _ _).heap.size;rw[H5];exact s3),WH.RL2.tp yQ T 0⟩
  .simp at hc
end
def zql:Iq oI=true:=aQ
def zBB:Ng oI [6,7,10]=true:=aQ
def zxV:oI.toList.map (·.dst)=[some 56,some 57,some 58,some 59,some 60,some 61,some 62,some 63,some 64,some 65,none]:=rfl
def zDG:oI.toList=[zon,zp5,ztG,zu8,zwJ,zok,zkt,zqj,zwE,zoS,zlz]:=rfl
def Gf (hb gh gq q:Nat)(sA:aF)(i:Nat):Value:=([.pointer (some ⟨hb,0,none⟩),.pointer (some ⟨hb,0,none⟩),.pointer (some ⟨hb,0,none⟩),.pointer (some ⟨hb,6,none⟩),sA,.chan (some q),aA,aA,.pointer (some ⟨hb,0,none⟩),.pointer (some ⟨hb,6,none⟩),aA]:List aF).getD i aA
theorem bsRQ (hT:wR Tf V)(e:V 61=.chan (some s)):(aS (bJ Tf []).eval zkt).run aK w=.ok (.value (.slice (some ⟨w.heap.size,0,none⟩) 1 1)) (w.alloc (.cells #[.chan (some s)] 95)):=by
 unfold aS;go_simp
theorem stRQ {hb q1 n q2:Nat}(hT:wR Tf V)(e1:V 65=.pointer (some ⟨hb,6,none⟩))(e2:V 63=.slice (some ⟨q1,0,none⟩) n q2)(hh:w.cell? ⟨hb,6,none⟩=some sA)(hf:w.frozen? ⟨hb,6,none⟩=false):(aS (bJ Tf []).eval zlz).run aK (Tt.tp w T 0)=.ok .skip (Tt.tp (w.setCell ⟨hb,6,none⟩ (.slice (some ⟨q1,0,none⟩) n q2)) T 0):=by
 have zgy:(Tt.tp w T 0).cell? ⟨hb,6,none⟩=some sA:=hh;have Ag:(Tt.tp w T 0).frozen? ⟨hb,6,none⟩=false:=hf;clear hh hf;unfold aS;go_simp
 try rfl
def WH.RdRQ (c:WH)(w:aE):Prop:=w.cell? ⟨c.hb,6,none⟩=some c.v.sQ/\w.heap[c.gh]? =some (.cells #[.pointer (some ⟨c.hb,0,none⟩)] 63)/\w.heap[c.gq]? =some (.cells #[.chan (some c.q)] 95)
def WH.RQ2 (c:WH)(g:Nat)(w:aE):Prop:=∃v2,bF w c.lo c.hb v2 {c.d with qn:=c.d.qn++[g]}/\bM c.hb c.v0 c.w0 v2 w/\c.v.maps v2
theorem WH.RQ2.tp (h:c.RQ2 g w)(T:jZ)(n:Nat):c.RQ2 g (Tt.tp w T n):=by
 obtain⟨v1,a,d,e⟩:=h;exact⟨v1,a.tp T n,d.tp T n,e⟩
def WH.StRQ (c:WH)(vs:List aF)(w':aE):Prop:=match vs with
 |[]=>c.P1 w'
 |[b]=>(∃q,b=.slice (some ⟨q,0,none⟩) 1 1/\w'.heap[q]? =some (.cells #[.chan (some c.q)] 95))/\c.P1 w'
 |[b,x]=>(∃q1 q2,x=.slice (some ⟨q1,0,none⟩) (c.d.qn.length+1) q2)/\w'.frozen? ⟨c.hb,6,none⟩=false/\c.RQ2 c.q (w'.setCell ⟨c.hb,6,none⟩ x)
 |_=>c.RQ2 c.q w'
section
def SRQ {L:Type}(c:WH)(C:Cx L)(l:L)(vs:List aF)(C':Cx L)(l':L)(w':aE):Prop:=C'=C/\l'=l/\(vs.length<3->c.RdRQ w')/\c.StRQ vs w'
variable {L:Type}{c:WH}
theorem SRQ.tp {C:Cx L}{l:L}(vs:List aF)(C':Cx L)(l':L)(w':aE)(T:jZ)(n:Nat)(h:SRQ c C l vs C' l' w'):SRQ c C l vs C' l' (Tt.tp w' T n):=by
 obtain⟨h1,h2,h3,h4⟩:=h;refine⟨h1,h2,h3,?_⟩;rcases vs with _|⟨b,_|⟨x,_|⟨y,vs⟩⟩⟩
 .exact h4.tp T n
 .exact⟨h4.1,h4.2.tp T n⟩
 .exact⟨h4.1,h4.2.1,WH.RQ2.tp (w:=w'.setCell _ _) h4.2.2 T n⟩
 .exact h4.tp T n
theorem cw_RQ {C:Cx L}{l:L}(hI:fF C)(hp:C.p=aK)(hg:C.gs=Bn)(hf:C.fs=gG)(hF:vD C.P C.fs)(hn:∀(i:Nat) (o:aZ) (s:Tmp),oI[i]? =some o->o.dst=some s->s∉C.S)(yX:c.d.qn.length<=1000)(zbW:some c.gh∉parts c.v c.hb)(zcb:some c.gq∉parts c.v c.hb){t0:Array aF}{w:aE}{kk:List eF}(hz:t0.size=73)(Em:t0.getD 7 aA=.pointer (some ⟨c.gh,0,none⟩))(zmS:t0.getD 9 aA=.pointer (some ⟨c.gq,0,none⟩))
 (hk:∀vs C' l' w',vs.length=3->SRQ c C l vs C' l' w'->BO C' l' ⟨42,dC oI (VV [6,7,10] (Gf c.hb c.gh c.gq c.q c.v.sQ) vs) t0,.inRegion oI []::kk,false⟩ w') (h0:SRQ c C l [] C l w):BO C l ⟨42,t0,.code Oy::kk,false⟩ w:=by
 rw[zDj];have KO:=Tn zql;refine BO.drawn (p:=aK) (gs:=Bn) (fs:=gG) vL.mixed [6,7,10] (Gf c.hb c.gh c.gq c.q c.v.sQ) (SRQ c C l) (λvs C l w h=>by
  obtain⟨rfl,rfl,_⟩:=h;exact⟨hI,hp,hg,hf,hF,hn⟩) zql zBB Ks (λvs K l w T e h=>SRQ.tp vs K l w T e h) (λi o ho hi=>?_) (λvs ci o C' l' w' hc ho hS t rest lY fR=>?_) hk h0
 .have hl:oI.toList[i]? =some o:=by rw[Ai];exact ho
  rw[zDG] at hl;have aN:i<11:=by have:=(jX.1 hl).1;simpa using this
  have tn:∀(vs:List aF) {j:Nat} {oj:aZ} {s:Tmp} {v:aF},oI[j]? =some oj->oj.dst=some s->s<t0.size->VV [6,7,10] (Gf c.hb c.gh c.gq c.q c.v.sQ) vs j=v->(dC oI (VV [6,7,10] (Gf c.hb c.gh c.gq c.q c.v.sQ) vs) t0).getD s aA=v:=λvs _ _ _ _ a b c d=>qI KO a b c d;have tq:∀(vs:List aF) {s:Tmp},Hg oI s=false->(dC oI (VV [6,7,10] (Gf c.hb c.gh c.gq c.q c.v.sQ) vs) t0).getD s aA=t0.getD s undef:=λvs _ a=>zew KO a;have O5:∀{vs:List aF} {C' l' w'},(SRQ c C l) vs C' l' w'->vs.length<3->c.RdRQ w':=λh hv=>by
   obtain⟨_,_,h,_⟩:=h;exact h hv
  rcases i with _|_|_|_|_|_|_|_|_|_|_|i
  .obtain rfl:=cE hl
   exact⟨aQ,λvs K' l' w' hv hS=>⟨eD rfl,rd2 (.pointer (some ⟨c.hb,0,none⟩)) ((tq vs aQ).trans Em) (aJ (O5 hS hv).2.1 0)⟩⟩
  .obtain rfl:=cE hl
   exact⟨aQ,λvs K' l' w' hv hS=>⟨eD rfl,rd2 (.pointer (some ⟨c.hb,0,none⟩)) ((tq vs aQ).trans Em) (aJ (O5 hS hv).2.1 0)⟩⟩
  .obtain rfl:=cE hl
   exact⟨aQ,λvs K' l' w' hv hS=>⟨eD rfl,uE (.pointer (some ⟨c.hb,0,none⟩)) (tn vs zFl rfl kP rfl)⟩⟩
  .obtain rfl:=cE hl
   exact⟨aQ,λvs K' l' w' hv hS=>⟨eD rfl,uE (.pointer (some ⟨c.hb,6,none⟩)) (tn vs zGW rfl kP rfl)⟩⟩
  .obtain rfl:=cE hl
   exact⟨aQ,λvs K' l' w' hv hS=>⟨eD rfl,rd2 (c.v.sQ) (tn vs zHM rfl kP rfl) (O5 hS hv).1⟩⟩
  .obtain rfl:=cE hl
   exact⟨aQ,λvs K' l' w' hv hS=>⟨eD rfl,rd2 (.chan (some c.q)) ((tq vs aQ).trans zmS) (aJ (O5 hS hv).2.2 0)⟩⟩
  .exact absurd aH hi
  .exact absurd aH hi
  .obtain rfl:=cE hl
   exact⟨aQ,λvs K' l' w' hv hS=>⟨eD rfl,uE (.pointer (some ⟨c.hb,0,none⟩)) (tn vs zDN rfl kP rfl)⟩⟩
  .obtain rfl:=cE hl
   exact⟨aQ,λvs K' l' w' hv hS=>⟨eD rfl,uE (.pointer (some ⟨c.hb,6,none⟩)) (tn vs zyS rfl kP rfl)⟩⟩
  .exact absurd aH hi
  .omega
 .rcases vs with _|⟨a,_|⟨b,_|⟨c',vs⟩⟩⟩
  .obtain rfl:6=ci:=by simpa using hc
   rw[zcA] at ho;obtain rfl:=cE ho;obtain⟨rfl,rfl,hR,z3,z5,s6⟩:=hS;have V1:(dC oI (VV [6,7,10] (Gf c.hb c.gh c.gq c.q c.v.sQ) []) t0).getD 61 aA=.chan (some c.q):=qI KO zIt rfl kP rfl;refine BO.op hF hI zcA (eD rfl) ziV (λs hs=>hn 6 _ s zcA hs) (λT=>⟨.slice (some ⟨w'.heap.size,0,none⟩) 1 1,(Tt.tp w' T 0).alloc (.cells #[.chan (some c.q)] 95),.inl ?_,?_⟩)
   .rw[hp]
    rw[D9 (KO.sel 6 _ zcA) lY];have hT:wR (dC oI (VV [6,7,10] (Gf c.hb c.gh c.gq c.q c.v.sQ) []) t0) (λs=>(dC oI (VV [6,7,10] (Gf c.hb c.gh c.gq c.q c.v.sQ) []) t0).getD s aA):=λs=>rfl;exact bsRQ hT V1
   .have al:bM c.hb c.v w' c.v ((Tt.tp w' T 0).alloc (.cells #[.chan (some c.q)] 95)):=(bM.refl.tp T 0).trans (bM.below (dO (eG _ _) _))
    exact fR _ _ _ _ ⟨rfl,rfl,λ_=>⟨Ax (hR aP).1 _,dH (hR aP).2.1 _,dH (hR aP).2.2 _⟩,⟨_,rfl,lP _ _⟩,(z3.tp T 0).alloc _,z5.trans al,eM s6 zep⟩
  .obtain rfl:7=ci:=by simpa using hc
   rw[zeV] at ho;obtain rfl:=cE ho;obtain⟨rfl,rfl,hR,⟨gs,rfl,zbn⟩,z3,z5,s6⟩:=hS;have zjj:=Gc lY (s:=60) aH (qI KO zAv rfl kP rfl);have ziG:=Gc lY (s:=62) aH (qI KO zcA rfl kP rfl);have zhV:some c.gh∉parts c.v c.hb:=zbW;have zGP:some c.gq∉parts c.v c.hb:=zcb;refine BO.op hF hI zeV (eD rfl) ziV (λs hs=>hn 7 _ s zeV hs) (λT=>?_);have a1:=z3.tp T 0;obtain⟨q1,q2,w5,fP,cP,nE,fA⟩:=Oh (w:=Tt.tp w' T 0) (t:=68) (ty:=68) info_cq Tryz.underlying68 rfl aH a1.Q (g:=gs) (cs:=#[.chan (some c.q)]) (news:=[.chan (some c.q)]) zbn rfl (m:=1) rfl aH La aC aH s6;obtain⟨a6,t6⟩:=a1.putQ nE (xs:=c.d.qn++[c.q]) (by rw[zrU];exact cP) aP fA;have xY:=(a1.other (j:=4) (c:=6) (x:=c.v.sQ) rfl aH nE (.slice (some ⟨q1,0,none⟩) (c.d.qn.length+1) q2)).2.trans a1.blk;have Fh:w5.heap[c.gh]? =some _:=(nE.block c.gh (gA (hR aP).2.1) (λe=>zhV (dX (i:=4) (show(parts c.v c.hb)[4]? =some (some c.gh) by rw[e];rfl)))).trans (hR aP).2.1;have Bd:w5.heap[c.gq]? =some _:=(nE.block c.gq (gA (hR aP).2.2) (λe=>zGP (dX (i:=4) (show(parts c.v c.hb)[4]? =some (some c.gq) by rw[e];rfl)))).trans (hR aP).2.2;refine⟨_,w5,.inl (by rw[hp];exact Yq rfl zjj ziG fP),fR _ _ _ _ ⟨rfl,rfl,λ_=>⟨aJ xY 6,Fh,Bd⟩,⟨q1,q2,rfl⟩,eK xY 6,_,a6,z5.trans ((bM.refl.tp T 0).trans t6),rfl,rfl,rfl⟩⟩
  .obtain rfl:10=ci:=by simpa using hc
   rw[zd0] at ho;obtain rfl:=cE ho;obtain⟨rfl,rfl,hR,⟨q1,q2,rfl⟩,mR,yQ⟩:=hS;have V1:(dC oI (VV [6,7,10] (Gf c.hb c.gh c.gq c.q c.v.sQ) [a,.slice (some ⟨q1,0,none⟩) (c.d.qn.length+1) q2]) t0).getD 63 aA=.slice (some ⟨q1,0,none⟩) (c.d.qn.length+1) q2:=qI KO zeV rfl kP rfl;have V2:(dC oI (VV [6,7,10] (Gf c.hb c.gh c.gq c.q c.v.sQ) [a,.slice (some ⟨q1,0,none⟩) (c.d.qn.length+1) q2]) t0).getD 65 aA=.pointer (some ⟨c.hb,6,none⟩):=qI KO zDZ rfl kP rfl;refine BO.op hF hI zd0 (eD rfl) ziV (λs hs=>hn 10 _ s zd0 hs) (λT=>⟨aA,Tt.tp (w'.setCell ⟨c.hb,6,none⟩ (.slice (some ⟨q1,0,none⟩) (c.d.qn.length+1) q2)) T 0,.inr ⟨?_,rfl⟩,?_⟩)
   .rw[hp]
    rw[D9 (KO.sel 10 _ zd0) lY];have hT:wR (dC oI (VV [6,7,10] (Gf c.hb c.gh c.gq c.q c.v.sQ) [a,.slice (some ⟨q1,0,none⟩) (c.d.qn.length+1) q2]) t0) (λs=>(dC oI (VV [6,7,10] (Gf c.hb c.gh c.gq c.q c.v.sQ) [a,.slice (some ⟨q1,0,none⟩) (c.d.qn.length+1) q2]) t0).getD s aA):=λs=>rfl;exact stRQ hT V2 V1 (hR aP).1 mR
   .exact fR aA _ _ _ ⟨rfl,rfl,λh=>absurd h aP,WH.RQ2.tp yQ T 0⟩
  .simp at hc
end
end Go.Proofs.YtfcjiloojkjaeaaGreatDoor
namespace Go.Proofs.YtfcjiloojkjaeaaGreatDoor
open Go.RowKit
theorem zlk (o:jN)(w:aE):
 fH aK 33 #[.agg #[.int .i64 o.ln,.int .i64 o.op,.int .i64 o.pt]] w λx w'=>x=.returned (.bool (sE o))/\bU w.heap.size w w':=by
 go_enter Tryz.func33,Tryz.ntmps33
 go_wp2
 all_goals go_ret
 all_goals refine⟨En ?_,((eG _ _).alloc (aV _) _)⟩
 all_goals rw[Ns]
 all_goals simp[sE,inB] at*
 all_goals grind
theorem zwu (e:dG)(ops:Int)(w:aE)(ho:1<=ops/\ops<=4):
 fH aK 52 #[.agg #[.string e.k,.int .i64 e.a,.int .i64 e.b],.int .i64 ops] w λx w'=>x=.returned (.bool (sN ops e))/\bU w.heap.size w w':=by
 obtain⟨yT,zb9⟩:=ho
 go_enter Tryz.func52,Tryz.ntmps52
 go_wp2
 all_goals go_ret
 all_goals refine⟨En ?_,((eG _ _).alloc (aV _) _)⟩
 all_goals rw[Ns]
 all_goals simp[sN,Kc,inB,Jq,L5,Jb,H0,zbF] at*
 all_goals grind
end Go.Proofs.YtfcjiloojkjaeaaGreatDoor
namespace Go.Proofs.YtfcjiloojkjaeaaGreatDoor
open Go.RowKit Go.Mt Go.Conc Go.Tt Go.Maps Go.Conc.Lib Go.ConcR.Gen
open Go.ConcR (KK wgBlock WgAt stA smA rd wr)
structure oM (wB:aE)(lo go ge n c:Nat)(A:Option bL)(o:jN)(es:List dG)(w:aE):Prop where
 lo_:lo<=w.heap.size
 tab:Ad lo w
 ev:b7 w 0 lo 3 A n c (lM es)
 gol:go<lo
 gel:ge<lo
 bo:w.heap[go]? =some (.cells #[.int .i64 o.ln,.int .i64 o.op,.int .i64 o.pt] 29)
 be:w.heap[ge]? =some (.cells #[.slice A n c] 31)
 old:∀b,b<lo->w.heap[b]? =wB.heap[b]?
section
variable {lo go ge n c:Nat}{A:Option bL}{o:jN}{es:List dG}{wB w w':aE}
def oM.keep (h:oM wB lo go ge n c A o es w)(hs:w.heap.size<=w'.heap.size)(k:∀b,b<lo->w'.heap[b]? =w.heap[b]?):oM wB lo go ge n c A o es w':=
 ⟨eM h.lo_ hs,h.tab.keep k,h.ev.keep hs λb _ q _=>k b q,h.gol,h.gel,(k _ h.gol).trans h.bo,(k _ h.gel).trans h.be,λb hb=>(k b hb).trans (h.old b hb)⟩
def oM.below (h:oM wB lo go ge n c A o es w)(k:bU w.heap.size w w'):oM wB lo go ge n c A o es w':=h.keep k.size λb hb=>k.block b (lE hb h.lo_)
def oM.tp (h:oM wB lo go ge n c A o es w)(T:jZ)(e:Nat):oM wB lo go ge n c A o es (Tt.tp w T e):=h.keep (aV _) λ_ _=>rfl
end
structure oJ (wB:aE)(lo go ge n c:Nat)(A:Option bL)(o:jN)(es:List dG)(hb gh:Nat)(ln qn:List Nat)(v:fO)(w:aE):Prop where
 e:oM wB lo go ge n c A o es w
 at_:bF w lo hb v ⟨lW o,ln,qn,[]⟩
 mp:v.pC=[]/\v.pO=[]/\v.pM=[]
 nd:ln.Nodup
 lt:∀x∈ln,x<w.heap.size
 bh:w.heap[gh]? =some (.cells #[.pointer (some ⟨hb,0,none⟩)] 63)
 nh:some gh∉parts v hb
 ghl:lo<=gh
section
variable {lo go ge n c hb gh:Nat}{A:Option bL}{o:jN}{es:List dG}{ln qn zgL zdC:List Nat}{v v':fO}{wB w w':aE}
theorem oJ.turn (h:oJ wB lo go ge n c A o es hb gh ln qn v w)(t:bM hb v w v' w')(a:bF w' lo hb v' ⟨lW o,zgL,zdC,[]⟩)(m:v.maps v')(hn:zgL.Nodup)(hl:∀x∈zgL,x<w'.heap.size):oJ wB lo go ge n c A o es hb gh zgL zdC v' w':=by
 obtain⟨b1,b2⟩:=h.at_.turned t h.bh h.nh;refine⟨h.e.keep t.size λb bZ=>t.block b (lE bZ h.e.lo_) λhp=>?_,a,⟨m.1.trans h.mp.1,m.2.1.trans h.mp.2.1,m.2.2.trans h.mp.2.2⟩,hn,hl,b1,b2,h.ghl⟩;have:=(h.at_.lt b hp).1;omega
def oJ.below (h:oJ wB lo go ge n c A o es hb gh ln qn v w)(k:bU w.heap.size w w'):oJ wB lo go ge n c A o es hb gh ln qn v w':=
 h.turn (bM.below k) (h.at_.below k) ⟨rfl,rfl,rfl⟩ h.nd λx hx=>lE (h.lt x hx) k.size
def oJ.tp (h:oJ wB lo go ge n c A o es hb gh ln qn v w)(T:jZ)(e:Nat):oJ wB lo go ge n c A o es hb gh ln qn v (Tt.tp w T e):=⟨h.e.tp T e,h.at_.tp T e,h.mp,h.nd,h.lt,h.bh,h.nh,h.ghl⟩
theorem oJ.mr (h:oJ wB lo go ge n c A o es hb gh ln qn v w):gC v ⟨lW o,ln,qn,[]⟩:=by
 obtain⟨h1,h2,h3⟩:=h.mp;refine⟨by rw[h1];exact Ou,by rw[h2];exact Ou,by rw[h3];exact Ou,λi g _=>?_,λc y hy=>?_,λc _ i x hx=>?_,λc y hy=>?_,λc _ i x hx=>?_⟩
 .rw[h1]
  refine⟨λx=>(by cases x),λ⟨j,x,hx,_⟩=>?_⟩;have hx:([]:List bS)[j]? =some x:=hx;simp at hx
 .rw[h2] at hy;cases hy
 .have hx:([]:List bS)[i]? =some x:=hx
  simp at hx
 .rw[h3] at hy;cases hy
 .have hx:([]:List bS)[i]? =some x:=hx
  simp at hx
end
def Xc:Go.Code:=.seq rRH11 (.seq (.cond (.tmp 39) .skip (.exit 2)) (.seq (.block 3 zbh) rRH13))
def zba:Go.Code:=.seq rRH4 (.seq (.cond (.tmp 21) .skip (.exit 0)) (.seq (.block 1 (.seq rRH5 (.seq rRH6 (.cond (.tmp 28) (.seq rRH7 .ret) .skip)))) rRH8))
section
variable {Post:aF->aE->Prop}{Shun:Loc->Prop}{W0:aE}{St:Nat->Prop}{R0:Pr}{base:List dJ}{wB:aE}{lo go ge n c hb gh:Nat}{A:Option bL}{o:jN}{es:List dG}
abbrev Hs (Post:aF->aE->Prop)(Shun:Loc->Prop)(W0:aE)(St:Nat->Prop)(R0:Pr)(base:List dJ)(K:Pr):Cx Unit:=Fg aK Bn gG Post Shun W0 St K R0 base
theorem zCM {kk:List eF}(h6:o.ln<=6)(K0:Pr)(zcw:∀K w v ln u0 u1 u4 u5 u6 u8 u9 gU gH gK gJ gE gF u16 gY kQ kM jR gZ iJ iI iD iK iH iA iC iG jK jL u32 iO iL iB hY iM iN iF iX iP jB jC iW iV iY jD iS iU mF mL lC lA kN kJ kO kV kH kE kC j8 u64 kD j6 j5 kF lB kL kU j7,K0.le K->oJ wB lo go ge n c A o es hb gh ln [] v w->(ln.length:Int)=o.ln->BO (Hs Post Shun W0 St R0 base K) () ⟨42,#[u0,u1,.pointer (some ⟨go,0,none⟩),.pointer (some ⟨ge,0,none⟩),u4,u5,u6,.pointer (some ⟨gh,0,none⟩),u8,u9,gU,gH,gK,gJ,gE,gF,u16,gY,kQ,kM,jR,gZ,iJ,iI,iD,iK,iH,iA,iC,iG,jK,jL,u32,iO,iL,iB,hY,.int .i64 o.ln,.int .i64 o.ln,iM,iN,iF,iX,iP,jB,jC,iW,iV,iY,jD,iS,iU,mF,mL,lC,lA,kN,kJ,kO,kV,kH,kE,kC,j8,u64,kD,j6,j5,kF,lB,kL,kU,j7],kk,false⟩ w):
 ∀(m k:Nat),((k+m:Nat):Int)=o.ln->∀(K:Pr) (w:aE) (v:fO) (ln:List Nat) (u0 u1 u4 u5 u6 u8 u9 gU gH gK gJ gE gF u16 gY kQ kM jR gZ iJ iI iD iK iH iA iC iG jK jL u32 iO iL iB hY iM iN iF iX iP jB jC iW iV iY jD iS iU mF mL lC lA kN kJ kO kV kH kE kC j8 u64 kD j6 j5 kF lB kL kU j7:aF),K0.le K->oJ wB lo go ge n c A o es hb gh ln [] v w->ln.length=k->BO (Hs Post Shun W0 St R0 base K) () ⟨42,#[u0,u1,.pointer (some ⟨go,0,none⟩),.pointer (some ⟨ge,0,none⟩),u4,u5,u6,.pointer (some ⟨gh,0,none⟩),u8,u9,gU,gH,gK,gJ,gE,gF,u16,gY,kQ,kM,jR,gZ,iJ,iI,iD,iK,iH,iA,iC,iG,jK,jL,u32,iO,iL,iB,hY,.int .i64 o.ln,.int .i64 k,iM,iN,iF,iX,iP,jB,jC,iW,iV,iY,jD,iS,iU,mF,mL,lC,lA,kN,kJ,kO,kV,kH,kE,kC,j8,u64,kD,j6,j5,kF,lB,kL,kU,j7],.code Xc:: .inLoop Xc:: .inBlock 2::kk,false⟩ w:=by
 intro m
 induction m with
 |zero=>
  intro k hk K w v ln u0 u1 u4 u5 u6 u8 u9 gU gH gK gJ gE gF u16 gY kQ kM jR gZ iJ iI iD iK iH iA iC iG jK jL u32 iO iL iB hY iM iN iF iX iP jB jC iW iV iY jD iS iU mF mL lC lA kN kJ kO kV kH kE kC j8 u64 kD j6 j5 kF lB kL kU j7 hK hR hl;have yY:(k:Int)=o.ln:=by simpa using hk
  have Gw:¬(k:Int)<o.ln:=aC;have HR:=aD hR;have HE:=aD yY;clear hR hk yY;unfold Xc;refine BO.seq dA ?_;refine BO.pV mQ dA tL (λw1 T1 fB Q' cY=>?_);have lO:=aD (show oJ wB lo go ge n c A o es hb gh ln [] v w1 by rw[fB];exact HR.o.tp T1 0);clear HR;clear fB;go_wp2;refine cY.o _ _ ?_;clear cY;refine BO.seq dA ?_;refine BO.cond dA (t:=false) rfl rfl ?_;refine BO.exit dA (k':=kk) rfl ?_;have yY:=HE.o;rw[yY];exact zcw K _ v ln _ _ _ _ _ _ _ _ _ _ _ _ _ _ _ _ _ _ _ _ _ _ _ _ _ _ _ _ _ _ _ _ _ _ _ _ _ _ _ _ _ _ _ _ _ _ _ _ _ _ _ _ _ _ _ _ _ _ _ _ _ _ _ _ _ _ _ _ hK lO.o aC
 |succ m ih=>
  intro k hk K w v ln u0 u1 u4 u5 u6 u8 u9 gU gH gK gJ gE gF u16 gY kQ kM jR gZ iJ iI iD iK iH iA iC iG jK jL u32 iO iL iB hY iM iN iF iX iP jB jC iW iV iY jD iS iU mF mL lC lA kN kJ kO kV kH kE kC j8 u64 kD j6 j5 kF lB kL kU j7 hK hR hl;have Gw:(k:Int)<o.ln:=aC;have HR:=aD hR;have HK:=aD hk;clear hR hk;unfold Xc;refine BO.seq dA ?_;refine BO.pV mQ dA tL (λw1 T1 fB Q' cY=>?_);have lO:=aD (show oJ wB lo go ge n c A o es hb gh ln [] v w1 by rw[fB];exact HR.o.tp T1 0);clear HR;clear fB;go_wp2;refine cY.o _ _ ?_;clear cY;refine BO.seq dA ?_;refine BO.cond dA (t:=true) rfl rfl ?_;refine BO.skip dA ?_;refine BO.seq dA ?_;refine BO.block dA ?_;refine cw_RL (c:=⟨lo,hb,gh,0,0,v,w1,v,⟨lW o,ln,[],[]⟩⟩) (by show ln.length<=1000;omega) lO.o.nh rfl rfl (λvs C' l' w' uB hS=>?_) ⟨K,wO _,rfl,λ_=>⟨aJ lO.o.at_.blk 3,lO.o.bh⟩,⟨lO.o.at_,bM.refl,lO.o.e.lo_⟩,lO.o.lt⟩;rw[Go.Mt.Ac,zF7];simp only[Go.Mt.wN,dW,dS];obtain⟨K',hle,rfl,_,h4⟩:=hS;have s4:∃g,(∀x∈ln,x<g)/\g<w'.heap.size/\WH.RL2 ⟨lo,hb,gh,0,0,v,w1,v,⟨lW o,ln,[],[]⟩⟩ g w':=by
   rcases vs with _|⟨a,_|⟨b,_|⟨x,_|⟨y,vs⟩⟩⟩⟩
   .cases uB
   .cases uB
   .cases uB
   .cases uB
   .exact h4
  obtain⟨g,s2,s3,v2,a2,t2,mp⟩:=s4;have rT:K0.le K':=wF hK hle;have Lh:oJ wB lo go ge n c A o es hb gh (ln++[g]) [] v2 w':=lO.o.turn t2 a2 mp (by
   rw[List.nodup_append];refine⟨lO.o.nd,List.nodup_cons.2 ⟨l8,Ou⟩,λa ha b bZ=>?_⟩;obtain rfl:=sK.1 bZ;have:=s2 a ha;omega) (λx hx=>by
   rcases List.mem_append.1 hx with hx|hx
   .exact zlV (s2 x hx) s3
   .obtain rfl:=sK.1 hx;exact s3)
  have lI:=aD Lh;clear Lh a2 t2 mp s2 h4 uB lO;refine BO.regEnd dA ?_;refine BO.inBlock dA ?_;refine BO.pV mQ dA tL (λw2 T2 fZ Q' cY=>?_);have Oo:=aD (show oJ wB lo go ge n c A o es hb gh (ln++[g]) [] v2 w2 by rw[fZ];exact lI.o.tp T2 0);clear lI;clear fZ;go_wp2;refine cY.o _ _ ?_;clear cY;refine BO.inLoop dA ?_;exact ih (k+1) (by have:=HK.o;omega) K' _ v2 (ln++[g]) _ _ _ _ _ _ _ _ _ _ _ _ _ _ _ _ _ _ _ _ _ _ _ _ _ _ _ _ _ _ _ _ _ _ _ _ _ _ _ _ _ _ _ _ _ _ _ _ _ _ _ _ _ _ _ _ _ _ _ _ _ _ _ _ _ _ _ _ rT Oo.o (by rw[gM,hl];rfl)
end
section
variable {Post:aF->aE->Prop}{Shun:Loc->Prop}{W0:aE}{St:Nat->Prop}{R0:Pr}{base:List dJ}{K:Pr}{wB:aE}{lo go ge n c:Nat}{A:Option bL}{o:jN}{es:List dG}
theorem zIG {kk:List eF}(hop:1<=o.op/\o.op<=4)(zAm:n<=60)(Ck:es.length=n)
 (Uc:∀(T:Array aF) todo w,T.getD 4 aA=.pointer none->oM wB lo go ge n c A o es w->es.all (sN o.op)=false->BO (Hs Post Shun W0 St R0 base K) () ⟨42,T,todo,true⟩ w)
 (zcw:∀w jR u0 u1 u5 u6 u7 u8 u9 gU gH gK gJ gE gF u16 gY gZ iJ iI iD iK iH iA iC iG jK jL u32 iO iL iB hY kI kR iM iN iF iX iP jB jC iW iV iY jD iS iU mF mL lC lA kN kJ kO kV kH kE kC j8 u64 kD j6 j5 kF lB kL kU j7,oM wB lo go ge n c A o es w->es.all (sN o.op)=true->BO (Hs Post Shun W0 St R0 base K) () ⟨42,#[u0,u1,.pointer (some ⟨go,0,none⟩),.pointer (some ⟨ge,0,none⟩),.pointer none,u5,u6,u7,u8,u9,gU,gH,gK,gJ,gE,gF,u16,gY,.slice A n c,.int .i64 n,jR,gZ,iJ,iI,iD,iK,iH,iA,iC,iG,jK,jL,u32,iO,iL,iB,hY,kI,kR,iM,iN,iF,iX,iP,jB,jC,iW,iV,iY,jD,iS,iU,mF,mL,lC,lA,kN,kJ,kO,kV,kH,kE,kC,j8,u64,kD,j6,j5,kF,lB,kL,kU,j7],kk,false⟩ w):
 ∀(m k:Nat),k+m=n->∀(w:aE) (u0 u1 u5 u6 u7 u8 u9 gU gH gK gJ gE gF u16 gY gZ iJ iI iD iK iH iA iC iG jK jL u32 iO iL iB hY kI kR iM iN iF iX iP jB jC iW iV iY jD iS iU mF mL lC lA kN kJ kO kV kH kE kC j8 u64 kD j6 j5 kF lB kL kU j7:aF),oM wB lo go ge n c A o es w->(∀j,j<k->∀b,es[j]? =some b->sN o.op b=true)->BO (Hs Post Shun W0 St R0 base K) () ⟨42,#[u0,u1,.pointer (some ⟨go,0,none⟩),.pointer (some ⟨ge,0,none⟩),.pointer none,u5,u6,u7,u8,u9,gU,gH,gK,gJ,gE,gF,u16,gY,.slice A n c,.int .i64 n,.int .i64 k,gZ,iJ,iI,iD,iK,iH,iA,iC,iG,jK,jL,u32,iO,iL,iB,hY,kI,kR,iM,iN,iF,iX,iP,jB,jC,iW,iV,iY,jD,iS,iU,mF,mL,lC,lA,kN,kJ,kO,kV,kH,kE,kC,j8,u64,kD,j6,j5,kF,lB,kL,kU,j7],.code zba:: .inLoop zba:: .inBlock 0::kk,false⟩ w:=by
 intro m
 induction m with
 |zero=>
  intro k hk w u0 u1 u5 u6 u7 u8 u9 gU gH gK gJ gE gF u16 gY gZ iJ iI iD iK iH iA iC iG jK jL u32 iO iL iB hY kI kR iM iN iF iX iP jB jC iW iV iY jD iS iU mF mL lC lA kN kJ kO kV kH kE kC j8 u64 kD j6 j5 kF lB kL kU j7 hE sX;have yY:n=k:=aC;subst yY;have Gw:¬(n:Int)<(n:Int):=aC;have HE:=aD hE;have HA:=aD sX;have HN:=aD Ck;clear hE sX Ck hk;unfold zba;refine BO.seq dA ?_;refine BO.pV mQ dA tL (λw1 T1 fB Q' cY=>?_);have cK:=aD (show oM wB lo go ge n c A o es w1 by rw[fB];exact HE.o.tp T1 0);clear HE;clear fB;go_wp2;refine cY.o _ _ ?_;clear cY;refine BO.seq dA ?_;refine BO.cond dA (t:=false) rfl rfl ?_;refine BO.exit dA (k':=kk) rfl ?_;exact zcw _ _ _ _ _ _ _ _ _ _ _ _ _ _ _ _ _ _ _ _ _ _ _ _ _ _ _ _ _ _ _ _ _ _ _ _ _ _ _ _ _ _ _ _ _ _ _ _ _ _ _ _ _ _ _ _ _ _ _ _ _ _ _ _ _ _ _ _ _ cK.o (zEO HA.o (by rw[HN.o];exact aV _))
 |succ m ih=>
  intro k hk w u0 u1 u5 u6 u7 u8 u9 gU gH gK gJ gE gF u16 gY gZ iJ iI iD iK iH iA iC iG jK jL u32 iO iL iB hY kI kR iM iN iF iX iP jB jC iW iV iY jD iS iU mF mL lC lA kN kJ kO kV kH kE kC j8 u64 kD j6 j5 kF lB kL kU j7 hE sX;have aN:k<n:=aC;have Gw:(k:Int)<(n:Int):=aC;have i0:(0:Int)<=(k:Int):=aC;have HE:=aD hE;have HA:=aD sX;have HN:=aD Ck;have HK:=aD hk;clear hE sX Ck hk;unfold zba;refine BO.seq dA ?_;refine BO.pV mQ dA tL (λw1 T1 fB Q' cY=>?_);have cK:=aD (show oM wB lo go ge n c A o es w1 by rw[fB];exact HE.o.tp T1 0);clear HE;clear fB;go_wp2;refine cY.o _ _ ?_;clear cY;refine BO.seq dA ?_;refine BO.cond dA (t:=true) rfl rfl ?_;refine BO.skip dA ?_;refine BO.seq dA ?_;refine BO.block dA ?_;refine BO.seq dA ?_;obtain⟨be,oe,ev,hA,zCU,zgN,zkv,Eo,e0,e1,e2⟩:=cK.o.ev.eventsAt aN;subst hA;have Mv:=aD Eo;clear Eo;refine BO.pV mQ dA tL (λw2 T2 fZ Q' cY=>?_);have nF:=aD (show oM wB lo go ge n c (some ⟨be,oe,none⟩) o es w2 by rw[fZ];exact cK.o.tp T2 0);have zdV:w2.cell? ⟨be,oe+k*3,none⟩=some (.string ev.k):=by rw[fZ];exact e0
  have Ff:w2.cell? ⟨be,oe+k*3+1,none⟩=some (.int .i64 ev.a):=by rw[fZ];exact e1
  have ziA:w2.cell? ⟨be,oe+k*3+2,none⟩=some (.int .i64 ev.b):=by rw[fZ];exact e2
  clear e0 e1 e2;clear cK;clear fZ;go_wp2;refine cY.o _ _ ?_;clear cY;clear zdV Ff ziA;obtain⟨gb,eV⟩:=aU w2.heap.size;obtain⟨w3,iT⟩:=aU (w2.alloc (.cells #[.string ev.k,.int .i64 ev.a,.int .i64 ev.b] 54));have uR:=aD (show oM wB lo go ge n c (some ⟨be,oe,none⟩) o es w3 by rw[iT];exact nF.o.below (dO (eG _ _) _));have vH:=aD (show w3.heap[gb]? =some (.cells #[.string ev.k,.int .i64 ev.a,.int .i64 ev.b] 54) by rw[iT,eV];exact lP _ _);rw[<-eV,<-iT];clear iT eV nF;refine BO.seq dA ?_
  cases hv:sN o.op ev with
  |true=>
   refine BO.pV mQ dA tL (λw4 T3 lJ Q' cY=>?_);have zcz:=aD (show oM wB lo go ge n c (some ⟨be,oe,none⟩) o es w4 by rw[lJ];exact uR.o.tp T3 0);have g0:w4.cell? ⟨gb,0,none⟩=some (.string ev.k):=by rw[lJ];exact aJ vH.o 0
   have g1:w4.cell? ⟨gb,1,none⟩=some (.int .i64 ev.a):=by rw[lJ];exact aJ vH.o 1
   have g2:w4.cell? ⟨gb,2,none⟩=some (.int .i64 ev.b):=by rw[lJ];exact aJ vH.o 2
   have o1:w4.cell? ⟨go,1,none⟩=some (.int .i64 o.op):=by rw[lJ];exact aJ uR.o.bo 1
   have HV:=aD hv;clear uR vH hv;clear lJ
   go_wp2_with ((go_at_call 52;refine(zwu ev o.op _ hop).mono ?_;rintro e w' ⟨rfl,mX⟩))
   refine cY.o _ _ ?_;clear cY;clear g0 g1 g2 o1;have zbo:=aD (zcz.o.below mX);clear mX zcz;refine BO.cond dA (t:=false) rfl (by first|rfl|simp[wA,HV.o]) ?_;refine BO.skip dA ?_;refine BO.inBlock dA ?_;refine BO.pV mQ dA tL (λw6 T6 pK Q' cY=>?_);have zkk:=aD (show oM wB lo go ge n c (some ⟨be,oe,none⟩) o es w6 by rw[pK];exact zbo.o.tp T6 0);clear zbo;clear pK;go_wp2;refine cY.o _ _ ?_;clear cY;refine BO.inLoop dA ?_;exact ih (k+1) (by have:=HK.o;omega) _ _ _ _ _ _ _ _ _ _ _ _ _ _ _ _ _ _ _ _ _ _ _ _ _ _ _ _ _ _ _ _ _ _ _ _ _ _ _ _ _ _ _ _ _ _ _ _ _ _ _ _ _ _ _ _ _ _ _ _ _ _ _ _ _ _ _ _ zkk.o (zAE HA.o Mv.o HV.o)
  |false=>
   refine BO.pV mQ dA tL (λw4 T3 lJ Q' cY=>?_);have zcz:=aD (show oM wB lo go ge n c (some ⟨be,oe,none⟩) o es w4 by rw[lJ];exact uR.o.tp T3 0);have g0:w4.cell? ⟨gb,0,none⟩=some (.string ev.k):=by rw[lJ];exact aJ vH.o 0
   have g1:w4.cell? ⟨gb,1,none⟩=some (.int .i64 ev.a):=by rw[lJ];exact aJ vH.o 1
   have g2:w4.cell? ⟨gb,2,none⟩=some (.int .i64 ev.b):=by rw[lJ];exact aJ vH.o 2
   have o1:w4.cell? ⟨go,1,none⟩=some (.int .i64 o.op):=by rw[lJ];exact aJ uR.o.bo 1
   have HV:=aD hv;clear uR vH hv;clear lJ
   go_wp2_with ((go_at_call 52;refine(zwu ev o.op _ hop).mono ?_;rintro e w' ⟨rfl,mX⟩))
   refine cY.o _ _ ?_;clear cY;clear g0 g1 g2 o1;have zbo:=aD (zcz.o.below mX);clear mX zcz;refine BO.cond dA (t:=true) rfl (by first|rfl|simp[wA,HV.o]) ?_;refine BO.seq dA ?_;refine BO.pV mQ dA tL (λw6 T6 pK Q' cY=>?_);have zkk:=aD (show oM wB lo go ge n c (some ⟨be,oe,none⟩) o es w6 by rw[pK];exact zbo.o.tp T6 0);clear zbo;clear pK;go_wp2;refine cY.o _ _ ?_;clear cY;refine BO.ret dA ?_;exact Uc _ _ _ rfl zkk.o (zIQ Mv.o HV.o)
end
variable {w w':aE}
theorem znr (h:w'.heap=w.heap)(ht:vF w):vF w':=by
 unfold vF zfw zgD at*;rw[h];exact ht
variable {lo:Nat}{w1:aE}
theorem Ad.of (h:vF w)(dV:w.heap.size<=lo)(hs:lo<=w1.heap.size)(k:∀b,b<w.heap.size->w1.heap[b]? =w.heap[b]?):Ad lo w1:=λw' hw=>by
 have hz:w.heap.size<=w'.heap.size:=by
  rcases mY w'.heap.size w.heap.size with h'|h'
  .have e1:=hw w'.heap.size aC
   rw[k _ h',Array.getElem?_eq_none (aV _),mD h'] at e1;cases e1
  .exact h'
 have hb:bU w.heap.size w {w' with os:=w.os,tape:=w.tape,output:=w.output}:=⟨rfl,rfl,rfl,hz,λb hb=>(hw b aC).trans (k b hb)⟩;exact znr (w:={w' with os:=w.os,tape:=w.tape,output:=w.output}) rfl (zjD h _ hb)
def fI (s:Nat):fO:=⟨.slice none 0 0,.slice none 0 0,.slice none 0 0,.slice none 0 0,.slice none 0 0,.slice none 0 0,.slice none 0 0,s,s+1,s+2,[],[],[]⟩
variable {b:Nat}
def zsR {x:Obj}(h:w.heap[b]? =some x)(o:Obj):(w.alloc o).heap[b]? =some x:=(rA w o b (dQ.1 h).1).trans h
theorem zDL (dV:lo<=w.heap.size)(o:jN)(w5:aE)(h5:w5=((((w.alloc (.map #[] 0)).alloc (.map #[] 0)).alloc (.map #[] 0)).alloc (Pw (fI w.heap.size) ⟨lW o,[],[],[]⟩)).alloc (.cells #[.pointer (some ⟨w.heap.size+3,0,none⟩)] 63)):
 bF w5 lo (w.heap.size+3) (fI w.heap.size) ⟨lW o,[],[],[]⟩/\w5.heap[w.heap.size+4]? =some (.cells #[.pointer (some ⟨w.heap.size+3,0,none⟩)] 63)/\some (w.heap.size+4)∉parts (fI w.heap.size) (w.heap.size+3)/\bU w.heap.size w w5:=by
 obtain⟨a1,Ar⟩:=aU (w.alloc (.map #[] 0));obtain⟨a2,zbE⟩:=aU (a1.alloc (.map #[] 0));obtain⟨a3,Za⟩:=aU (a2.alloc (.map #[] 0));obtain⟨a4,U2⟩:=aU (a3.alloc (Pw (fI w.heap.size) ⟨lW o,[],[],[]⟩));rw[<-Ar,<-zbE,<-Za,<-U2] at h5;have z1:a1.heap.size=w.heap.size+1:=by rw[Ar];exact rF _ _
 have z2:a2.heap.size=w.heap.size+2:=by rw[zbE,rF,z1]
 have z3:a3.heap.size=w.heap.size+3:=by rw[Za,rF,z2]
 have z4:a4.heap.size=w.heap.size+4:=by rw[U2,rF,z3]
 have z5:w5.heap.size=w.heap.size+5:=by rw[h5,rF,z4]
 have k1:a1.heap[w.heap.size]? =some (.map #[] 0):=by rw[Ar];exact Ef _ _
 have k2:a2.heap[w.heap.size+1]? =some (.map #[] 0):=by rw[zbE,<-z1];exact Ef _ _
 have k3:a3.heap[w.heap.size+2]? =some (.map #[] 0):=by rw[Za,<-z2];exact Ef _ _
 have k4:a4.heap[w.heap.size+3]? =some (Pw (fI w.heap.size) ⟨lW o,[],[],[]⟩):=by rw[U2,<-z3];exact Ef _ _
 have k5:w5.heap[w.heap.size+4]? =some (.cells #[.pointer (some ⟨w.heap.size+3,0,none⟩)] 63):=by rw[h5,<-z4];exact Ef _ _
 have u:∀{x y:aE} {b:Nat} {ob q:Obj},y=x.alloc q->x.heap[b]? =some ob->y.heap[b]? =some ob:=λe h=>by rw[e];exact zsR h _
 have m1:=u h5 (u U2 (u Za (u zbE k1)));have m2:=u h5 (u U2 (u Za k2));have m3:=u h5 (u U2 k3);have m4:=u h5 k4;have pp:∀(i b:Nat),(parts (fI w.heap.size) (w.heap.size+3))[i]? =some (some b)->(i=0/\b=w.heap.size+3)\/(i=2/\b=w.heap.size)\/(i=3/\b=w.heap.size+1)\/(i=8/\b=w.heap.size+2):=λi b h=>by
  unfold parts fI at h;rcases i with _|_|_|_|_|_|_|_|_|_|_|i<;>simp[aF.ownBlock] at h<;>omega
 refine⟨⟨m4,⟨aC,dV,by show lo<=w.heap.size+1;omega,by show lo<=w.heap.size+2;omega⟩,⟨rfl,.inl ⟨rfl,rfl⟩⟩,⟨rfl,.inl ⟨rfl,rfl⟩⟩,⟨rfl,.inl ⟨rfl,rfl⟩⟩,⟨rfl,.inl ⟨rfl,rfl⟩⟩,⟨rfl,.inl ⟨rfl,rfl⟩⟩,⟨rfl,.inl ⟨rfl,rfl⟩⟩,⟨rfl,.inl ⟨rfl,rfl⟩⟩,⟨_,_,m1,rfl⟩,⟨_,_,m2,rfl⟩,⟨_,_,m3,rfl⟩,λi j b hi hj=>?_⟩,k5,λhp=>?_,?_⟩
 .have:=pp i b hi;have:=pp j b hj;omega
 .obtain⟨i,hi⟩:=List.mem_iff_getElem?.1 hp
  have:=pp i _ hi;omega
 .subst h5;subst U2;subst Za;subst zbE;subst Ar
  exact dO (dO (dO (dO (dO (eG _ _) _) _) _) _) _
def Ft:Go.Code:=.seq (.seq zmh (.block 4 (.loop (.seq zhX (.seq (.cond (.tmp 54) .skip (.exit 4)) (.seq (.block 5 (.seq zcf (.seq Oy (.seq Sy Ro)))) zlH)))))) (.seq Vb (.seq X2 (.seq Zu (.seq To .ret))))
section
variable {Post:aF->aE->Prop}{Shun:Loc->Prop}{W0:aE}{St:Nat->Prop}{R0:Pr}{base:List dJ}{K:Pr}{wB:aE}{lo go ge n c:Nat}{A:Option bL}{o:jN}{es:List dG}
theorem rh_made (C0:sE o=true)(hgo:∀K' w v ln hb gh u0 u1 u4 u5 u6 u8 u9 gU gH gK gJ gE gF u16 gY kQ kM jR gZ iJ iI iD iK iH iA iC iG jK jL u32 iO iL iB hY kI kR iM iN iF iX iP jB jC iW iV iY jD iS iU mF mL lC lA kN kJ kO kV kH kE kC j8 u64 kD j6 j5 kF lB kL kU j7,K.le K'->oJ wB lo go ge n c A o es hb gh ln [] v w->(ln.length:Int)=o.ln->BO (Hs Post Shun W0 St R0 base K') () ⟨42,#[u0,u1,.pointer (some ⟨go,0,none⟩),.pointer (some ⟨ge,0,none⟩),u4,u5,u6,.pointer (some ⟨gh,0,none⟩),u8,u9,gU,gH,gK,gJ,gE,gF,u16,gY,kQ,kM,jR,gZ,iJ,iI,iD,iK,iH,iA,iC,iG,jK,jL,u32,iO,iL,iB,hY,kI,kR,iM,iN,iF,iX,iP,jB,jC,iW,iV,iY,jD,iS,iU,mF,mL,lC,lA,kN,kJ,kO,kV,kH,kE,kC,j8,u64,kD,j6,j5,kF,lB,kL,kU,j7],[.code (.seq Np Ft)],false⟩ w){w:aE}{u0 u1 u5 u6 u7 u8 u9 gU gH gK gJ gE gF u16 gY kQ kM jR gZ iJ iI iD iK iH iA iC iG jK jL u32 iO iL iB hY kI kR iM iN iF iX iP jB jC iW iV iY jD iS iU mF mL lC lA kN kJ kO kV kH kE kC j8 u64 kD j6 j5 kF lB kL kU j7:aF}(hE:oM wB lo go ge n c A o es w):
 BO (Hs Post Shun W0 St R0 base K) () ⟨42,#[u0,u1,.pointer (some ⟨go,0,none⟩),.pointer (some ⟨ge,0,none⟩),.pointer none,u5,u6,u7,u8,u9,gU,gH,gK,gJ,gE,gF,u16,gY,kQ,kM,jR,gZ,iJ,iI,iD,iK,iH,iA,iC,iG,jK,jL,u32,iO,iL,iB,hY,kI,kR,iM,iN,iF,iX,iP,jB,jC,iW,iV,iY,jD,iS,iU,mF,mL,lC,lA,kN,kJ,kO,kV,kH,kE,kC,j8,u64,kD,j6,j5,kF,lB,kL,kU,j7],[.code (.seq rRH9 (.seq (.seq zkm (.block 2 (.loop Xc))) (.seq Np Ft)))],false⟩ w:=by
 have rR:=C0;have HE:=aD hE;have HO:=aD C0;clear hE C0 rR;refine BO.seq dA ?_;refine BO.pV mQ dA tL (λw1 T1 fB Q' cY=>?_);have cK:=aD (show oM wB lo go ge n c A o es w1 by rw[fB];exact HE.o.tp T1 0);clear HE;have g0:w1.cell? ⟨go,0,none⟩=some (.int .i64 o.ln):=aJ cK.o.bo 0;have g1:w1.cell? ⟨go,1,none⟩=some (.int .i64 o.op):=aJ cK.o.bo 1;have g2:w1.cell? ⟨go,2,none⟩=some (.int .i64 o.pt):=aJ cK.o.bo 2;have Mz:=@run_makeMap aK;clear fB;go_wp2;refine cY.o _ _ ?_;clear cY;clear g0 g1 g2 Mz;obtain⟨w5,n5⟩:=aU (((((w1.alloc (.map #[] 0)).alloc (.map #[] 0)).alloc (.map #[] 0)).alloc (Pw (fI w1.heap.size) ⟨lW o,[],[],[]⟩)).alloc (.cells #[.pointer (some ⟨w1.heap.size+3,0,none⟩)] 63));obtain⟨n1,n2,n3,n4⟩:=zDL cK.o.lo_ o w5 n5;have HR:=aD (show oJ wB lo go ge n c A o es (w1.heap.size+3) (w1.heap.size+4) [] [] (fI w1.heap.size) w5 from⟨cK.o.below n4,n1,⟨rfl,rfl,rfl⟩,Ou,(λx hx=>by cases hx),n2,n3,(by have:=cK.o.lo_;omega)⟩);clear n1 n2 n3 n4;simp only[Nat.add_assoc,Nat.reduceAdd];have pK:=n5;simp only[Pw,hallA,fI,lW] at pK;rw[<-pK];clear n5 pK cK;refine BO.seq dA ?_;refine BO.seq dA ?_;generalize w1.heap.size+3=hb at HR⊢;generalize w1.heap.size+4=gh at HR⊢;generalize fI w1.heap.size=v at HR;refine BO.pV mQ dA tL (λw6 T2 pK Q' cY=>?_);have lO:=aD (show oJ wB lo go ge n c A o es hb gh [] [] v w6 by rw[pK];exact HR.o.tp T2 0);clear HR;have g0:w6.cell? ⟨go,0,none⟩=some (.int .i64 o.ln):=aJ lO.o.e.bo 0;clear pK;go_wp2;refine cY.o _ _ ?_;clear cY;clear g0;refine BO.block dA ?_;refine BO.loop dA ?_;have rR:=HO.o;unfold sE at rR;have rR:=of_decide_eq_true rR;refine zCM (wB:=wB) rR.2.1 K (λK' w' v' ln u0 u1 u4 u5 u6 u8 u9 gU gH gK gJ gE gF u16 gY kQ kM jR gZ iJ iI iD iK iH iA iC iG jK jL u32 iO iL iB hY iM iN iF iX iP jB jC iW iV iY jD iS iU mF mL lC lA kN kJ kO kV kH kE kC j8 u64 kD j6 j5 kF lB kL kU j7 hK hR hl=>?_) o.ln.toNat 0 aC K w6 v [] _ _ _ _ _ _ _ _ _ _ _ _ _ _ _ _ _ _ _ _ _ _ _ _ _ _ _ _ _ _ _ _ _ _ _ _ _ _ _ _ _ _ _ _ _ _ _ _ _ _ _ _ _ _ _ _ _ _ _ _ _ _ _ _ _ _ _ _ (wO _) lO.o rfl;exact hgo K' w' v' ln hb gh _ _ _ _ _ _ _ _ _ _ _ _ _ _ _ _ _ _ _ _ _ _ _ _ _ _ _ _ _ _ _ _ _ _ _ _ _ _ _ _ _ _ _ _ _ _ _ _ _ _ _ _ _ _ _ _ _ _ _ _ _ _ _ _ _ _ _ _ _ _ hK hR hl
end
def OldB (w w':aE):Prop:=w.heap.size<=w'.heap.size/\∀b,b<w.heap.size->w'.heap[b]? =w.heap[b]?
variable {wB:aE}{ge:Nat}{A:Option bL}{o:jN}{es:List dG}
def oM.oldB {go n c:Nat}(h:oM wB lo go ge n c A o es w1)(dV:w.heap.size<=lo)(k:∀b,b<w.heap.size->wB.heap[b]? =w.heap[b]?):OldB w w1:=
 ⟨eM dV h.lo_,λb hb=>(h.old b (lE hb dV)).trans (k b hb)⟩
section
variable {Post:aF->aE->Prop}{Shun:Loc->Prop}{W0:aE}{St:Nat->Prop}{R0:Pr}{base:List dJ}{K:Pr}{n c:Nat}{A:Option bL}{o:jN}{es:List dG}
theorem zyU {w:aE}(Gn:b7 w 0 w.heap.size 3 A n c (lM es))(hn:n<=1048576)(ztB:vF w)
 (Uc:∀(T:Array aF) todo w',T.getD 4 aA=.pointer none->OldB w w'->j9 o es=false->BO (Hs Post Shun W0 St R0 base K) () ⟨42,T,todo,true⟩ w')
 (hgo:∀wB lo go ge K' w' v ln hb gh u0 u1 u4 u5 u6 u8 u9 gU gH gK gJ gE gF u16 gY kQ kM jR gZ iJ iI iD iK iH iA iC iG jK jL u32 iO iL iB hY kI kR iM iN iF iX iP jB jC iW iV iY jD iS iU mF mL lC lA kN kJ kO kV kH kE kC j8 u64 kD j6 j5 kF lB kL kU j7,K.le K'->j9 o es=true->w.heap.size<=lo->w.heap.size<=go->w.heap.size<=ge->(∀b,b<w.heap.size->wB.heap[b]? =w.heap[b]?)->oJ wB lo go ge n c A o es hb gh ln [] v w'->(ln.length:Int)=o.ln->BO (Hs Post Shun W0 St R0 base K') () ⟨42,#[u0,u1,.pointer (some ⟨go,0,none⟩),.pointer (some ⟨ge,0,none⟩),u4,u5,u6,.pointer (some ⟨gh,0,none⟩),u8,u9,gU,gH,gK,gJ,gE,gF,u16,gY,kQ,kM,jR,gZ,iJ,iI,iD,iK,iH,iA,iC,iG,jK,jL,u32,iO,iL,iB,hY,kI,kR,iM,iN,iF,iX,iP,jB,jC,iW,iV,iY,jD,iS,iU,mF,mL,lC,lA,kN,kJ,kO,kV,kH,kE,kC,j8,u64,kD,j6,j5,kF,lB,kL,kU,j7],[.code (.seq Np Ft)],false⟩ w'):
 BO (Hs Post Shun W0 St R0 base K) () ⟨42,#[.agg #[.int .i64 o.ln,.int .i64 o.op,.int .i64 o.pt],.slice A n c,aA,aA,aA,aA,aA,aA,aA,aA,aA,aA,aA,aA,aA,aA,aA,aA,aA,aA,aA,aA,aA,aA,aA,aA,aA,aA,aA,aA,aA,aA,aA,aA,aA,aA,aA,aA,aA,aA,aA,aA,aA,aA,aA,aA,aA,aA,aA,aA,aA,aA,aA,aA,aA,aA,aA,aA,aA,aA,aA,aA,aA,aA,aA,aA,aA,aA,aA,aA,aA,aA,aA],[.code oO],false⟩ w:=by
 have Ck:es.length=n:=Gn.eventsLen;have HS:=aD Gn;have HT:=aD ztB;have HN:=aD Ck;have HB:=aD hn;clear Gn ztB Ck hn;rw[show oO=.seq rRH0 (.seq (.seq rRH1 (.cond (.tmp 17) (.seq rRH2 .ret) .skip)) (.seq (.seq rRH3 (.block 0 (.loop zba))) (.seq rRH9 (.seq (.seq zkm (.block 2 (.loop Xc))) (.seq Np Ft))))) from zEx];refine BO.seq dA ?_;refine BO.pV mQ dA tL (λw1 T1 fB Q' cY=>?_);have z8:=aD (show OldB w w1 by rw[fB];exact⟨aV _,λ_ _=>rfl⟩);have dZ:w1.heap.size=w.heap.size:=by rw[fB];rfl
 clear fB;go_wp2;refine cY.o _ _ ?_;clear cY;obtain⟨wB,Yh⟩:=aU ((w1.alloc (.cells #[.int .i64 o.ln,.int .i64 o.op,.int .i64 o.pt] 29)).alloc (.cells #[.slice A n c] 31));have z0:(w1.alloc (.cells #[.int .i64 o.ln,.int .i64 o.op,.int .i64 o.pt] 29)).heap.size=w.heap.size+1:=by rw[rF,dZ]
 have z1:wB.heap.size=w.heap.size+2:=by rw[Yh,rF,z0]
 have kB:∀b,b<w.heap.size->wB.heap[b]? =w.heap[b]? :=λb hb=>by
  rw[Yh,Fb aC,Fb aC];exact z8.o.2 b hb
 have HE:=aD (show oM wB (w.heap.size+2) w.heap.size (w.heap.size+1) n c A o es wB from⟨aC,Ad.of HT.o aC aC kB,(HS.o.keep aC λb _ q _=>kB b q).wide (aV _) aC,aC,aC,by
  rw[Yh,<-dZ];exact zsR (Ef _ _) _,by rw[Yh,<-z0];exact Ef _ _,λ_ _=>rfl⟩)
 simp only[dZ];rw[<-Yh];have HK:=aD kB;clear Yh z0 z1 dZ kB z8;have dV:w.heap.size<=w.heap.size+2:=aC;have zFf:w.heap.size<w.heap.size+2:=aC;generalize zgN:w.heap.size+2=lo at HE dV zFf⊢;generalize zcF:w.heap.size=go at HE⊢;generalize zy5:w.heap.size+1=ge at HE⊢;refine BO.seq dA ?_;refine BO.seq dA ?_;have zrF:ge=go+1:=aC;have zMx:go<=ge:=aC;rw[<-zrF] at HE⊢;clear zy5 zrF;by_cases hv:sE o=true
 .by_cases Xo:n<=60
  .have zJD:¬(60:Int)<(n:Int):=aC
   refine BO.pV mQ dA tL (λw1 T1 fB Q' cY=>?_);have cK:=aD (show oM wB lo go ge n c A o es w1 by rw[fB];exact HE.o.tp T1 0);have g0:w1.cell? ⟨go,0,none⟩=some (.int .i64 o.ln):=aJ cK.o.bo 0;have g1:w1.cell? ⟨go,1,none⟩=some (.int .i64 o.op):=aJ cK.o.bo 1;have g2:w1.cell? ⟨go,2,none⟩=some (.int .i64 o.pt):=aJ cK.o.bo 2;have g3:w1.cell? ⟨ge,0,none⟩=some (.slice A n c):=aJ cK.o.be 0;have HV:=aD hv;clear HE hv;clear fB
   go_wp2_with ((go_at_call 33;refine(zlk o _).mono ?_;rintro e w' ⟨rfl,mX⟩;have g4:w'.cell? ⟨ge,0,none⟩=some (.slice A n c):=aJ (cK.o.below mX).be 0;rw[HV.o]))
   refine cY.o _ _ ?_;clear cY;clear g0 g1 g2 g3 g4;have nF:=aD (cK.o.below mX);clear mX cK;refine BO.cond dA (t:=false) rfl (show Nq (decide ((60:Int)<(n:Int)))=.bool false by rw[decide_eq_false aC]) ?_;refine BO.skip dA ?_;refine BO.seq dA ?_;refine BO.seq dA ?_;refine BO.pV mQ dA tL (λw3 T3 iT Q' cY=>?_);have uR:=aD (show oM wB lo go ge n c A o es w3 by rw[iT];exact nF.o.tp T3 0);have g3:w3.cell? ⟨ge,0,none⟩=some (.slice A n c):=aJ uR.o.be 0;clear nF;clear iT;go_wp2;refine cY.o _ _ ?_;clear cY;clear g3;refine BO.block dA ?_;refine BO.loop dA ?_;have rR:=HV.o;unfold sE at rR;have rR:=of_decide_eq_true rR;refine zIG (wB:=wB) (lo:=lo) ⟨rR.2.2.1,rR.2.2.2.1⟩ Xo HN.o (λT todo w2 hT ziY zlu=>?_) (λw2 jR u0 u1 u5 u6 u7 u8 u9 gU gH gK gJ gE gF u16 gY gZ iJ iI iD iK iH iA iC iG jK jL u32 iO iL iB hY kI kR iM iN iF iX iP jB jC iW iV iY jD iS iU mF mL lC lA kN kJ kO kV kH kE kC j8 u64 kD j6 j5 kF lB kL kU j7 ziY zlu=>?_) n 0 aC w3 _ _ _ _ _ _ _ _ _ _ _ _ _ _ _ _ _ _ _ _ _ _ _ _ _ _ _ _ _ _ _ _ _ _ _ _ _ _ _ _ _ _ _ _ _ _ _ _ _ _ _ _ _ _ _ _ _ _ _ _ _ _ _ _ _ _ _ uR.o (λj hj=>by omega)
   .refine Uc T todo w2 hT (ziY.oldB (zcF▸dV) (λb hb=>HK.o b (zcF▸hb))) ?_
    unfold j9;rw[zlu,Bool.and_false]
   .refine rh_made HV.o (λK' w' v ln hb gh u0 u1 u4 u5 u6 u8 u9 gU gH gK gJ gE gF u16 gY kQ kM jR gZ iJ iI iD iK iH iA iC iG jK jL u32 iO iL iB hY kI kR iM iN iF iX iP jB jC iW iV iY jD iS iU mF mL lC lA kN kJ kO kV kH kE kC j8 u64 kD j6 j5 kF lB kL kU j7 hK hR hl=>hgo wB lo go ge K' w' v ln hb gh _ _ _ _ _ _ _ _ _ _ _ _ _ _ _ _ _ _ _ _ _ _ _ _ _ _ _ _ _ _ _ _ _ _ _ _ _ _ _ _ _ _ _ _ _ _ _ _ _ _ _ _ _ _ _ _ _ _ _ _ _ _ _ _ _ _ _ _ _ _ hK ?_ (zcF▸dV) aC aC (λb hb=>HK.o b (zcF▸hb)) hR hl) ziY
    unfold j9;rw[HV.o,zlu,HN.o];simp[Xo]
  .have zJD:(60:Int)<(n:Int):=aC
   have dB:j9 o es=false:=by
    unfold j9;rw[HN.o];simp[Xo]
   refine BO.pV mQ dA tL (λw1 T1 fB Q' cY=>?_);have cK:=aD (show oM wB lo go ge n c A o es w1 by rw[fB];exact HE.o.tp T1 0);have g0:w1.cell? ⟨go,0,none⟩=some (.int .i64 o.ln):=aJ cK.o.bo 0;have g1:w1.cell? ⟨go,1,none⟩=some (.int .i64 o.op):=aJ cK.o.bo 1;have g2:w1.cell? ⟨go,2,none⟩=some (.int .i64 o.pt):=aJ cK.o.bo 2;have g3:w1.cell? ⟨ge,0,none⟩=some (.slice A n c):=aJ cK.o.be 0;have HV:=aD hv;clear HE hv;clear fB
   go_wp2_with ((go_at_call 33;refine(zlk o _).mono ?_;rintro e w' ⟨rfl,mX⟩;have g4:w'.cell? ⟨ge,0,none⟩=some (.slice A n c):=aJ (cK.o.below mX).be 0;rw[HV.o]))
   refine cY.o _ _ ?_;clear cY;clear g0 g1 g2 g3 g4;have nF:=aD (cK.o.below mX);clear mX cK;refine BO.cond dA (t:=true) rfl rfl ?_;refine BO.seq dA ?_;refine BO.pV mQ dA tL (λw3 T3 iT Q' cY=>?_);have uR:=aD (show oM wB lo go ge n c A o es w3 by rw[iT];exact nF.o.tp T3 0);clear nF;clear iT;go_wp2;refine cY.o _ _ ?_;clear cY;refine BO.ret dA ?_;exact Uc _ _ _ rfl zsu dB
 .have dB:j9 o es=false:=by
   unfold j9;simp[hv]
  have hv:sE o=false:=by simpa using hv
  refine BO.pV mQ dA tL (λw1 T1 fB Q' cY=>?_);have cK:=aD (show oM wB lo go ge n c A o es w1 by rw[fB];exact HE.o.tp T1 0);have g0:w1.cell? ⟨go,0,none⟩=some (.int .i64 o.ln):=aJ cK.o.bo 0;have g1:w1.cell? ⟨go,1,none⟩=some (.int .i64 o.op):=aJ cK.o.bo 1;have g2:w1.cell? ⟨go,2,none⟩=some (.int .i64 o.pt):=aJ cK.o.bo 2;have g3:w1.cell? ⟨ge,0,none⟩=some (.slice A n c):=aJ cK.o.be 0;have HV:=aD hv;clear HE hv;clear fB
  go_wp2_with ((go_at_call 33;refine(zlk o _).mono ?_;rintro e w' ⟨rfl,mX⟩;have g4:w'.cell? ⟨ge,0,none⟩=some (.slice A n c):=aJ (cK.o.below mX).be 0;rw[HV.o]))
  refine cY.o _ _ ?_;clear cY;clear g0 g1 g2 g3 g4;have nF:=aD (cK.o.below mX);clear mX cK;refine BO.cond dA (t:=true) rfl rfl ?_;refine BO.seq dA ?_;refine BO.pV mQ dA tL (λw3 T3 iT Q' cY=>?_);have uR:=aD (show oM wB lo go ge n c A o es w3 by rw[iT];exact nF.o.tp T3 0);clear nF;clear iT;go_wp2;refine cY.o _ _ ?_;clear cY;refine BO.ret dA ?_;exact Uc _ _ _ rfl zsu dB
end
def xT:Nat->Bool:=λa=>Bc aK a
def xQ (gq:Nat):Nat->Bool:=λa=>a==gq||Bc aK a
def Lr (w00:aE)(K R:Pr)(St eP:Nat->Prop)(Fz:Nat->Prop)(Wf:aE)(Xa:Nat->Prop):Prop:=
 ∀(K' R':Pr) (wn Wn:aE),K.le K'->R.le R'->cV (SF gG) K' R' (o5 aK) eP wn Wn->(∀b,Fz b->Wn.heap[b]? =Wf.heap[b]?)->
  ∃We,cV (SF gG) K' R' (o5 aK) St We Wn/\We.heap.size=wn.heap.size/\(∀a,¬Xa a->We.heap[a]? =wn.heap[a]?)/\∀a,xT a=true->We.heap[a]? =w00.heap[a]?
variable {K R:Pr}{St:Nat->Prop}
theorem Lr.first {W:aE}(hw:cV (SF gG) K R (o5 aK) St w W)(hx:XOk R xT w):Lr w K R St (λa=>St a\/xT a=true) (Gd R St xT) W (λa=>xT a=true):=λK' R' wn Wn hK hR hn mR=>by
 have h1:=zvl (St':=λa=>St a\/xT a=true) hw hx hR hK hn (λa h=>.inl h) (λa b zcW qJ=>mR b ⟨a,qJ,.inr zcW⟩);refine⟨_,h1,zfK _ _ _,λa ha=>Wz (by simpa using ha),λa ha=>?_⟩;obtain⟨b,hb⟩:=hx.dom a ha;obtain⟨c,T,fz,hc⟩:=hx.cells a ha;rw[zfB ha (hn.lt a b (.inl (hR _ _ hb))).1 hc,hc]
variable {eP:Nat->Prop}{X:Nat->Bool}
theorem Lr.step {w00 W Wf:aE}{K2 R2:Pr}{Fz Xa:Nat->Prop}(h:Lr w00 K R St eP Fz Wf Xa)(hK:K.le K2)(hR:R.le R2)(hw:cV (SF gG) K2 R2 (o5 aK) eP w W)(hx:XOk R2 X w)(hF:∀b,Fz b->W.heap[b]? =Wf.heap[b]? /\∃a,R2 a b/\eP a):
 Lr w00 K2 R2 St (λa=>eP a\/X a=true) (Gd R2 eP X) W (λa=>Xa a\/X a=true):=λK' R' wn Wn rT zrO hn mR=>by
 have h1:=zvl (St':=λa=>eP a\/X a=true) hw hx zrO rT hn (λa h=>.inl h) (λa b zcW qJ=>mR b ⟨a,qJ,.inr zcW⟩)
 obtain⟨We,k1,k2,k3,k4⟩:=h K' R' _ Wn (wF hK rT) (hR.trans zrO) h1 (λb hb=>by
  obtain⟨e,a,x,y⟩:=hF b hb;exact(mR b ⟨a,x,.inl y⟩).trans e)
 refine⟨We,k1,k2.trans (zfK _ _ _),λa ha=>?_,k4⟩;rw[k3 a (λx=>ha (.inl x)),Wz (by cases e:X a with|false=>rfl|true=>exact absurd (.inr e) ha)]
theorem zE5 (h:X b=true->∃c T hi,w.heap[b]? =some (.cells c T (0,hi))/\c.size<=hi):(uU X w).heap[b]? =w.heap[b]? :=by
 cases e:X b with
 |false=>exact Nw e
 |true=>
  obtain⟨c,T,hi,h1,h2⟩:=h e;rw[Uy e h1,h1];simp only[Nat.max_eq_right h2]
theorem zFg {o:Nat}{v:aF}(hc:X b=true->∃c T fz,w.heap[b]? =some (.cells c T fz))(h:w.cell? ⟨b,o,none⟩=some v):(uU X w).cell? ⟨b,o,none⟩=some v:=by
 cases e:X b with
 |false=>exact(aE.cell?_of_block (a:=⟨b,o,none⟩) (Nw e)).trans h
 |true=>
  obtain⟨c,T,fz,hc⟩:=hc e;have e1:w.cell? ⟨b,o,none⟩=c[o]? :=by simp[lF,hc]
  have e2:(uU X w).cell? ⟨b,o,none⟩=c[o]? :=by simp[lF,Uy e hc]
  rw[e2,<-e1];exact h
def zAA:((aK.globalNamed "internal/strconv.uint64pow10").map λg=>Bc aK g)=some true:=aQ
theorem tabW_fr (h:vF w)(hx:∀a,xT a=true->X a=true)(hc:∀a,xT a=true->∃c T fz,w.heap[a]? =some (.cells c T fz))(hw:∀a,xT a=true->w'.heap[a]? =(uU X w).heap[a]?):vF w':=by
 obtain⟨g,hg,bV⟩:=xB.1 zAA;obtain⟨c,T,fz,L6⟩:=hc g bV;unfold vF zfw zgD at*;rw[hg] at h⊢;simp only[vN] at h⊢;rw[L6] at h;rw[hw g bV,Uy (hx g bV) L6];exact h
variable {v:fO}{ln qn:List Nat}
theorem oJ.frT {go n c hb gh lo0:Nat}(h:oJ wB lo go ge n c A o es hb gh ln qn v w)(hgo:lo0<=go)(Bx:lo0<=ge)(dV:lo0<=lo)(ht:∀a,xT a=true->a<lo0)(hc:∀a,xT a=true->∃c T fz,w.heap[a]? =some (.cells c T fz)):oJ (uU xT w) lo go ge n c A o es hb gh ln qn v (uU xT w):=by
 have out:∀b,lo0<=b->(uU xT w).heap[b]? =w.heap[b]? :=λb hb=>Nw (by
  cases e:xT b with
  |false=>rfl
  |true=>have:=ht b e;omega)
 have nT:xT gh=false:=by
  cases e:xT gh with
  |false=>rfl
  |true=>have:=ht gh e;have:=h.ghl;omega
 refine⟨⟨by rw[Q7];exact h.e.lo_,λw' hw=>tabW_fr h.e.tab.at_ (λa h=>h) hc λa ha=>hw a (lE (ht a ha) dV),?_,h.e.gol,h.e.gel,(out _ hgo).trans h.e.bo,(out _ Bx).trans h.e.be,λ_ _=>rfl⟩,h.at_.keep λb hb hp=>out b (by have:=(h.at_.lt b hp).1;omega),h.mp,h.nd,λx hx=>by rw[Q7];exact h.lt x hx,(Nw nT).trans h.bh,h.nh,h.ghl⟩;refine⟨h.e.ev.len,h.e.ev.le,h.e.ev.cap,λhn=>?_⟩;obtain⟨b,off,e,h1,h2,h3,h4⟩:=h.e.ev.at_ hn;exact⟨b,off,e,h1,h2,by rw[Q7];exact h3,λj v hv=>zFg (λx=>hc b x) (h4 j v hv)⟩
variable {gq a:Nat}
theorem zaj (h:xQ gq a=true):a=gq\/xT a=true:=by
 unfold xQ at h;simp only[Er,beq_iff_eq] at h;exact h
theorem xQ_q (gq:Nat):xQ gq gq=true:=by simp[xQ]
theorem xQ_t (h:xT a=true):xQ gq a=true:=by
 unfold xQ xT at*;rw[h,Bool.or_true]
theorem op_tmps (a b:aF):(#[]++ #[a,b])++nL ((zh3).ntmps-(#[]++ #[a,b]:Array aF).size) aA=(#[a,b,aA,aA]:Array aF):=by
 have e:(zh3).ntmps=4:=rfl;rw[e];have e:(#[]++ #[a,b]:Array aF).size=2:=aP;rw[e];apply Ja;simp only[Pe,zaa];rfl
def Gh (w:aE):Prop:=∀g,xT g=true->∃c T fz,w.heap[g]? =some (.cells c T fz)/\∀v∈c,wE v
variable {τ:cF}{Wr:aE}{gt t:Array aF}
theorem op_born {Wg N:Nat}{W:List fJ}{D:aE->Prop}{Fin:bC->aE->Prop}{gc m:Nat}(hw:cV (SF gG) K R (o5 aK) eP w Wr)(hx:XOk R (xQ gq) w)(zcx:K gc a)(dB:∀b,¬R b a)
 (hq:w.heap[gq]? =some (.cells #[.chan (some gc)] 95)) (Dq:Gh w) (ha:bK (SF gG) K R gt t) (zJa:gt[9]? =some (.pointer (some ⟨gq,0,none⟩))) (h8:t.getD 8 aA=.pointer (some ⟨Wg,0,none⟩)) (zCu:Wg<Wr.heap.size) (zze:∀a b,R a b->b≠Wg) (nA:WgLive rM.tWg Wg Wr):
 bY aK rM.tWg Wg (By N W D) Fin false (.usr (.op a 0 m)) 0 (Wk τ R (xQ gq)) (born aK {target:=.fn (.func 54) #[t.getD 8 aA,t.getD 9 aA],args:=#[]}) Wr:=by
 refine Nx rfl rfl (λaX s=>zt5 (c:=Xs) zpW aH rfl aX) λaX s=>?_;have Cb:∀b,¬R gc b:=λb x=>by
  obtain rfl:=hw.inj gc b a (.inl x) (.inr zcx);exact dB _ x
 have mG:∀a c T fz,xQ gq a=true->w.heap[a]? =some (.cells c T fz)->∀v∈c,xI (λa=>xQ gq a=true) (λa=>a=gc) v:=λa c T fz zcW hc v hv=>by
  rcases zaj zcW with rfl|ztk
  .rw[hq] at hc
   injection hc with hc;injection hc with e1 _ _;subst e1;obtain rfl:=by simpa using hv
   exact .chan λx e=>by cases e;rfl
  .obtain⟨c',T',Jf,h1,h2⟩:=Dq a ztk
   rw[hc] at h1;injection h1 with h1;injection h1 with e1 _ _;subst e1;exact(h2 v hv).inX
 have hrel:=reX_rel hw hx (λg hg=>xQ_t hg) (KD:=λa=>a=gc) mG (λa b x e=>absurd (e▸x) (Cb b));have zt3:vO (Wk τ R (xQ gq)) (rX R (xQ gq)) (λa=>xQ gq a=true):=zHg;have hv:(reX (xQ gq) w).cell? ⟨gq,0,none⟩=some (.chan (some gc)):=by
  simp[lF,zhk (xQ_q gq) hq]
 have hB:=zIO (Wg:=Wg) (N:=N) (W:=W) (D:=D) (Fin:=Fin) (St:=λa=>xQ gq a=true) (gc:=gc) (gv:=gq) (c:=a) (K:=kX K (λa=>a=gc)) ⟨zcx,rfl⟩ m hv;have Rv:=Cx.Rel.suf (C:=fX Wg N W D Fin (λa=>xQ gq a=true) (kX K (λa=>a=gc)) (λ_=>True) [vW aK] ⟨[],.deferred,aP⟩ [(0,.pointer (some ⟨Wg,0,none⟩))]) hrel zt3 s;have rT:∀a b,R.or K a b->a=gc->(rX R (xQ gq)).or (kX K (λa=>a=gc)) a b:=λa b x e=>by
  rcases x with x|x
  .exact absurd (e▸x) (Cb b)
  .exact .inr ⟨x,e⟩
 have p9:VR (SF gG) (kX K (λa=>a=gc)) (rX R (xQ gq)) (.pointer (some ⟨gq,0,none⟩)) (t.getD 9 aA):=by
  have h1:=ha.getD 9 (xO (S:=SF gG) (K:=K) (R:=R));rw[tJ,zJa] at h1;exact xI.vr h1 (λp q y z=>⟨y,z⟩) rT (.pointer λx e=>by cases e;exact xQ_q gq)
 rw[h8];generalize t.getD 9 aA=t9 at*;rw[op_tmps];have vu:=xO (S:=SF gG) (K:=kX K (λa=>a=gc)) (R:=rX R (xQ gq));have hj:∀x,Tt.HidV x->VR (SF gG) (kX K (λa=>a=gc)) (rX R (xQ gq)) .nilFunc x:=λx h=>.junk h;have:=hB (rX R (xQ gq)) aX ⟨54,#[.pointer (some ⟨Wg,0,none⟩),t9,aA,aA],[.code Xs],false⟩ (Wk τ R (xQ gq)) Rv ⟨rfl,rfl,rfl,?_,λx hx=>?_⟩ zt3 ⟨⟨⟨λa b x=>zze a b x.1,by have:=s.size;omega⟩,s.live nA⟩,trivial⟩
 .exact this
 .exact zqQ (.cons (hj _ Xw) (.cons p9 (.cons vu (.cons vu .nil))))
 .obtain rfl:=sK.1 hx
  rfl
theorem wk_tmps (a b c:aF):(#[]++ #[a,b,c])++nL ((zss).ntmps-(#[]++ #[a,b,c]:Array aF).size) aA=(#[a,b,c,aA,aA,aA]:Array aF):=by
 have e:(zss).ntmps=6:=rfl;rw[e];have e:(#[]++ #[a,b,c]:Array aF).size=3:=aP;rw[e];apply Ja;simp only[Pe,zaa];rfl
theorem wk_born {e:G0}(H:e.d.Ok)(Cs:e.ty=rM.tWg){hb gh n c:Nat}{Q:Pr->Prop}(hQ:Up Q)(hq:Q R)
 (hw:cV (SF gG) K R (o5 aK) e.St w Wr) (hT:vO τ R e.St) (hi:IQ e.W0 e.StI e.Shun e.Wg e.SS e.R0 e.Fz e.Wf e.qs [] R τ Wr) (nA:WgLive rM.tWg e.Wg Wr) (h:zah e o es ln qn lo hb v w K A n c) (hh:w.cell? ⟨gh,0,none⟩=some (.pointer (some ⟨hb,0,none⟩))) (he:w.cell? ⟨ge,0,none⟩=some (.slice A n c))
 (ha:bK (SF gG) K R gt t) (zE4:gt[7]? =some (.pointer (some ⟨gh,0,none⟩))) (L2:gt[3]? =some (.pointer (some ⟨ge,0,none⟩))) (h8:t.getD 8 aA=.pointer (some ⟨e.Wg,0,none⟩))
 (tZ:∀K' R τ W w' v',K.le K'->Q R->cV (SF gG) K' R (o5 aK) e.St w' W->IQ e.W0 e.StI e.Shun e.Wg e.SS e.R0 e.Fz e.Wf e.qs [] R τ W->bF w' lo hb v' (uP o es ln qn qn.length)->gC v' (uP o es ln qn qn.length)->bM hb v w v' w'->e.D W):
 bY aK rM.tWg e.Wg (By e.N e.W e.D) e.Fin false (.usr (.wk e.qs 0)) 0 τ (born aK {target:=.fn (.func 57) #[t.getD 8 aA,t.getD 7 aA,t.getD 3 aA],args:=#[]}) Wr:=by
 refine Nx rfl rfl (λaX s=>zt5 (c:=Xd) Tryz.func57 aH rfl aX) λaX s=>?_;have hB:=zHA H Cs h hh he hQ tZ
 let C:=e.d.cx K Q [] [vW aK] ⟨[],.deferred,aP⟩ [(0,.pointer (some ⟨e.Wg,0,none⟩))]
 have Rv:=Cx.Rel.suf (C:=C) hw hT (show bT C.ty C.Wg τ Wr aX by show bT e.ty _ _ _ _;rw[Cs];exact s);have zT:=(H.iok hQ (K:=K) (chs:=[]) (base:=[vW aK]) (ds:=⟨[],.deferred,aP⟩) (pin:=[(0,.pointer (some ⟨e.Wg,0,none⟩))])).suf R τ Wr aX ⟨⟨hi,by show WgLive e.ty _ _;rw[Cs];exact nA⟩,hq⟩ (show bT C.ty C.Wg τ Wr aX by show bT e.ty _ _ _ _;rw[Cs];exact s);have p7:VR (SF gG) K R (.pointer (some ⟨gh,0,none⟩)) (t.getD 7 aA):=by
  have h1:=ha.getD 7 (xO (S:=SF gG) (K:=K) (R:=R));rw[tJ,zE4] at h1;exact h1
 have p3:VR (SF gG) K R (.pointer (some ⟨ge,0,none⟩)) (t.getD 3 aA):=by
  have h1:=ha.getD 3 (xO (S:=SF gG) (K:=K) (R:=R));rw[tJ,L2] at h1;exact h1
 rw[h8];generalize t.getD 7 aA=t7 at*;generalize t.getD 3 aA=t3 at*;rw[wk_tmps];have vu:=xO (S:=SF gG) (K:=K) (R:=R);have hj:∀x,Tt.HidV x->VR (SF gG) K R .nilFunc x:=λx h=>.junk h;have:=hB R aX ⟨57,#[.pointer (some ⟨e.Wg,0,none⟩),t7,t3,aA,aA,aA],[.code Xd],false⟩ τ Rv ⟨rfl,rfl,rfl,?_,λx hx=>?_⟩ hT zT
 .rw[Cx.B_none (C:=C) rfl] at this
  have e2:C.ty=rM.tWg:=Cs;rw[e2] at this;exact this
 .exact zqQ (.cons (hj _ Xw) (.cons p7 (.cons p3 (.cons vu (.cons vu (.cons vu .nil))))))
 .obtain rfl:=sK.1 hx
  rfl
end Go.Proofs.YtfcjiloojkjaeaaGreatDoor
namespace Go.Mt
open Go.Conc Go.Tt
theorem zt9:∀(n:Nat) (u:aF),N1 u<n->∃u',wE u'/\(∀(S:aO->Prop) (K R:Pr) (v:aF),VR S K R u v->VR S K R u' v)/\(M2 u->u'=u):=by
 intro n
 induction n with
 |zero=>intro u h;omega
 |succ n ih=>
  intro u hu;have pl:∀{x:aF},(∀k m,x≠ .int k m)->(∀s,x≠ .string s)->(∀b,x≠ .bool b)->∀{y:aF},M2 x->y=x:=λh1 h2 h3 y hx=>by
   rcases hx with⟨k,m,e⟩|⟨s,e⟩|⟨b,e⟩
   .exact absurd e (h1 _ _)
   .exact absurd e (h2 _)
   .exact absurd e (h3 _)
  have rows:∀xs:Array aF,N1 xs<n->∃us:Array aF,us.size=xs.size/\(∀(i:Nat) (u:aF),us[i]? =some u->wE u)/\∀(S:aO->Prop) (K R:Pr) (i:Nat) (u x v:aF),us[i]? =some u->xs[i]? =some x->VR S K R x v->VR S K R u v:=λxs hx=>by
   have hex:∀x,∃u,x∈xs->wE u/\∀(S:aO->Prop) (K R:Pr) (v:aF),VR S K R x v->VR S K R u v:=λx=>by
    by_cases hm:x∈xs
    .obtain⟨u,h1,h2,_⟩:=ih x (zlV (Array.sizeOf_lt_of_mem hm) hx)
     exact⟨u,λ_=>⟨h1,h2⟩⟩
    .exact⟨x,λh=>absurd h hm⟩
   refine⟨xs.map λx=>(hex x).choose,aP,λi u h1=>?_,λS K R i u x v h1 h2 h3=>?_⟩
   .rw[xL] at h1
    cases h2:xs[i]? with
    |none=>rw[h2] at h1;cases h1
    |some v=>
     rw[h2] at h1;simp only[Ak,fY] at h1;subst h1;exact((hex v).choose_spec (Uq h2)).1
   .rw[xL,h2] at h1
    simp only[Ak,fY] at h1;subst h1;exact((hex x).choose_spec (Uq h2)).2 S K R v h3
  cases u with
  |bool b=>exact⟨_,.bool b,λS K R v h=>h,λ_=>rfl⟩
  |int k m=>exact⟨_,.int k m,λS K R v h=>h,λ_=>rfl⟩
  |string s=>exact⟨_,.string s,λS K R v h=>h,λ_=>rfl⟩
  |nilFunc=>exact⟨_,.nilFunc,λS K R v h=>h,λ_=>rfl⟩
  |nilIface=>exact⟨_,.nilIface,λS K R v h=>h,λ_=>rfl⟩
  |agg xs=>
   obtain⟨us,h1,h3,h2⟩:=rows xs (by simp at hu;omega);refine⟨.agg us,.agg h3,λS K R v h=>?_,pl (λ_ _ h=>by cases h) (λ_ h=>by cases h) (λ_ h=>by cases h)⟩
   cases h with
   | @agg _ bX e hh=>
    refine .agg (h1.trans e) λi a b ha hb=>?_;have hi:i<xs.size:=by rw[e];exact(dQ.1 hb).1
    exact h2 S K R i a xs[i] b ha (mD hi) (hh i _ _ (mD hi) hb)
  |tuple xs=>
   obtain⟨us,h1,h3,h2⟩:=rows xs (by simp at hu;omega);refine⟨.tuple us,.tuple h3,λS K R v h=>?_,pl (λ_ _ h=>by cases h) (λ_ h=>by cases h) (λ_ h=>by cases h)⟩
   cases h with
   | @tuple _ bX e hh=>
    refine .tuple (h1.trans e) λi a b ha hb=>?_;have hi:i<xs.size:=by rw[e];exact(dQ.1 hb).1
    exact h2 S K R i a xs[i] b ha (mD hi) (hh i _ _ (mD hi) hb)
  |_=>exact⟨.nilFunc,.nilFunc,λS K R v h=>.junk (by cases h<;>exact True.intro),pl (λ_ _ h=>by cases h) (λ_ h=>by cases h) (λ_ h=>by cases h)⟩
def cl (u:aF):Value:=(zt9 (N1 u+1) u (xD _)).choose
def cl_spec (u:aF):wE (cl u)/\(∀(S:aO->Prop) (K R:Pr) (v:aF),VR S K R u v->VR S K R (cl u) v)/\(M2 u->cl u=u):=(zt9 (N1 u+1) u (xD _)).choose_spec
end Go.Mt
namespace Go.Proofs.YtfcjiloojkjaeaaGreatDoor
open Go.RowKit Go.Mt Go.Conc Go.Tt Go.Maps Go.Conc.Lib Go.ConcR.Gen
open Go.ConcR (KK wgBlock WgAt stA smA rd wr)
abbrev Au (Shun:Loc->Prop)(Wg:Nat):Loc->Prop:=λl=>Shun l\/nD l Wg
abbrev finS (Post:aF->aE->Prop)(Shun:Loc->Prop)(Wg:Nat):bC->aE->Prop:=λg w'=>J aK Post (Au Shun Wg) w'.heap.size g w'
structure qV where
 Post:aF->aE->Prop
 Shun:Loc->Prop
 W0:aE
 St:Nat->Prop
 base:List dJ
 K1:Pr
 R1:Pr
 w00:aE
 lo0:Nat
 lo:Nat
 go:Nat
 ge:Nat
 n:Nat
 c:Nat
 A:Option bL
 o:jN
 es:List dG
 hb:Nat
 gh:Nat
 ln:List Nat
 Wg:Nat
def qV.End (p:qV)(qn:List Nat)(v':fO)(w':aE):Prop:=
 bF w' p.lo p.hb v' (uP p.o p.es p.ln qn qn.length)/\(∀b,b<p.lo0->w'.heap[b]? =p.w00.heap[b]?)/\p.lo<=w'.heap.size/\w'.heap[p.gh]? =some (.cells #[.pointer (some ⟨p.hb,0,none⟩)] 63)/\(qn.length:Int)=p.o.op
def qV.D (p:qV)(W:aE):Prop:=∃(K' R':Pr) (w':aE) (v':fO) (qn:List Nat),p.K1.le K'/\p.R1.le R'/\cV (SF gG) K' R' (o5 aK) p.St w' W/\Kp p.W0 R' p.St W/\Sh p.W0.heap.size (Au p.Shun p.Wg) R' W/\p.End qn v' w'
def qV.N (p:qV):Nat:=p.o.op.toNat
def qV.cx (p:qV)(K:Pr)(eP:Nat->Prop)(SS:Nat->Prop)(R0:Pr)(Fz:Nat->Prop)(Wf:aE)(qs chs:List Nat):Cx gS:=
 {p:=aK,gs:=Bn,fs:=gG,ty:=rM.tWg,Wg:=p.Wg,A:=By p.N (B6 p.o p.es) p.D,Fin:=finS p.Post p.Shun p.Wg,main:=true,base:=p.base,ds:=.nil,K:=K,St:=eP,I:=yI rM.tWg p.Wg (IQ p.W0 p.St (Au p.Shun p.Wg) p.Wg SS R0 Fz Wf qs chs),pin:=[(8,.pointer (some ⟨p.Wg,0,none⟩))]}
theorem zDq {N:Nat}{W:List fJ}{D:aE->Prop}{Wn:aE}(h:zat (By N W D) Wn):D Wn:=by
 obtain⟨q,ch,hi,h0,hr,hd⟩:=h
 cases hi with
 |a n qs ix l _ _ _ h _ _ _=>rw[h0] at h;cases h
 |b qs ix iw k _ _ hw _ _ h _ _ _=>
  rcases h with h|⟨_,h⟩
  .exact absurd h (hr iw _)
  .exact hd iw _ h
 |c qs ix iw k i kd cl ans a _ _ _ _ _ h _ _ _ _ _=>exact absurd h (hr iw _)
variable {S:aO->Prop}{K R:Pr}{t:Array aF}
theorem bK.forget {K' R':Pr}{g:Array aF}(h:bK S K R g t):bK S K' R' (g.map cl) t:=by
 refine⟨by rw[Array.size_map];exact h.1,λi v v' h1 h2=>?_⟩;rw[xL] at h1
 cases h3:g[i]? with
 |none=>rw[h3] at h1;cases h1
 |some u=>
  rw[h3] at h1;simp only[Ak,fY] at h1;subst h1;obtain⟨c1,c2,_⟩:=cl_spec u;exact xI.vr (X:=λ_=>False) (KD:=λ_=>False) (c2 S K R v' (h.2 i u v' h3 h2)) (λp q y z=>z.elim) (λa b x e=>e.elim) c1.inX
variable {i:Nat}
theorem zJK (h:i<t.size):t.setIfInBounds i (t.getD i aA)=t:=by
 apply Array.ext_getElem?;intro j;rw[Array.getElem?_setIfInBounds];split
 .next e=>subst e;simp[h,tJ]
 .rfl
def qV.After (p:qV):Prop:=∀(K' R':Pr) (w':aE) (v':fO) (qn:List Nat) (u0 u1 u2 u3 u4 u5 u6 u8 u9 gU gH gK gJ gE gF u16 gY kQ kM jR gZ iJ iI iD iK iH iA iC iG jK jL u32 iO iL iB hY kI kR iM iN iF iX iP jB jC iW iV iY jD iS iU mF mL lC lA kN kJ kO kV kH kE kC j8 u64 kD j6 j5 kF lB kL kU j7:aF),p.K1.le K'->p.R1.le R'->p.End qn v' w'->BO (Fg aK Bn gG p.Post (Au p.Shun p.Wg) p.W0 p.St K' R' p.base) () ⟨42,#[u0,u1,u2,u3,u4,u5,u6,.pointer (some ⟨p.gh,0,none⟩),u8,u9,gU,gH,gK,gJ,gE,gF,u16,gY,kQ,kM,jR,gZ,iJ,iI,iD,iK,iH,iA,iC,iG,jK,jL,u32,iO,iL,iB,hY,kI,kR,iM,iN,iF,iX,iP,jB,jC,iW,iV,iY,jD,iS,iU,mF,mL,lC,lA,kN,kJ,kO,kV,kH,kE,kC,j8,u64,kD,j6,j5,kF,lB,kL,kU,j7],[.inRegion zdj [],.code (.seq To .ret)],false⟩ w'
variable {p:qV}{eP SS Fz:Nat->Prop}{R0:Pr}{Wf w:aE}{qs qn:List Nat}{v:fO}{gU gH gK gJ gE gF u16 gY kQ kM jR gZ iJ iI iD iK iH iA iC iG jK jL u32 iO iL iB hY kI kR iM iN iF iX iP jB jC iW iV iY jD iS iU kN kJ kO kV kH kE kC j8 u64 kD j6 j5 kF lB kL kU j7:aF}
theorem rh_last (zmJ:p.After)(Fh:∃b,p.R1 p.gh b)(hN:¬qs.length<p.N)(aY:∀a,p.St a->eP a)(vJ:∀b,b<p.W0.heap.size->SS b)(hF:∀b,Fz b->SS b)(nX:p.W0.heap.size<=p.Wg)(zzA:p.R1.le R0)
 (cM:∀e:G0,e.W=B6 p.o p.es->e.qs=qs->zah e p.o p.es p.ln qn p.lo p.hb v w K p.A p.n p.c) (hh:w.cell? ⟨p.gh,0,none⟩=some (.pointer (some ⟨p.hb,0,none⟩))) (he:w.cell? ⟨p.ge,0,none⟩=some (.slice p.A p.n p.c))
 (tZ:∀K' R τ W w' v',K.le K'->R0.le R->cV (SF gG) K' R (o5 aK) eP w' W->IQ p.W0 p.St (Au p.Shun p.Wg) p.Wg SS R0 Fz Wf qs [] R τ W->bF w' p.lo p.hb v' (uP p.o p.es p.ln qn qn.length)->gC v' (uP p.o p.es p.ln qn qn.length)->bM p.hb v w v' w'->p.D W) {u0 u1 u2 u4 u5 u6 u9 mF mL lC lA:aF}:
 BO (p.cx K eP SS R0 Fz Wf qs []) (.mN qs) ⟨42,#[u0,u1,u2,.pointer (some ⟨p.ge,0,none⟩),u4,u5,u6,.pointer (some ⟨p.gh,0,none⟩),.nilFunc,u9,gU,gH,gK,gJ,gE,gF,u16,gY,kQ,kM,jR,gZ,iJ,iI,iD,iK,iH,iA,iC,iG,jK,jL,u32,iO,iL,iB,hY,kI,kR,iM,iN,iF,iX,iP,jB,jC,iW,iV,iY,jD,iS,iU,mF,mL,lC,lA,kN,kJ,kO,kV,kH,kE,kC,j8,u64,kD,j6,j5,kF,lB,kL,kU,j7],[.code (.seq Vb (.seq X2 (.seq Zu (.seq To .ret))))],false⟩ w:=by
 let C:=p.cx K eP SS R0 Fz Wf qs []
 have hI:fF C:=zlC (C:=C) rfl aY vJ hF nX;have hX:=zfN (ty:=rM.tWg) (St:=p.St) (Shun:=Au p.Shun p.Wg) (R0:=R0) (Fz:=Fz) (Wf:=Wf) (qs:=qs) (chs:=[]) vJ hF nX;show BO C _ _ _;refine BO.seq hI ?_;rw[zJh];refine BO.regs hI _ zDX ?_;refine BO.add (C:=C) (Lk:=rM) (s:=8) (nx:=.mW qs) zcr rfl rfl rfl hI rfl hX zys rfl rfl (sK.2 rfl) (by intro s hs;cases hs;show(69:Nat)∉([8]:List Nat);decide) (by show eN p.N (B6 p.o p.es) (.mN qs)=_;simp[eN,hN]) ?_;simp only[cC,gI,dW,dS];refine BO.regEnd hI ?_;refine BO.seq hI ?_;rw[zIg];refine BO.regs hI _ zDn ?_;refine BO.go (C:=C) rfl hI zBt zHC rfl rfl rfl rfl rfl rfl (lc:=.wk qs 0) (nx:=.mZ) (pub:=[]) rfl aP λR W t τ hw ha Dm ht hi=>?_;have hw:cV (SF gG) K R (o5 aK) eP w W:=hw;have hi:yI rM.tWg p.Wg (IQ p.W0 p.St (Au p.Shun p.Wg) p.Wg SS R0 Fz Wf qs []) R τ W:=hi;obtain⟨hi,nA⟩:=hi;have h8:t.getD 8 aA=.pointer (some ⟨p.Wg,0,none⟩):=Dm (8,.pointer (some ⟨p.Wg,0,none⟩)) (sK.2 rfl);have V6:R0.le R:=hi.x.x.le;have ha:bK (SF gG) K R #[u0,u1,u2,.pointer (some ⟨p.ge,0,none⟩),u4,u5,u6,.pointer (some ⟨p.gh,0,none⟩),.nilFunc,u9,gU,gH,gK,gJ,gE,gF,u16,gY,kQ,kM,jR,gZ,iJ,iI,iD,iK,iH,iA,iC,iG,jK,jL,u32,iO,iL,iB,hY,kI,kR,iM,iN,iF,iX,iP,jB,jC,iW,iV,iY,jD,iS,iU,mF,mL,lC,lA,kN,kJ,kO,kV,kH,kE,kC,j8,u64,kD,j6,j5,kF,.tuple #[],kL,kU,j7] t:=ha;have cG:t.size=73:=ha.1.symm;obtain⟨zFr,rG⟩:=Fh;have h7:t.getD 7 aA=.pointer (some ⟨zFr,0,none⟩):=by
  have h1:VR (SF gG) K R (.pointer (some ⟨p.gh,0,none⟩)) (t.getD 7 aA):=ha.getD 7 (xO (S:=SF gG) (K:=K) (R:=R));generalize t.getD 7 aA=t7 at h1
  cases h1 with
  |pointer y=>cases y with|some y=>cases y with|mk y=>rw[hw.inj _ _ _ (.inl y) (.inl (V6 _ _ (zzA _ _ rG)))]
 refine⟨tauWm τ,τ,parts_w hi,?_,?_⟩
 .rw[zGx]
  refine zDA (Lk:=rM) (s:=8) (ops:=zdj) (o:=oRH24_0) zcr rfl (λn g w h=>zBT n g w h) rfl rfl rfl ?_ nA λWn d hD=>?_
  .show(t.setIfInBounds 70 _).getD 8 aA=.pointer (some ⟨p.Wg,0,none⟩)
   rw[<-h8];simp only[tJ,jP (show(70:Nat)≠8 by decide)]
  .obtain⟨K',R',w',v',zdC,k1,k2,k3,k4,k5,k6⟩:=zDq hD
   have zH3:=zmJ K' R' w' v' zdC (cl (u0)) (cl (u1)) (cl (u2)) (cl (.pointer (some ⟨p.ge,0,none⟩))) (cl (u4)) (cl (u5)) (cl (u6)) (cl (.nilFunc)) (cl (u9)) (cl (gU)) (cl (gH)) (cl (gK)) (cl (gJ)) (cl (gE)) (cl (gF)) (cl (u16)) (cl (gY)) (cl (kQ)) (cl (kM)) (cl (jR)) (cl (gZ)) (cl (iJ)) (cl (iI)) (cl (iD)) (cl (iK)) (cl (iH)) (cl (iA)) (cl (iC)) (cl (iG)) (cl (jK)) (cl (jL)) (cl (u32)) (cl (iO)) (cl (iL)) (cl (iB)) (cl (hY)) (cl (kI)) (cl (kR)) (cl (iM)) (cl (iN)) (cl (iF)) (cl (iX)) (cl (iP)) (cl (jB)) (cl (jC)) (cl (iW)) (cl (iV)) (cl (iY)) (cl (jD)) (cl (iS)) (cl (iU)) (cl (mF)) (cl (mL)) (cl (lC)) (cl (lA)) (cl (kN)) (cl (kJ)) (cl (kO)) (cl (kV)) (cl (kH)) (cl (kE)) (cl (kC)) (cl (j8)) (cl (u64)) (cl (kD)) (cl (j6)) (cl (j5)) (cl (kF)) (cl (.tuple #[])) .nilFunc (.tuple #[]) (cl (j7)) k1 k2 k6;have h1:=(bK.forget (K':=K') (R':=R') ha).set 7 (v:=.pointer (some ⟨p.gh,0,none⟩)) (v':=t.getD 7 aA) (by rw[h7];exact .pointer (.some (.mk (k2 _ _ rG))));rw[zJK aC] at h1;simp only[uW,fL,tM,gI,dW,dS] at h1;have h1:=(h1.set 70 (.junk (v':=(.func (.func 57) #[] ((#[.tmp 8,.tmp 7,.tmp 3]:Array cN).map (bJ t C.ds.ds).eval))) Xw)).set 71 (v:=.tuple #[]) (v':=.tuple #[]) (.tuple rfl λi v v' h=>by simp at h);simp only[gI,dW,dS] at h1;have n8:=BO.aloneIn (W:=Wn.at d) (m':=⟨42,(cC ⟨t.setIfInBounds 70 (.func (.func 57) #[] ((#[.tmp 8,.tmp 7,.tmp 3]:Array cN).map (bJ t C.ds.ds).eval)),[]⟩ (some 71) (.tuple #[])).tmps,[.inRegion zdj [],.code (.seq To .ret)],false⟩) zH3 (cV.at k3 d) ⟨rfl,rfl,rfl,h1,λx lK=>by cases lK⟩ ⟨k5.old,k5.rel,k5.new⟩ ⟨k4.os,k4.tape,k4.output,k4.size,k4.block,k4.old⟩;have e:=mH .nil 42 (cC ⟨t.setIfInBounds 70 (.func (.func 57) #[] ((#[.tmp 8,.tmp 7,.tmp 3]:Array cN).map (bJ t C.ds.ds).eval)),[]⟩ (some 71) (.tuple #[])).tmps [.inRegion zdj [],.code (.seq To .ret)];rw[Hk] at e;rw[e] at n8;exact n8
 .let e:G0:=⟨rM.tWg,p.Wg,p.N,B6 p.o p.es,p.D,finS p.Post p.Shun p.Wg,eP,p.W0,p.St,Au p.Shun p.Wg,SS,R0,Fz,Wf,qs⟩
  have H:e.d.Ok:=⟨aY,vJ,hF,nX,mQ⟩;simp only[uW,fL,tM,wA];exact wk_born (e:=e) H rfl (Q:=λR'=>R0.le R') (λR R' h h'=>h'.trans h) V6 hw ht hi nA (cM e rfl rfl) hh he ha rfl rfl h8 (λK' R τ W w' v'=>tZ K' R τ W w' v')
variable {wB w':aE}{c gq:Nat}{A:Option bL}{o:jN}{es:List dG}{ln:List Nat}
theorem oJ.but {lo go ge n hb gh:Nat}(h:oJ wB lo go ge n c A o es hb gh ln qn v w)(hs:w'.heap.size=w.heap.size)(Bd:lo<=gq)(Aq:gq≠gh)(zaU:some gq∉parts v hb)(k:∀b,b≠gq->w'.heap[b]? =w.heap[b]?):oJ wB lo go ge n c A o es hb gh ln qn v w':=
 ⟨h.e.keep aC λb hb=>k b aC,h.at_.keep λb _ hp=>k b λe=>zaU (e▸hp),h.mp,h.nd,λx hx=>by rw[hs];exact h.lt x hx,(k _ (Ne.symm Aq)).trans h.bh,h.nh,h.ghl⟩
variable {Tf:Array aF}
theorem al17 :(aS (bJ Tf []).eval zn9).run aK w=.ok (.value (.pointer (some ⟨w.heap.size,0,none⟩))) (w.alloc (.cells #[.chan none] 95)):=by
 unfold aS;go_simp
theorem st17 {V:Nat->aF}{gc:Nat}(hT:wR Tf V)(e1:V 9=.pointer (some ⟨gq,0,none⟩))(e2:V 55=.chan (some gc))(hh:w.cell? ⟨gq,0,none⟩=some (.chan none))(hf:w.frozen? ⟨gq,0,none⟩=false){T:jZ}:(aS (bJ Tf []).eval zr1).run aK (Tt.tp w T 0)=.ok .skip (Tt.tp (w.setCell ⟨gq,0,none⟩ (.chan (some gc))) T 0):=by
 have zgy:(Tt.tp w T 0).cell? ⟨gq,0,none⟩=some (.chan none):=hh;have Ag:(Tt.tp w T 0).frozen? ⟨gq,0,none⟩=false:=hf;clear hh hf;unfold aS;go_simp
 try rfl
def zaP:Go.Code:=.seq zhX (.seq (.cond (.tmp 54) .skip (.exit 4)) (.seq (.block 5 (.seq zcf (.seq Oy (.seq Sy Ro)))) zlH))
def zjQ:Go.Code:=.seq Vb (.seq X2 (.seq Zu (.seq To .ret)))
def qV.ok {chs:List Nat}(aY:∀a,p.St a->eP a)(vJ:∀b,b<p.W0.heap.size->SS b)(hF:∀b,Fz b->SS b)(nX:p.W0.heap.size<=p.Wg):fF (p.cx K eP SS R0 Fz Wf qs chs):=zlC (C:=p.cx K eP SS R0 Fz Wf qs chs) rfl aY vJ hF nX
structure Bm (p:qV)(wB:aE)(K:Pr)(eP SS:Nat->Prop)(R0:Pr)(Fz:Nat->Prop)(Wf:aE)(Xa:Nat->Prop)(qs qn:List Nat)(v:fO)(w:aE):Prop where
 K1:p.K1.le K
 R1:p.R1.le R0
 st:∀a,p.St a->eP a
 ss:∀b,b<p.W0.heap.size->SS b
 F:∀b,Fz b->SS b
 th:Lr p.w00 K R0 p.St eP Fz Wf Xa
 fz:∀b,Fz b->∃a,R0 a b/\eP a
 xt:∀a,xT a=true->eP a
 xa:∀a,Xa a->xT a=true\/(p.lo<=a/\a<w.heap.size/\a≠p.gh/\some a∉parts v p.hb)
 lq:qs.length=qn.length
 kq:∀(i g:Nat),qn[i]? =some g->K g (qa qs i)
 h:oJ wB p.lo p.go p.ge p.n p.c p.A p.o p.es p.hb p.gh p.ln qn v w
structure zbT (p:qV)(wB:aE):Prop where
 after:p.After
 gh:∃b,p.R1 p.gh b
 ok:j9 p.o p.es=true
 low:p.W0.heap.size<=p.Wg
 lo0:p.lo0<=p.lo
 tb:Gh wB
 tl:∀a,xT a=true->a<p.lo0
 wB:∀b,b<p.lo0->xT b=false->wB.heap[b]? =p.w00.heap[b]?
 ln:(p.ln.length:Int)=p.o.ln
variable {W:aE}{Xa:Nat->Prop}
theorem op_dep (H:zbT p wB)(I:Bm p wB K eP SS R0 Fz Wf Xa qs qn v w)(Rh:(qn.length:Int)=p.o.op){K':Pr}{τ:cF}{v':fO}(hK:K.le K')(hR:R0.le R)(hw:cV (SF gG) K' R (o5 aK) eP w' W)(hi:IQ p.W0 p.St (Au p.Shun p.Wg) p.Wg SS R0 Fz Wf qs [] R τ W)
 (hA:bF w' p.lo p.hb v' (uP p.o p.es p.ln qn qn.length)) (hT:bM p.hb v w v' w'):p.D W:=by
 obtain⟨wn,t1,t2,t3,t4⟩:=I.th K' R w' W hK hR hw (λb hb=>(hi.x.x.fz b hb).2.1);have dV:=I.h.e.lo_;have zDV:∀b,b<p.lo->xT b=false->¬Xa b:=λb hb hx h=>by
  rcases I.xa b h with h|⟨h,_⟩
  .rw[h] at hx;cases hx
  .omega
 have zye:∀b,p.lo<=b->xT b=false:=λb hb=>by
  cases e:xT b with
  |false=>rfl
  |true=>have:=H.tl b e;have:=H.lo0;omega
 refine⟨K',R,wn,v',qn,wF I.K1 hK,I.R1.trans hR,t1,hi.x.x.im.kp,hi.x.x.im.sh,hA.keep λb _ hp=>t3 b λhx=>?_,λb hb=>?_,by have:=hT.size;omega,?_,Rh⟩
 .have zG4:=(hA.lt b hp).1
  rcases I.xa b hx with h|⟨_,h2,_,h4⟩
  .rw[zye b zG4] at h;cases h
  .rcases hT.moved b hp with hm|hm
   .exact h4 hm
   .omega
 .cases e:xT b with
  |true=>exact t4 b e
  |false=>
   have bZ:=lE hb H.lo0;rw[t3 b (zDV b bZ e),hT.block b aC (λhp=>by have:=(I.h.at_.lt b hp).1;omega),I.h.e.old b bZ,H.wB b hb e]
 .rw[t3 p.gh λhx=>?_]
  .exact(I.h.at_.turned hT I.h.bh I.h.nh).1
  .rcases I.xa _ hx with h|⟨_,_,h3,_⟩
   .rw[zye _ I.h.ghl] at h;cases h
   .exact h3 rfl
theorem op_pre (H:zbT p wB)(I:Bm p wB K eP SS R0 Fz Wf Xa qs qn v w)(Rh:(qn.length:Int)=p.o.op)(e:G0)(he:e.W=B6 p.o p.es)(hq:e.qs=qs):zah e p.o p.es p.ln qn p.lo p.hb v w K p.A p.n p.c:=
 ⟨H.ok,he,I.h.at_,I.h.mr,I.h.nd,H.ln,Rh,by rw[hq];exact I.lq,I.h.e.lo_,I.h.e.tab,I.h.e.ev,by rw[hq];exact I.kq⟩
def und_chq:aK.underlying 95=some (.chan .both 124):=aQ
def zBw:∃ie,aK.info? 124=some ie:=Option.isSome_iff_exists.1 aQ
theorem zDk (h:i<qs.length):qa (qs++[c]) i=qa qs i:=by simp[qa,Jx,zI h]
theorem qa_snoc :qa (qs++[c]) qs.length=c:=by simp[qa,Jx]
theorem rh_go (H:zbT p wB){gc cr j:Nat}(I:Bm p wB K eP SS R0 Fz Wf Xa qs qn v w)(hN:qs.length<p.N)(zKD:j=qn.length)(zcx:K gc cr)
 (Bd:w.heap[gq]? =some (.cells #[.chan (some gc)] 95)) (zb2:p.lo<=gq) (Fh:gq≠p.gh) (zb8:some gq∉parts v p.hb) {kk:List eF}
 (zcw:∀(zbc zbi:Nat->Prop) (zc2:Pr) (zaH:Nat->Prop) (zcH:aE) (zh0:Nat->Prop) (v':fO) (w':aE) u0 u1 u4 u5 u6 gU gH gK gJ gE gF u16 gY kQ kM jR gZ iJ iI iD iK iH iA iC iG jK jL u32 iO iL iB hY kI kR iM iN iF iX iP jB jC iW iV iY jD iS iU kN kJ kO kV kH kE kC j8 u64 kD j5 kF lB kL kU j7 u9 lC lA j6,Bm p wB K zbc zbi zc2 zaH zcH zh0 (qs++[cr]) (qn++[gc]) v' w'->BO (p.cx K zbc zbi zc2 zaH zcH (qs++[cr]) []) (.mN (qs++[cr])) ⟨42,#[u0,u1,.pointer (some ⟨p.go,0,none⟩),.pointer (some ⟨p.ge,0,none⟩),u4,u5,u6,.pointer (some ⟨p.gh,0,none⟩),.nilFunc,u9,gU,gH,gK,gJ,gE,gF,u16,gY,kQ,kM,jR,gZ,iJ,iI,iD,iK,iH,iA,iC,iG,jK,jL,u32,iO,iL,iB,hY,kI,kR,iM,iN,iF,iX,iP,jB,jC,iW,iV,iY,jD,iS,iU,.int .i64 p.o.op,.int .i64 j,lC,lA,kN,kJ,kO,kV,kH,kE,kC,j8,u64,kD,j6,j5,kF,lB,kL,kU,j7],kk,false⟩ w')
 {u0 u1 u4 u5 u6:aF}:
 BO (p.cx K eP SS R0 Fz Wf qs [cr]) (.mA qs cr) ⟨42,#[u0,u1,.pointer (some ⟨p.go,0,none⟩),.pointer (some ⟨p.ge,0,none⟩),u4,u5,u6,.pointer (some ⟨p.gh,0,none⟩),.nilFunc,.pointer (some ⟨gq,0,none⟩),gU,gH,gK,gJ,gE,gF,u16,gY,kQ,kM,jR,gZ,iJ,iI,iD,iK,iH,iA,iC,iG,jK,jL,u32,iO,iL,iB,hY,kI,kR,iM,iN,iF,iX,iP,jB,jC,iW,iV,iY,jD,iS,iU,.int .i64 p.o.op,.int .i64 j,.bool true,.chan (some gc),kN,kJ,kO,kV,kH,kE,kC,j8,u64,kD,j6,j5,kF,lB,kL,kU,j7],[.code (.seq Oy (.seq Sy Ro))]++kk,false⟩ w:=by
 let C:=p.cx K eP SS R0 Fz Wf qs [cr]
 have hI:fF C:=qV.ok I.st I.ss I.F H.low;have hX:=zfN (ty:=rM.tWg) (St:=p.St) (Shun:=Au p.Shun p.Wg) (R0:=R0) (Fz:=Fz) (Wf:=Wf) (qs:=qs) (chs:=[cr]) I.ss I.F H.low;show BO C _ ⟨_,_,.code (.seq Oy (.seq Sy Ro))::kk,false⟩ _;have rR:sE p.o=true:=by
  have:=H.ok;unfold j9 at this;simp only[fT] at this;exact this.1.1
 unfold sE at rR;have rR:=of_decide_eq_true rR;have zMH:p.N<=4:=by unfold qV.N;omega
 refine BO.seq hI ?_;refine cw_RQ (C:=C) (l:=.mA qs cr) (c:=⟨p.lo,p.hb,p.gh,gq,gc,v,w,v,⟨lW p.o,p.ln,qn,[]⟩⟩) hI rfl rfl rfl mQ (λi o s h1 h2 h3=>?_) (by show qn.length<=1000;have:=I.lq;omega) I.h.nh zb8 rfl rfl rfl (λvs C' l' w' uB hS=>?_) ⟨rfl,rfl,λ_=>⟨aJ I.h.at_.blk 6,I.h.bh,Bd⟩,⟨I.h.at_,bM.refl,I.h.e.lo_⟩⟩
 .obtain rfl:s=8:=sK.1 h3
  have hm:some 8∈oI.toList.map (·.dst):=List.mem_map.2 ⟨o,dX (by rw[Ai];exact h1),h2⟩;rw[zxV] at hm;simp at hm
 rw[Go.Mt.Ac,zxV];simp only[Go.Mt.wN,dW,dS];obtain⟨rfl,rfl,_,h4⟩:=hS;have s4:WH.RQ2 ⟨p.lo,p.hb,p.gh,gq,gc,v,w,v,⟨lW p.o,p.ln,qn,[]⟩⟩ gc w':=by
  rcases vs with _|⟨b,_|⟨x,_|⟨y,vs⟩⟩⟩
  .cases uB
  .cases uB
  .cases uB
  .exact h4
 obtain⟨v2,a2,t2,mp⟩:=s4;have Lh:oJ wB p.lo p.go p.ge p.n p.c p.A p.o p.es p.hb p.gh p.ln (qn++[gc]) v2 w':=I.h.turn t2 a2 mp I.h.nd λx hx=>lE (I.h.lt x hx) t2.size;obtain⟨zmx,zo3⟩:=I.h.at_.turned t2 Bd zb8;have HR:=aD Lh;have T2:=aD t2;clear Lh a2 mp h4 uB;refine BO.regEnd hI ?_;refine BO.seq hI ?_;rw[zCb];refine BO.regs hI _ zDM ?_;refine BO.add (C:=C) (Lk:=rM) (s:=8) (nx:=.mS qs cr) zcr rfl rfl rfl hI rfl hX zzt rfl rfl (sK.2 rfl) (by intro s hs;cases hs;show(66:Nat)∉([8]:List Nat);decide) rfl ?_;simp only[cC,gI,dW,dS];refine BO.regEnd hI ?_;rw[zGl];refine BO.regs hI _ zBs ?_;refine BO.go (C:=C) rfl hI zzb zIX rfl rfl rfl rfl rfl rfl (lc:=.op cr 0 (nN (B6 p.o p.es) 0 qs.length)) (nx:=.mN (qs++[cr])) (pub:=[cr]) rfl aP λR W t τ hw ha Dm ht hi=>?_;have hw:cV (SF gG) K R (o5 aK) eP w' W:=hw;have hi:yI rM.tWg p.Wg (IQ p.W0 p.St (Au p.Shun p.Wg) p.Wg SS R0 Fz Wf qs [cr]) R τ W:=hi;obtain⟨hi,nA⟩:=hi;have h8:t.getD 8 aA=.pointer (some ⟨p.Wg,0,none⟩):=Dm (8,.pointer (some ⟨p.Wg,0,none⟩)) (sK.2 rfl);have cG:t.size=73:=ha.1.symm;have dB:∀a,¬R a cr:=(hi.x.ch cr (sK.2 rfl)).2.2;have Dq:Gh w':=λg hg=>by
  have:=H.tl g hg;have:=H.lo0;rw[HR.o.e.old g aC];exact H.tb g hg
 have zBy:∃b,R gq b:=by
  have h1:VR (SF gG) K R (.pointer (some ⟨gq,0,none⟩)) (t.getD 9 aA):=ha.getD 9 (xO (S:=SF gG) (K:=K) (R:=R));generalize t.getD 9 aA=t9 at h1
  cases h1 with
  |pointer y=>cases y with|some y=>cases y with|mk y=>exact⟨_,y⟩
 have hx:XOk R (xQ gq) w':=⟨λa h=>by
  rcases zaj h with rfl|h
  .exact zBy
  .exact⟨a,hw.tb a h⟩,λa h=>by
  rcases zaj h with rfl|h
  .exact⟨_,_,_,zmx⟩
  .obtain⟨c,T,fz,hc,_⟩:=Dq a h;exact⟨c,T,fz,hc⟩⟩
 have V6:R0.le R:=hi.x.x.le;have fQ:=zpx hw hx;have zFT:∀b,b≠gq->(uU (xQ gq) w').heap[b]? =w'.heap[b]? :=λb hb=>zE5 λh=>by
  rcases zaj h with h|h
  .exact absurd h hb
  .exact(hw.st b (I.xt b h)).2
 have zBP:=zyK (X:=xQ gq) (qs:=qs) hw ht dB;have znP:=iq_qm (X:=xQ gq) hw ht hi;refine⟨Ll τ R (xQ gq) cr qs,Wk τ R (xQ gq),parts_q ht hi,?_,?_⟩
 .have J:Bm p wB K (λa=>eP a\/xQ gq a=true) (Ll τ R (xQ gq) cr qs).still R (Gd R eP (xQ gq)) W (λa=>Xa a\/xQ gq a=true) (qs++[cr]) (qn++[gc]) v2 (uU (xQ gq) w'):=by
   refine⟨I.K1,I.R1.trans V6,λa h=>.inl (I.st a h),λb hb=>.inl (by rw[hi.x.x.im.still];exact I.ss b hb),λb hb=>?_,I.th.step (wO K) V6 hw hx (λb hb=>⟨(hi.x.x.fz b hb).2.1,let⟨a,x,y⟩:=I.fz b hb;⟨a,V6 _ _ x,y⟩⟩),λb hb=>hb,λa h=>.inl (I.xt a h),λa h=>?_,by rw[gM,gM,I.lq];rfl,λi g hg=>?_,HR.o.but (Q7 _ _) zb2 Fh zo3 zFT⟩
   .obtain⟨a,x,h⟩:=hb
    rcases h with h|h
    .exact .inl ((ht a b x).1 h)
    .exact .inr ⟨a,x,h⟩
   .rw[Q7]
    rcases h with h|h
    .rcases I.xa a h with h|⟨h1,h2,h3,h4⟩
     .exact .inl h
     .exact .inr ⟨h1,lE h2 T2.o.size,h3,λhp=>(T2.o.moved a hp).elim h4 λx=>absurd h2 (Nat.not_lt.2 x)⟩
    .rcases zaj h with rfl|h
     .exact .inr ⟨zb2,gA zmx,Fh,zo3⟩
     .exact .inl h
   .rcases mY i qn.length with aN|Bx
    .rw[zI aN] at hg
     rw[zDk (by rw[I.lq];exact aN)];exact I.kq i g hg
    .obtain rfl:i=qn.length:=by
      have:=(jX.1 hg).1;simp at this;omega
     simp at hg;subst hg;rw[<-I.lq,qa_snoc];exact zcx
  have F7:fF (p.cx K (λa=>eP a\/xQ gq a=true) (Ll τ R (xQ gq) cr qs).still R (Gd R eP (xQ gq)) W (qs++[cr]) []):=qV.ok J.st J.ss J.F H.low;have h1:=ha.set 67 (.junk (v':=(.func (.func 54) #[] ((#[.tmp 8,.tmp 9]:Array cN).map (bJ t C.ds.ds).eval))) Xw);simp only[gI,dW,dS] at h1;have fin:∀(G1:Array aF),bK (SF gG) K R G1 (t.setIfInBounds 67 (.func (.func 54) #[] ((#[.tmp 8,.tmp 9]:Array cN).map (bJ t C.ds.ds).eval)))->BO (p.cx K (λa=>eP a\/xQ gq a=true) (Ll τ R (xQ gq) cr qs).still R (Gd R eP (xQ gq)) W (qs++[cr]) []) (.mN (qs++[cr])) ⟨42,G1,.inRegion Ov []::kk,false⟩ (uU (xQ gq) w')->bY C.p C.ty C.Wg C.A C.Fin C.main (.usr (.mN (qs++[cr]))) 0 (Ll τ R (xQ gq) cr qs) (G ((C.ds.base 42).at ⟨t.setIfInBounds 67 (.func (.func 54) #[] ((#[.tmp 8,.tmp 9]:Array cN).map (bJ t C.ds.ds).eval)),C.ds.ds⟩ (.inRegion Ov []::kk)) C.base) W:=λG1 h1 hB=>by
   have hm:=hB R W ⟨42,t.setIfInBounds 67 (.func (.func 54) #[] ((#[.tmp 8,.tmp 9]:Array cN).map (bJ t C.ds.ds).eval)),.inRegion Ov []::kk,false⟩ (Ll τ R (xQ gq) cr qs) fQ ⟨rfl,rfl,rfl,h1,λx lK=>?_⟩ zBP ⟨znP,nA⟩
   .rw[Cx.B_none rfl,mH] at hm
    exact hm
   .obtain rfl:=sK.1 lK
    show(t.setIfInBounds 67 _).getD 8 aA=_;rw[<-h8];simp only[tJ,jP (show(67:Nat)≠8 by decide)]
  exact fin _ h1 (BO.regEnd (ops:=Ov) F7 (zcw _ _ _ _ _ _ v2 (uU (xQ gq) w') _ _ _ _ _ _ _ _ _ _ _ _ _ _ _ _ _ _ _ _ _ _ _ _ _ _ _ _ _ _ _ _ _ _ _ _ _ _ _ _ _ _ _ _ _ _ _ _ _ _ _ _ _ _ _ _ _ _ _ _ _ _ _ _ _ _ _ J))
 .simp only[uW,fL,tM,wA]
  exact op_born hw hx zcx dB zmx Dq ha rfl h8 hi.x.x.im.wg hi.x.x.im.rel nA
variable {St:Nat->Prop}
def Lr.mono {w00:aE}{K2:Pr}(h:Lr w00 K R St eP Fz Wf Xa)(hK:K.le K2):Lr w00 K2 R St eP Fz Wf Xa:=λK' R' wn Wn a b c d=>h K' R' wn Wn (wF hK a) b c d
def Bm.tp (I:Bm p wB K eP SS R0 Fz Wf Xa qs qn v w)(T:jZ)(n:Nat):Bm p wB K eP SS R0 Fz Wf Xa qs qn v (Tt.tp w T n):=⟨I.K1,I.R1,I.st,I.ss,I.F,I.th,I.fz,I.xt,I.xa,I.lq,I.kq,I.h.tp T n⟩
theorem rh_ops (H:zbT p wB):∀(m j:Nat),((j+m:Nat):Int)=p.o.op->∀(K:Pr) (eP SS:Nat->Prop) (R0:Pr) (Fz:Nat->Prop) (Wf:aE) (Xa:Nat->Prop) (qs qn:List Nat) (v:fO) (w:aE) (u0 u1 u4 u5 u6 u9 gU gH gK gJ gE gF u16 gY kQ kM jR gZ iJ iI iD iK iH iA iC iG jK jL u32 iO iL iB hY kI kR iM iN iF iX iP jB jC iW iV iY jD iS iU lC lA kN kJ kO kV kH kE kC j8 u64 kD j6 j5 kF lB kL kU j7:aF),Bm p wB K eP SS R0 Fz Wf Xa qs qn v w->qn.length=j->
 BO (p.cx K eP SS R0 Fz Wf qs []) (.mN qs) ⟨42,#[u0,u1,.pointer (some ⟨p.go,0,none⟩),.pointer (some ⟨p.ge,0,none⟩),u4,u5,u6,.pointer (some ⟨p.gh,0,none⟩),.nilFunc,u9,gU,gH,gK,gJ,gE,gF,u16,gY,kQ,kM,jR,gZ,iJ,iI,iD,iK,iH,iA,iC,iG,jK,jL,u32,iO,iL,iB,hY,kI,kR,iM,iN,iF,iX,iP,jB,jC,iW,iV,iY,jD,iS,iU,.int .i64 p.o.op,.int .i64 j,lC,lA,kN,kJ,kO,kV,kH,kE,kC,j8,u64,kD,j6,j5,kF,lB,kL,kU,j7],[.code zaP,.inLoop zaP,.inBlock 4,.code zjQ],false⟩ w:=by
 have rR:sE p.o=true:=by
  have:=H.ok;unfold j9 at this;simp only[fT] at this;exact this.1.1
 unfold sE at rR;have rR:=of_decide_eq_true rR;have h4:p.o.op<=4:=rR.2.2.2.1;clear rR;intro m
 induction m with
 |zero=>
  intro j hj K eP SS R0 Fz Wf Xa qs qn v w u0 u1 u4 u5 u6 u9 gU gH gK gJ gE gF u16 gY kQ kM jR gZ iJ iI iD iK iH iA iC iG jK jL u32 iO iL iB hY kI kR iM iN iF iX iP jB jC iW iV iY jD iS iU lC lA kN kJ kO kV kH kE kC j8 u64 kD j6 j5 kF lB kL kU j7 I hl;have hI:fF (p.cx K eP SS R0 Fz Wf qs []):=qV.ok I.st I.ss I.F H.low;have zlq:(j:Int)=p.o.op:=by simpa using hj
  have Gw:¬(j:Int)<p.o.op:=aC;have HI:=aD I;have HJ:=aD zlq;clear I hj zlq;unfold zaP;refine BO.seq hI ?_;refine BO.pV mQ hI tL (λw1 T1 fB Q' cY=>?_);have Q0:=aD (show Bm p wB K eP SS R0 Fz Wf Xa qs qn v w1 by rw[fB];exact HI.o.tp T1 0);clear HI
  try dsimp only
  clear fB;go_wp2;refine cY.o _ _ ?_;clear cY;refine BO.seq hI ?_;refine BO.cond hI (t:=false) rfl rfl ?_;refine BO.exit hI (k':=[.code zjQ]) rfl ?_;have I:=Q0.o;have zlq:=HJ.o;have zGb:=I.lq;refine rh_last H.after H.gh (by unfold qV.N;omega) I.st I.ss I.F H.low I.R1 (op_pre H I aC) (aJ I.h.bh 0) (aJ I.h.e.be 0) (λK' R τ W w' v' hK hR hw hi hA hm hT=>op_dep H I aC hK hR hw hi hA hT)
 |succ m ih=>
  intro j hj K eP SS R0 Fz Wf Xa qs qn v w u0 u1 u4 u5 u6 u9 gU gH gK gJ gE gF u16 gY kQ kM jR gZ iJ iI iD iK iH iA iC iG jK jL u32 iO iL iB hY kI kR iM iN iF iX iP jB jC iW iV iY jD iS iU lC lA kN kJ kO kV kH kE kC j8 u64 kD j6 j5 kF lB kL kU j7 I hl;have hI:fF (p.cx K eP SS R0 Fz Wf qs []):=qV.ok I.st I.ss I.F H.low;have Gw:(j:Int)<p.o.op:=aC;have HI:=aD I;have HJ:=aD hj;clear I hj;unfold zaP;refine BO.seq hI ?_;refine BO.pV mQ hI tL (λw1 T1 fB Q' cY=>?_);have Q0:=aD (show Bm p wB K eP SS R0 Fz Wf Xa qs qn v w1 by rw[fB];exact HI.o.tp T1 0);clear HI
  try dsimp only
  clear fB;go_wp2;refine cY.o _ _ ?_;clear cY;refine BO.seq hI ?_;refine BO.cond hI (t:=true) rfl rfl ?_;refine BO.skip hI ?_;refine BO.seq hI ?_;refine BO.block hI ?_;refine BO.seq hI ?_;have I:=Q0.o;have zGb:=I.lq;have zxn:qs.length<p.N:=by unfold qV.N;omega
  rw[zBE];refine BO.regs hI _ zHv ?_;obtain⟨ie,jY⟩:=zBw;refine BO.makeK hI zCc rfl rfl und_chq jY (by intro s hs;cases hs;show(55:Nat)∉([8]:List Nat);decide) (I':=λc=>yI rM.tWg p.Wg (IQ p.W0 p.St (Au p.Shun p.Wg) p.Wg SS R0 Fz Wf qs [c])) (λR τ W hi ht aN=>?_) (λcr=>?_)
  .have hi:yI rM.tWg p.Wg (IQ p.W0 p.St (Au p.Shun p.Wg) p.Wg SS R0 Fz Wf qs []) R τ W:=hi
   refine⟨zqu hi.1 aN,?_⟩;obtain⟨st,sm,hx⟩:=hi.2;have lK:W.heap[p.Wg]? =some _:=hx;exact⟨st,sm,(Fb (dQ.1 lK).1).trans lK⟩
  simp only[cC,gI,dW,dS];show BO (p.cx (K.add w1.heap.size cr) eP SS R0 Fz Wf qs [cr]) (.mN qs) _ _;refine BO.note (can:=λl'=>∃a,l'=.mA qs a) rfl (by show eN p.N (B6 p.o p.es) (.mN qs)=_;simp[eN,zxn]) ⟨cr,rfl⟩ ?_;have Kd:fF (p.cx (K.add w1.heap.size cr) eP SS R0 Fz Wf qs [cr]):=qV.ok I.st I.ss I.F H.low;have lO:=aD (show oJ wB p.lo p.go p.ge p.n p.c p.A p.o p.es p.hb p.gh p.ln qn v (w1.alloc oR) from I.h.below (dO (eG _ _) _));obtain⟨gc,Tx⟩:=aU w1.heap.size;have zw:(w1.alloc oR).heap.size=gc+1:=by rw[rF,Tx]
  rw[<-Tx];obtain⟨w2,fZ⟩:=aU (w1.alloc oR);rw[<-fZ] at lO zw⊢;have F7:fF (p.cx (K.add gc cr) eP SS R0 Fz Wf qs [cr]):=qV.ok I.st I.ss I.F H.low;refine BO.op mQ F7 zyJ rfl aQ (by intro s hs;cases hs;show(9:Nat)∉([8]:List Nat);decide) (λT=>⟨_,_,.inl al17,?_⟩);simp only[cC,gI,dW,dS];obtain⟨gq,Bd⟩:=aU ((Tt.tp w2 T 0).heap.size);have zCh:gq=gc+1:=by rw[Bd];exact zw
  have lI:=aD (show oJ wB p.lo p.go p.ge p.n p.c p.A p.o p.es p.hb p.gh p.ln qn v ((Tt.tp w2 T 0).alloc (.cells #[.chan none] 95)) from(lO.o.tp T 0).below (dO (eG _ _) _));have KB:=aD (show((Tt.tp w2 T 0).alloc (.cells #[.chan none] 95)).heap[gq]? =some (.cells #[.chan none] 95) by rw[Bd];exact Ef _ _);have z3:((Tt.tp w2 T 0).alloc (.cells #[.chan none] 95)).heap.size=gc+2:=by rw[rF,<-Bd,zCh]
  have zb2:p.lo<=gq:=by have:=lO.o.e.lo_;omega
  have Fh:gq≠p.gh:=by
   intro e;have:=gA I.h.bh;omega
  have zb8:some gq∉parts v p.hb:=λhp=>by have:=(I.h.at_.lt gq hp).2;omega
  rw[<-Bd];clear Bd;obtain⟨w3,iT⟩:=aU ((Tt.tp w2 T 0).alloc (.cells #[.chan none] 95));rw[<-iT] at lI KB z3⊢;clear iT lO zw fZ;refine BO.op mQ F7 zCB rfl aQ zm4 (λT2=>⟨aA,Tt.tp (w3.setCell ⟨gq,0,none⟩ (.chan (some gc))) T2 0,.inr ⟨st17 (V:=λs=>(#[u0,u1,.pointer (some ⟨p.go,0,none⟩),.pointer (some ⟨p.ge,0,none⟩),u4,u5,u6,.pointer (some ⟨p.gh,0,none⟩),.nilFunc,.pointer (some ⟨gq,0,none⟩),gU,gH,gK,gJ,gE,gF,u16,gY,kQ,kM,jR,gZ,iJ,iI,iD,iK,iH,iA,iC,iG,jK,jL,u32,iO,iL,iB,hY,kI,kR,iM,iN,iF,iX,iP,jB,jC,iW,iV,iY,jD,iS,iU,.int .i64 p.o.op,.int .i64 j,.bool true,.chan (some gc),kN,kJ,kO,kV,kH,kE,kC,j8,u64,kD,j6,j5,kF,lB,kL,kU,j7]:Array aF).getD s aA) (λs=>rfl) rfl rfl (aJ KB.o 0) (eK KB.o 0),rfl⟩,?_⟩);refine BO.regEnd F7 ?_;refine BO.tape ?_ T2 0;clear T2;have hK:K.le (K.add gc cr):=Pr.le_add _ _ _;have aT:∀b,b≠gq->(w3.setCell ⟨gq,0,none⟩ (.chan (some gc))).heap[b]? =w3.heap[b]? :=λb hb=>za8 w3 _ _ hb;have I3:Bm p wB (K.add gc cr) eP SS R0 Fz Wf Xa qs qn v (w3.setCell ⟨gq,0,none⟩ (.chan (some gc))):=⟨wF I.K1 hK,I.R1,I.st,I.ss,I.F,I.th.mono hK,I.fz,I.xt,λa ha=>by
   rcases I.xa a ha with h|⟨h1,h2,h3,h4⟩
   .exact .inl h
   .exact .inr ⟨h1,by rw[H5,z3];omega,h3,h4⟩,I.lq,λi g hg=>hK _ _ (I.kq i g hg),lI.o.but (H5 _ _ _) zb2 Fh zb8 aT⟩
  refine rh_go H I3 zxn (j:=j) hl.symm (.inr ⟨rfl,rfl⟩) (nQ KB.o _) zb2 Fh zb8 (λzbc zbi zc2 zaH zcH zh0 v' w' u0 u1 u4 u5 u6 gU gH gK gJ gE gF u16 gY kQ kM jR gZ iJ iI iD iK iH iA iC iG jK jL u32 iO iL iB hY kI kR iM iN iF iX iP jB jC iW iV iY jD iS iU kN kJ kO kV kH kE kC j8 u64 kD j5 kF lB kL kU j7 u9 lC lA j6 I4=>?_);have zku:fF (p.cx (K.add gc cr) zbc zbi zc2 zaH zcH (qs++[cr]) []):=qV.ok I4.st I4.ss I4.F H.low;have zth:=aD I4;clear I4 I3 aT lI KB I Q0;refine BO.inBlock zku ?_;refine BO.pV mQ zku tL (λw5 T5 n5 Q' cY=>?_);have zE3:=aD (show Bm p wB (K.add gc cr) zbc zbi zc2 zaH zcH zh0 (qs++[cr]) (qn++[gc]) v' w5 by rw[n5];exact zth.o.tp T5 0);clear zth
  try dsimp only
  clear n5;go_wp2;refine cY.o _ _ ?_;clear cY;refine BO.inLoop zku ?_;exact ih (j+1) (by have:=HJ.o;omega) _ _ _ _ _ _ _ _ _ _ _ _ _ _ _ _ _ _ _ _ _ _ _ _ _ _ _ _ _ _ _ _ _ _ _ _ _ _ _ _ _ _ _ _ _ _ _ _ _ _ _ _ _ _ _ _ _ _ _ _ _ _ _ _ _ _ _ _ _ _ _ _ _ _ _ _ _ _ zE3.o (by rw[gM,hl];rfl)
structure StW (W W4:aE):Prop where
 size:W4.heap.size=W.heap.size+1
 keep:∀b,b<W.heap.size->W4.heap[b]? =W.heap[b]?
 wg:Go.ConcR.WgAt 94 W.heap.size W4 0 0
 os:W4.os=W.os
 tape:W4.tape=W.tape
 output:W4.output=W.output
variable {Post:aF->aE->Prop}{Shun:Loc->Prop}
theorem zzf {CS:List dJ}
 (h:∀W4,StW W W4->J aK Post Shun W.heap.size (G ((Kw 42).at ⟨t.setIfInBounds 8 (.pointer (some ⟨W.heap.size,0,none⟩)),[]⟩ [.code Ft]) CS) W4):
 J aK Post Shun W.heap.size (G ((Kw 42).at ⟨t,[]⟩ [.code (.seq Np Ft)]) CS) W:=by
 have start:∀d,J aK Post Shun W.heap.size (G ((Kw 42).at ⟨t,[]⟩ [.code (.seq Np Ft)]) CS) (W.at d):=by
  refine J.sil rfl (λw=>stepG_seq) ?_;generalize iR:Ft=K0 at h⊢;simp only[Np,oO,zf9,Option.getD_some];refine J.sil rfl (λw=>stepG_region) ?_;refine J.opq (o:=_) (v:=.pointer (some ⟨W.heap.size,0,none⟩)) (w':=W.alloc (.cells #[.int .u64 0,.int .u32 0] 94)) rfl rfl aH (λd=>?_) (λd e he=>?_) ?_
  .show _=Result.ok _ ((W.at d).alloc _)
   have hz:(W.at d).heap.size=W.heap.size:=rfl;rw[<-hz];simp[aS,go_sem,wA]
  .simp[aS,go_sem,wA] at he
  refine J.sil rfl (λw=>stepG_region_end) ?_;intro d;have aY:StW W ((W.alloc (.cells #[.int .u64 0,.int .u32 0] 94)).at d):=by
   refine⟨?_,λb hb=>?_,?_,rfl,rfl,rfl⟩
   .show(W.alloc _).heap.size=_
    rw[rF]
   .show(W.alloc _).heap[b]? =_
    rw[Fb hb]
   .show(W.alloc _).heap[_]? =_
    rw[Ef];rfl
  exact h _ aY
 exact start W.drawn
variable {W0:aE}
theorem zzC {base:List dJ}{lo0 lo go ge n hb gh:Nat}(hR:oJ wB lo go ge n c A o es hb gh ln [] v w)(hgo:lo0<=go)(Bx:lo0<=ge)(dV:lo0<=lo)(bV:j9 o es=true)(yX:(ln.length:Int)=o.ln)(Dq:Gh w)(zcq:∀a,xT a=true->a<lo0)
 (zmJ:∀(R1:Pr) (Wg:Nat),R0.le R1->qV.After ⟨Post,Shun,W0,St,base,K,R1,w,lo0,lo,go,ge,n,c,A,o,es,hb,gh,ln,Wg⟩) {u0 u1 u4 u5 u6 u8 u9 mF mL lC lA:aF}:
 BO (Hs Post Shun W0 St R0 base K) () ⟨42,#[u0,u1,.pointer (some ⟨go,0,none⟩),.pointer (some ⟨ge,0,none⟩),u4,u5,u6,.pointer (some ⟨gh,0,none⟩),u8,u9,gU,gH,gK,gJ,gE,gF,u16,gY,kQ,kM,jR,gZ,iJ,iI,iD,iK,iH,iA,iC,iG,jK,jL,u32,iO,iL,iB,hY,kI,kR,iM,iN,iF,iX,iP,jB,jC,iW,iV,iY,jD,iS,iU,mF,mL,lC,lA,kN,kJ,kO,kV,kH,kE,kC,j8,u64,kD,j6,j5,kF,lB,kL,kU,j7],[.code (.seq Np Ft)],false⟩ w:=by
 intro R W m1 τ hw hm zLv hi;obtain⟨fn',t,yJ,yB⟩:=m1;obtain rfl:=hm.fn;obtain rfl:=hm.todo;obtain rfl:=hm.ret;have hw:cV (SF gG) K R (o5 aK) St w W:=hw;have hi:IA W0 St Shun R0 R τ W:=hi;have ha:bK (SF gG) K R #[u0,u1,.pointer (some ⟨go,0,none⟩),.pointer (some ⟨ge,0,none⟩),u4,u5,u6,.pointer (some ⟨gh,0,none⟩),u8,u9,gU,gH,gK,gJ,gE,gF,u16,gY,kQ,kM,jR,gZ,iJ,iI,iD,iK,iH,iA,iC,iG,jK,jL,u32,iO,iL,iB,hY,kI,kR,iM,iN,iF,iX,iP,jB,jC,iW,iV,iY,jD,iS,iU,mF,mL,lC,lA,kN,kJ,kO,kV,kH,kE,kC,j8,u64,kD,j6,j5,kF,lB,kL,kU,j7] t:=hm.tmps;have cG:t.size=73:=ha.1.symm;rw[mH,Cx.B_some rfl];intro _ Cf;refine zzf λW4 aY=>?_;have rR:sE o=true:=by
  have:=bV;unfold j9 at this;simp only[fT] at this;exact this.1.1
 unfold sE at rR;have rR:=of_decide_eq_true rR
 let p:qV:=⟨Post,Shun,W0,St,base,K,R,w,lo0,lo,go,ge,n,c,A,o,es,hb,gh,ln,W.heap.size⟩
 have aN:∀a b,R a b->b<W.heap.size:=λa b x=>(hw.lt a b (.inl x)).2;have hrel:cV (SF gG) K R (o5 aK) St w W4:=cV.real hw (λa b x=>aY.keep b (aN a b x)) (by rw[aY.size];omega);have zvA:∀a,xT a=true->∃c T fz,w.heap[a]? =some (.cells c T fz):=λa h=>let⟨c,T,fz,hc,_⟩:=Dq a h;⟨c,T,fz,hc⟩
 have zw5:XOk R xT w:=⟨λa h=>⟨a,hw.tb a h⟩,zvA⟩;have fQ:=zpx hrel zw5;have hk:=hi.kp;have lL:=hi.sh;have zF0:=hk.size;have znL:Kp W0 R St W4:=⟨aY.os.trans hk.os,aY.tape.trans hk.tape,aY.output.trans hk.output,by rw[aY.size];omega,λb hb=>(aY.keep b aC).trans (hk.block b hb),hk.old⟩;have zaO:∀a b,R a b->b≠W.heap.size:=λa b x=>by have:=aN a b x;omega
 have zJB:Sh W0.heap.size (Au Shun W.heap.size) R W4:=by
  refine⟨λl b hl hb hx=>?_,λa b x l hl hx=>?_,λl b hl hb hx=>?_⟩
  .rcases hx with hx|hx
   .exact lL.old l b hl hb hx
   .have:=Lu hl hx;omega
  .rcases hx with hx|hx
   .exact lL.rel a b x l hl hx
   .exact zaO a b x (Lu hl hx)
  .rcases hx with hx|hx
   .exact lL.new l b hl (by rw[aY.size] at hb;omega) hx
   .have:=Lu hl hx;have:=aY.size;omega
 have Fh:∃b,R gh b:=by
  have h1:VR (SF gG) K R (.pointer (some ⟨gh,0,none⟩)) (t.getD 7 aA):=ha.getD 7 (xO (S:=SF gG) (K:=K) (R:=R));generalize t.getD 7 aA=t7 at h1
  cases h1 with
  |pointer y=>cases y with|some y=>cases y with|mk y=>exact⟨_,y⟩
 let SC:Nat->Prop:=λa=>St a\/xT a=true
 let τ0:cF:=tauP R SC W0 []
 have zq3:∀a b,R a b->SC a->¬τ0.own b:=λa b x h hb=>by
  rcases hb with⟨a',x',hn⟩|hb
  .obtain rfl:=hw.inj' a a' b (.inl x) (.inl x')
   exact hn h
  .cases hb
 have znP:IQ W0 St (Au Shun W.heap.size) W.heap.size τ0.still R (Gd R St xT) W4 [] [] R τ0 W4:=by
  refine⟨⟨⟨⟨znL,zJB,rfl,by rw[aY.size];omega,λb hb=>?_,zaO⟩,.refl R,λb hb=>?_⟩,λb hb hs=>?_,λb hb=>?_,λc hc=>by cases hc⟩,λc hc=>by cases hc⟩
  .rcases hb with⟨a,x,_⟩|hb
   .exact zaO a b x
   .cases hb
  .obtain⟨a,x,h⟩:=hb
   exact⟨(hrel.lt a b (.inl x)).2,rfl,zq3 a b x h,zaO a b x⟩
  .rcases hs with hs|⟨a,x,h⟩
   .rcases hb with⟨a',x',hn⟩|hb
    .exact hn (.inl (hk.old a' b x' hs))
    .cases hb
   .exact zq3 a b x h hb
  .rcases hb with hb|⟨a,x,_⟩
   .rw[aY.size];omega
   .exact(hrel.lt a b (.inl x)).2
 have H:zbT p (uU xT w):=⟨zmJ R W.heap.size hi.le,Fh,bV,zF0,dV,λg hg=>by
  obtain⟨c,T,fz,h1,h2⟩:=Dq g hg;exact⟨c,T,_,Uy hg h1,h2⟩,zcq,λb hb hx=>Nw hx,yX⟩
 have I:Bm p (uU xT w) K SC τ0.still R (Gd R St xT) W4 (λa=>xT a=true) [] [] v (uU xT w):=⟨wO K,.refl R,λa h=>.inl h,λb hb=>.inl hb,λb hb=>by
  obtain⟨a,x,h⟩:=hb;exact .inr ⟨a,x,h⟩,Lr.first hrel zw5,λb hb=>hb,λa h=>.inr h,λa h=>.inl h,rfl,λi g hg=>by simp at hg,hR.frT hgo Bx dV zcq zvA⟩
 refine J.phase (zBb p.N (B6 p.o p.es) p.D (zDa bV) (by show o.op.toNat<=_;omega)) (ty:=rM.tWg) (Wg:=W.heap.size) (l:=.mN []) (τ:=τ0) ?hb aY.wg ⟨aV _,by rw[aY.size];omega⟩ ?bnd rfl (.a 0 [] (λ_=>1) (.mN []) ⟨rfl,λj j' h=>by omega⟩ (jO _) (.inl rfl) rfl ⟨λj h=>by omega,λj j' h=>by omega,λj h=>by omega⟩ (λj h=>by omega) (λi hi _=>by simp[hi]))
 case bnd=>
  have hr:∀a b,R a b->b<W4.heap.size/\b≠W.heap.size/\∀l,nD l b->¬Shun l:=λa b x=>⟨(hrel.lt a b (.inl x)).2,zaO a b x,lL.rel a b x⟩;rintro b ((⟨a,x,_⟩|hb)|(hb|⟨a,x,_⟩)|hb)
  .exact hr a b x
  .cases hb
  .exact⟨by rw[aY.size];omega,aC,λl hl=>lL.old l b hl hb⟩
  .exact hr a b x
  .exact hb.elim
 case hb=>
  have hI:fF (p.cx K SC τ0.still R (Gd R St xT) W4 [] []):=qV.ok I.st I.ss I.F H.low;have hB:BO (p.cx K SC τ0.still R (Gd R St xT) W4 [] []) (.mN []) ⟨42,#[u0,u1,.pointer (some ⟨go,0,none⟩),.pointer (some ⟨ge,0,none⟩),u4,u5,u6,.pointer (some ⟨gh,0,none⟩),.nilFunc,u9,gU,gH,gK,gJ,gE,gF,u16,gY,kQ,kM,jR,gZ,iJ,iI,iD,iK,iH,iA,iC,iG,jK,jL,u32,iO,iL,iB,hY,kI,kR,iM,iN,iF,iX,iP,jB,jC,iW,iV,iY,jD,iS,iU,mF,mL,lC,lA,kN,kJ,kO,kV,kH,kE,kC,j8,u64,kD,j6,j5,kF,lB,kL,kU,j7],[.code Ft],false⟩ (uU xT w):=by
   rw[show Ft=.seq (.seq zmh (.block 4 (.loop zaP))) zjQ from rfl];refine BO.seq hI ?_;refine BO.seq hI ?_;refine BO.pV mQ hI tL (λw1 T1 fB Q' cY=>?_);have Q0:=aD (show Bm p (uU xT w) K SC τ0.still R (Gd R St xT) W4 (λa=>xT a=true) [] [] v w1 by rw[fB];exact I.tp T1 0);have g1:w1.cell? ⟨go,1,none⟩=some (.int .i64 o.op):=aJ Q0.o.h.e.bo 1
   try dsimp only
   clear fB;go_wp2;refine cY.o _ _ ?_;clear cY;refine BO.block hI ?_;refine BO.loop hI ?_;exact rh_ops H o.op.toNat 0 (by show _=o.op;omega) K SC τ0.still R (Gd R St xT) W4 (λa=>xT a=true) [] [] v w1 _ _ _ _ _ _ _ _ _ _ _ _ _ _ _ _ _ _ _ _ _ _ _ _ _ _ _ _ _ _ _ _ _ _ _ _ _ _ _ _ _ _ _ _ _ _ _ _ _ _ _ _ _ _ _ _ _ _ _ _ _ _ _ _ _ _ _ Q0.o rfl
  have h1:=ha.set 8 (.junk (v':=.pointer (some ⟨W.heap.size,0,none⟩)) Xw);simp only[gI,dW,dS] at h1;have hm:=hB R W4 ⟨42,t.setIfInBounds 8 (.pointer (some ⟨W.heap.size,0,none⟩)),[.code Ft],false⟩ τ0 fQ ⟨rfl,rfl,rfl,h1,λx hx=>?_⟩ terra_p ⟨znP,⟨0,0,aY.wg⟩⟩
  .rw[Cx.B_none rfl,mH] at hm
   exact hm
  .obtain rfl:=sK.1 hx
   show(t.setIfInBounds 8 _).getD 8 aA=_;simp[tJ,cG];rfl
abbrev JS (St:Nat->Prop)(W0:aE)(Post:aF->aE->Prop)(m:Fm)(ms:List Fm)(w:aE):Prop:=JL aK (oZ olL) (oZ alL) gG St W0 Post m ms w
theorem zE0 {G:Gp}(h:cV S K R G St w W)(e:w'.heap=w.heap):cV S K R G St w' W:=by
 refine⟨h.inj,h.inj',λa b x=>by rw[e];exact h.lt a b x,h.low,by rw[e];exact h.gle,λa b x=>?_,λa b x hn=>?_,λa x=>?_,λa c y hp=>?_,h.tb⟩
 .rw[e];exact h.cont a b x
 .rw[e];exact h.rest a b x hn
 .rw[e];exact h.st a x
 .rw[e] at hp;exact h.np a c y hp
def JS.heap {m:Fm}{ms:List Fm}(h:JS St W0 Post m ms w)(e:w'.heap=w.heap):JS St W0 Post m ms w':=
 λK R W m' ms' Shun a b c d k=>h K R W m' ms' Shun (zE0 a e.symm) b c d k
theorem rh_tmps (a b:aF):(#[a,b]:Array aF)++nL (73-(#[a,b]:Array aF).size) aA=#[a,b,aA,aA,aA,aA,aA,aA,aA,aA,aA,aA,aA,aA,aA,aA,aA,aA,aA,aA,aA,aA,aA,aA,aA,aA,aA,aA,aA,aA,aA,aA,aA,aA,aA,aA,aA,aA,aA,aA,aA,aA,aA,aA,aA,aA,aA,aA,aA,aA,aA,aA,aA,aA,aA,aA,aA,aA,aA,aA,aA,aA,aA,aA,aA,aA,aA,aA,aA,aA,aA,aA,aA]:=by
 have h:(#[a,b]:Array aF).size=2:=aP;rw[h];apply Ja;simp only[Pe,zaa];rfl
structure Hall (w wn:aE)(o:jN)(es:List dG)(hb:Nat):Prop where
 below:bU w.heap.size w wn
 ex:∃lo v ln qn,w.heap.size<=lo/\lo<=wn.heap.size/\bF wn lo hb v (uP o es ln qn qn.length)/\(ln.length:Int)=o.ln/\(qn.length:Int)=o.op
section
variable {Post:aF->aE->Prop}{W0:aE}{St:Nat->Prop}
theorem jo_hall {m:Fm}{ms:List Fm}{w:aE}{ops:Array aZ}{i:Nat}{rest:List Nat}{k:List eF}{oo:aZ}{args:Array cN}{kT:Array aM}{A:Option bL}{n c:Nat}{o:jN}{es:List dG}
 (hr:m.ret=false) (pT:m.todo=.inRegion ops (i::rest)::k) (ho:ops[i]? =some oo) (cD:dD oo (dR ops m.tmps)=true) (hop:oo.op=.call ⟨.value (.func 42),args,kT⟩) (tD:args.all (dP gG)=true)
 (hv:args.map m.eval=#[.agg #[.int .i64 o.ln,.int .i64 o.op,.int .i64 o.pt],.slice A n c]) (Gn:b7 w 0 w.heap.size 3 A n c (lM es)) (hn:n<=1048576) (hT:vF w) (Dq:Gh w)
 (zCm:j9 o es=false->∀wn,bU w.heap.size w wn->JS St W0 Post (m.fin ops i rest k (.pointer none)) ms wn)
 (zBI:j9 o es=true->∀wn hb,Hall w wn o es hb->JS St W0 Post (m.fin ops i rest k (.pointer (some ⟨hb,0,none⟩))) ms wn):JS St W0 Post m ms w:=by
 refine JO.callF lvF hr pT ho cD hop rfl tD λK R W m' ms' Shun bX hw hm iZ lL hk Cj=>?_;rw[hv] at Cj;have l6:Du (zf9).results.toList:=.inr (.inl ⟨_,rfl⟩);have Bg:(zf9).ntmps=73:=rfl;have zsD:=Cj.pad 73;rw[rh_tmps] at zsD;rw[Yb (c:=oO) zfE rfl,Bg];have zcq:∀a,xT a=true->a<w.heap.size:=λa h=>(hw.lt a a (.inl (hw.tb a h))).1;refine BO.aloneIn (p:=aK) (gs:=Bn) (fs:=gG) (St:=St) (K:=K) (R:=R) (m:=⟨42,#[.agg #[.int .i64 o.ln,.int .i64 o.op,.int .i64 o.pt],.slice A n c,aA,aA,aA,aA,aA,aA,aA,aA,aA,aA,aA,aA,aA,aA,aA,aA,aA,aA,aA,aA,aA,aA,aA,aA,aA,aA,aA,aA,aA,aA,aA,aA,aA,aA,aA,aA,aA,aA,aA,aA,aA,aA,aA,aA,aA,aA,aA,aA,aA,aA,aA,aA,aA,aA,aA,aA,aA,aA,aA,aA,aA,aA,aA,aA,aA,aA,aA,aA,aA,aA,aA],[.code oO],false⟩) ?_ hw ⟨rfl,rfl,rfl,zsD,λx hx=>by cases hx⟩ lL hk;refine zyU Gn hn hT (λT todo w' h4 hO bV=>?_) (λwB lo go ge K' w' v ln hb gh u0 u1 u4 u5 u6 u8 u9 gU gH gK gJ gE gF u16 gY kQ kM jR gZ iJ iI iD iK iH iA iC iG jK jL u32 iO iL iB hY kI kR iM iN iF iX iP jB jC iW iV iY jD iS iU mF mL lC lA kN kJ kO kV kH kE kC j8 u64 kD j6 j5 kF lB kL kU j7 hK bV dV hgo Bx Qg hR yX=>?_)
 .refine BO.aloneOut hm iZ rfl hr pT (v:=.pointer none) zfE l6 (by rw[<-h4];rfl) ?_
  have zG3:bU w.heap.size w {w' with os:=w.os,tape:=w.tape,output:=w.output}:=⟨rfl,rfl,rfl,hO.1,hO.2⟩;exact JS.heap (zCm bV _ zG3) rfl
 .refine zzC (lo0:=w.heap.size) hR hgo Bx dV bV yX (λg hg=>?_) zcq (λR1 Wg zgS K2 R2 w2 v2 qn u0 u1 u2 u3 u4 u5 u6 u8 u9 gU gH gK gJ gE gF u16 gY kQ kM jR gZ iJ iI iD iK iH iA iC iG jK jL u32 iO iL iB hY kI kR iM iN iF iX iP jB jC iW iV iY jD iS iU mF mL lC lA kN kJ kO kV kH kE kC j8 u64 kD j6 j5 kF lB kL kU j7 zhb Lh hE=>?_)
  .have rG:=zcq g hg
   rw[hR.e.old g aC,Qg g rG];exact Dq g hg
  .have zhb:K'.le K2:=zhb
   have Lh:R1.le R2:=Lh;obtain⟨hA,hold,hz,zg8,Rh⟩:=hE;have hA:bF w2 lo hb v2 (uP o es ln qn qn.length):=hA;have hold:∀b,b<w.heap.size->w2.heap[b]? =w'.heap[b]? :=hold;have hz:lo<=w2.heap.size:=hz;have zg8:w2.heap[gh]? =some (.cells #[.pointer (some ⟨hb,0,none⟩)] 63):=zg8;have zoF:∀b,b<w.heap.size->w2.heap[b]? =w.heap[b]? :=λb bZ=>by
    rw[hold b bZ,hR.e.old b aC,Qg b bZ]
   have HA:=aD hA;have HO:=aD zoF;have HB:=aD zg8;clear hA hold zoF zg8;show BO (Fg aK Bn gG Post (Au Shun Wg) W0 St K2 R2 (m'.fr::ms'.map Fm.fr)) () _ _;refine BO.regEnd dA ?_;refine BO.seq dA ?_;refine BO.pV mQ dA tL (λw3 T1 iT Q' cY=>?_);have g1:(Tt.tp w2 T1 0).cell? ⟨gh,0,none⟩=some (.pointer (some ⟨hb,0,none⟩)):=aJ HB.o 0;have e3:w3.heap=w2.heap:=by rw[iT];rfl
   have uR:=aD e3
   try dsimp only
   rw[<-iT] at g1;clear iT e3;go_wp2;refine cY.o _ _ ?_;clear cY;refine BO.ret dA ?_;refine BO.aloneOut (pA.monoK (wF hK zhb) (hm.mono (zgS.trans Lh))) (uL.monoK (wF hK zhb) (iZ.mono (zgS.trans Lh))) rfl hr pT (v:=.pointer (some ⟨hb,0,none⟩)) zfE l6 rfl ?_;have hH:Hall w {w2 with os:=w.os,tape:=w.tape,output:=w.output} o es hb:=⟨⟨rfl,rfl,rfl,by show w.heap.size<=w2.heap.size;omega,HO.o⟩,lo,v2,ln,qn,dV,hz,HA.o.same rfl,yX,Rh⟩;exact JS.heap (zBI bV _ _ hH) uR.o
end
end Go.Proofs.YtfcjiloojkjaeaaGreatDoor
namespace Go.Proofs.YtfcjiloojkjaeaaGreatDoor
open Go.RowKit Go.Mt Go.Conc Go.Tt
structure Bl (B:Nat)(w w':aE):Prop where
 size:w.heap.size<=w'.heap.size
 block:∀b,b<B->w'.heap[b]? =w.heap[b]?
def Bl.refl (B:Nat)(w:aE):Bl B w w:=⟨aV _,λ_ _=>rfl⟩
variable {B:Nat}{a b c:aE}
def Bl.below (h:Bl B a b)(k:bU b.heap.size b c)(hB:B<=a.heap.size):Bl B a c:=⟨eM h.size k.size,λx hx=>(k.block x zi3).trans (h.block x hx)⟩
def Bl.tp (h:Bl B a b)(T:jZ)(e:Nat):Bl B a (Tt.tp b T e):=⟨h.size,h.block⟩
section
variable {p:bR}{op gs gs₁ fs:aO->Bool}{St:Nat->Prop}{W0:aE}{Post:aF->aE->Prop}
variable {c:wJ}{k:List eF}{ms:List Fm}
theorem JO.sq (L:Lv p op gs gs₁ fs){fn:aO}{tmps:Array aF}{w:aE}(hf:op fn=false)(h:JL p op gs fs St W0 Post ⟨fn,tmps,.code (sA c):: .code (sB c)::k,false⟩ ms w)(e:c=.seq (sA c) (sB c):=by exact rfl):JL p op gs fs St W0 Post ⟨fn,tmps,.code c::k,false⟩ ms w:=by
 rw[e];exact JO.seq L hf h
theorem JO.cd (L:Lv p op gs gs₁ fs){fn:aO}{tmps:Array aF}{w:aE}(t:Bool)(hf:op fn=false)(h:JL p op gs fs St W0 Post ⟨fn,tmps,.code (if t then cA c else cB c)::k,false⟩ ms w)(hc:(bJ tmps []).eval (cX c)=.bool t:=by exact rfl)(e:c=.cond (cX c) (cA c) (cB c):=by exact rfl):JL p op gs fs St W0 Post ⟨fn,tmps,.code c::k,false⟩ ms w:=by
 rw[e];exact JO.cond L hf hc h
theorem JO.sk (L:Lv p op gs gs₁ fs){fn:aO}{tmps:Array aF}{w:aE}(hf:op fn=false)(h:JL p op gs fs St W0 Post ⟨fn,tmps,k,false⟩ ms w)(e:c=.skip:=by exact rfl):JL p op gs fs St W0 Post ⟨fn,tmps,.code c::k,false⟩ ms w:=by
 rw[e];exact JO.skip L hf h
theorem JO.rt (L:Lv p op gs gs₁ fs){fn:aO}{tmps:Array aF}{w:aE}(hf:op fn=false)(h:JL p op gs fs St W0 Post ⟨fn,tmps,.code .ret::k,true⟩ ms w)(e:c=.ret:=by exact rfl):JL p op gs fs St W0 Post ⟨fn,tmps,.code c::k,false⟩ ms w:=by
 rw[e];exact JO.ret L hf h
theorem JO.rn (L:Lv p op gs gs₁ fs){fn:aO}{tmps:Array aF}{w:aE}(hf:op fn=false)(ops:Array aZ)(is:List Nat)(h:JL p op gs fs St W0 Post ⟨fn,tmps,.inRegion ops is::k,false⟩ ms w)(e:c=.region (bI c) ops false:=by exact rfl)(hr:gN ops.size=is:=by exact rfl):JL p op gs fs St W0 Post ⟨fn,tmps,.code c::k,false⟩ ms w:=by
 subst hr;rw[e];exact JO.reg L hf h
variable {c':wJ}{b:List Fm}
theorem JO.pQ (L:Lv p op gs gs₁ fs){fn:aO}{tmps:Array aF}{w:aE}(wM:op fn=false)
 (rI:∀(T:jZ) (Q:Exit->Go.Act->aE->Prop),pR (∀a' w',JL p op gs fs St W0 Post ⟨fn,a'.tmps,k,false⟩ b w'->Q .normal a' w')->Code.wp p c' Q ⟨tmps,[]⟩ (Tt.tp w T 0)) (e:c=c':=by conv=>lhs;whnf) (hc:oC p ⟨fs,gs₁,true⟩ c=true:=by kernel_rfl):
 JL p op gs fs St W0 Post ⟨fn,tmps,.code c::k,false⟩ b w:=by
 subst e;exact JO.piece L hc wM λT=>rI T _ (aD λa' w' h=>⟨rfl,h⟩)
theorem JO.tQ (L:Lv p op gs gs₁ fs){fn:aO}{tmps:Array aF}{w:aE}(wM:op fn=false)
 (rI:∀(T:jZ) (Q:Exit->Go.Act->aE->Prop),pR (∀a' w',(∀todo,JL p op gs fs St W0 Post ⟨fn,a'.tmps,todo,true⟩ b w')->Q .ret a' w')->Code.wp p c' Q ⟨tmps,[]⟩ (Tt.tp w T 0)) (e:c=c':=by conv=>lhs;whnf) (hc:oC p ⟨fs,gs₁,true⟩ c=true:=by kernel_rfl):
 JL p op gs fs St W0 Post ⟨fn,tmps,[.code c],false⟩ b w:=by
 subst e;exact JO.tail L hc wM λT=>rI T _ (aD λa' w' h=>⟨.inr rfl,h⟩)
theorem JO.mv (L:Lv p op gs gs₁ fs){fn:aO}{tmps T':Array aF}{ops:Array aZ}{i:Nat}{rest:List Nat}{w:aE}{o:aZ}(hf:op fn=false)(v:aF)(h:JL p op gs fs St W0 Post ⟨fn,T',.inRegion ops rest::k,false⟩ ms w)(ho:ops[i]? =some o:=by exact zel rfl (by conv=>lhs;whnf))
 (hx:∀T e,(aS (bJ tmps []).eval o).run p (Tt.tp w T e)=.ok (.value v) (Tt.tp w T e):=by exact λ_ _=>rfl) (cD:dD o (dR ops tmps)=true:=by exact rfl)
 (ht:(cC ⟨tmps,[]⟩ o.dst v).tmps=T':=by first|(simp only[Go.Act.put,List.setIfInBounds_toArray,List.set_cons_zero,List.set_cons_succ];done)|(simp only[Go.Act.put,List.setIfInBounds_toArray,List.set_cons_zero,List.set_cons_succ];rfl)):JL p op gs fs St W0 Post ⟨fn,tmps,.inRegion ops (i::rest)::k,false⟩ ms w:=
 JO.opv L hf ho cD hx (ht▸h)
end
variable {w:aE}{lo hi s n:Nat}{A:Option bL}{xs:List aF}
def b7.tp {c:Nat}(h:b7 w lo hi s A n c xs)(T:jZ)(e:Nat):b7 (Tt.tp w T e) lo hi s A n c xs:=⟨h.len,h.le,h.cap,h.at_⟩
def qT.tp {E c:Nat}(h:qT E s w lo hi A n c xs)(T:jZ)(e:Nat):qT E s (Tt.tp w T e) lo hi A n c xs:=⟨h.slc.tp T e,h.blk⟩
variable {w':aE}
def b7.bls {c:Nat}(h:b7 w lo hi s A n c xs)(k:Bl B w w')(hB:w.heap.size<=B):b7 w' lo hi s A n c xs:=h.keep k.size λb _ _ h3=>k.block b aC
def qT.bls {E c:Nat}(h:qT E s w lo hi A n c xs)(k:Bl B w w')(hB:w.heap.size<=B):qT E s w' lo hi A n c xs:=h.keep k.size λb _ _ h3=>k.block b aC
def Bl.chg (h:Bl B a b)(k:qC lo hi b c)(hB:B<=lo)(h2:B<=b.heap.size):Bl B a c:=⟨eM h.size k.size,λx hx=>(k.block x aC aC).trans (h.block x hx)⟩
def Bl.then {B':Nat}(h:Bl B a b)(k:Bl B' b c)(hB:B<=B'):Bl B a c:=⟨eM h.size k.size,λx hx=>(k.block x aC).trans (h.block x hx)⟩
def Bl.below' (h:Bl B a b)(k:bU b.heap.size b c)(hB:B<=b.heap.size):Bl B a c:=⟨eM h.size k.size,λx hx=>(k.block x aC).trans (h.block x hx)⟩
variable {o:Obj}
def Az (h:Bl B a b){N:Nat}(hN:a.heap[N]? =some o)(hB:N<B):b.heap[N]? =some o:=(h.block N hB).trans hN
def F0 (o:jN)(es:List dG):List Int:=(y5 o es).back.map bE.c
def ztd:Go.Code:=(zhd.body).getD .skip
def rCR1:Go.Code:=match ztd with| .seq _ (.seq (a) _)=>a|_=>.skip
def ziH:Array Oper:=match rCR1 with| .region _ ops _=>ops|_=>#[]
abbrev oCR1_0:Oper:=⟨some 6,.load 29 (.tmp 2),29,"l6_office.go:379",#[],none⟩
def zEz:ziH[0]? =some oCR1_0:=rfl
abbrev oCR1_2:Oper:=⟨some 8,.call ⟨.value (.func 42),#[.tmp 6,.tmp 7],#[29,31]⟩,63,"l6_office.go:379",#[⟨0,.data⟩,⟨1,.data⟩],none⟩
def zi8:ziH[2]? =some oCR1_2:=rfl
section
variable {St:Nat->Prop}{W0:aE}{Post:aF->aE->Prop}
theorem zn8 {m:Fm}{ms:List Fm}{w:aE}{ops:Array aZ}{i:Nat}{rest:List Nat}{k:List eF}{oo:aZ}{args:Array cN}{kT:Array aM}{A:Option bL}{n c:Nat}{o:jN}{es:List dG}
 (hr:m.ret=false) (zex:oZ olL m.fn=false) (pT:m.todo=.inRegion ops (i::rest)::k) (ho:ops[i]? =some oo) (cD:dD oo (dR ops m.tmps)=true) (hop:oo.op=.call ⟨.value (.func 26),args,kT⟩)
 (hv:args.map m.eval=#[.agg #[.int .i64 o.ln,.int .i64 o.op,.int .i64 o.pt],.slice A n c]) (Gn:b7 w 0 w.heap.size 3 A n c (lM es)) (hn:n<=1048576) (hT:vF w) (Dq:Gh w)
 (hJ:∀wn V,Bl w.heap.size w wn->wn.ownsRow w.heap.size 3 1 V (F0 o es).length (eH (F0 o es))->JS St W0 Post (m.fin ops i rest k (V)) ms wn):JS St W0 Post m ms w:=by
 have L:=lvF;have cT:oZ olL 26=false:=aQ;have zDS:=JO.callN (St:=St) (W0:=W0) (Post:=Post) (ms:=ms) (w:=w) (fn:=zhd) (c:=ztd) L hr pT ho cD hop cT;refine zDS zsS aH rfl ?_;rw[hv];have Ch:(#[.agg #[.int .i64 o.ln,.int .i64 o.op,.int .i64 o.pt],.slice A n c]:Array aF)++nL ((zhd).ntmps-(#[.agg #[.int .i64 o.ln,.int .i64 o.op,.int .i64 o.pt],.slice A n c]:Array aF).size) aA=#[.agg #[.int .i64 o.ln,.int .i64 o.op,.int .i64 o.pt],.slice A n c,aA,aA,aA,aA,aA,aA,aA,aA,aA,aA,aA,aA,aA]:=by
  have e:(zhd).ntmps=15:=rfl;rw[e];apply Ja;simp only[Pe,zaa,Ej,pX,r8];rfl
 rw[Ch];have pD:w.heap.size<=w.heap.size:=aV _;have zcK:∀(tmps:Array aF) (td:List eF) (w':aE) (V:aF),tmps.getD 4 aA=V->Bl w.heap.size w w'->w'.ownsRow w.heap.size 3 1 V (F0 o es).length (eH (F0 o es))->JS St W0 Post ⟨26,tmps,td,true⟩ (m::ms) w':=by
  intro tmps td w' V e4 hb cP;refine JO.back L rfl pT zsS (v:=V) ?_ zex (hJ w' V hb cP);show(oN [.tmp 4] tmps).run _ _=_;simp only[oN,yK,e4];rfl
 refine JO.sq L cT ?_;refine JO.pQ L cT (λTp Q HQ=>?_);obtain⟨w1,fB⟩:=aU (Tt.tp w Tp 0);have B0:=aD (show Bl w.heap.size w w1 by rw[fB];exact(Bl.refl _ w).tp Tp 0);have dZ:w1.heap.size=w.heap.size:=by rw[fB];rfl
 have eh:w1.heap=w.heap:=by rw[fB];rfl
 have EH:=aD eh;rw[<-fB];clear fB eh;go_wp2;refine HQ.o _ _ ?_;clear HQ;obtain⟨w2,fZ⟩:=aU (w1.alloc (.cells #[.int .i64 o.ln,.int .i64 o.op,.int .i64 o.pt] 29));have k2:∀b,b<w.heap.size->w2.heap[b]? =w.heap[b]? :=λb hb=>by rw[fZ,Fb aC,EH.o]
 have z2:w2.heap.size=w.heap.size+1:=by rw[fZ,rF,dZ]
 have g2:w2.heap[w1.heap.size]? =some (.cells #[.int .i64 o.ln,.int .i64 o.op,.int .i64 o.pt] 29):=by rw[fZ];exact Ef _ _
 have zGL:bU w.heap.size w {w2 with os:=w.os,tape:=w.tape,output:=w.output}:=⟨rfl,rfl,rfl,by show w.heap.size<=w2.heap.size;omega,k2⟩;have zEX:vF w2:=znr (w:={w2 with os:=w.os,tape:=w.tape,output:=w.output}) rfl (zjD hT _ zGL);have zGF:Gh w2:=λg hg=>by
  obtain⟨c,T,fz,h1,h2⟩:=Dq g hg;exact⟨c,T,fz,(k2 g (dQ.1 h1).1).trans h1,h2⟩
 have Av:b7 w2 0 w2.heap.size 3 A n c (lM es):=(Gn.keep aC λb _ q _=>k2 b q).wide (aV _) aC;rw[<-fZ];clear fZ;rw[dZ] at g2;refine JO.sq L cT ?_;refine JO.rn L cT ziH [0,1,2,3] ?_;refine JO.opv L (v:=.agg #[.int .i64 o.ln,.int .i64 o.op,.int .i64 o.pt]) cT zEz rfl (λT e=>?_) ?_
 .have c0:(Tt.tp w2 T e).cell? ⟨w.heap.size,0,none⟩=some (.int .i64 o.ln):=aJ g2 0
  have c1:(Tt.tp w2 T e).cell? ⟨w.heap.size,1,none⟩=some (.int .i64 o.op):=aJ g2 1;have c2:(Tt.tp w2 T e).cell? ⟨w.heap.size,2,none⟩=some (.int .i64 o.pt):=aJ g2 2;unfold aS;go_simp
  try rfl
 simp only[cC,gI,dW,dS];refine JO.mv L cT (.slice A n c) ?_;refine jo_hall (o:=o) (es:=es) rfl rfl zi8 rfl rfl aQ Zd Av hn zEX zGF (λbV wn hb=>?_) (λbV wn hb hH=>?_)
 .simp only[Fm.fin,zi8,vN,gI,dW,dS]
  have bZ:Bl w.heap.size w wn:=⟨by have:=hb.size;omega,λb bZ=>(hb.block b aC).trans (k2 b bZ)⟩;refine JO.mv L cT (.pointer none) ?_;refine JO.regEnd L cT ?_;refine JO.sq L cT ?_;refine JO.sq L cT ?_;refine JO.pQ L cT (λTp Q HQ=>?_);go_wp2;refine HQ.o _ _ ?_;clear HQ;refine JO.cd L true cT ?_;refine JO.sq L cT ?_;refine JO.pQ L cT (λPq Q HQ=>?_);go_wp2;refine HQ.o _ _ ?_;clear HQ;refine JO.rt L cT ?_;exact zcK _ _ _ _ rfl ((bZ.tp Tp 0).tp Pq 0) (by simp[F0,y5,bV,lW];exact⟨rfl,.inl ⟨rfl,rfl⟩⟩)
 .simp only[Fm.fin,zi8,vN,gI,dW,dS]
  obtain⟨mX,lo,v,ln,qn,h1,h2,hA,h3,h4⟩:=hH;have bZ:Bl w.heap.size w wn:=⟨by have:=mX.size;omega,λb bZ=>(mX.block b aC).trans (k2 b bZ)⟩;have HA:=aD hA;have zEQ:=aD bZ;clear hA bZ mX;refine JO.mv L cT (.pointer (some ⟨hb,0,none⟩)) ?_;refine JO.regEnd L cT ?_;refine JO.sq L cT ?_;refine JO.sq L cT ?_;refine JO.pQ L cT (λTp Q HQ=>?_);go_wp2;refine HQ.o _ _ ?_;clear HQ;refine JO.cd L false cT ?_;refine JO.sk L cT ?_;refine JO.sq L cT ?_;refine JO.pQ L cT (λPq Q HQ=>?_);obtain⟨w5,n5⟩:=aU (Tt.tp (Tt.tp wn Tp 0) Pq 0);have c5:w5.cell? ⟨hb,8,none⟩=some (v.sB):=by rw[n5];exact aJ HA.o.blk 8
  have A5:=aD (show bF w5 lo hb v (uP o es ln qn qn.length) by rw[n5];exact HA.o.same rfl);have B5:=aD (show Bl w.heap.size w w5 by rw[n5];exact(zEQ.o.tp Tp 0).tp Pq 0);rw[<-n5];clear n5;go_wp2;refine HQ.o _ _ ?_;clear HQ;refine JO.rt L cT ?_;exact zcK _ _ _ _ rfl B5.o (by simp only[F0,y5,bV,if_true,Xt];exact zpM A5.o.B aC)
end
section
variable {p:bR}{op gs gs₁ fs:aO->Bool}{St:Nat->Prop}{W0:aE}{Post:aF->aE->Prop}
def JO.callV (L:Lv p op gs gs₁ fs){m:Fm}{ms:List Fm}{w:aE}{ops:Array aZ}{i:Nat}{rest:List Nat}{k:List eF}{o:aZ}{f:aO}{args:Array cN}{kT:Array aM}{xs:Array aF}(hr:m.ret=false)(pT:m.todo=.inRegion ops (i::rest)::k)
 (ho:ops[i]? =some o) (cD:dD o (dR ops m.tmps)=true) (hop:o.op=.call ⟨.value (.func f),args,kT⟩) (hg:gs₁ f=true) (wM:op m.fn=false) (tD:args.all (dP fs)=true) (hv:args.map m.eval=xs)
 {Q:aF->aE->Prop} (V7:∀v w T e,Q v w->Q v (Tt.tp w T e)) (hc:∀T,fH p f xs (Tt.tp w T 0) (λe w'=>∃v,e=.returned v/\Q v w'))
 (hJ:∀v w',Q v w'->JL p op gs fs St W0 Post (m.fin ops i rest k v) ms w'):JL p op gs fs St W0 Post m ms w:=
 JO.callL L hr pT ho cD hop hg wM tD V7 (λT=>hv▸hc T) hJ
end
variable {b:Nat}
def kK (h:w.heap[b]? =some o)(T:jZ)(e:Nat):(Tt.tp w T e).heap[b]? =some o:=h
def Y5 (h:w.heap[b]? =some o)(k:qC lo hi w w')(hd:b<lo\/hi<=b):w'.heap[b]? =some o:=(k.block b (gA h) aC).trans h
def ToV (E:aM)(s:Nat)(l:List aF)(W:aE)(n:Nat)(v:aF)(w':aE):Prop:=
 ∃b cs,v=.slice (some ⟨b,0,none⟩) n n/\W.heap.size<=b/\w'.heap[b]? =some (.cells cs E)/\cs.toList=l/\qT E s w' W.heap.size w'.heap.size (some ⟨b,0,none⟩) n n l/\Bl W.heap.size W w'
variable {W:aE}{v:aF}
theorem ToV.tp {E:aM}{l:List aF}(h:ToV E s l W n v w)(T:jZ)(e:Nat):ToV E s l W n v (Tt.tp w T e):=by
 obtain⟨b,cs,h1,h2,h3,h4,h5,h6⟩:=h;exact⟨b,cs,h1,h2,h3,h4,h5.tp T e,h6.tp T e⟩
theorem zAl {c:Nat}{xs:List dG}(h:b7 W lo hi 3 A n c (lM xs))(hn:n<=1048576)(T:jZ):
 fH aK 13 #[.slice A n c] (Tt.tp W T 0) λe w'=>∃v,e=.returned v/\ToV 54 3 (lM xs) W n v w':=by
 refine(zgI (h.tp T 0) hn).mono ?_;rintro e w' ⟨b,cs,he,h2,h3,h4,h5,h6⟩;exact⟨_,he,b,cs,rfl,h2,h3,h4,h5,((Bl.refl _ W).tp T 0).below h6 (aV _)⟩
theorem zAy {l:List dG}:∀v∈lM l,M2 v:=by
 intro v hv;obtain⟨d,_,hd⟩:=List.mem_flatMap.1 hv;simp only[dG.cells,List.mem_cons,l8,or_false] at hd;rcases hd with rfl|rfl|rfl
 all_goals first
  |exact .inl ⟨_,_,rfl⟩
  |exact .inr (.inl ⟨_,rfl⟩)
theorem vF.bls (h:vF w)(hb:Bl B w w')(hB:w.heap.size<=B):vF w':=by
 have bZ:bU w.heap.size w {w' with os:=w.os,tape:=w.tape,output:=w.output}:=⟨rfl,rfl,rfl,hb.size,λb ztc=>hb.block b aC⟩;exact znr (w:={w' with os:=w.os,tape:=w.tape,output:=w.output}) rfl (zjD h _ bZ)
theorem Gh.bls (h:Gh w)(hb:Bl B w w')(hB:w.heap.size<=B):Gh w':=by
 intro g hg;obtain⟨c,T,fz,hc,hu⟩:=h g hg;exact⟨c,T,fz,(hb.block g (by have:=(dQ.1 hc).1;omega)).trans hc,hu⟩
theorem zs5 {p:bR}{o:aZ}{t:aM}{x:cN}{ρ:cN->aF}{cs:Array aF}{T:aM}{fz:Nat×Nat}{d:TypeDesc}(hop:o.op=.load t x)(hb:w.heap[b]? =some (.cells cs T fz))(hx:ρ x=.pointer (some ⟨b,0,none⟩))
 (hu:p.underlying t=some d) (hd:d.isRow=true) (hi:(p.info? t).map (·.size)=some cs.size):(aS ρ o).run p w=.ok (.value (.agg cs)) w:=by
 obtain⟨dst,yW,type,pos,after,guard⟩:=o;simp only at hop;subst hop;have:=run_loadAt_mid (P:=p) w b 0 t cs.toList d (λj v hj=>by rw[Nat.zero_add,aJ hb];simpa using hj) hu hd zhg;simp only[aS,hx,Sem.run_bind,this,Result.andThen_ok];rfl
def Qq (f s p:Int)(W:aE)(v:aF)(w':aE):Prop:=v=.agg #[.int .i64 f,.int .i64 s,.int .i64 p]/\Bl W.heap.size W w'
def Qq.tp {f s p:Int}(h:Qq f s p W v w)(T:jZ)(e:Nat):Qq f s p W v (Tt.tp w T e):=⟨h.1,h.2.tp T e⟩
theorem zo8 (f s p:Int)(W:aE)(T:jZ):
 fH aK 12 #[.agg #[.int .i64 f,.int .i64 s,.int .i64 p]] (Tt.tp W T 0) λe w'=>∃v,e=.returned v/\Qq f s p W v w':=by
 refine(zrG f s p _).mono ?_;rintro e w' ⟨he,hb⟩;exact⟨_,he,rfl,((Bl.refl _ W).tp T 0).below hb (aV _)⟩
end Go.Proofs.YtfcjiloojkjaeaaGreatDoor
namespace Go.Proofs.YtfcjiloojkjaeaaGreatDoor
open Go.ChangeShapes Go.WideShapes Go.ChangeAt Go.RowKit Go.Mt Go.Conc Go.Tt
def Rm:List (String×DataW Unit):=[("math/bits.deBruijn32tab",Rows.laid_math_bits_deBruijn32tab),("math/bits.deBruijn64tab",Rows.laid_math_bits_deBruijn64tab),("internal/strconv.uint64pow10",Rows.laid_internal_strconv_uint64pow10)]
def zFs (os:Os)(args:Array aF):laidMetH aK Rm ((aE.doorLaid aK 400 os).forCall (λ_ _=>0) ⟨#[],args,[]⟩).memory:=
 laidMetH_of_parts3 (fuel:=8) (laidMet_of_run' 8 aQ aQ) aQ aQ
def pow_eq:Rows.laid_internal_strconv_uint64pow10 (H:=Unit)=Lib.tabData .u64 Lib.pow10Tab:=aQ
variable {W:aE}
theorem of_laid (h:laidMetH aK Rm W):vF W:=by
 rw[zqI _ _ _ aQ] at h;obtain⟨ps,⟨g0,t0,x9,f0,p0,q0,Ri,zjn,fI,Rf,⟨g1,t1,tK,f1,p1,q1,rG,Gb,oV,Nk,⟨g2,t2,zvn,f2,p2,q2,yA,zqY,wV,Ah,_,_⟩,_⟩,_⟩,_⟩:=h;have e1:aK.globalNamed "internal/strconv.uint64pow10" =some 0:=aQ;have e2:(aK.globals[0]?).map (·.type)=some 170:=aQ;obtain rfl:=cE (e1.symm.trans yA);obtain rfl:=cE (e2.symm.trans zqY);rw[pow_eq] at Ah;unfold vF zfw;rw[wV,<-Lib.cells_of_tab Tryz.underlying170 Tryz.underlying89 aQ aQ Ah]
theorem zfq {nm:String}{g:Nat}{cs:Array aF}(hg:aK.globalNamed nm=some g)(h:W.var? aK nm=some cs):∃T fz,W.heap[g]? =some (.cells cs T fz):=by
 unfold zgD at h;rw[hg] at h;simp only[vN] at h;split at h
 .rename_i c T fz hb
  injection h with h;subst h;exact⟨T,fz,hb⟩
 .cases h
theorem zHX (g:Nat)(h:Bc aK g=true):aK.globalNamed "math/bits.deBruijn32tab" =some g\/aK.globalNamed "math/bits.deBruijn64tab" =some g\/aK.globalNamed "internal/strconv.uint64pow10" =some g:=by
 have sX:((gN aK.globals.size).all λg=>!(Bc aK g)||decide (aK.globalNamed "math/bits.deBruijn32tab" =some g)||decide (aK.globalNamed "math/bits.deBruijn64tab" =some g)||decide (aK.globalNamed "internal/strconv.uint64pow10" =some g))=true:=aQ;have aN:g<Tryz.prog.globals.size:=by
  unfold Bc at h
  cases e:aK.globals[g]? with
  |none=>rw[e] at h;cases h
  |some x=>exact(dQ.1 e).1
 have:=List.all_eq_true.1 sX g (List.mem_range.2 aN);simp only[h,Bool.not_true,Bool.false_or,Er,decide_eq_true_eq] at this;rcases this with(h|h)|h
 .exact .inl h
 .exact .inr (.inl h)
 .exact .inr (.inr h)
theorem zIW (h:laidMetH aK Rm W)(g:Nat)(hg:Bc aK g=true):∃c T fz,W.heap[g]? =some (.cells c T fz):=by
 rw[zqI _ _ _ aQ] at h;obtain⟨ps,⟨g0,t0,x9,f0,p0,q0,Ri,zjn,fI,Rf,⟨g1,t1,tK,f1,p1,q1,rG,Gb,oV,Nk,⟨g2,t2,zvn,f2,p2,q2,yA,zqY,wV,Ah,_,_⟩,_⟩,_⟩,_⟩:=h;rcases zHX g hg with e|e|e
 .exact⟨x9,zfq e fI⟩
 .exact⟨tK,zfq e oV⟩
 .exact⟨zvn,zfq e wV⟩
def Vs (A:Option bL)(b:Nat):Bool:=match A with|some a=>decide (a.block=b)|none=>false
def Ke (A1 A2 A3:Option bL)(b:Nat):Bool:=Bc aK b||Vs A1 b||Vs A2 b||Vs A3 b
variable {A:Option bL}
theorem zhv {b:Nat}(h:Vs A b=true):∃a,A=some a/\a.block=b:=by
 unfold Vs at h
 cases A with
 |none=>cases h
 |some a=>exact⟨a,rfl,of_decide_eq_true h⟩
theorem zAj {A1 A2 A3:Option bL}(hL:laidMetH aK Rm W)(h1:∀a,A1=some a->a.spot=none/\∃c T fz,W.heap[a.block]? =some (.cells c T fz))(h2:∀a,A2=some a->a.spot=none/\∃c T fz,W.heap[a.block]? =some (.cells c T fz))(h3:∀a,A3=some a->a.spot=none/\∃c T fz,W.heap[a.block]? =some (.cells c T fz))(b:Nat)(hb:Ke A1 A2 A3 b=true):∃c T fz,W.heap[b]? =some (.cells c T fz):=by
 unfold Ke at hb;simp only[Er] at hb;rcases hb with((hb|hb)|hb)|hb
 .exact zIW hL b hb
 .obtain⟨a,e,rfl⟩:=zhv hb;exact(h1 a e).2
 .obtain⟨a,e,rfl⟩:=zhv hb;exact(h2 a e).2
 .obtain⟨a,e,rfl⟩:=zhv hb;exact(h3 a e).2
variable {X:Nat->Bool}
theorem zzJ (h:∀a,A=some a->X a.block=true):wP (R0 X) A A:=by
 cases A with
 |none=>exact .none
 |some a=>
  have:=h a rfl;obtain⟨bl,of,sp⟩:=a;exact .some (.mk ⟨rfl,this⟩)
variable {S:aO->Prop}
theorem zHQ {lo hi s n c:Nat}{xs:List aF}(hX:∀b,X b=true->∃c T fz,W.heap[b]? =some (.cells c T fz))(h:∀a,A=some a->X a.block=true)(hs:b7 W lo hi s A n c xs)(hp:∀v∈xs,M2 v):b7 (Bj S X W) 0 (Bj S X W).heap.size s A n c xs:=
 ⟨hs.len,hs.le,hs.cap,λhn=>by
  obtain⟨b,off,e,e1,e2,e3,e4⟩:=hs.at_ hn;exact⟨b,off,e,jO _,by rw[zfb];exact e3,by rw[zfb];exact e3,λj v hv=>zGi hX (h _ e) (e4 j v hv) (hp v (dX hv))⟩⟩
theorem zDO (hX:∀b,X b=true->∃c T fz,W.heap[b]? =some (.cells c T fz))(hT:∀g,Bc aK g=true->X g=true):Gh (Bj S X W):=by
 intro g hg;obtain⟨c,T,fz,hc⟩:=hX g (hT g hg);refine⟨_,_,_,zay hc (hT g hg),λv hv=>?_⟩;obtain⟨u,_,rfl⟩:=Array.mem_map.1 hv;exact(zgp S u).1
theorem gv_ints (S:aO->Prop)(zs:List Int):((zs.map λz=>Qc .u64 z).toArray).map (gv S)=(zs.map λz=>Qc .u64 z).toArray:=by
 apply Ja;simp only[Array.toList_map,List.map_map];exact List.map_congr_left λz _=>(zgp S _).2.2 (.inl ⟨_,_,rfl⟩)
theorem zAU (hX:∀b,X b=true->∃c T fz,W.heap[b]? =some (.cells c T fz))(hT:∀g,Bc aK g=true->X g=true)(h:vF W):vF (Bj S X W):=by
 have e1:aK.globalNamed "internal/strconv.uint64pow10" =some 0:=aQ;have e2:Bc aK 0=true:=aQ;unfold vF zfw at*;obtain⟨T,fz,hc⟩:=zfq e1 h;have kS:=zay (S:=S) hc (hT _ e2);unfold zgD;rw[e1];simp only[vN,kS];exact congrArg some (gv_ints S _)
end Go.Proofs.YtfcjiloojkjaeaaGreatDoor
namespace Go.Proofs.YtfcjiloojkjaeaaGreatDoor
theorem pB {a b:Bool}(h:a=true)(k:b=true):(a&&b)=true:=by rw[h,k];rfl
namespace Facts
def zjg:laidOutB Tryz.pinned.checked.prog=true:=aQ
def mapsRowed:mapsRowed Tryz.pinned.checked.prog=true:=aQ
def stops:(Tryz.pinned.checked.prog.stops==[])=true:=aQ
def stopKnobs:(Tryz.pinned.checked.prog.stopKnobs==[])=true:=aQ
def plainKeys:(Rows.fnExactRunOfficeRow.plainKeys==Tryz.pinned.checked.prog.plainKeys)=true:=aQ
def stopsHeard:Tryz.pinned.checked.prog.stopsHeard=true:=aQ
def mayEnter:Tryz.pinned.checked.prog.mayEnter=true:=aQ
def lifted:(Rows.fnExactRunOfficeRow.lifted==Tryz.pinned.checked.prog.liftsFinal)=true:=aQ
def make:(Tryz.pinned.checked.prog.make==some Rows.fnExactRunOfficeRow.make)=true:=aQ
def mainIs:Tryz.pinned.checked.prog.mainIs=some (Rows.fnExactRunOfficeCard.stood.harness.1,Rows.fnExactRunOfficeCard.stood.harness.2.toList):=aQ
def looks:Rows.fnExactRunOfficeCard.stood.looks=Tryz.pinned.checked.prog.looks []:=aQ
end Facts
end Go.Proofs.YtfcjiloojkjaeaaGreatDoor
namespace Go.Proofs.YtfcjiloojkjaeaaGreatDoor
open Go.RowKit
structure Bytes (w:aE)(g:Nat)(A:Option bL)(n:Nat):Prop where
 le:n<=2000
 at_:0<n->∃b off,A=some ⟨b,off,none⟩/\b<g/\∀j,j<n->∃v:Int,w.cell? ⟨b,off+j,none⟩=some (.int .u8 v)/\0<=v/\v<=255
structure RdX (w:aE)(g:Nat)(A:Option bL)(n c p:Nat):Prop where
 blk:w.heap[g]? =some (.cells #[.slice A n c,.int .i64 (p:Int)] 105)
 bytes:Bytes w g A n
 lt:p<1000000000
def Rd (w:aE)(g:Nat)(A:Option bL)(n c q:Nat):Prop:=∃p,p<=q/\RdX w g A n c p
structure Code (w:aE)(A:Option bL)(n c:Nat):Prop where
 le:n<=c
 cap:c<=maxLen
 at_:0<n->∃b off,A=some ⟨b,off,none⟩/\b<w.heap.size/\∀j,j<n->∃v:Int,w.cell? ⟨b,off+j,none⟩=some (.int .u8 v)/\0<=v/\v<=255
structure DSt (w0:aE)(g:Nat)(A:Option bL)(n c q:Nat)(E s:Nat)(v:aF)(k:Nat)(xs:List aF)(W:aE):Prop where
 rd:Rd W g A n c q
 own:W.ownsRow w0.heap.size E s v k xs
 gr:w0.grownBy W (some g)
 hg:g<w0.heap.size
structure RsSt (w0:aE)(g:Nat)(A:Option bL)(n c q rb:Nat)(T:aM)(zs:Array aF)(W:aE):Prop where
 rd:Rd W g A n c q
 gr:w0.grownBy W (some g)
 hg:g<w0.heap.size
 res:W.heap[rb]? =some (.cells zs T)
 rlo:w0.heap.size<=rb
structure BxSt (w0:aE)(g:Nat)(A:Option bL)(n c q rb b:Nat)(T:aM)(zs cs:Array aF)(W:aE):Prop where
 rs:RsSt w0 g A n c q rb T zs W
 blk:W.heap[b]? =some (.cells cs T)
 lo:w0.heap.size<=b/\b≠rb
section
variable {w0:aE}{g:Nat}{A:Option bL}{n c q rb b:Nat}{T:aM}{zs cs:Array aF}{W W':aE}
end
variable {w:aE}
def zyQ {B:Nat}{W:aE}(h:bU B w W)(o:Obj)(hB:B<=W.heap.size):bU B w (W.alloc o):=h.trans ((dO (eG W.heap.size W) o).mono hB)
theorem zCY (lo hi n c:Nat)(A:Option bL)(xs:List bE)(w:aE)(h:b7 w lo hi 2 A n c (bG xs))(hn:n<=100000):
 fH aK 46 #[.slice A n c] w λe w'=>∃g cl,e=.returned (.slice (some ⟨g,0,none⟩) n cl)/\w'.ownsRow w.heap.size 3 1 (.slice (some ⟨g,0,none⟩) n cl) n (eH (xs.map bE.c))/\bU w.heap.size w w':=by
 have hl:=aD h.callsLen;obtain⟨i0,eY,gX,dZ,jW⟩:=info_parts U9;have HI:=aD (And.intro eY (And.intro gX (And.intro dZ jW)));clear eY gX dZ jW
 go_enter Tryz.func46,Tryz.ntmps46
 go_wp2
 go_loopw [3,4] (λv i wr=>∃(k g cl:Nat),k<=n/\i=.int .i64 k/\v=.slice (some ⟨g,0,none⟩) k cl/\bU w.heap.size w wr/\wr.ownsRow w.heap.size 3 1 (.slice (some ⟨g,0,none⟩) k cl) k (eH ((xs.take k).map bE.c))) (λ_ i _=>n-(intOf i).toNat)
 case atStart=>exact⟨0,w.heap.size,0,jO _,rfl,rfl,dO (eG _ _) _,M9 (aV _) (lP _ _)⟩
 case round=>
  obtain⟨k,g,cl,hk,rfl,rfl,B,cP⟩:=hrel;have Ko:=aD cP;have HB:=aD B;have zj2:=B.size;clear cP;by_cases aN:k<n
  .obtain⟨b,off,d,hA,_,_,h3,eE,fI,oV⟩:=(h.below B).callsAt aN
   subst hA;have HX:=aD eE;clear eE h h3 B;have zoy:(0:Int)<=(k:Int):=aC;have i1:(k:Int)<(n:Int):=aC;obtain⟨eY,gX,dZ,jW⟩:=HI.o;have HH:=aD eY;clear eY
   go_wp2_with (at_builtin;refine zjc _ rfl (.tmp 12) (.tmp 18) 38 rfl w.heap.size 3 i0 (.int .i64 0) 1 8 Tryz.underlying38 HH.o gX dZ jW rfl aH (.slice (some ⟨g,0,none⟩) k cl) k (eH ((xs.take k).map bE.c)) rfl (zX Ko.o ?c1) aP ⟨_,0,none⟩ 1 1 [.int .i64 d.c] rfl rfl ?c2 La ?c5 ?c6 ?c7 ?_;(case c1=>exact λb hb=>rA _ _ b hb);(case c2=>exact aE.news_of_block (cs:=#[.int .i64 d.c]) (mI _ _ aP));(case c5=>unfold maxLen;omega);(case c6=>omega);(case c7=>(simp;omega));intro g1 c1 w1 qE qM B1;have z8:=aD qE;have pU:=aD B1;clear qE qM B1)
   go_roundw
   case rel=>
    refine⟨k+1,g1,c1,aC,nC,rfl,(dO HB.o _).trans pU.o,?_⟩;obtain⟨Wc,he⟩:=jX.1 HX.o;rw[List.take_succ_eq_append_getElem Wc,he,List.map_append];have e:eH ((xs.take k).map bE.c++[d].map bE.c)=eH ((xs.take k).map bE.c)++[.int .i64 d.c]:=by simp[eH]
    rw[e];exact z8.o
   case measure=>simp[intOf];omega
  .have e:k=n:=aC
   subst e;have HT:=aD (show xs.take k=xs by rw[List.take_of_length_le zck]);clear h B;go_wp2;go_ret;have:=Ko.o;rw[HT.o] at this;exact⟨g,cl,rfl,this,HB.o⟩
theorem zBA (o:jN)(lo hi n c:Nat)(A:Option bL)(es:List dG)(w:aE)(h:b7 w lo hi 3 A n c (lM es))(hn:n<=1048576)(Ts:hi<=w.heap.size):
 fH aK 25 #[.agg #[.int .i64 o.ln,.int .i64 o.op,.int .i64 o.pt],.slice A n c] w λx w'=>∃g cl,x=.returned (.slice (some ⟨g,0,none⟩) (y5 o es).back.length cl)/\
  w'.ownsRow w.heap.size 3 1 (.slice (some ⟨g,0,none⟩) (y5 o es).back.length cl) (y5 o es).back.length (eH ((y5 o es).back.map bE.c))/\bU w.heap.size w w':=by
 obtain⟨O,hO⟩:=aU (.cells #[.int .i64 o.ln,.int .i64 o.op,.int .i64 o.pt] 29:Obj);have pU:=aD (dO (eG w.heap.size w) O);have l5:=aD (h.below pU.o);have HO:=aD hO;have hz:(w.alloc O).heap.size=w.heap.size+1:=aP;have HZ:=aD hz;clear h hz hO
 go_enter Tryz.func25,Tryz.ntmps25
 go_upto_region 1 with fail
 rw[<-HO.o];obtain⟨W1,dE⟩:=aU (w.alloc O);have hk:=lP w O;rw[<-dE] at pU l5 HZ hk⊢;rw[HO.o] at hk;have q:=aJ hk;obtain⟨q0,q1,q2⟩:=znS q;clear dE hk q
 go_upto_region 2 with(go_at_call 40;refine(zC9 o lo hi n c A es W1 l5.o hn (by have:=HZ.o;omega)).mono ?_;rintro x w2 ⟨v,rfl,bV,qW⟩;obtain⟨r5,fG⟩:=aU (y5 o es:b6);obtain⟨t5,oY⟩:=aU (j9 o es:Bool);rw[<-fG] at bV⊢;rw[<-oY];have o7:=aD fG;have Cu:=aD oY;have wG:=aD bV;have rN:=aD qW;clear fG oY bV qW)
 have uX:r5.back.length<=100000:=by
  rw[o7.o];unfold y5;split
  .next hk=>
   have Xo:es.length<=60:=by
    have h:=hk;unfold j9 at h;simp at h;exact h.1.2
   have:=(N9 hk es.length (aV _)).2.1.nb;rw[zc4] at this;omega
  .simp[lW]
 have Ik:=aD uX;clear uX
 go_wp2_with ((go_at_call 46;refine(zCY _ _ _ _ _ r5.back _ (y9 (wG.o.alloc _).bk aH) Ik.o).mono ?_;rintro x w4 ⟨g,cl,rfl,ho,Hy⟩;have Yz:=aD ho;have zbu:=aD Hy;clear ho Hy))
 go_ret;have hz:=HZ.o;have s2:=rN.o.size;refine⟨g,cl,?_,?_,?_⟩
 .rw[<-o7.o];rfl
 .rw[<-o7.o]
  exact zgw Yz.o qR
 .exact pU.o.trans ((zyQ (rN.o.mono aC) _ aC).trans (zbu.o.mono qR))
variable {es:List dG}
theorem zFw {o:jN}(h:j9 o es=true):es.length<=60:=by
 unfold j9 at h;simp at h;exact h.1.2
theorem zxP (o:jN)(es:List dG):(F0 o es).length<=3600:=by
 unfold F0 y5;rw[Xt];split
 .next h=>
  have:=(N9 h es.length (aV _)).2.1.nb;rw[zc4] at this;have:=zFw h;omega
 .simp[lW]
theorem zlN {lo E s n:Nat}{v:aF}{xs:List aF}(h:w.ownsRow lo E s v n xs)(hs:0<s)(hl:n<=1048576):∃A m c,v=.slice A m c/\m<=1048576/\qT E s w lo w.heap.size A m c xs:=by
 obtain⟨A,c,e,o⟩:=ziv h hs;exact⟨A,n,c,e,hl,o⟩
theorem zCy (o:jN){lo hi n c:Nat}{A:Option bL}(h:b7 w lo hi 3 A n c (lM es))(hn:n<=1048576)(Ts:hi<=w.heap.size):
 fH aK 25 #[.agg #[.int .i64 o.ln,.int .i64 o.op,.int .i64 o.pt],.slice A n c] w λx w'=>∃A n c,x=.returned (.slice A n c)/\n<=1048576/\qT 3 1 w' w.heap.size w'.heap.size A n c (eH (F0 o es))/\bU w.heap.size w w':=by
 refine(zBA o lo hi n c A es w h hn Ts).mono ?_;rintro x w' ⟨g,c',rfl,hr,hb⟩;have hl:(y5 o es).back.length<=1048576:=by have:=zxP o es;unfold F0 at this;rw[Xt] at this;omega
 obtain⟨A',m,c2,e,l,ow⟩:=zlN hr aH hl;injection e with e1 e2 e3;subst e1 e2 e3;exact⟨_,_,_,rfl,l,ow,hb⟩
end Go.Proofs.YtfcjiloojkjaeaaGreatDoor
namespace Go.Proofs.YtfcjiloojkjaeaaGreatDoor
open Go.RowKit Go.Mt Go.Conc Go.Tt
def zc1:Go.Code:=(Tryz.f5.body).getD .skip
def rLCR7:Go.Code:=match zc1 with| .seq _ (.seq _ (.seq _ (.seq _ (.seq _ (.seq _ (.seq (a) _))))))=>a|_=>.skip
def rLCR24:Go.Code:=match zc1 with| .seq _ (.seq _ (.seq _ (.seq _ (.seq _ (.seq _ (.seq _ (.seq _ (.seq _ (.seq _ (.seq _ (.seq _ (.seq _ (.seq _ (.seq _ (.seq _ (.seq _ (.seq _ (.seq (a) _))))))))))))))))))=>a|_=>.skip
def zea:Array Oper:=match rLCR7 with| .region _ ops _=>ops|_=>#[]
abbrev oLCR7_1:Oper:=⟨some 26,.call ⟨.value (.func 12),#[.tmp 25],#[23]⟩,29,"exact.go:3345",#[⟨0,.data⟩],none⟩
def zx4:zea[1]? =some oLCR7_1:=rfl
abbrev zxl:Oper:=⟨some 28,.call ⟨.value (.func 26),#[.tmp 26,.tmp 27],#[29,31]⟩,38,"exact.go:3345",#[⟨1,.data⟩,⟨2,.data⟩,⟨1,.chain⟩],none⟩
def zwA:zea[3]? =some zxl:=rfl
def zaN:Array Oper:=match rLCR24 with| .region _ ops _=>ops|_=>#[]
abbrev zGe:Oper:=⟨some 61,.call ⟨.value (.func 12),#[.tmp 60],#[23]⟩,29,"exact.go:3367",#[⟨0,.data⟩],none⟩
def zwb:zaN[1]? =some zGe:=rfl
abbrev zBg:Oper:=⟨some 63,.call ⟨.value (.func 13),#[.tmp 62],#[24]⟩,31,"exact.go:3367",#[⟨2,.data⟩,⟨1,.chain⟩],none⟩
def zvb:zaN[3]? =some zBg:=rfl
abbrev zrP:Oper:=⟨some 64,.call ⟨.value (.func 26),#[.tmp 61,.tmp 63],#[29,31]⟩,38,"exact.go:3367",#[⟨1,.data⟩,⟨3,.data⟩,⟨3,.chain⟩],none⟩
def zpy:zaN[4]? =some zrP:=rfl
section
variable {St:Nat->Prop}{W0:aE}{Post:aF->aE->Prop}
theorem zJj {w:aE}{A1:Option bL}{n1 c1:Nat}{o:jN}{es:List dG}(h1:b7 w 0 w.heap.size 3 A1 n1 c1 (lM es))(Nk:∀d∈es,d.k.size<=maxLen)(hT:vF w)(Dq:Gh w)(hP:∀(R:Pr) (W:aE),Kp W0 R St W->Post (.bool true) W):
 JS St W0 Post ⟨5,#[.agg #[.int .i64 o.ln,.int .i64 o.op,.int .i64 o.pt],.slice A1 n1 c1,aA,aA,aA,aA,aA,aA,aA,aA,aA,aA,aA,aA,aA,aA,aA,aA,aA,aA,aA,aA,aA,aA,aA,aA,aA,aA,aA,aA,aA,aA,aA,aA,aA,aA,aA,aA,aA,aA,aA,aA,aA,aA,aA,aA,aA,aA,aA,aA,aA,aA,aA,aA,aA,aA,aA,aA,aA,aA,aA,aA,aA,aA,aA,aA,aA,aA,aA,aA,aA,aA,aA,aA,aA,aA,aA],[.code zc1],false⟩ [] w:=by
 have L:=lvF;have cT:oZ olL 5=false:=aQ;have Oa:∀(tmps:Array aF) (td:List eF) (w':aE),tmps.getD 4 aA=.bool true->JS St W0 Post ⟨5,tmps,td,true⟩ [] w':=by
  intro tmps td w' h6;refine JO.fin L (t:=4) rfl Tryz.func5 rfl aQ λK R W v' hv hk=>?_;have J2:VR (SF gG) K R (tmps.getD 4 aA) v':=hv;rw[h6] at J2;cases J2;exact hP R W hk
 have B:=Bl.refl w.heap.size w;have zGh:=aD (beq_self_eq_true (es));have zak:=aD (beq_self_eq_true (F0 o es));have zo6:=aD (show(F0 o es).length<=1048576 from eM (zxP o es) aC);refine JO.sq L cT ?_;refine JO.pQ L cT (λTp Q HQ=>?_);replace h1:=h1.tp Tp 0;replace B:=B.tp Tp 0;have s1:w.heap.size<=(Tt.tp w Tp 0).heap.size:=aV _;generalize Tt.tp w Tp 0=w1 at B h1 s1⊢;go_wp2;refine HQ.o _ _ ?_;clear HQ;obtain⟨g2,yA⟩:=aU w1.heap.size;have s2:w1.heap.size<=(w1.alloc (.cells #[.int .i64 o.ln,.int .i64 o.op,.int .i64 o.pt] 23)).heap.size:=aP;replace B:=B.below' (dO (eG _ _) (.cells #[.int .i64 o.ln,.int .i64 o.op,.int .i64 o.pt] 23)) aC;replace h1:=h1.alloc (.cells #[.int .i64 o.ln,.int .i64 o.op,.int .i64 o.pt] 23);have cJ:(w1.alloc (.cells #[.int .i64 o.ln,.int .i64 o.op,.int .i64 o.pt] 23)).heap[g2]? =some (.cells #[.int .i64 o.ln,.int .i64 o.op,.int .i64 o.pt] 23):=by rw[yA];exact Ef w1 _
 rw[<-yA];generalize w1.alloc (.cells #[.int .i64 o.ln,.int .i64 o.op,.int .i64 o.pt] 23)=w2 at B h1 s2 cJ⊢;have zK1:w.heap.size<=g2:=aC;have zLX:=gA cJ;clear yA;refine JO.sq L cT ?_;refine JO.pQ L cT (λTp Q HQ=>?_);replace h1:=h1.tp Tp 0;replace cJ:=kK cJ Tp 0;replace B:=B.tp Tp 0;have s3:w2.heap.size<=(Tt.tp w2 Tp 0).heap.size:=aV _;generalize Tt.tp w2 Tp 0=w3 at B h1 cJ s3⊢;go_wp2;refine HQ.o _ _ ?_;clear HQ;refine JO.sq L cT ?_;refine JO.pQ L cT (λTp Q HQ=>?_);replace h1:=h1.tp Tp 0;replace cJ:=kK cJ Tp 0;replace B:=B.tp Tp 0;have s4:w3.heap.size<=(Tt.tp w3 Tp 0).heap.size:=aV _;generalize Tt.tp w3 Tp 0=w4 at B h1 cJ s4⊢;have zyX:True:=trivial
 go_wp2_with (go_at_call 10;clear zyX;refine(zz8 (1048576) h1 Nk aC aC).mono ?_;rintro e w5 ⟨rfl,b5⟩)
 have s5:=b5.size;replace h1:=h1.below b5;replace cJ:=(eI b5 cJ).1;replace B:=B.below' b5 aC;clear b5;go_wp2;refine HQ.o _ _ ?_;clear HQ;refine JO.sq L cT ?_;refine JO.sq L cT ?_;refine JO.pQ L cT (λTp Q HQ=>?_);replace h1:=h1.tp Tp 0;replace cJ:=kK cJ Tp 0;replace B:=B.tp Tp 0;have s6:w5.heap.size<=(Tt.tp w5 Tp 0).heap.size:=aV _;generalize Tt.tp w5 Tp 0=w6 at B h1 cJ s6⊢;go_wp2;refine HQ.o _ _ ?_;clear HQ;by_cases ztn:Jg (1048576) n1 es<0
 .refine JO.cd L true cT ?_ (by show Nq (decide _)=_;rw[decide_eq_true ztn])
  refine JO.sq L cT ?_;refine JO.pQ L cT (λTp Q HQ=>?_);go_wp2;refine HQ.o _ _ ?_;refine JO.rt L cT ?_;exact Oa _ _ _ rfl
 refine JO.cd L false cT ?_ (by show Nq (decide _)=_;rw[decide_eq_false ztn]);refine JO.sk L cT ?_;have l1:n1<=1048576:=(zFX (by omega:0<=Jg (1048576) n1 es) aC).1;have zKC:Jg (1048576) n1 es<=1048576:=Int.le_trans (zIJ aC) aC;refine JO.sq L cT ?_;refine JO.pQ L cT (λTp Q HQ=>?_);replace h1:=h1.tp Tp 0;replace cJ:=kK cJ Tp 0;replace B:=B.tp Tp 0;have s7:w6.heap.size<=(Tt.tp w6 Tp 0).heap.size:=aV _;generalize Tt.tp w6 Tp 0=w7 at B h1 cJ s7⊢;have zLx:=aJ cJ 0;have zMY:=aJ cJ 1;have zKR:=aJ cJ 2;have zGK:True:=trivial
 go_wp2_with (go_at_call 12;clear zGK;refine(zrG o.ln o.op o.pt _).mono ?_;rintro e w8 ⟨rfl,b8⟩)
 have s8:=b8.size;replace h1:=h1.below b8;replace cJ:=(eI b8 cJ).1;replace B:=B.below' b8 aC;clear b8;have zBV:True:=trivial
 go_wp2_with (go_at_call 13;clear zBV;refine(zgI h1 l1).mono ?_;rintro e w9 ⟨zLO,zKV,rfl,zL0,dM,zMF,eB,b9⟩)
 have s9:=b9.size;replace h1:=h1.below b9;replace cJ:=(eI b9 cJ).1;replace B:=B.below' b9 aC;clear b9;have zLB:=gA dM;have zCZ:True:=trivial
 go_wp2_with (go_at_call 25;clear zCZ;refine(zCy o eB.slc l1 aC).mono ?_;rintro e vU ⟨RA,Rn,Rc,rfl,Rl,R,Qv⟩)
 have zMK:=Qv.size;replace h1:=h1.below Qv;replace cJ:=(eI Qv cJ).1;replace eB:=eB.below Qv;replace dM:=(eI Qv dM).1;replace B:=B.below' Qv aC;clear Qv;go_wp2;refine HQ.o _ _ ?_;clear HQ;refine JO.sq L cT ?_;refine JO.pQ L cT (λTp Q HQ=>?_);replace h1:=h1.tp Tp 0;replace cJ:=kK cJ Tp 0;replace eB:=eB.tp Tp 0;replace dM:=kK dM Tp 0;replace R:=R.tp Tp 0;replace B:=B.tp Tp 0;have zFW:vU.heap.size<=(Tt.tp vU Tp 0).heap.size:=aV _;generalize Tt.tp vU Tp 0=Cr at B h1 cJ eB dM R zFW⊢;have zyH:True:=trivial
 go_wp2_with (go_at_call 13;clear zyH;refine(zgI h1 l1).mono ?_;rintro e Kb ⟨zr0,zKG,rfl,zKc,rP,zLW,rQ,Ol⟩)
 have zNa:=Ol.size;replace h1:=h1.below Ol;replace cJ:=(eI Ol cJ).1;replace eB:=eB.below Ol;replace dM:=(eI Ol dM).1;replace R:=R.below Ol;replace B:=B.below' Ol aC;clear Ol;have zLf:=gA rP;go_wp2;refine HQ.o _ _ ?_;clear HQ;refine JO.sq L cT ?_;generalize iR:([Nu _]:List eF)=K0;refine JO.rn L cT zea [0,1,2,3,4] ?_;refine JO.mv L cT (.agg #[.int .i64 o.ln,.int .i64 o.op,.int .i64 o.pt]) ?_ (hx:=(λT' e=>zs5 (w:=Tt.tp Kb T' e) (t:=23) (x:=.tmp 2) (b:=g2) rfl cJ rfl zo5 rfl aQ));refine JO.callV L (xs:=#[.agg #[.int .i64 o.ln,.int .i64 o.op,.int .i64 o.pt]]) (Q:=Qq o.ln o.op o.pt Kb) rfl rfl zx4 rfl rfl aQ cT aQ Zd (λv w' T e h=>Qq.tp h T e) (zo8 o.ln o.op o.pt Kb) (λv zlJ hq=>?_);obtain⟨rfl,Mg⟩:=hq;have zK5:=Mg.size;replace h1:=h1.bls Mg (aV _);replace cJ:=Az Mg cJ (gA cJ);replace eB:=eB.bls Mg (aV _);replace dM:=Az Mg dM (gA dM);replace R:=R.bls Mg (aV _);replace rQ:=rQ.bls Mg (aV _);replace rP:=Az Mg rP (gA rP);replace B:=B.then Mg aC;clear Mg;simp only[Fm.fin,zx4,vN,gI,dW,dS];refine JO.mv L cT (.slice (some ⟨zr0,0,none⟩) n1 n1) ?_;refine zn8 (ops:=zea) (i:=3) (oo:=zxl) (A:=some ⟨zr0,0,none⟩) (o:=o) (es:=es) rfl cT rfl zwA rfl rfl Zd (rQ.slc.wide (jO _) aC) l1 (hT.bls B (aV _)) (Dq.bls B (aV _)) (λzdD zMo L4 zrN=>?_);have zLL:=L4.size;replace h1:=h1.bls L4 (aV _);replace cJ:=Az L4 cJ (gA cJ);replace eB:=eB.bls L4 (aV _);replace dM:=Az L4 dM (gA dM);replace R:=R.bls L4 (aV _);replace rQ:=rQ.bls L4 (aV _);replace rP:=Az L4 rP (gA rP);replace B:=B.then L4 aC;clear L4;obtain⟨zyW,zBO,zyI,rfl,zcy,G3⟩:=zlN zrN aH zo6.o;clear zrN;simp only[Fm.fin,zwA,vN,gI,dW,dS];refine JO.mv L cT (.slice zyW zBO zyI) ?_;refine JO.regEnd L cT ?_;subst iR;refine JO.sq L cT ?_;refine JO.pQ L cT (λTp Q HQ=>?_);replace h1:=h1.tp Tp 0;replace cJ:=kK cJ Tp 0;replace eB:=eB.tp Tp 0;replace dM:=kK dM Tp 0;replace R:=R.tp Tp 0;replace rQ:=rQ.tp Tp 0;replace rP:=kK rP Tp 0;replace G3:=G3.tp Tp 0;replace B:=B.tp Tp 0;have zyt:zdD.heap.size<=(Tt.tp zdD Tp 0).heap.size:=aV _;generalize Tt.tp zdD Tp 0=w15 at B h1 cJ eB dM R rQ rP G3 zyt⊢;have zCO:True:=trivial
 go_wp2_with (go_at_call 22;clear zCO;refine(ziz G3.slc R.slc zcy Rl).mono ?_;rintro e zlS ⟨rfl,Je⟩;rw[zak.o])
 have zKM:=Je.size;replace h1:=h1.below Je;replace cJ:=(eI Je cJ).1;replace eB:=eB.below Je;replace dM:=(eI Je dM).1;replace R:=R.below Je;replace rQ:=rQ.below Je;replace rP:=(eI Je rP).1;replace G3:=G3.below Je;replace B:=B.below' Je aC;clear Je;go_wp2;refine HQ.o _ _ ?_;clear HQ;refine JO.sq L cT ?_;refine JO.pQ L cT (λTp Q HQ=>?_);replace h1:=h1.tp Tp 0;replace cJ:=kK cJ Tp 0;replace eB:=eB.tp Tp 0;replace dM:=kK dM Tp 0;replace R:=R.tp Tp 0;replace rQ:=rQ.tp Tp 0;replace rP:=kK rP Tp 0;replace G3:=G3.tp Tp 0;replace B:=B.tp Tp 0;have zHT:zlS.heap.size<=(Tt.tp zlS Tp 0).heap.size:=aV _;generalize Tt.tp zlS Tp 0=w17 at B h1 cJ eB dM R rQ rP G3 zHT⊢;have zJC:True:=trivial
 go_wp2_with (go_at_call 13;clear zJC;refine(zgI h1 l1).mono ?_;rintro e zJ6 ⟨zKO,zJR,rfl,zMQ,gO,zK2,iQ,Ic⟩)
 have zKq:=Ic.size;replace h1:=h1.below Ic;replace cJ:=(eI Ic cJ).1;replace eB:=eB.below Ic;replace dM:=(eI Ic dM).1;replace R:=R.below Ic;replace rQ:=rQ.below Ic;replace rP:=(eI Ic rP).1;replace G3:=G3.below Ic;replace B:=B.below' Ic aC;clear Ic;have zKF:=gA gO;have zDK:True:=trivial
 go_wp2_with (go_at_call 16;clear zDK;refine(zEE rQ.slc iQ.slc l1 l1).mono ?_;rintro e zmi ⟨rfl,Ec⟩;rw[zGh.o])
 have zKz:=Ec.size;replace h1:=h1.below Ec;replace cJ:=(eI Ec cJ).1;replace eB:=eB.below Ec;replace dM:=(eI Ec dM).1;replace R:=R.below Ec;replace rQ:=rQ.below Ec;replace rP:=(eI Ec rP).1;replace G3:=G3.below Ec;replace iQ:=iQ.below Ec;replace gO:=(eI Ec gO).1;replace B:=B.below' Ec aC;clear Ec;go_wp2;refine HQ.o _ _ ?_;clear HQ;refine JO.sq L cT ?_;refine JO.pQ L cT (λTp Q HQ=>?_);replace h1:=h1.tp Tp 0;replace cJ:=kK cJ Tp 0;replace eB:=eB.tp Tp 0;replace dM:=kK dM Tp 0;replace R:=R.tp Tp 0;replace rQ:=rQ.tp Tp 0;replace rP:=kK rP Tp 0;replace G3:=G3.tp Tp 0;replace iQ:=iQ.tp Tp 0;replace gO:=kK gO Tp 0;replace B:=B.tp Tp 0;have zI4:zmi.heap.size<=(Tt.tp zmi Tp 0).heap.size:=aV _;generalize Tt.tp zmi Tp 0=w20 at B h1 cJ eB dM R rQ rP G3 iQ gO zI4⊢;go_wp2;refine HQ.o _ _ ?_;clear HQ;refine JO.sq L cT ?_;refine JO.pQ L cT (λTp Q HQ=>?_);replace h1:=h1.tp Tp 0;replace cJ:=kK cJ Tp 0;replace eB:=eB.tp Tp 0;replace dM:=kK dM Tp 0;replace R:=R.tp Tp 0;replace rQ:=rQ.tp Tp 0;replace rP:=kK rP Tp 0;replace G3:=G3.tp Tp 0;replace iQ:=iQ.tp Tp 0;replace gO:=kK gO Tp 0;replace B:=B.tp Tp 0;have zzc:w20.heap.size<=(Tt.tp w20 Tp 0).heap.size:=aV _;generalize Tt.tp w20 Tp 0=w21 at B h1 cJ eB dM R rQ rP G3 iQ gO zzc⊢;have zIU:True:=trivial
 go_wp2_with (go_at_call 17;clear zIU;refine(zCW (1) rQ l1 aC).mono ?_;rintro e zlr ⟨rfl,H8⟩)
 have zMh:=H8.size;clear rQ;clear rP;replace h1:=h1.chg H8 aC;replace cJ:=Y5 cJ H8 aC;replace eB:=eB.chg H8 aC;replace dM:=Y5 dM H8 aC;replace R:=R.chg H8 aC;replace G3:=G3.chg H8 aC;replace iQ:=iQ.chg H8 aC;replace gO:=Y5 gO H8 aC;replace B:=B.chg H8 aC aC;clear H8;go_wp2;refine HQ.o _ _ ?_;clear HQ;refine JO.sq L cT ?_;refine JO.pQ L cT (λTp Q HQ=>?_);replace h1:=h1.tp Tp 0;replace cJ:=kK cJ Tp 0;replace eB:=eB.tp Tp 0;replace dM:=kK dM Tp 0;replace R:=R.tp Tp 0;replace G3:=G3.tp Tp 0;replace iQ:=iQ.tp Tp 0;replace gO:=kK gO Tp 0;replace B:=B.tp Tp 0;have zGa:zlr.heap.size<=(Tt.tp zlr Tp 0).heap.size:=aV _;generalize Tt.tp zlr Tp 0=w23 at B h1 cJ eB dM R G3 iQ gO zGa⊢;have zHL:True:=trivial
 go_wp2_with (go_at_call 22;clear zHL;refine(ziz G3.slc R.slc zcy Rl).mono ?_;rintro e ziQ ⟨rfl,Hu⟩;rw[zak.o])
 have zMS:=Hu.size;replace h1:=h1.below Hu;replace cJ:=(eI Hu cJ).1;replace eB:=eB.below Hu;replace dM:=(eI Hu dM).1;replace R:=R.below Hu;replace G3:=G3.below Hu;replace iQ:=iQ.below Hu;replace gO:=(eI Hu gO).1;replace B:=B.below' Hu aC;clear Hu;go_wp2;refine HQ.o _ _ ?_;clear HQ;refine JO.sq L cT ?_;refine JO.pQ L cT (λTp Q HQ=>?_);replace h1:=h1.tp Tp 0;replace cJ:=kK cJ Tp 0;replace eB:=eB.tp Tp 0;replace dM:=kK dM Tp 0;replace R:=R.tp Tp 0;replace G3:=G3.tp Tp 0;replace iQ:=iQ.tp Tp 0;replace gO:=kK gO Tp 0;replace B:=B.tp Tp 0;have zz1:ziQ.heap.size<=(Tt.tp ziQ Tp 0).heap.size:=aV _;generalize Tt.tp ziQ Tp 0=w25 at B h1 cJ eB dM R G3 iQ gO zz1⊢;go_wp2;refine HQ.o _ _ ?_;clear HQ;refine JO.sq L cT ?_;refine JO.pQ L cT (λTp Q HQ=>?_);replace h1:=h1.tp Tp 0;replace cJ:=kK cJ Tp 0;replace eB:=eB.tp Tp 0;replace dM:=kK dM Tp 0;replace R:=R.tp Tp 0;replace G3:=G3.tp Tp 0;replace iQ:=iQ.tp Tp 0;replace gO:=kK gO Tp 0;replace B:=B.tp Tp 0;have zHc:w25.heap.size<=(Tt.tp w25 Tp 0).heap.size:=aV _;generalize Tt.tp w25 Tp 0=w26 at B h1 cJ eB dM R G3 iQ gO zHc⊢;have zJr:True:=trivial
 go_wp2_with (go_at_call 23;clear zJr;refine(zA5 (1) G3 zcy aC).mono ?_;rintro e zm9 ⟨rfl,pZ,Kl⟩)
 have zLk:=Kl.size;clear G3;replace h1:=h1.chg Kl aC;replace cJ:=Y5 cJ Kl aC;replace eB:=eB.chg Kl aC;replace dM:=Y5 dM Kl aC;replace R:=R.chg Kl aC;replace iQ:=iQ.chg Kl aC;replace gO:=Y5 gO Kl aC;replace B:=B.chg Kl aC aC;clear Kl;go_wp2;refine HQ.o _ _ ?_;clear HQ;refine JO.sq L cT ?_;refine JO.pQ L cT (λTp Q HQ=>?_);replace h1:=h1.tp Tp 0;replace cJ:=kK cJ Tp 0;replace eB:=eB.tp Tp 0;replace dM:=kK dM Tp 0;replace R:=R.tp Tp 0;replace iQ:=iQ.tp Tp 0;replace gO:=kK gO Tp 0;replace pZ:=pZ.tp Tp 0;replace B:=B.tp Tp 0;have zyq:zm9.heap.size<=(Tt.tp zm9 Tp 0).heap.size:=aV _;generalize Tt.tp zm9 Tp 0=w28 at B h1 cJ eB dM R iQ gO pZ zyq⊢;go_wp2;refine HQ.o _ _ ?_;clear HQ;refine JO.sq L cT ?_;refine JO.pQ L cT (λTp Q HQ=>?_);replace h1:=h1.tp Tp 0;replace cJ:=kK cJ Tp 0;replace eB:=eB.tp Tp 0;replace dM:=kK dM Tp 0;replace R:=R.tp Tp 0;replace iQ:=iQ.tp Tp 0;replace gO:=kK gO Tp 0;replace pZ:=pZ.tp Tp 0;replace B:=B.tp Tp 0;have zBZ:w28.heap.size<=(Tt.tp w28 Tp 0).heap.size:=aV _;generalize Tt.tp w28 Tp 0=w29 at B h1 cJ eB dM R iQ gO pZ zBZ⊢;have zyw:True:=trivial
 go_wp2_with (go_at_call 24;clear zyw;refine(zus 1 pZ zcy aC).mono ?_;rintro e zjW ⟨rfl,It⟩)
 have zML:=It.size;replace h1:=h1.below It;replace cJ:=(eI It cJ).1;replace eB:=eB.below It;replace dM:=(eI It dM).1;replace R:=R.below It;replace iQ:=iQ.below It;replace gO:=(eI It gO).1;replace pZ:=pZ.below It;replace B:=B.below' It aC;clear It;go_wp2;refine HQ.o _ _ ?_;clear HQ;refine JO.sq L cT ?_;refine JO.pQ L cT (λTp Q HQ=>?_);replace h1:=h1.tp Tp 0;replace cJ:=kK cJ Tp 0;replace eB:=eB.tp Tp 0;replace dM:=kK dM Tp 0;replace R:=R.tp Tp 0;replace iQ:=iQ.tp Tp 0;replace gO:=kK gO Tp 0;replace pZ:=pZ.tp Tp 0;replace B:=B.tp Tp 0;have zIi:zjW.heap.size<=(Tt.tp zjW Tp 0).heap.size:=aV _;generalize Tt.tp zjW Tp 0=w31 at B h1 cJ eB dM R iQ gO pZ zIi⊢;go_wp2;refine HQ.o _ _ ?_;clear HQ;refine JO.sq L cT ?_;refine JO.pQ L cT (λTp Q HQ=>?_);replace h1:=h1.tp Tp 0;replace cJ:=kK cJ Tp 0;replace eB:=eB.tp Tp 0;replace dM:=kK dM Tp 0;replace R:=R.tp Tp 0;replace iQ:=iQ.tp Tp 0;replace gO:=kK gO Tp 0;replace pZ:=pZ.tp Tp 0;replace B:=B.tp Tp 0;have zAG:w31.heap.size<=(Tt.tp w31 Tp 0).heap.size:=aV _;generalize Tt.tp w31 Tp 0=w32 at B h1 cJ eB dM R iQ gO pZ zAG⊢;go_wp2;refine HQ.o _ _ ?_;clear HQ;refine JO.sq L cT ?_;generalize iR:([Nu _]:List eF)=K0;refine JO.rn L cT zaN [0,1,2,3,4,5] ?_;refine JO.mv L cT (.agg #[.int .i64 o.ln,.int .i64 o.op,.int .i64 o.pt]) ?_ (hx:=(λT' e=>zs5 (w:=Tt.tp w32 T' e) (t:=23) (x:=.tmp 2) (b:=g2) rfl cJ rfl zo5 rfl aQ));refine JO.callV L (xs:=#[.agg #[.int .i64 o.ln,.int .i64 o.op,.int .i64 o.pt]]) (Q:=Qq o.ln o.op o.pt w32) rfl rfl zwb rfl rfl aQ cT aQ Zd (λv w' T e h=>Qq.tp h T e) (zo8 o.ln o.op o.pt w32) (λv zzy hq=>?_);obtain⟨rfl,I9⟩:=hq;have zM0:=I9.size;replace h1:=h1.bls I9 (aV _);replace cJ:=Az I9 cJ (gA cJ);replace eB:=eB.bls I9 (aV _);replace dM:=Az I9 dM (gA dM);replace R:=R.bls I9 (aV _);replace iQ:=iQ.bls I9 (aV _);replace gO:=Az I9 gO (gA gO);replace pZ:=pZ.bls I9 (aV _);replace B:=B.then I9 aC;clear I9;simp only[Fm.fin,zwb,vN,gI,dW,dS];refine JO.mv L cT (.slice A1 n1 c1) ?_;refine JO.callV L (xs:=#[.slice A1 n1 c1]) (Q:=ToV 54 3 (lM es) zzy n1) rfl rfl zvb rfl rfl aQ cT aQ Zd (λv w' T e h=>ToV.tp h T e) (zAl h1 l1) (λv zK3 hq=>?_);obtain⟨zz4,zKd,rfl,zKi,Hq,zMn,Lc,Hp⟩:=hq;have zKK:=Hp.size;replace h1:=h1.bls Hp (aV _);replace cJ:=Az Hp cJ (gA cJ);replace eB:=eB.bls Hp (aV _);replace dM:=Az Hp dM (gA dM);replace R:=R.bls Hp (aV _);replace iQ:=iQ.bls Hp (aV _);replace gO:=Az Hp gO (gA gO);replace pZ:=pZ.bls Hp (aV _);replace B:=B.then Hp aC;clear Hp;have zLU:=gA Hq;simp only[Fm.fin,zvb,vN,gI,dW,dS];refine zn8 (ops:=zaN) (i:=4) (oo:=zrP) (A:=some ⟨zz4,0,none⟩) (o:=o) (es:=es) rfl cT rfl zpy rfl rfl Zd (Lc.slc.wide (jO _) aC) l1 (hT.bls B (aV _)) (Dq.bls B (aV _)) (λzl7 zLQ E9 zo0=>?_);have zKx:=E9.size;replace h1:=h1.bls E9 (aV _);replace cJ:=Az E9 cJ (gA cJ);replace eB:=eB.bls E9 (aV _);replace dM:=Az E9 dM (gA dM);replace R:=R.bls E9 (aV _);replace iQ:=iQ.bls E9 (aV _);replace gO:=Az E9 gO (gA gO);replace pZ:=pZ.bls E9 (aV _);replace Lc:=Lc.bls E9 (aV _);replace Hq:=Az E9 Hq (gA Hq);replace B:=B.then E9 aC;clear E9;obtain⟨zFi,zyr,zIr,rfl,zEa,G8⟩:=zlN zo0 aH zo6.o;clear zo0;simp only[Fm.fin,zpy,vN,gI,dW,dS];refine JO.mv L cT (.slice zFi zyr zIr) ?_;refine JO.regEnd L cT ?_;subst iR;refine JO.tQ L cT (λTp Q HQ=>?_);replace h1:=h1.tp Tp 0;replace cJ:=kK cJ Tp 0;replace eB:=eB.tp Tp 0;replace dM:=kK dM Tp 0;replace R:=R.tp Tp 0;replace iQ:=iQ.tp Tp 0;replace gO:=kK gO Tp 0;replace pZ:=pZ.tp Tp 0;replace Lc:=Lc.tp Tp 0;replace Hq:=kK Hq Tp 0;replace G8:=G8.tp Tp 0;replace B:=B.tp Tp 0;have zEo:zl7.heap.size<=(Tt.tp zl7 Tp 0).heap.size:=aV _;generalize Tt.tp zl7 Tp 0=w36 at B h1 cJ eB dM R iQ gO pZ Lc Hq G8 zEo⊢;have zH7:True:=trivial
 go_wp2_with (go_at_call 22;clear zH7;refine(ziz G8.slc R.slc zEa Rl).mono ?_;rintro e zLe ⟨rfl,Dg⟩;rw[zak.o])
 have zLj:=Dg.size;replace h1:=h1.below Dg;replace cJ:=(eI Dg cJ).1;replace eB:=eB.below Dg;replace dM:=(eI Dg dM).1;replace R:=R.below Dg;replace iQ:=iQ.below Dg;replace gO:=(eI Dg gO).1;replace pZ:=pZ.below Dg;replace Lc:=Lc.below Dg;replace Hq:=(eI Dg Hq).1;replace G8:=G8.below Dg;replace B:=B.below' Dg aC;clear Dg;have zG5:True:=trivial
 go_wp2_with (go_at_call 24;clear zG5;refine(zus 1 pZ zcy aC).mono ?_;rintro e zJZ ⟨rfl,C3⟩)
 have zL5:=C3.size;replace h1:=h1.below C3;replace cJ:=(eI C3 cJ).1;replace eB:=eB.below C3;replace dM:=(eI C3 dM).1;replace R:=R.below C3;replace iQ:=iQ.below C3;replace gO:=(eI C3 gO).1;replace pZ:=pZ.below C3;replace Lc:=Lc.below C3;replace Hq:=(eI C3 Hq).1;replace G8:=G8.below C3;replace B:=B.below' C3 aC;clear C3;go_wp2;refine HQ.o _ _ (λtodo=>?_);exact Oa _ _ _ rfl
end
end Go.Proofs.YtfcjiloojkjaeaaGreatDoor
namespace Go.Proofs.YtfcjiloojkjaeaaGreatDoor
theorem zAY (Lk:Looks){p:Pinned}{s:OpenSpec}{c:OpenClaim}(kinds:List LaidKind)(znv:Bool)(S6:Bool×String)(lk:Bool)
 (hc:c.holds p s) (hw:c.wfByText s=true) (zFH:c.laidByTextAt Lk p kinds znv)
 (aY:c.start=.entering) (nJ:c.noBlocks=false/\c.again=false) (hm:p.checked.prog.mainIs=some (S6.1,S6.2.toList)) (hn:(!S6.1&&S6.2.isEmpty&& !lk)=false)
 (hl:∀f fn,p.checked.prog.funcNamed c.func=some f->p.checked.prog.funcs[f]? =some fn->lk=p.checked.prog.looks []/\∀(j:Nat) t,fn.params[j]? =some t->p.checked.prog.wantsStandIn t=false)
 (hg:true=c.goesBy p.checked.prog):
 Claim7.holds p (.plain s) {stood:={row:=c,standIns:=[],harness:=S6,looks:=lk},kinds:=[],alts:=[],goes:=true,laidByText:=true,laidKinds:=kinds,laidTests:=znv,laidLooks:=Lk}:=by
 have h6:∀r:OpenClaim,zw9 {stood:={row:=r,standIns:=[],harness:=S6,looks:=lk},kinds:=[]}=false:=λr=>by simpa[zw9] using hn
 have h:=Claim7.tied_new_at Lk kinds znv (Claim7.new_of_sixth hc S6 lk aY nJ hm (h6 c) hl) hw;exact⟨h,(λD hD=>by cases hD),zFH,(λh=>by cases h),hg⟩
end Go.Proofs.YtfcjiloojkjaeaaGreatDoor
