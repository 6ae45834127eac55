/-
  Part 6 of what stands behind the last text.
-/
import Derived.Lib.AppendIntMem
import Derived.LaidMore
import Derived.Test.YtfcjiloojkjaeaaGreatDoorCards
import Derived.Deep.CutBlock
import Derived.SevenTiedAt
import Derived.Test.YtfcjiloojkjaeaaGreatDoorRunOffPq5
set_option linter.all false
set_option maxHeartbeats 16000000
set_option maxRecDepth 100000
open Array renaming ext'→Iq,getD_eq_getD_getElem?→tZ,getElem?_eq_getElem→mK,getElem?_eq_some_iff→dO,getElem?_map→x7,getElem?_setIfInBounds_ne→jQ,getElem?_toList→Ap,mem_of_getElem?→Uo,replicate→nI,toList_append→Qc,toList_replicate→zbw
open Bool renaming and_eq_true→fV,eq_iff_iff→Ns,or_eq_true→Eo
open Go renaming Addr→bL,Calls→fH,Code→vR,Frame→dH,FuncId→aO,Goroutine→bC,Item→eE,Oper→aZ,Operand→cN,Program→bS,Tape→jV,TypeId→aM,Value→aF,World→aE,execOp→aS,heap_alloc_new→lQ,undef→aA,yielded→dR
open Go.Act renaming eval→wH,mk→bH,put→cC
open Go.Claim7 renaming isSixth→ztA
open Go.Conc renaming base→J1
open Go.Fn renaming func→zpW
open Go.Item renaming code→M5
open Go.Lib renaming TabIs→zgZ,tabBelow_of_tabIs→znQ
open Go.MakeChecks renaming laidMetH_plain→zoB
open Go.Operand renaming tmp→zmV
open Go.Proofs.Tryz renaming checked→vE,f14→zfK,f42→zeG,f54→zlI,f56→zks,f57→zq3,func14→zn1,func42→zdB,func54→zpY,func56→zqX,prog→aK,underlying23→zn6
open Go.Region renaming wanted→dD
open Go.RowKit renaming Below→bR
open Go.RowKit.Below renaming refl→eF
open Go.Value renaming bool→Mm,int→Qo
open Go.World renaming cell?→lI,var?→zgv
open List renaming getD_eq_getElem?_getD→Kl,getElem?_append_left→y3,getElem?_eq_some_iff→kE,length_append→gM,length_cons→qA,length_nil→rY,map_cons→fK,map_nil→tL,map_toArray→uS,mem_of_getElem?→dX,mem_singleton→sE,nodup_nil→Qa,not_mem_nil→lZ,range→gN,setIfInBounds_toArray→gE,set_cons_succ→dW,set_cons_zero→dV,size_toArray→Ek
open Nat renaming le_refl→aX,le_succ→Sd,le_trans→eG,lt_of_lt_of_le→lC,lt_or_ge→mX,lt_succ_self→wR,lt_trans→zkV,zero_le→jY
open Option renaming bind_some→vC,map_eq_some_iff→xK,map_some→Ac
open Option.some renaming inj→cE,injEq→fT
open SizeOf renaming sizeOf→Of
noncomputable section
namespace Go
def Ya{P:Prop}(h:P:=by simp[Fm.eval]):P:=h
def ztD{P:Prop}(h:P:=by rw[<-zbC] at*;exact uQ.o.oldB dQ HK.o):P:=h
def zkr{P:Prop}(h:P:=by rw[hp,hg,hf];kernel_rfl):P:=h
end Go
namespace Go.Proofs.YtfcjiloojkjaeaaGreatDoor
open Go.RowKit Go.Mt Go.Conc Go.Tt Go.Maps Go.Conc.Lib Go.ConcR.Gen
open Go.ConcR (KK wgBlock WgAt stA smA rd wr)
def Y4:Go.Code:=(zlI.body).getD .skip
def rH10:Go.Code:=match Y4 with| .seq (a) _=>a|_=>.skip
def rH11:Go.Code:=match Y4 with| .seq _ (a)=>a|_=>.skip
def zGm:Y4=.seq (rH10) (rH11):=rfl
def zk7:Array Oper:=match rH10 with| .region _ ops _=>ops|_=>#[]
def rH10_eq:rH10=.region 0 zk7 false:=rfl
def zzY:gN zk7.size=[0]:=rfl
abbrev zrX:Oper:=⟨none,.defer ⟨.value (.func 55),#[.tmp 0],#[94]⟩,0,"l6_office.go:286",#[],none⟩
def zFa:zk7[0]? =some zrX:=rfl
def zgx:Array Oper:=match rH11 with| .region _ ops _=>ops|_=>#[]
def rH11_eq:rH11=.region 1 zgx false:=rfl
def zCM:gN zgx.size=[0,1]:=rfl
abbrev oH11_0:Oper:=⟨some 2,.load 95 (.tmp 1),95,"l6_office.go:287",#[],none⟩
def zzK:zgx[0]? =some oH11_0:=rfl
abbrev oH11_1:Oper:=⟨some 3,.call ⟨.value (.func 56),#[.tmp 2],#[122]⟩,0,"l6_office.go:287",#[⟨0,.data⟩],none⟩
def zIM:zgx[1]? =some oH11_1:=rfl
variable {pin:List (Nat×aF)}
theorem zqu {Wg N:Nat}{W:List fG}{D:aE->Prop}{Fin:bC->aE->Prop}{St:Nat->Prop}{Q:Pr->Prop}{K:Pr}{base:List dH}{ds:Dk}(m':Fm)(n5:Pr):
 (fZ Wg N W D Fin St K Q base ds pin).sub m' n5=fZ Wg N W D Fin St K (λR=>Q R/\n5.le R) (fx [] ds m'::base) .nil []:=by
 have e:(λR τ w=>(yS rI.tWg Wg (IOp Wg) R τ w/\Q R)/\n5.le R)=(λR τ w=>yS rI.tWg Wg (IOp Wg) R τ w/\Q R/\n5.le R):=by
  funext R τ W;exact propext and_assoc
 unfold Cx.sub fZ;simp only;rw[e]
section
variable {Wg N:Nat}{W:List fG}{D:aE->Prop}{Fin:bC->aE->Prop}{St:Nat->Prop}{gc gv c:Nat}
variable {K:Pr}
theorem op_body {Q:Pr->Prop}{base:List dH}(hK:K gc c)(hQ:Up Q)(m:Nat)(w:aE)(Qm:∀K' T todo w,K.le K'->BO (fZ Wg N W D Fin St K' Q base .nil []) .oD ⟨56,T,todo,true⟩ w):
 BO (fZ Wg N W D Fin St K Q base .nil []) (.op c 0 m) ⟨56,#[.chan (some gc),aA,aA,aA,aA,aA,aA,aA,aA,aA,aA,aA,aA,aA,aA,aA],[.code L6],false⟩ w:=by
 have F:vM (fZ Wg N W D Fin St K Q base .nil []).P (fZ Wg N W D Fin St K Q base .nil []).fs:=mP;have hI:fE (fZ Wg N W D Fin St K Q base .nil []):=zdT hQ rfl;rw[zHA];refine BO.seq hI ?_;refine BO.pV F hI Zk (λw1 T1 fB Q' HQ=>?_);clear fB;go_wp2;refine HQ.o _ _ ?_;clear HQ;refine BO.seq hI ?_;refine BO.pV F hI Zk (λw2 T2 fX Q' HQ=>?_);clear fX;go_wp2;refine HQ.o _ _ ?_;clear HQ;refine BO.block hI ?_;refine BO.loop hI ?_;exact op_loop hK hQ Qm m K w2 0 _ _ _ _ _ _ _ _ _ _ _ _ _ (wX K)
theorem zEA (hK:K gc c)(m:Nat){w:aE}(hv:w.cell? ⟨gv,0,none⟩=some (.chan (some gc))):
 BO (fZ Wg N W D Fin St K (λ_=>True) [wF aK] ⟨[],.deferred,aQ⟩ [(0,.pointer (some ⟨Wg,0,none⟩))]) (.op c 0 m) ⟨54,#[.nilFunc,.pointer (some ⟨gv,0,none⟩),aA,aA],[.code Y4],false⟩ w:=by
 let C:=fZ Wg N W D Fin St K (λ_=>True) [wF aK] ⟨[],.deferred,aQ⟩ [(0,.pointer (some ⟨Wg,0,none⟩))]
 have hQ:Up (λ_=>True):=λ_ _ _ _=>trivial;have hI:fE C:=zdT hQ rfl
 let d1:=dcall 55 #[.pointer (some ⟨Wg,0,none⟩)]
 have Ma:fE (C.dfr d1):=hI.dfr d1;have F:vM C.P C.fs:=mP;show BO C _ _ _;rw[zGm];refine BO.seq hI ?_;rw[rH10_eq];refine BO.regs hI _ zzY ?_;refine BO.defer hI (d:=d1) zFa rfl rfl (λR w W bQ _ _ Dj aV=>?_) ?_
 .have h0:=Dj (0,.pointer (some ⟨Wg,0,none⟩)) (by show _∈[_];simp)
  have:=zqd (p:=C.p) (o:=zrX) (ρ:=(bH bQ C.ds.ds).eval) rfl rfl aV;simp only[uS,fK,tL,wH] at this;simp only at h0;rw[h0] at this;exact this
 refine BO.regEnd Ma ?_;rw[rH11_eq];refine BO.regs Ma _ zCM ?_;refine BO.op (C:=C.dfr d1) F Ma zzK rfl aP (by intro s hs;cases hs;show(2:Nat)∉([0]:List Nat);decide) (λT=>⟨.chan (some gc),Tt.tp w T 0,.inl (zav (a:=⟨gv,0,none⟩) rfl rfl (Tryz.isAgg95 _) hv),?_⟩);simp only[cC,gE,dV,dW];obtain⟨w1,fB⟩:=aU (Tt.tp w T 0);rw[<-fB];clear fB;refine BO.callN (C:=C.dfr d1) Ma zIM rfl rfl (Callee.static _ _) aP zqX aH rfl (.inl rfl) λn5 m' hm=>?_;have ha:(#[]++(#[zmV 2]:Array cN).map (bH #[.nilFunc,.pointer (some ⟨gv,0,none⟩),.chan (some gc),aA] []).eval++ #[]:Array aF)=#[.chan (some gc)]:=by
  simp only[uS,fK,tL,wH,Array.empty_append,Array.append_empty];rfl
 have Cf:(#[.chan (some gc)]:Array aF)++nI ((zks).ntmps-(#[.chan (some gc)]:Array aF).size) aA=#[.chan (some gc),aA,aA,aA,aA,aA,aA,aA,aA,aA,aA,aA,aA,aA,aA,aA]:=by
  have e:(zks).ntmps=16:=rfl;rw[e];apply Iq;simp only[Qc,zbw,Ek,qA,rY];rfl
 show BO (Cx.sub _ m' n5) _ ⟨_,(#[]++(#[zmV 2]:Array cN).map (bH #[.nilFunc,.pointer (some ⟨gv,0,none⟩),.chan (some gc),aA] []).eval++ #[]:Array aF)++nI ((zks).ntmps-(#[]++(#[zmV 2]:Array cN).map (bH #[.nilFunc,.pointer (some ⟨gv,0,none⟩),.chan (some gc),aA] []).eval++ #[]:Array aF).size) aA,[.code L6],false⟩ _;rw[ha,Cf];have eC:C.dfr d1=fZ Wg N W D Fin St K (λ_=>True) [wF aK] ⟨[d1],.deferred,aQ⟩ [(0,.pointer (some ⟨Wg,0,none⟩))]:=rfl;rw[eC] at hm⊢;rw[zqu];refine op_body hK (hQ.and n5) m w1 λK' T todo w2 hl=>?_;rw[<-zqu];have Gk:fE (fZ Wg N W D Fin St K' (λ_=>True) [wF aK] ⟨[d1],.deferred,aQ⟩ [(0,.pointer (some ⟨Wg,0,none⟩))]):=zdT hQ rfl;refine BO.retN Gk (hm.upK hl _) (v:=.tuple #[]) rfl rfl zxA zqX rfl ?_;show BO _ _ ⟨_,_,[.inRegion _ []],false⟩ _;refine BO.regEnd Gk (BO.fall Gk ?_);exact BO.doneD zc7 rfl rfl rfl (I0:=IOp Wg) (by
  funext R τ w;exact propext (and_iff_left trivial)) iop_ix rfl rfl zpY rfl rfl (λ_ _ _ _ _=>trivial)
end
end Go.Proofs.YtfcjiloojkjaeaaGreatDoor
namespace Go.Mt
open Go.RowKit Go.Conc Go.Tt Go.Maps Go.Conc.Lib Go.ConcR.Gen
theorem BO.drawn {L:Type}{p:bS}{gs fs:aO->Bool}{f:aO}{kk:List eE}(zkh:p.follows .mixedOrders=true){id:Nat}{t0:Array aF}{ops:Array aZ}(ch:List Nat)(V0:Nat->aF)(S:List aF->Cx L->L->aE->Prop)(hS:∀vs C l w,S vs C l w->fE C/\C.p=p/\C.gs=gs/\C.fs=fs/\vM C.P C.fs/\∀(i:Nat) (o:aZ) (s:Tmp),ops[i]? =some o->o.dst=some s->s∉C.S)(bV:It ops=true)(tP:N3 ops ch=true)(n9:ch.all (λc=>decide (c<ops.size))=true)
 (hT:∀vs C l w T e,S vs C l w->S vs C l (Tt.tp w T e))
 (hR:∀(i:Nat) (o:aZ),ops[i]? =some o->i∉ch->rU p ⟨fs,gs,true⟩ o.op=true/\∀vs C l w,vs.length<ch.length->S vs C l w->dD o (dR ops (dC ops (VV ch V0 vs) t0))=true/\(aS (bH (dC ops (VV ch V0 vs) t0) []).eval o).run p w=.ok (.value (V0 i)) w)
 (hC:∀(vs:List aF) (c:Nat) (o:aZ) C l w,ch[vs.length]? =some c->ops[c]? =some o->S vs C l w->∀(t:Array aF) (rest:List Nat),(∀s∈o.looksAt ops,t[s]? =(dC ops (VV ch V0 vs) t0)[s]?)->
  (∀v C' l' w',S (vs++[v]) C' l' w'->BO C' l' ⟨f,(cC ⟨t,[]⟩ o.dst v).tmps,.inRegion ops rest::kk,false⟩ w')->BO C l ⟨f,t,.inRegion ops (c::rest)::kk,false⟩ w)
 (hk:∀vs C l w,vs.length=ch.length->S vs C l w->BO C l ⟨f,dC ops (VV ch V0 vs) t0,.inRegion ops []::kk,false⟩ w) {C:Cx L} {l:L} {w:aE} (h0:S [] C l w):BO C l ⟨f,t0,.code (.region id ops true)::kk,false⟩ w:=by
 obtain⟨sI,sp,_⟩:=hS _ _ _ _ h0;refine BO.draw sI λn=>?_;rw[sp,zkh]
 exact ztV (σ:=Cx L×L) (P:=p) (J:=λs is t w=>BO s.1 s.2 ⟨f,t,.inRegion ops is::kk,false⟩ w) (S:=λvs s w=>S vs s.1 s.2 w) bV tP n9
  (λvs s i o rest t w v h ho yU hw hx hJ=>by
   obtain⟨sI,sp,sg,sf,sF,sn⟩:=hS vs _ _ w h;exact BO.op sF sI ho hw (by rw[sp,sg,sf];exact(hR i o ho yU).1) (λs hs=>sn i o s ho hs) λT=>⟨v,_,.inl (by rw[sp];exact hx T),hJ T⟩)
  (λvs s=>hT vs s.1 s.2) (λi o ho yU vs s=>(hR i o ho yU).2 vs s.1 s.2) (λvs c o s w hj ho h t rest hs cP=>hC vs c o s.1 s.2 w hj ho h t rest hs λv C' l' w'=>cP v (C',l') w') (λvs s w=>hk vs s.1 s.2 w) (s:=(C,l)) h0 n
end Go.Mt
namespace Go.Proofs.YtfcjiloojkjaeaaGreatDoor
open Go.RowKit Go.Mt Go.Conc Go.Tt Go.Maps Go.Conc.Lib Go.ConcR.Gen
open Go.ConcR (KK wgBlock WgAt stA smA rd wr)
def oM:Go.Code:=(zeG.body).getD .skip
def rRH0:Go.Code:=match oM with| .seq (a) _=>a|_=>.skip
def rRH1:Go.Code:=match oM with| .seq _ (.seq (.seq (a) _) _)=>a|_=>.skip
def rRH2:Go.Code:=match oM with| .seq _ (.seq (.seq _ (.cond _ (.seq (a) _) _)) _)=>a|_=>.skip
def rRH3:Go.Code:=match oM with| .seq _ (.seq _ (.seq (.seq (a) _) _))=>a|_=>.skip
def rRH4:Go.Code:=match oM with| .seq _ (.seq _ (.seq (.seq _ (.block _ (.loop (.seq (a) _)))) _))=>a|_=>.skip
def rRH5:Go.Code:=match oM with| .seq _ (.seq _ (.seq (.seq _ (.block _ (.loop (.seq _ (.seq _ (.seq (.block _ (.seq (a) _)) _)))))) _))=>a|_=>.skip
def rRH6:Go.Code:=match oM with| .seq _ (.seq _ (.seq (.seq _ (.block _ (.loop (.seq _ (.seq _ (.seq (.block _ (.seq _ (.seq (a) _))) _)))))) _))=>a|_=>.skip
def rRH7:Go.Code:=match oM with| .seq _ (.seq _ (.seq (.seq _ (.block _ (.loop (.seq _ (.seq _ (.seq (.block _ (.seq _ (.seq _ (.cond _ (.seq (a) _) _)))) _)))))) _))=>a|_=>.skip
def rRH8:Go.Code:=match oM with| .seq _ (.seq _ (.seq (.seq _ (.block _ (.loop (.seq _ (.seq _ (.seq _ (a))))))) _))=>a|_=>.skip
def rRH9:Go.Code:=match oM with| .seq _ (.seq _ (.seq _ (.seq (a) _)))=>a|_=>.skip
def ziE:Go.Code:=match oM with| .seq _ (.seq _ (.seq _ (.seq _ (.seq (.seq (a) _) _))))=>a|_=>.skip
def rRH11:Go.Code:=match oM with| .seq _ (.seq _ (.seq _ (.seq _ (.seq (.seq _ (.block _ (.loop (.seq (a) _)))) _))))=>a|_=>.skip
def zab:Go.Code:=match oM with| .seq _ (.seq _ (.seq _ (.seq _ (.seq (.seq _ (.block _ (.loop (.seq _ (.seq _ (.seq (.block _ (a)) _)))))) _))))=>a|_=>.skip
def rRH13:Go.Code:=match oM with| .seq _ (.seq _ (.seq _ (.seq _ (.seq (.seq _ (.block _ (.loop (.seq _ (.seq _ (.seq _ (a))))))) _))))=>a|_=>.skip
def Mw:Go.Code:=match oM with| .seq _ (.seq _ (.seq _ (.seq _ (.seq _ (.seq (a) _)))))=>a|_=>.skip
def zmj:Go.Code:=match oM with| .seq _ (.seq _ (.seq _ (.seq _ (.seq _ (.seq _ (.seq (.seq (a) _) _))))))=>a|_=>.skip
def zlL:Go.Code:=match oM with| .seq _ (.seq _ (.seq _ (.seq _ (.seq _ (.seq _ (.seq (.seq _ (.block _ (.loop (.seq (a) _)))) _))))))=>a|_=>.skip
def zc8:Go.Code:=match oM with| .seq _ (.seq _ (.seq _ (.seq _ (.seq _ (.seq _ (.seq (.seq _ (.block _ (.loop (.seq _ (.seq _ (.seq (.block _ (.seq (a) _)) _)))))) _))))))=>a|_=>.skip
def Qj:Go.Code:=match oM with| .seq _ (.seq _ (.seq _ (.seq _ (.seq _ (.seq _ (.seq (.seq _ (.block _ (.loop (.seq _ (.seq _ (.seq (.block _ (.seq _ (.seq (a) _))) _)))))) _))))))=>a|_=>.skip
def Rb:Go.Code:=match oM with| .seq _ (.seq _ (.seq _ (.seq _ (.seq _ (.seq _ (.seq (.seq _ (.block _ (.loop (.seq _ (.seq _ (.seq (.block _ (.seq _ (.seq _ (.seq (a) _)))) _)))))) _))))))=>a|_=>.skip
def Sc:Go.Code:=match oM with| .seq _ (.seq _ (.seq _ (.seq _ (.seq _ (.seq _ (.seq (.seq _ (.block _ (.loop (.seq _ (.seq _ (.seq (.block _ (.seq _ (.seq _ (.seq _ (a))))) _)))))) _))))))=>a|_=>.skip
def zif:Go.Code:=match oM with| .seq _ (.seq _ (.seq _ (.seq _ (.seq _ (.seq _ (.seq (.seq _ (.block _ (.loop (.seq _ (.seq _ (.seq _ (a))))))) _))))))=>a|_=>.skip
def Zs:Go.Code:=match oM with| .seq _ (.seq _ (.seq _ (.seq _ (.seq _ (.seq _ (.seq _ (.seq (a) _)))))))=>a|_=>.skip
def Za:Go.Code:=match oM with| .seq _ (.seq _ (.seq _ (.seq _ (.seq _ (.seq _ (.seq _ (.seq _ (.seq (a) _))))))))=>a|_=>.skip
def Vy:Go.Code:=match oM with| .seq _ (.seq _ (.seq _ (.seq _ (.seq _ (.seq _ (.seq _ (.seq _ (.seq _ (.seq (a) _)))))))))=>a|_=>.skip
def Sv:Go.Code:=match oM with| .seq _ (.seq _ (.seq _ (.seq _ (.seq _ (.seq _ (.seq _ (.seq _ (.seq _ (.seq _ (.seq (a) _))))))))))=>a|_=>.skip
def zEa:oM=.seq (rRH0) (.seq (.seq (rRH1) (.cond (.tmp 17) (.seq (rRH2) (.ret)) (.skip))) (.seq (.seq (rRH3) (.block 0 (.loop (.seq (rRH4) (.seq (.cond (.tmp 21) (.skip) (.exit 0)) (.seq (.block 1 (.seq (rRH5) (.seq (rRH6) (.cond (.tmp 28) (.seq (rRH7) (.ret)) (.skip))))) (rRH8))))))) (.seq (rRH9) (.seq (.seq (ziE) (.block 2 (.loop (.seq (rRH11) (.seq (.cond (.tmp 39) (.skip) (.exit 2)) (.seq (.block 3 (zab)) (rRH13))))))) (.seq (Mw) (.seq (.seq (zmj) (.block 4 (.loop (.seq (zlL) (.seq (.cond (.tmp 54) (.skip) (.exit 4)) (.seq (.block 5 (.seq (zc8) (.seq (Qj) (.seq (Rb) (Sc))))) (zif))))))) (.seq (Zs) (.seq (Za) (.seq (Vy) (.seq (Sv) (.ret))))))))))):=rfl
def pE:Array Oper:=match zab with| .region _ ops _=>ops|_=>#[]
def zJv:zab=.region 12 pE true:=rfl
abbrev zop:Oper:=⟨some 40,.load 63 (.tmp 7),63,"l6_office.go:278",#[],none⟩
def zGU:pE[0]? =some zop:=rfl
abbrev ztb:Oper:=⟨some 41,.load 63 (.tmp 7),63,"l6_office.go:278",#[],none⟩
def zBU:pE[1]? =some ztb:=rfl
abbrev zot:Oper:=⟨some 42,.nilCheck (.tmp 41),0,"l6_office.go:278",#[⟨1,.data⟩],none⟩
def zBg:pE[2]? =some zot:=rfl
abbrev zrL:Oper:=⟨some 43,.fieldAddr 72 (.tmp 42) 1,0,"l6_office.go:278",#[⟨2,.data⟩],none⟩
def zHi:pE[3]? =some zrL:=rfl
abbrev zs8:Oper:=⟨some 44,.load 65 (.tmp 43),65,"l6_office.go:278",#[⟨3,.data⟩],none⟩
def zzV:pE[4]? =some zs8:=rfl
abbrev zxM:Oper:=⟨some 45,.makeChan 84 (.const (.int .i64 0)),84,"l6_office.go:278",#[],none⟩
def ziy:pE[5]? =some zxM:=rfl
abbrev zjb:Oper:=⟨some 46,.buildSlice 65 1 #[(0,.tmp 45)],65,"l6_office.go:278",#[⟨5,.data⟩],none⟩
def zej:pE[6]? =some zjb:=rfl
abbrev zwF:Oper:=⟨some 47,.call ⟨.builtin .append,#[.tmp 44,.tmp 46],#[65,65]⟩,65,"l6_office.go:278",#[⟨4,.data⟩,⟨6,.data⟩],none⟩
def ziO:pE[7]? =some zwF:=rfl
abbrev zt9:Oper:=⟨some 48,.nilCheck (.tmp 40),0,"l6_office.go:278",#[⟨0,.data⟩,⟨0,.phase⟩,⟨1,.phase⟩,⟨2,.phase⟩,⟨3,.phase⟩,⟨4,.phase⟩,⟨5,.phase⟩,⟨6,.phase⟩,⟨7,.phase⟩],none⟩
def zCG:pE[8]? =some zt9:=rfl
abbrev zso:Oper:=⟨some 49,.fieldAddr 72 (.tmp 48) 1,0,"l6_office.go:278",#[⟨8,.data⟩,⟨0,.phase⟩,⟨1,.phase⟩,⟨2,.phase⟩,⟨3,.phase⟩,⟨4,.phase⟩,⟨5,.phase⟩,⟨6,.phase⟩,⟨7,.phase⟩],none⟩
def zCL:pE[9]? =some zso:=rfl
abbrev ziV:Oper:=⟨none,.store 65 (.tmp 49) (.tmp 47),0,"l6_office.go:278",#[⟨9,.data⟩,⟨7,.data⟩,⟨7,.chain⟩,⟨0,.phase⟩,⟨1,.phase⟩,⟨2,.phase⟩,⟨3,.phase⟩,⟨4,.phase⟩,⟨5,.phase⟩,⟨6,.phase⟩,⟨7,.phase⟩],none⟩
def zhN:pE[10]? =some ziV:=rfl
def zcK:Array Oper:=match zc8 with| .region _ ops _=>ops|_=>#[]
def zBc:zc8=.region 17 zcK false:=rfl
def zBO:gN zcK.size=[0,1,2]:=rfl
abbrev oRH17_0:Oper:=⟨some 55,.makeChan 95 (.const (.int .i64 0)),95,"l6_office.go:282",#[],none⟩
def zzj:zcK[0]? =some oRH17_0:=rfl
abbrev zxZ:Oper:=⟨some 9,.alloc 95,0,"l6_office.go:282",#[],none⟩
def zHy:zcK[1]? =some zxZ:=rfl
abbrev ztU:Oper:=⟨none,.store 95 (.tmp 9) (.tmp 55),0,"l6_office.go:282",#[⟨1,.data⟩,⟨0,.data⟩,⟨0,.phase⟩,⟨1,.phase⟩],none⟩
def zDd:zcK[2]? =some ztU:=rfl
def oN:Array Oper:=match Qj with| .region _ ops _=>ops|_=>#[]
def zzz:Qj=.region 18 oN true:=rfl
abbrev zxR:Oper:=⟨some 56,.load 63 (.tmp 7),63,"l6_office.go:283",#[],none⟩
def zFO:oN[0]? =some zxR:=rfl
abbrev zpu:Oper:=⟨some 57,.load 63 (.tmp 7),63,"l6_office.go:283",#[],none⟩
def zy7:oN[1]? =some zpu:=rfl
abbrev zpl:Oper:=⟨some 58,.nilCheck (.tmp 57),0,"l6_office.go:283",#[⟨1,.data⟩],none⟩
def zCW:oN[2]? =some zpl:=rfl
abbrev zti:Oper:=⟨some 59,.fieldAddr 72 (.tmp 58) 4,0,"l6_office.go:283",#[⟨2,.data⟩],none⟩
def zyL:oN[3]? =some zti:=rfl
abbrev zsY:Oper:=⟨some 60,.load 68 (.tmp 59),68,"l6_office.go:283",#[⟨3,.data⟩],none⟩
def zy0:oN[4]? =some zsY:=rfl
abbrev zt2:Oper:=⟨some 61,.load 95 (.tmp 9),95,"l6_office.go:283",#[],none⟩
def zDZ:oN[5]? =some zt2:=rfl
abbrev zjR:Oper:=⟨some 62,.buildSlice 68 1 #[(0,.tmp 61)],68,"l6_office.go:283",#[⟨5,.data⟩],none⟩
def zau:oN[6]? =some zjR:=rfl
abbrev zwo:Oper:=⟨some 63,.call ⟨.builtin .append,#[.tmp 60,.tmp 62],#[68,68]⟩,68,"l6_office.go:283",#[⟨4,.data⟩,⟨6,.data⟩],none⟩
def zhd:oN[7]? =some zwo:=rfl
abbrev zxB:Oper:=⟨some 64,.nilCheck (.tmp 56),0,"l6_office.go:283",#[⟨0,.data⟩,⟨0,.phase⟩,⟨1,.phase⟩,⟨2,.phase⟩,⟨3,.phase⟩,⟨4,.phase⟩,⟨5,.phase⟩,⟨6,.phase⟩,⟨7,.phase⟩],none⟩
def zGR:oN[8]? =some zxB:=rfl
abbrev zrK:Oper:=⟨some 65,.fieldAddr 72 (.tmp 64) 4,0,"l6_office.go:283",#[⟨8,.data⟩,⟨0,.phase⟩,⟨1,.phase⟩,⟨2,.phase⟩,⟨3,.phase⟩,⟨4,.phase⟩,⟨5,.phase⟩,⟨6,.phase⟩,⟨7,.phase⟩],none⟩
def zy8:oN[9]? =some zrK:=rfl
abbrev zje:Oper:=⟨none,.store 68 (.tmp 65) (.tmp 63),0,"l6_office.go:283",#[⟨9,.data⟩,⟨7,.data⟩,⟨7,.chain⟩,⟨0,.phase⟩,⟨1,.phase⟩,⟨2,.phase⟩,⟨3,.phase⟩,⟨4,.phase⟩,⟨5,.phase⟩,⟨6,.phase⟩,⟨7,.phase⟩],none⟩
def zds:oN[10]? =some zje:=rfl
def zie:Array Oper:=match Rb with| .region _ ops _=>ops|_=>#[]
def zJN:Rb=.region 19 zie false:=rfl
def zJF:gN zie.size=[0]:=rfl
abbrev oRH19_0:Oper:=⟨some 66,.call ⟨.value (.func 53),#[.tmp 8,.const (.int .i64 1)],#[94,3]⟩,0,"l6_office.go:284",#[],none⟩
def zzR:zie[0]? =some oRH19_0:=rfl
def O8:Array Oper:=match Sc with| .region _ ops _=>ops|_=>#[]
def zyN:Sc=.region 20 O8 false:=rfl
def zE2:gN O8.size=[0,1]:=rfl
abbrev oRH20_0:Oper:=⟨some 67,.makeFunc (zpW 54) #[] #[.tmp 8,.tmp 9],1,"l6_office.go:285",#[],none⟩
def zB6:O8[0]? =some oRH20_0:=rfl
abbrev oRH20_1:Oper:=⟨none,.go ⟨.value (.tmp 67),#[],#[]⟩,0,"l6_office.go:285",#[⟨0,.data⟩],none⟩
def zyR:O8[1]? =some oRH20_1:=rfl
def zm6:Array Oper:=match Zs with| .region _ ops _=>ops|_=>#[]
def zDC:Zs=.region 22 zm6 false:=rfl
def zBz:gN zm6.size=[0]:=rfl
abbrev oRH22_0:Oper:=⟨some 69,.call ⟨.value (.func 53),#[.tmp 8,.const (.int .i64 1)],#[94,3]⟩,0,"l6_office.go:290",#[],none⟩
def zyG:zm6[0]? =some oRH22_0:=rfl
def zdP:Array Oper:=match Za with| .region _ ops _=>ops|_=>#[]
def zCg:Za=.region 23 zdP false:=rfl
def zCP:gN zdP.size=[0,1]:=rfl
abbrev oRH23_0:Oper:=⟨some 70,.makeFunc (zpW 57) #[] #[.tmp 8,.tmp 7,.tmp 3],1,"l6_office.go:291",#[],none⟩
def zJt:zdP[0]? =some oRH23_0:=rfl
abbrev oRH23_1:Oper:=⟨none,.go ⟨.value (.tmp 70),#[],#[]⟩,0,"l6_office.go:291",#[⟨0,.data⟩],none⟩
def zDO:zdP[1]? =some oRH23_1:=rfl
def zbe:Array Oper:=match Vy with| .region _ ops _=>ops|_=>#[]
def zBK:Vy=.region 24 zbe false:=rfl
abbrev oRH24_0:Oper:=⟨some 71,.call ⟨.value (.func 59),#[.tmp 8],#[94]⟩,0,"l6_office.go:295",#[],none⟩
def tV:vX aK 42:=⟨_,zdB,.inr (.inl ⟨_,rfl⟩)⟩
def info_ch:(aK.info? 84).map (λi=>(i.zero,i.size,i.bytes))=some (some (.chan none),1,8):=aP
def info_cq:(aK.info? 95).map (λi=>(i.zero,i.size,i.bytes))=some (some (.chan none),1,8):=aP
theorem zy4:∃ie,aK.info? 3=some ie:=by
 obtain⟨i,hi,_⟩:=xK.1 zaQ;exact⟨i,hi⟩
theorem zuB (xs:List Nat)(g:Nat):I8 (xs++[g])=I8 xs++[.chan (some g)]:=by simp[I8]
structure WH where
 lo:Nat
 hb:Nat
 gh:Nat
 gq:Nat
 q:Nat
 v0:fL
 w0:aE
 v:fL
 d:nQ
def WH.P1 (c:WH)(w:aE):Prop:=bE w c.lo c.hb c.v c.d/\bM c.hb c.v0 c.w0 c.v w/\c.lo<=w.heap.size
variable {c:WH}{w:aE}
def WH.P1.tp (h:c.P1 w)(T:jV)(n:Nat):c.P1 (Tt.tp w T n):=⟨h.1.tp T n,h.2.1.tp T n,h.2.2⟩
def fL.maps (v v':fL):Prop:=v'.pC=v.pC/\v'.pO=v.pO/\v'.pM=v.pM
def zvi:It pE=true:=aP
def zJh:N3 pE [5,6,7,10]=true:=aP
def zyK:pE.toList.map (·.dst)=[some 40,some 41,some 42,some 43,some 44,some 45,some 46,some 47,some 48,some 49,none]:=rfl
def zH8:pE.toList=[zop,ztb,zot,zrL,zs8,zxM,zjb,zwF,zt9,zso,ziV]:=rfl
def Gh (hb gh gq q:Nat)(sA:aF)(i:Nat):Value:=([.pointer (some ⟨hb,0,none⟩),.pointer (some ⟨hb,0,none⟩),.pointer (some ⟨hb,0,none⟩),.pointer (some ⟨hb,3,none⟩),sA,aA,aA,aA,.pointer (some ⟨hb,0,none⟩),.pointer (some ⟨hb,3,none⟩),aA]:List aF).getD i aA
variable {V:Nat->aF}{Tf:Array aF}{s:Nat}
theorem bsRL (hT:xA Tf V)(e:V 45=.chan (some s)):(aS (bH Tf []).eval zjb).run aK w=.ok (.value (.slice (some ⟨w.heap.size,0,none⟩) 1 1)) (w.alloc (.cells #[.chan (some s)] 84)):=by
 unfold aS;go_simp
variable {sA:aF}{T:jV}
theorem stRL {hb q1 n q2:Nat}(hT:xA Tf V)(e1:V 49=.pointer (some ⟨hb,3,none⟩))(e2:V 47=.slice (some ⟨q1,0,none⟩) n q2)(hh:w.cell? ⟨hb,3,none⟩=some sA)(hf:w.frozen? ⟨hb,3,none⟩=false):(aS (bH Tf []).eval ziV).run aK (Tt.tp w T 0)=.ok .skip (Tt.tp (w.setCell ⟨hb,3,none⟩ (.slice (some ⟨q1,0,none⟩) n q2)) T 0):=by
 have zeZ:(Tt.tp w T 0).cell? ⟨hb,3,none⟩=some sA:=hh;have At:(Tt.tp w T 0).frozen? ⟨hb,3,none⟩=false:=hf;clear hh hf;unfold aS;go_simp
 try rfl
def WH.RdRL (c:WH)(w:aE):Prop:=w.cell? ⟨c.hb,3,none⟩=some c.v.sL/\w.heap[c.gh]? =some (.cells #[.pointer (some ⟨c.hb,0,none⟩)] 63)
def WH.RL2 (c:WH)(g:Nat)(w:aE):Prop:=∃v2,bE w c.lo c.hb v2 {c.d with ln:=c.d.ln++[g]}/\bM c.hb c.v0 c.w0 v2 w/\c.v.maps v2
variable {g:Nat}
theorem WH.RL2.tp (h:c.RL2 g w)(T:jV)(n:Nat):c.RL2 g (Tt.tp w T n):=by
 obtain⟨v1,a,d,e⟩:=h;exact⟨v1,a.tp T n,d.tp T n,e⟩
def WH.StRL (c:WH)(vs:List aF)(w':aE):Prop:=match vs with
 |[]=>c.P1 w'/\∀x∈c.d.ln,x<w'.heap.size
 |[a]=>∃g,a=.chan (some g)/\(∀x∈c.d.ln,x<g)/\g<w'.heap.size/\c.P1 w'
 |[a,b]=>∃g q,b=.slice (some ⟨q,0,none⟩) 1 1/\w'.heap[q]? =some (.cells #[.chan (some g)] 84)/\(∀x∈c.d.ln,x<g)/\g<w'.heap.size/\c.P1 w'
 |[a,b,x]=>∃g q1 q2,x=.slice (some ⟨q1,0,none⟩) (c.d.ln.length+1) q2/\w'.frozen? ⟨c.hb,3,none⟩=false/\(∀x∈c.d.ln,x<g)/\g<w'.heap.size/\c.RL2 g (w'.setCell ⟨c.hb,3,none⟩ x)
 |_=>∃g,(∀x∈c.d.ln,x<g)/\g<w'.heap.size/\c.RL2 g w'
section
variable {Post:aF->aE->Prop}{Shun:Loc->Prop}{W0:aE}{St:Nat->Prop}{R0:Pr}{base:List dH}
def SRL (Post:aF->aE->Prop)(Shun:Loc->Prop)(W0:aE)(St:Nat->Prop)(R0:Pr)(base:List dH)(c:WH)(K0:Pr)(vs:List aF)(C':Cx Unit)(l':Unit)(w':aE):Prop:=∃K',K0.le K'/\C'=D3 aK Bq gD Post Shun W0 St K' R0 base/\(vs.length<4->c.RdRL w')/\c.StRL vs w'
variable {c:WH}
theorem SRL.tp {K0:Pr}(vs:List aF)(C':Cx Unit)(l':Unit)(w':aE)(T:jV)(n:Nat)(h:SRL Post Shun W0 St R0 base c K0 vs C' l' w'):SRL Post Shun W0 St R0 base c K0 vs C' l' (Tt.tp w' T n):=by
 obtain⟨K',h1,h2,h3,h4⟩:=h;refine⟨K',h1,h2,h3,?_⟩;rcases vs with _|⟨a,_|⟨b,_|⟨x,_|⟨y,vs⟩⟩⟩⟩
 .exact⟨h4.1.tp T n,h4.2⟩
 .obtain⟨g,a,b,d,e⟩:=h4
  exact⟨g,a,b,d,e.tp T n⟩
 .obtain⟨g,q,a,b,c,d,e⟩:=h4
  exact⟨g,q,a,b,c,d,e.tp T n⟩
 .obtain⟨g,q1,q2,a,b,c,d,e⟩:=h4
  exact⟨g,q1,q2,a,b,c,d,WH.RL2.tp (w:=w'.setCell _ _) e T n⟩
 .obtain⟨g,a,b,d⟩:=h4
  exact⟨g,a,b,d.tp T n⟩
theorem cw_RL {K:Pr}(yJ:c.d.ln.length<=1000)(zaD:some c.gh∉parts c.v c.hb){t0:Array aF}{w:aE}{kk:List eE}(hz:t0.size=73)(Ev:t0.getD 7 aA=.pointer (some ⟨c.gh,0,none⟩))
 (hk:∀vs C' l' w',vs.length=4->SRL Post Shun W0 St R0 base c K vs C' l' w'->BO C' l' ⟨42,dC pE (VV [5,6,7,10] (Gh c.hb c.gh c.gq c.q c.v.sL) vs) t0,.inRegion pE []::kk,false⟩ w') (h0:SRL Post Shun W0 St R0 base c K [] (D3 aK Bq gD Post Shun W0 St K R0 base) () w):BO (D3 aK Bq gD Post Shun W0 St K R0 base) () ⟨42,t0,.code zab::kk,false⟩ w:=by
 rw[zJv];have KO:=S3 zvi;refine BO.drawn (p:=aK) (gs:=Bq) (fs:=gD) vE.mixed [5,6,7,10] (Gh c.hb c.gh c.gq c.q c.v.sL) (SRL Post Shun W0 St R0 base c K) (λvs C l w h=>by
  obtain⟨K',_,rfl,_⟩:=h;exact⟨dA,rfl,rfl,rfl,mP,λ_ _ _ _ _=>lZ⟩) zvi zJh J2 (λvs K l w T e h=>SRL.tp vs K l w T e h) (λi o ho hi=>?_) (λvs ci o C' l' w' hc ho hS t rest lW fO=>?_) hk h0
 .have hl:pE.toList[i]? =some o:=by rw[Ap];exact ho
  rw[zH8] at hl;have aN:i<11:=by have:=(kE.1 hl).1;simpa using this
  have tn:∀(vs:List aF) {j:Nat} {oj:aZ} {s:Tmp} {v:aF},pE[j]? =some oj->oj.dst=some s->s<t0.size->VV [5,6,7,10] (Gh c.hb c.gh c.gq c.q c.v.sL) vs j=v->(dC pE (VV [5,6,7,10] (Gh c.hb c.gh c.gq c.q c.v.sL) vs) t0).getD s aA=v:=λvs _ _ _ _ a b c d=>qL KO a b c d;have tq:∀(vs:List aF) {s:Tmp},Ha pE s=false->(dC pE (VV [5,6,7,10] (Gh c.hb c.gh c.gq c.q c.v.sL) vs) t0).getD s aA=t0.getD s undef:=λvs _ a=>zgD KO a;have Qi:∀{vs:List aF} {C' l' w'},(SRL Post Shun W0 St R0 base c K) vs C' l' w'->vs.length<4->c.RdRL w':=λh hv=>by
   obtain⟨_,_,_,h,_⟩:=h;exact h hv
  rcases i with _|_|_|_|_|_|_|_|_|_|_|i
  .obtain rfl:=cE hl
   exact⟨aP,λvs K' l' w' hv hS=>⟨eB rfl,rd2 (.pointer (some ⟨c.hb,0,none⟩)) ((tq vs aP).trans Ev) (aJ (Qi hS hv).2 0)⟩⟩
  .obtain rfl:=cE hl
   exact⟨aP,λvs K' l' w' hv hS=>⟨eB rfl,rd2 (.pointer (some ⟨c.hb,0,none⟩)) ((tq vs aP).trans Ev) (aJ (Qi hS hv).2 0)⟩⟩
  .obtain rfl:=cE hl
   exact⟨aP,λvs K' l' w' hv hS=>⟨eB rfl,uJ (.pointer (some ⟨c.hb,0,none⟩)) (tn vs zBU rfl kQ rfl)⟩⟩
  .obtain rfl:=cE hl
   exact⟨aP,λvs K' l' w' hv hS=>⟨eB rfl,uJ (.pointer (some ⟨c.hb,3,none⟩)) (tn vs zBg rfl kQ rfl)⟩⟩
  .obtain rfl:=cE hl
   exact⟨aP,λvs K' l' w' hv hS=>⟨eB rfl,rd2 (c.v.sL) (tn vs zHi rfl kQ rfl) (Qi hS hv).1⟩⟩
  .exact absurd aH hi
  .exact absurd aH hi
  .exact absurd aH hi
  .obtain rfl:=cE hl
   exact⟨aP,λvs K' l' w' hv hS=>⟨eB rfl,uJ (.pointer (some ⟨c.hb,0,none⟩)) (tn vs zGU rfl kQ rfl)⟩⟩
  .obtain rfl:=cE hl
   exact⟨aP,λvs K' l' w' hv hS=>⟨eB rfl,uJ (.pointer (some ⟨c.hb,3,none⟩)) (tn vs zCG rfl kQ rfl)⟩⟩
  .exact absurd aH hi
  .omega
 .rcases vs with _|⟨a,_|⟨b,_|⟨c',_|⟨d',vs⟩⟩⟩⟩
  .obtain rfl:5=ci:=by simpa using hc
   rw[ziy] at ho;obtain rfl:=cE ho;obtain⟨K',hK,rfl,hR,⟨s1,s2⟩⟩:=hS;obtain⟨ie,jU⟩:=zy4;refine BO.makeK dA ziy (eB rfl) rfl Tryz.underlying84 jU (λ_ _=>lZ) (I':=λ_=>IA W0 St Shun R0) (λR τ W hi ht aN=>?_) (λg=>?_)
   .have hi:IA W0 St Shun R0 R τ W:=hi
    have sz:(W.alloc (.chan 0 #[] false 0 0 false)).heap.size=W.heap.size+1:=qR _ _;have hz:=hi.kp.size;exact⟨⟨hi.kp.os,hi.kp.tape,hi.kp.output,by rw[sz];omega,λb hb=>(Fp aC).trans (hi.kp.block b hb),hi.kp.old⟩,⟨hi.sh.old,hi.sh.rel,λl b hl hb=>hi.sh.new l b hl (by rw[sz] at hb;omega)⟩,hi.still,hi.le⟩
   .exact fO _ _ _ _ ⟨K'.add w'.heap.size g,vP hK (Pr.le_add _ _ _),rfl,λ_=>⟨Aa (hR aQ).1 _,dJ (hR aQ).2 _⟩,w'.heap.size,rfl,s2,by rw[qR];exact wR _,s1.1.alloc _,s1.2.1.trans (bM.below (dS (eF _ _) _)),eG s1.2.2 (by rw[qR];exact Sd _)⟩
  .obtain rfl:6=ci:=by simpa using hc
   rw[zej] at ho;obtain rfl:=cE ho;obtain⟨K',hK,rfl,hR,g,rfl,s2,s3,z3,z5,s6⟩:=hS;have V1:(dC pE (VV [5,6,7,10] (Gh c.hb c.gh c.gq c.q c.v.sL) [.chan (some g)]) t0).getD 45 aA=.chan (some g):=qL KO ziy rfl kQ rfl;refine BO.op mP dA zej (eB rfl) aP (λs hs=>lZ) (λT=>⟨.slice (some ⟨w'.heap.size,0,none⟩) 1 1,(Tt.tp w' T 0).alloc (.cells #[.chan (some g)] 84),.inl ?_,?_⟩)
   .rw[Ei (KO.sel 6 _ zej) lW]
    have hT:xA (dC pE (VV [5,6,7,10] (Gh c.hb c.gh c.gq c.q c.v.sL) [.chan (some g)]) t0) (λs=>(dC pE (VV [5,6,7,10] (Gh c.hb c.gh c.gq c.q c.v.sL) [.chan (some g)]) t0).getD s aA):=λs=>rfl;exact bsRL hT V1
   .have al:bM c.hb c.v w' c.v ((Tt.tp w' T 0).alloc (.cells #[.chan (some g)] 84)):=(bM.refl.tp T 0).trans (bM.below (dS (eF _ _) _))
    exact fO _ _ _ _ ⟨K',hK,rfl,λ_=>⟨Aa (hR aQ).1 _,dJ (hR aQ).2 _⟩,g,_,rfl,lQ _ _,s2,zkV s3 (by show _<((Tt.tp w' T 0).alloc _).heap.size;rw[qR];exact wR _),(z3.tp T 0).alloc _,z5.trans al,eG s6 zfh⟩
  .obtain rfl:7=ci:=by simpa using hc
   rw[ziO] at ho;obtain rfl:=cE ho;obtain⟨K',hK,rfl,hR,g,gs,rfl,zcJ,s2,s3,z3,z5,s6⟩:=hS;have zms:=F7 lW (s:=44) aH (qL KO zzV rfl kQ rfl);have zkg:=F7 lW (s:=46) aH (qL KO zej rfl kQ rfl);have zm0:some c.gh∉parts c.v c.hb:=zaD;refine BO.op mP dA ziO (eB rfl) aP (λs hs=>lZ) (λT=>?_);have a1:=z3.tp T 0;obtain⟨q1,q2,w5,fN,cV,nD,eY⟩:=M9 (w:=Tt.tp w' T 0) (t:=65) (ty:=65) info_ch Tryz.underlying65 rfl aH a1.L (g:=gs) (cs:=#[.chan (some g)]) (news:=[.chan (some g)]) zcJ rfl (m:=1) rfl aH Ng aC aH s6;obtain⟨a6,t6⟩:=a1.putL nD (xs:=c.d.ln++[g]) (by rw[zuB];exact cV) aQ eY;have x4:=(a1.other (j:=1) (c:=3) (x:=c.v.sL) rfl aH nD (.slice (some ⟨q1,0,none⟩) (c.d.ln.length+1) q2)).2.trans a1.blk;have Fe:w5.heap[c.gh]? =some _:=(nD.block c.gh (fY (hR aQ).2) (λe=>zm0 (dX (i:=1) (show(parts c.v c.hb)[1]? =some (some c.gh) by rw[e];rfl)))).trans (hR aQ).2;have cJ:w'.heap.size<=w5.heap.size:=nD.size;refine⟨_,w5,.inl (Y3 rfl zms zkg fN),fO _ _ _ _ ⟨K',hK,rfl,λ_=>⟨aJ x4 3,Fe⟩,g,q1,q2,rfl,eJ x4 3,s2,lC s3 cJ,_,a6,z5.trans ((bM.refl.tp T 0).trans t6),rfl,rfl,rfl⟩⟩
  .obtain rfl:10=ci:=by simpa using hc
   rw[zhN] at ho;obtain rfl:=cE ho;obtain⟨K',hK,rfl,hR,g,q1,q2,rfl,mU,s2,s3,yM⟩:=hS;have V1:(dC pE (VV [5,6,7,10] (Gh c.hb c.gh c.gq c.q c.v.sL) [a,b,.slice (some ⟨q1,0,none⟩) (c.d.ln.length+1) q2]) t0).getD 47 aA=.slice (some ⟨q1,0,none⟩) (c.d.ln.length+1) q2:=qL KO ziO rfl kQ rfl;have V2:(dC pE (VV [5,6,7,10] (Gh c.hb c.gh c.gq c.q c.v.sL) [a,b,.slice (some ⟨q1,0,none⟩) (c.d.ln.length+1) q2]) t0).getD 49 aA=.pointer (some ⟨c.hb,3,none⟩):=qL KO zCL rfl kQ rfl;refine BO.op mP dA zhN (eB rfl) aP (λs hs=>lZ) (λT=>⟨aA,Tt.tp (w'.setCell ⟨c.hb,3,none⟩ (.slice (some ⟨q1,0,none⟩) (c.d.ln.length+1) q2)) T 0,.inr ⟨?_,rfl⟩,?_⟩)
   .rw[Ei (KO.sel 10 _ zhN) lW]
    have hT:xA (dC pE (VV [5,6,7,10] (Gh c.hb c.gh c.gq c.q c.v.sL) [a,b,.slice (some ⟨q1,0,none⟩) (c.d.ln.length+1) q2]) t0) (λs=>(dC pE (VV [5,6,7,10] (Gh c.hb c.gh c.gq c.q c.v.sL) [a,b,.slice (some ⟨q1,0,none⟩) (c.d.ln.length+1) q2]) t0).getD s aA):=λs=>rfl;exact stRL hT V2 V1 (hR aQ).1 mU
   .exact fO aA _ _ _ ⟨K',hK,rfl,λh=>absurd h aQ,g,s2,(by show g<(w'.setCell _ _).heap.size;rw[I2];exact s3),WH.RL2.tp yM T 0⟩
  .simp at hc
end
def zsy:It oN=true:=aP
def zA6:N3 oN [6,7,10]=true:=aP
def zp1:oN.toList.map (·.dst)=[some 56,some 57,some 58,some 59,some 60,some 61,some 62,some 63,some 64,some 65,none]:=rfl
def zEH:oN.toList=[zxR,zpu,zpl,zti,zsY,zt2,zjR,zwo,zxB,zrK,zje]:=rfl
def G9 (hb gh gq q:Nat)(sA:aF)(i:Nat):Value:=([.pointer (some ⟨hb,0,none⟩),.pointer (some ⟨hb,0,none⟩),.pointer (some ⟨hb,0,none⟩),.pointer (some ⟨hb,6,none⟩),sA,.chan (some q),aA,aA,.pointer (some ⟨hb,0,none⟩),.pointer (some ⟨hb,6,none⟩),aA]:List aF).getD i aA
theorem bsRQ (hT:xA Tf V)(e:V 61=.chan (some s)):(aS (bH Tf []).eval zjR).run aK w=.ok (.value (.slice (some ⟨w.heap.size,0,none⟩) 1 1)) (w.alloc (.cells #[.chan (some s)] 95)):=by
 unfold aS;go_simp
theorem stRQ {hb q1 n q2:Nat}(hT:xA Tf V)(e1:V 65=.pointer (some ⟨hb,6,none⟩))(e2:V 63=.slice (some ⟨q1,0,none⟩) n q2)(hh:w.cell? ⟨hb,6,none⟩=some sA)(hf:w.frozen? ⟨hb,6,none⟩=false):(aS (bH Tf []).eval zje).run aK (Tt.tp w T 0)=.ok .skip (Tt.tp (w.setCell ⟨hb,6,none⟩ (.slice (some ⟨q1,0,none⟩) n q2)) T 0):=by
 have zeZ:(Tt.tp w T 0).cell? ⟨hb,6,none⟩=some sA:=hh;have At:(Tt.tp w T 0).frozen? ⟨hb,6,none⟩=false:=hf;clear hh hf;unfold aS;go_simp
 try rfl
def WH.RdRQ (c:WH)(w:aE):Prop:=w.cell? ⟨c.hb,6,none⟩=some c.v.sQ/\w.heap[c.gh]? =some (.cells #[.pointer (some ⟨c.hb,0,none⟩)] 63)/\w.heap[c.gq]? =some (.cells #[.chan (some c.q)] 95)
def WH.RQ2 (c:WH)(g:Nat)(w:aE):Prop:=∃v2,bE w c.lo c.hb v2 {c.d with qn:=c.d.qn++[g]}/\bM c.hb c.v0 c.w0 v2 w/\c.v.maps v2
theorem WH.RQ2.tp (h:c.RQ2 g w)(T:jV)(n:Nat):c.RQ2 g (Tt.tp w T n):=by
 obtain⟨v1,a,d,e⟩:=h;exact⟨v1,a.tp T n,d.tp T n,e⟩
def WH.StRQ (c:WH)(vs:List aF)(w':aE):Prop:=match vs with
 |[]=>c.P1 w'
 |[b]=>(∃q,b=.slice (some ⟨q,0,none⟩) 1 1/\w'.heap[q]? =some (.cells #[.chan (some c.q)] 95))/\c.P1 w'
 |[b,x]=>(∃q1 q2,x=.slice (some ⟨q1,0,none⟩) (c.d.qn.length+1) q2)/\w'.frozen? ⟨c.hb,6,none⟩=false/\c.RQ2 c.q (w'.setCell ⟨c.hb,6,none⟩ x)
 |_=>c.RQ2 c.q w'
section
def SRQ {L:Type}(c:WH)(C:Cx L)(l:L)(vs:List aF)(C':Cx L)(l':L)(w':aE):Prop:=C'=C/\l'=l/\(vs.length<3->c.RdRQ w')/\c.StRQ vs w'
variable {L:Type}{c:WH}
theorem SRQ.tp {C:Cx L}{l:L}(vs:List aF)(C':Cx L)(l':L)(w':aE)(T:jV)(n:Nat)(h:SRQ c C l vs C' l' w'):SRQ c C l vs C' l' (Tt.tp w' T n):=by
 obtain⟨h1,h2,h3,h4⟩:=h;refine⟨h1,h2,h3,?_⟩;rcases vs with _|⟨b,_|⟨x,_|⟨y,vs⟩⟩⟩
 .exact h4.tp T n
 .exact⟨h4.1,h4.2.tp T n⟩
 .exact⟨h4.1,h4.2.1,WH.RQ2.tp (w:=w'.setCell _ _) h4.2.2 T n⟩
 .exact h4.tp T n
theorem cw_RQ {C:Cx L}{l:L}(hI:fE C)(hp:C.p=aK)(hg:C.gs=Bq)(hf:C.fs=gD)(hF:vM C.P C.fs)(hn:∀(i:Nat) (o:aZ) (s:Tmp),oN[i]? =some o->o.dst=some s->s∉C.S)(yJ:c.d.qn.length<=1000)(zaD:some c.gh∉parts c.v c.hb)(zbn:some c.gq∉parts c.v c.hb){t0:Array aF}{w:aE}{kk:List eE}(hz:t0.size=73)(Ev:t0.getD 7 aA=.pointer (some ⟨c.gh,0,none⟩))(zmH:t0.getD 9 aA=.pointer (some ⟨c.gq,0,none⟩))
 (hk:∀vs C' l' w',vs.length=3->SRQ c C l vs C' l' w'->BO C' l' ⟨42,dC oN (VV [6,7,10] (G9 c.hb c.gh c.gq c.q c.v.sQ) vs) t0,.inRegion oN []::kk,false⟩ w') (h0:SRQ c C l [] C l w):BO C l ⟨42,t0,.code Qj::kk,false⟩ w:=by
 rw[zzz];have KO:=S3 zsy;refine BO.drawn (p:=aK) (gs:=Bq) (fs:=gD) vE.mixed [6,7,10] (G9 c.hb c.gh c.gq c.q c.v.sQ) (SRQ c C l) (λvs C l w h=>by
  obtain⟨rfl,rfl,_⟩:=h;exact⟨hI,hp,hg,hf,hF,hn⟩) zsy zA6 J2 (λvs K l w T e h=>SRQ.tp vs K l w T e h) (λi o ho hi=>?_) (λvs ci o C' l' w' hc ho hS t rest lW fO=>?_) hk h0
 .have hl:oN.toList[i]? =some o:=by rw[Ap];exact ho
  rw[zEH] at hl;have aN:i<11:=by have:=(kE.1 hl).1;simpa using this
  have tn:∀(vs:List aF) {j:Nat} {oj:aZ} {s:Tmp} {v:aF},oN[j]? =some oj->oj.dst=some s->s<t0.size->VV [6,7,10] (G9 c.hb c.gh c.gq c.q c.v.sQ) vs j=v->(dC oN (VV [6,7,10] (G9 c.hb c.gh c.gq c.q c.v.sQ) vs) t0).getD s aA=v:=λvs _ _ _ _ a b c d=>qL KO a b c d;have tq:∀(vs:List aF) {s:Tmp},Ha oN s=false->(dC oN (VV [6,7,10] (G9 c.hb c.gh c.gq c.q c.v.sQ) vs) t0).getD s aA=t0.getD s undef:=λvs _ a=>zgD KO a;have Qi:∀{vs:List aF} {C' l' w'},(SRQ c C l) vs C' l' w'->vs.length<3->c.RdRQ w':=λh hv=>by
   obtain⟨_,_,h,_⟩:=h;exact h hv
  rcases i with _|_|_|_|_|_|_|_|_|_|_|i
  .obtain rfl:=cE hl
   exact⟨aP,λvs K' l' w' hv hS=>⟨eB rfl,rd2 (.pointer (some ⟨c.hb,0,none⟩)) ((tq vs aP).trans Ev) (aJ (Qi hS hv).2.1 0)⟩⟩
  .obtain rfl:=cE hl
   exact⟨aP,λvs K' l' w' hv hS=>⟨eB rfl,rd2 (.pointer (some ⟨c.hb,0,none⟩)) ((tq vs aP).trans Ev) (aJ (Qi hS hv).2.1 0)⟩⟩
  .obtain rfl:=cE hl
   exact⟨aP,λvs K' l' w' hv hS=>⟨eB rfl,uJ (.pointer (some ⟨c.hb,0,none⟩)) (tn vs zy7 rfl kQ rfl)⟩⟩
  .obtain rfl:=cE hl
   exact⟨aP,λvs K' l' w' hv hS=>⟨eB rfl,uJ (.pointer (some ⟨c.hb,6,none⟩)) (tn vs zCW rfl kQ rfl)⟩⟩
  .obtain rfl:=cE hl
   exact⟨aP,λvs K' l' w' hv hS=>⟨eB rfl,rd2 (c.v.sQ) (tn vs zyL rfl kQ rfl) (Qi hS hv).1⟩⟩
  .obtain rfl:=cE hl
   exact⟨aP,λvs K' l' w' hv hS=>⟨eB rfl,rd2 (.chan (some c.q)) ((tq vs aP).trans zmH) (aJ (Qi hS hv).2.2 0)⟩⟩
  .exact absurd aH hi
  .exact absurd aH hi
  .obtain rfl:=cE hl
   exact⟨aP,λvs K' l' w' hv hS=>⟨eB rfl,uJ (.pointer (some ⟨c.hb,0,none⟩)) (tn vs zFO rfl kQ rfl)⟩⟩
  .obtain rfl:=cE hl
   exact⟨aP,λvs K' l' w' hv hS=>⟨eB rfl,uJ (.pointer (some ⟨c.hb,6,none⟩)) (tn vs zGR rfl kQ rfl)⟩⟩
  .exact absurd aH hi
  .omega
 .rcases vs with _|⟨a,_|⟨b,_|⟨c',vs⟩⟩⟩
  .obtain rfl:6=ci:=by simpa using hc
   rw[zau] at ho;obtain rfl:=cE ho;obtain⟨rfl,rfl,hR,z3,z5,s6⟩:=hS;have V1:(dC oN (VV [6,7,10] (G9 c.hb c.gh c.gq c.q c.v.sQ) []) t0).getD 61 aA=.chan (some c.q):=qL KO zDZ rfl kQ rfl;refine BO.op hF hI zau (eB rfl) zkr (λs hs=>hn 6 _ s zau hs) (λT=>⟨.slice (some ⟨w'.heap.size,0,none⟩) 1 1,(Tt.tp w' T 0).alloc (.cells #[.chan (some c.q)] 95),.inl ?_,?_⟩)
   .rw[hp]
    rw[Ei (KO.sel 6 _ zau) lW];have hT:xA (dC oN (VV [6,7,10] (G9 c.hb c.gh c.gq c.q c.v.sQ) []) t0) (λs=>(dC oN (VV [6,7,10] (G9 c.hb c.gh c.gq c.q c.v.sQ) []) t0).getD s aA):=λs=>rfl;exact bsRQ hT V1
   .have al:bM c.hb c.v w' c.v ((Tt.tp w' T 0).alloc (.cells #[.chan (some c.q)] 95)):=(bM.refl.tp T 0).trans (bM.below (dS (eF _ _) _))
    exact fO _ _ _ _ ⟨rfl,rfl,λ_=>⟨Aa (hR aQ).1 _,dJ (hR aQ).2.1 _,dJ (hR aQ).2.2 _⟩,⟨_,rfl,lQ _ _⟩,(z3.tp T 0).alloc _,z5.trans al,eG s6 zfh⟩
  .obtain rfl:7=ci:=by simpa using hc
   rw[zhd] at ho;obtain rfl:=cE ho;obtain⟨rfl,rfl,hR,⟨gs,rfl,zcJ⟩,z3,z5,s6⟩:=hS;have zms:=F7 lW (s:=60) aH (qL KO zy0 rfl kQ rfl);have zkg:=F7 lW (s:=62) aH (qL KO zau rfl kQ rfl);have zm0:some c.gh∉parts c.v c.hb:=zaD;have zGx:some c.gq∉parts c.v c.hb:=zbn;refine BO.op hF hI zhd (eB rfl) zkr (λs hs=>hn 7 _ s zhd hs) (λT=>?_);have a1:=z3.tp T 0;obtain⟨q1,q2,w5,fN,cV,nD,eY⟩:=M9 (w:=Tt.tp w' T 0) (t:=68) (ty:=68) info_cq Tryz.underlying68 rfl aH a1.Q (g:=gs) (cs:=#[.chan (some c.q)]) (news:=[.chan (some c.q)]) zcJ rfl (m:=1) rfl aH Ng aC aH s6;obtain⟨a6,t6⟩:=a1.putQ nD (xs:=c.d.qn++[c.q]) (by rw[zuB];exact cV) aQ eY;have x4:=(a1.other (j:=4) (c:=6) (x:=c.v.sQ) rfl aH nD (.slice (some ⟨q1,0,none⟩) (c.d.qn.length+1) q2)).2.trans a1.blk;have Fe:w5.heap[c.gh]? =some _:=(nD.block c.gh (fY (hR aQ).2.1) (λe=>zm0 (dX (i:=4) (show(parts c.v c.hb)[4]? =some (some c.gh) by rw[e];rfl)))).trans (hR aQ).2.1;have Ag:w5.heap[c.gq]? =some _:=(nD.block c.gq (fY (hR aQ).2.2) (λe=>zGx (dX (i:=4) (show(parts c.v c.hb)[4]? =some (some c.gq) by rw[e];rfl)))).trans (hR aQ).2.2;refine⟨_,w5,.inl (by rw[hp];exact Y3 rfl zms zkg fN),fO _ _ _ _ ⟨rfl,rfl,λ_=>⟨aJ x4 6,Fe,Ag⟩,⟨q1,q2,rfl⟩,eJ x4 6,_,a6,z5.trans ((bM.refl.tp T 0).trans t6),rfl,rfl,rfl⟩⟩
  .obtain rfl:10=ci:=by simpa using hc
   rw[zds] at ho;obtain rfl:=cE ho;obtain⟨rfl,rfl,hR,⟨q1,q2,rfl⟩,mU,yM⟩:=hS;have V1:(dC oN (VV [6,7,10] (G9 c.hb c.gh c.gq c.q c.v.sQ) [a,.slice (some ⟨q1,0,none⟩) (c.d.qn.length+1) q2]) t0).getD 63 aA=.slice (some ⟨q1,0,none⟩) (c.d.qn.length+1) q2:=qL KO zhd rfl kQ rfl;have V2:(dC oN (VV [6,7,10] (G9 c.hb c.gh c.gq c.q c.v.sQ) [a,.slice (some ⟨q1,0,none⟩) (c.d.qn.length+1) q2]) t0).getD 65 aA=.pointer (some ⟨c.hb,6,none⟩):=qL KO zy8 rfl kQ rfl;refine BO.op hF hI zds (eB rfl) zkr (λs hs=>hn 10 _ s zds hs) (λT=>⟨aA,Tt.tp (w'.setCell ⟨c.hb,6,none⟩ (.slice (some ⟨q1,0,none⟩) (c.d.qn.length+1) q2)) T 0,.inr ⟨?_,rfl⟩,?_⟩)
   .rw[hp]
    rw[Ei (KO.sel 10 _ zds) lW];have hT:xA (dC oN (VV [6,7,10] (G9 c.hb c.gh c.gq c.q c.v.sQ) [a,.slice (some ⟨q1,0,none⟩) (c.d.qn.length+1) q2]) t0) (λs=>(dC oN (VV [6,7,10] (G9 c.hb c.gh c.gq c.q c.v.sQ) [a,.slice (some ⟨q1,0,none⟩) (c.d.qn.length+1) q2]) t0).getD s aA):=λs=>rfl;exact stRQ hT V2 V1 (hR aQ).1 mU
   .exact fO aA _ _ _ ⟨rfl,rfl,λh=>absurd h aQ,WH.RQ2.tp yM T 0⟩
  .simp at hc
end
end Go.Proofs.YtfcjiloojkjaeaaGreatDoor
namespace Go.Proofs.YtfcjiloojkjaeaaGreatDoor
open Go.RowKit
theorem zib (o:jD)(w:aE):
 fH aK 33 #[.agg #[.int .i64 o.ln,.int .i64 o.op,.int .i64 o.pt]] w λx w'=>x=.returned (.bool (rR o))/\bR w.heap.size w w':=by
 go_enter Tryz.func33,Tryz.ntmps33
 go_wp2
 all_goals go_ret
 all_goals refine⟨E5 ?_,((eF _ _).alloc (aX _) _)⟩
 all_goals rw[Ns]
 all_goals simp[rR,inB] at*
 all_goals grind
theorem zxo (e:dB)(ops:Int)(w:aE)(ho:1<=ops/\ops<=4):
 fH aK 52 #[.agg #[.string e.k,.int .i64 e.a,.int .i64 e.b],.int .i64 ops] w λx w'=>x=.returned (.bool (tE ops e))/\bR w.heap.size w w':=by
 obtain⟨yE,zaF⟩:=ho
 go_enter Tryz.func52,Tryz.ntmps52
 go_wp2
 all_goals go_ret
 all_goals refine⟨E5 ?_,((eF _ _).alloc (aX _) _)⟩
 all_goals rw[Ns]
 all_goals simp[tE,Js,inB,Iz,K8,Hp,Hs,zai] at*
 all_goals grind
end Go.Proofs.YtfcjiloojkjaeaaGreatDoor
namespace Go.Proofs.YtfcjiloojkjaeaaGreatDoor
open Go.RowKit Go.Mt Go.Conc Go.Tt Go.Maps Go.Conc.Lib Go.ConcR.Gen
open Go.ConcR (KK wgBlock WgAt stA smA rd wr)
structure oE (wB:aE)(lo go ge n c:Nat)(A:Option bL)(o:jD)(es:List dB)(w:aE):Prop where
 lo_:lo<=w.heap.size
 tab:zZ lo w
 ev:bX w 0 lo 3 A n c (lL es)
 gol:go<lo
 gel:ge<lo
 bo:w.heap[go]? =some (.cells #[.int .i64 o.ln,.int .i64 o.op,.int .i64 o.pt] 29)
 be:w.heap[ge]? =some (.cells #[.slice A n c] 31)
 old:∀b,b<lo->w.heap[b]? =wB.heap[b]?
section
variable {lo go ge n c:Nat}{A:Option bL}{o:jD}{es:List dB}{wB w w':aE}
def oE.keep (h:oE wB lo go ge n c A o es w)(hs:w.heap.size<=w'.heap.size)(k:∀b,b<lo->w'.heap[b]? =w.heap[b]?):oE wB lo go ge n c A o es w':=
 ⟨eG h.lo_ hs,h.tab.keep k,h.ev.keep hs λb _ q _=>k b q,h.gol,h.gel,(k _ h.gol).trans h.bo,(k _ h.gel).trans h.be,λb hb=>(k b hb).trans (h.old b hb)⟩
def oE.below (h:oE wB lo go ge n c A o es w)(k:bR w.heap.size w w'):oE wB lo go ge n c A o es w':=h.keep k.size λb hb=>k.block b (lC hb h.lo_)
def oE.tp (h:oE wB lo go ge n c A o es w)(T:jV)(e:Nat):oE wB lo go ge n c A o es (Tt.tp w T e):=h.keep (aX _) λ_ _=>rfl
end
structure oC (wB:aE)(lo go ge n c:Nat)(A:Option bL)(o:jD)(es:List dB)(hb gh:Nat)(ln qn:List Nat)(v:fL)(w:aE):Prop where
 e:oE wB lo go ge n c A o es w
 at_:bE w lo hb v ⟨l7 o,ln,qn,[]⟩
 mp:v.pC=[]/\v.pO=[]/\v.pM=[]
 nd:ln.Nodup
 lt:∀x∈ln,x<w.heap.size
 bh:w.heap[gh]? =some (.cells #[.pointer (some ⟨hb,0,none⟩)] 63)
 nh:some gh∉parts v hb
 ghl:lo<=gh
section
variable {lo go ge n c hb gh:Nat}{A:Option bL}{o:jD}{es:List dB}{ln qn zfB zfm:List Nat}{v v':fL}{wB w w':aE}
theorem oC.turn (h:oC wB lo go ge n c A o es hb gh ln qn v w)(t:bM hb v w v' w')(a:bE w' lo hb v' ⟨l7 o,zfB,zfm,[]⟩)(m:v.maps v')(hn:zfB.Nodup)(hl:∀x∈zfB,x<w'.heap.size):oC wB lo go ge n c A o es hb gh zfB zfm v' w':=by
 obtain⟨b1,b2⟩:=h.at_.turned t h.bh h.nh;refine⟨h.e.keep t.size λb bZ=>t.block b (lC bZ h.e.lo_) λhp=>?_,a,⟨m.1.trans h.mp.1,m.2.1.trans h.mp.2.1,m.2.2.trans h.mp.2.2⟩,hn,hl,b1,b2,h.ghl⟩;have:=(h.at_.lt b hp).1;omega
def oC.below (h:oC wB lo go ge n c A o es hb gh ln qn v w)(k:bR w.heap.size w w'):oC wB lo go ge n c A o es hb gh ln qn v w':=
 h.turn (bM.below k) (h.at_.below k) ⟨rfl,rfl,rfl⟩ h.nd λx hx=>lC (h.lt x hx) k.size
def oC.tp (h:oC wB lo go ge n c A o es hb gh ln qn v w)(T:jV)(e:Nat):oC wB lo go ge n c A o es hb gh ln qn v (Tt.tp w T e):=⟨h.e.tp T e,h.at_.tp T e,h.mp,h.nd,h.lt,h.bh,h.nh,h.ghl⟩
theorem oC.mr (h:oC wB lo go ge n c A o es hb gh ln qn v w):gC v ⟨l7 o,ln,qn,[]⟩:=by
 obtain⟨h1,h2,h3⟩:=h.mp;refine⟨by rw[h1];exact Qa,by rw[h2];exact Qa,by rw[h3];exact Qa,λi g _=>?_,λc y hy=>?_,λc _ i x hx=>?_,λc y hy=>?_,λc _ i x hx=>?_⟩
 .rw[h1]
  refine⟨λx=>(by cases x),λ⟨j,x,hx,_⟩=>?_⟩;have hx:([]:List bT)[j]? =some x:=hx;simp at hx
 .rw[h2] at hy;cases hy
 .have hx:([]:List bT)[i]? =some x:=hx
  simp at hx
 .rw[h3] at hy;cases hy
 .have hx:([]:List bT)[i]? =some x:=hx
  simp at hx
end
def Ys:Go.Code:=.seq rRH11 (.seq (.cond (.tmp 39) .skip (.exit 2)) (.seq (.block 3 zab) rRH13))
def zay:Go.Code:=.seq rRH4 (.seq (.cond (.tmp 21) .skip (.exit 0)) (.seq (.block 1 (.seq rRH5 (.seq rRH6 (.cond (.tmp 28) (.seq rRH7 .ret) .skip)))) rRH8))
section
variable {Post:aF->aE->Prop}{Shun:Loc->Prop}{W0:aE}{St:Nat->Prop}{R0:Pr}{base:List dH}{wB:aE}{lo go ge n c hb gh:Nat}{A:Option bL}{o:jD}{es:List dB}
abbrev H4 (Post:aF->aE->Prop)(Shun:Loc->Prop)(W0:aE)(St:Nat->Prop)(R0:Pr)(base:List dH)(K:Pr):Cx Unit:=D3 aK Bq gD Post Shun W0 St K R0 base
theorem zGo {kk:List eE}(h6:o.ln<=6)(K0:Pr)(zaL:∀K w v ln u0 u1 u4 u5 u6 u8 u9 gU gH gK gF gJ gI u16 iH kO kH jO iM iE gY iD iJ iC iI iO iK jH jI u32 iG iB iF iA iL gZ iN iZ iX iP iS iY jB jC iV iT iW mJ mE lB lA kJ kK kR kT kP jZ j6 j8 u64 j7 kF kD j9 kY kI kL j5,K0.le K->oC wB lo go ge n c A o es hb gh ln [] v w->(ln.length:Int)=o.ln->BO (H4 Post Shun W0 St R0 base K) () ⟨42,#[u0,u1,.pointer (some ⟨go,0,none⟩),.pointer (some ⟨ge,0,none⟩),u4,u5,u6,.pointer (some ⟨gh,0,none⟩),u8,u9,gU,gH,gK,gF,gJ,gI,u16,iH,kO,kH,jO,iM,iE,gY,iD,iJ,iC,iI,iO,iK,jH,jI,u32,iG,iB,iF,iA,.int .i64 o.ln,.int .i64 o.ln,iL,gZ,iN,iZ,iX,iP,iS,iY,jB,jC,iV,iT,iW,mJ,mE,lB,lA,kJ,kK,kR,kT,kP,jZ,j6,j8,u64,j7,kF,kD,j9,kY,kI,kL,j5],kk,false⟩ w):
 ∀(m k:Nat),((k+m:Nat):Int)=o.ln->∀(K:Pr) (w:aE) (v:fL) (ln:List Nat) (u0 u1 u4 u5 u6 u8 u9 gU gH gK gF gJ gI u16 iH kO kH jO iM iE gY iD iJ iC iI iO iK jH jI u32 iG iB iF iA iL gZ iN iZ iX iP iS iY jB jC iV iT iW mJ mE lB lA kJ kK kR kT kP jZ j6 j8 u64 j7 kF kD j9 kY kI kL j5:aF),K0.le K->oC wB lo go ge n c A o es hb gh ln [] v w->ln.length=k->BO (H4 Post Shun W0 St R0 base K) () ⟨42,#[u0,u1,.pointer (some ⟨go,0,none⟩),.pointer (some ⟨ge,0,none⟩),u4,u5,u6,.pointer (some ⟨gh,0,none⟩),u8,u9,gU,gH,gK,gF,gJ,gI,u16,iH,kO,kH,jO,iM,iE,gY,iD,iJ,iC,iI,iO,iK,jH,jI,u32,iG,iB,iF,iA,.int .i64 o.ln,.int .i64 k,iL,gZ,iN,iZ,iX,iP,iS,iY,jB,jC,iV,iT,iW,mJ,mE,lB,lA,kJ,kK,kR,kT,kP,jZ,j6,j8,u64,j7,kF,kD,j9,kY,kI,kL,j5],.code Ys:: .inLoop Ys:: .inBlock 2::kk,false⟩ w:=by
 intro m
 induction m with
 |zero=>
  intro k hk K w v ln u0 u1 u4 u5 u6 u8 u9 gU gH gK gF gJ gI u16 iH kO kH jO iM iE gY iD iJ iC iI iO iK jH jI u32 iG iB iF iA iL gZ iN iZ iX iP iS iY jB jC iV iT iW mJ mE lB lA kJ kK kR kT kP jZ j6 j8 u64 j7 kF kD j9 kY kI kL j5 hK hR hl;have zA:(k:Int)=o.ln:=by simpa using hk
  have Hj:¬(k:Int)<o.ln:=aC;have HR:=aD hR;have HE:=aD zA;clear hR hk zA;unfold Ys;refine BO.seq dA ?_;refine BO.pV mP dA tV (λw1 T1 fB Q' cY=>?_);have lJ:=aD (show oC wB lo go ge n c A o es hb gh ln [] v w1 by rw[fB];exact HR.o.tp T1 0);clear HR;clear fB;go_wp2;refine cY.o _ _ ?_;clear cY;refine BO.seq dA ?_;refine BO.cond dA (t:=false) rfl rfl ?_;refine BO.exit dA (k':=kk) rfl ?_;have zA:=HE.o;rw[zA];exact zaL K _ v ln _ _ _ _ _ _ _ _ _ _ _ _ _ _ _ _ _ _ _ _ _ _ _ _ _ _ _ _ _ _ _ _ _ _ _ _ _ _ _ _ _ _ _ _ _ _ _ _ _ _ _ _ _ _ _ _ _ _ _ _ _ _ _ _ _ _ _ _ hK lJ.o aC
 |succ m ih=>
  intro k hk K w v ln u0 u1 u4 u5 u6 u8 u9 gU gH gK gF gJ gI u16 iH kO kH jO iM iE gY iD iJ iC iI iO iK jH jI u32 iG iB iF iA iL gZ iN iZ iX iP iS iY jB jC iV iT iW mJ mE lB lA kJ kK kR kT kP jZ j6 j8 u64 j7 kF kD j9 kY kI kL j5 hK hR hl;have Hj:(k:Int)<o.ln:=aC;have HR:=aD hR;have HK:=aD hk;clear hR hk;unfold Ys;refine BO.seq dA ?_;refine BO.pV mP dA tV (λw1 T1 fB Q' cY=>?_);have lJ:=aD (show oC wB lo go ge n c A o es hb gh ln [] v w1 by rw[fB];exact HR.o.tp T1 0);clear HR;clear fB;go_wp2;refine cY.o _ _ ?_;clear cY;refine BO.seq dA ?_;refine BO.cond dA (t:=true) rfl rfl ?_;refine BO.skip dA ?_;refine BO.seq dA ?_;refine BO.block dA ?_;refine cw_RL (c:=⟨lo,hb,gh,0,0,v,w1,v,⟨l7 o,ln,[],[]⟩⟩) (by show ln.length<=1000;omega) lJ.o.nh rfl rfl (λvs C' l' w' tU hS=>?_) ⟨K,wX _,rfl,λ_=>⟨aJ lJ.o.at_.blk 3,lJ.o.bh⟩,⟨lJ.o.at_,bM.refl,lJ.o.e.lo_⟩,lJ.o.lt⟩;rw[Go.Mt.An,zyK];simp only[Go.Mt.xL,dV,dW];obtain⟨K',hle,rfl,_,h4⟩:=hS;have s4:∃g,(∀x∈ln,x<g)/\g<w'.heap.size/\WH.RL2 ⟨lo,hb,gh,0,0,v,w1,v,⟨l7 o,ln,[],[]⟩⟩ g w':=by
   rcases vs with _|⟨a,_|⟨b,_|⟨x,_|⟨y,vs⟩⟩⟩⟩
   .cases tU
   .cases tU
   .cases tU
   .cases tU
   .exact h4
  obtain⟨g,s2,s3,v2,a2,t2,mp⟩:=s4;have rL:K0.le K':=vP hK hle;have La:oC wB lo go ge n c A o es hb gh (ln++[g]) [] v2 w':=lJ.o.turn t2 a2 mp (by
   rw[List.nodup_append];refine⟨lJ.o.nd,List.nodup_cons.2 ⟨lZ,Qa⟩,λa ha b bZ=>?_⟩;obtain rfl:=sE.1 bZ;have:=s2 a ha;omega) (λx hx=>by
   rcases List.mem_append.1 hx with hx|hx
   .exact zkV (s2 x hx) s3
   .obtain rfl:=sE.1 hx;exact s3)
  have lE:=aD La;clear La a2 t2 mp s2 h4 tU lJ;refine BO.regEnd dA ?_;refine BO.inBlock dA ?_;refine BO.pV mP dA tV (λw2 T2 fX Q' cY=>?_);have Qk:=aD (show oC wB lo go ge n c A o es hb gh (ln++[g]) [] v2 w2 by rw[fX];exact lE.o.tp T2 0);clear lE;clear fX;go_wp2;refine cY.o _ _ ?_;clear cY;refine BO.inLoop dA ?_;exact ih (k+1) (by have:=HK.o;omega) K' _ v2 (ln++[g]) _ _ _ _ _ _ _ _ _ _ _ _ _ _ _ _ _ _ _ _ _ _ _ _ _ _ _ _ _ _ _ _ _ _ _ _ _ _ _ _ _ _ _ _ _ _ _ _ _ _ _ _ _ _ _ _ _ _ _ _ _ _ _ _ _ _ _ _ rL Qk.o (by rw[gM,hl];rfl)
end
section
variable {Post:aF->aE->Prop}{Shun:Loc->Prop}{W0:aE}{St:Nat->Prop}{R0:Pr}{base:List dH}{K:Pr}{wB:aE}{lo go ge n c:Nat}{A:Option bL}{o:jD}{es:List dB}
theorem zFs {kk:List eE}(hop:1<=o.op/\o.op<=4)(zDb:n<=60)(Bo:es.length=n)
 (Q6:∀(T:Array aF) todo w,T.getD 4 aA=.pointer none->oE wB lo go ge n c A o es w->es.all (tE o.op)=false->BO (H4 Post Shun W0 St R0 base K) () ⟨42,T,todo,true⟩ w)
 (zaL:∀w jO u0 u1 u5 u6 u7 u8 u9 gU gH gK gF gJ gI u16 iH iM iE gY iD iJ iC iI iO iK jH jI u32 iG iB iF iA kV kN iL gZ iN iZ iX iP iS iY jB jC iV iT iW mJ mE lB lA kJ kK kR kT kP jZ j6 j8 u64 j7 kF kD j9 kY kI kL j5,oE wB lo go ge n c A o es w->es.all (tE o.op)=true->BO (H4 Post Shun W0 St R0 base K) () ⟨42,#[u0,u1,.pointer (some ⟨go,0,none⟩),.pointer (some ⟨ge,0,none⟩),.pointer none,u5,u6,u7,u8,u9,gU,gH,gK,gF,gJ,gI,u16,iH,.slice A n c,.int .i64 n,jO,iM,iE,gY,iD,iJ,iC,iI,iO,iK,jH,jI,u32,iG,iB,iF,iA,kV,kN,iL,gZ,iN,iZ,iX,iP,iS,iY,jB,jC,iV,iT,iW,mJ,mE,lB,lA,kJ,kK,kR,kT,kP,jZ,j6,j8,u64,j7,kF,kD,j9,kY,kI,kL,j5],kk,false⟩ w):
 ∀(m k:Nat),k+m=n->∀(w:aE) (u0 u1 u5 u6 u7 u8 u9 gU gH gK gF gJ gI u16 iH iM iE gY iD iJ iC iI iO iK jH jI u32 iG iB iF iA kV kN iL gZ iN iZ iX iP iS iY jB jC iV iT iW mJ mE lB lA kJ kK kR kT kP jZ j6 j8 u64 j7 kF kD j9 kY kI kL j5:aF),oE wB lo go ge n c A o es w->(∀j,j<k->∀b,es[j]? =some b->tE o.op b=true)->BO (H4 Post Shun W0 St R0 base K) () ⟨42,#[u0,u1,.pointer (some ⟨go,0,none⟩),.pointer (some ⟨ge,0,none⟩),.pointer none,u5,u6,u7,u8,u9,gU,gH,gK,gF,gJ,gI,u16,iH,.slice A n c,.int .i64 n,.int .i64 k,iM,iE,gY,iD,iJ,iC,iI,iO,iK,jH,jI,u32,iG,iB,iF,iA,kV,kN,iL,gZ,iN,iZ,iX,iP,iS,iY,jB,jC,iV,iT,iW,mJ,mE,lB,lA,kJ,kK,kR,kT,kP,jZ,j6,j8,u64,j7,kF,kD,j9,kY,kI,kL,j5],.code zay:: .inLoop zay:: .inBlock 0::kk,false⟩ w:=by
 intro m
 induction m with
 |zero=>
  intro k hk w u0 u1 u5 u6 u7 u8 u9 gU gH gK gF gJ gI u16 iH iM iE gY iD iJ iC iI iO iK jH jI u32 iG iB iF iA kV kN iL gZ iN iZ iX iP iS iY jB jC iV iT iW mJ mE lB lA kJ kK kR kT kP jZ j6 j8 u64 j7 kF kD j9 kY kI kL j5 hE tF;have zA:n=k:=aC;subst zA;have Hj:¬(n:Int)<(n:Int):=aC;have HE:=aD hE;have HA:=aD tF;have HN:=aD Bo;clear hE tF Bo hk;unfold zay;refine BO.seq dA ?_;refine BO.pV mP dA tV (λw1 T1 fB Q' cY=>?_);have cK:=aD (show oE wB lo go ge n c A o es w1 by rw[fB];exact HE.o.tp T1 0);clear HE;clear fB;go_wp2;refine cY.o _ _ ?_;clear cY;refine BO.seq dA ?_;refine BO.cond dA (t:=false) rfl rfl ?_;refine BO.exit dA (k':=kk) rfl ?_;exact zaL _ _ _ _ _ _ _ _ _ _ _ _ _ _ _ _ _ _ _ _ _ _ _ _ _ _ _ _ _ _ _ _ _ _ _ _ _ _ _ _ _ _ _ _ _ _ _ _ _ _ _ _ _ _ _ _ _ _ _ _ _ _ _ _ _ _ _ _ _ cK.o (zHT HA.o (by rw[HN.o];exact aX _))
 |succ m ih=>
  intro k hk w u0 u1 u5 u6 u7 u8 u9 gU gH gK gF gJ gI u16 iH iM iE gY iD iJ iC iI iO iK jH jI u32 iG iB iF iA kV kN iL gZ iN iZ iX iP iS iY jB jC iV iT iW mJ mE lB lA kJ kK kR kT kP jZ j6 j8 u64 j7 kF kD j9 kY kI kL j5 hE tF;have aN:k<n:=aC;have Hj:(k:Int)<(n:Int):=aC;have i0:(0:Int)<=(k:Int):=aC;have HE:=aD hE;have HA:=aD tF;have HN:=aD Bo;have HK:=aD hk;clear hE tF Bo hk;unfold zay;refine BO.seq dA ?_;refine BO.pV mP dA tV (λw1 T1 fB Q' cY=>?_);have cK:=aD (show oE wB lo go ge n c A o es w1 by rw[fB];exact HE.o.tp T1 0);clear HE;clear fB;go_wp2;refine cY.o _ _ ?_;clear cY;refine BO.seq dA ?_;refine BO.cond dA (t:=true) rfl rfl ?_;refine BO.skip dA ?_;refine BO.seq dA ?_;refine BO.block dA ?_;refine BO.seq dA ?_;obtain⟨be,oe,ev,hA,zAu,zgh,ziR,E9,e0,e1,e2⟩:=cK.o.ev.eventsAt aN;subst hA;have Nu:=aD E9;clear E9;refine BO.pV mP dA tV (λw2 T2 fX Q' cY=>?_);have nC:=aD (show oE wB lo go ge n c (some ⟨be,oe,none⟩) o es w2 by rw[fX];exact cK.o.tp T2 0);have zeU:w2.cell? ⟨be,oe+k*3,none⟩=some (.string ev.k):=by rw[fX];exact e0
  have Fq:w2.cell? ⟨be,oe+k*3+1,none⟩=some (.int .i64 ev.a):=by rw[fX];exact e1
  have zht:w2.cell? ⟨be,oe+k*3+2,none⟩=some (.int .i64 ev.b):=by rw[fX];exact e2
  clear e0 e1 e2;clear cK;clear fX;go_wp2;refine cY.o _ _ ?_;clear cY;clear zeU Fq zht;obtain⟨gb,eV⟩:=aU w2.heap.size;obtain⟨w3,iU⟩:=aU (w2.alloc (.cells #[.string ev.k,.int .i64 ev.a,.int .i64 ev.b] 54));have uQ:=aD (show oE wB lo go ge n c (some ⟨be,oe,none⟩) o es w3 by rw[iU];exact nC.o.below (dS (eF _ _) _));have vL:=aD (show w3.heap[gb]? =some (.cells #[.string ev.k,.int .i64 ev.a,.int .i64 ev.b] 54) by rw[iU,eV];exact lQ _ _);rw[<-eV,<-iU];clear iU eV nC;refine BO.seq dA ?_
  cases hv:tE o.op ev with
  |true=>
   refine BO.pV mP dA tV (λw4 T3 lN Q' cY=>?_);have zda:=aD (show oE wB lo go ge n c (some ⟨be,oe,none⟩) o es w4 by rw[lN];exact uQ.o.tp T3 0);have g0:w4.cell? ⟨gb,0,none⟩=some (.string ev.k):=by rw[lN];exact aJ vL.o 0
   have g1:w4.cell? ⟨gb,1,none⟩=some (.int .i64 ev.a):=by rw[lN];exact aJ vL.o 1
   have g2:w4.cell? ⟨gb,2,none⟩=some (.int .i64 ev.b):=by rw[lN];exact aJ vL.o 2
   have o1:w4.cell? ⟨go,1,none⟩=some (.int .i64 o.op):=by rw[lN];exact aJ uQ.o.bo 1
   have HV:=aD hv;clear uQ vL hv;clear lN
   go_wp2_with ((go_at_call 52;refine(zxo ev o.op _ hop).mono ?_;rintro e w' ⟨rfl,mQ⟩))
   refine cY.o _ _ ?_;clear cY;clear g0 g1 g2 o1;have zaO:=aD (zda.o.below mQ);clear mQ zda;refine BO.cond dA (t:=false) rfl (by first|rfl|simp[wH,HV.o]) ?_;refine BO.skip dA ?_;refine BO.inBlock dA ?_;refine BO.pV mP dA tV (λw6 T6 pB Q' cY=>?_);have znp:=aD (show oE wB lo go ge n c (some ⟨be,oe,none⟩) o es w6 by rw[pB];exact zaO.o.tp T6 0);clear zaO;clear pB;go_wp2;refine cY.o _ _ ?_;clear cY;refine BO.inLoop dA ?_;exact ih (k+1) (by have:=HK.o;omega) _ _ _ _ _ _ _ _ _ _ _ _ _ _ _ _ _ _ _ _ _ _ _ _ _ _ _ _ _ _ _ _ _ _ _ _ _ _ _ _ _ _ _ _ _ _ _ _ _ _ _ _ _ _ _ _ _ _ _ _ _ _ _ _ _ _ _ _ znp.o (zBG HA.o Nu.o HV.o)
  |false=>
   refine BO.pV mP dA tV (λw4 T3 lN Q' cY=>?_);have zda:=aD (show oE wB lo go ge n c (some ⟨be,oe,none⟩) o es w4 by rw[lN];exact uQ.o.tp T3 0);have g0:w4.cell? ⟨gb,0,none⟩=some (.string ev.k):=by rw[lN];exact aJ vL.o 0
   have g1:w4.cell? ⟨gb,1,none⟩=some (.int .i64 ev.a):=by rw[lN];exact aJ vL.o 1
   have g2:w4.cell? ⟨gb,2,none⟩=some (.int .i64 ev.b):=by rw[lN];exact aJ vL.o 2
   have o1:w4.cell? ⟨go,1,none⟩=some (.int .i64 o.op):=by rw[lN];exact aJ uQ.o.bo 1
   have HV:=aD hv;clear uQ vL hv;clear lN
   go_wp2_with ((go_at_call 52;refine(zxo ev o.op _ hop).mono ?_;rintro e w' ⟨rfl,mQ⟩))
   refine cY.o _ _ ?_;clear cY;clear g0 g1 g2 o1;have zaO:=aD (zda.o.below mQ);clear mQ zda;refine BO.cond dA (t:=true) rfl (by first|rfl|simp[wH,HV.o]) ?_;refine BO.seq dA ?_;refine BO.pV mP dA tV (λw6 T6 pB Q' cY=>?_);have znp:=aD (show oE wB lo go ge n c (some ⟨be,oe,none⟩) o es w6 by rw[pB];exact zaO.o.tp T6 0);clear zaO;clear pB;go_wp2;refine cY.o _ _ ?_;clear cY;refine BO.ret dA ?_;exact Q6 _ _ _ rfl znp.o (zEB Nu.o HV.o)
end
variable {w w':aE}
theorem zhJ (h:w'.heap=w.heap)(ht:vO w):vO w':=by
 unfold vO zgZ zgv at*;rw[h];exact ht
variable {lo:Nat}{w1:aE}
theorem zZ.of (h:vO w)(dQ:w.heap.size<=lo)(hs:lo<=w1.heap.size)(k:∀b,b<w.heap.size->w1.heap[b]? =w.heap[b]?):zZ lo w1:=λw' hw=>by
 have hz:w.heap.size<=w'.heap.size:=by
  rcases mX w'.heap.size w.heap.size with h'|h'
  .have e1:=hw w'.heap.size aC
   rw[k _ h',Array.getElem?_eq_none (aX _),mK h'] at e1;cases e1
  .exact h'
 have hb:bR w.heap.size w {w' with os:=w.os,tape:=w.tape,output:=w.output}:=⟨rfl,rfl,rfl,hz,λb hb=>(hw b aC).trans (k b hb)⟩;exact zhJ (w:={w' with os:=w.os,tape:=w.tape,output:=w.output}) rfl (znQ h _ hb)
def fJ (s:Nat):fL:=⟨.slice none 0 0,.slice none 0 0,.slice none 0 0,.slice none 0 0,.slice none 0 0,.slice none 0 0,.slice none 0 0,s,s+1,s+2,[],[],[]⟩
variable {b:Nat}
def zuI {x:Obj}(h:w.heap[b]? =some x)(o:Obj):(w.alloc o).heap[b]? =some x:=(bR.heap_alloc w o b (dO.1 h).1).trans h
theorem zDJ (dQ:lo<=w.heap.size)(o:jD)(w5:aE)(h5:w5=((((w.alloc (.map #[] 0)).alloc (.map #[] 0)).alloc (.map #[] 0)).alloc (O0 (fJ w.heap.size) ⟨l7 o,[],[],[]⟩)).alloc (.cells #[.pointer (some ⟨w.heap.size+3,0,none⟩)] 63)):
 bE w5 lo (w.heap.size+3) (fJ w.heap.size) ⟨l7 o,[],[],[]⟩/\w5.heap[w.heap.size+4]? =some (.cells #[.pointer (some ⟨w.heap.size+3,0,none⟩)] 63)/\some (w.heap.size+4)∉parts (fJ w.heap.size) (w.heap.size+3)/\bR w.heap.size w w5:=by
 obtain⟨a1,Ay⟩:=aU (w.alloc (.map #[] 0));obtain⟨a2,zcj⟩:=aU (a1.alloc (.map #[] 0));obtain⟨a3,Zq⟩:=aU (a2.alloc (.map #[] 0));obtain⟨a4,Tu⟩:=aU (a3.alloc (O0 (fJ w.heap.size) ⟨l7 o,[],[],[]⟩));rw[<-Ay,<-zcj,<-Zq,<-Tu] at h5;have z1:a1.heap.size=w.heap.size+1:=by rw[Ay];exact qR _ _
 have z2:a2.heap.size=w.heap.size+2:=by rw[zcj,qR,z1]
 have z3:a3.heap.size=w.heap.size+3:=by rw[Zq,qR,z2]
 have z4:a4.heap.size=w.heap.size+4:=by rw[Tu,qR,z3]
 have z5:w5.heap.size=w.heap.size+5:=by rw[h5,qR,z4]
 have k1:a1.heap[w.heap.size]? =some (.map #[] 0):=by rw[Ay];exact Ee _ _
 have k2:a2.heap[w.heap.size+1]? =some (.map #[] 0):=by rw[zcj,<-z1];exact Ee _ _
 have k3:a3.heap[w.heap.size+2]? =some (.map #[] 0):=by rw[Zq,<-z2];exact Ee _ _
 have k4:a4.heap[w.heap.size+3]? =some (O0 (fJ w.heap.size) ⟨l7 o,[],[],[]⟩):=by rw[Tu,<-z3];exact Ee _ _
 have k5:w5.heap[w.heap.size+4]? =some (.cells #[.pointer (some ⟨w.heap.size+3,0,none⟩)] 63):=by rw[h5,<-z4];exact Ee _ _
 have u:∀{x y:aE} {b:Nat} {ob q:Obj},y=x.alloc q->x.heap[b]? =some ob->y.heap[b]? =some ob:=λe h=>by rw[e];exact zuI h _
 have m1:=u h5 (u Tu (u Zq (u zcj k1)));have m2:=u h5 (u Tu (u Zq k2));have m3:=u h5 (u Tu k3);have m4:=u h5 k4;have pp:∀(i b:Nat),(parts (fJ w.heap.size) (w.heap.size+3))[i]? =some (some b)->(i=0/\b=w.heap.size+3)\/(i=2/\b=w.heap.size)\/(i=3/\b=w.heap.size+1)\/(i=8/\b=w.heap.size+2):=λi b h=>by
  unfold parts fJ at h;rcases i with _|_|_|_|_|_|_|_|_|_|_|i<;>simp[aF.ownBlock] at h<;>omega
 refine⟨⟨m4,⟨aC,dQ,by show lo<=w.heap.size+1;omega,by show lo<=w.heap.size+2;omega⟩,⟨rfl,.inl ⟨rfl,rfl⟩⟩,⟨rfl,.inl ⟨rfl,rfl⟩⟩,⟨rfl,.inl ⟨rfl,rfl⟩⟩,⟨rfl,.inl ⟨rfl,rfl⟩⟩,⟨rfl,.inl ⟨rfl,rfl⟩⟩,⟨rfl,.inl ⟨rfl,rfl⟩⟩,⟨rfl,.inl ⟨rfl,rfl⟩⟩,⟨_,_,m1,rfl⟩,⟨_,_,m2,rfl⟩,⟨_,_,m3,rfl⟩,λi j b hi hj=>?_⟩,k5,λhp=>?_,?_⟩
 .have:=pp i b hi;have:=pp j b hj;omega
 .obtain⟨i,hi⟩:=List.mem_iff_getElem?.1 hp
  have:=pp i _ hi;omega
 .subst h5;subst Tu;subst Zq;subst zcj;subst Ay
  exact dS (dS (dS (dS (dS (eF _ _) _) _) _) _) _
def Fy:Go.Code:=.seq (.seq zmj (.block 4 (.loop (.seq zlL (.seq (.cond (.tmp 54) .skip (.exit 4)) (.seq (.block 5 (.seq zc8 (.seq Qj (.seq Rb Sc)))) zif)))))) (.seq Zs (.seq Za (.seq Vy (.seq Sv .ret))))
section
variable {Post:aF->aE->Prop}{Shun:Loc->Prop}{W0:aE}{St:Nat->Prop}{R0:Pr}{base:List dH}{K:Pr}{wB:aE}{lo go ge n c:Nat}{A:Option bL}{o:jD}{es:List dB}
theorem rh_made (C9:rR o=true)(hgo:∀K' w v ln hb gh u0 u1 u4 u5 u6 u8 u9 gU gH gK gF gJ gI u16 iH kO kH jO iM iE gY iD iJ iC iI iO iK jH jI u32 iG iB iF iA kV kN iL gZ iN iZ iX iP iS iY jB jC iV iT iW mJ mE lB lA kJ kK kR kT kP jZ j6 j8 u64 j7 kF kD j9 kY kI kL j5,K.le K'->oC wB lo go ge n c A o es hb gh ln [] v w->(ln.length:Int)=o.ln->BO (H4 Post Shun W0 St R0 base K') () ⟨42,#[u0,u1,.pointer (some ⟨go,0,none⟩),.pointer (some ⟨ge,0,none⟩),u4,u5,u6,.pointer (some ⟨gh,0,none⟩),u8,u9,gU,gH,gK,gF,gJ,gI,u16,iH,kO,kH,jO,iM,iE,gY,iD,iJ,iC,iI,iO,iK,jH,jI,u32,iG,iB,iF,iA,kV,kN,iL,gZ,iN,iZ,iX,iP,iS,iY,jB,jC,iV,iT,iW,mJ,mE,lB,lA,kJ,kK,kR,kT,kP,jZ,j6,j8,u64,j7,kF,kD,j9,kY,kI,kL,j5],[.code (.seq Mw Fy)],false⟩ w){w:aE}{u0 u1 u5 u6 u7 u8 u9 gU gH gK gF gJ gI u16 iH kO kH jO iM iE gY iD iJ iC iI iO iK jH jI u32 iG iB iF iA kV kN iL gZ iN iZ iX iP iS iY jB jC iV iT iW mJ mE lB lA kJ kK kR kT kP jZ j6 j8 u64 j7 kF kD j9 kY kI kL j5:aF}(hE:oE wB lo go ge n c A o es w):
 BO (H4 Post Shun W0 St R0 base K) () ⟨42,#[u0,u1,.pointer (some ⟨go,0,none⟩),.pointer (some ⟨ge,0,none⟩),.pointer none,u5,u6,u7,u8,u9,gU,gH,gK,gF,gJ,gI,u16,iH,kO,kH,jO,iM,iE,gY,iD,iJ,iC,iI,iO,iK,jH,jI,u32,iG,iB,iF,iA,kV,kN,iL,gZ,iN,iZ,iX,iP,iS,iY,jB,jC,iV,iT,iW,mJ,mE,lB,lA,kJ,kK,kR,kT,kP,jZ,j6,j8,u64,j7,kF,kD,j9,kY,kI,kL,j5],[.code (.seq rRH9 (.seq (.seq ziE (.block 2 (.loop Ys))) (.seq Mw Fy)))],false⟩ w:=by
 have rZ:=C9;have HE:=aD hE;have HO:=aD C9;clear hE C9 rZ;refine BO.seq dA ?_;refine BO.pV mP dA tV (λw1 T1 fB Q' cY=>?_);have cK:=aD (show oE wB lo go ge n c A o es w1 by rw[fB];exact HE.o.tp T1 0);clear HE;have g0:w1.cell? ⟨go,0,none⟩=some (.int .i64 o.ln):=aJ cK.o.bo 0;have g1:w1.cell? ⟨go,1,none⟩=some (.int .i64 o.op):=aJ cK.o.bo 1;have g2:w1.cell? ⟨go,2,none⟩=some (.int .i64 o.pt):=aJ cK.o.bo 2;have Oe:=@run_makeMap aK;clear fB;go_wp2;refine cY.o _ _ ?_;clear cY;clear g0 g1 g2 Oe;obtain⟨w5,nY⟩:=aU (((((w1.alloc (.map #[] 0)).alloc (.map #[] 0)).alloc (.map #[] 0)).alloc (O0 (fJ w1.heap.size) ⟨l7 o,[],[],[]⟩)).alloc (.cells #[.pointer (some ⟨w1.heap.size+3,0,none⟩)] 63));obtain⟨n1,n2,n3,n4⟩:=zDJ cK.o.lo_ o w5 nY;have HR:=aD (show oC wB lo go ge n c A o es (w1.heap.size+3) (w1.heap.size+4) [] [] (fJ w1.heap.size) w5 from⟨cK.o.below n4,n1,⟨rfl,rfl,rfl⟩,Qa,(λx hx=>by cases hx),n2,n3,(by have:=cK.o.lo_;omega)⟩);clear n1 n2 n3 n4;simp only[Nat.add_assoc,Nat.reduceAdd];have pB:=nY;simp only[O0,hallA,fJ,l7] at pB;rw[<-pB];clear nY pB cK;refine BO.seq dA ?_;refine BO.seq dA ?_;generalize w1.heap.size+3=hb at HR⊢;generalize w1.heap.size+4=gh at HR⊢;generalize fJ w1.heap.size=v at HR;refine BO.pV mP dA tV (λw6 T2 pB Q' cY=>?_);have lJ:=aD (show oC wB lo go ge n c A o es hb gh [] [] v w6 by rw[pB];exact HR.o.tp T2 0);clear HR;have g0:w6.cell? ⟨go,0,none⟩=some (.int .i64 o.ln):=aJ lJ.o.e.bo 0;clear pB;go_wp2;refine cY.o _ _ ?_;clear cY;clear g0;refine BO.block dA ?_;refine BO.loop dA ?_;have rZ:=HO.o;unfold rR at rZ;have rZ:=of_decide_eq_true rZ;refine zGo (wB:=wB) rZ.2.1 K (λK' w' v' ln u0 u1 u4 u5 u6 u8 u9 gU gH gK gF gJ gI u16 iH kO kH jO iM iE gY iD iJ iC iI iO iK jH jI u32 iG iB iF iA iL gZ iN iZ iX iP iS iY jB jC iV iT iW mJ mE lB lA kJ kK kR kT kP jZ j6 j8 u64 j7 kF kD j9 kY kI kL j5 hK hR hl=>?_) o.ln.toNat 0 aC K w6 v [] _ _ _ _ _ _ _ _ _ _ _ _ _ _ _ _ _ _ _ _ _ _ _ _ _ _ _ _ _ _ _ _ _ _ _ _ _ _ _ _ _ _ _ _ _ _ _ _ _ _ _ _ _ _ _ _ _ _ _ _ _ _ _ _ _ _ _ _ (wX _) lJ.o rfl;exact hgo K' w' v' ln hb gh _ _ _ _ _ _ _ _ _ _ _ _ _ _ _ _ _ _ _ _ _ _ _ _ _ _ _ _ _ _ _ _ _ _ _ _ _ _ _ _ _ _ _ _ _ _ _ _ _ _ _ _ _ _ _ _ _ _ _ _ _ _ _ _ _ _ _ _ _ _ hK hR hl
end
def OldB (w w':aE):Prop:=w.heap.size<=w'.heap.size/\∀b,b<w.heap.size->w'.heap[b]? =w.heap[b]?
variable {wB:aE}{ge:Nat}{A:Option bL}{o:jD}{es:List dB}
def oE.oldB {go n c:Nat}(h:oE wB lo go ge n c A o es w1)(dQ:w.heap.size<=lo)(k:∀b,b<w.heap.size->wB.heap[b]? =w.heap[b]?):OldB w w1:=
 ⟨eG dQ h.lo_,λb hb=>(h.old b (lC hb dQ)).trans (k b hb)⟩
section
variable {Post:aF->aE->Prop}{Shun:Loc->Prop}{W0:aE}{St:Nat->Prop}{R0:Pr}{base:List dH}{K:Pr}{n c:Nat}{A:Option bL}{o:jD}{es:List dB}
theorem zB8 {w:aE}(Hh:bX w 0 w.heap.size 3 A n c (lL es))(hn:n<=1048576)(zrq:vO w)
 (Q6:∀(T:Array aF) todo w',T.getD 4 aA=.pointer none->OldB w w'->gG o es=false->BO (H4 Post Shun W0 St R0 base K) () ⟨42,T,todo,true⟩ w')
 (hgo:∀wB lo go ge K' w' v ln hb gh u0 u1 u4 u5 u6 u8 u9 gU gH gK gF gJ gI u16 iH kO kH jO iM iE gY iD iJ iC iI iO iK jH jI u32 iG iB iF iA kV kN iL gZ iN iZ iX iP iS iY jB jC iV iT iW mJ mE lB lA kJ kK kR kT kP jZ j6 j8 u64 j7 kF kD j9 kY kI kL j5,K.le K'->gG o es=true->w.heap.size<=lo->w.heap.size<=go->w.heap.size<=ge->(∀b,b<w.heap.size->wB.heap[b]? =w.heap[b]?)->oC wB lo go ge n c A o es hb gh ln [] v w'->(ln.length:Int)=o.ln->BO (H4 Post Shun W0 St R0 base K') () ⟨42,#[u0,u1,.pointer (some ⟨go,0,none⟩),.pointer (some ⟨ge,0,none⟩),u4,u5,u6,.pointer (some ⟨gh,0,none⟩),u8,u9,gU,gH,gK,gF,gJ,gI,u16,iH,kO,kH,jO,iM,iE,gY,iD,iJ,iC,iI,iO,iK,jH,jI,u32,iG,iB,iF,iA,kV,kN,iL,gZ,iN,iZ,iX,iP,iS,iY,jB,jC,iV,iT,iW,mJ,mE,lB,lA,kJ,kK,kR,kT,kP,jZ,j6,j8,u64,j7,kF,kD,j9,kY,kI,kL,j5],[.code (.seq Mw Fy)],false⟩ w'):
 BO (H4 Post Shun W0 St R0 base K) () ⟨42,#[.agg #[.int .i64 o.ln,.int .i64 o.op,.int .i64 o.pt],.slice A n c,aA,aA,aA,aA,aA,aA,aA,aA,aA,aA,aA,aA,aA,aA,aA,aA,aA,aA,aA,aA,aA,aA,aA,aA,aA,aA,aA,aA,aA,aA,aA,aA,aA,aA,aA,aA,aA,aA,aA,aA,aA,aA,aA,aA,aA,aA,aA,aA,aA,aA,aA,aA,aA,aA,aA,aA,aA,aA,aA,aA,aA,aA,aA,aA,aA,aA,aA,aA,aA,aA,aA],[.code oM],false⟩ w:=by
 have Bo:es.length=n:=Hh.eventsLen;have HS:=aD Hh;have HT:=aD zrq;have HN:=aD Bo;have HB:=aD hn;clear Hh zrq Bo hn;rw[show oM=.seq rRH0 (.seq (.seq rRH1 (.cond (.tmp 17) (.seq rRH2 .ret) .skip)) (.seq (.seq rRH3 (.block 0 (.loop zay))) (.seq rRH9 (.seq (.seq ziE (.block 2 (.loop Ys))) (.seq Mw Fy))))) from zEa];refine BO.seq dA ?_;refine BO.pV mP dA tV (λw1 T1 fB Q' cY=>?_);have Cv:=aD (show OldB w w1 by rw[fB];exact⟨aX _,λ_ _=>rfl⟩);have eL:w1.heap.size=w.heap.size:=by rw[fB];rfl
 clear fB;go_wp2;refine cY.o _ _ ?_;clear cY;obtain⟨wB,V6⟩:=aU ((w1.alloc (.cells #[.int .i64 o.ln,.int .i64 o.op,.int .i64 o.pt] 29)).alloc (.cells #[.slice A n c] 31));have z0:(w1.alloc (.cells #[.int .i64 o.ln,.int .i64 o.op,.int .i64 o.pt] 29)).heap.size=w.heap.size+1:=by rw[qR,eL]
 have z1:wB.heap.size=w.heap.size+2:=by rw[V6,qR,z0]
 have kB:∀b,b<w.heap.size->wB.heap[b]? =w.heap[b]? :=λb hb=>by
  rw[V6,Fp aC,Fp aC];exact Cv.o.2 b hb
 have HE:=aD (show oE wB (w.heap.size+2) w.heap.size (w.heap.size+1) n c A o es wB from⟨aC,zZ.of HT.o aC aC kB,(HS.o.keep aC λb _ q _=>kB b q).wide (aX _) aC,aC,aC,by
  rw[V6,<-eL];exact zuI (Ee _ _) _,by rw[V6,<-z0];exact Ee _ _,λ_ _=>rfl⟩)
 simp only[eL];rw[<-V6];have HK:=aD kB;clear V6 z0 z1 eL kB Cv;have dQ:w.heap.size<=w.heap.size+2:=aC;have zAM:w.heap.size<w.heap.size+2:=aC;generalize zgh:w.heap.size+2=lo at HE dQ zAM⊢;generalize zbC:w.heap.size=go at HE⊢;generalize zDy:w.heap.size+1=ge at HE⊢;refine BO.seq dA ?_;refine BO.seq dA ?_;have zug:ge=go+1:=aC;have zMA:go<=ge:=aC;rw[<-zug] at HE⊢;clear zDy zug;by_cases hv:rR o=true
 .by_cases zcO:n<=60
  .have zCc:¬(60:Int)<(n:Int):=aC
   refine BO.pV mP dA tV (λw1 T1 fB Q' cY=>?_);have cK:=aD (show oE wB lo go ge n c A o es w1 by rw[fB];exact HE.o.tp T1 0);have g0:w1.cell? ⟨go,0,none⟩=some (.int .i64 o.ln):=aJ cK.o.bo 0;have g1:w1.cell? ⟨go,1,none⟩=some (.int .i64 o.op):=aJ cK.o.bo 1;have g2:w1.cell? ⟨go,2,none⟩=some (.int .i64 o.pt):=aJ cK.o.bo 2;have g3:w1.cell? ⟨ge,0,none⟩=some (.slice A n c):=aJ cK.o.be 0;have HV:=aD hv;clear HE hv;clear fB
   go_wp2_with ((go_at_call 33;refine(zib o _).mono ?_;rintro e w' ⟨rfl,mQ⟩;have g4:w'.cell? ⟨ge,0,none⟩=some (.slice A n c):=aJ (cK.o.below mQ).be 0;rw[HV.o]))
   refine cY.o _ _ ?_;clear cY;clear g0 g1 g2 g3 g4;have nC:=aD (cK.o.below mQ);clear mQ cK;refine BO.cond dA (t:=false) rfl (show Mm (decide ((60:Int)<(n:Int)))=.bool false by rw[decide_eq_false aC]) ?_;refine BO.skip dA ?_;refine BO.seq dA ?_;refine BO.seq dA ?_;refine BO.pV mP dA tV (λw3 T3 iU Q' cY=>?_);have uQ:=aD (show oE wB lo go ge n c A o es w3 by rw[iU];exact nC.o.tp T3 0);have g3:w3.cell? ⟨ge,0,none⟩=some (.slice A n c):=aJ uQ.o.be 0;clear nC;clear iU;go_wp2;refine cY.o _ _ ?_;clear cY;clear g3;refine BO.block dA ?_;refine BO.loop dA ?_;have rZ:=HV.o;unfold rR at rZ;have rZ:=of_decide_eq_true rZ;refine zFs (wB:=wB) (lo:=lo) ⟨rZ.2.2.1,rZ.2.2.2.1⟩ zcO HN.o (λT todo w2 hT znL zh3=>?_) (λw2 jO u0 u1 u5 u6 u7 u8 u9 gU gH gK gF gJ gI u16 iH iM iE gY iD iJ iC iI iO iK jH jI u32 iG iB iF iA kV kN iL gZ iN iZ iX iP iS iY jB jC iV iT iW mJ mE lB lA kJ kK kR kT kP jZ j6 j8 u64 j7 kF kD j9 kY kI kL j5 znL zh3=>?_) n 0 aC w3 _ _ _ _ _ _ _ _ _ _ _ _ _ _ _ _ _ _ _ _ _ _ _ _ _ _ _ _ _ _ _ _ _ _ _ _ _ _ _ _ _ _ _ _ _ _ _ _ _ _ _ _ _ _ _ _ _ _ _ _ _ _ _ _ _ _ _ uQ.o (λj hj=>by omega)
   .refine Q6 T todo w2 hT (znL.oldB (zbC▸dQ) (λb hb=>HK.o b (zbC▸hb))) ?_
    unfold gG;rw[zh3,Bool.and_false]
   .refine rh_made HV.o (λK' w' v ln hb gh u0 u1 u4 u5 u6 u8 u9 gU gH gK gF gJ gI u16 iH kO kH jO iM iE gY iD iJ iC iI iO iK jH jI u32 iG iB iF iA kV kN iL gZ iN iZ iX iP iS iY jB jC iV iT iW mJ mE lB lA kJ kK kR kT kP jZ j6 j8 u64 j7 kF kD j9 kY kI kL j5 hK hR hl=>hgo wB lo go ge K' w' v ln hb gh _ _ _ _ _ _ _ _ _ _ _ _ _ _ _ _ _ _ _ _ _ _ _ _ _ _ _ _ _ _ _ _ _ _ _ _ _ _ _ _ _ _ _ _ _ _ _ _ _ _ _ _ _ _ _ _ _ _ _ _ _ _ _ _ _ _ _ _ _ _ hK ?_ (zbC▸dQ) aC aC (λb hb=>HK.o b (zbC▸hb)) hR hl) znL
    unfold gG;rw[HV.o,zh3,HN.o];simp[zcO]
  .have zCc:(60:Int)<(n:Int):=aC
   have dE:gG o es=false:=by
    unfold gG;rw[HN.o];simp[zcO]
   refine BO.pV mP dA tV (λw1 T1 fB Q' cY=>?_);have cK:=aD (show oE wB lo go ge n c A o es w1 by rw[fB];exact HE.o.tp T1 0);have g0:w1.cell? ⟨go,0,none⟩=some (.int .i64 o.ln):=aJ cK.o.bo 0;have g1:w1.cell? ⟨go,1,none⟩=some (.int .i64 o.op):=aJ cK.o.bo 1;have g2:w1.cell? ⟨go,2,none⟩=some (.int .i64 o.pt):=aJ cK.o.bo 2;have g3:w1.cell? ⟨ge,0,none⟩=some (.slice A n c):=aJ cK.o.be 0;have HV:=aD hv;clear HE hv;clear fB
   go_wp2_with ((go_at_call 33;refine(zib o _).mono ?_;rintro e w' ⟨rfl,mQ⟩;have g4:w'.cell? ⟨ge,0,none⟩=some (.slice A n c):=aJ (cK.o.below mQ).be 0;rw[HV.o]))
   refine cY.o _ _ ?_;clear cY;clear g0 g1 g2 g3 g4;have nC:=aD (cK.o.below mQ);clear mQ cK;refine BO.cond dA (t:=true) rfl rfl ?_;refine BO.seq dA ?_;refine BO.pV mP dA tV (λw3 T3 iU Q' cY=>?_);have uQ:=aD (show oE wB lo go ge n c A o es w3 by rw[iU];exact nC.o.tp T3 0);clear nC;clear iU;go_wp2;refine cY.o _ _ ?_;clear cY;refine BO.ret dA ?_;exact Q6 _ _ _ rfl ztD dE
 .have dE:gG o es=false:=by
   unfold gG;simp[hv]
  have hv:rR o=false:=by simpa using hv
  refine BO.pV mP dA tV (λw1 T1 fB Q' cY=>?_);have cK:=aD (show oE wB lo go ge n c A o es w1 by rw[fB];exact HE.o.tp T1 0);have g0:w1.cell? ⟨go,0,none⟩=some (.int .i64 o.ln):=aJ cK.o.bo 0;have g1:w1.cell? ⟨go,1,none⟩=some (.int .i64 o.op):=aJ cK.o.bo 1;have g2:w1.cell? ⟨go,2,none⟩=some (.int .i64 o.pt):=aJ cK.o.bo 2;have g3:w1.cell? ⟨ge,0,none⟩=some (.slice A n c):=aJ cK.o.be 0;have HV:=aD hv;clear HE hv;clear fB
  go_wp2_with ((go_at_call 33;refine(zib o _).mono ?_;rintro e w' ⟨rfl,mQ⟩;have g4:w'.cell? ⟨ge,0,none⟩=some (.slice A n c):=aJ (cK.o.below mQ).be 0;rw[HV.o]))
  refine cY.o _ _ ?_;clear cY;clear g0 g1 g2 g3 g4;have nC:=aD (cK.o.below mQ);clear mQ cK;refine BO.cond dA (t:=true) rfl rfl ?_;refine BO.seq dA ?_;refine BO.pV mP dA tV (λw3 T3 iU Q' cY=>?_);have uQ:=aD (show oE wB lo go ge n c A o es w3 by rw[iU];exact nC.o.tp T3 0);clear nC;clear iU;go_wp2;refine cY.o _ _ ?_;clear cY;refine BO.ret dA ?_;exact Q6 _ _ _ rfl ztD dE
end
def xT:Nat->Bool:=λa=>Ai aK a
def xQ (gq:Nat):Nat->Bool:=λa=>a==gq||Ai aK a
def Ku (w00:aE)(K R:Pr)(St eP:Nat->Prop)(Fz:Nat->Prop)(Wf:aE)(Xa:Nat->Prop):Prop:=
 ∀(K' R':Pr) (wn Wn:aE),K.le K'->R.le R'->cT (SF gD) K' R' (oZ aK) eP wn Wn->(∀b,Fz b->Wn.heap[b]? =Wf.heap[b]?)->
  ∃Yj,cT (SF gD) K' R' (oZ aK) St Yj Wn/\Yj.heap.size=wn.heap.size/\(∀a,¬Xa a->Yj.heap[a]? =wn.heap[a]?)/\∀a,xT a=true->Yj.heap[a]? =w00.heap[a]?
variable {K R:Pr}{St:Nat->Prop}
theorem Ku.first {W:aE}(hw:cT (SF gD) K R (oZ aK) St w W)(hx:XOk R xT w):Ku w K R St (λa=>St a\/xT a=true) (Gv R St xT) W (λa=>xT a=true):=λK' R' wn Wn hK hR hn mU=>by
 have h1:=zpg (St':=λa=>St a\/xT a=true) hw hx hR hK hn (λa h=>.inl h) (λa b zc0 qQ=>mU b ⟨a,qQ,.inr zc0⟩);refine⟨_,h1,zfE _ _ _,λa ha=>Xh (by simpa using ha),λa ha=>?_⟩;obtain⟨b,hb⟩:=hx.dom a ha;obtain⟨c,T,fz,hc⟩:=hx.cells a ha;rw[zgQ ha (hn.lt a b (.inl (hR _ _ hb))).1 hc,hc]
variable {eP:Nat->Prop}{X:Nat->Bool}
theorem Ku.step {w00 W Wf:aE}{K2 R2:Pr}{Fz Xa:Nat->Prop}(h:Ku w00 K R St eP Fz Wf Xa)(hK:K.le K2)(hR:R.le R2)(hw:cT (SF gD) K2 R2 (oZ aK) eP w W)(hx:XOk R2 X w)(hF:∀b,Fz b->W.heap[b]? =Wf.heap[b]? /\∃a,R2 a b/\eP a):
 Ku w00 K2 R2 St (λa=>eP a\/X a=true) (Gv R2 eP X) W (λa=>Xa a\/X a=true):=λK' R' wn Wn rL zrd hn mU=>by
 have h1:=zpg (St':=λa=>eP a\/X a=true) hw hx zrd rL hn (λa h=>.inl h) (λa b zc0 qQ=>mU b ⟨a,qQ,.inr zc0⟩)
 obtain⟨Yj,k1,k2,k3,k4⟩:=h K' R' _ Wn (vP hK rL) (hR.trans zrd) h1 (λb hb=>by
  obtain⟨e,a,x,y⟩:=hF b hb;exact(mU b ⟨a,x,.inl y⟩).trans e)
 refine⟨Yj,k1,k2.trans (zfE _ _ _),λa ha=>?_,k4⟩;rw[k3 a (λx=>ha (.inl x)),Xh (by cases e:X a with|false=>rfl|true=>exact absurd (.inr e) ha)]
theorem zBx (h:X b=true->∃c T hi,w.heap[b]? =some (.cells c T (0,hi))/\c.size<=hi):(uP X w).heap[b]? =w.heap[b]? :=by
 cases e:X b with
 |false=>exact N0 e
 |true=>
  obtain⟨c,T,hi,h1,h2⟩:=h e;rw[Rj e h1,h1];simp only[Nat.max_eq_right h2]
theorem zBj {o:Nat}{v:aF}(hc:X b=true->∃c T fz,w.heap[b]? =some (.cells c T fz))(h:w.cell? ⟨b,o,none⟩=some v):(uP X w).cell? ⟨b,o,none⟩=some v:=by
 cases e:X b with
 |false=>exact(aE.cell?_of_block (a:=⟨b,o,none⟩) (N0 e)).trans h
 |true=>
  obtain⟨c,T,fz,hc⟩:=hc e;have e1:w.cell? ⟨b,o,none⟩=c[o]? :=by simp[lI,hc]
  have e2:(uP X w).cell? ⟨b,o,none⟩=c[o]? :=by simp[lI,Rj e hc]
  rw[e2,<-e1];exact h
def zJg:((aK.globalNamed "internal/strconv.uint64pow10").map λg=>Ai aK g)=some true:=aP
theorem tabW_fr (h:vO w)(hx:∀a,xT a=true->X a=true)(hc:∀a,xT a=true->∃c T fz,w.heap[a]? =some (.cells c T fz))(hw:∀a,xT a=true->w'.heap[a]? =(uP X w).heap[a]?):vO w':=by
 obtain⟨g,hg,bV⟩:=xK.1 zJg;obtain⟨c,T,fz,Ly⟩:=hc g bV;unfold vO zgZ zgv at*;rw[hg] at h⊢;simp only[vC] at h⊢;rw[Ly] at h;rw[hw g bV,Rj (hx g bV) Ly];exact h
variable {v:fL}{ln qn:List Nat}
theorem oC.frT {go n c hb gh lo0:Nat}(h:oC wB lo go ge n c A o es hb gh ln qn v w)(hgo:lo0<=go)(Cb:lo0<=ge)(dQ:lo0<=lo)(ht:∀a,xT a=true->a<lo0)(hc:∀a,xT a=true->∃c T fz,w.heap[a]? =some (.cells c T fz)):oC (uP xT w) lo go ge n c A o es hb gh ln qn v (uP xT w):=by
 have out:∀b,lo0<=b->(uP xT w).heap[b]? =w.heap[b]? :=λb hb=>N0 (by
  cases e:xT b with
  |false=>rfl
  |true=>have:=ht b e;omega)
 have nT:xT gh=false:=by
  cases e:xT gh with
  |false=>rfl
  |true=>have:=ht gh e;have:=h.ghl;omega
 refine⟨⟨by rw[Qu];exact h.e.lo_,λw' hw=>tabW_fr h.e.tab.at_ (λa h=>h) hc λa ha=>hw a (lC (ht a ha) dQ),?_,h.e.gol,h.e.gel,(out _ hgo).trans h.e.bo,(out _ Cb).trans h.e.be,λ_ _=>rfl⟩,h.at_.keep λb hb hp=>out b (by have:=(h.at_.lt b hp).1;omega),h.mp,h.nd,λx hx=>by rw[Qu];exact h.lt x hx,(N0 nT).trans h.bh,h.nh,h.ghl⟩;refine⟨h.e.ev.len,h.e.ev.le,h.e.ev.cap,λhn=>?_⟩;obtain⟨b,off,e,h1,h2,h3,h4⟩:=h.e.ev.at_ hn;exact⟨b,off,e,h1,h2,by rw[Qu];exact h3,λj v hv=>zBj (λx=>hc b x) (h4 j v hv)⟩
variable {gq a:Nat}
theorem zbg (h:xQ gq a=true):a=gq\/xT a=true:=by
 unfold xQ at h;simp only[Eo,beq_iff_eq] at h;exact h
theorem xQ_q (gq:Nat):xQ gq gq=true:=by simp[xQ]
theorem xQ_t (h:xT a=true):xQ gq a=true:=by
 unfold xQ xT at*;rw[h,Bool.or_true]
theorem op_tmps (a b:aF):(#[]++ #[a,b])++nI ((zlI).ntmps-(#[]++ #[a,b]:Array aF).size) aA=(#[a,b,aA,aA]:Array aF):=by
 have e:(zlI).ntmps=4:=rfl;rw[e];have e:(#[]++ #[a,b]:Array aF).size=2:=aQ;rw[e];apply Iq;simp only[Qc,zbw];rfl
def Fw (w:aE):Prop:=∀g,xT g=true->∃c T fz,w.heap[g]? =some (.cells c T fz)/\∀v∈c,wD v
variable {τ:cF}{Wr:aE}{gt t:Array aF}
theorem op_born {Wg N:Nat}{W:List fG}{D:aE->Prop}{Fin:bC->aE->Prop}{gc m:Nat}(hw:cT (SF gD) K R (oZ aK) eP w Wr)(hx:XOk R (xQ gq) w)(zch:K gc a)(dE:∀b,¬R b a)
 (hq:w.heap[gq]? =some (.cells #[.chan (some gc)] 95)) (Dv:Fw w) (ha:bK (SF gD) K R gt t) (zHK:gt[9]? =some (.pointer (some ⟨gq,0,none⟩))) (h8:t.getD 8 aA=.pointer (some ⟨Wg,0,none⟩)) (zAV:Wg<Wr.heap.size) (zyZ:∀a b,R a b->b≠Wg) (mY:WgLive rI.tWg Wg Wr):
 b6 aK rI.tWg Wg (Ce N W D) Fin false (.usr (.op a 0 m)) 0 (Yu τ R (xQ gq)) (born aK {target:=.fn (.func 54) #[t.getD 8 aA,t.getD 9 aA],args:=#[]}) Wr:=by
 refine Ml rfl rfl (λaV s=>zn3 (c:=Y4) zpY aH rfl aV) λaV s=>?_;have Bf:∀b,¬R gc b:=λb x=>by
  obtain rfl:=hw.inj gc b a (.inl x) (.inr zch);exact dE _ x
 have mL:∀a c T fz,xQ gq a=true->w.heap[a]? =some (.cells c T fz)->∀v∈c,wZ (λa=>xQ gq a=true) (λa=>a=gc) v:=λa c T fz zc0 hc v hv=>by
  rcases zbg zc0 with rfl|zpE
  .rw[hq] at hc
   injection hc with hc;injection hc with e1 _ _;subst e1;obtain rfl:=by simpa using hv
   exact .chan λx e=>by cases e;rfl
  .obtain⟨c',T',Ii,h1,h2⟩:=Dv a zpE
   rw[hc] at h1;injection h1 with h1;injection h1 with e1 _ _;subst e1;exact(h2 v hv).inX
 have hrel:=reX_rel hw hx (λg hg=>xQ_t hg) (KD:=λa=>a=gc) mL (λa b x e=>absurd (e▸x) (Bf b));have zxW:vH (Yu τ R (xQ gq)) (rX R (xQ gq)) (λa=>xQ gq a=true):=zDm;have hv:(reX (xQ gq) w).cell? ⟨gq,0,none⟩=some (.chan (some gc)):=by
  simp[lI,zeC (xQ_q gq) hq]
 have hB:=zEA (Wg:=Wg) (N:=N) (W:=W) (D:=D) (Fin:=Fin) (St:=λa=>xQ gq a=true) (gc:=gc) (gv:=gq) (c:=a) (K:=kX K (λa=>a=gc)) ⟨zch,rfl⟩ m hv;have Sj:=Cx.Rel.suf (C:=fZ Wg N W D Fin (λa=>xQ gq a=true) (kX K (λa=>a=gc)) (λ_=>True) [wF aK] ⟨[],.deferred,aQ⟩ [(0,.pointer (some ⟨Wg,0,none⟩))]) hrel zxW s;have rL:∀a b,R.or K a b->a=gc->(rX R (xQ gq)).or (kX K (λa=>a=gc)) a b:=λa b x e=>by
  rcases x with x|x
  .exact absurd (e▸x) (Bf b)
  .exact .inr ⟨x,e⟩
 have p9:VR (SF gD) (kX K (λa=>a=gc)) (rX R (xQ gq)) (.pointer (some ⟨gq,0,none⟩)) (t.getD 9 aA):=by
  have h1:=ha.getD 9 (xW (S:=SF gD) (K:=K) (R:=R));rw[tZ,zHK] at h1;exact wZ.vr h1 (λp q y z=>⟨y,z⟩) rL (.pointer λx e=>by cases e;exact xQ_q gq)
 rw[h8];generalize t.getD 9 aA=t9 at*;rw[op_tmps];have vu:=xW (S:=SF gD) (K:=kX K (λa=>a=gc)) (R:=rX R (xQ gq));have hj:∀x,Tt.HidV x->VR (SF gD) (kX K (λa=>a=gc)) (rX R (xQ gq)) .nilFunc x:=λx h=>.junk h;have:=hB (rX R (xQ gq)) aV ⟨54,#[.pointer (some ⟨Wg,0,none⟩),t9,aA,aA],[.code Y4],false⟩ (Yu τ R (xQ gq)) Sj ⟨rfl,rfl,rfl,?_,λx hx=>?_⟩ zxW ⟨⟨⟨λa b x=>zyZ a b x.1,by have:=s.size;omega⟩,s.live mY⟩,trivial⟩
 .exact this
 .exact ztu (.cons (hj _ Zg) (.cons p9 (.cons vu (.cons vu .nil))))
 .obtain rfl:=sE.1 hx
  rfl
theorem wk_tmps (a b c:aF):(#[]++ #[a,b,c])++nI ((zq3).ntmps-(#[]++ #[a,b,c]:Array aF).size) aA=(#[a,b,c,aA,aA,aA]:Array aF):=by
 have e:(zq3).ntmps=6:=rfl;rw[e];have e:(#[]++ #[a,b,c]:Array aF).size=3:=aQ;rw[e];apply Iq;simp only[Qc,zbw];rfl
theorem wk_born {e:Gd}(H:e.d.Ok)(Cc:e.ty=rI.tWg){hb gh n c:Nat}{Q:Pr->Prop}(hQ:Up Q)(hq:Q R)
 (hw:cT (SF gD) K R (oZ aK) e.St w Wr) (hT:vH τ R e.St) (hi:IQ e.W0 e.StI e.Shun e.Wg e.SS e.R0 e.Fz e.Wf e.qs [] R τ Wr) (mY:WgLive rI.tWg e.Wg Wr) (h:zcp e o es ln qn lo hb v w K A n c) (hh:w.cell? ⟨gh,0,none⟩=some (.pointer (some ⟨hb,0,none⟩))) (he:w.cell? ⟨ge,0,none⟩=some (.slice A n c))
 (ha:bK (SF gD) K R gt t) (zEP:gt[7]? =some (.pointer (some ⟨gh,0,none⟩))) (Kx:gt[3]? =some (.pointer (some ⟨ge,0,none⟩))) (h8:t.getD 8 aA=.pointer (some ⟨e.Wg,0,none⟩))
 (tJ:∀K' R τ W w' v',K.le K'->Q R->cT (SF gD) K' R (oZ aK) e.St w' W->IQ e.W0 e.StI e.Shun e.Wg e.SS e.R0 e.Fz e.Wf e.qs [] R τ W->bE w' lo hb v' (uW o es ln qn qn.length)->gC v' (uW o es ln qn qn.length)->bM hb v w v' w'->e.D W):
 b6 aK rI.tWg e.Wg (Ce e.N e.W e.D) e.Fin false (.usr (.wk e.qs 0)) 0 τ (born aK {target:=.fn (.func 57) #[t.getD 8 aA,t.getD 7 aA,t.getD 3 aA],args:=#[]}) Wr:=by
 refine Ml rfl rfl (λaV s=>zn3 (c:=Wj) Tryz.func57 aH rfl aV) λaV s=>?_;have hB:=zAi H Cc h hh he hQ tJ
 let C:=e.d.cx K Q [] [wF aK] ⟨[],.deferred,aQ⟩ [(0,.pointer (some ⟨e.Wg,0,none⟩))]
 have Sj:=Cx.Rel.suf (C:=C) hw hT (show bU C.ty C.Wg τ Wr aV by show bU e.ty _ _ _ _;rw[Cc];exact s);have zJ:=(H.iok hQ (K:=K) (chs:=[]) (base:=[wF aK]) (ds:=⟨[],.deferred,aQ⟩) (pin:=[(0,.pointer (some ⟨e.Wg,0,none⟩))])).suf R τ Wr aV ⟨⟨hi,by show WgLive e.ty _ _;rw[Cc];exact mY⟩,hq⟩ (show bU C.ty C.Wg τ Wr aV by show bU e.ty _ _ _ _;rw[Cc];exact s);have p7:VR (SF gD) K R (.pointer (some ⟨gh,0,none⟩)) (t.getD 7 aA):=by
  have h1:=ha.getD 7 (xW (S:=SF gD) (K:=K) (R:=R));rw[tZ,zEP] at h1;exact h1
 have p3:VR (SF gD) K R (.pointer (some ⟨ge,0,none⟩)) (t.getD 3 aA):=by
  have h1:=ha.getD 3 (xW (S:=SF gD) (K:=K) (R:=R));rw[tZ,Kx] at h1;exact h1
 rw[h8];generalize t.getD 7 aA=t7 at*;generalize t.getD 3 aA=t3 at*;rw[wk_tmps];have vu:=xW (S:=SF gD) (K:=K) (R:=R);have hj:∀x,Tt.HidV x->VR (SF gD) K R .nilFunc x:=λx h=>.junk h;have:=hB R aV ⟨57,#[.pointer (some ⟨e.Wg,0,none⟩),t7,t3,aA,aA,aA],[.code Wj],false⟩ τ Sj ⟨rfl,rfl,rfl,?_,λx hx=>?_⟩ hT zJ
 .rw[Cx.B_none (C:=C) rfl] at this
  have e2:C.ty=rI.tWg:=Cc;rw[e2] at this;exact this
 .exact ztu (.cons (hj _ Zg) (.cons p7 (.cons p3 (.cons vu (.cons vu (.cons vu .nil))))))
 .obtain rfl:=sE.1 hx
  rfl
end Go.Proofs.YtfcjiloojkjaeaaGreatDoor
namespace Go.Mt
open Go.Conc Go.Tt
theorem zuH:∀(n:Nat) (u:aF),Of u<n->∃u',wD u'/\(∀(S:aO->Prop) (K R:Pr) (v:aF),VR S K R u v->VR S K R u' v)/\(Mh u->u'=u):=by
 intro n
 induction n with
 |zero=>intro u h;omega
 |succ n ih=>
  intro u hu;have pl:∀{x:aF},(∀k m,x≠ .int k m)->(∀s,x≠ .string s)->(∀b,x≠ .bool b)->∀{y:aF},Mh x->y=x:=λh1 h2 h3 y hx=>by
   rcases hx with⟨k,m,e⟩|⟨s,e⟩|⟨b,e⟩
   .exact absurd e (h1 _ _)
   .exact absurd e (h2 _)
   .exact absurd e (h3 _)
  have rows:∀xs:Array aF,Of xs<n->∃us:Array aF,us.size=xs.size/\(∀(i:Nat) (u:aF),us[i]? =some u->wD u)/\∀(S:aO->Prop) (K R:Pr) (i:Nat) (u x v:aF),us[i]? =some u->xs[i]? =some x->VR S K R x v->VR S K R u v:=λxs hx=>by
   have hex:∀x,∃u,x∈xs->wD u/\∀(S:aO->Prop) (K R:Pr) (v:aF),VR S K R x v->VR S K R u v:=λx=>by
    by_cases hm:x∈xs
    .obtain⟨u,h1,h2,_⟩:=ih x (zkV (Array.sizeOf_lt_of_mem hm) hx)
     exact⟨u,λ_=>⟨h1,h2⟩⟩
    .exact⟨x,λh=>absurd h hm⟩
   refine⟨xs.map λx=>(hex x).choose,aQ,λi u h1=>?_,λS K R i u x v h1 h2 h3=>?_⟩
   .rw[x7] at h1
    cases h2:xs[i]? with
    |none=>rw[h2] at h1;cases h1
    |some v=>
     rw[h2] at h1;simp only[Ac,fT] at h1;subst h1;exact((hex v).choose_spec (Uo h2)).1
   .rw[x7,h2] at h1
    simp only[Ac,fT] at h1;subst h1;exact((hex x).choose_spec (Uo h2)).2 S K R v h3
  cases u with
  |bool b=>exact⟨_,.bool b,λS K R v h=>h,λ_=>rfl⟩
  |int k m=>exact⟨_,.int k m,λS K R v h=>h,λ_=>rfl⟩
  |string s=>exact⟨_,.string s,λS K R v h=>h,λ_=>rfl⟩
  |nilFunc=>exact⟨_,.nilFunc,λS K R v h=>h,λ_=>rfl⟩
  |nilIface=>exact⟨_,.nilIface,λS K R v h=>h,λ_=>rfl⟩
  |agg xs=>
   obtain⟨us,h1,h3,h2⟩:=rows xs (by simp at hu;omega);refine⟨.agg us,.agg h3,λS K R v h=>?_,pl (λ_ _ h=>by cases h) (λ_ h=>by cases h) (λ_ h=>by cases h)⟩
   cases h with
   | @agg _ bY e hh=>
    refine .agg (h1.trans e) λi a b ha hb=>?_;have hi:i<xs.size:=by rw[e];exact(dO.1 hb).1
    exact h2 S K R i a xs[i] b ha (mK hi) (hh i _ _ (mK hi) hb)
  |tuple xs=>
   obtain⟨us,h1,h3,h2⟩:=rows xs (by simp at hu;omega);refine⟨.tuple us,.tuple h3,λS K R v h=>?_,pl (λ_ _ h=>by cases h) (λ_ h=>by cases h) (λ_ h=>by cases h)⟩
   cases h with
   | @tuple _ bY e hh=>
    refine .tuple (h1.trans e) λi a b ha hb=>?_;have hi:i<xs.size:=by rw[e];exact(dO.1 hb).1
    exact h2 S K R i a xs[i] b ha (mK hi) (hh i _ _ (mK hi) hb)
  |_=>exact⟨.nilFunc,.nilFunc,λS K R v h=>.junk (by cases h<;>exact True.intro),pl (λ_ _ h=>by cases h) (λ_ h=>by cases h) (λ_ h=>by cases h)⟩
def cl (u:aF):Value:=(zuH (Of u+1) u (wR _)).choose
def cl_spec (u:aF):wD (cl u)/\(∀(S:aO->Prop) (K R:Pr) (v:aF),VR S K R u v->VR S K R (cl u) v)/\(Mh u->cl u=u):=(zuH (Of u+1) u (wR _)).choose_spec
end Go.Mt
namespace Go.Proofs.YtfcjiloojkjaeaaGreatDoor
open Go.RowKit Go.Mt Go.Conc Go.Tt Go.Maps Go.Conc.Lib Go.ConcR.Gen
open Go.ConcR (KK wgBlock WgAt stA smA rd wr)
abbrev Ae (Shun:Loc->Prop)(Wg:Nat):Loc->Prop:=λl=>Shun l\/nF l Wg
abbrev finS (Post:aF->aE->Prop)(Shun:Loc->Prop)(Wg:Nat):bC->aE->Prop:=λg w'=>J aK Post (Ae Shun Wg) w'.heap.size g w'
structure q8 where
 Post:aF->aE->Prop
 Shun:Loc->Prop
 W0:aE
 St:Nat->Prop
 base:List dH
 K1:Pr
 R1:Pr
 w00:aE
 lo0:Nat
 lo:Nat
 go:Nat
 ge:Nat
 n:Nat
 c:Nat
 A:Option bL
 o:jD
 es:List dB
 hb:Nat
 gh:Nat
 ln:List Nat
 Wg:Nat
def q8.End (p:q8)(qn:List Nat)(v':fL)(w':aE):Prop:=
 bE w' p.lo p.hb v' (uW p.o p.es p.ln qn qn.length)/\(∀b,b<p.lo0->w'.heap[b]? =p.w00.heap[b]?)/\p.lo<=w'.heap.size/\w'.heap[p.gh]? =some (.cells #[.pointer (some ⟨p.hb,0,none⟩)] 63)/\(qn.length:Int)=p.o.op
def q8.D (p:q8)(W:aE):Prop:=∃(K' R':Pr) (w':aE) (v':fL) (qn:List Nat),p.K1.le K'/\p.R1.le R'/\cT (SF gD) K' R' (oZ aK) p.St w' W/\Kp p.W0 R' p.St W/\Sh p.W0.heap.size (Ae p.Shun p.Wg) R' W/\p.End qn v' w'
def q8.N (p:q8):Nat:=p.o.op.toNat
def q8.cx (p:q8)(K:Pr)(eP:Nat->Prop)(SS:Nat->Prop)(R0:Pr)(Fz:Nat->Prop)(Wf:aE)(qs chs:List Nat):Cx gQ:=
 {p:=aK,gs:=Bq,fs:=gD,ty:=rI.tWg,Wg:=p.Wg,A:=Ce p.N (Bj p.o p.es) p.D,Fin:=finS p.Post p.Shun p.Wg,main:=true,base:=p.base,ds:=.nil,K:=K,St:=eP,I:=yS rI.tWg p.Wg (IQ p.W0 p.St (Ae p.Shun p.Wg) p.Wg SS R0 Fz Wf qs chs),pin:=[(8,.pointer (some ⟨p.Wg,0,none⟩))]}
theorem zDB {N:Nat}{W:List fG}{D:aE->Prop}{Wn:aE}(h:zct (Ce N W D) Wn):D Wn:=by
 obtain⟨q,ch,hi,h0,hr,hd⟩:=h
 cases hi with
 |a n qs ix l _ _ _ h _ _ _=>rw[h0] at h;cases h
 |b qs ix iw k _ _ hw _ _ h _ _ _=>
  rcases h with h|⟨_,h⟩
  .exact absurd h (hr iw _)
  .exact hd iw _ h
 |c qs ix iw k i kd cl ans a _ _ _ _ _ h _ _ _ _ _=>exact absurd h (hr iw _)
variable {S:aO->Prop}{K R:Pr}{t:Array aF}
theorem bK.forget {K' R':Pr}{g:Array aF}(h:bK S K R g t):bK S K' R' (g.map cl) t:=by
 refine⟨by rw[Array.size_map];exact h.1,λi v v' h1 h2=>?_⟩;rw[x7] at h1
 cases h3:g[i]? with
 |none=>rw[h3] at h1;cases h1
 |some u=>
  rw[h3] at h1;simp only[Ac,fT] at h1;subst h1;obtain⟨c1,c2,_⟩:=cl_spec u;exact wZ.vr (X:=λ_=>False) (KD:=λ_=>False) (c2 S K R v' (h.2 i u v' h3 h2)) (λp q y z=>z.elim) (λa b x e=>e.elim) c1.inX
variable {i:Nat}
theorem zz2 (h:i<t.size):t.setIfInBounds i (t.getD i aA)=t:=by
 apply Array.ext_getElem?;intro j;rw[Array.getElem?_setIfInBounds];split
 .next e=>subst e;simp[h,tZ]
 .rfl
def q8.After (p:q8):Prop:=∀(K' R':Pr) (w':aE) (v':fL) (qn:List Nat) (u0 u1 u2 u3 u4 u5 u6 u8 u9 gU gH gK gF gJ gI u16 iH kO kH jO iM iE gY iD iJ iC iI iO iK jH jI u32 iG iB iF iA kV kN iL gZ iN iZ iX iP iS iY jB jC iV iT iW mJ mE lB lA kJ kK kR kT kP jZ j6 j8 u64 j7 kF kD j9 kY kI kL j5:aF),p.K1.le K'->p.R1.le R'->p.End qn v' w'->BO (D3 aK Bq gD p.Post (Ae p.Shun p.Wg) p.W0 p.St K' R' p.base) () ⟨42,#[u0,u1,u2,u3,u4,u5,u6,.pointer (some ⟨p.gh,0,none⟩),u8,u9,gU,gH,gK,gF,gJ,gI,u16,iH,kO,kH,jO,iM,iE,gY,iD,iJ,iC,iI,iO,iK,jH,jI,u32,iG,iB,iF,iA,kV,kN,iL,gZ,iN,iZ,iX,iP,iS,iY,jB,jC,iV,iT,iW,mJ,mE,lB,lA,kJ,kK,kR,kT,kP,jZ,j6,j8,u64,j7,kF,kD,j9,kY,kI,kL,j5],[.inRegion zbe [],.code (.seq Sv .ret)],false⟩ w'
variable {p:q8}{eP SS Fz:Nat->Prop}{R0:Pr}{Wf w:aE}{qs qn:List Nat}{v:fL}{gU gH gK gF gJ gI u16 iH kO kH jO iM iE gY iD iJ iC iI iO iK jH jI u32 iG iB iF iA kV kN iL gZ iN iZ iX iP iS iY jB jC iV iT iW kJ kK kR kT kP jZ j6 j8 u64 j7 kF kD j9 kY kI kL j5:aF}
theorem rh_last (zl7:p.After)(Fe:∃b,p.R1 p.gh b)(hN:¬qs.length<p.N)(aY:∀a,p.St a->eP a)(vI:∀b,b<p.W0.heap.size->SS b)(hF:∀b,Fz b->SS b)(nO:p.W0.heap.size<=p.Wg)(zEW:p.R1.le R0)
 (cM:∀e:Gd,e.W=Bj p.o p.es->e.qs=qs->zcp e p.o p.es p.ln qn p.lo p.hb v w K p.A p.n p.c) (hh:w.cell? ⟨p.gh,0,none⟩=some (.pointer (some ⟨p.hb,0,none⟩))) (he:w.cell? ⟨p.ge,0,none⟩=some (.slice p.A p.n p.c))
 (tJ:∀K' R τ W w' v',K.le K'->R0.le R->cT (SF gD) K' R (oZ aK) eP w' W->IQ p.W0 p.St (Ae p.Shun p.Wg) p.Wg SS R0 Fz Wf qs [] R τ W->bE w' p.lo p.hb v' (uW p.o p.es p.ln qn qn.length)->gC v' (uW p.o p.es p.ln qn qn.length)->bM p.hb v w v' w'->p.D W) {u0 u1 u2 u4 u5 u6 u9 mJ mE lB lA:aF}:
 BO (p.cx K eP SS R0 Fz Wf qs []) (.mN qs) ⟨42,#[u0,u1,u2,.pointer (some ⟨p.ge,0,none⟩),u4,u5,u6,.pointer (some ⟨p.gh,0,none⟩),.nilFunc,u9,gU,gH,gK,gF,gJ,gI,u16,iH,kO,kH,jO,iM,iE,gY,iD,iJ,iC,iI,iO,iK,jH,jI,u32,iG,iB,iF,iA,kV,kN,iL,gZ,iN,iZ,iX,iP,iS,iY,jB,jC,iV,iT,iW,mJ,mE,lB,lA,kJ,kK,kR,kT,kP,jZ,j6,j8,u64,j7,kF,kD,j9,kY,kI,kL,j5],[.code (.seq Zs (.seq Za (.seq Vy (.seq Sv .ret))))],false⟩ w:=by
 let C:=p.cx K eP SS R0 Fz Wf qs []
 have hI:fE C:=zkB (C:=C) rfl aY vI hF nO;have hX:=zgw (ty:=rI.tWg) (St:=p.St) (Shun:=Ae p.Shun p.Wg) (R0:=R0) (Fz:=Fz) (Wf:=Wf) (qs:=qs) (chs:=[]) vI hF nO;show BO C _ _ _;refine BO.seq hI ?_;rw[zDC];refine BO.regs hI _ zBz ?_;refine BO.add (C:=C) (Lk:=rI) (s:=8) (nx:=.mW qs) zc7 rfl rfl rfl hI rfl hX zyG rfl rfl (sE.2 rfl) (by intro s hs;cases hs;show(69:Nat)∉([8]:List Nat);decide) (by show eT p.N (Bj p.o p.es) (.mN qs)=_;simp[eT,hN]) ?_;simp only[cC,gE,dV,dW];refine BO.regEnd hI ?_;refine BO.seq hI ?_;rw[zCg];refine BO.regs hI _ zCP ?_;refine BO.go (C:=C) rfl hI zJt zDO rfl rfl rfl rfl rfl rfl (lc:=.wk qs 0) (nx:=.mZ) (pub:=[]) rfl aQ λR W t τ hw ha Dj ht hi=>?_;have hw:cT (SF gD) K R (oZ aK) eP w W:=hw;have hi:yS rI.tWg p.Wg (IQ p.W0 p.St (Ae p.Shun p.Wg) p.Wg SS R0 Fz Wf qs []) R τ W:=hi;obtain⟨hi,mY⟩:=hi;have h8:t.getD 8 aA=.pointer (some ⟨p.Wg,0,none⟩):=Dj (8,.pointer (some ⟨p.Wg,0,none⟩)) (sE.2 rfl);have Zb:R0.le R:=hi.x.x.le;have ha:bK (SF gD) K R #[u0,u1,u2,.pointer (some ⟨p.ge,0,none⟩),u4,u5,u6,.pointer (some ⟨p.gh,0,none⟩),.nilFunc,u9,gU,gH,gK,gF,gJ,gI,u16,iH,kO,kH,jO,iM,iE,gY,iD,iJ,iC,iI,iO,iK,jH,jI,u32,iG,iB,iF,iA,kV,kN,iL,gZ,iN,iZ,iX,iP,iS,iY,jB,jC,iV,iT,iW,mJ,mE,lB,lA,kJ,kK,kR,kT,kP,jZ,j6,j8,u64,j7,kF,kD,j9,.tuple #[],kI,kL,j5] t:=ha;have cJ:t.size=73:=ha.1.symm;obtain⟨zAJ,qV⟩:=Fe;have h7:t.getD 7 aA=.pointer (some ⟨zAJ,0,none⟩):=by
  have h1:VR (SF gD) K R (.pointer (some ⟨p.gh,0,none⟩)) (t.getD 7 aA):=ha.getD 7 (xW (S:=SF gD) (K:=K) (R:=R));generalize t.getD 7 aA=t7 at h1
  cases h1 with
  |pointer y=>cases y with|some y=>cases y with|mk y=>rw[hw.inj _ _ _ (.inl y) (.inl (Zb _ _ (zEW _ _ qV)))]
 refine⟨tauWm τ,τ,parts_w hi,?_,?_⟩
 .rw[zBK]
  refine zGE (Lk:=rI) (s:=8) (ops:=zbe) (o:=oRH24_0) zc7 rfl (λn g w h=>zGM n g w h) rfl rfl rfl ?_ mY λWn d hD=>?_
  .show(t.setIfInBounds 70 _).getD 8 aA=.pointer (some ⟨p.Wg,0,none⟩)
   rw[<-h8];simp only[tZ,jQ (show(70:Nat)≠8 by decide)]
  .obtain⟨K',R',w',v',zfm,k1,k2,k3,k4,k5,k6⟩:=zDB hD
   have zAR:=zl7 K' R' w' v' zfm (cl (u0)) (cl (u1)) (cl (u2)) (cl (.pointer (some ⟨p.ge,0,none⟩))) (cl (u4)) (cl (u5)) (cl (u6)) (cl (.nilFunc)) (cl (u9)) (cl (gU)) (cl (gH)) (cl (gK)) (cl (gF)) (cl (gJ)) (cl (gI)) (cl (u16)) (cl (iH)) (cl (kO)) (cl (kH)) (cl (jO)) (cl (iM)) (cl (iE)) (cl (gY)) (cl (iD)) (cl (iJ)) (cl (iC)) (cl (iI)) (cl (iO)) (cl (iK)) (cl (jH)) (cl (jI)) (cl (u32)) (cl (iG)) (cl (iB)) (cl (iF)) (cl (iA)) (cl (kV)) (cl (kN)) (cl (iL)) (cl (gZ)) (cl (iN)) (cl (iZ)) (cl (iX)) (cl (iP)) (cl (iS)) (cl (iY)) (cl (jB)) (cl (jC)) (cl (iV)) (cl (iT)) (cl (iW)) (cl (mJ)) (cl (mE)) (cl (lB)) (cl (lA)) (cl (kJ)) (cl (kK)) (cl (kR)) (cl (kT)) (cl (kP)) (cl (jZ)) (cl (j6)) (cl (j8)) (cl (u64)) (cl (j7)) (cl (kF)) (cl (kD)) (cl (j9)) (cl (.tuple #[])) .nilFunc (.tuple #[]) (cl (j5)) k1 k2 k6;have h1:=(bK.forget (K':=K') (R':=R') ha).set 7 (v:=.pointer (some ⟨p.gh,0,none⟩)) (v':=t.getD 7 aA) (by rw[h7];exact .pointer (.some (.mk (k2 _ _ qV))));rw[zz2 aC] at h1;simp only[uS,fK,tL,gE,dV,dW] at h1;have h1:=(h1.set 70 (.junk (v':=(.func (.func 57) #[] ((#[.tmp 8,.tmp 7,.tmp 3]:Array cN).map (bH t C.ds.ds).eval))) Zg)).set 71 (v:=.tuple #[]) (v':=.tuple #[]) (.tuple rfl λi v v' h=>by simp at h);simp only[gE,dV,dW] at h1;have n9:=BO.aloneIn (W:=Wn.at d) (m':=⟨42,(cC ⟨t.setIfInBounds 70 (.func (.func 57) #[] ((#[.tmp 8,.tmp 7,.tmp 3]:Array cN).map (bH t C.ds.ds).eval)),[]⟩ (some 71) (.tuple #[])).tmps,[.inRegion zbe [],.code (.seq Sv .ret)],false⟩) zAR (cT.at k3 d) ⟨rfl,rfl,rfl,h1,λx lP=>by cases lP⟩ ⟨k5.old,k5.rel,k5.new⟩ ⟨k4.os,k4.tape,k4.output,k4.size,k4.block,k4.old⟩;have e:=mI .nil 42 (cC ⟨t.setIfInBounds 70 (.func (.func 57) #[] ((#[.tmp 8,.tmp 7,.tmp 3]:Array cN).map (bH t C.ds.ds).eval)),[]⟩ (some 71) (.tuple #[])).tmps [.inRegion zbe [],.code (.seq Sv .ret)];rw[F6] at e;rw[e] at n9;exact n9
 .let e:Gd:=⟨rI.tWg,p.Wg,p.N,Bj p.o p.es,p.D,finS p.Post p.Shun p.Wg,eP,p.W0,p.St,Ae p.Shun p.Wg,SS,R0,Fz,Wf,qs⟩
  have H:e.d.Ok:=⟨aY,vI,hF,nO,mP⟩;simp only[uS,fK,tL,wH];exact wk_born (e:=e) H rfl (Q:=λR'=>R0.le R') (λR R' h h'=>h'.trans h) Zb hw ht hi mY (cM e rfl rfl) hh he ha rfl rfl h8 (λK' R τ W w' v'=>tJ K' R τ W w' v')
variable {wB w':aE}{c gq:Nat}{A:Option bL}{o:jD}{es:List dB}{ln:List Nat}
theorem oC.but {lo go ge n hb gh:Nat}(h:oC wB lo go ge n c A o es hb gh ln qn v w)(hs:w'.heap.size=w.heap.size)(Ag:lo<=gq)(Ab:gq≠gh)(zbK:some gq∉parts v hb)(k:∀b,b≠gq->w'.heap[b]? =w.heap[b]?):oC wB lo go ge n c A o es hb gh ln qn v w':=
 ⟨h.e.keep aC λb hb=>k b aC,h.at_.keep λb _ hp=>k b λe=>zbK (e▸hp),h.mp,h.nd,λx hx=>by rw[hs];exact h.lt x hx,(k _ (Ne.symm Ab)).trans h.bh,h.nh,h.ghl⟩
variable {Tf:Array aF}
theorem al17 :(aS (bH Tf []).eval zxZ).run aK w=.ok (.value (.pointer (some ⟨w.heap.size,0,none⟩))) (w.alloc (.cells #[.chan none] 95)):=by
 unfold aS;go_simp
theorem st17 {V:Nat->aF}{gc:Nat}(hT:xA Tf V)(e1:V 9=.pointer (some ⟨gq,0,none⟩))(e2:V 55=.chan (some gc))(hh:w.cell? ⟨gq,0,none⟩=some (.chan none))(hf:w.frozen? ⟨gq,0,none⟩=false){T:jV}:(aS (bH Tf []).eval ztU).run aK (Tt.tp w T 0)=.ok .skip (Tt.tp (w.setCell ⟨gq,0,none⟩ (.chan (some gc))) T 0):=by
 have zeZ:(Tt.tp w T 0).cell? ⟨gq,0,none⟩=some (.chan none):=hh;have At:(Tt.tp w T 0).frozen? ⟨gq,0,none⟩=false:=hf;clear hh hf;unfold aS;go_simp
 try rfl
def zcG:Go.Code:=.seq zlL (.seq (.cond (.tmp 54) .skip (.exit 4)) (.seq (.block 5 (.seq zc8 (.seq Qj (.seq Rb Sc)))) zif))
def zjC:Go.Code:=.seq Zs (.seq Za (.seq Vy (.seq Sv .ret)))
def q8.ok {chs:List Nat}(aY:∀a,p.St a->eP a)(vI:∀b,b<p.W0.heap.size->SS b)(hF:∀b,Fz b->SS b)(nO:p.W0.heap.size<=p.Wg):fE (p.cx K eP SS R0 Fz Wf qs chs):=zkB (C:=p.cx K eP SS R0 Fz Wf qs chs) rfl aY vI hF nO
structure B6 (p:q8)(wB:aE)(K:Pr)(eP SS:Nat->Prop)(R0:Pr)(Fz:Nat->Prop)(Wf:aE)(Xa:Nat->Prop)(qs qn:List Nat)(v:fL)(w:aE):Prop where
 K1:p.K1.le K
 R1:p.R1.le R0
 st:∀a,p.St a->eP a
 ss:∀b,b<p.W0.heap.size->SS b
 F:∀b,Fz b->SS b
 th:Ku p.w00 K R0 p.St eP Fz Wf Xa
 fz:∀b,Fz b->∃a,R0 a b/\eP a
 xt:∀a,xT a=true->eP a
 xa:∀a,Xa a->xT a=true\/(p.lo<=a/\a<w.heap.size/\a≠p.gh/\some a∉parts v p.hb)
 lq:qs.length=qn.length
 kq:∀(i g:Nat),qn[i]? =some g->K g (qa qs i)
 h:oC wB p.lo p.go p.ge p.n p.c p.A p.o p.es p.hb p.gh p.ln qn v w
structure zag (p:q8)(wB:aE):Prop where
 after:p.After
 gh:∃b,p.R1 p.gh b
 ok:gG p.o p.es=true
 low:p.W0.heap.size<=p.Wg
 lo0:p.lo0<=p.lo
 tb:Fw wB
 tl:∀a,xT a=true->a<p.lo0
 wB:∀b,b<p.lo0->xT b=false->wB.heap[b]? =p.w00.heap[b]?
 ln:(p.ln.length:Int)=p.o.ln
variable {W:aE}{Xa:Nat->Prop}
theorem op_dep (H:zag p wB)(I:B6 p wB K eP SS R0 Fz Wf Xa qs qn v w)(Sm:(qn.length:Int)=p.o.op){K':Pr}{τ:cF}{v':fL}(hK:K.le K')(hR:R0.le R)(hw:cT (SF gD) K' R (oZ aK) eP w' W)(hi:IQ p.W0 p.St (Ae p.Shun p.Wg) p.Wg SS R0 Fz Wf qs [] R τ W)
 (hA:bE w' p.lo p.hb v' (uW p.o p.es p.ln qn qn.length)) (hT:bM p.hb v w v' w'):p.D W:=by
 obtain⟨wn,t1,t2,t3,t4⟩:=I.th K' R w' W hK hR hw (λb hb=>(hi.x.x.fz b hb).2.1);have dQ:=I.h.e.lo_;have zFJ:∀b,b<p.lo->xT b=false->¬Xa b:=λb hb hx h=>by
  rcases I.xa b h with h|⟨h,_⟩
  .rw[h] at hx;cases hx
  .omega
 have zsf:∀b,p.lo<=b->xT b=false:=λb hb=>by
  cases e:xT b with
  |false=>rfl
  |true=>have:=H.tl b e;have:=H.lo0;omega
 refine⟨K',R,wn,v',qn,vP I.K1 hK,I.R1.trans hR,t1,hi.x.x.im.kp,hi.x.x.im.sh,hA.keep λb _ hp=>t3 b λhx=>?_,λb hb=>?_,by have:=hT.size;omega,?_,Sm⟩
 .have zFi:=(hA.lt b hp).1
  rcases I.xa b hx with h|⟨_,h2,_,h4⟩
  .rw[zsf b zFi] at h;cases h
  .rcases hT.moved b hp with hm|hm
   .exact h4 hm
   .omega
 .cases e:xT b with
  |true=>exact t4 b e
  |false=>
   have bZ:=lC hb H.lo0;rw[t3 b (zFJ b bZ e),hT.block b aC (λhp=>by have:=(I.h.at_.lt b hp).1;omega),I.h.e.old b bZ,H.wB b hb e]
 .rw[t3 p.gh λhx=>?_]
  .exact(I.h.at_.turned hT I.h.bh I.h.nh).1
  .rcases I.xa _ hx with h|⟨_,_,h3,_⟩
   .rw[zsf _ I.h.ghl] at h;cases h
   .exact h3 rfl
theorem op_pre (H:zag p wB)(I:B6 p wB K eP SS R0 Fz Wf Xa qs qn v w)(Sm:(qn.length:Int)=p.o.op)(e:Gd)(he:e.W=Bj p.o p.es)(hq:e.qs=qs):zcp e p.o p.es p.ln qn p.lo p.hb v w K p.A p.n p.c:=
 ⟨H.ok,he,I.h.at_,I.h.mr,I.h.nd,H.ln,Sm,by rw[hq];exact I.lq,I.h.e.lo_,I.h.e.tab,I.h.e.ev,by rw[hq];exact I.kq⟩
def und_chq:aK.underlying 95=some (.chan .both 124):=aP
def zGl:∃ie,aK.info? 124=some ie:=Option.isSome_iff_exists.1 aP
theorem zDj (h:i<qs.length):qa (qs++[c]) i=qa qs i:=by simp[qa,Kl,y3 h]
theorem qa_snoc :qa (qs++[c]) qs.length=c:=by simp[qa,Kl]
theorem rh_go (H:zag p wB){gc cr j:Nat}(I:B6 p wB K eP SS R0 Fz Wf Xa qs qn v w)(hN:qs.length<p.N)(zKo:j=qn.length)(zch:K gc cr)
 (Ag:w.heap[gq]? =some (.cells #[.chan (some gc)] 95)) (zat:p.lo<=gq) (Fe:gq≠p.gh) (za9:some gq∉parts v p.hb) {kk:List eE}
 (zaL:∀(zbL zbl:Nat->Prop) (zaV:Pr) (zac:Nat->Prop) (zbJ:aE) (zjn:Nat->Prop) (v':fL) (w':aE) u0 u1 u4 u5 u6 gU gH gK gF gJ gI u16 iH kO kH jO iM iE gY iD iJ iC iI iO iK jH jI u32 iG iB iF iA kV kN iL gZ iN iZ iX iP iS iY jB jC iV iT iW kJ kK kR kT kP jZ j6 j8 u64 j7 kD j9 kY kI kL j5 u9 lB lA kF,B6 p wB K zbL zbl zaV zac zbJ zjn (qs++[cr]) (qn++[gc]) v' w'->BO (p.cx K zbL zbl zaV zac zbJ (qs++[cr]) []) (.mN (qs++[cr])) ⟨42,#[u0,u1,.pointer (some ⟨p.go,0,none⟩),.pointer (some ⟨p.ge,0,none⟩),u4,u5,u6,.pointer (some ⟨p.gh,0,none⟩),.nilFunc,u9,gU,gH,gK,gF,gJ,gI,u16,iH,kO,kH,jO,iM,iE,gY,iD,iJ,iC,iI,iO,iK,jH,jI,u32,iG,iB,iF,iA,kV,kN,iL,gZ,iN,iZ,iX,iP,iS,iY,jB,jC,iV,iT,iW,.int .i64 p.o.op,.int .i64 j,lB,lA,kJ,kK,kR,kT,kP,jZ,j6,j8,u64,j7,kF,kD,j9,kY,kI,kL,j5],kk,false⟩ w')
 {u0 u1 u4 u5 u6:aF}:
 BO (p.cx K eP SS R0 Fz Wf qs [cr]) (.mA qs cr) ⟨42,#[u0,u1,.pointer (some ⟨p.go,0,none⟩),.pointer (some ⟨p.ge,0,none⟩),u4,u5,u6,.pointer (some ⟨p.gh,0,none⟩),.nilFunc,.pointer (some ⟨gq,0,none⟩),gU,gH,gK,gF,gJ,gI,u16,iH,kO,kH,jO,iM,iE,gY,iD,iJ,iC,iI,iO,iK,jH,jI,u32,iG,iB,iF,iA,kV,kN,iL,gZ,iN,iZ,iX,iP,iS,iY,jB,jC,iV,iT,iW,.int .i64 p.o.op,.int .i64 j,.bool true,.chan (some gc),kJ,kK,kR,kT,kP,jZ,j6,j8,u64,j7,kF,kD,j9,kY,kI,kL,j5],[.code (.seq Qj (.seq Rb Sc))]++kk,false⟩ w:=by
 let C:=p.cx K eP SS R0 Fz Wf qs [cr]
 have hI:fE C:=q8.ok I.st I.ss I.F H.low;have hX:=zgw (ty:=rI.tWg) (St:=p.St) (Shun:=Ae p.Shun p.Wg) (R0:=R0) (Fz:=Fz) (Wf:=Wf) (qs:=qs) (chs:=[cr]) I.ss I.F H.low;show BO C _ ⟨_,_,.code (.seq Qj (.seq Rb Sc))::kk,false⟩ _;have rZ:rR p.o=true:=by
  have:=H.ok;unfold gG at this;simp only[fV] at this;exact this.1.1
 unfold rR at rZ;have rZ:=of_decide_eq_true rZ;have zJ4:p.N<=4:=by unfold q8.N;omega
 refine BO.seq hI ?_;refine cw_RQ (C:=C) (l:=.mA qs cr) (c:=⟨p.lo,p.hb,p.gh,gq,gc,v,w,v,⟨l7 p.o,p.ln,qn,[]⟩⟩) hI rfl rfl rfl mP (λi o s h1 h2 h3=>?_) (by show qn.length<=1000;have:=I.lq;omega) I.h.nh za9 rfl rfl rfl (λvs C' l' w' tU hS=>?_) ⟨rfl,rfl,λ_=>⟨aJ I.h.at_.blk 6,I.h.bh,Ag⟩,⟨I.h.at_,bM.refl,I.h.e.lo_⟩⟩
 .obtain rfl:s=8:=sE.1 h3
  have hm:some 8∈oN.toList.map (·.dst):=List.mem_map.2 ⟨o,dX (by rw[Ap];exact h1),h2⟩;rw[zp1] at hm;simp at hm
 rw[Go.Mt.An,zp1];simp only[Go.Mt.xL,dV,dW];obtain⟨rfl,rfl,_,h4⟩:=hS;have s4:WH.RQ2 ⟨p.lo,p.hb,p.gh,gq,gc,v,w,v,⟨l7 p.o,p.ln,qn,[]⟩⟩ gc w':=by
  rcases vs with _|⟨b,_|⟨x,_|⟨y,vs⟩⟩⟩
  .cases tU
  .cases tU
  .cases tU
  .exact h4
 obtain⟨v2,a2,t2,mp⟩:=s4;have La:oC wB p.lo p.go p.ge p.n p.c p.A p.o p.es p.hb p.gh p.ln (qn++[gc]) v2 w':=I.h.turn t2 a2 mp I.h.nd λx hx=>lC (I.h.lt x hx) t2.size;obtain⟨znR,zuK⟩:=I.h.at_.turned t2 Ag za9;have HR:=aD La;have T2:=aD t2;clear La a2 mp h4 tU;refine BO.regEnd hI ?_;refine BO.seq hI ?_;rw[zJN];refine BO.regs hI _ zJF ?_;refine BO.add (C:=C) (Lk:=rI) (s:=8) (nx:=.mS qs cr) zc7 rfl rfl rfl hI rfl hX zzR rfl rfl (sE.2 rfl) (by intro s hs;cases hs;show(66:Nat)∉([8]:List Nat);decide) rfl ?_;simp only[cC,gE,dV,dW];refine BO.regEnd hI ?_;rw[zyN];refine BO.regs hI _ zE2 ?_;refine BO.go (C:=C) rfl hI zB6 zyR rfl rfl rfl rfl rfl rfl (lc:=.op cr 0 (nX (Bj p.o p.es) 0 qs.length)) (nx:=.mN (qs++[cr])) (pub:=[cr]) rfl aQ λR W t τ hw ha Dj ht hi=>?_;have hw:cT (SF gD) K R (oZ aK) eP w' W:=hw;have hi:yS rI.tWg p.Wg (IQ p.W0 p.St (Ae p.Shun p.Wg) p.Wg SS R0 Fz Wf qs [cr]) R τ W:=hi;obtain⟨hi,mY⟩:=hi;have h8:t.getD 8 aA=.pointer (some ⟨p.Wg,0,none⟩):=Dj (8,.pointer (some ⟨p.Wg,0,none⟩)) (sE.2 rfl);have cJ:t.size=73:=ha.1.symm;have dE:∀a,¬R a cr:=(hi.x.ch cr (sE.2 rfl)).2.2;have Dv:Fw w':=λg hg=>by
  have:=H.tl g hg;have:=H.lo0;rw[HR.o.e.old g aC];exact H.tb g hg
 have zAr:∃b,R gq b:=by
  have h1:VR (SF gD) K R (.pointer (some ⟨gq,0,none⟩)) (t.getD 9 aA):=ha.getD 9 (xW (S:=SF gD) (K:=K) (R:=R));generalize t.getD 9 aA=t9 at h1
  cases h1 with
  |pointer y=>cases y with|some y=>cases y with|mk y=>exact⟨_,y⟩
 have hx:XOk R (xQ gq) w':=⟨λa h=>by
  rcases zbg h with rfl|h
  .exact zAr
  .exact⟨a,hw.tb a h⟩,λa h=>by
  rcases zbg h with rfl|h
  .exact⟨_,_,_,znR⟩
  .obtain⟨c,T,fz,hc,_⟩:=Dv a h;exact⟨c,T,fz,hc⟩⟩
 have Zb:R0.le R:=hi.x.x.le;have fP:=zxd hw hx;have zH2:∀b,b≠gq->(uP (xQ gq) w').heap[b]? =w'.heap[b]? :=λb hb=>zBx λh=>by
  rcases zbg h with h|h
  .exact absurd h hb
  .exact(hw.st b (I.xt b h)).2
 have zEi:=zD5 (X:=xQ gq) (qs:=qs) hw ht dE;have znG:=iq_qm (X:=xQ gq) hw ht hi;refine⟨Jy τ R (xQ gq) cr qs,Yu τ R (xQ gq),parts_q ht hi,?_,?_⟩
 .have J:B6 p wB K (λa=>eP a\/xQ gq a=true) (Jy τ R (xQ gq) cr qs).still R (Gv R eP (xQ gq)) W (λa=>Xa a\/xQ gq a=true) (qs++[cr]) (qn++[gc]) v2 (uP (xQ gq) w'):=by
   refine⟨I.K1,I.R1.trans Zb,λa h=>.inl (I.st a h),λb hb=>.inl (by rw[hi.x.x.im.still];exact I.ss b hb),λb hb=>?_,I.th.step (wX K) Zb hw hx (λb hb=>⟨(hi.x.x.fz b hb).2.1,let⟨a,x,y⟩:=I.fz b hb;⟨a,Zb _ _ x,y⟩⟩),λb hb=>hb,λa h=>.inl (I.xt a h),λa h=>?_,by rw[gM,gM,I.lq];rfl,λi g hg=>?_,HR.o.but (Qu _ _) zat Fe zuK zH2⟩
   .obtain⟨a,x,h⟩:=hb
    rcases h with h|h
    .exact .inl ((ht a b x).1 h)
    .exact .inr ⟨a,x,h⟩
   .rw[Qu]
    rcases h with h|h
    .rcases I.xa a h with h|⟨h1,h2,h3,h4⟩
     .exact .inl h
     .exact .inr ⟨h1,lC h2 T2.o.size,h3,λhp=>(T2.o.moved a hp).elim h4 λx=>absurd h2 (Nat.not_lt.2 x)⟩
    .rcases zbg h with rfl|h
     .exact .inr ⟨zat,fY znR,Fe,zuK⟩
     .exact .inl h
   .rcases mX i qn.length with aN|Cb
    .rw[y3 aN] at hg
     rw[zDj (by rw[I.lq];exact aN)];exact I.kq i g hg
    .obtain rfl:i=qn.length:=by
      have:=(kE.1 hg).1;simp at this;omega
     simp at hg;subst hg;rw[<-I.lq,qa_snoc];exact zch
  have Gk:fE (p.cx K (λa=>eP a\/xQ gq a=true) (Jy τ R (xQ gq) cr qs).still R (Gv R eP (xQ gq)) W (qs++[cr]) []):=q8.ok J.st J.ss J.F H.low;have h1:=ha.set 67 (.junk (v':=(.func (.func 54) #[] ((#[.tmp 8,.tmp 9]:Array cN).map (bH t C.ds.ds).eval))) Zg);simp only[gE,dV,dW] at h1;have fin:∀(G1:Array aF),bK (SF gD) K R G1 (t.setIfInBounds 67 (.func (.func 54) #[] ((#[.tmp 8,.tmp 9]:Array cN).map (bH t C.ds.ds).eval)))->BO (p.cx K (λa=>eP a\/xQ gq a=true) (Jy τ R (xQ gq) cr qs).still R (Gv R eP (xQ gq)) W (qs++[cr]) []) (.mN (qs++[cr])) ⟨42,G1,.inRegion O8 []::kk,false⟩ (uP (xQ gq) w')->b6 C.p C.ty C.Wg C.A C.Fin C.main (.usr (.mN (qs++[cr]))) 0 (Jy τ R (xQ gq) cr qs) (G ((C.ds.base 42).at ⟨t.setIfInBounds 67 (.func (.func 54) #[] ((#[.tmp 8,.tmp 9]:Array cN).map (bH t C.ds.ds).eval)),C.ds.ds⟩ (.inRegion O8 []::kk)) C.base) W:=λG1 h1 hB=>by
   have hm:=hB R W ⟨42,t.setIfInBounds 67 (.func (.func 54) #[] ((#[.tmp 8,.tmp 9]:Array cN).map (bH t C.ds.ds).eval)),.inRegion O8 []::kk,false⟩ (Jy τ R (xQ gq) cr qs) fP ⟨rfl,rfl,rfl,h1,λx lP=>?_⟩ zEi ⟨znG,mY⟩
   .rw[Cx.B_none rfl,mI] at hm
    exact hm
   .obtain rfl:=sE.1 lP
    show(t.setIfInBounds 67 _).getD 8 aA=_;rw[<-h8];simp only[tZ,jQ (show(67:Nat)≠8 by decide)]
  exact fin _ h1 (BO.regEnd (ops:=O8) Gk (zaL _ _ _ _ _ _ v2 (uP (xQ gq) w') _ _ _ _ _ _ _ _ _ _ _ _ _ _ _ _ _ _ _ _ _ _ _ _ _ _ _ _ _ _ _ _ _ _ _ _ _ _ _ _ _ _ _ _ _ _ _ _ _ _ _ _ _ _ _ _ _ _ _ _ _ _ _ _ _ _ _ J))
 .simp only[uS,fK,tL,wH]
  exact op_born hw hx zch dE znR Dv ha rfl h8 hi.x.x.im.wg hi.x.x.im.rel mY
variable {St:Nat->Prop}
def Ku.mono {w00:aE}{K2:Pr}(h:Ku w00 K R St eP Fz Wf Xa)(hK:K.le K2):Ku w00 K2 R St eP Fz Wf Xa:=λK' R' wn Wn a b c d=>h K' R' wn Wn (vP hK a) b c d
def B6.tp (I:B6 p wB K eP SS R0 Fz Wf Xa qs qn v w)(T:jV)(n:Nat):B6 p wB K eP SS R0 Fz Wf Xa qs qn v (Tt.tp w T n):=⟨I.K1,I.R1,I.st,I.ss,I.F,I.th,I.fz,I.xt,I.xa,I.lq,I.kq,I.h.tp T n⟩
theorem rh_ops (H:zag p wB):∀(m j:Nat),((j+m:Nat):Int)=p.o.op->∀(K:Pr) (eP SS:Nat->Prop) (R0:Pr) (Fz:Nat->Prop) (Wf:aE) (Xa:Nat->Prop) (qs qn:List Nat) (v:fL) (w:aE) (u0 u1 u4 u5 u6 u9 gU gH gK gF gJ gI u16 iH kO kH jO iM iE gY iD iJ iC iI iO iK jH jI u32 iG iB iF iA kV kN iL gZ iN iZ iX iP iS iY jB jC iV iT iW lB lA kJ kK kR kT kP jZ j6 j8 u64 j7 kF kD j9 kY kI kL j5:aF),B6 p wB K eP SS R0 Fz Wf Xa qs qn v w->qn.length=j->
 BO (p.cx K eP SS R0 Fz Wf qs []) (.mN qs) ⟨42,#[u0,u1,.pointer (some ⟨p.go,0,none⟩),.pointer (some ⟨p.ge,0,none⟩),u4,u5,u6,.pointer (some ⟨p.gh,0,none⟩),.nilFunc,u9,gU,gH,gK,gF,gJ,gI,u16,iH,kO,kH,jO,iM,iE,gY,iD,iJ,iC,iI,iO,iK,jH,jI,u32,iG,iB,iF,iA,kV,kN,iL,gZ,iN,iZ,iX,iP,iS,iY,jB,jC,iV,iT,iW,.int .i64 p.o.op,.int .i64 j,lB,lA,kJ,kK,kR,kT,kP,jZ,j6,j8,u64,j7,kF,kD,j9,kY,kI,kL,j5],[.code zcG,.inLoop zcG,.inBlock 4,.code zjC],false⟩ w:=by
 have rZ:rR p.o=true:=by
  have:=H.ok;unfold gG at this;simp only[fV] at this;exact this.1.1
 unfold rR at rZ;have rZ:=of_decide_eq_true rZ;have h4:p.o.op<=4:=rZ.2.2.2.1;clear rZ;intro m
 induction m with
 |zero=>
  intro j hj K eP SS R0 Fz Wf Xa qs qn v w u0 u1 u4 u5 u6 u9 gU gH gK gF gJ gI u16 iH kO kH jO iM iE gY iD iJ iC iI iO iK jH jI u32 iG iB iF iA kV kN iL gZ iN iZ iX iP iS iY jB jC iV iT iW lB lA kJ kK kR kT kP jZ j6 j8 u64 j7 kF kD j9 kY kI kL j5 I hl;have hI:fE (p.cx K eP SS R0 Fz Wf qs []):=q8.ok I.st I.ss I.F H.low;have zhT:(j:Int)=p.o.op:=by simpa using hj
  have Hj:¬(j:Int)<p.o.op:=aC;have HI:=aD I;have HJ:=aD zhT;clear I hj zhT;unfold zcG;refine BO.seq hI ?_;refine BO.pV mP hI tV (λw1 T1 fB Q' cY=>?_);have Sx:=aD (show B6 p wB K eP SS R0 Fz Wf Xa qs qn v w1 by rw[fB];exact HI.o.tp T1 0);clear HI
  try dsimp only
  clear fB;go_wp2;refine cY.o _ _ ?_;clear cY;refine BO.seq hI ?_;refine BO.cond hI (t:=false) rfl rfl ?_;refine BO.exit hI (k':=[.code zjC]) rfl ?_;have I:=Sx.o;have zhT:=HJ.o;have zFQ:=I.lq;refine rh_last H.after H.gh (by unfold q8.N;omega) I.st I.ss I.F H.low I.R1 (op_pre H I aC) (aJ I.h.bh 0) (aJ I.h.e.be 0) (λK' R τ W w' v' hK hR hw hi hA hm hT=>op_dep H I aC hK hR hw hi hA hT)
 |succ m ih=>
  intro j hj K eP SS R0 Fz Wf Xa qs qn v w u0 u1 u4 u5 u6 u9 gU gH gK gF gJ gI u16 iH kO kH jO iM iE gY iD iJ iC iI iO iK jH jI u32 iG iB iF iA kV kN iL gZ iN iZ iX iP iS iY jB jC iV iT iW lB lA kJ kK kR kT kP jZ j6 j8 u64 j7 kF kD j9 kY kI kL j5 I hl;have hI:fE (p.cx K eP SS R0 Fz Wf qs []):=q8.ok I.st I.ss I.F H.low;have Hj:(j:Int)<p.o.op:=aC;have HI:=aD I;have HJ:=aD hj;clear I hj;unfold zcG;refine BO.seq hI ?_;refine BO.pV mP hI tV (λw1 T1 fB Q' cY=>?_);have Sx:=aD (show B6 p wB K eP SS R0 Fz Wf Xa qs qn v w1 by rw[fB];exact HI.o.tp T1 0);clear HI
  try dsimp only
  clear fB;go_wp2;refine cY.o _ _ ?_;clear cY;refine BO.seq hI ?_;refine BO.cond hI (t:=true) rfl rfl ?_;refine BO.skip hI ?_;refine BO.seq hI ?_;refine BO.block hI ?_;refine BO.seq hI ?_;have I:=Sx.o;have zFQ:=I.lq;have zoz:qs.length<p.N:=by unfold q8.N;omega
  rw[zBc];refine BO.regs hI _ zBO ?_;obtain⟨ie,jU⟩:=zGl;refine BO.makeK hI zzj rfl rfl und_chq jU (by intro s hs;cases hs;show(55:Nat)∉([8]:List Nat);decide) (I':=λc=>yS rI.tWg p.Wg (IQ p.W0 p.St (Ae p.Shun p.Wg) p.Wg SS R0 Fz Wf qs [c])) (λR τ W hi ht aN=>?_) (λcr=>?_)
  .have hi:yS rI.tWg p.Wg (IQ p.W0 p.St (Ae p.Shun p.Wg) p.Wg SS R0 Fz Wf qs []) R τ W:=hi
   refine⟨zus hi.1 aN,?_⟩;obtain⟨st,sm,hx⟩:=hi.2;have lP:W.heap[p.Wg]? =some _:=hx;exact⟨st,sm,(Fp (dO.1 lP).1).trans lP⟩
  simp only[cC,gE,dV,dW];show BO (p.cx (K.add w1.heap.size cr) eP SS R0 Fz Wf qs [cr]) (.mN qs) _ _;refine BO.note (can:=λl'=>∃a,l'=.mA qs a) rfl (by show eT p.N (Bj p.o p.es) (.mN qs)=_;simp[eT,zoz]) ⟨cr,rfl⟩ ?_;have Ma:fE (p.cx (K.add w1.heap.size cr) eP SS R0 Fz Wf qs [cr]):=q8.ok I.st I.ss I.F H.low;have lJ:=aD (show oC wB p.lo p.go p.ge p.n p.c p.A p.o p.es p.hb p.gh p.ln qn v (w1.alloc o9) from I.h.below (dS (eF _ _) _));obtain⟨gc,Qt⟩:=aU w1.heap.size;have zw:(w1.alloc o9).heap.size=gc+1:=by rw[qR,Qt]
  rw[<-Qt];obtain⟨w2,fX⟩:=aU (w1.alloc o9);rw[<-fX] at lJ zw⊢;have Gk:fE (p.cx (K.add gc cr) eP SS R0 Fz Wf qs [cr]):=q8.ok I.st I.ss I.F H.low;refine BO.op mP Gk zHy rfl aP (by intro s hs;cases hs;show(9:Nat)∉([8]:List Nat);decide) (λT=>⟨_,_,.inl al17,?_⟩);simp only[cC,gE,dV,dW];obtain⟨gq,Ag⟩:=aU ((Tt.tp w2 T 0).heap.size);have zzH:gq=gc+1:=by rw[Ag];exact zw
  have lE:=aD (show oC wB p.lo p.go p.ge p.n p.c p.A p.o p.es p.hb p.gh p.ln qn v ((Tt.tp w2 T 0).alloc (.cells #[.chan none] 95)) from(lJ.o.tp T 0).below (dS (eF _ _) _));have KB:=aD (show((Tt.tp w2 T 0).alloc (.cells #[.chan none] 95)).heap[gq]? =some (.cells #[.chan none] 95) by rw[Ag];exact Ee _ _);have z3:((Tt.tp w2 T 0).alloc (.cells #[.chan none] 95)).heap.size=gc+2:=by rw[qR,<-Ag,zzH]
  have zat:p.lo<=gq:=by have:=lJ.o.e.lo_;omega
  have Fe:gq≠p.gh:=by
   intro e;have:=fY I.h.bh;omega
  have za9:some gq∉parts v p.hb:=λhp=>by have:=(I.h.at_.lt gq hp).2;omega
  rw[<-Ag];clear Ag;obtain⟨w3,iU⟩:=aU ((Tt.tp w2 T 0).alloc (.cells #[.chan none] 95));rw[<-iU] at lE KB z3⊢;clear iU lJ zw fX;refine BO.op mP Gk zDd rfl aP zlk (λT2=>⟨aA,Tt.tp (w3.setCell ⟨gq,0,none⟩ (.chan (some gc))) T2 0,.inr ⟨st17 (V:=λs=>(#[u0,u1,.pointer (some ⟨p.go,0,none⟩),.pointer (some ⟨p.ge,0,none⟩),u4,u5,u6,.pointer (some ⟨p.gh,0,none⟩),.nilFunc,.pointer (some ⟨gq,0,none⟩),gU,gH,gK,gF,gJ,gI,u16,iH,kO,kH,jO,iM,iE,gY,iD,iJ,iC,iI,iO,iK,jH,jI,u32,iG,iB,iF,iA,kV,kN,iL,gZ,iN,iZ,iX,iP,iS,iY,jB,jC,iV,iT,iW,.int .i64 p.o.op,.int .i64 j,.bool true,.chan (some gc),kJ,kK,kR,kT,kP,jZ,j6,j8,u64,j7,kF,kD,j9,kY,kI,kL,j5]:Array aF).getD s aA) (λs=>rfl) rfl rfl (aJ KB.o 0) (eJ KB.o 0),rfl⟩,?_⟩);refine BO.regEnd Gk ?_;refine BO.tape ?_ T2 0;clear T2;have hK:K.le (K.add gc cr):=Pr.le_add _ _ _;have aT:∀b,b≠gq->(w3.setCell ⟨gq,0,none⟩ (.chan (some gc))).heap[b]? =w3.heap[b]? :=λb hb=>zbP w3 _ _ hb;have I3:B6 p wB (K.add gc cr) eP SS R0 Fz Wf Xa qs qn v (w3.setCell ⟨gq,0,none⟩ (.chan (some gc))):=⟨vP I.K1 hK,I.R1,I.st,I.ss,I.F,I.th.mono hK,I.fz,I.xt,λa ha=>by
   rcases I.xa a ha with h|⟨h1,h2,h3,h4⟩
   .exact .inl h
   .exact .inr ⟨h1,by rw[I2,z3];omega,h3,h4⟩,I.lq,λi g hg=>hK _ _ (I.kq i g hg),lE.o.but (I2 _ _ _) zat Fe za9 aT⟩
  refine rh_go H I3 zoz (j:=j) hl.symm (.inr ⟨rfl,rfl⟩) (nJ KB.o _) zat Fe za9 (λzbL zbl zaV zac zbJ zjn v' w' u0 u1 u4 u5 u6 gU gH gK gF gJ gI u16 iH kO kH jO iM iE gY iD iJ iC iI iO iK jH jI u32 iG iB iF iA kV kN iL gZ iN iZ iX iP iS iY jB jC iV iT iW kJ kK kR kT kP jZ j6 j8 u64 j7 kD j9 kY kI kL j5 u9 lB lA kF I4=>?_);have zli:fE (p.cx (K.add gc cr) zbL zbl zaV zac zbJ (qs++[cr]) []):=q8.ok I4.st I4.ss I4.F H.low;have zx0:=aD I4;clear I4 I3 aT lE KB I Sx;refine BO.inBlock zli ?_;refine BO.pV mP zli tV (λw5 T5 nY Q' cY=>?_);have zHR:=aD (show B6 p wB (K.add gc cr) zbL zbl zaV zac zbJ zjn (qs++[cr]) (qn++[gc]) v' w5 by rw[nY];exact zx0.o.tp T5 0);clear zx0
  try dsimp only
  clear nY;go_wp2;refine cY.o _ _ ?_;clear cY;refine BO.inLoop zli ?_;exact ih (j+1) (by have:=HJ.o;omega) _ _ _ _ _ _ _ _ _ _ _ _ _ _ _ _ _ _ _ _ _ _ _ _ _ _ _ _ _ _ _ _ _ _ _ _ _ _ _ _ _ _ _ _ _ _ _ _ _ _ _ _ _ _ _ _ _ _ _ _ _ _ _ _ _ _ _ _ _ _ _ _ _ _ _ _ _ _ zHR.o (by rw[gM,hl];rfl)
structure StW (W W4:aE):Prop where
 size:W4.heap.size=W.heap.size+1
 keep:∀b,b<W.heap.size->W4.heap[b]? =W.heap[b]?
 wg:Go.ConcR.WgAt 94 W.heap.size W4 0 0
 os:W4.os=W.os
 tape:W4.tape=W.tape
 output:W4.output=W.output
variable {Post:aF->aE->Prop}{Shun:Loc->Prop}
theorem zA2 {CS:List dH}
 (h:∀W4,StW W W4->J aK Post Shun W.heap.size (G ((J1 42).at ⟨t.setIfInBounds 8 (.pointer (some ⟨W.heap.size,0,none⟩)),[]⟩ [.code Fy]) CS) W4):
 J aK Post Shun W.heap.size (G ((J1 42).at ⟨t,[]⟩ [.code (.seq Mw Fy)]) CS) W:=by
 have start:∀d,J aK Post Shun W.heap.size (G ((J1 42).at ⟨t,[]⟩ [.code (.seq Mw Fy)]) CS) (W.at d):=by
  refine J.sil rfl (λw=>stepG_seq) ?_;generalize gV:Fy=K0 at h⊢;simp only[Mw,oM,zeG,Option.getD_some];refine J.sil rfl (λw=>stepG_region) ?_;refine J.opq (o:=_) (v:=.pointer (some ⟨W.heap.size,0,none⟩)) (w':=W.alloc (.cells #[.int .u64 0,.int .u32 0] 94)) rfl rfl aH (λd=>?_) (λd e he=>?_) ?_
  .show _=Result.ok _ ((W.at d).alloc _)
   have hz:(W.at d).heap.size=W.heap.size:=rfl;rw[<-hz];simp[aS,go_sem,wH]
  .simp[aS,go_sem,wH] at he
  refine J.sil rfl (λw=>stepG_region_end) ?_;intro d;have aY:StW W ((W.alloc (.cells #[.int .u64 0,.int .u32 0] 94)).at d):=by
   refine⟨?_,λb hb=>?_,?_,rfl,rfl,rfl⟩
   .show(W.alloc _).heap.size=_
    rw[qR]
   .show(W.alloc _).heap[b]? =_
    rw[Fp hb]
   .show(W.alloc _).heap[_]? =_
    rw[Ee];rfl
  exact h _ aY
 exact start W.drawn
variable {W0:aE}
theorem zGi {base:List dH}{lo0 lo go ge n hb gh:Nat}(hR:oC wB lo go ge n c A o es hb gh ln [] v w)(hgo:lo0<=go)(Cb:lo0<=ge)(dQ:lo0<=lo)(bV:gG o es=true)(yJ:(ln.length:Int)=o.ln)(Dv:Fw w)(zbb:∀a,xT a=true->a<lo0)
 (zl7:∀(R1:Pr) (Wg:Nat),R0.le R1->q8.After ⟨Post,Shun,W0,St,base,K,R1,w,lo0,lo,go,ge,n,c,A,o,es,hb,gh,ln,Wg⟩) {u0 u1 u4 u5 u6 u8 u9 mJ mE lB lA:aF}:
 BO (H4 Post Shun W0 St R0 base K) () ⟨42,#[u0,u1,.pointer (some ⟨go,0,none⟩),.pointer (some ⟨ge,0,none⟩),u4,u5,u6,.pointer (some ⟨gh,0,none⟩),u8,u9,gU,gH,gK,gF,gJ,gI,u16,iH,kO,kH,jO,iM,iE,gY,iD,iJ,iC,iI,iO,iK,jH,jI,u32,iG,iB,iF,iA,kV,kN,iL,gZ,iN,iZ,iX,iP,iS,iY,jB,jC,iV,iT,iW,mJ,mE,lB,lA,kJ,kK,kR,kT,kP,jZ,j6,j8,u64,j7,kF,kD,j9,kY,kI,kL,j5],[.code (.seq Mw Fy)],false⟩ w:=by
 intro R W m1 τ hw hm zKe hi;obtain⟨fn',t,yW,yL⟩:=m1;obtain rfl:=hm.fn;obtain rfl:=hm.todo;obtain rfl:=hm.ret;have hw:cT (SF gD) K R (oZ aK) St w W:=hw;have hi:IA W0 St Shun R0 R τ W:=hi;have ha:bK (SF gD) K R #[u0,u1,.pointer (some ⟨go,0,none⟩),.pointer (some ⟨ge,0,none⟩),u4,u5,u6,.pointer (some ⟨gh,0,none⟩),u8,u9,gU,gH,gK,gF,gJ,gI,u16,iH,kO,kH,jO,iM,iE,gY,iD,iJ,iC,iI,iO,iK,jH,jI,u32,iG,iB,iF,iA,kV,kN,iL,gZ,iN,iZ,iX,iP,iS,iY,jB,jC,iV,iT,iW,mJ,mE,lB,lA,kJ,kK,kR,kT,kP,jZ,j6,j8,u64,j7,kF,kD,j9,kY,kI,kL,j5] t:=hm.tmps;have cJ:t.size=73:=ha.1.symm;rw[mI,Cx.B_some rfl];intro _ Bn;refine zA2 λW4 aY=>?_;have rZ:rR o=true:=by
  have:=bV;unfold gG at this;simp only[fV] at this;exact this.1.1
 unfold rR at rZ;have rZ:=of_decide_eq_true rZ
 let p:q8:=⟨Post,Shun,W0,St,base,K,R,w,lo0,lo,go,ge,n,c,A,o,es,hb,gh,ln,W.heap.size⟩
 have aN:∀a b,R a b->b<W.heap.size:=λa b x=>(hw.lt a b (.inl x)).2;have hrel:cT (SF gD) K R (oZ aK) St w W4:=cT.real hw (λa b x=>aY.keep b (aN a b x)) (by rw[aY.size];omega);have zyd:∀a,xT a=true->∃c T fz,w.heap[a]? =some (.cells c T fz):=λa h=>let⟨c,T,fz,hc,_⟩:=Dv a h;⟨c,T,fz,hc⟩
 have zuG:XOk R xT w:=⟨λa h=>⟨a,hw.tb a h⟩,zyd⟩;have fP:=zxd hrel zuG;have hk:=hi.kp;have lK:=hi.sh;have zI6:=hk.size;have zjA:Kp W0 R St W4:=⟨aY.os.trans hk.os,aY.tape.trans hk.tape,aY.output.trans hk.output,by rw[aY.size];omega,λb hb=>(aY.keep b aC).trans (hk.block b hb),hk.old⟩;have zcH:∀a b,R a b->b≠W.heap.size:=λa b x=>by have:=aN a b x;omega
 have zIJ:Sh W0.heap.size (Ae Shun W.heap.size) R W4:=by
  refine⟨λl b hl hb hx=>?_,λa b x l hl hx=>?_,λl b hl hb hx=>?_⟩
  .rcases hx with hx|hx
   .exact lK.old l b hl hb hx
   .have:=Lq hl hx;omega
  .rcases hx with hx|hx
   .exact lK.rel a b x l hl hx
   .exact zcH a b x (Lq hl hx)
  .rcases hx with hx|hx
   .exact lK.new l b hl (by rw[aY.size] at hb;omega) hx
   .have:=Lq hl hx;have:=aY.size;omega
 have Fe:∃b,R gh b:=by
  have h1:VR (SF gD) K R (.pointer (some ⟨gh,0,none⟩)) (t.getD 7 aA):=ha.getD 7 (xW (S:=SF gD) (K:=K) (R:=R));generalize t.getD 7 aA=t7 at h1
  cases h1 with
  |pointer y=>cases y with|some y=>cases y with|mk y=>exact⟨_,y⟩
 let SC:Nat->Prop:=λa=>St a\/xT a=true
 let τ0:cF:=tauP R SC W0 []
 have zxe:∀a b,R a b->SC a->¬τ0.own b:=λa b x h hb=>by
  rcases hb with⟨a',x',hn⟩|hb
  .obtain rfl:=hw.inj' a a' b (.inl x) (.inl x')
   exact hn h
  .cases hb
 have znG:IQ W0 St (Ae Shun W.heap.size) W.heap.size τ0.still R (Gv R St xT) W4 [] [] R τ0 W4:=by
  refine⟨⟨⟨⟨zjA,zIJ,rfl,by rw[aY.size];omega,λb hb=>?_,zcH⟩,.refl R,λb hb=>?_⟩,λb hb hs=>?_,λb hb=>?_,λc hc=>by cases hc⟩,λc hc=>by cases hc⟩
  .rcases hb with⟨a,x,_⟩|hb
   .exact zcH a b x
   .cases hb
  .obtain⟨a,x,h⟩:=hb
   exact⟨(hrel.lt a b (.inl x)).2,rfl,zxe a b x h,zcH a b x⟩
  .rcases hs with hs|⟨a,x,h⟩
   .rcases hb with⟨a',x',hn⟩|hb
    .exact hn (.inl (hk.old a' b x' hs))
    .cases hb
   .exact zxe a b x h hb
  .rcases hb with hb|⟨a,x,_⟩
   .rw[aY.size];omega
   .exact(hrel.lt a b (.inl x)).2
 have H:zag p (uP xT w):=⟨zl7 R W.heap.size hi.le,Fe,bV,zI6,dQ,λg hg=>by
  obtain⟨c,T,fz,h1,h2⟩:=Dv g hg;exact⟨c,T,_,Rj hg h1,h2⟩,zbb,λb hb hx=>N0 hx,yJ⟩
 have I:B6 p (uP xT w) K SC τ0.still R (Gv R St xT) W4 (λa=>xT a=true) [] [] v (uP xT w):=⟨wX K,.refl R,λa h=>.inl h,λb hb=>.inl hb,λb hb=>by
  obtain⟨a,x,h⟩:=hb;exact .inr ⟨a,x,h⟩,Ku.first hrel zuG,λb hb=>hb,λa h=>.inr h,λa h=>.inl h,rfl,λi g hg=>by simp at hg,hR.frT hgo Cb dQ zbb zyd⟩
 refine J.phase (zCO p.N (Bj p.o p.es) p.D (zAx bV) (by show o.op.toNat<=_;omega)) (ty:=rI.tWg) (Wg:=W.heap.size) (l:=.mN []) (τ:=τ0) ?hb aY.wg ⟨aX _,by rw[aY.size];omega⟩ ?bnd rfl (.a 0 [] (λ_=>1) (.mN []) ⟨rfl,λj j' h=>by omega⟩ (jY _) (.inl rfl) rfl ⟨λj h=>by omega,λj j' h=>by omega,λj h=>by omega⟩ (λj h=>by omega) (λi hi _=>by simp[hi]))
 case bnd=>
  have hr:∀a b,R a b->b<W4.heap.size/\b≠W.heap.size/\∀l,nF l b->¬Shun l:=λa b x=>⟨(hrel.lt a b (.inl x)).2,zcH a b x,lK.rel a b x⟩;rintro b ((⟨a,x,_⟩|hb)|(hb|⟨a,x,_⟩)|hb)
  .exact hr a b x
  .cases hb
  .exact⟨by rw[aY.size];omega,aC,λl hl=>lK.old l b hl hb⟩
  .exact hr a b x
  .exact hb.elim
 case hb=>
  have hI:fE (p.cx K SC τ0.still R (Gv R St xT) W4 [] []):=q8.ok I.st I.ss I.F H.low;have hB:BO (p.cx K SC τ0.still R (Gv R St xT) W4 [] []) (.mN []) ⟨42,#[u0,u1,.pointer (some ⟨go,0,none⟩),.pointer (some ⟨ge,0,none⟩),u4,u5,u6,.pointer (some ⟨gh,0,none⟩),.nilFunc,u9,gU,gH,gK,gF,gJ,gI,u16,iH,kO,kH,jO,iM,iE,gY,iD,iJ,iC,iI,iO,iK,jH,jI,u32,iG,iB,iF,iA,kV,kN,iL,gZ,iN,iZ,iX,iP,iS,iY,jB,jC,iV,iT,iW,mJ,mE,lB,lA,kJ,kK,kR,kT,kP,jZ,j6,j8,u64,j7,kF,kD,j9,kY,kI,kL,j5],[.code Fy],false⟩ (uP xT w):=by
   rw[show Fy=.seq (.seq zmj (.block 4 (.loop zcG))) zjC from rfl];refine BO.seq hI ?_;refine BO.seq hI ?_;refine BO.pV mP hI tV (λw1 T1 fB Q' cY=>?_);have Sx:=aD (show B6 p (uP xT w) K SC τ0.still R (Gv R St xT) W4 (λa=>xT a=true) [] [] v w1 by rw[fB];exact I.tp T1 0);have g1:w1.cell? ⟨go,1,none⟩=some (.int .i64 o.op):=aJ Sx.o.h.e.bo 1
   try dsimp only
   clear fB;go_wp2;refine cY.o _ _ ?_;clear cY;refine BO.block hI ?_;refine BO.loop hI ?_;exact rh_ops H o.op.toNat 0 (by show _=o.op;omega) K SC τ0.still R (Gv R St xT) W4 (λa=>xT a=true) [] [] v w1 _ _ _ _ _ _ _ _ _ _ _ _ _ _ _ _ _ _ _ _ _ _ _ _ _ _ _ _ _ _ _ _ _ _ _ _ _ _ _ _ _ _ _ _ _ _ _ _ _ _ _ _ _ _ _ _ _ _ _ _ _ _ _ _ _ _ _ Sx.o rfl
  have h1:=ha.set 8 (.junk (v':=.pointer (some ⟨W.heap.size,0,none⟩)) Zg);simp only[gE,dV,dW] at h1;have hm:=hB R W4 ⟨42,t.setIfInBounds 8 (.pointer (some ⟨W.heap.size,0,none⟩)),[.code Fy],false⟩ τ0 fP ⟨rfl,rfl,rfl,h1,λx hx=>?_⟩ terra_p ⟨znG,⟨0,0,aY.wg⟩⟩
  .rw[Cx.B_none rfl,mI] at hm
   exact hm
  .obtain rfl:=sE.1 hx
   show(t.setIfInBounds 8 _).getD 8 aA=_;simp[tZ,cJ];rfl
abbrev JS (St:Nat->Prop)(W0:aE)(Post:aF->aE->Prop)(m:Fm)(ms:List Fm)(w:aE):Prop:=JL aK (pA olL) (pA alL) gD St W0 Post m ms w
theorem zFo {G:Gp}(h:cT S K R G St w W)(e:w'.heap=w.heap):cT S K R G St w' W:=by
 refine⟨h.inj,h.inj',λa b x=>by rw[e];exact h.lt a b x,h.low,by rw[e];exact h.gle,λa b x=>?_,λa b x hn=>?_,λa x=>?_,λa c y hp=>?_,h.tb⟩
 .rw[e];exact h.cont a b x
 .rw[e];exact h.rest a b x hn
 .rw[e];exact h.st a x
 .rw[e] at hp;exact h.np a c y hp
def JS.heap {m:Fm}{ms:List Fm}(h:JS St W0 Post m ms w)(e:w'.heap=w.heap):JS St W0 Post m ms w':=
 λK R W m' ms' Shun a b c d k=>h K R W m' ms' Shun (zFo a e.symm) b c d k
theorem rh_tmps (a b:aF):(#[a,b]:Array aF)++nI (73-(#[a,b]:Array aF).size) aA=#[a,b,aA,aA,aA,aA,aA,aA,aA,aA,aA,aA,aA,aA,aA,aA,aA,aA,aA,aA,aA,aA,aA,aA,aA,aA,aA,aA,aA,aA,aA,aA,aA,aA,aA,aA,aA,aA,aA,aA,aA,aA,aA,aA,aA,aA,aA,aA,aA,aA,aA,aA,aA,aA,aA,aA,aA,aA,aA,aA,aA,aA,aA,aA,aA,aA,aA,aA,aA,aA,aA,aA,aA]:=by
 have h:(#[a,b]:Array aF).size=2:=aQ;rw[h];apply Iq;simp only[Qc,zbw];rfl
structure Hall (w wn:aE)(o:jD)(es:List dB)(hb:Nat):Prop where
 below:bR w.heap.size w wn
 ex:∃lo v ln qn,w.heap.size<=lo/\lo<=wn.heap.size/\bE wn lo hb v (uW o es ln qn qn.length)/\(ln.length:Int)=o.ln/\(qn.length:Int)=o.op
section
variable {Post:aF->aE->Prop}{W0:aE}{St:Nat->Prop}
theorem jo_hall {m:Fm}{ms:List Fm}{w:aE}{ops:Array aZ}{i:Nat}{rest:List Nat}{k:List eE}{oo:aZ}{args:Array cN}{kS:Array aM}{A:Option bL}{n c:Nat}{o:jD}{es:List dB}
 (hr:m.ret=false) (p8:m.todo=.inRegion ops (i::rest)::k) (ho:ops[i]? =some oo) (cD:dD oo (dR ops m.tmps)=true) (hop:oo.op=.call ⟨.value (.func 42),args,kS⟩) (sZ:args.all (dP gD)=true)
 (hv:args.map m.eval=#[.agg #[.int .i64 o.ln,.int .i64 o.op,.int .i64 o.pt],.slice A n c]) (Hh:bX w 0 w.heap.size 3 A n c (lL es)) (hn:n<=1048576) (hT:vO w) (Dv:Fw w)
 (zBn:gG o es=false->∀wn,bR w.heap.size w wn->JS St W0 Post (m.fin ops i rest k (.pointer none)) ms wn)
 (zB4:gG o es=true->∀wn hb,Hall w wn o es hb->JS St W0 Post (m.fin ops i rest k (.pointer (some ⟨hb,0,none⟩))) ms wn):JS St W0 Post m ms w:=by
 refine JO.callF lvF hr p8 ho cD hop rfl sZ λK R W m' ms' Shun bY hw hm jA lK hk Bw=>?_;rw[hv] at Bw;have l6:Cw (zeG).results.toList:=.inr (.inl ⟨_,rfl⟩);have Be:(zeG).ntmps=73:=rfl;have zrA:=Bw.pad 73;rw[rh_tmps] at zrA;rw[Yt (c:=oM) zdB rfl,Be];have zbb:∀a,xT a=true->a<w.heap.size:=λa h=>(hw.lt a a (.inl (hw.tb a h))).1;refine BO.aloneIn (p:=aK) (gs:=Bq) (fs:=gD) (St:=St) (K:=K) (R:=R) (m:=⟨42,#[.agg #[.int .i64 o.ln,.int .i64 o.op,.int .i64 o.pt],.slice A n c,aA,aA,aA,aA,aA,aA,aA,aA,aA,aA,aA,aA,aA,aA,aA,aA,aA,aA,aA,aA,aA,aA,aA,aA,aA,aA,aA,aA,aA,aA,aA,aA,aA,aA,aA,aA,aA,aA,aA,aA,aA,aA,aA,aA,aA,aA,aA,aA,aA,aA,aA,aA,aA,aA,aA,aA,aA,aA,aA,aA,aA,aA,aA,aA,aA,aA,aA,aA,aA,aA,aA],[.code oM],false⟩) ?_ hw ⟨rfl,rfl,rfl,zrA,λx hx=>by cases hx⟩ lK hk;refine zB8 Hh hn hT (λT todo w' h4 hO bV=>?_) (λwB lo go ge K' w' v ln hb gh u0 u1 u4 u5 u6 u8 u9 gU gH gK gF gJ gI u16 iH kO kH jO iM iE gY iD iJ iC iI iO iK jH jI u32 iG iB iF iA kV kN iL gZ iN iZ iX iP iS iY jB jC iV iT iW mJ mE lB lA kJ kK kR kT kP jZ j6 j8 u64 j7 kF kD j9 kY kI kL j5 hK bV dQ hgo Cb Og hR yJ=>?_)
 .refine BO.aloneOut hm jA rfl hr p8 (v:=.pointer none) zdB l6 (by rw[<-h4];rfl) ?_
  have zCU:bR w.heap.size w {w' with os:=w.os,tape:=w.tape,output:=w.output}:=⟨rfl,rfl,rfl,hO.1,hO.2⟩;exact JS.heap (zBn bV _ zCU) rfl
 .refine zGi (lo0:=w.heap.size) hR hgo Cb dQ bV yJ (λg hg=>?_) zbb (λR1 Wg zgN K2 R2 w2 v2 qn u0 u1 u2 u3 u4 u5 u6 u8 u9 gU gH gK gF gJ gI u16 iH kO kH jO iM iE gY iD iJ iC iI iO iK jH jI u32 iG iB iF iA kV kN iL gZ iN iZ iX iP iS iY jB jC iV iT iW mJ mE lB lA kJ kK kR kT kP jZ j6 j8 u64 j7 kF kD j9 kY kI kL j5 zdV La hE=>?_)
  .have qV:=zbb g hg
   rw[hR.e.old g aC,Og g qV];exact Dv g hg
  .have zdV:K'.le K2:=zdV
   have La:R1.le R2:=La;obtain⟨hA,hold,hz,zex,Sm⟩:=hE;have hA:bE w2 lo hb v2 (uW o es ln qn qn.length):=hA;have hold:∀b,b<w.heap.size->w2.heap[b]? =w'.heap[b]? :=hold;have hz:lo<=w2.heap.size:=hz;have zex:w2.heap[gh]? =some (.cells #[.pointer (some ⟨hb,0,none⟩)] 63):=zex;have zrb:∀b,b<w.heap.size->w2.heap[b]? =w.heap[b]? :=λb bZ=>by
    rw[hold b bZ,hR.e.old b aC,Og b bZ]
   have HA:=aD hA;have HO:=aD zrb;have HB:=aD zex;clear hA hold zrb zex;show BO (D3 aK Bq gD Post (Ae Shun Wg) W0 St K2 R2 (m'.fr::ms'.map Fm.fr)) () _ _;refine BO.regEnd dA ?_;refine BO.seq dA ?_;refine BO.pV mP dA tV (λw3 T1 iU Q' cY=>?_);have g1:(Tt.tp w2 T1 0).cell? ⟨gh,0,none⟩=some (.pointer (some ⟨hb,0,none⟩)):=aJ HB.o 0;have e3:w3.heap=w2.heap:=by rw[iU];rfl
   have uQ:=aD e3
   try dsimp only
   rw[<-iU] at g1;clear iU e3;go_wp2;refine cY.o _ _ ?_;clear cY;refine BO.ret dA ?_;refine BO.aloneOut (oT.monoK (vP hK zdV) (hm.mono (zgN.trans La))) (uG.monoK (vP hK zdV) (jA.mono (zgN.trans La))) rfl hr p8 (v:=.pointer (some ⟨hb,0,none⟩)) zdB l6 rfl ?_;have hH:Hall w {w2 with os:=w.os,tape:=w.tape,output:=w.output} o es hb:=⟨⟨rfl,rfl,rfl,by show w.heap.size<=w2.heap.size;omega,HO.o⟩,lo,v2,ln,qn,dQ,hz,HA.o.same rfl,yJ,Sm⟩;exact JS.heap (zB4 bV _ _ hH) uQ.o
end
end Go.Proofs.YtfcjiloojkjaeaaGreatDoor
namespace Go.Proofs.YtfcjiloojkjaeaaGreatDoor
open Go.RowKit Go.Mt Go.Conc Go.Tt
structure Bl (B:Nat)(w w':aE):Prop where
 size:w.heap.size<=w'.heap.size
 block:∀b,b<B->w'.heap[b]? =w.heap[b]?
def Bl.refl (B:Nat)(w:aE):Bl B w w:=⟨aX _,λ_ _=>rfl⟩
variable {B:Nat}{a b c:aE}
def Bl.below (h:Bl B a b)(k:bR b.heap.size b c)(hB:B<=a.heap.size):Bl B a c:=⟨eG h.size k.size,λx hx=>(k.block x zkP).trans (h.block x hx)⟩
def Bl.tp (h:Bl B a b)(T:jV)(e:Nat):Bl B a (Tt.tp b T e):=⟨h.size,h.block⟩
section
variable {p:bS}{op gs gs₁ fs:aO->Bool}{St:Nat->Prop}{W0:aE}{Post:aF->aE->Prop}
variable {c:vR}{k:List eE}{ms:List Fm}
theorem JO.sq (L:Lv p op gs gs₁ fs){fn:aO}{tmps:Array aF}{w:aE}(hf:op fn=false)(h:JL p op gs fs St W0 Post ⟨fn,tmps,.code (sA c):: .code (sB c)::k,false⟩ ms w)(e:c=.seq (sA c) (sB c):=by exact rfl):JL p op gs fs St W0 Post ⟨fn,tmps,.code c::k,false⟩ ms w:=by
 rw[e];exact JO.seq L hf h
theorem JO.cd (L:Lv p op gs gs₁ fs){fn:aO}{tmps:Array aF}{w:aE}(t:Bool)(hf:op fn=false)(h:JL p op gs fs St W0 Post ⟨fn,tmps,.code (if t then cA c else cB c)::k,false⟩ ms w)(hc:(bH tmps []).eval (cX c)=.bool t:=by exact rfl)(e:c=.cond (cX c) (cA c) (cB c):=by exact rfl):JL p op gs fs St W0 Post ⟨fn,tmps,.code c::k,false⟩ ms w:=by
 rw[e];exact JO.cond L hf hc h
theorem JO.sk (L:Lv p op gs gs₁ fs){fn:aO}{tmps:Array aF}{w:aE}(hf:op fn=false)(h:JL p op gs fs St W0 Post ⟨fn,tmps,k,false⟩ ms w)(e:c=.skip:=by exact rfl):JL p op gs fs St W0 Post ⟨fn,tmps,.code c::k,false⟩ ms w:=by
 rw[e];exact JO.skip L hf h
theorem JO.rt (L:Lv p op gs gs₁ fs){fn:aO}{tmps:Array aF}{w:aE}(hf:op fn=false)(h:JL p op gs fs St W0 Post ⟨fn,tmps,.code .ret::k,true⟩ ms w)(e:c=.ret:=by exact rfl):JL p op gs fs St W0 Post ⟨fn,tmps,.code c::k,false⟩ ms w:=by
 rw[e];exact JO.ret L hf h
theorem JO.rn (L:Lv p op gs gs₁ fs){fn:aO}{tmps:Array aF}{w:aE}(hf:op fn=false)(ops:Array aZ)(is:List Nat)(h:JL p op gs fs St W0 Post ⟨fn,tmps,.inRegion ops is::k,false⟩ ms w)(e:c=.region (bI c) ops false:=by exact rfl)(hr:gN ops.size=is:=by exact rfl):JL p op gs fs St W0 Post ⟨fn,tmps,.code c::k,false⟩ ms w:=by
 subst hr;rw[e];exact JO.reg L hf h
variable {c':vR}{b:List Fm}
theorem JO.pQ (L:Lv p op gs gs₁ fs){fn:aO}{tmps:Array aF}{w:aE}(xD:op fn=false)
 (qX:∀(T:jV) (Q:Exit->Go.Act->aE->Prop),qC (∀a' w',JL p op gs fs St W0 Post ⟨fn,a'.tmps,k,false⟩ b w'->Q .normal a' w')->Code.wp p c' Q ⟨tmps,[]⟩ (Tt.tp w T 0)) (e:c=c':=by conv=>lhs;whnf) (hc:oG p ⟨fs,gs₁,true⟩ c=true:=by kernel_rfl):
 JL p op gs fs St W0 Post ⟨fn,tmps,.code c::k,false⟩ b w:=by
 subst e;exact JO.piece L hc xD λT=>qX T _ (aD λa' w' h=>⟨rfl,h⟩)
theorem JO.tQ (L:Lv p op gs gs₁ fs){fn:aO}{tmps:Array aF}{w:aE}(xD:op fn=false)
 (qX:∀(T:jV) (Q:Exit->Go.Act->aE->Prop),qC (∀a' w',(∀todo,JL p op gs fs St W0 Post ⟨fn,a'.tmps,todo,true⟩ b w')->Q .ret a' w')->Code.wp p c' Q ⟨tmps,[]⟩ (Tt.tp w T 0)) (e:c=c':=by conv=>lhs;whnf) (hc:oG p ⟨fs,gs₁,true⟩ c=true:=by kernel_rfl):
 JL p op gs fs St W0 Post ⟨fn,tmps,[.code c],false⟩ b w:=by
 subst e;exact JO.tail L hc xD λT=>qX T _ (aD λa' w' h=>⟨.inr rfl,h⟩)
theorem JO.mv (L:Lv p op gs gs₁ fs){fn:aO}{tmps T':Array aF}{ops:Array aZ}{i:Nat}{rest:List Nat}{w:aE}{o:aZ}(hf:op fn=false)(v:aF)(h:JL p op gs fs St W0 Post ⟨fn,T',.inRegion ops rest::k,false⟩ ms w)(ho:ops[i]? =some o:=by exact zfc rfl (by conv=>lhs;whnf))
 (hx:∀T e,(aS (bH tmps []).eval o).run p (Tt.tp w T e)=.ok (.value v) (Tt.tp w T e):=by exact λ_ _=>rfl) (cD:dD o (dR ops tmps)=true:=by exact rfl)
 (ht:(cC ⟨tmps,[]⟩ o.dst v).tmps=T':=by first|(simp only[Go.Act.put,List.setIfInBounds_toArray,List.set_cons_zero,List.set_cons_succ];done)|(simp only[Go.Act.put,List.setIfInBounds_toArray,List.set_cons_zero,List.set_cons_succ];rfl)):JL p op gs fs St W0 Post ⟨fn,tmps,.inRegion ops (i::rest)::k,false⟩ ms w:=
 JO.opv L hf ho cD hx (ht▸h)
end
variable {w:aE}{lo hi s n:Nat}{A:Option bL}{xs:List aF}
def bX.tp {c:Nat}(h:bX w lo hi s A n c xs)(T:jV)(e:Nat):bX (Tt.tp w T e) lo hi s A n c xs:=⟨h.len,h.le,h.cap,h.at_⟩
def rS.tp {E c:Nat}(h:rS E s w lo hi A n c xs)(T:jV)(e:Nat):rS E s (Tt.tp w T e) lo hi A n c xs:=⟨h.slc.tp T e,h.blk⟩
variable {w':aE}
def bX.bls {c:Nat}(h:bX w lo hi s A n c xs)(k:Bl B w w')(hB:w.heap.size<=B):bX w' lo hi s A n c xs:=h.keep k.size λb _ _ h3=>k.block b aC
def rS.bls {E c:Nat}(h:rS E s w lo hi A n c xs)(k:Bl B w w')(hB:w.heap.size<=B):rS E s w' lo hi A n c xs:=h.keep k.size λb _ _ h3=>k.block b aC
def Bl.chg (h:Bl B a b)(k:pU lo hi b c)(hB:B<=lo)(h2:B<=b.heap.size):Bl B a c:=⟨eG h.size k.size,λx hx=>(k.block x aC aC).trans (h.block x hx)⟩
def Bl.then {B':Nat}(h:Bl B a b)(k:Bl B' b c)(hB:B<=B'):Bl B a c:=⟨eG h.size k.size,λx hx=>(k.block x aC).trans (h.block x hx)⟩
def Bl.below' (h:Bl B a b)(k:bR b.heap.size b c)(hB:B<=b.heap.size):Bl B a c:=⟨eG h.size k.size,λx hx=>(k.block x aC).trans (h.block x hx)⟩
variable {o:Obj}
def Ad (h:Bl B a b){N:Nat}(hN:a.heap[N]? =some o)(hB:N<B):b.heap[N]? =some o:=(h.block N hB).trans hN
def F5 (o:jD)(es:List dB):List (List UInt8):=(Cr o es).log
def zum:Go.Code:=(zfK.body).getD .skip
def rRO1:Go.Code:=match zum with| .seq _ (.seq (a) _)=>a|_=>.skip
def zig:Array Oper:=match rRO1 with| .region _ ops _=>ops|_=>#[]
abbrev oRO1_0:Oper:=⟨some 7,.load 29 (.tmp 2),29,"l6_office.go:348",#[],none⟩
def zFA:zig[0]? =some oRO1_0:=rfl
abbrev oRO1_2:Oper:=⟨some 9,.call ⟨.value (.func 42),#[.tmp 7,.tmp 8],#[29,31]⟩,63,"l6_office.go:348",#[⟨0,.data⟩,⟨1,.data⟩],none⟩
def zi1:zig[2]? =some oRO1_2:=rfl
section
variable {St:Nat->Prop}{W0:aE}{Post:aF->aE->Prop}
theorem zos {m:Fm}{ms:List Fm}{w:aE}{ops:Array aZ}{i:Nat}{rest:List Nat}{k:List eE}{oo:aZ}{args:Array cN}{kS:Array aM}{A:Option bL}{n c:Nat}{o:jD}{es:List dB}
 (hr:m.ret=false) (zd6:pA olL m.fn=false) (p8:m.todo=.inRegion ops (i::rest)::k) (ho:ops[i]? =some oo) (cD:dD oo (dR ops m.tmps)=true) (hop:oo.op=.call ⟨.value (.func 14),args,kS⟩)
 (hv:args.map m.eval=#[.agg #[.int .i64 o.ln,.int .i64 o.op,.int .i64 o.pt],.slice A n c]) (Hh:bX w 0 w.heap.size 3 A n c (lL es)) (hn:n<=1048576) (hT:vO w) (Dv:Fw w)
 (hJ:∀wn V,Bl w.heap.size w wn->wn.ownsRow w.heap.size 9 1 V (F5 o es).length (nG (F5 o es))->JS St W0 Post (m.fin ops i rest k (.tuple #[V,.bool (gG o es)])) ms wn):JS St W0 Post m ms w:=by
 have L:=lvF;have cO:pA olL 14=false:=aP;have zzw:=JO.callN (St:=St) (W0:=W0) (Post:=Post) (ms:=ms) (w:=w) (fn:=zfK) (c:=zum) L hr p8 ho cD hop cO;refine zzw zn1 aH rfl ?_;rw[hv];have Cf:(#[.agg #[.int .i64 o.ln,.int .i64 o.op,.int .i64 o.pt],.slice A n c]:Array aF)++nI ((zfK).ntmps-(#[.agg #[.int .i64 o.ln,.int .i64 o.op,.int .i64 o.pt],.slice A n c]:Array aF).size) aA=#[.agg #[.int .i64 o.ln,.int .i64 o.op,.int .i64 o.pt],.slice A n c,aA,aA,aA,aA,aA,aA,aA,aA,aA,aA,aA,aA,aA,aA]:=by
  have e:(zfK).ntmps=16:=rfl;rw[e];apply Iq;simp only[Qc,zbw,Ek,qA,rY];rfl
 rw[Cf];have pL:w.heap.size<=w.heap.size:=aX _;have zbZ:∀(tmps:Array aF) (td:List eE) (w':aE) (V:aF),tmps.getD 4 aA=V->tmps.getD 5 aA=.bool (gG o es)->Bl w.heap.size w w'->w'.ownsRow w.heap.size 9 1 V (F5 o es).length (nG (F5 o es))->JS St W0 Post ⟨14,tmps,td,true⟩ (m::ms) w':=by
  intro tmps td w' V e4 e5 hb cV;refine JO.back L rfl p8 zn1 (v:=.tuple #[V,.bool (gG o es)]) ?_ zd6 (hJ w' V hb cV);show(oH [.tmp 4,.tmp 5] tmps).run _ _=_;simp only[oH,yY,e4,e5];rfl
 refine JO.sq L cO ?_;refine JO.pQ L cO (λTp Q HQ=>?_);obtain⟨w1,fB⟩:=aU (Tt.tp w Tp 0);have B0:=aD (show Bl w.heap.size w w1 by rw[fB];exact(Bl.refl _ w).tp Tp 0);have eL:w1.heap.size=w.heap.size:=by rw[fB];rfl
 have eh:w1.heap=w.heap:=by rw[fB];rfl
 have EH:=aD eh;rw[<-fB];clear fB eh;go_wp2;refine HQ.o _ _ ?_;clear HQ;obtain⟨w2,fX⟩:=aU (w1.alloc (.cells #[.int .i64 o.ln,.int .i64 o.op,.int .i64 o.pt] 29));have k2:∀b,b<w.heap.size->w2.heap[b]? =w.heap[b]? :=λb hb=>by rw[fX,Fp aC,EH.o]
 have z2:w2.heap.size=w.heap.size+1:=by rw[fX,qR,eL]
 have g2:w2.heap[w1.heap.size]? =some (.cells #[.int .i64 o.ln,.int .i64 o.op,.int .i64 o.pt] 29):=by rw[fX];exact Ee _ _
 have zFT:bR w.heap.size w {w2 with os:=w.os,tape:=w.tape,output:=w.output}:=⟨rfl,rfl,rfl,by show w.heap.size<=w2.heap.size;omega,k2⟩;have zA7:vO w2:=zhJ (w:={w2 with os:=w.os,tape:=w.tape,output:=w.output}) rfl (znQ hT _ zFT);have zGL:Fw w2:=λg hg=>by
  obtain⟨c,T,fz,h1,h2⟩:=Dv g hg;exact⟨c,T,fz,(k2 g (dO.1 h1).1).trans h1,h2⟩
 have Ax:bX w2 0 w2.heap.size 3 A n c (lL es):=(Hh.keep aC λb _ q _=>k2 b q).wide (aX _) aC;rw[<-fX];clear fX;rw[eL] at g2;refine JO.sq L cO ?_;refine JO.rn L cO zig [0,1,2,3] ?_;refine JO.opv L (v:=.agg #[.int .i64 o.ln,.int .i64 o.op,.int .i64 o.pt]) cO zFA rfl (λT e=>?_) ?_
 .have c0:(Tt.tp w2 T e).cell? ⟨w.heap.size,0,none⟩=some (.int .i64 o.ln):=aJ g2 0
  have c1:(Tt.tp w2 T e).cell? ⟨w.heap.size,1,none⟩=some (.int .i64 o.op):=aJ g2 1;have c2:(Tt.tp w2 T e).cell? ⟨w.heap.size,2,none⟩=some (.int .i64 o.pt):=aJ g2 2;unfold aS;go_simp
  try rfl
 simp only[cC,gE,dV,dW];refine JO.mv L cO (.slice A n c) ?_;refine jo_hall (o:=o) (es:=es) rfl rfl zi1 rfl rfl aP Ya Ax hn zA7 zGL (λbV wn hb=>?_) (λbV wn hb hH=>?_)
 .simp only[Fm.fin,zi1,vC,gE,dV,dW]
  have bZ:Bl w.heap.size w wn:=⟨by have:=hb.size;omega,λb bZ=>(hb.block b aC).trans (k2 b bZ)⟩;refine JO.mv L cO (.pointer none) ?_;refine JO.regEnd L cO ?_;refine JO.sq L cO ?_;refine JO.sq L cO ?_;refine JO.pQ L cO (λTp Q HQ=>?_);go_wp2;refine HQ.o _ _ ?_;clear HQ;refine JO.cd L true cO ?_;refine JO.sq L cO ?_;refine JO.pQ L cO (λOi Q HQ=>?_);go_wp2;refine HQ.o _ _ ?_;clear HQ;refine JO.rt L cO ?_;exact zbZ _ _ _ _ rfl (by rw[bV];rfl) ((bZ.tp Tp 0).tp Oi 0) (by simp[F5,Cr,bV,l7];exact⟨rfl,.inl ⟨rfl,rfl⟩⟩)
 .simp only[Fm.fin,zi1,vC,gE,dV,dW]
  obtain⟨mQ,lo,v,ln,qn,h1,h2,hA,h3,h4⟩:=hH;have bZ:Bl w.heap.size w wn:=⟨by have:=mQ.size;omega,λb bZ=>(mQ.block b aC).trans (k2 b bZ)⟩;have HA:=aD hA;have zIl:=aD bZ;clear hA bZ mQ;refine JO.mv L cO (.pointer (some ⟨hb,0,none⟩)) ?_;refine JO.regEnd L cO ?_;refine JO.sq L cO ?_;refine JO.sq L cO ?_;refine JO.pQ L cO (λTp Q HQ=>?_);go_wp2;refine HQ.o _ _ ?_;clear HQ;refine JO.cd L false cO ?_;refine JO.sk L cO ?_;refine JO.sq L cO ?_;refine JO.pQ L cO (λOi Q HQ=>?_);obtain⟨w5,nY⟩:=aU (Tt.tp (Tt.tp wn Tp 0) Oi 0);have c5:w5.cell? ⟨hb,12,none⟩=some (v.sA):=by rw[nY];exact aJ HA.o.blk 12
  have A5:=aD (show bE w5 lo hb v (uW o es ln qn qn.length) by rw[nY];exact HA.o.same rfl);have B5:=aD (show Bl w.heap.size w w5 by rw[nY];exact(zIl.o.tp Tp 0).tp Oi 0);rw[<-nY];clear nY;go_wp2;refine HQ.o _ _ ?_;clear HQ;refine JO.rt L cO ?_;exact zbZ _ _ _ _ rfl (by rw[bV];rfl) B5.o (by simp only[F5,Cr,bV,if_true];exact zv1 A5.o.A aC)
end
section
variable {p:bS}{op gs gs₁ fs:aO->Bool}{St:Nat->Prop}{W0:aE}{Post:aF->aE->Prop}
def JO.callV (L:Lv p op gs gs₁ fs){m:Fm}{ms:List Fm}{w:aE}{ops:Array aZ}{i:Nat}{rest:List Nat}{k:List eE}{o:aZ}{f:aO}{args:Array cN}{kS:Array aM}{xs:Array aF}(hr:m.ret=false)(p8:m.todo=.inRegion ops (i::rest)::k)
 (ho:ops[i]? =some o) (cD:dD o (dR ops m.tmps)=true) (hop:o.op=.call ⟨.value (.func f),args,kS⟩) (hg:gs₁ f=true) (xD:op m.fn=false) (sZ:args.all (dP fs)=true) (hv:args.map m.eval=xs)
 {Q:aF->aE->Prop} (Xg:∀v w T e,Q v w->Q v (Tt.tp w T e)) (hc:∀T,fH p f xs (Tt.tp w T 0) (λe w'=>∃v,e=.returned v/\Q v w'))
 (hJ:∀v w',Q v w'->JL p op gs fs St W0 Post (m.fin ops i rest k v) ms w'):JL p op gs fs St W0 Post m ms w:=
 JO.callL L hr p8 ho cD hop hg xD sZ Xg (λT=>hv▸hc T) hJ
end
variable {b:Nat}
def kG (h:w.heap[b]? =some o)(T:jV)(e:Nat):(Tt.tp w T e).heap[b]? =some o:=h
def Yb (h:w.heap[b]? =some o)(k:pU lo hi w w')(hd:b<lo\/hi<=b):w'.heap[b]? =some o:=(k.block b (fY h) aC).trans h
def ToV (E:aM)(s:Nat)(l:List aF)(W:aE)(n:Nat)(v:aF)(w':aE):Prop:=
 ∃b cs,v=.slice (some ⟨b,0,none⟩) n n/\W.heap.size<=b/\w'.heap[b]? =some (.cells cs E)/\cs.toList=l/\rS E s w' W.heap.size w'.heap.size (some ⟨b,0,none⟩) n n l/\Bl W.heap.size W w'
variable {W:aE}{v:aF}
theorem ToV.tp {E:aM}{l:List aF}(h:ToV E s l W n v w)(T:jV)(e:Nat):ToV E s l W n v (Tt.tp w T e):=by
 obtain⟨b,cs,h1,h2,h3,h4,h5,h6⟩:=h;exact⟨b,cs,h1,h2,h3,h4,h5.tp T e,h6.tp T e⟩
theorem zyH {c:Nat}{xs:List dB}(h:bX W lo hi 3 A n c (lL xs))(hn:n<=1048576)(T:jV):
 fH aK 13 #[.slice A n c] (Tt.tp W T 0) λe w'=>∃v,e=.returned v/\ToV 54 3 (lL xs) W n v w':=by
 refine(zgX (h.tp T 0) hn).mono ?_;rintro e w' ⟨b,cs,he,h2,h3,h4,h5,h6⟩;exact⟨_,he,b,cs,rfl,h2,h3,h4,h5,((Bl.refl _ W).tp T 0).below h6 (aX _)⟩
theorem zEE {l:List dB}:∀v∈lL l,Mh v:=by
 intro v hv;obtain⟨d,_,hd⟩:=List.mem_flatMap.1 hv;simp only[dB.cells,List.mem_cons,lZ,or_false] at hd;rcases hd with rfl|rfl|rfl
 all_goals first
  |exact .inl ⟨_,_,rfl⟩
  |exact .inr (.inl ⟨_,rfl⟩)
theorem vO.bls (h:vO w)(hb:Bl B w w')(hB:w.heap.size<=B):vO w':=by
 have bZ:bR w.heap.size w {w' with os:=w.os,tape:=w.tape,output:=w.output}:=⟨rfl,rfl,rfl,hb.size,λb zxk=>hb.block b aC⟩;exact zhJ (w:={w' with os:=w.os,tape:=w.tape,output:=w.output}) rfl (znQ h _ bZ)
theorem Fw.bls (h:Fw w)(hb:Bl B w w')(hB:w.heap.size<=B):Fw w':=by
 intro g hg;obtain⟨c,T,fz,hc,hu⟩:=h g hg;exact⟨c,T,fz,(hb.block g (by have:=(dO.1 hc).1;omega)).trans hc,hu⟩
theorem zyh {p:bS}{o:aZ}{t:aM}{x:cN}{ρ:cN->aF}{cs:Array aF}{T:aM}{fz:Nat×Nat}{d:TypeDesc}(hop:o.op=.load t x)(hb:w.heap[b]? =some (.cells cs T fz))(hx:ρ x=.pointer (some ⟨b,0,none⟩))
 (hu:p.underlying t=some d) (hd:d.isRow=true) (hi:(p.info? t).map (·.size)=some cs.size):(aS ρ o).run p w=.ok (.value (.agg cs)) w:=by
 obtain⟨dst,yP,type,pos,after,guard⟩:=o;simp only at hop;subst hop;have:=run_loadAt_mid (P:=p) w b 0 t cs.toList d (λj v hj=>by rw[Nat.zero_add,aJ hb];simpa using hj) hu hd zgI;simp only[aS,hx,Sem.run_bind,this,Result.andThen_ok];rfl
def Qq (f s p:Int)(W:aE)(v:aF)(w':aE):Prop:=v=.agg #[.int .i64 f,.int .i64 s,.int .i64 p]/\Bl W.heap.size W w'
def Qq.tp {f s p:Int}(h:Qq f s p W v w)(T:jV)(e:Nat):Qq f s p W v (Tt.tp w T e):=⟨h.1,h.2.tp T e⟩
theorem zpL (f s p:Int)(W:aE)(T:jV):
 fH aK 12 #[.agg #[.int .i64 f,.int .i64 s,.int .i64 p]] (Tt.tp W T 0) λe w'=>∃v,e=.returned v/\Qq f s p W v w':=by
 refine(zys f s p _).mono ?_;rintro e w' ⟨he,hb⟩;exact⟨_,he,rfl,((Bl.refl _ W).tp T 0).below hb (aX _)⟩
end Go.Proofs.YtfcjiloojkjaeaaGreatDoor
namespace Go.Proofs.YtfcjiloojkjaeaaGreatDoor
open Go.ChangeShapes Go.WideShapes Go.ChangeAt Go.RowKit Go.Mt Go.Conc Go.Tt
def Tr:List (String×DataW Unit):=[("math/bits.deBruijn32tab",Rows.laid_math_bits_deBruijn32tab),("math/bits.deBruijn64tab",Rows.laid_math_bits_deBruijn64tab),("internal/strconv.uint64pow10",Rows.laid_internal_strconv_uint64pow10)]
def zE4 (os:Os)(args:Array aF):laidMetH aK Tr ((aE.doorLaid aK 400 os).forCall (λ_ _=>0) ⟨#[],args,[]⟩).memory:=
 laidMetH_of_parts3 (fuel:=8) (laidMet_of_run' 8 aP aP) aP aP
def pow_eq:Rows.laid_internal_strconv_uint64pow10 (H:=Unit)=Lib.tabData .u64 Lib.pow10Tab:=aP
variable {W:aE}
theorem of_laid (h:laidMetH aK Tr W):vO W:=by
 rw[zoB _ _ _ aP] at h;obtain⟨ps,⟨g0,t0,xS,f0,p0,q0,Rw,zlT,fJ,Tb,⟨g1,t1,tY,f1,p1,q1,qV,Gg,pP,Nj,⟨g2,t2,zod,f2,p2,q2,yD,zuS,xG,z8,_,_⟩,_⟩,_⟩,_⟩:=h;have e1:aK.globalNamed "internal/strconv.uint64pow10" =some 0:=aP;have e2:(aK.globals[0]?).map (·.type)=some 170:=aP;obtain rfl:=cE (e1.symm.trans yD);obtain rfl:=cE (e2.symm.trans zuS);rw[pow_eq] at z8;unfold vO zgZ;rw[xG,<-Lib.cells_of_tab Tryz.underlying170 Tryz.underlying89 aP aP z8]
theorem zfW {nm:String}{g:Nat}{cs:Array aF}(hg:aK.globalNamed nm=some g)(h:W.var? aK nm=some cs):∃T fz,W.heap[g]? =some (.cells cs T fz):=by
 unfold zgv at h;rw[hg] at h;simp only[vC] at h;split at h
 .rename_i c T fz hb
  injection h with h;subst h;exact⟨T,fz,hb⟩
 .cases h
theorem zBo (g:Nat)(h:Ai aK g=true):aK.globalNamed "math/bits.deBruijn32tab" =some g\/aK.globalNamed "math/bits.deBruijn64tab" =some g\/aK.globalNamed "internal/strconv.uint64pow10" =some g:=by
 have tF:((gN aK.globals.size).all λg=>!(Ai aK g)||decide (aK.globalNamed "math/bits.deBruijn32tab" =some g)||decide (aK.globalNamed "math/bits.deBruijn64tab" =some g)||decide (aK.globalNamed "internal/strconv.uint64pow10" =some g))=true:=aP;have aN:g<Tryz.prog.globals.size:=by
  unfold Ai at h
  cases e:aK.globals[g]? with
  |none=>rw[e] at h;cases h
  |some x=>exact(dO.1 e).1
 have:=List.all_eq_true.1 tF g (List.mem_range.2 aN);simp only[h,Bool.not_true,Bool.false_or,Eo,decide_eq_true_eq] at this;rcases this with(h|h)|h
 .exact .inl h
 .exact .inr (.inl h)
 .exact .inr (.inr h)
theorem zEd (h:laidMetH aK Tr W)(g:Nat)(hg:Ai aK g=true):∃c T fz,W.heap[g]? =some (.cells c T fz):=by
 rw[zoB _ _ _ aP] at h;obtain⟨ps,⟨g0,t0,xS,f0,p0,q0,Rw,zlT,fJ,Tb,⟨g1,t1,tY,f1,p1,q1,qV,Gg,pP,Nj,⟨g2,t2,zod,f2,p2,q2,yD,zuS,xG,z8,_,_⟩,_⟩,_⟩,_⟩:=h;rcases zBo g hg with e|e|e
 .exact⟨xS,zfW e fJ⟩
 .exact⟨tY,zfW e pP⟩
 .exact⟨zod,zfW e xG⟩
def Xb (A:Option bL)(b:Nat):Bool:=match A with|some a=>decide (a.block=b)|none=>false
def Jz (A1 A2 A3:Option bL)(b:Nat):Bool:=Ai aK b||Xb A1 b||Xb A2 b||Xb A3 b
variable {A:Option bL}
theorem zl0 {b:Nat}(h:Xb A b=true):∃a,A=some a/\a.block=b:=by
 unfold Xb at h
 cases A with
 |none=>cases h
 |some a=>exact⟨a,rfl,of_decide_eq_true h⟩
theorem zHO {A1 A2 A3:Option bL}(hL:laidMetH aK Tr W)(h1:∀a,A1=some a->a.spot=none/\∃c T fz,W.heap[a.block]? =some (.cells c T fz))(h2:∀a,A2=some a->a.spot=none/\∃c T fz,W.heap[a.block]? =some (.cells c T fz))(h3:∀a,A3=some a->a.spot=none/\∃c T fz,W.heap[a.block]? =some (.cells c T fz))(b:Nat)(hb:Jz A1 A2 A3 b=true):∃c T fz,W.heap[b]? =some (.cells c T fz):=by
 unfold Jz at hb;simp only[Eo] at hb;rcases hb with((hb|hb)|hb)|hb
 .exact zEd hL b hb
 .obtain⟨a,e,rfl⟩:=zl0 hb;exact(h1 a e).2
 .obtain⟨a,e,rfl⟩:=zl0 hb;exact(h2 a e).2
 .obtain⟨a,e,rfl⟩:=zl0 hb;exact(h3 a e).2
variable {X:Nat->Bool}
theorem zGy (h:∀a,A=some a->X a.block=true):wU (R0 X) A A:=by
 cases A with
 |none=>exact .none
 |some a=>
  have:=h a rfl;obtain⟨bl,of,sp⟩:=a;exact .some (.mk ⟨rfl,this⟩)
variable {S:aO->Prop}
theorem zI9 {lo hi s n c:Nat}{xs:List aF}(hX:∀b,X b=true->∃c T fz,W.heap[b]? =some (.cells c T fz))(h:∀a,A=some a->X a.block=true)(hs:bX W lo hi s A n c xs)(hp:∀v∈xs,Mh v):bX (Ca S X W) 0 (Ca S X W).heap.size s A n c xs:=
 ⟨hs.len,hs.le,hs.cap,λhn=>by
  obtain⟨b,off,e,e1,e2,e3,e4⟩:=hs.at_ hn;exact⟨b,off,e,jY _,by rw[zfY];exact e3,by rw[zfY];exact e3,λj v hv=>zFW hX (h _ e) (e4 j v hv) (hp v (dX hv))⟩⟩
theorem zGQ (hX:∀b,X b=true->∃c T fz,W.heap[b]? =some (.cells c T fz))(hT:∀g,Ai aK g=true->X g=true):Fw (Ca S X W):=by
 intro g hg;obtain⟨c,T,fz,hc⟩:=hX g (hT g hg);refine⟨_,_,_,zcS hc (hT g hg),λv hv=>?_⟩;obtain⟨u,_,rfl⟩:=Array.mem_map.1 hv;exact(zfd S u).1
theorem gv_ints (S:aO->Prop)(zs:List Int):((zs.map λz=>Qo .u64 z).toArray).map (gv S)=(zs.map λz=>Qo .u64 z).toArray:=by
 apply Iq;simp only[Array.toList_map,List.map_map];exact List.map_congr_left λz _=>(zfd S _).2.2 (.inl ⟨_,_,rfl⟩)
theorem zDe (hX:∀b,X b=true->∃c T fz,W.heap[b]? =some (.cells c T fz))(hT:∀g,Ai aK g=true->X g=true)(h:vO W):vO (Ca S X W):=by
 have e1:aK.globalNamed "internal/strconv.uint64pow10" =some 0:=aP;have e2:Ai aK 0=true:=aP;unfold vO zgZ at*;obtain⟨T,fz,hc⟩:=zfW e1 h;have kM:=zcS (S:=S) hc (hT _ e2);unfold zgv;rw[e1];simp only[vC,kM];exact congrArg some (gv_ints S _)
end Go.Proofs.YtfcjiloojkjaeaaGreatDoor
namespace Go.Proofs.YtfcjiloojkjaeaaGreatDoor
theorem oP {a b:Bool}(h:a=true)(k:b=true):(a&&b)=true:=by rw[h,k];rfl
namespace Facts
def zja:laidOutB Tryz.pinned.checked.prog=true:=aP
def mapsRowed:mapsRowed Tryz.pinned.checked.prog=true:=aP
def stops:(Tryz.pinned.checked.prog.stops==[])=true:=aP
def stopKnobs:(Tryz.pinned.checked.prog.stopKnobs==[])=true:=aP
def plainKeys:(Rows.fnExactRunOfficeRow.plainKeys==Tryz.pinned.checked.prog.plainKeys)=true:=aP
def stopsHeard:Tryz.pinned.checked.prog.stopsHeard=true:=aP
def mayEnter:Tryz.pinned.checked.prog.mayEnter=true:=aP
def lifted:(Rows.fnExactRunOfficeRow.lifted==Tryz.pinned.checked.prog.liftsFinal)=true:=aP
def make:(Tryz.pinned.checked.prog.make==some Rows.fnExactRunOfficeRow.make)=true:=aP
def mainIs:Tryz.pinned.checked.prog.mainIs=some (Rows.fnExactRunOfficeCard.stood.harness.1,Rows.fnExactRunOfficeCard.stood.harness.2.toList):=aP
def looks:Rows.fnExactRunOfficeCard.stood.looks=Tryz.pinned.checked.prog.looks []:=aP
end Facts
end Go.Proofs.YtfcjiloojkjaeaaGreatDoor
namespace Go.Proofs.YtfcjiloojkjaeaaGreatDoor
open Go.RowKit
structure Bytes (w:aE)(g:Nat)(A:Option bL)(n:Nat):Prop where
 le:n<=2000
 at_:0<n->∃b off,A=some ⟨b,off,none⟩/\b<g/\∀j,j<n->∃v:Int,w.cell? ⟨b,off+j,none⟩=some (.int .u8 v)/\0<=v/\v<=255
structure RdX (w:aE)(g:Nat)(A:Option bL)(n c p:Nat):Prop where
 blk:w.heap[g]? =some (.cells #[.slice A n c,.int .i64 (p:Int)] 105)
 bytes:Bytes w g A n
 lt:p<1000000000
def Rd (w:aE)(g:Nat)(A:Option bL)(n c q:Nat):Prop:=∃p,p<=q/\RdX w g A n c p
structure Code (w:aE)(A:Option bL)(n c:Nat):Prop where
 le:n<=c
 cap:c<=maxLen
 at_:0<n->∃b off,A=some ⟨b,off,none⟩/\b<w.heap.size/\∀j,j<n->∃v:Int,w.cell? ⟨b,off+j,none⟩=some (.int .u8 v)/\0<=v/\v<=255
structure DSt (w0:aE)(g:Nat)(A:Option bL)(n c q:Nat)(E s:Nat)(v:aF)(k:Nat)(xs:List aF)(W:aE):Prop where
 rd:Rd W g A n c q
 own:W.ownsRow w0.heap.size E s v k xs
 gr:w0.grownBy W (some g)
 hg:g<w0.heap.size
structure RsSt (w0:aE)(g:Nat)(A:Option bL)(n c q rb:Nat)(T:aM)(zs:Array aF)(W:aE):Prop where
 rd:Rd W g A n c q
 gr:w0.grownBy W (some g)
 hg:g<w0.heap.size
 res:W.heap[rb]? =some (.cells zs T)
 rlo:w0.heap.size<=rb
structure BxSt (w0:aE)(g:Nat)(A:Option bL)(n c q rb b:Nat)(T:aM)(zs cs:Array aF)(W:aE):Prop where
 rs:RsSt w0 g A n c q rb T zs W
 blk:W.heap[b]? =some (.cells cs T)
 lo:w0.heap.size<=b/\b≠rb
section
variable {w0:aE}{g:Nat}{A:Option bL}{n c q rb b:Nat}{T:aM}{zs cs:Array aF}{W W':aE}
end
variable {w:aE}
def zAO {B:Nat}{W:aE}(h:bR B w W)(o:Obj)(hB:B<=W.heap.size):bR B w (W.alloc o):=h.trans ((dS (eF W.heap.size W) o).mono hB)
theorem zE1 (o:jD)(lo hi n c:Nat)(A:Option bL)(es:List dB)(w:aE)(h:bX w lo hi 3 A n c (lL es))(hn:n<=1048576)(Ll:hi<=w.heap.size):
 fH aK 11 #[.agg #[.int .i64 o.ln,.int .i64 o.op,.int .i64 o.pt],.slice A n c] w λx w'=>∃g c',x=.returned (.tuple #[.slice (some ⟨g,0,none⟩) (Cr o es).log.length c',.bool (gG o es)])/\
  w'.ownsRow w.heap.size 9 1 (.slice (some ⟨g,0,none⟩) (Cr o es).log.length c') (Cr o es).log.length (nG (Cr o es).log)/\bR w.heap.size w w':=by
 obtain⟨O,hO⟩:=aU (.cells #[.int .i64 o.ln,.int .i64 o.op,.int .i64 o.pt] 29:Obj);have pX:=aD (dS (eF w.heap.size w) O);have l9:=aD (h.below pX.o);have HO:=aD hO;have hz:(w.alloc O).heap.size=w.heap.size+1:=aQ;have HZ:=aD hz;clear h hz hO
 go_enter Tryz.func11,Tryz.ntmps11
 go_upto_region 1 with fail
 rw[<-HO.o];obtain⟨W1,dG⟩:=aU (w.alloc O);have hk:=lQ w O;rw[<-dG] at pX l9 HZ hk⊢;rw[HO.o] at hk;have q:=aJ hk;obtain⟨q0,q1,q2⟩:=zta q;clear dG hk q
 go_upto_region 2 with(go_at_call 40;refine(zJi o lo hi n c A es W1 l9.o hn (by have:=HZ.o;omega)).mono ?_;rintro x w2 ⟨v,rfl,bV,rF⟩;obtain⟨r5,fF⟩:=aU (Cr o es:b7);obtain⟨t5,o8⟩:=aU (gG o es:Bool);rw[<-fF] at bV⊢;rw[<-o8];have pK:=aD fF;have Bc:=aD o8;have wJ:=aD bV;have rJ:=aD rF;clear fF o8 bV rF)
 go_wp2;go_ret2;have hz:=HZ.o;refine⟨v.gL,v.cL,?_,?_,?_⟩
 .rw[<-pK.o,<-Bc.o];rfl
 .rw[<-pK.o]
  exact zeH ((wJ.o.alloc _).lg) aC
 .exact pX.o.trans (zAO (rJ.o.mono aC) _ (by have:=rJ.o.size;omega))
variable {es:List dB}
theorem zCz {o:jD}(h:gG o es=true):es.length<=60:=by
 unfold gG at h;simp at h;exact h.1.2
theorem zrV (o:jD)(es:List dB):(F5 o es).length<=60:=by
 unfold F5 Cr;split
 .next h=>
  have:=(P8 h es.length (aX _)).2.1.nl;rw[zdI] at this;have:=zCz h;omega
 .simp[l7]
theorem ziN {lo E s n:Nat}{v:aF}{xs:List aF}(h:w.ownsRow lo E s v n xs)(hs:0<s)(hl:n<=1048576):∃A m c,v=.slice A m c/\m<=1048576/\rS E s w lo w.heap.size A m c xs:=by
 obtain⟨A,c,e,o⟩:=zjw h hs;exact⟨A,n,c,e,hl,o⟩
def zBf (o:jD)(es:List dB):(F5 o es).length<=1048576:=eG (zrV o es) aC
theorem zJw (o:jD){lo hi n c:Nat}{A:Option bL}(h:bX w lo hi 3 A n c (lL es))(hn:n<=1048576)(Ll:hi<=w.heap.size):
 fH aK 11 #[.agg #[.int .i64 o.ln,.int .i64 o.op,.int .i64 o.pt],.slice A n c] w λx w'=>∃A n c,x=.returned (.tuple #[.slice A n c,.bool (gG o es)])/\n<=1048576/\rS 9 1 w' w.heap.size w'.heap.size A n c (nG (F5 o es))/\bR w.heap.size w w':=by
 refine(zE1 o lo hi n c A es w h hn Ll).mono ?_;rintro x w' ⟨g,c',rfl,hr,hb⟩;obtain⟨A',m,c2,e,l,ow⟩:=ziN hr aH (zBf o es);injection e with e1 e2 e3;subst e1 e2 e3;exact⟨_,_,_,rfl,l,ow,hb⟩
end Go.Proofs.YtfcjiloojkjaeaaGreatDoor
namespace Go.Proofs.YtfcjiloojkjaeaaGreatDoor
open Go.RowKit Go.Mt Go.Conc Go.Tt
def Z7:Go.Code:=(Tryz.f3.body).getD .skip
def rLRO7:Go.Code:=match Z7 with| .seq _ (.seq _ (.seq _ (.seq _ (.seq _ (.seq _ (.seq (a) _))))))=>a|_=>.skip
def rLRO24:Go.Code:=match Z7 with| .seq _ (.seq _ (.seq _ (.seq _ (.seq _ (.seq _ (.seq _ (.seq _ (.seq _ (.seq _ (.seq _ (.seq _ (.seq _ (.seq _ (.seq _ (.seq _ (.seq _ (.seq _ (.seq (a) _))))))))))))))))))=>a|_=>.skip
def zdx:Array Oper:=match rLRO7 with| .region _ ops _=>ops|_=>#[]
abbrev oLRO7_1:Oper:=⟨some 33,.call ⟨.value (.func 12),#[.tmp 32],#[23]⟩,29,"exact.go:3207",#[⟨0,.data⟩],none⟩
def zqi:zdx[1]? =some oLRO7_1:=rfl
abbrev zpx:Oper:=⟨some 35,.call ⟨.value (.func 14),#[.tmp 33,.tmp 34],#[29,31]⟩,27,"exact.go:3207",#[⟨1,.data⟩,⟨2,.data⟩,⟨1,.chain⟩],none⟩
def zxc:zdx[3]? =some zpx:=rfl
def zbA:Array Oper:=match rLRO24 with| .region _ ops _=>ops|_=>#[]
abbrev zE0:Oper:=⟨some 81,.call ⟨.value (.func 12),#[.tmp 80],#[23]⟩,29,"exact.go:3229",#[⟨0,.data⟩],none⟩
def zw0:zbA[1]? =some zE0:=rfl
abbrev zIG:Oper:=⟨some 83,.call ⟨.value (.func 13),#[.tmp 82],#[24]⟩,31,"exact.go:3229",#[⟨2,.data⟩,⟨1,.chain⟩],none⟩
def zqe:zbA[3]? =some zIG:=rfl
abbrev zym:Oper:=⟨some 84,.call ⟨.value (.func 14),#[.tmp 81,.tmp 83],#[29,31]⟩,27,"exact.go:3229",#[⟨1,.data⟩,⟨3,.data⟩,⟨3,.chain⟩],none⟩
def zvd:zbA[4]? =some zym:=rfl
section
variable {St:Nat->Prop}{W0:aE}{Post:aF->aE->Prop}
theorem zGz {w:aE}{A1:Option bL}{n1 c1:Nat}{o:jD}{es:List dB}(h1:bX w 0 w.heap.size 3 A1 n1 c1 (lL es))(Nj:∀d∈es,d.k.size<=maxLen)(hT:vO w)(Dv:Fw w)(hP:∀(R:Pr) (W:aE),Kp W0 R St W->Post (.bool true) W):
 JS St W0 Post ⟨3,#[.agg #[.int .i64 o.ln,.int .i64 o.op,.int .i64 o.pt],.slice A1 n1 c1,aA,aA,aA,aA,aA,aA,aA,aA,aA,aA,aA,aA,aA,aA,aA,aA,aA,aA,aA,aA,aA,aA,aA,aA,aA,aA,aA,aA,aA,aA,aA,aA,aA,aA,aA,aA,aA,aA,aA,aA,aA,aA,aA,aA,aA,aA,aA,aA,aA,aA,aA,aA,aA,aA,aA,aA,aA,aA,aA,aA,aA,aA,aA,aA,aA,aA,aA,aA,aA,aA,aA,aA,aA,aA,aA,aA,aA,aA,aA,aA,aA,aA,aA,aA,aA,aA,aA,aA,aA,aA,aA,aA,aA,aA,aA,aA,aA,aA,aA,aA,aA,aA],[.code Z7],false⟩ [] w:=by
 have L:=lvF;have cO:pA olL 3=false:=aP;have Ob:∀(tmps:Array aF) (td:List eE) (w':aE),tmps.getD 4 aA=.bool true->JS St W0 Post ⟨3,tmps,td,true⟩ [] w':=by
  intro tmps td w' h6;refine JO.fin L (t:=4) rfl Tryz.func3 rfl aP λK R W v' hv hk=>?_;have J6:VR (SF gD) K R (tmps.getD 4 aA) v':=hv;rw[h6] at J6;cases J6;exact hP R W hk
 have B:=Bl.refl w.heap.size w;have zJG:=aD (beq_self_eq_true (es));have zc6:=aD (beq_self_eq_true (F5 o es));have zoY:=aD (show(F5 o es).length<=1048576 from eG (zrV o es) aC);refine JO.sq L cO ?_;refine JO.pQ L cO (λTp Q HQ=>?_);replace h1:=h1.tp Tp 0;replace B:=B.tp Tp 0;have s1:w.heap.size<=(Tt.tp w Tp 0).heap.size:=aX _;generalize Tt.tp w Tp 0=w1 at B h1 s1⊢;go_wp2;refine HQ.o _ _ ?_;clear HQ;obtain⟨g2,yD⟩:=aU w1.heap.size;have s2:w1.heap.size<=(w1.alloc (.cells #[.int .i64 o.ln,.int .i64 o.op,.int .i64 o.pt] 23)).heap.size:=aQ;replace B:=B.below' (dS (eF _ _) (.cells #[.int .i64 o.ln,.int .i64 o.op,.int .i64 o.pt] 23)) aC;replace h1:=h1.alloc (.cells #[.int .i64 o.ln,.int .i64 o.op,.int .i64 o.pt] 23);have cH:(w1.alloc (.cells #[.int .i64 o.ln,.int .i64 o.op,.int .i64 o.pt] 23)).heap[g2]? =some (.cells #[.int .i64 o.ln,.int .i64 o.op,.int .i64 o.pt] 23):=by rw[yD];exact Ee w1 _
 rw[<-yD];generalize w1.alloc (.cells #[.int .i64 o.ln,.int .i64 o.op,.int .i64 o.pt] 23)=w2 at B h1 s2 cH⊢;have zMk:w.heap.size<=g2:=aC;have zMU:=fY cH;clear yD;refine JO.sq L cO ?_;refine JO.pQ L cO (λTp Q HQ=>?_);replace h1:=h1.tp Tp 0;replace cH:=kG cH Tp 0;replace B:=B.tp Tp 0;have s3:w2.heap.size<=(Tt.tp w2 Tp 0).heap.size:=aX _;generalize Tt.tp w2 Tp 0=w3 at B h1 cH s3⊢;go_wp2;refine HQ.o _ _ ?_;clear HQ;refine JO.sq L cO ?_;refine JO.pQ L cO (λTp Q HQ=>?_);replace h1:=h1.tp Tp 0;replace cH:=kG cH Tp 0;replace B:=B.tp Tp 0;have s4:w3.heap.size<=(Tt.tp w3 Tp 0).heap.size:=aX _;generalize Tt.tp w3 Tp 0=w4 at B h1 cH s4⊢;have zCT:True:=trivial
 go_wp2_with (go_at_call 10;clear zCT;refine(zIF (1048576) h1 Nj aC aC).mono ?_;rintro e w5 ⟨rfl,b5⟩)
 have s5:=b5.size;replace h1:=h1.below b5;replace cH:=(eD b5 cH).1;replace B:=B.below' b5 aC;clear b5;go_wp2;refine HQ.o _ _ ?_;clear HQ;refine JO.sq L cO ?_;refine JO.sq L cO ?_;refine JO.pQ L cO (λTp Q HQ=>?_);replace h1:=h1.tp Tp 0;replace cH:=kG cH Tp 0;replace B:=B.tp Tp 0;have s6:w5.heap.size<=(Tt.tp w5 Tp 0).heap.size:=aX _;generalize Tt.tp w5 Tp 0=w6 at B h1 cH s6⊢;go_wp2;refine HQ.o _ _ ?_;clear HQ;by_cases zuN:Hv (1048576) n1 es<0
 .refine JO.cd L true cO ?_ (by show Mm (decide _)=_;rw[decide_eq_true zuN])
  refine JO.sq L cO ?_;refine JO.pQ L cO (λTp Q HQ=>?_);go_wp2;refine HQ.o _ _ ?_;refine JO.rt L cO ?_;exact Ob _ _ _ rfl
 refine JO.cd L false cO ?_ (by show Mm (decide _)=_;rw[decide_eq_false zuN]);refine JO.sk L cO ?_;have l1:n1<=1048576:=(zA4 (by omega:0<=Hv (1048576) n1 es) aC).1;have zLL:Hv (1048576) n1 es<=1048576:=Int.le_trans (zG1 aC) aC;refine JO.sq L cO ?_;refine JO.pQ L cO (λTp Q HQ=>?_);replace h1:=h1.tp Tp 0;replace cH:=kG cH Tp 0;replace B:=B.tp Tp 0;have s7:w6.heap.size<=(Tt.tp w6 Tp 0).heap.size:=aX _;generalize Tt.tp w6 Tp 0=w7 at B h1 cH s7⊢;have zLr:=aJ cH 0;have zKT:=aJ cH 1;have zLG:=aJ cH 2;have zBi:True:=trivial
 go_wp2_with (go_at_call 12;clear zBi;refine(zys o.ln o.op o.pt _).mono ?_;rintro e w8 ⟨rfl,b8⟩)
 have s8:=b8.size;replace h1:=h1.below b8;replace cH:=(eD b8 cH).1;replace B:=B.below' b8 aC;clear b8;have zGn:True:=trivial
 go_wp2_with (go_at_call 13;clear zGn;refine(zgX h1 l1).mono ?_;rintro e w9 ⟨zKW,zKS,rfl,zK4,dN,zLK,dZ,b9⟩)
 have s9:=b9.size;replace h1:=h1.below b9;replace cH:=(eD b9 cH).1;replace B:=B.below' b9 aC;clear b9;have zJW:=fY dN;have zA9:True:=trivial
 go_wp2_with (go_at_call 11;clear zA9;refine(zJw o dZ.slc l1 aC).mono ?_;rintro e vZ ⟨RA,Rn,Rc,rfl,Rl,R,Uk⟩)
 have zMX:=Uk.size;replace h1:=h1.below Uk;replace cH:=(eD Uk cH).1;replace dZ:=dZ.below Uk;replace dN:=(eD Uk dN).1;replace B:=B.below' Uk aC;clear Uk;go_wp2;refine HQ.o _ _ ?_;clear HQ;refine JO.sq L cO ?_;refine JO.pQ L cO (λTp Q HQ=>?_);replace h1:=h1.tp Tp 0;replace cH:=kG cH Tp 0;replace dZ:=dZ.tp Tp 0;replace dN:=kG dN Tp 0;replace R:=R.tp Tp 0;replace B:=B.tp Tp 0;have zFF:vZ.heap.size<=(Tt.tp vZ Tp 0).heap.size:=aX _;generalize Tt.tp vZ Tp 0=Bm at B h1 cH dZ dN R zFF⊢;have zGN:True:=trivial
 go_wp2_with (go_at_call 13;clear zGN;refine(zgX h1 l1).mono ?_;rintro e Li ⟨zvg,zMQ,rfl,zLu,r8,zLV,rH,Pg⟩)
 have zM8:=Pg.size;replace h1:=h1.below Pg;replace cH:=(eD Pg cH).1;replace dZ:=dZ.below Pg;replace dN:=(eD Pg dN).1;replace R:=R.below Pg;replace B:=B.below' Pg aC;clear Pg;have zMf:=fY r8;go_wp2;refine HQ.o _ _ ?_;clear HQ;refine JO.sq L cO ?_;generalize gV:([M5 _]:List eE)=K0;refine JO.rn L cO zdx [0,1,2,3,4,5,6,7,8] ?_;refine JO.mv L cO (.agg #[.int .i64 o.ln,.int .i64 o.op,.int .i64 o.pt]) ?_ (hx:=(λT' e=>zyh (w:=Tt.tp Li T' e) (t:=23) (x:=.tmp 2) (b:=g2) rfl cH rfl zn6 rfl aP));refine JO.callV L (xs:=#[.agg #[.int .i64 o.ln,.int .i64 o.op,.int .i64 o.pt]]) (Q:=Qq o.ln o.op o.pt Li) rfl rfl zqi rfl rfl aP cO aP Ya (λv w' T e h=>Qq.tp h T e) (zpL o.ln o.op o.pt Li) (λv zhy hq=>?_);obtain⟨rfl,Ld⟩:=hq;have zKN:=Ld.size;replace h1:=h1.bls Ld (aX _);replace cH:=Ad Ld cH (fY cH);replace dZ:=dZ.bls Ld (aX _);replace dN:=Ad Ld dN (fY dN);replace R:=R.bls Ld (aX _);replace rH:=rH.bls Ld (aX _);replace r8:=Ad Ld r8 (fY r8);replace B:=B.then Ld aC;clear Ld;simp only[Fm.fin,zqi,vC,gE,dV,dW];refine JO.mv L cO (.slice (some ⟨zvg,0,none⟩) n1 n1) ?_;refine zos (ops:=zdx) (i:=3) (oo:=zpx) (A:=some ⟨zvg,0,none⟩) (o:=o) (es:=es) rfl cO rfl zxc rfl rfl Ya (rH.slc.wide (jY _) aC) l1 (hT.bls B (aX _)) (Dv.bls B (aX _)) (λzhh zLN Jt zo8=>?_);have zKD:=Jt.size;replace h1:=h1.bls Jt (aX _);replace cH:=Ad Jt cH (fY cH);replace dZ:=dZ.bls Jt (aX _);replace dN:=Ad Jt dN (fY dN);replace R:=R.bls Jt (aX _);replace rH:=rH.bls Jt (aX _);replace r8:=Ad Jt r8 (fY r8);replace B:=B.then Jt aC;clear Jt;obtain⟨zmR,zmn,zic,rfl,zbj,G3⟩:=ziN zo8 aH zoY.o;clear zo8;simp only[Fm.fin,zxc,vC,gE,dV,dW];refine JO.mv L cO (.tuple #[.slice zmR zmn zic,.bool (gG o es)]) ?_;refine JO.mv L cO (.slice zmR zmn zic) ?_;refine JO.mv L cO (.bool (gG o es)) ?_;refine JO.mv L cO (.slice zmR zmn zic) ?_;refine JO.mv L cO (.bool (gG o es)) ?_;refine JO.regEnd L cO ?_;subst gV;refine JO.sq L cO ?_;refine JO.pQ L cO (λTp Q HQ=>?_);replace h1:=h1.tp Tp 0;replace cH:=kG cH Tp 0;replace dZ:=dZ.tp Tp 0;replace dN:=kG dN Tp 0;replace R:=R.tp Tp 0;replace rH:=rH.tp Tp 0;replace r8:=kG r8 Tp 0;replace G3:=G3.tp Tp 0;replace B:=B.tp Tp 0;have zE6:zhh.heap.size<=(Tt.tp zhh Tp 0).heap.size:=aX _;generalize Tt.tp zhh Tp 0=w15 at B h1 cH dZ dN R rH r8 G3 zE6⊢;have zzp:True:=trivial
 go_wp2_with (go_at_call 15;clear zzp;refine(zke G3.slc R.slc zbj Rl).mono ?_;rintro e zij ⟨rfl,H8⟩;rw[zc6.o])
 have zJ2:=H8.size;replace h1:=h1.below H8;replace cH:=(eD H8 cH).1;replace dZ:=dZ.below H8;replace dN:=(eD H8 dN).1;replace R:=R.below H8;replace rH:=rH.below H8;replace r8:=(eD H8 r8).1;replace G3:=G3.below H8;replace B:=B.below' H8 aC;clear H8;go_wp2;refine HQ.o _ _ ?_;clear HQ;refine JO.sq L cO ?_;refine JO.pQ L cO (λTp Q HQ=>?_);replace h1:=h1.tp Tp 0;replace cH:=kG cH Tp 0;replace dZ:=dZ.tp Tp 0;replace dN:=kG dN Tp 0;replace R:=R.tp Tp 0;replace rH:=rH.tp Tp 0;replace r8:=kG r8 Tp 0;replace G3:=G3.tp Tp 0;replace B:=B.tp Tp 0;have zEh:zij.heap.size<=(Tt.tp zij Tp 0).heap.size:=aX _;generalize Tt.tp zij Tp 0=w17 at B h1 cH dZ dN R rH r8 G3 zEh⊢;have zJM:True:=trivial
 go_wp2_with (go_at_call 13;clear zJM;refine(zgX h1 l1).mono ?_;rintro e zMJ ⟨zLZ,zMi,rfl,zKV,gO,zLy,iR,Ij⟩)
 have zJU:=Ij.size;replace h1:=h1.below Ij;replace cH:=(eD Ij cH).1;replace dZ:=dZ.below Ij;replace dN:=(eD Ij dN).1;replace R:=R.below Ij;replace rH:=rH.below Ij;replace r8:=(eD Ij r8).1;replace G3:=G3.below Ij;replace B:=B.below' Ij aC;clear Ij;have zM3:=fY gO;have zIC:True:=trivial
 go_wp2_with (go_at_call 16;clear zIC;refine(zAc rH.slc iR.slc l1 l1).mono ?_;rintro e zng ⟨rfl,Ff⟩;rw[zJG.o])
 have zK5:=Ff.size;replace h1:=h1.below Ff;replace cH:=(eD Ff cH).1;replace dZ:=dZ.below Ff;replace dN:=(eD Ff dN).1;replace R:=R.below Ff;replace rH:=rH.below Ff;replace r8:=(eD Ff r8).1;replace G3:=G3.below Ff;replace iR:=iR.below Ff;replace gO:=(eD Ff gO).1;replace B:=B.below' Ff aC;clear Ff;go_wp2;refine HQ.o _ _ ?_;clear HQ;refine JO.sq L cO ?_;refine JO.pQ L cO (λTp Q HQ=>?_);replace h1:=h1.tp Tp 0;replace cH:=kG cH Tp 0;replace dZ:=dZ.tp Tp 0;replace dN:=kG dN Tp 0;replace R:=R.tp Tp 0;replace rH:=rH.tp Tp 0;replace r8:=kG r8 Tp 0;replace G3:=G3.tp Tp 0;replace iR:=iR.tp Tp 0;replace gO:=kG gO Tp 0;replace B:=B.tp Tp 0;have zF0:zng.heap.size<=(Tt.tp zng Tp 0).heap.size:=aX _;generalize Tt.tp zng Tp 0=w20 at B h1 cH dZ dN R rH r8 G3 iR gO zF0⊢;go_wp2;refine HQ.o _ _ ?_;clear HQ;refine JO.sq L cO ?_;refine JO.pQ L cO (λTp Q HQ=>?_);replace h1:=h1.tp Tp 0;replace cH:=kG cH Tp 0;replace dZ:=dZ.tp Tp 0;replace dN:=kG dN Tp 0;replace R:=R.tp Tp 0;replace rH:=rH.tp Tp 0;replace r8:=kG r8 Tp 0;replace G3:=G3.tp Tp 0;replace iR:=iR.tp Tp 0;replace gO:=kG gO Tp 0;replace B:=B.tp Tp 0;have zz5:w20.heap.size<=(Tt.tp w20 Tp 0).heap.size:=aX _;generalize Tt.tp w20 Tp 0=w21 at B h1 cH dZ dN R rH r8 G3 iR gO zz5⊢;have zy5:True:=trivial
 go_wp2_with (go_at_call 17;clear zy5;refine(zBL (1) rH l1 aC).mono ?_;rintro e zkA ⟨rfl,H3⟩)
 have zLq:=H3.size;clear rH;clear r8;replace h1:=h1.chg H3 aC;replace cH:=Yb cH H3 aC;replace dZ:=dZ.chg H3 aC;replace dN:=Yb dN H3 aC;replace R:=R.chg H3 aC;replace G3:=G3.chg H3 aC;replace iR:=iR.chg H3 aC;replace gO:=Yb gO H3 aC;replace B:=B.chg H3 aC aC;clear H3;go_wp2;refine HQ.o _ _ ?_;clear HQ;refine JO.sq L cO ?_;refine JO.pQ L cO (λTp Q HQ=>?_);replace h1:=h1.tp Tp 0;replace cH:=kG cH Tp 0;replace dZ:=dZ.tp Tp 0;replace dN:=kG dN Tp 0;replace R:=R.tp Tp 0;replace G3:=G3.tp Tp 0;replace iR:=iR.tp Tp 0;replace gO:=kG gO Tp 0;replace B:=B.tp Tp 0;have zAU:zkA.heap.size<=(Tt.tp zkA Tp 0).heap.size:=aX _;generalize Tt.tp zkA Tp 0=w23 at B h1 cH dZ dN R G3 iR gO zAU⊢;have zJu:True:=trivial
 go_wp2_with (go_at_call 15;clear zJu;refine(zke G3.slc R.slc zbj Rl).mono ?_;rintro e znH ⟨rfl,Hq⟩;rw[zc6.o])
 have zKh:=Hq.size;replace h1:=h1.below Hq;replace cH:=(eD Hq cH).1;replace dZ:=dZ.below Hq;replace dN:=(eD Hq dN).1;replace R:=R.below Hq;replace G3:=G3.below Hq;replace iR:=iR.below Hq;replace gO:=(eD Hq gO).1;replace B:=B.below' Hq aC;clear Hq;go_wp2;refine HQ.o _ _ ?_;clear HQ;refine JO.sq L cO ?_;refine JO.pQ L cO (λTp Q HQ=>?_);replace h1:=h1.tp Tp 0;replace cH:=kG cH Tp 0;replace dZ:=dZ.tp Tp 0;replace dN:=kG dN Tp 0;replace R:=R.tp Tp 0;replace G3:=G3.tp Tp 0;replace iR:=iR.tp Tp 0;replace gO:=kG gO Tp 0;replace B:=B.tp Tp 0;have zAT:znH.heap.size<=(Tt.tp znH Tp 0).heap.size:=aX _;generalize Tt.tp znH Tp 0=w25 at B h1 cH dZ dN R G3 iR gO zAT⊢;go_wp2;refine HQ.o _ _ ?_;clear HQ;refine JO.sq L cO ?_;refine JO.pQ L cO (λTp Q HQ=>?_);replace h1:=h1.tp Tp 0;replace cH:=kG cH Tp 0;replace dZ:=dZ.tp Tp 0;replace dN:=kG dN Tp 0;replace R:=R.tp Tp 0;replace G3:=G3.tp Tp 0;replace iR:=iR.tp Tp 0;replace gO:=kG gO Tp 0;replace B:=B.tp Tp 0;have zCA:w25.heap.size<=(Tt.tp w25 Tp 0).heap.size:=aX _;generalize Tt.tp w25 Tp 0=w26 at B h1 cH dZ dN R G3 iR gO zCA⊢;have zIm:True:=trivial
 go_wp2_with (go_at_call 18;clear zIm;refine(zHL (1) G3 zbj aC).mono ?_;rintro e zi2 ⟨rfl,pY,Me⟩)
 have zL4:=Me.size;clear G3;replace h1:=h1.chg Me aC;replace cH:=Yb cH Me aC;replace dZ:=dZ.chg Me aC;replace dN:=Yb dN Me aC;replace R:=R.chg Me aC;replace iR:=iR.chg Me aC;replace gO:=Yb gO Me aC;replace B:=B.chg Me aC aC;clear Me;go_wp2;refine HQ.o _ _ ?_;clear HQ;refine JO.sq L cO ?_;refine JO.pQ L cO (λTp Q HQ=>?_);replace h1:=h1.tp Tp 0;replace cH:=kG cH Tp 0;replace dZ:=dZ.tp Tp 0;replace dN:=kG dN Tp 0;replace R:=R.tp Tp 0;replace iR:=iR.tp Tp 0;replace gO:=kG gO Tp 0;replace pY:=pY.tp Tp 0;replace B:=B.tp Tp 0;have zBq:zi2.heap.size<=(Tt.tp zi2 Tp 0).heap.size:=aX _;generalize Tt.tp zi2 Tp 0=w28 at B h1 cH dZ dN R iR gO pY zBq⊢;go_wp2;refine HQ.o _ _ ?_;clear HQ;refine JO.sq L cO ?_;refine JO.pQ L cO (λTp Q HQ=>?_);replace h1:=h1.tp Tp 0;replace cH:=kG cH Tp 0;replace dZ:=dZ.tp Tp 0;replace dN:=kG dN Tp 0;replace R:=R.tp Tp 0;replace iR:=iR.tp Tp 0;replace gO:=kG gO Tp 0;replace pY:=pY.tp Tp 0;replace B:=B.tp Tp 0;have zFM:w28.heap.size<=(Tt.tp w28 Tp 0).heap.size:=aX _;generalize Tt.tp w28 Tp 0=w29 at B h1 cH dZ dN R iR gO pY zFM⊢;have zEf:True:=trivial
 go_wp2_with (go_at_call 19;clear zEf;refine(zp8 1 pY zbj aC).mono ?_;rintro e zhB ⟨rfl,H5⟩)
 have zJO:=H5.size;replace h1:=h1.below H5;replace cH:=(eD H5 cH).1;replace dZ:=dZ.below H5;replace dN:=(eD H5 dN).1;replace R:=R.below H5;replace iR:=iR.below H5;replace gO:=(eD H5 gO).1;replace pY:=pY.below H5;replace B:=B.below' H5 aC;clear H5;go_wp2;refine HQ.o _ _ ?_;clear HQ;refine JO.sq L cO ?_;refine JO.pQ L cO (λTp Q HQ=>?_);replace h1:=h1.tp Tp 0;replace cH:=kG cH Tp 0;replace dZ:=dZ.tp Tp 0;replace dN:=kG dN Tp 0;replace R:=R.tp Tp 0;replace iR:=iR.tp Tp 0;replace gO:=kG gO Tp 0;replace pY:=pY.tp Tp 0;replace B:=B.tp Tp 0;have zAk:zhB.heap.size<=(Tt.tp zhB Tp 0).heap.size:=aX _;generalize Tt.tp zhB Tp 0=w31 at B h1 cH dZ dN R iR gO pY zAk⊢;go_wp2;refine HQ.o _ _ ?_;clear HQ;refine JO.sq L cO ?_;refine JO.pQ L cO (λTp Q HQ=>?_);replace h1:=h1.tp Tp 0;replace cH:=kG cH Tp 0;replace dZ:=dZ.tp Tp 0;replace dN:=kG dN Tp 0;replace R:=R.tp Tp 0;replace iR:=iR.tp Tp 0;replace gO:=kG gO Tp 0;replace pY:=pY.tp Tp 0;replace B:=B.tp Tp 0;have zAf:w31.heap.size<=(Tt.tp w31 Tp 0).heap.size:=aX _;generalize Tt.tp w31 Tp 0=w32 at B h1 cH dZ dN R iR gO pY zAf⊢;go_wp2;refine HQ.o _ _ ?_;clear HQ;refine JO.sq L cO ?_;generalize gV:([M5 _]:List eE)=K0;refine JO.rn L cO zbA [0,1,2,3,4,5,6,7,8,9] ?_;refine JO.mv L cO (.agg #[.int .i64 o.ln,.int .i64 o.op,.int .i64 o.pt]) ?_ (hx:=(λT' e=>zyh (w:=Tt.tp w32 T' e) (t:=23) (x:=.tmp 2) (b:=g2) rfl cH rfl zn6 rfl aP));refine JO.callV L (xs:=#[.agg #[.int .i64 o.ln,.int .i64 o.op,.int .i64 o.pt]]) (Q:=Qq o.ln o.op o.pt w32) rfl rfl zw0 rfl rfl aP cO aP Ya (λv w' T e h=>Qq.tp h T e) (zpL o.ln o.op o.pt w32) (λv zFv hq=>?_);obtain⟨rfl,Jk⟩:=hq;have zLJ:=Jk.size;replace h1:=h1.bls Jk (aX _);replace cH:=Ad Jk cH (fY cH);replace dZ:=dZ.bls Jk (aX _);replace dN:=Ad Jk dN (fY dN);replace R:=R.bls Jk (aX _);replace iR:=iR.bls Jk (aX _);replace gO:=Ad Jk gO (fY gO);replace pY:=pY.bls Jk (aX _);replace B:=B.then Jk aC;clear Jk;simp only[Fm.fin,zw0,vC,gE,dV,dW];refine JO.mv L cO (.slice A1 n1 c1) ?_;refine JO.callV L (xs:=#[.slice A1 n1 c1]) (Q:=ToV 54 3 (lL es) zFv n1) rfl rfl zqe rfl rfl aP cO aP Ya (λv w' T e h=>ToV.tp h T e) (zyH h1 l1) (λv zMx hq=>?_);obtain⟨zze,zL5,rfl,zMe,Jr,zLM,Kh,Ho⟩:=hq;have zJ6:=Ho.size;replace h1:=h1.bls Ho (aX _);replace cH:=Ad Ho cH (fY cH);replace dZ:=dZ.bls Ho (aX _);replace dN:=Ad Ho dN (fY dN);replace R:=R.bls Ho (aX _);replace iR:=iR.bls Ho (aX _);replace gO:=Ad Ho gO (fY gO);replace pY:=pY.bls Ho (aX _);replace B:=B.then Ho aC;clear Ho;have zLE:=fY Jr;simp only[Fm.fin,zqe,vC,gE,dV,dW];refine zos (ops:=zbA) (i:=4) (oo:=zym) (A:=some ⟨zze,0,none⟩) (o:=o) (es:=es) rfl cO rfl zvd rfl rfl Ya (Kh.slc.wide (jY _) aC) l1 (hT.bls B (aX _)) (Dv.bls B (aX _)) (λzjl zLY En zxO=>?_);have zMT:=En.size;replace h1:=h1.bls En (aX _);replace cH:=Ad En cH (fY cH);replace dZ:=dZ.bls En (aX _);replace dN:=Ad En dN (fY dN);replace R:=R.bls En (aX _);replace iR:=iR.bls En (aX _);replace gO:=Ad En gO (fY gO);replace pY:=pY.bls En (aX _);replace Kh:=Kh.bls En (aX _);replace Jr:=Ad En Jr (fY Jr);replace B:=B.then En aC;clear En;obtain⟨zh8,znx,zmz,rfl,zHZ,G8⟩:=ziN zxO aH zoY.o;clear zxO;simp only[Fm.fin,zvd,vC,gE,dV,dW];refine JO.mv L cO (.tuple #[.slice zh8 znx zmz,.bool (gG o es)]) ?_;refine JO.mv L cO (.slice zh8 znx zmz) ?_;refine JO.mv L cO (.bool (gG o es)) ?_;refine JO.mv L cO (.slice zh8 znx zmz) ?_;refine JO.mv L cO (.bool (gG o es)) ?_;refine JO.regEnd L cO ?_;subst gV;refine JO.tQ L cO (λTp Q HQ=>?_);replace h1:=h1.tp Tp 0;replace cH:=kG cH Tp 0;replace dZ:=dZ.tp Tp 0;replace dN:=kG dN Tp 0;replace R:=R.tp Tp 0;replace iR:=iR.tp Tp 0;replace gO:=kG gO Tp 0;replace pY:=pY.tp Tp 0;replace Kh:=Kh.tp Tp 0;replace Jr:=kG Jr Tp 0;replace G8:=G8.tp Tp 0;replace B:=B.tp Tp 0;have zIL:zjl.heap.size<=(Tt.tp zjl Tp 0).heap.size:=aX _;generalize Tt.tp zjl Tp 0=w36 at B h1 cH dZ dN R iR gO pY Kh Jr G8 zIL⊢;have zJp:True:=trivial
 go_wp2_with (go_at_call 15;clear zJp;refine(zke G8.slc R.slc zHZ Rl).mono ?_;rintro e zMI ⟨rfl,Dq⟩;rw[zc6.o])
 have zMP:=Dq.size;replace h1:=h1.below Dq;replace cH:=(eD Dq cH).1;replace dZ:=dZ.below Dq;replace dN:=(eD Dq dN).1;replace R:=R.below Dq;replace iR:=iR.below Dq;replace gO:=(eD Dq gO).1;replace pY:=pY.below Dq;replace Kh:=Kh.below Dq;replace Jr:=(eD Dq Jr).1;replace G8:=G8.below Dq;replace B:=B.below' Dq aC;clear Dq;have zBs:True:=trivial
 go_wp2_with (go_at_call 19;clear zBs;refine(zp8 1 pY zbj aC).mono ?_;rintro e zMG ⟨rfl,C6⟩)
 have zLi:=C6.size;replace h1:=h1.below C6;replace cH:=(eD C6 cH).1;replace dZ:=dZ.below C6;replace dN:=(eD C6 dN).1;replace R:=R.below C6;replace iR:=iR.below C6;replace gO:=(eD C6 gO).1;replace pY:=pY.below C6;replace Kh:=Kh.below C6;replace Jr:=(eD C6 Jr).1;replace G8:=G8.below C6;replace B:=B.below' C6 aC;clear C6;go_wp2;refine HQ.o _ _ (λtodo=>?_);exact Ob _ _ _ rfl
end
end Go.Proofs.YtfcjiloojkjaeaaGreatDoor
namespace Go.Proofs.YtfcjiloojkjaeaaGreatDoor
theorem zHC (Lk:Looks){p:Pinned}{s:OpenSpec}{c:OpenClaim}(kinds:List LaidKind)(znM:Bool)(Tm:Bool×String)(lk:Bool)
 (hc:c.holds p s) (hw:c.wfByText s=true) (zEy:c.laidByTextAt Lk p kinds znM)
 (aY:c.start=.entering) (nK:c.noBlocks=false/\c.again=false) (hm:p.checked.prog.mainIs=some (Tm.1,Tm.2.toList)) (hn:(!Tm.1&&Tm.2.isEmpty&& !lk)=false)
 (hl:∀f fn,p.checked.prog.funcNamed c.func=some f->p.checked.prog.funcs[f]? =some fn->lk=p.checked.prog.looks []/\∀(j:Nat) t,fn.params[j]? =some t->p.checked.prog.wantsStandIn t=false)
 (hg:true=c.goesBy p.checked.prog):
 Claim7.holds p (.plain s) {stood:={row:=c,standIns:=[],harness:=Tm,looks:=lk},kinds:=[],alts:=[],goes:=true,laidByText:=true,laidKinds:=kinds,laidTests:=znM,laidLooks:=Lk}:=by
 have h6:∀r:OpenClaim,ztA {stood:={row:=r,standIns:=[],harness:=Tm,looks:=lk},kinds:=[]}=false:=λr=>by simpa[ztA] using hn
 have h:=Claim7.tied_new_at Lk kinds znM (Claim7.new_of_sixth hc Tm lk aY nK hm (h6 c) hl) hw;exact⟨h,(λD hD=>by cases hD),zEy,(λh=>by cases h),hg⟩
end Go.Proofs.YtfcjiloojkjaeaaGreatDoor
