/-
  Part 6 of what stands behind the last text.
-/
import Derived.Lib.AppendIntMem
import Derived.LaidMore
import Derived.Test.YtfcjiloojkjaeaaGreatDoorCards
import Derived.Deep.CutBlock
import Derived.SevenTiedAt
import Derived.Test.YtfcjiloojkjaeaaGreatDoorOnlPq5
set_option linter.all false
set_option maxHeartbeats 16000000
set_option maxRecDepth 100000
open Array renaming ext'→L1,getD_eq_getD_getElem?→xE,getElem?_eq_getElem→qA,getElem?_eq_some_iff→eE,getElem?_map→Fo,getElem?_toList→Cf,mem_of_getElem?→zaX,replicate→oC,toList_append→Sn,toList_replicate→zdS
open Bool renaming and_eq_true→iY,eq_iff_iff→Mx,false_eq_true→gK,or_eq_true→Di
open Go renaming Addr→bD,Calls→iR,Code→wA,Ending→I8,Frame→dJ,FuncId→aN,Goroutine→bC,Item→dS,Oper→aZ,Operand→cI,Program→bT,Tape→lM,TypeId→aM,Value→aF,World→aE,bodyPost_ret→nF,execOp→aO,heap_alloc_new→gU,undef→aA,yielded→dO
open Go.Act renaming eval→vT,mk→bJ,put→b7
open Go.Claim7 renaming isSixth→zso
open Go.Conc renaming base→Kt
open Go.Fn renaming func→zoW
open Go.Item renaming code→Mw
open Go.Lib renaming TabIs→zfj,tabBelow_of_tabIs→zdN
open Go.MakeChecks renaming laidMetH_plain→zsu
open Go.Op renaming equalIn→tD
open Go.Operand renaming tmp→zj5
open Go.Proofs.Tryz renaming checked→vN,f28→zeg,f30→zhy,f42→zgk,f54→zts,f56→zjE,f57→znZ,func28→zx5,func30→zwf,func42→zdu,func54→zn2,func56→zrI,prog→aK,results47→zjU,results60→ze4,underlying29→zvb
open Go.Region renaming wanted→dG
open Go.RowKit renaming Below→cD
open Go.RowKit.Below renaming heap_setCell→dN,refl→fN
open Go.Value renaming bool→Ng,int→Lo,string→zsb
open Go.World renaming cell?→lN,var?→zd7
open Go.World.grownBy renaming refl→zeW
open Int renaming le_refl→zbT
open List renaming countP_append→znq,countP_cons→zaJ,countP_singleton→ziK,getD_eq_getElem?_getD→Vn,getElem?_append_left→Mo,getElem?_eq_some_iff→lR,length_append→jP,length_cons→yH,length_nil→Al,map_cons→jG,map_nil→tK,map_toArray→uR,mem_append→C3,mem_iff_getElem?→At,mem_of_getElem?→dZ,mem_singleton→yT,modify→Rf,nodup_cons→Cw,nodup_nil→Wl,not_mem_nil→nM,range→iX,setIfInBounds_toArray→gC,set_cons_succ→dU,set_cons_zero→dV,size_toArray→Fg
open Nat renaming le_refl→bN,le_succ→zeC,le_trans→eM,lt_of_le_of_lt→zbJ,lt_of_lt_of_le→jW,lt_or_ge→uE,lt_succ_self→yE,lt_trans→zhK,zero_add→rH,zero_le→mP
open Option renaming bind_some→xS,map_eq_some_iff→zW,map_some→Fl
open Option.some renaming inj→cJ,injEq→jM
open SizeOf renaming sizeOf→N7
noncomputable section
namespace Go
theorem zdI{P:Prop}(h:P:=by intro h;exact absurd h.1 (by decide+kernel)):P:=h
theorem zuC{P:Prop}(h:P:=by rw[<-zbb] at*;exact uQ.o.oldB eB HK.o):P:=h
theorem zgT{P:Prop}(h:P:=by intro h;simp at h):P:=h
theorem zm2{P:Prop}(h:P:=by rw[hp,hg,hf];kernel_rfl):P:=h
theorem zfU{P:Prop}(h:P:=by simp[Fm.eval]):P:=h
end Go
namespace Go.Proofs.YtfcjiloojkjaeaaGreatDoor
open Go.RowKit Go.Mt Go.Conc Go.Tt Go.Maps Go.Conc.Lib Go.ConcR.Gen
open Go.ConcR (KK wgBlock WgAt stA smA rd wr)
def Y7:Go.Code:=(zts.body).getD .skip
def rH10:Go.Code:=match Y7 with| .seq (a) _=>a|_=>.skip
def rH11:Go.Code:=match Y7 with| .seq _ (a)=>a|_=>.skip
def zDa:Y7=.seq (rH10) (rH11):=rfl
def zf5:Array Oper:=match rH10 with| .region _ ops _=>ops|_=>#[]
def rH10_eq:rH10=.region 0 zf5 false:=rfl
def zGD:iX zf5.size=[0]:=rfl
abbrev zpj:Oper:=aV zf5 0 none (.defer ⟨.value (.func 55),#[.tmp 0],#[94]⟩)
def zHK:zf5[0]? =some zpj:=rfl
def Vl:Array Oper:=match rH11 with| .region _ ops _=>ops|_=>#[]
def rH11_eq:rH11=.region 1 Vl false:=rfl
def zFe:iX Vl.size=[0,1]:=rfl
abbrev oH11_0:Oper:=aV Vl 0 (some 2) (.load 95 (.tmp 1))
def zFR:Vl[0]? =some oH11_0:=rfl
abbrev oH11_1:Oper:=aV Vl 1 (some 3) (.call ⟨.value (.func 56),#[.tmp 2],#[122]⟩)
def zA7:Vl[1]? =some oH11_1:=rfl
variable {pin:List (Nat×aF)}
theorem zsh {Wg N:Nat}{W:List fB}{D:aE->Prop}{Fin:bC->aE->Prop}{St:Nat->Prop}{Q:Pr->Prop}{K:Pr}{base:List dJ}{ds:Dk}(m':Fm)(oA:Pr):
 (fM Wg N W D Fin St K Q base ds pin).sub m' oA=fM Wg N W D Fin St K (λR=>Q R/\oA.le R) (fx [] ds m'::base) .nil []:=by
 have e:(λR τ w=>(zD rR.tWg Wg (IOp Wg) R τ w/\Q R)/\oA.le R)=(λR τ w=>zD rR.tWg Wg (IOp Wg) R τ w/\Q R/\oA.le R):=by
  funext R τ W;exact propext and_assoc
 unfold Cx.sub fM;simp only;rw[e]
section
variable {Wg N:Nat}{W:List fB}{D:aE->Prop}{Fin:bC->aE->Prop}{St:Nat->Prop}{gc gv c:Nat}
variable {K:Pr}
theorem op_body {Q:Pr->Prop}{base:List dJ}(hK:K gc c)(hQ:Up Q)(m:Nat)(w:aE)(Pb:∀K' T todo w,K.le K'->BO (fM Wg N W D Fin St K' Q base .nil []) .oD ⟨56,T,todo,true⟩ w):
 BO (fM Wg N W D Fin St K Q base .nil []) (.op c 0 m) ⟨56,#[.chan (some gc),aA,aA,aA,aA,aA,aA,aA,aA,aA,aA,aA,aA,aA,aA,aA],[.code L2],false⟩ w:=by
 have F:vQ (fM Wg N W D Fin St K Q base .nil []).P (fM Wg N W D Fin St K Q base .nil []).fs:=nD;have hI:eZ (fM Wg N W D Fin St K Q base .nil []):=zfZ hQ rfl;rw[zBh];refine BO.seq hI ?_;refine BO.pV F hI Xp (λw1 T1 eG Q' HQ=>?_);clear eG;go_wp2;refine HQ.o _ _ ?_;clear HQ;refine BO.seq hI ?_;refine BO.pV F hI Xp (λw2 T2 eT Q' HQ=>?_);clear eT;go_wp2;refine HQ.o _ _ ?_;clear HQ;refine BO.block hI ?_;refine BO.loop hI ?_;exact op_loop hK hQ Pb m K w2 0 _ _ _ _ _ _ _ _ _ _ _ _ _ (xU K)
theorem zC7 (hK:K gc c)(m:Nat){w:aE}(hv:w.cell? ⟨gv,0,none⟩=some (.chan (some gc))):
 BO (fM Wg N W D Fin St K (λ_=>True) [wG aK] ⟨[],.deferred,aQ⟩ [(0,.pointer (some ⟨Wg,0,none⟩))]) (.op c 0 m) ⟨54,#[.nilFunc,.pointer (some ⟨gv,0,none⟩),aA,aA],[.code Y7],false⟩ w:=by
 let C:=fM Wg N W D Fin St K (λ_=>True) [wG aK] ⟨[],.deferred,aQ⟩ [(0,.pointer (some ⟨Wg,0,none⟩))]
 have hQ:Up (λ_=>True):=λ_ _ _ _=>trivial;have hI:eZ C:=zfZ hQ rfl
 let d1:=dcall 55 #[.pointer (some ⟨Wg,0,none⟩)]
 have La:eZ (C.dfr d1):=hI.dfr d1;have F:vQ C.P C.fs:=nD;show BO C _ _ _;rw[zDa];refine BO.seq hI ?_;rw[rH10_eq];refine BO.regs hI _ zGD ?_;refine BO.defer hI (d:=d1) zHK rfl rfl (λR w W bS _ _ Dt aY=>?_) ?_
 .have h0:=Dt (0,.pointer (some ⟨Wg,0,none⟩)) (by show _∈[_];simp)
  have:=zui (p:=C.p) (o:=zpj) (ρ:=(bJ bS C.ds.ds).eval) rfl rfl aY;simp only[uR,jG,tK,vT] at this
  grind
 refine BO.regEnd La ?_;rw[rH11_eq];refine BO.regs La _ zFe ?_;refine BO.op (C:=C.dfr d1) F La zFR rfl aT (by intro s hs;cases hs;show(2:Nat)∉([0]:List Nat);decide) (λT=>⟨.chan (some gc),Tt.tp w T 0,.inl (Z1 (a:=⟨gv,0,none⟩) rfl rfl (Tryz.isAgg95 _) hv),?_⟩);simp only[b7,gC,dV,dU];obtain⟨w1,eG⟩:=aP (Tt.tp w T 0);rw[<-eG];clear eG;refine BO.callN (C:=C.dfr d1) La zA7 rfl rfl (Callee.static _ _) aT zrI aH rfl (.inl rfl) λoA m' hm=>?_;have ha:(#[]++(#[zj5 2]:Array cI).map (bJ #[.nilFunc,.pointer (some ⟨gv,0,none⟩),.chan (some gc),aA] []).eval++ #[]:Array aF)=#[.chan (some gc)]:=by
  simp only[uR,jG,tK,vT,Array.empty_append,Array.append_empty];rfl
 have Ht:(#[.chan (some gc)]:Array aF)++oC ((zjE).ntmps-(#[.chan (some gc)]:Array aF).size) aA=#[.chan (some gc),aA,aA,aA,aA,aA,aA,aA,aA,aA,aA,aA,aA,aA,aA,aA]:=by
  have e:(zjE).ntmps=16:=rfl;rw[e];apply L1;simp only[Sn,zdS,Fg,yH,Al];rfl
 show BO (Cx.sub _ m' oA) _ ⟨_,(#[]++(#[zj5 2]:Array cI).map (bJ #[.nilFunc,.pointer (some ⟨gv,0,none⟩),.chan (some gc),aA] []).eval++ #[]:Array aF)++oC ((zjE).ntmps-(#[]++(#[zj5 2]:Array cI).map (bJ #[.nilFunc,.pointer (some ⟨gv,0,none⟩),.chan (some gc),aA] []).eval++ #[]:Array aF).size) aA,[.code L2],false⟩ _;rw[ha,Ht];have eC:C.dfr d1=fM Wg N W D Fin St K (λ_=>True) [wG aK] ⟨[d1],.deferred,aQ⟩ [(0,.pointer (some ⟨Wg,0,none⟩))]:=rfl;rw[eC] at hm⊢;rw[zsh];refine op_body hK (hQ.and oA) m w1 λK' T todo w2 hl=>?_;rw[<-zsh];have Hv:eZ (fM Wg N W D Fin St K' (λ_=>True) [wG aK] ⟨[d1],.deferred,aQ⟩ [(0,.pointer (some ⟨Wg,0,none⟩))]):=zfZ hQ rfl;refine BO.retN Hv (hm.upK hl _) (v:=.tuple #[]) rfl rfl zvR zrI rfl ?_;show BO _ _ ⟨_,_,[.inRegion _ []],false⟩ _;refine BO.regEnd Hv (BO.fall Hv ?_);exact BO.doneD zau rfl rfl rfl (I0:=IOp Wg) (by
  funext R τ w;exact propext (and_iff_left trivial)) iop_ix rfl rfl zn2 rfl rfl (λ_ _ _ _ _=>trivial)
end
end Go.Proofs.YtfcjiloojkjaeaaGreatDoor
namespace Go.Mt
open Go.RowKit Go.Conc Go.Tt Go.Maps Go.Conc.Lib Go.ConcR.Gen
theorem BO.drawn {L:Type}{p:bT}{gs fs:aN->Bool}{f:aN}{kk:List dS}(znh:p.follows .mixedOrders=true){id:Nat}{t0:Array aF}{ops:Array aZ}(ch:List Nat)(V0:Nat->aF)(S:List aF->Cx L->L->aE->Prop)(hS:∀vs C l w,S vs C l w->eZ C/\C.p=p/\C.gs=gs/\C.fs=fs/\vQ C.P C.fs/\∀(i:Nat) (o:aZ) (s:Tmp),ops[i]? =some o->o.dst=some s->s∉C.S)(bU:Ir ops=true)(tL:Nf ops ch=true)(oQ:ch.all (λc=>decide (c<ops.size))=true)
 (hT:∀vs C l w T e,S vs C l w->S vs C l (Tt.tp w T e))
 (hR:∀(i:Nat) (o:aZ),ops[i]? =some o->i∉ch->rP p ⟨fs,gs,true⟩ o.op=true/\∀vs C l w,vs.length<ch.length->S vs C l w->dG o (dO ops (dF ops (VV ch V0 vs) t0))=true/\(aO (bJ (dF ops (VV ch V0 vs) t0) []).eval o).run p w=.ok (.value (V0 i)) w)
 (hC:∀(vs:List aF) (c:Nat) (o:aZ) C l w,ch[vs.length]? =some c->ops[c]? =some o->S vs C l w->∀(t:Array aF) (rest:List Nat),(∀s∈o.looksAt ops,t[s]? =(dF ops (VV ch V0 vs) t0)[s]?)->
  (∀v C' l' w',S (vs++[v]) C' l' w'->BO C' l' ⟨f,(b7 ⟨t,[]⟩ o.dst v).tmps,.inRegion ops rest::kk,false⟩ w')->BO C l ⟨f,t,.inRegion ops (c::rest)::kk,false⟩ w)
 (hk:∀vs C l w,vs.length=ch.length->S vs C l w->BO C l ⟨f,dF ops (VV ch V0 vs) t0,.inRegion ops []::kk,false⟩ w) {C:Cx L} {l:L} {w:aE} (h0:S [] C l w):BO C l ⟨f,t0,.code (.region id ops true)::kk,false⟩ w:=by
 obtain⟨sI,sp,_⟩:=hS _ _ _ _ h0;refine BO.draw sI λn=>?_;rw[sp,znh]
 exact zqd (σ:=Cx L×L) (P:=p) (J:=λs is t w=>BO s.1 s.2 ⟨f,t,.inRegion ops is::kk,false⟩ w) (S:=λvs s w=>S vs s.1 s.2 w) bU tL oQ
  (λvs s i o rest t w v h ho zG hw hx hJ=>by
   obtain⟨sI,sp,sg,sf,sF,sn⟩:=hS vs _ _ w h;exact BO.op sF sI ho hw (by rw[sp,sg,sf];exact(hR i o ho zG).1) (λs hs=>sn i o s ho hs) λT=>⟨v,_,.inl (by rw[sp];exact hx T),hJ T⟩)
  (λvs s=>hT vs s.1 s.2) (λi o ho zG vs s w hv _=>(hR i o ho zG).2 vs s.1 s.2 w hv) (λvs c o s w hj ho h t rest hs cU=>hC vs c o s.1 s.2 w hj ho h t rest hs λv C' l' w'=>cU v (C',l') w') (λvs s w=>hk vs s.1 s.2 w) (s:=(C,l)) h0 n
end Go.Mt
namespace Go.Proofs.YtfcjiloojkjaeaaGreatDoor
open Go.RowKit Go.Mt Go.Conc Go.Tt Go.Maps Go.Conc.Lib Go.ConcR.Gen
open Go.ConcR (KK wgBlock WgAt stA smA rd wr)
def oG:Go.Code:=(zgk.body).getD .skip
def rRH0:Go.Code:=match oG with| .seq (a) _=>a|_=>.skip
def rRH1:Go.Code:=match oG with| .seq _ (.seq (.seq (a) _) _)=>a|_=>.skip
def rRH2:Go.Code:=match oG with| .seq _ (.seq (.seq _ (.cond _ (.seq (a) _) _)) _)=>a|_=>.skip
def rRH3:Go.Code:=match oG with| .seq _ (.seq _ (.seq (.seq (a) _) _))=>a|_=>.skip
def rRH4:Go.Code:=match oG with| .seq _ (.seq _ (.seq (.seq _ (.block _ (.loop (.seq (a) _)))) _))=>a|_=>.skip
def rRH5:Go.Code:=match oG with| .seq _ (.seq _ (.seq (.seq _ (.block _ (.loop (.seq _ (.seq _ (.seq (.block _ (.seq (a) _)) _)))))) _))=>a|_=>.skip
def rRH6:Go.Code:=match oG with| .seq _ (.seq _ (.seq (.seq _ (.block _ (.loop (.seq _ (.seq _ (.seq (.block _ (.seq _ (.seq (a) _))) _)))))) _))=>a|_=>.skip
def rRH7:Go.Code:=match oG with| .seq _ (.seq _ (.seq (.seq _ (.block _ (.loop (.seq _ (.seq _ (.seq (.block _ (.seq _ (.seq _ (.cond _ (.seq (a) _) _)))) _)))))) _))=>a|_=>.skip
def rRH8:Go.Code:=match oG with| .seq _ (.seq _ (.seq (.seq _ (.block _ (.loop (.seq _ (.seq _ (.seq _ (a))))))) _))=>a|_=>.skip
def rRH9:Go.Code:=match oG with| .seq _ (.seq _ (.seq _ (.seq (a) _)))=>a|_=>.skip
def zng:Go.Code:=match oG with| .seq _ (.seq _ (.seq _ (.seq _ (.seq (.seq (a) _) _))))=>a|_=>.skip
def rRH11:Go.Code:=match oG with| .seq _ (.seq _ (.seq _ (.seq _ (.seq (.seq _ (.block _ (.loop (.seq (a) _)))) _))))=>a|_=>.skip
def zcJ:Go.Code:=match oG with| .seq _ (.seq _ (.seq _ (.seq _ (.seq (.seq _ (.block _ (.loop (.seq _ (.seq _ (.seq (.block _ (a)) _)))))) _))))=>a|_=>.skip
def rRH13:Go.Code:=match oG with| .seq _ (.seq _ (.seq _ (.seq _ (.seq (.seq _ (.block _ (.loop (.seq _ (.seq _ (.seq _ (a))))))) _))))=>a|_=>.skip
def Oa:Go.Code:=match oG with| .seq _ (.seq _ (.seq _ (.seq _ (.seq _ (.seq (a) _)))))=>a|_=>.skip
def ziT:Go.Code:=match oG with| .seq _ (.seq _ (.seq _ (.seq _ (.seq _ (.seq _ (.seq (.seq (a) _) _))))))=>a|_=>.skip
def ziJ:Go.Code:=match oG with| .seq _ (.seq _ (.seq _ (.seq _ (.seq _ (.seq _ (.seq (.seq _ (.block _ (.loop (.seq (a) _)))) _))))))=>a|_=>.skip
def zam:Go.Code:=match oG with| .seq _ (.seq _ (.seq _ (.seq _ (.seq _ (.seq _ (.seq (.seq _ (.block _ (.loop (.seq _ (.seq _ (.seq (.block _ (.seq (a) _)) _)))))) _))))))=>a|_=>.skip
def Oi:Go.Code:=match oG with| .seq _ (.seq _ (.seq _ (.seq _ (.seq _ (.seq _ (.seq (.seq _ (.block _ (.loop (.seq _ (.seq _ (.seq (.block _ (.seq _ (.seq (a) _))) _)))))) _))))))=>a|_=>.skip
def Qr:Go.Code:=match oG with| .seq _ (.seq _ (.seq _ (.seq _ (.seq _ (.seq _ (.seq (.seq _ (.block _ (.loop (.seq _ (.seq _ (.seq (.block _ (.seq _ (.seq _ (.seq (a) _)))) _)))))) _))))))=>a|_=>.skip
def Uv:Go.Code:=match oG with| .seq _ (.seq _ (.seq _ (.seq _ (.seq _ (.seq _ (.seq (.seq _ (.block _ (.loop (.seq _ (.seq _ (.seq (.block _ (.seq _ (.seq _ (.seq _ (a))))) _)))))) _))))))=>a|_=>.skip
def zkt:Go.Code:=match oG with| .seq _ (.seq _ (.seq _ (.seq _ (.seq _ (.seq _ (.seq (.seq _ (.block _ (.loop (.seq _ (.seq _ (.seq _ (a))))))) _))))))=>a|_=>.skip
def X6:Go.Code:=match oG with| .seq _ (.seq _ (.seq _ (.seq _ (.seq _ (.seq _ (.seq _ (.seq (a) _)))))))=>a|_=>.skip
def Vb:Go.Code:=match oG with| .seq _ (.seq _ (.seq _ (.seq _ (.seq _ (.seq _ (.seq _ (.seq _ (.seq (a) _))))))))=>a|_=>.skip
def Yj:Go.Code:=match oG with| .seq _ (.seq _ (.seq _ (.seq _ (.seq _ (.seq _ (.seq _ (.seq _ (.seq _ (.seq (a) _)))))))))=>a|_=>.skip
def Tn:Go.Code:=match oG with| .seq _ (.seq _ (.seq _ (.seq _ (.seq _ (.seq _ (.seq _ (.seq _ (.seq _ (.seq _ (.seq (a) _))))))))))=>a|_=>.skip
def zBy:oG=.seq (rRH0) (.seq (.seq (rRH1) (.cond (.tmp 17) (.seq (rRH2) (.ret)) (.skip))) (.seq (.seq (rRH3) (.block 0 (.loop (.seq (rRH4) (.seq (.cond (.tmp 21) (.skip) (.exit 0)) (.seq (.block 1 (.seq (rRH5) (.seq (rRH6) (.cond (.tmp 28) (.seq (rRH7) (.ret)) (.skip))))) (rRH8))))))) (.seq (rRH9) (.seq (.seq (zng) (.block 2 (.loop (.seq (rRH11) (.seq (.cond (.tmp 39) (.skip) (.exit 2)) (.seq (.block 3 (zcJ)) (rRH13))))))) (.seq (Oa) (.seq (.seq (ziT) (.block 4 (.loop (.seq (ziJ) (.seq (.cond (.tmp 54) (.skip) (.exit 4)) (.seq (.block 5 (.seq (zam) (.seq (Oi) (.seq (Qr) (Uv))))) (zkt))))))) (.seq (X6) (.seq (Vb) (.seq (Yj) (.seq (Tn) (.ret))))))))))):=rfl
def lT:Array Oper:=match zcJ with| .region _ ops _=>ops|_=>#[]
def zDX:zcJ=.region 12 lT true:=rfl
abbrev zvs:Oper:=aV lT 0 (some 40) (.load 63 (.tmp 7))
def zzh:lT[0]? =some zvs:=rfl
abbrev zrh:Oper:=aV lT 1 (some 41) (.load 63 (.tmp 7))
def zCp:lT[1]? =some zrh:=rfl
abbrev zqj:Oper:=aV lT 2 (some 42) (.nilCheck (.tmp 41))
def zCj:lT[2]? =some zqj:=rfl
abbrev znT:Oper:=aV lT 3 (some 43) (.fieldAddr 72 (.tmp 42) 1)
def zDR:lT[3]? =some znT:=rfl
abbrev zvm:Oper:=aV lT 4 (some 44) (.load 65 (.tmp 43))
def zzG:lT[4]? =some zvm:=rfl
abbrev zsf:Oper:=aV lT 5 (some 45) (.makeChan 84 (.const (.int .i64 0)))
def zkD:lT[5]? =some zsf:=rfl
abbrev ziN:Oper:=aV lT 6 (some 46) (.buildSlice 65 1 #[(0,.tmp 45)])
def zfM:lT[6]? =some ziN:=rfl
abbrev zw9:Oper:=aV lT 7 (some 47) (.call ⟨.builtin .append,#[.tmp 44,.tmp 46],#[65,65]⟩)
def zid:lT[7]? =some zw9:=rfl
abbrev zps:Oper:=aV lT 8 (some 48) (.nilCheck (.tmp 40))
def zIh:lT[8]? =some zps:=rfl
abbrev zvo:Oper:=aV lT 9 (some 49) (.fieldAddr 72 (.tmp 48) 1)
def zzp:lT[9]? =some zvo:=rfl
abbrev zic:Oper:=aV lT 10 none (.store 65 (.tmp 49) (.tmp 47))
def zmG:lT[10]? =some zic:=rfl
def Pl:Array Oper:=match zam with| .region _ ops _=>ops|_=>#[]
def zHA:zam=.region 17 Pl false:=rfl
def zDb:iX Pl.size=[0,1,2]:=rfl
abbrev oRH17_0:Oper:=aV Pl 0 (some 55) (.makeChan 95 (.const (.int .i64 0)))
def zAW:Pl[0]? =some oRH17_0:=rfl
abbrev zo1:Oper:=aV Pl 1 (some 9) (.alloc 95)
def zA4:Pl[1]? =some zo1:=rfl
abbrev znO:Oper:=aV Pl 2 none (.store 95 (.tmp 9) (.tmp 55))
def zBH:Pl[2]? =some znO:=rfl
def lI:Array Oper:=match Oi with| .region _ ops _=>ops|_=>#[]
def zyo:Oi=.region 18 lI true:=rfl
abbrev zuK:Oper:=aV lI 0 (some 56) (.load 63 (.tmp 7))
def zDM:lI[0]? =some zuK:=rfl
abbrev zsK:Oper:=aV lI 1 (some 57) (.load 63 (.tmp 7))
def zAn:lI[1]? =some zsK:=rfl
abbrev znY:Oper:=aV lI 2 (some 58) (.nilCheck (.tmp 57))
def zDx:lI[2]? =some znY:=rfl
abbrev zv9:Oper:=aV lI 3 (some 59) (.fieldAddr 72 (.tmp 58) 4)
def zzV:lI[3]? =some zv9:=rfl
abbrev zrn:Oper:=aV lI 4 (some 60) (.load 68 (.tmp 59))
def zyx:lI[4]? =some zrn:=rfl
abbrev zn1:Oper:=aV lI 5 (some 61) (.load 95 (.tmp 9))
def zAR:lI[5]? =some zn1:=rfl
abbrev zmU:Oper:=aV lI 6 (some 62) (.buildSlice 68 1 #[(0,.tmp 61)])
def zbS:lI[6]? =some zmU:=rfl
abbrev zn8:Oper:=aV lI 7 (some 63) (.call ⟨.builtin .append,#[.tmp 60,.tmp 62],#[68,68]⟩)
def zel:lI[7]? =some zn8:=rfl
abbrev zv0:Oper:=aV lI 8 (some 64) (.nilCheck (.tmp 56))
def zGv:lI[8]? =some zv0:=rfl
abbrev zs6:Oper:=aV lI 9 (some 65) (.fieldAddr 72 (.tmp 64) 4)
def zCF:lI[9]? =some zs6:=rfl
abbrev znf:Oper:=aV lI 10 none (.store 68 (.tmp 65) (.tmp 63))
def zfb:lI[10]? =some znf:=rfl
def zgx:Array Oper:=match Qr with| .region _ ops _=>ops|_=>#[]
def zC3:Qr=.region 19 zgx false:=rfl
def zzw:iX zgx.size=[0]:=rfl
abbrev oRH19_0:Oper:=aV zgx 0 (some 66) (.call ⟨.value (.func 53),#[.tmp 8,.const (.int .i64 1)],#[94,3]⟩)
def zH1:zgx[0]? =some oRH19_0:=rfl
def Lh:Array Oper:=match Uv with| .region _ ops _=>ops|_=>#[]
def zzy:Uv=.region 20 Lh false:=rfl
def zFk:iX Lh.size=[0,1]:=rfl
abbrev oRH20_0:Oper:=aV Lh 0 (some 67) (.makeFunc (zoW 54) #[] #[.tmp 8,.tmp 9])
def zDJ:Lh[0]? =some oRH20_0:=rfl
abbrev oRH20_1:Oper:=aV Lh 1 none (.go ⟨.value (.tmp 67),#[],#[]⟩)
def zD4:Lh[1]? =some oRH20_1:=rfl
def zdU:Array Oper:=match X6 with| .region _ ops _=>ops|_=>#[]
def zyv:X6=.region 22 zdU false:=rfl
def zCw:iX zdU.size=[0]:=rfl
abbrev oRH22_0:Oper:=aV zdU 0 (some 69) (.call ⟨.value (.func 53),#[.tmp 8,.const (.int .i64 1)],#[94,3]⟩)
def zGw:zdU[0]? =some oRH22_0:=rfl
def U5:Array Oper:=match Vb with| .region _ ops _=>ops|_=>#[]
def zB9:Vb=.region 23 U5 false:=rfl
def zF1:iX U5.size=[0,1]:=rfl
abbrev oRH23_0:Oper:=aV U5 0 (some 70) (.makeFunc (zoW 57) #[] #[.tmp 8,.tmp 7,.tmp 3])
def zFg:U5[0]? =some oRH23_0:=rfl
abbrev oRH23_1:Oper:=aV U5 1 none (.go ⟨.value (.tmp 70),#[],#[]⟩)
def zDy:U5[1]? =some oRH23_1:=rfl
def Zh:Array Oper:=match Yj with| .region _ ops _=>ops|_=>#[]
def zAc:Yj=.region 24 Zh false:=rfl
abbrev oRH24_0:Oper:=aV Zh 0 (some 71) (.call ⟨.value (.func 59),#[.tmp 8],#[94]⟩)
def tY:vW aK 42:=⟨_,zdu,.inr (.inl ⟨_,rfl⟩)⟩
def info_ch:(aK.info? 84).map (λi=>(i.zero,i.size,i.bytes))=some (some (.chan none),1,8):=aT
def info_cq:(aK.info? 95).map (λi=>(i.zero,i.size,i.bytes))=some (some (.chan none),1,8):=aT
theorem zB6:∃ie,aK.info? 3=some ie:=by
 obtain⟨i,hi,_⟩:=zW.1 zcX;exact⟨i,hi⟩
theorem zwV (xs:List Nat)(g:Nat):J7 (xs++[g])=J7 xs++[.chan (some g)]:=by simp[J7]
structure WH where
 lo:Nat
 hb:Nat
 gh:Nat
 gq:Nat
 q:Nat
 v0:fC
 w0:aE
 v:fC
 d:nV
def WH.P1 (c:WH)(w:aE):Prop:=bE w c.lo c.hb c.v c.d/\bP c.hb c.v0 c.w0 c.v w/\c.lo<=w.heap.size
variable {c:WH}{w:aE}
def WH.P1.tp (h:c.P1 w)(T:lM)(n:Nat):c.P1 (Tt.tp w T n):=⟨h.1.tp T n,h.2.1.tp T n,h.2.2⟩
def fC.maps (v v':fC):Prop:=v'.pC=v.pC/\v'.pO=v.pO/\v'.pM=v.pM
def zva:Ir lT=true:=aT
def zHn:Nf lT [5,6,7,10]=true:=aT
def zFw:lT.toList.map (·.dst)=[some 40,some 41,some 42,some 43,some 44,some 45,some 46,some 47,some 48,some 49,none]:=rfl
def zDw:lT.toList=[zvs,zrh,zqj,znT,zvm,zsf,ziN,zw9,zps,zvo,zic]:=rfl
def Ic (hb gh gq q:Nat)(sA:aF)(i:Nat):Value:=([.pointer (some ⟨hb,0,none⟩),.pointer (some ⟨hb,0,none⟩),.pointer (some ⟨hb,0,none⟩),.pointer (some ⟨hb,3,none⟩),sA,aA,aA,aA,.pointer (some ⟨hb,0,none⟩),.pointer (some ⟨hb,3,none⟩),aA]:List aF).getD i aA
variable {V:Nat->aF}{Tf:Array aF}{s:Nat}
theorem bsRL (hT:xO Tf V)(e:V 45=.chan (some s)):(aO (bJ Tf []).eval ziN).run aK w=.ok (.value (.slice (some ⟨w.heap.size,0,none⟩) 1 1)) (w.alloc (.cells #[.chan (some s)] 84)):=by
 unfold aO;go_simp
variable {sA:aF}{T:lM}
theorem stRL {hb q1 n q2:Nat}(hT:xO Tf V)(e1:V 49=.pointer (some ⟨hb,3,none⟩))(e2:V 47=.slice (some ⟨q1,0,none⟩) n q2)(hh:w.cell? ⟨hb,3,none⟩=some sA)(hf:w.frozen? ⟨hb,3,none⟩=false):(aO (bJ Tf []).eval zic).run aK (Tt.tp w T 0)=.ok .skip (Tt.tp (w.setCell ⟨hb,3,none⟩ (.slice (some ⟨q1,0,none⟩) n q2)) T 0):=by
 have zdK:(Tt.tp w T 0).cell? ⟨hb,3,none⟩=some sA:=hh;have El:(Tt.tp w T 0).frozen? ⟨hb,3,none⟩=false:=hf;clear hh hf;unfold aO;go_simp
 try rfl
def WH.RdRL (c:WH)(w:aE):Prop:=w.cell? ⟨c.hb,3,none⟩=some c.v.sL/\w.heap[c.gh]? =some (.cells #[.pointer (some ⟨c.hb,0,none⟩)] 63)
def WH.RL2 (c:WH)(g:Nat)(w:aE):Prop:=∃v2,bE w c.lo c.hb v2 {c.d with ln:=c.d.ln++[g]}/\bP c.hb c.v0 c.w0 v2 w/\c.v.maps v2
variable {g:Nat}
theorem WH.RL2.tp (h:c.RL2 g w)(T:lM)(n:Nat):c.RL2 g (Tt.tp w T n):=by
 obtain⟨v1,a,d,e⟩:=h;exact⟨v1,a.tp T n,d.tp T n,e⟩
def WH.StRL (c:WH)(vs:List aF)(w':aE):Prop:=match vs with
 |[]=>c.P1 w'/\∀x∈c.d.ln,x<w'.heap.size
 |[a]=>∃g,a=.chan (some g)/\(∀x∈c.d.ln,x<g)/\g<w'.heap.size/\c.P1 w'
 |[a,b]=>∃g q,b=.slice (some ⟨q,0,none⟩) 1 1/\w'.heap[q]? =some (.cells #[.chan (some g)] 84)/\(∀x∈c.d.ln,x<g)/\g<w'.heap.size/\c.P1 w'
 |[a,b,x]=>∃g q1 q2,x=.slice (some ⟨q1,0,none⟩) (c.d.ln.length+1) q2/\w'.frozen? ⟨c.hb,3,none⟩=false/\(∀x∈c.d.ln,x<g)/\g<w'.heap.size/\c.RL2 g (w'.setCell ⟨c.hb,3,none⟩ x)
 |_=>∃g,(∀x∈c.d.ln,x<g)/\g<w'.heap.size/\c.RL2 g w'
section
variable {Post:aF->aE->Prop}{Shun:Loc->Prop}{W0:aE}{St:Nat->Prop}{R0:Pr}{base:List dJ}
def SRL (Post:aF->aE->Prop)(Shun:Loc->Prop)(W0:aE)(St:Nat->Prop)(R0:Pr)(base:List dJ)(c:WH)(K0:Pr)(vs:List aF)(C':Cx Unit)(l':Unit)(w':aE):Prop:=∃K',K0.le K'/\C'=Fh aK C7 fT Post Shun W0 St K' R0 base/\(vs.length<4->c.RdRL w')/\c.StRL vs w'
variable {c:WH}
theorem SRL.tp {K0:Pr}(vs:List aF)(C':Cx Unit)(l':Unit)(w':aE)(T:lM)(n:Nat)(h:SRL Post Shun W0 St R0 base c K0 vs C' l' w'):SRL Post Shun W0 St R0 base c K0 vs C' l' (Tt.tp w' T n):=by
 obtain⟨K',h1,h2,h3,h4⟩:=h;refine⟨K',h1,h2,h3,?_⟩;rcases vs with _|⟨a,_|⟨b,_|⟨x,_|⟨y,vs⟩⟩⟩⟩
 .exact⟨h4.1.tp T n,h4.2⟩
 .obtain⟨g,a,b,d,e⟩:=h4
  exact⟨g,a,b,d,e.tp T n⟩
 .obtain⟨g,q,a,b,c,d,e⟩:=h4
  exact⟨g,q,a,b,c,d,e.tp T n⟩
 .obtain⟨g,q1,q2,a,b,c,d,e⟩:=h4
  exact⟨g,q1,q2,a,b,c,d,WH.RL2.tp (w:=w'.setCell _ _) e T n⟩
 .obtain⟨g,a,b,d⟩:=h4
  exact⟨g,a,b,d.tp T n⟩
theorem cw_RL {K:Pr}(yW:c.d.ln.length<=1000)(zgR:some c.gh∉parts c.v c.hb){t0:Array aF}{w:aE}{kk:List dS}(hz:t0.size=73)(Fp:t0.getD 7 aA=.pointer (some ⟨c.gh,0,none⟩))
 (hk:∀vs C' l' w',vs.length=4->SRL Post Shun W0 St R0 base c K vs C' l' w'->BO C' l' ⟨42,dF lT (VV [5,6,7,10] (Ic c.hb c.gh c.gq c.q c.v.sL) vs) t0,.inRegion lT []::kk,false⟩ w') (h0:SRL Post Shun W0 St R0 base c K [] (Fh aK C7 fT Post Shun W0 St K R0 base) () w):BO (Fh aK C7 fT Post Shun W0 St K R0 base) () ⟨42,t0,.code zcJ::kk,false⟩ w:=by
 rw[zDX];have KO:=Qw zva;refine BO.drawn (p:=aK) (gs:=C7) (fs:=fT) vN.mixed [5,6,7,10] (Ic c.hb c.gh c.gq c.q c.v.sL) (SRL Post Shun W0 St R0 base c K) (λvs C l w h=>by
  obtain⟨K',_,rfl,_⟩:=h;exact⟨dC,rfl,rfl,rfl,nD,λ_ _ _ _ _=>nM⟩) zva zHn Mb (λvs K l w T e h=>SRL.tp vs K l w T e h) (λi o ho hi=>?_) (λvs ci o C' l' w' hc ho hS t rest mE gD=>?_) hk h0
 .have hl:lT.toList[i]? =some o:=by rw[Cf];exact ho
  rw[zDw] at hl;have aU:i<11:=by have:=(lR.1 hl).1;simpa using this
  have tn:∀(vs:List aF) {j:Nat} {oj:aZ} {s:Tmp} {v:aF},lT[j]? =some oj->oj.dst=some s->s<t0.size->VV [5,6,7,10] (Ic c.hb c.gh c.gq c.q c.v.sL) vs j=v->(dF lT (VV [5,6,7,10] (Ic c.hb c.gh c.gq c.q c.v.sL) vs) t0).getD s aA=v:=λvs _ _ _ _ a b c d=>qF KO a b c d;have tq:∀(vs:List aF) {s:Tmp},Hl lT s=false->(dF lT (VV [5,6,7,10] (Ic c.hb c.gh c.gq c.q c.v.sL) vs) t0).getD s aA=t0.getD s undef:=λvs _ a=>zgr KO a;have Px:∀{vs:List aF} {C' l' w'},(SRL Post Shun W0 St R0 base c K) vs C' l' w'->vs.length<4->c.RdRL w':=λh hv=>by
   obtain⟨_,_,_,h,_⟩:=h;exact h hv
  rcases i with _|_|_|_|_|_|_|_|_|_|_|i
  .obtain rfl:=cJ hl
   exact⟨aT,λvs K' l' w' hv hS=>⟨dW rfl,rd2 (.pointer (some ⟨c.hb,0,none⟩)) ((tq vs aT).trans Fp) (aI (Px hS hv).2 0)⟩⟩
  .obtain rfl:=cJ hl
   exact⟨aT,λvs K' l' w' hv hS=>⟨dW rfl,rd2 (.pointer (some ⟨c.hb,0,none⟩)) ((tq vs aT).trans Fp) (aI (Px hS hv).2 0)⟩⟩
  .obtain rfl:=cJ hl
   exact⟨aT,λvs K' l' w' hv hS=>⟨dW rfl,uN (.pointer (some ⟨c.hb,0,none⟩)) (tn vs zCp rfl kG rfl)⟩⟩
  .obtain rfl:=cJ hl
   exact⟨aT,λvs K' l' w' hv hS=>⟨dW rfl,uN (.pointer (some ⟨c.hb,3,none⟩)) (tn vs zCj rfl kG rfl)⟩⟩
  .obtain rfl:=cJ hl
   exact⟨aT,λvs K' l' w' hv hS=>⟨dW rfl,rd2 (c.v.sL) (tn vs zDR rfl kG rfl) (Px hS hv).1⟩⟩
  .exact absurd aH hi
  .exact absurd aH hi
  .exact absurd aH hi
  .obtain rfl:=cJ hl
   exact⟨aT,λvs K' l' w' hv hS=>⟨dW rfl,uN (.pointer (some ⟨c.hb,0,none⟩)) (tn vs zzh rfl kG rfl)⟩⟩
  .obtain rfl:=cJ hl
   exact⟨aT,λvs K' l' w' hv hS=>⟨dW rfl,uN (.pointer (some ⟨c.hb,3,none⟩)) (tn vs zIh rfl kG rfl)⟩⟩
  .exact absurd aH hi
  .omega
 .rcases vs with _|⟨a,_|⟨b,_|⟨c',_|⟨d',vs⟩⟩⟩⟩
  .obtain rfl:5=ci:=by simpa using hc
   rw[zkD] at ho;obtain rfl:=cJ ho;obtain⟨K',hK,rfl,hR,⟨s1,s2⟩⟩:=hS;obtain⟨ie,jS⟩:=zB6;refine BO.makeK dC zkD (dW rfl) rfl Tryz.underlying84 jS (λ_ _=>nM) (I':=λ_=>IA W0 St Shun R0) (λR τ W hi ht aU=>?_) (λg=>?_)
   .have hi:IA W0 St Shun R0 R τ W:=hi
    have sz:(W.alloc (.chan 0 #[] false 0 0 false)).heap.size=W.heap.size+1:=rC _ _;have hz:=hi.kp.size;exact⟨⟨hi.kp.os,hi.kp.tape,hi.kp.output,by rw[sz];omega,λb hb=>(C4 aC).trans (hi.kp.block b hb),hi.kp.old⟩,⟨hi.sh.old,hi.sh.rel,λl b hl hb=>hi.sh.new l b hl (by rw[sz] at hb;omega)⟩,hi.still,hi.le⟩
   .exact gD _ _ _ _ ⟨K'.add w'.heap.size g,vU hK (Pr.le_add _ _ _),rfl,λ_=>⟨Aw (hR aQ).1 _,dD (hR aQ).2 _⟩,w'.heap.size,rfl,s2,by rw[rC];exact yE _,s1.1.alloc _,s1.2.1.trans (bP.below (eD (fN _ _) _)),eM s1.2.2 (by rw[rC];exact zeC _)⟩
  .obtain rfl:6=ci:=by simpa using hc
   rw[zfM] at ho;obtain rfl:=cJ ho;obtain⟨K',hK,rfl,hR,g,rfl,s2,s3,z3,z5,s6⟩:=hS;have V1:(dF lT (VV [5,6,7,10] (Ic c.hb c.gh c.gq c.q c.v.sL) [.chan (some g)]) t0).getD 45 aA=.chan (some g):=qF KO zkD rfl kG rfl;refine BO.op nD dC zfM (dW rfl) aT (λs hs=>nM) (λT=>⟨.slice (some ⟨w'.heap.size,0,none⟩) 1 1,(Tt.tp w' T 0).alloc (.cells #[.chan (some g)] 84),.inl ?_,?_⟩)
   .rw[F0 (KO.sel 6 _ zfM) mE]
    have hT:xO (dF lT (VV [5,6,7,10] (Ic c.hb c.gh c.gq c.q c.v.sL) [.chan (some g)]) t0) (λs=>(dF lT (VV [5,6,7,10] (Ic c.hb c.gh c.gq c.q c.v.sL) [.chan (some g)]) t0).getD s aA):=λs=>rfl;exact bsRL hT V1
   .have al:bP c.hb c.v w' c.v ((Tt.tp w' T 0).alloc (.cells #[.chan (some g)] 84)):=(bP.refl.tp T 0).trans (bP.below (eD (fN _ _) _))
    exact gD _ _ _ _ ⟨K',hK,rfl,λ_=>⟨Aw (hR aQ).1 _,dD (hR aQ).2 _⟩,g,_,rfl,gU _ _,s2,zhK s3 (by show _<((Tt.tp w' T 0).alloc _).heap.size;rw[rC];exact yE _),(z3.tp T 0).alloc _,z5.trans al,eM s6 zgs⟩
  .obtain rfl:7=ci:=by simpa using hc
   rw[zid] at ho;obtain rfl:=cJ ho;obtain⟨K',hK,rfl,hR,g,gs,rfl,zcC,s2,s3,z3,z5,s6⟩:=hS;have zln:=Hq mE (s:=44) aH (qF KO zzG rfl kG rfl);have zh3:=Hq mE (s:=46) aH (qF KO zfM rfl kG rfl);have zjN:some c.gh∉parts c.v c.hb:=zgR;refine BO.op nD dC zid (dW rfl) aT (λs hs=>nM) (λT=>?_);have a1:=z3.tp T 0;obtain⟨q1,q2,w5,fF,cZ,mQ,eU⟩:=M3 (w:=Tt.tp w' T 0) (t:=65) (ty:=65) info_ch Tryz.underlying65 rfl aH a1.L (g:=gs) (cs:=#[.chan (some g)]) (news:=[.chan (some g)]) zcC rfl (m:=1) rfl aH Mk aC aH s6;obtain⟨a6,t6⟩:=a1.putL mQ (xs:=c.d.ln++[g]) (by rw[zwV];exact cZ) aQ eU;have yN:=(a1.other (j:=1) (c:=3) (x:=c.v.sL) rfl aH mQ (.slice (some ⟨q1,0,none⟩) (c.d.ln.length+1) q2)).2.trans a1.blk;have Fa:w5.heap[c.gh]? =some _:=(mQ.block c.gh (iB (hR aQ).2) (λe=>zjN (dZ (i:=1) (show(parts c.v c.hb)[1]? =some (some c.gh) by rw[e];rfl)))).trans (hR aQ).2;have cK:w'.heap.size<=w5.heap.size:=mQ.size;refine⟨_,w5,.inl (Y8 rfl zln zh3 fF),gD _ _ _ _ ⟨K',hK,rfl,λ_=>⟨aI yN 3,Fa⟩,g,q1,q2,rfl,eO yN 3,s2,jW s3 cK,_,a6,z5.trans ((bP.refl.tp T 0).trans t6),rfl,rfl,rfl⟩⟩
  .obtain rfl:10=ci:=by simpa using hc
   rw[zmG] at ho;obtain rfl:=cJ ho;obtain⟨K',hK,rfl,hR,g,q1,q2,rfl,nQ,s2,s3,yY⟩:=hS;have V1:(dF lT (VV [5,6,7,10] (Ic c.hb c.gh c.gq c.q c.v.sL) [a,b,.slice (some ⟨q1,0,none⟩) (c.d.ln.length+1) q2]) t0).getD 47 aA=.slice (some ⟨q1,0,none⟩) (c.d.ln.length+1) q2:=qF KO zid rfl kG rfl;have V2:(dF lT (VV [5,6,7,10] (Ic c.hb c.gh c.gq c.q c.v.sL) [a,b,.slice (some ⟨q1,0,none⟩) (c.d.ln.length+1) q2]) t0).getD 49 aA=.pointer (some ⟨c.hb,3,none⟩):=qF KO zzp rfl kG rfl;refine BO.op nD dC zmG (dW rfl) aT (λs hs=>nM) (λT=>⟨aA,Tt.tp (w'.setCell ⟨c.hb,3,none⟩ (.slice (some ⟨q1,0,none⟩) (c.d.ln.length+1) q2)) T 0,.inr ⟨?_,rfl⟩,?_⟩)
   .rw[F0 (KO.sel 10 _ zmG) mE]
    have hT:xO (dF lT (VV [5,6,7,10] (Ic c.hb c.gh c.gq c.q c.v.sL) [a,b,.slice (some ⟨q1,0,none⟩) (c.d.ln.length+1) q2]) t0) (λs=>(dF lT (VV [5,6,7,10] (Ic c.hb c.gh c.gq c.q c.v.sL) [a,b,.slice (some ⟨q1,0,none⟩) (c.d.ln.length+1) q2]) t0).getD s aA):=λs=>rfl;exact stRL hT V2 V1 (hR aQ).1 nQ
   .exact gD aA _ _ _ ⟨K',hK,rfl,λh=>absurd h aQ,g,s2,(by show g<(w'.setCell _ _).heap.size;rw[Sj];exact s3),WH.RL2.tp yY T 0⟩
  .simp at hc
end
def zuS:Ir lI=true:=aT
def zHb:Nf lI [6,7,10]=true:=aT
def zwC:lI.toList.map (·.dst)=[some 56,some 57,some 58,some 59,some 60,some 61,some 62,some 63,some 64,some 65,none]:=rfl
def zEJ:lI.toList=[zuK,zsK,znY,zv9,zrn,zn1,zmU,zn8,zv0,zs6,znf]:=rfl
def G7 (hb gh gq q:Nat)(sA:aF)(i:Nat):Value:=([.pointer (some ⟨hb,0,none⟩),.pointer (some ⟨hb,0,none⟩),.pointer (some ⟨hb,0,none⟩),.pointer (some ⟨hb,6,none⟩),sA,.chan (some q),aA,aA,.pointer (some ⟨hb,0,none⟩),.pointer (some ⟨hb,6,none⟩),aA]:List aF).getD i aA
theorem bsRQ (hT:xO Tf V)(e:V 61=.chan (some s)):(aO (bJ Tf []).eval zmU).run aK w=.ok (.value (.slice (some ⟨w.heap.size,0,none⟩) 1 1)) (w.alloc (.cells #[.chan (some s)] 95)):=by
 unfold aO;go_simp
theorem stRQ {hb q1 n q2:Nat}(hT:xO Tf V)(e1:V 65=.pointer (some ⟨hb,6,none⟩))(e2:V 63=.slice (some ⟨q1,0,none⟩) n q2)(hh:w.cell? ⟨hb,6,none⟩=some sA)(hf:w.frozen? ⟨hb,6,none⟩=false):(aO (bJ Tf []).eval znf).run aK (Tt.tp w T 0)=.ok .skip (Tt.tp (w.setCell ⟨hb,6,none⟩ (.slice (some ⟨q1,0,none⟩) n q2)) T 0):=by
 have zdK:(Tt.tp w T 0).cell? ⟨hb,6,none⟩=some sA:=hh;have El:(Tt.tp w T 0).frozen? ⟨hb,6,none⟩=false:=hf;clear hh hf;unfold aO;go_simp
 try rfl
def WH.RdRQ (c:WH)(w:aE):Prop:=w.cell? ⟨c.hb,6,none⟩=some c.v.sQ/\w.heap[c.gh]? =some (.cells #[.pointer (some ⟨c.hb,0,none⟩)] 63)/\w.heap[c.gq]? =some (.cells #[.chan (some c.q)] 95)
def WH.RQ2 (c:WH)(g:Nat)(w:aE):Prop:=∃v2,bE w c.lo c.hb v2 {c.d with qn:=c.d.qn++[g]}/\bP c.hb c.v0 c.w0 v2 w/\c.v.maps v2
theorem WH.RQ2.tp (h:c.RQ2 g w)(T:lM)(n:Nat):c.RQ2 g (Tt.tp w T n):=by
 obtain⟨v1,a,d,e⟩:=h;exact⟨v1,a.tp T n,d.tp T n,e⟩
def WH.StRQ (c:WH)(vs:List aF)(w':aE):Prop:=match vs with
 |[]=>c.P1 w'
 |[b]=>(∃q,b=.slice (some ⟨q,0,none⟩) 1 1/\w'.heap[q]? =some (.cells #[.chan (some c.q)] 95))/\c.P1 w'
 |[b,x]=>(∃q1 q2,x=.slice (some ⟨q1,0,none⟩) (c.d.qn.length+1) q2)/\w'.frozen? ⟨c.hb,6,none⟩=false/\c.RQ2 c.q (w'.setCell ⟨c.hb,6,none⟩ x)
 |_=>c.RQ2 c.q w'
section
def SRQ {L:Type}(c:WH)(C:Cx L)(l:L)(vs:List aF)(C':Cx L)(l':L)(w':aE):Prop:=C'=C/\l'=l/\(vs.length<3->c.RdRQ w')/\c.StRQ vs w'
variable {L:Type}{c:WH}
theorem SRQ.tp {C:Cx L}{l:L}(vs:List aF)(C':Cx L)(l':L)(w':aE)(T:lM)(n:Nat)(h:SRQ c C l vs C' l' w'):SRQ c C l vs C' l' (Tt.tp w' T n):=by
 obtain⟨h1,h2,h3,h4⟩:=h;refine⟨h1,h2,h3,?_⟩;rcases vs with _|⟨b,_|⟨x,_|⟨y,vs⟩⟩⟩
 .exact h4.tp T n
 .exact⟨h4.1,h4.2.tp T n⟩
 .exact⟨h4.1,h4.2.1,WH.RQ2.tp (w:=w'.setCell _ _) h4.2.2 T n⟩
 .exact h4.tp T n
theorem cw_RQ {C:Cx L}{l:L}(hI:eZ C)(hp:C.p=aK)(hg:C.gs=C7)(hf:C.fs=fT)(hF:vQ C.P C.fs)(hn:∀(i:Nat) (o:aZ) (s:Tmp),lI[i]? =some o->o.dst=some s->s∉C.S)(yW:c.d.qn.length<=1000)(zgR:some c.gh∉parts c.v c.hb)(zcP:some c.gq∉parts c.v c.hb){t0:Array aF}{w:aE}{kk:List dS}(hz:t0.size=73)(Fp:t0.getD 7 aA=.pointer (some ⟨c.gh,0,none⟩))(zkA:t0.getD 9 aA=.pointer (some ⟨c.gq,0,none⟩))
 (hk:∀vs C' l' w',vs.length=3->SRQ c C l vs C' l' w'->BO C' l' ⟨42,dF lI (VV [6,7,10] (G7 c.hb c.gh c.gq c.q c.v.sQ) vs) t0,.inRegion lI []::kk,false⟩ w') (h0:SRQ c C l [] C l w):BO C l ⟨42,t0,.code Oi::kk,false⟩ w:=by
 rw[zyo];have KO:=Qw zuS;refine BO.drawn (p:=aK) (gs:=C7) (fs:=fT) vN.mixed [6,7,10] (G7 c.hb c.gh c.gq c.q c.v.sQ) (SRQ c C l) (λvs C l w h=>by
  obtain⟨rfl,rfl,_⟩:=h;exact⟨hI,hp,hg,hf,hF,hn⟩) zuS zHb Mb (λvs K l w T e h=>SRQ.tp vs K l w T e h) (λi o ho hi=>?_) (λvs ci o C' l' w' hc ho hS t rest mE gD=>?_) hk h0
 .have hl:lI.toList[i]? =some o:=by rw[Cf];exact ho
  rw[zEJ] at hl;have aU:i<11:=by have:=(lR.1 hl).1;simpa using this
  have tn:∀(vs:List aF) {j:Nat} {oj:aZ} {s:Tmp} {v:aF},lI[j]? =some oj->oj.dst=some s->s<t0.size->VV [6,7,10] (G7 c.hb c.gh c.gq c.q c.v.sQ) vs j=v->(dF lI (VV [6,7,10] (G7 c.hb c.gh c.gq c.q c.v.sQ) vs) t0).getD s aA=v:=λvs _ _ _ _ a b c d=>qF KO a b c d;have tq:∀(vs:List aF) {s:Tmp},Hl lI s=false->(dF lI (VV [6,7,10] (G7 c.hb c.gh c.gq c.q c.v.sQ) vs) t0).getD s aA=t0.getD s undef:=λvs _ a=>zgr KO a;have Px:∀{vs:List aF} {C' l' w'},(SRQ c C l) vs C' l' w'->vs.length<3->c.RdRQ w':=λh hv=>by
   obtain⟨_,_,h,_⟩:=h;exact h hv
  rcases i with _|_|_|_|_|_|_|_|_|_|_|i
  .obtain rfl:=cJ hl
   exact⟨aT,λvs K' l' w' hv hS=>⟨dW rfl,rd2 (.pointer (some ⟨c.hb,0,none⟩)) ((tq vs aT).trans Fp) (aI (Px hS hv).2.1 0)⟩⟩
  .obtain rfl:=cJ hl
   exact⟨aT,λvs K' l' w' hv hS=>⟨dW rfl,rd2 (.pointer (some ⟨c.hb,0,none⟩)) ((tq vs aT).trans Fp) (aI (Px hS hv).2.1 0)⟩⟩
  .obtain rfl:=cJ hl
   exact⟨aT,λvs K' l' w' hv hS=>⟨dW rfl,uN (.pointer (some ⟨c.hb,0,none⟩)) (tn vs zAn rfl kG rfl)⟩⟩
  .obtain rfl:=cJ hl
   exact⟨aT,λvs K' l' w' hv hS=>⟨dW rfl,uN (.pointer (some ⟨c.hb,6,none⟩)) (tn vs zDx rfl kG rfl)⟩⟩
  .obtain rfl:=cJ hl
   exact⟨aT,λvs K' l' w' hv hS=>⟨dW rfl,rd2 (c.v.sQ) (tn vs zzV rfl kG rfl) (Px hS hv).1⟩⟩
  .obtain rfl:=cJ hl
   exact⟨aT,λvs K' l' w' hv hS=>⟨dW rfl,rd2 (.chan (some c.q)) ((tq vs aT).trans zkA) (aI (Px hS hv).2.2 0)⟩⟩
  .exact absurd aH hi
  .exact absurd aH hi
  .obtain rfl:=cJ hl
   exact⟨aT,λvs K' l' w' hv hS=>⟨dW rfl,uN (.pointer (some ⟨c.hb,0,none⟩)) (tn vs zDM rfl kG rfl)⟩⟩
  .obtain rfl:=cJ hl
   exact⟨aT,λvs K' l' w' hv hS=>⟨dW rfl,uN (.pointer (some ⟨c.hb,6,none⟩)) (tn vs zGv rfl kG rfl)⟩⟩
  .exact absurd aH hi
  .omega
 .rcases vs with _|⟨a,_|⟨b,_|⟨c',vs⟩⟩⟩
  .obtain rfl:6=ci:=by simpa using hc
   rw[zbS] at ho;obtain rfl:=cJ ho;obtain⟨rfl,rfl,hR,z3,z5,s6⟩:=hS;have V1:(dF lI (VV [6,7,10] (G7 c.hb c.gh c.gq c.q c.v.sQ) []) t0).getD 61 aA=.chan (some c.q):=qF KO zAR rfl kG rfl;refine BO.op hF hI zbS (dW rfl) zm2 (λs hs=>hn 6 _ s zbS hs) (λT=>⟨.slice (some ⟨w'.heap.size,0,none⟩) 1 1,(Tt.tp w' T 0).alloc (.cells #[.chan (some c.q)] 95),.inl ?_,?_⟩)
   .rw[hp]
    rw[F0 (KO.sel 6 _ zbS) mE];have hT:xO (dF lI (VV [6,7,10] (G7 c.hb c.gh c.gq c.q c.v.sQ) []) t0) (λs=>(dF lI (VV [6,7,10] (G7 c.hb c.gh c.gq c.q c.v.sQ) []) t0).getD s aA):=λs=>rfl;exact bsRQ hT V1
   .have al:bP c.hb c.v w' c.v ((Tt.tp w' T 0).alloc (.cells #[.chan (some c.q)] 95)):=(bP.refl.tp T 0).trans (bP.below (eD (fN _ _) _))
    exact gD _ _ _ _ ⟨rfl,rfl,λ_=>⟨Aw (hR aQ).1 _,dD (hR aQ).2.1 _,dD (hR aQ).2.2 _⟩,⟨_,rfl,gU _ _⟩,(z3.tp T 0).alloc _,z5.trans al,eM s6 zgs⟩
  .obtain rfl:7=ci:=by simpa using hc
   rw[zel] at ho;obtain rfl:=cJ ho;obtain⟨rfl,rfl,hR,⟨gs,rfl,zcC⟩,z3,z5,s6⟩:=hS;have zln:=Hq mE (s:=60) aH (qF KO zyx rfl kG rfl);have zh3:=Hq mE (s:=62) aH (qF KO zbS rfl kG rfl);have zjN:some c.gh∉parts c.v c.hb:=zgR;have zIc:some c.gq∉parts c.v c.hb:=zcP;refine BO.op hF hI zel (dW rfl) zm2 (λs hs=>hn 7 _ s zel hs) (λT=>?_);have a1:=z3.tp T 0;obtain⟨q1,q2,w5,fF,cZ,mQ,eU⟩:=M3 (w:=Tt.tp w' T 0) (t:=68) (ty:=68) info_cq Tryz.underlying68 rfl aH a1.Q (g:=gs) (cs:=#[.chan (some c.q)]) (news:=[.chan (some c.q)]) zcC rfl (m:=1) rfl aH Mk aC aH s6;obtain⟨a6,t6⟩:=a1.putQ mQ (xs:=c.d.qn++[c.q]) (by rw[zwV];exact cZ) aQ eU;have yN:=(a1.other (j:=4) (c:=6) (x:=c.v.sQ) rfl aH mQ (.slice (some ⟨q1,0,none⟩) (c.d.qn.length+1) q2)).2.trans a1.blk;have Fa:w5.heap[c.gh]? =some _:=(mQ.block c.gh (iB (hR aQ).2.1) (λe=>zjN (dZ (i:=4) (show(parts c.v c.hb)[4]? =some (some c.gh) by rw[e];rfl)))).trans (hR aQ).2.1;have C9:w5.heap[c.gq]? =some _:=(mQ.block c.gq (iB (hR aQ).2.2) (λe=>zIc (dZ (i:=4) (show(parts c.v c.hb)[4]? =some (some c.gq) by rw[e];rfl)))).trans (hR aQ).2.2;refine⟨_,w5,.inl (by rw[hp];exact Y8 rfl zln zh3 fF),gD _ _ _ _ ⟨rfl,rfl,λ_=>⟨aI yN 6,Fa,C9⟩,⟨q1,q2,rfl⟩,eO yN 6,_,a6,z5.trans ((bP.refl.tp T 0).trans t6),rfl,rfl,rfl⟩⟩
  .obtain rfl:10=ci:=by simpa using hc
   rw[zfb] at ho;obtain rfl:=cJ ho;obtain⟨rfl,rfl,hR,⟨q1,q2,rfl⟩,nQ,yY⟩:=hS;have V1:(dF lI (VV [6,7,10] (G7 c.hb c.gh c.gq c.q c.v.sQ) [a,.slice (some ⟨q1,0,none⟩) (c.d.qn.length+1) q2]) t0).getD 63 aA=.slice (some ⟨q1,0,none⟩) (c.d.qn.length+1) q2:=qF KO zel rfl kG rfl;have V2:(dF lI (VV [6,7,10] (G7 c.hb c.gh c.gq c.q c.v.sQ) [a,.slice (some ⟨q1,0,none⟩) (c.d.qn.length+1) q2]) t0).getD 65 aA=.pointer (some ⟨c.hb,6,none⟩):=qF KO zCF rfl kG rfl;refine BO.op hF hI zfb (dW rfl) zm2 (λs hs=>hn 10 _ s zfb hs) (λT=>⟨aA,Tt.tp (w'.setCell ⟨c.hb,6,none⟩ (.slice (some ⟨q1,0,none⟩) (c.d.qn.length+1) q2)) T 0,.inr ⟨?_,rfl⟩,?_⟩)
   .rw[hp]
    rw[F0 (KO.sel 10 _ zfb) mE];have hT:xO (dF lI (VV [6,7,10] (G7 c.hb c.gh c.gq c.q c.v.sQ) [a,.slice (some ⟨q1,0,none⟩) (c.d.qn.length+1) q2]) t0) (λs=>(dF lI (VV [6,7,10] (G7 c.hb c.gh c.gq c.q c.v.sQ) [a,.slice (some ⟨q1,0,none⟩) (c.d.qn.length+1) q2]) t0).getD s aA):=λs=>rfl;exact stRQ hT V2 V1 (hR aQ).1 nQ
   .exact gD aA _ _ _ ⟨rfl,rfl,λh=>absurd h aQ,WH.RQ2.tp yY T 0⟩
  .simp at hc
end
end Go.Proofs.YtfcjiloojkjaeaaGreatDoor
namespace Go.Proofs.YtfcjiloojkjaeaaGreatDoor
open Go.RowKit
theorem zjs (o:gG)(w:aE):
 iR aK 33 #[.agg #[.int .i64 o.ln,.int .i64 o.op,.int .i64 o.pt]] w λx w'=>x=.returned (.bool (rV o))/\cD w.heap.size w w':=by
 go_enter Tryz.func33,Tryz.ntmps33
 go_wp2
 all_goals go_ret
 all_goals refine⟨U4 ?_,((fN _ _).alloc (bN _) _)⟩
 all_goals rw[Mx]
 all_goals simp[rV,inB] at*
 all_goals grind
theorem zrX (e:dX)(ops:Int)(w:aE)(ho:1<=ops/\ops<=4):
 iR aK 52 #[.agg #[.string e.k,.int .i64 e.a,.int .i64 e.b],.int .i64 ops] w λx w'=>x=.returned (.bool (qX ops e))/\cD w.heap.size w w':=by
 obtain⟨zE,zcu⟩:=ho
 go_enter Tryz.func52,Tryz.ntmps52
 go_wp2
 all_goals go_ret
 all_goals refine⟨U4 ?_,((fN _ _).alloc (bN _) _)⟩
 all_goals rw[Mx]
 all_goals simp[qX,Lm,inB,Bt,Eg,F7,C8,zc2] at*
 all_goals grind
end Go.Proofs.YtfcjiloojkjaeaaGreatDoor
namespace Go.Proofs.YtfcjiloojkjaeaaGreatDoor
open Go.RowKit Go.Mt Go.Conc Go.Tt Go.Maps Go.Conc.Lib Go.ConcR.Gen
open Go.ConcR (KK wgBlock WgAt stA smA rd wr)
structure oJ (wB:aE)(lo go ge n c:Nat)(A:Option bD)(o:gG)(es:List dX)(w:aE):Prop where
 lo_:lo<=w.heap.size
 tab:Bd lo w
 ev:cM w 0 lo 3 A n c (sY es)
 gol:go<lo
 gel:ge<lo
 bo:w.heap[go]? =some (.cells #[.int .i64 o.ln,.int .i64 o.op,.int .i64 o.pt] 29)
 be:w.heap[ge]? =some (.cells #[.slice A n c] 31)
 old:∀b,b<lo->w.heap[b]? =wB.heap[b]?
section
variable {lo go ge n c:Nat}{A:Option bD}{o:gG}{es:List dX}{wB w w':aE}
def oJ.keep (h:oJ wB lo go ge n c A o es w)(hs:w.heap.size<=w'.heap.size)(k:∀b,b<lo->w'.heap[b]? =w.heap[b]?):oJ wB lo go ge n c A o es w':=
 ⟨eM h.lo_ hs,h.tab.keep k,h.ev.keep hs λb _ q _=>k b q,h.gol,h.gel,(k _ h.gol).trans h.bo,(k _ h.gel).trans h.be,λb hb=>(k b hb).trans (h.old b hb)⟩
def oJ.below (h:oJ wB lo go ge n c A o es w)(k:cD w.heap.size w w'):oJ wB lo go ge n c A o es w':=h.keep k.size λb hb=>k.block b (jW hb h.lo_)
def oJ.tp (h:oJ wB lo go ge n c A o es w)(T:lM)(e:Nat):oJ wB lo go ge n c A o es (Tt.tp w T e):=h.keep (bN _) λ_ _=>rfl
end
structure oS (wB:aE)(lo go ge n c:Nat)(A:Option bD)(o:gG)(es:List dX)(hb gh:Nat)(ln qn:List Nat)(v:fC)(w:aE):Prop where
 e:oJ wB lo go ge n c A o es w
 at_:bE w lo hb v ⟨lY o,ln,qn,[]⟩
 mp:v.pC=[]/\v.pO=[]/\v.pM=[]
 nd:ln.Nodup
 lt:∀x∈ln,x<w.heap.size
 bh:w.heap[gh]? =some (.cells #[.pointer (some ⟨hb,0,none⟩)] 63)
 nh:some gh∉parts v hb
 ghl:lo<=gh
section
variable {lo go ge n c hb gh:Nat}{A:Option bD}{o:gG}{es:List dX}{ln qn zeQ zgz:List Nat}{v v':fC}{wB w w':aE}
theorem oS.turn (h:oS wB lo go ge n c A o es hb gh ln qn v w)(t:bP hb v w v' w')(a:bE w' lo hb v' ⟨lY o,zeQ,zgz,[]⟩)(m:v.maps v')(hn:zeQ.Nodup)(hl:∀x∈zeQ,x<w'.heap.size):oS wB lo go ge n c A o es hb gh zeQ zgz v' w':=by
 obtain⟨b1,b2⟩:=h.at_.turned t h.bh h.nh;refine⟨h.e.keep t.size λb bZ=>t.block b (jW bZ h.e.lo_) λhp=>?_,a,⟨m.1.trans h.mp.1,m.2.1.trans h.mp.2.1,m.2.2.trans h.mp.2.2⟩,hn,hl,b1,b2,h.ghl⟩;have:=(h.at_.lt b hp).1;omega
def oS.below (h:oS wB lo go ge n c A o es hb gh ln qn v w)(k:cD w.heap.size w w'):oS wB lo go ge n c A o es hb gh ln qn v w':=
 h.turn (bP.below k) (h.at_.below k) ⟨rfl,rfl,rfl⟩ h.nd λx hx=>jW (h.lt x hx) k.size
def oS.tp (h:oS wB lo go ge n c A o es hb gh ln qn v w)(T:lM)(e:Nat):oS wB lo go ge n c A o es hb gh ln qn v (Tt.tp w T e):=⟨h.e.tp T e,h.at_.tp T e,h.mp,h.nd,h.lt,h.bh,h.nh,h.ghl⟩
theorem oS.mr (h:oS wB lo go ge n c A o es hb gh ln qn v w):fX v ⟨lY o,ln,qn,[]⟩:=by
 obtain⟨h1,h2,h3⟩:=h.mp;refine⟨by simp_all,by rw[h2];exact Wl,by simp_all,λi g _=>?_,λc y hy=>?_,λc _ i x hx=>?_,λc y hy=>?_,λc _ i x hx=>?_⟩
 .rw[h1]
  refine⟨λx=>(by cases x),λ⟨j,x,hx,_⟩=>?_⟩;have hx:([]:List bO)[j]? =some x:=hx;simp at hx
 .rw[h2] at hy;cases hy
 .have hx:([]:List bO)[i]? =some x:=hx
  simp at hx
 .rw[h3] at hy;cases hy
 .have hx:([]:List bO)[i]? =some x:=hx
  simp at hx
end
def Xl:Go.Code:=.seq rRH11 (.seq (.cond (.tmp 39) .skip (.exit 2)) (.seq (.block 3 zcJ) rRH13))
def zc4:Go.Code:=.seq rRH4 (.seq (.cond (.tmp 21) .skip (.exit 0)) (.seq (.block 1 (.seq rRH5 (.seq rRH6 (.cond (.tmp 28) (.seq rRH7 .ret) .skip)))) rRH8))
section
variable {Post:aF->aE->Prop}{Shun:Loc->Prop}{W0:aE}{St:Nat->Prop}{R0:Pr}{base:List dJ}{wB:aE}{lo go ge n c hb gh:Nat}{A:Option bD}{o:gG}{es:List dX}
abbrev rhC (Post:aF->aE->Prop)(Shun:Loc->Prop)(W0:aE)(St:Nat->Prop)(R0:Pr)(base:List dJ)(K:Pr):Cx Unit:=Fh aK C7 fT Post Shun W0 St K R0 base
theorem rh_lines {kk:List dS}(h6:o.ln<=6)(K0:Pr)(zak:∀K w v ln u0 u1 u4 u5 u6 u8 u9 gS gF gE fZ fY gA u16 hY kH kO jH gT iA gY gZ iG iM gV iF iE jE jD u32 iL iK iD iC iH iI iJ jB iO iV iQ jA iN iP iU iS iZ mU mY kV kS kN kP kD kQ kM jU j7 jZ u64 j9 jY j5 j6 kZ kK kF j8,K0.le K->oS wB lo go ge n c A o es hb gh ln [] v w->(ln.length:Int)=o.ln->BO (rhC Post Shun W0 St R0 base K) () ⟨42,#[u0,u1,.pointer (some ⟨go,0,none⟩),.pointer (some ⟨ge,0,none⟩),u4,u5,u6,.pointer (some ⟨gh,0,none⟩),u8,u9,gS,gF,gE,fZ,fY,gA,u16,hY,kH,kO,jH,gT,iA,gY,gZ,iG,iM,gV,iF,iE,jE,jD,u32,iL,iK,iD,iC,.int .i64 o.ln,.int .i64 o.ln,iH,iI,iJ,jB,iO,iV,iQ,jA,iN,iP,iU,iS,iZ,mU,mY,kV,kS,kN,kP,kD,kQ,kM,jU,j7,jZ,u64,j9,jY,j5,j6,kZ,kK,kF,j8],kk,false⟩ w):
 ∀(m k:Nat),((k+m:Nat):Int)=o.ln->∀(K:Pr) (w:aE) (v:fC) (ln:List Nat) (u0 u1 u4 u5 u6 u8 u9 gS gF gE fZ fY gA u16 hY kH kO jH gT iA gY gZ iG iM gV iF iE jE jD u32 iL iK iD iC iH iI iJ jB iO iV iQ jA iN iP iU iS iZ mU mY kV kS kN kP kD kQ kM jU j7 jZ u64 j9 jY j5 j6 kZ kK kF j8:aF),K0.le K->oS wB lo go ge n c A o es hb gh ln [] v w->ln.length=k->BO (rhC Post Shun W0 St R0 base K) () ⟨42,#[u0,u1,.pointer (some ⟨go,0,none⟩),.pointer (some ⟨ge,0,none⟩),u4,u5,u6,.pointer (some ⟨gh,0,none⟩),u8,u9,gS,gF,gE,fZ,fY,gA,u16,hY,kH,kO,jH,gT,iA,gY,gZ,iG,iM,gV,iF,iE,jE,jD,u32,iL,iK,iD,iC,.int .i64 o.ln,.int .i64 k,iH,iI,iJ,jB,iO,iV,iQ,jA,iN,iP,iU,iS,iZ,mU,mY,kV,kS,kN,kP,kD,kQ,kM,jU,j7,jZ,u64,j9,jY,j5,j6,kZ,kK,kF,j8],.code Xl:: .inLoop Xl:: .inBlock 2::kk,false⟩ w:=by
 intro m
 induction m with
 |zero=>
  intro k hk K w v ln u0 u1 u4 u5 u6 u8 u9 gS gF gE fZ fY gA u16 hY kH kO jH gT iA gY gZ iG iM gV iF iE jE jD u32 iL iK iD iC iH iI iJ jB iO iV iQ jA iN iP iU iS iZ mU mY kV kS kN kP kD kQ kM jU j7 jZ u64 j9 jY j5 j6 kZ kK kF j8 hK hR hl;have zR:(k:Int)=o.ln:=by simpa using hk
  have Hy:¬(k:Int)<o.ln:=aC;have HR:=aD hR;have HE:=aD zR;clear hR hk zR;unfold Xl;refine BO.seq dC ?_;refine BO.pV nD dC tY (λw1 T1 eG Q' dA=>?_);have jC:=aD (show oS wB lo go ge n c A o es hb gh ln [] v w1 by rw[eG];exact HR.o.tp T1 0);clear HR;clear eG;go_wp2;refine dA.o _ _ ?_;clear dA;refine BO.seq dC ?_;refine BO.cond dC (t:=false) rfl rfl ?_;refine BO.exit dC (k':=kk) rfl ?_;have zR:=HE.o;rw[zR];exact zak K _ v ln _ _ _ _ _ _ _ _ _ _ _ _ _ _ _ _ _ _ _ _ _ _ _ _ _ _ _ _ _ _ _ _ _ _ _ _ _ _ _ _ _ _ _ _ _ _ _ _ _ _ _ _ _ _ _ _ _ _ _ _ _ _ _ _ _ _ _ _ hK jC.o aC
 |succ m ih=>
  intro k hk K w v ln u0 u1 u4 u5 u6 u8 u9 gS gF gE fZ fY gA u16 hY kH kO jH gT iA gY gZ iG iM gV iF iE jE jD u32 iL iK iD iC iH iI iJ jB iO iV iQ jA iN iP iU iS iZ mU mY kV kS kN kP kD kQ kM jU j7 jZ u64 j9 jY j5 j6 kZ kK kF j8 hK hR hl;have Hy:(k:Int)<o.ln:=aC;have HR:=aD hR;have HK:=aD hk;clear hR hk;unfold Xl;refine BO.seq dC ?_;refine BO.pV nD dC tY (λw1 T1 eG Q' dA=>?_);have jC:=aD (show oS wB lo go ge n c A o es hb gh ln [] v w1 by rw[eG];exact HR.o.tp T1 0);clear HR;clear eG;go_wp2;refine dA.o _ _ ?_;clear dA;refine BO.seq dC ?_;refine BO.cond dC (t:=true) rfl rfl ?_;refine BO.skip dC ?_;refine BO.seq dC ?_;refine BO.block dC ?_;refine cw_RL (c:=⟨lo,hb,gh,0,0,v,w1,v,⟨lY o,ln,[],[]⟩⟩) (by show ln.length<=1000;omega) jC.o.nh rfl rfl (λvs C' l' w' tX hS=>?_) ⟨K,xU _,rfl,λ_=>⟨aI jC.o.at_.blk 3,jC.o.bh⟩,⟨jC.o.at_,bP.refl,jC.o.e.lo_⟩,jC.o.lt⟩;rw[Go.Mt.Ax,zFw];simp only[Go.Mt.xR,dV,dU];obtain⟨K',hle,rfl,_,h4⟩:=hS;have s4:∃g,(∀x∈ln,x<g)/\g<w'.heap.size/\WH.RL2 ⟨lo,hb,gh,0,0,v,w1,v,⟨lY o,ln,[],[]⟩⟩ g w':=by
   rcases vs with _|⟨a,_|⟨b,_|⟨x,_|⟨y,vs⟩⟩⟩⟩
   .cases tX
   .cases tX
   .cases tX
   .cases tX
   .exact h4
  obtain⟨g,s2,s3,v2,a2,t2,mp⟩:=s4;have rQ:K0.le K':=vU hK hle;have H5:oS wB lo go ge n c A o es hb gh (ln++[g]) [] v2 w':=jC.o.turn t2 a2 mp (by
   rw[List.nodup_append];refine⟨jC.o.nd,Cw.2 ⟨nM,Wl⟩,λa ha b bZ=>?_⟩;obtain rfl:=yT.1 bZ;have:=s2 a ha;omega) (λx hx=>by
   rcases C3.1 hx with hx|hx
   .exact zhK (s2 x hx) s3
   .obtain rfl:=yT.1 hx;exact s3)
  have jR:=aD H5;clear H5 a2 t2 mp s2 h4 tX jC;refine BO.regEnd dC ?_;refine BO.inBlock dC ?_;refine BO.pV nD dC tY (λw2 T2 eT Q' dA=>?_);have Lu:=aD (show oS wB lo go ge n c A o es hb gh (ln++[g]) [] v2 w2 by rw[eT];exact jR.o.tp T2 0);clear jR;clear eT;go_wp2;refine dA.o _ _ ?_;clear dA;refine BO.inLoop dC ?_;exact ih (k+1) (by have:=HK.o;omega) K' _ v2 (ln++[g]) _ _ _ _ _ _ _ _ _ _ _ _ _ _ _ _ _ _ _ _ _ _ _ _ _ _ _ _ _ _ _ _ _ _ _ _ _ _ _ _ _ _ _ _ _ _ _ _ _ _ _ _ _ _ _ _ _ _ _ _ _ _ _ _ _ _ _ _ rQ Lu.o (by rw[jP,hl];rfl)
end
section
variable {Post:aF->aE->Prop}{Shun:Loc->Prop}{W0:aE}{St:Nat->Prop}{R0:Pr}{base:List dJ}{K:Pr}{wB:aE}{lo go ge n c:Nat}{A:Option bD}{o:gG}{es:List dX}
theorem rh_valid {kk:List dS}(hop:1<=o.op/\o.op<=4)(zAN:n<=60)(Gf:es.length=n)
 (Rq:∀(T:Array aF) todo w,T.getD 4 aA=.pointer none->oJ wB lo go ge n c A o es w->es.all (qX o.op)=false->BO (rhC Post Shun W0 St R0 base K) () ⟨42,T,todo,true⟩ w)
 (zak:∀w jH u0 u1 u5 u6 u7 u8 u9 gS gF gE fZ fY gA u16 hY gT iA gY gZ iG iM gV iF iE jE jD u32 iL iK iD iC kE kL iH iI iJ jB iO iV iQ jA iN iP iU iS iZ mU mY kV kS kN kP kD kQ kM jU j7 jZ u64 j9 jY j5 j6 kZ kK kF j8,oJ wB lo go ge n c A o es w->es.all (qX o.op)=true->BO (rhC Post Shun W0 St R0 base K) () ⟨42,#[u0,u1,.pointer (some ⟨go,0,none⟩),.pointer (some ⟨ge,0,none⟩),.pointer none,u5,u6,u7,u8,u9,gS,gF,gE,fZ,fY,gA,u16,hY,.slice A n c,.int .i64 n,jH,gT,iA,gY,gZ,iG,iM,gV,iF,iE,jE,jD,u32,iL,iK,iD,iC,kE,kL,iH,iI,iJ,jB,iO,iV,iQ,jA,iN,iP,iU,iS,iZ,mU,mY,kV,kS,kN,kP,kD,kQ,kM,jU,j7,jZ,u64,j9,jY,j5,j6,kZ,kK,kF,j8],kk,false⟩ w):
 ∀(m k:Nat),k+m=n->∀(w:aE) (u0 u1 u5 u6 u7 u8 u9 gS gF gE fZ fY gA u16 hY gT iA gY gZ iG iM gV iF iE jE jD u32 iL iK iD iC kE kL iH iI iJ jB iO iV iQ jA iN iP iU iS iZ mU mY kV kS kN kP kD kQ kM jU j7 jZ u64 j9 jY j5 j6 kZ kK kF j8:aF),oJ wB lo go ge n c A o es w->(∀j,j<k->∀b,es[j]? =some b->qX o.op b=true)->BO (rhC Post Shun W0 St R0 base K) () ⟨42,#[u0,u1,.pointer (some ⟨go,0,none⟩),.pointer (some ⟨ge,0,none⟩),.pointer none,u5,u6,u7,u8,u9,gS,gF,gE,fZ,fY,gA,u16,hY,.slice A n c,.int .i64 n,.int .i64 k,gT,iA,gY,gZ,iG,iM,gV,iF,iE,jE,jD,u32,iL,iK,iD,iC,kE,kL,iH,iI,iJ,jB,iO,iV,iQ,jA,iN,iP,iU,iS,iZ,mU,mY,kV,kS,kN,kP,kD,kQ,kM,jU,j7,jZ,u64,j9,jY,j5,j6,kZ,kK,kF,j8],.code zc4:: .inLoop zc4:: .inBlock 0::kk,false⟩ w:=by
 intro m
 induction m with
 |zero=>
  intro k hk w u0 u1 u5 u6 u7 u8 u9 gS gF gE fZ fY gA u16 hY gT iA gY gZ iG iM gV iF iE jE jD u32 iL iK iD iC kE kL iH iI iJ jB iO iV iQ jA iN iP iU iS iZ mU mY kV kS kN kP kD kQ kM jU j7 jZ u64 j9 jY j5 j6 kZ kK kF j8 hE sN;have zR:n=k:=aC;subst zR;have Hy:¬(n:Int)<(n:Int):=aC;have HE:=aD hE;have HA:=aD sN;have HN:=aD Gf;clear hE sN Gf hk;unfold zc4;refine BO.seq dC ?_;refine BO.pV nD dC tY (λw1 T1 eG Q' dA=>?_);have cG:=aD (show oJ wB lo go ge n c A o es w1 by rw[eG];exact HE.o.tp T1 0);clear HE;clear eG;go_wp2;refine dA.o _ _ ?_;clear dA;refine BO.seq dC ?_;refine BO.cond dC (t:=false) rfl rfl ?_;refine BO.exit dC (k':=kk) rfl ?_;exact zak _ _ _ _ _ _ _ _ _ _ _ _ _ _ _ _ _ _ _ _ _ _ _ _ _ _ _ _ _ _ _ _ _ _ _ _ _ _ _ _ _ _ _ _ _ _ _ _ _ _ _ _ _ _ _ _ _ _ _ _ _ _ _ _ _ _ _ _ _ cG.o (allF_of HA.o (by rw[HN.o];exact bN _))
 |succ m ih=>
  intro k hk w u0 u1 u5 u6 u7 u8 u9 gS gF gE fZ fY gA u16 hY gT iA gY gZ iG iM gV iF iE jE jD u32 iL iK iD iC kE kL iH iI iJ jB iO iV iQ jA iN iP iU iS iZ mU mY kV kS kN kP kD kQ kM jU j7 jZ u64 j9 jY j5 j6 kZ kK kF j8 hE sN;have aU:k<n:=aC;have Hy:(k:Int)<(n:Int):=aC;have i0:(0:Int)<=(k:Int):=aC;have HE:=aD hE;have HA:=aD sN;have HN:=aD Gf;have HK:=aD hk;clear hE sN Gf hk;unfold zc4;refine BO.seq dC ?_;refine BO.pV nD dC tY (λw1 T1 eG Q' dA=>?_);have cG:=aD (show oJ wB lo go ge n c A o es w1 by rw[eG];exact HE.o.tp T1 0);clear HE;clear eG;go_wp2;refine dA.o _ _ ?_;clear dA;refine BO.seq dC ?_;refine BO.cond dC (t:=true) rfl rfl ?_;refine BO.skip dC ?_;refine BO.seq dC ?_;refine BO.block dC ?_;refine BO.seq dC ?_;obtain⟨be,oe,ev,hA,zCH,zhh,zl5,Fx,e0,e1,e2⟩:=cG.o.ev.eventsAt aU;subst hA;have Nn:=aD Fx;clear Fx;refine BO.pV nD dC tY (λw2 T2 eT Q' dA=>?_);have nK:=aD (show oJ wB lo go ge n c (some ⟨be,oe,none⟩) o es w2 by rw[eT];exact cG.o.tp T2 0);have Ya:w2.cell? ⟨be,oe+k*3,none⟩=some (.string ev.k):=by rw[eT];exact e0
  have wN:w2.cell? ⟨be,oe+k*3+1,none⟩=some (.int .i64 ev.a):=by rw[eT];exact e1
  have Fb:w2.cell? ⟨be,oe+k*3+2,none⟩=some (.int .i64 ev.b):=by rw[eT];exact e2
  clear e0 e1 e2;clear cG;clear eT;go_wp2;refine dA.o _ _ ?_;clear dA;clear Ya wN Fb;obtain⟨gb,eR⟩:=aP w2.heap.size;obtain⟨w3,iT⟩:=aP (w2.alloc (.cells #[.string ev.k,.int .i64 ev.a,.int .i64 ev.b] 54));have uQ:=aD (show oJ wB lo go ge n c (some ⟨be,oe,none⟩) o es w3 by rw[iT];exact nK.o.below (eD (fN _ _) _));have vO:=aD (show w3.heap[gb]? =some (.cells #[.string ev.k,.int .i64 ev.a,.int .i64 ev.b] 54) by rw[iT,eR];exact gU _ _);rw[<-eR,<-iT];clear iT eR nK;refine BO.seq dC ?_
  cases hv:qX o.op ev with
  |true=>
   refine BO.pV nD dC tY (λw4 T3 lS Q' dA=>?_);have zbg:=aD (show oJ wB lo go ge n c (some ⟨be,oe,none⟩) o es w4 by rw[lS];exact uQ.o.tp T3 0);have g0:w4.cell? ⟨gb,0,none⟩=some (.string ev.k):=by rw[lS];exact aI vO.o 0
   have g1:w4.cell? ⟨gb,1,none⟩=some (.int .i64 ev.a):=by rw[lS];exact aI vO.o 1
   have g2:w4.cell? ⟨gb,2,none⟩=some (.int .i64 ev.b):=by rw[lS];exact aI vO.o 2
   have o1:w4.cell? ⟨go,1,none⟩=some (.int .i64 o.op):=by rw[lS];exact aI uQ.o.bo 1
   have HV:=aD hv;clear uQ vO hv;clear lS
   go_wp2_with ((go_at_call 52;refine(zrX ev o.op _ hop).mono ?_;rintro e w' ⟨rfl,lL⟩))
   refine dA.o _ _ ?_;clear dA;clear g0 g1 g2 o1;have zbp:=aD (zbg.o.below lL);clear lL zbg;refine BO.cond dC (t:=false) rfl (by first|rfl|simp[vT,HV.o]) ?_;refine BO.skip dC ?_;refine BO.inBlock dC ?_;refine BO.pV nD dC tY (λw6 T6 pN Q' dA=>?_);have zmL:=aD (show oJ wB lo go ge n c (some ⟨be,oe,none⟩) o es w6 by rw[pN];exact zbp.o.tp T6 0);clear zbp;clear pN;go_wp2;refine dA.o _ _ ?_;clear dA;refine BO.inLoop dC ?_;exact ih (k+1) (by have:=HK.o;omega) _ _ _ _ _ _ _ _ _ _ _ _ _ _ _ _ _ _ _ _ _ _ _ _ _ _ _ _ _ _ _ _ _ _ _ _ _ _ _ _ _ _ _ _ _ _ _ _ _ _ _ _ _ _ _ _ _ _ _ _ _ _ _ _ _ _ _ _ zmL.o (zyt HA.o Nn.o HV.o)
  |false=>
   refine BO.pV nD dC tY (λw4 T3 lS Q' dA=>?_);have zbg:=aD (show oJ wB lo go ge n c (some ⟨be,oe,none⟩) o es w4 by rw[lS];exact uQ.o.tp T3 0);have g0:w4.cell? ⟨gb,0,none⟩=some (.string ev.k):=by rw[lS];exact aI vO.o 0
   have g1:w4.cell? ⟨gb,1,none⟩=some (.int .i64 ev.a):=by rw[lS];exact aI vO.o 1
   have g2:w4.cell? ⟨gb,2,none⟩=some (.int .i64 ev.b):=by rw[lS];exact aI vO.o 2
   have o1:w4.cell? ⟨go,1,none⟩=some (.int .i64 o.op):=by rw[lS];exact aI uQ.o.bo 1
   have HV:=aD hv;clear uQ vO hv;clear lS
   go_wp2_with ((go_at_call 52;refine(zrX ev o.op _ hop).mono ?_;rintro e w' ⟨rfl,lL⟩))
   refine dA.o _ _ ?_;clear dA;clear g0 g1 g2 o1;have zbp:=aD (zbg.o.below lL);clear lL zbg;refine BO.cond dC (t:=true) rfl (by first|rfl|simp[vT,HV.o]) ?_;refine BO.seq dC ?_;refine BO.pV nD dC tY (λw6 T6 pN Q' dA=>?_);have zmL:=aD (show oJ wB lo go ge n c (some ⟨be,oe,none⟩) o es w6 by rw[pN];exact zbp.o.tp T6 0);clear zbp;clear pN;go_wp2;refine dA.o _ _ ?_;clear dA;refine BO.ret dC ?_;exact Rq _ _ _ rfl zmL.o (zGu Nn.o HV.o)
end
variable {w w':aE}
theorem Ps (h:w'.heap=w.heap)(ht:qV w):qV w':=by
 unfold qV zfj zd7 at*;rw[h];exact ht
variable {lo:Nat}{w1:aE}
theorem Bd.of (h:qV w)(eB:w.heap.size<=lo)(hs:lo<=w1.heap.size)(k:∀b,b<w.heap.size->w1.heap[b]? =w.heap[b]?):Bd lo w1:=λw' hw=>by
 have hz:w.heap.size<=w'.heap.size:=by
  rcases uE w'.heap.size w.heap.size with h'|h'
  .grind
  .exact h'
 have hb:cD w.heap.size w {w' with os:=w.os,tape:=w.tape,output:=w.output}:=⟨rfl,rfl,rfl,hz,λb hb=>(hw b aC).trans (k b hb)⟩;exact Ps (w:={w' with os:=w.os,tape:=w.tape,output:=w.output}) rfl (zdN h _ hb)
def gQ (s:Nat):fC:=⟨.slice none 0 0,.slice none 0 0,.slice none 0 0,.slice none 0 0,.slice none 0 0,.slice none 0 0,.slice none 0 0,s,s+1,s+2,[],[],[]⟩
variable {b:Nat}
def zuU {x:Obj}(h:w.heap[b]? =some x)(o:Obj):(w.alloc o).heap[b]? =some x:=(cD.heap_alloc w o b (eE.1 h).1).trans h
theorem hall_new (eB:lo<=w.heap.size)(o:gG)(w5:aE)(h5:w5=((((w.alloc (.map #[] 0)).alloc (.map #[] 0)).alloc (.map #[] 0)).alloc (Nx (gQ w.heap.size) ⟨lY o,[],[],[]⟩)).alloc (.cells #[.pointer (some ⟨w.heap.size+3,0,none⟩)] 63)):
 bE w5 lo (w.heap.size+3) (gQ w.heap.size) ⟨lY o,[],[],[]⟩/\w5.heap[w.heap.size+4]? =some (.cells #[.pointer (some ⟨w.heap.size+3,0,none⟩)] 63)/\some (w.heap.size+4)∉parts (gQ w.heap.size) (w.heap.size+3)/\cD w.heap.size w w5:=by
 obtain⟨a1,Bu⟩:=aP (w.alloc (.map #[] 0));obtain⟨a2,zcf⟩:=aP (a1.alloc (.map #[] 0));obtain⟨a3,Vp⟩:=aP (a2.alloc (.map #[] 0));obtain⟨a4,Rc⟩:=aP (a3.alloc (Nx (gQ w.heap.size) ⟨lY o,[],[],[]⟩));rw[<-Bu,<-zcf,<-Vp,<-Rc] at h5;have z1:a1.heap.size=w.heap.size+1:=by rw[Bu];exact rC _ _
 have z2:a2.heap.size=w.heap.size+2:=by rw[zcf,rC,z1]
 have z3:a3.heap.size=w.heap.size+3:=by rw[Vp,rC,z2]
 have z4:a4.heap.size=w.heap.size+4:=by rw[Rc,rC,z3]
 have z5:w5.heap.size=w.heap.size+5:=by rw[h5,rC,z4]
 have k1:a1.heap[w.heap.size]? =some (.map #[] 0):=by rw[Bu];exact De _ _
 have k2:a2.heap[w.heap.size+1]? =some (.map #[] 0):=by rw[zcf,<-z1];exact De _ _
 have k3:a3.heap[w.heap.size+2]? =some (.map #[] 0):=by rw[Vp,<-z2];exact De _ _
 have k4:a4.heap[w.heap.size+3]? =some (Nx (gQ w.heap.size) ⟨lY o,[],[],[]⟩):=by rw[Rc,<-z3];exact De _ _
 have k5:w5.heap[w.heap.size+4]? =some (.cells #[.pointer (some ⟨w.heap.size+3,0,none⟩)] 63):=by rw[h5,<-z4];exact De _ _
 have u:∀{x y:aE} {b:Nat} {ob q:Obj},y=x.alloc q->x.heap[b]? =some ob->y.heap[b]? =some ob:=λe h=>by rw[e];exact zuU h _
 have m1:w5.heap[w.heap.size]? =some (.map #[] 0):=u h5 (u Rc (u Vp (u zcf k1)));have m2:w5.heap[w.heap.size+1]? =some (.map #[] 0):=u h5 (u Rc (u Vp k2));have m3:w5.heap[w.heap.size+2]? =some (.map #[] 0):=u h5 (u Rc k3);have m4:w5.heap[w.heap.size+3]? =some (Nx (gQ w.heap.size) ⟨lY o,[],[],[]⟩):=u h5 k4;have pp:∀(i b:Nat),(parts (gQ w.heap.size) (w.heap.size+3))[i]? =some (some b)->(i=0/\b=w.heap.size+3)\/(i=2/\b=w.heap.size)\/(i=3/\b=w.heap.size+1)\/(i=8/\b=w.heap.size+2):=λi b h=>by
  unfold parts gQ at h;rcases i with _|_|_|_|_|_|_|_|_|_|_|i<;>simp[aF.ownBlock] at h<;>omega
 refine⟨⟨m4,⟨aC,eB,by show lo<=w.heap.size+1;omega,by show lo<=w.heap.size+2;omega⟩,⟨rfl,.inl ⟨rfl,rfl⟩⟩,⟨rfl,.inl ⟨rfl,rfl⟩⟩,⟨rfl,.inl ⟨rfl,rfl⟩⟩,⟨rfl,.inl ⟨rfl,rfl⟩⟩,⟨rfl,.inl ⟨rfl,rfl⟩⟩,⟨rfl,.inl ⟨rfl,rfl⟩⟩,⟨rfl,.inl ⟨rfl,rfl⟩⟩,⟨_,_,m1,rfl⟩,⟨_,_,m2,rfl⟩,⟨_,_,m3,rfl⟩,λi j b hi hj=>?_⟩,k5,λhp=>?_,?_⟩
 .have:=pp i b hi;have:=pp j b hj;omega
 .obtain⟨i,hi⟩:=At.1 hp
  grind
 .subst h5;subst Rc;subst Vp;subst zcf;subst Bu
  exact eD (eD (eD (eD (eD (fN _ _) _) _) _) _) _
def G8:Go.Code:=.seq (.seq ziT (.block 4 (.loop (.seq ziJ (.seq (.cond (.tmp 54) .skip (.exit 4)) (.seq (.block 5 (.seq zam (.seq Oi (.seq Qr Uv)))) zkt)))))) (.seq X6 (.seq Vb (.seq Yj (.seq Tn .ret))))
section
variable {Post:aF->aE->Prop}{Shun:Loc->Prop}{W0:aE}{St:Nat->Prop}{R0:Pr}{base:List dJ}{K:Pr}{wB:aE}{lo go ge n c:Nat}{A:Option bD}{o:gG}{es:List dX}
theorem rh_made (Nc:rV o=true)(hgo:∀K' w v ln hb gh u0 u1 u4 u5 u6 u8 u9 gS gF gE fZ fY gA u16 hY kH kO jH gT iA gY gZ iG iM gV iF iE jE jD u32 iL iK iD iC kE kL iH iI iJ jB iO iV iQ jA iN iP iU iS iZ mU mY kV kS kN kP kD kQ kM jU j7 jZ u64 j9 jY j5 j6 kZ kK kF j8,K.le K'->oS wB lo go ge n c A o es hb gh ln [] v w->(ln.length:Int)=o.ln->BO (rhC Post Shun W0 St R0 base K') () ⟨42,#[u0,u1,.pointer (some ⟨go,0,none⟩),.pointer (some ⟨ge,0,none⟩),u4,u5,u6,.pointer (some ⟨gh,0,none⟩),u8,u9,gS,gF,gE,fZ,fY,gA,u16,hY,kH,kO,jH,gT,iA,gY,gZ,iG,iM,gV,iF,iE,jE,jD,u32,iL,iK,iD,iC,kE,kL,iH,iI,iJ,jB,iO,iV,iQ,jA,iN,iP,iU,iS,iZ,mU,mY,kV,kS,kN,kP,kD,kQ,kM,jU,j7,jZ,u64,j9,jY,j5,j6,kZ,kK,kF,j8],[.code (.seq Oa G8)],false⟩ w){w:aE}{u0 u1 u5 u6 u7 u8 u9 gS gF gE fZ fY gA u16 hY kH kO jH gT iA gY gZ iG iM gV iF iE jE jD u32 iL iK iD iC kE kL iH iI iJ jB iO iV iQ jA iN iP iU iS iZ mU mY kV kS kN kP kD kQ kM jU j7 jZ u64 j9 jY j5 j6 kZ kK kF j8:aF}(hE:oJ wB lo go ge n c A o es w):
 BO (rhC Post Shun W0 St R0 base K) () ⟨42,#[u0,u1,.pointer (some ⟨go,0,none⟩),.pointer (some ⟨ge,0,none⟩),.pointer none,u5,u6,u7,u8,u9,gS,gF,gE,fZ,fY,gA,u16,hY,kH,kO,jH,gT,iA,gY,gZ,iG,iM,gV,iF,iE,jE,jD,u32,iL,iK,iD,iC,kE,kL,iH,iI,iJ,jB,iO,iV,iQ,jA,iN,iP,iU,iS,iZ,mU,mY,kV,kS,kN,kP,kD,kQ,kM,jU,j7,jZ,u64,j9,jY,j5,j6,kZ,kK,kF,j8],[.code (.seq rRH9 (.seq (.seq zng (.block 2 (.loop Xl))) (.seq Oa G8)))],false⟩ w:=by
 have rU:=Nc;have HE:=aD hE;have HO:=aD Nc;clear hE Nc rU;refine BO.seq dC ?_;refine BO.pV nD dC tY (λw1 T1 eG Q' dA=>?_);have cG:=aD (show oJ wB lo go ge n c A o es w1 by rw[eG];exact HE.o.tp T1 0);clear HE;have g0:w1.cell? ⟨go,0,none⟩=some (.int .i64 o.ln):=aI cG.o.bo 0;have g1:w1.cell? ⟨go,1,none⟩=some (.int .i64 o.op):=aI cG.o.bo 1;have g2:w1.cell? ⟨go,2,none⟩=some (.int .i64 o.pt):=aI cG.o.bo 2;have zbx:=@run_makeMap aK;clear eG;go_wp2;refine dA.o _ _ ?_;clear dA;clear g0 g1 g2 zbx;obtain⟨w5,mF⟩:=aP (((((w1.alloc (.map #[] 0)).alloc (.map #[] 0)).alloc (.map #[] 0)).alloc (Nx (gQ w1.heap.size) ⟨lY o,[],[],[]⟩)).alloc (.cells #[.pointer (some ⟨w1.heap.size+3,0,none⟩)] 63));obtain⟨n1,n2,n3,n4⟩:=hall_new cG.o.lo_ o w5 mF;have HR:=aD (show oS wB lo go ge n c A o es (w1.heap.size+3) (w1.heap.size+4) [] [] (gQ w1.heap.size) w5 from⟨cG.o.below n4,n1,⟨rfl,rfl,rfl⟩,Wl,(λx hx=>by cases hx),n2,n3,(by have:=cG.o.lo_;omega)⟩);clear n1 n2 n3 n4;simp only[Nat.add_assoc,Nat.reduceAdd];have pN:=mF;simp only[Nx,hallA,gQ,lY] at pN;rw[<-pN];clear mF pN cG;refine BO.seq dC ?_;refine BO.seq dC ?_;generalize w1.heap.size+3=hb at HR⊢;generalize w1.heap.size+4=gh at HR⊢;generalize gQ w1.heap.size=v at HR;refine BO.pV nD dC tY (λw6 T2 pN Q' dA=>?_);have jC:=aD (show oS wB lo go ge n c A o es hb gh [] [] v w6 by rw[pN];exact HR.o.tp T2 0);clear HR;have g0:w6.cell? ⟨go,0,none⟩=some (.int .i64 o.ln):=aI jC.o.e.bo 0;clear pN;go_wp2;refine dA.o _ _ ?_;clear dA;clear g0;refine BO.block dC ?_;refine BO.loop dC ?_;have rU:=HO.o;unfold rV at rU;have rU:=of_decide_eq_true rU;refine rh_lines (wB:=wB) rU.2.1 K (λK' w' v' ln u0 u1 u4 u5 u6 u8 u9 gS gF gE fZ fY gA u16 hY kH kO jH gT iA gY gZ iG iM gV iF iE jE jD u32 iL iK iD iC iH iI iJ jB iO iV iQ jA iN iP iU iS iZ mU mY kV kS kN kP kD kQ kM jU j7 jZ u64 j9 jY j5 j6 kZ kK kF j8 hK hR hl=>?_) o.ln.toNat 0 aC K w6 v [] _ _ _ _ _ _ _ _ _ _ _ _ _ _ _ _ _ _ _ _ _ _ _ _ _ _ _ _ _ _ _ _ _ _ _ _ _ _ _ _ _ _ _ _ _ _ _ _ _ _ _ _ _ _ _ _ _ _ _ _ _ _ _ _ _ _ _ _ (xU _) jC.o rfl
 grind
end
def OldB (w w':aE):Prop:=w.heap.size<=w'.heap.size/\∀b,b<w.heap.size->w'.heap[b]? =w.heap[b]?
variable {wB:aE}{ge:Nat}{A:Option bD}{o:gG}{es:List dX}
def oJ.oldB {go n c:Nat}(h:oJ wB lo go ge n c A o es w1)(eB:w.heap.size<=lo)(k:∀b,b<w.heap.size->wB.heap[b]? =w.heap[b]?):OldB w w1:=
 ⟨eM eB h.lo_,λb hb=>(h.old b (jW hb eB)).trans (k b hb)⟩
section
variable {Post:aF->aE->Prop}{Shun:Loc->Prop}{W0:aE}{St:Nat->Prop}{R0:Pr}{base:List dJ}{K:Pr}{n c:Nat}{A:Option bD}{o:gG}{es:List dX}
theorem rh_start {w:aE}(D5:cM w 0 w.heap.size 3 A n c (sY es))(hn:n<=1048576)(zvu:qV w)
 (Rq:∀(T:Array aF) todo w',T.getD 4 aA=.pointer none->OldB w w'->fJ o es=false->BO (rhC Post Shun W0 St R0 base K) () ⟨42,T,todo,true⟩ w')
 (hgo:∀wB lo go ge K' w' v ln hb gh u0 u1 u4 u5 u6 u8 u9 gS gF gE fZ fY gA u16 hY kH kO jH gT iA gY gZ iG iM gV iF iE jE jD u32 iL iK iD iC kE kL iH iI iJ jB iO iV iQ jA iN iP iU iS iZ mU mY kV kS kN kP kD kQ kM jU j7 jZ u64 j9 jY j5 j6 kZ kK kF j8,K.le K'->fJ o es=true->w.heap.size<=lo->w.heap.size<=go->w.heap.size<=ge->(∀b,b<w.heap.size->wB.heap[b]? =w.heap[b]?)->oS wB lo go ge n c A o es hb gh ln [] v w'->(ln.length:Int)=o.ln->BO (rhC Post Shun W0 St R0 base K') () ⟨42,#[u0,u1,.pointer (some ⟨go,0,none⟩),.pointer (some ⟨ge,0,none⟩),u4,u5,u6,.pointer (some ⟨gh,0,none⟩),u8,u9,gS,gF,gE,fZ,fY,gA,u16,hY,kH,kO,jH,gT,iA,gY,gZ,iG,iM,gV,iF,iE,jE,jD,u32,iL,iK,iD,iC,kE,kL,iH,iI,iJ,jB,iO,iV,iQ,jA,iN,iP,iU,iS,iZ,mU,mY,kV,kS,kN,kP,kD,kQ,kM,jU,j7,jZ,u64,j9,jY,j5,j6,kZ,kK,kF,j8],[.code (.seq Oa G8)],false⟩ w'):
 BO (rhC Post Shun W0 St R0 base K) () ⟨42,#[.agg #[.int .i64 o.ln,.int .i64 o.op,.int .i64 o.pt],.slice A n c,aA,aA,aA,aA,aA,aA,aA,aA,aA,aA,aA,aA,aA,aA,aA,aA,aA,aA,aA,aA,aA,aA,aA,aA,aA,aA,aA,aA,aA,aA,aA,aA,aA,aA,aA,aA,aA,aA,aA,aA,aA,aA,aA,aA,aA,aA,aA,aA,aA,aA,aA,aA,aA,aA,aA,aA,aA,aA,aA,aA,aA,aA,aA,aA,aA,aA,aA,aA,aA,aA,aA],[.code oG],false⟩ w:=by
 have Gf:es.length=n:=D5.eventsLen;have HS:=aD D5;have HT:=aD zvu;have HN:=aD Gf;have HB:=aD hn;clear D5 zvu Gf hn;rw[show oG=.seq rRH0 (.seq (.seq rRH1 (.cond (.tmp 17) (.seq rRH2 .ret) .skip)) (.seq (.seq rRH3 (.block 0 (.loop zc4))) (.seq rRH9 (.seq (.seq zng (.block 2 (.loop Xl))) (.seq Oa G8))))) from zBy];refine BO.seq dC ?_;refine BO.pV nD dC tY (λw1 T1 eG Q' dA=>?_);have Ca:=aD (show OldB w w1 by rw[eG];exact⟨bN _,λ_ _=>rfl⟩);have dM:w1.heap.size=w.heap.size:=by rw[eG];rfl
 clear eG;go_wp2;refine dA.o _ _ ?_;clear dA;obtain⟨wB,Zn⟩:=aP ((w1.alloc (.cells #[.int .i64 o.ln,.int .i64 o.op,.int .i64 o.pt] 29)).alloc (.cells #[.slice A n c] 31));have z0:(w1.alloc (.cells #[.int .i64 o.ln,.int .i64 o.op,.int .i64 o.pt] 29)).heap.size=w.heap.size+1:=by rw[rC,dM]
 have z1:wB.heap.size=w.heap.size+2:=by rw[Zn,rC,z0]
 have kB:∀b,b<w.heap.size->wB.heap[b]? =w.heap[b]? :=λb hb=>by
  rw[Zn,C4 aC,C4 aC];exact Ca.o.2 b hb
 have HE:=aD (show oJ wB (w.heap.size+2) w.heap.size (w.heap.size+1) n c A o es wB from⟨aC,Bd.of HT.o aC aC kB,(HS.o.keep aC λb _ q _=>kB b q).wide (bN _) aC,aC,aC,by
  rw[Zn,<-dM];exact zuU (De _ _) _,by rw[Zn,<-z0];exact De _ _,λ_ _=>rfl⟩)
 simp only[dM];rw[<-Zn];have HK:=aD kB;clear Zn z0 z1 dM kB Ca;have eB:w.heap.size<=w.heap.size+2:=aC;have zBN:w.heap.size<w.heap.size+2:=aC;generalize zhh:w.heap.size+2=lo at HE eB zBN⊢;generalize zbb:w.heap.size=go at HE⊢;generalize zHT:w.heap.size+1=ge at HE⊢;refine BO.seq dC ?_;refine BO.seq dC ?_;have zr5:ge=go+1:=aC;have zKJ:go<=ge:=aC;rw[<-zr5] at HE⊢;clear zHT zr5;by_cases hv:rV o=true
 .by_cases za4:n<=60
  .have zEg:¬(60:Int)<(n:Int):=aC
   refine BO.pV nD dC tY (λw1 T1 eG Q' dA=>?_);have cG:=aD (show oJ wB lo go ge n c A o es w1 by rw[eG];exact HE.o.tp T1 0);have g0:w1.cell? ⟨go,0,none⟩=some (.int .i64 o.ln):=aI cG.o.bo 0;have g1:w1.cell? ⟨go,1,none⟩=some (.int .i64 o.op):=aI cG.o.bo 1;have g2:w1.cell? ⟨go,2,none⟩=some (.int .i64 o.pt):=aI cG.o.bo 2;have g3:w1.cell? ⟨ge,0,none⟩=some (.slice A n c):=aI cG.o.be 0;have HV:=aD hv;clear HE hv;clear eG
   go_wp2_with ((go_at_call 33;refine(zjs o _).mono ?_;rintro e w' ⟨rfl,lL⟩;have g4:w'.cell? ⟨ge,0,none⟩=some (.slice A n c):=aI (cG.o.below lL).be 0;rw[HV.o]))
   refine dA.o _ _ ?_;clear dA;clear g0 g1 g2 g3 g4;have nK:=aD (cG.o.below lL);clear lL cG;refine BO.cond dC (t:=false) rfl (show Ng (decide ((60:Int)<(n:Int)))=.bool false by grind) ?_;refine BO.skip dC ?_;refine BO.seq dC ?_;refine BO.seq dC ?_;refine BO.pV nD dC tY (λw3 T3 iT Q' dA=>?_);have uQ:=aD (show oJ wB lo go ge n c A o es w3 by rw[iT];exact nK.o.tp T3 0);have g3:w3.cell? ⟨ge,0,none⟩=some (.slice A n c):=aI uQ.o.be 0;clear nK;clear iT;go_wp2;refine dA.o _ _ ?_;clear dA;clear g3;refine BO.block dC ?_;refine BO.loop dC ?_;have rU:=HV.o;unfold rV at rU;have rU:=of_decide_eq_true rU;refine rh_valid (wB:=wB) (lo:=lo) ⟨rU.2.2.1,rU.2.2.2.1⟩ za4 HN.o (λT todo w2 hT znF zlT=>?_) (λw2 jH u0 u1 u5 u6 u7 u8 u9 gS gF gE fZ fY gA u16 hY gT iA gY gZ iG iM gV iF iE jE jD u32 iL iK iD iC kE kL iH iI iJ jB iO iV iQ jA iN iP iU iS iZ mU mY kV kS kN kP kD kQ kM jU j7 jZ u64 j9 jY j5 j6 kZ kK kF j8 znF zlT=>?_) n 0 aC w3 _ _ _ _ _ _ _ _ _ _ _ _ _ _ _ _ _ _ _ _ _ _ _ _ _ _ _ _ _ _ _ _ _ _ _ _ _ _ _ _ _ _ _ _ _ _ _ _ _ _ _ _ _ _ _ _ _ _ _ _ _ _ _ _ _ _ _ uQ.o (λj hj=>by omega)
   .refine Rq T todo w2 hT (znF.oldB (zbb▸eB) (λb hb=>HK.o b (zbb▸hb))) ?_
    unfold fJ;rw[zlT,Bool.and_false]
   .refine rh_made HV.o (λK' w' v ln hb gh u0 u1 u4 u5 u6 u8 u9 gS gF gE fZ fY gA u16 hY kH kO jH gT iA gY gZ iG iM gV iF iE jE jD u32 iL iK iD iC kE kL iH iI iJ jB iO iV iQ jA iN iP iU iS iZ mU mY kV kS kN kP kD kQ kM jU j7 jZ u64 j9 jY j5 j6 kZ kK kF j8 hK hR hl=>hgo wB lo go ge K' w' v ln hb gh _ _ _ _ _ _ _ _ _ _ _ _ _ _ _ _ _ _ _ _ _ _ _ _ _ _ _ _ _ _ _ _ _ _ _ _ _ _ _ _ _ _ _ _ _ _ _ _ _ _ _ _ _ _ _ _ _ _ _ _ _ _ _ _ _ _ _ _ _ _ hK ?_ (zbb▸eB) aC aC (λb hb=>HK.o b (zbb▸hb)) hR hl) znF
    unfold fJ;rw[HV.o,zlT,HN.o];simp[za4]
  .have zEg:(60:Int)<(n:Int):=aC
   have fG:fJ o es=false:=by
    unfold fJ;rw[HN.o];simp[za4]
   refine BO.pV nD dC tY (λw1 T1 eG Q' dA=>?_);have cG:=aD (show oJ wB lo go ge n c A o es w1 by rw[eG];exact HE.o.tp T1 0);have g0:w1.cell? ⟨go,0,none⟩=some (.int .i64 o.ln):=aI cG.o.bo 0;have g1:w1.cell? ⟨go,1,none⟩=some (.int .i64 o.op):=aI cG.o.bo 1;have g2:w1.cell? ⟨go,2,none⟩=some (.int .i64 o.pt):=aI cG.o.bo 2;have g3:w1.cell? ⟨ge,0,none⟩=some (.slice A n c):=aI cG.o.be 0;have HV:=aD hv;clear HE hv;clear eG
   go_wp2_with ((go_at_call 33;refine(zjs o _).mono ?_;rintro e w' ⟨rfl,lL⟩;have g4:w'.cell? ⟨ge,0,none⟩=some (.slice A n c):=aI (cG.o.below lL).be 0;rw[HV.o]))
   refine dA.o _ _ ?_;clear dA;clear g0 g1 g2 g3 g4;have nK:=aD (cG.o.below lL);clear lL cG;refine BO.cond dC (t:=true) rfl rfl ?_;refine BO.seq dC ?_;refine BO.pV nD dC tY (λw3 T3 iT Q' dA=>?_);have uQ:=aD (show oJ wB lo go ge n c A o es w3 by rw[iT];exact nK.o.tp T3 0);clear nK;clear iT;go_wp2;refine dA.o _ _ ?_;clear dA;refine BO.ret dC ?_;exact Rq _ _ _ rfl zuC fG
 .have fG:fJ o es=false:=by
   unfold fJ;simp[hv]
  have hv:rV o=false:=by simpa using hv
  refine BO.pV nD dC tY (λw1 T1 eG Q' dA=>?_);have cG:=aD (show oJ wB lo go ge n c A o es w1 by rw[eG];exact HE.o.tp T1 0);have g0:w1.cell? ⟨go,0,none⟩=some (.int .i64 o.ln):=aI cG.o.bo 0;have g1:w1.cell? ⟨go,1,none⟩=some (.int .i64 o.op):=aI cG.o.bo 1;have g2:w1.cell? ⟨go,2,none⟩=some (.int .i64 o.pt):=aI cG.o.bo 2;have g3:w1.cell? ⟨ge,0,none⟩=some (.slice A n c):=aI cG.o.be 0;have HV:=aD hv;clear HE hv;clear eG
  go_wp2_with ((go_at_call 33;refine(zjs o _).mono ?_;rintro e w' ⟨rfl,lL⟩;have g4:w'.cell? ⟨ge,0,none⟩=some (.slice A n c):=aI (cG.o.below lL).be 0;rw[HV.o]))
  refine dA.o _ _ ?_;clear dA;clear g0 g1 g2 g3 g4;have nK:=aD (cG.o.below lL);clear lL cG;refine BO.cond dC (t:=true) rfl rfl ?_;refine BO.seq dC ?_;refine BO.pV nD dC tY (λw3 T3 iT Q' dA=>?_);have uQ:=aD (show oJ wB lo go ge n c A o es w3 by rw[iT];exact nK.o.tp T3 0);clear nK;clear iT;go_wp2;refine dA.o _ _ ?_;clear dA;refine BO.ret dC ?_;exact Rq _ _ _ rfl zuC fG
end
def xT:Nat->Bool:=λa=>By aK a
def xQ (gq:Nat):Nat->Bool:=λa=>a==gq||By aK a
def K8 (w00:aE)(K R:Pr)(St eI:Nat->Prop)(Fz:Nat->Prop)(Wf:aE)(Xa:Nat->Prop):Prop:=
 ∀(K' R':Pr) (wn Wn:aE),K.le K'->R.le R'->cV (SF fT) K' R' (pE aK) eI wn Wn->(∀b,Fz b->Wn.heap[b]? =Wf.heap[b]?)->
  ∃Y5,cV (SF fT) K' R' (pE aK) St Y5 Wn/\Y5.heap.size=wn.heap.size/\(∀a,¬Xa a->Y5.heap[a]? =wn.heap[a]?)/\∀a,xT a=true->Y5.heap[a]? =w00.heap[a]?
variable {K R:Pr}{St:Nat->Prop}
theorem K8.first {W:aE}(hw:cV (SF fT) K R (pE aK) St w W)(hx:XOk R xT w):K8 w K R St (λa=>St a\/xT a=true) (H8 R St xT) W (λa=>xT a=true):=λK' R' wn Wn hK hR hn nQ=>by
 have h1:=zqY (St':=λa=>St a\/xT a=true) hw hx hR hK hn (λa h=>.inl h) (λa b zcr qK=>nQ b ⟨a,qK,.inr zcr⟩);refine⟨_,h1,zev _ _ _,λa ha=>Wi (by simpa using ha),λa ha=>?_⟩;obtain⟨b,hb⟩:=hx.dom a ha;obtain⟨c,T,fz,hc⟩:=hx.cells a ha;rw[zdZ ha (hn.lt a b (.inl (hR _ _ hb))).1 hc,hc]
variable {eI:Nat->Prop}{X:Nat->Bool}
theorem K8.step {w00 W Wf:aE}{K2 R2:Pr}{Fz Xa:Nat->Prop}(h:K8 w00 K R St eI Fz Wf Xa)(hK:K.le K2)(hR:R.le R2)(hw:cV (SF fT) K2 R2 (pE aK) eI w W)(hx:XOk R2 X w)(hF:∀b,Fz b->W.heap[b]? =Wf.heap[b]? /\∃a,R2 a b/\eI a):
 K8 w00 K2 R2 St (λa=>eI a\/X a=true) (H8 R2 eI X) W (λa=>Xa a\/X a=true):=λK' R' wn Wn rQ znP hn nQ=>by
 have h1:=zqY (St':=λa=>eI a\/X a=true) hw hx znP rQ hn (λa h=>.inl h) (λa b zcr qK=>nQ b ⟨a,qK,.inr zcr⟩)
 obtain⟨Y5,k1,k2,k3,k4⟩:=h K' R' _ Wn (vU hK rQ) (hR.trans znP) h1 (λb hb=>by
  obtain⟨e,a,x,y⟩:=hF b hb;exact(nQ b ⟨a,x,.inl y⟩).trans e)
 refine⟨Y5,k1,k2.trans (zev _ _ _),λa ha=>?_,k4⟩;rw[k3 a (λx=>ha (.inl x)),Wi tJ]
theorem frX_same (h:X b=true->∃c T hi,w.heap[b]? =some (.cells c T (0,hi))/\c.size<=hi):(uY X w).heap[b]? =w.heap[b]? :=by
 cases e:X b with
 |false=>exact Mj e
 |true=>
  obtain⟨c,T,hi,h1,h2⟩:=h e;rw[Tz e h1,h1];simp_all
theorem frX_cell {o:Nat}{v:aF}(hc:X b=true->∃c T fz,w.heap[b]? =some (.cells c T fz))(h:w.cell? ⟨b,o,none⟩=some v):(uY X w).cell? ⟨b,o,none⟩=some v:=by
 cases e:X b with
 |false=>exact(aE.cell?_of_block (a:=⟨b,o,none⟩) (Mj e)).trans h
 |true=>
  obtain⟨c,T,fz,hc⟩:=hc e;have e1:w.cell? ⟨b,o,none⟩=c[o]? :=by simp[lN,hc]
  have e2:(uY X w).cell? ⟨b,o,none⟩=c[o]? :=by simp[lN,Tz e hc]
  simp_all
def zHo:((aK.globalNamed "internal/strconv.uint64pow10").map λg=>By aK g)=some true:=aT
theorem tabW_fr (h:qV w)(hx:∀a,xT a=true->X a=true)(hc:∀a,xT a=true->∃c T fz,w.heap[a]? =some (.cells c T fz))(hw:∀a,xT a=true->w'.heap[a]? =(uY X w).heap[a]?):qV w':=by
 obtain⟨g,hg,bU⟩:=zW.1 zHo;obtain⟨c,T,fz,K5⟩:=hc g bU;unfold qV zfj zd7 at*;rw[hg] at h⊢;simp only[xS] at h⊢;rw[K5] at h;rw[hw g bU,Tz (hx g bU) K5];exact h
variable {v:fC}{ln qn:List Nat}
theorem oS.frT {go n c hb gh lo0:Nat}(h:oS wB lo go ge n c A o es hb gh ln qn v w)(hgo:lo0<=go)(Cr:lo0<=ge)(eB:lo0<=lo)(ht:∀a,xT a=true->a<lo0)(hc:∀a,xT a=true->∃c T fz,w.heap[a]? =some (.cells c T fz)):oS (uY xT w) lo go ge n c A o es hb gh ln qn v (uY xT w):=by
 have out:∀b,lo0<=b->(uY xT w).heap[b]? =w.heap[b]? :=λb hb=>Mj (by
  cases e:xT b with
  |false=>rfl
  |true=>have:=ht b e;omega)
 have nT:xT gh=false:=by
  cases e:xT gh with
  |false=>rfl
  |true=>have:=ht gh e;have:=h.ghl;omega
 refine⟨⟨by rw[Rg];exact h.e.lo_,λw' hw=>tabW_fr h.e.tab.at_ (λa h=>h) hc λa ha=>hw a (jW (ht a ha) eB),?_,h.e.gol,h.e.gel,(out _ hgo).trans h.e.bo,(out _ Cr).trans h.e.be,λ_ _=>rfl⟩,h.at_.keep λb hb hp=>out b (by have:=(h.at_.lt b hp).1;omega),h.mp,h.nd,λx hx=>by rw[Rg];exact h.lt x hx,(Mj nT).trans h.bh,h.nh,h.ghl⟩;refine⟨h.e.ev.len,h.e.ev.le,h.e.ev.cap,λhn=>?_⟩;obtain⟨b,off,e,h1,h2,h3,h4⟩:=h.e.ev.at_ hn;exact⟨b,off,e,h1,h2,by rw[Rg];exact h3,λj v hv=>frX_cell (λx=>hc b x) (h4 j v hv)⟩
variable {gq a:Nat}
theorem zdb (h:xQ gq a=true):a=gq\/xT a=true:=by
 unfold xQ at h;simp only[Di,beq_iff_eq] at h;exact h
theorem xQ_q (gq:Nat):xQ gq gq=true:=by simp[xQ]
theorem xQ_t (h:xT a=true):xQ gq a=true:=by
 unfold xQ xT at*;rw[h,Bool.or_true]
theorem op_tmps (a b:aF):(#[]++ #[a,b])++oC ((zts).ntmps-(#[]++ #[a,b]:Array aF).size) aA=(#[a,b,aA,aA]:Array aF):=by simp_all
def zN (w:aE):Prop:=∀g,xT g=true->∃c T fz,w.heap[g]? =some (.cells c T fz)/\∀v∈c,vV v
variable {τ:cC}{Wr:aE}{gt t:Array aF}
theorem op_born {Wg N:Nat}{W:List fB}{D:aE->Prop}{Fin:bC->aE->Prop}{gc m:Nat}(hw:cV (SF fT) K R (pE aK) eI w Wr)(hx:XOk R (xQ gq) w)(zdo:K gc a)(fG:∀b,¬R b a)
 (hq:w.heap[gq]? =some (.cells #[.chan (some gc)] 95)) (tF:zN w) (ha:bL (SF fT) K R gt t) (zGQ:gt[9]? =some (.pointer (some ⟨gq,0,none⟩))) (h8:t.getD 8 aA=.pointer (some ⟨Wg,0,none⟩)) (zAE:Wg<Wr.heap.size) (zH7:∀a b,R a b->b≠Wg) (nI:WgLive rR.tWg Wg Wr):
 b6 aK rR.tWg Wg (Db N W D) Fin false (.usr (.op a 0 m)) 0 (Yi τ R (xQ gq)) (born aK {target:=.fn (.func 54) #[t.getD 8 aA,t.getD 9 aA],args:=#[]}) Wr:=by
 refine Nk rfl rfl (λaY s=>zt6 (c:=Y7) zn2 aH rfl aY) λaY s=>?_;have Dv:∀b,¬R gc b:=λb x=>by
  obtain rfl:=hw.inj gc b a (.inl x) (.inr zdo);exact fG _ x
 have lE:∀a c T fz,xQ gq a=true->w.heap[a]? =some (.cells c T fz)->∀v∈c,wW (λa=>xQ gq a=true) (λa=>a=gc) v:=λa c T fz zcr hc v hv=>by
  rcases zdb zcr with rfl|zr2
  .rw[hq] at hc
   injection hc with hc;injection hc with e1 _ _;subst e1;obtain rfl:=by simpa using hv
   exact .chan λx e=>by cases e;rfl
  .obtain⟨c',T',Ix,h1,h2⟩:=tF a zr2
   rw[hc] at h1;injection h1 with h1;injection h1 with e1 _ _;subst e1;exact(h2 v hv).inX
 have hrel:=reX_rel hw hx (λg hg=>xQ_t hg) (KD:=λa=>a=gc) lE (λa b x e=>absurd (e▸x) (Dv b));have zwN:vM (Yi τ R (xQ gq)) (rX R (xQ gq)) (λa=>xQ gq a=true):=zBx;have hv:(reX (xQ gq) w).cell? ⟨gq,0,none⟩=some (.chan (some gc)):=by
  simp[lN,zhC (xQ_q gq) hq]
 have hB:=zC7 (Wg:=Wg) (N:=N) (W:=W) (D:=D) (Fin:=Fin) (St:=λa=>xQ gq a=true) (gc:=gc) (gv:=gq) (c:=a) (K:=kX K (λa=>a=gc)) ⟨zdo,rfl⟩ m hv;have Se:=Cx.Rel.suf (C:=fM Wg N W D Fin (λa=>xQ gq a=true) (kX K (λa=>a=gc)) (λ_=>True) [wG aK] ⟨[],.deferred,aQ⟩ [(0,.pointer (some ⟨Wg,0,none⟩))]) hrel zwN s;have rQ:∀a b,R.or K a b->a=gc->(rX R (xQ gq)).or (kX K (λa=>a=gc)) a b:=λa b x e=>by
  rcases x with x|x
  .simp_all
  .exact .inr ⟨x,e⟩
 have p9:VR (SF fT) (kX K (λa=>a=gc)) (rX R (xQ gq)) (.pointer (some ⟨gq,0,none⟩)) (t.getD 9 aA):=by
  have h1:=ha.getD 9 (yS (S:=SF fT) (K:=K) (R:=R));rw[xE,zGQ] at h1;exact wW.vr h1 (λp q y z=>⟨y,z⟩) rQ (.pointer λx e=>by cases e;exact xQ_q gq)
 rw[h8];generalize t.getD 9 aA=t9 at*;rw[op_tmps];have vu:=yS (S:=SF fT) (K:=kX K (λa=>a=gc)) (R:=rX R (xQ gq));have hj:∀x,Tt.HidV x->VR (SF fT) (kX K (λa=>a=gc)) (rX R (xQ gq)) .nilFunc x:=λx h=>.junk h;have:=hB (rX R (xQ gq)) aY ⟨54,#[.pointer (some ⟨Wg,0,none⟩),t9,aA,aA],[.code Y7],false⟩ (Yi τ R (xQ gq)) Se ⟨rfl,rfl,rfl,?_,λx hx=>?_⟩ zwN ⟨⟨⟨λa b x=>zH7 a b x.1,by have:=s.size;omega⟩,s.live nI⟩,trivial⟩
 .exact this
 .exact zo9 (.cons (hj _ Zm) (.cons p9 (.cons vu (.cons vu .nil))))
 .obtain rfl:=yT.1 hx
  rfl
theorem wk_tmps (a b c:aF):(#[]++ #[a,b,c])++oC ((znZ).ntmps-(#[]++ #[a,b,c]:Array aF).size) aA=(#[a,b,c,aA,aA,aA]:Array aF):=by
 have e:(znZ).ntmps=6:=rfl;rw[e];have e:(#[]++ #[a,b,c]:Array aF).size=3:=aQ;rw[e];apply L1;simp only[Sn,zdS];rfl
theorem wk_born {e:G2}(H:e.d.Ok)(B8:e.ty=rR.tWg){hb gh n c:Nat}{Q:Pr->Prop}(hQ:Up Q)(hq:Q R)
 (hw:cV (SF fT) K R (pE aK) e.St w Wr) (hT:vM τ R e.St) (hi:IQ e.W0 e.StI e.Shun e.Wg e.SS e.R0 e.Fz e.Wf e.qs [] R τ Wr) (nI:WgLive rR.tWg e.Wg Wr) (h:zcs e o es ln qn lo hb v w K A n c) (hh:w.cell? ⟨gh,0,none⟩=some (.pointer (some ⟨hb,0,none⟩))) (he:w.cell? ⟨ge,0,none⟩=some (.slice A n c))
 (ha:bL (SF fT) K R gt t) (zG0:gt[7]? =some (.pointer (some ⟨gh,0,none⟩))) (An:gt[3]? =some (.pointer (some ⟨ge,0,none⟩))) (h8:t.getD 8 aA=.pointer (some ⟨e.Wg,0,none⟩))
 (tU:∀K' R τ W w' v',K.le K'->Q R->cV (SF fT) K' R (pE aK) e.St w' W->IQ e.W0 e.StI e.Shun e.Wg e.SS e.R0 e.Fz e.Wf e.qs [] R τ W->bE w' lo hb v' (rW o es ln qn qn.length)->fX v' (rW o es ln qn qn.length)->bP hb v w v' w'->e.D W):
 b6 aK rR.tWg e.Wg (Db e.N e.W e.D) e.Fin false (.usr (.wk e.qs 0)) 0 τ (born aK {target:=.fn (.func 57) #[t.getD 8 aA,t.getD 7 aA,t.getD 3 aA],args:=#[]}) Wr:=by
 refine Nk rfl rfl (λaY s=>zt6 (c:=Vr) Tryz.func57 aH rfl aY) λaY s=>?_;have hB:=zCr H B8 h hh he hQ tU
 let C:=e.d.cx K Q [] [wG aK] ⟨[],.deferred,aQ⟩ [(0,.pointer (some ⟨e.Wg,0,none⟩))]
 have Se:=Cx.Rel.suf (C:=C) hw hT (show bX C.ty C.Wg τ Wr aY by show bX e.ty _ _ _ _;rw[B8];exact s);have yR:=(H.iok hQ (K:=K) (chs:=[]) (base:=[wG aK]) (ds:=⟨[],.deferred,aQ⟩) (pin:=[(0,.pointer (some ⟨e.Wg,0,none⟩))])).suf R τ Wr aY ⟨⟨hi,by show WgLive e.ty _ _;rw[B8];exact nI⟩,hq⟩ (show bX C.ty C.Wg τ Wr aY by show bX e.ty _ _ _ _;rw[B8];exact s);have p7:VR (SF fT) K R (.pointer (some ⟨gh,0,none⟩)) (t.getD 7 aA):=by
  have h1:=ha.getD 7 (yS (S:=SF fT) (K:=K) (R:=R));rw[xE,zG0] at h1;exact h1
 have p3:VR (SF fT) K R (.pointer (some ⟨ge,0,none⟩)) (t.getD 3 aA):=by
  have h1:=ha.getD 3 (yS (S:=SF fT) (K:=K) (R:=R));rw[xE,An] at h1;exact h1
 rw[h8];generalize t.getD 7 aA=t7 at*;generalize t.getD 3 aA=t3 at*;rw[wk_tmps];have vu:=yS (S:=SF fT) (K:=K) (R:=R);have hj:∀x,Tt.HidV x->VR (SF fT) K R .nilFunc x:=λx h=>.junk h;have:=hB R aY ⟨57,#[.pointer (some ⟨e.Wg,0,none⟩),t7,t3,aA,aA,aA],[.code Vr],false⟩ τ Se ⟨rfl,rfl,rfl,?_,λx hx=>?_⟩ hT yR
 .rw[Cx.B_none (C:=C) rfl] at this
  have e2:C.ty=rR.tWg:=B8;rw[e2] at this;exact this
 .exact zo9 (.cons (hj _ Zm) (.cons p7 (.cons p3 (.cons vu (.cons vu (.cons vu .nil))))))
 .obtain rfl:=yT.1 hx
  rfl
end Go.Proofs.YtfcjiloojkjaeaaGreatDoor
namespace Go.Mt
open Go.Conc Go.Tt
theorem zuf:∀(n:Nat) (u:aF),N7 u<n->∃u',vV u'/\(∀(S:aN->Prop) (K R:Pr) (v:aF),VR S K R u v->VR S K R u' v)/\(Tc u->u'=u):=by
 intro n
 induction n with
 |zero=>intro u h;omega
 |succ n ih=>
  intro u hu;have pl:∀{x:aF},(∀k m,x≠ .int k m)->(∀s,x≠ .string s)->(∀b,x≠ .bool b)->∀{y:aF},Tc x->y=x:=λh1 h2 h3 y hx=>by
   rcases hx with⟨k,m,e⟩|⟨s,e⟩|⟨b,e⟩
   .exact absurd e (h1 _ _)
   .exact absurd e (h2 _)
   .exact absurd e (h3 _)
  have rows:∀xs:Array aF,N7 xs<n->∃us:Array aF,us.size=xs.size/\(∀(i:Nat) (u:aF),us[i]? =some u->vV u)/\∀(S:aN->Prop) (K R:Pr) (i:Nat) (u x v:aF),us[i]? =some u->xs[i]? =some x->VR S K R x v->VR S K R u v:=λxs hx=>by
   have hex:∀x,∃u,x∈xs->vV u/\∀(S:aN->Prop) (K R:Pr) (v:aF),VR S K R x v->VR S K R u v:=λx=>by
    by_cases hm:x∈xs
    .obtain⟨u,h1,h2,_⟩:=ih x (zhK (Array.sizeOf_lt_of_mem hm) hx)
     exact⟨u,λ_=>⟨h1,h2⟩⟩
    .exact⟨x,λh=>absurd h hm⟩
   refine⟨xs.map λx=>(hex x).choose,aQ,λi u h1=>?_,λS K R i u x v h1 h2 h3=>?_⟩
   .rw[Fo] at h1
    cases h2:xs[i]? with
    |none=>rw[h2] at h1;cases h1
    |some v=>
     rw[h2] at h1;simp only[Fl,jM] at h1;subst h1;exact((hex v).choose_spec (zaX h2)).1
   .rw[Fo,h2] at h1
    simp only[Fl,jM] at h1;subst h1;exact((hex x).choose_spec (zaX h2)).2 S K R v h3
  cases u with
  |bool b=>exact⟨_,.bool b,λS K R v h=>h,λ_=>rfl⟩
  |int k m=>exact⟨_,.int k m,λS K R v h=>h,λ_=>rfl⟩
  |string s=>exact⟨_,.string s,λS K R v h=>h,λ_=>rfl⟩
  |nilFunc=>exact⟨_,.nilFunc,λS K R v h=>h,λ_=>rfl⟩
  |nilIface=>exact⟨_,.nilIface,λS K R v h=>h,λ_=>rfl⟩
  |agg xs=>
   obtain⟨us,h1,h3,h2⟩:=rows xs (by simp at hu;omega);refine⟨.agg us,.agg h3,λS K R v h=>?_,pl (λ_ _ h=>by cases h) (λ_ h=>by cases h) (λ_ h=>by cases h)⟩
   cases h with
   | @agg _ bV e hh=>
    refine .agg (h1.trans e) λi a b ha hb=>?_;have hi:i<xs.size:=by rw[e];exact(eE.1 hb).1
    exact h2 S K R i a xs[i] b ha (qA hi) (hh i _ _ (qA hi) hb)
  |tuple xs=>
   obtain⟨us,h1,h3,h2⟩:=rows xs (by simp at hu;omega);refine⟨.tuple us,.tuple h3,λS K R v h=>?_,pl (λ_ _ h=>by cases h) (λ_ h=>by cases h) (λ_ h=>by cases h)⟩
   cases h with
   | @tuple _ bV e hh=>
    refine .tuple (h1.trans e) λi a b ha hb=>?_;have hi:i<xs.size:=by rw[e];exact(eE.1 hb).1
    exact h2 S K R i a xs[i] b ha (qA hi) (hh i _ _ (qA hi) hb)
  |_=>exact⟨.nilFunc,.nilFunc,λS K R v h=>.junk (by cases h<;>exact True.intro),pl (λ_ _ h=>by cases h) (λ_ h=>by cases h) (λ_ h=>by cases h)⟩
def cl (u:aF):Value:=(zuf (N7 u+1) u (yE _)).choose
def cl_spec (u:aF):vV (cl u)/\(∀(S:aN->Prop) (K R:Pr) (v:aF),VR S K R u v->VR S K R (cl u) v)/\(Tc u->cl u=u):=(zuf (N7 u+1) u (yE _)).choose_spec
end Go.Mt
namespace Go.Proofs.YtfcjiloojkjaeaaGreatDoor
open Go.RowKit Go.Mt Go.Conc Go.Tt Go.Maps Go.Conc.Lib Go.ConcR.Gen
open Go.ConcR (KK wgBlock WgAt stA smA rd wr)
abbrev Bf (Shun:Loc->Prop)(Wg:Nat):Loc->Prop:=λl=>Shun l\/nJ l Wg
abbrev finS (Post:aF->aE->Prop)(Shun:Loc->Prop)(Wg:Nat):bC->aE->Prop:=λg w'=>J aK Post (Bf Shun Wg) w'.heap.size g w'
structure rI where
 Post:aF->aE->Prop
 Shun:Loc->Prop
 W0:aE
 St:Nat->Prop
 base:List dJ
 K1:Pr
 R1:Pr
 w00:aE
 lo0:Nat
 lo:Nat
 go:Nat
 ge:Nat
 n:Nat
 c:Nat
 A:Option bD
 o:gG
 es:List dX
 hb:Nat
 gh:Nat
 ln:List Nat
 Wg:Nat
def rI.End (p:rI)(qn:List Nat)(v':fC)(w':aE):Prop:=
 bE w' p.lo p.hb v' (rW p.o p.es p.ln qn qn.length)/\(∀b,b<p.lo0->w'.heap[b]? =p.w00.heap[b]?)/\p.lo<=w'.heap.size/\w'.heap[p.gh]? =some (.cells #[.pointer (some ⟨p.hb,0,none⟩)] 63)/\(qn.length:Int)=p.o.op
def rI.D (p:rI)(W:aE):Prop:=∃(K' R':Pr) (w':aE) (v':fC) (qn:List Nat),p.K1.le K'/\p.R1.le R'/\cV (SF fT) K' R' (pE aK) p.St w' W/\Kp p.W0 R' p.St W/\Sh p.W0.heap.size (Bf p.Shun p.Wg) R' W/\p.End qn v' w'
def rI.N (p:rI):Nat:=p.o.op.toNat
def rI.cx (p:rI)(K:Pr)(eI:Nat->Prop)(SS:Nat->Prop)(R0:Pr)(Fz:Nat->Prop)(Wf:aE)(qs chs:List Nat):Cx gI:=
 {p:=aK,gs:=C7,fs:=fT,ty:=rR.tWg,Wg:=p.Wg,A:=Db p.N (C1 p.o p.es) p.D,Fin:=finS p.Post p.Shun p.Wg,main:=true,base:=p.base,ds:=.nil,K:=K,St:=eI,I:=zD rR.tWg p.Wg (IQ p.W0 p.St (Bf p.Shun p.Wg) p.Wg SS R0 Fz Wf qs chs),pin:=[(8,.pointer (some ⟨p.Wg,0,none⟩))]}
theorem zDG {N:Nat}{W:List fB}{D:aE->Prop}{Wn:aE}(h:zcR (Db N W D) Wn):D Wn:=by
 obtain⟨q,ch,hi,h0,hr,hd⟩:=h
 cases hi with
 |a n qs ix l _ _ _ h _ _ _=>rw[h0] at h;cases h
 |b qs ix iw k _ _ hw _ _ h _ _ _=>
  rcases h with h|⟨_,h⟩
  .simp_all
  .exact hd iw _ h
 |c qs ix iw k i kd cl ans a _ _ _ _ _ h _ _ _ _ _=>simp_all
variable {S:aN->Prop}{K R:Pr}{t:Array aF}
theorem bL.forget {K' R':Pr}{g:Array aF}(h:bL S K R g t):bL S K' R' (g.map cl) t:=by
 refine⟨by rw[Array.size_map];exact h.1,λi v v' h1 h2=>?_⟩;rw[Fo] at h1
 cases h3:g[i]? with
 |none=>rw[h3] at h1;cases h1
 |some u=>
  rw[h3] at h1;simp only[Fl,jM] at h1;subst h1;obtain⟨c1,c2,_⟩:=cl_spec u;exact wW.vr (X:=λ_=>False) (KD:=λ_=>False) (c2 S K R v' (h.2 i u v' h3 h2)) (λp q y z=>z.elim) (λa b x e=>e.elim) c1.inX
variable {i:Nat}
theorem set_getD (h:i<t.size):t.setIfInBounds i (t.getD i aA)=t:=by
 apply Array.ext_getElem?;intro j;rw[Array.getElem?_setIfInBounds];split
 .simp_all
 .rfl
def rI.After (p:rI):Prop:=∀(K' R':Pr) (w':aE) (v':fC) (qn:List Nat) (u0 u1 u2 u3 u4 u5 u6 u8 u9 gS gF gE fZ fY gA u16 hY kH kO jH gT iA gY gZ iG iM gV iF iE jE jD u32 iL iK iD iC kE kL iH iI iJ jB iO iV iQ jA iN iP iU iS iZ mU mY kV kS kN kP kD kQ kM jU j7 jZ u64 j9 jY j5 j6 kZ kK kF j8:aF),p.K1.le K'->p.R1.le R'->p.End qn v' w'->BO (Fh aK C7 fT p.Post (Bf p.Shun p.Wg) p.W0 p.St K' R' p.base) () ⟨42,#[u0,u1,u2,u3,u4,u5,u6,.pointer (some ⟨p.gh,0,none⟩),u8,u9,gS,gF,gE,fZ,fY,gA,u16,hY,kH,kO,jH,gT,iA,gY,gZ,iG,iM,gV,iF,iE,jE,jD,u32,iL,iK,iD,iC,kE,kL,iH,iI,iJ,jB,iO,iV,iQ,jA,iN,iP,iU,iS,iZ,mU,mY,kV,kS,kN,kP,kD,kQ,kM,jU,j7,jZ,u64,j9,jY,j5,j6,kZ,kK,kF,j8],[.inRegion Zh [],.code (.seq Tn .ret)],false⟩ w'
variable {p:rI}{eI SS Fz:Nat->Prop}{R0:Pr}{Wf w:aE}{qs qn:List Nat}{v:fC}{gS gF gE fZ fY gA u16 hY kH kO jH gT iA gY gZ iG iM gV iF iE jE jD u32 iL iK iD iC kE kL iH iI iJ jB iO iV iQ jA iN iP iU iS iZ kN kP kD kQ kM jU j7 jZ u64 j9 jY j5 j6 kZ kK kF j8:aF}
theorem rh_last (zmQ:p.After)(Fa:∃b,p.R1 p.gh b)(hN:¬qs.length<p.N)(aX:∀a,p.St a->eI a)(vG:∀b,b<p.W0.heap.size->SS b)(hF:∀b,Fz b->SS b)(o8:p.W0.heap.size<=p.Wg)(zhV:p.R1.le R0)
 (cN:∀e:G2,e.W=C1 p.o p.es->e.qs=qs->zcs e p.o p.es p.ln qn p.lo p.hb v w K p.A p.n p.c) (hh:w.cell? ⟨p.gh,0,none⟩=some (.pointer (some ⟨p.hb,0,none⟩))) (he:w.cell? ⟨p.ge,0,none⟩=some (.slice p.A p.n p.c))
 (tU:∀K' R τ W w' v',K.le K'->R0.le R->cV (SF fT) K' R (pE aK) eI w' W->IQ p.W0 p.St (Bf p.Shun p.Wg) p.Wg SS R0 Fz Wf qs [] R τ W->bE w' p.lo p.hb v' (rW p.o p.es p.ln qn qn.length)->fX v' (rW p.o p.es p.ln qn qn.length)->bP p.hb v w v' w'->p.D W) {u0 u1 u2 u4 u5 u6 u9 mU mY kV kS:aF}:
 BO (p.cx K eI SS R0 Fz Wf qs []) (.mN qs) ⟨42,#[u0,u1,u2,.pointer (some ⟨p.ge,0,none⟩),u4,u5,u6,.pointer (some ⟨p.gh,0,none⟩),.nilFunc,u9,gS,gF,gE,fZ,fY,gA,u16,hY,kH,kO,jH,gT,iA,gY,gZ,iG,iM,gV,iF,iE,jE,jD,u32,iL,iK,iD,iC,kE,kL,iH,iI,iJ,jB,iO,iV,iQ,jA,iN,iP,iU,iS,iZ,mU,mY,kV,kS,kN,kP,kD,kQ,kM,jU,j7,jZ,u64,j9,jY,j5,j6,kZ,kK,kF,j8],[.code (.seq X6 (.seq Vb (.seq Yj (.seq Tn .ret))))],false⟩ w:=by
 let C:=p.cx K eI SS R0 Fz Wf qs []
 have hI:eZ C:=zj9 (C:=C) rfl aX vG hF o8;have hX:=zeJ (ty:=rR.tWg) (St:=p.St) (Shun:=Bf p.Shun p.Wg) (R0:=R0) (Fz:=Fz) (Wf:=Wf) (qs:=qs) (chs:=[]) vG hF o8;show BO C _ _ _;refine BO.seq hI ?_;rw[zyv];refine BO.regs hI _ zCw ?_;refine BO.add (C:=C) (Lk:=rR) (s:=8) (nx:=.mW qs) zau rfl rfl rfl hI rfl hX zGw rfl rfl (yT.2 rfl) (by intro s hs;cases hs;show(69:Nat)∉([8]:List Nat);decide) (by show eK p.N (C1 p.o p.es) (.mN qs)=_;simp[eK,hN]) ?_;simp only[b7,gC,dV,dU];refine BO.regEnd hI ?_;refine BO.seq hI ?_;rw[zB9];refine BO.regs hI _ zF1 ?_;refine BO.go (C:=C) rfl hI zFg zDy rfl rfl rfl rfl rfl rfl (lc:=.wk qs 0) (nx:=.mZ) (pub:=[]) rfl aQ λR W t τ hw ha Dt ht hi=>?_;have hw:cV (SF fT) K R (pE aK) eI w W:=hw;have hi:zD rR.tWg p.Wg (IQ p.W0 p.St (Bf p.Shun p.Wg) p.Wg SS R0 Fz Wf qs []) R τ W:=hi;obtain⟨hi,nI⟩:=hi;have h8:t.getD 8 aA=.pointer (some ⟨p.Wg,0,none⟩):=Dt (8,.pointer (some ⟨p.Wg,0,none⟩)) (yT.2 rfl);have Zf:R0.le R:=hi.x.x.le;have ha:bL (SF fT) K R #[u0,u1,u2,.pointer (some ⟨p.ge,0,none⟩),u4,u5,u6,.pointer (some ⟨p.gh,0,none⟩),.nilFunc,u9,gS,gF,gE,fZ,fY,gA,u16,hY,kH,kO,jH,gT,iA,gY,gZ,iG,iM,gV,iF,iE,jE,jD,u32,iL,iK,iD,iC,kE,kL,iH,iI,iJ,jB,iO,iV,iQ,jA,iN,iP,iU,iS,iZ,mU,mY,kV,kS,kN,kP,kD,kQ,kM,jU,j7,jZ,u64,j9,jY,j5,j6,.tuple #[],kK,kF,j8] t:=ha;have cK:t.size=73:=ha.1.symm;obtain⟨zzm,qO⟩:=Fa;have h7:t.getD 7 aA=.pointer (some ⟨zzm,0,none⟩):=by
  have h1:VR (SF fT) K R (.pointer (some ⟨p.gh,0,none⟩)) (t.getD 7 aA):=ha.getD 7 (yS (S:=SF fT) (K:=K) (R:=R));generalize t.getD 7 aA=t7 at h1
  cases h1 with
  |pointer y=>cases y with|some y=>cases y with|mk y=>rw[hw.inj _ _ _ (.inl y) (.inl (Zf _ _ (zhV _ _ qO)))]
 refine⟨tauWm τ,τ,parts_w hi,?_,?_⟩
 .rw[zAc]
  refine zCg (Lk:=rR) (s:=8) (ops:=Zh) (o:=oRH24_0) zau rfl (λn g w h=>zEW n g w h) rfl rfl rfl ?_ nI λWn d hD=>?_
  .show(t.setIfInBounds 70 _).getD 8 aA=.pointer (some ⟨p.Wg,0,none⟩)
   simp_all
  .obtain⟨K',R',w',v',zgz,k1,k2,k3,k4,k5,k6⟩:=zDG hD
   have zGe:=zmQ K' R' w' v' zgz (cl (u0)) (cl (u1)) (cl (u2)) (cl (.pointer (some ⟨p.ge,0,none⟩))) (cl (u4)) (cl (u5)) (cl (u6)) (cl (.nilFunc)) (cl (u9)) (cl (gS)) (cl (gF)) (cl (gE)) (cl (fZ)) (cl (fY)) (cl (gA)) (cl (u16)) (cl (hY)) (cl (kH)) (cl (kO)) (cl (jH)) (cl (gT)) (cl (iA)) (cl (gY)) (cl (gZ)) (cl (iG)) (cl (iM)) (cl (gV)) (cl (iF)) (cl (iE)) (cl (jE)) (cl (jD)) (cl (u32)) (cl (iL)) (cl (iK)) (cl (iD)) (cl (iC)) (cl (kE)) (cl (kL)) (cl (iH)) (cl (iI)) (cl (iJ)) (cl (jB)) (cl (iO)) (cl (iV)) (cl (iQ)) (cl (jA)) (cl (iN)) (cl (iP)) (cl (iU)) (cl (iS)) (cl (iZ)) (cl (mU)) (cl (mY)) (cl (kV)) (cl (kS)) (cl (kN)) (cl (kP)) (cl (kD)) (cl (kQ)) (cl (kM)) (cl (jU)) (cl (j7)) (cl (jZ)) (cl (u64)) (cl (j9)) (cl (jY)) (cl (j5)) (cl (j6)) (cl (.tuple #[])) .nilFunc (.tuple #[]) (cl (j8)) k1 k2 k6;have h1:=(bL.forget (K':=K') (R':=R') ha).set 7 (v:=.pointer (some ⟨p.gh,0,none⟩)) (v':=t.getD 7 aA) (by rw[h7];exact .pointer (.some (.mk (k2 _ _ qO))));rw[set_getD aC] at h1;simp only[uR,jG,tK,gC,dV,dU] at h1;have h1:=(h1.set 70 (.junk (v':=(.func (.func 57) #[] ((#[.tmp 8,.tmp 7,.tmp 3]:Array cI).map (bJ t C.ds.ds).eval))) Zm)).set 71 (v:=.tuple #[]) (v':=.tuple #[]) (.tuple rfl λi v v' h=>by simp at h);simp only[gC,dV,dU] at h1;have oQ:=BO.aloneIn (W:=Wn.at d) (m':=⟨42,(b7 ⟨t.setIfInBounds 70 (.func (.func 57) #[] ((#[.tmp 8,.tmp 7,.tmp 3]:Array cI).map (bJ t C.ds.ds).eval)),[]⟩ (some 71) (.tuple #[])).tmps,[.inRegion Zh [],.code (.seq Tn .ret)],false⟩) zGe (cV.at k3 d) ⟨rfl,rfl,rfl,h1,λx l9=>by cases l9⟩ ⟨k5.old,k5.rel,k5.new⟩ ⟨k4.os,k4.tape,k4.output,k4.size,k4.block,k4.old⟩;have e:=mX .nil 42 (b7 ⟨t.setIfInBounds 70 (.func (.func 57) #[] ((#[.tmp 8,.tmp 7,.tmp 3]:Array cI).map (bJ t C.ds.ds).eval)),[]⟩ (some 71) (.tuple #[])).tmps [.inRegion Zh [],.code (.seq Tn .ret)];rw[G5] at e;rw[e] at oQ;exact oQ
 .let e:G2:=⟨rR.tWg,p.Wg,p.N,C1 p.o p.es,p.D,finS p.Post p.Shun p.Wg,eI,p.W0,p.St,Bf p.Shun p.Wg,SS,R0,Fz,Wf,qs⟩
  have H:e.d.Ok:=⟨aX,vG,hF,o8,nD⟩;simp only[uR,jG,tK,vT];exact wk_born (e:=e) H rfl (Q:=λR'=>R0.le R') (λR R' h h'=>h'.trans h) Zf hw ht hi nI (cN e rfl rfl) hh he ha rfl rfl h8 (λK' R τ W w' v'=>tU K' R τ W w' v')
variable {wB w':aE}{c gq:Nat}{A:Option bD}{o:gG}{es:List dX}{ln:List Nat}
theorem oS.but {lo go ge n hb gh:Nat}(h:oS wB lo go ge n c A o es hb gh ln qn v w)(hs:w'.heap.size=w.heap.size)(C9:lo<=gq)(Be:gq≠gh)(zcL:some gq∉parts v hb)(k:∀b,b≠gq->w'.heap[b]? =w.heap[b]?):oS wB lo go ge n c A o es hb gh ln qn v w':=
 ⟨h.e.keep aC λb hb=>k b aC,h.at_.keep λb _ hp=>k b λe=>zcL (e▸hp),h.mp,h.nd,λx hx=>by rw[hs];exact h.lt x hx,(k _ (Ne.symm Be)).trans h.bh,h.nh,h.ghl⟩
variable {Tf:Array aF}
theorem al17 :(aO (bJ Tf []).eval zo1).run aK w=.ok (.value (.pointer (some ⟨w.heap.size,0,none⟩))) (w.alloc (.cells #[.chan none] 95)):=by
 unfold aO;go_simp
theorem st17 {V:Nat->aF}{gc:Nat}(hT:xO Tf V)(e1:V 9=.pointer (some ⟨gq,0,none⟩))(e2:V 55=.chan (some gc))(hh:w.cell? ⟨gq,0,none⟩=some (.chan none))(hf:w.frozen? ⟨gq,0,none⟩=false){T:lM}:(aO (bJ Tf []).eval znO).run aK (Tt.tp w T 0)=.ok .skip (Tt.tp (w.setCell ⟨gq,0,none⟩ (.chan (some gc))) T 0):=by
 have zdK:(Tt.tp w T 0).cell? ⟨gq,0,none⟩=some (.chan none):=hh;have El:(Tt.tp w T 0).frozen? ⟨gq,0,none⟩=false:=hf;clear hh hf;unfold aO;go_simp
 try rfl
def zaN:Go.Code:=.seq ziJ (.seq (.cond (.tmp 54) .skip (.exit 4)) (.seq (.block 5 (.seq zam (.seq Oi (.seq Qr Uv)))) zkt))
def ziY:Go.Code:=.seq X6 (.seq Vb (.seq Yj (.seq Tn .ret)))
def rI.ok {chs:List Nat}(aX:∀a,p.St a->eI a)(vG:∀b,b<p.W0.heap.size->SS b)(hF:∀b,Fz b->SS b)(o8:p.W0.heap.size<=p.Wg):eZ (p.cx K eI SS R0 Fz Wf qs chs):=zj9 (C:=p.cx K eI SS R0 Fz Wf qs chs) rfl aX vG hF o8
structure Ci (p:rI)(wB:aE)(K:Pr)(eI SS:Nat->Prop)(R0:Pr)(Fz:Nat->Prop)(Wf:aE)(Xa:Nat->Prop)(qs qn:List Nat)(v:fC)(w:aE):Prop where
 K1:p.K1.le K
 R1:p.R1.le R0
 st:∀a,p.St a->eI a
 ss:∀b,b<p.W0.heap.size->SS b
 F:∀b,Fz b->SS b
 th:K8 p.w00 K R0 p.St eI Fz Wf Xa
 fz:∀b,Fz b->∃a,R0 a b/\eI a
 xt:∀a,xT a=true->eI a
 xa:∀a,Xa a->xT a=true\/(p.lo<=a/\a<w.heap.size/\a≠p.gh/\some a∉parts v p.hb)
 lq:qs.length=qn.length
 kq:∀(i g:Nat),qn[i]? =some g->K g (qa qs i)
 h:oS wB p.lo p.go p.ge p.n p.c p.A p.o p.es p.hb p.gh p.ln qn v w
structure PhOk (p:rI)(wB:aE):Prop where
 after:p.After
 gh:∃b,p.R1 p.gh b
 ok:fJ p.o p.es=true
 low:p.W0.heap.size<=p.Wg
 lo0:p.lo0<=p.lo
 tb:zN wB
 tl:∀a,xT a=true->a<p.lo0
 wB:∀b,b<p.lo0->xT b=false->wB.heap[b]? =p.w00.heap[b]?
 ln:(p.ln.length:Int)=p.o.ln
variable {W:aE}{Xa:Nat->Prop}
theorem op_dep (H:PhOk p wB)(I:Ci p wB K eI SS R0 Fz Wf Xa qs qn v w)(S8:(qn.length:Int)=p.o.op){K':Pr}{τ:cC}{v':fC}(hK:K.le K')(hR:R0.le R)(hw:cV (SF fT) K' R (pE aK) eI w' W)(hi:IQ p.W0 p.St (Bf p.Shun p.Wg) p.Wg SS R0 Fz Wf qs [] R τ W)
 (hA:bE w' p.lo p.hb v' (rW p.o p.es p.ln qn qn.length)) (hT:bP p.hb v w v' w'):p.D W:=by
 obtain⟨wn,t1,t2,t3,t4⟩:=I.th K' R w' W hK hR hw (λb hb=>(hi.x.x.fz b hb).2.1);have eB:p.lo<=w.heap.size:=I.h.e.lo_;have zys:∀b,b<p.lo->xT b=false->¬Xa b:=λb hb hx h=>by
  rcases I.xa b h with h|⟨h,_⟩
  .rw[h] at hx;cases hx
  .omega
 have zHP:∀b,p.lo<=b->xT b=false:=λb hb=>by
  cases e:xT b with
  |false=>rfl
  |true=>have:=H.tl b e;have:=H.lo0;omega
 refine⟨K',R,wn,v',qn,vU I.K1 hK,I.R1.trans hR,t1,hi.x.x.im.kp,hi.x.x.im.sh,hA.keep λb _ hp=>t3 b λhx=>?_,λb hb=>?_,by have:=hT.size;omega,?_,S8⟩
 .have zI0:=(hA.lt b hp).1
  rcases I.xa b hx with h|⟨_,h2,_,h4⟩
  .simp_all
  .rcases hT.moved b hp with hm|hm
   .exact h4 hm
   .omega
 .cases e:xT b with
  |true=>exact t4 b e
  |false=>
   have bZ:b<p.lo:=jW hb H.lo0;rw[t3 b (zys b bZ e),hT.block b aC (λhp=>by have:=(I.h.at_.lt b hp).1;omega),I.h.e.old b bZ,H.wB b hb e]
 .rw[t3 p.gh λhx=>?_]
  .exact(I.h.at_.turned hT I.h.bh I.h.nh).1
  .rcases I.xa _ hx with h|⟨_,_,h3,_⟩
   .rw[zHP _ I.h.ghl] at h;cases h
   .exact h3 rfl
theorem op_pre (H:PhOk p wB)(I:Ci p wB K eI SS R0 Fz Wf Xa qs qn v w)(S8:(qn.length:Int)=p.o.op)(e:G2)(he:e.W=C1 p.o p.es)(hq:e.qs=qs):zcs e p.o p.es p.ln qn p.lo p.hb v w K p.A p.n p.c:=
 ⟨H.ok,he,I.h.at_,I.h.mr,I.h.nd,H.ln,S8,by rw[hq];exact I.lq,I.h.e.lo_,I.h.e.tab,I.h.e.ev,by rw[hq];exact I.kq⟩
def und_chq:aK.underlying 95=some (.chan .both 124):=aT
def zAV:∃ie,aK.info? 124=some ie:=Option.isSome_iff_exists.1 aT
theorem zyT (h:i<qs.length):qa (qs++[c]) i=qa qs i:=by simp[qa,Vn,Mo h]
theorem qa_snoc :qa (qs++[c]) qs.length=c:=by simp[qa,Vn]
theorem rh_go (H:PhOk p wB){gc cr j:Nat}(I:Ci p wB K eI SS R0 Fz Wf Xa qs qn v w)(hN:qs.length<p.N)(zKO:j=qn.length)(zdo:K gc cr)
 (C9:w.heap[gq]? =some (.cells #[.chan (some gc)] 95)) (kW:p.lo<=gq) (Fa:gq≠p.gh) (za9:some gq∉parts v p.hb) {kk:List dS}
 (zak:∀(zcW zaH:Nat->Prop) (zbO:Pr) (zaG:Nat->Prop) (zc7:aE) (zjG:Nat->Prop) (v':fC) (w':aE) u0 u1 u4 u5 u6 gS gF gE fZ fY gA u16 hY kH kO jH gT iA gY gZ iG iM gV iF iE jE jD u32 iL iK iD iC kE kL iH iI iJ jB iO iV iQ jA iN iP iU iS iZ kN kP kD kQ kM jU j7 jZ u64 j9 j5 j6 kZ kK kF j8 u9 kV kS jY,Ci p wB K zcW zaH zbO zaG zc7 zjG (qs++[cr]) (qn++[gc]) v' w'->BO (p.cx K zcW zaH zbO zaG zc7 (qs++[cr]) []) (.mN (qs++[cr])) ⟨42,#[u0,u1,.pointer (some ⟨p.go,0,none⟩),.pointer (some ⟨p.ge,0,none⟩),u4,u5,u6,.pointer (some ⟨p.gh,0,none⟩),.nilFunc,u9,gS,gF,gE,fZ,fY,gA,u16,hY,kH,kO,jH,gT,iA,gY,gZ,iG,iM,gV,iF,iE,jE,jD,u32,iL,iK,iD,iC,kE,kL,iH,iI,iJ,jB,iO,iV,iQ,jA,iN,iP,iU,iS,iZ,.int .i64 p.o.op,.int .i64 j,kV,kS,kN,kP,kD,kQ,kM,jU,j7,jZ,u64,j9,jY,j5,j6,kZ,kK,kF,j8],kk,false⟩ w')
 {u0 u1 u4 u5 u6:aF}:
 BO (p.cx K eI SS R0 Fz Wf qs [cr]) (.mA qs cr) ⟨42,#[u0,u1,.pointer (some ⟨p.go,0,none⟩),.pointer (some ⟨p.ge,0,none⟩),u4,u5,u6,.pointer (some ⟨p.gh,0,none⟩),.nilFunc,.pointer (some ⟨gq,0,none⟩),gS,gF,gE,fZ,fY,gA,u16,hY,kH,kO,jH,gT,iA,gY,gZ,iG,iM,gV,iF,iE,jE,jD,u32,iL,iK,iD,iC,kE,kL,iH,iI,iJ,jB,iO,iV,iQ,jA,iN,iP,iU,iS,iZ,.int .i64 p.o.op,.int .i64 j,.bool true,.chan (some gc),kN,kP,kD,kQ,kM,jU,j7,jZ,u64,j9,jY,j5,j6,kZ,kK,kF,j8],[.code (.seq Oi (.seq Qr Uv))]++kk,false⟩ w:=by
 let C:=p.cx K eI SS R0 Fz Wf qs [cr]
 have hI:eZ C:=rI.ok I.st I.ss I.F H.low;have hX:=zeJ (ty:=rR.tWg) (St:=p.St) (Shun:=Bf p.Shun p.Wg) (R0:=R0) (Fz:=Fz) (Wf:=Wf) (qs:=qs) (chs:=[cr]) I.ss I.F H.low;show BO C _ ⟨_,_,.code (.seq Oi (.seq Qr Uv))::kk,false⟩ _;have rU:rV p.o=true:=by
  have:=H.ok;unfold fJ at this;simp only[iY] at this;exact this.1.1
 unfold rV at rU;have rU:=of_decide_eq_true rU;have zJz:p.N<=4:=by unfold rI.N;omega
 refine BO.seq hI ?_;refine cw_RQ (C:=C) (l:=.mA qs cr) (c:=⟨p.lo,p.hb,p.gh,gq,gc,v,w,v,⟨lY p.o,p.ln,qn,[]⟩⟩) hI rfl rfl rfl nD (λi o s h1 h2 h3=>?_) (by show qn.length<=1000;have:=I.lq;omega) I.h.nh za9 rfl rfl rfl (λvs C' l' w' tX hS=>?_) ⟨rfl,rfl,λ_=>⟨aI I.h.at_.blk 6,I.h.bh,C9⟩,⟨I.h.at_,bP.refl,I.h.e.lo_⟩⟩
 .obtain rfl:s=8:=yT.1 h3
  have hm:some 8∈lI.toList.map (·.dst):=List.mem_map.2 ⟨o,dZ (by rw[Cf];exact h1),h2⟩;rw[zwC] at hm;simp at hm
 rw[Go.Mt.Ax,zwC];simp only[Go.Mt.xR,dV,dU];obtain⟨rfl,rfl,_,h4⟩:=hS;have s4:WH.RQ2 ⟨p.lo,p.hb,p.gh,gq,gc,v,w,v,⟨lY p.o,p.ln,qn,[]⟩⟩ gc w':=by
  rcases vs with _|⟨b,_|⟨x,_|⟨y,vs⟩⟩⟩
  .cases tX
  .cases tX
  .cases tX
  .exact h4
 obtain⟨v2,a2,t2,mp⟩:=s4;have H5:oS wB p.lo p.go p.ge p.n p.c p.A p.o p.es p.hb p.gh p.ln (qn++[gc]) v2 w':=I.h.turn t2 a2 mp I.h.nd λx hx=>jW (I.h.lt x hx) t2.size;obtain⟨zm5,zuq⟩:=I.h.at_.turned t2 C9 za9;have HR:=aD H5;have T2:=aD t2;clear H5 a2 mp h4 tX;refine BO.regEnd hI ?_;refine BO.seq hI ?_;rw[zC3];refine BO.regs hI _ zzw ?_;refine BO.add (C:=C) (Lk:=rR) (s:=8) (nx:=.mS qs cr) zau rfl rfl rfl hI rfl hX zH1 rfl rfl (yT.2 rfl) (by intro s hs;cases hs;show(66:Nat)∉([8]:List Nat);decide) rfl ?_;simp only[b7,gC,dV,dU];refine BO.regEnd hI ?_;rw[zzy];refine BO.regs hI _ zFk ?_;refine BO.go (C:=C) rfl hI zDJ zD4 rfl rfl rfl rfl rfl rfl (lc:=.op cr 0 (nO (C1 p.o p.es) 0 qs.length)) (nx:=.mN (qs++[cr])) (pub:=[cr]) rfl aQ λR W t τ hw ha Dt ht hi=>?_;have hw:cV (SF fT) K R (pE aK) eI w' W:=hw;have hi:zD rR.tWg p.Wg (IQ p.W0 p.St (Bf p.Shun p.Wg) p.Wg SS R0 Fz Wf qs [cr]) R τ W:=hi;obtain⟨hi,nI⟩:=hi;have h8:t.getD 8 aA=.pointer (some ⟨p.Wg,0,none⟩):=Dt (8,.pointer (some ⟨p.Wg,0,none⟩)) (yT.2 rfl);have cK:t.size=73:=ha.1.symm;have fG:∀a,¬R a cr:=(hi.x.ch cr (yT.2 rfl)).2.2;have tF:zN w':=λg hg=>by
  have:=H.tl g hg;have:=H.lo0;rw[HR.o.e.old g aC];exact H.tb g hg
 have zDD:∃b,R gq b:=by
  have h1:VR (SF fT) K R (.pointer (some ⟨gq,0,none⟩)) (t.getD 9 aA):=ha.getD 9 (yS (S:=SF fT) (K:=K) (R:=R));generalize t.getD 9 aA=t9 at h1
  cases h1 with
  |pointer y=>cases y with|some y=>cases y with|mk y=>exact⟨_,y⟩
 have hx:XOk R (xQ gq) w':=⟨λa h=>by
  rcases zdb h with rfl|h
  .exact zDD
  .exact⟨a,hw.tb a h⟩,λa h=>by
  rcases zdb h with rfl|h
  .exact⟨_,_,_,zm5⟩
  .obtain⟨c,T,fz,hc,_⟩:=tF a h;exact⟨c,T,fz,hc⟩⟩
 have Zf:R0.le R:=hi.x.x.le;have fS:=zr3 hw hx;have zyK:∀b,b≠gq->(uY (xQ gq) w').heap[b]? =w'.heap[b]? :=λb hb=>frX_same λh=>by
  rcases zdb h with h|h
  .exact absurd h hb
  .exact(hw.st b (I.xt b h)).2
 have zEY:=zBl (X:=xQ gq) (qs:=qs) hw ht fG;have zhZ:=iq_qm (X:=xQ gq) hw ht hi;refine⟨Lz τ R (xQ gq) cr qs,Yi τ R (xQ gq),parts_q ht hi,?_,?_⟩
 .have J:Ci p wB K (λa=>eI a\/xQ gq a=true) (Lz τ R (xQ gq) cr qs).still R (H8 R eI (xQ gq)) W (λa=>Xa a\/xQ gq a=true) (qs++[cr]) (qn++[gc]) v2 (uY (xQ gq) w'):=by
   refine⟨I.K1,I.R1.trans Zf,λa h=>.inl (I.st a h),λb hb=>.inl (by rw[hi.x.x.im.still];exact I.ss b hb),λb hb=>?_,I.th.step (xU K) Zf hw hx (λb hb=>⟨(hi.x.x.fz b hb).2.1,let⟨a,x,y⟩:=I.fz b hb;⟨a,Zf _ _ x,y⟩⟩),λb hb=>hb,λa h=>.inl (I.xt a h),λa h=>?_,by rw[jP,jP,I.lq];rfl,λi g hg=>?_,HR.o.but (Rg _ _) kW Fa zuq zyK⟩
   .obtain⟨a,x,h⟩:=hb
    rcases h with h|h
    .exact .inl ((ht a b x).1 h)
    .exact .inr ⟨a,x,h⟩
   .rw[Rg]
    rcases h with h|h
    .rcases I.xa a h with h|⟨h1,h2,h3,h4⟩
     .exact .inl h
     .exact .inr ⟨h1,jW h2 T2.o.size,h3,λhp=>(T2.o.moved a hp).elim h4 λx=>absurd h2 (Nat.not_lt.2 x)⟩
    .rcases zdb h with rfl|h
     .exact .inr ⟨kW,iB zm5,Fa,zuq⟩
     .exact .inl h
   .rcases uE i qn.length with aU|Cr
    .rw[Mo aU] at hg
     rw[zyT (by rw[I.lq];exact aU)];exact I.kq i g hg
    .obtain rfl:i=qn.length:=by
      have:=(lR.1 hg).1;simp at this;omega
     simp at hg;subst hg;rw[<-I.lq,qa_snoc];exact zdo
  have Hv:eZ (p.cx K (λa=>eI a\/xQ gq a=true) (Lz τ R (xQ gq) cr qs).still R (H8 R eI (xQ gq)) W (qs++[cr]) []):=rI.ok J.st J.ss J.F H.low;have h1:=ha.set 67 (.junk (v':=(.func (.func 54) #[] ((#[.tmp 8,.tmp 9]:Array cI).map (bJ t C.ds.ds).eval))) Zm);simp only[gC,dV,dU] at h1;have fin:∀(G1:Array aF),bL (SF fT) K R G1 (t.setIfInBounds 67 (.func (.func 54) #[] ((#[.tmp 8,.tmp 9]:Array cI).map (bJ t C.ds.ds).eval)))->BO (p.cx K (λa=>eI a\/xQ gq a=true) (Lz τ R (xQ gq) cr qs).still R (H8 R eI (xQ gq)) W (qs++[cr]) []) (.mN (qs++[cr])) ⟨42,G1,.inRegion Lh []::kk,false⟩ (uY (xQ gq) w')->b6 C.p C.ty C.Wg C.A C.Fin C.main (.usr (.mN (qs++[cr]))) 0 (Lz τ R (xQ gq) cr qs) (G ((C.ds.base 42).at ⟨t.setIfInBounds 67 (.func (.func 54) #[] ((#[.tmp 8,.tmp 9]:Array cI).map (bJ t C.ds.ds).eval)),C.ds.ds⟩ (.inRegion Lh []::kk)) C.base) W:=λG1 h1 hB=>by
   have hm:=hB R W ⟨42,t.setIfInBounds 67 (.func (.func 54) #[] ((#[.tmp 8,.tmp 9]:Array cI).map (bJ t C.ds.ds).eval)),.inRegion Lh []::kk,false⟩ (Lz τ R (xQ gq) cr qs) fS ⟨rfl,rfl,rfl,h1,λx l9=>?_⟩ zEY ⟨zhZ,nI⟩
   .rw[Cx.B_none rfl,mX] at hm
    exact hm
   .obtain rfl:=yT.1 l9
    show(t.setIfInBounds 67 _).getD 8 aA=_;rw[<-h8];simp only[xE,Array.getElem?_setIfInBounds_ne (show(67:Nat)≠8 by decide)]
  exact fin _ h1 (BO.regEnd (ops:=Lh) Hv (zak _ _ _ _ _ _ v2 (uY (xQ gq) w') _ _ _ _ _ _ _ _ _ _ _ _ _ _ _ _ _ _ _ _ _ _ _ _ _ _ _ _ _ _ _ _ _ _ _ _ _ _ _ _ _ _ _ _ _ _ _ _ _ _ _ _ _ _ _ _ _ _ _ _ _ _ _ _ _ _ _ J))
 .simp only[uR,jG,tK,vT]
  exact op_born hw hx zdo fG zm5 tF ha rfl h8 hi.x.x.im.wg hi.x.x.im.rel nI
variable {St:Nat->Prop}
def K8.mono {w00:aE}{K2:Pr}(h:K8 w00 K R St eI Fz Wf Xa)(hK:K.le K2):K8 w00 K2 R St eI Fz Wf Xa:=λK' R' wn Wn a b c d=>h K' R' wn Wn (vU hK a) b c d
def Ci.tp (I:Ci p wB K eI SS R0 Fz Wf Xa qs qn v w)(T:lM)(n:Nat):Ci p wB K eI SS R0 Fz Wf Xa qs qn v (Tt.tp w T n):=⟨I.K1,I.R1,I.st,I.ss,I.F,I.th,I.fz,I.xt,I.xa,I.lq,I.kq,I.h.tp T n⟩
theorem rh_ops (H:PhOk p wB):∀(m j:Nat),((j+m:Nat):Int)=p.o.op->∀(K:Pr) (eI SS:Nat->Prop) (R0:Pr) (Fz:Nat->Prop) (Wf:aE) (Xa:Nat->Prop) (qs qn:List Nat) (v:fC) (w:aE) (u0 u1 u4 u5 u6 u9 gS gF gE fZ fY gA u16 hY kH kO jH gT iA gY gZ iG iM gV iF iE jE jD u32 iL iK iD iC kE kL iH iI iJ jB iO iV iQ jA iN iP iU iS iZ kV kS kN kP kD kQ kM jU j7 jZ u64 j9 jY j5 j6 kZ kK kF j8:aF),Ci p wB K eI SS R0 Fz Wf Xa qs qn v w->qn.length=j->
 BO (p.cx K eI SS R0 Fz Wf qs []) (.mN qs) ⟨42,#[u0,u1,.pointer (some ⟨p.go,0,none⟩),.pointer (some ⟨p.ge,0,none⟩),u4,u5,u6,.pointer (some ⟨p.gh,0,none⟩),.nilFunc,u9,gS,gF,gE,fZ,fY,gA,u16,hY,kH,kO,jH,gT,iA,gY,gZ,iG,iM,gV,iF,iE,jE,jD,u32,iL,iK,iD,iC,kE,kL,iH,iI,iJ,jB,iO,iV,iQ,jA,iN,iP,iU,iS,iZ,.int .i64 p.o.op,.int .i64 j,kV,kS,kN,kP,kD,kQ,kM,jU,j7,jZ,u64,j9,jY,j5,j6,kZ,kK,kF,j8],[.code zaN,.inLoop zaN,.inBlock 4,.code ziY],false⟩ w:=by
 have rU:rV p.o=true:=by
  have:=H.ok;unfold fJ at this;simp only[iY] at this;exact this.1.1
 unfold rV at rU;have rU:=of_decide_eq_true rU;have h4:p.o.op<=4:=rU.2.2.2.1;clear rU;intro m
 induction m with
 |zero=>
  intro j hj K eI SS R0 Fz Wf Xa qs qn v w u0 u1 u4 u5 u6 u9 gS gF gE fZ fY gA u16 hY kH kO jH gT iA gY gZ iG iM gV iF iE jE jD u32 iL iK iD iC kE kL iH iI iJ jB iO iV iQ jA iN iP iU iS iZ kV kS kN kP kD kQ kM jU j7 jZ u64 j9 jY j5 j6 kZ kK kF j8 I hl;have hI:eZ (p.cx K eI SS R0 Fz Wf qs []):=rI.ok I.st I.ss I.F H.low;have zl7:(j:Int)=p.o.op:=by simpa using hj
  have Hy:¬(j:Int)<p.o.op:=aC;have HI:=aD I;have HJ:=aD zl7;clear I hj zl7;unfold zaN;refine BO.seq hI ?_;refine BO.pV nD hI tY (λw1 T1 eG Q' dA=>?_);have Sb:=aD (show Ci p wB K eI SS R0 Fz Wf Xa qs qn v w1 by rw[eG];exact HI.o.tp T1 0);clear HI
  try dsimp only
  clear eG;go_wp2;refine dA.o _ _ ?_;clear dA;refine BO.seq hI ?_;refine BO.cond hI (t:=false) rfl rfl ?_;refine BO.exit hI (k':=[.code ziY]) rfl ?_;have I:=Sb.o;have zl7:=HJ.o;have zyI:=I.lq;refine rh_last H.after H.gh (by unfold rI.N;omega) I.st I.ss I.F H.low I.R1 (op_pre H I aC) (aI I.h.bh 0) (aI I.h.e.be 0) (λK' R τ W w' v' hK hR hw hi hA hm hT=>op_dep H I aC hK hR hw hi hA hT)
 |succ m ih=>
  intro j hj K eI SS R0 Fz Wf Xa qs qn v w u0 u1 u4 u5 u6 u9 gS gF gE fZ fY gA u16 hY kH kO jH gT iA gY gZ iG iM gV iF iE jE jD u32 iL iK iD iC kE kL iH iI iJ jB iO iV iQ jA iN iP iU iS iZ kV kS kN kP kD kQ kM jU j7 jZ u64 j9 jY j5 j6 kZ kK kF j8 I hl;have hI:eZ (p.cx K eI SS R0 Fz Wf qs []):=rI.ok I.st I.ss I.F H.low;have Hy:(j:Int)<p.o.op:=aC;have HI:=aD I;have HJ:=aD hj;clear I hj;unfold zaN;refine BO.seq hI ?_;refine BO.pV nD hI tY (λw1 T1 eG Q' dA=>?_);have Sb:=aD (show Ci p wB K eI SS R0 Fz Wf Xa qs qn v w1 by rw[eG];exact HI.o.tp T1 0);clear HI
  try dsimp only
  clear eG;go_wp2;refine dA.o _ _ ?_;clear dA;refine BO.seq hI ?_;refine BO.cond hI (t:=true) rfl rfl ?_;refine BO.skip hI ?_;refine BO.seq hI ?_;refine BO.block hI ?_;refine BO.seq hI ?_;have I:=Sb.o;have zyI:=I.lq;have zvp:qs.length<p.N:=by unfold rI.N;omega
  rw[zHA];refine BO.regs hI _ zDb ?_;obtain⟨ie,jS⟩:=zAV;refine BO.makeK hI zAW rfl rfl und_chq jS (by intro s hs;cases hs;show(55:Nat)∉([8]:List Nat);decide) (I':=λc=>zD rR.tWg p.Wg (IQ p.W0 p.St (Bf p.Shun p.Wg) p.Wg SS R0 Fz Wf qs [c])) (λR τ W hi ht aU=>?_) (λcr=>?_)
  .have hi:zD rR.tWg p.Wg (IQ p.W0 p.St (Bf p.Shun p.Wg) p.Wg SS R0 Fz Wf qs []) R τ W:=hi
   refine⟨zss hi.1 aU,?_⟩;obtain⟨st,sm,hx⟩:=hi.2;have l9:W.heap[p.Wg]? =some _:=hx;exact⟨st,sm,(C4 (eE.1 l9).1).trans l9⟩
  simp only[b7,gC,dV,dU];show BO (p.cx (K.add w1.heap.size cr) eI SS R0 Fz Wf qs [cr]) (.mN qs) _ _;refine BO.note (can:=λl'=>∃a,l'=.mA qs a) rfl (by show eK p.N (C1 p.o p.es) (.mN qs)=_;simp[eK,zvp]) ⟨cr,rfl⟩ ?_;have La:eZ (p.cx (K.add w1.heap.size cr) eI SS R0 Fz Wf qs [cr]):=rI.ok I.st I.ss I.F H.low;have jC:=aD (show oS wB p.lo p.go p.ge p.n p.c p.A p.o p.es p.hb p.gh p.ln qn v (w1.alloc o6) from I.h.below (eD (fN _ _) _));obtain⟨gc,Rr⟩:=aP w1.heap.size;have zw:(w1.alloc o6).heap.size=gc+1:=by rw[rC,Rr]
  rw[<-Rr];obtain⟨w2,eT⟩:=aP (w1.alloc o6);rw[<-eT] at jC zw⊢;have Hv:eZ (p.cx (K.add gc cr) eI SS R0 Fz Wf qs [cr]):=rI.ok I.st I.ss I.F H.low;refine BO.op nD Hv zA4 rfl aT (by intro s hs;cases hs;show(9:Nat)∉([8]:List Nat);decide) (λT=>⟨_,_,.inl al17,?_⟩);simp only[b7,gC,dV,dU];obtain⟨gq,C9⟩:=aP ((Tt.tp w2 T 0).heap.size);have zI3:gq=gc+1:=by rw[C9];exact zw
  have jR:=aD (show oS wB p.lo p.go p.ge p.n p.c p.A p.o p.es p.hb p.gh p.ln qn v ((Tt.tp w2 T 0).alloc (.cells #[.chan none] 95)) from(jC.o.tp T 0).below (eD (fN _ _) _));have KB:=aD (show((Tt.tp w2 T 0).alloc (.cells #[.chan none] 95)).heap[gq]? =some (.cells #[.chan none] 95) by rw[C9];exact De _ _);have z3:((Tt.tp w2 T 0).alloc (.cells #[.chan none] 95)).heap.size=gc+2:=by simp_all
  have kW:p.lo<=gq:=by have:=jC.o.e.lo_;omega
  have Fa:gq≠p.gh:=by
   intro e;have:=iB I.h.bh;omega
  have za9:some gq∉parts v p.hb:=λhp=>by have:=(I.h.at_.lt gq hp).2;omega
  rw[<-C9];clear C9;obtain⟨w3,iT⟩:=aP ((Tt.tp w2 T 0).alloc (.cells #[.chan none] 95));rw[<-iT] at jR KB z3⊢;clear iT jC zw eT;refine BO.op nD Hv zBH rfl aT aQ (λT2=>⟨aA,Tt.tp (w3.setCell ⟨gq,0,none⟩ (.chan (some gc))) T2 0,.inr ⟨st17 (V:=λs=>(#[u0,u1,.pointer (some ⟨p.go,0,none⟩),.pointer (some ⟨p.ge,0,none⟩),u4,u5,u6,.pointer (some ⟨p.gh,0,none⟩),.nilFunc,.pointer (some ⟨gq,0,none⟩),gS,gF,gE,fZ,fY,gA,u16,hY,kH,kO,jH,gT,iA,gY,gZ,iG,iM,gV,iF,iE,jE,jD,u32,iL,iK,iD,iC,kE,kL,iH,iI,iJ,jB,iO,iV,iQ,jA,iN,iP,iU,iS,iZ,.int .i64 p.o.op,.int .i64 j,.bool true,.chan (some gc),kN,kP,kD,kQ,kM,jU,j7,jZ,u64,j9,jY,j5,j6,kZ,kK,kF,j8]:Array aF).getD s aA) (λs=>rfl) rfl rfl (aI KB.o 0) (eO KB.o 0),rfl⟩,?_⟩);refine BO.regEnd Hv ?_;refine BO.tape ?_ T2 0;clear T2;have hK:K.le (K.add gc cr):=Pr.le_add _ _ _;have aS:∀b,b≠gq->(w3.setCell ⟨gq,0,none⟩ (.chan (some gc))).heap[b]? =w3.heap[b]? :=λb hb=>zax w3 _ _ hb;have I3:Ci p wB (K.add gc cr) eI SS R0 Fz Wf Xa qs qn v (w3.setCell ⟨gq,0,none⟩ (.chan (some gc))):=⟨vU I.K1 hK,I.R1,I.st,I.ss,I.F,I.th.mono hK,I.fz,I.xt,λa ha=>by
   rcases I.xa a ha with h|⟨h1,h2,h3,h4⟩
   .exact .inl h
   .exact .inr ⟨h1,by rw[Sj,z3];omega,h3,h4⟩,I.lq,λi g hg=>hK _ _ (I.kq i g hg),jR.o.but (Sj _ _ _) kW Fa za9 aS⟩
  refine rh_go H I3 zvp (j:=j) hl.symm (.inr ⟨rfl,rfl⟩) (n8 KB.o _) kW Fa za9 (λzcW zaH zbO zaG zc7 zjG v' w' u0 u1 u4 u5 u6 gS gF gE fZ fY gA u16 hY kH kO jH gT iA gY gZ iG iM gV iF iE jE jD u32 iL iK iD iC kE kL iH iI iJ jB iO iV iQ jA iN iP iU iS iZ kN kP kD kQ kM jU j7 jZ u64 j9 j5 j6 kZ kK kF j8 u9 kV kS jY I4=>?_);have ziy:eZ (p.cx (K.add gc cr) zcW zaH zbO zaG zc7 (qs++[cr]) []):=rI.ok I4.st I4.ss I4.F H.low;have zqg:=aD I4;clear I4 I3 aS jR KB I Sb;refine BO.inBlock ziy ?_;refine BO.pV nD ziy tY (λw5 T5 mF Q' dA=>?_);have zHl:=aD (show Ci p wB (K.add gc cr) zcW zaH zbO zaG zc7 zjG (qs++[cr]) (qn++[gc]) v' w5 by rw[mF];exact zqg.o.tp T5 0);clear zqg
  try dsimp only
  clear mF;go_wp2;refine dA.o _ _ ?_;clear dA;refine BO.inLoop ziy ?_;exact ih (j+1) (by have:=HJ.o;omega) _ _ _ _ _ _ _ _ _ _ _ _ _ _ _ _ _ _ _ _ _ _ _ _ _ _ _ _ _ _ _ _ _ _ _ _ _ _ _ _ _ _ _ _ _ _ _ _ _ _ _ _ _ _ _ _ _ _ _ _ _ _ _ _ _ _ _ _ _ _ _ _ _ _ _ _ _ _ zHl.o tJ
structure StW (W W4:aE):Prop where
 size:W4.heap.size=W.heap.size+1
 keep:∀b,b<W.heap.size->W4.heap[b]? =W.heap[b]?
 wg:Go.ConcR.WgAt 94 W.heap.size W4 0 0
 os:W4.os=W.os
 tape:W4.tape=W.tape
 output:W4.output=W.output
variable {Post:aF->aE->Prop}{Shun:Loc->Prop}
theorem zyF {CS:List dJ}
 (h:∀W4,StW W W4->J aK Post Shun W.heap.size (G ((Kt 42).at ⟨t.setIfInBounds 8 (.pointer (some ⟨W.heap.size,0,none⟩)),[]⟩ [.code G8]) CS) W4):
 J aK Post Shun W.heap.size (G ((Kt 42).at ⟨t,[]⟩ [.code (.seq Oa G8)]) CS) W:=by
 have start:∀d,J aK Post Shun W.heap.size (G ((Kt 42).at ⟨t,[]⟩ [.code (.seq Oa G8)]) CS) (W.at d):=by
  refine J.sil rfl (λw=>stepG_seq) ?_;generalize lP:G8=K0 at h⊢;simp only[Oa,oG,zgk,Option.getD_some];refine J.sil rfl (λw=>stepG_region) ?_;refine J.opq (o:=_) (v:=.pointer (some ⟨W.heap.size,0,none⟩)) (w':=W.alloc (.cells #[.int .u64 0,.int .u32 0] 94)) rfl rfl aH (λd=>?_) (λd e he=>?_) ?_
  .show _=Result.ok _ ((W.at d).alloc _)
   have hz:(W.at d).heap.size=W.heap.size:=rfl;rw[<-hz];simp[aO,go_sem,vT]
  .simp[aO,go_sem,vT] at he
  refine J.sil rfl (λw=>stepG_region_end) ?_;intro d;have aX:StW W ((W.alloc (.cells #[.int .u64 0,.int .u32 0] 94)).at d):=by
   refine⟨?_,λb hb=>?_,?_,rfl,rfl,rfl⟩
   .show(W.alloc _).heap.size=_
    rw[rC]
   .show(W.alloc _).heap[b]? =_
    rw[C4 hb]
   .show(W.alloc _).heap[_]? =_
    rw[De];rfl
  exact h _ aX
 exact start W.drawn
variable {W0:aE}
theorem rh_phase {base:List dJ}{lo0 lo go ge n hb gh:Nat}(hR:oS wB lo go ge n c A o es hb gh ln [] v w)(hgo:lo0<=go)(Cr:lo0<=ge)(eB:lo0<=lo)(bU:fJ o es=true)(yW:(ln.length:Int)=o.ln)(tF:zN w)(zbE:∀a,xT a=true->a<lo0)
 (zmQ:∀(R1:Pr) (Wg:Nat),R0.le R1->rI.After ⟨Post,Shun,W0,St,base,K,R1,w,lo0,lo,go,ge,n,c,A,o,es,hb,gh,ln,Wg⟩) {u0 u1 u4 u5 u6 u8 u9 mU mY kV kS:aF}:
 BO (rhC Post Shun W0 St R0 base K) () ⟨42,#[u0,u1,.pointer (some ⟨go,0,none⟩),.pointer (some ⟨ge,0,none⟩),u4,u5,u6,.pointer (some ⟨gh,0,none⟩),u8,u9,gS,gF,gE,fZ,fY,gA,u16,hY,kH,kO,jH,gT,iA,gY,gZ,iG,iM,gV,iF,iE,jE,jD,u32,iL,iK,iD,iC,kE,kL,iH,iI,iJ,jB,iO,iV,iQ,jA,iN,iP,iU,iS,iZ,mU,mY,kV,kS,kN,kP,kD,kQ,kM,jU,j7,jZ,u64,j9,jY,j5,j6,kZ,kK,kF,j8],[.code (.seq Oa G8)],false⟩ w:=by
 intro R W m1 τ hw hm zIt hi;obtain⟨fn',t,y9,zI⟩:=m1;obtain rfl:=hm.fn;obtain rfl:=hm.todo;obtain rfl:=hm.ret;have hw:cV (SF fT) K R (pE aK) St w W:=hw;have hi:IA W0 St Shun R0 R τ W:=hi;have ha:bL (SF fT) K R #[u0,u1,.pointer (some ⟨go,0,none⟩),.pointer (some ⟨ge,0,none⟩),u4,u5,u6,.pointer (some ⟨gh,0,none⟩),u8,u9,gS,gF,gE,fZ,fY,gA,u16,hY,kH,kO,jH,gT,iA,gY,gZ,iG,iM,gV,iF,iE,jE,jD,u32,iL,iK,iD,iC,kE,kL,iH,iI,iJ,jB,iO,iV,iQ,jA,iN,iP,iU,iS,iZ,mU,mY,kV,kS,kN,kP,kD,kQ,kM,jU,j7,jZ,u64,j9,jY,j5,j6,kZ,kK,kF,j8] t:=hm.tmps;have cK:t.size=73:=ha.1.symm;rw[mX,Cx.B_some rfl];intro _ Fj;refine zyF λW4 aX=>?_;have rU:rV o=true:=by
  have:=bU;unfold fJ at this;simp only[iY] at this;exact this.1.1
 unfold rV at rU;have rU:=of_decide_eq_true rU
 let p:rI:=⟨Post,Shun,W0,St,base,K,R,w,lo0,lo,go,ge,n,c,A,o,es,hb,gh,ln,W.heap.size⟩
 have aU:∀a b,R a b->b<W.heap.size:=λa b x=>(hw.lt a b (.inl x)).2;have hrel:cV (SF fT) K R (pE aK) St w W4:=cV.real hw (λa b x=>aX.keep b (aU a b x)) (by rw[aX.size];omega);have zun:∀a,xT a=true->∃c T fz,w.heap[a]? =some (.cells c T fz):=λa h=>let⟨c,T,fz,hc,_⟩:=tF a h;⟨c,T,fz,hc⟩
 have zwD:XOk R xT w:=⟨λa h=>⟨a,hw.tb a h⟩,zun⟩;have fS:=zr3 hrel zwD;have hk:=hi.kp;have mV:=hi.sh;have zFb:=hk.size;have zmI:Kp W0 R St W4:=⟨aX.os.trans hk.os,aX.tape.trans hk.tape,aX.output.trans hk.output,by rw[aX.size];omega,λb hb=>(aX.keep b aC).trans (hk.block b hb),hk.old⟩;have zbN:∀a b,R a b->b≠W.heap.size:=λa b x=>by grind
 have zy6:Sh W0.heap.size (Bf Shun W.heap.size) R W4:=by
  refine⟨λl b hl hb hx=>?_,λa b x l hl hx=>?_,λl b hl hb hx=>?_⟩
  .rcases hx with hx|hx
   .exact mV.old l b hl hb hx
   .have:=L4 hl hx;omega
  .rcases hx with hx|hx
   .exact mV.rel a b x l hl hx
   .exact zbN a b x (L4 hl hx)
  .rcases hx with hx|hx
   .exact mV.new l b hl (by rw[aX.size] at hb;omega) hx
   .have:=L4 hl hx;have:=aX.size;omega
 have Fa:∃b,R gh b:=by
  have h1:VR (SF fT) K R (.pointer (some ⟨gh,0,none⟩)) (t.getD 7 aA):=ha.getD 7 (yS (S:=SF fT) (K:=K) (R:=R));generalize t.getD 7 aA=t7 at h1
  cases h1 with
  |pointer y=>cases y with|some y=>cases y with|mk y=>exact⟨_,y⟩
 let SC:Nat->Prop:=λa=>St a\/xT a=true
 let τ0:cC:=tauP R SC W0 []
 have zBR:∀a b,R a b->SC a->¬τ0.own b:=λa b x h hb=>by
  rcases hb with⟨a',x',hn⟩|hb
  .obtain rfl:=hw.inj' a a' b (.inl x) (.inl x')
   exact hn h
  .cases hb
 have zhZ:IQ W0 St (Bf Shun W.heap.size) W.heap.size τ0.still R (H8 R St xT) W4 [] [] R τ0 W4:=by
  refine⟨⟨⟨⟨zmI,zy6,rfl,by rw[aX.size];omega,λb hb=>?_,zbN⟩,.refl R,λb hb=>?_⟩,λb hb hs=>?_,λb hb=>?_,λc hc=>by cases hc⟩,λc hc=>by cases hc⟩
  .rcases hb with⟨a,x,_⟩|hb
   .exact zbN a b x
   .cases hb
  .obtain⟨a,x,h⟩:=hb
   exact⟨(hrel.lt a b (.inl x)).2,rfl,zBR a b x h,zbN a b x⟩
  .rcases hs with hs|⟨a,x,h⟩
   .rcases hb with⟨a',x',hn⟩|hb
    .exact hn (.inl (hk.old a' b x' hs))
    .cases hb
   grind
  .rcases hb with hb|⟨a,x,_⟩
   .rw[aX.size];omega
   .exact(hrel.lt a b (.inl x)).2
 have H:PhOk p (uY xT w):=⟨zmQ R W.heap.size hi.le,Fa,bU,zFb,eB,λg hg=>by
  obtain⟨c,T,fz,h1,h2⟩:=tF g hg;exact⟨c,T,_,Tz hg h1,h2⟩,zbE,λb hb hx=>Mj hx,yW⟩
 have I:Ci p (uY xT w) K SC τ0.still R (H8 R St xT) W4 (λa=>xT a=true) [] [] v (uY xT w):=⟨xU K,.refl R,λa h=>.inl h,λb hb=>.inl hb,λb hb=>by
  obtain⟨a,x,h⟩:=hb;exact .inr ⟨a,x,h⟩,K8.first hrel zwD,λb hb=>hb,λa h=>.inr h,λa h=>.inl h,rfl,λi g hg=>by simp at hg,hR.frT hgo Cr eB zbE zun⟩
 refine J.phase (zHj p.N (C1 p.o p.es) p.D (zAS bU) (by show o.op.toNat<=_;omega)) (ty:=rR.tWg) (Wg:=W.heap.size) (l:=.mN []) (τ:=τ0) ?hb aX.wg ⟨bN _,by rw[aX.size];omega⟩ ?bnd rfl (.a 0 [] (λ_=>1) (.mN []) ⟨rfl,λj j' h=>by omega⟩ (mP _) (.inl rfl) rfl ⟨λj h=>by omega,λj j' h=>by omega,λj h=>by omega⟩ (λj h=>by omega) (λi hi _=>by simp[hi]))
 case bnd=>
  have hr:∀a b,R a b->b<W4.heap.size/\b≠W.heap.size/\∀l,nJ l b->¬Shun l:=λa b x=>⟨(hrel.lt a b (.inl x)).2,zbN a b x,mV.rel a b x⟩;rintro b ((⟨a,x,_⟩|hb)|(hb|⟨a,x,_⟩)|hb)
  .exact hr a b x
  .cases hb
  .exact⟨by rw[aX.size];omega,aC,λl hl=>mV.old l b hl hb⟩
  .exact hr a b x
  .exact hb.elim
 case hb=>
  have hI:eZ (p.cx K SC τ0.still R (H8 R St xT) W4 [] []):=rI.ok I.st I.ss I.F H.low;have hB:BO (p.cx K SC τ0.still R (H8 R St xT) W4 [] []) (.mN []) ⟨42,#[u0,u1,.pointer (some ⟨go,0,none⟩),.pointer (some ⟨ge,0,none⟩),u4,u5,u6,.pointer (some ⟨gh,0,none⟩),.nilFunc,u9,gS,gF,gE,fZ,fY,gA,u16,hY,kH,kO,jH,gT,iA,gY,gZ,iG,iM,gV,iF,iE,jE,jD,u32,iL,iK,iD,iC,kE,kL,iH,iI,iJ,jB,iO,iV,iQ,jA,iN,iP,iU,iS,iZ,mU,mY,kV,kS,kN,kP,kD,kQ,kM,jU,j7,jZ,u64,j9,jY,j5,j6,kZ,kK,kF,j8],[.code G8],false⟩ (uY xT w):=by
   rw[show G8=.seq (.seq ziT (.block 4 (.loop zaN))) ziY from rfl];refine BO.seq hI ?_;refine BO.seq hI ?_;refine BO.pV nD hI tY (λw1 T1 eG Q' dA=>?_);have Sb:=aD (show Ci p (uY xT w) K SC τ0.still R (H8 R St xT) W4 (λa=>xT a=true) [] [] v w1 by rw[eG];exact I.tp T1 0);have g1:w1.cell? ⟨go,1,none⟩=some (.int .i64 o.op):=aI Sb.o.h.e.bo 1
   try dsimp only
   clear eG;go_wp2;refine dA.o _ _ ?_;clear dA;refine BO.block hI ?_;refine BO.loop hI ?_;exact rh_ops H o.op.toNat 0 (by show _=o.op;omega) K SC τ0.still R (H8 R St xT) W4 (λa=>xT a=true) [] [] v w1 _ _ _ _ _ _ _ _ _ _ _ _ _ _ _ _ _ _ _ _ _ _ _ _ _ _ _ _ _ _ _ _ _ _ _ _ _ _ _ _ _ _ _ _ _ _ _ _ _ _ _ _ _ _ _ _ _ _ _ _ _ _ _ _ _ _ _ Sb.o rfl
  have h1:=ha.set 8 (.junk (v':=.pointer (some ⟨W.heap.size,0,none⟩)) Zm);simp only[gC,dV,dU] at h1;have hm:=hB R W4 ⟨42,t.setIfInBounds 8 (.pointer (some ⟨W.heap.size,0,none⟩)),[.code G8],false⟩ τ0 fS ⟨rfl,rfl,rfl,h1,λx hx=>?_⟩ terra_p ⟨zhZ,⟨0,0,aX.wg⟩⟩
  .rw[Cx.B_none rfl,mX] at hm
   exact hm
  .obtain rfl:=yT.1 hx
   show(t.setIfInBounds 8 _).getD 8 aA=_;simp[xE,cK];rfl
abbrev JS (St:Nat->Prop)(W0:aE)(Post:aF->aE->Prop)(m:Fm)(ms:List Fm)(w:aE):Prop:=JL aK (n7 olL) (n7 alL) fT St W0 Post m ms w
theorem rel_heap {G:Gp}(h:cV S K R G St w W)(e:w'.heap=w.heap):cV S K R G St w' W:=by
 refine⟨h.inj,h.inj',λa b x=>by rw[e];exact h.lt a b x,h.low,by rw[e];exact h.gle,λa b x=>?_,λa b x hn=>?_,λa x=>?_,λa c y hp=>?_,h.tb⟩
 .rw[e];exact h.cont a b x
 .rw[e];exact h.rest a b x hn
 .rw[e];exact h.st a x
 .rw[e] at hp;exact h.np a c y hp
def JS.heap {m:Fm}{ms:List Fm}(h:JS St W0 Post m ms w)(e:w'.heap=w.heap):JS St W0 Post m ms w':=
 λK R W m' ms' Shun a b c d k=>h K R W m' ms' Shun (rel_heap a e.symm) b c d k
theorem rh_tmps (a b:aF):(#[a,b]:Array aF)++oC (73-(#[a,b]:Array aF).size) aA=#[a,b,aA,aA,aA,aA,aA,aA,aA,aA,aA,aA,aA,aA,aA,aA,aA,aA,aA,aA,aA,aA,aA,aA,aA,aA,aA,aA,aA,aA,aA,aA,aA,aA,aA,aA,aA,aA,aA,aA,aA,aA,aA,aA,aA,aA,aA,aA,aA,aA,aA,aA,aA,aA,aA,aA,aA,aA,aA,aA,aA,aA,aA,aA,aA,aA,aA,aA,aA,aA,aA,aA,aA]:=by simp_all
structure Hall (w wn:aE)(o:gG)(es:List dX)(hb:Nat):Prop where
 below:cD w.heap.size w wn
 ex:∃lo v ln qn,w.heap.size<=lo/\lo<=wn.heap.size/\bE wn lo hb v (rW o es ln qn qn.length)/\(ln.length:Int)=o.ln/\(qn.length:Int)=o.op
section
variable {Post:aF->aE->Prop}{W0:aE}{St:Nat->Prop}
theorem zs1 {m:Fm}{ms:List Fm}{w:aE}{ops:Array aZ}{i:Nat}{rest:List Nat}{k:List dS}{oo:aZ}{args:Array cI}{kY:Array aM}{A:Option bD}{n c:Nat}{o:gG}{es:List dX}
 (hr:m.ret=false) (qY:m.todo=.inRegion ops (i::rest)::k) (ho:ops[i]? =some oo) (b9:dG oo (dO ops m.tmps)=true) (hop:oo.op=.call ⟨.value (.func 42),args,kY⟩) (wF:args.all (dP fT)=true)
 (hv:args.map m.eval=#[.agg #[.int .i64 o.ln,.int .i64 o.op,.int .i64 o.pt],.slice A n c]) (D5:cM w 0 w.heap.size 3 A n c (sY es)) (hn:n<=1048576) (hT:qV w) (tF:zN w)
 (zGJ:fJ o es=false->∀wn,cD w.heap.size w wn->JS St W0 Post (m.fin ops i rest k (.pointer none)) ms wn)
 (zCB:fJ o es=true->∀wn hb,Hall w wn o es hb->JS St W0 Post (m.fin ops i rest k (.pointer (some ⟨hb,0,none⟩))) ms wn):JS St W0 Post m ms w:=by
 refine JO.callF lvF hr qY ho b9 hop rfl wF λK R W m' ms' Shun bV hw hm jV mV hk Gv=>?_;rw[hv] at Gv;have nU:Ia (zgk).results.toList:=.inr (.inl ⟨_,rfl⟩);have Gs:(zgk).ntmps=73:=rfl;have zxk:=Gv.pad 73;rw[rh_tmps] at zxk;rw[zaw (c:=oG) zdu rfl,Gs];have zbE:∀a,xT a=true->a<w.heap.size:=λa h=>(hw.lt a a (.inl (hw.tb a h))).1;refine BO.aloneIn (p:=aK) (gs:=C7) (fs:=fT) (St:=St) (K:=K) (R:=R) (m:=⟨42,#[.agg #[.int .i64 o.ln,.int .i64 o.op,.int .i64 o.pt],.slice A n c,aA,aA,aA,aA,aA,aA,aA,aA,aA,aA,aA,aA,aA,aA,aA,aA,aA,aA,aA,aA,aA,aA,aA,aA,aA,aA,aA,aA,aA,aA,aA,aA,aA,aA,aA,aA,aA,aA,aA,aA,aA,aA,aA,aA,aA,aA,aA,aA,aA,aA,aA,aA,aA,aA,aA,aA,aA,aA,aA,aA,aA,aA,aA,aA,aA,aA,aA,aA,aA,aA,aA],[.code oG],false⟩) ?_ hw ⟨rfl,rfl,rfl,zxk,λx hx=>by cases hx⟩ mV hk;refine rh_start D5 hn hT (λT todo w' h4 hO bU=>?_) (λwB lo go ge K' w' v ln hb gh u0 u1 u4 u5 u6 u8 u9 gS gF gE fZ fY gA u16 hY kH kO jH gT iA gY gZ iG iM gV iF iE jE jD u32 iL iK iD iC kE kL iH iI iJ jB iO iV iQ jA iN iP iU iS iZ mU mY kV kS kN kP kD kQ kM jU j7 jZ u64 j9 jY j5 j6 kZ kK kF j8 hK bU eB hgo Cr O4 hR yW=>?_)
 .refine BO.aloneOut hm jV rfl hr qY (v:=.pointer none) zdu nU (by rw[<-h4];rfl) ?_
  have zCN:cD w.heap.size w {w' with os:=w.os,tape:=w.tape,output:=w.output}:=⟨rfl,rfl,rfl,hO.1,hO.2⟩;exact JS.heap (zGJ bU _ zCN) rfl
 .refine rh_phase (lo0:=w.heap.size) hR hgo Cr eB bU yW (λg hg=>?_) zbE (λR1 Wg zrz K2 R2 w2 v2 qn u0 u1 u2 u3 u4 u5 u6 u8 u9 gS gF gE fZ fY gA u16 hY kH kO jH gT iA gY gZ iG iM gV iF iE jE jD u32 iL iK iD iC kE kL iH iI iJ jB iO iV iQ jA iN iP iU iS iZ mU mY kV kS kN kP kD kQ kM jU j7 jZ u64 j9 jY j5 j6 kZ kK kF j8 zgE H5 hE=>?_)
  .have qO:=zbE g hg
   rw[hR.e.old g aC,O4 g qO];exact tF g hg
  .have zgE:K'.le K2:=zgE
   have H5:R1.le R2:=H5;obtain⟨hA,hold,hz,zgi,S8⟩:=hE;have hA:bE w2 lo hb v2 (rW o es ln qn qn.length):=hA;have hold:∀b,b<w.heap.size->w2.heap[b]? =w'.heap[b]? :=hold;have hz:lo<=w2.heap.size:=hz;have zgi:w2.heap[gh]? =some (.cells #[.pointer (some ⟨hb,0,none⟩)] 63):=zgi;have zum:∀b,b<w.heap.size->w2.heap[b]? =w.heap[b]? :=λb bZ=>by
    rw[hold b bZ,hR.e.old b aC,O4 b bZ]
   have HA:=aD hA;have HO:=aD zum;have HB:=aD zgi;clear hA hold zum zgi;show BO (Fh aK C7 fT Post (Bf Shun Wg) W0 St K2 R2 (m'.fr::ms'.map Fm.fr)) () _ _;refine BO.regEnd dC ?_;refine BO.seq dC ?_;refine BO.pV nD dC tY (λw3 T1 iT Q' dA=>?_);have g1:(Tt.tp w2 T1 0).cell? ⟨gh,0,none⟩=some (.pointer (some ⟨hb,0,none⟩)):=aI HB.o 0;have e3:w3.heap=w2.heap:=by rw[iT];rfl
   have uQ:=aD e3
   try dsimp only
   rw[<-iT] at g1;clear iT e3;go_wp2;refine dA.o _ _ ?_;clear dA;refine BO.ret dC ?_;refine BO.aloneOut (pI.monoK (vU hK zgE) (hm.mono (zrz.trans H5))) (uP.monoK (vU hK zgE) (jV.mono (zrz.trans H5))) rfl hr qY (v:=.pointer (some ⟨hb,0,none⟩)) zdu nU rfl ?_;have hH:Hall w {w2 with os:=w.os,tape:=w.tape,output:=w.output} o es hb:=⟨⟨rfl,rfl,rfl,by grind,HO.o⟩,lo,v2,ln,qn,eB,hz,HA.o.same rfl,yW,S8⟩;exact JS.heap (zCB bU _ _ hH) uQ.o
end
end Go.Proofs.YtfcjiloojkjaeaaGreatDoor
namespace Go.Proofs.YtfcjiloojkjaeaaGreatDoor
open Go.RowKit Go.Mt Go.Conc Go.Tt
structure Bl (B:Nat)(w w':aE):Prop where
 size:w.heap.size<=w'.heap.size
 block:∀b,b<B->w'.heap[b]? =w.heap[b]?
def Bl.refl (B:Nat)(w:aE):Bl B w w:=⟨bN _,λ_ _=>rfl⟩
variable {B:Nat}
def Bl.tp {a b:aE}(h:Bl B a b)(T:lM)(e:Nat):Bl B a (Tt.tp b T e):=⟨h.size,h.block⟩
theorem Bl.al {a b:aE}(h:Bl B a b)(hB:B<=a.heap.size)(o:Obj):Bl B a (b.alloc o):=⟨by rw[rC];have:=h.size;omega,λx hx=>(C4 ziX).trans (h.block x hx)⟩
variable {w w':aE}{A:Option bD}{xs:List aF}
def cM.bl {s n c:Nat}(h:cM w 0 w.heap.size s A n c xs)(k:Bl w.heap.size w w'):cM w' 0 w'.heap.size s A n c xs:=
 (h.keep k.size λb _ _ h3=>k.block b h3).wide (bN _) k.size
section
variable {p:bT}{op gs gs₁ fs:aN->Bool}{St:Nat->Prop}{W0:aE}{Post:aF->aE->Prop}
variable {c:wA}{k:List dS}{ms:List Fm}
theorem JO.sq (L:Lv p op gs gs₁ fs){fn:aN}{tmps:Array aF}{w:aE}(hf:op fn=false)(h:JL p op gs fs St W0 Post ⟨fn,tmps,.code (sA c):: .code (sB c)::k,false⟩ ms w)(e:c=.seq (sA c) (sB c):=by exact rfl):JL p op gs fs St W0 Post ⟨fn,tmps,.code c::k,false⟩ ms w:=by
 rw[e];exact JO.seq L hf h
theorem JO.cd (L:Lv p op gs gs₁ fs){fn:aN}{tmps:Array aF}{w:aE}(t:Bool)(hf:op fn=false)(h:JL p op gs fs St W0 Post ⟨fn,tmps,.code (if t then cA c else cB c)::k,false⟩ ms w)(hc:(bJ tmps []).eval (cX c)=.bool t:=by exact rfl)(e:c=.cond (cX c) (cA c) (cB c):=by exact rfl):JL p op gs fs St W0 Post ⟨fn,tmps,.code c::k,false⟩ ms w:=by
 rw[e];exact JO.cond L hf hc h
theorem JO.sk (L:Lv p op gs gs₁ fs){fn:aN}{tmps:Array aF}{w:aE}(hf:op fn=false)(h:JL p op gs fs St W0 Post ⟨fn,tmps,k,false⟩ ms w)(e:c=.skip:=by exact rfl):JL p op gs fs St W0 Post ⟨fn,tmps,.code c::k,false⟩ ms w:=by
 rw[e];exact JO.skip L hf h
theorem JO.rt (L:Lv p op gs gs₁ fs){fn:aN}{tmps:Array aF}{w:aE}(hf:op fn=false)(h:JL p op gs fs St W0 Post ⟨fn,tmps,.code .ret::k,true⟩ ms w)(e:c=.ret:=by exact rfl):JL p op gs fs St W0 Post ⟨fn,tmps,.code c::k,false⟩ ms w:=by
 rw[e];exact JO.ret L hf h
theorem JO.rn (L:Lv p op gs gs₁ fs){fn:aN}{tmps:Array aF}{w:aE}(hf:op fn=false)(ops:Array aZ)(is:List Nat)(h:JL p op gs fs St W0 Post ⟨fn,tmps,.inRegion ops is::k,false⟩ ms w)(e:c=.region (bI c) ops false:=by exact rfl)(hr:iX ops.size=is:=by exact rfl):JL p op gs fs St W0 Post ⟨fn,tmps,.code c::k,false⟩ ms w:=by
 subst hr;rw[e];exact JO.reg L hf h
theorem JO.pQ (L:Lv p op gs gs₁ fs){fn:aN}{tmps:Array aF}{c':wA}{b:List Fm}{w:aE}(I5:op fn=false)
 (uF:∀(T:lM) (Q:Exit->Go.Act->aE->Prop),qE (∀a' w',JL p op gs fs St W0 Post ⟨fn,a'.tmps,k,false⟩ b w'->Q .normal a' w')->Code.wp p c' Q ⟨tmps,[]⟩ (Tt.tp w T 0)) (e:c=c':=by conv=>lhs;whnf) (hc:pJ p ⟨fs,gs₁,true⟩ c=true:=by kernel_rfl):
 JL p op gs fs St W0 Post ⟨fn,tmps,.code c::k,false⟩ b w:=by
 subst e;exact JO.piece L hc I5 λT=>uF T _ (aD λa' w' h=>⟨rfl,h⟩)
theorem JO.mv (L:Lv p op gs gs₁ fs){fn:aN}{tmps T':Array aF}{ops:Array aZ}{i:Nat}{rest:List Nat}{w:aE}{o:aZ}(hf:op fn=false)(v:aF)(h:JL p op gs fs St W0 Post ⟨fn,T',.inRegion ops rest::k,false⟩ ms w)(ho:ops[i]? =some o:=by exact zcU rfl (by conv=>lhs;whnf))
 (hx:∀T e,(aO (bJ tmps []).eval o).run p (Tt.tp w T e)=.ok (.value v) (Tt.tp w T e):=by exact λ_ _=>rfl) (b9:dG o (dO ops tmps)=true:=by exact rfl)
 (ht:(b7 ⟨tmps,[]⟩ o.dst v).tmps=T':=by first|(simp only[Go.Act.put,List.setIfInBounds_toArray,List.set_cons_zero,List.set_cons_succ];done)|(simp only[Go.Act.put,List.setIfInBounds_toArray,List.set_cons_zero,List.set_cons_succ];rfl)):JL p op gs fs St W0 Post ⟨fn,tmps,.inRegion ops (i::rest)::k,false⟩ ms w:=
 JO.opv L hf ho b9 hx (ht▸h)
end
def cM.tp {lo hi s n c:Nat}(h:cM w lo hi s A n c xs)(T:lM)(e:Nat):cM (Tt.tp w T e) lo hi s A n c xs:=⟨h.len,h.le,h.cap,h.at_⟩
def Dc (o:gG)(es:List dX):List bO:=(wS o es).recs
def zbA (o:gG)(es:List dX):Int:=if fJ o es then(F8 o es).clk else-1
def bodyRX:Go.Code:=(zeg.body).getD .skip
def rRX1:Go.Code:=match bodyRX with| .seq _ (.seq (a) _)=>a|_=>.skip
def zb2:Array Oper:=match rRX1 with| .region _ ops _=>ops|_=>#[]
abbrev oRX1_0:Oper:=aV zb2 0 (some 7) (.load 29 (.tmp 2))
def opsRX1_0:zb2[0]? =some oRX1_0:=rfl
abbrev oRX1_2:Oper:=aV zb2 2 (some 9) (.call ⟨.value (.func 42),#[.tmp 7,.tmp 8],#[29,31]⟩)
def zhF:zb2[2]? =some oRX1_2:=rfl
section
variable {St:Nat->Prop}{W0:aE}{Post:aF->aE->Prop}
theorem zCL {m:Fm}{ms:List Fm}{w:aE}{ops:Array aZ}{i:Nat}{rest:List Nat}{k:List dS}{oo:aZ}{args:Array cI}{kY:Array aM}{A:Option bD}{n c:Nat}{o:gG}{es:List dX}
 (hr:m.ret=false) (Yl:n7 olL m.fn=false) (qY:m.todo=.inRegion ops (i::rest)::k) (ho:ops[i]? =some oo) (b9:dG oo (dO ops m.tmps)=true) (hop:oo.op=.call ⟨.value (.func 28),args,kY⟩)
 (hv:args.map m.eval=#[.agg #[.int .i64 o.ln,.int .i64 o.op,.int .i64 o.pt],.slice A n c]) (D5:cM w 0 w.heap.size 3 A n c (sY es)) (hn:n<=1048576) (hT:qV w) (tF:zN w)
 (hJ:∀wn V,Bl w.heap.size w wn->wn.ownsRow w.heap.size 50 7 V (Dc o es).length (recs (Dc o es))->JS St W0 Post (m.fin ops i rest k (.tuple #[V,.bool (fJ o es)])) ms wn):JS St W0 Post m ms w:=by
 have L:=lvF;have cE:n7 olL 28=false:=aT;have zjK:=JO.callN (St:=St) (W0:=W0) (Post:=Post) (ms:=ms) (w:=w) (fn:=zeg) (c:=bodyRX) L hr qY ho b9 hop cE;refine zjK zx5 aH rfl ?_;rw[hv];have Ht:(#[.agg #[.int .i64 o.ln,.int .i64 o.op,.int .i64 o.pt],.slice A n c]:Array aF)++oC ((zeg).ntmps-(#[.agg #[.int .i64 o.ln,.int .i64 o.op,.int .i64 o.pt],.slice A n c]:Array aF).size) aA=#[.agg #[.int .i64 o.ln,.int .i64 o.op,.int .i64 o.pt],.slice A n c,aA,aA,aA,aA,aA,aA,aA,aA,aA,aA,aA,aA,aA,aA]:=by
  have e:(zeg).ntmps=16:=rfl;rw[e];apply L1;simp only[Sn,zdS,Fg,yH,Al];rfl
 rw[Ht];have pY:w.heap.size<=w.heap.size:=bN _;have zdn:∀(tmps:Array aF) (td:List dS) (w':aE) (V:aF),tmps.getD 4 aA=V->tmps.getD 5 aA=.bool (fJ o es)->Bl w.heap.size w w'->w'.ownsRow w.heap.size 50 7 V (Dc o es).length (recs (Dc o es))->JS St W0 Post ⟨28,tmps,td,true⟩ (m::ms) w':=by
  intro tmps td w' V e4 e5 hb cZ;refine JO.back L rfl qY zx5 (v:=.tuple #[V,.bool (fJ o es)]) ?_ Yl (hJ w' V hb cZ);show(o5 [.tmp 4,.tmp 5] tmps).run _ _=_;simp only[o5,yP,e4,e5];rfl
 refine JO.sq L cE ?_;refine JO.pQ L cE (λTp Q HQ=>?_);obtain⟨w1,eG⟩:=aP (Tt.tp w Tp 0);have B0:=aD (show Bl w.heap.size w w1 by rw[eG];exact(Bl.refl _ w).tp Tp 0);have dM:w1.heap.size=w.heap.size:=by rw[eG];rfl
 have eh:w1.heap=w.heap:=by rw[eG];rfl
 have EH:=aD eh;rw[<-eG];clear eG eh;go_wp2;refine HQ.o _ _ ?_;clear HQ;obtain⟨w2,eT⟩:=aP (w1.alloc (.cells #[.int .i64 o.ln,.int .i64 o.op,.int .i64 o.pt] 29));have k2:∀b,b<w.heap.size->w2.heap[b]? =w.heap[b]? :=λb hb=>by rw[eT,C4 aC,EH.o]
 have z2:w2.heap.size=w.heap.size+1:=by rw[eT,rC,dM]
 have g2:w2.heap[w1.heap.size]? =some (.cells #[.int .i64 o.ln,.int .i64 o.op,.int .i64 o.pt] 29):=by rw[eT];exact De _ _
 have zlM:cD w.heap.size w {w2 with os:=w.os,tape:=w.tape,output:=w.output}:=⟨rfl,rfl,rfl,by show w.heap.size<=w2.heap.size;omega,k2⟩;have zlC:qV w2:=Ps (w:={w2 with os:=w.os,tape:=w.tape,output:=w.output}) rfl (zdN hT _ zlM);have zjx:zN w2:=λg hg=>by
  obtain⟨c,T,fz,h1,h2⟩:=tF g hg;exact⟨c,T,fz,(k2 g (eE.1 h1).1).trans h1,h2⟩
 have Ar:cM w2 0 w2.heap.size 3 A n c (sY es):=(D5.keep aC λb _ q _=>k2 b q).wide (bN _) aC;rw[<-eT];clear eT;rw[dM] at g2;refine JO.sq L cE ?_;refine JO.rn L cE zb2 [0,1,2,3] ?_;refine JO.opv L (v:=.agg #[.int .i64 o.ln,.int .i64 o.op,.int .i64 o.pt]) cE opsRX1_0 rfl (λT e=>?_) ?_
 .have c0:(Tt.tp w2 T e).cell? ⟨w.heap.size,0,none⟩=some (.int .i64 o.ln):=aI g2 0
  have c1:(Tt.tp w2 T e).cell? ⟨w.heap.size,1,none⟩=some (.int .i64 o.op):=aI g2 1;have c2:(Tt.tp w2 T e).cell? ⟨w.heap.size,2,none⟩=some (.int .i64 o.pt):=aI g2 2;unfold aO;go_simp
  try rfl
 simp only[b7,gC,dV,dU];refine JO.mv L cE (.slice A n c) ?_;refine zs1 (o:=o) (es:=es) rfl rfl zhF rfl rfl aT zfU Ar hn zlC zjx (λbU wn hb=>?_) (λbU wn hb hH=>?_)
 .simp only[Fm.fin,zhF,xS,gC,dV,dU]
  have bZ:Bl w.heap.size w wn:=⟨by have:=hb.size;omega,λb bZ=>(hb.block b aC).trans (k2 b bZ)⟩;refine JO.mv L cE (.pointer none) ?_;refine JO.regEnd L cE ?_;refine JO.sq L cE ?_;refine JO.sq L cE ?_;refine JO.pQ L cE (λTp Q HQ=>?_);go_wp2;refine HQ.o _ _ ?_;clear HQ;refine JO.cd L true cE ?_;refine JO.sq L cE ?_;refine JO.pQ L cE (λEz Q HQ=>?_);go_wp2;refine HQ.o _ _ ?_;clear HQ;refine JO.rt L cE ?_;exact zdn _ _ _ _ rfl (by rw[bU];rfl) ((bZ.tp Tp 0).tp Ez 0) (by simp[Dc,wS,bU,lY];exact⟨rfl,.inl ⟨rfl,rfl⟩⟩)
 .simp only[Fm.fin,zhF,xS,gC,dV,dU]
  obtain⟨lL,lo,v,ln,qn,h1,h2,hA,h3,h4⟩:=hH;have bZ:Bl w.heap.size w wn:=⟨by have:=lL.size;omega,λb bZ=>(lL.block b aC).trans (k2 b bZ)⟩;have HA:=aD hA;have zk7:=aD bZ;clear hA bZ lL;refine JO.mv L cE (.pointer (some ⟨hb,0,none⟩)) ?_;refine JO.regEnd L cE ?_;refine JO.sq L cE ?_;refine JO.sq L cE ?_;refine JO.pQ L cE (λTp Q HQ=>?_);go_wp2;refine HQ.o _ _ ?_;clear HQ;refine JO.cd L false cE ?_;refine JO.sk L cE ?_;refine JO.sq L cE ?_;refine JO.pQ L cE (λEz Q HQ=>?_);obtain⟨w5,mF⟩:=aP (Tt.tp (Tt.tp wn Tp 0) Ez 0);have c5:w5.cell? ⟨hb,9,none⟩=some (v.sR):=by rw[mF];exact aI HA.o.blk 9
  have A5:=aD (show bE w5 lo hb v (rW o es ln qn qn.length) by rw[mF];exact HA.o.same rfl);have B5:=aD (show Bl w.heap.size w w5 by rw[mF];exact(zk7.o.tp Tp 0).tp Ez 0);rw[<-mF];clear mF;go_wp2;refine HQ.o _ _ ?_;clear HQ;refine JO.rt L cE ?_;exact zdn _ _ _ _ rfl (by rw[bU];rfl) B5.o (by simp only[Dc,wS,bU,if_true];exact ztR A5.o.R aC)
end
def bodyCA:Go.Code:=(zhy.body).getD .skip
def rCA1:Go.Code:=match bodyCA with| .seq _ (.seq (a) _)=>a|_=>.skip
def zbM:Array Oper:=match rCA1 with| .region _ ops _=>ops|_=>#[]
abbrev oCA1_0:Oper:=aV zbM 0 (some 6) (.load 29 (.tmp 2))
def opsCA1_0:zbM[0]? =some oCA1_0:=rfl
abbrev oCA1_2:Oper:=aV zbM 2 (some 8) (.call ⟨.value (.func 42),#[.tmp 6,.tmp 7],#[29,31]⟩)
def zmo:zbM[2]? =some oCA1_2:=rfl
section
variable {St:Nat->Prop}{W0:aE}{Post:aF->aE->Prop}
theorem jo_clock {m:Fm}{ms:List Fm}{w:aE}{ops:Array aZ}{i:Nat}{rest:List Nat}{k:List dS}{oo:aZ}{args:Array cI}{kY:Array aM}{A:Option bD}{n c:Nat}{o:gG}{es:List dX}
 (hr:m.ret=false) (Yl:n7 olL m.fn=false) (qY:m.todo=.inRegion ops (i::rest)::k) (ho:ops[i]? =some oo) (b9:dG oo (dO ops m.tmps)=true) (hop:oo.op=.call ⟨.value (.func 30),args,kY⟩)
 (hv:args.map m.eval=#[.agg #[.int .i64 o.ln,.int .i64 o.op,.int .i64 o.pt],.slice A n c]) (D5:cM w 0 w.heap.size 3 A n c (sY es)) (hn:n<=1048576) (hT:qV w) (tF:zN w)
 (hJ:∀wn V,Bl w.heap.size w wn->V=.int .i64 (zbA o es)->JS St W0 Post (m.fin ops i rest k (V)) ms wn):JS St W0 Post m ms w:=by
 have L:=lvF;have cE:n7 olL 30=false:=aT;have zjK:=JO.callN (St:=St) (W0:=W0) (Post:=Post) (ms:=ms) (w:=w) (fn:=zhy) (c:=bodyCA) L hr qY ho b9 hop cE;refine zjK zwf aH rfl ?_;rw[hv];have Ht:(#[.agg #[.int .i64 o.ln,.int .i64 o.op,.int .i64 o.pt],.slice A n c]:Array aF)++oC ((zhy).ntmps-(#[.agg #[.int .i64 o.ln,.int .i64 o.op,.int .i64 o.pt],.slice A n c]:Array aF).size) aA=#[.agg #[.int .i64 o.ln,.int .i64 o.op,.int .i64 o.pt],.slice A n c,aA,aA,aA,aA,aA,aA,aA,aA,aA,aA,aA,aA,aA]:=by
  have e:(zhy).ntmps=15:=rfl;rw[e];apply L1;simp only[Sn,zdS,Fg,yH,Al];rfl
 rw[Ht];have pY:w.heap.size<=w.heap.size:=bN _;have zdn:∀(tmps:Array aF) (td:List dS) (w':aE) (V:aF),tmps.getD 4 aA=V->Bl w.heap.size w w'->V=.int .i64 (zbA o es)->JS St W0 Post ⟨30,tmps,td,true⟩ (m::ms) w':=by
  intro tmps td w' V e4 hb cZ;refine JO.back L rfl qY zwf (v:=V) ?_ Yl (hJ w' V hb cZ);show(o5 [.tmp 4] tmps).run _ _=_;simp only[o5,yP,e4];rfl
 refine JO.sq L cE ?_;refine JO.pQ L cE (λTp Q HQ=>?_);obtain⟨w1,eG⟩:=aP (Tt.tp w Tp 0);have B0:=aD (show Bl w.heap.size w w1 by rw[eG];exact(Bl.refl _ w).tp Tp 0);have dM:w1.heap.size=w.heap.size:=by rw[eG];rfl
 have eh:w1.heap=w.heap:=by rw[eG];rfl
 have EH:=aD eh;rw[<-eG];clear eG eh;go_wp2;refine HQ.o _ _ ?_;clear HQ;obtain⟨w2,eT⟩:=aP (w1.alloc (.cells #[.int .i64 o.ln,.int .i64 o.op,.int .i64 o.pt] 29));have k2:∀b,b<w.heap.size->w2.heap[b]? =w.heap[b]? :=λb hb=>by rw[eT,C4 aC,EH.o]
 have z2:w2.heap.size=w.heap.size+1:=by rw[eT,rC,dM]
 have g2:w2.heap[w1.heap.size]? =some (.cells #[.int .i64 o.ln,.int .i64 o.op,.int .i64 o.pt] 29):=by rw[eT];exact De _ _
 have zlM:cD w.heap.size w {w2 with os:=w.os,tape:=w.tape,output:=w.output}:=⟨rfl,rfl,rfl,by show w.heap.size<=w2.heap.size;omega,k2⟩;have zlC:qV w2:=Ps (w:={w2 with os:=w.os,tape:=w.tape,output:=w.output}) rfl (zdN hT _ zlM);have zjx:zN w2:=λg hg=>by
  obtain⟨c,T,fz,h1,h2⟩:=tF g hg;exact⟨c,T,fz,(k2 g (eE.1 h1).1).trans h1,h2⟩
 have Ar:cM w2 0 w2.heap.size 3 A n c (sY es):=(D5.keep aC λb _ q _=>k2 b q).wide (bN _) aC;rw[<-eT];clear eT;rw[dM] at g2;refine JO.sq L cE ?_;refine JO.rn L cE zbM [0,1,2,3] ?_;refine JO.opv L (v:=.agg #[.int .i64 o.ln,.int .i64 o.op,.int .i64 o.pt]) cE opsCA1_0 rfl (λT e=>?_) ?_
 .have c0:(Tt.tp w2 T e).cell? ⟨w.heap.size,0,none⟩=some (.int .i64 o.ln):=aI g2 0
  have c1:(Tt.tp w2 T e).cell? ⟨w.heap.size,1,none⟩=some (.int .i64 o.op):=aI g2 1;have c2:(Tt.tp w2 T e).cell? ⟨w.heap.size,2,none⟩=some (.int .i64 o.pt):=aI g2 2;unfold aO;go_simp
  try rfl
 simp only[b7,gC,dV,dU];refine JO.mv L cE (.slice A n c) ?_;refine zs1 (o:=o) (es:=es) rfl rfl zmo rfl rfl aT zfU Ar hn zlC zjx (λbU wn hb=>?_) (λbU wn hb hH=>?_)
 .simp only[Fm.fin,zmo,xS,gC,dV,dU]
  have bZ:Bl w.heap.size w wn:=⟨by have:=hb.size;omega,λb bZ=>(hb.block b aC).trans (k2 b bZ)⟩;refine JO.mv L cE (.pointer none) ?_;refine JO.regEnd L cE ?_;refine JO.sq L cE ?_;refine JO.sq L cE ?_;refine JO.pQ L cE (λTp Q HQ=>?_);go_wp2;refine HQ.o _ _ ?_;clear HQ;refine JO.cd L true cE ?_;refine JO.sq L cE ?_;refine JO.pQ L cE (λEz Q HQ=>?_);go_wp2;refine HQ.o _ _ ?_;clear HQ;refine JO.rt L cE ?_;exact zdn _ _ _ _ rfl ((bZ.tp Tp 0).tp Ez 0) (by simp[zbA,bU])
 .simp only[Fm.fin,zmo,xS,gC,dV,dU]
  obtain⟨lL,lo,v,ln,qn,h1,h2,hA,h3,h4⟩:=hH;have bZ:Bl w.heap.size w wn:=⟨by have:=lL.size;omega,λb bZ=>(lL.block b aC).trans (k2 b bZ)⟩;have HA:=aD hA;have zk7:=aD bZ;clear hA bZ lL;refine JO.mv L cE (.pointer (some ⟨hb,0,none⟩)) ?_;refine JO.regEnd L cE ?_;refine JO.sq L cE ?_;refine JO.sq L cE ?_;refine JO.pQ L cE (λTp Q HQ=>?_);go_wp2;refine HQ.o _ _ ?_;clear HQ;refine JO.cd L false cE ?_;refine JO.sk L cE ?_;refine JO.sq L cE ?_;refine JO.pQ L cE (λEz Q HQ=>?_);obtain⟨w5,mF⟩:=aP (Tt.tp (Tt.tp wn Tp 0) Ez 0);have c5:w5.cell? ⟨hb,11,none⟩=some (.int .i64 (rW o es ln qn qn.length).r.clk):=by rw[mF];exact aI HA.o.blk 11
  have A5:=aD (show bE w5 lo hb v (rW o es ln qn qn.length) by rw[mF];exact HA.o.same rfl);have B5:=aD (show Bl w.heap.size w w5 by rw[mF];exact(zk7.o.tp Tp 0).tp Ez 0);rw[<-mF];clear mF;go_wp2;refine HQ.o _ _ ?_;clear HQ;refine JO.rt L cE ?_;exact zdn _ _ _ _ rfl B5.o (by simp[zbA,bU,rW])
end
theorem qV.bls (h:qV w)(hb:Bl B w w')(hB:w.heap.size<=B):qV w':=by
 have bZ:cD w.heap.size w {w' with os:=w.os,tape:=w.tape,output:=w.output}:=⟨rfl,rfl,rfl,hb.size,λb zrY=>hb.block b aC⟩;exact Ps (w:={w' with os:=w.os,tape:=w.tape,output:=w.output}) rfl (zdN h _ bZ)
theorem zN.bls (h:zN w)(hb:Bl B w w')(hB:w.heap.size<=B):zN w':=by
 intro g hg;obtain⟨c,T,fz,hc,hu⟩:=h g hg;exact⟨c,T,fz,(hb.block g (by have:=(eE.1 hc).1;omega)).trans hc,hu⟩
theorem zDj {p:bT}{o:aZ}{t:aM}{x:cI}{ρ:cI->aF}{b:Nat}{cs:Array aF}{T:aM}{fz:Nat×Nat}{d:TypeDesc}(hop:o.op=.load t x)(hb:w.heap[b]? =some (.cells cs T fz))(hx:ρ x=.pointer (some ⟨b,0,none⟩))
 (hu:p.underlying t=some d) (hd:d.isRow=true) (hi:(p.info? t).map (·.size)=some cs.size):(aO ρ o).run p w=.ok (.value (.agg cs)) w:=by
 obtain⟨dst,y5,type,pos,after,guard⟩:=o;simp only at hop;subst hop;have:=run_loadAt_mid (P:=p) w b 0 t cs.toList d (λj v hj=>by rw[rH,aI hb];simpa using hj) hu hd zdA;simp only[aO,hx,Sem.run_bind,this,Result.andThen_ok];rfl
end Go.Proofs.YtfcjiloojkjaeaaGreatDoor
namespace Go.Proofs.YtfcjiloojkjaeaaGreatDoor
open Go.ChangeShapes Go.WideShapes Go.ChangeAt Go.RowKit Go.Mt Go.Conc Go.Tt
def Ry:List (String×DataW Unit):=[("math/bits.deBruijn32tab",Rows.laid_math_bits_deBruijn32tab),("math/bits.deBruijn64tab",Rows.laid_math_bits_deBruijn64tab),("internal/strconv.uint64pow10",Rows.laid_internal_strconv_uint64pow10)]
def door_met (os:Os)(args:Array aF):laidMetH aK Ry ((aE.doorLaid aK 400 os).forCall (λ_ _=>0) ⟨#[],args,[]⟩).memory:=
 laidMetH_of_parts3 (fuel:=8) (laidMet_of_run' 8 aT aT) aT aT
def pow_eq:Rows.laid_internal_strconv_uint64pow10 (H:=Unit)=Lib.tabData .u64 Lib.pow10Tab:=aT
variable {W:aE}
theorem of_laid (h:laidMetH aK Ry W):qV W:=by
 rw[zsu _ _ _ aT] at h;obtain⟨ps,⟨g0,t0,Gt,f0,p0,q0,To,zk1,gQ,Sf,⟨g1,t1,tM,f1,p1,q1,qO,Hx,pD,Kc,⟨g2,t2,zuN,f2,p2,q2,oO,ztV,Av,Bv,_,_⟩,_⟩,_⟩,_⟩:=h;have e1:aK.globalNamed "internal/strconv.uint64pow10" =some 0:=aT;have e2:(aK.globals[0]?).map (·.type)=some 170:=aT;obtain rfl:=cJ (e1.symm.trans oO);obtain rfl:=cJ (e2.symm.trans ztV);rw[pow_eq] at Bv;unfold qV zfj;rw[Av,<-Lib.cells_of_tab Tryz.underlying170 Tryz.underlying89 aT aT Bv]
theorem zdX {nm:String}{g:Nat}{cs:Array aF}(hg:aK.globalNamed nm=some g)(h:W.var? aK nm=some cs):∃T fz,W.heap[g]? =some (.cells cs T fz):=by
 unfold zd7 at h;rw[hg] at h;simp only[xS] at h;split at h
 .rename_i c T fz hb
  injection h with h;subst h;exact⟨T,fz,hb⟩
 .cases h
theorem zIb (g:Nat)(h:By aK g=true):aK.globalNamed "math/bits.deBruijn32tab" =some g\/aK.globalNamed "math/bits.deBruijn64tab" =some g\/aK.globalNamed "internal/strconv.uint64pow10" =some g:=by
 have sN:((iX aK.globals.size).all λg=>!(By aK g)||decide (aK.globalNamed "math/bits.deBruijn32tab" =some g)||decide (aK.globalNamed "math/bits.deBruijn64tab" =some g)||decide (aK.globalNamed "internal/strconv.uint64pow10" =some g))=true:=aT;have aU:g<Tryz.prog.globals.size:=by
  unfold By at h
  cases e:aK.globals[g]? with
  |none=>rw[e] at h;cases h
  |some x=>exact(eE.1 e).1
 have:=List.all_eq_true.1 sN g (List.mem_range.2 aU);simp only[h,Bool.not_true,Bool.false_or,Di,decide_eq_true_eq] at this;rcases this with(h|h)|h
 .exact .inl h
 .exact .inr (.inl h)
 .exact .inr (.inr h)
theorem zEq (h:laidMetH aK Ry W)(g:Nat)(hg:By aK g=true):∃c T fz,W.heap[g]? =some (.cells c T fz):=by
 rw[zsu _ _ _ aT] at h;obtain⟨ps,⟨g0,t0,Gt,f0,p0,q0,To,zk1,gQ,Sf,⟨g1,t1,tM,f1,p1,q1,qO,Hx,pD,Kc,⟨g2,t2,zuN,f2,p2,q2,oO,ztV,Av,Bv,_,_⟩,_⟩,_⟩,_⟩:=h;rcases zIb g hg with e|e|e
 .exact⟨Gt,zdX e gQ⟩
 .exact⟨tM,zdX e pD⟩
 .exact⟨zuN,zdX e Av⟩
def Xt (A:Option bD)(b:Nat):Bool:=match A with|some a=>decide (a.block=b)|none=>false
def Kl (A1 A2 A3:Option bD)(b:Nat):Bool:=By aK b||Xt A1 b||Xt A2 b||Xt A3 b
variable {A:Option bD}
theorem zkR {b:Nat}(h:Xt A b=true):∃a,A=some a/\a.block=b:=by
 unfold Xt at h
 cases A with
 |none=>cases h
 |some a=>exact⟨a,rfl,of_decide_eq_true h⟩
theorem zz2 {A1 A2 A3:Option bD}(hL:laidMetH aK Ry W)(h1:∀a,A1=some a->a.spot=none/\∃c T fz,W.heap[a.block]? =some (.cells c T fz))(h2:∀a,A2=some a->a.spot=none/\∃c T fz,W.heap[a.block]? =some (.cells c T fz))(h3:∀a,A3=some a->a.spot=none/\∃c T fz,W.heap[a.block]? =some (.cells c T fz))(b:Nat)(hb:Kl A1 A2 A3 b=true):∃c T fz,W.heap[b]? =some (.cells c T fz):=by
 unfold Kl at hb;simp only[Di] at hb;rcases hb with((hb|hb)|hb)|hb
 .exact zEq hL b hb
 .obtain⟨a,e,rfl⟩:=zkR hb;exact(h1 a e).2
 .obtain⟨a,e,rfl⟩:=zkR hb;exact(h2 a e).2
 .obtain⟨a,e,rfl⟩:=zkR hb;exact(h3 a e).2
variable {X:Nat->Bool}
theorem zFm (h:∀a,A=some a->X a.block=true):xP (R0 X) A A:=by
 cases A with
 |none=>exact .none
 |some a=>
  have:=h a rfl;obtain⟨bl,of,sp⟩:=a;exact .some (.mk ⟨rfl,this⟩)
variable {S:aN->Prop}
theorem zy3 (hX:∀b,X b=true->∃c T fz,W.heap[b]? =some (.cells c T fz))(hT:∀g,By aK g=true->X g=true):zN (Ec S X W):=by
 intro g hg;obtain⟨c,T,fz,hc⟩:=hX g (hT g hg);refine⟨_,_,_,zbh hc (hT g hg),λv hv=>?_⟩;obtain⟨u,_,rfl⟩:=Array.mem_map.1 hv;exact(zhu S u).1
theorem gv_ints (S:aN->Prop)(zs:List Int):((zs.map λz=>Lo .u64 z).toArray).map (gv S)=(zs.map λz=>Lo .u64 z).toArray:=by
 apply L1;simp only[Array.toList_map,List.map_map];exact List.map_congr_left λz _=>(zhu S _).2.2 (.inl ⟨_,_,rfl⟩)
theorem zE5 (hX:∀b,X b=true->∃c T fz,W.heap[b]? =some (.cells c T fz))(hT:∀g,By aK g=true->X g=true)(h:qV W):qV (Ec S X W):=by
 have e1:aK.globalNamed "internal/strconv.uint64pow10" =some 0:=aT;have e2:By aK 0=true:=aT;unfold qV zfj at*;obtain⟨T,fz,hc⟩:=zdX e1 h;have lG:=zbh (S:=S) hc (hT _ e2);unfold zd7;rw[e1];simp only[xS,lG];exact congrArg some (gv_ints S _)
end Go.Proofs.YtfcjiloojkjaeaaGreatDoor
namespace Go.Proofs.YtfcjiloojkjaeaaGreatDoor
theorem oZ {a b:Bool}(h:a=true)(k:b=true):(a&&b)=true:=by rw[h,k];rfl
namespace Facts
def zxf:laidOutB Tryz.pinned.checked.prog=true:=aT
def mapsRowed:mapsRowed Tryz.pinned.checked.prog=true:=aT
def stops:(Tryz.pinned.checked.prog.stops==[])=true:=aT
def stopKnobs:(Tryz.pinned.checked.prog.stopKnobs==[])=true:=aT
def plainKeys:(Rows.fnExactRunOfficeRow.plainKeys==Tryz.pinned.checked.prog.plainKeys)=true:=aT
def stopsHeard:Tryz.pinned.checked.prog.stopsHeard=true:=aT
def mayEnter:Tryz.pinned.checked.prog.mayEnter=true:=aT
def lifted:(Rows.fnExactRunOfficeRow.lifted==Tryz.pinned.checked.prog.liftsFinal)=true:=aT
def make:(Tryz.pinned.checked.prog.make==some Rows.fnExactRunOfficeRow.make)=true:=aT
def mainIs:Tryz.pinned.checked.prog.mainIs=some (Rows.fnExactRunOfficeCard.stood.harness.1,Rows.fnExactRunOfficeCard.stood.harness.2.toList):=aT
def looks:Rows.fnExactRunOfficeCard.stood.looks=Tryz.pinned.checked.prog.looks []:=aT
end Facts
end Go.Proofs.YtfcjiloojkjaeaaGreatDoor
namespace Go.Proofs.YtfcjiloojkjaeaaGreatDoor
open Go.RowKit
structure qD (w0:aE)(g:Nat)(A:Option bD)(n c q:Nat)(E s:Nat)(v:aF)(k:Nat)(xs:List aF)(W:aE):Prop where
 rd:Rd W g A n c q
 own:W.ownsRow w0.heap.size E s v k xs
 gr:w0.grownBy W (some g)
 hg:g<w0.heap.size
section
variable {w0:aE}{g:Nat}{A:Option bD}{n c q:Nat}{E s:Nat}{v:aF}{k:Nat}{xs:List aF}{W W':aE}
def qD.hb (h:qD w0 g A n c q E s v k xs W):w0.heap.size<=W.heap.size:=h.gr.size
theorem qD.notg (h:qD w0 g A n c q E s v k xs W):v.ownBlock≠some g:=λe=>by
 have:=(h.own.lt g e).1;have:=h.hg;omega
def qD.alloc (h:qD w0 g A n c q E s v k xs W)(o:Obj):qD w0 g A n c q E s v k xs (W.alloc o):=
 ⟨h.rd.alloc o,h.own.alloc o,Wk h.gr o,h.hg⟩
def qD.grown {q':Nat}(h:qD w0 g A n c q E s v k xs W)(hr:Rd W' g A n c q')(hg:W.grownBy W' (some g)):qD w0 g A n c q' E s v k xs W':=
 ⟨hr,h.own.kept hg (.inr h.notg),zlQ h.gr hg,h.hg⟩
def qD.below (h:qD w0 g A n c q E s v k xs W)(hb:cD W.heap.size W W'):qD w0 g A n c q E s v k xs W':=
 ⟨h.rd.below hb,h.own.kept (row:=none) ⟨hb.os,hb.tape,hb.output,hb.size,λi hi _=>hb.block i hi⟩ s9,zlQ h.gr (zHU hb _),h.hg⟩
def qD.wide {q':Nat}(h:qD w0 g A n c q E s v k xs W)(hq:q<=q'):qD w0 g A n c q' E s v k xs W:=
 ⟨h.rd.mono hq,h.own,h.gr,h.hg⟩
theorem qD.aside {row:Option Nat}(h:qD w0 g A n c q E s v k xs W)(hg:W.grownBy W' row)(aS:v.ownBlock=none\/v.ownBlock≠row)(hy:∀b,row=some b->w0.heap.size<=b):qD w0 g A n c q E s v k xs W':=
 ⟨
  h.rd.keep λb hb=>hg.block b (zbJ hb h.rd.gblt) (λe=>by have:=hy b e.symm;have:=h.hg;omega),h.own.kept hg aS,
  ⟨hg.os.trans h.gr.os,hg.tape.trans h.gr.tape,hg.output.trans h.gr.output,eM h.gr.size hg.size,λi hi aS=>(hg.block i (jW hi h.gr.size) (λe=>by grind)).trans (h.gr.block i hi aS)⟩,h.hg⟩
theorem qD.app {v':aF}{k':Nat}{bV:List aF}(h:qD w0 g A n c q E s v k xs W)(ho:W'.ownsRow w0.heap.size E s v' k' bV)(hg:W.grownBy W' v.ownBlock):qD w0 g A n c q E s v' k' bV W':=
 ⟨
  h.rd.keep λb hb=>hg.block b (zbJ hb h.rd.gblt) (λe=>by have:=(h.own.lt b e.symm).1;have:=h.hg;omega),ho,
  ⟨hg.os.trans h.gr.os,hg.tape.trans h.gr.tape,hg.output.trans h.gr.output,eM h.gr.size hg.size,λi hi aS=>(hg.block i (jW hi h.gr.size) (λe=>by have:=(h.own.lt i e.symm).1;omega)).trans (h.gr.block i hi aS)⟩,h.hg⟩
end
variable {W:aE}{g n c:Nat}{A:Option bD}
def qD.init {q:Nat}(E s:Nat)(h:Rd W g A n c q):
 qD W g A n c q E s (.slice (some ⟨W.heap.size,0,none⟩) 0 0) 0 [] (W.alloc (.cells #[] E)):=
 ⟨h.alloc _,aE.ownsRow_made W #[] 0 (bN _) (mP _) aQ,Wk (zeW _ _) _,h.gblt⟩
theorem int_pred {j:Nat}(h:0<j):Lo .i64 ((j:Int)-1)=.int .i64 ((j-1:Nat):Int):=by congr 1;omega
variable {w:aE}{l k:Nat}{T:aM}{fz:Nat×Nat}
theorem Tx {xs:List Int}(h:w.heap[l]? =some (.cells (xs.map (Lo .i64)).toArray T fz))(hk:xs.length=k):
 ∀j,j<k->∃v:Int,w.cell? ⟨l,0+j,none⟩=some (.int .i64 v):=
 zDV h k λj hj=>⟨xs[j]' aC,by simp[hk,hj]⟩
def GotS (w:aE)(g:Nat)(A:Option bD)(n c q:Nat)(e:I8)(w':aE):Prop:=
 ∃s:ByteArray,e=.returned (.string s)/\Rd w' g A n c q/\w.grownBy w' (some g)
theorem of_any (g q n c l lo k kc:Nat)(A:Option bD)(w:aE)(h:Rd w g A n c q)(hq:q+1<1000000000)(hk:0<k)(qU:k<=1000000)(hl:l<w.heap.size)(zbG:l≠g)
 (hc:∀j,j<k->∃v:ByteArray,w.cell? ⟨l,lo+j,none⟩=some (.string v)):
 iR aK 107 #[.pointer (some ⟨g,0,none⟩),.slice (some ⟨l,lo,none⟩) k kc] w (GotS w g A n c (q+1)):=by
 have H:=aD hc;clear hc
 go_enter Tryz.func107,Tryz.ntmps107
 go_wp2_with fail
 refine(En g q n c A _ _ h hq aC aC).mono ?_;rintro e w1 ⟨r,rfl,⟨r0,r1⟩,hr,hg⟩;obtain⟨v,hv⟩:=H.o r.toNat aC;have pD:=(zxK hg hl zbG).trans hv;clear hv;go_wp2;go_ret;exact⟨v,rfl,hr,hg⟩
variable {xs:List ByteArray}
theorem zrl (h:w.heap[l]? =some (.cells (xs.map zsb).toArray T fz))(hk:xs.length=k):
 ∀j,j<k->∃v:ByteArray,w.cell? ⟨l,0+j,none⟩=some (.string v):=λj hj=>⟨xs[j]' aC,by rw[rH,aI h];simp[hk,hj]⟩
structure eP (w0:aE)(g:Nat)(A:Option bD)(n c q rb:Nat)(T:aM)(zs:Array aF)(W:aE):Prop where
 rd:Rd W g A n c q
 gr:w0.grownBy W (some g)
 hg:g<w0.heap.size
 res:W.heap[rb]? =some (.cells zs T)
 rlo:w0.heap.size<=rb
structure Ag (w0:aE)(g:Nat)(A:Option bD)(n c q rb b:Nat)(T:aM)(zs cs:Array aF)(W:aE):Prop where
 rs:eP w0 g A n c q rb T zs W
 blk:W.heap[b]? =some (.cells cs T)
 lo:w0.heap.size<=b/\b≠rb
section
variable {w0:aE}{g:Nat}{A:Option bD}{n c q rb b:Nat}{T:aM}{zs cs:Array aF}{W W':aE}
def eP.alloc (h:eP w0 g A n c q rb T zs W)(o:Obj):eP w0 g A n c q rb T zs (W.alloc o):=⟨h.rd.alloc o,Wk h.gr o,h.hg,dD h.res o,h.rlo⟩
theorem eP.grown {q':Nat}(h:eP w0 g A n c q rb T zs W)(hr:Rd W' g A n c q')(hg:W.grownBy W' (some g)):eP w0 g A n c q' rb T zs W':=
 ⟨hr,zlQ h.gr hg,h.hg,(zhg hg h.res (by have:=h.hg;have:=h.rlo;omega)).1,h.rlo⟩
def eP.wide {q':Nat}(h:eP w0 g A n c q rb T zs W)(hq:q<=q'):eP w0 g A n c q' rb T zs W:=⟨h.rd.mono hq,h.gr,h.hg,h.res,h.rlo⟩
theorem eP.box (h:eP w0 g A n c q rb T zs W)(cs:Array aF){b:Nat}(hb:b=W.heap.size):Ag w0 g A n c q rb b T zs cs (W.alloc (.cells cs T)):=⟨h.alloc _,lV _ _ hb,by have:=iB h.res;have:=h.gr.size;omega⟩
theorem eP.set {i:Nat}{u:aF}{b:Nat}(h:eP w0 g A n c q rb T zs W)(hb:w0.heap.size<=b/\b≠rb):eP w0 g A n c q rb T zs (W.setCell ⟨b,i,none⟩ u):=
 ⟨h.rd.setCell (by have:=h.hg;have:=h.rlo;simp;omega) u,zof h.gr (by have:=h.rlo;simp;omega) u,h.hg,(dN W ⟨b,i,none⟩ u _ (by show rb≠b;omega)).trans h.res,h.rlo⟩
def Ag.alloc (h:Ag w0 g A n c q rb b T zs cs W)(o:Obj):Ag w0 g A n c q rb b T zs cs (W.alloc o):=⟨h.rs.alloc o,dD h.blk o,h.lo⟩
theorem Ag.grown {q':Nat}(h:Ag w0 g A n c q rb b T zs cs W)(hr:Rd W' g A n c q')(hg:W.grownBy W' (some g)):Ag w0 g A n c q' rb b T zs cs W':=
 ⟨h.rs.grown hr hg,(zhg hg h.blk (by have:=h.rs.hg;have:=h.rs.rlo;have:=h.lo;omega)).1,h.lo⟩
def Ag.wide {q':Nat}(h:Ag w0 g A n c q rb b T zs cs W)(hq:q<=q'):Ag w0 g A n c q' rb b T zs cs W:=⟨h.rs.wide hq,h.blk,h.lo⟩
theorem Ag.set {i:Nat}{u:aF}{Rp:Array aF}(h:Ag w0 g A n c q rb b T zs cs W)(e:cs.setIfInBounds i u=Rp):Ag w0 g A n c q rb b T zs Rp (W.setCell ⟨b,i,none⟩ u):=
 ⟨h.rs.set h.lo,by rw[n8 h.blk,e],h.lo⟩
def Ag.zb (h:Ag w0 g A n c q rb b T zs cs W):b<W.heap.size:=iB h.blk
theorem eP.end1 {i:Nat}{u:aF}(hr:Rd W g A n c q/\w0.grownBy W (some g))(hg:g<w0.heap.size)(hb:w0.heap.size<=rb):Rd (W.setCell ⟨rb,i,none⟩ u) g A n c q/\w0.grownBy (W.setCell ⟨rb,i,none⟩ u) (some g):=
 ⟨hr.1.setCell (by show g<rb;omega) u,zof hr.2 hb u⟩
def eP.end0 {q':Nat}(h:eP w0 g A n c q rb T zs W)(hq:q<=q'):Rd W g A n c q'/\w0.grownBy W (some g):=⟨h.rd.mono hq,h.gr⟩
end
def Got3 (w:aE)(g:Nat)(A:Option bD)(n c q:Nat)(e:I8)(w':aE):Prop:=
 ∃(x y z:Int),e=.returned (.agg #[.int .i64 x,.int .i64 y,.int .i64 z])/\Rd w' g A n c q/\w.grownBy w' (some g)
def Got3S (w:aE)(g:Nat)(A:Option bD)(n c q:Nat)(e:I8)(w':aE):Prop:=
 ∃(s:ByteArray) (x y:Int),e=.returned (.agg #[.string s,.int .i64 x,.int .i64 y])/\Rd w' g A n c q/\w.grownBy w' (some g)
theorem zAP (g q n c:Nat)(A:Option bD)(w:aE)(h:Rd w g A n c q)(hq:q<900000000):
 iR aK 60 #[.pointer (some ⟨g,0,none⟩)] w (Got3 w g A n c (q+10)):=by
 have kW:=h.gblt;obtain⟨rb,tT⟩:=aP w.heap.size;have mD:=aD tT;have Es:=aD (show eP w g A n c q rb 29 #[.int .i64 0,.int .i64 0,.int .i64 0] (w.alloc (.cells #[.int .i64 0,.int .i64 0,.int .i64 0] 29)) from⟨h.alloc _,Wk (zeW _ _) _,kW,lV _ _ tT,aC⟩);clear h
 go_enter Tryz.func60,Tryz.ntmps60
 go_upto_region 1 with fail
 rw[<-tT];clear tT;obtain⟨W1,cO⟩:=aP (w.alloc (.cells #[.int .i64 0,.int .i64 0,.int .i64 0] 29));rw[<-cO] at Es⊢;clear cO;have once:True:=trivial
 go_upto_region 2 with(first
  |(clear once;go_at_call 62;refine(En g q n c A _ W1 Es.o.rd aC aC aC).mono ?_;rintro e w2 ⟨r1,rfl,⟨zJ4,zJO⟩,tZ,oO⟩;have jC:=aD (Es.o.grown tZ oO);clear tZ oO)
  |(go_at_call 62;refine(En g (q+1) n c A _ w2 jC.o.rd aC aC aC).mono ?_;rintro e w3 ⟨r2,rfl,⟨zmW,zl0⟩,Fe,An⟩;have jR:=aD (jC.o.grown Fe An);have z3:=iB jR.o.res;have zi2:=jR.o.rlo;clear Fe An)
  |(go_at_call 88;refine(Q1 g (q+2) n c _ 0 5 5 A _ (jR.o.alloc _).rd aC aC aC aQ aC (Tx (xs:=[5,3,10,1,60]) (gU _ _) rfl)).mono ?_;rintro e w4 ⟨r3,rfl,_,Nr,Ib⟩;have Lu:=aD ((jR.o.alloc _).grown Nr Ib);clear Nr Ib))
 obtain⟨b,hb⟩:=aP w4.heap.size;rw[<-hb];have uA:=aD (Lu.o.box #[.int .i64 (1+r1),.int .i64 (1+r2),.int .i64 r3] hb);obtain⟨W4,qQ⟩:=aP (w4.alloc (.cells #[.int .i64 (1+r1),.int .i64 (1+r2),.int .i64 r3] 29));rw[<-qQ] at uA⊢;obtain⟨x1,Ja⟩:=aP (1+r1);obtain⟨x2,vS⟩:=aP (1+r2);rw[<-Ja,<-vS] at uA;clear qQ hb Ja vS
 go_upto_region 3 with(go_at_call 62;refine(En g (q+3) n c A _ W4 uA.o.rs.rd aC aC aC).mono ?_;rintro e w5 ⟨r,rfl,⟨r0,r9⟩,eN,Fs⟩;have lJ:=aD (uA.o.grown eN Fs);clear eN Fs)
 by_cases e0:r=0
 .subst e0
  have zsx:=lJ.o.zb;have Yh:=lJ.o.lo;have mB:=lJ.o.rs.rlo;have aS:¬b=rb:=aC;have zar:¬rb=b:=aC
  go_wp2_with (go_at_call 88;refine(Q1 g _ n c _ 0 3 3 A _ ((lJ.o.alloc _).rs.rd) aC aC aC aQ aC (Tx (xs:=[0,7,-1]) (gU _ _) rfl)).mono ?_;rintro e w6 ⟨p,rfl,_,lD,kT⟩;have kJ:=aD ((lJ.o.alloc _).grown lD kT);have ec:=aI kJ.o.blk;have fc:=qS kJ.o.blk;have er:=aI kJ.o.rs.res;have fr:=qS kJ.o.rs.res;have zb:=kJ.o.zb;have zr:=iB kJ.o.rs.res;clear lD kT)
  refine nF (v:=.agg #[.int .i64 p,.int .i64 x2,.int .i64 r3]) ?_ rfl ⟨_,_,_,rfl,eP.end1 (eP.end1 (eP.end1 (eP.end0 (kJ.o.set (i:=0) (u:=.int .i64 p) rfl).rs aC) kW mB) kW mB) kW mB⟩;simp[results,ze4,go_sem,er]
 by_cases e1:r=1
 .subst e1
  have zsx:=lJ.o.zb;have Yh:=lJ.o.lo;have mB:=lJ.o.rs.rlo;have aS:¬b=rb:=aC;have zar:¬rb=b:=aC
  go_wp2_with (go_at_call 88;refine(Q1 g _ n c _ 0 3 3 A _ ((lJ.o.alloc _).rs.rd) aC aC aC aQ aC (Tx (xs:=[0,5,9223372036854775807]) (gU _ _) rfl)).mono ?_;rintro e w6 ⟨p,rfl,_,lD,kT⟩;have kJ:=aD ((lJ.o.alloc _).grown lD kT);have ec:=aI kJ.o.blk;have fc:=qS kJ.o.blk;have er:=aI kJ.o.rs.res;have fr:=qS kJ.o.rs.res;have zb:=kJ.o.zb;have zr:=iB kJ.o.rs.res;clear lD kT)
  refine nF (v:=.agg #[.int .i64 x1,.int .i64 p,.int .i64 r3]) ?_ rfl ⟨_,_,_,rfl,eP.end1 (eP.end1 (eP.end1 (eP.end0 (kJ.o.set (i:=1) (u:=.int .i64 p) rfl).rs aC) kW mB) kW mB) kW mB⟩;simp[results,ze4,go_sem,er]
 by_cases e2:r=2
 .subst e2
  have zsx:=lJ.o.zb;have Yh:=lJ.o.lo;have mB:=lJ.o.rs.rlo;have aS:¬b=rb:=aC;have zar:¬rb=b:=aC
  go_wp2_with (go_at_call 88;refine(Q1 g _ n c _ 0 3 3 A _ ((lJ.o.alloc _).rs.rd) aC aC aC aQ aC (Tx (xs:=[0,61,-1]) (gU _ _) rfl)).mono ?_;rintro e w6 ⟨p,rfl,_,lD,kT⟩;have kJ:=aD ((lJ.o.alloc _).grown lD kT);have ec:=aI kJ.o.blk;have fc:=qS kJ.o.blk;have er:=aI kJ.o.rs.res;have fr:=qS kJ.o.rs.res;have zb:=kJ.o.zb;have zr:=iB kJ.o.rs.res;clear lD kT)
  refine nF (v:=.agg #[.int .i64 x1,.int .i64 x2,.int .i64 p]) ?_ rfl ⟨_,_,_,rfl,eP.end1 (eP.end1 (eP.end1 (eP.end0 (kJ.o.set (i:=2) (u:=.int .i64 p) rfl).rs aC) kW mB) kW mB) kW mB⟩;simp[results,ze4,go_sem,er]
 have Ya:(r==0)=false:=by simpa using e0
 have wN:(r==1)=false:=by simpa using e1
 have Fb:(r==2)=false:=by simpa using e2
 clear e0 e1 e2;have ec:=aI lJ.o.blk;have fc:=qS lJ.o.blk;have er:=aI lJ.o.rs.res;have fr:=qS lJ.o.rs.res;have zb:=lJ.o.zb;have zr:=iB lJ.o.rs.res;have Yh:=lJ.o.lo;have aS:¬b=rb:=aC;have zar:¬rb=b:=aC;have mB:=lJ.o.rs.rlo;go_wp2;refine nF (v:=.agg #[.int .i64 x1,.int .i64 x2,.int .i64 r3]) ?_ rfl ⟨_,_,_,rfl,eP.end1 (eP.end1 (eP.end1 (eP.end0 lJ.o.rs aC) kW mB) kW mB) kW mB⟩;simp[results,ze4,go_sem,er]
theorem zBk (g q n c:Nat)(A:Option bD)(w:aE)(h:Rd w g A n c q)(hq:q<900000000):
 iR aK 89 #[.pointer (some ⟨g,0,none⟩)] w (Got3S w g A n c (q+10)):=by
 have kW:=h.gblt;obtain⟨rb,tT⟩:=aP w.heap.size;have mD:=aD tT;have Es:=aD (show eP w g A n c q rb 54 #[.string ⟨#[]⟩,.int .i64 0,.int .i64 0] (w.alloc (.cells #[.string ⟨#[]⟩,.int .i64 0,.int .i64 0] 54)) from⟨h.alloc _,Wk (zeW _ _) _,kW,lV _ _ tT,aC⟩);clear h
 go_enter Tryz.func89,Tryz.ntmps89
 go_upto_region 1 with fail
 rw[<-tT];clear tT;obtain⟨W1,cO⟩:=aP (w.alloc (.cells #[.string ⟨#[]⟩,.int .i64 0,.int .i64 0] 54));rw[<-cO] at Es⊢;clear cO;have zKF:=iB Es.o.res;have zJu:=Es.o.rlo
 go_upto_region 2 with(go_at_call 107;refine(of_any g q n c _ 0 8 8 A _ (Es.o.alloc _).rd aC aC aC aQ aC (zrl (xs:=[⟨#[114,105,110,103]⟩,⟨#[114,105,110,103]⟩,⟨#[114,105,110,103]⟩,⟨#[97,110,115,119,101,114]⟩,⟨#[97,110,115,119,101,114]⟩,⟨#[104,97,110,103]⟩,⟨#[119,97,105,116]⟩,⟨#[114,101,116,117,114,110]⟩]) (gU _ _) rfl)).mono ?_;rintro e w2 ⟨s,rfl,tZ,oO⟩;have jC:=aD ((Es.o.alloc _).grown tZ oO);clear tZ oO)
 obtain⟨b,hb⟩:=aP w2.heap.size;rw[<-hb];have gJ:=aD (jC.o.box #[.string s,.int .i64 0,.int .i64 0] hb);obtain⟨W2,nZ⟩:=aP (w2.alloc (.cells #[.string s,.int .i64 0,.int .i64 0] 54));rw[<-nZ] at gJ⊢;clear nZ hb;have ec:=aI gJ.o.blk;have fc:=qS gJ.o.blk;have zb:=gJ.o.zb;have Yh:=gJ.o.lo;have mB:=gJ.o.rs.rlo
 go_upto_block 0 with fail
 go_cut [] from 10 to 34 (λwx=>∃x y:Int,Ag w g A n c (q+5) rb b 54 #[.string ⟨#[]⟩,.int .i64 0,.int .i64 0] #[.string s,.int .i64 x,.int .i64 y] wx)
 case first=>
  have once:True:=trivial;cases t0:(s.toList==[114,105,110,103])
  .cases t1:(s.toList==[104,97,110,103])
   .cases t2:(s.toList==[119,97,105,116])
    .go_wp2_with (go_at_call 62;refine(En g _ n c A _ W2 gJ.o.rs.rd aC aC aC).mono ?_;rintro e w3 ⟨r,rfl,⟨r0,r1⟩,lD,kT⟩;have jK:=aD (gJ.o.grown lD kT);have ec:=aI jK.o.blk;have fc:=qS jK.o.blk;have zb:=jK.o.zb;clear lD kT)
     go_meet
     exact⟨_,_,(jK.o.set (i:=1) (u:=.int .i64 (1+r)) rfl).wide aC⟩
    .go_wp2_with (go_at_call 88;refine(Q1 g _ n c _ 0 5 5 A _ ((gJ.o.alloc _).rs.rd) aC aC aC aQ aC (Tx (xs:=[1,2,5,3,60]) (gU _ _) rfl)).mono ?_;rintro e w3 ⟨p,rfl,_,lD,kT⟩;have jK:=aD ((gJ.o.alloc _).grown lD kT);have ec:=aI jK.o.blk;have fc:=qS jK.o.blk;have zb:=jK.o.zb;clear lD kT)
     go_meet
     exact⟨_,_,(jK.o.set (i:=1) (u:=.int .i64 p) rfl).wide aC⟩
   .go_wp2_with (go_at_call 62;refine(En g _ n c A _ W2 gJ.o.rs.rd aC aC aC).mono ?_;rintro e w3 ⟨r,rfl,⟨r0,r1⟩,lD,kT⟩;have jK:=aD (gJ.o.grown lD kT);have ec:=aI jK.o.blk;have fc:=qS jK.o.blk;have zb:=jK.o.zb;clear lD kT)
    go_meet
    exact⟨_,_,(jK.o.set (i:=1) (u:=.int .i64 (1+r)) rfl).wide aC⟩
  .go_wp2_with (first
    |(clear once;go_at_call 62;refine(En g _ n c A _ W2 gJ.o.rs.rd aC aC aC).mono ?_;rintro e w3 ⟨r,rfl,⟨r0,r1⟩,lD,kT⟩;have jK:=aD (gJ.o.grown lD kT);have ec:=aI jK.o.blk;have fc:=qS jK.o.blk;have zb:=jK.o.zb;clear lD kT;clear ec fc;have wD:=aD (jK.o.set (i:=1) (u:=.int .i64 (1+r)) rfl);have ec:=aI jK.o.blk;have fc:=qS jK.o.blk)
    |(go_at_call 62;refine(En g _ n c A _ (w3.setCell ⟨b,1,none⟩ (.int .i64 (1+r))) wD.o.rs.rd aC aC aC).mono ?_;rintro e w4 ⟨r2,rfl,⟨zmW,zl0⟩,lD,kT⟩;have uA:=aD (wD.o.grown lD kT);have ec:=aI uA.o.blk;have fc:=qS uA.o.blk;have zb:=uA.o.zb;clear lD kT))
   go_meet
   exact⟨_,_,(uA.o.set (i:=2) (u:=.int .i64 r2) rfl).wide aC⟩
 case rest=>
  obtain⟨x,y,aX⟩:=hcut;have lJ:=aD aX;clear aX ec fc zb;obtain⟨W5,xW⟩:=aP wc;rw[<-xW] at lJ⊢;clear xW
  go_upto_block 1 with(go_at_call 62;refine(En g _ n c A _ W5 lJ.o.rs.rd aC aC aC).mono ?_;rintro e w6 ⟨r,rfl,⟨r0,r1⟩,lD,kT⟩;have kJ:=aD (lJ.o.grown lD kT);have ec:=aI kJ.o.blk;have fc:=qS kJ.o.blk;have zb:=kJ.o.zb;clear lD kT)
  go_cut [] from 37 to 54 (λwx=>∃(s:ByteArray) (x y:Int),Ag w g A n c (q+7) rb b 54 #[.string ⟨#[]⟩,.int .i64 0,.int .i64 0] #[.string s,.int .i64 x,.int .i64 y] wx)
  case first=>
   by_cases e0:r=0
   .subst e0
    go_wp2_with (go_at_call 88;refine(Q1 g _ n c _ 0 5 5 A _ ((kJ.o.alloc _).rs.rd) aC aC aC aQ aC (Tx (xs:=[0,100,-1,61,5]) (gU _ _) rfl)).mono ?_;rintro e w7 ⟨p,rfl,_,lD,kT⟩;have Ea:=aD ((kJ.o.alloc _).grown lD kT);have ec:=aI Ea.o.blk;have fc:=qS Ea.o.blk;have zb:=Ea.o.zb;clear lD kT)
    go_meet
    exact⟨_,_,_,(Ea.o.set (i:=1) (u:=.int .i64 p) rfl).wide aC⟩
   by_cases e1:r=1
   .subst e1
    go_wp2_with (go_at_call 88;refine(Q1 g _ n c _ 0 3 3 A _ ((kJ.o.alloc _).rs.rd) aC aC aC aQ aC (Tx (xs:=[1,10,-1]) (gU _ _) rfl)).mono ?_;rintro e w7 ⟨p,rfl,_,lD,kT⟩;have Ea:=aD ((kJ.o.alloc _).grown lD kT);have ec:=aI Ea.o.blk;have fc:=qS Ea.o.blk;have zb:=Ea.o.zb;clear lD kT)
    go_meet
    exact⟨_,_,_,(Ea.o.set (i:=2) (u:=.int .i64 p) rfl).wide aC⟩
   by_cases e2:r=2
   .subst e2
    go_wp2_with (go_at_call 107;refine(of_any g _ n c _ 0 3 3 A _ (kJ.o.alloc _).rs.rd aC aC aC aQ aC (zrl (xs:=[⟨#[]⟩,⟨#[114,105,110,103,115]⟩,⟨#[112,117,116]⟩]) (gU _ _) rfl)).mono ?_;rintro e w7 ⟨s',rfl,tZ,oO⟩;have Ea:=aD ((kJ.o.alloc _).grown tZ oO);have ec:=aI Ea.o.blk;have fc:=qS Ea.o.blk;have zb:=Ea.o.zb;clear tZ oO)
    go_meet
    exact⟨_,_,_,(Ea.o.set (i:=0) (u:=.string s') rfl).wide aC⟩
   have Ya:(r==0)=false:=by simpa using e0
   have wN:(r==1)=false:=by simpa using e1
   have Fb:(r==2)=false:=by simpa using e2
   clear e0 e1 e2;go_wp2
   go_meet
   exact⟨_,_,_,kJ.o.wide aC⟩
  case rest=>
   obtain⟨s8,x8,y8,aX⟩:=hcut;clear ec fc zb;obtain⟨W8,zrd⟩:=aP wc;rw[<-zrd] at aX⊢;clear zrd;have Gc:=aD aX;clear aX;have ec:=aI Gc.o.blk;have fc:=qS Gc.o.blk;have er:=aI Gc.o.rs.res;have fr:=qS Gc.o.rs.res;have zb:=Gc.o.zb;have zr:=iB Gc.o.rs.res;have Yh:=Gc.o.lo;have aS:¬b=rb:=aC;have zar:¬rb=b:=aC;have mB:=Gc.o.rs.rlo;go_wp2;refine nF (v:=.agg #[.string s8,.int .i64 x8,.int .i64 y8]) ?_ rfl ⟨_,_,_,rfl,eP.end1 (eP.end1 (eP.end1 (eP.end0 Gc.o.rs aC) kW mB) kW mB) kW mB⟩;simp[results,Tryz.results89,go_sem,er]
def zz8:(aK.info? 54).map (λi=>(i.zero,i.size,i.bytes))=some (some (.agg #[.string ⟨#[]⟩,.int .i64 0,.int .i64 0]),3,32):=aT
structure x9 (w0:aE)(g:Nat)(A:Option bD)(n c q:Nat)(v:aF)(k:Nat)(xs:List aF)(b:Nat)(s:ByteArray)(x y:Int)(W:aE):Prop where
 st:qD w0 g A n c q 54 3 v k xs W
 blk:W.heap[b]? =some (.cells #[.string s,.int .i64 x,.int .i64 y] 54)
 lt:∀b',v.ownBlock=some b'->b'<b
 lo:w0.heap.size<=b
section
variable {w0:aE}{g:Nat}{A:Option bD}{n c q:Nat}{v:aF}{k:Nat}{xs:List aF}{b:Nat}{s:ByteArray}{x y:Int}{W W':aE}
def x9.below (h:x9 w0 g A n c q v k xs b s x y W)(hb:cD W.heap.size W W'):x9 w0 g A n c q v k xs b s x y W':=⟨h.st.below hb,(mH hb h.blk).1,h.lt,h.lo⟩
theorem x9.grown {q':Nat}(h:x9 w0 g A n c q v k xs b s x y W)(hr:Rd W' g A n c q')(hg:W.grownBy W' (some g)):x9 w0 g A n c q' v k xs b s x y W':=
 ⟨h.st.grown hr hg,(zhg hg h.blk (by have:=h.st.hg;have:=h.lo;omega)).1,h.lt,h.lo⟩
def x9.wide {q':Nat}(h:x9 w0 g A n c q v k xs b s x y W)(hq:q<=q'):x9 w0 g A n c q' v k xs b s x y W:=⟨h.st.wide hq,h.blk,h.lt,h.lo⟩
theorem x9.set {i:Nat}{u:aF}{s':ByteArray}{x' y':Int}(h:x9 w0 g A n c q v k xs b s x y W)(e:(#[zsb s,.int .i64 x,.int .i64 y]:Array aF).setIfInBounds i u=#[.string s',.int .i64 x',.int .i64 y']):x9 w0 g A n c q v k xs b s' x' y' (W.setCell ⟨b,i,none⟩ u):=
 ⟨h.st.aside (zb5 ⟨b,i,none⟩ u) (by
  cases e2:v.ownBlock with
  |none=>exact .inl rfl
  |some b'=>right;intro e3;injection e3 with e3;have:=h.lt b' e2;simp at e3;omega) (λb' e2=>by injection e2 with e2;simp at e2;have:=h.lo;omega),
  by rw[n8 h.blk,e],h.lt,h.lo⟩
def x9.zb (h:x9 w0 g A n c q v k xs b s x y W):b<W.heap.size:=iB h.blk
def x9.make (h:qD w0 g A n c q 54 3 v k xs W)(s:ByteArray)(x y:Int):x9 w0 g A n c q v k xs W.heap.size s x y (W.alloc (.cells #[.string s,.int .i64 x,.int .i64 y] 54)):=
 ⟨h.alloc _,gU _ _,λb' e=>(h.own.lt b' e).2,h.hb⟩
end
theorem zDf (es:List dX)(s:ByteArray)(x y:Int):sY (es++[⟨s,x,y⟩])=sY es++[.string s,.int .i64 x,.int .i64 y]:=by simp[sY,dX.cells]
def ztN (w:aE)(g:Nat)(A:Option bD)(n c q:Nat)(e:I8)(w':aE):Prop:=
 ∃(A':Option bD) (n' c':Nat) (es:List dX),e=.returned (.slice A' n' c')/\Ce 54 3 w' w.heap.size w'.heap.size A' n' c' (sY es)/\n'<=20/\Rd w' g A n c q/\w.grownBy w' (some g)
variable {v:aF}
theorem zCW {q q':Nat}{es:List dX}(h:qD w g A n c q 54 3 v k (sY es) W)(hk:k<=20)(hq:q<=q'):ztN w g A n c q' (.returned v) W:=by
 obtain⟨A1,c1,rfl,ho⟩:=zeo h.own aH;exact⟨A1,k,c1,es,rfl,ho,hk,h.rd.mono hq,h.gr⟩
theorem zEv (g q n c:Nat)(A:Option bD)(w:aE)(h:Rd w g A n c q)(hq:q<800000000):
 iR aK 61 #[.pointer (some ⟨g,0,none⟩)] w (ztN w g A n c (q+200)):=by
 obtain⟨i0,hi,fV,dM,jJ⟩:=info_parts zz8;have HI:=aD (And.intro hi (And.intro fV (And.intro dM jJ)));clear hi fV dM jJ;have D1:=qD.init 54 3 h;have gb:=D1.hg;clear h
 go_enter Tryz.func61,Tryz.ntmps61
 go_wp2_with fail
 refine(En g _ n c A _ _ D1.rd aC aC aC).mono ?_;rintro e w2 ⟨r,rfl,⟨r0,r5⟩,hr,hg⟩;have D2:=(D1.grown hr hg).wide (q':=q+194-12*r.toNat) aC;clear D1 hr hg;obtain⟨R,rfl⟩:=Int.eq_ofNat_of_zero_le r0;have Y9:=aD D2;clear D2;go_wp2
 go_loopw [3,4] (λv i wr=>∃(m k:Nat) (es:List dX),i=.int .i64 m/\m+k<=15/\es.length=k/\qD w g A n c (q+194-12*m) 54 3 v k (sY es) wr) (λ_ i _=>(intOf i).toNat)
 case atStart=>exact⟨R,0,[],rfl,aC,rfl,Y9.o⟩
 case round=>
  obtain⟨m,k,es,rfl,zdy,fI,D⟩:=hrel;have HX:=aD fI;clear fI;obtain⟨V,hV⟩:=aP u3;by_cases aU:0<m
  .have z4:=D.hb
   have HD:=aD D;clear D
   go_upto_region 6 with(go_at_call 89;refine(zBk g (q+194-12*m) n c A _ HD.o.rd aC).mono ?_;rintro e w3 ⟨s,x,y,rfl,hr,hg⟩;have V7:=aD (x9.make (HD.o.grown hr hg) s x y);have zJZ:=V7.o.zb;have ec:=aI V7.o.blk;clear hr hg)
   go_cut [22] from 9 to 30 (λv wx=>∃t:Bool,v=.bool t/\x9 w g A n c (q+194-12*m+11) u3 k (sY es) w3.heap.size s x y wx)
   case first=>
    obtain⟨t,ht⟩:=aP (qX 2 ⟨s,x,y⟩);have HT:=aD ht;clear ht;cases t
    .go_wp2_with (first
      |(go_at_call 50;refine(zli ⟨s,x,y⟩ 2 _).mono ?_;rintro e w4 ⟨rfl,b4⟩;rw[<-HT.o];have zg8:=aD (V7.o.below b4);clear b4)
      |(go_at_call 62;refine(En g (q+194-12*m+10) n c A _ _ zg8.o.st.rd aC aC aC).mono ?_;rintro e w5 ⟨r2,rfl,⟨zmW,zl0⟩,tZ,oO⟩;have zyV:=aD (zg8.o.grown tZ oO);clear tZ oO))
     all_goals
      go_meet
      exact⟨_,rfl,zyV.o⟩
    .go_wp2_with (go_at_call 50;refine(zli ⟨s,x,y⟩ 2 _).mono ?_;rintro e w4 ⟨rfl,b4⟩;rw[<-HT.o];have zg8:=aD (V7.o.below b4);clear b4)
     go_meet
     exact⟨_,rfl,zg8.o.wide aC⟩
   case rest=>
    obtain⟨t,rfl,D6⟩:=hcut;have Yy:=aD D6;clear D6
    go_upto_if 22 with fail
    go_cut [] from 23 to 30 (λwx=>∃(s':ByteArray) (x' y':Int),x9 w g A n c (q+194-12*m+12) u3 k (sY es) w3.heap.size s' x' y' wx)
    case first=>
     have ec:=aI Yy.o.blk;have fc:=qS Yy.o.blk;have zb:=Yy.o.zb;cases t
     .go_wp2
      go_meet
      exact⟨s,x,y,Yy.o.wide aC⟩
     .go_wp2_with (go_at_call 62;refine(En g (q+194-12*m+11) n c A _ _ Yy.o.st.rd aC aC aC).mono ?_;rintro e w5 ⟨r2,rfl,⟨zmW,zl0⟩,tZ,oO⟩;have Ta:=aD (Yy.o.grown tZ oO);have ec:=aI Ta.o.blk;have fc:=qS Ta.o.blk;have zb:=Ta.o.zb;clear tZ oO)
      go_meet
      exact⟨_,_,_,((Ta.o.set (i:=0) (u:=.string ⟨#[114,105,110,103]⟩) (s':=⟨#[114,105,110,103]⟩) (x':=x) (y':=y) rfl).set (i:=1) (u:=.int .i64 (1+r2)) (s':=⟨#[114,105,110,103]⟩) (x':=1+r2) (y':=y) rfl).set (i:=2) (u:=.int .i64 0) (s':=⟨#[114,105,110,103]⟩) (x':=1+r2) (y':=0) rfl⟩
    case rest=>
     obtain⟨s',x',y',D7⟩:=hcut;have ec:=aI D7.blk;have zb:=D7.zb;have zw:=D7.st.hb;have Ta:=aD D7;obtain⟨hi,fV,dM,jJ⟩:=HI.o;have HH:=aD hi;clear hi D7
     go_wp2_with (at_builtin;refine wpList_append_own_at _ rfl _ _ 31 rfl w.heap.size 54 i0 (.agg #[.string ⟨#[]⟩,.int .i64 0,.int .i64 0]) 3 32 Tryz.underlying31 HH.o fV dM jJ rfl aH _ _ _ rfl ((Ta.o.st.alloc _).own) ⟨wc.heap.size,0,none⟩ 1 1 [.string s',.int .i64 x',.int .i64 y'] rfl rfl (aE.news_of_block (cs:=#[.string s',.int .i64 x',.int .i64 y']) (gU _ _)) (by simp[aF.oneCell']) X0 aC pR ?_;intro v' w6 zqz mQ _ _)
     have D8:=((Ta.o.st.alloc _).app zqz mQ).wide (q':=q+194-12*(m-1)) aC;have zBI:=aD D8;clear D8 zqz mQ fV dM jJ;go_wp2;go_roundw
     case rel=>exact⟨m-1,k+1,es++[⟨s',x',y'⟩],int_pred aU,aC,by simp[HX.o],by rw[zDf];exact zBI.o⟩
     case measure=>simp[intOf];omega
  .have em:m=0:=aC
   subst em;have HD:=aD D;clear D;go_wp2;go_ret;exact zCW HD.o aC aC
def zAB {B:Nat}(h:cD B w W)(o:Obj)(hB:B<=W.heap.size):cD B w (W.alloc o):=h.trans ((eD (fN W.heap.size W) o).mono hB)
theorem zA5 (o:gG)(lo hi n c:Nat)(A:Option bD)(es:List dX)(w:aE)(h:cM w lo hi 3 A n c (sY es))(hn:n<=1048576)(zAx:hi<=w.heap.size):
 iR aK 29 #[.agg #[.int .i64 o.ln,.int .i64 o.op,.int .i64 o.pt],.slice A n c] w λx w'=>∃g c',x=.returned (.tuple #[.slice (some ⟨g,0,none⟩) (wS o es).recs.length c',.bool (fJ o es)])/\
  w'.ownsRow w.heap.size 50 7 (.slice (some ⟨g,0,none⟩) (wS o es).recs.length c') (wS o es).recs.length (recs (wS o es).recs)/\cD w.heap.size w w':=by
 obtain⟨O,hO⟩:=aP (.cells #[.int .i64 o.ln,.int .i64 o.op,.int .i64 o.pt] 29:Obj);have gJ:=aD (eD (fN w.heap.size w) O);have mL:=aD (h.below gJ.o);have HO:=aD hO;have hz:(w.alloc O).heap.size=w.heap.size+1:=aQ;have HZ:=aD hz;clear h hz hO
 go_enter Tryz.func29,Tryz.ntmps29
 go_upto_region 1 with fail
 rw[<-HO.o];obtain⟨W1,cO⟩:=aP (w.alloc O);have hk:=gU w O;rw[<-cO] at gJ mL HZ hk⊢;rw[HO.o] at hk;have q:=aI hk;obtain⟨q0,q1,q2⟩:=ztq q;clear cO hk q
 go_upto_region 2 with(go_at_call 40;refine(zEN o lo hi n c A es W1 mL.o hn (by have:=HZ.o;omega)).mono ?_;rintro x w2 ⟨v,rfl,bU,q9⟩;obtain⟨r5,eN⟩:=aP (wS o es:bY);obtain⟨t5,o0⟩:=aP (fJ o es:Bool);rw[<-eN] at bU⊢;rw[<-o0];have pG:=aD eN;have Cq:=aD o0;have wO:=aD bU;have jK:=aD q9;clear eN o0 bU q9)
 go_wp2;go_ret2;have hz:=HZ.o;refine⟨v.gR,v.cR,?_,?_,?_⟩
 .rw[<-pG.o,<-Cq.o];rfl
 .rw[<-pG.o]
  exact zgP ((wO.o.alloc _).rc) aC
 .exact gJ.o.trans (zAB (jK.o.mono aC) _ (by have:=jK.o.size;omega))
def clkF (o:gG)(es:List dX):Int:=if fJ o es then(F8 o es).clk else-1
variable {xs:List aF}{lo E s:Nat}
theorem row_v (h:w.ownsRow lo E s v n xs)(hs:0<s)(hl:n<=1048576):∃A m c,v=.slice A m c/\m<=1048576/\Ce E s w lo w.heap.size A m c xs:=by
 obtain⟨A,c,e,o⟩:=zeo h hs;exact⟨A,n,c,e,hl,o⟩
def Fv {hi rb i:Nat}{u:aF}(h:Ce E s W lo hi A n c xs)(hb:rb<lo):Ce E s (W.setCell ⟨rb,i,none⟩ u) lo hi A n c xs:=
 h.keep aQ (λx h1 _ _=>dN W _ _ x s9)
def ownV_gb {w':aE}{hi:Nat}(h:Ce E s w lo hi A n c xs)(hg:w.grownBy w' (some g))(eB:g<lo):Ce E s w' lo hi A n c xs:=
 h.keep hg.size λb h1 _ h3=>hg.block b h3 pR
def GotBoth6 (w:aE)(g:Nat)(A:Option bD)(n c q:Nat)(e:I8)(w':aE):Prop:=
 ∃(x y z:Int) (A2:Option bD) (n2 c2:Nat) (es:List dX),e=.returned (.tuple #[.agg #[.int .i64 x,.int .i64 y,.int .i64 z],.slice A2 n2 c2])/\Ce 54 3 w' w.heap.size w'.heap.size A2 n2 c2 (sY es)/\n2<=20/\Rd w' g A n c q/\w.grownBy w' (some g)
theorem zA6 (g q n c:Nat)(A:Option bD)(w:aE)(h:Rd w g A n c q)(hq:q<700000000):
 iR aK 47 #[.pointer (some ⟨g,0,none⟩)] w (GotBoth6 w g A n c (q+230)):=by
 have kW:=h.gblt;obtain⟨rb,tT⟩:=aP w.heap.size;have mD:=aD tT;have Es:=aD (show eP w g A n c q rb 29 #[.int .i64 0,.int .i64 0,.int .i64 0] (w.alloc (.cells #[.int .i64 0,.int .i64 0,.int .i64 0] 29)) from⟨h.alloc _,Wk (zeW _ _) _,kW,lV _ _ tT,aC⟩);clear h
 go_enter Tryz.func47,Tryz.ntmps47
 go_upto_region 1 with fail
 rw[<-tT];clear tT;obtain⟨W1,cO⟩:=aP (w.alloc (.cells #[.int .i64 0,.int .i64 0,.int .i64 0] 29));rw[<-cO] at Es⊢;clear cO
 go_upto_region 2 with(go_at_call 60;refine(zAP g q n c A W1 Es.o.rd aC).mono ?_;rintro e w2 ⟨x,y,z,rfl,tZ,oO⟩;have jC:=aD (Es.o.grown tZ oO);clear tZ oO)
 obtain⟨b,hb⟩:=aP w2.heap.size;rw[<-hb];have gJ:=aD (jC.o.box #[.int .i64 x,.int .i64 y,.int .i64 z] hb);obtain⟨W2,nZ⟩:=aP (w2.alloc (.cells #[.int .i64 x,.int .i64 y,.int .i64 z] 29));rw[<-nZ] at gJ⊢;have Gq:rb<W2.heap.size:=iB gJ.o.rs.res;have zld:b<W2.heap.size:=gJ.o.zb;have zfQ:g<W2.heap.size:=by have:=gJ.o.rs.gr.size;omega
 clear nZ hb
 go_upto_region 3 with(go_at_call 61;refine(zEv g (q+10) n c A W2 gJ.o.rs.rd aC).mono ?_;rintro e w3 ⟨A2,n2,c2,es,rfl,zsz,zk5,Fe,An⟩;have wD:=aD (gJ.o.grown Fe An);have Xb:=aD zsz;have zg2:=An.size;clear zsz Fe An)
 have ec:=aI wD.o.blk;have fc:=qS wD.o.blk;have er:=aI wD.o.rs.res;have fr:=qS wD.o.rs.res;have zb:=wD.o.zb;have zr:=iB wD.o.rs.res;have Yh:=wD.o.lo;have aS:¬b=rb:=aC;have zar:¬rb=b:=aC;have mB:=wD.o.rs.rlo;cases hy:(y==1)
 .go_wp2
  refine nF (v:=.tuple #[.agg #[.int .i64 x,.int .i64 y,.int .i64 z],.slice A2 n2 c2]) ?_ rfl ?_
  .simp[results,zjU,go_sem,er]
  .exact⟨x,y,z,A2,n2,c2,es,rfl,(Fv (Fv (Fv Xb.o Gq) Gq) Gq).wide aC (by simp;try omega),zk5,(eP.end1 (eP.end1 (eP.end1 (eP.end0 (q':=q+230) wD.o.rs aC) kW mB) kW mB) kW mB).1,(eP.end1 (eP.end1 (eP.end1 (eP.end0 (q':=q+230) wD.o.rs aC) kW mB) kW mB) kW mB).2⟩
 .go_wp2_with (go_at_call 62;refine(En g _ n c A _ w3 wD.o.rs.rd aC aC aC).mono ?_;rintro e w4 ⟨r,rfl,⟨r0,r1⟩,Nr,Ib⟩;have uA:=aD (wD.o.grown Nr Ib);have Un:=aD (ownV_gb Xb.o Ib zfQ);have zJC:=Ib.size;have ec:=aI uA.o.blk;have fc:=qS uA.o.blk;have er:=aI uA.o.rs.res;have fr:=qS uA.o.rs.res;have zb:=uA.o.zb;have zr:=iB uA.o.rs.res;clear Nr Ib)
  .
    refine nF (v:=.tuple #[.agg #[.int .i64 x,.int .i64 2,.int .i64 z],.slice A2 n2 c2]) ?_ rfl ?_
    .simp[results,zjU,go_sem,er]
    .exact⟨x,2,z,A2,n2,c2,es,rfl,(Fv (Fv (Fv (Fv (i:=1) (u:=.int .i64 2) Un.o zld) Gq) Gq) Gq).wide aC (by simp;try omega),zk5,(eP.end1 (eP.end1 (eP.end1 (eP.end0 (q':=q+230) (uA.o.set (i:=1) (u:=.int .i64 2) rfl).rs aC) kW mB) kW mB) kW mB).1,(eP.end1 (eP.end1 (eP.end1 (eP.end0 (q':=q+230) (uA.o.set (i:=1) (u:=.int .i64 2) rfl).rs aC) kW mB) kW mB) kW mB).2⟩
  .
    refine nF (v:=.tuple #[.agg #[.int .i64 x,.int .i64 y,.int .i64 z],.slice A2 n2 c2]) ?_ rfl ?_
    .simp[results,zjU,go_sem,er]
    .exact⟨x,y,z,A2,n2,c2,es,rfl,(Fv (Fv (Fv Un.o Gq) Gq) Gq).wide aC (by simp;try omega),zk5,(eP.end1 (eP.end1 (eP.end1 (eP.end0 (q':=q+230) uA.o.rs aC) kW mB) kW mB) kW mB).1,(eP.end1 (eP.end1 (eP.end1 (eP.end0 (q':=q+230) uA.o.rs aC) kW mB) kW mB) kW mB).2⟩
def DrewOff (w:aE)(e:I8)(w':aE):Prop:=
 ∃(o:gG) (A2:Option bD) (n2 c2:Nat) (es:List dX),e=.returned (.tuple #[.agg #[.int .i64 o.ln,.int .i64 o.op,.int .i64 o.pt],.slice A2 n2 c2])/\Ce 54 3 w' w.heap.size w'.heap.size A2 n2 c2 (sY es)/\n2<=20/\cD w.heap.size w w'
theorem zCd (A:Option bD)(n c:Nat)(w:aE)(h:Code w A n c):iR aK 27 #[.slice A n c] w (DrewOff w):=by
 obtain⟨O,hO⟩:=aP (.cells #[.int .i64 0,.int .i64 0,.int .i64 0] 29:Obj);obtain⟨rb,tT⟩:=aP w.heap.size;have mD:=aD tT;have HO:=aD hO;have zP:=aD (lV w O tT);have Ou:=aD (eD (fN w.heap.size w) O);have fV:(w.alloc O).heap.size=rb+1:=by rw[tT];simp
 have zpf:=aD (h.alloc O);obtain⟨W0,Hs⟩:=aP (w.alloc O);have zb3:=aD Hs;rw[<-Hs] at zP Ou fV zpf;have zq6:=aD fV;clear h Hs fV hO
 go_enter Tryz.func27,Tryz.ntmps27
 go_upto_region 1 with fail
 rw[<-tT,<-HO.o,<-zb3.o];clear tT
 go_wp2_with (first
  |(go_at_call 48;refine(zzb _ _ _ W0 zpf.o).mono ?_;rintro e w1 ⟨g,A1,n1,c1,rfl,r1,b1,g0⟩;have jC:=aD r1;have gJ:=aD b1;have qP:=aD g0;clear r1 b1 g0)
  |(go_at_call 47;refine(zA6 g 0 n1 c1 A1 w1 jC.o aC).mono ?_;rintro e w2 ⟨x,y,z,A2,n2,c2,es,rfl,o2,Ze,r2,g2⟩;have qU:=(zhg g2 (mH gJ.o zP.o).1 (by have:=qP.o;have:=zq6.o;omega)).1;rw[HO.o] at qU;have zbm:=aD o2;have zzA:=aD g2;have znu:=aD qU;have er:=aI qU;have fr:=qS qU;have zr:=iB qU;clear o2 r2 g2 qU))
 refine nF (v:=.tuple #[.agg #[.int .i64 x,.int .i64 y,.int .i64 z],.slice A2 n2 c2]) ?_ rfl ?_
 .simp[results,Tryz.results27,go_sem,er]
 .have hw:=mD.o
  have fV:=zq6.o;have dM:=gJ.o.size;have qO:=qP.o;have h1:=Ou.o.trans (gJ.o.mono aC);have h2:=h1.trans (zDl zzA.o aC aC);have h3:Chg rb (rb+1) w2 _:=((((Chg.refl rb (rb+1) w2).setCell (p:=⟨rb,0,none⟩) (bN _) (yE _) (.int .i64 x)).setCell (p:=⟨rb,1,none⟩) (bN _) (yE _) (.int .i64 y)).setCell (p:=⟨rb,2,none⟩) (bN _) (yE _) (.int .i64 z));have Gq:rb<w1.heap.size:=aC;exact⟨⟨x,y,z⟩,A2,n2,c2,es,rfl,(Fv (Fv (Fv zbm.o Gq) Gq) Gq).wide aC aQ,Ze,h2.trans ⟨h3.os,h3.tape,h3.output,h3.size,λB hB=>h3.block B aC aC⟩⟩
end Go.Proofs.YtfcjiloojkjaeaaGreatDoor
namespace Go.Proofs.YtfcjiloojkjaeaaGreatDoor
open Go.RowKit
open Go.RowKit
end Go.Proofs.YtfcjiloojkjaeaaGreatDoor
namespace Go.Mt
open Go.RowKit Go.Conc Go.Tt
end Go.Mt
namespace Go.Proofs.YtfcjiloojkjaeaaGreatDoor
open Go.RowKit Go.Mt Go.Conc Go.Tt
structure RfC where
 o:gG
 es:List dX
 g:Nat
 A:Option bD
 n:Nat
 c:Nat
abbrev offO (o:gG):Obj:=.cells #[.int .i64 o.ln,.int .i64 o.op,.int .i64 o.pt] 29
structure Ks (c:RfC)(w:aE):Prop where
 k:w.heap[c.g]? =some (offO c.o)
 e:cM w 0 w.heap.size 3 c.A c.n c.c (sY c.es)
 t:qV w
 u:zN w
 n20:c.n<=20
section
variable {c:RfC}{w w':aE}
def Ks.bl (h:Ks c w)(k:Bl w.heap.size w w'):Ks c w':=⟨(k.block _ (iB h.k)).trans h.k,h.e.bl k,h.t.bls k (bN _),h.u.bls k (bN _),h.n20⟩
def Ks.below (h:Ks c w)(k:cD w.heap.size w w'):Ks c w':=h.bl ⟨k.size,k.block⟩
def Ks.tp (h:Ks c w)(T:lM)(e:Nat):Ks c (Tt.tp w T e):=⟨h.k,h.e.tp T e,Ps rfl h.t,h.u,h.n20⟩
variable {A:Option bD}{xs:List aF}
def cM.belowZ {s n m:Nat}(h:cM w 0 w.heap.size s A n m xs)(k:cD w.heap.size w w'):cM w' 0 w'.heap.size s A n m xs:=h.bl ⟨k.size,k.block⟩
def cM.tpZ {s n m:Nat}(h:cM w 0 w.heap.size s A n m xs)(T:lM)(e:Nat):cM (Tt.tp w T e) 0 (Tt.tp w T e).heap.size s A n m xs:=h.tp T e
end
section
variable {p:bT}{op gs gs₁ fs:aN->Bool}{St:Nat->Prop}{W0:aE}{Post:aF->aE->Prop}
theorem JO.ld (L:Lv p op gs gs₁ fs){fn:aN}{tmps T':Array aF}{ops:Array aZ}{i:Nat}{rest:List Nat}{k:List dS}{ms:List Fm}{w:aE}{o:aZ}{b:Nat}{cs:Array aF}{T:aM}{fz:Nat×Nat}{t:aM}{x:cI}{d:TypeDesc}(hf:op fn=false)(hb:w.heap[b]? =some (.cells cs T fz))(hu:p.underlying t=some d)(h:JL p op gs fs St W0 Post ⟨fn,T',.inRegion ops rest::k,false⟩ ms w)(ho:ops[i]? =some o:=by exact zcU rfl (by conv=>lhs;whnf))
 (hop:o.op=.load t x:=by exact rfl) (hx:(bJ tmps []).eval x=.pointer (some ⟨b,0,none⟩):=by exact rfl) (hd:d.isRow=true:=by exact rfl) (hi:(p.info? t).map (·.size)=some cs.size:=by kernel_rfl) (b9:dG o (dO ops tmps)=true:=by exact rfl)
 (ht:(b7 ⟨tmps,[]⟩ o.dst (.agg cs)).tmps=T':=by first|(simp only[Go.Act.put,List.setIfInBounds_toArray,List.set_cons_zero,List.set_cons_succ];done)|(simp only[Go.Act.put,List.setIfInBounds_toArray,List.set_cons_zero,List.set_cons_succ];rfl)):JL p op gs fs St W0 Post ⟨fn,tmps,.inRegion ops (i::rest)::k,false⟩ ms w:=
 JO.opv L hf ho b9 (λT' e=>zDj (w:=Tt.tp w T' e) hop hb hx hu hd hi) (ht▸h)
end
end Go.Proofs.YtfcjiloojkjaeaaGreatDoor
namespace Go.Proofs.YtfcjiloojkjaeaaGreatDoor
open Go.RowKit
def QEnd (pt:Int)(d:bO):Prop:=
 (d.e=vK/\d.h≠-1/\d.h<=d.t)\/(d.e=vL/\d.h= -1)\/(d.e=tW/\d.h= -1/\pt<=d.t-d.f)
structure Zw (clk pt ln op:Int)(d:bO):Prop where
 l:1<=d.l/\d.l<=ln
 o:0<=d.o/\d.o<=op
 f:0<=d.f/\d.f<=clk
 c:1<=d.c
 ho:d.h= -1↔d.o=0
 hf:d.h≠-1->d.f<=d.h/\d.h<=clk
 hm: -1<=d.h
 st:(cS d=true/\d.t= -1)\/(cS d=false/\d.f<=d.t/\d.t<=clk/\QEnd pt d)
def yQ (d:bO):Bool:=cS d&&decide (0<=d.h)
def xM (d:bO):Bool:=decide (d.e=vK)
def zX (d:bO):Bool:=decide (d.e=tW)
structure yU (b:bY):Prop where
 rec_:∀d∈b.recs,Zw b.clk b.o.pt b.o.ln b.o.op d
 pair:∀(i j:Nat) (d e:bO),i<j->b.recs[i]? =some d->b.recs[j]? =some e->d.f<=e.f/\((d.l=e.l\/d.c=e.c)->cS d=false/\d.t<=e.f)
variable {op:Int}{d:bO}
theorem Zw.le {clk ztO pt ln:Int}(h:Zw clk pt ln op d)(hc:clk<=ztO):Zw ztO pt ln op d:=
 ⟨h.l,h.o,⟨h.f.1,by have:=h.f.2;omega⟩,h.c,h.ho,λx=>⟨(h.hf x).1,by have:=(h.hf x).2;omega⟩,h.hm,h.st.imp id λx=>⟨x.1,x.2.1,by have:=x.2.2.1;omega,x.2.2.2⟩⟩
def G4 (t:List UInt8):Bool:=decide (4<t.length)&&(t.take 4==[99,97,108,108])
def Hf (t:List UInt8):Bool:=t==[100,111,110,101]
def Dw (k:List UInt8)(t:List UInt8):Int:=
 if k=Bt/\t=[98,117,115,121] then 1 else if t=[111,102,102] then-1
 else if k=C8/\t≠[116,97,108,107,115]/\t≠[110,111,110,101]/\t≠[98,117,115,121] then-1 else 0
theorem zhE {p:bO->Bool}{f:bO->bO}:∀{rs:List bO} {i:Nat} {d:bO},rs[i]? =some d->(rs.modify i f).countP p+(if p d then 1 else 0)=rs.countP p+(if p (f d) then 1 else 0)
 |[],i,d,h=>by simp at h
 |r::rs,0,d,h=>by grind
 |r::rs,i+1,d,h=>by
  have h:rs[i]? =some d:=by simpa using h
  rw[List.modify_succ_cons,zaJ,zaJ];have:=zhE (p:=p) (f:=f) h;omega
theorem hrd_of {clk pt ln:Int}(h:Zw clk pt ln op d):yQ d=(cS d&&decide (d.h≠-1)):=by
 unfold yQ;congr 1;have:=h.hm;by_cases e:d.h= -1
 .rw[e];rfl
 .rw[decide_eq_true aC,decide_eq_true e]
theorem zgF (h:cS d=true):xM d=false/\zX d=false:=by
 unfold cS at h;unfold xM zX;constructor
 .rw[decide_eq_false_iff_not];intro e;rw[e] at h;rw[Xy] at h;cases h
 .rw[decide_eq_false_iff_not];intro e;rw[e] at h;rw[Zg] at h;cases h
theorem zs8:¬vK=tW:=by decide+kernel
theorem zGW:¬vL=vK:=by decide+kernel
theorem zzW:¬vL=tW:=by decide+kernel
structure Cnts (rs D9:List bO)(dh dd dt:Int):Prop where
 hr:(D9.countP yQ:Int)=rs.countP yQ+dh
 dn:(D9.countP xM:Int)=rs.countP xM+dd
 tr:(D9.countP zX:Int)=rs.countP zX+dt
variable {b:bY}{c:Int}{wait back:List bF}{log:List (List UInt8)}
theorem yU.more (h:yU b)(hs:fK b){l o hh:Int}(hc:gN b.recs c=none)(hl:∀(i:Nat) (d:bO),b.recs[i]? =some d->cS d=true->d.l≠l)(lE:0<=b.clk)(c1:1<=c)(l1:1<=l/\l<=b.o.ln)(ho:(o=0/\hh= -1)\/(1<=o/\o<=b.o.op/\hh=b.clk))(hop:1<=b.o.op):
 yU {b with recs:=b.recs++[⟨c,l,o,b.clk,hh,-1,dY⟩],wait:=wait,back:=back,log:=log}/\Cnts b.recs (b.recs++[⟨c,l,o,b.clk,hh,-1,dY⟩]) (if o=0 then 0 else 1) 0 0:=by
 have op:cS ⟨c,l,o,b.clk,hh,-1,dY⟩=true:=by unfold cS;rw[zaa];rfl
 refine⟨⟨λd hd=>?_,λi j d e pZ hi hj=>?_⟩,?_⟩
 .rcases C3.1 hd with hd|hd
  .exact h.rec_ d hd
  .obtain rfl:=yT.1 hd
   exact⟨l1,by simp only;omega,by simp only;omega,c1,by simp only;omega,λx=>by simp only at x⊢;omega,by simp only;omega,.inl ⟨op,rfl⟩⟩
 .rcases E8 hj with⟨Jg,Py⟩|⟨rfl,rfl⟩
  .rcases E8 hi with⟨yR,Bz⟩|⟨rfl,rfl⟩
   .exact h.pair i j d e pZ Bz Py
   .omega
  .rcases E8 hi with⟨yR,Bz⟩|⟨rfl,rfl⟩
   .have q:=h.rec_ d (dZ Bz)
    refine⟨q.f.2,λhx=>?_⟩;rcases q.st with⟨q1,q2⟩|⟨q1,q2,q3,_⟩
    .rcases hx with hx|hx
     .exact absurd hx (hl i d Bz q1)
     .exact absurd hx (Jr hc i d Bz q1)
    .exact⟨q1,q3⟩
   .omega
 .refine⟨?_,?_,?_⟩
  .rw[znq,ziK]
   unfold yQ;rw[op];rcases ho with⟨rfl,rfl⟩|⟨h1,h2,rfl⟩
   .simp
   .rw[if_neg (by omega:¬o=0)]
    simp[lE]
  .rw[znq,ziK,(zgF op).1];simp
  .rw[znq,ziK,(zgF op).2];simp
variable {i:Nat}
theorem yU.ended (h:yU b)(hs:fK b)(hd:b.recs[i]? =some d)(Bo:cS d=true){e:ByteArray}(he:(e.toList==[111,112,101,110])=false)(lE:0<=b.clk)(hq:QEnd b.o.pt {d with t:=b.clk,e:=e}):
 yU {b with recs:=vD b i e,wait:=wait,back:=back,log:=log}/\Cnts b.recs (vD b i e) (if d.h= -1 then 0 else-1) (if e=vK then 1 else 0) (if e=tW then 1 else 0):=by
 have aS:cS {d with t:=b.clk,e:=e}=false:=he;have qd:=h.rec_ d (dZ hd);have zg6:∀z:bO,cS {z with t:=b.clk,e:=e}=false:=λz=>he;refine⟨⟨λz hz=>?_,λp q x y zlL hp Ni=>?_⟩,?_⟩
 .obtain⟨j,hj⟩:=At.1 hz
  obtain⟨u,h1,⟨e1,rfl⟩|⟨e1,rfl⟩⟩:=yI hj
  .subst e1
   rw[hd] at h1;injection h1 with h1;subst h1;exact⟨qd.l,qd.o,qd.f,qd.c,qd.ho,qd.hf,qd.hm,.inr ⟨aS,qd.f.2,zbT _,hq⟩⟩
  .exact h.rec_ z (dZ h1)
 .obtain⟨u,h1,e1⟩:=yI hp
  obtain⟨v,h2,e2⟩:=yI Ni;have zdh:=h.pair p q u v zlL h1 h2;have Fb:y.f=v.f/\y.l=v.l/\y.c=v.c:=by rcases e2 with⟨_,rfl⟩|⟨_,rfl⟩<;>exact⟨rfl,rfl,rfl⟩
  rw[Fb.1,Fb.2.1,Fb.2.2];rcases e1 with⟨ep,rfl⟩|⟨_,rfl⟩
  .subst ep
   rw[hd] at h1;injection h1 with h1;subst h1;refine⟨zdh.1,λhx=>?_⟩;have:=(zdh.2 hx).1;rw[Bo] at this;cases this
  .exact zdh
 .have m:=λp=>zhE (p:=p) (f:=λd=>{d with t:=b.clk,e:=e}) hd
  have hh:yQ {d with t:=b.clk,e:=e}=false:=by unfold yQ;rw[aS];rfl
  refine⟨?_,?_,?_⟩
  .have:=m yQ
   rw[hrd_of qd,Bo,hh] at this;show((Rf _ _ _).countP yQ:Int)=_;by_cases hx:d.h= -1
   .rw[if_pos hx]
    simp[hx] at this;omega
   .rw[if_neg hx]
    simp[hx] at this;omega
  .have:=m xM
   rw[(zgF Bo).1] at this;show((Rf _ _ _).countP xM:Int)=_;have e1:xM {d with t:=b.clk,e:=e}=decide (e=vK):=rfl;rw[e1] at this;by_cases hx:e=vK
   .rw[if_pos hx];rw[decide_eq_true hx] at this;simp only[if_true,gK,if_false] at this;omega
   .rw[if_neg hx];rw[decide_eq_false hx] at this;simp only[gK,if_false] at this;omega
  .have:=m zX
   rw[(zgF Bo).2] at this;show((Rf _ _ _).countP zX:Int)=_;have e1:zX {d with t:=b.clk,e:=e}=decide (e=tW):=rfl;rw[e1] at this;by_cases hx:e=tW
   .rw[if_pos hx];rw[decide_eq_true hx] at this;simp only[if_true,gK,if_false] at this;omega
   .rw[if_neg hx];rw[decide_eq_false hx] at this;simp only[gK,if_false] at this;omega
theorem yU.heard (h:yU b)(hd:b.recs[i]? =some d)(Bo:cS d=true)(h0:d.o=0)(hop:1<=op/\op<=b.o.op)(lE:0<=b.clk):
 yU {b with recs:=b.recs.modify i λd=>{d with o:=op,h:=b.clk},wait:=wait,back:=back,log:=log}/\Cnts b.recs (b.recs.modify i λd=>{d with o:=op,h:=b.clk}) 1 0 0:=by
 have qd:=h.rec_ d (dZ hd);have fG:cS {d with o:=op,h:=b.clk}=true:=Bo;refine⟨⟨λz hz=>?_,λp q x y zlL hp hq=>?_⟩,?_⟩
 .obtain⟨j,hj⟩:=At.1 hz
  obtain⟨u,h1,⟨e1,rfl⟩|⟨e1,rfl⟩⟩:=yI hj
  .subst e1
   rw[hd] at h1;injection h1 with h1;subst h1;refine⟨qd.l,by simp only;omega,qd.f,qd.c,by simp only;omega,λ_=>⟨qd.f.2,zbT _⟩,by simp only;omega,?_⟩;rcases qd.st with q|q
   .exact .inl q
   .rw[q.1] at Bo;cases Bo
  .exact h.rec_ z (dZ h1)
 .obtain⟨u,h1,e1⟩:=yI hp
  obtain⟨v,h2,e2⟩:=yI hq;have zdh:=h.pair p q u v zlL h1 h2;have wN:x.f=u.f/\x.l=u.l/\x.c=u.c/\x.t=u.t/\cS x=cS u:=by rcases e1 with⟨_,rfl⟩|⟨_,rfl⟩<;>exact⟨rfl,rfl,rfl,rfl,rfl⟩
  have Fb:y.f=v.f/\y.l=v.l/\y.c=v.c:=by rcases e2 with⟨_,rfl⟩|⟨_,rfl⟩<;>exact⟨rfl,rfl,rfl⟩
  rw[wN.1,wN.2.1,wN.2.2.1,wN.2.2.2.1,wN.2.2.2.2,Fb.1,Fb.2.1,Fb.2.2];exact zdh
 .have m:=λp=>zhE (p:=p) (f:=λd=>{d with o:=op,h:=b.clk}) hd
  have hh:d.h= -1:=qd.ho.2 h0;refine⟨?_,?_,?_⟩
  .have:=m yQ
   rw[hrd_of qd,Bo,hh] at this;have e:yQ {d with o:=op,h:=b.clk}=true:=by unfold yQ;rw[fG];simp[lE]
   rw[e] at this;simp at this;omega
  .have:=m xM
   have e:xM {d with o:=op,h:=b.clk}=xM d:=rfl;rw[e] at this;omega
  .have:=m zX
   have e:zX {d with o:=op,h:=b.clk}=zX d:=rfl;rw[e] at this;omega
structure qM (b:bY)(k:List UInt8)(bt:bY×List UInt8):Prop where
 inv:yU bt.1
 op:bt.1.o=b.o
 log:bt.1.log=b.log
 dn:(bt.1.recs.countP xM:Int)=b.recs.countP xM+(if Hf bt.2 then 1 else 0)
 cl:(bt.1.recs.countP yQ:Int)+bt.1.recs.countP xM=b.recs.countP yQ+b.recs.countP xM+(if G4 bt.2 then 1 else 0)
 bk:(bt.1.back.length:Int)-bt.1.recs.countP zX=b.back.length-b.recs.countP zX+Dw k bt.2
variable {k:List UInt8}
theorem qM.same {t:List UInt8}(h:yU b)(hd:Hf t=false)(hc:G4 t=false)(hn:Dw k t=0):qM b k (b,t):=
 ⟨h,rfl,rfl,by rw[hd];simp,by rw[hc];simp,by rw[hn];simp⟩
theorem zr1 (n:Int):G4 ([99,97,108,108,32]++fW n)=true:=by
 unfold G4;simp
theorem zvE (n:Int):Hf ([99,97,108,108,32]++fW n)=false:=by
 unfold Hf;rw[beq_eq_false_iff_ne];intro h;simp at h
theorem zFc (n:Int):G4 ([108,105,110,101,32]++fW n)=false:=by
 unfold G4;simp
theorem zEb (n:Int):Hf ([108,105,110,101,32]++fW n)=false:=by
 unfold Hf;rw[beq_eq_false_iff_ne];intro h;simp at h
theorem qM.rings (h:yU b)(hs:fK b)(hr:RInv b){c:bF}(uO:1<=c.c):qM b Bt (oY b c):=by
 have zBm:=Bb hr.off;unfold oY;split
 .exact qM.same h nA nA nA
 .rename_i hk
  simp only[Di,not_or,Bool.not_eq_true] at hk;have hc:gN b.recs c.c=none:=Option.isSome_eq_false_iff.1 hk.1|>Option.isNone_iff_eq_none.1;split
  .refine⟨⟨h.rec_,h.pair⟩,rfl,rfl,?_,?_,?_⟩
   .simp[show Hf [98,117,115,121]=false by decide+kernel]
   .simp[show G4 [98,117,115,121]=false by decide+kernel]
   .simp only[jP,yH,Al,show Dw Bt [98,117,115,121]=1 by decide+kernel]
    omega
  .rename_i l ls hf
   have zgy:=Xz (o:=b.o) (rs:=b.recs) (l:=l) Kb;obtain⟨q,n⟩:=h.more hs (c:=c.c) (l:=l) (o:=0) (hh:=-1) hc (zcj Kb) hr.clk uO zgy (.inl ⟨rfl,rfl⟩) (wait:=sE b.wait c) (back:=b.back) (log:=b.log) aC;refine⟨q,rfl,rfl,?_,?_,?_⟩
   .simp only[zEb];have:=n.dn;simp at this⊢;omega
   .simp only[zFc];have:=n.dn;have:=n.hr;simp at*;omega
   .have e:Dw Bt ([108,105,110,101,32]++fW l)=0:=by
     unfold Dw;rw[if_neg (by intro h;have:=h.2;simp at this),if_neg zgT,if_neg zdI]
    rw[e];have:=n.tr;simp only;omega
theorem qM.answers (h:yU b)(hs:fK b)(hr:RInv b)(hop:1<=op/\op<=b.o.op):qM b F7 (nH b op):=by
 unfold nH;split
 .exact qM.same h nA nA nA
 .split
  .exact qM.same h nA nA nA
  .rename_i c cs hw
   split
   .exact qM.same h nA nA nA
   .rename_i i hi
    obtain⟨d,h1,h2,h3⟩:=zH hi;obtain⟨j,z,z1,z2,z3,z4⟩:=hs.wt c (by rw[hw];simp);have:i=j:=hs.opn i j d z h1 z1 h3 z2 (.inl (by rw[h2,z3]));subst this;rw[z1] at h1;injection h1 with h1;subst h1;obtain⟨q,n⟩:=h.heard z1 z2 z4 hop hr.clk (wait:=dE b.wait c.c) (back:=b.back) (log:=b.log);refine⟨q,rfl,rfl,?_,?_,?_⟩
    .rw[zvE];have:=n.dn;simp at this⊢;omega
    .rw[zr1];have:=n.dn;have:=n.hr;simp at*;omega
    .have e:Dw F7 ([99,97,108,108,32]++fW c.c)=0:=by
      unfold Dw;rw[if_neg zdI,if_neg zgT,if_neg zdI]
     rw[e];have:=n.tr;simp only;omega
variable {xs:List bF}
theorem zrj {x:bF}(hn:(xs.map bF.c).Nodup)(hx:x∈xs):(dE xs x.c).length+1=xs.length:=by
 induction xs with
 |nil=>cases hx
 |cons y ys ih=>
  rw[jG,Cw] at hn;unfold dE;rw[List.filter_cons];rcases List.mem_cons.1 hx with rfl|hx
  .simp_all
  .have aS:y.c≠x.c:=λe=>hn.1 (e▸List.mem_map_of_mem hx)
   rw[if_pos (by simpa using aS)];have:=ih hn.2 hx;unfold dE at this;simp_all
theorem qM.returns (h:yU b)(hs:fK b)(hr:RInv b)(hop:1<=op/\op<=b.o.op):qM b C8 (l7 b op):=by
 unfold l7;split
 .exact qM.same h nA nA nA
 .split
  .exact qM.same h nA nA nA
  .rename_i c cs hw
   split
   .exact qM.same h nA nA nA
   .rename_i l ls hf
    have zgy:=Xz (o:=b.o) (rs:=b.recs) (l:=l) Kb;have Cz:c∈b.back:=by rw[hw];simp
    have h1:=zrj hs.bk Cz;obtain⟨q,n⟩:=h.more hs (c:=c.c) (l:=l) (o:=op) (hh:=b.clk) (hs.bo c Cz) (zcj Kb) hr.clk (hr.backB c Cz).1 zgy (.inr ⟨hop.1,hop.2,rfl⟩) (wait:=b.wait) (back:=dE b.back c.c) (log:=b.log) aC;rw[if_neg (by omega:¬op=0)] at n;refine⟨q,rfl,rfl,?_,?_,?_⟩
    .rw[zvE];have:=n.dn;simp at this⊢;omega
    .rw[zr1];have:=n.dn;have:=n.hr;simp at*;omega
    .have e:Dw C8 ([99,97,108,108,32]++fW c.c)= -1:=by
      unfold Dw;rw[if_neg zdI,if_neg zgT,if_pos ⟨rfl,by intro h;simp at h,by intro h;simp at h,by intro h;simp at h⟩]
     rw[e];have:=n.tr;simp only;omega
theorem zHg (h:(tV xs c).isSome=true):∃x∈xs,x.c=c:=by
 unfold tV at h;simp_all
theorem qM.hangs (h:yU b)(hs:fK b)(hr:RInv b)(c:Int):qM b Eg (mG b c):=by
 unfold mG;split
 .rename_i i hi
  obtain⟨d,h1,h2,h3⟩:=zH hi;have qd:=h.rec_ d (dZ h1);have eo:opAt b.recs i=d.o:=by unfold opAt;rw[h1]
  rw[eo];split
  .rename_i ho
   have hh:d.h≠-1:=λe=>by have:=qd.ho.1 e;omega
   obtain⟨q,n⟩:=h.ended hs h1 h3 Xy hr.clk (.inl ⟨rfl,hh,(qd.hf hh).2⟩) (wait:=dE b.wait (B7 b.recs i)) (back:=b.back) (log:=b.log);rw[if_neg hh,if_pos rfl,if_neg zs8] at n;refine⟨q,rfl,rfl,?_,?_,?_⟩
   .rw[show Hf [100,111,110,101]=true by decide+kernel];exact n.dn
   .rw[show G4 [100,111,110,101]=false by decide+kernel];have:=n.dn;have:=n.hr;show((vD b i vK).countP yQ:Int)+(vD b i vK).countP xM=_;simp;omega
   .rw[show Dw Eg [100,111,110,101]=0 by decide+kernel];have:=n.tr;show(b.back.length:Int)-(vD b i vK).countP zX=_;simp at this;omega
  .rename_i ho
   have hh:d.h= -1:=qd.ho.2 (by have:=qd.o.1;omega);obtain⟨q,n⟩:=h.ended hs h1 h3 zfx hr.clk (.inr (.inl ⟨rfl,hh⟩)) (wait:=dE b.wait (B7 b.recs i)) (back:=b.back) (log:=b.log);rw[if_pos hh,if_neg zGW,if_neg zzW] at n;refine⟨q,rfl,rfl,?_,?_,?_⟩
   .rw[show Hf [108,101,102,116]=false by decide+kernel];have:=n.dn;show((vD b i vL).countP xM:Int)=_;simp at this⊢;omega
   .rw[show G4 [108,101,102,116]=false by decide+kernel];have:=n.dn;have:=n.hr;show((vD b i vL).countP yQ:Int)+(vD b i vL).countP xM=_;simp at*;omega
   .rw[show Dw Eg [108,101,102,116]=0 by decide+kernel];have:=n.tr;show(b.back.length:Int)-(vD b i vL).countP zX=_;simp at this;omega
 .split
  .rename_i hf
   obtain⟨x,hx,rfl⟩:=zHg hf;have h1:=zrj hs.bk hx;refine⟨⟨h.rec_,h.pair⟩,rfl,rfl,?_,?_,?_⟩
   .rw[show Hf [111,102,102]=false by decide+kernel];simp
   .rw[show G4 [111,102,102]=false by decide+kernel];simp
   .rw[show Dw Eg [111,102,102]= -1 by decide+kernel];simp only;omega
  .exact qM.same h nA nA nA
structure TInv (b0 b:bY)(t:List UInt8)(xs:List bF):Prop where
 q:yU b
 s:fK b
 clk:0<=b.clk
 op:b.o=b0.o
 log:b.log=b0.log
 txt:∃s,t=97::116::s
 un:∀x∈xs,∀(i:Nat) (d:bO),b.recs[i]? =some d->cS d=true->d.c=x.c->d.o=0
 dn:b.recs.countP xM=b0.recs.countP xM
 hr:b.recs.countP yQ=b0.recs.countP yQ
 bk:(b.back.length:Int)-b.recs.countP zX=b0.back.length-b0.recs.countP zX
theorem TInv.run {b0:bY}:∀(xs:List bF) (b:bY) (t:List UInt8),TInv b0 b t xs->TInv b0 (xs.foldl lW (b,t)).1 (xs.foldl lW (b,t)).2 []:=by
 intro xs
 induction xs with
 |nil=>intro b t h;exact h
 |cons x xs ih=>
  intro b t h;rw[List.foldl_cons];rcases ho:gN b.recs x.c with _|i
  .have:lW (b,t) x=(b,t):=by unfold lW;simp only[ho]
   rw[this];exact ih b t ⟨h.q,h.s,h.clk,h.op,h.log,h.txt,λy hy=>h.un y Xg,h.dn,h.hr,h.bk⟩
  .obtain⟨d,h1,h2,h3⟩:=zH ho
   rw[Uf (bt:=(b,t)) ho h1];split
   .rename_i hp
    have qd:=h.q.rec_ d (dZ h1);have h0:=h.un x aQ i d h1 h3 h2;have hh:d.h= -1:=qd.ho.2 h0;obtain⟨q,n⟩:=h.q.ended h.s h1 h3 Zg h.clk (.inr (.inr ⟨rfl,hh,hp⟩)) (wait:=dE b.wait (B7 b.recs i)) (back:=b.back++[x]) (log:=b.log);rw[if_pos hh,if_neg (λe=>zs8 e.symm),if_pos rfl] at n;have s1:=h.s.tire (t:=t) (x:=x);rw[Uf (bt:=(b,t)) ho h1,if_pos hp] at s1;refine ih _ _ ⟨q,s1,h.clk,h.op,h.log,?_,?_,?_,?_,?_⟩
    .obtain⟨s,e⟩:=h.txt
     exact⟨_,by rw[e];rfl⟩
    .intro y hy j z hz Ny zfa
     obtain⟨u,u1,⟨_,rfl⟩|⟨_,rfl⟩⟩:=yI hz
     .have:cS {u with t:=b.clk,e:=tW}=false:=Zg
      rw[this] at Ny;cases Ny
     .exact h.un y Xg j z u1 Ny zfa
    .have:=n.dn;have:=h.dn;show(vD b i tW).countP xM=_;simp at*;omega
    .have:=n.hr;have:=h.hr;show(vD b i tW).countP yQ=_;simp at*;omega
    .have:=n.tr;have:=h.bk
     show((b.back++[x]).length:Int)-(vD b i tW).countP zX=_;rw[jP,List.length_singleton];omega
   .exact ih b t ⟨h.q,h.s,h.clk,h.op,h.log,h.txt,λy hy=>h.un y Xg,h.dn,h.hr,h.bk⟩
theorem qM.waits (h:yU b)(hs:fK b)(hr:RInv b){m:Int}(hm:1<=m)(hk:k≠C8):qM b k (tG b m):=by
 unfold tG;have hc:=hr.clk;have:=TInv.run (b0:=b) b.wait {b with clk:=b.clk+m} ([97,116,32]++fW (b.clk+m)) ⟨⟨λd hd=>(h.rec_ d hd).le (by show b.clk<=b.clk+m;omega),h.pair⟩,⟨hs.opn,hs.last,hs.wt,hs.bk,hs.bo⟩,by show 0<=b.clk+m;omega,rfl,rfl,⟨_,rfl⟩,?_,rfl,rfl,rfl⟩
 .obtain⟨s,e⟩:=this.txt
  refine⟨this.q,this.op,this.log,?_,?_,?_⟩
  .rw[this.dn,e]
   have:Hf (97::116::s)=false:=by unfold Hf;rw[beq_eq_false_iff_ne];intro h;simp at h
   rw[this];simp
  .rw[this.dn,this.hr,e]
   have:G4 (97::116::s)=false:=by unfold G4;simp
   rw[this];simp
  .rw[this.bk,e]
   have:Dw k (97::116::s)=0:=by
    unfold Dw;rw[if_neg (by intro h;have:=h.2;simp at this),if_neg zgT,if_neg (by intro h;exact hk h.1)]
   rw[this];simp
 .intro x hx i d hd ho hc
  obtain⟨j,z,z1,z2,z3,z4⟩:=hs.wt x hx;have:=hs.opn i j d z hd z1 ho z2 (.inl (by rw[hc,z3]));subst this;have hd:b.recs[i]? =some d:=hd;rw[z1] at hd;injection hd with hd;rw[<-hd];exact z4
variable {e:dX}
theorem qM.step (h:yU b)(hs:fK b)(hr:RInv b)(he:qX b.o.op e=true):qM b e.k.toList (eF b e):=by
 unfold eF;split
 .rename_i e1
  rw[e1];exact qM.rings h hs hr (zvF he e1).1
 .split
  .rename_i e1 e2
   rw[e2];exact qM.answers h hs hr (Xk he (.inl e2))
  .split
   .rename_i e1 e2 e3
    rw[e3];exact qM.returns h hs hr (Xk he (.inr e3))
   .split
    .rename_i e1 e2 e3 e4
     rw[e4];exact qM.hangs h hs hr _
    .rename_i e1 e2 e3 e4
     exact qM.waits h hs hr (zxd he e1 e2 e3 e4).1 e3
variable {o:gG}{es:List dX}
theorem ok_event (h:fJ o es=true){k:Nat}(he:es[k]? =some e):qX o.op e=true:=by
 unfold fJ at h
 grind
theorem to_qi (h:fJ o es=true):∀k,k<=es.length->yU (l5 o es k)
 |0,_=>⟨λd hd=>by simp[l5,lY] at hd,λi j d e _ h=>by simp[l5,lY] at h⟩
 |k+1,hk=>by
  have i:=to_qi h k aC;obtain⟨e,he⟩:∃e,es[k]? =some e:=⟨es[k],List.getElem?_eq_getElem aC⟩;obtain⟨r1,_,r3⟩:=K3 h k aC;have s:=qM.step i (zeG h k aC) r1 (e:=e) (by rw[r3];exact ok_event h he);rw[Ut he];exact⟨s.inv.rec_,s.inv.pair⟩
structure OnlPl (o:gG)(clk:Int)(rs:List bO):Prop where
 rec_:∀d∈rs,Zw clk o.pt o.ln o.op d
 pair:∀(i j:Nat) (d e:bO),i<j->rs[i]? =some d->rs[j]? =some e->d.f<=e.f/\((d.l=e.l\/d.c=e.c)->cS d=false/\d.t<=e.f)
 opn:∀(i j:Nat) (d e:bO),i<j->rs[i]? =some d->rs[j]? =some e->cS d=true->cS e=true->d.o=e.o->¬0<e.o
theorem onl_pl (h:fJ o es=true):OnlPl o (clkF o es) (wS o es).recs:=by
 unfold clkF wS;rw[if_pos h,if_pos h,<-zdj];have q:=to_qi h es.length (bN _);have s:=zeG h es.length (bN _);obtain⟨r1,r2,r3⟩:=K3 h es.length (bN _);have p:=q.rec_;rw[r3] at p;exact⟨p,q.pair,λi j d e pZ hd he Bo zHX h1 h2=>by have:=s.opn i j d e hd he Bo zHX (.inr (.inr ⟨h1,aC⟩));omega⟩
end Go.Proofs.YtfcjiloojkjaeaaGreatDoor
namespace Go.Proofs.YtfcjiloojkjaeaaGreatDoor
open Go.RowKit Go.Mt Go.Conc Go.Tt
def zbW:Go.Code:=(Tryz.f6.body).getD .skip
def rLOL4:Go.Code:=sA (sB (sB (sB (zbW))))
def rLOL8:Go.Code:=sA (sB (sB (sB (sB (sB (sB (zbW)))))))
def zfd:Array Oper:=match rLOL4 with| .region _ ops _=>ops|_=>#[]
abbrev zuD:Oper:=aV zfd 2 (some 25) (.call ⟨.value (.func 28),#[.tmp 23,.tmp 24],#[29,31]⟩)
def zwl:zfd[2]? =some zuD:=rfl
def zfA:Array Oper:=match rLOL8 with| .region _ ops _=>ops|_=>#[]
abbrev zwh:Oper:=aV zfA 2 (some 60) (.call ⟨.value (.func 30),#[.tmp 58,.tmp 59],#[29,31]⟩)
def ztL:zfA[2]? =some zwh:=rfl
def held50:aK.stoodInHeld 50=false:=aT
def eqg50:aK.eqGuardType aK.depth 50=false:=aT
theorem eq_int50 (d:Nat)(a b:Int)(w:aE):(tD (d+1) 3 (.int .i64 a) (.int .i64 b)).run aK w=.ok (a==b) w:=by
 unfold tD;simp[go_sem]
theorem eq_str50 (d:Nat)(a b:ByteArray)(w:aE):(tD (d+1) 9 (.string a) (.string b)).run aK w=.ok (a==b) w:=by
 unfold tD;simp[go_sem]
theorem eq_rec (c l o f h t:Int)(e:ByteArray)(w:aE):(Op.equal 50 (.agg #[.int .i64 c,.int .i64 l,.int .i64 o,.int .i64 f,.int .i64 h,.int .i64 t,.string e]) (.agg #[.int .i64 c,.int .i64 l,.int .i64 o,.int .i64 f,.int .i64 h,.int .i64 t,.string e])).run aK w=.ok true w:=by
 show(tD (9998+1+1) 50 _ _).run aK w=_;rw[tD];have hb:(e==e)=true:=by cases e with|mk a=>exact beq_self_eq_true a
 simp[go_sem,Tryz.underlying50,held50,eq_int50,eq_str50,run_underlying,hb]
theorem zG5 (o:gG)(es:List dX)(h:fJ o es=true):(Dc o es).length<=60:=by
 unfold Dc wS;rw[if_pos h,<-zdj];have:=(K3 h es.length (bN _)).2.1.nrec;have:es.length<=60:=by unfold fJ at h;simp at h;exact h.1.2
 omega
theorem zwE (o:gG)(es:List dX):(Dc o es).length<=60:=by
 by_cases h:fJ o es=true
 .exact zG5 o es h
 .unfold Dc wS;rw[if_neg h];exact mP _
section
variable {St:Nat->Prop}{W0:aE}{Post:aF->aE->Prop}
theorem zFG {w:aE}{A:Option bD}{n cap:Nat}(hC:Code w A n cap)(hT:qV w)(tF:zN w)(hP:∀(R:Pr) (W:aE),Kp W0 R St W->Post (.bool true) W):
 JS St W0 Post ⟨6,#[.slice A n cap,aA,aA,aA,aA,aA,aA,aA,aA,aA,aA,aA,aA,aA,aA,aA,aA,aA,aA,aA,aA,aA,aA,aA,aA,aA,aA,aA,aA,aA,aA,aA,aA,aA,aA,aA,aA,aA,aA,aA,aA,aA,aA,aA,aA,aA,aA,aA,aA,aA,aA,aA,aA,aA,aA,aA,aA,aA,aA,aA,aA,aA,aA,aA,aA,aA,aA,aA,aA,aA,aA,aA,aA,aA,aA,aA,aA,aA,aA,aA,aA,aA,aA,aA,aA,aA,aA,aA,aA,aA,aA,aA,aA,aA,aA,aA,aA,aA,aA,aA,aA,aA,aA,aA,aA,aA,aA,aA,aA,aA,aA,aA,aA,aA,aA,aA,aA,aA,aA,aA,aA,aA,aA,aA,aA,aA,aA,aA,aA,aA,aA,aA,aA,aA,aA,aA,aA,aA,aA,aA,aA,aA,aA,aA,aA,aA,aA,aA,aA,aA,aA,aA,aA,aA,aA,aA,aA,aA,aA,aA,aA,aA,aA,aA,aA,aA,aA,aA,aA,aA,aA,aA,aA,aA,aA,aA,aA,aA,aA,aA,aA,aA,aA,aA,aA,aA,aA],[.code zbW],false⟩ [] w:=by
 have L:=lvF;have cE:n7 olL 6=false:=aT;have Lj:∀(tmps:Array aF) (td:List dS) (w':aE),tmps.getD 2 aA=.bool true->JS St W0 Post ⟨6,tmps,td,true⟩ [] w':=by
  intro tmps td w' h6;refine JO.fin L (t:=2) rfl Tryz.func6 rfl aT λK R W v' hv hk=>?_;have Oc:VR (SF fT) K R (tmps.getD 2 aA) v':=hv;rw[h6] at Oc;cases Oc;exact hP R W hk
 refine JO.sq L cE ?_;refine JO.pQ L cE (λTp Q HQ=>?_);replace hC:Code (Tt.tp w Tp 0) A n cap:=⟨hC.le,hC.cap,hC.at_⟩;replace hT:qV (Tt.tp w Tp 0):=Ps rfl hT;replace tF:zN (Tt.tp w Tp 0):=tF;generalize Tt.tp w Tp 0=w1 at hC hT tF⊢;go_wp2;refine HQ.o _ _ ?_;clear HQ;refine JO.sq L cE ?_;refine JO.sq L cE ?_;refine JO.pQ L cE (λTp Q HQ=>?_);replace hC:Code (Tt.tp w1 Tp 0) A n cap:=⟨hC.le,hC.cap,hC.at_⟩;replace hT:qV (Tt.tp w1 Tp 0):=Ps rfl hT;replace tF:zN (Tt.tp w1 Tp 0):=tF;generalize Tt.tp w1 Tp 0=w2 at hC hT tF⊢;have lE:=hC.le;have qB:=hC.cap;unfold maxLen at qB;go_wp2;refine HQ.o _ _ ?_;clear HQ;by_cases zjS:(1048576:Int)<(n:Int)
 .refine JO.cd L true cE ?_ (by show Ng (decide _)=_;rw[decide_eq_true zjS])
  refine JO.sq L cE ?_;refine JO.pQ L cE (λTp Q HQ=>?_);go_wp2;refine HQ.o _ _ ?_;refine JO.rt L cE ?_;exact Lj _ _ _ rfl
 refine JO.cd L false cE ?_ (by show Ng (decide _)=_;rw[decide_eq_false zjS]);refine JO.sk L cE ?_;refine JO.sq L cE ?_;refine JO.pQ L cE (λTp Q HQ=>?_);replace hC:Code (Tt.tp w2 Tp 0) A n cap:=⟨hC.le,hC.cap,hC.at_⟩;replace hT:qV (Tt.tp w2 Tp 0):=Ps rfl hT;replace tF:zN (Tt.tp w2 Tp 0):=tF;generalize Tt.tp w2 Tp 0=w3 at hC hT tF⊢
 go_wp2_with (go_at_call 27;refine(zCd A n cap w3 hC).mono ?_;rintro e w4 ⟨o,A2,n2,c2,es,rfl,ow,zAG,b4⟩)
 refine HQ.o _ _ ?_;clear HQ;obtain⟨gO,zlI⟩:=aP w4.heap.size;have B4:Bl w3.heap.size w3 (w4.alloc (offO o)):=(⟨b4.size,b4.block⟩:Bl w3.heap.size w3 w4).al (bN _) _;have HR:Ks ⟨o,es,gO,A2,n2,c2⟩ (w4.alloc (offO o)):=⟨by rw[zlI];exact De w4 _,(ow.slc.alloc _).wide (mP _) aQ,hT.bls B4 (bN _),tF.bls B4 (bN _),zAG⟩;rw[<-zlI];generalize w4.alloc (offO o)=w5 at HR⊢;have Ze:n2<=1048576:=aC;clear hC hT tF lE qB zjS zlI B4 b4 ow;refine JO.sq L cE ?_;generalize lP:([Mw _]:List dS)=K0;refine JO.rn L cE zfd [0,1,2,3,4,5,6,7] ?_;refine JO.ld L cE HR.k zvb ?_;refine JO.mv L cE (.slice A2 n2 c2) ?_;refine zCL (ops:=zfd) (i:=2) (oo:=zuD) (A:=A2) (o:=o) (es:=es) rfl cE rfl zwl rfl rfl zfU HR.e Ze HR.t HR.u (λw6 V zuY zqU=>?_);obtain⟨A5,n5,c5,rfl,zAi,O5⟩:=row_v zqU aH (by have:=zwE o es;omega);have h5:cM w6 0 w6.heap.size 7 A5 n5 c5 (recs (Dc o es)):=O5.slc.wide (mP _) (bN _);replace HR:=HR.bl zuY;clear zuY zqU O5;simp only[Fm.fin,zwl,xS,gC,dV,dU];refine JO.mv L cE (.tuple #[.slice A5 n5 c5,.bool (fJ o es)]) ?_;refine JO.mv L cE (.slice A5 n5 c5) ?_;refine JO.mv L cE (.bool (fJ o es)) ?_;refine JO.mv L cE (.slice A5 n5 c5) ?_;refine JO.mv L cE (.bool (fJ o es)) ?_;refine JO.regEnd L cE ?_;subst lP;obtain⟨t,ht⟩:=aP (fJ o es);rw[<-ht];have HT:=aD ht;have zDi:=zwE o es;refine JO.sq L cE ?_;refine JO.pQ L cE (λTp Q HQ=>?_);replace HR:=HR.tp Tp 0;replace h5:=h5.tpZ Tp 0;generalize Tt.tp w6 Tp 0=w7 at HR h5⊢;have q0:=aI HR.k 0;have q1:=aI HR.k 1;have q2:=aI HR.k 2;have HX:=aD (And.intro HR h5);clear HR h5
 go_wp2_with (go_at_call 29;refine(zA5 o _ _ _ _ _ _ _ HX.o.1.e Ze (bN _)).mono ?_;rintro e w8 ⟨g7,c7,rfl,O7,b8⟩)
 refine HQ.o _ _ ?_;clear HQ q0 q1 q2;obtain⟨A7,m7,zIQ,eV,zI2,zxJ⟩:=row_v O7 aH (show(wS o es).recs.length<=1048576 by have:(Dc o es).length=(wS o es).recs.length:=rfl;omega);injection eV with zHm zxO zCX;subst zHm zCX;have HR:=HX.o.1.below b8;have h5:=HX.o.2.belowZ b8;have h7:cM w8 0 w8.heap.size 7 (some ⟨g7,0,none⟩) m7 c7 (recs (Dc o es)):=zxJ.slc.wide (mP _) (bN _);rw[zxO,<-ht];clear O7 zxJ b8 HX ht;have zfu:=h5.recLen;have zyQ:=h7.recLen;obtain rfl:n5=m7:=aC;refine JO.sq L cE ?_;refine JO.sq L cE ?_;refine JO.pQ L cE (λTp Q HQ=>?_);replace HR:=HR.tp Tp 0;replace h5:=h5.tpZ Tp 0;replace h7:=h7.tpZ Tp 0;generalize Tt.tp w8 Tp 0=w9 at HR h5 h7⊢;have HX:=aD (And.intro HR (And.intro h5 h7));have zII:n5<=60:=aC;clear HR h5 h7 zyQ zxO
 cases t with
 |false=>
  go_wp2;refine HQ.o _ _ ?_;clear HQ;refine JO.cd L true cE ?_;refine JO.sq L cE ?_;refine JO.pQ L cE (λTp Q HQ=>?_);go_wp2;refine HQ.o _ _ ?_;refine JO.rt L cE ?_;exact Lj _ _ _ rfl
 |true=>
  go_wp2;refine HQ.o _ _ ?_;clear HQ;obtain⟨HR,h5,h7⟩:=HX.o;clear HX;refine JO.cd L false cE ?_;refine JO.sk L cE ?_;have bU:=HT.o.symm;refine JO.sq L cE ?_;generalize lP:([Mw _]:List dS)=K0;refine JO.rn L cE zfA [0,1,2,3] ?_;refine JO.ld L cE HR.k zvb ?_;refine JO.mv L cE (.slice A2 n2 c2) ?_;refine jo_clock (ops:=zfA) (i:=2) (oo:=zwh) (A:=A2) (o:=o) (es:=es) rfl cE rfl ztL rfl rfl zfU HR.e Ze HR.t HR.u (λwE V zfv hV=>?_);subst hV;replace HR:=HR.bl zfv;replace h5:=h5.bl zfv;replace h7:=h7.bl zfv;clear zfv;obtain⟨C,hC⟩:=aP (zbA o es);rw[<-hC];have AP:=aD (show OnlPl o C (Dc o es) by rw[hC];exact onl_pl bU);simp only[Fm.fin,ztL,xS,gC,dV,dU];refine JO.mv L cE (.int .i64 C) ?_;refine JO.regEnd L cE ?_;subst lP;have HL:=aD zfu;generalize Dc o es=rs at*;clear hC zfu zDi bU;refine JO.sq L cE ?_;refine JO.pQ L cE (λTp Q HQ=>?_);replace HR:=HR.tp Tp 0;replace h5:=h5.tpZ Tp 0;replace h7:=h7.tpZ Tp 0;generalize Tt.tp wE Tp 0=wI at HR h5 h7⊢;have HX:=aD (And.intro HR (And.intro h5 h7));clear HR h5 h7
  go_wp2_with fail
  go_loopw [10] (λi wr=>∃a:Nat,a<=n5/\i=.int .i64 a/\cD wI.heap.size wI wr) (λi _=>n5-(intOf i).toNat)
  case atStart=>exact⟨0,mP _,rfl,fN _ _⟩
  case round=>
   obtain⟨a,ha,rfl,B⟩:=hrel;have HB:=aD B;clear B;by_cases aU:a<n5
   .obtain⟨b,off,d,eA,_,_,z,fI,e0,e1,e2,e3,e4,e5,e6⟩:=(HX.o.2.1.belowZ HB.o).rec7 aU
    subst eA;have hq:=AP.o.rec_ d (dZ fI);have Sy:=aD fI;have i0:(0:Int)<=(a:Int):=aC;have i1:(a:Int)<(n5:Int):=aC;have zC5:=aD hq;clear fI hq
    go_wp2_with fail
    obtain⟨g,hg⟩:=aP wr.heap.size;obtain⟨W1,cO⟩:=aP (wr.alloc (.cells #[.int .i64 d.c,.int .i64 d.l,.int .i64 d.o,.int .i64 d.f,.int .i64 d.h,.int .i64 d.t,.string d.e] 50));have kb:W1.heap[g]? =some (.cells #[.int .i64 d.c,.int .i64 d.l,.int .i64 d.o,.int .i64 d.f,.int .i64 d.h,.int .i64 d.t,.string d.e] 50):=by rw[cO,hg];exact De _ _
    have B1:cD wI.heap.size wI W1:=by rw[cO];exact eD HB.o _
    rw[<-hg,<-cO];clear hg cO e0 e1 e2 e3 e4 e5 e6 z;have gJ:=aD B1;have zci:=aD kb;obtain⟨b',zLg,d',znt,_,_,z',Ey,f0,f1,f2,f3,f4,f5,f6⟩:=(HX.o.2.2.belowZ B1).rec7 aU;obtain rfl:d'=d:=by have:=Sy.o;rw[this] at Ey;injection Ey with h;exact h.symm
    injection znt with znt;injection znt with zl4 zms;subst zl4 zms;rw[rH] at f0 f1 f2 f3 f4 f5 f6;have q0:=aI (HX.o.1.below B1).k 0;have k0:=aI kb 0;have k1:=aI kb 1;have k2:=aI kb 2;have k3:=aI kb 3;have k4:=aI kb 4;have k5:=aI kb 5;have k6:=aI kb 6;have hq:=zC5.o;have m1:¬d'.l<1:=by have:=hq.l.1;omega
    have m2:¬o.ln<d'.l:=by have:=hq.l.2;omega
    have m3:¬C<d'.f:=by have:=hq.f.2;omega
    obtain⟨t,ht⟩:=aP ((d'.e.toList==[111,112,101,110]));obtain⟨u,hu⟩:=aP ((d'.o==0));have s1:=ht.symm;have s2:(d'.t== -1)=t:=by
     rw[ht];rcases hq.st with⟨x,y⟩|⟨x,y,_⟩
     .rw[y];exact x.symm
     .have:=hq.f.1
      rw[beq_eq_false_iff_ne.2 aC];exact x.symm
    have s3:(d'.h== -1)=u:=by
     rw[hu,Mx,beq_iff_eq,beq_iff_eq];exact hq.ho
    have s4:=hu.symm;have HE:=eq_rec d'.c d'.l d'.o d'.f d'.h d'.t d'.e;have HG:=eqg50;clear ht hu Ey hq B1 kb;have HS:=aD s1
    go_quiet (fail)
    clear f0 f1 f2 f3 f4 f5 f6 q0 k0 k1 k2 k3 k4 k5 k6 s1 s2 s3 s4 m1 m2 m3 HE HG z'
    go_wp2_with fail
    go_loopw [12] (λi w'=>∃c:Nat,c<=a/\i=.int .i64 c/\cD W1.heap.size W1 w') (λi _=>a-(intOf i).toNat)
    case atStart=>exact⟨0,mP _,rfl,Go.below_drewN (fN _ _) _⟩
    case round=>
     obtain⟨c,hc,rfl,BI⟩:=hrel;have Tl:=aD BI;have kb:=(mH BI zci.o).1;have zr:=iB kb;have k0:=aI kb 0;have k1:=aI kb 1;have k2:=aI kb 2;have k3:=aI kb 3;have k4:=aI kb 4;have k5:=aI kb 5;have k6:=aI kb 6;clear BI kb;by_cases zsq:c<a
     .obtain⟨b2,zJ7,e,eA,_,_,z,zbC,e0,e1,e2,e3,e4,e5,e6⟩:=(HX.o.2.1.belowZ (gJ.o.trans (Tl.o.mono gJ.o.size))).rec7 (show c<n5 by omega)
      injection eA with eA;injection eA with zl4 zms;subst zl4 zms;have hp:=AP.o.pair c a e d' zsq zbC Sy.o;have ho:=AP.o.opn c a e d' zsq zbC Sy.o;have Rh:=AP.o.rec_ e (dZ zbC);have s1:=HS.o;have i0:(0:Int)<=(c:Int):=aC;have i1:(c:Int)<(n5:Int):=aC;have i2:(c:Int)<(a:Int):=aC;have m9:¬d'.f<e.f:=aC;clear zbC;cases Ja:(e.l==d'.l)<;>cases vS:(e.c==d'.c)
      .cases zCb:(e.o==d'.o)
       .clear hp ho Rh s1
        go_wp2;go_roundw
        case rel=>exact⟨c+1,aC,oH,eD Tl.o _⟩
        case measure=>simp[intOf];omega
       .by_cases Aj:0<d'.o
        .cases zFx:(e.e.toList==[111,112,101,110])
         .clear hp ho Rh s1
          go_wp2;go_roundw
          case rel=>exact⟨c+1,aC,oH,eD Tl.o _⟩
          case measure=>simp[intOf];omega
         .have s6:(d'.e.toList==[111,112,101,110])=false:=by
           cases h:(d'.e.toList==[111,112,101,110])
           .rfl
           .exact absurd Aj (ho zFx h (eq_of_beq zCb))
          clear hp ho Rh s1;go_wp2;go_roundw
          case rel=>exact⟨c+1,aC,oH,eD Tl.o _⟩
          case measure=>simp[intOf];omega
        .clear hp ho Rh s1
         go_wp2;go_roundw
         case rel=>exact⟨c+1,aC,oH,eD Tl.o _⟩
         case measure=>simp[intOf];omega
      all_goals
       have zv3:e.l=d'.l\/e.c=d'.c:=by first|exact .inl (eq_of_beq Ja)|exact .inr (eq_of_beq vS)
       obtain⟨x6,m8⟩:=hp.2 zv3;have x7:(e.t== -1)=false:=by
        rw[beq_eq_false_iff_ne];have:=Rh.f.1;rcases Rh.st with⟨x,_⟩|⟨_,x,_⟩
        .rw[x6] at x;cases x
        .omega
       have m7:¬d'.f<e.t:=aC;clear zv3 x6 m8 hp ho Rh s1;go_wp2;go_roundw
       case rel=>exact⟨c+1,aC,oH,eD Tl.o _⟩
       case measure=>simp[intOf];omega
     .have e:c=a:=aC
      subst e;go_wp2;go_roundw
      case rel=>exact⟨c+1,aC,oH,gJ.o.trans (Tl.o.mono gJ.o.size)⟩
      case measure=>simp[intOf];omega
   .have e:a=n5:=aC
    subst e;go_wp2;refine HQ.o _ _ ?_;clear HQ;refine JO.sq L cE ?_;refine JO.pQ L cE (λTp Q HQ=>?_);go_wp2;refine HQ.o _ _ ?_;refine JO.rt L cE ?_;exact Lj _ _ _ rfl
end
theorem zHs {S:aN->Prop}{X:Nat->Bool}{W:aE}{A:Option bD}{n c:Nat}(hX:∀b,X b=true->∃c T fz,W.heap[b]? =some (.cells c T fz))(h:∀a,A=some a->X a.block=true)(hc:Code W A n c):Code (Ec S X W) A n c:=
 ⟨hc.le,hc.cap,λhn=>by
  obtain⟨b,off,rfl,e3,e4⟩:=hc.at_ hn;exact⟨b,off,rfl,by rw[zkq];exact e3,λj hj=>by obtain⟨v,h1,h2,h3⟩:=e4 j hj;exact⟨v,zAa hX (h _ rfl) h1 (.inl ⟨_,_,rfl⟩),h2,h3⟩⟩⟩
end Go.Proofs.YtfcjiloojkjaeaaGreatDoor
namespace Go.Proofs.YtfcjiloojkjaeaaGreatDoor
theorem zEj (Lk:Looks){p:Pinned}{s:OpenSpec}{c:OpenClaim}(kinds:List LaidKind)(znd:Bool)(Uj:Bool×String)(lk:Bool)
 (hc:c.holds p s) (hw:c.wfByText s=true) (zzR:c.laidByTextAt Lk p kinds znd)
 (aX:c.start=.entering) (nX:c.noBlocks=false/\c.again=false) (hm:p.checked.prog.mainIs=some (Uj.1,Uj.2.toList)) (hn:(!Uj.1&&Uj.2.isEmpty&& !lk)=false)
 (hl:∀f fn,p.checked.prog.funcNamed c.func=some f->p.checked.prog.funcs[f]? =some fn->lk=p.checked.prog.looks []/\∀(j:Nat) t,fn.params[j]? =some t->p.checked.prog.wantsStandIn t=false)
 (hg:true=c.goesBy p.checked.prog):
 Claim7.holds p (.plain s) {stood:={row:=c,standIns:=[],harness:=Uj,looks:=lk},kinds:=[],alts:=[],goes:=true,laidByText:=true,laidKinds:=kinds,laidTests:=znd,laidLooks:=Lk}:=by
 have h6:∀r:OpenClaim,zso {stood:={row:=r,standIns:=[],harness:=Uj,looks:=lk},kinds:=[]}=false:=λr=>by simpa[zso] using hn
 have h:=Claim7.tied_new_at Lk kinds znd (Claim7.new_of_sixth hc Uj lk aX nX hm (h6 c) hl) hw;exact⟨h,(λD hD=>by cases hD),zzR,(λh=>by cases h),hg⟩
end Go.Proofs.YtfcjiloojkjaeaaGreatDoor
