/-
  Part 6 of what stands behind the last text.
-/
import Derived.Lib.AppendIntMem
import Derived.LaidMore
import Derived.Test.YtfcjiloojkjaeaaGreatDoorCards
import Derived.Deep.CutBlock
import Derived.SevenTiedAt
import Derived.Test.YtfcjiloojkjaeaaGreatDoorRunFPq5
set_option linter.all false
set_option maxHeartbeats 16000000
set_option maxRecDepth 100000
open Array renaming ext'→Jb,getD_eq_getD_getElem?→sZ,getElem?_eq_getElem→pK,getElem?_eq_some_iff→dR,getElem?_map→Gq,getElem?_toList→C3,mem_of_getElem?→zdI,replicate→nK,toList_append→P3,toList_replicate→zbv
open Bool renaming and_eq_true→iT,eq_iff_iff→Ng,or_eq_true→C4
open Go renaming Addr→bC,Calls→fJ,Code→wS,Ending→Hc,Frame→dL,FuncId→aO,Goroutine→bF,Item→dI,Oper→aX,Operand→cJ,Program→bT,Tape→kS,TypeId→aN,Value→aF,World→aE,bodyPost_ret→nN,execOp→aS,heap_alloc_new→gV,undef→aA,yielded→cS
open Go.Act renaming eval→wJ,mk→bE,put→b7
open Go.Call renaming operands→zpr
open Go.Claim7 renaming isSixth→zsO
open Go.Conc renaming base→Lu
open Go.Ending renaming returned→Zw
open Go.Fn renaming func→zt1
open Go.Item renaming code→Ot
open Go.Lib renaming TabIs→zgg,tabBelow_of_tabIs→zhK
open Go.MakeChecks renaming laidMetH_plain→zoD
open Go.Op renaming operands→zwT
open Go.Operand renaming tmp→zjI
open Go.Proofs.Tryz renaming checked→uB,f14→zhq,f30→zgO,f42→zey,f54→znt,f56→ziW,f57→zt4,func14→zu8,func30→zqZ,func42→zf1,func54→zxl,func56→zxc,prog→aK,results47→zi2,results60→zgd,underlying26→zaN,underlying29→zaP,underlying31→zfO
open Go.Region renaming wanted→cO
open Go.RowKit renaming Below→bY
open Go.RowKit.Below renaming heap_setCell→dU,refl→fK
open Go.Value renaming bool→N1,int→Lx,string→zwo
open Go.World renaming cell?→lU,var?→zgm
open Go.World.grownBy renaming refl→zgh
open Int renaming add_zero→zaT,le_refl→Z4
open List renaming flatMap_cons→Pl,getD_eq_getElem?_getD→S8,getElem?_append_left→N9,getElem?_eq_getElem→nI,getElem?_eq_none→O0,getElem?_eq_some_iff→l8,getElem?_take→Oe,length→zqd,length_append→jZ,length_cons→wL,length_nil→zF,length_take→qO,map_cons→jD,map_nil→sC,map_toArray→tJ,mem_of_getElem?→fI,mem_singleton→yX,nodup_nil→Sf,not_mem_nil→nM,range→fV,setIfInBounds_toArray→gF,set_cons_succ→dX,set_cons_zero→dY,size_toArray→Ev,take_add_one→Lr,take_of_length_le→zV
open Nat renaming le_refl→bL,le_succ→zfU,le_trans→eG,lt_of_le_of_lt→zbL,lt_of_lt_of_le→j5,lt_or_ge→rM,lt_succ_self→yB,lt_trans→zoa,zero_add→rL,zero_le→mK
open Option renaming bind_some→uF,getD_some→vB,isSome_iff_exists→Xe,map_eq_some_iff→Aa,map_some→Bz
open Option.some renaming inj→cH,injEq→jS
open Prod.mk renaming injEq→oM
open SizeOf renaming sizeOf→Nc
noncomputable section
namespace Go
theorem V3{P:Prop}(h:P:=by(repeat' (first|with_reducible assumption|with_reducible exact zG1 (by assumption)|with_reducible exact fK _ _|with_reducible apply eT|with_reducible apply zbm|with_reducible apply RowKit.below_drewN))):P:=h
theorem zxI{P:Prop}(h:P:=by rw[<-zcS] at*;exact vH.o.oldB eF HK.o):P:=h
theorem zkv{P:Prop}(h:P:=by rw[hp,hg,hf];kernel_rfl):P:=h
theorem zeO{P:Prop}(h:P:=by simp[Fm.eval]):P:=h
theorem zfe{P:Prop}(h:P:=by rw[hlen];rfl):P:=h
end Go
namespace Go.Proofs.YtfcjiloojkjaeaaGreatDoor
open Go.RowKit Go.Mt Go.Conc Go.Tt Go.Maps Go.Conc.Lib Go.ConcR.Gen
open Go.ConcR (KK wgBlock WgAt stA smA rd wr)
def Wt:Go.Code:=(znt.body).getD .skip
def rH10:Go.Code:=match Wt with| .seq (a) _=>a|_=>.skip
def rH11:Go.Code:=match Wt with| .seq _ (a)=>a|_=>.skip
def zDa:Wt=.seq (rH10) (rH11):=rfl
def zel:Array Oper:=match rH10 with| .region _ ops _=>ops|_=>#[]
def rH10_eq:rH10=.region 0 zel false:=rfl
def zDn:fV zel.size=[0]:=rfl
abbrev zye:Oper:=aM zel 0 none (.defer ⟨.value (.func 55),#[.tmp 0],#[94]⟩)
def zzA:zel[0]? =some zye:=rfl
def Zg:Array Oper:=match rH11 with| .region _ ops _=>ops|_=>#[]
def rH11_eq:rH11=.region 1 Zg false:=rfl
def zC0:fV Zg.size=[0,1]:=rfl
abbrev oH11_0:Oper:=aM Zg 0 (some 2) (.load 95 (.tmp 1))
def zER:Zg[0]? =some oH11_0:=rfl
abbrev oH11_1:Oper:=aM Zg 1 (some 3) (.call ⟨.value (.func 56),#[.tmp 2],#[122]⟩)
def zzb:Zg[1]? =some oH11_1:=rfl
variable {pin:List (Nat×aF)}
theorem zrw {Wg N:Nat}{W:List fC}{D:aE->Prop}{Fin:bF->aE->Prop}{St:Nat->Prop}{Q:Pr->Prop}{K:Pr}{base:List dL}{ds:Dk}(m':Fm)(oO:Pr):
 (fS Wg N W D Fin St K Q base ds pin).sub m' oO=fS Wg N W D Fin St K (λR=>Q R/\oO.le R) (fx [] ds m'::base) .nil []:=by
 have e:(λR τ w=>(zJ sK.tWg Wg (IOp Wg) R τ w/\Q R)/\oO.le R)=(λR τ w=>zJ sK.tWg Wg (IOp Wg) R τ w/\Q R/\oO.le R):=by
  funext R τ W;exact propext and_assoc
 unfold Cx.sub fS;simp only;rw[e]
section
variable {Wg N:Nat}{W:List fC}{D:aE->Prop}{Fin:bF->aE->Prop}{St:Nat->Prop}{gc gv c:Nat}
variable {K:Pr}
theorem op_body {Q:Pr->Prop}{base:List dL}(hK:K gc c)(hQ:Up Q)(m:Nat)(w:aE)(Qz:∀K' T todo w,K.le K'->BO (fS Wg N W D Fin St K' Q base .nil []) .oD ⟨56,T,todo,true⟩ w):
 BO (fS Wg N W D Fin St K Q base .nil []) (.op c 0 m) ⟨56,#[.chan (some gc),aA,aA,aA,aA,aA,aA,aA,aA,aA,aA,aA,aA,aA,aA,aA],[.code K3],false⟩ w:=by
 have F:vZ (fS Wg N W D Fin St K Q base .nil []).P (fS Wg N W D Fin St K Q base .nil []).fs:=nO;have hI:fE (fS Wg N W D Fin St K Q base .nil []):=zeJ hQ rfl;rw[zy6];refine BO.seq hI ?_;refine BO.pV F hI Yv (λw1 T1 eD Q' HQ=>?_);clear eD;go_wp2;refine HQ.o _ _ ?_;clear HQ;refine BO.seq hI ?_;refine BO.pV F hI Yv (λw2 T2 eZ Q' HQ=>?_);clear eZ;go_wp2;refine HQ.o _ _ ?_;clear HQ;refine BO.block hI ?_;refine BO.loop hI ?_;exact op_loop hK hQ Qz m K w2 0 _ _ _ _ _ _ _ _ _ _ _ _ _ (xH K)
theorem zFu (hK:K gc c)(m:Nat){w:aE}(hv:w.cell? ⟨gv,0,none⟩=some (.chan (some gc))):
 BO (fS Wg N W D Fin St K (λ_=>True) [wQ aK] ⟨[],.deferred,aQ⟩ [(0,.pointer (some ⟨Wg,0,none⟩))]) (.op c 0 m) ⟨54,#[.nilFunc,.pointer (some ⟨gv,0,none⟩),aA,aA],[.code Wt],false⟩ w:=by
 let C:=fS Wg N W D Fin St K (λ_=>True) [wQ aK] ⟨[],.deferred,aQ⟩ [(0,.pointer (some ⟨Wg,0,none⟩))]
 have hQ:Up (λ_=>True):=λ_ _ _ _=>trivial;have hI:fE C:=zeJ hQ rfl
 let d1:=dcall 55 #[.pointer (some ⟨Wg,0,none⟩)]
 have Ku:fE (C.dfr d1):=hI.dfr d1;have F:vZ C.P C.fs:=nO;show BO C _ _ _;rw[zDa];refine BO.seq hI ?_;rw[rH10_eq];refine BO.regs hI _ zDn ?_;refine BO.defer hI (d:=d1) zzA rfl rfl (λR w W bU _ _ Em aZ=>?_) ?_
 .have h0:=Em (0,.pointer (some ⟨Wg,0,none⟩)) (by show _∈[_];simp)
  have:=zoG (p:=C.p) (o:=zye) (ρ:=(bE bU C.ds.ds).eval) rfl rfl aZ;simp only[tJ,jD,sC,wJ] at this;simp only at h0;rw[h0] at this;exact this
 refine BO.regEnd Ku ?_;rw[rH11_eq];refine BO.regs Ku _ zC0 ?_;refine BO.op (C:=C.dfr d1) F Ku zER rfl aP (by intro s hs;cases hs;show(2:Nat)∉([0]:List Nat);decide) (λT=>⟨.chan (some gc),Tt.tp w T 0,.inl (zaD (a:=⟨gv,0,none⟩) rfl rfl (Tryz.isAgg95 _) hv),?_⟩);simp only[b7,gF,dY,dX];obtain⟨w1,eD⟩:=aT (Tt.tp w T 0);rw[<-eD];clear eD;refine BO.callN (C:=C.dfr d1) Ku zzb rfl rfl (Callee.static _ _) aP zxc aH rfl (.inl rfl) λoO m' hm=>?_;have ha:(#[]++(#[zjI 2]:Array cJ).map (bE #[.nilFunc,.pointer (some ⟨gv,0,none⟩),.chan (some gc),aA] []).eval++ #[]:Array aF)=#[.chan (some gc)]:=by
  simp only[tJ,jD,sC,wJ,Array.empty_append,Array.append_empty];rfl
 have An:(#[.chan (some gc)]:Array aF)++nK ((ziW).ntmps-(#[.chan (some gc)]:Array aF).size) aA=#[.chan (some gc),aA,aA,aA,aA,aA,aA,aA,aA,aA,aA,aA,aA,aA,aA,aA]:=by
  have e:(ziW).ntmps=16:=rfl;rw[e];apply Jb;simp only[P3,zbv,Ev,wL,zF];rfl
 show BO (Cx.sub _ m' oO) _ ⟨_,(#[]++(#[zjI 2]:Array cJ).map (bE #[.nilFunc,.pointer (some ⟨gv,0,none⟩),.chan (some gc),aA] []).eval++ #[]:Array aF)++nK ((ziW).ntmps-(#[]++(#[zjI 2]:Array cJ).map (bE #[.nilFunc,.pointer (some ⟨gv,0,none⟩),.chan (some gc),aA] []).eval++ #[]:Array aF).size) aA,[.code K3],false⟩ _;rw[ha,An];have eC:C.dfr d1=fS Wg N W D Fin St K (λ_=>True) [wQ aK] ⟨[d1],.deferred,aQ⟩ [(0,.pointer (some ⟨Wg,0,none⟩))]:=rfl;rw[eC] at hm⊢;rw[zrw];refine op_body hK (hQ.and oO) m w1 λK' T todo w2 hl=>?_;rw[<-zrw];have Hl:fE (fS Wg N W D Fin St K' (λ_=>True) [wQ aK] ⟨[d1],.deferred,aQ⟩ [(0,.pointer (some ⟨Wg,0,none⟩))]):=zeJ hQ rfl;refine BO.retN Hl (hm.upK hl _) (v:=.tuple #[]) rfl rfl ztG zxc rfl ?_;show BO _ _ ⟨_,_,[.inRegion _ []],false⟩ _;refine BO.regEnd Hl (BO.fall Hl ?_);exact BO.doneD zce rfl rfl rfl (I0:=IOp Wg) (by
  funext R τ w;exact propext (and_iff_left trivial)) iop_ix rfl rfl zxl rfl rfl (λ_ _ _ _ _=>trivial)
end
end Go.Proofs.YtfcjiloojkjaeaaGreatDoor
namespace Go.Mt
open Go.RowKit Go.Conc Go.Tt Go.Maps Go.Conc.Lib Go.ConcR.Gen
theorem BO.drawn {L:Type}{p:bT}{gs fs:aO->Bool}{f:aO}{kk:List dI}(Jy:p.follows .mixedOrders=true){id:Nat}{t0:Array aF}{ops:Array aX}(ch:List Nat)(V0:Nat->aF)(S:List aF->Cx L->L->aE->Prop)(hS:∀vs C l w,S vs C l w->fE C/\C.p=p/\C.gs=gs/\C.fs=fs/\vZ C.P C.fs/\∀(i:Nat) (o:aX) (s:Tmp),ops[i]? =some o->o.dst=some s->s∉C.S)(bM:yO ops=true)(sG:J9 ops ch=true)(oK:ch.all (λc=>decide (c<ops.size))=true)
 (hT:∀vs C l w T e,S vs C l w->S vs C l (Tt.tp w T e))
 (hR:∀(i:Nat) (o:aX),ops[i]? =some o->i∉ch->s9 p ⟨fs,gs,true⟩ o.op=true/\∀vs C l w,vs.length<ch.length->S vs C l w->cO o (cS ops (cT ops (VV ch V0 vs) t0))=true/\(aS (bE (cT ops (VV ch V0 vs) t0) []).eval o).run p w=.ok (.value (V0 i)) w)
 (hC:∀(vs:List aF) (c:Nat) (o:aX) C l w,ch[vs.length]? =some c->ops[c]? =some o->S vs C l w->∀(t:Array aF) (rest:List Nat),(∀s∈o.looksAt ops,t[s]? =(cT ops (VV ch V0 vs) t0)[s]?)->
  (∀v C' l' w',S (vs++[v]) C' l' w'->BO C' l' ⟨f,(b7 ⟨t,[]⟩ o.dst v).tmps,.inRegion ops rest::kk,false⟩ w')->BO C l ⟨f,t,.inRegion ops (c::rest)::kk,false⟩ w)
 (hk:∀vs C l w,vs.length=ch.length->S vs C l w->BO C l ⟨f,cT ops (VV ch V0 vs) t0,.inRegion ops []::kk,false⟩ w) {C:Cx L} {l:L} {w:aE} (h0:S [] C l w):BO C l ⟨f,t0,.code (.region id ops true)::kk,false⟩ w:=by
 obtain⟨sI,sp,_⟩:=hS _ _ _ _ h0;refine BO.draw sI λn=>?_;rw[sp,Jy]
 exact zkC (σ:=Cx L×L) (P:=p) (J:=λs is t w=>BO s.1 s.2 ⟨f,t,.inRegion ops is::kk,false⟩ w) (S:=λvs s w=>S vs s.1 s.2 w) bM sG oK
  (λvs s i o rest t w v h ho uP hw hx hJ=>by
   obtain⟨sI,sp,sg,sf,sF,sn⟩:=hS vs _ _ w h;exact BO.op sF sI ho hw (by rw[sp,sg,sf];exact(hR i o ho uP).1) (λs hs=>sn i o s ho hs) λT=>⟨v,_,.inl (by rw[sp];exact hx T),hJ T⟩)
  (λvs s=>hT vs s.1 s.2) (λi o ho uP vs s w hv _=>(hR i o ho uP).2 vs s.1 s.2 w hv) (λvs c o s w hj ho h t rest hs cY=>hC vs c o s.1 s.2 w hj ho h t rest hs λv C' l' w'=>cY v (C',l') w') (λvs s w=>hk vs s.1 s.2 w) (s:=(C,l)) h0 n
end Go.Mt
namespace Go.Proofs.YtfcjiloojkjaeaaGreatDoor
open Go.RowKit Go.Mt Go.Conc Go.Tt Go.Maps Go.Conc.Lib Go.ConcR.Gen
open Go.ConcR (KK wgBlock WgAt stA smA rd wr)
def oU:Go.Code:=(zey.body).getD .skip
def rRH0:Go.Code:=match oU with| .seq (a) _=>a|_=>.skip
def rRH1:Go.Code:=match oU with| .seq _ (.seq (.seq (a) _) _)=>a|_=>.skip
def rRH2:Go.Code:=match oU with| .seq _ (.seq (.seq _ (.cond _ (.seq (a) _) _)) _)=>a|_=>.skip
def rRH3:Go.Code:=match oU with| .seq _ (.seq _ (.seq (.seq (a) _) _))=>a|_=>.skip
def rRH4:Go.Code:=match oU with| .seq _ (.seq _ (.seq (.seq _ (.block _ (.loop (.seq (a) _)))) _))=>a|_=>.skip
def rRH5:Go.Code:=match oU with| .seq _ (.seq _ (.seq (.seq _ (.block _ (.loop (.seq _ (.seq _ (.seq (.block _ (.seq (a) _)) _)))))) _))=>a|_=>.skip
def rRH6:Go.Code:=match oU with| .seq _ (.seq _ (.seq (.seq _ (.block _ (.loop (.seq _ (.seq _ (.seq (.block _ (.seq _ (.seq (a) _))) _)))))) _))=>a|_=>.skip
def rRH7:Go.Code:=match oU with| .seq _ (.seq _ (.seq (.seq _ (.block _ (.loop (.seq _ (.seq _ (.seq (.block _ (.seq _ (.seq _ (.cond _ (.seq (a) _) _)))) _)))))) _))=>a|_=>.skip
def rRH8:Go.Code:=match oU with| .seq _ (.seq _ (.seq (.seq _ (.block _ (.loop (.seq _ (.seq _ (.seq _ (a))))))) _))=>a|_=>.skip
def rRH9:Go.Code:=match oU with| .seq _ (.seq _ (.seq _ (.seq (a) _)))=>a|_=>.skip
def zih:Go.Code:=match oU with| .seq _ (.seq _ (.seq _ (.seq _ (.seq (.seq (a) _) _))))=>a|_=>.skip
def rRH11:Go.Code:=match oU with| .seq _ (.seq _ (.seq _ (.seq _ (.seq (.seq _ (.block _ (.loop (.seq (a) _)))) _))))=>a|_=>.skip
def zcl:Go.Code:=match oU with| .seq _ (.seq _ (.seq _ (.seq _ (.seq (.seq _ (.block _ (.loop (.seq _ (.seq _ (.seq (.block _ (a)) _)))))) _))))=>a|_=>.skip
def rRH13:Go.Code:=match oU with| .seq _ (.seq _ (.seq _ (.seq _ (.seq (.seq _ (.block _ (.loop (.seq _ (.seq _ (.seq _ (a))))))) _))))=>a|_=>.skip
def N4:Go.Code:=match oU with| .seq _ (.seq _ (.seq _ (.seq _ (.seq _ (.seq (a) _)))))=>a|_=>.skip
def zk8:Go.Code:=match oU with| .seq _ (.seq _ (.seq _ (.seq _ (.seq _ (.seq _ (.seq (.seq (a) _) _))))))=>a|_=>.skip
def zje:Go.Code:=match oU with| .seq _ (.seq _ (.seq _ (.seq _ (.seq _ (.seq _ (.seq (.seq _ (.block _ (.loop (.seq (a) _)))) _))))))=>a|_=>.skip
def zcq:Go.Code:=match oU with| .seq _ (.seq _ (.seq _ (.seq _ (.seq _ (.seq _ (.seq (.seq _ (.block _ (.loop (.seq _ (.seq _ (.seq (.block _ (.seq (a) _)) _)))))) _))))))=>a|_=>.skip
def Pu:Go.Code:=match oU with| .seq _ (.seq _ (.seq _ (.seq _ (.seq _ (.seq _ (.seq (.seq _ (.block _ (.loop (.seq _ (.seq _ (.seq (.block _ (.seq _ (.seq (a) _))) _)))))) _))))))=>a|_=>.skip
def U9:Go.Code:=match oU with| .seq _ (.seq _ (.seq _ (.seq _ (.seq _ (.seq _ (.seq (.seq _ (.block _ (.loop (.seq _ (.seq _ (.seq (.block _ (.seq _ (.seq _ (.seq (a) _)))) _)))))) _))))))=>a|_=>.skip
def Sp:Go.Code:=match oU with| .seq _ (.seq _ (.seq _ (.seq _ (.seq _ (.seq _ (.seq (.seq _ (.block _ (.loop (.seq _ (.seq _ (.seq (.block _ (.seq _ (.seq _ (.seq _ (a))))) _)))))) _))))))=>a|_=>.skip
def zie:Go.Code:=match oU with| .seq _ (.seq _ (.seq _ (.seq _ (.seq _ (.seq _ (.seq (.seq _ (.block _ (.loop (.seq _ (.seq _ (.seq _ (a))))))) _))))))=>a|_=>.skip
def V5:Go.Code:=match oU with| .seq _ (.seq _ (.seq _ (.seq _ (.seq _ (.seq _ (.seq _ (.seq (a) _)))))))=>a|_=>.skip
def Yj:Go.Code:=match oU with| .seq _ (.seq _ (.seq _ (.seq _ (.seq _ (.seq _ (.seq _ (.seq _ (.seq (a) _))))))))=>a|_=>.skip
def Wk:Go.Code:=match oU with| .seq _ (.seq _ (.seq _ (.seq _ (.seq _ (.seq _ (.seq _ (.seq _ (.seq _ (.seq (a) _)))))))))=>a|_=>.skip
def Rn:Go.Code:=match oU with| .seq _ (.seq _ (.seq _ (.seq _ (.seq _ (.seq _ (.seq _ (.seq _ (.seq _ (.seq _ (.seq (a) _))))))))))=>a|_=>.skip
def zAV:oU=.seq (rRH0) (.seq (.seq (rRH1) (.cond (.tmp 17) (.seq (rRH2) (.ret)) (.skip))) (.seq (.seq (rRH3) (.block 0 (.loop (.seq (rRH4) (.seq (.cond (.tmp 21) (.skip) (.exit 0)) (.seq (.block 1 (.seq (rRH5) (.seq (rRH6) (.cond (.tmp 28) (.seq (rRH7) (.ret)) (.skip))))) (rRH8))))))) (.seq (rRH9) (.seq (.seq (zih) (.block 2 (.loop (.seq (rRH11) (.seq (.cond (.tmp 39) (.skip) (.exit 2)) (.seq (.block 3 (zcl)) (rRH13))))))) (.seq (N4) (.seq (.seq (zk8) (.block 4 (.loop (.seq (zje) (.seq (.cond (.tmp 54) (.skip) (.exit 4)) (.seq (.block 5 (.seq (zcq) (.seq (Pu) (.seq (U9) (Sp))))) (zie))))))) (.seq (V5) (.seq (Yj) (.seq (Wk) (.seq (Rn) (.ret))))))))))):=rfl
def mB:Array Oper:=match zcl with| .region _ ops _=>ops|_=>#[]
def zGP:zcl=.region 12 mB true:=rfl
abbrev zvp:Oper:=aM mB 0 (some 40) (.load 63 (.tmp 7))
def zHI:mB[0]? =some zvp:=rfl
abbrev zpe:Oper:=aM mB 1 (some 41) (.load 63 (.tmp 7))
def zzo:mB[1]? =some zpe:=rfl
abbrev zs1:Oper:=aM mB 2 (some 42) (.nilCheck (.tmp 41))
def zCk:mB[2]? =some zs1:=rfl
abbrev zu4:Oper:=aM mB 3 (some 43) (.fieldAddr 72 (.tmp 42) 1)
def zDN:mB[3]? =some zu4:=rfl
abbrev zoQ:Oper:=aM mB 4 (some 44) (.load 65 (.tmp 43))
def zFf:mB[4]? =some zoQ:=rfl
abbrev zvu:Oper:=aM mB 5 (some 45) (.makeChan 84 (.const (.int .i64 0)))
def zm4:mB[5]? =some zvu:=rfl
abbrev zjT:Oper:=aM mB 6 (some 46) (.buildSlice 65 1 #[(0,.tmp 45)])
def zfh:mB[6]? =some zjT:=rfl
abbrev zxe:Oper:=aM mB 7 (some 47) (.call ⟨.builtin .append,#[.tmp 44,.tmp 46],#[65,65]⟩)
def zmp:mB[7]? =some zxe:=rfl
abbrev zrc:Oper:=aM mB 8 (some 48) (.nilCheck (.tmp 40))
def zAv:mB[8]? =some zrc:=rfl
abbrev zrf:Oper:=aM mB 9 (some 49) (.fieldAddr 72 (.tmp 48) 1)
def zBQ:mB[9]? =some zrf:=rfl
abbrev zj1:Oper:=aM mB 10 none (.store 65 (.tmp 49) (.tmp 47))
def zjd:mB[10]? =some zj1:=rfl
def Px:Array Oper:=match zcq with| .region _ ops _=>ops|_=>#[]
def zD5:zcq=.region 17 Px false:=rfl
def zCE:fV Px.size=[0,1,2]:=rfl
abbrev oRH17_0:Oper:=aM Px 0 (some 55) (.makeChan 95 (.const (.int .i64 0)))
def zF8:Px[0]? =some oRH17_0:=rfl
abbrev zpJ:Oper:=aM Px 1 (some 9) (.alloc 95)
def zGd:Px[1]? =some zpJ:=rfl
abbrev zrT:Oper:=aM Px 2 none (.store 95 (.tmp 9) (.tmp 55))
def zC9:Px[2]? =some zrT:=rfl
def lL:Array Oper:=match Pu with| .region _ ops _=>ops|_=>#[]
def zHc:Pu=.region 18 lL true:=rfl
abbrev zqi:Oper:=aM lL 0 (some 56) (.load 63 (.tmp 7))
def zHW:lL[0]? =some zqi:=rfl
abbrev zvN:Oper:=aM lL 1 (some 57) (.load 63 (.tmp 7))
def zIb:lL[1]? =some zvN:=rfl
abbrev zwn:Oper:=aM lL 2 (some 58) (.nilCheck (.tmp 57))
def zyR:lL[2]? =some zwn:=rfl
abbrev zwb:Oper:=aM lL 3 (some 59) (.fieldAddr 72 (.tmp 58) 4)
def zAW:lL[3]? =some zwb:=rfl
abbrev zxV:Oper:=aM lL 4 (some 60) (.load 68 (.tmp 59))
def zDE:lL[4]? =some zxV:=rfl
abbrev zpZ:Oper:=aM lL 5 (some 61) (.load 95 (.tmp 9))
def zBn:lL[5]? =some zpZ:=rfl
abbrev zjf:Oper:=aM lL 6 (some 62) (.buildSlice 68 1 #[(0,.tmp 61)])
def za8:lL[6]? =some zjf:=rfl
abbrev zxR:Oper:=aM lL 7 (some 63) (.call ⟨.builtin .append,#[.tmp 60,.tmp 62],#[68,68]⟩)
def zhR:lL[7]? =some zxR:=rfl
abbrev zvb:Oper:=aM lL 8 (some 64) (.nilCheck (.tmp 56))
def zHY:lL[8]? =some zvb:=rfl
abbrev zom:Oper:=aM lL 9 (some 65) (.fieldAddr 72 (.tmp 64) 4)
def zyO:lL[9]? =some zom:=rfl
abbrev zn5:Oper:=aM lL 10 none (.store 68 (.tmp 65) (.tmp 63))
def zfr:lL[10]? =some zn5:=rfl
def zhP:Array Oper:=match U9 with| .region _ ops _=>ops|_=>#[]
def zID:U9=.region 19 zhP false:=rfl
def zAx:fV zhP.size=[0]:=rfl
abbrev oRH19_0:Oper:=aM zhP 0 (some 66) (.call ⟨.value (.func 53),#[.tmp 8,.const (.int .i64 1)],#[94,3]⟩)
def zIn:zhP[0]? =some oRH19_0:=rfl
def Ma:Array Oper:=match Sp with| .region _ ops _=>ops|_=>#[]
def zz7:Sp=.region 20 Ma false:=rfl
def zy4:fV Ma.size=[0,1]:=rfl
abbrev oRH20_0:Oper:=aM Ma 0 (some 67) (.makeFunc (zt1 54) #[] #[.tmp 8,.tmp 9])
def zIK:Ma[0]? =some oRH20_0:=rfl
abbrev oRH20_1:Oper:=aM Ma 1 none (.go ⟨.value (.tmp 67),#[],#[]⟩)
def zHX:Ma[1]? =some oRH20_1:=rfl
def zgS:Array Oper:=match V5 with| .region _ ops _=>ops|_=>#[]
def zz6:V5=.region 22 zgS false:=rfl
def zzM:fV zgS.size=[0]:=rfl
abbrev oRH22_0:Oper:=aM zgS 0 (some 69) (.call ⟨.value (.func 53),#[.tmp 8,.const (.int .i64 1)],#[94,3]⟩)
def zBc:zgS[0]? =some oRH22_0:=rfl
def Vv:Array Oper:=match Yj with| .region _ ops _=>ops|_=>#[]
def zzB:Yj=.region 23 Vv false:=rfl
def zD9:fV Vv.size=[0,1]:=rfl
abbrev oRH23_0:Oper:=aM Vv 0 (some 70) (.makeFunc (zt1 57) #[] #[.tmp 8,.tmp 7,.tmp 3])
def zBV:Vv[0]? =some oRH23_0:=rfl
abbrev oRH23_1:Oper:=aM Vv 1 none (.go ⟨.value (.tmp 70),#[],#[]⟩)
def zza:Vv[1]? =some oRH23_1:=rfl
def Xo:Array Oper:=match Wk with| .region _ ops _=>ops|_=>#[]
def zCT:Wk=.region 24 Xo false:=rfl
abbrev oRH24_0:Oper:=aM Xo 0 (some 71) (.call ⟨.value (.func 59),#[.tmp 8],#[94]⟩)
def uI:wM aK 42:=⟨_,zf1,.inr (.inl ⟨_,rfl⟩)⟩
def info_ch:(aK.info? 84).map (λi=>(i.zero,i.size,i.bytes))=some (some (.chan none),1,8):=aP
def info_cq:(aK.info? 95).map (λi=>(i.zero,i.size,i.bytes))=some (some (.chan none),1,8):=aP
theorem zAj:∃ie,aK.info? 3=some ie:=by
 obtain⟨i,hi,_⟩:=Aa.1 zbi;exact⟨i,hi⟩
theorem zvg (xs:List Nat)(g:Nat):Jx (xs++[g])=Jx xs++[.chan (some g)]:=by simp[Jx]
structure WH where
 lo:Nat
 hb:Nat
 gh:Nat
 gq:Nat
 q:Nat
 v0:fH
 w0:aE
 v:fH
 d:oG
def WH.P1 (c:WH)(w:aE):Prop:=bG w c.lo c.hb c.v c.d/\bP c.hb c.v0 c.w0 c.v w/\c.lo<=w.heap.size
variable {c:WH}{w:aE}
def WH.P1.tp (h:c.P1 w)(T:kS)(n:Nat):c.P1 (Tt.tp w T n):=⟨h.1.tp T n,h.2.1.tp T n,h.2.2⟩
def fH.maps (v v':fH):Prop:=v'.pC=v.pC/\v'.pO=v.pO/\v'.pM=v.pM
def zvh:yO mB=true:=aP
def zHD:J9 mB [5,6,7,10]=true:=aP
def zz2:mB.toList.map (·.dst)=[some 40,some 41,some 42,some 43,some 44,some 45,some 46,some 47,some 48,some 49,none]:=rfl
def zC4:mB.toList=[zvp,zpe,zs1,zu4,zoQ,zvu,zjT,zxe,zrc,zrf,zj1]:=rfl
def H6 (hb gh gq q:Nat)(sA:aF)(i:Nat):Value:=([.pointer (some ⟨hb,0,none⟩),.pointer (some ⟨hb,0,none⟩),.pointer (some ⟨hb,0,none⟩),.pointer (some ⟨hb,3,none⟩),sA,aA,aA,aA,.pointer (some ⟨hb,0,none⟩),.pointer (some ⟨hb,3,none⟩),aA]:List aF).getD i aA
variable {V:Nat->aF}{Tf:Array aF}{s:Nat}
theorem bsRL (hT:rI Tf V)(e:V 45=.chan (some s)):(aS (bE Tf []).eval zjT).run aK w=.ok (.value (.slice (some ⟨w.heap.size,0,none⟩) 1 1)) (w.alloc (.cells #[.chan (some s)] 84)):=by
 unfold aS;go_simp
variable {sA:aF}{T:kS}
theorem stRL {hb q1 n q2:Nat}(hT:rI Tf V)(e1:V 49=.pointer (some ⟨hb,3,none⟩))(e2:V 47=.slice (some ⟨q1,0,none⟩) n q2)(hh:w.cell? ⟨hb,3,none⟩=some sA)(hf:w.frozen? ⟨hb,3,none⟩=false):(aS (bE Tf []).eval zj1).run aK (Tt.tp w T 0)=.ok .skip (Tt.tp (w.setCell ⟨hb,3,none⟩ (.slice (some ⟨q1,0,none⟩) n q2)) T 0):=by
 have zhL:(Tt.tp w T 0).cell? ⟨hb,3,none⟩=some sA:=hh;have Ei:(Tt.tp w T 0).frozen? ⟨hb,3,none⟩=false:=hf;clear hh hf;unfold aS;go_simp
 try rfl
def WH.RdRL (c:WH)(w:aE):Prop:=w.cell? ⟨c.hb,3,none⟩=some c.v.sL/\w.heap[c.gh]? =some (.cells #[.pointer (some ⟨c.hb,0,none⟩)] 63)
def WH.RL2 (c:WH)(g:Nat)(w:aE):Prop:=∃v2,bG w c.lo c.hb v2 {c.d with ln:=c.d.ln++[g]}/\bP c.hb c.v0 c.w0 v2 w/\c.v.maps v2
variable {g:Nat}
theorem WH.RL2.tp (h:c.RL2 g w)(T:kS)(n:Nat):c.RL2 g (Tt.tp w T n):=by
 obtain⟨v1,a,d,e⟩:=h;exact⟨v1,a.tp T n,d.tp T n,e⟩
def WH.StRL (c:WH)(vs:List aF)(w':aE):Prop:=match vs with
 |[]=>c.P1 w'/\∀x∈c.d.ln,x<w'.heap.size
 |[a]=>∃g,a=.chan (some g)/\(∀x∈c.d.ln,x<g)/\g<w'.heap.size/\c.P1 w'
 |[a,b]=>∃g q,b=.slice (some ⟨q,0,none⟩) 1 1/\w'.heap[q]? =some (.cells #[.chan (some g)] 84)/\(∀x∈c.d.ln,x<g)/\g<w'.heap.size/\c.P1 w'
 |[a,b,x]=>∃g q1 q2,x=.slice (some ⟨q1,0,none⟩) (c.d.ln.length+1) q2/\w'.frozen? ⟨c.hb,3,none⟩=false/\(∀x∈c.d.ln,x<g)/\g<w'.heap.size/\c.RL2 g (w'.setCell ⟨c.hb,3,none⟩ x)
 |_=>∃g,(∀x∈c.d.ln,x<g)/\g<w'.heap.size/\c.RL2 g w'
section
variable {Post:aF->aE->Prop}{Shun:Loc->Prop}{W0:aE}{St:Nat->Prop}{R0:Pr}{base:List dL}
def SRL (Post:aF->aE->Prop)(Shun:Loc->Prop)(W0:aE)(St:Nat->Prop)(R0:Pr)(base:List dL)(c:WH)(K0:Pr)(vs:List aF)(C':Cx Unit)(l':Unit)(w':aE):Prop:=∃K',K0.le K'/\C'=Fv aK Cy fW Post Shun W0 St K' R0 base/\(vs.length<4->c.RdRL w')/\c.StRL vs w'
variable {c:WH}
theorem SRL.tp {K0:Pr}(vs:List aF)(C':Cx Unit)(l':Unit)(w':aE)(T:kS)(n:Nat)(h:SRL Post Shun W0 St R0 base c K0 vs C' l' w'):SRL Post Shun W0 St R0 base c K0 vs C' l' (Tt.tp w' T n):=by
 obtain⟨K',h1,h2,h3,h4⟩:=h;refine⟨K',h1,h2,h3,?_⟩;rcases vs with _|⟨a,_|⟨b,_|⟨x,_|⟨y,vs⟩⟩⟩⟩
 .exact⟨h4.1.tp T n,h4.2⟩
 .obtain⟨g,a,b,d,e⟩:=h4
  exact⟨g,a,b,d,e.tp T n⟩
 .obtain⟨g,q,a,b,c,d,e⟩:=h4
  exact⟨g,q,a,b,c,d,e.tp T n⟩
 .obtain⟨g,q1,q2,a,b,c,d,e⟩:=h4
  exact⟨g,q1,q2,a,b,c,d,WH.RL2.tp (w:=w'.setCell _ _) e T n⟩
 .obtain⟨g,a,b,d⟩:=h4
  exact⟨g,a,b,d.tp T n⟩
theorem cw_RL {K:Pr}(y5:c.d.ln.length<=1000)(zhz:some c.gh∉parts c.v c.hb){t0:Array aF}{w:aE}{kk:List dI}(hz:t0.size=73)(Et:t0.getD 7 aA=.pointer (some ⟨c.gh,0,none⟩))
 (hk:∀vs C' l' w',vs.length=4->SRL Post Shun W0 St R0 base c K vs C' l' w'->BO C' l' ⟨42,cT mB (VV [5,6,7,10] (H6 c.hb c.gh c.gq c.q c.v.sL) vs) t0,.inRegion mB []::kk,false⟩ w') (h0:SRL Post Shun W0 St R0 base c K [] (Fv aK Cy fW Post Shun W0 St K R0 base) () w):BO (Fv aK Cy fW Post Shun W0 St K R0 base) () ⟨42,t0,.code zcl::kk,false⟩ w:=by
 rw[zGP];have KO:=Gr zvh;refine BO.drawn (p:=aK) (gs:=Cy) (fs:=fW) uB.mixed [5,6,7,10] (H6 c.hb c.gh c.gq c.q c.v.sL) (SRL Post Shun W0 St R0 base c K) (λvs C l w h=>by
  obtain⟨K',_,rfl,_⟩:=h;exact⟨dG,rfl,rfl,rfl,nO,λ_ _ _ _ _=>nM⟩) zvh zHD Kg (λvs K l w T e h=>SRL.tp vs K l w T e h) (λi o ho hi=>?_) (λvs ci o C' l' w' hc ho hS t rest lA gI=>?_) hk h0
 .have hl:mB.toList[i]? =some o:=by rw[C3];exact ho
  rw[zC4] at hl;have aU:i<11:=by have:=(l8.1 hl).1;simpa using this
  have tn:∀(vs:List aF) {j:Nat} {oj:aX} {s:Tmp} {v:aF},mB[j]? =some oj->oj.dst=some s->s<t0.size->VV [5,6,7,10] (H6 c.hb c.gh c.gq c.q c.v.sL) vs j=v->(cT mB (VV [5,6,7,10] (H6 c.hb c.gh c.gq c.q c.v.sL) vs) t0).getD s aA=v:=λvs _ _ _ _ a b c d=>qW KO a b c d;have tq:∀(vs:List aF) {s:Tmp},tP mB s=false->(cT mB (VV [5,6,7,10] (H6 c.hb c.gh c.gq c.q c.v.sL) vs) t0).getD s aA=t0.getD s undef:=λvs _ a=>zhs KO a;have Pe:∀{vs:List aF} {C' l' w'},(SRL Post Shun W0 St R0 base c K) vs C' l' w'->vs.length<4->c.RdRL w':=λh hv=>by
   obtain⟨_,_,_,h,_⟩:=h;exact h hv
  rcases i with _|_|_|_|_|_|_|_|_|_|_|i
  .obtain rfl:=cH hl
   exact⟨aP,λvs K' l' w' hv hS=>⟨dE rfl,rd2 (.pointer (some ⟨c.hb,0,none⟩)) ((tq vs aP).trans Et) (aI (Pe hS hv).2 0)⟩⟩
  .obtain rfl:=cH hl
   exact⟨aP,λvs K' l' w' hv hS=>⟨dE rfl,rd2 (.pointer (some ⟨c.hb,0,none⟩)) ((tq vs aP).trans Et) (aI (Pe hS hv).2 0)⟩⟩
  .obtain rfl:=cH hl
   exact⟨aP,λvs K' l' w' hv hS=>⟨dE rfl,uX (.pointer (some ⟨c.hb,0,none⟩)) (tn vs zzo rfl gK rfl)⟩⟩
  .obtain rfl:=cH hl
   exact⟨aP,λvs K' l' w' hv hS=>⟨dE rfl,uX (.pointer (some ⟨c.hb,3,none⟩)) (tn vs zCk rfl gK rfl)⟩⟩
  .obtain rfl:=cH hl
   exact⟨aP,λvs K' l' w' hv hS=>⟨dE rfl,rd2 (c.v.sL) (tn vs zDN rfl gK rfl) (Pe hS hv).1⟩⟩
  .exact absurd aH hi
  .exact absurd aH hi
  .exact absurd aH hi
  .obtain rfl:=cH hl
   exact⟨aP,λvs K' l' w' hv hS=>⟨dE rfl,uX (.pointer (some ⟨c.hb,0,none⟩)) (tn vs zHI rfl gK rfl)⟩⟩
  .obtain rfl:=cH hl
   exact⟨aP,λvs K' l' w' hv hS=>⟨dE rfl,uX (.pointer (some ⟨c.hb,3,none⟩)) (tn vs zAv rfl gK rfl)⟩⟩
  .exact absurd aH hi
  .omega
 .rcases vs with _|⟨a,_|⟨b,_|⟨c',_|⟨d',vs⟩⟩⟩⟩
  .obtain rfl:5=ci:=by simpa using hc
   rw[zm4] at ho;obtain rfl:=cH ho;obtain⟨K',hK,rfl,hR,⟨s1,s2⟩⟩:=hS;obtain⟨ie,jK⟩:=zAj;refine BO.makeK dG zm4 (dE rfl) rfl Tryz.underlying84 jK (λ_ _=>nM) (I':=λ_=>IA W0 St Shun R0) (λR τ W hi ht aU=>?_) (λg=>?_)
   .have hi:IA W0 St Shun R0 R τ W:=hi
    have sz:(W.alloc (.chan 0 #[] false 0 0 false)).heap.size=W.heap.size+1:=vI _ _;have hz:=hi.kp.size;exact⟨⟨hi.kp.os,hi.kp.tape,hi.kp.output,by rw[sz];omega,λb hb=>(Cs aC).trans (hi.kp.block b hb),hi.kp.old⟩,⟨hi.sh.old,hi.sh.rel,λl b hl hb=>hi.sh.new l b hl (by rw[sz] at hb;omega)⟩,hi.still,hi.le⟩
   .exact gI _ _ _ _ ⟨K'.add w'.heap.size g,wH hK (Pr.le_add _ _ _),rfl,λ_=>⟨B7 (hR aQ).1 _,dH (hR aQ).2 _⟩,w'.heap.size,rfl,s2,by rw[vI];exact yB _,s1.1.alloc _,s1.2.1.trans (bP.below (eT (fK _ _) _)),eG s1.2.2 (by rw[vI];exact zfU _)⟩
  .obtain rfl:6=ci:=by simpa using hc
   rw[zfh] at ho;obtain rfl:=cH ho;obtain⟨K',hK,rfl,hR,g,rfl,s2,s3,z3,z5,s6⟩:=hS;have V1:(cT mB (VV [5,6,7,10] (H6 c.hb c.gh c.gq c.q c.v.sL) [.chan (some g)]) t0).getD 45 aA=.chan (some g):=qW KO zm4 rfl gK rfl;refine BO.op nO dG zfh (dE rfl) aP (λs hs=>nM) (λT=>⟨.slice (some ⟨w'.heap.size,0,none⟩) 1 1,(Tt.tp w' T 0).alloc (.cells #[.chan (some g)] 84),.inl ?_,?_⟩)
   .rw[Dx (KO.sel 6 _ zfh) lA]
    have hT:rI (cT mB (VV [5,6,7,10] (H6 c.hb c.gh c.gq c.q c.v.sL) [.chan (some g)]) t0) (λs=>(cT mB (VV [5,6,7,10] (H6 c.hb c.gh c.gq c.q c.v.sL) [.chan (some g)]) t0).getD s aA):=λs=>rfl;exact bsRL hT V1
   .have al:bP c.hb c.v w' c.v ((Tt.tp w' T 0).alloc (.cells #[.chan (some g)] 84)):=(bP.refl.tp T 0).trans (bP.below (eT (fK _ _) _))
    exact gI _ _ _ _ ⟨K',hK,rfl,λ_=>⟨B7 (hR aQ).1 _,dH (hR aQ).2 _⟩,g,_,rfl,gV _ _,s2,zoa s3 (by show _<((Tt.tp w' T 0).alloc _).heap.size;rw[vI];exact yB _),(z3.tp T 0).alloc _,z5.trans al,eG s6 zgL⟩
  .obtain rfl:7=ci:=by simpa using hc
   rw[zmp] at ho;obtain rfl:=cH ho;obtain⟨K',hK,rfl,hR,g,gs,rfl,zaG,s2,s3,z3,z5,s6⟩:=hS;have zkr:=He lA (s:=44) aH (qW KO zFf rfl gK rfl);have zkO:=He lA (s:=46) aH (qW KO zfh rfl gK rfl);have zlS:some c.gh∉parts c.v c.hb:=zhz;refine BO.op nO dG zmp (dE rfl) aP (λs hs=>nM) (λT=>?_);have a1:=z3.tp T 0;obtain⟨q1,q2,w5,fM,dF,nA,fA⟩:=Nl (w:=Tt.tp w' T 0) (t:=65) (ty:=65) info_ch Tryz.underlying65 rfl aH a1.L (g:=gs) (cs:=#[.chan (some g)]) (news:=[.chan (some g)]) zaG rfl (m:=1) rfl aH Oj aC aH s6;obtain⟨a6,t6⟩:=a1.putL nA (xs:=c.d.ln++[g]) (by rw[zvg];exact dF) aQ fA;have yL:=(a1.other (j:=1) (c:=3) (x:=c.v.sL) rfl aH nA (.slice (some ⟨q1,0,none⟩) (c.d.ln.length+1) q2)).2.trans a1.blk;have Fh:w5.heap[c.gh]? =some _:=(nA.block c.gh (iR (hR aQ).2) (λe=>zlS (fI (i:=1) (show(parts c.v c.hb)[1]? =some (some c.gh) by rw[e];rfl)))).trans (hR aQ).2;have cK:w'.heap.size<=w5.heap.size:=nA.size;refine⟨_,w5,.inl (X6 rfl zkr zkO fM),gI _ _ _ _ ⟨K',hK,rfl,λ_=>⟨aI yL 3,Fh⟩,g,q1,q2,rfl,eW yL 3,s2,j5 s3 cK,_,a6,z5.trans ((bP.refl.tp T 0).trans t6),rfl,rfl,rfl⟩⟩
  .obtain rfl:10=ci:=by simpa using hc
   rw[zjd] at ho;obtain rfl:=cH ho;obtain⟨K',hK,rfl,hR,g,q1,q2,rfl,oH,s2,s3,y3⟩:=hS;have V1:(cT mB (VV [5,6,7,10] (H6 c.hb c.gh c.gq c.q c.v.sL) [a,b,.slice (some ⟨q1,0,none⟩) (c.d.ln.length+1) q2]) t0).getD 47 aA=.slice (some ⟨q1,0,none⟩) (c.d.ln.length+1) q2:=qW KO zmp rfl gK rfl;have V2:(cT mB (VV [5,6,7,10] (H6 c.hb c.gh c.gq c.q c.v.sL) [a,b,.slice (some ⟨q1,0,none⟩) (c.d.ln.length+1) q2]) t0).getD 49 aA=.pointer (some ⟨c.hb,3,none⟩):=qW KO zBQ rfl gK rfl;refine BO.op nO dG zjd (dE rfl) aP (λs hs=>nM) (λT=>⟨aA,Tt.tp (w'.setCell ⟨c.hb,3,none⟩ (.slice (some ⟨q1,0,none⟩) (c.d.ln.length+1) q2)) T 0,.inr ⟨?_,rfl⟩,?_⟩)
   .rw[Dx (KO.sel 10 _ zjd) lA]
    have hT:rI (cT mB (VV [5,6,7,10] (H6 c.hb c.gh c.gq c.q c.v.sL) [a,b,.slice (some ⟨q1,0,none⟩) (c.d.ln.length+1) q2]) t0) (λs=>(cT mB (VV [5,6,7,10] (H6 c.hb c.gh c.gq c.q c.v.sL) [a,b,.slice (some ⟨q1,0,none⟩) (c.d.ln.length+1) q2]) t0).getD s aA):=λs=>rfl;exact stRL hT V2 V1 (hR aQ).1 oH
   .exact gI aA _ _ _ ⟨K',hK,rfl,λh=>absurd h aQ,g,s2,(by show g<(w'.setCell _ _).heap.size;rw[Ux];exact s3),WH.RL2.tp y3 T 0⟩
  .simp at hc
end
def zsI:yO lL=true:=aP
def zIG:J9 lL [6,7,10]=true:=aP
def zx9:lL.toList.map (·.dst)=[some 56,some 57,some 58,some 59,some 60,some 61,some 62,some 63,some 64,some 65,none]:=rfl
def zDi:lL.toList=[zqi,zvN,zwn,zwb,zxV,zpZ,zjf,zxR,zvb,zom,zn5]:=rfl
def Hs (hb gh gq q:Nat)(sA:aF)(i:Nat):Value:=([.pointer (some ⟨hb,0,none⟩),.pointer (some ⟨hb,0,none⟩),.pointer (some ⟨hb,0,none⟩),.pointer (some ⟨hb,6,none⟩),sA,.chan (some q),aA,aA,.pointer (some ⟨hb,0,none⟩),.pointer (some ⟨hb,6,none⟩),aA]:List aF).getD i aA
theorem bsRQ (hT:rI Tf V)(e:V 61=.chan (some s)):(aS (bE Tf []).eval zjf).run aK w=.ok (.value (.slice (some ⟨w.heap.size,0,none⟩) 1 1)) (w.alloc (.cells #[.chan (some s)] 95)):=by
 unfold aS;go_simp
theorem stRQ {hb q1 n q2:Nat}(hT:rI Tf V)(e1:V 65=.pointer (some ⟨hb,6,none⟩))(e2:V 63=.slice (some ⟨q1,0,none⟩) n q2)(hh:w.cell? ⟨hb,6,none⟩=some sA)(hf:w.frozen? ⟨hb,6,none⟩=false):(aS (bE Tf []).eval zn5).run aK (Tt.tp w T 0)=.ok .skip (Tt.tp (w.setCell ⟨hb,6,none⟩ (.slice (some ⟨q1,0,none⟩) n q2)) T 0):=by
 have zhL:(Tt.tp w T 0).cell? ⟨hb,6,none⟩=some sA:=hh;have Ei:(Tt.tp w T 0).frozen? ⟨hb,6,none⟩=false:=hf;clear hh hf;unfold aS;go_simp
 try rfl
def WH.RdRQ (c:WH)(w:aE):Prop:=w.cell? ⟨c.hb,6,none⟩=some c.v.sQ/\w.heap[c.gh]? =some (.cells #[.pointer (some ⟨c.hb,0,none⟩)] 63)/\w.heap[c.gq]? =some (.cells #[.chan (some c.q)] 95)
def WH.RQ2 (c:WH)(g:Nat)(w:aE):Prop:=∃v2,bG w c.lo c.hb v2 {c.d with qn:=c.d.qn++[g]}/\bP c.hb c.v0 c.w0 v2 w/\c.v.maps v2
theorem WH.RQ2.tp (h:c.RQ2 g w)(T:kS)(n:Nat):c.RQ2 g (Tt.tp w T n):=by
 obtain⟨v1,a,d,e⟩:=h;exact⟨v1,a.tp T n,d.tp T n,e⟩
def WH.StRQ (c:WH)(vs:List aF)(w':aE):Prop:=match vs with
 |[]=>c.P1 w'
 |[b]=>(∃q,b=.slice (some ⟨q,0,none⟩) 1 1/\w'.heap[q]? =some (.cells #[.chan (some c.q)] 95))/\c.P1 w'
 |[b,x]=>(∃q1 q2,x=.slice (some ⟨q1,0,none⟩) (c.d.qn.length+1) q2)/\w'.frozen? ⟨c.hb,6,none⟩=false/\c.RQ2 c.q (w'.setCell ⟨c.hb,6,none⟩ x)
 |_=>c.RQ2 c.q w'
section
def SRQ {L:Type}(c:WH)(C:Cx L)(l:L)(vs:List aF)(C':Cx L)(l':L)(w':aE):Prop:=C'=C/\l'=l/\(vs.length<3->c.RdRQ w')/\c.StRQ vs w'
variable {L:Type}{c:WH}
theorem SRQ.tp {C:Cx L}{l:L}(vs:List aF)(C':Cx L)(l':L)(w':aE)(T:kS)(n:Nat)(h:SRQ c C l vs C' l' w'):SRQ c C l vs C' l' (Tt.tp w' T n):=by
 obtain⟨h1,h2,h3,h4⟩:=h;refine⟨h1,h2,h3,?_⟩;rcases vs with _|⟨b,_|⟨x,_|⟨y,vs⟩⟩⟩
 .exact h4.tp T n
 .exact⟨h4.1,h4.2.tp T n⟩
 .exact⟨h4.1,h4.2.1,WH.RQ2.tp (w:=w'.setCell _ _) h4.2.2 T n⟩
 .exact h4.tp T n
theorem cw_RQ {C:Cx L}{l:L}(hI:fE C)(hp:C.p=aK)(hg:C.gs=Cy)(hf:C.fs=fW)(hF:vZ C.P C.fs)(hn:∀(i:Nat) (o:aX) (s:Tmp),lL[i]? =some o->o.dst=some s->s∉C.S)(y5:c.d.qn.length<=1000)(zhz:some c.gh∉parts c.v c.hb)(zaq:some c.gq∉parts c.v c.hb){t0:Array aF}{w:aE}{kk:List dI}(hz:t0.size=73)(Et:t0.getD 7 aA=.pointer (some ⟨c.gh,0,none⟩))(zk0:t0.getD 9 aA=.pointer (some ⟨c.gq,0,none⟩))
 (hk:∀vs C' l' w',vs.length=3->SRQ c C l vs C' l' w'->BO C' l' ⟨42,cT lL (VV [6,7,10] (Hs c.hb c.gh c.gq c.q c.v.sQ) vs) t0,.inRegion lL []::kk,false⟩ w') (h0:SRQ c C l [] C l w):BO C l ⟨42,t0,.code Pu::kk,false⟩ w:=by
 rw[zHc];have KO:=Gr zsI;refine BO.drawn (p:=aK) (gs:=Cy) (fs:=fW) uB.mixed [6,7,10] (Hs c.hb c.gh c.gq c.q c.v.sQ) (SRQ c C l) (λvs C l w h=>by
  obtain⟨rfl,rfl,_⟩:=h;exact⟨hI,hp,hg,hf,hF,hn⟩) zsI zIG Kg (λvs K l w T e h=>SRQ.tp vs K l w T e h) (λi o ho hi=>?_) (λvs ci o C' l' w' hc ho hS t rest lA gI=>?_) hk h0
 .have hl:lL.toList[i]? =some o:=by rw[C3];exact ho
  rw[zDi] at hl;have aU:i<11:=by have:=(l8.1 hl).1;simpa using this
  have tn:∀(vs:List aF) {j:Nat} {oj:aX} {s:Tmp} {v:aF},lL[j]? =some oj->oj.dst=some s->s<t0.size->VV [6,7,10] (Hs c.hb c.gh c.gq c.q c.v.sQ) vs j=v->(cT lL (VV [6,7,10] (Hs c.hb c.gh c.gq c.q c.v.sQ) vs) t0).getD s aA=v:=λvs _ _ _ _ a b c d=>qW KO a b c d;have tq:∀(vs:List aF) {s:Tmp},tP lL s=false->(cT lL (VV [6,7,10] (Hs c.hb c.gh c.gq c.q c.v.sQ) vs) t0).getD s aA=t0.getD s undef:=λvs _ a=>zhs KO a;have Pe:∀{vs:List aF} {C' l' w'},(SRQ c C l) vs C' l' w'->vs.length<3->c.RdRQ w':=λh hv=>by
   obtain⟨_,_,h,_⟩:=h;exact h hv
  rcases i with _|_|_|_|_|_|_|_|_|_|_|i
  .obtain rfl:=cH hl
   exact⟨aP,λvs K' l' w' hv hS=>⟨dE rfl,rd2 (.pointer (some ⟨c.hb,0,none⟩)) ((tq vs aP).trans Et) (aI (Pe hS hv).2.1 0)⟩⟩
  .obtain rfl:=cH hl
   exact⟨aP,λvs K' l' w' hv hS=>⟨dE rfl,rd2 (.pointer (some ⟨c.hb,0,none⟩)) ((tq vs aP).trans Et) (aI (Pe hS hv).2.1 0)⟩⟩
  .obtain rfl:=cH hl
   exact⟨aP,λvs K' l' w' hv hS=>⟨dE rfl,uX (.pointer (some ⟨c.hb,0,none⟩)) (tn vs zIb rfl gK rfl)⟩⟩
  .obtain rfl:=cH hl
   exact⟨aP,λvs K' l' w' hv hS=>⟨dE rfl,uX (.pointer (some ⟨c.hb,6,none⟩)) (tn vs zyR rfl gK rfl)⟩⟩
  .obtain rfl:=cH hl
   exact⟨aP,λvs K' l' w' hv hS=>⟨dE rfl,rd2 (c.v.sQ) (tn vs zAW rfl gK rfl) (Pe hS hv).1⟩⟩
  .obtain rfl:=cH hl
   exact⟨aP,λvs K' l' w' hv hS=>⟨dE rfl,rd2 (.chan (some c.q)) ((tq vs aP).trans zk0) (aI (Pe hS hv).2.2 0)⟩⟩
  .exact absurd aH hi
  .exact absurd aH hi
  .obtain rfl:=cH hl
   exact⟨aP,λvs K' l' w' hv hS=>⟨dE rfl,uX (.pointer (some ⟨c.hb,0,none⟩)) (tn vs zHW rfl gK rfl)⟩⟩
  .obtain rfl:=cH hl
   exact⟨aP,λvs K' l' w' hv hS=>⟨dE rfl,uX (.pointer (some ⟨c.hb,6,none⟩)) (tn vs zHY rfl gK rfl)⟩⟩
  .exact absurd aH hi
  .omega
 .rcases vs with _|⟨a,_|⟨b,_|⟨c',vs⟩⟩⟩
  .obtain rfl:6=ci:=by simpa using hc
   rw[za8] at ho;obtain rfl:=cH ho;obtain⟨rfl,rfl,hR,z3,z5,s6⟩:=hS;have V1:(cT lL (VV [6,7,10] (Hs c.hb c.gh c.gq c.q c.v.sQ) []) t0).getD 61 aA=.chan (some c.q):=qW KO zBn rfl gK rfl;refine BO.op hF hI za8 (dE rfl) zkv (λs hs=>hn 6 _ s za8 hs) (λT=>⟨.slice (some ⟨w'.heap.size,0,none⟩) 1 1,(Tt.tp w' T 0).alloc (.cells #[.chan (some c.q)] 95),.inl ?_,?_⟩)
   .rw[hp]
    rw[Dx (KO.sel 6 _ za8) lA];have hT:rI (cT lL (VV [6,7,10] (Hs c.hb c.gh c.gq c.q c.v.sQ) []) t0) (λs=>(cT lL (VV [6,7,10] (Hs c.hb c.gh c.gq c.q c.v.sQ) []) t0).getD s aA):=λs=>rfl;exact bsRQ hT V1
   .have al:bP c.hb c.v w' c.v ((Tt.tp w' T 0).alloc (.cells #[.chan (some c.q)] 95)):=(bP.refl.tp T 0).trans (bP.below (eT (fK _ _) _))
    exact gI _ _ _ _ ⟨rfl,rfl,λ_=>⟨B7 (hR aQ).1 _,dH (hR aQ).2.1 _,dH (hR aQ).2.2 _⟩,⟨_,rfl,gV _ _⟩,(z3.tp T 0).alloc _,z5.trans al,eG s6 zgL⟩
  .obtain rfl:7=ci:=by simpa using hc
   rw[zhR] at ho;obtain rfl:=cH ho;obtain⟨rfl,rfl,hR,⟨gs,rfl,zaG⟩,z3,z5,s6⟩:=hS;have zkr:=He lA (s:=60) aH (qW KO zDE rfl gK rfl);have zkO:=He lA (s:=62) aH (qW KO za8 rfl gK rfl);have zlS:some c.gh∉parts c.v c.hb:=zhz;have zAX:some c.gq∉parts c.v c.hb:=zaq;refine BO.op hF hI zhR (dE rfl) zkv (λs hs=>hn 7 _ s zhR hs) (λT=>?_);have a1:=z3.tp T 0;obtain⟨q1,q2,w5,fM,dF,nA,fA⟩:=Nl (w:=Tt.tp w' T 0) (t:=68) (ty:=68) info_cq Tryz.underlying68 rfl aH a1.Q (g:=gs) (cs:=#[.chan (some c.q)]) (news:=[.chan (some c.q)]) zaG rfl (m:=1) rfl aH Oj aC aH s6;obtain⟨a6,t6⟩:=a1.putQ nA (xs:=c.d.qn++[c.q]) (by rw[zvg];exact dF) aQ fA;have yL:=(a1.other (j:=4) (c:=6) (x:=c.v.sQ) rfl aH nA (.slice (some ⟨q1,0,none⟩) (c.d.qn.length+1) q2)).2.trans a1.blk;have Fh:w5.heap[c.gh]? =some _:=(nA.block c.gh (iR (hR aQ).2.1) (λe=>zlS (fI (i:=4) (show(parts c.v c.hb)[4]? =some (some c.gh) by rw[e];rfl)))).trans (hR aQ).2.1;have Cd:w5.heap[c.gq]? =some _:=(nA.block c.gq (iR (hR aQ).2.2) (λe=>zAX (fI (i:=4) (show(parts c.v c.hb)[4]? =some (some c.gq) by rw[e];rfl)))).trans (hR aQ).2.2;refine⟨_,w5,.inl (by rw[hp];exact X6 rfl zkr zkO fM),gI _ _ _ _ ⟨rfl,rfl,λ_=>⟨aI yL 6,Fh,Cd⟩,⟨q1,q2,rfl⟩,eW yL 6,_,a6,z5.trans ((bP.refl.tp T 0).trans t6),rfl,rfl,rfl⟩⟩
  .obtain rfl:10=ci:=by simpa using hc
   rw[zfr] at ho;obtain rfl:=cH ho;obtain⟨rfl,rfl,hR,⟨q1,q2,rfl⟩,oH,y3⟩:=hS;have V1:(cT lL (VV [6,7,10] (Hs c.hb c.gh c.gq c.q c.v.sQ) [a,.slice (some ⟨q1,0,none⟩) (c.d.qn.length+1) q2]) t0).getD 63 aA=.slice (some ⟨q1,0,none⟩) (c.d.qn.length+1) q2:=qW KO zhR rfl gK rfl;have V2:(cT lL (VV [6,7,10] (Hs c.hb c.gh c.gq c.q c.v.sQ) [a,.slice (some ⟨q1,0,none⟩) (c.d.qn.length+1) q2]) t0).getD 65 aA=.pointer (some ⟨c.hb,6,none⟩):=qW KO zyO rfl gK rfl;refine BO.op hF hI zfr (dE rfl) zkv (λs hs=>hn 10 _ s zfr hs) (λT=>⟨aA,Tt.tp (w'.setCell ⟨c.hb,6,none⟩ (.slice (some ⟨q1,0,none⟩) (c.d.qn.length+1) q2)) T 0,.inr ⟨?_,rfl⟩,?_⟩)
   .rw[hp]
    rw[Dx (KO.sel 10 _ zfr) lA];have hT:rI (cT lL (VV [6,7,10] (Hs c.hb c.gh c.gq c.q c.v.sQ) [a,.slice (some ⟨q1,0,none⟩) (c.d.qn.length+1) q2]) t0) (λs=>(cT lL (VV [6,7,10] (Hs c.hb c.gh c.gq c.q c.v.sQ) [a,.slice (some ⟨q1,0,none⟩) (c.d.qn.length+1) q2]) t0).getD s aA):=λs=>rfl;exact stRQ hT V2 V1 (hR aQ).1 oH
   .exact gI aA _ _ _ ⟨rfl,rfl,λh=>absurd h aQ,WH.RQ2.tp y3 T 0⟩
  .simp at hc
end
end Go.Proofs.YtfcjiloojkjaeaaGreatDoor
namespace Go.Proofs.YtfcjiloojkjaeaaGreatDoor
open Go.RowKit
theorem Y8 (o:fP)(w:aE):
 fJ aK 33 #[.agg #[.int .i64 o.ln,.int .i64 o.op,.int .i64 o.pt]] w λx w'=>x=.returned (.bool (mY o))/\bY w.heap.size w w':=by
 go_enter Tryz.func33,Tryz.ntmps33
 go_wp2
 all_goals go_ret
 all_goals refine⟨L6 ?_,((fK _ _).alloc (bL _) _)⟩
 all_goals rw[Ng]
 all_goals simp[mY,inB] at*
 all_goals grind
theorem zxs (e:dQ)(ops:Int)(w:aE)(ho:1<=ops/\ops<=4):
 fJ aK 52 #[.agg #[.string e.k,.int .i64 e.a,.int .i64 e.b],.int .i64 ops] w λx w'=>x=.returned (.bool (qR ops e))/\bY w.heap.size w w':=by
 obtain⟨y6,zdm⟩:=ho
 go_enter Tryz.func52,Tryz.ntmps52
 go_wp2
 all_goals go_ret
 all_goals refine⟨L6 ?_,((fK _ _).alloc (bL _) _)⟩
 all_goals rw[Ng]
 all_goals simp[qR,Gf,inB,Gz,J6,Ij,Ik,Sw] at*
 all_goals grind
end Go.Proofs.YtfcjiloojkjaeaaGreatDoor
namespace Go.Proofs.YtfcjiloojkjaeaaGreatDoor
open Go.RowKit Go.Mt Go.Conc Go.Tt Go.Maps Go.Conc.Lib Go.ConcR.Gen
open Go.ConcR (KK wgBlock WgAt stA smA rd wr)
structure oY (wB:aE)(lo go ge n c:Nat)(A:Option bC)(o:fP)(es:List dQ)(w:aE):Prop where
 lo_:lo<=w.heap.size
 tab:Bw lo w
 ev:cE w 0 lo 3 A n c (pA es)
 gol:go<lo
 gel:ge<lo
 bo:w.heap[go]? =some (.cells #[.int .i64 o.ln,.int .i64 o.op,.int .i64 o.pt] 29)
 be:w.heap[ge]? =some (.cells #[.slice A n c] 31)
 old:∀b,b<lo->w.heap[b]? =wB.heap[b]?
section
variable {lo go ge n c:Nat}{A:Option bC}{o:fP}{es:List dQ}{wB w w':aE}
def oY.keep (h:oY wB lo go ge n c A o es w)(hs:w.heap.size<=w'.heap.size)(k:∀b,b<lo->w'.heap[b]? =w.heap[b]?):oY wB lo go ge n c A o es w':=
 ⟨eG h.lo_ hs,h.tab.keep k,h.ev.keep hs λb _ q _=>k b q,h.gol,h.gel,(k _ h.gol).trans h.bo,(k _ h.gel).trans h.be,λb hb=>(k b hb).trans (h.old b hb)⟩
def oY.below (h:oY wB lo go ge n c A o es w)(k:bY w.heap.size w w'):oY wB lo go ge n c A o es w':=h.keep k.size λb hb=>k.block b (j5 hb h.lo_)
def oY.tp (h:oY wB lo go ge n c A o es w)(T:kS)(e:Nat):oY wB lo go ge n c A o es (Tt.tp w T e):=h.keep (bL _) λ_ _=>rfl
end
structure oT (wB:aE)(lo go ge n c:Nat)(A:Option bC)(o:fP)(es:List dQ)(hb gh:Nat)(ln qn:List Nat)(v:fH)(w:aE):Prop where
 e:oY wB lo go ge n c A o es w
 at_:bG w lo hb v ⟨mU o,ln,qn,[]⟩
 mp:v.pC=[]/\v.pO=[]/\v.pM=[]
 nd:ln.Nodup
 lt:∀x∈ln,x<w.heap.size
 bh:w.heap[gh]? =some (.cells #[.pointer (some ⟨hb,0,none⟩)] 63)
 nh:some gh∉parts v hb
 ghl:lo<=gh
section
variable {lo go ge n c hb gh:Nat}{A:Option bC}{o:fP}{es:List dQ}{ln qn zeL zfZ:List Nat}{v v':fH}{wB w w':aE}
theorem oT.turn (h:oT wB lo go ge n c A o es hb gh ln qn v w)(t:bP hb v w v' w')(a:bG w' lo hb v' ⟨mU o,zeL,zfZ,[]⟩)(m:v.maps v')(hn:zeL.Nodup)(hl:∀x∈zeL,x<w'.heap.size):oT wB lo go ge n c A o es hb gh zeL zfZ v' w':=by
 obtain⟨b1,b2⟩:=h.at_.turned t h.bh h.nh;refine⟨h.e.keep t.size λb b9=>t.block b (j5 b9 h.e.lo_) λhp=>?_,a,⟨m.1.trans h.mp.1,m.2.1.trans h.mp.2.1,m.2.2.trans h.mp.2.2⟩,hn,hl,b1,b2,h.ghl⟩;have:=(h.at_.lt b hp).1;omega
def oT.below (h:oT wB lo go ge n c A o es hb gh ln qn v w)(k:bY w.heap.size w w'):oT wB lo go ge n c A o es hb gh ln qn v w':=
 h.turn (bP.below k) (h.at_.below k) ⟨rfl,rfl,rfl⟩ h.nd λx hx=>j5 (h.lt x hx) k.size
def oT.tp (h:oT wB lo go ge n c A o es hb gh ln qn v w)(T:kS)(e:Nat):oT wB lo go ge n c A o es hb gh ln qn v (Tt.tp w T e):=⟨h.e.tp T e,h.at_.tp T e,h.mp,h.nd,h.lt,h.bh,h.nh,h.ghl⟩
theorem oT.mr (h:oT wB lo go ge n c A o es hb gh ln qn v w):fZ v ⟨mU o,ln,qn,[]⟩:=by
 obtain⟨h1,h2,h3⟩:=h.mp;refine⟨by simp_all,by rw[h2];exact Sf,by simp_all,λi g _=>?_,λc y hy=>?_,λc _ i x hx=>?_,λc y hy=>?_,λc _ i x hx=>?_⟩
 .rw[h1]
  refine⟨λx=>(by cases x),λ⟨j,x,hx,_⟩=>?_⟩;have hx:([]:List bV)[j]? =some x:=hx;simp at hx
 .rw[h2] at hy;cases hy
 .have hx:([]:List bV)[i]? =some x:=hx
  simp at hx
 .rw[h3] at hy;cases hy
 .have hx:([]:List bV)[i]? =some x:=hx
  simp at hx
end
def Y5:Go.Code:=.seq rRH11 (.seq (.cond (.tmp 39) .skip (.exit 2)) (.seq (.block 3 zcl) rRH13))
def zdn:Go.Code:=.seq rRH4 (.seq (.cond (.tmp 21) .skip (.exit 0)) (.seq (.block 1 (.seq rRH5 (.seq rRH6 (.cond (.tmp 28) (.seq rRH7 .ret) .skip)))) rRH8))
section
variable {Post:aF->aE->Prop}{Shun:Loc->Prop}{W0:aE}{St:Nat->Prop}{R0:Pr}{base:List dL}{wB:aE}{lo go ge n c hb gh:Nat}{A:Option bC}{o:fP}{es:List dQ}
abbrev rhC (Post:aF->aE->Prop)(Shun:Loc->Prop)(W0:aE)(St:Nat->Prop)(R0:Pr)(base:List dL)(K:Pr):Cx Unit:=Fv aK Cy fW Post Shun W0 St K R0 base
theorem rh_lines {kk:List dI}(h6:o.ln<=6)(K0:Pr)(zcx:∀K w v ln u0 u1 u4 u5 u6 u8 u9 gS gC gD gE gH gG u16 gZ kL kU jT iM iF iA gX iC hY iH iK iB jJ jL u32 iG iL iJ iE iN iD gY iY iU iP iZ jA iQ jC iW iV iO nF nL lF lG kI kV kY kP kZ kD j7 kF u64 kH j8 j9 kE lJ kW kM j6,K0.le K->oT wB lo go ge n c A o es hb gh ln [] v w->(ln.length:Int)=o.ln->BO (rhC Post Shun W0 St R0 base K) () ⟨42,#[u0,u1,.pointer (some ⟨go,0,none⟩),.pointer (some ⟨ge,0,none⟩),u4,u5,u6,.pointer (some ⟨gh,0,none⟩),u8,u9,gS,gC,gD,gE,gH,gG,u16,gZ,kL,kU,jT,iM,iF,iA,gX,iC,hY,iH,iK,iB,jJ,jL,u32,iG,iL,iJ,iE,.int .i64 o.ln,.int .i64 o.ln,iN,iD,gY,iY,iU,iP,iZ,jA,iQ,jC,iW,iV,iO,nF,nL,lF,lG,kI,kV,kY,kP,kZ,kD,j7,kF,u64,kH,j8,j9,kE,lJ,kW,kM,j6],kk,false⟩ w):
 ∀(m k:Nat),((k+m:Nat):Int)=o.ln->∀(K:Pr) (w:aE) (v:fH) (ln:List Nat) (u0 u1 u4 u5 u6 u8 u9 gS gC gD gE gH gG u16 gZ kL kU jT iM iF iA gX iC hY iH iK iB jJ jL u32 iG iL iJ iE iN iD gY iY iU iP iZ jA iQ jC iW iV iO nF nL lF lG kI kV kY kP kZ kD j7 kF u64 kH j8 j9 kE lJ kW kM j6:aF),K0.le K->oT wB lo go ge n c A o es hb gh ln [] v w->ln.length=k->BO (rhC Post Shun W0 St R0 base K) () ⟨42,#[u0,u1,.pointer (some ⟨go,0,none⟩),.pointer (some ⟨ge,0,none⟩),u4,u5,u6,.pointer (some ⟨gh,0,none⟩),u8,u9,gS,gC,gD,gE,gH,gG,u16,gZ,kL,kU,jT,iM,iF,iA,gX,iC,hY,iH,iK,iB,jJ,jL,u32,iG,iL,iJ,iE,.int .i64 o.ln,.int .i64 k,iN,iD,gY,iY,iU,iP,iZ,jA,iQ,jC,iW,iV,iO,nF,nL,lF,lG,kI,kV,kY,kP,kZ,kD,j7,kF,u64,kH,j8,j9,kE,lJ,kW,kM,j6],.code Y5:: .inLoop Y5:: .inBlock 2::kk,false⟩ w:=by
 intro m
 induction m with
 |zero=>
  intro k hk K w v ln u0 u1 u4 u5 u6 u8 u9 gS gC gD gE gH gG u16 gZ kL kU jT iM iF iA gX iC hY iH iK iB jJ jL u32 iG iL iJ iE iN iD gY iY iU iP iZ jA iQ jC iW iV iO nF nL lF lG kI kV kY kP kZ kD j7 kF u64 kH j8 j9 kE lJ kW kM j6 hK hR hl;have Ar:(k:Int)=o.ln:=by simpa using hk
  have H3:¬(k:Int)<o.ln:=aC;have HR:=aD hR;have HE:=aD Ar;clear hR hk Ar;unfold Y5;refine BO.seq dG ?_;refine BO.pV nO dG uI (λw1 T1 eD Q' dD=>?_);have jE:=aD (show oT wB lo go ge n c A o es hb gh ln [] v w1 by rw[eD];exact HR.o.tp T1 0);clear HR;clear eD;go_wp2;refine dD.o _ _ ?_;clear dD;refine BO.seq dG ?_;refine BO.cond dG (t:=false) rfl rfl ?_;refine BO.exit dG (k':=kk) rfl ?_;have Ar:=HE.o;rw[Ar];exact zcx K _ v ln _ _ _ _ _ _ _ _ _ _ _ _ _ _ _ _ _ _ _ _ _ _ _ _ _ _ _ _ _ _ _ _ _ _ _ _ _ _ _ _ _ _ _ _ _ _ _ _ _ _ _ _ _ _ _ _ _ _ _ _ _ _ _ _ _ _ _ _ hK jE.o aC
 |succ m ih=>
  intro k hk K w v ln u0 u1 u4 u5 u6 u8 u9 gS gC gD gE gH gG u16 gZ kL kU jT iM iF iA gX iC hY iH iK iB jJ jL u32 iG iL iJ iE iN iD gY iY iU iP iZ jA iQ jC iW iV iO nF nL lF lG kI kV kY kP kZ kD j7 kF u64 kH j8 j9 kE lJ kW kM j6 hK hR hl;have H3:(k:Int)<o.ln:=aC;have HR:=aD hR;have HK:=aD hk;clear hR hk;unfold Y5;refine BO.seq dG ?_;refine BO.pV nO dG uI (λw1 T1 eD Q' dD=>?_);have jE:=aD (show oT wB lo go ge n c A o es hb gh ln [] v w1 by rw[eD];exact HR.o.tp T1 0);clear HR;clear eD;go_wp2;refine dD.o _ _ ?_;clear dD;refine BO.seq dG ?_;refine BO.cond dG (t:=true) rfl rfl ?_;refine BO.skip dG ?_;refine BO.seq dG ?_;refine BO.block dG ?_;refine cw_RL (c:=⟨lo,hb,gh,0,0,v,w1,v,⟨mU o,ln,[],[]⟩⟩) (by show ln.length<=1000;omega) jE.o.nh rfl rfl (λvs C' l' w' uH hS=>?_) ⟨K,xH _,rfl,λ_=>⟨aI jE.o.at_.blk 3,jE.o.bh⟩,⟨jE.o.at_,bP.refl,jE.o.e.lo_⟩,jE.o.lt⟩;rw[Go.Mt.zO,zz2];simp only[Go.Mt.wV,dY,dX];obtain⟨K',hle,rfl,_,h4⟩:=hS;have s4:∃g,(∀x∈ln,x<g)/\g<w'.heap.size/\WH.RL2 ⟨lo,hb,gh,0,0,v,w1,v,⟨mU o,ln,[],[]⟩⟩ g w':=by
   rcases vs with _|⟨a,_|⟨b,_|⟨x,_|⟨y,vs⟩⟩⟩⟩
   .cases uH
   .cases uH
   .cases uH
   .cases uH
   .exact h4
  obtain⟨g,s2,s3,v2,a2,t2,mp⟩:=s4;have sN:K0.le K':=wH hK hle;have Lh:oT wB lo go ge n c A o es hb gh (ln++[g]) [] v2 w':=jE.o.turn t2 a2 mp (by
   rw[List.nodup_append];refine⟨jE.o.nd,List.nodup_cons.2 ⟨nM,Sf⟩,λa ha b b9=>?_⟩;obtain rfl:=yX.1 b9;have:=s2 a ha;omega) (λx hx=>by
   rcases List.mem_append.1 hx with hx|hx
   .exact zoa (s2 x hx) s3
   .obtain rfl:=yX.1 hx;exact s3)
  have jW:=aD Lh;clear Lh a2 t2 mp s2 h4 uH jE;refine BO.regEnd dG ?_;refine BO.inBlock dG ?_;refine BO.pV nO dG uI (λw2 T2 eZ Q' dD=>?_);have Mi:=aD (show oT wB lo go ge n c A o es hb gh (ln++[g]) [] v2 w2 by rw[eZ];exact jW.o.tp T2 0);clear jW;clear eZ;go_wp2;refine dD.o _ _ ?_;clear dD;refine BO.inLoop dG ?_;exact ih (k+1) (by have:=HK.o;omega) K' _ v2 (ln++[g]) _ _ _ _ _ _ _ _ _ _ _ _ _ _ _ _ _ _ _ _ _ _ _ _ _ _ _ _ _ _ _ _ _ _ _ _ _ _ _ _ _ _ _ _ _ _ _ _ _ _ _ _ _ _ _ _ _ _ _ _ _ _ _ _ _ _ _ _ sN Mi.o (by rw[jZ,hl];rfl)
end
section
variable {Post:aF->aE->Prop}{Shun:Loc->Prop}{W0:aE}{St:Nat->Prop}{R0:Pr}{base:List dL}{K:Pr}{wB:aE}{lo go ge n c:Nat}{A:Option bC}{o:fP}{es:List dQ}
theorem rh_valid {kk:List dI}(hop:1<=o.op/\o.op<=4)(zE6:n<=60)(By:es.length=n)
 (S6:∀(T:Array aF) todo w,T.getD 4 aA=.pointer none->oY wB lo go ge n c A o es w->es.all (qR o.op)=false->BO (rhC Post Shun W0 St R0 base K) () ⟨42,T,todo,true⟩ w)
 (zcx:∀w jT u0 u1 u5 u6 u7 u8 u9 gS gC gD gE gH gG u16 gZ iM iF iA gX iC hY iH iK iB jJ jL u32 iG iL iJ iE kJ kR iN iD gY iY iU iP iZ jA iQ jC iW iV iO nF nL lF lG kI kV kY kP kZ kD j7 kF u64 kH j8 j9 kE lJ kW kM j6,oY wB lo go ge n c A o es w->es.all (qR o.op)=true->BO (rhC Post Shun W0 St R0 base K) () ⟨42,#[u0,u1,.pointer (some ⟨go,0,none⟩),.pointer (some ⟨ge,0,none⟩),.pointer none,u5,u6,u7,u8,u9,gS,gC,gD,gE,gH,gG,u16,gZ,.slice A n c,.int .i64 n,jT,iM,iF,iA,gX,iC,hY,iH,iK,iB,jJ,jL,u32,iG,iL,iJ,iE,kJ,kR,iN,iD,gY,iY,iU,iP,iZ,jA,iQ,jC,iW,iV,iO,nF,nL,lF,lG,kI,kV,kY,kP,kZ,kD,j7,kF,u64,kH,j8,j9,kE,lJ,kW,kM,j6],kk,false⟩ w):
 ∀(m k:Nat),k+m=n->∀(w:aE) (u0 u1 u5 u6 u7 u8 u9 gS gC gD gE gH gG u16 gZ iM iF iA gX iC hY iH iK iB jJ jL u32 iG iL iJ iE kJ kR iN iD gY iY iU iP iZ jA iQ jC iW iV iO nF nL lF lG kI kV kY kP kZ kD j7 kF u64 kH j8 j9 kE lJ kW kM j6:aF),oY wB lo go ge n c A o es w->(∀j,j<k->∀b,es[j]? =some b->qR o.op b=true)->BO (rhC Post Shun W0 St R0 base K) () ⟨42,#[u0,u1,.pointer (some ⟨go,0,none⟩),.pointer (some ⟨ge,0,none⟩),.pointer none,u5,u6,u7,u8,u9,gS,gC,gD,gE,gH,gG,u16,gZ,.slice A n c,.int .i64 n,.int .i64 k,iM,iF,iA,gX,iC,hY,iH,iK,iB,jJ,jL,u32,iG,iL,iJ,iE,kJ,kR,iN,iD,gY,iY,iU,iP,iZ,jA,iQ,jC,iW,iV,iO,nF,nL,lF,lG,kI,kV,kY,kP,kZ,kD,j7,kF,u64,kH,j8,j9,kE,lJ,kW,kM,j6],.code zdn:: .inLoop zdn:: .inBlock 0::kk,false⟩ w:=by
 intro m
 induction m with
 |zero=>
  intro k hk w u0 u1 u5 u6 u7 u8 u9 gS gC gD gE gH gG u16 gZ iM iF iA gX iC hY iH iK iB jJ jL u32 iG iL iJ iE kJ kR iN iD gY iY iU iP iZ jA iQ jC iW iV iO nF nL lF lG kI kV kY kP kZ kD j7 kF u64 kH j8 j9 kE lJ kW kM j6 hE sY;have Ar:n=k:=aC;subst Ar;have H3:¬(n:Int)<(n:Int):=aC;have HE:=aD hE;have HA:=aD sY;have HN:=aD By;clear hE sY By hk;unfold zdn;refine BO.seq dG ?_;refine BO.pV nO dG uI (λw1 T1 eD Q' dD=>?_);have cN:=aD (show oY wB lo go ge n c A o es w1 by rw[eD];exact HE.o.tp T1 0);clear HE;clear eD;go_wp2;refine dD.o _ _ ?_;clear dD;refine BO.seq dG ?_;refine BO.cond dG (t:=false) rfl rfl ?_;refine BO.exit dG (k':=kk) rfl ?_;exact zcx _ _ _ _ _ _ _ _ _ _ _ _ _ _ _ _ _ _ _ _ _ _ _ _ _ _ _ _ _ _ _ _ _ _ _ _ _ _ _ _ _ _ _ _ _ _ _ _ _ _ _ _ _ _ _ _ _ _ _ _ _ _ _ _ _ _ _ _ _ cN.o (allF_of HA.o (by rw[HN.o];exact bL _))
 |succ m ih=>
  intro k hk w u0 u1 u5 u6 u7 u8 u9 gS gC gD gE gH gG u16 gZ iM iF iA gX iC hY iH iK iB jJ jL u32 iG iL iJ iE kJ kR iN iD gY iY iU iP iZ jA iQ jC iW iV iO nF nL lF lG kI kV kY kP kZ kD j7 kF u64 kH j8 j9 kE lJ kW kM j6 hE sY;have aU:k<n:=aC;have H3:(k:Int)<(n:Int):=aC;have i0:(0:Int)<=(k:Int):=aC;have HE:=aD hE;have HA:=aD sY;have HN:=aD By;have HK:=aD hk;clear hE sY By hk;unfold zdn;refine BO.seq dG ?_;refine BO.pV nO dG uI (λw1 T1 eD Q' dD=>?_);have cN:=aD (show oY wB lo go ge n c A o es w1 by rw[eD];exact HE.o.tp T1 0);clear HE;clear eD;go_wp2;refine dD.o _ _ ?_;clear dD;refine BO.seq dG ?_;refine BO.cond dG (t:=true) rfl rfl ?_;refine BO.skip dG ?_;refine BO.seq dG ?_;refine BO.block dG ?_;refine BO.seq dG ?_;obtain⟨be,oe,ev,hA,zzn,zgG,zkf,Gm,e0,e1,e2⟩:=cN.o.ev.eventsAt aU;subst hA;have Nh:=aD Gm;clear Gm;refine BO.pV nO dG uI (λw2 T2 eZ Q' dD=>?_);have n9:=aD (show oY wB lo go ge n c (some ⟨be,oe,none⟩) o es w2 by rw[eZ];exact cN.o.tp T2 0);have Yu:w2.cell? ⟨be,oe+k*3,none⟩=some (.string ev.k):=by rw[eZ];exact e0
  have Cv:w2.cell? ⟨be,oe+k*3+1,none⟩=some (.int .i64 ev.a):=by rw[eZ];exact e1
  have zbN:w2.cell? ⟨be,oe+k*3+2,none⟩=some (.int .i64 ev.b):=by rw[eZ];exact e2
  clear e0 e1 e2;clear cN;clear eZ;go_wp2;refine dD.o _ _ ?_;clear dD;clear Yu Cv zbN;obtain⟨gb,eU⟩:=aT w2.heap.size;obtain⟨w3,jB⟩:=aT (w2.alloc (.cells #[.string ev.k,.int .i64 ev.a,.int .i64 ev.b] 54));have vH:=aD (show oY wB lo go ge n c (some ⟨be,oe,none⟩) o es w3 by rw[jB];exact n9.o.below (eT (fK _ _) _));have vU:=aD (show w3.heap[gb]? =some (.cells #[.string ev.k,.int .i64 ev.a,.int .i64 ev.b] 54) by rw[jB,eU];exact gV _ _);rw[<-eU,<-jB];clear jB eU n9;refine BO.seq dG ?_
  cases hv:qR o.op ev with
  |true=>
   refine BO.pV nO dG uI (λw4 T3 lW Q' dD=>?_);have zdB:=aD (show oY wB lo go ge n c (some ⟨be,oe,none⟩) o es w4 by rw[lW];exact vH.o.tp T3 0);have g0:w4.cell? ⟨gb,0,none⟩=some (.string ev.k):=by rw[lW];exact aI vU.o 0
   have g1:w4.cell? ⟨gb,1,none⟩=some (.int .i64 ev.a):=by rw[lW];exact aI vU.o 1
   have g2:w4.cell? ⟨gb,2,none⟩=some (.int .i64 ev.b):=by rw[lW];exact aI vU.o 2
   have o1:w4.cell? ⟨go,1,none⟩=some (.int .i64 o.op):=by rw[lW];exact aI vH.o.bo 1
   have HV:=aD hv;clear vH vU hv;clear lW
   go_wp2_with ((go_at_call 52;refine(zxs ev o.op _ hop).mono ?_;rintro e w' ⟨rfl,lQ⟩))
   refine dD.o _ _ ?_;clear dD;clear g0 g1 g2 o1;have zcc:=aD (zdB.o.below lQ);clear lQ zdB;refine BO.cond dG (t:=false) rfl (by first|rfl|simp[wJ,HV.o]) ?_;refine BO.skip dG ?_;refine BO.inBlock dG ?_;refine BO.pV nO dG uI (λw6 T6 qE Q' dD=>?_);have znm:=aD (show oY wB lo go ge n c (some ⟨be,oe,none⟩) o es w6 by rw[qE];exact zcc.o.tp T6 0);clear zcc;clear qE;go_wp2;refine dD.o _ _ ?_;clear dD;refine BO.inLoop dG ?_;exact ih (k+1) (by have:=HK.o;omega) _ _ _ _ _ _ _ _ _ _ _ _ _ _ _ _ _ _ _ _ _ _ _ _ _ _ _ _ _ _ _ _ _ _ _ _ _ _ _ _ _ _ _ _ _ _ _ _ _ _ _ _ _ _ _ _ _ _ _ _ _ _ _ _ _ _ _ _ znm.o (zzi HA.o Nh.o HV.o)
  |false=>
   refine BO.pV nO dG uI (λw4 T3 lW Q' dD=>?_);have zdB:=aD (show oY wB lo go ge n c (some ⟨be,oe,none⟩) o es w4 by rw[lW];exact vH.o.tp T3 0);have g0:w4.cell? ⟨gb,0,none⟩=some (.string ev.k):=by rw[lW];exact aI vU.o 0
   have g1:w4.cell? ⟨gb,1,none⟩=some (.int .i64 ev.a):=by rw[lW];exact aI vU.o 1
   have g2:w4.cell? ⟨gb,2,none⟩=some (.int .i64 ev.b):=by rw[lW];exact aI vU.o 2
   have o1:w4.cell? ⟨go,1,none⟩=some (.int .i64 o.op):=by rw[lW];exact aI vH.o.bo 1
   have HV:=aD hv;clear vH vU hv;clear lW
   go_wp2_with ((go_at_call 52;refine(zxs ev o.op _ hop).mono ?_;rintro e w' ⟨rfl,lQ⟩))
   refine dD.o _ _ ?_;clear dD;clear g0 g1 g2 o1;have zcc:=aD (zdB.o.below lQ);clear lQ zdB;refine BO.cond dG (t:=true) rfl (by first|rfl|simp[wJ,HV.o]) ?_;refine BO.seq dG ?_;refine BO.pV nO dG uI (λw6 T6 qE Q' dD=>?_);have znm:=aD (show oY wB lo go ge n c (some ⟨be,oe,none⟩) o es w6 by rw[qE];exact zcc.o.tp T6 0);clear zcc;clear qE;go_wp2;refine dD.o _ _ ?_;clear dD;refine BO.ret dG ?_;exact S6 _ _ _ rfl znm.o (zGf Nh.o HV.o)
end
variable {w w':aE}
theorem Pk (h:w'.heap=w.heap)(ht:qS w):qS w':=by
 unfold qS zgg zgm at*;rw[h];exact ht
variable {lo:Nat}{w1:aE}
theorem Bw.of (h:qS w)(eF:w.heap.size<=lo)(hs:lo<=w1.heap.size)(k:∀b,b<w.heap.size->w1.heap[b]? =w.heap[b]?):Bw lo w1:=λw' hw=>by
 have hz:w.heap.size<=w'.heap.size:=by
  rcases rM w'.heap.size w.heap.size with h'|h'
  .have e1:=hw w'.heap.size aC
   rw[k _ h',Array.getElem?_eq_none (bL _),pK h'] at e1;cases e1
  .exact h'
 have hb:bY w.heap.size w {w' with os:=w.os,tape:=w.tape,output:=w.output}:=⟨rfl,rfl,rfl,hz,λb hb=>(hw b aC).trans (k b hb)⟩;exact Pk (w:={w' with os:=w.os,tape:=w.tape,output:=w.output}) rfl (zhK h _ hb)
def gU (s:Nat):fH:=⟨.slice none 0 0,.slice none 0 0,.slice none 0 0,.slice none 0 0,.slice none 0 0,.slice none 0 0,.slice none 0 0,s,s+1,s+2,[],[],[]⟩
variable {b:Nat}
def zwi {x:Obj}(h:w.heap[b]? =some x)(o:Obj):(w.alloc o).heap[b]? =some x:=(bY.heap_alloc w o b (dR.1 h).1).trans h
theorem hall_new (eF:lo<=w.heap.size)(o:fP)(w5:aE)(h5:w5=((((w.alloc (.map #[] 0)).alloc (.map #[] 0)).alloc (.map #[] 0)).alloc (Oa (gU w.heap.size) ⟨mU o,[],[],[]⟩)).alloc (.cells #[.pointer (some ⟨w.heap.size+3,0,none⟩)] 63)):
 bG w5 lo (w.heap.size+3) (gU w.heap.size) ⟨mU o,[],[],[]⟩/\w5.heap[w.heap.size+4]? =some (.cells #[.pointer (some ⟨w.heap.size+3,0,none⟩)] 63)/\some (w.heap.size+4)∉parts (gU w.heap.size) (w.heap.size+3)/\bY w.heap.size w w5:=by
 obtain⟨a1,Bu⟩:=aT (w.alloc (.map #[] 0));obtain⟨a2,zgR⟩:=aT (a1.alloc (.map #[] 0));obtain⟨a3,zah⟩:=aT (a2.alloc (.map #[] 0));obtain⟨a4,zab⟩:=aT (a3.alloc (Oa (gU w.heap.size) ⟨mU o,[],[],[]⟩));rw[<-Bu,<-zgR,<-zah,<-zab] at h5;have z1:a1.heap.size=w.heap.size+1:=by rw[Bu];exact vI _ _
 have z2:a2.heap.size=w.heap.size+2:=by simp_all
 have z3:a3.heap.size=w.heap.size+3:=by simp_all
 have z4:a4.heap.size=w.heap.size+4:=by simp_all
 have z5:w5.heap.size=w.heap.size+5:=by simp_all
 have k1:a1.heap[w.heap.size]? =some (.map #[] 0):=by rw[Bu];exact Ec _ _
 have k2:a2.heap[w.heap.size+1]? =some (.map #[] 0):=by rw[zgR,<-z1];exact Ec _ _
 have k3:a3.heap[w.heap.size+2]? =some (.map #[] 0):=by rw[zah,<-z2];exact Ec _ _
 have k4:a4.heap[w.heap.size+3]? =some (Oa (gU w.heap.size) ⟨mU o,[],[],[]⟩):=by rw[zab,<-z3];exact Ec _ _
 have k5:w5.heap[w.heap.size+4]? =some (.cells #[.pointer (some ⟨w.heap.size+3,0,none⟩)] 63):=by rw[h5,<-z4];exact Ec _ _
 have u:∀{x y:aE} {b:Nat} {ob q:Obj},y=x.alloc q->x.heap[b]? =some ob->y.heap[b]? =some ob:=λe h=>by rw[e];exact zwi h _
 have m1:w5.heap[w.heap.size]? =some (.map #[] 0):=u h5 (u zab (u zah (u zgR k1)));have m2:w5.heap[w.heap.size+1]? =some (.map #[] 0):=u h5 (u zab (u zah k2));have m3:w5.heap[w.heap.size+2]? =some (.map #[] 0):=u h5 (u zab k3);have m4:w5.heap[w.heap.size+3]? =some (Oa (gU w.heap.size) ⟨mU o,[],[],[]⟩):=u h5 k4;have pp:∀(i b:Nat),(parts (gU w.heap.size) (w.heap.size+3))[i]? =some (some b)->(i=0/\b=w.heap.size+3)\/(i=2/\b=w.heap.size)\/(i=3/\b=w.heap.size+1)\/(i=8/\b=w.heap.size+2):=λi b h=>by
  unfold parts gU at h;rcases i with _|_|_|_|_|_|_|_|_|_|_|i<;>simp[aF.ownBlock] at h<;>omega
 refine⟨⟨m4,⟨aC,eF,by show lo<=w.heap.size+1;omega,by show lo<=w.heap.size+2;omega⟩,⟨rfl,.inl ⟨rfl,rfl⟩⟩,⟨rfl,.inl ⟨rfl,rfl⟩⟩,⟨rfl,.inl ⟨rfl,rfl⟩⟩,⟨rfl,.inl ⟨rfl,rfl⟩⟩,⟨rfl,.inl ⟨rfl,rfl⟩⟩,⟨rfl,.inl ⟨rfl,rfl⟩⟩,⟨rfl,.inl ⟨rfl,rfl⟩⟩,⟨_,_,m1,rfl⟩,⟨_,_,m2,rfl⟩,⟨_,_,m3,rfl⟩,λi j b hi hj=>?_⟩,k5,λhp=>?_,?_⟩
 .have:=pp i b hi;have:=pp j b hj;omega
 .obtain⟨i,hi⟩:=List.mem_iff_getElem?.1 hp
  have:=pp i _ hi;omega
 .subst h5;subst zab;subst zah;subst zgR;subst Bu
  exact eT (eT (eT (eT (eT (fK _ _) _) _) _) _) _
def G9:Go.Code:=.seq (.seq zk8 (.block 4 (.loop (.seq zje (.seq (.cond (.tmp 54) .skip (.exit 4)) (.seq (.block 5 (.seq zcq (.seq Pu (.seq U9 Sp)))) zie)))))) (.seq V5 (.seq Yj (.seq Wk (.seq Rn .ret))))
section
variable {Post:aF->aE->Prop}{Shun:Loc->Prop}{W0:aE}{St:Nat->Prop}{R0:Pr}{base:List dL}{K:Pr}{wB:aE}{lo go ge n c:Nat}{A:Option bC}{o:fP}{es:List dQ}
theorem rh_made (Ge:mY o=true)(hgo:∀K' w v ln hb gh u0 u1 u4 u5 u6 u8 u9 gS gC gD gE gH gG u16 gZ kL kU jT iM iF iA gX iC hY iH iK iB jJ jL u32 iG iL iJ iE kJ kR iN iD gY iY iU iP iZ jA iQ jC iW iV iO nF nL lF lG kI kV kY kP kZ kD j7 kF u64 kH j8 j9 kE lJ kW kM j6,K.le K'->oT wB lo go ge n c A o es hb gh ln [] v w->(ln.length:Int)=o.ln->BO (rhC Post Shun W0 St R0 base K') () ⟨42,#[u0,u1,.pointer (some ⟨go,0,none⟩),.pointer (some ⟨ge,0,none⟩),u4,u5,u6,.pointer (some ⟨gh,0,none⟩),u8,u9,gS,gC,gD,gE,gH,gG,u16,gZ,kL,kU,jT,iM,iF,iA,gX,iC,hY,iH,iK,iB,jJ,jL,u32,iG,iL,iJ,iE,kJ,kR,iN,iD,gY,iY,iU,iP,iZ,jA,iQ,jC,iW,iV,iO,nF,nL,lF,lG,kI,kV,kY,kP,kZ,kD,j7,kF,u64,kH,j8,j9,kE,lJ,kW,kM,j6],[.code (.seq N4 G9)],false⟩ w){w:aE}{u0 u1 u5 u6 u7 u8 u9 gS gC gD gE gH gG u16 gZ kL kU jT iM iF iA gX iC hY iH iK iB jJ jL u32 iG iL iJ iE kJ kR iN iD gY iY iU iP iZ jA iQ jC iW iV iO nF nL lF lG kI kV kY kP kZ kD j7 kF u64 kH j8 j9 kE lJ kW kM j6:aF}(hE:oY wB lo go ge n c A o es w):
 BO (rhC Post Shun W0 St R0 base K) () ⟨42,#[u0,u1,.pointer (some ⟨go,0,none⟩),.pointer (some ⟨ge,0,none⟩),.pointer none,u5,u6,u7,u8,u9,gS,gC,gD,gE,gH,gG,u16,gZ,kL,kU,jT,iM,iF,iA,gX,iC,hY,iH,iK,iB,jJ,jL,u32,iG,iL,iJ,iE,kJ,kR,iN,iD,gY,iY,iU,iP,iZ,jA,iQ,jC,iW,iV,iO,nF,nL,lF,lG,kI,kV,kY,kP,kZ,kD,j7,kF,u64,kH,j8,j9,kE,lJ,kW,kM,j6],[.code (.seq rRH9 (.seq (.seq zih (.block 2 (.loop Y5))) (.seq N4 G9)))],false⟩ w:=by
 have sU:=Ge;have HE:=aD hE;have HO:=aD Ge;clear hE Ge sU;refine BO.seq dG ?_;refine BO.pV nO dG uI (λw1 T1 eD Q' dD=>?_);have cN:=aD (show oY wB lo go ge n c A o es w1 by rw[eD];exact HE.o.tp T1 0);clear HE;have g0:w1.cell? ⟨go,0,none⟩=some (.int .i64 o.ln):=aI cN.o.bo 0;have g1:w1.cell? ⟨go,1,none⟩=some (.int .i64 o.op):=aI cN.o.bo 1;have g2:w1.cell? ⟨go,2,none⟩=some (.int .i64 o.pt):=aI cN.o.bo 2;have zay:=@run_makeMap aK;clear eD;go_wp2;refine dD.o _ _ ?_;clear dD;clear g0 g1 g2 zay;obtain⟨w5,mV⟩:=aT (((((w1.alloc (.map #[] 0)).alloc (.map #[] 0)).alloc (.map #[] 0)).alloc (Oa (gU w1.heap.size) ⟨mU o,[],[],[]⟩)).alloc (.cells #[.pointer (some ⟨w1.heap.size+3,0,none⟩)] 63));obtain⟨n1,n2,n3,n4⟩:=hall_new cN.o.lo_ o w5 mV;have HR:=aD (show oT wB lo go ge n c A o es (w1.heap.size+3) (w1.heap.size+4) [] [] (gU w1.heap.size) w5 from⟨cN.o.below n4,n1,⟨rfl,rfl,rfl⟩,Sf,(λx hx=>by cases hx),n2,n3,(by have:=cN.o.lo_;omega)⟩);clear n1 n2 n3 n4;simp only[Nat.add_assoc,Nat.reduceAdd];have qE:=mV;simp only[Oa,hallA,gU,mU] at qE;rw[<-qE];clear mV qE cN;refine BO.seq dG ?_;refine BO.seq dG ?_;generalize w1.heap.size+3=hb at HR⊢;generalize w1.heap.size+4=gh at HR⊢;generalize gU w1.heap.size=v at HR;refine BO.pV nO dG uI (λw6 T2 qE Q' dD=>?_);have jE:=aD (show oT wB lo go ge n c A o es hb gh [] [] v w6 by rw[qE];exact HR.o.tp T2 0);clear HR;have g0:w6.cell? ⟨go,0,none⟩=some (.int .i64 o.ln):=aI jE.o.e.bo 0;clear qE;go_wp2;refine dD.o _ _ ?_;clear dD;clear g0;refine BO.block dG ?_;refine BO.loop dG ?_;have sU:=HO.o;unfold mY at sU;have sU:=of_decide_eq_true sU;refine rh_lines (wB:=wB) sU.2.1 K (λK' w' v' ln u0 u1 u4 u5 u6 u8 u9 gS gC gD gE gH gG u16 gZ kL kU jT iM iF iA gX iC hY iH iK iB jJ jL u32 iG iL iJ iE iN iD gY iY iU iP iZ jA iQ jC iW iV iO nF nL lF lG kI kV kY kP kZ kD j7 kF u64 kH j8 j9 kE lJ kW kM j6 hK hR hl=>?_) o.ln.toNat 0 aC K w6 v [] _ _ _ _ _ _ _ _ _ _ _ _ _ _ _ _ _ _ _ _ _ _ _ _ _ _ _ _ _ _ _ _ _ _ _ _ _ _ _ _ _ _ _ _ _ _ _ _ _ _ _ _ _ _ _ _ _ _ _ _ _ _ _ _ _ _ _ _ (xH _) jE.o rfl;exact hgo K' w' v' ln hb gh _ _ _ _ _ _ _ _ _ _ _ _ _ _ _ _ _ _ _ _ _ _ _ _ _ _ _ _ _ _ _ _ _ _ _ _ _ _ _ _ _ _ _ _ _ _ _ _ _ _ _ _ _ _ _ _ _ _ _ _ _ _ _ _ _ _ _ _ _ _ hK hR hl
end
def OldB (w w':aE):Prop:=w.heap.size<=w'.heap.size/\∀b,b<w.heap.size->w'.heap[b]? =w.heap[b]?
variable {wB:aE}{ge:Nat}{A:Option bC}{o:fP}{es:List dQ}
def oY.oldB {go n c:Nat}(h:oY wB lo go ge n c A o es w1)(eF:w.heap.size<=lo)(k:∀b,b<w.heap.size->wB.heap[b]? =w.heap[b]?):OldB w w1:=
 ⟨eG eF h.lo_,λb hb=>(h.old b (j5 hb eF)).trans (k b hb)⟩
section
variable {Post:aF->aE->Prop}{Shun:Loc->Prop}{W0:aE}{St:Nat->Prop}{R0:Pr}{base:List dL}{K:Pr}{n c:Nat}{A:Option bC}{o:fP}{es:List dQ}
theorem rh_start {w:aE}(Dz:cE w 0 w.heap.size 3 A n c (pA es))(hn:n<=1048576)(zsz:qS w)
 (S6:∀(T:Array aF) todo w',T.getD 4 aA=.pointer none->OldB w w'->eM o es=false->BO (rhC Post Shun W0 St R0 base K) () ⟨42,T,todo,true⟩ w')
 (hgo:∀wB lo go ge K' w' v ln hb gh u0 u1 u4 u5 u6 u8 u9 gS gC gD gE gH gG u16 gZ kL kU jT iM iF iA gX iC hY iH iK iB jJ jL u32 iG iL iJ iE kJ kR iN iD gY iY iU iP iZ jA iQ jC iW iV iO nF nL lF lG kI kV kY kP kZ kD j7 kF u64 kH j8 j9 kE lJ kW kM j6,K.le K'->eM o es=true->w.heap.size<=lo->w.heap.size<=go->w.heap.size<=ge->(∀b,b<w.heap.size->wB.heap[b]? =w.heap[b]?)->oT wB lo go ge n c A o es hb gh ln [] v w'->(ln.length:Int)=o.ln->BO (rhC Post Shun W0 St R0 base K') () ⟨42,#[u0,u1,.pointer (some ⟨go,0,none⟩),.pointer (some ⟨ge,0,none⟩),u4,u5,u6,.pointer (some ⟨gh,0,none⟩),u8,u9,gS,gC,gD,gE,gH,gG,u16,gZ,kL,kU,jT,iM,iF,iA,gX,iC,hY,iH,iK,iB,jJ,jL,u32,iG,iL,iJ,iE,kJ,kR,iN,iD,gY,iY,iU,iP,iZ,jA,iQ,jC,iW,iV,iO,nF,nL,lF,lG,kI,kV,kY,kP,kZ,kD,j7,kF,u64,kH,j8,j9,kE,lJ,kW,kM,j6],[.code (.seq N4 G9)],false⟩ w'):
 BO (rhC Post Shun W0 St R0 base K) () ⟨42,#[.agg #[.int .i64 o.ln,.int .i64 o.op,.int .i64 o.pt],.slice A n c,aA,aA,aA,aA,aA,aA,aA,aA,aA,aA,aA,aA,aA,aA,aA,aA,aA,aA,aA,aA,aA,aA,aA,aA,aA,aA,aA,aA,aA,aA,aA,aA,aA,aA,aA,aA,aA,aA,aA,aA,aA,aA,aA,aA,aA,aA,aA,aA,aA,aA,aA,aA,aA,aA,aA,aA,aA,aA,aA,aA,aA,aA,aA,aA,aA,aA,aA,aA,aA,aA,aA],[.code oU],false⟩ w:=by
 have By:es.length=n:=Dz.eventsLen;have HS:=aD Dz;have HT:=aD zsz;have HN:=aD By;have HB:=aD hn;clear Dz zsz By hn;rw[show oU=.seq rRH0 (.seq (.seq rRH1 (.cond (.tmp 17) (.seq rRH2 .ret) .skip)) (.seq (.seq rRH3 (.block 0 (.loop zdn))) (.seq rRH9 (.seq (.seq zih (.block 2 (.loop Y5))) (.seq N4 G9))))) from zAV];refine BO.seq dG ?_;refine BO.pV nO dG uI (λw1 T1 eD Q' dD=>?_);have Dg:=aD (show OldB w w1 by rw[eD];exact⟨bL _,λ_ _=>rfl⟩);have dS:w1.heap.size=w.heap.size:=by rw[eD];rfl
 clear eD;go_wp2;refine dD.o _ _ ?_;clear dD;obtain⟨wB,zaa⟩:=aT ((w1.alloc (.cells #[.int .i64 o.ln,.int .i64 o.op,.int .i64 o.pt] 29)).alloc (.cells #[.slice A n c] 31));have z0:(w1.alloc (.cells #[.int .i64 o.ln,.int .i64 o.op,.int .i64 o.pt] 29)).heap.size=w.heap.size+1:=by rw[vI,dS]
 have z1:wB.heap.size=w.heap.size+2:=by rw[zaa,vI,z0]
 have kB:∀b,b<w.heap.size->wB.heap[b]? =w.heap[b]? :=λb hb=>by
  rw[zaa,Cs aC,Cs aC];exact Dg.o.2 b hb
 have HE:=aD (show oY wB (w.heap.size+2) w.heap.size (w.heap.size+1) n c A o es wB from⟨aC,Bw.of HT.o aC aC kB,(HS.o.keep aC λb _ q _=>kB b q).wide (bL _) aC,aC,aC,by
  rw[zaa,<-dS];exact zwi (Ec _ _) _,by rw[zaa,<-z0];exact Ec _ _,λ_ _=>rfl⟩)
 simp only[dS];rw[<-zaa];have HK:=aD kB;clear zaa z0 z1 dS kB Dg;have eF:w.heap.size<=w.heap.size+2:=aC;have zIc:w.heap.size<w.heap.size+2:=aC;generalize zgG:w.heap.size+2=lo at HE eF zIc⊢;generalize zcS:w.heap.size=go at HE⊢;generalize zCi:w.heap.size+1=ge at HE⊢;refine BO.seq dG ?_;refine BO.seq dG ?_;have zyu:ge=go+1:=aC;have zK9:go<=ge:=aC;rw[<-zyu] at HE⊢;clear zCi zyu;by_cases hv:mY o=true
 .by_cases zaK:n<=60
  .have zBO:¬(60:Int)<(n:Int):=aC
   refine BO.pV nO dG uI (λw1 T1 eD Q' dD=>?_);have cN:=aD (show oY wB lo go ge n c A o es w1 by rw[eD];exact HE.o.tp T1 0);have g0:w1.cell? ⟨go,0,none⟩=some (.int .i64 o.ln):=aI cN.o.bo 0;have g1:w1.cell? ⟨go,1,none⟩=some (.int .i64 o.op):=aI cN.o.bo 1;have g2:w1.cell? ⟨go,2,none⟩=some (.int .i64 o.pt):=aI cN.o.bo 2;have g3:w1.cell? ⟨ge,0,none⟩=some (.slice A n c):=aI cN.o.be 0;have HV:=aD hv;clear HE hv;clear eD
   go_wp2_with ((go_at_call 33;refine(Y8 o _).mono ?_;rintro e w' ⟨rfl,lQ⟩;have g4:w'.cell? ⟨ge,0,none⟩=some (.slice A n c):=aI (cN.o.below lQ).be 0;rw[HV.o]))
   refine dD.o _ _ ?_;clear dD;clear g0 g1 g2 g3 g4;have n9:=aD (cN.o.below lQ);clear lQ cN;refine BO.cond dG (t:=false) rfl (show N1 (decide ((60:Int)<(n:Int)))=.bool false by grind) ?_;refine BO.skip dG ?_;refine BO.seq dG ?_;refine BO.seq dG ?_;refine BO.pV nO dG uI (λw3 T3 jB Q' dD=>?_);have vH:=aD (show oY wB lo go ge n c A o es w3 by rw[jB];exact n9.o.tp T3 0);have g3:w3.cell? ⟨ge,0,none⟩=some (.slice A n c):=aI vH.o.be 0;clear n9;clear jB;go_wp2;refine dD.o _ _ ?_;clear dD;clear g3;refine BO.block dG ?_;refine BO.loop dG ?_;have sU:=HV.o;unfold mY at sU;have sU:=of_decide_eq_true sU;refine rh_valid (wB:=wB) (lo:=lo) ⟨sU.2.2.1,sU.2.2.2.1⟩ zaK HN.o (λT todo w2 hT zkU zkD=>?_) (λw2 jT u0 u1 u5 u6 u7 u8 u9 gS gC gD gE gH gG u16 gZ iM iF iA gX iC hY iH iK iB jJ jL u32 iG iL iJ iE kJ kR iN iD gY iY iU iP iZ jA iQ jC iW iV iO nF nL lF lG kI kV kY kP kZ kD j7 kF u64 kH j8 j9 kE lJ kW kM j6 zkU zkD=>?_) n 0 aC w3 _ _ _ _ _ _ _ _ _ _ _ _ _ _ _ _ _ _ _ _ _ _ _ _ _ _ _ _ _ _ _ _ _ _ _ _ _ _ _ _ _ _ _ _ _ _ _ _ _ _ _ _ _ _ _ _ _ _ _ _ _ _ _ _ _ _ _ vH.o (λj hj=>by omega)
   .refine S6 T todo w2 hT (zkU.oldB (zcS▸eF) (λb hb=>HK.o b (zcS▸hb))) ?_
    unfold eM;rw[zkD,Bool.and_false]
   .refine rh_made HV.o (λK' w' v ln hb gh u0 u1 u4 u5 u6 u8 u9 gS gC gD gE gH gG u16 gZ kL kU jT iM iF iA gX iC hY iH iK iB jJ jL u32 iG iL iJ iE kJ kR iN iD gY iY iU iP iZ jA iQ jC iW iV iO nF nL lF lG kI kV kY kP kZ kD j7 kF u64 kH j8 j9 kE lJ kW kM j6 hK hR hl=>hgo wB lo go ge K' w' v ln hb gh _ _ _ _ _ _ _ _ _ _ _ _ _ _ _ _ _ _ _ _ _ _ _ _ _ _ _ _ _ _ _ _ _ _ _ _ _ _ _ _ _ _ _ _ _ _ _ _ _ _ _ _ _ _ _ _ _ _ _ _ _ _ _ _ _ _ _ _ _ _ hK ?_ (zcS▸eF) aC aC (λb hb=>HK.o b (zcS▸hb)) hR hl) zkU
    unfold eM;rw[HV.o,zkD,HN.o];simp[zaK]
  .have zBO:(60:Int)<(n:Int):=aC
   have fQ:eM o es=false:=by
    unfold eM;rw[HN.o];simp[zaK]
   refine BO.pV nO dG uI (λw1 T1 eD Q' dD=>?_);have cN:=aD (show oY wB lo go ge n c A o es w1 by rw[eD];exact HE.o.tp T1 0);have g0:w1.cell? ⟨go,0,none⟩=some (.int .i64 o.ln):=aI cN.o.bo 0;have g1:w1.cell? ⟨go,1,none⟩=some (.int .i64 o.op):=aI cN.o.bo 1;have g2:w1.cell? ⟨go,2,none⟩=some (.int .i64 o.pt):=aI cN.o.bo 2;have g3:w1.cell? ⟨ge,0,none⟩=some (.slice A n c):=aI cN.o.be 0;have HV:=aD hv;clear HE hv;clear eD
   go_wp2_with ((go_at_call 33;refine(Y8 o _).mono ?_;rintro e w' ⟨rfl,lQ⟩;have g4:w'.cell? ⟨ge,0,none⟩=some (.slice A n c):=aI (cN.o.below lQ).be 0;rw[HV.o]))
   refine dD.o _ _ ?_;clear dD;clear g0 g1 g2 g3 g4;have n9:=aD (cN.o.below lQ);clear lQ cN;refine BO.cond dG (t:=true) rfl rfl ?_;refine BO.seq dG ?_;refine BO.pV nO dG uI (λw3 T3 jB Q' dD=>?_);have vH:=aD (show oY wB lo go ge n c A o es w3 by rw[jB];exact n9.o.tp T3 0);clear n9;clear jB;go_wp2;refine dD.o _ _ ?_;clear dD;refine BO.ret dG ?_;exact S6 _ _ _ rfl zxI fQ
 .have fQ:eM o es=false:=by
   unfold eM;simp[hv]
  have hv:mY o=false:=by simpa using hv
  refine BO.pV nO dG uI (λw1 T1 eD Q' dD=>?_);have cN:=aD (show oY wB lo go ge n c A o es w1 by rw[eD];exact HE.o.tp T1 0);have g0:w1.cell? ⟨go,0,none⟩=some (.int .i64 o.ln):=aI cN.o.bo 0;have g1:w1.cell? ⟨go,1,none⟩=some (.int .i64 o.op):=aI cN.o.bo 1;have g2:w1.cell? ⟨go,2,none⟩=some (.int .i64 o.pt):=aI cN.o.bo 2;have g3:w1.cell? ⟨ge,0,none⟩=some (.slice A n c):=aI cN.o.be 0;have HV:=aD hv;clear HE hv;clear eD
  go_wp2_with ((go_at_call 33;refine(Y8 o _).mono ?_;rintro e w' ⟨rfl,lQ⟩;have g4:w'.cell? ⟨ge,0,none⟩=some (.slice A n c):=aI (cN.o.below lQ).be 0;rw[HV.o]))
  refine dD.o _ _ ?_;clear dD;clear g0 g1 g2 g3 g4;have n9:=aD (cN.o.below lQ);clear lQ cN;refine BO.cond dG (t:=true) rfl rfl ?_;refine BO.seq dG ?_;refine BO.pV nO dG uI (λw3 T3 jB Q' dD=>?_);have vH:=aD (show oY wB lo go ge n c A o es w3 by rw[jB];exact n9.o.tp T3 0);clear n9;clear jB;go_wp2;refine dD.o _ _ ?_;clear dD;refine BO.ret dG ?_;exact S6 _ _ _ rfl zxI fQ
end
def xT:Nat->Bool:=λa=>Ba aK a
def xQ (gq:Nat):Nat->Bool:=λa=>a==gq||Ba aK a
def Kt (w00:aE)(K R:Pr)(St eJ:Nat->Prop)(Fz:Nat->Prop)(Wf:aE)(Xa:Nat->Prop):Prop:=
 ∀(K' R':Pr) (wn Wn:aE),K.le K'->R.le R'->dB (SF fW) K' R' (o9 aK) eJ wn Wn->(∀b,Fz b->Wn.heap[b]? =Wf.heap[b]?)->
  ∃Xs,dB (SF fW) K' R' (o9 aK) St Xs Wn/\Xs.heap.size=wn.heap.size/\(∀a,¬Xa a->Xs.heap[a]? =wn.heap[a]?)/\∀a,xT a=true->Xs.heap[a]? =w00.heap[a]?
variable {K R:Pr}
theorem Kt.first {W:aE}{St:Nat->Prop}(hw:dB (SF fW) K R (o9 aK) St w W)(hx:XOk R xT w):Kt w K R St (λa=>St a\/xT a=true) (G7 R St xT) W (λa=>xT a=true):=λK' R' wn Wn hK hR hn oH=>by
 have h1:=zut (St':=λa=>St a\/xT a=true) hw hx hR hK hn (λa h=>.inl h) (λa b zdd qV=>oH b ⟨a,qV,.inr zdd⟩);refine⟨_,h1,zeS _ _ _,λa ha=>Vr (by simpa using ha),λa ha=>?_⟩;obtain⟨b,hb⟩:=hx.dom a ha;obtain⟨c,T,fz,hc⟩:=hx.cells a ha;rw[zhd ha (hn.lt a b (.inl (hR _ _ hb))).1 hc,hc]
theorem Kt.step {w00 w W Wf:aE}{K R K2 R2:Pr}{St eJ Fz Xa:Nat->Prop}{X:Nat->Bool}(h:Kt w00 K R St eJ Fz Wf Xa)(hK:K.le K2)(hR:R.le R2)(hw:dB (SF fW) K2 R2 (o9 aK) eJ w W)(hx:XOk R2 X w)(hF:∀b,Fz b->W.heap[b]? =Wf.heap[b]? /\∃a,R2 a b/\eJ a):
 Kt w00 K2 R2 St (λa=>eJ a\/X a=true) (G7 R2 eJ X) W (λa=>Xa a\/X a=true):=λK' R' wn Wn sN zus hn oH=>by
 have h1:=zut (St':=λa=>eJ a\/X a=true) hw hx zus sN hn (λa h=>.inl h) (λa b zdd qV=>oH b ⟨a,qV,.inr zdd⟩)
 obtain⟨Xs,k1,k2,k3,k4⟩:=h K' R' _ Wn (wH hK sN) (hR.trans zus) h1 (λb hb=>by
  obtain⟨e,a,x,y⟩:=hF b hb;exact(oH b ⟨a,x,.inl y⟩).trans e)
 refine⟨Xs,k1,k2.trans (zeS _ _ _),λa ha=>?_,k4⟩;rw[k3 a (λx=>ha (.inl x)),Vr uU]
variable {X:Nat->Bool}
theorem frX_same (h:X b=true->∃c T hi,w.heap[b]? =some (.cells c T (0,hi))/\c.size<=hi):(vO X w).heap[b]? =w.heap[b]? :=by
 cases e:X b with
 |false=>exact Nu e
 |true=>
  obtain⟨c,T,hi,h1,h2⟩:=h e;rw[Uy e h1,h1];simp only[Nat.max_eq_right h2]
theorem frX_cell {o:Nat}{v:aF}(hc:X b=true->∃c T fz,w.heap[b]? =some (.cells c T fz))(h:w.cell? ⟨b,o,none⟩=some v):(vO X w).cell? ⟨b,o,none⟩=some v:=by
 cases e:X b with
 |false=>exact(aE.cell?_of_block (a:=⟨b,o,none⟩) (Nu e)).trans h
 |true=>
  obtain⟨c,T,fz,hc⟩:=hc e;have e1:w.cell? ⟨b,o,none⟩=c[o]? :=by simp[lU,hc]
  have e2:(vO X w).cell? ⟨b,o,none⟩=c[o]? :=by simp[lU,Uy e hc]
  rw[e2,<-e1];exact h
def zEx:((aK.globalNamed "internal/strconv.uint64pow10").map λg=>Ba aK g)=some true:=aP
theorem tabW_fr (h:qS w)(hx:∀a,xT a=true->X a=true)(hc:∀a,xT a=true->∃c T fz,w.heap[a]? =some (.cells c T fz))(hw:∀a,xT a=true->w'.heap[a]? =(vO X w).heap[a]?):qS w':=by
 obtain⟨g,hg,bM⟩:=Aa.1 zEx;obtain⟨c,T,fz,H0⟩:=hc g bM;unfold qS zgg zgm at*;rw[hg] at h⊢;simp only[uF] at h⊢;rw[H0] at h;rw[hw g bM,Uy (hx g bM) H0];exact h
variable {v:fH}{ln qn:List Nat}
theorem oT.frT {go n c hb gh lo0:Nat}(h:oT wB lo go ge n c A o es hb gh ln qn v w)(hgo:lo0<=go)(Df:lo0<=ge)(eF:lo0<=lo)(ht:∀a,xT a=true->a<lo0)(hc:∀a,xT a=true->∃c T fz,w.heap[a]? =some (.cells c T fz)):oT (vO xT w) lo go ge n c A o es hb gh ln qn v (vO xT w):=by
 have out:∀b,lo0<=b->(vO xT w).heap[b]? =w.heap[b]? :=λb hb=>Nu (by
  cases e:xT b with
  |false=>rfl
  |true=>have:=ht b e;omega)
 have nT:xT gh=false:=by
  cases e:xT gh with
  |false=>rfl
  |true=>have:=ht gh e;have:=h.ghl;omega
 refine⟨⟨by rw[U5];exact h.e.lo_,λw' hw=>tabW_fr h.e.tab.at_ (λa h=>h) hc λa ha=>hw a (j5 (ht a ha) eF),?_,h.e.gol,h.e.gel,(out _ hgo).trans h.e.bo,(out _ Df).trans h.e.be,λ_ _=>rfl⟩,h.at_.keep λb hb hp=>out b (by have:=(h.at_.lt b hp).1;omega),h.mp,h.nd,λx hx=>by rw[U5];exact h.lt x hx,(Nu nT).trans h.bh,h.nh,h.ghl⟩;refine⟨h.e.ev.len,h.e.ev.le,h.e.ev.cap,λhn=>?_⟩;obtain⟨b,off,e,h1,h2,h3,h4⟩:=h.e.ev.at_ hn;exact⟨b,off,e,h1,h2,by rw[U5];exact h3,λj v hv=>frX_cell (λx=>hc b x) (h4 j v hv)⟩
variable {gq a:Nat}
theorem zby (h:xQ gq a=true):a=gq\/xT a=true:=by
 unfold xQ at h;simp only[C4,beq_iff_eq] at h;exact h
theorem xQ_q (gq:Nat):xQ gq gq=true:=by simp[xQ]
theorem xQ_t (h:xT a=true):xQ gq a=true:=by
 unfold xQ xT at*;rw[h,Bool.or_true]
theorem op_tmps (a b:aF):(#[]++ #[a,b])++nK ((znt).ntmps-(#[]++ #[a,b]:Array aF).size) aA=(#[a,b,aA,aA]:Array aF):=by
 have e:(znt).ntmps=4:=rfl;rw[e];have e:(#[]++ #[a,b]:Array aF).size=2:=aQ;rw[e];apply Jb;simp only[P3,zbv];rfl
def zK (w:aE):Prop:=∀g,xT g=true->∃c T fz,w.heap[g]? =some (.cells c T fz)/\∀v∈c,wW v
variable {τ:cI}{Wr:aE}{gt t:Array aF}
theorem op_born {Wg N:Nat}{W:List fC}{D:aE->Prop}{Fin:bF->aE->Prop}{eJ:Nat->Prop}{gc m:Nat}(hw:dB (SF fW) K R (o9 aK) eJ w Wr)(hx:XOk R (xQ gq) w)(zdh:K gc a)(fQ:∀b,¬R b a)
 (hq:w.heap[gq]? =some (.cells #[.chan (some gc)] 95)) (tG:zK w) (ha:bO (SF fW) K R gt t) (zDQ:gt[9]? =some (.pointer (some ⟨gq,0,none⟩))) (h8:t.getD 8 aA=.pointer (some ⟨Wg,0,none⟩)) (zy0:Wg<Wr.heap.size) (zDc:∀a b,R a b->b≠Wg) (nU:WgLive sK.tWg Wg Wr):
 cG aK sK.tWg Wg (Cr N W D) Fin false (.usr (.op a 0 m)) 0 (Yb τ R (xQ gq)) (born aK {target:=.fn (.func 54) #[t.getD 8 aA,t.getD 9 aA],args:=#[]}) Wr:=by
 refine Nk rfl rfl (λaZ s=>zx0 (c:=Wt) zxl aH rfl aZ) λaZ s=>?_;have Co:∀b,¬R gc b:=λb x=>by
  obtain rfl:=hw.inj gc b a (.inl x) (.inr zdh);exact fQ _ x
 have nE:∀a c T fz,xQ gq a=true->w.heap[a]? =some (.cells c T fz)->∀v∈c,xC (λa=>xQ gq a=true) (λa=>a=gc) v:=λa c T fz zdd hc v hv=>by
  rcases zby zdd with rfl|zoN
  .rw[hq] at hc
   injection hc with hc;injection hc with e1 _ _;subst e1;obtain rfl:=by simpa using hv
   exact .chan λx e=>by cases e;rfl
  .obtain⟨c',T',J7,h1,h2⟩:=tG a zoN
   rw[hc] at h1;injection h1 with h1;injection h1 with e1 _ _;subst e1;exact(h2 v hv).inX
 have hrel:=reX_rel hw hx (λg hg=>xQ_t hg) (KD:=λa=>a=gc) nE (λa b x e=>absurd (e▸x) (Co b));have ztT:wE (Yb τ R (xQ gq)) (rX R (xQ gq)) (λa=>xQ gq a=true):=zF3;have hv:(reX (xQ gq) w).cell? ⟨gq,0,none⟩=some (.chan (some gc)):=by
  simp[lU,zgN (xQ_q gq) hq]
 have hB:=zFu (Wg:=Wg) (N:=N) (W:=W) (D:=D) (Fin:=Fin) (St:=λa=>xQ gq a=true) (gc:=gc) (gv:=gq) (c:=a) (K:=kX K (λa=>a=gc)) ⟨zdh,rfl⟩ m hv;have U1:=Cx.Rel.suf (C:=fS Wg N W D Fin (λa=>xQ gq a=true) (kX K (λa=>a=gc)) (λ_=>True) [wQ aK] ⟨[],.deferred,aQ⟩ [(0,.pointer (some ⟨Wg,0,none⟩))]) hrel ztT s;have sN:∀a b,R.or K a b->a=gc->(rX R (xQ gq)).or (kX K (λa=>a=gc)) a b:=λa b x e=>by
  rcases x with x|x
  .exact absurd (e▸x) (Co b)
  .exact .inr ⟨x,e⟩
 have p9:VR (SF fW) (kX K (λa=>a=gc)) (rX R (xQ gq)) (.pointer (some ⟨gq,0,none⟩)) (t.getD 9 aA):=by
  have h1:=ha.getD 9 (yA (S:=SF fW) (K:=K) (R:=R));rw[sZ,zDQ] at h1;exact xC.vr h1 (λp q y z=>⟨y,z⟩) sN (.pointer λx e=>by cases e;exact xQ_q gq)
 rw[h8];generalize t.getD 9 aA=t9 at*;rw[op_tmps];have vu:=yA (S:=SF fW) (K:=kX K (λa=>a=gc)) (R:=rX R (xQ gq));have hj:∀x,Tt.HidV x->VR (SF fW) (kX K (λa=>a=gc)) (rX R (xQ gq)) .nilFunc x:=λx h=>.junk h;have:=hB (rX R (xQ gq)) aZ ⟨54,#[.pointer (some ⟨Wg,0,none⟩),t9,aA,aA],[.code Wt],false⟩ (Yb τ R (xQ gq)) U1 ⟨rfl,rfl,rfl,?_,λx hx=>?_⟩ ztT ⟨⟨⟨λa b x=>zDc a b x.1,by have:=s.size;omega⟩,s.live nU⟩,trivial⟩
 .exact this
 .exact zsk (.cons (hj _ X3) (.cons p9 (.cons vu (.cons vu .nil))))
 .obtain rfl:=yX.1 hx
  rfl
theorem wk_tmps (a b c:aF):(#[]++ #[a,b,c])++nK ((zt4).ntmps-(#[]++ #[a,b,c]:Array aF).size) aA=(#[a,b,c,aA,aA,aA]:Array aF):=by
 have e:(zt4).ntmps=6:=rfl;rw[e];have e:(#[]++ #[a,b,c]:Array aF).size=3:=aQ;rw[e];apply Jb;simp only[P3,zbv];rfl
theorem wk_born {e:Iq}(H:e.d.Ok)(Ck:e.ty=sK.tWg){hb gh n c:Nat}{Q:Pr->Prop}(hQ:Up Q)(hq:Q R)
 (hw:dB (SF fW) K R (o9 aK) e.St w Wr) (hT:wE τ R e.St) (hi:IQ e.W0 e.StI e.Shun e.Wg e.SS e.R0 e.Fz e.Wf e.qs [] R τ Wr) (nU:WgLive sK.tWg e.Wg Wr) (h:zcI e o es ln qn lo hb v w K A n c) (hh:w.cell? ⟨gh,0,none⟩=some (.pointer (some ⟨hb,0,none⟩))) (he:w.cell? ⟨ge,0,none⟩=some (.slice A n c))
 (ha:bO (SF fW) K R gt t) (zEL:gt[7]? =some (.pointer (some ⟨gh,0,none⟩))) (zP:gt[3]? =some (.pointer (some ⟨ge,0,none⟩))) (h8:t.getD 8 aA=.pointer (some ⟨e.Wg,0,none⟩))
 (sX:∀K' R τ W w' v',K.le K'->Q R->dB (SF fW) K' R (o9 aK) e.St w' W->IQ e.W0 e.StI e.Shun e.Wg e.SS e.R0 e.Fz e.Wf e.qs [] R τ W->bG w' lo hb v' (sP o es ln qn qn.length)->fZ v' (sP o es ln qn qn.length)->bP hb v w v' w'->e.D W):
 cG aK sK.tWg e.Wg (Cr e.N e.W e.D) e.Fin false (.usr (.wk e.qs 0)) 0 τ (born aK {target:=.fn (.func 57) #[t.getD 8 aA,t.getD 7 aA,t.getD 3 aA],args:=#[]}) Wr:=by
 refine Nk rfl rfl (λaZ s=>zx0 (c:=Zn) Tryz.func57 aH rfl aZ) λaZ s=>?_;have hB:=zI0 H Ck h hh he hQ sX
 let C:=e.d.cx K Q [] [wQ aK] ⟨[],.deferred,aQ⟩ [(0,.pointer (some ⟨e.Wg,0,none⟩))]
 have U1:=Cx.Rel.suf (C:=C) hw hT (show bX C.ty C.Wg τ Wr aZ by show bX e.ty _ _ _ _;rw[Ck];exact s);have zZ:=(H.iok hQ (K:=K) (chs:=[]) (base:=[wQ aK]) (ds:=⟨[],.deferred,aQ⟩) (pin:=[(0,.pointer (some ⟨e.Wg,0,none⟩))])).suf R τ Wr aZ ⟨⟨hi,by show WgLive e.ty _ _;rw[Ck];exact nU⟩,hq⟩ (show bX C.ty C.Wg τ Wr aZ by show bX e.ty _ _ _ _;rw[Ck];exact s);have p7:VR (SF fW) K R (.pointer (some ⟨gh,0,none⟩)) (t.getD 7 aA):=by
  have h1:=ha.getD 7 (yA (S:=SF fW) (K:=K) (R:=R));rw[sZ,zEL] at h1;exact h1
 have p3:VR (SF fW) K R (.pointer (some ⟨ge,0,none⟩)) (t.getD 3 aA):=by
  have h1:=ha.getD 3 (yA (S:=SF fW) (K:=K) (R:=R));rw[sZ,zP] at h1;exact h1
 rw[h8];generalize t.getD 7 aA=t7 at*;generalize t.getD 3 aA=t3 at*;rw[wk_tmps];have vu:=yA (S:=SF fW) (K:=K) (R:=R);have hj:∀x,Tt.HidV x->VR (SF fW) K R .nilFunc x:=λx h=>.junk h;have:=hB R aZ ⟨57,#[.pointer (some ⟨e.Wg,0,none⟩),t7,t3,aA,aA,aA],[.code Zn],false⟩ τ U1 ⟨rfl,rfl,rfl,?_,λx hx=>?_⟩ hT zZ
 .rw[Cx.B_none (C:=C) rfl] at this
  have e2:C.ty=sK.tWg:=Ck;rw[e2] at this;exact this
 .exact zsk (.cons (hj _ X3) (.cons p7 (.cons p3 (.cons vu (.cons vu (.cons vu .nil))))))
 .obtain rfl:=yX.1 hx
  rfl
end Go.Proofs.YtfcjiloojkjaeaaGreatDoor
namespace Go.Mt
open Go.Conc Go.Tt
theorem zor:∀(n:Nat) (u:aF),Nc u<n->∃u',wW u'/\(∀(S:aO->Prop) (K R:Pr) (v:aF),VR S K R u v->VR S K R u' v)/\(Ro u->u'=u):=by
 intro n
 induction n with
 |zero=>intro u h;omega
 |succ n ih=>
  intro u hu;have pl:∀{x:aF},(∀k m,x≠ .int k m)->(∀s,x≠ .string s)->(∀b,x≠ .bool b)->∀{y:aF},Ro x->y=x:=λh1 h2 h3 y hx=>by
   rcases hx with⟨k,m,e⟩|⟨s,e⟩|⟨b,e⟩
   .exact absurd e (h1 _ _)
   .exact absurd e (h2 _)
   .exact absurd e (h3 _)
  have rows:∀xs:Array aF,Nc xs<n->∃us:Array aF,us.size=xs.size/\(∀(i:Nat) (u:aF),us[i]? =some u->wW u)/\∀(S:aO->Prop) (K R:Pr) (i:Nat) (u x v:aF),us[i]? =some u->xs[i]? =some x->VR S K R x v->VR S K R u v:=λxs hx=>by
   have hex:∀x,∃u,x∈xs->wW u/\∀(S:aO->Prop) (K R:Pr) (v:aF),VR S K R x v->VR S K R u v:=λx=>by
    by_cases hm:x∈xs
    .obtain⟨u,h1,h2,_⟩:=ih x (zoa (Array.sizeOf_lt_of_mem hm) hx)
     exact⟨u,λ_=>⟨h1,h2⟩⟩
    .exact⟨x,λh=>absurd h hm⟩
   refine⟨xs.map λx=>(hex x).choose,aQ,λi u h1=>?_,λS K R i u x v h1 h2 h3=>?_⟩
   .rw[Gq] at h1
    cases h2:xs[i]? with
    |none=>rw[h2] at h1;cases h1
    |some v=>
     rw[h2] at h1;simp only[Bz,jS] at h1;subst h1;exact((hex v).choose_spec (zdI h2)).1
   .rw[Gq,h2] at h1
    simp only[Bz,jS] at h1;subst h1;exact((hex x).choose_spec (zdI h2)).2 S K R v h3
  cases u with
  |bool b=>exact⟨_,.bool b,λS K R v h=>h,λ_=>rfl⟩
  |int k m=>exact⟨_,.int k m,λS K R v h=>h,λ_=>rfl⟩
  |string s=>exact⟨_,.string s,λS K R v h=>h,λ_=>rfl⟩
  |nilFunc=>exact⟨_,.nilFunc,λS K R v h=>h,λ_=>rfl⟩
  |nilIface=>exact⟨_,.nilIface,λS K R v h=>h,λ_=>rfl⟩
  |agg xs=>
   obtain⟨us,h1,h3,h2⟩:=rows xs (by simp at hu;omega);refine⟨.agg us,.agg h3,λS K R v h=>?_,pl (λ_ _ h=>by cases h) (λ_ h=>by cases h) (λ_ h=>by cases h)⟩
   cases h with
   | @agg _ bZ e hh=>
    refine .agg (h1.trans e) λi a b ha hb=>?_;have hi:i<xs.size:=by rw[e];exact(dR.1 hb).1
    exact h2 S K R i a xs[i] b ha (pK hi) (hh i _ _ (pK hi) hb)
  |tuple xs=>
   obtain⟨us,h1,h3,h2⟩:=rows xs (by simp at hu;omega);refine⟨.tuple us,.tuple h3,λS K R v h=>?_,pl (λ_ _ h=>by cases h) (λ_ h=>by cases h) (λ_ h=>by cases h)⟩
   cases h with
   | @tuple _ bZ e hh=>
    refine .tuple (h1.trans e) λi a b ha hb=>?_;have hi:i<xs.size:=by rw[e];exact(dR.1 hb).1
    exact h2 S K R i a xs[i] b ha (pK hi) (hh i _ _ (pK hi) hb)
  |_=>exact⟨.nilFunc,.nilFunc,λS K R v h=>.junk (by cases h<;>exact True.intro),pl (λ_ _ h=>by cases h) (λ_ h=>by cases h) (λ_ h=>by cases h)⟩
def cl (u:aF):Value:=(zor (Nc u+1) u (yB _)).choose
def cl_spec (u:aF):wW (cl u)/\(∀(S:aO->Prop) (K R:Pr) (v:aF),VR S K R u v->VR S K R (cl u) v)/\(Ro u->cl u=u):=(zor (Nc u+1) u (yB _)).choose_spec
end Go.Mt
namespace Go.Proofs.YtfcjiloojkjaeaaGreatDoor
open Go.RowKit Go.Mt Go.Conc Go.Tt Go.Maps Go.Conc.Lib Go.ConcR.Gen
open Go.ConcR (KK wgBlock WgAt stA smA rd wr)
abbrev B6 (Shun:Loc->Prop)(Wg:Nat):Loc->Prop:=λl=>Shun l\/nY l Wg
abbrev finS (Post:aF->aE->Prop)(Shun:Loc->Prop)(Wg:Nat):bF->aE->Prop:=λg w'=>J aK Post (B6 Shun Wg) w'.heap.size g w'
structure rP where
 Post:aF->aE->Prop
 Shun:Loc->Prop
 W0:aE
 St:Nat->Prop
 base:List dL
 K1:Pr
 R1:Pr
 w00:aE
 lo0:Nat
 lo:Nat
 go:Nat
 ge:Nat
 n:Nat
 c:Nat
 A:Option bC
 o:fP
 es:List dQ
 hb:Nat
 gh:Nat
 ln:List Nat
 Wg:Nat
def rP.End (p:rP)(qn:List Nat)(v':fH)(w':aE):Prop:=
 bG w' p.lo p.hb v' (sP p.o p.es p.ln qn qn.length)/\(∀b,b<p.lo0->w'.heap[b]? =p.w00.heap[b]?)/\p.lo<=w'.heap.size/\w'.heap[p.gh]? =some (.cells #[.pointer (some ⟨p.hb,0,none⟩)] 63)/\(qn.length:Int)=p.o.op
def rP.D (p:rP)(W:aE):Prop:=∃(K' R':Pr) (w':aE) (v':fH) (qn:List Nat),p.K1.le K'/\p.R1.le R'/\dB (SF fW) K' R' (o9 aK) p.St w' W/\Kp p.W0 R' p.St W/\Sh p.W0.heap.size (B6 p.Shun p.Wg) R' W/\p.End qn v' w'
def rP.N (p:rP):Nat:=p.o.op.toNat
def rP.cx (p:rP)(K:Pr)(eJ:Nat->Prop)(SS:Nat->Prop)(R0:Pr)(Fz:Nat->Prop)(Wf:aE)(qs chs:List Nat):Cx gN:=
 {p:=aK,gs:=Cy,fs:=fW,ty:=sK.tWg,Wg:=p.Wg,A:=Cr p.N (Cj p.o p.es) p.D,Fin:=finS p.Post p.Shun p.Wg,main:=true,base:=p.base,ds:=.nil,K:=K,St:=eJ,I:=zJ sK.tWg p.Wg (IQ p.W0 p.St (B6 p.Shun p.Wg) p.Wg SS R0 Fz Wf qs chs),pin:=[(8,.pointer (some ⟨p.Wg,0,none⟩))]}
theorem zG3 {N:Nat}{W:List fC}{D:aE->Prop}{Wn:aE}(h:zds (Cr N W D) Wn):D Wn:=by
 obtain⟨q,ch,hi,h0,hr,hd⟩:=h
 cases hi with
 |a n qs ix l _ _ _ h _ _ _=>rw[h0] at h;cases h
 |b qs ix iw k _ _ hw _ _ h _ _ _=>
  rcases h with h|⟨_,h⟩
  .simp_all
  .exact hd iw _ h
 |c qs ix iw k i kd cl ans a _ _ _ _ _ h _ _ _ _ _=>simp_all
variable {S:aO->Prop}{K R:Pr}{t:Array aF}
theorem bO.forget {K' R':Pr}{g:Array aF}(h:bO S K R g t):bO S K' R' (g.map cl) t:=by
 refine⟨by rw[Array.size_map];exact h.1,λi v v' h1 h2=>?_⟩;rw[Gq] at h1
 cases h3:g[i]? with
 |none=>rw[h3] at h1;cases h1
 |some u=>
  rw[h3] at h1;simp only[Bz,jS] at h1;subst h1;obtain⟨c1,c2,_⟩:=cl_spec u;exact xC.vr (X:=λ_=>False) (KD:=λ_=>False) (c2 S K R v' (h.2 i u v' h3 h2)) (λp q y z=>z.elim) (λa b x e=>e.elim) c1.inX
variable {i:Nat}
theorem set_getD (h:i<t.size):t.setIfInBounds i (t.getD i aA)=t:=by
 apply Array.ext_getElem?;intro j;rw[Array.getElem?_setIfInBounds];split
 .simp_all
 .rfl
def rP.After (p:rP):Prop:=∀(K' R':Pr) (w':aE) (v':fH) (qn:List Nat) (u0 u1 u2 u3 u4 u5 u6 u8 u9 gS gC gD gE gH gG u16 gZ kL kU jT iM iF iA gX iC hY iH iK iB jJ jL u32 iG iL iJ iE kJ kR iN iD gY iY iU iP iZ jA iQ jC iW iV iO nF nL lF lG kI kV kY kP kZ kD j7 kF u64 kH j8 j9 kE lJ kW kM j6:aF),p.K1.le K'->p.R1.le R'->p.End qn v' w'->BO (Fv aK Cy fW p.Post (B6 p.Shun p.Wg) p.W0 p.St K' R' p.base) () ⟨42,#[u0,u1,u2,u3,u4,u5,u6,.pointer (some ⟨p.gh,0,none⟩),u8,u9,gS,gC,gD,gE,gH,gG,u16,gZ,kL,kU,jT,iM,iF,iA,gX,iC,hY,iH,iK,iB,jJ,jL,u32,iG,iL,iJ,iE,kJ,kR,iN,iD,gY,iY,iU,iP,iZ,jA,iQ,jC,iW,iV,iO,nF,nL,lF,lG,kI,kV,kY,kP,kZ,kD,j7,kF,u64,kH,j8,j9,kE,lJ,kW,kM,j6],[.inRegion Xo [],.code (.seq Rn .ret)],false⟩ w'
variable {p:rP}{eJ SS Fz:Nat->Prop}{R0:Pr}{Wf w:aE}{qs qn:List Nat}{v:fH}{gS gC gD gE gH gG u16 gZ kL kU jT iM iF iA gX iC hY iH iK iB jJ jL u32 iG iL iJ iE kJ kR iN iD gY iY iU iP iZ jA iQ jC iW iV iO kI kV kY kP kZ kD j7 kF u64 kH j8 j9 kE lJ kW kM j6:aF}
theorem rh_last (znO:p.After)(Fh:∃b,p.R1 p.gh b)(hN:¬qs.length<p.N)(aY:∀a,p.St a->eJ a)(vX:∀b,b<p.W0.heap.size->SS b)(hF:∀b,Fz b->SS b)(pB:p.W0.heap.size<=p.Wg)(ziB:p.R1.le R0)
 (cU:∀e:Iq,e.W=Cj p.o p.es->e.qs=qs->zcI e p.o p.es p.ln qn p.lo p.hb v w K p.A p.n p.c) (hh:w.cell? ⟨p.gh,0,none⟩=some (.pointer (some ⟨p.hb,0,none⟩))) (he:w.cell? ⟨p.ge,0,none⟩=some (.slice p.A p.n p.c))
 (sX:∀K' R τ W w' v',K.le K'->R0.le R->dB (SF fW) K' R (o9 aK) eJ w' W->IQ p.W0 p.St (B6 p.Shun p.Wg) p.Wg SS R0 Fz Wf qs [] R τ W->bG w' p.lo p.hb v' (sP p.o p.es p.ln qn qn.length)->fZ v' (sP p.o p.es p.ln qn qn.length)->bP p.hb v w v' w'->p.D W) {u0 u1 u2 u4 u5 u6 u9 nF nL lF lG:aF}:
 BO (p.cx K eJ SS R0 Fz Wf qs []) (.mN qs) ⟨42,#[u0,u1,u2,.pointer (some ⟨p.ge,0,none⟩),u4,u5,u6,.pointer (some ⟨p.gh,0,none⟩),.nilFunc,u9,gS,gC,gD,gE,gH,gG,u16,gZ,kL,kU,jT,iM,iF,iA,gX,iC,hY,iH,iK,iB,jJ,jL,u32,iG,iL,iJ,iE,kJ,kR,iN,iD,gY,iY,iU,iP,iZ,jA,iQ,jC,iW,iV,iO,nF,nL,lF,lG,kI,kV,kY,kP,kZ,kD,j7,kF,u64,kH,j8,j9,kE,lJ,kW,kM,j6],[.code (.seq V5 (.seq Yj (.seq Wk (.seq Rn .ret))))],false⟩ w:=by
 let C:=p.cx K eJ SS R0 Fz Wf qs []
 have hI:fE C:=zmD (C:=C) rfl aY vX hF pB;have hX:=zeU (ty:=sK.tWg) (St:=p.St) (Shun:=B6 p.Shun p.Wg) (R0:=R0) (Fz:=Fz) (Wf:=Wf) (qs:=qs) (chs:=[]) vX hF pB;show BO C _ _ _;refine BO.seq hI ?_;rw[zz6];refine BO.regs hI _ zzM ?_;refine BO.add (C:=C) (Lk:=sK) (s:=8) (nx:=.mW qs) zce rfl rfl rfl hI rfl hX zBc rfl rfl (yX.2 rfl) (by intro s hs;cases hs;show(69:Nat)∉([8]:List Nat);decide) (by show eP p.N (Cj p.o p.es) (.mN qs)=_;simp[eP,hN]) ?_;simp only[b7,gF,dY,dX];refine BO.regEnd hI ?_;refine BO.seq hI ?_;rw[zzB];refine BO.regs hI _ zD9 ?_;refine BO.go (C:=C) rfl hI zBV zza rfl rfl rfl rfl rfl rfl (lc:=.wk qs 0) (nx:=.mZ) (pub:=[]) rfl aQ λR W t τ hw ha Em ht hi=>?_;have hw:dB (SF fW) K R (o9 aK) eJ w W:=hw;have hi:zJ sK.tWg p.Wg (IQ p.W0 p.St (B6 p.Shun p.Wg) p.Wg SS R0 Fz Wf qs []) R τ W:=hi;obtain⟨hi,nU⟩:=hi;have h8:t.getD 8 aA=.pointer (some ⟨p.Wg,0,none⟩):=Em (8,.pointer (some ⟨p.Wg,0,none⟩)) (yX.2 rfl);have Zo:R0.le R:=hi.x.x.le;have ha:bO (SF fW) K R #[u0,u1,u2,.pointer (some ⟨p.ge,0,none⟩),u4,u5,u6,.pointer (some ⟨p.gh,0,none⟩),.nilFunc,u9,gS,gC,gD,gE,gH,gG,u16,gZ,kL,kU,jT,iM,iF,iA,gX,iC,hY,iH,iK,iB,jJ,jL,u32,iG,iL,iJ,iE,kJ,kR,iN,iD,gY,iY,iU,iP,iZ,jA,iQ,jC,iW,iV,iO,nF,nL,lF,lG,kI,kV,kY,kP,kZ,kD,j7,kF,u64,kH,j8,j9,kE,.tuple #[],kW,kM,j6] t:=ha;have cK:t.size=73:=ha.1.symm;obtain⟨zzT,rF⟩:=Fh;have h7:t.getD 7 aA=.pointer (some ⟨zzT,0,none⟩):=by
  have h1:VR (SF fW) K R (.pointer (some ⟨p.gh,0,none⟩)) (t.getD 7 aA):=ha.getD 7 (yA (S:=SF fW) (K:=K) (R:=R));generalize t.getD 7 aA=t7 at h1
  cases h1 with
  |pointer y=>cases y with|some y=>cases y with|mk y=>rw[hw.inj _ _ _ (.inl y) (.inl (Zo _ _ (ziB _ _ rF)))]
 refine⟨tauWm τ,τ,parts_w hi,?_,?_⟩
 .rw[zCT]
  refine zFd (Lk:=sK) (s:=8) (ops:=Xo) (o:=oRH24_0) zce rfl (λn g w h=>zDP n g w h) rfl rfl rfl ?_ nU λWn d hD=>?_
  .show(t.setIfInBounds 70 _).getD 8 aA=.pointer (some ⟨p.Wg,0,none⟩)
   simp_all
  .obtain⟨K',R',w',v',zfZ,k1,k2,k3,k4,k5,k6⟩:=zG3 hD
   have zA3:=znO K' R' w' v' zfZ (cl (u0)) (cl (u1)) (cl (u2)) (cl (.pointer (some ⟨p.ge,0,none⟩))) (cl (u4)) (cl (u5)) (cl (u6)) (cl (.nilFunc)) (cl (u9)) (cl (gS)) (cl (gC)) (cl (gD)) (cl (gE)) (cl (gH)) (cl (gG)) (cl (u16)) (cl (gZ)) (cl (kL)) (cl (kU)) (cl (jT)) (cl (iM)) (cl (iF)) (cl (iA)) (cl (gX)) (cl (iC)) (cl (hY)) (cl (iH)) (cl (iK)) (cl (iB)) (cl (jJ)) (cl (jL)) (cl (u32)) (cl (iG)) (cl (iL)) (cl (iJ)) (cl (iE)) (cl (kJ)) (cl (kR)) (cl (iN)) (cl (iD)) (cl (gY)) (cl (iY)) (cl (iU)) (cl (iP)) (cl (iZ)) (cl (jA)) (cl (iQ)) (cl (jC)) (cl (iW)) (cl (iV)) (cl (iO)) (cl (nF)) (cl (nL)) (cl (lF)) (cl (lG)) (cl (kI)) (cl (kV)) (cl (kY)) (cl (kP)) (cl (kZ)) (cl (kD)) (cl (j7)) (cl (kF)) (cl (u64)) (cl (kH)) (cl (j8)) (cl (j9)) (cl (kE)) (cl (.tuple #[])) .nilFunc (.tuple #[]) (cl (j6)) k1 k2 k6;have h1:=(bO.forget (K':=K') (R':=R') ha).set 7 (v:=.pointer (some ⟨p.gh,0,none⟩)) (v':=t.getD 7 aA) (by rw[h7];exact .pointer (.some (.mk (k2 _ _ rF))));rw[set_getD aC] at h1;simp only[tJ,jD,sC,gF,dY,dX] at h1;have h1:=(h1.set 70 (.junk (v':=(.func (.func 57) #[] ((#[.tmp 8,.tmp 7,.tmp 3]:Array cJ).map (bE t C.ds.ds).eval))) X3)).set 71 (v:=.tuple #[]) (v':=.tuple #[]) (.tuple rfl λi v v' h=>by simp at h);simp only[gF,dY,dX] at h1;have oK:=BO.aloneIn (W:=Wn.at d) (m':=⟨42,(b7 ⟨t.setIfInBounds 70 (.func (.func 57) #[] ((#[.tmp 8,.tmp 7,.tmp 3]:Array cJ).map (bE t C.ds.ds).eval)),[]⟩ (some 71) (.tuple #[])).tmps,[.inRegion Xo [],.code (.seq Rn .ret)],false⟩) zA3 (dB.at k3 d) ⟨rfl,rfl,rfl,h1,λx lZ=>by cases lZ⟩ ⟨k5.old,k5.rel,k5.new⟩ ⟨k4.os,k4.tape,k4.output,k4.size,k4.block,k4.old⟩;have e:=nJ .nil 42 (b7 ⟨t.setIfInBounds 70 (.func (.func 57) #[] ((#[.tmp 8,.tmp 7,.tmp 3]:Array cJ).map (bE t C.ds.ds).eval)),[]⟩ (some 71) (.tuple #[])).tmps [.inRegion Xo [],.code (.seq Rn .ret)];rw[H4] at e;rw[e] at oK;exact oK
 .let e:Iq:=⟨sK.tWg,p.Wg,p.N,Cj p.o p.es,p.D,finS p.Post p.Shun p.Wg,eJ,p.W0,p.St,B6 p.Shun p.Wg,SS,R0,Fz,Wf,qs⟩
  have H:e.d.Ok:=⟨aY,vX,hF,pB,nO⟩;simp only[tJ,jD,sC,wJ];exact wk_born (e:=e) H rfl (Q:=λR'=>R0.le R') (λR R' h h'=>h'.trans h) Zo hw ht hi nU (cU e rfl rfl) hh he ha rfl rfl h8 (λK' R τ W w' v'=>sX K' R τ W w' v')
variable {wB w':aE}{c gq:Nat}{A:Option bC}{o:fP}{es:List dQ}{ln:List Nat}
theorem oT.but {lo go ge n hb gh:Nat}(h:oT wB lo go ge n c A o es hb gh ln qn v w)(hs:w'.heap.size=w.heap.size)(Cd:lo<=gq)(Bx:gq≠gh)(zca:some gq∉parts v hb)(k:∀b,b≠gq->w'.heap[b]? =w.heap[b]?):oT wB lo go ge n c A o es hb gh ln qn v w':=
 ⟨h.e.keep aC λb hb=>k b aC,h.at_.keep λb _ hp=>k b λe=>zca (e▸hp),h.mp,h.nd,λx hx=>by rw[hs];exact h.lt x hx,(k _ (Ne.symm Bx)).trans h.bh,h.nh,h.ghl⟩
variable {Tf:Array aF}
theorem al17 :(aS (bE Tf []).eval zpJ).run aK w=.ok (.value (.pointer (some ⟨w.heap.size,0,none⟩))) (w.alloc (.cells #[.chan none] 95)):=by
 unfold aS;go_simp
theorem st17 {V:Nat->aF}{gc:Nat}(hT:rI Tf V)(e1:V 9=.pointer (some ⟨gq,0,none⟩))(e2:V 55=.chan (some gc))(hh:w.cell? ⟨gq,0,none⟩=some (.chan none))(hf:w.frozen? ⟨gq,0,none⟩=false){T:kS}:(aS (bE Tf []).eval zrT).run aK (Tt.tp w T 0)=.ok .skip (Tt.tp (w.setCell ⟨gq,0,none⟩ (.chan (some gc))) T 0):=by
 have zhL:(Tt.tp w T 0).cell? ⟨gq,0,none⟩=some (.chan none):=hh;have Ei:(Tt.tp w T 0).frozen? ⟨gq,0,none⟩=false:=hf;clear hh hf;unfold aS;go_simp
 try rfl
def zdz:Go.Code:=.seq zje (.seq (.cond (.tmp 54) .skip (.exit 4)) (.seq (.block 5 (.seq zcq (.seq Pu (.seq U9 Sp)))) zie))
def zju:Go.Code:=.seq V5 (.seq Yj (.seq Wk (.seq Rn .ret)))
def rP.ok {chs:List Nat}(aY:∀a,p.St a->eJ a)(vX:∀b,b<p.W0.heap.size->SS b)(hF:∀b,Fz b->SS b)(pB:p.W0.heap.size<=p.Wg):fE (p.cx K eJ SS R0 Fz Wf qs chs):=zmD (C:=p.cx K eJ SS R0 Fz Wf qs chs) rfl aY vX hF pB
structure Dc (p:rP)(wB:aE)(K:Pr)(eJ SS:Nat->Prop)(R0:Pr)(Fz:Nat->Prop)(Wf:aE)(Xa:Nat->Prop)(qs qn:List Nat)(v:fH)(w:aE):Prop where
 K1:p.K1.le K
 R1:p.R1.le R0
 st:∀a,p.St a->eJ a
 ss:∀b,b<p.W0.heap.size->SS b
 F:∀b,Fz b->SS b
 th:Kt p.w00 K R0 p.St eJ Fz Wf Xa
 fz:∀b,Fz b->∃a,R0 a b/\eJ a
 xt:∀a,xT a=true->eJ a
 xa:∀a,Xa a->xT a=true\/(p.lo<=a/\a<w.heap.size/\a≠p.gh/\some a∉parts v p.hb)
 lq:qs.length=qn.length
 kq:∀(i g:Nat),qn[i]? =some g->K g (qa qs i)
 h:oT wB p.lo p.go p.ge p.n p.c p.A p.o p.es p.hb p.gh p.ln qn v w
structure PhOk (p:rP)(wB:aE):Prop where
 after:p.After
 gh:∃b,p.R1 p.gh b
 ok:eM p.o p.es=true
 low:p.W0.heap.size<=p.Wg
 lo0:p.lo0<=p.lo
 tb:zK wB
 tl:∀a,xT a=true->a<p.lo0
 wB:∀b,b<p.lo0->xT b=false->wB.heap[b]? =p.w00.heap[b]?
 ln:(p.ln.length:Int)=p.o.ln
variable {W:aE}{Xa:Nat->Prop}
theorem op_dep (H:PhOk p wB)(I:Dc p wB K eJ SS R0 Fz Wf Xa qs qn v w)(Tl:(qn.length:Int)=p.o.op){K':Pr}{τ:cI}{v':fH}(hK:K.le K')(hR:R0.le R)(hw:dB (SF fW) K' R (o9 aK) eJ w' W)(hi:IQ p.W0 p.St (B6 p.Shun p.Wg) p.Wg SS R0 Fz Wf qs [] R τ W)
 (hA:bG w' p.lo p.hb v' (sP p.o p.es p.ln qn qn.length)) (hT:bP p.hb v w v' w'):p.D W:=by
 obtain⟨wn,t1,t2,t3,t4⟩:=I.th K' R w' W hK hR hw (λb hb=>(hi.x.x.fz b hb).2.1);have eF:p.lo<=w.heap.size:=I.h.e.lo_;have zBS:∀b,b<p.lo->xT b=false->¬Xa b:=λb hb hx h=>by
  rcases I.xa b h with h|⟨h,_⟩
  .simp_all
  .omega
 have zDW:∀b,p.lo<=b->xT b=false:=λb hb=>by
  cases e:xT b with
  |false=>rfl
  |true=>have:=H.tl b e;have:=H.lo0;omega
 refine⟨K',R,wn,v',qn,wH I.K1 hK,I.R1.trans hR,t1,hi.x.x.im.kp,hi.x.x.im.sh,hA.keep λb _ hp=>t3 b λhx=>?_,λb hb=>?_,by have:=hT.size;omega,?_,Tl⟩
 .have zJ9:=(hA.lt b hp).1
  rcases I.xa b hx with h|⟨_,h2,_,h4⟩
  .simp_all
  .rcases hT.moved b hp with hm|hm
   .exact h4 hm
   .omega
 .cases e:xT b with
  |true=>exact t4 b e
  |false=>
   have b9:b<p.lo:=j5 hb H.lo0;rw[t3 b (zBS b b9 e),hT.block b aC (λhp=>by have:=(I.h.at_.lt b hp).1;omega),I.h.e.old b b9,H.wB b hb e]
 .rw[t3 p.gh λhx=>?_]
  .exact(I.h.at_.turned hT I.h.bh I.h.nh).1
  .rcases I.xa _ hx with h|⟨_,_,h3,_⟩
   .rw[zDW _ I.h.ghl] at h;cases h
   .exact h3 rfl
theorem op_pre (H:PhOk p wB)(I:Dc p wB K eJ SS R0 Fz Wf Xa qs qn v w)(Tl:(qn.length:Int)=p.o.op)(e:Iq)(he:e.W=Cj p.o p.es)(hq:e.qs=qs):zcI e p.o p.es p.ln qn p.lo p.hb v w K p.A p.n p.c:=
 ⟨H.ok,he,I.h.at_,I.h.mr,I.h.nd,H.ln,Tl,by rw[hq];exact I.lq,I.h.e.lo_,I.h.e.tab,I.h.e.ev,by rw[hq];exact I.kq⟩
def und_chq:aK.underlying 95=some (.chan .both 124):=aP
def zEa:∃ie,aK.info? 124=some ie:=Xe.1 aP
theorem zAc (h:i<qs.length):qa (qs++[c]) i=qa qs i:=by simp[qa,S8,N9 h]
theorem qa_snoc :qa (qs++[c]) qs.length=c:=by simp[qa,S8]
theorem rh_go (H:PhOk p wB){gc cr j:Nat}(I:Dc p wB K eJ SS R0 Fz Wf Xa qs qn v w)(hN:qs.length<p.N)(zKw:j=qn.length)(zdh:K gc cr)
 (Cd:w.heap[gq]? =some (.cells #[.chan (some gc)] 95)) (lB:p.lo<=gq) (Fh:gq≠p.gh) (zb9:some gq∉parts v p.hb) {kk:List dI}
 (zcx:∀(zch zb7:Nat->Prop) (zci:Pr) (zbQ:Nat->Prop) (zdq:aE) (zjK:Nat->Prop) (v':fH) (w':aE) u0 u1 u4 u5 u6 gS gC gD gE gH gG u16 gZ kL kU jT iM iF iA gX iC hY iH iK iB jJ jL u32 iG iL iJ iE kJ kR iN iD gY iY iU iP iZ jA iQ jC iW iV iO kI kV kY kP kZ kD j7 kF u64 kH j9 kE lJ kW kM j6 u9 lF lG j8,Dc p wB K zch zb7 zci zbQ zdq zjK (qs++[cr]) (qn++[gc]) v' w'->BO (p.cx K zch zb7 zci zbQ zdq (qs++[cr]) []) (.mN (qs++[cr])) ⟨42,#[u0,u1,.pointer (some ⟨p.go,0,none⟩),.pointer (some ⟨p.ge,0,none⟩),u4,u5,u6,.pointer (some ⟨p.gh,0,none⟩),.nilFunc,u9,gS,gC,gD,gE,gH,gG,u16,gZ,kL,kU,jT,iM,iF,iA,gX,iC,hY,iH,iK,iB,jJ,jL,u32,iG,iL,iJ,iE,kJ,kR,iN,iD,gY,iY,iU,iP,iZ,jA,iQ,jC,iW,iV,iO,.int .i64 p.o.op,.int .i64 j,lF,lG,kI,kV,kY,kP,kZ,kD,j7,kF,u64,kH,j8,j9,kE,lJ,kW,kM,j6],kk,false⟩ w')
 {u0 u1 u4 u5 u6:aF}:
 BO (p.cx K eJ SS R0 Fz Wf qs [cr]) (.mA qs cr) ⟨42,#[u0,u1,.pointer (some ⟨p.go,0,none⟩),.pointer (some ⟨p.ge,0,none⟩),u4,u5,u6,.pointer (some ⟨p.gh,0,none⟩),.nilFunc,.pointer (some ⟨gq,0,none⟩),gS,gC,gD,gE,gH,gG,u16,gZ,kL,kU,jT,iM,iF,iA,gX,iC,hY,iH,iK,iB,jJ,jL,u32,iG,iL,iJ,iE,kJ,kR,iN,iD,gY,iY,iU,iP,iZ,jA,iQ,jC,iW,iV,iO,.int .i64 p.o.op,.int .i64 j,.bool true,.chan (some gc),kI,kV,kY,kP,kZ,kD,j7,kF,u64,kH,j8,j9,kE,lJ,kW,kM,j6],[.code (.seq Pu (.seq U9 Sp))]++kk,false⟩ w:=by
 let C:=p.cx K eJ SS R0 Fz Wf qs [cr]
 have hI:fE C:=rP.ok I.st I.ss I.F H.low;have hX:=zeU (ty:=sK.tWg) (St:=p.St) (Shun:=B6 p.Shun p.Wg) (R0:=R0) (Fz:=Fz) (Wf:=Wf) (qs:=qs) (chs:=[cr]) I.ss I.F H.low;show BO C _ ⟨_,_,.code (.seq Pu (.seq U9 Sp))::kk,false⟩ _;have sU:mY p.o=true:=by
  have:=H.ok;unfold eM at this;simp only[iT] at this;exact this.1.1
 unfold mY at sU;have sU:=of_decide_eq_true sU;have zKN:p.N<=4:=by unfold rP.N;omega
 refine BO.seq hI ?_;refine cw_RQ (C:=C) (l:=.mA qs cr) (c:=⟨p.lo,p.hb,p.gh,gq,gc,v,w,v,⟨mU p.o,p.ln,qn,[]⟩⟩) hI rfl rfl rfl nO (λi o s h1 h2 h3=>?_) (by show qn.length<=1000;have:=I.lq;omega) I.h.nh zb9 rfl rfl rfl (λvs C' l' w' uH hS=>?_) ⟨rfl,rfl,λ_=>⟨aI I.h.at_.blk 6,I.h.bh,Cd⟩,⟨I.h.at_,bP.refl,I.h.e.lo_⟩⟩
 .obtain rfl:s=8:=yX.1 h3
  have hm:some 8∈lL.toList.map (·.dst):=List.mem_map.2 ⟨o,fI (by rw[C3];exact h1),h2⟩;rw[zx9] at hm;simp at hm
 rw[Go.Mt.zO,zx9];simp only[Go.Mt.wV,dY,dX];obtain⟨rfl,rfl,_,h4⟩:=hS;have s4:WH.RQ2 ⟨p.lo,p.hb,p.gh,gq,gc,v,w,v,⟨mU p.o,p.ln,qn,[]⟩⟩ gc w':=by
  rcases vs with _|⟨b,_|⟨x,_|⟨y,vs⟩⟩⟩
  .cases uH
  .cases uH
  .cases uH
  .exact h4
 obtain⟨v2,a2,t2,mp⟩:=s4;have Lh:oT wB p.lo p.go p.ge p.n p.c p.A p.o p.es p.hb p.gh p.ln (qn++[gc]) v2 w':=I.h.turn t2 a2 mp I.h.nd λx hx=>j5 (I.h.lt x hx) t2.size;obtain⟨znN,zoS⟩:=I.h.at_.turned t2 Cd zb9;have HR:=aD Lh;have T2:=aD t2;clear Lh a2 mp h4 uH;refine BO.regEnd hI ?_;refine BO.seq hI ?_;rw[zID];refine BO.regs hI _ zAx ?_;refine BO.add (C:=C) (Lk:=sK) (s:=8) (nx:=.mS qs cr) zce rfl rfl rfl hI rfl hX zIn rfl rfl (yX.2 rfl) (by intro s hs;cases hs;show(66:Nat)∉([8]:List Nat);decide) rfl ?_;simp only[b7,gF,dY,dX];refine BO.regEnd hI ?_;rw[zz7];refine BO.regs hI _ zy4 ?_;refine BO.go (C:=C) rfl hI zIK zHX rfl rfl rfl rfl rfl rfl (lc:=.op cr 0 (oI (Cj p.o p.es) 0 qs.length)) (nx:=.mN (qs++[cr])) (pub:=[cr]) rfl aQ λR W t τ hw ha Em ht hi=>?_;have hw:dB (SF fW) K R (o9 aK) eJ w' W:=hw;have hi:zJ sK.tWg p.Wg (IQ p.W0 p.St (B6 p.Shun p.Wg) p.Wg SS R0 Fz Wf qs [cr]) R τ W:=hi;obtain⟨hi,nU⟩:=hi;have h8:t.getD 8 aA=.pointer (some ⟨p.Wg,0,none⟩):=Em (8,.pointer (some ⟨p.Wg,0,none⟩)) (yX.2 rfl);have cK:t.size=73:=ha.1.symm;have fQ:∀a,¬R a cr:=(hi.x.ch cr (yX.2 rfl)).2.2;have tG:zK w':=λg hg=>by
  have:=H.tl g hg;have:=H.lo0;rw[HR.o.e.old g aC];exact H.tb g hg
 have zIe:∃b,R gq b:=by
  have h1:VR (SF fW) K R (.pointer (some ⟨gq,0,none⟩)) (t.getD 9 aA):=ha.getD 9 (yA (S:=SF fW) (K:=K) (R:=R));generalize t.getD 9 aA=t9 at h1
  cases h1 with
  |pointer y=>cases y with|some y=>cases y with|mk y=>exact⟨_,y⟩
 have hx:XOk R (xQ gq) w':=⟨λa h=>by
  rcases zby h with rfl|h
  .exact zIe
  .exact⟨a,hw.tb a h⟩,λa h=>by
  rcases zby h with rfl|h
  .exact⟨_,_,_,znN⟩
  .obtain⟨c,T,fz,hc,_⟩:=tG a h;exact⟨c,T,fz,hc⟩⟩
 have Zo:R0.le R:=hi.x.x.le;have fL:=zoo hw hx;have zAD:∀b,b≠gq->(vO (xQ gq) w').heap[b]? =w'.heap[b]? :=λb hb=>frX_same λh=>by
  rcases zby h with h|h
  .exact absurd h hb
  .exact(hw.st b (I.xt b h)).2
 have zHG:=zBB (X:=xQ gq) (qs:=qs) hw ht fQ;have zmL:=iq_qm (X:=xQ gq) hw ht hi;refine⟨Kk τ R (xQ gq) cr qs,Yb τ R (xQ gq),parts_q ht hi,?_,?_⟩
 .have J:Dc p wB K (λa=>eJ a\/xQ gq a=true) (Kk τ R (xQ gq) cr qs).still R (G7 R eJ (xQ gq)) W (λa=>Xa a\/xQ gq a=true) (qs++[cr]) (qn++[gc]) v2 (vO (xQ gq) w'):=by
   refine⟨I.K1,I.R1.trans Zo,λa h=>.inl (I.st a h),λb hb=>.inl (by rw[hi.x.x.im.still];exact I.ss b hb),λb hb=>?_,I.th.step (xH K) Zo hw hx (λb hb=>⟨(hi.x.x.fz b hb).2.1,let⟨a,x,y⟩:=I.fz b hb;⟨a,Zo _ _ x,y⟩⟩),λb hb=>hb,λa h=>.inl (I.xt a h),λa h=>?_,by rw[jZ,jZ,I.lq];rfl,λi g hg=>?_,HR.o.but (U5 _ _) lB Fh zoS zAD⟩
   .obtain⟨a,x,h⟩:=hb
    rcases h with h|h
    .exact .inl ((ht a b x).1 h)
    .exact .inr ⟨a,x,h⟩
   .rw[U5]
    rcases h with h|h
    .rcases I.xa a h with h|⟨h1,h2,h3,h4⟩
     .exact .inl h
     .exact .inr ⟨h1,j5 h2 T2.o.size,h3,λhp=>(T2.o.moved a hp).elim h4 λx=>absurd h2 (Nat.not_lt.2 x)⟩
    .rcases zby h with rfl|h
     .exact .inr ⟨lB,iR znN,Fh,zoS⟩
     .exact .inl h
   .rcases rM i qn.length with aU|Df
    .rw[N9 aU] at hg
     rw[zAc (by rw[I.lq];exact aU)];exact I.kq i g hg
    .obtain rfl:i=qn.length:=by
      have:=(l8.1 hg).1;simp at this;omega
     simp at hg;subst hg;rw[<-I.lq,qa_snoc];exact zdh
  have Hl:fE (p.cx K (λa=>eJ a\/xQ gq a=true) (Kk τ R (xQ gq) cr qs).still R (G7 R eJ (xQ gq)) W (qs++[cr]) []):=rP.ok J.st J.ss J.F H.low;have h1:=ha.set 67 (.junk (v':=(.func (.func 54) #[] ((#[.tmp 8,.tmp 9]:Array cJ).map (bE t C.ds.ds).eval))) X3);simp only[gF,dY,dX] at h1;have fin:∀(G1:Array aF),bO (SF fW) K R G1 (t.setIfInBounds 67 (.func (.func 54) #[] ((#[.tmp 8,.tmp 9]:Array cJ).map (bE t C.ds.ds).eval)))->BO (p.cx K (λa=>eJ a\/xQ gq a=true) (Kk τ R (xQ gq) cr qs).still R (G7 R eJ (xQ gq)) W (qs++[cr]) []) (.mN (qs++[cr])) ⟨42,G1,.inRegion Ma []::kk,false⟩ (vO (xQ gq) w')->cG C.p C.ty C.Wg C.A C.Fin C.main (.usr (.mN (qs++[cr]))) 0 (Kk τ R (xQ gq) cr qs) (G ((C.ds.base 42).at ⟨t.setIfInBounds 67 (.func (.func 54) #[] ((#[.tmp 8,.tmp 9]:Array cJ).map (bE t C.ds.ds).eval)),C.ds.ds⟩ (.inRegion Ma []::kk)) C.base) W:=λG1 h1 hB=>by
   have hm:=hB R W ⟨42,t.setIfInBounds 67 (.func (.func 54) #[] ((#[.tmp 8,.tmp 9]:Array cJ).map (bE t C.ds.ds).eval)),.inRegion Ma []::kk,false⟩ (Kk τ R (xQ gq) cr qs) fL ⟨rfl,rfl,rfl,h1,λx lZ=>?_⟩ zHG ⟨zmL,nU⟩
   .rw[Cx.B_none rfl,nJ] at hm
    exact hm
   .obtain rfl:=yX.1 lZ
    show(t.setIfInBounds 67 _).getD 8 aA=_;rw[<-h8];simp only[sZ,Array.getElem?_setIfInBounds_ne (show(67:Nat)≠8 by decide)]
  exact fin _ h1 (BO.regEnd (ops:=Ma) Hl (zcx _ _ _ _ _ _ v2 (vO (xQ gq) w') _ _ _ _ _ _ _ _ _ _ _ _ _ _ _ _ _ _ _ _ _ _ _ _ _ _ _ _ _ _ _ _ _ _ _ _ _ _ _ _ _ _ _ _ _ _ _ _ _ _ _ _ _ _ _ _ _ _ _ _ _ _ _ _ _ _ _ J))
 .simp only[tJ,jD,sC,wJ]
  exact op_born hw hx zdh fQ znN tG ha rfl h8 hi.x.x.im.wg hi.x.x.im.rel nU
variable {St:Nat->Prop}
def Kt.mono {w00:aE}{K2:Pr}(h:Kt w00 K R St eJ Fz Wf Xa)(hK:K.le K2):Kt w00 K2 R St eJ Fz Wf Xa:=λK' R' wn Wn a b c d=>h K' R' wn Wn (wH hK a) b c d
def Dc.tp (I:Dc p wB K eJ SS R0 Fz Wf Xa qs qn v w)(T:kS)(n:Nat):Dc p wB K eJ SS R0 Fz Wf Xa qs qn v (Tt.tp w T n):=⟨I.K1,I.R1,I.st,I.ss,I.F,I.th,I.fz,I.xt,I.xa,I.lq,I.kq,I.h.tp T n⟩
theorem rh_ops (H:PhOk p wB):∀(m j:Nat),((j+m:Nat):Int)=p.o.op->∀(K:Pr) (eJ SS:Nat->Prop) (R0:Pr) (Fz:Nat->Prop) (Wf:aE) (Xa:Nat->Prop) (qs qn:List Nat) (v:fH) (w:aE) (u0 u1 u4 u5 u6 u9 gS gC gD gE gH gG u16 gZ kL kU jT iM iF iA gX iC hY iH iK iB jJ jL u32 iG iL iJ iE kJ kR iN iD gY iY iU iP iZ jA iQ jC iW iV iO lF lG kI kV kY kP kZ kD j7 kF u64 kH j8 j9 kE lJ kW kM j6:aF),Dc p wB K eJ SS R0 Fz Wf Xa qs qn v w->qn.length=j->
 BO (p.cx K eJ SS R0 Fz Wf qs []) (.mN qs) ⟨42,#[u0,u1,.pointer (some ⟨p.go,0,none⟩),.pointer (some ⟨p.ge,0,none⟩),u4,u5,u6,.pointer (some ⟨p.gh,0,none⟩),.nilFunc,u9,gS,gC,gD,gE,gH,gG,u16,gZ,kL,kU,jT,iM,iF,iA,gX,iC,hY,iH,iK,iB,jJ,jL,u32,iG,iL,iJ,iE,kJ,kR,iN,iD,gY,iY,iU,iP,iZ,jA,iQ,jC,iW,iV,iO,.int .i64 p.o.op,.int .i64 j,lF,lG,kI,kV,kY,kP,kZ,kD,j7,kF,u64,kH,j8,j9,kE,lJ,kW,kM,j6],[.code zdz,.inLoop zdz,.inBlock 4,.code zju],false⟩ w:=by
 have sU:mY p.o=true:=by
  have:=H.ok;unfold eM at this;simp only[iT] at this;exact this.1.1
 unfold mY at sU;have sU:=of_decide_eq_true sU;have h4:p.o.op<=4:=sU.2.2.2.1;clear sU;intro m
 induction m with
 |zero=>
  intro j hj K eJ SS R0 Fz Wf Xa qs qn v w u0 u1 u4 u5 u6 u9 gS gC gD gE gH gG u16 gZ kL kU jT iM iF iA gX iC hY iH iK iB jJ jL u32 iG iL iJ iE kJ kR iN iD gY iY iU iP iZ jA iQ jC iW iV iO lF lG kI kV kY kP kZ kD j7 kF u64 kH j8 j9 kE lJ kW kM j6 I hl;have hI:fE (p.cx K eJ SS R0 Fz Wf qs []):=rP.ok I.st I.ss I.F H.low;have znK:(j:Int)=p.o.op:=by simpa using hj
  have H3:¬(j:Int)<p.o.op:=aC;have HI:=aD I;have HJ:=aD znK;clear I hj znK;unfold zdz;refine BO.seq hI ?_;refine BO.pV nO hI uI (λw1 T1 eD Q' dD=>?_);have U0:=aD (show Dc p wB K eJ SS R0 Fz Wf Xa qs qn v w1 by rw[eD];exact HI.o.tp T1 0);clear HI
  try dsimp only
  clear eD;go_wp2;refine dD.o _ _ ?_;clear dD;refine BO.seq hI ?_;refine BO.cond hI (t:=false) rfl rfl ?_;refine BO.exit hI (k':=[.code zju]) rfl ?_;have I:=U0.o;have znK:=HJ.o;have zzl:=I.lq;refine rh_last H.after H.gh (by unfold rP.N;omega) I.st I.ss I.F H.low I.R1 (op_pre H I aC) (aI I.h.bh 0) (aI I.h.e.be 0) (λK' R τ W w' v' hK hR hw hi hA hm hT=>op_dep H I aC hK hR hw hi hA hT)
 |succ m ih=>
  intro j hj K eJ SS R0 Fz Wf Xa qs qn v w u0 u1 u4 u5 u6 u9 gS gC gD gE gH gG u16 gZ kL kU jT iM iF iA gX iC hY iH iK iB jJ jL u32 iG iL iJ iE kJ kR iN iD gY iY iU iP iZ jA iQ jC iW iV iO lF lG kI kV kY kP kZ kD j7 kF u64 kH j8 j9 kE lJ kW kM j6 I hl;have hI:fE (p.cx K eJ SS R0 Fz Wf qs []):=rP.ok I.st I.ss I.F H.low;have H3:(j:Int)<p.o.op:=aC;have HI:=aD I;have HJ:=aD hj;clear I hj;unfold zdz;refine BO.seq hI ?_;refine BO.pV nO hI uI (λw1 T1 eD Q' dD=>?_);have U0:=aD (show Dc p wB K eJ SS R0 Fz Wf Xa qs qn v w1 by rw[eD];exact HI.o.tp T1 0);clear HI
  try dsimp only
  clear eD;go_wp2;refine dD.o _ _ ?_;clear dD;refine BO.seq hI ?_;refine BO.cond hI (t:=true) rfl rfl ?_;refine BO.skip hI ?_;refine BO.seq hI ?_;refine BO.block hI ?_;refine BO.seq hI ?_;have I:=U0.o;have zzl:=I.lq;have zwL:qs.length<p.N:=by unfold rP.N;omega
  rw[zD5];refine BO.regs hI _ zCE ?_;obtain⟨ie,jK⟩:=zEa;refine BO.makeK hI zF8 rfl rfl und_chq jK (by intro s hs;cases hs;show(55:Nat)∉([8]:List Nat);decide) (I':=λc=>zJ sK.tWg p.Wg (IQ p.W0 p.St (B6 p.Shun p.Wg) p.Wg SS R0 Fz Wf qs [c])) (λR τ W hi ht aU=>?_) (λcr=>?_)
  .have hi:zJ sK.tWg p.Wg (IQ p.W0 p.St (B6 p.Shun p.Wg) p.Wg SS R0 Fz Wf qs []) R τ W:=hi
   refine⟨zwS hi.1 aU,?_⟩;obtain⟨st,sm,hx⟩:=hi.2;have lZ:W.heap[p.Wg]? =some _:=hx;exact⟨st,sm,(Cs (dR.1 lZ).1).trans lZ⟩
  simp only[b7,gF,dY,dX];show BO (p.cx (K.add w1.heap.size cr) eJ SS R0 Fz Wf qs [cr]) (.mN qs) _ _;refine BO.note (can:=λl'=>∃a,l'=.mA qs a) rfl (by show eP p.N (Cj p.o p.es) (.mN qs)=_;simp[eP,zwL]) ⟨cr,rfl⟩ ?_;have Ku:fE (p.cx (K.add w1.heap.size cr) eJ SS R0 Fz Wf qs [cr]):=rP.ok I.st I.ss I.F H.low;have jE:=aD (show oT wB p.lo p.go p.ge p.n p.c p.A p.o p.es p.hb p.gh p.ln qn v (w1.alloc pN) from I.h.below (eT (fK _ _) _));obtain⟨gc,Sb⟩:=aT w1.heap.size;have zw:(w1.alloc pN).heap.size=gc+1:=by rw[vI,Sb]
  rw[<-Sb];obtain⟨w2,eZ⟩:=aT (w1.alloc pN);rw[<-eZ] at jE zw⊢;have Hl:fE (p.cx (K.add gc cr) eJ SS R0 Fz Wf qs [cr]):=rP.ok I.st I.ss I.F H.low;refine BO.op nO Hl zGd rfl aP (by intro s hs;cases hs;show(9:Nat)∉([8]:List Nat);decide) (λT=>⟨_,_,.inl al17,?_⟩);simp only[b7,gF,dY,dX];obtain⟨gq,Cd⟩:=aT ((Tt.tp w2 T 0).heap.size);have zKm:gq=gc+1:=by rw[Cd];exact zw
  have jW:=aD (show oT wB p.lo p.go p.ge p.n p.c p.A p.o p.es p.hb p.gh p.ln qn v ((Tt.tp w2 T 0).alloc (.cells #[.chan none] 95)) from(jE.o.tp T 0).below (eT (fK _ _) _));have KB:=aD (show((Tt.tp w2 T 0).alloc (.cells #[.chan none] 95)).heap[gq]? =some (.cells #[.chan none] 95) by rw[Cd];exact Ec _ _);have z3:((Tt.tp w2 T 0).alloc (.cells #[.chan none] 95)).heap.size=gc+2:=by simp_all
  have lB:p.lo<=gq:=by have:=jE.o.e.lo_;omega
  have Fh:gq≠p.gh:=by
   intro e;have:=iR I.h.bh;omega
  have zb9:some gq∉parts v p.hb:=λhp=>by have:=(I.h.at_.lt gq hp).2;omega
  rw[<-Cd];clear Cd;obtain⟨w3,jB⟩:=aT ((Tt.tp w2 T 0).alloc (.cells #[.chan none] 95));rw[<-jB] at jW KB z3⊢;clear jB jE zw eZ;refine BO.op nO Hl zC9 rfl aP aQ (λT2=>⟨aA,Tt.tp (w3.setCell ⟨gq,0,none⟩ (.chan (some gc))) T2 0,.inr ⟨st17 (V:=λs=>(#[u0,u1,.pointer (some ⟨p.go,0,none⟩),.pointer (some ⟨p.ge,0,none⟩),u4,u5,u6,.pointer (some ⟨p.gh,0,none⟩),.nilFunc,.pointer (some ⟨gq,0,none⟩),gS,gC,gD,gE,gH,gG,u16,gZ,kL,kU,jT,iM,iF,iA,gX,iC,hY,iH,iK,iB,jJ,jL,u32,iG,iL,iJ,iE,kJ,kR,iN,iD,gY,iY,iU,iP,iZ,jA,iQ,jC,iW,iV,iO,.int .i64 p.o.op,.int .i64 j,.bool true,.chan (some gc),kI,kV,kY,kP,kZ,kD,j7,kF,u64,kH,j8,j9,kE,lJ,kW,kM,j6]:Array aF).getD s aA) (λs=>rfl) rfl rfl (aI KB.o 0) (eW KB.o 0),rfl⟩,?_⟩);refine BO.regEnd Hl ?_;refine BO.tape ?_ T2 0;clear T2;have hK:K.le (K.add gc cr):=Pr.le_add _ _ _;have aV:∀b,b≠gq->(w3.setCell ⟨gq,0,none⟩ (.chan (some gc))).heap[b]? =w3.heap[b]? :=λb hb=>za0 w3 _ _ hb;have I3:Dc p wB (K.add gc cr) eJ SS R0 Fz Wf Xa qs qn v (w3.setCell ⟨gq,0,none⟩ (.chan (some gc))):=⟨wH I.K1 hK,I.R1,I.st,I.ss,I.F,I.th.mono hK,I.fz,I.xt,λa ha=>by
   rcases I.xa a ha with h|⟨h1,h2,h3,h4⟩
   .exact .inl h
   .exact .inr ⟨h1,by rw[Ux,z3];omega,h3,h4⟩,I.lq,λi g hg=>hK _ _ (I.kq i g hg),jW.o.but (Ux _ _ _) lB Fh zb9 aV⟩
  refine rh_go H I3 zwL (j:=j) hl.symm (.inr ⟨rfl,rfl⟩) (oQ KB.o _) lB Fh zb9 (λzch zb7 zci zbQ zdq zjK v' w' u0 u1 u4 u5 u6 gS gC gD gE gH gG u16 gZ kL kU jT iM iF iA gX iC hY iH iK iB jJ jL u32 iG iL iJ iE kJ kR iN iD gY iY iU iP iZ jA iQ jC iW iV iO kI kV kY kP kZ kD j7 kF u64 kH j9 kE lJ kW kM j6 u9 lF lG j8 I4=>?_);have ziq:fE (p.cx (K.add gc cr) zch zb7 zci zbQ zdq (qs++[cr]) []):=rP.ok I4.st I4.ss I4.F H.low;have zv1:=aD I4;clear I4 I3 aV jW KB I U0;refine BO.inBlock ziq ?_;refine BO.pV nO ziq uI (λw5 T5 mV Q' dD=>?_);have zFW:=aD (show Dc p wB (K.add gc cr) zch zb7 zci zbQ zdq zjK (qs++[cr]) (qn++[gc]) v' w5 by rw[mV];exact zv1.o.tp T5 0);clear zv1
  try dsimp only
  clear mV;go_wp2;refine dD.o _ _ ?_;clear dD;refine BO.inLoop ziq ?_;exact ih (j+1) (by have:=HJ.o;omega) _ _ _ _ _ _ _ _ _ _ _ _ _ _ _ _ _ _ _ _ _ _ _ _ _ _ _ _ _ _ _ _ _ _ _ _ _ _ _ _ _ _ _ _ _ _ _ _ _ _ _ _ _ _ _ _ _ _ _ _ _ _ _ _ _ _ _ _ _ _ _ _ _ _ _ _ _ _ zFW.o uU
structure StW (W W4:aE):Prop where
 size:W4.heap.size=W.heap.size+1
 keep:∀b,b<W.heap.size->W4.heap[b]? =W.heap[b]?
 wg:Go.ConcR.WgAt 94 W.heap.size W4 0 0
 os:W4.os=W.os
 tape:W4.tape=W.tape
 output:W4.output=W.output
variable {Post:aF->aE->Prop}{Shun:Loc->Prop}
theorem zFT {CS:List dL}
 (h:∀W4,StW W W4->J aK Post Shun W.heap.size (G ((Lu 42).at ⟨t.setIfInBounds 8 (.pointer (some ⟨W.heap.size,0,none⟩)),[]⟩ [.code G9]) CS) W4):
 J aK Post Shun W.heap.size (G ((Lu 42).at ⟨t,[]⟩ [.code (.seq N4 G9)]) CS) W:=by
 have start:∀d,J aK Post Shun W.heap.size (G ((Lu 42).at ⟨t,[]⟩ [.code (.seq N4 G9)]) CS) (W.at d):=by
  refine J.sil rfl (λw=>stepG_seq) ?_;generalize l6:G9=K0 at h⊢;simp only[N4,oU,zey,vB];refine J.sil rfl (λw=>stepG_region) ?_;refine J.opq (o:=_) (v:=.pointer (some ⟨W.heap.size,0,none⟩)) (w':=W.alloc (.cells #[.int .u64 0,.int .u32 0] 94)) rfl rfl aH (λd=>?_) (λd e he=>?_) ?_
  .show _=Result.ok _ ((W.at d).alloc _)
   have hz:(W.at d).heap.size=W.heap.size:=rfl;rw[<-hz];simp[aS,go_sem,wJ]
  .simp[aS,go_sem,wJ] at he
  refine J.sil rfl (λw=>stepG_region_end) ?_;intro d;have aY:StW W ((W.alloc (.cells #[.int .u64 0,.int .u32 0] 94)).at d):=by
   refine⟨?_,λb hb=>?_,?_,rfl,rfl,rfl⟩
   .show(W.alloc _).heap.size=_
    rw[vI]
   .show(W.alloc _).heap[b]? =_
    rw[Cs hb]
   .show(W.alloc _).heap[_]? =_
    rw[Ec];rfl
  exact h _ aY
 exact start W.drawn
variable {W0:aE}
theorem rh_phase {base:List dL}{lo0 lo go ge n hb gh:Nat}(hR:oT wB lo go ge n c A o es hb gh ln [] v w)(hgo:lo0<=go)(Df:lo0<=ge)(eF:lo0<=lo)(bM:eM o es=true)(y5:(ln.length:Int)=o.ln)(tG:zK w)(zc7:∀a,xT a=true->a<lo0)
 (znO:∀(R1:Pr) (Wg:Nat),R0.le R1->rP.After ⟨Post,Shun,W0,St,base,K,R1,w,lo0,lo,go,ge,n,c,A,o,es,hb,gh,ln,Wg⟩) {u0 u1 u4 u5 u6 u8 u9 nF nL lF lG:aF}:
 BO (rhC Post Shun W0 St R0 base K) () ⟨42,#[u0,u1,.pointer (some ⟨go,0,none⟩),.pointer (some ⟨ge,0,none⟩),u4,u5,u6,.pointer (some ⟨gh,0,none⟩),u8,u9,gS,gC,gD,gE,gH,gG,u16,gZ,kL,kU,jT,iM,iF,iA,gX,iC,hY,iH,iK,iB,jJ,jL,u32,iG,iL,iJ,iE,kJ,kR,iN,iD,gY,iY,iU,iP,iZ,jA,iQ,jC,iW,iV,iO,nF,nL,lF,lG,kI,kV,kY,kP,kZ,kD,j7,kF,u64,kH,j8,j9,kE,lJ,kW,kM,j6],[.code (.seq N4 G9)],false⟩ w:=by
 intro R W m1 τ hw hm zJn hi;obtain⟨fn',t,zE,zD⟩:=m1;obtain rfl:=hm.fn;obtain rfl:=hm.todo;obtain rfl:=hm.ret;have hw:dB (SF fW) K R (o9 aK) St w W:=hw;have hi:IA W0 St Shun R0 R τ W:=hi;have ha:bO (SF fW) K R #[u0,u1,.pointer (some ⟨go,0,none⟩),.pointer (some ⟨ge,0,none⟩),u4,u5,u6,.pointer (some ⟨gh,0,none⟩),u8,u9,gS,gC,gD,gE,gH,gG,u16,gZ,kL,kU,jT,iM,iF,iA,gX,iC,hY,iH,iK,iB,jJ,jL,u32,iG,iL,iJ,iE,kJ,kR,iN,iD,gY,iY,iU,iP,iZ,jA,iQ,jC,iW,iV,iO,nF,nL,lF,lG,kI,kV,kY,kP,kZ,kD,j7,kF,u64,kH,j8,j9,kE,lJ,kW,kM,j6] t:=hm.tmps;have cK:t.size=73:=ha.1.symm;rw[nJ,Cx.B_some rfl];intro _ Fa;refine zFT λW4 aY=>?_;have sU:mY o=true:=by
  have:=bM;unfold eM at this;simp only[iT] at this;exact this.1.1
 unfold mY at sU;have sU:=of_decide_eq_true sU
 let p:rP:=⟨Post,Shun,W0,St,base,K,R,w,lo0,lo,go,ge,n,c,A,o,es,hb,gh,ln,W.heap.size⟩
 have aU:∀a b,R a b->b<W.heap.size:=λa b x=>(hw.lt a b (.inl x)).2;have hrel:dB (SF fW) K R (o9 aK) St w W4:=dB.real hw (λa b x=>aY.keep b (aU a b x)) (by rw[aY.size];omega);have zuu:∀a,xT a=true->∃c T fz,w.heap[a]? =some (.cells c T fz):=λa h=>let⟨c,T,fz,hc,_⟩:=tG a h;⟨c,T,fz,hc⟩
 have zse:XOk R xT w:=⟨λa h=>⟨a,hw.tb a h⟩,zuu⟩;have fL:=zoo hrel zse;have hk:=hi.kp;have mP:=hi.sh;have zHp:=hk.size;have znF:Kp W0 R St W4:=⟨aY.os.trans hk.os,aY.tape.trans hk.tape,aY.output.trans hk.output,by rw[aY.size];omega,λb hb=>(aY.keep b aC).trans (hk.block b hb),hk.old⟩;have zcF:∀a b,R a b->b≠W.heap.size:=λa b x=>by grind
 have zCK:Sh W0.heap.size (B6 Shun W.heap.size) R W4:=by
  refine⟨λl b hl hb hx=>?_,λa b x l hl hx=>?_,λl b hl hb hx=>?_⟩
  .rcases hx with hx|hx
   .exact mP.old l b hl hb hx
   .have:=L9 hl hx;omega
  .rcases hx with hx|hx
   .exact mP.rel a b x l hl hx
   .exact zcF a b x (L9 hl hx)
  .rcases hx with hx|hx
   .exact mP.new l b hl (by rw[aY.size] at hb;omega) hx
   .have:=L9 hl hx;have:=aY.size;omega
 have Fh:∃b,R gh b:=by
  have h1:VR (SF fW) K R (.pointer (some ⟨gh,0,none⟩)) (t.getD 7 aA):=ha.getD 7 (yA (S:=SF fW) (K:=K) (R:=R));generalize t.getD 7 aA=t7 at h1
  cases h1 with
  |pointer y=>cases y with|some y=>cases y with|mk y=>exact⟨_,y⟩
 let SC:Nat->Prop:=λa=>St a\/xT a=true
 let τ0:cI:=tauP R SC W0 []
 have zE4:∀a b,R a b->SC a->¬τ0.own b:=λa b x h hb=>by
  rcases hb with⟨a',x',hn⟩|hb
  .obtain rfl:=hw.inj' a a' b (.inl x) (.inl x')
   exact hn h
  .cases hb
 have zmL:IQ W0 St (B6 Shun W.heap.size) W.heap.size τ0.still R (G7 R St xT) W4 [] [] R τ0 W4:=by
  refine⟨⟨⟨⟨znF,zCK,rfl,by rw[aY.size];omega,λb hb=>?_,zcF⟩,.refl R,λb hb=>?_⟩,λb hb hs=>?_,λb hb=>?_,λc hc=>by cases hc⟩,λc hc=>by cases hc⟩
  .rcases hb with⟨a,x,_⟩|hb
   .exact zcF a b x
   .cases hb
  .obtain⟨a,x,h⟩:=hb
   exact⟨(hrel.lt a b (.inl x)).2,rfl,zE4 a b x h,zcF a b x⟩
  .rcases hs with hs|⟨a,x,h⟩
   .rcases hb with⟨a',x',hn⟩|hb
    .exact hn (.inl (hk.old a' b x' hs))
    .cases hb
   .grind
  .rcases hb with hb|⟨a,x,_⟩
   .rw[aY.size];omega
   .exact(hrel.lt a b (.inl x)).2
 have H:PhOk p (vO xT w):=⟨znO R W.heap.size hi.le,Fh,bM,zHp,eF,λg hg=>by
  obtain⟨c,T,fz,h1,h2⟩:=tG g hg;exact⟨c,T,_,Uy hg h1,h2⟩,zc7,λb hb hx=>Nu hx,y5⟩
 have I:Dc p (vO xT w) K SC τ0.still R (G7 R St xT) W4 (λa=>xT a=true) [] [] v (vO xT w):=⟨xH K,.refl R,λa h=>.inl h,λb hb=>.inl hb,λb hb=>by
  obtain⟨a,x,h⟩:=hb;exact .inr ⟨a,x,h⟩,Kt.first hrel zse,λb hb=>hb,λa h=>.inr h,λa h=>.inl h,rfl,λi g hg=>by simp at hg,hR.frT hgo Df eF zc7 zuu⟩
 refine J.phase (zAb p.N (Cj p.o p.es) p.D (zzt bM) (by show o.op.toNat<=_;omega)) (ty:=sK.tWg) (Wg:=W.heap.size) (l:=.mN []) (τ:=τ0) ?hb aY.wg ⟨bL _,by rw[aY.size];omega⟩ ?bnd rfl (.a 0 [] (λ_=>1) (.mN []) ⟨rfl,λj j' h=>by omega⟩ (mK _) (.inl rfl) rfl ⟨λj h=>by omega,λj j' h=>by omega,λj h=>by omega⟩ (λj h=>by omega) (λi hi _=>by simp[hi]))
 case bnd=>
  have hr:∀a b,R a b->b<W4.heap.size/\b≠W.heap.size/\∀l,nY l b->¬Shun l:=λa b x=>⟨(hrel.lt a b (.inl x)).2,zcF a b x,mP.rel a b x⟩;rintro b ((⟨a,x,_⟩|hb)|(hb|⟨a,x,_⟩)|hb)
  .exact hr a b x
  .cases hb
  .exact⟨by rw[aY.size];omega,aC,λl hl=>mP.old l b hl hb⟩
  .exact hr a b x
  .exact hb.elim
 case hb=>
  have hI:fE (p.cx K SC τ0.still R (G7 R St xT) W4 [] []):=rP.ok I.st I.ss I.F H.low;have hB:BO (p.cx K SC τ0.still R (G7 R St xT) W4 [] []) (.mN []) ⟨42,#[u0,u1,.pointer (some ⟨go,0,none⟩),.pointer (some ⟨ge,0,none⟩),u4,u5,u6,.pointer (some ⟨gh,0,none⟩),.nilFunc,u9,gS,gC,gD,gE,gH,gG,u16,gZ,kL,kU,jT,iM,iF,iA,gX,iC,hY,iH,iK,iB,jJ,jL,u32,iG,iL,iJ,iE,kJ,kR,iN,iD,gY,iY,iU,iP,iZ,jA,iQ,jC,iW,iV,iO,nF,nL,lF,lG,kI,kV,kY,kP,kZ,kD,j7,kF,u64,kH,j8,j9,kE,lJ,kW,kM,j6],[.code G9],false⟩ (vO xT w):=by
   rw[show G9=.seq (.seq zk8 (.block 4 (.loop zdz))) zju from rfl];refine BO.seq hI ?_;refine BO.seq hI ?_;refine BO.pV nO hI uI (λw1 T1 eD Q' dD=>?_);have U0:=aD (show Dc p (vO xT w) K SC τ0.still R (G7 R St xT) W4 (λa=>xT a=true) [] [] v w1 by rw[eD];exact I.tp T1 0);have g1:w1.cell? ⟨go,1,none⟩=some (.int .i64 o.op):=aI U0.o.h.e.bo 1
   try dsimp only
   clear eD;go_wp2;refine dD.o _ _ ?_;clear dD;refine BO.block hI ?_;refine BO.loop hI ?_;exact rh_ops H o.op.toNat 0 tL K SC τ0.still R (G7 R St xT) W4 (λa=>xT a=true) [] [] v w1 _ _ _ _ _ _ _ _ _ _ _ _ _ _ _ _ _ _ _ _ _ _ _ _ _ _ _ _ _ _ _ _ _ _ _ _ _ _ _ _ _ _ _ _ _ _ _ _ _ _ _ _ _ _ _ _ _ _ _ _ _ _ _ _ _ _ _ U0.o rfl
  have h1:=ha.set 8 (.junk (v':=.pointer (some ⟨W.heap.size,0,none⟩)) X3);simp only[gF,dY,dX] at h1;have hm:=hB R W4 ⟨42,t.setIfInBounds 8 (.pointer (some ⟨W.heap.size,0,none⟩)),[.code G9],false⟩ τ0 fL ⟨rfl,rfl,rfl,h1,λx hx=>?_⟩ terra_p ⟨zmL,⟨0,0,aY.wg⟩⟩
  .rw[Cx.B_none rfl,nJ] at hm
   exact hm
  .obtain rfl:=yX.1 hx
   show(t.setIfInBounds 8 _).getD 8 aA=_;simp[sZ,cK];rfl
abbrev JS (St:Nat->Prop)(W0:aE)(Post:aF->aE->Prop)(m:Fm)(ms:List Fm)(w:aE):Prop:=JL aK (oA olL) (oA alL) fW St W0 Post m ms w
theorem rel_heap {G:Gp}(h:dB S K R G St w W)(e:w'.heap=w.heap):dB S K R G St w' W:=by
 refine⟨h.inj,h.inj',λa b x=>by rw[e];exact h.lt a b x,h.low,by rw[e];exact h.gle,λa b x=>?_,λa b x hn=>?_,λa x=>?_,λa c y hp=>?_,h.tb⟩
 .rw[e];exact h.cont a b x
 .rw[e];exact h.rest a b x hn
 .rw[e];exact h.st a x
 .rw[e] at hp;exact h.np a c y hp
def JS.heap {m:Fm}{ms:List Fm}(h:JS St W0 Post m ms w)(e:w'.heap=w.heap):JS St W0 Post m ms w':=
 λK R W m' ms' Shun a b c d k=>h K R W m' ms' Shun (rel_heap a e.symm) b c d k
def rh_tmps (a b:aF):(#[a,b]:Array aF)++nK (73-(#[a,b]:Array aF).size) aA=#[a,b,aA,aA,aA,aA,aA,aA,aA,aA,aA,aA,aA,aA,aA,aA,aA,aA,aA,aA,aA,aA,aA,aA,aA,aA,aA,aA,aA,aA,aA,aA,aA,aA,aA,aA,aA,aA,aA,aA,aA,aA,aA,aA,aA,aA,aA,aA,aA,aA,aA,aA,aA,aA,aA,aA,aA,aA,aA,aA,aA,aA,aA,aA,aA,aA,aA,aA,aA,aA,aA,aA,aA]:=aQ
structure Hall (w wn:aE)(o:fP)(es:List dQ)(hb:Nat):Prop where
 below:bY w.heap.size w wn
 ex:∃lo v ln qn,w.heap.size<=lo/\lo<=wn.heap.size/\bG wn lo hb v (sP o es ln qn qn.length)/\(ln.length:Int)=o.ln/\(qn.length:Int)=o.op
section
variable {Post:aF->aE->Prop}{W0:aE}{St:Nat->Prop}
theorem zrR {m:Fm}{ms:List Fm}{w:aE}{ops:Array aX}{i:Nat}{rest:List Nat}{k:List dI}{oo:aX}{args:Array cJ}{jM:Array aN}{A:Option bC}{n c:Nat}{o:fP}{es:List dQ}
 (hr:m.ret=false) (pS:m.todo=.inRegion ops (i::rest)::k) (ho:ops[i]? =some oo) (cF:cO oo (cS ops m.tmps)=true) (hop:oo.op=.call ⟨.value (.func 42),args,jM⟩) (rS:args.all (dP fW)=true)
 (hv:args.map m.eval=#[.agg #[.int .i64 o.ln,.int .i64 o.op,.int .i64 o.pt],.slice A n c]) (Dz:cE w 0 w.heap.size 3 A n c (pA es)) (hn:n<=1048576) (hT:qS w) (tG:zK w)
 (zEP:eM o es=false->∀wn,bY w.heap.size w wn->JS St W0 Post (m.fin ops i rest k (.pointer none)) ms wn)
 (zCz:eM o es=true->∀wn hb,Hall w wn o es hb->JS St W0 Post (m.fin ops i rest k (.pointer (some ⟨hb,0,none⟩))) ms wn):JS St W0 Post m ms w:=by
 refine JO.callF lvF hr pS ho cF hop rfl rS λK R W m' ms' Shun bZ hw hm jR mP hk Dp=>?_;rw[hv] at Dp;have nG:Dq (zey).results.toList:=.inr (.inl ⟨_,rfl⟩);have Fw:(zey).ntmps=73:=rfl;have zxO:=Dp.pad 73;rw[rh_tmps] at zxO;rw[Wm (c:=oU) zf1 rfl,Fw];have zc7:∀a,xT a=true->a<w.heap.size:=λa h=>(hw.lt a a (.inl (hw.tb a h))).1;refine BO.aloneIn (p:=aK) (gs:=Cy) (fs:=fW) (St:=St) (K:=K) (R:=R) (m:=⟨42,#[.agg #[.int .i64 o.ln,.int .i64 o.op,.int .i64 o.pt],.slice A n c,aA,aA,aA,aA,aA,aA,aA,aA,aA,aA,aA,aA,aA,aA,aA,aA,aA,aA,aA,aA,aA,aA,aA,aA,aA,aA,aA,aA,aA,aA,aA,aA,aA,aA,aA,aA,aA,aA,aA,aA,aA,aA,aA,aA,aA,aA,aA,aA,aA,aA,aA,aA,aA,aA,aA,aA,aA,aA,aA,aA,aA,aA,aA,aA,aA,aA,aA,aA,aA,aA,aA],[.code oU],false⟩) ?_ hw ⟨rfl,rfl,rfl,zxO,λx hx=>by cases hx⟩ mP hk;refine rh_start Dz hn hT (λT todo w' h4 hO bM=>?_) (λwB lo go ge K' w' v ln hb gh u0 u1 u4 u5 u6 u8 u9 gS gC gD gE gH gG u16 gZ kL kU jT iM iF iA gX iC hY iH iK iB jJ jL u32 iG iL iJ iE kJ kR iN iD gY iY iU iP iZ jA iQ jC iW iV iO nF nL lF lG kI kV kY kP kZ kD j7 kF u64 kH j8 j9 kE lJ kW kM j6 hK bM eF hgo Df Qu hR y5=>?_)
 .refine BO.aloneOut hm jR rfl hr pS (v:=.pointer none) zf1 nG (by rw[<-h4];rfl) ?_
  have zAI:bY w.heap.size w {w' with os:=w.os,tape:=w.tape,output:=w.output}:=⟨rfl,rfl,rfl,hO.1,hO.2⟩;exact JS.heap (zEP bM _ zAI) rfl
 .refine rh_phase (lo0:=w.heap.size) hR hgo Df eF bM y5 (λg hg=>?_) zc7 (λR1 Wg zqE K2 R2 w2 v2 qn u0 u1 u2 u3 u4 u5 u6 u8 u9 gS gC gD gE gH gG u16 gZ kL kU jT iM iF iA gX iC hY iH iK iB jJ jL u32 iG iL iJ iE kJ kR iN iD gY iY iU iP iZ jA iQ jC iW iV iO nF nL lF lG kI kV kY kP kZ kD j7 kF u64 kH j8 j9 kE lJ kW kM j6 zgk Lh hE=>?_)
  .have rF:=zc7 g hg
   rw[hR.e.old g aC,Qu g rF];exact tG g hg
  .have zgk:K'.le K2:=zgk
   have Lh:R1.le R2:=Lh;obtain⟨hA,hold,hz,zd8,Tl⟩:=hE;have hA:bG w2 lo hb v2 (sP o es ln qn qn.length):=hA;have hold:∀b,b<w.heap.size->w2.heap[b]? =w'.heap[b]? :=hold;have hz:lo<=w2.heap.size:=hz;have zd8:w2.heap[gh]? =some (.cells #[.pointer (some ⟨hb,0,none⟩)] 63):=zd8;have zvr:∀b,b<w.heap.size->w2.heap[b]? =w.heap[b]? :=λb b9=>by
    rw[hold b b9,hR.e.old b aC,Qu b b9]
   have HA:=aD hA;have HO:=aD zvr;have HB:=aD zd8;clear hA hold zvr zd8;show BO (Fv aK Cy fW Post (B6 Shun Wg) W0 St K2 R2 (m'.fr::ms'.map Fm.fr)) () _ _;refine BO.regEnd dG ?_;refine BO.seq dG ?_;refine BO.pV nO dG uI (λw3 T1 jB Q' dD=>?_);have g1:(Tt.tp w2 T1 0).cell? ⟨gh,0,none⟩=some (.pointer (some ⟨hb,0,none⟩)):=aI HB.o 0;have e3:w3.heap=w2.heap:=by rw[jB];rfl
   have vH:=aD e3
   try dsimp only
   rw[<-jB] at g1;clear jB e3;go_wp2;refine dD.o _ _ ?_;clear dD;refine BO.ret dG ?_;refine BO.aloneOut (pL.monoK (wH hK zgk) (hm.mono (zqE.trans Lh))) (vF.monoK (wH hK zgk) (jR.mono (zqE.trans Lh))) rfl hr pS (v:=.pointer (some ⟨hb,0,none⟩)) zf1 nG rfl ?_;have hH:Hall w {w2 with os:=w.os,tape:=w.tape,output:=w.output} o es hb:=⟨⟨rfl,rfl,rfl,by grind,HO.o⟩,lo,v2,ln,qn,eF,hz,HA.o.same rfl,y5,Tl⟩;exact JS.heap (zCz bM _ _ hH) vH.o
end
end Go.Proofs.YtfcjiloojkjaeaaGreatDoor
namespace Go.Proofs.YtfcjiloojkjaeaaGreatDoor
open Go.RowKit Go.Mt Go.Conc Go.Tt
structure Bl (B:Nat)(w w':aE):Prop where
 size:w.heap.size<=w'.heap.size
 block:∀b,b<B->w'.heap[b]? =w.heap[b]?
def Bl.refl (B:Nat)(w:aE):Bl B w w:=⟨bL _,λ_ _=>rfl⟩
variable {B:Nat}
def Bl.tp {a b:aE}(h:Bl B a b)(T:kS)(e:Nat):Bl B a (Tt.tp b T e):=⟨h.size,h.block⟩
theorem Bl.al {a b:aE}(h:Bl B a b)(hB:B<=a.heap.size)(o:Obj):Bl B a (b.alloc o):=⟨by rw[vI];have:=h.size;omega,λx hx=>(Cs zl7).trans (h.block x hx)⟩
variable {w w':aE}{A:Option bC}{xs:List aF}
def cE.bl {s n c:Nat}(h:cE w 0 w.heap.size s A n c xs)(k:Bl w.heap.size w w'):cE w' 0 w'.heap.size s A n c xs:=
 (h.keep k.size λb _ _ h3=>k.block b h3).wide (bL _) k.size
section
variable {p:bT}{op gs gs₁ fs:aO->Bool}{St:Nat->Prop}{W0:aE}{Post:aF->aE->Prop}
variable {c:wS}{k:List dI}{ms:List Fm}
theorem JO.sq (L:Lv p op gs gs₁ fs){fn:aO}{tmps:Array aF}{w:aE}(hf:op fn=false)(h:JL p op gs fs St W0 Post ⟨fn,tmps,.code (sA c):: .code (sB c)::k,false⟩ ms w)(e:c=.seq (sA c) (sB c):=by exact rfl):JL p op gs fs St W0 Post ⟨fn,tmps,.code c::k,false⟩ ms w:=by
 rw[e];exact JO.seq L hf h
theorem JO.cd (L:Lv p op gs gs₁ fs){fn:aO}{tmps:Array aF}{w:aE}(t:Bool)(hf:op fn=false)(h:JL p op gs fs St W0 Post ⟨fn,tmps,.code (if t then cA c else cB c)::k,false⟩ ms w)(hc:(bE tmps []).eval (cX c)=.bool t:=by exact rfl)(e:c=.cond (cX c) (cA c) (cB c):=by exact rfl):JL p op gs fs St W0 Post ⟨fn,tmps,.code c::k,false⟩ ms w:=by
 rw[e];exact JO.cond L hf hc h
theorem JO.sk (L:Lv p op gs gs₁ fs){fn:aO}{tmps:Array aF}{w:aE}(hf:op fn=false)(h:JL p op gs fs St W0 Post ⟨fn,tmps,k,false⟩ ms w)(e:c=.skip:=by exact rfl):JL p op gs fs St W0 Post ⟨fn,tmps,.code c::k,false⟩ ms w:=by
 rw[e];exact JO.skip L hf h
theorem JO.rt (L:Lv p op gs gs₁ fs){fn:aO}{tmps:Array aF}{w:aE}(hf:op fn=false)(h:JL p op gs fs St W0 Post ⟨fn,tmps,.code .ret::k,true⟩ ms w)(e:c=.ret:=by exact rfl):JL p op gs fs St W0 Post ⟨fn,tmps,.code c::k,false⟩ ms w:=by
 rw[e];exact JO.ret L hf h
theorem JO.rn (L:Lv p op gs gs₁ fs){fn:aO}{tmps:Array aF}{w:aE}(hf:op fn=false)(ops:Array aX)(is:List Nat)(h:JL p op gs fs St W0 Post ⟨fn,tmps,.inRegion ops is::k,false⟩ ms w)(e:c=.region (bI c) ops false:=by exact rfl)(hr:fV ops.size=is:=by exact rfl):JL p op gs fs St W0 Post ⟨fn,tmps,.code c::k,false⟩ ms w:=by
 subst hr;rw[e];exact JO.reg L hf h
theorem JO.pQ (L:Lv p op gs gs₁ fs){fn:aO}{tmps:Array aF}{c':wS}{b:List Fm}{w:aE}(Al:op fn=false)
 (vM:∀(T:kS) (Q:Exit->Go.Act->aE->Prop),rA (∀a' w',JL p op gs fs St W0 Post ⟨fn,a'.tmps,k,false⟩ b w'->Q .normal a' w')->Code.wp p c' Q ⟨tmps,[]⟩ (Tt.tp w T 0)) (e:c=c':=by conv=>lhs;whnf) (hc:qG p ⟨fs,gs₁,true⟩ c=true:=by kernel_rfl):
 JL p op gs fs St W0 Post ⟨fn,tmps,.code c::k,false⟩ b w:=by
 subst e;exact JO.piece L hc Al λT=>vM T _ (aD λa' w' h=>⟨rfl,h⟩)
theorem JO.mv (L:Lv p op gs gs₁ fs){fn:aO}{tmps T':Array aF}{ops:Array aX}{i:Nat}{rest:List Nat}{w:aE}{o:aX}(hf:op fn=false)(v:aF)(h:JL p op gs fs St W0 Post ⟨fn,T',.inRegion ops rest::k,false⟩ ms w)(ho:ops[i]? =some o:=by exact zbS rfl (by conv=>lhs;whnf))
 (hx:∀T e,(aS (bE tmps []).eval o).run p (Tt.tp w T e)=.ok (.value v) (Tt.tp w T e):=by exact λ_ _=>rfl) (cF:cO o (cS ops tmps)=true:=by exact rfl)
 (ht:(b7 ⟨tmps,[]⟩ o.dst v).tmps=T':=by first|(simp only[Go.Act.put,List.setIfInBounds_toArray,List.set_cons_zero,List.set_cons_succ];done)|(simp only[Go.Act.put,List.setIfInBounds_toArray,List.set_cons_zero,List.set_cons_succ];rfl)):JL p op gs fs St W0 Post ⟨fn,tmps,.inRegion ops (i::rest)::k,false⟩ ms w:=
 JO.opv L hf ho cF hx (ht▸h)
end
def cE.tp {lo hi s n c:Nat}(h:cE w lo hi s A n c xs)(T:kS)(e:Nat):cE (Tt.tp w T e) lo hi s A n c xs:=⟨h.len,h.le,h.cap,h.at_⟩
def x6 (o:fP)(es:List dQ):List (List UInt8):=(vD o es).log
def Nw (o:fP)(es:List dQ):Int:=if eM o es then(C8 o es).clk else-1
def bodyRO:Go.Code:=(zhq.body).getD .skip
def rRO1:Go.Code:=match bodyRO with| .seq _ (.seq (a) _)=>a|_=>.skip
def zbK:Array Oper:=match rRO1 with| .region _ ops _=>ops|_=>#[]
abbrev oRO1_0:Oper:=aM zbK 0 (some 7) (.load 29 (.tmp 2))
def opsRO1_0:zbK[0]? =some oRO1_0:=rfl
abbrev oRO1_2:Oper:=aM zbK 2 (some 9) (.call ⟨.value (.func 42),#[.tmp 7,.tmp 8],#[29,31]⟩)
def ziI:zbK[2]? =some oRO1_2:=rfl
section
variable {St:Nat->Prop}{W0:aE}{Post:aF->aE->Prop}
theorem zpO {m:Fm}{ms:List Fm}{w:aE}{ops:Array aX}{i:Nat}{rest:List Nat}{k:List dI}{oo:aX}{args:Array cJ}{jM:Array aN}{A:Option bC}{n c:Nat}{o:fP}{es:List dQ}
 (hr:m.ret=false) (Yz:oA olL m.fn=false) (pS:m.todo=.inRegion ops (i::rest)::k) (ho:ops[i]? =some oo) (cF:cO oo (cS ops m.tmps)=true) (hop:oo.op=.call ⟨.value (.func 14),args,jM⟩)
 (hv:args.map m.eval=#[.agg #[.int .i64 o.ln,.int .i64 o.op,.int .i64 o.pt],.slice A n c]) (Dz:cE w 0 w.heap.size 3 A n c (pA es)) (hn:n<=1048576) (hT:qS w) (tG:zK w)
 (hJ:∀wn V,Bl w.heap.size w wn->wn.ownsRow w.heap.size 9 1 V (x6 o es).length (nV (x6 o es))->JS St W0 Post (m.fin ops i rest k (.tuple #[V,.bool (eM o es)])) ms wn):JS St W0 Post m ms w:=by
 have L:=lvF;have cD:oA olL 14=false:=aP;have zi5:=JO.callN (St:=St) (W0:=W0) (Post:=Post) (ms:=ms) (w:=w) (fn:=zhq) (c:=bodyRO) L hr pS ho cF hop cD;refine zi5 zu8 aH rfl ?_;rw[hv];have An:(#[.agg #[.int .i64 o.ln,.int .i64 o.op,.int .i64 o.pt],.slice A n c]:Array aF)++nK ((zhq).ntmps-(#[.agg #[.int .i64 o.ln,.int .i64 o.op,.int .i64 o.pt],.slice A n c]:Array aF).size) aA=#[.agg #[.int .i64 o.ln,.int .i64 o.op,.int .i64 o.pt],.slice A n c,aA,aA,aA,aA,aA,aA,aA,aA,aA,aA,aA,aA,aA,aA]:=by
  have e:(zhq).ntmps=16:=rfl;rw[e];apply Jb;simp only[P3,zbv,Ev,wL,zF];rfl
 rw[An];have qI:w.heap.size<=w.heap.size:=bL _;have Qa:∀(tmps:Array aF) (td:List dI) (w':aE) (V:aF),tmps.getD 4 aA=V->tmps.getD 5 aA=.bool (eM o es)->Bl w.heap.size w w'->w'.ownsRow w.heap.size 9 1 V (x6 o es).length (nV (x6 o es))->JS St W0 Post ⟨14,tmps,td,true⟩ (m::ms) w':=by
  intro tmps td w' V e4 e5 hb dF;refine JO.back L rfl pS zu8 (v:=.tuple #[V,.bool (eM o es)]) ?_ Yz (hJ w' V hb dF);show(oC [.tmp 4,.tmp 5] tmps).run _ _=_;simp only[oC,yK,e4,e5];rfl
 refine JO.sq L cD ?_;refine JO.pQ L cD (λTp Q HQ=>?_);obtain⟨w1,eD⟩:=aT (Tt.tp w Tp 0);have B0:=aD (show Bl w.heap.size w w1 by rw[eD];exact(Bl.refl _ w).tp Tp 0);have dS:w1.heap.size=w.heap.size:=by rw[eD];rfl
 have eh:w1.heap=w.heap:=by rw[eD];rfl
 have EH:=aD eh;rw[<-eD];clear eD eh;go_wp2;refine HQ.o _ _ ?_;clear HQ;obtain⟨w2,eZ⟩:=aT (w1.alloc (.cells #[.int .i64 o.ln,.int .i64 o.op,.int .i64 o.pt] 29));have k2:∀b,b<w.heap.size->w2.heap[b]? =w.heap[b]? :=λb hb=>by rw[eZ,Cs aC,EH.o]
 have z2:w2.heap.size=w.heap.size+1:=by rw[eZ,vI,dS]
 have g2:w2.heap[w1.heap.size]? =some (.cells #[.int .i64 o.ln,.int .i64 o.op,.int .i64 o.pt] 29):=by rw[eZ];exact Ec _ _
 have zlB:bY w.heap.size w {w2 with os:=w.os,tape:=w.tape,output:=w.output}:=⟨rfl,rfl,rfl,by show w.heap.size<=w2.heap.size;omega,k2⟩;have zmQ:qS w2:=Pk (w:={w2 with os:=w.os,tape:=w.tape,output:=w.output}) rfl (zhK hT _ zlB);have znV:zK w2:=λg hg=>by
  obtain⟨c,T,fz,h1,h2⟩:=tG g hg;exact⟨c,T,fz,(k2 g (dR.1 h1).1).trans h1,h2⟩
 have Ai:cE w2 0 w2.heap.size 3 A n c (pA es):=(Dz.keep aC λb _ q _=>k2 b q).wide (bL _) aC;rw[<-eZ];clear eZ;rw[dS] at g2;refine JO.sq L cD ?_;refine JO.rn L cD zbK [0,1,2,3] ?_;refine JO.opv L (v:=.agg #[.int .i64 o.ln,.int .i64 o.op,.int .i64 o.pt]) cD opsRO1_0 rfl (λT e=>?_) ?_
 .have c0:(Tt.tp w2 T e).cell? ⟨w.heap.size,0,none⟩=some (.int .i64 o.ln):=aI g2 0
  have c1:(Tt.tp w2 T e).cell? ⟨w.heap.size,1,none⟩=some (.int .i64 o.op):=aI g2 1;have c2:(Tt.tp w2 T e).cell? ⟨w.heap.size,2,none⟩=some (.int .i64 o.pt):=aI g2 2;unfold aS;go_simp
  try rfl
 simp only[b7,gF,dY,dX];refine JO.mv L cD (.slice A n c) ?_;refine zrR (o:=o) (es:=es) rfl rfl ziI rfl rfl aP zeO Ai hn zmQ znV (λbM wn hb=>?_) (λbM wn hb hH=>?_)
 .simp only[Fm.fin,ziI,uF,gF,dY,dX]
  have b9:Bl w.heap.size w wn:=⟨by have:=hb.size;omega,λb b9=>(hb.block b aC).trans (k2 b b9)⟩;refine JO.mv L cD (.pointer none) ?_;refine JO.regEnd L cD ?_;refine JO.sq L cD ?_;refine JO.sq L cD ?_;refine JO.pQ L cD (λTp Q HQ=>?_);go_wp2;refine HQ.o _ _ ?_;clear HQ;refine JO.cd L true cD ?_;refine JO.sq L cD ?_;refine JO.pQ L cD (λFc Q HQ=>?_);go_wp2;refine HQ.o _ _ ?_;clear HQ;refine JO.rt L cD ?_;exact Qa _ _ _ _ rfl (by rw[bM];rfl) ((b9.tp Tp 0).tp Fc 0) (by simp[x6,vD,bM,mU];exact⟨rfl,.inl ⟨rfl,rfl⟩⟩)
 .simp only[Fm.fin,ziI,uF,gF,dY,dX]
  obtain⟨lQ,lo,v,ln,qn,h1,h2,hA,h3,h4⟩:=hH;have b9:Bl w.heap.size w wn:=⟨by have:=lQ.size;omega,λb b9=>(lQ.block b aC).trans (k2 b b9)⟩;have HA:=aD hA;have zka:=aD b9;clear hA b9 lQ;refine JO.mv L cD (.pointer (some ⟨hb,0,none⟩)) ?_;refine JO.regEnd L cD ?_;refine JO.sq L cD ?_;refine JO.sq L cD ?_;refine JO.pQ L cD (λTp Q HQ=>?_);go_wp2;refine HQ.o _ _ ?_;clear HQ;refine JO.cd L false cD ?_;refine JO.sk L cD ?_;refine JO.sq L cD ?_;refine JO.pQ L cD (λFc Q HQ=>?_);obtain⟨w5,mV⟩:=aT (Tt.tp (Tt.tp wn Tp 0) Fc 0);have c5:w5.cell? ⟨hb,12,none⟩=some (v.sA):=by rw[mV];exact aI HA.o.blk 12
  have A5:=aD (show bG w5 lo hb v (sP o es ln qn qn.length) by rw[mV];exact HA.o.same rfl);have B5:=aD (show Bl w.heap.size w w5 by rw[mV];exact(zka.o.tp Tp 0).tp Fc 0);rw[<-mV];clear mV;go_wp2;refine HQ.o _ _ ?_;clear HQ;refine JO.rt L cD ?_;exact Qa _ _ _ _ rfl (by rw[bM];rfl) B5.o (by simp only[x6,vD,bM,if_true];exact zqC A5.o.A aC)
end
def bodyCA:Go.Code:=(zgO.body).getD .skip
def rCA1:Go.Code:=match bodyCA with| .seq _ (.seq (a) _)=>a|_=>.skip
def zaF:Array Oper:=match rCA1 with| .region _ ops _=>ops|_=>#[]
abbrev oCA1_0:Oper:=aM zaF 0 (some 6) (.load 29 (.tmp 2))
def opsCA1_0:zaF[0]? =some oCA1_0:=rfl
abbrev oCA1_2:Oper:=aM zaF 2 (some 8) (.call ⟨.value (.func 42),#[.tmp 6,.tmp 7],#[29,31]⟩)
def zlc:zaF[2]? =some oCA1_2:=rfl
section
variable {St:Nat->Prop}{W0:aE}{Post:aF->aE->Prop}
theorem zuZ {m:Fm}{ms:List Fm}{w:aE}{ops:Array aX}{i:Nat}{rest:List Nat}{k:List dI}{oo:aX}{args:Array cJ}{jM:Array aN}{A:Option bC}{n c:Nat}{o:fP}{es:List dQ}
 (hr:m.ret=false) (Yz:oA olL m.fn=false) (pS:m.todo=.inRegion ops (i::rest)::k) (ho:ops[i]? =some oo) (cF:cO oo (cS ops m.tmps)=true) (hop:oo.op=.call ⟨.value (.func 30),args,jM⟩)
 (hv:args.map m.eval=#[.agg #[.int .i64 o.ln,.int .i64 o.op,.int .i64 o.pt],.slice A n c]) (Dz:cE w 0 w.heap.size 3 A n c (pA es)) (hn:n<=1048576) (hT:qS w) (tG:zK w)
 (hJ:∀wn V,Bl w.heap.size w wn->V=.int .i64 (Nw o es)->JS St W0 Post (m.fin ops i rest k (V)) ms wn):JS St W0 Post m ms w:=by
 have L:=lvF;have cD:oA olL 30=false:=aP;have zi5:=JO.callN (St:=St) (W0:=W0) (Post:=Post) (ms:=ms) (w:=w) (fn:=zgO) (c:=bodyCA) L hr pS ho cF hop cD;refine zi5 zqZ aH rfl ?_;rw[hv];have An:(#[.agg #[.int .i64 o.ln,.int .i64 o.op,.int .i64 o.pt],.slice A n c]:Array aF)++nK ((zgO).ntmps-(#[.agg #[.int .i64 o.ln,.int .i64 o.op,.int .i64 o.pt],.slice A n c]:Array aF).size) aA=#[.agg #[.int .i64 o.ln,.int .i64 o.op,.int .i64 o.pt],.slice A n c,aA,aA,aA,aA,aA,aA,aA,aA,aA,aA,aA,aA,aA]:=by
  have e:(zgO).ntmps=15:=rfl;rw[e];apply Jb;simp only[P3,zbv,Ev,wL,zF];rfl
 rw[An];have qI:w.heap.size<=w.heap.size:=bL _;have Qa:∀(tmps:Array aF) (td:List dI) (w':aE) (V:aF),tmps.getD 4 aA=V->Bl w.heap.size w w'->V=.int .i64 (Nw o es)->JS St W0 Post ⟨30,tmps,td,true⟩ (m::ms) w':=by
  intro tmps td w' V e4 hb dF;refine JO.back L rfl pS zqZ (v:=V) ?_ Yz (hJ w' V hb dF);show(oC [.tmp 4] tmps).run _ _=_;simp only[oC,yK,e4];rfl
 refine JO.sq L cD ?_;refine JO.pQ L cD (λTp Q HQ=>?_);obtain⟨w1,eD⟩:=aT (Tt.tp w Tp 0);have B0:=aD (show Bl w.heap.size w w1 by rw[eD];exact(Bl.refl _ w).tp Tp 0);have dS:w1.heap.size=w.heap.size:=by rw[eD];rfl
 have eh:w1.heap=w.heap:=by rw[eD];rfl
 have EH:=aD eh;rw[<-eD];clear eD eh;go_wp2;refine HQ.o _ _ ?_;clear HQ;obtain⟨w2,eZ⟩:=aT (w1.alloc (.cells #[.int .i64 o.ln,.int .i64 o.op,.int .i64 o.pt] 29));have k2:∀b,b<w.heap.size->w2.heap[b]? =w.heap[b]? :=λb hb=>by rw[eZ,Cs aC,EH.o]
 have z2:w2.heap.size=w.heap.size+1:=by rw[eZ,vI,dS]
 have g2:w2.heap[w1.heap.size]? =some (.cells #[.int .i64 o.ln,.int .i64 o.op,.int .i64 o.pt] 29):=by rw[eZ];exact Ec _ _
 have zlB:bY w.heap.size w {w2 with os:=w.os,tape:=w.tape,output:=w.output}:=⟨rfl,rfl,rfl,by show w.heap.size<=w2.heap.size;omega,k2⟩;have zmQ:qS w2:=Pk (w:={w2 with os:=w.os,tape:=w.tape,output:=w.output}) rfl (zhK hT _ zlB);have znV:zK w2:=λg hg=>by
  obtain⟨c,T,fz,h1,h2⟩:=tG g hg;exact⟨c,T,fz,(k2 g (dR.1 h1).1).trans h1,h2⟩
 have Ai:cE w2 0 w2.heap.size 3 A n c (pA es):=(Dz.keep aC λb _ q _=>k2 b q).wide (bL _) aC;rw[<-eZ];clear eZ;rw[dS] at g2;refine JO.sq L cD ?_;refine JO.rn L cD zaF [0,1,2,3] ?_;refine JO.opv L (v:=.agg #[.int .i64 o.ln,.int .i64 o.op,.int .i64 o.pt]) cD opsCA1_0 rfl (λT e=>?_) ?_
 .have c0:(Tt.tp w2 T e).cell? ⟨w.heap.size,0,none⟩=some (.int .i64 o.ln):=aI g2 0
  have c1:(Tt.tp w2 T e).cell? ⟨w.heap.size,1,none⟩=some (.int .i64 o.op):=aI g2 1;have c2:(Tt.tp w2 T e).cell? ⟨w.heap.size,2,none⟩=some (.int .i64 o.pt):=aI g2 2;unfold aS;go_simp
  try rfl
 simp only[b7,gF,dY,dX];refine JO.mv L cD (.slice A n c) ?_;refine zrR (o:=o) (es:=es) rfl rfl zlc rfl rfl aP zeO Ai hn zmQ znV (λbM wn hb=>?_) (λbM wn hb hH=>?_)
 .simp only[Fm.fin,zlc,uF,gF,dY,dX]
  have b9:Bl w.heap.size w wn:=⟨by have:=hb.size;omega,λb b9=>(hb.block b aC).trans (k2 b b9)⟩;refine JO.mv L cD (.pointer none) ?_;refine JO.regEnd L cD ?_;refine JO.sq L cD ?_;refine JO.sq L cD ?_;refine JO.pQ L cD (λTp Q HQ=>?_);go_wp2;refine HQ.o _ _ ?_;clear HQ;refine JO.cd L true cD ?_;refine JO.sq L cD ?_;refine JO.pQ L cD (λFc Q HQ=>?_);go_wp2;refine HQ.o _ _ ?_;clear HQ;refine JO.rt L cD ?_;exact Qa _ _ _ _ rfl ((b9.tp Tp 0).tp Fc 0) (by simp[Nw,bM])
 .simp only[Fm.fin,zlc,uF,gF,dY,dX]
  obtain⟨lQ,lo,v,ln,qn,h1,h2,hA,h3,h4⟩:=hH;have b9:Bl w.heap.size w wn:=⟨by have:=lQ.size;omega,λb b9=>(lQ.block b aC).trans (k2 b b9)⟩;have HA:=aD hA;have zka:=aD b9;clear hA b9 lQ;refine JO.mv L cD (.pointer (some ⟨hb,0,none⟩)) ?_;refine JO.regEnd L cD ?_;refine JO.sq L cD ?_;refine JO.sq L cD ?_;refine JO.pQ L cD (λTp Q HQ=>?_);go_wp2;refine HQ.o _ _ ?_;clear HQ;refine JO.cd L false cD ?_;refine JO.sk L cD ?_;refine JO.sq L cD ?_;refine JO.pQ L cD (λFc Q HQ=>?_);obtain⟨w5,mV⟩:=aT (Tt.tp (Tt.tp wn Tp 0) Fc 0);have c5:w5.cell? ⟨hb,11,none⟩=some (.int .i64 (sP o es ln qn qn.length).r.clk):=by rw[mV];exact aI HA.o.blk 11
  have A5:=aD (show bG w5 lo hb v (sP o es ln qn qn.length) by rw[mV];exact HA.o.same rfl);have B5:=aD (show Bl w.heap.size w w5 by rw[mV];exact(zka.o.tp Tp 0).tp Fc 0);rw[<-mV];clear mV;go_wp2;refine HQ.o _ _ ?_;clear HQ;refine JO.rt L cD ?_;exact Qa _ _ _ _ rfl B5.o (by simp[Nw,bM,sP])
end
theorem qS.bls (h:qS w)(hb:Bl B w w')(hB:w.heap.size<=B):qS w':=by
 have b9:bY w.heap.size w {w' with os:=w.os,tape:=w.tape,output:=w.output}:=⟨rfl,rfl,rfl,hb.size,λb zv8=>hb.block b aC⟩;exact Pk (w:={w' with os:=w.os,tape:=w.tape,output:=w.output}) rfl (zhK h _ b9)
theorem zK.bls (h:zK w)(hb:Bl B w w')(hB:w.heap.size<=B):zK w':=by
 intro g hg;obtain⟨c,T,fz,hc,hu⟩:=h g hg;exact⟨c,T,fz,(hb.block g (by have:=(dR.1 hc).1;omega)).trans hc,hu⟩
theorem zfI {p:bT}{o:aX}{t:aN}{x:cJ}{ρ:cJ->aF}{b:Nat}{cs:Array aF}{T:aN}{fz:Nat×Nat}{d:TypeDesc}(hop:o.op=.load t x)(hb:w.heap[b]? =some (.cells cs T fz))(hx:ρ x=.pointer (some ⟨b,0,none⟩))
 (hu:p.underlying t=some d) (hd:d.isRow=true) (hi:(p.info? t).map (·.size)=some cs.size):(aS ρ o).run p w=.ok (.value (.agg cs)) w:=by
 obtain⟨dst,yJ,type,pos,after,guard⟩:=o;simp only at hop;subst hop;have:=run_loadAt_mid (P:=p) w b 0 t cs.toList d (λj v hj=>by rw[rL,aI hb];simpa using hj) hu hd zhD;simp only[aS,hx,Sem.run_bind,this,Result.andThen_ok];rfl
end Go.Proofs.YtfcjiloojkjaeaaGreatDoor
namespace Go.Proofs.YtfcjiloojkjaeaaGreatDoor
open Go.ChangeShapes Go.WideShapes Go.ChangeAt Go.RowKit Go.Mt Go.Conc Go.Tt
def S7:List (String×DataW Unit):=[("math/bits.deBruijn32tab",Rows.laid_math_bits_deBruijn32tab),("math/bits.deBruijn64tab",Rows.laid_math_bits_deBruijn64tab),("internal/strconv.uint64pow10",Rows.laid_internal_strconv_uint64pow10)]
def door_met (os:Os)(args:Array aF):laidMetH aK S7 ((aE.doorLaid aK 400 os).forCall (λ_ _=>0) ⟨#[],args,[]⟩).memory:=
 laidMetH_of_parts3 (fuel:=8) (laidMet_of_run' 8 aP aP) aP aP
def pow_eq:Rows.laid_internal_strconv_uint64pow10 (H:=Unit)=Lib.tabData .u64 Lib.pow10Tab:=aP
variable {W:aE}
theorem of_laid (h:laidMetH aK S7 W):qS W:=by
 rw[zoD _ _ _ aP] at h;obtain⟨ps,⟨g0,t0,Gh,f0,p0,q0,So,zix,gU,Tr,⟨g1,t1,uD,f1,p1,q1,rF,Hi,qF,Tj,⟨g2,t2,zuD,f2,p2,q2,o6,zqg,Bt,Az,_,_⟩,_⟩,_⟩,_⟩:=h;have e1:aK.globalNamed "internal/strconv.uint64pow10" =some 0:=aP;have e2:(aK.globals[0]?).map (·.type)=some 170:=aP;obtain rfl:=cH (e1.symm.trans o6);obtain rfl:=cH (e2.symm.trans zqg);rw[pow_eq] at Az;unfold qS zgg;rw[Bt,<-Lib.cells_of_tab Tryz.underlying170 Tryz.underlying89 aP aP Az]
theorem zg1 {nm:String}{g:Nat}{cs:Array aF}(hg:aK.globalNamed nm=some g)(h:W.var? aK nm=some cs):∃T fz,W.heap[g]? =some (.cells cs T fz):=by
 unfold zgm at h;rw[hg] at h;simp only[uF] at h;split at h
 .rename_i c T fz hb
  injection h with h;subst h;exact⟨T,fz,hb⟩
 .cases h
theorem zI7 (g:Nat)(h:Ba aK g=true):aK.globalNamed "math/bits.deBruijn32tab" =some g\/aK.globalNamed "math/bits.deBruijn64tab" =some g\/aK.globalNamed "internal/strconv.uint64pow10" =some g:=by
 have sY:((fV aK.globals.size).all λg=>!(Ba aK g)||decide (aK.globalNamed "math/bits.deBruijn32tab" =some g)||decide (aK.globalNamed "math/bits.deBruijn64tab" =some g)||decide (aK.globalNamed "internal/strconv.uint64pow10" =some g))=true:=aP;have aU:g<Tryz.prog.globals.size:=by
  unfold Ba at h
  cases e:aK.globals[g]? with
  |none=>rw[e] at h;cases h
  |some x=>exact(dR.1 e).1
 have:=List.all_eq_true.1 sY g (List.mem_range.2 aU);simp only[h,Bool.not_true,Bool.false_or,C4,decide_eq_true_eq] at this;rcases this with(h|h)|h
 .exact .inl h
 .exact .inr (.inl h)
 .exact .inr (.inr h)
theorem zIm (h:laidMetH aK S7 W)(g:Nat)(hg:Ba aK g=true):∃c T fz,W.heap[g]? =some (.cells c T fz):=by
 rw[zoD _ _ _ aP] at h;obtain⟨ps,⟨g0,t0,Gh,f0,p0,q0,So,zix,gU,Tr,⟨g1,t1,uD,f1,p1,q1,rF,Hi,qF,Tj,⟨g2,t2,zuD,f2,p2,q2,o6,zqg,Bt,Az,_,_⟩,_⟩,_⟩,_⟩:=h;rcases zI7 g hg with e|e|e
 .exact⟨Gh,zg1 e gU⟩
 .exact⟨uD,zg1 e qF⟩
 .exact⟨zuD,zg1 e Bt⟩
def V9 (A:Option bC)(b:Nat):Bool:=match A with|some a=>decide (a.block=b)|none=>false
def K8 (A1 A2 A3:Option bC)(b:Nat):Bool:=Ba aK b||V9 A1 b||V9 A2 b||V9 A3 b
variable {A:Option bC}
theorem zj0 {b:Nat}(h:V9 A b=true):∃a,A=some a/\a.block=b:=by
 unfold V9 at h
 cases A with
 |none=>cases h
 |some a=>exact⟨a,rfl,of_decide_eq_true h⟩
theorem zGL {A1 A2 A3:Option bC}(hL:laidMetH aK S7 W)(h1:∀a,A1=some a->a.spot=none/\∃c T fz,W.heap[a.block]? =some (.cells c T fz))(h2:∀a,A2=some a->a.spot=none/\∃c T fz,W.heap[a.block]? =some (.cells c T fz))(h3:∀a,A3=some a->a.spot=none/\∃c T fz,W.heap[a.block]? =some (.cells c T fz))(b:Nat)(hb:K8 A1 A2 A3 b=true):∃c T fz,W.heap[b]? =some (.cells c T fz):=by
 unfold K8 at hb;simp only[C4] at hb;rcases hb with((hb|hb)|hb)|hb
 .exact zIm hL b hb
 .obtain⟨a,e,rfl⟩:=zj0 hb;exact(h1 a e).2
 .obtain⟨a,e,rfl⟩:=zj0 hb;exact(h2 a e).2
 .obtain⟨a,e,rfl⟩:=zj0 hb;exact(h3 a e).2
variable {X:Nat->Bool}
theorem zEA (h:∀a,A=some a->X a.block=true):xF (R0 X) A A:=by
 cases A with
 |none=>exact .none
 |some a=>
  have:=h a rfl;obtain⟨bl,of,sp⟩:=a;exact .some (.mk ⟨rfl,this⟩)
variable {S:aO->Prop}
theorem zEm (hX:∀b,X b=true->∃c T fz,W.heap[b]? =some (.cells c T fz))(hT:∀g,Ba aK g=true->X g=true):zK (Ea S X W):=by
 intro g hg;obtain⟨c,T,fz,hc⟩:=hX g (hT g hg);refine⟨_,_,_,zbJ hc (hT g hg),λv hv=>?_⟩;obtain⟨u,_,rfl⟩:=Array.mem_map.1 hv;exact(zgc S u).1
theorem gv_ints (S:aO->Prop)(zs:List Int):((zs.map λz=>Lx .u64 z).toArray).map (gv S)=(zs.map λz=>Lx .u64 z).toArray:=by
 apply Jb;simp only[Array.toList_map,List.map_map];exact List.map_congr_left λz _=>(zgc S _).2.2 (.inl ⟨_,_,rfl⟩)
theorem zC3 (hX:∀b,X b=true->∃c T fz,W.heap[b]? =some (.cells c T fz))(hT:∀g,Ba aK g=true->X g=true)(h:qS W):qS (Ea S X W):=by
 have e1:aK.globalNamed "internal/strconv.uint64pow10" =some 0:=aP;have e2:Ba aK 0=true:=aP;unfold qS zgg at*;obtain⟨T,fz,hc⟩:=zg1 e1 h;have kQ:=zbJ (S:=S) hc (hT _ e2);unfold zgm;rw[e1];simp only[uF,kQ];exact congrArg some (gv_ints S _)
end Go.Proofs.YtfcjiloojkjaeaaGreatDoor
namespace Go.Proofs.YtfcjiloojkjaeaaGreatDoor
theorem pF {a b:Bool}(h:a=true)(k:b=true):(a&&b)=true:=by rw[h,k];rfl
namespace Facts
def zuK:laidOutB Tryz.pinned.checked.prog=true:=aP
def mapsRowed:mapsRowed Tryz.pinned.checked.prog=true:=aP
def stops:(Tryz.pinned.checked.prog.stops==[])=true:=aP
def stopKnobs:(Tryz.pinned.checked.prog.stopKnobs==[])=true:=aP
def plainKeys:(Rows.fnExactRunOfficeRow.plainKeys==Tryz.pinned.checked.prog.plainKeys)=true:=aP
def stopsHeard:Tryz.pinned.checked.prog.stopsHeard=true:=aP
def mayEnter:Tryz.pinned.checked.prog.mayEnter=true:=aP
def lifted:(Rows.fnExactRunOfficeRow.lifted==Tryz.pinned.checked.prog.liftsFinal)=true:=aP
def make:(Tryz.pinned.checked.prog.make==some Rows.fnExactRunOfficeRow.make)=true:=aP
def mainIs:Tryz.pinned.checked.prog.mainIs=some (Rows.fnExactRunOfficeCard.stood.harness.1,Rows.fnExactRunOfficeCard.stood.harness.2.toList):=aP
def looks:Rows.fnExactRunOfficeCard.stood.looks=Tryz.pinned.checked.prog.looks []:=aP
end Facts
end Go.Proofs.YtfcjiloojkjaeaaGreatDoor
namespace Go.Proofs.YtfcjiloojkjaeaaGreatDoor
open Go.RowKit
structure qL (w0:aE)(g:Nat)(A:Option bC)(n c q:Nat)(E s:Nat)(v:aF)(k:Nat)(xs:List aF)(W:aE):Prop where
 rd:Rd W g A n c q
 own:W.ownsRow w0.heap.size E s v k xs
 gr:w0.grownBy W (some g)
 hg:g<w0.heap.size
section
variable {w0:aE}{g:Nat}{A:Option bC}{n c q:Nat}{E s:Nat}{v:aF}{k:Nat}{xs:List aF}{W W':aE}
def qL.hb (h:qL w0 g A n c q E s v k xs W):w0.heap.size<=W.heap.size:=h.gr.size
theorem qL.notg (h:qL w0 g A n c q E s v k xs W):v.ownBlock≠some g:=λe=>by
 have:=(h.own.lt g e).1;have:=h.hg;omega
def qL.alloc (h:qL w0 g A n c q E s v k xs W)(o:Obj):qL w0 g A n c q E s v k xs (W.alloc o):=
 ⟨h.rd.alloc o,h.own.alloc o,Yq h.gr o,h.hg⟩
def qL.grown {q':Nat}(h:qL w0 g A n c q E s v k xs W)(hr:Rd W' g A n c q')(hg:W.grownBy W' (some g)):qL w0 g A n c q' E s v k xs W':=
 ⟨hr,h.own.kept hg (.inr h.notg),zkm h.gr hg,h.hg⟩
theorem qL.below (h:qL w0 g A n c q E s v k xs W)(hb:bY W.heap.size W W'):qL w0 g A n c q E s v k xs W':=
 ⟨h.rd.below hb,h.own.kept (row:=none) ⟨hb.os,hb.tape,hb.output,hb.size,λi hi _=>hb.block i hi⟩ (by cases hv:v.ownBlock<;>simp),zkm h.gr (zE1 hb _),h.hg⟩
def qL.wide {q':Nat}(h:qL w0 g A n c q E s v k xs W)(hq:q<=q'):qL w0 g A n c q' E s v k xs W:=
 ⟨h.rd.mono hq,h.own,h.gr,h.hg⟩
theorem qL.aside {row:Option Nat}(h:qL w0 g A n c q E s v k xs W)(hg:W.grownBy W' row)(aV:v.ownBlock=none\/v.ownBlock≠row)(hy:∀b,row=some b->w0.heap.size<=b):qL w0 g A n c q E s v k xs W':=
 ⟨
  h.rd.keep λb hb=>hg.block b (zbL hb h.rd.gblt) (λe=>by have:=hy b e.symm;have:=h.hg;omega),h.own.kept hg aV,
  ⟨hg.os.trans h.gr.os,hg.tape.trans h.gr.tape,hg.output.trans h.gr.output,eG h.gr.size hg.size,λi hi aV=>(hg.block i (j5 hi h.gr.size) (λe=>by have:=hy i e.symm;omega)).trans (h.gr.block i hi aV)⟩,h.hg⟩
theorem qL.app {v':aF}{k':Nat}{bZ:List aF}(h:qL w0 g A n c q E s v k xs W)(ho:W'.ownsRow w0.heap.size E s v' k' bZ)(hg:W.grownBy W' v.ownBlock):qL w0 g A n c q E s v' k' bZ W':=
 ⟨
  h.rd.keep λb hb=>hg.block b (zbL hb h.rd.gblt) (λe=>by have:=(h.own.lt b e.symm).1;have:=h.hg;omega),ho,
  ⟨hg.os.trans h.gr.os,hg.tape.trans h.gr.tape,hg.output.trans h.gr.output,eG h.gr.size hg.size,λi hi aV=>(hg.block i (j5 hi h.gr.size) (λe=>by have:=(h.own.lt i e.symm).1;omega)).trans (h.gr.block i hi aV)⟩,h.hg⟩
end
variable {W:aE}{g n c:Nat}{A:Option bC}
def qL.init {q:Nat}(E s:Nat)(h:Rd W g A n c q):
 qL W g A n c q E s (.slice (some ⟨W.heap.size,0,none⟩) 0 0) 0 [] (W.alloc (.cells #[] E)):=
 ⟨h.alloc _,aE.ownsRow_made W #[] 0 (bL _) (mK _) aQ,Yq (zgh _ _) _,h.gblt⟩
theorem int_pred {j:Nat}(h:0<j):Lx .i64 ((j:Int)-1)=.int .i64 ((j-1:Nat):Int):=by congr 1;omega
variable {w:aE}{l k:Nat}{T:aN}{fz:Nat×Nat}
theorem Un {xs:List Int}(h:w.heap[l]? =some (.cells (xs.map (Lx .i64)).toArray T fz))(hk:xs.length=k):
 ∀j,j<k->∃v:Int,w.cell? ⟨l,0+j,none⟩=some (.int .i64 v):=
 zDF h k λj hj=>⟨xs[j]' aC,by simp[hk,hj]⟩
def GotS (w:aE)(g:Nat)(A:Option bC)(n c q:Nat)(e:Hc)(w':aE):Prop:=
 ∃s:ByteArray,e=.returned (.string s)/\Rd w' g A n c q/\w.grownBy w' (some g)
theorem of_any (g q n c l lo k kc:Nat)(A:Option bC)(w:aE)(h:Rd w g A n c q)(hq:q+1<1000000000)(hk:0<k)(qZ:k<=1000000)(hl:l<w.heap.size)(zbY:l≠g)
 (hc:∀j,j<k->∃v:ByteArray,w.cell? ⟨l,lo+j,none⟩=some (.string v)):
 fJ aK 107 #[.pointer (some ⟨g,0,none⟩),.slice (some ⟨l,lo,none⟩) k kc] w (GotS w g A n c (q+1)):=by
 have H:=aD hc;clear hc
 go_enter Tryz.func107,Tryz.ntmps107
 go_wp2_with fail
 refine(Dn g q n c A _ _ h hq aC aC).mono ?_;rintro e w1 ⟨r,rfl,⟨r0,r1⟩,hr,hg⟩;obtain⟨v,hv⟩:=H.o r.toNat aC;have qF:=(zyk hg hl zbY).trans hv;clear hv;go_wp2;go_ret;exact⟨v,rfl,hr,hg⟩
variable {xs:List ByteArray}
theorem zsy (h:w.heap[l]? =some (.cells (xs.map zwo).toArray T fz))(hk:xs.length=k):
 ∀j,j<k->∃v:ByteArray,w.cell? ⟨l,0+j,none⟩=some (.string v):=λj hj=>⟨xs[j]' aC,by rw[rL,aI h];simp[hk,hj]⟩
structure eV (w0:aE)(g:Nat)(A:Option bC)(n c q rb:Nat)(T:aN)(zs:Array aF)(W:aE):Prop where
 rd:Rd W g A n c q
 gr:w0.grownBy W (some g)
 hg:g<w0.heap.size
 res:W.heap[rb]? =some (.cells zs T)
 rlo:w0.heap.size<=rb
structure Aq (w0:aE)(g:Nat)(A:Option bC)(n c q rb b:Nat)(T:aN)(zs cs:Array aF)(W:aE):Prop where
 rs:eV w0 g A n c q rb T zs W
 blk:W.heap[b]? =some (.cells cs T)
 lo:w0.heap.size<=b/\b≠rb
section
variable {w0:aE}{g:Nat}{A:Option bC}{n c q rb b:Nat}{T:aN}{zs cs:Array aF}{W W':aE}
def eV.alloc (h:eV w0 g A n c q rb T zs W)(o:Obj):eV w0 g A n c q rb T zs (W.alloc o):=⟨h.rd.alloc o,Yq h.gr o,h.hg,dH h.res o,h.rlo⟩
theorem eV.grown {q':Nat}(h:eV w0 g A n c q rb T zs W)(hr:Rd W' g A n c q')(hg:W.grownBy W' (some g)):eV w0 g A n c q' rb T zs W':=
 ⟨hr,zkm h.gr hg,h.hg,(ze0 hg h.res (by have:=h.hg;have:=h.rlo;omega)).1,h.rlo⟩
def eV.wide {q':Nat}(h:eV w0 g A n c q rb T zs W)(hq:q<=q'):eV w0 g A n c q' rb T zs W:=⟨h.rd.mono hq,h.gr,h.hg,h.res,h.rlo⟩
theorem eV.box (h:eV w0 g A n c q rb T zs W)(cs:Array aF){b:Nat}(hb:b=W.heap.size):Aq w0 g A n c q rb b T zs cs (W.alloc (.cells cs T)):=⟨h.alloc _,mH _ _ hb,by have:=iR h.res;have:=h.gr.size;omega⟩
theorem eV.set {i:Nat}{u:aF}{b:Nat}(h:eV w0 g A n c q rb T zs W)(hb:w0.heap.size<=b/\b≠rb):eV w0 g A n c q rb T zs (W.setCell ⟨b,i,none⟩ u):=
 ⟨h.rd.setCell (by have:=h.hg;have:=h.rlo;simp;omega) u,zr9 h.gr (by have:=h.rlo;simp;omega) u,h.hg,(dU W ⟨b,i,none⟩ u _ (by show rb≠b;omega)).trans h.res,h.rlo⟩
def Aq.alloc (h:Aq w0 g A n c q rb b T zs cs W)(o:Obj):Aq w0 g A n c q rb b T zs cs (W.alloc o):=⟨h.rs.alloc o,dH h.blk o,h.lo⟩
theorem Aq.grown {q':Nat}(h:Aq w0 g A n c q rb b T zs cs W)(hr:Rd W' g A n c q')(hg:W.grownBy W' (some g)):Aq w0 g A n c q' rb b T zs cs W':=
 ⟨h.rs.grown hr hg,(ze0 hg h.blk (by have:=h.rs.hg;have:=h.rs.rlo;have:=h.lo;omega)).1,h.lo⟩
def Aq.wide {q':Nat}(h:Aq w0 g A n c q rb b T zs cs W)(hq:q<=q'):Aq w0 g A n c q' rb b T zs cs W:=⟨h.rs.wide hq,h.blk,h.lo⟩
theorem Aq.set {i:Nat}{u:aF}{U2:Array aF}(h:Aq w0 g A n c q rb b T zs cs W)(e:cs.setIfInBounds i u=U2):Aq w0 g A n c q rb b T zs U2 (W.setCell ⟨b,i,none⟩ u):=
 ⟨h.rs.set h.lo,by rw[oQ h.blk,e],h.lo⟩
def Aq.zb (h:Aq w0 g A n c q rb b T zs cs W):b<W.heap.size:=iR h.blk
theorem eV.end1 {i:Nat}{u:aF}(hr:Rd W g A n c q/\w0.grownBy W (some g))(hg:g<w0.heap.size)(hb:w0.heap.size<=rb):Rd (W.setCell ⟨rb,i,none⟩ u) g A n c q/\w0.grownBy (W.setCell ⟨rb,i,none⟩ u) (some g):=
 ⟨hr.1.setCell (by show g<rb;omega) u,zr9 hr.2 hb u⟩
def eV.end0 {q':Nat}(h:eV w0 g A n c q rb T zs W)(hq:q<=q'):Rd W g A n c q'/\w0.grownBy W (some g):=⟨h.rd.mono hq,h.gr⟩
end
def Got3 (w:aE)(g:Nat)(A:Option bC)(n c q:Nat)(e:Hc)(w':aE):Prop:=
 ∃(x y z:Int),e=.returned (.agg #[.int .i64 x,.int .i64 y,.int .i64 z])/\Rd w' g A n c q/\w.grownBy w' (some g)
def Got3S (w:aE)(g:Nat)(A:Option bC)(n c q:Nat)(e:Hc)(w':aE):Prop:=
 ∃(s:ByteArray) (x y:Int),e=.returned (.agg #[.string s,.int .i64 x,.int .i64 y])/\Rd w' g A n c q/\w.grownBy w' (some g)
theorem zB5 (g q n c:Nat)(A:Option bC)(w:aE)(h:Rd w g A n c q)(hq:q<900000000):
 fJ aK 60 #[.pointer (some ⟨g,0,none⟩)] w (Got3 w g A n c (q+10)):=by
 have lB:=h.gblt;obtain⟨rb,tZ⟩:=aT w.heap.size;have mL:=aD tZ;have Gy:=aD (show eV w g A n c q rb 29 #[.int .i64 0,.int .i64 0,.int .i64 0] (w.alloc (.cells #[.int .i64 0,.int .i64 0,.int .i64 0] 29)) from⟨h.alloc _,Yq (zgh _ _) _,lB,mH _ _ tZ,aC⟩);clear h
 go_enter Tryz.func60,Tryz.ntmps60
 go_upto_region 1 with fail
 rw[<-tZ];clear tZ;obtain⟨W1,cV⟩:=aT (w.alloc (.cells #[.int .i64 0,.int .i64 0,.int .i64 0] 29));rw[<-cV] at Gy⊢;clear cV;have once:True:=trivial
 go_upto_region 2 with(first
  |(clear once;go_at_call 62;refine(Dn g q n c A _ W1 Gy.o.rd aC aC aC).mono ?_;rintro e w2 ⟨r1,rfl,⟨zL3,zLS⟩,uJ,o6⟩;have jE:=aD (Gy.o.grown uJ o6);clear uJ o6)
  |(go_at_call 62;refine(Dn g (q+1) n c A _ w2 jE.o.rd aC aC aC).mono ?_;rintro e w3 ⟨r2,rfl,⟨zlh,zjV⟩,E8,zP⟩;have jW:=aD (jE.o.grown E8 zP);have z3:=iR jW.o.res;have zh5:=jW.o.rlo;clear E8 zP)
  |(go_at_call 88;refine(Vf g (q+2) n c _ 0 5 5 A _ (jW.o.alloc _).rd aC aC aC aQ aC (Un (xs:=[5,3,10,1,60]) (gV _ _) rfl)).mono ?_;rintro e w4 ⟨r3,rfl,_,Na,Ii⟩;have Mi:=aD ((jW.o.alloc _).grown Na Ii);clear Na Ii))
 obtain⟨b,hb⟩:=aT w4.heap.size;rw[<-hb];have uA:=aD (Mi.o.box #[.int .i64 (1+r1),.int .i64 (1+r2),.int .i64 r3] hb);obtain⟨W4,rE⟩:=aT (w4.alloc (.cells #[.int .i64 (1+r1),.int .i64 (1+r2),.int .i64 r3] 29));rw[<-rE] at uA⊢;obtain⟨x1,Oh⟩:=aT (1+r1);obtain⟨x2,zW⟩:=aT (1+r2);rw[<-Oh,<-zW] at uA;clear rE hb Oh zW
 go_upto_region 3 with(go_at_call 62;refine(Dn g (q+3) n c A _ W4 uA.o.rs.rd aC aC aC).mono ?_;rintro e w5 ⟨r,rfl,⟨r0,r9⟩,eE,Gj⟩;have lM:=aD (uA.o.grown eE Gj);clear eE Gj)
 by_cases e0:r=0
 .subst e0
  have zty:=lM.o.zb;have Yi:=lM.o.lo;have mJ:=lM.o.rs.rlo;have aV:¬b=rb:=aC;have zdx:¬rb=b:=aC
  go_wp2_with (go_at_call 88;refine(Vf g _ n c _ 0 3 3 A _ ((lM.o.alloc _).rs.rd) aC aC aC aQ aC (Un (xs:=[0,7,-1]) (gV _ _) rfl)).mono ?_;rintro e w6 ⟨p,rfl,_,jX,lC⟩;have kT:=aD ((lM.o.alloc _).grown jX lC);have ec:=aI kT.o.blk;have fc:=qX kT.o.blk;have er:=aI kT.o.rs.res;have fr:=qX kT.o.rs.res;have zb:=kT.o.zb;have zr:=iR kT.o.rs.res;clear jX lC)
  refine nN (v:=.agg #[.int .i64 p,.int .i64 x2,.int .i64 r3]) ?_ rfl ⟨_,_,_,rfl,eV.end1 (eV.end1 (eV.end1 (eV.end0 (kT.o.set (i:=0) (u:=.int .i64 p) rfl).rs aC) lB mJ) lB mJ) lB mJ⟩;simp[results,zgd,go_sem,er]
 by_cases e1:r=1
 .subst e1
  have zty:=lM.o.zb;have Yi:=lM.o.lo;have mJ:=lM.o.rs.rlo;have aV:¬b=rb:=aC;have zdx:¬rb=b:=aC
  go_wp2_with (go_at_call 88;refine(Vf g _ n c _ 0 3 3 A _ ((lM.o.alloc _).rs.rd) aC aC aC aQ aC (Un (xs:=[0,5,9223372036854775807]) (gV _ _) rfl)).mono ?_;rintro e w6 ⟨p,rfl,_,jX,lC⟩;have kT:=aD ((lM.o.alloc _).grown jX lC);have ec:=aI kT.o.blk;have fc:=qX kT.o.blk;have er:=aI kT.o.rs.res;have fr:=qX kT.o.rs.res;have zb:=kT.o.zb;have zr:=iR kT.o.rs.res;clear jX lC)
  refine nN (v:=.agg #[.int .i64 x1,.int .i64 p,.int .i64 r3]) ?_ rfl ⟨_,_,_,rfl,eV.end1 (eV.end1 (eV.end1 (eV.end0 (kT.o.set (i:=1) (u:=.int .i64 p) rfl).rs aC) lB mJ) lB mJ) lB mJ⟩;simp[results,zgd,go_sem,er]
 by_cases e2:r=2
 .subst e2
  have zty:=lM.o.zb;have Yi:=lM.o.lo;have mJ:=lM.o.rs.rlo;have aV:¬b=rb:=aC;have zdx:¬rb=b:=aC
  go_wp2_with (go_at_call 88;refine(Vf g _ n c _ 0 3 3 A _ ((lM.o.alloc _).rs.rd) aC aC aC aQ aC (Un (xs:=[0,61,-1]) (gV _ _) rfl)).mono ?_;rintro e w6 ⟨p,rfl,_,jX,lC⟩;have kT:=aD ((lM.o.alloc _).grown jX lC);have ec:=aI kT.o.blk;have fc:=qX kT.o.blk;have er:=aI kT.o.rs.res;have fr:=qX kT.o.rs.res;have zb:=kT.o.zb;have zr:=iR kT.o.rs.res;clear jX lC)
  refine nN (v:=.agg #[.int .i64 x1,.int .i64 x2,.int .i64 p]) ?_ rfl ⟨_,_,_,rfl,eV.end1 (eV.end1 (eV.end1 (eV.end0 (kT.o.set (i:=2) (u:=.int .i64 p) rfl).rs aC) lB mJ) lB mJ) lB mJ⟩;simp[results,zgd,go_sem,er]
 have Yu:(r==0)=false:=by simpa using e0
 have Cv:(r==1)=false:=by simpa using e1
 have zbN:(r==2)=false:=by simpa using e2
 clear e0 e1 e2;have ec:=aI lM.o.blk;have fc:=qX lM.o.blk;have er:=aI lM.o.rs.res;have fr:=qX lM.o.rs.res;have zb:=lM.o.zb;have zr:=iR lM.o.rs.res;have Yi:=lM.o.lo;have aV:¬b=rb:=aC;have zdx:¬rb=b:=aC;have mJ:=lM.o.rs.rlo;go_wp2;refine nN (v:=.agg #[.int .i64 x1,.int .i64 x2,.int .i64 r3]) ?_ rfl ⟨_,_,_,rfl,eV.end1 (eV.end1 (eV.end1 (eV.end0 lM.o.rs aC) lB mJ) lB mJ) lB mJ⟩;simp[results,zgd,go_sem,er]
theorem zF4 (g q n c:Nat)(A:Option bC)(w:aE)(h:Rd w g A n c q)(hq:q<900000000):
 fJ aK 89 #[.pointer (some ⟨g,0,none⟩)] w (Got3S w g A n c (q+10)):=by
 have lB:=h.gblt;obtain⟨rb,tZ⟩:=aT w.heap.size;have mL:=aD tZ;have Gy:=aD (show eV w g A n c q rb 54 #[.string ⟨#[]⟩,.int .i64 0,.int .i64 0] (w.alloc (.cells #[.string ⟨#[]⟩,.int .i64 0,.int .i64 0] 54)) from⟨h.alloc _,Yq (zgh _ _) _,lB,mH _ _ tZ,aC⟩);clear h
 go_enter Tryz.func89,Tryz.ntmps89
 go_upto_region 1 with fail
 rw[<-tZ];clear tZ;obtain⟨W1,cV⟩:=aT (w.alloc (.cells #[.string ⟨#[]⟩,.int .i64 0,.int .i64 0] 54));rw[<-cV] at Gy⊢;clear cV;have zKl:=iR Gy.o.res;have zLG:=Gy.o.rlo
 go_upto_region 2 with(go_at_call 107;refine(of_any g q n c _ 0 8 8 A _ (Gy.o.alloc _).rd aC aC aC aQ aC (zsy (xs:=[⟨#[114,105,110,103]⟩,⟨#[114,105,110,103]⟩,⟨#[114,105,110,103]⟩,⟨#[97,110,115,119,101,114]⟩,⟨#[97,110,115,119,101,114]⟩,⟨#[104,97,110,103]⟩,⟨#[119,97,105,116]⟩,⟨#[114,101,116,117,114,110]⟩]) (gV _ _) rfl)).mono ?_;rintro e w2 ⟨s,rfl,uJ,o6⟩;have jE:=aD ((Gy.o.alloc _).grown uJ o6);clear uJ o6)
 obtain⟨b,hb⟩:=aT w2.heap.size;rw[<-hb];have gT:=aD (jE.o.box #[.string s,.int .i64 0,.int .i64 0] hb);obtain⟨W2,oE⟩:=aT (w2.alloc (.cells #[.string s,.int .i64 0,.int .i64 0] 54));rw[<-oE] at gT⊢;clear oE hb;have ec:=aI gT.o.blk;have fc:=qX gT.o.blk;have zb:=gT.o.zb;have Yi:=gT.o.lo;have mJ:=gT.o.rs.rlo
 go_upto_block 0 with fail
 go_cut [] from 10 to 34 (λwx=>∃x y:Int,Aq w g A n c (q+5) rb b 54 #[.string ⟨#[]⟩,.int .i64 0,.int .i64 0] #[.string s,.int .i64 x,.int .i64 y] wx)
 case first=>
  have once:True:=trivial;cases t0:(s.toList==[114,105,110,103])
  .cases t1:(s.toList==[104,97,110,103])
   .cases t2:(s.toList==[119,97,105,116])
    .go_wp2_with (go_at_call 62;refine(Dn g _ n c A _ W2 gT.o.rs.rd aC aC aC).mono ?_;rintro e w3 ⟨r,rfl,⟨r0,r1⟩,jX,lC⟩;have iX:=aD (gT.o.grown jX lC);have ec:=aI iX.o.blk;have fc:=qX iX.o.blk;have zb:=iX.o.zb;clear jX lC)
     go_meet
     exact⟨_,_,(iX.o.set (i:=1) (u:=.int .i64 (1+r)) rfl).wide aC⟩
    .go_wp2_with (go_at_call 88;refine(Vf g _ n c _ 0 5 5 A _ ((gT.o.alloc _).rs.rd) aC aC aC aQ aC (Un (xs:=[1,2,5,3,60]) (gV _ _) rfl)).mono ?_;rintro e w3 ⟨p,rfl,_,jX,lC⟩;have iX:=aD ((gT.o.alloc _).grown jX lC);have ec:=aI iX.o.blk;have fc:=qX iX.o.blk;have zb:=iX.o.zb;clear jX lC)
     go_meet
     exact⟨_,_,(iX.o.set (i:=1) (u:=.int .i64 p) rfl).wide aC⟩
   .go_wp2_with (go_at_call 62;refine(Dn g _ n c A _ W2 gT.o.rs.rd aC aC aC).mono ?_;rintro e w3 ⟨r,rfl,⟨r0,r1⟩,jX,lC⟩;have iX:=aD (gT.o.grown jX lC);have ec:=aI iX.o.blk;have fc:=qX iX.o.blk;have zb:=iX.o.zb;clear jX lC)
    go_meet
    exact⟨_,_,(iX.o.set (i:=1) (u:=.int .i64 (1+r)) rfl).wide aC⟩
  .go_wp2_with (first
    |(clear once;go_at_call 62;refine(Dn g _ n c A _ W2 gT.o.rs.rd aC aC aC).mono ?_;rintro e w3 ⟨r,rfl,⟨r0,r1⟩,jX,lC⟩;have iX:=aD (gT.o.grown jX lC);have ec:=aI iX.o.blk;have fc:=qX iX.o.blk;have zb:=iX.o.zb;clear jX lC;clear ec fc;have wO:=aD (iX.o.set (i:=1) (u:=.int .i64 (1+r)) rfl);have ec:=aI iX.o.blk;have fc:=qX iX.o.blk)
    |(go_at_call 62;refine(Dn g _ n c A _ (w3.setCell ⟨b,1,none⟩ (.int .i64 (1+r))) wO.o.rs.rd aC aC aC).mono ?_;rintro e w4 ⟨r2,rfl,⟨zlh,zjV⟩,jX,lC⟩;have uA:=aD (wO.o.grown jX lC);have ec:=aI uA.o.blk;have fc:=qX uA.o.blk;have zb:=uA.o.zb;clear jX lC))
   go_meet
   exact⟨_,_,(uA.o.set (i:=2) (u:=.int .i64 r2) rfl).wide aC⟩
 case rest=>
  obtain⟨x,y,aY⟩:=hcut;have lM:=aD aY;clear aY ec fc zb;obtain⟨W5,xX⟩:=aT wc;rw[<-xX] at lM⊢;clear xX
  go_upto_block 1 with(go_at_call 62;refine(Dn g _ n c A _ W5 lM.o.rs.rd aC aC aC).mono ?_;rintro e w6 ⟨r,rfl,⟨r0,r1⟩,jX,lC⟩;have kT:=aD (lM.o.grown jX lC);have ec:=aI kT.o.blk;have fc:=qX kT.o.blk;have zb:=kT.o.zb;clear jX lC)
  go_cut [] from 37 to 54 (λwx=>∃(s:ByteArray) (x y:Int),Aq w g A n c (q+7) rb b 54 #[.string ⟨#[]⟩,.int .i64 0,.int .i64 0] #[.string s,.int .i64 x,.int .i64 y] wx)
  case first=>
   by_cases e0:r=0
   .subst e0
    go_wp2_with (go_at_call 88;refine(Vf g _ n c _ 0 5 5 A _ ((kT.o.alloc _).rs.rd) aC aC aC aQ aC (Un (xs:=[0,100,-1,61,5]) (gV _ _) rfl)).mono ?_;rintro e w7 ⟨p,rfl,_,jX,lC⟩;have Eh:=aD ((kT.o.alloc _).grown jX lC);have ec:=aI Eh.o.blk;have fc:=qX Eh.o.blk;have zb:=Eh.o.zb;clear jX lC)
    go_meet
    exact⟨_,_,_,(Eh.o.set (i:=1) (u:=.int .i64 p) rfl).wide aC⟩
   by_cases e1:r=1
   .subst e1
    go_wp2_with (go_at_call 88;refine(Vf g _ n c _ 0 3 3 A _ ((kT.o.alloc _).rs.rd) aC aC aC aQ aC (Un (xs:=[1,10,-1]) (gV _ _) rfl)).mono ?_;rintro e w7 ⟨p,rfl,_,jX,lC⟩;have Eh:=aD ((kT.o.alloc _).grown jX lC);have ec:=aI Eh.o.blk;have fc:=qX Eh.o.blk;have zb:=Eh.o.zb;clear jX lC)
    go_meet
    exact⟨_,_,_,(Eh.o.set (i:=2) (u:=.int .i64 p) rfl).wide aC⟩
   by_cases e2:r=2
   .subst e2
    go_wp2_with (go_at_call 107;refine(of_any g _ n c _ 0 3 3 A _ (kT.o.alloc _).rs.rd aC aC aC aQ aC (zsy (xs:=[⟨#[]⟩,⟨#[114,105,110,103,115]⟩,⟨#[112,117,116]⟩]) (gV _ _) rfl)).mono ?_;rintro e w7 ⟨s',rfl,uJ,o6⟩;have Eh:=aD ((kT.o.alloc _).grown uJ o6);have ec:=aI Eh.o.blk;have fc:=qX Eh.o.blk;have zb:=Eh.o.zb;clear uJ o6)
    go_meet
    exact⟨_,_,_,(Eh.o.set (i:=0) (u:=.string s') rfl).wide aC⟩
   have Yu:(r==0)=false:=by simpa using e0
   have Cv:(r==1)=false:=by simpa using e1
   have zbN:(r==2)=false:=by simpa using e2
   clear e0 e1 e2;go_wp2
   go_meet
   exact⟨_,_,_,kT.o.wide aC⟩
  case rest=>
   obtain⟨s8,x8,y8,aY⟩:=hcut;clear ec fc zb;obtain⟨W8,zyC⟩:=aT wc;rw[<-zyC] at aY⊢;clear zyC;have Ey:=aD aY;clear aY;have ec:=aI Ey.o.blk;have fc:=qX Ey.o.blk;have er:=aI Ey.o.rs.res;have fr:=qX Ey.o.rs.res;have zb:=Ey.o.zb;have zr:=iR Ey.o.rs.res;have Yi:=Ey.o.lo;have aV:¬b=rb:=aC;have zdx:¬rb=b:=aC;have mJ:=Ey.o.rs.rlo;go_wp2;refine nN (v:=.agg #[.string s8,.int .i64 x8,.int .i64 y8]) ?_ rfl ⟨_,_,_,rfl,eV.end1 (eV.end1 (eV.end1 (eV.end0 Ey.o.rs aC) lB mJ) lB mJ) lB mJ⟩;simp[results,Tryz.results89,go_sem,er]
def zFb:(aK.info? 54).map (λi=>(i.zero,i.size,i.bytes))=some (some (.agg #[.string ⟨#[]⟩,.int .i64 0,.int .i64 0]),3,32):=aP
structure yC (w0:aE)(g:Nat)(A:Option bC)(n c q:Nat)(v:aF)(k:Nat)(xs:List aF)(b:Nat)(s:ByteArray)(x y:Int)(W:aE):Prop where
 st:qL w0 g A n c q 54 3 v k xs W
 blk:W.heap[b]? =some (.cells #[.string s,.int .i64 x,.int .i64 y] 54)
 lt:∀b',v.ownBlock=some b'->b'<b
 lo:w0.heap.size<=b
section
variable {w0:aE}{g:Nat}{A:Option bC}{n c q:Nat}{v:aF}{k:Nat}{xs:List aF}{b:Nat}{s:ByteArray}{x y:Int}{W W':aE}
def yC.below (h:yC w0 g A n c q v k xs b s x y W)(hb:bY W.heap.size W W'):yC w0 g A n c q v k xs b s x y W':=⟨h.st.below hb,(mX hb h.blk).1,h.lt,h.lo⟩
theorem yC.grown {q':Nat}(h:yC w0 g A n c q v k xs b s x y W)(hr:Rd W' g A n c q')(hg:W.grownBy W' (some g)):yC w0 g A n c q' v k xs b s x y W':=
 ⟨h.st.grown hr hg,(ze0 hg h.blk (by have:=h.st.hg;have:=h.lo;omega)).1,h.lt,h.lo⟩
def yC.wide {q':Nat}(h:yC w0 g A n c q v k xs b s x y W)(hq:q<=q'):yC w0 g A n c q' v k xs b s x y W:=⟨h.st.wide hq,h.blk,h.lt,h.lo⟩
theorem yC.set {i:Nat}{u:aF}{s':ByteArray}{x' y':Int}(h:yC w0 g A n c q v k xs b s x y W)(e:(#[zwo s,.int .i64 x,.int .i64 y]:Array aF).setIfInBounds i u=#[.string s',.int .i64 x',.int .i64 y']):yC w0 g A n c q v k xs b s' x' y' (W.setCell ⟨b,i,none⟩ u):=
 ⟨h.st.aside (zbM ⟨b,i,none⟩ u) (by
  cases e2:v.ownBlock with
  |none=>exact .inl rfl
  |some b'=>right;intro e3;injection e3 with e3;have:=h.lt b' e2;simp at e3;omega) (λb' e2=>by injection e2 with e2;simp at e2;have:=h.lo;omega),
  by rw[oQ h.blk,e],h.lt,h.lo⟩
def yC.zb (h:yC w0 g A n c q v k xs b s x y W):b<W.heap.size:=iR h.blk
def yC.make (h:qL w0 g A n c q 54 3 v k xs W)(s:ByteArray)(x y:Int):yC w0 g A n c q v k xs W.heap.size s x y (W.alloc (.cells #[.string s,.int .i64 x,.int .i64 y] 54)):=
 ⟨h.alloc _,gV _ _,λb' e=>(h.own.lt b' e).2,h.hb⟩
end
theorem zBd (es:List dQ)(s:ByteArray)(x y:Int):pA (es++[⟨s,x,y⟩])=pA es++[.string s,.int .i64 x,.int .i64 y]:=by simp[pA,dQ.cells]
def zym (w:aE)(g:Nat)(A:Option bC)(n c q:Nat)(e:Hc)(w':aE):Prop:=
 ∃(A':Option bC) (n' c':Nat) (es:List dQ),e=.returned (.slice A' n' c')/\Bf 54 3 w' w.heap.size w'.heap.size A' n' c' (pA es)/\n'<=20/\Rd w' g A n c q/\w.grownBy w' (some g)
variable {v:aF}{es:List dQ}
theorem zE7 {q q':Nat}(h:qL w g A n c q 54 3 v k (pA es) W)(hk:k<=20)(hq:q<=q'):zym w g A n c q' (.returned v) W:=by
 obtain⟨A1,c1,rfl,ho⟩:=zdT h.own aH;exact⟨A1,k,c1,es,rfl,ho,hk,h.rd.mono hq,h.gr⟩
theorem zF9 (g q n c:Nat)(A:Option bC)(w:aE)(h:Rd w g A n c q)(hq:q<800000000):
 fJ aK 61 #[.pointer (some ⟨g,0,none⟩)] w (zym w g A n c (q+200)):=by
 obtain⟨i0,hi,gA,dS,jQ⟩:=info_parts zFb;have HI:=aD (And.intro hi (And.intro gA (And.intro dS jQ)));clear hi gA dS jQ;have D1:=qL.init 54 3 h;have gb:=D1.hg;clear h
 go_enter Tryz.func61,Tryz.ntmps61
 go_wp2_with fail
 refine(Dn g _ n c A _ _ D1.rd aC aC aC).mono ?_;rintro e w2 ⟨r,rfl,⟨r0,r5⟩,hr,hg⟩;have D2:=(D1.grown hr hg).wide (q':=q+194-12*r.toNat) aC;clear D1 hr hg;obtain⟨R,rfl⟩:=Int.eq_ofNat_of_zero_le r0;have Xm:=aD D2;clear D2;go_wp2
 go_loopw [3,4] (λv i wr=>∃(m k:Nat) (es:List dQ),i=.int .i64 m/\m+k<=15/\es.length=k/\qL w g A n c (q+194-12*m) 54 3 v k (pA es) wr) (λ_ i _=>(intOf i).toNat)
 case atStart=>exact⟨R,0,[],rfl,aC,rfl,Xm.o⟩
 case round=>
  obtain⟨m,k,es,rfl,zfE,fG,D⟩:=hrel;have HX:=aD fG;clear fG;obtain⟨V,hV⟩:=aT u3;by_cases aU:0<m
  .have z4:=D.hb
   have HD:=aD D;clear D
   go_upto_region 6 with(go_at_call 89;refine(zF4 g (q+194-12*m) n c A _ HD.o.rd aC).mono ?_;rintro e w3 ⟨s,x,y,rfl,hr,hg⟩;have Xx:=aD (yC.make (HD.o.grown hr hg) s x y);have zKh:=Xx.o.zb;have ec:=aI Xx.o.blk;clear hr hg)
   go_cut [22] from 9 to 30 (λv wx=>∃t:Bool,v=.bool t/\yC w g A n c (q+194-12*m+11) u3 k (pA es) w3.heap.size s x y wx)
   case first=>
    obtain⟨t,ht⟩:=aT (qR 2 ⟨s,x,y⟩);have HT:=aD ht;clear ht;cases t
    .go_wp2_with (first
      |(go_at_call 50;refine(zki ⟨s,x,y⟩ 2 _).mono ?_;rintro e w4 ⟨rfl,b4⟩;rw[<-HT.o];have ze5:=aD (Xx.o.below b4);clear b4)
      |(go_at_call 62;refine(Dn g (q+194-12*m+10) n c A _ _ ze5.o.st.rd aC aC aC).mono ?_;rintro e w5 ⟨r2,rfl,⟨zlh,zjV⟩,uJ,o6⟩;have zC5:=aD (ze5.o.grown uJ o6);clear uJ o6))
     all_goals
      go_meet
      exact⟨_,rfl,zC5.o⟩
    .go_wp2_with (go_at_call 50;refine(zki ⟨s,x,y⟩ 2 _).mono ?_;rintro e w4 ⟨rfl,b4⟩;rw[<-HT.o];have ze5:=aD (Xx.o.below b4);clear b4)
     go_meet
     exact⟨_,rfl,ze5.o.wide aC⟩
   case rest=>
    obtain⟨t,rfl,D6⟩:=hcut;have Wi:=aD D6;clear D6
    go_upto_if 22 with fail
    go_cut [] from 23 to 30 (λwx=>∃(s':ByteArray) (x' y':Int),yC w g A n c (q+194-12*m+12) u3 k (pA es) w3.heap.size s' x' y' wx)
    case first=>
     have ec:=aI Wi.o.blk;have fc:=qX Wi.o.blk;have zb:=Wi.o.zb;cases t
     .go_wp2
      go_meet
      exact⟨s,x,y,Wi.o.wide aC⟩
     .go_wp2_with (go_at_call 62;refine(Dn g (q+194-12*m+11) n c A _ _ Wi.o.st.rd aC aC aC).mono ?_;rintro e w5 ⟨r2,rfl,⟨zlh,zjV⟩,uJ,o6⟩;have Sq:=aD (Wi.o.grown uJ o6);have ec:=aI Sq.o.blk;have fc:=qX Sq.o.blk;have zb:=Sq.o.zb;clear uJ o6)
      go_meet
      exact⟨_,_,_,((Sq.o.set (i:=0) (u:=.string ⟨#[114,105,110,103]⟩) (s':=⟨#[114,105,110,103]⟩) (x':=x) (y':=y) rfl).set (i:=1) (u:=.int .i64 (1+r2)) (s':=⟨#[114,105,110,103]⟩) (x':=1+r2) (y':=y) rfl).set (i:=2) (u:=.int .i64 0) (s':=⟨#[114,105,110,103]⟩) (x':=1+r2) (y':=0) rfl⟩
    case rest=>
     obtain⟨s',x',y',D7⟩:=hcut;have ec:=aI D7.blk;have zb:=D7.zb;have zw:=D7.st.hb;have Sq:=aD D7;obtain⟨hi,gA,dS,jQ⟩:=HI.o;have HH:=aD hi;clear hi D7
     go_wp2_with (at_builtin;refine wpList_append_own_at _ rfl _ _ 31 rfl w.heap.size 54 i0 (.agg #[.string ⟨#[]⟩,.int .i64 0,.int .i64 0]) 3 32 zfO HH.o gA dS jQ rfl aH _ _ _ rfl ((Sq.o.st.alloc _).own) ⟨wc.heap.size,0,none⟩ 1 1 [.string s',.int .i64 x',.int .i64 y'] rfl rfl (aE.news_of_block (cs:=#[.string s',.int .i64 x',.int .i64 y']) (gV _ _)) (by simp[aF.oneCell']) Wb aC pX ?_;intro v' w6 zrA nA _ _)
     have D8:=((Sq.o.st.alloc _).app zrA nA).wide (q':=q+194-12*(m-1)) aC;have zzr:=aD D8;clear D8 zrA nA gA dS jQ;go_wp2;go_roundw
     case rel=>exact⟨m-1,k+1,es++[⟨s',x',y'⟩],int_pred aU,aC,by simp[HX.o],by rw[zBd];exact zzr.o⟩
     case measure=>simp[intOf];omega
  .have em:m=0:=aC
   subst em;have HD:=aD D;clear D;go_wp2;go_ret;exact zE7 HD.o aC aC
def zwO {B:Nat}(h:bY B w W)(o:Obj)(hB:B<=W.heap.size):bY B w (W.alloc o):=h.trans ((eT (fK W.heap.size W) o).mono hB)
theorem zDI (o:fP)(lo hi n c:Nat)(A:Option bC)(es:List dQ)(w:aE)(h:cE w lo hi 3 A n c (pA es))(hn:n<=1048576)(Yx:hi<=w.heap.size):
 fJ aK 11 #[.agg #[.int .i64 o.ln,.int .i64 o.op,.int .i64 o.pt],.slice A n c] w λx w'=>∃g c',x=.returned (.tuple #[.slice (some ⟨g,0,none⟩) (vD o es).log.length c',.bool (eM o es)])/\
  w'.ownsRow w.heap.size 9 1 (.slice (some ⟨g,0,none⟩) (vD o es).log.length c') (vD o es).log.length (nV (vD o es).log)/\bY w.heap.size w w':=by
 obtain⟨O,hO⟩:=aT (.cells #[.int .i64 o.ln,.int .i64 o.op,.int .i64 o.pt] 29:Obj);have gT:=aD (eT (fK w.heap.size w) O);have l5:=aD (h.below gT.o);have HO:=aD hO;have hz:(w.alloc O).heap.size=w.heap.size+1:=aQ;have HZ:=aD hz;clear h hz hO
 go_enter Tryz.func11,Tryz.ntmps11
 go_upto_region 1 with fail
 rw[<-HO.o];obtain⟨W1,cV⟩:=aT (w.alloc O);have hk:=gV w O;rw[<-cV] at gT l5 HZ hk⊢;rw[HO.o] at hk;have q:=aI hk;obtain⟨q0,q1,q2⟩:=zk9 q;clear cV hk q
 go_upto_region 2 with(go_at_call 40;refine(zu0 o lo hi n c A es W1 l5.o hn (by have:=HZ.o;omega)).mono ?_;rintro x w2 ⟨v,rfl,bM,pU⟩;obtain⟨r5,eE⟩:=aT (vD o es:cC);obtain⟨t5,nZ⟩:=aT (eM o es:Bool);rw[<-eE] at bM⊢;rw[<-nZ];have oZ:=aD eE;have yS:=aD nZ;have vQ:=aD bM;have iX:=aD pU;clear eE nZ bM pU)
 go_wp2;go_ret2;have hz:=HZ.o;refine⟨v.gL,v.cL,?_,?_,?_⟩
 .rw[<-oZ.o,<-yS.o];rfl
 .rw[<-oZ.o]
  exact zhf ((vQ.o.alloc _).lg) aC
 .exact gT.o.trans (zwO (iX.o.mono aC) _ (by have:=iX.o.size;omega))
def Qe (o:fP)(es:List dQ):Int:=if eM o es then(C8 o es).clk else-1
theorem zIr (o:fP)(lo hi n c:Nat)(A:Option bC)(es:List dQ)(w:aE)(h:cE w lo hi 3 A n c (pA es))(hn:n<=1048576)(Yx:hi<=w.heap.size):
 fJ aK 35 #[.agg #[.int .i64 o.ln,.int .i64 o.op,.int .i64 o.pt],.slice A n c] w λx w'=>x=.returned (.int .i64 (Qe o es))/\bY w.heap.size w w':=by
 have hr:eM o es=true->vD o es=C8 o es:=λh=>by unfold vD;rw[if_pos h]
 have HR:=aD hr;clear hr;obtain⟨O,hO⟩:=aT (.cells #[.int .i64 o.ln,.int .i64 o.op,.int .i64 o.pt] 29:Obj);have gT:=aD (eT (fK w.heap.size w) O);have l5:=aD (h.below gT.o);have HO:=aD hO;have hz:(w.alloc O).heap.size=w.heap.size+1:=aQ;have HZ:=aD hz;clear h hz hO
 go_enter Tryz.func35,Tryz.ntmps35
 go_upto_region 1 with fail
 rw[<-HO.o];obtain⟨W1,cV⟩:=aT (w.alloc O);have hk:=gV w O;rw[<-cV] at gT l5 HZ hk⊢;rw[HO.o] at hk;have q:=aI hk;obtain⟨q0,q1,q2⟩:=zk9 q;clear cV hk q
 go_upto_region 2 with(go_at_call 40;refine(zu0 o lo hi n c A es W1 l5.o hn (by have:=HZ.o;omega)).mono ?_;rintro x w2 ⟨v,rfl,bM,pU⟩;obtain⟨r5,eE⟩:=aT (vD o es:cC);obtain⟨t5,nZ⟩:=aT (eM o es:Bool);rw[<-eE] at bM⊢;rw[<-nZ];have oZ:=aD eE;have yS:=aD nZ;have vQ:=aD bM;have iX:=aD pU;clear eE nZ bM pU)
 have hz:=HZ.o;have s2:=iX.o.size;have HF:=aD (show bY w.heap.size w (w2.alloc (Gi v r5)) from gT.o.trans (zwO (iX.o.mono aC) _ aC));clear hz s2;cases t5
 .go_wp2
  go_ret;refine⟨?_,HF.o⟩;show Zw (.int .i64 (-1))=.returned (.int .i64 (Qe o es));unfold Qe;rw[if_neg (by rw[<-yS.o];simp)]
 .go_wp2
  go_ret;refine⟨?_,HF.o⟩;show Zw (.int .i64 r5.clk)=.returned (.int .i64 (Qe o es));unfold Qe;rw[if_pos yS.o.symm,oZ.o,HR.o yS.o.symm]
theorem zIt {o:fP}(h:eM o es=true):es.length<=60:=by
 unfold eM at h;simp at h;exact h.1.2
theorem zAh (o:fP)(es:List dQ):(x6 o es).length<=60:=by
 unfold x6 vD;split
 .next h=>
  have:=(Pq h es.length (bL _)).2.1.nl;rw[za3] at this;have:=zIt h;omega
 .simp[mU]
variable {xs:List aF}{lo E s:Nat}
theorem row_v (h:w.ownsRow lo E s v n xs)(hs:0<s)(hl:n<=1048576):∃A m c,v=.slice A m c/\m<=1048576/\Bf E s w lo w.heap.size A m c xs:=by
 obtain⟨A,c,e,o⟩:=zdT h hs;exact⟨A,n,c,e,hl,o⟩
variable {hi:Nat}
def specCA_u (o:fP)(h:cE w lo hi 3 A n c (pA es))(hn:n<=1048576)(Yx:hi<=w.heap.size):
 fJ aK 35 #[.agg #[.int .i64 o.ln,.int .i64 o.op,.int .i64 o.pt],.slice A n c] w λx w'=>x=.returned (.int .i64 (Nw o es))/\bY w.heap.size w w':=
 zIr o lo hi n c A es w h hn Yx
def zjW (o:fP)(es:List dQ):(x6 o es).length<=1048576:=eG (zAh o es) aC
theorem specRO_u (o:fP)(h:cE w lo hi 3 A n c (pA es))(hn:n<=1048576)(Yx:hi<=w.heap.size):
 fJ aK 11 #[.agg #[.int .i64 o.ln,.int .i64 o.op,.int .i64 o.pt],.slice A n c] w λx w'=>∃A n c,x=.returned (.tuple #[.slice A n c,.bool (eM o es)])/\n<=1048576/\Bf 9 1 w' w.heap.size w'.heap.size A n c (nV (x6 o es))/\bY w.heap.size w w':=by
 refine(zDI o lo hi n c A es w h hn Yx).mono ?_;rintro x w' ⟨g,c',rfl,hr,hb⟩;obtain⟨A',m,c2,e,l,ow⟩:=row_v hr aH (zjW o es);injection e with e1 e2 e3;subst e1 e2 e3;exact⟨_,_,_,rfl,l,ow,hb⟩
def Fl {rb i:Nat}{u:aF}(h:Bf E s W lo hi A n c xs)(hb:rb<lo):Bf E s (W.setCell ⟨rb,i,none⟩ u) lo hi A n c xs:=
 h.keep aQ (λx h1 _ _=>dU W _ _ x tL)
def ownV_gb {w':aE}(h:Bf E s w lo hi A n c xs)(hg:w.grownBy w' (some g))(eF:g<lo):Bf E s w' lo hi A n c xs:=
 h.keep hg.size λb h1 _ h3=>hg.block b h3 pX
def GotBoth6 (w:aE)(g:Nat)(A:Option bC)(n c q:Nat)(e:Hc)(w':aE):Prop:=
 ∃(x y z:Int) (A2:Option bC) (n2 c2:Nat) (es:List dQ),e=.returned (.tuple #[.agg #[.int .i64 x,.int .i64 y,.int .i64 z],.slice A2 n2 c2])/\Bf 54 3 w' w.heap.size w'.heap.size A2 n2 c2 (pA es)/\n2<=20/\Rd w' g A n c q/\w.grownBy w' (some g)
theorem zI1 (g q n c:Nat)(A:Option bC)(w:aE)(h:Rd w g A n c q)(hq:q<700000000):
 fJ aK 47 #[.pointer (some ⟨g,0,none⟩)] w (GotBoth6 w g A n c (q+230)):=by
 have lB:=h.gblt;obtain⟨rb,tZ⟩:=aT w.heap.size;have mL:=aD tZ;have Gy:=aD (show eV w g A n c q rb 29 #[.int .i64 0,.int .i64 0,.int .i64 0] (w.alloc (.cells #[.int .i64 0,.int .i64 0,.int .i64 0] 29)) from⟨h.alloc _,Yq (zgh _ _) _,lB,mH _ _ tZ,aC⟩);clear h
 go_enter Tryz.func47,Tryz.ntmps47
 go_upto_region 1 with fail
 rw[<-tZ];clear tZ;obtain⟨W1,cV⟩:=aT (w.alloc (.cells #[.int .i64 0,.int .i64 0,.int .i64 0] 29));rw[<-cV] at Gy⊢;clear cV
 go_upto_region 2 with(go_at_call 60;refine(zB5 g q n c A W1 Gy.o.rd aC).mono ?_;rintro e w2 ⟨x,y,z,rfl,uJ,o6⟩;have jE:=aD (Gy.o.grown uJ o6);clear uJ o6)
 obtain⟨b,hb⟩:=aT w2.heap.size;rw[<-hb];have gT:=aD (jE.o.box #[.int .i64 x,.int .i64 y,.int .i64 z] hb);obtain⟨W2,oE⟩:=aT (w2.alloc (.cells #[.int .i64 x,.int .i64 y,.int .i64 z] 29));rw[<-oE] at gT⊢;have Gg:rb<W2.heap.size:=iR gT.o.rs.res;have zjH:b<W2.heap.size:=gT.o.zb;have zfw:g<W2.heap.size:=by have:=gT.o.rs.gr.size;omega
 clear oE hb
 go_upto_region 3 with(go_at_call 61;refine(zF9 g (q+10) n c A W2 gT.o.rs.rd aC).mono ?_;rintro e w3 ⟨A2,n2,c2,es,rfl,ztE,zk3,E8,zP⟩;have wO:=aD (gT.o.grown E8 zP);have Y9:=aD ztE;have zd0:=zP.size;clear ztE E8 zP)
 have ec:=aI wO.o.blk;have fc:=qX wO.o.blk;have er:=aI wO.o.rs.res;have fr:=qX wO.o.rs.res;have zb:=wO.o.zb;have zr:=iR wO.o.rs.res;have Yi:=wO.o.lo;have aV:¬b=rb:=aC;have zdx:¬rb=b:=aC;have mJ:=wO.o.rs.rlo;cases hy:(y==1)
 .go_wp2
  refine nN (v:=.tuple #[.agg #[.int .i64 x,.int .i64 y,.int .i64 z],.slice A2 n2 c2]) ?_ rfl ?_
  .simp[results,zi2,go_sem,er]
  .exact⟨x,y,z,A2,n2,c2,es,rfl,(Fl (Fl (Fl Y9.o Gg) Gg) Gg).wide aC (by simp;try omega),zk3,(eV.end1 (eV.end1 (eV.end1 (eV.end0 (q':=q+230) wO.o.rs aC) lB mJ) lB mJ) lB mJ).1,(eV.end1 (eV.end1 (eV.end1 (eV.end0 (q':=q+230) wO.o.rs aC) lB mJ) lB mJ) lB mJ).2⟩
 .go_wp2_with (go_at_call 62;refine(Dn g _ n c A _ w3 wO.o.rs.rd aC aC aC).mono ?_;rintro e w4 ⟨r,rfl,⟨r0,r1⟩,Na,Ii⟩;have uA:=aD (wO.o.grown Na Ii);have U6:=aD (ownV_gb Y9.o Ii zfw);have zJH:=Ii.size;have ec:=aI uA.o.blk;have fc:=qX uA.o.blk;have er:=aI uA.o.rs.res;have fr:=qX uA.o.rs.res;have zb:=uA.o.zb;have zr:=iR uA.o.rs.res;clear Na Ii)
  .
    refine nN (v:=.tuple #[.agg #[.int .i64 x,.int .i64 2,.int .i64 z],.slice A2 n2 c2]) ?_ rfl ?_
    .simp[results,zi2,go_sem,er]
    .exact⟨x,2,z,A2,n2,c2,es,rfl,(Fl (Fl (Fl (Fl (i:=1) (u:=.int .i64 2) U6.o zjH) Gg) Gg) Gg).wide aC (by simp;try omega),zk3,(eV.end1 (eV.end1 (eV.end1 (eV.end0 (q':=q+230) (uA.o.set (i:=1) (u:=.int .i64 2) rfl).rs aC) lB mJ) lB mJ) lB mJ).1,(eV.end1 (eV.end1 (eV.end1 (eV.end0 (q':=q+230) (uA.o.set (i:=1) (u:=.int .i64 2) rfl).rs aC) lB mJ) lB mJ) lB mJ).2⟩
  .
    refine nN (v:=.tuple #[.agg #[.int .i64 x,.int .i64 y,.int .i64 z],.slice A2 n2 c2]) ?_ rfl ?_
    .simp[results,zi2,go_sem,er]
    .exact⟨x,y,z,A2,n2,c2,es,rfl,(Fl (Fl (Fl U6.o Gg) Gg) Gg).wide aC (by simp;try omega),zk3,(eV.end1 (eV.end1 (eV.end1 (eV.end0 (q':=q+230) uA.o.rs aC) lB mJ) lB mJ) lB mJ).1,(eV.end1 (eV.end1 (eV.end1 (eV.end0 (q':=q+230) uA.o.rs aC) lB mJ) lB mJ) lB mJ).2⟩
def DrewOff (w:aE)(e:Hc)(w':aE):Prop:=
 ∃(o:fP) (A2:Option bC) (n2 c2:Nat) (es:List dQ),e=.returned (.tuple #[.agg #[.int .i64 o.ln,.int .i64 o.op,.int .i64 o.pt],.slice A2 n2 c2])/\Bf 54 3 w' w.heap.size w'.heap.size A2 n2 c2 (pA es)/\n2<=20/\bY w.heap.size w w'
theorem zFX (A:Option bC)(n c:Nat)(w:aE)(h:Code w A n c):fJ aK 31 #[.slice A n c] w (DrewOff w):=by
 obtain⟨O,hO⟩:=aT (.cells #[.int .i64 0,.int .i64 0,.int .i64 0] 29:Obj);obtain⟨rb,tZ⟩:=aT w.heap.size;have mL:=aD tZ;have HO:=aD hO;have zG:=aD (mH w O tZ);have Qy:=aD (eT (fK w.heap.size w) O);have gA:(w.alloc O).heap.size=rb+1:=by rw[tZ];simp
 have zvk:=aD (h.alloc O);obtain⟨W0,H9⟩:=aT (w.alloc O);have za1:=aD H9;rw[<-H9] at zG Qy gA zvk;have zuk:=aD gA;clear h H9 gA hO
 go_enter Tryz.func31,Tryz.ntmps31
 go_upto_region 1 with fail
 rw[<-tZ,<-HO.o,<-za1.o];clear tZ
 go_wp2_with (first
  |(go_at_call 48;refine(zDL _ _ _ W0 zvk.o).mono ?_;rintro e w1 ⟨g,A1,n1,c1,rfl,r1,b1,g0⟩;have jE:=aD r1;have gT:=aD b1;have qY:=aD g0;clear r1 b1 g0)
  |(go_at_call 47;refine(zI1 g 0 n1 c1 A1 w1 jE.o aC).mono ?_;rintro e w2 ⟨x,y,z,A2,n2,c2,es,rfl,o2,Yc,r2,g2⟩;have qZ:=(ze0 g2 (mX gT.o zG.o).1 (by have:=qY.o;have:=zuk.o;omega)).1;rw[HO.o] at qZ;have zbt:=aD o2;have zGq:=aD g2;have znx:=aD qZ;have er:=aI qZ;have fr:=qX qZ;have zr:=iR qZ;clear o2 r2 g2 qZ))
 refine nN (v:=.tuple #[.agg #[.int .i64 x,.int .i64 y,.int .i64 z],.slice A2 n2 c2]) ?_ rfl ?_
 .simp[results,Tryz.results31,go_sem,er]
 .have hw:=mL.o
  have gA:=zuk.o;have dS:=gT.o.size;have rF:=qY.o;have h1:=Qy.o.trans (gT.o.mono aC);have h2:=h1.trans (zFC zGq.o aC aC);have h3:Chg rb (rb+1) w2 _:=((((Chg.refl rb (rb+1) w2).setCell (p:=⟨rb,0,none⟩) (bL _) (yB _) (.int .i64 x)).setCell (p:=⟨rb,1,none⟩) (bL _) (yB _) (.int .i64 y)).setCell (p:=⟨rb,2,none⟩) (bL _) (yB _) (.int .i64 z));have Gg:rb<w1.heap.size:=aC;exact⟨⟨x,y,z⟩,A2,n2,c2,es,rfl,(Fl (Fl (Fl zbt.o Gg) Gg) Gg).wide aC aQ,Yc,h2.trans ⟨h3.os,h3.tape,h3.output,h3.size,λB hB=>h3.block B aC aC⟩⟩
end Go.Proofs.YtfcjiloojkjaeaaGreatDoor
namespace Go.Proofs.YtfcjiloojkjaeaaGreatDoor
open Go.RowKit
open Go.RowKit
theorem zt2 (lo hi n c xK kN n' c':Nat)(A A':Option bC)(xs ys:List (List UInt8))(w:aE)(h:cE w lo hi 1 A n c (nV xs))(h':cE w xK kN 1 A' n' c' (nV ys))(hn:n<=1048576)(wD:n'<=1048576):
 fJ aK 32 #[.slice A n c,.slice A' n' c'] w (SaysB w (xs==ys)):=by
 have hl:=aD h.txtLen;have zY:=aD h'.txtLen
 go_enter Tryz.func32,Tryz.ntmps32
 go_wp2
 go_loopw [5] (λi wr=>∃k:Nat,k<=n/\k<=n'/\i=.int .i64 k/\(∃m,wr=w.drewN m)/\∀j,j<k->xs[j]? =ys[j]?) (λi _=>n-(intOf i).toNat)
 case atStart=>exact⟨0,mK _,mK _,rfl,⟨0,rfl⟩,λj hj=>absurd hj aC⟩
 case round=>
  obtain⟨k,hk,cY,rfl,⟨m,rfl⟩,gJ⟩:=hrel;have HC:=aD gJ;clear gJ;by_cases aU:k<n
  .by_cases zmq:k<n'
   .obtain⟨b,off,v,rfl,_,_,h3,fG,hv⟩:=h.txtAt aU
    obtain⟨b',zMo,v',rfl,_,_,zhc,Hm,Me⟩:=h'.txtAt zmq;have HX:=aD fG;have zuP:=aD Hm;clear fG Hm h h';have i0:(0:Int)<=(k:Int):=aC;have i1:(k:Int)<(n:Int):=aC;have i2:(k:Int)<(n':Int):=aC;obtain⟨t,ht⟩:=aT ((v==v'));have hb:(v==v')=t:=ht.symm;have HT:=aD ht;clear ht;cases t
    .go_wp2
     go_quiet (fail)
     go_wp2;go_ret;exact⟨L6 (by
      symm;rw[beq_eq_false_iff_ne];intro e;subst e;have:=HX.o.symm.trans zuP.o;injection this with this;subst this;simpa using HT.o),_,by first|rfl|exact aE.drewN_drewN _ _ _⟩
    .go_wp2
     go_quiet (fail)
     go_wp2;go_roundw
     case rel=>exact⟨k+1,aC,aC,qJ,⟨_,rfl⟩,λj hj=>by
      by_cases e:j=k
      .subst e;rw[HX.o,zuP.o,eq_of_beq HT.o.symm]
      .exact HC.o j aC⟩
     case measure=>simp[intOf];omega
   .have HN:=aD (show(xs==ys)=false by
     rw[beq_eq_false_iff_ne];intro e;have:=congrArg zqd e;rw[hl.o,zY.o] at this;omega)
    have hq:((n:Int)==(n':Int))=false:=by rw[beq_eq_false_iff_ne];omega
    clear h h';go_wp2;go_ret;exact⟨L6 HN.o.symm,_,rfl⟩
  .have e:k=n:=aC
   have HE:=aD e;clear e h h';by_cases hq:n=n'
   .have Ni:((n:Int)==(n':Int))=true:=by rw[beq_iff_eq];omega
    have HQ:=aD hq;clear hq;go_wp2;go_ret;refine⟨L6 ?_,_,rfl⟩;symm;rw[beq_iff_eq];apply List.ext_getElem?;intro j;by_cases hj:j<k
    .exact HC.o j hj
    .rw[O0 (by rw[hl.o,<-HE.o];omega),O0 (by rw[zY.o,<-HQ.o,<-HE.o];omega)]
   .have Ni:((n:Int)==(n':Int))=false:=by rw[beq_eq_false_iff_ne];omega
    have HN:=aD (show(xs==ys)=false by
     rw[beq_eq_false_iff_ne];intro e;have:=congrArg zqd e;rw[hl.o,zY.o] at this;omega)
    clear hq;go_wp2;go_ret;exact⟨L6 HN.o.symm,_,rfl⟩
end Go.Proofs.YtfcjiloojkjaeaaGreatDoor
namespace Go.Mt
open Go.RowKit Go.Conc Go.Tt
section
variable {p:bT}{op gs gs₁ fs:aO->Bool}{St:Nat->Prop}{W0:aE}{Post:aF->aE->Prop}
variable {ops:Array aX}{k:List dI}{ms:List Fm}{o:aX}
theorem JO.opw (L:Lv p op gs gs₁ fs){fn:aO}{tmps:Array aF}{i:Nat}{rest:List Nat}{w:aE}{v:aF}(hf:op fn=false)(ho:ops[i]? =some o)(cF:cO o (cS ops tmps)=true)
 (hx:∀T,(aS (bE tmps []).eval o).run p (Tt.tp w T 0)=.ok (.value v) (Tt.tp w T 0)) (h:∀T,JL p op gs fs St W0 Post ⟨fn,(b7 ⟨tmps,[]⟩ o.dst v).tmps,.inRegion ops rest::k,false⟩ ms (Tt.tp w T 0)):JL p op gs fs St W0 Post ⟨fn,tmps,.inRegion ops (i::rest)::k,false⟩ ms w:=by
 refine JO.one L.fit rfl (λe=>by cases e) (λT=>((⟨fn,(b7 ⟨tmps,[]⟩ o.dst v).tmps,.inRegion ops rest::k,false⟩,ms),Tt.tp w T 0)) (λT=>?_) (λT K R y Af=>?_) h
 .show(eK p _ ms).run p _=_
  simp only[eK,Bool.false_eq_true,if_false,q8,ho,Bz,vB,cF,if_true];have he:Fm.eval ⟨fn,tmps,.inRegion ops (i::rest)::k,false⟩=(bE tmps []).eval:=by funext x;cases x<;>rfl
  rw[he];refine(Sem.run_bind' p _ _ _).trans ?_;rw[hx];simp only[Result.andThen,qK,Pure.pure,Sem.run,Fm.fin,ho,uF,b7];cases o.dst<;>rfl
 .obtain⟨f,xs,bZ,c,c',rest,E5,h1,h2,h3,h4,_⟩:=Af.ex
  simp only[oM] at h4;have h5:=congrArg Fm.fn h4.1;rw[Fj] at h5;have h6:op f=true:=h1;simp only at h5;rw[<-h5,hf] at h6;cases h6
theorem JO.drawnC (L:Lv p op gs gs₁ fs)(Jy:p.follows .mixedOrders=true){fn:aO}{t0:Array aF}{id:Nat}(ch:List Nat)(V0:Nat->aF)(S:List aF->aE->Prop)(hf:op fn=false)(bM:yO ops=true)(sG:J9 ops ch=true)(oK:ch.all (λc=>decide (c<ops.size))=true)
 (hT:∀vs w T e,S vs w->S vs (Tt.tp w T e))
 (hR:∀(i:Nat) (o:aX),ops[i]? =some o->i∉ch->∀vs w,vs.length<ch.length->(∀j c,ch[j]? =some c->dep ops i c=true->j<vs.length)->S vs w->cO o (cS ops (cT ops (VV ch V0 vs) t0))=true/\(aS (bE (cT ops (VV ch V0 vs) t0) []).eval o).run p w=.ok (.value (V0 i)) w)
 (hC:∀(vs:List aF) (c:Nat) (o:aX) w,ch[vs.length]? =some c->ops[c]? =some o->S vs w->∀(t:Array aF) (rest:List Nat),(∀s∈o.looksAt ops,t[s]? =(cT ops (VV ch V0 vs) t0)[s]?)->
  (∀v w',S (vs++[v]) w'->JL p op gs fs St W0 Post ⟨fn,(b7 ⟨t,[]⟩ o.dst v).tmps,.inRegion ops rest::k,false⟩ ms w')->JL p op gs fs St W0 Post ⟨fn,t,.inRegion ops (c::rest)::k,false⟩ ms w)
 (hk:∀vs w,vs.length=ch.length->S vs w->JL p op gs fs St W0 Post ⟨fn,cT ops (VV ch V0 vs) t0,k,false⟩ ms w) {w:aE} (h0:S [] w):
 JL p op gs fs St W0 Post ⟨fn,t0,.code (.region id ops true)::k,false⟩ ms w:=by
 refine JO.one L.fit rfl (λe=>by cases e) (λT=>((⟨fn,t0,.inRegion ops (Region.schedule (p.follows .mixedOrders) ops (T 0 (.order fn id)))::k,false⟩,ms),Tt.tp w T 1)) (λT=>?_) (λT K' R y ho=>?_) (λT=>?_)
 .show(eK p _ ms).run p _=_
  rfl
 .obtain⟨f,xs,bZ,c,c',rest,E5,h1,h2,h3,h4,_⟩:=ho.ex
  simp only[oM] at h4;have h5:=congrArg Fm.fn h4.1;rw[Fj] at h5;have h6:op f=true:=h1;simp only at h5;rw[<-h5,hf] at h6;cases h6
 .rw[Jy]
  exact zkC (σ:=Unit) (P:=p) (J:=λ_ is t w=>JL p op gs fs St W0 Post ⟨fn,t,.inRegion ops is::k,false⟩ ms w) (S:=λvs _ w=>S vs w) bM sG oK
   (λvs _ i o rest t w v hS ho uP hw hx hJ=>JO.opw L hf ho hw hx hJ) (λvs _=>hT vs) (λi o ho uP vs _=>hR i o ho uP vs)
   (λvs c o _ w hj ho h t rest hs cY=>hC vs c o w hj ho h t rest hs λv w'=>cY v () w') (λvs _ w hl h=>JO.regEnd L hf (hk vs w hl h)) (s:=()) (hT _ _ _ _ h0) _
theorem JO.drawnL (L:Lv p op gs gs₁ fs)(Jy:p.follows .mixedOrders=true){fn:aO}{t0:Array aF}{id:Nat}{WI:aE->Prop}{D:List (Option Nat)}(l:List aF)(hf:op fn=false)(bM:yO ops=true)(hD:ops.toList.map (·.dst)=D)(cK:∀s,tP ops s=true->s<t0.size)(Ht:∀w T e,WI w->WI (Tt.tp w T e))
 (h:∀V Tf,X5 V D l->(∀s,tP ops s=false->V s=t0.getD s aA)->rI Tf V->(∀(i:Nat) (o:aX),ops[i]? =some o->Ct p op gs fs St W0 Post fn ops k ms WI Tf i o (M0 V o))/\∀w,Tf.size=t0.size->WI w->JL p op gs fs St W0 Post ⟨fn,Tf,k,false⟩ ms w) {w:aE} (hw:WI w):
 JL p op gs fs St W0 Post ⟨fn,t0,.code (.region id ops true)::k,false⟩ ms w:=by
 have M:=Gs (vals:=λi=>l.getD i aA) (t0:=t0) (Gr bM);refine JO.drawnV L Jy hf bM Ht cK (λs=>(cT ops (λi=>l.getD i aA) t0).getD s aA) (λV h1 h2=>?_) hw;have hz:X5 V D l:=Ie hD λi o d ho hd=>by
  rw[h1 d (Tx ho hd)];have:=M.got i o d ho hd (cK d (Tx ho hd)) (by have:=(dR.1 ho).1;simp[this]);simp only[sZ,this,vB]
 exact⟨λTf hT=>(h V Tf hz h2 hT).1,λTf w hT hs hw=>(h V Tf hz h2 hT).2 w hs hw⟩
theorem Ct.pv {fn:aO}{WI:aE->Prop}{Tf:Array aF}{V:Nat->aF}{i d:Nat}{v:aF}(h:cO o (cS ops Tf)=true:=by exact dE rfl)(hv:V d=v:=by assumption)
 (hx:∀w,(aS (bE Tf []).eval o).run p w=.ok (.value v) w:=by intro w;unfold execOp;go_simp):Ct p op gs fs St W0 Post fn ops k ms WI Tf i o (V d):=hv▸ .val h λw _=>hx w
theorem Ct.rd {fn:aO}{WI:aE->Prop}{Tf:Array aF}{V:Nat->aF}{i d:Nat}{v:aF}(hx:∀w,WI w->(aS (bE Tf []).eval o).run p w=.ok (.value v) w)(h:cO o (cS ops Tf)=true:=by exact dE rfl)(hv:V d=v:=by assumption):Ct p op gs fs St W0 Post fn ops k ms WI Tf i o (V d):=hv▸ .val h hx
theorem Ct.ln (L:Lv p op gs gs₁ fs){fn:aO}{WI:aE->Prop}{Tf:Array aF}{V:Nat->aF}{i d:Nat}{v:aF}{f:aO}{args:Array cJ}{jM:Array aN}{xs:Array aF}(Al:op fn=false)(h:cO o (cS ops Tf)=true)(Ht:∀w T e,WI w->WI (Tt.tp w T e))(hc:∀w,WI w->fJ p f xs w (λe w'=>e=.returned v/\WI w'))(ha:args.map (bE Tf []).eval=xs)
 (ho:ops[i]? =some o:=by exact rfl) (hop:o.op=.call ⟨.value (.func f),args,jM⟩:=by exact rfl) (hg:gs₁ f=true:=by kernel_rfl) (rS:args.all (dP fs)=true:=by kernel_rfl) (hv:V d=v:=by assumption):Ct p op gs fs St W0 Post fn ops k ms WI Tf i o (V d):=by
 rw[hv];exact Ct.lone L Al ho h hop hg rS Ht λw hw=>ha▸hc w hw
theorem Ct.cl {fn:aO}{WI:aE->Prop}{Tf:Array aF}{V:Nat->aF}{i d:Nat}{v:aF}(h:cO o (cS ops Tf)=true)(hx:∀(t:Array aF) (rest:List Nat) (w:aE),(∀x∈o.op.operands,(bE t []).eval x=(bE Tf []).eval x)->cO o (cS ops t)=true->WI w->
 (∀w',WI w'->JL p op gs fs St W0 Post ((⟨fn,t,.inRegion ops (i::rest)::k,false⟩:Fm).fin ops i rest k v) ms w')->JL p op gs fs St W0 Post ⟨fn,t,.inRegion ops (i::rest)::k,false⟩ ms w) (hv:V d=v:=by assumption):Ct p op gs fs St W0 Post fn ops k ms WI Tf i o (V d):=by
 rw[hv];exact .call h hx
end
end Go.Mt
namespace Go.Proofs.YtfcjiloojkjaeaaGreatDoor
open Go.RowKit Go.Mt Go.Conc Go.Tt
structure Nz where
 o:fP
 es:List dQ
 g:Nat
 A:Option bC
 n:Nat
 c:Nat
abbrev offO (o:fP):Obj:=.cells #[.int .i64 o.ln,.int .i64 o.op,.int .i64 o.pt] 29
abbrev offA (o:fP):Value:=.agg #[.int .i64 o.ln,.int .i64 o.op,.int .i64 o.pt]
structure Iw (c:Nz)(w:aE):Prop where
 k:w.heap[c.g]? =some (offO c.o)
 e:cE w 0 w.heap.size 3 c.A c.n c.c (pA c.es)
 t:qS w
 u:zK w
 n20:c.n<=20
section
variable {c:Nz}{w w':aE}
def Iw.bl (h:Iw c w)(k:Bl w.heap.size w w'):Iw c w':=⟨(k.block _ (iR h.k)).trans h.k,h.e.bl k,h.t.bls k (bL _),h.u.bls k (bL _),h.n20⟩
def Iw.below (h:Iw c w)(k:bY w.heap.size w w'):Iw c w':=h.bl ⟨k.size,k.block⟩
def Iw.tp (h:Iw c w)(T:kS)(e:Nat):Iw c (Tt.tp w T e):=⟨h.k,h.e.tp T e,Pk rfl h.t,h.u,h.n20⟩
variable {A:Option bC}{xs:List aF}
def cE.belowZ {s n m:Nat}(h:cE w 0 w.heap.size s A n m xs)(k:bY w.heap.size w w'):cE w' 0 w'.heap.size s A n m xs:=h.bl ⟨k.size,k.block⟩
def cE.tpZ {s n m:Nat}(h:cE w 0 w.heap.size s A n m xs)(T:kS)(e:Nat):cE (Tt.tp w T e) 0 (Tt.tp w T e).heap.size s A n m xs:=h.tp T e
def zlK (w:aE)(m:Nat):bY w.heap.size w (w.drewN m):=below_drewN m
end
variable {s:Nat}
theorem zuA {α:Type}(f:α->List aF)(hf:∀x,(f x).length=s):∀(l:List α) (k:Nat),(l.flatMap f).take (k*s)=(l.take k).flatMap f
 |[],k=>by simp
 |x::l,0=>by simp
 |x::l,k+1=>by
  rw[List.take_succ_cons,Pl,Pl,Nat.succ_mul,Nat.add_comm,<-zuA f hf l k];have e:=hf x;subst e;rw[List.take_append];congr 1
  .exact zV aC
  .congr 1;omega
variable {w:aE}{lo hi n c k:Nat}{A:Option bC}
theorem cE.takeA {xs:List aF}(h:cE w lo hi s A n c xs)(hk:k<=n):cE w lo hi s A k c (xs.take (k*s)):=by
 refine⟨by rw[qO,h.len];exact Nat.min_eq_left (Nat.mul_le_mul_right _ hk),eG hk h.le,h.cap,λh0=>?_⟩;obtain⟨b,off,e,h1,h2,h3,h4⟩:=h.at_ aC;refine⟨b,off,e,h1,h2,h3,λj v hv=>h4 j v ?_⟩;rw[Oe] at hv;split at hv
 .exact hv
 .cases hv
theorem cE.takeE {es:List dQ}(h:cE w lo hi 3 A n c (pA es))(hk:k<=n):cE w lo hi 3 A k c (pA (es.take k)):=by
 have:=h.takeA hk;unfold pA at this⊢
 rwa [zuA dQ.cells (s:=3) (λ_=>rfl)] at this
variable {xs:List (List UInt8)}
theorem cE.takeX (h:cE w lo hi 1 A n c (nV xs))(hk:k<=n):cE w lo hi 1 A k c (nV (xs.take k)):=by
 have:=h.takeA hk;unfold nV at this⊢
 rwa [Nat.mul_one,<-List.map_take] at this
variable {P:bT}{ρ:cJ->aF}{o:aX}{x:cJ}
theorem zjg {hi:cJ}{t e:aN}(ho:o.op=.slice t x none (some hi) none)(hu:P.underlying t=some (.slice e))(jK:(P.info? e).isSome=true)(hx:ρ x=.slice A n c)(hh:ρ hi=.int .i64 k)(hk:k<=n)(hc:n<=c):
 (aS ρ o).run P w=.ok (.value (.slice A k c)) w:=by
 obtain⟨ie,kN⟩:=Xe.1 jK;obtain⟨dst,yJ,type,pos,after,guard⟩:=o;simp only at ho;subst ho;have h1:(k:Int)<=(c:Int):=aC;have h0:(0:Int)<=(k:Int):=aC;cases A<;>simp[aS,Instr.sliceAt,Instr.slice,Instr.sliceBounds,Instr.sliceBound,hx,hh,run_underlying hu,sizeOf,typeInfo,kN,asIntOf,h0,h1]
 .exact λh=>absurd h aC
 .rw[if_pos aC];simp[bC.add]
section
variable {p:bT}{op gs gs₁ fs:aO->Bool}{St:Nat->Prop}{W0:aE}{Post:aF->aE->Prop}
variable {ops:Array aX}{k:List dI}{ms:List Fm}{o:aX}
theorem JO.ld (L:Lv p op gs gs₁ fs){fn:aO}{tmps T':Array aF}{i:Nat}{rest:List Nat}{w:aE}{b:Nat}{cs:Array aF}{T:aN}{fz:Nat×Nat}{t:aN}{x:cJ}{d:TypeDesc}(hf:op fn=false)(hb:w.heap[b]? =some (.cells cs T fz))(hu:p.underlying t=some d)(h:JL p op gs fs St W0 Post ⟨fn,T',.inRegion ops rest::k,false⟩ ms w)(ho:ops[i]? =some o:=by exact zbS rfl (by conv=>lhs;whnf))
 (hop:o.op=.load t x:=by exact rfl) (hx:(bE tmps []).eval x=.pointer (some ⟨b,0,none⟩):=by exact rfl) (hd:d.isRow=true:=by exact rfl) (hi:(p.info? t).map (·.size)=some cs.size:=by kernel_rfl) (cF:cO o (cS ops tmps)=true:=by exact rfl)
 (ht:(b7 ⟨tmps,[]⟩ o.dst (.agg cs)).tmps=T':=by first|(simp only[Go.Act.put,List.setIfInBounds_toArray,List.set_cons_zero,List.set_cons_succ];done)|(simp only[Go.Act.put,List.setIfInBounds_toArray,List.set_cons_zero,List.set_cons_succ];rfl)):JL p op gs fs St W0 Post ⟨fn,tmps,.inRegion ops (i::rest)::k,false⟩ ms w:=
 JO.opv L hf ho cF (λT' e=>zfI (w:=Tt.tp w T' e) hop hb hx hu hd hi) (ht▸h)
theorem JO.fn_ {fn:aO}{t:Array aF}{i:Nat}{rest:List Nat}{td:List dI}{w:aE}{v:aF}(ho:ops[i]? =some o)(h:JL p op gs fs St W0 Post ⟨fn,(b7 ⟨t,[]⟩ o.dst v).tmps,.inRegion ops rest::k,false⟩ ms w):JL p op gs fs St W0 Post ((⟨fn,t,td,false⟩:Fm).fin ops i rest k v) ms w:=by
 simp only[Fm.fin,ho,uF];simp only[b7] at h;revert h;cases o.dst<;>exact λh=>h
end
variable {ops:Array aX}{vals:Nat->aF}{t0:Array aF}{i:Nat}{d:Tmp}
theorem zes (bM:yO ops=true)(ho:ops[i]? =some o)(hd:o.dst=some d)(hz:d<t0.size):(bE (cT ops vals t0) []).eval (.tmp d)=vals i:=by
 have h:=(Gs (vals:=vals) (t0:=t0) (Gr bM)).got i o d ho hd hz (by have:=(dR.1 ho).1;simp[this]);show(cT ops vals t0).getD d aA=_;simp only[sZ,h,vB]
theorem znG (bM:yO ops=true)(hs:tP ops s=false):(bE (cT ops vals t0) []).eval (.tmp s)=t0.getD s undef:=by
 have h:=(Gs (vals:=vals) (t0:=t0) (Gr bM)).old s (λi o ho _ e=>by rw[Tx ho e] at hs;cases hs);show(cT ops vals t0).getD s aA=_;simp only[sZ,h]
variable {t:Array aF}
theorem ar2t {a b:Nat}{x y:aF}{fn:aO}{td:List dI}(h1:(bE t []).eval (.tmp a)=x)(h2:(bE t []).eval (.tmp b)=y):
 (#[.tmp a,.tmp b]:Array cJ).map (Fm.eval ⟨fn,t,td,false⟩)=#[x,y]:=by
 rw[<-h1,<-h2];simp only[tJ,jD,sC];rfl
def U4:Go.Code:=(Tryz.f7.body).getD .skip
def rLRF9:Go.Code:=sA (sB (sB (sB (sB (sB (sB (sB (U4))))))))
def zjG:Go.Code:=sA (sB (sB (sB (sB (sB (sB (sB (sB (sB (sB (sB (U4))))))))))))
def rQ:Array Oper:=match rLRF9 with| .region _ ops _=>ops|_=>#[]
def rLRF9_eq:rLRF9=.region 9 rQ true:=rfl
abbrev oLRF9_0:Oper:=aM rQ 0 (some 79) (.load 29 (.tmp 3))
def zpm:rQ[0]? =some oLRF9_0:=rfl
abbrev oLRF9_1:Oper:=aM rQ 1 (some 80) (.move (.tmp 4))
def zp2:rQ[1]? =some oLRF9_1:=rfl
abbrev oLRF9_2:Oper:=aM rQ 2 (some 81) (.move (.tmp 9))
def zvv:rQ[2]? =some oLRF9_2:=rfl
abbrev oLRF9_3:Oper:=aM rQ 3 (some 82) (.slice 31 (.tmp 80) none (some (.tmp 81)) none)
def zrK:rQ[3]? =some oLRF9_3:=rfl
abbrev zuL:Oper:=aM rQ 4 (some 83) (.call ⟨.value (.func 14),#[.tmp 79,.tmp 82],#[29,31]⟩)
def zd4:rQ[4]? =some zuL:=rfl
abbrev oLRF9_5:Oper:=aM rQ 5 (some 78) (.move (.tmp 83))
def zgl:rQ[5]? =some oLRF9_5:=rfl
abbrev oLRF9_6:Oper:=aM rQ 6 (some 84) (.extract (.tmp 78) 0)
def zns:rQ[6]? =some oLRF9_6:=rfl
abbrev oLRF9_7:Oper:=aM rQ 7 (some 85) (.extract (.tmp 78) 1)
def zvm:rQ[7]? =some oLRF9_7:=rfl
abbrev oLRF9_8:Oper:=aM rQ 8 (some 10) (.assign (.tmp 84))
def zxC:rQ[8]? =some oLRF9_8:=rfl
abbrev oLRF9_9:Oper:=aM rQ 9 (some 11) (.assign (.tmp 85))
def zq0:rQ[9]? =some oLRF9_9:=rfl
def Fe:yO rQ=true:=aP
def zzU:J9 rQ [4,5,6,8,9]=true:=aP
def zFS:[4,5,6,8,9].all (λc=>decide (c<rQ.size))=true:=aP
def zCW:rQ.toList.map (·.dst)=[some 79,some 80,some 81,some 82,some 83,some 78,some 84,some 85,some 10,some 11]:=rfl
structure RfW (c:Nz)(A5:Option bC)(c5:Nat)(T:List (List UInt8))(w:aE):Prop where
 r:Iw c w
 l:cE w 0 w.heap.size 1 A5 c.n c5 (nV T)
variable {c:Nz}{A5:Option bC}{c5:Nat}{T:List (List UInt8)}
def RfW.bl {w':aE}(h:RfW c A5 c5 T w)(k:Bl w.heap.size w w'):RfW c A5 c5 T w':=⟨h.r.bl k,h.l.bl k⟩
def RfW.tp (h:RfW c A5 c5 T w)(X:kS)(e:Nat):RfW c A5 c5 T (Tt.tp w X e):=⟨h.r.tp X e,h.l.tp X e⟩
abbrev seq9 (V:aF):List Value:=[.tuple #[V,.bool true],.tuple #[V,.bool true],V,V,.bool true]
abbrev vals9 (c:Nz)(k:Nat)(i:Nat):Value:=([offA c.o,.slice c.A c.n c.c,.int .i64 (k:Int),.slice c.A k c.c,aA,aA,aA,.bool true]:List aF).getD i aA
def S9 (c:Nz)(A5:Option bC)(c5:Nat)(T:List (List UInt8))(k:Nat)(vs:List aF)(w:aE):Prop:=
 RfW c A5 c5 T w/\∃V,vs=(seq9 V).take vs.length/\(0<vs.length->∃A n m,V=.slice A n m/\n<=1048576/\cE w 0 w.heap.size 1 A n m (nV (x6 c.o (c.es.take k))))
variable {vs:List aF}
theorem S9.tp (h:S9 c A5 c5 T k vs w)(X:kS)(e:Nat):S9 c A5 c5 T k vs (Tt.tp w X e):=by
 obtain⟨h1,V,h2,h3⟩:=h;refine⟨h1.tp X e,V,h2,λhp=>?_⟩;obtain⟨A,n,m,e1,e2,e3⟩:=h3 hp;exact⟨A,n,m,e1,e2,e3.tp X e⟩
variable {l:List aF}{v:aF}
theorem zD8 (h:vs=l.take vs.length)(hv:l[vs.length]? =some v):vs++[v]=l.take (vs++[v]).length:=by
 rw[jZ,List.length_singleton,Lr,hv,<-h];rfl
variable {ch:List Nat}{V0:Nat->aF}{j:Nat}
theorem zfL (h:vs=l.take vs.length)(hj:ch.idxOf? i=some j)(hl:j<vs.length):VV ch V0 vs i=l.getD j undef:=by
 unfold VV;rw[hj];simp only[S8];rw[h,Oe,if_pos hl]
theorem zcW (hj:ch.idxOf? i=none):VV ch V0 vs i=V0 i:=by
 unfold VV;rw[hj]
theorem Ym (bM:yO ops=true)(hs:∀s∈o.looksAt ops,t[s]? =(cT ops vals t0)[s]?){oi:aX}(hl:(o.looksAt ops).contains d=true)(hi:ops[i]? =some oi)(hd:oi.dst=some d)(hz:d<t0.size):(bE t []).eval (.tmp d)=vals i:=by
 rw[<-zes (vals:=vals) (t0:=t0) bM hi hd hz];exact zh8 λs e=>by cases e;exact hs _ (List.contains_iff_mem.1 hl)
theorem zxY {xs:Array aF}(ho:o.op=.extract x n)(hx:ρ x=.tuple xs)(hv:xs[n]? =some v):(aS ρ o).run P w=.ok (.value v) w:=by
 unfold aS;rw[ho];simp[go_sem,hx,hv]
section
variable {St:Nat->Prop}{W0:aE}{Post:aF->aE->Prop}
variable {T:List (List UInt8)}
theorem jo_R9 {c:Nz}{A5:Option bC}{c5:Nat}{k:Nat}{w:aE}{t0:Array aF}{kk:List dI}(hz:t0.size=144)(h3:t0.getD 3 aA=.pointer (some ⟨c.g,0,none⟩))(h4:t0.getD 4 aA=.slice c.A c.n c.c)(h9:t0.getD 9 aA=.int .i64 (k:Int))(hk:k<=c.n)(ho:eM c.o (c.es.take k)=true)
 (hw:RfW c A5 c5 T w)
 (hJ:∀A n m w',RfW c A5 c5 T w'->n<=1048576->cE w' 0 w'.heap.size 1 A n m (nV (x6 c.o (c.es.take k)))->JS St W0 Post ⟨7,cT rQ (VV [4,5,6,8,9] (vals9 c k) (seq9 (.slice A n m))) t0,kk,false⟩ [] w'):
 JS St W0 Post ⟨7,t0,.code rLRF9::kk,false⟩ [] w:=by
 have L:=lvF;have cD:oA olL 7=false:=aP;rw[rLRF9_eq];refine JO.drawnC L uB.mixed [4,5,6,8,9] (vals9 c k) (S9 c A5 c5 T k) cD Fe zzU zFS (λvs w T e h=>h.tp T e) ?_ ?_ ?_ ⟨hw,aA,rfl,λh=>absurd h aH⟩
 .refine λi o hi uP vs w hl tH hS=>?_
  obtain⟨lX,V,Od,-⟩:=hS;have zKo:i<10:=(dR.1 hi).1;have gJ:i=0\/i=1\/i=2\/i=3\/i=7:=by simp only[List.mem_cons,nM,or_false] at uP;omega
  rcases gJ with rfl|rfl|rfl|rfl|rfl
  .obtain rfl:=cH (zpm.symm.trans hi)
   exact⟨dE rfl,zfI (t:=29) (x:=.tmp 3) (b:=c.g) rfl lX.r.k ((znG Fe aP).trans h3) zaP rfl aP⟩
  .obtain rfl:=cH (zp2.symm.trans hi)
   exact⟨dE rfl,zcw (.inl rfl) ((znG Fe aP).trans h4)⟩
  .obtain rfl:=cH (zvv.symm.trans hi)
   exact⟨dE rfl,zcw (.inl rfl) ((znG Fe aP).trans h9)⟩
  .obtain rfl:=cH (zrK.symm.trans hi)
   exact⟨dE rfl,zjg rfl zfO aP ((zes Fe zp2 rfl gK).trans (zcW rfl)) ((zes Fe zvv rfl gK).trans (zcW rfl)) hk lX.r.e.le⟩
  .obtain rfl:=cH (zvm.symm.trans hi)
   exact⟨dE rfl,zxY rfl ((zes Fe zgl rfl gK).trans (zfL Od rfl (tH 1 5 rfl aP))) rfl⟩
 .refine λvs c' o w hj Af hS t rest hs Pa=>?_
  have Nj:=hS;obtain⟨lX,V,Od,hV⟩:=hS;have st:∀X v,0<vs.length->(seq9 V)[vs.length]? =some v->S9 c A5 c5 T k (vs++[v]) (Tt.tp w X 0):=by
   intro X v hp hv;refine⟨lX.tp X 0,V,zD8 Od hv,λ_=>?_⟩;obtain⟨A,n,m,e1,e2,e3⟩:=hV hp;exact⟨A,n,m,e1,e2,e3.tp X 0⟩
  rcases hlen:vs.length with _|_|_|_|_|n<;>rw[hlen] at hj
  .obtain rfl:=cH hj
   obtain rfl:=cH (zd4.symm.trans Af);obtain rfl:=List.length_eq_zero_iff.1 hlen;refine zpO (o:=c.o) (es:=c.es.take k) (ops:=rQ) (i:=4) (oo:=zuL) (A:=c.A) (n:=k) (c:=c.c) rfl cD rfl zd4 (dE rfl) rfl (ar2t ((Ym Fe hs aP zpm rfl gK).trans (zcW rfl)) ((Ym Fe hs aP zrK rfl gK).trans (zcW rfl))) (lX.r.e.takeE hk) (by have:=lX.r.n20;omega) lX.r.t lX.r.u (λwn V b oJ=>?_);obtain⟨A,n,m,rfl,hn,hO⟩:=row_v oJ aH (zjW _ _);rw[ho];exact JO.fn_ zd4 (Pa _ wn ⟨lX.bl b,.slice A n m,rfl,λ_=>⟨A,n,m,rfl,hn,hO.slc.wide (mK _) (bL _)⟩⟩)
  .obtain rfl:=cH hj
   obtain rfl:=cH (zgl.symm.trans Af);exact JO.opw L cD zgl (dE rfl) (λT=>zcw (.inl rfl) ((Ym Fe hs aP zd4 rfl gK).trans (zfL Od rfl aC))) (λT=>Pa _ _ (st T _ aC zfe))
  .obtain rfl:=cH hj
   obtain rfl:=cH (zns.symm.trans Af);exact JO.opw L cD zns (dE rfl) (λT=>zxY (xs:=#[V,.bool true]) rfl ((Ym Fe hs aP zgl rfl gK).trans (zfL (j:=1) Od rfl aC)) rfl) (λT=>Pa _ _ (st T _ aC zfe))
  .obtain rfl:=cH hj
   obtain rfl:=cH (zxC.symm.trans Af);exact JO.opw L cD zxC (dE rfl) (λT=>zcw (.inr rfl) ((Ym Fe hs aP zns rfl gK).trans (zfL Od rfl aC))) (λT=>Pa _ _ (st T _ aC zfe))
  .obtain rfl:=cH hj
   obtain rfl:=cH (zq0.symm.trans Af);exact JO.opw L cD zq0 (dE rfl) (λT=>zcw (.inr rfl) ((Ym Fe hs aP zvm rfl gK).trans (zcW rfl))) (λT=>Pa _ _ (st T _ aC zfe))
  .cases hj
 .intro vs w hl hS
  obtain⟨lX,V,Od,hV⟩:=hS;have hl:vs.length=5:=hl;obtain⟨A,n,m,rfl,hn,zhc⟩:=hV aC;rw[hl] at Od;obtain rfl:vs=seq9 (.slice A n m):=Od;exact hJ A n m w lX hn zhc
end
def lY:Array Oper:=match zjG with| .region _ ops _=>ops|_=>#[]
def zFI:zjG=.region 17 lY true:=rfl
def zDG:lY.toList=[aM lY 0 (some 108) (.move (.tmp 11)),aM lY 1 (some 109) (.move (.tmp 108)),aM lY 2 (some 110) (.move (.tmp 10)) (some (1,true)),aM lY 3 (some 111) (.move (.tmp 5)) (some (1,true)),aM lY 4 (some 112) (.move (.tmp 9)) (some (1,true)),aM lY 5 (some 113) (.slice 26 (.tmp 111) none (some (.tmp 112)) none) (some (1,true)),aM lY 6 (some 114) (.call ⟨.value (.func 32),#[.tmp 110,.tmp 113],#[26,26]⟩) (some (1,true)),aM lY 7 (some 115) (.pick (.tmp 109) (.tmp 114) (.const (.bool false))),aM lY 8 (some 116) (.move (.tmp 115)),aM lY 9 (some 117) (.move (.tmp 5)) (some (8,true)),aM lY 10 (some 118) (.call ⟨.builtin .len,#[.tmp 117],#[26]⟩) (some (8,true)),aM lY 11 (some 119) (.move (.tmp 4)) (some (8,true)),aM lY 12 (some 120) (.call ⟨.builtin .len,#[.tmp 119],#[31]⟩) (some (8,true)),aM lY 13 (some 121) (.binOp .eql 3 (.tmp 118) (.tmp 120) 3) (some (8,true)),aM lY 14 (some 122) (.pick (.tmp 116) (.tmp 121) (.const (.bool false))),aM lY 15 (some 123) (.move (.tmp 122)),aM lY 16 (some 124) (.move (.tmp 14)) (some (15,true)),aM lY 17 (some 125) (.move (.tmp 12)) (some (15,true)),aM lY 18 (some 126) (.binOp .eql 3 (.tmp 124) (.tmp 125) 3) (some (15,true)),aM lY 19 (some 127) (.pick (.tmp 123) (.tmp 126) (.const (.bool false))),aM lY 20 (some 128) (.move (.tmp 127)),aM lY 21 (some 129) (.move (.tmp 14)) (some (20,true)),aM lY 22 (some 130) (.load 29 (.tmp 3)) (some (20,true)),aM lY 23 (some 131) (.move (.tmp 4)) (some (20,true)),aM lY 24 (some 132) (.call ⟨.value (.func 35),#[.tmp 130,.tmp 131],#[29,31]⟩) (some (20,true)),aM lY 25 (some 133) (.binOp .eql 3 (.tmp 129) (.tmp 132) 3) (some (20,true)),aM lY 26 (some 134) (.pick (.tmp 128) (.tmp 133) (.const (.bool false))),aM lY 27 (some 135) (.move (.tmp 134)),aM lY 28 (some 136) (.load 29 (.tmp 3)) (some (27,true)),aM lY 29 (some 137) (.move (.tmp 4)) (some (27,true)),aM lY 30 (some 138) (.move (.tmp 9)) (some (27,true)),aM lY 31 (some 139) (.slice 31 (.tmp 137) none (some (.tmp 138)) none) (some (27,true)),aM lY 32 (some 140) (.call ⟨.value (.func 30),#[.tmp 136,.tmp 139],#[29,31]⟩) (some (27,true)),aM lY 33 (some 141) (.move (.tmp 14)) (some (27,true)),aM lY 34 (some 142) (.binOp .leq 3 (.tmp 140) (.tmp 141) 3) (some (27,true)),aM lY 35 (some 143) (.pick (.tmp 135) (.tmp 142) (.const (.bool false))),aM lY 36 (some 2) (.assign (.tmp 143))]:=rfl
def zG2:lY.toList.map (·.dst)=[some 108,some 109,some 110,some 111,some 112,some 113,some 114,some 115,some 116,some 117,some 118,some 119,some 120,some 121,some 122,some 123,some 124,some 125,some 126,some 127,some 128,some 129,some 130,some 131,some 132,some 133,some 134,some 135,some 136,some 137,some 138,some 139,some 140,some 141,some 142,some 143,some 2]:=rfl
structure Ip (c:Nz)(A5:Option bC)(c5:Nat)(T:List (List UInt8))(j:Nat)(kK:Option bC)(m10:Nat)(w:aE):Prop where
 b:RfW c A5 c5 T w
 f:cE w 0 w.heap.size 1 kK j m10 (nV (T.take j))
section
variable {c:Nz}{A5:Option bC}{c5:Nat}{T:List (List UInt8)}{j:Nat}{kK:Option bC}{m10:Nat}{w w':aE}
def Ip.bl (h:Ip c A5 c5 T j kK m10 w)(b:Bl w.heap.size w w'):Ip c A5 c5 T j kK m10 w':=⟨h.b.bl b,h.f.bl b⟩
def Ip.tp (h:Ip c A5 c5 T j kK m10 w)(X:kS)(e:Nat):Ip c A5 c5 T j kK m10 (Tt.tp w X e):=⟨h.b.tp X e,h.f.tp X e⟩
end
theorem ar2 {a b:Nat}{x y:aF}(h1:(bE t []).eval (.tmp a)=x)(h2:(bE t []).eval (.tmp b)=y):(#[.tmp a,.tmp b]:Array cJ).map (bE t []).eval=#[x,y]:=by
 rw[<-h1,<-h2];simp only[tJ,jD,sC]
variable {Post:aF->aE->Prop}
theorem jo_R17 {St:Nat->Prop}{W0:aE}{kK:Option bC}{m10:Nat}{S:Int}(hz:t0.size=144)(h3:t0.getD 3 aA=.pointer (some ⟨c.g,0,none⟩))(h4:t0.getD 4 aA=.slice c.A c.n c.c)(h5:t0.getD 5 aA=.slice A5 c.n c5)(h9:t0.getD 9 aA=.int .i64 ((j:Int)))(vY:t0.getD 10 aA=.slice kK j m10)(Va:t0.getD 11 aA=.bool true)(Uh:t0.getD 12 aA=.int .i64 (S))(zFp:t0.getD 14 aA=.int .i64 (S))
 (HL:Ip c A5 c5 T j kK m10 w) (hk:j<=c.n) (zzm:c.n<=c5) (he:c.n<=c.c) (hS:Nw c.o c.es=S) (hP:Nw c.o (c.es.take j)<=S)
 (Il:∀(tmps:Array aF) (td:List dI) (w':aE),tmps.getD 2 aA=.bool true->JS St W0 Post ⟨7,tmps,td,true⟩ [] w'):
 JS St W0 Post ⟨7,t0,[.code zjG,.code .ret],false⟩ [] w:=by
 have cD:oA olL 7=false:=aP;rw[zFI];refine JO.drawnL lvF uB.mixed [.bool true,.bool true,.slice kK j m10,.slice A5 c.n c5,.int .i64 ((j:Int)),.slice A5 j c5,.bool true,.bool true,.bool true,.slice A5 c.n c5,.int .i64 ((c.n:Int)),.slice c.A c.n c.c,.int .i64 ((c.n:Int)),.bool true,.bool true,.bool true,.int .i64 (S),.int .i64 (S),.bool true,.bool true,.bool true,.int .i64 (S),offA c.o,.slice c.A c.n c.c,.int .i64 (S),.bool true,.bool true,.bool true,offA c.o,.slice c.A c.n c.c,.int .i64 ((j:Int)),.slice c.A j c.c,.int .i64 (Nw c.o (c.es.take j)),.int .i64 (S),.bool true,.bool true,.bool true] cD aP zG2 Ho (WI:=Ip c A5 c5 T j kK m10) (λw T e h=>h.tp T e) (λV Tf hU hV hT=>?_) HL;obtain⟨zMk,zcp,zCN,zzk,zFV,zCs,zKW,zJy,zcd,zEq,zJq,zyY,zJ0,zLc,zKX,zoc,zKg,zKy,zJh,zKH,zaO,zMl,zyT,zD0,zLg,zJI,zJD,U7,zAn,zCA,zJd,zGB,zL5,zLo,zLh,zLM,e2,-⟩:=hU;have e3:=(hV 3 aP).trans h3;have e4:=(hV 4 aP).trans h4;have e5:=(hV 5 aP).trans h5;have e9:=(hV 9 aP).trans h9;have zck:=(hV 10 aP).trans vY;have zg7:=(hV 11 aP).trans Va;have zbW:=(hV 12 aP).trans Uh;have zml:=(hV 14 aP).trans zFp;have p6:∀w,Ip c A5 c5 T j kK m10 w->fJ aK 32 #[.slice kK j m10,.slice A5 j c5] w λe w'=>e=.returned (.bool true)/\Ip c A5 c5 T j kK m10 w':=λw h=>by
  have:=h.b.r.n20;refine(zt2 _ _ _ _ _ _ _ _ _ _ _ _ w h.f (h.b.l.takeX hk) aC aC).mono ?_;rintro e w' ⟨rfl,m,rfl⟩;exact⟨by rw[beq_self_eq_true],h.bl ⟨(zlK w m).size,(zlK w m).block⟩⟩
 have zIS:∀w,Ip c A5 c5 T j kK m10 w->fJ aK 35 #[offA c.o,.slice c.A c.n c.c] w λe w'=>e=.returned (.int .i64 S)/\Ip c A5 c5 T j kK m10 w':=λw h=>by
  refine(specCA_u c.o h.b.r.e (by have:=h.b.r.n20;omega) (bL _)).mono ?_;rintro e w' ⟨rfl,B⟩;exact⟨by rw[hS],h.bl ⟨B.size,B.block⟩⟩
 exact⟨Hr zDG ⟨.pv,.pv,.pv (tE hT rfl rfl rfl zcp),.pv (tE hT rfl rfl rfl zcp),.pv (tE hT rfl rfl rfl zcp),.pv (tE hT rfl rfl rfl zcp) (hx:=λw=>zjg rfl zaN aP (jP hT zzk) (jP hT zFV) hk zzm),.ln lvF cD (tE hT rfl rfl rfl zcp) (λw T e h=>h.tp T e) p6 (ar2 (jP hT zCN) (jP hT zCs)),.pv,.pv,.pv (tE hT rfl rfl rfl zcd),.pv (tE hT rfl rfl rfl zcd) (hx:=λw=>zfu rfl zaN (jP hT zEq)),.pv (tE hT rfl rfl rfl zcd),.pv (tE hT rfl rfl rfl zcd) (hx:=λw=>zfu rfl zfO (jP hT zyY)),.pv (tE hT rfl rfl rfl zcd),.pv,.pv,.pv (tE hT rfl rfl rfl zoc),.pv (tE hT rfl rfl rfl zoc),.pv (tE hT rfl rfl rfl zoc),.pv,.pv,.pv (tE hT rfl rfl rfl zaO),.rd (λw h=>zfI (t:=29) (x:=.tmp 3) (b:=c.g) rfl h.b.r.k (jP hT e3) zaP rfl aP) (tE hT rfl rfl rfl zaO),.pv (tE hT rfl rfl rfl zaO),.ln lvF cD (tE hT rfl rfl rfl zaO) (λw T e h=>h.tp T e) zIS (ar2 (jP hT zyT) (jP hT zD0)),.pv (tE hT rfl rfl rfl zaO),.pv,.pv,.rd (λw h=>zfI (t:=29) (x:=.tmp 3) (b:=c.g) rfl h.b.r.k (jP hT e3) zaP rfl aP) (tE hT rfl rfl rfl U7),.pv (tE hT rfl rfl rfl U7),.pv (tE hT rfl rfl rfl U7),.pv (tE hT rfl rfl rfl U7) (hx:=λw=>zjg rfl zfO aP (jP hT zCA) (jP hT zJd) hk he),.cl (tE hT rfl rfl rfl U7) λt rest w l9 cF h Pa=>zuZ (o:=c.o) (A:=c.A) (n:=j) (c:=c.c) (ops:=lY) (i:=32) (es:=c.es.take j) rfl cD rfl rfl cF rfl (ar2t ((l9 (.tmp 136) (by simp[zwT,zpr])).trans (jP hT zAn)) ((l9 (.tmp 139) (by simp[zwT,zpr])).trans (jP hT zGB))) (h.b.r.e.takeE hk) (by have:=h.b.r.n20;omega) h.b.r.t h.b.r.u (λw' U B e=>by subst e;exact Pa w' (h.bl B)),.pv (tE hT rfl rfl rfl U7),.pv (tE hT rfl rfl rfl U7),.pv,.pv,trivial⟩,λw _ _=>JO.ret lvF cD (Il _ _ _ ((hT 2).trans e2))⟩
end Go.Proofs.YtfcjiloojkjaeaaGreatDoor
namespace Go.Proofs.YtfcjiloojkjaeaaGreatDoor
open Go.RowKit
def Bo (e:dQ):Int:=if(e.k.toList==[119,97,105,116])=true then e.a else 0
theorem ztS:∀(xs:List bN) (p:cC×List UInt8),(xs.foldl lT p).1.log=p.1.log/\(xs.foldl lT p).1.clk=p.1.clk
 |[],p=>⟨rfl,rfl⟩
 |x::xs,p=>by
  have h1:(lT p x).1.log=p.1.log/\(lT p x).1.clk=p.1.clk:=by
   unfold lT;split
   .exact⟨rfl,rfl⟩
   .split<;>exact⟨rfl,rfl⟩
  obtain⟨a,b⟩:=ztS xs (lT p x);simp_all
variable {e:dQ}
theorem zua {b:cC}{ops:Int}(he:qR ops e=true):(eB b e).1.log=b.log/\(eB b e).1.clk=b.clk+Bo e:=by
 have z:∀{l:List UInt8},e.k.toList=l->(l==[119,97,105,116])=false->Bo e=0:=λ{l} h h2=>by unfold Bo;rw[h,h2];rfl
 unfold eB;split
 .rename_i h;rw[z h rfl,zaT];unfold pR;grind
 .split
  .rename_i h;rw[z h rfl,zaT];unfold n6;grind
  .split
   .rename_i h;rw[z h rfl,zaT];unfold mQ;grind
   .split
    .rename_i h;rw[z h rfl,zaT];unfold nD;split
     .split<;>exact⟨rfl,rfl⟩
     grind
    .rename_i h1 h2 h3 h4
     have hw:e.k.toList=Sw:=by
      have:=of_decide_eq_true he;unfold Gf at this;rcases this with h|h|⟨h|h,_⟩|h
      .exact absurd h.1 h1
      .exact absurd h.1 h4
      .exact absurd h h2
      .exact absurd h h3
      .exact h.1
     have e2:Bo e=e.a:=by unfold Bo;rw[hw];rfl
     rw[e2];exact ztS b.wait _
def Di (es:List dQ)(k:Nat):Int:=((es.take k).map Bo).sum
variable {es:List dQ}{k:Nat}
theorem zi7 (h:es[k]? =some e):Di es (k+1)=Di es k+Bo e:=by
 unfold Di;rw[Lr,h];simp
variable {o:fP}
theorem zic (h:eM o es=true)(he:es[k]? =some e):qR o.op e=true:=by
 unfold eM at h
 grind
theorem Xy (h:eM o es=true):∀k,k<=es.length->(lP o es k).clk=Di es k/\(lP o es k).log.length=k/\0<=Di es k/\Di es k<=60*k
 |0,_=>⟨rfl,rfl,Z4 _,Z4 _⟩
 |k+1,hk=>by
  obtain⟨i1,i2,i3,i4⟩:=Xy h k aC;obtain⟨e,he⟩:∃e,es[k]? =some e:=⟨es[k],nI aC⟩;have hv:=zic h he;obtain⟨l,c⟩:=zua (b:=lP o es k) hv;have hb:0<=Bo e/\Bo e<=60:=by
   unfold Bo;split
   .rename_i h5
    have h5:=eq_of_beq h5;have:=of_decide_eq_true hv;unfold Gf Gz J6 Ij Ik Sw at this
    grind
   .omega
  rw[Q2 he,zi7 he];refine⟨c.trans (by rw[i1]),?_,aC,aC⟩;show((eB _ e).1.log++[_]).length=k+1;rw[l];simp[i2]
variable {n:Nat}
theorem to_log (h:eM o es=true):∀k,n<=k->k<=es.length->(lP o es n).log=(lP o es k).log.take n:=by
 intro k hn
 induction hn with
 |refl=>intro hk;rw[zV];rw[(Xy h n hk).2.1];exact bL _
 | @step k hnk ih=>
  intro hk;obtain⟨e,he⟩:∃e,es[k]? =some e:=⟨es[k],nI aC⟩;rw[ih aC,Q2 he];show _=((eB _ e).1.log++[_]).take n;rw[(zua (zic h he)).1,List.take_append_of_le_length];rw[(Xy h k aC).2.1];exact hnk
theorem zqa (h:eM o es=true)(n:Nat):eM o (es.take n)=true:=by
 unfold eM at h⊢
 grind
theorem run_pre (h:eM o es=true)(hn:n<=es.length):
 (vD o (es.take n)).log=(vD o es).log.take n/\(vD o es).log.length=es.length/\Qe o es=Di es es.length/\Qe o (es.take n)<=Di es es.length:=by
 have e1:C8 o (es.take n)=lP o es n:=rfl;have h0:=zqa h n;unfold Qe vD;rw[if_pos h,if_pos h0,if_pos h,if_pos h0,e1,<-za3];obtain⟨a1,a2,a3,a4⟩:=Xy h _ (bL _);obtain⟨b1,b2,b3,b4⟩:=Xy h n hn;refine⟨to_log h _ hn (bL _),a2,a1,?_⟩;rw[b1];clear a1 a2 a3 a4 b1 b2 b3 b4 e1 h0;have mono:∀k,n<=k->k<=es.length->Di es n<=Di es k:=by
  intro k hk
  induction hk with
  |refl=>omega
  | @step k hk ih=>
   intro hl;obtain⟨e,he⟩:∃e,es[k]? =some e:=⟨es[k],nI aC⟩;have:=ih aC;rw[zi7 he];have:0<=Bo e:=by
    unfold Bo;split
    .have:=of_decide_eq_true (zic h he);unfold Gf at this;omega
    .exact Z4 _
   omega
 simp_all
end Go.Proofs.YtfcjiloojkjaeaaGreatDoor
namespace Go.Proofs.YtfcjiloojkjaeaaGreatDoor
open Go.RowKit Go.Mt Go.Conc Go.Tt
def rLRF4:Go.Code:=sA (sB (sB (sB (U4))))
def rLRF16:Go.Code:=sA (sB (sB (sB (sB (sB (sB (sB (sB (sB (sB (U4)))))))))))
def zgz:Array Oper:=match rLRF4 with| .region _ ops _=>ops|_=>#[]
abbrev zwA:Oper:=aM zgz 2 (some 26) (.call ⟨.value (.func 14),#[.tmp 24,.tmp 25],#[29,31]⟩)
def zqy:zgz[2]? =some zwA:=rfl
def zd2:Array Oper:=match rLRF16 with| .region _ ops _=>ops|_=>#[]
abbrev zrn:Oper:=aM zd2 2 (some 107) (.call ⟨.value (.func 30),#[.tmp 105,.tmp 106],#[29,31]⟩)
def zqe:zd2[2]? =some zrn:=rfl
def zG1 {A B C D:Prop}(h:A/\B/\C/\D):D:=h.2.2.2
variable {A:Option bC}{xs:List (List UInt8)}
theorem zmI {w:aE}{lo hi n c xK kN n' c':Nat}{A':Option bC}(h:cE w lo hi 1 A n c (nV xs))(h':cE w xK kN 1 A' n' c' (nV xs))(hn:n<=1048576)(wD:n'<=1048576):
 fJ aK 32 #[.slice A n c,.slice A' n' c'] w λe w'=>e=.returned (.bool true)/\bY w.heap.size w w':=
 (zt2 _ _ _ _ _ _ _ _ _ _ _ _ w h h' hn wD).mono (by rintro e w' ⟨rfl,m,rfl⟩;exact⟨by rw[beq_self_eq_true],zlK w m⟩)
section
variable {St:Nat->Prop}{W0:aE}{Post:aF->aE->Prop}
theorem zCM {w:aE}{A:Option bC}{n cap:Nat}(hC:Code w A n cap)(hT:qS w)(tG:zK w)(hP:∀(R:Pr) (W:aE),Kp W0 R St W->Post (.bool true) W):
 JS St W0 Post ⟨7,#[.slice A n cap,aA,aA,aA,aA,aA,aA,aA,aA,aA,aA,aA,aA,aA,aA,aA,aA,aA,aA,aA,aA,aA,aA,aA,aA,aA,aA,aA,aA,aA,aA,aA,aA,aA,aA,aA,aA,aA,aA,aA,aA,aA,aA,aA,aA,aA,aA,aA,aA,aA,aA,aA,aA,aA,aA,aA,aA,aA,aA,aA,aA,aA,aA,aA,aA,aA,aA,aA,aA,aA,aA,aA,aA,aA,aA,aA,aA,aA,aA,aA,aA,aA,aA,aA,aA,aA,aA,aA,aA,aA,aA,aA,aA,aA,aA,aA,aA,aA,aA,aA,aA,aA,aA,aA,aA,aA,aA,aA,aA,aA,aA,aA,aA,aA,aA,aA,aA,aA,aA,aA,aA,aA,aA,aA,aA,aA,aA,aA,aA,aA,aA,aA,aA,aA,aA,aA,aA,aA,aA,aA,aA,aA,aA,aA],[.code U4],false⟩ [] w:=by
 have L:=lvF;have cD:oA olL 7=false:=aP;have Il:∀(tmps:Array aF) (td:List dI) (w':aE),tmps.getD 2 aA=.bool true->JS St W0 Post ⟨7,tmps,td,true⟩ [] w':=by
  intro tmps td w' h6;refine JO.fin L (t:=2) rfl Tryz.func7 rfl aP λK R W v' hv hk=>?_;have Me:VR (SF fW) K R (tmps.getD 2 aA) v':=hv;rw[h6] at Me;cases Me;exact hP R W hk
 refine JO.sq L cD ?_;refine JO.pQ L cD (λTp Q HQ=>?_);replace hC:Code (Tt.tp w Tp 0) A n cap:=⟨hC.le,hC.cap,hC.at_⟩;replace hT:qS (Tt.tp w Tp 0):=Pk rfl hT;replace tG:zK (Tt.tp w Tp 0):=tG;generalize Tt.tp w Tp 0=w1 at hC hT tG⊢;go_wp2;refine HQ.o _ _ ?_;clear HQ;refine JO.sq L cD ?_;refine JO.sq L cD ?_;refine JO.pQ L cD (λTp Q HQ=>?_);replace hC:Code (Tt.tp w1 Tp 0) A n cap:=⟨hC.le,hC.cap,hC.at_⟩;replace hT:qS (Tt.tp w1 Tp 0):=Pk rfl hT;replace tG:zK (Tt.tp w1 Tp 0):=tG;generalize Tt.tp w1 Tp 0=w2 at hC hT tG⊢;have nE:=hC.le;have pJ:=hC.cap;unfold maxLen at pJ;go_wp2;refine HQ.o _ _ ?_;clear HQ;by_cases zk4:(1048576:Int)<(n:Int)
 .refine JO.cd L true cD ?_ (by show N1 (decide _)=_;rw[decide_eq_true zk4])
  refine JO.sq L cD ?_;refine JO.pQ L cD (λTp Q HQ=>?_);go_wp2;refine HQ.o _ _ ?_;refine JO.rt L cD ?_;exact Il _ _ _ rfl
 refine JO.cd L false cD ?_ (by show N1 (decide _)=_;rw[decide_eq_false zk4]);refine JO.sk L cD ?_;refine JO.sq L cD ?_;refine JO.pQ L cD (λTp Q HQ=>?_);replace hC:Code (Tt.tp w2 Tp 0) A n cap:=⟨hC.le,hC.cap,hC.at_⟩;replace hT:qS (Tt.tp w2 Tp 0):=Pk rfl hT;replace tG:zK (Tt.tp w2 Tp 0):=tG;generalize Tt.tp w2 Tp 0=w3 at hC hT tG⊢
 go_wp2_with (go_at_call 31;refine(zFX A n cap w3 hC).mono ?_;rintro e w4 ⟨o,A2,n2,c2,es,rfl,ow,zDv,b4⟩)
 refine HQ.o _ _ ?_;clear HQ;obtain⟨gO,zm6⟩:=aT w4.heap.size;have B4:Bl w3.heap.size w3 (w4.alloc (offO o)):=(⟨b4.size,b4.block⟩:Bl w3.heap.size w3 w4).al (bL _) _;have HR:Iw ⟨o,es,gO,A2,n2,c2⟩ (w4.alloc (offO o)):=⟨by rw[zm6];exact Ec w4 _,(ow.slc.alloc _).wide (mK _) aQ,hT.bls B4 (bL _),tG.bls B4 (bL _),zDv⟩;rw[<-zm6];generalize w4.alloc (offO o)=w5 at HR⊢;have Yc:n2<=1048576:=aC;clear hC hT tG nE pJ zk4 zm6 B4 b4 ow;refine JO.sq L cD ?_;generalize l6:([Ot _]:List dI)=K0;refine JO.rn L cD zgz [0,1,2,3,4,5,6,7] ?_;refine JO.ld L cD HR.k zaP ?_;refine JO.mv L cD (.slice A2 n2 c2) ?_;refine zpO (ops:=zgz) (i:=2) (oo:=zwA) (A:=A2) (o:=o) (es:=es) rfl cD rfl zqy rfl rfl zeO HR.e Yc HR.t HR.u (λw6 V b6 jX=>?_);obtain⟨A5,n5,c5,rfl,zJe,O5⟩:=row_v jX aH (zjW o es);have h5:cE w6 0 w6.heap.size 1 A5 n5 c5 (nV (x6 o es)):=O5.slc.wide (mK _) (bL _);replace HR:=HR.bl b6;clear b6 jX O5;simp only[Fm.fin,zqy,uF,gF,dY,dX];refine JO.mv L cD (.tuple #[.slice A5 n5 c5,.bool (eM o es)]) ?_;refine JO.mv L cD (.slice A5 n5 c5) ?_;refine JO.mv L cD (.bool (eM o es)) ?_;refine JO.mv L cD (.slice A5 n5 c5) ?_;refine JO.mv L cD (.bool (eM o es)) ?_;refine JO.regEnd L cD ?_;subst l6;refine JO.sq L cD ?_;refine JO.pQ L cD (λTp Q HQ=>?_);replace HR:=HR.tp Tp 0;replace h5:=h5.tpZ Tp 0;generalize Tt.tp w6 Tp 0=w7 at HR h5⊢;have q0:=aI HR.k 0;have q1:=aI HR.k 1;have q2:=aI HR.k 2;have HX:=aD (And.intro HR h5);clear HR h5
 go_wp2_with (go_at_call 11;refine(specRO_u o HX.o.1.e Yc (bL _)).mono ?_;rintro e w8 ⟨A7,n7,c7,rfl,zJL,O7,b8⟩)
 refine HQ.o _ _ ?_;clear HQ q0 q1 q2;obtain⟨HR,h5⟩:=HX.o;replace HR:=HR.below b8;replace h5:=h5.belowZ b8;have h7:cE w8 0 w8.heap.size 1 A7 n7 c7 (nV (x6 o es)):=O7.slc.wide (mK _) (bL _);clear HX O7 b8;obtain⟨t,ht⟩:=aT (eM o es);rw[<-ht];have HT:=aD ht;clear ht;refine JO.sq L cD ?_;refine JO.sq L cD ?_;refine JO.pQ L cD (λTp Q HQ=>?_);replace HR:=HR.tp Tp 0;replace h5:=h5.tpZ Tp 0;replace h7:=h7.tpZ Tp 0;generalize Tt.tp w8 Tp 0=w9 at HR h5 h7⊢;have HX:=aD (And.intro HR (And.intro h5 h7));clear HR h5 h7
 cases t with
 |false=>
  have t1:(mY o !=mY o)=false:=aQ;have t2:(mY o==mY o)=true:=aQ;have S0:w9.cell? ⟨gO,0,none⟩=some (.int .i64 o.ln)/\w9.cell? ⟨gO,1,none⟩=some (.int .i64 o.op)/\w9.cell? ⟨gO,2,none⟩=some (.int .i64 o.pt)/\bY w9.heap.size w9 w9:=⟨aI HX.o.1.k 0,aI HX.o.1.k 1,aI HX.o.1.k 2,fK _ _⟩
  go_region_held3 (λW=>W.cell? ⟨gO,0,none⟩=some (.int .i64 o.ln)/\W.cell? ⟨gO,1,none⟩=some (.int .i64 o.op)/\W.cell? ⟨gO,2,none⟩=some (.int .i64 o.pt)/\bY w9.heap.size w9 W) (first|exact zlZ S0|exact zme Mh Mh)
   (first
    |(go_at_call 32;refine(zmI (HX.o.2.1.below V3) (HX.o.2.2.below V3) aC aC).mono ?_;rintro e w2 ⟨rfl,b2⟩)
    |(go_at_call 33;refine(Y8 _ _).mono ?_;rintro e w2 ⟨rfl,b2⟩)
    |(go_at_call 34;refine(Z7 _ _).mono ?_;rintro e w2 ⟨rfl,b2⟩))
  have S1:w2.cell? ⟨gO,0,none⟩=some (.int .i64 o.ln)/\w2.cell? ⟨gO,1,none⟩=some (.int .i64 o.op)/\w2.cell? ⟨gO,2,none⟩=some (.int .i64 o.pt)/\bY w9.heap.size w9 w2:=by assumption
  have B1:=S1.2.2.2;go_wp2;refine HQ.o _ _ ?_;clear HQ;have HR:=HX.o.1.below B1;have h5:=HX.o.2.1.belowZ B1;have h7:=HX.o.2.2.belowZ B1;clear HX S0 S1 B1;have zEv:n5=0:=by
   have:=h5.txtLen;have e:x6 o es=[]:=by unfold x6 vD;rw[if_neg (by rw[<-HT.o];decide)];rfl
   rw[e] at this;exact this.symm
  subst zEv;refine JO.cd L true cD ?_;refine JO.sq L cD ?_;refine JO.pQ L cD (λTp Q HQ=>?_);replace HR:=HR.tp Tp 0;replace h5:=h5.tpZ Tp 0;replace h7:=h7.tpZ Tp 0;generalize Tt.tp w2 Tp 0=qH at HR h5 h7⊢;have HX:=aD (And.intro HR (And.intro h5 h7));clear HR h5 h7;have t1:(mY o !=mY o)=false:=aQ;have t2:(mY o==mY o)=true:=aQ;have S0:qH.cell? ⟨gO,0,none⟩=some (.int .i64 o.ln)/\qH.cell? ⟨gO,1,none⟩=some (.int .i64 o.op)/\qH.cell? ⟨gO,2,none⟩=some (.int .i64 o.pt)/\bY qH.heap.size qH qH:=⟨aI HX.o.1.k 0,aI HX.o.1.k 1,aI HX.o.1.k 2,fK _ _⟩
  go_region_held3 (λW=>W.cell? ⟨gO,0,none⟩=some (.int .i64 o.ln)/\W.cell? ⟨gO,1,none⟩=some (.int .i64 o.op)/\W.cell? ⟨gO,2,none⟩=some (.int .i64 o.pt)/\bY qH.heap.size qH W) (first|exact zlZ S0|exact zme Mh Mh)
   (first
    |(go_at_call 32;refine(zmI (HX.o.2.1.below V3) (HX.o.2.2.below V3) aC aC).mono ?_;rintro e w2 ⟨rfl,b2⟩)
    |(go_at_call 33;refine(Y8 _ _).mono ?_;rintro e w2 ⟨rfl,b2⟩)
    |(go_at_call 34;refine(Z7 _ _).mono ?_;rintro e w2 ⟨rfl,b2⟩))
  have S1:w2.cell? ⟨gO,0,none⟩=some (.int .i64 o.ln)/\w2.cell? ⟨gO,1,none⟩=some (.int .i64 o.op)/\w2.cell? ⟨gO,2,none⟩=some (.int .i64 o.pt)/\bY qH.heap.size qH w2:=by assumption
  have B1:=S1.2.2.2;go_wp2;refine HQ.o _ _ ?_;refine JO.rt L cD ?_;exact Il _ _ _ rfl
 |true=>
  have t1:(mY o !=mY o)=false:=aQ;have t2:(mY o==mY o)=true:=aQ;have S0:w9.cell? ⟨gO,0,none⟩=some (.int .i64 o.ln)/\w9.cell? ⟨gO,1,none⟩=some (.int .i64 o.op)/\w9.cell? ⟨gO,2,none⟩=some (.int .i64 o.pt)/\bY w9.heap.size w9 w9:=⟨aI HX.o.1.k 0,aI HX.o.1.k 1,aI HX.o.1.k 2,fK _ _⟩
  go_region_held3 (λW=>W.cell? ⟨gO,0,none⟩=some (.int .i64 o.ln)/\W.cell? ⟨gO,1,none⟩=some (.int .i64 o.op)/\W.cell? ⟨gO,2,none⟩=some (.int .i64 o.pt)/\bY w9.heap.size w9 W) (first|exact zlZ S0|exact zme Mh Mh)
   (first
    |(go_at_call 32;refine(zmI (HX.o.2.1.below V3) (HX.o.2.2.below V3) aC aC).mono ?_;rintro e w2 ⟨rfl,b2⟩)
    |(go_at_call 33;refine(Y8 _ _).mono ?_;rintro e w2 ⟨rfl,b2⟩)
    |(go_at_call 34;refine(Z7 _ _).mono ?_;rintro e w2 ⟨rfl,b2⟩))
  have S1:w2.cell? ⟨gO,0,none⟩=some (.int .i64 o.ln)/\w2.cell? ⟨gO,1,none⟩=some (.int .i64 o.op)/\w2.cell? ⟨gO,2,none⟩=some (.int .i64 o.pt)/\bY w9.heap.size w9 w2:=by assumption
  have B1:=S1.2.2.2;go_wp2;refine HQ.o _ _ ?_;clear HQ;have HR:=HX.o.1.below B1;have h5:=HX.o.2.1.belowZ B1;clear HX S0 S1 B1 t1 t2;refine JO.cd L false cD ?_;refine JO.sk L cD ?_;have bM:=HT.o.symm;have By:es.length=n2:=HR.e.eventsLen;obtain⟨p1,p2,p3,p4⟩:=run_pre bM (n:=n2/2) aC;have zhN:=h5.txtLen;obtain rfl:n5=n2:=by unfold x6 at zhN;omega
  refine JO.sq L cD ?_;refine JO.pQ L cD (λTp Q HQ=>?_);replace HR:=HR.tp Tp 0;replace h5:=h5.tpZ Tp 0;generalize Tt.tp w2 Tp 0=z8 at HR h5⊢;go_wp2;refine HQ.o _ _ ?_;clear HQ;have eH:((n5:Int)/2)=((n5/2:Nat):Int):=aC;rw[eH];refine JO.sq L cD ?_;refine jo_R9 (c:=⟨o,es,gO,A2,n5,c2⟩) (k:=n5/2) rfl rfl rfl rfl (by show n5/2<=n5;omega) (zqa bM _) ⟨HR,h5⟩ (λkK m10 zt8 Q9 HW zJP vY=>?_);obtain⟨f,hf⟩:=aT (VV [4,5,6,8,9] (vals9 ⟨o,es,gO,A2,n5,c2⟩ (n5/2)) (seq9 (.slice kK m10 zt8)));have f8:f 8=.slice kK m10 zt8:=by rw[hf];rfl
  have f9:f 9=.bool true:=by rw[hf];rfl
  rw[<-hf,zO,zCW];simp only[wV,dY,dX];rw[f8,f9];clear hf f8 f9;have zp6:=vY.txtLen;have hF:x6 o (es.take (n5/2))=(x6 o es).take (n5/2):=p1;obtain rfl:m10=n5/2:=by rw[hF,qO] at zp6;omega
  have bS:=λk hk=>(Xy bM k hk).2.2;have HB:=aD bS;have HP:=aD (And.intro By (And.intro p3 (And.intro p4 hF)));clear p1 p2 p3 p4 zp6 zhN hF By eH bS bM HT HR h5;refine JO.sq L cD ?_;refine JO.pQ L cD (λTp Q HQ=>?_);replace HW:=HW.tp Tp 0;replace vY:=vY.tpZ Tp 0;generalize Tt.tp Q9 Tp 0=zhX at HW vY⊢;go_wp2;refine HQ.o _ _ ?_;clear HQ;refine JO.sq L cD ?_;refine JO.pQ L cD (λTp Q HQ=>?_);replace HW:=HW.tp Tp 0;replace vY:=vY.tpZ Tp 0;generalize Tt.tp zhX Tp 0=zow at HW vY⊢;have HX:=aD (And.intro HW vY);clear HW vY
  go_wp2_with fail
  go_loopw [12,13] (λs i wr=>∃k:Nat,k<=n5/\s=.int .i64 (Di es k)/\i=.int .i64 k/\wr=zow) (λ_ i _=>n5-(intOf i).toNat)
  case atStart=>exact⟨0,mK _,rfl,rfl,rfl⟩
  case round=>
   obtain⟨k,hk,rfl,rfl,rfl⟩:=hrel;by_cases aU:k<n5
   .obtain⟨b,off,e,eA,_,_,z,fG,e0,e1,-⟩:=HX.o.1.r.e.eventsAt aU
    simp only at eA;subst eA;have b1:=HB.o k (by rw[HP.o.1];omega);have b2:=HB.o (k+1) (by rw[HP.o.1];omega);have eI:=zi7 fG;rw[eI] at b2;have HS:=aD eI;obtain⟨S,hS⟩:=aT (Di es k);rw[<-hS] at b1 b2⊢;have rC:=aD hS;have i0:(0:Int)<=(k:Int):=aC;have i1:(k:Int)<(n5:Int):=aC;clear hS eI fG;cases hd:(e.k.toList==[119,97,105,116])
    .have HA:=aD (show Bo e=0 by unfold Bo;rw[hd];rfl)
     clear b1 b2 e1;go_wp2;go_roundw
     case rel=>exact⟨k+1,aC,by rw[HS.o,<-rC.o,HA.o,zaT],qJ,trivial⟩
     case measure=>simp[intOf];omega
    .have ha:Bo e=e.a:=by unfold Bo;rw[hd];rfl
     rw[ha] at b2;have HA:=aD ha;have X1:=(IntWalk.i64_left _).trans (IntWalk.wrap64_in (S+e.a) aC);clear ha b1 b2;go_wp2;go_roundw
     case rel=>exact⟨k+1,aC,by rw[HS.o,<-rC.o,HA.o],qJ,trivial⟩
     case measure=>simp[intOf];omega
   .have e:k=n5:=aC
    subst e;go_wp2;refine HQ.o _ _ ?_;clear HQ;obtain⟨HW,vY⟩:=HX.o;clear HX;refine JO.sq L cD ?_;generalize l6:([Ot _]:List dI)=K0;refine JO.rn L cD zd2 [0,1,2,3] ?_;refine JO.ld L cD HW.r.k zaP ?_;refine JO.mv L cD (.slice A2 k c2) ?_;refine zuZ (ops:=zd2) (i:=2) (oo:=zrn) (A:=A2) (o:=o) (es:=es) rfl cD rfl zqe rfl rfl zeO HW.r.e Yc HW.r.t HW.r.u (λzLd V zoE hV=>?_);subst hV;have hS:Nw o es=Di es es.length:=HP.o.2.1;rw[hS,HP.o.1];replace HW:=HW.bl zoE;replace vY:=vY.bl zoE;simp only[Fm.fin,zqe,uF,gF,dY,dX];refine JO.mv L cD (.int .i64 (Di es k)) ?_;refine JO.regEnd L cD ?_;subst l6;refine JO.sq L cD ?_;exact jo_R17 (c:=⟨o,es,gO,A2,k,c2⟩) (j:=k/2) (S:=Di es k) rfl rfl rfl rfl rfl rfl rfl rfl rfl ⟨HW,HP.o.2.2.2▸vY⟩ (by show k/2<=k;omega) HW.l.le HW.r.e.le (by rw[hS,HP.o.1]) (by have:=HP.o.2.2.1;rw[HP.o.1] at this;exact this) Il
end
theorem zBu {S:aO->Prop}{X:Nat->Bool}{W:aE}{n c:Nat}(hX:∀b,X b=true->∃c T fz,W.heap[b]? =some (.cells c T fz))(h:∀a,A=some a->X a.block=true)(hc:Code W A n c):Code (Ea S X W) A n c:=
 ⟨hc.le,hc.cap,λhn=>by
  obtain⟨b,off,rfl,e3,e4⟩:=hc.at_ hn;exact⟨b,off,rfl,by rw[zmC];exact e3,λj hj=>by obtain⟨v,h1,h2,h3⟩:=e4 j hj;exact⟨v,zCg hX (h _ rfl) h1 (.inl ⟨_,_,rfl⟩),h2,h3⟩⟩⟩
end Go.Proofs.YtfcjiloojkjaeaaGreatDoor
namespace Go.Proofs.YtfcjiloojkjaeaaGreatDoor
theorem zFx (Lk:Looks){p:Pinned}{s:OpenSpec}{c:OpenClaim}(kinds:List LaidKind)(znl:Bool)(U8:Bool×String)(lk:Bool)
 (hc:c.holds p s) (hw:c.wfByText s=true) (zAE:c.laidByTextAt Lk p kinds znl)
 (aY:c.start=.entering) (oF:c.noBlocks=false/\c.again=false) (hm:p.checked.prog.mainIs=some (U8.1,U8.2.toList)) (hn:(!U8.1&&U8.2.isEmpty&& !lk)=false)
 (hl:∀f fn,p.checked.prog.funcNamed c.func=some f->p.checked.prog.funcs[f]? =some fn->lk=p.checked.prog.looks []/\∀(j:Nat) t,fn.params[j]? =some t->p.checked.prog.wantsStandIn t=false)
 (hg:true=c.goesBy p.checked.prog):
 Claim7.holds p (.plain s) {stood:={row:=c,standIns:=[],harness:=U8,looks:=lk},kinds:=[],alts:=[],goes:=true,laidByText:=true,laidKinds:=kinds,laidTests:=znl,laidLooks:=Lk}:=by
 have h6:∀r:OpenClaim,zsO {stood:={row:=r,standIns:=[],harness:=U8,looks:=lk},kinds:=[]}=false:=λr=>by simpa[zsO] using hn
 have h:=Claim7.tied_new_at Lk kinds znl (Claim7.new_of_sixth hc U8 lk aY oF hm (h6 c) hl) hw;exact⟨h,(λD hD=>by cases hD),zAE,(λh=>by cases h),hg⟩
end Go.Proofs.YtfcjiloojkjaeaaGreatDoor
