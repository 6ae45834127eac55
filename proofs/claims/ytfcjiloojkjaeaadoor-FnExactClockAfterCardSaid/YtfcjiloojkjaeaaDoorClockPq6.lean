/-
  Part 6 of what stands behind the last text.
-/
import Derived.Lib.AppendIntMem
import Derived.LaidMore
import Derived.Test.YtfcjiloojkjaeaaDoorCards
import Derived.Deep.CutBlock
import Derived.SevenTiedAt
import Derived.Test.YtfcjiloojkjaeaaDoorClockPq5
set_option linter.all false
set_option maxHeartbeats 16000000
set_option maxRecDepth 100000
open Array renaming ext'→Jr,getD_eq_getD_getElem?→tD,getElem?_eq_getElem→nA,getElem?_eq_some_iff→dM,getElem?_map→xP,getElem?_setIfInBounds_ne→jM,getElem?_toList→zR,mem_of_getElem?→Py,replicate→nD,toList_append→N5,toList_replicate→zgG
open Bool renaming and_eq_true→fN,eq_iff_iff→My,or_eq_true→Dq
open Go renaming Addr→bO,Calls→iE,Code→vJ,Frame→dE,FuncId→aN,Item→dW,Oper→aY,Operand→cM,Program→bS,Tape→kK,TypeId→aM,Value→aF,World→aE,execOp→aO,heap_alloc_new→lO,undef→aA,yielded→dN
open Go.Act renaming eval→vW,mk→bH,put→b7
open Go.Claim7 renaming isSixth→zwa
open Go.Conc renaming base→Ju
open Go.Ending renaming returned→Ud
open Go.Fn renaming func→zrd
open Go.Lib renaming TabIs→zft,tabBelow_of_tabIs→zin
open Go.MakeChecks renaming laidMetH_plain→zvM
open Go.Proofs.Tryd renaming checked→vD,f13→zgn,f21→zoF,f24→zwW,f8→zgA,func13→zeG,func8→zpI,prog→aK
open Go.Region renaming wanted→dA
open Go.RowKit renaming Below→bU
open Go.RowKit.Below renaming refl→eR
open Go.Value renaming bool→Nd,int→Oi
open Go.World renaming cell?→kY,var?→zd3
open List renaming getD_eq_getElem?_getD→Jl,getElem?_append_left→yO,getElem?_eq_some_iff→jW,length_append→gJ,map_cons→fG,map_nil→tH,map_toArray→uG,mem_of_getElem?→dS,mem_singleton→sC,nodup_nil→Pq,not_mem_nil→lX,range→gD,setIfInBounds_toArray→gK,set_cons_succ→dX,set_cons_zero→dV
open Nat renaming le_refl→aZ,le_succ→Pu,le_trans→eP,lt_of_lt_of_le→lA,lt_or_ge→nM,lt_succ_self→wL,lt_trans→zkN,zero_le→lB
open Option renaming bind_some→xI,map_eq_some_iff→wM,map_some→zP
open Option.some renaming inj→cD,injEq→fS
open SizeOf renaming sizeOf→Lj
noncomputable section
namespace Go
theorem zwf{P:Prop}(h:P:=by rw[<-Zj] at*;exact uI.o.oldB dY HK.o):P:=h
theorem znc{P:Prop}(h:P:=by rw[hp,hg,hf];kernel_rfl):P:=h
end Go
namespace Go.Mt
open Go.RowKit Go.Conc Go.Tt Go.Maps Go.Conc.Lib Go.ConcR.Gen
theorem BO.drawn {L:Type}{p:bS}{gs fs:aN->Bool}{f:aN}{kk:List dW}(zk9:p.follows .mixedOrders=true){id:Nat}{t0:Array aF}{ops:Array aY}(ch:List Nat)(V0:Nat->aF)(S:List aF->Cx L->L->aE->Prop)(hS:∀vs C l w,S vs C l w->fB C/\C.p=p/\C.gs=gs/\C.fs=fs/\uT C.P C.fs/\∀(i:Nat) (o:aY) (s:Tmp),ops[i]? =some o->o.dst=some s->s∉C.S)(bV:Hw ops=true)(sS:Nq ops ch=true)(nV:ch.all (λc=>decide (c<ops.size))=true)
 (hT:∀vs C l w T e,S vs C l w->S vs C l (Tt.tp w T e))
 (hR:∀(i:Nat) (o:aY),ops[i]? =some o->i∉ch->rD p ⟨fs,gs,true⟩ o.op=true/\∀vs C l w,vs.length<ch.length->S vs C l w->dA o (dN ops (cZ ops (VV ch V0 vs) t0))=true/\(aO (bH (cZ ops (VV ch V0 vs) t0) []).eval o).run p w=.ok (.value (V0 i)) w)
 (hC:∀(vs:List aF) (c:Nat) (o:aY) C l w,ch[vs.length]? =some c->ops[c]? =some o->S vs C l w->∀(t:Array aF) (rest:List Nat),(∀s∈o.looksAt ops,t[s]? =(cZ ops (VV ch V0 vs) t0)[s]?)->
  (∀v C' l' w',S (vs++[v]) C' l' w'->BO C' l' ⟨f,(b7 ⟨t,[]⟩ o.dst v).tmps,.inRegion ops rest::kk,false⟩ w')->BO C l ⟨f,t,.inRegion ops (c::rest)::kk,false⟩ w)
 (hk:∀vs C l w,vs.length=ch.length->S vs C l w->BO C l ⟨f,cZ ops (VV ch V0 vs) t0,.inRegion ops []::kk,false⟩ w) {C:Cx L} {l:L} {w:aE} (h0:S [] C l w):BO C l ⟨f,t0,.code (.region id ops true)::kk,false⟩ w:=by
 obtain⟨sI,sp,_⟩:=hS _ _ _ _ h0;refine BO.draw sI λn=>?_;rw[sp,zk9]
 exact zwZ (σ:=Cx L×L) (P:=p) (J:=λs is t w=>BO s.1 s.2 ⟨f,t,.inRegion ops is::kk,false⟩ w) (S:=λvs s w=>S vs s.1 s.2 w) bV sS nV
  (λvs s i o rest t w v h ho yB hw hx hJ=>by
   obtain⟨sI,sp,sg,sf,sF,sn⟩:=hS vs _ _ w h;exact BO.op sF sI ho hw (by rw[sp,sg,sf];exact(hR i o ho yB).1) (λs hs=>sn i o s ho hs) λT=>⟨v,_,.inl (by rw[sp];exact hx T),hJ T⟩)
  (λvs s=>hT vs s.1 s.2) (λi o ho yB vs s=>(hR i o ho yB).2 vs s.1 s.2) (λvs c o s w hj ho h t rest hs cN=>hC vs c o s.1 s.2 w hj ho h t rest hs λv C' l' w'=>cN v (C',l') w') (λvs s w=>hk vs s.1 s.2 w) (s:=(C,l)) h0 n
end Go.Mt
namespace Go.Proofs.YtfcjiloojkjaeaaDoor
open Go.RowKit Go.Mt Go.Conc Go.Tt Go.Maps Go.Conc.Lib Go.ConcR.Gen
open Go.ConcR (KK wgBlock WgAt stA smA rd wr)
def n9:Go.Code:=(zgn.body).getD .skip
def rRH0:Go.Code:=match n9 with| .seq (a) _=>a|_=>.skip
def rRH1:Go.Code:=match n9 with| .seq _ (.seq (.seq (a) _) _)=>a|_=>.skip
def rRH2:Go.Code:=match n9 with| .seq _ (.seq (.seq _ (.cond _ (.seq (a) _) _)) _)=>a|_=>.skip
def rRH3:Go.Code:=match n9 with| .seq _ (.seq _ (.seq (.seq (a) _) _))=>a|_=>.skip
def rRH4:Go.Code:=match n9 with| .seq _ (.seq _ (.seq (.seq _ (.block _ (.loop (.seq (a) _)))) _))=>a|_=>.skip
def rRH5:Go.Code:=match n9 with| .seq _ (.seq _ (.seq (.seq _ (.block _ (.loop (.seq _ (.seq _ (.seq (.block _ (.seq (a) _)) _)))))) _))=>a|_=>.skip
def rRH6:Go.Code:=match n9 with| .seq _ (.seq _ (.seq (.seq _ (.block _ (.loop (.seq _ (.seq _ (.seq (.block _ (.seq _ (.seq (a) _))) _)))))) _))=>a|_=>.skip
def rRH7:Go.Code:=match n9 with| .seq _ (.seq _ (.seq (.seq _ (.block _ (.loop (.seq _ (.seq _ (.seq (.block _ (.seq _ (.seq _ (.cond _ (.seq (a) _) _)))) _)))))) _))=>a|_=>.skip
def rRH8:Go.Code:=match n9 with| .seq _ (.seq _ (.seq (.seq _ (.block _ (.loop (.seq _ (.seq _ (.seq _ (a))))))) _))=>a|_=>.skip
def rRH9:Go.Code:=match n9 with| .seq _ (.seq _ (.seq _ (.seq (a) _)))=>a|_=>.skip
def zl0:Go.Code:=match n9 with| .seq _ (.seq _ (.seq _ (.seq _ (.seq (.seq (a) _) _))))=>a|_=>.skip
def rRH11:Go.Code:=match n9 with| .seq _ (.seq _ (.seq _ (.seq _ (.seq (.seq _ (.block _ (.loop (.seq (a) _)))) _))))=>a|_=>.skip
def Zr:Go.Code:=match n9 with| .seq _ (.seq _ (.seq _ (.seq _ (.seq (.seq _ (.block _ (.loop (.seq _ (.seq _ (.seq (.block _ (a)) _)))))) _))))=>a|_=>.skip
def rRH13:Go.Code:=match n9 with| .seq _ (.seq _ (.seq _ (.seq _ (.seq (.seq _ (.block _ (.loop (.seq _ (.seq _ (.seq _ (a))))))) _))))=>a|_=>.skip
def Mg:Go.Code:=match n9 with| .seq _ (.seq _ (.seq _ (.seq _ (.seq _ (.seq (a) _)))))=>a|_=>.skip
def ziH:Go.Code:=match n9 with| .seq _ (.seq _ (.seq _ (.seq _ (.seq _ (.seq _ (.seq (.seq (a) _) _))))))=>a|_=>.skip
def zhP:Go.Code:=match n9 with| .seq _ (.seq _ (.seq _ (.seq _ (.seq _ (.seq _ (.seq (.seq _ (.block _ (.loop (.seq (a) _)))) _))))))=>a|_=>.skip
def zbg:Go.Code:=match n9 with| .seq _ (.seq _ (.seq _ (.seq _ (.seq _ (.seq _ (.seq (.seq _ (.block _ (.loop (.seq _ (.seq _ (.seq (.block _ (.seq (a) _)) _)))))) _))))))=>a|_=>.skip
def Nt:Go.Code:=match n9 with| .seq _ (.seq _ (.seq _ (.seq _ (.seq _ (.seq _ (.seq (.seq _ (.block _ (.loop (.seq _ (.seq _ (.seq (.block _ (.seq _ (.seq (a) _))) _)))))) _))))))=>a|_=>.skip
def Se:Go.Code:=match n9 with| .seq _ (.seq _ (.seq _ (.seq _ (.seq _ (.seq _ (.seq (.seq _ (.block _ (.loop (.seq _ (.seq _ (.seq (.block _ (.seq _ (.seq _ (.seq (a) _)))) _)))))) _))))))=>a|_=>.skip
def Sn:Go.Code:=match n9 with| .seq _ (.seq _ (.seq _ (.seq _ (.seq _ (.seq _ (.seq (.seq _ (.block _ (.loop (.seq _ (.seq _ (.seq (.block _ (.seq _ (.seq _ (.seq _ (a))))) _)))))) _))))))=>a|_=>.skip
def zhn:Go.Code:=match n9 with| .seq _ (.seq _ (.seq _ (.seq _ (.seq _ (.seq _ (.seq (.seq _ (.block _ (.loop (.seq _ (.seq _ (.seq _ (a))))))) _))))))=>a|_=>.skip
def Yf:Go.Code:=match n9 with| .seq _ (.seq _ (.seq _ (.seq _ (.seq _ (.seq _ (.seq _ (.seq (a) _)))))))=>a|_=>.skip
def Vt:Go.Code:=match n9 with| .seq _ (.seq _ (.seq _ (.seq _ (.seq _ (.seq _ (.seq _ (.seq _ (.seq (a) _))))))))=>a|_=>.skip
def Wj:Go.Code:=match n9 with| .seq _ (.seq _ (.seq _ (.seq _ (.seq _ (.seq _ (.seq _ (.seq _ (.seq _ (.seq (a) _)))))))))=>a|_=>.skip
def S6:Go.Code:=match n9 with| .seq _ (.seq _ (.seq _ (.seq _ (.seq _ (.seq _ (.seq _ (.seq _ (.seq _ (.seq _ (.seq (a) _))))))))))=>a|_=>.skip
def zDf:n9=.seq (rRH0) (.seq (.seq (rRH1) (.cond (.tmp 17) (.seq (rRH2) (.ret)) (.skip))) (.seq (.seq (rRH3) (.block 0 (.loop (.seq (rRH4) (.seq (.cond (.tmp 21) (.skip) (.exit 0)) (.seq (.block 1 (.seq (rRH5) (.seq (rRH6) (.cond (.tmp 28) (.seq (rRH7) (.ret)) (.skip))))) (rRH8))))))) (.seq (rRH9) (.seq (.seq (zl0) (.block 2 (.loop (.seq (rRH11) (.seq (.cond (.tmp 39) (.skip) (.exit 2)) (.seq (.block 3 (Zr)) (rRH13))))))) (.seq (Mg) (.seq (.seq (ziH) (.block 4 (.loop (.seq (zhP) (.seq (.cond (.tmp 54) (.skip) (.exit 4)) (.seq (.block 5 (.seq (zbg) (.seq (Nt) (.seq (Se) (Sn))))) (zhn))))))) (.seq (Yf) (.seq (Vt) (.seq (Wj) (.seq (S6) (.ret))))))))))):=rfl
def pB:Array Oper:=match Zr with| .region _ ops _=>ops|_=>#[]
def zzR:Zr=.region 12 pB true:=rfl
abbrev zsS:Oper:=⟨some 40,.load 45 (.tmp 7),45,"l6_office.go:278",#[],none⟩
def zAj:pB[0]? =some zsS:=rfl
abbrev zu5:Oper:=⟨some 41,.load 45 (.tmp 7),45,"l6_office.go:278",#[],none⟩
def zFt:pB[1]? =some zu5:=rfl
abbrev znW:Oper:=⟨some 42,.nilCheck (.tmp 41),0,"l6_office.go:278",#[⟨1,.data⟩],none⟩
def zyK:pB[2]? =some znW:=rfl
abbrev zvt:Oper:=⟨some 43,.fieldAddr 55 (.tmp 42) 1,0,"l6_office.go:278",#[⟨2,.data⟩],none⟩
def zzn:pB[3]? =some zvt:=rfl
abbrev zvq:Oper:=⟨some 44,.load 47 (.tmp 43),47,"l6_office.go:278",#[⟨3,.data⟩],none⟩
def zHI:pB[4]? =some zvq:=rfl
abbrev zwT:Oper:=⟨some 45,.makeChan 61 (.const (.int .i64 0)),61,"l6_office.go:278",#[],none⟩
def zjy:pB[5]? =some zwT:=rfl
abbrev zij:Oper:=⟨some 46,.buildSlice 47 1 #[(0,.tmp 45)],47,"l6_office.go:278",#[⟨5,.data⟩],none⟩
def zdK:pB[6]? =some zij:=rfl
abbrev zq6:Oper:=⟨some 47,.call ⟨.builtin .append,#[.tmp 44,.tmp 46],#[47,47]⟩,47,"l6_office.go:278",#[⟨4,.data⟩,⟨6,.data⟩],none⟩
def zjM:pB[7]? =some zq6:=rfl
abbrev znF:Oper:=⟨some 48,.nilCheck (.tmp 40),0,"l6_office.go:278",#[⟨0,.data⟩,⟨0,.phase⟩,⟨1,.phase⟩,⟨2,.phase⟩,⟨3,.phase⟩,⟨4,.phase⟩,⟨5,.phase⟩,⟨6,.phase⟩,⟨7,.phase⟩],none⟩
def zxY:pB[8]? =some znF:=rfl
abbrev zo1:Oper:=⟨some 49,.fieldAddr 55 (.tmp 48) 1,0,"l6_office.go:278",#[⟨8,.data⟩,⟨0,.phase⟩,⟨1,.phase⟩,⟨2,.phase⟩,⟨3,.phase⟩,⟨4,.phase⟩,⟨5,.phase⟩,⟨6,.phase⟩,⟨7,.phase⟩],none⟩
def zCm:pB[9]? =some zo1:=rfl
abbrev zlw:Oper:=⟨none,.store 47 (.tmp 49) (.tmp 47),0,"l6_office.go:278",#[⟨9,.data⟩,⟨7,.data⟩,⟨7,.chain⟩,⟨0,.phase⟩,⟨1,.phase⟩,⟨2,.phase⟩,⟨3,.phase⟩,⟨4,.phase⟩,⟨5,.phase⟩,⟨6,.phase⟩,⟨7,.phase⟩],none⟩
def zkA:pB[10]? =some zlw:=rfl
def zas:Array Oper:=match zbg with| .region _ ops _=>ops|_=>#[]
def zAQ:zbg=.region 17 zas false:=rfl
def zFI:gD zas.size=[0,1,2]:=rfl
abbrev zGC:Oper:=⟨some 55,.makeChan 72 (.const (.int .i64 0)),72,"l6_office.go:282",#[],none⟩
def zF3:zas[0]? =some zGC:=rfl
abbrev zu3:Oper:=⟨some 9,.alloc 72,0,"l6_office.go:282",#[],none⟩
def zFU:zas[1]? =some zu3:=rfl
abbrev ztx:Oper:=⟨none,.store 72 (.tmp 9) (.tmp 55),0,"l6_office.go:282",#[⟨1,.data⟩,⟨0,.data⟩,⟨0,.phase⟩,⟨1,.phase⟩],none⟩
def zGW:zas[2]? =some ztx:=rfl
def n7:Array Oper:=match Nt with| .region _ ops _=>ops|_=>#[]
def zDw:Nt=.region 18 n7 true:=rfl
abbrev zwg:Oper:=⟨some 56,.load 45 (.tmp 7),45,"l6_office.go:283",#[],none⟩
def zHK:n7[0]? =some zwg:=rfl
abbrev zuP:Oper:=⟨some 57,.load 45 (.tmp 7),45,"l6_office.go:283",#[],none⟩
def zIh:n7[1]? =some zuP:=rfl
abbrev zph:Oper:=⟨some 58,.nilCheck (.tmp 57),0,"l6_office.go:283",#[⟨1,.data⟩],none⟩
def zEC:n7[2]? =some zph:=rfl
abbrev ztj:Oper:=⟨some 59,.fieldAddr 55 (.tmp 58) 4,0,"l6_office.go:283",#[⟨2,.data⟩],none⟩
def zBW:n7[3]? =some ztj:=rfl
abbrev zqa:Oper:=⟨some 60,.load 50 (.tmp 59),50,"l6_office.go:283",#[⟨3,.data⟩],none⟩
def zCZ:n7[4]? =some zqa:=rfl
abbrev zxm:Oper:=⟨some 61,.load 72 (.tmp 9),72,"l6_office.go:283",#[],none⟩
def zCz:n7[5]? =some zxm:=rfl
abbrev zli:Oper:=⟨some 62,.buildSlice 50 1 #[(0,.tmp 61)],50,"l6_office.go:283",#[⟨5,.data⟩],none⟩
def zaR:n7[6]? =some zli:=rfl
abbrev zpR:Oper:=⟨some 63,.call ⟨.builtin .append,#[.tmp 60,.tmp 62],#[50,50]⟩,50,"l6_office.go:283",#[⟨4,.data⟩,⟨6,.data⟩],none⟩
def zee:n7[7]? =some zpR:=rfl
abbrev zvK:Oper:=⟨some 64,.nilCheck (.tmp 56),0,"l6_office.go:283",#[⟨0,.data⟩,⟨0,.phase⟩,⟨1,.phase⟩,⟨2,.phase⟩,⟨3,.phase⟩,⟨4,.phase⟩,⟨5,.phase⟩,⟨6,.phase⟩,⟨7,.phase⟩],none⟩
def zF0:n7[8]? =some zvK:=rfl
abbrev zn1:Oper:=⟨some 65,.fieldAddr 55 (.tmp 64) 4,0,"l6_office.go:283",#[⟨8,.data⟩,⟨0,.phase⟩,⟨1,.phase⟩,⟨2,.phase⟩,⟨3,.phase⟩,⟨4,.phase⟩,⟨5,.phase⟩,⟨6,.phase⟩,⟨7,.phase⟩],none⟩
def zEw:n7[9]? =some zn1:=rfl
abbrev ziU:Oper:=⟨none,.store 50 (.tmp 65) (.tmp 63),0,"l6_office.go:283",#[⟨9,.data⟩,⟨7,.data⟩,⟨7,.chain⟩,⟨0,.phase⟩,⟨1,.phase⟩,⟨2,.phase⟩,⟨3,.phase⟩,⟨4,.phase⟩,⟨5,.phase⟩,⟨6,.phase⟩,⟨7,.phase⟩],none⟩
def zeZ:n7[10]? =some ziU:=rfl
def zhw:Array Oper:=match Se with| .region _ ops _=>ops|_=>#[]
def zE1:Se=.region 19 zhw false:=rfl
def zI9:gD zhw.size=[0]:=rfl
abbrev zBf:Oper:=⟨some 66,.call ⟨.value (.func 20),#[.tmp 8,.const (.int .i64 1)],#[71,3]⟩,0,"l6_office.go:284",#[],none⟩
def zHA:zhw[0]? =some zBf:=rfl
def N8:Array Oper:=match Sn with| .region _ ops _=>ops|_=>#[]
def zIK:Sn=.region 20 N8 false:=rfl
def zIr:gD N8.size=[0,1]:=rfl
abbrev zAX:Oper:=⟨some 67,.makeFunc (zrd 21) #[] #[.tmp 8,.tmp 9],1,"l6_office.go:285",#[],none⟩
def zAH:N8[0]? =some zAX:=rfl
abbrev zEz:Oper:=⟨none,.go ⟨.value (.tmp 67),#[],#[]⟩,0,"l6_office.go:285",#[⟨0,.data⟩],none⟩
def zBK:N8[1]? =some zEz:=rfl
def zkz:Array Oper:=match Yf with| .region _ ops _=>ops|_=>#[]
def zzv:Yf=.region 22 zkz false:=rfl
def zFR:gD zkz.size=[0]:=rfl
abbrev zH3:Oper:=⟨some 69,.call ⟨.value (.func 20),#[.tmp 8,.const (.int .i64 1)],#[71,3]⟩,0,"l6_office.go:290",#[],none⟩
def zzZ:zkz[0]? =some zH3:=rfl
def zfQ:Array Oper:=match Vt with| .region _ ops _=>ops|_=>#[]
def zAd:Vt=.region 23 zfQ false:=rfl
def zIv:gD zfQ.size=[0,1]:=rfl
abbrev zGf:Oper:=⟨some 70,.makeFunc (zrd 24) #[] #[.tmp 8,.tmp 7,.tmp 3],1,"l6_office.go:291",#[],none⟩
def zIz:zfQ[0]? =some zGf:=rfl
abbrev zEY:Oper:=⟨none,.go ⟨.value (.tmp 70),#[],#[]⟩,0,"l6_office.go:291",#[⟨0,.data⟩],none⟩
def zC9:zfQ[1]? =some zEY:=rfl
def zcs:Array Oper:=match Wj with| .region _ ops _=>ops|_=>#[]
def zBn:Wj=.region 24 zcs false:=rfl
abbrev zIy:Oper:=⟨some 71,.call ⟨.value (.func 26),#[.tmp 8],#[71]⟩,0,"l6_office.go:295",#[],none⟩
def tK:vK aK 13:=⟨_,zeG,.inr (.inl ⟨_,rfl⟩)⟩
def zHZ:(aK.info? 61).map (λi=>(i.zero,i.size,i.bytes))=some (some (.chan none),1,8):=aS
def zDF:(aK.info? 72).map (λi=>(i.zero,i.size,i.bytes))=some (some (.chan none),1,8):=aS
theorem zAz:∃ie,aK.info? 3=some ie:=by
 obtain⟨i,hi,_⟩:=wM.1 zbO;exact⟨i,hi⟩
theorem zuH (xs:List Nat)(g:Nat):Ia (xs++[g])=Ia xs++[.chan (some g)]:=by simp[Ia]
structure WH where
 lo:Nat
 hb:Nat
 gh:Nat
 gq:Nat
 q:Nat
 v0:fC
 w0:aE
 v:fC
 d:nF
def WH.P1 (c:WH)(w:aE):Prop:=bE w c.lo c.hb c.v c.d/\bL c.hb c.v0 c.w0 c.v w/\c.lo<=w.heap.size
variable {c:WH}{w:aE}
def WH.P1.tp (h:c.P1 w)(T:kK)(n:Nat):c.P1 (Tt.tp w T n):=⟨h.1.tp T n,h.2.1.tp T n,h.2.2⟩
def fC.maps (v v':fC):Prop:=v'.pC=v.pC/\v'.pO=v.pO/\v'.pM=v.pM
def zoi:Hw pB=true:=aS
def zJz:Nq pB [5,6,7,10]=true:=aS
def zGM:pB.toList.map (·.dst)=[some 40,some 41,some 42,some 43,some 44,some 45,some 46,some 47,some 48,some 49,none]:=rfl
def zDX:pB.toList=[zsS,zu5,znW,zvt,zvq,zwT,zij,zq6,znF,zo1,zlw]:=rfl
def F8 (hb gh gq q:Nat)(sA:aF)(i:Nat):Value:=([.pointer (some ⟨hb,0,none⟩),.pointer (some ⟨hb,0,none⟩),.pointer (some ⟨hb,0,none⟩),.pointer (some ⟨hb,3,none⟩),sA,aA,aA,aA,.pointer (some ⟨hb,0,none⟩),.pointer (some ⟨hb,3,none⟩),aA]:List aF).getD i aA
variable {V:Nat->aF}{Tf:Array aF}{s:Nat}
theorem bsRL (hT:wR Tf V)(e:V 45=.chan (some s)):(aO (bH Tf []).eval zij).run aK w=.ok (.value (.slice (some ⟨w.heap.size,0,none⟩) 1 1)) (w.alloc (.cells #[.chan (some s)] 61)):=by
 unfold aO;go_simp
variable {sA:aF}{T:kK}
theorem stRL {hb q1 n q2:Nat}(hT:wR Tf V)(e1:V 49=.pointer (some ⟨hb,3,none⟩))(e2:V 47=.slice (some ⟨q1,0,none⟩) n q2)(hh:w.cell? ⟨hb,3,none⟩=some sA)(hf:w.frozen? ⟨hb,3,none⟩=false):(aO (bH Tf []).eval zlw).run aK (Tt.tp w T 0)=.ok .skip (Tt.tp (w.setCell ⟨hb,3,none⟩ (.slice (some ⟨q1,0,none⟩) n q2)) T 0):=by
 have zfA:(Tt.tp w T 0).cell? ⟨hb,3,none⟩=some sA:=hh;have Ak:(Tt.tp w T 0).frozen? ⟨hb,3,none⟩=false:=hf;clear hh hf;unfold aO;go_simp
 try rfl
def WH.RdRL (c:WH)(w:aE):Prop:=w.cell? ⟨c.hb,3,none⟩=some c.v.sL/\w.heap[c.gh]? =some (.cells #[.pointer (some ⟨c.hb,0,none⟩)] 45)
def WH.RL2 (c:WH)(g:Nat)(w:aE):Prop:=∃v2,bE w c.lo c.hb v2 {c.d with ln:=c.d.ln++[g]}/\bL c.hb c.v0 c.w0 v2 w/\c.v.maps v2
variable {g:Nat}
theorem WH.RL2.tp (h:c.RL2 g w)(T:kK)(n:Nat):c.RL2 g (Tt.tp w T n):=by
 obtain⟨v1,a,d,e⟩:=h;exact⟨v1,a.tp T n,d.tp T n,e⟩
def WH.StRL (c:WH)(vs:List aF)(w':aE):Prop:=match vs with
 |[]=>c.P1 w'/\∀x∈c.d.ln,x<w'.heap.size
 |[a]=>∃g,a=.chan (some g)/\(∀x∈c.d.ln,x<g)/\g<w'.heap.size/\c.P1 w'
 |[a,b]=>∃g q,b=.slice (some ⟨q,0,none⟩) 1 1/\w'.heap[q]? =some (.cells #[.chan (some g)] 61)/\(∀x∈c.d.ln,x<g)/\g<w'.heap.size/\c.P1 w'
 |[a,b,x]=>∃g q1 q2,x=.slice (some ⟨q1,0,none⟩) (c.d.ln.length+1) q2/\w'.frozen? ⟨c.hb,3,none⟩=false/\(∀x∈c.d.ln,x<g)/\g<w'.heap.size/\c.RL2 g (w'.setCell ⟨c.hb,3,none⟩ x)
 |_=>∃g,(∀x∈c.d.ln,x<g)/\g<w'.heap.size/\c.RL2 g w'
section
variable {Post:aF->aE->Prop}{Shun:Loc->Prop}{W0:aE}{St:Nat->Prop}{R0:Pr}{base:List dE}
def SRL (Post:aF->aE->Prop)(Shun:Loc->Prop)(W0:aE)(St:Nat->Prop)(R0:Pr)(base:List dE)(c:WH)(K0:Pr)(vs:List aF)(C':Cx Unit)(l':Unit)(w':aE):Prop:=∃K',K0.le K'/\C'=D6 aK Bi fZ Post Shun W0 St K' R0 base/\(vs.length<4->c.RdRL w')/\c.StRL vs w'
variable {c:WH}
theorem SRL.tp {K0:Pr}(vs:List aF)(C':Cx Unit)(l':Unit)(w':aE)(T:kK)(n:Nat)(h:SRL Post Shun W0 St R0 base c K0 vs C' l' w'):SRL Post Shun W0 St R0 base c K0 vs C' l' (Tt.tp w' T n):=by
 obtain⟨K',h1,h2,h3,h4⟩:=h;refine⟨K',h1,h2,h3,?_⟩;rcases vs with _|⟨a,_|⟨b,_|⟨x,_|⟨y,vs⟩⟩⟩⟩
 .exact⟨h4.1.tp T n,h4.2⟩
 .obtain⟨g,a,b,d,e⟩:=h4
  exact⟨g,a,b,d,e.tp T n⟩
 .obtain⟨g,q,a,b,c,d,e⟩:=h4
  exact⟨g,q,a,b,c,d,e.tp T n⟩
 .obtain⟨g,q1,q2,a,b,c,d,e⟩:=h4
  exact⟨g,q1,q2,a,b,c,d,WH.RL2.tp (w:=w'.setCell _ _) e T n⟩
 .obtain⟨g,a,b,d⟩:=h4
  exact⟨g,a,b,d.tp T n⟩
theorem cw_RL {K:Pr}(x5:c.d.ln.length<=1000)(zai:some c.gh∉parts c.v c.hb){t0:Array aF}{w:aE}{kk:List dW}(hz:t0.size=73)(Dy:t0.getD 7 aA=.pointer (some ⟨c.gh,0,none⟩))
 (hk:∀vs C' l' w',vs.length=4->SRL Post Shun W0 St R0 base c K vs C' l' w'->BO C' l' ⟨13,cZ pB (VV [5,6,7,10] (F8 c.hb c.gh c.gq c.q c.v.sL) vs) t0,.inRegion pB []::kk,false⟩ w') (h0:SRL Post Shun W0 St R0 base c K [] (D6 aK Bi fZ Post Shun W0 St K R0 base) () w):BO (D6 aK Bi fZ Post Shun W0 St K R0 base) () ⟨13,t0,.code Zr::kk,false⟩ w:=by
 rw[zzR];have KO:=Rq zoi;refine BO.drawn (p:=aK) (gs:=Bi) (fs:=fZ) vD.mixed [5,6,7,10] (F8 c.hb c.gh c.gq c.q c.v.sL) (SRL Post Shun W0 St R0 base c K) (λvs C l w h=>by
  obtain⟨K',_,rfl,_⟩:=h;exact⟨cY,rfl,rfl,rfl,mG,λ_ _ _ _ _=>lX⟩) zoi zJz Le (λvs K l w T e h=>SRL.tp vs K l w T e h) (λi o ho hi=>?_) (λvs ci o C' l' w' hc ho hS t rest lR fJ=>?_) hk h0
 .have hl:pB.toList[i]? =some o:=by rw[zR];exact ho
  rw[zDX] at hl;have aP:i<11:=by have:=(jW.1 hl).1;simpa using this
  have tn:∀(vs:List aF) {j:Nat} {oj:aY} {s:Tmp} {v:aF},pB[j]? =some oj->oj.dst=some s->s<t0.size->VV [5,6,7,10] (F8 c.hb c.gh c.gq c.q c.v.sL) vs j=v->(cZ pB (VV [5,6,7,10] (F8 c.hb c.gh c.gq c.q c.v.sL) vs) t0).getD s aA=v:=λvs _ _ _ _ a b c d=>qA KO a b c d;have tq:∀(vs:List aF) {s:Tmp},F6 pB s=false->(cZ pB (VV [5,6,7,10] (F8 c.hb c.gh c.gq c.q c.v.sL) vs) t0).getD s aA=t0.getD s undef:=λvs _ a=>zej KO a;have Od:∀{vs:List aF} {C' l' w'},(SRL Post Shun W0 St R0 base c K) vs C' l' w'->vs.length<4->c.RdRL w':=λh hv=>by
   obtain⟨_,_,_,h,_⟩:=h;exact h hv
  rcases i with _|_|_|_|_|_|_|_|_|_|_|i
  .obtain rfl:=cD hl
   exact⟨aS,λvs K' l' w' hv hS=>⟨dU rfl,Mw (.pointer (some ⟨c.hb,0,none⟩)) ((tq vs aS).trans Dy) (aJ (Od hS hv).2 0)⟩⟩
  .obtain rfl:=cD hl
   exact⟨aS,λvs K' l' w' hv hS=>⟨dU rfl,Mw (.pointer (some ⟨c.hb,0,none⟩)) ((tq vs aS).trans Dy) (aJ (Od hS hv).2 0)⟩⟩
  .obtain rfl:=cD hl
   exact⟨aS,λvs K' l' w' hv hS=>⟨dU rfl,tZ (.pointer (some ⟨c.hb,0,none⟩)) (tn vs zFt rfl kH rfl)⟩⟩
  .obtain rfl:=cD hl
   exact⟨aS,λvs K' l' w' hv hS=>⟨dU rfl,tZ (.pointer (some ⟨c.hb,3,none⟩)) (tn vs zyK rfl kH rfl)⟩⟩
  .obtain rfl:=cD hl
   exact⟨aS,λvs K' l' w' hv hS=>⟨dU rfl,Mw (c.v.sL) (tn vs zzn rfl kH rfl) (Od hS hv).1⟩⟩
  .exact absurd aH hi
  .exact absurd aH hi
  .exact absurd aH hi
  .obtain rfl:=cD hl
   exact⟨aS,λvs K' l' w' hv hS=>⟨dU rfl,tZ (.pointer (some ⟨c.hb,0,none⟩)) (tn vs zAj rfl kH rfl)⟩⟩
  .obtain rfl:=cD hl
   exact⟨aS,λvs K' l' w' hv hS=>⟨dU rfl,tZ (.pointer (some ⟨c.hb,3,none⟩)) (tn vs zxY rfl kH rfl)⟩⟩
  .exact absurd aH hi
  .omega
 .rcases vs with _|⟨a,_|⟨b,_|⟨c',_|⟨d',vs⟩⟩⟩⟩
  .obtain rfl:5=ci:=by simpa using hc
   rw[zjy] at ho;obtain rfl:=cD ho;obtain⟨K',hK,rfl,hR,⟨s1,s2⟩⟩:=hS;obtain⟨ie,jL⟩:=zAz;refine BO.makeK cY zjy (dU rfl) rfl Tryd.underlying61 jL (λ_ _=>lX) (I':=λ_=>IA W0 St Shun R0) (λR τ W hi ht aP=>?_) (λg=>?_)
   .have hi:IA W0 St Shun R0 R τ W:=hi
    have sz:(W.alloc (.chan 0 #[] false 0 0 false)).heap.size=W.heap.size+1:=qS _ _;have hz:=hi.kp.size;exact⟨⟨hi.kp.os,hi.kp.tape,hi.kp.output,by rw[sz];omega,λb hb=>(Dm aD).trans (hi.kp.block b hb),hi.kp.old⟩,⟨hi.sh.old,hi.sh.rel,λl b hl hb=>hi.sh.new l b hl (by rw[sz] at hb;omega)⟩,hi.still,hi.le⟩
   .exact fJ _ _ _ _ ⟨K'.add w'.heap.size g,vS hK (Pr.le_add _ _ _),rfl,λ_=>⟨An (hR aQ).1 _,dF (hR aQ).2 _⟩,w'.heap.size,rfl,s2,by rw[qS];exact wL _,s1.1.alloc _,s1.2.1.trans (bL.below (dO (eR _ _) _)),eP s1.2.2 (by rw[qS];exact Pu _)⟩
  .obtain rfl:6=ci:=by simpa using hc
   rw[zdK] at ho;obtain rfl:=cD ho;obtain⟨K',hK,rfl,hR,g,rfl,s2,s3,z3,z5,s6⟩:=hS;have V1:(cZ pB (VV [5,6,7,10] (F8 c.hb c.gh c.gq c.q c.v.sL) [.chan (some g)]) t0).getD 45 aA=.chan (some g):=qA KO zjy rfl kH rfl;refine BO.op mG cY zdK (dU rfl) aS (λs hs=>lX) (λT=>⟨.slice (some ⟨w'.heap.size,0,none⟩) 1 1,(Tt.tp w' T 0).alloc (.cells #[.chan (some g)] 61),.inl ?_,?_⟩)
   .rw[Ds (KO.sel 6 _ zdK) lR]
    have hT:wR (cZ pB (VV [5,6,7,10] (F8 c.hb c.gh c.gq c.q c.v.sL) [.chan (some g)]) t0) (λs=>(cZ pB (VV [5,6,7,10] (F8 c.hb c.gh c.gq c.q c.v.sL) [.chan (some g)]) t0).getD s aA):=λs=>rfl;exact bsRL hT V1
   .have al:bL c.hb c.v w' c.v ((Tt.tp w' T 0).alloc (.cells #[.chan (some g)] 61)):=(bL.refl.tp T 0).trans (bL.below (dO (eR _ _) _))
    exact fJ _ _ _ _ ⟨K',hK,rfl,λ_=>⟨An (hR aQ).1 _,dF (hR aQ).2 _⟩,g,_,rfl,lO _ _,s2,zkN s3 (by show _<((Tt.tp w' T 0).alloc _).heap.size;rw[qS];exact wL _),(z3.tp T 0).alloc _,z5.trans al,eP s6 zdk⟩
  .obtain rfl:7=ci:=by simpa using hc
   rw[zjM] at ho;obtain rfl:=cD ho;obtain⟨K',hK,rfl,hR,g,gs,rfl,zbh,s2,s3,z3,z5,s6⟩:=hS;have zhO:=Ge lR (s:=44) aH (qA KO zHI rfl kH rfl);have zhT:=Ge lR (s:=46) aH (qA KO zdK rfl kH rfl);have zkC:some c.gh∉parts c.v c.hb:=zai;refine BO.op mG cY zjM (dU rfl) aS (λs hs=>lX) (λT=>?_);have a1:=z3.tp T 0;obtain⟨q1,q2,w5,fH,cP,mU,eY⟩:=L5 (w:=Tt.tp w' T 0) (t:=47) (ty:=47) zHZ Tryd.underlying47 rfl aH a1.L (g:=gs) (cs:=#[.chan (some g)]) (news:=[.chan (some g)]) zbh rfl (m:=1) rfl aH Me aD aH s6;obtain⟨a6,t6⟩:=a1.putL mU (xs:=c.d.ln++[g]) (by rw[zuH];exact cP) aQ eY;have xU:=(a1.other (j:=1) (c:=3) (x:=c.v.sL) rfl aH mU (.slice (some ⟨q1,0,none⟩) (c.d.ln.length+1) q2)).2.trans a1.blk;have Du:w5.heap[c.gh]? =some _:=(mU.block c.gh (kU (hR aQ).2) (λe=>zkC (dS (i:=1) (show(parts c.v c.hb)[1]? =some (some c.gh) by rw[e];rfl)))).trans (hR aQ).2;have cH:w'.heap.size<=w5.heap.size:=mU.size;refine⟨_,w5,.inl (Wb rfl zhO zhT fH),fJ _ _ _ _ ⟨K',hK,rfl,λ_=>⟨aJ xU 3,Du⟩,g,q1,q2,rfl,eL xU 3,s2,lA s3 cH,_,a6,z5.trans ((bL.refl.tp T 0).trans t6),rfl,rfl,rfl⟩⟩
  .obtain rfl:10=ci:=by simpa using hc
   rw[zkA] at ho;obtain rfl:=cD ho;obtain⟨K',hK,rfl,hR,g,q1,q2,rfl,mH,s2,s3,x7⟩:=hS;have V1:(cZ pB (VV [5,6,7,10] (F8 c.hb c.gh c.gq c.q c.v.sL) [a,b,.slice (some ⟨q1,0,none⟩) (c.d.ln.length+1) q2]) t0).getD 47 aA=.slice (some ⟨q1,0,none⟩) (c.d.ln.length+1) q2:=qA KO zjM rfl kH rfl;have V2:(cZ pB (VV [5,6,7,10] (F8 c.hb c.gh c.gq c.q c.v.sL) [a,b,.slice (some ⟨q1,0,none⟩) (c.d.ln.length+1) q2]) t0).getD 49 aA=.pointer (some ⟨c.hb,3,none⟩):=qA KO zCm rfl kH rfl;refine BO.op mG cY zkA (dU rfl) aS (λs hs=>lX) (λT=>⟨aA,Tt.tp (w'.setCell ⟨c.hb,3,none⟩ (.slice (some ⟨q1,0,none⟩) (c.d.ln.length+1) q2)) T 0,.inr ⟨?_,rfl⟩,?_⟩)
   .rw[Ds (KO.sel 10 _ zkA) lR]
    have hT:wR (cZ pB (VV [5,6,7,10] (F8 c.hb c.gh c.gq c.q c.v.sL) [a,b,.slice (some ⟨q1,0,none⟩) (c.d.ln.length+1) q2]) t0) (λs=>(cZ pB (VV [5,6,7,10] (F8 c.hb c.gh c.gq c.q c.v.sL) [a,b,.slice (some ⟨q1,0,none⟩) (c.d.ln.length+1) q2]) t0).getD s aA):=λs=>rfl;exact stRL hT V2 V1 (hR aQ).1 mH
   .exact fJ aA _ _ _ ⟨K',hK,rfl,λh=>absurd h aQ,g,s2,(by show g<(w'.setCell _ _).heap.size;rw[Hc];exact s3),WH.RL2.tp x7 T 0⟩
  .simp at hc
end
def zoz:Hw n7=true:=aS
def zxR:Nq n7 [6,7,10]=true:=aS
def zqj:n7.toList.map (·.dst)=[some 56,some 57,some 58,some 59,some 60,some 61,some 62,some 63,some 64,some 65,none]:=rfl
def zB4:n7.toList=[zwg,zuP,zph,ztj,zqa,zxm,zli,zpR,zvK,zn1,ziU]:=rfl
def Fw (hb gh gq q:Nat)(sA:aF)(i:Nat):Value:=([.pointer (some ⟨hb,0,none⟩),.pointer (some ⟨hb,0,none⟩),.pointer (some ⟨hb,0,none⟩),.pointer (some ⟨hb,6,none⟩),sA,.chan (some q),aA,aA,.pointer (some ⟨hb,0,none⟩),.pointer (some ⟨hb,6,none⟩),aA]:List aF).getD i aA
theorem bsRQ (hT:wR Tf V)(e:V 61=.chan (some s)):(aO (bH Tf []).eval zli).run aK w=.ok (.value (.slice (some ⟨w.heap.size,0,none⟩) 1 1)) (w.alloc (.cells #[.chan (some s)] 72)):=by
 unfold aO;go_simp
theorem stRQ {hb q1 n q2:Nat}(hT:wR Tf V)(e1:V 65=.pointer (some ⟨hb,6,none⟩))(e2:V 63=.slice (some ⟨q1,0,none⟩) n q2)(hh:w.cell? ⟨hb,6,none⟩=some sA)(hf:w.frozen? ⟨hb,6,none⟩=false):(aO (bH Tf []).eval ziU).run aK (Tt.tp w T 0)=.ok .skip (Tt.tp (w.setCell ⟨hb,6,none⟩ (.slice (some ⟨q1,0,none⟩) n q2)) T 0):=by
 have zfA:(Tt.tp w T 0).cell? ⟨hb,6,none⟩=some sA:=hh;have Ak:(Tt.tp w T 0).frozen? ⟨hb,6,none⟩=false:=hf;clear hh hf;unfold aO;go_simp
 try rfl
def WH.RdRQ (c:WH)(w:aE):Prop:=w.cell? ⟨c.hb,6,none⟩=some c.v.sQ/\w.heap[c.gh]? =some (.cells #[.pointer (some ⟨c.hb,0,none⟩)] 45)/\w.heap[c.gq]? =some (.cells #[.chan (some c.q)] 72)
def WH.RQ2 (c:WH)(g:Nat)(w:aE):Prop:=∃v2,bE w c.lo c.hb v2 {c.d with qn:=c.d.qn++[g]}/\bL c.hb c.v0 c.w0 v2 w/\c.v.maps v2
theorem WH.RQ2.tp (h:c.RQ2 g w)(T:kK)(n:Nat):c.RQ2 g (Tt.tp w T n):=by
 obtain⟨v1,a,d,e⟩:=h;exact⟨v1,a.tp T n,d.tp T n,e⟩
def WH.StRQ (c:WH)(vs:List aF)(w':aE):Prop:=match vs with
 |[]=>c.P1 w'
 |[b]=>(∃q,b=.slice (some ⟨q,0,none⟩) 1 1/\w'.heap[q]? =some (.cells #[.chan (some c.q)] 72))/\c.P1 w'
 |[b,x]=>(∃q1 q2,x=.slice (some ⟨q1,0,none⟩) (c.d.qn.length+1) q2)/\w'.frozen? ⟨c.hb,6,none⟩=false/\c.RQ2 c.q (w'.setCell ⟨c.hb,6,none⟩ x)
 |_=>c.RQ2 c.q w'
section
def SRQ {L:Type}(c:WH)(C:Cx L)(l:L)(vs:List aF)(C':Cx L)(l':L)(w':aE):Prop:=C'=C/\l'=l/\(vs.length<3->c.RdRQ w')/\c.StRQ vs w'
variable {L:Type}{c:WH}
theorem SRQ.tp {C:Cx L}{l:L}(vs:List aF)(C':Cx L)(l':L)(w':aE)(T:kK)(n:Nat)(h:SRQ c C l vs C' l' w'):SRQ c C l vs C' l' (Tt.tp w' T n):=by
 obtain⟨h1,h2,h3,h4⟩:=h;refine⟨h1,h2,h3,?_⟩;rcases vs with _|⟨b,_|⟨x,_|⟨y,vs⟩⟩⟩
 .exact h4.tp T n
 .exact⟨h4.1,h4.2.tp T n⟩
 .exact⟨h4.1,h4.2.1,WH.RQ2.tp (w:=w'.setCell _ _) h4.2.2 T n⟩
 .exact h4.tp T n
theorem cw_RQ {C:Cx L}{l:L}(hI:fB C)(hp:C.p=aK)(hg:C.gs=Bi)(hf:C.fs=fZ)(hF:uT C.P C.fs)(hn:∀(i:Nat) (o:aY) (s:Tmp),n7[i]? =some o->o.dst=some s->s∉C.S)(x5:c.d.qn.length<=1000)(zai:some c.gh∉parts c.v c.hb)(zaI:some c.gq∉parts c.v c.hb){t0:Array aF}{w:aE}{kk:List dW}(hz:t0.size=73)(Dy:t0.getD 7 aA=.pointer (some ⟨c.gh,0,none⟩))(zi8:t0.getD 9 aA=.pointer (some ⟨c.gq,0,none⟩))
 (hk:∀vs C' l' w',vs.length=3->SRQ c C l vs C' l' w'->BO C' l' ⟨13,cZ n7 (VV [6,7,10] (Fw c.hb c.gh c.gq c.q c.v.sQ) vs) t0,.inRegion n7 []::kk,false⟩ w') (h0:SRQ c C l [] C l w):BO C l ⟨13,t0,.code Nt::kk,false⟩ w:=by
 rw[zDw];have KO:=Rq zoz;refine BO.drawn (p:=aK) (gs:=Bi) (fs:=fZ) vD.mixed [6,7,10] (Fw c.hb c.gh c.gq c.q c.v.sQ) (SRQ c C l) (λvs C l w h=>by
  obtain⟨rfl,rfl,_⟩:=h;exact⟨hI,hp,hg,hf,hF,hn⟩) zoz zxR Le (λvs K l w T e h=>SRQ.tp vs K l w T e h) (λi o ho hi=>?_) (λvs ci o C' l' w' hc ho hS t rest lR fJ=>?_) hk h0
 .have hl:n7.toList[i]? =some o:=by rw[zR];exact ho
  rw[zB4] at hl;have aP:i<11:=by have:=(jW.1 hl).1;simpa using this
  have tn:∀(vs:List aF) {j:Nat} {oj:aY} {s:Tmp} {v:aF},n7[j]? =some oj->oj.dst=some s->s<t0.size->VV [6,7,10] (Fw c.hb c.gh c.gq c.q c.v.sQ) vs j=v->(cZ n7 (VV [6,7,10] (Fw c.hb c.gh c.gq c.q c.v.sQ) vs) t0).getD s aA=v:=λvs _ _ _ _ a b c d=>qA KO a b c d;have tq:∀(vs:List aF) {s:Tmp},F6 n7 s=false->(cZ n7 (VV [6,7,10] (Fw c.hb c.gh c.gq c.q c.v.sQ) vs) t0).getD s aA=t0.getD s undef:=λvs _ a=>zej KO a;have Od:∀{vs:List aF} {C' l' w'},(SRQ c C l) vs C' l' w'->vs.length<3->c.RdRQ w':=λh hv=>by
   obtain⟨_,_,h,_⟩:=h;exact h hv
  rcases i with _|_|_|_|_|_|_|_|_|_|_|i
  .obtain rfl:=cD hl
   exact⟨aS,λvs K' l' w' hv hS=>⟨dU rfl,Mw (.pointer (some ⟨c.hb,0,none⟩)) ((tq vs aS).trans Dy) (aJ (Od hS hv).2.1 0)⟩⟩
  .obtain rfl:=cD hl
   exact⟨aS,λvs K' l' w' hv hS=>⟨dU rfl,Mw (.pointer (some ⟨c.hb,0,none⟩)) ((tq vs aS).trans Dy) (aJ (Od hS hv).2.1 0)⟩⟩
  .obtain rfl:=cD hl
   exact⟨aS,λvs K' l' w' hv hS=>⟨dU rfl,tZ (.pointer (some ⟨c.hb,0,none⟩)) (tn vs zIh rfl kH rfl)⟩⟩
  .obtain rfl:=cD hl
   exact⟨aS,λvs K' l' w' hv hS=>⟨dU rfl,tZ (.pointer (some ⟨c.hb,6,none⟩)) (tn vs zEC rfl kH rfl)⟩⟩
  .obtain rfl:=cD hl
   exact⟨aS,λvs K' l' w' hv hS=>⟨dU rfl,Mw (c.v.sQ) (tn vs zBW rfl kH rfl) (Od hS hv).1⟩⟩
  .obtain rfl:=cD hl
   exact⟨aS,λvs K' l' w' hv hS=>⟨dU rfl,Mw (.chan (some c.q)) ((tq vs aS).trans zi8) (aJ (Od hS hv).2.2 0)⟩⟩
  .exact absurd aH hi
  .exact absurd aH hi
  .obtain rfl:=cD hl
   exact⟨aS,λvs K' l' w' hv hS=>⟨dU rfl,tZ (.pointer (some ⟨c.hb,0,none⟩)) (tn vs zHK rfl kH rfl)⟩⟩
  .obtain rfl:=cD hl
   exact⟨aS,λvs K' l' w' hv hS=>⟨dU rfl,tZ (.pointer (some ⟨c.hb,6,none⟩)) (tn vs zF0 rfl kH rfl)⟩⟩
  .exact absurd aH hi
  .omega
 .rcases vs with _|⟨a,_|⟨b,_|⟨c',vs⟩⟩⟩
  .obtain rfl:6=ci:=by simpa using hc
   rw[zaR] at ho;obtain rfl:=cD ho;obtain⟨rfl,rfl,hR,z3,z5,s6⟩:=hS;have V1:(cZ n7 (VV [6,7,10] (Fw c.hb c.gh c.gq c.q c.v.sQ) []) t0).getD 61 aA=.chan (some c.q):=qA KO zCz rfl kH rfl;refine BO.op hF hI zaR (dU rfl) znc (λs hs=>hn 6 _ s zaR hs) (λT=>⟨.slice (some ⟨w'.heap.size,0,none⟩) 1 1,(Tt.tp w' T 0).alloc (.cells #[.chan (some c.q)] 72),.inl ?_,?_⟩)
   .rw[hp]
    rw[Ds (KO.sel 6 _ zaR) lR];have hT:wR (cZ n7 (VV [6,7,10] (Fw c.hb c.gh c.gq c.q c.v.sQ) []) t0) (λs=>(cZ n7 (VV [6,7,10] (Fw c.hb c.gh c.gq c.q c.v.sQ) []) t0).getD s aA):=λs=>rfl;exact bsRQ hT V1
   .have al:bL c.hb c.v w' c.v ((Tt.tp w' T 0).alloc (.cells #[.chan (some c.q)] 72)):=(bL.refl.tp T 0).trans (bL.below (dO (eR _ _) _))
    exact fJ _ _ _ _ ⟨rfl,rfl,λ_=>⟨An (hR aQ).1 _,dF (hR aQ).2.1 _,dF (hR aQ).2.2 _⟩,⟨_,rfl,lO _ _⟩,(z3.tp T 0).alloc _,z5.trans al,eP s6 zdk⟩
  .obtain rfl:7=ci:=by simpa using hc
   rw[zee] at ho;obtain rfl:=cD ho;obtain⟨rfl,rfl,hR,⟨gs,rfl,zbh⟩,z3,z5,s6⟩:=hS;have zhO:=Ge lR (s:=60) aH (qA KO zCZ rfl kH rfl);have zhT:=Ge lR (s:=62) aH (qA KO zaR rfl kH rfl);have zkC:some c.gh∉parts c.v c.hb:=zai;have zAE:some c.gq∉parts c.v c.hb:=zaI;refine BO.op hF hI zee (dU rfl) znc (λs hs=>hn 7 _ s zee hs) (λT=>?_);have a1:=z3.tp T 0;obtain⟨q1,q2,w5,fH,cP,mU,eY⟩:=L5 (w:=Tt.tp w' T 0) (t:=50) (ty:=50) zDF Tryd.underlying50 rfl aH a1.Q (g:=gs) (cs:=#[.chan (some c.q)]) (news:=[.chan (some c.q)]) zbh rfl (m:=1) rfl aH Me aD aH s6;obtain⟨a6,t6⟩:=a1.putQ mU (xs:=c.d.qn++[c.q]) (by rw[zuH];exact cP) aQ eY;have xU:=(a1.other (j:=4) (c:=6) (x:=c.v.sQ) rfl aH mU (.slice (some ⟨q1,0,none⟩) (c.d.qn.length+1) q2)).2.trans a1.blk;have Du:w5.heap[c.gh]? =some _:=(mU.block c.gh (kU (hR aQ).2.1) (λe=>zkC (dS (i:=4) (show(parts c.v c.hb)[4]? =some (some c.gh) by rw[e];rfl)))).trans (hR aQ).2.1;have Ad:w5.heap[c.gq]? =some _:=(mU.block c.gq (kU (hR aQ).2.2) (λe=>zAE (dS (i:=4) (show(parts c.v c.hb)[4]? =some (some c.gq) by rw[e];rfl)))).trans (hR aQ).2.2;refine⟨_,w5,.inl (by rw[hp];exact Wb rfl zhO zhT fH),fJ _ _ _ _ ⟨rfl,rfl,λ_=>⟨aJ xU 6,Du,Ad⟩,⟨q1,q2,rfl⟩,eL xU 6,_,a6,z5.trans ((bL.refl.tp T 0).trans t6),rfl,rfl,rfl⟩⟩
  .obtain rfl:10=ci:=by simpa using hc
   rw[zeZ] at ho;obtain rfl:=cD ho;obtain⟨rfl,rfl,hR,⟨q1,q2,rfl⟩,mH,x7⟩:=hS;have V1:(cZ n7 (VV [6,7,10] (Fw c.hb c.gh c.gq c.q c.v.sQ) [a,.slice (some ⟨q1,0,none⟩) (c.d.qn.length+1) q2]) t0).getD 63 aA=.slice (some ⟨q1,0,none⟩) (c.d.qn.length+1) q2:=qA KO zee rfl kH rfl;have V2:(cZ n7 (VV [6,7,10] (Fw c.hb c.gh c.gq c.q c.v.sQ) [a,.slice (some ⟨q1,0,none⟩) (c.d.qn.length+1) q2]) t0).getD 65 aA=.pointer (some ⟨c.hb,6,none⟩):=qA KO zEw rfl kH rfl;refine BO.op hF hI zeZ (dU rfl) znc (λs hs=>hn 10 _ s zeZ hs) (λT=>⟨aA,Tt.tp (w'.setCell ⟨c.hb,6,none⟩ (.slice (some ⟨q1,0,none⟩) (c.d.qn.length+1) q2)) T 0,.inr ⟨?_,rfl⟩,?_⟩)
   .rw[hp]
    rw[Ds (KO.sel 10 _ zeZ) lR];have hT:wR (cZ n7 (VV [6,7,10] (Fw c.hb c.gh c.gq c.q c.v.sQ) [a,.slice (some ⟨q1,0,none⟩) (c.d.qn.length+1) q2]) t0) (λs=>(cZ n7 (VV [6,7,10] (Fw c.hb c.gh c.gq c.q c.v.sQ) [a,.slice (some ⟨q1,0,none⟩) (c.d.qn.length+1) q2]) t0).getD s aA):=λs=>rfl;exact stRQ hT V2 V1 (hR aQ).1 mH
   .exact fJ aA _ _ _ ⟨rfl,rfl,λh=>absurd h aQ,WH.RQ2.tp x7 T 0⟩
  .simp at hc
end
end Go.Proofs.YtfcjiloojkjaeaaDoor
namespace Go.Proofs.YtfcjiloojkjaeaaDoor
open Go.RowKit
theorem zlM (o:jE)(w:aE):
 iE aK 18 #[.agg #[.int .i64 o.ln,.int .i64 o.op,.int .i64 o.pt]] w λx w'=>x=.returned (.bool (qY o))/\bU w.heap.size w w':=by
 go_enter Tryd.func18,Tryd.ntmps18
 go_wp2
 all_goals go_ret
 all_goals refine⟨Kj ?_,((eR _ _).alloc (aZ _) _)⟩
 all_goals rw[My]
 all_goals simp[qY,inB] at*
 all_goals grind
theorem zoD (e:dG)(ops:Int)(w:aE)(ho:1<=ops/\ops<=4):
 iE aK 19 #[.agg #[.string e.k,.int .i64 e.a,.int .i64 e.b],.int .i64 ops] w λx w'=>x=.returned (.bool (sK ops e))/\bU w.heap.size w w':=by
 obtain⟨yM,zam⟩:=ho
 go_enter Tryd.func19,Tryd.ntmps19
 go_wp2
 all_goals go_ret
 all_goals refine⟨Kj ?_,((eR _ _).alloc (aZ _) _)⟩
 all_goals rw[My]
 all_goals simp[sK,Jd,inB,H3,I6,Hs,He,zbX] at*
 all_goals grind
end Go.Proofs.YtfcjiloojkjaeaaDoor
namespace Go.Proofs.YtfcjiloojkjaeaaDoor
open Go.RowKit Go.Mt Go.Conc Go.Tt Go.Maps Go.Conc.Lib Go.ConcR.Gen
open Go.ConcR (KK wgBlock WgAt stA smA rd wr)
structure oH (wB:aE)(lo go ge n c:Nat)(A:Option bO)(o:jE)(es:List dG)(w:aE):Prop where
 lo_:lo<=w.heap.size
 tab:Al lo w
 ev:cG w 0 lo 3 A n c (lW es)
 gol:go<lo
 gel:ge<lo
 bo:w.heap[go]? =some (.cells #[.int .i64 o.ln,.int .i64 o.op,.int .i64 o.pt] 27)
 be:w.heap[ge]? =some (.cells #[.slice A n c] 29)
 old:∀b,b<lo->w.heap[b]? =wB.heap[b]?
section
variable {lo go ge n c:Nat}{A:Option bO}{o:jE}{es:List dG}{wB w w':aE}
def oH.keep (h:oH wB lo go ge n c A o es w)(hs:w.heap.size<=w'.heap.size)(k:∀b,b<lo->w'.heap[b]? =w.heap[b]?):oH wB lo go ge n c A o es w':=
 ⟨eP h.lo_ hs,h.tab.keep k,h.ev.keep hs λb _ q _=>k b q,h.gol,h.gel,(k _ h.gol).trans h.bo,(k _ h.gel).trans h.be,λb hb=>(k b hb).trans (h.old b hb)⟩
def oH.below (h:oH wB lo go ge n c A o es w)(k:bU w.heap.size w w'):oH wB lo go ge n c A o es w':=h.keep k.size λb hb=>k.block b (lA hb h.lo_)
def oH.tp (h:oH wB lo go ge n c A o es w)(T:kK)(e:Nat):oH wB lo go ge n c A o es (Tt.tp w T e):=h.keep (aZ _) λ_ _=>rfl
end
structure oC (wB:aE)(lo go ge n c:Nat)(A:Option bO)(o:jE)(es:List dG)(hb gh:Nat)(ln qn:List Nat)(v:fC)(w:aE):Prop where
 e:oH wB lo go ge n c A o es w
 at_:bE w lo hb v ⟨l6 o,ln,qn,[]⟩
 mp:v.pC=[]/\v.pO=[]/\v.pM=[]
 nd:ln.Nodup
 lt:∀x∈ln,x<w.heap.size
 bh:w.heap[gh]? =some (.cells #[.pointer (some ⟨hb,0,none⟩)] 45)
 nh:some gh∉parts v hb
 ghl:lo<=gh
section
variable {lo go ge n c hb gh:Nat}{A:Option bO}{o:jE}{es:List dG}{ln qn zet zcZ:List Nat}{v v':fC}{wB w w':aE}
theorem oC.turn (h:oC wB lo go ge n c A o es hb gh ln qn v w)(t:bL hb v w v' w')(a:bE w' lo hb v' ⟨l6 o,zet,zcZ,[]⟩)(m:v.maps v')(hn:zet.Nodup)(hl:∀x∈zet,x<w'.heap.size):oC wB lo go ge n c A o es hb gh zet zcZ v' w':=by
 obtain⟨b1,b2⟩:=h.at_.turned t h.bh h.nh;refine⟨h.e.keep t.size λb bY=>t.block b (lA bY h.e.lo_) λhp=>?_,a,⟨m.1.trans h.mp.1,m.2.1.trans h.mp.2.1,m.2.2.trans h.mp.2.2⟩,hn,hl,b1,b2,h.ghl⟩;have:=(h.at_.lt b hp).1;omega
def oC.below (h:oC wB lo go ge n c A o es hb gh ln qn v w)(k:bU w.heap.size w w'):oC wB lo go ge n c A o es hb gh ln qn v w':=
 h.turn (bL.below k) (h.at_.below k) ⟨rfl,rfl,rfl⟩ h.nd λx hx=>lA (h.lt x hx) k.size
def oC.tp (h:oC wB lo go ge n c A o es hb gh ln qn v w)(T:kK)(e:Nat):oC wB lo go ge n c A o es hb gh ln qn v (Tt.tp w T e):=⟨h.e.tp T e,h.at_.tp T e,h.mp,h.nd,h.lt,h.bh,h.nh,h.ghl⟩
theorem oC.mr (h:oC wB lo go ge n c A o es hb gh ln qn v w):fT v ⟨l6 o,ln,qn,[]⟩:=by
 obtain⟨h1,h2,h3⟩:=h.mp;refine⟨by rw[h1];exact Pq,by rw[h2];exact Pq,by rw[h3];exact Pq,λi g _=>?_,λc y hy=>?_,λc _ i x hx=>?_,λc y hy=>?_,λc _ i x hx=>?_⟩
 .rw[h1]
  refine⟨λx=>(by cases x),λ⟨j,x,hx,_⟩=>?_⟩;have hx:([]:List bR)[j]? =some x:=hx;simp at hx
 .rw[h2] at hy;cases hy
 .have hx:([]:List bR)[i]? =some x:=hx
  simp at hx
 .rw[h3] at hy;cases hy
 .have hx:([]:List bR)[i]? =some x:=hx
  simp at hx
end
def Ya:Go.Code:=.seq rRH11 (.seq (.cond (.tmp 39) .skip (.exit 2)) (.seq (.block 3 Zr) rRH13))
def zaa:Go.Code:=.seq rRH4 (.seq (.cond (.tmp 21) .skip (.exit 0)) (.seq (.block 1 (.seq rRH5 (.seq rRH6 (.cond (.tmp 28) (.seq rRH7 .ret) .skip)))) rRH8))
section
variable {Post:aF->aE->Prop}{Shun:Loc->Prop}{W0:aE}{St:Nat->Prop}{R0:Pr}{base:List dE}{wB:aE}{lo go ge n c hb gh:Nat}{A:Option bO}{o:jE}{es:List dG}
abbrev Hx (Post:aF->aE->Prop)(Shun:Loc->Prop)(W0:aE)(St:Nat->Prop)(R0:Pr)(base:List dE)(K:Pr):Cx Unit:=D6 aK Bi fZ Post Shun W0 St K R0 base
theorem zEZ {kk:List dW}(h6:o.ln<=6)(K0:Pr)(zbG:∀K w v ln u0 u1 u4 u5 u6 u8 u9 gH fY gA fW fX gC u16 gQ j6 kJ jG gU iB gM gN gX gP hY iF iA iZ jA u32 iD gO gT gY iC gZ gS iT iQ iH iO iI iG iR iP iK iL l5 l8 kS kO kD j5 kC kM kI jU jX jQ u64 jP jR jZ jY kN kG kL jS,K0.le K->oC wB lo go ge n c A o es hb gh ln [] v w->(ln.length:Int)=o.ln->BO (Hx Post Shun W0 St R0 base K) () ⟨13,#[u0,u1,.pointer (some ⟨go,0,none⟩),.pointer (some ⟨ge,0,none⟩),u4,u5,u6,.pointer (some ⟨gh,0,none⟩),u8,u9,gH,fY,gA,fW,fX,gC,u16,gQ,j6,kJ,jG,gU,iB,gM,gN,gX,gP,hY,iF,iA,iZ,jA,u32,iD,gO,gT,gY,.int .i64 o.ln,.int .i64 o.ln,iC,gZ,gS,iT,iQ,iH,iO,iI,iG,iR,iP,iK,iL,l5,l8,kS,kO,kD,j5,kC,kM,kI,jU,jX,jQ,u64,jP,jR,jZ,jY,kN,kG,kL,jS],kk,false⟩ w):
 ∀(m k:Nat),((k+m:Nat):Int)=o.ln->∀(K:Pr) (w:aE) (v:fC) (ln:List Nat) (u0 u1 u4 u5 u6 u8 u9 gH fY gA fW fX gC u16 gQ j6 kJ jG gU iB gM gN gX gP hY iF iA iZ jA u32 iD gO gT gY iC gZ gS iT iQ iH iO iI iG iR iP iK iL l5 l8 kS kO kD j5 kC kM kI jU jX jQ u64 jP jR jZ jY kN kG kL jS:aF),K0.le K->oC wB lo go ge n c A o es hb gh ln [] v w->ln.length=k->BO (Hx Post Shun W0 St R0 base K) () ⟨13,#[u0,u1,.pointer (some ⟨go,0,none⟩),.pointer (some ⟨ge,0,none⟩),u4,u5,u6,.pointer (some ⟨gh,0,none⟩),u8,u9,gH,fY,gA,fW,fX,gC,u16,gQ,j6,kJ,jG,gU,iB,gM,gN,gX,gP,hY,iF,iA,iZ,jA,u32,iD,gO,gT,gY,.int .i64 o.ln,.int .i64 k,iC,gZ,gS,iT,iQ,iH,iO,iI,iG,iR,iP,iK,iL,l5,l8,kS,kO,kD,j5,kC,kM,kI,jU,jX,jQ,u64,jP,jR,jZ,jY,kN,kG,kL,jS],.code Ya:: .inLoop Ya:: .inBlock 2::kk,false⟩ w:=by
 intro m
 induction m with
 |zero=>
  intro k hk K w v ln u0 u1 u4 u5 u6 u8 u9 gH fY gA fW fX gC u16 gQ j6 kJ jG gU iB gM gN gX gP hY iF iA iZ jA u32 iD gO gT gY iC gZ gS iT iQ iH iO iI iG iR iP iK iL l5 l8 kS kO kD j5 kC kM kI jU jX jQ u64 jP jR jZ jY kN kG kL jS hK hR hl;have zJ:(k:Int)=o.ln:=by simpa using hk
  have Fv:¬(k:Int)<o.ln:=aD;have HR:=aC hR;have HE:=aC zJ;clear hR hk zJ;unfold Ya;refine BO.seq cY ?_;refine BO.pV mG cY tK (λw1 T1 eT Q' cV=>?_);have lF:=aC (show oC wB lo go ge n c A o es hb gh ln [] v w1 by rw[eT];exact HR.o.tp T1 0);clear HR;clear eT;go_wp2;refine cV.o _ _ ?_;clear cV;refine BO.seq cY ?_;refine BO.cond cY (t:=false) rfl rfl ?_;refine BO.exit cY (k':=kk) rfl ?_;have zJ:=HE.o;rw[zJ];exact zbG K _ v ln _ _ _ _ _ _ _ _ _ _ _ _ _ _ _ _ _ _ _ _ _ _ _ _ _ _ _ _ _ _ _ _ _ _ _ _ _ _ _ _ _ _ _ _ _ _ _ _ _ _ _ _ _ _ _ _ _ _ _ _ _ _ _ _ _ _ _ _ hK lF.o aD
 |succ m ih=>
  intro k hk K w v ln u0 u1 u4 u5 u6 u8 u9 gH fY gA fW fX gC u16 gQ j6 kJ jG gU iB gM gN gX gP hY iF iA iZ jA u32 iD gO gT gY iC gZ gS iT iQ iH iO iI iG iR iP iK iL l5 l8 kS kO kD j5 kC kM kI jU jX jQ u64 jP jR jZ jY kN kG kL jS hK hR hl;have Fv:(k:Int)<o.ln:=aD;have HR:=aC hR;have HK:=aC hk;clear hR hk;unfold Ya;refine BO.seq cY ?_;refine BO.pV mG cY tK (λw1 T1 eT Q' cV=>?_);have lF:=aC (show oC wB lo go ge n c A o es hb gh ln [] v w1 by rw[eT];exact HR.o.tp T1 0);clear HR;clear eT;go_wp2;refine cV.o _ _ ?_;clear cV;refine BO.seq cY ?_;refine BO.cond cY (t:=true) rfl rfl ?_;refine BO.skip cY ?_;refine BO.seq cY ?_;refine BO.block cY ?_;refine cw_RL (c:=⟨lo,hb,gh,0,0,v,w1,v,⟨l6 o,ln,[],[]⟩⟩) (by show ln.length<=1000;omega) lF.o.nh rfl rfl (λvs C' l' w' tG hS=>?_) ⟨K,vY _,rfl,λ_=>⟨aJ lF.o.at_.blk 3,lF.o.bh⟩,⟨lF.o.at_,bL.refl,lF.o.e.lo_⟩,lF.o.lt⟩;rw[Go.Mt.zY,zGM];simp only[Go.Mt.wO,dV,dX];obtain⟨K',hle,rfl,_,h4⟩:=hS;have s4:∃g,(∀x∈ln,x<g)/\g<w'.heap.size/\WH.RL2 ⟨lo,hb,gh,0,0,v,w1,v,⟨l6 o,ln,[],[]⟩⟩ g w':=by
   rcases vs with _|⟨a,_|⟨b,_|⟨x,_|⟨y,vs⟩⟩⟩⟩
   .cases tG
   .cases tG
   .cases tG
   .cases tG
   .exact h4
  obtain⟨g,s2,s3,v2,a2,t2,mp⟩:=s4;have rI:K0.le K':=vS hK hle;have Kb:oC wB lo go ge n c A o es hb gh (ln++[g]) [] v2 w':=lF.o.turn t2 a2 mp (by
   rw[List.nodup_append];refine⟨lF.o.nd,List.nodup_cons.2 ⟨lX,Pq⟩,λa ha b bY=>?_⟩;obtain rfl:=sC.1 bY;have:=s2 a ha;omega) (λx hx=>by
   rcases List.mem_append.1 hx with hx|hx
   .exact zkN (s2 x hx) s3
   .obtain rfl:=sC.1 hx;exact s3)
  have lC:=aC Kb;clear Kb a2 t2 mp s2 h4 tG lF;refine BO.regEnd cY ?_;refine BO.inBlock cY ?_;refine BO.pV mG cY tK (λw2 T2 fQ Q' cV=>?_);have O6:=aC (show oC wB lo go ge n c A o es hb gh (ln++[g]) [] v2 w2 by rw[fQ];exact lC.o.tp T2 0);clear lC;clear fQ;go_wp2;refine cV.o _ _ ?_;clear cV;refine BO.inLoop cY ?_;exact ih (k+1) (by have:=HK.o;omega) K' _ v2 (ln++[g]) _ _ _ _ _ _ _ _ _ _ _ _ _ _ _ _ _ _ _ _ _ _ _ _ _ _ _ _ _ _ _ _ _ _ _ _ _ _ _ _ _ _ _ _ _ _ _ _ _ _ _ _ _ _ _ _ _ _ _ _ _ _ _ _ _ _ _ _ rI O6.o (by rw[gJ,hl];rfl)
end
section
variable {Post:aF->aE->Prop}{Shun:Loc->Prop}{W0:aE}{St:Nat->Prop}{R0:Pr}{base:List dE}{K:Pr}{wB:aE}{lo go ge n c:Nat}{A:Option bO}{o:jE}{es:List dG}
theorem zFx {kk:List dW}(hop:1<=o.op/\o.op<=4)(zy3:n<=60)(B7:es.length=n)
 (P7:∀(T:Array aF) todo w,T.getD 4 aA=.pointer none->oH wB lo go ge n c A o es w->es.all (sK o.op)=false->BO (Hx Post Shun W0 St R0 base K) () ⟨13,T,todo,true⟩ w)
 (zbG:∀w jG u0 u1 u5 u6 u7 u8 u9 gH fY gA fW fX gC u16 gQ gU iB gM gN gX gP hY iF iA iZ jA u32 iD gO gT gY j7 j9 iC gZ gS iT iQ iH iO iI iG iR iP iK iL l5 l8 kS kO kD j5 kC kM kI jU jX jQ u64 jP jR jZ jY kN kG kL jS,oH wB lo go ge n c A o es w->es.all (sK o.op)=true->BO (Hx Post Shun W0 St R0 base K) () ⟨13,#[u0,u1,.pointer (some ⟨go,0,none⟩),.pointer (some ⟨ge,0,none⟩),.pointer none,u5,u6,u7,u8,u9,gH,fY,gA,fW,fX,gC,u16,gQ,.slice A n c,.int .i64 n,jG,gU,iB,gM,gN,gX,gP,hY,iF,iA,iZ,jA,u32,iD,gO,gT,gY,j7,j9,iC,gZ,gS,iT,iQ,iH,iO,iI,iG,iR,iP,iK,iL,l5,l8,kS,kO,kD,j5,kC,kM,kI,jU,jX,jQ,u64,jP,jR,jZ,jY,kN,kG,kL,jS],kk,false⟩ w):
 ∀(m k:Nat),k+m=n->∀(w:aE) (u0 u1 u5 u6 u7 u8 u9 gH fY gA fW fX gC u16 gQ gU iB gM gN gX gP hY iF iA iZ jA u32 iD gO gT gY j7 j9 iC gZ gS iT iQ iH iO iI iG iR iP iK iL l5 l8 kS kO kD j5 kC kM kI jU jX jQ u64 jP jR jZ jY kN kG kL jS:aF),oH wB lo go ge n c A o es w->(∀j,j<k->∀b,es[j]? =some b->sK o.op b=true)->BO (Hx Post Shun W0 St R0 base K) () ⟨13,#[u0,u1,.pointer (some ⟨go,0,none⟩),.pointer (some ⟨ge,0,none⟩),.pointer none,u5,u6,u7,u8,u9,gH,fY,gA,fW,fX,gC,u16,gQ,.slice A n c,.int .i64 n,.int .i64 k,gU,iB,gM,gN,gX,gP,hY,iF,iA,iZ,jA,u32,iD,gO,gT,gY,j7,j9,iC,gZ,gS,iT,iQ,iH,iO,iI,iG,iR,iP,iK,iL,l5,l8,kS,kO,kD,j5,kC,kM,kI,jU,jX,jQ,u64,jP,jR,jZ,jY,kN,kG,kL,jS],.code zaa:: .inLoop zaa:: .inBlock 0::kk,false⟩ w:=by
 intro m
 induction m with
 |zero=>
  intro k hk w u0 u1 u5 u6 u7 u8 u9 gH fY gA fW fX gC u16 gQ gU iB gM gN gX gP hY iF iA iZ jA u32 iD gO gT gY j7 j9 iC gZ gS iT iQ iH iO iI iG iR iP iK iL l5 l8 kS kO kD j5 kC kM kI jU jX jQ u64 jP jR jZ jY kN kG kL jS hE rU;have zJ:n=k:=aD;subst zJ;have Fv:¬(n:Int)<(n:Int):=aD;have HE:=aC hE;have HA:=aC rU;have HN:=aC B7;clear hE rU B7 hk;unfold zaa;refine BO.seq cY ?_;refine BO.pV mG cY tK (λw1 T1 eT Q' cV=>?_);have cJ:=aC (show oH wB lo go ge n c A o es w1 by rw[eT];exact HE.o.tp T1 0);clear HE;clear eT;go_wp2;refine cV.o _ _ ?_;clear cV;refine BO.seq cY ?_;refine BO.cond cY (t:=false) rfl rfl ?_;refine BO.exit cY (k':=kk) rfl ?_;exact zbG _ _ _ _ _ _ _ _ _ _ _ _ _ _ _ _ _ _ _ _ _ _ _ _ _ _ _ _ _ _ _ _ _ _ _ _ _ _ _ _ _ _ _ _ _ _ _ _ _ _ _ _ _ _ _ _ _ _ _ _ _ _ _ _ _ _ _ _ _ cJ.o (zxX HA.o (by rw[HN.o];exact aZ _))
 |succ m ih=>
  intro k hk w u0 u1 u5 u6 u7 u8 u9 gH fY gA fW fX gC u16 gQ gU iB gM gN gX gP hY iF iA iZ jA u32 iD gO gT gY j7 j9 iC gZ gS iT iQ iH iO iI iG iR iP iK iL l5 l8 kS kO kD j5 kC kM kI jU jX jQ u64 jP jR jZ jY kN kG kL jS hE rU;have aP:k<n:=aD;have Fv:(k:Int)<(n:Int):=aD;have i0:(0:Int)<=(k:Int):=aD;have HE:=aC hE;have HA:=aC rU;have HN:=aC B7;have HK:=aC hk;clear hE rU B7 hk;unfold zaa;refine BO.seq cY ?_;refine BO.pV mG cY tK (λw1 T1 eT Q' cV=>?_);have cJ:=aC (show oH wB lo go ge n c A o es w1 by rw[eT];exact HE.o.tp T1 0);clear HE;clear eT;go_wp2;refine cV.o _ _ ?_;clear cV;refine BO.seq cY ?_;refine BO.cond cY (t:=true) rfl rfl ?_;refine BO.skip cY ?_;refine BO.seq cY ?_;refine BO.block cY ?_;refine BO.seq cY ?_;obtain⟨be,oe,ev,hA,zyQ,zc7,zhz,Dw,e0,e1,e2⟩:=cJ.o.ev.eventsAt aP;subst hA;have No:=aC Dw;clear Dw;refine BO.pV mG cY tK (λw2 T2 fQ Q' cV=>?_);have mR:=aC (show oH wB lo go ge n c (some ⟨be,oe,none⟩) o es w2 by rw[fQ];exact cJ.o.tp T2 0);have zdf:w2.cell? ⟨be,oe+k*3,none⟩=some (.string ev.k):=by rw[fQ];exact e0
  have Ei:w2.cell? ⟨be,oe+k*3+1,none⟩=some (.int .i64 ev.a):=by rw[fQ];exact e1
  have zjl:w2.cell? ⟨be,oe+k*3+2,none⟩=some (.int .i64 ev.b):=by rw[fQ];exact e2
  clear e0 e1 e2;clear cJ;clear fQ;go_wp2;refine cV.o _ _ ?_;clear cV;clear zdf Ei zjl;obtain⟨gb,eK⟩:=aU w2.heap.size;obtain⟨w3,iM⟩:=aU (w2.alloc (.cells #[.string ev.k,.int .i64 ev.a,.int .i64 ev.b] 43));have uI:=aC (show oH wB lo go ge n c (some ⟨be,oe,none⟩) o es w3 by rw[iM];exact mR.o.below (dO (eR _ _) _));have uP:=aC (show w3.heap[gb]? =some (.cells #[.string ev.k,.int .i64 ev.a,.int .i64 ev.b] 43) by rw[iM,eK];exact lO _ _);rw[<-eK,<-iM];clear iM eK mR;refine BO.seq cY ?_
  cases hv:sK o.op ev with
  |true=>
   refine BO.pV mG cY tK (λw4 T3 lG Q' cV=>?_);have zbc:=aC (show oH wB lo go ge n c (some ⟨be,oe,none⟩) o es w4 by rw[lG];exact uI.o.tp T3 0);have g0:w4.cell? ⟨gb,0,none⟩=some (.string ev.k):=by rw[lG];exact aJ uP.o 0
   have g1:w4.cell? ⟨gb,1,none⟩=some (.int .i64 ev.a):=by rw[lG];exact aJ uP.o 1
   have g2:w4.cell? ⟨gb,2,none⟩=some (.int .i64 ev.b):=by rw[lG];exact aJ uP.o 2
   have o1:w4.cell? ⟨go,1,none⟩=some (.int .i64 o.op):=by rw[lG];exact aJ uI.o.bo 1
   have HV:=aC hv;clear uI uP hv;clear lG
   go_wp2_with ((go_at_call 19;refine(zoD ev o.op _ hop).mono ?_;rintro e w' ⟨rfl,mI⟩))
   refine cV.o _ _ ?_;clear cV;clear g0 g1 g2 o1;have zcl:=aC (zbc.o.below mI);clear mI zbc;refine BO.cond cY (t:=false) rfl (by first|rfl|simp[vW,HV.o]) ?_;refine BO.skip cY ?_;refine BO.inBlock cY ?_;refine BO.pV mG cY tK (λw6 T6 o5 Q' cV=>?_);have zii:=aC (show oH wB lo go ge n c (some ⟨be,oe,none⟩) o es w6 by rw[o5];exact zcl.o.tp T6 0);clear zcl;clear o5;go_wp2;refine cV.o _ _ ?_;clear cV;refine BO.inLoop cY ?_;exact ih (k+1) (by have:=HK.o;omega) _ _ _ _ _ _ _ _ _ _ _ _ _ _ _ _ _ _ _ _ _ _ _ _ _ _ _ _ _ _ _ _ _ _ _ _ _ _ _ _ _ _ _ _ _ _ _ _ _ _ _ _ _ _ _ _ _ _ _ _ _ _ _ _ _ _ _ _ zii.o (zGs HA.o No.o HV.o)
  |false=>
   refine BO.pV mG cY tK (λw4 T3 lG Q' cV=>?_);have zbc:=aC (show oH wB lo go ge n c (some ⟨be,oe,none⟩) o es w4 by rw[lG];exact uI.o.tp T3 0);have g0:w4.cell? ⟨gb,0,none⟩=some (.string ev.k):=by rw[lG];exact aJ uP.o 0
   have g1:w4.cell? ⟨gb,1,none⟩=some (.int .i64 ev.a):=by rw[lG];exact aJ uP.o 1
   have g2:w4.cell? ⟨gb,2,none⟩=some (.int .i64 ev.b):=by rw[lG];exact aJ uP.o 2
   have o1:w4.cell? ⟨go,1,none⟩=some (.int .i64 o.op):=by rw[lG];exact aJ uI.o.bo 1
   have HV:=aC hv;clear uI uP hv;clear lG
   go_wp2_with ((go_at_call 19;refine(zoD ev o.op _ hop).mono ?_;rintro e w' ⟨rfl,mI⟩))
   refine cV.o _ _ ?_;clear cV;clear g0 g1 g2 o1;have zcl:=aC (zbc.o.below mI);clear mI zbc;refine BO.cond cY (t:=true) rfl (by first|rfl|simp[vW,HV.o]) ?_;refine BO.seq cY ?_;refine BO.pV mG cY tK (λw6 T6 o5 Q' cV=>?_);have zii:=aC (show oH wB lo go ge n c (some ⟨be,oe,none⟩) o es w6 by rw[o5];exact zcl.o.tp T6 0);clear zcl;clear o5;go_wp2;refine cV.o _ _ ?_;clear cV;refine BO.ret cY ?_;exact P7 _ _ _ rfl zii.o (zxQ No.o HV.o)
end
variable {w w':aE}
theorem zkV (h:w'.heap=w.heap)(ht:uQ w):uQ w':=by
 unfold uQ zft zd3 at*;rw[h];exact ht
variable {lo:Nat}{w1:aE}
theorem Al.of (h:uQ w)(dY:w.heap.size<=lo)(hs:lo<=w1.heap.size)(k:∀b,b<w.heap.size->w1.heap[b]? =w.heap[b]?):Al lo w1:=λw' hw=>by
 have hz:w.heap.size<=w'.heap.size:=by
  rcases nM w'.heap.size w.heap.size with h'|h'
  .have e1:=hw w'.heap.size aD
   rw[k _ h',Array.getElem?_eq_none (aZ _),nA h'] at e1;cases e1
  .exact h'
 have hb:bU w.heap.size w {w' with os:=w.os,tape:=w.tape,output:=w.output}:=⟨rfl,rfl,rfl,hz,λb hb=>(hw b aD).trans (k b hb)⟩;exact zkV (w:={w' with os:=w.os,tape:=w.tape,output:=w.output}) rfl (zin h _ hb)
def eM (s:Nat):fC:=⟨.slice none 0 0,.slice none 0 0,.slice none 0 0,.slice none 0 0,.slice none 0 0,.slice none 0 0,.slice none 0 0,s,s+1,s+2,[],[],[]⟩
variable {b:Nat}
def znD {x:Obj}(h:w.heap[b]? =some x)(o:Obj):(w.alloc o).heap[b]? =some x:=(bU.heap_alloc w o b (dM.1 h).1).trans h
theorem zDk (dY:lo<=w.heap.size)(o:jE)(w5:aE)(h5:w5=((((w.alloc (.map #[] 0)).alloc (.map #[] 0)).alloc (.map #[] 0)).alloc (J9 (eM w.heap.size) ⟨l6 o,[],[],[]⟩)).alloc (.cells #[.pointer (some ⟨w.heap.size+3,0,none⟩)] 45)):
 bE w5 lo (w.heap.size+3) (eM w.heap.size) ⟨l6 o,[],[],[]⟩/\w5.heap[w.heap.size+4]? =some (.cells #[.pointer (some ⟨w.heap.size+3,0,none⟩)] 45)/\some (w.heap.size+4)∉parts (eM w.heap.size) (w.heap.size+3)/\bU w.heap.size w w5:=by
 obtain⟨a1,Ag⟩:=aU (w.alloc (.map #[] 0));obtain⟨a2,zcp⟩:=aU (a1.alloc (.map #[] 0));obtain⟨a3,Yd⟩:=aU (a2.alloc (.map #[] 0));obtain⟨a4,Qw⟩:=aU (a3.alloc (J9 (eM w.heap.size) ⟨l6 o,[],[],[]⟩));rw[<-Ag,<-zcp,<-Yd,<-Qw] at h5;have z1:a1.heap.size=w.heap.size+1:=by rw[Ag];exact qS _ _
 have z2:a2.heap.size=w.heap.size+2:=by rw[zcp,qS,z1]
 have z3:a3.heap.size=w.heap.size+3:=by rw[Yd,qS,z2]
 have z4:a4.heap.size=w.heap.size+4:=by rw[Qw,qS,z3]
 have z5:w5.heap.size=w.heap.size+5:=by rw[h5,qS,z4]
 have k1:a1.heap[w.heap.size]? =some (.map #[] 0):=by rw[Ag];exact D3 _ _
 have k2:a2.heap[w.heap.size+1]? =some (.map #[] 0):=by rw[zcp,<-z1];exact D3 _ _
 have k3:a3.heap[w.heap.size+2]? =some (.map #[] 0):=by rw[Yd,<-z2];exact D3 _ _
 have k4:a4.heap[w.heap.size+3]? =some (J9 (eM w.heap.size) ⟨l6 o,[],[],[]⟩):=by rw[Qw,<-z3];exact D3 _ _
 have k5:w5.heap[w.heap.size+4]? =some (.cells #[.pointer (some ⟨w.heap.size+3,0,none⟩)] 45):=by rw[h5,<-z4];exact D3 _ _
 have u:∀{x y:aE} {b:Nat} {ob q:Obj},y=x.alloc q->x.heap[b]? =some ob->y.heap[b]? =some ob:=λe h=>by rw[e];exact znD h _
 have m1:w5.heap[w.heap.size]? =some (.map #[] 0):=u h5 (u Qw (u Yd (u zcp k1)));have m2:w5.heap[w.heap.size+1]? =some (.map #[] 0):=u h5 (u Qw (u Yd k2));have m3:w5.heap[w.heap.size+2]? =some (.map #[] 0):=u h5 (u Qw k3);have m4:w5.heap[w.heap.size+3]? =some (J9 (eM w.heap.size) ⟨l6 o,[],[],[]⟩):=u h5 k4;have pp:∀(i b:Nat),(parts (eM w.heap.size) (w.heap.size+3))[i]? =some (some b)->(i=0/\b=w.heap.size+3)\/(i=2/\b=w.heap.size)\/(i=3/\b=w.heap.size+1)\/(i=8/\b=w.heap.size+2):=λi b h=>by
  unfold parts eM at h;rcases i with _|_|_|_|_|_|_|_|_|_|_|i<;>simp[aF.ownBlock] at h<;>omega
 refine⟨⟨m4,⟨aD,dY,by show lo<=w.heap.size+1;omega,by show lo<=w.heap.size+2;omega⟩,⟨rfl,.inl ⟨rfl,rfl⟩⟩,⟨rfl,.inl ⟨rfl,rfl⟩⟩,⟨rfl,.inl ⟨rfl,rfl⟩⟩,⟨rfl,.inl ⟨rfl,rfl⟩⟩,⟨rfl,.inl ⟨rfl,rfl⟩⟩,⟨rfl,.inl ⟨rfl,rfl⟩⟩,⟨rfl,.inl ⟨rfl,rfl⟩⟩,⟨_,_,m1,rfl⟩,⟨_,_,m2,rfl⟩,⟨_,_,m3,rfl⟩,λi j b hi hj=>?_⟩,k5,λhp=>?_,?_⟩
 .have:=pp i b hi;have:=pp j b hj;omega
 .obtain⟨i,hi⟩:=List.mem_iff_getElem?.1 hp
  have:=pp i _ hi;omega
 .subst h5;subst Qw;subst Yd;subst zcp;subst Ag
  exact dO (dO (dO (dO (dO (eR _ _) _) _) _) _) _
def Gq:Go.Code:=.seq (.seq ziH (.block 4 (.loop (.seq zhP (.seq (.cond (.tmp 54) .skip (.exit 4)) (.seq (.block 5 (.seq zbg (.seq Nt (.seq Se Sn)))) zhn)))))) (.seq Yf (.seq Vt (.seq Wj (.seq S6 .ret))))
section
variable {Post:aF->aE->Prop}{Shun:Loc->Prop}{W0:aE}{St:Nat->Prop}{R0:Pr}{base:List dE}{K:Pr}{wB:aE}{lo go ge n c:Nat}{A:Option bO}{o:jE}{es:List dG}
theorem zC7 (Ci:qY o=true)(hgo:∀K' w v ln hb gh u0 u1 u4 u5 u6 u8 u9 gH fY gA fW fX gC u16 gQ j6 kJ jG gU iB gM gN gX gP hY iF iA iZ jA u32 iD gO gT gY j7 j9 iC gZ gS iT iQ iH iO iI iG iR iP iK iL l5 l8 kS kO kD j5 kC kM kI jU jX jQ u64 jP jR jZ jY kN kG kL jS,K.le K'->oC wB lo go ge n c A o es hb gh ln [] v w->(ln.length:Int)=o.ln->BO (Hx Post Shun W0 St R0 base K') () ⟨13,#[u0,u1,.pointer (some ⟨go,0,none⟩),.pointer (some ⟨ge,0,none⟩),u4,u5,u6,.pointer (some ⟨gh,0,none⟩),u8,u9,gH,fY,gA,fW,fX,gC,u16,gQ,j6,kJ,jG,gU,iB,gM,gN,gX,gP,hY,iF,iA,iZ,jA,u32,iD,gO,gT,gY,j7,j9,iC,gZ,gS,iT,iQ,iH,iO,iI,iG,iR,iP,iK,iL,l5,l8,kS,kO,kD,j5,kC,kM,kI,jU,jX,jQ,u64,jP,jR,jZ,jY,kN,kG,kL,jS],[.code (.seq Mg Gq)],false⟩ w){w:aE}{u0 u1 u5 u6 u7 u8 u9 gH fY gA fW fX gC u16 gQ j6 kJ jG gU iB gM gN gX gP hY iF iA iZ jA u32 iD gO gT gY j7 j9 iC gZ gS iT iQ iH iO iI iG iR iP iK iL l5 l8 kS kO kD j5 kC kM kI jU jX jQ u64 jP jR jZ jY kN kG kL jS:aF}(hE:oH wB lo go ge n c A o es w):
 BO (Hx Post Shun W0 St R0 base K) () ⟨13,#[u0,u1,.pointer (some ⟨go,0,none⟩),.pointer (some ⟨ge,0,none⟩),.pointer none,u5,u6,u7,u8,u9,gH,fY,gA,fW,fX,gC,u16,gQ,j6,kJ,jG,gU,iB,gM,gN,gX,gP,hY,iF,iA,iZ,jA,u32,iD,gO,gT,gY,j7,j9,iC,gZ,gS,iT,iQ,iH,iO,iI,iG,iR,iP,iK,iL,l5,l8,kS,kO,kD,j5,kC,kM,kI,jU,jX,jQ,u64,jP,jR,jZ,jY,kN,kG,kL,jS],[.code (.seq rRH9 (.seq (.seq zl0 (.block 2 (.loop Ya))) (.seq Mg Gq)))],false⟩ w:=by
 have rB:=Ci;have HE:=aC hE;have HO:=aC Ci;clear hE Ci rB;refine BO.seq cY ?_;refine BO.pV mG cY tK (λw1 T1 eT Q' cV=>?_);have cJ:=aC (show oH wB lo go ge n c A o es w1 by rw[eT];exact HE.o.tp T1 0);clear HE;have g0:w1.cell? ⟨go,0,none⟩=some (.int .i64 o.ln):=aJ cJ.o.bo 0;have g1:w1.cell? ⟨go,1,none⟩=some (.int .i64 o.op):=aJ cJ.o.bo 1;have g2:w1.cell? ⟨go,2,none⟩=some (.int .i64 o.pt):=aJ cJ.o.bo 2;have L4:=@run_makeMap aK;clear eT;go_wp2;refine cV.o _ _ ?_;clear cV;clear g0 g1 g2 L4;obtain⟨w5,nU⟩:=aU (((((w1.alloc (.map #[] 0)).alloc (.map #[] 0)).alloc (.map #[] 0)).alloc (J9 (eM w1.heap.size) ⟨l6 o,[],[],[]⟩)).alloc (.cells #[.pointer (some ⟨w1.heap.size+3,0,none⟩)] 45));obtain⟨n1,n2,n3,n4⟩:=zDk cJ.o.lo_ o w5 nU;have HR:=aC (show oC wB lo go ge n c A o es (w1.heap.size+3) (w1.heap.size+4) [] [] (eM w1.heap.size) w5 from⟨cJ.o.below n4,n1,⟨rfl,rfl,rfl⟩,Pq,(λx hx=>by cases hx),n2,n3,(by have:=cJ.o.lo_;omega)⟩);clear n1 n2 n3 n4;simp only[Nat.add_assoc,Nat.reduceAdd];have o5:=nU;simp only[J9,zvg,eM,l6] at o5;rw[<-o5];clear nU o5 cJ;refine BO.seq cY ?_;refine BO.seq cY ?_;generalize w1.heap.size+3=hb at HR⊢;generalize w1.heap.size+4=gh at HR⊢;generalize eM w1.heap.size=v at HR;refine BO.pV mG cY tK (λw6 T2 o5 Q' cV=>?_);have lF:=aC (show oC wB lo go ge n c A o es hb gh [] [] v w6 by rw[o5];exact HR.o.tp T2 0);clear HR;have g0:w6.cell? ⟨go,0,none⟩=some (.int .i64 o.ln):=aJ lF.o.e.bo 0;clear o5;go_wp2;refine cV.o _ _ ?_;clear cV;clear g0;refine BO.block cY ?_;refine BO.loop cY ?_;have rB:=HO.o;unfold qY at rB;have rB:=of_decide_eq_true rB;refine zEZ (wB:=wB) rB.2.1 K (λK' w' v' ln u0 u1 u4 u5 u6 u8 u9 gH fY gA fW fX gC u16 gQ j6 kJ jG gU iB gM gN gX gP hY iF iA iZ jA u32 iD gO gT gY iC gZ gS iT iQ iH iO iI iG iR iP iK iL l5 l8 kS kO kD j5 kC kM kI jU jX jQ u64 jP jR jZ jY kN kG kL jS hK hR hl=>?_) o.ln.toNat 0 aD K w6 v [] _ _ _ _ _ _ _ _ _ _ _ _ _ _ _ _ _ _ _ _ _ _ _ _ _ _ _ _ _ _ _ _ _ _ _ _ _ _ _ _ _ _ _ _ _ _ _ _ _ _ _ _ _ _ _ _ _ _ _ _ _ _ _ _ _ _ _ _ (vY _) lF.o rfl;exact hgo K' w' v' ln hb gh _ _ _ _ _ _ _ _ _ _ _ _ _ _ _ _ _ _ _ _ _ _ _ _ _ _ _ _ _ _ _ _ _ _ _ _ _ _ _ _ _ _ _ _ _ _ _ _ _ _ _ _ _ _ _ _ _ _ _ _ _ _ _ _ _ _ _ _ _ _ hK hR hl
end
def OldB (w w':aE):Prop:=w.heap.size<=w'.heap.size/\∀b,b<w.heap.size->w'.heap[b]? =w.heap[b]?
variable {wB:aE}{ge:Nat}{A:Option bO}{o:jE}{es:List dG}
def oH.oldB {go n c:Nat}(h:oH wB lo go ge n c A o es w1)(dY:w.heap.size<=lo)(k:∀b,b<w.heap.size->wB.heap[b]? =w.heap[b]?):OldB w w1:=
 ⟨eP dY h.lo_,λb hb=>(h.old b (lA hb dY)).trans (k b hb)⟩
section
variable {Post:aF->aE->Prop}{Shun:Loc->Prop}{W0:aE}{St:Nat->Prop}{R0:Pr}{base:List dE}{K:Pr}{n c:Nat}{A:Option bO}{o:jE}{es:List dG}
theorem zA0 {w:aE}(G3:cG w 0 w.heap.size 3 A n c (lW es))(hn:n<=1048576)(ztU:uQ w)
 (P7:∀(T:Array aF) todo w',T.getD 4 aA=.pointer none->OldB w w'->jV o es=false->BO (Hx Post Shun W0 St R0 base K) () ⟨13,T,todo,true⟩ w')
 (hgo:∀wB lo go ge K' w' v ln hb gh u0 u1 u4 u5 u6 u8 u9 gH fY gA fW fX gC u16 gQ j6 kJ jG gU iB gM gN gX gP hY iF iA iZ jA u32 iD gO gT gY j7 j9 iC gZ gS iT iQ iH iO iI iG iR iP iK iL l5 l8 kS kO kD j5 kC kM kI jU jX jQ u64 jP jR jZ jY kN kG kL jS,K.le K'->jV o es=true->w.heap.size<=lo->w.heap.size<=go->w.heap.size<=ge->(∀b,b<w.heap.size->wB.heap[b]? =w.heap[b]?)->oC wB lo go ge n c A o es hb gh ln [] v w'->(ln.length:Int)=o.ln->BO (Hx Post Shun W0 St R0 base K') () ⟨13,#[u0,u1,.pointer (some ⟨go,0,none⟩),.pointer (some ⟨ge,0,none⟩),u4,u5,u6,.pointer (some ⟨gh,0,none⟩),u8,u9,gH,fY,gA,fW,fX,gC,u16,gQ,j6,kJ,jG,gU,iB,gM,gN,gX,gP,hY,iF,iA,iZ,jA,u32,iD,gO,gT,gY,j7,j9,iC,gZ,gS,iT,iQ,iH,iO,iI,iG,iR,iP,iK,iL,l5,l8,kS,kO,kD,j5,kC,kM,kI,jU,jX,jQ,u64,jP,jR,jZ,jY,kN,kG,kL,jS],[.code (.seq Mg Gq)],false⟩ w'):
 BO (Hx Post Shun W0 St R0 base K) () ⟨13,#[.agg #[.int .i64 o.ln,.int .i64 o.op,.int .i64 o.pt],.slice A n c,aA,aA,aA,aA,aA,aA,aA,aA,aA,aA,aA,aA,aA,aA,aA,aA,aA,aA,aA,aA,aA,aA,aA,aA,aA,aA,aA,aA,aA,aA,aA,aA,aA,aA,aA,aA,aA,aA,aA,aA,aA,aA,aA,aA,aA,aA,aA,aA,aA,aA,aA,aA,aA,aA,aA,aA,aA,aA,aA,aA,aA,aA,aA,aA,aA,aA,aA,aA,aA,aA,aA],[.code n9],false⟩ w:=by
 have B7:es.length=n:=G3.eventsLen;have HS:=aC G3;have HT:=aC ztU;have HN:=aC B7;have HB:=aC hn;clear G3 ztU B7 hn;rw[show n9=.seq rRH0 (.seq (.seq rRH1 (.cond (.tmp 17) (.seq rRH2 .ret) .skip)) (.seq (.seq rRH3 (.block 0 (.loop zaa))) (.seq rRH9 (.seq (.seq zl0 (.block 2 (.loop Ya))) (.seq Mg Gq))))) from zDf];refine BO.seq cY ?_;refine BO.pV mG cY tK (λw1 T1 eT Q' cV=>?_);have Av:=aC (show OldB w w1 by rw[eT];exact⟨aZ _,λ_ _=>rfl⟩);have eE:w1.heap.size=w.heap.size:=by rw[eT];rfl
 clear eT;go_wp2;refine cV.o _ _ ?_;clear cV;obtain⟨wB,Xf⟩:=aU ((w1.alloc (.cells #[.int .i64 o.ln,.int .i64 o.op,.int .i64 o.pt] 27)).alloc (.cells #[.slice A n c] 29));have z0:(w1.alloc (.cells #[.int .i64 o.ln,.int .i64 o.op,.int .i64 o.pt] 27)).heap.size=w.heap.size+1:=by rw[qS,eE]
 have z1:wB.heap.size=w.heap.size+2:=by rw[Xf,qS,z0]
 have kB:∀b,b<w.heap.size->wB.heap[b]? =w.heap[b]? :=λb hb=>by
  rw[Xf,Dm aD,Dm aD];exact Av.o.2 b hb
 have HE:=aC (show oH wB (w.heap.size+2) w.heap.size (w.heap.size+1) n c A o es wB from⟨aD,Al.of HT.o aD aD kB,(HS.o.keep aD λb _ q _=>kB b q).wide (aZ _) aD,aD,aD,by
  rw[Xf,<-eE];exact znD (D3 _ _) _,by rw[Xf,<-z0];exact D3 _ _,λ_ _=>rfl⟩)
 simp only[eE];rw[<-Xf];have HK:=aC kB;clear Xf z0 z1 eE kB Av;have dY:w.heap.size<=w.heap.size+2:=aD;have zBi:w.heap.size<w.heap.size+2:=aD;generalize zc7:w.heap.size+2=lo at HE dY zBi⊢;generalize Zj:w.heap.size=go at HE⊢;generalize zIV:w.heap.size+1=ge at HE⊢;refine BO.seq cY ?_;refine BO.seq cY ?_;have zvC:ge=go+1:=aD;have zLs:go<=ge:=aD;rw[<-zvC] at HE⊢;clear zIV zvC;by_cases hv:qY o=true
 .by_cases za0:n<=60
  .have zE7:¬(60:Int)<(n:Int):=aD
   refine BO.pV mG cY tK (λw1 T1 eT Q' cV=>?_);have cJ:=aC (show oH wB lo go ge n c A o es w1 by rw[eT];exact HE.o.tp T1 0);have g0:w1.cell? ⟨go,0,none⟩=some (.int .i64 o.ln):=aJ cJ.o.bo 0;have g1:w1.cell? ⟨go,1,none⟩=some (.int .i64 o.op):=aJ cJ.o.bo 1;have g2:w1.cell? ⟨go,2,none⟩=some (.int .i64 o.pt):=aJ cJ.o.bo 2;have g3:w1.cell? ⟨ge,0,none⟩=some (.slice A n c):=aJ cJ.o.be 0;have HV:=aC hv;clear HE hv;clear eT
   go_wp2_with ((go_at_call 18;refine(zlM o _).mono ?_;rintro e w' ⟨rfl,mI⟩;have g4:w'.cell? ⟨ge,0,none⟩=some (.slice A n c):=aJ (cJ.o.below mI).be 0;rw[HV.o]))
   refine cV.o _ _ ?_;clear cV;clear g0 g1 g2 g3 g4;have mR:=aC (cJ.o.below mI);clear mI cJ;refine BO.cond cY (t:=false) rfl (show Nd (decide ((60:Int)<(n:Int)))=.bool false by rw[decide_eq_false aD]) ?_;refine BO.skip cY ?_;refine BO.seq cY ?_;refine BO.seq cY ?_;refine BO.pV mG cY tK (λw3 T3 iM Q' cV=>?_);have uI:=aC (show oH wB lo go ge n c A o es w3 by rw[iM];exact mR.o.tp T3 0);have g3:w3.cell? ⟨ge,0,none⟩=some (.slice A n c):=aJ uI.o.be 0;clear mR;clear iM;go_wp2;refine cV.o _ _ ?_;clear cV;clear g3;refine BO.block cY ?_;refine BO.loop cY ?_;have rB:=HV.o;unfold qY at rB;have rB:=of_decide_eq_true rB;refine zFx (wB:=wB) (lo:=lo) ⟨rB.2.2.1,rB.2.2.2.1⟩ za0 HN.o (λT todo w2 hT zhN zmH=>?_) (λw2 jG u0 u1 u5 u6 u7 u8 u9 gH fY gA fW fX gC u16 gQ gU iB gM gN gX gP hY iF iA iZ jA u32 iD gO gT gY j7 j9 iC gZ gS iT iQ iH iO iI iG iR iP iK iL l5 l8 kS kO kD j5 kC kM kI jU jX jQ u64 jP jR jZ jY kN kG kL jS zhN zmH=>?_) n 0 aD w3 _ _ _ _ _ _ _ _ _ _ _ _ _ _ _ _ _ _ _ _ _ _ _ _ _ _ _ _ _ _ _ _ _ _ _ _ _ _ _ _ _ _ _ _ _ _ _ _ _ _ _ _ _ _ _ _ _ _ _ _ _ _ _ _ _ _ _ uI.o (λj hj=>by omega)
   .refine P7 T todo w2 hT (zhN.oldB (Zj▸dY) (λb hb=>HK.o b (Zj▸hb))) ?_
    unfold jV;rw[zmH,Bool.and_false]
   .refine zC7 HV.o (λK' w' v ln hb gh u0 u1 u4 u5 u6 u8 u9 gH fY gA fW fX gC u16 gQ j6 kJ jG gU iB gM gN gX gP hY iF iA iZ jA u32 iD gO gT gY j7 j9 iC gZ gS iT iQ iH iO iI iG iR iP iK iL l5 l8 kS kO kD j5 kC kM kI jU jX jQ u64 jP jR jZ jY kN kG kL jS hK hR hl=>hgo wB lo go ge K' w' v ln hb gh _ _ _ _ _ _ _ _ _ _ _ _ _ _ _ _ _ _ _ _ _ _ _ _ _ _ _ _ _ _ _ _ _ _ _ _ _ _ _ _ _ _ _ _ _ _ _ _ _ _ _ _ _ _ _ _ _ _ _ _ _ _ _ _ _ _ _ _ _ _ hK ?_ (Zj▸dY) aD aD (λb hb=>HK.o b (Zj▸hb)) hR hl) zhN
    unfold jV;rw[HV.o,zmH,HN.o];simp[za0]
  .have zE7:(60:Int)<(n:Int):=aD
   have dB:jV o es=false:=by
    unfold jV;rw[HN.o];simp[za0]
   refine BO.pV mG cY tK (λw1 T1 eT Q' cV=>?_);have cJ:=aC (show oH wB lo go ge n c A o es w1 by rw[eT];exact HE.o.tp T1 0);have g0:w1.cell? ⟨go,0,none⟩=some (.int .i64 o.ln):=aJ cJ.o.bo 0;have g1:w1.cell? ⟨go,1,none⟩=some (.int .i64 o.op):=aJ cJ.o.bo 1;have g2:w1.cell? ⟨go,2,none⟩=some (.int .i64 o.pt):=aJ cJ.o.bo 2;have g3:w1.cell? ⟨ge,0,none⟩=some (.slice A n c):=aJ cJ.o.be 0;have HV:=aC hv;clear HE hv;clear eT
   go_wp2_with ((go_at_call 18;refine(zlM o _).mono ?_;rintro e w' ⟨rfl,mI⟩;have g4:w'.cell? ⟨ge,0,none⟩=some (.slice A n c):=aJ (cJ.o.below mI).be 0;rw[HV.o]))
   refine cV.o _ _ ?_;clear cV;clear g0 g1 g2 g3 g4;have mR:=aC (cJ.o.below mI);clear mI cJ;refine BO.cond cY (t:=true) rfl rfl ?_;refine BO.seq cY ?_;refine BO.pV mG cY tK (λw3 T3 iM Q' cV=>?_);have uI:=aC (show oH wB lo go ge n c A o es w3 by rw[iM];exact mR.o.tp T3 0);clear mR;clear iM;go_wp2;refine cV.o _ _ ?_;clear cV;refine BO.ret cY ?_;exact P7 _ _ _ rfl zwf dB
 .have dB:jV o es=false:=by
   unfold jV;simp[hv]
  have hv:qY o=false:=by simpa using hv
  refine BO.pV mG cY tK (λw1 T1 eT Q' cV=>?_);have cJ:=aC (show oH wB lo go ge n c A o es w1 by rw[eT];exact HE.o.tp T1 0);have g0:w1.cell? ⟨go,0,none⟩=some (.int .i64 o.ln):=aJ cJ.o.bo 0;have g1:w1.cell? ⟨go,1,none⟩=some (.int .i64 o.op):=aJ cJ.o.bo 1;have g2:w1.cell? ⟨go,2,none⟩=some (.int .i64 o.pt):=aJ cJ.o.bo 2;have g3:w1.cell? ⟨ge,0,none⟩=some (.slice A n c):=aJ cJ.o.be 0;have HV:=aC hv;clear HE hv;clear eT
  go_wp2_with ((go_at_call 18;refine(zlM o _).mono ?_;rintro e w' ⟨rfl,mI⟩;have g4:w'.cell? ⟨ge,0,none⟩=some (.slice A n c):=aJ (cJ.o.below mI).be 0;rw[HV.o]))
  refine cV.o _ _ ?_;clear cV;clear g0 g1 g2 g3 g4;have mR:=aC (cJ.o.below mI);clear mI cJ;refine BO.cond cY (t:=true) rfl rfl ?_;refine BO.seq cY ?_;refine BO.pV mG cY tK (λw3 T3 iM Q' cV=>?_);have uI:=aC (show oH wB lo go ge n c A o es w3 by rw[iM];exact mR.o.tp T3 0);clear mR;clear iM;go_wp2;refine cV.o _ _ ?_;clear cV;refine BO.ret cY ?_;exact P7 _ _ _ rfl zwf dB
end
def xT:Nat->Bool:=λa=>At aK a
def xQ (gq:Nat):Nat->Bool:=λa=>a==gq||At aK a
def Jh (w00:aE)(K R:Pr)(St eD:Nat->Prop)(Fz:Nat->Prop)(Wf:aE)(Xa:Nat->Prop):Prop:=
 ∀(K' R':Pr) (wn Wn:aE),K.le K'->R.le R'->cT (SF fZ) K' R' (oR aK) eD wn Wn->(∀b,Fz b->Wn.heap[b]? =Wf.heap[b]?)->
  ∃U3,cT (SF fZ) K' R' (oR aK) St U3 Wn/\U3.heap.size=wn.heap.size/\(∀a,¬Xa a->U3.heap[a]? =wn.heap[a]?)/\∀a,xT a=true->U3.heap[a]? =w00.heap[a]?
variable {K R:Pr}{St:Nat->Prop}
theorem Jh.first {W:aE}(hw:cT (SF fZ) K R (oR aK) St w W)(hx:XOk R xT w):Jh w K R St (λa=>St a\/xT a=true) (Fp R St xT) W (λa=>xT a=true):=λK' R' wn Wn hK hR hn mH=>by
 have h1:=zrD (St':=λa=>St a\/xT a=true) hw hx hR hK hn (λa h=>.inl h) (λa b zbB qE=>mH b ⟨a,qE,.inr zbB⟩);refine⟨_,h1,zde _ _ _,λa ha=>Ul (by simpa using ha),λa ha=>?_⟩;obtain⟨b,hb⟩:=hx.dom a ha;obtain⟨c,T,fz,hc⟩:=hx.cells a ha;rw[zdm ha (hn.lt a b (.inl (hR _ _ hb))).1 hc,hc]
variable {eD:Nat->Prop}{X:Nat->Bool}
theorem Jh.step {w00 W Wf:aE}{K2 R2:Pr}{Fz Xa:Nat->Prop}(h:Jh w00 K R St eD Fz Wf Xa)(hK:K.le K2)(hR:R.le R2)(hw:cT (SF fZ) K2 R2 (oR aK) eD w W)(hx:XOk R2 X w)(hF:∀b,Fz b->W.heap[b]? =Wf.heap[b]? /\∃a,R2 a b/\eD a):
 Jh w00 K2 R2 St (λa=>eD a\/X a=true) (Fp R2 eD X) W (λa=>Xa a\/X a=true):=λK' R' wn Wn rI zuv hn mH=>by
 have h1:=zrD (St':=λa=>eD a\/X a=true) hw hx zuv rI hn (λa h=>.inl h) (λa b zbB qE=>mH b ⟨a,qE,.inr zbB⟩)
 obtain⟨U3,k1,k2,k3,k4⟩:=h K' R' _ Wn (vS hK rI) (hR.trans zuv) h1 (λb hb=>by
  obtain⟨e,a,x,y⟩:=hF b hb;exact(mH b ⟨a,x,.inl y⟩).trans e)
 refine⟨U3,k1,k2.trans (zde _ _ _),λa ha=>?_,k4⟩;rw[k3 a (λx=>ha (.inl x)),Ul (by cases e:X a with|false=>rfl|true=>exact absurd (.inr e) ha)]
theorem zDa (h:X b=true->∃c T hi,w.heap[b]? =some (.cells c T (0,hi))/\c.size<=hi):(uN X w).heap[b]? =w.heap[b]? :=by
 cases e:X b with
 |false=>exact Mx e
 |true=>
  obtain⟨c,T,hi,h1,h2⟩:=h e;rw[P3 e h1,h1];simp only[Nat.max_eq_right h2]
theorem zHQ {o:Nat}{v:aF}(hc:X b=true->∃c T fz,w.heap[b]? =some (.cells c T fz))(h:w.cell? ⟨b,o,none⟩=some v):(uN X w).cell? ⟨b,o,none⟩=some v:=by
 cases e:X b with
 |false=>exact(aE.cell?_of_block (a:=⟨b,o,none⟩) (Mx e)).trans h
 |true=>
  obtain⟨c,T,fz,hc⟩:=hc e;have e1:w.cell? ⟨b,o,none⟩=c[o]? :=by simp[kY,hc]
  have e2:(uN X w).cell? ⟨b,o,none⟩=c[o]? :=by simp[kY,P3 e hc]
  rw[e2,<-e1];exact h
def zDu:((aK.globalNamed "internal/strconv.uint64pow10").map λg=>At aK g)=some true:=aS
theorem zx2 (h:uQ w)(hx:∀a,xT a=true->X a=true)(hc:∀a,xT a=true->∃c T fz,w.heap[a]? =some (.cells c T fz))(hw:∀a,xT a=true->w'.heap[a]? =(uN X w).heap[a]?):uQ w':=by
 obtain⟨g,hg,bV⟩:=wM.1 zDu;obtain⟨c,T,fz,Jj⟩:=hc g bV;unfold uQ zft zd3 at*;rw[hg] at h⊢;simp only[xI] at h⊢;rw[Jj] at h;rw[hw g bV,P3 (hx g bV) Jj];exact h
variable {v:fC}{ln qn:List Nat}
theorem oC.frT {go n c hb gh lo0:Nat}(h:oC wB lo go ge n c A o es hb gh ln qn v w)(hgo:lo0<=go)(B8:lo0<=ge)(dY:lo0<=lo)(ht:∀a,xT a=true->a<lo0)(hc:∀a,xT a=true->∃c T fz,w.heap[a]? =some (.cells c T fz)):oC (uN xT w) lo go ge n c A o es hb gh ln qn v (uN xT w):=by
 have out:∀b,lo0<=b->(uN xT w).heap[b]? =w.heap[b]? :=λb hb=>Mx (by
  cases e:xT b with
  |false=>rfl
  |true=>have:=ht b e;omega)
 have nT:xT gh=false:=by
  cases e:xT gh with
  |false=>rfl
  |true=>have:=ht gh e;have:=h.ghl;omega
 refine⟨⟨by rw[Sq];exact h.e.lo_,λw' hw=>zx2 h.e.tab.at_ (λa h=>h) hc λa ha=>hw a (lA (ht a ha) dY),?_,h.e.gol,h.e.gel,(out _ hgo).trans h.e.bo,(out _ B8).trans h.e.be,λ_ _=>rfl⟩,h.at_.keep λb hb hp=>out b (by have:=(h.at_.lt b hp).1;omega),h.mp,h.nd,λx hx=>by rw[Sq];exact h.lt x hx,(Mx nT).trans h.bh,h.nh,h.ghl⟩;refine⟨h.e.ev.len,h.e.ev.le,h.e.ev.cap,λhn=>?_⟩;obtain⟨b,off,e,h1,h2,h3,h4⟩:=h.e.ev.at_ hn;exact⟨b,off,e,h1,h2,by rw[Sq];exact h3,λj v hv=>zHQ (λx=>hc b x) (h4 j v hv)⟩
variable {gq a:Nat}
theorem Z1 (h:xQ gq a=true):a=gq\/xT a=true:=by
 unfold xQ at h;simp only[Dq,beq_iff_eq] at h;exact h
theorem xQ_q (gq:Nat):xQ gq gq=true:=by simp[xQ]
theorem xQ_t (h:xT a=true):xQ gq a=true:=by
 unfold xQ xT at*;rw[h,Bool.or_true]
theorem zG9 (a b:aF):(#[]++ #[a,b])++nD ((zoF).ntmps-(#[]++ #[a,b]:Array aF).size) aA=(#[a,b,aA,aA]:Array aF):=by
 have e:(zoF).ntmps=4:=rfl;rw[e];have e:(#[]++ #[a,b]:Array aF).size=2:=aQ;rw[e];apply Jr;simp only[N5,zgG];rfl
def Fh (w:aE):Prop:=∀g,xT g=true->∃c T fz,w.heap[g]? =some (.cells c T fz)/\∀v∈c,vH v
variable {τ:cE}{Wr:aE}{gt t:Array aF}
theorem zyn {Wg N:Nat}{W:List fE}{D:aE->Prop}{Fin:Goroutine->aE->Prop}{gc m:Nat}(hw:cT (SF fZ) K R (oR aK) eD w Wr)(hx:XOk R (xQ gq) w)(zbS:K gc a)(dB:∀b,¬R b a)
 (hq:w.heap[gq]? =some (.cells #[.chan (some gc)] 72)) (Ev:Fh w) (ha:bK (SF fZ) K R gt t) (zHD:gt[9]? =some (.pointer (some ⟨gq,0,none⟩))) (h8:t.getD 8 aA=.pointer (some ⟨Wg,0,none⟩)) (zD3:Wg<Wr.heap.size) (zEj:∀a b,R a b->b≠Wg) (mP:WgLive rC.tWg Wg Wr):
 bZ aK rC.tWg Wg (Au N W D) Fin false (.usr (.op a 0 m)) 0 (Vs τ R (xQ gq)) (born aK {target:=.fn (.func 21) #[t.getD 8 aA,t.getD 9 aA],args:=#[]}) Wr:=by
 refine L3 rfl rfl (λaV s=>zr8 (c:=Xt) Tryd.func21 aH rfl aV) λaV s=>?_;have Bn:∀b,¬R gc b:=λb x=>by
  obtain rfl:=hw.inj gc b a (.inl x) (.inr zbS);exact dB _ x
 have mF:∀a c T fz,xQ gq a=true->w.heap[a]? =some (.cells c T fz)->∀v∈c,wF (λa=>xQ gq a=true) (λa=>a=gc) v:=λa c T fz zbB hc v hv=>by
  rcases Z1 zbB with rfl|zom
  .rw[hq] at hc
   injection hc with hc;injection hc with e1 _ _;subst e1;obtain rfl:=by simpa using hv
   exact .chan λx e=>by cases e;rfl
  .obtain⟨c',T',Im,h1,h2⟩:=Ev a zom
   rw[hc] at h1;injection h1 with h1;injection h1 with e1 _ _;subst e1;exact(h2 v hv).inX
 have hrel:=zBH hw hx (λg hg=>xQ_t hg) (KD:=λa=>a=gc) mF (λa b x e=>absurd (e▸x) (Bn b));have znS:uZ (Vs τ R (xQ gq)) (rX R (xQ gq)) (λa=>xQ gq a=true):=zHJ;have hv:(reX (xQ gq) w).cell? ⟨gq,0,none⟩=some (.chan (some gc)):=by
  simp[kY,zdG (xQ_q gq) hq]
 have hB:=zAw (Wg:=Wg) (N:=N) (W:=W) (D:=D) (Fin:=Fin) (St:=λa=>xQ gq a=true) (gc:=gc) (gv:=gq) (c:=a) (K:=kX K (λa=>a=gc)) ⟨zbS,rfl⟩ m hv;have Ty:=Cx.Rel.suf (C:=fR Wg N W D Fin (λa=>xQ gq a=true) (kX K (λa=>a=gc)) (λ_=>True) [vR aK] ⟨[],.deferred,aQ⟩ [(0,.pointer (some ⟨Wg,0,none⟩))]) hrel znS s;have rI:∀a b,R.or K a b->a=gc->(rX R (xQ gq)).or (kX K (λa=>a=gc)) a b:=λa b x e=>by
  rcases x with x|x
  .exact absurd (e▸x) (Bn b)
  .exact .inr ⟨x,e⟩
 have p9:VR (SF fZ) (kX K (λa=>a=gc)) (rX R (xQ gq)) (.pointer (some ⟨gq,0,none⟩)) (t.getD 9 aA):=by
  have h1:=ha.getD 9 (xD (S:=SF fZ) (K:=K) (R:=R));rw[tD,zHD] at h1;exact wF.vr h1 (λp q y z=>⟨y,z⟩) rI (.pointer λx e=>by cases e;exact xQ_q gq)
 rw[h8];generalize t.getD 9 aA=t9 at*;rw[zG9];have vu:=xD (S:=SF fZ) (K:=kX K (λa=>a=gc)) (R:=rX R (xQ gq));have hj:∀x,Tt.HidV x->VR (SF fZ) (kX K (λa=>a=gc)) (rX R (xQ gq)) .nilFunc x:=λx h=>.junk h;have:=hB (rX R (xQ gq)) aV ⟨21,#[.pointer (some ⟨Wg,0,none⟩),t9,aA,aA],[.code Xt],false⟩ (Vs τ R (xQ gq)) Ty ⟨rfl,rfl,rfl,?_,λx hx=>?_⟩ znS ⟨⟨⟨λa b x=>zEj a b x.1,by have:=s.size;omega⟩,s.live mP⟩,trivial⟩
 .exact this
 .exact zvj (.cons (hj _ Yi) (.cons p9 (.cons vu (.cons vu .nil))))
 .obtain rfl:=sC.1 hx
  rfl
theorem zIp (a b c:aF):(#[]++ #[a,b,c])++nD ((zwW).ntmps-(#[]++ #[a,b,c]:Array aF).size) aA=(#[a,b,c,aA,aA,aA]:Array aF):=by
 have e:(zwW).ntmps=6:=rfl;rw[e];have e:(#[]++ #[a,b,c]:Array aF).size=3:=aQ;rw[e];apply Jr;simp only[N5,zgG];rfl
theorem zyq {e:Fy}(H:e.d.Ok)(Bh:e.ty=rC.tWg){hb gh n c:Nat}{Q:Pr->Prop}(hQ:Up Q)(hq:Q R)
 (hw:cT (SF fZ) K R (oR aK) e.St w Wr) (hT:uZ τ R e.St) (hi:IQ e.W0 e.StI e.Shun e.Wg e.SS e.R0 e.Fz e.Wf e.qs [] R τ Wr) (mP:WgLive rC.tWg e.Wg Wr) (h:Y9 e o es ln qn lo hb v w K A n c) (hh:w.cell? ⟨gh,0,none⟩=some (.pointer (some ⟨hb,0,none⟩))) (he:w.cell? ⟨ge,0,none⟩=some (.slice A n c))
 (ha:bK (SF fZ) K R gt t) (zJx:gt[7]? =some (.pointer (some ⟨gh,0,none⟩))) (K3:gt[3]? =some (.pointer (some ⟨ge,0,none⟩))) (h8:t.getD 8 aA=.pointer (some ⟨e.Wg,0,none⟩))
 (sZ:∀K' R τ W w' v',K.le K'->Q R->cT (SF fZ) K' R (oR aK) e.St w' W->IQ e.W0 e.StI e.Shun e.Wg e.SS e.R0 e.Fz e.Wf e.qs [] R τ W->bE w' lo hb v' (rZ o es ln qn qn.length)->fT v' (rZ o es ln qn qn.length)->bL hb v w v' w'->e.D W):
 bZ aK rC.tWg e.Wg (Au e.N e.W e.D) e.Fin false (.usr (.wk e.qs 0)) 0 τ (born aK {target:=.fn (.func 24) #[t.getD 8 aA,t.getD 7 aA,t.getD 3 aA],args:=#[]}) Wr:=by
 refine L3 rfl rfl (λaV s=>zr8 (c:=Yz) Tryd.func24 aH rfl aV) λaV s=>?_;have hB:=zxL H Bh h hh he hQ sZ
 let C:=e.d.cx K Q [] [vR aK] ⟨[],.deferred,aQ⟩ [(0,.pointer (some ⟨e.Wg,0,none⟩))]
 have Ty:=Cx.Rel.suf (C:=C) hw hT (show bT C.ty C.Wg τ Wr aV by show bT e.ty _ _ _ _;rw[Bh];exact s);have y5:=(H.iok hQ (K:=K) (chs:=[]) (base:=[vR aK]) (ds:=⟨[],.deferred,aQ⟩) (pin:=[(0,.pointer (some ⟨e.Wg,0,none⟩))])).suf R τ Wr aV ⟨⟨hi,by show WgLive e.ty _ _;rw[Bh];exact mP⟩,hq⟩ (show bT C.ty C.Wg τ Wr aV by show bT e.ty _ _ _ _;rw[Bh];exact s);have p7:VR (SF fZ) K R (.pointer (some ⟨gh,0,none⟩)) (t.getD 7 aA):=by
  have h1:=ha.getD 7 (xD (S:=SF fZ) (K:=K) (R:=R));rw[tD,zJx] at h1;exact h1
 have p3:VR (SF fZ) K R (.pointer (some ⟨ge,0,none⟩)) (t.getD 3 aA):=by
  have h1:=ha.getD 3 (xD (S:=SF fZ) (K:=K) (R:=R));rw[tD,K3] at h1;exact h1
 rw[h8];generalize t.getD 7 aA=t7 at*;generalize t.getD 3 aA=t3 at*;rw[zIp];have vu:=xD (S:=SF fZ) (K:=K) (R:=R);have hj:∀x,Tt.HidV x->VR (SF fZ) K R .nilFunc x:=λx h=>.junk h;have:=hB R aV ⟨24,#[.pointer (some ⟨e.Wg,0,none⟩),t7,t3,aA,aA,aA],[.code Yz],false⟩ τ Ty ⟨rfl,rfl,rfl,?_,λx hx=>?_⟩ hT y5
 .rw[Cx.B_none (C:=C) rfl] at this
  have e2:C.ty=rC.tWg:=Bh;rw[e2] at this;exact this
 .exact zvj (.cons (hj _ Yi) (.cons p7 (.cons p3 (.cons vu (.cons vu (.cons vu .nil))))))
 .obtain rfl:=sC.1 hx
  rfl
end Go.Proofs.YtfcjiloojkjaeaaDoor
namespace Go.Mt
open Go.Conc Go.Tt
theorem zse:∀(n:Nat) (u:aF),Lj u<n->∃u',vH u'/\(∀(S:aN->Prop) (K R:Pr) (v:aF),VR S K R u v->VR S K R u' v)/\(Lx u->u'=u):=by
 intro n
 induction n with
 |zero=>intro u h;omega
 |succ n ih=>
  intro u hu;have pl:∀{x:aF},(∀k m,x≠ .int k m)->(∀s,x≠ .string s)->(∀b,x≠ .bool b)->∀{y:aF},Lx x->y=x:=λh1 h2 h3 y hx=>by
   rcases hx with⟨k,m,e⟩|⟨s,e⟩|⟨b,e⟩
   .exact absurd e (h1 _ _)
   .exact absurd e (h2 _)
   .exact absurd e (h3 _)
  have rows:∀xs:Array aF,Lj xs<n->∃us:Array aF,us.size=xs.size/\(∀(i:Nat) (u:aF),us[i]? =some u->vH u)/\∀(S:aN->Prop) (K R:Pr) (i:Nat) (u x v:aF),us[i]? =some u->xs[i]? =some x->VR S K R x v->VR S K R u v:=λxs hx=>by
   have hex:∀x,∃u,x∈xs->vH u/\∀(S:aN->Prop) (K R:Pr) (v:aF),VR S K R x v->VR S K R u v:=λx=>by
    by_cases hm:x∈xs
    .obtain⟨u,h1,h2,_⟩:=ih x (zkN (Array.sizeOf_lt_of_mem hm) hx)
     exact⟨u,λ_=>⟨h1,h2⟩⟩
    .exact⟨x,λh=>absurd h hm⟩
   refine⟨xs.map λx=>(hex x).choose,aQ,λi u h1=>?_,λS K R i u x v h1 h2 h3=>?_⟩
   .rw[xP] at h1
    cases h2:xs[i]? with
    |none=>rw[h2] at h1;cases h1
    |some v=>
     rw[h2] at h1;simp only[zP,fS] at h1;subst h1;exact((hex v).choose_spec (Py h2)).1
   .rw[xP,h2] at h1
    simp only[zP,fS] at h1;subst h1;exact((hex x).choose_spec (Py h2)).2 S K R v h3
  cases u with
  |bool b=>exact⟨_,.bool b,λS K R v h=>h,λ_=>rfl⟩
  |int k m=>exact⟨_,.int k m,λS K R v h=>h,λ_=>rfl⟩
  |string s=>exact⟨_,.string s,λS K R v h=>h,λ_=>rfl⟩
  |nilFunc=>exact⟨_,.nilFunc,λS K R v h=>h,λ_=>rfl⟩
  |nilIface=>exact⟨_,.nilIface,λS K R v h=>h,λ_=>rfl⟩
  |agg xs=>
   obtain⟨us,h1,h3,h2⟩:=rows xs (by simp at hu;omega);refine⟨.agg us,.agg h3,λS K R v h=>?_,pl (λ_ _ h=>by cases h) (λ_ h=>by cases h) (λ_ h=>by cases h)⟩
   cases h with
   | @agg _ bX e hh=>
    refine .agg (h1.trans e) λi a b ha hb=>?_;have hi:i<xs.size:=by rw[e];exact(dM.1 hb).1
    exact h2 S K R i a xs[i] b ha (nA hi) (hh i _ _ (nA hi) hb)
  |tuple xs=>
   obtain⟨us,h1,h3,h2⟩:=rows xs (by simp at hu;omega);refine⟨.tuple us,.tuple h3,λS K R v h=>?_,pl (λ_ _ h=>by cases h) (λ_ h=>by cases h) (λ_ h=>by cases h)⟩
   cases h with
   | @tuple _ bX e hh=>
    refine .tuple (h1.trans e) λi a b ha hb=>?_;have hi:i<xs.size:=by rw[e];exact(dM.1 hb).1
    exact h2 S K R i a xs[i] b ha (nA hi) (hh i _ _ (nA hi) hb)
  |_=>exact⟨.nilFunc,.nilFunc,λS K R v h=>.junk (by cases h<;>exact True.intro),pl (λ_ _ h=>by cases h) (λ_ h=>by cases h) (λ_ h=>by cases h)⟩
def cl (u:aF):Value:=(zse (Lj u+1) u (wL _)).choose
def zHy (u:aF):vH (cl u)/\(∀(S:aN->Prop) (K R:Pr) (v:aF),VR S K R u v->VR S K R (cl u) v)/\(Lx u->cl u=u):=(zse (Lj u+1) u (wL _)).choose_spec
end Go.Mt
namespace Go.Proofs.YtfcjiloojkjaeaaDoor
open Go.RowKit Go.Mt Go.Conc Go.Tt Go.Maps Go.Conc.Lib Go.ConcR.Gen
open Go.ConcR (KK wgBlock WgAt stA smA rd wr)
abbrev Ai (Shun:Loc->Prop)(Wg:Nat):Loc->Prop:=λl=>Shun l\/mY l Wg
abbrev finS (Post:aF->aE->Prop)(Shun:Loc->Prop)(Wg:Nat):Goroutine->aE->Prop:=λg w'=>J aK Post (Ai Shun Wg) w'.heap.size g w'
structure qK where
 Post:aF->aE->Prop
 Shun:Loc->Prop
 W0:aE
 St:Nat->Prop
 base:List dE
 K1:Pr
 R1:Pr
 w00:aE
 lo0:Nat
 lo:Nat
 go:Nat
 ge:Nat
 n:Nat
 c:Nat
 A:Option bO
 o:jE
 es:List dG
 hb:Nat
 gh:Nat
 ln:List Nat
 Wg:Nat
def qK.End (p:qK)(qn:List Nat)(v':fC)(w':aE):Prop:=
 bE w' p.lo p.hb v' (rZ p.o p.es p.ln qn qn.length)/\(∀b,b<p.lo0->w'.heap[b]? =p.w00.heap[b]?)/\p.lo<=w'.heap.size/\w'.heap[p.gh]? =some (.cells #[.pointer (some ⟨p.hb,0,none⟩)] 45)/\(qn.length:Int)=p.o.op
def qK.D (p:qK)(W:aE):Prop:=∃(K' R':Pr) (w':aE) (v':fC) (qn:List Nat),p.K1.le K'/\p.R1.le R'/\cT (SF fZ) K' R' (oR aK) p.St w' W/\Kp p.W0 R' p.St W/\Sh p.W0.heap.size (Ai p.Shun p.Wg) R' W/\p.End qn v' w'
def qK.N (p:qK):Nat:=p.o.op.toNat
def qK.cx (p:qK)(K:Pr)(eD:Nat->Prop)(SS:Nat->Prop)(R0:Pr)(Fz:Nat->Prop)(Wf:aE)(qs chs:List Nat):Cx gE:=
 {p:=aK,gs:=Bi,fs:=fZ,ty:=rC.tWg,Wg:=p.Wg,A:=Au p.N (By p.o p.es) p.D,Fin:=finS p.Post p.Shun p.Wg,main:=true,base:=p.base,ds:=.nil,K:=K,St:=eD,I:=yK rC.tWg p.Wg (IQ p.W0 p.St (Ai p.Shun p.Wg) p.Wg SS R0 Fz Wf qs chs),pin:=[(8,.pointer (some ⟨p.Wg,0,none⟩))]}
theorem zI3 {N:Nat}{W:List fE}{D:aE->Prop}{Wn:aE}(h:zcF (Au N W D) Wn):D Wn:=by
 obtain⟨q,ch,hi,h0,hr,hd⟩:=h
 cases hi with
 |a n qs ix l _ _ _ h _ _ _=>rw[h0] at h;cases h
 |b qs ix iw k _ _ hw _ _ h _ _ _=>
  rcases h with h|⟨_,h⟩
  .exact absurd h (hr iw _)
  .exact hd iw _ h
 |c qs ix iw k i kd cl ans a _ _ _ _ _ h _ _ _ _ _=>exact absurd h (hr iw _)
variable {S:aN->Prop}{K R:Pr}{t:Array aF}
theorem bK.forget {K' R':Pr}{g:Array aF}(h:bK S K R g t):bK S K' R' (g.map cl) t:=by
 refine⟨by rw[Array.size_map];exact h.1,λi v v' h1 h2=>?_⟩;rw[xP] at h1
 cases h3:g[i]? with
 |none=>rw[h3] at h1;cases h1
 |some u=>
  rw[h3] at h1;simp only[zP,fS] at h1;subst h1;obtain⟨c1,c2,_⟩:=zHy u;exact wF.vr (X:=λ_=>False) (KD:=λ_=>False) (c2 S K R v' (h.2 i u v' h3 h2)) (λp q y z=>z.elim) (λa b x e=>e.elim) c1.inX
variable {i:Nat}
theorem zBw (h:i<t.size):t.setIfInBounds i (t.getD i aA)=t:=by
 apply Array.ext_getElem?;intro j;rw[Array.getElem?_setIfInBounds];split
 .next e=>subst e;simp[h,tD]
 .rfl
def qK.After (p:qK):Prop:=∀(K' R':Pr) (w':aE) (v':fC) (qn:List Nat) (u0 u1 u2 u3 u4 u5 u6 u8 u9 gH fY gA fW fX gC u16 gQ j6 kJ jG gU iB gM gN gX gP hY iF iA iZ jA u32 iD gO gT gY j7 j9 iC gZ gS iT iQ iH iO iI iG iR iP iK iL l5 l8 kS kO kD j5 kC kM kI jU jX jQ u64 jP jR jZ jY kN kG kL jS:aF),p.K1.le K'->p.R1.le R'->p.End qn v' w'->BO (D6 aK Bi fZ p.Post (Ai p.Shun p.Wg) p.W0 p.St K' R' p.base) () ⟨13,#[u0,u1,u2,u3,u4,u5,u6,.pointer (some ⟨p.gh,0,none⟩),u8,u9,gH,fY,gA,fW,fX,gC,u16,gQ,j6,kJ,jG,gU,iB,gM,gN,gX,gP,hY,iF,iA,iZ,jA,u32,iD,gO,gT,gY,j7,j9,iC,gZ,gS,iT,iQ,iH,iO,iI,iG,iR,iP,iK,iL,l5,l8,kS,kO,kD,j5,kC,kM,kI,jU,jX,jQ,u64,jP,jR,jZ,jY,kN,kG,kL,jS],[.inRegion zcs [],.code (.seq S6 .ret)],false⟩ w'
variable {p:qK}{eD SS Fz:Nat->Prop}{R0:Pr}{Wf w:aE}{qs qn:List Nat}{v:fC}{gH fY gA fW fX gC u16 gQ j6 kJ jG gU iB gM gN gX gP hY iF iA iZ jA u32 iD gO gT gY j7 j9 iC gZ gS iT iQ iH iO iI iG iR iP iK iL kD j5 kC kM kI jU jX jQ u64 jP jR jZ jY kN kG kL jS:aF}
theorem zCA (zlI:p.After)(Du:∃b,p.R1 p.gh b)(hN:¬qs.length<p.N)(aX:∀a,p.St a->eD a)(vC:∀b,b<p.W0.heap.size->SS b)(hF:∀b,Fz b->SS b)(nL:p.W0.heap.size<=p.Wg)(zyE:p.R1.le R0)
 (cK:∀e:Fy,e.W=By p.o p.es->e.qs=qs->Y9 e p.o p.es p.ln qn p.lo p.hb v w K p.A p.n p.c) (hh:w.cell? ⟨p.gh,0,none⟩=some (.pointer (some ⟨p.hb,0,none⟩))) (he:w.cell? ⟨p.ge,0,none⟩=some (.slice p.A p.n p.c))
 (sZ:∀K' R τ W w' v',K.le K'->R0.le R->cT (SF fZ) K' R (oR aK) eD w' W->IQ p.W0 p.St (Ai p.Shun p.Wg) p.Wg SS R0 Fz Wf qs [] R τ W->bE w' p.lo p.hb v' (rZ p.o p.es p.ln qn qn.length)->fT v' (rZ p.o p.es p.ln qn qn.length)->bL p.hb v w v' w'->p.D W) {u0 u1 u2 u4 u5 u6 u9 l5 l8 kS kO:aF}:
 BO (p.cx K eD SS R0 Fz Wf qs []) (.mN qs) ⟨13,#[u0,u1,u2,.pointer (some ⟨p.ge,0,none⟩),u4,u5,u6,.pointer (some ⟨p.gh,0,none⟩),.nilFunc,u9,gH,fY,gA,fW,fX,gC,u16,gQ,j6,kJ,jG,gU,iB,gM,gN,gX,gP,hY,iF,iA,iZ,jA,u32,iD,gO,gT,gY,j7,j9,iC,gZ,gS,iT,iQ,iH,iO,iI,iG,iR,iP,iK,iL,l5,l8,kS,kO,kD,j5,kC,kM,kI,jU,jX,jQ,u64,jP,jR,jZ,jY,kN,kG,kL,jS],[.code (.seq Yf (.seq Vt (.seq Wj (.seq S6 .ret))))],false⟩ w:=by
 let C:=p.cx K eD SS R0 Fz Wf qs []
 have hI:fB C:=zmL (C:=C) rfl aX vC hF nL;have hX:=zdE (ty:=rC.tWg) (St:=p.St) (Shun:=Ai p.Shun p.Wg) (R0:=R0) (Fz:=Fz) (Wf:=Wf) (qs:=qs) (chs:=[]) vC hF nL;show BO C _ _ _;refine BO.seq hI ?_;rw[zzv];refine BO.regs hI _ zFR ?_;refine BO.add (C:=C) (Lk:=rC) (s:=8) (nx:=.mW qs) zbm rfl rfl rfl hI rfl hX zzZ rfl rfl (sC.2 rfl) (by intro s hs;cases hs;show(69:Nat)∉([8]:List Nat);decide) (by show eH p.N (By p.o p.es) (.mN qs)=_;simp[eH,hN]) ?_;simp only[b7,gK,dV,dX];refine BO.regEnd hI ?_;refine BO.seq hI ?_;rw[zAd];refine BO.regs hI _ zIv ?_;refine BO.go (C:=C) rfl hI zIz zC9 rfl rfl rfl rfl rfl rfl (lc:=.wk qs 0) (nx:=.mZ) (pub:=[]) rfl aQ λR W t τ hw ha C2 ht hi=>?_;have hw:cT (SF fZ) K R (oR aK) eD w W:=hw;have hi:yK rC.tWg p.Wg (IQ p.W0 p.St (Ai p.Shun p.Wg) p.Wg SS R0 Fz Wf qs []) R τ W:=hi;obtain⟨hi,mP⟩:=hi;have h8:t.getD 8 aA=.pointer (some ⟨p.Wg,0,none⟩):=C2 (8,.pointer (some ⟨p.Wg,0,none⟩)) (sC.2 rfl);have Wk:R0.le R:=hi.x.x.le;have ha:bK (SF fZ) K R #[u0,u1,u2,.pointer (some ⟨p.ge,0,none⟩),u4,u5,u6,.pointer (some ⟨p.gh,0,none⟩),.nilFunc,u9,gH,fY,gA,fW,fX,gC,u16,gQ,j6,kJ,jG,gU,iB,gM,gN,gX,gP,hY,iF,iA,iZ,jA,u32,iD,gO,gT,gY,j7,j9,iC,gZ,gS,iT,iQ,iH,iO,iI,iG,iR,iP,iK,iL,l5,l8,kS,kO,kD,j5,kC,kM,kI,jU,jX,jQ,u64,jP,jR,jZ,jY,.tuple #[],kG,kL,jS] t:=ha;have cH:t.size=73:=ha.1.symm;obtain⟨zFM,qX⟩:=Du;have h7:t.getD 7 aA=.pointer (some ⟨zFM,0,none⟩):=by
  have h1:VR (SF fZ) K R (.pointer (some ⟨p.gh,0,none⟩)) (t.getD 7 aA):=ha.getD 7 (xD (S:=SF fZ) (K:=K) (R:=R));generalize t.getD 7 aA=t7 at h1
  cases h1 with
  |pointer y=>cases y with|some y=>cases y with|mk y=>rw[hw.inj _ _ _ (.inl y) (.inl (Wk _ _ (zyE _ _ qX)))]
 refine⟨tauWm τ,τ,zzl hi,?_,?_⟩
 .rw[zBn]
  refine zyJ (Lk:=rC) (s:=8) (ops:=zcs) (o:=zIy) zbm rfl (λn g w h=>zys n g w h) rfl rfl rfl ?_ mP λWn d hD=>?_
  .show(t.setIfInBounds 70 _).getD 8 aA=.pointer (some ⟨p.Wg,0,none⟩)
   rw[<-h8];simp only[tD,jM (show(70:Nat)≠8 by decide)]
  .obtain⟨K',R',w',v',zcZ,k1,k2,k3,k4,k5,k6⟩:=zI3 hD
   have zDn:=zlI K' R' w' v' zcZ (cl (u0)) (cl (u1)) (cl (u2)) (cl (.pointer (some ⟨p.ge,0,none⟩))) (cl (u4)) (cl (u5)) (cl (u6)) (cl (.nilFunc)) (cl (u9)) (cl (gH)) (cl (fY)) (cl (gA)) (cl (fW)) (cl (fX)) (cl (gC)) (cl (u16)) (cl (gQ)) (cl (j6)) (cl (kJ)) (cl (jG)) (cl (gU)) (cl (iB)) (cl (gM)) (cl (gN)) (cl (gX)) (cl (gP)) (cl (hY)) (cl (iF)) (cl (iA)) (cl (iZ)) (cl (jA)) (cl (u32)) (cl (iD)) (cl (gO)) (cl (gT)) (cl (gY)) (cl (j7)) (cl (j9)) (cl (iC)) (cl (gZ)) (cl (gS)) (cl (iT)) (cl (iQ)) (cl (iH)) (cl (iO)) (cl (iI)) (cl (iG)) (cl (iR)) (cl (iP)) (cl (iK)) (cl (iL)) (cl (l5)) (cl (l8)) (cl (kS)) (cl (kO)) (cl (kD)) (cl (j5)) (cl (kC)) (cl (kM)) (cl (kI)) (cl (jU)) (cl (jX)) (cl (jQ)) (cl (u64)) (cl (jP)) (cl (jR)) (cl (jZ)) (cl (jY)) (cl (.tuple #[])) .nilFunc (.tuple #[]) (cl (jS)) k1 k2 k6;have h1:=(bK.forget (K':=K') (R':=R') ha).set 7 (v:=.pointer (some ⟨p.gh,0,none⟩)) (v':=t.getD 7 aA) (by rw[h7];exact .pointer (.some (.mk (k2 _ _ qX))));rw[zBw aD] at h1;simp only[uG,fG,tH,gK,dV,dX] at h1;have h1:=(h1.set 70 (.junk (v':=(.func (.func 24) #[] ((#[.tmp 8,.tmp 7,.tmp 3]:Array cM).map (bH t C.ds.ds).eval))) Yi)).set 71 (v:=.tuple #[]) (v':=.tuple #[]) (.tuple rfl λi v v' h=>by simp at h);simp only[gK,dV,dX] at h1;have nV:=BO.aloneIn (W:=Wn.at d) (m':=⟨13,(b7 ⟨t.setIfInBounds 70 (.func (.func 24) #[] ((#[.tmp 8,.tmp 7,.tmp 3]:Array cM).map (bH t C.ds.ds).eval)),[]⟩ (some 71) (.tuple #[])).tmps,[.inRegion zcs [],.code (.seq S6 .ret)],false⟩) zDn (cT.at k3 d) ⟨rfl,rfl,rfl,h1,λx lH=>by cases lH⟩ ⟨k5.old,k5.rel,k5.new⟩ ⟨k4.os,k4.tape,k4.output,k4.size,k4.block,k4.old⟩;have e:=mE .nil 13 (b7 ⟨t.setIfInBounds 70 (.func (.func 24) #[] ((#[.tmp 8,.tmp 7,.tmp 3]:Array cM).map (bH t C.ds.ds).eval)),[]⟩ (some 71) (.tuple #[])).tmps [.inRegion zcs [],.code (.seq S6 .ret)];rw[Fc] at e;rw[e] at nV;exact nV
 .let e:Fy:=⟨rC.tWg,p.Wg,p.N,By p.o p.es,p.D,finS p.Post p.Shun p.Wg,eD,p.W0,p.St,Ai p.Shun p.Wg,SS,R0,Fz,Wf,qs⟩
  have H:e.d.Ok:=⟨aX,vC,hF,nL,mG⟩;simp only[uG,fG,tH,vW];exact zyq (e:=e) H rfl (Q:=λR'=>R0.le R') (λR R' h h'=>h'.trans h) Wk hw ht hi mP (cK e rfl rfl) hh he ha rfl rfl h8 (λK' R τ W w' v'=>sZ K' R τ W w' v')
variable {wB w':aE}{c gq:Nat}{A:Option bO}{o:jE}{es:List dG}{ln:List Nat}
theorem oC.but {lo go ge n hb gh:Nat}(h:oC wB lo go ge n c A o es hb gh ln qn v w)(hs:w'.heap.size=w.heap.size)(Ad:lo<=gq)(Aa:gq≠gh)(zao:some gq∉parts v hb)(k:∀b,b≠gq->w'.heap[b]? =w.heap[b]?):oC wB lo go ge n c A o es hb gh ln qn v w':=
 ⟨h.e.keep aD λb hb=>k b aD,h.at_.keep λb _ hp=>k b λe=>zao (e▸hp),h.mp,h.nd,λx hx=>by rw[hs];exact h.lt x hx,(k _ (Ne.symm Aa)).trans h.bh,h.nh,h.ghl⟩
variable {Tf:Array aF}
theorem al17 :(aO (bH Tf []).eval zu3).run aK w=.ok (.value (.pointer (some ⟨w.heap.size,0,none⟩))) (w.alloc (.cells #[.chan none] 72)):=by
 unfold aO;go_simp
theorem st17 {V:Nat->aF}{gc:Nat}(hT:wR Tf V)(e1:V 9=.pointer (some ⟨gq,0,none⟩))(e2:V 55=.chan (some gc))(hh:w.cell? ⟨gq,0,none⟩=some (.chan none))(hf:w.frozen? ⟨gq,0,none⟩=false){T:kK}:(aO (bH Tf []).eval ztx).run aK (Tt.tp w T 0)=.ok .skip (Tt.tp (w.setCell ⟨gq,0,none⟩ (.chan (some gc))) T 0):=by
 have zfA:(Tt.tp w T 0).cell? ⟨gq,0,none⟩=some (.chan none):=hh;have Ak:(Tt.tp w T 0).frozen? ⟨gq,0,none⟩=false:=hf;clear hh hf;unfold aO;go_simp
 try rfl
def zcD:Go.Code:=.seq zhP (.seq (.cond (.tmp 54) .skip (.exit 4)) (.seq (.block 5 (.seq zbg (.seq Nt (.seq Se Sn)))) zhn))
def zj0:Go.Code:=.seq Yf (.seq Vt (.seq Wj (.seq S6 .ret)))
def qK.ok {chs:List Nat}(aX:∀a,p.St a->eD a)(vC:∀b,b<p.W0.heap.size->SS b)(hF:∀b,Fz b->SS b)(nL:p.W0.heap.size<=p.Wg):fB (p.cx K eD SS R0 Fz Wf qs chs):=zmL (C:=p.cx K eD SS R0 Fz Wf qs chs) rfl aX vC hF nL
structure Ce (p:qK)(wB:aE)(K:Pr)(eD SS:Nat->Prop)(R0:Pr)(Fz:Nat->Prop)(Wf:aE)(Xa:Nat->Prop)(qs qn:List Nat)(v:fC)(w:aE):Prop where
 K1:p.K1.le K
 R1:p.R1.le R0
 st:∀a,p.St a->eD a
 ss:∀b,b<p.W0.heap.size->SS b
 F:∀b,Fz b->SS b
 th:Jh p.w00 K R0 p.St eD Fz Wf Xa
 fz:∀b,Fz b->∃a,R0 a b/\eD a
 xt:∀a,xT a=true->eD a
 xa:∀a,Xa a->xT a=true\/(p.lo<=a/\a<w.heap.size/\a≠p.gh/\some a∉parts v p.hb)
 lq:qs.length=qn.length
 kq:∀(i g:Nat),qn[i]? =some g->K g (qa qs i)
 h:oC wB p.lo p.go p.ge p.n p.c p.A p.o p.es p.hb p.gh p.ln qn v w
structure zap (p:qK)(wB:aE):Prop where
 after:p.After
 gh:∃b,p.R1 p.gh b
 ok:jV p.o p.es=true
 low:p.W0.heap.size<=p.Wg
 lo0:p.lo0<=p.lo
 tb:Fh wB
 tl:∀a,xT a=true->a<p.lo0
 wB:∀b,b<p.lo0->xT b=false->wB.heap[b]? =p.w00.heap[b]?
 ln:(p.ln.length:Int)=p.o.ln
variable {W:aE}{Xa:Nat->Prop}
theorem op_dep (H:zap p wB)(I:Ce p wB K eD SS R0 Fz Wf Xa qs qn v w)(Tv:(qn.length:Int)=p.o.op){K':Pr}{τ:cE}{v':fC}(hK:K.le K')(hR:R0.le R)(hw:cT (SF fZ) K' R (oR aK) eD w' W)(hi:IQ p.W0 p.St (Ai p.Shun p.Wg) p.Wg SS R0 Fz Wf qs [] R τ W)
 (hA:bE w' p.lo p.hb v' (rZ p.o p.es p.ln qn qn.length)) (hT:bL p.hb v w v' w'):p.D W:=by
 obtain⟨wn,t1,t2,t3,t4⟩:=I.th K' R w' W hK hR hw (λb hb=>(hi.x.x.fz b hb).2.1);have dY:p.lo<=w.heap.size:=I.h.e.lo_;have zyY:∀b,b<p.lo->xT b=false->¬Xa b:=λb hb hx h=>by
  rcases I.xa b h with h|⟨h,_⟩
  .rw[h] at hx;cases hx
  .omega
 have zvA:∀b,p.lo<=b->xT b=false:=λb hb=>by
  cases e:xT b with
  |false=>rfl
  |true=>have:=H.tl b e;have:=H.lo0;omega
 refine⟨K',R,wn,v',qn,vS I.K1 hK,I.R1.trans hR,t1,hi.x.x.im.kp,hi.x.x.im.sh,hA.keep λb _ hp=>t3 b λhx=>?_,λb hb=>?_,by have:=hT.size;omega,?_,Tv⟩
 .have zCS:=(hA.lt b hp).1
  rcases I.xa b hx with h|⟨_,h2,_,h4⟩
  .rw[zvA b zCS] at h;cases h
  .rcases hT.moved b hp with hm|hm
   .exact h4 hm
   .omega
 .cases e:xT b with
  |true=>exact t4 b e
  |false=>
   have bY:b<p.lo:=lA hb H.lo0;rw[t3 b (zyY b bY e),hT.block b aD (λhp=>by have:=(I.h.at_.lt b hp).1;omega),I.h.e.old b bY,H.wB b hb e]
 .rw[t3 p.gh λhx=>?_]
  .exact(I.h.at_.turned hT I.h.bh I.h.nh).1
  .rcases I.xa _ hx with h|⟨_,_,h3,_⟩
   .rw[zvA _ I.h.ghl] at h;cases h
   .exact h3 rfl
theorem op_pre (H:zap p wB)(I:Ce p wB K eD SS R0 Fz Wf Xa qs qn v w)(Tv:(qn.length:Int)=p.o.op)(e:Fy)(he:e.W=By p.o p.es)(hq:e.qs=qs):Y9 e p.o p.es p.ln qn p.lo p.hb v w K p.A p.n p.c:=
 ⟨H.ok,he,I.h.at_,I.h.mr,I.h.nd,H.ln,Tv,by rw[hq];exact I.lq,I.h.e.lo_,I.h.e.tab,I.h.e.ev,by rw[hq];exact I.kq⟩
def zEu:aK.underlying 72=some (.chan .both 97):=aS
def zzV:∃ie,aK.info? 97=some ie:=Option.isSome_iff_exists.1 aS
theorem zBu (h:i<qs.length):qa (qs++[c]) i=qa qs i:=by simp[qa,Jl,yO h]
theorem zIC :qa (qs++[c]) qs.length=c:=by simp[qa,Jl]
theorem rh_go (H:zap p wB){gc cr j:Nat}(I:Ce p wB K eD SS R0 Fz Wf Xa qs qn v w)(hN:qs.length<p.N)(zKD:j=qn.length)(zbS:K gc cr)
 (Ad:w.heap[gq]? =some (.cells #[.chan (some gc)] 72)) (Zg:p.lo<=gq) (Du:gq≠p.gh) (zcv:some gq∉parts v p.hb) {kk:List dW}
 (zbG:∀(zbZ zaA:Nat->Prop) (Zv:Pr) (zbs:Nat->Prop) (zaJ:aE) (zmK:Nat->Prop) (v':fC) (w':aE) u0 u1 u4 u5 u6 gH fY gA fW fX gC u16 gQ j6 kJ jG gU iB gM gN gX gP hY iF iA iZ jA u32 iD gO gT gY j7 j9 iC gZ gS iT iQ iH iO iI iG iR iP iK iL kD j5 kC kM kI jU jX jQ u64 jP jZ jY kN kG kL jS u9 kS kO jR,Ce p wB K zbZ zaA Zv zbs zaJ zmK (qs++[cr]) (qn++[gc]) v' w'->BO (p.cx K zbZ zaA Zv zbs zaJ (qs++[cr]) []) (.mN (qs++[cr])) ⟨13,#[u0,u1,.pointer (some ⟨p.go,0,none⟩),.pointer (some ⟨p.ge,0,none⟩),u4,u5,u6,.pointer (some ⟨p.gh,0,none⟩),.nilFunc,u9,gH,fY,gA,fW,fX,gC,u16,gQ,j6,kJ,jG,gU,iB,gM,gN,gX,gP,hY,iF,iA,iZ,jA,u32,iD,gO,gT,gY,j7,j9,iC,gZ,gS,iT,iQ,iH,iO,iI,iG,iR,iP,iK,iL,.int .i64 p.o.op,.int .i64 j,kS,kO,kD,j5,kC,kM,kI,jU,jX,jQ,u64,jP,jR,jZ,jY,kN,kG,kL,jS],kk,false⟩ w')
 {u0 u1 u4 u5 u6:aF}:
 BO (p.cx K eD SS R0 Fz Wf qs [cr]) (.mA qs cr) ⟨13,#[u0,u1,.pointer (some ⟨p.go,0,none⟩),.pointer (some ⟨p.ge,0,none⟩),u4,u5,u6,.pointer (some ⟨p.gh,0,none⟩),.nilFunc,.pointer (some ⟨gq,0,none⟩),gH,fY,gA,fW,fX,gC,u16,gQ,j6,kJ,jG,gU,iB,gM,gN,gX,gP,hY,iF,iA,iZ,jA,u32,iD,gO,gT,gY,j7,j9,iC,gZ,gS,iT,iQ,iH,iO,iI,iG,iR,iP,iK,iL,.int .i64 p.o.op,.int .i64 j,.bool true,.chan (some gc),kD,j5,kC,kM,kI,jU,jX,jQ,u64,jP,jR,jZ,jY,kN,kG,kL,jS],[.code (.seq Nt (.seq Se Sn))]++kk,false⟩ w:=by
 let C:=p.cx K eD SS R0 Fz Wf qs [cr]
 have hI:fB C:=qK.ok I.st I.ss I.F H.low;have hX:=zdE (ty:=rC.tWg) (St:=p.St) (Shun:=Ai p.Shun p.Wg) (R0:=R0) (Fz:=Fz) (Wf:=Wf) (qs:=qs) (chs:=[cr]) I.ss I.F H.low;show BO C _ ⟨_,_,.code (.seq Nt (.seq Se Sn))::kk,false⟩ _;have rB:qY p.o=true:=by
  have:=H.ok;unfold jV at this;simp only[fN] at this;exact this.1.1
 unfold qY at rB;have rB:=of_decide_eq_true rB;have zKO:p.N<=4:=by unfold qK.N;omega
 refine BO.seq hI ?_;refine cw_RQ (C:=C) (l:=.mA qs cr) (c:=⟨p.lo,p.hb,p.gh,gq,gc,v,w,v,⟨l6 p.o,p.ln,qn,[]⟩⟩) hI rfl rfl rfl mG (λi o s h1 h2 h3=>?_) (by show qn.length<=1000;have:=I.lq;omega) I.h.nh zcv rfl rfl rfl (λvs C' l' w' tG hS=>?_) ⟨rfl,rfl,λ_=>⟨aJ I.h.at_.blk 6,I.h.bh,Ad⟩,⟨I.h.at_,bL.refl,I.h.e.lo_⟩⟩
 .obtain rfl:s=8:=sC.1 h3
  have hm:some 8∈n7.toList.map (·.dst):=List.mem_map.2 ⟨o,dS (by rw[zR];exact h1),h2⟩;rw[zqj] at hm;simp at hm
 rw[Go.Mt.zY,zqj];simp only[Go.Mt.wO,dV,dX];obtain⟨rfl,rfl,_,h4⟩:=hS;have s4:WH.RQ2 ⟨p.lo,p.hb,p.gh,gq,gc,v,w,v,⟨l6 p.o,p.ln,qn,[]⟩⟩ gc w':=by
  rcases vs with _|⟨b,_|⟨x,_|⟨y,vs⟩⟩⟩
  .cases tG
  .cases tG
  .cases tG
  .exact h4
 obtain⟨v2,a2,t2,mp⟩:=s4;have Kb:oC wB p.lo p.go p.ge p.n p.c p.A p.o p.es p.hb p.gh p.ln (qn++[gc]) v2 w':=I.h.turn t2 a2 mp I.h.nd λx hx=>lA (I.h.lt x hx) t2.size;obtain⟨zhW,zpb⟩:=I.h.at_.turned t2 Ad zcv;have HR:=aC Kb;have T2:=aC t2;clear Kb a2 mp h4 tG;refine BO.regEnd hI ?_;refine BO.seq hI ?_;rw[zE1];refine BO.regs hI _ zI9 ?_;refine BO.add (C:=C) (Lk:=rC) (s:=8) (nx:=.mS qs cr) zbm rfl rfl rfl hI rfl hX zHA rfl rfl (sC.2 rfl) (by intro s hs;cases hs;show(66:Nat)∉([8]:List Nat);decide) rfl ?_;simp only[b7,gK,dV,dX];refine BO.regEnd hI ?_;rw[zIK];refine BO.regs hI _ zIr ?_;refine BO.go (C:=C) rfl hI zAH zBK rfl rfl rfl rfl rfl rfl (lc:=.op cr 0 (nH (By p.o p.es) 0 qs.length)) (nx:=.mN (qs++[cr])) (pub:=[cr]) rfl aQ λR W t τ hw ha C2 ht hi=>?_;have hw:cT (SF fZ) K R (oR aK) eD w' W:=hw;have hi:yK rC.tWg p.Wg (IQ p.W0 p.St (Ai p.Shun p.Wg) p.Wg SS R0 Fz Wf qs [cr]) R τ W:=hi;obtain⟨hi,mP⟩:=hi;have h8:t.getD 8 aA=.pointer (some ⟨p.Wg,0,none⟩):=C2 (8,.pointer (some ⟨p.Wg,0,none⟩)) (sC.2 rfl);have cH:t.size=73:=ha.1.symm;have dB:∀a,¬R a cr:=(hi.x.ch cr (sC.2 rfl)).2.2;have Ev:Fh w':=λg hg=>by
  have:=H.tl g hg;have:=H.lo0;rw[HR.o.e.old g aD];exact H.tb g hg
 have zDd:∃b,R gq b:=by
  have h1:VR (SF fZ) K R (.pointer (some ⟨gq,0,none⟩)) (t.getD 9 aA):=ha.getD 9 (xD (S:=SF fZ) (K:=K) (R:=R));generalize t.getD 9 aA=t9 at h1
  cases h1 with
  |pointer y=>cases y with|some y=>cases y with|mk y=>exact⟨_,y⟩
 have hx:XOk R (xQ gq) w':=⟨λa h=>by
  rcases Z1 h with rfl|h
  .exact zDd
  .exact⟨a,hw.tb a h⟩,λa h=>by
  rcases Z1 h with rfl|h
  .exact⟨_,_,_,zhW⟩
  .obtain⟨c,T,fz,hc,_⟩:=Ev a h;exact⟨c,T,fz,hc⟩⟩
 have Wk:R0.le R:=hi.x.x.le;have fI:=zop hw hx;have zzT:∀b,b≠gq->(uN (xQ gq) w').heap[b]? =w'.heap[b]? :=λb hb=>zDa λh=>by
  rcases Z1 h with h|h
  .exact absurd h hb
  .exact(hw.st b (I.xt b h)).2
 have zA1:=zEA (X:=xQ gq) (qs:=qs) hw ht dB;have zhh:=iq_qm (X:=xQ gq) hw ht hi;refine⟨Ku τ R (xQ gq) cr qs,Vs τ R (xQ gq),zyc ht hi,?_,?_⟩
 .have J:Ce p wB K (λa=>eD a\/xQ gq a=true) (Ku τ R (xQ gq) cr qs).still R (Fp R eD (xQ gq)) W (λa=>Xa a\/xQ gq a=true) (qs++[cr]) (qn++[gc]) v2 (uN (xQ gq) w'):=by
   refine⟨I.K1,I.R1.trans Wk,λa h=>.inl (I.st a h),λb hb=>.inl (by rw[hi.x.x.im.still];exact I.ss b hb),λb hb=>?_,I.th.step (vY K) Wk hw hx (λb hb=>⟨(hi.x.x.fz b hb).2.1,let⟨a,x,y⟩:=I.fz b hb;⟨a,Wk _ _ x,y⟩⟩),λb hb=>hb,λa h=>.inl (I.xt a h),λa h=>?_,by rw[gJ,gJ,I.lq];rfl,λi g hg=>?_,HR.o.but (Sq _ _) Zg Du zpb zzT⟩
   .obtain⟨a,x,h⟩:=hb
    rcases h with h|h
    .exact .inl ((ht a b x).1 h)
    .exact .inr ⟨a,x,h⟩
   .rw[Sq]
    rcases h with h|h
    .rcases I.xa a h with h|⟨h1,h2,h3,h4⟩
     .exact .inl h
     .exact .inr ⟨h1,lA h2 T2.o.size,h3,λhp=>(T2.o.moved a hp).elim h4 λx=>absurd h2 (Nat.not_lt.2 x)⟩
    .rcases Z1 h with rfl|h
     .exact .inr ⟨Zg,kU zhW,Du,zpb⟩
     .exact .inl h
   .rcases nM i qn.length with aP|B8
    .rw[yO aP] at hg
     rw[zBu (by rw[I.lq];exact aP)];exact I.kq i g hg
    .obtain rfl:i=qn.length:=by
      have:=(jW.1 hg).1;simp at this;omega
     simp at hg;subst hg;rw[<-I.lq,zIC];exact zbS
  have Gx:fB (p.cx K (λa=>eD a\/xQ gq a=true) (Ku τ R (xQ gq) cr qs).still R (Fp R eD (xQ gq)) W (qs++[cr]) []):=qK.ok J.st J.ss J.F H.low;have h1:=ha.set 67 (.junk (v':=(.func (.func 21) #[] ((#[.tmp 8,.tmp 9]:Array cM).map (bH t C.ds.ds).eval))) Yi);simp only[gK,dV,dX] at h1;have fin:∀(G1:Array aF),bK (SF fZ) K R G1 (t.setIfInBounds 67 (.func (.func 21) #[] ((#[.tmp 8,.tmp 9]:Array cM).map (bH t C.ds.ds).eval)))->BO (p.cx K (λa=>eD a\/xQ gq a=true) (Ku τ R (xQ gq) cr qs).still R (Fp R eD (xQ gq)) W (qs++[cr]) []) (.mN (qs++[cr])) ⟨13,G1,.inRegion N8 []::kk,false⟩ (uN (xQ gq) w')->bZ C.p C.ty C.Wg C.A C.Fin C.main (.usr (.mN (qs++[cr]))) 0 (Ku τ R (xQ gq) cr qs) (G ((C.ds.base 13).at ⟨t.setIfInBounds 67 (.func (.func 21) #[] ((#[.tmp 8,.tmp 9]:Array cM).map (bH t C.ds.ds).eval)),C.ds.ds⟩ (.inRegion N8 []::kk)) C.base) W:=λG1 h1 hB=>by
   have hm:=hB R W ⟨13,t.setIfInBounds 67 (.func (.func 21) #[] ((#[.tmp 8,.tmp 9]:Array cM).map (bH t C.ds.ds).eval)),.inRegion N8 []::kk,false⟩ (Ku τ R (xQ gq) cr qs) fI ⟨rfl,rfl,rfl,h1,λx lH=>?_⟩ zA1 ⟨zhh,mP⟩
   .rw[Cx.B_none rfl,mE] at hm
    exact hm
   .obtain rfl:=sC.1 lH
    show(t.setIfInBounds 67 _).getD 8 aA=_;rw[<-h8];simp only[tD,jM (show(67:Nat)≠8 by decide)]
  exact fin _ h1 (BO.regEnd (ops:=N8) Gx (zbG _ _ _ _ _ _ v2 (uN (xQ gq) w') _ _ _ _ _ _ _ _ _ _ _ _ _ _ _ _ _ _ _ _ _ _ _ _ _ _ _ _ _ _ _ _ _ _ _ _ _ _ _ _ _ _ _ _ _ _ _ _ _ _ _ _ _ _ _ _ _ _ _ _ _ _ _ _ _ _ _ J))
 .simp only[uG,fG,tH,vW]
  exact zyn hw hx zbS dB zhW Ev ha rfl h8 hi.x.x.im.wg hi.x.x.im.rel mP
variable {St:Nat->Prop}
def Jh.mono {w00:aE}{K2:Pr}(h:Jh w00 K R St eD Fz Wf Xa)(hK:K.le K2):Jh w00 K2 R St eD Fz Wf Xa:=λK' R' wn Wn a b c d=>h K' R' wn Wn (vS hK a) b c d
def Ce.tp (I:Ce p wB K eD SS R0 Fz Wf Xa qs qn v w)(T:kK)(n:Nat):Ce p wB K eD SS R0 Fz Wf Xa qs qn v (Tt.tp w T n):=⟨I.K1,I.R1,I.st,I.ss,I.F,I.th,I.fz,I.xt,I.xa,I.lq,I.kq,I.h.tp T n⟩
theorem rh_ops (H:zap p wB):∀(m j:Nat),((j+m:Nat):Int)=p.o.op->∀(K:Pr) (eD SS:Nat->Prop) (R0:Pr) (Fz:Nat->Prop) (Wf:aE) (Xa:Nat->Prop) (qs qn:List Nat) (v:fC) (w:aE) (u0 u1 u4 u5 u6 u9 gH fY gA fW fX gC u16 gQ j6 kJ jG gU iB gM gN gX gP hY iF iA iZ jA u32 iD gO gT gY j7 j9 iC gZ gS iT iQ iH iO iI iG iR iP iK iL kS kO kD j5 kC kM kI jU jX jQ u64 jP jR jZ jY kN kG kL jS:aF),Ce p wB K eD SS R0 Fz Wf Xa qs qn v w->qn.length=j->
 BO (p.cx K eD SS R0 Fz Wf qs []) (.mN qs) ⟨13,#[u0,u1,.pointer (some ⟨p.go,0,none⟩),.pointer (some ⟨p.ge,0,none⟩),u4,u5,u6,.pointer (some ⟨p.gh,0,none⟩),.nilFunc,u9,gH,fY,gA,fW,fX,gC,u16,gQ,j6,kJ,jG,gU,iB,gM,gN,gX,gP,hY,iF,iA,iZ,jA,u32,iD,gO,gT,gY,j7,j9,iC,gZ,gS,iT,iQ,iH,iO,iI,iG,iR,iP,iK,iL,.int .i64 p.o.op,.int .i64 j,kS,kO,kD,j5,kC,kM,kI,jU,jX,jQ,u64,jP,jR,jZ,jY,kN,kG,kL,jS],[.code zcD,.inLoop zcD,.inBlock 4,.code zj0],false⟩ w:=by
 have rB:qY p.o=true:=by
  have:=H.ok;unfold jV at this;simp only[fN] at this;exact this.1.1
 unfold qY at rB;have rB:=of_decide_eq_true rB;have h4:p.o.op<=4:=rB.2.2.2.1;clear rB;intro m
 induction m with
 |zero=>
  intro j hj K eD SS R0 Fz Wf Xa qs qn v w u0 u1 u4 u5 u6 u9 gH fY gA fW fX gC u16 gQ j6 kJ jG gU iB gM gN gX gP hY iF iA iZ jA u32 iD gO gT gY j7 j9 iC gZ gS iT iQ iH iO iI iG iR iP iK iL kS kO kD j5 kC kM kI jU jX jQ u64 jP jR jZ jY kN kG kL jS I hl;have hI:fB (p.cx K eD SS R0 Fz Wf qs []):=qK.ok I.st I.ss I.F H.low;have zhM:(j:Int)=p.o.op:=by simpa using hj
  have Fv:¬(j:Int)<p.o.op:=aD;have HI:=aC I;have HJ:=aC zhM;clear I hj zhM;unfold zcD;refine BO.seq hI ?_;refine BO.pV mG hI tK (λw1 T1 eT Q' cV=>?_);have Sy:=aC (show Ce p wB K eD SS R0 Fz Wf Xa qs qn v w1 by rw[eT];exact HI.o.tp T1 0);clear HI
  try dsimp only
  clear eT;go_wp2;refine cV.o _ _ ?_;clear cV;refine BO.seq hI ?_;refine BO.cond hI (t:=false) rfl rfl ?_;refine BO.exit hI (k':=[.code zj0]) rfl ?_;have I:=Sy.o;have zhM:=HJ.o;have zCa:=I.lq;refine zCA H.after H.gh (by unfold qK.N;omega) I.st I.ss I.F H.low I.R1 (op_pre H I aD) (aJ I.h.bh 0) (aJ I.h.e.be 0) (λK' R τ W w' v' hK hR hw hi hA hm hT=>op_dep H I aD hK hR hw hi hA hT)
 |succ m ih=>
  intro j hj K eD SS R0 Fz Wf Xa qs qn v w u0 u1 u4 u5 u6 u9 gH fY gA fW fX gC u16 gQ j6 kJ jG gU iB gM gN gX gP hY iF iA iZ jA u32 iD gO gT gY j7 j9 iC gZ gS iT iQ iH iO iI iG iR iP iK iL kS kO kD j5 kC kM kI jU jX jQ u64 jP jR jZ jY kN kG kL jS I hl;have hI:fB (p.cx K eD SS R0 Fz Wf qs []):=qK.ok I.st I.ss I.F H.low;have Fv:(j:Int)<p.o.op:=aD;have HI:=aC I;have HJ:=aC hj;clear I hj;unfold zcD;refine BO.seq hI ?_;refine BO.pV mG hI tK (λw1 T1 eT Q' cV=>?_);have Sy:=aC (show Ce p wB K eD SS R0 Fz Wf Xa qs qn v w1 by rw[eT];exact HI.o.tp T1 0);clear HI
  try dsimp only
  clear eT;go_wp2;refine cV.o _ _ ?_;clear cV;refine BO.seq hI ?_;refine BO.cond hI (t:=true) rfl rfl ?_;refine BO.skip hI ?_;refine BO.seq hI ?_;refine BO.block hI ?_;refine BO.seq hI ?_;have I:=Sy.o;have zCa:=I.lq;have zov:qs.length<p.N:=by unfold qK.N;omega
  rw[zAQ];refine BO.regs hI _ zFI ?_;obtain⟨ie,jL⟩:=zzV;refine BO.makeK hI zF3 rfl rfl zEu jL (by intro s hs;cases hs;show(55:Nat)∉([8]:List Nat);decide) (I':=λc=>yK rC.tWg p.Wg (IQ p.W0 p.St (Ai p.Shun p.Wg) p.Wg SS R0 Fz Wf qs [c])) (λR τ W hi ht aP=>?_) (λcr=>?_)
  .have hi:yK rC.tWg p.Wg (IQ p.W0 p.St (Ai p.Shun p.Wg) p.Wg SS R0 Fz Wf qs []) R τ W:=hi
   refine⟨zqT hi.1 aP,?_⟩;obtain⟨st,sm,hx⟩:=hi.2;have lH:W.heap[p.Wg]? =some _:=hx;exact⟨st,sm,(Dm (dM.1 lH).1).trans lH⟩
  simp only[b7,gK,dV,dX];show BO (p.cx (K.add w1.heap.size cr) eD SS R0 Fz Wf qs [cr]) (.mN qs) _ _;refine BO.note (can:=λl'=>∃a,l'=.mA qs a) rfl (by show eH p.N (By p.o p.es) (.mN qs)=_;simp[eH,zov]) ⟨cr,rfl⟩ ?_;have Ka:fB (p.cx (K.add w1.heap.size cr) eD SS R0 Fz Wf qs [cr]):=qK.ok I.st I.ss I.F H.low;have lF:=aC (show oC wB p.lo p.go p.ge p.n p.c p.A p.o p.es p.hb p.gh p.ln qn v (w1.alloc oM) from I.h.below (dO (eR _ _) _));obtain⟨gc,Ps⟩:=aU w1.heap.size;have zw:(w1.alloc oM).heap.size=gc+1:=by rw[qS,Ps]
  rw[<-Ps];obtain⟨w2,fQ⟩:=aU (w1.alloc oM);rw[<-fQ] at lF zw⊢;have Gx:fB (p.cx (K.add gc cr) eD SS R0 Fz Wf qs [cr]):=qK.ok I.st I.ss I.F H.low;refine BO.op mG Gx zFU rfl aS (by intro s hs;cases hs;show(9:Nat)∉([8]:List Nat);decide) (λT=>⟨_,_,.inl al17,?_⟩);simp only[b7,gK,dV,dX];obtain⟨gq,Ad⟩:=aU ((Tt.tp w2 T 0).heap.size);have zA4:gq=gc+1:=by rw[Ad];exact zw
  have lC:=aC (show oC wB p.lo p.go p.ge p.n p.c p.A p.o p.es p.hb p.gh p.ln qn v ((Tt.tp w2 T 0).alloc (.cells #[.chan none] 72)) from(lF.o.tp T 0).below (dO (eR _ _) _));have KB:=aC (show((Tt.tp w2 T 0).alloc (.cells #[.chan none] 72)).heap[gq]? =some (.cells #[.chan none] 72) by rw[Ad];exact D3 _ _);have z3:((Tt.tp w2 T 0).alloc (.cells #[.chan none] 72)).heap.size=gc+2:=by rw[qS,<-Ad,zA4]
  have Zg:p.lo<=gq:=by have:=lF.o.e.lo_;omega
  have Du:gq≠p.gh:=by
   intro e;have:=kU I.h.bh;omega
  have zcv:some gq∉parts v p.hb:=λhp=>by have:=(I.h.at_.lt gq hp).2;omega
  rw[<-Ad];clear Ad;obtain⟨w3,iM⟩:=aU ((Tt.tp w2 T 0).alloc (.cells #[.chan none] 72));rw[<-iM] at lC KB z3⊢;clear iM lF zw fQ;refine BO.op mG Gx zGW rfl aS zh4 (λT2=>⟨aA,Tt.tp (w3.setCell ⟨gq,0,none⟩ (.chan (some gc))) T2 0,.inr ⟨st17 (V:=λs=>(#[u0,u1,.pointer (some ⟨p.go,0,none⟩),.pointer (some ⟨p.ge,0,none⟩),u4,u5,u6,.pointer (some ⟨p.gh,0,none⟩),.nilFunc,.pointer (some ⟨gq,0,none⟩),gH,fY,gA,fW,fX,gC,u16,gQ,j6,kJ,jG,gU,iB,gM,gN,gX,gP,hY,iF,iA,iZ,jA,u32,iD,gO,gT,gY,j7,j9,iC,gZ,gS,iT,iQ,iH,iO,iI,iG,iR,iP,iK,iL,.int .i64 p.o.op,.int .i64 j,.bool true,.chan (some gc),kD,j5,kC,kM,kI,jU,jX,jQ,u64,jP,jR,jZ,jY,kN,kG,kL,jS]:Array aF).getD s aA) (λs=>rfl) rfl rfl (aJ KB.o 0) (eL KB.o 0),rfl⟩,?_⟩);refine BO.regEnd Gx ?_;refine BO.tape ?_ T2 0;clear T2;have hK:K.le (K.add gc cr):=Pr.le_add _ _ _;have aT:∀b,b≠gq->(w3.setCell ⟨gq,0,none⟩ (.chan (some gc))).heap[b]? =w3.heap[b]? :=λb hb=>zbR w3 _ _ hb;have I3:Ce p wB (K.add gc cr) eD SS R0 Fz Wf Xa qs qn v (w3.setCell ⟨gq,0,none⟩ (.chan (some gc))):=⟨vS I.K1 hK,I.R1,I.st,I.ss,I.F,I.th.mono hK,I.fz,I.xt,λa ha=>by
   rcases I.xa a ha with h|⟨h1,h2,h3,h4⟩
   .exact .inl h
   .exact .inr ⟨h1,by rw[Hc,z3];omega,h3,h4⟩,I.lq,λi g hg=>hK _ _ (I.kq i g hg),lC.o.but (Hc _ _ _) Zg Du zcv aT⟩
  refine rh_go H I3 zov (j:=j) hl.symm (.inr ⟨rfl,rfl⟩) (oZ KB.o _) Zg Du zcv (λzbZ zaA Zv zbs zaJ zmK v' w' u0 u1 u4 u5 u6 gH fY gA fW fX gC u16 gQ j6 kJ jG gU iB gM gN gX gP hY iF iA iZ jA u32 iD gO gT gY j7 j9 iC gZ gS iT iQ iH iO iI iG iR iP iK iL kD j5 kC kM kI jU jX jQ u64 jP jZ jY kN kG kL jS u9 kS kO jR I4=>?_);have zmV:fB (p.cx (K.add gc cr) zbZ zaA Zv zbs zaJ (qs++[cr]) []):=qK.ok I4.st I4.ss I4.F H.low;have zrw:=aC I4;clear I4 I3 aT lC KB I Sy;refine BO.inBlock zmV ?_;refine BO.pV mG zmV tK (λw5 T5 nU Q' cV=>?_);have zIx:=aC (show Ce p wB (K.add gc cr) zbZ zaA Zv zbs zaJ zmK (qs++[cr]) (qn++[gc]) v' w5 by rw[nU];exact zrw.o.tp T5 0);clear zrw
  try dsimp only
  clear nU;go_wp2;refine cV.o _ _ ?_;clear cV;refine BO.inLoop zmV ?_;exact ih (j+1) (by have:=HJ.o;omega) _ _ _ _ _ _ _ _ _ _ _ _ _ _ _ _ _ _ _ _ _ _ _ _ _ _ _ _ _ _ _ _ _ _ _ _ _ _ _ _ _ _ _ _ _ _ _ _ _ _ _ _ _ _ _ _ _ _ _ _ _ _ _ _ _ _ _ _ _ _ _ _ _ _ _ _ _ _ zIx.o (by rw[gJ,hl];rfl)
structure StW (W W4:aE):Prop where
 size:W4.heap.size=W.heap.size+1
 keep:∀b,b<W.heap.size->W4.heap[b]? =W.heap[b]?
 wg:Go.ConcR.WgAt 71 W.heap.size W4 0 0
 os:W4.os=W.os
 tape:W4.tape=W.tape
 output:W4.output=W.output
variable {Post:aF->aE->Prop}{Shun:Loc->Prop}
theorem zIj {CS:List dE}
 (h:∀W4,StW W W4->J aK Post Shun W.heap.size (G ((Ju 13).at ⟨t.setIfInBounds 8 (.pointer (some ⟨W.heap.size,0,none⟩)),[]⟩ [.code Gq]) CS) W4):
 J aK Post Shun W.heap.size (G ((Ju 13).at ⟨t,[]⟩ [.code (.seq Mg Gq)]) CS) W:=by
 have start:∀d,J aK Post Shun W.heap.size (G ((Ju 13).at ⟨t,[]⟩ [.code (.seq Mg Gq)]) CS) (W.at d):=by
  refine J.sil rfl (λw=>stepG_seq) ?_;generalize kW:Gq=K0 at h⊢;simp only[Mg,n9,zgn,Option.getD_some];refine J.sil rfl (λw=>stepG_region) ?_;refine J.opq (o:=_) (v:=.pointer (some ⟨W.heap.size,0,none⟩)) (w':=W.alloc (.cells #[.int .u64 0,.int .u32 0] 71)) rfl rfl aH (λd=>?_) (λd e he=>?_) ?_
  .show _=Result.ok _ ((W.at d).alloc _)
   have hz:(W.at d).heap.size=W.heap.size:=rfl;rw[<-hz];simp[aO,go_sem,vW]
  .simp[aO,go_sem,vW] at he
  refine J.sil rfl (λw=>stepG_region_end) ?_;intro d;have aX:StW W ((W.alloc (.cells #[.int .u64 0,.int .u32 0] 71)).at d):=by
   refine⟨?_,λb hb=>?_,?_,rfl,rfl,rfl⟩
   .show(W.alloc _).heap.size=_
    rw[qS]
   .show(W.alloc _).heap[b]? =_
    rw[Dm hb]
   .show(W.alloc _).heap[_]? =_
    rw[D3];rfl
  exact h _ aX
 exact start W.drawn
variable {W0:aE}
theorem zyR {base:List dE}{lo0 lo go ge n hb gh:Nat}(hR:oC wB lo go ge n c A o es hb gh ln [] v w)(hgo:lo0<=go)(B8:lo0<=ge)(dY:lo0<=lo)(bV:jV o es=true)(x5:(ln.length:Int)=o.ln)(Ev:Fh w)(Z5:∀a,xT a=true->a<lo0)
 (zlI:∀(R1:Pr) (Wg:Nat),R0.le R1->qK.After ⟨Post,Shun,W0,St,base,K,R1,w,lo0,lo,go,ge,n,c,A,o,es,hb,gh,ln,Wg⟩) {u0 u1 u4 u5 u6 u8 u9 l5 l8 kS kO:aF}:
 BO (Hx Post Shun W0 St R0 base K) () ⟨13,#[u0,u1,.pointer (some ⟨go,0,none⟩),.pointer (some ⟨ge,0,none⟩),u4,u5,u6,.pointer (some ⟨gh,0,none⟩),u8,u9,gH,fY,gA,fW,fX,gC,u16,gQ,j6,kJ,jG,gU,iB,gM,gN,gX,gP,hY,iF,iA,iZ,jA,u32,iD,gO,gT,gY,j7,j9,iC,gZ,gS,iT,iQ,iH,iO,iI,iG,iR,iP,iK,iL,l5,l8,kS,kO,kD,j5,kC,kM,kI,jU,jX,jQ,u64,jP,jR,jZ,jY,kN,kG,kL,jS],[.code (.seq Mg Gq)],false⟩ w:=by
 intro R W m1 τ hw hm zKU hi;obtain⟨fn',t,yJ,x3⟩:=m1;obtain rfl:=hm.fn;obtain rfl:=hm.todo;obtain rfl:=hm.ret;have hw:cT (SF fZ) K R (oR aK) St w W:=hw;have hi:IA W0 St Shun R0 R τ W:=hi;have ha:bK (SF fZ) K R #[u0,u1,.pointer (some ⟨go,0,none⟩),.pointer (some ⟨ge,0,none⟩),u4,u5,u6,.pointer (some ⟨gh,0,none⟩),u8,u9,gH,fY,gA,fW,fX,gC,u16,gQ,j6,kJ,jG,gU,iB,gM,gN,gX,gP,hY,iF,iA,iZ,jA,u32,iD,gO,gT,gY,j7,j9,iC,gZ,gS,iT,iQ,iH,iO,iI,iG,iR,iP,iK,iL,l5,l8,kS,kO,kD,j5,kC,kM,kI,jU,jX,jQ,u64,jP,jR,jZ,jY,kN,kG,kL,jS] t:=hm.tmps;have cH:t.size=73:=ha.1.symm;rw[mE,Cx.B_some rfl];intro _ Bd;refine zIj λW4 aX=>?_;have rB:qY o=true:=by
  have:=bV;unfold jV at this;simp only[fN] at this;exact this.1.1
 unfold qY at rB;have rB:=of_decide_eq_true rB
 let p:qK:=⟨Post,Shun,W0,St,base,K,R,w,lo0,lo,go,ge,n,c,A,o,es,hb,gh,ln,W.heap.size⟩
 have aP:∀a b,R a b->b<W.heap.size:=λa b x=>(hw.lt a b (.inl x)).2;have hrel:cT (SF fZ) K R (oR aK) St w W4:=cT.real hw (λa b x=>aX.keep b (aP a b x)) (by rw[aX.size];omega);have zpE:∀a,xT a=true->∃c T fz,w.heap[a]? =some (.cells c T fz):=λa h=>let⟨c,T,fz,hc,_⟩:=Ev a h;⟨c,T,fz,hc⟩
 have zwD:XOk R xT w:=⟨λa h=>⟨a,hw.tb a h⟩,zpE⟩;have fI:=zop hrel zwD;have hk:=hi.kp;have lE:=hi.sh;have zya:=hk.size;have zh7:Kp W0 R St W4:=⟨aX.os.trans hk.os,aX.tape.trans hk.tape,aX.output.trans hk.output,by rw[aX.size];omega,λb hb=>(aX.keep b aD).trans (hk.block b hb),hk.old⟩;have zbk:∀a b,R a b->b≠W.heap.size:=λa b x=>by have:=aP a b x;omega
 have zIi:Sh W0.heap.size (Ai Shun W.heap.size) R W4:=by
  refine⟨λl b hl hb hx=>?_,λa b x l hl hx=>?_,λl b hl hb hx=>?_⟩
  .rcases hx with hx|hx
   .exact lE.old l b hl hb hx
   .have:=K8 hl hx;omega
  .rcases hx with hx|hx
   .exact lE.rel a b x l hl hx
   .exact zbk a b x (K8 hl hx)
  .rcases hx with hx|hx
   .exact lE.new l b hl (by rw[aX.size] at hb;omega) hx
   .have:=K8 hl hx;have:=aX.size;omega
 have Du:∃b,R gh b:=by
  have h1:VR (SF fZ) K R (.pointer (some ⟨gh,0,none⟩)) (t.getD 7 aA):=ha.getD 7 (xD (S:=SF fZ) (K:=K) (R:=R));generalize t.getD 7 aA=t7 at h1
  cases h1 with
  |pointer y=>cases y with|some y=>cases y with|mk y=>exact⟨_,y⟩
 let SC:Nat->Prop:=λa=>St a\/xT a=true
 let τ0:cE:=tauP R SC W0 []
 have ztc:∀a b,R a b->SC a->¬τ0.own b:=λa b x h hb=>by
  rcases hb with⟨a',x',hn⟩|hb
  .obtain rfl:=hw.inj' a a' b (.inl x) (.inl x')
   exact hn h
  .cases hb
 have zhh:IQ W0 St (Ai Shun W.heap.size) W.heap.size τ0.still R (Fp R St xT) W4 [] [] R τ0 W4:=by
  refine⟨⟨⟨⟨zh7,zIi,rfl,by rw[aX.size];omega,λb hb=>?_,zbk⟩,.refl R,λb hb=>?_⟩,λb hb hs=>?_,λb hb=>?_,λc hc=>by cases hc⟩,λc hc=>by cases hc⟩
  .rcases hb with⟨a,x,_⟩|hb
   .exact zbk a b x
   .cases hb
  .obtain⟨a,x,h⟩:=hb
   exact⟨(hrel.lt a b (.inl x)).2,rfl,ztc a b x h,zbk a b x⟩
  .rcases hs with hs|⟨a,x,h⟩
   .rcases hb with⟨a',x',hn⟩|hb
    .exact hn (.inl (hk.old a' b x' hs))
    .cases hb
   .exact ztc a b x h hb
  .rcases hb with hb|⟨a,x,_⟩
   .rw[aX.size];omega
   .exact(hrel.lt a b (.inl x)).2
 have H:zap p (uN xT w):=⟨zlI R W.heap.size hi.le,Du,bV,zya,dY,λg hg=>by
  obtain⟨c,T,fz,h1,h2⟩:=Ev g hg;exact⟨c,T,_,P3 hg h1,h2⟩,Z5,λb hb hx=>Mx hx,x5⟩
 have I:Ce p (uN xT w) K SC τ0.still R (Fp R St xT) W4 (λa=>xT a=true) [] [] v (uN xT w):=⟨vY K,.refl R,λa h=>.inl h,λb hb=>.inl hb,λb hb=>by
  obtain⟨a,x,h⟩:=hb;exact .inr ⟨a,x,h⟩,Jh.first hrel zwD,λb hb=>hb,λa h=>.inr h,λa h=>.inl h,rfl,λi g hg=>by simp at hg,hR.frT hgo B8 dY Z5 zpE⟩
 refine J.phase (zDz p.N (By p.o p.es) p.D (zJw bV) (by show o.op.toNat<=_;omega)) (ty:=rC.tWg) (Wg:=W.heap.size) (l:=.mN []) (τ:=τ0) ?hb aX.wg ⟨aZ _,by rw[aX.size];omega⟩ ?bnd rfl (.a 0 [] (λ_=>1) (.mN []) ⟨rfl,λj j' h=>by omega⟩ (lB _) (.inl rfl) rfl ⟨λj h=>by omega,λj j' h=>by omega,λj h=>by omega⟩ (λj h=>by omega) (λi hi _=>by simp[hi]))
 case bnd=>
  have hr:∀a b,R a b->b<W4.heap.size/\b≠W.heap.size/\∀l,mY l b->¬Shun l:=λa b x=>⟨(hrel.lt a b (.inl x)).2,zbk a b x,lE.rel a b x⟩;rintro b ((⟨a,x,_⟩|hb)|(hb|⟨a,x,_⟩)|hb)
  .exact hr a b x
  .cases hb
  .exact⟨by rw[aX.size];omega,aD,λl hl=>lE.old l b hl hb⟩
  .exact hr a b x
  .exact hb.elim
 case hb=>
  have hI:fB (p.cx K SC τ0.still R (Fp R St xT) W4 [] []):=qK.ok I.st I.ss I.F H.low;have hB:BO (p.cx K SC τ0.still R (Fp R St xT) W4 [] []) (.mN []) ⟨13,#[u0,u1,.pointer (some ⟨go,0,none⟩),.pointer (some ⟨ge,0,none⟩),u4,u5,u6,.pointer (some ⟨gh,0,none⟩),.nilFunc,u9,gH,fY,gA,fW,fX,gC,u16,gQ,j6,kJ,jG,gU,iB,gM,gN,gX,gP,hY,iF,iA,iZ,jA,u32,iD,gO,gT,gY,j7,j9,iC,gZ,gS,iT,iQ,iH,iO,iI,iG,iR,iP,iK,iL,l5,l8,kS,kO,kD,j5,kC,kM,kI,jU,jX,jQ,u64,jP,jR,jZ,jY,kN,kG,kL,jS],[.code Gq],false⟩ (uN xT w):=by
   rw[show Gq=.seq (.seq ziH (.block 4 (.loop zcD))) zj0 from rfl];refine BO.seq hI ?_;refine BO.seq hI ?_;refine BO.pV mG hI tK (λw1 T1 eT Q' cV=>?_);have Sy:=aC (show Ce p (uN xT w) K SC τ0.still R (Fp R St xT) W4 (λa=>xT a=true) [] [] v w1 by rw[eT];exact I.tp T1 0);have g1:w1.cell? ⟨go,1,none⟩=some (.int .i64 o.op):=aJ Sy.o.h.e.bo 1
   try dsimp only
   clear eT;go_wp2;refine cV.o _ _ ?_;clear cV;refine BO.block hI ?_;refine BO.loop hI ?_;exact rh_ops H o.op.toNat 0 (by show _=o.op;omega) K SC τ0.still R (Fp R St xT) W4 (λa=>xT a=true) [] [] v w1 _ _ _ _ _ _ _ _ _ _ _ _ _ _ _ _ _ _ _ _ _ _ _ _ _ _ _ _ _ _ _ _ _ _ _ _ _ _ _ _ _ _ _ _ _ _ _ _ _ _ _ _ _ _ _ _ _ _ _ _ _ _ _ _ _ _ _ Sy.o rfl
  have h1:=ha.set 8 (.junk (v':=.pointer (some ⟨W.heap.size,0,none⟩)) Yi);simp only[gK,dV,dX] at h1;have hm:=hB R W4 ⟨13,t.setIfInBounds 8 (.pointer (some ⟨W.heap.size,0,none⟩)),[.code Gq],false⟩ τ0 fI ⟨rfl,rfl,rfl,h1,λx hx=>?_⟩ zyI ⟨zhh,⟨0,0,aX.wg⟩⟩
  .rw[Cx.B_none rfl,mE] at hm
   exact hm
  .obtain rfl:=sC.1 hx
   show(t.setIfInBounds 8 _).getD 8 aA=_;simp[tD,cH];rfl
abbrev JS (St:Nat->Prop)(W0:aE)(Post:aF->aE->Prop)(m:Fm)(ms:List Fm)(w:aE):Prop:=JL aK (oK olL) (oK alL) fZ St W0 Post m ms w
theorem zAu {G:Gp}(h:cT S K R G St w W)(e:w'.heap=w.heap):cT S K R G St w' W:=by
 refine⟨h.inj,h.inj',λa b x=>by rw[e];exact h.lt a b x,h.low,by rw[e];exact h.gle,λa b x=>?_,λa b x hn=>?_,λa x=>?_,λa c y hp=>?_,h.tb⟩
 .rw[e];exact h.cont a b x
 .rw[e];exact h.rest a b x hn
 .rw[e];exact h.st a x
 .rw[e] at hp;exact h.np a c y hp
def JS.heap {m:Fm}{ms:List Fm}(h:JS St W0 Post m ms w)(e:w'.heap=w.heap):JS St W0 Post m ms w':=
 λK R W m' ms' Shun a b c d k=>h K R W m' ms' Shun (zAu a e.symm) b c d k
theorem zIm (a b:aF):(#[a,b]:Array aF)++nD (73-(#[a,b]:Array aF).size) aA=#[a,b,aA,aA,aA,aA,aA,aA,aA,aA,aA,aA,aA,aA,aA,aA,aA,aA,aA,aA,aA,aA,aA,aA,aA,aA,aA,aA,aA,aA,aA,aA,aA,aA,aA,aA,aA,aA,aA,aA,aA,aA,aA,aA,aA,aA,aA,aA,aA,aA,aA,aA,aA,aA,aA,aA,aA,aA,aA,aA,aA,aA,aA,aA,aA,aA,aA,aA,aA,aA,aA,aA,aA]:=by
 have h:(#[a,b]:Array aF).size=2:=aQ;rw[h];apply Jr;simp only[N5,zgG];rfl
structure Hall (w wn:aE)(o:jE)(es:List dG)(hb:Nat):Prop where
 below:bU w.heap.size w wn
 ex:∃lo v ln qn,w.heap.size<=lo/\lo<=wn.heap.size/\bE wn lo hb v (rZ o es ln qn qn.length)/\(ln.length:Int)=o.ln/\(qn.length:Int)=o.op
section
variable {Post:aF->aE->Prop}{W0:aE}{St:Nat->Prop}
theorem zCR {m:Fm}{ms:List Fm}{w:aE}{ops:Array aY}{i:Nat}{rest:List Nat}{k:List dW}{oo:aY}{args:Array cM}{j8:Array aM}{A:Option bO}{n c:Nat}{o:jE}{es:List dG}
 (hr:m.ret=false) (pR:m.todo=.inRegion ops (i::rest)::k) (ho:ops[i]? =some oo) (cC:dA oo (dN ops m.tmps)=true) (hop:oo.op=.call ⟨.value (.func 13),args,j8⟩) (rR:args.all (dL fZ)=true)
 (hv:args.map m.eval=#[.agg #[.int .i64 o.ln,.int .i64 o.op,.int .i64 o.pt],.slice A n c]) (G3:cG w 0 w.heap.size 3 A n c (lW es)) (hn:n<=1048576) (hT:uQ w) (Ev:Fh w)
 (zGe:jV o es=false->∀wn,bU w.heap.size w wn->JS St W0 Post (m.fin ops i rest k (.pointer none)) ms wn)
 (zzc:jV o es=true->∀wn hb,Hall w wn o es hb->JS St W0 Post (m.fin ops i rest k (.pointer (some ⟨hb,0,none⟩))) ms wn):JS St W0 Post m ms w:=by
 refine JO.callF lvF hr pR ho cC hop rfl rR λK R W m' ms' Shun bX hw hm iJ lE hk Be=>?_;rw[hv] at Be;have lS:Cs (zgn).results.toList:=.inr (.inl ⟨_,rfl⟩);have Bj:(zgn).ntmps=73:=rfl;have zri:=Be.pad 73;rw[zIm] at zri;rw[Ve (c:=n9) zeG rfl,Bj];have Z5:∀a,xT a=true->a<w.heap.size:=λa h=>(hw.lt a a (.inl (hw.tb a h))).1;refine BO.aloneIn (p:=aK) (gs:=Bi) (fs:=fZ) (St:=St) (K:=K) (R:=R) (m:=⟨13,#[.agg #[.int .i64 o.ln,.int .i64 o.op,.int .i64 o.pt],.slice A n c,aA,aA,aA,aA,aA,aA,aA,aA,aA,aA,aA,aA,aA,aA,aA,aA,aA,aA,aA,aA,aA,aA,aA,aA,aA,aA,aA,aA,aA,aA,aA,aA,aA,aA,aA,aA,aA,aA,aA,aA,aA,aA,aA,aA,aA,aA,aA,aA,aA,aA,aA,aA,aA,aA,aA,aA,aA,aA,aA,aA,aA,aA,aA,aA,aA,aA,aA,aA,aA,aA,aA],[.code n9],false⟩) ?_ hw ⟨rfl,rfl,rfl,zri,λx hx=>by cases hx⟩ lE hk;refine zA0 G3 hn hT (λT todo w' h4 hO bV=>?_) (λwB lo go ge K' w' v ln hb gh u0 u1 u4 u5 u6 u8 u9 gH fY gA fW fX gC u16 gQ j6 kJ jG gU iB gM gN gX gP hY iF iA iZ jA u32 iD gO gT gY j7 j9 iC gZ gS iT iQ iH iO iI iG iR iP iK iL l5 l8 kS kO kD j5 kC kM kI jU jX jQ u64 jP jR jZ jY kN kG kL jS hK bV dY hgo B8 Pn hR x5=>?_)
 .refine BO.aloneOut hm iJ rfl hr pR (v:=.pointer none) zeG lS (by rw[<-h4];rfl) ?_
  have zEt:bU w.heap.size w {w' with os:=w.os,tape:=w.tape,output:=w.output}:=⟨rfl,rfl,rfl,hO.1,hO.2⟩;exact JS.heap (zGe bV _ zEt) rfl
 .refine zyR (lo0:=w.heap.size) hR hgo B8 dY bV x5 (λg hg=>?_) Z5 (λR1 Wg zfp K2 R2 w2 v2 qn u0 u1 u2 u3 u4 u5 u6 u8 u9 gH fY gA fW fX gC u16 gQ j6 kJ jG gU iB gM gN gX gP hY iF iA iZ jA u32 iD gO gT gY j7 j9 iC gZ gS iT iQ iH iO iI iG iR iP iK iL l5 l8 kS kO kD j5 kC kM kI jU jX jQ u64 jP jR jZ jY kN kG kL jS zf9 Kb hE=>?_)
  .have qX:=Z5 g hg
   rw[hR.e.old g aD,Pn g qX];exact Ev g hg
  .have zf9:K'.le K2:=zf9
   have Kb:R1.le R2:=Kb;obtain⟨hA,hold,hz,zfX,Tv⟩:=hE;have hA:bE w2 lo hb v2 (rZ o es ln qn qn.length):=hA;have hold:∀b,b<w.heap.size->w2.heap[b]? =w'.heap[b]? :=hold;have hz:lo<=w2.heap.size:=hz;have zfX:w2.heap[gh]? =some (.cells #[.pointer (some ⟨hb,0,none⟩)] 45):=zfX;have zth:∀b,b<w.heap.size->w2.heap[b]? =w.heap[b]? :=λb bY=>by
    rw[hold b bY,hR.e.old b aD,Pn b bY]
   have HA:=aC hA;have HO:=aC zth;have HB:=aC zfX;clear hA hold zth zfX;show BO (D6 aK Bi fZ Post (Ai Shun Wg) W0 St K2 R2 (m'.fr::ms'.map Fm.fr)) () _ _;refine BO.regEnd cY ?_;refine BO.seq cY ?_;refine BO.pV mG cY tK (λw3 T1 iM Q' cV=>?_);have g1:(Tt.tp w2 T1 0).cell? ⟨gh,0,none⟩=some (.pointer (some ⟨hb,0,none⟩)):=aJ HB.o 0;have e3:w3.heap=w2.heap:=by rw[iM];rfl
   have uI:=aC e3
   try dsimp only
   rw[<-iM] at g1;clear iM e3;go_wp2;refine cV.o _ _ ?_;clear cV;refine BO.ret cY ?_;refine BO.aloneOut (oV.monoK (vS hK zf9) (hm.mono (zfp.trans Kb))) (uD.monoK (vS hK zf9) (iJ.mono (zfp.trans Kb))) rfl hr pR (v:=.pointer (some ⟨hb,0,none⟩)) zeG lS rfl ?_;have hH:Hall w {w2 with os:=w.os,tape:=w.tape,output:=w.output} o es hb:=⟨⟨rfl,rfl,rfl,by show w.heap.size<=w2.heap.size;omega,HO.o⟩,lo,v2,ln,qn,dY,hz,HA.o.same rfl,x5,Tv⟩;exact JS.heap (zzc bV _ _ hH) uI.o
end
end Go.Proofs.YtfcjiloojkjaeaaDoor
namespace Go.Proofs.YtfcjiloojkjaeaaDoor
open Go.RowKit Go.Mt Go.Conc Go.Tt
structure Bl (B:Nat)(w w':aE):Prop where
 size:w.heap.size<=w'.heap.size
 block:∀b,b<B->w'.heap[b]? =w.heap[b]?
def Bl.refl (B:Nat)(w:aE):Bl B w w:=⟨aZ _,λ_ _=>rfl⟩
variable {B:Nat}{a b:aE}
def Bl.below {c:aE}(h:Bl B a b)(k:bU b.heap.size b c)(hB:B<=a.heap.size):Bl B a c:=⟨eP h.size k.size,λx hx=>(k.block x zkw).trans (h.block x hx)⟩
def Bl.tp (h:Bl B a b)(T:kK)(e:Nat):Bl B a (Tt.tp b T e):=⟨h.size,h.block⟩
section
variable {p:bS}{op gs gs₁ fs:aN->Bool}{St:Nat->Prop}{W0:aE}{Post:aF->aE->Prop}
variable {c:vJ}{k:List dW}{ms:List Fm}
theorem JO.sq (L:Lv p op gs gs₁ fs){fn:aN}{tmps:Array aF}{w:aE}(hf:op fn=false)(h:JL p op gs fs St W0 Post ⟨fn,tmps,.code (sA c):: .code (sB c)::k,false⟩ ms w)(e:c=.seq (sA c) (sB c):=by exact rfl):JL p op gs fs St W0 Post ⟨fn,tmps,.code c::k,false⟩ ms w:=by
 rw[e];exact JO.seq L hf h
theorem JO.cd (L:Lv p op gs gs₁ fs){fn:aN}{tmps:Array aF}{w:aE}(t:Bool)(hf:op fn=false)(h:JL p op gs fs St W0 Post ⟨fn,tmps,.code (if t then cA c else cB c)::k,false⟩ ms w)(hc:(bH tmps []).eval (cX c)=.bool t:=by exact rfl)(e:c=.cond (cX c) (cA c) (cB c):=by exact rfl):JL p op gs fs St W0 Post ⟨fn,tmps,.code c::k,false⟩ ms w:=by
 rw[e];exact JO.cond L hf hc h
theorem JO.sk (L:Lv p op gs gs₁ fs){fn:aN}{tmps:Array aF}{w:aE}(hf:op fn=false)(h:JL p op gs fs St W0 Post ⟨fn,tmps,k,false⟩ ms w)(e:c=.skip:=by exact rfl):JL p op gs fs St W0 Post ⟨fn,tmps,.code c::k,false⟩ ms w:=by
 rw[e];exact JO.skip L hf h
theorem JO.rt (L:Lv p op gs gs₁ fs){fn:aN}{tmps:Array aF}{w:aE}(hf:op fn=false)(h:JL p op gs fs St W0 Post ⟨fn,tmps,.code .ret::k,true⟩ ms w)(e:c=.ret:=by exact rfl):JL p op gs fs St W0 Post ⟨fn,tmps,.code c::k,false⟩ ms w:=by
 rw[e];exact JO.ret L hf h
theorem JO.rn (L:Lv p op gs gs₁ fs){fn:aN}{tmps:Array aF}{w:aE}(hf:op fn=false)(ops:Array aY)(is:List Nat)(h:JL p op gs fs St W0 Post ⟨fn,tmps,.inRegion ops is::k,false⟩ ms w)(e:c=.region (bI c) ops false:=by exact rfl)(hr:gD ops.size=is:=by exact rfl):JL p op gs fs St W0 Post ⟨fn,tmps,.code c::k,false⟩ ms w:=by
 subst hr;rw[e];exact JO.reg L hf h
variable {c':vJ}{b:List Fm}
theorem JO.pQ (L:Lv p op gs gs₁ fs){fn:aN}{tmps:Array aF}{w:aE}(wJ:op fn=false)
 (qI:∀(T:kK) (Q:Exit->Go.Act->aE->Prop),pP (∀a' w',JL p op gs fs St W0 Post ⟨fn,a'.tmps,k,false⟩ b w'->Q .normal a' w')->Code.wp p c' Q ⟨tmps,[]⟩ (Tt.tp w T 0)) (e:c=c':=by conv=>lhs;whnf) (hc:oI p ⟨fs,gs₁,true⟩ c=true:=by kernel_rfl):
 JL p op gs fs St W0 Post ⟨fn,tmps,.code c::k,false⟩ b w:=by
 subst e;exact JO.piece L hc wJ λT=>qI T _ (aC λa' w' h=>⟨rfl,h⟩)
theorem JO.tQ (L:Lv p op gs gs₁ fs){fn:aN}{tmps:Array aF}{w:aE}(wJ:op fn=false)
 (qI:∀(T:kK) (Q:Exit->Go.Act->aE->Prop),pP (∀a' w',(∀todo,JL p op gs fs St W0 Post ⟨fn,a'.tmps,todo,true⟩ b w')->Q .ret a' w')->Code.wp p c' Q ⟨tmps,[]⟩ (Tt.tp w T 0)) (e:c=c':=by conv=>lhs;whnf) (hc:oI p ⟨fs,gs₁,true⟩ c=true:=by kernel_rfl):
 JL p op gs fs St W0 Post ⟨fn,tmps,[.code c],false⟩ b w:=by
 subst e;exact JO.tail L hc wJ λT=>qI T _ (aC λa' w' h=>⟨.inr rfl,h⟩)
theorem JO.mv (L:Lv p op gs gs₁ fs){fn:aN}{tmps T':Array aF}{ops:Array aY}{i:Nat}{rest:List Nat}{w:aE}{o:aY}(hf:op fn=false)(v:aF)(h:JL p op gs fs St W0 Post ⟨fn,T',.inRegion ops rest::k,false⟩ ms w)(ho:ops[i]? =some o:=by exact zgi rfl (by conv=>lhs;whnf))
 (hx:∀T e,(aO (bH tmps []).eval o).run p (Tt.tp w T e)=.ok (.value v) (Tt.tp w T e):=by exact λ_ _=>rfl) (cC:dA o (dN ops tmps)=true:=by exact rfl)
 (ht:(b7 ⟨tmps,[]⟩ o.dst v).tmps=T':=by first|(simp only[Go.Act.put,List.setIfInBounds_toArray,List.set_cons_zero,List.set_cons_succ];done)|(simp only[Go.Act.put,List.setIfInBounds_toArray,List.set_cons_zero,List.set_cons_succ];rfl)):JL p op gs fs St W0 Post ⟨fn,tmps,.inRegion ops (i::rest)::k,false⟩ ms w:=
 JO.opv L hf ho cC hx (ht▸h)
end
variable {c lo hi s n:Nat}{w:aE}{A:Option bO}{xs:List aF}
def cG.tp (h:cG w lo hi s A n c xs)(T:kK)(e:Nat):cG (Tt.tp w T e) lo hi s A n c xs:=⟨h.len,h.le,h.cap,h.at_⟩
def z8.tp {E:Nat}(h:z8 E s w lo hi A n c xs)(T:kK)(e:Nat):z8 E s (Tt.tp w T e) lo hi A n c xs:=⟨h.slc.tp T e,h.blk⟩
variable {w':aE}
def cG.bls (h:cG w lo hi s A n c xs)(k:Bl B w w')(hB:w.heap.size<=B):cG w' lo hi s A n c xs:=h.keep k.size λb _ _ h3=>k.block b aD
def z8.bls {E:Nat}(h:z8 E s w lo hi A n c xs)(k:Bl B w w')(hB:w.heap.size<=B):z8 E s w' lo hi A n c xs:=h.keep k.size λb _ _ h3=>k.block b aD
def Bl.then {B':Nat}{c:aE}(h:Bl B a b)(k:Bl B' b c)(hB:B<=B'):Bl B a c:=⟨eP h.size k.size,λx hx=>(k.block x aD).trans (h.block x hx)⟩
def Bl.below' {c:aE}(h:Bl B a b)(k:bU b.heap.size b c)(hB:B<=b.heap.size):Bl B a c:=⟨eP h.size k.size,λx hx=>(k.block x aD).trans (h.block x hx)⟩
variable {o:Obj}
def X3 (h:Bl B a b){N:Nat}(hN:a.heap[N]? =some o)(hB:N<B):b.heap[N]? =some o:=(h.block N hB).trans hN
def Uv (o:jE)(es:List dG):Int:=if jV o es then(C3 o es).clk else-1
def ztV:Go.Code:=(zgA.body).getD .skip
def rCA1:Go.Code:=match ztV with| .seq _ (.seq (a) _)=>a|_=>.skip
def zjv:Array Oper:=match rCA1 with| .region _ ops _=>ops|_=>#[]
abbrev oCA1_0:Oper:=⟨some 6,.load 27 (.tmp 2),27,"l6_office.go:412",#[],none⟩
def zzw:zjv[0]? =some oCA1_0:=rfl
abbrev oCA1_2:Oper:=⟨some 8,.call ⟨.value (.func 13),#[.tmp 6,.tmp 7],#[27,29]⟩,45,"l6_office.go:412",#[⟨0,.data⟩,⟨1,.data⟩],none⟩
def zi1:zjv[2]? =some oCA1_2:=rfl
section
variable {St:Nat->Prop}{W0:aE}{Post:aF->aE->Prop}
theorem zF8 {m:Fm}{ms:List Fm}{w:aE}{ops:Array aY}{i:Nat}{rest:List Nat}{k:List dW}{oo:aY}{args:Array cM}{j8:Array aM}{A:Option bO}{n c:Nat}{o:jE}{es:List dG}
 (hr:m.ret=false) (zen:oK olL m.fn=false) (pR:m.todo=.inRegion ops (i::rest)::k) (ho:ops[i]? =some oo) (cC:dA oo (dN ops m.tmps)=true) (hop:oo.op=.call ⟨.value (.func 8),args,j8⟩)
 (hv:args.map m.eval=#[.agg #[.int .i64 o.ln,.int .i64 o.op,.int .i64 o.pt],.slice A n c]) (G3:cG w 0 w.heap.size 3 A n c (lW es)) (hn:n<=1048576) (hT:uQ w) (Ev:Fh w)
 (hJ:∀wn V,Bl w.heap.size w wn->V=.int .i64 (Uv o es)->JS St W0 Post (m.fin ops i rest k (V)) ms wn):JS St W0 Post m ms w:=by
 have L:=lvF;have fU:oK olL 8=false:=aS;have zGy:=JO.callN (St:=St) (W0:=W0) (Post:=Post) (ms:=ms) (w:=w) (fn:=zgA) (c:=ztV) L hr pR ho cC hop fU;refine zGy zpI aH rfl ?_;rw[hv];have Aw:(#[.agg #[.int .i64 o.ln,.int .i64 o.op,.int .i64 o.pt],.slice A n c]:Array aF)++nD ((zgA).ntmps-(#[.agg #[.int .i64 o.ln,.int .i64 o.op,.int .i64 o.pt],.slice A n c]:Array aF).size) aA=#[.agg #[.int .i64 o.ln,.int .i64 o.op,.int .i64 o.pt],.slice A n c,aA,aA,aA,aA,aA,aA,aA,aA,aA,aA,aA,aA,aA]:=by
  have e:(zgA).ntmps=15:=rfl;rw[e];apply Jr;simp only[N5,zgG,List.size_toArray,List.length_cons,List.length_nil];rfl
 rw[Aw];have pD:w.heap.size<=w.heap.size:=aZ _;have zah:∀(tmps:Array aF) (td:List dW) (w':aE) (V:aF),tmps.getD 4 aA=V->Bl w.heap.size w w'->V=.int .i64 (Uv o es)->JS St W0 Post ⟨8,tmps,td,true⟩ (m::ms) w':=by
  intro tmps td w' V e4 hb cP;refine JO.back L rfl pR zpI (v:=V) ?_ zen (hJ w' V hb cP);show(nY [.tmp 4] tmps).run _ _=_;simp only[nY,xZ,e4];rfl
 refine JO.sq L fU ?_;refine JO.pQ L fU (λTp Q HQ=>?_);obtain⟨w1,eT⟩:=aU (Tt.tp w Tp 0);have B0:=aC (show Bl w.heap.size w w1 by rw[eT];exact(Bl.refl _ w).tp Tp 0);have eE:w1.heap.size=w.heap.size:=by rw[eT];rfl
 have eh:w1.heap=w.heap:=by rw[eT];rfl
 have EH:=aC eh;rw[<-eT];clear eT eh;go_wp2;refine HQ.o _ _ ?_;clear HQ;obtain⟨w2,fQ⟩:=aU (w1.alloc (.cells #[.int .i64 o.ln,.int .i64 o.op,.int .i64 o.pt] 27));have k2:∀b,b<w.heap.size->w2.heap[b]? =w.heap[b]? :=λb hb=>by rw[fQ,Dm aD,EH.o]
 have z2:w2.heap.size=w.heap.size+1:=by rw[fQ,qS,eE]
 have g2:w2.heap[w1.heap.size]? =some (.cells #[.int .i64 o.ln,.int .i64 o.op,.int .i64 o.pt] 27):=by rw[fQ];exact D3 _ _
 have zAW:bU w.heap.size w {w2 with os:=w.os,tape:=w.tape,output:=w.output}:=⟨rfl,rfl,rfl,by show w.heap.size<=w2.heap.size;omega,k2⟩;have zy5:uQ w2:=zkV (w:={w2 with os:=w.os,tape:=w.tape,output:=w.output}) rfl (zin hT _ zAW);have zCY:Fh w2:=λg hg=>by
  obtain⟨c,T,fz,h1,h2⟩:=Ev g hg;exact⟨c,T,fz,(k2 g (dM.1 h1).1).trans h1,h2⟩
 have Ap:cG w2 0 w2.heap.size 3 A n c (lW es):=(G3.keep aD λb _ q _=>k2 b q).wide (aZ _) aD;rw[<-fQ];clear fQ;rw[eE] at g2;refine JO.sq L fU ?_;refine JO.rn L fU zjv [0,1,2,3] ?_;refine JO.opv L (v:=.agg #[.int .i64 o.ln,.int .i64 o.op,.int .i64 o.pt]) fU zzw rfl (λT e=>?_) ?_
 .have c0:(Tt.tp w2 T e).cell? ⟨w.heap.size,0,none⟩=some (.int .i64 o.ln):=aJ g2 0
  have c1:(Tt.tp w2 T e).cell? ⟨w.heap.size,1,none⟩=some (.int .i64 o.op):=aJ g2 1;have c2:(Tt.tp w2 T e).cell? ⟨w.heap.size,2,none⟩=some (.int .i64 o.pt):=aJ g2 2;unfold aO;go_simp
  try rfl
 simp only[b7,gK,dV,dX];refine JO.mv L fU (.slice A n c) ?_;refine zCR (o:=o) (es:=es) rfl rfl zi1 rfl rfl aS (by simp[Fm.eval]) Ap hn zy5 zCY (λbV wn hb=>?_) (λbV wn hb hH=>?_)
 .simp only[Fm.fin,zi1,xI,gK,dV,dX]
  have bY:Bl w.heap.size w wn:=⟨by have:=hb.size;omega,λb bY=>(hb.block b aD).trans (k2 b bY)⟩;refine JO.mv L fU (.pointer none) ?_;refine JO.regEnd L fU ?_;refine JO.sq L fU ?_;refine JO.sq L fU ?_;refine JO.pQ L fU (λTp Q HQ=>?_);go_wp2;refine HQ.o _ _ ?_;clear HQ;refine JO.cd L true fU ?_;refine JO.sq L fU ?_;refine JO.pQ L fU (λNx Q HQ=>?_);go_wp2;refine HQ.o _ _ ?_;clear HQ;refine JO.rt L fU ?_;exact zah _ _ _ _ rfl ((bY.tp Tp 0).tp Nx 0) (by simp[Uv,bV])
 .simp only[Fm.fin,zi1,xI,gK,dV,dX]
  obtain⟨mI,lo,v,ln,qn,h1,h2,hA,h3,h4⟩:=hH;have bY:Bl w.heap.size w wn:=⟨by have:=mI.size;omega,λb bY=>(mI.block b aD).trans (k2 b bY)⟩;have HA:=aC hA;have zIN:=aC bY;clear hA bY mI;refine JO.mv L fU (.pointer (some ⟨hb,0,none⟩)) ?_;refine JO.regEnd L fU ?_;refine JO.sq L fU ?_;refine JO.sq L fU ?_;refine JO.pQ L fU (λTp Q HQ=>?_);go_wp2;refine HQ.o _ _ ?_;clear HQ;refine JO.cd L false fU ?_;refine JO.sk L fU ?_;refine JO.sq L fU ?_;refine JO.pQ L fU (λNx Q HQ=>?_);obtain⟨w5,nU⟩:=aU (Tt.tp (Tt.tp wn Tp 0) Nx 0);have c5:w5.cell? ⟨hb,11,none⟩=some (.int .i64 (rZ o es ln qn qn.length).r.clk):=by rw[nU];exact aJ HA.o.blk 11
  have A5:=aC (show bE w5 lo hb v (rZ o es ln qn qn.length) by rw[nU];exact HA.o.same rfl);have B5:=aC (show Bl w.heap.size w w5 by rw[nU];exact(zIN.o.tp Tp 0).tp Nx 0);rw[<-nU];clear nU;go_wp2;refine HQ.o _ _ ?_;clear HQ;refine JO.rt L fU ?_;exact zah _ _ _ _ rfl B5.o (by simp[Uv,bV,rZ])
end
section
variable {p:bS}{op gs gs₁ fs:aN->Bool}{St:Nat->Prop}{W0:aE}{Post:aF->aE->Prop}
def JO.callV (L:Lv p op gs gs₁ fs){m:Fm}{ms:List Fm}{w:aE}{ops:Array aY}{i:Nat}{rest:List Nat}{k:List dW}{o:aY}{f:aN}{args:Array cM}{j8:Array aM}{xs:Array aF}(hr:m.ret=false)(pR:m.todo=.inRegion ops (i::rest)::k)
 (ho:ops[i]? =some o) (cC:dA o (dN ops m.tmps)=true) (hop:o.op=.call ⟨.value (.func f),args,j8⟩) (hg:gs₁ f=true) (wJ:op m.fn=false) (rR:args.all (dL fs)=true) (hv:args.map m.eval=xs)
 {Q:aF->aE->Prop} (Yx:∀v w T e,Q v w->Q v (Tt.tp w T e)) (hc:∀T,iE p f xs (Tt.tp w T 0) (λe w'=>∃v,e=.returned v/\Q v w'))
 (hJ:∀v w',Q v w'->JL p op gs fs St W0 Post (m.fin ops i rest k v) ms w'):JL p op gs fs St W0 Post m ms w:=
 JO.callL L hr pR ho cC hop hg wJ rR Yx (λT=>hv▸hc T) hJ
end
variable {b:Nat}
def M2 (h:w.heap[b]? =some o)(T:kK)(e:Nat):(Tt.tp w T e).heap[b]? =some o:=h
theorem zAl {l:List dG}:∀v∈lW l,Lx v:=by
 intro v hv;obtain⟨d,_,hd⟩:=List.mem_flatMap.1 hv;simp only[dG.cells,List.mem_cons,lX,or_false] at hd;rcases hd with rfl|rfl|rfl
 all_goals first
  |exact .inl ⟨_,_,rfl⟩
  |exact .inr (.inl ⟨_,rfl⟩)
theorem uQ.bls (h:uQ w)(hb:Bl B w w')(hB:w.heap.size<=B):uQ w':=by
 have bY:bU w.heap.size w {w' with os:=w.os,tape:=w.tape,output:=w.output}:=⟨rfl,rfl,rfl,hb.size,λb zrX=>hb.block b aD⟩;exact zkV (w:={w' with os:=w.os,tape:=w.tape,output:=w.output}) rfl (zin h _ bY)
theorem Fh.bls (h:Fh w)(hb:Bl B w w')(hB:w.heap.size<=B):Fh w':=by
 intro g hg;obtain⟨c,T,fz,hc,hu⟩:=h g hg;exact⟨c,T,fz,(hb.block g (by have:=(dM.1 hc).1;omega)).trans hc,hu⟩
theorem zCi {p:bS}{o:aY}{t:aM}{x:cM}{ρ:cM->aF}{cs:Array aF}{T:aM}{fz:Nat×Nat}{d:TypeDesc}(hop:o.op=.load t x)(hb:w.heap[b]? =some (.cells cs T fz))(hx:ρ x=.pointer (some ⟨b,0,none⟩))
 (hu:p.underlying t=some d) (hd:d.isRow=true) (hi:(p.info? t).map (·.size)=some cs.size):(aO ρ o).run p w=.ok (.value (.agg cs)) w:=by
 obtain⟨dst,yF,type,pos,after,guard⟩:=o;simp only at hop;subst hop;have:=run_loadAt_mid (P:=p) w b 0 t cs.toList d (λj v hj=>by rw[Nat.zero_add,aJ hb];simpa using hj) hu hd zd7;simp only[aO,hx,Sem.run_bind,this,Result.andThen_ok];rfl
def Uf (f s p:Int)(W:aE)(v:aF)(w':aE):Prop:=v=.agg #[.int .i64 f,.int .i64 s,.int .i64 p]/\Bl W.heap.size W w'
def Uf.tp {f s p:Int}{W:aE}{v:aF}(h:Uf f s p W v w)(T:kK)(e:Nat):Uf f s p W v (Tt.tp w T e):=⟨h.1,h.2.tp T e⟩
theorem zBg (f s p:Int)(W:aE)(T:kK):
 iE aK 6 #[.agg #[.int .i64 f,.int .i64 s,.int .i64 p]] (Tt.tp W T 0) λe w'=>∃v,e=.returned v/\Uf f s p W v w':=by
 refine(zoW f s p _).mono ?_;rintro e w' ⟨he,hb⟩;exact⟨_,he,rfl,((Bl.refl _ W).tp T 0).below hb (aZ _)⟩
end Go.Proofs.YtfcjiloojkjaeaaDoor
namespace Go.Proofs.YtfcjiloojkjaeaaDoor
open Go.ChangeShapes Go.WideShapes Go.ChangeAt Go.RowKit Go.Mt Go.Conc Go.Tt
def Tu:List (String×DataW Unit):=[("math/bits.deBruijn32tab",Rows.laid_math_bits_deBruijn32tab),("math/bits.deBruijn64tab",Rows.laid_math_bits_deBruijn64tab),("internal/strconv.uint64pow10",Rows.laid_internal_strconv_uint64pow10)]
def zH1 (os:Os)(args:Array aF):laidMetH aK Tu ((aE.doorLaid aK 400 os).forCall (λ_ _=>0) ⟨#[],args,[]⟩).memory:=
 laidMetH_of_parts3 (fuel:=8) (laidMet_of_run' 8 aS aS) aS aS
def pow_eq:Rows.laid_internal_strconv_uint64pow10 (H:=Unit)=Lib.tabData .u64 Lib.pow10Tab:=aS
variable {W:aE}
theorem zC6 (h:laidMetH aK Tu W):uQ W:=by
 rw[zvM _ _ _ aS] at h;obtain⟨ps,⟨g0,t0,Bb,f0,p0,q0,Sj,zlG,eM,Q9,⟨g1,t1,sP,f1,p1,q1,qX,Ff,mJ,Nh,⟨g2,t2,zxw,f2,p2,q2,yA,zow,sO,Aj,_,_⟩,_⟩,_⟩,_⟩:=h;have e1:aK.globalNamed "internal/strconv.uint64pow10" =some 0:=aS;have e2:(aK.globals[0]?).map (·.type)=some 147:=aS;obtain rfl:=cD (e1.symm.trans yA);obtain rfl:=cD (e2.symm.trans zow);rw[pow_eq] at Aj;unfold uQ zft;rw[sO,<-Lib.cells_of_tab Tryd.underlying147 Tryd.underlying66 aS aS Aj]
theorem ze8 {nm:String}{g:Nat}{cs:Array aF}(hg:aK.globalNamed nm=some g)(h:W.var? aK nm=some cs):∃T fz,W.heap[g]? =some (.cells cs T fz):=by
 unfold zd3 at h;rw[hg] at h;simp only[xI] at h;split at h
 .rename_i c T fz hb
  injection h with h;subst h;exact⟨T,fz,hb⟩
 .cases h
theorem zzh (g:Nat)(h:At aK g=true):aK.globalNamed "math/bits.deBruijn32tab" =some g\/aK.globalNamed "math/bits.deBruijn64tab" =some g\/aK.globalNamed "internal/strconv.uint64pow10" =some g:=by
 have rU:((gD aK.globals.size).all λg=>!(At aK g)||decide (aK.globalNamed "math/bits.deBruijn32tab" =some g)||decide (aK.globalNamed "math/bits.deBruijn64tab" =some g)||decide (aK.globalNamed "internal/strconv.uint64pow10" =some g))=true:=aS;have aP:g<Tryd.prog.globals.size:=by
  unfold At at h
  cases e:aK.globals[g]? with
  |none=>rw[e] at h;cases h
  |some x=>exact(dM.1 e).1
 have:=List.all_eq_true.1 rU g (List.mem_range.2 aP);simp only[h,Bool.not_true,Bool.false_or,Dq,decide_eq_true_eq] at this;rcases this with(h|h)|h
 .exact .inl h
 .exact .inr (.inl h)
 .exact .inr (.inr h)
theorem zB2 (h:laidMetH aK Tu W)(g:Nat)(hg:At aK g=true):∃c T fz,W.heap[g]? =some (.cells c T fz):=by
 rw[zvM _ _ _ aS] at h;obtain⟨ps,⟨g0,t0,Bb,f0,p0,q0,Sj,zlG,eM,Q9,⟨g1,t1,sP,f1,p1,q1,qX,Ff,mJ,Nh,⟨g2,t2,zxw,f2,p2,q2,yA,zow,sO,Aj,_,_⟩,_⟩,_⟩,_⟩:=h;rcases zzh g hg with e|e|e
 .exact⟨Bb,ze8 e eM⟩
 .exact⟨sP,ze8 e mJ⟩
 .exact⟨zxw,ze8 e sO⟩
def Ye (A:Option bO)(b:Nat):Bool:=match A with|some a=>decide (a.block=b)|none=>false
def J2 (A1 A2 A3:Option bO)(b:Nat):Bool:=At aK b||Ye A1 b||Ye A2 b||Ye A3 b
variable {A:Option bO}
theorem zi7 {b:Nat}(h:Ye A b=true):∃a,A=some a/\a.block=b:=by
 unfold Ye at h
 cases A with
 |none=>cases h
 |some a=>exact⟨a,rfl,of_decide_eq_true h⟩
theorem zA9 {A1 A2 A3:Option bO}(hL:laidMetH aK Tu W)(h1:∀a,A1=some a->a.spot=none/\∃c T fz,W.heap[a.block]? =some (.cells c T fz))(h2:∀a,A2=some a->a.spot=none/\∃c T fz,W.heap[a.block]? =some (.cells c T fz))(h3:∀a,A3=some a->a.spot=none/\∃c T fz,W.heap[a.block]? =some (.cells c T fz))(b:Nat)(hb:J2 A1 A2 A3 b=true):∃c T fz,W.heap[b]? =some (.cells c T fz):=by
 unfold J2 at hb;simp only[Dq] at hb;rcases hb with((hb|hb)|hb)|hb
 .exact zB2 hL b hb
 .obtain⟨a,e,rfl⟩:=zi7 hb;exact(h1 a e).2
 .obtain⟨a,e,rfl⟩:=zi7 hb;exact(h2 a e).2
 .obtain⟨a,e,rfl⟩:=zi7 hb;exact(h3 a e).2
variable {X:Nat->Bool}
theorem zHF (h:∀a,A=some a->X a.block=true):wX (R0 X) A A:=by
 cases A with
 |none=>exact .none
 |some a=>
  have:=h a rfl;obtain⟨bl,of,sp⟩:=a;exact .some (.mk ⟨rfl,this⟩)
variable {S:aN->Prop}
theorem zEN {lo hi s n c:Nat}{xs:List aF}(hX:∀b,X b=true->∃c T fz,W.heap[b]? =some (.cells c T fz))(h:∀a,A=some a->X a.block=true)(hs:cG W lo hi s A n c xs)(hp:∀v∈xs,Lx v):cG (Bp S X W) 0 (Bp S X W).heap.size s A n c xs:=
 ⟨hs.len,hs.le,hs.cap,λhn=>by
  obtain⟨b,off,e,e1,e2,e3,e4⟩:=hs.at_ hn;exact⟨b,off,e,lB _,by rw[zfv];exact e3,by rw[zfv];exact e3,λj v hv=>zGd hX (h _ e) (e4 j v hv) (hp v (dS hv))⟩⟩
theorem zAq (hX:∀b,X b=true->∃c T fz,W.heap[b]? =some (.cells c T fz))(hT:∀g,At aK g=true->X g=true):Fh (Bp S X W):=by
 intro g hg;obtain⟨c,T,fz,hc⟩:=hX g (hT g hg);refine⟨_,_,_,Z6 hc (hT g hg),λv hv=>?_⟩;obtain⟨u,_,rfl⟩:=Array.mem_map.1 hv;exact(zfy S u).1
theorem zBA (S:aN->Prop)(zs:List Int):((zs.map λz=>Oi .u64 z).toArray).map (gv S)=(zs.map λz=>Oi .u64 z).toArray:=by
 apply Jr;simp only[Array.toList_map,List.map_map];exact List.map_congr_left λz _=>(zfy S _).2.2 (.inl ⟨_,_,rfl⟩)
theorem zxI (hX:∀b,X b=true->∃c T fz,W.heap[b]? =some (.cells c T fz))(hT:∀g,At aK g=true->X g=true)(h:uQ W):uQ (Bp S X W):=by
 have e1:aK.globalNamed "internal/strconv.uint64pow10" =some 0:=aS;have e2:At aK 0=true:=aS;unfold uQ zft at*;obtain⟨T,fz,hc⟩:=ze8 e1 h;have kF:=Z6 (S:=S) hc (hT _ e2);unfold zd3;rw[e1];simp only[xI,kF];exact congrArg some (zBA S _)
end Go.Proofs.YtfcjiloojkjaeaaDoor
namespace Go.Proofs.YtfcjiloojkjaeaaDoor
theorem oT {a b:Bool}(h:a=true)(k:b=true):(a&&b)=true:=by rw[h,k];rfl
namespace Facts
def ziJ:laidOutB Tryd.pinned.checked.prog=true:=aS
def mapsRowed:mapsRowed Tryd.pinned.checked.prog=true:=aS
def stops:(Tryd.pinned.checked.prog.stops==[])=true:=aS
def stopKnobs:(Tryd.pinned.checked.prog.stopKnobs==[])=true:=aS
def plainKeys:(Rows.fnExactClockAfterRow.plainKeys==Tryd.pinned.checked.prog.plainKeys)=true:=aS
def stopsHeard:Tryd.pinned.checked.prog.stopsHeard=true:=aS
def mayEnter:Tryd.pinned.checked.prog.mayEnter=true:=aS
def lifted:(Rows.fnExactClockAfterRow.lifted==Tryd.pinned.checked.prog.liftsFinal)=true:=aS
def make:(Tryd.pinned.checked.prog.make==some Rows.fnExactClockAfterRow.make)=true:=aS
def mainIs:Tryd.pinned.checked.prog.mainIs=some (Rows.fnExactClockAfterCard.stood.harness.1,Rows.fnExactClockAfterCard.stood.harness.2.toList):=aS
def looks:Rows.fnExactClockAfterCard.stood.looks=Tryd.pinned.checked.prog.looks []:=aS
end Facts
end Go.Proofs.YtfcjiloojkjaeaaDoor
namespace Go.Proofs.YtfcjiloojkjaeaaDoor
open Go.RowKit
structure Code (w:aE)(A:Option bO)(n c:Nat):Prop where
 le:n<=c
 cap:c<=maxLen
 at_:0<n->∃b off,A=some ⟨b,off,none⟩/\b<w.heap.size/\∀j,j<n->∃v:Int,w.cell? ⟨b,off+j,none⟩=some (.int .u8 v)/\0<=v/\v<=255
variable {w:aE}
def zzC {B:Nat}{W:aE}(h:bU B w W)(o:Obj)(hB:B<=W.heap.size):bU B w (W.alloc o):=h.trans ((dO (eR W.heap.size W) o).mono hB)
def zcx (o:jE)(es:List dG):Int:=if jV o es then(C3 o es).clk else-1
theorem zHl (o:jE)(lo hi n c:Nat)(A:Option bO)(es:List dG)(w:aE)(h:cG w lo hi 3 A n c (lW es))(hn:n<=1048576)(zkS:hi<=w.heap.size):
 iE aK 5 #[.agg #[.int .i64 o.ln,.int .i64 o.op,.int .i64 o.pt],.slice A n c] w λx w'=>x=.returned (.int .i64 (zcx o es))/\bU w.heap.size w w':=by
 have hr:jV o es=true->Lq o es=C3 o es:=λh=>by unfold Lq;rw[if_pos h]
 have HR:=aC hr;clear hr;obtain⟨O,hO⟩:=aU (.cells #[.int .i64 o.ln,.int .i64 o.op,.int .i64 o.pt] 27:Obj);have sG:=aC (dO (eR w.heap.size w) O);have lZ:=aC (h.below sG.o);have HO:=aC hO;have hz:(w.alloc O).heap.size=w.heap.size+1:=aQ;have HZ:=aC hz;clear h hz hO
 go_enter Tryd.func5,Tryd.ntmps5
 go_upto_region 1 with fail
 rw[<-HO.o];obtain⟨W1,dC⟩:=aU (w.alloc O);have hk:=lO w O;rw[<-dC] at sG lZ HZ hk⊢;rw[HO.o] at hk;have q:=aJ hk;obtain⟨q0,q1,q2⟩:=zso q;clear dC hk q
 go_upto_region 2 with(go_at_call 11;refine(zFl o lo hi n c A es W1 lZ.o hn (by have:=HZ.o;omega)).mono ?_;rintro x w2 ⟨v,rfl,bV,pI⟩;obtain⟨r5,fA⟩:=aU (Lq o es:b6);obtain⟨t5,oL⟩:=aU (jV o es:Bool);rw[<-fA] at bV⊢;rw[<-oL];have pU:=aC fA;have yY:=aC oL;have wC:=aC bV;have rH:=aC pI;clear fA oL bV pI)
 have hz:=HZ.o;have s2:=rH.o.size;have HF:=aC (show bU w.heap.size w (w2.alloc (Ew v r5)) from sG.o.trans (zzC (rH.o.mono aD) _ aD));clear hz s2;cases t5
 .go_wp2
  go_ret;refine⟨?_,HF.o⟩;show Ud (.int .i64 (-1))=.returned (.int .i64 (zcx o es));unfold zcx;rw[if_neg (by rw[<-yY.o];simp)]
 .go_wp2
  go_ret;refine⟨?_,HF.o⟩;show Ud (.int .i64 r5.clk)=.returned (.int .i64 (zcx o es));unfold zcx;rw[if_pos yY.o.symm,pU.o,HR.o yY.o.symm]
def zCv (o:jE){lo hi n c:Nat}{A:Option bO}{es:List dG}(h:cG w lo hi 3 A n c (lW es))(hn:n<=1048576)(zkS:hi<=w.heap.size):
 iE aK 5 #[.agg #[.int .i64 o.ln,.int .i64 o.op,.int .i64 o.pt],.slice A n c] w λx w'=>x=.returned (.int .i64 (Uv o es))/\bU w.heap.size w w':=
 zHl o lo hi n c A es w h hn zkS
end Go.Proofs.YtfcjiloojkjaeaaDoor
namespace Go.Proofs.YtfcjiloojkjaeaaDoor
open Go.RowKit Go.Mt Go.Conc Go.Tt
def zfs:Go.Code:=(Tryd.f3.body).getD .skip
def rLCA7:Go.Code:=match zfs with| .seq _ (.seq _ (.seq _ (.seq _ (.seq _ (.seq _ (.seq (a) _))))))=>a|_=>.skip
def zfz:Array Oper:=match rLCA7 with| .region _ ops _=>ops|_=>#[]
abbrev zAk:Oper:=⟨some 22,.call ⟨.value (.func 6),#[.tmp 21],#[23]⟩,27,"exact.go:3483",#[⟨0,.data⟩],none⟩
def zon:zfz[1]? =some zAk:=rfl
abbrev zvz:Oper:=⟨some 24,.call ⟨.value (.func 8),#[.tmp 22,.tmp 23],#[27,29]⟩,3,"exact.go:3483",#[⟨1,.data⟩,⟨2,.data⟩,⟨1,.chain⟩],none⟩
def zvx:zfz[3]? =some zvz:=rfl
section
variable {St:Nat->Prop}{W0:aE}{Post:aF->aE->Prop}
theorem zIL {w:aE}{A1:Option bO}{n1 c1:Nat}{o:jE}{es:List dG}(h1:cG w 0 w.heap.size 3 A1 n1 c1 (lW es))(Nh:∀d∈es,d.k.size<=maxLen)(hT:uQ w)(Ev:Fh w)(hP:∀(R:Pr) (W:aE),Kp W0 R St W->Post (.bool true) W):
 JS St W0 Post ⟨3,#[.agg #[.int .i64 o.ln,.int .i64 o.op,.int .i64 o.pt],.slice A1 n1 c1,aA,aA,aA,aA,aA,aA,aA,aA,aA,aA,aA,aA,aA,aA,aA,aA,aA,aA,aA,aA,aA,aA,aA,aA,aA,aA,aA,aA,aA,aA,aA],[.code zfs],false⟩ [] w:=by
 have L:=lvF;have fU:oK olL 3=false:=aS;have Na:∀(tmps:Array aF) (td:List dW) (w':aE),tmps.getD 4 aA=.bool true->JS St W0 Post ⟨3,tmps,td,true⟩ [] w':=by
  intro tmps td w' h6;refine JO.fin L (t:=4) rfl Tryd.func3 rfl aS λK R W v' hv hk=>?_;have Ni:VR (SF fZ) K R (tmps.getD 4 aA) v':=hv;rw[h6] at Ni;cases Ni;exact hP R W hk
 have B:=Bl.refl w.heap.size w;have zyN:=aC (beq_self_eq_true (es));refine JO.sq L fU ?_;refine JO.pQ L fU (λTp Q HQ=>?_);replace h1:=h1.tp Tp 0;replace B:=B.tp Tp 0;have s1:w.heap.size<=(Tt.tp w Tp 0).heap.size:=aZ _;generalize Tt.tp w Tp 0=w1 at B h1 s1⊢;go_wp2;refine HQ.o _ _ ?_;clear HQ;obtain⟨g2,yA⟩:=aU w1.heap.size;have s2:w1.heap.size<=(w1.alloc (.cells #[.int .i64 o.ln,.int .i64 o.op,.int .i64 o.pt] 23)).heap.size:=aQ;replace B:=B.below' (dO (eR _ _) (.cells #[.int .i64 o.ln,.int .i64 o.op,.int .i64 o.pt] 23)) aD;replace h1:=h1.alloc (.cells #[.int .i64 o.ln,.int .i64 o.op,.int .i64 o.pt] 23);have kR:(w1.alloc (.cells #[.int .i64 o.ln,.int .i64 o.op,.int .i64 o.pt] 23)).heap[g2]? =some (.cells #[.int .i64 o.ln,.int .i64 o.op,.int .i64 o.pt] 23):=by rw[yA];exact D3 w1 _
 rw[<-yA];generalize w1.alloc (.cells #[.int .i64 o.ln,.int .i64 o.op,.int .i64 o.pt] 23)=w2 at B h1 s2 kR⊢;have zJI:w.heap.size<=g2:=aD;have zKW:=kU kR;clear yA;refine JO.sq L fU ?_;refine JO.pQ L fU (λTp Q HQ=>?_);replace h1:=h1.tp Tp 0;replace kR:=M2 kR Tp 0;replace B:=B.tp Tp 0;have s3:w2.heap.size<=(Tt.tp w2 Tp 0).heap.size:=aZ _;generalize Tt.tp w2 Tp 0=w3 at B h1 kR s3⊢;go_wp2;refine HQ.o _ _ ?_;clear HQ;refine JO.sq L fU ?_;refine JO.pQ L fU (λTp Q HQ=>?_);replace h1:=h1.tp Tp 0;replace kR:=M2 kR Tp 0;replace B:=B.tp Tp 0;have s4:w3.heap.size<=(Tt.tp w3 Tp 0).heap.size:=aZ _;generalize Tt.tp w3 Tp 0=w4 at B h1 kR s4⊢;have zzt:True:=trivial
 go_wp2_with (go_at_call 4;clear zzt;refine(zBE (1048576) h1 Nh aD aD).mono ?_;rintro e w5 ⟨rfl,b5⟩)
 have s5:=b5.size;replace h1:=h1.below b5;replace kR:=(iS b5 kR).1;replace B:=B.below' b5 aD;clear b5;go_wp2;refine HQ.o _ _ ?_;clear HQ;refine JO.sq L fU ?_;refine JO.sq L fU ?_;refine JO.pQ L fU (λTp Q HQ=>?_);replace h1:=h1.tp Tp 0;replace kR:=M2 kR Tp 0;replace B:=B.tp Tp 0;have s6:w5.heap.size<=(Tt.tp w5 Tp 0).heap.size:=aZ _;generalize Tt.tp w5 Tp 0=w6 at B h1 kR s6⊢;go_wp2;refine HQ.o _ _ ?_;clear HQ;by_cases zpz:Hj (1048576) n1 es<0
 .refine JO.cd L true fU ?_ (by show Nd (decide _)=_;rw[decide_eq_true zpz])
  refine JO.sq L fU ?_;refine JO.pQ L fU (λTp Q HQ=>?_);go_wp2;refine HQ.o _ _ ?_;refine JO.rt L fU ?_;exact Na _ _ _ rfl
 refine JO.cd L false fU ?_ (by show Nd (decide _)=_;rw[decide_eq_false zpz]);refine JO.sk L fU ?_;have l1:n1<=1048576:=(zyk (by omega:0<=Hj (1048576) n1 es) aD).1;have zLd:Hj (1048576) n1 es<=1048576:=Int.le_trans (zGk aD) aD;refine JO.sq L fU ?_;refine JO.pQ L fU (λTp Q HQ=>?_);replace h1:=h1.tp Tp 0;replace kR:=M2 kR Tp 0;replace B:=B.tp Tp 0;have s7:w6.heap.size<=(Tt.tp w6 Tp 0).heap.size:=aZ _;generalize Tt.tp w6 Tp 0=w7 at B h1 kR s7⊢;have zLl:=aJ kR 0;have zJ4:=aJ kR 1;have zMu:=aJ kR 2;have zJo:True:=trivial
 go_wp2_with (go_at_call 6;clear zJo;refine(zoW o.ln o.op o.pt _).mono ?_;rintro e w8 ⟨rfl,b8⟩)
 have s8:=b8.size;replace h1:=h1.below b8;replace kR:=(iS b8 kR).1;replace B:=B.below' b8 aD;clear b8;have zD6:True:=trivial
 go_wp2_with (go_at_call 7;clear zD6;refine(zlJ h1 l1).mono ?_;rintro e w9 ⟨zKx,zLo,rfl,zLK,vO,zKv,xC,b9⟩)
 have s9:=b9.size;replace h1:=h1.below b9;replace kR:=(iS b9 kR).1;replace B:=B.below' b9 aD;clear b9;have zK5:=kU vO;have zIl:True:=trivial
 go_wp2_with (go_at_call 5;clear zIl;refine(zCv o xC.slc l1 aD).mono ?_;rintro e uE ⟨rfl,Si⟩)
 have zK0:=Si.size;replace h1:=h1.below Si;replace kR:=(iS Si kR).1;replace xC:=xC.below Si;replace vO:=(iS Si vO).1;replace B:=B.below' Si aD;clear Si;go_wp2;refine HQ.o _ _ ?_;clear HQ;refine JO.sq L fU ?_;refine JO.pQ L fU (λTp Q HQ=>?_);replace h1:=h1.tp Tp 0;replace kR:=M2 kR Tp 0;replace xC:=xC.tp Tp 0;replace vO:=M2 vO Tp 0;replace B:=B.tp Tp 0;have zJf:uE.heap.size<=(Tt.tp uE Tp 0).heap.size:=aZ _;generalize Tt.tp uE Tp 0=y9 at B h1 kR xC vO zJf⊢;have zId:True:=trivial
 go_wp2_with (go_at_call 7;clear zId;refine(zlJ h1 l1).mono ?_;rintro e La ⟨zvJ,zME,rfl,zJS,Df,zJQ,Dr,Pv⟩)
 have zKV:=Pv.size;replace h1:=h1.below Pv;replace kR:=(iS Pv kR).1;replace xC:=xC.below Pv;replace vO:=(iS Pv vO).1;replace B:=B.below' Pv aD;clear Pv;have zJN:=kU Df;go_wp2;refine HQ.o _ _ ?_;clear HQ;refine JO.sq L fU ?_;generalize kW:([dW.code _]:List dW)=K0;refine JO.rn L fU zfz [0,1,2,3,4] ?_;refine JO.mv L fU (.agg #[.int .i64 o.ln,.int .i64 o.op,.int .i64 o.pt]) ?_ (hx:=(λT' e=>zCi (w:=Tt.tp La T' e) (t:=23) (x:=.tmp 2) (b:=g2) rfl kR rfl Tryd.underlying23 rfl aS));refine JO.callV L (xs:=#[.agg #[.int .i64 o.ln,.int .i64 o.op,.int .i64 o.pt]]) (Q:=Uf o.ln o.op o.pt La) rfl rfl zon rfl rfl aS fU aS (by simp[Fm.eval]) (λv w' T e h=>Uf.tp h T e) (zBg o.ln o.op o.pt La) (λv zic hq=>?_);obtain⟨rfl,Nn⟩:=hq;have zKj:=Nn.size;replace h1:=h1.bls Nn (aZ _);replace kR:=X3 Nn kR (kU kR);replace xC:=xC.bls Nn (aZ _);replace vO:=X3 Nn vO (kU vO);replace Dr:=Dr.bls Nn (aZ _);replace Df:=X3 Nn Df (kU Df);replace B:=B.then Nn aD;clear Nn;simp only[Fm.fin,zon,xI,gK,dV,dX];refine JO.mv L fU (.slice (some ⟨zvJ,0,none⟩) n1 n1) ?_;refine zF8 (ops:=zfz) (i:=3) (oo:=zvz) (A:=some ⟨zvJ,0,none⟩) (o:=o) (es:=es) rfl fU rfl zvx rfl rfl (by simp[Fm.eval]) (Dr.slc.wide (lB _) aD) l1 (hT.bls B (aZ _)) (Ev.bls B (aZ _)) (λzgW zLT Mf zBY=>?_);have zLJ:=Mf.size;replace h1:=h1.bls Mf (aZ _);replace kR:=X3 Mf kR (kU kR);replace xC:=xC.bls Mf (aZ _);replace vO:=X3 Mf vO (kU vO);replace Dr:=Dr.bls Mf (aZ _);replace Df:=X3 Mf Df (kU Df);replace B:=B.then Mf aD;clear Mf;subst zBY;simp only[Fm.fin,zvx,xI,gK,dV,dX];refine JO.mv L fU (.int .i64 (Uv o es)) ?_;refine JO.regEnd L fU ?_;subst kW;refine JO.tQ L fU (λTp Q HQ=>?_);replace h1:=h1.tp Tp 0;replace kR:=M2 kR Tp 0;replace xC:=xC.tp Tp 0;replace vO:=M2 vO Tp 0;replace Dr:=Dr.tp Tp 0;replace Df:=M2 Df Tp 0;replace B:=B.tp Tp 0;have zHB:zgW.heap.size<=(Tt.tp zgW Tp 0).heap.size:=aZ _;generalize Tt.tp zgW Tp 0=w15 at B h1 kR xC vO Dr Df zHB⊢;have zE6:True:=trivial
 go_wp2_with (go_at_call 7;clear zE6;refine(zlJ h1 l1).mono ?_;rintro e zMm ⟨zMz,zJ0,rfl,zJW,ziM,zKP,zmx,Nb⟩)
 have zMA:=Nb.size;replace h1:=h1.below Nb;replace kR:=(iS Nb kR).1;replace xC:=xC.below Nb;replace vO:=(iS Nb vO).1;replace Dr:=Dr.below Nb;replace Df:=(iS Nb Df).1;replace B:=B.below' Nb aD;clear Nb;have zMq:=kU ziM;have zBo:True:=trivial
 go_wp2_with (go_at_call 9;clear zBo;refine(zzf Dr.slc zmx.slc l1 l1).mono ?_;rintro e zLY ⟨rfl,H0⟩;rw[zyN.o])
 have zMB:=H0.size;replace h1:=h1.below H0;replace kR:=(iS H0 kR).1;replace xC:=xC.below H0;replace vO:=(iS H0 vO).1;replace Dr:=Dr.below H0;replace Df:=(iS H0 Df).1;replace zmx:=zmx.below H0;replace ziM:=(iS H0 ziM).1;replace B:=B.below' H0 aD;clear H0;go_wp2;refine HQ.o _ _ (λtodo=>?_);exact Na _ _ _ rfl
end
end Go.Proofs.YtfcjiloojkjaeaaDoor
namespace Go.Proofs.YtfcjiloojkjaeaaDoor
theorem zAx (Lk:Looks){p:Pinned}{s:OpenSpec}{c:OpenClaim}(kinds:List LaidKind)(ziE:Bool)(Sb:Bool×String)(lk:Bool)
 (hc:c.holds p s) (hw:c.wfByText s=true) (zDR:c.laidByTextAt Lk p kinds ziE)
 (aX:c.start=.entering) (nE:c.noBlocks=false/\c.again=false) (hm:p.checked.prog.mainIs=some (Sb.1,Sb.2.toList)) (hn:(!Sb.1&&Sb.2.isEmpty&& !lk)=false)
 (hl:∀f fn,p.checked.prog.funcNamed c.func=some f->p.checked.prog.funcs[f]? =some fn->lk=p.checked.prog.looks []/\∀(j:Nat) t,fn.params[j]? =some t->p.checked.prog.wantsStandIn t=false)
 (hg:true=c.goesBy p.checked.prog):
 Claim7.holds p (.plain s) {stood:={row:=c,standIns:=[],harness:=Sb,looks:=lk},kinds:=[],alts:=[],goes:=true,laidByText:=true,laidKinds:=kinds,laidTests:=ziE,laidLooks:=Lk}:=by
 have h6:∀r:OpenClaim,zwa {stood:={row:=r,standIns:=[],harness:=Sb,looks:=lk},kinds:=[]}=false:=λr=>by simpa[zwa] using hn
 have h:=Claim7.tied_new_at Lk kinds ziE (Claim7.new_of_sixth hc Sb lk aX nE hm (h6 c) hl) hw;exact⟨h,(λD hD=>by cases hD),zDR,(λh=>by cases h),hg⟩
end Go.Proofs.YtfcjiloojkjaeaaDoor
