/-
  Part 6 of what stands behind the last text.
-/
import Derived.Lib.AppendIntMem
import Derived.LaidMore
import Derived.Test.YtfcjiloojkjaeaaGreatDoorCards
import Derived.Deep.CutBlock
import Derived.SevenTiedAt
import Derived.Test.YtfcjiloojkjaeaaGreatDoorAnsPq5
set_option linter.all false
set_option maxHeartbeats 16000000
set_option maxRecDepth 100000
open Array renaming ext'→La,getD_eq_getD_getElem?→x4,getElem?_eq_getElem→qI,getElem?_eq_some_iff→eM,getElem?_map→Dw,getElem?_toList→C3,mem_of_getElem?→zb4,replicate→oL,toList_append→Qd,toList_replicate→zgo
open Bool renaming and_eq_true→jB,eq_iff_iff→Q7,false_eq_true→iA,or_eq_true→E9
open Go renaming Addr→bC,Calls→gT,Code→wY,Ending→Ig,Frame→dV,FuncId→aP,Item→dZ,Oper→aZ,Operand→cN,Tape→kI,TypeId→aM,Value→aF,World→aE,below_drewN→zbg,bodyPost_ret→nY,execOp→aO,heap_alloc_new→gV,undef→aA,yielded→dL
open Go.Act renaming eval→xB,mk→bL,put→cE
open Go.Claim7 renaming isSixth→zuN
open Go.Conc renaming base→Jj
open Go.Fn renaming func→zpA
open Go.IntWalk renaming i64_in→zyH
open Go.Item renaming code→Ln
open Go.Lib renaming TabIs→zfD,tabBelow_of_tabIs→zaO
open Go.MakeChecks renaming laidMetH_plain→zyV
open Go.Proofs.Tryz renaming checked→vR,f14→zgD,f21→zh1,f28→zh5,f42→zfH,f57→zr2,func14→zyP,func21→zps,func28→zsd,func42→zhS,prog→aK,results47→zlC,results60→zem,underlying29→zoc
open Go.Region renaming wanted→dI
open Go.RowKit renaming Below→cH
open Go.RowKit.Below renaming heap_alloc→qA,heap_setCell→dX,refl→gD
open Go.Value renaming bool→N4,int→M9,ownBlock→Gb,string→zsu
open Go.World renaming cell?→lW,news_of_block→Ez,var?→ze7
open Go.World.grownBy renaming refl→zer
open Int renaming le_refl→zdj
open List renaming countP_append→Kc,countP_cons→Nh,countP_eq_zero→zms,countP_le_length→zdX,countP_singleton→Zq,getD_eq_getElem?_getD→zcT,getElem?_append_left→Ls,getElem?_eq_some_iff→lX,length→zpG,length_append→j5,length_cons→uV,length_nil→zP,length_take→rU,map_cons→jO,map_nil→uN,map_toArray→uP,mem_append→Fq,mem_iff_getElem?→yY,mem_of_getElem?→eI,mem_singleton→yM,modify→Rq,nodup_cons→Dv,nodup_nil→X9,not_mem_nil→nD,range→iL,setIfInBounds_toArray→fS,set_cons_succ→dW,set_cons_zero→dU,size_toArray→Bz,take_add_one→De
open Nat renaming le_of_eq→zkK,le_refl→bM,le_succ→zg2,le_trans→eE,lt_of_le_of_lt→zcJ,lt_of_lt_of_le→jP,lt_or_ge→uR,lt_succ_self→y4,lt_trans→zju,zero_add→qV,zero_le→lU
open Option renaming bind_some→vN,map_eq_some_iff→At,map_some→G7
open Option.some renaming inj→cS,injEq→jQ
open SizeOf renaming sizeOf→Nd
noncomputable section
namespace Go
theorem zeU{P:Prop}(h:P:=by intro h;exact absurd h.1 (by decide+kernel)):P:=h
theorem Xm{P:Prop}(h:P:=by simp[Fm.eval]):P:=h
theorem zyk{P:Prop}(h:P:=by rw[<-zbv] at*;exact vG.o.oldB eL HK.o):P:=h
theorem zaW{P:Prop}(h:P:=by rw[rU];omega):P:=h
theorem zhC{P:Prop}(h:P:=by intro h;simp at h):P:=h
theorem zkp{P:Prop}(h:P:=by rw[hp,hg,hf];kernel_rfl):P:=h
theorem zhP{P:Prop}(h:P:=by rw[bV];rfl):P:=h
end Go
namespace Go.Proofs.YtfcjiloojkjaeaaGreatDoor
open Go.RowKit Go.Mt Go.Conc Go.Tt Go.Maps Go.Conc.Lib Go.ConcR.Gen
open Go.ConcR (KK wgBlock WgAt stA smA rd wr)
def oZ:Go.Code:=(zfH.body).getD .skip
def rRH0:Go.Code:=match oZ with| .seq (a) _=>a|_=>.skip
def rRH1:Go.Code:=match oZ with| .seq _ (.seq (.seq (a) _) _)=>a|_=>.skip
def rRH2:Go.Code:=match oZ with| .seq _ (.seq (.seq _ (.cond _ (.seq (a) _) _)) _)=>a|_=>.skip
def rRH3:Go.Code:=match oZ with| .seq _ (.seq _ (.seq (.seq (a) _) _))=>a|_=>.skip
def rRH4:Go.Code:=match oZ with| .seq _ (.seq _ (.seq (.seq _ (.block _ (.loop (.seq (a) _)))) _))=>a|_=>.skip
def rRH5:Go.Code:=match oZ with| .seq _ (.seq _ (.seq (.seq _ (.block _ (.loop (.seq _ (.seq _ (.seq (.block _ (.seq (a) _)) _)))))) _))=>a|_=>.skip
def rRH6:Go.Code:=match oZ with| .seq _ (.seq _ (.seq (.seq _ (.block _ (.loop (.seq _ (.seq _ (.seq (.block _ (.seq _ (.seq (a) _))) _)))))) _))=>a|_=>.skip
def rRH7:Go.Code:=match oZ with| .seq _ (.seq _ (.seq (.seq _ (.block _ (.loop (.seq _ (.seq _ (.seq (.block _ (.seq _ (.seq _ (.cond _ (.seq (a) _) _)))) _)))))) _))=>a|_=>.skip
def rRH8:Go.Code:=match oZ with| .seq _ (.seq _ (.seq (.seq _ (.block _ (.loop (.seq _ (.seq _ (.seq _ (a))))))) _))=>a|_=>.skip
def rRH9:Go.Code:=match oZ with| .seq _ (.seq _ (.seq _ (.seq (a) _)))=>a|_=>.skip
def ziZ:Go.Code:=match oZ with| .seq _ (.seq _ (.seq _ (.seq _ (.seq (.seq (a) _) _))))=>a|_=>.skip
def rRH11:Go.Code:=match oZ with| .seq _ (.seq _ (.seq _ (.seq _ (.seq (.seq _ (.block _ (.loop (.seq (a) _)))) _))))=>a|_=>.skip
def zb5:Go.Code:=match oZ with| .seq _ (.seq _ (.seq _ (.seq _ (.seq (.seq _ (.block _ (.loop (.seq _ (.seq _ (.seq (.block _ (a)) _)))))) _))))=>a|_=>.skip
def rRH13:Go.Code:=match oZ with| .seq _ (.seq _ (.seq _ (.seq _ (.seq (.seq _ (.block _ (.loop (.seq _ (.seq _ (.seq _ (a))))))) _))))=>a|_=>.skip
def N9:Go.Code:=match oZ with| .seq _ (.seq _ (.seq _ (.seq _ (.seq _ (.seq (a) _)))))=>a|_=>.skip
def zom:Go.Code:=match oZ with| .seq _ (.seq _ (.seq _ (.seq _ (.seq _ (.seq _ (.seq (.seq (a) _) _))))))=>a|_=>.skip
def znC:Go.Code:=match oZ with| .seq _ (.seq _ (.seq _ (.seq _ (.seq _ (.seq _ (.seq (.seq _ (.block _ (.loop (.seq (a) _)))) _))))))=>a|_=>.skip
def zc9:Go.Code:=match oZ with| .seq _ (.seq _ (.seq _ (.seq _ (.seq _ (.seq _ (.seq (.seq _ (.block _ (.loop (.seq _ (.seq _ (.seq (.block _ (.seq (a) _)) _)))))) _))))))=>a|_=>.skip
def Qy:Go.Code:=match oZ with| .seq _ (.seq _ (.seq _ (.seq _ (.seq _ (.seq _ (.seq (.seq _ (.block _ (.loop (.seq _ (.seq _ (.seq (.block _ (.seq _ (.seq (a) _))) _)))))) _))))))=>a|_=>.skip
def Tq:Go.Code:=match oZ with| .seq _ (.seq _ (.seq _ (.seq _ (.seq _ (.seq _ (.seq (.seq _ (.block _ (.loop (.seq _ (.seq _ (.seq (.block _ (.seq _ (.seq _ (.seq (a) _)))) _)))))) _))))))=>a|_=>.skip
def Vo:Go.Code:=match oZ with| .seq _ (.seq _ (.seq _ (.seq _ (.seq _ (.seq _ (.seq (.seq _ (.block _ (.loop (.seq _ (.seq _ (.seq (.block _ (.seq _ (.seq _ (.seq _ (a))))) _)))))) _))))))=>a|_=>.skip
def znx:Go.Code:=match oZ with| .seq _ (.seq _ (.seq _ (.seq _ (.seq _ (.seq _ (.seq (.seq _ (.block _ (.loop (.seq _ (.seq _ (.seq _ (a))))))) _))))))=>a|_=>.skip
def Xh:Go.Code:=match oZ with| .seq _ (.seq _ (.seq _ (.seq _ (.seq _ (.seq _ (.seq _ (.seq (a) _)))))))=>a|_=>.skip
def zan:Go.Code:=match oZ with| .seq _ (.seq _ (.seq _ (.seq _ (.seq _ (.seq _ (.seq _ (.seq _ (.seq (a) _))))))))=>a|_=>.skip
def zac:Go.Code:=match oZ with| .seq _ (.seq _ (.seq _ (.seq _ (.seq _ (.seq _ (.seq _ (.seq _ (.seq _ (.seq (a) _)))))))))=>a|_=>.skip
def Ue:Go.Code:=match oZ with| .seq _ (.seq _ (.seq _ (.seq _ (.seq _ (.seq _ (.seq _ (.seq _ (.seq _ (.seq _ (.seq (a) _))))))))))=>a|_=>.skip
def zC2:oZ=.seq (rRH0) (.seq (.seq (rRH1) (.cond (.tmp 17) (.seq (rRH2) (.ret)) (.skip))) (.seq (.seq (rRH3) (.block 0 (.loop (.seq (rRH4) (.seq (.cond (.tmp 21) (.skip) (.exit 0)) (.seq (.block 1 (.seq (rRH5) (.seq (rRH6) (.cond (.tmp 28) (.seq (rRH7) (.ret)) (.skip))))) (rRH8))))))) (.seq (rRH9) (.seq (.seq (ziZ) (.block 2 (.loop (.seq (rRH11) (.seq (.cond (.tmp 39) (.skip) (.exit 2)) (.seq (.block 3 (zb5)) (rRH13))))))) (.seq (N9) (.seq (.seq (zom) (.block 4 (.loop (.seq (znC) (.seq (.cond (.tmp 54) (.skip) (.exit 4)) (.seq (.block 5 (.seq (zc9) (.seq (Qy) (.seq (Tq) (Vo))))) (znx))))))) (.seq (Xh) (.seq (zan) (.seq (zac) (.seq (Ue) (.ret))))))))))):=rfl
def lY:Array Oper:=match zb5 with| .region _ ops _=>ops|_=>#[]
def zGT:zb5=.region 12 lY true:=rfl
abbrev zq3:Oper:=aV lY 0 (some 40) (.load 63 (.tmp 7))
def zzw:lY[0]? =some zq3:=rfl
abbrev zoQ:Oper:=aV lY 1 (some 41) (.load 63 (.tmp 7))
def zGA:lY[1]? =some zoQ:=rfl
abbrev zsi:Oper:=aV lY 2 (some 42) (.nilCheck (.tmp 41))
def zET:lY[2]? =some zsi:=rfl
abbrev zp7:Oper:=aV lY 3 (some 43) (.fieldAddr 72 (.tmp 42) 1)
def zH2:lY[3]? =some zp7:=rfl
abbrev zpC:Oper:=aV lY 4 (some 44) (.load 65 (.tmp 43))
def zBE:lY[4]? =some zpC:=rfl
abbrev zuY:Oper:=aV lY 5 (some 45) (.makeChan 84 (.const (.int .i64 0)))
def zog:lY[5]? =some zuY:=rfl
abbrev zjI:Oper:=aV lY 6 (some 46) (.buildSlice 65 1 #[(0,.tmp 45)])
def ze9:lY[6]? =some zjI:=rfl
abbrev zru:Oper:=aV lY 7 (some 47) (.call ⟨.builtin .append,#[.tmp 44,.tmp 46],#[65,65]⟩)
def znH:lY[7]? =some zru:=rfl
abbrev zxA:Oper:=aV lY 8 (some 48) (.nilCheck (.tmp 40))
def zER:lY[8]? =some zxA:=rfl
abbrev zss:Oper:=aV lY 9 (some 49) (.fieldAddr 72 (.tmp 48) 1)
def zFh:lY[9]? =some zss:=rfl
abbrev zmy:Oper:=aV lY 10 none (.store 65 (.tmp 49) (.tmp 47))
def zjp:lY[10]? =some zmy:=rfl
def Q6:Array Oper:=match zc9 with| .region _ ops _=>ops|_=>#[]
def zAO:zc9=.region 17 Q6 false:=rfl
def zIH:iL Q6.size=[0,1,2]:=rfl
abbrev oRH17_0:Oper:=aV Q6 0 (some 55) (.makeChan 95 (.const (.int .i64 0)))
def zAI:Q6[0]? =some oRH17_0:=rfl
abbrev zqZ:Oper:=aV Q6 1 (some 9) (.alloc 95)
def zFD:Q6[1]? =some zqZ:=rfl
abbrev zqG:Oper:=aV Q6 2 none (.store 95 (.tmp 9) (.tmp 55))
def zAL:Q6[2]? =some zqG:=rfl
def lO:Array Oper:=match Qy with| .region _ ops _=>ops|_=>#[]
def zzN:Qy=.region 18 lO true:=rfl
abbrev zx2:Oper:=aV lO 0 (some 56) (.load 63 (.tmp 7))
def zz0:lO[0]? =some zx2:=rfl
abbrev zqv:Oper:=aV lO 1 (some 57) (.load 63 (.tmp 7))
def zDF:lO[1]? =some zqv:=rfl
abbrev zto:Oper:=aV lO 2 (some 58) (.nilCheck (.tmp 57))
def zIn:lO[2]? =some zto:=rfl
abbrev zsj:Oper:=aV lO 3 (some 59) (.fieldAddr 72 (.tmp 58) 4)
def zH7:lO[3]? =some zsj:=rfl
abbrev zu5:Oper:=aV lO 4 (some 60) (.load 68 (.tmp 59))
def zHe:lO[4]? =some zu5:=rfl
abbrev zs5:Oper:=aV lO 5 (some 61) (.load 95 (.tmp 9))
def zIh:lO[5]? =some zs5:=rfl
abbrev zlA:Oper:=aV lO 6 (some 62) (.buildSlice 68 1 #[(0,.tmp 61)])
def zb7:lO[6]? =some zlA:=rfl
abbrev zrj:Oper:=aV lO 7 (some 63) (.call ⟨.builtin .append,#[.tmp 60,.tmp 62],#[68,68]⟩)
def zh6:lO[7]? =some zrj:=rfl
abbrev zwL:Oper:=aV lO 8 (some 64) (.nilCheck (.tmp 56))
def zHw:lO[8]? =some zwL:=rfl
abbrev ztn:Oper:=aV lO 9 (some 65) (.fieldAddr 72 (.tmp 64) 4)
def zB6:lO[9]? =some ztn:=rfl
abbrev zn0:Oper:=aV lO 10 none (.store 68 (.tmp 65) (.tmp 63))
def zhp:lO[10]? =some zn0:=rfl
def zgW:Array Oper:=match Tq with| .region _ ops _=>ops|_=>#[]
def zFa:Tq=.region 19 zgW false:=rfl
def zFH:iL zgW.size=[0]:=rfl
abbrev oRH19_0:Oper:=aV zgW 0 (some 66) (.call ⟨.value (.func 53),#[.tmp 8,.const (.int .i64 1)],#[94,3]⟩)
def zH6:zgW[0]? =some oRH19_0:=rfl
def Lf:Array Oper:=match Vo with| .region _ ops _=>ops|_=>#[]
def zBY:Vo=.region 20 Lf false:=rfl
def zEu:iL Lf.size=[0,1]:=rfl
abbrev oRH20_0:Oper:=aV Lf 0 (some 67) (.makeFunc (zpA 54) #[] #[.tmp 8,.tmp 9])
def zI1:Lf[0]? =some oRH20_0:=rfl
abbrev oRH20_1:Oper:=aV Lf 1 none (.go ⟨.value (.tmp 67),#[],#[]⟩)
def zy7:Lf[1]? =some oRH20_1:=rfl
def zg8:Array Oper:=match Xh with| .region _ ops _=>ops|_=>#[]
def zBA:Xh=.region 22 zg8 false:=rfl
def zGq:iL zg8.size=[0]:=rfl
abbrev oRH22_0:Oper:=aV zg8 0 (some 69) (.call ⟨.value (.func 53),#[.tmp 8,.const (.int .i64 1)],#[94,3]⟩)
def zBi:zg8[0]? =some oRH22_0:=rfl
def Yj:Array Oper:=match zan with| .region _ ops _=>ops|_=>#[]
def zBy:zan=.region 23 Yj false:=rfl
def zEq:iL Yj.size=[0,1]:=rfl
abbrev oRH23_0:Oper:=aV Yj 0 (some 70) (.makeFunc (zpA 57) #[] #[.tmp 8,.tmp 7,.tmp 3])
def zAt:Yj[0]? =some oRH23_0:=rfl
abbrev oRH23_1:Oper:=aV Yj 1 none (.go ⟨.value (.tmp 70),#[],#[]⟩)
def zEs:Yj[1]? =some oRH23_1:=rfl
def Z5:Array Oper:=match zac with| .region _ ops _=>ops|_=>#[]
def zFq:zac=.region 24 Z5 false:=rfl
abbrev oRH24_0:Oper:=aV Z5 0 (some 71) (.call ⟨.value (.func 59),#[.tmp 8],#[94]⟩)
def uO:xA aK 42:=⟨_,zhS,.inr (.inl ⟨_,rfl⟩)⟩
def info_ch:(aK.info? 84).map (λi=>(i.zero,i.size,i.bytes))=some (some (.chan none),1,8):=aU
def info_cq:(aK.info? 95).map (λi=>(i.zero,i.size,i.bytes))=some (some (.chan none),1,8):=aU
theorem zHz:∃ie,aK.info? 3=some ie:=by
 obtain⟨i,hi,_⟩:=At.1 Ye;exact⟨i,hi⟩
theorem zoD (xs:List Nat)(g:Nat):Jy (xs++[g])=Jy xs++[.chan (some g)]:=by simp[Jy]
structure WH where
 lo:Nat
 hb:Nat
 gh:Nat
 gq:Nat
 q:Nat
 v0:fK
 w0:aE
 v:fK
 d:nZ
def WH.P1 (c:WH)(w:aE):Prop:=bF w c.lo c.hb c.v c.d/\bT c.hb c.v0 c.w0 c.v w/\c.lo<=w.heap.size
variable {c:WH}{w:aE}
def WH.P1.tp (h:c.P1 w)(T:kI)(n:Nat):c.P1 (Tt.tp w T n):=⟨h.1.tp T n,h.2.1.tp T n,h.2.2⟩
def fK.maps (v v':fK):Prop:=v'.pC=v.pC/\v'.pO=v.pO/\v'.pM=v.pM
def zrU:Jo lY=true:=aU
def zD8:Nt lY [5,6,7,10]=true:=aU
def zHH:lY.toList.map (·.dst)=[some 40,some 41,some 42,some 43,some 44,some 45,some 46,some 47,some 48,some 49,none]:=rfl
def zGk:lY.toList=[zq3,zoQ,zsi,zp7,zpC,zuY,zjI,zru,zxA,zss,zmy]:=rfl
def If (hb gh gq q:Nat)(sA:aF)(i:Nat):Value:=([.pointer (some ⟨hb,0,none⟩),.pointer (some ⟨hb,0,none⟩),.pointer (some ⟨hb,0,none⟩),.pointer (some ⟨hb,3,none⟩),sA,aA,aA,aA,.pointer (some ⟨hb,0,none⟩),.pointer (some ⟨hb,3,none⟩),aA]:List aF).getD i aA
variable {V:Nat->aF}{Tf:Array aF}{s:Nat}
theorem bsRL (hT:xO Tf V)(e:V 45=.chan (some s)):(aO (bL Tf []).eval zjI).run aK w=.ok (.value (.slice (some ⟨w.heap.size,0,none⟩) 1 1)) (w.alloc (.cells #[.chan (some s)] 84)):=by
 unfold aO;go_simp
variable {sA:aF}{T:kI}
theorem stRL {hb q1 n q2:Nat}(hT:xO Tf V)(e1:V 49=.pointer (some ⟨hb,3,none⟩))(e2:V 47=.slice (some ⟨q1,0,none⟩) n q2)(hh:w.cell? ⟨hb,3,none⟩=some sA)(hf:w.frozen? ⟨hb,3,none⟩=false):(aO (bL Tf []).eval zmy).run aK (Tt.tp w T 0)=.ok .skip (Tt.tp (w.setCell ⟨hb,3,none⟩ (.slice (some ⟨q1,0,none⟩) n q2)) T 0):=by
 have zhe:(Tt.tp w T 0).cell? ⟨hb,3,none⟩=some sA:=hh;have Ej:(Tt.tp w T 0).frozen? ⟨hb,3,none⟩=false:=hf;clear hh hf;unfold aO;go_simp
 try rfl
def WH.RdRL (c:WH)(w:aE):Prop:=w.cell? ⟨c.hb,3,none⟩=some c.v.sL/\w.heap[c.gh]? =some (.cells #[.pointer (some ⟨c.hb,0,none⟩)] 63)
def WH.RL2 (c:WH)(g:Nat)(w:aE):Prop:=∃v2,bF w c.lo c.hb v2 {c.d with ln:=c.d.ln++[g]}/\bT c.hb c.v0 c.w0 v2 w/\c.v.maps v2
variable {g:Nat}
theorem WH.RL2.tp (h:c.RL2 g w)(T:kI)(n:Nat):c.RL2 g (Tt.tp w T n):=by
 obtain⟨v1,a,d,e⟩:=h;exact⟨v1,a.tp T n,d.tp T n,e⟩
def WH.StRL (c:WH)(vs:List aF)(w':aE):Prop:=match vs with
 |[]=>c.P1 w'/\∀x∈c.d.ln,x<w'.heap.size
 |[a]=>∃g,a=.chan (some g)/\(∀x∈c.d.ln,x<g)/\g<w'.heap.size/\c.P1 w'
 |[a,b]=>∃g q,b=.slice (some ⟨q,0,none⟩) 1 1/\w'.heap[q]? =some (.cells #[.chan (some g)] 84)/\(∀x∈c.d.ln,x<g)/\g<w'.heap.size/\c.P1 w'
 |[a,b,x]=>∃g q1 q2,x=.slice (some ⟨q1,0,none⟩) (c.d.ln.length+1) q2/\w'.frozen? ⟨c.hb,3,none⟩=false/\(∀x∈c.d.ln,x<g)/\g<w'.heap.size/\c.RL2 g (w'.setCell ⟨c.hb,3,none⟩ x)
 |_=>∃g,(∀x∈c.d.ln,x<g)/\g<w'.heap.size/\c.RL2 g w'
section
variable {Post:aF->aE->Prop}{Shun:Loc->Prop}{W0:aE}{St:Nat->Prop}{R0:Pr}{base:List dV}
def SRL (Post:aF->aE->Prop)(Shun:Loc->Prop)(W0:aE)(St:Nat->Prop)(R0:Pr)(base:List dV)(c:WH)(K0:Pr)(vs:List aF)(C':Cx Unit)(l':Unit)(w':aE):Prop:=∃K',K0.le K'/\C'=Ft aK Cw fX Post Shun W0 St K' R0 base/\(vs.length<4->c.RdRL w')/\c.StRL vs w'
variable {c:WH}
theorem SRL.tp {K0:Pr}(vs:List aF)(C':Cx Unit)(l':Unit)(w':aE)(T:kI)(n:Nat)(h:SRL Post Shun W0 St R0 base c K0 vs C' l' w'):SRL Post Shun W0 St R0 base c K0 vs C' l' (Tt.tp w' T n):=by
 obtain⟨K',h1,h2,h3,h4⟩:=h;refine⟨K',h1,h2,h3,?_⟩;rcases vs with _|⟨a,_|⟨b,_|⟨x,_|⟨y,vs⟩⟩⟩⟩
 .exact⟨h4.1.tp T n,h4.2⟩
 .obtain⟨g,a,b,d,e⟩:=h4
  exact⟨g,a,b,d,e.tp T n⟩
 .obtain⟨g,q,a,b,c,d,e⟩:=h4
  exact⟨g,q,a,b,c,d,e.tp T n⟩
 .obtain⟨g,q1,q2,a,b,c,d,e⟩:=h4
  exact⟨g,q1,q2,a,b,c,d,WH.RL2.tp (w:=w'.setCell _ _) e T n⟩
 .obtain⟨g,a,b,d⟩:=h4
  exact⟨g,a,b,d.tp T n⟩
theorem cw_RL {K:Pr}(Af:c.d.ln.length<=1000)(zft:some c.gh∉parts c.v c.hb){t0:Array aF}{w:aE}{kk:List dZ}(hz:t0.size=73)(Gt:t0.getD 7 aA=.pointer (some ⟨c.gh,0,none⟩))
 (hk:∀vs C' l' w',vs.length=4->SRL Post Shun W0 St R0 base c K vs C' l' w'->BO C' l' ⟨42,dM lY (VV [5,6,7,10] (If c.hb c.gh c.gq c.q c.v.sL) vs) t0,.inRegion lY []::kk,false⟩ w') (h0:SRL Post Shun W0 St R0 base c K [] (Ft aK Cw fX Post Shun W0 St K R0 base) () w):BO (Ft aK Cw fX Post Shun W0 St K R0 base) () ⟨42,t0,.code zb5::kk,false⟩ w:=by
 rw[zGT];have KO:=Ss zrU;refine BO.drawn (p:=aK) (gs:=Cw) (fs:=fX) vR.mixed [5,6,7,10] (If c.hb c.gh c.gq c.q c.v.sL) (SRL Post Shun W0 St R0 base c K) (λvs C l w h=>by
  obtain⟨K',_,rfl,_⟩:=h;exact⟨dJ,rfl,rfl,rfl,nM,λ_ _ _ _ _=>nD⟩) zrU zD8 K9 (λvs K l w T e h=>SRL.tp vs K l w T e h) (λi o ho hi=>?_) (λvs ci o C' l' w' hc ho hS t rest mI gG=>?_) hk h0
 .have hl:lY.toList[i]? =some o:=by rw[C3];exact ho
  rw[zGk] at hl;have aT:i<11:=by have:=(lX.1 hl).1;simpa using this
  have tn:∀(vs:List aF) {j:Nat} {oj:aZ} {s:Tmp} {v:aF},lY[j]? =some oj->oj.dst=some s->s<t0.size->VV [5,6,7,10] (If c.hb c.gh c.gq c.q c.v.sL) vs j=v->(dM lY (VV [5,6,7,10] (If c.hb c.gh c.gq c.q c.v.sL) vs) t0).getD s aA=v:=λvs _ _ _ _ a b c d=>rG KO a b c d;have tq:∀(vs:List aF) {s:Tmp},Hk lY s=false->(dM lY (VV [5,6,7,10] (If c.hb c.gh c.gq c.q c.v.sL) vs) t0).getD s aA=t0.getD s undef:=λvs _ a=>zex KO a;have Rh:∀{vs:List aF} {C' l' w'},(SRL Post Shun W0 St R0 base c K) vs C' l' w'->vs.length<4->c.RdRL w':=λh hv=>by
   obtain⟨_,_,_,h,_⟩:=h;exact h hv
  rcases i with _|_|_|_|_|_|_|_|_|_|_|i
  .obtain rfl:=cS hl
   exact⟨aU,λvs K' l' w' hv hS=>⟨eJ rfl,rd2 (.pointer (some ⟨c.hb,0,none⟩)) ((tq vs aU).trans Gt) (aI (Rh hS hv).2 0)⟩⟩
  .obtain rfl:=cS hl
   exact⟨aU,λvs K' l' w' hv hS=>⟨eJ rfl,rd2 (.pointer (some ⟨c.hb,0,none⟩)) ((tq vs aU).trans Gt) (aI (Rh hS hv).2 0)⟩⟩
  .obtain rfl:=cS hl
   exact⟨aU,λvs K' l' w' hv hS=>⟨eJ rfl,vP (.pointer (some ⟨c.hb,0,none⟩)) (tn vs zGA rfl kM rfl)⟩⟩
  .obtain rfl:=cS hl
   exact⟨aU,λvs K' l' w' hv hS=>⟨eJ rfl,vP (.pointer (some ⟨c.hb,3,none⟩)) (tn vs zET rfl kM rfl)⟩⟩
  .obtain rfl:=cS hl
   exact⟨aU,λvs K' l' w' hv hS=>⟨eJ rfl,rd2 (c.v.sL) (tn vs zH2 rfl kM rfl) (Rh hS hv).1⟩⟩
  .exact absurd aH hi
  .exact absurd aH hi
  .exact absurd aH hi
  .obtain rfl:=cS hl
   exact⟨aU,λvs K' l' w' hv hS=>⟨eJ rfl,vP (.pointer (some ⟨c.hb,0,none⟩)) (tn vs zzw rfl kM rfl)⟩⟩
  .obtain rfl:=cS hl
   exact⟨aU,λvs K' l' w' hv hS=>⟨eJ rfl,vP (.pointer (some ⟨c.hb,3,none⟩)) (tn vs zER rfl kM rfl)⟩⟩
  .exact absurd aH hi
  .omega
 .rcases vs with _|⟨a,_|⟨b,_|⟨c',_|⟨d',vs⟩⟩⟩⟩
  .obtain rfl:5=ci:=by simpa using hc
   rw[zog] at ho;obtain rfl:=cS ho;obtain⟨K',hK,rfl,hR,⟨s1,s2⟩⟩:=hS;obtain⟨ie,jZ⟩:=zHz;refine BO.makeK dJ zog (eJ rfl) rfl Tryz.underlying84 jZ (λ_ _=>nD) (I':=λ_=>IA W0 St Shun R0) (λR τ W hi ht aT=>?_) (λg=>?_)
   .have hi:IA W0 St Shun R0 R τ W:=hi
    have sz:(W.alloc (.chan 0 #[] false 0 0 false)).heap.size=W.heap.size+1:=qT _ _;have hz:=hi.kp.size;exact⟨⟨hi.kp.os,hi.kp.tape,hi.kp.output,by rw[sz];omega,λb hb=>(Bp aC).trans (hi.kp.block b hb),hi.kp.old⟩,⟨hi.sh.old,hi.sh.rel,λl b hl hb=>hi.sh.new l b hl (by rw[sz] at hb;omega)⟩,hi.still,hi.le⟩
   .exact gG _ _ _ _ ⟨K'.add w'.heap.size g,wZ hK (Pr.le_add _ _ _),rfl,λ_=>⟨B6 (hR aQ).1 _,dH (hR aQ).2 _⟩,w'.heap.size,rfl,s2,by rw[qT];exact y4 _,s1.1.alloc _,s1.2.1.trans (bT.below (eK (gD _ _) _)),eE s1.2.2 (by rw[qT];exact zg2 _)⟩
  .obtain rfl:6=ci:=by simpa using hc
   rw[ze9] at ho;obtain rfl:=cS ho;obtain⟨K',hK,rfl,hR,g,rfl,s2,s3,z3,z5,s6⟩:=hS;have V1:(dM lY (VV [5,6,7,10] (If c.hb c.gh c.gq c.q c.v.sL) [.chan (some g)]) t0).getD 45 aA=.chan (some g):=rG KO zog rfl kM rfl;refine BO.op nM dJ ze9 (eJ rfl) aU (λs hs=>nD) (λT=>⟨.slice (some ⟨w'.heap.size,0,none⟩) 1 1,(Tt.tp w' T 0).alloc (.cells #[.chan (some g)] 84),.inl ?_,?_⟩)
   .rw[Fs (KO.sel 6 _ ze9) mI]
    have hT:xO (dM lY (VV [5,6,7,10] (If c.hb c.gh c.gq c.q c.v.sL) [.chan (some g)]) t0) (λs=>(dM lY (VV [5,6,7,10] (If c.hb c.gh c.gq c.q c.v.sL) [.chan (some g)]) t0).getD s aA):=λs=>rfl;exact bsRL hT V1
   .have al:bT c.hb c.v w' c.v ((Tt.tp w' T 0).alloc (.cells #[.chan (some g)] 84)):=(bT.refl.tp T 0).trans (bT.below (eK (gD _ _) _))
    exact gG _ _ _ _ ⟨K',hK,rfl,λ_=>⟨B6 (hR aQ).1 _,dH (hR aQ).2 _⟩,g,_,rfl,gV _ _,s2,zju s3 (by show _<((Tt.tp w' T 0).alloc _).heap.size;rw[qT];exact y4 _),(z3.tp T 0).alloc _,z5.trans al,eE s6 zh2⟩
  .obtain rfl:7=ci:=by simpa using hc
   rw[znH] at ho;obtain rfl:=cS ho;obtain⟨K',hK,rfl,hR,g,gs,rfl,zdw,s2,s3,z3,z5,s6⟩:=hS;have zlm:=Hq mI (s:=44) aH (rG KO zBE rfl kM rfl);have zlM:=Hq mI (s:=46) aH (rG KO ze9 rfl kM rfl);have zkx:some c.gh∉parts c.v c.hb:=zft;refine BO.op nM dJ znH (eJ rfl) aU (λs hs=>nD) (λT=>?_);have a1:=z3.tp T 0;obtain⟨q1,q2,w5,fQ,cY,mV,eO⟩:=Ns (w:=Tt.tp w' T 0) (t:=65) (ty:=65) info_ch Tryz.underlying65 rfl aH a1.L (g:=gs) (cs:=#[.chan (some g)]) (news:=[.chan (some g)]) zdw rfl (m:=1) rfl aH Lz aC aH s6;obtain⟨a6,t6⟩:=a1.putL mV (xs:=c.d.ln++[g]) (by rw[zoD];exact cY) aQ eO;have yX:=(a1.other (j:=1) (c:=3) (x:=c.v.sL) rfl aH mV (.slice (some ⟨q1,0,none⟩) (c.d.ln.length+1) q2)).2.trans a1.blk;have Gl:w5.heap[c.gh]? =some _:=(mV.block c.gh (gM (hR aQ).2) (λe=>zkx (eI (i:=1) (show(parts c.v c.hb)[1]? =some (some c.gh) by rw[e];rfl)))).trans (hR aQ).2;have cP:w'.heap.size<=w5.heap.size:=mV.size;refine⟨_,w5,.inl (X8 rfl zlm zlM fQ),gG _ _ _ _ ⟨K',hK,rfl,λ_=>⟨aI yX 3,Gl⟩,g,q1,q2,rfl,fC yX 3,s2,jP s3 cP,_,a6,z5.trans ((bT.refl.tp T 0).trans t6),rfl,rfl,rfl⟩⟩
  .obtain rfl:10=ci:=by simpa using hc
   rw[zjp] at ho;obtain rfl:=cS ho;obtain⟨K',hK,rfl,hR,g,q1,q2,rfl,oC,s2,s3,zH⟩:=hS;have V1:(dM lY (VV [5,6,7,10] (If c.hb c.gh c.gq c.q c.v.sL) [a,b,.slice (some ⟨q1,0,none⟩) (c.d.ln.length+1) q2]) t0).getD 47 aA=.slice (some ⟨q1,0,none⟩) (c.d.ln.length+1) q2:=rG KO znH rfl kM rfl;have V2:(dM lY (VV [5,6,7,10] (If c.hb c.gh c.gq c.q c.v.sL) [a,b,.slice (some ⟨q1,0,none⟩) (c.d.ln.length+1) q2]) t0).getD 49 aA=.pointer (some ⟨c.hb,3,none⟩):=rG KO zFh rfl kM rfl;refine BO.op nM dJ zjp (eJ rfl) aU (λs hs=>nD) (λT=>⟨aA,Tt.tp (w'.setCell ⟨c.hb,3,none⟩ (.slice (some ⟨q1,0,none⟩) (c.d.ln.length+1) q2)) T 0,.inr ⟨?_,rfl⟩,?_⟩)
   .rw[Fs (KO.sel 10 _ zjp) mI]
    have hT:xO (dM lY (VV [5,6,7,10] (If c.hb c.gh c.gq c.q c.v.sL) [a,b,.slice (some ⟨q1,0,none⟩) (c.d.ln.length+1) q2]) t0) (λs=>(dM lY (VV [5,6,7,10] (If c.hb c.gh c.gq c.q c.v.sL) [a,b,.slice (some ⟨q1,0,none⟩) (c.d.ln.length+1) q2]) t0).getD s aA):=λs=>rfl;exact stRL hT V2 V1 (hR aQ).1 oC
   .exact gG aA _ _ _ ⟨K',hK,rfl,λh=>absurd h aQ,g,s2,(by show g<(w'.setCell _ _).heap.size;rw[Uk];exact s3),WH.RL2.tp zH T 0⟩
  .simp at hc
end
def zp4:Jo lO=true:=aU
def zB8:Nt lO [6,7,10]=true:=aU
def zyr:lO.toList.map (·.dst)=[some 56,some 57,some 58,some 59,some 60,some 61,some 62,some 63,some 64,some 65,none]:=rfl
def zHb:lO.toList=[zx2,zqv,zto,zsj,zu5,zs5,zlA,zrj,zwL,ztn,zn0]:=rfl
def Hc (hb gh gq q:Nat)(sA:aF)(i:Nat):Value:=([.pointer (some ⟨hb,0,none⟩),.pointer (some ⟨hb,0,none⟩),.pointer (some ⟨hb,0,none⟩),.pointer (some ⟨hb,6,none⟩),sA,.chan (some q),aA,aA,.pointer (some ⟨hb,0,none⟩),.pointer (some ⟨hb,6,none⟩),aA]:List aF).getD i aA
theorem bsRQ (hT:xO Tf V)(e:V 61=.chan (some s)):(aO (bL Tf []).eval zlA).run aK w=.ok (.value (.slice (some ⟨w.heap.size,0,none⟩) 1 1)) (w.alloc (.cells #[.chan (some s)] 95)):=by
 unfold aO;go_simp
theorem stRQ {hb q1 n q2:Nat}(hT:xO Tf V)(e1:V 65=.pointer (some ⟨hb,6,none⟩))(e2:V 63=.slice (some ⟨q1,0,none⟩) n q2)(hh:w.cell? ⟨hb,6,none⟩=some sA)(hf:w.frozen? ⟨hb,6,none⟩=false):(aO (bL Tf []).eval zn0).run aK (Tt.tp w T 0)=.ok .skip (Tt.tp (w.setCell ⟨hb,6,none⟩ (.slice (some ⟨q1,0,none⟩) n q2)) T 0):=by
 have zhe:(Tt.tp w T 0).cell? ⟨hb,6,none⟩=some sA:=hh;have Ej:(Tt.tp w T 0).frozen? ⟨hb,6,none⟩=false:=hf;clear hh hf;unfold aO;go_simp
 try rfl
def WH.RdRQ (c:WH)(w:aE):Prop:=w.cell? ⟨c.hb,6,none⟩=some c.v.sQ/\w.heap[c.gh]? =some (.cells #[.pointer (some ⟨c.hb,0,none⟩)] 63)/\w.heap[c.gq]? =some (.cells #[.chan (some c.q)] 95)
def WH.RQ2 (c:WH)(g:Nat)(w:aE):Prop:=∃v2,bF w c.lo c.hb v2 {c.d with qn:=c.d.qn++[g]}/\bT c.hb c.v0 c.w0 v2 w/\c.v.maps v2
theorem WH.RQ2.tp (h:c.RQ2 g w)(T:kI)(n:Nat):c.RQ2 g (Tt.tp w T n):=by
 obtain⟨v1,a,d,e⟩:=h;exact⟨v1,a.tp T n,d.tp T n,e⟩
def WH.StRQ (c:WH)(vs:List aF)(w':aE):Prop:=match vs with
 |[]=>c.P1 w'
 |[b]=>(∃q,b=.slice (some ⟨q,0,none⟩) 1 1/\w'.heap[q]? =some (.cells #[.chan (some c.q)] 95))/\c.P1 w'
 |[b,x]=>(∃q1 q2,x=.slice (some ⟨q1,0,none⟩) (c.d.qn.length+1) q2)/\w'.frozen? ⟨c.hb,6,none⟩=false/\c.RQ2 c.q (w'.setCell ⟨c.hb,6,none⟩ x)
 |_=>c.RQ2 c.q w'
section
def SRQ {L:Type}(c:WH)(C:Cx L)(l:L)(vs:List aF)(C':Cx L)(l':L)(w':aE):Prop:=C'=C/\l'=l/\(vs.length<3->c.RdRQ w')/\c.StRQ vs w'
variable {L:Type}{c:WH}
theorem SRQ.tp {C:Cx L}{l:L}(vs:List aF)(C':Cx L)(l':L)(w':aE)(T:kI)(n:Nat)(h:SRQ c C l vs C' l' w'):SRQ c C l vs C' l' (Tt.tp w' T n):=by
 obtain⟨h1,h2,h3,h4⟩:=h;refine⟨h1,h2,h3,?_⟩;rcases vs with _|⟨b,_|⟨x,_|⟨y,vs⟩⟩⟩
 .exact h4.tp T n
 .exact⟨h4.1,h4.2.tp T n⟩
 .exact⟨h4.1,h4.2.1,WH.RQ2.tp (w:=w'.setCell _ _) h4.2.2 T n⟩
 .exact h4.tp T n
theorem cw_RQ {C:Cx L}{l:L}(hI:fI C)(hp:C.p=aK)(hg:C.gs=Cw)(hf:C.fs=fX)(hF:wK C.P C.fs)(hn:∀(i:Nat) (o:aZ) (s:Tmp),lO[i]? =some o->o.dst=some s->s∉C.S)(Af:c.d.qn.length<=1000)(zft:some c.gh∉parts c.v c.hb)(zdE:some c.gq∉parts c.v c.hb){t0:Array aF}{w:aE}{kk:List dZ}(hz:t0.size=73)(Gt:t0.getD 7 aA=.pointer (some ⟨c.gh,0,none⟩))(zkT:t0.getD 9 aA=.pointer (some ⟨c.gq,0,none⟩))
 (hk:∀vs C' l' w',vs.length=3->SRQ c C l vs C' l' w'->BO C' l' ⟨42,dM lO (VV [6,7,10] (Hc c.hb c.gh c.gq c.q c.v.sQ) vs) t0,.inRegion lO []::kk,false⟩ w') (h0:SRQ c C l [] C l w):BO C l ⟨42,t0,.code Qy::kk,false⟩ w:=by
 rw[zzN];have KO:=Ss zp4;refine BO.drawn (p:=aK) (gs:=Cw) (fs:=fX) vR.mixed [6,7,10] (Hc c.hb c.gh c.gq c.q c.v.sQ) (SRQ c C l) (λvs C l w h=>by
  obtain⟨rfl,rfl,_⟩:=h;exact⟨hI,hp,hg,hf,hF,hn⟩) zp4 zB8 K9 (λvs K l w T e h=>SRQ.tp vs K l w T e h) (λi o ho hi=>?_) (λvs ci o C' l' w' hc ho hS t rest mI gG=>?_) hk h0
 .have hl:lO.toList[i]? =some o:=by rw[C3];exact ho
  rw[zHb] at hl;have aT:i<11:=by have:=(lX.1 hl).1;simpa using this
  have tn:∀(vs:List aF) {j:Nat} {oj:aZ} {s:Tmp} {v:aF},lO[j]? =some oj->oj.dst=some s->s<t0.size->VV [6,7,10] (Hc c.hb c.gh c.gq c.q c.v.sQ) vs j=v->(dM lO (VV [6,7,10] (Hc c.hb c.gh c.gq c.q c.v.sQ) vs) t0).getD s aA=v:=λvs _ _ _ _ a b c d=>rG KO a b c d;have tq:∀(vs:List aF) {s:Tmp},Hk lO s=false->(dM lO (VV [6,7,10] (Hc c.hb c.gh c.gq c.q c.v.sQ) vs) t0).getD s aA=t0.getD s undef:=λvs _ a=>zex KO a;have Rh:∀{vs:List aF} {C' l' w'},(SRQ c C l) vs C' l' w'->vs.length<3->c.RdRQ w':=λh hv=>by
   obtain⟨_,_,h,_⟩:=h;exact h hv
  rcases i with _|_|_|_|_|_|_|_|_|_|_|i
  .obtain rfl:=cS hl
   exact⟨aU,λvs K' l' w' hv hS=>⟨eJ rfl,rd2 (.pointer (some ⟨c.hb,0,none⟩)) ((tq vs aU).trans Gt) (aI (Rh hS hv).2.1 0)⟩⟩
  .obtain rfl:=cS hl
   exact⟨aU,λvs K' l' w' hv hS=>⟨eJ rfl,rd2 (.pointer (some ⟨c.hb,0,none⟩)) ((tq vs aU).trans Gt) (aI (Rh hS hv).2.1 0)⟩⟩
  .obtain rfl:=cS hl
   exact⟨aU,λvs K' l' w' hv hS=>⟨eJ rfl,vP (.pointer (some ⟨c.hb,0,none⟩)) (tn vs zDF rfl kM rfl)⟩⟩
  .obtain rfl:=cS hl
   exact⟨aU,λvs K' l' w' hv hS=>⟨eJ rfl,vP (.pointer (some ⟨c.hb,6,none⟩)) (tn vs zIn rfl kM rfl)⟩⟩
  .obtain rfl:=cS hl
   exact⟨aU,λvs K' l' w' hv hS=>⟨eJ rfl,rd2 (c.v.sQ) (tn vs zH7 rfl kM rfl) (Rh hS hv).1⟩⟩
  .obtain rfl:=cS hl
   exact⟨aU,λvs K' l' w' hv hS=>⟨eJ rfl,rd2 (.chan (some c.q)) ((tq vs aU).trans zkT) (aI (Rh hS hv).2.2 0)⟩⟩
  .exact absurd aH hi
  .exact absurd aH hi
  .obtain rfl:=cS hl
   exact⟨aU,λvs K' l' w' hv hS=>⟨eJ rfl,vP (.pointer (some ⟨c.hb,0,none⟩)) (tn vs zz0 rfl kM rfl)⟩⟩
  .obtain rfl:=cS hl
   exact⟨aU,λvs K' l' w' hv hS=>⟨eJ rfl,vP (.pointer (some ⟨c.hb,6,none⟩)) (tn vs zHw rfl kM rfl)⟩⟩
  .exact absurd aH hi
  .omega
 .rcases vs with _|⟨a,_|⟨b,_|⟨c',vs⟩⟩⟩
  .obtain rfl:6=ci:=by simpa using hc
   rw[zb7] at ho;obtain rfl:=cS ho;obtain⟨rfl,rfl,hR,z3,z5,s6⟩:=hS;have V1:(dM lO (VV [6,7,10] (Hc c.hb c.gh c.gq c.q c.v.sQ) []) t0).getD 61 aA=.chan (some c.q):=rG KO zIh rfl kM rfl;refine BO.op hF hI zb7 (eJ rfl) zkp (λs hs=>hn 6 _ s zb7 hs) (λT=>⟨.slice (some ⟨w'.heap.size,0,none⟩) 1 1,(Tt.tp w' T 0).alloc (.cells #[.chan (some c.q)] 95),.inl ?_,?_⟩)
   .rw[hp]
    rw[Fs (KO.sel 6 _ zb7) mI];have hT:xO (dM lO (VV [6,7,10] (Hc c.hb c.gh c.gq c.q c.v.sQ) []) t0) (λs=>(dM lO (VV [6,7,10] (Hc c.hb c.gh c.gq c.q c.v.sQ) []) t0).getD s aA):=λs=>rfl;exact bsRQ hT V1
   .have al:bT c.hb c.v w' c.v ((Tt.tp w' T 0).alloc (.cells #[.chan (some c.q)] 95)):=(bT.refl.tp T 0).trans (bT.below (eK (gD _ _) _))
    exact gG _ _ _ _ ⟨rfl,rfl,λ_=>⟨B6 (hR aQ).1 _,dH (hR aQ).2.1 _,dH (hR aQ).2.2 _⟩,⟨_,rfl,gV _ _⟩,(z3.tp T 0).alloc _,z5.trans al,eE s6 zh2⟩
  .obtain rfl:7=ci:=by simpa using hc
   rw[zh6] at ho;obtain rfl:=cS ho;obtain⟨rfl,rfl,hR,⟨gs,rfl,zdw⟩,z3,z5,s6⟩:=hS;have zlm:=Hq mI (s:=60) aH (rG KO zHe rfl kM rfl);have zlM:=Hq mI (s:=62) aH (rG KO zb7 rfl kM rfl);have zkx:some c.gh∉parts c.v c.hb:=zft;have zGW:some c.gq∉parts c.v c.hb:=zdE;refine BO.op hF hI zh6 (eJ rfl) zkp (λs hs=>hn 7 _ s zh6 hs) (λT=>?_);have a1:=z3.tp T 0;obtain⟨q1,q2,w5,fQ,cY,mV,eO⟩:=Ns (w:=Tt.tp w' T 0) (t:=68) (ty:=68) info_cq Tryz.underlying68 rfl aH a1.Q (g:=gs) (cs:=#[.chan (some c.q)]) (news:=[.chan (some c.q)]) zdw rfl (m:=1) rfl aH Lz aC aH s6;obtain⟨a6,t6⟩:=a1.putQ mV (xs:=c.d.qn++[c.q]) (by rw[zoD];exact cY) aQ eO;have yX:=(a1.other (j:=4) (c:=6) (x:=c.v.sQ) rfl aH mV (.slice (some ⟨q1,0,none⟩) (c.d.qn.length+1) q2)).2.trans a1.blk;have Gl:w5.heap[c.gh]? =some _:=(mV.block c.gh (gM (hR aQ).2.1) (λe=>zkx (eI (i:=4) (show(parts c.v c.hb)[4]? =some (some c.gh) by rw[e];rfl)))).trans (hR aQ).2.1;have C0:w5.heap[c.gq]? =some _:=(mV.block c.gq (gM (hR aQ).2.2) (λe=>zGW (eI (i:=4) (show(parts c.v c.hb)[4]? =some (some c.gq) by rw[e];rfl)))).trans (hR aQ).2.2;refine⟨_,w5,.inl (by rw[hp];exact X8 rfl zlm zlM fQ),gG _ _ _ _ ⟨rfl,rfl,λ_=>⟨aI yX 6,Gl,C0⟩,⟨q1,q2,rfl⟩,fC yX 6,_,a6,z5.trans ((bT.refl.tp T 0).trans t6),rfl,rfl,rfl⟩⟩
  .obtain rfl:10=ci:=by simpa using hc
   rw[zhp] at ho;obtain rfl:=cS ho;obtain⟨rfl,rfl,hR,⟨q1,q2,rfl⟩,oC,zH⟩:=hS;have V1:(dM lO (VV [6,7,10] (Hc c.hb c.gh c.gq c.q c.v.sQ) [a,.slice (some ⟨q1,0,none⟩) (c.d.qn.length+1) q2]) t0).getD 63 aA=.slice (some ⟨q1,0,none⟩) (c.d.qn.length+1) q2:=rG KO zh6 rfl kM rfl;have V2:(dM lO (VV [6,7,10] (Hc c.hb c.gh c.gq c.q c.v.sQ) [a,.slice (some ⟨q1,0,none⟩) (c.d.qn.length+1) q2]) t0).getD 65 aA=.pointer (some ⟨c.hb,6,none⟩):=rG KO zB6 rfl kM rfl;refine BO.op hF hI zhp (eJ rfl) zkp (λs hs=>hn 10 _ s zhp hs) (λT=>⟨aA,Tt.tp (w'.setCell ⟨c.hb,6,none⟩ (.slice (some ⟨q1,0,none⟩) (c.d.qn.length+1) q2)) T 0,.inr ⟨?_,rfl⟩,?_⟩)
   .rw[hp]
    rw[Fs (KO.sel 10 _ zhp) mI];have hT:xO (dM lO (VV [6,7,10] (Hc c.hb c.gh c.gq c.q c.v.sQ) [a,.slice (some ⟨q1,0,none⟩) (c.d.qn.length+1) q2]) t0) (λs=>(dM lO (VV [6,7,10] (Hc c.hb c.gh c.gq c.q c.v.sQ) [a,.slice (some ⟨q1,0,none⟩) (c.d.qn.length+1) q2]) t0).getD s aA):=λs=>rfl;exact stRQ hT V2 V1 (hR aQ).1 oC
   .exact gG aA _ _ _ ⟨rfl,rfl,λh=>absurd h aQ,WH.RQ2.tp zH T 0⟩
  .simp at hc
end
end Go.Proofs.YtfcjiloojkjaeaaGreatDoor
namespace Go.Proofs.YtfcjiloojkjaeaaGreatDoor
open Go.RowKit
theorem znt (o:fG)(w:aE):
 gT aK 33 #[.agg #[.int .i64 o.ln,.int .i64 o.op,.int .i64 o.pt]] w λx w'=>x=.returned (.bool (qQ o))/\cH w.heap.size w w':=by
 go_enter Tryz.func33,Tryz.ntmps33
 go_wp2
 all_goals go_ret
 all_goals refine⟨Lt ?_,((gD _ _).alloc (bM _) _)⟩
 all_goals rw[Q7]
 all_goals simp[qQ,inB] at*
 all_goals grind
theorem zwO (e:dS)(ops:Int)(w:aE)(ho:1<=ops/\ops<=4):
 gT aK 52 #[.agg #[.string e.k,.int .i64 e.a,.int .i64 e.b],.int .i64 ops] w λx w'=>x=.returned (.bool (rB ops e))/\cH w.heap.size w w':=by
 obtain⟨zT,za9⟩:=ho
 go_enter Tryz.func52,Tryz.ntmps52
 go_wp2
 all_goals go_ret
 all_goals refine⟨Lt ?_,((gD _ _).alloc (bM _) _)⟩
 all_goals rw[Q7]
 all_goals simp[rB,Mq,inB,Cj,D9,Ge,Dj,zcU] at*
 all_goals grind
end Go.Proofs.YtfcjiloojkjaeaaGreatDoor
namespace Go.Proofs.YtfcjiloojkjaeaaGreatDoor
open Go.RowKit Go.Mt Go.Conc Go.Tt Go.Maps Go.Conc.Lib Go.ConcR.Gen
open Go.ConcR (KK wgBlock WgAt stA smA rd wr)
structure oY (wB:aE)(lo go ge n c:Nat)(A:Option bC)(o:fG)(es:List dS)(w:aE):Prop where
 lo_:lo<=w.heap.size
 tab:Ci lo w
 ev:cJ w 0 lo 3 A n c (qX es)
 gol:go<lo
 gel:ge<lo
 bo:w.heap[go]? =some (.cells #[.int .i64 o.ln,.int .i64 o.op,.int .i64 o.pt] 29)
 be:w.heap[ge]? =some (.cells #[.slice A n c] 31)
 old:∀b,b<lo->w.heap[b]? =wB.heap[b]?
section
variable {lo go ge n c:Nat}{A:Option bC}{o:fG}{es:List dS}{wB w w':aE}
def oY.keep (h:oY wB lo go ge n c A o es w)(hs:w.heap.size<=w'.heap.size)(k:∀b,b<lo->w'.heap[b]? =w.heap[b]?):oY wB lo go ge n c A o es w':=
 ⟨eE h.lo_ hs,h.tab.keep k,h.ev.keep hs λb _ q _=>k b q,h.gol,h.gel,(k _ h.gol).trans h.bo,(k _ h.gel).trans h.be,λb hb=>(k b hb).trans (h.old b hb)⟩
def oY.below (h:oY wB lo go ge n c A o es w)(k:cH w.heap.size w w'):oY wB lo go ge n c A o es w':=h.keep k.size λb hb=>k.block b (jP hb h.lo_)
def oY.tp (h:oY wB lo go ge n c A o es w)(T:kI)(e:Nat):oY wB lo go ge n c A o es (Tt.tp w T e):=h.keep (bM _) λ_ _=>rfl
end
structure oS (wB:aE)(lo go ge n c:Nat)(A:Option bC)(o:fG)(es:List dS)(hb gh:Nat)(ln qn:List Nat)(v:fK)(w:aE):Prop where
 e:oY wB lo go ge n c A o es w
 at_:bF w lo hb v ⟨lV o,ln,qn,[]⟩
 mp:v.pC=[]/\v.pO=[]/\v.pM=[]
 nd:ln.Nodup
 lt:∀x∈ln,x<w.heap.size
 bh:w.heap[gh]? =some (.cells #[.pointer (some ⟨hb,0,none⟩)] 63)
 nh:some gh∉parts v hb
 ghl:lo<=gh
section
variable {lo go ge n c hb gh:Nat}{A:Option bC}{o:fG}{es:List dS}{ln qn zgP zgC:List Nat}{v v':fK}{wB w w':aE}
theorem oS.turn (h:oS wB lo go ge n c A o es hb gh ln qn v w)(t:bT hb v w v' w')(a:bF w' lo hb v' ⟨lV o,zgP,zgC,[]⟩)(m:v.maps v')(hn:zgP.Nodup)(hl:∀x∈zgP,x<w'.heap.size):oS wB lo go ge n c A o es hb gh zgP zgC v' w':=by
 obtain⟨b1,b2⟩:=h.at_.turned t h.bh h.nh;refine⟨h.e.keep t.size λb bY=>t.block b (jP bY h.e.lo_) λhp=>?_,a,⟨m.1.trans h.mp.1,m.2.1.trans h.mp.2.1,m.2.2.trans h.mp.2.2⟩,hn,hl,b1,b2,h.ghl⟩;have:=(h.at_.lt b hp).1;omega
def oS.below (h:oS wB lo go ge n c A o es hb gh ln qn v w)(k:cH w.heap.size w w'):oS wB lo go ge n c A o es hb gh ln qn v w':=
 h.turn (bT.below k) (h.at_.below k) ⟨rfl,rfl,rfl⟩ h.nd λx hx=>jP (h.lt x hx) k.size
def oS.tp (h:oS wB lo go ge n c A o es hb gh ln qn v w)(T:kI)(e:Nat):oS wB lo go ge n c A o es hb gh ln qn v (Tt.tp w T e):=⟨h.e.tp T e,h.at_.tp T e,h.mp,h.nd,h.lt,h.bh,h.nh,h.ghl⟩
theorem oS.mr (h:oS wB lo go ge n c A o es hb gh ln qn v w):gC v ⟨lV o,ln,qn,[]⟩:=by
 obtain⟨h1,h2,h3⟩:=h.mp;refine⟨by simp_all,by rw[h2];exact X9,by simp_all,λi g _=>?_,λc y hy=>?_,λc _ i x hx=>?_,λc y hy=>?_,λc _ i x hx=>?_⟩
 .rw[h1]
  refine⟨λx=>(by cases x),λ⟨j,x,hx,_⟩=>?_⟩;have hx:([]:List bO)[j]? =some x:=hx;simp at hx
 .rw[h2] at hy;cases hy
 .have hx:([]:List bO)[i]? =some x:=hx
  simp at hx
 .rw[h3] at hy;cases hy
 .have hx:([]:List bO)[i]? =some x:=hx
  simp at hx
end
def zaj:Go.Code:=.seq rRH11 (.seq (.cond (.tmp 39) .skip (.exit 2)) (.seq (.block 3 zb5) rRH13))
def zdR:Go.Code:=.seq rRH4 (.seq (.cond (.tmp 21) .skip (.exit 0)) (.seq (.block 1 (.seq rRH5 (.seq rRH6 (.cond (.tmp 28) (.seq rRH7 .ret) .skip)))) rRH8))
section
variable {Post:aF->aE->Prop}{Shun:Loc->Prop}{W0:aE}{St:Nat->Prop}{R0:Pr}{base:List dV}{wB:aE}{lo go ge n c hb gh:Nat}{A:Option bC}{o:fG}{es:List dS}
abbrev rhC (Post:aF->aE->Prop)(Shun:Loc->Prop)(W0:aE)(St:Nat->Prop)(R0:Pr)(base:List dV)(K:Pr):Cx Unit:=Ft aK Cw fX Post Shun W0 St K R0 base
theorem rh_lines {kk:List dZ}(h6:o.ln<=6)(K0:Pr)(zbG:∀K w v ln u0 u1 u4 u5 u6 u8 u9 iB gH gK gF gI gJ u16 iM lA kY jS iQ iO iK iR iI iT iE iH iD jK jM u32 iP iN iG iC iS iJ iF iZ iW jE jA jG iU iY jF jC iX nA nC lE lH kZ kN kL kU kP j8 j6 kG u64 kH kC kD j7 lL kQ kW kF,K0.le K->oS wB lo go ge n c A o es hb gh ln [] v w->(ln.length:Int)=o.ln->BO (rhC Post Shun W0 St R0 base K) () ⟨42,#[u0,u1,.pointer (some ⟨go,0,none⟩),.pointer (some ⟨ge,0,none⟩),u4,u5,u6,.pointer (some ⟨gh,0,none⟩),u8,u9,iB,gH,gK,gF,gI,gJ,u16,iM,lA,kY,jS,iQ,iO,iK,iR,iI,iT,iE,iH,iD,jK,jM,u32,iP,iN,iG,iC,.int .i64 o.ln,.int .i64 o.ln,iS,iJ,iF,iZ,iW,jE,jA,jG,iU,iY,jF,jC,iX,nA,nC,lE,lH,kZ,kN,kL,kU,kP,j8,j6,kG,u64,kH,kC,kD,j7,lL,kQ,kW,kF],kk,false⟩ w):
 ∀(m k:Nat),((k+m:Nat):Int)=o.ln->∀(K:Pr) (w:aE) (v:fK) (ln:List Nat) (u0 u1 u4 u5 u6 u8 u9 iB gH gK gF gI gJ u16 iM lA kY jS iQ iO iK iR iI iT iE iH iD jK jM u32 iP iN iG iC iS iJ iF iZ iW jE jA jG iU iY jF jC iX nA nC lE lH kZ kN kL kU kP j8 j6 kG u64 kH kC kD j7 lL kQ kW kF:aF),K0.le K->oS wB lo go ge n c A o es hb gh ln [] v w->ln.length=k->BO (rhC Post Shun W0 St R0 base K) () ⟨42,#[u0,u1,.pointer (some ⟨go,0,none⟩),.pointer (some ⟨ge,0,none⟩),u4,u5,u6,.pointer (some ⟨gh,0,none⟩),u8,u9,iB,gH,gK,gF,gI,gJ,u16,iM,lA,kY,jS,iQ,iO,iK,iR,iI,iT,iE,iH,iD,jK,jM,u32,iP,iN,iG,iC,.int .i64 o.ln,.int .i64 k,iS,iJ,iF,iZ,iW,jE,jA,jG,iU,iY,jF,jC,iX,nA,nC,lE,lH,kZ,kN,kL,kU,kP,j8,j6,kG,u64,kH,kC,kD,j7,lL,kQ,kW,kF],.code zaj:: .inLoop zaj:: .inBlock 2::kk,false⟩ w:=by
 intro m
 induction m with
 |zero=>
  intro k hk K w v ln u0 u1 u4 u5 u6 u8 u9 iB gH gK gF gI gJ u16 iM lA kY jS iQ iO iK iR iI iT iE iH iD jK jM u32 iP iN iG iC iS iJ iF iZ iW jE jA jG iU iY jF jC iX nA nC lE lH kZ kN kL kU kP j8 j6 kG u64 kH kC kD j7 lL kQ kW kF hK hR hl;have Al:(k:Int)=o.ln:=by simpa using hk
  have Hs:¬(k:Int)<o.ln:=aC;have HR:=aD hR;have HE:=aD Al;clear hR hk Al;unfold zaj;refine BO.seq dJ ?_;refine BO.pV nM dJ uO (λw1 T1 dY Q' dG=>?_);have jJ:=aD (show oS wB lo go ge n c A o es hb gh ln [] v w1 by rw[dY];exact HR.o.tp T1 0);clear HR;clear dY;go_wp2;refine dG.o _ _ ?_;clear dG;refine BO.seq dJ ?_;refine BO.cond dJ (t:=false) rfl rfl ?_;refine BO.exit dJ (k':=kk) rfl ?_;have Al:=HE.o;rw[Al];exact zbG K _ v ln _ _ _ _ _ _ _ _ _ _ _ _ _ _ _ _ _ _ _ _ _ _ _ _ _ _ _ _ _ _ _ _ _ _ _ _ _ _ _ _ _ _ _ _ _ _ _ _ _ _ _ _ _ _ _ _ _ _ _ _ _ _ _ _ _ _ _ _ hK jJ.o aC
 |succ m ih=>
  intro k hk K w v ln u0 u1 u4 u5 u6 u8 u9 iB gH gK gF gI gJ u16 iM lA kY jS iQ iO iK iR iI iT iE iH iD jK jM u32 iP iN iG iC iS iJ iF iZ iW jE jA jG iU iY jF jC iX nA nC lE lH kZ kN kL kU kP j8 j6 kG u64 kH kC kD j7 lL kQ kW kF hK hR hl;have Hs:(k:Int)<o.ln:=aC;have HR:=aD hR;have HK:=aD hk;clear hR hk;unfold zaj;refine BO.seq dJ ?_;refine BO.pV nM dJ uO (λw1 T1 dY Q' dG=>?_);have jJ:=aD (show oS wB lo go ge n c A o es hb gh ln [] v w1 by rw[dY];exact HR.o.tp T1 0);clear HR;clear dY;go_wp2;refine dG.o _ _ ?_;clear dG;refine BO.seq dJ ?_;refine BO.cond dJ (t:=true) rfl rfl ?_;refine BO.skip dJ ?_;refine BO.seq dJ ?_;refine BO.block dJ ?_;refine cw_RL (c:=⟨lo,hb,gh,0,0,v,w1,v,⟨lV o,ln,[],[]⟩⟩) (by show ln.length<=1000;omega) jJ.o.nh rfl rfl (λvs C' l' w' uJ hS=>?_) ⟨K,yG _,rfl,λ_=>⟨aI jJ.o.at_.blk 3,jJ.o.bh⟩,⟨jJ.o.at_,bT.refl,jJ.o.e.lo_⟩,jJ.o.lt⟩;rw[Go.Mt.Cq,zHH];simp only[Go.Mt.yF,dU,dW];obtain⟨K',hle,rfl,_,h4⟩:=hS;have s4:∃g,(∀x∈ln,x<g)/\g<w'.heap.size/\WH.RL2 ⟨lo,hb,gh,0,0,v,w1,v,⟨lV o,ln,[],[]⟩⟩ g w':=by
   rcases vs with _|⟨a,_|⟨b,_|⟨x,_|⟨y,vs⟩⟩⟩⟩
   .cases uJ
   .cases uJ
   .cases uJ
   .cases uJ
   .exact h4
  obtain⟨g,s2,s3,v2,a2,t2,mp⟩:=s4;have sH:K0.le K':=wZ hK hle;have Li:oS wB lo go ge n c A o es hb gh (ln++[g]) [] v2 w':=jJ.o.turn t2 a2 mp (by
   rw[List.nodup_append];refine⟨jJ.o.nd,Dv.2 ⟨nD,X9⟩,λa ha b bY=>?_⟩;obtain rfl:=yM.1 bY;have:=s2 a ha;omega) (λx hx=>by
   rcases Fq.1 hx with hx|hx
   .exact zju (s2 x hx) s3
   .obtain rfl:=yM.1 hx;exact s3)
  have jX:=aD Li;clear Li a2 t2 mp s2 h4 uJ jJ;refine BO.regEnd dJ ?_;refine BO.inBlock dJ ?_;refine BO.pV nM dJ uO (λw2 T2 eN Q' dG=>?_);have E6:=aD (show oS wB lo go ge n c A o es hb gh (ln++[g]) [] v2 w2 by rw[eN];exact jX.o.tp T2 0);clear jX;clear eN;go_wp2;refine dG.o _ _ ?_;clear dG;refine BO.inLoop dJ ?_;exact ih (k+1) (by have:=HK.o;omega) K' _ v2 (ln++[g]) _ _ _ _ _ _ _ _ _ _ _ _ _ _ _ _ _ _ _ _ _ _ _ _ _ _ _ _ _ _ _ _ _ _ _ _ _ _ _ _ _ _ _ _ _ _ _ _ _ _ _ _ _ _ _ _ _ _ _ _ _ _ _ _ _ _ _ _ sH E6.o (by rw[j5,hl];rfl)
end
section
variable {Post:aF->aE->Prop}{Shun:Loc->Prop}{W0:aE}{St:Nat->Prop}{R0:Pr}{base:List dV}{K:Pr}{wB:aE}{lo go ge n c:Nat}{A:Option bC}{o:fG}{es:List dS}
theorem rh_valid {kk:List dZ}(hop:1<=o.op/\o.op<=4)(zAo:n<=60)(Gi:es.length=n)
 (Sq:∀(T:Array aF) todo w,T.getD 4 aA=.pointer none->oY wB lo go ge n c A o es w->es.all (rB o.op)=false->BO (rhC Post Shun W0 St R0 base K) () ⟨42,T,todo,true⟩ w)
 (zbG:∀w jS u0 u1 u5 u6 u7 u8 u9 iB gH gK gF gI gJ u16 iM iQ iO iK iR iI iT iE iH iD jK jM u32 iP iN iG iC kT lB iS iJ iF iZ iW jE jA jG iU iY jF jC iX nA nC lE lH kZ kN kL kU kP j8 j6 kG u64 kH kC kD j7 lL kQ kW kF,oY wB lo go ge n c A o es w->es.all (rB o.op)=true->BO (rhC Post Shun W0 St R0 base K) () ⟨42,#[u0,u1,.pointer (some ⟨go,0,none⟩),.pointer (some ⟨ge,0,none⟩),.pointer none,u5,u6,u7,u8,u9,iB,gH,gK,gF,gI,gJ,u16,iM,.slice A n c,.int .i64 n,jS,iQ,iO,iK,iR,iI,iT,iE,iH,iD,jK,jM,u32,iP,iN,iG,iC,kT,lB,iS,iJ,iF,iZ,iW,jE,jA,jG,iU,iY,jF,jC,iX,nA,nC,lE,lH,kZ,kN,kL,kU,kP,j8,j6,kG,u64,kH,kC,kD,j7,lL,kQ,kW,kF],kk,false⟩ w):
 ∀(m k:Nat),k+m=n->∀(w:aE) (u0 u1 u5 u6 u7 u8 u9 iB gH gK gF gI gJ u16 iM iQ iO iK iR iI iT iE iH iD jK jM u32 iP iN iG iC kT lB iS iJ iF iZ iW jE jA jG iU iY jF jC iX nA nC lE lH kZ kN kL kU kP j8 j6 kG u64 kH kC kD j7 lL kQ kW kF:aF),oY wB lo go ge n c A o es w->(∀j,j<k->∀b,es[j]? =some b->rB o.op b=true)->BO (rhC Post Shun W0 St R0 base K) () ⟨42,#[u0,u1,.pointer (some ⟨go,0,none⟩),.pointer (some ⟨ge,0,none⟩),.pointer none,u5,u6,u7,u8,u9,iB,gH,gK,gF,gI,gJ,u16,iM,.slice A n c,.int .i64 n,.int .i64 k,iQ,iO,iK,iR,iI,iT,iE,iH,iD,jK,jM,u32,iP,iN,iG,iC,kT,lB,iS,iJ,iF,iZ,iW,jE,jA,jG,iU,iY,jF,jC,iX,nA,nC,lE,lH,kZ,kN,kL,kU,kP,j8,j6,kG,u64,kH,kC,kD,j7,lL,kQ,kW,kF],.code zdR:: .inLoop zdR:: .inBlock 0::kk,false⟩ w:=by
 intro m
 induction m with
 |zero=>
  intro k hk w u0 u1 u5 u6 u7 u8 u9 iB gH gK gF gI gJ u16 iM iQ iO iK iR iI iT iE iH iD jK jM u32 iP iN iG iC kT lB iS iJ iF iZ iW jE jA jG iU iY jF jC iX nA nC lE lH kZ kN kL kU kP j8 j6 kG u64 kH kC kD j7 lL kQ kW kF hE sZ;have Al:n=k:=aC;subst Al;have Hs:¬(n:Int)<(n:Int):=aC;have HE:=aD hE;have HA:=aD sZ;have HN:=aD Gi;clear hE sZ Gi hk;unfold zdR;refine BO.seq dJ ?_;refine BO.pV nM dJ uO (λw1 T1 dY Q' dG=>?_);have cM:=aD (show oY wB lo go ge n c A o es w1 by rw[dY];exact HE.o.tp T1 0);clear HE;clear dY;go_wp2;refine dG.o _ _ ?_;clear dG;refine BO.seq dJ ?_;refine BO.cond dJ (t:=false) rfl rfl ?_;refine BO.exit dJ (k':=kk) rfl ?_;exact zbG _ _ _ _ _ _ _ _ _ _ _ _ _ _ _ _ _ _ _ _ _ _ _ _ _ _ _ _ _ _ _ _ _ _ _ _ _ _ _ _ _ _ _ _ _ _ _ _ _ _ _ _ _ _ _ _ _ _ _ _ _ _ _ _ _ _ _ _ _ cM.o (allF_of HA.o (by rw[HN.o];exact bM _))
 |succ m ih=>
  intro k hk w u0 u1 u5 u6 u7 u8 u9 iB gH gK gF gI gJ u16 iM iQ iO iK iR iI iT iE iH iD jK jM u32 iP iN iG iC kT lB iS iJ iF iZ iW jE jA jG iU iY jF jC iX nA nC lE lH kZ kN kL kU kP j8 j6 kG u64 kH kC kD j7 lL kQ kW kF hE sZ;have aT:k<n:=aC;have Hs:(k:Int)<(n:Int):=aC;have i0:(0:Int)<=(k:Int):=aC;have HE:=aD hE;have HA:=aD sZ;have HN:=aD Gi;have HK:=aD hk;clear hE sZ Gi hk;unfold zdR;refine BO.seq dJ ?_;refine BO.pV nM dJ uO (λw1 T1 dY Q' dG=>?_);have cM:=aD (show oY wB lo go ge n c A o es w1 by rw[dY];exact HE.o.tp T1 0);clear HE;clear dY;go_wp2;refine dG.o _ _ ?_;clear dG;refine BO.seq dJ ?_;refine BO.cond dJ (t:=true) rfl rfl ?_;refine BO.skip dJ ?_;refine BO.seq dJ ?_;refine BO.block dJ ?_;refine BO.seq dJ ?_;obtain⟨be,oe,ev,hA,zEQ,zhM,zmK,Gm,e0,e1,e2⟩:=cM.o.ev.eventsAt aT;subst hA;have Ow:=aD Gm;clear Gm;refine BO.pV nM dJ uO (λw2 T2 eN Q' dG=>?_);have nX:=aD (show oY wB lo go ge n c (some ⟨be,oe,none⟩) o es w2 by rw[eN];exact cM.o.tp T2 0);have Yo:w2.cell? ⟨be,oe+k*3,none⟩=some (.string ev.k):=by rw[eN];exact e0
  have wU:w2.cell? ⟨be,oe+k*3+1,none⟩=some (.int .i64 ev.a):=by rw[eN];exact e1
  have Gw:w2.cell? ⟨be,oe+k*3+2,none⟩=some (.int .i64 ev.b):=by rw[eN];exact e2
  clear e0 e1 e2;clear cM;clear eN;go_wp2;refine dG.o _ _ ?_;clear dG;clear Yo wU Gw;obtain⟨gb,fA⟩:=aN w2.heap.size;obtain⟨w3,jD⟩:=aN (w2.alloc (.cells #[.string ev.k,.int .i64 ev.a,.int .i64 ev.b] 54));have vG:=aD (show oY wB lo go ge n c (some ⟨be,oe,none⟩) o es w3 by rw[jD];exact nX.o.below (eK (gD _ _) _));have wE:=aD (show w3.heap[gb]? =some (.cells #[.string ev.k,.int .i64 ev.a,.int .i64 ev.b] 54) by rw[jD,fA];exact gV _ _);rw[<-fA,<-jD];clear jD fA nX;refine BO.seq dJ ?_
  cases hv:rB o.op ev with
  |true=>
   refine BO.pV nM dJ uO (λw4 T3 l5 Q' dG=>?_);have zc7:=aD (show oY wB lo go ge n c (some ⟨be,oe,none⟩) o es w4 by rw[l5];exact vG.o.tp T3 0);have g0:w4.cell? ⟨gb,0,none⟩=some (.string ev.k):=by rw[l5];exact aI wE.o 0
   have g1:w4.cell? ⟨gb,1,none⟩=some (.int .i64 ev.a):=by rw[l5];exact aI wE.o 1
   have g2:w4.cell? ⟨gb,2,none⟩=some (.int .i64 ev.b):=by rw[l5];exact aI wE.o 2
   have o1:w4.cell? ⟨go,1,none⟩=some (.int .i64 o.op):=by rw[l5];exact aI vG.o.bo 1
   have HV:=aD hv;clear vG wE hv;clear l5
   go_wp2_with ((go_at_call 52;refine(zwO ev o.op _ hop).mono ?_;rintro e w' ⟨rfl,kK⟩))
   refine dG.o _ _ ?_;clear dG;clear g0 g1 g2 o1;have zbu:=aD (zc7.o.below kK);clear kK zc7;refine BO.cond dJ (t:=false) rfl (by first|rfl|simp[xB,HV.o]) ?_;refine BO.skip dJ ?_;refine BO.inBlock dJ ?_;refine BO.pV nM dJ uO (λw6 T6 pT Q' dG=>?_);have zmu:=aD (show oY wB lo go ge n c (some ⟨be,oe,none⟩) o es w6 by rw[pT];exact zbu.o.tp T6 0);clear zbu;clear pT;go_wp2;refine dG.o _ _ ?_;clear dG;refine BO.inLoop dJ ?_;exact ih (k+1) (by have:=HK.o;omega) _ _ _ _ _ _ _ _ _ _ _ _ _ _ _ _ _ _ _ _ _ _ _ _ _ _ _ _ _ _ _ _ _ _ _ _ _ _ _ _ _ _ _ _ _ _ _ _ _ _ _ _ _ _ _ _ _ _ _ _ _ _ _ _ _ _ _ _ zmu.o (zCU HA.o Ow.o HV.o)
  |false=>
   refine BO.pV nM dJ uO (λw4 T3 l5 Q' dG=>?_);have zc7:=aD (show oY wB lo go ge n c (some ⟨be,oe,none⟩) o es w4 by rw[l5];exact vG.o.tp T3 0);have g0:w4.cell? ⟨gb,0,none⟩=some (.string ev.k):=by rw[l5];exact aI wE.o 0
   have g1:w4.cell? ⟨gb,1,none⟩=some (.int .i64 ev.a):=by rw[l5];exact aI wE.o 1
   have g2:w4.cell? ⟨gb,2,none⟩=some (.int .i64 ev.b):=by rw[l5];exact aI wE.o 2
   have o1:w4.cell? ⟨go,1,none⟩=some (.int .i64 o.op):=by rw[l5];exact aI vG.o.bo 1
   have HV:=aD hv;clear vG wE hv;clear l5
   go_wp2_with ((go_at_call 52;refine(zwO ev o.op _ hop).mono ?_;rintro e w' ⟨rfl,kK⟩))
   refine dG.o _ _ ?_;clear dG;clear g0 g1 g2 o1;have zbu:=aD (zc7.o.below kK);clear kK zc7;refine BO.cond dJ (t:=true) rfl (by first|rfl|simp[xB,HV.o]) ?_;refine BO.seq dJ ?_;refine BO.pV nM dJ uO (λw6 T6 pT Q' dG=>?_);have zmu:=aD (show oY wB lo go ge n c (some ⟨be,oe,none⟩) o es w6 by rw[pT];exact zbu.o.tp T6 0);clear zbu;clear pT;go_wp2;refine dG.o _ _ ?_;clear dG;refine BO.ret dJ ?_;exact Sq _ _ _ rfl zmu.o (zCC Ow.o HV.o)
end
variable {w w':aE}
theorem Nx (h:w'.heap=w.heap)(ht:qF w):qF w':=by
 unfold qF zfD ze7 at*;rw[h];exact ht
variable {lo:Nat}{w1:aE}
theorem Ci.of (h:qF w)(eL:w.heap.size<=lo)(hs:lo<=w1.heap.size)(k:∀b,b<w.heap.size->w1.heap[b]? =w.heap[b]?):Ci lo w1:=λw' hw=>by
 have hz:w.heap.size<=w'.heap.size:=by
  rcases uR w'.heap.size w.heap.size with h'|h'
  .grind
  .exact h'
 have hb:cH w.heap.size w {w' with os:=w.os,tape:=w.tape,output:=w.output}:=⟨rfl,rfl,rfl,hz,λb hb=>(hw b aC).trans (k b hb)⟩;exact Nx (w:={w' with os:=w.os,tape:=w.tape,output:=w.output}) rfl (zaO h _ hb)
def gZ (s:Nat):fK:=⟨.slice none 0 0,.slice none 0 0,.slice none 0 0,.slice none 0 0,.slice none 0 0,.slice none 0 0,.slice none 0 0,s,s+1,s+2,[],[],[]⟩
variable {b:Nat}
def zwv {x:Obj}(h:w.heap[b]? =some x)(o:Obj):(w.alloc o).heap[b]? =some x:=(qA w o b (eM.1 h).1).trans h
theorem hall_new (eL:lo<=w.heap.size)(o:fG)(w5:aE)(h5:w5=((((w.alloc (.map #[] 0)).alloc (.map #[] 0)).alloc (.map #[] 0)).alloc (Oe (gZ w.heap.size) ⟨lV o,[],[],[]⟩)).alloc (.cells #[.pointer (some ⟨w.heap.size+3,0,none⟩)] 63)):
 bF w5 lo (w.heap.size+3) (gZ w.heap.size) ⟨lV o,[],[],[]⟩/\w5.heap[w.heap.size+4]? =some (.cells #[.pointer (some ⟨w.heap.size+3,0,none⟩)] 63)/\some (w.heap.size+4)∉parts (gZ w.heap.size) (w.heap.size+3)/\cH w.heap.size w w5:=by
 obtain⟨a1,Cd⟩:=aN (w.alloc (.map #[] 0));obtain⟨a2,zbM⟩:=aN (a1.alloc (.map #[] 0));obtain⟨a3,zaf⟩:=aN (a2.alloc (.map #[] 0));obtain⟨a4,Vm⟩:=aN (a3.alloc (Oe (gZ w.heap.size) ⟨lV o,[],[],[]⟩));rw[<-Cd,<-zbM,<-zaf,<-Vm] at h5;have z1:a1.heap.size=w.heap.size+1:=by rw[Cd];exact qT _ _
 have z2:a2.heap.size=w.heap.size+2:=by rw[zbM,qT,z1]
 have z3:a3.heap.size=w.heap.size+3:=by rw[zaf,qT,z2]
 have z4:a4.heap.size=w.heap.size+4:=by rw[Vm,qT,z3]
 have z5:w5.heap.size=w.heap.size+5:=by rw[h5,qT,z4]
 have k1:a1.heap[w.heap.size]? =some (.map #[] 0):=by rw[Cd];exact Cy _ _
 have k2:a2.heap[w.heap.size+1]? =some (.map #[] 0):=by rw[zbM,<-z1];exact Cy _ _
 have k3:a3.heap[w.heap.size+2]? =some (.map #[] 0):=by rw[zaf,<-z2];exact Cy _ _
 have k4:a4.heap[w.heap.size+3]? =some (Oe (gZ w.heap.size) ⟨lV o,[],[],[]⟩):=by rw[Vm,<-z3];exact Cy _ _
 have k5:w5.heap[w.heap.size+4]? =some (.cells #[.pointer (some ⟨w.heap.size+3,0,none⟩)] 63):=by rw[h5,<-z4];exact Cy _ _
 have u:∀{x y:aE} {b:Nat} {ob q:Obj},y=x.alloc q->x.heap[b]? =some ob->y.heap[b]? =some ob:=λe h=>by rw[e];exact zwv h _
 have m1:w5.heap[w.heap.size]? =some (.map #[] 0):=u h5 (u Vm (u zaf (u zbM k1)));have m2:w5.heap[w.heap.size+1]? =some (.map #[] 0):=u h5 (u Vm (u zaf k2));have m3:w5.heap[w.heap.size+2]? =some (.map #[] 0):=u h5 (u Vm k3);have m4:w5.heap[w.heap.size+3]? =some (Oe (gZ w.heap.size) ⟨lV o,[],[],[]⟩):=u h5 k4;have pp:∀(i b:Nat),(parts (gZ w.heap.size) (w.heap.size+3))[i]? =some (some b)->(i=0/\b=w.heap.size+3)\/(i=2/\b=w.heap.size)\/(i=3/\b=w.heap.size+1)\/(i=8/\b=w.heap.size+2):=λi b h=>by
  unfold parts gZ at h;rcases i with _|_|_|_|_|_|_|_|_|_|_|i<;>simp[Gb] at h<;>omega
 refine⟨⟨m4,⟨aC,eL,by show lo<=w.heap.size+1;omega,by show lo<=w.heap.size+2;omega⟩,⟨rfl,.inl ⟨rfl,rfl⟩⟩,⟨rfl,.inl ⟨rfl,rfl⟩⟩,⟨rfl,.inl ⟨rfl,rfl⟩⟩,⟨rfl,.inl ⟨rfl,rfl⟩⟩,⟨rfl,.inl ⟨rfl,rfl⟩⟩,⟨rfl,.inl ⟨rfl,rfl⟩⟩,⟨rfl,.inl ⟨rfl,rfl⟩⟩,⟨_,_,m1,rfl⟩,⟨_,_,m2,rfl⟩,⟨_,_,m3,rfl⟩,λi j b hi hj=>?_⟩,k5,λhp=>?_,?_⟩
 .have:=pp i b hi;have:=pp j b hj;omega
 .obtain⟨i,hi⟩:=yY.1 hp
  grind
 .subst h5;subst Vm;subst zaf;subst zbM;subst Cd
  exact eK (eK (eK (eK (eK (gD _ _) _) _) _) _) _
def Ie:Go.Code:=.seq (.seq zom (.block 4 (.loop (.seq znC (.seq (.cond (.tmp 54) .skip (.exit 4)) (.seq (.block 5 (.seq zc9 (.seq Qy (.seq Tq Vo)))) znx)))))) (.seq Xh (.seq zan (.seq zac (.seq Ue .ret))))
section
variable {Post:aF->aE->Prop}{Shun:Loc->Prop}{W0:aE}{St:Nat->Prop}{R0:Pr}{base:List dV}{K:Pr}{wB:aE}{lo go ge n c:Nat}{A:Option bC}{o:fG}{es:List dS}
theorem rh_made (N3:qQ o=true)(hgo:∀K' w v ln hb gh u0 u1 u4 u5 u6 u8 u9 iB gH gK gF gI gJ u16 iM lA kY jS iQ iO iK iR iI iT iE iH iD jK jM u32 iP iN iG iC kT lB iS iJ iF iZ iW jE jA jG iU iY jF jC iX nA nC lE lH kZ kN kL kU kP j8 j6 kG u64 kH kC kD j7 lL kQ kW kF,K.le K'->oS wB lo go ge n c A o es hb gh ln [] v w->(ln.length:Int)=o.ln->BO (rhC Post Shun W0 St R0 base K') () ⟨42,#[u0,u1,.pointer (some ⟨go,0,none⟩),.pointer (some ⟨ge,0,none⟩),u4,u5,u6,.pointer (some ⟨gh,0,none⟩),u8,u9,iB,gH,gK,gF,gI,gJ,u16,iM,lA,kY,jS,iQ,iO,iK,iR,iI,iT,iE,iH,iD,jK,jM,u32,iP,iN,iG,iC,kT,lB,iS,iJ,iF,iZ,iW,jE,jA,jG,iU,iY,jF,jC,iX,nA,nC,lE,lH,kZ,kN,kL,kU,kP,j8,j6,kG,u64,kH,kC,kD,j7,lL,kQ,kW,kF],[.code (.seq N9 Ie)],false⟩ w){w:aE}{u0 u1 u5 u6 u7 u8 u9 iB gH gK gF gI gJ u16 iM lA kY jS iQ iO iK iR iI iT iE iH iD jK jM u32 iP iN iG iC kT lB iS iJ iF iZ iW jE jA jG iU iY jF jC iX nA nC lE lH kZ kN kL kU kP j8 j6 kG u64 kH kC kD j7 lL kQ kW kF:aF}(hE:oY wB lo go ge n c A o es w):
 BO (rhC Post Shun W0 St R0 base K) () ⟨42,#[u0,u1,.pointer (some ⟨go,0,none⟩),.pointer (some ⟨ge,0,none⟩),.pointer none,u5,u6,u7,u8,u9,iB,gH,gK,gF,gI,gJ,u16,iM,lA,kY,jS,iQ,iO,iK,iR,iI,iT,iE,iH,iD,jK,jM,u32,iP,iN,iG,iC,kT,lB,iS,iJ,iF,iZ,iW,jE,jA,jG,iU,iY,jF,jC,iX,nA,nC,lE,lH,kZ,kN,kL,kU,kP,j8,j6,kG,u64,kH,kC,kD,j7,lL,kQ,kW,kF],[.code (.seq rRH9 (.seq (.seq ziZ (.block 2 (.loop zaj))) (.seq N9 Ie)))],false⟩ w:=by
 have sM:=N3;have HE:=aD hE;have HO:=aD N3;clear hE N3 sM;refine BO.seq dJ ?_;refine BO.pV nM dJ uO (λw1 T1 dY Q' dG=>?_);have cM:=aD (show oY wB lo go ge n c A o es w1 by rw[dY];exact HE.o.tp T1 0);clear HE;have g0:w1.cell? ⟨go,0,none⟩=some (.int .i64 o.ln):=aI cM.o.bo 0;have g1:w1.cell? ⟨go,1,none⟩=some (.int .i64 o.op):=aI cM.o.bo 1;have g2:w1.cell? ⟨go,2,none⟩=some (.int .i64 o.pt):=aI cM.o.bo 2;have zca:=@run_makeMap aK;clear dY;go_wp2;refine dG.o _ _ ?_;clear dG;clear g0 g1 g2 zca;obtain⟨w5,kS⟩:=aN (((((w1.alloc (.map #[] 0)).alloc (.map #[] 0)).alloc (.map #[] 0)).alloc (Oe (gZ w1.heap.size) ⟨lV o,[],[],[]⟩)).alloc (.cells #[.pointer (some ⟨w1.heap.size+3,0,none⟩)] 63));obtain⟨n1,n2,n3,n4⟩:=hall_new cM.o.lo_ o w5 kS;have HR:=aD (show oS wB lo go ge n c A o es (w1.heap.size+3) (w1.heap.size+4) [] [] (gZ w1.heap.size) w5 from⟨cM.o.below n4,n1,⟨rfl,rfl,rfl⟩,X9,(λx hx=>by cases hx),n2,n3,(by have:=cM.o.lo_;omega)⟩);clear n1 n2 n3 n4;simp only[Nat.add_assoc,Nat.reduceAdd];have pT:=kS;simp only[Oe,hallA,gZ,lV] at pT;rw[<-pT];clear kS pT cM;refine BO.seq dJ ?_;refine BO.seq dJ ?_;generalize w1.heap.size+3=hb at HR⊢;generalize w1.heap.size+4=gh at HR⊢;generalize gZ w1.heap.size=v at HR;refine BO.pV nM dJ uO (λw6 T2 pT Q' dG=>?_);have jJ:=aD (show oS wB lo go ge n c A o es hb gh [] [] v w6 by rw[pT];exact HR.o.tp T2 0);clear HR;have g0:w6.cell? ⟨go,0,none⟩=some (.int .i64 o.ln):=aI jJ.o.e.bo 0;clear pT;go_wp2;refine dG.o _ _ ?_;clear dG;clear g0;refine BO.block dJ ?_;refine BO.loop dJ ?_;have sM:=HO.o;unfold qQ at sM;have sM:=of_decide_eq_true sM;refine rh_lines (wB:=wB) sM.2.1 K (λK' w' v' ln u0 u1 u4 u5 u6 u8 u9 iB gH gK gF gI gJ u16 iM lA kY jS iQ iO iK iR iI iT iE iH iD jK jM u32 iP iN iG iC iS iJ iF iZ iW jE jA jG iU iY jF jC iX nA nC lE lH kZ kN kL kU kP j8 j6 kG u64 kH kC kD j7 lL kQ kW kF hK hR hl=>?_) o.ln.toNat 0 aC K w6 v [] _ _ _ _ _ _ _ _ _ _ _ _ _ _ _ _ _ _ _ _ _ _ _ _ _ _ _ _ _ _ _ _ _ _ _ _ _ _ _ _ _ _ _ _ _ _ _ _ _ _ _ _ _ _ _ _ _ _ _ _ _ _ _ _ _ _ _ _ (yG _) jJ.o rfl
 grind
end
def OldB (w w':aE):Prop:=w.heap.size<=w'.heap.size/\∀b,b<w.heap.size->w'.heap[b]? =w.heap[b]?
variable {wB:aE}{ge:Nat}{A:Option bC}{o:fG}{es:List dS}
def oY.oldB {go n c:Nat}(h:oY wB lo go ge n c A o es w1)(eL:w.heap.size<=lo)(k:∀b,b<w.heap.size->wB.heap[b]? =w.heap[b]?):OldB w w1:=
 ⟨eE eL h.lo_,λb hb=>(h.old b (jP hb eL)).trans (k b hb)⟩
section
variable {Post:aF->aE->Prop}{Shun:Loc->Prop}{W0:aE}{St:Nat->Prop}{R0:Pr}{base:List dV}{K:Pr}{n c:Nat}{A:Option bC}{o:fG}{es:List dS}
theorem rh_start {w:aE}(Bw:cJ w 0 w.heap.size 3 A n c (qX es))(hn:n<=1048576)(zow:qF w)
 (Sq:∀(T:Array aF) todo w',T.getD 4 aA=.pointer none->OldB w w'->eG o es=false->BO (rhC Post Shun W0 St R0 base K) () ⟨42,T,todo,true⟩ w')
 (hgo:∀wB lo go ge K' w' v ln hb gh u0 u1 u4 u5 u6 u8 u9 iB gH gK gF gI gJ u16 iM lA kY jS iQ iO iK iR iI iT iE iH iD jK jM u32 iP iN iG iC kT lB iS iJ iF iZ iW jE jA jG iU iY jF jC iX nA nC lE lH kZ kN kL kU kP j8 j6 kG u64 kH kC kD j7 lL kQ kW kF,K.le K'->eG o es=true->w.heap.size<=lo->w.heap.size<=go->w.heap.size<=ge->(∀b,b<w.heap.size->wB.heap[b]? =w.heap[b]?)->oS wB lo go ge n c A o es hb gh ln [] v w'->(ln.length:Int)=o.ln->BO (rhC Post Shun W0 St R0 base K') () ⟨42,#[u0,u1,.pointer (some ⟨go,0,none⟩),.pointer (some ⟨ge,0,none⟩),u4,u5,u6,.pointer (some ⟨gh,0,none⟩),u8,u9,iB,gH,gK,gF,gI,gJ,u16,iM,lA,kY,jS,iQ,iO,iK,iR,iI,iT,iE,iH,iD,jK,jM,u32,iP,iN,iG,iC,kT,lB,iS,iJ,iF,iZ,iW,jE,jA,jG,iU,iY,jF,jC,iX,nA,nC,lE,lH,kZ,kN,kL,kU,kP,j8,j6,kG,u64,kH,kC,kD,j7,lL,kQ,kW,kF],[.code (.seq N9 Ie)],false⟩ w'):
 BO (rhC Post Shun W0 St R0 base K) () ⟨42,#[.agg #[.int .i64 o.ln,.int .i64 o.op,.int .i64 o.pt],.slice A n c,aA,aA,aA,aA,aA,aA,aA,aA,aA,aA,aA,aA,aA,aA,aA,aA,aA,aA,aA,aA,aA,aA,aA,aA,aA,aA,aA,aA,aA,aA,aA,aA,aA,aA,aA,aA,aA,aA,aA,aA,aA,aA,aA,aA,aA,aA,aA,aA,aA,aA,aA,aA,aA,aA,aA,aA,aA,aA,aA,aA,aA,aA,aA,aA,aA,aA,aA,aA,aA,aA,aA],[.code oZ],false⟩ w:=by
 have Gi:es.length=n:=Bw.eventsLen;have HS:=aD Bw;have HT:=aD zow;have HN:=aD Gi;have HB:=aD hn;clear Bw zow Gi hn;rw[show oZ=.seq rRH0 (.seq (.seq rRH1 (.cond (.tmp 17) (.seq rRH2 .ret) .skip)) (.seq (.seq rRH3 (.block 0 (.loop zdR))) (.seq rRH9 (.seq (.seq ziZ (.block 2 (.loop zaj))) (.seq N9 Ie))))) from zC2];refine BO.seq dJ ?_;refine BO.pV nM dJ uO (λw1 T1 dY Q' dG=>?_);have Ah:=aD (show OldB w w1 by rw[dY];exact⟨bM _,λ_ _=>rfl⟩);have dF:w1.heap.size=w.heap.size:=by rw[dY];rfl
 clear dY;go_wp2;refine dG.o _ _ ?_;clear dG;obtain⟨wB,Ym⟩:=aN ((w1.alloc (.cells #[.int .i64 o.ln,.int .i64 o.op,.int .i64 o.pt] 29)).alloc (.cells #[.slice A n c] 31));have z0:(w1.alloc (.cells #[.int .i64 o.ln,.int .i64 o.op,.int .i64 o.pt] 29)).heap.size=w.heap.size+1:=by rw[qT,dF]
 have z1:wB.heap.size=w.heap.size+2:=by rw[Ym,qT,z0]
 have kB:∀b,b<w.heap.size->wB.heap[b]? =w.heap[b]? :=λb hb=>by
  rw[Ym,Bp aC,Bp aC];exact Ah.o.2 b hb
 have HE:=aD (show oY wB (w.heap.size+2) w.heap.size (w.heap.size+1) n c A o es wB from⟨aC,Ci.of HT.o aC aC kB,(HS.o.keep aC λb _ q _=>kB b q).wide (bM _) aC,aC,aC,by
  rw[Ym,<-dF];exact zwv (Cy _ _) _,by rw[Ym,<-z0];exact Cy _ _,λ_ _=>rfl⟩)
 simp only[dF];rw[<-Ym];have HK:=aD kB;clear Ym z0 z1 dF kB Ah;have eL:w.heap.size<=w.heap.size+2:=aC;have zFN:w.heap.size<w.heap.size+2:=aC;generalize zhM:w.heap.size+2=lo at HE eL zFN⊢;generalize zbv:w.heap.size=go at HE⊢;generalize zD4:w.heap.size+1=ge at HE⊢;refine BO.seq dJ ?_;refine BO.seq dJ ?_;have zwB:ge=go+1:=aC;have zKd:go<=ge:=aC;rw[<-zwB] at HE⊢;clear zD4 zwB;by_cases hv:qQ o=true
 .by_cases zde:n<=60
  .have zH3:¬(60:Int)<(n:Int):=aC
   refine BO.pV nM dJ uO (λw1 T1 dY Q' dG=>?_);have cM:=aD (show oY wB lo go ge n c A o es w1 by rw[dY];exact HE.o.tp T1 0);have g0:w1.cell? ⟨go,0,none⟩=some (.int .i64 o.ln):=aI cM.o.bo 0;have g1:w1.cell? ⟨go,1,none⟩=some (.int .i64 o.op):=aI cM.o.bo 1;have g2:w1.cell? ⟨go,2,none⟩=some (.int .i64 o.pt):=aI cM.o.bo 2;have g3:w1.cell? ⟨ge,0,none⟩=some (.slice A n c):=aI cM.o.be 0;have HV:=aD hv;clear HE hv;clear dY
   go_wp2_with ((go_at_call 33;refine(znt o _).mono ?_;rintro e w' ⟨rfl,kK⟩;have g4:w'.cell? ⟨ge,0,none⟩=some (.slice A n c):=aI (cM.o.below kK).be 0;rw[HV.o]))
   refine dG.o _ _ ?_;clear dG;clear g0 g1 g2 g3 g4;have nX:=aD (cM.o.below kK);clear kK cM;refine BO.cond dJ (t:=false) rfl (show N4 (decide ((60:Int)<(n:Int)))=.bool false by grind) ?_;refine BO.skip dJ ?_;refine BO.seq dJ ?_;refine BO.seq dJ ?_;refine BO.pV nM dJ uO (λw3 T3 jD Q' dG=>?_);have vG:=aD (show oY wB lo go ge n c A o es w3 by rw[jD];exact nX.o.tp T3 0);have g3:w3.cell? ⟨ge,0,none⟩=some (.slice A n c):=aI vG.o.be 0;clear nX;clear jD;go_wp2;refine dG.o _ _ ?_;clear dG;clear g3;refine BO.block dJ ?_;refine BO.loop dJ ?_;have sM:=HV.o;unfold qQ at sM;have sM:=of_decide_eq_true sM;refine rh_valid (wB:=wB) (lo:=lo) ⟨sM.2.2.1,sM.2.2.2.1⟩ zde HN.o (λT todo w2 hT znp zjV=>?_) (λw2 jS u0 u1 u5 u6 u7 u8 u9 iB gH gK gF gI gJ u16 iM iQ iO iK iR iI iT iE iH iD jK jM u32 iP iN iG iC kT lB iS iJ iF iZ iW jE jA jG iU iY jF jC iX nA nC lE lH kZ kN kL kU kP j8 j6 kG u64 kH kC kD j7 lL kQ kW kF znp zjV=>?_) n 0 aC w3 _ _ _ _ _ _ _ _ _ _ _ _ _ _ _ _ _ _ _ _ _ _ _ _ _ _ _ _ _ _ _ _ _ _ _ _ _ _ _ _ _ _ _ _ _ _ _ _ _ _ _ _ _ _ _ _ _ _ _ _ _ _ _ _ _ _ _ vG.o (λj hj=>by omega)
   .refine Sq T todo w2 hT (znp.oldB (zbv▸eL) (λb hb=>HK.o b (zbv▸hb))) ?_
    unfold eG;rw[zjV,Bool.and_false]
   .refine rh_made HV.o (λK' w' v ln hb gh u0 u1 u4 u5 u6 u8 u9 iB gH gK gF gI gJ u16 iM lA kY jS iQ iO iK iR iI iT iE iH iD jK jM u32 iP iN iG iC kT lB iS iJ iF iZ iW jE jA jG iU iY jF jC iX nA nC lE lH kZ kN kL kU kP j8 j6 kG u64 kH kC kD j7 lL kQ kW kF hK hR hl=>hgo wB lo go ge K' w' v ln hb gh _ _ _ _ _ _ _ _ _ _ _ _ _ _ _ _ _ _ _ _ _ _ _ _ _ _ _ _ _ _ _ _ _ _ _ _ _ _ _ _ _ _ _ _ _ _ _ _ _ _ _ _ _ _ _ _ _ _ _ _ _ _ _ _ _ _ _ _ _ _ hK ?_ (zbv▸eL) aC aC (λb hb=>HK.o b (zbv▸hb)) hR hl) znp
    unfold eG;rw[HV.o,zjV,HN.o];simp[zde]
  .have zH3:(60:Int)<(n:Int):=aC
   have fR:eG o es=false:=by
    unfold eG;rw[HN.o];simp[zde]
   refine BO.pV nM dJ uO (λw1 T1 dY Q' dG=>?_);have cM:=aD (show oY wB lo go ge n c A o es w1 by rw[dY];exact HE.o.tp T1 0);have g0:w1.cell? ⟨go,0,none⟩=some (.int .i64 o.ln):=aI cM.o.bo 0;have g1:w1.cell? ⟨go,1,none⟩=some (.int .i64 o.op):=aI cM.o.bo 1;have g2:w1.cell? ⟨go,2,none⟩=some (.int .i64 o.pt):=aI cM.o.bo 2;have g3:w1.cell? ⟨ge,0,none⟩=some (.slice A n c):=aI cM.o.be 0;have HV:=aD hv;clear HE hv;clear dY
   go_wp2_with ((go_at_call 33;refine(znt o _).mono ?_;rintro e w' ⟨rfl,kK⟩;have g4:w'.cell? ⟨ge,0,none⟩=some (.slice A n c):=aI (cM.o.below kK).be 0;rw[HV.o]))
   refine dG.o _ _ ?_;clear dG;clear g0 g1 g2 g3 g4;have nX:=aD (cM.o.below kK);clear kK cM;refine BO.cond dJ (t:=true) rfl rfl ?_;refine BO.seq dJ ?_;refine BO.pV nM dJ uO (λw3 T3 jD Q' dG=>?_);have vG:=aD (show oY wB lo go ge n c A o es w3 by rw[jD];exact nX.o.tp T3 0);clear nX;clear jD;go_wp2;refine dG.o _ _ ?_;clear dG;refine BO.ret dJ ?_;exact Sq _ _ _ rfl zyk fR
 .have fR:eG o es=false:=by
   unfold eG;simp[hv]
  have hv:qQ o=false:=by simpa using hv
  refine BO.pV nM dJ uO (λw1 T1 dY Q' dG=>?_);have cM:=aD (show oY wB lo go ge n c A o es w1 by rw[dY];exact HE.o.tp T1 0);have g0:w1.cell? ⟨go,0,none⟩=some (.int .i64 o.ln):=aI cM.o.bo 0;have g1:w1.cell? ⟨go,1,none⟩=some (.int .i64 o.op):=aI cM.o.bo 1;have g2:w1.cell? ⟨go,2,none⟩=some (.int .i64 o.pt):=aI cM.o.bo 2;have g3:w1.cell? ⟨ge,0,none⟩=some (.slice A n c):=aI cM.o.be 0;have HV:=aD hv;clear HE hv;clear dY
  go_wp2_with ((go_at_call 33;refine(znt o _).mono ?_;rintro e w' ⟨rfl,kK⟩;have g4:w'.cell? ⟨ge,0,none⟩=some (.slice A n c):=aI (cM.o.below kK).be 0;rw[HV.o]))
  refine dG.o _ _ ?_;clear dG;clear g0 g1 g2 g3 g4;have nX:=aD (cM.o.below kK);clear kK cM;refine BO.cond dJ (t:=true) rfl rfl ?_;refine BO.seq dJ ?_;refine BO.pV nM dJ uO (λw3 T3 jD Q' dG=>?_);have vG:=aD (show oY wB lo go ge n c A o es w3 by rw[jD];exact nX.o.tp T3 0);clear nX;clear jD;go_wp2;refine dG.o _ _ ?_;clear dG;refine BO.ret dJ ?_;exact Sq _ _ _ rfl zyk fR
end
def xT:Nat->Bool:=λa=>Co aK a
def xQ (gq:Nat):Nat->Bool:=λa=>a==gq||Co aK a
def K4 (w00:aE)(K R:Pr)(St eV:Nat->Prop)(Fz:Nat->Prop)(Wf:aE)(Xa:Nat->Prop):Prop:=
 ∀(K' R':Pr) (wn Wn:aE),K.le K'->R.le R'->dB (SF fX) K' R' (pU aK) eV wn Wn->(∀b,Fz b->Wn.heap[b]? =Wf.heap[b]?)->
  ∃X6,dB (SF fX) K' R' (pU aK) St X6 Wn/\X6.heap.size=wn.heap.size/\(∀a,¬Xa a->X6.heap[a]? =wn.heap[a]?)/\∀a,xT a=true->X6.heap[a]? =w00.heap[a]?
variable {K R:Pr}{St:Nat->Prop}
theorem K4.first {W:aE}(hw:dB (SF fX) K R (pU aK) St w W)(hx:XOk R xT w):K4 w K R St (λa=>St a\/xT a=true) (Hy R St xT) W (λa=>xT a=true):=λK' R' wn Wn hK hR hn oC=>by
 have h1:=zrw (St':=λa=>St a\/xT a=true) hw hx hR hK hn (λa h=>.inl h) (λa b zbD qY=>oC b ⟨a,qY,.inr zbD⟩);refine⟨_,h1,zfo _ _ _,λa ha=>Xf (by simpa using ha),λa ha=>?_⟩;obtain⟨b,hb⟩:=hx.dom a ha;obtain⟨c,T,fz,hc⟩:=hx.cells a ha;rw[zg1 ha (hn.lt a b (.inl (hR _ _ hb))).1 hc,hc]
variable {eV:Nat->Prop}{X:Nat->Bool}
theorem K4.step {w00 W Wf:aE}{K2 R2:Pr}{Fz Xa:Nat->Prop}(h:K4 w00 K R St eV Fz Wf Xa)(hK:K.le K2)(hR:R.le R2)(hw:dB (SF fX) K2 R2 (pU aK) eV w W)(hx:XOk R2 X w)(hF:∀b,Fz b->W.heap[b]? =Wf.heap[b]? /\∃a,R2 a b/\eV a):
 K4 w00 K2 R2 St (λa=>eV a\/X a=true) (Hy R2 eV X) W (λa=>Xa a\/X a=true):=λK' R' wn Wn sH zuQ hn oC=>by
 have h1:=zrw (St':=λa=>eV a\/X a=true) hw hx zuQ sH hn (λa h=>.inl h) (λa b zbD qY=>oC b ⟨a,qY,.inr zbD⟩)
 obtain⟨X6,k1,k2,k3,k4⟩:=h K' R' _ Wn (wZ hK sH) (hR.trans zuQ) h1 (λb hb=>by
  obtain⟨e,a,x,y⟩:=hF b hb;exact(oC b ⟨a,x,.inl y⟩).trans e)
 refine⟨X6,k1,k2.trans (zfo _ _ _),λa ha=>?_,k4⟩;rw[k3 a (λx=>ha (.inl x)),Xf uB]
theorem frX_same (h:X b=true->∃c T hi,w.heap[b]? =some (.cells c T (0,hi))/\c.size<=hi):(uS X w).heap[b]? =w.heap[b]? :=by
 cases e:X b with
 |false=>exact Oi e
 |true=>
  obtain⟨c,T,hi,h1,h2⟩:=h e;rw[Ux e h1,h1];simp_all
theorem frX_cell {o:Nat}{v:aF}(hc:X b=true->∃c T fz,w.heap[b]? =some (.cells c T fz))(h:w.cell? ⟨b,o,none⟩=some v):(uS X w).cell? ⟨b,o,none⟩=some v:=by
 cases e:X b with
 |false=>exact(aE.cell?_of_block (a:=⟨b,o,none⟩) (Oi e)).trans h
 |true=>
  obtain⟨c,T,fz,hc⟩:=hc e;have e1:w.cell? ⟨b,o,none⟩=c[o]? :=by simp[lW,hc]
  have e2:(uS X w).cell? ⟨b,o,none⟩=c[o]? :=by simp[lW,Ux e hc]
  simp_all
def zBg:((aK.globalNamed "internal/strconv.uint64pow10").map λg=>Co aK g)=some true:=aU
theorem tabW_fr (h:qF w)(hx:∀a,xT a=true->X a=true)(hc:∀a,xT a=true->∃c T fz,w.heap[a]? =some (.cells c T fz))(hw:∀a,xT a=true->w'.heap[a]? =(uS X w).heap[a]?):qF w':=by
 obtain⟨g,hg,bV⟩:=At.1 zBg;obtain⟨c,T,fz,Mx⟩:=hc g bV;unfold qF zfD ze7 at*;rw[hg] at h⊢;simp only[vN] at h⊢;rw[Mx] at h;rw[hw g bV,Ux (hx g bV) Mx];exact h
variable {v:fK}{ln qn:List Nat}
theorem oS.frT {go n c hb gh lo0:Nat}(h:oS wB lo go ge n c A o es hb gh ln qn v w)(hgo:lo0<=go)(Cc:lo0<=ge)(eL:lo0<=lo)(ht:∀a,xT a=true->a<lo0)(hc:∀a,xT a=true->∃c T fz,w.heap[a]? =some (.cells c T fz)):oS (uS xT w) lo go ge n c A o es hb gh ln qn v (uS xT w):=by
 have out:∀b,lo0<=b->(uS xT w).heap[b]? =w.heap[b]? :=λb hb=>Oi (by
  cases e:xT b with
  |false=>rfl
  |true=>have:=ht b e;omega)
 have nT:xT gh=false:=by
  cases e:xT gh with
  |false=>rfl
  |true=>have:=ht gh e;have:=h.ghl;omega
 refine⟨⟨by rw[Uy];exact h.e.lo_,λw' hw=>tabW_fr h.e.tab.at_ (λa h=>h) hc λa ha=>hw a (jP (ht a ha) eL),?_,h.e.gol,h.e.gel,(out _ hgo).trans h.e.bo,(out _ Cc).trans h.e.be,λ_ _=>rfl⟩,h.at_.keep λb hb hp=>out b (by have:=(h.at_.lt b hp).1;omega),h.mp,h.nd,λx hx=>by rw[Uy];exact h.lt x hx,(Oi nT).trans h.bh,h.nh,h.ghl⟩;refine⟨h.e.ev.len,h.e.ev.le,h.e.ev.cap,λhn=>?_⟩;obtain⟨b,off,e,h1,h2,h3,h4⟩:=h.e.ev.at_ hn;exact⟨b,off,e,h1,h2,by rw[Uy];exact h3,λj v hv=>frX_cell (λx=>hc b x) (h4 j v hv)⟩
variable {gq a:Nat}
theorem zcQ (h:xQ gq a=true):a=gq\/xT a=true:=by
 unfold xQ at h;simp only[E9,beq_iff_eq] at h;exact h
theorem xQ_q (gq:Nat):xQ gq gq=true:=by simp[xQ]
theorem xQ_t (h:xT a=true):xQ gq a=true:=by
 unfold xQ xT at*;rw[h,Bool.or_true]
theorem op_tmps (a b:aF):(#[]++ #[a,b])++oL ((Tryz.f54).ntmps-(#[]++ #[a,b]:Array aF).size) aA=(#[a,b,aA,aA]:Array aF):=by simp_all
def x5 (w:aE):Prop:=∀g,xT g=true->∃c T fz,w.heap[g]? =some (.cells c T fz)/\∀v∈c,wP v
variable {τ:cI}{Wr:aE}{gt t:Array aF}
theorem op_born {Wg N:Nat}{W:List fL}{D:aE->Prop}{Fin:Goroutine->aE->Prop}{gc m:Nat}(hw:dB (SF fX) K R (pU aK) eV w Wr)(hx:XOk R (xQ gq) w)(zbp:K gc a)(fR:∀b,¬R b a)
 (hq:w.heap[gq]? =some (.cells #[.chan (some gc)] 95)) (rY:x5 w) (ha:bQ (SF fX) K R gt t) (zIo:gt[9]? =some (.pointer (some ⟨gq,0,none⟩))) (h8:t.getD 8 aA=.pointer (some ⟨Wg,0,none⟩)) (zzW:Wg<Wr.heap.size) (zAg:∀a b,R a b->b≠Wg) (nI:WgLive sS.tWg Wg Wr):
 cF aK sS.tWg Wg (Dp N W D) Fin false (.usr (.op a 0 m)) 0 (Xi τ R (xQ gq)) (born aK {target:=.fn (.func 54) #[t.getD 8 aA,t.getD 9 aA],args:=#[]}) Wr:=by
 refine Ot rfl rfl (λaY s=>ztr (c:=Vy) Tryz.func54 aH rfl aY) λaY s=>?_;have E8:∀b,¬R gc b:=λb x=>by
  obtain rfl:=hw.inj gc b a (.inl x) (.inr zbp);exact fR _ x
 have kR:∀a c T fz,xQ gq a=true->w.heap[a]? =some (.cells c T fz)->∀v∈c,xJ (λa=>xQ gq a=true) (λa=>a=gc) v:=λa c T fz zbD hc v hv=>by
  rcases zcQ zbD with rfl|zw7
  .rw[hq] at hc
   injection hc with hc;injection hc with e1 _ _;subst e1;obtain rfl:=by simpa using hv
   exact .chan λx e=>by cases e;rfl
  .obtain⟨c',T',Kk,h1,h2⟩:=rY a zw7
   rw[hc] at h1;injection h1 with h1;injection h1 with e1 _ _;subst e1;exact(h2 v hv).inX
 have hrel:=reX_rel hw hx (λg hg=>xQ_t hg) (KD:=λa=>a=gc) kR (λa b x e=>absurd (e▸x) (E8 b));have zt4:wL (Xi τ R (xQ gq)) (rX R (xQ gq)) (λa=>xQ gq a=true):=zAE;have hv:(reX (xQ gq) w).cell? ⟨gq,0,none⟩=some (.chan (some gc)):=by
  simp[lW,zhq (xQ_q gq) hq]
 have hB:=zFi (Wg:=Wg) (N:=N) (W:=W) (D:=D) (Fin:=Fin) (St:=λa=>xQ gq a=true) (gc:=gc) (gv:=gq) (c:=a) (K:=kX K (λa=>a=gc)) ⟨zbp,rfl⟩ m hv;have Rz:=Cx.Rel.suf (C:=fU Wg N W D Fin (λa=>xQ gq a=true) (kX K (λa=>a=gc)) (λ_=>True) [wQ aK] ⟨[],.deferred,aQ⟩ [(0,.pointer (some ⟨Wg,0,none⟩))]) hrel zt4 s;have sH:∀a b,R.or K a b->a=gc->(rX R (xQ gq)).or (kX K (λa=>a=gc)) a b:=λa b x e=>by
  rcases x with x|x
  .simp_all
  .exact .inr ⟨x,e⟩
 have p9:VR (SF fX) (kX K (λa=>a=gc)) (rX R (xQ gq)) (.pointer (some ⟨gq,0,none⟩)) (t.getD 9 aA):=by
  have h1:=ha.getD 9 (yU (S:=SF fX) (K:=K) (R:=R));rw[x4,zIo] at h1;exact xJ.vr h1 (λp q y z=>⟨y,z⟩) sH (.pointer λx e=>by cases e;exact xQ_q gq)
 rw[h8];generalize t.getD 9 aA=t9 at*;rw[op_tmps];have vu:=yU (S:=SF fX) (K:=kX K (λa=>a=gc)) (R:=rX R (xQ gq));have hj:∀x,Tt.HidV x->VR (SF fX) (kX K (λa=>a=gc)) (rX R (xQ gq)) .nilFunc x:=λx h=>.junk h;have:=hB (rX R (xQ gq)) aY ⟨54,#[.pointer (some ⟨Wg,0,none⟩),t9,aA,aA],[.code Vy],false⟩ (Xi τ R (xQ gq)) Rz ⟨rfl,rfl,rfl,?_,λx hx=>?_⟩ zt4 ⟨⟨⟨λa b x=>zAg a b x.1,by have:=s.size;omega⟩,s.live nI⟩,trivial⟩
 .exact this
 .exact zoJ (.cons (hj _ Wx) (.cons p9 (.cons vu (.cons vu .nil))))
 .obtain rfl:=yM.1 hx
  rfl
theorem wk_tmps (a b c:aF):(#[]++ #[a,b,c])++oL ((zr2).ntmps-(#[]++ #[a,b,c]:Array aF).size) aA=(#[a,b,c,aA,aA,aA]:Array aF):=by
 have e:(zr2).ntmps=6:=rfl;rw[e];have e:(#[]++ #[a,b,c]:Array aF).size=3:=aQ;rw[e];apply La;simp only[Qd,zgo];rfl
theorem wk_born {e:Hj}(H:e.d.Ok)(Dc:e.ty=sS.tWg){hb gh n c:Nat}{Q:Pr->Prop}(hQ:Up Q)(hq:Q R)
 (hw:dB (SF fX) K R (pU aK) e.St w Wr) (hT:wL τ R e.St) (hi:IQ e.W0 e.StI e.Shun e.Wg e.SS e.R0 e.Fz e.Wf e.qs [] R τ Wr) (nI:WgLive sS.tWg e.Wg Wr) (h:za4 e o es ln qn lo hb v w K A n c) (hh:w.cell? ⟨gh,0,none⟩=some (.pointer (some ⟨hb,0,none⟩))) (he:w.cell? ⟨ge,0,none⟩=some (.slice A n c))
 (ha:bQ (SF fX) K R gt t) (zIR:gt[7]? =some (.pointer (some ⟨gh,0,none⟩))) (Bh:gt[3]? =some (.pointer (some ⟨ge,0,none⟩))) (h8:t.getD 8 aA=.pointer (some ⟨e.Wg,0,none⟩))
 (uI:∀K' R τ W w' v',K.le K'->Q R->dB (SF fX) K' R (pU aK) e.St w' W->IQ e.W0 e.StI e.Shun e.Wg e.SS e.R0 e.Fz e.Wf e.qs [] R τ W->bF w' lo hb v' (tG o es ln qn qn.length)->gC v' (tG o es ln qn qn.length)->bT hb v w v' w'->e.D W):
 cF aK sS.tWg e.Wg (Dp e.N e.W e.D) e.Fin false (.usr (.wk e.qs 0)) 0 τ (born aK {target:=.fn (.func 57) #[t.getD 8 aA,t.getD 7 aA,t.getD 3 aA],args:=#[]}) Wr:=by
 refine Ot rfl rfl (λaY s=>ztr (c:=Wa) Tryz.func57 aH rfl aY) λaY s=>?_;have hB:=zEO H Dc h hh he hQ uI
 let C:=e.d.cx K Q [] [wQ aK] ⟨[],.deferred,aQ⟩ [(0,.pointer (some ⟨e.Wg,0,none⟩))]
 have Rz:=Cx.Rel.suf (C:=C) hw hT (show b8 C.ty C.Wg τ Wr aY by show b8 e.ty _ _ _ _;rw[Dc];exact s);have yN:=(H.iok hQ (K:=K) (chs:=[]) (base:=[wQ aK]) (ds:=⟨[],.deferred,aQ⟩) (pin:=[(0,.pointer (some ⟨e.Wg,0,none⟩))])).suf R τ Wr aY ⟨⟨hi,by show WgLive e.ty _ _;rw[Dc];exact nI⟩,hq⟩ (show b8 C.ty C.Wg τ Wr aY by show b8 e.ty _ _ _ _;rw[Dc];exact s);have p7:VR (SF fX) K R (.pointer (some ⟨gh,0,none⟩)) (t.getD 7 aA):=by
  have h1:=ha.getD 7 (yU (S:=SF fX) (K:=K) (R:=R));rw[x4,zIR] at h1;exact h1
 have p3:VR (SF fX) K R (.pointer (some ⟨ge,0,none⟩)) (t.getD 3 aA):=by
  have h1:=ha.getD 3 (yU (S:=SF fX) (K:=K) (R:=R));rw[x4,Bh] at h1;exact h1
 rw[h8];generalize t.getD 7 aA=t7 at*;generalize t.getD 3 aA=t3 at*;rw[wk_tmps];have vu:=yU (S:=SF fX) (K:=K) (R:=R);have hj:∀x,Tt.HidV x->VR (SF fX) K R .nilFunc x:=λx h=>.junk h;have:=hB R aY ⟨57,#[.pointer (some ⟨e.Wg,0,none⟩),t7,t3,aA,aA,aA],[.code Wa],false⟩ τ Rz ⟨rfl,rfl,rfl,?_,λx hx=>?_⟩ hT yN
 .rw[Cx.B_none (C:=C) rfl] at this
  have e2:C.ty=sS.tWg:=Dc;rw[e2] at this;exact this
 .exact zoJ (.cons (hj _ Wx) (.cons p7 (.cons p3 (.cons vu (.cons vu (.cons vu .nil))))))
 .obtain rfl:=yM.1 hx
  rfl
end Go.Proofs.YtfcjiloojkjaeaaGreatDoor
namespace Go.Mt
open Go.Conc Go.Tt
theorem zyg:∀(n:Nat) (u:aF),Nd u<n->∃u',wP u'/\(∀(S:aP->Prop) (K R:Pr) (v:aF),VR S K R u v->VR S K R u' v)/\(Sc u->u'=u):=by
 intro n
 induction n with
 |zero=>intro u h;omega
 |succ n ih=>
  intro u hu;have pl:∀{x:aF},(∀k m,x≠ .int k m)->(∀s,x≠ .string s)->(∀b,x≠ .bool b)->∀{y:aF},Sc x->y=x:=λh1 h2 h3 y hx=>by
   rcases hx with⟨k,m,e⟩|⟨s,e⟩|⟨b,e⟩
   .exact absurd e (h1 _ _)
   .exact absurd e (h2 _)
   .exact absurd e (h3 _)
  have rows:∀xs:Array aF,Nd xs<n->∃us:Array aF,us.size=xs.size/\(∀(i:Nat) (u:aF),us[i]? =some u->wP u)/\∀(S:aP->Prop) (K R:Pr) (i:Nat) (u x v:aF),us[i]? =some u->xs[i]? =some x->VR S K R x v->VR S K R u v:=λxs hx=>by
   have hex:∀x,∃u,x∈xs->wP u/\∀(S:aP->Prop) (K R:Pr) (v:aF),VR S K R x v->VR S K R u v:=λx=>by
    by_cases hm:x∈xs
    .obtain⟨u,h1,h2,_⟩:=ih x (zju (Array.sizeOf_lt_of_mem hm) hx)
     exact⟨u,λ_=>⟨h1,h2⟩⟩
    .exact⟨x,λh=>absurd h hm⟩
   refine⟨xs.map λx=>(hex x).choose,aQ,λi u h1=>?_,λS K R i u x v h1 h2 h3=>?_⟩
   .rw[Dw] at h1
    cases h2:xs[i]? with
    |none=>rw[h2] at h1;cases h1
    |some v=>
     rw[h2] at h1;simp only[G7,jQ] at h1;subst h1;exact((hex v).choose_spec (zb4 h2)).1
   .rw[Dw,h2] at h1
    simp only[G7,jQ] at h1;subst h1;exact((hex x).choose_spec (zb4 h2)).2 S K R v h3
  cases u with
  |bool b=>exact⟨_,.bool b,λS K R v h=>h,λ_=>rfl⟩
  |int k m=>exact⟨_,.int k m,λS K R v h=>h,λ_=>rfl⟩
  |string s=>exact⟨_,.string s,λS K R v h=>h,λ_=>rfl⟩
  |nilFunc=>exact⟨_,.nilFunc,λS K R v h=>h,λ_=>rfl⟩
  |nilIface=>exact⟨_,.nilIface,λS K R v h=>h,λ_=>rfl⟩
  |agg xs=>
   obtain⟨us,h1,h3,h2⟩:=rows xs (by simp at hu;omega);refine⟨.agg us,.agg h3,λS K R v h=>?_,pl (λ_ _ h=>by cases h) (λ_ h=>by cases h) (λ_ h=>by cases h)⟩
   cases h with
   | @agg _ cC e hh=>
    refine .agg (h1.trans e) λi a b ha hb=>?_;have hi:i<xs.size:=by rw[e];exact(eM.1 hb).1
    exact h2 S K R i a xs[i] b ha (qI hi) (hh i _ _ (qI hi) hb)
  |tuple xs=>
   obtain⟨us,h1,h3,h2⟩:=rows xs (by simp at hu;omega);refine⟨.tuple us,.tuple h3,λS K R v h=>?_,pl (λ_ _ h=>by cases h) (λ_ h=>by cases h) (λ_ h=>by cases h)⟩
   cases h with
   | @tuple _ cC e hh=>
    refine .tuple (h1.trans e) λi a b ha hb=>?_;have hi:i<xs.size:=by rw[e];exact(eM.1 hb).1
    exact h2 S K R i a xs[i] b ha (qI hi) (hh i _ _ (qI hi) hb)
  |_=>exact⟨.nilFunc,.nilFunc,λS K R v h=>.junk (by cases h<;>exact True.intro),pl (λ_ _ h=>by cases h) (λ_ h=>by cases h) (λ_ h=>by cases h)⟩
def cl (u:aF):Value:=(zyg (Nd u+1) u (y4 _)).choose
def cl_spec (u:aF):wP (cl u)/\(∀(S:aP->Prop) (K R:Pr) (v:aF),VR S K R u v->VR S K R (cl u) v)/\(Sc u->cl u=u):=(zyg (Nd u+1) u (y4 _)).choose_spec
end Go.Mt
namespace Go.Proofs.YtfcjiloojkjaeaaGreatDoor
open Go.RowKit Go.Mt Go.Conc Go.Tt Go.Maps Go.Conc.Lib Go.ConcR.Gen
open Go.ConcR (KK wgBlock WgAt stA smA rd wr)
abbrev Bx (Shun:Loc->Prop)(Wg:Nat):Loc->Prop:=λl=>Shun l\/nO l Wg
abbrev finS (Post:aF->aE->Prop)(Shun:Loc->Prop)(Wg:Nat):Goroutine->aE->Prop:=λg w'=>J aK Post (Bx Shun Wg) w'.heap.size g w'
structure rR where
 Post:aF->aE->Prop
 Shun:Loc->Prop
 W0:aE
 St:Nat->Prop
 base:List dV
 K1:Pr
 R1:Pr
 w00:aE
 lo0:Nat
 lo:Nat
 go:Nat
 ge:Nat
 n:Nat
 c:Nat
 A:Option bC
 o:fG
 es:List dS
 hb:Nat
 gh:Nat
 ln:List Nat
 Wg:Nat
def rR.End (p:rR)(qn:List Nat)(v':fK)(w':aE):Prop:=
 bF w' p.lo p.hb v' (tG p.o p.es p.ln qn qn.length)/\(∀b,b<p.lo0->w'.heap[b]? =p.w00.heap[b]?)/\p.lo<=w'.heap.size/\w'.heap[p.gh]? =some (.cells #[.pointer (some ⟨p.hb,0,none⟩)] 63)/\(qn.length:Int)=p.o.op
def rR.D (p:rR)(W:aE):Prop:=∃(K' R':Pr) (w':aE) (v':fK) (qn:List Nat),p.K1.le K'/\p.R1.le R'/\dB (SF fX) K' R' (pU aK) p.St w' W/\Kp p.W0 R' p.St W/\Sh p.W0.heap.size (Bx p.Shun p.Wg) R' W/\p.End qn v' w'
def rR.N (p:rR):Nat:=p.o.op.toNat
def rR.cx (p:rR)(K:Pr)(eV:Nat->Prop)(SS:Nat->Prop)(R0:Pr)(Fz:Nat->Prop)(Wf:aE)(qs chs:List Nat):Cx gN:=
 {p:=aK,gs:=Cw,fs:=fX,ty:=sS.tWg,Wg:=p.Wg,A:=Dp p.N (Cv p.o p.es) p.D,Fin:=finS p.Post p.Shun p.Wg,main:=true,base:=p.base,ds:=.nil,K:=K,St:=eV,I:=zN sS.tWg p.Wg (IQ p.W0 p.St (Bx p.Shun p.Wg) p.Wg SS R0 Fz Wf qs chs),pin:=[(8,.pointer (some ⟨p.Wg,0,none⟩))]}
theorem zFx {N:Nat}{W:List fL}{D:aE->Prop}{Wn:aE}(h:zdC (Dp N W D) Wn):D Wn:=by
 obtain⟨q,ch,hi,h0,hr,hd⟩:=h
 cases hi with
 |a n qs ix l _ _ _ h _ _ _=>rw[h0] at h;cases h
 |b qs ix iw k _ _ hw _ _ h _ _ _=>
  rcases h with h|⟨_,h⟩
  .simp_all
  .exact hd iw _ h
 |c qs ix iw k i kd cl ans a _ _ _ _ _ h _ _ _ _ _=>simp_all
variable {S:aP->Prop}{K R:Pr}{t:Array aF}
theorem bQ.forget {K' R':Pr}{g:Array aF}(h:bQ S K R g t):bQ S K' R' (g.map cl) t:=by
 refine⟨by rw[Array.size_map];exact h.1,λi v v' h1 h2=>?_⟩;rw[Dw] at h1
 cases h3:g[i]? with
 |none=>rw[h3] at h1;cases h1
 |some u=>
  rw[h3] at h1;simp only[G7,jQ] at h1;subst h1;obtain⟨c1,c2,_⟩:=cl_spec u;exact xJ.vr (X:=λ_=>False) (KD:=λ_=>False) (c2 S K R v' (h.2 i u v' h3 h2)) (λp q y z=>z.elim) (λa b x e=>e.elim) c1.inX
variable {i:Nat}
theorem set_getD (h:i<t.size):t.setIfInBounds i (t.getD i aA)=t:=by
 apply Array.ext_getElem?;intro j;rw[Array.getElem?_setIfInBounds];split
 .simp_all
 .rfl
def rR.After (p:rR):Prop:=∀(K' R':Pr) (w':aE) (v':fK) (qn:List Nat) (u0 u1 u2 u3 u4 u5 u6 u8 u9 iB gH gK gF gI gJ u16 iM lA kY jS iQ iO iK iR iI iT iE iH iD jK jM u32 iP iN iG iC kT lB iS iJ iF iZ iW jE jA jG iU iY jF jC iX nA nC lE lH kZ kN kL kU kP j8 j6 kG u64 kH kC kD j7 lL kQ kW kF:aF),p.K1.le K'->p.R1.le R'->p.End qn v' w'->BO (Ft aK Cw fX p.Post (Bx p.Shun p.Wg) p.W0 p.St K' R' p.base) () ⟨42,#[u0,u1,u2,u3,u4,u5,u6,.pointer (some ⟨p.gh,0,none⟩),u8,u9,iB,gH,gK,gF,gI,gJ,u16,iM,lA,kY,jS,iQ,iO,iK,iR,iI,iT,iE,iH,iD,jK,jM,u32,iP,iN,iG,iC,kT,lB,iS,iJ,iF,iZ,iW,jE,jA,jG,iU,iY,jF,jC,iX,nA,nC,lE,lH,kZ,kN,kL,kU,kP,j8,j6,kG,u64,kH,kC,kD,j7,lL,kQ,kW,kF],[.inRegion Z5 [],.code (.seq Ue .ret)],false⟩ w'
variable {p:rR}{eV SS Fz:Nat->Prop}{R0:Pr}{Wf w:aE}{qs qn:List Nat}{v:fK}{iB gH gK gF gI gJ u16 iM lA kY jS iQ iO iK iR iI iT iE iH iD jK jM u32 iP iN iG iC kT lB iS iJ iF iZ iW jE jA jG iU iY jF jC iX kZ kN kL kU kP j8 j6 kG u64 kH kC kD j7 lL kQ kW kF:aF}
theorem rh_last (zjb:p.After)(Gl:∃b,p.R1 p.gh b)(hN:¬qs.length<p.N)(aX:∀a,p.St a->eV a)(wD:∀b,b<p.W0.heap.size->SS b)(hF:∀b,Fz b->SS b)(pG:p.W0.heap.size<=p.Wg)(zkQ:p.R1.le R0)
 (cT:∀e:Hj,e.W=Cv p.o p.es->e.qs=qs->za4 e p.o p.es p.ln qn p.lo p.hb v w K p.A p.n p.c) (hh:w.cell? ⟨p.gh,0,none⟩=some (.pointer (some ⟨p.hb,0,none⟩))) (he:w.cell? ⟨p.ge,0,none⟩=some (.slice p.A p.n p.c))
 (uI:∀K' R τ W w' v',K.le K'->R0.le R->dB (SF fX) K' R (pU aK) eV w' W->IQ p.W0 p.St (Bx p.Shun p.Wg) p.Wg SS R0 Fz Wf qs [] R τ W->bF w' p.lo p.hb v' (tG p.o p.es p.ln qn qn.length)->gC v' (tG p.o p.es p.ln qn qn.length)->bT p.hb v w v' w'->p.D W) {u0 u1 u2 u4 u5 u6 u9 nA nC lE lH:aF}:
 BO (p.cx K eV SS R0 Fz Wf qs []) (.mN qs) ⟨42,#[u0,u1,u2,.pointer (some ⟨p.ge,0,none⟩),u4,u5,u6,.pointer (some ⟨p.gh,0,none⟩),.nilFunc,u9,iB,gH,gK,gF,gI,gJ,u16,iM,lA,kY,jS,iQ,iO,iK,iR,iI,iT,iE,iH,iD,jK,jM,u32,iP,iN,iG,iC,kT,lB,iS,iJ,iF,iZ,iW,jE,jA,jG,iU,iY,jF,jC,iX,nA,nC,lE,lH,kZ,kN,kL,kU,kP,j8,j6,kG,u64,kH,kC,kD,j7,lL,kQ,kW,kF],[.code (.seq Xh (.seq zan (.seq zac (.seq Ue .ret))))],false⟩ w:=by
 let C:=p.cx K eV SS R0 Fz Wf qs []
 have hI:fI C:=zmp (C:=C) rfl aX wD hF pG;have hX:=ze2 (ty:=sS.tWg) (St:=p.St) (Shun:=Bx p.Shun p.Wg) (R0:=R0) (Fz:=Fz) (Wf:=Wf) (qs:=qs) (chs:=[]) wD hF pG;show BO C _ _ _;refine BO.seq hI ?_;rw[zBA];refine BO.regs hI _ zGq ?_;refine BO.add (C:=C) (Lk:=sS) (s:=8) (nx:=.mW qs) zbX rfl rfl rfl hI rfl hX zBi rfl rfl (yM.2 rfl) (by intro s hs;cases hs;show(69:Nat)∉([8]:List Nat);decide) (by show eU p.N (Cv p.o p.es) (.mN qs)=_;simp[eU,hN]) ?_;simp only[cE,fS,dU,dW];refine BO.regEnd hI ?_;refine BO.seq hI ?_;rw[zBy];refine BO.regs hI _ zEq ?_;refine BO.go (C:=C) rfl hI zAt zEs rfl rfl rfl rfl rfl rfl (lc:=.wk qs 0) (nx:=.mZ) (pub:=[]) rfl aQ λR W t τ hw ha Ek ht hi=>?_;have hw:dB (SF fX) K R (pU aK) eV w W:=hw;have hi:zN sS.tWg p.Wg (IQ p.W0 p.St (Bx p.Shun p.Wg) p.Wg SS R0 Fz Wf qs []) R τ W:=hi;obtain⟨hi,nI⟩:=hi;have h8:t.getD 8 aA=.pointer (some ⟨p.Wg,0,none⟩):=Ek (8,.pointer (some ⟨p.Wg,0,none⟩)) (yM.2 rfl);have V4:R0.le R:=hi.x.x.le;have ha:bQ (SF fX) K R #[u0,u1,u2,.pointer (some ⟨p.ge,0,none⟩),u4,u5,u6,.pointer (some ⟨p.gh,0,none⟩),.nilFunc,u9,iB,gH,gK,gF,gI,gJ,u16,iM,lA,kY,jS,iQ,iO,iK,iR,iI,iT,iE,iH,iD,jK,jM,u32,iP,iN,iG,iC,kT,lB,iS,iJ,iF,iZ,iW,jE,jA,jG,iU,iY,jF,jC,iX,nA,nC,lE,lH,kZ,kN,kL,kU,kP,j8,j6,kG,u64,kH,kC,kD,j7,.tuple #[],kQ,kW,kF] t:=ha;have cP:t.size=73:=ha.1.symm;obtain⟨zzm,qU⟩:=Gl;have h7:t.getD 7 aA=.pointer (some ⟨zzm,0,none⟩):=by
  have h1:VR (SF fX) K R (.pointer (some ⟨p.gh,0,none⟩)) (t.getD 7 aA):=ha.getD 7 (yU (S:=SF fX) (K:=K) (R:=R));generalize t.getD 7 aA=t7 at h1
  cases h1 with
  |pointer y=>cases y with|some y=>cases y with|mk y=>rw[hw.inj _ _ _ (.inl y) (.inl (V4 _ _ (zkQ _ _ qU)))]
 refine⟨tauWm τ,τ,parts_w hi,?_,?_⟩
 .rw[zFq]
  refine zGp (Lk:=sS) (s:=8) (ops:=Z5) (o:=oRH24_0) zbX rfl (λn g w h=>zHU n g w h) rfl rfl rfl ?_ nI λWn d hD=>?_
  .show(t.setIfInBounds 70 _).getD 8 aA=.pointer (some ⟨p.Wg,0,none⟩)
   simp_all
  .obtain⟨K',R',w',v',zgC,k1,k2,k3,k4,k5,k6⟩:=zFx hD
   have zGd:=zjb K' R' w' v' zgC (cl (u0)) (cl (u1)) (cl (u2)) (cl (.pointer (some ⟨p.ge,0,none⟩))) (cl (u4)) (cl (u5)) (cl (u6)) (cl (.nilFunc)) (cl (u9)) (cl (iB)) (cl (gH)) (cl (gK)) (cl (gF)) (cl (gI)) (cl (gJ)) (cl (u16)) (cl (iM)) (cl (lA)) (cl (kY)) (cl (jS)) (cl (iQ)) (cl (iO)) (cl (iK)) (cl (iR)) (cl (iI)) (cl (iT)) (cl (iE)) (cl (iH)) (cl (iD)) (cl (jK)) (cl (jM)) (cl (u32)) (cl (iP)) (cl (iN)) (cl (iG)) (cl (iC)) (cl (kT)) (cl (lB)) (cl (iS)) (cl (iJ)) (cl (iF)) (cl (iZ)) (cl (iW)) (cl (jE)) (cl (jA)) (cl (jG)) (cl (iU)) (cl (iY)) (cl (jF)) (cl (jC)) (cl (iX)) (cl (nA)) (cl (nC)) (cl (lE)) (cl (lH)) (cl (kZ)) (cl (kN)) (cl (kL)) (cl (kU)) (cl (kP)) (cl (j8)) (cl (j6)) (cl (kG)) (cl (u64)) (cl (kH)) (cl (kC)) (cl (kD)) (cl (j7)) (cl (.tuple #[])) .nilFunc (.tuple #[]) (cl (kF)) k1 k2 k6;have h1:=(bQ.forget (K':=K') (R':=R') ha).set 7 (v:=.pointer (some ⟨p.gh,0,none⟩)) (v':=t.getD 7 aA) (by rw[h7];exact .pointer (.some (.mk (k2 _ _ qU))));rw[set_getD aC] at h1;simp only[uP,jO,uN,fS,dU,dW] at h1;have h1:=(h1.set 70 (.junk (v':=(.func (.func 57) #[] ((#[.tmp 8,.tmp 7,.tmp 3]:Array cN).map (bL t C.ds.ds).eval))) Wx)).set 71 (v:=.tuple #[]) (v':=.tuple #[]) (.tuple rfl λi v v' h=>by simp at h);simp only[fS,dU,dW] at h1;have oT:=BO.aloneIn (W:=Wn.at d) (m':=⟨42,(cE ⟨t.setIfInBounds 70 (.func (.func 57) #[] ((#[.tmp 8,.tmp 7,.tmp 3]:Array cN).map (bL t C.ds.ds).eval)),[]⟩ (some 71) (.tuple #[])).tmps,[.inRegion Z5 [],.code (.seq Ue .ret)],false⟩) zGd (dB.at k3 d) ⟨rfl,rfl,rfl,h1,λx mJ=>by cases mJ⟩ ⟨k5.old,k5.rel,k5.new⟩ ⟨k4.os,k4.tape,k4.output,k4.size,k4.block,k4.old⟩;have e:=mY .nil 42 (cE ⟨t.setIfInBounds 70 (.func (.func 57) #[] ((#[.tmp 8,.tmp 7,.tmp 3]:Array cN).map (bL t C.ds.ds).eval)),[]⟩ (some 71) (.tuple #[])).tmps [.inRegion Z5 [],.code (.seq Ue .ret)];rw[Hi] at e;rw[e] at oT;exact oT
 .let e:Hj:=⟨sS.tWg,p.Wg,p.N,Cv p.o p.es,p.D,finS p.Post p.Shun p.Wg,eV,p.W0,p.St,Bx p.Shun p.Wg,SS,R0,Fz,Wf,qs⟩
  have H:e.d.Ok:=⟨aX,wD,hF,pG,nM⟩;simp only[uP,jO,uN,xB];exact wk_born (e:=e) H rfl (Q:=λR'=>R0.le R') (λR R' h h'=>h'.trans h) V4 hw ht hi nI (cT e rfl rfl) hh he ha rfl rfl h8 (λK' R τ W w' v'=>uI K' R τ W w' v')
variable {wB w':aE}{c gq:Nat}{A:Option bC}{o:fG}{es:List dS}{ln:List Nat}
theorem oS.but {lo go ge n hb gh:Nat}(h:oS wB lo go ge n c A o es hb gh ln qn v w)(hs:w'.heap.size=w.heap.size)(C0:lo<=gq)(Cs:gq≠gh)(zbn:some gq∉parts v hb)(k:∀b,b≠gq->w'.heap[b]? =w.heap[b]?):oS wB lo go ge n c A o es hb gh ln qn v w':=
 ⟨h.e.keep aC λb hb=>k b aC,h.at_.keep λb _ hp=>k b λe=>zbn (e▸hp),h.mp,h.nd,λx hx=>by rw[hs];exact h.lt x hx,(k _ (Ne.symm Cs)).trans h.bh,h.nh,h.ghl⟩
variable {Tf:Array aF}
theorem al17 :(aO (bL Tf []).eval zqZ).run aK w=.ok (.value (.pointer (some ⟨w.heap.size,0,none⟩))) (w.alloc (.cells #[.chan none] 95)):=by
 unfold aO;go_simp
theorem st17 {V:Nat->aF}{gc:Nat}(hT:xO Tf V)(e1:V 9=.pointer (some ⟨gq,0,none⟩))(e2:V 55=.chan (some gc))(hh:w.cell? ⟨gq,0,none⟩=some (.chan none))(hf:w.frozen? ⟨gq,0,none⟩=false){T:kI}:(aO (bL Tf []).eval zqG).run aK (Tt.tp w T 0)=.ok .skip (Tt.tp (w.setCell ⟨gq,0,none⟩ (.chan (some gc))) T 0):=by
 have zhe:(Tt.tp w T 0).cell? ⟨gq,0,none⟩=some (.chan none):=hh;have Ej:(Tt.tp w T 0).frozen? ⟨gq,0,none⟩=false:=hf;clear hh hf;unfold aO;go_simp
 try rfl
def zda:Go.Code:=.seq znC (.seq (.cond (.tmp 54) .skip (.exit 4)) (.seq (.block 5 (.seq zc9 (.seq Qy (.seq Tq Vo)))) znx))
def zis:Go.Code:=.seq Xh (.seq zan (.seq zac (.seq Ue .ret)))
def rR.ok {chs:List Nat}(aX:∀a,p.St a->eV a)(wD:∀b,b<p.W0.heap.size->SS b)(hF:∀b,Fz b->SS b)(pG:p.W0.heap.size<=p.Wg):fI (p.cx K eV SS R0 Fz Wf qs chs):=zmp (C:=p.cx K eV SS R0 Fz Wf qs chs) rfl aX wD hF pG
structure C7 (p:rR)(wB:aE)(K:Pr)(eV SS:Nat->Prop)(R0:Pr)(Fz:Nat->Prop)(Wf:aE)(Xa:Nat->Prop)(qs qn:List Nat)(v:fK)(w:aE):Prop where
 K1:p.K1.le K
 R1:p.R1.le R0
 st:∀a,p.St a->eV a
 ss:∀b,b<p.W0.heap.size->SS b
 F:∀b,Fz b->SS b
 th:K4 p.w00 K R0 p.St eV Fz Wf Xa
 fz:∀b,Fz b->∃a,R0 a b/\eV a
 xt:∀a,xT a=true->eV a
 xa:∀a,Xa a->xT a=true\/(p.lo<=a/\a<w.heap.size/\a≠p.gh/\some a∉parts v p.hb)
 lq:qs.length=qn.length
 kq:∀(i g:Nat),qn[i]? =some g->K g (qa qs i)
 h:oS wB p.lo p.go p.ge p.n p.c p.A p.o p.es p.hb p.gh p.ln qn v w
structure PhOk (p:rR)(wB:aE):Prop where
 after:p.After
 gh:∃b,p.R1 p.gh b
 ok:eG p.o p.es=true
 low:p.W0.heap.size<=p.Wg
 lo0:p.lo0<=p.lo
 tb:x5 wB
 tl:∀a,xT a=true->a<p.lo0
 wB:∀b,b<p.lo0->xT b=false->wB.heap[b]? =p.w00.heap[b]?
 ln:(p.ln.length:Int)=p.o.ln
variable {W:aE}{Xa:Nat->Prop}
theorem op_dep (H:PhOk p wB)(I:C7 p wB K eV SS R0 Fz Wf Xa qs qn v w)(Rn:(qn.length:Int)=p.o.op){K':Pr}{τ:cI}{v':fK}(hK:K.le K')(hR:R0.le R)(hw:dB (SF fX) K' R (pU aK) eV w' W)(hi:IQ p.W0 p.St (Bx p.Shun p.Wg) p.Wg SS R0 Fz Wf qs [] R τ W)
 (hA:bF w' p.lo p.hb v' (tG p.o p.es p.ln qn qn.length)) (hT:bT p.hb v w v' w'):p.D W:=by
 obtain⟨wn,t1,t2,t3,t4⟩:=I.th K' R w' W hK hR hw (λb hb=>(hi.x.x.fz b hb).2.1);have eL:p.lo<=w.heap.size:=I.h.e.lo_;have zCs:∀b,b<p.lo->xT b=false->¬Xa b:=λb hb hx h=>by
  rcases I.xa b h with h|⟨h,_⟩
  .rw[h] at hx;cases hx
  .omega
 have zIt:∀b,p.lo<=b->xT b=false:=λb hb=>by
  cases e:xT b with
  |false=>rfl
  |true=>have:=H.tl b e;have:=H.lo0;omega
 refine⟨K',R,wn,v',qn,wZ I.K1 hK,I.R1.trans hR,t1,hi.x.x.im.kp,hi.x.x.im.sh,hA.keep λb _ hp=>t3 b λhx=>?_,λb hb=>?_,by have:=hT.size;omega,?_,Rn⟩
 .have zLQ:=(hA.lt b hp).1
  rcases I.xa b hx with h|⟨_,h2,_,h4⟩
  .simp_all
  .rcases hT.moved b hp with hm|hm
   .exact h4 hm
   .omega
 .cases e:xT b with
  |true=>exact t4 b e
  |false=>
   have bY:b<p.lo:=jP hb H.lo0;rw[t3 b (zCs b bY e),hT.block b aC (λhp=>by have:=(I.h.at_.lt b hp).1;omega),I.h.e.old b bY,H.wB b hb e]
 .rw[t3 p.gh λhx=>?_]
  .exact(I.h.at_.turned hT I.h.bh I.h.nh).1
  .rcases I.xa _ hx with h|⟨_,_,h3,_⟩
   .rw[zIt _ I.h.ghl] at h;cases h
   .exact h3 rfl
theorem op_pre (H:PhOk p wB)(I:C7 p wB K eV SS R0 Fz Wf Xa qs qn v w)(Rn:(qn.length:Int)=p.o.op)(e:Hj)(he:e.W=Cv p.o p.es)(hq:e.qs=qs):za4 e p.o p.es p.ln qn p.lo p.hb v w K p.A p.n p.c:=
 ⟨H.ok,he,I.h.at_,I.h.mr,I.h.nd,H.ln,Rn,by rw[hq];exact I.lq,I.h.e.lo_,I.h.e.tab,I.h.e.ev,by rw[hq];exact I.kq⟩
def und_chq:aK.underlying 95=some (.chan .both 124):=aU
def zCE:∃ie,aK.info? 124=some ie:=Option.isSome_iff_exists.1 aU
theorem zGf (h:i<qs.length):qa (qs++[c]) i=qa qs i:=by simp[qa,zcT,Ls h]
theorem qa_snoc :qa (qs++[c]) qs.length=c:=by simp[qa,zcT]
theorem rh_go (H:PhOk p wB){gc cr j:Nat}(I:C7 p wB K eV SS R0 Fz Wf Xa qs qn v w)(hN:qs.length<p.N)(zL5:j=qn.length)(zbp:K gc cr)
 (C0:w.heap[gq]? =some (.cells #[.chan (some gc)] 95)) (lI:p.lo<=gq) (Gl:gq≠p.gh) (zdM:some gq∉parts v p.hb) {kk:List dZ}
 (zbG:∀(zdb zd1:Nat->Prop) (zbR:Pr) (zb6:Nat->Prop) (zbL:aE) (zjL:Nat->Prop) (v':fK) (w':aE) u0 u1 u4 u5 u6 iB gH gK gF gI gJ u16 iM lA kY jS iQ iO iK iR iI iT iE iH iD jK jM u32 iP iN iG iC kT lB iS iJ iF iZ iW jE jA jG iU iY jF jC iX kZ kN kL kU kP j8 j6 kG u64 kH kD j7 lL kQ kW kF u9 lE lH kC,C7 p wB K zdb zd1 zbR zb6 zbL zjL (qs++[cr]) (qn++[gc]) v' w'->BO (p.cx K zdb zd1 zbR zb6 zbL (qs++[cr]) []) (.mN (qs++[cr])) ⟨42,#[u0,u1,.pointer (some ⟨p.go,0,none⟩),.pointer (some ⟨p.ge,0,none⟩),u4,u5,u6,.pointer (some ⟨p.gh,0,none⟩),.nilFunc,u9,iB,gH,gK,gF,gI,gJ,u16,iM,lA,kY,jS,iQ,iO,iK,iR,iI,iT,iE,iH,iD,jK,jM,u32,iP,iN,iG,iC,kT,lB,iS,iJ,iF,iZ,iW,jE,jA,jG,iU,iY,jF,jC,iX,.int .i64 p.o.op,.int .i64 j,lE,lH,kZ,kN,kL,kU,kP,j8,j6,kG,u64,kH,kC,kD,j7,lL,kQ,kW,kF],kk,false⟩ w')
 {u0 u1 u4 u5 u6:aF}:
 BO (p.cx K eV SS R0 Fz Wf qs [cr]) (.mA qs cr) ⟨42,#[u0,u1,.pointer (some ⟨p.go,0,none⟩),.pointer (some ⟨p.ge,0,none⟩),u4,u5,u6,.pointer (some ⟨p.gh,0,none⟩),.nilFunc,.pointer (some ⟨gq,0,none⟩),iB,gH,gK,gF,gI,gJ,u16,iM,lA,kY,jS,iQ,iO,iK,iR,iI,iT,iE,iH,iD,jK,jM,u32,iP,iN,iG,iC,kT,lB,iS,iJ,iF,iZ,iW,jE,jA,jG,iU,iY,jF,jC,iX,.int .i64 p.o.op,.int .i64 j,.bool true,.chan (some gc),kZ,kN,kL,kU,kP,j8,j6,kG,u64,kH,kC,kD,j7,lL,kQ,kW,kF],[.code (.seq Qy (.seq Tq Vo))]++kk,false⟩ w:=by
 let C:=p.cx K eV SS R0 Fz Wf qs [cr]
 have hI:fI C:=rR.ok I.st I.ss I.F H.low;have hX:=ze2 (ty:=sS.tWg) (St:=p.St) (Shun:=Bx p.Shun p.Wg) (R0:=R0) (Fz:=Fz) (Wf:=Wf) (qs:=qs) (chs:=[cr]) I.ss I.F H.low;show BO C _ ⟨_,_,.code (.seq Qy (.seq Tq Vo))::kk,false⟩ _;have sM:qQ p.o=true:=by
  have:=H.ok;unfold eG at this;simp only[jB] at this;exact this.1.1
 unfold qQ at sM;have sM:=of_decide_eq_true sM;have zLa:p.N<=4:=by unfold rR.N;omega
 refine BO.seq hI ?_;refine cw_RQ (C:=C) (l:=.mA qs cr) (c:=⟨p.lo,p.hb,p.gh,gq,gc,v,w,v,⟨lV p.o,p.ln,qn,[]⟩⟩) hI rfl rfl rfl nM (λi o s h1 h2 h3=>?_) (by show qn.length<=1000;have:=I.lq;omega) I.h.nh zdM rfl rfl rfl (λvs C' l' w' uJ hS=>?_) ⟨rfl,rfl,λ_=>⟨aI I.h.at_.blk 6,I.h.bh,C0⟩,⟨I.h.at_,bT.refl,I.h.e.lo_⟩⟩
 .obtain rfl:s=8:=yM.1 h3
  have hm:some 8∈lO.toList.map (·.dst):=List.mem_map.2 ⟨o,eI (by rw[C3];exact h1),h2⟩;rw[zyr] at hm;simp at hm
 rw[Go.Mt.Cq,zyr];simp only[Go.Mt.yF,dU,dW];obtain⟨rfl,rfl,_,h4⟩:=hS;have s4:WH.RQ2 ⟨p.lo,p.hb,p.gh,gq,gc,v,w,v,⟨lV p.o,p.ln,qn,[]⟩⟩ gc w':=by
  rcases vs with _|⟨b,_|⟨x,_|⟨y,vs⟩⟩⟩
  .cases uJ
  .cases uJ
  .cases uJ
  .exact h4
 obtain⟨v2,a2,t2,mp⟩:=s4;have Li:oS wB p.lo p.go p.ge p.n p.c p.A p.o p.es p.hb p.gh p.ln (qn++[gc]) v2 w':=I.h.turn t2 a2 mp I.h.nd λx hx=>jP (I.h.lt x hx) t2.size;obtain⟨zji,zsv⟩:=I.h.at_.turned t2 C0 zdM;have HR:=aD Li;have T2:=aD t2;clear Li a2 mp h4 uJ;refine BO.regEnd hI ?_;refine BO.seq hI ?_;rw[zFa];refine BO.regs hI _ zFH ?_;refine BO.add (C:=C) (Lk:=sS) (s:=8) (nx:=.mS qs cr) zbX rfl rfl rfl hI rfl hX zH6 rfl rfl (yM.2 rfl) (by intro s hs;cases hs;show(66:Nat)∉([8]:List Nat);decide) rfl ?_;simp only[cE,fS,dU,dW];refine BO.regEnd hI ?_;rw[zBY];refine BO.regs hI _ zEu ?_;refine BO.go (C:=C) rfl hI zI1 zy7 rfl rfl rfl rfl rfl rfl (lc:=.op cr 0 (oH (Cv p.o p.es) 0 qs.length)) (nx:=.mN (qs++[cr])) (pub:=[cr]) rfl aQ λR W t τ hw ha Ek ht hi=>?_;have hw:dB (SF fX) K R (pU aK) eV w' W:=hw;have hi:zN sS.tWg p.Wg (IQ p.W0 p.St (Bx p.Shun p.Wg) p.Wg SS R0 Fz Wf qs [cr]) R τ W:=hi;obtain⟨hi,nI⟩:=hi;have h8:t.getD 8 aA=.pointer (some ⟨p.Wg,0,none⟩):=Ek (8,.pointer (some ⟨p.Wg,0,none⟩)) (yM.2 rfl);have cP:t.size=73:=ha.1.symm;have fR:∀a,¬R a cr:=(hi.x.ch cr (yM.2 rfl)).2.2;have rY:x5 w':=λg hg=>by
  have:=H.tl g hg;have:=H.lo0;rw[HR.o.e.old g aC];exact H.tb g hg
 have zEK:∃b,R gq b:=by
  have h1:VR (SF fX) K R (.pointer (some ⟨gq,0,none⟩)) (t.getD 9 aA):=ha.getD 9 (yU (S:=SF fX) (K:=K) (R:=R));generalize t.getD 9 aA=t9 at h1
  cases h1 with
  |pointer y=>cases y with|some y=>cases y with|mk y=>exact⟨_,y⟩
 have hx:XOk R (xQ gq) w':=⟨λa h=>by
  rcases zcQ h with rfl|h
  .exact zEK
  .exact⟨a,hw.tb a h⟩,λa h=>by
  rcases zcQ h with rfl|h
  .exact⟨_,_,_,zji⟩
  .obtain⟨c,T,fz,hc,_⟩:=rY a h;exact⟨c,T,fz,hc⟩⟩
 have V4:R0.le R:=hi.x.x.le;have gE:=zrD hw hx;have zy0:∀b,b≠gq->(uS (xQ gq) w').heap[b]? =w'.heap[b]? :=λb hb=>frX_same λh=>by
  rcases zcQ h with h|h
  .exact absurd h hb
  .exact(hw.st b (I.xt b h)).2
 have zBk:=zGX (X:=xQ gq) (qs:=qs) hw ht fR;have zlq:=iq_qm (X:=xQ gq) hw ht hi;refine⟨Lo τ R (xQ gq) cr qs,Xi τ R (xQ gq),parts_q ht hi,?_,?_⟩
 .have J:C7 p wB K (λa=>eV a\/xQ gq a=true) (Lo τ R (xQ gq) cr qs).still R (Hy R eV (xQ gq)) W (λa=>Xa a\/xQ gq a=true) (qs++[cr]) (qn++[gc]) v2 (uS (xQ gq) w'):=by
   refine⟨I.K1,I.R1.trans V4,λa h=>.inl (I.st a h),λb hb=>.inl (by rw[hi.x.x.im.still];exact I.ss b hb),λb hb=>?_,I.th.step (yG K) V4 hw hx (λb hb=>⟨(hi.x.x.fz b hb).2.1,let⟨a,x,y⟩:=I.fz b hb;⟨a,V4 _ _ x,y⟩⟩),λb hb=>hb,λa h=>.inl (I.xt a h),λa h=>?_,by rw[j5,j5,I.lq];rfl,λi g hg=>?_,HR.o.but (Uy _ _) lI Gl zsv zy0⟩
   .obtain⟨a,x,h⟩:=hb
    rcases h with h|h
    .exact .inl ((ht a b x).1 h)
    .exact .inr ⟨a,x,h⟩
   .rw[Uy]
    rcases h with h|h
    .rcases I.xa a h with h|⟨h1,h2,h3,h4⟩
     .exact .inl h
     .exact .inr ⟨h1,jP h2 T2.o.size,h3,λhp=>(T2.o.moved a hp).elim h4 λx=>absurd h2 (Nat.not_lt.2 x)⟩
    .rcases zcQ h with rfl|h
     .exact .inr ⟨lI,gM zji,Gl,zsv⟩
     .exact .inl h
   .rcases uR i qn.length with aT|Cc
    .rw[Ls aT] at hg
     rw[zGf (by rw[I.lq];exact aT)];exact I.kq i g hg
    .obtain rfl:i=qn.length:=by
      have:=(lX.1 hg).1;simp at this;omega
     simp at hg;subst hg;rw[<-I.lq,qa_snoc];exact zbp
  have Hd:fI (p.cx K (λa=>eV a\/xQ gq a=true) (Lo τ R (xQ gq) cr qs).still R (Hy R eV (xQ gq)) W (qs++[cr]) []):=rR.ok J.st J.ss J.F H.low;have h1:=ha.set 67 (.junk (v':=(.func (.func 54) #[] ((#[.tmp 8,.tmp 9]:Array cN).map (bL t C.ds.ds).eval))) Wx);simp only[fS,dU,dW] at h1;have fin:∀(G1:Array aF),bQ (SF fX) K R G1 (t.setIfInBounds 67 (.func (.func 54) #[] ((#[.tmp 8,.tmp 9]:Array cN).map (bL t C.ds.ds).eval)))->BO (p.cx K (λa=>eV a\/xQ gq a=true) (Lo τ R (xQ gq) cr qs).still R (Hy R eV (xQ gq)) W (qs++[cr]) []) (.mN (qs++[cr])) ⟨42,G1,.inRegion Lf []::kk,false⟩ (uS (xQ gq) w')->cF C.p C.ty C.Wg C.A C.Fin C.main (.usr (.mN (qs++[cr]))) 0 (Lo τ R (xQ gq) cr qs) (G ((C.ds.base 42).at ⟨t.setIfInBounds 67 (.func (.func 54) #[] ((#[.tmp 8,.tmp 9]:Array cN).map (bL t C.ds.ds).eval)),C.ds.ds⟩ (.inRegion Lf []::kk)) C.base) W:=λG1 h1 hB=>by
   have hm:=hB R W ⟨42,t.setIfInBounds 67 (.func (.func 54) #[] ((#[.tmp 8,.tmp 9]:Array cN).map (bL t C.ds.ds).eval)),.inRegion Lf []::kk,false⟩ (Lo τ R (xQ gq) cr qs) gE ⟨rfl,rfl,rfl,h1,λx mJ=>?_⟩ zBk ⟨zlq,nI⟩
   .rw[Cx.B_none rfl,mY] at hm
    exact hm
   .obtain rfl:=yM.1 mJ
    show(t.setIfInBounds 67 _).getD 8 aA=_;rw[<-h8];simp only[x4,Array.getElem?_setIfInBounds_ne (show(67:Nat)≠8 by decide)]
  exact fin _ h1 (BO.regEnd (ops:=Lf) Hd (zbG _ _ _ _ _ _ v2 (uS (xQ gq) w') _ _ _ _ _ _ _ _ _ _ _ _ _ _ _ _ _ _ _ _ _ _ _ _ _ _ _ _ _ _ _ _ _ _ _ _ _ _ _ _ _ _ _ _ _ _ _ _ _ _ _ _ _ _ _ _ _ _ _ _ _ _ _ _ _ _ _ J))
 .simp only[uP,jO,uN,xB]
  exact op_born hw hx zbp fR zji rY ha rfl h8 hi.x.x.im.wg hi.x.x.im.rel nI
variable {St:Nat->Prop}
def K4.mono {w00:aE}{K2:Pr}(h:K4 w00 K R St eV Fz Wf Xa)(hK:K.le K2):K4 w00 K2 R St eV Fz Wf Xa:=λK' R' wn Wn a b c d=>h K' R' wn Wn (wZ hK a) b c d
def C7.tp (I:C7 p wB K eV SS R0 Fz Wf Xa qs qn v w)(T:kI)(n:Nat):C7 p wB K eV SS R0 Fz Wf Xa qs qn v (Tt.tp w T n):=⟨I.K1,I.R1,I.st,I.ss,I.F,I.th,I.fz,I.xt,I.xa,I.lq,I.kq,I.h.tp T n⟩
theorem rh_ops (H:PhOk p wB):∀(m j:Nat),((j+m:Nat):Int)=p.o.op->∀(K:Pr) (eV SS:Nat->Prop) (R0:Pr) (Fz:Nat->Prop) (Wf:aE) (Xa:Nat->Prop) (qs qn:List Nat) (v:fK) (w:aE) (u0 u1 u4 u5 u6 u9 iB gH gK gF gI gJ u16 iM lA kY jS iQ iO iK iR iI iT iE iH iD jK jM u32 iP iN iG iC kT lB iS iJ iF iZ iW jE jA jG iU iY jF jC iX lE lH kZ kN kL kU kP j8 j6 kG u64 kH kC kD j7 lL kQ kW kF:aF),C7 p wB K eV SS R0 Fz Wf Xa qs qn v w->qn.length=j->
 BO (p.cx K eV SS R0 Fz Wf qs []) (.mN qs) ⟨42,#[u0,u1,.pointer (some ⟨p.go,0,none⟩),.pointer (some ⟨p.ge,0,none⟩),u4,u5,u6,.pointer (some ⟨p.gh,0,none⟩),.nilFunc,u9,iB,gH,gK,gF,gI,gJ,u16,iM,lA,kY,jS,iQ,iO,iK,iR,iI,iT,iE,iH,iD,jK,jM,u32,iP,iN,iG,iC,kT,lB,iS,iJ,iF,iZ,iW,jE,jA,jG,iU,iY,jF,jC,iX,.int .i64 p.o.op,.int .i64 j,lE,lH,kZ,kN,kL,kU,kP,j8,j6,kG,u64,kH,kC,kD,j7,lL,kQ,kW,kF],[.code zda,.inLoop zda,.inBlock 4,.code zis],false⟩ w:=by
 have sM:qQ p.o=true:=by
  have:=H.ok;unfold eG at this;simp only[jB] at this;exact this.1.1
 unfold qQ at sM;have sM:=of_decide_eq_true sM;have h4:p.o.op<=4:=sM.2.2.2.1;clear sM;intro m
 induction m with
 |zero=>
  intro j hj K eV SS R0 Fz Wf Xa qs qn v w u0 u1 u4 u5 u6 u9 iB gH gK gF gI gJ u16 iM lA kY jS iQ iO iK iR iI iT iE iH iD jK jM u32 iP iN iG iC kT lB iS iJ iF iZ iW jE jA jG iU iY jF jC iX lE lH kZ kN kL kU kP j8 j6 kG u64 kH kC kD j7 lL kQ kW kF I hl;have hI:fI (p.cx K eV SS R0 Fz Wf qs []):=rR.ok I.st I.ss I.F H.low;have zok:(j:Int)=p.o.op:=by simpa using hj
  have Hs:¬(j:Int)<p.o.op:=aC;have HI:=aD I;have HJ:=aD zok;clear I hj zok;unfold zda;refine BO.seq hI ?_;refine BO.pV nM hI uO (λw1 T1 dY Q' dG=>?_);have U4:=aD (show C7 p wB K eV SS R0 Fz Wf Xa qs qn v w1 by rw[dY];exact HI.o.tp T1 0);clear HI
  try dsimp only
  clear dY;go_wp2;refine dG.o _ _ ?_;clear dG;refine BO.seq hI ?_;refine BO.cond hI (t:=false) rfl rfl ?_;refine BO.exit hI (k':=[.code zis]) rfl ?_;have I:=U4.o;have zok:=HJ.o;have zCA:=I.lq;refine rh_last H.after H.gh (by unfold rR.N;omega) I.st I.ss I.F H.low I.R1 (op_pre H I aC) (aI I.h.bh 0) (aI I.h.e.be 0) (λK' R τ W w' v' hK hR hw hi hA hm hT=>op_dep H I aC hK hR hw hi hA hT)
 |succ m ih=>
  intro j hj K eV SS R0 Fz Wf Xa qs qn v w u0 u1 u4 u5 u6 u9 iB gH gK gF gI gJ u16 iM lA kY jS iQ iO iK iR iI iT iE iH iD jK jM u32 iP iN iG iC kT lB iS iJ iF iZ iW jE jA jG iU iY jF jC iX lE lH kZ kN kL kU kP j8 j6 kG u64 kH kC kD j7 lL kQ kW kF I hl;have hI:fI (p.cx K eV SS R0 Fz Wf qs []):=rR.ok I.st I.ss I.F H.low;have Hs:(j:Int)<p.o.op:=aC;have HI:=aD I;have HJ:=aD hj;clear I hj;unfold zda;refine BO.seq hI ?_;refine BO.pV nM hI uO (λw1 T1 dY Q' dG=>?_);have U4:=aD (show C7 p wB K eV SS R0 Fz Wf Xa qs qn v w1 by rw[dY];exact HI.o.tp T1 0);clear HI
  try dsimp only
  clear dY;go_wp2;refine dG.o _ _ ?_;clear dG;refine BO.seq hI ?_;refine BO.cond hI (t:=true) rfl rfl ?_;refine BO.skip hI ?_;refine BO.seq hI ?_;refine BO.block hI ?_;refine BO.seq hI ?_;have I:=U4.o;have zCA:=I.lq;have zwF:qs.length<p.N:=by unfold rR.N;omega
  rw[zAO];refine BO.regs hI _ zIH ?_;obtain⟨ie,jZ⟩:=zCE;refine BO.makeK hI zAI rfl rfl und_chq jZ (by intro s hs;cases hs;show(55:Nat)∉([8]:List Nat);decide) (I':=λc=>zN sS.tWg p.Wg (IQ p.W0 p.St (Bx p.Shun p.Wg) p.Wg SS R0 Fz Wf qs [c])) (λR τ W hi ht aT=>?_) (λcr=>?_)
  .have hi:zN sS.tWg p.Wg (IQ p.W0 p.St (Bx p.Shun p.Wg) p.Wg SS R0 Fz Wf qs []) R τ W:=hi
   refine⟨zxe hi.1 aT,?_⟩;obtain⟨st,sm,hx⟩:=hi.2;have mJ:W.heap[p.Wg]? =some _:=hx;exact⟨st,sm,(Bp (eM.1 mJ).1).trans mJ⟩
  simp only[cE,fS,dU,dW];show BO (p.cx (K.add w1.heap.size cr) eV SS R0 Fz Wf qs [cr]) (.mN qs) _ _;refine BO.note (can:=λl'=>∃a,l'=.mA qs a) rfl (by show eU p.N (Cv p.o p.es) (.mN qs)=_;simp[eU,zwF]) ⟨cr,rfl⟩ ?_;have Lw:fI (p.cx (K.add w1.heap.size cr) eV SS R0 Fz Wf qs [cr]):=rR.ok I.st I.ss I.F H.low;have jJ:=aD (show oS wB p.lo p.go p.ge p.n p.c p.A p.o p.es p.hb p.gh p.ln qn v (w1.alloc pK) from I.h.below (eK (gD _ _) _));obtain⟨gc,Rt⟩:=aN w1.heap.size;have zw:(w1.alloc pK).heap.size=gc+1:=by rw[qT,Rt]
  rw[<-Rt];obtain⟨w2,eN⟩:=aN (w1.alloc pK);rw[<-eN] at jJ zw⊢;have Hd:fI (p.cx (K.add gc cr) eV SS R0 Fz Wf qs [cr]):=rR.ok I.st I.ss I.F H.low;refine BO.op nM Hd zFD rfl aU (by intro s hs;cases hs;show(9:Nat)∉([8]:List Nat);decide) (λT=>⟨_,_,.inl al17,?_⟩);simp only[cE,fS,dU,dW];obtain⟨gq,C0⟩:=aN ((Tt.tp w2 T 0).heap.size);have zJ7:gq=gc+1:=by rw[C0];exact zw
  have jX:=aD (show oS wB p.lo p.go p.ge p.n p.c p.A p.o p.es p.hb p.gh p.ln qn v ((Tt.tp w2 T 0).alloc (.cells #[.chan none] 95)) from(jJ.o.tp T 0).below (eK (gD _ _) _));have KB:=aD (show((Tt.tp w2 T 0).alloc (.cells #[.chan none] 95)).heap[gq]? =some (.cells #[.chan none] 95) by rw[C0];exact Cy _ _);have z3:((Tt.tp w2 T 0).alloc (.cells #[.chan none] 95)).heap.size=gc+2:=by simp_all
  have lI:p.lo<=gq:=by have:=jJ.o.e.lo_;omega
  have Gl:gq≠p.gh:=by
   intro e;have:=gM I.h.bh;omega
  have zdM:some gq∉parts v p.hb:=λhp=>by have:=(I.h.at_.lt gq hp).2;omega
  rw[<-C0];clear C0;obtain⟨w3,jD⟩:=aN ((Tt.tp w2 T 0).alloc (.cells #[.chan none] 95));rw[<-jD] at jX KB z3⊢;clear jD jJ zw eN;refine BO.op nM Hd zAL rfl aU aQ (λT2=>⟨aA,Tt.tp (w3.setCell ⟨gq,0,none⟩ (.chan (some gc))) T2 0,.inr ⟨st17 (V:=λs=>(#[u0,u1,.pointer (some ⟨p.go,0,none⟩),.pointer (some ⟨p.ge,0,none⟩),u4,u5,u6,.pointer (some ⟨p.gh,0,none⟩),.nilFunc,.pointer (some ⟨gq,0,none⟩),iB,gH,gK,gF,gI,gJ,u16,iM,lA,kY,jS,iQ,iO,iK,iR,iI,iT,iE,iH,iD,jK,jM,u32,iP,iN,iG,iC,kT,lB,iS,iJ,iF,iZ,iW,jE,jA,jG,iU,iY,jF,jC,iX,.int .i64 p.o.op,.int .i64 j,.bool true,.chan (some gc),kZ,kN,kL,kU,kP,j8,j6,kG,u64,kH,kC,kD,j7,lL,kQ,kW,kF]:Array aF).getD s aA) (λs=>rfl) rfl rfl (aI KB.o 0) (fC KB.o 0),rfl⟩,?_⟩);refine BO.regEnd Hd ?_;refine BO.tape ?_ T2 0;clear T2;have hK:K.le (K.add gc cr):=Pr.le_add _ _ _;have aS:∀b,b≠gq->(w3.setCell ⟨gq,0,none⟩ (.chan (some gc))).heap[b]? =w3.heap[b]? :=λb hb=>zcI w3 _ _ hb;have I3:C7 p wB (K.add gc cr) eV SS R0 Fz Wf Xa qs qn v (w3.setCell ⟨gq,0,none⟩ (.chan (some gc))):=⟨wZ I.K1 hK,I.R1,I.st,I.ss,I.F,I.th.mono hK,I.fz,I.xt,λa ha=>by
   rcases I.xa a ha with h|⟨h1,h2,h3,h4⟩
   .exact .inl h
   .exact .inr ⟨h1,by rw[Uk,z3];omega,h3,h4⟩,I.lq,λi g hg=>hK _ _ (I.kq i g hg),jX.o.but (Uk _ _ _) lI Gl zdM aS⟩
  refine rh_go H I3 zwF (j:=j) hl.symm (.inr ⟨rfl,rfl⟩) (oK KB.o _) lI Gl zdM (λzdb zd1 zbR zb6 zbL zjL v' w' u0 u1 u4 u5 u6 iB gH gK gF gI gJ u16 iM lA kY jS iQ iO iK iR iI iT iE iH iD jK jM u32 iP iN iG iC kT lB iS iJ iF iZ iW jE jA jG iU iY jF jC iX kZ kN kL kU kP j8 j6 kG u64 kH kD j7 lL kQ kW kF u9 lE lH kC I4=>?_);have zob:fI (p.cx (K.add gc cr) zdb zd1 zbR zb6 zbL (qs++[cr]) []):=rR.ok I4.st I4.ss I4.F H.low;have zu2:=aD I4;clear I4 I3 aS jX KB I U4;refine BO.inBlock zob ?_;refine BO.pV nM zob uO (λw5 T5 kS Q' dG=>?_);have zEx:=aD (show C7 p wB (K.add gc cr) zdb zd1 zbR zb6 zbL zjL (qs++[cr]) (qn++[gc]) v' w5 by rw[kS];exact zu2.o.tp T5 0);clear zu2
  try dsimp only
  clear kS;go_wp2;refine dG.o _ _ ?_;clear dG;refine BO.inLoop zob ?_;exact ih (j+1) (by have:=HJ.o;omega) _ _ _ _ _ _ _ _ _ _ _ _ _ _ _ _ _ _ _ _ _ _ _ _ _ _ _ _ _ _ _ _ _ _ _ _ _ _ _ _ _ _ _ _ _ _ _ _ _ _ _ _ _ _ _ _ _ _ _ _ _ _ _ _ _ _ _ _ _ _ _ _ _ _ _ _ _ _ zEx.o uB
structure StW (W W4:aE):Prop where
 size:W4.heap.size=W.heap.size+1
 keep:∀b,b<W.heap.size->W4.heap[b]? =W.heap[b]?
 wg:Go.ConcR.WgAt 94 W.heap.size W4 0 0
 os:W4.os=W.os
 tape:W4.tape=W.tape
 output:W4.output=W.output
variable {Post:aF->aE->Prop}{Shun:Loc->Prop}
theorem zz5 {CS:List dV}
 (h:∀W4,StW W W4->J aK Post Shun W.heap.size (G ((Jj 42).at ⟨t.setIfInBounds 8 (.pointer (some ⟨W.heap.size,0,none⟩)),[]⟩ [.code Ie]) CS) W4):
 J aK Post Shun W.heap.size (G ((Jj 42).at ⟨t,[]⟩ [.code (.seq N9 Ie)]) CS) W:=by
 have start:∀d,J aK Post Shun W.heap.size (G ((Jj 42).at ⟨t,[]⟩ [.code (.seq N9 Ie)]) CS) (W.at d):=by
  refine J.sil rfl (λw=>stepG_seq) ?_;generalize lR:Ie=K0 at h⊢;simp only[N9,oZ,zfH,Option.getD_some];refine J.sil rfl (λw=>stepG_region) ?_;refine J.opq (o:=_) (v:=.pointer (some ⟨W.heap.size,0,none⟩)) (w':=W.alloc (.cells #[.int .u64 0,.int .u32 0] 94)) rfl rfl aH (λd=>?_) (λd e he=>?_) ?_
  .show _=Result.ok _ ((W.at d).alloc _)
   have hz:(W.at d).heap.size=W.heap.size:=rfl;rw[<-hz];simp[aO,go_sem,xB]
  .simp[aO,go_sem,xB] at he
  refine J.sil rfl (λw=>stepG_region_end) ?_;intro d;have aX:StW W ((W.alloc (.cells #[.int .u64 0,.int .u32 0] 94)).at d):=by
   refine⟨?_,λb hb=>?_,?_,rfl,rfl,rfl⟩
   .show(W.alloc _).heap.size=_
    rw[qT]
   .show(W.alloc _).heap[b]? =_
    rw[Bp hb]
   .show(W.alloc _).heap[_]? =_
    rw[Cy];rfl
  exact h _ aX
 exact start W.drawn
variable {W0:aE}
theorem rh_phase {base:List dV}{lo0 lo go ge n hb gh:Nat}(hR:oS wB lo go ge n c A o es hb gh ln [] v w)(hgo:lo0<=go)(Cc:lo0<=ge)(eL:lo0<=lo)(bV:eG o es=true)(Af:(ln.length:Int)=o.ln)(rY:x5 w)(zcC:∀a,xT a=true->a<lo0)
 (zjb:∀(R1:Pr) (Wg:Nat),R0.le R1->rR.After ⟨Post,Shun,W0,St,base,K,R1,w,lo0,lo,go,ge,n,c,A,o,es,hb,gh,ln,Wg⟩) {u0 u1 u4 u5 u6 u8 u9 nA nC lE lH:aF}:
 BO (rhC Post Shun W0 St R0 base K) () ⟨42,#[u0,u1,.pointer (some ⟨go,0,none⟩),.pointer (some ⟨ge,0,none⟩),u4,u5,u6,.pointer (some ⟨gh,0,none⟩),u8,u9,iB,gH,gK,gF,gI,gJ,u16,iM,lA,kY,jS,iQ,iO,iK,iR,iI,iT,iE,iH,iD,jK,jM,u32,iP,iN,iG,iC,kT,lB,iS,iJ,iF,iZ,iW,jE,jA,jG,iU,iY,jF,jC,iX,nA,nC,lE,lH,kZ,kN,kL,kU,kP,j8,j6,kG,u64,kH,kC,kD,j7,lL,kQ,kW,kF],[.code (.seq N9 Ie)],false⟩ w:=by
 intro R W m1 τ hw hm zKA hi;obtain⟨fn',t,zU,Ac⟩:=m1;obtain rfl:=hm.fn;obtain rfl:=hm.todo;obtain rfl:=hm.ret;have hw:dB (SF fX) K R (pU aK) St w W:=hw;have hi:IA W0 St Shun R0 R τ W:=hi;have ha:bQ (SF fX) K R #[u0,u1,.pointer (some ⟨go,0,none⟩),.pointer (some ⟨ge,0,none⟩),u4,u5,u6,.pointer (some ⟨gh,0,none⟩),u8,u9,iB,gH,gK,gF,gI,gJ,u16,iM,lA,kY,jS,iQ,iO,iK,iR,iI,iT,iE,iH,iD,jK,jM,u32,iP,iN,iG,iC,kT,lB,iS,iJ,iF,iZ,iW,jE,jA,jG,iU,iY,jF,jC,iX,nA,nC,lE,lH,kZ,kN,kL,kU,kP,j8,j6,kG,u64,kH,kC,kD,j7,lL,kQ,kW,kF] t:=hm.tmps;have cP:t.size=73:=ha.1.symm;rw[mY,Cx.B_some rfl];intro _ Fu;refine zz5 λW4 aX=>?_;have sM:qQ o=true:=by
  have:=bV;unfold eG at this;simp only[jB] at this;exact this.1.1
 unfold qQ at sM;have sM:=of_decide_eq_true sM
 let p:rR:=⟨Post,Shun,W0,St,base,K,R,w,lo0,lo,go,ge,n,c,A,o,es,hb,gh,ln,W.heap.size⟩
 have aT:∀a b,R a b->b<W.heap.size:=λa b x=>(hw.lt a b (.inl x)).2;have hrel:dB (SF fX) K R (pU aK) St w W4:=dB.real hw (λa b x=>aX.keep b (aT a b x)) (by rw[aX.size];omega);have zxp:∀a,xT a=true->∃c T fz,w.heap[a]? =some (.cells c T fz):=λa h=>let⟨c,T,fz,hc,_⟩:=rY a h;⟨c,T,fz,hc⟩
 have zsw:XOk R xT w:=⟨λa h=>⟨a,hw.tb a h⟩,zxp⟩;have gE:=zrD hrel zsw;have hk:=hi.kp;have nF:=hi.sh;have zzh:=hk.size;have zn1:Kp W0 R St W4:=⟨aX.os.trans hk.os,aX.tape.trans hk.tape,aX.output.trans hk.output,by rw[aX.size];omega,λb hb=>(aX.keep b aC).trans (hk.block b hb),hk.old⟩;have zaF:∀a b,R a b->b≠W.heap.size:=λa b x=>by grind
 have zGn:Sh W0.heap.size (Bx Shun W.heap.size) R W4:=by
  refine⟨λl b hl hb hx=>?_,λa b x l hl hx=>?_,λl b hl hb hx=>?_⟩
  .rcases hx with hx|hx
   .exact nF.old l b hl hb hx
   .have:=K8 hl hx;omega
  .rcases hx with hx|hx
   .exact nF.rel a b x l hl hx
   .exact zaF a b x (K8 hl hx)
  .rcases hx with hx|hx
   .exact nF.new l b hl (by rw[aX.size] at hb;omega) hx
   .have:=K8 hl hx;have:=aX.size;omega
 have Gl:∃b,R gh b:=by
  have h1:VR (SF fX) K R (.pointer (some ⟨gh,0,none⟩)) (t.getD 7 aA):=ha.getD 7 (yU (S:=SF fX) (K:=K) (R:=R));generalize t.getD 7 aA=t7 at h1
  cases h1 with
  |pointer y=>cases y with|some y=>cases y with|mk y=>exact⟨_,y⟩
 let SC:Nat->Prop:=λa=>St a\/xT a=true
 let τ0:cI:=tauP R SC W0 []
 have zB2:∀a b,R a b->SC a->¬τ0.own b:=λa b x h hb=>by
  rcases hb with⟨a',x',hn⟩|hb
  .obtain rfl:=hw.inj' a a' b (.inl x) (.inl x')
   exact hn h
  .cases hb
 have zlq:IQ W0 St (Bx Shun W.heap.size) W.heap.size τ0.still R (Hy R St xT) W4 [] [] R τ0 W4:=by
  refine⟨⟨⟨⟨zn1,zGn,rfl,by rw[aX.size];omega,λb hb=>?_,zaF⟩,.refl R,λb hb=>?_⟩,λb hb hs=>?_,λb hb=>?_,λc hc=>by cases hc⟩,λc hc=>by cases hc⟩
  .rcases hb with⟨a,x,_⟩|hb
   .exact zaF a b x
   .cases hb
  .obtain⟨a,x,h⟩:=hb
   exact⟨(hrel.lt a b (.inl x)).2,rfl,zB2 a b x h,zaF a b x⟩
  .rcases hs with hs|⟨a,x,h⟩
   .rcases hb with⟨a',x',hn⟩|hb
    .exact hn (.inl (hk.old a' b x' hs))
    .cases hb
   grind
  .rcases hb with hb|⟨a,x,_⟩
   .rw[aX.size];omega
   .exact(hrel.lt a b (.inl x)).2
 have H:PhOk p (uS xT w):=⟨zjb R W.heap.size hi.le,Gl,bV,zzh,eL,λg hg=>by
  obtain⟨c,T,fz,h1,h2⟩:=rY g hg;exact⟨c,T,_,Ux hg h1,h2⟩,zcC,λb hb hx=>Oi hx,Af⟩
 have I:C7 p (uS xT w) K SC τ0.still R (Hy R St xT) W4 (λa=>xT a=true) [] [] v (uS xT w):=⟨yG K,.refl R,λa h=>.inl h,λb hb=>.inl hb,λb hb=>by
  obtain⟨a,x,h⟩:=hb;exact .inr ⟨a,x,h⟩,K4.first hrel zsw,λb hb=>hb,λa h=>.inr h,λa h=>.inl h,rfl,λi g hg=>by simp at hg,hR.frT hgo Cc eL zcC zxp⟩
 refine J.phase (zAd p.N (Cv p.o p.es) p.D (zB1 bV) (by show o.op.toNat<=_;omega)) (ty:=sS.tWg) (Wg:=W.heap.size) (l:=.mN []) (τ:=τ0) ?hb aX.wg ⟨bM _,by rw[aX.size];omega⟩ ?bnd rfl (.a 0 [] (λ_=>1) (.mN []) ⟨rfl,λj j' h=>by omega⟩ (lU _) (.inl rfl) rfl ⟨λj h=>by omega,λj j' h=>by omega,λj h=>by omega⟩ (λj h=>by omega) (λi hi _=>by simp[hi]))
 case bnd=>
  have hr:∀a b,R a b->b<W4.heap.size/\b≠W.heap.size/\∀l,nO l b->¬Shun l:=λa b x=>⟨(hrel.lt a b (.inl x)).2,zaF a b x,nF.rel a b x⟩;rintro b ((⟨a,x,_⟩|hb)|(hb|⟨a,x,_⟩)|hb)
  .exact hr a b x
  .cases hb
  .exact⟨by rw[aX.size];omega,aC,λl hl=>nF.old l b hl hb⟩
  .exact hr a b x
  .exact hb.elim
 case hb=>
  have hI:fI (p.cx K SC τ0.still R (Hy R St xT) W4 [] []):=rR.ok I.st I.ss I.F H.low;have hB:BO (p.cx K SC τ0.still R (Hy R St xT) W4 [] []) (.mN []) ⟨42,#[u0,u1,.pointer (some ⟨go,0,none⟩),.pointer (some ⟨ge,0,none⟩),u4,u5,u6,.pointer (some ⟨gh,0,none⟩),.nilFunc,u9,iB,gH,gK,gF,gI,gJ,u16,iM,lA,kY,jS,iQ,iO,iK,iR,iI,iT,iE,iH,iD,jK,jM,u32,iP,iN,iG,iC,kT,lB,iS,iJ,iF,iZ,iW,jE,jA,jG,iU,iY,jF,jC,iX,nA,nC,lE,lH,kZ,kN,kL,kU,kP,j8,j6,kG,u64,kH,kC,kD,j7,lL,kQ,kW,kF],[.code Ie],false⟩ (uS xT w):=by
   rw[show Ie=.seq (.seq zom (.block 4 (.loop zda))) zis from rfl];refine BO.seq hI ?_;refine BO.seq hI ?_;refine BO.pV nM hI uO (λw1 T1 dY Q' dG=>?_);have U4:=aD (show C7 p (uS xT w) K SC τ0.still R (Hy R St xT) W4 (λa=>xT a=true) [] [] v w1 by rw[dY];exact I.tp T1 0);have g1:w1.cell? ⟨go,1,none⟩=some (.int .i64 o.op):=aI U4.o.h.e.bo 1
   try dsimp only
   clear dY;go_wp2;refine dG.o _ _ ?_;clear dG;refine BO.block hI ?_;refine BO.loop hI ?_;exact rh_ops H o.op.toNat 0 (by show _=o.op;omega) K SC τ0.still R (Hy R St xT) W4 (λa=>xT a=true) [] [] v w1 _ _ _ _ _ _ _ _ _ _ _ _ _ _ _ _ _ _ _ _ _ _ _ _ _ _ _ _ _ _ _ _ _ _ _ _ _ _ _ _ _ _ _ _ _ _ _ _ _ _ _ _ _ _ _ _ _ _ _ _ _ _ _ _ _ _ _ U4.o rfl
  have h1:=ha.set 8 (.junk (v':=.pointer (some ⟨W.heap.size,0,none⟩)) Wx);simp only[fS,dU,dW] at h1;have hm:=hB R W4 ⟨42,t.setIfInBounds 8 (.pointer (some ⟨W.heap.size,0,none⟩)),[.code Ie],false⟩ τ0 gE ⟨rfl,rfl,rfl,h1,λx hx=>?_⟩ terra_p ⟨zlq,⟨0,0,aX.wg⟩⟩
  .rw[Cx.B_none rfl,mY] at hm
   exact hm
  .obtain rfl:=yM.1 hx
   show(t.setIfInBounds 8 _).getD 8 aA=_;simp[x4,cP];rfl
abbrev JS (St:Nat->Prop)(W0:aE)(Post:aF->aE->Prop)(m:Fm)(ms:List Fm)(w:aE):Prop:=JL aK (nQ olL) (nQ alL) fX St W0 Post m ms w
theorem rel_heap {G:Gp}(h:dB S K R G St w W)(e:w'.heap=w.heap):dB S K R G St w' W:=by
 refine⟨h.inj,h.inj',λa b x=>by rw[e];exact h.lt a b x,h.low,by rw[e];exact h.gle,λa b x=>?_,λa b x hn=>?_,λa x=>?_,λa c y hp=>?_,h.tb⟩
 .rw[e];exact h.cont a b x
 .rw[e];exact h.rest a b x hn
 .rw[e];exact h.st a x
 .rw[e] at hp;exact h.np a c y hp
def JS.heap {m:Fm}{ms:List Fm}(h:JS St W0 Post m ms w)(e:w'.heap=w.heap):JS St W0 Post m ms w':=
 λK R W m' ms' Shun a b c d k=>h K R W m' ms' Shun (rel_heap a e.symm) b c d k
theorem rh_tmps (a b:aF):(#[a,b]:Array aF)++oL (73-(#[a,b]:Array aF).size) aA=#[a,b,aA,aA,aA,aA,aA,aA,aA,aA,aA,aA,aA,aA,aA,aA,aA,aA,aA,aA,aA,aA,aA,aA,aA,aA,aA,aA,aA,aA,aA,aA,aA,aA,aA,aA,aA,aA,aA,aA,aA,aA,aA,aA,aA,aA,aA,aA,aA,aA,aA,aA,aA,aA,aA,aA,aA,aA,aA,aA,aA,aA,aA,aA,aA,aA,aA,aA,aA,aA,aA,aA,aA]:=by simp_all
structure Hall (w wn:aE)(o:fG)(es:List dS)(hb:Nat):Prop where
 below:cH w.heap.size w wn
 ex:∃lo v ln qn,w.heap.size<=lo/\lo<=wn.heap.size/\bF wn lo hb v (tG o es ln qn qn.length)/\(ln.length:Int)=o.ln/\(qn.length:Int)=o.op
section
variable {Post:aF->aE->Prop}{W0:aE}{St:Nat->Prop}
theorem zmH {m:Fm}{ms:List Fm}{w:aE}{ops:Array aZ}{i:Nat}{rest:List Nat}{k:List dZ}{oo:aZ}{args:Array cN}{jW:Array aM}{A:Option bC}{n c:Nat}{o:fG}{es:List dS}
 (hr:m.ret=false) (pZ:m.todo=.inRegion ops (i::rest)::k) (ho:ops[i]? =some oo) (cG:dI oo (dL ops m.tmps)=true) (hop:oo.op=.call ⟨.value (.func 42),args,jW⟩) (xF:args.all (eD fX)=true)
 (hv:args.map m.eval=#[.agg #[.int .i64 o.ln,.int .i64 o.op,.int .i64 o.pt],.slice A n c]) (Bw:cJ w 0 w.heap.size 3 A n c (qX es)) (hn:n<=1048576) (hT:qF w) (rY:x5 w)
 (zFv:eG o es=false->∀wn,cH w.heap.size w wn->JS St W0 Post (m.fin ops i rest k (.pointer none)) ms wn)
 (zzp:eG o es=true->∀wn hb,Hall w wn o es hb->JS St W0 Post (m.fin ops i rest k (.pointer (some ⟨hb,0,none⟩))) ms wn):JS St W0 Post m ms w:=by
 refine JO.callF lvF hr pZ ho cG hop rfl xF λK R W m' ms' Shun cC hw hm kJ nF hk Hu=>?_;rw[hv] at Hu;have oF:Hf (zfH).results.toList:=.inr (.inl ⟨_,rfl⟩);have F5:(zfH).ntmps=73:=rfl;have zxw:=Hu.pad 73;rw[rh_tmps] at zxw;rw[zbo (c:=oZ) zhS rfl,F5];have zcC:∀a,xT a=true->a<w.heap.size:=λa h=>(hw.lt a a (.inl (hw.tb a h))).1;refine BO.aloneIn (p:=aK) (gs:=Cw) (fs:=fX) (St:=St) (K:=K) (R:=R) (m:=⟨42,#[.agg #[.int .i64 o.ln,.int .i64 o.op,.int .i64 o.pt],.slice A n c,aA,aA,aA,aA,aA,aA,aA,aA,aA,aA,aA,aA,aA,aA,aA,aA,aA,aA,aA,aA,aA,aA,aA,aA,aA,aA,aA,aA,aA,aA,aA,aA,aA,aA,aA,aA,aA,aA,aA,aA,aA,aA,aA,aA,aA,aA,aA,aA,aA,aA,aA,aA,aA,aA,aA,aA,aA,aA,aA,aA,aA,aA,aA,aA,aA,aA,aA,aA,aA,aA,aA],[.code oZ],false⟩) ?_ hw ⟨rfl,rfl,rfl,zxw,λx hx=>by cases hx⟩ nF hk;refine rh_start Bw hn hT (λT todo w' h4 hO bV=>?_) (λwB lo go ge K' w' v ln hb gh u0 u1 u4 u5 u6 u8 u9 iB gH gK gF gI gJ u16 iM lA kY jS iQ iO iK iR iI iT iE iH iD jK jM u32 iP iN iG iC kT lB iS iJ iF iZ iW jE jA jG iU iY jF jC iX nA nC lE lH kZ kN kL kU kP j8 j6 kG u64 kH kC kD j7 lL kQ kW kF hK bV eL hgo Cc O4 hR Af=>?_)
 .refine BO.aloneOut hm kJ rfl hr pZ (v:=.pointer none) zhS oF (by rw[<-h4];rfl) ?_
  have zFV:cH w.heap.size w {w' with os:=w.os,tape:=w.tape,output:=w.output}:=⟨rfl,rfl,rfl,hO.1,hO.2⟩;exact JS.heap (zFv bV _ zFV) rfl
 .refine rh_phase (lo0:=w.heap.size) hR hgo Cc eL bV Af (λg hg=>?_) zcC (λR1 Wg zvW K2 R2 w2 v2 qn u0 u1 u2 u3 u4 u5 u6 u8 u9 iB gH gK gF gI gJ u16 iM lA kY jS iQ iO iK iR iI iT iE iH iD jK jM u32 iP iN iG iC kT lB iS iJ iF iZ iW jE jA jG iU iY jF jC iX nA nC lE lH kZ kN kL kU kP j8 j6 kG u64 kH kC kD j7 lL kQ kW kF zgV Li hE=>?_)
  .have qU:=zcC g hg
   rw[hR.e.old g aC,O4 g qU];exact rY g hg
  .have zgV:K'.le K2:=zgV
   have Li:R1.le R2:=Li;obtain⟨hA,hold,hz,Pd,Rn⟩:=hE;have hA:bF w2 lo hb v2 (tG o es ln qn qn.length):=hA;have hold:∀b,b<w.heap.size->w2.heap[b]? =w'.heap[b]? :=hold;have hz:lo<=w2.heap.size:=hz;have Pd:w2.heap[gh]? =some (.cells #[.pointer (some ⟨hb,0,none⟩)] 63):=Pd;have zph:∀b,b<w.heap.size->w2.heap[b]? =w.heap[b]? :=λb bY=>by
    rw[hold b bY,hR.e.old b aC,O4 b bY]
   have HA:=aD hA;have HO:=aD zph;have HB:=aD Pd;clear hA hold zph Pd;show BO (Ft aK Cw fX Post (Bx Shun Wg) W0 St K2 R2 (m'.fr::ms'.map Fm.fr)) () _ _;refine BO.regEnd dJ ?_;refine BO.seq dJ ?_;refine BO.pV nM dJ uO (λw3 T1 jD Q' dG=>?_);have g1:(Tt.tp w2 T1 0).cell? ⟨gh,0,none⟩=some (.pointer (some ⟨hb,0,none⟩)):=aI HB.o 0;have e3:w3.heap=w2.heap:=by rw[jD];rfl
   have vG:=aD e3
   try dsimp only
   rw[<-jD] at g1;clear jD e3;go_wp2;refine dG.o _ _ ?_;clear dG;refine BO.ret dJ ?_;refine BO.aloneOut (qE.monoK (wZ hK zgV) (hm.mono (zvW.trans Li))) (uQ.monoK (wZ hK zgV) (kJ.mono (zvW.trans Li))) rfl hr pZ (v:=.pointer (some ⟨hb,0,none⟩)) zhS oF rfl ?_;have hH:Hall w {w2 with os:=w.os,tape:=w.tape,output:=w.output} o es hb:=⟨⟨rfl,rfl,rfl,by grind,HO.o⟩,lo,v2,ln,qn,eL,hz,HA.o.same rfl,Af,Rn⟩;exact JS.heap (zzp bV _ _ hH) vG.o
end
end Go.Proofs.YtfcjiloojkjaeaaGreatDoor
namespace Go.Proofs.YtfcjiloojkjaeaaGreatDoor
open Go.RowKit Go.Mt Go.Conc Go.Tt
structure Bl (B:Nat)(w w':aE):Prop where
 size:w.heap.size<=w'.heap.size
 block:∀b,b<B->w'.heap[b]? =w.heap[b]?
def Bl.refl (B:Nat)(w:aE):Bl B w w:=⟨bM _,λ_ _=>rfl⟩
variable {B:Nat}
def Bl.tp {a b:aE}(h:Bl B a b)(T:kI)(e:Nat):Bl B a (Tt.tp b T e):=⟨h.size,h.block⟩
theorem Bl.al {a b:aE}(h:Bl B a b)(hB:B<=a.heap.size)(o:Obj):Bl B a (b.alloc o):=⟨by rw[qT];have:=h.size;omega,λx hx=>(Bp zjT).trans (h.block x hx)⟩
variable {w w':aE}{A:Option bC}{xs:List aF}
def cJ.bl {s n c:Nat}(h:cJ w 0 w.heap.size s A n c xs)(k:Bl w.heap.size w w'):cJ w' 0 w'.heap.size s A n c xs:=
 (h.keep k.size λb _ _ h3=>k.block b h3).wide (bM _) k.size
section
variable {p:Program}{op gs gs₁ fs:aP->Bool}{St:Nat->Prop}{W0:aE}{Post:aF->aE->Prop}
variable {c:wY}{k:List dZ}{ms:List Fm}
theorem JO.sq (L:Lv p op gs gs₁ fs){fn:aP}{tmps:Array aF}{w:aE}(hf:op fn=false)(h:JL p op gs fs St W0 Post ⟨fn,tmps,.code (sA c):: .code (sB c)::k,false⟩ ms w)(e:c=.seq (sA c) (sB c):=by exact rfl):JL p op gs fs St W0 Post ⟨fn,tmps,.code c::k,false⟩ ms w:=by
 rw[e];exact JO.seq L hf h
theorem JO.cd (L:Lv p op gs gs₁ fs){fn:aP}{tmps:Array aF}{w:aE}(t:Bool)(hf:op fn=false)(h:JL p op gs fs St W0 Post ⟨fn,tmps,.code (if t then cA c else cB c)::k,false⟩ ms w)(hc:(bL tmps []).eval (cX c)=.bool t:=by exact rfl)(e:c=.cond (cX c) (cA c) (cB c):=by exact rfl):JL p op gs fs St W0 Post ⟨fn,tmps,.code c::k,false⟩ ms w:=by
 rw[e];exact JO.cond L hf hc h
theorem JO.sk (L:Lv p op gs gs₁ fs){fn:aP}{tmps:Array aF}{w:aE}(hf:op fn=false)(h:JL p op gs fs St W0 Post ⟨fn,tmps,k,false⟩ ms w)(e:c=.skip:=by exact rfl):JL p op gs fs St W0 Post ⟨fn,tmps,.code c::k,false⟩ ms w:=by
 rw[e];exact JO.skip L hf h
theorem JO.rt (L:Lv p op gs gs₁ fs){fn:aP}{tmps:Array aF}{w:aE}(hf:op fn=false)(h:JL p op gs fs St W0 Post ⟨fn,tmps,.code .ret::k,true⟩ ms w)(e:c=.ret:=by exact rfl):JL p op gs fs St W0 Post ⟨fn,tmps,.code c::k,false⟩ ms w:=by
 rw[e];exact JO.ret L hf h
theorem JO.rn (L:Lv p op gs gs₁ fs){fn:aP}{tmps:Array aF}{w:aE}(hf:op fn=false)(ops:Array aZ)(is:List Nat)(h:JL p op gs fs St W0 Post ⟨fn,tmps,.inRegion ops is::k,false⟩ ms w)(e:c=.region (bI c) ops false:=by exact rfl)(hr:iL ops.size=is:=by exact rfl):JL p op gs fs St W0 Post ⟨fn,tmps,.code c::k,false⟩ ms w:=by
 subst hr;rw[e];exact JO.reg L hf h
theorem JO.pQ (L:Lv p op gs gs₁ fs){fn:aP}{tmps:Array aF}{c':wY}{b:List Fm}{w:aE}(Jd:op fn=false)
 (vA:∀(T:kI) (Q:Exit->Go.Act->aE->Prop),rJ (∀a' w',JL p op gs fs St W0 Post ⟨fn,a'.tmps,k,false⟩ b w'->Q .normal a' w')->Code.wp p c' Q ⟨tmps,[]⟩ (Tt.tp w T 0)) (e:c=c':=by conv=>lhs;whnf) (hc:qD p ⟨fs,gs₁,true⟩ c=true:=by kernel_rfl):
 JL p op gs fs St W0 Post ⟨fn,tmps,.code c::k,false⟩ b w:=by
 subst e;exact JO.piece L hc Jd λT=>vA T _ (aD λa' w' h=>⟨rfl,h⟩)
theorem JO.mv (L:Lv p op gs gs₁ fs){fn:aP}{tmps T':Array aF}{ops:Array aZ}{i:Nat}{rest:List Nat}{w:aE}{o:aZ}(hf:op fn=false)(v:aF)(h:JL p op gs fs St W0 Post ⟨fn,T',.inRegion ops rest::k,false⟩ ms w)(ho:ops[i]? =some o:=by exact zcl rfl (by conv=>lhs;whnf))
 (hx:∀T e,(aO (bL tmps []).eval o).run p (Tt.tp w T e)=.ok (.value v) (Tt.tp w T e):=by exact λ_ _=>rfl) (cG:dI o (dL ops tmps)=true:=by exact rfl)
 (ht:(cE ⟨tmps,[]⟩ o.dst v).tmps=T':=by first|(simp only[Go.Act.put,List.setIfInBounds_toArray,List.set_cons_zero,List.set_cons_succ];done)|(simp only[Go.Act.put,List.setIfInBounds_toArray,List.set_cons_zero,List.set_cons_succ];rfl)):JL p op gs fs St W0 Post ⟨fn,tmps,.inRegion ops (i::rest)::k,false⟩ ms w:=
 JO.opv L hf ho cG hx (ht▸h)
end
def cJ.tp {lo hi s n c:Nat}(h:cJ w lo hi s A n c xs)(T:kI)(e:Nat):cJ (Tt.tp w T e) lo hi s A n c xs:=⟨h.len,h.le,h.cap,h.at_⟩
def Fx (o:fG)(es:List dS):List (List UInt8):=(uD o es).log
def Ae (o:fG)(es:List dS):List Int:=if eG o es then H6 (Ee o es) o.op.toNat else[]
def Eo (o:fG)(es:List dS):List bO:=(uD o es).recs
def bodyRO:Go.Code:=(zgD.body).getD .skip
def rRO1:Go.Code:=match bodyRO with| .seq _ (.seq (a) _)=>a|_=>.skip
def za2:Array Oper:=match rRO1 with| .region _ ops _=>ops|_=>#[]
abbrev oRO1_0:Oper:=aV za2 0 (some 7) (.load 29 (.tmp 2))
def opsRO1_0:za2[0]? =some oRO1_0:=rfl
abbrev oRO1_2:Oper:=aV za2 2 (some 9) (.call ⟨.value (.func 42),#[.tmp 7,.tmp 8],#[29,31]⟩)
def ziB:za2[2]? =some oRO1_2:=rfl
section
variable {St:Nat->Prop}{W0:aE}{Post:aF->aE->Prop}
theorem zCx {m:Fm}{ms:List Fm}{w:aE}{ops:Array aZ}{i:Nat}{rest:List Nat}{k:List dZ}{oo:aZ}{args:Array cN}{jW:Array aM}{A:Option bC}{n c:Nat}{o:fG}{es:List dS}
 (hr:m.ret=false) (Qf:nQ olL m.fn=false) (pZ:m.todo=.inRegion ops (i::rest)::k) (ho:ops[i]? =some oo) (cG:dI oo (dL ops m.tmps)=true) (hop:oo.op=.call ⟨.value (.func 14),args,jW⟩)
 (hv:args.map m.eval=#[.agg #[.int .i64 o.ln,.int .i64 o.op,.int .i64 o.pt],.slice A n c]) (Bw:cJ w 0 w.heap.size 3 A n c (qX es)) (hn:n<=1048576) (hT:qF w) (rY:x5 w)
 (hJ:∀wn V,Bl w.heap.size w wn->wn.ownsRow w.heap.size 9 1 V (Fx o es).length (wF (Fx o es))->JS St W0 Post (m.fin ops i rest k (.tuple #[V,.bool (eG o es)])) ms wn):JS St W0 Post m ms w:=by
 have L:=lvF;have bS:nQ olL 14=false:=aU;have zcA:=JO.callN (St:=St) (W0:=W0) (Post:=Post) (ms:=ms) (w:=w) (fn:=zgD) (c:=bodyRO) L hr pZ ho cG hop bS;refine zcA zyP aH rfl ?_;rw[hv];have Er:(#[.agg #[.int .i64 o.ln,.int .i64 o.op,.int .i64 o.pt],.slice A n c]:Array aF)++oL ((zgD).ntmps-(#[.agg #[.int .i64 o.ln,.int .i64 o.op,.int .i64 o.pt],.slice A n c]:Array aF).size) aA=#[.agg #[.int .i64 o.ln,.int .i64 o.op,.int .i64 o.pt],.slice A n c,aA,aA,aA,aA,aA,aA,aA,aA,aA,aA,aA,aA,aA,aA]:=by
  have e:(zgD).ntmps=16:=rfl;rw[e];apply La;simp only[Qd,zgo,Bz,uV,zP];rfl
 rw[Er];have pY:w.heap.size<=w.heap.size:=bM _;have Rf:∀(tmps:Array aF) (td:List dZ) (w':aE) (V:aF),tmps.getD 4 aA=V->tmps.getD 5 aA=.bool (eG o es)->Bl w.heap.size w w'->w'.ownsRow w.heap.size 9 1 V (Fx o es).length (wF (Fx o es))->JS St W0 Post ⟨14,tmps,td,true⟩ (m::ms) w':=by
  intro tmps td w' V e4 e5 hb cY;refine JO.back L rfl pZ zyP (v:=.tuple #[V,.bool (eG o es)]) ?_ Qf (hJ w' V hb cY);show(oO [.tmp 4,.tmp 5] tmps).run _ _=_;simp only[oO,xP,e4,e5];rfl
 refine JO.sq L bS ?_;refine JO.pQ L bS (λTp Q HQ=>?_);obtain⟨w1,dY⟩:=aN (Tt.tp w Tp 0);have B0:=aD (show Bl w.heap.size w w1 by rw[dY];exact(Bl.refl _ w).tp Tp 0);have dF:w1.heap.size=w.heap.size:=by rw[dY];rfl
 have eh:w1.heap=w.heap:=by rw[dY];rfl
 have EH:=aD eh;rw[<-dY];clear dY eh;go_wp2;refine HQ.o _ _ ?_;clear HQ;obtain⟨w2,eN⟩:=aN (w1.alloc (.cells #[.int .i64 o.ln,.int .i64 o.op,.int .i64 o.pt] 29));have k2:∀b,b<w.heap.size->w2.heap[b]? =w.heap[b]? :=λb hb=>by rw[eN,Bp aC,EH.o]
 have z2:w2.heap.size=w.heap.size+1:=by rw[eN,qT,dF]
 have g2:w2.heap[w1.heap.size]? =some (.cells #[.int .i64 o.ln,.int .i64 o.op,.int .i64 o.pt] 29):=by rw[eN];exact Cy _ _
 have zcz:cH w.heap.size w {w2 with os:=w.os,tape:=w.tape,output:=w.output}:=⟨rfl,rfl,rfl,by show w.heap.size<=w2.heap.size;omega,k2⟩;have zc0:qF w2:=Nx (w:={w2 with os:=w.os,tape:=w.tape,output:=w.output}) rfl (zaO hT _ zcz);have zdd:x5 w2:=λg hg=>by
  obtain⟨c,T,fz,h1,h2⟩:=rY g hg;exact⟨c,T,fz,(k2 g (eM.1 h1).1).trans h1,h2⟩
 have yZ:cJ w2 0 w2.heap.size 3 A n c (qX es):=(Bw.keep aC λb _ q _=>k2 b q).wide (bM _) aC;rw[<-eN];clear eN;rw[dF] at g2;refine JO.sq L bS ?_;refine JO.rn L bS za2 [0,1,2,3] ?_;refine JO.opv L (v:=.agg #[.int .i64 o.ln,.int .i64 o.op,.int .i64 o.pt]) bS opsRO1_0 rfl (λT e=>?_) ?_
 .have c0:(Tt.tp w2 T e).cell? ⟨w.heap.size,0,none⟩=some (.int .i64 o.ln):=aI g2 0
  have c1:(Tt.tp w2 T e).cell? ⟨w.heap.size,1,none⟩=some (.int .i64 o.op):=aI g2 1;have c2:(Tt.tp w2 T e).cell? ⟨w.heap.size,2,none⟩=some (.int .i64 o.pt):=aI g2 2;unfold aO;go_simp
  try rfl
 simp only[cE,fS,dU,dW];refine JO.mv L bS (.slice A n c) ?_;refine zmH (o:=o) (es:=es) rfl rfl ziB rfl rfl aU Xm yZ hn zc0 zdd (λbV wn hb=>?_) (λbV wn hb hH=>?_)
 .simp only[Fm.fin,ziB,vN,fS,dU,dW]
  have bY:Bl w.heap.size w wn:=⟨by have:=hb.size;omega,λb bY=>(hb.block b aC).trans (k2 b bY)⟩;refine JO.mv L bS (.pointer none) ?_;refine JO.regEnd L bS ?_;refine JO.sq L bS ?_;refine JO.sq L bS ?_;refine JO.pQ L bS (λTp Q HQ=>?_);go_wp2;refine HQ.o _ _ ?_;clear HQ;refine JO.cd L true bS ?_;refine JO.sq L bS ?_;refine JO.pQ L bS (λzR Q HQ=>?_);go_wp2;refine HQ.o _ _ ?_;clear HQ;refine JO.rt L bS ?_;exact Rf _ _ _ _ rfl zhP ((bY.tp Tp 0).tp zR 0) (by simp[Fx,uD,bV,lV];exact⟨rfl,.inl ⟨rfl,rfl⟩⟩)
 .simp only[Fm.fin,ziB,vN,fS,dU,dW]
  obtain⟨kK,lo,v,ln,qn,h1,h2,hA,h3,h4⟩:=hH;have bY:Bl w.heap.size w wn:=⟨by have:=kK.size;omega,λb bY=>(kK.block b aC).trans (k2 b bY)⟩;have HA:=aD hA;have zbV:=aD bY;clear hA bY kK;refine JO.mv L bS (.pointer (some ⟨hb,0,none⟩)) ?_;refine JO.regEnd L bS ?_;refine JO.sq L bS ?_;refine JO.sq L bS ?_;refine JO.pQ L bS (λTp Q HQ=>?_);go_wp2;refine HQ.o _ _ ?_;clear HQ;refine JO.cd L false bS ?_;refine JO.sk L bS ?_;refine JO.sq L bS ?_;refine JO.pQ L bS (λzR Q HQ=>?_);obtain⟨w5,kS⟩:=aN (Tt.tp (Tt.tp wn Tp 0) zR 0);have c5:w5.cell? ⟨hb,12,none⟩=some (v.sA):=by rw[kS];exact aI HA.o.blk 12
  have A5:=aD (show bF w5 lo hb v (tG o es ln qn qn.length) by rw[kS];exact HA.o.same rfl);have B5:=aD (show Bl w.heap.size w w5 by rw[kS];exact(zbV.o.tp Tp 0).tp zR 0);rw[<-kS];clear kS;go_wp2;refine HQ.o _ _ ?_;clear HQ;refine JO.rt L bS ?_;exact Rf _ _ _ _ rfl zhP B5.o (by simp only[Fx,uD,bV,if_true];exact zfN A5.o.A aC)
end
def bodyTC:Go.Code:=(zh1.body).getD .skip
def rTC1:Go.Code:=match bodyTC with| .seq _ (.seq (a) _)=>a|_=>.skip
def zba:Array Oper:=match rTC1 with| .region _ ops _=>ops|_=>#[]
abbrev oTC1_0:Oper:=aV zba 0 (some 6) (.load 29 (.tmp 2))
def opsTC1_0:zba[0]? =some oTC1_0:=rfl
abbrev oTC1_2:Oper:=aV zba 2 (some 8) (.call ⟨.value (.func 42),#[.tmp 6,.tmp 7],#[29,31]⟩)
def ziy:zba[2]? =some oTC1_2:=rfl
section
variable {St:Nat->Prop}{W0:aE}{Post:aF->aE->Prop}
theorem zzP {m:Fm}{ms:List Fm}{w:aE}{ops:Array aZ}{i:Nat}{rest:List Nat}{k:List dZ}{oo:aZ}{args:Array cN}{jW:Array aM}{A:Option bC}{n c:Nat}{o:fG}{es:List dS}
 (hr:m.ret=false) (Qf:nQ olL m.fn=false) (pZ:m.todo=.inRegion ops (i::rest)::k) (ho:ops[i]? =some oo) (cG:dI oo (dL ops m.tmps)=true) (hop:oo.op=.call ⟨.value (.func 21),args,jW⟩)
 (hv:args.map m.eval=#[.agg #[.int .i64 o.ln,.int .i64 o.op,.int .i64 o.pt],.slice A n c]) (Bw:cJ w 0 w.heap.size 3 A n c (qX es)) (hn:n<=1048576) (hT:qF w) (rY:x5 w)
 (hJ:∀wn V,Bl w.heap.size w wn->wn.ownsRow w.heap.size 3 1 V (Ae o es).length (fN (Ae o es))->JS St W0 Post (m.fin ops i rest k (V)) ms wn):JS St W0 Post m ms w:=by
 have L:=lvF;have bS:nQ olL 21=false:=aU;have zcA:=JO.callN (St:=St) (W0:=W0) (Post:=Post) (ms:=ms) (w:=w) (fn:=zh1) (c:=bodyTC) L hr pZ ho cG hop bS;refine zcA zps aH rfl ?_;rw[hv];have Er:(#[.agg #[.int .i64 o.ln,.int .i64 o.op,.int .i64 o.pt],.slice A n c]:Array aF)++oL ((zh1).ntmps-(#[.agg #[.int .i64 o.ln,.int .i64 o.op,.int .i64 o.pt],.slice A n c]:Array aF).size) aA=#[.agg #[.int .i64 o.ln,.int .i64 o.op,.int .i64 o.pt],.slice A n c,aA,aA,aA,aA,aA,aA,aA,aA,aA,aA,aA,aA,aA]:=by
  have e:(zh1).ntmps=15:=rfl;rw[e];apply La;simp only[Qd,zgo,Bz,uV,zP];rfl
 rw[Er];have pY:w.heap.size<=w.heap.size:=bM _;have Rf:∀(tmps:Array aF) (td:List dZ) (w':aE) (V:aF),tmps.getD 4 aA=V->Bl w.heap.size w w'->w'.ownsRow w.heap.size 3 1 V (Ae o es).length (fN (Ae o es))->JS St W0 Post ⟨21,tmps,td,true⟩ (m::ms) w':=by
  intro tmps td w' V e4 hb cY;refine JO.back L rfl pZ zps (v:=V) ?_ Qf (hJ w' V hb cY);show(oO [.tmp 4] tmps).run _ _=_;simp only[oO,xP,e4];rfl
 refine JO.sq L bS ?_;refine JO.pQ L bS (λTp Q HQ=>?_);obtain⟨w1,dY⟩:=aN (Tt.tp w Tp 0);have B0:=aD (show Bl w.heap.size w w1 by rw[dY];exact(Bl.refl _ w).tp Tp 0);have dF:w1.heap.size=w.heap.size:=by rw[dY];rfl
 have eh:w1.heap=w.heap:=by rw[dY];rfl
 have EH:=aD eh;rw[<-dY];clear dY eh;go_wp2;refine HQ.o _ _ ?_;clear HQ;obtain⟨w2,eN⟩:=aN (w1.alloc (.cells #[.int .i64 o.ln,.int .i64 o.op,.int .i64 o.pt] 29));have k2:∀b,b<w.heap.size->w2.heap[b]? =w.heap[b]? :=λb hb=>by rw[eN,Bp aC,EH.o]
 have z2:w2.heap.size=w.heap.size+1:=by rw[eN,qT,dF]
 have g2:w2.heap[w1.heap.size]? =some (.cells #[.int .i64 o.ln,.int .i64 o.op,.int .i64 o.pt] 29):=by rw[eN];exact Cy _ _
 have zcz:cH w.heap.size w {w2 with os:=w.os,tape:=w.tape,output:=w.output}:=⟨rfl,rfl,rfl,by show w.heap.size<=w2.heap.size;omega,k2⟩;have zc0:qF w2:=Nx (w:={w2 with os:=w.os,tape:=w.tape,output:=w.output}) rfl (zaO hT _ zcz);have zdd:x5 w2:=λg hg=>by
  obtain⟨c,T,fz,h1,h2⟩:=rY g hg;exact⟨c,T,fz,(k2 g (eM.1 h1).1).trans h1,h2⟩
 have yZ:cJ w2 0 w2.heap.size 3 A n c (qX es):=(Bw.keep aC λb _ q _=>k2 b q).wide (bM _) aC;rw[<-eN];clear eN;rw[dF] at g2;refine JO.sq L bS ?_;refine JO.rn L bS zba [0,1,2,3] ?_;refine JO.opv L (v:=.agg #[.int .i64 o.ln,.int .i64 o.op,.int .i64 o.pt]) bS opsTC1_0 rfl (λT e=>?_) ?_
 .have c0:(Tt.tp w2 T e).cell? ⟨w.heap.size,0,none⟩=some (.int .i64 o.ln):=aI g2 0
  have c1:(Tt.tp w2 T e).cell? ⟨w.heap.size,1,none⟩=some (.int .i64 o.op):=aI g2 1;have c2:(Tt.tp w2 T e).cell? ⟨w.heap.size,2,none⟩=some (.int .i64 o.pt):=aI g2 2;unfold aO;go_simp
  try rfl
 simp only[cE,fS,dU,dW];refine JO.mv L bS (.slice A n c) ?_;refine zmH (o:=o) (es:=es) rfl rfl ziy rfl rfl aU Xm yZ hn zc0 zdd (λbV wn hb=>?_) (λbV wn hb hH=>?_)
 .simp only[Fm.fin,ziy,vN,fS,dU,dW]
  have bY:Bl w.heap.size w wn:=⟨by have:=hb.size;omega,λb bY=>(hb.block b aC).trans (k2 b bY)⟩;refine JO.mv L bS (.pointer none) ?_;refine JO.regEnd L bS ?_;refine JO.sq L bS ?_;refine JO.sq L bS ?_;refine JO.pQ L bS (λTp Q HQ=>?_);go_wp2;refine HQ.o _ _ ?_;clear HQ;refine JO.cd L true bS ?_;refine JO.sq L bS ?_;refine JO.pQ L bS (λzR Q HQ=>?_);go_wp2;refine HQ.o _ _ ?_;clear HQ;refine JO.rt L bS ?_;exact Rf _ _ _ _ rfl ((bY.tp Tp 0).tp zR 0) (by simp[Ae,bV];exact⟨rfl,.inl ⟨rfl,rfl⟩⟩)
 .simp only[Fm.fin,ziy,vN,fS,dU,dW]
  obtain⟨kK,lo,v,ln,qn,h1,h2,hA,h3,h4⟩:=hH;have bY:Bl w.heap.size w wn:=⟨by have:=kK.size;omega,λb bY=>(kK.block b aC).trans (k2 b bY)⟩;have HA:=aD hA;have zbV:=aD bY;clear hA bY kK;refine JO.mv L bS (.pointer (some ⟨hb,0,none⟩)) ?_;refine JO.regEnd L bS ?_;refine JO.sq L bS ?_;refine JO.sq L bS ?_;refine JO.pQ L bS (λTp Q HQ=>?_);go_wp2;refine HQ.o _ _ ?_;clear HQ;refine JO.cd L false bS ?_;refine JO.sk L bS ?_;refine JO.sq L bS ?_;refine JO.pQ L bS (λzR Q HQ=>?_);obtain⟨w5,kS⟩:=aN (Tt.tp (Tt.tp wn Tp 0) zR 0);have c5:w5.cell? ⟨hb,13,none⟩=some (v.sT):=by rw[kS];exact aI HA.o.blk 13
  have A5:=aD (show bF w5 lo hb v (tG o es ln qn qn.length) by rw[kS];exact HA.o.same rfl);have B5:=aD (show Bl w.heap.size w w5 by rw[kS];exact(zbV.o.tp Tp 0).tp zR 0);rw[<-kS];clear kS;go_wp2;refine HQ.o _ _ ?_;clear HQ;refine JO.rt L bS ?_;exact Rf _ _ _ _ rfl B5.o (by have e:o.op.toNat=qn.length:=aC;simp only[Ae,bV,if_true,e];exact zfN A5.o.T aC)
end
def bodyRX:Go.Code:=(zh5.body).getD .skip
def rRX1:Go.Code:=match bodyRX with| .seq _ (.seq (a) _)=>a|_=>.skip
def zdP:Array Oper:=match rRX1 with| .region _ ops _=>ops|_=>#[]
abbrev oRX1_0:Oper:=aV zdP 0 (some 7) (.load 29 (.tmp 2))
def opsRX1_0:zdP[0]? =some oRX1_0:=rfl
abbrev oRX1_2:Oper:=aV zdP 2 (some 9) (.call ⟨.value (.func 42),#[.tmp 7,.tmp 8],#[29,31]⟩)
def zn2:zdP[2]? =some oRX1_2:=rfl
section
variable {St:Nat->Prop}{W0:aE}{Post:aF->aE->Prop}
theorem zFM {m:Fm}{ms:List Fm}{w:aE}{ops:Array aZ}{i:Nat}{rest:List Nat}{k:List dZ}{oo:aZ}{args:Array cN}{jW:Array aM}{A:Option bC}{n c:Nat}{o:fG}{es:List dS}
 (hr:m.ret=false) (Qf:nQ olL m.fn=false) (pZ:m.todo=.inRegion ops (i::rest)::k) (ho:ops[i]? =some oo) (cG:dI oo (dL ops m.tmps)=true) (hop:oo.op=.call ⟨.value (.func 28),args,jW⟩)
 (hv:args.map m.eval=#[.agg #[.int .i64 o.ln,.int .i64 o.op,.int .i64 o.pt],.slice A n c]) (Bw:cJ w 0 w.heap.size 3 A n c (qX es)) (hn:n<=1048576) (hT:qF w) (rY:x5 w)
 (hJ:∀wn V,Bl w.heap.size w wn->wn.ownsRow w.heap.size 50 7 V (Eo o es).length (recs (Eo o es))->JS St W0 Post (m.fin ops i rest k (.tuple #[V,.bool (eG o es)])) ms wn):JS St W0 Post m ms w:=by
 have L:=lvF;have bS:nQ olL 28=false:=aU;have zcA:=JO.callN (St:=St) (W0:=W0) (Post:=Post) (ms:=ms) (w:=w) (fn:=zh5) (c:=bodyRX) L hr pZ ho cG hop bS;refine zcA zsd aH rfl ?_;rw[hv];have Er:(#[.agg #[.int .i64 o.ln,.int .i64 o.op,.int .i64 o.pt],.slice A n c]:Array aF)++oL ((zh5).ntmps-(#[.agg #[.int .i64 o.ln,.int .i64 o.op,.int .i64 o.pt],.slice A n c]:Array aF).size) aA=#[.agg #[.int .i64 o.ln,.int .i64 o.op,.int .i64 o.pt],.slice A n c,aA,aA,aA,aA,aA,aA,aA,aA,aA,aA,aA,aA,aA,aA]:=by
  have e:(zh5).ntmps=16:=rfl;rw[e];apply La;simp only[Qd,zgo,Bz,uV,zP];rfl
 rw[Er];have pY:w.heap.size<=w.heap.size:=bM _;have Rf:∀(tmps:Array aF) (td:List dZ) (w':aE) (V:aF),tmps.getD 4 aA=V->tmps.getD 5 aA=.bool (eG o es)->Bl w.heap.size w w'->w'.ownsRow w.heap.size 50 7 V (Eo o es).length (recs (Eo o es))->JS St W0 Post ⟨28,tmps,td,true⟩ (m::ms) w':=by
  intro tmps td w' V e4 e5 hb cY;refine JO.back L rfl pZ zsd (v:=.tuple #[V,.bool (eG o es)]) ?_ Qf (hJ w' V hb cY);show(oO [.tmp 4,.tmp 5] tmps).run _ _=_;simp only[oO,xP,e4,e5];rfl
 refine JO.sq L bS ?_;refine JO.pQ L bS (λTp Q HQ=>?_);obtain⟨w1,dY⟩:=aN (Tt.tp w Tp 0);have B0:=aD (show Bl w.heap.size w w1 by rw[dY];exact(Bl.refl _ w).tp Tp 0);have dF:w1.heap.size=w.heap.size:=by rw[dY];rfl
 have eh:w1.heap=w.heap:=by rw[dY];rfl
 have EH:=aD eh;rw[<-dY];clear dY eh;go_wp2;refine HQ.o _ _ ?_;clear HQ;obtain⟨w2,eN⟩:=aN (w1.alloc (.cells #[.int .i64 o.ln,.int .i64 o.op,.int .i64 o.pt] 29));have k2:∀b,b<w.heap.size->w2.heap[b]? =w.heap[b]? :=λb hb=>by rw[eN,Bp aC,EH.o]
 have z2:w2.heap.size=w.heap.size+1:=by rw[eN,qT,dF]
 have g2:w2.heap[w1.heap.size]? =some (.cells #[.int .i64 o.ln,.int .i64 o.op,.int .i64 o.pt] 29):=by rw[eN];exact Cy _ _
 have zcz:cH w.heap.size w {w2 with os:=w.os,tape:=w.tape,output:=w.output}:=⟨rfl,rfl,rfl,by show w.heap.size<=w2.heap.size;omega,k2⟩;have zc0:qF w2:=Nx (w:={w2 with os:=w.os,tape:=w.tape,output:=w.output}) rfl (zaO hT _ zcz);have zdd:x5 w2:=λg hg=>by
  obtain⟨c,T,fz,h1,h2⟩:=rY g hg;exact⟨c,T,fz,(k2 g (eM.1 h1).1).trans h1,h2⟩
 have yZ:cJ w2 0 w2.heap.size 3 A n c (qX es):=(Bw.keep aC λb _ q _=>k2 b q).wide (bM _) aC;rw[<-eN];clear eN;rw[dF] at g2;refine JO.sq L bS ?_;refine JO.rn L bS zdP [0,1,2,3] ?_;refine JO.opv L (v:=.agg #[.int .i64 o.ln,.int .i64 o.op,.int .i64 o.pt]) bS opsRX1_0 rfl (λT e=>?_) ?_
 .have c0:(Tt.tp w2 T e).cell? ⟨w.heap.size,0,none⟩=some (.int .i64 o.ln):=aI g2 0
  have c1:(Tt.tp w2 T e).cell? ⟨w.heap.size,1,none⟩=some (.int .i64 o.op):=aI g2 1;have c2:(Tt.tp w2 T e).cell? ⟨w.heap.size,2,none⟩=some (.int .i64 o.pt):=aI g2 2;unfold aO;go_simp
  try rfl
 simp only[cE,fS,dU,dW];refine JO.mv L bS (.slice A n c) ?_;refine zmH (o:=o) (es:=es) rfl rfl zn2 rfl rfl aU Xm yZ hn zc0 zdd (λbV wn hb=>?_) (λbV wn hb hH=>?_)
 .simp only[Fm.fin,zn2,vN,fS,dU,dW]
  have bY:Bl w.heap.size w wn:=⟨by have:=hb.size;omega,λb bY=>(hb.block b aC).trans (k2 b bY)⟩;refine JO.mv L bS (.pointer none) ?_;refine JO.regEnd L bS ?_;refine JO.sq L bS ?_;refine JO.sq L bS ?_;refine JO.pQ L bS (λTp Q HQ=>?_);go_wp2;refine HQ.o _ _ ?_;clear HQ;refine JO.cd L true bS ?_;refine JO.sq L bS ?_;refine JO.pQ L bS (λzR Q HQ=>?_);go_wp2;refine HQ.o _ _ ?_;clear HQ;refine JO.rt L bS ?_;exact Rf _ _ _ _ rfl zhP ((bY.tp Tp 0).tp zR 0) (by simp[Eo,uD,bV,lV];exact⟨rfl,.inl ⟨rfl,rfl⟩⟩)
 .simp only[Fm.fin,zn2,vN,fS,dU,dW]
  obtain⟨kK,lo,v,ln,qn,h1,h2,hA,h3,h4⟩:=hH;have bY:Bl w.heap.size w wn:=⟨by have:=kK.size;omega,λb bY=>(kK.block b aC).trans (k2 b bY)⟩;have HA:=aD hA;have zbV:=aD bY;clear hA bY kK;refine JO.mv L bS (.pointer (some ⟨hb,0,none⟩)) ?_;refine JO.regEnd L bS ?_;refine JO.sq L bS ?_;refine JO.sq L bS ?_;refine JO.pQ L bS (λTp Q HQ=>?_);go_wp2;refine HQ.o _ _ ?_;clear HQ;refine JO.cd L false bS ?_;refine JO.sk L bS ?_;refine JO.sq L bS ?_;refine JO.pQ L bS (λzR Q HQ=>?_);obtain⟨w5,kS⟩:=aN (Tt.tp (Tt.tp wn Tp 0) zR 0);have c5:w5.cell? ⟨hb,9,none⟩=some (v.sR):=by rw[kS];exact aI HA.o.blk 9
  have A5:=aD (show bF w5 lo hb v (tG o es ln qn qn.length) by rw[kS];exact HA.o.same rfl);have B5:=aD (show Bl w.heap.size w w5 by rw[kS];exact(zbV.o.tp Tp 0).tp zR 0);rw[<-kS];clear kS;go_wp2;refine HQ.o _ _ ?_;clear HQ;refine JO.rt L bS ?_;exact Rf _ _ _ _ rfl zhP B5.o (by simp only[Eo,uD,bV,if_true];exact zfN A5.o.R aC)
end
theorem qF.bls (h:qF w)(hb:Bl B w w')(hB:w.heap.size<=B):qF w':=by
 have bY:cH w.heap.size w {w' with os:=w.os,tape:=w.tape,output:=w.output}:=⟨rfl,rfl,rfl,hb.size,λb zwE=>hb.block b aC⟩;exact Nx (w:={w' with os:=w.os,tape:=w.tape,output:=w.output}) rfl (zaO h _ bY)
theorem x5.bls (h:x5 w)(hb:Bl B w w')(hB:w.heap.size<=B):x5 w':=by
 intro g hg;obtain⟨c,T,fz,hc,hu⟩:=h g hg;exact⟨c,T,fz,(hb.block g (by have:=(eM.1 hc).1;omega)).trans hc,hu⟩
theorem zB0 {p:Program}{o:aZ}{t:aM}{x:cN}{ρ:cN->aF}{b:Nat}{cs:Array aF}{T:aM}{fz:Nat×Nat}{d:TypeDesc}(hop:o.op=.load t x)(hb:w.heap[b]? =some (.cells cs T fz))(hx:ρ x=.pointer (some ⟨b,0,none⟩))
 (hu:p.underlying t=some d) (hd:d.isRow=true) (hi:(p.info? t).map (·.size)=some cs.size):(aO ρ o).run p w=.ok (.value (.agg cs)) w:=by
 obtain⟨dst,zK,type,pos,after,guard⟩:=o;simp only at hop;subst hop;have:=run_loadAt_mid (P:=p) w b 0 t cs.toList d (λj v hj=>by rw[qV,aI hb];simpa using hj) hu hd zhl;simp only[aO,hx,Sem.run_bind,this,Result.andThen_ok];rfl
end Go.Proofs.YtfcjiloojkjaeaaGreatDoor
namespace Go.Proofs.YtfcjiloojkjaeaaGreatDoor
open Go.ChangeShapes Go.WideShapes Go.ChangeAt Go.RowKit Go.Mt Go.Conc Go.Tt
def U3:List (String×DataW Unit):=[("math/bits.deBruijn32tab",Rows.laid_math_bits_deBruijn32tab),("math/bits.deBruijn64tab",Rows.laid_math_bits_deBruijn64tab),("internal/strconv.uint64pow10",Rows.laid_internal_strconv_uint64pow10)]
def door_met (os:Os)(args:Array aF):laidMetH aK U3 ((aE.doorLaid aK 400 os).forCall (λ_ _=>0) ⟨#[],args,[]⟩).memory:=
 laidMetH_of_parts3 (fuel:=8) (laidMet_of_run' 8 aU aU) aU aU
def pow_eq:Rows.laid_internal_strconv_uint64pow10 (H:=Unit)=Lib.tabData .u64 Lib.pow10Tab:=aU
variable {W:aE}
theorem of_laid (h:laidMetH aK U3 W):qF W:=by
 rw[zyV _ _ _ aU] at h;obtain⟨ps,⟨g0,t0,G6,f0,p0,q0,Tw,zjW,gZ,S4,⟨g1,t1,uG,f1,p1,q1,qU,H3,pS,U5,⟨g2,t2,zuH,f2,p2,q2,oV,zxF,Cf,Bo,_,_⟩,_⟩,_⟩,_⟩:=h;have e1:aK.globalNamed "internal/strconv.uint64pow10" =some 0:=aU;have e2:(aK.globals[0]?).map (·.type)=some 170:=aU;obtain rfl:=cS (e1.symm.trans oV);obtain rfl:=cS (e2.symm.trans zxF);rw[pow_eq] at Bo;unfold qF zfD;rw[Cf,<-Lib.cells_of_tab Tryz.underlying170 Tryz.underlying89 aU aU Bo]
theorem ze8 {nm:String}{g:Nat}{cs:Array aF}(hg:aK.globalNamed nm=some g)(h:W.var? aK nm=some cs):∃T fz,W.heap[g]? =some (.cells cs T fz):=by
 unfold ze7 at h;rw[hg] at h;simp only[vN] at h;split at h
 .rename_i c T fz hb
  injection h with h;subst h;exact⟨T,fz,hb⟩
 .cases h
theorem zEp (g:Nat)(h:Co aK g=true):aK.globalNamed "math/bits.deBruijn32tab" =some g\/aK.globalNamed "math/bits.deBruijn64tab" =some g\/aK.globalNamed "internal/strconv.uint64pow10" =some g:=by
 have sZ:((iL aK.globals.size).all λg=>!(Co aK g)||decide (aK.globalNamed "math/bits.deBruijn32tab" =some g)||decide (aK.globalNamed "math/bits.deBruijn64tab" =some g)||decide (aK.globalNamed "internal/strconv.uint64pow10" =some g))=true:=aU;have aT:g<Tryz.prog.globals.size:=by
  unfold Co at h
  cases e:aK.globals[g]? with
  |none=>rw[e] at h;cases h
  |some x=>exact(eM.1 e).1
 have:=List.all_eq_true.1 sZ g (List.mem_range.2 aT);simp only[h,Bool.not_true,Bool.false_or,E9,decide_eq_true_eq] at this;rcases this with(h|h)|h
 .exact .inl h
 .exact .inr (.inl h)
 .exact .inr (.inr h)
theorem zFb (h:laidMetH aK U3 W)(g:Nat)(hg:Co aK g=true):∃c T fz,W.heap[g]? =some (.cells c T fz):=by
 rw[zyV _ _ _ aU] at h;obtain⟨ps,⟨g0,t0,G6,f0,p0,q0,Tw,zjW,gZ,S4,⟨g1,t1,uG,f1,p1,q1,qU,H3,pS,U5,⟨g2,t2,zuH,f2,p2,q2,oV,zxF,Cf,Bo,_,_⟩,_⟩,_⟩,_⟩:=h;rcases zEp g hg with e|e|e
 .exact⟨G6,ze8 e gZ⟩
 .exact⟨uG,ze8 e pS⟩
 .exact⟨zuH,ze8 e Cf⟩
def zab (A:Option bC)(b:Nat):Bool:=match A with|some a=>decide (a.block=b)|none=>false
def L1 (A1 A2 A3:Option bC)(b:Nat):Bool:=Co aK b||zab A1 b||zab A2 b||zab A3 b
variable {A:Option bC}
theorem znZ {b:Nat}(h:zab A b=true):∃a,A=some a/\a.block=b:=by
 unfold zab at h
 cases A with
 |none=>cases h
 |some a=>exact⟨a,rfl,of_decide_eq_true h⟩
theorem zGg {A1 A2 A3:Option bC}(hL:laidMetH aK U3 W)(h1:∀a,A1=some a->a.spot=none/\∃c T fz,W.heap[a.block]? =some (.cells c T fz))(h2:∀a,A2=some a->a.spot=none/\∃c T fz,W.heap[a.block]? =some (.cells c T fz))(h3:∀a,A3=some a->a.spot=none/\∃c T fz,W.heap[a.block]? =some (.cells c T fz))(b:Nat)(hb:L1 A1 A2 A3 b=true):∃c T fz,W.heap[b]? =some (.cells c T fz):=by
 unfold L1 at hb;simp only[E9] at hb;rcases hb with((hb|hb)|hb)|hb
 .exact zFb hL b hb
 .obtain⟨a,e,rfl⟩:=znZ hb;exact(h1 a e).2
 .obtain⟨a,e,rfl⟩:=znZ hb;exact(h2 a e).2
 .obtain⟨a,e,rfl⟩:=znZ hb;exact(h3 a e).2
variable {X:Nat->Bool}
theorem zHE (h:∀a,A=some a->X a.block=true):yB (R0 X) A A:=by
 cases A with
 |none=>exact .none
 |some a=>
  have:=h a rfl;obtain⟨bl,of,sp⟩:=a;exact .some (.mk ⟨rfl,this⟩)
variable {S:aP->Prop}
theorem zzR (hX:∀b,X b=true->∃c T fz,W.heap[b]? =some (.cells c T fz))(hT:∀g,Co aK g=true->X g=true):x5 (Ed S X W):=by
 intro g hg;obtain⟨c,T,fz,hc⟩:=hX g (hT g hg);refine⟨_,_,_,zbt hc (hT g hg),λv hv=>?_⟩;obtain⟨u,_,rfl⟩:=Array.mem_map.1 hv;exact(zg0 S u).1
theorem gv_ints (S:aP->Prop)(zs:List Int):((zs.map λz=>M9 .u64 z).toArray).map (gv S)=(zs.map λz=>M9 .u64 z).toArray:=by
 apply La;simp only[Array.toList_map,List.map_map];exact List.map_congr_left λz _=>(zg0 S _).2.2 (.inl ⟨_,_,rfl⟩)
theorem zGl (hX:∀b,X b=true->∃c T fz,W.heap[b]? =some (.cells c T fz))(hT:∀g,Co aK g=true->X g=true)(h:qF W):qF (Ed S X W):=by
 have e1:aK.globalNamed "internal/strconv.uint64pow10" =some 0:=aU;have e2:Co aK 0=true:=aU;unfold qF zfD at*;obtain⟨T,fz,hc⟩:=ze8 e1 h;have lN:=zbt (S:=S) hc (hT _ e2);unfold ze7;rw[e1];simp only[vN,lN];exact congrArg some (gv_ints S _)
end Go.Proofs.YtfcjiloojkjaeaaGreatDoor
namespace Go.Proofs.YtfcjiloojkjaeaaGreatDoor
theorem o9 {a b:Bool}(h:a=true)(k:b=true):(a&&b)=true:=by rw[h,k];rfl
namespace Facts
def zsn:laidOutB Tryz.pinned.checked.prog=true:=aU
def mapsRowed:mapsRowed Tryz.pinned.checked.prog=true:=aU
def stops:(Tryz.pinned.checked.prog.stops==[])=true:=aU
def stopKnobs:(Tryz.pinned.checked.prog.stopKnobs==[])=true:=aU
def plainKeys:(Rows.fnExactRunOfficeRow.plainKeys==Tryz.pinned.checked.prog.plainKeys)=true:=aU
def stopsHeard:Tryz.pinned.checked.prog.stopsHeard=true:=aU
def mayEnter:Tryz.pinned.checked.prog.mayEnter=true:=aU
def lifted:(Rows.fnExactRunOfficeRow.lifted==Tryz.pinned.checked.prog.liftsFinal)=true:=aU
def make:(Tryz.pinned.checked.prog.make==some Rows.fnExactRunOfficeRow.make)=true:=aU
def mainIs:Tryz.pinned.checked.prog.mainIs=some (Rows.fnExactRunOfficeCard.stood.harness.1,Rows.fnExactRunOfficeCard.stood.harness.2.toList):=aU
def looks:Rows.fnExactRunOfficeCard.stood.looks=Tryz.pinned.checked.prog.looks []:=aU
end Facts
end Go.Proofs.YtfcjiloojkjaeaaGreatDoor
namespace Go.Proofs.YtfcjiloojkjaeaaGreatDoor
open Go.RowKit
structure qO (w0:aE)(g:Nat)(A:Option bC)(n c q:Nat)(E s:Nat)(v:aF)(k:Nat)(xs:List aF)(W:aE):Prop where
 rd:Rd W g A n c q
 own:W.ownsRow w0.heap.size E s v k xs
 gr:w0.grownBy W (some g)
 hg:g<w0.heap.size
section
variable {w0:aE}{g:Nat}{A:Option bC}{n c q:Nat}{E s:Nat}{v:aF}{k:Nat}{xs:List aF}{W W':aE}
def qO.hb (h:qO w0 g A n c q E s v k xs W):w0.heap.size<=W.heap.size:=h.gr.size
theorem qO.notg (h:qO w0 g A n c q E s v k xs W):v.ownBlock≠some g:=λe=>by
 have:=(h.own.lt g e).1;have:=h.hg;omega
def qO.alloc (h:qO w0 g A n c q E s v k xs W)(o:Obj):qO w0 g A n c q E s v k xs (W.alloc o):=
 ⟨h.rd.alloc o,h.own.alloc o,We h.gr o,h.hg⟩
def qO.grown {q':Nat}(h:qO w0 g A n c q E s v k xs W)(hr:Rd W' g A n c q')(hg:W.grownBy W' (some g)):qO w0 g A n c q' E s v k xs W':=
 ⟨hr,h.own.kept hg (.inr h.notg),zka h.gr hg,h.hg⟩
def qO.below (h:qO w0 g A n c q E s v k xs W)(hb:cH W.heap.size W W'):qO w0 g A n c q E s v k xs W':=
 ⟨h.rd.below hb,h.own.kept (row:=none) ⟨hb.os,hb.tape,hb.output,hb.size,λi hi _=>hb.block i hi⟩ tV,zka h.gr (zAX hb _),h.hg⟩
def qO.wide {q':Nat}(h:qO w0 g A n c q E s v k xs W)(hq:q<=q'):qO w0 g A n c q' E s v k xs W:=
 ⟨h.rd.mono hq,h.own,h.gr,h.hg⟩
theorem qO.aside {row:Option Nat}(h:qO w0 g A n c q E s v k xs W)(hg:W.grownBy W' row)(aS:v.ownBlock=none\/v.ownBlock≠row)(hy:∀b,row=some b->w0.heap.size<=b):qO w0 g A n c q E s v k xs W':=
 ⟨
  h.rd.keep λb hb=>hg.block b (zcJ hb h.rd.gblt) (λe=>by have:=hy b e.symm;have:=h.hg;omega),h.own.kept hg aS,
  ⟨hg.os.trans h.gr.os,hg.tape.trans h.gr.tape,hg.output.trans h.gr.output,eE h.gr.size hg.size,λi hi aS=>(hg.block i (jP hi h.gr.size) (λe=>by grind)).trans (h.gr.block i hi aS)⟩,h.hg⟩
theorem qO.app {v':aF}{k':Nat}{cC:List aF}(h:qO w0 g A n c q E s v k xs W)(ho:W'.ownsRow w0.heap.size E s v' k' cC)(hg:W.grownBy W' v.ownBlock):qO w0 g A n c q E s v' k' cC W':=
 ⟨
  h.rd.keep λb hb=>hg.block b (zcJ hb h.rd.gblt) (λe=>by have:=(h.own.lt b e.symm).1;have:=h.hg;omega),ho,
  ⟨hg.os.trans h.gr.os,hg.tape.trans h.gr.tape,hg.output.trans h.gr.output,eE h.gr.size hg.size,λi hi aS=>(hg.block i (jP hi h.gr.size) (λe=>by have:=(h.own.lt i e.symm).1;omega)).trans (h.gr.block i hi aS)⟩,h.hg⟩
end
variable {W:aE}{g n c:Nat}{A:Option bC}
def qO.init {q:Nat}(E s:Nat)(h:Rd W g A n c q):
 qO W g A n c q E s (.slice (some ⟨W.heap.size,0,none⟩) 0 0) 0 [] (W.alloc (.cells #[] E)):=
 ⟨h.alloc _,aE.ownsRow_made W #[] 0 (bM _) (lU _) aQ,We (zer _ _) _,h.gblt⟩
theorem int_pred {j:Nat}(h:0<j):M9 .i64 ((j:Int)-1)=.int .i64 ((j-1:Nat):Int):=by congr 1;omega
variable {w:aE}{l k:Nat}{T:aM}{fz:Nat×Nat}
theorem Ro {xs:List Int}(h:w.heap[l]? =some (.cells (xs.map (M9 .i64)).toArray T fz))(hk:xs.length=k):
 ∀j,j<k->∃v:Int,w.cell? ⟨l,0+j,none⟩=some (.int .i64 v):=
 zCy h k λj hj=>⟨xs[j]' aC,by simp[hk,hj]⟩
def GotS (w:aE)(g:Nat)(A:Option bC)(n c q:Nat)(e:Ig)(w':aE):Prop:=
 ∃s:ByteArray,e=.returned (.string s)/\Rd w' g A n c q/\w.grownBy w' (some g)
theorem of_any (g q n c l lo k kc:Nat)(A:Option bC)(w:aE)(h:Rd w g A n c q)(hq:q+1<1000000000)(hk:0<k)(rL:k<=1000000)(hl:l<w.heap.size)(zdo:l≠g)
 (hc:∀j,j<k->∃v:ByteArray,w.cell? ⟨l,lo+j,none⟩=some (.string v)):
 gT aK 107 #[.pointer (some ⟨g,0,none⟩),.slice (some ⟨l,lo,none⟩) k kc] w (GotS w g A n c (q+1)):=by
 have H:=aD hc;clear hc
 go_enter Tryz.func107,Tryz.ntmps107
 go_wp2_with fail
 refine(Dz g q n c A _ _ h hq aC aC).mono ?_;rintro e w1 ⟨r,rfl,⟨r0,r1⟩,hr,hg⟩;obtain⟨v,hv⟩:=H.o r.toNat aC;have pS:=(zuG hg hl zdo).trans hv;clear hv;go_wp2;go_ret;exact⟨v,rfl,hr,hg⟩
variable {xs:List ByteArray}
theorem ztc (h:w.heap[l]? =some (.cells (xs.map zsu).toArray T fz))(hk:xs.length=k):
 ∀j,j<k->∃v:ByteArray,w.cell? ⟨l,0+j,none⟩=some (.string v):=λj hj=>⟨xs[j]' aC,by rw[qV,aI h];simp[hk,hj]⟩
structure fB (w0:aE)(g:Nat)(A:Option bC)(n c q rb:Nat)(T:aM)(zs:Array aF)(W:aE):Prop where
 rd:Rd W g A n c q
 gr:w0.grownBy W (some g)
 hg:g<w0.heap.size
 res:W.heap[rb]? =some (.cells zs T)
 rlo:w0.heap.size<=rb
structure Aq (w0:aE)(g:Nat)(A:Option bC)(n c q rb b:Nat)(T:aM)(zs cs:Array aF)(W:aE):Prop where
 rs:fB w0 g A n c q rb T zs W
 blk:W.heap[b]? =some (.cells cs T)
 lo:w0.heap.size<=b/\b≠rb
section
variable {w0:aE}{g:Nat}{A:Option bC}{n c q rb b:Nat}{T:aM}{zs cs:Array aF}{W W':aE}
def fB.alloc (h:fB w0 g A n c q rb T zs W)(o:Obj):fB w0 g A n c q rb T zs (W.alloc o):=⟨h.rd.alloc o,We h.gr o,h.hg,dH h.res o,h.rlo⟩
theorem fB.grown {q':Nat}(h:fB w0 g A n c q rb T zs W)(hr:Rd W' g A n c q')(hg:W.grownBy W' (some g)):fB w0 g A n c q' rb T zs W':=
 ⟨hr,zka h.gr hg,h.hg,(zgE hg h.res (by have:=h.hg;have:=h.rlo;omega)).1,h.rlo⟩
def fB.wide {q':Nat}(h:fB w0 g A n c q rb T zs W)(hq:q<=q'):fB w0 g A n c q' rb T zs W:=⟨h.rd.mono hq,h.gr,h.hg,h.res,h.rlo⟩
theorem fB.box (h:fB w0 g A n c q rb T zs W)(cs:Array aF){b:Nat}(hb:b=W.heap.size):Aq w0 g A n c q rb b T zs cs (W.alloc (.cells cs T)):=⟨h.alloc _,l6 _ _ hb,by have:=gM h.res;have:=h.gr.size;omega⟩
theorem fB.set {i:Nat}{u:aF}{b:Nat}(h:fB w0 g A n c q rb T zs W)(hb:w0.heap.size<=b/\b≠rb):fB w0 g A n c q rb T zs (W.setCell ⟨b,i,none⟩ u):=
 ⟨h.rd.setCell (by have:=h.hg;have:=h.rlo;simp;omega) u,zoP h.gr (by have:=h.rlo;simp;omega) u,h.hg,(dX W ⟨b,i,none⟩ u _ (by show rb≠b;omega)).trans h.res,h.rlo⟩
def Aq.alloc (h:Aq w0 g A n c q rb b T zs cs W)(o:Obj):Aq w0 g A n c q rb b T zs cs (W.alloc o):=⟨h.rs.alloc o,dH h.blk o,h.lo⟩
theorem Aq.grown {q':Nat}(h:Aq w0 g A n c q rb b T zs cs W)(hr:Rd W' g A n c q')(hg:W.grownBy W' (some g)):Aq w0 g A n c q' rb b T zs cs W':=
 ⟨h.rs.grown hr hg,(zgE hg h.blk (by have:=h.rs.hg;have:=h.rs.rlo;have:=h.lo;omega)).1,h.lo⟩
def Aq.wide {q':Nat}(h:Aq w0 g A n c q rb b T zs cs W)(hq:q<=q'):Aq w0 g A n c q' rb b T zs cs W:=⟨h.rs.wide hq,h.blk,h.lo⟩
theorem Aq.set {i:Nat}{u:aF}{U6:Array aF}(h:Aq w0 g A n c q rb b T zs cs W)(e:cs.setIfInBounds i u=U6):Aq w0 g A n c q rb b T zs U6 (W.setCell ⟨b,i,none⟩ u):=
 ⟨h.rs.set h.lo,by rw[oK h.blk,e],h.lo⟩
def Aq.zb (h:Aq w0 g A n c q rb b T zs cs W):b<W.heap.size:=gM h.blk
theorem fB.end1 {i:Nat}{u:aF}(hr:Rd W g A n c q/\w0.grownBy W (some g))(hg:g<w0.heap.size)(hb:w0.heap.size<=rb):Rd (W.setCell ⟨rb,i,none⟩ u) g A n c q/\w0.grownBy (W.setCell ⟨rb,i,none⟩ u) (some g):=
 ⟨hr.1.setCell (by show g<rb;omega) u,zoP hr.2 hb u⟩
def fB.end0 {q':Nat}(h:fB w0 g A n c q rb T zs W)(hq:q<=q'):Rd W g A n c q'/\w0.grownBy W (some g):=⟨h.rd.mono hq,h.gr⟩
end
def Got3 (w:aE)(g:Nat)(A:Option bC)(n c q:Nat)(e:Ig)(w':aE):Prop:=
 ∃(x y z:Int),e=.returned (.agg #[.int .i64 x,.int .i64 y,.int .i64 z])/\Rd w' g A n c q/\w.grownBy w' (some g)
def Got3S (w:aE)(g:Nat)(A:Option bC)(n c q:Nat)(e:Ig)(w':aE):Prop:=
 ∃(s:ByteArray) (x y:Int),e=.returned (.agg #[.string s,.int .i64 x,.int .i64 y])/\Rd w' g A n c q/\w.grownBy w' (some g)
theorem zDY (g q n c:Nat)(A:Option bC)(w:aE)(h:Rd w g A n c q)(hq:q<900000000):
 gT aK 60 #[.pointer (some ⟨g,0,none⟩)] w (Got3 w g A n c (q+10)):=by
 have lI:=h.gblt;obtain⟨rb,uF⟩:=aN w.heap.size;have mL:=aD uF;have F6:=aD (show fB w g A n c q rb 29 #[.int .i64 0,.int .i64 0,.int .i64 0] (w.alloc (.cells #[.int .i64 0,.int .i64 0,.int .i64 0] 29)) from⟨h.alloc _,We (zer _ _) _,lI,l6 _ _ uF,aC⟩);clear h
 go_enter Tryz.func60,Tryz.ntmps60
 go_upto_region 1 with fail
 rw[<-uF];clear uF;obtain⟨W1,dC⟩:=aN (w.alloc (.cells #[.int .i64 0,.int .i64 0,.int .i64 0] 29));rw[<-dC] at F6⊢;clear dC;have once:True:=trivial
 go_upto_region 2 with(first
  |(clear once;go_at_call 62;refine(Dz g q n c A _ W1 F6.o.rd aC aC aC).mono ?_;rintro e w2 ⟨r1,rfl,⟨zLt,zJL⟩,uM,oV⟩;have jJ:=aD (F6.o.grown uM oV);clear uM oV)
  |(go_at_call 62;refine(Dz g (q+1) n c A _ w2 jJ.o.rd aC aC aC).mono ?_;rintro e w3 ⟨r2,rfl,⟨zjc,ziQ⟩,G8,Bh⟩;have jX:=aD (jJ.o.grown G8 Bh);have z3:=gM jX.o.res;have ziN:=jX.o.rlo;clear G8 Bh)
  |(go_at_call 88;refine(Vf g (q+2) n c _ 0 5 5 A _ (jX.o.alloc _).rd aC aC aC aQ aC (Ro (xs:=[5,3,10,1,60]) (gV _ _) rfl)).mono ?_;rintro e w4 ⟨r3,rfl,_,Ni,Hn⟩;have E6:=aD ((jX.o.alloc _).grown Ni Hn);clear Ni Hn))
 obtain⟨b,hb⟩:=aN w4.heap.size;rw[<-hb];have tZ:=aD (E6.o.box #[.int .i64 (1+r1),.int .i64 (1+r2),.int .i64 r3] hb);obtain⟨W4,rN⟩:=aN (w4.alloc (.cells #[.int .i64 (1+r1),.int .i64 (1+r2),.int .i64 r3] 29));rw[<-rN] at tZ⊢;obtain⟨x1,N8⟩:=aN (1+r1);obtain⟨x2,Ak⟩:=aN (1+r2);rw[<-N8,<-Ak] at tZ;clear rN hb N8 Ak
 go_upto_region 3 with(go_at_call 62;refine(Dz g (q+3) n c A _ W4 tZ.o.rs.rd aC aC aC).mono ?_;rintro e w5 ⟨r,rfl,⟨r0,r9⟩,eW,Gg⟩;have lQ:=aD (tZ.o.grown eW Gg);clear eW Gg)
 by_cases e0:r=0
 .subst e0
  have zsf:=lQ.o.zb;have Y2:=lQ.o.lo;have mK:=lQ.o.rs.rlo;have aS:¬b=rb:=aC;have zdG:¬rb=b:=aC
  go_wp2_with (go_at_call 88;refine(Vf g _ n c _ 0 3 3 A _ ((lQ.o.alloc _).rs.rd) aC aC aC aQ aC (Ro (xs:=[0,7,-1]) (gV _ _) rfl)).mono ?_;rintro e w6 ⟨p,rfl,_,lF,lG⟩;have kV:=aD ((lQ.o.alloc _).grown lF lG);have ec:=aI kV.o.blk;have fc:=rA kV.o.blk;have er:=aI kV.o.rs.res;have fr:=rA kV.o.rs.res;have zb:=kV.o.zb;have zr:=gM kV.o.rs.res;clear lF lG)
  refine nY (v:=.agg #[.int .i64 p,.int .i64 x2,.int .i64 r3]) ?_ rfl ⟨_,_,_,rfl,fB.end1 (fB.end1 (fB.end1 (fB.end0 (kV.o.set (i:=0) (u:=.int .i64 p) rfl).rs aC) lI mK) lI mK) lI mK⟩;simp[results,zem,go_sem,er]
 by_cases e1:r=1
 .subst e1
  have zsf:=lQ.o.zb;have Y2:=lQ.o.lo;have mK:=lQ.o.rs.rlo;have aS:¬b=rb:=aC;have zdG:¬rb=b:=aC
  go_wp2_with (go_at_call 88;refine(Vf g _ n c _ 0 3 3 A _ ((lQ.o.alloc _).rs.rd) aC aC aC aQ aC (Ro (xs:=[0,5,9223372036854775807]) (gV _ _) rfl)).mono ?_;rintro e w6 ⟨p,rfl,_,lF,lG⟩;have kV:=aD ((lQ.o.alloc _).grown lF lG);have ec:=aI kV.o.blk;have fc:=rA kV.o.blk;have er:=aI kV.o.rs.res;have fr:=rA kV.o.rs.res;have zb:=kV.o.zb;have zr:=gM kV.o.rs.res;clear lF lG)
  refine nY (v:=.agg #[.int .i64 x1,.int .i64 p,.int .i64 r3]) ?_ rfl ⟨_,_,_,rfl,fB.end1 (fB.end1 (fB.end1 (fB.end0 (kV.o.set (i:=1) (u:=.int .i64 p) rfl).rs aC) lI mK) lI mK) lI mK⟩;simp[results,zem,go_sem,er]
 by_cases e2:r=2
 .subst e2
  have zsf:=lQ.o.zb;have Y2:=lQ.o.lo;have mK:=lQ.o.rs.rlo;have aS:¬b=rb:=aC;have zdG:¬rb=b:=aC
  go_wp2_with (go_at_call 88;refine(Vf g _ n c _ 0 3 3 A _ ((lQ.o.alloc _).rs.rd) aC aC aC aQ aC (Ro (xs:=[0,61,-1]) (gV _ _) rfl)).mono ?_;rintro e w6 ⟨p,rfl,_,lF,lG⟩;have kV:=aD ((lQ.o.alloc _).grown lF lG);have ec:=aI kV.o.blk;have fc:=rA kV.o.blk;have er:=aI kV.o.rs.res;have fr:=rA kV.o.rs.res;have zb:=kV.o.zb;have zr:=gM kV.o.rs.res;clear lF lG)
  refine nY (v:=.agg #[.int .i64 x1,.int .i64 x2,.int .i64 p]) ?_ rfl ⟨_,_,_,rfl,fB.end1 (fB.end1 (fB.end1 (fB.end0 (kV.o.set (i:=2) (u:=.int .i64 p) rfl).rs aC) lI mK) lI mK) lI mK⟩;simp[results,zem,go_sem,er]
 have Yo:(r==0)=false:=by simpa using e0
 have wU:(r==1)=false:=by simpa using e1
 have Gw:(r==2)=false:=by simpa using e2
 clear e0 e1 e2;have ec:=aI lQ.o.blk;have fc:=rA lQ.o.blk;have er:=aI lQ.o.rs.res;have fr:=rA lQ.o.rs.res;have zb:=lQ.o.zb;have zr:=gM lQ.o.rs.res;have Y2:=lQ.o.lo;have aS:¬b=rb:=aC;have zdG:¬rb=b:=aC;have mK:=lQ.o.rs.rlo;go_wp2;refine nY (v:=.agg #[.int .i64 x1,.int .i64 x2,.int .i64 r3]) ?_ rfl ⟨_,_,_,rfl,fB.end1 (fB.end1 (fB.end1 (fB.end0 lQ.o.rs aC) lI mK) lI mK) lI mK⟩;simp[results,zem,go_sem,er]
theorem zFF (g q n c:Nat)(A:Option bC)(w:aE)(h:Rd w g A n c q)(hq:q<900000000):
 gT aK 89 #[.pointer (some ⟨g,0,none⟩)] w (Got3S w g A n c (q+10)):=by
 have lI:=h.gblt;obtain⟨rb,uF⟩:=aN w.heap.size;have mL:=aD uF;have F6:=aD (show fB w g A n c q rb 54 #[.string ⟨#[]⟩,.int .i64 0,.int .i64 0] (w.alloc (.cells #[.string ⟨#[]⟩,.int .i64 0,.int .i64 0] 54)) from⟨h.alloc _,We (zer _ _) _,lI,l6 _ _ uF,aC⟩);clear h
 go_enter Tryz.func89,Tryz.ntmps89
 go_upto_region 1 with fail
 rw[<-uF];clear uF;obtain⟨W1,dC⟩:=aN (w.alloc (.cells #[.string ⟨#[]⟩,.int .i64 0,.int .i64 0] 54));rw[<-dC] at F6⊢;clear dC;have zKs:=gM F6.o.res;have zJH:=F6.o.rlo
 go_upto_region 2 with(go_at_call 107;refine(of_any g q n c _ 0 8 8 A _ (F6.o.alloc _).rd aC aC aC aQ aC (ztc (xs:=[⟨#[114,105,110,103]⟩,⟨#[114,105,110,103]⟩,⟨#[114,105,110,103]⟩,⟨#[97,110,115,119,101,114]⟩,⟨#[97,110,115,119,101,114]⟩,⟨#[104,97,110,103]⟩,⟨#[119,97,105,116]⟩,⟨#[114,101,116,117,114,110]⟩]) (gV _ _) rfl)).mono ?_;rintro e w2 ⟨s,rfl,uM,oV⟩;have jJ:=aD ((F6.o.alloc _).grown uM oV);clear uM oV)
 obtain⟨b,hb⟩:=aN w2.heap.size;rw[<-hb];have jN:=aD (jJ.o.box #[.string s,.int .i64 0,.int .i64 0] hb);obtain⟨W2,n6⟩:=aN (w2.alloc (.cells #[.string s,.int .i64 0,.int .i64 0] 54));rw[<-n6] at jN⊢;clear n6 hb;have ec:=aI jN.o.blk;have fc:=rA jN.o.blk;have zb:=jN.o.zb;have Y2:=jN.o.lo;have mK:=jN.o.rs.rlo
 go_upto_block 0 with fail
 go_cut [] from 10 to 34 (λwx=>∃x y:Int,Aq w g A n c (q+5) rb b 54 #[.string ⟨#[]⟩,.int .i64 0,.int .i64 0] #[.string s,.int .i64 x,.int .i64 y] wx)
 case first=>
  have once:True:=trivial;cases t0:(s.toList==[114,105,110,103])
  .cases t1:(s.toList==[104,97,110,103])
   .cases t2:(s.toList==[119,97,105,116])
    .go_wp2_with (go_at_call 62;refine(Dz g _ n c A _ W2 jN.o.rs.rd aC aC aC).mono ?_;rintro e w3 ⟨r,rfl,⟨r0,r1⟩,lF,lG⟩;have iV:=aD (jN.o.grown lF lG);have ec:=aI iV.o.blk;have fc:=rA iV.o.blk;have zb:=iV.o.zb;clear lF lG)
     go_meet
     exact⟨_,_,(iV.o.set (i:=1) (u:=.int .i64 (1+r)) rfl).wide aC⟩
    .go_wp2_with (go_at_call 88;refine(Vf g _ n c _ 0 5 5 A _ ((jN.o.alloc _).rs.rd) aC aC aC aQ aC (Ro (xs:=[1,2,5,3,60]) (gV _ _) rfl)).mono ?_;rintro e w3 ⟨p,rfl,_,lF,lG⟩;have iV:=aD ((jN.o.alloc _).grown lF lG);have ec:=aI iV.o.blk;have fc:=rA iV.o.blk;have zb:=iV.o.zb;clear lF lG)
     go_meet
     exact⟨_,_,(iV.o.set (i:=1) (u:=.int .i64 p) rfl).wide aC⟩
   .go_wp2_with (go_at_call 62;refine(Dz g _ n c A _ W2 jN.o.rs.rd aC aC aC).mono ?_;rintro e w3 ⟨r,rfl,⟨r0,r1⟩,lF,lG⟩;have iV:=aD (jN.o.grown lF lG);have ec:=aI iV.o.blk;have fc:=rA iV.o.blk;have zb:=iV.o.zb;clear lF lG)
    go_meet
    exact⟨_,_,(iV.o.set (i:=1) (u:=.int .i64 (1+r)) rfl).wide aC⟩
  .go_wp2_with (first
    |(clear once;go_at_call 62;refine(Dz g _ n c A _ W2 jN.o.rs.rd aC aC aC).mono ?_;rintro e w3 ⟨r,rfl,⟨r0,r1⟩,lF,lG⟩;have iV:=aD (jN.o.grown lF lG);have ec:=aI iV.o.blk;have fc:=rA iV.o.blk;have zb:=iV.o.zb;clear lF lG;clear ec fc;have wM:=aD (iV.o.set (i:=1) (u:=.int .i64 (1+r)) rfl);have ec:=aI iV.o.blk;have fc:=rA iV.o.blk)
    |(go_at_call 62;refine(Dz g _ n c A _ (w3.setCell ⟨b,1,none⟩ (.int .i64 (1+r))) wM.o.rs.rd aC aC aC).mono ?_;rintro e w4 ⟨r2,rfl,⟨zjc,ziQ⟩,lF,lG⟩;have tZ:=aD (wM.o.grown lF lG);have ec:=aI tZ.o.blk;have fc:=rA tZ.o.blk;have zb:=tZ.o.zb;clear lF lG))
   go_meet
   exact⟨_,_,(tZ.o.set (i:=2) (u:=.int .i64 r2) rfl).wide aC⟩
 case rest=>
  obtain⟨x,y,aX⟩:=hcut;have lQ:=aD aX;clear aX ec fc zb;obtain⟨W5,xU⟩:=aN wc;rw[<-xU] at lQ⊢;clear xU
  go_upto_block 1 with(go_at_call 62;refine(Dz g _ n c A _ W5 lQ.o.rs.rd aC aC aC).mono ?_;rintro e w6 ⟨r,rfl,⟨r0,r1⟩,lF,lG⟩;have kV:=aD (lQ.o.grown lF lG);have ec:=aI kV.o.blk;have fc:=rA kV.o.blk;have zb:=kV.o.zb;clear lF lG)
  go_cut [] from 37 to 54 (λwx=>∃(s:ByteArray) (x y:Int),Aq w g A n c (q+7) rb b 54 #[.string ⟨#[]⟩,.int .i64 0,.int .i64 0] #[.string s,.int .i64 x,.int .i64 y] wx)
  case first=>
   by_cases e0:r=0
   .subst e0
    go_wp2_with (go_at_call 88;refine(Vf g _ n c _ 0 5 5 A _ ((kV.o.alloc _).rs.rd) aC aC aC aQ aC (Ro (xs:=[0,100,-1,61,5]) (gV _ _) rfl)).mono ?_;rintro e w7 ⟨p,rfl,_,lF,lG⟩;have D5:=aD ((kV.o.alloc _).grown lF lG);have ec:=aI D5.o.blk;have fc:=rA D5.o.blk;have zb:=D5.o.zb;clear lF lG)
    go_meet
    exact⟨_,_,_,(D5.o.set (i:=1) (u:=.int .i64 p) rfl).wide aC⟩
   by_cases e1:r=1
   .subst e1
    go_wp2_with (go_at_call 88;refine(Vf g _ n c _ 0 3 3 A _ ((kV.o.alloc _).rs.rd) aC aC aC aQ aC (Ro (xs:=[1,10,-1]) (gV _ _) rfl)).mono ?_;rintro e w7 ⟨p,rfl,_,lF,lG⟩;have D5:=aD ((kV.o.alloc _).grown lF lG);have ec:=aI D5.o.blk;have fc:=rA D5.o.blk;have zb:=D5.o.zb;clear lF lG)
    go_meet
    exact⟨_,_,_,(D5.o.set (i:=2) (u:=.int .i64 p) rfl).wide aC⟩
   by_cases e2:r=2
   .subst e2
    go_wp2_with (go_at_call 107;refine(of_any g _ n c _ 0 3 3 A _ (kV.o.alloc _).rs.rd aC aC aC aQ aC (ztc (xs:=[⟨#[]⟩,⟨#[114,105,110,103,115]⟩,⟨#[112,117,116]⟩]) (gV _ _) rfl)).mono ?_;rintro e w7 ⟨s',rfl,uM,oV⟩;have D5:=aD ((kV.o.alloc _).grown uM oV);have ec:=aI D5.o.blk;have fc:=rA D5.o.blk;have zb:=D5.o.zb;clear uM oV)
    go_meet
    exact⟨_,_,_,(D5.o.set (i:=0) (u:=.string s') rfl).wide aC⟩
   have Yo:(r==0)=false:=by simpa using e0
   have wU:(r==1)=false:=by simpa using e1
   have Gw:(r==2)=false:=by simpa using e2
   clear e0 e1 e2;go_wp2
   go_meet
   exact⟨_,_,_,kV.o.wide aC⟩
  case rest=>
   obtain⟨s8,x8,y8,aX⟩:=hcut;clear ec fc zb;obtain⟨W8,zsS⟩:=aN wc;rw[<-zsS] at aX⊢;clear zsS;have G4:=aD aX;clear aX;have ec:=aI G4.o.blk;have fc:=rA G4.o.blk;have er:=aI G4.o.rs.res;have fr:=rA G4.o.rs.res;have zb:=G4.o.zb;have zr:=gM G4.o.rs.res;have Y2:=G4.o.lo;have aS:¬b=rb:=aC;have zdG:¬rb=b:=aC;have mK:=G4.o.rs.rlo;go_wp2;refine nY (v:=.agg #[.string s8,.int .i64 x8,.int .i64 y8]) ?_ rfl ⟨_,_,_,rfl,fB.end1 (fB.end1 (fB.end1 (fB.end0 G4.o.rs aC) lI mK) lI mK) lI mK⟩;simp[results,Tryz.results89,go_sem,er]
def zFU:(aK.info? 54).map (λi=>(i.zero,i.size,i.bytes))=some (some (.agg #[.string ⟨#[]⟩,.int .i64 0,.int .i64 0]),3,32):=aU
structure y5 (w0:aE)(g:Nat)(A:Option bC)(n c q:Nat)(v:aF)(k:Nat)(xs:List aF)(b:Nat)(s:ByteArray)(x y:Int)(W:aE):Prop where
 st:qO w0 g A n c q 54 3 v k xs W
 blk:W.heap[b]? =some (.cells #[.string s,.int .i64 x,.int .i64 y] 54)
 lt:∀b',v.ownBlock=some b'->b'<b
 lo:w0.heap.size<=b
section
variable {w0:aE}{g:Nat}{A:Option bC}{n c q:Nat}{v:aF}{k:Nat}{xs:List aF}{b:Nat}{s:ByteArray}{x y:Int}{W W':aE}
def y5.below (h:y5 w0 g A n c q v k xs b s x y W)(hb:cH W.heap.size W W'):y5 w0 g A n c q v k xs b s x y W':=⟨h.st.below hb,(mU hb h.blk).1,h.lt,h.lo⟩
theorem y5.grown {q':Nat}(h:y5 w0 g A n c q v k xs b s x y W)(hr:Rd W' g A n c q')(hg:W.grownBy W' (some g)):y5 w0 g A n c q' v k xs b s x y W':=
 ⟨h.st.grown hr hg,(zgE hg h.blk (by have:=h.st.hg;have:=h.lo;omega)).1,h.lt,h.lo⟩
def y5.wide {q':Nat}(h:y5 w0 g A n c q v k xs b s x y W)(hq:q<=q'):y5 w0 g A n c q' v k xs b s x y W:=⟨h.st.wide hq,h.blk,h.lt,h.lo⟩
theorem y5.set {i:Nat}{u:aF}{s':ByteArray}{x' y':Int}(h:y5 w0 g A n c q v k xs b s x y W)(e:(#[zsu s,.int .i64 x,.int .i64 y]:Array aF).setIfInBounds i u=#[.string s',.int .i64 x',.int .i64 y']):y5 w0 g A n c q v k xs b s' x' y' (W.setCell ⟨b,i,none⟩ u):=
 ⟨h.st.aside (zbP ⟨b,i,none⟩ u) (by
  cases e2:v.ownBlock with
  |none=>exact .inl rfl
  |some b'=>right;intro e3;injection e3 with e3;have:=h.lt b' e2;simp at e3;omega) (λb' e2=>by injection e2 with e2;simp at e2;have:=h.lo;omega),
  by rw[oK h.blk,e],h.lt,h.lo⟩
def y5.zb (h:y5 w0 g A n c q v k xs b s x y W):b<W.heap.size:=gM h.blk
def y5.make (h:qO w0 g A n c q 54 3 v k xs W)(s:ByteArray)(x y:Int):y5 w0 g A n c q v k xs W.heap.size s x y (W.alloc (.cells #[.string s,.int .i64 x,.int .i64 y] 54)):=
 ⟨h.alloc _,gV _ _,λb' e=>(h.own.lt b' e).2,h.hb⟩
end
theorem zDk (es:List dS)(s:ByteArray)(x y:Int):qX (es++[⟨s,x,y⟩])=qX es++[.string s,.int .i64 x,.int .i64 y]:=by simp[qX,dS.cells]
def zte (w:aE)(g:Nat)(A:Option bC)(n c q:Nat)(e:Ig)(w':aE):Prop:=
 ∃(A':Option bC) (n' c':Nat) (es:List dS),e=.returned (.slice A' n' c')/\Bq 54 3 w' w.heap.size w'.heap.size A' n' c' (qX es)/\n'<=20/\Rd w' g A n c q/\w.grownBy w' (some g)
variable {v:aF}{es:List dS}
theorem zEl {q q':Nat}(h:qO w g A n c q 54 3 v k (qX es) W)(hk:k<=20)(hq:q<=q'):zte w g A n c q' (.returned v) W:=by
 obtain⟨A1,c1,rfl,ho⟩:=zhh h.own aH;exact⟨A1,k,c1,es,rfl,ho,hk,h.rd.mono hq,h.gr⟩
theorem zCf (g q n c:Nat)(A:Option bC)(w:aE)(h:Rd w g A n c q)(hq:q<800000000):
 gT aK 61 #[.pointer (some ⟨g,0,none⟩)] w (zte w g A n c (q+200)):=by
 obtain⟨i0,hi,fM,dF,hY⟩:=info_parts zFU;have HI:=aD (And.intro hi (And.intro fM (And.intro dF hY)));clear hi fM dF hY;have D1:=qO.init 54 3 h;have gb:=D1.hg;clear h
 go_enter Tryz.func61,Tryz.ntmps61
 go_wp2_with fail
 refine(Dz g _ n c A _ _ D1.rd aC aC aC).mono ?_;rintro e w2 ⟨r,rfl,⟨r0,r5⟩,hr,hg⟩;have D2:=(D1.grown hr hg).wide (q':=q+194-12*r.toNat) aC;clear D1 hr hg;obtain⟨R,rfl⟩:=Int.eq_ofNat_of_zero_le r0;have Xb:=aD D2;clear D2;go_wp2
 go_loopw [3,4] (λv i wr=>∃(m k:Nat) (es:List dS),i=.int .i64 m/\m+k<=15/\es.length=k/\qO w g A n c (q+194-12*m) 54 3 v k (qX es) wr) (λ_ i _=>(intOf i).toNat)
 case atStart=>exact⟨R,0,[],rfl,aC,rfl,Xb.o⟩
 case round=>
  obtain⟨m,k,es,rfl,zfr,eR,D⟩:=hrel;have HX:=aD eR;clear eR;obtain⟨V,hV⟩:=aN u3;by_cases aT:0<m
  .have z4:=D.hb
   have HD:=aD D;clear D
   go_upto_region 6 with(go_at_call 89;refine(zFF g (q+194-12*m) n c A _ HD.o.rd aC).mono ?_;rintro e w3 ⟨s,x,y,rfl,hr,hg⟩;have Yi:=aD (y5.make (HD.o.grown hr hg) s x y);have zLW:=Yi.o.zb;have ec:=aI Yi.o.blk;clear hr hg)
   go_cut [22] from 9 to 30 (λv wx=>∃t:Bool,v=.bool t/\y5 w g A n c (q+194-12*m+11) u3 k (qX es) w3.heap.size s x y wx)
   case first=>
    obtain⟨t,ht⟩:=aN (rB 2 ⟨s,x,y⟩);have HT:=aD ht;clear ht;cases t
    .go_wp2_with (first
      |(go_at_call 50;refine(zl9 ⟨s,x,y⟩ 2 _).mono ?_;rintro e w4 ⟨rfl,b4⟩;rw[<-HT.o];have zha:=aD (Yi.o.below b4);clear b4)
      |(go_at_call 62;refine(Dz g (q+194-12*m+10) n c A _ _ zha.o.st.rd aC aC aC).mono ?_;rintro e w5 ⟨r2,rfl,⟨zjc,ziQ⟩,uM,oV⟩;have zzx:=aD (zha.o.grown uM oV);clear uM oV))
     all_goals
      go_meet
      exact⟨_,rfl,zzx.o⟩
    .go_wp2_with (go_at_call 50;refine(zl9 ⟨s,x,y⟩ 2 _).mono ?_;rintro e w4 ⟨rfl,b4⟩;rw[<-HT.o];have zha:=aD (Yi.o.below b4);clear b4)
     go_meet
     exact⟨_,rfl,zha.o.wide aC⟩
   case rest=>
    obtain⟨t,rfl,D6⟩:=hcut;have zas:=aD D6;clear D6
    go_upto_if 22 with fail
    go_cut [] from 23 to 30 (λwx=>∃(s':ByteArray) (x' y':Int),y5 w g A n c (q+194-12*m+12) u3 k (qX es) w3.heap.size s' x' y' wx)
    case first=>
     have ec:=aI zas.o.blk;have fc:=rA zas.o.blk;have zb:=zas.o.zb;cases t
     .go_wp2
      go_meet
      exact⟨s,x,y,zas.o.wide aC⟩
     .go_wp2_with (go_at_call 62;refine(Dz g (q+194-12*m+11) n c A _ _ zas.o.st.rd aC aC aC).mono ?_;rintro e w5 ⟨r2,rfl,⟨zjc,ziQ⟩,uM,oV⟩;have Ve:=aD (zas.o.grown uM oV);have ec:=aI Ve.o.blk;have fc:=rA Ve.o.blk;have zb:=Ve.o.zb;clear uM oV)
      go_meet
      exact⟨_,_,_,((Ve.o.set (i:=0) (u:=.string ⟨#[114,105,110,103]⟩) (s':=⟨#[114,105,110,103]⟩) (x':=x) (y':=y) rfl).set (i:=1) (u:=.int .i64 (1+r2)) (s':=⟨#[114,105,110,103]⟩) (x':=1+r2) (y':=y) rfl).set (i:=2) (u:=.int .i64 0) (s':=⟨#[114,105,110,103]⟩) (x':=1+r2) (y':=0) rfl⟩
    case rest=>
     obtain⟨s',x',y',D7⟩:=hcut;have ec:=aI D7.blk;have zb:=D7.zb;have zw:=D7.st.hb;have Ve:=aD D7;obtain⟨hi,fM,dF,hY⟩:=HI.o;have HH:=aD hi;clear hi D7
     go_wp2_with (at_builtin;refine wpList_append_own_at _ rfl _ _ 31 rfl w.heap.size 54 i0 (.agg #[.string ⟨#[]⟩,.int .i64 0,.int .i64 0]) 3 32 Tryz.underlying31 HH.o fM dF hY rfl aH _ _ _ rfl ((Ve.o.st.alloc _).own) ⟨wc.heap.size,0,none⟩ 1 1 [.string s',.int .i64 x',.int .i64 y'] rfl rfl (Ez (cs:=#[.string s',.int .i64 x',.int .i64 y']) (gV _ _)) (by simp[aF.oneCell']) Z7 aC pD ?_;intro v' w6 zxk mV _ _)
     have D8:=((Ve.o.st.alloc _).app zxk mV).wide (q':=q+194-12*(m-1)) aC;have zIi:=aD D8;clear D8 zxk mV fM dF hY;go_wp2;go_roundw
     case rel=>exact⟨m-1,k+1,es++[⟨s',x',y'⟩],int_pred aT,aC,by simp[HX.o],by rw[zDk];exact zIi.o⟩
     case measure=>simp[intOf];omega
  .have em:m=0:=aC
   subst em;have HD:=aD D;clear D;go_wp2;go_ret;exact zEl HD.o aC aC
def zAv {B:Nat}(h:cH B w W)(o:Obj)(hB:B<=W.heap.size):cH B w (W.alloc o):=h.trans ((eK (gD W.heap.size W) o).mono hB)
theorem blk_type {b:Nat}{cs ds:Array aF}{U:aM}{p q:Nat×Nat}(h:w.heap[b]? =some (.cells cs T p))(k:w.heap[c]? =some (.cells ds U q))(aS:T≠U):b≠c:=by
 intro e;subst e;rw[h] at k;injection k with k;injection k with _ k;exact aS k
variable {xs:List aF}{E s:Nat}
theorem zoL {base g n c:Nat}(h:w.ownsRow base E s (.slice (some ⟨g,0,none⟩) n c) n xs):base<=g/\∃cs,w.heap[g]? =some (.cells cs E):=by
 obtain⟨_,h|⟨g',cap,cur,e,h1,h2,h3⟩⟩:=h
 .cases h.1
 .injection e with e1 e2 e3;injection e1 with e1;injection e1 with e1 _;subst e1
  exact⟨h1,cur,h2⟩
def Ha (b:b6)(n:Nat):List Int:=(iL n).map λi:Nat=>dE b.recs ((i:Int)+1)
theorem zwp (b:b6)(n:Nat):Ha b (n+1)=Ha b n++[dE b.recs ((n:Int)+1)]:=by unfold Ha;rw[List.range_succ,List.map_append];rfl
def Oo (o:fG)(es:List dS):List Int:=if eG o es then Ha (uD o es) o.op.toNat else[]
theorem zF9 (o:fG)(lo hi n c:Nat)(A:Option bC)(es:List dS)(w:aE)(h:cJ w lo hi 3 A n c (qX es))(hn:n<=1048576)(zkh:hi<=w.heap.size):
 gT aK 20 #[.agg #[.int .i64 o.ln,.int .i64 o.op,.int .i64 o.pt],.slice A n c] w λx w'=>∃g cl,x=.returned (.slice (some ⟨g,0,none⟩) (Oo o es).length cl)/\
  w'.ownsRow w.heap.size 3 1 (.slice (some ⟨g,0,none⟩) (Oo o es).length cl) (Oo o es).length (fN (Oo o es))/\cH w.heap.size w w':=by
 obtain⟨i0,eY,fM,dF,hY⟩:=info_parts Ye;have HI:=aD (And.intro eY (And.intro fM (And.intro dF hY)));clear eY fM dF hY;obtain⟨O,hO⟩:=aN (.cells #[.int .i64 o.ln,.int .i64 o.op,.int .i64 o.pt] 29:Obj);have jN:=aD (eK (eK (gD w.heap.size w) O) (.cells #[] 3));have mQ:=aD (h.below jN.o);have HO:=aD hO;have hz:((w.alloc O).alloc (.cells #[] 3)).heap.size=w.heap.size+2:=aQ;have HZ:=aD hz;clear h hz hO
 go_enter Tryz.func20,Tryz.ntmps20
 go_upto_region 2 with fail
 rw[<-HO.o];obtain⟨W1,dC⟩:=aN ((w.alloc O).alloc (.cells #[] 3));have hk:=dH (gV w O) (.cells #[] 3);have hg:=gV (w.alloc O) (.cells #[] 3);have es:(w.alloc O).heap.size=w.heap.size+1:=aQ;rw[es] at hg
 try rw[es]
 rw[<-dC] at jN mQ HZ hk hg⊢;rw[HO.o] at hk;have q:=aI hk;obtain⟨q0,q1,q2⟩:=zrE q;clear dC es;have HK:=aD hk;have HG:=aD hg;clear hk hg q
 go_upto_region 3 with(go_at_call 40;refine(zDN o lo hi n c A es W1 mQ.o hn (by have:=HZ.o;omega)).mono ?_;rintro x w2 ⟨v,rfl,bV,sD⟩;obtain⟨r5,eW⟩:=aN (uD o es:b6);obtain⟨t5,pA⟩:=aN (eG o es:Bool);rw[<-eW] at bV⊢;rw[<-pA];have qB:=aD eW;have xK:=aD pA;have wC:=aD bV;have iV:=aD sD;clear eW pA bV sD q0 q1 q2)
 have hz:=HZ.o;have s2:=iV.o.size;have HF:=aD (show cH w.heap.size w (w2.alloc (yJ v r5)) from jN.o.trans (zAv (iV.o.mono aC) _ aC));have zyC:=aD (show(w2.alloc (yJ v r5)).heap[w.heap.size]? =some (.cells #[.int .i64 o.ln,.int .i64 o.op,.int .i64 o.pt] 29) from dH ((iV.o.block _ (gM HK.o)).trans HK.o) _);have zmV:=aD (show(w2.alloc (yJ v r5)).heap[w.heap.size+1]? =some (.cells #[] 3) from dH ((iV.o.block _ (gM HG.o)).trans HG.o) _);have ziK:=aD (gV w2 (yJ v r5));have E6:=aD (wC.o.alloc (yJ v r5)).rc;obtain⟨N,hN⟩:=aN w2.heap.size;obtain⟨W3,qL⟩:=aN (w2.alloc (yJ v r5));rw[<-qL] at HF zyC zmV ziK E6⊢;rw[<-hN] at ziK⊢;clear qL hN hz s2 iV wC HK HG;cases t5
 .go_wp2
  go_loopw [5,8] (λx i wr=>x=.slice (some ⟨w.heap.size+1,0,none⟩) 0 0/\i=.int .i64 1/\wr=W3) (λ_ _ _=>0)
  case atStart=>exact⟨rfl,rfl,rfl⟩
  case round=>
   obtain⟨rfl,rfl,rfl⟩:=hrel;go_wp2;go_ret;have e:Oo o es=[]:=by unfold Oo;rw[if_neg (by rw[<-xK.o];simp)]
   rw[e];exact⟨w.heap.size+1,0,rfl,Md aC zmV.o,HF.o⟩
 .have HE:=aD (show Oo o es=Ha r5 o.op.toNat by unfold Oo;rw[if_pos xK.o.symm,qB.o])
  have hop:=(Aa (show qQ o=true by have h:=xK.o.symm;unfold eG at h;simp at h;exact h.1.1)).2.2;have Pu:=aD hop;obtain⟨m,hm⟩:=aN o.op.toNat;have sG:o.op=(m:Int):=aC;rw[<-hm] at HE;have HM:=aD sG;have Jg:=aD (show r5.recs.length<=1048576 by
   rw[qB.o];unfold uD;rw[if_pos xK.o.symm];have h:=(Hh xK.o.symm es.length (bM _)).2.1.nrec;rw[S7] at h;have:es.length<=60:=by have h:=xK.o.symm;unfold eG at h;simp at h;exact h.1.2
   omega)
  clear hm sG hop;go_wp2
  go_loopw [5,8] (λx i wr=>∃(k g cl:Nat),k<=m/\i=.int .i64 ((k:Int)+1)/\x=.slice (some ⟨g,0,none⟩) k cl/\cH w.heap.size w wr/\wr.ownsRow w.heap.size 3 1 (.slice (some ⟨g,0,none⟩) k cl) k (fN (Ha r5 k))/\wr.heap[w.heap.size]? =some (.cells #[.int .i64 o.ln,.int .i64 o.op,.int .i64 o.pt] 29)/\wr.heap[N]? =some (yJ v r5)/\wr.heap[v.gR]? =W3.heap[v.gR]?) (λ_ i _=>m+1-(intOf i).toNat)
  case atStart=>exact⟨0,w.heap.size+1,0,lU _,rfl,rfl,HF.o,Md aC zmV.o,zyC.o,ziK.o,rfl⟩
  case round=>
   obtain⟨k,g,cl,hk,rfl,rfl,B,cY,Pd,Zx,qS⟩:=hrel;have Jb:=aD cY;have HB:=aD B;have zq8:=aD Pd;have zvX:=aD Zx;have Lm:=aD qS;have zoV:=B.size;have c1:=aI Pd 1;have cR:=aI Zx 4;clear cY B Pd Zx qS;have sG:=HM.o;by_cases aT:k<m
   .have hle:(k:Int)+1<=o.op:=aC
    have zKC:m<=4:=by have:=Pu.o.1;have:=Pu.o.2;omega
    obtain⟨eY,fM,dF,hY⟩:=HI.o;have HH:=aD eY;clear eY sG;have uH:=aD (Av (Bn E6.o Lm.o) aH)
    go_wp2_with (first
     |(go_at_call 45;refine(Qj _ _ _ _ _ r5.recs ((k:Int)+1) _ uH.o Jg.o).mono ?_;rintro y w9 ⟨rfl,jI⟩;obtain rfl:=jI.symm)
     |(at_builtin;refine zln _ rfl (.tmp 25) (.tmp 30) 38 rfl w.heap.size 3 i0 (.int .i64 0) 1 8 Tryz.underlying38 HH.o fM dF hY rfl aH (.slice (some ⟨g,0,none⟩) k cl) k (fN (Ha r5 k)) rfl (Bm Jb.o ?c1) aQ ⟨_,0,none⟩ 1 1 [.int .i64 (dE r5.recs ((k:Int)+1))] rfl rfl ?c2 Lz ?c5 ?c6 ?c7 ?_;(case c1=>exact λb hb=>qA _ _ b hb);(case c2=>exact Ez (cs:=#[.int .i64 (dE r5.recs ((k:Int)+1))]) (l6 _ _ aQ));(case c5=>unfold maxLen;omega);(case c6=>omega);(case c7=>(simp;omega));intro g1 zy6 w1 qZ qJ B1;have Ah:=aD qZ;have zy4:=aD B1;have Sy:=aD qJ;clear qZ qJ B1))
    go_roundw
    case rel=>
     have ne:∀{b:Nat} {cs:Array aF} {T:aM},wr.heap[b]? =some (.cells cs T)->T≠3->w1.heap[b]? =wr.heap[b]? :=λ{b cs T} hb hT=>by
      obtain⟨_,q,hq⟩:=zoL Jb.o;have aS:b≠g:=blk_type hb hq hT;have aT:=gM hb;rw[Sy.o.block b pD (by simp[Gb];exact aS)];exact qA _ _ b aT
     refine⟨k+1,g1,zy6,aC,nE,rfl,(eK HB.o _).trans zy4.o,?_,(ne zq8.o aH).trans zq8.o,(ne zvX.o aH).trans zvX.o,?_⟩
     .have e:fN (Ha r5 (k+1))=fN (Ha r5 k)++[.int .i64 (dE r5.recs ((k:Int)+1))]:=by rw[zwp];simp[fN]
      rw[e];exact Ah.o
     .obtain⟨_,q,hq⟩:=zoL E6.o
      exact(ne (Lm.o.trans hq) aH).trans Lm.o
    case measure=>simp[intOf];omega
   .have e:k=m:=aC
    subst e;have Cc:¬(k:Int)+1<=o.op:=aC;clear sG;go_wp2;go_ret;rw[HE.o];have hl:(Ha r5 k).length=k:=by unfold Ha;simp
    rw[hl];exact⟨g,cl,rfl,Jb.o,HB.o⟩
theorem zCk {o:fG}(h:eG o es=true):es.length<=60:=by
 unfold eG at h;simp at h;exact h.1.2
theorem ztD (o:fG)(es:List dS):(Fx o es).length<=60:=by
 unfold Fx uD;split
 .next h=>
  have:=(Hh h es.length (bM _)).2.1.nl;rw[S7] at this;have:=zCk h;omega
 .simp[lV]
theorem zuc (o:fG)(es:List dS):(Ae o es).length<=60:=by
 unfold Ae;split
 .next h=>
  rw[Ya];unfold eG qQ at h;simp at h;omega
 .simp
variable {lo:Nat}
theorem zfB (h:w.ownsRow lo E s v n xs)(hs:0<s)(hl:n<=1048576):∃A m c,v=.slice A m c/\m<=1048576/\Bq E s w lo w.heap.size A m c xs:=by
 obtain⟨A,c,e,o⟩:=zhh h hs;exact⟨A,n,c,e,hl,o⟩
def logs_len (o:fG)(es:List dS):(Fx o es).length<=1048576:=eE (ztD o es) aC
theorem zp1 (b:b6):∀n,H6 b n=Ha b n
 |0=>rfl
 |n+1=>by rw[zwp,<-zp1 b n];rfl
theorem zzs (o:fG)(es:List dS):(if eG o es then Ha (uD o es) o.op.toNat else[])=Ae o es:=by
 unfold Ae;split
 .next h=>
  rw[zp1];have:uD o es=Ee o es:=by unfold uD;rw[if_pos h]
  rw[this]
 .rfl
variable {hi:Nat}
theorem zpE (o:fG)(h:cJ w lo hi 3 A n c (qX es))(hn:n<=1048576)(zkh:hi<=w.heap.size):
 gT aK 20 #[.agg #[.int .i64 o.ln,.int .i64 o.op,.int .i64 o.pt],.slice A n c] w λx w'=>∃A n c,x=.returned (.slice A n c)/\n<=1048576/\Bq 3 1 w' w.heap.size w'.heap.size A n c (fN (Ae o es))/\cH w.heap.size w w':=by
 refine(zF9 o lo hi n c A es w h hn zkh).mono ?_;rintro x w' ⟨g,c',rfl,hr,hb⟩;rw[show Oo o es=Ae o es from zzs o es] at hr⊢;obtain⟨A',m,c2,e,l,ow⟩:=zfB hr aH (eE (zuc o es) aC);injection e with e1 e2 e3;subst e1 e2 e3;exact⟨_,_,_,rfl,l,ow,hb⟩
def Fw {rb i:Nat}{u:aF}(h:Bq E s W lo hi A n c xs)(hb:rb<lo):Bq E s (W.setCell ⟨rb,i,none⟩ u) lo hi A n c xs:=
 h.keep aQ (λx h1 _ _=>dX W _ _ x tV)
def ownV_gb {w':aE}(h:Bq E s w lo hi A n c xs)(hg:w.grownBy w' (some g))(eL:g<lo):Bq E s w' lo hi A n c xs:=
 h.keep hg.size λb h1 _ h3=>hg.block b h3 pD
def GotBoth6 (w:aE)(g:Nat)(A:Option bC)(n c q:Nat)(e:Ig)(w':aE):Prop:=
 ∃(x y z:Int) (A2:Option bC) (n2 c2:Nat) (es:List dS),e=.returned (.tuple #[.agg #[.int .i64 x,.int .i64 y,.int .i64 z],.slice A2 n2 c2])/\Bq 54 3 w' w.heap.size w'.heap.size A2 n2 c2 (qX es)/\n2<=20/\Rd w' g A n c q/\w.grownBy w' (some g)
theorem zGh (g q n c:Nat)(A:Option bC)(w:aE)(h:Rd w g A n c q)(hq:q<700000000):
 gT aK 47 #[.pointer (some ⟨g,0,none⟩)] w (GotBoth6 w g A n c (q+230)):=by
 have lI:=h.gblt;obtain⟨rb,uF⟩:=aN w.heap.size;have mL:=aD uF;have F6:=aD (show fB w g A n c q rb 29 #[.int .i64 0,.int .i64 0,.int .i64 0] (w.alloc (.cells #[.int .i64 0,.int .i64 0,.int .i64 0] 29)) from⟨h.alloc _,We (zer _ _) _,lI,l6 _ _ uF,aC⟩);clear h
 go_enter Tryz.func47,Tryz.ntmps47
 go_upto_region 1 with fail
 rw[<-uF];clear uF;obtain⟨W1,dC⟩:=aN (w.alloc (.cells #[.int .i64 0,.int .i64 0,.int .i64 0] 29));rw[<-dC] at F6⊢;clear dC
 go_upto_region 2 with(go_at_call 60;refine(zDY g q n c A W1 F6.o.rd aC).mono ?_;rintro e w2 ⟨x,y,z,rfl,uM,oV⟩;have jJ:=aD (F6.o.grown uM oV);clear uM oV)
 obtain⟨b,hb⟩:=aN w2.heap.size;rw[<-hb];have jN:=aD (jJ.o.box #[.int .i64 x,.int .i64 y,.int .i64 z] hb);obtain⟨W2,n6⟩:=aN (w2.alloc (.cells #[.int .i64 x,.int .i64 y,.int .i64 z] 29));rw[<-n6] at jN⊢;have Fo:rb<W2.heap.size:=gM jN.o.rs.res;have zmd:b<W2.heap.size:=jN.o.zb;have zeI:g<W2.heap.size:=by have:=jN.o.rs.gr.size;omega
 clear n6 hb
 go_upto_region 3 with(go_at_call 61;refine(zCf g (q+10) n c A W2 jN.o.rs.rd aC).mono ?_;rintro e w3 ⟨A2,n2,c2,es,rfl,zo9,zjA,G8,Bh⟩;have wM:=aD (jN.o.grown G8 Bh);have Y9:=aD zo9;have zeu:=Bh.size;clear zo9 G8 Bh)
 have ec:=aI wM.o.blk;have fc:=rA wM.o.blk;have er:=aI wM.o.rs.res;have fr:=rA wM.o.rs.res;have zb:=wM.o.zb;have zr:=gM wM.o.rs.res;have Y2:=wM.o.lo;have aS:¬b=rb:=aC;have zdG:¬rb=b:=aC;have mK:=wM.o.rs.rlo;cases hy:(y==1)
 .go_wp2
  refine nY (v:=.tuple #[.agg #[.int .i64 x,.int .i64 y,.int .i64 z],.slice A2 n2 c2]) ?_ rfl ?_
  .simp[results,zlC,go_sem,er]
  .exact⟨x,y,z,A2,n2,c2,es,rfl,(Fw (Fw (Fw Y9.o Fo) Fo) Fo).wide aC (by simp;try omega),zjA,(fB.end1 (fB.end1 (fB.end1 (fB.end0 (q':=q+230) wM.o.rs aC) lI mK) lI mK) lI mK).1,(fB.end1 (fB.end1 (fB.end1 (fB.end0 (q':=q+230) wM.o.rs aC) lI mK) lI mK) lI mK).2⟩
 .go_wp2_with (go_at_call 62;refine(Dz g _ n c A _ w3 wM.o.rs.rd aC aC aC).mono ?_;rintro e w4 ⟨r,rfl,⟨r0,r1⟩,Ni,Hn⟩;have tZ:=aD (wM.o.grown Ni Hn);have Uq:=aD (ownV_gb Y9.o Hn zeI);have zJO:=Hn.size;have ec:=aI tZ.o.blk;have fc:=rA tZ.o.blk;have er:=aI tZ.o.rs.res;have fr:=rA tZ.o.rs.res;have zb:=tZ.o.zb;have zr:=gM tZ.o.rs.res;clear Ni Hn)
  .
    refine nY (v:=.tuple #[.agg #[.int .i64 x,.int .i64 2,.int .i64 z],.slice A2 n2 c2]) ?_ rfl ?_
    .simp[results,zlC,go_sem,er]
    .exact⟨x,2,z,A2,n2,c2,es,rfl,(Fw (Fw (Fw (Fw (i:=1) (u:=.int .i64 2) Uq.o zmd) Fo) Fo) Fo).wide aC (by simp;try omega),zjA,(fB.end1 (fB.end1 (fB.end1 (fB.end0 (q':=q+230) (tZ.o.set (i:=1) (u:=.int .i64 2) rfl).rs aC) lI mK) lI mK) lI mK).1,(fB.end1 (fB.end1 (fB.end1 (fB.end0 (q':=q+230) (tZ.o.set (i:=1) (u:=.int .i64 2) rfl).rs aC) lI mK) lI mK) lI mK).2⟩
  .
    refine nY (v:=.tuple #[.agg #[.int .i64 x,.int .i64 y,.int .i64 z],.slice A2 n2 c2]) ?_ rfl ?_
    .simp[results,zlC,go_sem,er]
    .exact⟨x,y,z,A2,n2,c2,es,rfl,(Fw (Fw (Fw Uq.o Fo) Fo) Fo).wide aC (by simp;try omega),zjA,(fB.end1 (fB.end1 (fB.end1 (fB.end0 (q':=q+230) tZ.o.rs aC) lI mK) lI mK) lI mK).1,(fB.end1 (fB.end1 (fB.end1 (fB.end0 (q':=q+230) tZ.o.rs aC) lI mK) lI mK) lI mK).2⟩
def DrewOff (w:aE)(e:Ig)(w':aE):Prop:=
 ∃(o:fG) (A2:Option bC) (n2 c2:Nat) (es:List dS),e=.returned (.tuple #[.agg #[.int .i64 o.ln,.int .i64 o.op,.int .i64 o.pt],.slice A2 n2 c2])/\Bq 54 3 w' w.heap.size w'.heap.size A2 n2 c2 (qX es)/\n2<=20/\cH w.heap.size w w'
theorem zHv (A:Option bC)(n c:Nat)(w:aE)(h:Code w A n c):gT aK 36 #[.slice A n c] w (DrewOff w):=by
 obtain⟨O,hO⟩:=aN (.cells #[.int .i64 0,.int .i64 0,.int .i64 0] 29:Obj);obtain⟨rb,uF⟩:=aN w.heap.size;have mL:=aD uF;have HO:=aD hO;have Ab:=aD (l6 w O uF);have Ra:=aD (eK (gD w.heap.size w) O);have fM:(w.alloc O).heap.size=rb+1:=by rw[uF];simp
 have zoT:=aD (h.alloc O);obtain⟨W0,H7⟩:=aN (w.alloc O);have zaE:=aD H7;rw[<-H7] at Ab Ra fM zoT;have zwH:=aD fM;clear h H7 fM hO
 go_enter Tryz.func36,Tryz.ntmps36
 go_upto_region 1 with fail
 rw[<-uF,<-HO.o,<-zaE.o];clear uF
 go_wp2_with (first
  |(go_at_call 48;refine(zIS _ _ _ W0 zoT.o).mono ?_;rintro e w1 ⟨g,A1,n1,c1,rfl,r1,b1,g0⟩;have jJ:=aD r1;have jN:=aD b1;have pB:=aD g0;clear r1 b1 g0)
  |(go_at_call 47;refine(zGh g 0 n1 c1 A1 w1 jJ.o aC).mono ?_;rintro e w2 ⟨x,y,z,A2,n2,c2,es,rfl,o2,Qb,r2,g2⟩;have rL:=(zgE g2 (mU jN.o Ab.o).1 (by have:=pB.o;have:=zwH.o;omega)).1;rw[HO.o] at rL;have zaU:=aD o2;have zCv:=aD g2;have zm2:=aD rL;have er:=aI rL;have fr:=rA rL;have zr:=gM rL;clear o2 r2 g2 rL))
 refine nY (v:=.tuple #[.agg #[.int .i64 x,.int .i64 y,.int .i64 z],.slice A2 n2 c2]) ?_ rfl ?_
 .simp[results,Tryz.results36,go_sem,er]
 .have hw:=mL.o
  have fM:=zwH.o;have dF:=jN.o.size;have qU:=pB.o;have h1:=Ra.o.trans (jN.o.mono aC);have h2:=h1.trans (zH1 zCv.o aC aC);have h3:Chg rb (rb+1) w2 _:=((((Chg.refl rb (rb+1) w2).setCell (p:=⟨rb,0,none⟩) (bM _) (y4 _) (.int .i64 x)).setCell (p:=⟨rb,1,none⟩) (bM _) (y4 _) (.int .i64 y)).setCell (p:=⟨rb,2,none⟩) (bM _) (y4 _) (.int .i64 z));have Fo:rb<w1.heap.size:=aC;exact⟨⟨x,y,z⟩,A2,n2,c2,es,rfl,(Fw (Fw (Fw zaU.o Fo) Fo) Fo).wide aC aQ,Qb,h2.trans ⟨h3.os,h3.tape,h3.output,h3.size,λB hB=>h3.block B aC aC⟩⟩
theorem zA2 (lo hi n c xY lS n' c':Nat)(A A':Option bC)(xs ys:List Int)(w:aE)(h:cJ w lo hi 1 A n c (fN xs))(h':cJ w xY lS 1 A' n' c' (fN ys))(hn:n<=1048576)(vZ:n'<=1048576):
 gT aK 37 #[.slice A n c,.slice A' n' c'] w (SaysB w (xs==ys)):=by
 have hl:=aD h.length;have Aw:=aD h'.length
 go_enter Tryz.func37,Tryz.ntmps37
 go_wp2
 go_loopw [5] (λi wr=>∃k:Nat,k<=n/\k<=n'/\i=.int .i64 k/\(∃m,wr=w.drewN m)/\∀j,j<k->xs[j]? =ys[j]?) (λi _=>n-(intOf i).toNat)
 case atStart=>exact⟨0,lU _,lU _,rfl,⟨0,rfl⟩,λj hj=>absurd hj aC⟩
 case round=>
  obtain⟨k,hk,cZ,rfl,⟨m,rfl⟩,gS⟩:=hrel;have HC:=aD gS;clear gS;by_cases aT:k<n
  .by_cases zjx:k<n'
   .obtain⟨b,off,v,rfl,_,_,h3,eR,hv⟩:=h.cellAt aT
    obtain⟨b',zKx,v',rfl,_,_,zuF,Hw,Mi⟩:=h'.cellAt zjx;have HX:=aD eR;have ztL:=aD Hw;clear eR Hw h h';have i0:(0:Int)<=(k:Int):=aC;have i1:(k:Int)<(n:Int):=aC;have i2:(k:Int)<(n':Int):=aC;by_cases rI:v=v'
    .have hb:(v !=v')=false:=by simp[rI]
     have HV:=aD rI;clear rI;go_wp2
     go_quiet (fail)
     go_wp2;go_roundw
     case rel=>exact⟨k+1,aC,aC,nE,⟨_,rfl⟩,λj hj=>by
      by_cases e:j=k
      .subst e;rw[HX.o,ztL.o,HV.o]
      .exact HC.o j aC⟩
     case measure=>simp[intOf];omega
    .have hb:(v !=v')=true:=by simp[rI]
     have HV:=aD rI;clear rI;go_wp2
     go_quiet (fail)
     go_wp2;go_ret;exact⟨Lt (zzj HX.o ztL.o HV.o).symm,_,by first|rfl|exact aE.drewN_drewN _ _ _⟩
   .have HN:=aD (show(xs==ys)=false by
     rw[beq_eq_false_iff_ne];intro e;have:=congrArg zpG e;rw[hl.o,Aw.o] at this;omega)
    have hq:((n:Int)==(n':Int))=false:=by rw[beq_eq_false_iff_ne];omega
    clear h h';go_wp2;go_ret;exact⟨Lt HN.o.symm,_,rfl⟩
  .have e:k=n:=aC
   have HE:=aD e;clear e h h';by_cases hq:n=n'
   .have Kr:((n:Int)==(n':Int))=true:=by rw[beq_iff_eq];omega
    have HQ:=aD hq;clear hq;go_wp2;go_ret;exact⟨Lt (zEF (by rw[hl.o,Aw.o,HQ.o]) (by rw[hl.o,<-HE.o];exact HC.o)).symm,_,rfl⟩
   .have Kr:((n:Int)==(n':Int))=false:=by rw[beq_eq_false_iff_ne];omega
    have HN:=aD (show(xs==ys)=false by
     rw[beq_eq_false_iff_ne];intro e;have:=congrArg zpG e;rw[hl.o,Aw.o] at this;omega)
    clear hq;go_wp2;go_ret;exact⟨Lt HN.o.symm,_,rfl⟩
open Go.RowKit
end Go.Proofs.YtfcjiloojkjaeaaGreatDoor
namespace Go.Mt
open Go.RowKit Go.Conc Go.Tt
end Go.Mt
namespace Go.Proofs.YtfcjiloojkjaeaaGreatDoor
open Go.RowKit Go.Mt Go.Conc Go.Tt
structure RfC where
 o:fG
 es:List dS
 g:Nat
 A:Option bC
 n:Nat
 c:Nat
abbrev offO (o:fG):Obj:=.cells #[.int .i64 o.ln,.int .i64 o.op,.int .i64 o.pt] 29
structure Mk (c:RfC)(w:aE):Prop where
 k:w.heap[c.g]? =some (offO c.o)
 e:cJ w 0 w.heap.size 3 c.A c.n c.c (qX c.es)
 t:qF w
 u:x5 w
 n20:c.n<=20
section
variable {c:RfC}{w w':aE}
def Mk.bl (h:Mk c w)(k:Bl w.heap.size w w'):Mk c w':=⟨(k.block _ (gM h.k)).trans h.k,h.e.bl k,h.t.bls k (bM _),h.u.bls k (bM _),h.n20⟩
def Mk.below (h:Mk c w)(k:cH w.heap.size w w'):Mk c w':=h.bl ⟨k.size,k.block⟩
def Mk.tp (h:Mk c w)(T:kI)(e:Nat):Mk c (Tt.tp w T e):=⟨h.k,h.e.tp T e,Nx rfl h.t,h.u,h.n20⟩
variable {A:Option bC}{xs:List aF}
def cJ.belowZ {s n m:Nat}(h:cJ w 0 w.heap.size s A n m xs)(k:cH w.heap.size w w'):cJ w' 0 w'.heap.size s A n m xs:=h.bl ⟨k.size,k.block⟩
def cJ.tpZ {s n m:Nat}(h:cJ w 0 w.heap.size s A n m xs)(T:kI)(e:Nat):cJ (Tt.tp w T e) 0 (Tt.tp w T e).heap.size s A n m xs:=h.tp T e
def below_dN (w:aE)(m:Nat):cH w.heap.size w (w.drewN m):=below_drewN m
end
section
variable {p:Program}{op gs gs₁ fs:aP->Bool}{St:Nat->Prop}{W0:aE}{Post:aF->aE->Prop}
theorem JO.ld (L:Lv p op gs gs₁ fs){fn:aP}{tmps T':Array aF}{ops:Array aZ}{i:Nat}{rest:List Nat}{k:List dZ}{ms:List Fm}{w:aE}{o:aZ}{b:Nat}{cs:Array aF}{T:aM}{fz:Nat×Nat}{t:aM}{x:cN}{d:TypeDesc}(hf:op fn=false)(hb:w.heap[b]? =some (.cells cs T fz))(hu:p.underlying t=some d)(h:JL p op gs fs St W0 Post ⟨fn,T',.inRegion ops rest::k,false⟩ ms w)(ho:ops[i]? =some o:=by exact zcl rfl (by conv=>lhs;whnf))
 (hop:o.op=.load t x:=by exact rfl) (hx:(bL tmps []).eval x=.pointer (some ⟨b,0,none⟩):=by exact rfl) (hd:d.isRow=true:=by exact rfl) (hi:(p.info? t).map (·.size)=some cs.size:=by kernel_rfl) (cG:dI o (dL ops tmps)=true:=by exact rfl)
 (ht:(cE ⟨tmps,[]⟩ o.dst (.agg cs)).tmps=T':=by first|(simp only[Go.Act.put,List.setIfInBounds_toArray,List.set_cons_zero,List.set_cons_succ];done)|(simp only[Go.Act.put,List.setIfInBounds_toArray,List.set_cons_zero,List.set_cons_succ];rfl)):JL p op gs fs St W0 Post ⟨fn,tmps,.inRegion ops (i::rest)::k,false⟩ ms w:=
 JO.opv L hf ho cG (λT' e=>zB0 (w:=Tt.tp w T' e) hop hb hx hu hd hi) (ht▸h)
end
end Go.Proofs.YtfcjiloojkjaeaaGreatDoor
namespace Go.Proofs.YtfcjiloojkjaeaaGreatDoor
open Go.RowKit
def QEnd (pt:Int)(d:bO):Prop:=
 (d.e=vT/\d.h≠-1/\d.h<=d.t)\/(d.e=vS/\d.h= -1)\/(d.e=uK/\d.h= -1/\pt<=d.t-d.f)
structure Ta (clk pt ln op:Int)(d:bO):Prop where
 l:1<=d.l/\d.l<=ln
 o:0<=d.o/\d.o<=op
 f:0<=d.f/\d.f<=clk
 c:1<=d.c
 ho:d.h= -1↔d.o=0
 hf:d.h≠-1->d.f<=d.h/\d.h<=clk
 hm: -1<=d.h
 st:(cU d=true/\d.t= -1)\/(cU d=false/\d.f<=d.t/\d.t<=clk/\QEnd pt d)
def nU (d:bO):Bool:=cU d&&decide (0<=d.h)
def oG (d:bO):Bool:=decide (d.e=vT)
def Bf (d:bO):Bool:=decide (d.e=uK)
structure yV (b:b6):Prop where
 rec_:∀d∈b.recs,Ta b.clk b.o.pt b.o.ln b.o.op d
 pair:∀(i j:Nat) (d e:bO),i<j->b.recs[i]? =some d->b.recs[j]? =some e->d.f<=e.f/\((d.l=e.l\/d.c=e.c)->cU d=false/\d.t<=e.f)
variable {clk pt ln op:Int}{d:bO}
theorem Ta.le {zpD:Int}(h:Ta clk pt ln op d)(hc:clk<=zpD):Ta zpD pt ln op d:=
 ⟨h.l,h.o,⟨h.f.1,by have:=h.f.2;omega⟩,h.c,h.ho,λx=>⟨(h.hf x).1,by have:=(h.hf x).2;omega⟩,h.hm,h.st.imp id λx=>⟨x.1,x.2.1,by have:=x.2.2.1;omega,x.2.2.2⟩⟩
def vB (t:List UInt8):Bool:=decide (4<t.length)&&(t.take 4==[99,97,108,108])
def xM (t:List UInt8):Bool:=t==[100,111,110,101]
def D3 (k:List UInt8)(t:List UInt8):Int:=
 if k=Cj/\t=[98,117,115,121] then 1 else if t=[111,102,102] then-1
 else if k=Dj/\t≠[116,97,108,107,115]/\t≠[110,111,110,101]/\t≠[98,117,115,121] then-1 else 0
variable {p:bO->Bool}
theorem znK {f:bO->bO}:∀{rs:List bO} {i:Nat} {d:bO},rs[i]? =some d->(rs.modify i f).countP p+(if p d then 1 else 0)=rs.countP p+(if p (f d) then 1 else 0)
 |[],i,d,h=>by simp at h
 |r::rs,0,d,h=>by grind
 |r::rs,i+1,d,h=>by
  have h:rs[i]? =some d:=by simpa using h
  rw[List.modify_succ_cons,Nh,Nh];have:=znK (f:=f) h;omega
theorem hrd_of (h:Ta clk pt ln op d):nU d=(cU d&&decide (d.h≠-1)):=by
 unfold nU;congr 1;have:=h.hm;by_cases e:d.h= -1
 .rw[e];rfl
 .rw[decide_eq_true aC,decide_eq_true e]
theorem zbW (h:cU d=true):oG d=false/\Bf d=false:=by
 unfold cU at h;unfold oG Bf;constructor
 .rw[decide_eq_false_iff_not];intro e;rw[e] at h;rw[Y0] at h;cases h
 .rw[decide_eq_false_iff_not];intro e;rw[e] at h;rw[zaq] at h;cases h
theorem zpJ:¬vT=uK:=by decide+kernel
theorem zBR:¬vS=vT:=by decide+kernel
theorem zAa:¬vS=uK:=by decide+kernel
structure Cnts (rs E7:List bO)(dh dd dt:Int):Prop where
 hr:(E7.countP nU:Int)=rs.countP nU+dh
 dn:(E7.countP oG:Int)=rs.countP oG+dd
 tr:(E7.countP Bf:Int)=rs.countP Bf+dt
variable {b:b6}{c:Int}{wait back:List bH}{log:List (List UInt8)}
theorem yV.more (h:yV b)(hs:fP b){l o hh:Int}(hc:gU b.recs c=none)(hl:∀(i:Nat) (d:bO),b.recs[i]? =some d->cU d=true->d.l≠l)(kR:0<=b.clk)(c1:1<=c)(l1:1<=l/\l<=b.o.ln)(ho:(o=0/\hh= -1)\/(1<=o/\o<=b.o.op/\hh=b.clk))(hop:1<=b.o.op):
 yV {b with recs:=b.recs++[⟨c,l,o,b.clk,hh,-1,eP⟩],wait:=wait,back:=back,log:=log}/\Cnts b.recs (b.recs++[⟨c,l,o,b.clk,hh,-1,eP⟩]) (if o=0 then 0 else 1) 0 0:=by
 have op:cU ⟨c,l,o,b.clk,hh,-1,eP⟩=true:=by unfold cU;rw[zbq];rfl
 refine⟨⟨λd hd=>?_,λi j d e rC hi hj=>?_⟩,?_⟩
 .rcases Fq.1 hd with hd|hd
  .exact h.rec_ d hd
  .obtain rfl:=yM.1 hd
   exact⟨l1,by simp only;omega,by simp only;omega,c1,by simp only;omega,λx=>by simp only at x⊢;omega,by simp only;omega,.inl ⟨op,rfl⟩⟩
 .rcases Gy hj with⟨Kf,Py⟩|⟨rfl,rfl⟩
  .rcases Gy hi with⟨yN,Dn⟩|⟨rfl,rfl⟩
   .exact h.pair i j d e rC Dn Py
   .omega
  .rcases Gy hi with⟨yN,Dn⟩|⟨rfl,rfl⟩
   .have q:=h.rec_ d (eI Dn)
    refine⟨q.f.2,λhx=>?_⟩;rcases q.st with⟨q1,q2⟩|⟨q1,q2,q3,_⟩
    .rcases hx with hx|hx
     .exact absurd hx (hl i d Dn q1)
     .exact absurd hx (Ju hc i d Dn q1)
    .exact⟨q1,q3⟩
   .omega
 .refine⟨?_,?_,?_⟩
  .rw[Kc,Zq]
   unfold nU;rw[op];rcases ho with⟨rfl,rfl⟩|⟨h1,h2,rfl⟩
   .simp
   .rw[if_neg (by omega:¬o=0)]
    simp[kR]
  .rw[Kc,Zq,(zbW op).1];simp
  .rw[Kc,Zq,(zbW op).2];simp
variable {i:Nat}
theorem yV.ended (h:yV b)(hs:fP b)(hd:b.recs[i]? =some d)(Et:cU d=true){e:ByteArray}(he:(e.toList==[111,112,101,110])=false)(kR:0<=b.clk)(hq:QEnd b.o.pt {d with t:=b.clk,e:=e}):
 yV {b with recs:=vY b i e,wait:=wait,back:=back,log:=log}/\Cnts b.recs (vY b i e) (if d.h= -1 then 0 else-1) (if e=vT then 1 else 0) (if e=uK then 1 else 0):=by
 have aS:cU {d with t:=b.clk,e:=e}=false:=he;have qd:=h.rec_ d (eI hd);have zeh:∀z:bO,cU {z with t:=b.clk,e:=e}=false:=λz=>he;refine⟨⟨λz hz=>?_,λp q x y zk0 hp Kr=>?_⟩,?_⟩
 .obtain⟨j,hj⟩:=yY.1 hz
  obtain⟨u,h1,⟨e1,rfl⟩|⟨e1,rfl⟩⟩:=y6 hj
  .subst e1
   rw[hd] at h1;injection h1 with h1;subst h1;exact⟨qd.l,qd.o,qd.f,qd.c,qd.ho,qd.hf,qd.hm,.inr ⟨aS,qd.f.2,zdj _,hq⟩⟩
  .exact h.rec_ z (eI h1)
 .obtain⟨u,h1,e1⟩:=y6 hp
  obtain⟨v,h2,e2⟩:=y6 Kr;have zbs:=h.pair p q u v zk0 h1 h2;have Gw:y.f=v.f/\y.l=v.l/\y.c=v.c:=by rcases e2 with⟨_,rfl⟩|⟨_,rfl⟩<;>exact⟨rfl,rfl,rfl⟩
  rw[Gw.1,Gw.2.1,Gw.2.2];rcases e1 with⟨ep,rfl⟩|⟨_,rfl⟩
  .subst ep
   rw[hd] at h1;injection h1 with h1;subst h1;refine⟨zbs.1,λhx=>?_⟩;have:=(zbs.2 hx).1;rw[Et] at this;cases this
  .exact zbs
 .have m:=λp=>znK (p:=p) (f:=λd=>{d with t:=b.clk,e:=e}) hd
  have hh:nU {d with t:=b.clk,e:=e}=false:=by unfold nU;rw[aS];rfl
  refine⟨?_,?_,?_⟩
  .have:=m nU
   rw[hrd_of qd,Et,hh] at this;show((Rq _ _ _).countP nU:Int)=_;by_cases hx:d.h= -1
   .rw[if_pos hx]
    simp[hx] at this;omega
   .rw[if_neg hx]
    simp[hx] at this;omega
  .have:=m oG
   rw[(zbW Et).1] at this;show((Rq _ _ _).countP oG:Int)=_;have e1:oG {d with t:=b.clk,e:=e}=decide (e=vT):=rfl;rw[e1] at this;by_cases hx:e=vT
   .rw[if_pos hx];rw[decide_eq_true hx] at this;simp only[if_true,iA,if_false] at this;omega
   .rw[if_neg hx];rw[decide_eq_false hx] at this;simp only[iA,if_false] at this;omega
  .have:=m Bf
   rw[(zbW Et).2] at this;show((Rq _ _ _).countP Bf:Int)=_;have e1:Bf {d with t:=b.clk,e:=e}=decide (e=uK):=rfl;rw[e1] at this;by_cases hx:e=uK
   .rw[if_pos hx];rw[decide_eq_true hx] at this;simp only[if_true,iA,if_false] at this;omega
   .rw[if_neg hx];rw[decide_eq_false hx] at this;simp only[iA,if_false] at this;omega
theorem yV.heard (h:yV b)(hd:b.recs[i]? =some d)(Et:cU d=true)(h0:d.o=0)(hop:1<=op/\op<=b.o.op)(kR:0<=b.clk):
 yV {b with recs:=b.recs.modify i λd=>{d with o:=op,h:=b.clk},wait:=wait,back:=back,log:=log}/\Cnts b.recs (b.recs.modify i λd=>{d with o:=op,h:=b.clk}) 1 0 0:=by
 have qd:=h.rec_ d (eI hd);have fR:cU {d with o:=op,h:=b.clk}=true:=Et;refine⟨⟨λz hz=>?_,λp q x y zk0 hp hq=>?_⟩,?_⟩
 .obtain⟨j,hj⟩:=yY.1 hz
  obtain⟨u,h1,⟨e1,rfl⟩|⟨e1,rfl⟩⟩:=y6 hj
  .subst e1
   rw[hd] at h1;injection h1 with h1;subst h1;refine⟨qd.l,by simp only;omega,qd.f,qd.c,by simp only;omega,λ_=>⟨qd.f.2,zdj _⟩,by simp only;omega,?_⟩;rcases qd.st with q|q
   .exact .inl q
   .rw[q.1] at Et;cases Et
  .exact h.rec_ z (eI h1)
 .obtain⟨u,h1,e1⟩:=y6 hp
  obtain⟨v,h2,e2⟩:=y6 hq;have zbs:=h.pair p q u v zk0 h1 h2;have wU:x.f=u.f/\x.l=u.l/\x.c=u.c/\x.t=u.t/\cU x=cU u:=by rcases e1 with⟨_,rfl⟩|⟨_,rfl⟩<;>exact⟨rfl,rfl,rfl,rfl,rfl⟩
  have Gw:y.f=v.f/\y.l=v.l/\y.c=v.c:=by rcases e2 with⟨_,rfl⟩|⟨_,rfl⟩<;>exact⟨rfl,rfl,rfl⟩
  rw[wU.1,wU.2.1,wU.2.2.1,wU.2.2.2.1,wU.2.2.2.2,Gw.1,Gw.2.1,Gw.2.2];exact zbs
 .have m:=λp=>znK (p:=p) (f:=λd=>{d with o:=op,h:=b.clk}) hd
  have hh:d.h= -1:=qd.ho.2 h0;refine⟨?_,?_,?_⟩
  .have:=m nU
   rw[hrd_of qd,Et,hh] at this;have e:nU {d with o:=op,h:=b.clk}=true:=by unfold nU;rw[fR];simp[kR]
   rw[e] at this;simp at this;omega
  .have:=m oG
   have e:oG {d with o:=op,h:=b.clk}=oG d:=rfl;rw[e] at this;omega
  .have:=m Bf
   have e:Bf {d with o:=op,h:=b.clk}=Bf d:=rfl;rw[e] at this;omega
structure rH (b:b6)(k:List UInt8)(bt:b6×List UInt8):Prop where
 inv:yV bt.1
 op:bt.1.o=b.o
 log:bt.1.log=b.log
 dn:(bt.1.recs.countP oG:Int)=b.recs.countP oG+(if xM bt.2 then 1 else 0)
 cl:(bt.1.recs.countP nU:Int)+bt.1.recs.countP oG=b.recs.countP nU+b.recs.countP oG+(if vB bt.2 then 1 else 0)
 bk:(bt.1.back.length:Int)-bt.1.recs.countP Bf=b.back.length-b.recs.countP Bf+D3 k bt.2
variable {k:List UInt8}
theorem rH.same {t:List UInt8}(h:yV b)(hd:xM t=false)(hc:vB t=false)(hn:D3 k t=0):rH b k (b,t):=
 ⟨h,rfl,rfl,by rw[hd];simp,by rw[hc];simp,by rw[hn];simp⟩
theorem zva (n:Int):vB ([99,97,108,108,32]++gA n)=true:=by
 unfold vB;simp
theorem zpp (n:Int):xM ([99,97,108,108,32]++gA n)=false:=by
 unfold xM;rw[beq_eq_false_iff_ne];intro h;simp at h
theorem zGv (n:Int):vB ([108,105,110,101,32]++gA n)=false:=by
 unfold vB;simp
theorem zFB (n:Int):xM ([108,105,110,101,32]++gA n)=false:=by
 unfold xM;rw[beq_eq_false_iff_ne];intro h;simp at h
theorem rH.rings (h:yV b)(hs:fP b)(hr:RInv b){c:bH}(uZ:1<=c.c):rH b Cj (o8 b c):=by
 have zHS:=Aa hr.off;unfold o8;split
 .exact rH.same h nN nN nN
 .rename_i hk
  simp only[E9,not_or,Bool.not_eq_true] at hk;have hc:gU b.recs c.c=none:=Option.isSome_eq_false_iff.1 hk.1|>Option.isNone_iff_eq_none.1;split
  .refine⟨⟨h.rec_,h.pair⟩,rfl,rfl,?_,?_,?_⟩
   .simp[show xM [98,117,115,121]=false by decide+kernel]
   .simp[show vB [98,117,115,121]=false by decide+kernel]
   .simp only[j5,uV,zP,show D3 Cj [98,117,115,121]=1 by decide+kernel]
    omega
  .rename_i l ls hf
   have zfR:=X0 (o:=b.o) (rs:=b.recs) (l:=l) Lc;obtain⟨q,n⟩:=h.more hs (c:=c.c) (l:=l) (o:=0) (hh:=-1) hc (zbT Lc) hr.clk uZ zfR (.inl ⟨rfl,rfl⟩) (wait:=tJ b.wait c) (back:=b.back) (log:=b.log) aC;refine⟨q,rfl,rfl,?_,?_,?_⟩
   .simp only[zFB];have:=n.dn;simp at this⊢;omega
   .simp only[zGv];have:=n.dn;have:=n.hr;simp at*;omega
   .have e:D3 Cj ([108,105,110,101,32]++gA l)=0:=by
     unfold D3;rw[if_neg (by intro h;have:=h.2;simp at this),if_neg zhC,if_neg zeU]
    rw[e];have:=n.tr;simp only;omega
theorem rH.answers (h:yV b)(hs:fP b)(hr:RInv b)(hop:1<=op/\op<=b.o.op):rH b Ge (nL b op):=by
 unfold nL;split
 .exact rH.same h nN nN nN
 .split
  .exact rH.same h nN nN nN
  .rename_i c cs hw
   split
   .exact rH.same h nN nN nN
   .rename_i i hi
    obtain⟨d,h1,h2,h3⟩:=zZ hi;obtain⟨j,z,z1,z2,z3,z4⟩:=hs.wt c (by rw[hw];simp);have:i=j:=hs.opn i j d z h1 z1 h3 z2 (.inl (by rw[h2,z3]));subst this;rw[z1] at h1;injection h1 with h1;subst h1;obtain⟨q,n⟩:=h.heard z1 z2 z4 hop hr.clk (wait:=dK b.wait c.c) (back:=b.back) (log:=b.log);refine⟨q,rfl,rfl,?_,?_,?_⟩
    .rw[zpp];have:=n.dn;simp at this⊢;omega
    .rw[zva];have:=n.dn;have:=n.hr;simp at*;omega
    .have e:D3 Ge ([99,97,108,108,32]++gA c.c)=0:=by
      unfold D3;rw[if_neg zeU,if_neg zhC,if_neg zeU]
     rw[e];have:=n.tr;simp only;omega
variable {xs:List bH}
theorem zwt {x:bH}(hn:(xs.map bH.c).Nodup)(hx:x∈xs):(dK xs x.c).length+1=xs.length:=by
 induction xs with
 |nil=>cases hx
 |cons y ys ih=>
  rw[jO,Dv] at hn;unfold dK;rw[List.filter_cons];rcases List.mem_cons.1 hx with rfl|hx
  .simp_all
  .have aS:y.c≠x.c:=λe=>hn.1 (e▸List.mem_map_of_mem hx)
   rw[if_pos (by simpa using aS)];have:=ih hn.2 hx;unfold dK at this;simp_all
theorem rH.returns (h:yV b)(hs:fP b)(hr:RInv b)(hop:1<=op/\op<=b.o.op):rH b Dj (l9 b op):=by
 unfold l9;split
 .exact rH.same h nN nN nN
 .split
  .exact rH.same h nN nN nN
  .rename_i c cs hw
   split
   .exact rH.same h nN nN nN
   .rename_i l ls hf
    have zfR:=X0 (o:=b.o) (rs:=b.recs) (l:=l) Lc;have Df:c∈b.back:=by rw[hw];simp
    have h1:=zwt hs.bk Df;obtain⟨q,n⟩:=h.more hs (c:=c.c) (l:=l) (o:=op) (hh:=b.clk) (hs.bo c Df) (zbT Lc) hr.clk (hr.backB c Df).1 zfR (.inr ⟨hop.1,hop.2,rfl⟩) (wait:=b.wait) (back:=dK b.back c.c) (log:=b.log) aC;rw[if_neg (by omega:¬op=0)] at n;refine⟨q,rfl,rfl,?_,?_,?_⟩
    .rw[zpp];have:=n.dn;simp at this⊢;omega
    .rw[zva];have:=n.dn;have:=n.hr;simp at*;omega
    .have e:D3 Dj ([99,97,108,108,32]++gA c.c)= -1:=by
      unfold D3;rw[if_neg zeU,if_neg zhC,if_pos ⟨rfl,by intro h;simp at h,by intro h;simp at h,by intro h;simp at h⟩]
     rw[e];have:=n.tr;simp only;omega
theorem zE4 (h:(uL xs c).isSome=true):∃x∈xs,x.c=c:=by
 unfold uL at h;simp_all
theorem rH.hangs (h:yV b)(hs:fP b)(hr:RInv b)(c:Int):rH b D9 (mP b c):=by
 unfold mP;split
 .rename_i i hi
  obtain⟨d,h1,h2,h3⟩:=zZ hi;have qd:=h.rec_ d (eI h1);have eo:opAt b.recs i=d.o:=by unfold opAt;rw[h1]
  rw[eo];split
  .rename_i ho
   have hh:d.h≠-1:=λe=>by have:=qd.ho.1 e;omega
   obtain⟨q,n⟩:=h.ended hs h1 h3 Y0 hr.clk (.inl ⟨rfl,hh,(qd.hf hh).2⟩) (wait:=dK b.wait (Da b.recs i)) (back:=b.back) (log:=b.log);rw[if_neg hh,if_pos rfl,if_neg zpJ] at n;refine⟨q,rfl,rfl,?_,?_,?_⟩
   .rw[show xM [100,111,110,101]=true by decide+kernel];exact n.dn
   .rw[show vB [100,111,110,101]=false by decide+kernel];have:=n.dn;have:=n.hr;show((vY b i vT).countP nU:Int)+(vY b i vT).countP oG=_;simp;omega
   .rw[show D3 D9 [100,111,110,101]=0 by decide+kernel];have:=n.tr;show(b.back.length:Int)-(vY b i vT).countP Bf=_;simp at this;omega
  .rename_i ho
   have hh:d.h= -1:=qd.ho.2 (by have:=qd.o.1;omega);obtain⟨q,n⟩:=h.ended hs h1 h3 zhb hr.clk (.inr (.inl ⟨rfl,hh⟩)) (wait:=dK b.wait (Da b.recs i)) (back:=b.back) (log:=b.log);rw[if_pos hh,if_neg zBR,if_neg zAa] at n;refine⟨q,rfl,rfl,?_,?_,?_⟩
   .rw[show xM [108,101,102,116]=false by decide+kernel];have:=n.dn;show((vY b i vS).countP oG:Int)=_;simp at this⊢;omega
   .rw[show vB [108,101,102,116]=false by decide+kernel];have:=n.dn;have:=n.hr;show((vY b i vS).countP nU:Int)+(vY b i vS).countP oG=_;simp at*;omega
   .rw[show D3 D9 [108,101,102,116]=0 by decide+kernel];have:=n.tr;show(b.back.length:Int)-(vY b i vS).countP Bf=_;simp at this;omega
 .split
  .rename_i hf
   obtain⟨x,hx,rfl⟩:=zE4 hf;have h1:=zwt hs.bk hx;refine⟨⟨h.rec_,h.pair⟩,rfl,rfl,?_,?_,?_⟩
   .rw[show xM [111,102,102]=false by decide+kernel];simp
   .rw[show vB [111,102,102]=false by decide+kernel];simp
   .rw[show D3 D9 [111,102,102]= -1 by decide+kernel];simp only;omega
  .exact rH.same h nN nN nN
structure TInv (b0 b:b6)(t:List UInt8)(xs:List bH):Prop where
 q:yV b
 s:fP b
 clk:0<=b.clk
 op:b.o=b0.o
 log:b.log=b0.log
 txt:∃s,t=97::116::s
 un:∀x∈xs,∀(i:Nat) (d:bO),b.recs[i]? =some d->cU d=true->d.c=x.c->d.o=0
 dn:b.recs.countP oG=b0.recs.countP oG
 hr:b.recs.countP nU=b0.recs.countP nU
 bk:(b.back.length:Int)-b.recs.countP Bf=b0.back.length-b0.recs.countP Bf
theorem TInv.run {b0:b6}:∀(xs:List bH) (b:b6) (t:List UInt8),TInv b0 b t xs->TInv b0 (xs.foldl mD (b,t)).1 (xs.foldl mD (b,t)).2 []:=by
 intro xs
 induction xs with
 |nil=>intro b t h;exact h
 |cons x xs ih=>
  intro b t h;rw[List.foldl_cons];rcases ho:gU b.recs x.c with _|i
  .have:mD (b,t) x=(b,t):=by unfold mD;simp only[ho]
   rw[this];exact ih b t ⟨h.q,h.s,h.clk,h.op,h.log,h.txt,λy hy=>h.un y za3,h.dn,h.hr,h.bk⟩
  .obtain⟨d,h1,h2,h3⟩:=zZ ho
   rw[Tc (bt:=(b,t)) ho h1];split
   .rename_i hp
    have qd:=h.q.rec_ d (eI h1);have h0:=h.un x aQ i d h1 h3 h2;have hh:d.h= -1:=qd.ho.2 h0;obtain⟨q,n⟩:=h.q.ended h.s h1 h3 zaq h.clk (.inr (.inr ⟨rfl,hh,hp⟩)) (wait:=dK b.wait (Da b.recs i)) (back:=b.back++[x]) (log:=b.log);rw[if_pos hh,if_neg (λe=>zpJ e.symm),if_pos rfl] at n;have s1:=h.s.tire (t:=t) (x:=x);rw[Tc (bt:=(b,t)) ho h1,if_pos hp] at s1;refine ih _ _ ⟨q,s1,h.clk,h.op,h.log,?_,?_,?_,?_,?_⟩
    .obtain⟨s,e⟩:=h.txt
     exact⟨_,by rw[e];rfl⟩
    .intro y hy j z hz Oz zen
     obtain⟨u,u1,⟨_,rfl⟩|⟨_,rfl⟩⟩:=y6 hz
     .have:cU {u with t:=b.clk,e:=uK}=false:=zaq
      rw[this] at Oz;cases Oz
     .exact h.un y za3 j z u1 Oz zen
    .have:=n.dn;have:=h.dn;show(vY b i uK).countP oG=_;simp at*;omega
    .have:=n.hr;have:=h.hr;show(vY b i uK).countP nU=_;simp at*;omega
    .have:=n.tr;have:=h.bk
     show((b.back++[x]).length:Int)-(vY b i uK).countP Bf=_;rw[j5,List.length_singleton];omega
   .exact ih b t ⟨h.q,h.s,h.clk,h.op,h.log,h.txt,λy hy=>h.un y za3,h.dn,h.hr,h.bk⟩
theorem rH.waits (h:yV b)(hs:fP b)(hr:RInv b){m:Int}(hm:1<=m)(hk:k≠Dj):rH b k (tK b m):=by
 unfold tK;have hc:=hr.clk;have:=TInv.run (b0:=b) b.wait {b with clk:=b.clk+m} ([97,116,32]++gA (b.clk+m)) ⟨⟨λd hd=>(h.rec_ d hd).le (by show b.clk<=b.clk+m;omega),h.pair⟩,⟨hs.opn,hs.last,hs.wt,hs.bk,hs.bo⟩,by show 0<=b.clk+m;omega,rfl,rfl,⟨_,rfl⟩,?_,rfl,rfl,rfl⟩
 .obtain⟨s,e⟩:=this.txt
  refine⟨this.q,this.op,this.log,?_,?_,?_⟩
  .rw[this.dn,e]
   have:xM (97::116::s)=false:=by unfold xM;rw[beq_eq_false_iff_ne];intro h;simp at h
   rw[this];simp
  .rw[this.dn,this.hr,e]
   have:vB (97::116::s)=false:=by unfold vB;simp
   rw[this];simp
  .rw[this.bk,e]
   have:D3 k (97::116::s)=0:=by
    unfold D3;rw[if_neg (by intro h;have:=h.2;simp at this),if_neg zhC,if_neg (by intro h;exact hk h.1)]
   rw[this];simp
 .intro x hx i d hd ho hc
  obtain⟨j,z,z1,z2,z3,z4⟩:=hs.wt x hx;have:=hs.opn i j d z hd z1 ho z2 (.inl (by rw[hc,z3]));subst this;have hd:b.recs[i]? =some d:=hd;rw[z1] at hd;injection hd with hd;rw[<-hd];exact z4
variable {e:dS}
theorem rH.step (h:yV b)(hs:fP b)(hr:RInv b)(he:rB b.o.op e=true):rH b e.k.toList (dR b e):=by
 unfold dR;split
 .rename_i e1
  rw[e1];exact rH.rings h hs hr (zxX he e1).1
 .split
  .rename_i e1 e2
   rw[e2];exact rH.answers h hs hr (zae he (.inl e2))
  .split
   .rename_i e1 e2 e3
    rw[e3];exact rH.returns h hs hr (zae he (.inr e3))
   .split
    .rename_i e1 e2 e3 e4
     rw[e4];exact rH.hangs h hs hr _
    .rename_i e1 e2 e3 e4
     exact rH.waits h hs hr (zqJ he e1 e2 e3 e4).1 e3
variable {o:fG}{es:List dS}
theorem ok_event (h:eG o es=true){k:Nat}(he:es[k]? =some e):rB o.op e=true:=by
 unfold eG at h
 grind
structure AInv (b:b6):Prop where
 q:yV b
 dn:b.recs.countP oG=b.log.countP xM
 cl:b.recs.countP nU+b.recs.countP oG=b.log.countP vB
theorem to_a (h:eG o es=true):∀k,k<=es.length->AInv (jH o es k)
 |0,_=>⟨⟨λd hd=>by simp[jH,lV] at hd,λi j d e _ h=>by simp[jH,lV] at h⟩,rfl,rfl⟩
 |k+1,hk=>by
  have i:=to_a h k aC;obtain⟨e,he⟩:∃e,es[k]? =some e:=⟨es[k],List.getElem?_eq_getElem aC⟩;obtain⟨r1,_,r3⟩:=Hh h k aC;have s:=rH.step i.q (zfM h k aC) r1 (e:=e) (by rw[r3];exact ok_event h he);rw[Ty he];have e1:(Em (dR (jH o es k) e)).log=(jH o es k).log++[(dR (jH o es k) e).2]:=by
   show(dR _ e).1.log++[_]=_;rw[s.log]
  refine⟨⟨s.inv.rec_,s.inv.pair⟩,?_,?_⟩
  .rw[e1,Kc,Zq,<-i.dn]
   have:=s.dn;show(dR (jH o es k) e).1.recs.countP oG=_;cases hd:xM (dR (jH o es k) e).2<;>simp[hd] at this⊢<;>omega
  .rw[e1,Kc,Zq,<-i.cl]
   have:=s.cl;show(dR (jH o es k) e).1.recs.countP nU+(dR (jH o es k) e).1.recs.countP oG=_;cases hd:vB (dR (jH o es k) e).2<;>simp[hd] at this⊢<;>omega
theorem ztV :∀{rs:List bO} {i:Nat} {d:bO},(∀(i j:Nat) (d e:bO),rs[i]? =some d->rs[j]? =some e->p d=true->p e=true->i=j)->rs[i]? =some d->p d=true->rs.countP p=1
 |[],i,d,_,h,_=>by simp at h
 |r::rs,i,d,hu,h,hp=>by
  rw[Nh];by_cases hr:p r=true
  .rw[if_pos hr,zms.2 (λx hx No=>?_)]
   obtain⟨j,hj⟩:=yY.1 hx;have:=hu 0 (j+1) r x rfl Zh hr No;omega
  .rw[if_neg hr]
   rcases i with _|i
   .simp at h;subst h;exact absurd hp hr
   .rw[ztV (rs:=rs) (i:=i) (d:=d) (λa b x y ha hb hx hy=>by have:=hu (a+1) (b+1) x y (by simpa using ha) zcP hx hy;omega) zcB hp]
theorem zr0 {q r:bO->Bool}(h:∀d,(if r d then 1 else 0)=(if p d then 1 else 0)+(if q d then 1 else 0)):∀rs:List bO,rs.countP r=rs.countP p+rs.countP q
 |[]=>rfl
 |x::rs=>by rw[Nh,Nh,Nh,zr0 h rs,h x];omega
def tkB (n:Nat)(d:bO):Bool:=cU d&&decide (1<=d.o/\d.o<=n)
def O1 (x:Int):Bool:=decide (0<x)
theorem zvf (b:b6):∀(n i:Nat),i<n->(H6 b n)[i]? =some (dE b.recs ((i:Int)+1))
 |n+1,i,h=>by
  show(H6 b n++[dE b.recs ((n:Int)+1)])[i]? =_;by_cases e:i<n
  .rw[Ls (by rw[Ya];exact e)];exact zvf b n i e
  .obtain rfl:i=n:=aC
   rw[List.getElem?_append_right (by rw[Ya];exact bM _),Ya];simp
theorem opn_op (hs:fP b){k:Int}(hk:0<k):∀(i j:Nat) (d e:bO),b.recs[i]? =some d->b.recs[j]? =some e->cU d=true->cU e=true->d.o=k->e.o=k->i=j:=
 λi j d e h1 h2 h3 h4 h5 h6=>hs.opn i j d e h1 h2 h3 h4 (.inr (.inr ⟨by rw[h5,h6],aC⟩))
theorem zrK (hs:fP b)(hc:∀d∈b.recs,1<=d.c):∀n:Nat,(H6 b n).countP O1=b.recs.countP (tkB n)
 |0=>by
  have:b.recs.countP (tkB 0)=0:=zms.2 (λx _ hx=>by unfold tkB at hx;simp at hx;omega);rw[this];rfl
 |n+1=>by
  show(H6 b n++[dE b.recs ((n:Int)+1)]).countP O1=_;rw[Kc,Zq,zrK hs hc n];rw[zr0 (p:=tkB n) (q:=λd=>cU d&&decide (d.o=(n:Int)+1)) (r:=tkB (n+1)) (λd=>by
   unfold tkB;cases cU d
   .simp
   .simp only[Bool.true_and,decide_eq_true_eq]
    by_cases h1:d.o=(n:Int)+1
    .rw[if_pos aC,if_neg aC,if_pos h1]
    .rw[if_neg h1]
     by_cases h2:1<=d.o/\d.o<=(n:Int)
     .rw[if_pos aC,if_pos h2]
     .rw[if_neg aC,if_neg h2])]
  congr 1;rcases ziP b.recs ((n:Int)+1) with⟨i,d,h1,h2,h3,h4⟩|⟨h1,h2⟩
  .have:=hc d (eI h1)
   rw[if_pos (by unfold O1;rw[h4];simp;omega)];exact(ztV (i:=i) (d:=d) (λi j x y hx hy px py=>by
    simp only[jB,decide_eq_true_eq] at px py;exact opn_op hs aC i j x y hx hy px.1 py.1 px.2 py.2) h1 (by simp[h2,h3])).symm
  .rw[if_neg (by unfold O1;rw[h2];simp)]
   rw[zms.2 (λx hx No=>?_)];simp only[jB,decide_eq_true_eq] at No;obtain⟨j,hj⟩:=yY.1 hx;exact h1 j x hj No.1 No.2
abbrev RecC (d:bO)(x y z h n:Bool):Prop:=(d.e.toList==[111,112,101,110])=x/\(d.e.toList==[100,111,110,101])=y/\(d.e.toList==[116,105,114,101,100])=z/\nU d=h/\oG d=n
theorem rec_case (h:Ta clk pt ln op d):(RecC d true false false false false/\d.t= -1/\d.h= -1)\/(RecC d true false false true false/\d.t= -1/\0<=d.f/\d.f<=d.h)\/(RecC d false true false false true/\0<=d.f/\d.f<=d.h/\d.h<=d.t)\/
 (RecC d false false false false false/\d.h= -1/\0<=d.f/\d.f<=d.t)\/(RecC d false false true false false/\d.h= -1/\0<=d.f/\d.f<=d.t/\pt<=d.t-d.f):=by
 have hm:=h.hm;have hf:=h.f;rcases h.st with⟨h1,h2⟩|⟨h1,h2,h3,h4⟩
 .have e:d.e.toList=[111,112,101,110]:=eq_of_beq h1
  have c:(d.e.toList==[100,111,110,101])=false/\(d.e.toList==[116,105,114,101,100])=false:=by rw[e];decide+kernel
  have n:=(zbW h1).1;by_cases hh:d.h= -1
  .exact .inl ⟨⟨h1,c.1,c.2,by unfold nU;rw[hh];simp,n⟩,h2,hh⟩
  .exact .inr (.inl ⟨⟨h1,c.1,c.2,by unfold nU;rw[h1,decide_eq_true aC];rfl,n⟩,h2,hf.1,(h.hf hh).1⟩)
 .have nh:nU d=false:=by unfold nU;rw[h1];rfl
  rcases h4 with⟨e,h5,h6⟩|⟨e,h5⟩|⟨e,h5,h6⟩
  .refine .inr (.inr (.inl ⟨⟨h1,?_,?_,nh,?_⟩,hf.1,(h.hf h5).1,h6⟩))
   .rw[e];decide+kernel
   .rw[e];decide+kernel
   .unfold oG;rw[e];decide+kernel
  .refine .inr (.inr (.inr (.inl ⟨⟨h1,?_,?_,nh,?_⟩,h5,hf.1,h2⟩)))
   .rw[e];decide+kernel
   .rw[e];decide+kernel
   .unfold oG;rw[e];decide+kernel
  .refine .inr (.inr (.inr (.inr ⟨⟨h1,?_,?_,nh,?_⟩,h5,hf.1,h2,h6⟩)))
   .rw[e];decide+kernel
   .rw[e];decide+kernel
   .unfold oG;rw[e];decide+kernel
structure AnsPl (o:fG)(rs:List bO)(lg:List (List UInt8))(tk:List Int):Prop where
 rec_:∀d∈rs,∃clk,clk<=3600/\Ta clk o.pt o.ln o.op d
 dn:rs.countP oG=lg.countP xM
 cl:rs.countP nU+rs.countP oG=lg.countP vB
 n:tk.countP O1=rs.countP nU
 at_:∀d∈rs,nU d=true->tk[(d.o-1).toNat]? =some d.c
theorem ans_pl (h:eG o es=true):AnsPl o (uD o es).recs (uD o es).log (H6 (Ee o es) o.op.toNat):=by
 unfold uD;rw[if_pos h,<-S7];have a:=to_a h es.length (bM _);have s:=zfM h es.length (bM _);obtain⟨r1,r2,r3⟩:=Hh h es.length (bM _);have kR:(jH o es es.length).clk<=3600:=by
  have:=r2.clk;have:es.length<=60:=by unfold eG at h;simp at h;exact h.1.2
  omega
 have q:=a.q.rec_;rw[r3] at q;have hx:∀d∈(jH o es es.length).recs,nU d=tkB o.op.toNat d:=λd hd=>by
  have:=q d hd;unfold nU tkB;congr 1;have h1:=this.ho;have h2:=this.hm;have h3:=this.o;by_cases e:d.h= -1
  .have:=h1.1 e;rw[decide_eq_false aC,decide_eq_false aC]
  .have:d.o≠0:=λx=>e (h1.2 x)
   rw[decide_eq_true aC,decide_eq_true aC]
 refine⟨λd hd=>⟨_,kR,q d hd⟩,a.dn,a.cl,?_,λd hd ho=>?_⟩
 .rw[zrK s (λd hd=>(q d hd).c)]
  exact List.countP_congr (λd hd=>by rw[hx d hd])
 .have h1:=hx d hd
  rw[ho] at h1;unfold tkB at h1;simp only[Bool.true_eq,jB,decide_eq_true_eq] at h1;obtain⟨i,hi⟩:=yY.1 hd;rw[zvf _ _ _ aC,show(((d.o-1).toNat:Nat):Int)+1=d.o by omega];rw[ze0 (λa b x y ha hb hx hy e1 e2=>opn_op s (k:=d.o) aC a b x y ha hb hx hy e1 e2) hi h1.1 rfl]
end Go.Proofs.YtfcjiloojkjaeaaGreatDoor
namespace Go.Proofs.YtfcjiloojkjaeaaGreatDoor
open Go.RowKit Go.Mt Go.Conc Go.Tt
def Xo:Go.Code:=(Tryz.f8.body).getD .skip
def rLAN4:Go.Code:=sA (sB (sB (sB (Xo))))
def rLAN5:Go.Code:=sA (sB (sB (sB (sB (Xo)))))
def rLAN8:Go.Code:=sA (sB (sB (sB (sB (sB (sB (Xo)))))))
def ze4:Array Oper:=match rLAN4 with| .region _ ops _=>ops|_=>#[]
abbrev zrL:Oper:=aV ze4 2 (some 30) (.call ⟨.value (.func 28),#[.tmp 28,.tmp 29],#[29,31]⟩)
def ztF:ze4[2]? =some zrL:=rfl
def zgJ:Array Oper:=match rLAN5 with| .region _ ops _=>ops|_=>#[]
abbrev zxl:Oper:=aV zgJ 2 (some 35) (.call ⟨.value (.func 21),#[.tmp 33,.tmp 34],#[29,31]⟩)
def zsb:zgJ[2]? =some zxl:=rfl
def zh8:Array Oper:=match rLAN8 with| .region _ ops _=>ops|_=>#[]
abbrev zxy:Oper:=aV zh8 2 (some 59) (.call ⟨.value (.func 14),#[.tmp 57,.tmp 58],#[29,31]⟩)
def zpg:zh8[2]? =some zxy:=rfl
variable {A:Option bC}
theorem zw4 {w:aE}{lo hi n c xY lS n' c':Nat}{A':Option bC}{xs:List Int}(h:cJ w lo hi 1 A n c (fN xs))(h':cJ w xY lS 1 A' n' c' (fN xs))(hn:n<=1048576)(vZ:n'<=1048576):
 gT aK 37 #[.slice A n c,.slice A' n' c'] w λe w'=>e=.returned (.bool true)/\cH w.heap.size w w':=
 (zA2 _ _ _ _ _ _ _ _ _ _ _ _ w h h' hn vZ).mono (by rintro e w' ⟨rfl,m,rfl⟩;exact⟨by rw[beq_self_eq_true],below_dN w m⟩)
theorem ext4 (l:List UInt8):((⟨l.toArray⟩:ByteArray).extract 0 4).toList=l.take 4:=by
 rw[ByteArray.toList_eq];simp
theorem zpV (o:fG)(es:List dS)(h:eG o es=true):(Eo o es).length<=60:=by
 unfold Eo uD;rw[if_pos h,<-S7];have:=(Hh h es.length (bM _)).2.1.nrec;have:es.length<=60:=by unfold eG at h;simp at h;exact h.1.2
 omega
theorem zBp (o:fG)(es:List dS):(Eo o es).length<=60:=by
 by_cases h:eG o es=true
 .exact zpV o es h
 .unfold Eo uD;rw[if_neg h];exact lU _
section
variable {St:Nat->Prop}{W0:aE}{Post:aF->aE->Prop}
theorem zBa {w:aE}{A:Option bC}{n cap:Nat}(hC:Code w A n cap)(hT:qF w)(rY:x5 w)(hP:∀(R:Pr) (W:aE),Kp W0 R St W->Post (.bool true) W):
 JS St W0 Post ⟨8,#[.slice A n cap,aA,aA,aA,aA,aA,aA,aA,aA,aA,aA,aA,aA,aA,aA,aA,aA,aA,aA,aA,aA,aA,aA,aA,aA,aA,aA,aA,aA,aA,aA,aA,aA,aA,aA,aA,aA,aA,aA,aA,aA,aA,aA,aA,aA,aA,aA,aA,aA,aA,aA,aA,aA,aA,aA,aA,aA,aA,aA,aA,aA,aA,aA,aA,aA,aA,aA,aA,aA,aA,aA,aA,aA,aA,aA,aA,aA,aA,aA,aA,aA,aA,aA,aA,aA,aA,aA,aA,aA,aA,aA,aA,aA,aA,aA,aA,aA,aA,aA,aA,aA,aA,aA,aA,aA,aA,aA,aA,aA,aA,aA,aA,aA,aA,aA,aA,aA,aA,aA,aA,aA,aA,aA,aA,aA,aA,aA,aA,aA,aA,aA,aA,aA,aA,aA,aA,aA,aA,aA,aA,aA,aA,aA,aA,aA,aA,aA,aA,aA,aA,aA,aA,aA,aA,aA,aA,aA,aA,aA,aA,aA,aA,aA,aA,aA,aA,aA,aA,aA,aA,aA,aA,aA,aA,aA,aA,aA,aA,aA,aA,aA,aA,aA,aA,aA,aA,aA,aA,aA,aA,aA,aA,aA,aA,aA,aA,aA,aA,aA,aA,aA,aA,aA,aA,aA,aA,aA],[.code Xo],false⟩ [] w:=by
 have L:=lvF;have bS:nQ olL 8=false:=aU;have L8:∀(tmps:Array aF) (td:List dZ) (w':aE),tmps.getD 2 aA=.bool true->JS St W0 Post ⟨8,tmps,td,true⟩ [] w':=by
  intro tmps td w' h6;refine JO.fin L (t:=2) rfl Tryz.func8 rfl aU λK R W v' hv hk=>?_;have Mi:VR (SF fX) K R (tmps.getD 2 aA) v':=hv;rw[h6] at Mi;cases Mi;exact hP R W hk
 refine JO.sq L bS ?_;refine JO.pQ L bS (λTp Q HQ=>?_);replace hC:Code (Tt.tp w Tp 0) A n cap:=⟨hC.le,hC.cap,hC.at_⟩;replace hT:qF (Tt.tp w Tp 0):=Nx rfl hT;replace rY:x5 (Tt.tp w Tp 0):=rY;generalize Tt.tp w Tp 0=w1 at hC hT rY⊢;go_wp2;refine HQ.o _ _ ?_;clear HQ;refine JO.sq L bS ?_;refine JO.sq L bS ?_;refine JO.pQ L bS (λTp Q HQ=>?_);replace hC:Code (Tt.tp w1 Tp 0) A n cap:=⟨hC.le,hC.cap,hC.at_⟩;replace hT:qF (Tt.tp w1 Tp 0):=Nx rfl hT;replace rY:x5 (Tt.tp w1 Tp 0):=rY;generalize Tt.tp w1 Tp 0=w2 at hC hT rY⊢;have kR:=hC.le;have qP:=hC.cap;unfold maxLen at qP;go_wp2;refine HQ.o _ _ ?_;clear HQ;by_cases zjo:(1048576:Int)<(n:Int)
 .refine JO.cd L true bS ?_ (by show N4 (decide _)=_;rw[decide_eq_true zjo])
  refine JO.sq L bS ?_;refine JO.pQ L bS (λTp Q HQ=>?_);go_wp2;refine HQ.o _ _ ?_;refine JO.rt L bS ?_;exact L8 _ _ _ rfl
 refine JO.cd L false bS ?_ (by show N4 (decide _)=_;rw[decide_eq_false zjo]);refine JO.sk L bS ?_;refine JO.sq L bS ?_;refine JO.pQ L bS (λTp Q HQ=>?_);replace hC:Code (Tt.tp w2 Tp 0) A n cap:=⟨hC.le,hC.cap,hC.at_⟩;replace hT:qF (Tt.tp w2 Tp 0):=Nx rfl hT;replace rY:x5 (Tt.tp w2 Tp 0):=rY;generalize Tt.tp w2 Tp 0=w3 at hC hT rY⊢
 go_wp2_with (go_at_call 36;refine(zHv A n cap w3 hC).mono ?_;rintro e w4 ⟨o,A2,n2,c2,es,rfl,ow,zGm,b4⟩)
 refine HQ.o _ _ ?_;clear HQ;obtain⟨gO,zlk⟩:=aN w4.heap.size;have B4:Bl w3.heap.size w3 (w4.alloc (offO o)):=(⟨b4.size,b4.block⟩:Bl w3.heap.size w3 w4).al (bM _) _;have HR:Mk ⟨o,es,gO,A2,n2,c2⟩ (w4.alloc (offO o)):=⟨by rw[zlk];exact Cy w4 _,(ow.slc.alloc _).wide (lU _) aQ,hT.bls B4 (bM _),rY.bls B4 (bM _),zGm⟩;rw[<-zlk];generalize w4.alloc (offO o)=w5 at HR⊢;have Qb:n2<=1048576:=aC;clear hC hT rY kR qP zjo zlk B4 b4 ow;refine JO.sq L bS ?_;generalize lR:([Ln _]:List dZ)=K0;refine JO.rn L bS ze4 [0,1,2,3,4,5,6,7] ?_;refine JO.ld L bS HR.k zoc ?_;refine JO.mv L bS (.slice A2 n2 c2) ?_;refine zFM (ops:=ze4) (i:=2) (oo:=zrL) (A:=A2) (o:=o) (es:=es) rfl bS rfl ztF rfl rfl Xm HR.e Qb HR.t HR.u (λw6 V zpd zsE=>?_);obtain⟨A5,n5,c5,rfl,zGQ,O5⟩:=zfB zsE aH (by have:=zBp o es;omega);have h5:cJ w6 0 w6.heap.size 7 A5 n5 c5 (recs (Eo o es)):=O5.slc.wide (lU _) (bM _);replace HR:=HR.bl zpd;clear zpd zsE O5;simp only[Fm.fin,ztF,vN,fS,dU,dW];refine JO.mv L bS (.tuple #[.slice A5 n5 c5,.bool (eG o es)]) ?_;refine JO.mv L bS (.slice A5 n5 c5) ?_;refine JO.mv L bS (.bool (eG o es)) ?_;refine JO.mv L bS (.slice A5 n5 c5) ?_;refine JO.mv L bS (.bool (eG o es)) ?_;refine JO.regEnd L bS ?_;subst lR;refine JO.sq L bS ?_;generalize lR:([Ln _]:List dZ)=K0;refine JO.rn L bS zgJ [0,1,2,3] ?_;refine JO.ld L bS HR.k zoc ?_;refine JO.mv L bS (.slice A2 n2 c2) ?_;refine zzP (ops:=zgJ) (i:=2) (oo:=zxl) (A:=A2) (o:=o) (es:=es) rfl bS rfl zsb rfl rfl Xm HR.e Qb HR.t HR.u (λw7 V zkY zyf=>?_);obtain⟨A7,n7,c7,rfl,zne,O7⟩:=zfB zyf aH (eE (zuc o es) aC);have h7:cJ w7 0 w7.heap.size 1 A7 n7 c7 (fN (Ae o es)):=O7.slc.wide (lU _) (bM _);replace HR:=HR.bl zkY;replace h5:=h5.bl zkY;clear zkY zyf O7;simp only[Fm.fin,zsb,vN,fS,dU,dW];refine JO.mv L bS (.slice A7 n7 c7) ?_;refine JO.regEnd L bS ?_;subst lR;obtain⟨t,ht⟩:=aN (eG o es);rw[<-ht];have HT:=aD ht;clear ht;refine JO.sq L bS ?_;refine JO.sq L bS ?_;refine JO.pQ L bS (λTp Q HQ=>?_);replace HR:=HR.tp Tp 0;replace h5:=h5.tpZ Tp 0;replace h7:=h7.tpZ Tp 0;generalize Tt.tp w7 Tp 0=w8 at HR h5 h7⊢;have q0:=aI HR.k 0;have q1:=aI HR.k 1;have q2:=aI HR.k 2;have HX:=aD (And.intro HR (And.intro h5 h7));clear HR h5 h7
 go_wp2_with (go_at_call 20;refine(zpE o HX.o.1.e Qb (bM _)).mono ?_;rintro e w9 ⟨A8,n8,c8,rfl,zwm,O8,b9⟩)
 have HY:=aD (And.intro (HX.o.2.2.belowZ b9) O8.slc)
 go_wp2_with (go_at_call 37;refine(zw4 HY.o.1 HY.o.2 zne zwm).mono ?_;rintro e wO ⟨rfl,Tu⟩)
 cases t with
 |false=>
  go_wp2;refine HQ.o _ _ ?_;clear HQ q0 q1 q2;have HR:=(HX.o.1.below b9).below Tu;have h7:=(HX.o.2.2.belowZ b9).belowZ Tu;clear HX HY b9 Tu O8;have zAi:n7=0:=by
   have:=h7.len;have e:Ae o es=[]:=by unfold Ae;rw[if_neg (by rw[<-HT.o];decide)]
   rw[e] at this;simpa[fN] using this.symm
  subst zAi;refine JO.cd L true bS ?_;refine JO.sq L bS ?_;refine JO.pQ L bS (λTp Q HQ=>?_);replace HR:=HR.tp Tp 0;replace h7:=h7.tpZ Tp 0;generalize Tt.tp wO Tp 0=wR at HR h7⊢;have q0:=aI HR.k 0;have q1:=aI HR.k 1;have q2:=aI HR.k 2;have HX:=aD (And.intro HR h7);clear HR h7
  go_wp2_with (go_at_call 20;refine(zpE o HX.o.1.e Qb (bM _)).mono ?_;rintro e Nj ⟨A9,n9,c9,rfl,zza,O9,zAM⟩)
  have HY:=aD (And.intro (HX.o.2.belowZ zAM) O9.slc)
  go_wp2_with (go_at_call 37;refine(zw4 HY.o.1 HY.o.2 zne zza).mono ?_;rintro e zbB ⟨rfl,zLH⟩)
  go_wp2;refine HQ.o _ _ ?_;refine JO.rt L bS ?_;exact L8 _ _ _ rfl
 |true=>
  go_wp2;refine HQ.o _ _ ?_;clear HQ q0 q1 q2;have HR:=(HX.o.1.below b9).below Tu;have h5:=(HX.o.2.1.belowZ b9).belowZ Tu;have h7:=(HX.o.2.2.belowZ b9).belowZ Tu;clear HX HY b9 Tu O8;refine JO.cd L false bS ?_;refine JO.sk L bS ?_;have bV:=HT.o.symm;refine JO.sq L bS ?_;generalize lR:([Ln _]:List dZ)=K0;refine JO.rn L bS zh8 [0,1,2,3,4,5,6,7] ?_;refine JO.ld L bS HR.k zoc ?_;refine JO.mv L bS (.slice A2 n2 c2) ?_;refine zCx (ops:=zh8) (i:=2) (oo:=zxy) (A:=A2) (o:=o) (es:=es) rfl bS rfl zpg rfl rfl Xm HR.e Qb HR.t HR.u (λwR V zfU zse=>?_);obtain⟨A8,n8,c8,rfl,zwm,O8⟩:=zfB zse aH (logs_len o es);have h8:cJ wR 0 wR.heap.size 1 A8 n8 c8 (wF (Fx o es)):=O8.slc.wide (lU _) (bM _);replace HR:=HR.bl zfU;replace h5:=h5.bl zfU;replace h7:=h7.bl zfU;clear zfU zse O8;simp only[Fm.fin,zpg,vN,fS,dU,dW];refine JO.mv L bS (.tuple #[.slice A8 n8 c8,.bool (eG o es)]) ?_;refine JO.mv L bS (.slice A8 n8 c8) ?_;refine JO.mv L bS (.bool (eG o es)) ?_;refine JO.mv L bS (.slice A8 n8 c8) ?_;refine JO.mv L bS (.bool (eG o es)) ?_;refine JO.regEnd L bS ?_;subst lR;have AP:=aD (show AnsPl o (Eo o es) (Fx o es) (Ae o es) by
   unfold Eo Fx Ae;rw[if_pos bV];exact ans_pl bV)
  have zKj:=Aa (show qQ o=true by unfold eG at bV;simp at bV;exact bV.1.1);have zej:=h5.recLen;have zym:=h7.length;have zwq:=h8.txtLen;have zGt:=zpV o es bV;have zHW:=ztD o es;generalize Fx o es=lg at*;generalize Ae o es=tk at*;generalize Eo o es=rs at*;have HL:=aD (And.intro zej (And.intro zym zwq));have zLe:n5<=60:=aC;have zKH:n8<=60:=aC;clear zej zym zwq zGt zHW bV;refine JO.sq L bS ?_;refine JO.pQ L bS (λTp Q HQ=>?_);replace HR:=HR.tp Tp 0;replace h5:=h5.tpZ Tp 0;replace h7:=h7.tpZ Tp 0;replace h8:=h8.tpZ Tp 0;generalize Tt.tp wR Tp 0=Nj at HR h5 h7 h8⊢;go_wp2;refine HQ.o _ _ ?_;clear HQ;refine JO.sq L bS ?_;refine JO.pQ L bS (λTp Q HQ=>?_);replace HR:=HR.tp Tp 0;replace h5:=h5.tpZ Tp 0;replace h7:=h7.tpZ Tp 0;replace h8:=h8.tpZ Tp 0;generalize Tt.tp Nj Tp 0=zbB at HR h5 h7 h8⊢;have HX:=aD (And.intro HR (And.intro h5 (And.intro h7 h8)));clear HR h5 h7 h8
  go_wp2_with fail
  go_loopw [10,11,14] (λp q i wr=>∃k:Nat,k<=n8/\p=.int .i64 (((lg.take k).countP vB:Nat):Int)/\q=.int .i64 (((lg.take k).countP xM:Nat):Int)/\i=.int .i64 k/\wr=zbB) (λ_ _ i _=>n8-(intOf i).toNat)
  case atStart=>exact⟨0,lU _,rfl,rfl,rfl,rfl⟩
  case round=>
   obtain⟨k,hk,rfl,rfl,rfl,rfl⟩:=hrel;obtain⟨q,hq⟩:=aN ((lg.take k).countP vB);obtain⟨r,hr⟩:=aN ((lg.take k).countP xM);have bq:q<=k:=by rw[hq];exact eE zdX zaW
   have br:r<=k:=by rw[hr];exact eE zdX zaW
   by_cases aT:k<n8
   .obtain⟨b,off,l,rfl,_,_,h3,eR,e0⟩:=HX.o.2.2.2.txtAt aT
    have zdY:=aD (show(lg.take (k+1)).countP vB=q+(if vB l=true then 1 else 0) by rw[De,eR,Kc,<-hq];simp);have zws:=aD (show(lg.take (k+1)).countP xM=r+(if xM l=true then 1 else 0) by rw[De,eR,Kc,<-hr];simp);rw[<-hq,<-hr];have i0:(0:Int)<=(k:Int):=aC;have i1:(k:Int)<(n8:Int):=aC;clear hq hr eR;have hD:xM l=(l==[100,111,110,101]):=rfl;by_cases h4:4<l.length
    .have Hz:(4:Int)<(l.length:Int):=aC
     have hC:vB l=(((⟨l.toArray⟩:ByteArray).extract 0 4).toList==[99,97,108,108]):=by rw[ext4];unfold vB;rw[decide_eq_true h4];rfl
     cases hc:(((⟨l.toArray⟩:ByteArray).extract 0 4).toList==[99,97,108,108])<;>cases hd:(l==[100,111,110,101])
     all_goals
      have HC:=aD (hC.trans hc);have HD:=aD (hD.trans hd);clear hC hD;go_wp2;go_roundw
      case rel=>exact⟨k+1,aC,by rw[zdY.o,HC.o];go_num,by rw[zws.o,HD.o];go_num,nE,trivial⟩
      case measure=>simp[intOf];omega
    .have Hz:¬(4:Int)<(l.length:Int):=aC
     have hC:vB l=false:=by unfold vB;rw[decide_eq_false h4];rfl
     cases hd:(l==[100,111,110,101])
     all_goals
      have HC:=aD hC;have HD:=aD (hD.trans hd);clear hC hD;go_wp2;go_roundw
      case rel=>exact⟨k+1,aC,by rw[zdY.o,HC.o];go_num,by rw[zws.o,HD.o];go_num,nE,trivial⟩
      case measure=>simp[intOf];omega
   .have e:k=n8:=aC
    subst e;have EL:=lg.take_of_length_le (zkK HL.o.2.2);rw[EL] at hq hr;rw[EL,<-hq,<-hr];have zdY:=aD (And.intro hq hr);clear hq hr EL;go_wp2;refine HQ.o _ _ ?_;clear HQ;obtain⟨HR,h5,h7,-⟩:=HX.o;clear HX;refine JO.sq L bS ?_;refine JO.pQ L bS (λTp Q HQ=>?_);replace HR:=HR.tp Tp 0;replace h5:=h5.tpZ Tp 0;replace h7:=h7.tpZ Tp 0;generalize Tt.tp wr Tp 0=zlN at HR h5 h7⊢;have HX:=aD (And.intro HR (And.intro h5 h7));clear HR h5 h7
    go_wp2_with fail
    go_loopw [12,13,15] (λp s i wr=>∃j:Nat,j<=n5/\p=.int .i64 (((rs.take j).countP nU:Nat):Int)/\s=.int .i64 (((rs.take j).countP oG:Nat):Int)/\i=.int .i64 j/\cH zlN.heap.size zlN wr) (λ_ _ i _=>n5-(intOf i).toNat)
    case atStart=>exact⟨0,lU _,rfl,rfl,rfl,gD _ _⟩
    case round=>
     obtain⟨j,hj,rfl,rfl,rfl,B⟩:=hrel;have HB:=aD B;clear B;obtain⟨P,hP⟩:=aN ((rs.take j).countP nU);obtain⟨D,hD⟩:=aN ((rs.take j).countP oG);have bP:P<=j:=by rw[hP];exact eE zdX zaW
     have bD:D<=j:=by rw[hD];exact eE zdX zaW
     by_cases aT:j<n5
     .obtain⟨b,off,d,eA,_,_,z,eR,e0,e1,e2,e3,e4,e5,e6⟩:=(HX.o.2.1.belowZ HB.o).rec7 aT
      subst eA;obtain⟨clk,Xq,L6⟩:=AP.o.rec_ d (eI eR);have zbe:=aD (show(rs.take (j+1)).countP nU=P+(if nU d=true then 1 else 0) by rw[De,eR,Kc,<-hP];simp);have zbx:=aD (show(rs.take (j+1)).countP oG=D+(if oG d=true then 1 else 0) by rw[De,eR,Kc,<-hD];simp);have q0:=aI (HX.o.1.below HB.o).k 0;have q1:=aI (HX.o.1.below HB.o).k 1;have q2:=aI (HX.o.1.below HB.o).k 2;have zg:gO<wr.heap.size:=gM (HX.o.1.below HB.o).k;rw[<-hP,<-hD];have i0:(0:Int)<=(j:Int):=aC;have i1:(j:Int)<(n5:Int):=aC;have HM:=aD (eI eR);clear hP hD eR;rcases rec_case L6 with⟨⟨s1,s2,s3,s4,s5⟩,s6,s7⟩|⟨⟨s1,s2,s3,s4,s5⟩,s6,s7,s8⟩|⟨⟨s1,s2,s3,s4,s5⟩,s6,s7,s8⟩|⟨⟨s1,s2,s3,s4,s5⟩,s6,s7,s8⟩|⟨⟨s1,s2,s3,s4,s5⟩,s6,s7,s8,s9⟩
      .have HS:=aD (And.intro s4 s5)
       have m1:¬(0:Int)<=d.h:=aC;have m2:¬(0:Int)<=d.t:=aC;clear s4 s5 s6 s7 L6 Xq;go_wp2;go_roundw
       case rel=>exact⟨j+1,aC,by rw[zbe.o,HS.o.1];go_num,by rw[zbx.o,HS.o.2];go_num,nE,by(repeat' (first|with_reducible assumption|with_reducible exact HB.o|with_reducible apply eK|with_reducible apply zbg))⟩
       case measure=>simp[intOf];omega
      .have HS:=aD (And.intro s4 s5)
       have eO:=AP.o.at_ d HM.o s4;have oo:=L6.o;have o1:d.o≠0:=λx=>by have:=L6.ho.2 x;omega
       have zHt:=L6.f.2;obtain⟨u,hu⟩:∃u:Nat,d.o=(u:Int)+1:=⟨(d.o-1).toNat,aC⟩;rw[hu] at e2 eO oo;rw[show((u:Int)+1-1).toNat=u by omega] at eO;have Sm:u<n7:=by have:=(lX.1 eO).1;rw[HL.o.2.1] at this;exact this
       obtain⟨b7,zK1,v,eB,_,_,z7,hv,f0⟩:=(HX.o.2.2.belowZ HB.o).cellAt Sm;obtain rfl:v=d.c:=by rw[eO] at hv;injection hv with hv;exact hv.symm
       subst eB;have X:=(zyH ((u:Int)+1-1) aC).trans (show(u:Int)+1-1=(u:Int) by omega);have j0:(0:Int)<=(u:Int):=aC;have j1:(u:Int)<(n7:Int):=aC;have m1:(0:Int)<=d.h:=aC;have m2:¬(0:Int)<=d.t:=aC;have m3:¬d.h<d.f:=aC;clear s4 s5 s6 s7 s8 L6 Xq eO hv hu oo o1 zHt Sm
       go_wp2_with fail
       go_quiet (fail)
       go_wp2;go_roundw
       case rel=>exact⟨j+1,aC,by rw[zbe.o,HS.o.1];go_num,by rw[zbx.o,HS.o.2];go_num,nE,by(repeat' (first|with_reducible assumption|with_reducible exact HB.o|with_reducible apply eK|with_reducible apply zbg))⟩
       case measure=>simp[intOf];omega
      .have HS:=aD (And.intro s4 s5)
       have m1:(0:Int)<=d.h:=aC;have m2:(0:Int)<=d.t:=aC;have m3:¬d.h<d.f:=aC;have m4:¬d.t<max d.f d.h:=aC;clear s4 s5 s6 s7 s8 L6 Xq;go_wp2;go_roundw
       case rel=>exact⟨j+1,aC,by rw[zbe.o,HS.o.1];go_num,by rw[zbx.o,HS.o.2];go_num,nE,by(repeat' (first|with_reducible assumption|with_reducible exact HB.o|with_reducible apply eK|with_reducible apply zbg))⟩
       case measure=>simp[intOf];omega
      .have HS:=aD (And.intro s4 s5)
       have m1:¬(0:Int)<=d.h:=aC;have m2:(0:Int)<=d.t:=aC;have m4:¬d.t<max d.f d.h:=aC;clear s4 s5 s6 s7 s8 L6 Xq;go_wp2;go_roundw
       case rel=>exact⟨j+1,aC,by rw[zbe.o,HS.o.1];go_num,by rw[zbx.o,HS.o.2];go_num,nE,by(repeat' (first|with_reducible assumption|with_reducible exact HB.o|with_reducible apply eK|with_reducible apply zbg))⟩
       case measure=>simp[intOf];omega
      .have HS:=aD (And.intro s4 s5)
       have zA8:d.t<=3600:=by
        rcases L6.st with⟨x,_⟩|⟨_,_,x,_⟩
        .have zIZ:cU d=false:=s1
         rw[zIZ] at x;cases x
        .omega
       have X:=zyH (d.t-d.f) aC;have m1:¬(0:Int)<=d.h:=aC;have m2:(0:Int)<=d.t:=aC;have m4:¬d.t<max d.f d.h:=aC;have m5:¬d.t-d.f<o.pt:=aC;clear s4 s5 s6 s7 s8 s9 L6 Xq zA8;go_wp2;go_roundw
       case rel=>exact⟨j+1,aC,by rw[zbe.o,HS.o.1];go_num,by rw[zbx.o,HS.o.2];go_num,nE,by(repeat' (first|with_reducible assumption|with_reducible exact HB.o|with_reducible apply eK|with_reducible apply zbg))⟩
       case measure=>simp[intOf];omega
     .have e:j=n5:=aC
      subst e;have EL:=rs.take_of_length_le (zkK HL.o.1);rw[EL] at hP hD;rw[EL,<-hP,<-hD];have zec:=aD (And.intro hP hD);clear hP hD EL;go_wp2;refine HQ.o _ _ ?_;clear HQ;have h7:=HX.o.2.2.belowZ HB.o;clear HX HB;refine JO.sq L bS ?_;refine JO.pQ L bS (λTp Q HQ=>?_);replace h7:=h7.tpZ Tp 0;generalize Tt.tp wr Tp 0=w15 at h7⊢;go_wp2;refine HQ.o _ _ ?_;clear HQ;refine JO.sq L bS ?_;refine JO.pQ L bS (λTp Q HQ=>?_);replace h7:=h7.tpZ Tp 0;generalize Tt.tp w15 Tp 0=w16 at h7⊢;have HX:=aD h7;clear h7;have zKh:n7<=1048576:=zne
      go_wp2_with fail
      go_loopw [17,18] (λp i wr=>∃a:Nat,a<=n7/\p=.int .i64 (((tk.take a).countP O1:Nat):Int)/\i=.int .i64 a/\wr=w16) (λ_ i _=>n7-(intOf i).toNat)
      case atStart=>exact⟨0,lU _,rfl,rfl,rfl⟩
      case round=>
       obtain⟨a,ha,rfl,rfl,rfl⟩:=hrel;obtain⟨G,hG⟩:=aN ((tk.take a).countP O1);have bG:G<=a:=by rw[hG];exact eE zdX zaW
       by_cases aT:a<n7
       .obtain⟨b,off,x,rfl,_,_,z,hx,e0⟩:=HX.o.cellAt aT
        have pB:=aD (show(tk.take (a+1)).countP O1=G+(if decide (0<x)=true then 1 else 0) by rw[De,hx,Kc,<-hG];simp[O1]);rw[<-hG];have i0:(0:Int)<=(a:Int):=aC;have i1:(a:Int)<(n7:Int):=aC;clear hG hx;by_cases hp:(0:Int)<x
        .have zks:=aD hp
         go_wp2;go_roundw
         case rel=>exact⟨a+1,aC,by rw[pB.o,decide_eq_true zks.o];go_num,nE,trivial⟩
         case measure=>simp[intOf];omega
        .have zks:=aD hp
         go_wp2;go_roundw
         case rel=>exact⟨a+1,aC,by rw[pB.o,decide_eq_false zks.o];go_num,nE,trivial⟩
         case measure=>simp[intOf];omega
       .have e:a=n7:=aC
        subst e;have EL:=tk.take_of_length_le (zkK HL.o.2.1);rw[EL] at hG;rw[EL,<-hG];have g1:r=D:=by rw[zdY.o.2,zec.o.2,AP.o.dn]
        have g2:q=P+D:=by rw[zdY.o.1,zec.o.1,zec.o.2];exact AP.o.cl.symm
        have g3:G=P:=by rw[hG,zec.o.1];exact AP.o.n
        subst g1 g3;have Q5:((q:Nat):Int)=(r:Int)+(G:Int):=aC;clear hG EL g2;go_wp2;refine HQ.o _ _ ?_;clear HQ;refine JO.sq L bS ?_;refine JO.pQ L bS (λTp Q HQ=>?_);have X1:=(IntWalk.i64_left _).trans (IntWalk.wrap64_in ((r:Int)+(G:Int)) aC);go_wp2;refine HQ.o _ _ ?_;refine JO.rt L bS ?_;exact L8 _ _ _ rfl
end
theorem zBm {S:aP->Prop}{X:Nat->Bool}{W:aE}{n c:Nat}(hX:∀b,X b=true->∃c T fz,W.heap[b]? =some (.cells c T fz))(h:∀a,A=some a->X a.block=true)(hc:Code W A n c):Code (Ed S X W) A n c:=
 ⟨hc.le,hc.cap,λhn=>by
  obtain⟨b,off,rfl,e3,e4⟩:=hc.at_ hn;exact⟨b,off,rfl,by rw[zma];exact e3,λj hj=>by obtain⟨v,h1,h2,h3⟩:=e4 j hj;exact⟨v,zG4 hX (h _ rfl) h1 (.inl ⟨_,_,rfl⟩),h2,h3⟩⟩⟩
end Go.Proofs.YtfcjiloojkjaeaaGreatDoor
namespace Go.Proofs.YtfcjiloojkjaeaaGreatDoor
theorem zHx (Lk:Looks){p:Pinned}{s:OpenSpec}{c:OpenClaim}(kinds:List LaidKind)(ziH:Bool)(Va:Bool×String)(lk:Bool)
 (hc:c.holds p s) (hw:c.wfByText s=true) (zDQ:c.laidByTextAt Lk p kinds ziH)
 (aX:c.start=.entering) (oI:c.noBlocks=false/\c.again=false) (hm:p.checked.prog.mainIs=some (Va.1,Va.2.toList)) (hn:(!Va.1&&Va.2.isEmpty&& !lk)=false)
 (hl:∀f fn,p.checked.prog.funcNamed c.func=some f->p.checked.prog.funcs[f]? =some fn->lk=p.checked.prog.looks []/\∀(j:Nat) t,fn.params[j]? =some t->p.checked.prog.wantsStandIn t=false)
 (hg:true=c.goesBy p.checked.prog):
 Claim7.holds p (.plain s) {stood:={row:=c,standIns:=[],harness:=Va,looks:=lk},kinds:=[],alts:=[],goes:=true,laidByText:=true,laidKinds:=kinds,laidTests:=ziH,laidLooks:=Lk}:=by
 have h6:∀r:OpenClaim,zuN {stood:={row:=r,standIns:=[],harness:=Va,looks:=lk},kinds:=[]}=false:=λr=>by simpa[zuN] using hn
 have h:=Claim7.tied_new_at Lk kinds ziH (Claim7.new_of_sixth hc Va lk aX oI hm (h6 c) hl) hw;exact⟨h,(λD hD=>by cases hD),zDQ,(λh=>by cases h),hg⟩
end Go.Proofs.YtfcjiloojkjaeaaGreatDoor
