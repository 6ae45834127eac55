/-
  Part 6 of what stands behind the last text.
-/
import Derived.Lib.AppendIntMem
import Derived.LaidMore
import Derived.Test.YtfcjiloojkjaeaaGreatDoorCards
import Derived.Deep.CutBlock
import Derived.SevenTiedAt
import Derived.Test.YtfcjiloojkjaeaaGreatDoorRetFPq5
set_option linter.all false
set_option maxHeartbeats 16000000
set_option maxRecDepth 100000
open Array renaming ext'→Jq,getD_eq_getD_getElem?→xG,getElem?_eq_getElem→pS,getElem?_eq_some_iff→eB,getElem?_map→Cy,getElem?_toList→C1,mem_of_getElem?→za6,replicate→oJ,toList_append→Oo,toList_replicate→zaj
open Bool renaming and_eq_true→jF,and_false→zpp,eq_iff_iff→Nk,false_eq_true→iX,not_true→zpC,or_eq_true→Eu
open Go renaming Addr→bC,Calls→gH,Code→wY,Ending→G3,Frame→dR,FuncId→aQ,Item→dX,Oper→aZ,Operand→cK,Tape→j6,TypeId→aM,Value→aF,World→aE,bodyPost_ret→nM,execOp→aO,heap_alloc_new→gP,undef→aA,yielded→dH
open Go.Act renaming eval→wZ,mk→bJ,put→cC
open Go.Claim7 renaming isSixth→zrA
open Go.Conc renaming base→Jx
open Go.Fn renaming func→zth
open Go.Item renaming code→Ld
open Go.Lib renaming TabIs→zdZ,tabBelow_of_tabIs→zcL
open Go.MakeChecks renaming laidMetH_plain→zp8
open Go.Proofs.Tryz renaming checked→wA,f14→zew,f26→zgB,f28→zfn,f42→ze0,f54→zwT,f57→zqH,func14→zwP,func26→zro,func28→zwy,func42→zfv,prog→aK,results47→zlb,results60→zd7,underlying29→ziO
open Go.Region renaming wanted→dE
open Go.RowKit renaming Below→cF
open Go.RowKit.Below renaming heap_alloc→qE,heap_setCell→dU,refl→fW
open Go.Value renaming bool→Od,int→Is,string→zsB
open Go.World renaming cell?→lW,drewN_drewN→zsC,news_of_block→Dn,var?→zg5
open Go.World.grownBy renaming refl→zhu
open Int renaming add_zero→zbP,le_refl→zaT
open List renaming countP_append→zqf,countP_cons→zcH,getD_eq_getElem?_getD→Uu,getElem?_append_left→Og,getElem?_eq_getElem→mV,getElem?_eq_some_iff→kP,length→zrG,length_append→jH,length_cons→rG,length_map→zeT,length_nil→wD,map_cons→gT,map_nil→tW,map_toArray→vD,mem_of_getElem?→fN,mem_singleton→yX,nodup_cons→C6,nodup_nil→X7,not_mem_nil→nE,range→iQ,setIfInBounds_toArray→fO,set_cons_succ→dQ,set_cons_zero→dP,size_toArray→B6,take_add_one→Ia,take_of_length_le→zP
open Nat renaming le_refl→bF,le_succ→zg8,le_trans→eH,lt_of_le_of_lt→zav,lt_of_lt_of_le→jO,lt_or_ge→qX,lt_succ_self→yO,lt_trans→zim,zero_add→qH,zero_le→lP
open Option renaming bind_some→uY,map_eq_some_iff→zR,map_some→F8
open Option.some renaming inj→cO,injEq→jP
open SizeOf renaming sizeOf→Ny
noncomputable section
namespace Go
theorem Zq{P:Prop}(h:P:=by simp[Fm.eval]):P:=h
theorem zxD{P:Prop}(h:P:=by rw[<-zbW] at*;exact uO.o.oldB eF HK.o):P:=h
theorem zlT{P:Prop}(h:P:=by rw[hp,hg,hf];kernel_rfl):P:=h
theorem zgb{P:Prop}(h:P:=by rw[bS];rfl):P:=h
end Go
namespace Go.Proofs.YtfcjiloojkjaeaaGreatDoor
open Go.RowKit Go.Mt Go.Conc Go.Tt Go.Maps Go.Conc.Lib Go.ConcR.Gen
open Go.ConcR (KK wgBlock WgAt stA smA rd wr)
def o0:Go.Code:=(ze0.body).getD .skip
def rRH0:Go.Code:=match o0 with| .seq (a) _=>a|_=>.skip
def rRH1:Go.Code:=match o0 with| .seq _ (.seq (.seq (a) _) _)=>a|_=>.skip
def rRH2:Go.Code:=match o0 with| .seq _ (.seq (.seq _ (.cond _ (.seq (a) _) _)) _)=>a|_=>.skip
def rRH3:Go.Code:=match o0 with| .seq _ (.seq _ (.seq (.seq (a) _) _))=>a|_=>.skip
def rRH4:Go.Code:=match o0 with| .seq _ (.seq _ (.seq (.seq _ (.block _ (.loop (.seq (a) _)))) _))=>a|_=>.skip
def rRH5:Go.Code:=match o0 with| .seq _ (.seq _ (.seq (.seq _ (.block _ (.loop (.seq _ (.seq _ (.seq (.block _ (.seq (a) _)) _)))))) _))=>a|_=>.skip
def rRH6:Go.Code:=match o0 with| .seq _ (.seq _ (.seq (.seq _ (.block _ (.loop (.seq _ (.seq _ (.seq (.block _ (.seq _ (.seq (a) _))) _)))))) _))=>a|_=>.skip
def rRH7:Go.Code:=match o0 with| .seq _ (.seq _ (.seq (.seq _ (.block _ (.loop (.seq _ (.seq _ (.seq (.block _ (.seq _ (.seq _ (.cond _ (.seq (a) _) _)))) _)))))) _))=>a|_=>.skip
def rRH8:Go.Code:=match o0 with| .seq _ (.seq _ (.seq (.seq _ (.block _ (.loop (.seq _ (.seq _ (.seq _ (a))))))) _))=>a|_=>.skip
def rRH9:Go.Code:=match o0 with| .seq _ (.seq _ (.seq _ (.seq (a) _)))=>a|_=>.skip
def znn:Go.Code:=match o0 with| .seq _ (.seq _ (.seq _ (.seq _ (.seq (.seq (a) _) _))))=>a|_=>.skip
def rRH11:Go.Code:=match o0 with| .seq _ (.seq _ (.seq _ (.seq _ (.seq (.seq _ (.block _ (.loop (.seq (a) _)))) _))))=>a|_=>.skip
def zca:Go.Code:=match o0 with| .seq _ (.seq _ (.seq _ (.seq _ (.seq (.seq _ (.block _ (.loop (.seq _ (.seq _ (.seq (.block _ (a)) _)))))) _))))=>a|_=>.skip
def rRH13:Go.Code:=match o0 with| .seq _ (.seq _ (.seq _ (.seq _ (.seq (.seq _ (.block _ (.loop (.seq _ (.seq _ (.seq _ (a))))))) _))))=>a|_=>.skip
def M2:Go.Code:=match o0 with| .seq _ (.seq _ (.seq _ (.seq _ (.seq _ (.seq (a) _)))))=>a|_=>.skip
def znt:Go.Code:=match o0 with| .seq _ (.seq _ (.seq _ (.seq _ (.seq _ (.seq _ (.seq (.seq (a) _) _))))))=>a|_=>.skip
def zku:Go.Code:=match o0 with| .seq _ (.seq _ (.seq _ (.seq _ (.seq _ (.seq _ (.seq (.seq _ (.block _ (.loop (.seq (a) _)))) _))))))=>a|_=>.skip
def zcU:Go.Code:=match o0 with| .seq _ (.seq _ (.seq _ (.seq _ (.seq _ (.seq _ (.seq (.seq _ (.block _ (.loop (.seq _ (.seq _ (.seq (.block _ (.seq (a) _)) _)))))) _))))))=>a|_=>.skip
def Qe:Go.Code:=match o0 with| .seq _ (.seq _ (.seq _ (.seq _ (.seq _ (.seq _ (.seq (.seq _ (.block _ (.loop (.seq _ (.seq _ (.seq (.block _ (.seq _ (.seq (a) _))) _)))))) _))))))=>a|_=>.skip
def Uh:Go.Code:=match o0 with| .seq _ (.seq _ (.seq _ (.seq _ (.seq _ (.seq _ (.seq (.seq _ (.block _ (.loop (.seq _ (.seq _ (.seq (.block _ (.seq _ (.seq _ (.seq (a) _)))) _)))))) _))))))=>a|_=>.skip
def Sm:Go.Code:=match o0 with| .seq _ (.seq _ (.seq _ (.seq _ (.seq _ (.seq _ (.seq (.seq _ (.block _ (.loop (.seq _ (.seq _ (.seq (.block _ (.seq _ (.seq _ (.seq _ (a))))) _)))))) _))))))=>a|_=>.skip
def zmA:Go.Code:=match o0 with| .seq _ (.seq _ (.seq _ (.seq _ (.seq _ (.seq _ (.seq (.seq _ (.block _ (.loop (.seq _ (.seq _ (.seq _ (a))))))) _))))))=>a|_=>.skip
def Za:Go.Code:=match o0 with| .seq _ (.seq _ (.seq _ (.seq _ (.seq _ (.seq _ (.seq _ (.seq (a) _)))))))=>a|_=>.skip
def Yk:Go.Code:=match o0 with| .seq _ (.seq _ (.seq _ (.seq _ (.seq _ (.seq _ (.seq _ (.seq _ (.seq (a) _))))))))=>a|_=>.skip
def X9:Go.Code:=match o0 with| .seq _ (.seq _ (.seq _ (.seq _ (.seq _ (.seq _ (.seq _ (.seq _ (.seq _ (.seq (a) _)))))))))=>a|_=>.skip
def Rc:Go.Code:=match o0 with| .seq _ (.seq _ (.seq _ (.seq _ (.seq _ (.seq _ (.seq _ (.seq _ (.seq _ (.seq _ (.seq (a) _))))))))))=>a|_=>.skip
def zHv:o0=.seq (rRH0) (.seq (.seq (rRH1) (.cond (.tmp 17) (.seq (rRH2) (.ret)) (.skip))) (.seq (.seq (rRH3) (.block 0 (.loop (.seq (rRH4) (.seq (.cond (.tmp 21) (.skip) (.exit 0)) (.seq (.block 1 (.seq (rRH5) (.seq (rRH6) (.cond (.tmp 28) (.seq (rRH7) (.ret)) (.skip))))) (rRH8))))))) (.seq (rRH9) (.seq (.seq (znn) (.block 2 (.loop (.seq (rRH11) (.seq (.cond (.tmp 39) (.skip) (.exit 2)) (.seq (.block 3 (zca)) (rRH13))))))) (.seq (M2) (.seq (.seq (znt) (.block 4 (.loop (.seq (zku) (.seq (.cond (.tmp 54) (.skip) (.exit 4)) (.seq (.block 5 (.seq (zcU) (.seq (Qe) (.seq (Uh) (Sm))))) (zmA))))))) (.seq (Za) (.seq (Yk) (.seq (X9) (.seq (Rc) (.ret))))))))))):=rfl
def l5:Array Oper:=match zca with| .region _ ops _=>ops|_=>#[]
def zyJ:zca=.region 12 l5 true:=rfl
abbrev zqL:Oper:=aV l5 0 (some 40) (.load 63 (.tmp 7))
def zF3:l5[0]? =some zqL:=rfl
abbrev zoo:Oper:=aV l5 1 (some 41) (.load 63 (.tmp 7))
def zFJ:l5[1]? =some zoo:=rfl
abbrev zxK:Oper:=aV l5 2 (some 42) (.nilCheck (.tmp 41))
def zAe:l5[2]? =some zxK:=rfl
abbrev zwD:Oper:=aV l5 3 (some 43) (.fieldAddr 72 (.tmp 42) 1)
def zFp:l5[3]? =some zwD:=rfl
abbrev zof:Oper:=aV l5 4 (some 44) (.load 65 (.tmp 43))
def zEl:l5[4]? =some zof:=rfl
abbrev zrv:Oper:=aV l5 5 (some 45) (.makeChan 84 (.const (.int .i64 0)))
def zly:l5[5]? =some zrv:=rfl
abbrev znH:Oper:=aV l5 6 (some 46) (.buildSlice 65 1 #[(0,.tmp 45)])
def zgx:l5[6]? =some znH:=rfl
abbrev zvp:Oper:=aV l5 7 (some 47) (.call ⟨.builtin .append,#[.tmp 44,.tmp 46],#[65,65]⟩)
def zlN:l5[7]? =some zvp:=rfl
abbrev zuc:Oper:=aV l5 8 (some 48) (.nilCheck (.tmp 40))
def zAX:l5[8]? =some zuc:=rfl
abbrev zxu:Oper:=aV l5 9 (some 49) (.fieldAddr 72 (.tmp 48) 1)
def zFv:l5[9]? =some zxu:=rfl
abbrev zii:Oper:=aV l5 10 none (.store 65 (.tmp 49) (.tmp 47))
def zjU:l5[10]? =some zii:=rfl
def Ox:Array Oper:=match zcU with| .region _ ops _=>ops|_=>#[]
def zCO:zcU=.region 17 Ox false:=rfl
def zE4:iQ Ox.size=[0,1,2]:=rfl
abbrev oRH17_0:Oper:=aV Ox 0 (some 55) (.makeChan 95 (.const (.int .i64 0)))
def zHU:Ox[0]? =some oRH17_0:=rfl
abbrev zpb:Oper:=aV Ox 1 (some 9) (.alloc 95)
def zEM:Ox[1]? =some zpb:=rfl
abbrev zwZ:Oper:=aV Ox 2 none (.store 95 (.tmp 9) (.tmp 55))
def zBi:Ox[2]? =some zwZ:=rfl
def lS:Array Oper:=match Qe with| .region _ ops _=>ops|_=>#[]
def zIF:Qe=.region 18 lS true:=rfl
abbrev zvW:Oper:=aV lS 0 (some 56) (.load 63 (.tmp 7))
def zIx:lS[0]? =some zvW:=rfl
abbrev zu8:Oper:=aV lS 1 (some 57) (.load 63 (.tmp 7))
def zzh:lS[1]? =some zu8:=rfl
abbrev zsN:Oper:=aV lS 2 (some 58) (.nilCheck (.tmp 57))
def zyG:lS[2]? =some zsN:=rfl
abbrev zuN:Oper:=aV lS 3 (some 59) (.fieldAddr 72 (.tmp 58) 4)
def zBB:lS[3]? =some zuN:=rfl
abbrev zub:Oper:=aV lS 4 (some 60) (.load 68 (.tmp 59))
def zAz:lS[4]? =some zub:=rfl
abbrev zx7:Oper:=aV lS 5 (some 61) (.load 95 (.tmp 9))
def zCQ:lS[5]? =some zx7:=rfl
abbrev zjF:Oper:=aV lS 6 (some 62) (.buildSlice 68 1 #[(0,.tmp 61)])
def zbB:lS[6]? =some zjF:=rfl
abbrev zoe:Oper:=aV lS 7 (some 63) (.call ⟨.builtin .append,#[.tmp 60,.tmp 62],#[68,68]⟩)
def zfj:lS[7]? =some zoe:=rfl
abbrev zoL:Oper:=aV lS 8 (some 64) (.nilCheck (.tmp 56))
def zzf:lS[8]? =some zoL:=rfl
abbrev zoa:Oper:=aV lS 9 (some 65) (.fieldAddr 72 (.tmp 64) 4)
def zAL:lS[9]? =some zoa:=rfl
abbrev ziy:Oper:=aV lS 10 none (.store 68 (.tmp 65) (.tmp 63))
def zfR:lS[10]? =some ziy:=rfl
def zfo:Array Oper:=match Uh with| .region _ ops _=>ops|_=>#[]
def zAd:Uh=.region 19 zfo false:=rfl
def zET:iQ zfo.size=[0]:=rfl
abbrev oRH19_0:Oper:=aV zfo 0 (some 66) (.call ⟨.value (.func 53),#[.tmp 8,.const (.int .i64 1)],#[94,3]⟩)
def zDt:zfo[0]? =some oRH19_0:=rfl
def Mo:Array Oper:=match Sm with| .region _ ops _=>ops|_=>#[]
def zB5:Sm=.region 20 Mo false:=rfl
def zCf:iQ Mo.size=[0,1]:=rfl
abbrev oRH20_0:Oper:=aV Mo 0 (some 67) (.makeFunc (zth 54) #[] #[.tmp 8,.tmp 9])
def zGM:Mo[0]? =some oRH20_0:=rfl
abbrev oRH20_1:Oper:=aV Mo 1 none (.go ⟨.value (.tmp 67),#[],#[]⟩)
def zAV:Mo[1]? =some oRH20_1:=rfl
def zgv:Array Oper:=match Za with| .region _ ops _=>ops|_=>#[]
def zCe:Za=.region 22 zgv false:=rfl
def zBP:iQ zgv.size=[0]:=rfl
abbrev oRH22_0:Oper:=aV zgv 0 (some 69) (.call ⟨.value (.func 53),#[.tmp 8,.const (.int .i64 1)],#[94,3]⟩)
def zGQ:zgv[0]? =some oRH22_0:=rfl
def Xm:Array Oper:=match Yk with| .region _ ops _=>ops|_=>#[]
def zBS:Yk=.region 23 Xm false:=rfl
def zzG:iQ Xm.size=[0,1]:=rfl
abbrev oRH23_0:Oper:=aV Xm 0 (some 70) (.makeFunc (zth 57) #[] #[.tmp 8,.tmp 7,.tmp 3])
def zD6:Xm[0]? =some oRH23_0:=rfl
abbrev oRH23_1:Oper:=aV Xm 1 none (.go ⟨.value (.tmp 70),#[],#[]⟩)
def zEO:Xm[1]? =some oRH23_1:=rfl
def Yo:Array Oper:=match X9 with| .region _ ops _=>ops|_=>#[]
def zEc:X9=.region 24 Yo false:=rfl
abbrev oRH24_0:Oper:=aV Yo 0 (some 71) (.call ⟨.value (.func 59),#[.tmp 8],#[94]⟩)
def tX:wF aK 42:=⟨_,zfv,.inr (.inl ⟨_,rfl⟩)⟩
def info_ch:(aK.info? 84).map (λi=>(i.zero,i.size,i.bytes))=some (some (.chan none),1,8):=aT
def info_cq:(aK.info? 95).map (λi=>(i.zero,i.size,i.bytes))=some (some (.chan none),1,8):=aT
theorem zFi:∃ie,aK.info? 3=some ie:=by
 obtain⟨i,hi,_⟩:=zR.1 Vs;exact⟨i,hi⟩
theorem zpm (xs:List Nat)(g:Nat):J5 (xs++[g])=J5 xs++[.chan (some g)]:=by simp[J5]
structure WH where
 lo:Nat
 hb:Nat
 gh:Nat
 gq:Nat
 q:Nat
 v0:fJ
 w0:aE
 v:fJ
 d:nU
def WH.P1 (c:WH)(w:aE):Prop:=bG w c.lo c.hb c.v c.d/\bO c.hb c.v0 c.w0 c.v w/\c.lo<=w.heap.size
variable {c:WH}{w:aE}
def WH.P1.tp (h:c.P1 w)(T:j6)(n:Nat):c.P1 (Tt.tp w T n):=⟨h.1.tp T n,h.2.1.tp T n,h.2.2⟩
def fJ.maps (v v':fJ):Prop:=v'.pC=v.pC/\v'.pO=v.pO/\v'.pM=v.pM
def zsZ:I9 l5=true:=aT
def zBJ:N5 l5 [5,6,7,10]=true:=aT
def zIo:l5.toList.map (·.dst)=[some 40,some 41,some 42,some 43,some 44,some 45,some 46,some 47,some 48,some 49,none]:=rfl
def zza:l5.toList=[zqL,zoo,zxK,zwD,zof,zrv,znH,zvp,zuc,zxu,zii]:=rfl
def Gl (hb gh gq q:Nat)(sA:aF)(i:Nat):Value:=([.pointer (some ⟨hb,0,none⟩),.pointer (some ⟨hb,0,none⟩),.pointer (some ⟨hb,0,none⟩),.pointer (some ⟨hb,3,none⟩),sA,aA,aA,aA,.pointer (some ⟨hb,0,none⟩),.pointer (some ⟨hb,3,none⟩),aA]:List aF).getD i aA
variable {V:Nat->aF}{Tf:Array aF}{s:Nat}
theorem bsRL (hT:xL Tf V)(e:V 45=.chan (some s)):(aO (bJ Tf []).eval znH).run aK w=.ok (.value (.slice (some ⟨w.heap.size,0,none⟩) 1 1)) (w.alloc (.cells #[.chan (some s)] 84)):=by
 unfold aO;go_simp
variable {sA:aF}{T:j6}
theorem stRL {hb q1 n q2:Nat}(hT:xL Tf V)(e1:V 49=.pointer (some ⟨hb,3,none⟩))(e2:V 47=.slice (some ⟨q1,0,none⟩) n q2)(hh:w.cell? ⟨hb,3,none⟩=some sA)(hf:w.frozen? ⟨hb,3,none⟩=false):(aO (bJ Tf []).eval zii).run aK (Tt.tp w T 0)=.ok .skip (Tt.tp (w.setCell ⟨hb,3,none⟩ (.slice (some ⟨q1,0,none⟩) n q2)) T 0):=by
 have zgq:(Tt.tp w T 0).cell? ⟨hb,3,none⟩=some sA:=hh;have Eb:(Tt.tp w T 0).frozen? ⟨hb,3,none⟩=false:=hf;clear hh hf;unfold aO;go_simp
 try rfl
def WH.RdRL (c:WH)(w:aE):Prop:=w.cell? ⟨c.hb,3,none⟩=some c.v.sL/\w.heap[c.gh]? =some (.cells #[.pointer (some ⟨c.hb,0,none⟩)] 63)
def WH.RL2 (c:WH)(g:Nat)(w:aE):Prop:=∃v2,bG w c.lo c.hb v2 {c.d with ln:=c.d.ln++[g]}/\bO c.hb c.v0 c.w0 v2 w/\c.v.maps v2
variable {g:Nat}
theorem WH.RL2.tp (h:c.RL2 g w)(T:j6)(n:Nat):c.RL2 g (Tt.tp w T n):=by
 obtain⟨v1,a,d,e⟩:=h;exact⟨v1,a.tp T n,d.tp T n,e⟩
def WH.StRL (c:WH)(vs:List aF)(w':aE):Prop:=match vs with
 |[]=>c.P1 w'/\∀x∈c.d.ln,x<w'.heap.size
 |[a]=>∃g,a=.chan (some g)/\(∀x∈c.d.ln,x<g)/\g<w'.heap.size/\c.P1 w'
 |[a,b]=>∃g q,b=.slice (some ⟨q,0,none⟩) 1 1/\w'.heap[q]? =some (.cells #[.chan (some g)] 84)/\(∀x∈c.d.ln,x<g)/\g<w'.heap.size/\c.P1 w'
 |[a,b,x]=>∃g q1 q2,x=.slice (some ⟨q1,0,none⟩) (c.d.ln.length+1) q2/\w'.frozen? ⟨c.hb,3,none⟩=false/\(∀x∈c.d.ln,x<g)/\g<w'.heap.size/\c.RL2 g (w'.setCell ⟨c.hb,3,none⟩ x)
 |_=>∃g,(∀x∈c.d.ln,x<g)/\g<w'.heap.size/\c.RL2 g w'
section
variable {Post:aF->aE->Prop}{Shun:Loc->Prop}{W0:aE}{St:Nat->Prop}{R0:Pr}{base:List dR}
def SRL (Post:aF->aE->Prop)(Shun:Loc->Prop)(W0:aE)(St:Nat->Prop)(R0:Pr)(base:List dR)(c:WH)(K0:Pr)(vs:List aF)(C':Cx Unit)(l':Unit)(w':aE):Prop:=∃K',K0.le K'/\C'=Gd aK Da fU Post Shun W0 St K' R0 base/\(vs.length<4->c.RdRL w')/\c.StRL vs w'
variable {c:WH}
theorem SRL.tp {K0:Pr}(vs:List aF)(C':Cx Unit)(l':Unit)(w':aE)(T:j6)(n:Nat)(h:SRL Post Shun W0 St R0 base c K0 vs C' l' w'):SRL Post Shun W0 St R0 base c K0 vs C' l' (Tt.tp w' T n):=by
 obtain⟨K',h1,h2,h3,h4⟩:=h;refine⟨K',h1,h2,h3,?_⟩;rcases vs with _|⟨a,_|⟨b,_|⟨x,_|⟨y,vs⟩⟩⟩⟩
 .exact⟨h4.1.tp T n,h4.2⟩
 .obtain⟨g,a,b,d,e⟩:=h4
  exact⟨g,a,b,d,e.tp T n⟩
 .obtain⟨g,q,a,b,c,d,e⟩:=h4
  exact⟨g,q,a,b,c,d,e.tp T n⟩
 .obtain⟨g,q1,q2,a,b,c,d,e⟩:=h4
  exact⟨g,q1,q2,a,b,c,d,WH.RL2.tp (w:=w'.setCell _ _) e T n⟩
 .obtain⟨g,a,b,d⟩:=h4
  exact⟨g,a,b,d.tp T n⟩
theorem cw_RL {K:Pr}(zO:c.d.ln.length<=1000)(zey:some c.gh∉parts c.v c.hb){t0:Array aF}{w:aE}{kk:List dX}(hz:t0.size=73)(Gf:t0.getD 7 aA=.pointer (some ⟨c.gh,0,none⟩))
 (hk:∀vs C' l' w',vs.length=4->SRL Post Shun W0 St R0 base c K vs C' l' w'->BO C' l' ⟨42,dF l5 (VV [5,6,7,10] (Gl c.hb c.gh c.gq c.q c.v.sL) vs) t0,.inRegion l5 []::kk,false⟩ w') (h0:SRL Post Shun W0 St R0 base c K [] (Gd aK Da fU Post Shun W0 St K R0 base) () w):BO (Gd aK Da fU Post Shun W0 St K R0 base) () ⟨42,t0,.code zca::kk,false⟩ w:=by
 rw[zyJ];have KO:=Us zsZ;refine BO.drawn (p:=aK) (gs:=Da) (fs:=fU) wA.mixed [5,6,7,10] (Gl c.hb c.gh c.gq c.q c.v.sL) (SRL Post Shun W0 St R0 base c K) (λvs C l w h=>by
  obtain⟨K',_,rfl,_⟩:=h;exact⟨dD,rfl,rfl,rfl,nF,λ_ _ _ _ _=>nE⟩) zsZ zBJ Lz (λvs K l w T e h=>SRL.tp vs K l w T e h) (λi o ho hi=>?_) (λvs ci o C' l' w' hc ho hS t rest mJ gA=>?_) hk h0
 .have hl:l5.toList[i]? =some o:=by rw[C1];exact ho
  rw[zza] at hl;have aS:i<11:=by have:=(kP.1 hl).1;simpa using this
  have tn:∀(vs:List aF) {j:Nat} {oj:aZ} {s:Tmp} {v:aF},l5[j]? =some oj->oj.dst=some s->s<t0.size->VV [5,6,7,10] (Gl c.hb c.gh c.gq c.q c.v.sL) vs j=v->(dF l5 (VV [5,6,7,10] (Gl c.hb c.gh c.gq c.q c.v.sL) vs) t0).getD s aA=v:=λvs _ _ _ _ a b c d=>qP KO a b c d;have tq:∀(vs:List aF) {s:Tmp},Ht l5 s=false->(dF l5 (VV [5,6,7,10] (Gl c.hb c.gh c.gq c.q c.v.sL) vs) t0).getD s aA=t0.getD s undef:=λvs _ a=>zg0 KO a;have O2:∀{vs:List aF} {C' l' w'},(SRL Post Shun W0 St R0 base c K) vs C' l' w'->vs.length<4->c.RdRL w':=λh hv=>by
   obtain⟨_,_,_,h,_⟩:=h;exact h hv
  rcases i with _|_|_|_|_|_|_|_|_|_|_|i
  .obtain rfl:=cO hl
   exact⟨aT,λvs K' l' w' hv hS=>⟨eE rfl,rd2 (.pointer (some ⟨c.hb,0,none⟩)) ((tq vs aT).trans Gf) (aI (O2 hS hv).2 0)⟩⟩
  .obtain rfl:=cO hl
   exact⟨aT,λvs K' l' w' hv hS=>⟨eE rfl,rd2 (.pointer (some ⟨c.hb,0,none⟩)) ((tq vs aT).trans Gf) (aI (O2 hS hv).2 0)⟩⟩
  .obtain rfl:=cO hl
   exact⟨aT,λvs K' l' w' hv hS=>⟨eE rfl,vG (.pointer (some ⟨c.hb,0,none⟩)) (tn vs zFJ rfl kS rfl)⟩⟩
  .obtain rfl:=cO hl
   exact⟨aT,λvs K' l' w' hv hS=>⟨eE rfl,vG (.pointer (some ⟨c.hb,3,none⟩)) (tn vs zAe rfl kS rfl)⟩⟩
  .obtain rfl:=cO hl
   exact⟨aT,λvs K' l' w' hv hS=>⟨eE rfl,rd2 (c.v.sL) (tn vs zFp rfl kS rfl) (O2 hS hv).1⟩⟩
  .exact absurd aH hi
  .exact absurd aH hi
  .exact absurd aH hi
  .obtain rfl:=cO hl
   exact⟨aT,λvs K' l' w' hv hS=>⟨eE rfl,vG (.pointer (some ⟨c.hb,0,none⟩)) (tn vs zF3 rfl kS rfl)⟩⟩
  .obtain rfl:=cO hl
   exact⟨aT,λvs K' l' w' hv hS=>⟨eE rfl,vG (.pointer (some ⟨c.hb,3,none⟩)) (tn vs zAX rfl kS rfl)⟩⟩
  .exact absurd aH hi
  .omega
 .rcases vs with _|⟨a,_|⟨b,_|⟨c',_|⟨d',vs⟩⟩⟩⟩
  .obtain rfl:5=ci:=by simpa using hc
   rw[zly] at ho;obtain rfl:=cO ho;obtain⟨K',hK,rfl,hR,⟨s1,s2⟩⟩:=hS;obtain⟨ie,jY⟩:=zFi;refine BO.makeK dD zly (eE rfl) rfl Tryz.underlying84 jY (λ_ _=>nE) (I':=λ_=>IA W0 St Shun R0) (λR τ W hi ht aS=>?_) (λg=>?_)
   .have hi:IA W0 St Shun R0 R τ W:=hi
    have sz:(W.alloc (.chan 0 #[] false 0 0 false)).heap.size=W.heap.size+1:=uD _ _;have hz:=hi.kp.size;exact⟨⟨hi.kp.os,hi.kp.tape,hi.kp.output,by rw[sz];omega,λb hb=>(Bt aC).trans (hi.kp.block b hb),hi.kp.old⟩,⟨hi.sh.old,hi.sh.rel,λl b hl hb=>hi.sh.new l b hl (by rw[sz] at hb;omega)⟩,hi.still,hi.le⟩
   .exact gA _ _ _ _ ⟨K'.add w'.heap.size g,wX hK (Pr.le_add _ _ _),rfl,λ_=>⟨Bo (hR aN).1 _,dG (hR aN).2 _⟩,w'.heap.size,rfl,s2,by rw[uD];exact yO _,s1.1.alloc _,s1.2.1.trans (bO.below (eT (fW _ _) _)),eH s1.2.2 (by rw[uD];exact zg8 _)⟩
  .obtain rfl:6=ci:=by simpa using hc
   rw[zgx] at ho;obtain rfl:=cO ho;obtain⟨K',hK,rfl,hR,g,rfl,s2,s3,z3,z5,s6⟩:=hS;have V1:(dF l5 (VV [5,6,7,10] (Gl c.hb c.gh c.gq c.q c.v.sL) [.chan (some g)]) t0).getD 45 aA=.chan (some g):=qP KO zly rfl kS rfl;refine BO.op nF dD zgx (eE rfl) aT (λs hs=>nE) (λT=>⟨.slice (some ⟨w'.heap.size,0,none⟩) 1 1,(Tt.tp w' T 0).alloc (.cells #[.chan (some g)] 84),.inl ?_,?_⟩)
   .rw[Fi (KO.sel 6 _ zgx) mJ]
    have hT:xL (dF l5 (VV [5,6,7,10] (Gl c.hb c.gh c.gq c.q c.v.sL) [.chan (some g)]) t0) (λs=>(dF l5 (VV [5,6,7,10] (Gl c.hb c.gh c.gq c.q c.v.sL) [.chan (some g)]) t0).getD s aA):=λs=>rfl;exact bsRL hT V1
   .have al:bO c.hb c.v w' c.v ((Tt.tp w' T 0).alloc (.cells #[.chan (some g)] 84)):=(bO.refl.tp T 0).trans (bO.below (eT (fW _ _) _))
    exact gA _ _ _ _ ⟨K',hK,rfl,λ_=>⟨Bo (hR aN).1 _,dG (hR aN).2 _⟩,g,_,rfl,gP _ _,s2,zim s3 (by show _<((Tt.tp w' T 0).alloc _).heap.size;rw[uD];exact yO _),(z3.tp T 0).alloc _,z5.trans al,eH s6 zeh⟩
  .obtain rfl:7=ci:=by simpa using hc
   rw[zlN] at ho;obtain rfl:=cO ho;obtain⟨K',hK,rfl,hR,g,gs,rfl,zai,s2,s3,z3,z5,s6⟩:=hS;have zkM:=Gu mJ (s:=44) aH (qP KO zEl rfl kS rfl);have zne:=Gu mJ (s:=46) aH (qP KO zgx rfl kS rfl);have zh8:some c.gh∉parts c.v c.hb:=zey;refine BO.op nF dD zlN (eE rfl) aT (λs hs=>nE) (λT=>?_);have a1:=z3.tp T 0;obtain⟨q1,q2,w5,fM,cT,mL,fC⟩:=On (w:=Tt.tp w' T 0) (t:=65) (ty:=65) info_ch Tryz.underlying65 rfl aH a1.L (g:=gs) (cs:=#[.chan (some g)]) (news:=[.chan (some g)]) zai rfl (m:=1) rfl aH Mp aC aH s6;obtain⟨a6,t6⟩:=a1.putL mL (xs:=c.d.ln++[g]) (by rw[zpm];exact cT) aN fC;have x9:=(a1.other (j:=1) (c:=3) (x:=c.v.sL) rfl aH mL (.slice (some ⟨q1,0,none⟩) (c.d.ln.length+1) q2)).2.trans a1.blk;have E9:w5.heap[c.gh]? =some _:=(mL.block c.gh (iZ (hR aN).2) (λe=>zh8 (fN (i:=1) (show(parts c.v c.hb)[1]? =some (some c.gh) by rw[e];rfl)))).trans (hR aN).2;have cM:w'.heap.size<=w5.heap.size:=mL.size;refine⟨_,w5,.inl (Yr rfl zkM zne fM),gA _ _ _ _ ⟨K',hK,rfl,λ_=>⟨aI x9 3,E9⟩,g,q1,q2,rfl,eW x9 3,s2,jO s3 cM,_,a6,z5.trans ((bO.refl.tp T 0).trans t6),rfl,rfl,rfl⟩⟩
  .obtain rfl:10=ci:=by simpa using hc
   rw[zjU] at ho;obtain rfl:=cO ho;obtain⟨K',hK,rfl,hR,g,q1,q2,rfl,nZ,s2,s3,zF⟩:=hS;have V1:(dF l5 (VV [5,6,7,10] (Gl c.hb c.gh c.gq c.q c.v.sL) [a,b,.slice (some ⟨q1,0,none⟩) (c.d.ln.length+1) q2]) t0).getD 47 aA=.slice (some ⟨q1,0,none⟩) (c.d.ln.length+1) q2:=qP KO zlN rfl kS rfl;have V2:(dF l5 (VV [5,6,7,10] (Gl c.hb c.gh c.gq c.q c.v.sL) [a,b,.slice (some ⟨q1,0,none⟩) (c.d.ln.length+1) q2]) t0).getD 49 aA=.pointer (some ⟨c.hb,3,none⟩):=qP KO zFv rfl kS rfl;refine BO.op nF dD zjU (eE rfl) aT (λs hs=>nE) (λT=>⟨aA,Tt.tp (w'.setCell ⟨c.hb,3,none⟩ (.slice (some ⟨q1,0,none⟩) (c.d.ln.length+1) q2)) T 0,.inr ⟨?_,rfl⟩,?_⟩)
   .rw[Fi (KO.sel 10 _ zjU) mJ]
    have hT:xL (dF l5 (VV [5,6,7,10] (Gl c.hb c.gh c.gq c.q c.v.sL) [a,b,.slice (some ⟨q1,0,none⟩) (c.d.ln.length+1) q2]) t0) (λs=>(dF l5 (VV [5,6,7,10] (Gl c.hb c.gh c.gq c.q c.v.sL) [a,b,.slice (some ⟨q1,0,none⟩) (c.d.ln.length+1) q2]) t0).getD s aA):=λs=>rfl;exact stRL hT V2 V1 (hR aN).1 nZ
   .exact gA aA _ _ _ ⟨K',hK,rfl,λh=>absurd h aN,g,s2,(by show g<(w'.setCell _ _).heap.size;rw[Rn];exact s3),WH.RL2.tp zF T 0⟩
  .simp at hc
end
def zqR:I9 lS=true:=aT
def zyt:N5 lS [6,7,10]=true:=aT
def zoZ:lS.toList.map (·.dst)=[some 56,some 57,some 58,some 59,some 60,some 61,some 62,some 63,some 64,some 65,none]:=rfl
def zGS:lS.toList=[zvW,zu8,zsN,zuN,zub,zx7,zjF,zoe,zoL,zoa,ziy]:=rfl
def G0 (hb gh gq q:Nat)(sA:aF)(i:Nat):Value:=([.pointer (some ⟨hb,0,none⟩),.pointer (some ⟨hb,0,none⟩),.pointer (some ⟨hb,0,none⟩),.pointer (some ⟨hb,6,none⟩),sA,.chan (some q),aA,aA,.pointer (some ⟨hb,0,none⟩),.pointer (some ⟨hb,6,none⟩),aA]:List aF).getD i aA
theorem bsRQ (hT:xL Tf V)(e:V 61=.chan (some s)):(aO (bJ Tf []).eval zjF).run aK w=.ok (.value (.slice (some ⟨w.heap.size,0,none⟩) 1 1)) (w.alloc (.cells #[.chan (some s)] 95)):=by
 unfold aO;go_simp
theorem stRQ {hb q1 n q2:Nat}(hT:xL Tf V)(e1:V 65=.pointer (some ⟨hb,6,none⟩))(e2:V 63=.slice (some ⟨q1,0,none⟩) n q2)(hh:w.cell? ⟨hb,6,none⟩=some sA)(hf:w.frozen? ⟨hb,6,none⟩=false):(aO (bJ Tf []).eval ziy).run aK (Tt.tp w T 0)=.ok .skip (Tt.tp (w.setCell ⟨hb,6,none⟩ (.slice (some ⟨q1,0,none⟩) n q2)) T 0):=by
 have zgq:(Tt.tp w T 0).cell? ⟨hb,6,none⟩=some sA:=hh;have Eb:(Tt.tp w T 0).frozen? ⟨hb,6,none⟩=false:=hf;clear hh hf;unfold aO;go_simp
 try rfl
def WH.RdRQ (c:WH)(w:aE):Prop:=w.cell? ⟨c.hb,6,none⟩=some c.v.sQ/\w.heap[c.gh]? =some (.cells #[.pointer (some ⟨c.hb,0,none⟩)] 63)/\w.heap[c.gq]? =some (.cells #[.chan (some c.q)] 95)
def WH.RQ2 (c:WH)(g:Nat)(w:aE):Prop:=∃v2,bG w c.lo c.hb v2 {c.d with qn:=c.d.qn++[g]}/\bO c.hb c.v0 c.w0 v2 w/\c.v.maps v2
theorem WH.RQ2.tp (h:c.RQ2 g w)(T:j6)(n:Nat):c.RQ2 g (Tt.tp w T n):=by
 obtain⟨v1,a,d,e⟩:=h;exact⟨v1,a.tp T n,d.tp T n,e⟩
def WH.StRQ (c:WH)(vs:List aF)(w':aE):Prop:=match vs with
 |[]=>c.P1 w'
 |[b]=>(∃q,b=.slice (some ⟨q,0,none⟩) 1 1/\w'.heap[q]? =some (.cells #[.chan (some c.q)] 95))/\c.P1 w'
 |[b,x]=>(∃q1 q2,x=.slice (some ⟨q1,0,none⟩) (c.d.qn.length+1) q2)/\w'.frozen? ⟨c.hb,6,none⟩=false/\c.RQ2 c.q (w'.setCell ⟨c.hb,6,none⟩ x)
 |_=>c.RQ2 c.q w'
section
def SRQ {L:Type}(c:WH)(C:Cx L)(l:L)(vs:List aF)(C':Cx L)(l':L)(w':aE):Prop:=C'=C/\l'=l/\(vs.length<3->c.RdRQ w')/\c.StRQ vs w'
variable {L:Type}{c:WH}
theorem SRQ.tp {C:Cx L}{l:L}(vs:List aF)(C':Cx L)(l':L)(w':aE)(T:j6)(n:Nat)(h:SRQ c C l vs C' l' w'):SRQ c C l vs C' l' (Tt.tp w' T n):=by
 obtain⟨h1,h2,h3,h4⟩:=h;refine⟨h1,h2,h3,?_⟩;rcases vs with _|⟨b,_|⟨x,_|⟨y,vs⟩⟩⟩
 .exact h4.tp T n
 .exact⟨h4.1,h4.2.tp T n⟩
 .exact⟨h4.1,h4.2.1,WH.RQ2.tp (w:=w'.setCell _ _) h4.2.2 T n⟩
 .exact h4.tp T n
theorem cw_RQ {C:Cx L}{l:L}(hI:fD C)(hp:C.p=aK)(hg:C.gs=Da)(hf:C.fs=fU)(hF:wC C.P C.fs)(hn:∀(i:Nat) (o:aZ) (s:Tmp),lS[i]? =some o->o.dst=some s->s∉C.S)(zO:c.d.qn.length<=1000)(zey:some c.gh∉parts c.v c.hb)(zdo:some c.gq∉parts c.v c.hb){t0:Array aF}{w:aE}{kk:List dX}(hz:t0.size=73)(Gf:t0.getD 7 aA=.pointer (some ⟨c.gh,0,none⟩))(zhO:t0.getD 9 aA=.pointer (some ⟨c.gq,0,none⟩))
 (hk:∀vs C' l' w',vs.length=3->SRQ c C l vs C' l' w'->BO C' l' ⟨42,dF lS (VV [6,7,10] (G0 c.hb c.gh c.gq c.q c.v.sQ) vs) t0,.inRegion lS []::kk,false⟩ w') (h0:SRQ c C l [] C l w):BO C l ⟨42,t0,.code Qe::kk,false⟩ w:=by
 rw[zIF];have KO:=Us zqR;refine BO.drawn (p:=aK) (gs:=Da) (fs:=fU) wA.mixed [6,7,10] (G0 c.hb c.gh c.gq c.q c.v.sQ) (SRQ c C l) (λvs C l w h=>by
  obtain⟨rfl,rfl,_⟩:=h;exact⟨hI,hp,hg,hf,hF,hn⟩) zqR zyt Lz (λvs K l w T e h=>SRQ.tp vs K l w T e h) (λi o ho hi=>?_) (λvs ci o C' l' w' hc ho hS t rest mJ gA=>?_) hk h0
 .have hl:lS.toList[i]? =some o:=by rw[C1];exact ho
  rw[zGS] at hl;have aS:i<11:=by have:=(kP.1 hl).1;simpa using this
  have tn:∀(vs:List aF) {j:Nat} {oj:aZ} {s:Tmp} {v:aF},lS[j]? =some oj->oj.dst=some s->s<t0.size->VV [6,7,10] (G0 c.hb c.gh c.gq c.q c.v.sQ) vs j=v->(dF lS (VV [6,7,10] (G0 c.hb c.gh c.gq c.q c.v.sQ) vs) t0).getD s aA=v:=λvs _ _ _ _ a b c d=>qP KO a b c d;have tq:∀(vs:List aF) {s:Tmp},Ht lS s=false->(dF lS (VV [6,7,10] (G0 c.hb c.gh c.gq c.q c.v.sQ) vs) t0).getD s aA=t0.getD s undef:=λvs _ a=>zg0 KO a;have O2:∀{vs:List aF} {C' l' w'},(SRQ c C l) vs C' l' w'->vs.length<3->c.RdRQ w':=λh hv=>by
   obtain⟨_,_,h,_⟩:=h;exact h hv
  rcases i with _|_|_|_|_|_|_|_|_|_|_|i
  .obtain rfl:=cO hl
   exact⟨aT,λvs K' l' w' hv hS=>⟨eE rfl,rd2 (.pointer (some ⟨c.hb,0,none⟩)) ((tq vs aT).trans Gf) (aI (O2 hS hv).2.1 0)⟩⟩
  .obtain rfl:=cO hl
   exact⟨aT,λvs K' l' w' hv hS=>⟨eE rfl,rd2 (.pointer (some ⟨c.hb,0,none⟩)) ((tq vs aT).trans Gf) (aI (O2 hS hv).2.1 0)⟩⟩
  .obtain rfl:=cO hl
   exact⟨aT,λvs K' l' w' hv hS=>⟨eE rfl,vG (.pointer (some ⟨c.hb,0,none⟩)) (tn vs zzh rfl kS rfl)⟩⟩
  .obtain rfl:=cO hl
   exact⟨aT,λvs K' l' w' hv hS=>⟨eE rfl,vG (.pointer (some ⟨c.hb,6,none⟩)) (tn vs zyG rfl kS rfl)⟩⟩
  .obtain rfl:=cO hl
   exact⟨aT,λvs K' l' w' hv hS=>⟨eE rfl,rd2 (c.v.sQ) (tn vs zBB rfl kS rfl) (O2 hS hv).1⟩⟩
  .obtain rfl:=cO hl
   exact⟨aT,λvs K' l' w' hv hS=>⟨eE rfl,rd2 (.chan (some c.q)) ((tq vs aT).trans zhO) (aI (O2 hS hv).2.2 0)⟩⟩
  .exact absurd aH hi
  .exact absurd aH hi
  .obtain rfl:=cO hl
   exact⟨aT,λvs K' l' w' hv hS=>⟨eE rfl,vG (.pointer (some ⟨c.hb,0,none⟩)) (tn vs zIx rfl kS rfl)⟩⟩
  .obtain rfl:=cO hl
   exact⟨aT,λvs K' l' w' hv hS=>⟨eE rfl,vG (.pointer (some ⟨c.hb,6,none⟩)) (tn vs zzf rfl kS rfl)⟩⟩
  .exact absurd aH hi
  .omega
 .rcases vs with _|⟨a,_|⟨b,_|⟨c',vs⟩⟩⟩
  .obtain rfl:6=ci:=by simpa using hc
   rw[zbB] at ho;obtain rfl:=cO ho;obtain⟨rfl,rfl,hR,z3,z5,s6⟩:=hS;have V1:(dF lS (VV [6,7,10] (G0 c.hb c.gh c.gq c.q c.v.sQ) []) t0).getD 61 aA=.chan (some c.q):=qP KO zCQ rfl kS rfl;refine BO.op hF hI zbB (eE rfl) zlT (λs hs=>hn 6 _ s zbB hs) (λT=>⟨.slice (some ⟨w'.heap.size,0,none⟩) 1 1,(Tt.tp w' T 0).alloc (.cells #[.chan (some c.q)] 95),.inl ?_,?_⟩)
   .rw[hp]
    rw[Fi (KO.sel 6 _ zbB) mJ];have hT:xL (dF lS (VV [6,7,10] (G0 c.hb c.gh c.gq c.q c.v.sQ) []) t0) (λs=>(dF lS (VV [6,7,10] (G0 c.hb c.gh c.gq c.q c.v.sQ) []) t0).getD s aA):=λs=>rfl;exact bsRQ hT V1
   .have al:bO c.hb c.v w' c.v ((Tt.tp w' T 0).alloc (.cells #[.chan (some c.q)] 95)):=(bO.refl.tp T 0).trans (bO.below (eT (fW _ _) _))
    exact gA _ _ _ _ ⟨rfl,rfl,λ_=>⟨Bo (hR aN).1 _,dG (hR aN).2.1 _,dG (hR aN).2.2 _⟩,⟨_,rfl,gP _ _⟩,(z3.tp T 0).alloc _,z5.trans al,eH s6 zeh⟩
  .obtain rfl:7=ci:=by simpa using hc
   rw[zfj] at ho;obtain rfl:=cO ho;obtain⟨rfl,rfl,hR,⟨gs,rfl,zai⟩,z3,z5,s6⟩:=hS;have zkM:=Gu mJ (s:=60) aH (qP KO zAz rfl kS rfl);have zne:=Gu mJ (s:=62) aH (qP KO zbB rfl kS rfl);have zh8:some c.gh∉parts c.v c.hb:=zey;have zGw:some c.gq∉parts c.v c.hb:=zdo;refine BO.op hF hI zfj (eE rfl) zlT (λs hs=>hn 7 _ s zfj hs) (λT=>?_);have a1:=z3.tp T 0;obtain⟨q1,q2,w5,fM,cT,mL,fC⟩:=On (w:=Tt.tp w' T 0) (t:=68) (ty:=68) info_cq Tryz.underlying68 rfl aH a1.Q (g:=gs) (cs:=#[.chan (some c.q)]) (news:=[.chan (some c.q)]) zai rfl (m:=1) rfl aH Mp aC aH s6;obtain⟨a6,t6⟩:=a1.putQ mL (xs:=c.d.qn++[c.q]) (by rw[zpm];exact cT) aN fC;have x9:=(a1.other (j:=4) (c:=6) (x:=c.v.sQ) rfl aH mL (.slice (some ⟨q1,0,none⟩) (c.d.qn.length+1) q2)).2.trans a1.blk;have E9:w5.heap[c.gh]? =some _:=(mL.block c.gh (iZ (hR aN).2.1) (λe=>zh8 (fN (i:=4) (show(parts c.v c.hb)[4]? =some (some c.gh) by rw[e];rfl)))).trans (hR aN).2.1;have Cv:w5.heap[c.gq]? =some _:=(mL.block c.gq (iZ (hR aN).2.2) (λe=>zGw (fN (i:=4) (show(parts c.v c.hb)[4]? =some (some c.gq) by rw[e];rfl)))).trans (hR aN).2.2;refine⟨_,w5,.inl (by rw[hp];exact Yr rfl zkM zne fM),gA _ _ _ _ ⟨rfl,rfl,λ_=>⟨aI x9 6,E9,Cv⟩,⟨q1,q2,rfl⟩,eW x9 6,_,a6,z5.trans ((bO.refl.tp T 0).trans t6),rfl,rfl,rfl⟩⟩
  .obtain rfl:10=ci:=by simpa using hc
   rw[zfR] at ho;obtain rfl:=cO ho;obtain⟨rfl,rfl,hR,⟨q1,q2,rfl⟩,nZ,zF⟩:=hS;have V1:(dF lS (VV [6,7,10] (G0 c.hb c.gh c.gq c.q c.v.sQ) [a,.slice (some ⟨q1,0,none⟩) (c.d.qn.length+1) q2]) t0).getD 63 aA=.slice (some ⟨q1,0,none⟩) (c.d.qn.length+1) q2:=qP KO zfj rfl kS rfl;have V2:(dF lS (VV [6,7,10] (G0 c.hb c.gh c.gq c.q c.v.sQ) [a,.slice (some ⟨q1,0,none⟩) (c.d.qn.length+1) q2]) t0).getD 65 aA=.pointer (some ⟨c.hb,6,none⟩):=qP KO zAL rfl kS rfl;refine BO.op hF hI zfR (eE rfl) zlT (λs hs=>hn 10 _ s zfR hs) (λT=>⟨aA,Tt.tp (w'.setCell ⟨c.hb,6,none⟩ (.slice (some ⟨q1,0,none⟩) (c.d.qn.length+1) q2)) T 0,.inr ⟨?_,rfl⟩,?_⟩)
   .rw[hp]
    rw[Fi (KO.sel 10 _ zfR) mJ];have hT:xL (dF lS (VV [6,7,10] (G0 c.hb c.gh c.gq c.q c.v.sQ) [a,.slice (some ⟨q1,0,none⟩) (c.d.qn.length+1) q2]) t0) (λs=>(dF lS (VV [6,7,10] (G0 c.hb c.gh c.gq c.q c.v.sQ) [a,.slice (some ⟨q1,0,none⟩) (c.d.qn.length+1) q2]) t0).getD s aA):=λs=>rfl;exact stRQ hT V2 V1 (hR aN).1 nZ
   .exact gA aA _ _ _ ⟨rfl,rfl,λh=>absurd h aN,WH.RQ2.tp zF T 0⟩
  .simp at hc
end
end Go.Proofs.YtfcjiloojkjaeaaGreatDoor
namespace Go.Proofs.YtfcjiloojkjaeaaGreatDoor
open Go.RowKit
theorem zmr (o:fQ)(w:aE):
 gH aK 33 #[.agg #[.int .i64 o.ln,.int .i64 o.op,.int .i64 o.pt]] w λx w'=>x=.returned (.bool (sP o))/\cF w.heap.size w w':=by
 go_enter Tryz.func33,Tryz.ntmps33
 go_wp2
 all_goals go_ret
 all_goals refine⟨Lx ?_,((fW _ _).alloc (bF _) _)⟩
 all_goals rw[Nk]
 all_goals simp[sP,inB] at*
 all_goals grind
theorem ztF (e:dI)(ops:Int)(w:aE)(ho:1<=ops/\ops<=4):
 gH aK 52 #[.agg #[.string e.k,.int .i64 e.a,.int .i64 e.b],.int .i64 ops] w λx w'=>x=.returned (.bool (q9 ops e))/\cF w.heap.size w w':=by
 obtain⟨y7,zcP⟩:=ho
 go_enter Tryz.func52,Tryz.ntmps52
 go_wp2
 all_goals go_ret
 all_goals refine⟨Lx ?_,((fW _ _).alloc (bF _) _)⟩
 all_goals rw[Nk]
 all_goals simp[q9,Gm,inB,zW,D5,H7,Bq,Rg] at*
 all_goals grind
end Go.Proofs.YtfcjiloojkjaeaaGreatDoor
namespace Go.Proofs.YtfcjiloojkjaeaaGreatDoor
open Go.RowKit Go.Mt Go.Conc Go.Tt Go.Maps Go.Conc.Lib Go.ConcR.Gen
open Go.ConcR (KK wgBlock WgAt stA smA rd wr)
structure o5 (wB:aE)(lo go ge n c:Nat)(A:Option bC)(o:fQ)(es:List dI)(w:aE):Prop where
 lo_:lo<=w.heap.size
 tab:Cb lo w
 ev:cG w 0 lo 3 A n c (qW es)
 gol:go<lo
 gel:ge<lo
 bo:w.heap[go]? =some (.cells #[.int .i64 o.ln,.int .i64 o.op,.int .i64 o.pt] 29)
 be:w.heap[ge]? =some (.cells #[.slice A n c] 31)
 old:∀b,b<lo->w.heap[b]? =wB.heap[b]?
section
variable {lo go ge n c:Nat}{A:Option bC}{o:fQ}{es:List dI}{wB w w':aE}
def o5.keep (h:o5 wB lo go ge n c A o es w)(hs:w.heap.size<=w'.heap.size)(k:∀b,b<lo->w'.heap[b]? =w.heap[b]?):o5 wB lo go ge n c A o es w':=
 ⟨eH h.lo_ hs,h.tab.keep k,h.ev.keep hs λb _ q _=>k b q,h.gol,h.gel,(k _ h.gol).trans h.bo,(k _ h.gel).trans h.be,λb hb=>(k b hb).trans (h.old b hb)⟩
def o5.below (h:o5 wB lo go ge n c A o es w)(k:cF w.heap.size w w'):o5 wB lo go ge n c A o es w':=h.keep k.size λb hb=>k.block b (jO hb h.lo_)
def o5.tp (h:o5 wB lo go ge n c A o es w)(T:j6)(e:Nat):o5 wB lo go ge n c A o es (Tt.tp w T e):=h.keep (bF _) λ_ _=>rfl
end
structure oN (wB:aE)(lo go ge n c:Nat)(A:Option bC)(o:fQ)(es:List dI)(hb gh:Nat)(ln qn:List Nat)(v:fJ)(w:aE):Prop where
 e:o5 wB lo go ge n c A o es w
 at_:bG w lo hb v ⟨lR o,ln,qn,[]⟩
 mp:v.pC=[]/\v.pO=[]/\v.pM=[]
 nd:ln.Nodup
 lt:∀x∈ln,x<w.heap.size
 bh:w.heap[gh]? =some (.cells #[.pointer (some ⟨hb,0,none⟩)] 63)
 nh:some gh∉parts v hb
 ghl:lo<=gh
section
variable {lo go ge n c hb gh:Nat}{A:Option bC}{o:fQ}{es:List dI}{ln qn zgj zhw:List Nat}{v v':fJ}{wB w w':aE}
theorem oN.turn (h:oN wB lo go ge n c A o es hb gh ln qn v w)(t:bO hb v w v' w')(a:bG w' lo hb v' ⟨lR o,zgj,zhw,[]⟩)(m:v.maps v')(hn:zgj.Nodup)(hl:∀x∈zgj,x<w'.heap.size):oN wB lo go ge n c A o es hb gh zgj zhw v' w':=by
 obtain⟨b1,b2⟩:=h.at_.turned t h.bh h.nh;refine⟨h.e.keep t.size λb bU=>t.block b (jO bU h.e.lo_) λhp=>?_,a,⟨m.1.trans h.mp.1,m.2.1.trans h.mp.2.1,m.2.2.trans h.mp.2.2⟩,hn,hl,b1,b2,h.ghl⟩;have:=(h.at_.lt b hp).1;omega
def oN.below (h:oN wB lo go ge n c A o es hb gh ln qn v w)(k:cF w.heap.size w w'):oN wB lo go ge n c A o es hb gh ln qn v w':=
 h.turn (bO.below k) (h.at_.below k) ⟨rfl,rfl,rfl⟩ h.nd λx hx=>jO (h.lt x hx) k.size
def oN.tp (h:oN wB lo go ge n c A o es hb gh ln qn v w)(T:j6)(e:Nat):oN wB lo go ge n c A o es hb gh ln qn v (Tt.tp w T e):=⟨h.e.tp T e,h.at_.tp T e,h.mp,h.nd,h.lt,h.bh,h.nh,h.ghl⟩
theorem oN.mr (h:oN wB lo go ge n c A o es hb gh ln qn v w):fY v ⟨lR o,ln,qn,[]⟩:=by
 obtain⟨h1,h2,h3⟩:=h.mp;refine⟨by simp_all,by rw[h2];exact X7,by simp_all,λi g _=>?_,λc y hy=>?_,λc _ i x hx=>?_,λc y hy=>?_,λc _ i x hx=>?_⟩
 .rw[h1]
  refine⟨λx=>(by cases x),λ⟨j,x,hx,_⟩=>?_⟩;have hx:([]:List bR)[j]? =some x:=hx;simp at hx
 .rw[h2] at hy;cases hy
 .have hx:([]:List bR)[i]? =some x:=hx
  simp at hx
 .rw[h3] at hy;cases hy
 .have hx:([]:List bR)[i]? =some x:=hx
  simp at hx
end
def Wy:Go.Code:=.seq rRH11 (.seq (.cond (.tmp 39) .skip (.exit 2)) (.seq (.block 3 zca) rRH13))
def zbe:Go.Code:=.seq rRH4 (.seq (.cond (.tmp 21) .skip (.exit 0)) (.seq (.block 1 (.seq rRH5 (.seq rRH6 (.cond (.tmp 28) (.seq rRH7 .ret) .skip)))) rRH8))
section
variable {Post:aF->aE->Prop}{Shun:Loc->Prop}{W0:aE}{St:Nat->Prop}{R0:Pr}{base:List dR}{wB:aE}{lo go ge n c hb gh:Nat}{A:Option bC}{o:fQ}{es:List dI}
abbrev rhC (Post:aF->aE->Prop)(Shun:Loc->Prop)(W0:aE)(St:Nat->Prop)(R0:Pr)(base:List dR)(K:Pr):Cx Unit:=Gd aK Da fU Post Shun W0 St K R0 base
theorem rh_lines {kk:List dX}(h6:o.ln<=6)(K0:Pr)(zcn:∀K w v ln u0 u1 u4 u5 u6 u8 u9 gV gE gD gG gF gC u16 iE kN kT jQ iG iJ gY iH iD iF iL iA iM jJ jK u32 iN iB iC iP gZ iO iK jE iW iY iR iS jB iV jC jD iT nA nC lG lL kV kZ kU kY kM kD j5 kC u64 j7 kH jZ kG lD kL kR kE,K0.le K->oN wB lo go ge n c A o es hb gh ln [] v w->(ln.length:Int)=o.ln->BO (rhC Post Shun W0 St R0 base K) () ⟨42,#[u0,u1,.pointer (some ⟨go,0,none⟩),.pointer (some ⟨ge,0,none⟩),u4,u5,u6,.pointer (some ⟨gh,0,none⟩),u8,u9,gV,gE,gD,gG,gF,gC,u16,iE,kN,kT,jQ,iG,iJ,gY,iH,iD,iF,iL,iA,iM,jJ,jK,u32,iN,iB,iC,iP,.int .i64 o.ln,.int .i64 o.ln,gZ,iO,iK,jE,iW,iY,iR,iS,jB,iV,jC,jD,iT,nA,nC,lG,lL,kV,kZ,kU,kY,kM,kD,j5,kC,u64,j7,kH,jZ,kG,lD,kL,kR,kE],kk,false⟩ w):
 ∀(m k:Nat),((k+m:Nat):Int)=o.ln->∀(K:Pr) (w:aE) (v:fJ) (ln:List Nat) (u0 u1 u4 u5 u6 u8 u9 gV gE gD gG gF gC u16 iE kN kT jQ iG iJ gY iH iD iF iL iA iM jJ jK u32 iN iB iC iP gZ iO iK jE iW iY iR iS jB iV jC jD iT nA nC lG lL kV kZ kU kY kM kD j5 kC u64 j7 kH jZ kG lD kL kR kE:aF),K0.le K->oN wB lo go ge n c A o es hb gh ln [] v w->ln.length=k->BO (rhC Post Shun W0 St R0 base K) () ⟨42,#[u0,u1,.pointer (some ⟨go,0,none⟩),.pointer (some ⟨ge,0,none⟩),u4,u5,u6,.pointer (some ⟨gh,0,none⟩),u8,u9,gV,gE,gD,gG,gF,gC,u16,iE,kN,kT,jQ,iG,iJ,gY,iH,iD,iF,iL,iA,iM,jJ,jK,u32,iN,iB,iC,iP,.int .i64 o.ln,.int .i64 k,gZ,iO,iK,jE,iW,iY,iR,iS,jB,iV,jC,jD,iT,nA,nC,lG,lL,kV,kZ,kU,kY,kM,kD,j5,kC,u64,j7,kH,jZ,kG,lD,kL,kR,kE],.code Wy:: .inLoop Wy:: .inBlock 2::kk,false⟩ w:=by
 intro m
 induction m with
 |zero=>
  intro k hk K w v ln u0 u1 u4 u5 u6 u8 u9 gV gE gD gG gF gC u16 iE kN kT jQ iG iJ gY iH iD iF iL iA iM jJ jK u32 iN iB iC iP gZ iO iK jE iW iY iR iS jB iV jC jD iT nA nC lG lL kV kZ kU kY kM kD j5 kC u64 j7 kH jZ kG lD kL kR kE hK hR hl;have Ai:(k:Int)=o.ln:=by simpa using hk
  have Ha:¬(k:Int)<o.ln:=aC;have HR:=aD hR;have HE:=aD Ai;clear hR hk Ai;unfold Wy;refine BO.seq dD ?_;refine BO.pV nF dD tX (λw1 T1 dW Q' dC=>?_);have jI:=aD (show oN wB lo go ge n c A o es hb gh ln [] v w1 by rw[dW];exact HR.o.tp T1 0);clear HR;clear dW;go_wp2;refine dC.o _ _ ?_;clear dC;refine BO.seq dD ?_;refine BO.cond dD (t:=false) rfl rfl ?_;refine BO.exit dD (k':=kk) rfl ?_;have Ai:=HE.o;rw[Ai];exact zcn K _ v ln _ _ _ _ _ _ _ _ _ _ _ _ _ _ _ _ _ _ _ _ _ _ _ _ _ _ _ _ _ _ _ _ _ _ _ _ _ _ _ _ _ _ _ _ _ _ _ _ _ _ _ _ _ _ _ _ _ _ _ _ _ _ _ _ _ _ _ _ hK jI.o aC
 |succ m ih=>
  intro k hk K w v ln u0 u1 u4 u5 u6 u8 u9 gV gE gD gG gF gC u16 iE kN kT jQ iG iJ gY iH iD iF iL iA iM jJ jK u32 iN iB iC iP gZ iO iK jE iW iY iR iS jB iV jC jD iT nA nC lG lL kV kZ kU kY kM kD j5 kC u64 j7 kH jZ kG lD kL kR kE hK hR hl;have Ha:(k:Int)<o.ln:=aC;have HR:=aD hR;have HK:=aD hk;clear hR hk;unfold Wy;refine BO.seq dD ?_;refine BO.pV nF dD tX (λw1 T1 dW Q' dC=>?_);have jI:=aD (show oN wB lo go ge n c A o es hb gh ln [] v w1 by rw[dW];exact HR.o.tp T1 0);clear HR;clear dW;go_wp2;refine dC.o _ _ ?_;clear dC;refine BO.seq dD ?_;refine BO.cond dD (t:=true) rfl rfl ?_;refine BO.skip dD ?_;refine BO.seq dD ?_;refine BO.block dD ?_;refine cw_RL (c:=⟨lo,hb,gh,0,0,v,w1,v,⟨lR o,ln,[],[]⟩⟩) (by show ln.length<=1000;omega) jI.o.nh rfl rfl (λvs C' l' w' uB hS=>?_) ⟨K,xS _,rfl,λ_=>⟨aI jI.o.at_.blk 3,jI.o.bh⟩,⟨jI.o.at_,bO.refl,jI.o.e.lo_⟩,jI.o.lt⟩;rw[Go.Mt.Bn,zIo];simp only[Go.Mt.xN,dP,dQ];obtain⟨K',hle,rfl,_,h4⟩:=hS;have s4:∃g,(∀x∈ln,x<g)/\g<w'.heap.size/\WH.RL2 ⟨lo,hb,gh,0,0,v,w1,v,⟨lR o,ln,[],[]⟩⟩ g w':=by
   rcases vs with _|⟨a,_|⟨b,_|⟨x,_|⟨y,vs⟩⟩⟩⟩
   .cases uB
   .cases uB
   .cases uB
   .cases uB
   .exact h4
  obtain⟨g,s2,s3,v2,a2,t2,mp⟩:=s4;have sH:K0.le K':=wX hK hle;have K5:oN wB lo go ge n c A o es hb gh (ln++[g]) [] v2 w':=jI.o.turn t2 a2 mp (by
   rw[List.nodup_append];refine⟨jI.o.nd,C6.2 ⟨nE,X7⟩,λa ha b bU=>?_⟩;obtain rfl:=yX.1 bU;have:=s2 a ha;omega) (λx hx=>by
   rcases List.mem_append.1 hx with hx|hx
   .exact zim (s2 x hx) s3
   .obtain rfl:=yX.1 hx;exact s3)
  have jW:=aD K5;clear K5 a2 t2 mp s2 h4 uB jI;refine BO.regEnd dD ?_;refine BO.inBlock dD ?_;refine BO.pV nF dD tX (λw2 T2 eG Q' dC=>?_);have Lq:=aD (show oN wB lo go ge n c A o es hb gh (ln++[g]) [] v2 w2 by rw[eG];exact jW.o.tp T2 0);clear jW;clear eG;go_wp2;refine dC.o _ _ ?_;clear dC;refine BO.inLoop dD ?_;exact ih (k+1) (by have:=HK.o;omega) K' _ v2 (ln++[g]) _ _ _ _ _ _ _ _ _ _ _ _ _ _ _ _ _ _ _ _ _ _ _ _ _ _ _ _ _ _ _ _ _ _ _ _ _ _ _ _ _ _ _ _ _ _ _ _ _ _ _ _ _ _ _ _ _ _ _ _ _ _ _ _ _ _ _ _ sH Lq.o (by rw[jH,hl];rfl)
end
section
variable {Post:aF->aE->Prop}{Shun:Loc->Prop}{W0:aE}{St:Nat->Prop}{R0:Pr}{base:List dR}{K:Pr}{wB:aE}{lo go ge n c:Nat}{A:Option bC}{o:fQ}{es:List dI}
theorem rh_valid {kk:List dX}(hop:1<=o.op/\o.op<=4)(zxh:n<=60)(Fh:es.length=n)
 (Ul:∀(T:Array aF) todo w,T.getD 4 aA=.pointer none->o5 wB lo go ge n c A o es w->es.all (q9 o.op)=false->BO (rhC Post Shun W0 St R0 base K) () ⟨42,T,todo,true⟩ w)
 (zcn:∀w jQ u0 u1 u5 u6 u7 u8 u9 gV gE gD gG gF gC u16 iE iG iJ gY iH iD iF iL iA iM jJ jK u32 iN iB iC iP kW lC gZ iO iK jE iW iY iR iS jB iV jC jD iT nA nC lG lL kV kZ kU kY kM kD j5 kC u64 j7 kH jZ kG lD kL kR kE,o5 wB lo go ge n c A o es w->es.all (q9 o.op)=true->BO (rhC Post Shun W0 St R0 base K) () ⟨42,#[u0,u1,.pointer (some ⟨go,0,none⟩),.pointer (some ⟨ge,0,none⟩),.pointer none,u5,u6,u7,u8,u9,gV,gE,gD,gG,gF,gC,u16,iE,.slice A n c,.int .i64 n,jQ,iG,iJ,gY,iH,iD,iF,iL,iA,iM,jJ,jK,u32,iN,iB,iC,iP,kW,lC,gZ,iO,iK,jE,iW,iY,iR,iS,jB,iV,jC,jD,iT,nA,nC,lG,lL,kV,kZ,kU,kY,kM,kD,j5,kC,u64,j7,kH,jZ,kG,lD,kL,kR,kE],kk,false⟩ w):
 ∀(m k:Nat),k+m=n->∀(w:aE) (u0 u1 u5 u6 u7 u8 u9 gV gE gD gG gF gC u16 iE iG iJ gY iH iD iF iL iA iM jJ jK u32 iN iB iC iP kW lC gZ iO iK jE iW iY iR iS jB iV jC jD iT nA nC lG lL kV kZ kU kY kM kD j5 kC u64 j7 kH jZ kG lD kL kR kE:aF),o5 wB lo go ge n c A o es w->(∀j,j<k->∀b,es[j]? =some b->q9 o.op b=true)->BO (rhC Post Shun W0 St R0 base K) () ⟨42,#[u0,u1,.pointer (some ⟨go,0,none⟩),.pointer (some ⟨ge,0,none⟩),.pointer none,u5,u6,u7,u8,u9,gV,gE,gD,gG,gF,gC,u16,iE,.slice A n c,.int .i64 n,.int .i64 k,iG,iJ,gY,iH,iD,iF,iL,iA,iM,jJ,jK,u32,iN,iB,iC,iP,kW,lC,gZ,iO,iK,jE,iW,iY,iR,iS,jB,iV,jC,jD,iT,nA,nC,lG,lL,kV,kZ,kU,kY,kM,kD,j5,kC,u64,j7,kH,jZ,kG,lD,kL,kR,kE],.code zbe:: .inLoop zbe:: .inBlock 0::kk,false⟩ w:=by
 intro m
 induction m with
 |zero=>
  intro k hk w u0 u1 u5 u6 u7 u8 u9 gV gE gD gG gF gC u16 iE iG iJ gY iH iD iF iL iA iM jJ jK u32 iN iB iC iP kW lC gZ iO iK jE iW iY iR iS jB iV jC jD iT nA nC lG lL kV kZ kU kY kM kD j5 kC u64 j7 kH jZ kG lD kL kR kE hE tF;have Ai:n=k:=aC;subst Ai;have Ha:¬(n:Int)<(n:Int):=aC;have HE:=aD hE;have HA:=aD tF;have HN:=aD Fh;clear hE tF Fh hk;unfold zbe;refine BO.seq dD ?_;refine BO.pV nF dD tX (λw1 T1 dW Q' dC=>?_);have cJ:=aD (show o5 wB lo go ge n c A o es w1 by rw[dW];exact HE.o.tp T1 0);clear HE;clear dW;go_wp2;refine dC.o _ _ ?_;clear dC;refine BO.seq dD ?_;refine BO.cond dD (t:=false) rfl rfl ?_;refine BO.exit dD (k':=kk) rfl ?_;exact zcn _ _ _ _ _ _ _ _ _ _ _ _ _ _ _ _ _ _ _ _ _ _ _ _ _ _ _ _ _ _ _ _ _ _ _ _ _ _ _ _ _ _ _ _ _ _ _ _ _ _ _ _ _ _ _ _ _ _ _ _ _ _ _ _ _ _ _ _ _ cJ.o (allF_of HA.o (by rw[HN.o];exact bF _))
 |succ m ih=>
  intro k hk w u0 u1 u5 u6 u7 u8 u9 gV gE gD gG gF gC u16 iE iG iJ gY iH iD iF iL iA iM jJ jK u32 iN iB iC iP kW lC gZ iO iK jE iW iY iR iS jB iV jC jD iT nA nC lG lL kV kZ kU kY kM kD j5 kC u64 j7 kH jZ kG lD kL kR kE hE tF;have aS:k<n:=aC;have Ha:(k:Int)<(n:Int):=aC;have i0:(0:Int)<=(k:Int):=aC;have HE:=aD hE;have HA:=aD tF;have HN:=aD Fh;have HK:=aD hk;clear hE tF Fh hk;unfold zbe;refine BO.seq dD ?_;refine BO.pV nF dD tX (λw1 T1 dW Q' dC=>?_);have cJ:=aD (show o5 wB lo go ge n c A o es w1 by rw[dW];exact HE.o.tp T1 0);clear HE;clear dW;go_wp2;refine dC.o _ _ ?_;clear dC;refine BO.seq dD ?_;refine BO.cond dD (t:=true) rfl rfl ?_;refine BO.skip dD ?_;refine BO.seq dD ?_;refine BO.block dD ?_;refine BO.seq dD ?_;obtain⟨be,oe,ev,hA,zBq,zfO,zh5,Fu,e0,e1,e2⟩:=cJ.o.ev.eventsAt aS;subst hA;have Na:=aD Fu;clear Fu;refine BO.pV nF dD tX (λw2 T2 eG Q' dC=>?_);have nO:=aD (show o5 wB lo go ge n c (some ⟨be,oe,none⟩) o es w2 by rw[eG];exact cJ.o.tp T2 0);have Zp:w2.cell? ⟨be,oe+k*3,none⟩=some (.string ev.k):=by rw[eG];exact e0
  have C8:w2.cell? ⟨be,oe+k*3+1,none⟩=some (.int .i64 ev.a):=by rw[eG];exact e1
  have zdk:w2.cell? ⟨be,oe+k*3+2,none⟩=some (.int .i64 ev.b):=by rw[eG];exact e2
  clear e0 e1 e2;clear cJ;clear eG;go_wp2;refine dC.o _ _ ?_;clear dC;clear Zp C8 zdk;obtain⟨gb,eY⟩:=aP w2.heap.size;obtain⟨w3,iU⟩:=aP (w2.alloc (.cells #[.string ev.k,.int .i64 ev.a,.int .i64 ev.b] 54));have uO:=aD (show o5 wB lo go ge n c (some ⟨be,oe,none⟩) o es w3 by rw[iU];exact nO.o.below (eT (fW _ _) _));have vM:=aD (show w3.heap[gb]? =some (.cells #[.string ev.k,.int .i64 ev.a,.int .i64 ev.b] 54) by rw[iU,eY];exact gP _ _);rw[<-eY,<-iU];clear iU eY nO;refine BO.seq dD ?_
  cases hv:q9 o.op ev with
  |true=>
   refine BO.pV nF dD tX (λw4 T3 lY Q' dC=>?_);have zay:=aD (show o5 wB lo go ge n c (some ⟨be,oe,none⟩) o es w4 by rw[lY];exact uO.o.tp T3 0);have g0:w4.cell? ⟨gb,0,none⟩=some (.string ev.k):=by rw[lY];exact aI vM.o 0
   have g1:w4.cell? ⟨gb,1,none⟩=some (.int .i64 ev.a):=by rw[lY];exact aI vM.o 1
   have g2:w4.cell? ⟨gb,2,none⟩=some (.int .i64 ev.b):=by rw[lY];exact aI vM.o 2
   have o1:w4.cell? ⟨go,1,none⟩=some (.int .i64 o.op):=by rw[lY];exact aI uO.o.bo 1
   have HV:=aD hv;clear uO vM hv;clear lY
   go_wp2_with ((go_at_call 52;refine(ztF ev o.op _ hop).mono ?_;rintro e w' ⟨rfl,kF⟩))
   refine dC.o _ _ ?_;clear dC;clear g0 g1 g2 o1;have zcm:=aD (zay.o.below kF);clear kF zay;refine BO.cond dD (t:=false) rfl (by first|rfl|simp[wZ,HV.o]) ?_;refine BO.skip dD ?_;refine BO.inBlock dD ?_;refine BO.pV nF dD tX (λw6 T6 pL Q' dC=>?_);have znP:=aD (show o5 wB lo go ge n c (some ⟨be,oe,none⟩) o es w6 by rw[pL];exact zcm.o.tp T6 0);clear zcm;clear pL;go_wp2;refine dC.o _ _ ?_;clear dC;refine BO.inLoop dD ?_;exact ih (k+1) (by have:=HK.o;omega) _ _ _ _ _ _ _ _ _ _ _ _ _ _ _ _ _ _ _ _ _ _ _ _ _ _ _ _ _ _ _ _ _ _ _ _ _ _ _ _ _ _ _ _ _ _ _ _ _ _ _ _ _ _ _ _ _ _ _ _ _ _ _ _ _ _ _ _ znP.o (zFX HA.o Na.o HV.o)
  |false=>
   refine BO.pV nF dD tX (λw4 T3 lY Q' dC=>?_);have zay:=aD (show o5 wB lo go ge n c (some ⟨be,oe,none⟩) o es w4 by rw[lY];exact uO.o.tp T3 0);have g0:w4.cell? ⟨gb,0,none⟩=some (.string ev.k):=by rw[lY];exact aI vM.o 0
   have g1:w4.cell? ⟨gb,1,none⟩=some (.int .i64 ev.a):=by rw[lY];exact aI vM.o 1
   have g2:w4.cell? ⟨gb,2,none⟩=some (.int .i64 ev.b):=by rw[lY];exact aI vM.o 2
   have o1:w4.cell? ⟨go,1,none⟩=some (.int .i64 o.op):=by rw[lY];exact aI uO.o.bo 1
   have HV:=aD hv;clear uO vM hv;clear lY
   go_wp2_with ((go_at_call 52;refine(ztF ev o.op _ hop).mono ?_;rintro e w' ⟨rfl,kF⟩))
   refine dC.o _ _ ?_;clear dC;clear g0 g1 g2 o1;have zcm:=aD (zay.o.below kF);clear kF zay;refine BO.cond dD (t:=true) rfl (by first|rfl|simp[wZ,HV.o]) ?_;refine BO.seq dD ?_;refine BO.pV nF dD tX (λw6 T6 pL Q' dC=>?_);have znP:=aD (show o5 wB lo go ge n c (some ⟨be,oe,none⟩) o es w6 by rw[pL];exact zcm.o.tp T6 0);clear zcm;clear pL;go_wp2;refine dC.o _ _ ?_;clear dC;refine BO.ret dD ?_;exact Ul _ _ _ rfl znP.o (zzM Na.o HV.o)
end
variable {w w':aE}
theorem Ni (h:w'.heap=w.heap)(ht:qC w):qC w':=by
 unfold qC zdZ zg5 at*;rw[h];exact ht
variable {lo:Nat}{w1:aE}
theorem Cb.of (h:qC w)(eF:w.heap.size<=lo)(hs:lo<=w1.heap.size)(k:∀b,b<w.heap.size->w1.heap[b]? =w.heap[b]?):Cb lo w1:=λw' hw=>by
 have hz:w.heap.size<=w'.heap.size:=by
  rcases qX w'.heap.size w.heap.size with h'|h'
  .have e1:=hw w'.heap.size aC
   rw[k _ h',Array.getElem?_eq_none (bF _),pS h'] at e1;cases e1
  .exact h'
 have hb:cF w.heap.size w {w' with os:=w.os,tape:=w.tape,output:=w.output}:=⟨rfl,rfl,rfl,hz,λb hb=>(hw b aC).trans (k b hb)⟩;exact Ni (w:={w' with os:=w.os,tape:=w.tape,output:=w.output}) rfl (zcL h _ hb)
def gI (s:Nat):fJ:=⟨.slice none 0 0,.slice none 0 0,.slice none 0 0,.slice none 0 0,.slice none 0 0,.slice none 0 0,.slice none 0 0,s,s+1,s+2,[],[],[]⟩
variable {b:Nat}
def zvQ {x:Obj}(h:w.heap[b]? =some x)(o:Obj):(w.alloc o).heap[b]? =some x:=(qE w o b (eB.1 h).1).trans h
theorem hall_new (eF:lo<=w.heap.size)(o:fQ)(w5:aE)(h5:w5=((((w.alloc (.map #[] 0)).alloc (.map #[] 0)).alloc (.map #[] 0)).alloc (Nd (gI w.heap.size) ⟨lR o,[],[],[]⟩)).alloc (.cells #[.pointer (some ⟨w.heap.size+3,0,none⟩)] 63)):
 bG w5 lo (w.heap.size+3) (gI w.heap.size) ⟨lR o,[],[],[]⟩/\w5.heap[w.heap.size+4]? =some (.cells #[.pointer (some ⟨w.heap.size+3,0,none⟩)] 63)/\some (w.heap.size+4)∉parts (gI w.heap.size) (w.heap.size+3)/\cF w.heap.size w w5:=by
 obtain⟨a1,Bx⟩:=aP (w.alloc (.map #[] 0));obtain⟨a2,zeX⟩:=aP (a1.alloc (.map #[] 0));obtain⟨a3,zbD⟩:=aP (a2.alloc (.map #[] 0));obtain⟨a4,X1⟩:=aP (a3.alloc (Nd (gI w.heap.size) ⟨lR o,[],[],[]⟩));rw[<-Bx,<-zeX,<-zbD,<-X1] at h5;have z1:a1.heap.size=w.heap.size+1:=by rw[Bx];exact uD _ _
 have z2:a2.heap.size=w.heap.size+2:=by simp_all
 have z3:a3.heap.size=w.heap.size+3:=by simp_all
 have z4:a4.heap.size=w.heap.size+4:=by simp_all
 have z5:w5.heap.size=w.heap.size+5:=by simp_all
 have k1:a1.heap[w.heap.size]? =some (.map #[] 0):=by rw[Bx];exact Dd _ _
 have k2:a2.heap[w.heap.size+1]? =some (.map #[] 0):=by rw[zeX,<-z1];exact Dd _ _
 have k3:a3.heap[w.heap.size+2]? =some (.map #[] 0):=by rw[zbD,<-z2];exact Dd _ _
 have k4:a4.heap[w.heap.size+3]? =some (Nd (gI w.heap.size) ⟨lR o,[],[],[]⟩):=by rw[X1,<-z3];exact Dd _ _
 have k5:w5.heap[w.heap.size+4]? =some (.cells #[.pointer (some ⟨w.heap.size+3,0,none⟩)] 63):=by rw[h5,<-z4];exact Dd _ _
 have u:∀{x y:aE} {b:Nat} {ob q:Obj},y=x.alloc q->x.heap[b]? =some ob->y.heap[b]? =some ob:=λe h=>by rw[e];exact zvQ h _
 have m1:w5.heap[w.heap.size]? =some (.map #[] 0):=u h5 (u X1 (u zbD (u zeX k1)));have m2:w5.heap[w.heap.size+1]? =some (.map #[] 0):=u h5 (u X1 (u zbD k2));have m3:w5.heap[w.heap.size+2]? =some (.map #[] 0):=u h5 (u X1 k3);have m4:w5.heap[w.heap.size+3]? =some (Nd (gI w.heap.size) ⟨lR o,[],[],[]⟩):=u h5 k4;have pp:∀(i b:Nat),(parts (gI w.heap.size) (w.heap.size+3))[i]? =some (some b)->(i=0/\b=w.heap.size+3)\/(i=2/\b=w.heap.size)\/(i=3/\b=w.heap.size+1)\/(i=8/\b=w.heap.size+2):=λi b h=>by
  unfold parts gI at h;rcases i with _|_|_|_|_|_|_|_|_|_|_|i<;>simp[aF.ownBlock] at h<;>omega
 refine⟨⟨m4,⟨aC,eF,by show lo<=w.heap.size+1;omega,by show lo<=w.heap.size+2;omega⟩,⟨rfl,.inl ⟨rfl,rfl⟩⟩,⟨rfl,.inl ⟨rfl,rfl⟩⟩,⟨rfl,.inl ⟨rfl,rfl⟩⟩,⟨rfl,.inl ⟨rfl,rfl⟩⟩,⟨rfl,.inl ⟨rfl,rfl⟩⟩,⟨rfl,.inl ⟨rfl,rfl⟩⟩,⟨rfl,.inl ⟨rfl,rfl⟩⟩,⟨_,_,m1,rfl⟩,⟨_,_,m2,rfl⟩,⟨_,_,m3,rfl⟩,λi j b hi hj=>?_⟩,k5,λhp=>?_,?_⟩
 .have:=pp i b hi;have:=pp j b hj;omega
 .obtain⟨i,hi⟩:=List.mem_iff_getElem?.1 hp
  have:=pp i _ hi;omega
 .subst h5;subst X1;subst zbD;subst zeX;subst Bx
  exact eT (eT (eT (eT (eT (fW _ _) _) _) _) _) _
def G6:Go.Code:=.seq (.seq znt (.block 4 (.loop (.seq zku (.seq (.cond (.tmp 54) .skip (.exit 4)) (.seq (.block 5 (.seq zcU (.seq Qe (.seq Uh Sm)))) zmA)))))) (.seq Za (.seq Yk (.seq X9 (.seq Rc .ret))))
section
variable {Post:aF->aE->Prop}{Shun:Loc->Prop}{W0:aE}{St:Nat->Prop}{R0:Pr}{base:List dR}{K:Pr}{wB:aE}{lo go ge n c:Nat}{A:Option bC}{o:fQ}{es:List dI}
theorem rh_made (M0:sP o=true)(hgo:∀K' w v ln hb gh u0 u1 u4 u5 u6 u8 u9 gV gE gD gG gF gC u16 iE kN kT jQ iG iJ gY iH iD iF iL iA iM jJ jK u32 iN iB iC iP kW lC gZ iO iK jE iW iY iR iS jB iV jC jD iT nA nC lG lL kV kZ kU kY kM kD j5 kC u64 j7 kH jZ kG lD kL kR kE,K.le K'->oN wB lo go ge n c A o es hb gh ln [] v w->(ln.length:Int)=o.ln->BO (rhC Post Shun W0 St R0 base K') () ⟨42,#[u0,u1,.pointer (some ⟨go,0,none⟩),.pointer (some ⟨ge,0,none⟩),u4,u5,u6,.pointer (some ⟨gh,0,none⟩),u8,u9,gV,gE,gD,gG,gF,gC,u16,iE,kN,kT,jQ,iG,iJ,gY,iH,iD,iF,iL,iA,iM,jJ,jK,u32,iN,iB,iC,iP,kW,lC,gZ,iO,iK,jE,iW,iY,iR,iS,jB,iV,jC,jD,iT,nA,nC,lG,lL,kV,kZ,kU,kY,kM,kD,j5,kC,u64,j7,kH,jZ,kG,lD,kL,kR,kE],[.code (.seq M2 G6)],false⟩ w){w:aE}{u0 u1 u5 u6 u7 u8 u9 gV gE gD gG gF gC u16 iE kN kT jQ iG iJ gY iH iD iF iL iA iM jJ jK u32 iN iB iC iP kW lC gZ iO iK jE iW iY iR iS jB iV jC jD iT nA nC lG lL kV kZ kU kY kM kD j5 kC u64 j7 kH jZ kG lD kL kR kE:aF}(hE:o5 wB lo go ge n c A o es w):
 BO (rhC Post Shun W0 St R0 base K) () ⟨42,#[u0,u1,.pointer (some ⟨go,0,none⟩),.pointer (some ⟨ge,0,none⟩),.pointer none,u5,u6,u7,u8,u9,gV,gE,gD,gG,gF,gC,u16,iE,kN,kT,jQ,iG,iJ,gY,iH,iD,iF,iL,iA,iM,jJ,jK,u32,iN,iB,iC,iP,kW,lC,gZ,iO,iK,jE,iW,iY,iR,iS,jB,iV,jC,jD,iT,nA,nC,lG,lL,kV,kZ,kU,kY,kM,kD,j5,kC,u64,j7,kH,jZ,kG,lD,kL,kR,kE],[.code (.seq rRH9 (.seq (.seq znn (.block 2 (.loop Wy))) (.seq M2 G6)))],false⟩ w:=by
 have rZ:=M0;have HE:=aD hE;have HO:=aD M0;clear hE M0 rZ;refine BO.seq dD ?_;refine BO.pV nF dD tX (λw1 T1 dW Q' dC=>?_);have cJ:=aD (show o5 wB lo go ge n c A o es w1 by rw[dW];exact HE.o.tp T1 0);clear HE;have g0:w1.cell? ⟨go,0,none⟩=some (.int .i64 o.ln):=aI cJ.o.bo 0;have g1:w1.cell? ⟨go,1,none⟩=some (.int .i64 o.op):=aI cJ.o.bo 1;have g2:w1.cell? ⟨go,2,none⟩=some (.int .i64 o.pt):=aI cJ.o.bo 2;have zcO:=@run_makeMap aK;clear dW;go_wp2;refine dC.o _ _ ?_;clear dC;clear g0 g1 g2 zcO;obtain⟨w5,lB⟩:=aP (((((w1.alloc (.map #[] 0)).alloc (.map #[] 0)).alloc (.map #[] 0)).alloc (Nd (gI w1.heap.size) ⟨lR o,[],[],[]⟩)).alloc (.cells #[.pointer (some ⟨w1.heap.size+3,0,none⟩)] 63));obtain⟨n1,n2,n3,n4⟩:=hall_new cJ.o.lo_ o w5 lB;have HR:=aD (show oN wB lo go ge n c A o es (w1.heap.size+3) (w1.heap.size+4) [] [] (gI w1.heap.size) w5 from⟨cJ.o.below n4,n1,⟨rfl,rfl,rfl⟩,X7,(λx hx=>by cases hx),n2,n3,(by have:=cJ.o.lo_;omega)⟩);clear n1 n2 n3 n4;simp only[Nat.add_assoc,Nat.reduceAdd];have pL:=lB;simp only[Nd,hallA,gI,lR] at pL;rw[<-pL];clear lB pL cJ;refine BO.seq dD ?_;refine BO.seq dD ?_;generalize w1.heap.size+3=hb at HR⊢;generalize w1.heap.size+4=gh at HR⊢;generalize gI w1.heap.size=v at HR;refine BO.pV nF dD tX (λw6 T2 pL Q' dC=>?_);have jI:=aD (show oN wB lo go ge n c A o es hb gh [] [] v w6 by rw[pL];exact HR.o.tp T2 0);clear HR;have g0:w6.cell? ⟨go,0,none⟩=some (.int .i64 o.ln):=aI jI.o.e.bo 0;clear pL;go_wp2;refine dC.o _ _ ?_;clear dC;clear g0;refine BO.block dD ?_;refine BO.loop dD ?_;have rZ:=HO.o;unfold sP at rZ;have rZ:=of_decide_eq_true rZ;refine rh_lines (wB:=wB) rZ.2.1 K (λK' w' v' ln u0 u1 u4 u5 u6 u8 u9 gV gE gD gG gF gC u16 iE kN kT jQ iG iJ gY iH iD iF iL iA iM jJ jK u32 iN iB iC iP gZ iO iK jE iW iY iR iS jB iV jC jD iT nA nC lG lL kV kZ kU kY kM kD j5 kC u64 j7 kH jZ kG lD kL kR kE hK hR hl=>?_) o.ln.toNat 0 aC K w6 v [] _ _ _ _ _ _ _ _ _ _ _ _ _ _ _ _ _ _ _ _ _ _ _ _ _ _ _ _ _ _ _ _ _ _ _ _ _ _ _ _ _ _ _ _ _ _ _ _ _ _ _ _ _ _ _ _ _ _ _ _ _ _ _ _ _ _ _ _ (xS _) jI.o rfl;exact hgo K' w' v' ln hb gh _ _ _ _ _ _ _ _ _ _ _ _ _ _ _ _ _ _ _ _ _ _ _ _ _ _ _ _ _ _ _ _ _ _ _ _ _ _ _ _ _ _ _ _ _ _ _ _ _ _ _ _ _ _ _ _ _ _ _ _ _ _ _ _ _ _ _ _ _ _ hK hR hl
end
def OldB (w w':aE):Prop:=w.heap.size<=w'.heap.size/\∀b,b<w.heap.size->w'.heap[b]? =w.heap[b]?
variable {wB:aE}{ge:Nat}{A:Option bC}{o:fQ}{es:List dI}
def o5.oldB {go n c:Nat}(h:o5 wB lo go ge n c A o es w1)(eF:w.heap.size<=lo)(k:∀b,b<w.heap.size->wB.heap[b]? =w.heap[b]?):OldB w w1:=
 ⟨eH eF h.lo_,λb hb=>(h.old b (jO hb eF)).trans (k b hb)⟩
section
variable {Post:aF->aE->Prop}{Shun:Loc->Prop}{W0:aE}{St:Nat->Prop}{R0:Pr}{base:List dR}{K:Pr}{n c:Nat}{A:Option bC}{o:fQ}{es:List dI}
theorem rh_start {w:aE}(Bu:cG w 0 w.heap.size 3 A n c (qW es))(hn:n<=1048576)(zw8:qC w)
 (Ul:∀(T:Array aF) todo w',T.getD 4 aA=.pointer none->OldB w w'->eM o es=false->BO (rhC Post Shun W0 St R0 base K) () ⟨42,T,todo,true⟩ w')
 (hgo:∀wB lo go ge K' w' v ln hb gh u0 u1 u4 u5 u6 u8 u9 gV gE gD gG gF gC u16 iE kN kT jQ iG iJ gY iH iD iF iL iA iM jJ jK u32 iN iB iC iP kW lC gZ iO iK jE iW iY iR iS jB iV jC jD iT nA nC lG lL kV kZ kU kY kM kD j5 kC u64 j7 kH jZ kG lD kL kR kE,K.le K'->eM o es=true->w.heap.size<=lo->w.heap.size<=go->w.heap.size<=ge->(∀b,b<w.heap.size->wB.heap[b]? =w.heap[b]?)->oN wB lo go ge n c A o es hb gh ln [] v w'->(ln.length:Int)=o.ln->BO (rhC Post Shun W0 St R0 base K') () ⟨42,#[u0,u1,.pointer (some ⟨go,0,none⟩),.pointer (some ⟨ge,0,none⟩),u4,u5,u6,.pointer (some ⟨gh,0,none⟩),u8,u9,gV,gE,gD,gG,gF,gC,u16,iE,kN,kT,jQ,iG,iJ,gY,iH,iD,iF,iL,iA,iM,jJ,jK,u32,iN,iB,iC,iP,kW,lC,gZ,iO,iK,jE,iW,iY,iR,iS,jB,iV,jC,jD,iT,nA,nC,lG,lL,kV,kZ,kU,kY,kM,kD,j5,kC,u64,j7,kH,jZ,kG,lD,kL,kR,kE],[.code (.seq M2 G6)],false⟩ w'):
 BO (rhC Post Shun W0 St R0 base K) () ⟨42,#[.agg #[.int .i64 o.ln,.int .i64 o.op,.int .i64 o.pt],.slice A n c,aA,aA,aA,aA,aA,aA,aA,aA,aA,aA,aA,aA,aA,aA,aA,aA,aA,aA,aA,aA,aA,aA,aA,aA,aA,aA,aA,aA,aA,aA,aA,aA,aA,aA,aA,aA,aA,aA,aA,aA,aA,aA,aA,aA,aA,aA,aA,aA,aA,aA,aA,aA,aA,aA,aA,aA,aA,aA,aA,aA,aA,aA,aA,aA,aA,aA,aA,aA,aA,aA,aA],[.code o0],false⟩ w:=by
 have Fh:es.length=n:=Bu.eventsLen;have HS:=aD Bu;have HT:=aD zw8;have HN:=aD Fh;have HB:=aD hn;clear Bu zw8 Fh hn;rw[show o0=.seq rRH0 (.seq (.seq rRH1 (.cond (.tmp 17) (.seq rRH2 .ret) .skip)) (.seq (.seq rRH3 (.block 0 (.loop zbe))) (.seq rRH9 (.seq (.seq znn (.block 2 (.loop Wy))) (.seq M2 G6))))) from zHv];refine BO.seq dD ?_;refine BO.pV nF dD tX (λw1 T1 dW Q' dC=>?_);have An:=aD (show OldB w w1 by rw[dW];exact⟨bF _,λ_ _=>rfl⟩);have dB:w1.heap.size=w.heap.size:=by rw[dW];rfl
 clear dW;go_wp2;refine dC.o _ _ ?_;clear dC;obtain⟨wB,Ze⟩:=aP ((w1.alloc (.cells #[.int .i64 o.ln,.int .i64 o.op,.int .i64 o.pt] 29)).alloc (.cells #[.slice A n c] 31));have z0:(w1.alloc (.cells #[.int .i64 o.ln,.int .i64 o.op,.int .i64 o.pt] 29)).heap.size=w.heap.size+1:=by rw[uD,dB]
 have z1:wB.heap.size=w.heap.size+2:=by rw[Ze,uD,z0]
 have kB:∀b,b<w.heap.size->wB.heap[b]? =w.heap[b]? :=λb hb=>by
  rw[Ze,Bt aC,Bt aC];exact An.o.2 b hb
 have HE:=aD (show o5 wB (w.heap.size+2) w.heap.size (w.heap.size+1) n c A o es wB from⟨aC,Cb.of HT.o aC aC kB,(HS.o.keep aC λb _ q _=>kB b q).wide (bF _) aC,aC,aC,by
  rw[Ze,<-dB];exact zvQ (Dd _ _) _,by rw[Ze,<-z0];exact Dd _ _,λ_ _=>rfl⟩)
 simp only[dB];rw[<-Ze];have HK:=aD kB;clear Ze z0 z1 dB kB An;have eF:w.heap.size<=w.heap.size+2:=aC;have zAQ:w.heap.size<w.heap.size+2:=aC;generalize zfO:w.heap.size+2=lo at HE eF zAQ⊢;generalize zbW:w.heap.size=go at HE⊢;generalize zGu:w.heap.size+1=ge at HE⊢;refine BO.seq dD ?_;refine BO.seq dD ?_;have zxA:ge=go+1:=aC;have zJn:go<=ge:=aC;rw[<-zxA] at HE⊢;clear zGu zxA;by_cases hv:sP o=true
 .by_cases Yy:n<=60
  .have zFf:¬(60:Int)<(n:Int):=aC
   refine BO.pV nF dD tX (λw1 T1 dW Q' dC=>?_);have cJ:=aD (show o5 wB lo go ge n c A o es w1 by rw[dW];exact HE.o.tp T1 0);have g0:w1.cell? ⟨go,0,none⟩=some (.int .i64 o.ln):=aI cJ.o.bo 0;have g1:w1.cell? ⟨go,1,none⟩=some (.int .i64 o.op):=aI cJ.o.bo 1;have g2:w1.cell? ⟨go,2,none⟩=some (.int .i64 o.pt):=aI cJ.o.bo 2;have g3:w1.cell? ⟨ge,0,none⟩=some (.slice A n c):=aI cJ.o.be 0;have HV:=aD hv;clear HE hv;clear dW
   go_wp2_with ((go_at_call 33;refine(zmr o _).mono ?_;rintro e w' ⟨rfl,kF⟩;have g4:w'.cell? ⟨ge,0,none⟩=some (.slice A n c):=aI (cJ.o.below kF).be 0;rw[HV.o]))
   refine dC.o _ _ ?_;clear dC;clear g0 g1 g2 g3 g4;have nO:=aD (cJ.o.below kF);clear kF cJ;refine BO.cond dD (t:=false) rfl (show Od (decide ((60:Int)<(n:Int)))=.bool false by grind) ?_;refine BO.skip dD ?_;refine BO.seq dD ?_;refine BO.seq dD ?_;refine BO.pV nF dD tX (λw3 T3 iU Q' dC=>?_);have uO:=aD (show o5 wB lo go ge n c A o es w3 by rw[iU];exact nO.o.tp T3 0);have g3:w3.cell? ⟨ge,0,none⟩=some (.slice A n c):=aI uO.o.be 0;clear nO;clear iU;go_wp2;refine dC.o _ _ ?_;clear dC;clear g3;refine BO.block dD ?_;refine BO.loop dD ?_;have rZ:=HV.o;unfold sP at rZ;have rZ:=of_decide_eq_true rZ;refine rh_valid (wB:=wB) (lo:=lo) ⟨rZ.2.2.1,rZ.2.2.2.1⟩ Yy HN.o (λT todo w2 hT zjd zk8=>?_) (λw2 jQ u0 u1 u5 u6 u7 u8 u9 gV gE gD gG gF gC u16 iE iG iJ gY iH iD iF iL iA iM jJ jK u32 iN iB iC iP kW lC gZ iO iK jE iW iY iR iS jB iV jC jD iT nA nC lG lL kV kZ kU kY kM kD j5 kC u64 j7 kH jZ kG lD kL kR kE zjd zk8=>?_) n 0 aC w3 _ _ _ _ _ _ _ _ _ _ _ _ _ _ _ _ _ _ _ _ _ _ _ _ _ _ _ _ _ _ _ _ _ _ _ _ _ _ _ _ _ _ _ _ _ _ _ _ _ _ _ _ _ _ _ _ _ _ _ _ _ _ _ _ _ _ _ uO.o (λj hj=>by omega)
   .refine Ul T todo w2 hT (zjd.oldB (zbW▸eF) (λb hb=>HK.o b (zbW▸hb))) ?_
    unfold eM;rw[zk8,zpp]
   .refine rh_made HV.o (λK' w' v ln hb gh u0 u1 u4 u5 u6 u8 u9 gV gE gD gG gF gC u16 iE kN kT jQ iG iJ gY iH iD iF iL iA iM jJ jK u32 iN iB iC iP kW lC gZ iO iK jE iW iY iR iS jB iV jC jD iT nA nC lG lL kV kZ kU kY kM kD j5 kC u64 j7 kH jZ kG lD kL kR kE hK hR hl=>hgo wB lo go ge K' w' v ln hb gh _ _ _ _ _ _ _ _ _ _ _ _ _ _ _ _ _ _ _ _ _ _ _ _ _ _ _ _ _ _ _ _ _ _ _ _ _ _ _ _ _ _ _ _ _ _ _ _ _ _ _ _ _ _ _ _ _ _ _ _ _ _ _ _ _ _ _ _ _ _ hK ?_ (zbW▸eF) aC aC (λb hb=>HK.o b (zbW▸hb)) hR hl) zjd
    unfold eM;rw[HV.o,zk8,HN.o];simp[Yy]
  .have zFf:(60:Int)<(n:Int):=aC
   have fP:eM o es=false:=by
    unfold eM;rw[HN.o];simp[Yy]
   refine BO.pV nF dD tX (λw1 T1 dW Q' dC=>?_);have cJ:=aD (show o5 wB lo go ge n c A o es w1 by rw[dW];exact HE.o.tp T1 0);have g0:w1.cell? ⟨go,0,none⟩=some (.int .i64 o.ln):=aI cJ.o.bo 0;have g1:w1.cell? ⟨go,1,none⟩=some (.int .i64 o.op):=aI cJ.o.bo 1;have g2:w1.cell? ⟨go,2,none⟩=some (.int .i64 o.pt):=aI cJ.o.bo 2;have g3:w1.cell? ⟨ge,0,none⟩=some (.slice A n c):=aI cJ.o.be 0;have HV:=aD hv;clear HE hv;clear dW
   go_wp2_with ((go_at_call 33;refine(zmr o _).mono ?_;rintro e w' ⟨rfl,kF⟩;have g4:w'.cell? ⟨ge,0,none⟩=some (.slice A n c):=aI (cJ.o.below kF).be 0;rw[HV.o]))
   refine dC.o _ _ ?_;clear dC;clear g0 g1 g2 g3 g4;have nO:=aD (cJ.o.below kF);clear kF cJ;refine BO.cond dD (t:=true) rfl rfl ?_;refine BO.seq dD ?_;refine BO.pV nF dD tX (λw3 T3 iU Q' dC=>?_);have uO:=aD (show o5 wB lo go ge n c A o es w3 by rw[iU];exact nO.o.tp T3 0);clear nO;clear iU;go_wp2;refine dC.o _ _ ?_;clear dC;refine BO.ret dD ?_;exact Ul _ _ _ rfl zxD fP
 .have fP:eM o es=false:=by
   unfold eM;simp[hv]
  have hv:sP o=false:=by simpa using hv
  refine BO.pV nF dD tX (λw1 T1 dW Q' dC=>?_);have cJ:=aD (show o5 wB lo go ge n c A o es w1 by rw[dW];exact HE.o.tp T1 0);have g0:w1.cell? ⟨go,0,none⟩=some (.int .i64 o.ln):=aI cJ.o.bo 0;have g1:w1.cell? ⟨go,1,none⟩=some (.int .i64 o.op):=aI cJ.o.bo 1;have g2:w1.cell? ⟨go,2,none⟩=some (.int .i64 o.pt):=aI cJ.o.bo 2;have g3:w1.cell? ⟨ge,0,none⟩=some (.slice A n c):=aI cJ.o.be 0;have HV:=aD hv;clear HE hv;clear dW
  go_wp2_with ((go_at_call 33;refine(zmr o _).mono ?_;rintro e w' ⟨rfl,kF⟩;have g4:w'.cell? ⟨ge,0,none⟩=some (.slice A n c):=aI (cJ.o.below kF).be 0;rw[HV.o]))
  refine dC.o _ _ ?_;clear dC;clear g0 g1 g2 g3 g4;have nO:=aD (cJ.o.below kF);clear kF cJ;refine BO.cond dD (t:=true) rfl rfl ?_;refine BO.seq dD ?_;refine BO.pV nF dD tX (λw3 T3 iU Q' dC=>?_);have uO:=aD (show o5 wB lo go ge n c A o es w3 by rw[iU];exact nO.o.tp T3 0);clear nO;clear iU;go_wp2;refine dC.o _ _ ?_;clear dC;refine BO.ret dD ?_;exact Ul _ _ _ rfl zxD fP
end
def xT:Nat->Bool:=λa=>Bp aK a
def xQ (gq:Nat):Nat->Bool:=λa=>a==gq||Bp aK a
def Kj (w00:aE)(K R:Pr)(St eI:Nat->Prop)(Fz:Nat->Prop)(Wf:aE)(Xa:Nat->Prop):Prop:=
 ∀(K' R':Pr) (wn Wn:aE),K.le K'->R.le R'->cV (SF fU) K' R' (pK aK) eI wn Wn->(∀b,Fz b->Wn.heap[b]? =Wf.heap[b]?)->
  ∃Yu,cV (SF fU) K' R' (pK aK) St Yu Wn/\Yu.heap.size=wn.heap.size/\(∀a,¬Xa a->Yu.heap[a]? =wn.heap[a]?)/\∀a,xT a=true->Yu.heap[a]? =w00.heap[a]?
variable {K R:Pr}
theorem Kj.first {W:aE}{St:Nat->Prop}(hw:cV (SF fU) K R (pK aK) St w W)(hx:XOk R xT w):Kj w K R St (λa=>St a\/xT a=true) (Hb R St xT) W (λa=>xT a=true):=λK' R' wn Wn hK hR hn nZ=>by
 have h1:=zwx (St':=λa=>St a\/xT a=true) hw hx hR hK hn (λa h=>.inl h) (λa b zdw qZ=>nZ b ⟨a,qZ,.inr zdw⟩);refine⟨_,h1,zeI _ _ _,λa ha=>Xq (by simpa using ha),λa ha=>?_⟩;obtain⟨b,hb⟩:=hx.dom a ha;obtain⟨c,T,fz,hc⟩:=hx.cells a ha;rw[zg7 ha (hn.lt a b (.inl (hR _ _ hb))).1 hc,hc]
theorem Kj.step {w00 w W Wf:aE}{K R K2 R2:Pr}{St eI Fz Xa:Nat->Prop}{X:Nat->Bool}(h:Kj w00 K R St eI Fz Wf Xa)(hK:K.le K2)(hR:R.le R2)(hw:cV (SF fU) K2 R2 (pK aK) eI w W)(hx:XOk R2 X w)(hF:∀b,Fz b->W.heap[b]? =Wf.heap[b]? /\∃a,R2 a b/\eI a):
 Kj w00 K2 R2 St (λa=>eI a\/X a=true) (Hb R2 eI X) W (λa=>Xa a\/X a=true):=λK' R' wn Wn sH zn2 hn nZ=>by
 have h1:=zwx (St':=λa=>eI a\/X a=true) hw hx zn2 sH hn (λa h=>.inl h) (λa b zdw qZ=>nZ b ⟨a,qZ,.inr zdw⟩)
 obtain⟨Yu,k1,k2,k3,k4⟩:=h K' R' _ Wn (wX hK sH) (hR.trans zn2) h1 (λb hb=>by
  obtain⟨e,a,x,y⟩:=hF b hb;exact(nZ b ⟨a,x,.inl y⟩).trans e)
 refine⟨Yu,k1,k2.trans (zeI _ _ _),λa ha=>?_,k4⟩;rw[k3 a (λx=>ha (.inl x)),Xq tD]
variable {X:Nat->Bool}
theorem frX_same (h:X b=true->∃c T hi,w.heap[b]? =some (.cells c T (0,hi))/\c.size<=hi):(vI X w).heap[b]? =w.heap[b]? :=by
 cases e:X b with
 |false=>exact Of e
 |true=>
  obtain⟨c,T,hi,h1,h2⟩:=h e;rw[Ur e h1,h1];simp only[Nat.max_eq_right h2]
theorem frX_cell {o:Nat}{v:aF}(hc:X b=true->∃c T fz,w.heap[b]? =some (.cells c T fz))(h:w.cell? ⟨b,o,none⟩=some v):(vI X w).cell? ⟨b,o,none⟩=some v:=by
 cases e:X b with
 |false=>exact(aE.cell?_of_block (a:=⟨b,o,none⟩) (Of e)).trans h
 |true=>
  obtain⟨c,T,fz,hc⟩:=hc e;have e1:w.cell? ⟨b,o,none⟩=c[o]? :=by simp[lW,hc]
  have e2:(vI X w).cell? ⟨b,o,none⟩=c[o]? :=by simp[lW,Ur e hc]
  rw[e2,<-e1];exact h
def zCi:((aK.globalNamed "internal/strconv.uint64pow10").map λg=>Bp aK g)=some true:=aT
theorem tabW_fr (h:qC w)(hx:∀a,xT a=true->X a=true)(hc:∀a,xT a=true->∃c T fz,w.heap[a]? =some (.cells c T fz))(hw:∀a,xT a=true->w'.heap[a]? =(vI X w).heap[a]?):qC w':=by
 obtain⟨g,hg,bS⟩:=zR.1 zCi;obtain⟨c,T,fz,L6⟩:=hc g bS;unfold qC zdZ zg5 at*;rw[hg] at h⊢;simp only[uY] at h⊢;rw[L6] at h;rw[hw g bS,Ur (hx g bS) L6];exact h
variable {v:fJ}{ln qn:List Nat}
theorem oN.frT {go n c hb gh lo0:Nat}(h:oN wB lo go ge n c A o es hb gh ln qn v w)(hgo:lo0<=go)(Cm:lo0<=ge)(eF:lo0<=lo)(ht:∀a,xT a=true->a<lo0)(hc:∀a,xT a=true->∃c T fz,w.heap[a]? =some (.cells c T fz)):oN (vI xT w) lo go ge n c A o es hb gh ln qn v (vI xT w):=by
 have out:∀b,lo0<=b->(vI xT w).heap[b]? =w.heap[b]? :=λb hb=>Of (by
  cases e:xT b with
  |false=>rfl
  |true=>have:=ht b e;omega)
 have nT:xT gh=false:=by
  cases e:xT gh with
  |false=>rfl
  |true=>have:=ht gh e;have:=h.ghl;omega
 refine⟨⟨by rw[Te];exact h.e.lo_,λw' hw=>tabW_fr h.e.tab.at_ (λa h=>h) hc λa ha=>hw a (jO (ht a ha) eF),?_,h.e.gol,h.e.gel,(out _ hgo).trans h.e.bo,(out _ Cm).trans h.e.be,λ_ _=>rfl⟩,h.at_.keep λb hb hp=>out b (by have:=(h.at_.lt b hp).1;omega),h.mp,h.nd,λx hx=>by rw[Te];exact h.lt x hx,(Of nT).trans h.bh,h.nh,h.ghl⟩;refine⟨h.e.ev.len,h.e.ev.le,h.e.ev.cap,λhn=>?_⟩;obtain⟨b,off,e,h1,h2,h3,h4⟩:=h.e.ev.at_ hn;exact⟨b,off,e,h1,h2,by rw[Te];exact h3,λj v hv=>frX_cell (λx=>hc b x) (h4 j v hv)⟩
variable {gq a:Nat}
theorem zbv (h:xQ gq a=true):a=gq\/xT a=true:=by
 unfold xQ at h;simp only[Eu,beq_iff_eq] at h;exact h
theorem xQ_q (gq:Nat):xQ gq gq=true:=by simp[xQ]
theorem xQ_t (h:xT a=true):xQ gq a=true:=by
 unfold xQ xT at*;rw[h,Bool.or_true]
theorem op_tmps (a b:aF):(#[]++ #[a,b])++oJ ((zwT).ntmps-(#[]++ #[a,b]:Array aF).size) aA=(#[a,b,aA,aA]:Array aF):=by
 have e:(zwT).ntmps=4:=rfl;rw[e];have e:(#[]++ #[a,b]:Array aF).size=2:=aN;rw[e];apply Jq;simp only[Oo,zaj];rfl
def xF (w:aE):Prop:=∀g,xT g=true->∃c T fz,w.heap[g]? =some (.cells c T fz)/\∀v∈c,wG v
variable {τ:cH}{Wr:aE}{gt t:Array aF}
theorem op_born {Wg N:Nat}{W:List fK}{D:aE->Prop}{Fin:Goroutine->aE->Prop}{eI:Nat->Prop}{gc m:Nat}(hw:cV (SF fU) K R (pK aK) eI w Wr)(hx:XOk R (xQ gq) w)(zcF:K gc a)(fP:∀b,¬R b a)
 (hq:w.heap[gq]? =some (.cells #[.chan (some gc)] 95)) (rQ:xF w) (ha:bM (SF fU) K R gt t) (zEQ:gt[9]? =some (.pointer (some ⟨gq,0,none⟩))) (h8:t.getD 8 aA=.pointer (some ⟨Wg,0,none⟩)) (zES:Wg<Wr.heap.size) (zCW:∀a b,R a b->b≠Wg) (nG:WgLive rV.tWg Wg Wr):
 cD aK rV.tWg Wg (C3 N W D) Fin false (.usr (.op a 0 m)) 0 (Wo τ R (xQ gq)) (born aK {target:=.fn (.func 54) #[t.getD 8 aA,t.getD 9 aA],args:=#[]}) Wr:=by
 refine Nz rfl rfl (λaX s=>zoq (c:=Zb) Tryz.func54 aH rfl aX) λaX s=>?_;have Cz:∀b,¬R gc b:=λb x=>by
  obtain rfl:=hw.inj gc b a (.inl x) (.inr zcF);exact fP _ x
 have mU:∀a c T fz,xQ gq a=true->w.heap[a]? =some (.cells c T fz)->∀v∈c,xO (λa=>xQ gq a=true) (λa=>a=gc) v:=λa c T fz zdw hc v hv=>by
  rcases zbv zdw with rfl|zpM
  .rw[hq] at hc
   injection hc with hc;injection hc with e1 _ _;subst e1;obtain rfl:=by simpa using hv
   exact .chan λx e=>by cases e;rfl
  .obtain⟨c',T',Iw,h1,h2⟩:=rQ a zpM
   rw[hc] at h1;injection h1 with h1;injection h1 with e1 _ _;subst e1;exact(h2 v hv).inX
 have hrel:=reX_rel hw hx (λg hg=>xQ_t hg) (KD:=λa=>a=gc) mU (λa b x e=>absurd (e▸x) (Cz b));have zuk:vW (Wo τ R (xQ gq)) (rX R (xQ gq)) (λa=>xQ gq a=true):=zHN;have hv:(reX (xQ gq) w).cell? ⟨gq,0,none⟩=some (.chan (some gc)):=by
  simp[lW,zgJ (xQ_q gq) hq]
 have hB:=zBR (Wg:=Wg) (N:=N) (W:=W) (D:=D) (Fin:=Fin) (St:=λa=>xQ gq a=true) (gc:=gc) (gv:=gq) (c:=a) (K:=kX K (λa=>a=gc)) ⟨zcF,rfl⟩ m hv;have Sv:=Cx.Rel.suf (C:=fT Wg N W D Fin (λa=>xQ gq a=true) (kX K (λa=>a=gc)) (λ_=>True) [wV aK] ⟨[],.deferred,aN⟩ [(0,.pointer (some ⟨Wg,0,none⟩))]) hrel zuk s;have sH:∀a b,R.or K a b->a=gc->(rX R (xQ gq)).or (kX K (λa=>a=gc)) a b:=λa b x e=>by
  rcases x with x|x
  .exact absurd (e▸x) (Cz b)
  .exact .inr ⟨x,e⟩
 have p9:VR (SF fU) (kX K (λa=>a=gc)) (rX R (xQ gq)) (.pointer (some ⟨gq,0,none⟩)) (t.getD 9 aA):=by
  have h1:=ha.getD 9 (yA (S:=SF fU) (K:=K) (R:=R));rw[xG,zEQ] at h1;exact xO.vr h1 (λp q y z=>⟨y,z⟩) sH (.pointer λx e=>by cases e;exact xQ_q gq)
 rw[h8];generalize t.getD 9 aA=t9 at*;rw[op_tmps];have vu:=yA (S:=SF fU) (K:=kX K (λa=>a=gc)) (R:=rX R (xQ gq));have hj:∀x,Tt.HidV x->VR (SF fU) (kX K (λa=>a=gc)) (rX R (xQ gq)) .nilFunc x:=λx h=>.junk h;have:=hB (rX R (xQ gq)) aX ⟨54,#[.pointer (some ⟨Wg,0,none⟩),t9,aA,aA],[.code Zb],false⟩ (Wo τ R (xQ gq)) Sv ⟨rfl,rfl,rfl,?_,λx hx=>?_⟩ zuk ⟨⟨⟨λa b x=>zCW a b x.1,by have:=s.size;omega⟩,s.live nG⟩,trivial⟩
 .exact this
 .exact zwv (.cons (hj _ Vt) (.cons p9 (.cons vu (.cons vu .nil))))
 .obtain rfl:=yX.1 hx
  rfl
theorem wk_tmps (a b c:aF):(#[]++ #[a,b,c])++oJ ((zqH).ntmps-(#[]++ #[a,b,c]:Array aF).size) aA=(#[a,b,c,aA,aA,aA]:Array aF):=by
 have e:(zqH).ntmps=6:=rfl;rw[e];have e:(#[]++ #[a,b,c]:Array aF).size=3:=aN;rw[e];apply Jq;simp only[Oo,zaj];rfl
theorem wk_born {e:G4}(H:e.d.Ok)(Cs:e.ty=rV.tWg){hb gh n c:Nat}{Q:Pr->Prop}(hQ:Up Q)(hq:Q R)
 (hw:cV (SF fU) K R (pK aK) e.St w Wr) (hT:vW τ R e.St) (hi:IQ e.W0 e.StI e.Shun e.Wg e.SS e.R0 e.Fz e.Wf e.qs [] R τ Wr) (nG:WgLive rV.tWg e.Wg Wr) (h:zaX e o es ln qn lo hb v w K A n c) (hh:w.cell? ⟨gh,0,none⟩=some (.pointer (some ⟨hb,0,none⟩))) (he:w.cell? ⟨ge,0,none⟩=some (.slice A n c))
 (ha:bM (SF fU) K R gt t) (zIe:gt[7]? =some (.pointer (some ⟨gh,0,none⟩))) (zU:gt[3]? =some (.pointer (some ⟨ge,0,none⟩))) (h8:t.getD 8 aA=.pointer (some ⟨e.Wg,0,none⟩))
 (uG:∀K' R τ W w' v',K.le K'->Q R->cV (SF fU) K' R (pK aK) e.St w' W->IQ e.W0 e.StI e.Shun e.Wg e.SS e.R0 e.Fz e.Wf e.qs [] R τ W->bG w' lo hb v' (tP o es ln qn qn.length)->fY v' (tP o es ln qn qn.length)->bO hb v w v' w'->e.D W):
 cD aK rV.tWg e.Wg (C3 e.N e.W e.D) e.Fin false (.usr (.wk e.qs 0)) 0 τ (born aK {target:=.fn (.func 57) #[t.getD 8 aA,t.getD 7 aA,t.getD 3 aA],args:=#[]}) Wr:=by
 refine Nz rfl rfl (λaX s=>zoq (c:=Wi) Tryz.func57 aH rfl aX) λaX s=>?_;have hB:=zzz H Cs h hh he hQ uG
 let C:=e.d.cx K Q [] [wV aK] ⟨[],.deferred,aN⟩ [(0,.pointer (some ⟨e.Wg,0,none⟩))]
 have Sv:=Cx.Rel.suf (C:=C) hw hT (show bX C.ty C.Wg τ Wr aX by show bX e.ty _ _ _ _;rw[Cs];exact s);have Af:=(H.iok hQ (K:=K) (chs:=[]) (base:=[wV aK]) (ds:=⟨[],.deferred,aN⟩) (pin:=[(0,.pointer (some ⟨e.Wg,0,none⟩))])).suf R τ Wr aX ⟨⟨hi,by show WgLive e.ty _ _;rw[Cs];exact nG⟩,hq⟩ (show bX C.ty C.Wg τ Wr aX by show bX e.ty _ _ _ _;rw[Cs];exact s);have p7:VR (SF fU) K R (.pointer (some ⟨gh,0,none⟩)) (t.getD 7 aA):=by
  have h1:=ha.getD 7 (yA (S:=SF fU) (K:=K) (R:=R));rw[xG,zIe] at h1;exact h1
 have p3:VR (SF fU) K R (.pointer (some ⟨ge,0,none⟩)) (t.getD 3 aA):=by
  have h1:=ha.getD 3 (yA (S:=SF fU) (K:=K) (R:=R));rw[xG,zU] at h1;exact h1
 rw[h8];generalize t.getD 7 aA=t7 at*;generalize t.getD 3 aA=t3 at*;rw[wk_tmps];have vu:=yA (S:=SF fU) (K:=K) (R:=R);have hj:∀x,Tt.HidV x->VR (SF fU) K R .nilFunc x:=λx h=>.junk h;have:=hB R aX ⟨57,#[.pointer (some ⟨e.Wg,0,none⟩),t7,t3,aA,aA,aA],[.code Wi],false⟩ τ Sv ⟨rfl,rfl,rfl,?_,λx hx=>?_⟩ hT Af
 .rw[Cx.B_none (C:=C) rfl] at this
  have e2:C.ty=rV.tWg:=Cs;rw[e2] at this;exact this
 .exact zwv (.cons (hj _ Vt) (.cons p7 (.cons p3 (.cons vu (.cons vu (.cons vu .nil))))))
 .obtain rfl:=yX.1 hx
  rfl
end Go.Proofs.YtfcjiloojkjaeaaGreatDoor
namespace Go.Mt
open Go.Conc Go.Tt
theorem zpg:∀(n:Nat) (u:aF),Ny u<n->∃u',wG u'/\(∀(S:aQ->Prop) (K R:Pr) (v:aF),VR S K R u v->VR S K R u' v)/\(Tn u->u'=u):=by
 intro n
 induction n with
 |zero=>intro u h;omega
 |succ n ih=>
  intro u hu;have pl:∀{x:aF},(∀k m,x≠ .int k m)->(∀s,x≠ .string s)->(∀b,x≠ .bool b)->∀{y:aF},Tn x->y=x:=λh1 h2 h3 y hx=>by
   rcases hx with⟨k,m,e⟩|⟨s,e⟩|⟨b,e⟩
   .exact absurd e (h1 _ _)
   .exact absurd e (h2 _)
   .exact absurd e (h3 _)
  have rows:∀xs:Array aF,Ny xs<n->∃us:Array aF,us.size=xs.size/\(∀(i:Nat) (u:aF),us[i]? =some u->wG u)/\∀(S:aQ->Prop) (K R:Pr) (i:Nat) (u x v:aF),us[i]? =some u->xs[i]? =some x->VR S K R x v->VR S K R u v:=λxs hx=>by
   have hex:∀x,∃u,x∈xs->wG u/\∀(S:aQ->Prop) (K R:Pr) (v:aF),VR S K R x v->VR S K R u v:=λx=>by
    by_cases hm:x∈xs
    .obtain⟨u,h1,h2,_⟩:=ih x (zim (Array.sizeOf_lt_of_mem hm) hx)
     exact⟨u,λ_=>⟨h1,h2⟩⟩
    .exact⟨x,λh=>absurd h hm⟩
   refine⟨xs.map λx=>(hex x).choose,aN,λi u h1=>?_,λS K R i u x v h1 h2 h3=>?_⟩
   .rw[Cy] at h1
    cases h2:xs[i]? with
    |none=>rw[h2] at h1;cases h1
    |some v=>
     rw[h2] at h1;simp only[F8,jP] at h1;subst h1;exact((hex v).choose_spec (za6 h2)).1
   .rw[Cy,h2] at h1
    simp only[F8,jP] at h1;subst h1;exact((hex x).choose_spec (za6 h2)).2 S K R v h3
  cases u with
  |bool b=>exact⟨_,.bool b,λS K R v h=>h,λ_=>rfl⟩
  |int k m=>exact⟨_,.int k m,λS K R v h=>h,λ_=>rfl⟩
  |string s=>exact⟨_,.string s,λS K R v h=>h,λ_=>rfl⟩
  |nilFunc=>exact⟨_,.nilFunc,λS K R v h=>h,λ_=>rfl⟩
  |nilIface=>exact⟨_,.nilIface,λS K R v h=>h,λ_=>rfl⟩
  |agg xs=>
   obtain⟨us,h1,h3,h2⟩:=rows xs (by simp at hu;omega);refine⟨.agg us,.agg h3,λS K R v h=>?_,pl (λ_ _ h=>by cases h) (λ_ h=>by cases h) (λ_ h=>by cases h)⟩
   cases h with
   | @agg _ b8 e hh=>
    refine .agg (h1.trans e) λi a b ha hb=>?_;have hi:i<xs.size:=by rw[e];exact(eB.1 hb).1
    exact h2 S K R i a xs[i] b ha (pS hi) (hh i _ _ (pS hi) hb)
  |tuple xs=>
   obtain⟨us,h1,h3,h2⟩:=rows xs (by simp at hu;omega);refine⟨.tuple us,.tuple h3,λS K R v h=>?_,pl (λ_ _ h=>by cases h) (λ_ h=>by cases h) (λ_ h=>by cases h)⟩
   cases h with
   | @tuple _ b8 e hh=>
    refine .tuple (h1.trans e) λi a b ha hb=>?_;have hi:i<xs.size:=by rw[e];exact(eB.1 hb).1
    exact h2 S K R i a xs[i] b ha (pS hi) (hh i _ _ (pS hi) hb)
  |_=>exact⟨.nilFunc,.nilFunc,λS K R v h=>.junk (by cases h<;>exact True.intro),pl (λ_ _ h=>by cases h) (λ_ h=>by cases h) (λ_ h=>by cases h)⟩
def cl (u:aF):Value:=(zpg (Ny u+1) u (yO _)).choose
def cl_spec (u:aF):wG (cl u)/\(∀(S:aQ->Prop) (K R:Pr) (v:aF),VR S K R u v->VR S K R (cl u) v)/\(Tn u->cl u=u):=(zpg (Ny u+1) u (yO _)).choose_spec
end Go.Mt
namespace Go.Proofs.YtfcjiloojkjaeaaGreatDoor
open Go.RowKit Go.Mt Go.Conc Go.Tt Go.Maps Go.Conc.Lib Go.ConcR.Gen
open Go.ConcR (KK wgBlock WgAt stA smA rd wr)
abbrev Bm (Shun:Loc->Prop)(Wg:Nat):Loc->Prop:=λl=>Shun l\/nQ l Wg
abbrev finS (Post:aF->aE->Prop)(Shun:Loc->Prop)(Wg:Nat):Goroutine->aE->Prop:=λg w'=>J aK Post (Bm Shun Wg) w'.heap.size g w'
structure rU where
 Post:aF->aE->Prop
 Shun:Loc->Prop
 W0:aE
 St:Nat->Prop
 base:List dR
 K1:Pr
 R1:Pr
 w00:aE
 lo0:Nat
 lo:Nat
 go:Nat
 ge:Nat
 n:Nat
 c:Nat
 A:Option bC
 o:fQ
 es:List dI
 hb:Nat
 gh:Nat
 ln:List Nat
 Wg:Nat
def rU.End (p:rU)(qn:List Nat)(v':fJ)(w':aE):Prop:=
 bG w' p.lo p.hb v' (tP p.o p.es p.ln qn qn.length)/\(∀b,b<p.lo0->w'.heap[b]? =p.w00.heap[b]?)/\p.lo<=w'.heap.size/\w'.heap[p.gh]? =some (.cells #[.pointer (some ⟨p.hb,0,none⟩)] 63)/\(qn.length:Int)=p.o.op
def rU.D (p:rU)(W:aE):Prop:=∃(K' R':Pr) (w':aE) (v':fJ) (qn:List Nat),p.K1.le K'/\p.R1.le R'/\cV (SF fU) K' R' (pK aK) p.St w' W/\Kp p.W0 R' p.St W/\Sh p.W0.heap.size (Bm p.Shun p.Wg) R' W/\p.End qn v' w'
def rU.N (p:rU):Nat:=p.o.op.toNat
def rU.cx (p:rU)(K:Pr)(eI:Nat->Prop)(SS:Nat->Prop)(R0:Pr)(Fz:Nat->Prop)(Wf:aE)(qs chs:List Nat):Cx gN:=
 {p:=aK,gs:=Da,fs:=fU,ty:=rV.tWg,Wg:=p.Wg,A:=C3 p.N (Cj p.o p.es) p.D,Fin:=finS p.Post p.Shun p.Wg,main:=true,base:=p.base,ds:=.nil,K:=K,St:=eI,I:=yY rV.tWg p.Wg (IQ p.W0 p.St (Bm p.Shun p.Wg) p.Wg SS R0 Fz Wf qs chs),pin:=[(8,.pointer (some ⟨p.Wg,0,none⟩))]}
theorem zAB {N:Nat}{W:List fK}{D:aE->Prop}{Wn:aE}(h:zco (C3 N W D) Wn):D Wn:=by
 obtain⟨q,ch,hi,h0,hr,hd⟩:=h
 cases hi with
 |a n qs ix l _ _ _ h _ _ _=>rw[h0] at h;cases h
 |b qs ix iw k _ _ hw _ _ h _ _ _=>
  rcases h with h|⟨_,h⟩
  .simp_all
  .exact hd iw _ h
 |c qs ix iw k i kd cl ans a _ _ _ _ _ h _ _ _ _ _=>simp_all
variable {S:aQ->Prop}{K R:Pr}{t:Array aF}
theorem bM.forget {K' R':Pr}{g:Array aF}(h:bM S K R g t):bM S K' R' (g.map cl) t:=by
 refine⟨by rw[Array.size_map];exact h.1,λi v v' h1 h2=>?_⟩;rw[Cy] at h1
 cases h3:g[i]? with
 |none=>rw[h3] at h1;cases h1
 |some u=>
  rw[h3] at h1;simp only[F8,jP] at h1;subst h1;obtain⟨c1,c2,_⟩:=cl_spec u;exact xO.vr (X:=λ_=>False) (KD:=λ_=>False) (c2 S K R v' (h.2 i u v' h3 h2)) (λp q y z=>z.elim) (λa b x e=>e.elim) c1.inX
variable {i:Nat}
theorem set_getD (h:i<t.size):t.setIfInBounds i (t.getD i aA)=t:=by
 apply Array.ext_getElem?;intro j;rw[Array.getElem?_setIfInBounds];split
 .simp_all
 .rfl
def rU.After (p:rU):Prop:=∀(K' R':Pr) (w':aE) (v':fJ) (qn:List Nat) (u0 u1 u2 u3 u4 u5 u6 u8 u9 gV gE gD gG gF gC u16 iE kN kT jQ iG iJ gY iH iD iF iL iA iM jJ jK u32 iN iB iC iP kW lC gZ iO iK jE iW iY iR iS jB iV jC jD iT nA nC lG lL kV kZ kU kY kM kD j5 kC u64 j7 kH jZ kG lD kL kR kE:aF),p.K1.le K'->p.R1.le R'->p.End qn v' w'->BO (Gd aK Da fU p.Post (Bm p.Shun p.Wg) p.W0 p.St K' R' p.base) () ⟨42,#[u0,u1,u2,u3,u4,u5,u6,.pointer (some ⟨p.gh,0,none⟩),u8,u9,gV,gE,gD,gG,gF,gC,u16,iE,kN,kT,jQ,iG,iJ,gY,iH,iD,iF,iL,iA,iM,jJ,jK,u32,iN,iB,iC,iP,kW,lC,gZ,iO,iK,jE,iW,iY,iR,iS,jB,iV,jC,jD,iT,nA,nC,lG,lL,kV,kZ,kU,kY,kM,kD,j5,kC,u64,j7,kH,jZ,kG,lD,kL,kR,kE],[.inRegion Yo [],.code (.seq Rc .ret)],false⟩ w'
variable {p:rU}{eI SS Fz:Nat->Prop}{R0:Pr}{Wf w:aE}{qs qn:List Nat}{v:fJ}{gV gE gD gG gF gC u16 iE kN kT jQ iG iJ gY iH iD iF iL iA iM jJ jK u32 iN iB iC iP kW lC gZ iO iK jE iW iY iR iS jB iV jC jD iT kV kZ kU kY kM kD j5 kC u64 j7 kH jZ kG lD kL kR kE:aF}
theorem rh_last (zmt:p.After)(E9:∃b,p.R1 p.gh b)(hN:¬qs.length<p.N)(aY:∀a,p.St a->eI a)(vV:∀b,b<p.W0.heap.size->SS b)(hF:∀b,Fz b->SS b)(pB:p.W0.heap.size<=p.Wg)(zjR:p.R1.le R0)
 (cP:∀e:G4,e.W=Cj p.o p.es->e.qs=qs->zaX e p.o p.es p.ln qn p.lo p.hb v w K p.A p.n p.c) (hh:w.cell? ⟨p.gh,0,none⟩=some (.pointer (some ⟨p.hb,0,none⟩))) (he:w.cell? ⟨p.ge,0,none⟩=some (.slice p.A p.n p.c))
 (uG:∀K' R τ W w' v',K.le K'->R0.le R->cV (SF fU) K' R (pK aK) eI w' W->IQ p.W0 p.St (Bm p.Shun p.Wg) p.Wg SS R0 Fz Wf qs [] R τ W->bG w' p.lo p.hb v' (tP p.o p.es p.ln qn qn.length)->fY v' (tP p.o p.es p.ln qn qn.length)->bO p.hb v w v' w'->p.D W) {u0 u1 u2 u4 u5 u6 u9 nA nC lG lL:aF}:
 BO (p.cx K eI SS R0 Fz Wf qs []) (.mN qs) ⟨42,#[u0,u1,u2,.pointer (some ⟨p.ge,0,none⟩),u4,u5,u6,.pointer (some ⟨p.gh,0,none⟩),.nilFunc,u9,gV,gE,gD,gG,gF,gC,u16,iE,kN,kT,jQ,iG,iJ,gY,iH,iD,iF,iL,iA,iM,jJ,jK,u32,iN,iB,iC,iP,kW,lC,gZ,iO,iK,jE,iW,iY,iR,iS,jB,iV,jC,jD,iT,nA,nC,lG,lL,kV,kZ,kU,kY,kM,kD,j5,kC,u64,j7,kH,jZ,kG,lD,kL,kR,kE],[.code (.seq Za (.seq Yk (.seq X9 (.seq Rc .ret))))],false⟩ w:=by
 let C:=p.cx K eI SS R0 Fz Wf qs []
 have hI:fD C:=znp (C:=C) rfl aY vV hF pB;have hX:=zga (ty:=rV.tWg) (St:=p.St) (Shun:=Bm p.Shun p.Wg) (R0:=R0) (Fz:=Fz) (Wf:=Wf) (qs:=qs) (chs:=[]) vV hF pB;show BO C _ _ _;refine BO.seq hI ?_;rw[zCe];refine BO.regs hI _ zBP ?_;refine BO.add (C:=C) (Lk:=rV) (s:=8) (nx:=.mW qs) zdc rfl rfl rfl hI rfl hX zGQ rfl rfl (yX.2 rfl) (by intro s hs;cases hs;show(69:Nat)∉([8]:List Nat);decide) (by show eO p.N (Cj p.o p.es) (.mN qs)=_;simp[eO,hN]) ?_;simp only[cC,fO,dP,dQ];refine BO.regEnd hI ?_;refine BO.seq hI ?_;rw[zBS];refine BO.regs hI _ zzG ?_;refine BO.go (C:=C) rfl hI zD6 zEO rfl rfl rfl rfl rfl rfl (lc:=.wk qs 0) (nx:=.mZ) (pub:=[]) rfl aN λR W t τ hw ha Em ht hi=>?_;have hw:cV (SF fU) K R (pK aK) eI w W:=hw;have hi:yY rV.tWg p.Wg (IQ p.W0 p.St (Bm p.Shun p.Wg) p.Wg SS R0 Fz Wf qs []) R τ W:=hi;obtain⟨hi,nG⟩:=hi;have h8:t.getD 8 aA=.pointer (some ⟨p.Wg,0,none⟩):=Em (8,.pointer (some ⟨p.Wg,0,none⟩)) (yX.2 rfl);have Xv:R0.le R:=hi.x.x.le;have ha:bM (SF fU) K R #[u0,u1,u2,.pointer (some ⟨p.ge,0,none⟩),u4,u5,u6,.pointer (some ⟨p.gh,0,none⟩),.nilFunc,u9,gV,gE,gD,gG,gF,gC,u16,iE,kN,kT,jQ,iG,iJ,gY,iH,iD,iF,iL,iA,iM,jJ,jK,u32,iN,iB,iC,iP,kW,lC,gZ,iO,iK,jE,iW,iY,iR,iS,jB,iV,jC,jD,iT,nA,nC,lG,lL,kV,kZ,kU,kY,kM,kD,j5,kC,u64,j7,kH,jZ,kG,.tuple #[],kL,kR,kE] t:=ha;have cM:t.size=73:=ha.1.symm;obtain⟨zE0,qN⟩:=E9;have h7:t.getD 7 aA=.pointer (some ⟨zE0,0,none⟩):=by
  have h1:VR (SF fU) K R (.pointer (some ⟨p.gh,0,none⟩)) (t.getD 7 aA):=ha.getD 7 (yA (S:=SF fU) (K:=K) (R:=R));generalize t.getD 7 aA=t7 at h1
  cases h1 with
  |pointer y=>cases y with|some y=>cases y with|mk y=>rw[hw.inj _ _ _ (.inl y) (.inl (Xv _ _ (zjR _ _ qN)))]
 refine⟨tauWm τ,τ,parts_w hi,?_,?_⟩
 .rw[zEc]
  refine zGk (Lk:=rV) (s:=8) (ops:=Yo) (o:=oRH24_0) zdc rfl (λn g w h=>zDM n g w h) rfl rfl rfl ?_ nG λWn d hD=>?_
  .show(t.setIfInBounds 70 _).getD 8 aA=.pointer (some ⟨p.Wg,0,none⟩)
   simp_all
  .obtain⟨K',R',w',v',zhw,k1,k2,k3,k4,k5,k6⟩:=zAB hD
   have zG1:=zmt K' R' w' v' zhw (cl (u0)) (cl (u1)) (cl (u2)) (cl (.pointer (some ⟨p.ge,0,none⟩))) (cl (u4)) (cl (u5)) (cl (u6)) (cl (.nilFunc)) (cl (u9)) (cl (gV)) (cl (gE)) (cl (gD)) (cl (gG)) (cl (gF)) (cl (gC)) (cl (u16)) (cl (iE)) (cl (kN)) (cl (kT)) (cl (jQ)) (cl (iG)) (cl (iJ)) (cl (gY)) (cl (iH)) (cl (iD)) (cl (iF)) (cl (iL)) (cl (iA)) (cl (iM)) (cl (jJ)) (cl (jK)) (cl (u32)) (cl (iN)) (cl (iB)) (cl (iC)) (cl (iP)) (cl (kW)) (cl (lC)) (cl (gZ)) (cl (iO)) (cl (iK)) (cl (jE)) (cl (iW)) (cl (iY)) (cl (iR)) (cl (iS)) (cl (jB)) (cl (iV)) (cl (jC)) (cl (jD)) (cl (iT)) (cl (nA)) (cl (nC)) (cl (lG)) (cl (lL)) (cl (kV)) (cl (kZ)) (cl (kU)) (cl (kY)) (cl (kM)) (cl (kD)) (cl (j5)) (cl (kC)) (cl (u64)) (cl (j7)) (cl (kH)) (cl (jZ)) (cl (kG)) (cl (.tuple #[])) .nilFunc (.tuple #[]) (cl (kE)) k1 k2 k6;have h1:=(bM.forget (K':=K') (R':=R') ha).set 7 (v:=.pointer (some ⟨p.gh,0,none⟩)) (v':=t.getD 7 aA) (by rw[h7];exact .pointer (.some (.mk (k2 _ _ qN))));rw[set_getD aC] at h1;simp only[vD,gT,tW,fO,dP,dQ] at h1;have h1:=(h1.set 70 (.junk (v':=(.func (.func 57) #[] ((#[.tmp 8,.tmp 7,.tmp 3]:Array cK).map (bJ t C.ds.ds).eval))) Vt)).set 71 (v:=.tuple #[]) (v':=.tuple #[]) (.tuple rfl λi v v' h=>by simp at h);simp only[fO,dP,dQ] at h1;have oY:=BO.aloneIn (W:=Wn.at d) (m':=⟨42,(cC ⟨t.setIfInBounds 70 (.func (.func 57) #[] ((#[.tmp 8,.tmp 7,.tmp 3]:Array cK).map (bJ t C.ds.ds).eval)),[]⟩ (some 71) (.tuple #[])).tmps,[.inRegion Yo [],.code (.seq Rc .ret)],false⟩) zG1 (cV.at k3 d) ⟨rfl,rfl,rfl,h1,λx lX=>by cases lX⟩ ⟨k5.old,k5.rel,k5.new⟩ ⟨k4.os,k4.tape,k4.output,k4.size,k4.block,k4.old⟩;have e:=mX .nil 42 (cC ⟨t.setIfInBounds 70 (.func (.func 57) #[] ((#[.tmp 8,.tmp 7,.tmp 3]:Array cK).map (bJ t C.ds.ds).eval)),[]⟩ (some 71) (.tuple #[])).tmps [.inRegion Yo [],.code (.seq Rc .ret)];rw[Hf] at e;rw[e] at oY;exact oY
 .let e:G4:=⟨rV.tWg,p.Wg,p.N,Cj p.o p.es,p.D,finS p.Post p.Shun p.Wg,eI,p.W0,p.St,Bm p.Shun p.Wg,SS,R0,Fz,Wf,qs⟩
  have H:e.d.Ok:=⟨aY,vV,hF,pB,nF⟩;simp only[vD,gT,tW,wZ];exact wk_born (e:=e) H rfl (Q:=λR'=>R0.le R') (λR R' h h'=>h'.trans h) Xv hw ht hi nG (cP e rfl rfl) hh he ha rfl rfl h8 (λK' R τ W w' v'=>uG K' R τ W w' v')
variable {wB w':aE}{c gq:Nat}{A:Option bC}{o:fQ}{es:List dI}{ln:List Nat}
theorem oN.but {lo go ge n hb gh:Nat}(h:oN wB lo go ge n c A o es hb gh ln qn v w)(hs:w'.heap.size=w.heap.size)(Cv:lo<=gq)(Ca:gq≠gh)(zcQ:some gq∉parts v hb)(k:∀b,b≠gq->w'.heap[b]? =w.heap[b]?):oN wB lo go ge n c A o es hb gh ln qn v w':=
 ⟨h.e.keep aC λb hb=>k b aC,h.at_.keep λb _ hp=>k b λe=>zcQ (e▸hp),h.mp,h.nd,λx hx=>by rw[hs];exact h.lt x hx,(k _ (Ne.symm Ca)).trans h.bh,h.nh,h.ghl⟩
variable {Tf:Array aF}
theorem al17 :(aO (bJ Tf []).eval zpb).run aK w=.ok (.value (.pointer (some ⟨w.heap.size,0,none⟩))) (w.alloc (.cells #[.chan none] 95)):=by
 unfold aO;go_simp
theorem st17 {V:Nat->aF}{gc:Nat}(hT:xL Tf V)(e1:V 9=.pointer (some ⟨gq,0,none⟩))(e2:V 55=.chan (some gc))(hh:w.cell? ⟨gq,0,none⟩=some (.chan none))(hf:w.frozen? ⟨gq,0,none⟩=false){T:j6}:(aO (bJ Tf []).eval zwZ).run aK (Tt.tp w T 0)=.ok .skip (Tt.tp (w.setCell ⟨gq,0,none⟩ (.chan (some gc))) T 0):=by
 have zgq:(Tt.tp w T 0).cell? ⟨gq,0,none⟩=some (.chan none):=hh;have Eb:(Tt.tp w T 0).frozen? ⟨gq,0,none⟩=false:=hf;clear hh hf;unfold aO;go_simp
 try rfl
def zbS:Go.Code:=.seq zku (.seq (.cond (.tmp 54) .skip (.exit 4)) (.seq (.block 5 (.seq zcU (.seq Qe (.seq Uh Sm)))) zmA))
def zjX:Go.Code:=.seq Za (.seq Yk (.seq X9 (.seq Rc .ret)))
def rU.ok {chs:List Nat}(aY:∀a,p.St a->eI a)(vV:∀b,b<p.W0.heap.size->SS b)(hF:∀b,Fz b->SS b)(pB:p.W0.heap.size<=p.Wg):fD (p.cx K eI SS R0 Fz Wf qs chs):=znp (C:=p.cx K eI SS R0 Fz Wf qs chs) rfl aY vV hF pB
structure Cr (p:rU)(wB:aE)(K:Pr)(eI SS:Nat->Prop)(R0:Pr)(Fz:Nat->Prop)(Wf:aE)(Xa:Nat->Prop)(qs qn:List Nat)(v:fJ)(w:aE):Prop where
 K1:p.K1.le K
 R1:p.R1.le R0
 st:∀a,p.St a->eI a
 ss:∀b,b<p.W0.heap.size->SS b
 F:∀b,Fz b->SS b
 th:Kj p.w00 K R0 p.St eI Fz Wf Xa
 fz:∀b,Fz b->∃a,R0 a b/\eI a
 xt:∀a,xT a=true->eI a
 xa:∀a,Xa a->xT a=true\/(p.lo<=a/\a<w.heap.size/\a≠p.gh/\some a∉parts v p.hb)
 lq:qs.length=qn.length
 kq:∀(i g:Nat),qn[i]? =some g->K g (qa qs i)
 h:oN wB p.lo p.go p.ge p.n p.c p.A p.o p.es p.hb p.gh p.ln qn v w
structure PhOk (p:rU)(wB:aE):Prop where
 after:p.After
 gh:∃b,p.R1 p.gh b
 ok:eM p.o p.es=true
 low:p.W0.heap.size<=p.Wg
 lo0:p.lo0<=p.lo
 tb:xF wB
 tl:∀a,xT a=true->a<p.lo0
 wB:∀b,b<p.lo0->xT b=false->wB.heap[b]? =p.w00.heap[b]?
 ln:(p.ln.length:Int)=p.o.ln
variable {W:aE}{Xa:Nat->Prop}
theorem op_dep (H:PhOk p wB)(I:Cr p wB K eI SS R0 Fz Wf Xa qs qn v w)(Q5:(qn.length:Int)=p.o.op){K':Pr}{τ:cH}{v':fJ}(hK:K.le K')(hR:R0.le R)(hw:cV (SF fU) K' R (pK aK) eI w' W)(hi:IQ p.W0 p.St (Bm p.Shun p.Wg) p.Wg SS R0 Fz Wf qs [] R τ W)
 (hA:bG w' p.lo p.hb v' (tP p.o p.es p.ln qn qn.length)) (hT:bO p.hb v w v' w'):p.D W:=by
 obtain⟨wn,t1,t2,t3,t4⟩:=I.th K' R w' W hK hR hw (λb hb=>(hi.x.x.fz b hb).2.1);have eF:p.lo<=w.heap.size:=I.h.e.lo_;have zFH:∀b,b<p.lo->xT b=false->¬Xa b:=λb hb hx h=>by
  rcases I.xa b h with h|⟨h,_⟩
  .simp_all
  .omega
 have zzj:∀b,p.lo<=b->xT b=false:=λb hb=>by
  cases e:xT b with
  |false=>rfl
  |true=>have:=H.tl b e;have:=H.lo0;omega
 refine⟨K',R,wn,v',qn,wX I.K1 hK,I.R1.trans hR,t1,hi.x.x.im.kp,hi.x.x.im.sh,hA.keep λb _ hp=>t3 b λhx=>?_,λb hb=>?_,by have:=hT.size;omega,?_,Q5⟩
 .have zJ4:=(hA.lt b hp).1
  rcases I.xa b hx with h|⟨_,h2,_,h4⟩
  .simp_all
  .rcases hT.moved b hp with hm|hm
   .exact h4 hm
   .omega
 .cases e:xT b with
  |true=>exact t4 b e
  |false=>
   have bU:b<p.lo:=jO hb H.lo0;rw[t3 b (zFH b bU e),hT.block b aC (λhp=>by have:=(I.h.at_.lt b hp).1;omega),I.h.e.old b bU,H.wB b hb e]
 .rw[t3 p.gh λhx=>?_]
  .exact(I.h.at_.turned hT I.h.bh I.h.nh).1
  .rcases I.xa _ hx with h|⟨_,_,h3,_⟩
   .rw[zzj _ I.h.ghl] at h;cases h
   .exact h3 rfl
theorem op_pre (H:PhOk p wB)(I:Cr p wB K eI SS R0 Fz Wf Xa qs qn v w)(Q5:(qn.length:Int)=p.o.op)(e:G4)(he:e.W=Cj p.o p.es)(hq:e.qs=qs):zaX e p.o p.es p.ln qn p.lo p.hb v w K p.A p.n p.c:=
 ⟨H.ok,he,I.h.at_,I.h.mr,I.h.nd,H.ln,Q5,by rw[hq];exact I.lq,I.h.e.lo_,I.h.e.tab,I.h.e.ev,by rw[hq];exact I.kq⟩
def und_chq:aK.underlying 95=some (.chan .both 124):=aT
def zGo:∃ie,aK.info? 124=some ie:=Option.isSome_iff_exists.1 aT
theorem zHo (h:i<qs.length):qa (qs++[c]) i=qa qs i:=by simp[qa,Uu,Og h]
theorem qa_snoc :qa (qs++[c]) qs.length=c:=by simp[qa,Uu]
theorem rh_go (H:PhOk p wB){gc cr j:Nat}(I:Cr p wB K eI SS R0 Fz Wf Xa qs qn v w)(hN:qs.length<p.N)(zJA:j=qn.length)(zcF:K gc cr)
 (Cv:w.heap[gq]? =some (.cells #[.chan (some gc)] 95)) (lM:p.lo<=gq) (E9:gq≠p.gh) (zck:some gq∉parts v p.hb) {kk:List dX}
 (zcn:∀(zcw zcx:Nat->Prop) (zc8:Pr) (zb7:Nat->Prop) (zaf:aE) (zje:Nat->Prop) (v':fJ) (w':aE) u0 u1 u4 u5 u6 gV gE gD gG gF gC u16 iE kN kT jQ iG iJ gY iH iD iF iL iA iM jJ jK u32 iN iB iC iP kW lC gZ iO iK jE iW iY iR iS jB iV jC jD iT kV kZ kU kY kM kD j5 kC u64 j7 jZ kG lD kL kR kE u9 lG lL kH,Cr p wB K zcw zcx zc8 zb7 zaf zje (qs++[cr]) (qn++[gc]) v' w'->BO (p.cx K zcw zcx zc8 zb7 zaf (qs++[cr]) []) (.mN (qs++[cr])) ⟨42,#[u0,u1,.pointer (some ⟨p.go,0,none⟩),.pointer (some ⟨p.ge,0,none⟩),u4,u5,u6,.pointer (some ⟨p.gh,0,none⟩),.nilFunc,u9,gV,gE,gD,gG,gF,gC,u16,iE,kN,kT,jQ,iG,iJ,gY,iH,iD,iF,iL,iA,iM,jJ,jK,u32,iN,iB,iC,iP,kW,lC,gZ,iO,iK,jE,iW,iY,iR,iS,jB,iV,jC,jD,iT,.int .i64 p.o.op,.int .i64 j,lG,lL,kV,kZ,kU,kY,kM,kD,j5,kC,u64,j7,kH,jZ,kG,lD,kL,kR,kE],kk,false⟩ w')
 {u0 u1 u4 u5 u6:aF}:
 BO (p.cx K eI SS R0 Fz Wf qs [cr]) (.mA qs cr) ⟨42,#[u0,u1,.pointer (some ⟨p.go,0,none⟩),.pointer (some ⟨p.ge,0,none⟩),u4,u5,u6,.pointer (some ⟨p.gh,0,none⟩),.nilFunc,.pointer (some ⟨gq,0,none⟩),gV,gE,gD,gG,gF,gC,u16,iE,kN,kT,jQ,iG,iJ,gY,iH,iD,iF,iL,iA,iM,jJ,jK,u32,iN,iB,iC,iP,kW,lC,gZ,iO,iK,jE,iW,iY,iR,iS,jB,iV,jC,jD,iT,.int .i64 p.o.op,.int .i64 j,.bool true,.chan (some gc),kV,kZ,kU,kY,kM,kD,j5,kC,u64,j7,kH,jZ,kG,lD,kL,kR,kE],[.code (.seq Qe (.seq Uh Sm))]++kk,false⟩ w:=by
 let C:=p.cx K eI SS R0 Fz Wf qs [cr]
 have hI:fD C:=rU.ok I.st I.ss I.F H.low;have hX:=zga (ty:=rV.tWg) (St:=p.St) (Shun:=Bm p.Shun p.Wg) (R0:=R0) (Fz:=Fz) (Wf:=Wf) (qs:=qs) (chs:=[cr]) I.ss I.F H.low;show BO C _ ⟨_,_,.code (.seq Qe (.seq Uh Sm))::kk,false⟩ _;have rZ:sP p.o=true:=by
  have:=H.ok;unfold eM at this;simp only[jF] at this;exact this.1.1
 unfold sP at rZ;have rZ:=of_decide_eq_true rZ;have zKe:p.N<=4:=by unfold rU.N;omega
 refine BO.seq hI ?_;refine cw_RQ (C:=C) (l:=.mA qs cr) (c:=⟨p.lo,p.hb,p.gh,gq,gc,v,w,v,⟨lR p.o,p.ln,qn,[]⟩⟩) hI rfl rfl rfl nF (λi o s h1 h2 h3=>?_) (by show qn.length<=1000;have:=I.lq;omega) I.h.nh zck rfl rfl rfl (λvs C' l' w' uB hS=>?_) ⟨rfl,rfl,λ_=>⟨aI I.h.at_.blk 6,I.h.bh,Cv⟩,⟨I.h.at_,bO.refl,I.h.e.lo_⟩⟩
 .obtain rfl:s=8:=yX.1 h3
  have hm:some 8∈lS.toList.map (·.dst):=List.mem_map.2 ⟨o,fN (by rw[C1];exact h1),h2⟩;rw[zoZ] at hm;simp at hm
 rw[Go.Mt.Bn,zoZ];simp only[Go.Mt.xN,dP,dQ];obtain⟨rfl,rfl,_,h4⟩:=hS;have s4:WH.RQ2 ⟨p.lo,p.hb,p.gh,gq,gc,v,w,v,⟨lR p.o,p.ln,qn,[]⟩⟩ gc w':=by
  rcases vs with _|⟨b,_|⟨x,_|⟨y,vs⟩⟩⟩
  .cases uB
  .cases uB
  .cases uB
  .exact h4
 obtain⟨v2,a2,t2,mp⟩:=s4;have K5:oN wB p.lo p.go p.ge p.n p.c p.A p.o p.es p.hb p.gh p.ln (qn++[gc]) v2 w':=I.h.turn t2 a2 mp I.h.nd λx hx=>jO (I.h.lt x hx) t2.size;obtain⟨zna,zru⟩:=I.h.at_.turned t2 Cv zck;have HR:=aD K5;have T2:=aD t2;clear K5 a2 mp h4 uB;refine BO.regEnd hI ?_;refine BO.seq hI ?_;rw[zAd];refine BO.regs hI _ zET ?_;refine BO.add (C:=C) (Lk:=rV) (s:=8) (nx:=.mS qs cr) zdc rfl rfl rfl hI rfl hX zDt rfl rfl (yX.2 rfl) (by intro s hs;cases hs;show(66:Nat)∉([8]:List Nat);decide) rfl ?_;simp only[cC,fO,dP,dQ];refine BO.regEnd hI ?_;rw[zB5];refine BO.regs hI _ zCf ?_;refine BO.go (C:=C) rfl hI zGM zAV rfl rfl rfl rfl rfl rfl (lc:=.op cr 0 (nY (Cj p.o p.es) 0 qs.length)) (nx:=.mN (qs++[cr])) (pub:=[cr]) rfl aN λR W t τ hw ha Em ht hi=>?_;have hw:cV (SF fU) K R (pK aK) eI w' W:=hw;have hi:yY rV.tWg p.Wg (IQ p.W0 p.St (Bm p.Shun p.Wg) p.Wg SS R0 Fz Wf qs [cr]) R τ W:=hi;obtain⟨hi,nG⟩:=hi;have h8:t.getD 8 aA=.pointer (some ⟨p.Wg,0,none⟩):=Em (8,.pointer (some ⟨p.Wg,0,none⟩)) (yX.2 rfl);have cM:t.size=73:=ha.1.symm;have fP:∀a,¬R a cr:=(hi.x.ch cr (yX.2 rfl)).2.2;have rQ:xF w':=λg hg=>by
  have:=H.tl g hg;have:=H.lo0;rw[HR.o.e.old g aC];exact H.tb g hg
 have zGP:∃b,R gq b:=by
  have h1:VR (SF fU) K R (.pointer (some ⟨gq,0,none⟩)) (t.getD 9 aA):=ha.getD 9 (yA (S:=SF fU) (K:=K) (R:=R));generalize t.getD 9 aA=t9 at h1
  cases h1 with
  |pointer y=>cases y with|some y=>cases y with|mk y=>exact⟨_,y⟩
 have hx:XOk R (xQ gq) w':=⟨λa h=>by
  rcases zbv h with rfl|h
  .exact zGP
  .exact⟨a,hw.tb a h⟩,λa h=>by
  rcases zbv h with rfl|h
  .exact⟨_,_,_,zna⟩
  .obtain⟨c,T,fz,hc,_⟩:=rQ a h;exact⟨c,T,fz,hc⟩⟩
 have Xv:R0.le R:=hi.x.x.le;have fZ:=ztR hw hx;have zHX:∀b,b≠gq->(vI (xQ gq) w').heap[b]? =w'.heap[b]? :=λb hb=>frX_same λh=>by
  rcases zbv h with h|h
  .exact absurd h hb
  .exact(hw.st b (I.xt b h)).2
 have zHz:=zFW (X:=xQ gq) (qs:=qs) hw ht fP;have znw:=iq_qm (X:=xQ gq) hw ht hi;refine⟨L0 τ R (xQ gq) cr qs,Wo τ R (xQ gq),parts_q ht hi,?_,?_⟩
 .have J:Cr p wB K (λa=>eI a\/xQ gq a=true) (L0 τ R (xQ gq) cr qs).still R (Hb R eI (xQ gq)) W (λa=>Xa a\/xQ gq a=true) (qs++[cr]) (qn++[gc]) v2 (vI (xQ gq) w'):=by
   refine⟨I.K1,I.R1.trans Xv,λa h=>.inl (I.st a h),λb hb=>.inl (by rw[hi.x.x.im.still];exact I.ss b hb),λb hb=>?_,I.th.step (xS K) Xv hw hx (λb hb=>⟨(hi.x.x.fz b hb).2.1,let⟨a,x,y⟩:=I.fz b hb;⟨a,Xv _ _ x,y⟩⟩),λb hb=>hb,λa h=>.inl (I.xt a h),λa h=>?_,by rw[jH,jH,I.lq];rfl,λi g hg=>?_,HR.o.but (Te _ _) lM E9 zru zHX⟩
   .obtain⟨a,x,h⟩:=hb
    rcases h with h|h
    .exact .inl ((ht a b x).1 h)
    .exact .inr ⟨a,x,h⟩
   .rw[Te]
    rcases h with h|h
    .rcases I.xa a h with h|⟨h1,h2,h3,h4⟩
     .exact .inl h
     .exact .inr ⟨h1,jO h2 T2.o.size,h3,λhp=>(T2.o.moved a hp).elim h4 λx=>absurd h2 (Nat.not_lt.2 x)⟩
    .rcases zbv h with rfl|h
     .exact .inr ⟨lM,iZ zna,E9,zru⟩
     .exact .inl h
   .rcases qX i qn.length with aS|Cm
    .rw[Og aS] at hg
     rw[zHo (by rw[I.lq];exact aS)];exact I.kq i g hg
    .obtain rfl:i=qn.length:=by
      have:=(kP.1 hg).1;simp at this;omega
     simp at hg;subst hg;rw[<-I.lq,qa_snoc];exact zcF
  have H9:fD (p.cx K (λa=>eI a\/xQ gq a=true) (L0 τ R (xQ gq) cr qs).still R (Hb R eI (xQ gq)) W (qs++[cr]) []):=rU.ok J.st J.ss J.F H.low;have h1:=ha.set 67 (.junk (v':=(.func (.func 54) #[] ((#[.tmp 8,.tmp 9]:Array cK).map (bJ t C.ds.ds).eval))) Vt);simp only[fO,dP,dQ] at h1;have fin:∀(G1:Array aF),bM (SF fU) K R G1 (t.setIfInBounds 67 (.func (.func 54) #[] ((#[.tmp 8,.tmp 9]:Array cK).map (bJ t C.ds.ds).eval)))->BO (p.cx K (λa=>eI a\/xQ gq a=true) (L0 τ R (xQ gq) cr qs).still R (Hb R eI (xQ gq)) W (qs++[cr]) []) (.mN (qs++[cr])) ⟨42,G1,.inRegion Mo []::kk,false⟩ (vI (xQ gq) w')->cD C.p C.ty C.Wg C.A C.Fin C.main (.usr (.mN (qs++[cr]))) 0 (L0 τ R (xQ gq) cr qs) (G ((C.ds.base 42).at ⟨t.setIfInBounds 67 (.func (.func 54) #[] ((#[.tmp 8,.tmp 9]:Array cK).map (bJ t C.ds.ds).eval)),C.ds.ds⟩ (.inRegion Mo []::kk)) C.base) W:=λG1 h1 hB=>by
   have hm:=hB R W ⟨42,t.setIfInBounds 67 (.func (.func 54) #[] ((#[.tmp 8,.tmp 9]:Array cK).map (bJ t C.ds.ds).eval)),.inRegion Mo []::kk,false⟩ (L0 τ R (xQ gq) cr qs) fZ ⟨rfl,rfl,rfl,h1,λx lX=>?_⟩ zHz ⟨znw,nG⟩
   .rw[Cx.B_none rfl,mX] at hm
    exact hm
   .obtain rfl:=yX.1 lX
    show(t.setIfInBounds 67 _).getD 8 aA=_;rw[<-h8];simp only[xG,Array.getElem?_setIfInBounds_ne (show(67:Nat)≠8 by decide)]
  exact fin _ h1 (BO.regEnd (ops:=Mo) H9 (zcn _ _ _ _ _ _ v2 (vI (xQ gq) w') _ _ _ _ _ _ _ _ _ _ _ _ _ _ _ _ _ _ _ _ _ _ _ _ _ _ _ _ _ _ _ _ _ _ _ _ _ _ _ _ _ _ _ _ _ _ _ _ _ _ _ _ _ _ _ _ _ _ _ _ _ _ _ _ _ _ _ J))
 .simp only[vD,gT,tW,wZ]
  exact op_born hw hx zcF fP zna rQ ha rfl h8 hi.x.x.im.wg hi.x.x.im.rel nG
variable {St:Nat->Prop}
def Kj.mono {w00:aE}{K2:Pr}(h:Kj w00 K R St eI Fz Wf Xa)(hK:K.le K2):Kj w00 K2 R St eI Fz Wf Xa:=λK' R' wn Wn a b c d=>h K' R' wn Wn (wX hK a) b c d
def Cr.tp (I:Cr p wB K eI SS R0 Fz Wf Xa qs qn v w)(T:j6)(n:Nat):Cr p wB K eI SS R0 Fz Wf Xa qs qn v (Tt.tp w T n):=⟨I.K1,I.R1,I.st,I.ss,I.F,I.th,I.fz,I.xt,I.xa,I.lq,I.kq,I.h.tp T n⟩
theorem rh_ops (H:PhOk p wB):∀(m j:Nat),((j+m:Nat):Int)=p.o.op->∀(K:Pr) (eI SS:Nat->Prop) (R0:Pr) (Fz:Nat->Prop) (Wf:aE) (Xa:Nat->Prop) (qs qn:List Nat) (v:fJ) (w:aE) (u0 u1 u4 u5 u6 u9 gV gE gD gG gF gC u16 iE kN kT jQ iG iJ gY iH iD iF iL iA iM jJ jK u32 iN iB iC iP kW lC gZ iO iK jE iW iY iR iS jB iV jC jD iT lG lL kV kZ kU kY kM kD j5 kC u64 j7 kH jZ kG lD kL kR kE:aF),Cr p wB K eI SS R0 Fz Wf Xa qs qn v w->qn.length=j->
 BO (p.cx K eI SS R0 Fz Wf qs []) (.mN qs) ⟨42,#[u0,u1,.pointer (some ⟨p.go,0,none⟩),.pointer (some ⟨p.ge,0,none⟩),u4,u5,u6,.pointer (some ⟨p.gh,0,none⟩),.nilFunc,u9,gV,gE,gD,gG,gF,gC,u16,iE,kN,kT,jQ,iG,iJ,gY,iH,iD,iF,iL,iA,iM,jJ,jK,u32,iN,iB,iC,iP,kW,lC,gZ,iO,iK,jE,iW,iY,iR,iS,jB,iV,jC,jD,iT,.int .i64 p.o.op,.int .i64 j,lG,lL,kV,kZ,kU,kY,kM,kD,j5,kC,u64,j7,kH,jZ,kG,lD,kL,kR,kE],[.code zbS,.inLoop zbS,.inBlock 4,.code zjX],false⟩ w:=by
 have rZ:sP p.o=true:=by
  have:=H.ok;unfold eM at this;simp only[jF] at this;exact this.1.1
 unfold sP at rZ;have rZ:=of_decide_eq_true rZ;have h4:p.o.op<=4:=rZ.2.2.2.1;clear rZ;intro m
 induction m with
 |zero=>
  intro j hj K eI SS R0 Fz Wf Xa qs qn v w u0 u1 u4 u5 u6 u9 gV gE gD gG gF gC u16 iE kN kT jQ iG iJ gY iH iD iF iL iA iM jJ jK u32 iN iB iC iP kW lC gZ iO iK jE iW iY iR iS jB iV jC jD iT lG lL kV kZ kU kY kM kD j5 kC u64 j7 kH jZ kG lD kL kR kE I hl;have hI:fD (p.cx K eI SS R0 Fz Wf qs []):=rU.ok I.st I.ss I.F H.low;have zmH:(j:Int)=p.o.op:=by simpa using hj
  have Ha:¬(j:Int)<p.o.op:=aC;have HI:=aD I;have HJ:=aD zmH;clear I hj zmH;unfold zbS;refine BO.seq hI ?_;refine BO.pV nF hI tX (λw1 T1 dW Q' dC=>?_);have Tj:=aD (show Cr p wB K eI SS R0 Fz Wf Xa qs qn v w1 by rw[dW];exact HI.o.tp T1 0);clear HI
  try dsimp only
  clear dW;go_wp2;refine dC.o _ _ ?_;clear dC;refine BO.seq hI ?_;refine BO.cond hI (t:=false) rfl rfl ?_;refine BO.exit hI (k':=[.code zjX]) rfl ?_;have I:=Tj.o;have zmH:=HJ.o;have zz0:=I.lq;refine rh_last H.after H.gh (by unfold rU.N;omega) I.st I.ss I.F H.low I.R1 (op_pre H I aC) (aI I.h.bh 0) (aI I.h.e.be 0) (λK' R τ W w' v' hK hR hw hi hA hm hT=>op_dep H I aC hK hR hw hi hA hT)
 |succ m ih=>
  intro j hj K eI SS R0 Fz Wf Xa qs qn v w u0 u1 u4 u5 u6 u9 gV gE gD gG gF gC u16 iE kN kT jQ iG iJ gY iH iD iF iL iA iM jJ jK u32 iN iB iC iP kW lC gZ iO iK jE iW iY iR iS jB iV jC jD iT lG lL kV kZ kU kY kM kD j5 kC u64 j7 kH jZ kG lD kL kR kE I hl;have hI:fD (p.cx K eI SS R0 Fz Wf qs []):=rU.ok I.st I.ss I.F H.low;have Ha:(j:Int)<p.o.op:=aC;have HI:=aD I;have HJ:=aD hj;clear I hj;unfold zbS;refine BO.seq hI ?_;refine BO.pV nF hI tX (λw1 T1 dW Q' dC=>?_);have Tj:=aD (show Cr p wB K eI SS R0 Fz Wf Xa qs qn v w1 by rw[dW];exact HI.o.tp T1 0);clear HI
  try dsimp only
  clear dW;go_wp2;refine dC.o _ _ ?_;clear dC;refine BO.seq hI ?_;refine BO.cond hI (t:=true) rfl rfl ?_;refine BO.skip hI ?_;refine BO.seq hI ?_;refine BO.block hI ?_;refine BO.seq hI ?_;have I:=Tj.o;have zz0:=I.lq;have zwC:qs.length<p.N:=by unfold rU.N;omega
  rw[zCO];refine BO.regs hI _ zE4 ?_;obtain⟨ie,jY⟩:=zGo;refine BO.makeK hI zHU rfl rfl und_chq jY (by intro s hs;cases hs;show(55:Nat)∉([8]:List Nat);decide) (I':=λc=>yY rV.tWg p.Wg (IQ p.W0 p.St (Bm p.Shun p.Wg) p.Wg SS R0 Fz Wf qs [c])) (λR τ W hi ht aS=>?_) (λcr=>?_)
  .have hi:yY rV.tWg p.Wg (IQ p.W0 p.St (Bm p.Shun p.Wg) p.Wg SS R0 Fz Wf qs []) R τ W:=hi
   refine⟨zum hi.1 aS,?_⟩;obtain⟨st,sm,hx⟩:=hi.2;have lX:W.heap[p.Wg]? =some _:=hx;exact⟨st,sm,(Bt (eB.1 lX).1).trans lX⟩
  simp only[cC,fO,dP,dQ];show BO (p.cx (K.add w1.heap.size cr) eI SS R0 Fz Wf qs [cr]) (.mN qs) _ _;refine BO.note (can:=λl'=>∃a,l'=.mA qs a) rfl (by show eO p.N (Cj p.o p.es) (.mN qs)=_;simp[eO,zwC]) ⟨cr,rfl⟩ ?_;have Kc:fD (p.cx (K.add w1.heap.size cr) eI SS R0 Fz Wf qs [cr]):=rU.ok I.st I.ss I.F H.low;have jI:=aD (show oN wB p.lo p.go p.ge p.n p.c p.A p.o p.es p.hb p.gh p.ln qn v (w1.alloc pF) from I.h.below (eT (fW _ _) _));obtain⟨gc,Rx⟩:=aP w1.heap.size;have zw:(w1.alloc pF).heap.size=gc+1:=by rw[uD,Rx]
  rw[<-Rx];obtain⟨w2,eG⟩:=aP (w1.alloc pF);rw[<-eG] at jI zw⊢;have H9:fD (p.cx (K.add gc cr) eI SS R0 Fz Wf qs [cr]):=rU.ok I.st I.ss I.F H.low;refine BO.op nF H9 zEM rfl aT (by intro s hs;cases hs;show(9:Nat)∉([8]:List Nat);decide) (λT=>⟨_,_,.inl al17,?_⟩);simp only[cC,fO,dP,dQ];obtain⟨gq,Cv⟩:=aP ((Tt.tp w2 T 0).heap.size);have zK3:gq=gc+1:=by rw[Cv];exact zw
  have jW:=aD (show oN wB p.lo p.go p.ge p.n p.c p.A p.o p.es p.hb p.gh p.ln qn v ((Tt.tp w2 T 0).alloc (.cells #[.chan none] 95)) from(jI.o.tp T 0).below (eT (fW _ _) _));have KB:=aD (show((Tt.tp w2 T 0).alloc (.cells #[.chan none] 95)).heap[gq]? =some (.cells #[.chan none] 95) by rw[Cv];exact Dd _ _);have z3:((Tt.tp w2 T 0).alloc (.cells #[.chan none] 95)).heap.size=gc+2:=by simp_all
  have lM:p.lo<=gq:=by have:=jI.o.e.lo_;omega
  have E9:gq≠p.gh:=by
   intro e;have:=iZ I.h.bh;omega
  have zck:some gq∉parts v p.hb:=λhp=>by have:=(I.h.at_.lt gq hp).2;omega
  rw[<-Cv];clear Cv;obtain⟨w3,iU⟩:=aP ((Tt.tp w2 T 0).alloc (.cells #[.chan none] 95));rw[<-iU] at jW KB z3⊢;clear iU jI zw eG;refine BO.op nF H9 zBi rfl aT aN (λT2=>⟨aA,Tt.tp (w3.setCell ⟨gq,0,none⟩ (.chan (some gc))) T2 0,.inr ⟨st17 (V:=λs=>(#[u0,u1,.pointer (some ⟨p.go,0,none⟩),.pointer (some ⟨p.ge,0,none⟩),u4,u5,u6,.pointer (some ⟨p.gh,0,none⟩),.nilFunc,.pointer (some ⟨gq,0,none⟩),gV,gE,gD,gG,gF,gC,u16,iE,kN,kT,jQ,iG,iJ,gY,iH,iD,iF,iL,iA,iM,jJ,jK,u32,iN,iB,iC,iP,kW,lC,gZ,iO,iK,jE,iW,iY,iR,iS,jB,iV,jC,jD,iT,.int .i64 p.o.op,.int .i64 j,.bool true,.chan (some gc),kV,kZ,kU,kY,kM,kD,j5,kC,u64,j7,kH,jZ,kG,lD,kL,kR,kE]:Array aF).getD s aA) (λs=>rfl) rfl rfl (aI KB.o 0) (eW KB.o 0),rfl⟩,?_⟩);refine BO.regEnd H9 ?_;refine BO.tape ?_ T2 0;clear T2;have hK:K.le (K.add gc cr):=Pr.le_add _ _ _;have aU:∀b,b≠gq->(w3.setCell ⟨gq,0,none⟩ (.chan (some gc))).heap[b]? =w3.heap[b]? :=λb hb=>zbz w3 _ _ hb;have I3:Cr p wB (K.add gc cr) eI SS R0 Fz Wf Xa qs qn v (w3.setCell ⟨gq,0,none⟩ (.chan (some gc))):=⟨wX I.K1 hK,I.R1,I.st,I.ss,I.F,I.th.mono hK,I.fz,I.xt,λa ha=>by
   rcases I.xa a ha with h|⟨h1,h2,h3,h4⟩
   .exact .inl h
   .exact .inr ⟨h1,by rw[Rn,z3];omega,h3,h4⟩,I.lq,λi g hg=>hK _ _ (I.kq i g hg),jW.o.but (Rn _ _ _) lM E9 zck aU⟩
  refine rh_go H I3 zwC (j:=j) hl.symm (.inr ⟨rfl,rfl⟩) (oH KB.o _) lM E9 zck (λzcw zcx zc8 zb7 zaf zje v' w' u0 u1 u4 u5 u6 gV gE gD gG gF gC u16 iE kN kT jQ iG iJ gY iH iD iF iL iA iM jJ jK u32 iN iB iC iP kW lC gZ iO iK jE iW iY iR iS jB iV jC jD iT kV kZ kU kY kM kD j5 kC u64 j7 jZ kG lD kL kR kE u9 lG lL kH I4=>?_);have znu:fD (p.cx (K.add gc cr) zcw zcx zc8 zb7 zaf (qs++[cr]) []):=rU.ok I4.st I4.ss I4.F H.low;have zym:=aD I4;clear I4 I3 aU jW KB I Tj;refine BO.inBlock znu ?_;refine BO.pV nF znu tX (λw5 T5 lB Q' dC=>?_);have zGm:=aD (show Cr p wB (K.add gc cr) zcw zcx zc8 zb7 zaf zje (qs++[cr]) (qn++[gc]) v' w5 by rw[lB];exact zym.o.tp T5 0);clear zym
  try dsimp only
  clear lB;go_wp2;refine dC.o _ _ ?_;clear dC;refine BO.inLoop znu ?_;exact ih (j+1) (by have:=HJ.o;omega) _ _ _ _ _ _ _ _ _ _ _ _ _ _ _ _ _ _ _ _ _ _ _ _ _ _ _ _ _ _ _ _ _ _ _ _ _ _ _ _ _ _ _ _ _ _ _ _ _ _ _ _ _ _ _ _ _ _ _ _ _ _ _ _ _ _ _ _ _ _ _ _ _ _ _ _ _ _ zGm.o tD
structure StW (W W4:aE):Prop where
 size:W4.heap.size=W.heap.size+1
 keep:∀b,b<W.heap.size->W4.heap[b]? =W.heap[b]?
 wg:Go.ConcR.WgAt 94 W.heap.size W4 0 0
 os:W4.os=W.os
 tape:W4.tape=W.tape
 output:W4.output=W.output
variable {Post:aF->aE->Prop}{Shun:Loc->Prop}
theorem zGa {CS:List dR}
 (h:∀W4,StW W W4->J aK Post Shun W.heap.size (G ((Jx 42).at ⟨t.setIfInBounds 8 (.pointer (some ⟨W.heap.size,0,none⟩)),[]⟩ [.code G6]) CS) W4):
 J aK Post Shun W.heap.size (G ((Jx 42).at ⟨t,[]⟩ [.code (.seq M2 G6)]) CS) W:=by
 have start:∀d,J aK Post Shun W.heap.size (G ((Jx 42).at ⟨t,[]⟩ [.code (.seq M2 G6)]) CS) (W.at d):=by
  refine J.sil rfl (λw=>stepG_seq) ?_;generalize lO:G6=K0 at h⊢;simp only[M2,o0,ze0,Option.getD_some];refine J.sil rfl (λw=>stepG_region) ?_;refine J.opq (o:=_) (v:=.pointer (some ⟨W.heap.size,0,none⟩)) (w':=W.alloc (.cells #[.int .u64 0,.int .u32 0] 94)) rfl rfl aH (λd=>?_) (λd e he=>?_) ?_
  .show _=Result.ok _ ((W.at d).alloc _)
   have hz:(W.at d).heap.size=W.heap.size:=rfl;rw[<-hz];simp[aO,go_sem,wZ]
  .simp[aO,go_sem,wZ] at he
  refine J.sil rfl (λw=>stepG_region_end) ?_;intro d;have aY:StW W ((W.alloc (.cells #[.int .u64 0,.int .u32 0] 94)).at d):=by
   refine⟨?_,λb hb=>?_,?_,rfl,rfl,rfl⟩
   .show(W.alloc _).heap.size=_
    rw[uD]
   .show(W.alloc _).heap[b]? =_
    rw[Bt hb]
   .show(W.alloc _).heap[_]? =_
    rw[Dd];rfl
  exact h _ aY
 exact start W.drawn
variable {W0:aE}
theorem rh_phase {base:List dR}{lo0 lo go ge n hb gh:Nat}(hR:oN wB lo go ge n c A o es hb gh ln [] v w)(hgo:lo0<=go)(Cm:lo0<=ge)(eF:lo0<=lo)(bS:eM o es=true)(zO:(ln.length:Int)=o.ln)(rQ:xF w)(zce:∀a,xT a=true->a<lo0)
 (zmt:∀(R1:Pr) (Wg:Nat),R0.le R1->rU.After ⟨Post,Shun,W0,St,base,K,R1,w,lo0,lo,go,ge,n,c,A,o,es,hb,gh,ln,Wg⟩) {u0 u1 u4 u5 u6 u8 u9 nA nC lG lL:aF}:
 BO (rhC Post Shun W0 St R0 base K) () ⟨42,#[u0,u1,.pointer (some ⟨go,0,none⟩),.pointer (some ⟨ge,0,none⟩),u4,u5,u6,.pointer (some ⟨gh,0,none⟩),u8,u9,gV,gE,gD,gG,gF,gC,u16,iE,kN,kT,jQ,iG,iJ,gY,iH,iD,iF,iL,iA,iM,jJ,jK,u32,iN,iB,iC,iP,kW,lC,gZ,iO,iK,jE,iW,iY,iR,iS,jB,iV,jC,jD,iT,nA,nC,lG,lL,kV,kZ,kU,kY,kM,kD,j5,kC,u64,j7,kH,jZ,kG,lD,kL,kR,kE],[.code (.seq M2 G6)],false⟩ w:=by
 intro R W m1 τ hw hm zJh hi;obtain⟨fn',t,zB,zJ⟩:=m1;obtain rfl:=hm.fn;obtain rfl:=hm.todo;obtain rfl:=hm.ret;have hw:cV (SF fU) K R (pK aK) St w W:=hw;have hi:IA W0 St Shun R0 R τ W:=hi;have ha:bM (SF fU) K R #[u0,u1,.pointer (some ⟨go,0,none⟩),.pointer (some ⟨ge,0,none⟩),u4,u5,u6,.pointer (some ⟨gh,0,none⟩),u8,u9,gV,gE,gD,gG,gF,gC,u16,iE,kN,kT,jQ,iG,iJ,gY,iH,iD,iF,iL,iA,iM,jJ,jK,u32,iN,iB,iC,iP,kW,lC,gZ,iO,iK,jE,iW,iY,iR,iS,jB,iV,jC,jD,iT,nA,nC,lG,lL,kV,kZ,kU,kY,kM,kD,j5,kC,u64,j7,kH,jZ,kG,lD,kL,kR,kE] t:=hm.tmps;have cM:t.size=73:=ha.1.symm;rw[mX,Cx.B_some rfl];intro _ Fc;refine zGa λW4 aY=>?_;have rZ:sP o=true:=by
  have:=bS;unfold eM at this;simp only[jF] at this;exact this.1.1
 unfold sP at rZ;have rZ:=of_decide_eq_true rZ
 let p:rU:=⟨Post,Shun,W0,St,base,K,R,w,lo0,lo,go,ge,n,c,A,o,es,hb,gh,ln,W.heap.size⟩
 have aS:∀a b,R a b->b<W.heap.size:=λa b x=>(hw.lt a b (.inl x)).2;have hrel:cV (SF fU) K R (pK aK) St w W4:=cV.real hw (λa b x=>aY.keep b (aS a b x)) (by rw[aY.size];omega);have zs2:∀a,xT a=true->∃c T fz,w.heap[a]? =some (.cells c T fz):=λa h=>let⟨c,T,fz,hc,_⟩:=rQ a h;⟨c,T,fz,hc⟩
 have zsH:XOk R xT w:=⟨λa h=>⟨a,hw.tb a h⟩,zs2⟩;have fZ:=ztR hrel zsH;have hk:=hi.kp;have nD:=hi.sh;have zHn:=hk.size;have zhS:Kp W0 R St W4:=⟨aY.os.trans hk.os,aY.tape.trans hk.tape,aY.output.trans hk.output,by rw[aY.size];omega,λb hb=>(aY.keep b aC).trans (hk.block b hb),hk.old⟩;have zaP:∀a b,R a b->b≠W.heap.size:=λa b x=>by grind
 have zz8:Sh W0.heap.size (Bm Shun W.heap.size) R W4:=by
  refine⟨λl b hl hb hx=>?_,λa b x l hl hx=>?_,λl b hl hb hx=>?_⟩
  .rcases hx with hx|hx
   .exact nD.old l b hl hb hx
   .have:=Kd hl hx;omega
  .rcases hx with hx|hx
   .exact nD.rel a b x l hl hx
   .exact zaP a b x (Kd hl hx)
  .rcases hx with hx|hx
   .exact nD.new l b hl (by rw[aY.size] at hb;omega) hx
   .have:=Kd hl hx;have:=aY.size;omega
 have E9:∃b,R gh b:=by
  have h1:VR (SF fU) K R (.pointer (some ⟨gh,0,none⟩)) (t.getD 7 aA):=ha.getD 7 (yA (S:=SF fU) (K:=K) (R:=R));generalize t.getD 7 aA=t7 at h1
  cases h1 with
  |pointer y=>cases y with|some y=>cases y with|mk y=>exact⟨_,y⟩
 let SC:Nat->Prop:=λa=>St a\/xT a=true
 let τ0:cH:=tauP R SC W0 []
 have zDR:∀a b,R a b->SC a->¬τ0.own b:=λa b x h hb=>by
  rcases hb with⟨a',x',hn⟩|hb
  .obtain rfl:=hw.inj' a a' b (.inl x) (.inl x')
   exact hn h
  .cases hb
 have znw:IQ W0 St (Bm Shun W.heap.size) W.heap.size τ0.still R (Hb R St xT) W4 [] [] R τ0 W4:=by
  refine⟨⟨⟨⟨zhS,zz8,rfl,by rw[aY.size];omega,λb hb=>?_,zaP⟩,.refl R,λb hb=>?_⟩,λb hb hs=>?_,λb hb=>?_,λc hc=>by cases hc⟩,λc hc=>by cases hc⟩
  .rcases hb with⟨a,x,_⟩|hb
   .exact zaP a b x
   .cases hb
  .obtain⟨a,x,h⟩:=hb
   exact⟨(hrel.lt a b (.inl x)).2,rfl,zDR a b x h,zaP a b x⟩
  .rcases hs with hs|⟨a,x,h⟩
   .rcases hb with⟨a',x',hn⟩|hb
    .exact hn (.inl (hk.old a' b x' hs))
    .cases hb
   .grind
  .rcases hb with hb|⟨a,x,_⟩
   .rw[aY.size];omega
   .exact(hrel.lt a b (.inl x)).2
 have H:PhOk p (vI xT w):=⟨zmt R W.heap.size hi.le,E9,bS,zHn,eF,λg hg=>by
  obtain⟨c,T,fz,h1,h2⟩:=rQ g hg;exact⟨c,T,_,Ur hg h1,h2⟩,zce,λb hb hx=>Of hx,zO⟩
 have I:Cr p (vI xT w) K SC τ0.still R (Hb R St xT) W4 (λa=>xT a=true) [] [] v (vI xT w):=⟨xS K,.refl R,λa h=>.inl h,λb hb=>.inl hb,λb hb=>by
  obtain⟨a,x,h⟩:=hb;exact .inr ⟨a,x,h⟩,Kj.first hrel zsH,λb hb=>hb,λa h=>.inr h,λa h=>.inl h,rfl,λi g hg=>by simp at hg,hR.frT hgo Cm eF zce zs2⟩
 refine J.phase (zEy p.N (Cj p.o p.es) p.D (zIA bS) (by show o.op.toNat<=_;omega)) (ty:=rV.tWg) (Wg:=W.heap.size) (l:=.mN []) (τ:=τ0) ?hb aY.wg ⟨bF _,by rw[aY.size];omega⟩ ?bnd rfl (.a 0 [] (λ_=>1) (.mN []) ⟨rfl,λj j' h=>by omega⟩ (lP _) (.inl rfl) rfl ⟨λj h=>by omega,λj j' h=>by omega,λj h=>by omega⟩ (λj h=>by omega) (λi hi _=>by simp[hi]))
 case bnd=>
  have hr:∀a b,R a b->b<W4.heap.size/\b≠W.heap.size/\∀l,nQ l b->¬Shun l:=λa b x=>⟨(hrel.lt a b (.inl x)).2,zaP a b x,nD.rel a b x⟩;rintro b ((⟨a,x,_⟩|hb)|(hb|⟨a,x,_⟩)|hb)
  .exact hr a b x
  .cases hb
  .exact⟨by rw[aY.size];omega,aC,λl hl=>nD.old l b hl hb⟩
  .exact hr a b x
  .exact hb.elim
 case hb=>
  have hI:fD (p.cx K SC τ0.still R (Hb R St xT) W4 [] []):=rU.ok I.st I.ss I.F H.low;have hB:BO (p.cx K SC τ0.still R (Hb R St xT) W4 [] []) (.mN []) ⟨42,#[u0,u1,.pointer (some ⟨go,0,none⟩),.pointer (some ⟨ge,0,none⟩),u4,u5,u6,.pointer (some ⟨gh,0,none⟩),.nilFunc,u9,gV,gE,gD,gG,gF,gC,u16,iE,kN,kT,jQ,iG,iJ,gY,iH,iD,iF,iL,iA,iM,jJ,jK,u32,iN,iB,iC,iP,kW,lC,gZ,iO,iK,jE,iW,iY,iR,iS,jB,iV,jC,jD,iT,nA,nC,lG,lL,kV,kZ,kU,kY,kM,kD,j5,kC,u64,j7,kH,jZ,kG,lD,kL,kR,kE],[.code G6],false⟩ (vI xT w):=by
   rw[show G6=.seq (.seq znt (.block 4 (.loop zbS))) zjX from rfl];refine BO.seq hI ?_;refine BO.seq hI ?_;refine BO.pV nF hI tX (λw1 T1 dW Q' dC=>?_);have Tj:=aD (show Cr p (vI xT w) K SC τ0.still R (Hb R St xT) W4 (λa=>xT a=true) [] [] v w1 by rw[dW];exact I.tp T1 0);have g1:w1.cell? ⟨go,1,none⟩=some (.int .i64 o.op):=aI Tj.o.h.e.bo 1
   try dsimp only
   clear dW;go_wp2;refine dC.o _ _ ?_;clear dC;refine BO.block hI ?_;refine BO.loop hI ?_;exact rh_ops H o.op.toNat 0 sU K SC τ0.still R (Hb R St xT) W4 (λa=>xT a=true) [] [] v w1 _ _ _ _ _ _ _ _ _ _ _ _ _ _ _ _ _ _ _ _ _ _ _ _ _ _ _ _ _ _ _ _ _ _ _ _ _ _ _ _ _ _ _ _ _ _ _ _ _ _ _ _ _ _ _ _ _ _ _ _ _ _ _ _ _ _ _ Tj.o rfl
  have h1:=ha.set 8 (.junk (v':=.pointer (some ⟨W.heap.size,0,none⟩)) Vt);simp only[fO,dP,dQ] at h1;have hm:=hB R W4 ⟨42,t.setIfInBounds 8 (.pointer (some ⟨W.heap.size,0,none⟩)),[.code G6],false⟩ τ0 fZ ⟨rfl,rfl,rfl,h1,λx hx=>?_⟩ terra_p ⟨znw,⟨0,0,aY.wg⟩⟩
  .rw[Cx.B_none rfl,mX] at hm
   exact hm
  .obtain rfl:=yX.1 hx
   show(t.setIfInBounds 8 _).getD 8 aA=_;simp[xG,cM];rfl
abbrev JS (St:Nat->Prop)(W0:aE)(Post:aF->aE->Prop)(m:Fm)(ms:List Fm)(w:aE):Prop:=JL aK (nL olL) (nL alL) fU St W0 Post m ms w
theorem rel_heap {G:Gp}(h:cV S K R G St w W)(e:w'.heap=w.heap):cV S K R G St w' W:=by
 refine⟨h.inj,h.inj',λa b x=>by rw[e];exact h.lt a b x,h.low,by rw[e];exact h.gle,λa b x=>?_,λa b x hn=>?_,λa x=>?_,λa c y hp=>?_,h.tb⟩
 .rw[e];exact h.cont a b x
 .rw[e];exact h.rest a b x hn
 .rw[e];exact h.st a x
 .rw[e] at hp;exact h.np a c y hp
def JS.heap {m:Fm}{ms:List Fm}(h:JS St W0 Post m ms w)(e:w'.heap=w.heap):JS St W0 Post m ms w':=
 λK R W m' ms' Shun a b c d k=>h K R W m' ms' Shun (rel_heap a e.symm) b c d k
def rh_tmps (a b:aF):(#[a,b]:Array aF)++oJ (73-(#[a,b]:Array aF).size) aA=#[a,b,aA,aA,aA,aA,aA,aA,aA,aA,aA,aA,aA,aA,aA,aA,aA,aA,aA,aA,aA,aA,aA,aA,aA,aA,aA,aA,aA,aA,aA,aA,aA,aA,aA,aA,aA,aA,aA,aA,aA,aA,aA,aA,aA,aA,aA,aA,aA,aA,aA,aA,aA,aA,aA,aA,aA,aA,aA,aA,aA,aA,aA,aA,aA,aA,aA,aA,aA,aA,aA,aA,aA]:=aN
structure Hall (w wn:aE)(o:fQ)(es:List dI)(hb:Nat):Prop where
 below:cF w.heap.size w wn
 ex:∃lo v ln qn,w.heap.size<=lo/\lo<=wn.heap.size/\bG wn lo hb v (tP o es ln qn qn.length)/\(ln.length:Int)=o.ln/\(qn.length:Int)=o.op
section
variable {Post:aF->aE->Prop}{W0:aE}{St:Nat->Prop}
theorem zlR {m:Fm}{ms:List Fm}{w:aE}{ops:Array aZ}{i:Nat}{rest:List Nat}{k:List dX}{oo:aZ}{args:Array cK}{kJ:Array aM}{A:Option bC}{n c:Nat}{o:fQ}{es:List dI}
 (hr:m.ret=false) (pT:m.todo=.inRegion ops (i::rest)::k) (ho:ops[i]? =some oo) (cE:dE oo (dH ops m.tmps)=true) (hop:oo.op=.call ⟨.value (.func 42),args,kJ⟩) (wK:args.all (dV fU)=true)
 (hv:args.map m.eval=#[.agg #[.int .i64 o.ln,.int .i64 o.op,.int .i64 o.pt],.slice A n c]) (Bu:cG w 0 w.heap.size 3 A n c (qW es)) (hn:n<=1048576) (hT:qC w) (rQ:xF w)
 (zDz:eM o es=false->∀wn,cF w.heap.size w wn->JS St W0 Post (m.fin ops i rest k (.pointer none)) ms wn)
 (zy7:eM o es=true->∀wn hb,Hall w wn o es hb->JS St W0 Post (m.fin ops i rest k (.pointer (some ⟨hb,0,none⟩))) ms wn):JS St W0 Post m ms w:=by
 refine JO.callF lvF hr pT ho cE hop rfl wK λK R W m' ms' Shun b8 hw hm kK nD hk Gw=>?_;rw[hv] at Gw;have oC:Gr (ze0).results.toList:=.inr (.inl ⟨_,rfl⟩);have Gi:(ze0).ntmps=73:=rfl;have zrO:=Gw.pad 73;rw[rh_tmps] at zrO;rw[zb4 (c:=o0) zfv rfl,Gi];have zce:∀a,xT a=true->a<w.heap.size:=λa h=>(hw.lt a a (.inl (hw.tb a h))).1;refine BO.aloneIn (p:=aK) (gs:=Da) (fs:=fU) (St:=St) (K:=K) (R:=R) (m:=⟨42,#[.agg #[.int .i64 o.ln,.int .i64 o.op,.int .i64 o.pt],.slice A n c,aA,aA,aA,aA,aA,aA,aA,aA,aA,aA,aA,aA,aA,aA,aA,aA,aA,aA,aA,aA,aA,aA,aA,aA,aA,aA,aA,aA,aA,aA,aA,aA,aA,aA,aA,aA,aA,aA,aA,aA,aA,aA,aA,aA,aA,aA,aA,aA,aA,aA,aA,aA,aA,aA,aA,aA,aA,aA,aA,aA,aA,aA,aA,aA,aA,aA,aA,aA,aA,aA,aA],[.code o0],false⟩) ?_ hw ⟨rfl,rfl,rfl,zrO,λx hx=>by cases hx⟩ nD hk;refine rh_start Bu hn hT (λT todo w' h4 hO bS=>?_) (λwB lo go ge K' w' v ln hb gh u0 u1 u4 u5 u6 u8 u9 gV gE gD gG gF gC u16 iE kN kT jQ iG iJ gY iH iD iF iL iA iM jJ jK u32 iN iB iC iP kW lC gZ iO iK jE iW iY iR iS jB iV jC jD iT nA nC lG lL kV kZ kU kY kM kD j5 kC u64 j7 kH jZ kG lD kL kR kE hK bS eF hgo Cm Ov hR zO=>?_)
 .refine BO.aloneOut hm kK rfl hr pT (v:=.pointer none) zfv oC (by rw[<-h4];rfl) ?_
  have zHZ:cF w.heap.size w {w' with os:=w.os,tape:=w.tape,output:=w.output}:=⟨rfl,rfl,rfl,hO.1,hO.2⟩;exact JS.heap (zDz bS _ zHZ) rfl
 .refine rh_phase (lo0:=w.heap.size) hR hgo Cm eF bS zO (λg hg=>?_) zce (λR1 Wg zxC K2 R2 w2 v2 qn u0 u1 u2 u3 u4 u5 u6 u8 u9 gV gE gD gG gF gC u16 iE kN kT jQ iG iJ gY iH iD iF iL iA iM jJ jK u32 iN iB iC iP kW lC gZ iO iK jE iW iY iR iS jB iV jC jD iT nA nC lG lL kV kZ kU kY kM kD j5 kC u64 j7 kH jZ kG lD kL kR kE zef K5 hE=>?_)
  .have qN:=zce g hg
   rw[hR.e.old g aC,Ov g qN];exact rQ g hg
  .have zef:K'.le K2:=zef
   have K5:R1.le R2:=K5;obtain⟨hA,hold,hz,zg4,Q5⟩:=hE;have hA:bG w2 lo hb v2 (tP o es ln qn qn.length):=hA;have hold:∀b,b<w.heap.size->w2.heap[b]? =w'.heap[b]? :=hold;have hz:lo<=w2.heap.size:=hz;have zg4:w2.heap[gh]? =some (.cells #[.pointer (some ⟨hb,0,none⟩)] 63):=zg4;have ztT:∀b,b<w.heap.size->w2.heap[b]? =w.heap[b]? :=λb bU=>by
    rw[hold b bU,hR.e.old b aC,Ov b bU]
   have HA:=aD hA;have HO:=aD ztT;have HB:=aD zg4;clear hA hold ztT zg4;show BO (Gd aK Da fU Post (Bm Shun Wg) W0 St K2 R2 (m'.fr::ms'.map Fm.fr)) () _ _;refine BO.regEnd dD ?_;refine BO.seq dD ?_;refine BO.pV nF dD tX (λw3 T1 iU Q' dC=>?_);have g1:(Tt.tp w2 T1 0).cell? ⟨gh,0,none⟩=some (.pointer (some ⟨hb,0,none⟩)):=aI HB.o 0;have e3:w3.heap=w2.heap:=by rw[iU];rfl
   have uO:=aD e3
   try dsimp only
   rw[<-iU] at g1;clear iU e3;go_wp2;refine dC.o _ _ ?_;clear dC;refine BO.ret dD ?_;refine BO.aloneOut (qB.monoK (wX hK zef) (hm.mono (zxC.trans K5))) (uS.monoK (wX hK zef) (kK.mono (zxC.trans K5))) rfl hr pT (v:=.pointer (some ⟨hb,0,none⟩)) zfv oC rfl ?_;have hH:Hall w {w2 with os:=w.os,tape:=w.tape,output:=w.output} o es hb:=⟨⟨rfl,rfl,rfl,by grind,HO.o⟩,lo,v2,ln,qn,eF,hz,HA.o.same rfl,zO,Q5⟩;exact JS.heap (zy7 bS _ _ hH) uO.o
end
end Go.Proofs.YtfcjiloojkjaeaaGreatDoor
namespace Go.Proofs.YtfcjiloojkjaeaaGreatDoor
open Go.RowKit Go.Mt Go.Conc Go.Tt
structure Bl (B:Nat)(w w':aE):Prop where
 size:w.heap.size<=w'.heap.size
 block:∀b,b<B->w'.heap[b]? =w.heap[b]?
def Bl.refl (B:Nat)(w:aE):Bl B w w:=⟨bF _,λ_ _=>rfl⟩
variable {B:Nat}
def Bl.tp {a b:aE}(h:Bl B a b)(T:j6)(e:Nat):Bl B a (Tt.tp b T e):=⟨h.size,h.block⟩
theorem Bl.al {a b:aE}(h:Bl B a b)(hB:B<=a.heap.size)(o:Obj):Bl B a (b.alloc o):=⟨by rw[uD];have:=h.size;omega,λx hx=>(Bt zkp).trans (h.block x hx)⟩
variable {w w':aE}{A:Option bC}{xs:List aF}
def cG.bl {s n c:Nat}(h:cG w 0 w.heap.size s A n c xs)(k:Bl w.heap.size w w'):cG w' 0 w'.heap.size s A n c xs:=
 (h.keep k.size λb _ _ h3=>k.block b h3).wide (bF _) k.size
section
variable {p:Program}{op gs gs₁ fs:aQ->Bool}{St:Nat->Prop}{W0:aE}{Post:aF->aE->Prop}
variable {c:wY}{k:List dX}{ms:List Fm}
theorem JO.sq (L:Lv p op gs gs₁ fs){fn:aQ}{tmps:Array aF}{w:aE}(hf:op fn=false)(h:JL p op gs fs St W0 Post ⟨fn,tmps,.code (sA c):: .code (sB c)::k,false⟩ ms w)(e:c=.seq (sA c) (sB c):=by exact rfl):JL p op gs fs St W0 Post ⟨fn,tmps,.code c::k,false⟩ ms w:=by
 rw[e];exact JO.seq L hf h
theorem JO.cd (L:Lv p op gs gs₁ fs){fn:aQ}{tmps:Array aF}{w:aE}(t:Bool)(hf:op fn=false)(h:JL p op gs fs St W0 Post ⟨fn,tmps,.code (if t then cA c else cB c)::k,false⟩ ms w)(hc:(bJ tmps []).eval (cX c)=.bool t:=by exact rfl)(e:c=.cond (cX c) (cA c) (cB c):=by exact rfl):JL p op gs fs St W0 Post ⟨fn,tmps,.code c::k,false⟩ ms w:=by
 rw[e];exact JO.cond L hf hc h
theorem JO.sk (L:Lv p op gs gs₁ fs){fn:aQ}{tmps:Array aF}{w:aE}(hf:op fn=false)(h:JL p op gs fs St W0 Post ⟨fn,tmps,k,false⟩ ms w)(e:c=.skip:=by exact rfl):JL p op gs fs St W0 Post ⟨fn,tmps,.code c::k,false⟩ ms w:=by
 rw[e];exact JO.skip L hf h
theorem JO.rt (L:Lv p op gs gs₁ fs){fn:aQ}{tmps:Array aF}{w:aE}(hf:op fn=false)(h:JL p op gs fs St W0 Post ⟨fn,tmps,.code .ret::k,true⟩ ms w)(e:c=.ret:=by exact rfl):JL p op gs fs St W0 Post ⟨fn,tmps,.code c::k,false⟩ ms w:=by
 rw[e];exact JO.ret L hf h
theorem JO.rn (L:Lv p op gs gs₁ fs){fn:aQ}{tmps:Array aF}{w:aE}(hf:op fn=false)(ops:Array aZ)(is:List Nat)(h:JL p op gs fs St W0 Post ⟨fn,tmps,.inRegion ops is::k,false⟩ ms w)(e:c=.region (bI c) ops false:=by exact rfl)(hr:iQ ops.size=is:=by exact rfl):JL p op gs fs St W0 Post ⟨fn,tmps,.code c::k,false⟩ ms w:=by
 subst hr;rw[e];exact JO.reg L hf h
theorem JO.pQ (L:Lv p op gs gs₁ fs){fn:aQ}{tmps:Array aF}{c':wY}{b:List Fm}{w:aE}(Ka:op fn=false)
 (uQ:∀(T:j6) (Q:Exit->Go.Act->aE->Prop),qT (∀a' w',JL p op gs fs St W0 Post ⟨fn,a'.tmps,k,false⟩ b w'->Q .normal a' w')->Code.wp p c' Q ⟨tmps,[]⟩ (Tt.tp w T 0)) (e:c=c':=by conv=>lhs;whnf) (hc:pX p ⟨fs,gs₁,true⟩ c=true:=by kernel_rfl):
 JL p op gs fs St W0 Post ⟨fn,tmps,.code c::k,false⟩ b w:=by
 subst e;exact JO.piece L hc Ka λT=>uQ T _ (aD λa' w' h=>⟨rfl,h⟩)
theorem JO.mv (L:Lv p op gs gs₁ fs){fn:aQ}{tmps T':Array aF}{ops:Array aZ}{i:Nat}{rest:List Nat}{w:aE}{o:aZ}(hf:op fn=false)(v:aF)(h:JL p op gs fs St W0 Post ⟨fn,T',.inRegion ops rest::k,false⟩ ms w)(ho:ops[i]? =some o:=by exact zaU rfl (by conv=>lhs;whnf))
 (hx:∀T e,(aO (bJ tmps []).eval o).run p (Tt.tp w T e)=.ok (.value v) (Tt.tp w T e):=by exact λ_ _=>rfl) (cE:dE o (dH ops tmps)=true:=by exact rfl)
 (ht:(cC ⟨tmps,[]⟩ o.dst v).tmps=T':=by first|(simp only[Go.Act.put,List.setIfInBounds_toArray,List.set_cons_zero,List.set_cons_succ];done)|(simp only[Go.Act.put,List.setIfInBounds_toArray,List.set_cons_zero,List.set_cons_succ];rfl)):JL p op gs fs St W0 Post ⟨fn,tmps,.inRegion ops (i::rest)::k,false⟩ ms w:=
 JO.opv L hf ho cE hx (ht▸h)
end
def cG.tp {lo hi s n c:Nat}(h:cG w lo hi s A n c xs)(T:j6)(e:Nat):cG (Tt.tp w T e) lo hi s A n c xs:=⟨h.len,h.le,h.cap,h.at_⟩
def Ew (o:fQ)(es:List dI):List (List UInt8):=(oP o es).log
def B7 (o:fQ)(es:List dI):List Int:=(oP o es).back.map bE.c
def Kb (o:fQ)(es:List dI):List bR:=(oP o es).recs
def bodyRO:Go.Code:=(zew.body).getD .skip
def rRO1:Go.Code:=match bodyRO with| .seq _ (.seq (a) _)=>a|_=>.skip
def zbC:Array Oper:=match rRO1 with| .region _ ops _=>ops|_=>#[]
abbrev oRO1_0:Oper:=aV zbC 0 (some 7) (.load 29 (.tmp 2))
def opsRO1_0:zbC[0]? =some oRO1_0:=rfl
abbrev oRO1_2:Oper:=aV zbC 2 (some 9) (.call ⟨.value (.func 42),#[.tmp 7,.tmp 8],#[29,31]⟩)
def zkx:zbC[2]? =some oRO1_2:=rfl
section
variable {St:Nat->Prop}{W0:aE}{Post:aF->aE->Prop}
theorem zIk {m:Fm}{ms:List Fm}{w:aE}{ops:Array aZ}{i:Nat}{rest:List Nat}{k:List dX}{oo:aZ}{args:Array cK}{kJ:Array aM}{A:Option bC}{n c:Nat}{o:fQ}{es:List dI}
 (hr:m.ret=false) (Qf:nL olL m.fn=false) (pT:m.todo=.inRegion ops (i::rest)::k) (ho:ops[i]? =some oo) (cE:dE oo (dH ops m.tmps)=true) (hop:oo.op=.call ⟨.value (.func 14),args,kJ⟩)
 (hv:args.map m.eval=#[.agg #[.int .i64 o.ln,.int .i64 o.op,.int .i64 o.pt],.slice A n c]) (Bu:cG w 0 w.heap.size 3 A n c (qW es)) (hn:n<=1048576) (hT:qC w) (rQ:xF w)
 (hJ:∀wn V,Bl w.heap.size w wn->wn.ownsRow w.heap.size 9 1 V (Ew o es).length (vO (Ew o es))->JS St W0 Post (m.fin ops i rest k (.tuple #[V,.bool (eM o es)])) ms wn):JS St W0 Post m ms w:=by
 have L:=lvF;have bN:nL olL 14=false:=aT;have zdl:=JO.callN (St:=St) (W0:=W0) (Post:=Post) (ms:=ms) (w:=w) (fn:=zew) (c:=bodyRO) L hr pT ho cE hop bN;refine zdl zwP aH rfl ?_;rw[hv];have Eg:(#[.agg #[.int .i64 o.ln,.int .i64 o.op,.int .i64 o.pt],.slice A n c]:Array aF)++oJ ((zew).ntmps-(#[.agg #[.int .i64 o.ln,.int .i64 o.op,.int .i64 o.pt],.slice A n c]:Array aF).size) aA=#[.agg #[.int .i64 o.ln,.int .i64 o.op,.int .i64 o.pt],.slice A n c,aA,aA,aA,aA,aA,aA,aA,aA,aA,aA,aA,aA,aA,aA]:=by
  have e:(zew).ntmps=16:=rfl;rw[e];apply Jq;simp only[Oo,zaj,B6,rG,wD];rfl
 rw[Eg];have pU:w.heap.size<=w.heap.size:=bF _;have Qd:∀(tmps:Array aF) (td:List dX) (w':aE) (V:aF),tmps.getD 4 aA=V->tmps.getD 5 aA=.bool (eM o es)->Bl w.heap.size w w'->w'.ownsRow w.heap.size 9 1 V (Ew o es).length (vO (Ew o es))->JS St W0 Post ⟨14,tmps,td,true⟩ (m::ms) w':=by
  intro tmps td w' V e4 e5 hb cT;refine JO.back L rfl pT zwP (v:=.tuple #[V,.bool (eM o es)]) ?_ Qf (hJ w' V hb cT);show(oG [.tmp 4,.tmp 5] tmps).run _ _=_;simp only[oG,x3,e4,e5];rfl
 refine JO.sq L bN ?_;refine JO.pQ L bN (λTp Q HQ=>?_);obtain⟨w1,dW⟩:=aP (Tt.tp w Tp 0);have B0:=aD (show Bl w.heap.size w w1 by rw[dW];exact(Bl.refl _ w).tp Tp 0);have dB:w1.heap.size=w.heap.size:=by rw[dW];rfl
 have eh:w1.heap=w.heap:=by rw[dW];rfl
 have EH:=aD eh;rw[<-dW];clear dW eh;go_wp2;refine HQ.o _ _ ?_;clear HQ;obtain⟨w2,eG⟩:=aP (w1.alloc (.cells #[.int .i64 o.ln,.int .i64 o.op,.int .i64 o.pt] 29));have k2:∀b,b<w.heap.size->w2.heap[b]? =w.heap[b]? :=λb hb=>by rw[eG,Bt aC,EH.o]
 have z2:w2.heap.size=w.heap.size+1:=by rw[eG,uD,dB]
 have g2:w2.heap[w1.heap.size]? =some (.cells #[.int .i64 o.ln,.int .i64 o.op,.int .i64 o.pt] 29):=by rw[eG];exact Dd _ _
 have zaO:cF w.heap.size w {w2 with os:=w.os,tape:=w.tape,output:=w.output}:=⟨rfl,rfl,rfl,by show w.heap.size<=w2.heap.size;omega,k2⟩;have zch:qC w2:=Ni (w:={w2 with os:=w.os,tape:=w.tape,output:=w.output}) rfl (zcL hT _ zaO);have zbw:xF w2:=λg hg=>by
  obtain⟨c,T,fz,h1,h2⟩:=rQ g hg;exact⟨c,T,fz,(k2 g (eB.1 h1).1).trans h1,h2⟩
 have yK:cG w2 0 w2.heap.size 3 A n c (qW es):=(Bu.keep aC λb _ q _=>k2 b q).wide (bF _) aC;rw[<-eG];clear eG;rw[dB] at g2;refine JO.sq L bN ?_;refine JO.rn L bN zbC [0,1,2,3] ?_;refine JO.opv L (v:=.agg #[.int .i64 o.ln,.int .i64 o.op,.int .i64 o.pt]) bN opsRO1_0 rfl (λT e=>?_) ?_
 .have c0:(Tt.tp w2 T e).cell? ⟨w.heap.size,0,none⟩=some (.int .i64 o.ln):=aI g2 0
  have c1:(Tt.tp w2 T e).cell? ⟨w.heap.size,1,none⟩=some (.int .i64 o.op):=aI g2 1;have c2:(Tt.tp w2 T e).cell? ⟨w.heap.size,2,none⟩=some (.int .i64 o.pt):=aI g2 2;unfold aO;go_simp
  try rfl
 simp only[cC,fO,dP,dQ];refine JO.mv L bN (.slice A n c) ?_;refine zlR (o:=o) (es:=es) rfl rfl zkx rfl rfl aT Zq yK hn zch zbw (λbS wn hb=>?_) (λbS wn hb hH=>?_)
 .simp only[Fm.fin,zkx,uY,fO,dP,dQ]
  have bU:Bl w.heap.size w wn:=⟨by have:=hb.size;omega,λb bU=>(hb.block b aC).trans (k2 b bU)⟩;refine JO.mv L bN (.pointer none) ?_;refine JO.regEnd L bN ?_;refine JO.sq L bN ?_;refine JO.sq L bN ?_;refine JO.pQ L bN (λTp Q HQ=>?_);go_wp2;refine HQ.o _ _ ?_;clear HQ;refine JO.cd L true bN ?_;refine JO.sq L bN ?_;refine JO.pQ L bN (λzE Q HQ=>?_);go_wp2;refine HQ.o _ _ ?_;clear HQ;refine JO.rt L bN ?_;exact Qd _ _ _ _ rfl zgb ((bU.tp Tp 0).tp zE 0) (by simp[Ew,oP,bS,lR];exact⟨rfl,.inl ⟨rfl,rfl⟩⟩)
 .simp only[Fm.fin,zkx,uY,fO,dP,dQ]
  obtain⟨kF,lo,v,ln,qn,h1,h2,hA,h3,h4⟩:=hH;have bU:Bl w.heap.size w wn:=⟨by have:=kF.size;omega,λb bU=>(kF.block b aC).trans (k2 b bU)⟩;have HA:=aD hA;have zcu:=aD bU;clear hA bU kF;refine JO.mv L bN (.pointer (some ⟨hb,0,none⟩)) ?_;refine JO.regEnd L bN ?_;refine JO.sq L bN ?_;refine JO.sq L bN ?_;refine JO.pQ L bN (λTp Q HQ=>?_);go_wp2;refine HQ.o _ _ ?_;clear HQ;refine JO.cd L false bN ?_;refine JO.sk L bN ?_;refine JO.sq L bN ?_;refine JO.pQ L bN (λzE Q HQ=>?_);obtain⟨w5,lB⟩:=aP (Tt.tp (Tt.tp wn Tp 0) zE 0);have c5:w5.cell? ⟨hb,12,none⟩=some (v.sA):=by rw[lB];exact aI HA.o.blk 12
  have A5:=aD (show bG w5 lo hb v (tP o es ln qn qn.length) by rw[lB];exact HA.o.same rfl);have B5:=aD (show Bl w.heap.size w w5 by rw[lB];exact(zcu.o.tp Tp 0).tp zE 0);rw[<-lB];clear lB;go_wp2;refine HQ.o _ _ ?_;clear HQ;refine JO.rt L bN ?_;exact Qd _ _ _ _ rfl zgb B5.o (by simp only[Ew,oP,bS,if_true];exact zeb A5.o.A aC)
end
def bodyCR:Go.Code:=(zgB.body).getD .skip
def rCR1:Go.Code:=match bodyCR with| .seq _ (.seq (a) _)=>a|_=>.skip
def zad:Array Oper:=match rCR1 with| .region _ ops _=>ops|_=>#[]
abbrev oCR1_0:Oper:=aV zad 0 (some 6) (.load 29 (.tmp 2))
def opsCR1_0:zad[0]? =some oCR1_0:=rfl
abbrev oCR1_2:Oper:=aV zad 2 (some 8) (.call ⟨.value (.func 42),#[.tmp 6,.tmp 7],#[29,31]⟩)
def zjO:zad[2]? =some oCR1_2:=rfl
section
variable {St:Nat->Prop}{W0:aE}{Post:aF->aE->Prop}
theorem zCh {m:Fm}{ms:List Fm}{w:aE}{ops:Array aZ}{i:Nat}{rest:List Nat}{k:List dX}{oo:aZ}{args:Array cK}{kJ:Array aM}{A:Option bC}{n c:Nat}{o:fQ}{es:List dI}
 (hr:m.ret=false) (Qf:nL olL m.fn=false) (pT:m.todo=.inRegion ops (i::rest)::k) (ho:ops[i]? =some oo) (cE:dE oo (dH ops m.tmps)=true) (hop:oo.op=.call ⟨.value (.func 26),args,kJ⟩)
 (hv:args.map m.eval=#[.agg #[.int .i64 o.ln,.int .i64 o.op,.int .i64 o.pt],.slice A n c]) (Bu:cG w 0 w.heap.size 3 A n c (qW es)) (hn:n<=1048576) (hT:qC w) (rQ:xF w)
 (hJ:∀wn V,Bl w.heap.size w wn->wn.ownsRow w.heap.size 3 1 V (B7 o es).length (fF (B7 o es))->JS St W0 Post (m.fin ops i rest k (V)) ms wn):JS St W0 Post m ms w:=by
 have L:=lvF;have bN:nL olL 26=false:=aT;have zdl:=JO.callN (St:=St) (W0:=W0) (Post:=Post) (ms:=ms) (w:=w) (fn:=zgB) (c:=bodyCR) L hr pT ho cE hop bN;refine zdl zro aH rfl ?_;rw[hv];have Eg:(#[.agg #[.int .i64 o.ln,.int .i64 o.op,.int .i64 o.pt],.slice A n c]:Array aF)++oJ ((zgB).ntmps-(#[.agg #[.int .i64 o.ln,.int .i64 o.op,.int .i64 o.pt],.slice A n c]:Array aF).size) aA=#[.agg #[.int .i64 o.ln,.int .i64 o.op,.int .i64 o.pt],.slice A n c,aA,aA,aA,aA,aA,aA,aA,aA,aA,aA,aA,aA,aA]:=by
  have e:(zgB).ntmps=15:=rfl;rw[e];apply Jq;simp only[Oo,zaj,B6,rG,wD];rfl
 rw[Eg];have pU:w.heap.size<=w.heap.size:=bF _;have Qd:∀(tmps:Array aF) (td:List dX) (w':aE) (V:aF),tmps.getD 4 aA=V->Bl w.heap.size w w'->w'.ownsRow w.heap.size 3 1 V (B7 o es).length (fF (B7 o es))->JS St W0 Post ⟨26,tmps,td,true⟩ (m::ms) w':=by
  intro tmps td w' V e4 hb cT;refine JO.back L rfl pT zro (v:=V) ?_ Qf (hJ w' V hb cT);show(oG [.tmp 4] tmps).run _ _=_;simp only[oG,x3,e4];rfl
 refine JO.sq L bN ?_;refine JO.pQ L bN (λTp Q HQ=>?_);obtain⟨w1,dW⟩:=aP (Tt.tp w Tp 0);have B0:=aD (show Bl w.heap.size w w1 by rw[dW];exact(Bl.refl _ w).tp Tp 0);have dB:w1.heap.size=w.heap.size:=by rw[dW];rfl
 have eh:w1.heap=w.heap:=by rw[dW];rfl
 have EH:=aD eh;rw[<-dW];clear dW eh;go_wp2;refine HQ.o _ _ ?_;clear HQ;obtain⟨w2,eG⟩:=aP (w1.alloc (.cells #[.int .i64 o.ln,.int .i64 o.op,.int .i64 o.pt] 29));have k2:∀b,b<w.heap.size->w2.heap[b]? =w.heap[b]? :=λb hb=>by rw[eG,Bt aC,EH.o]
 have z2:w2.heap.size=w.heap.size+1:=by rw[eG,uD,dB]
 have g2:w2.heap[w1.heap.size]? =some (.cells #[.int .i64 o.ln,.int .i64 o.op,.int .i64 o.pt] 29):=by rw[eG];exact Dd _ _
 have zaO:cF w.heap.size w {w2 with os:=w.os,tape:=w.tape,output:=w.output}:=⟨rfl,rfl,rfl,by show w.heap.size<=w2.heap.size;omega,k2⟩;have zch:qC w2:=Ni (w:={w2 with os:=w.os,tape:=w.tape,output:=w.output}) rfl (zcL hT _ zaO);have zbw:xF w2:=λg hg=>by
  obtain⟨c,T,fz,h1,h2⟩:=rQ g hg;exact⟨c,T,fz,(k2 g (eB.1 h1).1).trans h1,h2⟩
 have yK:cG w2 0 w2.heap.size 3 A n c (qW es):=(Bu.keep aC λb _ q _=>k2 b q).wide (bF _) aC;rw[<-eG];clear eG;rw[dB] at g2;refine JO.sq L bN ?_;refine JO.rn L bN zad [0,1,2,3] ?_;refine JO.opv L (v:=.agg #[.int .i64 o.ln,.int .i64 o.op,.int .i64 o.pt]) bN opsCR1_0 rfl (λT e=>?_) ?_
 .have c0:(Tt.tp w2 T e).cell? ⟨w.heap.size,0,none⟩=some (.int .i64 o.ln):=aI g2 0
  have c1:(Tt.tp w2 T e).cell? ⟨w.heap.size,1,none⟩=some (.int .i64 o.op):=aI g2 1;have c2:(Tt.tp w2 T e).cell? ⟨w.heap.size,2,none⟩=some (.int .i64 o.pt):=aI g2 2;unfold aO;go_simp
  try rfl
 simp only[cC,fO,dP,dQ];refine JO.mv L bN (.slice A n c) ?_;refine zlR (o:=o) (es:=es) rfl rfl zjO rfl rfl aT Zq yK hn zch zbw (λbS wn hb=>?_) (λbS wn hb hH=>?_)
 .simp only[Fm.fin,zjO,uY,fO,dP,dQ]
  have bU:Bl w.heap.size w wn:=⟨by have:=hb.size;omega,λb bU=>(hb.block b aC).trans (k2 b bU)⟩;refine JO.mv L bN (.pointer none) ?_;refine JO.regEnd L bN ?_;refine JO.sq L bN ?_;refine JO.sq L bN ?_;refine JO.pQ L bN (λTp Q HQ=>?_);go_wp2;refine HQ.o _ _ ?_;clear HQ;refine JO.cd L true bN ?_;refine JO.sq L bN ?_;refine JO.pQ L bN (λzE Q HQ=>?_);go_wp2;refine HQ.o _ _ ?_;clear HQ;refine JO.rt L bN ?_;exact Qd _ _ _ _ rfl ((bU.tp Tp 0).tp zE 0) (by simp[B7,oP,bS,lR];exact⟨rfl,.inl ⟨rfl,rfl⟩⟩)
 .simp only[Fm.fin,zjO,uY,fO,dP,dQ]
  obtain⟨kF,lo,v,ln,qn,h1,h2,hA,h3,h4⟩:=hH;have bU:Bl w.heap.size w wn:=⟨by have:=kF.size;omega,λb bU=>(kF.block b aC).trans (k2 b bU)⟩;have HA:=aD hA;have zcu:=aD bU;clear hA bU kF;refine JO.mv L bN (.pointer (some ⟨hb,0,none⟩)) ?_;refine JO.regEnd L bN ?_;refine JO.sq L bN ?_;refine JO.sq L bN ?_;refine JO.pQ L bN (λTp Q HQ=>?_);go_wp2;refine HQ.o _ _ ?_;clear HQ;refine JO.cd L false bN ?_;refine JO.sk L bN ?_;refine JO.sq L bN ?_;refine JO.pQ L bN (λzE Q HQ=>?_);obtain⟨w5,lB⟩:=aP (Tt.tp (Tt.tp wn Tp 0) zE 0);have c5:w5.cell? ⟨hb,8,none⟩=some (v.sB):=by rw[lB];exact aI HA.o.blk 8
  have A5:=aD (show bG w5 lo hb v (tP o es ln qn qn.length) by rw[lB];exact HA.o.same rfl);have B5:=aD (show Bl w.heap.size w w5 by rw[lB];exact(zcu.o.tp Tp 0).tp zE 0);rw[<-lB];clear lB;go_wp2;refine HQ.o _ _ ?_;clear HQ;refine JO.rt L bN ?_;exact Qd _ _ _ _ rfl B5.o (by simp only[B7,oP,bS,if_true,zeT];exact zeb A5.o.B aC)
end
def bodyRX:Go.Code:=(zfn.body).getD .skip
def rRX1:Go.Code:=match bodyRX with| .seq _ (.seq (a) _)=>a|_=>.skip
def zbu:Array Oper:=match rRX1 with| .region _ ops _=>ops|_=>#[]
abbrev oRX1_0:Oper:=aV zbu 0 (some 7) (.load 29 (.tmp 2))
def opsRX1_0:zbu[0]? =some oRX1_0:=rfl
abbrev oRX1_2:Oper:=aV zbu 2 (some 9) (.call ⟨.value (.func 42),#[.tmp 7,.tmp 8],#[29,31]⟩)
def zmj:zbu[2]? =some oRX1_2:=rfl
section
variable {St:Nat->Prop}{W0:aE}{Post:aF->aE->Prop}
theorem zB7 {m:Fm}{ms:List Fm}{w:aE}{ops:Array aZ}{i:Nat}{rest:List Nat}{k:List dX}{oo:aZ}{args:Array cK}{kJ:Array aM}{A:Option bC}{n c:Nat}{o:fQ}{es:List dI}
 (hr:m.ret=false) (Qf:nL olL m.fn=false) (pT:m.todo=.inRegion ops (i::rest)::k) (ho:ops[i]? =some oo) (cE:dE oo (dH ops m.tmps)=true) (hop:oo.op=.call ⟨.value (.func 28),args,kJ⟩)
 (hv:args.map m.eval=#[.agg #[.int .i64 o.ln,.int .i64 o.op,.int .i64 o.pt],.slice A n c]) (Bu:cG w 0 w.heap.size 3 A n c (qW es)) (hn:n<=1048576) (hT:qC w) (rQ:xF w)
 (hJ:∀wn V,Bl w.heap.size w wn->wn.ownsRow w.heap.size 50 7 V (Kb o es).length (recs (Kb o es))->JS St W0 Post (m.fin ops i rest k (.tuple #[V,.bool (eM o es)])) ms wn):JS St W0 Post m ms w:=by
 have L:=lvF;have bN:nL olL 28=false:=aT;have zdl:=JO.callN (St:=St) (W0:=W0) (Post:=Post) (ms:=ms) (w:=w) (fn:=zfn) (c:=bodyRX) L hr pT ho cE hop bN;refine zdl zwy aH rfl ?_;rw[hv];have Eg:(#[.agg #[.int .i64 o.ln,.int .i64 o.op,.int .i64 o.pt],.slice A n c]:Array aF)++oJ ((zfn).ntmps-(#[.agg #[.int .i64 o.ln,.int .i64 o.op,.int .i64 o.pt],.slice A n c]:Array aF).size) aA=#[.agg #[.int .i64 o.ln,.int .i64 o.op,.int .i64 o.pt],.slice A n c,aA,aA,aA,aA,aA,aA,aA,aA,aA,aA,aA,aA,aA,aA]:=by
  have e:(zfn).ntmps=16:=rfl;rw[e];apply Jq;simp only[Oo,zaj,B6,rG,wD];rfl
 rw[Eg];have pU:w.heap.size<=w.heap.size:=bF _;have Qd:∀(tmps:Array aF) (td:List dX) (w':aE) (V:aF),tmps.getD 4 aA=V->tmps.getD 5 aA=.bool (eM o es)->Bl w.heap.size w w'->w'.ownsRow w.heap.size 50 7 V (Kb o es).length (recs (Kb o es))->JS St W0 Post ⟨28,tmps,td,true⟩ (m::ms) w':=by
  intro tmps td w' V e4 e5 hb cT;refine JO.back L rfl pT zwy (v:=.tuple #[V,.bool (eM o es)]) ?_ Qf (hJ w' V hb cT);show(oG [.tmp 4,.tmp 5] tmps).run _ _=_;simp only[oG,x3,e4,e5];rfl
 refine JO.sq L bN ?_;refine JO.pQ L bN (λTp Q HQ=>?_);obtain⟨w1,dW⟩:=aP (Tt.tp w Tp 0);have B0:=aD (show Bl w.heap.size w w1 by rw[dW];exact(Bl.refl _ w).tp Tp 0);have dB:w1.heap.size=w.heap.size:=by rw[dW];rfl
 have eh:w1.heap=w.heap:=by rw[dW];rfl
 have EH:=aD eh;rw[<-dW];clear dW eh;go_wp2;refine HQ.o _ _ ?_;clear HQ;obtain⟨w2,eG⟩:=aP (w1.alloc (.cells #[.int .i64 o.ln,.int .i64 o.op,.int .i64 o.pt] 29));have k2:∀b,b<w.heap.size->w2.heap[b]? =w.heap[b]? :=λb hb=>by rw[eG,Bt aC,EH.o]
 have z2:w2.heap.size=w.heap.size+1:=by rw[eG,uD,dB]
 have g2:w2.heap[w1.heap.size]? =some (.cells #[.int .i64 o.ln,.int .i64 o.op,.int .i64 o.pt] 29):=by rw[eG];exact Dd _ _
 have zaO:cF w.heap.size w {w2 with os:=w.os,tape:=w.tape,output:=w.output}:=⟨rfl,rfl,rfl,by show w.heap.size<=w2.heap.size;omega,k2⟩;have zch:qC w2:=Ni (w:={w2 with os:=w.os,tape:=w.tape,output:=w.output}) rfl (zcL hT _ zaO);have zbw:xF w2:=λg hg=>by
  obtain⟨c,T,fz,h1,h2⟩:=rQ g hg;exact⟨c,T,fz,(k2 g (eB.1 h1).1).trans h1,h2⟩
 have yK:cG w2 0 w2.heap.size 3 A n c (qW es):=(Bu.keep aC λb _ q _=>k2 b q).wide (bF _) aC;rw[<-eG];clear eG;rw[dB] at g2;refine JO.sq L bN ?_;refine JO.rn L bN zbu [0,1,2,3] ?_;refine JO.opv L (v:=.agg #[.int .i64 o.ln,.int .i64 o.op,.int .i64 o.pt]) bN opsRX1_0 rfl (λT e=>?_) ?_
 .have c0:(Tt.tp w2 T e).cell? ⟨w.heap.size,0,none⟩=some (.int .i64 o.ln):=aI g2 0
  have c1:(Tt.tp w2 T e).cell? ⟨w.heap.size,1,none⟩=some (.int .i64 o.op):=aI g2 1;have c2:(Tt.tp w2 T e).cell? ⟨w.heap.size,2,none⟩=some (.int .i64 o.pt):=aI g2 2;unfold aO;go_simp
  try rfl
 simp only[cC,fO,dP,dQ];refine JO.mv L bN (.slice A n c) ?_;refine zlR (o:=o) (es:=es) rfl rfl zmj rfl rfl aT Zq yK hn zch zbw (λbS wn hb=>?_) (λbS wn hb hH=>?_)
 .simp only[Fm.fin,zmj,uY,fO,dP,dQ]
  have bU:Bl w.heap.size w wn:=⟨by have:=hb.size;omega,λb bU=>(hb.block b aC).trans (k2 b bU)⟩;refine JO.mv L bN (.pointer none) ?_;refine JO.regEnd L bN ?_;refine JO.sq L bN ?_;refine JO.sq L bN ?_;refine JO.pQ L bN (λTp Q HQ=>?_);go_wp2;refine HQ.o _ _ ?_;clear HQ;refine JO.cd L true bN ?_;refine JO.sq L bN ?_;refine JO.pQ L bN (λzE Q HQ=>?_);go_wp2;refine HQ.o _ _ ?_;clear HQ;refine JO.rt L bN ?_;exact Qd _ _ _ _ rfl zgb ((bU.tp Tp 0).tp zE 0) (by simp[Kb,oP,bS,lR];exact⟨rfl,.inl ⟨rfl,rfl⟩⟩)
 .simp only[Fm.fin,zmj,uY,fO,dP,dQ]
  obtain⟨kF,lo,v,ln,qn,h1,h2,hA,h3,h4⟩:=hH;have bU:Bl w.heap.size w wn:=⟨by have:=kF.size;omega,λb bU=>(kF.block b aC).trans (k2 b bU)⟩;have HA:=aD hA;have zcu:=aD bU;clear hA bU kF;refine JO.mv L bN (.pointer (some ⟨hb,0,none⟩)) ?_;refine JO.regEnd L bN ?_;refine JO.sq L bN ?_;refine JO.sq L bN ?_;refine JO.pQ L bN (λTp Q HQ=>?_);go_wp2;refine HQ.o _ _ ?_;clear HQ;refine JO.cd L false bN ?_;refine JO.sk L bN ?_;refine JO.sq L bN ?_;refine JO.pQ L bN (λzE Q HQ=>?_);obtain⟨w5,lB⟩:=aP (Tt.tp (Tt.tp wn Tp 0) zE 0);have c5:w5.cell? ⟨hb,9,none⟩=some (v.sR):=by rw[lB];exact aI HA.o.blk 9
  have A5:=aD (show bG w5 lo hb v (tP o es ln qn qn.length) by rw[lB];exact HA.o.same rfl);have B5:=aD (show Bl w.heap.size w w5 by rw[lB];exact(zcu.o.tp Tp 0).tp zE 0);rw[<-lB];clear lB;go_wp2;refine HQ.o _ _ ?_;clear HQ;refine JO.rt L bN ?_;exact Qd _ _ _ _ rfl zgb B5.o (by simp only[Kb,oP,bS,if_true];exact zeb A5.o.R aC)
end
theorem qC.bls (h:qC w)(hb:Bl B w w')(hB:w.heap.size<=B):qC w':=by
 have bU:cF w.heap.size w {w' with os:=w.os,tape:=w.tape,output:=w.output}:=⟨rfl,rfl,rfl,hb.size,λb zps=>hb.block b aC⟩;exact Ni (w:={w' with os:=w.os,tape:=w.tape,output:=w.output}) rfl (zcL h _ bU)
theorem xF.bls (h:xF w)(hb:Bl B w w')(hB:w.heap.size<=B):xF w':=by
 intro g hg;obtain⟨c,T,fz,hc,hu⟩:=h g hg;exact⟨c,T,fz,(hb.block g (by have:=(eB.1 hc).1;omega)).trans hc,hu⟩
theorem zEC {p:Program}{o:aZ}{t:aM}{x:cK}{ρ:cK->aF}{b:Nat}{cs:Array aF}{T:aM}{fz:Nat×Nat}{d:TypeDesc}(hop:o.op=.load t x)(hb:w.heap[b]? =some (.cells cs T fz))(hx:ρ x=.pointer (some ⟨b,0,none⟩))
 (hu:p.underlying t=some d) (hd:d.isRow=true) (hi:(p.info? t).map (·.size)=some cs.size):(aO ρ o).run p w=.ok (.value (.agg cs)) w:=by
 obtain⟨dst,yV,type,pos,after,guard⟩:=o;simp only at hop;subst hop;have:=run_loadAt_mid (P:=p) w b 0 t cs.toList d (λj v hj=>by rw[qH,aI hb];simpa using hj) hu hd ze3;simp only[aO,hx,Sem.run_bind,this,Result.andThen_ok];rfl
end Go.Proofs.YtfcjiloojkjaeaaGreatDoor
namespace Go.Proofs.YtfcjiloojkjaeaaGreatDoor
open Go.ChangeShapes Go.WideShapes Go.ChangeAt Go.RowKit Go.Mt Go.Conc Go.Tt
def Sq:List (String×DataW Unit):=[("math/bits.deBruijn32tab",Rows.laid_math_bits_deBruijn32tab),("math/bits.deBruijn64tab",Rows.laid_math_bits_deBruijn64tab),("internal/strconv.uint64pow10",Rows.laid_internal_strconv_uint64pow10)]
def door_met (os:Os)(args:Array aF):laidMetH aK Sq ((aE.doorLaid aK 400 os).forCall (λ_ _=>0) ⟨#[],args,[]⟩).memory:=
 laidMetH_of_parts3 (fuel:=8) (laidMet_of_run' 8 aT aT) aT aT
def pow_eq:Rows.laid_internal_strconv_uint64pow10 (H:=Unit)=Lib.tabData .u64 Lib.pow10Tab:=aT
variable {W:aE}
theorem of_laid (h:laidMetH aK Sq W):qC W:=by
 rw[zp8 _ _ _ aT] at h;obtain⟨ps,⟨g0,t0,Gb,f0,p0,q0,Rw,zlW,gI,Tg,⟨g1,t1,uI,f1,p1,q1,qN,Hk,pA,Ru,⟨g2,t2,zqI,f2,p2,q2,oO,zrY,Be,Bv,_,_⟩,_⟩,_⟩,_⟩:=h;have e1:aK.globalNamed "internal/strconv.uint64pow10" =some 0:=aT;have e2:(aK.globals[0]?).map (·.type)=some 170:=aT;obtain rfl:=cO (e1.symm.trans oO);obtain rfl:=cO (e2.symm.trans zrY);rw[pow_eq] at Bv;unfold qC zdZ;rw[Be,<-Lib.cells_of_tab Tryz.underlying170 Tryz.underlying89 aT aT Bv]
theorem zha {nm:String}{g:Nat}{cs:Array aF}(hg:aK.globalNamed nm=some g)(h:W.var? aK nm=some cs):∃T fz,W.heap[g]? =some (.cells cs T fz):=by
 unfold zg5 at h;rw[hg] at h;simp only[uY] at h;split at h
 .rename_i c T fz hb
  injection h with h;subst h;exact⟨T,fz,hb⟩
 .cases h
theorem zEk (g:Nat)(h:Bp aK g=true):aK.globalNamed "math/bits.deBruijn32tab" =some g\/aK.globalNamed "math/bits.deBruijn64tab" =some g\/aK.globalNamed "internal/strconv.uint64pow10" =some g:=by
 have tF:((iQ aK.globals.size).all λg=>!(Bp aK g)||decide (aK.globalNamed "math/bits.deBruijn32tab" =some g)||decide (aK.globalNamed "math/bits.deBruijn64tab" =some g)||decide (aK.globalNamed "internal/strconv.uint64pow10" =some g))=true:=aT;have aS:g<Tryz.prog.globals.size:=by
  unfold Bp at h
  cases e:aK.globals[g]? with
  |none=>rw[e] at h;cases h
  |some x=>exact(eB.1 e).1
 have:=List.all_eq_true.1 tF g (List.mem_range.2 aS);simp only[h,zpC,Bool.false_or,Eu,decide_eq_true_eq] at this;rcases this with(h|h)|h
 .exact .inl h
 .exact .inr (.inl h)
 .exact .inr (.inr h)
theorem zDG (h:laidMetH aK Sq W)(g:Nat)(hg:Bp aK g=true):∃c T fz,W.heap[g]? =some (.cells c T fz):=by
 rw[zp8 _ _ _ aT] at h;obtain⟨ps,⟨g0,t0,Gb,f0,p0,q0,Rw,zlW,gI,Tg,⟨g1,t1,uI,f1,p1,q1,qN,Hk,pA,Ru,⟨g2,t2,zqI,f2,p2,q2,oO,zrY,Be,Bv,_,_⟩,_⟩,_⟩,_⟩:=h;rcases zEk g hg with e|e|e
 .exact⟨Gb,zha e gI⟩
 .exact⟨uI,zha e pA⟩
 .exact⟨zqI,zha e Be⟩
def Z5 (A:Option bC)(b:Nat):Bool:=match A with|some a=>decide (a.block=b)|none=>false
def Kx (A1 A2 A3:Option bC)(b:Nat):Bool:=Bp aK b||Z5 A1 b||Z5 A2 b||Z5 A3 b
variable {A:Option bC}
theorem zmb {b:Nat}(h:Z5 A b=true):∃a,A=some a/\a.block=b:=by
 unfold Z5 at h
 cases A with
 |none=>cases h
 |some a=>exact⟨a,rfl,of_decide_eq_true h⟩
theorem zDF {A1 A2 A3:Option bC}(hL:laidMetH aK Sq W)(h1:∀a,A1=some a->a.spot=none/\∃c T fz,W.heap[a.block]? =some (.cells c T fz))(h2:∀a,A2=some a->a.spot=none/\∃c T fz,W.heap[a.block]? =some (.cells c T fz))(h3:∀a,A3=some a->a.spot=none/\∃c T fz,W.heap[a.block]? =some (.cells c T fz))(b:Nat)(hb:Kx A1 A2 A3 b=true):∃c T fz,W.heap[b]? =some (.cells c T fz):=by
 unfold Kx at hb;simp only[Eu] at hb;rcases hb with((hb|hb)|hb)|hb
 .exact zDG hL b hb
 .obtain⟨a,e,rfl⟩:=zmb hb;exact(h1 a e).2
 .obtain⟨a,e,rfl⟩:=zmb hb;exact(h2 a e).2
 .obtain⟨a,e,rfl⟩:=zmb hb;exact(h3 a e).2
variable {X:Nat->Bool}
theorem zG0 (h:∀a,A=some a->X a.block=true):xX (R0 X) A A:=by
 cases A with
 |none=>exact .none
 |some a=>
  have:=h a rfl;obtain⟨bl,of,sp⟩:=a;exact .some (.mk ⟨rfl,this⟩)
variable {S:aQ->Prop}
theorem zyY (hX:∀b,X b=true->∃c T fz,W.heap[b]? =some (.cells c T fz))(hT:∀g,Bp aK g=true->X g=true):xF (Ei S X W):=by
 intro g hg;obtain⟨c,T,fz,hc⟩:=hX g (hT g hg);refine⟨_,_,_,zae hc (hT g hg),λv hv=>?_⟩;obtain⟨u,_,rfl⟩:=Array.mem_map.1 hv;exact(ze1 S u).1
theorem gv_ints (S:aQ->Prop)(zs:List Int):((zs.map λz=>Is .u64 z).toArray).map (gv S)=(zs.map λz=>Is .u64 z).toArray:=by
 apply Jq;simp only[Array.toList_map,List.map_map];exact List.map_congr_left λz _=>(ze1 S _).2.2 (.inl ⟨_,_,rfl⟩)
theorem zC6 (hX:∀b,X b=true->∃c T fz,W.heap[b]? =some (.cells c T fz))(hT:∀g,Bp aK g=true->X g=true)(h:qC W):qC (Ei S X W):=by
 have e1:aK.globalNamed "internal/strconv.uint64pow10" =some 0:=aT;have e2:Bp aK 0=true:=aT;unfold qC zdZ at*;obtain⟨T,fz,hc⟩:=zha e1 h;have kO:=zae (S:=S) hc (hT _ e2);unfold zg5;rw[e1];simp only[uY,kO];exact congrArg some (gv_ints S _)
end Go.Proofs.YtfcjiloojkjaeaaGreatDoor
namespace Go.Proofs.YtfcjiloojkjaeaaGreatDoor
theorem o7 {a b:Bool}(h:a=true)(k:b=true):(a&&b)=true:=by rw[h,k];rfl
namespace Facts
def ztw:laidOutB Tryz.pinned.checked.prog=true:=aT
def mapsRowed:mapsRowed Tryz.pinned.checked.prog=true:=aT
def stops:(Tryz.pinned.checked.prog.stops==[])=true:=aT
def stopKnobs:(Tryz.pinned.checked.prog.stopKnobs==[])=true:=aT
def plainKeys:(Rows.fnExactRunOfficeRow.plainKeys==Tryz.pinned.checked.prog.plainKeys)=true:=aT
def stopsHeard:Tryz.pinned.checked.prog.stopsHeard=true:=aT
def mayEnter:Tryz.pinned.checked.prog.mayEnter=true:=aT
def lifted:(Rows.fnExactRunOfficeRow.lifted==Tryz.pinned.checked.prog.liftsFinal)=true:=aT
def make:(Tryz.pinned.checked.prog.make==some Rows.fnExactRunOfficeRow.make)=true:=aT
def mainIs:Tryz.pinned.checked.prog.mainIs=some (Rows.fnExactRunOfficeCard.stood.harness.1,Rows.fnExactRunOfficeCard.stood.harness.2.toList):=aT
def looks:Rows.fnExactRunOfficeCard.stood.looks=Tryz.pinned.checked.prog.looks []:=aT
end Facts
end Go.Proofs.YtfcjiloojkjaeaaGreatDoor
namespace Go.Proofs.YtfcjiloojkjaeaaGreatDoor
open Go.RowKit
structure qG (w0:aE)(g:Nat)(A:Option bC)(n c q:Nat)(E s:Nat)(v:aF)(k:Nat)(xs:List aF)(W:aE):Prop where
 rd:Rd W g A n c q
 own:W.ownsRow w0.heap.size E s v k xs
 gr:w0.grownBy W (some g)
 hg:g<w0.heap.size
section
variable {w0:aE}{g:Nat}{A:Option bC}{n c q:Nat}{E s:Nat}{v:aF}{k:Nat}{xs:List aF}{W W':aE}
def qG.hb (h:qG w0 g A n c q E s v k xs W):w0.heap.size<=W.heap.size:=h.gr.size
theorem qG.notg (h:qG w0 g A n c q E s v k xs W):v.ownBlock≠some g:=λe=>by
 have:=(h.own.lt g e).1;have:=h.hg;omega
def qG.alloc (h:qG w0 g A n c q E s v k xs W)(o:Obj):qG w0 g A n c q E s v k xs (W.alloc o):=
 ⟨h.rd.alloc o,h.own.alloc o,Zt h.gr o,h.hg⟩
def qG.grown {q':Nat}(h:qG w0 g A n c q E s v k xs W)(hr:Rd W' g A n c q')(hg:W.grownBy W' (some g)):qG w0 g A n c q' E s v k xs W':=
 ⟨hr,h.own.kept hg (.inr h.notg),zkt h.gr hg,h.hg⟩
theorem qG.below (h:qG w0 g A n c q E s v k xs W)(hb:cF W.heap.size W W'):qG w0 g A n c q E s v k xs W':=
 ⟨h.rd.below hb,h.own.kept (row:=none) ⟨hb.os,hb.tape,hb.output,hb.size,λi hi _=>hb.block i hi⟩ (by cases hv:v.ownBlock<;>simp),zkt h.gr (zBC hb _),h.hg⟩
def qG.wide {q':Nat}(h:qG w0 g A n c q E s v k xs W)(hq:q<=q'):qG w0 g A n c q' E s v k xs W:=
 ⟨h.rd.mono hq,h.own,h.gr,h.hg⟩
theorem qG.aside {row:Option Nat}(h:qG w0 g A n c q E s v k xs W)(hg:W.grownBy W' row)(aU:v.ownBlock=none\/v.ownBlock≠row)(hy:∀b,row=some b->w0.heap.size<=b):qG w0 g A n c q E s v k xs W':=
 ⟨
  h.rd.keep λb hb=>hg.block b (zav hb h.rd.gblt) (λe=>by have:=hy b e.symm;have:=h.hg;omega),h.own.kept hg aU,
  ⟨hg.os.trans h.gr.os,hg.tape.trans h.gr.tape,hg.output.trans h.gr.output,eH h.gr.size hg.size,λi hi aU=>(hg.block i (jO hi h.gr.size) (λe=>by have:=hy i e.symm;omega)).trans (h.gr.block i hi aU)⟩,h.hg⟩
theorem qG.app {v':aF}{k':Nat}{b8:List aF}(h:qG w0 g A n c q E s v k xs W)(ho:W'.ownsRow w0.heap.size E s v' k' b8)(hg:W.grownBy W' v.ownBlock):qG w0 g A n c q E s v' k' b8 W':=
 ⟨
  h.rd.keep λb hb=>hg.block b (zav hb h.rd.gblt) (λe=>by have:=(h.own.lt b e.symm).1;have:=h.hg;omega),ho,
  ⟨hg.os.trans h.gr.os,hg.tape.trans h.gr.tape,hg.output.trans h.gr.output,eH h.gr.size hg.size,λi hi aU=>(hg.block i (jO hi h.gr.size) (λe=>by have:=(h.own.lt i e.symm).1;omega)).trans (h.gr.block i hi aU)⟩,h.hg⟩
end
variable {W:aE}{g n c:Nat}{A:Option bC}
def qG.init {q:Nat}(E s:Nat)(h:Rd W g A n c q):
 qG W g A n c q E s (.slice (some ⟨W.heap.size,0,none⟩) 0 0) 0 [] (W.alloc (.cells #[] E)):=
 ⟨h.alloc _,aE.ownsRow_made W #[] 0 (bF _) (lP _) aN,Zt (zhu _ _) _,h.gblt⟩
theorem int_pred {j:Nat}(h:0<j):Is .i64 ((j:Int)-1)=.int .i64 ((j-1:Nat):Int):=by congr 1;omega
variable {w:aE}{l k:Nat}{T:aM}{fz:Nat×Nat}
theorem Sf {xs:List Int}(h:w.heap[l]? =some (.cells (xs.map (Is .i64)).toArray T fz))(hk:xs.length=k):
 ∀j,j<k->∃v:Int,w.cell? ⟨l,0+j,none⟩=some (.int .i64 v):=
 zIh h k λj hj=>⟨xs[j]' aC,by simp[hk,hj]⟩
def GotS (w:aE)(g:Nat)(A:Option bC)(n c q:Nat)(e:G3)(w':aE):Prop:=
 ∃s:ByteArray,e=.returned (.string s)/\Rd w' g A n c q/\w.grownBy w' (some g)
theorem of_any (g q n c l lo k kc:Nat)(A:Option bC)(w:aE)(h:Rd w g A n c q)(hq:q+1<1000000000)(hk:0<k)(qO:k<=1000000)(hl:l<w.heap.size)(zbQ:l≠g)
 (hc:∀j,j<k->∃v:ByteArray,w.cell? ⟨l,lo+j,none⟩=some (.string v)):
 gH aK 107 #[.pointer (some ⟨g,0,none⟩),.slice (some ⟨l,lo,none⟩) k kc] w (GotS w g A n c (q+1)):=by
 have H:=aD hc;clear hc
 go_enter Tryz.func107,Tryz.ntmps107
 go_wp2_with fail
 refine(Ef g q n c A _ _ h hq aC aC).mono ?_;rintro e w1 ⟨r,rfl,⟨r0,r1⟩,hr,hg⟩;obtain⟨v,hv⟩:=H.o r.toNat aC;have pA:=(zuW hg hl zbQ).trans hv;clear hv;go_wp2;go_ret;exact⟨v,rfl,hr,hg⟩
variable {xs:List ByteArray}
theorem zxM (h:w.heap[l]? =some (.cells (xs.map zsB).toArray T fz))(hk:xs.length=k):
 ∀j,j<k->∃v:ByteArray,w.cell? ⟨l,0+j,none⟩=some (.string v):=λj hj=>⟨xs[j]' aC,by rw[qH,aI h];simp[hk,hj]⟩
structure eV (w0:aE)(g:Nat)(A:Option bC)(n c q rb:Nat)(T:aM)(zs:Array aF)(W:aE):Prop where
 rd:Rd W g A n c q
 gr:w0.grownBy W (some g)
 hg:g<w0.heap.size
 res:W.heap[rb]? =some (.cells zs T)
 rlo:w0.heap.size<=rb
structure Aw (w0:aE)(g:Nat)(A:Option bC)(n c q rb b:Nat)(T:aM)(zs cs:Array aF)(W:aE):Prop where
 rs:eV w0 g A n c q rb T zs W
 blk:W.heap[b]? =some (.cells cs T)
 lo:w0.heap.size<=b/\b≠rb
section
variable {w0:aE}{g:Nat}{A:Option bC}{n c q rb b:Nat}{T:aM}{zs cs:Array aF}{W W':aE}
def eV.alloc (h:eV w0 g A n c q rb T zs W)(o:Obj):eV w0 g A n c q rb T zs (W.alloc o):=⟨h.rd.alloc o,Zt h.gr o,h.hg,dG h.res o,h.rlo⟩
theorem eV.grown {q':Nat}(h:eV w0 g A n c q rb T zs W)(hr:Rd W' g A n c q')(hg:W.grownBy W' (some g)):eV w0 g A n c q' rb T zs W':=
 ⟨hr,zkt h.gr hg,h.hg,(zeM hg h.res (by have:=h.hg;have:=h.rlo;omega)).1,h.rlo⟩
def eV.wide {q':Nat}(h:eV w0 g A n c q rb T zs W)(hq:q<=q'):eV w0 g A n c q' rb T zs W:=⟨h.rd.mono hq,h.gr,h.hg,h.res,h.rlo⟩
theorem eV.box (h:eV w0 g A n c q rb T zs W)(cs:Array aF){b:Nat}(hb:b=W.heap.size):Aw w0 g A n c q rb b T zs cs (W.alloc (.cells cs T)):=⟨h.alloc _,lZ _ _ hb,by have:=iZ h.res;have:=h.gr.size;omega⟩
theorem eV.set {i:Nat}{u:aF}{b:Nat}(h:eV w0 g A n c q rb T zs W)(hb:w0.heap.size<=b/\b≠rb):eV w0 g A n c q rb T zs (W.setCell ⟨b,i,none⟩ u):=
 ⟨h.rd.setCell (by have:=h.hg;have:=h.rlo;simp;omega) u,zxl h.gr (by have:=h.rlo;simp;omega) u,h.hg,(dU W ⟨b,i,none⟩ u _ (by show rb≠b;omega)).trans h.res,h.rlo⟩
def Aw.alloc (h:Aw w0 g A n c q rb b T zs cs W)(o:Obj):Aw w0 g A n c q rb b T zs cs (W.alloc o):=⟨h.rs.alloc o,dG h.blk o,h.lo⟩
theorem Aw.grown {q':Nat}(h:Aw w0 g A n c q rb b T zs cs W)(hr:Rd W' g A n c q')(hg:W.grownBy W' (some g)):Aw w0 g A n c q' rb b T zs cs W':=
 ⟨h.rs.grown hr hg,(zeM hg h.blk (by have:=h.rs.hg;have:=h.rs.rlo;have:=h.lo;omega)).1,h.lo⟩
def Aw.wide {q':Nat}(h:Aw w0 g A n c q rb b T zs cs W)(hq:q<=q'):Aw w0 g A n c q' rb b T zs cs W:=⟨h.rs.wide hq,h.blk,h.lo⟩
theorem Aw.set {i:Nat}{u:aF}{Uq:Array aF}(h:Aw w0 g A n c q rb b T zs cs W)(e:cs.setIfInBounds i u=Uq):Aw w0 g A n c q rb b T zs Uq (W.setCell ⟨b,i,none⟩ u):=
 ⟨h.rs.set h.lo,by rw[oH h.blk,e],h.lo⟩
def Aw.zb (h:Aw w0 g A n c q rb b T zs cs W):b<W.heap.size:=iZ h.blk
theorem eV.end1 {i:Nat}{u:aF}(hr:Rd W g A n c q/\w0.grownBy W (some g))(hg:g<w0.heap.size)(hb:w0.heap.size<=rb):Rd (W.setCell ⟨rb,i,none⟩ u) g A n c q/\w0.grownBy (W.setCell ⟨rb,i,none⟩ u) (some g):=
 ⟨hr.1.setCell (by show g<rb;omega) u,zxl hr.2 hb u⟩
def eV.end0 {q':Nat}(h:eV w0 g A n c q rb T zs W)(hq:q<=q'):Rd W g A n c q'/\w0.grownBy W (some g):=⟨h.rd.mono hq,h.gr⟩
end
def Got3 (w:aE)(g:Nat)(A:Option bC)(n c q:Nat)(e:G3)(w':aE):Prop:=
 ∃(x y z:Int),e=.returned (.agg #[.int .i64 x,.int .i64 y,.int .i64 z])/\Rd w' g A n c q/\w.grownBy w' (some g)
def Got3S (w:aE)(g:Nat)(A:Option bC)(n c q:Nat)(e:G3)(w':aE):Prop:=
 ∃(s:ByteArray) (x y:Int),e=.returned (.agg #[.string s,.int .i64 x,.int .i64 y])/\Rd w' g A n c q/\w.grownBy w' (some g)
theorem zBW (g q n c:Nat)(A:Option bC)(w:aE)(h:Rd w g A n c q)(hq:q<900000000):
 gH aK 60 #[.pointer (some ⟨g,0,none⟩)] w (Got3 w g A n c (q+10)):=by
 have lM:=h.gblt;obtain⟨rb,tY⟩:=aP w.heap.size;have mF:=aD tY;have Ga:=aD (show eV w g A n c q rb 29 #[.int .i64 0,.int .i64 0,.int .i64 0] (w.alloc (.cells #[.int .i64 0,.int .i64 0,.int .i64 0] 29)) from⟨h.alloc _,Zt (zhu _ _) _,lM,lZ _ _ tY,aC⟩);clear h
 go_enter Tryz.func60,Tryz.ntmps60
 go_upto_region 1 with fail
 rw[<-tY];clear tY;obtain⟨W1,cZ⟩:=aP (w.alloc (.cells #[.int .i64 0,.int .i64 0,.int .i64 0] 29));rw[<-cZ] at Ga⊢;clear cZ;have once:True:=trivial
 go_upto_region 2 with(first
  |(clear once;go_at_call 62;refine(Ef g q n c A _ W1 Ga.o.rd aC aC aC).mono ?_;rintro e w2 ⟨r1,rfl,⟨zKN,zIO⟩,uH,oO⟩;have jI:=aD (Ga.o.grown uH oO);clear uH oO)
  |(go_at_call 62;refine(Ef g (q+1) n c A _ w2 jI.o.rd aC aC aC).mono ?_;rintro e w3 ⟨r2,rfl,⟨zjj,zl4⟩,Fj,zU⟩;have jW:=aD (jI.o.grown Fj zU);have z3:=iZ jW.o.res;have zmP:=jW.o.rlo;clear Fj zU)
  |(go_at_call 88;refine(Sp g (q+2) n c _ 0 5 5 A _ (jW.o.alloc _).rd aC aC aC aN aC (Sf (xs:=[5,3,10,1,60]) (gP _ _) rfl)).mono ?_;rintro e w4 ⟨r3,rfl,_,M5,Hq⟩;have Lq:=aD ((jW.o.alloc _).grown M5 Hq);clear M5 Hq))
 obtain⟨b,hb⟩:=aP w4.heap.size;rw[<-hb];have sD:=aD (Lq.o.box #[.int .i64 (1+r1),.int .i64 (1+r2),.int .i64 r3] hb);obtain⟨W4,rF⟩:=aP (w4.alloc (.cells #[.int .i64 (1+r1),.int .i64 (1+r2),.int .i64 r3] 29));rw[<-rF] at sD⊢;obtain⟨x1,Nc⟩:=aP (1+r1);obtain⟨x2,Ah⟩:=aP (1+r2);rw[<-Nc,<-Ah] at sD;clear rF hb Nc Ah
 go_upto_region 3 with(go_at_call 62;refine(Ef g (q+3) n c A _ W4 sD.o.rs.rd aC aC aC).mono ?_;rintro e w5 ⟨r,rfl,⟨r0,r9⟩,eP,Fa⟩;have lN:=aD (sD.o.grown eP Fa);clear eP Fa)
 by_cases e0:r=0
 .subst e0
  have zuI:=lN.o.zb;have Zy:=lN.o.lo;have mI:=lN.o.rs.rlo;have aU:¬b=rb:=aC;have zcE:¬rb=b:=aC
  go_wp2_with (go_at_call 88;refine(Sp g _ n c _ 0 3 3 A _ ((lN.o.alloc _).rs.rd) aC aC aC aN aC (Sf (xs:=[0,7,-1]) (gP _ _) rfl)).mono ?_;rintro e w6 ⟨p,rfl,_,jX,lH⟩;have kQ:=aD ((lN.o.alloc _).grown jX lH);have ec:=aI kQ.o.blk;have fc:=rA kQ.o.blk;have er:=aI kQ.o.rs.res;have fr:=rA kQ.o.rs.res;have zb:=kQ.o.zb;have zr:=iZ kQ.o.rs.res;clear jX lH)
  refine nM (v:=.agg #[.int .i64 p,.int .i64 x2,.int .i64 r3]) ?_ rfl ⟨_,_,_,rfl,eV.end1 (eV.end1 (eV.end1 (eV.end0 (kQ.o.set (i:=0) (u:=.int .i64 p) rfl).rs aC) lM mI) lM mI) lM mI⟩;simp[results,zd7,go_sem,er]
 by_cases e1:r=1
 .subst e1
  have zuI:=lN.o.zb;have Zy:=lN.o.lo;have mI:=lN.o.rs.rlo;have aU:¬b=rb:=aC;have zcE:¬rb=b:=aC
  go_wp2_with (go_at_call 88;refine(Sp g _ n c _ 0 3 3 A _ ((lN.o.alloc _).rs.rd) aC aC aC aN aC (Sf (xs:=[0,5,9223372036854775807]) (gP _ _) rfl)).mono ?_;rintro e w6 ⟨p,rfl,_,jX,lH⟩;have kQ:=aD ((lN.o.alloc _).grown jX lH);have ec:=aI kQ.o.blk;have fc:=rA kQ.o.blk;have er:=aI kQ.o.rs.res;have fr:=rA kQ.o.rs.res;have zb:=kQ.o.zb;have zr:=iZ kQ.o.rs.res;clear jX lH)
  refine nM (v:=.agg #[.int .i64 x1,.int .i64 p,.int .i64 r3]) ?_ rfl ⟨_,_,_,rfl,eV.end1 (eV.end1 (eV.end1 (eV.end0 (kQ.o.set (i:=1) (u:=.int .i64 p) rfl).rs aC) lM mI) lM mI) lM mI⟩;simp[results,zd7,go_sem,er]
 by_cases e2:r=2
 .subst e2
  have zuI:=lN.o.zb;have Zy:=lN.o.lo;have mI:=lN.o.rs.rlo;have aU:¬b=rb:=aC;have zcE:¬rb=b:=aC
  go_wp2_with (go_at_call 88;refine(Sp g _ n c _ 0 3 3 A _ ((lN.o.alloc _).rs.rd) aC aC aC aN aC (Sf (xs:=[0,61,-1]) (gP _ _) rfl)).mono ?_;rintro e w6 ⟨p,rfl,_,jX,lH⟩;have kQ:=aD ((lN.o.alloc _).grown jX lH);have ec:=aI kQ.o.blk;have fc:=rA kQ.o.blk;have er:=aI kQ.o.rs.res;have fr:=rA kQ.o.rs.res;have zb:=kQ.o.zb;have zr:=iZ kQ.o.rs.res;clear jX lH)
  refine nM (v:=.agg #[.int .i64 x1,.int .i64 x2,.int .i64 p]) ?_ rfl ⟨_,_,_,rfl,eV.end1 (eV.end1 (eV.end1 (eV.end0 (kQ.o.set (i:=2) (u:=.int .i64 p) rfl).rs aC) lM mI) lM mI) lM mI⟩;simp[results,zd7,go_sem,er]
 have Zp:(r==0)=false:=by simpa using e0
 have C8:(r==1)=false:=by simpa using e1
 have zdk:(r==2)=false:=by simpa using e2
 clear e0 e1 e2;have ec:=aI lN.o.blk;have fc:=rA lN.o.blk;have er:=aI lN.o.rs.res;have fr:=rA lN.o.rs.res;have zb:=lN.o.zb;have zr:=iZ lN.o.rs.res;have Zy:=lN.o.lo;have aU:¬b=rb:=aC;have zcE:¬rb=b:=aC;have mI:=lN.o.rs.rlo;go_wp2;refine nM (v:=.agg #[.int .i64 x1,.int .i64 x2,.int .i64 r3]) ?_ rfl ⟨_,_,_,rfl,eV.end1 (eV.end1 (eV.end1 (eV.end0 lN.o.rs aC) lM mI) lM mI) lM mI⟩;simp[results,zd7,go_sem,er]
theorem zEK (g q n c:Nat)(A:Option bC)(w:aE)(h:Rd w g A n c q)(hq:q<900000000):
 gH aK 89 #[.pointer (some ⟨g,0,none⟩)] w (Got3S w g A n c (q+10)):=by
 have lM:=h.gblt;obtain⟨rb,tY⟩:=aP w.heap.size;have mF:=aD tY;have Ga:=aD (show eV w g A n c q rb 54 #[.string ⟨#[]⟩,.int .i64 0,.int .i64 0] (w.alloc (.cells #[.string ⟨#[]⟩,.int .i64 0,.int .i64 0] 54)) from⟨h.alloc _,Zt (zhu _ _) _,lM,lZ _ _ tY,aC⟩);clear h
 go_enter Tryz.func89,Tryz.ntmps89
 go_upto_region 1 with fail
 rw[<-tY];clear tY;obtain⟨W1,cZ⟩:=aP (w.alloc (.cells #[.string ⟨#[]⟩,.int .i64 0,.int .i64 0] 54));rw[<-cZ] at Ga⊢;clear cZ;have zJ5:=iZ Ga.o.res;have zIS:=Ga.o.rlo
 go_upto_region 2 with(go_at_call 107;refine(of_any g q n c _ 0 8 8 A _ (Ga.o.alloc _).rd aC aC aC aN aC (zxM (xs:=[⟨#[114,105,110,103]⟩,⟨#[114,105,110,103]⟩,⟨#[114,105,110,103]⟩,⟨#[97,110,115,119,101,114]⟩,⟨#[97,110,115,119,101,114]⟩,⟨#[104,97,110,103]⟩,⟨#[119,97,105,116]⟩,⟨#[114,101,116,117,114,110]⟩]) (gP _ _) rfl)).mono ?_;rintro e w2 ⟨s,rfl,uH,oO⟩;have jI:=aD ((Ga.o.alloc _).grown uH oO);clear uH oO)
 obtain⟨b,hb⟩:=aP w2.heap.size;rw[<-hb];have jG:=aD (jI.o.box #[.string s,.int .i64 0,.int .i64 0] hb);obtain⟨W2,oE⟩:=aP (w2.alloc (.cells #[.string s,.int .i64 0,.int .i64 0] 54));rw[<-oE] at jG⊢;clear oE hb;have ec:=aI jG.o.blk;have fc:=rA jG.o.blk;have zb:=jG.o.zb;have Zy:=jG.o.lo;have mI:=jG.o.rs.rlo
 go_upto_block 0 with fail
 go_cut [] from 10 to 34 (λwx=>∃x y:Int,Aw w g A n c (q+5) rb b 54 #[.string ⟨#[]⟩,.int .i64 0,.int .i64 0] #[.string s,.int .i64 x,.int .i64 y] wx)
 case first=>
  have once:True:=trivial;cases t0:(s.toList==[114,105,110,103])
  .cases t1:(s.toList==[104,97,110,103])
   .cases t2:(s.toList==[119,97,105,116])
    .go_wp2_with (go_at_call 62;refine(Ef g _ n c A _ W2 jG.o.rs.rd aC aC aC).mono ?_;rintro e w3 ⟨r,rfl,⟨r0,r1⟩,jX,lH⟩;have jR:=aD (jG.o.grown jX lH);have ec:=aI jR.o.blk;have fc:=rA jR.o.blk;have zb:=jR.o.zb;clear jX lH)
     go_meet
     exact⟨_,_,(jR.o.set (i:=1) (u:=.int .i64 (1+r)) rfl).wide aC⟩
    .go_wp2_with (go_at_call 88;refine(Sp g _ n c _ 0 5 5 A _ ((jG.o.alloc _).rs.rd) aC aC aC aN aC (Sf (xs:=[1,2,5,3,60]) (gP _ _) rfl)).mono ?_;rintro e w3 ⟨p,rfl,_,jX,lH⟩;have jR:=aD ((jG.o.alloc _).grown jX lH);have ec:=aI jR.o.blk;have fc:=rA jR.o.blk;have zb:=jR.o.zb;clear jX lH)
     go_meet
     exact⟨_,_,(jR.o.set (i:=1) (u:=.int .i64 p) rfl).wide aC⟩
   .go_wp2_with (go_at_call 62;refine(Ef g _ n c A _ W2 jG.o.rs.rd aC aC aC).mono ?_;rintro e w3 ⟨r,rfl,⟨r0,r1⟩,jX,lH⟩;have jR:=aD (jG.o.grown jX lH);have ec:=aI jR.o.blk;have fc:=rA jR.o.blk;have zb:=jR.o.zb;clear jX lH)
    go_meet
    exact⟨_,_,(jR.o.set (i:=1) (u:=.int .i64 (1+r)) rfl).wide aC⟩
  .go_wp2_with (first
    |(clear once;go_at_call 62;refine(Ef g _ n c A _ W2 jG.o.rs.rd aC aC aC).mono ?_;rintro e w3 ⟨r,rfl,⟨r0,r1⟩,jX,lH⟩;have jR:=aD (jG.o.grown jX lH);have ec:=aI jR.o.blk;have fc:=rA jR.o.blk;have zb:=jR.o.zb;clear jX lH;clear ec fc;have wH:=aD (jR.o.set (i:=1) (u:=.int .i64 (1+r)) rfl);have ec:=aI jR.o.blk;have fc:=rA jR.o.blk)
    |(go_at_call 62;refine(Ef g _ n c A _ (w3.setCell ⟨b,1,none⟩ (.int .i64 (1+r))) wH.o.rs.rd aC aC aC).mono ?_;rintro e w4 ⟨r2,rfl,⟨zjj,zl4⟩,jX,lH⟩;have sD:=aD (wH.o.grown jX lH);have ec:=aI sD.o.blk;have fc:=rA sD.o.blk;have zb:=sD.o.zb;clear jX lH))
   go_meet
   exact⟨_,_,(sD.o.set (i:=2) (u:=.int .i64 r2) rfl).wide aC⟩
 case rest=>
  obtain⟨x,y,aY⟩:=hcut;have lN:=aD aY;clear aY ec fc zb;obtain⟨W5,x5⟩:=aP wc;rw[<-x5] at lN⊢;clear x5
  go_upto_block 1 with(go_at_call 62;refine(Ef g _ n c A _ W5 lN.o.rs.rd aC aC aC).mono ?_;rintro e w6 ⟨r,rfl,⟨r0,r1⟩,jX,lH⟩;have kQ:=aD (lN.o.grown jX lH);have ec:=aI kQ.o.blk;have fc:=rA kQ.o.blk;have zb:=kQ.o.zb;clear jX lH)
  go_cut [] from 37 to 54 (λwx=>∃(s:ByteArray) (x y:Int),Aw w g A n c (q+7) rb b 54 #[.string ⟨#[]⟩,.int .i64 0,.int .i64 0] #[.string s,.int .i64 x,.int .i64 y] wx)
  case first=>
   by_cases e0:r=0
   .subst e0
    go_wp2_with (go_at_call 88;refine(Sp g _ n c _ 0 5 5 A _ ((kQ.o.alloc _).rs.rd) aC aC aC aN aC (Sf (xs:=[0,100,-1,61,5]) (gP _ _) rfl)).mono ?_;rintro e w7 ⟨p,rfl,_,jX,lH⟩;have Ed:=aD ((kQ.o.alloc _).grown jX lH);have ec:=aI Ed.o.blk;have fc:=rA Ed.o.blk;have zb:=Ed.o.zb;clear jX lH)
    go_meet
    exact⟨_,_,_,(Ed.o.set (i:=1) (u:=.int .i64 p) rfl).wide aC⟩
   by_cases e1:r=1
   .subst e1
    go_wp2_with (go_at_call 88;refine(Sp g _ n c _ 0 3 3 A _ ((kQ.o.alloc _).rs.rd) aC aC aC aN aC (Sf (xs:=[1,10,-1]) (gP _ _) rfl)).mono ?_;rintro e w7 ⟨p,rfl,_,jX,lH⟩;have Ed:=aD ((kQ.o.alloc _).grown jX lH);have ec:=aI Ed.o.blk;have fc:=rA Ed.o.blk;have zb:=Ed.o.zb;clear jX lH)
    go_meet
    exact⟨_,_,_,(Ed.o.set (i:=2) (u:=.int .i64 p) rfl).wide aC⟩
   by_cases e2:r=2
   .subst e2
    go_wp2_with (go_at_call 107;refine(of_any g _ n c _ 0 3 3 A _ (kQ.o.alloc _).rs.rd aC aC aC aN aC (zxM (xs:=[⟨#[]⟩,⟨#[114,105,110,103,115]⟩,⟨#[112,117,116]⟩]) (gP _ _) rfl)).mono ?_;rintro e w7 ⟨s',rfl,uH,oO⟩;have Ed:=aD ((kQ.o.alloc _).grown uH oO);have ec:=aI Ed.o.blk;have fc:=rA Ed.o.blk;have zb:=Ed.o.zb;clear uH oO)
    go_meet
    exact⟨_,_,_,(Ed.o.set (i:=0) (u:=.string s') rfl).wide aC⟩
   have Zp:(r==0)=false:=by simpa using e0
   have C8:(r==1)=false:=by simpa using e1
   have zdk:(r==2)=false:=by simpa using e2
   clear e0 e1 e2;go_wp2
   go_meet
   exact⟨_,_,_,kQ.o.wide aC⟩
  case rest=>
   obtain⟨s8,x8,y8,aY⟩:=hcut;clear ec fc zb;obtain⟨W8,zoD⟩:=aP wc;rw[<-zoD] at aY⊢;clear zoD;have Fx:=aD aY;clear aY;have ec:=aI Fx.o.blk;have fc:=rA Fx.o.blk;have er:=aI Fx.o.rs.res;have fr:=rA Fx.o.rs.res;have zb:=Fx.o.zb;have zr:=iZ Fx.o.rs.res;have Zy:=Fx.o.lo;have aU:¬b=rb:=aC;have zcE:¬rb=b:=aC;have mI:=Fx.o.rs.rlo;go_wp2;refine nM (v:=.agg #[.string s8,.int .i64 x8,.int .i64 y8]) ?_ rfl ⟨_,_,_,rfl,eV.end1 (eV.end1 (eV.end1 (eV.end0 Fx.o.rs aC) lM mI) lM mI) lM mI⟩;simp[results,Tryz.results89,go_sem,er]
def zFt:(aK.info? 54).map (λi=>(i.zero,i.size,i.bytes))=some (some (.agg #[.string ⟨#[]⟩,.int .i64 0,.int .i64 0]),3,32):=aT
structure yR (w0:aE)(g:Nat)(A:Option bC)(n c q:Nat)(v:aF)(k:Nat)(xs:List aF)(b:Nat)(s:ByteArray)(x y:Int)(W:aE):Prop where
 st:qG w0 g A n c q 54 3 v k xs W
 blk:W.heap[b]? =some (.cells #[.string s,.int .i64 x,.int .i64 y] 54)
 lt:∀b',v.ownBlock=some b'->b'<b
 lo:w0.heap.size<=b
section
variable {w0:aE}{g:Nat}{A:Option bC}{n c q:Nat}{v:aF}{k:Nat}{xs:List aF}{b:Nat}{s:ByteArray}{x y:Int}{W W':aE}
def yR.below (h:yR w0 g A n c q v k xs b s x y W)(hb:cF W.heap.size W W'):yR w0 g A n c q v k xs b s x y W':=⟨h.st.below hb,(mP hb h.blk).1,h.lt,h.lo⟩
theorem yR.grown {q':Nat}(h:yR w0 g A n c q v k xs b s x y W)(hr:Rd W' g A n c q')(hg:W.grownBy W' (some g)):yR w0 g A n c q' v k xs b s x y W':=
 ⟨h.st.grown hr hg,(zeM hg h.blk (by have:=h.st.hg;have:=h.lo;omega)).1,h.lt,h.lo⟩
def yR.wide {q':Nat}(h:yR w0 g A n c q v k xs b s x y W)(hq:q<=q'):yR w0 g A n c q' v k xs b s x y W:=⟨h.st.wide hq,h.blk,h.lt,h.lo⟩
theorem yR.set {i:Nat}{u:aF}{s':ByteArray}{x' y':Int}(h:yR w0 g A n c q v k xs b s x y W)(e:(#[zsB s,.int .i64 x,.int .i64 y]:Array aF).setIfInBounds i u=#[.string s',.int .i64 x',.int .i64 y']):yR w0 g A n c q v k xs b s' x' y' (W.setCell ⟨b,i,none⟩ u):=
 ⟨h.st.aside (zaN ⟨b,i,none⟩ u) (by
  cases e2:v.ownBlock with
  |none=>exact .inl rfl
  |some b'=>right;intro e3;injection e3 with e3;have:=h.lt b' e2;simp at e3;omega) (λb' e2=>by injection e2 with e2;simp at e2;have:=h.lo;omega),
  by rw[oH h.blk,e],h.lt,h.lo⟩
def yR.zb (h:yR w0 g A n c q v k xs b s x y W):b<W.heap.size:=iZ h.blk
def yR.make (h:qG w0 g A n c q 54 3 v k xs W)(s:ByteArray)(x y:Int):yR w0 g A n c q v k xs W.heap.size s x y (W.alloc (.cells #[.string s,.int .i64 x,.int .i64 y] 54)):=
 ⟨h.alloc _,gP _ _,λb' e=>(h.own.lt b' e).2,h.hb⟩
end
theorem zEY (es:List dI)(s:ByteArray)(x y:Int):qW (es++[⟨s,x,y⟩])=qW es++[.string s,.int .i64 x,.int .i64 y]:=by simp[qW,dI.cells]
def zrT (w:aE)(g:Nat)(A:Option bC)(n c q:Nat)(e:G3)(w':aE):Prop:=
 ∃(A':Option bC) (n' c':Nat) (es:List dI),e=.returned (.slice A' n' c')/\Bj 54 3 w' w.heap.size w'.heap.size A' n' c' (qW es)/\n'<=20/\Rd w' g A n c q/\w.grownBy w' (some g)
variable {v:aF}{es:List dI}
theorem zFE {q q':Nat}(h:qG w g A n c q 54 3 v k (qW es) W)(hk:k<=20)(hq:q<=q'):zrT w g A n c q' (.returned v) W:=by
 obtain⟨A1,c1,rfl,ho⟩:=zeV h.own aH;exact⟨A1,k,c1,es,rfl,ho,hk,h.rd.mono hq,h.gr⟩
theorem zEu (g q n c:Nat)(A:Option bC)(w:aE)(h:Rd w g A n c q)(hq:q<800000000):
 gH aK 61 #[.pointer (some ⟨g,0,none⟩)] w (zrT w g A n c (q+200)):=by
 obtain⟨i0,hi,fG,dB,gQ⟩:=info_parts zFt;have HI:=aD (And.intro hi (And.intro fG (And.intro dB gQ)));clear hi fG dB gQ;have D1:=qG.init 54 3 h;have gb:=D1.hg;clear h
 go_enter Tryz.func61,Tryz.ntmps61
 go_wp2_with fail
 refine(Ef g _ n c A _ _ D1.rd aC aC aC).mono ?_;rintro e w2 ⟨r,rfl,⟨r0,r5⟩,hr,hg⟩;have D2:=(D1.grown hr hg).wide (q':=q+194-12*r.toNat) aC;clear D1 hr hg;obtain⟨R,rfl⟩:=Int.eq_ofNat_of_zero_le r0;have Ya:=aD D2;clear D2;go_wp2
 go_loopw [3,4] (λv i wr=>∃(m k:Nat) (es:List dI),i=.int .i64 m/\m+k<=15/\es.length=k/\qG w g A n c (q+194-12*m) 54 3 v k (qW es) wr) (λ_ i _=>(intOf i).toNat)
 case atStart=>exact⟨R,0,[],rfl,aC,rfl,Ya.o⟩
 case round=>
  obtain⟨m,k,es,rfl,zek,eK,D⟩:=hrel;have HX:=aD eK;clear eK;obtain⟨V,hV⟩:=aP u3;by_cases aS:0<m
  .have z4:=D.hb
   have HD:=aD D;clear D
   go_upto_region 6 with(go_at_call 89;refine(zEK g (q+194-12*m) n c A _ HD.o.rd aC).mono ?_;rintro e w3 ⟨s,x,y,rfl,hr,hg⟩;have Yi:=aD (yR.make (HD.o.grown hr hg) s x y);have zLs:=Yi.o.zb;have ec:=aI Yi.o.blk;clear hr hg)
   go_cut [22] from 9 to 30 (λv wx=>∃t:Bool,v=.bool t/\yR w g A n c (q+194-12*m+11) u3 k (qW es) w3.heap.size s x y wx)
   case first=>
    obtain⟨t,ht⟩:=aP (q9 2 ⟨s,x,y⟩);have HT:=aD ht;clear ht;cases t
    .go_wp2_with (first
      |(go_at_call 50;refine(zlz ⟨s,x,y⟩ 2 _).mono ?_;rintro e w4 ⟨rfl,b4⟩;rw[<-HT.o];have zfI:=aD (Yi.o.below b4);clear b4)
      |(go_at_call 62;refine(Ef g (q+194-12*m+10) n c A _ _ zfI.o.st.rd aC aC aC).mono ?_;rintro e w5 ⟨r2,rfl,⟨zjj,zl4⟩,uH,oO⟩;have zzX:=aD (zfI.o.grown uH oO);clear uH oO))
     all_goals
      go_meet
      exact⟨_,rfl,zzX.o⟩
    .go_wp2_with (go_at_call 50;refine(zlz ⟨s,x,y⟩ 2 _).mono ?_;rintro e w4 ⟨rfl,b4⟩;rw[<-HT.o];have zfI:=aD (Yi.o.below b4);clear b4)
     go_meet
     exact⟨_,rfl,zfI.o.wide aC⟩
   case rest=>
    obtain⟨t,rfl,D6⟩:=hcut;have Vr:=aD D6;clear D6
    go_upto_if 22 with fail
    go_cut [] from 23 to 30 (λwx=>∃(s':ByteArray) (x' y':Int),yR w g A n c (q+194-12*m+12) u3 k (qW es) w3.heap.size s' x' y' wx)
    case first=>
     have ec:=aI Vr.o.blk;have fc:=rA Vr.o.blk;have zb:=Vr.o.zb;cases t
     .go_wp2
      go_meet
      exact⟨s,x,y,Vr.o.wide aC⟩
     .go_wp2_with (go_at_call 62;refine(Ef g (q+194-12*m+11) n c A _ _ Vr.o.st.rd aC aC aC).mono ?_;rintro e w5 ⟨r2,rfl,⟨zjj,zl4⟩,uH,oO⟩;have Uw:=aD (Vr.o.grown uH oO);have ec:=aI Uw.o.blk;have fc:=rA Uw.o.blk;have zb:=Uw.o.zb;clear uH oO)
      go_meet
      exact⟨_,_,_,((Uw.o.set (i:=0) (u:=.string ⟨#[114,105,110,103]⟩) (s':=⟨#[114,105,110,103]⟩) (x':=x) (y':=y) rfl).set (i:=1) (u:=.int .i64 (1+r2)) (s':=⟨#[114,105,110,103]⟩) (x':=1+r2) (y':=y) rfl).set (i:=2) (u:=.int .i64 0) (s':=⟨#[114,105,110,103]⟩) (x':=1+r2) (y':=0) rfl⟩
    case rest=>
     obtain⟨s',x',y',D7⟩:=hcut;have ec:=aI D7.blk;have zb:=D7.zb;have zw:=D7.st.hb;have Uw:=aD D7;obtain⟨hi,fG,dB,gQ⟩:=HI.o;have HH:=aD hi;clear hi D7
     go_wp2_with (at_builtin;refine wpList_append_own_at _ rfl _ _ 31 rfl w.heap.size 54 i0 (.agg #[.string ⟨#[]⟩,.int .i64 0,.int .i64 0]) 3 32 Tryz.underlying31 HH.o fG dB gQ rfl aH _ _ _ rfl ((Uw.o.st.alloc _).own) ⟨wc.heap.size,0,none⟩ 1 1 [.string s',.int .i64 x',.int .i64 y'] rfl rfl (Dn (cs:=#[.string s',.int .i64 x',.int .i64 y']) (gP _ _)) (by simp[aF.oneCell']) Zi aC oX ?_;intro v' w6 ztK mL _ _)
     have D8:=((Uw.o.st.alloc _).app ztK mL).wide (q':=q+194-12*(m-1)) aC;have zBm:=aD D8;clear D8 ztK mL fG dB gQ;go_wp2;go_roundw
     case rel=>exact⟨m-1,k+1,es++[⟨s',x',y'⟩],int_pred aS,aC,by simp[HX.o],by rw[zEY];exact zBm.o⟩
     case measure=>simp[intOf];omega
  .have em:m=0:=aC
   subst em;have HD:=aD D;clear D;go_wp2;go_ret;exact zFE HD.o aC aC
def zFZ {B:Nat}(h:cF B w W)(o:Obj)(hB:B<=W.heap.size):cF B w (W.alloc o):=h.trans ((eT (fW W.heap.size W) o).mono hB)
theorem zz3 (lo hi n c:Nat)(A:Option bC)(xs:List bE)(w:aE)(h:cG w lo hi 2 A n c (bH xs))(hn:n<=100000):
 gH aK 46 #[.slice A n c] w λe w'=>∃g cl,e=.returned (.slice (some ⟨g,0,none⟩) n cl)/\w'.ownsRow w.heap.size 3 1 (.slice (some ⟨g,0,none⟩) n cl) n (fF (xs.map bE.c))/\cF w.heap.size w w':=by
 have hl:=aD h.callsLen;obtain⟨i0,eR,fG,dB,gQ⟩:=info_parts Vs;have HI:=aD (And.intro eR (And.intro fG (And.intro dB gQ)));clear eR fG dB gQ
 go_enter Tryz.func46,Tryz.ntmps46
 go_wp2
 go_loopw [3,4] (λv i wr=>∃(k g cl:Nat),k<=n/\i=.int .i64 k/\v=.slice (some ⟨g,0,none⟩) k cl/\cF w.heap.size w wr/\wr.ownsRow w.heap.size 3 1 (.slice (some ⟨g,0,none⟩) k cl) k (fF ((xs.take k).map bE.c))) (λ_ i _=>n-(intOf i).toNat)
 case atStart=>exact⟨0,w.heap.size,0,lP _,rfl,rfl,eT (fW _ _) _,Oh (bF _) (gP _ _)⟩
 case round=>
  obtain⟨k,g,cl,hk,rfl,rfl,B,cT⟩:=hrel;have Le:=aD cT;have HB:=aD B;have zyf:=B.size;clear cT;by_cases aS:k<n
  .obtain⟨b,off,d,hA,_,_,h3,eK,gI,pA⟩:=(h.below B).callsAt aS
   subst hA;have HX:=aD eK;clear eK h h3 B;have zo0:(0:Int)<=(k:Int):=aC;have i1:(k:Int)<(n:Int):=aC;obtain⟨eR,fG,dB,gQ⟩:=HI.o;have HH:=aD eR;clear eR
   go_wp2_with (at_builtin;refine zm8 _ rfl (.tmp 12) (.tmp 18) 38 rfl w.heap.size 3 i0 (.int .i64 0) 1 8 Tryz.underlying38 HH.o fG dB gQ rfl aH (.slice (some ⟨g,0,none⟩) k cl) k (fF ((xs.take k).map bE.c)) rfl (Al Le.o ?c1) aN ⟨_,0,none⟩ 1 1 [.int .i64 d.c] rfl rfl ?c2 Mp ?c5 ?c6 ?c7 ?_;(case c1=>exact λb hb=>qE _ _ b hb);(case c2=>exact Dn (cs:=#[.int .i64 d.c]) (lZ _ _ aN));(case c5=>unfold maxLen;omega);(case c6=>omega);(case c7=>(simp;omega));intro g1 c1 w1 rD qR B1;have An:=aD rD;have jG:=aD B1;clear rD qR B1)
   go_roundw
   case rel=>
    refine⟨k+1,g1,c1,aC,oL,rfl,(eT HB.o _).trans jG.o,?_⟩;obtain⟨zcr,he⟩:=kP.1 HX.o;rw[List.take_succ_eq_append_getElem zcr,he,List.map_append];have e:fF ((xs.take k).map bE.c++[d].map bE.c)=fF ((xs.take k).map bE.c)++[.int .i64 d.c]:=by simp[fF]
    rw[e];exact An.o
   case measure=>simp[intOf];omega
  .have e:k=n:=aC
   subst e;have HT:=aD (show xs.take k=xs by rw[zP zab]);clear h B;go_wp2;go_ret;have:=Le.o;rw[HT.o] at this;exact⟨g,cl,rfl,this,HB.o⟩
theorem zzk (o:fQ)(lo hi n c:Nat)(A:Option bC)(es:List dI)(w:aE)(h:cG w lo hi 3 A n c (qW es))(hn:n<=1048576)(zmV:hi<=w.heap.size):
 gH aK 25 #[.agg #[.int .i64 o.ln,.int .i64 o.op,.int .i64 o.pt],.slice A n c] w λx w'=>∃g cl,x=.returned (.slice (some ⟨g,0,none⟩) (oP o es).back.length cl)/\
  w'.ownsRow w.heap.size 3 1 (.slice (some ⟨g,0,none⟩) (oP o es).back.length cl) (oP o es).back.length (fF ((oP o es).back.map bE.c))/\cF w.heap.size w w':=by
 obtain⟨O,hO⟩:=aP (.cells #[.int .i64 o.ln,.int .i64 o.op,.int .i64 o.pt] 29:Obj);have jG:=aD (eT (fW w.heap.size w) O);have mK:=aD (h.below jG.o);have HO:=aD hO;have hz:(w.alloc O).heap.size=w.heap.size+1:=aN;have HZ:=aD hz;clear h hz hO
 go_enter Tryz.func25,Tryz.ntmps25
 go_upto_region 1 with fail
 rw[<-HO.o];obtain⟨W1,cZ⟩:=aP (w.alloc O);have hk:=gP w O;rw[<-cZ] at jG mK HZ hk⊢;rw[HO.o] at hk;have q:=aI hk;obtain⟨q0,q1,q2⟩:=zwO q;clear cZ hk q
 go_upto_region 2 with(go_at_call 40;refine(zAu o lo hi n c A es W1 mK.o hn (by have:=HZ.o;omega)).mono ?_;rintro x w2 ⟨v,rfl,bS,rL⟩;obtain⟨r5,eP⟩:=aP (oP o es:bY);obtain⟨t5,pG⟩:=aP (eM o es:Bool);rw[<-eP] at bS⊢;rw[<-pG];have o6:=aD eP;have Ec:=aD pG;have wS:=aD bS;have jR:=aD rL;clear eP pG bS rL)
 have uX:r5.back.length<=100000:=by
  rw[o6.o];unfold oP;split
  .next hk=>
   have Yy:es.length<=60:=by
    have h:=hk;unfold eM at h;simp at h;exact h.1.2
   have:=(Ih hk es.length (bF _)).2.1.nb;rw[Qx] at this;omega
  .simp[lR]
 have J2:=aD uX;clear uX
 go_wp2_with ((go_at_call 46;refine(zz3 _ _ _ _ _ r5.back _ (zY (wS.o.alloc _).bk aH) J2.o).mono ?_;rintro x w4 ⟨g,cl,rfl,ho,Jt⟩;have Nx:=aD ho;have sD:=aD Jt;clear ho Jt))
 go_ret;have hz:=HZ.o;have s2:=jR.o.size;refine⟨g,cl,?_,?_,?_⟩
 .rw[<-o6.o];rfl
 .rw[<-o6.o]
  exact zfC Nx.o oX
 .exact jG.o.trans ((zFZ (jR.o.mono aC) _ aC).trans (sD.o.mono oX))
theorem zrp {o:fQ}(h:eM o es=true):es.length<=60:=by
 unfold eM at h;simp at h;exact h.1.2
theorem zHr (o:fQ)(es:List dI):(Ew o es).length<=60:=by
 unfold Ew oP;split
 .next h=>
  have:=(Ih h es.length (bF _)).2.1.nl;rw[Qx] at this;have:=zrp h;omega
 .simp[lR]
theorem ztD (o:fQ)(es:List dI):(B7 o es).length<=3600:=by
 unfold B7 oP;rw[zeT];split
 .next h=>
  have:=(Ih h es.length (bF _)).2.1.nb;rw[Qx] at this;have:=zrp h;omega
 .simp[lR]
variable {xs:List aF}{lo E s:Nat}
theorem ze8 (h:w.ownsRow lo E s v n xs)(hs:0<s)(hl:n<=1048576):∃A m c,v=.slice A m c/\m<=1048576/\Bj E s w lo w.heap.size A m c xs:=by
 obtain⟨A,c,e,o⟩:=zeV h hs;exact⟨A,n,c,e,hl,o⟩
def logs_len (o:fQ)(es:List dI):(Ew o es).length<=1048576:=eH (zHr o es) aC
variable {hi:Nat}
theorem zqS (o:fQ)(h:cG w lo hi 3 A n c (qW es))(hn:n<=1048576)(zmV:hi<=w.heap.size):
 gH aK 25 #[.agg #[.int .i64 o.ln,.int .i64 o.op,.int .i64 o.pt],.slice A n c] w λx w'=>∃A n c,x=.returned (.slice A n c)/\n<=1048576/\Bj 3 1 w' w.heap.size w'.heap.size A n c (fF (B7 o es))/\cF w.heap.size w w':=by
 refine(zzk o lo hi n c A es w h hn zmV).mono ?_;rintro x w' ⟨g,c',rfl,hr,hb⟩;have hl:(oP o es).back.length<=1048576:=by have:=ztD o es;unfold B7 at this;rw[zeT] at this;omega
 obtain⟨A',m,c2,e,l,ow⟩:=ze8 hr aH hl;injection e with e1 e2 e3;subst e1 e2 e3;exact⟨_,_,_,rfl,l,ow,hb⟩
def E0 {rb i:Nat}{u:aF}(h:Bj E s W lo hi A n c xs)(hb:rb<lo):Bj E s (W.setCell ⟨rb,i,none⟩ u) lo hi A n c xs:=
 h.keep aN (λx h1 _ _=>dU W _ _ x sU)
def ownV_gb {w':aE}(h:Bj E s w lo hi A n c xs)(hg:w.grownBy w' (some g))(eF:g<lo):Bj E s w' lo hi A n c xs:=
 h.keep hg.size λb h1 _ h3=>hg.block b h3 oX
def GotBoth6 (w:aE)(g:Nat)(A:Option bC)(n c q:Nat)(e:G3)(w':aE):Prop:=
 ∃(x y z:Int) (A2:Option bC) (n2 c2:Nat) (es:List dI),e=.returned (.tuple #[.agg #[.int .i64 x,.int .i64 y,.int .i64 z],.slice A2 n2 c2])/\Bj 54 3 w' w.heap.size w'.heap.size A2 n2 c2 (qW es)/\n2<=20/\Rd w' g A n c q/\w.grownBy w' (some g)
theorem zCT (g q n c:Nat)(A:Option bC)(w:aE)(h:Rd w g A n c q)(hq:q<700000000):
 gH aK 47 #[.pointer (some ⟨g,0,none⟩)] w (GotBoth6 w g A n c (q+230)):=by
 have lM:=h.gblt;obtain⟨rb,tY⟩:=aP w.heap.size;have mF:=aD tY;have Ga:=aD (show eV w g A n c q rb 29 #[.int .i64 0,.int .i64 0,.int .i64 0] (w.alloc (.cells #[.int .i64 0,.int .i64 0,.int .i64 0] 29)) from⟨h.alloc _,Zt (zhu _ _) _,lM,lZ _ _ tY,aC⟩);clear h
 go_enter Tryz.func47,Tryz.ntmps47
 go_upto_region 1 with fail
 rw[<-tY];clear tY;obtain⟨W1,cZ⟩:=aP (w.alloc (.cells #[.int .i64 0,.int .i64 0,.int .i64 0] 29));rw[<-cZ] at Ga⊢;clear cZ
 go_upto_region 2 with(go_at_call 60;refine(zBW g q n c A W1 Ga.o.rd aC).mono ?_;rintro e w2 ⟨x,y,z,rfl,uH,oO⟩;have jI:=aD (Ga.o.grown uH oO);clear uH oO)
 obtain⟨b,hb⟩:=aP w2.heap.size;rw[<-hb];have jG:=aD (jI.o.box #[.int .i64 x,.int .i64 y,.int .i64 z] hb);obtain⟨W2,oE⟩:=aP (w2.alloc (.cells #[.int .i64 x,.int .i64 y,.int .i64 z] 29));rw[<-oE] at jG⊢;have Gj:rb<W2.heap.size:=iZ jG.o.rs.res;have ziE:b<W2.heap.size:=jG.o.zb;have zgG:g<W2.heap.size:=by have:=jG.o.rs.gr.size;omega
 clear oE hb
 go_upto_region 3 with(go_at_call 61;refine(zEu g (q+10) n c A W2 jG.o.rs.rd aC).mono ?_;rintro e w3 ⟨A2,n2,c2,es,rfl,zui,ziW,Fj,zU⟩;have wH:=aD (jG.o.grown Fj zU);have Yw:=aD zui;have zd4:=zU.size;clear zui Fj zU)
 have ec:=aI wH.o.blk;have fc:=rA wH.o.blk;have er:=aI wH.o.rs.res;have fr:=rA wH.o.rs.res;have zb:=wH.o.zb;have zr:=iZ wH.o.rs.res;have Zy:=wH.o.lo;have aU:¬b=rb:=aC;have zcE:¬rb=b:=aC;have mI:=wH.o.rs.rlo;cases hy:(y==1)
 .go_wp2
  refine nM (v:=.tuple #[.agg #[.int .i64 x,.int .i64 y,.int .i64 z],.slice A2 n2 c2]) ?_ rfl ?_
  .simp[results,zlb,go_sem,er]
  .exact⟨x,y,z,A2,n2,c2,es,rfl,(E0 (E0 (E0 Yw.o Gj) Gj) Gj).wide aC (by simp;try omega),ziW,(eV.end1 (eV.end1 (eV.end1 (eV.end0 (q':=q+230) wH.o.rs aC) lM mI) lM mI) lM mI).1,(eV.end1 (eV.end1 (eV.end1 (eV.end0 (q':=q+230) wH.o.rs aC) lM mI) lM mI) lM mI).2⟩
 .go_wp2_with (go_at_call 62;refine(Ef g _ n c A _ w3 wH.o.rs.rd aC aC aC).mono ?_;rintro e w4 ⟨r,rfl,⟨r0,r1⟩,M5,Hq⟩;have sD:=aD (wH.o.grown M5 Hq);have Nx:=aD (ownV_gb Yw.o Hq zgG);have zLe:=Hq.size;have ec:=aI sD.o.blk;have fc:=rA sD.o.blk;have er:=aI sD.o.rs.res;have fr:=rA sD.o.rs.res;have zb:=sD.o.zb;have zr:=iZ sD.o.rs.res;clear M5 Hq)
  .
    refine nM (v:=.tuple #[.agg #[.int .i64 x,.int .i64 2,.int .i64 z],.slice A2 n2 c2]) ?_ rfl ?_
    .simp[results,zlb,go_sem,er]
    .exact⟨x,2,z,A2,n2,c2,es,rfl,(E0 (E0 (E0 (E0 (i:=1) (u:=.int .i64 2) Nx.o ziE) Gj) Gj) Gj).wide aC (by simp;try omega),ziW,(eV.end1 (eV.end1 (eV.end1 (eV.end0 (q':=q+230) (sD.o.set (i:=1) (u:=.int .i64 2) rfl).rs aC) lM mI) lM mI) lM mI).1,(eV.end1 (eV.end1 (eV.end1 (eV.end0 (q':=q+230) (sD.o.set (i:=1) (u:=.int .i64 2) rfl).rs aC) lM mI) lM mI) lM mI).2⟩
  .
    refine nM (v:=.tuple #[.agg #[.int .i64 x,.int .i64 y,.int .i64 z],.slice A2 n2 c2]) ?_ rfl ?_
    .simp[results,zlb,go_sem,er]
    .exact⟨x,y,z,A2,n2,c2,es,rfl,(E0 (E0 (E0 Nx.o Gj) Gj) Gj).wide aC (by simp;try omega),ziW,(eV.end1 (eV.end1 (eV.end1 (eV.end0 (q':=q+230) sD.o.rs aC) lM mI) lM mI) lM mI).1,(eV.end1 (eV.end1 (eV.end1 (eV.end0 (q':=q+230) sD.o.rs aC) lM mI) lM mI) lM mI).2⟩
def DrewOff (w:aE)(e:G3)(w':aE):Prop:=
 ∃(o:fQ) (A2:Option bC) (n2 c2:Nat) (es:List dI),e=.returned (.tuple #[.agg #[.int .i64 o.ln,.int .i64 o.op,.int .i64 o.pt],.slice A2 n2 c2])/\Bj 54 3 w' w.heap.size w'.heap.size A2 n2 c2 (qW es)/\n2<=20/\cF w.heap.size w w'
theorem zAs (A:Option bC)(n c:Nat)(w:aE)(h:Code w A n c):gH aK 38 #[.slice A n c] w (DrewOff w):=by
 obtain⟨O,hO⟩:=aP (.cells #[.int .i64 0,.int .i64 0,.int .i64 0] 29:Obj);obtain⟨rb,tY⟩:=aP w.heap.size;have mF:=aD tY;have HO:=aD hO;have yU:=aD (lZ w O tY);have Py:=aD (eT (fW w.heap.size w) O);have fG:(w.alloc O).heap.size=rb+1:=by rw[tY];simp
 have zpY:=aD (h.alloc O);obtain⟨W0,H3⟩:=aP (w.alloc O);have zcA:=aD H3;rw[<-H3] at yU Py fG zpY;have zqk:=aD fG;clear h H3 fG hO
 go_enter Tryz.func38,Tryz.ntmps38
 go_upto_region 1 with fail
 rw[<-tY,<-HO.o,<-zcA.o];clear tY
 go_wp2_with (first
  |(go_at_call 48;refine(zyR _ _ _ W0 zpY.o).mono ?_;rintro e w1 ⟨g,A1,n1,c1,rfl,r1,b1,g0⟩;have jI:=aD r1;have jG:=aD b1;have q8:=aD g0;clear r1 b1 g0)
  |(go_at_call 47;refine(zCT g 0 n1 c1 A1 w1 jI.o aC).mono ?_;rintro e w2 ⟨x,y,z,A2,n2,c2,es,rfl,o2,O3,r2,g2⟩;have qO:=(zeM g2 (mP jG.o yU.o).1 (by have:=q8.o;have:=zqk.o;omega)).1;rw[HO.o] at qO;have zaH:=aD o2;have zzH:=aD g2;have znl:=aD qO;have er:=aI qO;have fr:=rA qO;have zr:=iZ qO;clear o2 r2 g2 qO))
 refine nM (v:=.tuple #[.agg #[.int .i64 x,.int .i64 y,.int .i64 z],.slice A2 n2 c2]) ?_ rfl ?_
 .simp[results,Tryz.results38,go_sem,er]
 .have hw:=mF.o
  have fG:=zqk.o;have dB:=jG.o.size;have qN:=q8.o;have h1:=Py.o.trans (jG.o.mono aC);have h2:=h1.trans (zCt zzH.o aC aC);have h3:Chg rb (rb+1) w2 _:=((((Chg.refl rb (rb+1) w2).setCell (p:=⟨rb,0,none⟩) (bF _) (yO _) (.int .i64 x)).setCell (p:=⟨rb,1,none⟩) (bF _) (yO _) (.int .i64 y)).setCell (p:=⟨rb,2,none⟩) (bF _) (yO _) (.int .i64 z));have Gj:rb<w1.heap.size:=aC;exact⟨⟨x,y,z⟩,A2,n2,c2,es,rfl,(E0 (E0 (E0 zaH.o Gj) Gj) Gj).wide aC aN,O3,h2.trans ⟨h3.os,h3.tape,h3.output,h3.size,λB hB=>h3.block B aC aC⟩⟩
theorem zDi (lo hi n c xR lU n' c':Nat)(A A':Option bC)(xs ys:List Int)(w:aE)(h:cG w lo hi 1 A n c (fF xs))(h':cG w xR lU 1 A' n' c' (fF ys))(hn:n<=1048576)(vL:n'<=1048576):
 gH aK 37 #[.slice A n c,.slice A' n' c'] w (SaysB w (xs==ys)):=by
 have hl:=aD h.length;have Ar:=aD h'.length
 go_enter Tryz.func37,Tryz.ntmps37
 go_wp2
 go_loopw [5] (λi wr=>∃k:Nat,k<=n/\k<=n'/\i=.int .i64 k/\(∃m,wr=w.drewN m)/\∀j,j<k->xs[j]? =ys[j]?) (λi _=>n-(intOf i).toNat)
 case atStart=>exact⟨0,lP _,lP _,rfl,⟨0,rfl⟩,λj hj=>absurd hj aC⟩
 case round=>
  obtain⟨k,hk,cU,rfl,⟨m,rfl⟩,gS⟩:=hrel;have HC:=aD gS;clear gS;by_cases aS:k<n
  .by_cases zh6:k<n'
   .obtain⟨b,off,v,rfl,_,_,h3,eK,hv⟩:=h.cellAt aS
    obtain⟨b',zoV,v',rfl,_,_,zmI,Hs,L9⟩:=h'.cellAt zh6;have HX:=aD eK;have zow:=aD Hs;clear eK Hs h h';have i0:(0:Int)<=(k:Int):=aC;have i1:(k:Int)<(n:Int):=aC;have i2:(k:Int)<(n':Int):=aC;by_cases qS:v=v'
    .have hb:(v !=v')=false:=by simp[qS]
     have HV:=aD qS;clear qS;go_wp2
     go_quiet (fail)
     go_wp2;go_roundw
     case rel=>exact⟨k+1,aC,aC,oL,⟨_,rfl⟩,λj hj=>by
      by_cases e:j=k
      .subst e;rw[HX.o,zow.o,HV.o]
      .exact HC.o j aC⟩
     case measure=>simp[intOf];omega
    .have hb:(v !=v')=true:=by simp[qS]
     have HV:=aD qS;clear qS;go_wp2
     go_quiet (fail)
     go_wp2;go_ret;exact⟨Lx (zBZ HX.o zow.o HV.o).symm,_,by first|rfl|exact zsC _ _ _⟩
   .have HN:=aD (show(xs==ys)=false by
     rw[beq_eq_false_iff_ne];intro e;have:=congrArg zrG e;rw[hl.o,Ar.o] at this;omega)
    have hq:((n:Int)==(n':Int))=false:=by rw[beq_eq_false_iff_ne];omega
    clear h h';go_wp2;go_ret;exact⟨Lx HN.o.symm,_,rfl⟩
  .have e:k=n:=aC
   have HE:=aD e;clear e h h';by_cases hq:n=n'
   .have N1:((n:Int)==(n':Int))=true:=by rw[beq_iff_eq];omega
    have HQ:=aD hq;clear hq;go_wp2;go_ret;exact⟨Lx (zCk (by rw[hl.o,Ar.o,HQ.o]) (by rw[hl.o,<-HE.o];exact HC.o)).symm,_,rfl⟩
   .have N1:((n:Int)==(n':Int))=false:=by rw[beq_eq_false_iff_ne];omega
    have HN:=aD (show(xs==ys)=false by
     rw[beq_eq_false_iff_ne];intro e;have:=congrArg zrG e;rw[hl.o,Ar.o] at this;omega)
    clear hq;go_wp2;go_ret;exact⟨Lx HN.o.symm,_,rfl⟩
open Go.RowKit
end Go.Proofs.YtfcjiloojkjaeaaGreatDoor
namespace Go.Mt
open Go.RowKit Go.Conc Go.Tt
end Go.Mt
namespace Go.Proofs.YtfcjiloojkjaeaaGreatDoor
open Go.RowKit Go.Mt Go.Conc Go.Tt
structure RfC where
 o:fQ
 es:List dI
 g:Nat
 A:Option bC
 n:Nat
 c:Nat
abbrev offO (o:fQ):Obj:=.cells #[.int .i64 o.ln,.int .i64 o.op,.int .i64 o.pt] 29
structure Lb (c:RfC)(w:aE):Prop where
 k:w.heap[c.g]? =some (offO c.o)
 e:cG w 0 w.heap.size 3 c.A c.n c.c (qW c.es)
 t:qC w
 u:xF w
 n20:c.n<=20
section
variable {c:RfC}{w w':aE}
def Lb.bl (h:Lb c w)(k:Bl w.heap.size w w'):Lb c w':=⟨(k.block _ (iZ h.k)).trans h.k,h.e.bl k,h.t.bls k (bF _),h.u.bls k (bF _),h.n20⟩
def Lb.below (h:Lb c w)(k:cF w.heap.size w w'):Lb c w':=h.bl ⟨k.size,k.block⟩
def Lb.tp (h:Lb c w)(T:j6)(e:Nat):Lb c (Tt.tp w T e):=⟨h.k,h.e.tp T e,Ni rfl h.t,h.u,h.n20⟩
variable {A:Option bC}{xs:List aF}
def cG.belowZ {s n m:Nat}(h:cG w 0 w.heap.size s A n m xs)(k:cF w.heap.size w w'):cG w' 0 w'.heap.size s A n m xs:=h.bl ⟨k.size,k.block⟩
def cG.tpZ {s n m:Nat}(h:cG w 0 w.heap.size s A n m xs)(T:j6)(e:Nat):cG (Tt.tp w T e) 0 (Tt.tp w T e).heap.size s A n m xs:=h.tp T e
def below_dN (w:aE)(m:Nat):cF w.heap.size w (w.drewN m):=below_drewN m
end
section
variable {p:Program}{op gs gs₁ fs:aQ->Bool}{St:Nat->Prop}{W0:aE}{Post:aF->aE->Prop}
theorem JO.ld (L:Lv p op gs gs₁ fs){fn:aQ}{tmps T':Array aF}{ops:Array aZ}{i:Nat}{rest:List Nat}{k:List dX}{ms:List Fm}{w:aE}{o:aZ}{b:Nat}{cs:Array aF}{T:aM}{fz:Nat×Nat}{t:aM}{x:cK}{d:TypeDesc}(hf:op fn=false)(hb:w.heap[b]? =some (.cells cs T fz))(hu:p.underlying t=some d)(h:JL p op gs fs St W0 Post ⟨fn,T',.inRegion ops rest::k,false⟩ ms w)(ho:ops[i]? =some o:=by exact zaU rfl (by conv=>lhs;whnf))
 (hop:o.op=.load t x:=by exact rfl) (hx:(bJ tmps []).eval x=.pointer (some ⟨b,0,none⟩):=by exact rfl) (hd:d.isRow=true:=by exact rfl) (hi:(p.info? t).map (·.size)=some cs.size:=by kernel_rfl) (cE:dE o (dH ops tmps)=true:=by exact rfl)
 (ht:(cC ⟨tmps,[]⟩ o.dst (.agg cs)).tmps=T':=by first|(simp only[Go.Act.put,List.setIfInBounds_toArray,List.set_cons_zero,List.set_cons_succ];done)|(simp only[Go.Act.put,List.setIfInBounds_toArray,List.set_cons_zero,List.set_cons_succ];rfl)):JL p op gs fs St W0 Post ⟨fn,tmps,.inRegion ops (i::rest)::k,false⟩ ms w:=
 JO.opv L hf ho cE (λT' e=>zEC (w:=Tt.tp w T' e) hop hb hx hu hd hi) (ht▸h)
end
end Go.Proofs.YtfcjiloojkjaeaaGreatDoor
namespace Go.Proofs.YtfcjiloojkjaeaaGreatDoor
open Go.RowKit
def Lc (e:dI):Int:=if(e.k.toList==[119,97,105,116])=true then e.a else 0
theorem zvw:∀(xs:List bE) (p:bY×List UInt8),(xs.foldl jV p).1.log=p.1.log/\(xs.foldl jV p).1.clk=p.1.clk
 |[],p=>⟨rfl,rfl⟩
 |x::xs,p=>by
  have h1:(jV p x).1.log=p.1.log/\(jV p x).1.clk=p.1.clk:=by
   unfold jV;split
   .exact⟨rfl,rfl⟩
   .split<;>exact⟨rfl,rfl⟩
  obtain⟨a,b⟩:=zvw xs (jV p x);simp_all
variable {b:bY}{e:dI}
theorem zno {ops:Int}(he:q9 ops e=true):(dK b e).1.log=b.log/\(dK b e).1.clk=b.clk+Lc e:=by
 have z:∀{l:List UInt8},e.k.toList=l->(l==[119,97,105,116])=false->Lc e=0:=λ{l} h h2=>by unfold Lc;rw[h,h2];rfl
 unfold dK;split
 .rename_i h;rw[z h rfl,zbP];unfold pE;grind
 .split
  .rename_i h;rw[z h rfl,zbP];unfold nH;grind
  .split
   .rename_i h;rw[z h rfl,zbP];unfold l8;grind
   .split
    .rename_i h;rw[z h rfl,zbP];unfold mH;split
     .split<;>exact⟨rfl,rfl⟩
     grind
    .rename_i h1 h2 h3 h4
     have hw:e.k.toList=Rg:=by
      have:=of_decide_eq_true he;unfold Gm at this;rcases this with h|h|⟨h|h,_⟩|h
      .exact absurd h.1 h1
      .exact absurd h.1 h4
      .exact absurd h h2
      .exact absurd h h3
      .exact h.1
     have e2:Lc e=e.a:=by unfold Lc;rw[hw];rfl
     rw[e2];exact zvw b.wait _
def Wa (es:List dI)(k:Nat):Int:=((es.take k).map Lc).sum
variable {es:List dI}{k:Nat}
theorem zH7 (h:es[k]? =some e):Wa es (k+1)=Wa es k+Lc e:=by
 unfold Wa;rw[Ia,h];simp
variable {o:fQ}
theorem zmd (h:eM o es=true)(he:es[k]? =some e):q9 o.op e=true:=by
 unfold eM at h
 grind
theorem zaL (h:eM o es=true):∀k,k<=es.length->(iI o es k).clk=Wa es k/\(iI o es k).log.length=k/\0<=Wa es k/\Wa es k<=60*k
 |0,_=>⟨rfl,rfl,zaT _,zaT _⟩
 |k+1,hk=>by
  obtain⟨i1,i2,i3,i4⟩:=zaL h k aC;obtain⟨e,he⟩:∃e,es[k]? =some e:=⟨es[k],mV aC⟩;have hv:=zmd h he;obtain⟨l,c⟩:=zno (b:=iI o es k) hv;have hb:0<=Lc e/\Lc e<=60:=by
   unfold Lc;split
   .rename_i h5
    have h5:=eq_of_beq h5;have:=of_decide_eq_true hv;unfold Gm zW D5 H7 Bq Rg at this
    grind
   .omega
  rw[Me he,zH7 he];refine⟨c.trans (by rw[i1]),?_,aC,aC⟩;show((dK _ e).1.log++[_]).length=k+1;rw[l];simp[i2]
theorem to_log (h:eM o es=true){n:Nat}:∀k,n<=k->k<=es.length->(iI o es n).log=(iI o es k).log.take n:=by
 intro k hn
 induction hn with
 |refl=>intro hk;rw[zP];rw[(zaL h n hk).2.1];exact bF _
 | @step k hnk ih=>
  intro hk;obtain⟨e,he⟩:∃e,es[k]? =some e:=⟨es[k],mV aC⟩;rw[ih aC,Me he];show _=((dK _ e).1.log++[_]).take n;rw[(zno (zmd h he)).1,List.take_append_of_le_length];rw[(zaL h k aC).2.1];exact hnk
def tT (d:bR):Bool:=decide (d.e=vS)
def tZ (k:List UInt8)(t:List UInt8):Int:=
 if k=zW/\t=[98,117,115,121] then 1 else if t=[111,102,102] then-1
 else if k=Bq/\t≠[116,97,108,107,115]/\t≠[110,111,110,101]/\t≠[98,117,115,121] then-1 else 0
theorem zh2 {p:bR->Bool}{f:bR->bR}:∀{rs:List bR} {i:Nat} {d:bR},rs[i]? =some d->(rs.modify i f).countP p+(if p d then 1 else 0)=rs.countP p+(if p (f d) then 1 else 0)
 |[],i,d,h=>by simp at h
 |r::rs,0,d,h=>by grind
 |r::rs,i+1,d,h=>by
  have h:rs[i]? =some d:=by simpa using h
  rw[List.modify_succ_cons,zcH,zcH];have:=zh2 (p:=p) (f:=f) h;omega
variable {d:bR}
theorem zua (h:eD d=true):tT d=false:=by
 unfold eD at h;unfold tT;rw[decide_eq_false_iff_not];intro e;rw[e] at h;rw[zg6] at h;cases h
theorem zFs:¬Dr=vS:=by decide+kernel
theorem zB1:¬zV=vS:=by decide+kernel
variable {xs:List bE}
theorem zts {x:bE}(hn:(xs.map bE.c).Nodup)(hx:x∈xs):(dS xs x.c).length+1=xs.length:=by
 induction xs with
 |nil=>cases hx
 |cons y ys ih=>
  rw[gT,C6] at hn;unfold dS;rw[List.filter_cons];rcases List.mem_cons.1 hx with rfl|hx
  .simp_all
  .have aU:y.c≠x.c:=λe=>hn.1 (e▸List.mem_map_of_mem hx)
   rw[if_pos (by simpa using aU)];have:=ih hn.2 hx;unfold dS at this;simp_all
variable {c:Int}
theorem zBK (h:(uC xs c).isSome=true):∃x∈xs,x.c=c:=by
 unfold uC at h;simp_all
def s7 (b:bY)(k:List UInt8)(bt:bY×List UInt8):Prop:=(bt.1.back.length:Int)-bt.1.recs.countP tT=b.back.length-b.recs.countP tT+tZ k bt.2
variable {k:List UInt8}
theorem s7.same {t:List UInt8}(hn:tZ k t=0):s7 b k (b,t):=by unfold s7;rw[hn];simp
variable {rs:List bR}
theorem zpi {l o f h t:Int}:(rs++[(⟨c,l,o,f,h,t,eJ⟩:bR)]).countP tT=rs.countP tT:=by
 rw[zqf,List.countP_singleton,zua (by unfold eD;rw[zcT];rfl)];rfl
theorem zmM {i:Nat}{clk:Int}{e:ByteArray}(hd:rs[i]? =some d)(ho:eD d=true):(rs.modify i λd=>{d with t:=clk,e:=e}).countP tT=rs.countP tT+(if e=vS then 1 else 0):=by
 have:=zh2 (p:=tT) (f:=λd=>{d with t:=clk,e:=e}) hd;rw[zua ho] at this;simp only[tT,decide_eq_true_eq,iX,if_false] at this⊢;exact this
theorem s7.waits {m:Int}(hk:k≠Bq):s7 b k (tN b m):=by
 have key:∀(xs:List bE) (b:bY) (t:List UInt8),(∃s,t=97::116::s)->(∃s,(xs.foldl jV (b,t)).2=97::116::s)/\((xs.foldl jV (b,t)).1.back.length:Int)-(xs.foldl jV (b,t)).1.recs.countP tT=b.back.length-b.recs.countP tT:=by
  intro xs
  induction xs with
  |nil=>simp_all
  |cons x xs ih=>
   intro b t h;rw[List.foldl_cons];rcases ho:hY b.recs x.c with _|i
   .have:jV (b,t) x=(b,t):=by unfold jV;simp only[ho]
    rw[this];exact ih b t h
   .obtain⟨d,h1,h2,h3⟩:=zA ho
    rw[Yj (bt:=(b,t)) ho h1];split
    .obtain⟨s,e⟩:=h
     obtain⟨i1,i2⟩:=ih {kI b i vS with back:=b.back++[x]} (t++[32]++gM x.c) ⟨s++[32]++gM x.c,by rw[e];rfl⟩;refine⟨i1,i2.trans ?_⟩;have:=zmM (clk:=b.clk) (e:=vS) h1 h3;rw[if_pos rfl] at this;show((b.back++[x]).length:Int)-(Dj b i vS).countP tT=_;unfold Dj
     grind
    .exact ih b t h
 unfold tN;obtain⟨⟨s,e⟩,h⟩:=key b.wait {b with clk:=b.clk+m} ([97,116,32]++gM (b.clk+m)) ⟨_,rfl⟩;unfold s7;rw[h,e];have:tZ k (97::116::s)=0:=by
  unfold tZ;rw[if_neg tD,if_neg (by intro h;simp at h),if_neg (by intro h;exact hk h.1)]
 rw[this];simp
theorem zuK (k:List UInt8)(n:Int):tZ k ([99,97,108,108,32]++gM n)=if k=Bq then-1 else 0:=by
 unfold tZ;simp_all
theorem s7.step {b:bY}(hs:jA b){e:dI}:s7 b e.k.toList (dK b e):=by
 unfold dK;split
 .rename_i e1
  rw[e1];unfold pE;split
  .exact s7.same vT
  .split
   .unfold s7
    simp only[jH,rG,wD,show tZ zW [98,117,115,121]=1 by decide+kernel];omega
   .unfold s7
    simp only[zpi];rename_i l _ _;have e:tZ zW ([108,105,110,101,32]++gM l)=0:=by
     unfold tZ;rw[if_neg tD,if_neg (by intro h;simp at h),if_neg (by intro h;exact absurd h.1 vT)]
    rw[e];simp
 .split
  .rename_i e1 e2
   rw[e2];unfold nH;split
   .exact s7.same vT
   .split
    .exact s7.same vT
    .split
     .exact s7.same vT
     .rename_i i hi
      obtain⟨d,h1,h2,h3⟩:=zA hi;unfold s7;rw[zuK,if_neg vT];have h5:=zh2 (p:=tT) (f:=λd=>{d with o:=e.a,h:=b.clk}) h1;have e5:tT {d with o:=e.a,h:=b.clk}=tT d:=rfl;simp_all
  .split
   .rename_i e1 e2 e3
    rw[e3];unfold l8;split
    .exact s7.same vT
    .split
     .exact s7.same vT
     .rename_i c cs hw
      split
      .exact s7.same vT
      .have h1:=zts hs.bk (x:=c) (by rw[hw];simp)
       unfold s7;rw[zuK,if_pos rfl];simp only[zpi];omega
   .split
    .rename_i e1 e2 e3 e4
     rw[e4];unfold mH;split
     .rename_i i hi
      obtain⟨d,h1,h2,h3⟩:=zA hi;split
      .have:=zmM (clk:=b.clk) (e:=Dr) h1 h3
       rw[if_neg zFs] at this;unfold s7 kI Dj;rw[show tZ D5 [100,111,110,101]=0 by decide+kernel];simp_all
      .have:=zmM (clk:=b.clk) (e:=zV) h1 h3
       rw[if_neg zB1] at this;unfold s7 kI Dj;rw[show tZ D5 [108,101,102,116]=0 by decide+kernel];simp_all
     .split
      .rename_i hf
       obtain⟨x,hx,e⟩:=zBK hf;have h1:=zts hs.bk hx;rw[e] at h1;unfold s7;rw[show tZ D5 [111,102,102]= -1 by decide+kernel]
       grind
      .exact s7.same vT
    .rename_i e1 e2 e3 e4
     exact s7.waits e3
def Bw (es:List dI)(T:List (List UInt8)):Nat->Int
 |0=>0
 |k+1=>Bw es T k+(match es[k]? with|some e=>tZ e.k.toList (T.getD k [])|none=>0)
variable {T:List (List UInt8)}
theorem zij {k:Nat}(h:es[k]? =some e):Bw es T (k+1)=Bw es T k+tZ e.k.toList (T.getD k []):=by
 show Bw es T k+(match es[k]? with|some e=>tZ e.k.toList (T.getD k [])|none=>0)=_;rw[h]
theorem zEi (k t:List UInt8): -1<=tZ k t/\tZ k t<=1:=by
 unfold tZ;omega
theorem zxE (es:List dI)(T:List (List UInt8)):∀k:Nat,-(k:Int)<=Bw es T k/\Bw es T k<=(k:Int)
 |0=>by show(-((0:Nat):Int))<=0/\(0:Int)<=((0:Nat):Int);omega
 |k+1=>by
  have h:=zxE es T k;rcases he:es[k]? with _|e
  .have e2:Bw es T (k+1)=Bw es T k:=by
    show Bw es T k+(match es[k]? with|some e=>tZ e.k.toList (T.getD k [])|none=>0)=_;rw[he];simp
   omega
  .rw[zij he]
   have:=zEi e.k.toList (T.getD k []);omega
theorem to_net (h:eM o es=true):∀k,k<=es.length->((iI o es k).back.length:Int)-(iI o es k).recs.countP tT=Bw es (iI o es es.length).log k
 |0,_=>rfl
 |k+1,hk=>by
  have i2:=to_net h k aC;obtain⟨e,he⟩:∃e,es[k]? =some e:=⟨es[k],mV aC⟩;have s:=s7.step (zgA h k aC) (e:=e);have hl:(iI o es es.length).log.getD k []=(dK (iI o es k) e).2:=by
   have e1:=to_log h (n:=k+1) es.length hk (bF _);have e2:(iI o es (k+1)).log=(iI o es k).log++[(dK (iI o es k) e).2]:=by
    rw[Me he];show(dK _ e).1.log++[_]=_;rw[(zno (zmd h he)).1]
   have e3:((iI o es es.length).log.take (k+1))[k]? =some (dK (iI o es k) e).2:=by
    rw[<-e1,e2];have:=(zaL h k aC).2.1;rw[List.getElem?_append_right aC,this];simp
   rw[List.getElem?_take,if_pos aC] at e3;rw[Uu,e3];rfl
  rw[zij he,hl,Me he,<-i2];exact s
theorem ret_net (h:eM o es=true):(((oP o es).back.length:Nat):Int)=((oP o es).recs.countP tT:Nat)+Bw es (oP o es).log es.length/\((oP o es).back.map bE.c).Nodup/\(oP o es).log.length=es.length:=by
 unfold oP;rw[if_pos h,<-Qx];have h1:=to_net h es.length (bF _);exact⟨aC,(zgA h es.length (bF _)).bk,(zaL h _ (bF _)).2.1⟩
end Go.Proofs.YtfcjiloojkjaeaaGreatDoor
namespace Go.Proofs.YtfcjiloojkjaeaaGreatDoor
open Go.RowKit Go.Mt Go.Conc Go.Tt
def Yp:Go.Code:=(Tryz.f9.body).getD .skip
def rLRT4:Go.Code:=sA (sB (sB (sB (Yp))))
def rLRT5:Go.Code:=sA (sB (sB (sB (sB (Yp)))))
def rLRT9:Go.Code:=sA (sB (sB (sB (sB (sB (sB (sB (Yp))))))))
def zel:Array Oper:=match rLRT4 with| .region _ ops _=>ops|_=>#[]
abbrev zsn:Oper:=aV zel 2 (some 25) (.call ⟨.value (.func 26),#[.tmp 23,.tmp 24],#[29,31]⟩)
def zxa:zel[2]? =some zsn:=rfl
def zeA:Array Oper:=match rLRT5 with| .region _ ops _=>ops|_=>#[]
abbrev zq6:Oper:=aV zeA 2 (some 29) (.call ⟨.value (.func 14),#[.tmp 27,.tmp 28],#[29,31]⟩)
def zor:zeA[2]? =some zq6:=rfl
def zex:Array Oper:=match rLRT9 with| .region _ ops _=>ops|_=>#[]
abbrev zr4:Oper:=aV zex 2 (some 55) (.call ⟨.value (.func 28),#[.tmp 53,.tmp 54],#[29,31]⟩)
def zw3:zex[2]? =some zr4:=rfl
variable {A:Option bC}
theorem zpl {w:aE}{lo hi n c xR lU n' c':Nat}{A':Option bC}{xs:List Int}(h:cG w lo hi 1 A n c (fF xs))(h':cG w xR lU 1 A' n' c' (fF xs))(hn:n<=1048576)(vL:n'<=1048576):
 gH aK 37 #[.slice A n c,.slice A' n' c'] w λe w'=>e=.returned (.bool true)/\cF w.heap.size w w':=
 (zDi _ _ _ _ _ _ _ _ _ _ _ _ w h h' hn vL).mono (by rintro e w' ⟨rfl,m,rfl⟩;exact⟨by rw[beq_self_eq_true],below_dN w m⟩)
theorem zu4 (k t:List UInt8):tZ k t=if(k==[114,105,110,103])&&(t==[98,117,115,121]) then 1 else if t==[111,102,102] then-1 else if(k==[114,101,116,117,114,110])&& !(t==[116,97,108,107,115])&& !(t==[110,111,110,101])&& !(t==[98,117,115,121]) then-1 else 0:=by
 unfold tZ zW Bq;simp[and_assoc]
theorem trB_list (d:bR):tT d=(d.e.toList==[116,105,114,101,100]):=by
 unfold tT;rw[Nk,decide_eq_true_eq,beq_iff_eq];constructor
 .intro h;rw[h];decide+kernel
 .intro h
  have h2:vS.toList=[116,105,114,101,100]:=by decide+kernel
  rw[ByteArray.toList_eq] at h h2;have:=h.trans h2.symm;cases hd:d.e with|mk a=>cases ht:vS with|mk c=>rw[hd,ht] at this;simp at this;rw[this]
theorem zAw (o:fQ)(es:List dI)(h:eM o es=true):(Kb o es).length<=60:=by
 unfold Kb oP;rw[if_pos h,<-Qx];have:=(Ih h es.length (bF _)).2.1.nrec;have:es.length<=60:=by unfold eM at h;simp at h;exact h.1.2
 omega
section
variable {St:Nat->Prop}{W0:aE}{Post:aF->aE->Prop}
theorem zGt {w:aE}{A:Option bC}{n cap:Nat}(hC:Code w A n cap)(hT:qC w)(rQ:xF w)(hP:∀(R:Pr) (W:aE),Kp W0 R St W->Post (.bool true) W):
 JS St W0 Post ⟨9,#[.slice A n cap,aA,aA,aA,aA,aA,aA,aA,aA,aA,aA,aA,aA,aA,aA,aA,aA,aA,aA,aA,aA,aA,aA,aA,aA,aA,aA,aA,aA,aA,aA,aA,aA,aA,aA,aA,aA,aA,aA,aA,aA,aA,aA,aA,aA,aA,aA,aA,aA,aA,aA,aA,aA,aA,aA,aA,aA,aA,aA,aA,aA,aA,aA,aA,aA,aA,aA,aA,aA,aA,aA,aA,aA,aA,aA,aA,aA,aA,aA,aA,aA,aA,aA,aA,aA,aA,aA,aA,aA,aA,aA,aA,aA,aA,aA,aA,aA,aA,aA,aA,aA,aA,aA,aA,aA,aA,aA,aA,aA,aA,aA,aA,aA,aA,aA,aA,aA,aA,aA,aA,aA,aA,aA,aA,aA,aA,aA,aA,aA,aA,aA,aA,aA,aA,aA,aA,aA,aA,aA,aA,aA,aA,aA,aA,aA,aA,aA,aA,aA,aA,aA,aA,aA,aA,aA,aA],[.code Yp],false⟩ [] w:=by
 have L:=lvF;have bN:nL olL 9=false:=aT;have L1:∀(tmps:Array aF) (td:List dX) (w':aE),tmps.getD 2 aA=.bool true->JS St W0 Post ⟨9,tmps,td,true⟩ [] w':=by
  intro tmps td w' h6;refine JO.fin L (t:=2) rfl Tryz.func9 rfl aT λK R W v' hv hk=>?_;have L9:VR (SF fU) K R (tmps.getD 2 aA) v':=hv;rw[h6] at L9;cases L9;exact hP R W hk
 refine JO.sq L bN ?_;refine JO.pQ L bN (λTp Q HQ=>?_);replace hC:Code (Tt.tp w Tp 0) A n cap:=⟨hC.le,hC.cap,hC.at_⟩;replace hT:qC (Tt.tp w Tp 0):=Ni rfl hT;replace rQ:xF (Tt.tp w Tp 0):=rQ;generalize Tt.tp w Tp 0=w1 at hC hT rQ⊢;go_wp2;refine HQ.o _ _ ?_;clear HQ;refine JO.sq L bN ?_;refine JO.sq L bN ?_;refine JO.pQ L bN (λTp Q HQ=>?_);replace hC:Code (Tt.tp w1 Tp 0) A n cap:=⟨hC.le,hC.cap,hC.at_⟩;replace hT:qC (Tt.tp w1 Tp 0):=Ni rfl hT;replace rQ:xF (Tt.tp w1 Tp 0):=rQ;generalize Tt.tp w1 Tp 0=w2 at hC hT rQ⊢;have mU:=hC.le;have qF:=hC.cap;unfold maxLen at qF;go_wp2;refine HQ.o _ _ ?_;clear HQ;by_cases ziw:(1048576:Int)<(n:Int)
 .refine JO.cd L true bN ?_ (by show Od (decide _)=_;rw[decide_eq_true ziw])
  refine JO.sq L bN ?_;refine JO.pQ L bN (λTp Q HQ=>?_);go_wp2;refine HQ.o _ _ ?_;refine JO.rt L bN ?_;exact L1 _ _ _ rfl
 refine JO.cd L false bN ?_ (by show Od (decide _)=_;rw[decide_eq_false ziw]);refine JO.sk L bN ?_;refine JO.sq L bN ?_;refine JO.pQ L bN (λTp Q HQ=>?_);replace hC:Code (Tt.tp w2 Tp 0) A n cap:=⟨hC.le,hC.cap,hC.at_⟩;replace hT:qC (Tt.tp w2 Tp 0):=Ni rfl hT;replace rQ:xF (Tt.tp w2 Tp 0):=rQ;generalize Tt.tp w2 Tp 0=w3 at hC hT rQ⊢
 go_wp2_with (go_at_call 38;refine(zAs A n cap w3 hC).mono ?_;rintro e w4 ⟨o,A2,n2,c2,es,rfl,ow,zCo,b4⟩)
 refine HQ.o _ _ ?_;clear HQ;obtain⟨gO,zhL⟩:=aP w4.heap.size;have B4:Bl w3.heap.size w3 (w4.alloc (offO o)):=(⟨b4.size,b4.block⟩:Bl w3.heap.size w3 w4).al (bF _) _;have HR:Lb ⟨o,es,gO,A2,n2,c2⟩ (w4.alloc (offO o)):=⟨by rw[zhL];exact Dd w4 _,(ow.slc.alloc _).wide (lP _) aN,hT.bls B4 (bF _),rQ.bls B4 (bF _),zCo⟩;rw[<-zhL];generalize w4.alloc (offO o)=w5 at HR⊢;have O3:n2<=1048576:=aC;clear hC hT rQ mU qF ziw zhL B4 b4 ow;refine JO.sq L bN ?_;generalize lO:([Ld _]:List dX)=K0;refine JO.rn L bN zel [0,1,2,3] ?_;refine JO.ld L bN HR.k ziO ?_;refine JO.mv L bN (.slice A2 n2 c2) ?_;refine zCh (ops:=zel) (i:=2) (oo:=zsn) (A:=A2) (o:=o) (es:=es) rfl bN rfl zxa rfl rfl Zq HR.e O3 HR.t HR.u (λw6 V b6 jX=>?_);obtain⟨A5,n5,c5,rfl,zms,O5⟩:=ze8 jX aH (eH (ztD o es) aC);have h5:cG w6 0 w6.heap.size 1 A5 n5 c5 (fF (B7 o es)):=O5.slc.wide (lP _) (bF _);replace HR:=HR.bl b6;clear b6 jX O5;simp only[Fm.fin,zxa,uY,fO,dP,dQ];refine JO.mv L bN (.slice A5 n5 c5) ?_;refine JO.regEnd L bN ?_;subst lO;refine JO.sq L bN ?_;generalize lO:([Ld _]:List dX)=K0;refine JO.rn L bN zeA [0,1,2,3,4,5,6,7] ?_;refine JO.ld L bN HR.k ziO ?_;refine JO.mv L bN (.slice A2 n2 c2) ?_;refine zIk (ops:=zeA) (i:=2) (oo:=zq6) (A:=A2) (o:=o) (es:=es) rfl bN rfl zor rfl rfl Zq HR.e O3 HR.t HR.u (λw7 V b7 zxR=>?_);obtain⟨A6,n6,c6,rfl,zpN,O6⟩:=ze8 zxR aH (logs_len o es);have h6:cG w7 0 w7.heap.size 1 A6 n6 c6 (vO (Ew o es)):=O6.slc.wide (lP _) (bF _);replace HR:=HR.bl b7;replace h5:=h5.bl b7;clear b7 zxR O6;simp only[Fm.fin,zor,uY,fO,dP,dQ];refine JO.mv L bN (.tuple #[.slice A6 n6 c6,.bool (eM o es)]) ?_;refine JO.mv L bN (.slice A6 n6 c6) ?_;refine JO.mv L bN (.bool (eM o es)) ?_;refine JO.mv L bN (.slice A6 n6 c6) ?_;refine JO.mv L bN (.bool (eM o es)) ?_;refine JO.regEnd L bN ?_;subst lO;obtain⟨t,ht⟩:=aP (eM o es);rw[<-ht];have HT:=aD ht;clear ht;refine JO.sq L bN ?_;refine JO.sq L bN ?_;refine JO.pQ L bN (λTp Q HQ=>?_);replace HR:=HR.tp Tp 0;replace h5:=h5.tpZ Tp 0;replace h6:=h6.tpZ Tp 0;generalize Tt.tp w7 Tp 0=w8 at HR h5 h6⊢;have q0:=aI HR.k 0;have q1:=aI HR.k 1;have q2:=aI HR.k 2;have HX:=aD (And.intro HR (And.intro h5 h6));clear HR h5 h6
 go_wp2_with (go_at_call 25;refine(zqS o HX.o.1.e O3 (bF _)).mono ?_;rintro e w9 ⟨A7,n7,c7,rfl,zyv,O7,b9⟩)
 have HY:=aD (And.intro (HX.o.2.1.belowZ b9) O7.slc)
 go_wp2_with (go_at_call 37;refine(zpl HY.o.1 HY.o.2 zms zyv).mono ?_;rintro e vJ ⟨rfl,Q9⟩)
 cases t with
 |false=>
  go_wp2;refine HQ.o _ _ ?_;clear HQ q0 q1 q2;have HR:=(HX.o.1.below b9).below Q9;have h5:=(HX.o.2.1.belowZ b9).belowZ Q9;clear HX HY b9 Q9 O7;have zIv:n5=0:=by
   have:=h5.len;have e:B7 o es=[]:=by unfold B7 oP;rw[if_neg (by rw[<-HT.o];decide)];rfl
   rw[e] at this;simpa[fF] using this.symm
  subst zIv;refine JO.cd L true bN ?_;refine JO.sq L bN ?_;refine JO.pQ L bN (λTp Q HQ=>?_);replace HR:=HR.tp Tp 0;replace h5:=h5.tpZ Tp 0;generalize Tt.tp vJ Tp 0=zG at HR h5⊢;have q0:=aI HR.k 0;have q1:=aI HR.k 1;have q2:=aI HR.k 2;have HX:=aD (And.intro HR h5);clear HR h5
  go_wp2_with (go_at_call 25;refine(zqS o HX.o.1.e O3 (bF _)).mono ?_;rintro e I6 ⟨A8,n8,c8,rfl,zFu,O8,Xf⟩)
  have HY:=aD (And.intro (HX.o.2.belowZ Xf) O8.slc)
  go_wp2_with (go_at_call 37;refine(zpl HY.o.1 HY.o.2 zms zFu).mono ?_;rintro e zb5 ⟨rfl,zJ7⟩)
  go_wp2;refine HQ.o _ _ ?_;refine JO.rt L bN ?_;exact L1 _ _ _ rfl
 |true=>
  go_wp2;refine HQ.o _ _ ?_;clear HQ q0 q1 q2;have HR:=(HX.o.1.below b9).below Q9;have h5:=(HX.o.2.1.belowZ b9).belowZ Q9;have h6:=(HX.o.2.2.belowZ b9).belowZ Q9;clear HX HY b9 Q9 O7;refine JO.cd L false bN ?_;refine JO.sk L bN ?_;have bS:=HT.o.symm;refine JO.sq L bN ?_;refine JO.pQ L bN (λTp Q HQ=>?_);replace HR:=HR.tp Tp 0;replace h5:=h5.tpZ Tp 0;replace h6:=h6.tpZ Tp 0;generalize Tt.tp vJ Tp 0=zG at HR h5 h6⊢;go_wp2;refine HQ.o _ _ ?_;clear HQ;refine JO.sq L bN ?_;generalize lO:([Ld _]:List dX)=K0;refine JO.rn L bN zex [0,1,2,3,4,5,6,7] ?_;refine JO.ld L bN HR.k ziO ?_;refine JO.mv L bN (.slice A2 n2 c2) ?_;have Jd:=zAw o es bS;refine zB7 (ops:=zex) (i:=2) (oo:=zr4) (A:=A2) (o:=o) (es:=es) rfl bN rfl zw3 rfl rfl Zq HR.e O3 HR.t HR.u (λI6 V Xf zs7=>?_);obtain⟨A9,n9,c9,rfl,zJ2,O9⟩:=ze8 zs7 aH aC;have h9:cG I6 0 I6.heap.size 7 A9 n9 c9 (recs (Kb o es)):=O9.slc.wide (lP _) (bF _);replace HR:=HR.bl Xf;replace h5:=h5.bl Xf;replace h6:=h6.bl Xf;clear Xf zs7 O9;simp only[Fm.fin,zw3,uY,fO,dP,dQ];refine JO.mv L bN (.tuple #[.slice A9 n9 c9,.bool (eM o es)]) ?_;refine JO.mv L bN (.slice A9 n9 c9) ?_;refine JO.mv L bN (.bool (eM o es)) ?_;refine JO.mv L bN (.slice A9 n9 c9) ?_;refine JO.mv L bN (.bool (eM o es)) ?_;refine JO.regEnd L bN ?_;subst lO;obtain⟨g1,g2,g3⟩:=ret_net bS;have Qc:=HR.e.eventsLen;have zfF:=h5.length;have zsf:=h6.txtLen;have zw7:=h9.recLen;obtain rfl:n6=n2:=by unfold Ew at zsf;simp only at Qc;omega
  have g4:((n5:Nat):Int)=((Kb o es).countP tT:Nat)+Bw es (Ew o es) n6:=by
   rw[<-zfF];unfold B7;rw[zeT];simp only at Qc;rw[<-Qc];exact g1
  have HB:=aD (show(B7 o es).Nodup from g2);generalize Ew o es=lg at*;generalize B7 o es=bk at*;generalize Kb o es=rs at*;clear g1 g2 g3;clear zfF zsf;refine JO.sq L bN ?_;refine JO.pQ L bN (λTp Q HQ=>?_);replace HR:=HR.tp Tp 0;replace h5:=h5.tpZ Tp 0;replace h6:=h6.tpZ Tp 0;replace h9:=h9.tpZ Tp 0;generalize Tt.tp I6 Tp 0=zb5 at HR h5 h6 h9⊢;have HX:=aD (And.intro HR (And.intro h5 (And.intro h6 h9)));have H4:=aD (And.intro Qc (And.intro zw7 g4));have zxh:n9<=60:=aC;clear HR h5 h6 h9 Qc zw7 g4 Jd bS
  go_wp2_with fail
  go_loopw [8,11] (λq i wr=>∃k:Nat,k<=n9/\q=.int .i64 (((rs.take k).countP tT:Nat):Int)/\i=.int .i64 k/\wr=zb5) (λ_ i _=>n9-(intOf i).toNat)
  case atStart=>exact⟨0,lP _,rfl,rfl,rfl⟩
  case round=>
   obtain⟨k,hk,rfl,rfl,rfl⟩:=hrel;obtain⟨q,hq⟩:=aP ((rs.take k).countP tT);have bq:q<=k:=by rw[hq];exact eH List.countP_le_length (by rw[List.length_take];omega)
   by_cases aS:k<n9
   .obtain⟨b,off,d,rfl,_,_,h3,eK,e0,e1,e2,e3,e4,e5,e6⟩:=HX.o.2.2.2.rec7 aS
    have zd2:=aD (show(rs.take (k+1)).countP tT=q+(if(d.e.toList==[116,105,114,101,100])=true then 1 else 0) by rw[Ia,eK,zqf,<-hq,<-trB_list];simp);rw[<-hq];have i0:(0:Int)<=(k:Int):=aC;have i1:(k:Int)<(n9:Int):=aC;clear hq eK e0 e1 e2 e3 e4 e5;cases hd:(d.e.toList==[116,105,114,101,100])
    .have HD:=aD hd
     go_wp2;go_roundw
     case rel=>exact⟨k+1,aC,by rw[zd2.o,HD.o];rfl,oL,trivial⟩
     case measure=>simp[intOf];omega
    .have HD:=aD hd
     go_wp2;go_roundw
     case rel=>exact⟨k+1,aC,by rw[zd2.o,HD.o];go_num,oL,trivial⟩
     case measure=>simp[intOf];omega
   .have e:k=n9:=aC
    subst e;have zDw:=aD (show q=rs.countP tT by rw[hq,zP (by rw[H4.o.2.1];exact bF _)]);rw[<-hq];clear hq;go_wp2;refine HQ.o _ _ ?_;clear HQ;obtain⟨HR,h5,h6,-⟩:=HX.o;clear HX;refine JO.sq L bN ?_;refine JO.pQ L bN (λTp Q HQ=>?_);replace HR:=HR.tp Tp 0;replace h5:=h5.tpZ Tp 0;replace h6:=h6.tpZ Tp 0;generalize Tt.tp wr Tp 0=zvq at HR h5 h6⊢;have HX:=aD (And.intro HR (And.intro h5 h6));clear HR h5 h6
    go_wp2_with fail
    go_loopw [8,12] (λq' i wr=>∃j:Nat,j<=n6/\q'=.int .i64 ((q:Int)+Bw es lg j)/\i=.int .i64 j/\wr=zvq) (λ_ i _=>n6-(intOf i).toNat)
    case atStart=>exact⟨0,lP _,by show _=Is .i64 ((q:Int)+0);rw[zbP],rfl,rfl⟩
    case round=>
     obtain⟨j,hj,rfl,rfl,rfl⟩:=hrel;have bj:=zxE es lg j;by_cases aS:j<n6
     .obtain⟨b,off,e,eA,_,_,h3,eK,e0,-,-⟩:=HX.o.1.e.eventsAt aS
      obtain⟨b',zoV,l,eL,_,_,zmI,Y4,f0⟩:=HX.o.2.2.txtAt aS;obtain⟨S,hS⟩:=aP (Bw es lg j);have zd2:=aD (show Bw es lg (j+1)=S+tZ e.k.toList l by rw[zij eK,<-hS,Uu,Y4];rfl);rw[<-hS] at bj⊢;simp only at eA;subst eA eL;have i0:(0:Int)<=(j:Int):=aC;have i1:(j:Int)<(n6:Int):=aC;clear hS eK Y4;obtain⟨M,hM⟩:=aP (tZ e.k.toList l);rw[zu4] at hM;have HM:=aD hM;have HK:=aD (show M=tZ e.k.toList l by rw[zu4];exact hM);clear hM;cases hr:(e.k.toList==[114,105,110,103])<;>cases hb:(l==[98,117,115,121])<;>cases ho:(l==[111,102,102])<;>cases zyL:(e.k.toList==[114,101,116,117,114,110])<;>cases lT:(l==[116,97,108,107,115])<;>cases fP:(l==[110,111,110,101])
      all_goals
       have hM:=HM.o;simp only[hr,hb,ho,zyL,lT,fP,Bool.and_true,zpp,Bool.true_and,Bool.false_and,zpC,Bool.not_false,if_true,if_false,iX] at hM;have HN:=aD hM;clear hM;go_wp2;go_roundw
       case rel=>exact⟨j+1,aC,by rw[zd2.o,<-HK.o,HN.o];go_num,oL,trivial⟩
       case measure=>simp[intOf];omega
     .have e:j=n6:=aC
      subst e;have zHs:=aD (show(q:Int)+Bw es lg j=((n5:Nat):Int) by rw[zDw.o];exact H4.o.2.2.symm);rw[zHs.o];clear bj;go_wp2;refine HQ.o _ _ ?_;clear HQ;obtain⟨-,h5,-⟩:=HX.o;clear HX;refine JO.sq L bN ?_;refine JO.pQ L bN (λTp Q HQ=>?_);replace h5:=h5.tpZ Tp 0;generalize Tt.tp wr Tp 0=w15 at h5⊢;have HX:=aD h5;have zJG:=aD h5.length;clear h5
      go_wp2_with fail
      go_loopw [13] (λi wr=>∃a:Nat,a<=n5/\i=.int .i64 a/\∃m,wr=w15.drewN m) (λi _=>n5-(intOf i).toNat)
      case atStart=>exact⟨0,lP _,rfl,0,rfl⟩
      case round=>
       obtain⟨a,ha,rfl,m,rfl⟩:=hrel;by_cases aS:a<n5
       .obtain⟨b,off,x,rfl,_,_,z,hx,e0⟩:=HX.o.cellAt aS
        have zE8:=aD hx;have HE:=aD e0;have i0:(0:Int)<=(a:Int):=aC;have i1:(a:Int)<(n5:Int):=aC;clear hx e0
        go_wp2_with fail
        go_loopw [14] (λi wr=>∃c:Nat,c<=a/\i=.int .i64 c/\∃m,wr=w15.drewN m) (λi _=>a-(intOf i).toNat)
        case atStart=>exact⟨0,lP _,rfl,m,rfl⟩
        case round=>
         obtain⟨c,hc,rfl,m',rfl⟩:=hrel;by_cases zJV:c<a
         .obtain⟨b',zoV,y,eA,_,_,z',hy,e1⟩:=HX.o.cellAt (show c<n5 by omega)
          injection eA with eA;injection eA with zCm zDA;subst zCm zDA;have e0:=HE.o;have zob:(x==y)=false:=by
           rw[beq_eq_false_iff_ne];intro e;subst e;have hx:=zE8.o;obtain⟨l1,g1⟩:=kP.1 hx;obtain⟨l2,g2⟩:=kP.1 hy;have:=(List.getElem_inj HB.o).1 (g1.trans g2.symm);omega
          have j0:(0:Int)<=(c:Int):=aC;have j1:(c:Int)<(n5:Int):=aC;have j2:(c:Int)<(a:Int):=aC;clear hy
          go_wp2_with fail
          go_quiet (fail)
          go_wp2;go_roundw
          case rel=>exact⟨c+1,aC,oL,_,by first|rfl|exact zsC _ _ _⟩
          case measure=>simp[intOf];omega
         .have e:c=a:=aC
          subst e;go_wp2;go_roundw
          case rel=>exact⟨c+1,aC,oL,_,rfl⟩
          case measure=>simp[intOf];omega
       .have e:a=n5:=aC
        subst e;go_wp2;refine HQ.o _ _ ?_;clear HQ;refine JO.sq L bN ?_;refine JO.pQ L bN (λTp Q HQ=>?_);go_wp2;refine HQ.o _ _ ?_;refine JO.rt L bN ?_;exact L1 _ _ _ rfl
end
theorem zDy {S:aQ->Prop}{X:Nat->Bool}{W:aE}{n c:Nat}(hX:∀b,X b=true->∃c T fz,W.heap[b]? =some (.cells c T fz))(h:∀a,A=some a->X a.block=true)(hc:Code W A n c):Code (Ei S X W) A n c:=
 ⟨hc.le,hc.cap,λhn=>by
  obtain⟨b,off,rfl,e3,e4⟩:=hc.at_ hn;exact⟨b,off,rfl,by rw[zlD];exact e3,λj hj=>by obtain⟨v,h1,h2,h3⟩:=e4 j hj;exact⟨v,zDT hX (h _ rfl) h1 (.inl ⟨_,_,rfl⟩),h2,h3⟩⟩⟩
end Go.Proofs.YtfcjiloojkjaeaaGreatDoor
namespace Go.Proofs.YtfcjiloojkjaeaaGreatDoor
theorem zBN (Lk:Looks){p:Pinned}{s:OpenSpec}{c:OpenClaim}(kinds:List LaidKind)(znD:Bool)(Sx:Bool×String)(lk:Bool)
 (hc:c.holds p s) (hw:c.wfByText s=true) (zC9:c.laidByTextAt Lk p kinds znD)
 (aY:c.start=.entering) (nX:c.noBlocks=false/\c.again=false) (hm:p.checked.prog.mainIs=some (Sx.1,Sx.2.toList)) (hn:(!Sx.1&&Sx.2.isEmpty&& !lk)=false)
 (hl:∀f fn,p.checked.prog.funcNamed c.func=some f->p.checked.prog.funcs[f]? =some fn->lk=p.checked.prog.looks []/\∀(j:Nat) t,fn.params[j]? =some t->p.checked.prog.wantsStandIn t=false)
 (hg:true=c.goesBy p.checked.prog):
 Claim7.holds p (.plain s) {stood:={row:=c,standIns:=[],harness:=Sx,looks:=lk},kinds:=[],alts:=[],goes:=true,laidByText:=true,laidKinds:=kinds,laidTests:=znD,laidLooks:=Lk}:=by
 have h6:∀r:OpenClaim,zrA {stood:={row:=r,standIns:=[],harness:=Sx,looks:=lk},kinds:=[]}=false:=λr=>by simpa[zrA] using hn
 have h:=Claim7.tied_new_at Lk kinds znD (Claim7.new_of_sixth hc Sx lk aY nX hm (h6 c) hl) hw;exact⟨h,(λD hD=>by cases hD),zC9,(λh=>by cases h),hg⟩
end Go.Proofs.YtfcjiloojkjaeaaGreatDoor
