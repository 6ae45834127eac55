/-
  Part 4 of what stands behind the last text.
-/
import Derived.Lib.SlicesDelete
import Derived.Test.YtfcjiloojkjaeaaGreatDoorShelf
import Derived.Test.YtfcjiloojkjaeaaGreatDoorRunOffPq3
set_option linter.all false
set_option maxHeartbeats 16000000
set_option maxRecDepth 100000
open Array renaming eraseIdxIfInBounds→zwe,getElem?_eq_some_iff→dO,getElem?_mapIdx→Mk,getElem?_setIfInBounds_ne→jQ,getElem?_toList→Ap,getElem_map→znT,getElem_range→znb,getElem_toList→zmq,length_toList→Dm,toList_eraseIdx→zvY,toList_modify→zvF,toList_push→zpQ
open Bool renaming and_eq_true→fV
open Go renaming Act→uA,Addr→bL,Calls→fH,ChanDir→Na,Deferred→E8,Exit→nZ,FuncId→aO,MapEntry→o7,Oper→aZ,Operand→cN,Program→bS,TypeId→aM,Value→aF,World→aE,bodyPost_ret→qW,execOp→aS,heap_alloc_new→lQ,info_parts→zI,run_append_room→ztO,run_storeCells_at→zu1,run_underlying→wP,setRow_heap→Lg,size_zeroCells→Xl,undef→aA,wpList_plain→Rh
open Go.Act renaming eval→wH,mk→bH,put→cC
open Go.Addr renaming add_lit→Md
open Go.Builtin renaming append_→xF,clear_→Ru,copy_→C4,delete_→Lh,zeroCells→pZ
open Go.Code renaming region→E7
open Go.Conc renaming base→J1,enter_at→zrs,seen_none→Bg
open Go.ConcR.Gen renaming body_add→Nn
open Go.Deferred renaming ofValue→Bt
open Go.Frame renaming enter→Eg
open Go.Instr renaming checkKey→Ft,findAsking→L0,findKey→Kb,findNow→Fx,keyThatStays→Pp,lookup→zM,makeFunc→ztB,mapUpdate→G2,sameBits→Zz,sameNow→wG
open Go.MapKept renaming run_getObj_map→Wh,run_setObj_map→Y7
open Go.MemAct renaming ofEvent→jK,touch?→qO
open Go.Op renaming mapUpdate→zoT,maxDepth→Tw
open Go.Oper renaming wp→By
open Go.Proofs.Tryz renaming checked→vE,func114→zxL,func117→ztr,func119→ztQ,ntmps114→zt5,ntmps117→zsN,ntmps119→zq1,prog→aK,results40→zd3,underlying26→zr0,underlying38→X8,underlying66→zrN,underlying69→ziQ
open Go.Region renaming wanted→dD
open Go.Result renaming andThen→uU,andThen_ok→D7,ok→vU
open Go.RowKit renaming Below→bR
open Go.RowKit.Below renaming heap_alloc→uB,heap_setCell→eH,refl→eF
open Go.Sem renaming getObj→zqa,run→bD,run_bind→E6,run_pure→Ht
open Go.Value renaming agg→zim,cells→Uf,slice→U7
open Go.World renaming cell?_of_block→Br,news_of_block→E0,size_setCell→sN
open List renaming all_eq_true→tK,any_eq_true→Ue,append_assoc→Jc,append_nil→N4,countP_cons→zs0,drop_drop→zxj,drop_eq_getElem_cons→zgj,eraseIdx_cons_succ→zvL,ext_getElem?→Uw,filter_append→P4,filter_eq_nil_iff→zwr,filter_eq_self→zdp,find?_eq_none→zdK,find?_some→znO,foldl_cons→Pz,getD_cons_succ→C7,getD_cons_zero→Ds,getD_eq_getElem?_getD→Kl,getElem?_append_left→y3,getElem?_append_right→Ah,getElem?_drop→Y5,getElem?_eq_getElem→lO,getElem?_eq_none→Cu,getElem?_eq_none_iff→zsZ,getElem?_eq_some_iff→kE,getElem?_modify→zD,getElem?_set→zbM,getElem?_take→Wo,length_append→gM,length_cons→qA,length_drop→xO,length_eq_zero_iff→zoU,length_modify→Hk,length_nil→rY,length_set→zhY,length_take→rV,map_append→Im,map_cons→fK,map_nil→tL,map_toArray→uS,mem_append→Er,mem_cons→jL,mem_cons_of_mem→Hd,mem_filter→Iy,mem_iff_getElem→Kj,mem_iff_getElem?→F9,mem_map→Ir,mem_map_of_mem→Vv,mem_of_find?_eq_some→zhc,mem_of_getElem?→dX,mem_of_mem_drop→zcr,mem_range→Bd,mem_singleton→sE,nodup_append→zka,nodup_cons→C5,nodup_nil→Qa,range→gN,setIfInBounds_toArray→gE,set_append_left→zqE,set_cons_succ→dW,set_cons_zero→dV,size_toArray→Ek,take_add_one→Nb,take_append_drop→zuu,take_append_of_le_length→El,take_of_length_le→zP,take_take→Pf
open Nat renaming add_mul→Xr,add_zero→Ul,eq_zero_or_pos→Po,le_max_left→zt0,le_refl→aX,le_succ→Sd,le_trans→eG,lt_irrefl→Ci,lt_of_lt_of_le→lC,lt_or_ge→mX,lt_succ_self→wR,min_self→zmu,mod_two_eq_zero_or_one→zth,mul_le_mul_right→Am,mul_one→zu8,sub_self→Nv,zero_le→jY
open Option.some renaming inj→cE,injEq→fT
open Prod renaming fst→uN,snd→zqK
noncomputable section
namespace Go
def cS{P:Prop}(h:P:=by unfold parts;simp[e]):P:=h
def zdh{P:Prop}(h:P:=by simp[Act.eval,Act.put];first|exact⟨by simpa using hA,by omega⟩|simpa[Ss] using hA|(simp at hA;simp[hA])):P:=h
def zdu{P:Prop}(h:P:=by simp[Act.eval,Act.put]):P:=h
def zvr{P:Prop}(h:P:=by rw[gM,l1,uR];have:=Xr i (n-j) 1;omega):P:=h
def zrj{P:Prop}(h:P:=by rw[gM,l1,uR];have:=Xr i (n-j) 2;omega):P:=h
def zfu{P:Prop}(h:P:=by unfold parts;simp):P:=h
def zkP{P:Prop}(h:P:=by have:=h.size;omega):P:=h
def ziw{P:Prop}(h:P:=by unfold zB;omega):P:=h
end Go
namespace Go.Proofs.YtfcjiloojkjaeaaGreatDoor
open Go.RowKit
structure sJ (w0 w:aE)(gb:Nat)(o:jD)(v:fM)(r:b7):Prop where
 ok:eA w gb v r
 bel:bR gb w0 w
 ofc:w.heap[gb]? =some (.cells #[.int .i64 o.ln,.int .i64 o.op,.int .i64 o.pt] 29)
 res:w.heap[gb+1]? =some jW
 blk:w.heap[gb+6]? =some (G4 v r)
 aR:gb+2<=v.gR/\v.gR≠gb+6
 aW:gb+2<=v.gW/\v.gW≠gb+6
 aB:gb+2<=v.gB/\v.gB≠gb+6
 aL:gb+2<=v.gL/\v.gL≠gb+6
 size:gb+7<=w.heap.size
section
variable {w0 w w':aE}{gb:Nat}{o:jD}{v v':fM}{r r':b7}
def sJ.keep (h:sJ w0 w gb o v r)(b:bR w.heap.size w w'):sJ w0 w' gb o v r:=
 ⟨h.ok.below b,h.bel.trans (b.mono zkP),(b.block _ (fY h.ofc)).trans h.ofc,(b.block _ (fY h.res)).trans h.res,(b.block _ (fY h.blk)).trans h.blk,h.aR,h.aW,h.aB,h.aL,eG h.size b.size⟩
def sJ.alloc (h:sJ w0 w gb o v r)(ob:Obj):sJ w0 (w.alloc ob) gb o v r:=h.keep (dS (eF _ _) ob)
def sJ.drew (h:sJ w0 w gb o v r):sJ w0 w.drew gb o v r:=h.keep ⟨rfl,rfl,rfl,aX _,λ_ _=>rfl⟩
theorem sJ.stepped (h:sJ w0 w gb o v r)(ok:eA w' gb v' r')(t:oK v w w')(m:wS w.heap.size v v'):
 bR gb w0 w'/\w'.heap[gb]? =w.heap[gb]? /\w'.heap[gb+1]? =w.heap[gb+1]? /\w'.heap[gb+6]? =w.heap[gb+6]? /\(gb+2<=v'.gR/\v'.gR≠gb+6)/\(gb+2<=v'.gW/\v'.gW≠gb+6)/\(gb+2<=v'.gB/\v'.gB≠gb+6)/\(gb+2<=v'.gL/\v'.gL≠gb+6)/\w.heap.size<=w'.heap.size:=by
 have aR:=h.aR;have aW:=h.aW;have aB:=h.aB;have aL:=h.aL;have mr:=m.r;have mw:=m.w;have mb:=m.b;have ml:=m.l;have sz:=h.size;refine⟨⟨t.os.trans h.bel.os,t.tape.trans h.bel.tape,t.output.trans h.bel.output,eG h.bel.size t.size,λb hb=>?_⟩,t.block _ aC aC aC,t.block _ aC aC aC,t.block _ aC aC aC,aC,aC,aC,aC,t.size⟩;exact(t.block b aC aC aC).trans (h.bel.block b hb)
theorem sJ.stored (ok:eA w gb v' r')(bel:bR gb w0 w)(e0:w.heap[gb]? =some (.cells #[.int .i64 o.ln,.int .i64 o.op,.int .i64 o.pt] 29))(e1:w.heap[gb+1]? =some jW)(e6:w.heap[gb+6]? =some (G4 v r))
 (a1:gb+2<=v'.gR/\v'.gR≠gb+6) (a2:gb+2<=v'.gW/\v'.gW≠gb+6) (a3:gb+2<=v'.gB/\v'.gB≠gb+6) (a4:gb+2<=v'.gL/\v'.gL≠gb+6) (sz:gb+7<=w.heap.size):
 sJ w0 (gX w (gb+6) (.int .i64 r'.o.ln) (.int .i64 r'.o.op) (.int .i64 r'.o.pt) (.int .i64 r'.clk) (v'.sR r') (v'.sW r') (v'.sB r') (v'.sL r')) gb o v' r':=by
 refine⟨ok.set8 aC,?_,(Hc aC).trans e0,(Hc aC).trans e1,zdb e6,a1,a2,a3,a4,by rw[zlB];exact sz⟩;have c:=zgi w (gb+6) (.int .i64 r'.o.ln) (.int .i64 r'.o.op) (.int .i64 r'.o.pt) (.int .i64 r'.clk) (v'.sR r') (v'.sW r') (v'.sB r') (v'.sL r');exact bel.trans ⟨c.os,c.tape,c.output,c.size,λb hb=>c.block b aC aC⟩
theorem sJ.appL {m g c:Nat}{x:List UInt8}(h:sJ w0 w gb o v r)(hg:w.grownBy w' (some v.gL))(ho:w'.ownsRow gb 9 1 (.slice (some ⟨g,0,none⟩) m c) m (nG r.log++[.string ⟨x.toArray⟩]))(hm:m=r.log.length+1)(hw:g=v.gL\/g=w.heap.size):
 sJ w0 (w'.setCell ⟨gb+6,7,none⟩ (.slice (some ⟨g,0,none⟩) m c)) gb o {v with gL:=g,cL:=c} {r with log:=r.log++[x]}:=by
 have aR:=h.aR;have aW:=h.aW;have aB:=h.aB;have aL:=h.aL;have sz:=h.size;have l:=h.ok.lts;have hk:=h.ok.appL hg ho hm aC;have hs:=hg.size;have kb:=(zE hg h.blk aC).1;have k0:=(zE hg h.ofc aC).1;have k1:=(zE hg h.res aC).1;have aT:g≠gb+6:=aC;refine⟨hk.setCell (by refine⟨?_,?_,?_,?_⟩<;>(simp only;omega)),?_,(eH w' _ _ gb (by show gb≠gb+6;omega)).trans k0,(eH w' _ _ (gb+1) (by show gb+1≠gb+6;omega)).trans k1,?_,aR,aW,aB,⟨by simp only;omega,aT⟩,by rw[sN];omega⟩
 .refine⟨hg.os.trans h.bel.os,hg.tape.trans h.bel.tape,hg.output.trans h.bel.output,by rw[sN];exact eG h.bel.size hs,λb hb=>?_⟩
  exact((eH w' _ _ b (by show b≠gb+6;omega)).trans (hg.block b aC r9)).trans (h.bel.block b hb)
 .rw[nJ kb]
  have e:=room_L v r g c (r.log++[x]);rw[hm];simp only[gM,qA,rY] at e;exact congrArg (λa=>some (Obj.cells a 59)) e
end
def zEM (o:jD)(es:List dB)(w:aE)(x:Ending)(w':aE):Prop:=
 ∃v,x=.returned (.tuple #[.agg (fS v (Cr o es)),.bool (gG o es)])/\eA w' w.heap.size v (Cr o es)/\bR w.heap.size w w'
variable {w0 w:aE}{gb:Nat}{o:jD}{v:fM}{r:b7}
theorem sJ.done {a0 a1 a2 a3 a4 a5 a6 a7:aF}(h:sJ w0 w gb o v r):eA (gX w (gb+1) a0 a1 a2 a3 a4 a5 a6 a7) gb v r/\bR gb w0 (gX w (gb+1) a0 a1 a2 a3 a4 a5 a6 a7):=by
 have aR:=h.aR;have aW:=h.aW;have aB:=h.aB;have aL:=h.aL;refine⟨h.ok.set8 aC,?_⟩;have c:=zgi w (gb+1) a0 a1 a2 a3 a4 a5 a6 a7;exact h.bel.trans ⟨c.os,c.tape,c.output,c.size,λb hb=>c.block b zkP aC⟩
def sJ.doneR (h:sJ w0 w gb o v r)(v1:fM)(r1:b7):eA (gX w (gb+1) (.int .i64 r1.o.ln) (.int .i64 r1.o.op) (.int .i64 r1.o.pt) (.int .i64 r1.clk) (v1.sR r1) (v1.sW r1) (v1.sB r1) (v1.sL r1)) gb v r/\bR gb w0 (gX w (gb+1) (.int .i64 r1.o.ln) (.int .i64 r1.o.op) (.int .i64 r1.o.pt) (.int .i64 r1.clk) (v1.sR r1) (v1.sW r1) (v1.sB r1) (v1.sL r1)):=h.done
def zDc {w':aE}{b g o1:Nat}{o2 o3 o4:Nat}{v1 v2 v3 v4:aF}(h:w.cell? ⟨b,o1,none⟩=some v1/\w.cell? ⟨b,o2,none⟩=some v2/\w.cell? ⟨b,o3,none⟩=some v3/\w.cell? ⟨g,o4,none⟩=some v4)(k1:w'.heap[b]? =w.heap[b]?)(k2:w'.heap[g]? =w.heap[g]?):
 w'.cell? ⟨b,o1,none⟩=some v1/\w'.cell? ⟨b,o2,none⟩=some v2/\w'.cell? ⟨b,o3,none⟩=some v3/\w'.cell? ⟨g,o4,none⟩=some v4:=
 ⟨(Br k1).trans h.1,(Br k1).trans h.2.1,(Br k1).trans h.2.2.1,(Br k2).trans h.2.2.2⟩
def zFC {b g o1:Nat}{o2 o3 o4:Nat}{v1 v2 v3 v4:aF}(h:w.cell? ⟨b,o1,none⟩=some v1/\w.cell? ⟨b,o2,none⟩=some v2/\w.cell? ⟨b,o3,none⟩=some v3/\w.cell? ⟨g,o4,none⟩=some v4):
 w.drew.cell? ⟨b,o1,none⟩=some v1/\w.drew.cell? ⟨b,o2,none⟩=some v2/\w.drew.cell? ⟨b,o3,none⟩=some v3/\w.drew.cell? ⟨g,o4,none⟩=some v4:=h
def zz8 (w:aE)(b:Nat):w.drew.heap[b]? =w.heap[b]? :=rfl
def zpq:(aK.info? 9).map (λi=>(i.zero,i.size,i.bytes))=some (some (.string ⟨#[]⟩),1,16):=aP
variable {es:List dB}
theorem Zr (h:gG o es=false):Cr o es=l7 o:=by unfold Cr;rw[h];rfl
theorem zJi (o:jD)(lo hi n c:Nat)(A:Option bL)(es:List dB)(w:aE)(h:bX w lo hi 3 A n c (lL es))(hn:n<=1048576)(Ll:hi<=w.heap.size):
 fH aK 40 #[.agg #[.int .i64 o.ln,.int .i64 o.op,.int .i64 o.pt],.slice A n c] w (zEM o es w):=by
 have Bo:=h.eventsLen;have Oj:=aD Bo;obtain⟨gb,eV⟩:=aU w.heap.size;have fQ:=aD eV;clear Bo
 go_enter Tryz.func40,Tryz.ntmps40
 go_upto_region 2 with fail
 obtain⟨v0,fJ⟩:=aU (⟨w.heap.size+1+1,0,w.heap.size+1+1+1,0,w.heap.size+1+1+1+1,0,w.heap.size+1+1+1+1+1,0⟩:fM)
 obtain⟨W1,dG⟩:∃y,y=(((((((w.alloc (.cells #[.int .i64 o.ln,.int .i64 o.op,.int .i64 o.pt] 29)).alloc jW).alloc (.cells #[] 50)).alloc (.cells #[] 100)).alloc (.cells #[] 100)).alloc (.cells #[] 9)).alloc
  (.cells #[.int .i64 o.ln,.int .i64 o.op,.int .i64 o.pt,.int .i64 0,.slice (some ⟨w.heap.size+1+1,0,none⟩) 0 0,.slice (some ⟨w.heap.size+1+1+1,0,none⟩) 0 0,.slice (some ⟨w.heap.size+1+1+1+1,0,none⟩) 0 0,.slice (some ⟨w.heap.size+1+1+1+1+1,0,none⟩) 0 0] 59)):=⟨_,rfl⟩
 have eW:=aD (show sJ w W1 gb o v0 (l7 o) by
  have mQ:bR w.heap.size w W1:=by rw[dG];exact dS (dS (dS (dS (dS (dS (dS (eF _ _) _) _) _) _) _) _) _
  refine⟨⟨?_,?_,?_,?_,?_⟩,by rw[eV];exact mQ,?_,?_,?_,?_,?_,?_,?_,?_⟩
  .rw[fJ];exact Pd Lz (by rw[dG];exact dJ (dJ (dJ (dJ (mV _ _ aQ) _) _) _) _)
  .rw[fJ];exact Pd Lz (by rw[dG];exact dJ (dJ (dJ (mV _ _ aQ) _) _) _)
  .rw[fJ];exact Pd Lz (by rw[dG];exact dJ (dJ (mV _ _ aQ) _) _)
  .rw[fJ];exact Pd Lz (by rw[dG];exact dJ (mV _ _ aQ) _)
  .rw[fJ];simp only;omega
  .rw[dG];exact dJ (dJ (dJ (dJ (dJ (dJ (mV _ _ eV) _) _) _) _) _) _
  .rw[dG];exact dJ (dJ (dJ (dJ (dJ (mV _ _ Xm) _) _) _) _) _
  .rw[dG,fJ];exact mV _ _ Xm
  .rw[fJ];simp only;omega
  .rw[fJ];simp only;omega
  .rw[fJ];simp only;omega
  .rw[fJ];simp only;omega
  .rw[dG,eV];simp)
 rw[<-dG];have e6:w.heap.size+1+1+1+1+1+1=gb+6:=aC;rw[e6,<-eV];clear dG fJ e6 eV;have q0:=aJ eW.o.ofc 0;have q1:=aJ eW.o.ofc 1;have q2:=aJ eW.o.ofc 2;cases hv:rR o
 case false=>
  have fD:=aD (show gG o es=false by unfold gG;rw[hv];rfl)
  go_upto_region 3 with(go_at_call 34;refine(@zjx (l7 o,[]) o W1).mono ?_;rintro x w2 ⟨rfl,b2⟩;have rJ:=aD b2;rw[hv];clear b2)
  have nV:=aD (eW.o.keep rJ.o);clear q0 q1 q2;have k:=aJ nV.o.blk;obtain⟨k0,k1,k2,k3,k4,k5,k6,k7⟩:=eR k;clear k;have z:=aJ nV.o.res;obtain⟨z0,z1,z2,z3,z4,z5,z6,z7⟩:=eR z;clear z;have r0:=eJ nV.o.res
  go_wp2_with fail
  have er:=aJ (tD v0 (l7 o) nV.o.res);refine qW (v:=.tuple #[.agg (fS (v0) (l7 o)),.bool false]) ?_ rfl ?_
  .unfold gX at er
   simp[results,zd3,go_sem,er]
  .obtain⟨d1,d2⟩:=nV.o.doneR v0 (l7 o)
   exact⟨v0,by rw[fD.o];rw[Zr fD.o],by rw[Zr fD.o,<-fQ.o];exact d1,by rw[<-fQ.o];exact d2⟩
 case true=>
  by_cases zcO:n<=60
  case neg=>
   have fD:=aD (show gG o es=false by unfold gG;rw[hv,Oj.o];simp;intro h;omega)
   go_upto_region 3 with(go_at_call 34;refine(@zjx (l7 o,[]) o W1).mono ?_;rintro x w2 ⟨rfl,b2⟩;have rJ:=aD b2;rw[hv];clear b2)
   have nV:=aD (eW.o.keep rJ.o);clear q0 q1 q2;have k:=aJ nV.o.blk;obtain⟨k0,k1,k2,k3,k4,k5,k6,k7⟩:=eR k;clear k;have z:=aJ nV.o.res;obtain⟨z0,z1,z2,z3,z4,z5,z6,z7⟩:=eR z;clear z;have r0:=eJ nV.o.res
   go_wp2_with fail
   have er:=aJ (tD v0 (l7 o) nV.o.res);refine qW (v:=.tuple #[.agg (fS (v0) (l7 o)),.bool false]) ?_ rfl ?_
   .unfold gX at er
    simp[results,zd3,go_sem,er]
   .obtain⟨d1,d2⟩:=nV.o.doneR v0 (l7 o)
    exact⟨v0,by rw[fD.o];rw[Zr fD.o],by rw[Zr fD.o,<-fQ.o];exact d1,by rw[<-fQ.o];exact d2⟩
  case pos=>
   have HV:=aD hv
   go_upto_region 4 with(go_at_call 34;refine(@zjx (l7 o,[]) o W1).mono ?_;rintro x w2 ⟨rfl,b2⟩;have rJ:=aD b2;rw[hv];clear b2)
   have nV:=aD (eW.o.keep rJ.o);clear q0 q1 q2 hv
   go_wp2_with fail
   go_loopw [7] (λi wr=>∃k:Nat,k<=n/\i=.int .i64 k/\sJ w wr gb o v0 (l7 o)/\∀j,j<k->∀e,es[j]? =some e->tE o.op e=true) (λi _=>n-(intOf i).toNat)
   case atStart=>exact⟨0,jY _,rfl,nV.o,λj hj=>absurd hj aC⟩
   case round=>
    obtain⟨k,hk,rfl,Zp,fW⟩:=hrel;have HC:=aD fW;have Zw:=aD Zp;clear fW Zp;by_cases aN:k<n
    .obtain⟨b,off,e,hA,dQ,zFf,ziR,E9,e0,e1,e2⟩:=(h.below (fQ.o▸Zw.o.bel)).eventsAt aN
     subst hA;have Nu:=aD E9;have zDx:b<gb:=by have:=fQ.o;omega
     have i0:(0:Int)<=(k:Int):=aC;have i1:(k:Int)<(n:Int):=aC;have Dp:=aD (And.intro e0 (And.intro e1 (And.intro e2 (show wr.cell? ⟨gb,1,none⟩=some (.int .i64 o.op) from aJ Zw.o.ofc 1))));have zm1:gb<wr.heap.size:=fY Zw.o.ofc;clear E9 e0 e1 e2
     go_wp2_with fail
     go_region_held3 (λW=>W.cell? ⟨b,off+k*3,none⟩=some (.string e.k)/\W.cell? ⟨b,off+k*3+1,none⟩=some (.int .i64 e.a)/\W.cell? ⟨b,off+k*3+2,none⟩=some (.int .i64 e.b)/\W.cell? ⟨gb,1,none⟩=some (.int .i64 o.op))
      (first|exact Dp.o|exact zFC Dp.o|exact S5)
      ((go_at_call 50;refine(@zCm (l7 o,[]) e o.op wr.drew).mono ?_;rintro y w5 ⟨rfl,b5⟩;have zfg:bR wr.heap.size wr w5:=⟨b5.os,b5.tape,b5.output,b5.size,b5.block⟩;have Db:=aD zfg;have S5:=zDc Dp.o (zfg.block b aC) (zfg.block gb aC);clear b5 zfg))
     cases mH:tE o.op e
     .have fD:=aD (show gG o es=false by
       unfold gG;rw[Bool.and_eq_false_iff];refine .inr (Bool.eq_false_iff.2 λtF=>?_);rw[tK] at tF;have:=tF e (dX Nu.o);rw[mH] at this;cases this)
      have nV:=aD (Zw.o.keep Db.o);clear mH S5;have k:=aJ nV.o.blk;obtain⟨k0,k1,k2,k3,k4,k5,k6,k7⟩:=eR k;clear k;have z:=aJ nV.o.res;obtain⟨z0,z1,z2,z3,z4,z5,z6,z7⟩:=eR z;clear z;have r0:=eJ nV.o.res
      go_wp2_with fail
      have er:=aJ (tD v0 (l7 o) nV.o.res);refine qW (v:=.tuple #[.agg (fS (v0) (l7 o)),.bool false]) ?_ rfl ?_
      .unfold gX at er
       simp[results,zd3,go_sem,er]
      .obtain⟨d1,d2⟩:=nV.o.doneR v0 (l7 o)
       exact⟨v0,by rw[fD.o];rw[Zr fD.o],by rw[Zr fD.o,<-fQ.o];exact d1,by rw[<-fQ.o];exact d2⟩
     .go_wp2_with fail
      go_roundw
      case rel=>exact⟨k+1,aC,n6,Zw.o.keep Db.o,λj hj e' Nt=>by
       by_cases e:j=k
       .subst e;rw[Nu.o] at Nt;injection Nt with Nt;exact Nt▸mH
       .exact HC.o j aC e' Nt⟩
      case measure=>simp[intOf];omega
    .have e:k=n:=aC
     subst e;have bV:gG o es=true:=by
      unfold gG;rw[HV.o,Oj.o];simp only[Bool.true_and,fV,decide_eq_true_eq,tK];refine⟨zcO,λe he=>?_⟩;obtain⟨j,hj⟩:=F9.1 he;have tW:=(kE.1 hj).1;exact HC.o j (by rw[<-Oj.o];exact tW) e hj
     have fD:=aD bV;have zEg:=aD (P8 bV);clear bV
     go_wp2_with fail
     go_loopw [8] (λi wr=>∃(j:Nat) (v1:fM),j<=k/\i=.int .i64 j/\sJ w wr gb o v1 (mG o es j)) (λi _=>k-(intOf i).toNat)
     case atStart=>exact⟨0,v0,jY _,rfl,Zw.o⟩
     case round=>
      obtain⟨j,v1,hj,rfl,Zp⟩:=hrel;obtain⟨tI,tC,tO⟩:=zEg.o j (by rw[Oj.o];exact hj);obtain⟨r1,kC⟩:=aU (mG o es j);rw[<-kC] at Zp tI tC tO;have lJ:=aD kC;have lE:=aD Zp;clear kC Zp;by_cases aN:j<k
      .obtain⟨b,off,e,hA,dQ,zFf,ziR,E9,e0,e1,e2⟩:=(h.below (fQ.o▸lE.o.bel)).eventsAt aN
       subst hA;have zDx:b<gb:=by have:=fQ.o;omega
       have i0:(0:Int)<=(j:Int):=aC;have i1:(j:Int)<(k:Int):=aC;have ztY:=aD (tI.good tC aC);have zk9:=aD (show tE r1.o.op e=true by
        rw[tO];have:=fD.o;unfold gG at this;simp only[fV,tK] at this;exact this.2 e (dX E9))
       have zsB:=aD (Xs (o:=o) E9);have oS:r1.log.length<=60:=by have:=tC.nl;omega
       have zhz:=aD (And.intro e0 (And.intro e1 e2));have cJ:=lE.o.size;have zm1:gb<=wr.heap.size:=aC;have zrE:=aD (RInv.step (e:=e) tI tC (by rw[tO];exact tO▸zk9.o) aC);clear tI tC tO E9 e0 e1 e2;have zgO:=aD (show∀W:aE,W.heap[b]? =wr.heap[b]? ->W.heap[gb+6]? =wr.heap[gb+6]? ->(W.cell? ⟨b,off+j*3,none⟩=some (.string e.k)/\W.cell? ⟨b,off+j*3+1,none⟩=some (.int .i64 e.a)/\W.cell? ⟨b,off+j*3+2,none⟩=some (.int .i64 e.b)/\W.cell? ⟨gb+6,0,none⟩=some (.int .i64 r1.o.ln)/\W.cell? ⟨gb+6,1,none⟩=some (.int .i64 r1.o.op)/\W.cell? ⟨gb+6,2,none⟩=some (.int .i64 r1.o.pt)/\W.cell? ⟨gb+6,3,none⟩=some (.int .i64 r1.clk)/\W.cell? ⟨gb+6,4,none⟩=some (v1.sR r1)/\W.cell? ⟨gb+6,5,none⟩=some (v1.sW r1)/\W.cell? ⟨gb+6,6,none⟩=some (v1.sB r1)/\W.cell? ⟨gb+6,7,none⟩=some (v1.sL r1)) from λW h1 h2=>by
        have k:=aJ (h2.trans lE.o.blk);exact⟨(Br h1).trans zhz.o.1,(Br h1).trans zhz.o.2.1,(Br h1).trans zhz.o.2.2,k 0,k 1,k 2,k 3,k 4,k 5,k 6,k 7⟩)
       have Dp:=aD (zgO.o wr.drew rfl rfl);have zHU:=aD (zgO.o wr rfl rfl);have z6:gb+6<wr.heap.size:=aC;have zb:b<wr.heap.size:=aC;have aR:=lE.o.aR;have aB:=lE.o.aB
       go_wp2_with fail
       go_region_held3 (λW=>W.cell? ⟨b,off+j*3,none⟩=some (.string e.k)/\W.cell? ⟨b,off+j*3+1,none⟩=some (.int .i64 e.a)/\W.cell? ⟨b,off+j*3+2,none⟩=some (.int .i64 e.b)/\W.cell? ⟨gb+6,0,none⟩=some (.int .i64 r1.o.ln)/\W.cell? ⟨gb+6,1,none⟩=some (.int .i64 r1.o.op)/\W.cell? ⟨gb+6,2,none⟩=some (.int .i64 r1.o.pt)/\W.cell? ⟨gb+6,3,none⟩=some (.int .i64 r1.clk)/\W.cell? ⟨gb+6,4,none⟩=some (v1.sR r1)/\W.cell? ⟨gb+6,5,none⟩=some (v1.sW r1)/\W.cell? ⟨gb+6,6,none⟩=some (v1.sB r1)/\W.cell? ⟨gb+6,7,none⟩=some (v1.sL r1))
        (first|with_reducible exact Dp.o|with_reducible exact zHU.o|with_reducible exact zgO.o _ zq4 zyx|(with_reducible refine zgO.o _ ?_ ?_<;>(repeat' (first|with_reducible assumption|with_reducible rfl|(refine(zz8 _ _).trans ?_)|(refine(eH _ _ _ _ ?_).trans ?_;(first|omega|(simp;omega)))|(refine(uB _ _ _ ?_).trans ?_;(first|omega|(simp;omega)))))))
        (first|(go_at_call 51;refine(zoP gb v1 r1 e wr.drew lE.o.drew.ok ztY.o zm1 zk9.o).mono ?_;rintro y w5 ⟨v5,rfl,bV,jT,xJ⟩;obtain⟨r5,fF⟩:=aU ((eN r1 e).1:b7);obtain⟨t5,o8⟩:=aU ((eN r1 e).2:List UInt8);rw[<-fF] at bV⊢;rw[<-o8];have pK:=aD fF;have Bc:=aD o8;have wJ:=aD bV;have uF:=aD jT;have oF:=aD xJ;have zq4:w5.heap[b]? =wr.heap[b]? :=jT.block b zb aC aC;have zyx:w5.heap[gb+6]? =wr.heap[gb+6]? :=jT.block (gb+6) z6 aC aC;have z5:wr.heap.size<=w5.heap.size:=jT.size;have Nr:=aD lE.o.drew;clear fF o8 bV jT xJ)|(go_at_call 51;refine(zoP gb v1 r1 e (wr.alloc jW).drew (lE.o.alloc jW).drew.ok ztY.o (by show gb<=(wr.alloc jW).heap.size;simp;omega) zk9.o).mono ?_;rintro y w5 ⟨v5,rfl,bV,jT,xJ⟩;obtain⟨r5,fF⟩:=aU ((eN r1 e).1:b7);obtain⟨t5,o8⟩:=aU ((eN r1 e).2:List UInt8);rw[<-fF] at bV⊢;rw[<-o8];have pK:=aD fF;have Bc:=aD o8;have wJ:=aD bV;have uF:=aD jT;have oF:=aD xJ;have zq4:w5.heap[b]? =wr.heap[b]? :=(jT.block b (by show b<(wr.alloc jW).heap.size;simp;omega) aC aC).trans (uB wr jW b zb);have zyx:w5.heap[gb+6]? =wr.heap[gb+6]? :=(jT.block (gb+6) (by show gb+6<(wr.alloc jW).heap.size;simp;omega) aC aC).trans (uB wr jW _ z6);have z5:wr.heap.size<w5.heap.size:=(by have:=jT.size;have e:(wr.alloc jW).drew.heap.size=wr.heap.size+1:=(by show(wr.alloc jW).heap.size=_;simp);omega);have kr:w5.heap[wr.heap.size]? =some jW:=(jT.block wr.heap.size (by show wr.heap.size<(wr.alloc jW).heap.size;simp) (by have:=lE.o.ok.lts;omega) (by have:=lE.o.ok.lts;omega)).trans (lQ wr jW);have zCI:=aD kr;have z:=aJ kr;have r0:=eJ kr;have z0:=z 0;have z1:=z 1;have z2:=z 2;have z3:=z 3;have z4:=z 4;have z5:=z 5;have z7:=z 7;have zcs:=z 6;have Nr:=aD (lE.o.alloc jW).drew;clear fF o8 bV jT xJ kr z))
       .
         obtain⟨W6,q9⟩:=aU (w5.alloc (G4 v5 r5));obtain⟨nb,nK⟩:=aU w5.heap.size;rw[<-q9,<-nK];have hN:W6.heap[nb]? =some (G4 v5 r5):=by rw[q9];exact mV _ _ nK
         have Sq:eA W6 gb v5 r5:=by rw[q9];exact wJ.o.alloc _
         obtain⟨zcE,p0,p1,p6,a1,a2,a3,a4,zfT⟩:=Nr.o.stepped wJ.o uF.o oF.o;have zck:bR gb w W6:=by rw[q9];exact zcE.alloc aC _
         have q0:W6.heap[gb]? =some (.cells #[.int .i64 o.ln,.int .i64 o.op,.int .i64 o.pt] 29):=by rw[q9];exact(uB _ _ gb aC).trans (p0.trans Nr.o.ofc)
         have q1:W6.heap[gb+1]? =some jW:=by rw[q9];exact(uB _ _ (gb+1) aC).trans (p1.trans Nr.o.res)
         have q6:W6.heap[gb+6]? =some (G4 v1 r1):=by rw[q9];exact(uB _ _ (gb+6) aC).trans (p6.trans Nr.o.blk)
         have zlx:gb+7<=W6.heap.size:=by rw[q9];simp;omega
         have Cm:nb≠gb+6:=aC;clear q9 nK zcE p0 p1 p6 zfT;have zA3:=aD hN;have zGg:=aD Sq;have zca:r5.log=r1.log:=by rw[pK.o];exact zrE.o.2.2.2
         have zHm:r5.log.length<=60:=by rw[zca];exact oS
         have Cn:=aD (sJ.stored Sq zck q0 q1 q6 a1 a2 a3 a4 zlx);have k:=aJ hN;obtain⟨k0,k1,k2,k3,k4,k5,k6,k7⟩:=eR k;have z:=aJ q6;obtain⟨z0,z1,z2,z3,z4,z5,zcs,z7⟩:=eR z;have r0:=eJ q6;clear k z hN Sq zck q0 q1 q6 zca
         go_upto_region 14 with fail
         obtain⟨W7,Bz⟩:=aU (gX W6 (gb+6) (.int .i64 r5.o.ln) (.int .i64 r5.o.op) (.int .i64 r5.o.pt) (.int .i64 r5.clk) (v5.sR r5) (v5.sW r5) (v5.sB r5) (v5.sL r5));rw[<-Bz] at Cn;unfold gX at Bz;rw[<-Bz];clear Bz k0 k1 k2 k3 k4 k5 k6 k7 z0 z1 z2 z3 z4 z5 zcs z7 r0;have k7:=aJ Cn.o.blk 7;have zHz:=Cn.o.size;have zlc:=Cn.o.aL;obtain⟨ii,Ox,jN,eL,lH⟩:=zI zpq;have zcN:=aD Ox;clear Ox
         go_wp2_with (at_builtin;refine zjH _ rfl (.tmp 58) (.tmp 60) 26 rfl gb 9 ii (.string ⟨#[]⟩) 1 16 zr0 zcN.o jN eL lH rfl aH v5.gL v5.cL r5.log.length (nG r5.log) rfl ((Cn.o.alloc _).ok.lg) ⟨_,0,none⟩ 1 1 [.string ⟨t5.toArray⟩] rfl rfl ?c2 Ng ?c5 ?c6 ?c7 ?_;(case c2=>exact E0 (cs:=#[.string ⟨t5.toArray⟩]) (lQ _ _));(case c5=>unfold maxLen;omega);(case c6=>omega);(case c7=>(simp;omega));intro g9 c9 w9 zb1 Q2 B9 zbB;have ziq:=aD ((Cn.o.alloc _).appL Q2 zb1 rfl zbB);have kx:=(zE Q2 (dJ Cn.o.blk _) (Ne.symm zlc.2)).1;have zzo:=aJ kx 7;have wK:=eJ kx;clear zb1 Q2 B9 zbB kx)
         go_roundw
         case rel=>
          refine⟨j+1,{v5 with gL:=g9,cL:=c9},aC,n6,?_⟩;rw[zsB.o,<-lJ.o];have e:Dy (eN r1 e)={r5 with log:=r5.log++[t5]}:=by rw[pK.o,Bc.o];rfl
          rw[e];exact ziq.o
         case measure=>simp[intOf];omega
       .
         obtain⟨nb,nK⟩:=aU wr.heap.size;obtain⟨W6,q9⟩:=aU (gX w5 nb (.int .i64 r5.o.ln) (.int .i64 r5.o.op) (.int .i64 r5.o.pt) (.int .i64 r5.clk) (v5.sR r5) (v5.sW r5) (v5.sB r5) (v5.sL r5));obtain⟨zcE,p0,p1,p6,a1,a2,a3,a4,zfT⟩:=Nr.o.stepped wJ.o uF.o oF.o;have l1:=lE.o.ok.lts;have mr:=oF.o.r;have mw:=oF.o.w;have mb:=oF.o.b;have ml:=oF.o.l;have eX:(wr.alloc jW).drew.heap.size=nb+1:=by rw[nK];show(wr.alloc jW).heap.size=_;simp
         rw[eX] at mr mw mb zfT;have hN:W6.heap[nb]? =some (G4 v5 r5):=by rw[q9,nK];exact zdb zCI.o
         have Sq:eA W6 gb v5 r5:=by rw[q9];exact wJ.o.set8 aC
         have Vq:=zgi w5 nb (.int .i64 r5.o.ln) (.int .i64 r5.o.op) (.int .i64 r5.o.pt) (.int .i64 r5.clk) (v5.sR r5) (v5.sW r5) (v5.sB r5) (v5.sL r5);have zck:bR gb w W6:=by rw[q9];exact zcE.trans ⟨Vq.os,Vq.tape,Vq.output,Vq.size,λx hx=>Vq.block x aC aC⟩
         have q0:W6.heap[gb]? =some (.cells #[.int .i64 o.ln,.int .i64 o.op,.int .i64 o.pt] 29):=by rw[q9];exact(Hc aC).trans (p0.trans Nr.o.ofc)
         have q1:W6.heap[gb+1]? =some jW:=by rw[q9];exact(Hc aC).trans (p1.trans Nr.o.res)
         have q6:W6.heap[gb+6]? =some (G4 v1 r1):=by rw[q9];exact(Hc aC).trans (p6.trans Nr.o.blk)
         have zlx:gb+7<=W6.heap.size:=by rw[q9,zlB];omega
         have Cm:nb≠gb+6:=aC;unfold gX at q9;rw[<-nK,<-q9];clear q9 nK zcE p0 p1 p6 zfT Vq l1 mr mw mb ml eX z0 z1 z2 z3 z4 z5 zcs z7 r0;have zA3:=aD hN;have zGg:=aD Sq;have zca:r5.log=r1.log:=by rw[pK.o];exact zrE.o.2.2.2
         have zHm:r5.log.length<=60:=by rw[zca];exact oS
         have Cn:=aD (sJ.stored Sq zck q0 q1 q6 a1 a2 a3 a4 zlx);have k:=aJ hN;obtain⟨k0,k1,k2,k3,k4,k5,k6,k7⟩:=eR k;have z:=aJ q6;obtain⟨z0,z1,z2,z3,z4,z5,zcs,z7⟩:=eR z;have r0:=eJ q6;clear k z hN Sq zck q0 q1 q6 zca
         go_upto_region 14 with fail
         obtain⟨W7,Bz⟩:=aU (gX W6 (gb+6) (.int .i64 r5.o.ln) (.int .i64 r5.o.op) (.int .i64 r5.o.pt) (.int .i64 r5.clk) (v5.sR r5) (v5.sW r5) (v5.sB r5) (v5.sL r5));rw[<-Bz] at Cn;unfold gX at Bz;rw[<-Bz];clear Bz k0 k1 k2 k3 k4 k5 k6 k7 z0 z1 z2 z3 z4 z5 zcs z7 r0;have k7:=aJ Cn.o.blk 7;have zHz:=Cn.o.size;have zlc:=Cn.o.aL;obtain⟨ii,Ox,jN,eL,lH⟩:=zI zpq;have zcN:=aD Ox;clear Ox
         go_wp2_with (at_builtin;refine zjH _ rfl (.tmp 58) (.tmp 60) 26 rfl gb 9 ii (.string ⟨#[]⟩) 1 16 zr0 zcN.o jN eL lH rfl aH v5.gL v5.cL r5.log.length (nG r5.log) rfl ((Cn.o.alloc _).ok.lg) ⟨_,0,none⟩ 1 1 [.string ⟨t5.toArray⟩] rfl rfl ?c2 Ng ?c5 ?c6 ?c7 ?_;(case c2=>exact E0 (cs:=#[.string ⟨t5.toArray⟩]) (lQ _ _));(case c5=>unfold maxLen;omega);(case c6=>omega);(case c7=>(simp;omega));intro g9 c9 w9 zb1 Q2 B9 zbB;have ziq:=aD ((Cn.o.alloc _).appL Q2 zb1 rfl zbB);have kx:=(zE Q2 (dJ Cn.o.blk _) (Ne.symm zlc.2)).1;have zzo:=aJ kx 7;have wK:=eJ kx;clear zb1 Q2 B9 zbB kx)
         go_roundw
         case rel=>
          refine⟨j+1,{v5 with gL:=g9,cL:=c9},aC,n6,?_⟩;rw[zsB.o,<-lJ.o];have e:Dy (eN r1 e)={r5 with log:=r5.log++[t5]}:=by rw[pK.o,Bc.o];rfl
          rw[e];exact ziq.o
         case measure=>simp[intOf];omega
      .have e:j=k:=aC
       subst e;have zgB:=aD (show Cr o es=r1 by unfold Cr;rw[fD.o,<-zdI,Oj.o,<-lJ.o];exact if_pos rfl);clear tI tC tO aN;have k:=aJ lE.o.blk;obtain⟨k0,k1,k2,k3,k4,k5,k6,k7⟩:=eR k;clear k;have z:=aJ lE.o.res;obtain⟨z0,z1,z2,z3,z4,z5,z6,z7⟩:=eR z;clear z;have r0:=eJ lE.o.res
       go_wp2_with fail
       have er:=aJ (tD v1 r1 lE.o.res);refine qW (v:=.tuple #[.agg (fS (v1) (r1)),.bool true]) ?_ rfl ?_
       .unfold gX at er
        simp[results,zd3,go_sem,er]
       .obtain⟨d1,d2⟩:=lE.o.doneR v1 r1
        exact⟨v1,by rw[fD.o];rw[zgB.o],by rw[zgB.o,<-fQ.o];exact d1,by rw[<-fQ.o];exact d2⟩
structure jE (b:b7):Prop where
 opn:∀(i j:Nat) (d e:bT),b.recs[i]? =some d->b.recs[j]? =some e->eI d=true->eI e=true->(d.c=e.c\/d.l=e.l\/(d.o=e.o/\0<d.o))->i=j
 last:∀(i j:Nat) (d e:bT),b.recs[i]? =some d->eI d=true->b.recs[j]? =some e->e.c=d.c->j<=i
 wt:∀x∈b.wait,∃(i:Nat) (d:bT),b.recs[i]? =some d/\eI d=true/\d.c=x.c/\d.o=0
 bk:(b.back.map bJ.c).Nodup
 bo:∀x∈b.back,jJ b.recs x.c=none
variable {rs:List bT}{c:Int}
theorem zlq (h:∀(i:Nat) (d:bT),rs[i]? =some d->eI d=true->d.c≠c):jJ rs c=none:=by
 cases ho:jJ rs c with
 |none=>rfl
 |some i=>
  obtain⟨d,h1,h2,h3⟩:=Bs ho;exact absurd h2 (h i d h1 h3)
theorem Kt (h:jJ rs c=none):∀(i:Nat) (d:bT),rs[i]? =some d->eI d=true->d.c≠c:=by
 intro i d hd ho e;have:(jJ rs c).isSome=true:=by
  rw[zaI,Ue];exact⟨d,dX hd,by unfold Ao;rw[ho,e];simp⟩
 rw[h] at this;cases this
variable {b:b7}{i:Nat}{d:bT}
theorem jE.at_ (h:jE b)(hd:b.recs[i]? =some d)(ho:eI d=true):jJ b.recs d.c=some i:=by
 cases e:jJ b.recs d.c with
 |none=>exact absurd rfl (Kt e i d hd ho)
 |some j=>
  obtain⟨d',h1,h2,h3⟩:=Bs e;rw[h.opn j i d' d h1 hd h3 ho (.inl h2)]
theorem J9 {r:bT}(h:(rs++[r])[i]? =some d):(i<rs.length/\rs[i]? =some d)\/(i=rs.length/\d=r):=by
 rcases mX i rs.length with hl|hl
 .rw[y3 hl] at h;exact .inl ⟨hl,h⟩
 .rw[Ah hl] at h
  have hz:i-rs.length=0:=by
   rcases Po (i-rs.length) with e|e
   .exact e
   .rw[Cu r9] at h;cases h
  rw[hz] at h;exact .inr ⟨aC,by simpa using h.symm⟩
theorem zgc {r:bT}(h:rs[i]? =some d):(rs++[r])[i]? =some d:=by
 rw[y3 (kE.1 h).1];exact h
variable {f:bT->bT}
theorem Fj {j:Nat}{z:bT}(h:(rs.modify i f)[j]? =some z):∃d,rs[j]? =some d/\((i=j/\z=f d)\/(i≠j/\z=d)):=by
 rw[zD] at h;rcases hr:rs[j]? with _|d
 .rw[hr] at h;cases h
 .rw[hr] at h
  simp at h;split at h
  .rename_i e;exact⟨d,rfl,.inl ⟨e,h.symm⟩⟩
  .rename_i e;exact⟨d,rfl,.inr ⟨e,h.symm⟩⟩
theorem Oy {j:Nat}(h:rs[j]? =some d)(aT:i≠j):(rs.modify i f)[j]? =some d:=by
 rw[zD,h];simp[aT]
theorem zcD (h:rs[i]? =some d):(rs.modify i f)[i]? =some (f d):=by
 rw[zD,h];simp
theorem zrQ {xs:List bJ}(h:(vD xs c).isSome=false):∀x∈xs,x.c≠c:=by
 unfold vD at h;rw[List.findIdx?_isSome] at h;intro x hx e;have:xs.any (λx=>x.c==c)=true:=Ue.2 ⟨x,hx,by simp[e]⟩;rw[this] at h;cases h
variable {l:Int}
theorem zmk (h:l∈oJ o rs):∀(i:Nat) (d:bT),rs[i]? =some d->eI d=true->d.l≠l:=by
 intro i d hd ho e;unfold oJ x6 at h;have h2:=(Iy.1 h).2;have:rB rs l=true:=by unfold rB;exact Ue.2 ⟨d,dX hd,by simp[e,ho]⟩
 rw[this] at h2;cases h2
variable {op:Int}
theorem zgr (h1:∀d∈rs,1<=d.c)(h:¬0<dK rs op):∀(i:Nat) (d:bT),rs[i]? =some d->eI d=true->d.o≠op:=by
 intro i d hd ho e;unfold dK at h
 cases hf:rs.find? (wA op) with
 |none=>
  have:=zdK.1 hf d (dX hd);unfold wA at this;rw[ho,e] at this;simp at this
 |some d'=>
  rw[hf] at h;have:=h1 d' (zhc hf);simp only at h;omega
theorem zir (hu:∀(i j:Nat) (d e:bT),rs[i]? =some d->rs[j]? =some e->eI d=true->eI e=true->d.o=op->e.o=op->i=j)(hd:rs[i]? =some d)(ho:eI d=true)(he:d.o=op):dK rs op=d.c:=by
 unfold dK
 cases hf:rs.find? (wA op) with
 |none=>
  have:=zdK.1 hf d (dX hd);unfold wA at this;rw[ho,he] at this;simp at this
 |some d'=>
  obtain⟨j,hj⟩:=F9.1 (zhc hf);have hp:=znO hf;unfold wA at hp;simp only[fV,beq_iff_eq] at hp;have:=hu j i d' d hj hd hp.2 ho hp.1 he;subst this;rw[hj] at hd;injection hd with hd;rw[hd]
theorem zpm (h:∀(i:Nat) (d:bT),rs[i]? =some d->eI d=true->d.o≠op):dK rs op=0:=by
 unfold dK
 cases hf:rs.find? (wA op) with
 |none=>rfl
 |some d'=>
  obtain⟨j,hj⟩:=F9.1 (zhc hf);have hp:=znO hf;unfold wA at hp;simp only[fV,beq_iff_eq] at hp;exact absurd hp.1 (h j d' hj hp.2)
theorem zrw (rs:List bT)(op:Int):(∃(i:Nat) (d:bT),rs[i]? =some d/\eI d=true/\d.o=op/\dK rs op=d.c)\/((∀(i:Nat) (d:bT),rs[i]? =some d->eI d=true->d.o≠op)/\dK rs op=0):=by
 unfold dK
 cases hf:rs.find? (wA op) with
 |none=>
  refine .inr ⟨λi d hd ho e=>?_,rfl⟩;have:=zdK.1 hf d (dX hd);unfold wA at this;rw[ho,e] at this;simp at this
 |some d'=>
  obtain⟨j,hj⟩:=F9.1 (zhc hf);have hp:=znO hf;unfold wA at hp;simp only[fV,beq_iff_eq] at hp;exact .inl ⟨j,d',hj,hp.2,hp.1,rfl⟩
variable {hh:Int}{wait back:List bJ}
theorem jE.more (h:jE b){o:Int}{tt:Int}{clk:Int}(hc:jJ b.recs c=none)(hl:∀(i:Nat) (d:bT),b.recs[i]? =some d->eI d=true->d.l≠l)(ho:o=0\/∀(i:Nat) (d:bT),b.recs[i]? =some d->eI d=true->d.o≠o)
  (hw:∀x∈wait,x∈b.wait\/(x.c=c/\o=0)) (hb:(back.map bJ.c).Nodup) (rF:∀x∈back,x∈b.back/\x.c≠c):jE {b with recs:=b.recs++[⟨c,l,o,clk,hh,tt,eM⟩],wait:=wait,back:=back}:=by
 have hop:eI ⟨c,l,o,clk,hh,tt,eM⟩=true:=by unfold eI;rw[ze9];rfl
 refine⟨λi j d e hi hj hd he hx=>?_,λi j d e hi hd hj hx=>?_,λx hx=>?_,hb,λx hx=>?_⟩
 .rcases J9 hi with⟨zJ,Ls⟩|⟨rfl,rfl⟩<;>rcases J9 hj with⟨Gl,Pw⟩|⟨rfl,rfl⟩
  .exact h.opn i j d e Ls Pw hd he hx
  .exfalso
   rcases hx with hx|hx|⟨hx,h0⟩
   .exact Kt hc i d Ls hd hx
   .exact hl i d Ls hd hx
   .rcases ho with rfl|ho
    .simp only at hx;omega
    .exact ho i d Ls hd hx
  .exfalso
   rcases hx with hx|hx|⟨hx,h0⟩
   .exact Kt hc j e Pw he hx.symm
   .exact hl j e Pw he hx.symm
   .rcases ho with rfl|ho
    .simp only at h0;omega
    .exact ho j e Pw he hx.symm
  .rfl
 .rcases J9 hi with⟨zJ,Ls⟩|⟨rfl,rfl⟩<;>rcases J9 hj with⟨Gl,Pw⟩|⟨rfl,rfl⟩
  .exact h.last i j d e Ls hd Pw hx
  .exact absurd hx.symm (Kt hc i d Ls hd)
  .omega
  .exact aX _
 .rcases hw x hx with hx|⟨hx,h0⟩
  .obtain⟨i,d,h1,h2⟩:=h.wt x hx
   exact⟨i,d,zgc h1,h2⟩
  .exact⟨b.recs.length,_,by rw[Ah (aX _),Nv];rfl,hop,hx.symm,h0⟩
 .obtain⟨h1,h2⟩:=rF x hx
  refine zlq λi d hd uZ=>?_;rcases J9 hd with⟨_,h3⟩|⟨_,rfl⟩
  .exact Kt (h.bo x h1) i d h3 uZ
  .exact λe=>h2 e.symm
theorem jE.ended (h:jE b)(hd:b.recs[i]? =some d)(zdF:eI d=true){e:ByteArray}(he:(e.toList==[111,112,101,110])=false)(hw:∀x∈wait,x∈b.wait/\x.c≠d.c)(hb:(back.map bJ.c).Nodup)(rF:∀x∈back,x∈b.back\/x.c=d.c):
 jE {b with recs:=Ki b i e,wait:=wait,back:=back}:=by
 have mL:∀z:bT,eI {z with t:=b.clk,e:=e}=false:=λz=>he;have old:∀(j:Nat) (z:bT),(Ki b i e)[j]? =some z->eI z=true->i≠j/\b.recs[j]? =some z:=λj z hj hz=>by
  obtain⟨d',h1,⟨_,rfl⟩|⟨h2,rfl⟩⟩:=Fj hj
  .rw[mL] at hz;cases hz
  .exact⟨h2,h1⟩
 refine⟨λp q x y hp hq hx hy hh=>?_,λp q x y hp hx hq hh=>?_,λx hx=>?_,hb,λx hx=>?_⟩
 .exact h.opn p q x y (old p x hp hx).2 (old q y hq hy).2 hx hy hh
 .obtain⟨d',h1,h2⟩:=Fj hq
  refine h.last p q x d' (old p x hp hx).2 hx h1 ?_;rcases h2 with⟨_,rfl⟩|⟨_,rfl⟩
  .exact hh
  .exact hh
 .obtain⟨h1,h2⟩:=hw x hx
  obtain⟨j,z,h3,h4,h5,h6⟩:=h.wt x h1;have aT:i≠j:=λe=>by subst e;rw[hd] at h3;injection h3 with h3;exact h2 (by rw[<-h5,<-h3])
  exact⟨j,z,Oy h3 aT,h4,h5,h6⟩
 .refine zlq λj z hj hz=>?_
  obtain⟨h1,h2⟩:=old j z hj hz;rcases rF x hx with h3|h3
  .exact Kt (h.bo x h3) j z h2 hz
  .rw[h3]
   exact λe=>h1 (h.opn i j d z hd h2 zdF hz (.inl e.symm))
theorem jE.heard (h:jE b)(hd:b.recs[i]? =some d)(zdF:eI d=true)(hop:∀(j:Nat) (z:bT),b.recs[j]? =some z->eI z=true->z.o≠op)(hw:∀x∈wait,x∈b.wait/\x.c≠d.c):
 jE {b with recs:=b.recs.modify i λd=>{d with o:=op,h:=hh},wait:=wait}:=by
 have yP:∀z:bT,eI {z with o:=op,h:=hh}=eI z:=λz=>rfl;refine⟨λp q x y hp hq hx hy he=>?_,λp q x y hp hx hq he=>?_,λx hx=>?_,h.bk,λx hx=>?_⟩
 .obtain⟨u,h1,⟨e1,rfl⟩|⟨e1,rfl⟩⟩:=Fj hp<;>obtain⟨v,h2,⟨e2,rfl⟩|⟨e2,rfl⟩⟩:=Fj hq
  .omega
  .refine h.opn p q u y h1 h2 hx hy ?_
   rcases he with he|he|⟨he,h0⟩
   .exact .inl he
   .exact .inr (.inl he)
   .exact absurd he.symm (hop q y h2 hy)
  .refine h.opn p q x v h1 h2 hx hy ?_
   rcases he with he|he|⟨he,h0⟩
   .exact .inl he
   .exact .inr (.inl he)
   .exact absurd he (hop p x h1 hx)
  .exact h.opn p q x y h1 h2 hx hy he
 .obtain⟨u,h1,e1⟩:=Fj hp
  obtain⟨v,h2,e2⟩:=Fj hq;have hu:eI u=true/\x.c=u.c:=by rcases e1 with⟨_,rfl⟩|⟨_,rfl⟩<;>exact⟨hx,rfl⟩
  have hv:y.c=v.c:=by rcases e2 with⟨_,rfl⟩|⟨_,rfl⟩<;>rfl
  exact h.last p q u v h1 hu.1 h2 (by rw[<-hv,<-hu.2];exact he)
 .obtain⟨h1,h2⟩:=hw x hx
  obtain⟨j,z,h3,h4,h5,h6⟩:=h.wt x h1;have aT:i≠j:=λe=>by subst e;rw[hd] at h3;injection h3 with h3;exact h2 (by rw[<-h5,<-h3])
  exact⟨j,z,Oy h3 aT,h4,h5,h6⟩
 .refine zlq λj z hj hz=>?_
  obtain⟨u,h1,e1⟩:=Fj hj;rcases e1 with⟨_,rfl⟩|⟨_,rfl⟩
  .exact Kt (h.bo x hx) j u h1 hz
  .exact Kt (h.bo x hx) j z h1 hz
variable {bt:b7×List UInt8}
def jE.log (h:jE bt.1):jE (Dy bt):=⟨h.opn,h.last,h.wt,h.bk,h.bo⟩
theorem jE.zero (o:jD):jE (l7 o):=⟨λi j d e h=>by simp[l7] at h,λi j d e h=>by simp[l7] at h,λx hx=>by simp[l7] at hx,Qa,λx hx=>by simp[l7] at hx⟩
theorem zgk:(Gi.toList==[111,112,101,110])=false:=by decide+kernel
theorem zmy:(Bx.toList==[111,112,101,110])=false:=by decide+kernel
theorem zhP:(D8.toList==[111,112,101,110])=false:=by decide+kernel
theorem jE.rings (h:jE b)(c:bJ):jE (qB b c).1:=by
 unfold qB;split
 .exact h
 .rename_i hk
  simp only[Bool.or_eq_true,not_or,Bool.not_eq_true] at hk;have hc:=Option.isSome_eq_false_iff.1 hk.1|>Option.isNone_iff_eq_none.1;have hb:=zrQ hk.2;split
  .refine⟨h.opn,h.last,h.wt,?_,λx hx=>?_⟩
   .show((b.back++[c]).map bJ.c).Nodup
    rw[Im];refine zka.2 ⟨h.bk,aQ,λa ha e he=>?_⟩;obtain⟨x,hx,rfl⟩:=Ir.1 ha;simp at he;subst he;exact hb x hx
   .rcases Er.1 hx with hx|hx
    .exact h.bo x hx
    .obtain rfl:=sE.1 hx;exact hc
  .rename_i l ls hf
   exact h.more (l:=l) hc (zmk Wt) (.inl rfl) (wait:=tN b.wait c) (λx hx=>by
    have:=(zaJ b.wait c).mem_iff.1 hx;rcases jL.1 this with rfl|h'
    .exact .inr ⟨rfl,rfl⟩
    .exact .inl h') h.bk (λx hx=>⟨hx,hb x hx⟩)
theorem jE.answers (h:jE b)(hr:RInv b)(op:Int):jE (nU b op).1:=by
 unfold nU;split
 .exact h
 .rename_i ht
  have hn:=zgr (λd hd=>(hr.recB d hd).1) ht;split
  .exact h
  .rename_i c cs hw
   split
   .exact h
   .rename_i i hi
    obtain⟨d,h1,h2,h3⟩:=Bs hi;exact h.heard h1 h3 hn (wait:=dY b.wait c.c) λx hx=>⟨(Dx hx).1,by rw[h2];exact(Dx hx).2⟩
theorem jE.returns (h:jE b)(hr:RInv b)(op:Int):jE (l8 b op).1:=by
 unfold l8;split
 .exact h
 .rename_i ht
  have hn:=zgr (λd hd=>(hr.recB d hd).1) ht;split
  .exact h
  .rename_i c cs hw
   split
   .exact h
   .rename_i l ls hf
    exact h.more (l:=l) (h.bo c (by rw[hw];simp)) (zmk Wt) (.inr hn) (wait:=b.wait) (back:=dY b.back c.c) (λx hx=>.inl hx) (zgs h.bk) (λx hx=>Dx hx)
theorem jE.hangs (h:jE b)(c:Int):jE (mD b c).1:=by
 unfold mD;split
 .rename_i i hi
  obtain⟨d,h1,h2,h3⟩:=Bs hi;have hw:∀x∈dY b.wait (G6 b.recs i),x∈b.wait/\x.c≠d.c:=λx hx=>⟨(Dx hx).1,by rw[<-Ui h1];exact(Dx hx).2⟩;split
  .exact h.ended h1 h3 zgk hw h.bk λx hx=>.inl hx
  .exact h.ended h1 h3 zmy hw h.bk λx hx=>.inl hx
 .split
  .exact⟨h.opn,h.last,h.wt,zgs h.bk,λx hx=>h.bo x (Dx hx).1⟩
  .exact h
theorem jE.tire {t:List UInt8}{x:bJ}(h:jE b):jE (l5 (b,t) x).1:=by
 unfold l5;split
 .exact h
 .rename_i i hi
  split
  .obtain⟨d,h1,h2,h3⟩:=Bs hi
   refine h.ended (wait:=dY b.wait (G6 b.recs i)) (back:=b.back++[x]) h1 h3 zhP (λy hy=>⟨(Dx hy).1,by rw[<-Ui h1];exact(Dx hy).2⟩) ?_ λy hy=>?_
   .rw[Im]
    refine zka.2 ⟨h.bk,aQ,λa ha e he=>?_⟩;obtain⟨y,hy,rfl⟩:=Ir.1 ha;simp at he;subst he;exact λe=>Kt (h.bo y hy) i d h1 h3 (by rw[h2,e])
   .rcases Er.1 hy with hy|hy
    .exact .inl hy
    .obtain rfl:=sE.1 hy;exact .inr h2.symm
  .exact h
theorem jE.tires:∀(xs:List bJ) (b:b7) (t:List UInt8),jE b->jE (xs.foldl l5 (b,t)).1:=by
 intro xs
 induction xs with
 |nil=>intro b t h;exact h
 |cons x xs ih=>
  intro b t h;rw[Pz];have h1:=h.tire (t:=t) (x:=x);generalize l5 (b,t) x=p at h1⊢;obtain⟨b',t'⟩:=p;exact ih b' t' h1
theorem jE.step (h:jE b)(hr:RInv b)(e:dB):jE (eN b e).1:=by
 unfold eN;split
 .exact h.rings _
 .split
  .exact h.answers hr _
  .split
   .exact h.returns hr _
   .split
    .exact h.hangs _
    .unfold uY
     exact jE.tires _ _ _ ⟨h.opn,h.last,h.wt,h.bk,h.bo⟩
theorem zua (h:gG o es=true):∀k,k<=es.length->jE (mG o es k):=by
 intro k
 induction k with
 |zero=>intro _;exact jE.zero o
 |succ k ih=>
  intro hk;have aN:k<es.length:=aC;rw[Xs (lO aN)];exact jE.log ((ih aC).step (P8 h k aC).1 _)
end Go.Proofs.YtfcjiloojkjaeaaGreatDoor
namespace Go.Mt
open Go.Conc
inductive fG where
 |ask (i:Nat) (kind call ans:Int)
 |shut (i:Nat)
inductive gQ where
 |mN (qs:List Nat)
 |mA (qs:List Nat) (a:Nat)
 |mS (qs:List Nat) (a:Nat)
 |mW (qs:List Nat)
 |mZ
 |op (c:Nat) (call:Int) (m:Nat)
 |an (c:Nat) (call:Int) (a:Nat) (m:Nat)
 |oD
 |wk (qs:List Nat) (k:Nat)
 |wr (qs:List Nat) (k:Nat) (a:Nat)
def L9 (kind call:Int)(a:Nat):Value:=.agg #[.int .i64 kind,.int .i64 call,.chan (some a)]
def unQ:aF->Option (Int×Int×Nat)
 | .agg xs=>match xs.toList with
  |[.int .i64 kd,.int .i64 cl,.chan (some a)]=>some (kd,cl,a)
  |_=>none
 |_=>none
def zgy (kd cl:Int)(a:Nat):unQ (L9 kd cl a)=some (kd,cl,a):=rfl
variable {kd cl:Int}
theorem unQ_inv {v:aF}{a:Nat}(h:unQ v=some (kd,cl,a)):v=L9 kd cl a:=by
 unfold unQ at h;split at h
 .rename_i xs
  split at h
  .rename_i e
   simp only[fT,Prod.mk.injEq] at h;obtain⟨rfl,rfl,rfl⟩:=h;unfold L9;congr 1;exact Array.ext' e
  .cases h
 .cases h
def qa (qs:List Nat)(j:Nat):Nat:=qs.getD j 0
def Tc (c:Nat)(call:Int)(m:Nat)(v:aF):gQ:=match unQ v with|some (kd,cl,a)=>.an c (if kd=1 then cl else call) a (m-1)|none=>.oD
def zfp (i:Nat):fG->Bool
 | .ask j _ _ _=>j==i
 |_=>false
def nX (W:List fG)(k i:Nat):Nat:=(W.drop k).countP (zfp i)
variable {W:List fG}
theorem ztW {k i:Nat}{ans:Int}(h:W[k]? =some (.ask i kd cl ans))(j:Nat):nX W k j=nX W (k+1) j+if j=i then 1 else 0:=by
 obtain⟨hl,he⟩:=kE.1 h;unfold nX;rw[zgj hl,he,zs0];by_cases e:j=i
 .subst e;simp[zfp]
 .have:¬i=j:=λx=>e x.symm
  simp[zfp,e,this]
theorem zzD {k i:Nat}(h:W[k]? =some (.shut i))(j:Nat):nX W (k+1) j=nX W k j:=by
 obtain⟨hl,he⟩:=kE.1 h;unfold nX;rw[zgj hl,he,zs0];simp[zfp]
def Qb (v:aF):List Nat:=match unQ v with|some (_,_,a)=>[a]|none=>[]
def Yw (qs:List Nat)(k:Nat)(v:aF):gQ:=match unQ v with|some (_,_,a)=>.wr qs k a|none=>.oD
def Xn (W:List fG)(k:Nat)(v:aF):Prop:=match W[k]? with|some (.ask _ _ _ ans)=>v=.int .i64 ans|_=>False
def eT (N:Nat)(W:List fG):gQ->Act gQ
 | .mN qs=>if qs.length<N then .note (λl'=>∃a,l'=.mA qs a) else .add (.mW qs)
 | .mA qs a=>.add (.mS qs a)
 | .mS qs a=>.spawn [a] (.op a 0 (nX W 0 qs.length)) (.mN (qs++[a]))
 | .mW qs=>.spawn [] (.wk qs 0) .mZ
 | .mZ=>.wait
 | .op c call m=>.recv c (λv=>(unQ v).isSome=true/\0<m) (Tc c call m) .oD
 | .an c call a m=>.send a (λv=>v=.int .i64 call) (λ_=>[]) (λ_=>.op c call m)
 | .oD=>.done
 | .wk qs k=>match W[k]? with
  |none=>.done
  |some (.ask i kd cl _)=>.send (qa qs i) (λv=>∃a,v=L9 kd cl a) Qb (Yw qs k)
  |some (.shut i)=>.close (qa qs i) (.wk qs (k+1))
 | .wr qs k a=>.recv a (Xn W k) (λ_=>.wk qs (k+1)) .oD
def gQ.pend:gQ->Bool
 | .mS _ _| .mW _=>true
 |_=>false
def kZ (W:List fG):Nat->Nat->Int
 |0,_=>0
 |k+1,i=>match W[k]? with
  |some (.ask j kd cl _)=>if i=j then(if kd=1 then cl else kZ W k i) else kZ W k i
  |_=>kZ W k i
def fZ (W:List fG):Nat->Nat->Bool
 |0,_=>false
 |k+1,i=>match W[k]? with
  |some (.shut j)=>if i=j then true else fZ W k i
  |_=>fZ W k i
structure WOk (N:Nat)(W:List fG):Prop where
 ask:∀k i kd cl ans,W[k]? =some (.ask i kd cl ans)->i<N/\fZ W k i=false/\ans=kZ W (k+1) i
 shut:∀k i,W[k]? =some (.shut i)->i<N/\fZ W k i=false
 all:∀i,i<N->fZ W W.length i=true
structure Ops (n:Nat)(ix:Nat->Nat)(q:Nat->Pj gQ)(F:Nat->Pj gQ->Prop):Prop where
 ne:∀j,j<n->ix j≠0
 inj:∀j j',j<n->j'<n->ix j=ix j'->j=j'
 at_:∀j,j<n->F j (q (ix j))
structure Qs (n:Nat)(qs:List Nat):Prop where
 len:qs.length=n
 inj:∀j j',j<n->j'<n->qa qs j=qa qs j'->j=j'
def H7 (W:List fG)(qs:List Nat)(k j:Nat)(p:Pj gQ):Prop:=
 p=.run (.op (qa qs j) (kZ W k j) (nX W k j))\/(fZ W k j=true/\(p=.run .oD\/p=.over .oD))
inductive Vi (N:Nat)(W:List fG)(q:Nat->Pj gQ)(ch:qS):Prop
 |a (n:Nat) (qs:List Nat) (ix:Nat->Nat) (l:gQ):Qs n qs->n<=N->(l=.mN qs\/(n<N/\∃a,l=.mA qs a\/l=.mS qs a)\/(l=.mW qs/\n=N))->q 0=.run l->Ops n ix q (λj p=>p=.run (.op (qa qs j) 0 (nX W 0 j)))->
  (∀j,j<n->ch (qa qs j)=some false)->(∀i,i≠0->(∀j,j<n->i≠ix j)->q i=.gone)->Vi N W q ch
 |b (qs:List Nat) (ix:Nat->Nat) (iw k:Nat):Qs N qs->k<=W.length->iw≠0->(∀j,j<N->ix j≠iw)->(q 0=.run .mZ\/q 0=.waits)->(q iw=.run (.wk qs k)\/(k=W.length/\q iw=.over (.wk qs k)))->
  Ops N ix q (H7 W qs k)->(∀j,j<N->ch (qa qs j)=some (fZ W k j))->(∀i,i≠0->i≠iw->(∀j,j<N->i≠ix j)->q i=.gone)->Vi N W q ch
 |c (qs:List Nat) (ix:Nat->Nat) (iw k i:Nat) (kd cl ans:Int) (a:Nat):Qs N qs->W[k]? =some (.ask i kd cl ans)->iw≠0->(∀j,j<N->ix j≠iw)->(q 0=.run .mZ\/q 0=.waits)->q iw=.run (.wr qs k a)->
  Ops N ix q (λj p=>if j=i then p=.run (.an (qa qs j) (kZ W (k+1) j) a (nX W (k+1) j)) else H7 W qs k j p)->(∀j,j<N->ch (qa qs j)=some (fZ W k j))->ch a=some false->(∀j,j<N->qa qs j≠a)->
  (∀i,i≠0->i≠iw->(∀j,j<N->i≠ix j)->q i=.gone)->Vi N W q ch
def Ce (N:Nat)(W:List fG)(D:aE->Prop):jP gQ where
 act:=eT N W
 dep:=λl w=>match l with| .wk _ _=>D w|_=>True
 pend:=gQ.pend
 cl:=λl=>match l with| .op _ _ _=>True|_=>False
 Inv:=Vi N W
 got:=λl v=>match l with| .op _ _ _=>Qb v|_=>[]
section
variable {N:Nat}{W:List fG}
variable {l:gQ}{ok:aF->Prop}{nx:aF->gQ}
theorem zlf {c:Nat}{pub:aF->List Nat}(h:eT N W l=.send c ok pub nx):
 (∃c0 call m,l=.an c0 call c m/\ok=(λv=>v=.int .i64 call)/\pub=(λ_=>[])/\nx=λ_=>.op c0 call m)\/
 (∃qs k i kd cl ans,l=.wk qs k/\W[k]? =some (.ask i kd cl ans)/\c=qa qs i/\ok=(λv=>∃a,v=L9 kd cl a)/\pub=Qb/\nx=Yw qs k):=by
 cases l with
 |mN qs=>simp only[eT] at h;split at h<;>cases h
 |an c0 call a m=>simp only[eT] at h;cases h;exact .inl ⟨_,_,_,rfl,rfl,rfl,rfl⟩
 |wk qs k=>
  simp only[eT] at h;split at h
  .cases h
  .rename_i i kd cl ans e;cases h;exact .inr ⟨qs,k,i,kd,cl,ans,rfl,e,rfl,rfl,rfl,rfl⟩
  .cases h
 |_=>simp only[eT] at h;cases h
theorem Xc {c:Nat}{sh:gQ}(h:eT N W l=.recv c ok nx sh):
 (∃call m,l=.op c call m/\ok=(λv=>(unQ v).isSome=true/\0<m)/\nx=Tc c call m/\sh=.oD)\/(∃qs k,l=.wr qs k c/\ok=Xn W k/\nx=(λ_=>.wk qs (k+1))/\sh=.oD):=by
 cases l with
 |mN qs=>simp only[eT] at h;split at h<;>cases h
 |op c0 call m=>simp only[eT] at h;cases h;exact .inl ⟨_,_,rfl,rfl,rfl,rfl⟩
 |wk qs k=>simp only[eT] at h;split at h<;>cases h
 |wr qs k a=>simp only[eT] at h;cases h;exact .inr ⟨_,_,rfl,rfl,rfl,rfl⟩
 |_=>simp only[eT] at h;cases h
variable {nx:gQ}
theorem zwQ {c:Nat}(h:eT N W l=.close c nx):∃qs k i,l=.wk qs k/\W[k]? =some (.shut i)/\c=qa qs i/\nx=.wk qs (k+1):=by
 cases l with
 |mN qs=>simp only[eT] at h;split at h<;>cases h
 |wk qs k=>
  simp only[eT] at h;split at h
  .cases h
  .cases h
  .rename_i i e;cases h;exact⟨qs,k,i,rfl,e,rfl,rfl⟩
 |_=>simp only[eT] at h;cases h
theorem zFV (h:eT N W l=.add nx):(∃qs,l=.mN qs/\¬qs.length<N/\nx=.mW qs)\/∃qs a,l=.mA qs a/\nx=.mS qs a:=by
 cases l with
 |mN qs=>
  simp only[eT] at h;split at h
  .cases h
  .rename_i e;cases h;exact .inl ⟨qs,rfl,e,rfl⟩
 |mA qs a=>simp only[eT] at h;cases h;exact .inr ⟨qs,a,rfl,rfl⟩
 |wk qs k=>simp only[eT] at h;split at h<;>cases h
 |_=>simp only[eT] at h;cases h
theorem zAt {lc:gQ}{pub:List Nat}(h:eT N W l=.spawn pub lc nx):(∃qs a,l=.mS qs a/\pub=[a]/\lc=.op a 0 (nX W 0 qs.length)/\nx=.mN (qs++[a]))\/∃qs,l=.mW qs/\pub=[]/\lc=.wk qs 0/\nx=.mZ:=by
 cases l with
 |mN qs=>simp only[eT] at h;split at h<;>cases h
 |mS qs a=>simp only[eT] at h;cases h;exact .inl ⟨qs,a,rfl,rfl,rfl,rfl⟩
 |mW qs=>simp only[eT] at h;cases h;exact .inr ⟨qs,rfl,rfl,rfl,rfl⟩
 |wk qs k=>simp only[eT] at h;split at h<;>cases h
 |_=>simp only[eT] at h;cases h
theorem zFB (h:eT N W l=.done):l=.oD\/∃qs k,l=.wk qs k/\W[k]? =none:=by
 cases l with
 |mN qs=>simp only[eT] at h;split at h<;>cases h
 |oD=>exact .inl rfl
 |wk qs k=>
  simp only[eT] at h;split at h
  .rename_i e;exact .inr ⟨qs,k,rfl,e⟩
  .cases h
  .cases h
 |_=>simp only[eT] at h;cases h
theorem zEv (h:eT N W l=.wait):l=.mZ:=by
 cases l with
 |mN qs=>simp only[eT] at h;split at h<;>cases h
 |mZ=>rfl
 |wk qs k=>simp only[eT] at h;split at h<;>cases h
 |_=>simp only[eT] at h;cases h
theorem zBQ {can:gQ->Prop}(h:eT N W l=.note can):∃qs,l=.mN qs/\qs.length<N/\can=λl'=>∃a,l'=.mA qs a:=by
 cases l with
 |mN qs=>
  simp only[eT] at h;split at h
  .rename_i e;cases h;exact⟨qs,rfl,e,rfl⟩
  .cases h
 |wk qs k=>simp only[eT] at h;split at h<;>cases h
 |_=>simp only[eT] at h;cases h
variable {ans:Int}
theorem zvm {k i:Nat}{kd cl:Int}(h:W[k]? =some (.ask i kd cl ans))(j:Nat):kZ W (k+1) j=if j=i then(if kd=1 then cl else kZ W k j) else kZ W k j:=by simp only[kZ,h]
theorem zpN {k i:Nat}{kd cl:Int}(h:W[k]? =some (.ask i kd cl ans))(j:Nat):fZ W (k+1) j=fZ W k j:=by simp only[fZ,h]
theorem zJr {k i:Nat}(h:W[k]? =some (.shut i))(j:Nat):kZ W (k+1) j=kZ W k j:=by simp only[kZ,h]
theorem zsu {k i:Nat}(h:W[k]? =some (.shut i))(j:Nat):fZ W (k+1) j=if j=i then true else fZ W k j:=by simp only[fZ,h]
def wk_lt {k:Nat}{x:fG}(h:W[k]? =some x):k<W.length:=(kE.1 h).1
end
section
variable {N:Nat}{W:List fG}{q:Nat->Pj gQ}{ch:qS}
theorem znr {n:Nat}{ix:Nat->Nat}{iw:Nat}(hg:∀i,i≠0->i≠iw->(∀j,j<n->i≠ix j)->q i=.gone){i:Nat}{l:gQ}(h:q i=.run l):i=0\/i=iw\/∃j,j<n/\i=ix j:=by
 by_cases h0:i=0
 .exact .inl h0
 .by_cases h1:i=iw
  .exact .inr (.inl h1)
  .refine .inr (.inr (Classical.byContradiction λhn=>?_))
   have:=hg i h0 h1 λj hj e=>hn ⟨j,hj,e⟩;rw[this] at h;cases h
theorem zp7 {qs:List Nat}{k j:Nat}{l:gQ}(h:H7 W qs k j (.run l)):l=.op (qa qs j) (kZ W k j) (nX W k j)\/(fZ W k j=true/\l=.oD):=by
 rcases h with h|⟨h1,h|h⟩
 .cases h;exact .inl rfl
 .cases h;exact .inr ⟨h1,rfl⟩
 .cases h
theorem Zn {l:gQ}(h:(∃qs,l=.mN qs)\/(∃qs a,l=.mA qs a)\/(∃qs a,l=.mS qs a)\/(∃qs,l=.mW qs)\/l=.mZ):(∀c ok pub nx,eT N W l≠ .send c ok pub nx)/\(∀c ok nx sh,eT N W l≠ .recv c ok nx sh)/\(∀c nx,eT N W l≠ .close c nx)/\eT N W l≠ .done:=by
 rcases h with⟨qs,rfl⟩|⟨qs,a,rfl⟩|⟨qs,a,rfl⟩|⟨qs,rfl⟩|rfl
 .simp only[eT]
  split<;>simp
 all_goals simp[eT]
theorem zad {n:Nat}{qs:List Nat}{l:gQ}(h:l=.mN qs\/(n<N/\∃a,l=.mA qs a\/l=.mS qs a)\/(l=.mW qs/\n=N)):(∃qs,l=.mN qs)\/(∃qs a,l=.mA qs a)\/(∃qs a,l=.mS qs a)\/(∃qs,l=.mW qs)\/l=.mZ:=by
 rcases h with rfl|⟨_,a,rfl|rfl⟩|⟨rfl,_⟩
 .exact .inl ⟨_,rfl⟩
 .exact .inr (.inl ⟨_,_,rfl⟩)
 .exact .inr (.inr (.inl ⟨_,_,rfl⟩))
 .exact .inr (.inr (.inr (.inl ⟨_,rfl⟩)))
section
variable {n:Nat}{qs:List Nat}{ix:Nat->Nat}{iw k i0:Nat}{i c a:Nat}{l l0:gQ}
theorem On (hl:l0=.mN qs\/(n<N/\∃a,l0=.mA qs a\/l0=.mS qs a)\/(l0=.mW qs/\n=N))(h0:q 0=.run l0)(ho:Ops n ix q (λj p=>p=.run (.op (qa qs j) 0 (nX W 0 j))))(hg:∀i,i≠0->(∀j,j<n->i≠ix j)->q i=.gone)(hi:q i=.run l):(i=0/\l=l0)\/∃j,j<n/\i=ix j/\l=.op (qa qs j) 0 (nX W 0 j):=by
 rcases znr (iw:=0) (λi h1 _ h3=>hg i h1 h3) hi with rfl|rfl|⟨j,hj,rfl⟩
 .rw[h0] at hi;cases hi;exact .inl ⟨rfl,rfl⟩
 .rw[h0] at hi;cases hi;exact .inl ⟨rfl,rfl⟩
 .have:=ho.at_ j hj;rw[hi] at this;cases this;exact .inr ⟨j,hj,rfl,rfl⟩
theorem My (h0:q 0=.run .mZ\/q 0=.waits)(cM:q iw=.run (.wk qs k)\/(k=W.length/\q iw=.over (.wk qs k)))(ho:Ops N ix q (H7 W qs k))(hg:∀i,i≠0->i≠iw->(∀j,j<N->i≠ix j)->q i=.gone)(hi:q i=.run l):
 (i=0/\l=.mZ)\/(i=iw/\l=.wk qs k)\/∃j,j<N/\i=ix j/\(l=.op (qa qs j) (kZ W k j) (nX W k j)\/(fZ W k j=true/\l=.oD)):=by
 rcases znr hg hi with rfl|rfl|⟨j,hj,rfl⟩
 .rcases h0 with h0|h0<;>rw[h0] at hi<;>cases hi
  exact .inl ⟨rfl,rfl⟩
 .rcases cM with h|⟨_,h⟩<;>rw[h] at hi<;>cases hi
  exact .inr (.inl ⟨rfl,rfl⟩)
 .have:=ho.at_ j hj;rw[hi] at this
  exact .inr (.inr ⟨j,hj,rfl,zp7 this⟩)
theorem Oo (h0:q 0=.run .mZ\/q 0=.waits)(cM:q iw=.run (.wr qs k a))(ho:Ops N ix q (λj p=>if j=i0 then p=.run (.an (qa qs j) (kZ W (k+1) j) a (nX W (k+1) j)) else H7 W qs k j p))(hg:∀i,i≠0->i≠iw->(∀j,j<N->i≠ix j)->q i=.gone)(hi:q i=.run l):
 (i=0/\l=.mZ)\/(i=iw/\l=.wr qs k a)\/∃j,j<N/\i=ix j/\((j=i0/\l=.an (qa qs j) (kZ W (k+1) j) a (nX W (k+1) j))\/(j≠i0/\(l=.op (qa qs j) (kZ W k j) (nX W k j)\/(fZ W k j=true/\l=.oD)))):=by
 rcases znr hg hi with rfl|rfl|⟨j,hj,rfl⟩
 .rcases h0 with h0|h0<;>rw[h0] at hi<;>cases hi
  exact .inl ⟨rfl,rfl⟩
 .rw[cM] at hi;cases hi
  exact .inr (.inl ⟨rfl,rfl⟩)
 .have:=ho.at_ j hj
  simp only[hi] at this;split at this
  .rename_i e;cases this;exact .inr (.inr ⟨j,hj,rfl,.inl ⟨e,rfl⟩⟩)
  .rename_i e;exact .inr (.inr ⟨j,hj,rfl,.inr ⟨e,zp7 this⟩⟩)
variable {ok:aF->Prop}{pub:aF->List Nat}{nx:aF->gQ}{sh:gQ}
theorem zcz (h0:q 0=.run .mZ\/q 0=.waits)(cM:q iw=.run (.wk qs k)\/(k=W.length/\q iw=.over (.wk qs k)))(ho:Ops N ix q (H7 W qs k))(hg:∀i,i≠0->i≠iw->(∀j,j<N->i≠ix j)->q i=.gone)(hi:q i=.run l)(ha:eT N W l=.send c ok pub nx):
 i=iw/\l=.wk qs k/\∃j kd cl ans,W[k]? =some (.ask j kd cl ans)/\c=qa qs j/\ok=(λv=>∃a,v=L9 kd cl a)/\pub=Qb/\nx=Yw qs k:=by
 rcases My h0 cM ho hg hi with⟨rfl,rfl⟩|⟨rfl,rfl⟩|⟨j,hj,rfl,rfl|⟨_,rfl⟩⟩
 .cases ha
 .rcases zlf ha with⟨_,_,_,e,_⟩|⟨Pb,k',j,kd,cl,ans,e,h1,h2,h3,h4,h5⟩
  .cases e
  .cases e;exact⟨rfl,rfl,j,kd,cl,ans,h1,h2,h3,h4,h5⟩
 .cases ha
 .cases ha
theorem Vd (h0:q 0=.run .mZ\/q 0=.waits)(cM:q iw=.run (.wk qs k)\/(k=W.length/\q iw=.over (.wk qs k)))(ho:Ops N ix q (H7 W qs k))(hg:∀i,i≠0->i≠iw->(∀j,j<N->i≠ix j)->q i=.gone)(hi:q i=.run l)(ha:eT N W l=.recv c ok nx sh):
 ∃j,j<N/\i=ix j/\l=.op (qa qs j) (kZ W k j) (nX W k j)/\c=qa qs j/\ok=(λv=>(unQ v).isSome=true/\0<nX W k j)/\nx=Tc c (kZ W k j) (nX W k j)/\sh=.oD:=by
 rcases My h0 cM ho hg hi with⟨rfl,rfl⟩|⟨rfl,rfl⟩|⟨j,hj,rfl,rfl|⟨_,rfl⟩⟩
 .cases ha
 .rcases Xc ha with⟨_,_,e,_⟩|⟨_,_,e,_⟩<;>cases e
 .rcases Xc ha with⟨_,_,e,h1,h2,h3⟩|⟨_,_,e,_⟩<;>cases e
  exact⟨j,hj,rfl,rfl,rfl,h1,h2,h3⟩
 .cases ha
theorem zbY (h0:q 0=.run .mZ\/q 0=.waits)(cM:q iw=.run (.wr qs k a))(ho:Ops N ix q (λj p=>if j=i0 then p=.run (.an (qa qs j) (kZ W (k+1) j) a (nX W (k+1) j)) else H7 W qs k j p))(hg:∀i,i≠0->i≠iw->(∀j,j<N->i≠ix j)->q i=.gone)(hi:q i=.run l)(ha:eT N W l=.send c ok pub nx):
 i0<N/\i=ix i0/\l=.an (qa qs i0) (kZ W (k+1) i0) a (nX W (k+1) i0)/\c=a/\ok=(λv=>v=.int .i64 (kZ W (k+1) i0))/\pub=(λ_=>[])/\nx=λ_=>.op (qa qs i0) (kZ W (k+1) i0) (nX W (k+1) i0):=by
 rcases Oo h0 cM ho hg hi with⟨rfl,rfl⟩|⟨rfl,rfl⟩|⟨j,hj,rfl,⟨rfl,rfl⟩|⟨_,rfl|⟨_,rfl⟩⟩⟩
 .cases ha
 .cases ha
 .rcases zlf ha with⟨_,_,_,e,h1,h2,h3⟩|⟨_,_,_,_,_,_,e,_⟩<;>cases e
  exact⟨hj,rfl,rfl,rfl,h1,h2,h3⟩
 .cases ha
 .cases ha
theorem Xj (h0:q 0=.run .mZ\/q 0=.waits)(cM:q iw=.run (.wr qs k a))(ho:Ops N ix q (λj p=>if j=i0 then p=.run (.an (qa qs j) (kZ W (k+1) j) a (nX W (k+1) j)) else H7 W qs k j p))(hg:∀i,i≠0->i≠iw->(∀j,j<N->i≠ix j)->q i=.gone)(hi:q i=.run l)(ha:eT N W l=.recv c ok nx sh):
 (i=iw/\l=.wr qs k a/\c=a/\ok=Xn W k/\nx=(λ_=>.wk qs (k+1)))\/∃j,j<N/\j≠i0/\i=ix j/\l=.op (qa qs j) (kZ W k j) (nX W k j)/\c=qa qs j/\sh=.oD:=by
 rcases Oo h0 cM ho hg hi with⟨rfl,rfl⟩|⟨rfl,rfl⟩|⟨j,hj,rfl,⟨rfl,rfl⟩|⟨aT,rfl|⟨_,rfl⟩⟩⟩
 .cases ha
 .rcases Xc ha with⟨_,_,e,_⟩|⟨_,_,e,h1,h2,h3⟩<;>cases e
  exact .inl ⟨rfl,rfl,rfl,h1,h2⟩
 .cases ha
 .rcases Xc ha with⟨_,_,e,h1,h2,h3⟩|⟨_,_,e,_⟩<;>cases e
  exact .inr ⟨j,hj,aT,rfl,rfl,rfl,h3⟩
 .cases ha
theorem zdt (hl:l0=.mN qs\/(n<N/\∃a,l0=.mA qs a\/l0=.mS qs a)\/(l0=.mW qs/\n=N))(h0:q 0=.run l0)(ho:Ops n ix q (λj p=>p=.run (.op (qa qs j) 0 (nX W 0 j))))(hg:∀i,i≠0->(∀j,j<n->i≠ix j)->q i=.gone)(hi:q i=.run l)(ha:eT N W l=.send c ok pub nx):False:=by
 rcases On hl h0 ho hg hi with⟨rfl,rfl⟩|⟨j,hj,rfl,rfl⟩
 .exact(Zn (zad hl)).1 _ _ _ _ ha
 .cases ha
theorem zfz (hl:l0=.mN qs\/(n<N/\∃a,l0=.mA qs a\/l0=.mS qs a)\/(l0=.mW qs/\n=N))(h0:q 0=.run l0)(ho:Ops n ix q (λj p=>p=.run (.op (qa qs j) 0 (nX W 0 j))))(hg:∀i,i≠0->(∀j,j<n->i≠ix j)->q i=.gone)(hi:q i=.run l)(ha:eT N W l=.recv c ok nx sh):∃j,j<n/\i=ix j/\l=.op (qa qs j) 0 (nX W 0 j)/\c=qa qs j:=by
 rcases On hl h0 ho hg hi with⟨rfl,rfl⟩|⟨j,hj,rfl,rfl⟩
 .exact((Zn (zad hl)).2.1 _ _ _ _ ha).elim
 .rcases Xc ha with⟨_,_,e,h1,h2,h3⟩|⟨_,_,e,_⟩<;>cases e
  exact⟨j,hj,rfl,rfl,rfl⟩
end
end
variable {L:Type}
theorem num_upd (q:Nat->Pj L)(s:Nat):∀n,num q n<=num (bG q s .gone) n+1:=by
 have ind:∀n,num q n<=num (bG q s .gone) n+(if s<n then 1 else 0):=by
  intro n
  induction n with
  |zero=>simp[num]
  |succ n ih=>
   simp only[num];have hc:(q n).c<=1:=by cases q n<;>simp[Pj.c]
   by_cases h:n=s
   .subst h
    rw[upd_same,show(Pj.gone:Pj L).c=0 from rfl];rw[if_neg (Ci _)] at ih;rw[if_pos (wR _)];omega
   .rw[upd_ne _ _ h]
    have:s<n↔s<n+1:=aC;simp only[this] at ih;omega
 intro n;have:=ind n;split at this<;>omega
theorem zDK :∀(S:List Nat) (q:Nat->Pj L),(∀i,i∉S->q i=.gone)->∀n,num q n<=S.length:=by
 intro S
 induction S with
 |nil=>
  intro q h n
  induction n with
  |zero=>simp[num]
  |succ n ih=>simp only[num];rw[h n aQ];simpa[Pj.c] using ih
 |cons s S ih=>
  intro q h n;have h1:=num_upd q s n;have h2:=ih (bG q s .gone) (λi hi=>by
   by_cases e:i=s
   .subst e;exact upd_same _ _ _
   .rw[upd_ne _ _ e];exact h i (by simp[e,hi])) n
  simp only[qA];omega
section
variable {N:Nat}{W:List fG}{q:Nat->Pj gQ}{ch:qS}
theorem zpv (ch:qS):ch.opn []=ch:=by funext c;simp[qS.opn]
theorem zpc {ch:qS}{a c:Nat}(h:c≠a):ch.opn [a] c=ch c:=by simp[qS.opn,h]
theorem zwM (ch:qS)(a:Nat):ch.opn [a] a=some false:=by simp[qS.opn]
theorem Xp {qs:List Nat}{n:Nat}(h:qs.length=n){j:Nat}(hj:j<n)(a:Nat):qa (qs++[a]) j=qa qs j:=by
 unfold qa;rw[Kl,Kl,y3 aC]
theorem zfO {qs:List Nat}{n:Nat}(h:qs.length=n)(a:Nat):qa (qs++[a]) n=a:=by
 unfold qa;rw[Kl,Ah aC,h,Nv];rfl
theorem zpp {D:aE->Prop}{l:gQ}(h:(∃qs,l=.mN qs)\/(∃qs a,l=.mA qs a)\/(∃qs a,l=.mS qs a)\/(∃qs,l=.mW qs)\/l=.mZ):¬(Ce N W D).Blocked q ch l:=by
 unfold jP.Blocked;split
 .rename_i e;exact((Zn h).1 _ _ _ _ e).elim
 .rename_i e;exact((Zn h).2.1 _ _ _ _ e).elim
 .exact id
theorem zCO (N:Nat)(W:List fG)(D:aE->Prop)(hW:WOk N W)(hN:N<=1000000):(Ce N W D).Ok where
 send1:=by
  intro q ch i j li lj c ok pub nx pD O6 nH hI hi hj ha hb
  cases hI with
  |a n qs ix l0 hq hn hl h0 ho hc hg=>exact(zdt hl h0 ho hg hi ha).elim
  |b qs ix iw k hq hk hw aT h0 cM ho hc hg=>rw[(zcz h0 cM ho hg hi ha).1,(zcz h0 cM ho hg hj hb).1]
  |c qs ix iw k i0 kd cl ans a hq hk hw aT h0 cM ho hc qD mB hg=>rw[(zbY h0 cM ho hg hi ha).2.1,(zbY h0 cM ho hg hj hb).2.1]
 recv1:=by
  intro q ch i j li lj c ok nx sh pD nH wV hI hi hj ha hb
  cases hI with
  |a n qs ix l0 hq hn hl h0 ho hc hg=>
   obtain⟨j1,h1,rfl,_,c1⟩:=zfz hl h0 ho hg hi ha;obtain⟨j2,h2,rfl,_,c2⟩:=zfz hl h0 ho hg hj hb;rw[hq.inj j1 j2 h1 h2 (c1.symm.trans c2)]
  |b qs ix iw k hq hk hw aT h0 cM ho hc hg=>
   obtain⟨j1,h1,rfl,_,c1,_⟩:=Vd h0 cM ho hg hi ha;obtain⟨j2,h2,rfl,_,c2,_⟩:=Vd h0 cM ho hg hj hb;rw[hq.inj j1 j2 h1 h2 (c1.symm.trans c2)]
  |c qs ix iw k i0 kd cl ans a hq hk hw aT h0 cM ho hc qD mB hg=>
   rcases Xj h0 cM ho hg hi ha with⟨rfl,_,rfl,_⟩|⟨j1,h1,_,rfl,_,c1,_⟩<;>rcases Xj h0 cM ho hg hj hb with⟨rfl,_,e2,_⟩|⟨j2,h2,_,rfl,_,c2,_⟩
   .rfl
   .exact(mB j2 h2 c2.symm).elim
   .exact(mB j1 h1 (c1.symm.trans e2)).elim
   .rw[hq.inj j1 j2 h1 h2 (c1.symm.trans c2)]
 sendC:=by
  intro q ch i l c ok pub nx hI hi ha
  cases hI with
  |a n qs ix l0 hq hn hl h0 ho hc hg=>exact(zdt hl h0 ho hg hi ha).elim
  |b qs ix iw k hq hk hw aT h0 cM ho hc hg=>
   obtain⟨rfl,rfl,j,kd,cl,ans,h1,rfl,_⟩:=zcz h0 cM ho hg hi ha;obtain⟨h2,h3,_⟩:=hW.ask k j kd cl ans h1;rw[hc j h2,h3]
  |c qs ix iw k i0 kd cl ans a hq hk hw aT h0 cM ho hc qD mB hg=>
   obtain⟨_,_,_,rfl,_⟩:=zbY h0 cM ho hg hi ha;exact qD
 recvC:=by
  intro q ch i l c ok nx sh hI hi ha
  cases hI with
  |a n qs ix l0 hq hn hl h0 ho hc hg=>
   obtain⟨j1,h1,rfl,_,rfl⟩:=zfz hl h0 ho hg hi ha;exact⟨_,hc j1 h1⟩
  |b qs ix iw k hq hk hw aT h0 cM ho hc hg=>
   obtain⟨j1,h1,rfl,_,rfl,_⟩:=Vd h0 cM ho hg hi ha;exact⟨_,hc j1 h1⟩
  |c qs ix iw k i0 kd cl ans a hq hk hw aT h0 cM ho hc qD mB hg=>
   rcases Xj h0 cM ho hg hi ha with⟨rfl,_,rfl,_⟩|⟨j1,h1,_,rfl,_,rfl,_⟩
   .exact⟨_,qD⟩
   .exact⟨_,hc j1 h1⟩
 meet:=by
  intro q ch i j li lj c ok pub nx pD nH sh v hI hi hj ha hb hv hp
  cases hI with
  |a n qs ix l0 hq hn hl h0 ho hc hg=>exact(zdt hl h0 ho hg hi ha).elim
  |b qs ix iw k hq hk hw aT h0 cM ho hc hg=>
   obtain⟨rfl,rfl,j0,kd,cl,ans,h1,rfl,rfl,rfl,rfl⟩:=zcz h0 cM ho hg hi ha;obtain⟨j1,Gl,rfl,rfl,qN,rfl,rfl,_⟩:=Vd h0 cM ho hg hj hb;obtain rfl:=hq.inj j0 j1 (hW.ask k j0 kd cl ans h1).1 Gl qN;obtain⟨a,rfl⟩:=hv;have J5:=hp a (by simp[Qb,zgy]);have mB:∀j,j<N->qa qs j≠a:=λj hj e=>by have:=hc j hj;rw[e,J5] at this;cases this
   have hR:=ztW h1 j0;rw[if_pos rfl] at hR;refine⟨⟨by simp[zgy],aC⟩,?_⟩;show Vi N W (bG (bG q i (.run (.wr qs k a))) (ix j0) (.run (.an (qa qs j0) (if kd=1 then cl else kZ W k j0) a (nX W k j0-1)))) (ch.opn [a]);rw[show nX W k j0-1=nX W (k+1) j0 by omega];refine .c qs ix i k j0 kd cl ans a hq h1 hw aT ?_ ?_ ⟨ho.ne,ho.inj,λj hj=>?_⟩ (λj hj=>by rw[zpc (mB j hj)];exact hc j hj) (zwM _ _) mB λi' g0 g1 g2=>?_
   .rw[upd_ne _ _ (Ne.symm (ho.ne j0 Gl)),upd_ne _ _ (Ne.symm hw)];exact h0
   .rw[upd_ne _ _ (Ne.symm (aT j0 Gl)),upd_same]
   .by_cases e:j=j0
    .subst e;rw[if_pos rfl,upd_same,zvm h1,if_pos rfl]
    .rw[if_neg e,upd_ne _ _ (λh=>e (ho.inj j j0 hj Gl h)),upd_ne _ _ (aT j hj)]
     exact ho.at_ j hj
   .rw[upd_ne _ _ (g2 j0 Gl),upd_ne _ _ g1];exact hg i' g0 g1 g2
  |c qs ix iw k i0 kd cl ans a hq hk hw aT h0 cM ho hc qD mB hg=>
   obtain⟨fR,rfl,rfl,rfl,rfl,rfl,rfl⟩:=zbY h0 cM ho hg hi ha;rcases Xj h0 cM ho hg hj hb with⟨rfl,rfl,_,rfl,rfl⟩|⟨j1,Gl,_,rfl,_,qN,_⟩
   .refine⟨?_,?_⟩
    .unfold Xn;rw[hk]
     show v=_;rw[(hW.ask k i0 kd cl ans hk).2.2];exact hv
    .rw[zpv]
     refine .b qs ix j (k+1) hq (wk_lt hk) hw aT ?_ (.inl (upd_same _ _ _)) ⟨ho.ne,ho.inj,λj' o6=>?_⟩ (λj' o6=>by rw[zpN hk];exact hc j' o6) λi' g0 g1 g2=>?_
     .rw[upd_ne _ _ (Ne.symm hw),upd_ne _ _ (Ne.symm (ho.ne i0 fR))];exact h0
     .rw[upd_ne _ _ (aT j' o6)]
      by_cases e:j'=i0
      .subst e;rw[upd_same];exact .inl rfl
      .rw[upd_ne _ _ (λh=>e (ho.inj j' i0 o6 fR h))]
       have:=ho.at_ j' o6;rw[if_neg e] at this;unfold H7 at this⊢;have hR:=ztW hk j';rw[if_neg e,Ul] at hR;rw[zvm hk,if_neg e,zpN hk,<-hR];exact this
     .rw[upd_ne _ _ g1,upd_ne _ _ (g2 i0 fR)];exact hg i' g0 g1 g2
   .exact(mB j1 Gl qN.symm).elim
 shut:=by
  intro q ch i l c ok nx sh hI hi ha qN
  cases hI with
  |a n qs ix l0 hq hn hl h0 ho hc hg=>
   obtain⟨j1,h1,rfl,_,rfl⟩:=zfz hl h0 ho hg hi ha;rw[hc j1 h1] at qN;cases qN
  |b qs ix iw k hq hk hw aT h0 cM ho hc hg=>
   obtain⟨j1,h1,rfl,rfl,rfl,_,_,rfl⟩:=Vd h0 cM ho hg hi ha;have hx:fZ W k j1=true:=by have:=hc j1 h1;rw[qN] at this;injection this with this;exact this.symm
   refine⟨trivial,.b qs ix iw k hq hk hw aT ?_ ?_ ⟨ho.ne,ho.inj,λj hj=>?_⟩ hc λi' g0 g1 g2=>?_⟩
   .rw[upd_ne _ _ (Ne.symm (ho.ne j1 h1))];exact h0
   .rw[upd_ne _ _ (Ne.symm (aT j1 h1))];exact cM
   .by_cases e:j=j1
    .subst e;rw[upd_same];exact .inr ⟨hx,.inl rfl⟩
    .rw[upd_ne _ _ (λh=>e (ho.inj j j1 hj h1 h))];exact ho.at_ j hj
   .rw[upd_ne _ _ (g2 j1 h1)];exact hg i' g0 g1 g2
  |c qs ix iw k i0 kd cl ans a hq hk hw aT h0 cM ho hc qD mB hg=>
   rcases Xj h0 cM ho hg hi ha with⟨rfl,_,rfl,_⟩|⟨j1,h1,Qh,rfl,rfl,rfl,rfl⟩
   .rw[qD] at qN;cases qN
   .have hx:fZ W k j1=true:=by have:=hc j1 h1;rw[qN] at this;injection this with this;exact this.symm
    refine⟨trivial,.c qs ix iw k i0 kd cl ans a hq hk hw aT ?_ ?_ ⟨ho.ne,ho.inj,λj hj=>?_⟩ hc qD mB λi' g0 g1 g2=>?_⟩
    .rw[upd_ne _ _ (Ne.symm (ho.ne j1 h1))];exact h0
    .rw[upd_ne _ _ (Ne.symm (aT j1 h1))];exact cM
    .by_cases e:j=j1
     .subst e;rw[if_neg Qh,upd_same];exact .inr ⟨hx,.inl rfl⟩
     .rw[upd_ne _ _ (λh=>e (ho.inj j j1 hj h1 h))];exact ho.at_ j hj
    .rw[upd_ne _ _ (g2 j1 h1)];exact hg i' g0 g1 g2
 close:=by
  intro q ch i l c nx hI hi ha;obtain⟨Pb,k',i0,rfl,cP,rfl,rfl⟩:=zwQ (N:=N) ha
  cases hI with
  |a n qs ix l0 hq hn hl h0 ho hc hg=>
   rcases On hl h0 ho hg hi with⟨rfl,rfl⟩|⟨j,hj,rfl,e⟩
   .exact((Zn (N:=N) (W:=W) (zad hl)).2.2.1 _ _ ha).elim
   .cases e
  |b qs ix iw k hq hk hw aT h0 cM ho hc hg=>
   rcases My h0 cM ho hg hi with⟨_,e⟩|⟨rfl,e⟩|⟨j,hj,rfl,e|⟨_,e⟩⟩<;>cases e;obtain⟨fR,hx⟩:=hW.shut k' i0 cP;refine⟨by rw[hc i0 fR,hx],.b Pb ix i (k'+1) hq (wk_lt cP) hw aT ?_ (.inl (upd_same _ _ _)) ⟨ho.ne,ho.inj,λj hj=>?_⟩ (λj hj=>?_) λi' g0 g1 g2=>?_⟩
   .rw[upd_ne _ _ (Ne.symm hw)];exact h0
   .rw[upd_ne _ _ (aT j hj)]
    have:=ho.at_ j hj;unfold H7 at this⊢;rw[zJr cP,zsu cP,zzD cP];refine this.imp id λh=>⟨?_,h.2⟩;split
    .rfl
    .exact h.1
   .rw[zsu cP]
    by_cases e:j=i0
    .subst e;rw[if_pos rfl,upd_same]
    .rw[if_neg e,upd_ne _ _ (λh=>e (hq.inj j i0 hj fR h))];exact hc j hj
   .rw[upd_ne _ _ g1];exact hg i' g0 g1 g2
  |c qs ix iw k i1 kd cl ans a hq hk hw aT h0 cM ho hc qD mB hg=>
   rcases Oo h0 cM ho hg hi with⟨_,e⟩|⟨_,e⟩|⟨j,hj,rfl,⟨_,e⟩|⟨_,e|⟨_,e⟩⟩⟩<;>cases e
 add:=by
  intro q ch i l nx hI hi ha;have ha:=zFV ha
  cases hI with
  |a n qs ix l0 hq hn hl h0 ho hc hg=>
   rcases On hl h0 ho hg hi with⟨rfl,rfl⟩|⟨j,hj,rfl,rfl⟩
   .have keep:∀l',(l'=.mN qs\/(n<N/\∃a,l'=.mA qs a\/l'=.mS qs a)\/(l'=.mW qs/\n=N))->Vi N W (bG q 0 (.run l')) ch:=λl' yQ=>
     .a n qs ix l' hq hn yQ (upd_same _ _ _) ⟨ho.ne,ho.inj,λj hj=>by rw[upd_ne _ _ (ho.ne j hj)];exact ho.at_ j hj⟩ hc λi' g0 g1=>by rw[upd_ne _ _ g0];exact hg i' g0 g1
    rcases ha with⟨Pb,rfl,h1,rfl⟩|⟨Pb,a,rfl,rfl⟩
    .rcases hl with e|⟨_,_,e|e⟩|⟨e,_⟩<;>cases e
     refine⟨rfl,rfl,rfl,keep _ (.inr (.inr ⟨rfl,?_⟩))⟩;have:=hq.len;omega
    .rcases hl with e|⟨h1,_,e|e⟩|⟨e,_⟩<;>cases e
     exact⟨rfl,rfl,rfl,keep _ (.inr (.inl ⟨h1,a,.inr rfl⟩))⟩
   .rcases ha with⟨_,e,_⟩|⟨_,_,e,_⟩<;>cases e
  |b qs ix iw k hq hk hw aT h0 cM ho hc hg=>
   exfalso;rcases My h0 cM ho hg hi with⟨_,rfl⟩|⟨_,rfl⟩|⟨j,hj,_,rfl|⟨_,rfl⟩⟩<;>rcases ha with⟨_,e,_⟩|⟨_,_,e,_⟩<;>cases e
  |c qs ix iw k i0 kd cl ans a hq hk hw aT h0 cM ho hc qD mB hg=>
   exfalso;rcases Oo h0 cM ho hg hi with⟨_,rfl⟩|⟨_,rfl⟩|⟨j,hj,_,⟨_,rfl⟩|⟨_,rfl|⟨_,rfl⟩⟩⟩<;>rcases ha with⟨_,e,_⟩|⟨_,_,e,_⟩<;>cases e
 spawn:=by
  intro q ch i l pub lc nx kk hI hi ha;have ha:=zAt ha
  cases hI with
  |a n qs ix l0 hq hn hl h0 ho hc hg=>
   rcases On hl h0 ho hg hi with⟨rfl,rfl⟩|⟨j,hj,rfl,rfl⟩
   .rcases ha with⟨Pb,a,rfl,rfl,rfl,rfl⟩|⟨Pb,rfl,rfl,rfl,rfl⟩
    .rcases hl with e|⟨aN,_,e|e⟩|⟨e,_⟩<;>cases e
     refine⟨rfl,rfl,rfl,λhk gV hp=>?_⟩;have J5:=hp a aQ;have mB:∀j,j<n->qa qs j≠a:=λj hj e=>by have:=hc j hj;rw[e,J5] at this;cases this
     have eK:∀j,j<n->ix j≠kk:=λj hj e=>by have:=ho.at_ j hj;rw[e,hk] at this;cases this
     have Il:∀j,j<n+1->j<n\/j=n:=λj hj=>by omega
     refine .a (n+1) (qs++[a]) (λj=>if j<n then ix j else kk) _ ⟨by simp[hq.len],λj j' hj o6 e=>?_⟩ aN (.inl rfl) ?_ ⟨λj hj=>?_,λj j' hj o6 e=>?_,λj hj=>?_⟩ (λj hj=>?_) λi' g0 g1=>?_
     .rcases Il j hj with h|rfl<;>rcases Il j' o6 with h'|rfl
      .rw[Xp hq.len h,Xp hq.len h'] at e;exact hq.inj j j' h h' e
      .rw[Xp hq.len h,zfO hq.len] at e;exact(mB j h e).elim
      .rw[Xp hq.len h',zfO hq.len] at e;exact(mB j' h' e.symm).elim
      .rfl
     .rw[upd_ne _ _ (Ne.symm gV),upd_same]
     .show(if j<n then ix j else kk)≠0
      split
      .rename_i h;exact ho.ne j h
      .exact gV
     .have e:=e
      rcases Il j hj with h|rfl<;>rcases Il j' o6 with h'|rfl
      .rw[if_pos h,if_pos h'] at e;exact ho.inj j j' h h' e
      .rw[if_pos h,if_neg (Ci _)] at e;exact(eK j h e).elim
      .rw[if_pos h',if_neg (Ci _)] at e;exact(eK j' h' e.symm).elim
      .rfl
     .rcases Il j hj with h|rfl
      .simp only[if_pos h]
       rw[upd_ne _ _ (eK j h),upd_ne _ _ (ho.ne j h),Xp hq.len h];exact ho.at_ j h
      .simp only[Ci,if_false]
       rw[upd_same,zfO hq.len,hq.len]
     .rcases Il j hj with h|rfl
      .rw[Xp hq.len h,zpc (mB j h)];exact hc j h
      .rw[zfO hq.len];exact zwM _ _
     .have e1:i'≠kk:=λe=>by have:=g1 n (wR _);simp only[Ci,if_false] at this;exact this e
      rw[upd_ne _ _ e1,upd_ne _ _ g0];exact hg i' g0 λj hj e=>by have:=g1 j aC;simp only[if_pos hj] at this;exact this e
    .rcases hl with e|⟨aN,_,e|e⟩|⟨e,rfl⟩<;>cases e
     refine⟨rfl,rfl,rfl,λhk gV hp=>?_⟩;have eK:∀j,j<n->ix j≠kk:=λj hj e=>by have:=ho.at_ j hj;rw[e,hk] at this;cases this
     rw[zpv];refine .b qs ix kk 0 hq (jY _) gV eK (.inl ?_) (.inl (upd_same _ _ _)) ⟨ho.ne,ho.inj,λj hj=>?_⟩ hc λi' g0 g1 g2=>?_
     .rw[upd_ne _ _ (Ne.symm gV),upd_same]
     .rw[upd_ne _ _ (eK j hj),upd_ne _ _ (ho.ne j hj)];exact .inl (ho.at_ j hj)
     .rw[upd_ne _ _ g1,upd_ne _ _ g0];exact hg i' g0 g2
   .rcases ha with⟨_,_,e,_⟩|⟨_,e,_⟩<;>cases e
  |b qs ix iw k hq hk hw aT h0 cM ho hc hg=>
   exfalso;rcases My h0 cM ho hg hi with⟨_,rfl⟩|⟨_,rfl⟩|⟨j,hj,_,rfl|⟨_,rfl⟩⟩<;>rcases ha with⟨_,_,e,_⟩|⟨_,e,_⟩<;>cases e
  |c qs ix iw k i0 kd cl ans a hq hk hw aT h0 cM ho hc qD mB hg=>
   exfalso;rcases Oo h0 cM ho hg hi with⟨_,rfl⟩|⟨_,rfl⟩|⟨j,hj,_,⟨_,rfl⟩|⟨_,rfl|⟨_,rfl⟩⟩⟩<;>rcases ha with⟨_,_,e,_⟩|⟨_,e,_⟩<;>cases e
 done:=by
  intro q ch i l hI hi ha;have fI:=zFB ha
  cases hI with
  |a n qs ix l0 hq hn hl h0 ho hc hg=>
   exfalso;rcases On hl h0 ho hg hi with⟨rfl,rfl⟩|⟨j,hj,rfl,rfl⟩
   .exact(Zn (zad hl)).2.2.2 ha
   .cases ha
  |b qs ix iw k hq hk hw aT h0 cM ho hc hg=>
   rcases My h0 cM ho hg hi with⟨_,rfl⟩|⟨rfl,rfl⟩|⟨j,hj,rfl,rfl|⟨hx,rfl⟩⟩
   .cases ha
   .rcases fI with e|⟨_,_,e,h1⟩
    .cases e
    .cases e
     have zg9:k=W.length:=by have:=zsZ.1 h1;omega
     refine⟨hw,.b qs ix i k hq hk hw aT ?_ (.inr ⟨zg9,upd_same _ _ _⟩) ⟨ho.ne,ho.inj,λj hj=>?_⟩ hc λi' g0 g1 g2=>?_⟩
     .rw[upd_ne _ _ (Ne.symm hw)];exact h0
     .rw[upd_ne _ _ (aT j hj)];exact ho.at_ j hj
     .rw[upd_ne _ _ g1];exact hg i' g0 g1 g2
   .cases ha
   .refine⟨ho.ne j hj,.b qs ix iw k hq hk hw aT ?_ ?_ ⟨ho.ne,ho.inj,λj' o6=>?_⟩ hc λi' g0 g1 g2=>?_⟩
    .rw[upd_ne _ _ (Ne.symm (ho.ne j hj))];exact h0
    .rw[upd_ne _ _ (Ne.symm (aT j hj))];exact cM
    .by_cases e:j'=j
     .subst e;rw[upd_same];exact .inr ⟨hx,.inr rfl⟩
     .rw[upd_ne _ _ (λh=>e (ho.inj j' j o6 hj h))];exact ho.at_ j' o6
    .rw[upd_ne _ _ (g2 j hj)];exact hg i' g0 g1 g2
  |c qs ix iw k i0 kd cl ans a hq hk hw aT h0 cM ho hc qD mB hg=>
   rcases Oo h0 cM ho hg hi with⟨_,rfl⟩|⟨rfl,rfl⟩|⟨j,hj,rfl,⟨_,rfl⟩|⟨Qh,rfl|⟨hx,rfl⟩⟩⟩
   .cases ha
   .cases ha
   .cases ha
   .cases ha
   .refine⟨ho.ne j hj,.c qs ix iw k i0 kd cl ans a hq hk hw aT ?_ ?_ ⟨ho.ne,ho.inj,λj' o6=>?_⟩ hc qD mB λi' g0 g1 g2=>?_⟩
    .rw[upd_ne _ _ (Ne.symm (ho.ne j hj))];exact h0
    .rw[upd_ne _ _ (Ne.symm (aT j hj))];exact cM
    .by_cases e:j'=j
     .subst e;rw[if_neg Qh,upd_same];exact .inr ⟨hx,.inr rfl⟩
     .rw[upd_ne _ _ (λh=>e (ho.inj j' j o6 hj h))];exact ho.at_ j' o6
    .rw[upd_ne _ _ (g2 j hj)];exact hg i' g0 g1 g2
 note:=by
  intro q ch i l can l' hI hi ha zDG;obtain⟨Pb,rfl,aN,rfl⟩:=zBQ ha;obtain⟨a,rfl⟩:=zDG;refine⟨rfl,?_⟩
  cases hI with
  |a n qs ix l0 hq hn hl h0 ho hc hg=>
   rcases On hl h0 ho hg hi with⟨rfl,rfl⟩|⟨j,hj,rfl,e⟩
   .rcases hl with e|⟨_,_,e|e⟩|⟨e,_⟩<;>cases e
    exact .a n Pb ix _ hq hn (.inr (.inl ⟨by have:=hq.len;omega,a,.inl rfl⟩)) (upd_same _ _ _) ⟨ho.ne,ho.inj,λj hj=>by rw[upd_ne _ _ (ho.ne j hj)];exact ho.at_ j hj⟩ hc λi' g0 g1=>by rw[upd_ne _ _ g0];exact hg i' g0 g1
   .cases e
  |b qs ix iw k hq hk hw aT h0 cM ho hc hg=>
   exfalso;rcases My h0 cM ho hg hi with⟨_,e⟩|⟨_,e⟩|⟨j,hj,_,e|⟨_,e⟩⟩<;>cases e
  |c qs ix iw k i0 kd cl ans a hq hk hw aT h0 cM ho hc qD mB hg=>
   exfalso;rcases Oo h0 cM ho hg hi with⟨_,e⟩|⟨_,e⟩|⟨j,hj,_,⟨_,e⟩|⟨_,e|⟨_,e⟩⟩⟩<;>cases e
 wait:=by
  intro q ch i l hI hi ha;obtain rfl:=zEv ha
  cases hI with
  |a n qs ix l0 hq hn hl h0 ho hc hg=>
   exfalso;rcases On hl h0 ho hg hi with⟨rfl,e⟩|⟨j,hj,rfl,e⟩
   .subst e;rcases hl with e|⟨_,_,e|e⟩|⟨e,_⟩<;>cases e
   .cases e
  |b qs ix iw k hq hk hw aT h0 cM ho hc hg=>
   rcases My h0 cM ho hg hi with⟨rfl,_⟩|⟨_,e⟩|⟨j,hj,_,e|⟨_,e⟩⟩
   .refine⟨rfl,rfl,.b qs ix iw k hq hk hw aT (.inr (upd_same _ _ _)) ?_ ⟨ho.ne,ho.inj,λj hj=>?_⟩ hc λi' g0 g1 g2=>?_⟩
    .rw[upd_ne _ _ hw];exact cM
    .rw[upd_ne _ _ (ho.ne j hj)];exact ho.at_ j hj
    .rw[upd_ne _ _ g0];exact hg i' g0 g1 g2
   all_goals cases e
  |c qs ix iw k i0 kd cl ans a hq hk hw aT h0 cM ho hc qD mB hg=>
   rcases Oo h0 cM ho hg hi with⟨rfl,_⟩|⟨_,e⟩|⟨j,hj,_,⟨_,e⟩|⟨_,e|⟨_,e⟩⟩⟩
   .refine⟨rfl,rfl,.c qs ix iw k i0 kd cl ans a hq hk hw aT (.inr (upd_same _ _ _)) ?_ ⟨ho.ne,ho.inj,λj hj=>?_⟩ hc qD mB λi' g0 g1 g2=>?_⟩
    .rw[upd_ne _ _ hw];exact cM
    .rw[upd_ne _ _ (ho.ne j hj)];exact ho.at_ j hj
    .rw[upd_ne _ _ g0];exact hg i' g0 g1 g2
   all_goals cases e
 prog:=by
  intro q ch hI hB
  cases hI with
  |a n qs ix l0 hq hn hl h0 ho hc hg=>exact(zpp (zad hl) (hB 0 l0 h0)).elim
  |b qs ix iw k hq hk hw aT h0 cM ho hc hg=>
   have hz:=h0.resolve_left λe=>zpp (.inr (.inr (.inr (.inr rfl)))) (hB 0 _ e);have zH4:k=W.length:=by
    rcases cM with e|⟨e,_⟩
    .have h1:=hB iw _ e
     cases hx:W[k]? with
     |none=>have:=zsZ.1 hx;omega
     |some x=>
      exfalso
      cases x with
      |ask i kd cl ans=>
       obtain⟨hi,Af,_⟩:=hW.ask k i kd cl ans hx;unfold jP.Blocked Ce at h1;simp only[eT,hx] at h1;refine h1 ⟨ix i,.op (qa qs i) (kZ W k i) (nX W k i),_,_,_,?_,rfl⟩;rcases ho.at_ i hi with h2|⟨h2,_⟩
       .exact h2
       .rw[Af] at h2;cases h2
      |shut i=>
       unfold jP.Blocked Ce at h1;simp only[eT,hx] at h1
    .exact e
   subst zH4;refine⟨hz,λi l hi=>?_⟩;have h1:=hB i l hi;rcases My h0 cM ho hg hi with⟨rfl,_⟩|⟨_,rfl⟩|⟨j,hj,rfl,rfl|⟨_,rfl⟩⟩
   .rw[hz] at hi;cases hi
   .unfold jP.Blocked Ce at h1
    simp[eT] at h1
   .unfold jP.Blocked Ce at h1
    simp only[eT] at h1;rw[hc j hj,hW.all j hj] at h1;exact absurd h1.1 aQ
   .unfold jP.Blocked Ce at h1
    simp[eT] at h1
  |c qs ix iw k i0 kd cl ans a hq hk hw aT h0 cM ho hc qD mB hg=>
   exfalso;obtain⟨fR,_,_⟩:=hW.ask k i0 kd cl ans hk;have h2:=ho.at_ i0 fR;rw[if_pos rfl] at h2;have h1:=hB (ix i0) _ h2;unfold jP.Blocked Ce at h1;simp only[eT] at h1;exact h1 ⟨iw,.wr qs k a,_,_,_,cM,rfl⟩
 pendC:=by
  intro l l' c v ok pub nx ha hl;subst hl;rcases zlf ha with⟨c0,call,m,rfl,rfl,rfl,rfl⟩|⟨qs,k,i,kd,cl,ans,rfl,h1,rfl,rfl,rfl,rfl⟩
  .rfl
  .show(Yw qs k v).pend=false
   unfold Yw;split<;>rfl
 pendR:=by
  intro l l' c v ok nx sh ha hl;rcases Xc ha with⟨call,m,rfl,rfl,rfl,rfl⟩|⟨qs,k,rfl,rfl,rfl,rfl⟩
  .rcases hl with rfl|rfl
   .show(Tc c call m v).pend=false
    unfold Tc;split<;>rfl
   .rfl
  .rcases hl with rfl|rfl<;>rfl
 pendX:=by
  intro l c nx ha;obtain⟨qs,k,i,rfl,_,_,rfl⟩:=zwQ ha;rfl
 few:=by
  intro q ch hI m;have key:∀(n iw:Nat) (ix:Nat->Nat),n<=N->(∀i,i≠0->i≠iw->(∀j,j<n->i≠ix j)->q i=.gone)->num q m<2000000000:=λn iw ix hn hg=>by
   have:=zDK (0::iw::(gN n).map ix) q (λi hi=>by
    simp only[jL,not_or,Ir,Bd,not_exists,not_and] at hi;exact hg i hi.1 hi.2.1 λj hj e=>hi.2.2 j hj e.symm) m
   simp at this;omega
  cases hI with
  |a n qs ix l0 hq hn hl h0 ho hc hg=>exact key n 0 ix hn λi h1 _ h3=>hg i h1 h3
  |b qs ix iw k hq hk hw aT h0 cM ho hc hg=>exact key N iw ix (aX _) hg
  |c qs ix iw k i0 kd cl ans a hq hk hw aT h0 cM ho hc qD mB hg=>exact key N iw ix (aX _) hg
 gotP:=by
  intro q ch i j li lj c ok pub nx pD nH sh v hI hi hj ha hb hv a hx
  cases hI with
  |a n qs ix l0 hq hn hl h0 ho hc hg=>exact(zdt hl h0 ho hg hi ha).elim
  |b qs ix iw k hq hk hw aT h0 cM ho hc hg=>
   obtain⟨rfl,rfl,j0,kd,cl,ans,h1,rfl,rfl,rfl,rfl⟩:=zcz h0 cM ho hg hi ha;obtain⟨j1,Gl,rfl,rfl,_⟩:=Vd h0 cM ho hg hj hb;exact hx
  |c qs ix iw k i0 kd cl ans a' hq hk hw aT h0 cM ho hc qD mB hg=>
   obtain⟨fR,rfl,rfl,rfl,rfl,rfl,rfl⟩:=zbY h0 cM ho hg hi ha;rcases Xj h0 cM ho hg hj hb with⟨rfl,rfl,_⟩|⟨j1,Gl,_,rfl,_,qN,_⟩
   .cases hx
   .exact(mB j1 Gl qN.symm).elim
end
end Go.Mt
namespace Go.Proofs.YtfcjiloojkjaeaaGreatDoor
open Go.RowKit Go.Mt
def zB (op:Int):Nat:=(op-1).toNat
def Gu (b:b7)(op:Int):List fG:=
 .ask (zB op) 0 0 (dK b.recs op)::(if 0<dK b.recs op then[] else match b.wait with|[]=>[]|c::_=>[.ask (zB op) 1 c.c c.c])
def Cz (b:b7)(op:Int):List fG:=
 .ask (zB op) 0 0 (dK b.recs op)::(if 0<dK b.recs op then[] else match b.back with|[]=>[]|c::_=>match oJ b.o b.recs with|[]=>[]|_::_=>[.ask (zB op) 1 c.c c.c])
def Dr (b:b7)(c:Int):List fG:=
 match jJ b.recs c with
 |some i=>if 0<opAt b.recs i then[.ask (zB (opAt b.recs i)) 1 0 0] else[]
 |none=>[]
def pI (b:b7)(e:dB):List fG:=
 if e.k.toList=Iz then[] else if e.k.toList=Hp then Gu b e.a else if e.k.toList=Hs then Cz b e.a else if e.k.toList=K8 then Dr b e.a else[]
def rW (o:jD)(es:List dB):Nat->List fG
 |0=>[]
 |k+1=>rW o es k++(match es[k]? with|some e=>pI (mG o es k) e|none=>[])
def yV (b:b7):Nat->List fG
 |0=>[]
 |n+1=>yV b n++[.ask n 0 0 (dK b.recs ((n:Int)+1)),.shut n]
def Bj (o:jD)(es:List dB):List fG:=rW o es es.length++yV (I6 o es) o.op.toNat
theorem zjM (A B:List fG)(i:Nat):∀k,k<=A.length->kZ (A++B) k i=kZ A k i:=by
 intro k
 induction k with
 |zero=>intro _;rfl
 |succ k ih=>
  intro hk;simp only[kZ];rw[y3 aC,ih aC]
theorem X9 (A B:List fG)(i:Nat):∀k,k<=A.length->fZ (A++B) k i=fZ A k i:=by
 intro k
 induction k with
 |zero=>intro _;rfl
 |succ k ih=>
  intro hk;simp only[fZ];rw[y3 aC,ih aC]
theorem zgC (A:List fG)(x:fG):(A++[x])[A.length]? =some x:=by rw[Ah (aX _),Nv];rfl
structure WP (N:Nat)(A:List fG):Prop where
 ask:∀(k i:Nat) (kd cl ans:Int),A[k]? =some (.ask i kd cl ans)->i<N/\fZ A k i=false/\ans=kZ A (k+1) i
 shut:∀(k i:Nat),A[k]? =some (.shut i)->i<N/\fZ A k i=false
variable {N:Nat}{A:List fG}
theorem WP.snoc {x:fG}(h:WP N A)(h1:∀i kd cl ans,x=.ask i kd cl ans->i<N/\fZ A A.length i=false/\ans=kZ (A++[x]) (A.length+1) i)(h2:∀i,x=.shut i->i<N/\fZ A A.length i=false):WP N (A++[x]):=by
 have key:∀(k:Nat) (y:fG),(A++[x])[k]? =some y->(k<A.length/\A[k]? =some y)\/(k=A.length/\y=x):=λk y hk=>by
  rcases mX k A.length with hl|hl
  .rw[y3 hl] at hk;exact .inl ⟨hl,hk⟩
  .rw[Ah hl] at hk
   rcases Po (k-A.length) with e|e
   .rw[e] at hk;exact .inr ⟨aC,by simpa using hk.symm⟩
   .rw[Cu r9] at hk;cases hk
 refine⟨λk i kd cl ans hk=>?_,λk i hk=>?_⟩
 .rcases key k _ hk with⟨hl,cP⟩|⟨rfl,e⟩
  .obtain⟨a1,a2,a3⟩:=h.ask k i kd cl ans cP
   exact⟨a1,by rw[X9 _ _ _ _ aC];exact a2,by rw[zjM _ _ _ _ aC];exact a3⟩
  .obtain⟨a1,a2,a3⟩:=h1 i kd cl ans e.symm
   exact⟨a1,by rw[X9 _ _ _ _ (aX _)];exact a2,a3⟩
 .rcases key k _ hk with⟨hl,cP⟩|⟨rfl,e⟩
  .obtain⟨a1,a2⟩:=h.shut k i cP
   exact⟨a1,by rw[X9 _ _ _ _ aC];exact a2⟩
  .obtain⟨a1,a2⟩:=h2 i e.symm
   exact⟨a1,by rw[X9 _ _ _ _ (aX _)];exact a2⟩
theorem Yy (A:List fG)(j:Nat)(kd cl ans:Int)(i:Nat):kZ (A++[.ask j kd cl ans]) (A.length+1) i=if i=j then(if kd=1 then cl else kZ A A.length i) else kZ A A.length i:=by
 simp only[kZ,zgC];rw[zjM _ _ _ _ (aX _)]
theorem zly (A:List fG)(j:Nat)(kd cl ans:Int)(i:Nat):fZ (A++[.ask j kd cl ans]) (A.length+1) i=fZ A A.length i:=by
 simp only[fZ,zgC];rw[X9 _ _ _ _ (aX _)]
theorem zJD (A:List fG)(j i:Nat):kZ (A++[.shut j]) (A.length+1) i=kZ A A.length i:=by
 simp only[kZ,zgC];rw[zjM _ _ _ _ (aX _)]
theorem zFn (A:List fG)(j i:Nat):fZ (A++[.shut j]) (A.length+1) i=if i=j then true else fZ A A.length i:=by
 simp only[fZ,zgC];rw[X9 _ _ _ _ (aX _)]
def Jg (N:Nat)(rs:List bT)(A:List fG):Prop:=∀i,i<N->kZ A A.length i=dK rs ((i:Int)+1)/\fZ A A.length i=false
def zbx (A:List fG)(x:fG):(A++[x]).length=A.length+1:=aQ
variable {rs:List bT}{i:Nat}
theorem WP.who (h:WP N A)(ht:Jg N rs A)(hi:i<N):WP N (A++[.ask i 0 0 (dK rs ((i:Int)+1))])/\Jg N rs (A++[.ask i 0 0 (dK rs ((i:Int)+1))]):=by
 obtain⟨t1,t2⟩:=ht i hi;refine⟨h.snoc (λj kd cl ans e=>?_) (λj e=>by cases e),λj hj=>?_⟩
 .cases e
  exact⟨hi,t2,by rw[Yy,if_pos rfl,if_neg aH,t1]⟩
 .obtain⟨s1,s2⟩:=ht j hj
  rw[zbx,Yy,zly];refine⟨?_,s2⟩;split
  .rw[if_neg aH];exact s1
  .exact s1
variable {Km:List bT}
theorem WP.tell (h:WP N A)(ht:Jg N rs A)(hi:i<N){c:Int}(h1:dK Km ((i:Int)+1)=c)(h2:∀j:Nat,j<N->j≠i->dK Km ((j:Int)+1)=dK rs ((j:Int)+1)):WP N (A++[.ask i 1 c c])/\Jg N Km (A++[.ask i 1 c c]):=by
 obtain⟨t1,t2⟩:=ht i hi;refine⟨h.snoc (λj kd cl ans e=>?_) (λj e=>by cases e),λj hj=>?_⟩
 .cases e
  exact⟨hi,t2,by rw[Yy,if_pos rfl,if_pos rfl]⟩
 .obtain⟨s1,s2⟩:=ht j hj
  rw[zbx,Yy,zly];refine⟨?_,s2⟩;split
  .rename_i e;subst e;rw[if_pos rfl,h1]
  .rename_i e;rw[h2 j hj e];exact s1
def Jg.same (ht:Jg N rs A)(h:∀j:Nat,j<N->dK Km ((j:Int)+1)=dK rs ((j:Int)+1)):Jg N Km A:=λi hi=>⟨(ht i hi).1.trans (h i hi).symm,(ht i hi).2⟩
variable {op:Int}
theorem zv6 {r:bT}(h:r.o≠op):dK (rs++[r]) op=dK rs op:=by
 unfold dK;have hn:[r].find? (wA op)=none:=by
  rw[zdK];intro x hx;obtain rfl:=sE.1 hx;unfold wA;simp[h]
 rw[List.find?_append,hn];cases rs.find? (wA op)<;>rfl
variable {b:b7}
def jE.one (h:jE b)(hop:0<op):∀(i j:Nat) (d e:bT),b.recs[i]? =some d->b.recs[j]? =some e->eI d=true->eI e=true->d.o=op->e.o=op->i=j:=
 λi j d e h1 h2 h3 h4 h5 h6=>h.opn i j d e h1 h2 h3 h4 (.inr (.inr ⟨h5.trans h6.symm,aC⟩))
theorem zvK (hu:∀(i j:Nat) (d e:bT),Km[i]? =some d->Km[j]? =some e->eI d=true->eI e=true->d.o=op->e.o=op->i=j)
 (h1:∀(i:Nat) (d:bT),rs[i]? =some d->eI d=true->d.o=op->Km[i]? =some d) (h2:∀(i:Nat) (d:bT),Km[i]? =some d->eI d=true->d.o=op->rs[i]? =some d):dK Km op=dK rs op:=by
 rcases zrw rs op with⟨i,d,a1,a2,a3,a4⟩|⟨a1,a2⟩
 .rw[a4];exact zir hu (h1 i d a1 a2 a3) a2 a3
 .rw[a2]
  exact zpm λi d hd ho e=>a1 i d (h2 i d hd ho e) ho e
variable {d:bT}{e:ByteArray}
theorem zi9 (h:jE b)(hd:b.recs[i]? =some d)(he:(e.toList==[111,112,101,110])=false)(hop:0<op)(aT:d.o≠op):dK (Ki b i e) op=dK b.recs op:=by
 have old:∀(j:Nat) (z:bT),(Ki b i e)[j]? =some z->eI z=true->b.recs[j]? =some z:=λj z hj hz=>by
  obtain⟨d',h1,⟨_,rfl⟩|⟨h2,rfl⟩⟩:=Fj hj
  .have Ga:eI {d' with t:=b.clk,e:=e}=false:=he
   rw[Ga] at hz;cases hz
  .exact h1
 refine zvK (λp q x y hp hq hx hy h5 h6=>h.one hop p q x y (old p x hp hx) (old q y hq hy) hx hy h5 h6) (λj z hj hz e=>?_) (λj z hj hz _=>old j z hj hz);exact Oy hj λe2=>by subst e2;rw[hd] at hj;injection hj with hj;exact aT (hj▸e)
theorem zCq (h:jE b)(hd:b.recs[i]? =some d)(zdF:eI d=true)(he:(e.toList==[111,112,101,110])=false)(hop:0<d.o):dK (Ki b i e) d.o=0:=by
 refine zpm λj z hj hz e2=>?_;obtain⟨d',h1,⟨_,rfl⟩|⟨h2,rfl⟩⟩:=Fj hj
 .have Ga:eI {d' with t:=b.clk,e:=e}=false:=he
  rw[Ga] at hz;cases hz
 .exact h2 (h.one hop i j d z hd h1 zdF hz rfl e2)
theorem zDW (hop:0<op):∀(xs:List bJ) (b:b7) (t:List UInt8),jE b->(xs.map bJ.c).Nodup->(∀x∈xs,x∈b.wait)->dK (xs.foldl l5 (b,t)).1.recs op=dK b.recs op:=by
 intro xs
 induction xs with
 |nil=>intro b t h _ _;rfl
 |cons x xs ih=>
  intro b t h hn hx;rw[Pz];have hS:=h.tire (t:=t) (x:=x);rw[fK,C5] at hn;have key:dK (l5 (b,t) x).1.recs op=dK b.recs op/\∀y∈xs,y∈(l5 (b,t) x).1.wait:=by
   have Bw:∀y∈xs,y∈b.wait:=λy hy=>hx y (Hd _ hy);obtain⟨i0,d0,w1,w2,w3,w4⟩:=h.wt x (hx x aQ);have eY:jJ b.recs x.c=some i0:=by rw[<-w3];exact h.at_ w1 w2
   unfold l5;simp only[eY];split
   .refine⟨zi9 h w1 zhP hop aC,λy hy=>?_⟩
    show y∈dY b.wait (G6 b.recs i0);unfold dY;rw[Iy,Ui w1,w3];refine⟨Bw y hy,?_⟩;have:y.c≠x.c:=λe=>hn.1 (e▸Vv hy);simpa using this
   .exact⟨rfl,Bw⟩
  obtain⟨k1,k2⟩:=key;generalize l5 (b,t) x=p at hS k1 k2⊢;obtain⟨b',t'⟩:=p;rw[ih b' t' hS hn.2 k2];exact k1
structure So (b:b7):Prop where
 op:∀d∈b.recs,0<=d.o/\d.o<=b.o.op
 n1:1<=b.o.op
def zoD (A B:List fG)(x:fG):A++x::B=(A++[x])++B:=aQ
theorem zE8 {e:dB}(hS:jE b)(hr:RInv b)(hB:So b)(hN:b.o.op=(N:Int))(he:tE b.o.op e=true)(hw:WP N A)(ht:Jg N b.recs A):
 WP N (A++pI b e)/\Jg N (eN b e).1.recs (A++pI b e)/\So (eN b e).1:=by
 have zjs:∀op:Int,1<=op->op<=b.o.op->zB op<N/\((zB op:Nat):Int)+1=op:=λop h1 h2=>by unfold zB;omega
 by_cases h1:e.k.toList=Iz
 .unfold pI eN
  rw[if_pos h1,if_pos h1,N4];refine⟨hw,?_⟩;unfold qB;split
  .exact⟨ht,⟨hB.op,hB.n1⟩⟩
  .split
   .exact⟨ht,⟨hB.op,hB.n1⟩⟩
   .rename_i l ls hf
    refine⟨ht.same λj hj=>zv6 (by show(0:Int)≠_;omega),⟨λd hd=>?_,hB.n1⟩⟩;rcases Er.1 hd with hd|hd
    .exact hB.op d hd
    .obtain rfl:=sE.1 hd
     exact⟨Int.le_refl _,by have:=hB.n1;show(0:Int)<=b.o.op;omega⟩
 by_cases h2:e.k.toList=Hp
 .obtain⟨o1,o2⟩:=zev he (.inl h2)
  obtain⟨i1,i2⟩:=zjs e.a o1 o2;have zC:=h1;unfold pI eN;rw[if_neg h1,if_neg h1,if_pos h2,if_pos h2];unfold Gu nU;obtain⟨k1,k2⟩:=hw.who ht i1;rw[i2] at k1 k2;by_cases hp:0<dK b.recs e.a
  .rw[if_pos hp,if_pos hp]
   exact⟨k1,k2,hB⟩
  .rw[if_neg hp,if_neg hp]
   cases cD:b.wait with
   |nil=>exact⟨k1,k2,hB⟩
   |cons c cs=>
    obtain⟨i0,d0,w1,w2,w3,w4⟩:=hS.wt c Zv;have eY:jJ b.recs c.c=some i0:=by rw[<-w3];exact hS.at_ w1 w2
    simp only[eY];rw[zoD];have hn:=zgr (λd hd=>(hr.recB d hd).1) hp;have Py:=hS.heard (hh:=b.clk) w1 w2 hn (wait:=[]) (λx hx=>by cases hx);have r1:dK (b.recs.modify i0 λd=>{d with o:=e.a,h:=b.clk}) (((zB e.a:Nat):Int)+1)=c.c:=by
     rw[i2];have:=zir (rs:=b.recs.modify i0 λd=>{d with o:=e.a,h:=b.clk}) (op:=e.a) (λp q x y=>Py.one aC p q x y) (zcD w1) w2 rfl;rw[this];exact w3
    have r2:∀j:Nat,j<N->j≠zB e.a->dK (b.recs.modify i0 λd=>{d with o:=e.a,h:=b.clk}) ((j:Int)+1)=dK b.recs ((j:Int)+1):=λj hj aT=>by
     have V8:(j:Int)+1≠e.a:=λh=>aT ziw;refine zvK (λp q x y=>Py.one aC p q x y) (λp z hz zdc znD=>?_) (λp z hz zdc znD=>?_)
     .exact Oy hz λe2=>by subst e2;rw[w1] at hz;injection hz with hz;rw[<-hz] at znD;omega
     .obtain⟨d',g1,⟨_,rfl⟩|⟨_,rfl⟩⟩:=Fj hz
      .exact absurd znD.symm V8
      .exact g1
    obtain⟨m1,m2⟩:=k1.tell k2 i1 r1 r2;refine⟨m1,m2,⟨λd hd=>?_,hB.n1⟩⟩;obtain⟨d',Au,rfl|rfl⟩:=Sw hd
    .exact hB.op _ Au
    .exact⟨by show 0<=e.a;omega,o2⟩
 by_cases h3:e.k.toList=Hs
 .obtain⟨o1,o2⟩:=zev he (.inr h3)
  obtain⟨i1,i2⟩:=zjs e.a o1 o2;unfold pI eN;rw[if_neg h1,if_neg h1,if_neg h2,if_neg h2,if_pos h3,if_pos h3];unfold Cz l8;obtain⟨k1,k2⟩:=hw.who ht i1;rw[i2] at k1 k2;by_cases hp:0<dK b.recs e.a
  .rw[if_pos hp,if_pos hp]
   exact⟨k1,k2,hB⟩
  .rw[if_neg hp,if_neg hp]
   cases wM:b.back with
   |nil=>exact⟨k1,k2,hB⟩
   |cons c cs=>
    cases hf:oJ b.o b.recs with
    |nil=>exact⟨k1,k2,hB⟩
    |cons l ls=>
     simp only;rw[zoD];have hn:=zgr (λd hd=>(hr.recB d hd).1) hp;have Py:=hS.more (c:=c.c) (l:=l) (o:=e.a) (hh:=b.clk) (tt:=-1) (clk:=b.clk) (hS.bo c zaR) (zmk Wt) (.inr hn) (wait:=[]) (back:=[]) (λx hx=>by cases hx) Qa (λx hx=>by cases hx);have r1:dK (b.recs++[⟨c.c,l,e.a,b.clk,b.clk,-1,eM⟩]) (((zB e.a:Nat):Int)+1)=c.c:=by
      rw[i2];exact zir (rs:=b.recs++[⟨c.c,l,e.a,b.clk,b.clk,-1,eM⟩]) (op:=e.a) (λp q x y=>Py.one aC p q x y) (i:=b.recs.length) (d:=⟨c.c,l,e.a,b.clk,b.clk,-1,eM⟩) (by rw[Ah (aX _),Nv];rfl) (by unfold eI;rw[ze9];rfl) rfl
     have r2:∀j:Nat,j<N->j≠zB e.a->dK (b.recs++[⟨c.c,l,e.a,b.clk,b.clk,-1,eM⟩]) ((j:Int)+1)=dK b.recs ((j:Int)+1):=λj hj aT=>
      zv6 (by show e.a≠_;intro h;exact aT ziw)
     obtain⟨m1,m2⟩:=k1.tell k2 i1 r1 r2;refine⟨m1,m2,⟨λd hd=>?_,hB.n1⟩⟩;rcases Er.1 hd with hd|hd
     .exact hB.op d hd
     .obtain rfl:=sE.1 hd
      exact⟨by show 0<=e.a;omega,o2⟩
 by_cases h4:e.k.toList=K8
 .unfold pI eN
  rw[if_neg h1,if_neg h1,if_neg h2,if_neg h2,if_neg h3,if_neg h3,if_pos h4,if_pos h4];unfold Dr mD
  cases eY:jJ b.recs e.a with
  |none=>
   simp only;rw[N4];split
   .exact⟨hw,ht,⟨hB.op,hB.n1⟩⟩
   .exact⟨hw,ht,⟨hB.op,hB.n1⟩⟩
  |some i=>
   obtain⟨d,g1,g2,g3⟩:=Bs eY;have ho:opAt b.recs i=d.o:=by unfold opAt;rw[g1]
   have zoj:∀(x:ByteArray),∀z∈Ki b i x,0<=z.o/\z.o<=b.o.op:=λx z hz=>by
    obtain⟨d',Au,rfl|rfl⟩:=Sw hz
    .exact hB.op _ Au
    .exact hB.op d' Au
   simp only[ho];by_cases hp:0<d.o
   .rw[if_pos hp,if_pos hp]
    obtain⟨i1,i2⟩:=zjs d.o aC (hB.op d (dX g1)).2;have r1:dK (Ki b i Gi) (((zB d.o:Nat):Int)+1)=0:=by rw[i2];exact zCq hS g1 g3 zgk hp
    have r2:∀j:Nat,j<N->j≠zB d.o->dK (Ki b i Gi) ((j:Int)+1)=dK b.recs ((j:Int)+1):=λj hj aT=>zi9 hS g1 zgk aC (λh=>aT ziw);obtain⟨m1,m2⟩:=hw.tell ht i1 r1 r2;exact⟨m1,m2,⟨zoj _,hB.n1⟩⟩
   .rw[if_neg hp,if_neg hp,N4]
    exact⟨hw,ht.same λj hj=>zi9 hS g1 zmy aC (by have:=(hB.op d (dX g1)).1;omega),⟨zoj _,hB.n1⟩⟩
 .unfold pI eN
  rw[if_neg h1,if_neg h1,if_neg h2,if_neg h2,if_neg h3,if_neg h3,if_neg h4,if_neg h4,N4];unfold uY;have Py:jE {b with clk:=b.clk+e.a}:=⟨hS.opn,hS.last,hS.wt,hS.bk,hS.bo⟩;refine⟨hw,ht.same λj hj=>zDW aC b.wait {b with clk:=b.clk+e.a} _ Py hr.nodup (λx hx=>hx),?_⟩;have key:∀(xs:List bJ) (b':b7) (t:List UInt8),So b'->So (xs.foldl l5 (b',t)).1:=by
   intro xs
   induction xs with
   |nil=>intro b' t h;exact h
   |cons x xs ih=>
    intro b' t h;rw[Pz];have h9:So (l5 (b',t) x).1:=by
     unfold l5;split
     .exact h
     .split
      .refine⟨λz hz=>?_,h.n1⟩
       obtain⟨d',Au,rfl|rfl⟩:=Sw hz
       .exact h.op _ Au
       .exact h.op d' Au
      .exact h
    generalize l5 (b',t) x=p at h9⊢;obtain⟨zHb,zCR⟩:=p;exact ih zHb zCR h9
  exact key _ _ _ ⟨hB.op,hB.n1⟩
variable {o:jD}{es:List dB}
theorem zuv (h:gG o es=true)(hN:o.op=(N:Int)):∀k,k<=es.length->WP N (rW o es k)/\Jg N (mG o es k).recs (rW o es k)/\So (mG o es k):=by
 intro k;have bV:=h;unfold gG at bV;simp only[fV,tK] at bV
 induction k with
 |zero=>
  intro _;refine⟨⟨λk i kd cl ans h=>by simp[rW] at h,λk i h=>by simp[rW] at h⟩,λi hi=>⟨rfl,rfl⟩,⟨λd hd=>by simp[mG,l7] at hd,?_⟩⟩;have:=bV.1.1;unfold rR at this;simp at this;show 1<=o.op;omega
 |succ k ih=>
  intro hk;have aN:k<es.length:=aC;have he:=lO aN;obtain⟨a1,a2,a3⟩:=ih aC;obtain⟨b1,_,b3⟩:=P8 h k aC;have:=zE8 (zua h k aC) b1 a3 (by rw[b3];exact hN) (by rw[b3];exact bV.2 es[k] (List.getElem_mem aN)) a1 a2;rw[Xs he];unfold rW;rw[he];exact⟨this.1,this.2.1,⟨this.2.2.op,this.2.2.n1⟩⟩
theorem endA_ok (hw:WP N A)(ht:Jg N b.recs A):∀n,n<=N->WP N (A++yV b n)/\(∀i,i<N->kZ (A++yV b n) (A++yV b n).length i=dK b.recs ((i:Int)+1))/\(∀i,fZ (A++yV b n) (A++yV b n).length i=if i<n then true else fZ A A.length i):=by
 intro n
 induction n with
 |zero=>intro _;simp only[yV,N4];exact⟨hw,λi hi=>(ht i hi).1,λi=>by simp⟩
 |succ n ih=>
  intro hn;obtain⟨k1,k2,k3⟩:=ih aC;have e:A++yV b (n+1)=(A++yV b n++[fG.ask n 0 0 (dK b.recs ((n:Int)+1))])++[.shut n]:=by simp[yV]
  rw[e];generalize A++yV b n=B at*;have hx:fZ B B.length n=false:=by rw[k3 n,if_neg (Ci _)];exact(ht n aC).2
  have w1:WP N (B++[fG.ask n 0 0 (dK b.recs ((n:Int)+1))]):=k1.snoc (λj kd cl ans e=>by cases e;exact⟨aC,hx,by rw[Yy,if_pos rfl,if_neg aH,k2 n aC]⟩) (λj e=>by cases e);have l1:=zbx B (fG.ask n 0 0 (dK b.recs ((n:Int)+1)));have x1:∀i,fZ (B++[fG.ask n 0 0 (dK b.recs ((n:Int)+1))]) (B++[fG.ask n 0 0 (dK b.recs ((n:Int)+1))]).length i=fZ B B.length i:=λi=>by rw[l1,zly]
  have c1:∀i,kZ (B++[fG.ask n 0 0 (dK b.recs ((n:Int)+1))]) (B++[fG.ask n 0 0 (dK b.recs ((n:Int)+1))]).length i=kZ B B.length i:=λi=>by
   rw[l1,Yy];split
   .rw[if_neg aH]
   .rfl
  generalize B++[fG.ask n 0 0 (dK b.recs ((n:Int)+1))]=B2 at*;refine⟨w1.snoc (λj kd cl ans e=>by cases e) (λj e=>by cases e;exact⟨aC,by rw[x1];exact hx⟩),λi hi=>?_,λi=>?_⟩
  .rw[zbx,zJD,c1];exact k2 i hi
  .rw[zbx,zFn,x1,k3 i]
   by_cases h:i=n
   .subst h;rw[if_pos rfl,if_pos (wR _)]
   .rw[if_neg h]
    by_cases h2:i<n
    .rw[if_pos h2,if_pos aC]
    .rw[if_neg h2,if_neg aC]
theorem zAx (h:gG o es=true):WOk o.op.toNat (Bj o es):=by
 have h1:o.op=(o.op.toNat:Int):=by
  have bV:=h;unfold gG rR at bV;simp at bV;omega
 obtain⟨a1,a2,a3⟩:=zuv h h1 es.length (aX _);rw[zdI] at a2;obtain⟨k1,k2,k3⟩:=endA_ok a1 a2 o.op.toNat (aX _);exact⟨k1.ask,k1.shut,λi hi=>by unfold Bj;rw[k3 i,if_pos hi]⟩
end Go.Proofs.YtfcjiloojkjaeaaGreatDoor
namespace Go.Proofs.YtfcjiloojkjaeaaGreatDoor
open Go.RowKit
section
variable {P:bS}{k:aM}
theorem zm4 {d:Na}{e:aM}(hk:P.underlying k=some (.chan d e))(a b:Option Nat)(w:aE):(Op.equal k (.chan a) (.chan b)).run P w=.ok (a==b) w:=by
 unfold Op.equal;rw[show Tw=(Tw-1)+1 by decide];simp[Op.equalIn,wP hk]
end
def yC (es:List o7)(ps:List (Nat×aF)):Prop:=es.map (λe=>(e.key,e.val))=ps.map (λp=>(aF.chan (some p.1),p.2))
def Ct (w:aE)(b:Nat)(ps:List (Nat×aF)):Prop:=∃es clock,w.heap[b]? =some (.map es clock)/\yC es.toList ps
def pN (c:Nat):List (Nat×aF)->Option aF
 |[]=>none
 |p::ps=>if c=p.1 then some p.2 else pN c ps
def uI (c:Nat)(v:aF):List (Nat×aF)->List (Nat×aF)
 |[]=>[(c,v)]
 |p::ps=>if c=p.1 then(p.1,v)::ps else p::uI c v ps
def Az (c:Nat):List (Nat×aF)->Nat->Option (Nat×aF)
 |[],_=>none
 |p::ps,i=>if c=p.1 then some (i,p.2) else Az c ps (i+1)
variable {e:o7}{es:List o7}{ps:List (Nat×aF)}
theorem yC.cons_inv (h:yC (e::es) ps):∃p qs,ps=p::qs/\e.key=.chan (some p.1)/\e.val=p.2/\yC es qs:=by
 unfold yC at h
 cases ps with
 |nil=>cases h
 |cons p qs=>
  rw[fK,fK] at h;injection h with h1 h2;injection h1 with h3 h4;exact⟨p,qs,rfl,h3,h4,h2⟩
theorem yC.nil_inv (h:yC [] ps):ps=[]:=by
 unfold yC at h;cases ps with
 |nil=>rfl
 |cons p qs=>cases h
section
variable {P:bS}{k:aM}{d:Na}{e0:aM}
theorem zro (hk:P.underlying k=some (.chan d e0))(c:Nat)(w:aE):∀(es:List o7) (ps:List (Nat×aF)) (i:Nat),yC es ps->(L0 k (.chan (some c)) es i).run P w=.ok (Az c ps i) w
 |[],ps,i,h=>by rw[h.nil_inv];rfl
 |e::es,ps,i,h=>by
  obtain⟨p,qs,rfl,h1,h2,h3⟩:=h.cons_inv;have ih:=zro hk c w es qs (i+1) h3;unfold L0;simp only[E6,h1,zm4 hk,D7];by_cases hc:c=p.1
  .subst hc;simp[Az,h2]
  .have:(some c==some p.1)=false:=by rw[beq_eq_false_iff_ne];intro h;injection h with h;exact hc h
   rw[this];simp only[Bool.false_eq_true,if_false,Az,if_neg hc];exact ih
theorem zfL (hk:P.underlying k=some (.chan d e0))(c:Nat)(w:aE)(es:List o7)(ps:List (Nat×aF))(h:yC es ps):(Kb k (.chan (some c)) es).run P w=.ok (Az c ps 0) w:=by
 unfold Kb;simp only[E6,wP hk,D7]
 cases es with
 |nil=>rw[h.nil_inv];rfl
 |cons e es=>
  have:Fx (.chan d e0) (.chan (some c)) (e::es) 0=none:=by
   simp[Fx,wG]
  rw[this];exact zro hk c w _ _ 0 h
theorem zj1 (c:Nat):∀(ps:List (Nat×aF)) (i:Nat),(Az c ps i).map zqK=pN c ps
 |[],_=>rfl
 |p::ps,i=>by
  unfold Az pN;by_cases h:c=p.1
  .rw[if_pos h,if_pos h];rfl
  .rw[if_neg h,if_neg h];exact zj1 c ps (i+1)
theorem zgJ (hk:P.underlying k=some (.chan d e0))(b:Bool)(c:Nat)(w:aE):(Ft b 10000 k (.chan (some c))).run P w=.ok () w:=by
 rw[show(10000:Nat)=9999+1 by decide];unfold Ft;simp[wP hk]
variable {ps:List (Nat×aF)}
theorem zCw {t e:aM}(ht:P.underlying t=some (.map k e))(hk:P.underlying k=some (.chan d e0)){z:aF}{w:aE}(hz:(zeroValue e).run P w=.ok z w){b c:Nat}(h:Ct w b ps)(ok:Bool):
 (zM t (.map (some b)) (.chan (some c)) ok).run P w=.ok (if ok then .tuple #[(pN c ps).getD z,.bool (pN c ps).isSome] else(pN c ps).getD z) w:=by
 obtain⟨es,clock,hb,he⟩:=h;unfold zM;have hf:=zj1 c ps 0;have hg:(getObj b).run P w=.ok (.map es clock) w:=by first|exact run_getObj hb|(show bD P (zqa b Sem.pure) w=_;unfold bD;rw[hb];rfl)|(simp[getObj,bD,hb])
 simp only[E6,wP ht,D7,hg,Ht,zgJ hk,zfL hk c w _ _ he]
 cases hq:Az c ps 0 with
 |none=>
  rw[hq] at hf;have At:pN c ps=none:=by simpa using hf.symm
  simp[hz,At]
 |some q=>
  rw[hq] at hf;have At:pN c ps=some q.2:=by simpa using hf.symm
  simp[At]
end
variable {c:Nat}{v:aF}
theorem zor :∀{ps:List (Nat×aF)} {i:Nat},Az c ps i=none->uI c v ps=ps++[(c,v)]
 |[],_,_=>rfl
 |p::ps,i,h=>by
  unfold Az at h;by_cases hc:c=p.1
  .rw[if_pos hc] at h;cases h
  .rw[if_neg hc] at h
   unfold uI;rw[if_neg hc,zor h];rfl
theorem zvR :∀{es:List o7} {ps:List (Nat×aF)} {i:Nat} {q:Nat×aF},yC es ps->Az c ps i=some q->
 ∃j e0,q.1=i+j/\es[j]? =some e0/\e0.key=.chan (some c)/\yC (es.set j {e0 with key:=.chan (some c),val:=v}) (uI c v ps)
 |[],ps,i,q,h,hq=>by rw[h.nil_inv] at hq;cases hq
 |e::es,ps,i,q,h,hq=>by
  obtain⟨p,qs,rfl,h1,h2,h3⟩:=h.cons_inv;unfold Az at hq;by_cases hc:c=p.1
  .rw[if_pos hc] at hq
   injection hq with hq;refine⟨0,e,by rw[<-hq];rfl,rfl,by rw[h1,hc],?_⟩;unfold uI;rw[if_pos hc];unfold yC at h3⊢;rw[dV,fK,fK,h3,hc]
  .rw[if_neg hc] at hq
   obtain⟨j,e0,e1,e2,e3,e4⟩:=zvR h3 hq;refine⟨j+1,e0,by rw[e1];omega,e2,e3,?_⟩;unfold uI;rw[if_neg hc];unfold yC at e4⊢;rw[dW,fK,fK,e4,h1,h2]
variable {P:bS}
theorem zHX (c:Nat)(w:aE):(Pp (.chan (some c)) (.chan (some c))).run P w=.ok (.chan (some c)) w:=by
 unfold Pp;rw[if_pos (by simp[Zz])];rfl
section
variable {P:bS}{k:aM}{d:Na}{e0:aM}
variable {ps:List (Nat×aF)}
open Go.ChangeMaps in
theorem zIA {t e:aM}(ht:P.underlying t=some (.map k e))(hk:P.underlying k=some (.chan d e0)){w:aE}{b c:Nat}(h:Ct w b ps)(v:aF):
 ∃fA zbo,(G2 t (.map (some b)) (.chan (some c)) v).run P w=.ok () {w with heap:=w.heap.setIfInBounds b (.map fA zbo)}/\Ct {w with heap:=w.heap.setIfInBounds b (.map fA zbo)} b (uI c v ps):=by
 obtain⟨es,clock,hb,he⟩:=h;have hz:=(dO.1 hb).1
 cases hq:Az c ps 0 with
 |none=>
  refine⟨es.push ⟨.chan (some c),v,clock⟩,clock+1,?_,es.push ⟨.chan (some c),v,clock⟩,clock+1,by simp[hz],?_⟩
  .simp[G2,wP ht,Wh hb,zgJ hk,zfL hk c w _ _ he,hq,Y7 _ hb,uU]
  .rw[zor hq]
   unfold yC at he⊢;rw[zpQ,Im,Im,he];rfl
 |some q=>
  obtain⟨j,x,e1,e2,e3,e4⟩:=zvR (v:=v) he hq;have Fq:q.1=j:=aC;have hj:es[j]? =some x:=by simpa using e2
  refine⟨es.modify j (λe'=>{e' with key:=.chan (some c),val:=v}),clock,?_,es.modify j (λe'=>{e' with key:=.chan (some c),val:=v}),clock,by simp[hz],?_⟩
  .simp[G2,wP ht,Wh hb,zgJ hk,zfL hk c w _ _ he,hq,Fq,hj,e3,zHX,Y7 _ hb,uU]
  .have:(es.modify j (λe'=>{e' with key:=.chan (some c),val:=v})).toList=es.toList.set j {x with key:=.chan (some c),val:=v}:=by
    rw[zvF,Go.ChangeMaps.modify_eq_set _ _ _ _ e2]
   rw[this];exact e4
variable {ops:Array aZ}{rest:List aZ}{o:aZ}{a:Act}{Q:nZ->Act->aE->Prop}
theorem zok (w:aE)(hg:o.guard=none)(m x:cN)(t:aM)(ok:Bool)(hop:o.op=Op.lookup t m x ok)(e:aM)
 (ht:P.underlying t=some (.map k e)) (hk:P.underlying k=some (.chan d e0)) (z:aF) (hz:(zeroValue e).run P w=.ok z w) (b c:Nat) (ps:List (Nat×aF)) (hm:a.eval m=.map (some b)) (hx:a.eval x=.chan (some c)) (h:Ct w b ps)
 (hK:wpList P ops Q rest (a.put o.dst (if ok then .tuple #[(pN c ps).getD z,.bool (pN c ps).isSome] else(pN c ps).getD z)) w):wpList P ops Q (o::rest) a w:=by
 refine Rh hg λK' rL=>?_;have cG:=zCw ht hk hz h (c:=c) ok;unfold By;simp[aS,hop,hm,hx,cG,uU];cases ok<;>exact rL _ _ hK
theorem zFY (w:aE)(hg:o.guard=none)(m x y:cN)(t:aM)(hop:o.op=zoT t m x y)(e:aM)
 (ht:P.underlying t=some (.map k e)) (hk:P.underlying k=some (.chan d e0)) (b c:Nat) (v:aF) (ps:List (Nat×aF)) (hm:a.eval m=.map (some b)) (hx:a.eval x=.chan (some c)) (hy:a.eval y=v) (h:Ct w b ps)
 (hK:∀w' o',w'={w with heap:=w.heap.setIfInBounds b o'}->Ct w' b (uI c v ps)->wpList P ops Q rest (a.put o.dst aA) w'):wpList P ops Q (o::rest) a w:=by
 refine Rh hg λK' rL=>?_;obtain⟨es,cl,cG,rM⟩:=zIA ht hk h (c:=c) v;unfold By;simp[aS,hop,hm,hx,hy,cG,uU];exact rL _ _ (hK _ _ rfl rM)
open Go.ChangeMaps in
end
def yK (es:List o7)(ps:List (Int×aF)):Prop:=es.map (λe=>(e.key,e.val))=ps.map (λp=>(aF.int .i64 p.1,p.2))
def xZ (w:aE)(b:Nat)(ps:List (Int×aF)):Prop:=∃es clock,w.heap[b]? =some (.map es clock)/\yK es.toList ps
def kW (c:Int):List (Int×aF)->Option aF
 |[]=>none
 |p::ps=>if c=p.1 then some p.2 else kW c ps
def qK (c:Int)(v:aF):List (Int×aF)->List (Int×aF)
 |[]=>[(c,v)]
 |p::ps=>if c=p.1 then(p.1,v)::ps else p::qK c v ps
def Aw (c:Int):List (Int×aF)->Nat->Option (Nat×aF)
 |[],_=>none
 |p::ps,i=>if c=p.1 then some (i,p.2) else Aw c ps (i+1)
variable {ps:List (Int×aF)}
theorem yK.cons_inv (h:yK (e::es) ps):∃p qs,ps=p::qs/\e.key=.int .i64 p.1/\e.val=p.2/\yK es qs:=by
 unfold yK at h
 cases ps with
 |nil=>cases h
 |cons p qs=>
  rw[fK,fK] at h;injection h with h1 h2;injection h1 with h3 h4;exact⟨p,qs,rfl,h3,h4,h2⟩
theorem yK.nil_inv (h:yK [] ps):ps=[]:=by
 unfold yK at h;cases ps with
 |nil=>rfl
 |cons p qs=>cases h
section
variable {P:bS}{k:aM}
theorem zpH (c:Int):∀(es:List o7) (ps:List (Int×aF)) (i:Nat),yK es ps->Fx (.int .i64) (.int .i64 c) es i=some (Aw c ps i)
 |[],ps,i,h=>by rw[h.nil_inv];rfl
 |e::es,ps,i,h=>by
  obtain⟨p,qs,rfl,h1,h2,h3⟩:=h.cons_inv;have ih:=zpH c es qs (i+1) h3;unfold Fx;simp only[h1,wG,if_true];by_cases hc:c=p.1
  .subst hc;simp[Aw,h2]
  .have:(c==p.1)=false:=by rw[beq_eq_false_iff_ne];exact hc
   rw[this];simp only[Aw,if_neg hc];exact ih
theorem ze8 (hk:P.underlying k=some (.int .i64))(c:Int)(w:aE)(es:List o7)(ps:List (Int×aF))(h:yK es ps):(Kb k (.int .i64 c) es).run P w=.ok (Aw c ps 0) w:=by
 unfold Kb;simp only[E6,wP hk,D7,zpH c es ps 0 h,Ht]
theorem zkC (c:Int):∀(ps:List (Int×aF)) (i:Nat),(Aw c ps i).map zqK=kW c ps
 |[],_=>rfl
 |p::ps,i=>by
  unfold Aw kW;by_cases h:c=p.1
  .rw[if_pos h,if_pos h];rfl
  .rw[if_neg h,if_neg h];exact zkC c ps (i+1)
theorem zeP (hk:P.underlying k=some (.int .i64))(b:Bool)(c:Int)(w:aE):(Ft b 10000 k (.int .i64 c)).run P w=.ok () w:=by
 rw[show(10000:Nat)=9999+1 by decide];unfold Ft;simp[wP hk]
variable {ps:List (Int×aF)}
theorem zcn {t e:aM}(ht:P.underlying t=some (.map k e))(hk:P.underlying k=some (.int .i64)){z:aF}{w:aE}(hz:(zeroValue e).run P w=.ok z w){b:Nat}{c:Int}(h:xZ w b ps)(ok:Bool):
 (zM t (.map (some b)) (.int .i64 c) ok).run P w=.ok (if ok then .tuple #[(kW c ps).getD z,.bool (kW c ps).isSome] else(kW c ps).getD z) w:=by
 obtain⟨es,clock,hb,he⟩:=h;unfold zM;have hf:=zkC c ps 0;have hg:(getObj b).run P w=.ok (.map es clock) w:=by first|exact run_getObj hb|(show bD P (zqa b Sem.pure) w=_;unfold bD;rw[hb];rfl)|(simp[getObj,bD,hb])
 simp only[E6,wP ht,D7,hg,Ht,zeP hk,ze8 hk c w _ _ he]
 cases hq:Aw c ps 0 with
 |none=>
  rw[hq] at hf;have At:kW c ps=none:=by simpa using hf.symm
  simp[hz,At]
 |some q=>
  rw[hq] at hf;have At:kW c ps=some q.2:=by simpa using hf.symm
  simp[At]
end
theorem ztN {c:Int}:∀{ps:List (Int×aF)} {i:Nat},Aw c ps i=none->qK c v ps=ps++[(c,v)]
 |[],_,_=>rfl
 |p::ps,i,h=>by
  unfold Aw at h;by_cases hc:c=p.1
  .rw[if_pos hc] at h;cases h
  .rw[if_neg hc] at h
   unfold qK;rw[if_neg hc,ztN h];rfl
theorem zqm {c:Int}:∀{es:List o7} {ps:List (Int×aF)} {i:Nat} {q:Nat×aF},yK es ps->Aw c ps i=some q->
 ∃j e0,q.1=i+j/\es[j]? =some e0/\e0.key=.int .i64 c/\yK (es.set j {e0 with key:=.int .i64 c,val:=v}) (qK c v ps)
 |[],ps,i,q,h,hq=>by rw[h.nil_inv] at hq;cases hq
 |e::es,ps,i,q,h,hq=>by
  obtain⟨p,qs,rfl,h1,h2,h3⟩:=h.cons_inv;unfold Aw at hq;by_cases hc:c=p.1
  .rw[if_pos hc] at hq
   injection hq with hq;refine⟨0,e,by rw[<-hq];rfl,rfl,by rw[h1,hc],?_⟩;unfold qK;rw[if_pos hc];unfold yK at h3⊢;rw[dV,fK,fK,h3,hc]
  .rw[if_neg hc] at hq
   obtain⟨j,e0,e1,e2,e3,e4⟩:=zqm h3 hq;refine⟨j+1,e0,by rw[e1];omega,e2,e3,?_⟩;unfold qK;rw[if_neg hc];unfold yK at e4⊢;rw[dW,fK,fK,e4,h1,h2]
theorem zEG (c:Int)(w:aE):(Pp (.int .i64 c) (.int .i64 c)).run P w=.ok (.int .i64 c) w:=by
 unfold Pp;rw[if_pos (by simp[Zz])];rfl
section
variable {P:bS}{k:aM}
variable {ps:List (Int×aF)}
open Go.ChangeMaps in
theorem zwj {t e:aM}(ht:P.underlying t=some (.map k e))(hk:P.underlying k=some (.int .i64)){w:aE}{b:Nat}{c:Int}(h:xZ w b ps)(v:aF):
 ∃fA zbo,(G2 t (.map (some b)) (.int .i64 c) v).run P w=.ok () {w with heap:=w.heap.setIfInBounds b (.map fA zbo)}/\xZ {w with heap:=w.heap.setIfInBounds b (.map fA zbo)} b (qK c v ps):=by
 obtain⟨es,clock,hb,he⟩:=h;have hz:=(dO.1 hb).1
 cases hq:Aw c ps 0 with
 |none=>
  refine⟨es.push ⟨.int .i64 c,v,clock⟩,clock+1,?_,es.push ⟨.int .i64 c,v,clock⟩,clock+1,by simp[hz],?_⟩
  .simp[G2,wP ht,Wh hb,zeP hk,ze8 hk c w _ _ he,hq,Y7 _ hb,uU]
  .rw[ztN hq]
   unfold yK at he⊢;rw[zpQ,Im,Im,he];rfl
 |some q=>
  obtain⟨j,x,e1,e2,e3,e4⟩:=zqm (v:=v) he hq;have Fq:q.1=j:=aC;have hj:es[j]? =some x:=by simpa using e2
  refine⟨es.modify j (λe'=>{e' with key:=.int .i64 c,val:=v}),clock,?_,es.modify j (λe'=>{e' with key:=.int .i64 c,val:=v}),clock,by simp[hz],?_⟩
  .simp[G2,wP ht,Wh hb,zeP hk,ze8 hk c w _ _ he,hq,Fq,hj,e3,zEG,Y7 _ hb,uU]
  .have:(es.modify j (λe'=>{e' with key:=.int .i64 c,val:=v})).toList=es.toList.set j {x with key:=.int .i64 c,val:=v}:=by
    rw[zvF,Go.ChangeMaps.modify_eq_set _ _ _ _ e2]
   rw[this];exact e4
variable {ops:Array aZ}{rest:List aZ}{o:aZ}{a:Act}{Q:nZ->Act->aE->Prop}
theorem zuJ (w:aE)(hg:o.guard=none)(m x:cN)(t:aM)(ok:Bool)(hop:o.op=Op.lookup t m x ok)(e:aM)
 (ht:P.underlying t=some (.map k e)) (hk:P.underlying k=some (.int .i64)) (z:aF) (hz:(zeroValue e).run P w=.ok z w) (b:Nat) (c:Int) (ps:List (Int×aF)) (hm:a.eval m=.map (some b)) (hx:a.eval x=.int .i64 c) (h:xZ w b ps)
 (hK:wpList P ops Q rest (a.put o.dst (if ok then .tuple #[(kW c ps).getD z,.bool (kW c ps).isSome] else(kW c ps).getD z)) w):wpList P ops Q (o::rest) a w:=by
 refine Rh hg λK' rL=>?_;have cG:=zcn ht hk hz h (c:=c) ok;unfold By;simp[aS,hop,hm,hx,cG,uU];cases ok<;>exact rL _ _ hK
theorem zGp (w:aE)(hg:o.guard=none)(m x y:cN)(t:aM)(hop:o.op=zoT t m x y)(e:aM)
 (ht:P.underlying t=some (.map k e)) (hk:P.underlying k=some (.int .i64)) (b:Nat) (c:Int) (v:aF) (ps:List (Int×aF)) (hm:a.eval m=.map (some b)) (hx:a.eval x=.int .i64 c) (hy:a.eval y=v) (h:xZ w b ps)
 (hK:∀w' o',w'={w with heap:=w.heap.setIfInBounds b o'}->xZ w' b (qK c v ps)->wpList P ops Q rest (a.put o.dst aA) w'):wpList P ops Q (o::rest) a w:=by
 refine Rh hg λK' rL=>?_;obtain⟨es,cl,cG,rM⟩:=zwj ht hk h (c:=c) v;unfold By;simp[aS,hop,hm,hx,hy,cG,uU];exact rL _ _ (hK _ _ rfl rM)
open Go.ChangeMaps in
end
structure fL where
 sL:aF
 sQ:aF
 sW:aF
 sB:aF
 sR:aF
 sA:aF
 sT:aF
 mC:Nat
 mO:Nat
 mM:Nat
 pC:List (Nat×aF)
 pO:List (Int×aF)
 pM:List (Int×aF)
structure nQ where
 r:b7
 ln:List Nat
 qn:List Nat
 tk:List Int
def I8 (xs:List Nat):List Value:=xs.map λc=>.chan (some c)
abbrev hallA (v:fL)(d:nQ):Array Value:=#[.int .i64 d.r.o.ln,.int .i64 d.r.o.op,.int .i64 d.r.o.pt,v.sL,.map (some v.mC),.map (some v.mO),v.sQ,v.sW,v.sB,v.sR,.map (some v.mM),.int .i64 d.r.clk,v.sA,v.sT]
abbrev O0 (v:fL)(d:nQ):Obj:=.cells (hallA v d) 72
def parts (v:fL)(hb:Nat):List (Option Nat):=[some hb,v.sL.ownBlock,some v.mC,some v.mO,v.sQ.ownBlock,v.sW.ownBlock,v.sB.ownBlock,v.sR.ownBlock,some v.mM,v.sA.ownBlock,v.sT.ownBlock]
def zaY (l:List (Option Nat)):Prop:=∀(i j b:Nat),l[i]? =some (some b)->l[j]? =some (some b)->i=j
structure bE (w:aE)(lo hb:Nat)(v:fL)(d:nQ):Prop where
 blk:w.heap[hb]? =some (O0 v d)
 lob:lo<=hb/\lo<=v.mC/\lo<=v.mO/\lo<=v.mM
 L:w.ownsRow lo 84 1 v.sL d.ln.length (I8 d.ln)
 Q:w.ownsRow lo 95 1 v.sQ d.qn.length (I8 d.qn)
 W:w.ownsRow lo 149 2 v.sW d.r.wait.length (bF d.r.wait)
 B:w.ownsRow lo 3 1 v.sB d.r.back.length (jX (d.r.back.map bJ.c))
 R:w.ownsRow lo 50 7 v.sR d.r.recs.length (recs d.r.recs)
 A:w.ownsRow lo 9 1 v.sA d.r.log.length (nG d.r.log)
 T:w.ownsRow lo 3 1 v.sT d.tk.length (jX d.tk)
 C:Ct w v.mC v.pC
 O:xZ w v.mO v.pO
 M:xZ w v.mM v.pM
 ap:zaY (parts v hb)
structure bM (hb:Nat)(v:fL)(w:aE)(v':fL)(w':aE):Prop where
 size:w.heap.size<=w'.heap.size
 block:∀b,b<w.heap.size->some b∉parts v hb->w'.heap[b]? =w.heap[b]?
 moved:∀b,some b∈parts v' hb->some b∈parts v hb\/w.heap.size<=b
section
variable {w w1 w' D6:aE}{lo hb:Nat}{v v' zam:fL}{d:nQ}
def bM.refl:bM hb v w v w:=⟨aX _,λ_ _ _=>rfl,λ_ h=>.inl h⟩
theorem bM.trans (h:bM hb v w v' w')(k:bM hb v' w' zam D6):bM hb v w zam D6:=
 ⟨eG h.size k.size,λb bZ hn=>(k.block b (lC bZ h.size) (λx=>(h.moved b x).elim hn λy=>by omega)).trans (h.block b bZ hn),λb x=>(k.moved b x).elim (h.moved b) λy=>.inr (eG h.size y)⟩
def bM.below (h:bR w.heap.size w w'):bM hb v w v w':=⟨h.size,λb hb _=>h.block b hb,λ_ h=>.inl h⟩
theorem bM.same (h:bM hb v w v' w'){x:aE}(e:x.heap=w'.heap):bM hb v w v' x:=⟨by rw[e];exact h.size,λb hb hn=>by rw[e];exact h.block b hb hn,h.moved⟩
variable {x:aF}
theorem cI {E s n:Nat}{xs:List aF}(h:w.ownsRow lo E s x n xs)(k:∀b,x.ownBlock=some b->w'.heap[b]? =w.heap[b]?):w'.ownsRow lo E s x n xs:=by
 obtain⟨hl,h|⟨g,cap,cur,rfl,h1,hg,h2⟩⟩:=h
 .exact⟨hl,.inl h⟩
 .exact⟨hl,.inr ⟨g,cap,cur,rfl,h1,(k g rfl).trans hg,h2⟩⟩
theorem Ct.keep {b:Nat}{ps:List (Nat×aF)}(h:Ct w b ps)(k:w'.heap[b]? =w.heap[b]?):Ct w' b ps:=by
 obtain⟨es,cl,h1,h2⟩:=h;exact⟨es,cl,k.trans h1,h2⟩
variable {ps:List (Int×aF)}
theorem xZ.keep {b:Nat}(h:xZ w b ps)(k:w'.heap[b]? =w.heap[b]?):xZ w' b ps:=by
 obtain⟨es,cl,h1,h2⟩:=h;exact⟨es,cl,k.trans h1,h2⟩
theorem Ct.lt {b:Nat}{ps:List (Nat×aF)}(h:Ct w b ps):b<w.heap.size:=by
 obtain⟨es,cl,h1,h2⟩:=h;exact(dO.1 h1).1
theorem xZ.lt {b:Nat}(h:xZ w b ps):b<w.heap.size:=by
 obtain⟨es,cl,h1,h2⟩:=h;exact(dO.1 h1).1
theorem bE.lt (h:bE w lo hb v d):∀b,some b∈parts v hb->lo<=b/\b<w.heap.size:=by
 intro b bZ;unfold parts at bZ;simp only[jL,List.not_mem_nil,or_false] at bZ;obtain⟨l0,l1,l2,l3⟩:=h.lob;have zmt:=(dO.1 h.blk).1;rcases bZ with e|e|e|e|e|e|e|e|e|e|e
 .cases e;exact⟨l0,zmt⟩
 .exact h.L.lt b e.symm
 .cases e;exact⟨l1,h.C.lt⟩
 .cases e;exact⟨l2,h.O.lt⟩
 .exact h.Q.lt b e.symm
 .exact h.W.lt b e.symm
 .exact h.B.lt b e.symm
 .exact h.R.lt b e.symm
 .cases e;exact⟨l3,h.M.lt⟩
 .exact h.A.lt b e.symm
 .exact h.T.lt b e.symm
theorem bE.keep (h:bE w lo hb v d)(k:∀b,b<w.heap.size->some b∈parts v hb->w'.heap[b]? =w.heap[b]?):bE w' lo hb v d:=by
 have kk:∀b,some b∈parts v hb->w'.heap[b]? =w.heap[b]? :=λb hb=>k b (h.lt b hb).2 hb;exact⟨(kk _ (dX (i:=0) zfu)).trans h.blk,h.lob,cI h.L λb e=>kk _ (dX (i:=1) cS),cI h.Q λb e=>kk _ (dX (i:=4) cS),cI h.W λb e=>kk _ (dX (i:=5) cS),cI h.B λb e=>kk _ (dX (i:=6) cS),cI h.R λb e=>kk _ (dX (i:=7) cS),cI h.A λb e=>kk _ (dX (i:=9) cS),cI h.T λb e=>kk _ (dX (i:=10) cS),h.C.keep (kk _ (dX (i:=2) zfu)),h.O.keep (kk _ (dX (i:=3) zfu)),h.M.keep (kk _ (dX (i:=8) zfu)),h.ap⟩
def bE.below (h:bE w lo hb v d)(k:bR w.heap.size w w'):bE w' lo hb v d:=h.keep λb hb _=>k.block b hb
def bE.alloc (h:bE w lo hb v d)(o:Obj):bE (w.alloc o) lo hb v d:=h.keep λb hb _=>uB w o b hb
def bE.drew (h:bE w lo hb v d):bE w.drew lo hb v d:=h.keep λ_ _ _=>rfl
theorem bE.same (h:bE w lo hb v d)(e:w'.heap=w.heap):bE w' lo hb v d:=h.keep λb _ _=>by rw[e]
variable {o:Obj}
theorem bE.turned {x:Nat}(h:bE w lo hb v d)(t:bM hb v w v' w')(hx:w.heap[x]? =some o)(hn:some x∉parts v hb):w'.heap[x]? =some o/\some x∉parts v' hb:=
 ⟨(t.block x (dO.1 hx).1 hn).trans hx,λy=>(t.moved x y).elim hn λz=>by have:=(dO.1 hx).1;omega⟩
def bE.ne (h:bE w lo hb v d){i j a b:Nat}(hi:(parts v hb)[i]? =some (some a))(hj:(parts v hb)[j]? =some (some b))(rD:i≠j):a≠b:=λe=>rD (h.ap i j a hi (e▸hj))
theorem Si {l:List (Option Nat)}(h:zaY l){j n:Nat}{x:Option Nat}(hl:∀b,some b∈l->b<n)(hx:l[j]? =some x\/∀b,x=some b->n<=b):zaY (l.set j x):=by
 intro i k b hi hk;rw[zbM] at hi hk;have old:∀m,l[m]? =some (some b)->b<n:=λm hm=>hl b (dX hm);split at hi<;>split at hk
 .omega
 .next e1 e2=>
  split at hi
  .injection hi with hi
   subst hi;rcases hx with hx|hx
   .exact e1▸h j k b hx hk
   .have:=old k hk;have:=hx b rfl;omega
  .cases hi
 .next e1 e2=>
  split at hk
  .injection hk with hk
   subst hk;rcases hx with hx|hx
   .exact e2▸h i j b hi hx
   .have:=old i hi;have:=hx b rfl;omega
  .cases hk
 .exact h i k b hi hk
theorem bE.other (h:bE w lo hb v d){j c:Nat}(hj:(parts v hb)[j]? =some x.ownBlock)(zmf:j≠0)(hg:w.grownBy w1 x.ownBlock)(s':aF):
 (∀i b,i≠0->i≠j->(parts v hb)[i]? =some (some b)->(w1.setCell ⟨hb,c,none⟩ s').heap[b]? =w.heap[b]?)/\w1.heap[hb]? =w.heap[hb]? :=by
 have h0:(parts v hb)[0]? =some (some hb):=rfl;have hx:∀i b,i≠j->(parts v hb)[i]? =some (some b)->some b≠x.ownBlock:=λi b rD hi e=>rD (h.ap i j b hi (by rw[hj,<-e]));refine⟨λi b fR rD hi=>?_,hg.block hb (h.lt hb (dX h0)).2 (hx 0 hb (Ne.symm zmf) h0)⟩;have aT:b≠hb:=h.ne hi h0 fR;exact(eH w1 _ _ b aT).trans (hg.block b (h.lt b (dX hi)).2 (hx i b rD hi))
variable {s':aF}
theorem Uj {j c:Nat}(aN:∀b,some b∈parts v hb->b<w.heap.size)(hj:(parts v hb)[j]? =some x.ownBlock)(hg:w.grownBy w1 x.ownBlock)(hv:parts v' hb=(parts v hb).set j s'.ownBlock)(hw:s'.ownBlock=x.ownBlock\/∀b,s'.ownBlock=some b->w.heap.size<=b):
 bM hb v w v' (w1.setCell ⟨hb,c,none⟩ s'):=by
 refine⟨by rw[sN];exact hg.size,λb bZ hn=>?_,λb bZ=>?_⟩
 .have h0:some hb∈parts v hb:=dX (i:=0) rfl
  have aT:b≠hb:=λe=>hn (e▸h0);exact(eH w1 _ _ b aT).trans (hg.block b bZ λe=>hn (e▸dX hj))
 .rw[hv] at bZ
  rcases List.mem_or_eq_of_mem_set bZ with h1|h1
  .exact .inl h1
  .rcases hw with hw|hw
   .exact .inl (by rw[h1,hw];exact dX hj)
   .exact .inr (hw b h1.symm)
theorem bE.putL (h:bE w lo hb v d)(hg:w.grownBy w1 v.sL.ownBlock){xs:List Nat}{n:Nat}(ho:w1.ownsRow lo 84 1 s' n (I8 xs))(hn:n=xs.length)(hw:s'.ownBlock=v.sL.ownBlock\/∀b,s'.ownBlock=some b->w.heap.size<=b):
 bE (w1.setCell ⟨hb,3,none⟩ s') lo hb {v with sL:=s'} {d with ln:=xs}/\bM hb v w {v with sL:=s'} (w1.setCell ⟨hb,3,none⟩ s'):=by
 subst hn;have aN:∀b,some b∈parts v hb->b<w.heap.size:=λb hb=>(h.lt b hb).2;obtain⟨kk,k0⟩:=h.other (j:=1) (c:=3) (x:=v.sL) rfl aH hg s';have hs:∀b,s'.ownBlock=some b->b≠hb:=λb e=>by
  rcases hw with hw|hw
  .exact h.ne (i:=1) (j:=0) (show some v.sL.ownBlock=_ by rw[<-hw,e]) rfl aH
  .have:=hw b e;have:=aN hb (dX (i:=0) rfl);omega
 have hp:parts {v with sL:=s'} hb=(parts v hb).set 1 s'.ownBlock:=rfl;refine⟨⟨nJ (k0.trans h.blk) s',h.lob,cI ho λb e=>eH w1 _ _ b (hs b e),cI h.Q λb e=>kk 4 _ aH aH cS,cI h.W λb e=>kk 5 _ aH aH cS,cI h.B λb e=>kk 6 _ aH aH cS,cI h.R λb e=>kk 7 _ aH aH cS,cI h.A λb e=>kk 9 _ aH aH cS,cI h.T λb e=>kk 10 _ aH aH cS,h.C.keep (kk 2 _ aH aH rfl),h.O.keep (kk 3 _ aH aH rfl),h.M.keep (kk 8 _ aH aH rfl),?_⟩,Uj (j:=1) (x:=v.sL) aN rfl hg hp hw⟩;rw[hp];exact Si h.ap aN (hw.imp (λe=>by rw[e];rfl) id)
theorem bE.putQ (h:bE w lo hb v d)(hg:w.grownBy w1 v.sQ.ownBlock){xs:List Nat}{n:Nat}(ho:w1.ownsRow lo 95 1 s' n (I8 xs))(hn:n=xs.length)(hw:s'.ownBlock=v.sQ.ownBlock\/∀b,s'.ownBlock=some b->w.heap.size<=b):
 bE (w1.setCell ⟨hb,6,none⟩ s') lo hb {v with sQ:=s'} {d with qn:=xs}/\bM hb v w {v with sQ:=s'} (w1.setCell ⟨hb,6,none⟩ s'):=by
 subst hn;have aN:∀b,some b∈parts v hb->b<w.heap.size:=λb hb=>(h.lt b hb).2;obtain⟨kk,k0⟩:=h.other (j:=4) (c:=6) (x:=v.sQ) rfl aH hg s';have hs:∀b,s'.ownBlock=some b->b≠hb:=λb e=>by
  rcases hw with hw|hw
  .exact h.ne (i:=4) (j:=0) (show some v.sQ.ownBlock=_ by rw[<-hw,e]) rfl aH
  .have:=hw b e;have:=aN hb (dX (i:=0) rfl);omega
 have hp:parts {v with sQ:=s'} hb=(parts v hb).set 4 s'.ownBlock:=rfl;refine⟨⟨nJ (k0.trans h.blk) s',h.lob,cI h.L λb e=>kk 1 _ aH aH cS,cI ho λb e=>eH w1 _ _ b (hs b e),cI h.W λb e=>kk 5 _ aH aH cS,cI h.B λb e=>kk 6 _ aH aH cS,cI h.R λb e=>kk 7 _ aH aH cS,cI h.A λb e=>kk 9 _ aH aH cS,cI h.T λb e=>kk 10 _ aH aH cS,h.C.keep (kk 2 _ aH aH rfl),h.O.keep (kk 3 _ aH aH rfl),h.M.keep (kk 8 _ aH aH rfl),?_⟩,Uj (j:=4) (x:=v.sQ) aN rfl hg hp hw⟩;rw[hp];exact Si h.ap aN (hw.imp (λe=>by rw[e];rfl) id)
variable {xs:List bJ}
theorem bE.putW (h:bE w lo hb v d)(hg:w.grownBy w1 v.sW.ownBlock){n:Nat}(ho:w1.ownsRow lo 149 2 s' n (bF xs))(hn:n=xs.length)(hw:s'.ownBlock=v.sW.ownBlock\/∀b,s'.ownBlock=some b->w.heap.size<=b):
 bE (w1.setCell ⟨hb,7,none⟩ s') lo hb {v with sW:=s'} {d with r:={d.r with wait:=xs}}/\bM hb v w {v with sW:=s'} (w1.setCell ⟨hb,7,none⟩ s'):=by
 subst hn;have aN:∀b,some b∈parts v hb->b<w.heap.size:=λb hb=>(h.lt b hb).2;obtain⟨kk,k0⟩:=h.other (j:=5) (c:=7) (x:=v.sW) rfl aH hg s';have hs:∀b,s'.ownBlock=some b->b≠hb:=λb e=>by
  rcases hw with hw|hw
  .exact h.ne (i:=5) (j:=0) (show some v.sW.ownBlock=_ by rw[<-hw,e]) rfl aH
  .have:=hw b e;have:=aN hb (dX (i:=0) rfl);omega
 have hp:parts {v with sW:=s'} hb=(parts v hb).set 5 s'.ownBlock:=rfl;refine⟨⟨nJ (k0.trans h.blk) s',h.lob,cI h.L λb e=>kk 1 _ aH aH cS,cI h.Q λb e=>kk 4 _ aH aH cS,cI ho λb e=>eH w1 _ _ b (hs b e),cI h.B λb e=>kk 6 _ aH aH cS,cI h.R λb e=>kk 7 _ aH aH cS,cI h.A λb e=>kk 9 _ aH aH cS,cI h.T λb e=>kk 10 _ aH aH cS,h.C.keep (kk 2 _ aH aH rfl),h.O.keep (kk 3 _ aH aH rfl),h.M.keep (kk 8 _ aH aH rfl),?_⟩,Uj (j:=5) (x:=v.sW) aN rfl hg hp hw⟩;rw[hp];exact Si h.ap aN (hw.imp (λe=>by rw[e];rfl) id)
theorem bE.putB (h:bE w lo hb v d)(hg:w.grownBy w1 v.sB.ownBlock){n:Nat}(ho:w1.ownsRow lo 3 1 s' n (jX (xs.map bJ.c)))(hn:n=xs.length)(hw:s'.ownBlock=v.sB.ownBlock\/∀b,s'.ownBlock=some b->w.heap.size<=b):
 bE (w1.setCell ⟨hb,8,none⟩ s') lo hb {v with sB:=s'} {d with r:={d.r with back:=xs}}/\bM hb v w {v with sB:=s'} (w1.setCell ⟨hb,8,none⟩ s'):=by
 subst hn;have aN:∀b,some b∈parts v hb->b<w.heap.size:=λb hb=>(h.lt b hb).2;obtain⟨kk,k0⟩:=h.other (j:=6) (c:=8) (x:=v.sB) rfl aH hg s';have hs:∀b,s'.ownBlock=some b->b≠hb:=λb e=>by
  rcases hw with hw|hw
  .exact h.ne (i:=6) (j:=0) (show some v.sB.ownBlock=_ by rw[<-hw,e]) rfl aH
  .have:=hw b e;have:=aN hb (dX (i:=0) rfl);omega
 have hp:parts {v with sB:=s'} hb=(parts v hb).set 6 s'.ownBlock:=rfl;refine⟨⟨nJ (k0.trans h.blk) s',h.lob,cI h.L λb e=>kk 1 _ aH aH cS,cI h.Q λb e=>kk 4 _ aH aH cS,cI h.W λb e=>kk 5 _ aH aH cS,cI ho λb e=>eH w1 _ _ b (hs b e),cI h.R λb e=>kk 7 _ aH aH cS,cI h.A λb e=>kk 9 _ aH aH cS,cI h.T λb e=>kk 10 _ aH aH cS,h.C.keep (kk 2 _ aH aH rfl),h.O.keep (kk 3 _ aH aH rfl),h.M.keep (kk 8 _ aH aH rfl),?_⟩,Uj (j:=6) (x:=v.sB) aN rfl hg hp hw⟩;rw[hp];exact Si h.ap aN (hw.imp (λe=>by rw[e];rfl) id)
theorem bE.putR (h:bE w lo hb v d)(hg:w.grownBy w1 v.sR.ownBlock){xs:List bT}{n:Nat}(ho:w1.ownsRow lo 50 7 s' n (recs xs))(hn:n=xs.length)(hw:s'.ownBlock=v.sR.ownBlock\/∀b,s'.ownBlock=some b->w.heap.size<=b):
 bE (w1.setCell ⟨hb,9,none⟩ s') lo hb {v with sR:=s'} {d with r:={d.r with recs:=xs}}/\bM hb v w {v with sR:=s'} (w1.setCell ⟨hb,9,none⟩ s'):=by
 subst hn;have aN:∀b,some b∈parts v hb->b<w.heap.size:=λb hb=>(h.lt b hb).2;obtain⟨kk,k0⟩:=h.other (j:=7) (c:=9) (x:=v.sR) rfl aH hg s';have hs:∀b,s'.ownBlock=some b->b≠hb:=λb e=>by
  rcases hw with hw|hw
  .exact h.ne (i:=7) (j:=0) (show some v.sR.ownBlock=_ by rw[<-hw,e]) rfl aH
  .have:=hw b e;have:=aN hb (dX (i:=0) rfl);omega
 have hp:parts {v with sR:=s'} hb=(parts v hb).set 7 s'.ownBlock:=rfl;refine⟨⟨nJ (k0.trans h.blk) s',h.lob,cI h.L λb e=>kk 1 _ aH aH cS,cI h.Q λb e=>kk 4 _ aH aH cS,cI h.W λb e=>kk 5 _ aH aH cS,cI h.B λb e=>kk 6 _ aH aH cS,cI ho λb e=>eH w1 _ _ b (hs b e),cI h.A λb e=>kk 9 _ aH aH cS,cI h.T λb e=>kk 10 _ aH aH cS,h.C.keep (kk 2 _ aH aH rfl),h.O.keep (kk 3 _ aH aH rfl),h.M.keep (kk 8 _ aH aH rfl),?_⟩,Uj (j:=7) (x:=v.sR) aN rfl hg hp hw⟩;rw[hp];exact Si h.ap aN (hw.imp (λe=>by rw[e];rfl) id)
variable {xs:List (List UInt8)}
theorem bE.putA (h:bE w lo hb v d)(hg:w.grownBy w1 v.sA.ownBlock){n:Nat}(ho:w1.ownsRow lo 9 1 s' n (nG xs))(hn:n=xs.length)(hw:s'.ownBlock=v.sA.ownBlock\/∀b,s'.ownBlock=some b->w.heap.size<=b):
 bE (w1.setCell ⟨hb,12,none⟩ s') lo hb {v with sA:=s'} {d with r:={d.r with log:=xs}}/\bM hb v w {v with sA:=s'} (w1.setCell ⟨hb,12,none⟩ s'):=by
 subst hn;have aN:∀b,some b∈parts v hb->b<w.heap.size:=λb hb=>(h.lt b hb).2;obtain⟨kk,k0⟩:=h.other (j:=9) (c:=12) (x:=v.sA) rfl aH hg s';have hs:∀b,s'.ownBlock=some b->b≠hb:=λb e=>by
  rcases hw with hw|hw
  .exact h.ne (i:=9) (j:=0) (show some v.sA.ownBlock=_ by rw[<-hw,e]) rfl aH
  .have:=hw b e;have:=aN hb (dX (i:=0) rfl);omega
 have hp:parts {v with sA:=s'} hb=(parts v hb).set 9 s'.ownBlock:=rfl;refine⟨⟨nJ (k0.trans h.blk) s',h.lob,cI h.L λb e=>kk 1 _ aH aH cS,cI h.Q λb e=>kk 4 _ aH aH cS,cI h.W λb e=>kk 5 _ aH aH cS,cI h.B λb e=>kk 6 _ aH aH cS,cI h.R λb e=>kk 7 _ aH aH cS,cI ho λb e=>eH w1 _ _ b (hs b e),cI h.T λb e=>kk 10 _ aH aH cS,h.C.keep (kk 2 _ aH aH rfl),h.O.keep (kk 3 _ aH aH rfl),h.M.keep (kk 8 _ aH aH rfl),?_⟩,Uj (j:=9) (x:=v.sA) aN rfl hg hp hw⟩;rw[hp];exact Si h.ap aN (hw.imp (λe=>by rw[e];rfl) id)
theorem bE.putT (h:bE w lo hb v d)(hg:w.grownBy w1 v.sT.ownBlock){xs:List Int}{n:Nat}(ho:w1.ownsRow lo 3 1 s' n (jX xs))(hn:n=xs.length)(hw:s'.ownBlock=v.sT.ownBlock\/∀b,s'.ownBlock=some b->w.heap.size<=b):
 bE (w1.setCell ⟨hb,13,none⟩ s') lo hb {v with sT:=s'} {d with tk:=xs}/\bM hb v w {v with sT:=s'} (w1.setCell ⟨hb,13,none⟩ s'):=by
 subst hn;have aN:∀b,some b∈parts v hb->b<w.heap.size:=λb hb=>(h.lt b hb).2;obtain⟨kk,k0⟩:=h.other (j:=10) (c:=13) (x:=v.sT) rfl aH hg s';have hs:∀b,s'.ownBlock=some b->b≠hb:=λb e=>by
  rcases hw with hw|hw
  .exact h.ne (i:=10) (j:=0) (show some v.sT.ownBlock=_ by rw[<-hw,e]) rfl aH
  .have:=hw b e;have:=aN hb (dX (i:=0) rfl);omega
 have hp:parts {v with sT:=s'} hb=(parts v hb).set 10 s'.ownBlock:=rfl;refine⟨⟨nJ (k0.trans h.blk) s',h.lob,cI h.L λb e=>kk 1 _ aH aH cS,cI h.Q λb e=>kk 4 _ aH aH cS,cI h.W λb e=>kk 5 _ aH aH cS,cI h.B λb e=>kk 6 _ aH aH cS,cI h.R λb e=>kk 7 _ aH aH cS,cI h.A λb e=>kk 9 _ aH aH cS,cI ho λb e=>eH w1 _ _ b (hs b e),h.C.keep (kk 2 _ aH aH rfl),h.O.keep (kk 3 _ aH aH rfl),h.M.keep (kk 8 _ aH aH rfl),?_⟩,Uj (j:=10) (x:=v.sT) aN rfl hg hp hw⟩;rw[hp];exact Si h.ap aN (hw.imp (λe=>by rw[e];rfl) id)
theorem bE.mapC (h:bE w lo hb v d){ps:List (Nat×aF)}(hm:Ct {w with heap:=w.heap.setIfInBounds v.mC o} v.mC ps):
 bE {w with heap:=w.heap.setIfInBounds v.mC o} lo hb {v with pC:=ps} d/\bM hb v w {v with pC:=ps} {w with heap:=w.heap.setIfInBounds v.mC o}:=by
 have kk:∀i b,i≠2->(parts v hb)[i]? =some (some b)->(w.heap.setIfInBounds v.mC o)[b]? =w.heap[b]? :=λi b hi bZ=>jQ (h.ne (i:=2) rfl bZ (Ne.symm hi));refine⟨⟨(kk 0 _ aH rfl).trans h.blk,h.lob,cI h.L λb e=>kk 1 _ aH cS,cI h.Q λb e=>kk 4 _ aH cS,cI h.W λb e=>kk 5 _ aH cS,cI h.B λb e=>kk 6 _ aH cS,cI h.R λb e=>kk 7 _ aH cS,cI h.A λb e=>kk 9 _ aH cS,cI h.T λb e=>kk 10 _ aH cS,hm,h.O.keep (kk 3 _ aH rfl),h.M.keep (kk 8 _ aH rfl),h.ap⟩,aQ,λb bZ hn=>jQ λe=>hn (by rw[<-e];exact dX (i:=2) rfl),λb bZ=>.inl bZ⟩
theorem bE.mapO (h:bE w lo hb v d)(hm:xZ {w with heap:=w.heap.setIfInBounds v.mO o} v.mO ps):
 bE {w with heap:=w.heap.setIfInBounds v.mO o} lo hb {v with pO:=ps} d/\bM hb v w {v with pO:=ps} {w with heap:=w.heap.setIfInBounds v.mO o}:=by
 have kk:∀i b,i≠3->(parts v hb)[i]? =some (some b)->(w.heap.setIfInBounds v.mO o)[b]? =w.heap[b]? :=λi b hi bZ=>jQ (h.ne (i:=3) rfl bZ (Ne.symm hi));refine⟨⟨(kk 0 _ aH rfl).trans h.blk,h.lob,cI h.L λb e=>kk 1 _ aH cS,cI h.Q λb e=>kk 4 _ aH cS,cI h.W λb e=>kk 5 _ aH cS,cI h.B λb e=>kk 6 _ aH cS,cI h.R λb e=>kk 7 _ aH cS,cI h.A λb e=>kk 9 _ aH cS,cI h.T λb e=>kk 10 _ aH cS,h.C.keep (kk 2 _ aH rfl),hm,h.M.keep (kk 8 _ aH rfl),h.ap⟩,aQ,λb bZ hn=>jQ λe=>hn (by rw[<-e];exact dX (i:=3) rfl),λb bZ=>.inl bZ⟩
theorem bE.mapM (h:bE w lo hb v d)(hm:xZ {w with heap:=w.heap.setIfInBounds v.mM o} v.mM ps):
 bE {w with heap:=w.heap.setIfInBounds v.mM o} lo hb {v with pM:=ps} d/\bM hb v w {v with pM:=ps} {w with heap:=w.heap.setIfInBounds v.mM o}:=by
 have kk:∀i b,i≠8->(parts v hb)[i]? =some (some b)->(w.heap.setIfInBounds v.mM o)[b]? =w.heap[b]? :=λi b hi bZ=>jQ (h.ne (i:=8) rfl bZ (Ne.symm hi));refine⟨⟨(kk 0 _ aH rfl).trans h.blk,h.lob,cI h.L λb e=>kk 1 _ aH cS,cI h.Q λb e=>kk 4 _ aH cS,cI h.W λb e=>kk 5 _ aH cS,cI h.B λb e=>kk 6 _ aH cS,cI h.R λb e=>kk 7 _ aH cS,cI h.A λb e=>kk 9 _ aH cS,cI h.T λb e=>kk 10 _ aH cS,h.C.keep (kk 2 _ aH rfl),h.O.keep (kk 3 _ aH rfl),hm,h.ap⟩,aQ,λb bZ hn=>jQ λe=>hn (by rw[<-e];exact dX (i:=8) rfl),λb bZ=>.inl bZ⟩
theorem bE.putClk (h:bE w lo hb v d)(x:Int):bE (w.setCell ⟨hb,11,none⟩ (.int .i64 x)) lo hb v {d with r:={d.r with clk:=x}}/\bM hb v w v (w.setCell ⟨hb,11,none⟩ (.int .i64 x)):=by
 have h0:(parts v hb)[0]? =some (some hb):=rfl;have kk:∀i b,i≠0->(parts v hb)[i]? =some (some b)->(w.setCell ⟨hb,11,none⟩ (.int .i64 x)).heap[b]? =w.heap[b]? :=λi b hi bZ=>eH w _ _ b (h.ne bZ h0 hi);refine⟨⟨nJ h.blk _,h.lob,cI h.L λb e=>kk 1 _ aH cS,cI h.Q λb e=>kk 4 _ aH cS,cI h.W λb e=>kk 5 _ aH cS,cI h.B λb e=>kk 6 _ aH cS,cI h.R λb e=>kk 7 _ aH cS,cI h.A λb e=>kk 9 _ aH cS,cI h.T λb e=>kk 10 _ aH cS,h.C.keep (kk 2 _ aH rfl),h.O.keep (kk 3 _ aH rfl),h.M.keep (kk 8 _ aH rfl),h.ap⟩,by rw[sN];exact aX _,λb bZ hn=>eH w _ _ b λe=>hn (e▸dX h0),λb bZ=>.inl bZ⟩
theorem bE.setR {gR cR i j:Nat}{x:bT}{u:aF}(f:bT->bT)(h:bE w lo hb v d)(hv:v.sR=.slice (some ⟨gR,0,none⟩) d.r.recs.length cR)(hd:d.r.recs[i]? =some x)(hj:j<7)(hs:∀k,k<7->k≠j->(f x).cells[k]? =x.cells[k]?)(hu:(f x).cells[j]? =some u):
 bE (w.setCell ⟨gR,i*7+j,none⟩ u) lo hb v {d with r:={d.r with recs:=d.r.recs.modify i f}}/\bM hb v w v (w.setCell ⟨gR,i*7+j,none⟩ u):=by
 have zi7:(parts v hb)[7]? =some (some gR):=by show some v.sR.ownBlock=_;rw[hv];rfl
 have kk:∀i b,i≠7->(parts v hb)[i]? =some (some b)->(w.setCell ⟨gR,i*7+j,none⟩ u).heap[b]? =w.heap[b]? :=λi b hi bZ=>eH w _ _ b (h.ne bZ zi7 hi);have Je:∀m b,m≠7->(parts v hb)[m]? =some (some b)->(w.setCell ⟨gR,i*7+j,none⟩ u).heap[b]? =w.heap[b]? :=λm b hi bZ=>eH w _ _ b (h.ne bZ zi7 hi);have hr:=h.R;rw[hv] at hr;have h1:=(hr.stored (i*7+j) u).1;rw[zq5 hd hj hs hu] at h1;refine⟨⟨(Je 0 _ aH rfl).trans h.blk,h.lob,cI h.L λb e=>Je 1 _ aH cS,cI h.Q λb e=>Je 4 _ aH cS,cI h.W λb e=>Je 5 _ aH cS,cI h.B λb e=>Je 6 _ aH cS,?_,cI h.A λb e=>Je 9 _ aH cS,cI h.T λb e=>Je 10 _ aH cS,h.C.keep (Je 2 _ aH rfl),h.O.keep (Je 3 _ aH rfl),h.M.keep (Je 8 _ aH rfl),h.ap⟩,by rw[sN];exact aX _,λb bZ hn=>eH w _ _ b λe=>hn (e▸dX zi7),λb bZ=>.inl bZ⟩;show(w.setCell _ u).ownsRow lo _ 7 v.sR (d.r.recs.modify i f).length _;rw[hv,Hk];exact h1
end
def yH (c:Nat):List (Nat×aF)->List (Nat×aF)
 |[]=>[]
 |p::ps=>if c=p.1 then ps else p::yH c ps
theorem zuT :∀{ps:List (Nat×aF)},c∉ps.map uN->pN c ps=none
 |[],_=>rfl
 |p::ps,h=>by
  unfold pN;have h1:c≠p.1:=λe=>h (by rw[e];simp);rw[if_neg h1];exact zuT λx=>h (Hd _ x)
theorem zv2 (c c':Nat)(v:aF):∀ps:List (Nat×aF),pN c' (uI c v ps)=if c'=c then some v else pN c' ps
 |[]=>by
  unfold uI pN pN;rfl
 |p::ps=>by
  unfold uI;by_cases e:c=p.1
  .rw[if_pos e]
   unfold pN;by_cases e2:c'=p.1
   .rw[if_pos e2,if_pos (e2.trans e.symm)]
   .rw[if_neg e2,if_neg (λh=>e2 (h.trans e))]
    first|rfl|simp[e2]
  .rw[if_neg e]
   unfold pN;by_cases e2:c'=p.1
   .rw[if_pos e2,if_neg (λh=>e (h.symm.trans e2))]
    first|rfl|simp[e2]
   .rw[if_neg e2,zv2 c c' v ps]
    first|rfl|simp[e2]
variable {c':Nat}
theorem zoZ :∀{ps:List (Nat×aF)},c'∈(uI c v ps).map uN->c'=c\/c'∈ps.map uN
 |[],h=>by unfold uI at h;simp at h;exact .inl h
 |p::ps,h=>by
  unfold uI at h;by_cases e:c=p.1
  .rw[if_pos e] at h
   exact .inr h
  .rw[if_neg e,fK,jL] at h
   rcases h with h|h
   .exact .inr (by rw[h];simp)
   .exact(zoZ h).imp id (Hd _)
theorem zs4 (c:Nat)(v:aF):∀{ps:List (Nat×aF)},(ps.map uN).Nodup->((uI c v ps).map uN).Nodup
 |[],_=>by unfold uI;simp
 |p::ps,h=>by
  unfold uI;rw[fK,C5] at h;by_cases e:c=p.1
  .rw[if_pos e,fK,C5];exact h
  .rw[if_neg e,fK,C5]
   exact⟨λx=>(zoZ x).elim (λy=>e y.symm) h.1,zs4 c v h.2⟩
theorem zsT :∀{ps:List (Nat×aF)},c'∈(yH c ps).map uN->c'∈ps.map uN
 |[],h=>by cases h
 |p::ps,h=>by
  unfold yH at h;by_cases e:c=p.1
  .rw[if_pos e] at h;exact Hd _ h
  .rw[if_neg e,fK,jL] at h
   rcases h with h|h
   .rw[h];simp
   .exact Hd _ (zsT h)
theorem zxb (c:Nat):∀{ps:List (Nat×aF)},(ps.map uN).Nodup->((yH c ps).map uN).Nodup
 |[],_=>by unfold yH;simp
 |p::ps,h=>by
  rw[fK,C5] at h;unfold yH;by_cases e:c=p.1
  .rw[if_pos e];exact h.2
  .rw[if_neg e,fK,C5]
   exact⟨λx=>h.1 (zsT x),zxb c h.2⟩
theorem zvM (c c':Nat):∀{ps:List (Nat×aF)},(ps.map uN).Nodup->pN c' (yH c ps)=if c'=c then none else pN c' ps
 |[],_=>by unfold yH pN;split<;>rfl
 |p::ps,h=>by
  rw[fK,C5] at h;unfold yH;by_cases e:c=p.1
  .rw[if_pos e]
   by_cases e2:c'=c
   .rw[if_pos e2];exact zuT (by rw[e2,e];exact h.1)
   .rw[if_neg e2]
    show _=pN c' (p::ps)
    conv=>rhs;unfold pN
    rw[if_neg (λh=>e2 (h.trans e.symm))]
  .rw[if_neg e]
   unfold pN;by_cases e2:c'=p.1
   .rw[if_pos e2,if_neg (λh=>e (h.symm.trans e2))]
    first|rfl|simp[e2]
   .rw[if_neg e2,zvM c c' h.2]
    first|rfl|simp[e2]
theorem zpA :∀{es:List o7} {ps:List (Nat×aF)} {i:Nat} {q:Nat×aF},yC es ps->Az c ps i=some q->∃j,q.1=i+j/\j<es.length/\yC (es.eraseIdx j) (yH c ps)
 |[],ps,i,q,h,hq=>by rw[h.nil_inv] at hq;cases hq
 |e::es,ps,i,q,h,hq=>by
  obtain⟨p,qs,rfl,h1,h2,h3⟩:=h.cons_inv;unfold Az at hq;by_cases hc:c=p.1
  .rw[if_pos hc] at hq
   injection hq with hq;refine⟨0,by rw[<-hq];rfl,aQ,?_⟩;unfold yH;rw[if_pos hc];simpa using h3
  .rw[if_neg hc] at hq
   obtain⟨j,e1,e2,e3⟩:=zpA h3 hq;refine⟨j+1,by rw[e1];omega,by simpa using e2,?_⟩;unfold yH;rw[if_neg hc];unfold yC at e3⊢;rw[zvL,fK,fK,e3,h1,h2]
section
variable {P:bS}{k:aM}{d:Na}{e0:aM}
variable {ps:List (Nat×aF)}
theorem zIY {t e kt:aM}(ht:P.underlying t=some (.map k e))(hk:P.underlying k=some (.chan d e0)){w:aE}{b:Nat}{c:Nat}(h:Ct w b ps)(hc:(pN c ps).isSome=true):
 ∃o',(∀ty,(Lh #[t,kt] ty #[.map (some b),.chan (some c)]).run P w=.ok (.tuple #[]) {w with heap:=w.heap.setIfInBounds b o'})/\Ct {w with heap:=w.heap.setIfInBounds b o'} b (yH c ps):=by
 obtain⟨es,clock,hb,he⟩:=h;have hz:=(dO.1 hb).1;have hf:=zj1 c ps 0
 cases hq:Az c ps 0 with
 |none=>rw[hq] at hf;rw[<-hf] at hc;cases hc
 |some q=>
  obtain⟨j,e1,e2,e3⟩:=zpA he hq;have Fq:q.1=j:=aC;refine⟨.map (es.eraseIdxIfInBounds j) clock,λty=>?_,es.eraseIdxIfInBounds j,clock,by simp[hz],?_⟩
  .simp[Lh,wP ht,Wh hb,zgJ hk,zfL hk c w _ _ he,hq,Fq,Y7 _ hb,uU]
  .have hj:j<es.size:=by simpa using e2
   have:(es.eraseIdxIfInBounds j).toList=es.toList.eraseIdx j:=by
    unfold zwe;rw[dif_pos hj,zvY]
   rw[this];exact e3
end
def xY (c:Int):List (Int×aF)->List (Int×aF)
 |[]=>[]
 |p::ps=>if c=p.1 then ps else p::xY c ps
variable {c:Int}
theorem zqJ :∀{ps:List (Int×aF)},c∉ps.map uN->kW c ps=none
 |[],_=>rfl
 |p::ps,h=>by
  unfold kW;have h1:c≠p.1:=λe=>h (by rw[e];simp);rw[if_neg h1];exact zqJ λx=>h (Hd _ x)
theorem U8 (c c':Int)(v:aF):∀ps:List (Int×aF),kW c' (qK c v ps)=if c'=c then some v else kW c' ps
 |[]=>by
  unfold qK kW kW;rfl
 |p::ps=>by
  unfold qK;by_cases e:c=p.1
  .rw[if_pos e]
   unfold kW;by_cases e2:c'=p.1
   .rw[if_pos e2,if_pos (e2.trans e.symm)]
   .rw[if_neg e2,if_neg (λh=>e2 (h.trans e))]
    first|rfl|simp[e2]
  .rw[if_neg e]
   unfold kW;by_cases e2:c'=p.1
   .rw[if_pos e2,if_neg (λh=>e (h.symm.trans e2))]
    first|rfl|simp[e2]
   .rw[if_neg e2,U8 c c' v ps]
    first|rfl|simp[e2]
variable {c':Int}
theorem zuf :∀{ps:List (Int×aF)},c'∈(qK c v ps).map uN->c'=c\/c'∈ps.map uN
 |[],h=>by unfold qK at h;simp at h;exact .inl h
 |p::ps,h=>by
  unfold qK at h;by_cases e:c=p.1
  .rw[if_pos e] at h
   exact .inr h
  .rw[if_neg e,fK,jL] at h
   rcases h with h|h
   .exact .inr (by rw[h];simp)
   .exact(zuf h).imp id (Hd _)
theorem zhW (c:Int)(v:aF):∀{ps:List (Int×aF)},(ps.map uN).Nodup->((qK c v ps).map uN).Nodup
 |[],_=>by unfold qK;simp
 |p::ps,h=>by
  unfold qK;rw[fK,C5] at h;by_cases e:c=p.1
  .rw[if_pos e,fK,C5];exact h
  .rw[if_neg e,fK,C5]
   exact⟨λx=>(zuf x).elim (λy=>e y.symm) h.1,zhW c v h.2⟩
theorem zoW :∀{ps:List (Int×aF)},c'∈(xY c ps).map uN->c'∈ps.map uN
 |[],h=>by cases h
 |p::ps,h=>by
  unfold xY at h;by_cases e:c=p.1
  .rw[if_pos e] at h;exact Hd _ h
  .rw[if_neg e,fK,jL] at h
   rcases h with h|h
   .rw[h];simp
   .exact Hd _ (zoW h)
theorem zu5 (c:Int):∀{ps:List (Int×aF)},(ps.map uN).Nodup->((xY c ps).map uN).Nodup
 |[],_=>by unfold xY;simp
 |p::ps,h=>by
  rw[fK,C5] at h;unfold xY;by_cases e:c=p.1
  .rw[if_pos e];exact h.2
  .rw[if_neg e,fK,C5]
   exact⟨λx=>h.1 (zoW x),zu5 c h.2⟩
theorem zi5 (c c':Int):∀{ps:List (Int×aF)},(ps.map uN).Nodup->kW c' (xY c ps)=if c'=c then none else kW c' ps
 |[],_=>by unfold xY kW;split<;>rfl
 |p::ps,h=>by
  rw[fK,C5] at h;unfold xY;by_cases e:c=p.1
  .rw[if_pos e]
   by_cases e2:c'=c
   .rw[if_pos e2];exact zqJ (by rw[e2,e];exact h.1)
   .rw[if_neg e2]
    show _=kW c' (p::ps)
    conv=>rhs;unfold kW
    rw[if_neg (λh=>e2 (h.trans e.symm))]
  .rw[if_neg e]
   unfold kW;by_cases e2:c'=p.1
   .rw[if_pos e2,if_neg (λh=>e (h.symm.trans e2))]
    first|rfl|simp[e2]
   .rw[if_neg e2,zi5 c c' h.2]
    first|rfl|simp[e2]
theorem zwx :∀{es:List o7} {ps:List (Int×aF)} {i:Nat} {q:Nat×aF},yK es ps->Aw c ps i=some q->∃j,q.1=i+j/\j<es.length/\yK (es.eraseIdx j) (xY c ps)
 |[],ps,i,q,h,hq=>by rw[h.nil_inv] at hq;cases hq
 |e::es,ps,i,q,h,hq=>by
  obtain⟨p,qs,rfl,h1,h2,h3⟩:=h.cons_inv;unfold Aw at hq;by_cases hc:c=p.1
  .rw[if_pos hc] at hq
   injection hq with hq;refine⟨0,by rw[<-hq];rfl,aQ,?_⟩;unfold xY;rw[if_pos hc];simpa using h3
  .rw[if_neg hc] at hq
   obtain⟨j,e1,e2,e3⟩:=zwx h3 hq;refine⟨j+1,by rw[e1];omega,by simpa using e2,?_⟩;unfold xY;rw[if_neg hc];unfold yK at e3⊢;rw[zvL,fK,fK,e3,h1,h2]
section
variable {P:bS}{k:aM}
variable {ps:List (Int×aF)}
theorem zIx {t e kt:aM}(ht:P.underlying t=some (.map k e))(hk:P.underlying k=some (.int .i64)){w:aE}{b:Nat}{c:Int}(h:xZ w b ps)(hc:(kW c ps).isSome=true):
 ∃o',(∀ty,(Lh #[t,kt] ty #[.map (some b),.int .i64 c]).run P w=.ok (.tuple #[]) {w with heap:=w.heap.setIfInBounds b o'})/\xZ {w with heap:=w.heap.setIfInBounds b o'} b (xY c ps):=by
 obtain⟨es,clock,hb,he⟩:=h;have hz:=(dO.1 hb).1;have hf:=zkC c ps 0
 cases hq:Aw c ps 0 with
 |none=>rw[hq] at hf;rw[<-hf] at hc;cases hc
 |some q=>
  obtain⟨j,e1,e2,e3⟩:=zwx he hq;have Fq:q.1=j:=aC;refine⟨.map (es.eraseIdxIfInBounds j) clock,λty=>?_,es.eraseIdxIfInBounds j,clock,by simp[hz],?_⟩
  .simp[Lh,wP ht,Wh hb,zeP hk,ze8 hk c w _ _ he,hq,Fq,Y7 _ hb,uU]
  .have hj:j<es.size:=by simpa using e2
   have:(es.eraseIdxIfInBounds j).toList=es.toList.eraseIdx j:=by
    unfold zwe;rw[dif_pos hj,zvY]
   rw[this];exact e3
variable {Q:nZ->Act->aE->Prop}
theorem zzv {ops:Array aZ}{rest:List aZ}{o:aZ}{a:Act}(w:aE)(hg:o.guard=none)(m x:cN)(t kt:aM)(hop:o.op=.call {callee:=.builtin .delete,args:=#[m,x],argTypes:=#[t,kt]})(e:aM)
 (ht:P.underlying t=some (.map k e)) (hk:P.underlying k=some (.int .i64)) (b:Nat) (c:Int) (ps:List (Int×aF)) (hm:a.eval m=.map (some b)) (hx:a.eval x=.int .i64 c) (h:xZ w b ps) (hc:(kW c ps).isSome=true)
 (hK:∀w' o',w'={w with heap:=w.heap.setIfInBounds b o'}->xZ w' b (xY c ps)->wpList P ops Q rest (a.put o.dst (.tuple #[])) w'):wpList P ops Q (o::rest) a w:=by
 refine Rh hg λK' rL=>?_;obtain⟨o',cG,rM⟩:=zIx (kt:=kt) ht hk h hc;unfold By;simp only[aS,hop,resolve,invoke,builtin,E6,Ht,D7,uS,fK,tL,hm,hx,cG];exact rL _ _ (hK _ _ rfl rM)
end
structure gC (v:fL)(d:nQ):Prop where
 kc:(v.pC.map uN).Nodup
 ko:(v.pO.map uN).Nodup
 km:(v.pM.map uN).Nodup
 c:∀(i g:Nat),d.ln[i]? =some g->((pN g v.pC).isSome=true↔∃(j:Nat) (x:bT),d.r.recs[j]? =some x/\eI x=true/\x.l=(i:Int)+1)
 o1:∀(c:Int) (y:aF),kW c v.pO=some y->∃(i:Nat) (x:bT) (g:Nat),d.r.recs[i]? =some x/\eI x=true/\x.c=c/\d.ln[(x.l-1).toNat]? =some g/\y=.chan (some g)
 o2:∀(c:Int),kW c v.pO=none->∀(i:Nat) (x:bT),d.r.recs[i]? =some x->eI x=true->x.c≠c
 m1:∀(c:Int) (y:aF),kW c v.pM=some y->∃(i:Nat) (x:bT),y=.int .i64 (i:Int)/\d.r.recs[i]? =some x/\x.c=c/\∀(j:Nat) (e:bT),d.r.recs[j]? =some e->e.c=c->j<=i
 m2:∀(c:Int),kW c v.pM=none->∀(i:Nat) (x:bT),d.r.recs[i]? =some x->x.c≠c
structure yB (d:nQ):Prop where
 S:jE d.r
 R:RInv d.r
 ops:So d.r
 ndl:d.ln.Nodup
 nln:(d.ln.length:Int)=d.r.o.ln
 lb:∀x∈d.r.recs,1<=x.l/\x.l<=d.r.o.ln
 nqn:(d.qn.length:Int)=d.r.o.op
 sm:Q0 d.r
variable {xs:List Nat}
theorem zw7 (h:xs.Nodup){i j g:Nat}(hi:xs[i]? =some g)(hj:xs[j]? =some g):i=j:=by
 obtain⟨h1,h2⟩:=kE.1 hi;obtain⟨h3,h4⟩:=kE.1 hj;exact(List.getElem_inj h).1 (h2.trans h4.symm)
theorem zBe {rs:List bT}{l:Int}:rB rs l=true↔∃(j:Nat) (x:bT),rs[j]? =some x/\eI x=true/\x.l=l:=by
 unfold rB;rw[Ue];constructor
 .rintro⟨x,hx,h⟩
  obtain⟨j,hj⟩:=F9.1 hx;simp only[fV,beq_iff_eq] at h;exact⟨j,x,hj,h.2,h.1⟩
 .rintro⟨j,x,hj,ho,hl⟩
  exact⟨x,dX hj,by simp[ho,hl]⟩
section
variable {v:fL}{d:nQ}
variable {i g:Nat}
theorem gC.used (h:gC v d)(hi:d.ln[i]? =some g):(pN g v.pC).isSome=rB d.r.recs ((i:Int)+1):=by
 rw[Bool.eq_iff_iff,h.c i g hi,zBe]
variable {c:Int}{x:bT}
theorem gC.onLine (h:gC v d)(hi:yB d)(hx:d.r.recs[i]? =some x)(ho:eI x=true)(hc:x.c=c):∃g,d.ln[(x.l-1).toNat]? =some g/\kW c v.pO=some (.chan (some g))/\kW c v.pM=some (.int .i64 (i:Int))/\(pN g v.pC).isSome=true:=by
 have hO:∃g,d.ln[(x.l-1).toNat]? =some g/\kW c v.pO=some (.chan (some g)):=by
  cases e:kW c v.pO with
  |none=>exact absurd hc (h.o2 c e i x hx ho)
  |some y=>
   obtain⟨j,z,g,h1,h2,h3,h4,rfl⟩:=h.o1 c y e;obtain rfl:=hi.S.opn i j x z hx h1 ho h2 (.inl (hc.trans h3.symm));rw[hx] at h1;obtain rfl:=cE h1;exact⟨g,h4,rfl⟩
 obtain⟨g,h1,h2⟩:=hO;refine⟨g,h1,h2,?_,(h.c _ g h1).2 ⟨i,x,hx,ho,?_⟩⟩
 .cases e:kW c v.pM with
  |none=>exact absurd hc (h.m2 c e i x hx)
  |some y=>
   obtain⟨j,z,rfl,h3,h4,h5⟩:=h.m1 c y e;have k1:=h5 i x hx hc;have k2:=hi.S.last i j x z hx ho h3 (h4.trans hc.symm);rw[show j=i by omega]
 .have:=hi.lb x (dX hx);omega
theorem gC.offLine (h:gC v d)(hc:jJ d.r.recs c=none):kW c v.pO=none:=by
 cases e:kW c v.pO with
 |none=>rfl
 |some y=>
  obtain⟨j,z,g,h1,h2,h3,_⟩:=h.o1 c y e;exact absurd h3 (Kt hc j z h1 h2)
theorem gC.more (h:gC v d)(hn:d.ln.Nodup){o hh tt clk:Int}(hg:d.ln[i]? =some g)(hf:rB d.r.recs ((i:Int)+1)=false)(hc:jJ d.r.recs c=none):
 gC {v with pC:=uI g (.int .i64 c) v.pC,pO:=qK c (.chan (some g)) v.pO,pM:=qK c (.int .i64 (d.r.recs.length:Int)) v.pM} {d with r:={d.r with recs:=d.r.recs++[⟨c,(i:Int)+1,o,clk,hh,tt,eM⟩]}}:=by
 have hop:eI ⟨c,(i:Int)+1,o,clk,hh,tt,eM⟩=true:=by unfold eI;rw[ze9];rfl
 have Bn:(d.r.recs++[(⟨c,(i:Int)+1,o,clk,hh,tt,eM⟩:bT)])[d.r.recs.length]? =some ⟨c,(i:Int)+1,o,clk,hh,tt,eM⟩:=by rw[Ah (aX _),Nv];rfl
 refine⟨zs4 _ _ h.kc,zhW _ _ h.ko,zhW _ _ h.km,λi' g' wQ=>?_,λc' y hy=>?_,λc' hy j x hx ho=>?_,λc' y hy=>?_,λc' hy j x hx=>?_⟩
 .simp only[zv2]
  by_cases e:g'=g
  .subst e
   obtain rfl:=zw7 hn hg wQ;rw[if_pos rfl];exact⟨λ_=>⟨_,_,Bn,hop,rfl⟩,λ_=>rfl⟩
  .rw[if_neg e,h.c i' g' wQ]
   constructor
   .rintro⟨j,x,h1,h2⟩;exact⟨j,x,zgc h1,h2⟩
   .rintro⟨j,x,h1,h2,h3⟩
    rcases J9 h1 with⟨_,h4⟩|⟨rfl,rfl⟩
    .exact⟨j,x,h4,h2,h3⟩
    .exfalso
     have:i=i':=by simp only at h3;omega
     subst this;rw[hg] at wQ;exact e (cE wQ).symm
 .simp only[U8] at hy
  by_cases e:c'=c
  .rw[if_pos e] at hy
   obtain rfl:=cE hy;exact⟨_,_,g,Bn,hop,e.symm,by simp only;rw[show((i:Int)+1-1).toNat=i by omega];exact hg,rfl⟩
  .rw[if_neg e] at hy
   obtain⟨j,x,g',h1,h2⟩:=h.o1 c' y hy;exact⟨j,x,g',zgc h1,h2⟩
 .simp only[U8] at hy
  by_cases e:c'=c
  .rw[if_pos e] at hy;cases hy
  .rw[if_neg e] at hy
   rcases J9 hx with⟨_,h4⟩|⟨rfl,rfl⟩
   .exact h.o2 c' hy j x h4 ho
   .exact Ne.symm e
 .simp only[U8] at hy
  by_cases e:c'=c
  .rw[if_pos e] at hy
   obtain rfl:=cE hy;refine⟨_,_,rfl,Bn,e.symm,λj x hx _=>?_⟩;rcases J9 hx with⟨h4,_⟩|⟨rfl,rfl⟩
   .omega
   .exact aX _
  .rw[if_neg e] at hy
   obtain⟨j,x,h1,h2,h3,h4⟩:=h.m1 c' y hy;refine⟨j,x,h1,zgc h2,h3,λj' x' lP kM=>?_⟩;rcases J9 lP with⟨_,h5⟩|⟨rfl,rfl⟩
   .exact h4 j' x' h5 kM
   .exact absurd kM.symm e
 .simp only[U8] at hy
  by_cases e:c'=c
  .rw[if_pos e] at hy;cases hy
  .rw[if_neg e] at hy
   rcases J9 hx with⟨_,h4⟩|⟨rfl,rfl⟩
   .exact h.m2 c' hy j x h4
   .exact Ne.symm e
variable {f:bT->bT}
theorem gC.mod (h:gC v d)(hf:∀x,(f x).c=x.c/\(f x).l=x.l/\eI (f x)=eI x):gC v {d with r:={d.r with recs:=d.r.recs.modify i f}}:=by
 have fw:∀(j:Nat) (x:bT),d.r.recs[j]? =some x->∃y,(d.r.recs.modify i f)[j]? =some y/\y.c=x.c/\y.l=x.l/\eI y=eI x:=λj x hx=>by
  by_cases e:i=j
  .subst e;exact⟨f x,zcD hx,hf x⟩
  .exact⟨x,Oy hx e,rfl,rfl,rfl⟩
 have bw:∀(j:Nat) (y:bT),(d.r.recs.modify i f)[j]? =some y->∃x,d.r.recs[j]? =some x/\y.c=x.c/\y.l=x.l/\eI y=eI x:=λj y hy=>by
  obtain⟨x,h1,⟨_,rfl⟩|⟨_,rfl⟩⟩:=Fj hy
  .exact⟨x,h1,hf x⟩
  .exact⟨_,h1,rfl,rfl,rfl⟩
 refine⟨h.kc,h.ko,h.km,λi' g' wQ=>?_,λc' y hy=>?_,λc' hy j x hx ho=>?_,λc' y hy=>?_,λc' hy j x hx=>?_⟩
 .rw[h.c i' g' wQ]
  constructor
  .rintro⟨j,x,h1,h2,h3⟩
   obtain⟨y,k1,k2,k3,k4⟩:=fw j x h1;exact⟨j,y,k1,k4.trans h2,k3.trans h3⟩
  .rintro⟨j,x,h1,h2,h3⟩
   obtain⟨y,k1,k2,k3,k4⟩:=bw j x h1;exact⟨j,y,k1,k4.symm.trans h2,k3.symm.trans h3⟩
 .obtain⟨j,x,g',h1,h2,h3,h4,h5⟩:=h.o1 c' y hy
  obtain⟨z,k1,k2,k3,k4⟩:=fw j x h1;exact⟨j,z,g',k1,k4.trans h2,k2.trans h3,by rw[k3];exact h4,h5⟩
 .obtain⟨z,k1,k2,k3,k4⟩:=bw j x hx
  rw[k2];exact h.o2 c' hy j z k1 (k4.symm.trans ho)
 .obtain⟨j,x,h1,h2,h3,h4⟩:=h.m1 c' y hy
  obtain⟨z,k1,k2,k3,k4⟩:=fw j x h2;refine⟨j,z,h1,k1,k2.trans h3,λj' x' lP kM=>?_⟩;obtain⟨z',l1,l2,l3,l4⟩:=bw j' x' lP;exact h4 j' z' l1 (l2.symm.trans kM)
 .obtain⟨z,k1,k2,k3,k4⟩:=bw j x hx
  rw[k2];exact h.m2 c' hy j z k1
theorem gC.clear (h:gC v d)(hS:jE d.r)(hn:d.ln.Nodup)(V7:∀x∈d.r.recs,1<=x.l)(hx:d.r.recs[i]? =some x)(ho:eI x=true)(hg:d.ln[(x.l-1).toNat]? =some g)(hf:∀z,(f z).c=z.c/\(f z).l=z.l)(cO:eI (f x)=false):
 gC {v with pC:=yH g v.pC,pO:=xY x.c v.pO} {d with r:={d.r with recs:=d.r.recs.modify i f}}:=by
 have bw:∀(j:Nat) (y:bT),(d.r.recs.modify i f)[j]? =some y->eI y=true->i≠j/\d.r.recs[j]? =some y:=λj y hy Dh=>by
  obtain⟨z,h1,⟨e,rfl⟩|⟨e,rfl⟩⟩:=Fj hy
  .subst e
   rw[hx] at h1;obtain rfl:=cE h1;rw[cO] at Dh;cases Dh
  .exact⟨e,h1⟩
 have cw:∀(j:Nat) (y:bT),(d.r.recs.modify i f)[j]? =some y->∃z,d.r.recs[j]? =some z/\y.c=z.c:=λj y hy=>by
  obtain⟨z,h1,⟨_,rfl⟩|⟨_,rfl⟩⟩:=Fj hy
  .exact⟨z,h1,(hf z).1⟩
  .exact⟨_,h1,rfl⟩
 refine⟨zxb _ h.kc,zu5 _ h.ko,h.km,λi' g' wQ=>?_,λc' y hy=>?_,λc' hy j z hz zdc=>?_,λc' y hy=>?_,λc' hy j z hz=>?_⟩
 .simp only[zvM _ _ h.kc]
  by_cases e:g'=g
  .subst e
   have e1:=zw7 hn hg wQ;rw[if_pos rfl];constructor
   .intro h;cases h
   .rintro⟨j,z,h1,h2,h3⟩
    obtain⟨k1,k2⟩:=bw j z h1 h2;have hl:=V7 x (dX hx);exact absurd (hS.opn i j x z hx k2 ho h2 (.inr (.inl aC))) k1
  .rw[if_neg e,h.c i' g' wQ]
   constructor
   .rintro⟨j,z,h1,h2,h3⟩
    have aT:i≠j:=λe2=>by
     subst e2;rw[hx] at h1;obtain rfl:=cE h1;have:(x.l-1).toNat=i':=aC;rw[this,wQ] at hg;exact e (cE hg)
    exact⟨j,z,Oy h1 aT,h2,h3⟩
   .rintro⟨j,z,h1,h2,h3⟩
    obtain⟨k1,k2⟩:=bw j z h1 h2;exact⟨j,z,k2,h2,h3⟩
 .simp only[zi5 _ _ h.ko] at hy
  by_cases e:c'=x.c
  .rw[if_pos e] at hy;cases hy
  .rw[if_neg e] at hy
   obtain⟨j,z,g',h1,h2,h3,h4⟩:=h.o1 c' y hy;have aT:i≠j:=λe2=>by
    subst e2;rw[hx] at h1;obtain rfl:=cE h1;exact e h3.symm
   exact⟨j,z,g',Oy h1 aT,h2,h3,h4⟩
 .simp only[zi5 _ _ h.ko] at hy
  obtain⟨k1,k2⟩:=bw j z hz zdc;by_cases e:c'=x.c
  .intro e2
   exact k1 (hS.opn i j x z hx k2 ho zdc (.inl (by rw[e2,e])))
  .rw[if_neg e] at hy
   exact h.o2 c' hy j z k2 zdc
 .obtain⟨j,z,h1,h2,h3,h4⟩:=h.m1 c' y hy
  have up:∀(j':Nat) (e:bT),(d.r.recs.modify i f)[j']? =some e->e.c=c'->j'<=j:=λj' e he hc=>by
   obtain⟨z',k1,k2⟩:=cw j' e he;exact h4 j' z' k1 (k2.symm.trans hc)
  by_cases e:i=j
  .subst e
   exact⟨i,f z,h1,zcD h2,(hf z).1.trans h3,up⟩
  .exact⟨j,z,h1,Oy h2 e,h3,up⟩
 .obtain⟨z',k1,k2⟩:=cw j z hz
  rw[k2];exact h.m2 c' hy j z' k1
end
def Uy:aK.underlying 84=some (.chan .both 3):=aP
def Ko:aK.underlying 3=some (.int .i64):=aP
theorem zkd (w:aE):(zeroValue 3).run aK w=.ok (.int .i64 0) w:=by
 obtain⟨i0,hi,jN,_,_⟩:=zI zv5;simp[zeroValue,typeInfo,hi,jN]
def zbu (w:aE):(zeroValue 84).run aK w=.ok (.chan none) w:=aP
def Jl (d:nQ):Int:=match oJ d.r.o d.r.recs with|[]=>-1|l::_=>l-1
theorem zCn {p:Int->Bool}:∀(n k:Nat),k<n->(∀j,j<k->p ((j:Int)+1)=false)->p ((k:Int)+1)=true->∃rest,((gN n).map λi:Nat=>(i:Int)+1).filter p=((k:Int)+1)::rest:=by
 intro n
 induction n with
 |zero=>intro k h;omega
 |succ n ih=>
  intro k hk h1 h2;rw[List.range_succ,Im,P4];by_cases e:k<n
  .obtain⟨rest,hr⟩:=ih k e h1 h2
   rw[hr];exact⟨_,rfl⟩
  .have e2:k=n:=aC
   subst e2;have h0:((gN k).map λi:Nat=>(i:Int)+1).filter p=[]:=by
    rw[zwr];intro x hx;obtain⟨i,hi,rfl⟩:=Ir.1 hx;rw[h1 i (Bd.1 hi)];simp
   rw[h0];exact⟨[],by simp[h2]⟩
variable {d:nQ}{k:Nat}
theorem zzt (hn:(d.ln.length:Int)=d.r.o.ln)(hk:k<d.ln.length)(h1:∀j,j<k->rB d.r.recs ((j:Int)+1)=true)(h2:rB d.r.recs ((k:Int)+1)=false):Jl d=(k:Int):=by
 unfold Jl oJ x6;obtain⟨rest,hr⟩:=zCn (p:=λl=>!rB d.r.recs l) d.r.o.ln.toNat k aC (λj hj=>by simp[h1 j hj]) (by simp[h2]);rw[hr];simp only;omega
theorem zE3 (hn:(d.ln.length:Int)=d.r.o.ln)(h1:∀j,j<d.ln.length->rB d.r.recs ((j:Int)+1)=true):Jl d= -1:=by
 unfold Jl oJ x6;have h0:((gN d.r.o.ln.toNat).map λi:Nat=>(i:Int)+1).filter (λl=>!rB d.r.recs l)=[]:=by
  rw[zwr];intro x hx;obtain⟨i,hi,rfl⟩:=Ir.1 hx;rw[h1 i (by have:=Bd.1 hi;omega)];simp
 rw[h0]
variable {w:aE}{lo:Nat}
theorem Ge {E s n:Nat}{xs:List aF}(h:w.ownsRow lo E s v n xs)(hs:0<s):∃A c,v=.slice A n c/\bX w lo w.heap.size s A n c xs:=by
 obtain⟨A,c,e,o⟩:=zjw h hs;exact⟨A,c,e,o.slc⟩
theorem zgH {hi n c:Nat}{A:Option bL}(h:bX w lo hi 1 A n c (I8 xs))(hk:k<n):∃b off g,A=some ⟨b,off,none⟩/\xs[k]? =some g/\w.cell? ⟨b,off+k,none⟩=some (.chan (some g)):=by
 obtain⟨b,off,e,h1,h2,h3,h4⟩:=h.cells hk;have hl:xs.length=n:=by have:=h.len;simpa[I8] using this
 obtain⟨g,hg⟩:∃g,xs[k]? =some g:=⟨xs[k]' aC,lO aC⟩;refine⟨b,off,g,e,hg,?_⟩;have:=h4 0 (.chan (some g)) (by simp[I8,hg]);simpa using this
theorem zvX {hb:Nat}{v:fL}(h:bE w lo hb v d)(m:gC v d)(hn:(d.ln.length:Int)=d.r.o.ln)(hk:d.ln.length<=100):
 fH aK 109 #[.pointer (some ⟨hb,0,none⟩)] w λe w'=>e=.returned (.int .i64 (Jl d))/\w'=w:=by
 obtain⟨A,c,hA,hs⟩:=Ge h.L aH;have HS:=aD hs;have HM:=aD m;have HC:=aD h.C;have HN:=aD hn;have o5:=aJ h.blk 3;have k2:=aJ h.blk 4;have k1:w.cell? ⟨hb,3,none⟩=some (.slice A d.ln.length c):=by rw[o5,<-hA];rfl
 go_enter Tryz.func109,Tryz.ntmps109
 go_wp2
 go_loop [12] (λi=>∃k:Nat,k<=d.ln.length/\i=.int .i64 k/\∀j,j<k->rB d.r.recs ((j:Int)+1)=true) (λi=>d.ln.length-(intOf i).toNat)
 case atStart=>exact⟨0,jY _,rfl,λj hj=>absurd hj aC⟩
 case round=>
  obtain⟨k,sX,rfl,fW⟩:=hrel;have Ow:=aD fW;by_cases aN:k<d.ln.length
  .obtain⟨b,off,g,hA,hg,hv⟩:=zgH HS.o aN
   subst hA;have HG:=aD hg;have i0:(0:Int)<=(k:Int):=aC;have i1:(k:Int)<(d.ln.length:Int):=aC;have HU:=aD (HM.o.used hg);cases hu:rB d.r.recs ((k:Int)+1)
   .have HV:=aD hu
    go_wp2_with (at_lookup;refine zok _ rfl (.tmp 21) (.tmp 22) 66 true rfl 3 zrN Uy (.int .i64 0) (zkd _) v.mC g v.pC rfl rfl HC.o ?_;rw[HU.o,HV.o];simp only[if_true])
    go_ret;exact⟨Bu (zzt HN.o aN Ow.o HV.o).symm,rfl⟩
   .have HV:=aD hu
    go_wp2_with (at_lookup;refine zok _ rfl (.tmp 21) (.tmp 22) 66 true rfl 3 zrN Uy (.int .i64 0) (zkd _) v.mC g v.pC rfl rfl HC.o ?_;rw[HU.o,HV.o];simp only[if_true])
    go_round
    case rel=>exact⟨k+1,aC,n6,λj hj=>if e:j<k then Ow.o j e else(by rw[show j=k by omega];exact HV.o)⟩
    case measure=>simp[intOf];omega
  .have e:k=d.ln.length:=aC
   subst e;go_wp2;go_ret;exact⟨Bu (zE3 HN.o Ow.o).symm,rfl⟩
end Go.Proofs.YtfcjiloojkjaeaaGreatDoor
namespace Go.Proofs.YtfcjiloojkjaeaaGreatDoor
open Go.RowKit Go.Mt Go.Conc Go.Tt Go.Maps
section
variable {p:bS}{o:aZ}{ρ:cN->aF}{w w':aE}
variable {t:aM}
theorem znc {m x:cN}{ok:Bool}{a b v:aF}(ho:o.op=.lookup t m x ok)(hm:ρ m=a)(hx:ρ x=b)(hr:(zM t a b ok).run p w=.ok v w):(aS ρ o).run p w=.ok (.value v) w:=by
 obtain⟨dst,yP,type,pos,after,guard⟩:=o;simp only at ho;subst ho;simp[aS,hm,hx,hr]
theorem zDp {t2:aM}{a b:cN}{x y:Option Nat}{d:Na}{e:aM}(ho:o.op=.binOp .eql t a b t2)(hu:p.underlying t=some (.chan d e))(ha:ρ a=.chan x)(hb:ρ b=.chan y):(aS ρ o).run p w=.ok (.value (.bool (x==y))) w:=by
 obtain⟨dst,yP,type,pos,after,guard⟩:=o;simp only at ho;subst ho;simp[aS,eqGuard,binOp,ha,hb,zm4 hu]
theorem Dz {x:Int}(h1: -1000000000000<=x)(h2:x<=1000000000000):IntKind.i64.wrap x=x:=by
 rw[IntKind.wrap_i64];omega
theorem exec_mu {m x y:cN}{a b c:aF}(ho:o.op=.mapUpdate t m x y)(hm:ρ m=a)(hx:ρ x=b)(hy:ρ y=c)(hr:(G2 t a b c).run p w=.ok () w'):(aS ρ o).run p w=.ok .skip w':=by
 obtain⟨dst,yP,type,pos,after,guard⟩:=o;simp only at ho;subst ho;simp[aS,hm,hx,hy,hr]
variable {kt:aM}
theorem exec_dl {m x:cN}{a b v:aF}(ho:o.op=.call ⟨.builtin .delete,#[m,x],#[t,kt]⟩)(hm:ρ m=a)(hx:ρ x=b)(hr:(Lh #[t,kt] o.type #[a,b]).run p w=.ok v w'):(aS ρ o).run p w=.ok (.value v) w':=by
 obtain⟨dst,yP,type,pos,after,guard⟩:=o;simp only at ho hr;subst ho;simp[aS,resolve,invoke,builtin,hm,hx,hr]
theorem ze6 {m x:cN}{a b v:aF}(ho:o.op=.call ⟨.builtin .copy,#[m,x],#[t,kt]⟩)(hm:ρ m=a)(hx:ρ x=b)(hr:(C4 #[t,kt] o.type #[a,b]).run p w=.ok v w'):(aS ρ o).run p w=.ok (.value v) w':=by
 obtain⟨dst,yP,type,pos,after,guard⟩:=o;simp only at ho hr;subst ho;simp[aS,resolve,invoke,builtin,hm,hx,hr]
end
def bodyRF:Go.Code:=(Tryz.f115.body).getD .skip
def rRF1:Go.Code:=match bodyRF with| .seq _ (.seq (a) _)=>a|_=>.skip
def zfq:Array Oper:=match rRF1 with| .region _ ops _=>ops|_=>#[]
def zvq:zfq.toList=[⟨some 5,.move (.tmp 0),63,"l6_office.go:126",#[],none⟩,⟨some 6,.nilCheck (.tmp 5),0,"l6_office.go:126",#[⟨0,.data⟩],none⟩,⟨some 7,.fieldAddr 72 (.tmp 6) 7,0,"l6_office.go:126",#[⟨1,.data⟩],none⟩,⟨some 8,.load 45 (.tmp 7),45,"l6_office.go:126",#[⟨2,.data⟩],none⟩,⟨some 9,.move (.tmp 0),63,"l6_office.go:126",#[],none⟩,⟨some 10,.nilCheck (.tmp 9),0,"l6_office.go:126",#[⟨4,.data⟩],none⟩,⟨some 11,.fieldAddr 72 (.tmp 10) 8,0,"l6_office.go:126",#[⟨5,.data⟩],none⟩,⟨some 12,.load 70 (.tmp 11),70,"l6_office.go:126",#[⟨6,.data⟩],none⟩,⟨some 13,.move (.tmp 1),3,"l6_office.go:126",#[],none⟩,⟨some 14,.lookup 70 (.tmp 12) (.tmp 13) false,3,"l6_office.go:126",#[⟨7,.data⟩,⟨8,.data⟩],none⟩,⟨some 15,.indexAddr 45 (.tmp 8) (.tmp 14),0,"l6_office.go:126",#[⟨3,.data⟩,⟨9,.data⟩],none⟩,⟨some 4,.assign (.tmp 15),152,"l6_office.go:126",#[⟨10,.data⟩,⟨0,.phase⟩,⟨1,.phase⟩,⟨2,.phase⟩,⟨3,.phase⟩,⟨4,.phase⟩,⟨5,.phase⟩,⟨6,.phase⟩,⟨7,.phase⟩,⟨8,.phase⟩,⟨9,.phase⟩,⟨10,.phase⟩],none⟩]:=rfl
def WRF1 (w:aE)(hb g n cR mM ix:Nat)(c:Int):Nat->aE
 |_=>w.drew
theorem zvs:zfq.toList.map (·.dst)=[some 5,some 6,some 7,some 8,some 9,some 10,some 11,some 12,some 13,some 14,some 15,some 4]:=by rw[zvq];rfl
def lRF1 (w:aE)(hb g n cR mM ix:Nat)(c:Int):List Value:=[.pointer (some ⟨hb,0,none⟩),.pointer (some ⟨hb,0,none⟩),.pointer (some ⟨hb,9,none⟩),.slice (some ⟨g,0,none⟩) n cR,.pointer (some ⟨hb,0,none⟩),.pointer (some ⟨hb,0,none⟩),.pointer (some ⟨hb,10,none⟩),.map (some mM),.int .i64 (c),.int .i64 ((ix:Nat)),.pointer (some ⟨g,ix*7,none⟩),.pointer (some ⟨g,ix*7,none⟩)]
def fRF1 (w:aE)(hb g n cR mM ix:Nat)(c:Int)(i:Nat):Value:=(lRF1 w hb g n cR mM ix c).getD i aA
variable {Q:nZ->uA->aE->Prop}{d:List E8}{t0:Array aF}
theorem wp_RF1 (w:aE)(hb g n cR mM ix:Nat)(c:Int)(hz:t0.size=16)(uD:t0.getD 0 aA=.pointer (some ⟨hb,0,none⟩))(Ej:t0.getD 1 aA=.int .i64 (c))(h9:w.cell? ⟨hb,9,none⟩=some (.slice (some ⟨g,0,none⟩) n cR))(Hg:w.cell? ⟨hb,10,none⟩=some (.map (some mM)))(xE:(zM 70 (.map (some mM)) (.int .i64 c) false).run aK w.drew=.ok (.int .i64 (ix:Int)) w.drew)(n9:ix<n)(h0:WRF1 w hb g n cR mM ix c 0=w.drew)(hk:Q .normal ⟨dC zfq (fRF1 w hb g n cR mM ix c) t0,d⟩ (w.drew)):
 (E7 1 zfq true).wp aK Q ⟨t0,d⟩ w:=by
 refine Jp (ws:=[]) (Wd:=WRF1 w hb g n cR mM ix c) (vals:=fRF1 w hb g n cR mM ix c) vE.mixed aP aH aP h0 Jf (λV hU hV=>?_) hk;obtain⟨e5,e6,e7,e8,e9,zft,zmv,zeq,znu,zyj,zs9,e4,-⟩:=Hx zvs hU;have e0:=(hV 0 aP).trans uD;have e1:=(hV 1 aP).trans Ej;have zoQ:=h9;have zEX:=Hg;refine λTf hT=>Jm zvq ⟨bP.pv,bP.pv,bP.pv,bP.ld,bP.pv,bP.pv,bP.pv,bP.ld,bP.pv,bP.ld (hx:=znc rfl (nL hT zeq) (nL hT znu) xE),bP.any (λkk fO hm=>?_),bP.pv,trivial⟩
 .have i0:(0:Int)<=(ix:Int):=aC
  have i1:(ix:Int)<(n:Int):=by have:=n9;omega
  unfold aS;go_simp
def bodyCL:Go.Code:=(Tryz.f116.body).getD .skip
def rCL0:Go.Code:=match bodyCL with| .seq (a) _=>a|_=>.skip
def zf7:Array Oper:=match rCL0 with| .region _ ops _=>ops|_=>#[]
def zst:zf7.toList=[⟨some 7,.move (.tmp 0),63,"l6_office.go:130",#[],none⟩,⟨some 8,.nilCheck (.tmp 7),0,"l6_office.go:130",#[⟨0,.data⟩],none⟩,⟨some 9,.fieldAddr 72 (.tmp 8) 2,0,"l6_office.go:130",#[⟨1,.data⟩],none⟩,⟨some 10,.load 66 (.tmp 9),66,"l6_office.go:130",#[⟨2,.data⟩],none⟩,⟨some 11,.move (.tmp 0),63,"l6_office.go:130",#[],none⟩,⟨some 12,.nilCheck (.tmp 11),0,"l6_office.go:130",#[⟨4,.data⟩],none⟩,⟨some 13,.fieldAddr 72 (.tmp 12) 3,0,"l6_office.go:130",#[⟨5,.data⟩],none⟩,⟨some 14,.load 67 (.tmp 13),67,"l6_office.go:130",#[⟨6,.data⟩],none⟩,⟨some 15,.move (.tmp 1),3,"l6_office.go:130",#[],none⟩,⟨some 16,.lookup 67 (.tmp 14) (.tmp 15) false,84,"l6_office.go:130",#[⟨7,.data⟩,⟨8,.data⟩],none⟩,⟨none,.call ⟨.builtin .delete,#[.tmp 10,.tmp 16],#[66,84]⟩,0,"l6_office.go:130",#[⟨3,.data⟩,⟨9,.data⟩],none⟩]:=rfl
def WCL0 (w:aE)(hb mC mO g:Nat)(o1:Obj)(c:Int):Nat->aE
 |0=>w.drew
 |_=>{w.drew with heap:=w.drew.heap.setIfInBounds mC o1}
theorem zxg:zf7.toList.map (·.dst)=[some 7,some 8,some 9,some 10,some 11,some 12,some 13,some 14,some 15,some 16,none]:=by rw[zst];rfl
def lCL0 (w:aE)(hb mC mO g:Nat)(o1:Obj)(c:Int):List Value:=[.pointer (some ⟨hb,0,none⟩),.pointer (some ⟨hb,0,none⟩),.pointer (some ⟨hb,4,none⟩),.map (some mC),.pointer (some ⟨hb,0,none⟩),.pointer (some ⟨hb,0,none⟩),.pointer (some ⟨hb,5,none⟩),.map (some mO),.int .i64 (c),.chan (some g),aA]
def fCL0 (w:aE)(hb mC mO g:Nat)(o1:Obj)(c:Int)(i:Nat):Value:=(lCL0 w hb mC mO g o1 c).getD i aA
theorem wp_CL0 (w:aE)(hb mC mO g:Nat)(o1:Obj)(c:Int)(hz:t0.size=36)(uD:t0.getD 0 aA=.pointer (some ⟨hb,0,none⟩))(Ej:t0.getD 1 aA=.int .i64 (c))(h4:w.cell? ⟨hb,4,none⟩=some (.map (some mC)))(h5:w.cell? ⟨hb,5,none⟩=some (.map (some mO)))(xE:(zM 67 (.map (some mO)) (.int .i64 c) false).run aK w.drew=.ok (.chan (some g)) w.drew)(uR:∀ty,(Lh #[66,84] ty #[.map (some mC),.chan (some g)]).run aK w.drew=.ok (.tuple #[]) {w.drew with heap:=w.drew.heap.setIfInBounds mC o1})(h0:WCL0 w hb mC mO g o1 c 0=w.drew)(hk:Q .normal ⟨dC zf7 (fCL0 w hb mC mO g o1 c) t0,d⟩ ({w.drew with heap:=w.drew.heap.setIfInBounds mC o1})):
 (E7 0 zf7 true).wp aK Q ⟨t0,d⟩ w:=by
 refine Jp (ws:=[10]) (Wd:=WCL0 w hb mC mO g o1 c) (vals:=fCL0 w hb mC mO g o1 c) vE.mixed aP aH aP h0 Jf (λV hU hV=>?_) hk;obtain⟨e7,e8,e9,zft,zmv,zeq,znu,zyj,zs9,zzb,-⟩:=Hx zxg hU;have e0:=(hV 0 aP).trans uD;have e1:=(hV 1 aP).trans Ej;have Kk:=h4;have zIe:=h5;refine λTf hT=>Jm zst ⟨bP.pv,bP.pv,bP.pv,bP.ld,bP.pv,bP.pv,bP.pv,bP.ld,bP.pv,bP.ld (hx:=znc rfl (nL hT zyj) (nL hT zs9) xE),.actn 0 rfl (eB rfl) rfl (.tuple #[]) ?_,trivial⟩
 .exact exec_dl rfl (nL hT zft) (nL hT zzb) (uR _)
def zyf:Go.Code:=(Tryz.f110.body).getD .skip
def rCC3:Go.Code:=match zyf with| .seq _ (.seq _ (.seq _ (.seq (a) _)))=>a|_=>.skip
def zfD:Array Oper:=match rCC3 with| .region _ ops _=>ops|_=>#[]
def zw8:zfD.toList=[⟨some 26,.move (.tmp 0),63,"l6_office.go:119",#[],none⟩,⟨some 27,.nilCheck (.tmp 26),0,"l6_office.go:119",#[⟨0,.data⟩],none⟩,⟨some 28,.fieldAddr 72 (.tmp 27) 8,0,"l6_office.go:119",#[⟨1,.data⟩],none⟩,⟨some 29,.load 70 (.tmp 28),70,"l6_office.go:119",#[⟨2,.data⟩],none⟩,⟨some 30,.move (.tmp 1),3,"l6_office.go:119",#[],none⟩,⟨some 31,.move (.tmp 0),63,"l6_office.go:119",#[],none⟩,⟨some 32,.nilCheck (.tmp 31),0,"l6_office.go:119",#[⟨5,.data⟩],none⟩,⟨some 33,.fieldAddr 72 (.tmp 32) 7,0,"l6_office.go:119",#[⟨6,.data⟩],none⟩,⟨some 34,.load 45 (.tmp 33),45,"l6_office.go:119",#[⟨7,.data⟩],none⟩,⟨some 35,.call ⟨.builtin .len,#[.tmp 34],#[45]⟩,3,"l6_office.go:119",#[⟨8,.data⟩],none⟩,⟨none,.mapUpdate 70 (.tmp 29) (.tmp 30) (.tmp 35),0,"l6_office.go:119",#[⟨3,.data⟩,⟨4,.data⟩,⟨9,.data⟩,⟨0,.phase⟩,⟨1,.phase⟩,⟨2,.phase⟩,⟨3,.phase⟩,⟨4,.phase⟩,⟨5,.phase⟩,⟨6,.phase⟩,⟨7,.phase⟩,⟨8,.phase⟩,⟨9,.phase⟩],none⟩]:=rfl
def WCC3 (w:aE)(hb mM n:Nat)(sR:aF)(A:Option bL)(cR:Nat)(o1:Obj)(c:Int):Nat->aE
 |0=>w.drew
 |_=>{w.drew with heap:=w.drew.heap.setIfInBounds mM o1}
theorem zw4:zfD.toList.map (·.dst)=[some 26,some 27,some 28,some 29,some 30,some 31,some 32,some 33,some 34,some 35,none]:=by rw[zw8];rfl
def lCC3 (w:aE)(hb mM n:Nat)(sR:aF)(A:Option bL)(cR:Nat)(o1:Obj)(c:Int):List Value:=[.pointer (some ⟨hb,0,none⟩),.pointer (some ⟨hb,0,none⟩),.pointer (some ⟨hb,10,none⟩),.map (some mM),.int .i64 (c),.pointer (some ⟨hb,0,none⟩),.pointer (some ⟨hb,0,none⟩),.pointer (some ⟨hb,9,none⟩),.slice A n cR,.int .i64 ((n:Nat)),aA]
def fCC3 (w:aE)(hb mM n:Nat)(sR:aF)(A:Option bL)(cR:Nat)(o1:Obj)(c:Int)(i:Nat):Value:=(lCC3 w hb mM n sR A cR o1 c).getD i aA
theorem wp_CC3 (w:aE)(hb mM n:Nat)(sR:aF)(A:Option bL)(cR:Nat)(o1:Obj)(c:Int)(hz:t0.size=53)(uD:t0.getD 0 aA=.pointer (some ⟨hb,0,none⟩))(Ej:t0.getD 1 aA=.int .i64 (c))(Hg:w.cell? ⟨hb,10,none⟩=some (.map (some mM)))(h9:w.cell? ⟨hb,9,none⟩=some (.slice A n cR))(Jx:(G2 70 (.map (some mM)) (.int .i64 c) (.int .i64 (n:Int))).run aK w.drew=.ok () {w.drew with heap:=w.drew.heap.setIfInBounds mM o1})(h0:WCC3 w hb mM n sR A cR o1 c 0=w.drew)(hk:Q .normal ⟨dC zfD (fCC3 w hb mM n sR A cR o1 c) t0,d⟩ ({w.drew with heap:=w.drew.heap.setIfInBounds mM o1})):
 (E7 3 zfD true).wp aK Q ⟨t0,d⟩ w:=by
 refine Jp (ws:=[10]) (Wd:=WCC3 w hb mM n sR A cR o1 c) (vals:=fCC3 w hb mM n sR A cR o1 c) vE.mixed aP aH aP h0 Jf (λV hU hV=>?_) hk;obtain⟨zK9,zMO,zLo,zHF,zHf,zK8,zLA,zJ0,zKr,zAX,-⟩:=Hx zw4 hU;have e0:=(hV 0 aP).trans uD;have e1:=(hV 1 aP).trans Ej;have zEX:=Hg;have zoQ:=h9;refine λTf hT=>Jm zw8 ⟨bP.pv,bP.pv,bP.pv,bP.ld,bP.pv,bP.pv,bP.pv,bP.pv,bP.ld,bP.pv,.skp 0 rfl (eB rfl) rfl ?_,trivial⟩
 .exact exec_mu rfl (nL hT zHF) (nL hT zHf) (nL hT zAX) Jx
def rCC4:Go.Code:=match zyf with| .seq _ (.seq _ (.seq _ (.seq _ (a))))=>a|_=>.skip
def zep:Array Oper:=match rCC4 with| .region _ ops _=>ops|_=>#[]
def zsF:zep.toList=[⟨some 36,.move (.tmp 0),63,"l6_office.go:120",#[],none⟩,⟨some 37,.move (.tmp 0),63,"l6_office.go:120",#[],none⟩,⟨some 38,.nilCheck (.tmp 37),0,"l6_office.go:120",#[⟨1,.data⟩],none⟩,⟨some 39,.fieldAddr 72 (.tmp 38) 7,0,"l6_office.go:120",#[⟨2,.data⟩],none⟩,⟨some 40,.load 45 (.tmp 39),45,"l6_office.go:120",#[⟨3,.data⟩],none⟩,⟨some 41,.move (.tmp 1),3,"l6_office.go:120",#[],none⟩,⟨some 42,.move (.tmp 2),3,"l6_office.go:120",#[],none⟩,⟨some 43,.binOp .add 3 (.tmp 42) (.const (.int .i64 1)) 3,3,"l6_office.go:120",#[⟨6,.data⟩],none⟩,⟨some 44,.move (.tmp 0),63,"l6_office.go:120",#[],none⟩,⟨some 45,.nilCheck (.tmp 44),0,"l6_office.go:120",#[⟨8,.data⟩],none⟩,⟨some 46,.fieldAddr 72 (.tmp 45) 9,0,"l6_office.go:120",#[⟨9,.data⟩],none⟩,⟨some 47,.load 3 (.tmp 46),3,"l6_office.go:120",#[⟨10,.data⟩],none⟩,⟨some 48,.build 50 #[(0,.tmp 41),(1,.tmp 43),(3,.tmp 47),(4,.const (.int .i64 (-1))),(5,.const (.int .i64 (-1))),(6,.const (.string {data:=#[111,112,101,110]}))],50,"l6_office.go:120",#[⟨5,.data⟩,⟨7,.data⟩,⟨11,.data⟩],none⟩,⟨some 49,.buildSlice 45 1 #[(0,.tmp 48)],45,"l6_office.go:120",#[⟨12,.data⟩],none⟩,⟨some 50,.call ⟨.builtin .append,#[.tmp 40,.tmp 49],#[45,45]⟩,45,"l6_office.go:120",#[⟨4,.data⟩,⟨13,.data⟩],none⟩,⟨some 51,.nilCheck (.tmp 36),0,"l6_office.go:120",#[⟨0,.data⟩,⟨0,.phase⟩,⟨1,.phase⟩,⟨2,.phase⟩,⟨3,.phase⟩,⟨4,.phase⟩,⟨5,.phase⟩,⟨6,.phase⟩,⟨7,.phase⟩,⟨8,.phase⟩,⟨9,.phase⟩,⟨10,.phase⟩,⟨11,.phase⟩,⟨12,.phase⟩,⟨13,.phase⟩,⟨14,.phase⟩],none⟩,⟨some 52,.fieldAddr 72 (.tmp 51) 7,0,"l6_office.go:120",#[⟨15,.data⟩,⟨0,.phase⟩,⟨1,.phase⟩,⟨2,.phase⟩,⟨3,.phase⟩,⟨4,.phase⟩,⟨5,.phase⟩,⟨6,.phase⟩,⟨7,.phase⟩,⟨8,.phase⟩,⟨9,.phase⟩,⟨10,.phase⟩,⟨11,.phase⟩,⟨12,.phase⟩,⟨13,.phase⟩,⟨14,.phase⟩],none⟩,⟨none,.store 45 (.tmp 52) (.tmp 50),0,"l6_office.go:120",#[⟨16,.data⟩,⟨14,.data⟩,⟨14,.chain⟩,⟨0,.phase⟩,⟨1,.phase⟩,⟨2,.phase⟩,⟨3,.phase⟩,⟨4,.phase⟩,⟨5,.phase⟩,⟨6,.phase⟩,⟨7,.phase⟩,⟨8,.phase⟩,⟨9,.phase⟩,⟨10,.phase⟩,⟨11,.phase⟩,⟨12,.phase⟩,⟨13,.phase⟩,⟨14,.phase⟩],none⟩]:=rfl
def WCC4 (w w3:aE)(hb g1 n1 c1:Nat)(sR:aF)(c ix clk:Int):Nat->aE
 |0=>w.drew
 |1=>(w.alloc (.cells #[.int .i64 c,.int .i64 (ix+1),.int .i64 0,.int .i64 clk,.int .i64 (-1),.int .i64 (-1),.string eM] 50)).drew
 |2=>w3
 |_=>w3.setCell ⟨hb,9,none⟩ (.slice (some ⟨g1,0,none⟩) n1 c1)
theorem zuC:zep.toList.map (·.dst)=[some 36,some 37,some 38,some 39,some 40,some 41,some 42,some 43,some 44,some 45,some 46,some 47,some 48,some 49,some 50,some 51,some 52,none]:=by rw[zsF];rfl
def lCC4 (w w3:aE)(hb g1 n1 c1:Nat)(sR:aF)(c ix clk:Int):List Value:=[.pointer (some ⟨hb,0,none⟩),.pointer (some ⟨hb,0,none⟩),.pointer (some ⟨hb,0,none⟩),.pointer (some ⟨hb,9,none⟩),sR,.int .i64 (c),.int .i64 (ix),.int .i64 (ix+1),.pointer (some ⟨hb,0,none⟩),.pointer (some ⟨hb,0,none⟩),.pointer (some ⟨hb,11,none⟩),.int .i64 (clk),.agg #[.int .i64 c,.int .i64 (ix+1),.int .i64 0,.int .i64 clk,.int .i64 (-1),.int .i64 (-1),.string eM],.slice (some ⟨w.heap.size,0,none⟩) 1 1,.slice (some ⟨g1,0,none⟩) n1 c1,.pointer (some ⟨hb,0,none⟩),.pointer (some ⟨hb,9,none⟩),aA]
def fCC4 (w w3:aE)(hb g1 n1 c1:Nat)(sR:aF)(c ix clk:Int)(i:Nat):Value:=(lCC4 w w3 hb g1 n1 c1 sR c ix clk).getD i aA
theorem wp_CC4 (w w3:aE)(hb g1 n1 c1:Nat)(sR:aF)(c ix clk:Int)(hz:t0.size=53)(uD:t0.getD 0 aA=.pointer (some ⟨hb,0,none⟩))(Ej:t0.getD 1 aA=.int .i64 (c))(Rq:t0.getD 2 aA=.int .i64 (ix))(h9:w.cell? ⟨hb,9,none⟩=some sR)(S6:w.cell? ⟨hb,11,none⟩=some (.int .i64 clk))(ztl:0<=ix/\ix<=1000)(fN:(xF #[45,45] 45 #[sR,.slice (some ⟨w.heap.size,0,none⟩) 1 1]).run aK ((w.alloc (.cells #[.int .i64 c,.int .i64 (ix+1),.int .i64 0,.int .i64 clk,.int .i64 (-1),.int .i64 (-1),.string eM] 50)).drew)=.ok (.slice (some ⟨g1,0,none⟩) n1 c1) w3)(aY:w3.cell? ⟨hb,9,none⟩=some sR)(mU:w3.frozen? ⟨hb,9,none⟩=false)(h0:WCC4 w w3 hb g1 n1 c1 sR c ix clk 0=w.drew)(hk:Q .normal ⟨dC zep (fCC4 w w3 hb g1 n1 c1 sR c ix clk) t0,d⟩ (w3.setCell ⟨hb,9,none⟩ (.slice (some ⟨g1,0,none⟩) n1 c1))):
 (E7 4 zep true).wp aK Q ⟨t0,d⟩ w:=by
 refine Jp (ws:=[13,14,17]) (Wd:=WCC4 w w3 hb g1 n1 c1 sR c ix clk) (vals:=fCC4 w w3 hb g1 n1 c1 sR c ix clk) vE.mixed aP aH aP h0 Jf (λV hU hV=>?_) hk;obtain⟨zzF,ztx,ztg,zmL,zmo,zsw,zuX,ziX,zwA,zkR,Xw,zcc,zlw,Y0,zgp,Wk,Wq,-⟩:=Hx zuC hU;have e0:=(hV 0 aP).trans uD;have e1:=(hV 1 aP).trans Ej;have e2:=(hV 2 aP).trans Rq;have zoQ:=h9;have zJ9:=S6;refine λTf hT=>Jm zsF ⟨bP.pv,bP.pv,bP.pv,bP.pv,bP.any (λkk fO hm=>?_),bP.pv,bP.pv,bP.any (λkk fO hm=>?_),bP.pv,bP.pv,bP.pv,bP.ld,bP.any (λkk fO hm=>?_),bP.act (v:=V 49) 0 rfl (eB rfl) ?_,bP.act (v:=V 50) 1 rfl (eB rfl) ?_,bP.pv,bP.pv,.skp 2 rfl (eB rfl) rfl ?_,trivial⟩
 .rcases kk with _|_|_|_|kk
  .show(aS _ _).run _ (w.drew)=vU _ (w.drew);have hh:=h9;unfold aS;go_simp
  .show(aS _ _).run _ ((w.alloc (.cells #[.int .i64 c,.int .i64 (ix+1),.int .i64 0,.int .i64 clk,.int .i64 (-1),.int .i64 (-1),.string eM] 50)).drew)=vU _ ((w.alloc (.cells #[.int .i64 c,.int .i64 (ix+1),.int .i64 0,.int .i64 clk,.int .i64 (-1),.int .i64 (-1),.string eM] 50)).drew);have hh:=Aa h9 (.cells #[.int .i64 c,.int .i64 (ix+1),.int .i64 0,.int .i64 clk,.int .i64 (-1),.int .i64 (-1),.string eM] 50);unfold aS;go_simp
  .exact absurd hm G7
  .exact absurd hm G7
  .simp at fO
 .have i0:=ztl.1
  have i1:=ztl.2;unfold aS;go_simp;exact Dz aC aC
 .unfold aS;go_simp;rfl
 .rw[Y0];show(aS _ _).run _ (w.drew)=vU _ ((w.alloc (.cells #[.int .i64 c,.int .i64 (ix+1),.int .i64 0,.int .i64 clk,.int .i64 (-1),.int .i64 (-1),.string eM] 50)).drew);unfold aS;go_simp
 .rw[zgp];exact zal rfl (nL hT zmo) (nL hT Y0) fN
 .have hs:=aY;have hf:=mU;show(aS _ _).run _ (w3)=vU _ (w3.setCell ⟨hb,9,none⟩ (.slice (some ⟨g1,0,none⟩) n1 c1));unfold aS;go_simp
def bodyWA:Go.Code:=(Tryz.f105.body).getD .skip
def rWA10:Go.Code:=match bodyWA with| .seq _ (.seq _ (.seq _ (.seq _ (.seq (.seq _ (.block _ (.loop (.seq _ (.seq _ (.seq (.block _ (.seq _ (.seq _ (.seq _ (.seq (a) _))))) _)))))) _))))=>a|_=>.skip
def zeB:Array Oper:=match rWA10 with| .region _ ops _=>ops|_=>#[]
def zq0:zeB.toList=[⟨some 58,.move (.tmp 0),63,"l6_office.go:227",#[],none⟩,⟨some 59,.move (.tmp 0),63,"l6_office.go:227",#[],none⟩,⟨some 60,.nilCheck (.tmp 59),0,"l6_office.go:227",#[⟨1,.data⟩],none⟩,⟨some 61,.fieldAddr 72 (.tmp 60) 6,0,"l6_office.go:227",#[⟨2,.data⟩],none⟩,⟨some 62,.load 38 (.tmp 61),38,"l6_office.go:227",#[⟨3,.data⟩],none⟩,⟨some 63,.fieldAddr 149 (.tmp 8) 0,0,"l6_office.go:227",#[],none⟩,⟨some 64,.load 3 (.tmp 63),3,"l6_office.go:227",#[⟨5,.data⟩],none⟩,⟨some 65,.buildSlice 38 1 #[(0,.tmp 64)],38,"l6_office.go:227",#[⟨6,.data⟩],none⟩,⟨some 66,.call ⟨.builtin .append,#[.tmp 62,.tmp 65],#[38,38]⟩,38,"l6_office.go:227",#[⟨4,.data⟩,⟨7,.data⟩],none⟩,⟨some 67,.nilCheck (.tmp 58),0,"l6_office.go:227",#[⟨0,.data⟩,⟨0,.phase⟩,⟨1,.phase⟩,⟨2,.phase⟩,⟨3,.phase⟩,⟨4,.phase⟩,⟨5,.phase⟩,⟨6,.phase⟩,⟨7,.phase⟩,⟨8,.phase⟩],none⟩,⟨some 68,.fieldAddr 72 (.tmp 67) 6,0,"l6_office.go:227",#[⟨9,.data⟩,⟨0,.phase⟩,⟨1,.phase⟩,⟨2,.phase⟩,⟨3,.phase⟩,⟨4,.phase⟩,⟨5,.phase⟩,⟨6,.phase⟩,⟨7,.phase⟩,⟨8,.phase⟩],none⟩,⟨none,.store 38 (.tmp 68) (.tmp 66),0,"l6_office.go:227",#[⟨10,.data⟩,⟨8,.data⟩,⟨8,.chain⟩,⟨0,.phase⟩,⟨1,.phase⟩,⟨2,.phase⟩,⟨3,.phase⟩,⟨4,.phase⟩,⟨5,.phase⟩,⟨6,.phase⟩,⟨7,.phase⟩,⟨8,.phase⟩],none⟩]:=rfl
def WWA10 (w w3:aE)(hb gx g1 n1 c1:Nat)(sB:aF)(c:Int):Nat->aE
 |0=>w.drew
 |1=>(w.alloc (.cells #[.int .i64 c] 3)).drew
 |2=>w3
 |_=>w3.setCell ⟨hb,8,none⟩ (.slice (some ⟨g1,0,none⟩) n1 c1)
theorem zwD:zeB.toList.map (·.dst)=[some 58,some 59,some 60,some 61,some 62,some 63,some 64,some 65,some 66,some 67,some 68,none]:=by rw[zq0];rfl
def lWA10 (w w3:aE)(hb gx g1 n1 c1:Nat)(sB:aF)(c:Int):List Value:=[.pointer (some ⟨hb,0,none⟩),.pointer (some ⟨hb,0,none⟩),.pointer (some ⟨hb,0,none⟩),.pointer (some ⟨hb,8,none⟩),sB,.pointer (some ⟨gx,0,none⟩),.int .i64 (c),.slice (some ⟨w.heap.size,0,none⟩) 1 1,.slice (some ⟨g1,0,none⟩) n1 c1,.pointer (some ⟨hb,0,none⟩),.pointer (some ⟨hb,8,none⟩),aA]
def zjK (w w3:aE)(hb gx g1 n1 c1:Nat)(sB:aF)(c:Int)(i:Nat):Value:=(lWA10 w w3 hb gx g1 n1 c1 sB c).getD i aA
theorem wp_WA10 (w w3:aE)(hb gx g1 n1 c1:Nat)(sB:aF)(c:Int)(hz:t0.size=81)(uD:t0.getD 0 aA=.pointer (some ⟨hb,0,none⟩))(zj8:t0.getD 8 aA=.pointer (some ⟨gx,0,none⟩))(h8:w.cell? ⟨hb,8,none⟩=some sB)(hx:w.cell? ⟨gx,0,none⟩=some (.int .i64 c))(fN:(xF #[38,38] 38 #[sB,.slice (some ⟨w.heap.size,0,none⟩) 1 1]).run aK ((w.alloc (.cells #[.int .i64 c] 3)).drew)=.ok (.slice (some ⟨g1,0,none⟩) n1 c1) w3)(aY:w3.cell? ⟨hb,8,none⟩=some sB)(mU:w3.frozen? ⟨hb,8,none⟩=false)(h0:WWA10 w w3 hb gx g1 n1 c1 sB c 0=w.drew)(hk:Q .normal ⟨dC zeB (zjK w w3 hb gx g1 n1 c1 sB c) t0,d⟩ (w3.setCell ⟨hb,8,none⟩ (.slice (some ⟨g1,0,none⟩) n1 c1))):
 (E7 10 zeB true).wp aK Q ⟨t0,d⟩ w:=by
 refine Jp (ws:=[7,8,11]) (Wd:=WWA10 w w3 hb gx g1 n1 c1 sB c) (vals:=zjK w w3 hb gx g1 n1 c1 sB c) vE.mixed aP aH aP h0 Jf (λV hU hV=>?_) hk;obtain⟨zou,zH0,zL1,zL3,zAN,zMD,zM6,zvH,zFK,zLI,zJ1,-⟩:=Hx zwD hU;have e0:=(hV 0 aP).trans uD;have e8:=(hV 8 aP).trans zj8;have zMl:=h8;have lP:=hx;refine λTf hT=>Jm zq0 ⟨bP.pv,bP.pv,bP.pv,bP.pv,bP.any (λkk fO hm=>?_),bP.pv,bP.ld,bP.act (v:=V 65) 0 rfl (eB rfl) ?_,bP.act (v:=V 66) 1 rfl (eB rfl) ?_,bP.pv,bP.pv,.skp 2 rfl (eB rfl) rfl ?_,trivial⟩
 .rcases kk with _|_|_|_|kk
  .show(aS _ _).run _ (w.drew)=vU _ (w.drew);have hh:=h8;unfold aS;go_simp
  .show(aS _ _).run _ ((w.alloc (.cells #[.int .i64 c] 3)).drew)=vU _ ((w.alloc (.cells #[.int .i64 c] 3)).drew);have hh:=Aa h8 (.cells #[.int .i64 c] 3);unfold aS;go_simp
  .exact absurd hm G7
  .exact absurd hm G7
  .simp at fO
 .rw[zvH];show(aS _ _).run _ (w.drew)=vU _ ((w.alloc (.cells #[.int .i64 c] 3)).drew);unfold aS;go_simp
 .rw[zFK];exact zal rfl (nL hT zAN) (nL hT zvH) fN
 .have hs:=aY;have hf:=mU;show(aS _ _).run _ (w3)=vU _ (w3.setCell ⟨hb,8,none⟩ (.slice (some ⟨g1,0,none⟩) n1 c1));unfold aS;go_simp
def bodyHG:Go.Code:=(Tryz.f102.body).getD .skip
def rHG1:Go.Code:=match bodyHG with| .seq _ (.seq (.seq (a) _) _)=>a|_=>.skip
def zgo:Array Oper:=match rHG1 with| .region _ ops _=>ops|_=>#[]
def zxV:zgo.toList=[⟨some 7,.move (.tmp 0),63,"l6_office.go:198",#[],none⟩,⟨some 8,.nilCheck (.tmp 7),0,"l6_office.go:198",#[⟨0,.data⟩],none⟩,⟨some 9,.fieldAddr 72 (.tmp 8) 3,0,"l6_office.go:198",#[⟨1,.data⟩],none⟩,⟨some 10,.load 67 (.tmp 9),67,"l6_office.go:198",#[⟨2,.data⟩],none⟩,⟨some 11,.load 3 (.tmp 3),3,"l6_office.go:198",#[],none⟩,⟨some 12,.lookup 67 (.tmp 10) (.tmp 11) false,84,"l6_office.go:198",#[⟨3,.data⟩,⟨4,.data⟩],none⟩,⟨some 13,.binOp .eql 84 (.tmp 12) (.const (.chan none)) 84,4,"l6_office.go:198",#[⟨5,.data⟩],none⟩]:=rfl
def WHG1 (w:aE)(hb gx mO:Nat)(c:Int)(q:Option Nat):Nat->aE
 |_=>w.drew
theorem znB:zgo.toList.map (·.dst)=[some 7,some 8,some 9,some 10,some 11,some 12,some 13]:=by rw[zxV];rfl
def lHG1 (w:aE)(hb gx mO:Nat)(c:Int)(q:Option Nat):List Value:=[.pointer (some ⟨hb,0,none⟩),.pointer (some ⟨hb,0,none⟩),.pointer (some ⟨hb,5,none⟩),.map (some mO),.int .i64 (c),.chan q,.bool (q==none)]
def fHG1 (w:aE)(hb gx mO:Nat)(c:Int)(q:Option Nat)(i:Nat):Value:=(lHG1 w hb gx mO c q).getD i aA
theorem ztF (w:aE)(hb gx mO:Nat)(c:Int)(q:Option Nat)(hz:t0.size=59)(uD:t0.getD 0 aA=.pointer (some ⟨hb,0,none⟩))(zko:t0.getD 3 aA=.pointer (some ⟨gx,0,none⟩))(h5:w.cell? ⟨hb,5,none⟩=some (.map (some mO)))(hx:w.cell? ⟨gx,0,none⟩=some (.int .i64 c))(xE:(zM 67 (.map (some mO)) (.int .i64 c) false).run aK w.drew=.ok (.chan q) w.drew)(h0:WHG1 w hb gx mO c q 0=w.drew)(hk:Q .normal ⟨dC zgo (fHG1 w hb gx mO c q) t0,d⟩ (w.drew)):
 (E7 1 zgo true).wp aK Q ⟨t0,d⟩ w:=by
 refine Jp (ws:=[]) (Wd:=WHG1 w hb gx mO c q) (vals:=fHG1 w hb gx mO c q) vE.mixed aP aH aP h0 Jf (λV hU hV=>?_) hk;obtain⟨e7,e8,e9,zft,zmv,zeq,znu,-⟩:=Hx znB hU;have e0:=(hV 0 aP).trans uD;have e3:=(hV 3 aP).trans zko;have zIe:=h5;have lP:=hx;refine λTf hT=>Jm zxV ⟨bP.pv,bP.pv,bP.pv,bP.ld,bP.ld,bP.ld (hx:=znc rfl (nL hT zft) (nL hT zmv) xE),bP.any (λkk fO hm=>?_),trivial⟩
 .exact zDp rfl Uy (nL hT zeq) rfl
end Go.Proofs.YtfcjiloojkjaeaaGreatDoor
namespace Go.Proofs.YtfcjiloojkjaeaaGreatDoor
open Go.RowKit
def B8 (v v':fL):Prop:=v'.sL=v.sL/\v'.sQ=v.sQ/\v'.sW=v.sW/\v'.sB=v.sB/\v'.sA=v.sA/\v'.sT=v.sT
def B8.rf (v:fL):B8 v v:=⟨rfl,rfl,rfl,rfl,rfl,rfl⟩
def zqL:aK.underlying 70=some (.map 3 3):=aP
def Rg:aK.underlying 67=some (.map 3 84):=aP
def ztm:aK.underlying 66=some (.map 84 3):=aP
variable {w:aE}{lo hb i:Nat}{v:fL}{d:nQ}{x:bT}
theorem ziU (h:bE w lo hb v d)(hx:d.r.recs[i]? =some x):∃g c,v.sR=.slice (some ⟨g,0,none⟩) d.r.recs.length c:=by
 have hi:=(kE.1 hx).1;rcases h.R.2 with⟨_,h0⟩|⟨g,cap,cur,e,_⟩
 .omega
 .exact⟨g,cap,e⟩
variable {c:Int}{g cR:Nat}
theorem zd7 (h:bE w lo hb v d)(hR:v.sR=.slice (some ⟨g,0,none⟩) d.r.recs.length cR)(hx:d.r.recs[i]? =some x)(hc:kW c v.pM=some (.int .i64 (i:Int))):
 fH aK 115 #[.pointer (some ⟨hb,0,none⟩),.int .i64 c] w λe w'=>e=.returned (.pointer (some ⟨g,i*7,none⟩))/\w'=w.drew:=by
 have hi:=(kE.1 hx).1;have k0:=aJ h.blk 9;have k1:w.cell? ⟨hb,9,none⟩=some (.slice (some ⟨g,0,none⟩) d.r.recs.length cR):=by rw[k0,<-hR];rfl
 have k2:=aJ h.blk 10;have hl:(zM 70 (.map (some v.mM)) (.int .i64 c) false).run aK w.drew=.ok (.int .i64 (i:Int)) w.drew:=by
  have:=zcn zqL Ko (zkd w.drew) (h.drew.M) (c:=c) false;rw[hc] at this;exact this
 have HL:=aD hl
 go_enter Tryz.func115,Tryz.ntmps115
 go_wp2_with fail
 refine wp_RF1 w hb g d.r.recs.length cR v.mM i c rfl rfl rfl k1 k2 HL.o hi rfl ?_;rw[Go.Mt.An,zvs];simp only[Go.Mt.xL,dV,dW,fRF1,lRF1,Ds,C7]
 go_wp2_with fail
 go_ret;exact⟨rfl,rfl⟩
theorem zC9 (rs:List bT)(x:bT):recs (rs++[x])=recs rs++x.cells:=by simp[recs]
def zFD:(aK.info? 50).map (λi=>(i.zero,i.size,i.bytes))=some (some (.agg #[.int .i64 0,.int .i64 0,.int .i64 0,.int .i64 0,.int .i64 0,.int .i64 0,.string ⟨#[]⟩]),7,64):=aP
variable {xs:List aF}{cs:Array aF}
theorem M9 {lo E n m sz bytes t ty:Nat}{v:aF}{news:List aF}{z:aF}(zGh:(aK.info? E).map (λi=>(i.zero,i.size,i.bytes))=some (some z,sz,bytes))(hu:aK.underlying t=some (.slice E))(hzs:z.cells.size=sz)(cJ:0<sz)
 (h:w.ownsRow lo E sz v n xs)   (hg:w.heap[g]? =some (.cells cs E)) (fW:cs.toList=news) (hl:news.length=m*sz) (hm:0<m) (h1:∀u∈news,u.oneCell'=true) (hn:n+m<=1000000) (hb:bytes<=1000) (dQ:lo<=w.heap.size):
 ∃g1 c1 w',(xF #[t,t] ty #[v,.slice (some ⟨g,0,none⟩) m m]).run aK w=.ok (.slice (some ⟨g1,0,none⟩) (n+m) c1) w'/\w'.ownsRow lo E sz (.slice (some ⟨g1,0,none⟩) (n+m) c1) (n+m) (xs++news)/\w.grownBy w' v.ownBlock/\
  ((U7 (some ⟨g1,0,none⟩) (n+m) c1).ownBlock=v.ownBlock\/∀b,(U7 (some ⟨g1,0,none⟩) (n+m) c1).ownBlock=some b->w.heap.size<=b):=by
 obtain⟨i0,hi,jN,eL,lH⟩:=zI zGh;have zK6:=Nat.mul_le_mul hn hb;obtain⟨v',w',hr,h2,h3,h4,h5⟩:=run_append_own_at (P:=aK) w lo t ty E i0 z sz bytes hu hi jN eL lH hzs cJ v n xs h ⟨g,0,none⟩ m m news hl (E0 (cs:=cs) hg|>λf=>by rw[<-fW];exact f) h1 X2 aC dQ;obtain⟨g1,c1,rfl⟩:=zjQ h2 (λe=>by have:=(h4.1 e).2;omega);refine⟨g1,c1,w',hr,h2,h3,?_⟩;rcases h5 with h5|h5
 .exact .inl h5
 .refine .inr λb hb=>?_
  rw[h5] at hb;injection hb with hb;omega
theorem zwB (h:bE w lo hb v d)(dQ:lo<=w.heap.size)(hg:d.ln[i]? =some g)(hi:i<=100)(hn:d.r.recs.length<=1000)(c:Int):
 fH aK 110 #[.pointer (some ⟨hb,0,none⟩),.int .i64 c,.int .i64 (i:Int)] w λe w'=>e=.returned (.tuple #[])/\∃v',bE w' lo hb v' {d with r:={d.r with recs:=d.r.recs++[⟨c,(i:Int)+1,0,d.r.clk,-1,-1,eM⟩]}}/\bM hb v w v' w'/\
  v'.pC=uI g (.int .i64 c) v.pC/\v'.pO=qK c (.chan (some g)) v.pO/\v'.pM=qK c (.int .i64 (d.r.recs.length:Int)) v.pM/\B8 v v':=by
 obtain⟨A,cL,hA,hs⟩:=Ge h.L aH;have Ch:=(kE.1 hg).1;obtain⟨b,off,g',rfl,wQ,hv⟩:=zgH hs Ch;rw[hg] at wQ;obtain rfl:=cE wQ;have Vj:=aJ h.blk 3;have k3:w.cell? ⟨hb,3,none⟩=some (.slice (some ⟨b,off,none⟩) d.ln.length cL):=by rw[Vj,<-hA];rfl
 have k4:=aJ h.blk 4;have i0:(0:Int)<=(i:Int):=aC;have i1:(i:Int)<(d.ln.length:Int):=aC;have HH:=aD h;have HC:=aD h.C;clear hA hs hg Vj h
 go_enter Tryz.func110,Tryz.ntmps110
 go_upto_region 1 with fail
 clear k3 hv
 go_upto_region 2 with(at_mapUpdate;refine zFY _ rfl (.tmp 17) (.tmp 18) (.tmp 19) 66 rfl 3 ztm Uy v.mC g (.int .i64 c) v.pC rfl rfl rfl HC.o ?_;intro w2 o2 fX zaw;have Rf:=aD fX;have Ro:=aD zaw;clear fX zaw)
 have nM:=Ro.o;rw[Rf.o] at nM;obtain⟨a2,t2⟩:=HH.o.mapC nM;rw[<-Rf.o] at a2 t2;obtain⟨v2,xG⟩:=aU ({v with pC:=uI g (.int .i64 c) v.pC}:fL);rw[<-xG] at a2 t2;have e2:v2.pC=uI g (.int .i64 c) v.pC/\v2.pO=v.pO/\v2.pM=v.pM/\B8 v v2:=by rw[xG];exact⟨rfl,rfl,rfl,B8.rf v⟩
 have zgh:=eG dQ t2.size;clear xG nM Ro Rf HC k4;have k5:=aJ a2.blk 5;have HO:=aD a2.O;have A2:=aD a2;have T2:=aD t2;have E2:=aD e2;clear a2 t2 e2
 go_upto_region 3 with(at_mapUpdate;refine zGp _ rfl (.tmp 23) (.tmp 24) (.tmp 25) 67 rfl 84 Rg Ko v2.mO c (.chan (some g)) v2.pO rfl rfl rfl HO.o ?_;intro w3 o3 iU zvb;have U5:=aD iU;have zvl:=aD zvb;clear iU zvb)
 have zjv:=zvl.o;rw[U5.o] at zjv;obtain⟨a3,t3⟩:=A2.o.mapO zjv;rw[<-U5.o] at a3 t3;obtain⟨v3,Lc⟩:=aU ({v2 with pO:=qK c (.chan (some g)) v2.pO}:fL);rw[<-Lc] at a3 t3;have e3:v3.pC=uI g (.int .i64 c) v.pC/\v3.pO=qK c (.chan (some g)) v.pO/\v3.pM=v.pM/\B8 v v3:=by rw[Lc];exact⟨E2.o.1,by show qK _ _ v2.pO=_;rw[E2.o.2.1],E2.o.2.2⟩
 have zvu:=eG zgh t3.size;have zxf:=T2.o.trans t3;clear Lc zjv zvl U5 HO k5 A2 T2 E2 t3;obtain⟨AR,cR,zty,_⟩:=Ge a3.R aH;have zve:=aJ a3.blk 9;have k9:w3.cell? ⟨hb,9,none⟩=some (.slice AR d.r.recs.length cR):=by rw[zve,<-zty];rfl
 have zqh:=aJ a3.blk 10;obtain⟨es,cl,Jx,rM⟩:=zwj zqL Ko a3.drew.M (c:=c) (.int .i64 (d.r.recs.length:Int));obtain⟨a4,t4⟩:=a3.drew.mapM rM;have A4:=aD a4;have T4:=aD (zxf.trans ((bM.refl (v:=v3) (w:=w3)).trans (⟨t4.size,t4.block,t4.moved⟩:bM hb v3 w3 _ _)));have MU:=aD Jx;have E3:=aD e3;clear zty zve rM a3 a4 t4 Jx zxf e3;refine wp_CC3 w3 hb v3.mM d.r.recs.length v3.sR AR cR (.map es cl) c rfl rfl rfl zqh k9 MU.o rfl ?_;rw[Go.Mt.An,zw4];simp only[Go.Mt.xL,dV,dW,fCC3,lCC3,Ds,C7];obtain⟨w4,lN⟩:=aU ({w3.drew with heap:=w3.drew.heap.setIfInBounds v3.mM (.map es cl)}:aE);rw[<-lN] at A4 T4⊢;have zKq:=eG dQ T4.o.size;clear lN MU k9 zqh;obtain⟨v4,Ka⟩:=aU ({v3 with pM:=qK c (.int .i64 (d.r.recs.length:Int)) v3.pM}:fL);rw[<-Ka] at A4 T4;have E4:=aD (show v4.pC=uI g (.int .i64 c) v.pC/\v4.pO=qK c (.chan (some g)) v.pO/\v4.pM=qK c (.int .i64 (d.r.recs.length:Int)) v.pM/\B8 v v4 by rw[Ka];exact⟨E3.o.1,E3.o.2.1,by show qK _ _ v3.pM=_;rw[E3.o.2.2.1],E3.o.2.2.2⟩);clear Ka E3;obtain⟨OB,za6⟩:=aU (.cells #[.int .i64 c,.int .i64 ((i:Int)+1),.int .i64 0,.int .i64 d.r.clk,.int .i64 (-1),.int .i64 (-1),.string eM] 50:Obj);have a5:=(A4.o.alloc OB).drew;obtain⟨g1,c1,w5,fN,cV,nD,eY⟩:=M9 (t:=45) (ty:=45) zFD Tryz.underlying45 rfl aH a5.R (g:=w4.heap.size) (cs:=#[.int .i64 c,.int .i64 ((i:Int)+1),.int .i64 0,.int .i64 d.r.clk,.int .i64 (-1),.int .i64 (-1),.string eM]) (news:=bT.cells ⟨c,(i:Int)+1,0,d.r.clk,-1,-1,eM⟩) (by rw[za6];exact lQ _ _) rfl (m:=1) rfl aH znw aC aH r9;obtain⟨a6,t6⟩:=a5.putR nD (n:=d.r.recs.length+1) (xs:=d.r.recs++[⟨c,(i:Int)+1,0,d.r.clk,-1,-1,eM⟩]) (by rw[zC9];exact cV) aQ eY;have A6:=aD a6;have T6:=aD (T4.o.trans ((bM.below (dS (eF _ _) OB)).trans (⟨t6.size,t6.block,t6.moved⟩:bM hb v4 (w4.alloc OB) _ _)));have k9:=aJ A4.o.blk 9;have Ef:=aJ A4.o.blk 11;have x4:=(a5.other (j:=7) (c:=9) (x:=v4.sR) rfl aH nD (.slice (some ⟨g1,0,none⟩) (d.r.recs.length+1) c1)).2.trans a5.blk;have zuY:=aJ x4 9;have kf:=eJ x4 9;have AP:=aD fN;clear cV nD eY a6 t6 a5 x4 fN;rw[za6] at AP
 go_wp2_with fail
 refine wp_CC4 w4 w5 hb g1 (d.r.recs.length+1) c1 v4.sR c (i:Int) d.r.clk rfl rfl rfl rfl k9 Ef aC AP.o zuY kf rfl ?_;rw[Go.Mt.An,zuC];simp only[Go.Mt.xL,dV,dW,fCC4,lCC4,Ds,C7];clear k9 Ef AP zuY kf;exact bodyPost_end (v:=.tuple #[]) (by simp[results,go_sem]<;>rfl) rfl ⟨rfl,_,A6.o,T6.o,E4.o⟩
variable {j:Nat}
theorem bE.recAt (h:bE w lo hb v d)(hR:v.sR=.slice (some ⟨g,0,none⟩) d.r.recs.length cR)(hx:d.r.recs[i]? =some x){u:aF}(hj:j<7)(hu:x.cells[j]? =some u):
 w.cell? ⟨g,i*7+j,none⟩=some u/\w.frozen? ⟨g,i*7+j,none⟩=false:=by
 have hr:=h.R;rw[hR] at hr;refine⟨?_,hr.frozenAt _⟩;have hi:=(kE.1 hx).1;obtain⟨b,off,e,h1,h2,h3,h4⟩:=(Ak hr aH).cells hi;injection e with e;injection e with e1 e2;subst e1 e2;have:=h4 j u (by
  have g:(recs d.r.recs)[i*7+j]? =(d.r.recs[i]?).bind λx=>x.cells[j]? :=Hm bT.cells (s:=7) (λ_=>rfl) d.r.recs i j hj;rw[g,hx];exact hu)
 simpa using this
theorem zki (h:bE w lo hb v d){e:ByteArray}{gR:Nat}(hx:d.r.recs[i]? =some x)(hO:kW c v.pO=some (.chan (some g)))(hC:(pN g v.pC).isSome=true)(hM:kW c v.pM=some (.int .i64 (i:Int)))
 (hR:v.sR=.slice (some ⟨gR,0,none⟩) d.r.recs.length cR):
 fH aK 116 #[.pointer (some ⟨hb,0,none⟩),.int .i64 c,.string e] w λen w'=>en=.returned (.tuple #[])/\∃v',bE w' lo hb v' {d with r:={d.r with recs:=d.r.recs.modify i λz=>{z with t:=d.r.clk,e:=e}}}/\bM hb v w v' w'/\
  v'.pC=yH g v.pC/\v'.pO=xY c v.pO/\v'.pM=v.pM/\v'.sR=v.sR/\B8 v v':=by
 have k4:w.cell? ⟨hb,4,none⟩=some (.map (some v.mC)):=aJ h.blk 4;have k5:w.cell? ⟨hb,5,none⟩=some (.map (some v.mO)):=aJ h.blk 5;have xE:(zM 67 (.map (some v.mO)) (.int .i64 c) false).run aK w.drew=.ok (.chan (some g)) w.drew:=by
  have:=zcn Rg Ko (zbu w.drew) (h.drew.O) (c:=c) false;rw[hO] at this;exact this
 obtain⟨o1,uR,rM⟩:=zIY (kt:=84) ztm Uy h.drew.C hC;obtain⟨a1,t1⟩:=h.drew.mapC rM;have A1:=aD a1;have T1:=aD (⟨t1.size,t1.block,t1.moved⟩:bM hb v w _ _);have HX:=aD hx;have HM:=aD hM;have HR:=aD hR;have HO:=aD hO;have DL:=aD uR;have LK:=aD xE;clear uR xE rM a1 t1 hx hM hR hO h hC
 go_enter Tryz.func116,Tryz.ntmps116
 go_wp2_with fail
 refine wp_CL0 w hb v.mC v.mO g o1 c rfl rfl rfl k4 k5 LK.o DL.o rfl ?_;rw[Go.Mt.An,zxg];simp only[Go.Mt.xL,dV,dW,fCL0,lCL0,Ds,C7];obtain⟨w1,fB⟩:=aU ({w.drew with heap:=w.drew.heap.setIfInBounds v.mC o1}:aE);obtain⟨v1,pP⟩:=aU ({v with pC:=yH g v.pC}:fL);rw[<-fB,<-pP] at A1 T1;rw[<-fB];have E1:=aD (show v1.pC=yH g v.pC/\v1.pO=v.pO/\v1.pM=v.pM/\v1.sR=v.sR/\B8 v v1 by rw[pP];exact⟨rfl,rfl,rfl,rfl,B8.rf v⟩);clear fB pP k4 k5 DL LK;have k5:w1.cell? ⟨hb,5,none⟩=some (.map (some v1.mO)):=aJ A1.o.blk 5;have Wx:=aD A1.o.O;have zqn:=aD (show(kW c v1.pO).isSome=true by rw[E1.o.2.1,HO.o];rfl)
 go_upto_region 2 with(refine zzv _ rfl (.tmp 20) (.tmp 21) 67 3 rfl 84 Rg Ko v1.mO c v1.pO rfl rfl Wx.o zqn.o ?_;intro w2 o2 fX zaw;have Rf:=aD fX;have Ro:=aD zaw;clear fX zaw)
 have nM:=Ro.o;rw[Rf.o] at nM;obtain⟨a2,t2⟩:=A1.o.mapO nM;rw[<-Rf.o] at a2 t2;obtain⟨v2,xG⟩:=aU ({v1 with pO:=xY c v1.pO}:fL);rw[<-xG] at a2 t2;have A2:=aD a2;have T2:=aD (T1.o.trans t2);have E2:=aD (show v2.pC=yH g v.pC/\v2.pO=xY c v.pO/\v2.pM=v.pM/\v2.sR=v.sR/\B8 v v2 by rw[xG];exact⟨E1.o.1,by show xY c v1.pO=_;rw[E1.o.2.1],E1.o.2.2⟩);clear xG nM Ro Rf Wx zqn a2 t2 k5 A1 T1 E1;have lE:=aD (E2.o.2.2.2.1.trans HR.o);have zFu:=aD (show kW c v2.pM=some (.int .i64 (i:Int)) by rw[E2.o.2.2.1];exact HM.o)
 go_upto_region 3 with(go_at_call 115;refine(zd7 A2.o lE.o HX.o zFu.o).mono ?_;rintro en w3 ⟨rfl,iU⟩;have U5:=aD iU;clear iU)
 have A3:=aD (show bE w3 lo hb v2 d by rw[U5.o];exact A2.o.drew);have T3:=aD (show bM hb v w v2 w3 by rw[U5.o];exact T2.o.same rfl);clear U5 A2 T2;have Ef:w3.cell? ⟨hb,11,none⟩=some (.int .i64 d.r.clk):=aJ A3.o.blk 11;obtain⟨c5,f5⟩:=A3.o.recAt lE.o HX.o (j:=5) (u:=.int .i64 x.t) aH rfl;obtain⟨a4,t4⟩:=A3.o.setR (λz=>{z with t:=d.r.clk}) lE.o HX.o (j:=5) (u:=.int .i64 d.r.clk) aH zsq rfl;have A4:=aD a4;have T4:=aD (T3.o.trans t4);clear a4 t4
 go_upto_region 4 with fail
 obtain⟨w4,lN⟩:=aU (w3.setCell ⟨gR,i*7+5,none⟩ (.int .i64 d.r.clk));rw[<-lN] at A4 T4⊢;clear lN c5 f5 Ef;have zaU:=aD (show(d.r.recs.modify i λz=>{z with t:=d.r.clk})[i]? =some {x with t:=d.r.clk} from zcD HX.o);have zqc:=aD (show v2.sR=.slice (some ⟨gR,0,none⟩) (d.r.recs.modify i λz=>{z with t:=d.r.clk}).length cR by rw[Hk];exact lE.o);obtain⟨c6,f6⟩:=A4.o.recAt zqc.o zaU.o (j:=6) (u:=.string x.e) aH rfl;obtain⟨a5,t5⟩:=A4.o.setR (λz=>{z with e:=e}) zqc.o zaU.o (j:=6) (u:=.string e) aH zt7 rfl;simp only[zel] at a5;have A5:=aD a5;have T5:=aD (T4.o.trans t5);clear a5 t5
 go_wp2_with fail
 exact bodyPost_end (v:=.tuple #[]) (results_none rfl _ _ _) rfl ⟨rfl,_,A5.o,T5.o,E2.o.1,E2.o.2.1,E2.o.2.2.1,E2.o.2.2.2.1,E2.o.2.2.2.2⟩
section
variable {P:bS}{w w':aE}
variable {elem t:aM}{i:TypeInfo}{cur:Array aF}
theorem zeY {dT sT ty:aM}{g o zmJ zD1:Nat}{a:bL}{Zy zET:Nat}{cs:List aF}(hu:P.underlying dT=some (.slice elem))(hi:P.info? elem=some i)
 (hg:w.heap[g]? =some (.cells cur t (0,0))) (hn:cs.length=Nat.min Zy zmJ*i.size) (Uv:∀j v,cs[j]? =some v->w.cell? (a.add j)=some v) (H9:o+cs.length<=cur.size) (h1:∀v∈cs,v.oneCell'=true):
 (C4 #[dT,sT] ty #[.slice (some ⟨g,o,none⟩) zmJ zD1,.slice (some a) Zy zET]).run P w=.ok (goInt (Nat.min Zy zmJ)) (w.setRow g (cur.toList.take o++cs++cur.toList.drop (o+cs.length)).toArray):=by
 have hl:=run_loadCells_list (P:=P) w a cs Uv;have aY:=zu1 P g o t cs 0 cur w hg (by simpa using H9) h1;simp[C4,wP hu,Builtin.lenOf,Builtin.firstCells,sizeOf,typeInfo,hi,<-hn,hl,aY]
theorem zlK {dT ty:aM}{z:aF}{g o n c:Nat}(hu:P.underlying dT=some (.slice elem))(hi:P.info? elem=some i)(hz:i.zero=some z)
 (hg:w.heap[g]? =some (.cells cur t (0,0))) (hn:n≠0) (H9:o+(pZ z.cells n).size<=cur.size) (h1:∀v∈(pZ z.cells n).toList,v.oneCell'=true):
 (Ru #[dT] ty #[.slice (some ⟨g,o,none⟩) n c]).run P w=.ok (.tuple #[]) (w.setRow g (cur.toList.take o++(pZ z.cells n).toList++cur.toList.drop (o+(pZ z.cells n).size)).toArray):=by
 have aY:=zu1 P g o t (pZ z.cells n).toList 0 cur w hg (by simpa using H9) h1;simp only[Ul,Dm] at aY
 cases n with
 |zero=>exact absurd rfl hn
 |succ n=>simp[Ru,wP hu,zeroValue,typeInfo,hi,hz,aY]
variable {o:aZ}{a:Act}{ops:Array aZ}
theorem zeK {K:Act->aE->Prop}{Q:nZ->Act->aE->Prop}{EE:Prop}(Fl:o.guard=none)(s x:cN)(t tn:aM)(ho:o.op=.call {callee:=.builtin .append,args:=#[s,x],argTypes:=#[t,tn]})(vs vx v':aF)(hs:a.eval s=vs)(hx:a.eval x=vx)
 (hr:∀ty,(xF #[t,tn] ty #[vs,vx]).run P w=.ok v' w') (h:K (a.put o.dst v') w'):if dD o (yielded ops a.tmps)=true then By P o a w K Q else EE:=by
 rw[if_pos (by simp[dD,Fl])];unfold By aS;simp only[ho,resolve,invoke,builtin,E6,Ht,D7,uS,fK,tL,hs,hx,hr];exact h
theorem zdd {rest:List aZ}{Q:nZ->Act->aE->Prop}(Fl:o.guard=none)(s:cN)(t:aM)(ho:o.op=.call {callee:=.builtin .clear,args:=#[s],argTypes:=#[t]})(vs:aF)(hs:a.eval s=vs)
 (hr:∀ty,(Ru #[t] ty #[vs]).run P w=.ok (.tuple #[]) w') (h:wpList P ops Q rest (a.put o.dst (.tuple #[])) w'):wpList P ops Q (o::rest) a w:=by
 refine Rh Fl λK hK=>?_;unfold By aS;simp only[ho,resolve,invoke,builtin,E6,Ht,D7,uS,fK,tL,hs,hr];exact hK _ _ h
end
def zaQ:(aK.info? 3).map (λi=>(i.zero,i.size,i.bytes))=some (some (.int .i64 0),1,8):=aP
def zaA:(aK.info? 149).map (λi=>(i.zero,i.size,i.bytes))=some (some (.agg #[.int .i64 0,.int .i64 0]),2,16):=aP
theorem zbF (cs:Array aF):w.grownBy (w.setRow g cs) (some g):=⟨rfl,rfl,rfl,aQ,λk _ hk=>setRow_other w g k _ (λe=>hk (by rw[e]))⟩
variable {w':aE}{r:Option Nat}
def Sy {D6:aE}(h:w.grownBy w' r)(k:w'.grownBy D6 r):w.grownBy D6 r:=⟨k.os.trans h.os,k.tape.trans h.tape,k.output.trans h.output,eG h.size k.size,λb hb hn=>(k.block b (lC hb h.size) hn).trans (h.block b hb hn)⟩
def zxa :w.grownBy w.drew r:=⟨rfl,rfl,rfl,aX _,λ_ _ _=>rfl⟩
variable {c n:Nat}
theorem zwC (h:w.ownsRow lo 3 1 (.slice (some ⟨g,0,none⟩) n c) n xs)(Ji:∀u∈xs,u.oneCell'=true)(aN:i<j)(hj:j<=n):
 fH aK 114 #[.slice (some ⟨g,0,none⟩) n c,.int .i64 (i:Int),.int .i64 (j:Int)] w λe w'=>e=.returned (.slice (some ⟨g,0,none⟩) (n-(j-i)) c)/\w'.ownsRow lo 3 1 (.slice (some ⟨g,0,none⟩) (n-(j-i)) c) (n-(j-i)) (xs.take i++xs.drop j)/\w.grownBy w' (some g):=by
 obtain⟨hlen,h|⟨g',cap,cur,hv,dQ,hg,Yz,rM,fW,lM⟩⟩:=h
 .exact absurd h.1 aQ
 injection hv with e1 e2 e3;injection e1 with e1;injection e1 with e1;subst e1 e3;clear e2;obtain⟨i0,fR,jN,eL,lH⟩:=zI zaQ;have mL:cur.toList.length=c*1:=by simpa using fW
 have uR:(xs.drop (j*1)).length=(n-j)*1:=by rw[xO,hlen];omega
 obtain⟨A,hA,Uv⟩:∃A:bL,(if c=j then(some (⟨g,0,none⟩:bL)) else some ⟨g,j*1,none⟩)=some A/\(∀t u,(xs.drop (j*1))[t]? =some u->w.drew.cell? (A.add t)=some u):=by
  have cell:∀k u,xs[k]? =some u->w.drew.cell? ⟨g,k,none⟩=some u:=λk u hk=>by
   have:w.cell? ⟨g,k,none⟩=cur[k]? :=aJ hg k;have vA:cur.toList[k]? =some u:=by
    rw[<-lM,Wo] at hk;split at hk
    .exact hk
    .cases hk
   rw[Ap] at vA;exact this.trans vA
  by_cases hc:c=j
  .refine⟨⟨g,0,none⟩,by simp[hc],λt u hu=>?_⟩
   have h0:(xs.drop (j*1)).length=0:=by rw[uR];omega
   rw[zoU.1 h0] at hu;simp at hu
  .refine⟨⟨g,j*1,none⟩,by simp[hc],λt u hu=>?_⟩
   rw[Y5] at hu;rw[Md];exact cell _ u hu
 have Kw:=λty=>ztO (P:=aK) w.drew 38 ty 3 i0 X8 fR g i c cur hg A (n-j) (c-j) (xs.drop (j*1)) (by rw[eL];exact uR) Uv (λu hu=>Ji u (zcr hu)) aC (by rw[eL,uR,fW];omega);obtain⟨xR,qN⟩:=aU ((cur.toList.take (i*i0.size)++xs.drop (j*1)++cur.toList.drop (i*i0.size+(xs.drop (j*1)).length)).toArray);rw[<-qN] at Kw;obtain⟨W1,dG⟩:=aU (w.drew.setRow g xR);rw[<-dG] at Kw;have qV:W1.heap[g]? =some (.cells xR 3 (0,0)):=by rw[dG];exact Lg w.drew g cur xR 3 (0,0) hg
 have vY:xR.size=c*1:=by
  rw[qN];simp only[Ek,gM,rV,xO,mL,uR,hlen,eL];have:(i+(n-j))*1<=c*1:=Am _ aC;omega
 have hzs:(pZ (.int .i64 0:aF).cells (n-(i+(n-j)))).size=(n-(i+(n-j)))*1:=Xl _ _;have O7:=λty=>zlK (P:=aK) (w:=W1) (dT:=38) (ty:=ty) (c:=c-(i+(n-j))) (n:=n-(i+(n-j))) (o:=(i+(n-j))*1) X8 fR jN qV aC (by rw[hzs,vY];omega) (λu hu=>by
  obtain⟨k,hk,rfl⟩:=Kj.1 hu;simp only[pZ,Uf,zmq,znT,znb];simp[Nat.mod_one];rfl)
 obtain⟨yR,nM⟩:=aU ((xR.toList.take ((i+(n-j))*1)++(pZ (.int .i64 0:aF).cells (n-(i+(n-j)))).toList++xR.toList.drop ((i+(n-j))*1+(pZ (.int .i64 0:aF).cells (n-(i+(n-j)))).size)).toArray);rw[<-nM] at O7
 try simp only[zu8] at Kw O7
 have H1:=aD Kw;have H2:=aD O7;have HG:=aD (show w.grownBy (W1.setRow g yR) (some g) from Sy (Sy zxa (dG▸zbF xR)) (zbF yR));have HO:=aD (show(W1.setRow g yR).ownsRow lo 3 1 (.slice (some ⟨g,0,none⟩) (n-(j-i)) c) (n-(j-i)) (xs.take (i*1)++xs.drop (j*1)) by
  have Cm:n-(j-i)=i+(n-j):=aC;have Ax:yR.size=c*1:=by
   rw[nM];simp only[Ek,gM,rV,xO,Dm,vY,hzs];have:(i+(n-j))*1+(n-(i+(n-j)))*1=n*1:=by rw[<-Xr];congr 1;omega
   have:n*1<=c*1:=Am _ Yz;omega
  refine⟨by rw[gM,rV,uR,hlen];have:=Xr i (n-j) 1;have:i*1<=n*1:=Am _ aC;rw[Cm];omega,.inr ⟨g,c,yR,rfl,dQ,Lg W1 g xR yR 3 (0,0) qV,aC,rM,Ax,?_⟩⟩;have e1:cur.toList.take (i*1)=xs.take (i*1):=by
   rw[<-lM,Pf];congr 1;have:i*1<=n*1:=Am _ aC;omega
  have l1:(xs.take (i*1)).length=i*1:=by
   rw[rV,hlen];have:i*1<=n*1:=Am _ aC;omega
  rw[nM,show∀l:List aF,l.toArray.toList=l from λ_=>rfl,Cm];have l2:(xR.toList.take ((i+(n-j))*1)).length=(i+(n-j))*1:=by
   rw[rV,Dm,vY];have:(i+(n-j))*1<=c*1:=Am _ aC;omega
  rw[Jc,El (by rw[l2];exact aX _),Pf,zmu,qN,show∀l:List aF,l.toArray.toList=l from λ_=>rfl,eL,e1];rw[El zvr];exact zP zvr)
 replace HO:=aD (by have:=HO.o;simpa only[zu8] using this);have yU:i<=c:=aC;have Nl:j<=c:=aC;have aT:¬((i:Int)=(j:Int)):=aC;clear Kw O7 qN nM qV vY hzs dG lM fW rM hg dQ hlen uR mL Ji Uv;by_cases Ss:c=j
 .subst Ss
  have pL:n-c=0:=aC;have zC:=H1.o;have Pq:=H2.o;simp only[pL,Ul] at zC Pq;replace H1:=aD zC;replace H2:=aD Pq;clear zC Pq
  go_enter zxL,zt5
  go_wp2_with fail
  go_region_law (refine zeK rfl (.tmp 22) (.tmp 25) 38 38 rfl _ _ _ zdu zdh H1.o ?_)
  go_wp2_with (refine zdd rfl (.tmp 31) 38 rfl _ rfl H2.o ?_)
  all_goals
   go_ret;exact⟨by rw[show n-(c-i)=i by omega];rfl,HO.o,HG.o⟩
 .skip
  go_enter zxL,zt5
  go_wp2_with fail
  go_region_law (refine zeK rfl (.tmp 22) (.tmp 25) 38 38 rfl _ _ _ zdu zdh H1.o ?_)
  go_wp2_with (refine zdd rfl (.tmp 31) 38 rfl _ rfl H2.o ?_)
  all_goals
   go_ret;exact⟨by rw[show n-(j-i)=i+(n-j) by omega];rfl,HO.o,HG.o⟩
theorem zAS (h:w.ownsRow lo 149 2 (.slice (some ⟨g,0,none⟩) n c) n xs)(Ji:∀u∈xs,u.oneCell'=true)(aN:i<j)(hj:j<=n):
 fH aK 119 #[.slice (some ⟨g,0,none⟩) n c,.int .i64 (i:Int),.int .i64 (j:Int)] w λe w'=>e=.returned (.slice (some ⟨g,0,none⟩) (n-(j-i)) c)/\w'.ownsRow lo 149 2 (.slice (some ⟨g,0,none⟩) (n-(j-i)) c) (n-(j-i)) (xs.take (i*2)++xs.drop (j*2))/\w.grownBy w' (some g):=by
 obtain⟨hlen,h|⟨g',cap,cur,hv,dQ,hg,Yz,rM,fW,lM⟩⟩:=h
 .exact absurd h.1 aQ
 injection hv with e1 e2 e3;injection e1 with e1;injection e1 with e1;subst e1 e3;clear e2;obtain⟨i0,fR,jN,eL,lH⟩:=zI zaA;have mL:cur.toList.length=c*2:=by simpa using fW
 have uR:(xs.drop (j*2)).length=(n-j)*2:=by rw[xO,hlen];omega
 obtain⟨A,hA,Uv⟩:∃A:bL,(if c=j then(some (⟨g,0,none⟩:bL)) else some ⟨g,j*2,none⟩)=some A/\(∀t u,(xs.drop (j*2))[t]? =some u->w.drew.cell? (A.add t)=some u):=by
  have cell:∀k u,xs[k]? =some u->w.drew.cell? ⟨g,k,none⟩=some u:=λk u hk=>by
   have:w.cell? ⟨g,k,none⟩=cur[k]? :=aJ hg k;have vA:cur.toList[k]? =some u:=by
    rw[<-lM,Wo] at hk;split at hk
    .exact hk
    .cases hk
   rw[Ap] at vA;exact this.trans vA
  by_cases hc:c=j
  .refine⟨⟨g,0,none⟩,by simp[hc],λt u hu=>?_⟩
   have h0:(xs.drop (j*2)).length=0:=by rw[uR];omega
   rw[zoU.1 h0] at hu;simp at hu
  .refine⟨⟨g,j*2,none⟩,by simp[hc],λt u hu=>?_⟩
   rw[Y5] at hu;rw[Md];exact cell _ u hu
 have Kw:=λty=>ztO (P:=aK) w.drew 69 ty 149 i0 ziQ fR g i c cur hg A (n-j) (c-j) (xs.drop (j*2)) (by rw[eL];exact uR) Uv (λu hu=>Ji u (zcr hu)) aC (by rw[eL,uR,fW];omega);obtain⟨xR,qN⟩:=aU ((cur.toList.take (i*i0.size)++xs.drop (j*2)++cur.toList.drop (i*i0.size+(xs.drop (j*2)).length)).toArray);rw[<-qN] at Kw;obtain⟨W1,dG⟩:=aU (w.drew.setRow g xR);rw[<-dG] at Kw;have qV:W1.heap[g]? =some (.cells xR 149 (0,0)):=by rw[dG];exact Lg w.drew g cur xR 149 (0,0) hg
 have vY:xR.size=c*2:=by
  rw[qN];simp only[Ek,gM,rV,xO,mL,uR,hlen,eL];have:(i+(n-j))*2<=c*2:=Am _ aC;omega
 have hzs:(pZ (.agg #[.int .i64 0,.int .i64 0]:aF).cells (n-(i+(n-j)))).size=(n-(i+(n-j)))*2:=Xl _ _;have O7:=λty=>zlK (P:=aK) (w:=W1) (dT:=69) (ty:=ty) (c:=c-(i+(n-j))) (n:=n-(i+(n-j))) (o:=(i+(n-j))*2) ziQ fR jN qV aC (by rw[hzs,vY];omega) (λu hu=>by
  obtain⟨k,hk,rfl⟩:=Kj.1 hu;simp only[pZ,Uf,zmq,znT,znb];rcases zth k with hk|hk<;>simp[hk]<;>rfl)
 obtain⟨yR,nM⟩:=aU ((xR.toList.take ((i+(n-j))*2)++(pZ (.agg #[.int .i64 0,.int .i64 0]:aF).cells (n-(i+(n-j)))).toList++xR.toList.drop ((i+(n-j))*2+(pZ (.agg #[.int .i64 0,.int .i64 0]:aF).cells (n-(i+(n-j)))).size)).toArray);rw[<-nM] at O7;have H1:=aD Kw;have H2:=aD O7;have HG:=aD (show w.grownBy (W1.setRow g yR) (some g) from Sy (Sy zxa (dG▸zbF xR)) (zbF yR));have HO:=aD (show(W1.setRow g yR).ownsRow lo 149 2 (.slice (some ⟨g,0,none⟩) (n-(j-i)) c) (n-(j-i)) (xs.take (i*2)++xs.drop (j*2)) by
  have Cm:n-(j-i)=i+(n-j):=aC;have Ax:yR.size=c*2:=by
   rw[nM];simp only[Ek,gM,rV,xO,Dm,vY,hzs];have:(i+(n-j))*2+(n-(i+(n-j)))*2=n*2:=by rw[<-Xr];congr 1;omega
   have:n*2<=c*2:=Am _ Yz;omega
  refine⟨by rw[gM,rV,uR,hlen];have:=Xr i (n-j) 2;have:i*2<=n*2:=Am _ aC;rw[Cm];omega,.inr ⟨g,c,yR,rfl,dQ,Lg W1 g xR yR 149 (0,0) qV,aC,rM,Ax,?_⟩⟩;have e1:cur.toList.take (i*2)=xs.take (i*2):=by
   rw[<-lM,Pf];congr 1;have:i*2<=n*2:=Am _ aC;omega
  have l1:(xs.take (i*2)).length=i*2:=by
   rw[rV,hlen];have:i*2<=n*2:=Am _ aC;omega
  rw[nM,show∀l:List aF,l.toArray.toList=l from λ_=>rfl,Cm];have l2:(xR.toList.take ((i+(n-j))*2)).length=(i+(n-j))*2:=by
   rw[rV,Dm,vY];have:(i+(n-j))*2<=c*2:=Am _ aC;omega
  rw[Jc,El (by rw[l2];exact aX _),Pf,zmu,qN,show∀l:List aF,l.toArray.toList=l from λ_=>rfl,eL,e1];rw[El zrj];exact zP zrj)
 have yU:i<=c:=aC;have Nl:j<=c:=aC;have aT:¬((i:Int)=(j:Int)):=aC;clear Kw O7 qN nM qV vY hzs dG lM fW rM hg dQ hlen uR mL Ji Uv;by_cases Ss:c=j
 .subst Ss
  have pL:n-c=0:=aC;have zC:=H1.o;have Pq:=H2.o;simp only[pL,Ul] at zC Pq;replace H1:=aD zC;replace H2:=aD Pq;clear zC Pq
  go_enter ztQ,zq1
  go_wp2_with fail
  go_region_law (refine zeK rfl (.tmp 22) (.tmp 25) 69 69 rfl _ _ _ zdu zdh H1.o ?_)
  go_wp2_with (refine zdd rfl (.tmp 31) 69 rfl _ rfl H2.o ?_)
  all_goals
   go_ret;exact⟨by rw[show n-(c-i)=i by omega];rfl,HO.o,HG.o⟩
 .skip
  go_enter ztQ,zq1
  go_wp2_with fail
  go_region_law (refine zeK rfl (.tmp 22) (.tmp 25) 69 69 rfl _ _ _ zdu zdh H1.o ?_)
  go_wp2_with (refine zdd rfl (.tmp 31) 69 rfl _ rfl H2.o ?_)
  all_goals
   go_ret;exact⟨by rw[show n-(j-i)=i+(n-j) by omega];rfl,HO.o,HG.o⟩
theorem zsR (lo hi n c:Nat)(A:Option bL)(xs:List Int)(q:Int)(w:aE)(h:bX w lo hi 1 A n c (jX xs))(hn:n<=1048576):
 fH aK 113 #[.slice A n c,.int .i64 q] w λe w'=>e=.returned (.int .i64 (F0 (xs.findIdx? (·==q))))/\w'=w:=by
 have hl:=aD h.length
 go_enter Tryz.func113,Tryz.ntmps113
 go_wp2
 go_loop [8] (λi=>∃k:Nat,k<=n/\i=.int .i64 k/\∀j,j<k->∀b,xs[j]? =some b->(b==q)=false) (λi=>n-(intOf i).toNat)
 case atStart=>exact⟨0,jY _,rfl,λj hj=>absurd hj aC⟩
 case round=>
  obtain⟨k,hk,rfl,fW⟩:=hrel;have HC:=aD fW;by_cases aN:k<n
  .obtain⟨b,off,x,hA,_,_,_,eK,hv⟩:=h.cellAt aN
   subst hA;have HX:=aD eK;have i0:(0:Int)<=(k:Int):=aC;have i1:(k:Int)<(n:Int):=aC;by_cases hq:q=x
   .subst hq
    go_wp2;go_ret;exact⟨Bu (by rw[Z4 HX.o aQ HC.o];rfl),rfl⟩
   .have Ol:(q==x)=false:=by simpa using hq
    go_wp2
    go_round
    case rel=>exact⟨k+1,aC,n6,U2 HC.o HX.o (by simpa using Ne.symm hq)⟩
    case measure=>simp[intOf];omega
  .have e:k=n:=aC
   subst e;go_wp2;go_ret;exact⟨Bu (by rw[zmh HC.o zeX];rfl),rfl⟩
theorem posI_ge (o:Option Nat):decide (0<=F0 o)=o.isSome:=by
 cases o with
 |none=>rfl
 |some i=>simp[F0]
theorem zDL (lo hi n c:Nat)(A:Option bL)(xs:List Int)(q:Int)(w:aE)(h:bX w lo hi 1 A n c (jX xs))(hn:n<=1048576):
 fH aK 108 #[.slice A n c,.int .i64 q] w λe w'=>e=.returned (.bool (xs.findIdx? (·==q)).isSome)/\w'=w:=by
 have HS:=aD h;clear h
 go_enter Tryz.func108,Tryz.ntmps108
 go_wp2_with (go_at_call 113;refine(zsR lo hi n c A xs q w HS.o hn).mono ?_;rintro e w' ⟨rfl,hw⟩;obtain rfl:=hw)
 go_ret;exact⟨E5 (posI_ge _),rfl⟩
theorem zdC (x:bJ)(gx:Nat)(c:Int)(w:aE)(h:w.heap[gx]? =some (.cells #[.int .i64 c] 3)):
 fH aK 118 #[.agg #[.int .i64 x.c,.int .i64 x.p],.pointer (some ⟨gx,0,none⟩)] w λe w'=>e=.returned (.bool (x.c==c))/\bR w.heap.size w w':=by
 have aN:=fY h;have k:=aD (dJ h (.cells #[.int .i64 x.c,.int .i64 x.p] 149));have k0:=aJ k.o 0
 go_enter Tryz.func118,Tryz.ntmps118
 go_wp2;go_ret;exact⟨rfl,(eF _ _).alloc (aX _) _⟩
variable {xs:List bJ}{hi:Nat}{A:Option bL}
theorem zdm (h:bX w lo hi 2 A n c (bF xs)){k:Nat}(hk:k<n):∃b off x,A=some ⟨b,off,none⟩/\b<w.heap.size/\xs[k]? =some x/\w.cell? ⟨b,off+k*2,none⟩=some (.int .i64 x.c)/\w.cell? ⟨b,off+k*2+1,none⟩=some (.int .i64 x.p):=by
 obtain⟨b,off,x,e,_,_,h3,h4,h5,h6⟩:=h.callsAt hk;exact⟨b,off,x,e,h3,h4,h5,h6⟩
theorem zyu (lo hi n c:Nat)(A:Option bL)(xs:List bJ)(gx:Nat)(q:Int)(w:aE)(h:bX w lo hi 2 A n c (bF xs))(hn:n<=1048576)(hg:w.heap[gx]? =some (.cells #[.int .i64 q] 3)):
 fH aK 124 #[.slice A n c,.func (.func 118) #[] #[.pointer (some ⟨gx,0,none⟩)]] w λe w'=>e=.returned (.int .i64 (F0 (vD xs q)))/\bR w.heap.size w w':=by
 have hl:=aD h.callsLen;have HS:=aD h;have HG:=aD hg
 go_enter Tryz.func124,Tryz.ntmps124
 go_wp2
 go_loopw [8] (λi wr=>∃k:Nat,k<=n/\i=.int .i64 k/\bR w.heap.size w wr/\∀j,j<k->∀b,xs[j]? =some b->(b.c==q)=false) (λi _=>n-(intOf i).toNat)
 case atStart=>exact⟨0,jY _,rfl,eF _ _,λj hj=>absurd hj aC⟩
 case round=>
  obtain⟨k,hk,rfl,hb,fW⟩:=hrel;have HC:=aD fW;have HB:=aD hb;by_cases aN:k<n
  .obtain⟨b,off,x,hA,mQ,eK,fJ,pP⟩:=zdm (HS.o.below HB.o) aN
   have uX:=aD ((HB.o.block gx (fY HG.o)).trans HG.o);have HX:=aD eK;have HA:=aD hA;subst hA;have i0:(0:Int)<=(k:Int):=aC;have i1:(k:Int)<(n:Int):=aC;cases hq:(x.c==q)
   .go_wp2_with (go_at_call 118;refine(zdC x gx q _ uX.o).mono ?_;rintro e w2 ⟨rfl,rF⟩;rw[hq];have rJ:=aD rF)
    go_round
    case rel=>exact⟨k+1,aC,n6,Qw HB.o rJ.o,U2 HC.o HX.o hq⟩
    case measure=>simp[intOf];omega
   .go_wp2_with (go_at_call 118;refine(zdC x gx q _ uX.o).mono ?_;rintro e w2 ⟨rfl,rF⟩;rw[hq];have rJ:=aD rF)
    go_ret;exact⟨Bu (by unfold vD;rw[Z4 HX.o hq HC.o];rfl),Qw HB.o rJ.o⟩
  .have e:k=n:=aC
   subst e;go_wp2;go_ret;exact⟨Bu zri,HB.o⟩
variable {x:bJ}
theorem zE5 (hi:i<xs.length):((bF xs).set (i*2) (.int .i64 x.c)).set (i*2+1) (.int .i64 x.p)=bF (xs.set i x):=by
 apply Uw;intro q;obtain⟨a,b,rfl,hb⟩:∃a b,q=a*2+b/\b<2:=⟨q/2,q%2,aC,aC⟩;have g:∀(l:List bJ),(bF l)[a*2+b]? =(l[a]?).bind λx=>x.cells[b]? :=λl=>Hm bJ.cells (s:=2) (λ_=>rfl) l a b hb;have hlen:(bF xs).length=xs.length*2:=Fb bJ.cells (s:=2) (λ_=>rfl) xs;rw[zbM,zbM,zhY,g,g,zbM];by_cases e:i=a
 .subst e
  have bZ:b=0\/b=1:=aC;rcases bZ with rfl|rfl
  .rw[if_neg aC,if_pos aC,if_pos aC,if_pos rfl,if_pos hi];rfl
  .rw[if_pos rfl,if_pos aC,if_pos rfl,if_pos hi];rfl
 .rw[if_neg aC,if_neg aC,if_neg e]
variable {ys:List bJ}{a:Nat}
theorem arr_set {rest:List aF}(ha:a<ys.length):((bF ys++rest).toArray.setIfInBounds (a*2) (.int .i64 x.c)).setIfInBounds (a*2+1) (.int .i64 x.p)=(bF (ys.set a x)++rest).toArray:=by
 have mL:(bF ys).length=ys.length*2:=Fb bJ.cells (s:=2) (λ_=>rfl) ys;rw[gE,gE,zqE _ _ aC,zqE _ _ (by rw[zhY];omega),zE5 ha]
theorem zI3 {q:bJ->Bool}{b:Nat}(hlen:ys.length=xs.length)(qQ:a<=b)(h1:ys.take a=(xs.take b).filter q)(h2:ys.drop b=xs.drop b)(hx:xs[b]? =some x):
 (q x=false->ys.take a=(xs.take (b+1)).filter q/\ys.drop (b+1)=xs.drop (b+1))/\
 (q x=true->(ys.set a x).take (a+1)=(xs.take (b+1)).filter q/\(ys.set a x).drop (b+1)=xs.drop (b+1)):=by
 have hb:=(kE.1 hx).1;have ht:xs.take (b+1)=xs.take b++[x]:=by rw[Nb,hx];rfl
 have hd:ys.drop (b+1)=xs.drop (b+1):=by
  rw[<-zxj,<-zxj,h2]
 refine⟨λhq=>⟨by rw[ht,P4,<-h1];simp[hq],hd⟩,λhq=>⟨?_,?_⟩⟩
 .rw[ht,P4,<-h1,Nb]
  have e1:(ys.set a x).take a=ys.take a:=by rw[List.take_set_of_le (aX _)]
  rw[e1,List.getElem?_set_self aC];simp[hq]
 .rw[List.drop_set,if_pos aC];exact hd
theorem zHD (h:w.ownsRow lo 149 2 (.slice (some ⟨g,0,none⟩) n c) n (bF xs))(hn:n<=1048576){gx:Nat}{q:Int}(uX:w.heap[gx]? =some (.cells #[.int .i64 q] 3)):
 fH aK 117 #[.slice (some ⟨g,0,none⟩) n c,.func (.func 118) #[] #[.pointer (some ⟨gx,0,none⟩)]] w λe w'=>∃m,e=.returned (.slice (some ⟨g,0,none⟩) m c)/\m=(dY xs q).length/\w'.ownsRow lo 149 2 (.slice (some ⟨g,0,none⟩) m c) m (bF (dY xs q))/\w.grownBy w' (some g):=by
 have aT:gx≠g:=λe=>by
  subst e;obtain⟨_,h|⟨g',cap,cur,hv,dQ,hg,_⟩⟩:=h
  .exact absurd h.1 aQ
  .injection hv with e1
   injection e1 with e1;injection e1 with e1;subst e1;rw[uX] at hg;injection hg with hg;injection hg with _ hg;exact absurd hg aH
 have hs:=Ak h aH;have znh:=hs.callsLen;have HI:=aD (zyu lo w.heap.size n c (some ⟨g,0,none⟩) xs gx q w hs hn uX);obtain⟨hlen,h|⟨g',cap,cur,hv,dQ,hg,Yz,rM,fW,lM⟩⟩:=h
 .exact absurd h.1 aQ
 injection hv with e1 e2 e3;injection e1 with e1;injection e1 with e1;subst e1 e3;clear e2;obtain⟨rest,Rm⟩:=aU (cur.toList.drop (n*2));have Tl:cur=(bF xs++rest).toArray:=by rw[Rm,<-lM,zuu]
 have N8:rest.length=c*2-n*2:=by rw[Rm,xO];simp[fW]
 have Xy:=aD uX;have HG:=aD (show w.heap[g]? =some (.cells (bF xs++rest).toArray 149 (0,0)) by rw[hg,Tl])
 cases hf:vD xs q with
 |none=>
  have hw:dY xs q=xs:=by
   unfold dY;rw[zdp];intro x hx;have:=zrQ (by rw[hf];rfl) x hx;simpa using this
  have HO:=aD (show w.ownsRow lo 149 2 (.slice (some ⟨g,0,none⟩) n c) n (bF xs) from⟨hlen,.inr ⟨g,c,cur,rfl,dQ,hg,Yz,rM,fW,lM⟩⟩);rw[hw];rw[hf] at HI;clear Tl Rm lM hg fW hlen uX hs
  go_enter ztr,zsN
  go_wp2_with (go_at_call 124;refine HI.o.mono ?_;rintro e w1 ⟨rfl,qG⟩;simp only[F0];have pX:=aD qG;clear qG)
  go_ret;exact⟨n,rfl,by first|rfl|exact znh.symm,zpi HO.o pX.o,⟨pX.o.os,pX.o.tape,pX.o.output,pX.o.size,λb hb _=>pX.o.block b hb⟩⟩
 |some p=>
  obtain⟨xp,M7,yM,zob⟩:∃x,xs[p]? =some x/\x.c=q/\∀j,j<p->∀y,xs[j]? =some y->y.c≠q:=by
   unfold vD at hf;obtain⟨h1,h2,h3⟩:=List.findIdx?_eq_some_iff_getElem.1 hf;refine⟨xs[p],lO h1,by simpa using h2,λj hj y hy=>?_⟩;have:=h3 j hj;obtain⟨k1,k2⟩:=kE.1 hy;rw[k2] at this;simpa using this
  have l6:=(kE.1 M7).1;have znY:xs.take p=(xs.take (p+1)).filter (λx=>x.c !=q):=by
   have ht:xs.take (p+1)=xs.take p++[xp]:=by rw[Nb,M7];rfl
   have h1:(xs.take p).filter (λx=>x.c !=q)=xs.take p:=by
    rw[zdp];intro y hy;obtain⟨j,hj⟩:=F9.1 hy;rw[Wo] at hj;split at hj
    .next aN=>simpa using zob j aN y hj
    .cases hj
   rw[ht,P4,h1];simp[yM]
  rw[hf] at HI;have Dp:=aD znY;have zia:p<n:=aC;obtain⟨i0,fR,jN,eL,lH⟩:=zI zaA;have zHc:=aD fR;clear Tl Rm lM hg fW hlen uX hs znY M7 yM zob fR
  go_enter ztr,zsN
  go_wp2_with (go_at_call 124;refine HI.o.mono ?_;rintro e w1 ⟨rfl,qG⟩;simp only[F0];have pX:=aD qG;clear qG)
  go_loopw [5,6] (λi j wr=>∃(a b:Nat) (ys:List bJ),i=.int .i64 (a:Int)/\j=.int .i64 (b:Int)/\a<b/\b<=n/\ys.length=n/\ys.take a=(xs.take b).filter (λx=>x.c !=q)/\ys.drop b=xs.drop b/\wr.heap[g]? =some (.cells (bF ys++rest).toArray 149 (0,0))/\w.grownBy wr (some g)) (λ_ j _=>n-(intOf j).toNat)
  case atStart=>
   refine⟨p,p+1,xs,rfl,n6,aC,aC,znh,Dp.o,rfl,(pX.o.block g (fY HG.o)).trans HG.o,⟨pX.o.os,pX.o.tape,pX.o.output,pX.o.size,λb hb _=>pX.o.block b hb⟩⟩
  case round=>
   obtain⟨a,b,ys,rfl,rfl,qQ,zLv,Wv,h1,h2,qV,nD⟩:=hrel;have sG:=aD qV;have zbR:=aD nD;have zCv:=fY qV;clear qV nD;by_cases aN:b<n
   .obtain⟨x,hx⟩:∃x,xs[b]? =some x:=⟨xs[b]' aC,lO aC⟩
    have zAn:ys[b]? =some x:=by
     have:=congrArg (λl=>l[0]?) h2;simpa[Y5,hx] using this
    obtain⟨d1,d2⟩:=zI3 (q:=λx=>x.c !=q) aC aC h1 h2 hx;have zkc:∀(k:Nat) (y:bJ),ys[k]? =some y->wr.cell? ⟨g,k*2,none⟩=some (.int .i64 y.c)/\wr.cell? ⟨g,k*2+1,none⟩=some (.int .i64 y.p):=λk y hy=>by
     have hk:=(kE.1 hy).1;have mL:(bF ys).length=ys.length*2:=Fb bJ.cells (s:=2) (λ_=>rfl) ys;have gg:∀b',b'<2->wr.cell? ⟨g,k*2+b',none⟩=y.cells[b']? :=λb' bZ=>by
      rw[aJ sG.o];rw[List.getElem?_toArray,y3 aC];have:=Hm bJ.cells (s:=2) (λ_=>rfl) ys k b' bZ;unfold bF;rw[this,hy];rfl
     exact⟨gg 0 aH,gg 1 aH⟩
    obtain⟨c0,c1⟩:=zkc b x zAn;have i0:(0:Int)<=(b:Int):=aC;have i1:(b:Int)<(n:Int):=aC;have D1:=aD d1;have D2:=aD d2;have GC:=aD zkc;clear d1 d2 zkc;have zrI:=aD ((zbR.o.block gx (fY Xy.o) (by simp;exact aT)).trans Xy.o);obtain⟨ya,zGe⟩:∃y,ys[a]? =some y:=⟨ys[a]' aC,lO aC⟩;have zuc:=aD zGe;have a0:(0:Int)<=(a:Int):=aC;have a1:(a:Int)<(n:Int):=aC;have zc4:g≠wr.heap.size:=aC;cases hq:(x.c==q)
    .go_wp2_with (go_at_call 118;refine(zdC x gx q _ (dJ zrI.o _)).mono ?_;rintro e w2 ⟨rfl,rF⟩;rw[hq];have KG:=aD (eD rF (dJ sG.o _)).1;have kz:=(eD rF (lQ _ _)).1;have z0:=aJ kz 0;have z1:=aJ kz 1;have e0:=(Br (a:=⟨g,a*2,none⟩) (KG.o.trans sG.o.symm)).trans (GC.o a ya zuc.o).1;have e1:=(Br (a:=⟨g,a*2+1,none⟩) (KG.o.trans sG.o.symm)).trans (GC.o a ya zuc.o).2;have ff:=eJ KG.o;have rJ:=aD rF;clear rF kz)
     go_round
     case rel=>
      obtain⟨f1,f2⟩:=D2.o (by simpa using hq);refine⟨a+1,b+1,ys.set a x,n6,n6,aC,aC,by rw[zhY];exact Wv,f1,f2,?_,?_⟩
      .rw[nJ (nJ KG.o _),arr_set aC]
      .have hB:=rJ.o
       refine Sy zbR.o ⟨hB.os,hB.tape,hB.output,?_,λk hk hn=>?_⟩
       .simp only[sN];have:=hB.size;simp at this;omega
       .have ztc:k≠g:=λe=>hn (by rw[e])
        exact(eH _ _ _ k ztc).trans ((eH _ _ _ k ztc).trans ((hB.block k r9).trans (uB _ _ k hk)))
     case measure=>simp[intOf];omega
    .go_wp2_with (go_at_call 118;refine(zdC x gx q _ (dJ zrI.o _)).mono ?_;rintro e w2 ⟨rfl,rF⟩;rw[hq];have KG:=aD (eD rF (dJ sG.o _)).1;have rJ:=aD rF;clear rF)
     go_round
     case rel=>
      obtain⟨f1,f2⟩:=D1.o (by simpa using hq);have hB:=rJ.o;exact⟨a,b+1,ys,rfl,n6,aC,aC,Wv,f1,f2,KG.o,Sy zbR.o ⟨hB.os,hB.tape,hB.output,by have:=hB.size;simp at this;omega,λk hk hn=>(hB.block k r9).trans (uB _ _ k hk)⟩⟩
     case measure=>simp[intOf];omega
   .have e:b=n:=aC
    subst e;have zeJ:(dY xs q).length=a:=by
     have tF:xs.take b=xs:=zP aC;rw[tF] at h1;unfold dY;rw[<-h1,rV];omega
    have Nc:ys.take a=dY xs q:=by
     have tF:xs.take b=xs:=zP aC;rw[tF] at h1;exact h1
    have mL:(bF ys).length=ys.length*2:=Fb bJ.cells (s:=2) (λ_=>rfl) ys;have hzs:(pZ (zim #[.int .i64 0,.int .i64 0]).cells (b-a)).size=(b-a)*2:=Xl _ _;have cG:=λty=>zlK (P:=aK) (w:=wr) (dT:=69) (ty:=ty) (c:=c-a) (n:=b-a) (o:=a*2) ziQ zHc.o jN sG.o aC (by rw[hzs];simp[mL,N8];omega) (λu hu=>by
     obtain⟨k,hk,rfl⟩:=Kj.1 hu;simp only[pZ,Uf,zmq,znT,znb];rcases zth k with hk|hk<;>simp[hk]<;>rfl)
    obtain⟨yR,nM⟩:=aU (((bF ys++rest).toArray.toList.take (a*2)++(pZ (zim #[.int .i64 0,.int .i64 0]).cells (b-a)).toList++(bF ys++rest).toArray.toList.drop (a*2+(pZ (zim #[.int .i64 0,.int .i64 0]).cells (b-a)).size)).toArray);rw[<-nM] at cG;have HR:=aD cG;have HO:=aD (show(wr.setRow g yR).ownsRow lo 149 2 (.slice (some ⟨g,0,none⟩) a c) a (bF (dY xs q)) by
     refine⟨by have:=Fb bJ.cells (s:=2) (λ_=>rfl) (dY xs q);unfold bF;omega,.inr ⟨g,c,yR,rfl,dQ,Lg wr g _ yR 149 (0,0) sG.o,aC,rM,?_,?_⟩⟩
     .rw[nM]
      simp only[Ek,gM,rV,xO,Dm,hzs,mL,N8];omega
     .rw[nM,show∀l:List aF,l.toArray.toList=l from λ_=>rfl,show∀l:List aF,l.toArray.toList=l from λ_=>rfl,Jc,El (by rw[rV,gM,mL];omega),Pf,zmu,El aC,<-Nc]
      have:(bF ys).take (a*2)=bF (ys.take a):=by
       conv=>lhs;rw[<-zuu a ys]
       unfold bF;rw[List.flatMap_append];have h9:=Fb bJ.cells (s:=2) (λ_=>rfl) (ys.take a);rw[rV,Nat.min_eq_left aC] at h9;rw[El aC];exact zP aC
      exact this)
    have zC5:=aD (Sy zbR.o (zbF yR));have a0:(0:Int)<=(a:Int):=aC;have a1:(a:Int)<(b:Int):=aC;have zLF:a<c:=aC;have zKI:¬(c=a):=aC;clear cG nM hzs mL Nc sG zbR h1 h2
    go_wp2_with (refine zdd rfl (.tmp 38) 69 rfl _ rfl HR.o ?_)
    go_ret;exact⟨a,rfl,zeJ.symm,HO.o,zC5.o⟩
theorem zlA (b:b7)(t:List UInt8)(x:bJ):(l5 (b,t) x).1.o=b.o/\(l5 (b,t) x).1.clk=b.clk/\(l5 (b,t) x).1.log=b.log/\(l5 (b,t) x).1.recs.length=b.recs.length/\(l5 (b,t) x).1.wait.length<=b.wait.length/\(l5 (b,t) x).1.back.length<=b.back.length+1/\
 ∀z∈(l5 (b,t) x).1.recs,∃y∈b.recs,z.o=y.o/\z.l=y.l:=by
 have same:∀z∈b.recs,∃y∈b.recs,z.o=y.o/\z.l=y.l:=λz hz=>⟨z,hz,rfl,rfl⟩;unfold l5;split
 .exact⟨rfl,rfl,rfl,rfl,aX _,Sd _,same⟩
 .split
  .refine⟨rfl,rfl,rfl,?_,Vw _ _,?_,λz hz=>?_⟩
   .show(List.modify _ _ _).length=_
    rw[Hk]
   .show(b.back++[x]).length<=_
    simp
   .obtain⟨y,hy,rfl|rfl⟩:=Sw hz
    .exact⟨_,hy,rfl,rfl⟩
    .exact⟨_,hy,rfl,rfl⟩
  .exact⟨rfl,rfl,rfl,rfl,aX _,Sd _,same⟩
theorem yB.tire {t:List UInt8}(h:yB d)(hx:1<=x.c/\x.c<=99)(hb:d.r.back.length<5000):yB {d with r:=(l5 (d.r,t) x).1}:=by
 have S:=h.S.tire (t:=t) (x:=x);have R:=h.R.tire (t:=t) hx;obtain⟨e1,e2,e3,e4,e5,e6,e7⟩:=zlA d.r t x;generalize(l5 (d.r,t) x).1=b at*;refine⟨S,R,⟨λz hz=>?_,?_⟩,h.ndl,?_,λz hz=>?_,?_,⟨R.off,?_,?_,?_,?_,?_⟩⟩
 .obtain⟨y,hy,e,_⟩:=e7 z hz
  rw[e,e1];exact h.ops.op y hy
 .show 1<=b.o.op
  rw[e1];exact h.ops.n1
 .show(d.ln.length:Int)=b.o.ln
  rw[e1];exact h.nln
 .obtain⟨y,hy,_,e⟩:=e7 z hz
  show 1<=z.l/\z.l<=b.o.ln;rw[e,e1];exact h.lb y hy
 .show(d.qn.length:Int)=b.o.op
  rw[e1];exact h.nqn
 .show b.recs.length<=1000
  rw[e4];exact h.sm.nr
 .exact eG e5 h.sm.nw
 .show b.back.length<=5000
  omega
 .show b.log.length<=1000
  rw[e3];exact h.sm.nl
 .show 0<=b.clk/\b.clk<=100000
  rw[e2];exact h.sm.clk
def sK (r:b7)(m:Int):Nat->List bJ
 |0=>[]
 |k+1=>match r.wait[k]? with
  |none=>sK r m k
  |some x=>match jJ (cZ r m k).1.recs x.c with
   |none=>sK r m k++[x]
   |some i=>if(cZ r m k).1.o.pt<=(cZ r m k).1.clk-Vk (cZ r m k).1.recs i then sK r m k else sK r m k++[x]
theorem zgU {st rest:List bJ}(h:((st++x::rest).map bJ.c).Nodup):dY (st++x::rest) x.c=st++rest:=by
 rw[Im,fK,zka] at h;obtain⟨h1,h2,h3⟩:=h;rw[C5] at h2;have a1:∀y∈st,(y.c !=x.c)=true:=λy hy=>by
  have:=h3 y.c (Vv hy) x.c aQ;simpa using this
 have a2:∀y∈rest,(y.c !=x.c)=true:=λy hy=>by
  have:y.c≠x.c:=λe=>h2.1 (e▸Vv hy);simpa using this
 unfold dY;rw[P4,List.filter_cons,zdp.2 a1,zdp.2 a2];simp
structure TK (d:nQ)(m:Int)(k:Nat):Prop where
 i:yB {d with r:=(cZ d.r m k).1}
 w:(cZ d.r m k).1.wait=sK d.r m k++d.r.wait.drop k
 nb:(cZ d.r m k).1.back.length<=d.r.back.length+k
 log:(cZ d.r m k).1.log=d.r.log
 o:(cZ d.r m k).1.o=d.r.o
 clk:(cZ d.r m k).1.clk=d.r.clk+m
 le:(sK d.r m k).length<=k
 txt:(cZ d.r m k).2.length<=30+30*k
section
variable {d:nQ}{m:Int}
theorem TK.zero (h:yB d)(hm:0<=m)(hc:d.r.clk+m<=100000):TK d m 0:=by
 have h0:=h.sm.clk;have hn:=P3 (c:=d.r.clk+m) aC aC;refine⟨⟨⟨h.S.opn,h.S.last,h.S.wt,h.S.bk,h.S.bo⟩,⟨h.R.off,?_,h.R.nodup,h.R.hasrec,λz hz=>?_,h.R.waitB,h.R.backB⟩,⟨h.ops.op,h.ops.n1⟩,h.ndl,h.nln,h.lb,h.nqn,⟨h.R.off,h.sm.nr,h.sm.nw,h.sm.nb,h.sm.nl,?_⟩⟩,rfl,aX _,rfl,rfl,rfl,aX _,?_⟩
 .show 0<=d.r.clk+m;omega
 .have:=h.R.recB z hz
  show _/\_/\_/\_/\_/\_/\_/\z.f<=d.r.clk+m;omega
 .show 0<=d.r.clk+m/\d.r.clk+m<=100000;omega
 .show([97,116,32]++jM (d.r.clk+m)).length<=_
  rw[gM];simp only[qA,rY];omega
structure Next (d:nQ)(m:Int)(k:Nat)(x:bJ)(i:Nat)(y:bT):Prop where
 at_:jJ (cZ d.r m k).1.recs x.c=some i
 hy:(cZ d.r m k).1.recs[i]? =some y
 c:y.c=x.c
 op:eI y=true
 b:1<=x.c/\x.c<=99
 f:0<=y.f/\y.f<=d.r.clk+m
 tired:d.r.o.pt<=d.r.clk+m-y.f->cZ d.r m (k+1)=({lD (cZ d.r m k).1 i D8 with back:=(cZ d.r m k).1.back++[x]},(cZ d.r m k).2++[32]++jM x.c)/\sK d.r m (k+1)=sK d.r m k
 not_:¬d.r.o.pt<=d.r.clk+m-y.f->cZ d.r m (k+1)=cZ d.r m k/\sK d.r m (k+1)=sK d.r m k++[x]
variable {k:Nat}{x:bJ}
theorem TK.next (h:TK d m k)(hx:d.r.wait[k]? =some x):∃i y,Next d m k x i y:=by
 have zmm:d.r.wait.drop k=x::d.r.wait.drop (k+1):=by
  obtain⟨hl,he⟩:=kE.1 hx;rw[zgj hl,he]
 have n9:x∈(cZ d.r m k).1.wait:=by rw[h.w,zmm];simp
 obtain⟨i,hi⟩:=Option.isSome_iff_exists.1 (h.i.R.hasrec x n9);have hi:=hi;obtain⟨y,hy,zix,Dh⟩:=Bs hi;have e1:=zfx (m:=m) hx;rw[za1 hi hy,h.o,h.clk] at e1;have e2:sK d.r m (k+1)=if d.r.o.pt<=d.r.clk+m-y.f then sK d.r m k else sK d.r m k++[x]:=by
  conv=>lhs;unfold sK
  simp only[hx,hi,h.o,h.clk];rw[show Vk (cZ d.r m k).1.recs i=y.f by unfold Vk;rw[hy]]
 have hf:=h.i.R.recB y (dX hy);refine⟨i,y,⟨hi,hy,zix,Dh,h.i.R.waitB x n9,⟨hf.2.2.2.2.2.2.1,by have:=hf.2.2.2.2.2.2.2;rw[<-h.clk];exact this⟩,λhp=>?_,λhp=>?_⟩⟩
 .rw[if_pos hp] at e1 e2
  exact⟨e1,e2⟩
 .rw[if_neg hp] at e1 e2
  exact⟨e1,e2⟩
theorem TK.succ (h:TK d m k)(hb:d.r.back.length+d.r.wait.length<=5000)(hx:d.r.wait[k]? =some x):TK d m (k+1):=by
 obtain⟨hl,he⟩:=kE.1 hx;have zmm:d.r.wait.drop k=x::d.r.wait.drop (k+1):=by rw[zgj hl,he]
 obtain⟨i,y,n⟩:=h.next hx;have nK:=h.nb;have hT:=yB.tire (t:=(cZ d.r m k).2) h.i n.b (by show(cZ d.r m k).1.back.length<5000;omega);have e1:=zfx (m:=m) hx;have zIW:yB {d with r:=(cZ d.r m (k+1)).1}:=by rw[e1];exact hT
 obtain⟨r1,r2,r3,r4,r5,r6,r7⟩:=zlA (cZ d.r m k).1 (cZ d.r m k).2 x;have Fq:=e1;rw[<-Fq] at r1 r2 r3 r4 r5 r6;have hw:=h.w;rw[zmm] at hw;have lG:((sK d.r m k++x::d.r.wait.drop (k+1)).map bJ.c).Nodup:=by rw[<-hw];exact h.i.R.nodup
 have hle:=h.le;have zpE:=h.txt;refine⟨zIW,?_,aC,r3.trans h.log,r1.trans h.o,r2.trans h.clk,?_,?_⟩
 .by_cases hp:d.r.o.pt<=d.r.clk+m-y.f
  .have t4:=(n.tired hp).2
   rw[t4];have e3:=e1;rw[za1 n.at_ n.hy,h.o,h.clk,if_pos hp] at e3;rw[e3];show dY _ (G6 _ _)=_;rw[Ui n.hy,n.c,hw,zgU lG]
  .obtain⟨t1,t2⟩:=n.not_ hp
   rw[t1,t2,hw];simp
 .by_cases hp:d.r.o.pt<=d.r.clk+m-y.f
  .rw[(n.tired hp).2];omega
  .rw[(n.not_ hp).2,gM];simp;omega
 .by_cases hp:d.r.o.pt<=d.r.clk+m-y.f
  .have:=n.b
   have hn:=P3 (c:=x.c) aC aC;rw[(n.tired hp).1,gM,gM];simp only[qA,rY];omega
  .rw[(n.not_ hp).1];omega
def TK.all (h:yB d)(hm:0<=m)(hc:d.r.clk+m<=100000)(hb:d.r.back.length+d.r.wait.length<=5000):∀k,k<=d.r.wait.length->TK d m k
 |0,_=>TK.zero h hm hc
 |k+1,hk=>(TK.all h hm hc hb k aC).succ hb (lO aC)
theorem TK.end_ (h:TK d m d.r.wait.length):(uY d.r m).1.wait=sK d.r m d.r.wait.length:=by
 rw[<-zcV,h.w,List.drop_of_length_le (aX _),N4]
end
def vO (w:aE):Prop:=Lib.TabIs aK w "internal/strconv.uint64pow10" .u64 Lib.pow10Tab
def zZ (lo:Nat)(w:aE):Prop:=∀w':aE,(∀b,b<lo->w'.heap[b]? =w.heap[b]?)->vO w'
def zZ.at_ (h:zZ lo w):vO w:=h w λ_ _=>rfl
def zZ.keep (h:zZ lo w)(k:∀b,b<lo->w'.heap[b]? =w.heap[b]?):zZ lo w':=λw2 k2=>h w2 λb hb=>(k2 b hb).trans (k b hb)
variable {v':fL}
theorem zZ.turn (h:zZ lo w)(a:bE w lo hb v d)(dQ:lo<=w.heap.size)(t:bM hb v w v' w'):zZ lo w':=h.keep λb bZ=>t.block b aC (λx=>by have:=(a.lt b x).1;omega)
def zL (v v':fL):Prop:=v'.sL=v.sL/\v'.sQ=v.sQ/\v'.sA=v.sA/\v'.sT=v.sT
def zL.rf (v:fL):zL v v:=⟨rfl,rfl,rfl,rfl⟩
def B8.kept (h:B8 v v'):zL v v':=⟨h.1,h.2.1,h.2.2.2.2.1,h.2.2.2.2.2⟩
theorem zGY (ht:zZ lo w)(n:Int)(h0: -1000000000<=n)(h1:n<=1000000000):
 fH aK 112 #[.int .i64 n] w λe w'=>e=.returned (.string ⟨(jM n).toArray⟩)/\bR w.heap.size w w':=
 (Tryz.strconv_Itoa n aC aC w ht.at_).mono (by
  rintro e w' ⟨rfl,k,os,rfl⟩;refine⟨rfl,rfl,rfl,rfl,by simp[Go.Sort.grow],λi hi=>?_⟩;show((w.drewN k).heap++os)[i]? =_;rw[Array.getElem?_append_left (by show i<w.heap.size;omega)];rfl)
theorem zhE (n:Int)(h0:0<=n)(h1:n<100)(w:aE):
 fH aK 112 #[.int .i64 n] w λe w'=>e=.returned (.string ⟨(jM n).toArray⟩)/\w'=w:=by
 obtain⟨c,rfl⟩:∃c:Nat,n=(c:Int):=⟨n.toNat,aC⟩;refine(Tryz.strconv_Itoa_small c aC w).mono ?_;rintro e w' ⟨rfl,rfl⟩;exact⟨by unfold jM;rw[Lib.itoa_nonneg],rfl⟩
section
variable {P:bS}{w w':aE}
theorem zsH {ops:Array aZ}{rest:List aZ}{o:aZ}{a:Act}{Q:nZ->Act->aE->Prop}(Fl:o.guard=none)(s x:cN)(t tn:aM)(ho:o.op=.call {callee:=.builtin .append,args:=#[s,x],argTypes:=#[t,tn]})(vs vx v':aF)(hs:a.eval s=vs)(hx:a.eval x=vx)
 (hr:(xF #[t,tn] o.type #[vs,vx]).run P w=.ok v' w') (h:wpList P ops Q rest (a.put o.dst v') w'):wpList P ops Q (o::rest) a w:=by
 refine Rh Fl λK hK=>?_;unfold By aS;simp only[ho,resolve,invoke,builtin,E6,Ht,D7,uS,fK,tL,hs,hx,hr];exact hK _ _ h
end
variable {xs:List aF}{xX:Nat}
theorem zv1 {E s:Nat}{v:aF}(h:w.ownsRow lo E s v n xs)(hl:xX<=lo):w.ownsRow xX E s v n xs:=by
 obtain⟨h0,h1|⟨g,cap,cur,e1,e2,e3⟩⟩:=h
 .exact⟨h0,.inl h1⟩
 .exact⟨h0,.inr ⟨g,cap,cur,e1,eG hl e2,e3⟩⟩
variable {x:Option Nat}{l:List (Option Nat)}
theorem zEp (h:zaY l)(hx:∀b,x=some b->some b∉l):zaY (l.set j x):=by
 intro i k b hi hk;rw[zbM] at hi hk;split at hi<;>split at hk
 .omega
 .rename_i e1 e2
  split at hi
  .injection hi with hi
   exact absurd (dX hk) (hx b hi)
  .cases hi
 .rename_i e1 e2
  split at hk
  .injection hk with hk
   exact absurd (dX hi) (hx b hk)
  .cases hk
 .exact h i k b hi hk
theorem bE.newW (h:bE w lo hb v d){s':aF}{xs:List bJ}(ho:w.ownsRow lo 149 2 s' n (bF xs))(hn:n=xs.length)(hw:∀b,s'.ownBlock=some b->some b∉parts v hb):
 bE (w.setCell ⟨hb,7,none⟩ s') lo hb {v with sW:=s'} {d with r:={d.r with wait:=xs}}:=by
 subst hn;have h0:(parts v hb)[0]? =some (some hb):=rfl;have kk:∀i b,i≠0->(parts v hb)[i]? =some (some b)->(w.setCell ⟨hb,7,none⟩ s').heap[b]? =w.heap[b]? :=λi b hi bZ=>eH w _ _ b (h.ne bZ h0 hi);have hp:parts {v with sW:=s'} hb=(parts v hb).set 5 s'.ownBlock:=rfl
 refine⟨nJ h.blk s',h.lob,cI h.L λb e=>kk 1 _ aH cS,cI h.Q λb e=>kk 4 _ aH cS,cI ho λb e=>eH w _ _ b (λe2=>hw b e (by have e2:b=hb:=e2;subst e2;exact dX h0)),
  cI h.B λb e=>kk 6 _ aH cS,cI h.R λb e=>kk 7 _ aH cS,cI h.A λb e=>kk 9 _ aH cS,cI h.T λb e=>kk 10 _ aH cS,
  h.C.keep (kk 2 _ aH rfl),h.O.keep (kk 3 _ aH rfl),h.M.keep (kk 8 _ aH rfl),?_⟩
 rw[hp];exact zEp h.ap hw
def bE.grown (h:bE w lo hb v d)(hg:w.grownBy w' x)(hx:∀b,x=some b->some b∉parts v hb):bE w' lo hb v d:=
 h.keep λb bZ hp=>hg.block b bZ λe=>hx b e.symm hp
theorem bM.grown {w0:aE}{v0:fL}(h:bM hb v0 w0 v w)(hg:w.grownBy w' x)(hx:∀b,x=some b->w0.heap.size<=b):bM hb v0 w0 v w':=
 ⟨eG h.size hg.size,λb bZ hn=>(hg.block b (lC bZ h.size) λe=>by have:=hx b e.symm;omega).trans (h.block b bZ hn),h.moved⟩
theorem zHP {N:Nat}(hs:cs.size=N)(hl:xs.length=N)(h:∀j,j<N->cs[j]? =xs[j]?):cs.toList=xs:=by
 apply Uw;intro j;rw[Ap];rcases mX j N with hj|hj
 .exact h j hj
 .rw[Array.getElem?_eq_none aC,Cu aC]
theorem zCa (lo hi n c:Nat)(A:Option bL)(ds:List dB)(w:aE)(h:bX w lo hi 3 A n c (lL ds))(hn:n<=1048576):
 fH aK 13 #[.slice A n c] w λe w'=>∃b cs,e=.returned (.slice (some ⟨b,0,none⟩) n n)/\w.heap.size<=b/\w'.heap[b]? =some (.cells cs 54)/\cs.toList=lL ds/\rS 54 3 w' w.heap.size w'.heap.size (some ⟨b,0,none⟩) n n (lL ds)/\bR w.heap.size w w':=by
 obtain⟨xS,X7,zdS⟩:=zG6 n hn;have hlen:=h.eventLen;have Dp:=aD X7;have HL:=aD hlen
 go_enter Tryz.func13,Tryz.ntmps13
 go_wp2
 go_loopw [4] (λi wr=>∃k:Nat,k<=n/\i=.int .i64 k/\bR w.heap.size w wr/\∃cs:Array aF,wr.heap[w.heap.size]? =some (.cells cs 54)/\cs.size=n*3/\∀j,j<k*3->cs[j]? =(lL ds)[j]?) (λi _=>n-(intOf i).toNat)
 case atStart=>exact⟨0,jY _,rfl,dS (eF _ _) _,xS,lQ _ _,Dp.o,λj hj=>absurd hj aC⟩
 case round=>
  obtain⟨k,hk,rfl,B,cs,hb,cJ,fW⟩:=hrel;have HS:=aD cJ;have HC:=aD fW;have HB:=aD hb;have hz:=fY hb;by_cases aN:k<n
  .obtain⟨b,off,d,rfl,_,_,h3,eK,fJ,pP,xG⟩:=(h.below B).eventAt aN
   have HX:=aD eK
   go_wp2_with fail
   refine(zDn d _).mono ?_;rintro e w1 ⟨rfl,b1⟩;obtain⟨qG,z1⟩:=eD b1 HB.o;have B1:=Qw B b1;have e0:=aJ qG (k*3);have e1:=aJ qG (k*3+1);have e2:=aJ qG (k*3+2);have hf:=eJ qG;rw[Array.getElem?_eq_getElem (by rw[HS.o];omega)] at e0 e1 e2;have pX:=aD qG;go_wp2;go_roundw
   case rel=>exact⟨k+1,aC,n6,((B1.setCell (aX _) _).setCell (aX _) _).setCell (aX _) _,((cs.setIfInBounds (k*3) (.string d.k)).setIfInBounds (k*3+1) (.int .i64 d.a)).setIfInBounds (k*3+2) (.int .i64 d.b),nJ (nJ (nJ pX.o _) _) _,by simp[HS.o],λj hj=>zEU HX.o (by rw[HS.o];omega) HC.o j hj⟩
   case measure=>simp[intOf];omega
  .have e:k=n:=aC
   subst e;go_wp2;go_ret;exact⟨_,cs,rfl,aX _,HB.o,zHP HS.o (by rw[zgz,HL.o]) HC.o,zCx HB.o hz HS.o (aX _) X2 (by rw[zgz,HL.o]) HC.o,B⟩
variable {xs:List dB}
def zgX (h:bX w lo hi 3 A n c (lL xs))(hn:n<=1048576):
 fH aK 13 #[.slice A n c] w λe w'=>∃b cs,e=.returned (.slice (some ⟨b,0,none⟩) n n)/\w.heap.size<=b/\w'.heap[b]? =some (.cells cs 54)/\cs.toList=lL xs/\rS 54 3 w' w.heap.size w'.heap.size (some ⟨b,0,none⟩) n n (lL xs)/\bR w.heap.size w w':=zCa _ _ _ _ _ _ _ h hn
def zIF (l:Int)(h:bX w lo hi 3 A n c (lL xs))(hd:∀d∈xs,d.k.size<=maxLen)(h0:0<=l)(h1:l<=1048576):
 fH aK 10 #[.slice A n c,.int .i64 l] w λe w'=>e=.returned (.int .i64 (Hv l n xs))/\bR w.heap.size w w':=zHB _ _ _ _ _ _ _ _ h hd h0 h1
variable {A':Option bL}
def zAc {gT n' c':Nat}{ys:List dB}(h:bX w lo hi 3 A n c (lL xs))(h':bX w xX gT 3 A' n' c' (lL ys))(hn:n<=1048576)(sU:n'<=1048576):
 fH aK 16 #[.slice A n c,.slice A' n' c'] w λe w'=>e=.returned (.bool (xs==ys))/\bR w.heap.size w w':=zEK _ _ _ _ _ _ _ _ _ _ _ _ _ h h' hn sU
variable {xs:List aF}
def zBL (k0:Nat)(h:rS 54 3 w lo hi A n c xs)(hn:n<=1048576)(gV:k0<=10000000):
 fH aK 17 #[.slice A n c,.int .i64 k0] w λe w'=>e=.returned (.int .i64 ((k0+3*n:Nat):Int))/\pU lo hi w w':=zzi _ _ _ _ _ _ _ _ h hn gV
theorem zke {gT n' c':Nat}{xs ys:List (List UInt8)}(h:bX w lo hi 1 A n c (nG xs))(h':bX w xX gT 1 A' n' c' (nG ys))(hn:n<=1048576)(sU:n'<=1048576):
 fH aK 15 #[.slice A n c,.slice A' n' c'] w λe w'=>e=.returned (.bool (xs==ys))/\bR w.heap.size w w':=
 (zEw _ _ _ _ _ _ _ _ _ _ _ _ _ h h' hn sU).mono λe w' hs=>⟨hs.1,by obtain⟨m,rfl⟩:=hs.2;exact below_drewN (eF _ _) m⟩
def zHL (k0:Nat)(h:rS 9 1 w lo hi A n c xs)(hn:n<=1048576)(gV:k0<=10000000):
 fH aK 18 #[.slice A n c,.int .i64 k0] w λe w'=>e=.returned (.int .i64 ((k0+n:Nat):Int))/\bX w' lo hi 1 A n c (nG (Le k0 n))/\pU lo hi w w':=zBt _ _ _ _ _ _ _ _ h hn gV
def zp8 (k0:Nat)(h:bX w lo hi 1 A n c (nG (Le k0 n)))(hn:n<=1048576)(gV:k0<=10000000):
 fH aK 19 #[.slice A n c,.int .i64 k0] w λe w'=>e=.returned (.int .i64 ((k0+n:Nat):Int))/\bR w.heap.size w w':=zCh _ _ _ _ _ _ _ h hn gV
theorem zys (f s p:Int)(w:aE):
 fH aK 12 #[.agg #[.int .i64 f,.int .i64 s,.int .i64 p]] w λe w'=>e=.returned (.agg #[.int .i64 f,.int .i64 s,.int .i64 p])/\bR w.heap.size w w':=by
 go_enter Tryz.func12,Tryz.ntmps12
 go_wp2;refine qW (v:=.agg #[.int .i64 f,.int .i64 s,.int .i64 p]) (by simp[results,Tryz.results12,go_sem]) rfl ⟨rfl,?_⟩;exact dS (dS (dS (eF _ _) _) _) _
end Go.Proofs.YtfcjiloojkjaeaaGreatDoor
namespace Go.Proofs.YtfcjiloojkjaeaaGreatDoor
open Go.Mt Go.Tt
def glL:List Nat:=[33,52,109,110,115,116,105,108,113,124,117,114,119,118,112,123,126,128,129,130,131,132,133,134,135,136,137,138,10,11,12,13,15,16,17,18,19,20,22,23,24,25,34,39,40,41,43,44,45,46,49,50,51,63,64,65,66,67,90,91,92,93,94,95,96]
def alL:List Nat:=[3,4,5,10,11,12,13,14,15,16,17,18,19,20,21,22,23,24,25,26,33,34,39,40,41,42,43,44,45,46,49,50,51,52,63,64,65,66,67,90,91,92,93,94,95,96,118]
def flL:List Nat:=[118]
def olL:List Nat:=[42]
abbrev Bq:aO->Bool:=pA glL
abbrev gD:aO->Bool:=pA flL
def zo2:S8 aK=true:=aP
def zpk:glL.all (fnFit aK (pA flL) (pA glL))=true:=aP
def lvF:Lv aK (pA olL) (pA alL) Bq gD:=
 lv_of zo2 zpk aP aP aP aP aP
def mP:vM (PS aK Bq) gD:=zpV zo2 zpk aP
end Go.Proofs.YtfcjiloojkjaeaaGreatDoor
namespace Go.Mt
open Go.Conc Go.Tt
def frO:Obj->Obj
 | .cells c T fz=>.cells c T (0,max c.size fz.2)
 |o=>o
def uP (X:Nat->Bool)(w:aE):World:={w with heap:=w.heap.mapIdx λi o=>if X i=true then frO o else o}
def thX (X:Nat->Bool)(w0 wn:aE):World:={wn with heap:=wn.heap.mapIdx λi o=>if X i=true then(w0.heap[i]?).getD o else o}
def reX (X:Nat->Bool)(w:aE):World:={w with heap:=w.heap.mapIdx λi o=>if X i=true then frO o else o9}
theorem Qu (X:Nat->Bool)(w:aE):(uP X w).heap.size=w.heap.size:=by simp[uP]
theorem zfE (X:Nat->Bool)(w wn:aE):(thX X w wn).heap.size=wn.heap.size:=by simp[thX]
theorem zhH (X:Nat->Bool)(w:aE):(reX X w).heap.size=w.heap.size:=by simp[reX]
section
variable {X:Nat->Bool}{w wn:aE}{a:Nat}
theorem N0 (h:X a=false):(uP X w).heap[a]? =w.heap[a]? :=by
 simp[uP,Mk,h]
variable {c:Array aF}{T:aM}
theorem Rj {fz:Nat×Nat}(h:X a=true)(hc:w.heap[a]? =some (.cells c T fz)):(uP X w).heap[a]? =some (.cells c T (0,max c.size fz.2)):=by
 simp[uP,Mk,h,hc,frO]
theorem zeC {fz:Nat×Nat}(h:X a=true)(hc:w.heap[a]? =some (.cells c T fz)):(reX X w).heap[a]? =some (.cells c T (0,max c.size fz.2)):=by
 simp[reX,Mk,h,hc,frO]
theorem zpO (h:X a=false)(ha:a<w.heap.size):(reX X w).heap[a]? =some o9:=by
 simp[reX,Mk,h,ha]
theorem Xh (h:X a=false):(thX X w wn).heap[a]? =wn.heap[a]? :=by
 simp[thX,Mk,h]
theorem zgQ {o:Obj}(h:X a=true)(ha:a<wn.heap.size)(ho:w.heap[a]? =some o):(thX X w wn).heap[a]? =some o:=by
 simp[thX,Mk,h,ho,ha]
end
inductive wZ (X KD:Nat->Prop):aF->Prop
 |bool (b:Bool):wZ X KD (.bool b)
 |int (k:IntKind) (n:Int):wZ X KD (.int k n)
 |string (s:ByteArray):wZ X KD (.string s)
 |nilFunc:wZ X KD .nilFunc
 |nilIface:wZ X KD .nilIface
 |pointer {a:Option bL}:(∀x,a=some x->X x.block)->wZ X KD (.pointer a)
 |slice {a:Option bL} {n c:Nat}:(∀x,a=some x->X x.block)->wZ X KD (.slice a n c)
 |chan {a:Option Nat}:(∀x,a=some x->KD x)->wZ X KD (.chan a)
 |agg {xs:Array aF}:(∀(i:Nat) (v:aF),xs[i]? =some v->wZ X KD v)->wZ X KD (.agg xs)
 |tuple {xs:Array aF}:(∀(i:Nat) (v:aF),xs[i]? =some v->wZ X KD v)->wZ X KD (.tuple xs)
theorem wD.inX {X KD:Nat->Prop}{v:aF}(h:wD v):wZ X KD v:=by
 induction h with
 |bool b=>exact .bool b
 |int k n=>exact .int k n
 |string s=>exact .string s
 |nilFunc=>exact .nilFunc
 |nilIface=>exact .nilIface
 |agg _ ih=>exact .agg ih
 |tuple _ ih=>exact .tuple ih
section
variable {S:aO->Prop}{K R K' R':Pr}{X KD:Nat->Prop}
theorem zvA {a a':Option bL}(x:wU R a a')(hR:∀p q,R p q->X p->R' p q)(h:∀y,a=some y->X y.block):wU R' a a':=by
 cases x with
 |none=>exact .none
 |some y=>
  cases y with
  |mk y=>exact .some (.mk (hR _ _ y (h _ rfl)))
theorem wZ.vr {u v:aF}(x:VR S K R u v)(hR:∀a b,R a b->X a->R' a b)(hK:∀a b,R.or K a b->KD a->R'.or K' a b)(hu:wZ X KD u):VR S K' R' u v:=by
 induction x with
 |bool b=>exact .bool b
 |int k n=>exact .int k n
 |string s=>exact .string s
 |nilFunc=>exact .nilFunc
 |nilIface=>exact .nilIface
 |pointer y=>cases hu with|pointer h=>exact .pointer (zvA y hR h)
 |slice y=>cases hu with|slice h=>exact .slice (zvA y hR h)
 |map _=>cases hu
 |chan y=>
  cases hu with
  |chan h=>
   refine .chan ?_
   cases y with
   |none=>exact .none
   |some y=>exact .some (hK _ _ y (h _ rfl))
 |func _ _ _ _ _ _ _=>cases hu
 |iface _ _=>cases hu
 |agg e _ ih=>cases hu with|agg h=>exact .agg e λi v v' h1 h2=>ih i v v' h1 h2 (h i v h1)
 |tuple e _ ih=>cases hu with|tuple h=>exact .tuple e λi v v' h1 h2=>ih i v v' h1 h2 (h i v h1)
 |junk h=>exact .junk h
end
section
variable {S:aO->Prop}{K R K' R':Pr}{G:Gp}{St St':Nat->Prop}{w W wn Wn:aE}{X:Nat->Bool}
structure XOk (R:Pr)(X:Nat->Bool)(w:aE):Prop where
 dom:∀a,X a=true->∃b,R a b
 cells:∀a,X a=true->∃c T fz,w.heap[a]? =some (.cells c T fz)
theorem zxd (h:cT S K R G St w W)(hx:XOk R X w):cT S K R G (λa=>St a\/X a=true) (uP X w) W:=by
 have stC:∀a,St a->∃c T hi,w.heap[a]? =some (.cells c T (0,hi))/\c.size<=hi:=λa x=>(h.st a x).2;refine⟨h.inj,h.inj',λa b x=>by rw[Qu];exact h.lt a b x,h.low,by rw[Qu];exact h.gle,λa b x=>?_,λa b x hn=>?_,λa x=>?_,?_,h.tb⟩
 .obtain⟨o,o',h1,h2,h3⟩:=h.cont a b x
  cases e:X a with
  |false=>exact⟨o,o',(N0 e).trans h1,h2,h3⟩
  |true=>
   obtain⟨c,T,fz,hc⟩:=hx.cells a e;rw[hc] at h1;obtain rfl:=cE h1
   cases h3 with
   |cells sO hf=>
    refine⟨_,_,Rj e hc,h2,.cells sO λo ho=>?_⟩;have:=hf o ho;unfold Jv at this⊢;simp only;omega
 .cases e:X a with
  |false=>exact(N0 e).trans (h.rest a b x hn)
  |true=>
   obtain⟨c,hc⟩:=hx.dom a e;exact absurd hc (hn c)
 .cases e:X a with
  |false=>
   have x':St a:=x.resolve_right (by rw[e];simp);obtain⟨h1,c,T,hi,h2,h3⟩:=h.st a x';exact⟨h1,c,T,hi,(N0 e).trans h2,h3⟩
  |true=>
   obtain⟨c,T,fz,hc⟩:=hx.cells a e;exact⟨hx.dom a e,c,T,_,Rj e hc,zt0 ..⟩
 .intro a c e hp
  cases ex:X a with
  |false=>
   rw[N0 ex] at hp;exact h.np a c e hp
  |true=>
   obtain⟨c',T,fz,hc⟩:=hx.cells a ex;rw[Rj ex hc] at hp;cases hp
theorem zpg (h:cT S K R G St w W)(hx:XOk R X w)(hle:R.le R')(hK:K.le K')(hn:cT S K' R' G St' wn Wn)(hs:∀a,St a->St' a)(aY:∀a b,X a=true->R a b->Wn.heap[b]? =W.heap[b]?):cT S K' R' G St (thX X w wn) Wn:=by
 have aN:∀a b,R' a b->a<wn.heap.size:=λa b x=>(hn.lt a b (.inl x)).1;refine⟨hn.inj,hn.inj',λa b x=>by rw[zfE];exact hn.lt a b x,hn.low,by rw[zfE];exact hn.gle,λa b x=>?_,λa b x dE=>?_,λa x=>?_,?_,hn.tb⟩
 .cases e:X a with
  |false=>
   obtain⟨o,o',h1,h2,h3⟩:=hn.cont a b x;exact⟨o,o',(Xh e).trans h1,h2,h3⟩
  |true=>
   obtain⟨b0,Gy⟩:=hx.dom a e;obtain rfl:=hn.inj a b b0 (.inl x) (.inl (hle _ _ Gy));obtain⟨o,o',h1,h2,h3⟩:=h.cont a b Gy;exact⟨o,o',zgQ e (aN a b x) h1,(aY a b e Gy).trans h2,oI.monoK hK (h3.mono hle)⟩
 .cases e:X a with
  |false=>exact(Xh e).trans (hn.rest a b x dE)
  |true=>
   obtain⟨c,hc⟩:=hx.dom a e;exact absurd (hle _ _ hc) (dE c)
 .cases e:X a with
  |false=>
   obtain⟨h1,c,T,hi,h2,h3⟩:=hn.st a (hs a x);exact⟨h1,c,T,hi,(Xh e).trans h2,h3⟩
  |true=>
   obtain⟨⟨b,h1⟩,c,T,hi,h2,h3⟩:=h.st a x;exact⟨⟨b,hle _ _ h1⟩,c,T,hi,zgQ e (aN a b (hle _ _ h1)) h2,h3⟩
 .intro a c e hp
  cases ex:X a with
  |false=>
   rw[Xh ex] at hp;exact hn.np a c e hp
  |true=>
   obtain⟨b,hb⟩:=hx.dom a ex;obtain⟨c',T,fz,hc⟩:=hx.cells a ex;rw[zgQ ex (aN a b (hle _ _ hb)) hc] at hp;cases hp
def rX (R:Pr)(X:Nat->Bool):Pr:=λa b=>R a b/\X a=true
def kX (K:Pr)(KD:Nat->Prop):Pr:=λa b=>K a b/\KD a
theorem reX_rel (h:cT S K R G St w W)(hx:XOk R X w)(hT:∀g,G.tab g=true->X g=true){KD:Nat->Prop}(mL:∀a c T fz,X a=true->w.heap[a]? =some (.cells c T fz)->∀v∈c,wZ (λa=>X a=true) KD v)(zEJ:∀a b,R a b->KD a->X a=true):
 cT S (kX K KD) (rX R X) G (λa=>X a=true) (reX X w) W:=by
 have up:∀a b,(rX R X).or (kX K KD) a b->R.or K a b:=λa b x=>x.elim (λy=>.inl y.1) λy=>.inr y.1;refine⟨λa b c x y=>h.inj a b c (up _ _ x) (up _ _ y),λa b c x y=>h.inj' a b c (up _ _ x) (up _ _ y),λa b x=>by rw[zhH];exact h.lt a b (up _ _ x),λa b x=>h.low a b x.1,by rw[zhH];exact h.gle,λa b x=>?_,λa b x dE=>?_,λa x=>?_,?_,λg hg=>⟨h.tb g hg,hT g hg⟩⟩
 .obtain⟨o,o',h1,h2,h3⟩:=h.cont a b x.1
  obtain⟨c,T,fz,hc⟩:=hx.cells a x.2;rw[hc] at h1;obtain rfl:=cE h1
  cases h3 with
  |cells sO hf=>
   refine⟨_,_,zeC x.2 hc,h2,.cells ⟨sO.1,λi v v' h1 h2=>?_⟩ λo ho=>?_⟩
   .refine wZ.vr (sO.2 i v v' h1 h2) (λp q y z=>⟨y,z⟩) (λp q y z=>?_) (mL a c T fz x.2 hc v (Array.mem_of_getElem? h1))
    rcases y with y|y
    .exact .inl ⟨y,zEJ p q y z⟩
    .exact .inr ⟨y,z⟩
   .have:=hf o ho
    unfold Jv at this⊢;simp only;omega
 .cases e:X a with
  |false=>exact zpO e (h.lt a b (.inr x.1)).1
  |true=>
   obtain⟨c,hc⟩:=hx.dom a e;exact absurd ⟨hc,e⟩ (dE c)
 .obtain⟨c,T,fz,hc⟩:=hx.cells a x
  obtain⟨b,hb⟩:=hx.dom a x;exact⟨⟨b,hb,x⟩,c,T,_,zeC x hc,zt0 ..⟩
 .intro a c e hp
  cases ex:X a with
  |false=>
   by_cases ha:a<w.heap.size
   .rw[zpO ex ha] at hp
    unfold o9 at hp;cases hp
   .have:=(dO.1 hp).1
    rw[zhH] at this;omega
  |true=>
   obtain⟨c',T,fz,hc⟩:=hx.cells a ex;rw[zeC ex hc] at hp;cases hp
end
end Go.Mt
namespace Go.Mt
open Go.Conc Go.Tt
open Go.ConcR (KK wgBlock WgAt stA smA rd wr DC0)
section
variable {p:bS}{Post:aF->aE->Prop}{Shun:Loc->Prop}
def BJ (p:bS)(Post:aF->aE->Prop)(Shun:Loc->Prop)(τ:cF)(g:Goroutine)(W:aE):Prop:=
 (∀b,τ.own b\/τ.still b->b<W.heap.size/\∀l,nF l b->¬Shun l)->(∀l b,nF l b->W.heap.size<=b->¬Shun l)->J p Post Shun W.heap.size g W
theorem zB3 {O Z:Nat->Prop}{B:Nat}{e:Event}(h:EvQ O Z e)(hO:∀b,O b\/Z b->b<B/\∀l,nF l b->¬Shun l):EvL Shun B e:=by
 rcases h with rfl|⟨b,h1,h2⟩
 .exact⟨λx hx=>by simp[jK,qO] at hx,aQ,aQ,trivial⟩
 .obtain⟨hb,hs⟩:=hO b (h2.imp id And.left)
  obtain⟨loc,wr,sy⟩:=e
  cases loc with
  |cell x=>
   simp only[Gb,fT] at h1;refine⟨λy hy lK=>?_,aQ,aQ,?_⟩
   .simp only[jK,qO,fT] at hy
    subst hy;exact absurd lK (hs _ h1)
   .show x.block<B
    rw[h1];exact hb
  |obj r=>
   simp only[Gb,fT] at h1;have hr:r<B:=by rw[h1];exact hb
   refine⟨λy hy lK=>?_,aQ,aQ,?_⟩
   .have Wv:y.loc=.obj r:=by
     cases wr<;>cases sy<;>simp only[jK,qO,fT] at hy<;>first|(subst hy;rfl)|(cases hy;done)
    exact absurd (Wv▸lK) (hs (.obj r) h1)
   .cases wr<;>cases sy<;>exact hr
  |_=>simp[Gb] at h1
variable {ty:aM}
def suf_atd {Wg:Nat}{τ:cF}{w:aE}(d:Nat):bU ty Wg τ w (w.at d):=⟨rfl,rfl,rfl,aX _,λ_ _=>rfl,λx=>x⟩
theorem bj_ok {Wg:Nat}(τ:cF)(g:Goroutine)(w:aE)(cG:g.status=.running)(h:OwnQ p ty Wg true (BJ p Post Shun) τ g w):BJ p Post Shun τ g w:=by
 intro h1 h2;have grow:∀(d:Nat) {w':aE},w.heap.size<=w'.heap.size->(∀b,(τ.grow (w.at d) w').own b\/τ.still b->b<w'.heap.size/\∀l,nF l b->¬Shun l)/\∀l b,nF l b->w'.heap.size<=b->¬Shun l:=λd w' hs=>by
  refine⟨λb hb=>?_,λl b hl hb=>h2 l b hl (eG hs hb)⟩;rcases hb with(hb|⟨hb,bZ⟩)|hb
  .exact⟨lC (h1 b (.inl hb)).1 hs,(h1 b (.inl hb)).2⟩
  .exact⟨bZ,λl hl=>h2 l b hl hb⟩
  .exact⟨lC (h1 b (.inr hb)).1 hs,(h1 b (.inr hb)).2⟩
 refine J.own cG λd=>?_;obtain⟨g',w',es,a1,a2,a3,a4,a5⟩:=h (w.at d) (suf_atd d);obtain⟨k1,k2⟩:=grow d a3.size;exact⟨g',w',es,w'.heap.size,a1,λe he=>zB3 (a4 e he) k1,a3.size,a5 k1 k2⟩
structure IA (W0:aE)(St:Nat->Prop)(Shun:Loc->Prop)(R0:Pr)(R:Pr)(τ:cF)(W:aE):Prop where
 kp:Kp W0 R St W
 sh:Sh W0.heap.size Shun R W
 still:∀b,b<W0.heap.size->τ.still b
 le:R0.le R
def D3 (p:bS)(gs fs:aO->Bool)(Post:aF->aE->Prop)(Shun:Loc->Prop)(W0:aE)(St:Nat->Prop)(K R0:Pr)(base:List Frame):Cx Unit:=
 {p:=p,gs:=gs,fs:=fs,ty:=0,Wg:=0,A:=⟨λ_=>.wait,λ_ _=>True,λ_=>false,λ_=>True,λ_ _=>True,λ_ _=>[]⟩,Fin:=λ_ _=>True,main:=true,base:=base,ds:=.nil,K:=K,St:=St,I:=IA W0 St Shun R0,pin:=[],alone:=some (BJ p Post Shun),aok:=λB h τ g w hr ho=>by(cases h;exact bj_ok τ g w hr ho)}
variable {gs fs:aO->Bool}{W0:aE}{St:Nat->Prop}{K R0:Pr}{base:List Frame}
theorem dA:fE (D3 p gs fs Post Shun W0 St K R0 base):=by
 refine⟨λR τ W aV h s=>?_,λR τ W R1 W1 h ht hs=>?_⟩
 .have h:=h
  exact⟨⟨s.os.trans h.kp.os,s.tape.trans h.kp.tape,s.output.trans h.kp.output,eG h.kp.size s.size,λb hb=>(s.keep b (.inr (h.still b hb))).trans (h.kp.block b hb),h.kp.old⟩,⟨h.sh.old,h.sh.rel,λl b hl hb=>h.sh.new l b hl (eG s.size hb)⟩,h.still,h.le⟩
 .have h:=h
  have hs:=hs;refine⟨⟨hs.os.trans h.kp.os,hs.tape.trans h.kp.tape,hs.output.trans h.kp.output,eG h.kp.size hs.size,λb hb=>?_,λa b x hb=>?_⟩,⟨h.sh.old,λa b x l hl=>?_,λl b hl hb=>h.sh.new l b hl (eG hs.size hb)⟩,h.still,h.le.trans hs.le⟩
  .rw[hs.keep b (lC hb h.kp.size) (λa x=>h.kp.old a b x hb)]
   exact h.kp.block b hb
  .rcases hs.new a b x with y|⟨y,_⟩
   .exact h.kp.old a b y hb
   .have:=h.kp.size;omega
  .rcases hs.new a b x with y|⟨y,_⟩
   .exact h.sh.rel a b y l hl
   .exact h.sh.new l b hl y
def tauA (R:Pr)(St:Nat->Prop)(W0:aE):cF:=⟨λb=>∃a,R a b/\¬St a,λb=>b<W0.heap.size\/∃a,R a b/\St a,λ_=>False⟩
def zDq {R:Pr}:vH (tauA R St W0) R St:=λa b x=>⟨λh=>.inr ⟨a,x,h⟩,λh=>⟨a,x,h⟩⟩
variable {m':Fm}
theorem BO.aloneIn {R:Pr}{m:Fm}{w W:aE}(h:BO (D3 p gs fs Post Shun W0 St K R base) () m w)(hw:cT (SF fs) K R (oZ p) St w W)(hm:FmW (D3 p gs fs Post Shun W0 St K R base) R m m')(lK:Sh W0.heap.size Shun R W)(hk:Kp W0 R St W):
 J p Post Shun W.heap.size (G m'.fr base) W:=by
 have:=h R W m' (tauA R St W0) hw hm zDq ⟨hk,lK,λb hb=>.inl hb,.refl R⟩;rw[Cx.B_some rfl] at this;have e:fx [] (D3 p gs fs Post Shun W0 St K R base).ds m'=m'.fr:=F6 _;rw[e] at this;refine this (λb hb=>?_) lK.new;rcases hb with⟨a,x,_⟩|hb|⟨a,x,_⟩
 .exact⟨(hw.lt a b (.inl x)).2,lK.rel a b x⟩
 .exact⟨lC hb hk.size,λl hl=>lK.old l b hl hb⟩
 .exact⟨(hw.lt a b (.inl x)).2,lK.rel a b x⟩
theorem BO.aloneOut {op zmS:aO->Bool}{m:Fm}{ms ms':List Fm}(hm:oT (PL p op zmS) fs K R0 m m')(jA:uG (PL p op zmS) fs K R0 ms ms')(sC:base=m'.fr::ms'.map Fm.fr){ops:Array aZ}{i:Nat}{rest:List Nat}{k:List Item}(hr:m.ret=false)(p8:m.todo=.inRegion ops (i::rest)::k)
 {f:aO} {tmps:Array aF} {todo:List Item} {w:aE} {v:aF} {fnf:Func} (hf:p.funcs[f]? =some fnf) (l6:Cw fnf.results.toList) (hv:(oH fnf.results.toList tmps).run p w=.ok v w) (hJ:JL p op zmS fs St W0 Post (m.fin ops i rest k v) ms w):
 BO (D3 p gs fs Post Shun W0 St K R0 base) () ⟨f,tmps,todo,true⟩ w:=by
 intro R W x' τ hw hx ht hi;have hi:IA W0 St Shun R0 R τ W:=hi;obtain⟨f',bQ,yW,yL⟩:=x';obtain rfl:=hx.fn;obtain rfl:=hx.todo;obtain rfl:=hx.ret;have vT:m'.ret=false:=hm.ret.symm.trans hr;have O5:m'.todo=.inRegion ops (i::rest)::k:=hm.todo.symm.trans p8;refine Cx.ownQ rfl λaV s=>?_;have hC:=dA (p:=p) (gs:=gs) (fs:=fs) (Post:=Post) (Shun:=Shun) (W0:=W0) (St:=St) (K:=K) (R0:=R0) (base:=base);have dI:cT (SF fs) K R (oZ p) St w aV:=Cx.Rel.suf (C:=D3 p gs fs Post Shun W0 St K R0 base) hw ht s;have yI:IA W0 St Shun R0 R τ aV:=hC.suf _ _ _ _ hi s
 let T:Tape:=λn q=>aV.tape (aV.drawn+n) q
 have yN:cT (SF fs) K R (oZ p) St (Tt.tp w T 0) aV:=⟨dI.inj,dI.inj',dI.lt,dI.low,dI.gle,dI.cont,dI.rest,dI.st,dI.np,dI.tb⟩;have Lb:Tp (Tt.tp w T 0) aV:=λn q=>by show aV.tape (aV.drawn+(0+n)) q=_;rw[Nat.zero_add]
 have cG:=(Qf _ _ w v w hv).2 T 0;obtain⟨R1,v',W1,ev,e1,g3,e3,e4,e5⟩:=aG.run (P:=PS p gs) rfl _ (zkz hx.tmps fnf.results.toList) yN Lb cG;obtain⟨zgE,_⟩:=Qf _ _ aV v' W1 e1;subst zgE;have Qm:(zX p ⟨f,bQ,todo,true⟩ [m']).run p W1=.ok (m'.fin ops i rest k v',[]) W1:=(Lj O5 hf e1).1;obtain⟨_,_,_,e⟩:=zfa (main:=true) rfl vT Qm [] .nil (ms'.map Fm.fr);rw[F6,F6] at e;have U6:fx [] (D3 p gs fs Post Shun W0 St K R0 base).ds ⟨f,bQ,todo,true⟩=(⟨f,bQ,todo,true⟩:Fm).fr:=F6 _;rw[U6];have S9:∀e∈seen p f ((zX p ⟨f,bQ,todo,true⟩ [m']).events p W1 #[]),Fs R1 St e:=λe he=>by
  rw[(Lj O5 hf e1).2,e4] at he;exact e5 e (by simpa using mem_seen he)
 have Bn:∀a b,R1 a b->R a b\/(W1.heap.size<=b/\b<W1.heap.size):=λa b x=>by
  rcases e3.new a b x with y|⟨_,y⟩
  .exact .inl y
  .exact .inr ⟨y,(e3.rel.ltR a b x).2⟩
 have Gg:vH (τ.grow W1 W1) R1 St:=λa b x=>by
  rcases e3.new a b x with y|⟨y1,y2⟩
  .exact⟨(ht a b y).1,λz=>.inl ((ht a b y).2 z)⟩
  .have:=(e3.rel.ltR a b x).2;omega
 have zJ:IA W0 St Shun R0 R1 (τ.grow W1 W1) W1:=hC.step R τ W1 R1 W1 yI ht ⟨e3.le,rfl,rfl,rfl,aX _,Bn,λ_ _ _=>rfl⟩;refine⟨G (m'.fin ops i rest k v').fr (ms'.map Fm.fr),W1,_,?_,rfl,zO.id _ _,λe he=>zeO (S9 e he) Gg,?_⟩
 .show stepG p true (G (Fm.fr _) base) W1=_
  rw[sC];exact e
 .rw[Cx.B_some rfl]
  intro _ _;have Sj:cT (SF fs) K R1 (oZ p) St w W1:=⟨e3.rel.inj,e3.rel.inj',e3.rel.lt,e3.rel.low,e3.rel.gle,e3.rel.cont,e3.rel.rest,e3.rel.st,e3.rel.np,e3.rel.tb⟩;have hle:R0.le R1:=yI.le.trans e3.le;exact hJ K R1 W1 _ ms' Shun Sj ((hm.mono hle).fin p8 g3) (jA.mono hle) zJ.sh zJ.kp
end
end Go.Mt
namespace Go.Mt
open Go.Conc Go.Tt Go.RowKit Go.Conc.Lib Go.ConcR.Gen
open Go.ConcR (KK wgBlock WgAt stA smA rd wr mk Payload DC0)
variable [Payload]{Lk:WgLink}
section
variable {p:bS}
theorem zzr (H:WgLib p Lk)(Wg:Nat):Eg p Lk.wait #[.pointer (some ⟨Wg,0,none⟩)] .normal=(J1 Lk.wait).at ⟨#[.pointer (some ⟨Wg,0,none⟩),aA,aA,aA,aA,aA,aA,aA,aA,aA,aA,aA,aA,aA,aA,aA,aA,aA,aA,aA,aA,aA,aA,aA,aA,aA,aA,aA,aA,aA,aA,aA,aA,aA,aA,aA,aA,aA,aA,aA,aA,aA,aA,aA,aA,aA,aA,aA,aA,aA,aA,aA,aA,aA,aA,aA,aA,aA,aA,aA,aA,aA,aA,aA,aA,aA,aA,aA,aA,aA,aA,aA,aA,aA,aA,aA,aA,aA,aA,aA,aA,aA,aA,aA],[]⟩ [.code (body_wait Lk)]:=by
 have h:=zrs (P:=p) (f:=Lk.wait) (fn:=waitFn Lk) (c:=body_wait Lk) #[.pointer (some ⟨Wg,0,none⟩)] H.f_wait rfl;rw[h];have e:(waitFn Lk).ntmps=84:=rfl;rw[e]
 walk_nrm
theorem zEZ (H:WgLib p Lk)(Wg:Nat):Eg p Lk.add #[.pointer (some ⟨Wg,0,none⟩),.int .i64 1] .normal=(J1 Lk.add).at ⟨#[.pointer (some ⟨Wg,0,none⟩),.int .i64 1,aA,aA,aA,aA,aA,aA,aA,aA,aA,aA,aA,aA,aA,aA,aA,aA,aA,aA,aA,aA,aA,aA,aA,aA,aA,aA,aA,aA,aA,aA,aA,aA,aA,aA,aA,aA,aA,aA,aA,aA,aA,aA,aA,aA,aA,aA,aA,aA,aA,aA,aA,aA,aA,aA,aA,aA,aA,aA,aA,aA,aA,aA,aA,aA,aA,aA,aA,aA,aA,aA,aA,aA,aA,aA,aA,aA,aA,aA,aA,aA,aA,aA,aA,aA,aA,aA,aA,aA,aA,aA,aA,aA,aA,aA,aA,aA,aA,aA,aA,aA,aA,aA,aA,aA,aA,aA,aA,aA,aA,aA,aA,aA,aA,aA,aA],[]⟩ [.code (Nn Lk)]:=by
 have h:=zrs (P:=p) (f:=Lk.add) (fn:=addFn Lk) (c:=Nn Lk) #[.pointer (some ⟨Wg,0,none⟩),.int .i64 1] H.f_add rfl;rw[h];have e:(addFn Lk).ntmps=117:=rfl;rw[e]
 walk_nrm
end
section
variable {L:Type}{C:Cx L}{l nx:L}{I0:Pr->cF->aE->Prop}
theorem zrC (hC:C.ty=Lk.tWg)(hX:IX Lk.tWg C.Wg I0){R:Pr}{τ:cF}{w:aE}(ht:vH τ R C.St):G0 Lk.tWg C.Wg τ (λW=>C.Rel R w W/\I0 R τ W):=by
 refine⟨λW W' s hF=>⟨zjN hF.1 ht (λa b x=>(hF.1.lt a b (.inr x)).2) s,hX.suf _ _ _ _ hF.2 s⟩,λW a v ha hF=>⟨?_,hX.cell _ _ _ _ _ hF.2 ha⟩⟩;exact cT.real hF.1 (λx b hx=>zbP W a v (by rw[ha];exact hX.rel _ _ _ hF.2 x b hx)) (by rw[I2];exact aX _)
theorem BO.add (H:WgLib C.p Lk)(ha:C.alone=none)(zgY:C.main=true)(Cc:C.ty=Lk.tWg)(hI:fE C)(zd5:C.I=yS Lk.tWg C.Wg I0)(hX:IX Lk.tWg C.Wg I0){fn:aO}{tmps:Array aF}{ops:Array aZ}{i:Nat}{rest:List Nat}{k:List Item}{w:aE}{o:aZ}{s:Tmp}{kS:Array aM}
 (ho:ops[i]? =some o) (cD:dD o (yielded ops tmps)=true) (hop:o.op=.call ⟨.value (.func Lk.add),#[.tmp s,.const (.int .i64 1)],kS⟩) (Dj:(s,.pointer (some ⟨C.Wg,0,none⟩))∈C.pin) (lG:∀s,o.dst=some s->s∉C.S) (pT:C.A.act l=.add nx)
 (h:BO C nx ⟨fn,(cC ⟨tmps,[]⟩ o.dst (.tuple #[])).tmps,.inRegion ops rest::k,false⟩ w):BO C l ⟨fn,tmps,.inRegion ops (i::rest)::k,false⟩ w:=by
 intro R W m' τ hw hm ht hi;obtain⟨fn',bQ,yW,yL⟩:=m';obtain rfl:=hm.fn;obtain rfl:=hm.todo;obtain rfl:=hm.ret;have uE:=Hn (C:=C) hm.tmps cD;have h5:=hm.pins _ Dj;have hb:=C.ds.ok;rw[mI,Cx.B_none ha,zgY,Cc];rw[zd5] at hi;have kf:=zrC (C:=C) (w:=w) Cc hX ht;have Es:∀v,cC ⟨bQ,C.ds.ds⟩ o.dst v=⟨(cC ⟨bQ,[]⟩ o.dst v).tmps,C.ds.ds⟩:=λv=>by cases o.dst<;>rfl
 refine Ml rfl rfl (g':=G ((J1 Lk.add).at ⟨#[.pointer (some ⟨C.Wg,0,none⟩),.int .i64 1,aA,aA,aA,aA,aA,aA,aA,aA,aA,aA,aA,aA,aA,aA,aA,aA,aA,aA,aA,aA,aA,aA,aA,aA,aA,aA,aA,aA,aA,aA,aA,aA,aA,aA,aA,aA,aA,aA,aA,aA,aA,aA,aA,aA,aA,aA,aA,aA,aA,aA,aA,aA,aA,aA,aA,aA,aA,aA,aA,aA,aA,aA,aA,aA,aA,aA,aA,aA,aA,aA,aA,aA,aA,aA,aA,aA,aA,aA,aA,aA,aA,aA,aA,aA,aA,aA,aA,aA,aA,aA,aA,aA,aA,aA,aA,aA,aA,aA,aA,aA,aA,aA,aA,aA,aA,aA,aA,aA,aA,aA,aA,aA,aA,aA,aA],[]⟩ [.code (Nn Lk)]) ((C.ds.base fn).at ⟨bQ,C.ds.ds⟩ (.inRegion ops (i::rest)::k)::C.base)) (λGc s2=>?_) λGc s2=>?_
 .obtain⟨x1,x2⟩:=zbs (p:=C.p) (o:=o) hop (ρ:=(bH bQ C.ds.ds).eval) (λg=>rfl) H.f_add rfl rfl Gc
  have sZ:(#[.tmp s,.const (.int .i64 1)]:Array cN).map (bH bQ C.ds.ds).eval=#[.pointer (some ⟨C.Wg,0,none⟩),.int .i64 1]:=by simp only[uS,fK,tL,wH];rw[h5]
  rw[sZ] at x1;have zbc:=stepG_enter (main:=true) (b:=C.ds.base fn) (a:=⟨bQ,C.ds.ds⟩) (rest:=rest) (cs:=C.base) (k:=k) ho uE hb x1;rw[zbc];unfold listed;rw[x2,Bg,zEZ H]
 .refine addW (A:=C.A) (b₀:=C.ds.base fn) (a₀:=⟨bQ,C.ds.ds⟩) (ops₀:=ops) (i₀:=i) (rest₀:=rest) (k₀:=k) (cs:=C.base) (Fin:=C.Fin) (l:=l) (nx:=nx) (Wg:=C.Wg) H pT kf (λW5 h5 zA0=>?_) Gc ⟨kf.suf _ _ s2 ⟨hw,hi.1⟩,s2.live hi.2⟩
  have hB:=h R W5 ⟨fn,(cC ⟨bQ,[]⟩ o.dst (.tuple #[])).tmps,.inRegion ops rest::k,false⟩ τ h5.1 ⟨rfl,rfl,rfl,Ja (C:=C) hm.tmps (.tuple rfl λi v v' h=>by simp at h),Jn (C:=C) hm.pins lG⟩ ht (by rw[zd5];exact⟨h5.2,zA0⟩);rw[mI,Cx.B_none ha,zgY,Cc] at hB;rw[ho];simp only[Option.bind_some];rw[Es];exact hB
end
section
variable {L:Type}{C:Cx L}{l nx lc:L}
structure zmB (τ τm τc:cF)(pub:List Nat)(W:aE):Prop where
 own:∀b,τm.own b\/τc.own b->τ.own b
 still:∀b,τm.still b\/τc.still b->τ.still b\/τ.own b
 pass:∀b,τm.pass b\/τc.pass b->τ.pass b\/τ.own b\/τ.still b
 apart:∀b,τm.own b->¬τc.own b/\¬τc.still b/\¬τc.pass b
 apart':∀b,τc.own b->¬τm.still b/\¬τm.pass b
 pub:∀a∈pub,τ.own a/\Jq W a/\¬τm.own a/\¬τm.still a/\¬τc.own a/\¬τc.still a
theorem BO.go (ha:C.alone=none)(hI:fE C){fn:aO}{tmps:Array aF}{ops:Array aZ}{i j:Nat}{rest:List Nat}{k:List Item}{w:aE}{o1 o2:aZ}{s:Tmp}{f:aO}{Fv:Array cN}{pub:List Nat}
 (yE:ops[i]? =some o1) (zaF:ops[j]? =some o2) (qV:o1.guard=none) (yD:o2.guard=none) (zpF:o1.op=.makeFunc (.func f) #[] Fv) (Nj:o1.dst=some s) (zsI:o2.op=.go ⟨.value (.tmp s),#[],#[]⟩) (z8:o2.dst=none) (pT:C.A.act l=.spawn pub lc nx) (hs:s<tmps.size)
 (h:∀(R:Pr) (W:aE) (bQ:Array aF) (τ:cF),C.Rel R w W->bK (SF C.fs) C.K R tmps bQ->(∀x∈C.pin,bQ.getD x.1 aA=x.2)->vH τ R C.St->C.I R τ W->∃τm τc,zmB τ τm τc pub W/\
  b6 C.p C.ty C.Wg C.A C.Fin C.main (.usr nx) 0 τm (G ((C.ds.base fn).at ⟨bQ.setIfInBounds s (.func (.func f) #[] (Fv.map (bH bQ C.ds.ds).eval)),C.ds.ds⟩ (.inRegion ops rest::k)) C.base) W/\
  b6 C.p C.ty C.Wg C.A C.Fin false (.usr lc) 0 τc (born C.p {target:=.fn (.func f) (Fv.map (bH bQ C.ds.ds).eval),args:=#[]}) W):BO C l ⟨fn,tmps,.inRegion ops (i::j::rest)::k,false⟩ w:=by
 intro R W m' τ hw hm ht hi;obtain⟨fn',bQ,yW,yL⟩:=m';obtain rfl:=hm.fn;obtain rfl:=hm.todo;obtain rfl:=hm.ret;have hb:=C.ds.ok;rw[mI,Cx.B_none ha];have cJ:=Nat.lt_of_lt_of_eq hs hm.tmps.1;obtain⟨zJ7,zMR,type1,zxF,zog,zLQ⟩:=o1;obtain⟨zM1,zKY,type2,zsp,zrr,zM5⟩:=o2;simp only at qV yD zpF zsI Nj z8;subst qV yD zpF zsI Nj z8;have wn:∀{o:aZ} {t:Array aF},o.guard=none->dD o (yielded ops t)=true:=λh=>by unfold dD;rw[h]
 refine Ml rfl rfl (g':=G ((C.ds.base fn).at ⟨bQ.setIfInBounds s (.func (.func f) #[] (Fv.map (bH bQ C.ds.ds).eval)),C.ds.ds⟩ (.inRegion ops (j::rest)::k)) C.base) (λaV s1=>?_) λaV s1=>?_
 .have x1:(aS (bH bQ C.ds.ds).eval ⟨some s,.makeFunc (.func f) #[] Fv,type1,zxF,zog,none⟩).run C.p aV=.ok (.value (.func (.func f) #[] (Fv.map (bH bQ C.ds.ds).eval))) aV:=by simp[aS,go_sem,ztB,pure,bD]
  have x2:(aS (bH bQ C.ds.ds).eval ⟨some s,.makeFunc (.func f) #[] Fv,type1,zxF,zog,none⟩).events C.p aV #[]=#[]:=by simp[aS,go_sem,ztB]
  rw[stepG_value yE (wn rfl) hb x1];unfold listed;rw[x2,Bg];rfl
 .refine b6.usr rfl ?_
  unfold mF;rw[pT];refine⟨rfl,λGc s2=>?_⟩;have s3:=s1.trans s2;obtain⟨τm,τc,hp,Hf,nM⟩:=h R Gc bQ τ (hw.suf ht s3) hm.tmps hm.pins ht (hI.suf _ _ _ _ hi s3);refine⟨_,_,τm,τc,?_,rfl,rfl,hp.own,hp.still,hp.pass,hp.apart,hp.apart',hp.pub,Hf,nM⟩;have x0:(bH (bQ.setIfInBounds s (.func (.func f) #[] (Fv.map (bH bQ C.ds.ds).eval))) C.ds.ds).eval (.tmp s)=.func (.func f) #[] (Fv.map (bH bQ C.ds.ds).eval):=by
   simp[wH,Array.getD_eq_getD_getElem?,cJ]
  have x1:(aS (bH (bQ.setIfInBounds s (.func (.func f) #[] (Fv.map (bH bQ C.ds.ds).eval))) C.ds.ds).eval ⟨none,.go ⟨.value (.tmp s),#[],#[]⟩,type2,zsp,zrr,none⟩).run C.p Gc=.ok (.spawn {target:=.fn (.func f) (Fv.map (bH bQ C.ds.ds).eval),args:=#[]}) Gc:=by
   simp only[aS,resolve,x0];simp[Bt,go_sem]
  have x2:(aS (bH (bQ.setIfInBounds s (.func (.func f) #[] (Fv.map (bH bQ C.ds.ds).eval))) C.ds.ds).eval ⟨none,.go ⟨.value (.tmp s),#[],#[]⟩,type2,zsp,zrr,none⟩).events C.p Gc #[]=#[]:=by
   simp only[aS,resolve,x0];simp[Bt,go_sem]
  rw[stepG_spawn zaF (wn rfl) hb x1 rfl];unfold listed;rw[x2,Bg];rfl
end
end Go.Mt
namespace Go.Mt
open Go.Conc Go.Tt
open Go.ConcR (KK wgBlock WgAt stA smA rd wr mk Payload DC0)
inductive xN (S:aO->Prop)(K R:Pr):List aF->List aF->Prop
 |nil:xN S K R [] []
 |cons {v v':aF} {l l':List aF}:VR S K R v v'->xN S K R l l'->xN S K R (v::l) (v'::l')
variable {S:aO->Prop}{K R:Pr}{l l':List aF}
theorem xN.len (h:xN S K R l l'):l.length=l'.length:=by
 induction h with
 |nil=>rfl
 |cons _ _ ih=>simp[ih]
theorem xN.get (h:xN S K R l l'):∀(i:Nat) (v v':aF),l[i]? =some v->l'[i]? =some v'->VR S K R v v':=by
 induction h with
 |nil=>intro i v v' h1;simp at h1
 |cons a _ ih=>
  intro i v v' h1 h2
  cases i with
  |zero=>
   simp only[List.getElem?_cons_zero,fT] at h1 h2;subst h1 h2;exact a
  |succ i=>exact ih i v v' Q9 Ts
theorem ztu (h:xN S K R l l'):bK S K R l.toArray l'.toArray:=
 ⟨by simpa using h.len,λi v v' h1 h2=>h.get i v v' Q9 Ts⟩
structure IM2 (W0:aE)(St:Nat->Prop)(Shun:Loc->Prop)(Wg:Nat)(SS:Nat->Prop)(R0:Pr)(Fz:Nat->Prop)(Wf:aE)(chs:List Nat)(R:Pr)(τ:cF)(W:aE):Prop where
 x:IMX W0 St Shun Wg SS R0 Fz Wf R τ W
 dis:∀b,τ.own b->¬τ.still b
 slt:∀b,τ.still b->b<W.heap.size
 ch:∀c∈chs,τ.own c/\Jq W c/\∀a,¬R a c
section
variable {W0:aE}{St:Nat->Prop}{Shun:Loc->Prop}{Wg:Nat}{SS:Nat->Prop}{R0:Pr}{Fz:Nat->Prop}{Wf:aE}{chs:List Nat}
def Jq.lt {W:aE}{c:Nat}(h:Jq W c):c<W.heap.size:=(dO.1 h).1
theorem zoE {ty:aM}(vI:∀b,b<W0.heap.size->SS b)(hF:∀b,Fz b->SS b)(nO:W0.heap.size<=Wg):IX ty Wg (IM2 W0 St Shun Wg SS R0 Fz Wf chs):=by
 have hx:=zqt (ty:=ty) (St:=St) (Shun:=Shun) (Wg:=Wg) (R0:=R0) (Wf:=Wf) vI hF nO;refine⟨λR τ W aV h s=>⟨hx.suf _ _ _ _ h.x s,h.dis,λb hb=>lC (h.slt b hb) s.size,λc hc=>?_⟩,λR τ W a v h ha=>⟨hx.cell _ _ _ _ _ h.x ha,h.dis,λb hb=>by rw[I2];exact h.slt b hb,λc hc=>?_⟩,λR τ W d h=>⟨hx.at_ _ _ _ d h.x,h.dis,h.slt,h.ch⟩,λR τ W h=>h.x.im.rel⟩
 .obtain⟨h1,h2,h3⟩:=h.ch c hc
  exact⟨h1,(s.keep c (.inl h1)).trans h2,h3⟩
 .obtain⟨h1,h2,h3⟩:=h.ch c hc
  exact⟨h1,(zbP W a v (by rw[ha];exact h.x.im.own c h1)).trans h2,h3⟩
variable {L:Type}{C:Cx L}
theorem im2_ok (hC:C.I=yS C.ty C.Wg (IM2 W0 St Shun C.Wg SS R0 Fz Wf chs))(aY:∀a,St a->C.St a)(vI:∀b,b<W0.heap.size->SS b)(hF:∀b,Fz b->SS b)(nO:W0.heap.size<=C.Wg):fE C:=by
 have h0:=imx_ok (C:={C with I:=yS C.ty C.Wg (IMX W0 St Shun C.Wg SS R0 Fz Wf)}) rfl aY vI hF nO;have hx:=zoE (ty:=C.ty) (St:=St) (Shun:=Shun) (R0:=R0) (Wf:=Wf) (chs:=chs) vI hF nO;refine⟨λR τ W aV h s=>?_,λR τ W R1 W1 h ht hs=>?_⟩<;>rw[hC] at*
 .exact⟨hx.suf _ _ _ _ h.1 s,s.live h.2⟩
 .obtain⟨k1,k2⟩:=h0.step R τ W R1 W1 ⟨h.1.x,h.2⟩ ht hs
  refine⟨⟨k1,λb hb Fu=>?_,λb hb=>lC (h.1.slt b hb) hs.size,λc hc=>?_⟩,k2⟩
  .rcases hb with hb|⟨hb,_⟩
   .exact h.1.dis b hb Fu
   .have:=h.1.slt b Fu;omega
  .obtain⟨h1,h2,h3⟩:=h.1.ch c hc
   refine⟨.inl h1,(hs.keep c h2.lt λa x=>absurd x (h3 a)).trans h2,λa x=>?_⟩;rcases hs.new a c x with y|⟨y,_⟩
   .exact h3 a y
   .have:=h2.lt;omega
variable {S:aO->Prop}{K R:Pr}{G:Gp}{eP:Nat->Prop}{w W:aE}{τ:cF}{X:Nat->Bool}
def Gv (R:Pr)(St:Nat->Prop)(X:Nat->Bool)(b:Nat):Prop:=∃a,R a b/\(St a\/X a=true)
def tauP (R:Pr)(St:Nat->Prop)(W0:aE)(chs:List Nat):cF:=⟨λb=>(∃a,R a b/\¬St a)\/b∈chs,λb=>b<W0.heap.size\/∃a,R a b/\St a,λ_=>False⟩
def terra_p:vH (tauP R St W0 chs) R St:=λa b x=>⟨λh=>.inr ⟨a,x,h⟩,λh=>.inl ⟨a,x,h⟩⟩
end
end Go.Mt
