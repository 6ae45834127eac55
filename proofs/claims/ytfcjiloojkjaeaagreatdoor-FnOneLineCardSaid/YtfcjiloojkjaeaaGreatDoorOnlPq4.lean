/-
  Part 4 of what stands behind the last text.
-/
import Derived.Lib.SlicesDelete
import Derived.Test.YtfcjiloojkjaeaaGreatDoorShelf
import Derived.Test.YtfcjiloojkjaeaaGreatDoorOnlPq3
set_option linter.all false
set_option maxHeartbeats 16000000
set_option maxRecDepth 100000
open Array renaming getElem?_eq_some_iff→eE,getElem?_mapIdx→Mr,getElem?_setIfInBounds_ne→rN,getElem?_toList→Cf,getElem_map→zix,getElem_range→zj0,getElem_toList→ziA,length_toList→Em,toList_modify→znX
open Bool renaming and_eq_true→iY
open Go renaming Act→uB,Addr→bD,Calls→iR,ChanDir→Mz,Deferred→Gr,Exit→n6,FuncId→aN,MapEntry→oV,Oper→aZ,Operand→cI,Program→bT,TypeId→aM,Value→aF,World→aE,bodyPost_ret→nF,execOp→aO,heap_alloc_new→gU,info_parts→Cg,run_append_room→zvc,run_storeCells_at→ztf,run_underlying→xJ,setRow_heap→Lf,size_zeroCells→Zp,undef→aA,wpList_plain→Rj
open Go.Act renaming eval→vT,mk→bJ,put→b7
open Go.Addr renaming add_lit→Kv
open Go.Builtin renaming append_→wQ,clear_→Qn,copy_→Dh,delete_→Lq,zeroCells→pU
open Go.Code renaming region→Ff
open Go.Conc renaming base→Kt,enter_at→zqs,seen_none→Df
open Go.ConcR.Gen renaming body_add→Mq
open Go.Deferred renaming ofValue→C0
open Go.Frame renaming enter→Hu
open Go.Instr renaming checkKey→G9,findAsking→Ka,findKey→Ls,findNow→Hb,keyThatStays→Pu,lookup→Ah,makeFunc→zrQ,mapUpdate→Hh,sameBits→zbQ,sameNow→wM
open Go.MapKept renaming run_getObj_map→X5,run_setObj_map→Wz
open Go.MemAct renaming ofEvent→jF,touch?→qZ
open Go.Op renaming mapUpdate→zqf,maxDepth→Ud
open Go.Oper renaming wp→Cy
open Go.Proofs.Tryz renaming checked→vN,func114→zup,func117→zqG,func119→zoi,ntmps114→zpO,ntmps117→zqh,ntmps119→zxR,prog→aK,results40→zgJ,underlying26→zxN,underlying38→Vs,underlying66→zqa,underlying69→zkT
open Go.Region renaming wanted→dG
open Go.Result renaming andThen→vF,andThen_ok→F9,ok→wP
open Go.RowKit renaming Below→cD
open Go.RowKit.Below renaming heap_alloc→rS,heap_setCell→dN,refl→fN
open Go.Sem renaming getObj→zxF,run→bK,run_bind→E0,run_pure→Jd
open Go.Value renaming agg→zlk,cells→U8,slice→Sv
open Go.World renaming cell?_of_block→Cv,news_of_block→Fc,size_setCell→wL
open List renaming all_eq_true→uD,any_eq_true→Xe,append_assoc→J0,append_nil→Nb,countP_cons→zaJ,drop_drop→znU,drop_eq_getElem_cons→zhn,filter_append→Ot,filter_eq_nil_iff→zvX,filter_eq_self→zfs,find?_eq_none→zfi,find?_some→ziP,foldl_cons→Pk,getD_cons_succ→Dp,getD_cons_zero→Dz,getElem?_drop→Xm,getElem?_eq_getElem→oX,getElem?_eq_some_iff→lR,getElem?_set→zav,getElem?_take→U3,length_append→jP,length_drop→xY,length_eq_zero_iff→zp6,length_modify→Np,length_set→zh9,length_take→sU,map_append→Sz,map_cons→jG,map_nil→tK,map_toArray→uR,mem_append→C3,mem_cons→lO,mem_cons_of_mem→Rv,mem_filter→L9,mem_iff_getElem→Kq,mem_iff_getElem?→At,mem_map→Sa,mem_of_find?_eq_some→zhW,mem_of_getElem?→dZ,mem_of_mem_drop→zcO,mem_range→D4,nodup_append→zm8,nodup_cons→Cw,nodup_nil→Wl,range→iX,setIfInBounds_toArray→gC,set_append_left→zpZ,set_cons_succ→dU,set_cons_zero→dV,size_toArray→Fg,take_add_one→Nv,take_append_drop→zuH,take_append_of_le_length→E5,take_of_length_le→Ee,take_take→P7
open Nat renaming add_mul→Yw,add_zero→S7,le_max_left→zsd,le_refl→bN,le_trans→eM,lt_irrefl→Jn,lt_of_lt_of_le→jW,min_self→zkZ,mod_two_eq_zero_or_one→zoI,mul_le_mul_right→H9,mul_one→zur,zero_le→mP
open Option.some renaming inj→cJ,injEq→jM
open Prod renaming fst→uC,snd→zt5
noncomputable section
namespace Go
theorem cT{P:Prop}(h:P:=by unfold parts;simp[e]):P:=h
theorem zfX{P:Prop}(h:P:=by simp[Act.eval,Act.put];first|exact⟨by simpa using hA,by omega⟩|simpa[zg5] using hA|(simp at hA;simp[hA])):P:=h
theorem zeY{P:Prop}(h:P:=by simp[Act.eval,Act.put]):P:=h
theorem zuR{P:Prop}(h:P:=by rw[jP,l1,uJ];have:=Yw i (n-j) 1;omega):P:=h
theorem ztg{P:Prop}(h:P:=by rw[jP,l1,uJ];have:=Yw i (n-j) 2;omega):P:=h
theorem zgZ{P:Prop}(h:P:=by unfold parts;simp):P:=h
theorem ziX{P:Prop}(h:P:=by have:=h.size;omega):P:=h
end Go
namespace Go.Proofs.YtfcjiloojkjaeaaGreatDoor
open Go.RowKit
structure sZ (w0 w:aE)(gb:Nat)(o:gG)(v:fO)(r:bY):Prop where
 ok:dR w gb v r
 bel:cD gb w0 w
 ofc:w.heap[gb]? =some (.cells #[.int .i64 o.ln,.int .i64 o.op,.int .i64 o.pt] 29)
 res:w.heap[gb+1]? =some kI
 blk:w.heap[gb+6]? =some (H6 v r)
 aR:gb+2<=v.gR/\v.gR≠gb+6
 aW:gb+2<=v.gW/\v.gW≠gb+6
 aB:gb+2<=v.gB/\v.gB≠gb+6
 aL:gb+2<=v.gL/\v.gL≠gb+6
 size:gb+7<=w.heap.size
section
variable {w0 w w':aE}{gb:Nat}{o:gG}{v v':fO}{r r':bY}
def sZ.keep (h:sZ w0 w gb o v r)(b:cD w.heap.size w w'):sZ w0 w' gb o v r:=
 ⟨h.ok.below b,h.bel.trans (b.mono ziX),(b.block _ (iB h.ofc)).trans h.ofc,(b.block _ (iB h.res)).trans h.res,(b.block _ (iB h.blk)).trans h.blk,h.aR,h.aW,h.aB,h.aL,eM h.size b.size⟩
def sZ.alloc (h:sZ w0 w gb o v r)(ob:Obj):sZ w0 (w.alloc ob) gb o v r:=h.keep (eD (fN _ _) ob)
def sZ.drew (h:sZ w0 w gb o v r):sZ w0 w.drew gb o v r:=h.keep ⟨rfl,rfl,rfl,bN _,λ_ _=>rfl⟩
theorem sZ.stepped (h:sZ w0 w gb o v r)(ok:dR w' gb v' r')(t:oL v w w')(m:xC w.heap.size v v'):
 cD gb w0 w'/\w'.heap[gb]? =w.heap[gb]? /\w'.heap[gb+1]? =w.heap[gb+1]? /\w'.heap[gb+6]? =w.heap[gb+6]? /\(gb+2<=v'.gR/\v'.gR≠gb+6)/\(gb+2<=v'.gW/\v'.gW≠gb+6)/\(gb+2<=v'.gB/\v'.gB≠gb+6)/\(gb+2<=v'.gL/\v'.gL≠gb+6)/\w.heap.size<=w'.heap.size:=by
 have aR:=h.aR;have aW:=h.aW;have aB:=h.aB;have aL:=h.aL;have mr:=m.r;have mw:=m.w;have mb:=m.b;have ml:=m.l;have sz:=h.size;refine⟨⟨t.os.trans h.bel.os,t.tape.trans h.bel.tape,t.output.trans h.bel.output,eM h.bel.size t.size,λb hb=>?_⟩,t.block _ aC aC aC,t.block _ aC aC aC,t.block _ aC aC aC,aC,aC,aC,aC,t.size⟩;exact(t.block b aC aC aC).trans (h.bel.block b hb)
theorem sZ.stored (ok:dR w gb v' r')(bel:cD gb w0 w)(e0:w.heap[gb]? =some (.cells #[.int .i64 o.ln,.int .i64 o.op,.int .i64 o.pt] 29))(e1:w.heap[gb+1]? =some kI)(e6:w.heap[gb+6]? =some (H6 v r))
 (a1:gb+2<=v'.gR/\v'.gR≠gb+6) (a2:gb+2<=v'.gW/\v'.gW≠gb+6) (a3:gb+2<=v'.gB/\v'.gB≠gb+6) (a4:gb+2<=v'.gL/\v'.gL≠gb+6) (sz:gb+7<=w.heap.size):
 sZ w0 (gP w (gb+6) (.int .i64 r'.o.ln) (.int .i64 r'.o.op) (.int .i64 r'.o.pt) (.int .i64 r'.clk) (v'.sR r') (v'.sW r') (v'.sB r') (v'.sL r')) gb o v' r':=by
 refine⟨ok.set8 aC,?_,(G3 aC).trans e0,(G3 aC).trans e1,zdk e6,a1,a2,a3,a4,by rw[zka];exact sz⟩;have c:=zhv w (gb+6) (.int .i64 r'.o.ln) (.int .i64 r'.o.op) (.int .i64 r'.o.pt) (.int .i64 r'.clk) (v'.sR r') (v'.sW r') (v'.sB r') (v'.sL r');exact bel.trans ⟨c.os,c.tape,c.output,c.size,λb hb=>c.block b aC aC⟩
theorem sZ.appL {m g c:Nat}{x:List UInt8}(h:sZ w0 w gb o v r)(hg:w.grownBy w' (some v.gL))(ho:w'.ownsRow gb 9 1 (.slice (some ⟨g,0,none⟩) m c) m (Gg r.log++[.string ⟨x.toArray⟩]))(hm:m=r.log.length+1)(hw:g=v.gL\/g=w.heap.size):
 sZ w0 (w'.setCell ⟨gb+6,7,none⟩ (.slice (some ⟨g,0,none⟩) m c)) gb o {v with gL:=g,cL:=c} {r with log:=r.log++[x]}:=by
 have aR:=h.aR;have aW:=h.aW;have aB:=h.aB;have aL:=h.aL;have sz:=h.size;have l:=h.ok.lts;have hk:=h.ok.appL hg ho hm aC;have hs:=hg.size;have kb:=(Af hg h.blk aC).1;have k0:=(Af hg h.ofc aC).1;have k1:=(Af hg h.res aC).1;have aS:g≠gb+6:=aC;refine⟨hk.setCell s9,?_,(dN w' _ _ gb aQ).trans k0,(dN w' _ _ (gb+1) aQ).trans k1,?_,aR,aW,aB,⟨by simp only;omega,aS⟩,by rw[wL];omega⟩
 .refine⟨hg.os.trans h.bel.os,hg.tape.trans h.bel.tape,hg.output.trans h.bel.output,by rw[wL];exact eM h.bel.size hs,λb hb=>?_⟩
  exact((dN w' _ _ b s9).trans (hg.block b aC pR)).trans (h.bel.block b hb)
 .rw[n8 kb]
  have e:=room_L v r g c (r.log++[x]);rw[hm];simp only[jP,List.length_cons,List.length_nil] at e;exact congrArg (λa=>some (Obj.cells a 59)) e
end
def zCC (o:gG)(es:List dX)(w:aE)(x:Ending)(w':aE):Prop:=
 ∃v,x=.returned (.tuple #[.agg (fP v (wS o es)),.bool (fJ o es)])/\dR w' w.heap.size v (wS o es)/\cD w.heap.size w w'
variable {w0 w:aE}{gb:Nat}{o:gG}{v:fO}{r:bY}
theorem sZ.done {a0 a1 a2 a3 a4 a5 a6 a7:aF}(h:sZ w0 w gb o v r):dR (gP w (gb+1) a0 a1 a2 a3 a4 a5 a6 a7) gb v r/\cD gb w0 (gP w (gb+1) a0 a1 a2 a3 a4 a5 a6 a7):=by
 have aR:=h.aR;have aW:=h.aW;have aB:=h.aB;have aL:=h.aL;refine⟨h.ok.set8 aC,?_⟩;have c:=zhv w (gb+1) a0 a1 a2 a3 a4 a5 a6 a7;exact h.bel.trans ⟨c.os,c.tape,c.output,c.size,λb hb=>c.block b ziX aC⟩
def sZ.doneR (h:sZ w0 w gb o v r)(v1:fO)(r1:bY):dR (gP w (gb+1) (.int .i64 r1.o.ln) (.int .i64 r1.o.op) (.int .i64 r1.o.pt) (.int .i64 r1.clk) (v1.sR r1) (v1.sW r1) (v1.sB r1) (v1.sL r1)) gb v r/\cD gb w0 (gP w (gb+1) (.int .i64 r1.o.ln) (.int .i64 r1.o.op) (.int .i64 r1.o.pt) (.int .i64 r1.clk) (v1.sR r1) (v1.sW r1) (v1.sB r1) (v1.sL r1)):=h.done
def zE6 {w':aE}{b g o1:Nat}{o2 o3 o4:Nat}{v1 v2 v3 v4:aF}(h:w.cell? ⟨b,o1,none⟩=some v1/\w.cell? ⟨b,o2,none⟩=some v2/\w.cell? ⟨b,o3,none⟩=some v3/\w.cell? ⟨g,o4,none⟩=some v4)(k1:w'.heap[b]? =w.heap[b]?)(k2:w'.heap[g]? =w.heap[g]?):
 w'.cell? ⟨b,o1,none⟩=some v1/\w'.cell? ⟨b,o2,none⟩=some v2/\w'.cell? ⟨b,o3,none⟩=some v3/\w'.cell? ⟨g,o4,none⟩=some v4:=
 ⟨(Cv k1).trans h.1,(Cv k1).trans h.2.1,(Cv k1).trans h.2.2.1,(Cv k2).trans h.2.2.2⟩
def zC6 {b g o1:Nat}{o2 o3 o4:Nat}{v1 v2 v3 v4:aF}(h:w.cell? ⟨b,o1,none⟩=some v1/\w.cell? ⟨b,o2,none⟩=some v2/\w.cell? ⟨b,o3,none⟩=some v3/\w.cell? ⟨g,o4,none⟩=some v4):
 w.drew.cell? ⟨b,o1,none⟩=some v1/\w.drew.cell? ⟨b,o2,none⟩=some v2/\w.drew.cell? ⟨b,o3,none⟩=some v3/\w.drew.cell? ⟨g,o4,none⟩=some v4:=h
def zEO (w:aE)(b:Nat):w.drew.heap[b]? =w.heap[b]? :=rfl
def zuv:(aK.info? 9).map (λi=>(i.zero,i.size,i.bytes))=some (some (.string ⟨#[]⟩),1,16):=aT
variable {es:List dX}
theorem X8 (h:fJ o es=false):wS o es=lY o:=by unfold wS;rw[h];rfl
theorem zEN (o:gG)(lo hi n c:Nat)(A:Option bD)(es:List dX)(w:aE)(h:cM w lo hi 3 A n c (sY es))(hn:n<=1048576)(zAx:hi<=w.heap.size):
 iR aK 40 #[.agg #[.int .i64 o.ln,.int .i64 o.op,.int .i64 o.pt],.slice A n c] w (zCC o es w):=by
 have Gf:=h.eventsLen;have Ov:=aD Gf;obtain⟨gb,eR⟩:=aP w.heap.size;have fR:=aD eR;clear Gf
 go_enter Tryz.func40,Tryz.ntmps40
 go_upto_region 2 with fail
 obtain⟨v0,gQ⟩:=aP (⟨w.heap.size+1+1,0,w.heap.size+1+1+1,0,w.heap.size+1+1+1+1,0,w.heap.size+1+1+1+1+1,0⟩:fO)
 obtain⟨W1,cO⟩:∃y,y=(((((((w.alloc (.cells #[.int .i64 o.ln,.int .i64 o.op,.int .i64 o.pt] 29)).alloc kI).alloc (.cells #[] 50)).alloc (.cells #[] 100)).alloc (.cells #[] 100)).alloc (.cells #[] 9)).alloc
  (.cells #[.int .i64 o.ln,.int .i64 o.op,.int .i64 o.pt,.int .i64 0,.slice (some ⟨w.heap.size+1+1,0,none⟩) 0 0,.slice (some ⟨w.heap.size+1+1+1,0,none⟩) 0 0,.slice (some ⟨w.heap.size+1+1+1+1,0,none⟩) 0 0,.slice (some ⟨w.heap.size+1+1+1+1+1,0,none⟩) 0 0] 59)):=⟨_,rfl⟩
 have eW:=aD (show sZ w W1 gb o v0 (lY o) by
  have lL:cD w.heap.size w W1:=by rw[cO];exact eD (eD (eD (eD (eD (eD (eD (fN _ _) _) _) _) _) _) _) _
  refine⟨⟨?_,?_,?_,?_,?_⟩,by rw[eR];exact lL,?_,?_,?_,?_,?_,?_,?_,?_⟩
  .rw[gQ];exact Oy Ki (by rw[cO];exact dD (dD (dD (dD (lV _ _ aQ) _) _) _) _)
  .rw[gQ];exact Oy Ki (by rw[cO];exact dD (dD (dD (lV _ _ aQ) _) _) _)
  .rw[gQ];exact Oy Ki (by rw[cO];exact dD (dD (lV _ _ aQ) _) _)
  .rw[gQ];exact Oy Ki (by rw[cO];exact dD (lV _ _ aQ) _)
  .simp_all
  .rw[cO];exact dD (dD (dD (dD (dD (dD (lV _ _ eR) _) _) _) _) _) _
  .rw[cO];exact dD (dD (dD (dD (dD (lV _ _ Zj) _) _) _) _) _
  .rw[cO,gQ];exact lV _ _ Zj
  .simp_all
  .simp_all
  .simp_all
  .simp_all
  .rw[cO,eR];simp)
 rw[<-cO];have e6:w.heap.size+1+1+1+1+1+1=gb+6:=aC;rw[e6,<-eR];clear cO gQ e6 eR;have q0:=aI eW.o.ofc 0;have q1:=aI eW.o.ofc 1;have q2:=aI eW.o.ofc 2;cases hv:rV o
 case false=>
  have fA:=aD (show fJ o es=false by unfold fJ;rw[hv];rfl)
  go_upto_region 3 with(go_at_call 34;refine(zl9 o W1).mono ?_;rintro x w2 ⟨rfl,b2⟩;have jK:=aD b2;rw[hv];clear b2)
  have mD:=aD (eW.o.keep jK.o);clear q0 q1 q2;have k:=aI mD.o.blk;obtain⟨k0,k1,k2,k3,k4,k5,k6,k7⟩:=eJ k;clear k;have z:=aI mD.o.res;obtain⟨z0,z1,z2,z3,z4,z5,z6,z7⟩:=eJ z;clear z;have r0:=eO mD.o.res
  go_wp2_with fail
  have er:=aI (sJ v0 (lY o) mD.o.res);refine nF (v:=.tuple #[.agg (fP (v0) (lY o)),.bool false]) ?_ rfl ?_
  .unfold gP at er
   simp[results,zgJ,go_sem,er]
  .obtain⟨d1,d2⟩:=mD.o.doneR v0 (lY o)
   exact⟨v0,by rw[fA.o];rw[X8 fA.o],by rw[X8 fA.o,<-fR.o];exact d1,by rw[<-fR.o];exact d2⟩
 case true=>
  by_cases za4:n<=60
  case neg=>
   have fA:=aD (show fJ o es=false by unfold fJ;rw[hv,Ov.o];simp;intro h;omega)
   go_upto_region 3 with(go_at_call 34;refine(zl9 o W1).mono ?_;rintro x w2 ⟨rfl,b2⟩;have jK:=aD b2;rw[hv];clear b2)
   have mD:=aD (eW.o.keep jK.o);clear q0 q1 q2;have k:=aI mD.o.blk;obtain⟨k0,k1,k2,k3,k4,k5,k6,k7⟩:=eJ k;clear k;have z:=aI mD.o.res;obtain⟨z0,z1,z2,z3,z4,z5,z6,z7⟩:=eJ z;clear z;have r0:=eO mD.o.res
   go_wp2_with fail
   have er:=aI (sJ v0 (lY o) mD.o.res);refine nF (v:=.tuple #[.agg (fP (v0) (lY o)),.bool false]) ?_ rfl ?_
   .unfold gP at er
    simp[results,zgJ,go_sem,er]
   .obtain⟨d1,d2⟩:=mD.o.doneR v0 (lY o)
    exact⟨v0,by rw[fA.o];rw[X8 fA.o],by rw[X8 fA.o,<-fR.o];exact d1,by rw[<-fR.o];exact d2⟩
  case pos=>
   have HV:=aD hv
   go_upto_region 4 with(go_at_call 34;refine(zl9 o W1).mono ?_;rintro x w2 ⟨rfl,b2⟩;have jK:=aD b2;rw[hv];clear b2)
   have mD:=aD (eW.o.keep jK.o);clear q0 q1 q2 hv
   go_wp2_with fail
   go_loopw [7] (λi wr=>∃k:Nat,k<=n/\i=.int .i64 k/\sZ w wr gb o v0 (lY o)/\∀j,j<k->∀e,es[j]? =some e->qX o.op e=true) (λi _=>n-(intOf i).toNat)
   case atStart=>exact⟨0,mP _,rfl,mD.o,λj hj=>absurd hj aC⟩
   case round=>
    obtain⟨k,hk,rfl,Yn,iW⟩:=hrel;have HC:=aD iW;have Xo:=aD Yn;clear iW Yn;by_cases aU:k<n
    .obtain⟨b,off,e,hA,eB,zFu,zl5,Fx,e0,e1,e2⟩:=(h.below (fR.o▸Xo.o.bel)).eventsAt aU
     subst hA;have Nn:=aD Fx;have zFO:b<gb:=by have:=fR.o;omega
     have i0:(0:Int)<=(k:Int):=aC;have i1:(k:Int)<(n:Int):=aC;have Hi:=aD (And.intro e0 (And.intro e1 (And.intro e2 (show wr.cell? ⟨gb,1,none⟩=some (.int .i64 o.op) from aI Xo.o.ofc 1))));have zpg:gb<wr.heap.size:=iB Xo.o.ofc;clear Fx e0 e1 e2
     go_wp2_with fail
     go_region_held3 (λW=>W.cell? ⟨b,off+k*3,none⟩=some (.string e.k)/\W.cell? ⟨b,off+k*3+1,none⟩=some (.int .i64 e.a)/\W.cell? ⟨b,off+k*3+2,none⟩=some (.int .i64 e.b)/\W.cell? ⟨gb,1,none⟩=some (.int .i64 o.op))
      (first|exact Hi.o|exact zC6 Hi.o|exact S5)
      ((go_at_call 50;refine(zli e o.op wr.drew).mono ?_;rintro y w5 ⟨rfl,b5⟩;have zfO:cD wr.heap.size wr w5:=⟨b5.os,b5.tape,b5.output,b5.size,b5.block⟩;have lJ:=aD zfO;have S5:=zE6 Hi.o (zfO.block b aC) (zfO.block gb aC);clear b5 zfO))
     cases nG:qX o.op e
     .have fA:=aD (show fJ o es=false by
       unfold fJ;rw[Bool.and_eq_false_iff];refine .inr (Bool.eq_false_iff.2 λsN=>?_);rw[uD] at sN;have:=sN e (dZ Nn.o);rw[nG] at this;cases this)
      have mD:=aD (Xo.o.keep lJ.o);clear nG S5;have k:=aI mD.o.blk;obtain⟨k0,k1,k2,k3,k4,k5,k6,k7⟩:=eJ k;clear k;have z:=aI mD.o.res;obtain⟨z0,z1,z2,z3,z4,z5,z6,z7⟩:=eJ z;clear z;have r0:=eO mD.o.res
      go_wp2_with fail
      have er:=aI (sJ v0 (lY o) mD.o.res);refine nF (v:=.tuple #[.agg (fP (v0) (lY o)),.bool false]) ?_ rfl ?_
      .unfold gP at er
       simp[results,zgJ,go_sem,er]
      .obtain⟨d1,d2⟩:=mD.o.doneR v0 (lY o)
       exact⟨v0,by rw[fA.o];rw[X8 fA.o],by rw[X8 fA.o,<-fR.o];exact d1,by rw[<-fR.o];exact d2⟩
     .go_wp2_with fail
      go_roundw
      case rel=>exact⟨k+1,aC,oH,Xo.o.keep lJ.o,λj hj e' N3=>by
       by_cases e:j=k
       .subst e;rw[Nn.o] at N3;injection N3 with N3;exact N3▸nG
       .exact HC.o j aC e' N3⟩
      case measure=>simp[intOf];omega
    .have e:k=n:=aC
     subst e;have bU:fJ o es=true:=by
      unfold fJ;rw[HV.o,Ov.o];simp only[Bool.true_and,iY,decide_eq_true_eq,uD];refine⟨za4,λe he=>?_⟩;obtain⟨j,hj⟩:=At.1 he;have uU:=(lR.1 hj).1;exact HC.o j (by rw[<-Ov.o];exact uU) e hj
     have fA:=aD bU;have zEy:=aD (K3 bU);clear bU
     go_wp2_with fail
     go_loopw [8] (λi wr=>∃(j:Nat) (v1:fO),j<=k/\i=.int .i64 j/\sZ w wr gb o v1 (l5 o es j)) (λi _=>k-(intOf i).toNat)
     case atStart=>exact⟨0,v0,mP _,rfl,Xo.o⟩
     case round=>
      obtain⟨j,v1,hj,rfl,Yn⟩:=hrel;obtain⟨tI,tC,tO⟩:=zEy.o j (by rw[Ov.o];exact hj);obtain⟨r1,jX⟩:=aP (l5 o es j);rw[<-jX] at Yn tI tC tO;have jC:=aD jX;have jR:=aD Yn;clear jX Yn;by_cases aU:j<k
      .obtain⟨b,off,e,hA,eB,zFu,zl5,Fx,e0,e1,e2⟩:=(h.below (fR.o▸jR.o.bel)).eventsAt aU
       subst hA;have zFO:b<gb:=by have:=fR.o;omega
       have i0:(0:Int)<=(j:Int):=aC;have i1:(j:Int)<(k:Int):=aC;have zq5:=aD (tI.good tC aC);have zh5:=aD (show qX r1.o.op e=true by
        rw[tO];have:=fA.o;unfold fJ at this;simp only[iY,uD] at this;exact this.2 e (dZ Fx))
       have zvl:=aD (Ut (o:=o) Fx);have o9:r1.log.length<=60:=by have:=tC.nl;omega
       have znm:=aD (And.intro e0 (And.intro e1 e2));have cK:=jR.o.size;have zpg:gb<=wr.heap.size:=aC;have zrB:=aD (RInv.step (e:=e) tI tC (by rw[tO];exact tO▸zh5.o) aC);clear tI tC tO Fx e0 e1 e2;have zeK:=aD (show∀W:aE,W.heap[b]? =wr.heap[b]? ->W.heap[gb+6]? =wr.heap[gb+6]? ->(W.cell? ⟨b,off+j*3,none⟩=some (.string e.k)/\W.cell? ⟨b,off+j*3+1,none⟩=some (.int .i64 e.a)/\W.cell? ⟨b,off+j*3+2,none⟩=some (.int .i64 e.b)/\W.cell? ⟨gb+6,0,none⟩=some (.int .i64 r1.o.ln)/\W.cell? ⟨gb+6,1,none⟩=some (.int .i64 r1.o.op)/\W.cell? ⟨gb+6,2,none⟩=some (.int .i64 r1.o.pt)/\W.cell? ⟨gb+6,3,none⟩=some (.int .i64 r1.clk)/\W.cell? ⟨gb+6,4,none⟩=some (v1.sR r1)/\W.cell? ⟨gb+6,5,none⟩=some (v1.sW r1)/\W.cell? ⟨gb+6,6,none⟩=some (v1.sB r1)/\W.cell? ⟨gb+6,7,none⟩=some (v1.sL r1)) from λW h1 h2=>by
        have k:=aI (h2.trans jR.o.blk);exact⟨(Cv h1).trans znm.o.1,(Cv h1).trans znm.o.2.1,(Cv h1).trans znm.o.2.2,k 0,k 1,k 2,k 3,k 4,k 5,k 6,k 7⟩)
       have Hi:=aD (zeK.o wr.drew rfl rfl);have zEH:=aD (zeK.o wr rfl rfl);have z6:gb+6<wr.heap.size:=aC;have zb:b<wr.heap.size:=aC;have aR:=jR.o.aR;have aB:=jR.o.aB
       go_wp2_with fail
       go_region_held3 (λW=>W.cell? ⟨b,off+j*3,none⟩=some (.string e.k)/\W.cell? ⟨b,off+j*3+1,none⟩=some (.int .i64 e.a)/\W.cell? ⟨b,off+j*3+2,none⟩=some (.int .i64 e.b)/\W.cell? ⟨gb+6,0,none⟩=some (.int .i64 r1.o.ln)/\W.cell? ⟨gb+6,1,none⟩=some (.int .i64 r1.o.op)/\W.cell? ⟨gb+6,2,none⟩=some (.int .i64 r1.o.pt)/\W.cell? ⟨gb+6,3,none⟩=some (.int .i64 r1.clk)/\W.cell? ⟨gb+6,4,none⟩=some (v1.sR r1)/\W.cell? ⟨gb+6,5,none⟩=some (v1.sW r1)/\W.cell? ⟨gb+6,6,none⟩=some (v1.sB r1)/\W.cell? ⟨gb+6,7,none⟩=some (v1.sL r1))
        (first|with_reducible exact Hi.o|with_reducible exact zEH.o|with_reducible exact zeK.o _ zrR zu3|(with_reducible refine zeK.o _ ?_ ?_<;>(repeat' (first|with_reducible assumption|with_reducible rfl|(refine(zEO _ _).trans ?_)|(refine(dN _ _ _ _ ?_).trans ?_;(first|omega|(simp;omega)))|(refine(rS _ _ _ ?_).trans ?_;(first|omega|(simp;omega)))))))
        (first|(go_at_call 51;refine(zqu gb v1 r1 e wr.drew jR.o.drew.ok zq5.o zpg zh5.o).mono ?_;rintro y w5 ⟨v5,rfl,bU,jO,wV⟩;obtain⟨r5,eN⟩:=aP ((eF r1 e).1:bY);obtain⟨t5,o0⟩:=aP ((eF r1 e).2:List UInt8);rw[<-eN] at bU⊢;rw[<-o0];have pG:=aD eN;have Cq:=aD o0;have wO:=aD bU;have uX:=aD jO;have oI:=aD wV;have zrR:w5.heap[b]? =wr.heap[b]? :=jO.block b zb aC aC;have zu3:w5.heap[gb+6]? =wr.heap[gb+6]? :=jO.block (gb+6) z6 aC aC;have z5:wr.heap.size<=w5.heap.size:=jO.size;have Nw:=aD jR.o.drew;clear eN o0 bU jO wV)|(go_at_call 51;refine(zqu gb v1 r1 e (wr.alloc kI).drew (jR.o.alloc kI).drew.ok zq5.o (by show gb<=(wr.alloc kI).heap.size;simp;omega) zh5.o).mono ?_;rintro y w5 ⟨v5,rfl,bU,jO,wV⟩;obtain⟨r5,eN⟩:=aP ((eF r1 e).1:bY);obtain⟨t5,o0⟩:=aP ((eF r1 e).2:List UInt8);rw[<-eN] at bU⊢;rw[<-o0];have pG:=aD eN;have Cq:=aD o0;have wO:=aD bU;have uX:=aD jO;have oI:=aD wV;have zrR:w5.heap[b]? =wr.heap[b]? :=(jO.block b (by show b<(wr.alloc kI).heap.size;simp;omega) aC aC).trans (rS wr kI b zb);have zu3:w5.heap[gb+6]? =wr.heap[gb+6]? :=(jO.block (gb+6) (by show gb+6<(wr.alloc kI).heap.size;simp;omega) aC aC).trans (rS wr kI _ z6);have z5:wr.heap.size<w5.heap.size:=(by have:=jO.size;have e:(wr.alloc kI).drew.heap.size=wr.heap.size+1:=aQ;omega);have kr:w5.heap[wr.heap.size]? =some kI:=(jO.block wr.heap.size aQ (by have:=jR.o.ok.lts;omega) (by have:=jR.o.ok.lts;omega)).trans (gU wr kI);have zHv:=aD kr;have z:=aI kr;have r0:=eO kr;have z0:=z 0;have z1:=z 1;have z2:=z 2;have z3:=z 3;have z4:=z 4;have z5:=z 5;have z7:=z 7;have zcV:=z 6;have Nw:=aD (jR.o.alloc kI).drew;clear eN o0 bU jO wV kr z))
       .
         obtain⟨W6,rF⟩:=aP (w5.alloc (H6 v5 r5));obtain⟨nb,nX⟩:=aP w5.heap.size;rw[<-rF,<-nX];have hN:W6.heap[nb]? =some (H6 v5 r5):=by rw[rF];exact lV _ _ nX
         have Tr:dR W6 gb v5 r5:=by rw[rF];exact wO.o.alloc _
         obtain⟨zbu,p0,p1,p6,a1,a2,a3,a4,zfp⟩:=Nw.o.stepped wO.o uX.o oI.o;have zaC:cD gb w W6:=by rw[rF];exact zbu.alloc aC _
         have q0:W6.heap[gb]? =some (.cells #[.int .i64 o.ln,.int .i64 o.op,.int .i64 o.pt] 29):=by rw[rF];exact(rS _ _ gb aC).trans (p0.trans Nw.o.ofc)
         have q1:W6.heap[gb+1]? =some kI:=by rw[rF];exact(rS _ _ (gb+1) aC).trans (p1.trans Nw.o.res)
         have q6:W6.heap[gb+6]? =some (H6 v1 r1):=by rw[rF];exact(rS _ _ (gb+6) aC).trans (p6.trans Nw.o.blk)
         have znB:gb+7<=W6.heap.size:=by rw[rF];simp;omega
         have Da:nb≠gb+6:=aC;clear rF nX zbu p0 p1 p6 zfp;have zGG:=aD hN;have zyD:=aD Tr;have zbs:r5.log=r1.log:=by rw[pG.o];exact zrB.o.2.2.2
         have zHp:r5.log.length<=60:=by rw[zbs];exact o9
         have Ck:=aD (sZ.stored Tr zaC q0 q1 q6 a1 a2 a3 a4 znB);have k:=aI hN;obtain⟨k0,k1,k2,k3,k4,k5,k6,k7⟩:=eJ k;have z:=aI q6;obtain⟨z0,z1,z2,z3,z4,z5,zcV,z7⟩:=eJ z;have r0:=eO q6;clear k z hN Tr zaC q0 q1 q6 zbs
         go_upto_region 14 with fail
         obtain⟨W7,Cc⟩:=aP (gP W6 (gb+6) (.int .i64 r5.o.ln) (.int .i64 r5.o.op) (.int .i64 r5.o.pt) (.int .i64 r5.clk) (v5.sR r5) (v5.sW r5) (v5.sB r5) (v5.sL r5));rw[<-Cc] at Ck;unfold gP at Cc;rw[<-Cc];clear Cc k0 k1 k2 k3 k4 k5 k6 k7 z0 z1 z2 z3 z4 z5 zcV z7 r0;have k7:=aI Ck.o.blk 7;have zDT:=Ck.o.size;have zmH:=Ck.o.aL;obtain⟨ii,P4,fV,dM,jJ⟩:=Cg zuv;have zah:=aD P4;clear P4
         go_wp2_with (at_builtin;refine zhX _ rfl (.tmp 58) (.tmp 60) 26 rfl gb 9 ii (.string ⟨#[]⟩) 1 16 zxN zah.o fV dM jJ rfl aH v5.gL v5.cL r5.log.length (Gg r5.log) rfl ((Ck.o.alloc _).ok.lg) ⟨_,0,none⟩ 1 1 [.string ⟨t5.toArray⟩] rfl rfl ?c2 Mk ?c5 ?c6 ?c7 ?_;(case c2=>exact Fc (cs:=#[.string ⟨t5.toArray⟩]) (gU _ _));(case c5=>unfold maxLen;omega);(case c6=>omega);(case c7=>(simp;omega));intro g9 c9 w9 za8 Si B9 zdr;have zmX:=aD ((Ck.o.alloc _).appL Si za8 rfl zdr);have kx:=(Af Si (dD Ck.o.blk _) (Ne.symm zmH.2)).1;have zBF:=aI kx 7;have xV:=eO kx;clear za8 Si B9 zdr kx)
         go_roundw
         case rel=>
          refine⟨j+1,{v5 with gL:=g9,cL:=c9},aC,oH,?_⟩;rw[zvl.o,<-jC.o];have e:Fi (eF r1 e)={r5 with log:=r5.log++[t5]}:=by rw[pG.o,Cq.o];rfl
          rw[e];exact zmX.o
         case measure=>simp[intOf];omega
       .
         obtain⟨nb,nX⟩:=aP wr.heap.size;obtain⟨W6,rF⟩:=aP (gP w5 nb (.int .i64 r5.o.ln) (.int .i64 r5.o.op) (.int .i64 r5.o.pt) (.int .i64 r5.clk) (v5.sR r5) (v5.sW r5) (v5.sB r5) (v5.sL r5));obtain⟨zbu,p0,p1,p6,a1,a2,a3,a4,zfp⟩:=Nw.o.stepped wO.o uX.o oI.o;have l1:=jR.o.ok.lts;have mr:=oI.o.r;have mw:=oI.o.w;have mb:=oI.o.b;have ml:=oI.o.l;have eX:(wr.alloc kI).drew.heap.size=nb+1:=by rw[nX];show(wr.alloc kI).heap.size=_;simp
         rw[eX] at mr mw mb zfp;have hN:W6.heap[nb]? =some (H6 v5 r5):=by rw[rF,nX];exact zdk zHv.o
         have Tr:dR W6 gb v5 r5:=by rw[rF];exact wO.o.set8 aC
         have Yr:=zhv w5 nb (.int .i64 r5.o.ln) (.int .i64 r5.o.op) (.int .i64 r5.o.pt) (.int .i64 r5.clk) (v5.sR r5) (v5.sW r5) (v5.sB r5) (v5.sL r5);have zaC:cD gb w W6:=by rw[rF];exact zbu.trans ⟨Yr.os,Yr.tape,Yr.output,Yr.size,λx hx=>Yr.block x aC aC⟩
         have q0:W6.heap[gb]? =some (.cells #[.int .i64 o.ln,.int .i64 o.op,.int .i64 o.pt] 29):=by rw[rF];exact(G3 aC).trans (p0.trans Nw.o.ofc)
         have q1:W6.heap[gb+1]? =some kI:=by rw[rF];exact(G3 aC).trans (p1.trans Nw.o.res)
         have q6:W6.heap[gb+6]? =some (H6 v1 r1):=by rw[rF];exact(G3 aC).trans (p6.trans Nw.o.blk)
         have znB:gb+7<=W6.heap.size:=by rw[rF,zka];omega
         have Da:nb≠gb+6:=aC;unfold gP at rF;rw[<-nX,<-rF];clear rF nX zbu p0 p1 p6 zfp Yr l1 mr mw mb ml eX z0 z1 z2 z3 z4 z5 zcV z7 r0;have zGG:=aD hN;have zyD:=aD Tr;have zbs:r5.log=r1.log:=by rw[pG.o];exact zrB.o.2.2.2
         have zHp:r5.log.length<=60:=by rw[zbs];exact o9
         have Ck:=aD (sZ.stored Tr zaC q0 q1 q6 a1 a2 a3 a4 znB);have k:=aI hN;obtain⟨k0,k1,k2,k3,k4,k5,k6,k7⟩:=eJ k;have z:=aI q6;obtain⟨z0,z1,z2,z3,z4,z5,zcV,z7⟩:=eJ z;have r0:=eO q6;clear k z hN Tr zaC q0 q1 q6 zbs
         go_upto_region 14 with fail
         obtain⟨W7,Cc⟩:=aP (gP W6 (gb+6) (.int .i64 r5.o.ln) (.int .i64 r5.o.op) (.int .i64 r5.o.pt) (.int .i64 r5.clk) (v5.sR r5) (v5.sW r5) (v5.sB r5) (v5.sL r5));rw[<-Cc] at Ck;unfold gP at Cc;rw[<-Cc];clear Cc k0 k1 k2 k3 k4 k5 k6 k7 z0 z1 z2 z3 z4 z5 zcV z7 r0;have k7:=aI Ck.o.blk 7;have zDT:=Ck.o.size;have zmH:=Ck.o.aL;obtain⟨ii,P4,fV,dM,jJ⟩:=Cg zuv;have zah:=aD P4;clear P4
         go_wp2_with (at_builtin;refine zhX _ rfl (.tmp 58) (.tmp 60) 26 rfl gb 9 ii (.string ⟨#[]⟩) 1 16 zxN zah.o fV dM jJ rfl aH v5.gL v5.cL r5.log.length (Gg r5.log) rfl ((Ck.o.alloc _).ok.lg) ⟨_,0,none⟩ 1 1 [.string ⟨t5.toArray⟩] rfl rfl ?c2 Mk ?c5 ?c6 ?c7 ?_;(case c2=>exact Fc (cs:=#[.string ⟨t5.toArray⟩]) (gU _ _));(case c5=>unfold maxLen;omega);(case c6=>omega);(case c7=>(simp;omega));intro g9 c9 w9 za8 Si B9 zdr;have zmX:=aD ((Ck.o.alloc _).appL Si za8 rfl zdr);have kx:=(Af Si (dD Ck.o.blk _) (Ne.symm zmH.2)).1;have zBF:=aI kx 7;have xV:=eO kx;clear za8 Si B9 zdr kx)
         go_roundw
         case rel=>
          refine⟨j+1,{v5 with gL:=g9,cL:=c9},aC,oH,?_⟩;rw[zvl.o,<-jC.o];have e:Fi (eF r1 e)={r5 with log:=r5.log++[t5]}:=by rw[pG.o,Cq.o];rfl
          rw[e];exact zmX.o
         case measure=>simp[intOf];omega
      .have e:j=k:=aC
       subst e;have zgH:=aD (show wS o es=r1 by unfold wS;rw[fA.o,<-zdj,Ov.o,<-jC.o];exact if_pos rfl);clear tI tC tO aU;have k:=aI jR.o.blk;obtain⟨k0,k1,k2,k3,k4,k5,k6,k7⟩:=eJ k;clear k;have z:=aI jR.o.res;obtain⟨z0,z1,z2,z3,z4,z5,z6,z7⟩:=eJ z;clear z;have r0:=eO jR.o.res
       go_wp2_with fail
       have er:=aI (sJ v1 r1 jR.o.res);refine nF (v:=.tuple #[.agg (fP (v1) (r1)),.bool true]) ?_ rfl ?_
       .unfold gP at er
        simp[results,zgJ,go_sem,er]
       .obtain⟨d1,d2⟩:=jR.o.doneR v1 r1
        exact⟨v1,by rw[fA.o];rw[zgH.o],by rw[zgH.o,<-fR.o];exact d1,by rw[<-fR.o];exact d2⟩
structure fK (b:bY):Prop where
 opn:∀(i j:Nat) (d e:bO),b.recs[i]? =some d->b.recs[j]? =some e->cS d=true->cS e=true->(d.c=e.c\/d.l=e.l\/(d.o=e.o/\0<d.o))->i=j
 last:∀(i j:Nat) (d e:bO),b.recs[i]? =some d->cS d=true->b.recs[j]? =some e->e.c=d.c->j<=i
 wt:∀x∈b.wait,∃(i:Nat) (d:bO),b.recs[i]? =some d/\cS d=true/\d.c=x.c/\d.o=0
 bk:(b.back.map bF.c).Nodup
 bo:∀x∈b.back,gN b.recs x.c=none
variable {rs:List bO}{c:Int}
theorem znH (h:∀(i:Nat) (d:bO),rs[i]? =some d->cS d=true->d.c≠c):gN rs c=none:=by
 cases ho:gN rs c with
 |none=>rfl
 |some i=>
  obtain⟨d,h1,h2,h3⟩:=zH ho
  grind
theorem Jr (h:gN rs c=none):∀(i:Nat) (d:bO),rs[i]? =some d->cS d=true->d.c≠c:=by
 intro i d hd ho e;have:(gN rs c).isSome=true:=by
  rw[zbZ,Xe];exact⟨d,dZ hd,by unfold Bn;rw[ho,e];simp⟩
 simp_all
variable {b:bY}{i:Nat}{d:bO}
theorem fK.at_ (h:fK b)(hd:b.recs[i]? =some d)(ho:cS d=true):gN b.recs d.c=some i:=by
 cases e:gN b.recs d.c with
 |none=>exact absurd rfl (Jr e i d hd ho)
 |some j=>
  obtain⟨d',h1,h2,h3⟩:=zH e;rw[h.opn j i d' d h1 hd h3 ho (.inl h2)]
theorem E8 {r:bO}(h:(rs++[r])[i]? =some d):(i<rs.length/\rs[i]? =some d)\/(i=rs.length/\d=r):=by grind
theorem zf7 {r:bO}(h:rs[i]? =some d):(rs++[r])[i]? =some d:=by grind
variable {f:bO->bO}
theorem yI {j:Nat}{z:bO}(h:(rs.modify i f)[j]? =some z):∃d,rs[j]? =some d/\((i=j/\z=f d)\/(i≠j/\z=d)):=by grind
theorem Xw {j:Nat}(h:rs[j]? =some d)(aS:i≠j):(rs.modify i f)[j]? =some d:=by simp_all
theorem zdM (h:rs[i]? =some d):(rs.modify i f)[i]? =some (f d):=by simp_all
theorem zrK {xs:List bF}(h:(tV xs c).isSome=false):∀x∈xs,x.c≠c:=by
 unfold tV at h;simp_all
variable {l:Int}
theorem zcj (h:l∈oM o rs):∀(i:Nat) (d:bO),rs[i]? =some d->cS d=true->d.l≠l:=by
 intro i d hd ho e;unfold oM yA at h;have h2:=(L9.1 h).2;have:rD rs l=true:=by unfold rD;exact Xe.2 ⟨d,dZ hd,by simp[e,ho]⟩
 simp_all
variable {op:Int}
theorem zfL (h1:∀d∈rs,1<=d.c)(h:¬0<dL rs op):∀(i:Nat) (d:bO),rs[i]? =some d->cS d=true->d.o≠op:=by
 intro i d hd ho e;unfold dL at h
 cases hf:rs.find? (xK op) with
 |none=>
  have:=zfi.1 hf d (dZ hd);unfold xK at this;simp_all
 |some d'=>grind
theorem zmA (hu:∀(i j:Nat) (d e:bO),rs[i]? =some d->rs[j]? =some e->cS d=true->cS e=true->d.o=op->e.o=op->i=j)(hd:rs[i]? =some d)(ho:cS d=true)(he:d.o=op):dL rs op=d.c:=by
 unfold dL
 cases hf:rs.find? (xK op) with
 |none=>
  have:=zfi.1 hf d (dZ hd);unfold xK at this;simp_all
 |some d'=>
  obtain⟨j,hj⟩:=At.1 (zhW hf);have hp:=ziP hf;unfold xK at hp
  grind
theorem zsv (h:∀(i:Nat) (d:bO),rs[i]? =some d->cS d=true->d.o≠op):dL rs op=0:=by
 unfold dL
 cases hf:rs.find? (xK op) with
 |none=>rfl
 |some d'=>
  obtain⟨j,hj⟩:=At.1 (zhW hf);have hp:=ziP hf;unfold xK at hp
  grind
theorem zxL (rs:List bO)(op:Int):(∃(i:Nat) (d:bO),rs[i]? =some d/\cS d=true/\d.o=op/\dL rs op=d.c)\/((∀(i:Nat) (d:bO),rs[i]? =some d->cS d=true->d.o≠op)/\dL rs op=0):=by
 unfold dL
 cases hf:rs.find? (xK op) with
 |none=>
  refine .inr ⟨λi d hd ho e=>?_,rfl⟩;have:=zfi.1 hf d (dZ hd);unfold xK at this;simp_all
 |some d'=>
  obtain⟨j,hj⟩:=At.1 (zhW hf);have hp:=ziP hf;unfold xK at hp
  grind
variable {hh:Int}{wait back:List bF}
theorem fK.more (h:fK b){o:Int}{tt:Int}{clk:Int}(hc:gN b.recs c=none)(hl:∀(i:Nat) (d:bO),b.recs[i]? =some d->cS d=true->d.l≠l)(ho:o=0\/∀(i:Nat) (d:bO),b.recs[i]? =some d->cS d=true->d.o≠o)
  (hw:∀x∈wait,x∈b.wait\/(x.c=c/\o=0)) (hb:(back.map bF.c).Nodup) (q9:∀x∈back,x∈b.back/\x.c≠c):fK {b with recs:=b.recs++[⟨c,l,o,clk,hh,tt,dY⟩],wait:=wait,back:=back}:=by
 have hop:cS ⟨c,l,o,clk,hh,tt,dY⟩=true:=by unfold cS;rw[zaa];rfl
 refine⟨λi j d e hi hj hd he hx=>?_,λi j d e hi hd hj hx=>?_,λx hx=>?_,hb,λx hx=>?_⟩
 .rcases E8 hi with⟨yR,Bz⟩|⟨rfl,rfl⟩<;>rcases E8 hj with⟨Jg,Py⟩|⟨rfl,rfl⟩
  .exact h.opn i j d e Bz Py hd he hx
  .exfalso
   rcases hx with hx|hx|⟨hx,h0⟩
   .exact Jr hc i d Bz hd hx
   .exact hl i d Bz hd hx
   grind
  .exfalso
   rcases hx with hx|hx|⟨hx,h0⟩
   .exact Jr hc j e Py he hx.symm
   .grind
   grind
  .rfl
 .rcases E8 hi with⟨yR,Bz⟩|⟨rfl,rfl⟩<;>rcases E8 hj with⟨Jg,Py⟩|⟨rfl,rfl⟩
  .exact h.last i j d e Bz hd Py hx
  .exact absurd hx.symm (Jr hc i d Bz hd)
  .omega
  .exact bN _
 .rcases hw x hx with hx|⟨hx,h0⟩
  .obtain⟨i,d,h1,h2⟩:=h.wt x hx
   exact⟨i,d,zf7 h1,h2⟩
  .exact⟨b.recs.length,_,by simp_all,hop,hx.symm,h0⟩
 .obtain⟨h1,h2⟩:=q9 x hx
  refine znH λi d hd yO=>?_;rcases E8 hd with⟨_,h3⟩|⟨_,rfl⟩
  .exact Jr (h.bo x h1) i d h3 yO
  grind
theorem fK.ended (h:fK b)(hd:b.recs[i]? =some d)(Bo:cS d=true){e:ByteArray}(he:(e.toList==[111,112,101,110])=false)(hw:∀x∈wait,x∈b.wait/\x.c≠d.c)(hb:(back.map bF.c).Nodup)(q9:∀x∈back,x∈b.back\/x.c=d.c):
 fK {b with recs:=vD b i e,wait:=wait,back:=back}:=by
 have lE:∀z:bO,cS {z with t:=b.clk,e:=e}=false:=λz=>he;have old:∀(j:Nat) (z:bO),(vD b i e)[j]? =some z->cS z=true->i≠j/\b.recs[j]? =some z:=λj z hj hz=>by
  obtain⟨d',h1,⟨_,rfl⟩|⟨h2,rfl⟩⟩:=yI hj
  .simp_all
  .exact⟨h2,h1⟩
 refine⟨λp q x y hp hq hx hy hh=>?_,λp q x y hp hx hq hh=>?_,λx hx=>?_,hb,λx hx=>?_⟩
 .exact h.opn p q x y (old p x hp hx).2 (old q y hq hy).2 hx hy hh
 .obtain⟨d',h1,h2⟩:=yI hq
  refine h.last p q x d' (old p x hp hx).2 hx h1 ?_
  grind
 .obtain⟨h1,h2⟩:=hw x hx
  obtain⟨j,z,h3,h4,h5,h6⟩:=h.wt x h1;have aS:i≠j:=λe=>by grind
  exact⟨j,z,Xw h3 aS,h4,h5,h6⟩
 .refine znH λj z hj hz=>?_
  obtain⟨h1,h2⟩:=old j z hj hz;rcases q9 x hx with h3|h3
  .exact Jr (h.bo x h3) j z h2 hz
  .rw[h3]
   exact λe=>h1 (h.opn i j d z hd h2 Bo hz (.inl e.symm))
theorem fK.heard (h:fK b)(hd:b.recs[i]? =some d)(Bo:cS d=true)(hop:∀(j:Nat) (z:bO),b.recs[j]? =some z->cS z=true->z.o≠op)(hw:∀x∈wait,x∈b.wait/\x.c≠d.c):
 fK {b with recs:=b.recs.modify i λd=>{d with o:=op,h:=hh},wait:=wait}:=by
 have y5:∀z:bO,cS {z with o:=op,h:=hh}=cS z:=λz=>rfl;refine⟨λp q x y hp hq hx hy he=>?_,λp q x y hp hx hq he=>?_,λx hx=>?_,h.bk,λx hx=>?_⟩
 .obtain⟨u,h1,⟨e1,rfl⟩|⟨e1,rfl⟩⟩:=yI hp<;>obtain⟨v,h2,⟨e2,rfl⟩|⟨e2,rfl⟩⟩:=yI hq
  .omega
  .refine h.opn p q u y h1 h2 hx hy ?_
   grind
  .refine h.opn p q x v h1 h2 hx hy ?_
   grind
  .exact h.opn p q x y h1 h2 hx hy he
 .obtain⟨u,h1,e1⟩:=yI hp
  obtain⟨v,h2,e2⟩:=yI hq;have hu:cS u=true/\x.c=u.c:=by grind
  have hv:y.c=v.c:=by grind
  exact h.last p q u v h1 hu.1 h2 (by rw[<-hv,<-hu.2];exact he)
 .obtain⟨h1,h2⟩:=hw x hx
  obtain⟨j,z,h3,h4,h5,h6⟩:=h.wt x h1;have aS:i≠j:=λe=>by grind
  exact⟨j,z,Xw h3 aS,h4,h5,h6⟩
 .refine znH λj z hj hz=>?_
  obtain⟨u,h1,e1⟩:=yI hj;rcases e1 with⟨_,rfl⟩|⟨_,rfl⟩
  .exact Jr (h.bo x hx) j u h1 hz
  .exact Jr (h.bo x hx) j z h1 hz
variable {bt:bY×List UInt8}
def fK.log (h:fK bt.1):fK (Fi bt):=⟨h.opn,h.last,h.wt,h.bk,h.bo⟩
theorem fK.zero (o:gG):fK (lY o):=⟨λi j d e h=>by simp[lY] at h,λi j d e h=>by simp[lY] at h,λx hx=>by simp[lY] at hx,Wl,λx hx=>by simp[lY] at hx⟩
theorem Xy:(vK.toList==[111,112,101,110])=false:=by decide+kernel
theorem zfx:(vL.toList==[111,112,101,110])=false:=by decide+kernel
theorem Zg:(tW.toList==[111,112,101,110])=false:=by decide+kernel
theorem fK.rings (h:fK b)(c:bF):fK (oY b c).1:=by
 unfold oY;split
 .exact h
 .rename_i hk
  simp only[Bool.or_eq_true,not_or,Bool.not_eq_true] at hk;have hc:gN b.recs c.c=none:=Option.isSome_eq_false_iff.1 hk.1|>Option.isNone_iff_eq_none.1;have hb:=zrK hk.2;split
  .refine⟨h.opn,h.last,h.wt,?_,λx hx=>?_⟩
   .show((b.back++[c]).map bF.c).Nodup
    rw[Sz];refine zm8.2 ⟨h.bk,aQ,λa ha e he=>?_⟩
    grind
   .rcases C3.1 hx with hx|hx
    .exact h.bo x hx
    simp_all
  .rename_i l ls hf
   exact h.more (l:=l) hc (zcj Kb) (.inl rfl) (wait:=sE b.wait c) (λx hx=>by
    have:=(Z8 b.wait c).mem_iff.1 hx;rcases lO.1 this with rfl|h'
    .exact .inr ⟨rfl,rfl⟩
    .exact .inl h') h.bk (λx hx=>⟨hx,hb x hx⟩)
theorem fK.answers (h:fK b)(hr:RInv b)(op:Int):fK (nH b op).1:=by
 unfold nH;split
 .exact h
 .rename_i ht
  have hn:=zfL (λd hd=>(hr.recB d hd).1) ht;split
  .exact h
  .rename_i c cs hw
   split
   .exact h
   .rename_i i hi
    obtain⟨d,h1,h2,h3⟩:=zH hi;exact h.heard h1 h3 hn (wait:=dE b.wait c.c) λx hx=>⟨(Dr hx).1,by rw[h2];exact(Dr hx).2⟩
theorem fK.returns (h:fK b)(hr:RInv b)(op:Int):fK (l7 b op).1:=by
 unfold l7;split
 .exact h
 .rename_i ht
  have hn:=zfL (λd hd=>(hr.recB d hd).1) ht;split
  .exact h
  .rename_i c cs hw
   split
   .exact h
   .rename_i l ls hf
    exact h.more (l:=l) (h.bo c (by rw[hw];simp)) (zcj Kb) (.inr hn) (wait:=b.wait) (back:=dE b.back c.c) (λx hx=>.inl hx) (zgw h.bk) (λx hx=>Dr hx)
theorem fK.hangs (h:fK b)(c:Int):fK (mG b c).1:=by
 unfold mG;split
 .rename_i i hi
  obtain⟨d,h1,h2,h3⟩:=zH hi;have hw:∀x∈dE b.wait (B7 b.recs i),x∈b.wait/\x.c≠d.c:=λx hx=>⟨(Dr hx).1,by rw[<-Ua h1];exact(Dr hx).2⟩;split
  .exact h.ended h1 h3 Xy hw h.bk λx hx=>.inl hx
  .exact h.ended h1 h3 zfx hw h.bk λx hx=>.inl hx
 .split
  .exact⟨h.opn,h.last,h.wt,zgw h.bk,λx hx=>h.bo x (Dr hx).1⟩
  .exact h
theorem fK.tire {t:List UInt8}{x:bF}(h:fK b):fK (lW (b,t) x).1:=by
 unfold lW;split
 .exact h
 .rename_i i hi
  split
  .obtain⟨d,h1,h2,h3⟩:=zH hi
   refine h.ended (wait:=dE b.wait (B7 b.recs i)) (back:=b.back++[x]) h1 h3 Zg (λy hy=>⟨(Dr hy).1,by rw[<-Ua h1];exact(Dr hy).2⟩) ?_ λy hy=>?_
   .rw[Sz]
    refine zm8.2 ⟨h.bk,aQ,λa ha e he=>?_⟩;obtain⟨y,hy,rfl⟩:=Sa.1 ha;simp at he;subst he;exact λe=>Jr (h.bo y hy) i d h1 h3 (by rw[h2,e])
   grind
  .exact h
theorem fK.tires:∀(xs:List bF) (b:bY) (t:List UInt8),fK b->fK (xs.foldl lW (b,t)).1:=by
 intro xs
 induction xs with
 |nil=>intro b t h;exact h
 |cons x xs ih=>
  intro b t h;rw[Pk];have h1:=h.tire (t:=t) (x:=x);simp_all
theorem fK.step (h:fK b)(hr:RInv b)(e:dX):fK (eF b e).1:=by
 unfold eF;split
 .exact h.rings _
 .split
  .exact h.answers hr _
  .split
   .exact h.returns hr _
   .split
    .exact h.hangs _
    .unfold tG
     exact fK.tires _ _ _ ⟨h.opn,h.last,h.wt,h.bk,h.bo⟩
theorem zeG (h:fJ o es=true):∀k,k<=es.length->fK (l5 o es k):=by
 intro k
 induction k with
 |zero=>intro _;exact fK.zero o
 |succ k ih=>
  intro hk;have aU:k<es.length:=aC;rw[Ut (oX aU)];exact fK.log ((ih aC).step (K3 h k aC).1 _)
end Go.Proofs.YtfcjiloojkjaeaaGreatDoor
namespace Go.Mt
open Go.Conc
inductive fB where
 |ask (i:Nat) (kind call anz:Int)
 |shut (i:Nat)
inductive gI where
 |mN (qs:List Nat)
 |mA (qs:List Nat) (a:Nat)
 |mS (qs:List Nat) (a:Nat)
 |mW (qs:List Nat)
 |mZ
 |op (c:Nat) (call:Int) (m:Nat)
 |an (c:Nat) (call:Int) (a:Nat) (m:Nat)
 |oD
 |wk (qs:List Nat) (k:Nat)
 |wr (qs:List Nat) (k:Nat) (a:Nat)
def quV (kind call:Int)(a:Nat):Value:=.agg #[.int .i64 kind,.int .i64 call,.chan (some a)]
def unQ:aF->Option (Int×Int×Nat)
 | .agg xs=>match xs.toList with
  |[.int .i64 kd,.int .i64 cl,.chan (some a)]=>some (kd,cl,a)
  |_=>none
 |_=>none
def zd9 (kd cl:Int)(a:Nat):unQ (quV kd cl a)=some (kd,cl,a):=rfl
variable {kd cl:Int}
theorem unQ_inv {v:aF}{a:Nat}(h:unQ v=some (kd,cl,a)):v=quV kd cl a:=by
 unfold unQ at h;split at h
 .rename_i xs
  split at h
  .rename_i e
   simp only[jM,Prod.mk.injEq] at h;obtain⟨rfl,rfl,rfl⟩:=h;unfold quV;congr 1;exact Array.ext' e
  .cases h
 .cases h
def qa (qs:List Nat)(j:Nat):Nat:=qs.getD j 0
def Qx (c:Nat)(call:Int)(m:Nat)(v:aF):gI:=match unQ v with|some (kd,cl,a)=>.an c (if kd=1 then cl else call) a (m-1)|none=>.oD
def zdF (i:Nat):fB->Bool
 | .ask j _ _ _=>j==i
 |_=>false
def nO (W:List fB)(k i:Nat):Nat:=(W.drop k).countP (zdF i)
variable {W:List fB}
theorem zxq {k i:Nat}{anz:Int}(h:W[k]? =some (.ask i kd cl anz))(j:Nat):nO W k j=nO W (k+1) j+if j=i then 1 else 0:=by
 obtain⟨hl,he⟩:=lR.1 h;unfold nO;rw[zhn hl,he,zaJ];by_cases e:j=i
 .subst e;simp[zdF]
 .have:¬i=j:=λx=>e x.symm
  simp[zdF,e,this]
theorem zyz {k i:Nat}(h:W[k]? =some (.shut i))(j:Nat):nO W (k+1) j=nO W k j:=by
 obtain⟨hl,he⟩:=lR.1 h;unfold nO;rw[zhn hl,he,zaJ];simp[zdF]
def Qc (v:aF):List Nat:=match unQ v with|some (_,_,a)=>[a]|none=>[]
def Yg (qs:List Nat)(k:Nat)(v:aF):gI:=match unQ v with|some (_,_,a)=>.wr qs k a|none=>.oD
def Zo (W:List fB)(k:Nat)(v:aF):Prop:=match W[k]? with|some (.ask _ _ _ anz)=>v=.int .i64 anz|_=>False
def eK (N:Nat)(W:List fB):gI->Act gI
 | .mN qs=>if qs.length<N then .note (λl'=>∃a,l'=.mA qs a) else .add (.mW qs)
 | .mA qs a=>.add (.mS qs a)
 | .mS qs a=>.spawn [a] (.op a 0 (nO W 0 qs.length)) (.mN (qs++[a]))
 | .mW qs=>.spawn [] (.wk qs 0) .mZ
 | .mZ=>.wait
 | .op c call m=>.recv c (λv=>(unQ v).isSome=true/\0<m) (Qx c call m) .oD
 | .an c call a m=>.send a (λv=>v=.int .i64 call) (λ_=>[]) (λ_=>.op c call m)
 | .oD=>.done
 | .wk qs k=>match W[k]? with
  |none=>.done
  |some (.ask i kd cl _)=>.send (qa qs i) (λv=>∃a,v=quV kd cl a) Qc (Yg qs k)
  |some (.shut i)=>.close (qa qs i) (.wk qs (k+1))
 | .wr qs k a=>.recv a (Zo W k) (λ_=>.wk qs (k+1)) .oD
def gI.pend:gI->Bool
 | .mS _ _| .mW _=>true
 |_=>false
def lC (W:List fB):Nat->Nat->Int
 |0,_=>0
 |k+1,i=>match W[k]? with
  |some (.ask j kd cl _)=>if i=j then(if kd=1 then cl else lC W k i) else lC W k i
  |_=>lC W k i
def fM (W:List fB):Nat->Nat->Bool
 |0,_=>false
 |k+1,i=>match W[k]? with
  |some (.shut j)=>if i=j then true else fM W k i
  |_=>fM W k i
structure WOk (N:Nat)(W:List fB):Prop where
 ask:∀k i kd cl anz,W[k]? =some (.ask i kd cl anz)->i<N/\fM W k i=false/\anz=lC W (k+1) i
 shut:∀k i,W[k]? =some (.shut i)->i<N/\fM W k i=false
 all:∀i,i<N->fM W W.length i=true
structure Ops (n:Nat)(ix:Nat->Nat)(q:Nat->Pj gI)(F:Nat->Pj gI->Prop):Prop where
 ne:∀j,j<n->ix j≠0
 inj:∀j j',j<n->j'<n->ix j=ix j'->j=j'
 at_:∀j,j<n->F j (q (ix j))
structure Qs (n:Nat)(qs:List Nat):Prop where
 len:qs.length=n
 inj:∀j j',j<n->j'<n->qa qs j=qa qs j'->j=j'
def I2 (W:List fB)(qs:List Nat)(k j:Nat)(p:Pj gI):Prop:=
 p=.run (.op (qa qs j) (lC W k j) (nO W k j))\/(fM W k j=true/\(p=.run .oD\/p=.over .oD))
inductive Vu (N:Nat)(W:List fB)(q:Nat->Pj gI)(ch:rG):Prop
 |a (n:Nat) (qs:List Nat) (ix:Nat->Nat) (l:gI):Qs n qs->n<=N->(l=.mN qs\/(n<N/\∃a,l=.mA qs a\/l=.mS qs a)\/(l=.mW qs/\n=N))->q 0=.run l->Ops n ix q (λj p=>p=.run (.op (qa qs j) 0 (nO W 0 j)))->
  (∀j,j<n->ch (qa qs j)=some false)->(∀i,i≠0->(∀j,j<n->i≠ix j)->q i=.gone)->Vu N W q ch
 |b (qs:List Nat) (ix:Nat->Nat) (iw k:Nat):Qs N qs->k<=W.length->iw≠0->(∀j,j<N->ix j≠iw)->(q 0=.run .mZ\/q 0=.waits)->(q iw=.run (.wk qs k)\/(k=W.length/\q iw=.over (.wk qs k)))->
  Ops N ix q (I2 W qs k)->(∀j,j<N->ch (qa qs j)=some (fM W k j))->(∀i,i≠0->i≠iw->(∀j,j<N->i≠ix j)->q i=.gone)->Vu N W q ch
 |c (qs:List Nat) (ix:Nat->Nat) (iw k i:Nat) (kd cl anz:Int) (a:Nat):Qs N qs->W[k]? =some (.ask i kd cl anz)->iw≠0->(∀j,j<N->ix j≠iw)->(q 0=.run .mZ\/q 0=.waits)->q iw=.run (.wr qs k a)->
  Ops N ix q (λj p=>if j=i then p=.run (.an (qa qs j) (lC W (k+1) j) a (nO W (k+1) j)) else I2 W qs k j p)->(∀j,j<N->ch (qa qs j)=some (fM W k j))->ch a=some false->(∀j,j<N->qa qs j≠a)->
  (∀i,i≠0->i≠iw->(∀j,j<N->i≠ix j)->q i=.gone)->Vu N W q ch
def Db (N:Nat)(W:List fB)(D:aE->Prop):jL gI where
 act:=eK N W
 dep:=λl w=>match l with| .wk _ _=>D w|_=>True
 pend:=gI.pend
 cl:=λl=>match l with| .op _ _ _=>True|_=>False
 Inv:=Vu N W
 got:=λl v=>match l with| .op _ _ _=>Qc v|_=>[]
section
variable {N:Nat}{W:List fB}
variable {l:gI}{ok:aF->Prop}{nx:aF->gI}
theorem znG {c:Nat}{pub:aF->List Nat}(h:eK N W l=.send c ok pub nx):
 (∃c0 call m,l=.an c0 call c m/\ok=(λv=>v=.int .i64 call)/\pub=(λ_=>[])/\nx=λ_=>.op c0 call m)\/
 (∃qs k i kd cl anz,l=.wk qs k/\W[k]? =some (.ask i kd cl anz)/\c=qa qs i/\ok=(λv=>∃a,v=quV kd cl a)/\pub=Qc/\nx=Yg qs k):=by
 cases l with
 |mN qs=>simp only[eK] at h;split at h<;>cases h
 |an c0 call a m=>simp only[eK] at h;cases h;grind
 |wk qs k=>
  simp only[eK] at h
  grind
 |_=>simp only[eK] at h;cases h
theorem V6 {c:Nat}{sh:gI}(h:eK N W l=.recv c ok nx sh):
 (∃call m,l=.op c call m/\ok=(λv=>(unQ v).isSome=true/\0<m)/\nx=Qx c call m/\sh=.oD)\/(∃qs k,l=.wr qs k c/\ok=Zo W k/\nx=(λ_=>.wk qs (k+1))/\sh=.oD):=by
 cases l with
 |mN qs=>simp only[eK] at h;split at h<;>cases h
 |op c0 call m=>simp only[eK] at h;grind
 |wk qs k=>simp only[eK] at h;split at h<;>cases h
 |wr qs k a=>simp only[eK] at h;cases h;grind
 |_=>simp only[eK] at h;cases h
variable {nx:gI}
theorem zxQ {c:Nat}(h:eK N W l=.close c nx):∃qs k i,l=.wk qs k/\W[k]? =some (.shut i)/\c=qa qs i/\nx=.wk qs (k+1):=by
 cases l with
 |mN qs=>simp only[eK] at h;split at h<;>cases h
 |wk qs k=>
  simp only[eK] at h
  grind
 |_=>simp only[eK] at h;cases h
theorem zDv (h:eK N W l=.add nx):(∃qs,l=.mN qs/\¬qs.length<N/\nx=.mW qs)\/∃qs a,l=.mA qs a/\nx=.mS qs a:=by
 cases l with
 |mN qs=>
  simp only[eK] at h
  grind
 |mA qs a=>simp only[eK] at h;grind
 |wk qs k=>simp only[eK] at h;split at h<;>cases h
 |_=>simp only[eK] at h;cases h
theorem zD8 {lc:gI}{pub:List Nat}(h:eK N W l=.spawn pub lc nx):(∃qs a,l=.mS qs a/\pub=[a]/\lc=.op a 0 (nO W 0 qs.length)/\nx=.mN (qs++[a]))\/∃qs,l=.mW qs/\pub=[]/\lc=.wk qs 0/\nx=.mZ:=by
 cases l with
 |mN qs=>simp only[eK] at h;split at h<;>cases h
 |mS qs a=>simp only[eK] at h;grind
 |mW qs=>simp only[eK] at h;simp_all
 |wk qs k=>simp only[eK] at h;split at h<;>cases h
 |_=>simp only[eK] at h;cases h
theorem zEU (h:eK N W l=.done):l=.oD\/∃qs k,l=.wk qs k/\W[k]? =none:=by
 cases l with
 |mN qs=>simp only[eK] at h;split at h<;>cases h
 |oD=>exact .inl rfl
 |wk qs k=>
  simp only[eK] at h
  grind
 |_=>simp only[eK] at h;cases h
theorem zzD (h:eK N W l=.wait):l=.mZ:=by
 cases l with
 |mN qs=>simp only[eK] at h;split at h<;>cases h
 |mZ=>rfl
 |wk qs k=>simp only[eK] at h;split at h<;>cases h
 |_=>simp only[eK] at h;cases h
theorem zEZ {can:gI->Prop}(h:eK N W l=.note can):∃qs,l=.mN qs/\qs.length<N/\can=λl'=>∃a,l'=.mA qs a:=by
 cases l with
 |mN qs=>
  simp only[eK] at h
  grind
 |wk qs k=>simp only[eK] at h;split at h<;>cases h
 |_=>simp only[eK] at h;cases h
variable {anz:Int}
theorem zs7 {k i:Nat}{kd cl:Int}(h:W[k]? =some (.ask i kd cl anz))(j:Nat):lC W (k+1) j=if j=i then(if kd=1 then cl else lC W k j) else lC W k j:=by simp only[lC,h]
theorem zub {k i:Nat}{kd cl:Int}(h:W[k]? =some (.ask i kd cl anz))(j:Nat):fM W (k+1) j=fM W k j:=by simp only[fM,h]
theorem zAF {k i:Nat}(h:W[k]? =some (.shut i))(j:Nat):lC W (k+1) j=lC W k j:=by simp only[lC,h]
theorem zo4 {k i:Nat}(h:W[k]? =some (.shut i))(j:Nat):fM W (k+1) j=if j=i then true else fM W k j:=by simp only[fM,h]
def wk_lt {k:Nat}{x:fB}(h:W[k]? =some x):k<W.length:=(lR.1 h).1
end
section
variable {N:Nat}{W:List fB}{q:Nat->Pj gI}{ch:rG}
theorem zlK {n:Nat}{ix:Nat->Nat}{iw:Nat}(hg:∀i,i≠0->i≠iw->(∀j,j<n->i≠ix j)->q i=.gone){i:Nat}{l:gI}(h:q i=.run l):i=0\/i=iw\/∃j,j<n/\i=ix j:=by grind
theorem zoF {qs:List Nat}{k j:Nat}{l:gI}(h:I2 W qs k j (.run l)):l=.op (qa qs j) (lC W k j) (nO W k j)\/(fM W k j=true/\l=.oD):=by
 rcases h with h|⟨h1,h|h⟩
 .cases h;exact .inl rfl
 .simp_all
 .cases h
theorem zdW {l:gI}(h:(∃qs,l=.mN qs)\/(∃qs a,l=.mA qs a)\/(∃qs a,l=.mS qs a)\/(∃qs,l=.mW qs)\/l=.mZ):(∀c ok pub nx,eK N W l≠ .send c ok pub nx)/\(∀c ok nx sh,eK N W l≠ .recv c ok nx sh)/\(∀c nx,eK N W l≠ .close c nx)/\eK N W l≠ .done:=by
 rcases h with⟨qs,rfl⟩|⟨qs,a,rfl⟩|⟨qs,a,rfl⟩|⟨qs,rfl⟩|rfl
 .simp only[eK]
  split<;>simp
 all_goals simp[eK]
theorem zkk {n:Nat}{qs:List Nat}{l:gI}(h:l=.mN qs\/(n<N/\∃a,l=.mA qs a\/l=.mS qs a)\/(l=.mW qs/\n=N)):(∃qs,l=.mN qs)\/(∃qs a,l=.mA qs a)\/(∃qs a,l=.mS qs a)\/(∃qs,l=.mW qs)\/l=.mZ:=by grind
section
variable {n:Nat}{qs:List Nat}{ix:Nat->Nat}{iw k i0:Nat}{i c a:Nat}{l l0:gI}
theorem Ow (hl:l0=.mN qs\/(n<N/\∃a,l0=.mA qs a\/l0=.mS qs a)\/(l0=.mW qs/\n=N))(h0:q 0=.run l0)(ho:Ops n ix q (λj p=>p=.run (.op (qa qs j) 0 (nO W 0 j))))(hg:∀i,i≠0->(∀j,j<n->i≠ix j)->q i=.gone)(hi:q i=.run l):(i=0/\l=l0)\/∃j,j<n/\i=ix j/\l=.op (qa qs j) 0 (nO W 0 j):=by
 rcases zlK (iw:=0) (λi h1 _ h3=>hg i h1 h3) hi with rfl|rfl|⟨j,hj,rfl⟩
 .simp_all
 .simp_all
 .have:=ho.at_ j hj;grind
theorem M9 (h0:q 0=.run .mZ\/q 0=.waits)(cN:q iw=.run (.wk qs k)\/(k=W.length/\q iw=.over (.wk qs k)))(ho:Ops N ix q (I2 W qs k))(hg:∀i,i≠0->i≠iw->(∀j,j<N->i≠ix j)->q i=.gone)(hi:q i=.run l):
 (i=0/\l=.mZ)\/(i=iw/\l=.wk qs k)\/∃j,j<N/\i=ix j/\(l=.op (qa qs j) (lC W k j) (nO W k j)\/(fM W k j=true/\l=.oD)):=by
 rcases zlK hg hi with rfl|rfl|⟨j,hj,rfl⟩
 .simp_all
 .simp_all
 .have:=ho.at_ j hj;rw[hi] at this
  exact .inr (.inr ⟨j,hj,rfl,zoF this⟩)
theorem Qb (h0:q 0=.run .mZ\/q 0=.waits)(cN:q iw=.run (.wr qs k a))(ho:Ops N ix q (λj p=>if j=i0 then p=.run (.an (qa qs j) (lC W (k+1) j) a (nO W (k+1) j)) else I2 W qs k j p))(hg:∀i,i≠0->i≠iw->(∀j,j<N->i≠ix j)->q i=.gone)(hi:q i=.run l):
 (i=0/\l=.mZ)\/(i=iw/\l=.wr qs k a)\/∃j,j<N/\i=ix j/\((j=i0/\l=.an (qa qs j) (lC W (k+1) j) a (nO W (k+1) j))\/(j≠i0/\(l=.op (qa qs j) (lC W k j) (nO W k j)\/(fM W k j=true/\l=.oD)))):=by
 rcases zlK hg hi with rfl|rfl|⟨j,hj,rfl⟩
 .simp_all
 .simp_all
 .have:=ho.at_ j hj
  simp only[hi] at this;split at this
  .grind
  .rename_i e;exact .inr (.inr ⟨j,hj,rfl,.inr ⟨e,zoF this⟩⟩)
variable {ok:aF->Prop}{pub:aF->List Nat}{nx:aF->gI}{sh:gI}
theorem zdg (h0:q 0=.run .mZ\/q 0=.waits)(cN:q iw=.run (.wk qs k)\/(k=W.length/\q iw=.over (.wk qs k)))(ho:Ops N ix q (I2 W qs k))(hg:∀i,i≠0->i≠iw->(∀j,j<N->i≠ix j)->q i=.gone)(hi:q i=.run l)(ha:eK N W l=.send c ok pub nx):
 i=iw/\l=.wk qs k/\∃j kd cl anz,W[k]? =some (.ask j kd cl anz)/\c=qa qs j/\ok=(λv=>∃a,v=quV kd cl a)/\pub=Qc/\nx=Yg qs k:=by
 rcases M9 h0 cN ho hg hi with⟨rfl,rfl⟩|⟨rfl,rfl⟩|⟨j,hj,rfl,rfl|⟨_,rfl⟩⟩
 .cases ha
 .rcases znG ha with⟨_,_,_,e,_⟩|⟨O9,k',j,kd,cl,anz,e,h1,h2,h3,h4,h5⟩
  .cases e
  .grind
 .cases ha
 .cases ha
theorem X3 (h0:q 0=.run .mZ\/q 0=.waits)(cN:q iw=.run (.wk qs k)\/(k=W.length/\q iw=.over (.wk qs k)))(ho:Ops N ix q (I2 W qs k))(hg:∀i,i≠0->i≠iw->(∀j,j<N->i≠ix j)->q i=.gone)(hi:q i=.run l)(ha:eK N W l=.recv c ok nx sh):
 ∃j,j<N/\i=ix j/\l=.op (qa qs j) (lC W k j) (nO W k j)/\c=qa qs j/\ok=(λv=>(unQ v).isSome=true/\0<nO W k j)/\nx=Qx c (lC W k j) (nO W k j)/\sh=.oD:=by
 rcases M9 h0 cN ho hg hi with⟨rfl,rfl⟩|⟨rfl,rfl⟩|⟨j,hj,rfl,rfl|⟨_,rfl⟩⟩
 .cases ha
 .rcases V6 ha with⟨_,_,e,_⟩|⟨_,_,e,_⟩<;>cases e
 .rcases V6 ha with⟨_,_,e,h1,h2,h3⟩|⟨_,_,e,_⟩<;>cases e
  grind
 .cases ha
theorem zaK (h0:q 0=.run .mZ\/q 0=.waits)(cN:q iw=.run (.wr qs k a))(ho:Ops N ix q (λj p=>if j=i0 then p=.run (.an (qa qs j) (lC W (k+1) j) a (nO W (k+1) j)) else I2 W qs k j p))(hg:∀i,i≠0->i≠iw->(∀j,j<N->i≠ix j)->q i=.gone)(hi:q i=.run l)(ha:eK N W l=.send c ok pub nx):
 i0<N/\i=ix i0/\l=.an (qa qs i0) (lC W (k+1) i0) a (nO W (k+1) i0)/\c=a/\ok=(λv=>v=.int .i64 (lC W (k+1) i0))/\pub=(λ_=>[])/\nx=λ_=>.op (qa qs i0) (lC W (k+1) i0) (nO W (k+1) i0):=by
 rcases Qb h0 cN ho hg hi with⟨rfl,rfl⟩|⟨rfl,rfl⟩|⟨j,hj,rfl,⟨rfl,rfl⟩|⟨_,rfl|⟨_,rfl⟩⟩⟩
 .cases ha
 .cases ha
 .rcases znG ha with⟨_,_,_,e,h1,h2,h3⟩|⟨_,_,_,_,_,_,e,_⟩<;>cases e
  simp_all
 .cases ha
 .cases ha
theorem Vx (h0:q 0=.run .mZ\/q 0=.waits)(cN:q iw=.run (.wr qs k a))(ho:Ops N ix q (λj p=>if j=i0 then p=.run (.an (qa qs j) (lC W (k+1) j) a (nO W (k+1) j)) else I2 W qs k j p))(hg:∀i,i≠0->i≠iw->(∀j,j<N->i≠ix j)->q i=.gone)(hi:q i=.run l)(ha:eK N W l=.recv c ok nx sh):
 (i=iw/\l=.wr qs k a/\c=a/\ok=Zo W k/\nx=(λ_=>.wk qs (k+1)))\/∃j,j<N/\j≠i0/\i=ix j/\l=.op (qa qs j) (lC W k j) (nO W k j)/\c=qa qs j/\sh=.oD:=by
 rcases Qb h0 cN ho hg hi with⟨rfl,rfl⟩|⟨rfl,rfl⟩|⟨j,hj,rfl,⟨rfl,rfl⟩|⟨aS,rfl|⟨_,rfl⟩⟩⟩
 .cases ha
 .rcases V6 ha with⟨_,_,e,_⟩|⟨_,_,e,h1,h2,h3⟩<;>cases e
  simp_all
 .cases ha
 .rcases V6 ha with⟨_,_,e,h1,h2,h3⟩|⟨_,_,e,_⟩<;>cases e
  grind
 .cases ha
theorem zeN (hl:l0=.mN qs\/(n<N/\∃a,l0=.mA qs a\/l0=.mS qs a)\/(l0=.mW qs/\n=N))(h0:q 0=.run l0)(ho:Ops n ix q (λj p=>p=.run (.op (qa qs j) 0 (nO W 0 j))))(hg:∀i,i≠0->(∀j,j<n->i≠ix j)->q i=.gone)(hi:q i=.run l)(ha:eK N W l=.send c ok pub nx):False:=by
 rcases Ow hl h0 ho hg hi with⟨rfl,rfl⟩|⟨j,hj,rfl,rfl⟩
 .exact(zdW (zkk hl)).1 _ _ _ _ ha
 .cases ha
theorem zgl (hl:l0=.mN qs\/(n<N/\∃a,l0=.mA qs a\/l0=.mS qs a)\/(l0=.mW qs/\n=N))(h0:q 0=.run l0)(ho:Ops n ix q (λj p=>p=.run (.op (qa qs j) 0 (nO W 0 j))))(hg:∀i,i≠0->(∀j,j<n->i≠ix j)->q i=.gone)(hi:q i=.run l)(ha:eK N W l=.recv c ok nx sh):∃j,j<n/\i=ix j/\l=.op (qa qs j) 0 (nO W 0 j)/\c=qa qs j:=by
 rcases Ow hl h0 ho hg hi with⟨rfl,rfl⟩|⟨j,hj,rfl,rfl⟩
 .exact((zdW (zkk hl)).2.1 _ _ _ _ ha).elim
 .rcases V6 ha with⟨_,_,e,h1,h2,h3⟩|⟨_,_,e,_⟩<;>cases e
  grind
end
end
variable {L:Type}
theorem num_upd (q:Nat->Pj L)(s:Nat):∀n,num q n<=num (bH q s .gone) n+1:=by
 have ind:∀n,num q n<=num (bH q s .gone) n+(if s<n then 1 else 0):=by
  intro n
  induction n with
  |zero=>simp[num]
  |succ n ih=>
   simp only[num];have hc:(q n).c<=1:=by cases q n<;>simp[Pj.c]
   by_cases h:n=s
   .grind
   .rw[upd_ne _ _ h]
    grind
 grind
theorem zEn :∀(S:List Nat) (q:Nat->Pj L),(∀i,i∉S->q i=.gone)->∀n,num q n<=S.length:=by
 intro S
 induction S with
 |nil=>
  intro q h n
  induction n with
  |zero=>simp[num]
  |succ n ih=>simp only[num];rw[h n aQ];simpa[Pj.c] using ih
 |cons s S ih=>
  intro q h n;have h1:=num_upd q s n;have h2:=ih (bH q s .gone) (λi hi=>by
   by_cases e:i=s
   .subst e;exact upd_same _ _ _
   .rw[upd_ne _ _ e];exact h i (by simp[e,hi])) n
  grind
section
variable {N:Nat}{W:List fB}{q:Nat->Pj gI}{ch:rG}
theorem zpA (ch:rG):ch.opn []=ch:=by funext c;simp[rG.opn]
theorem zvz {ch:rG}{a c:Nat}(h:c≠a):ch.opn [a] c=ch c:=by simp[rG.opn,h]
theorem zv5 (ch:rG)(a:Nat):ch.opn [a] a=some false:=by simp[rG.opn]
theorem Xf {qs:List Nat}{n:Nat}(h:qs.length=n){j:Nat}(hj:j<n)(a:Nat):qa (qs++[a]) j=qa qs j:=by
 unfold qa
 grind
theorem zho {qs:List Nat}{n:Nat}(h:qs.length=n)(a:Nat):qa (qs++[a]) n=a:=by
 unfold qa;simp_all
theorem zuz {D:aE->Prop}{l:gI}(h:(∃qs,l=.mN qs)\/(∃qs a,l=.mA qs a)\/(∃qs a,l=.mS qs a)\/(∃qs,l=.mW qs)\/l=.mZ):¬(Db N W D).Blocked q ch l:=by
 unfold jL.Blocked;split
 .rename_i e;exact((zdW h).1 _ _ _ _ e).elim
 .rename_i e;exact((zdW h).2.1 _ _ _ _ e).elim
 .exact id
theorem zHj (N:Nat)(W:List fB)(D:aE->Prop)(hW:WOk N W)(hN:N<=1000000):(Db N W D).Ok where
 send1:=by
  intro q ch i j li lj c ok pub nx rL U0 pL hI hi hj ha hb
  cases hI with
  |a n qs ix l0 hq hn hl h0 ho hc hg=>exact(zeN hl h0 ho hg hi ha).elim
  |b qs ix iw k hq hk hw aS h0 cN ho hc hg=>rw[(zdg h0 cN ho hg hi ha).1,(zdg h0 cN ho hg hj hb).1]
  |c qs ix iw k i0 kd cl anz a hq hk hw aS h0 cN ho hc qH oE hg=>rw[(zaK h0 cN ho hg hi ha).2.1,(zaK h0 cN ho hg hj hb).2.1]
 recv1:=by
  intro q ch i j li lj c ok nx sh rL pL xL hI hi hj ha hb
  cases hI with
  |a n qs ix l0 hq hn hl h0 ho hc hg=>
   obtain⟨j1,h1,rfl,_,c1⟩:=zgl hl h0 ho hg hi ha;obtain⟨j2,h2,rfl,_,c2⟩:=zgl hl h0 ho hg hj hb;rw[hq.inj j1 j2 h1 h2 (c1.symm.trans c2)]
  |b qs ix iw k hq hk hw aS h0 cN ho hc hg=>
   obtain⟨j1,h1,rfl,_,c1,_⟩:=X3 h0 cN ho hg hi ha;obtain⟨j2,h2,rfl,_,c2,_⟩:=X3 h0 cN ho hg hj hb;rw[hq.inj j1 j2 h1 h2 (c1.symm.trans c2)]
  |c qs ix iw k i0 kd cl anz a hq hk hw aS h0 cN ho hc qH oE hg=>
   rcases Vx h0 cN ho hg hi ha with⟨rfl,_,rfl,_⟩|⟨j1,h1,_,rfl,_,c1,_⟩<;>rcases Vx h0 cN ho hg hj hb with⟨rfl,_,e2,_⟩|⟨j2,h2,_,rfl,_,c2,_⟩
   .rfl
   .grind
   .grind
   .rw[hq.inj j1 j2 h1 h2 (c1.symm.trans c2)]
 sendC:=by
  intro q ch i l c ok pub nx hI hi ha
  cases hI with
  |a n qs ix l0 hq hn hl h0 ho hc hg=>exact(zeN hl h0 ho hg hi ha).elim
  |b qs ix iw k hq hk hw aS h0 cN ho hc hg=>
   obtain⟨rfl,rfl,j,kd,cl,anz,h1,rfl,_⟩:=zdg h0 cN ho hg hi ha;obtain⟨h2,h3,_⟩:=hW.ask k j kd cl anz h1;rw[hc j h2,h3]
  |c qs ix iw k i0 kd cl anz a hq hk hw aS h0 cN ho hc qH oE hg=>
   obtain⟨_,_,_,rfl,_⟩:=zaK h0 cN ho hg hi ha;exact qH
 recvC:=by
  intro q ch i l c ok nx sh hI hi ha
  cases hI with
  |a n qs ix l0 hq hn hl h0 ho hc hg=>
   obtain⟨j1,h1,rfl,_,rfl⟩:=zgl hl h0 ho hg hi ha;exact⟨_,hc j1 h1⟩
  |b qs ix iw k hq hk hw aS h0 cN ho hc hg=>
   obtain⟨j1,h1,rfl,_,rfl,_⟩:=X3 h0 cN ho hg hi ha;exact⟨_,hc j1 h1⟩
  |c qs ix iw k i0 kd cl anz a hq hk hw aS h0 cN ho hc qH oE hg=>
   rcases Vx h0 cN ho hg hi ha with⟨rfl,_,rfl,_⟩|⟨j1,h1,_,rfl,_,rfl,_⟩
   .exact⟨_,qH⟩
   simp_all
 meet:=by
  intro q ch i j li lj c ok pub nx rL pL sh v hI hi hj ha hb hv hp
  cases hI with
  |a n qs ix l0 hq hn hl h0 ho hc hg=>exact(zeN hl h0 ho hg hi ha).elim
  |b qs ix iw k hq hk hw aS h0 cN ho hc hg=>
   obtain⟨rfl,rfl,j0,kd,cl,anz,h1,rfl,rfl,rfl,rfl⟩:=zdg h0 cN ho hg hi ha;obtain⟨j1,Jg,rfl,rfl,uO,rfl,rfl,_⟩:=X3 h0 cN ho hg hj hb;obtain rfl:=hq.inj j0 j1 (hW.ask k j0 kd cl anz h1).1 Jg uO;obtain⟨a,rfl⟩:=hv;have Q0:ch a=none:=hp a (by simp[Qc,zd9]);have oE:∀j,j<N->qa qs j≠a:=λj hj e=>by grind
   have hR:=zxq h1 j0;rw[if_pos rfl] at hR;refine⟨⟨by simp[zd9],aC⟩,?_⟩;show Vu N W (bH (bH q i (.run (.wr qs k a))) (ix j0) (.run (.an (qa qs j0) (if kd=1 then cl else lC W k j0) a (nO W k j0-1)))) (ch.opn [a]);rw[show nO W k j0-1=nO W (k+1) j0 by omega];refine .c qs ix i k j0 kd cl anz a hq h1 hw aS ?_ ?_ ⟨ho.ne,ho.inj,λj hj=>?_⟩ (λj hj=>by rw[zvz (oE j hj)];exact hc j hj) (zv5 _ _) oE λi' g0 g1 g2=>?_
   .rw[upd_ne _ _ (Ne.symm (ho.ne j0 Jg)),upd_ne _ _ (Ne.symm hw)];exact h0
   .rw[upd_ne _ _ (Ne.symm (aS j0 Jg)),upd_same]
   .by_cases e:j=j0
    .subst e;rw[if_pos rfl,upd_same,zs7 h1,if_pos rfl]
    .rw[if_neg e,upd_ne _ _ (λh=>e (ho.inj j j0 hj Jg h)),upd_ne _ _ (aS j hj)]
     exact ho.at_ j hj
   .rw[upd_ne _ _ (g2 j0 Jg),upd_ne _ _ g1];exact hg i' g0 g1 g2
  |c qs ix iw k i0 kd cl anz a hq hk hw aS h0 cN ho hc qH oE hg=>
   obtain⟨fH,rfl,rfl,rfl,rfl,rfl,rfl⟩:=zaK h0 cN ho hg hi ha;rcases Vx h0 cN ho hg hj hb with⟨rfl,rfl,_,rfl,rfl⟩|⟨j1,Jg,_,rfl,_,uO,_⟩
   .refine⟨?_,?_⟩
    .unfold Zo;rw[hk]
     show v=_;rw[(hW.ask k i0 kd cl anz hk).2.2];exact hv
    .rw[zpA]
     refine .b qs ix j (k+1) hq (wk_lt hk) hw aS ?_ (.inl (upd_same _ _ _)) ⟨ho.ne,ho.inj,λj' qG=>?_⟩ (λj' qG=>by rw[zub hk];exact hc j' qG) λi' g0 g1 g2=>?_
     .rw[upd_ne _ _ (Ne.symm hw),upd_ne _ _ (Ne.symm (ho.ne i0 fH))];exact h0
     .rw[upd_ne _ _ (aS j' qG)]
      by_cases e:j'=i0
      .subst e;rw[upd_same];exact .inl rfl
      .rw[upd_ne _ _ (λh=>e (ho.inj j' i0 qG fH h))]
       have:=ho.at_ j' qG;rw[if_neg e] at this;unfold I2 at this⊢;have hR:=zxq hk j';rw[if_neg e,S7] at hR;rw[zs7 hk,if_neg e,zub hk,<-hR];exact this
     .rw[upd_ne _ _ g1,upd_ne _ _ (g2 i0 fH)];exact hg i' g0 g1 g2
   grind
 shut:=by
  intro q ch i l c ok nx sh hI hi ha uO
  cases hI with
  |a n qs ix l0 hq hn hl h0 ho hc hg=>
   obtain⟨j1,h1,rfl,_,rfl⟩:=zgl hl h0 ho hg hi ha;simp_all
  |b qs ix iw k hq hk hw aS h0 cN ho hc hg=>
   obtain⟨j1,h1,rfl,rfl,rfl,_,_,rfl⟩:=X3 h0 cN ho hg hi ha;have hx:fM W k j1=true:=by have:=hc j1 h1;rw[uO] at this;injection this with this;exact this.symm
   refine⟨trivial,.b qs ix iw k hq hk hw aS ?_ ?_ ⟨ho.ne,ho.inj,λj hj=>?_⟩ hc λi' g0 g1 g2=>?_⟩
   .rw[upd_ne _ _ (Ne.symm (ho.ne j1 h1))];exact h0
   .rw[upd_ne _ _ (Ne.symm (aS j1 h1))];exact cN
   .by_cases e:j=j1
    .subst e;rw[upd_same];exact .inr ⟨hx,.inl rfl⟩
    .rw[upd_ne _ _ (λh=>e (ho.inj j j1 hj h1 h))];exact ho.at_ j hj
   .rw[upd_ne _ _ (g2 j1 h1)];exact hg i' g0 g1 g2
  |c qs ix iw k i0 kd cl anz a hq hk hw aS h0 cN ho hc qH oE hg=>
   rcases Vx h0 cN ho hg hi ha with⟨rfl,_,rfl,_⟩|⟨j1,h1,Qa,rfl,rfl,rfl,rfl⟩
   .simp_all
   .have hx:fM W k j1=true:=by have:=hc j1 h1;rw[uO] at this;injection this with this;exact this.symm
    refine⟨trivial,.c qs ix iw k i0 kd cl anz a hq hk hw aS ?_ ?_ ⟨ho.ne,ho.inj,λj hj=>?_⟩ hc qH oE λi' g0 g1 g2=>?_⟩
    .rw[upd_ne _ _ (Ne.symm (ho.ne j1 h1))];exact h0
    .rw[upd_ne _ _ (Ne.symm (aS j1 h1))];exact cN
    .by_cases e:j=j1
     .subst e;rw[if_neg Qa,upd_same];exact .inr ⟨hx,.inl rfl⟩
     .rw[upd_ne _ _ (λh=>e (ho.inj j j1 hj h1 h))];exact ho.at_ j hj
    .rw[upd_ne _ _ (g2 j1 h1)];exact hg i' g0 g1 g2
 close:=by
  intro q ch i l c nx hI hi ha;obtain⟨O9,k',i0,rfl,cU,rfl,rfl⟩:=zxQ (N:=N) ha
  cases hI with
  |a n qs ix l0 hq hn hl h0 ho hc hg=>
   rcases Ow hl h0 ho hg hi with⟨rfl,rfl⟩|⟨j,hj,rfl,e⟩
   .simp_all
   .cases e
  |b qs ix iw k hq hk hw aS h0 cN ho hc hg=>
   rcases M9 h0 cN ho hg hi with⟨_,e⟩|⟨rfl,e⟩|⟨j,hj,rfl,e|⟨_,e⟩⟩<;>cases e;obtain⟨fH,hx⟩:=hW.shut k' i0 cU;refine⟨by rw[hc i0 fH,hx],.b O9 ix i (k'+1) hq (wk_lt cU) hw aS ?_ (.inl (upd_same _ _ _)) ⟨ho.ne,ho.inj,λj hj=>?_⟩ (λj hj=>?_) λi' g0 g1 g2=>?_⟩
   .rw[upd_ne _ _ (Ne.symm hw)];exact h0
   .rw[upd_ne _ _ (aS j hj)]
    have:=ho.at_ j hj;unfold I2 at this⊢;rw[zAF cU,zo4 cU,zyz cU];refine this.imp id λh=>⟨?_,h.2⟩;split
    .rfl
    .exact h.1
   .rw[zo4 cU]
    by_cases e:j=i0
    .subst e;rw[if_pos rfl,upd_same]
    .rw[if_neg e,upd_ne _ _ (λh=>e (hq.inj j i0 hj fH h))];exact hc j hj
   .rw[upd_ne _ _ g1];exact hg i' g0 g1 g2
  |c qs ix iw k i1 kd cl anz a hq hk hw aS h0 cN ho hc qH oE hg=>
   rcases Qb h0 cN ho hg hi with⟨_,e⟩|⟨_,e⟩|⟨j,hj,rfl,⟨_,e⟩|⟨_,e|⟨_,e⟩⟩⟩<;>cases e
 add:=by
  intro q ch i l nx hI hi ha;have ha:=zDv ha
  cases hI with
  |a n qs ix l0 hq hn hl h0 ho hc hg=>
   rcases Ow hl h0 ho hg hi with⟨rfl,rfl⟩|⟨j,hj,rfl,rfl⟩
   .have keep:∀l',(l'=.mN qs\/(n<N/\∃a,l'=.mA qs a\/l'=.mS qs a)\/(l'=.mW qs/\n=N))->Vu N W (bH q 0 (.run l')) ch:=λl' Gn=>
     .a n qs ix l' hq hn Gn (upd_same _ _ _) ⟨ho.ne,ho.inj,λj hj=>by rw[upd_ne _ _ (ho.ne j hj)];exact ho.at_ j hj⟩ hc λi' g0 g1=>by rw[upd_ne _ _ g0];exact hg i' g0 g1
    rcases ha with⟨O9,rfl,h1,rfl⟩|⟨O9,a,rfl,rfl⟩
    .rcases hl with e|⟨_,_,e|e⟩|⟨e,_⟩<;>cases e
     refine⟨rfl,rfl,rfl,keep _ (.inr (.inr ⟨rfl,?_⟩))⟩;have:=hq.len;omega
    .rcases hl with e|⟨h1,_,e|e⟩|⟨e,_⟩<;>cases e
     exact⟨rfl,rfl,rfl,keep _ (.inr (.inl ⟨h1,a,.inr rfl⟩))⟩
   simp_all
  |b qs ix iw k hq hk hw aS h0 cN ho hc hg=>
   exfalso;rcases M9 h0 cN ho hg hi with⟨_,rfl⟩|⟨_,rfl⟩|⟨j,hj,_,rfl|⟨_,rfl⟩⟩<;>rcases ha with⟨_,e,_⟩|⟨_,_,e,_⟩<;>cases e
  |c qs ix iw k i0 kd cl anz a hq hk hw aS h0 cN ho hc qH oE hg=>
   exfalso;rcases Qb h0 cN ho hg hi with⟨_,rfl⟩|⟨_,rfl⟩|⟨j,hj,_,⟨_,rfl⟩|⟨_,rfl|⟨_,rfl⟩⟩⟩<;>rcases ha with⟨_,e,_⟩|⟨_,_,e,_⟩<;>cases e
 spawn:=by
  intro q ch i l pub lc nx kk hI hi ha;have ha:=zD8 ha
  cases hI with
  |a n qs ix l0 hq hn hl h0 ho hc hg=>
   rcases Ow hl h0 ho hg hi with⟨rfl,rfl⟩|⟨j,hj,rfl,rfl⟩
   .rcases ha with⟨O9,a,rfl,rfl,rfl,rfl⟩|⟨O9,rfl,rfl,rfl,rfl⟩
    .rcases hl with e|⟨aU,_,e|e⟩|⟨e,_⟩<;>cases e
     refine⟨rfl,rfl,rfl,λhk lP hp=>?_⟩;have Q0:ch a=none:=hp a aQ;have oE:∀j,j<n->qa qs j≠a:=λj hj e=>by grind
     have fI:∀j,j<n->ix j≠kk:=λj hj e=>by have:=ho.at_ j hj;simp_all
     have Jx:∀j,j<n+1->j<n\/j=n:=λj hj=>by omega
     refine .a (n+1) (qs++[a]) (λj=>if j<n then ix j else kk) _ ⟨by simp[hq.len],λj j' hj qG e=>?_⟩ aU (.inl rfl) ?_ ⟨λj hj=>?_,λj j' hj qG e=>?_,λj hj=>?_⟩ (λj hj=>?_) λi' g0 g1=>?_
     .rcases Jx j hj with h|rfl<;>rcases Jx j' qG with h'|rfl
      .rw[Xf hq.len h,Xf hq.len h'] at e;exact hq.inj j j' h h' e
      .rw[Xf hq.len h,zho hq.len] at e;exact(oE j h e).elim
      .rw[Xf hq.len h',zho hq.len] at e;simp_all
      .rfl
     .rw[upd_ne _ _ (Ne.symm lP),upd_same]
     .show(if j<n then ix j else kk)≠0
      split
      .rename_i h;exact ho.ne j h
      .exact lP
     .have e:(if j<n then ix j else kk)=(if j'<n then ix j' else kk):=e
      rcases Jx j hj with h|rfl<;>rcases Jx j' qG with h'|rfl
      .rw[if_pos h,if_pos h'] at e;exact ho.inj j j' h h' e
      .simp_all
      .grind
      .rfl
     .rcases Jx j hj with h|rfl
      .simp only[if_pos h]
       rw[upd_ne _ _ (fI j h),upd_ne _ _ (ho.ne j h),Xf hq.len h];exact ho.at_ j h
      .simp only[Jn,if_false]
       rw[upd_same,zho hq.len,hq.len]
     .rcases Jx j hj with h|rfl
      .rw[Xf hq.len h,zvz (oE j h)];exact hc j h
      .rw[zho hq.len];exact zv5 _ _
     .have e1:i'≠kk:=λe=>by have:=g1 n (Nat.lt_succ_self _);grind
      rw[upd_ne _ _ e1,upd_ne _ _ g0]
      grind
    .rcases hl with e|⟨aU,_,e|e⟩|⟨e,rfl⟩<;>cases e
     refine⟨rfl,rfl,rfl,λhk lP hp=>?_⟩;have fI:∀j,j<n->ix j≠kk:=λj hj e=>by have:=ho.at_ j hj;simp_all
     rw[zpA];refine .b qs ix kk 0 hq (mP _) lP fI (.inl ?_) (.inl (upd_same _ _ _)) ⟨ho.ne,ho.inj,λj hj=>?_⟩ hc λi' g0 g1 g2=>?_
     .rw[upd_ne _ _ (Ne.symm lP),upd_same]
     .rw[upd_ne _ _ (fI j hj),upd_ne _ _ (ho.ne j hj)];exact .inl (ho.at_ j hj)
     .rw[upd_ne _ _ g1,upd_ne _ _ g0];exact hg i' g0 g2
   simp_all
  |b qs ix iw k hq hk hw aS h0 cN ho hc hg=>
   exfalso;rcases M9 h0 cN ho hg hi with⟨_,rfl⟩|⟨_,rfl⟩|⟨j,hj,_,rfl|⟨_,rfl⟩⟩<;>rcases ha with⟨_,_,e,_⟩|⟨_,e,_⟩<;>cases e
  |c qs ix iw k i0 kd cl anz a hq hk hw aS h0 cN ho hc qH oE hg=>
   exfalso;rcases Qb h0 cN ho hg hi with⟨_,rfl⟩|⟨_,rfl⟩|⟨j,hj,_,⟨_,rfl⟩|⟨_,rfl|⟨_,rfl⟩⟩⟩<;>rcases ha with⟨_,_,e,_⟩|⟨_,e,_⟩<;>cases e
 done:=by
  intro q ch i l hI hi ha;have fU:=zEU ha
  cases hI with
  |a n qs ix l0 hq hn hl h0 ho hc hg=>
   exfalso;rcases Ow hl h0 ho hg hi with⟨rfl,rfl⟩|⟨j,hj,rfl,rfl⟩
   .grind
   .cases ha
  |b qs ix iw k hq hk hw aS h0 cN ho hc hg=>
   rcases M9 h0 cN ho hg hi with⟨_,rfl⟩|⟨rfl,rfl⟩|⟨j,hj,rfl,rfl|⟨hx,rfl⟩⟩
   .cases ha
   .rcases fU with e|⟨_,_,e,h1⟩
    .cases e
    .cases e
     have zni:k=W.length:=by have:=List.getElem?_eq_none_iff.1 h1;omega
     refine⟨hw,.b qs ix i k hq hk hw aS ?_ (.inr ⟨zni,upd_same _ _ _⟩) ⟨ho.ne,ho.inj,λj hj=>?_⟩ hc λi' g0 g1 g2=>?_⟩
     .rw[upd_ne _ _ (Ne.symm hw)];exact h0
     .rw[upd_ne _ _ (aS j hj)];exact ho.at_ j hj
     .rw[upd_ne _ _ g1];exact hg i' g0 g1 g2
   .cases ha
   .refine⟨ho.ne j hj,.b qs ix iw k hq hk hw aS ?_ ?_ ⟨ho.ne,ho.inj,λj' qG=>?_⟩ hc λi' g0 g1 g2=>?_⟩
    .rw[upd_ne _ _ (Ne.symm (ho.ne j hj))];exact h0
    .rw[upd_ne _ _ (Ne.symm (aS j hj))];exact cN
    .by_cases e:j'=j
     .subst e;rw[upd_same];exact .inr ⟨hx,.inr rfl⟩
     .rw[upd_ne _ _ (λh=>e (ho.inj j' j qG hj h))];exact ho.at_ j' qG
    .rw[upd_ne _ _ (g2 j hj)];exact hg i' g0 g1 g2
  |c qs ix iw k i0 kd cl anz a hq hk hw aS h0 cN ho hc qH oE hg=>
   rcases Qb h0 cN ho hg hi with⟨_,rfl⟩|⟨rfl,rfl⟩|⟨j,hj,rfl,⟨_,rfl⟩|⟨Qa,rfl|⟨hx,rfl⟩⟩⟩
   .cases ha
   .cases ha
   .cases ha
   .cases ha
   .refine⟨ho.ne j hj,.c qs ix iw k i0 kd cl anz a hq hk hw aS ?_ ?_ ⟨ho.ne,ho.inj,λj' qG=>?_⟩ hc qH oE λi' g0 g1 g2=>?_⟩
    .rw[upd_ne _ _ (Ne.symm (ho.ne j hj))];exact h0
    .rw[upd_ne _ _ (Ne.symm (aS j hj))];exact cN
    .by_cases e:j'=j
     .subst e;rw[if_neg Qa,upd_same];exact .inr ⟨hx,.inr rfl⟩
     .rw[upd_ne _ _ (λh=>e (ho.inj j' j qG hj h))];exact ho.at_ j' qG
    .rw[upd_ne _ _ (g2 j hj)];exact hg i' g0 g1 g2
 note:=by
  intro q ch i l can l' hI hi ha zHy;obtain⟨O9,rfl,aU,rfl⟩:=zEZ ha;obtain⟨a,rfl⟩:=zHy;refine⟨rfl,?_⟩
  cases hI with
  |a n qs ix l0 hq hn hl h0 ho hc hg=>
   rcases Ow hl h0 ho hg hi with⟨rfl,rfl⟩|⟨j,hj,rfl,e⟩
   .rcases hl with e|⟨_,_,e|e⟩|⟨e,_⟩<;>cases e
    exact .a n O9 ix _ hq hn (.inr (.inl ⟨by have:=hq.len;omega,a,.inl rfl⟩)) (upd_same _ _ _) ⟨ho.ne,ho.inj,λj hj=>by rw[upd_ne _ _ (ho.ne j hj)];exact ho.at_ j hj⟩ hc λi' g0 g1=>by rw[upd_ne _ _ g0];exact hg i' g0 g1
   .cases e
  |b qs ix iw k hq hk hw aS h0 cN ho hc hg=>
   exfalso;rcases M9 h0 cN ho hg hi with⟨_,e⟩|⟨_,e⟩|⟨j,hj,_,e|⟨_,e⟩⟩<;>cases e
  |c qs ix iw k i0 kd cl anz a hq hk hw aS h0 cN ho hc qH oE hg=>
   exfalso;rcases Qb h0 cN ho hg hi with⟨_,e⟩|⟨_,e⟩|⟨j,hj,_,⟨_,e⟩|⟨_,e|⟨_,e⟩⟩⟩<;>cases e
 wait:=by
  intro q ch i l hI hi ha;obtain rfl:=zzD ha
  cases hI with
  |a n qs ix l0 hq hn hl h0 ho hc hg=>
   exfalso;rcases Ow hl h0 ho hg hi with⟨rfl,e⟩|⟨j,hj,rfl,e⟩
   .grind
   .cases e
  |b qs ix iw k hq hk hw aS h0 cN ho hc hg=>
   rcases M9 h0 cN ho hg hi with⟨rfl,_⟩|⟨_,e⟩|⟨j,hj,_,e|⟨_,e⟩⟩
   .refine⟨rfl,rfl,.b qs ix iw k hq hk hw aS (.inr (upd_same _ _ _)) ?_ ⟨ho.ne,ho.inj,λj hj=>?_⟩ hc λi' g0 g1 g2=>?_⟩
    .rw[upd_ne _ _ hw];exact cN
    .rw[upd_ne _ _ (ho.ne j hj)];exact ho.at_ j hj
    .rw[upd_ne _ _ g0];exact hg i' g0 g1 g2
   all_goals cases e
  |c qs ix iw k i0 kd cl anz a hq hk hw aS h0 cN ho hc qH oE hg=>
   rcases Qb h0 cN ho hg hi with⟨rfl,_⟩|⟨_,e⟩|⟨j,hj,_,⟨_,e⟩|⟨_,e|⟨_,e⟩⟩⟩
   .refine⟨rfl,rfl,.c qs ix iw k i0 kd cl anz a hq hk hw aS (.inr (upd_same _ _ _)) ?_ ⟨ho.ne,ho.inj,λj hj=>?_⟩ hc qH oE λi' g0 g1 g2=>?_⟩
    .rw[upd_ne _ _ hw];exact cN
    .rw[upd_ne _ _ (ho.ne j hj)];exact ho.at_ j hj
    .rw[upd_ne _ _ g0];exact hg i' g0 g1 g2
   all_goals cases e
 prog:=by
  intro q ch hI hB
  cases hI with
  |a n qs ix l0 hq hn hl h0 ho hc hg=>exact(zuz (zkk hl) (hB 0 l0 h0)).elim
  |b qs ix iw k hq hk hw aS h0 cN ho hc hg=>
   have hz:q 0=.waits:=h0.resolve_left λe=>zuz (.inr (.inr (.inr (.inr rfl)))) (hB 0 _ e);have zF7:k=W.length:=by
    rcases cN with e|⟨e,_⟩
    .have h1:=hB iw _ e
     cases hx:W[k]? with
     |none=>grind
     |some x=>
      exfalso
      cases x with
      |ask i kd cl anz=>
       obtain⟨hi,vS,_⟩:=hW.ask k i kd cl anz hx;unfold jL.Blocked Db at h1;simp only[eK,hx] at h1;refine h1 ⟨ix i,.op (qa qs i) (lC W k i) (nO W k i),_,_,_,?_,rfl⟩;rcases ho.at_ i hi with h2|⟨h2,_⟩
       .exact h2
       simp_all
      |shut i=>
       unfold jL.Blocked Db at h1;simp only[eK,hx] at h1
    .exact e
   subst zF7;refine⟨hz,λi l hi=>?_⟩;have h1:=hB i l hi;rcases M9 h0 cN ho hg hi with⟨rfl,_⟩|⟨_,rfl⟩|⟨j,hj,rfl,rfl|⟨_,rfl⟩⟩
   .rw[hz] at hi;cases hi
   .unfold jL.Blocked Db at h1
    simp[eK] at h1
   .unfold jL.Blocked Db at h1
    simp only[eK] at h1;rw[hc j hj,hW.all j hj] at h1;simp_all
   .unfold jL.Blocked Db at h1
    simp[eK] at h1
  |c qs ix iw k i0 kd cl anz a hq hk hw aS h0 cN ho hc qH oE hg=>
   exfalso;obtain⟨fH,_,_⟩:=hW.ask k i0 kd cl anz hk;have h2:=ho.at_ i0 fH;rw[if_pos rfl] at h2;have h1:=hB (ix i0) _ h2;unfold jL.Blocked Db at h1;simp only[eK] at h1;exact h1 ⟨iw,.wr qs k a,_,_,_,cN,rfl⟩
 pendC:=by
  intro l l' c v ok pub nx ha hl;subst hl;rcases znG ha with⟨c0,call,m,rfl,rfl,rfl,rfl⟩|⟨qs,k,i,kd,cl,anz,rfl,h1,rfl,rfl,rfl,rfl⟩
  .rfl
  .show(Yg qs k v).pend=false
   unfold Yg;split<;>rfl
 pendR:=by
  intro l l' c v ok nx sh ha hl;rcases V6 ha with⟨call,m,rfl,rfl,rfl,rfl⟩|⟨qs,k,rfl,rfl,rfl,rfl⟩
  .rcases hl with rfl|rfl
   .show(Qx c call m v).pend=false
    unfold Qx;split<;>rfl
   .rfl
  .rcases hl with rfl|rfl<;>rfl
 pendX:=by
  intro l c nx ha;obtain⟨qs,k,i,rfl,_,_,rfl⟩:=zxQ ha;rfl
 few:=by
  intro q ch hI m;have key:∀(n iw:Nat) (ix:Nat->Nat),n<=N->(∀i,i≠0->i≠iw->(∀j,j<n->i≠ix j)->q i=.gone)->num q m<2000000000:=λn iw ix hn hg=>by
   have:=zEn (0::iw::(iX n).map ix) q (λi hi=>by
    simp only[lO,not_or,Sa,D4,not_exists,not_and] at hi;exact hg i hi.1 hi.2.1 λj hj e=>hi.2.2 j hj e.symm) m
   grind
  cases hI with
  |a n qs ix l0 hq hn hl h0 ho hc hg=>exact key n 0 ix hn λi h1 _ h3=>hg i h1 h3
  |b qs ix iw k hq hk hw aS h0 cN ho hc hg=>exact key N iw ix (bN _) hg
  |c qs ix iw k i0 kd cl anz a hq hk hw aS h0 cN ho hc qH oE hg=>exact key N iw ix (bN _) hg
 gotP:=by
  intro q ch i j li lj c ok pub nx rL pL sh v hI hi hj ha hb hv a hx
  cases hI with
  |a n qs ix l0 hq hn hl h0 ho hc hg=>exact(zeN hl h0 ho hg hi ha).elim
  |b qs ix iw k hq hk hw aS h0 cN ho hc hg=>
   obtain⟨rfl,rfl,j0,kd,cl,anz,h1,rfl,rfl,rfl,rfl⟩:=zdg h0 cN ho hg hi ha;obtain⟨j1,Jg,rfl,rfl,_⟩:=X3 h0 cN ho hg hj hb;exact hx
  |c qs ix iw k i0 kd cl anz a' hq hk hw aS h0 cN ho hc qH oE hg=>
   obtain⟨fH,rfl,rfl,rfl,rfl,rfl,rfl⟩:=zaK h0 cN ho hg hi ha;rcases Vx h0 cN ho hg hj hb with⟨rfl,rfl,_⟩|⟨j1,Jg,_,rfl,_,uO,_⟩
   .cases hx
   grind
end
end Go.Mt
namespace Go.Proofs.YtfcjiloojkjaeaaGreatDoor
open Go.RowKit Go.Mt
def zL (op:Int):Nat:=(op-1).toNat
def Ha (b:bY)(op:Int):List fB:=
 .ask (zL op) 0 0 (dL b.recs op)::(if 0<dL b.recs op then[] else match b.wait with|[]=>[]|c::_=>[.ask (zL op) 1 c.c c.c])
def Dg (b:bY)(op:Int):List fB:=
 .ask (zL op) 0 0 (dL b.recs op)::(if 0<dL b.recs op then[] else match b.back with|[]=>[]|c::_=>match oM b.o b.recs with|[]=>[]|_::_=>[.ask (zL op) 1 c.c c.c])
def Dl (b:bY)(c:Int):List fB:=
 match gN b.recs c with
 |some i=>if 0<opAt b.recs i then[.ask (zL (opAt b.recs i)) 1 0 0] else[]
 |none=>[]
def pA (b:bY)(e:dX):List fB:=
 if e.k.toList=Bt then[] else if e.k.toList=F7 then Ha b e.a else if e.k.toList=C8 then Dg b e.a else if e.k.toList=Eg then Dl b e.a else[]
def rZ (o:gG)(es:List dX):Nat->List fB
 |0=>[]
 |k+1=>rZ o es k++(match es[k]? with|some e=>pA (l5 o es k) e|none=>[])
def zC (b:bY):Nat->List fB
 |0=>[]
 |n+1=>zC b n++[.ask n 0 0 (dL b.recs ((n:Int)+1)),.shut n]
def C1 (o:gG)(es:List dX):List fB:=rZ o es es.length++zC (F8 o es) o.op.toNat
theorem zhY (A B:List fB)(i:Nat):∀k,k<=A.length->lC (A++B) k i=lC A k i:=by
 intro k
 induction k with
 |zero=>intro _;rfl
 |succ k ih=>
  intro hk;simp only[lC]
  grind
theorem Xc (A B:List fB)(i:Nat):∀k,k<=A.length->fM (A++B) k i=fM A k i:=by
 intro k
 induction k with
 |zero=>intro _;rfl
 |succ k ih=>
  intro hk;simp only[fM]
  grind
theorem zge (A:List fB)(x:fB):(A++[x])[A.length]? =some x:=by simp_all
structure WP (N:Nat)(A:List fB):Prop where
 ask:∀(k i:Nat) (kd cl anz:Int),A[k]? =some (.ask i kd cl anz)->i<N/\fM A k i=false/\anz=lC A (k+1) i
 shut:∀(k i:Nat),A[k]? =some (.shut i)->i<N/\fM A k i=false
variable {N:Nat}{A:List fB}
theorem WP.snoc {x:fB}(h:WP N A)(h1:∀i kd cl anz,x=.ask i kd cl anz->i<N/\fM A A.length i=false/\anz=lC (A++[x]) (A.length+1) i)(h2:∀i,x=.shut i->i<N/\fM A A.length i=false):WP N (A++[x]):=by
 have key:∀(k:Nat) (y:fB),(A++[x])[k]? =some y->(k<A.length/\A[k]? =some y)\/(k=A.length/\y=x):=λk y hk=>by grind
 refine⟨λk i kd cl anz hk=>?_,λk i hk=>?_⟩
 .rcases key k _ hk with⟨hl,cU⟩|⟨rfl,e⟩
  .obtain⟨a1,a2,a3⟩:=h.ask k i kd cl anz cU
   exact⟨a1,by rw[Xc _ _ _ _ aC];exact a2,by rw[zhY _ _ _ _ aC];exact a3⟩
  .obtain⟨a1,a2,a3⟩:=h1 i kd cl anz e.symm
   exact⟨a1,by rw[Xc _ _ _ _ (bN _)];exact a2,a3⟩
 .rcases key k _ hk with⟨hl,cU⟩|⟨rfl,e⟩
  .obtain⟨a1,a2⟩:=h.shut k i cU
   exact⟨a1,by rw[Xc _ _ _ _ aC];exact a2⟩
  .obtain⟨a1,a2⟩:=h2 i e.symm
   exact⟨a1,by rw[Xc _ _ _ _ (bN _)];exact a2⟩
theorem Xs (A:List fB)(j:Nat)(kd cl anz:Int)(i:Nat):lC (A++[.ask j kd cl anz]) (A.length+1) i=if i=j then(if kd=1 then cl else lC A A.length i) else lC A A.length i:=by
 simp only[lC,zge];rw[zhY _ _ _ _ (bN _)]
theorem znL (A:List fB)(j:Nat)(kd cl anz:Int)(i:Nat):fM (A++[.ask j kd cl anz]) (A.length+1) i=fM A A.length i:=by
 simp only[fM,zge];rw[Xc _ _ _ _ (bN _)]
theorem zCR (A:List fB)(j i:Nat):lC (A++[.shut j]) (A.length+1) i=lC A A.length i:=by
 simp only[lC,zge];rw[zhY _ _ _ _ (bN _)]
theorem zBW (A:List fB)(j i:Nat):fM (A++[.shut j]) (A.length+1) i=if i=j then true else fM A A.length i:=by
 simp only[fM,zge];rw[Xc _ _ _ _ (bN _)]
def It (N:Nat)(rs:List bO)(A:List fB):Prop:=∀i,i<N->lC A A.length i=dL rs ((i:Int)+1)/\fM A A.length i=false
def zbd (A:List fB)(x:fB):(A++[x]).length=A.length+1:=aQ
variable {rs:List bO}{i:Nat}
theorem WP.who (h:WP N A)(ht:It N rs A)(hi:i<N):WP N (A++[.ask i 0 0 (dL rs ((i:Int)+1))])/\It N rs (A++[.ask i 0 0 (dL rs ((i:Int)+1))]):=by
 obtain⟨t1,t2⟩:=ht i hi;refine⟨h.snoc (λj kd cl anz e=>?_) (λj e=>by cases e),λj hj=>?_⟩
 .cases e
  exact⟨hi,t2,by rw[Xs,if_pos rfl,if_neg aH,t1]⟩
 .obtain⟨s1,s2⟩:=ht j hj
  rw[zbd,Xs,znL];simp_all
variable {D9:List bO}
theorem WP.tell (h:WP N A)(ht:It N rs A)(hi:i<N){c:Int}(h1:dL D9 ((i:Int)+1)=c)(h2:∀j:Nat,j<N->j≠i->dL D9 ((j:Int)+1)=dL rs ((j:Int)+1)):WP N (A++[.ask i 1 c c])/\It N D9 (A++[.ask i 1 c c]):=by
 obtain⟨t1,t2⟩:=ht i hi;refine⟨h.snoc (λj kd cl anz e=>?_) (λj e=>by cases e),λj hj=>?_⟩
 .cases e
  exact⟨hi,t2,by rw[Xs,if_pos rfl,if_pos rfl]⟩
 .obtain⟨s1,s2⟩:=ht j hj
  rw[zbd,Xs,znL]
  grind
def It.same (ht:It N rs A)(h:∀j:Nat,j<N->dL D9 ((j:Int)+1)=dL rs ((j:Int)+1)):It N D9 A:=λi hi=>⟨(ht i hi).1.trans (h i hi).symm,(ht i hi).2⟩
variable {op:Int}
theorem zxM {r:bO}(h:r.o≠op):dL (rs++[r]) op=dL rs op:=by
 unfold dL;have hn:[r].find? (xK op)=none:=by
  rw[zfi];intro x hx;obtain rfl:=List.mem_singleton.1 hx;unfold xK;simp[h]
 simp_all
variable {b:bY}
def fK.one (h:fK b)(hop:0<op):∀(i j:Nat) (d e:bO),b.recs[i]? =some d->b.recs[j]? =some e->cS d=true->cS e=true->d.o=op->e.o=op->i=j:=
 λi j d e h1 h2 h3 h4 h5 h6=>h.opn i j d e h1 h2 h3 h4 (.inr (.inr ⟨h5.trans h6.symm,aC⟩))
theorem zqe (hu:∀(i j:Nat) (d e:bO),D9[i]? =some d->D9[j]? =some e->cS d=true->cS e=true->d.o=op->e.o=op->i=j)
 (h1:∀(i:Nat) (d:bO),rs[i]? =some d->cS d=true->d.o=op->D9[i]? =some d) (h2:∀(i:Nat) (d:bO),D9[i]? =some d->cS d=true->d.o=op->rs[i]? =some d):dL D9 op=dL rs op:=by
 rcases zxL rs op with⟨i,d,a1,a2,a3,a4⟩|⟨a1,a2⟩
 .rw[a4];exact zmA hu (h1 i d a1 a2 a3) a2 a3
 .rw[a2]
  exact zsv λi d hd ho e=>a1 i d (h2 i d hd ho e) ho e
variable {d:bO}{e:ByteArray}
theorem zkS (h:fK b)(hd:b.recs[i]? =some d)(he:(e.toList==[111,112,101,110])=false)(hop:0<op)(aS:d.o≠op):dL (vD b i e) op=dL b.recs op:=by
 have old:∀(j:Nat) (z:bO),(vD b i e)[j]? =some z->cS z=true->b.recs[j]? =some z:=λj z hj hz=>by
  obtain⟨d',h1,⟨_,rfl⟩|⟨h2,rfl⟩⟩:=yI hj
  .have Jb:cS {d' with t:=b.clk,e:=e}=false:=he
   simp_all
  .exact h1
 refine zqe (λp q x y hp hq hx hy h5 h6=>h.one hop p q x y (old p x hp hx) (old q y hq hy) hx hy h5 h6) (λj z hj hz e=>?_) (λj z hj hz _=>old j z hj hz);exact Xw hj λe2=>by simp_all
theorem zH4 (h:fK b)(hd:b.recs[i]? =some d)(Bo:cS d=true)(he:(e.toList==[111,112,101,110])=false)(hop:0<d.o):dL (vD b i e) d.o=0:=by
 refine zsv λj z hj hz e2=>?_;obtain⟨d',h1,⟨_,rfl⟩|⟨h2,rfl⟩⟩:=yI hj
 .have Jb:cS {d' with t:=b.clk,e:=e}=false:=he
  rw[Jb] at hz;cases hz
 .exact h2 (h.one hop i j d z hd h1 Bo hz rfl e2)
theorem zGL (hop:0<op):∀(xs:List bF) (b:bY) (t:List UInt8),fK b->(xs.map bF.c).Nodup->(∀x∈xs,x∈b.wait)->dL (xs.foldl lW (b,t)).1.recs op=dL b.recs op:=by
 intro xs
 induction xs with
 |nil=>intro b t h _ _;rfl
 |cons x xs ih=>
  intro b t h hn hx;rw[Pk];have hS:=h.tire (t:=t) (x:=x);rw[jG,Cw] at hn;have key:dL (lW (b,t) x).1.recs op=dL b.recs op/\∀y∈xs,y∈(lW (b,t) x).1.wait:=by
   have Gv:∀y∈xs,y∈b.wait:=λy hy=>hx y (Rv _ hy);obtain⟨i0,d0,w1,w2,w3,w4⟩:=h.wt x (hx x aQ);have eU:gN b.recs x.c=some i0:=by rw[<-w3];exact h.at_ w1 w2
   unfold lW;simp only[eU];split
   .refine⟨zkS h w1 Zg hop aC,λy hy=>?_⟩
    show y∈dE b.wait (B7 b.recs i0);unfold dE;rw[L9,Ua w1,w3];simp_all
   .exact⟨rfl,Gv⟩
  simp_all
structure Sp (b:bY):Prop where
 op:∀d∈b.recs,0<=d.o/\d.o<=b.o.op
 n1:1<=b.o.op
def zrf (A B:List fB)(x:fB):A++x::B=(A++[x])++B:=aQ
theorem zCM {e:dX}(hS:fK b)(hr:RInv b)(hB:Sp b)(hN:b.o.op=(N:Int))(he:qX b.o.op e=true)(hw:WP N A)(ht:It N b.recs A):
 WP N (A++pA b e)/\It N (eF b e).1.recs (A++pA b e)/\Sp (eF b e).1:=by
 have zkQ:∀op:Int,1<=op->op<=b.o.op->zL op<N/\((zL op:Nat):Int)+1=op:=λop h1 h2=>by unfold zL;omega
 by_cases h1:e.k.toList=Bt
 .unfold pA eF
  rw[if_pos h1,if_pos h1,Nb];refine⟨hw,?_⟩;unfold oY;split
  .simp_all
  .split
   .exact⟨ht,⟨hB.op,hB.n1⟩⟩
   .rename_i l ls hf
    refine⟨ht.same λj hj=>zxM s9,⟨λd hd=>?_,hB.n1⟩⟩;rcases C3.1 hd with hd|hd
    .exact hB.op d hd
    simp_all
 by_cases h2:e.k.toList=F7
 .obtain⟨o1,o2⟩:=Xk he (.inl h2)
  obtain⟨i1,i2⟩:=zkQ e.a o1 o2;have Ej:¬e.k.toList=Bt:=h1;unfold pA eF;rw[if_neg h1,if_neg h1,if_pos h2,if_pos h2];unfold Ha nH;obtain⟨k1,k2⟩:=hw.who ht i1;rw[i2] at k1 k2;by_cases hp:0<dL b.recs e.a
  .simp_all
  .rw[if_neg hp,if_neg hp]
   cases b9:b.wait with
   |nil=>exact⟨k1,k2,hB⟩
   |cons c cs=>
    obtain⟨i0,d0,w1,w2,w3,w4⟩:=hS.wt c U9;have eU:gN b.recs c.c=some i0:=by rw[<-w3];exact hS.at_ w1 w2
    simp only[eU];rw[zrf];have hn:=zfL (λd hd=>(hr.recB d hd).1) hp;have Pt:=hS.heard (hh:=b.clk) w1 w2 hn (wait:=[]) (λx hx=>by cases hx);have r1:dL (b.recs.modify i0 λd=>{d with o:=e.a,h:=b.clk}) (((zL e.a:Nat):Int)+1)=c.c:=by
     rw[i2];have:=zmA (rs:=b.recs.modify i0 λd=>{d with o:=e.a,h:=b.clk}) (op:=e.a) (λp q x y=>Pt.one aC p q x y) (zdM w1) w2 rfl;rw[this];exact w3
    have r2:∀j:Nat,j<N->j≠zL e.a->dL (b.recs.modify i0 λd=>{d with o:=e.a,h:=b.clk}) ((j:Int)+1)=dL b.recs ((j:Int)+1):=λj hj aS=>by
     have zaY:(j:Int)+1≠e.a:=λh=>aS (by unfold zL;omega);refine zqe (λp q x y=>Pt.one aC p q x y) (λp z hz Ny zA8=>?_) (λp z hz Ny zA8=>?_)
     .grind
     grind
    obtain⟨m1,m2⟩:=k1.tell k2 i1 r1 r2;refine⟨m1,m2,⟨λd hd=>?_,hB.n1⟩⟩;obtain⟨d',If,rfl|rfl⟩:=Q7 hd
    .exact hB.op _ If
    grind
 by_cases h3:e.k.toList=C8
 .obtain⟨o1,o2⟩:=Xk he (.inr h3)
  obtain⟨i1,i2⟩:=zkQ e.a o1 o2;unfold pA eF;rw[if_neg h1,if_neg h1,if_neg h2,if_neg h2,if_pos h3,if_pos h3];unfold Dg l7;obtain⟨k1,k2⟩:=hw.who ht i1;rw[i2] at k1 k2;by_cases hp:0<dL b.recs e.a
  .simp_all
  .rw[if_neg hp,if_neg hp]
   cases xA:b.back with
   |nil=>exact⟨k1,k2,hB⟩
   |cons c cs=>
    cases hf:oM b.o b.recs with
    |nil=>exact⟨k1,k2,hB⟩
    |cons l ls=>
     simp only;rw[zrf];have hn:=zfL (λd hd=>(hr.recB d hd).1) hp;have Pt:=hS.more (c:=c.c) (l:=l) (o:=e.a) (hh:=b.clk) (tt:=-1) (clk:=b.clk) (hS.bo c zaM) (zcj Kb) (.inr hn) (wait:=[]) (back:=[]) (λx hx=>by cases hx) Wl (λx hx=>by cases hx);have r1:dL (b.recs++[⟨c.c,l,e.a,b.clk,b.clk,-1,dY⟩]) (((zL e.a:Nat):Int)+1)=c.c:=by
      rw[i2];exact zmA (rs:=b.recs++[⟨c.c,l,e.a,b.clk,b.clk,-1,dY⟩]) (op:=e.a) (λp q x y=>Pt.one aC p q x y) (i:=b.recs.length) (d:=⟨c.c,l,e.a,b.clk,b.clk,-1,dY⟩) tJ (by unfold cS;rw[zaa];rfl) rfl
     have r2:∀j:Nat,j<N->j≠zL e.a->dL (b.recs++[⟨c.c,l,e.a,b.clk,b.clk,-1,dY⟩]) ((j:Int)+1)=dL b.recs ((j:Int)+1):=λj hj aS=>
      zxM s9
     obtain⟨m1,m2⟩:=k1.tell k2 i1 r1 r2;refine⟨m1,m2,⟨λd hd=>?_,hB.n1⟩⟩;rcases C3.1 hd with hd|hd
     .exact hB.op d hd
     grind
 by_cases h4:e.k.toList=Eg
 .unfold pA eF
  rw[if_neg h1,if_neg h1,if_neg h2,if_neg h2,if_neg h3,if_neg h3,if_pos h4,if_pos h4];unfold Dl mG
  cases eU:gN b.recs e.a with
  |none=>
   simp only;rw[Nb];split
   .exact⟨hw,ht,⟨hB.op,hB.n1⟩⟩
   simp_all
  |some i=>
   obtain⟨d,g1,g2,g3⟩:=zH eU;have ho:opAt b.recs i=d.o:=by unfold opAt;rw[g1]
   have zoh:∀(x:ByteArray),∀z∈vD b i x,0<=z.o/\z.o<=b.o.op:=λx z hz=>by
    obtain⟨d',If,rfl|rfl⟩:=Q7 hz
    .exact hB.op _ If
    .exact hB.op d' If
   simp only[ho];by_cases hp:0<d.o
   .rw[if_pos hp,if_pos hp]
    obtain⟨i1,i2⟩:=zkQ d.o aC (hB.op d (dZ g1)).2;have r1:dL (vD b i vK) (((zL d.o:Nat):Int)+1)=0:=by rw[i2];exact zH4 hS g1 g3 Xy hp
    have r2:∀j:Nat,j<N->j≠zL d.o->dL (vD b i vK) ((j:Int)+1)=dL b.recs ((j:Int)+1):=λj hj aS=>zkS hS g1 Xy aC (λh=>aS (by unfold zL;omega));obtain⟨m1,m2⟩:=hw.tell ht i1 r1 r2;exact⟨m1,m2,⟨zoh _,hB.n1⟩⟩
   .rw[if_neg hp,if_neg hp,Nb]
    exact⟨hw,ht.same λj hj=>zkS hS g1 zfx aC aC,⟨zoh _,hB.n1⟩⟩
 .unfold pA eF
  rw[if_neg h1,if_neg h1,if_neg h2,if_neg h2,if_neg h3,if_neg h3,if_neg h4,if_neg h4,Nb];unfold tG;have Pt:fK {b with clk:=b.clk+e.a}:=⟨hS.opn,hS.last,hS.wt,hS.bk,hS.bo⟩;refine⟨hw,ht.same λj hj=>zGL aC b.wait {b with clk:=b.clk+e.a} _ Pt hr.nodup (λx hx=>hx),?_⟩;have key:∀(xs:List bF) (b':bY) (t:List UInt8),Sp b'->Sp (xs.foldl lW (b',t)).1:=by
   intro xs
   induction xs with
   |nil=>intro b' t h;exact h
   |cons x xs ih=>
    intro b' t h;rw[Pk];have h9:Sp (lW (b',t) x).1:=by
     unfold lW;split
     .exact h
     .split
      .refine⟨λz hz=>?_,h.n1⟩
       obtain⟨d',If,rfl|rfl⟩:=Q7 hz
       .exact h.op _ If
       .exact h.op d' If
      .exact h
    simp_all
  exact key _ _ _ ⟨hB.op,hB.n1⟩
variable {o:gG}{es:List dX}
theorem zul (h:fJ o es=true)(hN:o.op=(N:Int)):∀k,k<=es.length->WP N (rZ o es k)/\It N (l5 o es k).recs (rZ o es k)/\Sp (l5 o es k):=by
 intro k;have bU:=h;unfold fJ at bU;simp only[iY,uD] at bU
 induction k with
 |zero=>
  intro _;refine⟨⟨λk i kd cl anz h=>by simp[rZ] at h,λk i h=>by simp[rZ] at h⟩,λi hi=>⟨rfl,rfl⟩,⟨λd hd=>by simp[l5,lY] at hd,?_⟩⟩;have:=bU.1.1;unfold rV at this;simp at this;show 1<=o.op;omega
 |succ k ih=>
  intro hk;have aU:k<es.length:=aC;have he:=oX aU;obtain⟨a1,a2,a3⟩:=ih aC;obtain⟨b1,_,b3⟩:=K3 h k aC;have:=zCM (zeG h k aC) b1 a3 (by rw[b3];exact hN) (by rw[b3];exact bU.2 es[k] (List.getElem_mem aU)) a1 a2;rw[Ut he];unfold rZ;rw[he];exact⟨this.1,this.2.1,⟨this.2.2.op,this.2.2.n1⟩⟩
theorem endA_ok (hw:WP N A)(ht:It N b.recs A):∀n,n<=N->WP N (A++zC b n)/\(∀i,i<N->lC (A++zC b n) (A++zC b n).length i=dL b.recs ((i:Int)+1))/\(∀i,fM (A++zC b n) (A++zC b n).length i=if i<n then true else fM A A.length i):=by
 intro n
 induction n with
 |zero=>intro _;simp only[zC,Nb];exact⟨hw,λi hi=>(ht i hi).1,λi=>by simp⟩
 |succ n ih=>
  intro hn;obtain⟨k1,k2,k3⟩:=ih aC;have e:A++zC b (n+1)=(A++zC b n++[fB.ask n 0 0 (dL b.recs ((n:Int)+1))])++[.shut n]:=by simp[zC]
  rw[e];generalize A++zC b n=B at*;have hx:fM B B.length n=false:=by rw[k3 n,if_neg (Jn _)];exact(ht n aC).2
  have w1:WP N (B++[fB.ask n 0 0 (dL b.recs ((n:Int)+1))]):=k1.snoc (λj kd cl anz e=>by cases e;exact⟨aC,hx,by rw[Xs,if_pos rfl,if_neg aH,k2 n aC]⟩) (λj e=>by cases e);have l1:=zbd B (fB.ask n 0 0 (dL b.recs ((n:Int)+1)));have x1:∀i,fM (B++[fB.ask n 0 0 (dL b.recs ((n:Int)+1))]) (B++[fB.ask n 0 0 (dL b.recs ((n:Int)+1))]).length i=fM B B.length i:=λi=>by rw[l1,znL]
  have c1:∀i,lC (B++[fB.ask n 0 0 (dL b.recs ((n:Int)+1))]) (B++[fB.ask n 0 0 (dL b.recs ((n:Int)+1))]).length i=lC B B.length i:=λi=>by
   rw[l1,Xs];omega
  generalize B++[fB.ask n 0 0 (dL b.recs ((n:Int)+1))]=B2 at*;refine⟨w1.snoc (λj kd cl anz e=>by cases e) (λj e=>by grind),λi hi=>?_,λi=>?_⟩
  .rw[zbd,zCR,c1];exact k2 i hi
  .rw[zbd,zBW,x1,k3 i]
   grind
theorem zAS (h:fJ o es=true):WOk o.op.toNat (C1 o es):=by
 have h1:o.op=(o.op.toNat:Int):=by
  have bU:=h;unfold fJ rV at bU;simp at bU;omega
 obtain⟨a1,a2,a3⟩:=zul h h1 es.length (bN _);rw[zdj] at a2;obtain⟨k1,k2,k3⟩:=endA_ok a1 a2 o.op.toNat (bN _);exact⟨k1.ask,k1.shut,λi hi=>by unfold C1;rw[k3 i,if_pos hi]⟩
end Go.Proofs.YtfcjiloojkjaeaaGreatDoor
namespace Go.Proofs.YtfcjiloojkjaeaaGreatDoor
open Go.RowKit
section
variable {P:bT}{k:aM}
theorem zmP {d:Mz}{e:aM}(hk:P.underlying k=some (.chan d e))(a b:Option Nat)(w:aE):(Op.equal k (.chan a) (.chan b)).run P w=.ok (a==b) w:=by
 unfold Op.equal;rw[show Ud=(Ud-1)+1 by decide];simp[Op.equalIn,xJ hk]
end
def yZ (es:List oV)(ps:List (Nat×aF)):Prop:=es.map (λe=>(e.key,e.val))=ps.map (λp=>(aF.chan (some p.1),p.2))
def Co (w:aE)(b:Nat)(ps:List (Nat×aF)):Prop:=∃es clock,w.heap[b]? =some (.map es clock)/\yZ es.toList ps
def pB (c:Nat):List (Nat×aF)->Option aF
 |[]=>none
 |p::ps=>if c=p.1 then some p.2 else pB c ps
def uS (c:Nat)(v:aF):List (Nat×aF)->List (Nat×aF)
 |[]=>[(c,v)]
 |p::ps=>if c=p.1 then(p.1,v)::ps else p::uS c v ps
def Bi (c:Nat):List (Nat×aF)->Nat->Option (Nat×aF)
 |[],_=>none
 |p::ps,i=>if c=p.1 then some (i,p.2) else Bi c ps (i+1)
variable {e:oV}{es:List oV}{ps:List (Nat×aF)}
theorem yZ.cons_inv (h:yZ (e::es) ps):∃p qs,ps=p::qs/\e.key=.chan (some p.1)/\e.val=p.2/\yZ es qs:=by
 unfold yZ at h
 cases ps with
 |nil=>cases h
 |cons p qs=>
  rw[jG,jG] at h;injection h with h1 h2;injection h1 with h3 h4;exact⟨p,qs,rfl,h3,h4,h2⟩
theorem yZ.nil_inv (h:yZ [] ps):ps=[]:=by
 unfold yZ at h;simp_all
section
variable {P:bT}{k:aM}{d:Mz}{e0:aM}
theorem zwv (hk:P.underlying k=some (.chan d e0))(c:Nat)(w:aE):∀(es:List oV) (ps:List (Nat×aF)) (i:Nat),yZ es ps->(Ka k (.chan (some c)) es i).run P w=.ok (Bi c ps i) w
 |[],ps,i,h=>by rw[h.nil_inv];rfl
 |e::es,ps,i,h=>by
  obtain⟨p,qs,rfl,h1,h2,h3⟩:=h.cons_inv;have ih:=zwv hk c w es qs (i+1) h3;unfold Ka;simp only[E0,h1,zmP hk,F9];by_cases hc:c=p.1
  .subst hc;simp[Bi,h2]
  .have:(some c==some p.1)=false:=by rw[beq_eq_false_iff_ne];intro h;injection h with h;exact hc h
   rw[this];simp only[Bool.false_eq_true,if_false,Bi,if_neg hc];exact ih
theorem zdO (hk:P.underlying k=some (.chan d e0))(c:Nat)(w:aE)(es:List oV)(ps:List (Nat×aF))(h:yZ es ps):(Ls k (.chan (some c)) es).run P w=.ok (Bi c ps 0) w:=by
 unfold Ls;simp only[E0,xJ hk,F9]
 cases es with
 |nil=>rw[h.nil_inv];rfl
 |cons e es=>
  have:Hb (.chan d e0) (.chan (some c)) (e::es) 0=none:=by
   simp[Hb,wM]
  rw[this];exact zwv hk c w _ _ 0 h
theorem znE (c:Nat):∀(ps:List (Nat×aF)) (i:Nat),(Bi c ps i).map zt5=pB c ps
 |[],_=>rfl
 |p::ps,i=>by
  unfold Bi pB;by_cases h:c=p.1
  .simp_all
  .rw[if_neg h,if_neg h];exact znE c ps (i+1)
theorem zgb (hk:P.underlying k=some (.chan d e0))(b:Bool)(c:Nat)(w:aE):(G9 b 10000 k (.chan (some c))).run P w=.ok () w:=by
 rw[show(10000:Nat)=9999+1 by decide];unfold G9;simp[xJ hk]
variable {ps:List (Nat×aF)}
theorem zBw {t e:aM}(ht:P.underlying t=some (.map k e))(hk:P.underlying k=some (.chan d e0)){z:aF}{w:aE}(hz:(zeroValue e).run P w=.ok z w){b c:Nat}(h:Co w b ps)(ok:Bool):
 (Ah t (.map (some b)) (.chan (some c)) ok).run P w=.ok (if ok then .tuple #[(pB c ps).getD z,.bool (pB c ps).isSome] else(pB c ps).getD z) w:=by
 obtain⟨es,clock,hb,he⟩:=h;unfold Ah;have hf:=znE c ps 0;have hg:(getObj b).run P w=.ok (.map es clock) w:=by first|exact run_getObj hb|(show bK P (zxF b Sem.pure) w=_;unfold bK;rw[hb];rfl)|(simp[getObj,bK,hb])
 simp only[E0,xJ ht,F9,hg,Jd,zgb hk,zdO hk c w _ _ he]
 cases hq:Bi c ps 0 with
 |none=>
  rw[hq] at hf;have El:pB c ps=none:=by simpa using hf.symm
  simp[hz,El]
 |some q=>
  rw[hq] at hf;have El:pB c ps=some q.2:=by simpa using hf.symm
  simp[El]
end
variable {c:Nat}{v:aF}
theorem zov :∀{ps:List (Nat×aF)} {i:Nat},Bi c ps i=none->uS c v ps=ps++[(c,v)]
 |[],_,_=>rfl
 |p::ps,i,h=>by
  unfold Bi at h;by_cases hc:c=p.1
  .simp_all
  .rw[if_neg hc] at h
   unfold uS;rw[if_neg hc,zov h];rfl
theorem zsm {c:Nat}{v:aF}:∀{es:List oV} {ps:List (Nat×aF)} {i:Nat} {q:Nat×aF},yZ es ps->Bi c ps i=some q->
 ∃j e0,q.1=i+j/\es[j]? =some e0/\e0.key=.chan (some c)/\yZ (es.set j {e0 with key:=.chan (some c),val:=v}) (uS c v ps)
 |[],ps,i,q,h,hq=>by rw[h.nil_inv] at hq;cases hq
 |e::es,ps,i,q,h,hq=>by
  obtain⟨p,qs,rfl,h1,h2,h3⟩:=h.cons_inv;unfold Bi at hq;by_cases hc:c=p.1
  .rw[if_pos hc] at hq
   injection hq with hq;refine⟨0,e,by rw[<-hq];rfl,rfl,by rw[h1,hc],?_⟩;unfold uS;rw[if_pos hc];unfold yZ at h3⊢;simp_all
  .rw[if_neg hc] at hq
   obtain⟨j,e0,e1,e2,e3,e4⟩:=zsm (v:=v) h3 hq;refine⟨j+1,e0,by rw[e1];omega,e2,e3,?_⟩;unfold uS;rw[if_neg hc];unfold yZ at e4⊢;simp_all
variable {P:bT}
theorem zEL (c:Nat)(w:aE):(Pu (.chan (some c)) (.chan (some c))).run P w=.ok (.chan (some c)) w:=by
 unfold Pu;rw[if_pos (by simp[zbQ])];rfl
section
variable {P:bT}{k:aM}{d:Mz}{e0:aM}
variable {ps:List (Nat×aF)}
open Go.ChangeMaps in
theorem zEk {t e:aM}(ht:P.underlying t=some (.map k e))(hk:P.underlying k=some (.chan d e0)){w:aE}{b c:Nat}(h:Co w b ps)(v:aF):
 ∃eY zaU,(Hh t (.map (some b)) (.chan (some c)) v).run P w=.ok () {w with heap:=w.heap.setIfInBounds b (.map eY zaU)}/\Co {w with heap:=w.heap.setIfInBounds b (.map eY zaU)} b (uS c v ps):=by
 obtain⟨es,clock,hb,he⟩:=h;have hz:=(eE.1 hb).1
 cases hq:Bi c ps 0 with
 |none=>
  refine⟨es.push ⟨.chan (some c),v,clock⟩,clock+1,?_,es.push ⟨.chan (some c),v,clock⟩,clock+1,by simp[hz],?_⟩
  .simp[Hh,xJ ht,X5 hb,zgb hk,zdO hk c w _ _ he,hq,Wz _ hb,vF]
  .rw[zov hq]
   unfold yZ at he⊢;simp_all
 |some q=>
  obtain⟨j,x,e1,e2,e3,e4⟩:=zsm (v:=v) he hq;have wN:q.1=j:=aC;have hj:es[j]? =some x:=by simpa using e2
  refine⟨es.modify j (λe'=>{e' with key:=.chan (some c),val:=v}),clock,?_,es.modify j (λe'=>{e' with key:=.chan (some c),val:=v}),clock,by simp[hz],?_⟩
  .simp[Hh,xJ ht,X5 hb,zgb hk,zdO hk c w _ _ he,hq,wN,hj,e3,zEL,Wz _ hb,vF]
  .have:(es.modify j (λe'=>{e' with key:=.chan (some c),val:=v})).toList=es.toList.set j {x with key:=.chan (some c),val:=v}:=by
    rw[znX,modify_eq_set _ _ _ _ e2]
   rw[this];exact e4
variable {ops:Array aZ}{rest:List aZ}{o:aZ}{a:Act}{Q:n6->Act->aE->Prop}
theorem zuc (w:aE)(hg:o.guard=none)(m x:cI)(t:aM)(ok:Bool)(hop:o.op=Op.lookup t m x ok)(e:aM)
 (ht:P.underlying t=some (.map k e)) (hk:P.underlying k=some (.chan d e0)) (z:aF) (hz:(zeroValue e).run P w=.ok z w) (b c:Nat) (ps:List (Nat×aF)) (hm:a.eval m=.map (some b)) (hx:a.eval x=.chan (some c)) (h:Co w b ps)
 (hK:wpList P ops Q rest (a.put o.dst (if ok then .tuple #[(pB c ps).getD z,.bool (pB c ps).isSome] else(pB c ps).getD z)) w):wpList P ops Q (o::rest) a w:=by
 refine Rj hg λK' rQ=>?_;have cH:=zBw ht hk hz h (c:=c) ok;unfold Cy;simp[aO,hop,hm,hx,cH,vF];cases ok<;>exact rQ _ _ hK
theorem zyp (w:aE)(hg:o.guard=none)(m x y:cI)(t:aM)(hop:o.op=zqf t m x y)(e:aM)
 (ht:P.underlying t=some (.map k e)) (hk:P.underlying k=some (.chan d e0)) (b c:Nat) (v:aF) (ps:List (Nat×aF)) (hm:a.eval m=.map (some b)) (hx:a.eval x=.chan (some c)) (hy:a.eval y=v) (h:Co w b ps)
 (hK:∀w' o',w'={w with heap:=w.heap.setIfInBounds b o'}->Co w' b (uS c v ps)->wpList P ops Q rest (a.put o.dst aA) w'):wpList P ops Q (o::rest) a w:=by
 refine Rj hg λK' rQ=>?_;obtain⟨es,cl,cH,qB⟩:=zEk ht hk h (c:=c) v;unfold Cy;simp[aO,hop,hm,hx,hy,cH,vF];exact rQ _ _ (hK _ _ rfl qB)
open Go.ChangeMaps in
end
def zK (es:List oV)(ps:List (Int×aF)):Prop:=es.map (λe=>(e.key,e.val))=ps.map (λp=>(aF.int .i64 p.1,p.2))
def x4 (w:aE)(b:Nat)(ps:List (Int×aF)):Prop:=∃es clock,w.heap[b]? =some (.map es clock)/\zK es.toList ps
def lB (c:Int):List (Int×aF)->Option aF
 |[]=>none
 |p::ps=>if c=p.1 then some p.2 else lB c ps
def qT (c:Int)(v:aF):List (Int×aF)->List (Int×aF)
 |[]=>[(c,v)]
 |p::ps=>if c=p.1 then(p.1,v)::ps else p::qT c v ps
def Bg (c:Int):List (Int×aF)->Nat->Option (Nat×aF)
 |[],_=>none
 |p::ps,i=>if c=p.1 then some (i,p.2) else Bg c ps (i+1)
variable {ps:List (Int×aF)}
theorem zK.cons_inv (h:zK (e::es) ps):∃p qs,ps=p::qs/\e.key=.int .i64 p.1/\e.val=p.2/\zK es qs:=by
 unfold zK at h
 cases ps with
 |nil=>cases h
 |cons p qs=>
  rw[jG,jG] at h;injection h with h1 h2;injection h1 with h3 h4;exact⟨p,qs,rfl,h3,h4,h2⟩
theorem zK.nil_inv (h:zK [] ps):ps=[]:=by
 unfold zK at h;simp_all
section
variable {P:bT}{k:aM}
theorem zsY (c:Int):∀(es:List oV) (ps:List (Int×aF)) (i:Nat),zK es ps->Hb (.int .i64) (.int .i64 c) es i=some (Bg c ps i)
 |[],ps,i,h=>by rw[h.nil_inv];rfl
 |e::es,ps,i,h=>by
  obtain⟨p,qs,rfl,h1,h2,h3⟩:=h.cons_inv;have ih:=zsY c es qs (i+1) h3;unfold Hb;simp only[h1,wM,if_true];by_cases hc:c=p.1
  .subst hc;simp[Bg,h2]
  .have:(c==p.1)=false:=by rw[beq_eq_false_iff_ne];exact hc
   rw[this];simp only[Bg,if_neg hc];exact ih
theorem zg0 (hk:P.underlying k=some (.int .i64))(c:Int)(w:aE)(es:List oV)(ps:List (Int×aF))(h:zK es ps):(Ls k (.int .i64 c) es).run P w=.ok (Bg c ps 0) w:=by
 unfold Ls;simp only[E0,xJ hk,F9,zsY c es ps 0 h,Jd]
theorem zlx (c:Int):∀(ps:List (Int×aF)) (i:Nat),(Bg c ps i).map zt5=lB c ps
 |[],_=>rfl
 |p::ps,i=>by
  unfold Bg lB;by_cases h:c=p.1
  .simp_all
  .rw[if_neg h,if_neg h];exact zlx c ps (i+1)
theorem zhm (hk:P.underlying k=some (.int .i64))(b:Bool)(c:Int)(w:aE):(G9 b 10000 k (.int .i64 c)).run P w=.ok () w:=by
 rw[show(10000:Nat)=9999+1 by decide];unfold G9;simp[xJ hk]
variable {ps:List (Int×aF)}
theorem za1 {t e:aM}(ht:P.underlying t=some (.map k e))(hk:P.underlying k=some (.int .i64)){z:aF}{w:aE}(hz:(zeroValue e).run P w=.ok z w){b:Nat}{c:Int}(h:x4 w b ps)(ok:Bool):
 (Ah t (.map (some b)) (.int .i64 c) ok).run P w=.ok (if ok then .tuple #[(lB c ps).getD z,.bool (lB c ps).isSome] else(lB c ps).getD z) w:=by
 obtain⟨es,clock,hb,he⟩:=h;unfold Ah;have hf:=zlx c ps 0;have hg:(getObj b).run P w=.ok (.map es clock) w:=by first|exact run_getObj hb|(show bK P (zxF b Sem.pure) w=_;unfold bK;rw[hb];rfl)|(simp[getObj,bK,hb])
 simp only[E0,xJ ht,F9,hg,Jd,zhm hk,zg0 hk c w _ _ he]
 cases hq:Bg c ps 0 with
 |none=>
  rw[hq] at hf;have El:lB c ps=none:=by simpa using hf.symm
  simp[hz,El]
 |some q=>
  rw[hq] at hf;have El:lB c ps=some q.2:=by simpa using hf.symm
  simp[El]
end
theorem zuJ {c:Int}:∀{ps:List (Int×aF)} {i:Nat},Bg c ps i=none->qT c v ps=ps++[(c,v)]
 |[],_,_=>rfl
 |p::ps,i,h=>by
  unfold Bg at h;by_cases hc:c=p.1
  .simp_all
  .rw[if_neg hc] at h
   unfold qT;rw[if_neg hc,zuJ h];rfl
theorem ztS {c:Int}{v:aF}:∀{es:List oV} {ps:List (Int×aF)} {i:Nat} {q:Nat×aF},zK es ps->Bg c ps i=some q->
 ∃j e0,q.1=i+j/\es[j]? =some e0/\e0.key=.int .i64 c/\zK (es.set j {e0 with key:=.int .i64 c,val:=v}) (qT c v ps)
 |[],ps,i,q,h,hq=>by rw[h.nil_inv] at hq;cases hq
 |e::es,ps,i,q,h,hq=>by
  obtain⟨p,qs,rfl,h1,h2,h3⟩:=h.cons_inv;unfold Bg at hq;by_cases hc:c=p.1
  .rw[if_pos hc] at hq
   injection hq with hq;refine⟨0,e,by rw[<-hq];rfl,rfl,by rw[h1,hc],?_⟩;unfold qT;rw[if_pos hc];unfold zK at h3⊢;simp_all
  .rw[if_neg hc] at hq
   obtain⟨j,e0,e1,e2,e3,e4⟩:=ztS (v:=v) h3 hq;refine⟨j+1,e0,by rw[e1];omega,e2,e3,?_⟩;unfold qT;rw[if_neg hc];unfold zK at e4⊢;simp_all
theorem zIn (c:Int)(w:aE):(Pu (.int .i64 c) (.int .i64 c)).run P w=.ok (.int .i64 c) w:=by
 unfold Pu;rw[if_pos (by simp[zbQ])];rfl
section
variable {P:bT}{k:aM}
variable {ps:List (Int×aF)}
open Go.ChangeMaps in
theorem zqi {t e:aM}(ht:P.underlying t=some (.map k e))(hk:P.underlying k=some (.int .i64)){w:aE}{b:Nat}{c:Int}(h:x4 w b ps)(v:aF):
 ∃eY zaU,(Hh t (.map (some b)) (.int .i64 c) v).run P w=.ok () {w with heap:=w.heap.setIfInBounds b (.map eY zaU)}/\x4 {w with heap:=w.heap.setIfInBounds b (.map eY zaU)} b (qT c v ps):=by
 obtain⟨es,clock,hb,he⟩:=h;have hz:=(eE.1 hb).1
 cases hq:Bg c ps 0 with
 |none=>
  refine⟨es.push ⟨.int .i64 c,v,clock⟩,clock+1,?_,es.push ⟨.int .i64 c,v,clock⟩,clock+1,by simp[hz],?_⟩
  .simp[Hh,xJ ht,X5 hb,zhm hk,zg0 hk c w _ _ he,hq,Wz _ hb,vF]
  .rw[zuJ hq]
   unfold zK at he⊢;simp_all
 |some q=>
  obtain⟨j,x,e1,e2,e3,e4⟩:=ztS (v:=v) he hq;have wN:q.1=j:=aC;have hj:es[j]? =some x:=by simpa using e2
  refine⟨es.modify j (λe'=>{e' with key:=.int .i64 c,val:=v}),clock,?_,es.modify j (λe'=>{e' with key:=.int .i64 c,val:=v}),clock,by simp[hz],?_⟩
  .simp[Hh,xJ ht,X5 hb,zhm hk,zg0 hk c w _ _ he,hq,wN,hj,e3,zIn,Wz _ hb,vF]
  .have:(es.modify j (λe'=>{e' with key:=.int .i64 c,val:=v})).toList=es.toList.set j {x with key:=.int .i64 c,val:=v}:=by
    rw[znX,modify_eq_set _ _ _ _ e2]
   rw[this];exact e4
variable {ops:Array aZ}{rest:List aZ}{o:aZ}{a:Act}{Q:n6->Act->aE->Prop}
theorem zp8 (w:aE)(hg:o.guard=none)(m x:cI)(t:aM)(ok:Bool)(hop:o.op=Op.lookup t m x ok)(e:aM)
 (ht:P.underlying t=some (.map k e)) (hk:P.underlying k=some (.int .i64)) (z:aF) (hz:(zeroValue e).run P w=.ok z w) (b:Nat) (c:Int) (ps:List (Int×aF)) (hm:a.eval m=.map (some b)) (hx:a.eval x=.int .i64 c) (h:x4 w b ps)
 (hK:wpList P ops Q rest (a.put o.dst (if ok then .tuple #[(lB c ps).getD z,.bool (lB c ps).isSome] else(lB c ps).getD z)) w):wpList P ops Q (o::rest) a w:=by
 refine Rj hg λK' rQ=>?_;have cH:=za1 ht hk hz h (c:=c) ok;unfold Cy;simp[aO,hop,hm,hx,cH,vF];cases ok<;>exact rQ _ _ hK
theorem zFd (w:aE)(hg:o.guard=none)(m x y:cI)(t:aM)(hop:o.op=zqf t m x y)(e:aM)
 (ht:P.underlying t=some (.map k e)) (hk:P.underlying k=some (.int .i64)) (b:Nat) (c:Int) (v:aF) (ps:List (Int×aF)) (hm:a.eval m=.map (some b)) (hx:a.eval x=.int .i64 c) (hy:a.eval y=v) (h:x4 w b ps)
 (hK:∀w' o',w'={w with heap:=w.heap.setIfInBounds b o'}->x4 w' b (qT c v ps)->wpList P ops Q rest (a.put o.dst aA) w'):wpList P ops Q (o::rest) a w:=by
 refine Rj hg λK' rQ=>?_;obtain⟨es,cl,cH,qB⟩:=zqi ht hk h (c:=c) v;unfold Cy;simp[aO,hop,hm,hx,hy,cH,vF];exact rQ _ _ (hK _ _ rfl qB)
open Go.ChangeMaps in
end
structure fC where
 sL:aF
 sQ:aF
 sW:aF
 sB:aF
 sR:aF
 sA:aF
 sT:aF
 mC:Nat
 mO:Nat
 mM:Nat
 pC:List (Nat×aF)
 pO:List (Int×aF)
 pM:List (Int×aF)
structure nV where
 r:bY
 ln:List Nat
 qn:List Nat
 tk:List Int
def J7 (xs:List Nat):List Value:=xs.map λc=>.chan (some c)
abbrev hallA (v:fC)(d:nV):Array Value:=#[.int .i64 d.r.o.ln,.int .i64 d.r.o.op,.int .i64 d.r.o.pt,v.sL,.map (some v.mC),.map (some v.mO),v.sQ,v.sW,v.sB,v.sR,.map (some v.mM),.int .i64 d.r.clk,v.sA,v.sT]
abbrev Nx (v:fC)(d:nV):Obj:=.cells (hallA v d) 72
def parts (v:fC)(hb:Nat):List (Option Nat):=[some hb,v.sL.ownBlock,some v.mC,some v.mO,v.sQ.ownBlock,v.sW.ownBlock,v.sB.ownBlock,v.sR.ownBlock,some v.mM,v.sA.ownBlock,v.sT.ownBlock]
def zc5 (l:List (Option Nat)):Prop:=∀(i j b:Nat),l[i]? =some (some b)->l[j]? =some (some b)->i=j
structure bE (w:aE)(lo hb:Nat)(v:fC)(d:nV):Prop where
 blk:w.heap[hb]? =some (Nx v d)
 lob:lo<=hb/\lo<=v.mC/\lo<=v.mO/\lo<=v.mM
 L:w.ownsRow lo 84 1 v.sL d.ln.length (J7 d.ln)
 Q:w.ownsRow lo 95 1 v.sQ d.qn.length (J7 d.qn)
 W:w.ownsRow lo 149 2 v.sW d.r.wait.length (bG d.r.wait)
 B:w.ownsRow lo 3 1 v.sB d.r.back.length (jQ (d.r.back.map bF.c))
 R:w.ownsRow lo 50 7 v.sR d.r.recs.length (recs d.r.recs)
 A:w.ownsRow lo 9 1 v.sA d.r.log.length (Gg d.r.log)
 T:w.ownsRow lo 3 1 v.sT d.tk.length (jQ d.tk)
 C:Co w v.mC v.pC
 O:x4 w v.mO v.pO
 M:x4 w v.mM v.pM
 ap:zc5 (parts v hb)
structure bP (hb:Nat)(v:fC)(w:aE)(v':fC)(w':aE):Prop where
 size:w.heap.size<=w'.heap.size
 block:∀b,b<w.heap.size->some b∉parts v hb->w'.heap[b]? =w.heap[b]?
 moved:∀b,some b∈parts v' hb->some b∈parts v hb\/w.heap.size<=b
section
variable {w w1 w' Ft:aE}{lo hb:Nat}{v v' zcb:fC}{d:nV}
def bP.refl:bP hb v w v w:=⟨bN _,λ_ _ _=>rfl,λ_ h=>.inl h⟩
theorem bP.trans (h:bP hb v w v' w')(k:bP hb v' w' zcb Ft):bP hb v w zcb Ft:=
 ⟨eM h.size k.size,λb bZ hn=>(k.block b (jW bZ h.size) (λx=>(h.moved b x).elim hn λy=>by omega)).trans (h.block b bZ hn),λb x=>(k.moved b x).elim (h.moved b) λy=>.inr (eM h.size y)⟩
def bP.below (h:cD w.heap.size w w'):bP hb v w v w':=⟨h.size,λb hb _=>h.block b hb,λ_ h=>.inl h⟩
theorem bP.same (h:bP hb v w v' w'){x:aE}(e:x.heap=w'.heap):bP hb v w v' x:=⟨by rw[e];exact h.size,λb hb hn=>by rw[e];exact h.block b hb hn,h.moved⟩
variable {x:aF}
theorem cF {E s n:Nat}{xs:List aF}(h:w.ownsRow lo E s x n xs)(k:∀b,x.ownBlock=some b->w'.heap[b]? =w.heap[b]?):w'.ownsRow lo E s x n xs:=by
 obtain⟨hl,h|⟨g,cap,cur,rfl,h1,hg,h2⟩⟩:=h
 .exact⟨hl,.inl h⟩
 .exact⟨hl,.inr ⟨g,cap,cur,rfl,h1,(k g rfl).trans hg,h2⟩⟩
theorem Co.keep {b:Nat}{ps:List (Nat×aF)}(h:Co w b ps)(k:w'.heap[b]? =w.heap[b]?):Co w' b ps:=by
 obtain⟨es,cl,h1,h2⟩:=h;exact⟨es,cl,k.trans h1,h2⟩
variable {ps:List (Int×aF)}
theorem x4.keep {b:Nat}(h:x4 w b ps)(k:w'.heap[b]? =w.heap[b]?):x4 w' b ps:=by
 obtain⟨es,cl,h1,h2⟩:=h;exact⟨es,cl,k.trans h1,h2⟩
theorem Co.lt {b:Nat}{ps:List (Nat×aF)}(h:Co w b ps):b<w.heap.size:=by
 obtain⟨es,cl,h1,h2⟩:=h
 grind
theorem x4.lt {b:Nat}(h:x4 w b ps):b<w.heap.size:=by
 obtain⟨es,cl,h1,h2⟩:=h
 grind
theorem bE.lt (h:bE w lo hb v d):∀b,some b∈parts v hb->lo<=b/\b<w.heap.size:=by
 intro b bZ;unfold parts at bZ;simp only[lO,List.not_mem_nil,or_false] at bZ;obtain⟨l0,l1,l2,l3⟩:=h.lob;have ztW:=(eE.1 h.blk).1;rcases bZ with e|e|e|e|e|e|e|e|e|e|e
 .simp_all
 .exact h.L.lt b e.symm
 .cases e;exact⟨l1,h.C.lt⟩
 .cases e;exact⟨l2,h.O.lt⟩
 .exact h.Q.lt b e.symm
 .exact h.W.lt b e.symm
 .exact h.B.lt b e.symm
 .exact h.R.lt b e.symm
 .cases e;exact⟨l3,h.M.lt⟩
 .exact h.A.lt b e.symm
 .exact h.T.lt b e.symm
theorem bE.keep (h:bE w lo hb v d)(k:∀b,b<w.heap.size->some b∈parts v hb->w'.heap[b]? =w.heap[b]?):bE w' lo hb v d:=by
 have kk:∀b,some b∈parts v hb->w'.heap[b]? =w.heap[b]? :=λb hb=>k b (h.lt b hb).2 hb;exact⟨(kk _ (dZ (i:=0) zgZ)).trans h.blk,h.lob,cF h.L λb e=>kk _ (dZ (i:=1) cT),cF h.Q λb e=>kk _ (dZ (i:=4) cT),cF h.W λb e=>kk _ (dZ (i:=5) cT),cF h.B λb e=>kk _ (dZ (i:=6) cT),cF h.R λb e=>kk _ (dZ (i:=7) cT),cF h.A λb e=>kk _ (dZ (i:=9) cT),cF h.T λb e=>kk _ (dZ (i:=10) cT),h.C.keep (kk _ (dZ (i:=2) zgZ)),h.O.keep (kk _ (dZ (i:=3) zgZ)),h.M.keep (kk _ (dZ (i:=8) zgZ)),h.ap⟩
def bE.below (h:bE w lo hb v d)(k:cD w.heap.size w w'):bE w' lo hb v d:=h.keep λb hb _=>k.block b hb
def bE.alloc (h:bE w lo hb v d)(o:Obj):bE (w.alloc o) lo hb v d:=h.keep λb hb _=>rS w o b hb
def bE.drew (h:bE w lo hb v d):bE w.drew lo hb v d:=h.keep λ_ _ _=>rfl
theorem bE.same (h:bE w lo hb v d)(e:w'.heap=w.heap):bE w' lo hb v d:=h.keep λb _ _=>by rw[e]
variable {o:Obj}
theorem bE.turned {x:Nat}(h:bE w lo hb v d)(t:bP hb v w v' w')(hx:w.heap[x]? =some o)(hn:some x∉parts v hb):w'.heap[x]? =some o/\some x∉parts v' hb:=
 ⟨(t.block x (eE.1 hx).1 hn).trans hx,λy=>(t.moved x y).elim hn λz=>by simp_all⟩
def bE.ne (h:bE w lo hb v d){i j a b:Nat}(hi:(parts v hb)[i]? =some (some a))(hj:(parts v hb)[j]? =some (some b))(pZ:i≠j):a≠b:=λe=>pZ (h.ap i j a hi (e▸hj))
theorem Tk {l:List (Option Nat)}(h:zc5 l){j n:Nat}{x:Option Nat}(hl:∀b,some b∈l->b<n)(hx:l[j]? =some x\/∀b,x=some b->n<=b):zc5 (l.set j x):=by
 intro i k b hi hk;rw[zav] at hi hk;have old:∀m,l[m]? =some (some b)->b<n:=λm hm=>hl b (dZ hm);split at hi<;>split at hk
 .omega
 .next e1 e2=>
  split at hi
  .injection hi with hi
   subst hi;rcases hx with hx|hx
   .exact e1▸h j k b hx hk
   grind
  .cases hi
 .next e1 e2=>
  split at hk
  .injection hk with hk
   subst hk;rcases hx with hx|hx
   .exact e2▸h i j b hi hx
   grind
  .cases hk
 .exact h i k b hi hk
theorem bE.other (h:bE w lo hb v d){j c:Nat}(hj:(parts v hb)[j]? =some x.ownBlock)(zjk:j≠0)(hg:w.grownBy w1 x.ownBlock)(s':aF):
 (∀i b,i≠0->i≠j->(parts v hb)[i]? =some (some b)->(w1.setCell ⟨hb,c,none⟩ s').heap[b]? =w.heap[b]?)/\w1.heap[hb]? =w.heap[hb]? :=by
 have h0:(parts v hb)[0]? =some (some hb):=rfl;have hx:∀i b,i≠j->(parts v hb)[i]? =some (some b)->some b≠x.ownBlock:=λi b pZ hi e=>pZ (h.ap i j b hi (by rw[hj,<-e]));refine⟨λi b fH pZ hi=>?_,hg.block hb (h.lt hb (dZ h0)).2 (hx 0 hb (Ne.symm zjk) h0)⟩;have aS:b≠hb:=h.ne hi h0 fH;exact(dN w1 _ _ b aS).trans (hg.block b (h.lt b (dZ hi)).2 (hx i b pZ hi))
variable {s':aF}
theorem Tq {j c:Nat}(aU:∀b,some b∈parts v hb->b<w.heap.size)(hj:(parts v hb)[j]? =some x.ownBlock)(hg:w.grownBy w1 x.ownBlock)(hv:parts v' hb=(parts v hb).set j s'.ownBlock)(hw:s'.ownBlock=x.ownBlock\/∀b,s'.ownBlock=some b->w.heap.size<=b):
 bP hb v w v' (w1.setCell ⟨hb,c,none⟩ s'):=by
 refine⟨by rw[wL];exact hg.size,λb bZ hn=>?_,λb bZ=>?_⟩
 .have h0:some hb∈parts v hb:=dZ (i:=0) rfl
  have aS:b≠hb:=λe=>hn (e▸h0);exact(dN w1 _ _ b aS).trans (hg.block b bZ λe=>hn (e▸dZ hj))
 grind
theorem bE.putL (h:bE w lo hb v d)(hg:w.grownBy w1 v.sL.ownBlock){xs:List Nat}{n:Nat}(ho:w1.ownsRow lo 84 1 s' n (J7 xs))(hn:n=xs.length)(hw:s'.ownBlock=v.sL.ownBlock\/∀b,s'.ownBlock=some b->w.heap.size<=b):
 bE (w1.setCell ⟨hb,3,none⟩ s') lo hb {v with sL:=s'} {d with ln:=xs}/\bP hb v w {v with sL:=s'} (w1.setCell ⟨hb,3,none⟩ s'):=by
 subst hn;have aU:∀b,some b∈parts v hb->b<w.heap.size:=λb hb=>(h.lt b hb).2;obtain⟨kk,k0⟩:=h.other (j:=1) (c:=3) (x:=v.sL) rfl aH hg s';have hs:∀b,s'.ownBlock=some b->b≠hb:=λb e=>by
  rcases hw with hw|hw
  .exact h.ne (i:=1) (j:=0) (show some v.sL.ownBlock=_ by rw[<-hw,e]) rfl aH
  .have:=hw b e;have:=aU hb (dZ (i:=0) rfl);omega
 have hp:parts {v with sL:=s'} hb=(parts v hb).set 1 s'.ownBlock:=rfl;refine⟨⟨n8 (k0.trans h.blk) s',h.lob,cF ho λb e=>dN w1 _ _ b (hs b e),cF h.Q λb e=>kk 4 _ aH aH cT,cF h.W λb e=>kk 5 _ aH aH cT,cF h.B λb e=>kk 6 _ aH aH cT,cF h.R λb e=>kk 7 _ aH aH cT,cF h.A λb e=>kk 9 _ aH aH cT,cF h.T λb e=>kk 10 _ aH aH cT,h.C.keep (kk 2 _ aH aH rfl),h.O.keep (kk 3 _ aH aH rfl),h.M.keep (kk 8 _ aH aH rfl),?_⟩,Tq (j:=1) (x:=v.sL) aU rfl hg hp hw⟩;rw[hp];exact Tk h.ap aU (hw.imp (λe=>by rw[e];rfl) id)
theorem bE.putQ (h:bE w lo hb v d)(hg:w.grownBy w1 v.sQ.ownBlock){xs:List Nat}{n:Nat}(ho:w1.ownsRow lo 95 1 s' n (J7 xs))(hn:n=xs.length)(hw:s'.ownBlock=v.sQ.ownBlock\/∀b,s'.ownBlock=some b->w.heap.size<=b):
 bE (w1.setCell ⟨hb,6,none⟩ s') lo hb {v with sQ:=s'} {d with qn:=xs}/\bP hb v w {v with sQ:=s'} (w1.setCell ⟨hb,6,none⟩ s'):=by
 subst hn;have aU:∀b,some b∈parts v hb->b<w.heap.size:=λb hb=>(h.lt b hb).2;obtain⟨kk,k0⟩:=h.other (j:=4) (c:=6) (x:=v.sQ) rfl aH hg s';have hs:∀b,s'.ownBlock=some b->b≠hb:=λb e=>by
  rcases hw with hw|hw
  .exact h.ne (i:=4) (j:=0) (show some v.sQ.ownBlock=_ by rw[<-hw,e]) rfl aH
  .have:=hw b e;have:=aU hb (dZ (i:=0) rfl);omega
 have hp:parts {v with sQ:=s'} hb=(parts v hb).set 4 s'.ownBlock:=rfl;refine⟨⟨n8 (k0.trans h.blk) s',h.lob,cF h.L λb e=>kk 1 _ aH aH cT,cF ho λb e=>dN w1 _ _ b (hs b e),cF h.W λb e=>kk 5 _ aH aH cT,cF h.B λb e=>kk 6 _ aH aH cT,cF h.R λb e=>kk 7 _ aH aH cT,cF h.A λb e=>kk 9 _ aH aH cT,cF h.T λb e=>kk 10 _ aH aH cT,h.C.keep (kk 2 _ aH aH rfl),h.O.keep (kk 3 _ aH aH rfl),h.M.keep (kk 8 _ aH aH rfl),?_⟩,Tq (j:=4) (x:=v.sQ) aU rfl hg hp hw⟩;rw[hp];exact Tk h.ap aU (hw.imp (λe=>by rw[e];rfl) id)
variable {xs:List bF}
theorem bE.putW (h:bE w lo hb v d)(hg:w.grownBy w1 v.sW.ownBlock){n:Nat}(ho:w1.ownsRow lo 149 2 s' n (bG xs))(hn:n=xs.length)(hw:s'.ownBlock=v.sW.ownBlock\/∀b,s'.ownBlock=some b->w.heap.size<=b):
 bE (w1.setCell ⟨hb,7,none⟩ s') lo hb {v with sW:=s'} {d with r:={d.r with wait:=xs}}/\bP hb v w {v with sW:=s'} (w1.setCell ⟨hb,7,none⟩ s'):=by
 subst hn;have aU:∀b,some b∈parts v hb->b<w.heap.size:=λb hb=>(h.lt b hb).2;obtain⟨kk,k0⟩:=h.other (j:=5) (c:=7) (x:=v.sW) rfl aH hg s';have hs:∀b,s'.ownBlock=some b->b≠hb:=λb e=>by
  rcases hw with hw|hw
  .exact h.ne (i:=5) (j:=0) (show some v.sW.ownBlock=_ by rw[<-hw,e]) rfl aH
  .have:=hw b e;have:=aU hb (dZ (i:=0) rfl);omega
 have hp:parts {v with sW:=s'} hb=(parts v hb).set 5 s'.ownBlock:=rfl;refine⟨⟨n8 (k0.trans h.blk) s',h.lob,cF h.L λb e=>kk 1 _ aH aH cT,cF h.Q λb e=>kk 4 _ aH aH cT,cF ho λb e=>dN w1 _ _ b (hs b e),cF h.B λb e=>kk 6 _ aH aH cT,cF h.R λb e=>kk 7 _ aH aH cT,cF h.A λb e=>kk 9 _ aH aH cT,cF h.T λb e=>kk 10 _ aH aH cT,h.C.keep (kk 2 _ aH aH rfl),h.O.keep (kk 3 _ aH aH rfl),h.M.keep (kk 8 _ aH aH rfl),?_⟩,Tq (j:=5) (x:=v.sW) aU rfl hg hp hw⟩;rw[hp];exact Tk h.ap aU (hw.imp (λe=>by rw[e];rfl) id)
theorem bE.putB (h:bE w lo hb v d)(hg:w.grownBy w1 v.sB.ownBlock){n:Nat}(ho:w1.ownsRow lo 3 1 s' n (jQ (xs.map bF.c)))(hn:n=xs.length)(hw:s'.ownBlock=v.sB.ownBlock\/∀b,s'.ownBlock=some b->w.heap.size<=b):
 bE (w1.setCell ⟨hb,8,none⟩ s') lo hb {v with sB:=s'} {d with r:={d.r with back:=xs}}/\bP hb v w {v with sB:=s'} (w1.setCell ⟨hb,8,none⟩ s'):=by
 subst hn;have aU:∀b,some b∈parts v hb->b<w.heap.size:=λb hb=>(h.lt b hb).2;obtain⟨kk,k0⟩:=h.other (j:=6) (c:=8) (x:=v.sB) rfl aH hg s';have hs:∀b,s'.ownBlock=some b->b≠hb:=λb e=>by
  rcases hw with hw|hw
  .exact h.ne (i:=6) (j:=0) (show some v.sB.ownBlock=_ by rw[<-hw,e]) rfl aH
  .have:=hw b e;have:=aU hb (dZ (i:=0) rfl);omega
 have hp:parts {v with sB:=s'} hb=(parts v hb).set 6 s'.ownBlock:=rfl;refine⟨⟨n8 (k0.trans h.blk) s',h.lob,cF h.L λb e=>kk 1 _ aH aH cT,cF h.Q λb e=>kk 4 _ aH aH cT,cF h.W λb e=>kk 5 _ aH aH cT,cF ho λb e=>dN w1 _ _ b (hs b e),cF h.R λb e=>kk 7 _ aH aH cT,cF h.A λb e=>kk 9 _ aH aH cT,cF h.T λb e=>kk 10 _ aH aH cT,h.C.keep (kk 2 _ aH aH rfl),h.O.keep (kk 3 _ aH aH rfl),h.M.keep (kk 8 _ aH aH rfl),?_⟩,Tq (j:=6) (x:=v.sB) aU rfl hg hp hw⟩;rw[hp];exact Tk h.ap aU (hw.imp (λe=>by rw[e];rfl) id)
theorem bE.putR (h:bE w lo hb v d)(hg:w.grownBy w1 v.sR.ownBlock){xs:List bO}{n:Nat}(ho:w1.ownsRow lo 50 7 s' n (recs xs))(hn:n=xs.length)(hw:s'.ownBlock=v.sR.ownBlock\/∀b,s'.ownBlock=some b->w.heap.size<=b):
 bE (w1.setCell ⟨hb,9,none⟩ s') lo hb {v with sR:=s'} {d with r:={d.r with recs:=xs}}/\bP hb v w {v with sR:=s'} (w1.setCell ⟨hb,9,none⟩ s'):=by
 subst hn;have aU:∀b,some b∈parts v hb->b<w.heap.size:=λb hb=>(h.lt b hb).2;obtain⟨kk,k0⟩:=h.other (j:=7) (c:=9) (x:=v.sR) rfl aH hg s';have hs:∀b,s'.ownBlock=some b->b≠hb:=λb e=>by
  rcases hw with hw|hw
  .exact h.ne (i:=7) (j:=0) (show some v.sR.ownBlock=_ by rw[<-hw,e]) rfl aH
  .have:=hw b e;have:=aU hb (dZ (i:=0) rfl);omega
 have hp:parts {v with sR:=s'} hb=(parts v hb).set 7 s'.ownBlock:=rfl;refine⟨⟨n8 (k0.trans h.blk) s',h.lob,cF h.L λb e=>kk 1 _ aH aH cT,cF h.Q λb e=>kk 4 _ aH aH cT,cF h.W λb e=>kk 5 _ aH aH cT,cF h.B λb e=>kk 6 _ aH aH cT,cF ho λb e=>dN w1 _ _ b (hs b e),cF h.A λb e=>kk 9 _ aH aH cT,cF h.T λb e=>kk 10 _ aH aH cT,h.C.keep (kk 2 _ aH aH rfl),h.O.keep (kk 3 _ aH aH rfl),h.M.keep (kk 8 _ aH aH rfl),?_⟩,Tq (j:=7) (x:=v.sR) aU rfl hg hp hw⟩;rw[hp];exact Tk h.ap aU (hw.imp (λe=>by rw[e];rfl) id)
variable {xs:List (List UInt8)}
theorem bE.putA (h:bE w lo hb v d)(hg:w.grownBy w1 v.sA.ownBlock){n:Nat}(ho:w1.ownsRow lo 9 1 s' n (Gg xs))(hn:n=xs.length)(hw:s'.ownBlock=v.sA.ownBlock\/∀b,s'.ownBlock=some b->w.heap.size<=b):
 bE (w1.setCell ⟨hb,12,none⟩ s') lo hb {v with sA:=s'} {d with r:={d.r with log:=xs}}/\bP hb v w {v with sA:=s'} (w1.setCell ⟨hb,12,none⟩ s'):=by
 subst hn;have aU:∀b,some b∈parts v hb->b<w.heap.size:=λb hb=>(h.lt b hb).2;obtain⟨kk,k0⟩:=h.other (j:=9) (c:=12) (x:=v.sA) rfl aH hg s';have hs:∀b,s'.ownBlock=some b->b≠hb:=λb e=>by
  rcases hw with hw|hw
  .exact h.ne (i:=9) (j:=0) (show some v.sA.ownBlock=_ by rw[<-hw,e]) rfl aH
  .have:=hw b e;have:=aU hb (dZ (i:=0) rfl);omega
 have hp:parts {v with sA:=s'} hb=(parts v hb).set 9 s'.ownBlock:=rfl;refine⟨⟨n8 (k0.trans h.blk) s',h.lob,cF h.L λb e=>kk 1 _ aH aH cT,cF h.Q λb e=>kk 4 _ aH aH cT,cF h.W λb e=>kk 5 _ aH aH cT,cF h.B λb e=>kk 6 _ aH aH cT,cF h.R λb e=>kk 7 _ aH aH cT,cF ho λb e=>dN w1 _ _ b (hs b e),cF h.T λb e=>kk 10 _ aH aH cT,h.C.keep (kk 2 _ aH aH rfl),h.O.keep (kk 3 _ aH aH rfl),h.M.keep (kk 8 _ aH aH rfl),?_⟩,Tq (j:=9) (x:=v.sA) aU rfl hg hp hw⟩;rw[hp];exact Tk h.ap aU (hw.imp (λe=>by rw[e];rfl) id)
theorem bE.putT (h:bE w lo hb v d)(hg:w.grownBy w1 v.sT.ownBlock){xs:List Int}{n:Nat}(ho:w1.ownsRow lo 3 1 s' n (jQ xs))(hn:n=xs.length)(hw:s'.ownBlock=v.sT.ownBlock\/∀b,s'.ownBlock=some b->w.heap.size<=b):
 bE (w1.setCell ⟨hb,13,none⟩ s') lo hb {v with sT:=s'} {d with tk:=xs}/\bP hb v w {v with sT:=s'} (w1.setCell ⟨hb,13,none⟩ s'):=by
 subst hn;have aU:∀b,some b∈parts v hb->b<w.heap.size:=λb hb=>(h.lt b hb).2;obtain⟨kk,k0⟩:=h.other (j:=10) (c:=13) (x:=v.sT) rfl aH hg s';have hs:∀b,s'.ownBlock=some b->b≠hb:=λb e=>by
  rcases hw with hw|hw
  .exact h.ne (i:=10) (j:=0) (show some v.sT.ownBlock=_ by rw[<-hw,e]) rfl aH
  .have:=hw b e;have:=aU hb (dZ (i:=0) rfl);omega
 have hp:parts {v with sT:=s'} hb=(parts v hb).set 10 s'.ownBlock:=rfl;refine⟨⟨n8 (k0.trans h.blk) s',h.lob,cF h.L λb e=>kk 1 _ aH aH cT,cF h.Q λb e=>kk 4 _ aH aH cT,cF h.W λb e=>kk 5 _ aH aH cT,cF h.B λb e=>kk 6 _ aH aH cT,cF h.R λb e=>kk 7 _ aH aH cT,cF h.A λb e=>kk 9 _ aH aH cT,cF ho λb e=>dN w1 _ _ b (hs b e),h.C.keep (kk 2 _ aH aH rfl),h.O.keep (kk 3 _ aH aH rfl),h.M.keep (kk 8 _ aH aH rfl),?_⟩,Tq (j:=10) (x:=v.sT) aU rfl hg hp hw⟩;rw[hp];exact Tk h.ap aU (hw.imp (λe=>by rw[e];rfl) id)
theorem bE.mapC (h:bE w lo hb v d){ps:List (Nat×aF)}(hm:Co {w with heap:=w.heap.setIfInBounds v.mC o} v.mC ps):
 bE {w with heap:=w.heap.setIfInBounds v.mC o} lo hb {v with pC:=ps} d/\bP hb v w {v with pC:=ps} {w with heap:=w.heap.setIfInBounds v.mC o}:=by
 have kk:∀i b,i≠2->(parts v hb)[i]? =some (some b)->(w.heap.setIfInBounds v.mC o)[b]? =w.heap[b]? :=λi b hi bZ=>rN (h.ne (i:=2) rfl bZ (Ne.symm hi));refine⟨⟨(kk 0 _ aH rfl).trans h.blk,h.lob,cF h.L λb e=>kk 1 _ aH cT,cF h.Q λb e=>kk 4 _ aH cT,cF h.W λb e=>kk 5 _ aH cT,cF h.B λb e=>kk 6 _ aH cT,cF h.R λb e=>kk 7 _ aH cT,cF h.A λb e=>kk 9 _ aH cT,cF h.T λb e=>kk 10 _ aH cT,hm,h.O.keep (kk 3 _ aH rfl),h.M.keep (kk 8 _ aH rfl),h.ap⟩,aQ,λb bZ hn=>rN λe=>hn (by rw[<-e];exact dZ (i:=2) rfl),λb bZ=>.inl bZ⟩
theorem bE.mapO (h:bE w lo hb v d)(hm:x4 {w with heap:=w.heap.setIfInBounds v.mO o} v.mO ps):
 bE {w with heap:=w.heap.setIfInBounds v.mO o} lo hb {v with pO:=ps} d/\bP hb v w {v with pO:=ps} {w with heap:=w.heap.setIfInBounds v.mO o}:=by
 have kk:∀i b,i≠3->(parts v hb)[i]? =some (some b)->(w.heap.setIfInBounds v.mO o)[b]? =w.heap[b]? :=λi b hi bZ=>rN (h.ne (i:=3) rfl bZ (Ne.symm hi));refine⟨⟨(kk 0 _ aH rfl).trans h.blk,h.lob,cF h.L λb e=>kk 1 _ aH cT,cF h.Q λb e=>kk 4 _ aH cT,cF h.W λb e=>kk 5 _ aH cT,cF h.B λb e=>kk 6 _ aH cT,cF h.R λb e=>kk 7 _ aH cT,cF h.A λb e=>kk 9 _ aH cT,cF h.T λb e=>kk 10 _ aH cT,h.C.keep (kk 2 _ aH rfl),hm,h.M.keep (kk 8 _ aH rfl),h.ap⟩,aQ,λb bZ hn=>rN λe=>hn (by rw[<-e];exact dZ (i:=3) rfl),λb bZ=>.inl bZ⟩
theorem bE.mapM (h:bE w lo hb v d)(hm:x4 {w with heap:=w.heap.setIfInBounds v.mM o} v.mM ps):
 bE {w with heap:=w.heap.setIfInBounds v.mM o} lo hb {v with pM:=ps} d/\bP hb v w {v with pM:=ps} {w with heap:=w.heap.setIfInBounds v.mM o}:=by
 have kk:∀i b,i≠8->(parts v hb)[i]? =some (some b)->(w.heap.setIfInBounds v.mM o)[b]? =w.heap[b]? :=λi b hi bZ=>rN (h.ne (i:=8) rfl bZ (Ne.symm hi));refine⟨⟨(kk 0 _ aH rfl).trans h.blk,h.lob,cF h.L λb e=>kk 1 _ aH cT,cF h.Q λb e=>kk 4 _ aH cT,cF h.W λb e=>kk 5 _ aH cT,cF h.B λb e=>kk 6 _ aH cT,cF h.R λb e=>kk 7 _ aH cT,cF h.A λb e=>kk 9 _ aH cT,cF h.T λb e=>kk 10 _ aH cT,h.C.keep (kk 2 _ aH rfl),h.O.keep (kk 3 _ aH rfl),hm,h.ap⟩,aQ,λb bZ hn=>rN λe=>hn (by rw[<-e];exact dZ (i:=8) rfl),λb bZ=>.inl bZ⟩
theorem bE.putClk (h:bE w lo hb v d)(x:Int):bE (w.setCell ⟨hb,11,none⟩ (.int .i64 x)) lo hb v {d with r:={d.r with clk:=x}}/\bP hb v w v (w.setCell ⟨hb,11,none⟩ (.int .i64 x)):=by
 have h0:(parts v hb)[0]? =some (some hb):=rfl;have kk:∀i b,i≠0->(parts v hb)[i]? =some (some b)->(w.setCell ⟨hb,11,none⟩ (.int .i64 x)).heap[b]? =w.heap[b]? :=λi b hi bZ=>dN w _ _ b (h.ne bZ h0 hi);refine⟨⟨n8 h.blk _,h.lob,cF h.L λb e=>kk 1 _ aH cT,cF h.Q λb e=>kk 4 _ aH cT,cF h.W λb e=>kk 5 _ aH cT,cF h.B λb e=>kk 6 _ aH cT,cF h.R λb e=>kk 7 _ aH cT,cF h.A λb e=>kk 9 _ aH cT,cF h.T λb e=>kk 10 _ aH cT,h.C.keep (kk 2 _ aH rfl),h.O.keep (kk 3 _ aH rfl),h.M.keep (kk 8 _ aH rfl),h.ap⟩,by simp_all,λb bZ hn=>dN w _ _ b λe=>hn (e▸dZ h0),λb bZ=>.inl bZ⟩
theorem bE.setR {gR cR i j:Nat}{x:bO}{u:aF}(f:bO->bO)(h:bE w lo hb v d)(hv:v.sR=.slice (some ⟨gR,0,none⟩) d.r.recs.length cR)(hd:d.r.recs[i]? =some x)(hj:j<7)(hs:∀k,k<7->k≠j->(f x).cells[k]? =x.cells[k]?)(hu:(f x).cells[j]? =some u):
 bE (w.setCell ⟨gR,i*7+j,none⟩ u) lo hb v {d with r:={d.r with recs:=d.r.recs.modify i f}}/\bP hb v w v (w.setCell ⟨gR,i*7+j,none⟩ u):=by
 have zh1:(parts v hb)[7]? =some (some gR):=by show some v.sR.ownBlock=_;rw[hv];rfl
 have kk:∀i b,i≠7->(parts v hb)[i]? =some (some b)->(w.setCell ⟨gR,i*7+j,none⟩ u).heap[b]? =w.heap[b]? :=λi b hi bZ=>dN w _ _ b (h.ne bZ zh1 hi);have J5:∀m b,m≠7->(parts v hb)[m]? =some (some b)->(w.setCell ⟨gR,i*7+j,none⟩ u).heap[b]? =w.heap[b]? :=λm b hi bZ=>dN w _ _ b (h.ne bZ zh1 hi);have hr:=h.R;rw[hv] at hr;have h1:=(hr.stored (i*7+j) u).1;rw[zxG hd hj hs hu] at h1;refine⟨⟨(J5 0 _ aH rfl).trans h.blk,h.lob,cF h.L λb e=>J5 1 _ aH cT,cF h.Q λb e=>J5 4 _ aH cT,cF h.W λb e=>J5 5 _ aH cT,cF h.B λb e=>J5 6 _ aH cT,?_,cF h.A λb e=>J5 9 _ aH cT,cF h.T λb e=>J5 10 _ aH cT,h.C.keep (J5 2 _ aH rfl),h.O.keep (J5 3 _ aH rfl),h.M.keep (J5 8 _ aH rfl),h.ap⟩,by simp_all,λb bZ hn=>dN w _ _ b λe=>hn (e▸dZ zh1),λb bZ=>.inl bZ⟩;simp_all
end
def y6 (c:Nat):List (Nat×aF)->List (Nat×aF)
 |[]=>[]
 |p::ps=>if c=p.1 then ps else p::y6 c ps
theorem zwW :∀{ps:List (Nat×aF)},c∉ps.map uC->pB c ps=none
 |[],_=>rfl
 |p::ps,h=>by
  unfold pB;have h1:c≠p.1:=λe=>h (by rw[e];simp);rw[if_neg h1];exact zwW λx=>h (Rv _ x)
theorem zwL (c c':Nat)(v:aF):∀ps:List (Nat×aF),pB c' (uS c v ps)=if c'=c then some v else pB c' ps
 |[]=>by
  unfold uS pB pB;rfl
 |p::ps=>by
  unfold uS;by_cases e:c=p.1
  .rw[if_pos e]
   unfold pB;simp_all
  .rw[if_neg e]
   unfold pB;by_cases e2:c'=p.1
   .grind
   .rw[if_neg e2,zwL c c' v ps]
    first|rfl|simp[e2]
variable {c':Nat}
theorem zxt :∀{ps:List (Nat×aF)},c'∈(uS c v ps).map uC->c'=c\/c'∈ps.map uC
 |[],h=>by unfold uS at h;simp at h;exact .inl h
 |p::ps,h=>by
  unfold uS at h;by_cases e:c=p.1
  .simp_all
  .rw[if_neg e,jG,lO] at h
   rcases h with h|h
   .simp_all
   .exact(zxt h).imp id (Rv _)
theorem zsI (c:Nat)(v:aF):∀{ps:List (Nat×aF)},(ps.map uC).Nodup->((uS c v ps).map uC).Nodup
 |[],_=>by unfold uS;simp
 |p::ps,h=>by
  unfold uS;rw[jG,Cw] at h;by_cases e:c=p.1
  .simp_all
  .rw[if_neg e,jG,Cw]
   exact⟨λx=>(zxt x).elim (λy=>e y.symm) h.1,zsI c v h.2⟩
theorem zvH :∀{ps:List (Nat×aF)},c'∈(y6 c ps).map uC->c'∈ps.map uC
 |[],h=>by cases h
 |p::ps,h=>by
  unfold y6 at h;by_cases e:c=p.1
  .simp_all
  .rw[if_neg e,jG,lO] at h
   rcases h with h|h
   .rw[h];simp
   .exact Rv _ (zvH h)
theorem zxW (c:Nat):∀{ps:List (Nat×aF)},(ps.map uC).Nodup->((y6 c ps).map uC).Nodup
 |[],_=>by unfold y6;simp
 |p::ps,h=>by
  rw[jG,Cw] at h;unfold y6;by_cases e:c=p.1
  .simp_all
  .rw[if_neg e,jG,Cw]
   exact⟨λx=>h.1 (zvH x),zxW c h.2⟩
theorem ztP (c c':Nat):∀{ps:List (Nat×aF)},(ps.map uC).Nodup->pB c' (y6 c ps)=if c'=c then none else pB c' ps
 |[],_=>by unfold y6 pB;split<;>rfl
 |p::ps,h=>by
  rw[jG,Cw] at h;unfold y6;by_cases e:c=p.1
  .rw[if_pos e]
   by_cases e2:c'=c
   .rw[if_pos e2];exact zwW (by rw[e2,e];exact h.1)
   .rw[if_neg e2]
    show _=pB c' (p::ps)
    conv=>rhs;unfold pB
    simp_all
  .rw[if_neg e]
   unfold pB;by_cases e2:c'=p.1
   .grind
   .rw[if_neg e2,ztP c c' h.2]
    first|rfl|simp[e2]
theorem zon :∀{es:List oV} {ps:List (Nat×aF)} {i:Nat} {q:Nat×aF},yZ es ps->Bi c ps i=some q->∃j,q.1=i+j/\j<es.length/\yZ (es.eraseIdx j) (y6 c ps)
 |[],ps,i,q,h,hq=>by rw[h.nil_inv] at hq;cases hq
 |e::es,ps,i,q,h,hq=>by
  obtain⟨p,qs,rfl,h1,h2,h3⟩:=h.cons_inv;unfold Bi at hq;by_cases hc:c=p.1
  .rw[if_pos hc] at hq
   injection hq with hq;refine⟨0,by rw[<-hq];rfl,aQ,?_⟩;unfold y6;simp_all
  .rw[if_neg hc] at hq
   obtain⟨j,e1,e2,e3⟩:=zon h3 hq;refine⟨j+1,by rw[e1];omega,by simpa using e2,?_⟩;unfold y6;rw[if_neg hc];unfold yZ at e3⊢;simp_all
section
variable {P:bT}{k:aM}{d:Mz}{e0:aM}
variable {ps:List (Nat×aF)}
theorem zBo {t e kt:aM}(ht:P.underlying t=some (.map k e))(hk:P.underlying k=some (.chan d e0)){w:aE}{b:Nat}{c:Nat}(h:Co w b ps)(hc:(pB c ps).isSome=true):
 ∃o',(∀ty,(Lq #[t,kt] ty #[.map (some b),.chan (some c)]).run P w=.ok (.tuple #[]) {w with heap:=w.heap.setIfInBounds b o'})/\Co {w with heap:=w.heap.setIfInBounds b o'} b (y6 c ps):=by
 obtain⟨es,clock,hb,he⟩:=h;have hz:=(eE.1 hb).1;have hf:=znE c ps 0
 cases hq:Bi c ps 0 with
 |none=>grind
 |some q=>
  obtain⟨j,e1,e2,e3⟩:=zon he hq;have wN:q.1=j:=aC;refine⟨.map (es.eraseIdxIfInBounds j) clock,λty=>?_,es.eraseIdxIfInBounds j,clock,by simp[hz],?_⟩
  .simp[Lq,xJ ht,X5 hb,zgb hk,zdO hk c w _ _ he,hq,wN,Wz _ hb,vF]
  simp_all
end
def yK (c:Int):List (Int×aF)->List (Int×aF)
 |[]=>[]
 |p::ps=>if c=p.1 then ps else p::yK c ps
variable {c:Int}
theorem zoS :∀{ps:List (Int×aF)},c∉ps.map uC->lB c ps=none
 |[],_=>rfl
 |p::ps,h=>by
  unfold lB;have h1:c≠p.1:=λe=>h (by rw[e];simp);rw[if_neg h1];exact zoS λx=>h (Rv _ x)
theorem Wm (c c':Int)(v:aF):∀ps:List (Int×aF),lB c' (qT c v ps)=if c'=c then some v else lB c' ps
 |[]=>by
  unfold qT lB lB;rfl
 |p::ps=>by
  unfold qT;by_cases e:c=p.1
  .rw[if_pos e]
   unfold lB;simp_all
  .rw[if_neg e]
   unfold lB;by_cases e2:c'=p.1
   .grind
   .rw[if_neg e2,Wm c c' v ps]
    first|rfl|simp[e2]
variable {c':Int}
theorem ztr :∀{ps:List (Int×aF)},c'∈(qT c v ps).map uC->c'=c\/c'∈ps.map uC
 |[],h=>by unfold qT at h;simp at h;exact .inl h
 |p::ps,h=>by
  unfold qT at h;by_cases e:c=p.1
  .simp_all
  .rw[if_neg e,jG,lO] at h
   rcases h with h|h
   .simp_all
   .exact(ztr h).imp id (Rv _)
theorem zjQ (c:Int)(v:aF):∀{ps:List (Int×aF)},(ps.map uC).Nodup->((qT c v ps).map uC).Nodup
 |[],_=>by unfold qT;simp
 |p::ps,h=>by
  unfold qT;rw[jG,Cw] at h;by_cases e:c=p.1
  .simp_all
  .rw[if_neg e,jG,Cw]
   exact⟨λx=>(ztr x).elim (λy=>e y.symm) h.1,zjQ c v h.2⟩
theorem zoZ :∀{ps:List (Int×aF)},c'∈(yK c ps).map uC->c'∈ps.map uC
 |[],h=>by cases h
 |p::ps,h=>by
  unfold yK at h;by_cases e:c=p.1
  .simp_all
  .rw[if_neg e,jG,lO] at h
   rcases h with h|h
   .rw[h];simp
   .exact Rv _ (zoZ h)
theorem zwU (c:Int):∀{ps:List (Int×aF)},(ps.map uC).Nodup->((yK c ps).map uC).Nodup
 |[],_=>by unfold yK;simp
 |p::ps,h=>by
  rw[jG,Cw] at h;unfold yK;by_cases e:c=p.1
  .simp_all
  .rw[if_neg e,jG,Cw]
   exact⟨λx=>h.1 (zoZ x),zwU c h.2⟩
theorem znp (c c':Int):∀{ps:List (Int×aF)},(ps.map uC).Nodup->lB c' (yK c ps)=if c'=c then none else lB c' ps
 |[],_=>by unfold yK lB;split<;>rfl
 |p::ps,h=>by
  rw[jG,Cw] at h;unfold yK;by_cases e:c=p.1
  .rw[if_pos e]
   by_cases e2:c'=c
   .rw[if_pos e2];exact zoS (by rw[e2,e];exact h.1)
   .rw[if_neg e2]
    show _=lB c' (p::ps)
    conv=>rhs;unfold lB
    simp_all
  .rw[if_neg e]
   unfold lB;by_cases e2:c'=p.1
   .grind
   .rw[if_neg e2,znp c c' h.2]
    first|rfl|simp[e2]
theorem zxB :∀{es:List oV} {ps:List (Int×aF)} {i:Nat} {q:Nat×aF},zK es ps->Bg c ps i=some q->∃j,q.1=i+j/\j<es.length/\zK (es.eraseIdx j) (yK c ps)
 |[],ps,i,q,h,hq=>by rw[h.nil_inv] at hq;cases hq
 |e::es,ps,i,q,h,hq=>by
  obtain⟨p,qs,rfl,h1,h2,h3⟩:=h.cons_inv;unfold Bg at hq;by_cases hc:c=p.1
  .rw[if_pos hc] at hq
   injection hq with hq;refine⟨0,by rw[<-hq];rfl,aQ,?_⟩;unfold yK;simp_all
  .rw[if_neg hc] at hq
   obtain⟨j,e1,e2,e3⟩:=zxB h3 hq;refine⟨j+1,by rw[e1];omega,by simpa using e2,?_⟩;unfold yK;rw[if_neg hc];unfold zK at e3⊢;simp_all
section
variable {P:bT}{k:aM}
variable {ps:List (Int×aF)}
theorem zFA {t e kt:aM}(ht:P.underlying t=some (.map k e))(hk:P.underlying k=some (.int .i64)){w:aE}{b:Nat}{c:Int}(h:x4 w b ps)(hc:(lB c ps).isSome=true):
 ∃o',(∀ty,(Lq #[t,kt] ty #[.map (some b),.int .i64 c]).run P w=.ok (.tuple #[]) {w with heap:=w.heap.setIfInBounds b o'})/\x4 {w with heap:=w.heap.setIfInBounds b o'} b (yK c ps):=by
 obtain⟨es,clock,hb,he⟩:=h;have hz:=(eE.1 hb).1;have hf:=zlx c ps 0
 cases hq:Bg c ps 0 with
 |none=>grind
 |some q=>
  obtain⟨j,e1,e2,e3⟩:=zxB he hq;have wN:q.1=j:=aC;refine⟨.map (es.eraseIdxIfInBounds j) clock,λty=>?_,es.eraseIdxIfInBounds j,clock,by simp[hz],?_⟩
  .simp[Lq,xJ ht,X5 hb,zhm hk,zg0 hk c w _ _ he,hq,wN,Wz _ hb,vF]
  simp_all
variable {Q:n6->Act->aE->Prop}
theorem zza {ops:Array aZ}{rest:List aZ}{o:aZ}{a:Act}(w:aE)(hg:o.guard=none)(m x:cI)(t kt:aM)(hop:o.op=.call {callee:=.builtin .delete,args:=#[m,x],argTypes:=#[t,kt]})(e:aM)
 (ht:P.underlying t=some (.map k e)) (hk:P.underlying k=some (.int .i64)) (b:Nat) (c:Int) (ps:List (Int×aF)) (hm:a.eval m=.map (some b)) (hx:a.eval x=.int .i64 c) (h:x4 w b ps) (hc:(lB c ps).isSome=true)
 (hK:∀w' o',w'={w with heap:=w.heap.setIfInBounds b o'}->x4 w' b (yK c ps)->wpList P ops Q rest (a.put o.dst (.tuple #[])) w'):wpList P ops Q (o::rest) a w:=by
 refine Rj hg λK' rQ=>?_;obtain⟨o',cH,qB⟩:=zFA (kt:=kt) ht hk h hc;unfold Cy;simp only[aO,hop,resolve,invoke,builtin,E0,Jd,F9,uR,jG,tK,hm,hx,cH];exact rQ _ _ (hK _ _ rfl qB)
end
structure fX (v:fC)(d:nV):Prop where
 kc:(v.pC.map uC).Nodup
 ko:(v.pO.map uC).Nodup
 km:(v.pM.map uC).Nodup
 c:∀(i g:Nat),d.ln[i]? =some g->((pB g v.pC).isSome=true↔∃(j:Nat) (x:bO),d.r.recs[j]? =some x/\cS x=true/\x.l=(i:Int)+1)
 o1:∀(c:Int) (y:aF),lB c v.pO=some y->∃(i:Nat) (x:bO) (g:Nat),d.r.recs[i]? =some x/\cS x=true/\x.c=c/\d.ln[(x.l-1).toNat]? =some g/\y=.chan (some g)
 o2:∀(c:Int),lB c v.pO=none->∀(i:Nat) (x:bO),d.r.recs[i]? =some x->cS x=true->x.c≠c
 m1:∀(c:Int) (y:aF),lB c v.pM=some y->∃(i:Nat) (x:bO),y=.int .i64 (i:Int)/\d.r.recs[i]? =some x/\x.c=c/\∀(j:Nat) (e:bO),d.r.recs[j]? =some e->e.c=c->j<=i
 m2:∀(c:Int),lB c v.pM=none->∀(i:Nat) (x:bO),d.r.recs[i]? =some x->x.c≠c
structure y3 (d:nV):Prop where
 S:fK d.r
 R:RInv d.r
 ops:Sp d.r
 ndl:d.ln.Nodup
 nln:(d.ln.length:Int)=d.r.o.ln
 lb:∀x∈d.r.recs,1<=x.l/\x.l<=d.r.o.ln
 nqn:(d.qn.length:Int)=d.r.o.op
 sm:Qo d.r
variable {xs:List Nat}
theorem zsp (h:xs.Nodup){i j g:Nat}(hi:xs[i]? =some g)(hj:xs[j]? =some g):i=j:=by
 obtain⟨h1,h2⟩:=lR.1 hi;obtain⟨h3,h4⟩:=lR.1 hj;exact(List.getElem_inj h).1 (h2.trans h4.symm)
theorem zEm {rs:List bO}{l:Int}:rD rs l=true↔∃(j:Nat) (x:bO),rs[j]? =some x/\cS x=true/\x.l=l:=by
 unfold rD;rw[Xe];constructor
 .rintro⟨x,hx,h⟩
  obtain⟨j,hj⟩:=At.1 hx
  grind
 grind
section
variable {v:fC}{d:nV}
variable {i g:Nat}
theorem fX.used (h:fX v d)(hi:d.ln[i]? =some g):(pB g v.pC).isSome=rD d.r.recs ((i:Int)+1):=by
 rw[Bool.eq_iff_iff,h.c i g hi,zEm]
variable {c:Int}{x:bO}
theorem fX.onLine (h:fX v d)(hi:y3 d)(hx:d.r.recs[i]? =some x)(ho:cS x=true)(hc:x.c=c):∃g,d.ln[(x.l-1).toNat]? =some g/\lB c v.pO=some (.chan (some g))/\lB c v.pM=some (.int .i64 (i:Int))/\(pB g v.pC).isSome=true:=by
 have hO:∃g,d.ln[(x.l-1).toNat]? =some g/\lB c v.pO=some (.chan (some g)):=by
  cases e:lB c v.pO with
  |none=>exact absurd hc (h.o2 c e i x hx ho)
  |some y=>
   obtain⟨j,z,g,h1,h2,h3,h4,rfl⟩:=h.o1 c y e;obtain rfl:=hi.S.opn i j x z hx h1 ho h2 (.inl (hc.trans h3.symm));simp_all
 obtain⟨g,h1,h2⟩:=hO;refine⟨g,h1,h2,?_,(h.c _ g h1).2 ⟨i,x,hx,ho,?_⟩⟩
 .cases e:lB c v.pM with
  |none=>exact absurd hc (h.m2 c e i x hx)
  |some y=>
   obtain⟨j,z,rfl,h3,h4,h5⟩:=h.m1 c y e;have k1:=h5 i x hx hc;have k2:=hi.S.last i j x z hx ho h3 (h4.trans hc.symm)
   grind
 .have:=hi.lb x (dZ hx);omega
theorem fX.offLine (h:fX v d)(hc:gN d.r.recs c=none):lB c v.pO=none:=by
 cases e:lB c v.pO with
 |none=>rfl
 |some y=>
  obtain⟨j,z,g,h1,h2,h3,_⟩:=h.o1 c y e;exact absurd h3 (Jr hc j z h1 h2)
theorem fX.more (h:fX v d)(hn:d.ln.Nodup){o hh tt clk:Int}(hg:d.ln[i]? =some g)(hf:rD d.r.recs ((i:Int)+1)=false)(hc:gN d.r.recs c=none):
 fX {v with pC:=uS g (.int .i64 c) v.pC,pO:=qT c (.chan (some g)) v.pO,pM:=qT c (.int .i64 (d.r.recs.length:Int)) v.pM} {d with r:={d.r with recs:=d.r.recs++[⟨c,(i:Int)+1,o,clk,hh,tt,dY⟩]}}:=by
 have hop:cS ⟨c,(i:Int)+1,o,clk,hh,tt,dY⟩=true:=by unfold cS;rw[zaa];rfl
 have Fj:(d.r.recs++[(⟨c,(i:Int)+1,o,clk,hh,tt,dY⟩:bO)])[d.r.recs.length]? =some ⟨c,(i:Int)+1,o,clk,hh,tt,dY⟩:=by rw[List.getElem?_append_right (bN _),Nat.sub_self];rfl
 refine⟨zsI _ _ h.kc,zjQ _ _ h.ko,zjQ _ _ h.km,λi' g' yD=>?_,λc' y hy=>?_,λc' hy j x hx ho=>?_,λc' y hy=>?_,λc' hy j x hx=>?_⟩
 .simp only[zwL]
  by_cases e:g'=g
  .subst e
   obtain rfl:=zsp hn hg yD;rw[if_pos rfl];exact⟨λ_=>⟨_,_,Fj,hop,rfl⟩,λ_=>rfl⟩
  .rw[if_neg e,h.c i' g' yD]
   constructor
   .rintro⟨j,x,h1,h2⟩;exact⟨j,x,zf7 h1,h2⟩
   .rintro⟨j,x,h1,h2,h3⟩
    rcases E8 h1 with⟨_,h4⟩|⟨rfl,rfl⟩
    .exact⟨j,x,h4,h2,h3⟩
    .exfalso
     have:i=i':=by simp only at h3;omega
     subst this;rw[hg] at yD;exact e (cJ yD).symm
 .simp only[Wm] at hy
  by_cases e:c'=c
  .rw[if_pos e] at hy
   obtain rfl:=cJ hy;exact⟨_,_,g,Fj,hop,e.symm,by simp only;rw[show((i:Int)+1-1).toNat=i by omega];exact hg,rfl⟩
  .rw[if_neg e] at hy
   obtain⟨j,x,g',h1,h2⟩:=h.o1 c' y hy;exact⟨j,x,g',zf7 h1,h2⟩
 .simp only[Wm] at hy
  by_cases e:c'=c
  .rw[if_pos e] at hy;cases hy
  .rw[if_neg e] at hy
   rcases E8 hx with⟨_,h4⟩|⟨rfl,rfl⟩
   .exact h.o2 c' hy j x h4 ho
   .exact Ne.symm e
 .simp only[Wm] at hy
  by_cases e:c'=c
  .rw[if_pos e] at hy
   obtain rfl:=cJ hy;refine⟨_,_,rfl,Fj,e.symm,λj x hx _=>?_⟩;rcases E8 hx with⟨h4,_⟩|⟨rfl,rfl⟩
   .omega
   .exact bN _
  .rw[if_neg e] at hy
   obtain⟨j,x,h1,h2,h3,h4⟩:=h.m1 c' y hy;refine⟨j,x,h1,zf7 h2,h3,λj' x' l9 lG=>?_⟩;rcases E8 l9 with⟨_,h5⟩|⟨rfl,rfl⟩
   .exact h4 j' x' h5 lG
   .exact absurd lG.symm e
 .simp only[Wm] at hy
  by_cases e:c'=c
  .rw[if_pos e] at hy;cases hy
  .rw[if_neg e] at hy
   rcases E8 hx with⟨_,h4⟩|⟨rfl,rfl⟩
   .exact h.m2 c' hy j x h4
   .exact Ne.symm e
variable {f:bO->bO}
theorem fX.mod (h:fX v d)(hf:∀x,(f x).c=x.c/\(f x).l=x.l/\cS (f x)=cS x):fX v {d with r:={d.r with recs:=d.r.recs.modify i f}}:=by
 have fw:∀(j:Nat) (x:bO),d.r.recs[j]? =some x->∃y,(d.r.recs.modify i f)[j]? =some y/\y.c=x.c/\y.l=x.l/\cS y=cS x:=λj x hx=>by
  by_cases e:i=j
  .simp_all
  .simp_all
 have bw:∀(j:Nat) (y:bO),(d.r.recs.modify i f)[j]? =some y->∃x,d.r.recs[j]? =some x/\y.c=x.c/\y.l=x.l/\cS y=cS x:=λj y hy=>by
  obtain⟨x,h1,⟨_,rfl⟩|⟨_,rfl⟩⟩:=yI hy
  .exact⟨x,h1,hf x⟩
  .simp_all
 refine⟨h.kc,h.ko,h.km,λi' g' yD=>?_,λc' y hy=>?_,λc' hy j x hx ho=>?_,λc' y hy=>?_,λc' hy j x hx=>?_⟩
 .rw[h.c i' g' yD]
  grind
 .obtain⟨j,x,g',h1,h2,h3,h4,h5⟩:=h.o1 c' y hy
  obtain⟨z,k1,k2,k3,k4⟩:=fw j x h1;exact⟨j,z,g',k1,k4.trans h2,k2.trans h3,by rw[k3];exact h4,h5⟩
 .obtain⟨z,k1,k2,k3,k4⟩:=bw j x hx
  rw[k2];exact h.o2 c' hy j z k1 (k4.symm.trans ho)
 .obtain⟨j,x,h1,h2,h3,h4⟩:=h.m1 c' y hy
  grind
 .obtain⟨z,k1,k2,k3,k4⟩:=bw j x hx
  rw[k2];exact h.m2 c' hy j z k1
theorem fX.clear (h:fX v d)(hS:fK d.r)(hn:d.ln.Nodup)(Vd:∀x∈d.r.recs,1<=x.l)(hx:d.r.recs[i]? =some x)(ho:cS x=true)(hg:d.ln[(x.l-1).toNat]? =some g)(hf:∀z,(f z).c=z.c/\(f z).l=z.l)(cE:cS (f x)=false):
 fX {v with pC:=y6 g v.pC,pO:=yK x.c v.pO} {d with r:={d.r with recs:=d.r.recs.modify i f}}:=by
 have bw:∀(j:Nat) (y:bO),(d.r.recs.modify i f)[j]? =some y->cS y=true->i≠j/\d.r.recs[j]? =some y:=λj y hy Eo=>by
  obtain⟨z,h1,⟨e,rfl⟩|⟨e,rfl⟩⟩:=yI hy
  .subst e
   rw[hx] at h1;obtain rfl:=cJ h1;rw[cE] at Eo;cases Eo
  .exact⟨e,h1⟩
 have cw:∀(j:Nat) (y:bO),(d.r.recs.modify i f)[j]? =some y->∃z,d.r.recs[j]? =some z/\y.c=z.c:=λj y hy=>by
  obtain⟨z,h1,⟨_,rfl⟩|⟨_,rfl⟩⟩:=yI hy
  .exact⟨z,h1,(hf z).1⟩
  simp_all
 refine⟨zxW _ h.kc,zwU _ h.ko,h.km,λi' g' yD=>?_,λc' y hy=>?_,λc' hy j z hz Ny=>?_,λc' y hy=>?_,λc' hy j z hz=>?_⟩
 .simp only[ztP _ _ h.kc]
  by_cases e:g'=g
  .subst e
   have e1:=zsp hn hg yD;rw[if_pos rfl];constructor
   .intro h;cases h
   .rintro⟨j,z,h1,h2,h3⟩
    obtain⟨k1,k2⟩:=bw j z h1 h2;have hl:=Vd x (dZ hx);exact absurd (hS.opn i j x z hx k2 ho h2 (.inr (.inl aC))) k1
  .rw[if_neg e,h.c i' g' yD]
   constructor
   .rintro⟨j,z,h1,h2,h3⟩
    have aS:i≠j:=λe2=>by simp_all
    exact⟨j,z,Xw h1 aS,h2,h3⟩
   .rintro⟨j,z,h1,h2,h3⟩
    obtain⟨k1,k2⟩:=bw j z h1 h2;exact⟨j,z,k2,h2,h3⟩
 .simp only[znp _ _ h.ko] at hy
  by_cases e:c'=x.c
  .simp_all
  .rw[if_neg e] at hy
   obtain⟨j,z,g',h1,h2,h3,h4⟩:=h.o1 c' y hy;have aS:i≠j:=λe2=>by simp_all
   exact⟨j,z,g',Xw h1 aS,h2,h3,h4⟩
 .simp only[znp _ _ h.ko] at hy
  obtain⟨k1,k2⟩:=bw j z hz Ny;by_cases e:c'=x.c
  .intro e2
   exact k1 (hS.opn i j x z hx k2 ho Ny (.inl (by rw[e2,e])))
  .rw[if_neg e] at hy
   exact h.o2 c' hy j z k2 Ny
 .obtain⟨j,z,h1,h2,h3,h4⟩:=h.m1 c' y hy
  have up:∀(j':Nat) (e:bO),(d.r.recs.modify i f)[j']? =some e->e.c=c'->j'<=j:=λj' e he hc=>by
   obtain⟨z',k1,k2⟩:=cw j' e he;simp_all
  by_cases e:i=j
  .subst e
   exact⟨i,f z,h1,zdM h2,(hf z).1.trans h3,up⟩
  .exact⟨j,z,h1,Xw h2 e,h3,up⟩
 .obtain⟨z',k1,k2⟩:=cw j z hz
  rw[k2];exact h.m2 c' hy j z' k1
end
def Rt:aK.underlying 84=some (.chan .both 3):=aT
def Kf:aK.underlying 3=some (.int .i64):=aT
theorem znb (w:aE):(zeroValue 3).run aK w=.ok (.int .i64 0) w:=by simp_all
def zbH (w:aE):(zeroValue 84).run aK w=.ok (.chan none) w:=aT
def Js (d:nV):Int:=match oM d.r.o d.r.recs with|[]=>-1|l::_=>l-1
theorem zAq {p:Int->Bool}:∀(n k:Nat),k<n->(∀j,j<k->p ((j:Int)+1)=false)->p ((k:Int)+1)=true->∃rest,((iX n).map λi:Nat=>(i:Int)+1).filter p=((k:Int)+1)::rest:=by
 intro n
 induction n with
 |zero=>intro k h;omega
 |succ n ih=>
  intro k hk h1 h2;rw[List.range_succ,Sz,Ot];by_cases e:k<n
  .grind
  .have e2:k=n:=aC
   subst e2;have h0:((iX k).map λi:Nat=>(i:Int)+1).filter p=[]:=by
    rw[zvX];intro x hx;obtain⟨i,hi,rfl⟩:=Sa.1 hx;rw[h1 i (D4.1 hi)];simp
   rw[h0];simp_all
variable {d:nV}{k:Nat}
theorem zzv (hn:(d.ln.length:Int)=d.r.o.ln)(hk:k<d.ln.length)(h1:∀j,j<k->rD d.r.recs ((j:Int)+1)=true)(h2:rD d.r.recs ((k:Int)+1)=false):Js d=(k:Int):=by
 unfold Js oM yA;obtain⟨rest,hr⟩:=zAq (p:=λl=>!rD d.r.recs l) d.r.o.ln.toNat k aC (λj hj=>by simp[h1 j hj]) (by simp[h2]);simp_all
theorem zzl (hn:(d.ln.length:Int)=d.r.o.ln)(h1:∀j,j<d.ln.length->rD d.r.recs ((j:Int)+1)=true):Js d= -1:=by
 unfold Js oM yA;have h0:((iX d.r.o.ln.toNat).map λi:Nat=>(i:Int)+1).filter (λl=>!rD d.r.recs l)=[]:=by
  rw[zvX];intro x hx;obtain⟨i,hi,rfl⟩:=Sa.1 hx;rw[h1 i s9];simp
 rw[h0]
variable {w:aE}{lo:Nat}
theorem Hn {E s n:Nat}{xs:List aF}(h:w.ownsRow lo E s v n xs)(hs:0<s):∃A c,v=.slice A n c/\cM w lo w.heap.size s A n c xs:=by
 obtain⟨A,c,e,o⟩:=zeo h hs;exact⟨A,c,e,o.slc⟩
theorem zgI {hi n c:Nat}{A:Option bD}(h:cM w lo hi 1 A n c (J7 xs))(hk:k<n):∃b off g,A=some ⟨b,off,none⟩/\xs[k]? =some g/\w.cell? ⟨b,off+k,none⟩=some (.chan (some g)):=by
 obtain⟨b,off,e,h1,h2,h3,h4⟩:=h.cells hk;have hl:xs.length=n:=by have:=h.len;simpa[J7] using this
 obtain⟨g,hg⟩:∃g,xs[k]? =some g:=⟨xs[k]' aC,oX aC⟩;refine⟨b,off,g,e,hg,?_⟩;have:=h4 0 (.chan (some g)) (by simp[J7,hg]);simpa using this
theorem zwZ {hb:Nat}{v:fC}(h:bE w lo hb v d)(m:fX v d)(hn:(d.ln.length:Int)=d.r.o.ln)(hk:d.ln.length<=100):
 iR aK 109 #[.pointer (some ⟨hb,0,none⟩)] w λe w'=>e=.returned (.int .i64 (Js d))/\w'=w:=by
 obtain⟨A,c,hA,hs⟩:=Hn h.L aH;have HS:=aD hs;have HM:=aD m;have HC:=aD h.C;have HN:=aD hn;have pK:=aI h.blk 3;have k2:=aI h.blk 4;have k1:w.cell? ⟨hb,3,none⟩=some (.slice A d.ln.length c):=by rw[pK,<-hA];rfl
 clear pK hA hs m hn h
 go_enter Tryz.func109,Tryz.ntmps109
 go_wp2
 go_loop [12] (λi=>∃k:Nat,k<=d.ln.length/\i=.int .i64 k/\∀j,j<k->rD d.r.recs ((j:Int)+1)=true) (λi=>d.ln.length-(intOf i).toNat)
 case atStart=>grind
 case round=>
  obtain⟨k,sP,rfl,iW⟩:=hrel;have ziB:=aD iW;clear iW;by_cases aU:k<d.ln.length
  .obtain⟨b,off,g,hA,hg,hv⟩:=zgI HS.o aU
   subst hA;have HG:=aD hg;have i0:(0:Int)<=(k:Int):=aC;have i1:(k:Int)<(d.ln.length:Int):=aC;have HU:=aD (HM.o.used hg);clear hg;cases hu:rD d.r.recs ((k:Int)+1)
   .have HV:=aD hu
    clear hu
    go_wp2_with (at_lookup;refine zuc _ rfl (.tmp 21) (.tmp 22) 66 true rfl 3 zqa Rt (.int .i64 0) (znb _) v.mC g v.pC rfl rfl HC.o ?_;rw[HU.o,HV.o];simp only[if_true])
    go_ret;exact⟨Ie (zzv HN.o aU ziB.o HV.o).symm,rfl⟩
   .have HV:=aD hu
    clear hu
    go_wp2_with (at_lookup;refine zuc _ rfl (.tmp 21) (.tmp 22) 66 true rfl 3 zqa Rt (.int .i64 0) (znb _) v.mC g v.pC rfl rfl HC.o ?_;rw[HU.o,HV.o];simp only[if_true])
    go_round
    case rel=>exact⟨k+1,aC,oH,λj hj=>if e:j<k then ziB.o j e else(by rw[show j=k by omega];exact HV.o)⟩
    case measure=>simp[intOf];omega
  .have e:k=d.ln.length:=aC
   subst e;go_wp2;go_ret;exact⟨Ie (zzl HN.o ziB.o).symm,rfl⟩
end Go.Proofs.YtfcjiloojkjaeaaGreatDoor
namespace Go.Proofs.YtfcjiloojkjaeaaGreatDoor
open Go.RowKit Go.Mt Go.Conc Go.Tt Go.Maps
section
variable {p:bT}{o:aZ}{ρ:cI->aF}{w w':aE}
variable {t:aM}
theorem zmp {m x:cI}{ok:Bool}{a b v:aF}(ho:o.op=.lookup t m x ok)(hm:ρ m=a)(hx:ρ x=b)(hr:(Ah t a b ok).run p w=.ok v w):(aO ρ o).run p w=.ok (.value v) w:=by
 obtain⟨dst,y5,type,pos,after,guard⟩:=o;simp only at ho;subst ho;simp[aO,hm,hx,hr]
theorem zAD {t2:aM}{a b:cI}{x y:Option Nat}{d:Mz}{e:aM}(ho:o.op=.binOp .eql t a b t2)(hu:p.underlying t=some (.chan d e))(ha:ρ a=.chan x)(hb:ρ b=.chan y):(aO ρ o).run p w=.ok (.value (.bool (x==y))) w:=by
 obtain⟨dst,y5,type,pos,after,guard⟩:=o;simp only at ho;subst ho;simp[aO,eqGuard,binOp,ha,hb,zmP hu]
theorem Ge {x:Int}(h1: -1000000000000<=x)(h2:x<=1000000000000):IntKind.i64.wrap x=x:=by
 rw[IntKind.wrap_i64];omega
theorem exec_mu {m x y:cI}{a b c:aF}(ho:o.op=.mapUpdate t m x y)(hm:ρ m=a)(hx:ρ x=b)(hy:ρ y=c)(hr:(Hh t a b c).run p w=.ok () w'):(aO ρ o).run p w=.ok .skip w':=by
 obtain⟨dst,y5,type,pos,after,guard⟩:=o;simp only at ho;subst ho;simp[aO,hm,hx,hy,hr]
variable {kt:aM}
theorem exec_dl {m x:cI}{a b v:aF}(ho:o.op=.call ⟨.builtin .delete,#[m,x],#[t,kt]⟩)(hm:ρ m=a)(hx:ρ x=b)(hr:(Lq #[t,kt] o.type #[a,b]).run p w=.ok v w'):(aO ρ o).run p w=.ok (.value v) w':=by
 obtain⟨dst,y5,type,pos,after,guard⟩:=o;simp only at ho hr;subst ho;simp[aO,resolve,invoke,builtin,hm,hx,hr]
theorem zd2 {m x:cI}{a b v:aF}(ho:o.op=.call ⟨.builtin .copy,#[m,x],#[t,kt]⟩)(hm:ρ m=a)(hx:ρ x=b)(hr:(Dh #[t,kt] o.type #[a,b]).run p w=.ok v w'):(aO ρ o).run p w=.ok (.value v) w':=by
 obtain⟨dst,y5,type,pos,after,guard⟩:=o;simp only at ho hr;subst ho;simp[aO,resolve,invoke,builtin,hm,hx,hr]
end
def bodyRF:Go.Code:=(Tryz.f115.body).getD .skip
def rRF1:Go.Code:=match bodyRF with| .seq _ (.seq (a) _)=>a|_=>.skip
def Bh:Array Oper:=match rRF1 with| .region _ ops _=>ops|_=>#[]
def zxo:Bh.toList=[aV Bh 0 (some 5) (.move (.tmp 0)),aV Bh 1 (some 6) (.nilCheck (.tmp 5)),aV Bh 2 (some 7) (.fieldAddr 72 (.tmp 6) 7),aV Bh 3 (some 8) (.load 45 (.tmp 7)),aV Bh 4 (some 9) (.move (.tmp 0)),aV Bh 5 (some 10) (.nilCheck (.tmp 9)),aV Bh 6 (some 11) (.fieldAddr 72 (.tmp 10) 8),aV Bh 7 (some 12) (.load 70 (.tmp 11)),aV Bh 8 (some 13) (.move (.tmp 1)),aV Bh 9 (some 14) (.lookup 70 (.tmp 12) (.tmp 13) false),aV Bh 10 (some 15) (.indexAddr 45 (.tmp 8) (.tmp 14)),aV Bh 11 (some 4) (.assign (.tmp 15))]:=rfl
def WRF1 (w:aE)(hb g n cR mM ix:Nat)(c:Int):Nat->aE
 |_=>w.drew
theorem zr6:Bh.toList.map (·.dst)=[some 5,some 6,some 7,some 8,some 9,some 10,some 11,some 12,some 13,some 14,some 15,some 4]:=by rw[zxo];rfl
def lRF1 (w:aE)(hb g n cR mM ix:Nat)(c:Int):List Value:=[.pointer (some ⟨hb,0,none⟩),.pointer (some ⟨hb,0,none⟩),.pointer (some ⟨hb,9,none⟩),.slice (some ⟨g,0,none⟩) n cR,.pointer (some ⟨hb,0,none⟩),.pointer (some ⟨hb,0,none⟩),.pointer (some ⟨hb,10,none⟩),.map (some mM),.int .i64 (c),.int .i64 ((ix:Nat)),.pointer (some ⟨g,ix*7,none⟩),.pointer (some ⟨g,ix*7,none⟩)]
def fRF1 (w:aE)(hb g n cR mM ix:Nat)(c:Int)(i:Nat):Value:=(lRF1 w hb g n cR mM ix c).getD i aA
variable {Q:n6->uB->aE->Prop}{d:List Gr}{t0:Array aF}
theorem wp_RF1 (w:aE)(hb g n cR mM ix:Nat)(c:Int)(hz:t0.size=16)(uH:t0.getD 0 aA=.pointer (some ⟨hb,0,none⟩))(Gj:t0.getD 1 aA=.int .i64 (c))(h9:w.cell? ⟨hb,9,none⟩=some (.slice (some ⟨g,0,none⟩) n cR))(Wp:w.cell? ⟨hb,10,none⟩=some (.map (some mM)))(wR:(Ah 70 (.map (some mM)) (.int .i64 c) false).run aK w.drew=.ok (.int .i64 (ix:Int)) w.drew)(oQ:ix<n)(h0:WRF1 w hb g n cR mM ix c 0=w.drew)(hk:Q .normal ⟨dF Bh (fRF1 w hb g n cR mM ix c) t0,d⟩ (w.drew)):
 (Ff 1 Bh true).wp aK Q ⟨t0,d⟩ w:=by
 refine Ji (ws:=[]) (Wd:=WRF1 w hb g n cR mM ix c) (vals:=fRF1 w hb g n cR mM ix c) vN.mixed aT aH aT h0 Je (λV hU hV=>?_) hk;obtain⟨e5,e6,e7,e8,e9,zhl,zlV,zfJ,zkg,ztE,zwB,e4,-⟩:=Ik zr6 hU;have e0:=(hV 0 aT).trans uH;have e1:=(hV 1 aT).trans Gj;have zsw:=h9;have zAs:=Wp;refine λTf hT=>Jh zxo ⟨bR.pv,bR.pv,bR.pv,bR.ld,bR.pv,bR.pv,bR.pv,bR.ld,bR.pv,bR.ld (hx:=zmp rfl (nY hT zfJ) (nY hT zkg) wR),bR.any (λkk gD hm=>?_),bR.pv,trivial⟩
 .have i0:(0:Int)<=(ix:Int):=aC
  have i1:(ix:Int)<(n:Int):=by have:=oQ;omega
  unfold aO;go_simp
def bodyCL:Go.Code:=(Tryz.f116.body).getD .skip
def rCL0:Go.Code:=match bodyCL with| .seq (a) _=>a|_=>.skip
def Cd:Array Oper:=match rCL0 with| .region _ ops _=>ops|_=>#[]
def zpm:Cd.toList=[aV Cd 0 (some 7) (.move (.tmp 0)),aV Cd 1 (some 8) (.nilCheck (.tmp 7)),aV Cd 2 (some 9) (.fieldAddr 72 (.tmp 8) 2),aV Cd 3 (some 10) (.load 66 (.tmp 9)),aV Cd 4 (some 11) (.move (.tmp 0)),aV Cd 5 (some 12) (.nilCheck (.tmp 11)),aV Cd 6 (some 13) (.fieldAddr 72 (.tmp 12) 3),aV Cd 7 (some 14) (.load 67 (.tmp 13)),aV Cd 8 (some 15) (.move (.tmp 1)),aV Cd 9 (some 16) (.lookup 67 (.tmp 14) (.tmp 15) false),aV Cd 10 none (.call ⟨.builtin .delete,#[.tmp 10,.tmp 16],#[66,84]⟩)]:=rfl
def WCL0 (w:aE)(hb mC mO g:Nat)(o1:Obj)(c:Int):Nat->aE
 |0=>w.drew
 |_=>{w.drew with heap:=w.drew.heap.setIfInBounds mC o1}
theorem zrm:Cd.toList.map (·.dst)=[some 7,some 8,some 9,some 10,some 11,some 12,some 13,some 14,some 15,some 16,none]:=by rw[zpm];rfl
def lCL0 (w:aE)(hb mC mO g:Nat)(o1:Obj)(c:Int):List Value:=[.pointer (some ⟨hb,0,none⟩),.pointer (some ⟨hb,0,none⟩),.pointer (some ⟨hb,4,none⟩),.map (some mC),.pointer (some ⟨hb,0,none⟩),.pointer (some ⟨hb,0,none⟩),.pointer (some ⟨hb,5,none⟩),.map (some mO),.int .i64 (c),.chan (some g),aA]
def fCL0 (w:aE)(hb mC mO g:Nat)(o1:Obj)(c:Int)(i:Nat):Value:=(lCL0 w hb mC mO g o1 c).getD i aA
theorem wp_CL0 (w:aE)(hb mC mO g:Nat)(o1:Obj)(c:Int)(hz:t0.size=36)(uH:t0.getD 0 aA=.pointer (some ⟨hb,0,none⟩))(Gj:t0.getD 1 aA=.int .i64 (c))(h4:w.cell? ⟨hb,4,none⟩=some (.map (some mC)))(h5:w.cell? ⟨hb,5,none⟩=some (.map (some mO)))(wR:(Ah 67 (.map (some mO)) (.int .i64 c) false).run aK w.drew=.ok (.chan (some g)) w.drew)(uJ:∀ty,(Lq #[66,84] ty #[.map (some mC),.chan (some g)]).run aK w.drew=.ok (.tuple #[]) {w.drew with heap:=w.drew.heap.setIfInBounds mC o1})(h0:WCL0 w hb mC mO g o1 c 0=w.drew)(hk:Q .normal ⟨dF Cd (fCL0 w hb mC mO g o1 c) t0,d⟩ ({w.drew with heap:=w.drew.heap.setIfInBounds mC o1})):
 (Ff 0 Cd true).wp aK Q ⟨t0,d⟩ w:=by
 refine Ji (ws:=[10]) (Wd:=WCL0 w hb mC mO g o1 c) (vals:=fCL0 w hb mC mO g o1 c) vN.mixed aT aH aT h0 Je (λV hU hV=>?_) hk;obtain⟨e7,e8,e9,zhl,zlV,zfJ,zkg,ztE,zwB,zEe,-⟩:=Ik zrm hU;have e0:=(hV 0 aT).trans uH;have e1:=(hV 1 aT).trans Gj;have L3:=h4;have zDC:=h5;refine λTf hT=>Jh zpm ⟨bR.pv,bR.pv,bR.pv,bR.ld,bR.pv,bR.pv,bR.pv,bR.ld,bR.pv,bR.ld (hx:=zmp rfl (nY hT ztE) (nY hT zwB) wR),.actn 0 rfl (dW rfl) rfl (.tuple #[]) ?_,trivial⟩
 .exact exec_dl rfl (nY hT zhl) (nY hT zEe) (uJ _)
def ztC:Go.Code:=(Tryz.f110.body).getD .skip
def rCC3:Go.Code:=match ztC with| .seq _ (.seq _ (.seq _ (.seq (a) _)))=>a|_=>.skip
def C2:Array Oper:=match rCC3 with| .region _ ops _=>ops|_=>#[]
def zvW:C2.toList=[aV C2 0 (some 26) (.move (.tmp 0)),aV C2 1 (some 27) (.nilCheck (.tmp 26)),aV C2 2 (some 28) (.fieldAddr 72 (.tmp 27) 8),aV C2 3 (some 29) (.load 70 (.tmp 28)),aV C2 4 (some 30) (.move (.tmp 1)),aV C2 5 (some 31) (.move (.tmp 0)),aV C2 6 (some 32) (.nilCheck (.tmp 31)),aV C2 7 (some 33) (.fieldAddr 72 (.tmp 32) 7),aV C2 8 (some 34) (.load 45 (.tmp 33)),aV C2 9 (some 35) (.call ⟨.builtin .len,#[.tmp 34],#[45]⟩),aV C2 10 none (.mapUpdate 70 (.tmp 29) (.tmp 30) (.tmp 35))]:=rfl
def WCC3 (w:aE)(hb mM n:Nat)(sR:aF)(A:Option bD)(cR:Nat)(o1:Obj)(c:Int):Nat->aE
 |0=>w.drew
 |_=>{w.drew with heap:=w.drew.heap.setIfInBounds mM o1}
theorem zxy:C2.toList.map (·.dst)=[some 26,some 27,some 28,some 29,some 30,some 31,some 32,some 33,some 34,some 35,none]:=by rw[zvW];rfl
def lCC3 (w:aE)(hb mM n:Nat)(sR:aF)(A:Option bD)(cR:Nat)(o1:Obj)(c:Int):List Value:=[.pointer (some ⟨hb,0,none⟩),.pointer (some ⟨hb,0,none⟩),.pointer (some ⟨hb,10,none⟩),.map (some mM),.int .i64 (c),.pointer (some ⟨hb,0,none⟩),.pointer (some ⟨hb,0,none⟩),.pointer (some ⟨hb,9,none⟩),.slice A n cR,.int .i64 ((n:Nat)),aA]
def fCC3 (w:aE)(hb mM n:Nat)(sR:aF)(A:Option bD)(cR:Nat)(o1:Obj)(c:Int)(i:Nat):Value:=(lCC3 w hb mM n sR A cR o1 c).getD i aA
theorem wp_CC3 (w:aE)(hb mM n:Nat)(sR:aF)(A:Option bD)(cR:Nat)(o1:Obj)(c:Int)(hz:t0.size=53)(uH:t0.getD 0 aA=.pointer (some ⟨hb,0,none⟩))(Gj:t0.getD 1 aA=.int .i64 (c))(Wp:w.cell? ⟨hb,10,none⟩=some (.map (some mM)))(h9:w.cell? ⟨hb,9,none⟩=some (.slice A n cR))(Pn:(Hh 70 (.map (some mM)) (.int .i64 c) (.int .i64 (n:Int))).run aK w.drew=.ok () {w.drew with heap:=w.drew.heap.setIfInBounds mM o1})(h0:WCC3 w hb mM n sR A cR o1 c 0=w.drew)(hk:Q .normal ⟨dF C2 (fCC3 w hb mM n sR A cR o1 c) t0,d⟩ ({w.drew with heap:=w.drew.heap.setIfInBounds mM o1})):
 (Ff 3 C2 true).wp aK Q ⟨t0,d⟩ w:=by
 refine Ji (ws:=[10]) (Wd:=WCC3 w hb mM n sR A cR o1 c) (vals:=fCC3 w hb mM n sR A cR o1 c) vN.mixed aT aH aT h0 Je (λV hU hV=>?_) hk;obtain⟨zIB,zKS,zJv,zzX,zzs,zJS,zKj,zJ5,zIC,zCY,-⟩:=Ik zxy hU;have e0:=(hV 0 aT).trans uH;have e1:=(hV 1 aT).trans Gj;have zAs:=Wp;have zsw:=h9;refine λTf hT=>Jh zvW ⟨bR.pv,bR.pv,bR.pv,bR.ld,bR.pv,bR.pv,bR.pv,bR.pv,bR.ld,bR.pv,.skp 0 rfl (dW rfl) rfl ?_,trivial⟩
 .exact exec_mu rfl (nY hT zzX) (nY hT zzs) (nY hT zCY) Pn
def rCC4:Go.Code:=match ztC with| .seq _ (.seq _ (.seq _ (.seq _ (a))))=>a|_=>.skip
def vE:Array Oper:=match rCC4 with| .region _ ops _=>ops|_=>#[]
def zpw:vE.toList=[aV vE 0 (some 36) (.move (.tmp 0)),aV vE 1 (some 37) (.move (.tmp 0)),aV vE 2 (some 38) (.nilCheck (.tmp 37)),aV vE 3 (some 39) (.fieldAddr 72 (.tmp 38) 7),aV vE 4 (some 40) (.load 45 (.tmp 39)),aV vE 5 (some 41) (.move (.tmp 1)),aV vE 6 (some 42) (.move (.tmp 2)),aV vE 7 (some 43) (.binOp .add 3 (.tmp 42) (.const (.int .i64 1)) 3),aV vE 8 (some 44) (.move (.tmp 0)),aV vE 9 (some 45) (.nilCheck (.tmp 44)),aV vE 10 (some 46) (.fieldAddr 72 (.tmp 45) 9),aV vE 11 (some 47) (.load 3 (.tmp 46)),aV vE 12 (some 48) (.build 50 #[(0,.tmp 41),(1,.tmp 43),(3,.tmp 47),(4,.const (.int .i64 (-1))),(5,.const (.int .i64 (-1))),(6,.const (.string {data:=#[111,112,101,110]}))]),aV vE 13 (some 49) (.buildSlice 45 1 #[(0,.tmp 48)]),aV vE 14 (some 50) (.call ⟨.builtin .append,#[.tmp 40,.tmp 49],#[45,45]⟩),aV vE 15 (some 51) (.nilCheck (.tmp 36)),aV vE 16 (some 52) (.fieldAddr 72 (.tmp 51) 7),aV vE 17 none (.store 45 (.tmp 52) (.tmp 50))]:=rfl
def WCC4 (w w3:aE)(hb g1 n1 c1:Nat)(sR:aF)(c ix clk:Int):Nat->aE
 |0=>w.drew
 |1=>(w.alloc (.cells #[.int .i64 c,.int .i64 (ix+1),.int .i64 0,.int .i64 clk,.int .i64 (-1),.int .i64 (-1),.string dY] 50)).drew
 |2=>w3
 |_=>w3.setCell ⟨hb,9,none⟩ (.slice (some ⟨g1,0,none⟩) n1 c1)
theorem zwG:vE.toList.map (·.dst)=[some 36,some 37,some 38,some 39,some 40,some 41,some 42,some 43,some 44,some 45,some 46,some 47,some 48,some 49,some 50,some 51,some 52,none]:=by rw[zpw];rfl
def lCC4 (w w3:aE)(hb g1 n1 c1:Nat)(sR:aF)(c ix clk:Int):List Value:=[.pointer (some ⟨hb,0,none⟩),.pointer (some ⟨hb,0,none⟩),.pointer (some ⟨hb,0,none⟩),.pointer (some ⟨hb,9,none⟩),sR,.int .i64 (c),.int .i64 (ix),.int .i64 (ix+1),.pointer (some ⟨hb,0,none⟩),.pointer (some ⟨hb,0,none⟩),.pointer (some ⟨hb,11,none⟩),.int .i64 (clk),.agg #[.int .i64 c,.int .i64 (ix+1),.int .i64 0,.int .i64 clk,.int .i64 (-1),.int .i64 (-1),.string dY],.slice (some ⟨w.heap.size,0,none⟩) 1 1,.slice (some ⟨g1,0,none⟩) n1 c1,.pointer (some ⟨hb,0,none⟩),.pointer (some ⟨hb,9,none⟩),aA]
def fCC4 (w w3:aE)(hb g1 n1 c1:Nat)(sR:aF)(c ix clk:Int)(i:Nat):Value:=(lCC4 w w3 hb g1 n1 c1 sR c ix clk).getD i aA
theorem wp_CC4 (w w3:aE)(hb g1 n1 c1:Nat)(sR:aF)(c ix clk:Int)(hz:t0.size=53)(uH:t0.getD 0 aA=.pointer (some ⟨hb,0,none⟩))(Gj:t0.getD 1 aA=.int .i64 (c))(Us:t0.getD 2 aA=.int .i64 (ix))(h9:w.cell? ⟨hb,9,none⟩=some sR)(zcH:w.cell? ⟨hb,11,none⟩=some (.int .i64 clk))(zpV:0<=ix/\ix<=1000)(fF:(wQ #[45,45] 45 #[sR,.slice (some ⟨w.heap.size,0,none⟩) 1 1]).run aK ((w.alloc (.cells #[.int .i64 c,.int .i64 (ix+1),.int .i64 0,.int .i64 clk,.int .i64 (-1),.int .i64 (-1),.string dY] 50)).drew)=.ok (.slice (some ⟨g1,0,none⟩) n1 c1) w3)(aX:w3.cell? ⟨hb,9,none⟩=some sR)(nQ:w3.frozen? ⟨hb,9,none⟩=false)(h0:WCC4 w w3 hb g1 n1 c1 sR c ix clk 0=w.drew)(hk:Q .normal ⟨dF vE (fCC4 w w3 hb g1 n1 c1 sR c ix clk) t0,d⟩ (w3.setCell ⟨hb,9,none⟩ (.slice (some ⟨g1,0,none⟩) n1 c1))):
 (Ff 4 vE true).wp aK Q ⟨t0,d⟩ w:=by
 refine Ji (ws:=[13,14,17]) (Wd:=WCC4 w w3 hb g1 n1 c1 sR c ix clk) (vals:=fCC4 w w3 hb g1 n1 c1 sR c ix clk) vN.mixed aT aH aT h0 Je (λV hU hV=>?_) hk;obtain⟨zEw,zua,zuZ,zjq,zhP,zpz,zs4,zlw,zn3,zi3,Xj,zcA,zlJ,Yd,zgm,Yp,W9,-⟩:=Ik zwG hU;have e0:=(hV 0 aT).trans uH;have e1:=(hV 1 aT).trans Gj;have e2:=(hV 2 aT).trans Us;have zsw:=h9;have zIE:=zcH;refine λTf hT=>Jh zpw ⟨bR.pv,bR.pv,bR.pv,bR.pv,bR.any (λkk gD hm=>?_),bR.pv,bR.pv,bR.any (λkk gD hm=>?_),bR.pv,bR.pv,bR.pv,bR.ld,bR.any (λkk gD hm=>?_),bR.act (v:=V 49) 0 rfl (dW rfl) ?_,bR.act (v:=V 50) 1 rfl (dW rfl) ?_,bR.pv,bR.pv,.skp 2 rfl (dW rfl) rfl ?_,trivial⟩
 .rcases kk with _|_|_|_|kk
  .show(aO _ _).run _ (w.drew)=wP _ (w.drew);have hh:=h9;unfold aO;go_simp
  .show(aO _ _).run _ ((w.alloc (.cells #[.int .i64 c,.int .i64 (ix+1),.int .i64 0,.int .i64 clk,.int .i64 (-1),.int .i64 (-1),.string dY] 50)).drew)=wP _ ((w.alloc (.cells #[.int .i64 c,.int .i64 (ix+1),.int .i64 0,.int .i64 clk,.int .i64 (-1),.int .i64 (-1),.string dY] 50)).drew);have hh:=Aw h9 (.cells #[.int .i64 c,.int .i64 (ix+1),.int .i64 0,.int .i64 clk,.int .i64 (-1),.int .i64 (-1),.string dY] 50);unfold aO;go_simp
  .exact absurd hm nA
  .exact absurd hm nA
  .simp at gD
 .have i0:=zpV.1
  have i1:=zpV.2;unfold aO;go_simp;exact Ge aC aC
 .unfold aO;go_simp;rfl
 .rw[Yd];show(aO _ _).run _ (w.drew)=wP _ ((w.alloc (.cells #[.int .i64 c,.int .i64 (ix+1),.int .i64 0,.int .i64 clk,.int .i64 (-1),.int .i64 (-1),.string dY] 50)).drew);unfold aO;go_simp
 .rw[zgm];exact za2 rfl (nY hT zhP) (nY hT Yd) fF
 .have hs:=aX;have hf:=nQ;show(aO _ _).run _ (w3)=wP _ (w3.setCell ⟨hb,9,none⟩ (.slice (some ⟨g1,0,none⟩) n1 c1));unfold aO;go_simp
def bodyWA:Go.Code:=(Tryz.f105.body).getD .skip
def rWA10:Go.Code:=match bodyWA with| .seq _ (.seq _ (.seq _ (.seq _ (.seq (.seq _ (.block _ (.loop (.seq _ (.seq _ (.seq (.block _ (.seq _ (.seq _ (.seq _ (.seq (a) _))))) _)))))) _))))=>a|_=>.skip
def Bw:Array Oper:=match rWA10 with| .region _ ops _=>ops|_=>#[]
def znW:Bw.toList=[aV Bw 0 (some 58) (.move (.tmp 0)),aV Bw 1 (some 59) (.move (.tmp 0)),aV Bw 2 (some 60) (.nilCheck (.tmp 59)),aV Bw 3 (some 61) (.fieldAddr 72 (.tmp 60) 6),aV Bw 4 (some 62) (.load 38 (.tmp 61)),aV Bw 5 (some 63) (.fieldAddr 149 (.tmp 8) 0),aV Bw 6 (some 64) (.load 3 (.tmp 63)),aV Bw 7 (some 65) (.buildSlice 38 1 #[(0,.tmp 64)]),aV Bw 8 (some 66) (.call ⟨.builtin .append,#[.tmp 62,.tmp 65],#[38,38]⟩),aV Bw 9 (some 67) (.nilCheck (.tmp 58)),aV Bw 10 (some 68) (.fieldAddr 72 (.tmp 67) 6),aV Bw 11 none (.store 38 (.tmp 68) (.tmp 66))]:=rfl
def WWA10 (w w3:aE)(hb gx g1 n1 c1:Nat)(sB:aF)(c:Int):Nat->aE
 |0=>w.drew
 |1=>(w.alloc (.cells #[.int .i64 c] 3)).drew
 |2=>w3
 |_=>w3.setCell ⟨hb,8,none⟩ (.slice (some ⟨g1,0,none⟩) n1 c1)
theorem ztn:Bw.toList.map (·.dst)=[some 58,some 59,some 60,some 61,some 62,some 63,some 64,some 65,some 66,some 67,some 68,none]:=by rw[znW];rfl
def lWA10 (w w3:aE)(hb gx g1 n1 c1:Nat)(sB:aF)(c:Int):List Value:=[.pointer (some ⟨hb,0,none⟩),.pointer (some ⟨hb,0,none⟩),.pointer (some ⟨hb,0,none⟩),.pointer (some ⟨hb,8,none⟩),sB,.pointer (some ⟨gx,0,none⟩),.int .i64 (c),.slice (some ⟨w.heap.size,0,none⟩) 1 1,.slice (some ⟨g1,0,none⟩) n1 c1,.pointer (some ⟨hb,0,none⟩),.pointer (some ⟨hb,8,none⟩),aA]
def zk6 (w w3:aE)(hb gx g1 n1 c1:Nat)(sB:aF)(c:Int)(i:Nat):Value:=(lWA10 w w3 hb gx g1 n1 c1 sB c).getD i aA
theorem wp_WA10 (w w3:aE)(hb gx g1 n1 c1:Nat)(sB:aF)(c:Int)(hz:t0.size=81)(uH:t0.getD 0 aA=.pointer (some ⟨hb,0,none⟩))(zl3:t0.getD 8 aA=.pointer (some ⟨gx,0,none⟩))(h8:w.cell? ⟨hb,8,none⟩=some sB)(hx:w.cell? ⟨gx,0,none⟩=some (.int .i64 c))(fF:(wQ #[38,38] 38 #[sB,.slice (some ⟨w.heap.size,0,none⟩) 1 1]).run aK ((w.alloc (.cells #[.int .i64 c] 3)).drew)=.ok (.slice (some ⟨g1,0,none⟩) n1 c1) w3)(aX:w3.cell? ⟨hb,8,none⟩=some sB)(nQ:w3.frozen? ⟨hb,8,none⟩=false)(h0:WWA10 w w3 hb gx g1 n1 c1 sB c 0=w.drew)(hk:Q .normal ⟨dF Bw (zk6 w w3 hb gx g1 n1 c1 sB c) t0,d⟩ (w3.setCell ⟨hb,8,none⟩ (.slice (some ⟨g1,0,none⟩) n1 c1))):
 (Ff 10 Bw true).wp aK Q ⟨t0,d⟩ w:=by
 refine Ji (ws:=[7,8,11]) (Wd:=WWA10 w w3 hb gx g1 n1 c1 sB c) (vals:=zk6 w w3 hb gx g1 n1 c1 sB c) vN.mixed aT aH aT h0 Je (λV hU hV=>?_) hk;obtain⟨zou,zAK,zJA,zJ1,zyc,zI6,zJE,zvK,zFW,zLd,zIJ,-⟩:=Ik ztn hU;have e0:=(hV 0 aT).trans uH;have e8:=(hV 8 aT).trans zl3;have zIw:=h8;have l9:=hx;refine λTf hT=>Jh znW ⟨bR.pv,bR.pv,bR.pv,bR.pv,bR.any (λkk gD hm=>?_),bR.pv,bR.ld,bR.act (v:=V 65) 0 rfl (dW rfl) ?_,bR.act (v:=V 66) 1 rfl (dW rfl) ?_,bR.pv,bR.pv,.skp 2 rfl (dW rfl) rfl ?_,trivial⟩
 .rcases kk with _|_|_|_|kk
  .show(aO _ _).run _ (w.drew)=wP _ (w.drew);have hh:=h8;unfold aO;go_simp
  .show(aO _ _).run _ ((w.alloc (.cells #[.int .i64 c] 3)).drew)=wP _ ((w.alloc (.cells #[.int .i64 c] 3)).drew);have hh:=Aw h8 (.cells #[.int .i64 c] 3);unfold aO;go_simp
  .exact absurd hm nA
  .exact absurd hm nA
  .simp at gD
 .rw[zvK];show(aO _ _).run _ (w.drew)=wP _ ((w.alloc (.cells #[.int .i64 c] 3)).drew);unfold aO;go_simp
 .rw[zFW];exact za2 rfl (nY hT zyc) (nY hT zvK) fF
 .have hs:=aX;have hf:=nQ;show(aO _ _).run _ (w3)=wP _ (w3.setCell ⟨hb,8,none⟩ (.slice (some ⟨g1,0,none⟩) n1 c1));unfold aO;go_simp
def bodyHG:Go.Code:=(Tryz.f102.body).getD .skip
def rHG1:Go.Code:=match bodyHG with| .seq _ (.seq (.seq (a) _) _)=>a|_=>.skip
def Jl:Array Oper:=match rHG1 with| .region _ ops _=>ops|_=>#[]
def zsy:Jl.toList=[aV Jl 0 (some 7) (.move (.tmp 0)),aV Jl 1 (some 8) (.nilCheck (.tmp 7)),aV Jl 2 (some 9) (.fieldAddr 72 (.tmp 8) 3),aV Jl 3 (some 10) (.load 67 (.tmp 9)),aV Jl 4 (some 11) (.load 3 (.tmp 3)),aV Jl 5 (some 12) (.lookup 67 (.tmp 10) (.tmp 11) false),aV Jl 6 (some 13) (.binOp .eql 84 (.tmp 12) (.const (.chan none)) 84)]:=rfl
def WHG1 (w:aE)(hb gx mO:Nat)(c:Int)(q:Option Nat):Nat->aE
 |_=>w.drew
theorem zme:Jl.toList.map (·.dst)=[some 7,some 8,some 9,some 10,some 11,some 12,some 13]:=by rw[zsy];rfl
def lHG1 (w:aE)(hb gx mO:Nat)(c:Int)(q:Option Nat):List Value:=[.pointer (some ⟨hb,0,none⟩),.pointer (some ⟨hb,0,none⟩),.pointer (some ⟨hb,5,none⟩),.map (some mO),.int .i64 (c),.chan q,.bool (q==none)]
def fHG1 (w:aE)(hb gx mO:Nat)(c:Int)(q:Option Nat)(i:Nat):Value:=(lHG1 w hb gx mO c q).getD i aA
theorem zq2 (w:aE)(hb gx mO:Nat)(c:Int)(q:Option Nat)(hz:t0.size=59)(uH:t0.getD 0 aA=.pointer (some ⟨hb,0,none⟩))(zlX:t0.getD 3 aA=.pointer (some ⟨gx,0,none⟩))(h5:w.cell? ⟨hb,5,none⟩=some (.map (some mO)))(hx:w.cell? ⟨gx,0,none⟩=some (.int .i64 c))(wR:(Ah 67 (.map (some mO)) (.int .i64 c) false).run aK w.drew=.ok (.chan q) w.drew)(h0:WHG1 w hb gx mO c q 0=w.drew)(hk:Q .normal ⟨dF Jl (fHG1 w hb gx mO c q) t0,d⟩ (w.drew)):
 (Ff 1 Jl true).wp aK Q ⟨t0,d⟩ w:=by
 refine Ji (ws:=[]) (Wd:=WHG1 w hb gx mO c q) (vals:=fHG1 w hb gx mO c q) vN.mixed aT aH aT h0 Je (λV hU hV=>?_) hk;obtain⟨e7,e8,e9,zhl,zlV,zfJ,zkg,-⟩:=Ik zme hU;have e0:=(hV 0 aT).trans uH;have e3:=(hV 3 aT).trans zlX;have zDC:=h5;have l9:=hx;refine λTf hT=>Jh zsy ⟨bR.pv,bR.pv,bR.pv,bR.ld,bR.ld,bR.ld (hx:=zmp rfl (nY hT zhl) (nY hT zlV) wR),bR.any (λkk gD hm=>?_),trivial⟩
 .exact zAD rfl Rt (nY hT zfJ) rfl
end Go.Proofs.YtfcjiloojkjaeaaGreatDoor
namespace Go.Proofs.YtfcjiloojkjaeaaGreatDoor
open Go.RowKit
def Cs (v v':fC):Prop:=v'.sL=v.sL/\v'.sQ=v.sQ/\v'.sW=v.sW/\v'.sB=v.sB/\v'.sA=v.sA/\v'.sT=v.sT
def Cs.rf (v:fC):Cs v v:=⟨rfl,rfl,rfl,rfl,rfl,rfl⟩
def zvt:aK.underlying 70=some (.map 3 3):=aT
def Te:aK.underlying 67=some (.map 3 84):=aT
def zuI:aK.underlying 66=some (.map 84 3):=aT
variable {w:aE}{lo hb i:Nat}{v:fC}{d:nV}{x:bO}
theorem zmv (h:bE w lo hb v d)(hx:d.r.recs[i]? =some x):∃g c,v.sR=.slice (some ⟨g,0,none⟩) d.r.recs.length c:=by
 have hi:=(lR.1 hx).1;rcases h.R.2 with⟨_,h0⟩|⟨g,cap,cur,e,_⟩
 .omega
 simp_all
variable {c:Int}{g cR:Nat}
theorem zes (h:bE w lo hb v d)(hR:v.sR=.slice (some ⟨g,0,none⟩) d.r.recs.length cR)(hx:d.r.recs[i]? =some x)(hc:lB c v.pM=some (.int .i64 (i:Int))):
 iR aK 115 #[.pointer (some ⟨hb,0,none⟩),.int .i64 c] w λe w'=>e=.returned (.pointer (some ⟨g,i*7,none⟩))/\w'=w.drew:=by
 have hi:=(lR.1 hx).1;have k0:=aI h.blk 9;have k1:w.cell? ⟨hb,9,none⟩=some (.slice (some ⟨g,0,none⟩) d.r.recs.length cR):=by rw[k0,<-hR];rfl
 have k2:=aI h.blk 10;have hl:(Ah 70 (.map (some v.mM)) (.int .i64 c) false).run aK w.drew=.ok (.int .i64 (i:Int)) w.drew:=by
  have:=za1 zvt Kf (znb w.drew) (h.drew.M) (c:=c) false;rw[hc] at this;exact this
 have HL:=aD hl
 go_enter Tryz.func115,Tryz.ntmps115
 go_wp2_with fail
 refine wp_RF1 w hb g d.r.recs.length cR v.mM i c rfl rfl rfl k1 k2 HL.o hi rfl ?_;rw[Go.Mt.Ax,zr6];simp only[Go.Mt.xR,dV,dU,fRF1,lRF1,Dz,Dp]
 go_wp2_with fail
 go_ret;exact⟨rfl,rfl⟩
theorem zAM (rs:List bO)(x:bO):recs (rs++[x])=recs rs++x.cells:=by simp[recs]
def zGp:(aK.info? 50).map (λi=>(i.zero,i.size,i.bytes))=some (some (.agg #[.int .i64 0,.int .i64 0,.int .i64 0,.int .i64 0,.int .i64 0,.int .i64 0,.string ⟨#[]⟩]),7,64):=aT
variable {xs:List aF}
theorem M3 {lo E n m sz bytes t ty:Nat}{v:aF}{news:List aF}{z:aF}(zEl:(aK.info? E).map (λi=>(i.zero,i.size,i.bytes))=some (some z,sz,bytes))(hu:aK.underlying t=some (.slice E))(hzs:z.cells.size=sz)(cK:0<sz)
 (h:w.ownsRow lo E sz v n xs)  {cs:Array aF} (hg:w.heap[g]? =some (.cells cs E)) (iW:cs.toList=news) (hl:news.length=m*sz) (hm:0<m) (h1:∀u∈news,u.oneCell'=true) (hn:n+m<=1000000) (hb:bytes<=1000) (eB:lo<=w.heap.size):
 ∃g1 c1 w',(wQ #[t,t] ty #[v,.slice (some ⟨g,0,none⟩) m m]).run aK w=.ok (.slice (some ⟨g1,0,none⟩) (n+m) c1) w'/\w'.ownsRow lo E sz (.slice (some ⟨g1,0,none⟩) (n+m) c1) (n+m) (xs++news)/\w.grownBy w' v.ownBlock/\
  ((Sv (some ⟨g1,0,none⟩) (n+m) c1).ownBlock=v.ownBlock\/∀b,(Sv (some ⟨g1,0,none⟩) (n+m) c1).ownBlock=some b->w.heap.size<=b):=by
 obtain⟨i0,hi,fV,dM,jJ⟩:=Cg zEl;have zIv:(n+m)*bytes<=1000000*1000:=Nat.mul_le_mul hn hb;obtain⟨v',w',hr,h2,h3,h4,h5⟩:=run_append_own_at (P:=aK) w lo t ty E i0 z sz bytes hu hi fV dM jJ hzs cK v n xs h ⟨g,0,none⟩ m m news hl (Fc (cs:=cs) hg|>λf=>by rw[<-iW];exact f) h1 X0 aC eB;obtain⟨g1,c1,rfl⟩:=ziR h2 (λe=>by simp_all)
 grind
theorem zrp (h:bE w lo hb v d)(eB:lo<=w.heap.size)(hg:d.ln[i]? =some g)(hi:i<=100)(hn:d.r.recs.length<=1000)(c:Int):
 iR aK 110 #[.pointer (some ⟨hb,0,none⟩),.int .i64 c,.int .i64 (i:Int)] w λe w'=>e=.returned (.tuple #[])/\∃v',bE w' lo hb v' {d with r:={d.r with recs:=d.r.recs++[⟨c,(i:Int)+1,0,d.r.clk,-1,-1,dY⟩]}}/\bP hb v w v' w'/\
  v'.pC=uS g (.int .i64 c) v.pC/\v'.pO=qT c (.chan (some g)) v.pO/\v'.pM=qT c (.int .i64 (d.r.recs.length:Int)) v.pM/\Cs v v':=by
 obtain⟨A,cL,hA,hs⟩:=Hn h.L aH;have Hw:=(lR.1 hg).1;obtain⟨b,off,g',rfl,yD,hv⟩:=zgI hs Hw;rw[hg] at yD;obtain rfl:=cJ yD;have Vj:=aI h.blk 3;have k3:w.cell? ⟨hb,3,none⟩=some (.slice (some ⟨b,off,none⟩) d.ln.length cL):=by rw[Vj,<-hA];rfl
 have k4:=aI h.blk 4;have i0:(0:Int)<=(i:Int):=aC;have i1:(i:Int)<(d.ln.length:Int):=aC;have HH:=aD h;have HC:=aD h.C;clear hA hs hg Vj h
 go_enter Tryz.func110,Tryz.ntmps110
 go_upto_region 1 with fail
 clear k3 hv
 go_upto_region 2 with(at_mapUpdate;refine zyp _ rfl (.tmp 17) (.tmp 18) (.tmp 19) 66 rfl 3 zuI Rt v.mC g (.int .i64 c) v.pC rfl rfl rfl HC.o ?_;intro w2 o2 eT zba;have Sg:=aD eT;have Uu:=aD zba;clear eT zba)
 have oP:=Uu.o;rw[Sg.o] at oP;obtain⟨a2,t2⟩:=HH.o.mapC oP;rw[<-Sg.o] at a2 t2;obtain⟨v2,Av⟩:=aP ({v with pC:=uS g (.int .i64 c) v.pC}:fC);rw[<-Av] at a2 t2;have e2:v2.pC=uS g (.int .i64 c) v.pC/\v2.pO=v.pO/\v2.pM=v.pM/\Cs v v2:=by rw[Av];exact⟨rfl,rfl,rfl,Cs.rf v⟩
 have zhh:=eM eB t2.size;clear Av oP Uu Sg HC k4;have k5:=aI a2.blk 5;have HO:=aD a2.O;have A2:=aD a2;have T2:=aD t2;have E2:=aD e2;clear a2 t2 e2
 go_upto_region 3 with(at_mapUpdate;refine zFd _ rfl (.tmp 23) (.tmp 24) (.tmp 25) 67 rfl 84 Te Kf v2.mO c (.chan (some g)) v2.pO rfl rfl rfl HO.o ?_;intro w3 o3 iT zo5;have S9:=aD iT;have zrv:=aD zo5;clear iT zo5)
 have zh2:=zrv.o;rw[S9.o] at zh2;obtain⟨a3,t3⟩:=A2.o.mapO zh2;rw[<-S9.o] at a3 t3;obtain⟨v3,Hc⟩:=aP ({v2 with pO:=qT c (.chan (some g)) v2.pO}:fC);rw[<-Hc] at a3 t3;have e3:v3.pC=uS g (.int .i64 c) v.pC/\v3.pO=qT c (.chan (some g)) v.pO/\v3.pM=v.pM/\Cs v v3:=by rw[Hc];exact⟨E2.o.1,by show qT _ _ v2.pO=_;rw[E2.o.2.1],E2.o.2.2⟩
 have zi2:=eM zhh t3.size;have zwt:=T2.o.trans t3;clear Hc zh2 zrv S9 HO k5 A2 T2 E2 t3;obtain⟨AR,cR,znN,_⟩:=Hn a3.R aH;have zrM:=aI a3.blk 9;have k9:w3.cell? ⟨hb,9,none⟩=some (.slice AR d.r.recs.length cR):=by rw[zrM,<-znN];rfl
 have zsr:=aI a3.blk 10;obtain⟨es,cl,Pn,qB⟩:=zqi zvt Kf a3.drew.M (c:=c) (.int .i64 (d.r.recs.length:Int));obtain⟨a4,t4⟩:=a3.drew.mapM qB;have A4:=aD a4;have T4:=aD (zwt.trans ((bP.refl (v:=v3) (w:=w3)).trans (⟨t4.size,t4.block,t4.moved⟩:bP hb v3 w3 _ _)));have MU:=aD Pn;have E3:=aD e3;clear znN zrM qB a3 a4 t4 Pn zwt e3;refine wp_CC3 w3 hb v3.mM d.r.recs.length v3.sR AR cR (.map es cl) c rfl rfl rfl zsr k9 MU.o rfl ?_;rw[Go.Mt.Ax,zxy];simp only[Go.Mt.xR,dV,dU,fCC3,lCC3,Dz,Dp];obtain⟨w4,lS⟩:=aP ({w3.drew with heap:=w3.drew.heap.setIfInBounds v3.mM (.map es cl)}:aE);rw[<-lS] at A4 T4⊢;have zIY:=eM eB T4.o.size;clear lS MU k9 zsr;obtain⟨v4,Hk⟩:=aP ({v3 with pM:=qT c (.int .i64 (d.r.recs.length:Int)) v3.pM}:fC);rw[<-Hk] at A4 T4;have E4:=aD (show v4.pC=uS g (.int .i64 c) v.pC/\v4.pO=qT c (.chan (some g)) v.pO/\v4.pM=qT c (.int .i64 (d.r.recs.length:Int)) v.pM/\Cs v v4 by rw[Hk];exact⟨E3.o.1,E3.o.2.1,by show qT _ _ v3.pM=_;rw[E3.o.2.2.1],E3.o.2.2.2⟩);clear Hk E3;obtain⟨OB,zaE⟩:=aP (.cells #[.int .i64 c,.int .i64 ((i:Int)+1),.int .i64 0,.int .i64 d.r.clk,.int .i64 (-1),.int .i64 (-1),.string dY] 50:Obj);have a5:=(A4.o.alloc OB).drew;obtain⟨g1,c1,w5,fF,cZ,mQ,eU⟩:=M3 (t:=45) (ty:=45) zGp Tryz.underlying45 rfl aH a5.R (g:=w4.heap.size) (cs:=#[.int .i64 c,.int .i64 ((i:Int)+1),.int .i64 0,.int .i64 d.r.clk,.int .i64 (-1),.int .i64 (-1),.string dY]) (news:=bO.cells ⟨c,(i:Int)+1,0,d.r.clk,-1,-1,dY⟩) (by rw[zaE];exact gU _ _) rfl (m:=1) rfl aH zjI aC aH pR;obtain⟨a6,t6⟩:=a5.putR mQ (n:=d.r.recs.length+1) (xs:=d.r.recs++[⟨c,(i:Int)+1,0,d.r.clk,-1,-1,dY⟩]) (by rw[zAM];exact cZ) aQ eU;have A6:=aD a6;have T6:=aD (T4.o.trans ((bP.below (eD (fN _ _) OB)).trans (⟨t6.size,t6.block,t6.moved⟩:bP hb v4 (w4.alloc OB) _ _)));have k9:=aI A4.o.blk 9;have Gh:=aI A4.o.blk 11;have yN:=(a5.other (j:=7) (c:=9) (x:=v4.sR) rfl aH mQ (.slice (some ⟨g1,0,none⟩) (d.r.recs.length+1) c1)).2.trans a5.blk;have zpM:=aI yN 9;have kf:=eO yN 9;have AP:=aD fF;clear cZ mQ eU a6 t6 a5 yN fF;rw[zaE] at AP
 go_wp2_with fail
 refine wp_CC4 w4 w5 hb g1 (d.r.recs.length+1) c1 v4.sR c (i:Int) d.r.clk rfl rfl rfl rfl k9 Gh aC AP.o zpM kf rfl ?_;rw[Go.Mt.Ax,zwG];simp only[Go.Mt.xR,dV,dU,fCC4,lCC4,Dz,Dp];clear k9 Gh AP zpM kf;exact bodyPost_end (v:=.tuple #[]) (by simp[results,go_sem]<;>rfl) rfl ⟨rfl,_,A6.o,T6.o,E4.o⟩
variable {j:Nat}
theorem bE.recAt (h:bE w lo hb v d)(hR:v.sR=.slice (some ⟨g,0,none⟩) d.r.recs.length cR)(hx:d.r.recs[i]? =some x){u:aF}(hj:j<7)(hu:x.cells[j]? =some u):
 w.cell? ⟨g,i*7+j,none⟩=some u/\w.frozen? ⟨g,i*7+j,none⟩=false:=by
 have hr:=h.R;rw[hR] at hr;refine⟨?_,hr.frozenAt _⟩;have hi:=(lR.1 hx).1;obtain⟨b,off,e,h1,h2,h3,h4⟩:=(As hr aH).cells hi;injection e with e;injection e with e1 e2;subst e1 e2;have:=h4 j u (by
  have g:(recs d.r.recs)[i*7+j]? =(d.r.recs[i]?).bind λx=>x.cells[j]? :=Ns bO.cells (s:=7) (λ_=>rfl) d.r.recs i j hj;rw[g,hx];exact hu)
 simpa using this
theorem zm6 (h:bE w lo hb v d){e:ByteArray}{gR:Nat}(hx:d.r.recs[i]? =some x)(hO:lB c v.pO=some (.chan (some g)))(hC:(pB g v.pC).isSome=true)(hM:lB c v.pM=some (.int .i64 (i:Int)))
 (hR:v.sR=.slice (some ⟨gR,0,none⟩) d.r.recs.length cR):
 iR aK 116 #[.pointer (some ⟨hb,0,none⟩),.int .i64 c,.string e] w λen w'=>en=.returned (.tuple #[])/\∃v',bE w' lo hb v' {d with r:={d.r with recs:=d.r.recs.modify i λz=>{z with t:=d.r.clk,e:=e}}}/\bP hb v w v' w'/\
  v'.pC=y6 g v.pC/\v'.pO=yK c v.pO/\v'.pM=v.pM/\v'.sR=v.sR/\Cs v v':=by
 have k4:w.cell? ⟨hb,4,none⟩=some (.map (some v.mC)):=aI h.blk 4;have k5:w.cell? ⟨hb,5,none⟩=some (.map (some v.mO)):=aI h.blk 5;have wR:(Ah 67 (.map (some v.mO)) (.int .i64 c) false).run aK w.drew=.ok (.chan (some g)) w.drew:=by
  have:=za1 Te Kf (zbH w.drew) (h.drew.O) (c:=c) false;rw[hO] at this;exact this
 obtain⟨o1,uJ,qB⟩:=zBo (kt:=84) zuI Rt h.drew.C hC;obtain⟨a1,t1⟩:=h.drew.mapC qB;have A1:=aD a1;have T1:=aD (⟨t1.size,t1.block,t1.moved⟩:bP hb v w _ _);have HX:=aD hx;have HM:=aD hM;have HR:=aD hR;have HO:=aD hO;have DL:=aD uJ;have LK:=aD wR;clear uJ wR qB a1 t1 hx hM hR hO h hC
 go_enter Tryz.func116,Tryz.ntmps116
 go_wp2_with fail
 refine wp_CL0 w hb v.mC v.mO g o1 c rfl rfl rfl k4 k5 LK.o DL.o rfl ?_;rw[Go.Mt.Ax,zrm];simp only[Go.Mt.xR,dV,dU,fCL0,lCL0,Dz,Dp];obtain⟨w1,eG⟩:=aP ({w.drew with heap:=w.drew.heap.setIfInBounds v.mC o1}:aE);obtain⟨v1,pD⟩:=aP ({v with pC:=y6 g v.pC}:fC);rw[<-eG,<-pD] at A1 T1;rw[<-eG];have E1:=aD (show v1.pC=y6 g v.pC/\v1.pO=v.pO/\v1.pM=v.pM/\v1.sR=v.sR/\Cs v v1 by rw[pD];exact⟨rfl,rfl,rfl,rfl,Cs.rf v⟩);clear eG pD k4 k5 DL LK;have k5:w1.cell? ⟨hb,5,none⟩=some (.map (some v1.mO)):=aI A1.o.blk 5;have Vi:=aD A1.o.O;have zv6:=aD (show(lB c v1.pO).isSome=true by rw[E1.o.2.1,HO.o];rfl)
 go_upto_region 2 with(refine zza _ rfl (.tmp 20) (.tmp 21) 67 3 rfl 84 Te Kf v1.mO c v1.pO rfl rfl Vi.o zv6.o ?_;intro w2 o2 eT zba;have Sg:=aD eT;have Uu:=aD zba;clear eT zba)
 have oP:=Uu.o;rw[Sg.o] at oP;obtain⟨a2,t2⟩:=A1.o.mapO oP;rw[<-Sg.o] at a2 t2;obtain⟨v2,Av⟩:=aP ({v1 with pO:=yK c v1.pO}:fC);rw[<-Av] at a2 t2;have A2:=aD a2;have T2:=aD (T1.o.trans t2);have E2:=aD (show v2.pC=y6 g v.pC/\v2.pO=yK c v.pO/\v2.pM=v.pM/\v2.sR=v.sR/\Cs v v2 by rw[Av];exact⟨E1.o.1,by show yK c v1.pO=_;rw[E1.o.2.1],E1.o.2.2⟩);clear Av oP Uu Sg Vi zv6 a2 t2 k5 A1 T1 E1;have jR:=aD (E2.o.2.2.2.1.trans HR.o);have zG9:=aD (show lB c v2.pM=some (.int .i64 (i:Int)) by rw[E2.o.2.2.1];exact HM.o)
 go_upto_region 3 with(go_at_call 115;refine(zes A2.o jR.o HX.o zG9.o).mono ?_;rintro en w3 ⟨rfl,iT⟩;have S9:=aD iT;clear iT)
 have A3:=aD (show bE w3 lo hb v2 d by rw[S9.o];exact A2.o.drew);have T3:=aD (show bP hb v w v2 w3 by rw[S9.o];exact T2.o.same rfl);clear S9 A2 T2;have Gh:w3.cell? ⟨hb,11,none⟩=some (.int .i64 d.r.clk):=aI A3.o.blk 11;obtain⟨c5,f5⟩:=A3.o.recAt jR.o HX.o (j:=5) (u:=.int .i64 x.t) aH rfl;obtain⟨a4,t4⟩:=A3.o.setR (λz=>{z with t:=d.r.clk}) jR.o HX.o (j:=5) (u:=.int .i64 d.r.clk) aH zqy rfl;have A4:=aD a4;have T4:=aD (T3.o.trans t4);clear a4 t4
 go_upto_region 4 with fail
 obtain⟨w4,lS⟩:=aP (w3.setCell ⟨gR,i*7+5,none⟩ (.int .i64 d.r.clk));rw[<-lS] at A4 T4⊢;clear lS c5 f5 Gh;have zae:=aD (show(d.r.recs.modify i λz=>{z with t:=d.r.clk})[i]? =some {x with t:=d.r.clk} from zdM HX.o);have zoj:=aD (show v2.sR=.slice (some ⟨gR,0,none⟩) (d.r.recs.modify i λz=>{z with t:=d.r.clk}).length cR by rw[Np];exact jR.o);obtain⟨c6,f6⟩:=A4.o.recAt zoj.o zae.o (j:=6) (u:=.string x.e) aH rfl;obtain⟨a5,t5⟩:=A4.o.setR (λz=>{z with e:=e}) zoj.o zae.o (j:=6) (u:=.string e) aH zoM rfl;simp only[zhz] at a5;have A5:=aD a5;have T5:=aD (T4.o.trans t5);clear a5 t5
 go_wp2_with fail
 exact bodyPost_end (v:=.tuple #[]) (results_none rfl _ _ _) rfl ⟨rfl,_,A5.o,T5.o,E2.o.1,E2.o.2.1,E2.o.2.2.1,E2.o.2.2.2.1,E2.o.2.2.2.2⟩
section
variable {P:bT}{w w':aE}
variable {elem t:aM}{i:TypeInfo}{cur:Array aF}
theorem zg1 {dT sT ty:aM}{g o zlW zBs:Nat}{a:bD}{zc0 zGX:Nat}{cs:List aF}(hu:P.underlying dT=some (.slice elem))(hi:P.info? elem=some i)
 (hg:w.heap[g]? =some (.cells cur t (0,0))) (hn:cs.length=Nat.min zc0 zlW*i.size) (Rn:∀j v,cs[j]? =some v->w.cell? (a.add j)=some v) (Jc:o+cs.length<=cur.size) (h1:∀v∈cs,v.oneCell'=true):
 (Dh #[dT,sT] ty #[.slice (some ⟨g,o,none⟩) zlW zBs,.slice (some a) zc0 zGX]).run P w=.ok (goInt (Nat.min zc0 zlW)) (w.setRow g (cur.toList.take o++cs++cur.toList.drop (o+cs.length)).toArray):=by
 have hl:=run_loadCells_list (P:=P) w a cs Rn;have aX:=ztf P g o t cs 0 cur w hg (by simpa using Jc) h1;simp[Dh,xJ hu,Builtin.lenOf,Builtin.firstCells,sizeOf,typeInfo,hi,<-hn,hl,aX]
theorem zjY {dT ty:aM}{z:aF}{g o n c:Nat}(hu:P.underlying dT=some (.slice elem))(hi:P.info? elem=some i)(hz:i.zero=some z)
 (hg:w.heap[g]? =some (.cells cur t (0,0))) (hn:n≠0) (Jc:o+(pU z.cells n).size<=cur.size) (h1:∀v∈(pU z.cells n).toList,v.oneCell'=true):
 (Qn #[dT] ty #[.slice (some ⟨g,o,none⟩) n c]).run P w=.ok (.tuple #[]) (w.setRow g (cur.toList.take o++(pU z.cells n).toList++cur.toList.drop (o+(pU z.cells n).size)).toArray):=by
 have aX:=ztf P g o t (pU z.cells n).toList 0 cur w hg (by simpa using Jc) h1;simp only[S7,Em] at aX
 cases n with
 |zero=>exact absurd rfl hn
 |succ n=>simp[Qn,xJ hu,zeroValue,typeInfo,hi,hz,aX]
variable {o:aZ}{a:Act}{ops:Array aZ}
theorem zeM {K:Act->aE->Prop}{Q:n6->Act->aE->Prop}{EE:Prop}(Eu:o.guard=none)(s x:cI)(t tn:aM)(ho:o.op=.call {callee:=.builtin .append,args:=#[s,x],argTypes:=#[t,tn]})(vs vx v':aF)(hs:a.eval s=vs)(hx:a.eval x=vx)
 (hr:∀ty,(wQ #[t,tn] ty #[vs,vx]).run P w=.ok v' w') (h:K (a.put o.dst v') w'):if dG o (yielded ops a.tmps)=true then Cy P o a w K Q else EE:=by
 rw[if_pos (by simp[dG,Eu])];unfold Cy aO;simp only[ho,resolve,invoke,builtin,E0,Jd,F9,uR,jG,tK,hs,hx,hr];exact h
theorem zbL {rest:List aZ}{Q:n6->Act->aE->Prop}(Eu:o.guard=none)(s:cI)(t:aM)(ho:o.op=.call {callee:=.builtin .clear,args:=#[s],argTypes:=#[t]})(vs:aF)(hs:a.eval s=vs)
 (hr:∀ty,(Qn #[t] ty #[vs]).run P w=.ok (.tuple #[]) w') (h:wpList P ops Q rest (a.put o.dst (.tuple #[])) w'):wpList P ops Q (o::rest) a w:=by
 refine Rj Eu λK hK=>?_;unfold Cy aO;simp only[ho,resolve,invoke,builtin,E0,Jd,F9,uR,jG,tK,hs,hr];exact hK _ _ h
end
def zcX:(aK.info? 3).map (λi=>(i.zero,i.size,i.bytes))=some (some (.int .i64 0),1,8):=aT
def zdl:(aK.info? 149).map (λi=>(i.zero,i.size,i.bytes))=some (some (.agg #[.int .i64 0,.int .i64 0]),2,16):=aT
theorem zaT (cs:Array aF):w.grownBy (w.setRow g cs) (some g):=⟨rfl,rfl,rfl,aQ,λk _ hk=>setRow_other w g k _ (λe=>hk (by rw[e]))⟩
variable {w':aE}{r:Option Nat}
def Tg {Ft:aE}(h:w.grownBy w' r)(k:w'.grownBy Ft r):w.grownBy Ft r:=⟨k.os.trans h.os,k.tape.trans h.tape,k.output.trans h.output,eM h.size k.size,λb hb hn=>(k.block b (jW hb h.size) hn).trans (h.block b hb hn)⟩
def ztU :w.grownBy w.drew r:=⟨rfl,rfl,rfl,bN _,λ_ _ _=>rfl⟩
variable {c n:Nat}
theorem zvQ (h:w.ownsRow lo 3 1 (.slice (some ⟨g,0,none⟩) n c) n xs)(Jt:∀u∈xs,u.oneCell'=true)(aU:i<j)(hj:j<=n):
 iR aK 114 #[.slice (some ⟨g,0,none⟩) n c,.int .i64 (i:Int),.int .i64 (j:Int)] w λe w'=>e=.returned (.slice (some ⟨g,0,none⟩) (n-(j-i)) c)/\w'.ownsRow lo 3 1 (.slice (some ⟨g,0,none⟩) (n-(j-i)) c) (n-(j-i)) (xs.take i++xs.drop j)/\w.grownBy w' (some g):=by
 obtain⟨hlen,h|⟨g',cap,cur,hv,eB,hg,Zr,qB,iW,lQ⟩⟩:=h
 .exact absurd h.1 aQ
 injection hv with e1 e2 e3;injection e1 with e1;injection e1 with e1;subst e1 e3;clear e2;obtain⟨i0,fH,fV,dM,jJ⟩:=Cg zcX;have lE:cur.toList.length=c*1:=by simpa using iW
 have uJ:(xs.drop (j*1)).length=(n-j)*1:=by rw[xY,hlen];omega
 obtain⟨A,hA,Rn⟩:∃A:bD,(if c=j then(some (⟨g,0,none⟩:bD)) else some ⟨g,j*1,none⟩)=some A/\(∀t u,(xs.drop (j*1))[t]? =some u->w.drew.cell? (A.add t)=some u):=by
  have cell:∀k u,xs[k]? =some u->w.drew.cell? ⟨g,k,none⟩=some u:=λk u hk=>by
   have:w.cell? ⟨g,k,none⟩=cur[k]? :=aI hg k;have qU:cur.toList[k]? =some u:=by
    rw[<-lQ,U3] at hk;split at hk
    .exact hk
    .cases hk
   rw[Cf] at qU;exact this.trans qU
  by_cases hc:c=j
  .refine⟨⟨g,0,none⟩,by simp[hc],λt u hu=>?_⟩
   have h0:(xs.drop (j*1)).length=0:=by rw[uJ];omega
   rw[zp6.1 h0] at hu;simp at hu
  .refine⟨⟨g,j*1,none⟩,by simp[hc],λt u hu=>?_⟩
   rw[Xm] at hu;rw[Kv];exact cell _ u hu
 have Mg:=λty=>zvc (P:=aK) w.drew 38 ty 3 i0 Vs fH g i c cur hg A (n-j) (c-j) (xs.drop (j*1)) (by rw[dM];exact uJ) Rn (λu hu=>Jt u (zcO hu)) aC (by rw[dM,uJ,iW];omega);obtain⟨yM,uO⟩:=aP ((cur.toList.take (i*i0.size)++xs.drop (j*1)++cur.toList.drop (i*i0.size+(xs.drop (j*1)).length)).toArray);rw[<-uO] at Mg;obtain⟨W1,cO⟩:=aP (w.drew.setRow g yM);rw[<-cO] at Mg;have qO:W1.heap[g]? =some (.cells yM 3 (0,0)):=by rw[cO];exact Lf w.drew g cur yM 3 (0,0) hg
 have x3:yM.size=c*1:=by
  rw[uO];simp only[Fg,jP,sU,xY,lE,uJ,hlen,dM];have:(i+(n-j))*1<=c*1:=H9 _ aC;omega
 have hzs:(pU (.int .i64 0:aF).cells (n-(i+(n-j)))).size=(n-(i+(n-j)))*1:=Zp _ _;have Qg:=λty=>zjY (P:=aK) (w:=W1) (dT:=38) (ty:=ty) (c:=c-(i+(n-j))) (n:=n-(i+(n-j))) (o:=(i+(n-j))*1) Vs fH fV qO aC (by rw[hzs,x3];omega) (λu hu=>by
  obtain⟨k,hk,rfl⟩:=Kq.1 hu;simp only[pU,U8,ziA,zix,zj0];simp[Nat.mod_one];rfl)
 obtain⟨zM,oP⟩:=aP ((yM.toList.take ((i+(n-j))*1)++(pU (.int .i64 0:aF).cells (n-(i+(n-j)))).toList++yM.toList.drop ((i+(n-j))*1+(pU (.int .i64 0:aF).cells (n-(i+(n-j)))).size)).toArray);rw[<-oP] at Qg
 try simp only[zur] at Mg Qg
 have H1:=aD Mg;have H2:=aD Qg;have HG:=aD (show w.grownBy (W1.setRow g zM) (some g) from Tg (Tg ztU (cO▸zaT yM)) (zaT zM));have HO:=aD (show(W1.setRow g zM).ownsRow lo 3 1 (.slice (some ⟨g,0,none⟩) (n-(j-i)) c) (n-(j-i)) (xs.take (i*1)++xs.drop (j*1)) by
  have Da:n-(j-i)=i+(n-j):=aC;have Ar:zM.size=c*1:=by
   rw[oP];simp only[Fg,jP,sU,xY,Em,x3,hzs];have:(i+(n-j))*1+(n-(i+(n-j)))*1=n*1:=by rw[<-Yw];congr 1;omega
   have:n*1<=c*1:=H9 _ Zr;omega
  refine⟨by rw[jP,sU,uJ,hlen];have:=Yw i (n-j) 1;have:i*1<=n*1:=H9 _ aC;rw[Da];omega,.inr ⟨g,c,zM,rfl,eB,Lf W1 g yM zM 3 (0,0) qO,aC,qB,Ar,?_⟩⟩;have e1:cur.toList.take (i*1)=xs.take (i*1):=by
   rw[<-lQ,P7];congr 1;have:i*1<=n*1:=H9 _ aC;omega
  have l1:(xs.take (i*1)).length=i*1:=by
   rw[sU,hlen];have:i*1<=n*1:=H9 _ aC;omega
  rw[oP,show∀l:List aF,l.toArray.toList=l from λ_=>rfl,Da];have l2:(yM.toList.take ((i+(n-j))*1)).length=(i+(n-j))*1:=by
   rw[sU,Em,x3];have:(i+(n-j))*1<=c*1:=H9 _ aC;omega
  rw[J0,E5 (by rw[l2];exact bN _),P7,zkZ,uO,show∀l:List aF,l.toArray.toList=l from λ_=>rfl,dM,e1];rw[E5 zuR];exact Ee zuR)
 replace HO:=aD (by have:=HO.o;simpa only[zur] using this);have zG:i<=c:=aC;have Mn:j<=c:=aC;have aS:¬((i:Int)=(j:Int)):=aC;clear Mg Qg uO oP qO x3 hzs cO lQ iW qB hg eB hlen uJ lE Jt Rn;by_cases zg5:c=j
 .subst zg5
  have pY:n-c=0:=aC;have Ej:=H1.o;have O8:=H2.o;simp only[pY,S7] at Ej O8;replace H1:=aD Ej;replace H2:=aD O8;clear Ej O8
  go_enter zup,zpO
  go_wp2_with fail
  go_region_law (refine zeM rfl (.tmp 22) (.tmp 25) 38 38 rfl _ _ _ zeY zfX H1.o ?_)
  go_wp2_with (refine zbL rfl (.tmp 31) 38 rfl _ rfl H2.o ?_)
  all_goals
   go_ret;exact⟨by rw[show n-(c-i)=i by omega];rfl,HO.o,HG.o⟩
 .skip
  go_enter zup,zpO
  go_wp2_with fail
  go_region_law (refine zeM rfl (.tmp 22) (.tmp 25) 38 38 rfl _ _ _ zeY zfX H1.o ?_)
  go_wp2_with (refine zbL rfl (.tmp 31) 38 rfl _ rfl H2.o ?_)
  all_goals
   go_ret;exact⟨by rw[show n-(j-i)=i+(n-j) by omega];rfl,HO.o,HG.o⟩
theorem zyu (h:w.ownsRow lo 149 2 (.slice (some ⟨g,0,none⟩) n c) n xs)(Jt:∀u∈xs,u.oneCell'=true)(aU:i<j)(hj:j<=n):
 iR aK 119 #[.slice (some ⟨g,0,none⟩) n c,.int .i64 (i:Int),.int .i64 (j:Int)] w λe w'=>e=.returned (.slice (some ⟨g,0,none⟩) (n-(j-i)) c)/\w'.ownsRow lo 149 2 (.slice (some ⟨g,0,none⟩) (n-(j-i)) c) (n-(j-i)) (xs.take (i*2)++xs.drop (j*2))/\w.grownBy w' (some g):=by
 obtain⟨hlen,h|⟨g',cap,cur,hv,eB,hg,Zr,qB,iW,lQ⟩⟩:=h
 .exact absurd h.1 aQ
 injection hv with e1 e2 e3;injection e1 with e1;injection e1 with e1;subst e1 e3;clear e2;obtain⟨i0,fH,fV,dM,jJ⟩:=Cg zdl;have lE:cur.toList.length=c*2:=by simpa using iW
 have uJ:(xs.drop (j*2)).length=(n-j)*2:=by rw[xY,hlen];omega
 obtain⟨A,hA,Rn⟩:∃A:bD,(if c=j then(some (⟨g,0,none⟩:bD)) else some ⟨g,j*2,none⟩)=some A/\(∀t u,(xs.drop (j*2))[t]? =some u->w.drew.cell? (A.add t)=some u):=by
  have cell:∀k u,xs[k]? =some u->w.drew.cell? ⟨g,k,none⟩=some u:=λk u hk=>by
   have:w.cell? ⟨g,k,none⟩=cur[k]? :=aI hg k;have qU:cur.toList[k]? =some u:=by
    rw[<-lQ,U3] at hk;split at hk
    .exact hk
    .cases hk
   rw[Cf] at qU;exact this.trans qU
  by_cases hc:c=j
  .refine⟨⟨g,0,none⟩,by simp[hc],λt u hu=>?_⟩
   have h0:(xs.drop (j*2)).length=0:=by rw[uJ];omega
   rw[zp6.1 h0] at hu;simp at hu
  .refine⟨⟨g,j*2,none⟩,by simp[hc],λt u hu=>?_⟩
   rw[Xm] at hu;rw[Kv];exact cell _ u hu
 have Mg:=λty=>zvc (P:=aK) w.drew 69 ty 149 i0 zkT fH g i c cur hg A (n-j) (c-j) (xs.drop (j*2)) (by rw[dM];exact uJ) Rn (λu hu=>Jt u (zcO hu)) aC (by rw[dM,uJ,iW];omega);obtain⟨yM,uO⟩:=aP ((cur.toList.take (i*i0.size)++xs.drop (j*2)++cur.toList.drop (i*i0.size+(xs.drop (j*2)).length)).toArray);rw[<-uO] at Mg;obtain⟨W1,cO⟩:=aP (w.drew.setRow g yM);rw[<-cO] at Mg;have qO:W1.heap[g]? =some (.cells yM 149 (0,0)):=by rw[cO];exact Lf w.drew g cur yM 149 (0,0) hg
 have x3:yM.size=c*2:=by
  rw[uO];simp only[Fg,jP,sU,xY,lE,uJ,hlen,dM];have:(i+(n-j))*2<=c*2:=H9 _ aC;omega
 have hzs:(pU (.agg #[.int .i64 0,.int .i64 0]:aF).cells (n-(i+(n-j)))).size=(n-(i+(n-j)))*2:=Zp _ _;have Qg:=λty=>zjY (P:=aK) (w:=W1) (dT:=69) (ty:=ty) (c:=c-(i+(n-j))) (n:=n-(i+(n-j))) (o:=(i+(n-j))*2) zkT fH fV qO aC (by rw[hzs,x3];omega) (λu hu=>by
  obtain⟨k,hk,rfl⟩:=Kq.1 hu;simp only[pU,U8,ziA,zix,zj0];rcases zoI k with hk|hk<;>simp[hk]<;>rfl)
 obtain⟨zM,oP⟩:=aP ((yM.toList.take ((i+(n-j))*2)++(pU (.agg #[.int .i64 0,.int .i64 0]:aF).cells (n-(i+(n-j)))).toList++yM.toList.drop ((i+(n-j))*2+(pU (.agg #[.int .i64 0,.int .i64 0]:aF).cells (n-(i+(n-j)))).size)).toArray);rw[<-oP] at Qg;have H1:=aD Mg;have H2:=aD Qg;have HG:=aD (show w.grownBy (W1.setRow g zM) (some g) from Tg (Tg ztU (cO▸zaT yM)) (zaT zM));have HO:=aD (show(W1.setRow g zM).ownsRow lo 149 2 (.slice (some ⟨g,0,none⟩) (n-(j-i)) c) (n-(j-i)) (xs.take (i*2)++xs.drop (j*2)) by
  have Da:n-(j-i)=i+(n-j):=aC;have Ar:zM.size=c*2:=by
   rw[oP];simp only[Fg,jP,sU,xY,Em,x3,hzs];have:(i+(n-j))*2+(n-(i+(n-j)))*2=n*2:=by rw[<-Yw];congr 1;omega
   have:n*2<=c*2:=H9 _ Zr;omega
  refine⟨by rw[jP,sU,uJ,hlen];have:=Yw i (n-j) 2;have:i*2<=n*2:=H9 _ aC;rw[Da];omega,.inr ⟨g,c,zM,rfl,eB,Lf W1 g yM zM 149 (0,0) qO,aC,qB,Ar,?_⟩⟩;have e1:cur.toList.take (i*2)=xs.take (i*2):=by
   rw[<-lQ,P7];congr 1;have:i*2<=n*2:=H9 _ aC;omega
  have l1:(xs.take (i*2)).length=i*2:=by
   rw[sU,hlen];have:i*2<=n*2:=H9 _ aC;omega
  rw[oP,show∀l:List aF,l.toArray.toList=l from λ_=>rfl,Da];have l2:(yM.toList.take ((i+(n-j))*2)).length=(i+(n-j))*2:=by
   rw[sU,Em,x3];have:(i+(n-j))*2<=c*2:=H9 _ aC;omega
  rw[J0,E5 (by rw[l2];exact bN _),P7,zkZ,uO,show∀l:List aF,l.toArray.toList=l from λ_=>rfl,dM,e1];rw[E5 ztg];exact Ee ztg)
 have zG:i<=c:=aC;have Mn:j<=c:=aC;have aS:¬((i:Int)=(j:Int)):=aC;clear Mg Qg uO oP qO x3 hzs cO lQ iW qB hg eB hlen uJ lE Jt Rn;by_cases zg5:c=j
 .subst zg5
  have pY:n-c=0:=aC;have Ej:=H1.o;have O8:=H2.o;simp only[pY,S7] at Ej O8;replace H1:=aD Ej;replace H2:=aD O8;clear Ej O8
  go_enter zoi,zxR
  go_wp2_with fail
  go_region_law (refine zeM rfl (.tmp 22) (.tmp 25) 69 69 rfl _ _ _ zeY zfX H1.o ?_)
  go_wp2_with (refine zbL rfl (.tmp 31) 69 rfl _ rfl H2.o ?_)
  all_goals
   go_ret;exact⟨by rw[show n-(c-i)=i by omega];rfl,HO.o,HG.o⟩
 .skip
  go_enter zoi,zxR
  go_wp2_with fail
  go_region_law (refine zeM rfl (.tmp 22) (.tmp 25) 69 69 rfl _ _ _ zeY zfX H1.o ?_)
  go_wp2_with (refine zbL rfl (.tmp 31) 69 rfl _ rfl H2.o ?_)
  all_goals
   go_ret;exact⟨by rw[show n-(j-i)=i+(n-j) by omega];rfl,HO.o,HG.o⟩
theorem zpN (lo hi n c:Nat)(A:Option bD)(xs:List Int)(q:Int)(w:aE)(h:cM w lo hi 1 A n c (jQ xs))(hn:n<=1048576):
 iR aK 113 #[.slice A n c,.int .i64 q] w λe w'=>e=.returned (.int .i64 (Gw (xs.findIdx? (·==q))))/\w'=w:=by
 have hl:=aD h.length
 go_enter Tryz.func113,Tryz.ntmps113
 go_wp2
 go_loop [8] (λi=>∃k:Nat,k<=n/\i=.int .i64 k/\∀j,j<k->∀b,xs[j]? =some b->(b==q)=false) (λi=>n-(intOf i).toNat)
 case atStart=>grind
 case round=>
  obtain⟨k,hk,rfl,iW⟩:=hrel;have HC:=aD iW;clear iW;by_cases aU:k<n
  .obtain⟨b,off,x,hA,_,_,_,fI,hv⟩:=h.cellAt aU
   subst hA;have HX:=aD fI;clear fI h;have i0:(0:Int)<=(k:Int):=aC;have i1:(k:Int)<(n:Int):=aC;by_cases hq:q=x
   .subst hq
    go_wp2;go_ret;exact⟨Ie (by rw[zbP HX.o aQ HC.o];rfl),rfl⟩
   .have Ni:(q==x)=false:=by simpa using hq
    go_wp2
    go_round
    case rel=>exact⟨k+1,aC,oH,Qv HC.o HX.o s9⟩
    case measure=>simp[intOf];omega
  .have e:k=n:=aC
   subst e;clear h;go_wp2;go_ret;exact⟨Ie (by rw[zjM HC.o zgW];rfl),rfl⟩
theorem posI_ge (o:Option Nat):decide (0<=Gw o)=o.isSome:=by
 cases o with
 |none=>rfl
 |some i=>simp[Gw]
theorem zGY (lo hi n c:Nat)(A:Option bD)(xs:List Int)(q:Int)(w:aE)(h:cM w lo hi 1 A n c (jQ xs))(hn:n<=1048576):
 iR aK 108 #[.slice A n c,.int .i64 q] w λe w'=>e=.returned (.bool (xs.findIdx? (·==q)).isSome)/\w'=w:=by
 have HS:=aD h;clear h
 go_enter Tryz.func108,Tryz.ntmps108
 go_wp2_with (go_at_call 113;refine(zpN lo hi n c A xs q w HS.o hn).mono ?_;rintro e w' ⟨rfl,hw⟩;obtain rfl:=hw)
 go_ret;exact⟨U4 (posI_ge _),rfl⟩
theorem ze8 (x:bF)(gx:Nat)(c:Int)(w:aE)(h:w.heap[gx]? =some (.cells #[.int .i64 c] 3)):
 iR aK 118 #[.agg #[.int .i64 x.c,.int .i64 x.p],.pointer (some ⟨gx,0,none⟩)] w λe w'=>e=.returned (.bool (x.c==c))/\cD w.heap.size w w':=by
 have aU:=iB h;have k:=aD (dD h (.cells #[.int .i64 x.c,.int .i64 x.p] 149));have k0:=aI k.o 0
 go_enter Tryz.func118,Tryz.ntmps118
 go_wp2;go_ret;exact⟨rfl,(fN _ _).alloc (bN _) _⟩
variable {xs:List bF}
theorem zdB {hi:Nat}{A:Option bD}(h:cM w lo hi 2 A n c (bG xs)){k:Nat}(hk:k<n):∃b off x,A=some ⟨b,off,none⟩/\b<w.heap.size/\xs[k]? =some x/\w.cell? ⟨b,off+k*2,none⟩=some (.int .i64 x.c)/\w.cell? ⟨b,off+k*2+1,none⟩=some (.int .i64 x.p):=by
 obtain⟨b,off,x,e,_,_,h3,h4,h5,h6⟩:=h.callsAt hk;exact⟨b,off,x,e,h3,h4,h5,h6⟩
theorem zuB (lo hi n c:Nat)(A:Option bD)(xs:List bF)(gx:Nat)(q:Int)(w:aE)(h:cM w lo hi 2 A n c (bG xs))(hn:n<=1048576)(hg:w.heap[gx]? =some (.cells #[.int .i64 q] 3)):
 iR aK 124 #[.slice A n c,.func (.func 118) #[] #[.pointer (some ⟨gx,0,none⟩)]] w λe w'=>e=.returned (.int .i64 (Gw (tV xs q)))/\cD w.heap.size w w':=by
 have hl:=aD h.callsLen;have HS:=aD h;have HG:=aD hg
 go_enter Tryz.func124,Tryz.ntmps124
 go_wp2
 go_loopw [8] (λi wr=>∃k:Nat,k<=n/\i=.int .i64 k/\cD w.heap.size w wr/\∀j,j<k->∀b,xs[j]? =some b->(b.c==q)=false) (λi _=>n-(intOf i).toNat)
 case atStart=>exact⟨0,mP _,rfl,fN _ _,λj hj=>absurd hj aC⟩
 case round=>
  obtain⟨k,hk,rfl,hb,iW⟩:=hrel;have HC:=aD iW;have HB:=aD hb;by_cases aU:k<n
  .obtain⟨b,off,x,hA,lL,fI,gQ,pD⟩:=zdB (HS.o.below HB.o) aU
   have uW:=aD ((HB.o.block gx (iB HG.o)).trans HG.o);have HX:=aD fI;have HA:=aD hA;subst hA;have i0:(0:Int)<=(k:Int):=aC;have i1:(k:Int)<(n:Int):=aC;cases hq:(x.c==q)
   .go_wp2_with (go_at_call 118;refine(ze8 x gx q _ uW.o).mono ?_;rintro e w2 ⟨rfl,q9⟩;rw[hq];have jK:=aD q9)
    go_round
    case rel=>exact⟨k+1,aC,oH,zvk HB.o jK.o,Qv HC.o HX.o hq⟩
    case measure=>simp[intOf];omega
   .go_wp2_with (go_at_call 118;refine(ze8 x gx q _ uW.o).mono ?_;rintro e w2 ⟨rfl,q9⟩;rw[hq];have jK:=aD q9)
    go_ret;exact⟨Ie (by unfold tV;rw[zbP HX.o hq HC.o];rfl),zvk HB.o jK.o⟩
  .have e:k=n:=aC
   subst e;go_wp2;go_ret;exact⟨Ie zpk,HB.o⟩
variable {x:bF}
theorem zF0 (hi:i<xs.length):((bG xs).set (i*2) (.int .i64 x.c)).set (i*2+1) (.int .i64 x.p)=bG (xs.set i x):=by
 apply List.ext_getElem?;intro q;obtain⟨a,b,rfl,hb⟩:∃a b,q=a*2+b/\b<2:=⟨q/2,q%2,aC,aC⟩;have g:∀(l:List bF),(bG l)[a*2+b]? =(l[a]?).bind λx=>x.cells[b]? :=λl=>Ns bF.cells (s:=2) (λ_=>rfl) l a b hb;have hlen:(bG xs).length=xs.length*2:=J6 bF.cells (s:=2) (λ_=>rfl) xs;rw[zav,zav,zh9,g,g,zav];by_cases e:i=a
 .subst e
  have bZ:b=0\/b=1:=aC;rcases bZ with rfl|rfl
  .rw[if_neg aC,if_pos aC,if_pos aC,if_pos rfl,if_pos hi];rfl
  .rw[if_pos rfl,if_pos aC,if_pos rfl,if_pos hi];rfl
 .rw[if_neg aC,if_neg aC,if_neg e]
variable {ys:List bF}{a:Nat}
theorem arr_set {rest:List aF}(ha:a<ys.length):((bG ys++rest).toArray.setIfInBounds (a*2) (.int .i64 x.c)).setIfInBounds (a*2+1) (.int .i64 x.p)=(bG (ys.set a x)++rest).toArray:=by
 have lE:(bG ys).length=ys.length*2:=J6 bF.cells (s:=2) (λ_=>rfl) ys;rw[gC,gC,zpZ _ _ aC,zpZ _ _ (by rw[zh9];omega),zF0 ha]
theorem zBu {q:bF->Bool}{b:Nat}(hlen:ys.length=xs.length)(qK:a<=b)(h1:ys.take a=(xs.take b).filter q)(h2:ys.drop b=xs.drop b)(hx:xs[b]? =some x):
 (q x=false->ys.take a=(xs.take (b+1)).filter q/\ys.drop (b+1)=xs.drop (b+1))/\
 (q x=true->(ys.set a x).take (a+1)=(xs.take (b+1)).filter q/\(ys.set a x).drop (b+1)=xs.drop (b+1)):=by
 have hb:=(lR.1 hx).1;have ht:xs.take (b+1)=xs.take b++[x]:=by rw[Nv,hx];rfl
 have hd:ys.drop (b+1)=xs.drop (b+1):=by
  rw[<-znU,<-znU,h2]
 refine⟨λhq=>⟨by rw[ht,Ot,<-h1];simp[hq],hd⟩,λhq=>⟨?_,?_⟩⟩
 .rw[ht,Ot,<-h1,Nv]
  have e1:(ys.set a x).take a=ys.take a:=by rw[List.take_set_of_le (bN _)]
  rw[e1,List.getElem?_set_self aC];simp[hq]
 .rw[List.drop_set,if_pos aC];exact hd
theorem zBq (h:w.ownsRow lo 149 2 (.slice (some ⟨g,0,none⟩) n c) n (bG xs))(hn:n<=1048576){gx:Nat}{q:Int}(uW:w.heap[gx]? =some (.cells #[.int .i64 q] 3)):
 iR aK 117 #[.slice (some ⟨g,0,none⟩) n c,.func (.func 118) #[] #[.pointer (some ⟨gx,0,none⟩)]] w λe w'=>∃m,e=.returned (.slice (some ⟨g,0,none⟩) m c)/\m=(dE xs q).length/\w'.ownsRow lo 149 2 (.slice (some ⟨g,0,none⟩) m c) m (bG (dE xs q))/\w.grownBy w' (some g):=by
 have aS:gx≠g:=λe=>by
  subst e;obtain⟨_,h|⟨g',cap,cur,hv,eB,hg,_⟩⟩:=h
  .exact absurd h.1 aQ
  .injection hv with e1
   injection e1 with e1;injection e1 with e1;subst e1;rw[uW] at hg;injection hg with hg;injection hg with _ hg;exact absurd hg aH
 have hs:=As h aH;have zmr:=hs.callsLen;have HI:=aD (zuB lo w.heap.size n c (some ⟨g,0,none⟩) xs gx q w hs hn uW);obtain⟨hlen,h|⟨g',cap,cur,hv,eB,hg,Zr,qB,iW,lQ⟩⟩:=h
 .exact absurd h.1 aQ
 injection hv with e1 e2 e3;injection e1 with e1;injection e1 with e1;subst e1 e3;clear e2;obtain⟨rest,Qy⟩:=aP (cur.toList.drop (n*2));have Rl:cur=(bG xs++rest).toArray:=by rw[Qy,<-lQ,zuH]
 have Mv:rest.length=c*2-n*2:=by rw[Qy,xY];simp[iW]
 have X2:=aD uW;have HG:=aD (show w.heap[g]? =some (.cells (bG xs++rest).toArray 149 (0,0)) by rw[hg,Rl])
 cases hf:tV xs q with
 |none=>
  have hw:dE xs q=xs:=by
   unfold dE;rw[zfs];intro x hx;have:=zrK (by rw[hf];rfl) x hx;simpa using this
  have HO:=aD (show w.ownsRow lo 149 2 (.slice (some ⟨g,0,none⟩) n c) n (bG xs) from⟨hlen,.inr ⟨g,c,cur,rfl,eB,hg,Zr,qB,iW,lQ⟩⟩);rw[hw];rw[hf] at HI;clear Rl Qy lQ hg iW hlen uW hs
  go_enter zqG,zqh
  go_wp2_with (go_at_call 124;refine HI.o.mono ?_;rintro e w1 ⟨rfl,J8⟩;simp only[Gw];have gJ:=aD J8;clear J8)
  go_ret;exact⟨n,rfl,by first|rfl|exact zmr.symm,zph HO.o gJ.o,⟨gJ.o.os,gJ.o.tape,gJ.o.output,gJ.o.size,λb hb _=>gJ.o.block b hb⟩⟩
 |some p=>
  obtain⟨xp,Nl,yY,zuA⟩:∃x,xs[p]? =some x/\x.c=q/\∀j,j<p->∀y,xs[j]? =some y->y.c≠q:=by
   unfold tV at hf;obtain⟨h1,h2,h3⟩:=List.findIdx?_eq_some_iff_getElem.1 hf;refine⟨xs[p],oX h1,by simpa using h2,λj hj y hy=>?_⟩;have:=h3 j hj;obtain⟨k1,k2⟩:=lR.1 hy;rw[k2] at this;simpa using this
  have nU:=(lR.1 Nl).1;have zuP:xs.take p=(xs.take (p+1)).filter (λx=>x.c !=q):=by
   have ht:xs.take (p+1)=xs.take p++[xp]:=by rw[Nv,Nl];rfl
   have h1:(xs.take p).filter (λx=>x.c !=q)=xs.take p:=by
    rw[zfs];intro y hy;obtain⟨j,hj⟩:=At.1 hy;rw[U3] at hj;split at hj
    .next aU=>simpa using zuA j aU y hj
    .cases hj
   rw[ht,Ot,h1];simp[yY]
  rw[hf] at HI;have Hi:=aD zuP;have Xv:p<n:=aC;obtain⟨i0,fH,fV,dM,jJ⟩:=Cg zdl;have zyi:=aD fH;clear Rl Qy lQ hg iW hlen uW hs zuP Nl yY zuA fH
  go_enter zqG,zqh
  go_wp2_with (go_at_call 124;refine HI.o.mono ?_;rintro e w1 ⟨rfl,J8⟩;simp only[Gw];have gJ:=aD J8;clear J8)
  go_loopw [5,6] (λi j wr=>∃(a b:Nat) (ys:List bF),i=.int .i64 (a:Int)/\j=.int .i64 (b:Int)/\a<b/\b<=n/\ys.length=n/\ys.take a=(xs.take b).filter (λx=>x.c !=q)/\ys.drop b=xs.drop b/\wr.heap[g]? =some (.cells (bG ys++rest).toArray 149 (0,0))/\w.grownBy wr (some g)) (λ_ j _=>n-(intOf j).toNat)
  case atStart=>
   refine⟨p,p+1,xs,rfl,oH,aC,aC,zmr,Hi.o,rfl,(gJ.o.block g (iB HG.o)).trans HG.o,⟨gJ.o.os,gJ.o.tape,gJ.o.output,gJ.o.size,λb hb _=>gJ.o.block b hb⟩⟩
  case round=>
   obtain⟨a,b,ys,rfl,rfl,qK,zKh,Xi,h1,h2,qO,mQ⟩:=hrel;have qP:=aD qO;have zco:=aD mQ;have zGh:=iB qO;clear qO mQ;by_cases aU:b<n
   .obtain⟨x,hx⟩:∃x,xs[b]? =some x:=⟨xs[b]' aC,oX aC⟩
    have zDU:ys[b]? =some x:=by
     have:=congrArg (λl=>l[0]?) h2;simpa[Xm,hx] using this
    obtain⟨d1,d2⟩:=zBu (q:=λx=>x.c !=q) aC aC h1 h2 hx;have zm4:∀(k:Nat) (y:bF),ys[k]? =some y->wr.cell? ⟨g,k*2,none⟩=some (.int .i64 y.c)/\wr.cell? ⟨g,k*2+1,none⟩=some (.int .i64 y.p):=λk y hy=>by
     have hk:=(lR.1 hy).1;have lE:(bG ys).length=ys.length*2:=J6 bF.cells (s:=2) (λ_=>rfl) ys;have gg:∀b',b'<2->wr.cell? ⟨g,k*2+b',none⟩=y.cells[b']? :=λb' bZ=>by
      rw[aI qP.o];rw[List.getElem?_toArray,List.getElem?_append_left aC];have:=Ns bF.cells (s:=2) (λ_=>rfl) ys k b' bZ;unfold bG;rw[this,hy];rfl
     exact⟨gg 0 aH,gg 1 aH⟩
    obtain⟨c0,c1⟩:=zm4 b x zDU;have i0:(0:Int)<=(b:Int):=aC;have i1:(b:Int)<(n:Int):=aC;have D1:=aD d1;have D2:=aD d2;have GC:=aD zm4;clear d1 d2 zm4;have zu7:=aD ((zco.o.block gx (iB X2.o) zfR).trans X2.o);obtain⟨ya,zE4⟩:∃y,ys[a]? =some y:=⟨ys[a]' aC,oX aC⟩;have zog:=aD zE4;have a0:(0:Int)<=(a:Int):=aC;have a1:(a:Int)<(n:Int):=aC;have zaz:g≠wr.heap.size:=aC;cases hq:(x.c==q)
    .go_wp2_with (go_at_call 118;refine(ze8 x gx q _ (dD zu7.o _)).mono ?_;rintro e w2 ⟨rfl,q9⟩;rw[hq];have KG:=aD (mH q9 (dD qP.o _)).1;have kz:=(mH q9 (gU _ _)).1;have z0:=aI kz 0;have z1:=aI kz 1;have e0:=(Cv (a:=⟨g,a*2,none⟩) (KG.o.trans qP.o.symm)).trans (GC.o a ya zog.o).1;have e1:=(Cv (a:=⟨g,a*2+1,none⟩) (KG.o.trans qP.o.symm)).trans (GC.o a ya zog.o).2;have ff:=eO KG.o;have jK:=aD q9;clear q9 kz)
     go_round
     case rel=>
      obtain⟨f1,f2⟩:=D2.o (by simpa using hq);refine⟨a+1,b+1,ys.set a x,oH,oH,aC,aC,by rw[zh9];exact Xi,f1,f2,?_,?_⟩
      .rw[n8 (n8 KG.o _),arr_set aC]
      .have hB:=jK.o
       refine Tg zco.o ⟨hB.os,hB.tape,hB.output,?_,λk hk hn=>?_⟩
       .simp only[wL];have:=hB.size;simp at this;omega
       .have zxA:k≠g:=λe=>hn (by rw[e])
        exact(dN _ _ _ k zxA).trans ((dN _ _ _ k zxA).trans ((hB.block k pR).trans (rS _ _ k hk)))
     case measure=>simp[intOf];omega
    .go_wp2_with (go_at_call 118;refine(ze8 x gx q _ (dD zu7.o _)).mono ?_;rintro e w2 ⟨rfl,q9⟩;rw[hq];have KG:=aD (mH q9 (dD qP.o _)).1;have jK:=aD q9;clear q9)
     go_round
     case rel=>
      obtain⟨f1,f2⟩:=D1.o (by simpa using hq);have hB:=jK.o;exact⟨a,b+1,ys,rfl,oH,aC,aC,Xi,f1,f2,KG.o,Tg zco.o ⟨hB.os,hB.tape,hB.output,by have:=hB.size;simp at this;omega,λk hk hn=>(hB.block k pR).trans (rS _ _ k hk)⟩⟩
     case measure=>simp[intOf];omega
   .have e:b=n:=aC
    subst e;have zfD:(dE xs q).length=a:=by
     have sN:xs.take b=xs:=Ee aC;rw[sN] at h1;unfold dE;rw[<-h1,sU];omega
    have N5:ys.take a=dE xs q:=by
     have sN:xs.take b=xs:=Ee aC;rw[sN] at h1;exact h1
    have lE:(bG ys).length=ys.length*2:=J6 bF.cells (s:=2) (λ_=>rfl) ys;have hzs:(pU (zlk #[.int .i64 0,.int .i64 0]).cells (b-a)).size=(b-a)*2:=Zp _ _;have cH:=λty=>zjY (P:=aK) (w:=wr) (dT:=69) (ty:=ty) (c:=c-a) (n:=b-a) (o:=a*2) zkT zyi.o fV qP.o aC (by rw[hzs];simp[lE,Mv];omega) (λu hu=>by
     obtain⟨k,hk,rfl⟩:=Kq.1 hu;simp only[pU,U8,ziA,zix,zj0];rcases zoI k with hk|hk<;>simp[hk]<;>rfl)
    obtain⟨zM,oP⟩:=aP (((bG ys++rest).toArray.toList.take (a*2)++(pU (zlk #[.int .i64 0,.int .i64 0]).cells (b-a)).toList++(bG ys++rest).toArray.toList.drop (a*2+(pU (zlk #[.int .i64 0,.int .i64 0]).cells (b-a)).size)).toArray);rw[<-oP] at cH;have HR:=aD cH;have HO:=aD (show(wr.setRow g zM).ownsRow lo 149 2 (.slice (some ⟨g,0,none⟩) a c) a (bG (dE xs q)) by
     refine⟨by have:=J6 bF.cells (s:=2) (λ_=>rfl) (dE xs q);unfold bG;omega,.inr ⟨g,c,zM,rfl,eB,Lf wr g _ zM 149 (0,0) qP.o,aC,qB,?_,?_⟩⟩
     .rw[oP]
      simp only[Fg,jP,sU,xY,Em,hzs,lE,Mv];omega
     .rw[oP,show∀l:List aF,l.toArray.toList=l from λ_=>rfl,show∀l:List aF,l.toArray.toList=l from λ_=>rfl,J0,E5 (by rw[sU,jP,lE];omega),P7,zkZ,E5 aC,<-N5]
      have:(bG ys).take (a*2)=bG (ys.take a):=by
       conv=>lhs;rw[<-zuH a ys]
       unfold bG;rw[List.flatMap_append];have h9:=J6 bF.cells (s:=2) (λ_=>rfl) (ys.take a);rw[sU,Nat.min_eq_left aC] at h9;rw[E5 aC];exact Ee aC
      exact this)
    have zGz:=aD (Tg zco.o (zaT zM));have a0:(0:Int)<=(a:Int):=aC;have a1:(a:Int)<(b:Int):=aC;have zKM:a<c:=aC;have zKy:¬(c=a):=aC;clear cH oP hzs lE N5 qP zco h1 h2
    go_wp2_with (refine zbL rfl (.tmp 38) 69 rfl _ rfl HR.o ?_)
    go_ret;exact⟨a,rfl,zfD.symm,HO.o,zGz.o⟩
theorem zm9 (b:bY)(t:List UInt8)(x:bF):(lW (b,t) x).1.o=b.o/\(lW (b,t) x).1.clk=b.clk/\(lW (b,t) x).1.log=b.log/\(lW (b,t) x).1.recs.length=b.recs.length/\(lW (b,t) x).1.wait.length<=b.wait.length/\(lW (b,t) x).1.back.length<=b.back.length+1/\
 ∀z∈(lW (b,t) x).1.recs,∃y∈b.recs,z.o=y.o/\z.l=y.l:=by
 have same:∀z∈b.recs,∃y∈b.recs,z.o=y.o/\z.l=y.l:=λz hz=>⟨z,hz,rfl,rfl⟩;unfold lW;split
 .simp_all
 .split
  .refine⟨rfl,rfl,rfl,?_,Ve _ _,?_,λz hz=>?_⟩
   .show(List.modify _ _ _).length=_
    rw[Np]
   .simp_all
   .obtain⟨y,hy,rfl|rfl⟩:=Q7 hz
    .exact⟨_,hy,rfl,rfl⟩
    simp_all
  simp_all
theorem y3.tire {t:List UInt8}(h:y3 d)(hx:1<=x.c/\x.c<=99)(hb:d.r.back.length<5000):y3 {d with r:=(lW (d.r,t) x).1}:=by
 have S:=h.S.tire (t:=t) (x:=x);have R:=h.R.tire (t:=t) hx;obtain⟨e1,e2,e3,e4,e5,e6,e7⟩:=zm9 d.r t x;generalize(lW (d.r,t) x).1=b at*;refine⟨S,R,⟨λz hz=>?_,?_⟩,h.ndl,?_,λz hz=>?_,?_,⟨R.off,?_,?_,?_,?_,?_⟩⟩
 .obtain⟨y,hy,e,_⟩:=e7 z hz
  rw[e,e1];exact h.ops.op y hy
 .show 1<=b.o.op
  rw[e1];exact h.ops.n1
 .show(d.ln.length:Int)=b.o.ln
  rw[e1];exact h.nln
 .obtain⟨y,hy,_,e⟩:=e7 z hz
  show 1<=z.l/\z.l<=b.o.ln;rw[e,e1];exact h.lb y hy
 .show(d.qn.length:Int)=b.o.op
  rw[e1];exact h.nqn
 .show b.recs.length<=1000
  rw[e4];exact h.sm.nr
 .exact eM e5 h.sm.nw
 .grind
 .show b.log.length<=1000
  rw[e3];exact h.sm.nl
 .show 0<=b.clk/\b.clk<=100000
  rw[e2];exact h.sm.clk
def sX (r:bY)(m:Int):Nat->List bF
 |0=>[]
 |k+1=>match r.wait[k]? with
  |none=>sX r m k
  |some x=>match gN (cY r m k).1.recs x.c with
   |none=>sX r m k++[x]
   |some i=>if(cY r m k).1.o.pt<=(cY r m k).1.clk-Ww (cY r m k).1.recs i then sX r m k else sX r m k++[x]
theorem zhc {st rest:List bF}(h:((st++x::rest).map bF.c).Nodup):dE (st++x::rest) x.c=st++rest:=by
 rw[Sz,jG,zm8] at h;obtain⟨h1,h2,h3⟩:=h;rw[Cw] at h2;have a1:∀y∈st,(y.c !=x.c)=true:=λy hy=>by simp_all
 have a2:∀y∈rest,(y.c !=x.c)=true:=λy hy=>by simp_all
 unfold dE;rw[Ot,List.filter_cons,zfs.2 a1,zfs.2 a2];simp
structure TK (d:nV)(m:Int)(k:Nat):Prop where
 i:y3 {d with r:=(cY d.r m k).1}
 w:(cY d.r m k).1.wait=sX d.r m k++d.r.wait.drop k
 nb:(cY d.r m k).1.back.length<=d.r.back.length+k
 log:(cY d.r m k).1.log=d.r.log
 o:(cY d.r m k).1.o=d.r.o
 clk:(cY d.r m k).1.clk=d.r.clk+m
 le:(sX d.r m k).length<=k
 txt:(cY d.r m k).2.length<=30+30*k
section
variable {d:nV}{m:Int}
theorem TK.zero (h:y3 d)(hm:0<=m)(hc:d.r.clk+m<=100000):TK d m 0:=by
 have h0:=h.sm.clk;have hn:=Pd (c:=d.r.clk+m) aC aC;refine⟨⟨⟨h.S.opn,h.S.last,h.S.wt,h.S.bk,h.S.bo⟩,⟨h.R.off,?_,h.R.nodup,h.R.hasrec,λz hz=>?_,h.R.waitB,h.R.backB⟩,⟨h.ops.op,h.ops.n1⟩,h.ndl,h.nln,h.lb,h.nqn,⟨h.R.off,h.sm.nr,h.sm.nw,h.sm.nb,h.sm.nl,?_⟩⟩,rfl,bN _,rfl,rfl,rfl,bN _,?_⟩
 .show 0<=d.r.clk+m;omega
 .have:=h.R.recB z hz
  show _/\_/\_/\_/\_/\_/\_/\z.f<=d.r.clk+m;omega
 .show 0<=d.r.clk+m/\d.r.clk+m<=100000;omega
 .show([97,116,32]++fW (d.r.clk+m)).length<=_
  grind
structure Next (d:nV)(m:Int)(k:Nat)(x:bF)(i:Nat)(y:bO):Prop where
 at_:gN (cY d.r m k).1.recs x.c=some i
 hy:(cY d.r m k).1.recs[i]? =some y
 c:y.c=x.c
 op:cS y=true
 b:1<=x.c/\x.c<=99
 f:0<=y.f/\y.f<=d.r.clk+m
 tired:d.r.o.pt<=d.r.clk+m-y.f->cY d.r m (k+1)=({lF (cY d.r m k).1 i tW with back:=(cY d.r m k).1.back++[x]},(cY d.r m k).2++[32]++fW x.c)/\sX d.r m (k+1)=sX d.r m k
 not_:¬d.r.o.pt<=d.r.clk+m-y.f->cY d.r m (k+1)=cY d.r m k/\sX d.r m (k+1)=sX d.r m k++[x]
variable {k:Nat}{x:bF}
theorem TK.next (h:TK d m k)(hx:d.r.wait[k]? =some x):∃i y,Next d m k x i y:=by
 have zhH:d.r.wait.drop k=x::d.r.wait.drop (k+1):=by
  obtain⟨hl,he⟩:=lR.1 hx;rw[zhn hl,he]
 have oQ:x∈(cY d.r m k).1.wait:=by rw[h.w,zhH];simp
 obtain⟨i,hi⟩:=Option.isSome_iff_exists.1 (h.i.R.hasrec x oQ);have hi:gN (cY d.r m k).1.recs x.c=some i:=hi;obtain⟨y,hy,zmx,Eo⟩:=zH hi;have e1:=zdv (m:=m) hx;rw[Uf hi hy,h.o,h.clk] at e1;have e2:sX d.r m (k+1)=if d.r.o.pt<=d.r.clk+m-y.f then sX d.r m k else sX d.r m k++[x]:=by
  conv=>lhs;unfold sX
  simp only[hx,hi,h.o,h.clk];rw[show Ww (cY d.r m k).1.recs i=y.f by unfold Ww;rw[hy]]
 have hf:=h.i.R.recB y (dZ hy);refine⟨i,y,⟨hi,hy,zmx,Eo,h.i.R.waitB x oQ,⟨hf.2.2.2.2.2.2.1,by have:=hf.2.2.2.2.2.2.2;rw[<-h.clk];exact this⟩,λhp=>?_,λhp=>?_⟩⟩
 .simp_all
 simp_all
theorem TK.succ (h:TK d m k)(hb:d.r.back.length+d.r.wait.length<=5000)(hx:d.r.wait[k]? =some x):TK d m (k+1):=by
 obtain⟨hl,he⟩:=lR.1 hx;have zhH:d.r.wait.drop k=x::d.r.wait.drop (k+1):=by rw[zhn hl,he]
 obtain⟨i,y,n⟩:=h.next hx;have nX:=h.nb;have hT:=y3.tire (t:=(cY d.r m k).2) h.i n.b s9;have e1:=zdv (m:=m) hx;have zEd:y3 {d with r:=(cY d.r m (k+1)).1}:=by rw[e1];exact hT
 obtain⟨r1,r2,r3,r4,r5,r6,r7⟩:=zm9 (cY d.r m k).1 (cY d.r m k).2 x;have wN:cY d.r m (k+1)=lW ((cY d.r m k).1,(cY d.r m k).2) x:=e1;rw[<-wN] at r1 r2 r3 r4 r5 r6;have hw:=h.w;rw[zhH] at hw;have kU:((sX d.r m k++x::d.r.wait.drop (k+1)).map bF.c).Nodup:=by rw[<-hw];exact h.i.R.nodup
 have hle:=h.le;have zr2:=h.txt;refine⟨zEd,?_,aC,r3.trans h.log,r1.trans h.o,r2.trans h.clk,?_,?_⟩
 .by_cases hp:d.r.o.pt<=d.r.clk+m-y.f
  .have t4:=(n.tired hp).2
   rw[t4];have e3:=e1;rw[Uf n.at_ n.hy,h.o,h.clk,if_pos hp] at e3;rw[e3];show dE _ (B7 _ _)=_;rw[Ua n.hy,n.c,hw,zhc kU]
  .obtain⟨t1,t2⟩:=n.not_ hp
   rw[t1,t2,hw];simp
 .by_cases hp:d.r.o.pt<=d.r.clk+m-y.f
  .rw[(n.tired hp).2];omega
  .rw[(n.not_ hp).2,jP];simp;omega
 .by_cases hp:d.r.o.pt<=d.r.clk+m-y.f
  .have:=n.b
   have hn:=Pd (c:=x.c) aC aC;rw[(n.tired hp).1,jP,jP]
   grind
  .rw[(n.not_ hp).1];omega
def TK.all (h:y3 d)(hm:0<=m)(hc:d.r.clk+m<=100000)(hb:d.r.back.length+d.r.wait.length<=5000):∀k,k<=d.r.wait.length->TK d m k
 |0,_=>TK.zero h hm hc
 |k+1,hk=>(TK.all h hm hc hb k aC).succ hb (oX aC)
theorem TK.end_ (h:TK d m d.r.wait.length):(tG d.r m).1.wait=sX d.r m d.r.wait.length:=by
 rw[<-Z2,h.w,List.drop_of_length_le (bN _),Nb]
end
def qV (w:aE):Prop:=Lib.TabIs aK w "internal/strconv.uint64pow10" .u64 Lib.pow10Tab
def Bd (lo:Nat)(w:aE):Prop:=∀w':aE,(∀b,b<lo->w'.heap[b]? =w.heap[b]?)->qV w'
def Bd.at_ (h:Bd lo w):qV w:=h w λ_ _=>rfl
def Bd.keep (h:Bd lo w)(k:∀b,b<lo->w'.heap[b]? =w.heap[b]?):Bd lo w':=λw2 k2=>h w2 λb hb=>(k2 b hb).trans (k b hb)
variable {v':fC}
theorem Bd.turn (h:Bd lo w)(a:bE w lo hb v d)(eB:lo<=w.heap.size)(t:bP hb v w v' w'):Bd lo w':=h.keep λb bZ=>t.block b aC (λx=>by have:=(a.lt b x).1;omega)
def zV (v v':fC):Prop:=v'.sL=v.sL/\v'.sQ=v.sQ/\v'.sA=v.sA/\v'.sT=v.sT
def zV.rf (v:fC):zV v v:=⟨rfl,rfl,rfl,rfl⟩
def Cs.kept (h:Cs v v'):zV v v':=⟨h.1,h.2.1,h.2.2.2.2.1,h.2.2.2.2.2⟩
theorem zzq (ht:Bd lo w)(n:Int)(h0: -1000000000<=n)(h1:n<=1000000000):
 iR aK 112 #[.int .i64 n] w λe w'=>e=.returned (.string ⟨(fW n).toArray⟩)/\cD w.heap.size w w':=
 (Tryz.strconv_Itoa n aC aC w ht.at_).mono (by
  rintro e w' ⟨rfl,k,os,rfl⟩;refine⟨rfl,rfl,rfl,rfl,by simp[Go.Sort.grow],λi hi=>?_⟩;show((w.drewN k).heap++os)[i]? =_;rw[Array.getElem?_append_left tJ];rfl)
theorem zhU (n:Int)(h0:0<=n)(h1:n<100)(w:aE):
 iR aK 112 #[.int .i64 n] w λe w'=>e=.returned (.string ⟨(fW n).toArray⟩)/\w'=w:=by
 obtain⟨c,rfl⟩:∃c:Nat,n=(c:Int):=⟨n.toNat,aC⟩;refine(Tryz.strconv_Itoa_small c aC w).mono ?_;rintro e w' ⟨rfl,rfl⟩;exact⟨by unfold fW;rw[Lib.itoa_nonneg],rfl⟩
section
variable {P:bT}{w w':aE}
theorem zqr {ops:Array aZ}{rest:List aZ}{o:aZ}{a:Act}{Q:n6->Act->aE->Prop}(Eu:o.guard=none)(s x:cI)(t tn:aM)(ho:o.op=.call {callee:=.builtin .append,args:=#[s,x],argTypes:=#[t,tn]})(vs vx v':aF)(hs:a.eval s=vs)(hx:a.eval x=vx)
 (hr:(wQ #[t,tn] o.type #[vs,vx]).run P w=.ok v' w') (h:wpList P ops Q rest (a.put o.dst v') w'):wpList P ops Q (o::rest) a w:=by
 refine Rj Eu λK hK=>?_;unfold Cy aO;simp only[ho,resolve,invoke,builtin,E0,Jd,F9,uR,jG,tK,hs,hx,hr];exact hK _ _ h
end
theorem ztR {E s:Nat}{Bq:Nat}{v:aF}{xs:List aF}(h:w.ownsRow lo E s v n xs)(hl:Bq<=lo):w.ownsRow Bq E s v n xs:=by
 obtain⟨h0,h1|⟨g,cap,cur,e1,e2,e3⟩⟩:=h
 .exact⟨h0,.inl h1⟩
 .exact⟨h0,.inr ⟨g,cap,cur,e1,eM hl e2,e3⟩⟩
variable {x:Option Nat}{l:List (Option Nat)}
theorem zEM (h:zc5 l)(hx:∀b,x=some b->some b∉l):zc5 (l.set j x):=by
 intro i k b hi hk;rw[zav] at hi hk;split at hi<;>split at hk
 .omega
 .grind
 .grind
 .exact h i k b hi hk
theorem bE.newW (h:bE w lo hb v d){s':aF}(ho:w.ownsRow lo 149 2 s' n (bG xs))(hn:n=xs.length)(hw:∀b,s'.ownBlock=some b->some b∉parts v hb):
 bE (w.setCell ⟨hb,7,none⟩ s') lo hb {v with sW:=s'} {d with r:={d.r with wait:=xs}}:=by
 subst hn;have h0:(parts v hb)[0]? =some (some hb):=rfl;have kk:∀i b,i≠0->(parts v hb)[i]? =some (some b)->(w.setCell ⟨hb,7,none⟩ s').heap[b]? =w.heap[b]? :=λi b hi bZ=>dN w _ _ b (h.ne bZ h0 hi);have hp:parts {v with sW:=s'} hb=(parts v hb).set 5 s'.ownBlock:=rfl
 refine⟨n8 h.blk s',h.lob,cF h.L λb e=>kk 1 _ aH cT,cF h.Q λb e=>kk 4 _ aH cT,cF ho λb e=>dN w _ _ b (λe2=>hw b e s9),
  cF h.B λb e=>kk 6 _ aH cT,cF h.R λb e=>kk 7 _ aH cT,cF h.A λb e=>kk 9 _ aH cT,cF h.T λb e=>kk 10 _ aH cT,
  h.C.keep (kk 2 _ aH rfl),h.O.keep (kk 3 _ aH rfl),h.M.keep (kk 8 _ aH rfl),?_⟩
 rw[hp];exact zEM h.ap hw
def bE.grown (h:bE w lo hb v d)(hg:w.grownBy w' x)(hx:∀b,x=some b->some b∉parts v hb):bE w' lo hb v d:=
 h.keep λb bZ hp=>hg.block b bZ λe=>hx b e.symm hp
theorem bP.grown {w0:aE}{v0:fC}(h:bP hb v0 w0 v w)(hg:w.grownBy w' x)(hx:∀b,x=some b->w0.heap.size<=b):bP hb v0 w0 v w':=
 ⟨eM h.size hg.size,λb bZ hn=>(hg.block b (jW bZ h.size) λe=>by grind).trans (h.block b bZ hn),h.moved⟩
end Go.Proofs.YtfcjiloojkjaeaaGreatDoor
namespace Go.Proofs.YtfcjiloojkjaeaaGreatDoor
open Go.Mt Go.Tt
def glL:List Nat:=[33,52,109,110,115,116,105,108,113,124,117,114,119,118,112,123,126,128,129,130,131,132,133,134,135,136,137,138,10,11,12,13,15,16,17,18,19,20,22,23,24,25,27,29,31,32,34,35,36,37,38,39,40,41,43,44,45,46,47,48,49,50,51,60,61,62,63,64,65,66,67,88,89,90,91,92,93,94,95,96,107]
def alL:List Nat:=[3,4,5,6,7,9,10,11,12,13,14,15,16,17,18,19,20,21,22,23,24,25,26,27,28,29,30,31,32,33,34,35,36,37,38,39,40,41,42,43,44,45,46,47,48,49,50,51,52,60,61,62,63,64,65,66,67,88,89,90,91,92,93,94,95,96,107,118]
def flL:List Nat:=[118]
def olL:List Nat:=[42]
abbrev C7:aN->Bool:=n7 glL
abbrev fT:aN->Bool:=n7 flL
def ztb:Re aK=true:=aT
def zxz:glL.all (fnFit aK (n7 flL) (n7 glL))=true:=aT
def lvF:Lv aK (n7 olL) (n7 alL) C7 fT:=
 lv_of ztb zxz aT aT aT aT aT
def nD:vQ (PS aK C7) fT:=zoT ztb zxz aT
end Go.Proofs.YtfcjiloojkjaeaaGreatDoor
namespace Go.Mt
open Go.Conc Go.Tt
def frO:Obj->Obj
 | .cells c T fz=>.cells c T (0,max c.size fz.2)
 |o=>o
def uY (X:Nat->Bool)(w:aE):World:={w with heap:=w.heap.mapIdx λi o=>if X i=true then frO o else o}
def thX (X:Nat->Bool)(w0 wn:aE):World:={wn with heap:=wn.heap.mapIdx λi o=>if X i=true then(w0.heap[i]?).getD o else o}
def reX (X:Nat->Bool)(w:aE):World:={w with heap:=w.heap.mapIdx λi o=>if X i=true then frO o else o6}
theorem Rg (X:Nat->Bool)(w:aE):(uY X w).heap.size=w.heap.size:=by simp[uY]
theorem zev (X:Nat->Bool)(w wn:aE):(thX X w wn).heap.size=wn.heap.size:=by simp[thX]
theorem zih (X:Nat->Bool)(w:aE):(reX X w).heap.size=w.heap.size:=by simp[reX]
section
variable {X:Nat->Bool}{w wn:aE}{a:Nat}
theorem Mj (h:X a=false):(uY X w).heap[a]? =w.heap[a]? :=by
 simp[uY,Mr,h]
variable {c:Array aF}{T:aM}
theorem Tz {fz:Nat×Nat}(h:X a=true)(hc:w.heap[a]? =some (.cells c T fz)):(uY X w).heap[a]? =some (.cells c T (0,max c.size fz.2)):=by
 simp[uY,Mr,h,hc,frO]
theorem zhC {fz:Nat×Nat}(h:X a=true)(hc:w.heap[a]? =some (.cells c T fz)):(reX X w).heap[a]? =some (.cells c T (0,max c.size fz.2)):=by
 simp[reX,Mr,h,hc,frO]
theorem zqT (h:X a=false)(ha:a<w.heap.size):(reX X w).heap[a]? =some o6:=by
 simp[reX,Mr,h,ha]
theorem Wi (h:X a=false):(thX X w wn).heap[a]? =wn.heap[a]? :=by
 simp[thX,Mr,h]
theorem zdZ {o:Obj}(h:X a=true)(ha:a<wn.heap.size)(ho:w.heap[a]? =some o):(thX X w wn).heap[a]? =some o:=by
 simp[thX,Mr,h,ho,ha]
end
inductive wW (X KD:Nat->Prop):aF->Prop
 |bool (b:Bool):wW X KD (.bool b)
 |int (k:IntKind) (n:Int):wW X KD (.int k n)
 |string (s:ByteArray):wW X KD (.string s)
 |nilFunc:wW X KD .nilFunc
 |nilIface:wW X KD .nilIface
 |pointer {a:Option bD}:(∀x,a=some x->X x.block)->wW X KD (.pointer a)
 |slice {a:Option bD} {n c:Nat}:(∀x,a=some x->X x.block)->wW X KD (.slice a n c)
 |chan {a:Option Nat}:(∀x,a=some x->KD x)->wW X KD (.chan a)
 |agg {xs:Array aF}:(∀(i:Nat) (v:aF),xs[i]? =some v->wW X KD v)->wW X KD (.agg xs)
 |tuple {xs:Array aF}:(∀(i:Nat) (v:aF),xs[i]? =some v->wW X KD v)->wW X KD (.tuple xs)
theorem vV.inX {X KD:Nat->Prop}{v:aF}(h:vV v):wW X KD v:=by
 induction h with
 |bool b=>exact .bool b
 |int k n=>exact .int k n
 |string s=>exact .string s
 |nilFunc=>exact .nilFunc
 |nilIface=>exact .nilIface
 |agg _ ih=>exact .agg ih
 |tuple _ ih=>exact .tuple ih
section
variable {S:aN->Prop}{K R K' R':Pr}{X KD:Nat->Prop}
theorem zt1 {a a':Option bD}(x:xP R a a')(hR:∀p q,R p q->X p->R' p q)(h:∀y,a=some y->X y.block):xP R' a a':=by
 cases x with
 |none=>exact .none
 |some y=>
  cases y with
  |mk y=>exact .some (.mk (hR _ _ y (h _ rfl)))
theorem wW.vr {u v:aF}(x:VR S K R u v)(hR:∀a b,R a b->X a->R' a b)(hK:∀a b,R.or K a b->KD a->R'.or K' a b)(hu:wW X KD u):VR S K' R' u v:=by
 induction x with
 |bool b=>exact .bool b
 |int k n=>exact .int k n
 |string s=>exact .string s
 |nilFunc=>exact .nilFunc
 |nilIface=>exact .nilIface
 |pointer y=>cases hu with|pointer h=>exact .pointer (zt1 y hR h)
 |slice y=>cases hu with|slice h=>exact .slice (zt1 y hR h)
 |map _=>cases hu
 |chan y=>
  cases hu with
  |chan h=>
   refine .chan ?_
   cases y with
   |none=>exact .none
   |some y=>exact .some (hK _ _ y (h _ rfl))
 |func _ _ _ _ _ _ _=>cases hu
 |iface _ _=>cases hu
 |agg e _ ih=>cases hu with|agg h=>exact .agg e λi v v' h1 h2=>ih i v v' h1 h2 (h i v h1)
 |tuple e _ ih=>cases hu with|tuple h=>exact .tuple e λi v v' h1 h2=>ih i v v' h1 h2 (h i v h1)
 |junk h=>exact .junk h
end
section
variable {S:aN->Prop}{K R K' R':Pr}{G:Gp}{St St':Nat->Prop}{w W wn Wn:aE}{X:Nat->Bool}
structure XOk (R:Pr)(X:Nat->Bool)(w:aE):Prop where
 dom:∀a,X a=true->∃b,R a b
 cells:∀a,X a=true->∃c T fz,w.heap[a]? =some (.cells c T fz)
theorem zr3 (h:cV S K R G St w W)(hx:XOk R X w):cV S K R G (λa=>St a\/X a=true) (uY X w) W:=by
 have stC:∀a,St a->∃c T hi,w.heap[a]? =some (.cells c T (0,hi))/\c.size<=hi:=λa x=>(h.st a x).2;refine⟨h.inj,h.inj',λa b x=>by rw[Rg];exact h.lt a b x,h.low,by rw[Rg];exact h.gle,λa b x=>?_,λa b x hn=>?_,λa x=>?_,?_,h.tb⟩
 .obtain⟨o,o',h1,h2,h3⟩:=h.cont a b x
  cases e:X a with
  |false=>exact⟨o,o',(Mj e).trans h1,h2,h3⟩
  |true=>
   obtain⟨c,T,fz,hc⟩:=hx.cells a e;rw[hc] at h1;obtain rfl:=cJ h1
   cases h3 with
   |cells tE hf=>
    refine⟨_,_,Tz e hc,h2,.cells tE λo ho=>?_⟩;have:=hf o ho;unfold Lg at this⊢;simp only;omega
 .cases e:X a with
  |false=>exact(Mj e).trans (h.rest a b x hn)
  |true=>
   obtain⟨c,hc⟩:=hx.dom a e;exact absurd hc (hn c)
 .cases e:X a with
  |false=>
   have x':St a:=x.resolve_right (by rw[e];simp);obtain⟨h1,c,T,hi,h2,h3⟩:=h.st a x';exact⟨h1,c,T,hi,(Mj e).trans h2,h3⟩
  |true=>
   obtain⟨c,T,fz,hc⟩:=hx.cells a e;exact⟨hx.dom a e,c,T,_,Tz e hc,zsd ..⟩
 .intro a c e hp
  cases ex:X a with
  |false=>
   rw[Mj ex] at hp;exact h.np a c e hp
  |true=>
   obtain⟨c',T,fz,hc⟩:=hx.cells a ex;rw[Tz ex hc] at hp;cases hp
theorem zqY (h:cV S K R G St w W)(hx:XOk R X w)(hle:R.le R')(hK:K.le K')(hn:cV S K' R' G St' wn Wn)(hs:∀a,St a->St' a)(aX:∀a b,X a=true->R a b->Wn.heap[b]? =W.heap[b]?):cV S K' R' G St (thX X w wn) Wn:=by
 have aU:∀a b,R' a b->a<wn.heap.size:=λa b x=>(hn.lt a b (.inl x)).1;refine⟨hn.inj,hn.inj',λa b x=>by rw[zev];exact hn.lt a b x,hn.low,by rw[zev];exact hn.gle,λa b x=>?_,λa b x fG=>?_,λa x=>?_,?_,hn.tb⟩
 .cases e:X a with
  |false=>
   obtain⟨o,o',h1,h2,h3⟩:=hn.cont a b x;exact⟨o,o',(Wi e).trans h1,h2,h3⟩
  |true=>
   obtain⟨b0,Su⟩:=hx.dom a e;obtain rfl:=hn.inj a b b0 (.inl x) (.inl (hle _ _ Su));obtain⟨o,o',h1,h2,h3⟩:=h.cont a b Su;exact⟨o,o',zdZ e (aU a b x) h1,(aX a b e Su).trans h2,oK.monoK hK (h3.mono hle)⟩
 .cases e:X a with
  |false=>exact(Wi e).trans (hn.rest a b x fG)
  |true=>
   obtain⟨c,hc⟩:=hx.dom a e;exact absurd (hle _ _ hc) (fG c)
 .cases e:X a with
  |false=>
   obtain⟨h1,c,T,hi,h2,h3⟩:=hn.st a (hs a x);exact⟨h1,c,T,hi,(Wi e).trans h2,h3⟩
  |true=>
   obtain⟨⟨b,h1⟩,c,T,hi,h2,h3⟩:=h.st a x;exact⟨⟨b,hle _ _ h1⟩,c,T,hi,zdZ e (aU a b (hle _ _ h1)) h2,h3⟩
 .intro a c e hp
  cases ex:X a with
  |false=>
   rw[Wi ex] at hp;exact hn.np a c e hp
  |true=>
   obtain⟨b,hb⟩:=hx.dom a ex;obtain⟨c',T,fz,hc⟩:=hx.cells a ex;rw[zdZ ex (aU a b (hle _ _ hb)) hc] at hp;cases hp
def rX (R:Pr)(X:Nat->Bool):Pr:=λa b=>R a b/\X a=true
def kX (K:Pr)(KD:Nat->Prop):Pr:=λa b=>K a b/\KD a
theorem reX_rel (h:cV S K R G St w W)(hx:XOk R X w)(hT:∀g,G.tab g=true->X g=true){KD:Nat->Prop}(lE:∀a c T fz,X a=true->w.heap[a]? =some (.cells c T fz)->∀v∈c,wW (λa=>X a=true) KD v)(zEQ:∀a b,R a b->KD a->X a=true):
 cV S (kX K KD) (rX R X) G (λa=>X a=true) (reX X w) W:=by
 have up:∀a b,(rX R X).or (kX K KD) a b->R.or K a b:=λa b x=>x.elim (λy=>.inl y.1) λy=>.inr y.1;refine⟨λa b c x y=>h.inj a b c (up _ _ x) (up _ _ y),λa b c x y=>h.inj' a b c (up _ _ x) (up _ _ y),λa b x=>by rw[zih];exact h.lt a b (up _ _ x),λa b x=>h.low a b x.1,by rw[zih];exact h.gle,λa b x=>?_,λa b x fG=>?_,λa x=>?_,?_,λg hg=>⟨h.tb g hg,hT g hg⟩⟩
 .obtain⟨o,o',h1,h2,h3⟩:=h.cont a b x.1
  obtain⟨c,T,fz,hc⟩:=hx.cells a x.2;rw[hc] at h1;obtain rfl:=cJ h1
  cases h3 with
  |cells tE hf=>
   refine⟨_,_,zhC x.2 hc,h2,.cells ⟨tE.1,λi v v' h1 h2=>?_⟩ λo ho=>?_⟩
   .refine wW.vr (tE.2 i v v' h1 h2) (λp q y z=>⟨y,z⟩) (λp q y z=>?_) (lE a c T fz x.2 hc v (Array.mem_of_getElem? h1))
    rcases y with y|y
    .exact .inl ⟨y,zEQ p q y z⟩
    .exact .inr ⟨y,z⟩
   .have:=hf o ho
    unfold Lg at this⊢;simp only;omega
 .cases e:X a with
  |false=>exact zqT e (h.lt a b (.inr x.1)).1
  |true=>
   obtain⟨c,hc⟩:=hx.dom a e;exact absurd ⟨hc,e⟩ (fG c)
 .obtain⟨c,T,fz,hc⟩:=hx.cells a x
  obtain⟨b,hb⟩:=hx.dom a x;exact⟨⟨b,hb,x⟩,c,T,_,zhC x hc,zsd ..⟩
 .intro a c e hp
  cases ex:X a with
  |false=>
   by_cases ha:a<w.heap.size
   .rw[zqT ex ha] at hp
    unfold o6 at hp;cases hp
   .have:=(eE.1 hp).1
    rw[zih] at this;omega
  |true=>
   obtain⟨c',T,fz,hc⟩:=hx.cells a ex;rw[zhC ex hc] at hp;cases hp
end
end Go.Mt
namespace Go.Mt
open Go.Conc Go.Tt
open Go.ConcR (KK wgBlock WgAt stA smA rd wr DC0)
section
variable {p:bT}{Post:aF->aE->Prop}{Shun:Loc->Prop}
def BJ (p:bT)(Post:aF->aE->Prop)(Shun:Loc->Prop)(τ:cC)(g:Goroutine)(W:aE):Prop:=
 (∀b,τ.own b\/τ.still b->b<W.heap.size/\∀l,nJ l b->¬Shun l)->(∀l b,nJ l b->W.heap.size<=b->¬Shun l)->J p Post Shun W.heap.size g W
theorem zBf {O Z:Nat->Prop}{B:Nat}{e:Event}(h:EvQ O Z e)(hO:∀b,O b\/Z b->b<B/\∀l,nJ l b->¬Shun l):EvL Shun B e:=by
 rcases h with rfl|⟨b,h1,h2⟩
 .exact⟨λx hx=>by simp[jF,qZ] at hx,aQ,aQ,trivial⟩
 .obtain⟨hb,hs⟩:=hO b (h2.imp id And.left)
  obtain⟨loc,wr,sy⟩:=e
  cases loc with
  |cell x=>
   simp only[Gz,jM] at h1;refine⟨λy hy mV=>?_,aQ,aQ,?_⟩
   .simp only[jF,qZ,jM] at hy
    subst hy;exact absurd mV (hs _ h1)
   .show x.block<B
    rw[h1];exact hb
  |obj r=>
   simp only[Gz,jM] at h1;have hr:r<B:=by rw[h1];exact hb
   refine⟨λy hy mV=>?_,aQ,aQ,?_⟩
   .have Xi:y.loc=.obj r:=by
     cases wr<;>cases sy<;>simp only[jF,qZ,jM] at hy<;>first|(subst hy;rfl)|(cases hy;done)
    exact absurd (Xi▸mV) (hs (.obj r) h1)
   .cases wr<;>cases sy<;>exact hr
  |_=>simp[Gz] at h1
variable {ty:aM}
def suf_atd {Wg:Nat}{τ:cC}{w:aE}(d:Nat):bX ty Wg τ w (w.at d):=⟨rfl,rfl,rfl,bN _,λ_ _=>rfl,λx=>x⟩
theorem bj_ok {Wg:Nat}(τ:cC)(g:Goroutine)(w:aE)(cH:g.status=.running)(h:OwnQ p ty Wg true (BJ p Post Shun) τ g w):BJ p Post Shun τ g w:=by
 intro h1 h2;have grow:∀(d:Nat) {w':aE},w.heap.size<=w'.heap.size->(∀b,(τ.grow (w.at d) w').own b\/τ.still b->b<w'.heap.size/\∀l,nJ l b->¬Shun l)/\∀l b,nJ l b->w'.heap.size<=b->¬Shun l:=λd w' hs=>by
  refine⟨λb hb=>?_,λl b hl hb=>h2 l b hl (eM hs hb)⟩;rcases hb with(hb|⟨hb,bZ⟩)|hb
  .grind
  .exact⟨bZ,λl hl=>h2 l b hl hb⟩
  .grind
 refine J.own cH λd=>?_;obtain⟨g',w',es,a1,a2,a3,a4,a5⟩:=h (w.at d) (suf_atd d);obtain⟨k1,k2⟩:=grow d a3.size;exact⟨g',w',es,w'.heap.size,a1,λe he=>zBf (a4 e he) k1,a3.size,a5 k1 k2⟩
structure IA (W0:aE)(St:Nat->Prop)(Shun:Loc->Prop)(R0:Pr)(R:Pr)(τ:cC)(W:aE):Prop where
 kp:Kp W0 R St W
 sh:Sh W0.heap.size Shun R W
 still:∀b,b<W0.heap.size->τ.still b
 le:R0.le R
def Fh (p:bT)(gs fs:aN->Bool)(Post:aF->aE->Prop)(Shun:Loc->Prop)(W0:aE)(St:Nat->Prop)(K R0:Pr)(base:List Frame):Cx Unit:=
 {p:=p,gs:=gs,fs:=fs,ty:=0,Wg:=0,A:=⟨λ_=>.wait,λ_ _=>True,λ_=>false,λ_=>True,λ_ _=>True,λ_ _=>[]⟩,Fin:=λ_ _=>True,main:=true,base:=base,ds:=.nil,K:=K,St:=St,I:=IA W0 St Shun R0,pin:=[],alone:=some (BJ p Post Shun),aok:=λB h τ g w hr ho=>(by cases h;exact bj_ok τ g w hr ho)}
variable {gs fs:aN->Bool}{W0:aE}{St:Nat->Prop}{K R0:Pr}{base:List Frame}
theorem dC:eZ (Fh p gs fs Post Shun W0 St K R0 base):=by
 refine⟨λR τ W aY h s=>?_,λR τ W R1 W1 h ht hs=>?_⟩
 .have h:=h
  exact⟨⟨s.os.trans h.kp.os,s.tape.trans h.kp.tape,s.output.trans h.kp.output,eM h.kp.size s.size,λb hb=>(s.keep b (.inr (h.still b hb))).trans (h.kp.block b hb),h.kp.old⟩,⟨h.sh.old,h.sh.rel,λl b hl hb=>h.sh.new l b hl (eM s.size hb)⟩,h.still,h.le⟩
 .have h:=h
  have hs:=hs;refine⟨⟨hs.os.trans h.kp.os,hs.tape.trans h.kp.tape,hs.output.trans h.kp.output,eM h.kp.size hs.size,λb hb=>?_,λa b x hb=>?_⟩,⟨h.sh.old,λa b x l hl=>?_,λl b hl hb=>h.sh.new l b hl (eM hs.size hb)⟩,h.still,h.le.trans hs.le⟩
  .rw[hs.keep b (jW hb h.kp.size) (λa x=>h.kp.old a b x hb)]
   exact h.kp.block b hb
  .rcases hs.new a b x with y|⟨y,_⟩
   .exact h.kp.old a b y hb
   .have:=h.kp.size;omega
  .rcases hs.new a b x with y|⟨y,_⟩
   .exact h.sh.rel a b y l hl
   .exact h.sh.new l b hl y
def tauA (R:Pr)(St:Nat->Prop)(W0:aE):cC:=⟨λb=>∃a,R a b/\¬St a,λb=>b<W0.heap.size\/∃a,R a b/\St a,λ_=>False⟩
def zB7 {R:Pr}:vM (tauA R St W0) R St:=λa b x=>⟨λh=>.inr ⟨a,x,h⟩,λh=>⟨a,x,h⟩⟩
variable {m':Fm}
theorem BO.aloneIn {R:Pr}{m:Fm}{w W:aE}(h:BO (Fh p gs fs Post Shun W0 St K R base) () m w)(hw:cV (SF fs) K R (pE p) St w W)(hm:FmW (Fh p gs fs Post Shun W0 St K R base) R m m')(mV:Sh W0.heap.size Shun R W)(hk:Kp W0 R St W):
 J p Post Shun W.heap.size (G m'.fr base) W:=by
 have:=h R W m' (tauA R St W0) hw hm zB7 ⟨hk,mV,λb hb=>.inl hb,.refl R⟩;rw[Cx.B_some rfl] at this;have e:fx [] (Fh p gs fs Post Shun W0 St K R base).ds m'=m'.fr:=G5 _;rw[e] at this;refine this (λb hb=>?_) mV.new;rcases hb with⟨a,x,_⟩|hb|⟨a,x,_⟩
 .exact⟨(hw.lt a b (.inl x)).2,mV.rel a b x⟩
 .exact⟨jW hb hk.size,λl hl=>mV.old l b hl hb⟩
 .exact⟨(hw.lt a b (.inl x)).2,mV.rel a b x⟩
theorem BO.aloneOut {op znl:aN->Bool}{m:Fm}{ms ms':List Fm}(hm:pI (PL p op znl) fs K R0 m m')(jV:uP (PL p op znl) fs K R0 ms ms')(rY:base=m'.fr::ms'.map Fm.fr){ops:Array aZ}{i:Nat}{rest:List Nat}{k:List Item}(hr:m.ret=false)(qY:m.todo=.inRegion ops (i::rest)::k)
 {f:aN} {tmps:Array aF} {todo:List Item} {w:aE} {v:aF} {fnf:Func} (hf:p.funcs[f]? =some fnf) (nU:Ia fnf.results.toList) (hv:(o5 fnf.results.toList tmps).run p w=.ok v w) (hJ:JL p op znl fs St W0 Post (m.fin ops i rest k v) ms w):
 BO (Fh p gs fs Post Shun W0 St K R0 base) () ⟨f,tmps,todo,true⟩ w:=by
 intro R W x' τ hw hx ht hi;have hi:IA W0 St Shun R0 R τ W:=hi;obtain⟨f',bS,y9,zI⟩:=x';obtain rfl:=hx.fn;obtain rfl:=hx.todo;obtain rfl:=hx.ret;have y4:m'.ret=false:=hm.ret.symm.trans hr;have Po:m'.todo=.inRegion ops (i::rest)::k:=hm.todo.symm.trans qY;refine Cx.ownQ rfl λaY s=>?_;have hC:=dC (p:=p) (gs:=gs) (fs:=fs) (Post:=Post) (Shun:=Shun) (W0:=W0) (St:=St) (K:=K) (R0:=R0) (base:=base);have dI:cV (SF fs) K R (pE p) St w aY:=Cx.Rel.suf (C:=Fh p gs fs Post Shun W0 St K R0 base) hw ht s;have y7:IA W0 St Shun R0 R τ aY:=hC.suf _ _ _ _ hi s
 let T:Tape:=λn q=>aY.tape (aY.drawn+n) q
 have Ak:cV (SF fs) K R (pE p) St (Tt.tp w T 0) aY:=⟨dI.inj,dI.inj',dI.lt,dI.low,dI.gle,dI.cont,dI.rest,dI.st,dI.np,dI.tb⟩;have Mf:Tp (Tt.tp w T 0) aY:=λn q=>by show aY.tape (aY.drawn+(0+n)) q=_;rw[Nat.zero_add]
 have cH:=(Xd _ _ w v w hv).2 T 0;obtain⟨R1,v',W1,ev,e1,g3,e3,e4,e5⟩:=aG.run (P:=PS p gs) rfl _ (zjv hx.tmps fnf.results.toList) Ak Mf cH;obtain⟨zeU,_⟩:=Xd _ _ aY v' W1 e1;subst zeU;have Pb:(z8 p ⟨f,bS,todo,true⟩ [m']).run p W1=.ok (m'.fin ops i rest k v',[]) W1:=(Kk Po hf e1).1;obtain⟨_,_,_,e⟩:=zdV (main:=true) rfl y4 Pb [] .nil (ms'.map Fm.fr);rw[G5,G5] at e;have Th:fx [] (Fh p gs fs Post Shun W0 St K R0 base).ds ⟨f,bS,todo,true⟩=(⟨f,bS,todo,true⟩:Fm).fr:=G5 _;rw[Th];have Q5:∀e∈seen p f ((z8 p ⟨f,bS,todo,true⟩ [m']).events p W1 #[]),He R1 St e:=λe he=>by
  rw[(Kk Po hf e1).2,e4] at he;exact e5 e (by simpa using mem_seen he)
 have Fj:∀a b,R1 a b->R a b\/(W1.heap.size<=b/\b<W1.heap.size):=λa b x=>by
  rcases e3.new a b x with y|⟨_,y⟩
  .exact .inl y
  .exact .inr ⟨y,(e3.rel.ltR a b x).2⟩
 have Hx:vM (τ.grow W1 W1) R1 St:=λa b x=>by
  rcases e3.new a b x with y|⟨y1,y2⟩
  .exact⟨(ht a b y).1,λz=>.inl ((ht a b y).2 z)⟩
  .have:=(e3.rel.ltR a b x).2;omega
 have yR:IA W0 St Shun R0 R1 (τ.grow W1 W1) W1:=hC.step R τ W1 R1 W1 y7 ht ⟨e3.le,rfl,rfl,rfl,bN _,Fj,λ_ _ _=>rfl⟩;refine⟨G (m'.fin ops i rest k v').fr (ms'.map Fm.fr),W1,_,?_,rfl,zT.id _ _,λe he=>ze1 (Q5 e he) Hx,?_⟩
 .show stepG p true (G (Fm.fr _) base) W1=_
  rw[rY];exact e
 .rw[Cx.B_some rfl]
  intro _ _;have Se:cV (SF fs) K R1 (pE p) St w W1:=⟨e3.rel.inj,e3.rel.inj',e3.rel.lt,e3.rel.low,e3.rel.gle,e3.rel.cont,e3.rel.rest,e3.rel.st,e3.rel.np,e3.rel.tb⟩;have hle:R0.le R1:=y7.le.trans e3.le;exact hJ K R1 W1 _ ms' Shun Se ((hm.mono hle).fin qY g3) (jV.mono hle) yR.sh yR.kp
end
end Go.Mt
namespace Go.Mt
open Go.Conc Go.Tt Go.RowKit Go.Conc.Lib Go.ConcR.Gen
open Go.ConcR (KK wgBlock WgAt stA smA rd wr mk Payload DC0)
variable [Payload]{Lk:WgLink}
section
variable {p:bT}
theorem zHw (H:WgLib p Lk)(Wg:Nat):Hu p Lk.wait #[.pointer (some ⟨Wg,0,none⟩)] .normal=(Kt Lk.wait).at ⟨#[.pointer (some ⟨Wg,0,none⟩),aA,aA,aA,aA,aA,aA,aA,aA,aA,aA,aA,aA,aA,aA,aA,aA,aA,aA,aA,aA,aA,aA,aA,aA,aA,aA,aA,aA,aA,aA,aA,aA,aA,aA,aA,aA,aA,aA,aA,aA,aA,aA,aA,aA,aA,aA,aA,aA,aA,aA,aA,aA,aA,aA,aA,aA,aA,aA,aA,aA,aA,aA,aA,aA,aA,aA,aA,aA,aA,aA,aA,aA,aA,aA,aA,aA,aA,aA,aA,aA,aA,aA,aA],[]⟩ [.code (body_wait Lk)]:=by
 have h:=zqs (P:=p) (f:=Lk.wait) (fn:=waitFn Lk) (c:=body_wait Lk) #[.pointer (some ⟨Wg,0,none⟩)] H.f_wait rfl;rw[h];have e:(waitFn Lk).ntmps=84:=rfl;rw[e]
 walk_nrm
theorem zF4 (H:WgLib p Lk)(Wg:Nat):Hu p Lk.add #[.pointer (some ⟨Wg,0,none⟩),.int .i64 1] .normal=(Kt Lk.add).at ⟨#[.pointer (some ⟨Wg,0,none⟩),.int .i64 1,aA,aA,aA,aA,aA,aA,aA,aA,aA,aA,aA,aA,aA,aA,aA,aA,aA,aA,aA,aA,aA,aA,aA,aA,aA,aA,aA,aA,aA,aA,aA,aA,aA,aA,aA,aA,aA,aA,aA,aA,aA,aA,aA,aA,aA,aA,aA,aA,aA,aA,aA,aA,aA,aA,aA,aA,aA,aA,aA,aA,aA,aA,aA,aA,aA,aA,aA,aA,aA,aA,aA,aA,aA,aA,aA,aA,aA,aA,aA,aA,aA,aA,aA,aA,aA,aA,aA,aA,aA,aA,aA,aA,aA,aA,aA,aA,aA,aA,aA,aA,aA,aA,aA,aA,aA,aA,aA,aA,aA,aA,aA,aA,aA,aA,aA],[]⟩ [.code (Mq Lk)]:=by
 have h:=zqs (P:=p) (f:=Lk.add) (fn:=addFn Lk) (c:=Mq Lk) #[.pointer (some ⟨Wg,0,none⟩),.int .i64 1] H.f_add rfl;rw[h];have e:(addFn Lk).ntmps=117:=rfl;rw[e]
 walk_nrm
end
section
variable {L:Type}{C:Cx L}{l nx:L}{I0:Pr->cC->aE->Prop}
theorem zuX (hC:C.ty=Lk.tWg)(hX:IX Lk.tWg C.Wg I0){R:Pr}{τ:cC}{w:aE}(ht:vM τ R C.St):H4 Lk.tWg C.Wg τ (λW=>C.Rel R w W/\I0 R τ W):=by
 refine⟨λW W' s hF=>⟨zkf hF.1 ht (λa b x=>(hF.1.lt a b (.inr x)).2) s,hX.suf _ _ _ _ hF.2 s⟩,λW a v ha hF=>⟨?_,hX.cell _ _ _ _ _ hF.2 ha⟩⟩;exact cV.real hF.1 (λx b hx=>zax W a v (by rw[ha];exact hX.rel _ _ _ hF.2 x b hx)) tJ
theorem BO.add (H:WgLib C.p Lk)(ha:C.alone=none)(zdw:C.main=true)(B8:C.ty=Lk.tWg)(hI:eZ C)(zhi:C.I=zD Lk.tWg C.Wg I0)(hX:IX Lk.tWg C.Wg I0){fn:aN}{tmps:Array aF}{ops:Array aZ}{i:Nat}{rest:List Nat}{k:List Item}{w:aE}{o:aZ}{s:Tmp}{kY:Array aM}
 (ho:ops[i]? =some o) (b9:dG o (yielded ops tmps)=true) (hop:o.op=.call ⟨.value (.func Lk.add),#[.tmp s,.const (.int .i64 1)],kY⟩) (Dt:(s,.pointer (some ⟨C.Wg,0,none⟩))∈C.pin) (kU:∀s,o.dst=some s->s∉C.S) (qR:C.A.act l=.add nx)
 (h:BO C nx ⟨fn,(b7 ⟨tmps,[]⟩ o.dst (.tuple #[])).tmps,.inRegion ops rest::k,false⟩ w):BO C l ⟨fn,tmps,.inRegion ops (i::rest)::k,false⟩ w:=by
 intro R W m' τ hw hm ht hi;obtain⟨fn',bS,y9,zI⟩:=m';obtain rfl:=hm.fn;obtain rfl:=hm.todo;obtain rfl:=hm.ret;have uM:=J2 (C:=C) hm.tmps b9;have h5:=hm.pins _ Dt;have hb:=C.ds.ok;rw[mX,Cx.B_none ha,zdw,B8];rw[zhi] at hi;have kf:=zuX (C:=C) (w:=w) B8 hX ht;have Gk:∀v,b7 ⟨bS,C.ds.ds⟩ o.dst v=⟨(b7 ⟨bS,[]⟩ o.dst v).tmps,C.ds.ds⟩:=λv=>by cases o.dst<;>rfl
 refine Nk rfl rfl (g':=G ((Kt Lk.add).at ⟨#[.pointer (some ⟨C.Wg,0,none⟩),.int .i64 1,aA,aA,aA,aA,aA,aA,aA,aA,aA,aA,aA,aA,aA,aA,aA,aA,aA,aA,aA,aA,aA,aA,aA,aA,aA,aA,aA,aA,aA,aA,aA,aA,aA,aA,aA,aA,aA,aA,aA,aA,aA,aA,aA,aA,aA,aA,aA,aA,aA,aA,aA,aA,aA,aA,aA,aA,aA,aA,aA,aA,aA,aA,aA,aA,aA,aA,aA,aA,aA,aA,aA,aA,aA,aA,aA,aA,aA,aA,aA,aA,aA,aA,aA,aA,aA,aA,aA,aA,aA,aA,aA,aA,aA,aA,aA,aA,aA,aA,aA,aA,aA,aA,aA,aA,aA,aA,aA,aA,aA,aA,aA,aA,aA,aA,aA],[]⟩ [.code (Mq Lk)]) ((C.ds.base fn).at ⟨bS,C.ds.ds⟩ (.inRegion ops (i::rest)::k)::C.base)) (λGu s2=>?_) λGu s2=>?_
 .obtain⟨x1,x2⟩:=zgj (p:=C.p) (o:=o) hop (ρ:=(bJ bS C.ds.ds).eval) (λg=>rfl) H.f_add rfl rfl Gu
  have wF:(#[.tmp s,.const (.int .i64 1)]:Array cI).map (bJ bS C.ds.ds).eval=#[.pointer (some ⟨C.Wg,0,none⟩),.int .i64 1]:=by simp only[uR,jG,tK,vT];rw[h5]
  rw[wF] at x1;have zcg:=stepG_enter (main:=true) (b:=C.ds.base fn) (a:=⟨bS,C.ds.ds⟩) (rest:=rest) (cs:=C.base) (k:=k) ho uM hb x1;rw[zcg];unfold listed;rw[x2,Df,zF4 H]
 .refine addW (A:=C.A) (b₀:=C.ds.base fn) (a₀:=⟨bS,C.ds.ds⟩) (ops₀:=ops) (i₀:=i) (rest₀:=rest) (k₀:=k) (cs:=C.base) (Fin:=C.Fin) (l:=l) (nx:=nx) (Wg:=C.Wg) H qR kf (λW5 h5 zfu=>?_) Gu ⟨kf.suf _ _ s2 ⟨hw,hi.1⟩,s2.live hi.2⟩
  have hB:=h R W5 ⟨fn,(b7 ⟨bS,[]⟩ o.dst (.tuple #[])).tmps,.inRegion ops rest::k,false⟩ τ h5.1 ⟨rfl,rfl,rfl,Is (C:=C) hm.tmps (.tuple rfl λi v v' h=>by simp at h),Jj (C:=C) hm.pins kU⟩ ht (by rw[zhi];exact⟨h5.2,zfu⟩);rw[mX,Cx.B_none ha,zdw,B8] at hB;rw[ho];simp only[Option.bind_some];rw[Gk];exact hB
end
section
variable {L:Type}{C:Cx L}{l nx lc:L}
structure zmJ (τ τm τc:cC)(pub:List Nat)(W:aE):Prop where
 own:∀b,τm.own b\/τc.own b->τ.own b
 still:∀b,τm.still b\/τc.still b->τ.still b\/τ.own b
 pass:∀b,τm.pass b\/τc.pass b->τ.pass b\/τ.own b\/τ.still b
 apart:∀b,τm.own b->¬τc.own b/\¬τc.still b/\¬τc.pass b
 apart':∀b,τc.own b->¬τm.still b/\¬τm.pass b
 pub:∀a∈pub,τ.own a/\Jz W a/\¬τm.own a/\¬τm.still a/\¬τc.own a/\¬τc.still a
theorem BO.go (ha:C.alone=none)(hI:eZ C){fn:aN}{tmps:Array aF}{ops:Array aZ}{i j:Nat}{rest:List Nat}{k:List Item}{w:aE}{o1 o2:aZ}{s:Tmp}{f:aN}{Ho:Array cI}{pub:List Nat}
 (zE:ops[i]? =some o1) (zcu:ops[j]? =some o2) (qO:o1.guard=none) (oO:o2.guard=none) (zsE:o1.op=.makeFunc (.func f) #[] Ho) (Kc:o1.dst=some s) (zuh:o2.op=.go ⟨.value (.tmp s),#[],#[]⟩) (Bv:o2.dst=none) (qR:C.A.act l=.spawn pub lc nx) (hs:s<tmps.size)
 (h:∀(R:Pr) (W:aE) (bS:Array aF) (τ:cC),C.Rel R w W->bL (SF C.fs) C.K R tmps bS->(∀x∈C.pin,bS.getD x.1 aA=x.2)->vM τ R C.St->C.I R τ W->∃τm τc,zmJ τ τm τc pub W/\
  b6 C.p C.ty C.Wg C.A C.Fin C.main (.usr nx) 0 τm (G ((C.ds.base fn).at ⟨bS.setIfInBounds s (.func (.func f) #[] (Ho.map (bJ bS C.ds.ds).eval)),C.ds.ds⟩ (.inRegion ops rest::k)) C.base) W/\
  b6 C.p C.ty C.Wg C.A C.Fin false (.usr lc) 0 τc (born C.p {target:=.fn (.func f) (Ho.map (bJ bS C.ds.ds).eval),args:=#[]}) W):BO C l ⟨fn,tmps,.inRegion ops (i::j::rest)::k,false⟩ w:=by
 intro R W m' τ hw hm ht hi;obtain⟨fn',bS,y9,zI⟩:=m';obtain rfl:=hm.fn;obtain rfl:=hm.todo;obtain rfl:=hm.ret;have hb:=C.ds.ok;rw[mX,Cx.B_none ha];have cK:=Nat.lt_of_lt_of_eq hs hm.tmps.1;obtain⟨zJ9,zIZ,type1,zpe,zus,zKB⟩:=o1;obtain⟨zKi,zJf,type2,zvd,zpa,zIy⟩:=o2;simp only at qO oO zsE zuh Kc Bv;subst qO oO zsE zuh Kc Bv;have wn:∀{o:aZ} {t:Array aF},o.guard=none->dG o (yielded ops t)=true:=λh=>by unfold dG;rw[h]
 refine Nk rfl rfl (g':=G ((C.ds.base fn).at ⟨bS.setIfInBounds s (.func (.func f) #[] (Ho.map (bJ bS C.ds.ds).eval)),C.ds.ds⟩ (.inRegion ops (j::rest)::k)) C.base) (λaY s1=>?_) λaY s1=>?_
 .have x1:(aO (bJ bS C.ds.ds).eval ⟨some s,.makeFunc (.func f) #[] Ho,type1,zpe,zus,none⟩).run C.p aY=.ok (.value (.func (.func f) #[] (Ho.map (bJ bS C.ds.ds).eval))) aY:=by simp[aO,go_sem,zrQ,pure,bK]
  have x2:(aO (bJ bS C.ds.ds).eval ⟨some s,.makeFunc (.func f) #[] Ho,type1,zpe,zus,none⟩).events C.p aY #[]=#[]:=by simp[aO,go_sem,zrQ]
  rw[stepG_value zE (wn rfl) hb x1];unfold listed;rw[x2,Df];rfl
 .refine b6.usr rfl ?_
  unfold mR;rw[qR];refine⟨rfl,λGu s2=>?_⟩;have s3:=s1.trans s2;obtain⟨τm,τc,hp,wH,oP⟩:=h R Gu bS τ (hw.suf ht s3) hm.tmps hm.pins ht (hI.suf _ _ _ _ hi s3);refine⟨_,_,τm,τc,?_,rfl,rfl,hp.own,hp.still,hp.pass,hp.apart,hp.apart',hp.pub,wH,oP⟩;have x0:(bJ (bS.setIfInBounds s (.func (.func f) #[] (Ho.map (bJ bS C.ds.ds).eval))) C.ds.ds).eval (.tmp s)=.func (.func f) #[] (Ho.map (bJ bS C.ds.ds).eval):=by
   simp[vT,Array.getD_eq_getD_getElem?,cK]
  have x1:(aO (bJ (bS.setIfInBounds s (.func (.func f) #[] (Ho.map (bJ bS C.ds.ds).eval))) C.ds.ds).eval ⟨none,.go ⟨.value (.tmp s),#[],#[]⟩,type2,zvd,zpa,none⟩).run C.p Gu=.ok (.spawn {target:=.fn (.func f) (Ho.map (bJ bS C.ds.ds).eval),args:=#[]}) Gu:=by
   simp only[aO,resolve,x0];simp[C0,go_sem]
  have x2:(aO (bJ (bS.setIfInBounds s (.func (.func f) #[] (Ho.map (bJ bS C.ds.ds).eval))) C.ds.ds).eval ⟨none,.go ⟨.value (.tmp s),#[],#[]⟩,type2,zvd,zpa,none⟩).events C.p Gu #[]=#[]:=by
   simp only[aO,resolve,x0];simp[C0,go_sem]
  rw[stepG_spawn zcu (wn rfl) hb x1 rfl];unfold listed;rw[x2,Df];rfl
end
end Go.Mt
namespace Go.Mt
open Go.Conc Go.Tt
open Go.ConcR (KK wgBlock WgAt stA smA rd wr mk Payload DC0)
inductive xX (S:aN->Prop)(K R:Pr):List aF->List aF->Prop
 |nil:xX S K R [] []
 |cons {v v':aF} {l l':List aF}:VR S K R v v'->xX S K R l l'->xX S K R (v::l) (v'::l')
variable {S:aN->Prop}{K R:Pr}{l l':List aF}
theorem xX.len (h:xX S K R l l'):l.length=l'.length:=by
 induction h with
 |nil=>rfl
 |cons _ _ ih=>simp[ih]
theorem xX.get (h:xX S K R l l'):∀(i:Nat) (v v':aF),l[i]? =some v->l'[i]? =some v'->VR S K R v v':=by
 induction h with
 |nil=>simp_all
 |cons a _ ih=>grind
theorem zo9 (h:xX S K R l l'):bL S K R l.toArray l'.toArray:=
 ⟨by simpa using h.len,λi v v' h1 h2=>h.get i v v' Vq V9⟩
structure IM2 (W0:aE)(St:Nat->Prop)(Shun:Loc->Prop)(Wg:Nat)(SS:Nat->Prop)(R0:Pr)(Fz:Nat->Prop)(Wf:aE)(chs:List Nat)(R:Pr)(τ:cC)(W:aE):Prop where
 x:IMX W0 St Shun Wg SS R0 Fz Wf R τ W
 dis:∀b,τ.own b->¬τ.still b
 slt:∀b,τ.still b->b<W.heap.size
 ch:∀c∈chs,τ.own c/\Jz W c/\∀a,¬R a c
section
variable {W0:aE}{St:Nat->Prop}{Shun:Loc->Prop}{Wg:Nat}{SS:Nat->Prop}{R0:Pr}{Fz:Nat->Prop}{Wf:aE}{chs:List Nat}
def Jz.lt {W:aE}{c:Nat}(h:Jz W c):c<W.heap.size:=(eE.1 h).1
theorem zxH {ty:aM}(vG:∀b,b<W0.heap.size->SS b)(hF:∀b,Fz b->SS b)(o8:W0.heap.size<=Wg):IX ty Wg (IM2 W0 St Shun Wg SS R0 Fz Wf chs):=by
 have hx:=zuj (ty:=ty) (St:=St) (Shun:=Shun) (Wg:=Wg) (R0:=R0) (Wf:=Wf) vG hF o8;refine⟨λR τ W aY h s=>⟨hx.suf _ _ _ _ h.x s,h.dis,λb hb=>jW (h.slt b hb) s.size,λc hc=>?_⟩,λR τ W a v h ha=>⟨hx.cell _ _ _ _ _ h.x ha,h.dis,λb hb=>by rw[Sj];exact h.slt b hb,λc hc=>?_⟩,λR τ W d h=>⟨hx.at_ _ _ _ d h.x,h.dis,h.slt,h.ch⟩,λR τ W h=>h.x.im.rel⟩
 .obtain⟨h1,h2,h3⟩:=h.ch c hc
  exact⟨h1,(s.keep c (.inl h1)).trans h2,h3⟩
 .obtain⟨h1,h2,h3⟩:=h.ch c hc
  exact⟨h1,(zax W a v (by rw[ha];exact h.x.im.own c h1)).trans h2,h3⟩
variable {L:Type}{C:Cx L}
theorem im2_ok (hC:C.I=zD C.ty C.Wg (IM2 W0 St Shun C.Wg SS R0 Fz Wf chs))(aX:∀a,St a->C.St a)(vG:∀b,b<W0.heap.size->SS b)(hF:∀b,Fz b->SS b)(o8:W0.heap.size<=C.Wg):eZ C:=by
 have h0:=imx_ok (C:={C with I:=zD C.ty C.Wg (IMX W0 St Shun C.Wg SS R0 Fz Wf)}) rfl aX vG hF o8;have hx:=zxH (ty:=C.ty) (St:=St) (Shun:=Shun) (R0:=R0) (Wf:=Wf) (chs:=chs) vG hF o8;refine⟨λR τ W aY h s=>?_,λR τ W R1 W1 h ht hs=>?_⟩<;>rw[hC] at*
 .exact⟨hx.suf _ _ _ _ h.1 s,s.live h.2⟩
 .obtain⟨k1,k2⟩:=h0.step R τ W R1 W1 ⟨h.1.x,h.2⟩ ht hs
  refine⟨⟨k1,λb hb H7=>?_,λb hb=>jW (h.1.slt b hb) hs.size,λc hc=>?_⟩,k2⟩
  .rcases hb with hb|⟨hb,_⟩
   .exact h.1.dis b hb H7
   .have:=h.1.slt b H7;omega
  .obtain⟨h1,h2,h3⟩:=h.1.ch c hc
   refine⟨.inl h1,(hs.keep c h2.lt λa x=>absurd x (h3 a)).trans h2,λa x=>?_⟩;rcases hs.new a c x with y|⟨y,_⟩
   .exact h3 a y
   .have:=h2.lt;omega
variable {S:aN->Prop}{K R:Pr}{G:Gp}{eI:Nat->Prop}{w W:aE}{τ:cC}{X:Nat->Bool}
def H8 (R:Pr)(St:Nat->Prop)(X:Nat->Bool)(b:Nat):Prop:=∃a,R a b/\(St a\/X a=true)
def tauP (R:Pr)(St:Nat->Prop)(W0:aE)(chs:List Nat):cC:=⟨λb=>(∃a,R a b/\¬St a)\/b∈chs,λb=>b<W0.heap.size\/∃a,R a b/\St a,λ_=>False⟩
def terra_p:vM (tauP R St W0 chs) R St:=λa b x=>⟨λh=>.inr ⟨a,x,h⟩,λh=>.inl ⟨a,x,h⟩⟩
end
end Go.Mt
