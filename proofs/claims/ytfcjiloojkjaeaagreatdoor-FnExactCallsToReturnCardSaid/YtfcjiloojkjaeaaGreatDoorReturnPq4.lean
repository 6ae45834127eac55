/-
  Part 4 of what stands behind the last text.
-/
import Derived.Lib.SlicesDelete
import Derived.Test.YtfcjiloojkjaeaaGreatDoorShelf
import Derived.Test.YtfcjiloojkjaeaaGreatDoorReturnPq3
set_option linter.all false
set_option maxHeartbeats 16000000
set_option maxRecDepth 100000
open Array renaming eraseIdxIfInBounds→zpp,getElem?_eq_some_iff→dQ,getElem?_mapIdx→M3,getElem?_setIfInBounds_ne→jP,getElem?_toList→Ai,getElem_map→znK,getElem_range→zkF,getElem_toList→zm8,length_toList→Dj,toList_eraseIdx→zn3,toList_modify→zuO,toList_push→zuQ
open Bool renaming and_eq_true→fT
open Go renaming Act→tP,Addr→bL,Calls→fH,ChanDir→Mm,Deferred→Ee,Exit→nZ,FuncId→aO,MapEntry→oX,Oper→aZ,Operand→cN,Program→bR,TypeId→aM,Value→aF,World→aE,bodyPost_ret→qY,execOp→aS,heap_alloc_new→lP,info_parts→y3,run_append_room→zwT,run_storeCells_at→zrg,run_underlying→wQ,setRow_heap→Ki,size_zeroCells→Zk,undef→aA,wpList_plain→S9
open Go.Act renaming eval→wA,mk→bJ,put→cC
open Go.Addr renaming add_lit→Ly
open Go.Builtin renaming append_→wL,clear_→Uj,copy_→C5,delete_→J7,zeroCells→p8
open Go.Code renaming region→E6
open Go.Conc renaming base→Kw,enter_at→zn0,seen_none→Ce
open Go.ConcR.Gen renaming body_add→Mi
open Go.Deferred renaming ofValue→Co
open Go.Frame renaming enter→Fq
open Go.Instr renaming checkKey→Gl,findAsking→Kg,findKey→K3,findNow→Hf,keyThatStays→Pf,lookup→zP,makeFunc→zx9,mapUpdate→G6,sameBits→za5,sameNow→vY
open Go.MapKept renaming run_getObj_map→Zh,run_setObj_map→X4
open Go.MemAct renaming ofEvent→jJ,touch?→qG
open Go.Op renaming mapUpdate→ztA,maxDepth→Qw
open Go.Oper renaming wp→B8
open Go.Proofs.Tryz renaming checked→vL,func114→zpt,func117→zw6,func119→zoN,ntmps114→zxI,ntmps117→zqN,ntmps119→ztL,prog→aK,results40→zfM,underlying26→zvX,underlying38→Xq,underlying66→zsF,underlying69→zhI
open Go.Region renaming wanted→dD
open Go.Result renaming andThen→uD,andThen_ok→Fa,ok→wD
open Go.RowKit renaming Below→bU
open Go.RowKit.Below renaming heap_alloc→rA,heap_setCell→eJ,refl→eG
open Go.Sem renaming getObj→zrM,run→bD,run_bind→Et,run_pure→Jd
open Go.Value renaming agg→zkQ,cells→Ux,slice→Q1
open Go.World renaming cell?_of_block→Cw,news_of_block→E7,size_setCell→sU
open List renaming all_eq_true→tU,any_eq_true→Uf,append_assoc→Jn,append_nil→N0,countP_cons→zwM,drop_drop→zqE,drop_eq_getElem_cons→zgo,eraseIdx_cons_succ→zx3,ext_getElem?→Ra,filter_append→Qk,filter_eq_nil_iff→zrL,filter_eq_self→zfl,find?_eq_none→zfV,find?_some→zjN,foldl_cons→Qn,getD_cons_succ→Cy,getD_cons_zero→C2,getD_eq_getElem?_getD→Jx,getElem?_append_left→zI,getElem?_append_right→Ao,getElem?_drop→Vo,getElem?_eq_getElem→lV,getElem?_eq_none→Ca,getElem?_eq_none_iff→zrw,getElem?_eq_some_iff→jX,getElem?_modify→zS,getElem?_set→zau,getElem?_take→Xl,length_append→gM,length_cons→pX,length_drop→xS,length_eq_zero_iff→zp3,length_modify→Gj,length_nil→r8,length_set→zjP,length_take→rU,map_append→Hr,map_cons→fL,map_nil→tM,map_toArray→uW,mem_append→E5,mem_cons→jH,mem_cons_of_mem→Fw,mem_filter→Ia,mem_iff_getElem→L9,mem_iff_getElem?→Gq,mem_map→Jr,mem_map_of_mem→Vj,mem_of_find?_eq_some→zdr,mem_of_getElem?→dX,mem_of_mem_drop→zcl,mem_range→Bh,mem_singleton→sK,nodup_append→zi9,nodup_cons→C4,nodup_nil→Ou,range→gN,setIfInBounds_toArray→gI,set_append_left→zsk,set_cons_succ→dS,set_cons_zero→dW,size_toArray→Ej,take_add_one→N3,take_append_drop→zrT,take_append_of_le_length→Es,take_of_length_le→zZ,take_take→O2
open Nat renaming add_mul→Zn,add_zero→Qx,eq_zero_or_pos→Pv,le_max_left→znX,le_refl→aV,le_succ→Tg,le_trans→eM,lt_irrefl→Bt,lt_of_lt_of_le→lE,lt_or_ge→mY,lt_succ_self→xD,min_self→ziU,mod_two_eq_zero_or_one→zs2,mul_le_mul_right→Aa,mul_one→zuh,sub_self→Mx,zero_le→jO
open Option.some renaming inj→cE,injEq→fY
open Prod renaming fst→uK,snd→zxg
noncomputable section
namespace Go
def cS{P:Prop}(h:P:=by unfold parts;simp[e]):P:=h
def zeu{P:Prop}(h:P:=by simp[Act.eval,Act.put];first|exact⟨by simpa using hA,by omega⟩|simpa[zg6] using hA|(simp at hA;simp[hA])):P:=h
def zfJ{P:Prop}(h:P:=by simp[Act.eval,Act.put]):P:=h
def zxk{P:Prop}(h:P:=by rw[gM,l1,uZ];have:=Zn i (n-j) 1;omega):P:=h
def zqm{P:Prop}(h:P:=by rw[gM,l1,uZ];have:=Zn i (n-j) 2;omega):P:=h
def zeb{P:Prop}(h:P:=by unfold parts;simp):P:=h
def zi3{P:Prop}(h:P:=by have:=h.size;omega):P:=h
def zjl{P:Prop}(h:P:=by unfold zK;omega):P:=h
end Go
namespace Go.Proofs.YtfcjiloojkjaeaaGreatDoor
open Go.RowKit
structure tF (w0 w:aE)(gb:Nat)(o:jN)(v:fM)(r:b6):Prop where
 ok:eA w gb v r
 bel:bU gb w0 w
 ofc:w.heap[gb]? =some (.cells #[.int .i64 o.ln,.int .i64 o.op,.int .i64 o.pt] 29)
 res:w.heap[gb+1]? =some jV
 blk:w.heap[gb+6]? =some (Gy v r)
 aR:gb+2<=v.gR/\v.gR≠gb+6
 aW:gb+2<=v.gW/\v.gW≠gb+6
 aB:gb+2<=v.gB/\v.gB≠gb+6
 aL:gb+2<=v.gL/\v.gL≠gb+6
 size:gb+7<=w.heap.size
section
variable {w0 w w':aE}{gb:Nat}{o:jN}{v v':fM}{r r':b6}
def tF.keep (h:tF w0 w gb o v r)(b:bU w.heap.size w w'):tF w0 w' gb o v r:=
 ⟨h.ok.below b,h.bel.trans (b.mono zi3),(b.block _ (gA h.ofc)).trans h.ofc,(b.block _ (gA h.res)).trans h.res,(b.block _ (gA h.blk)).trans h.blk,h.aR,h.aW,h.aB,h.aL,eM h.size b.size⟩
def tF.alloc (h:tF w0 w gb o v r)(ob:Obj):tF w0 (w.alloc ob) gb o v r:=h.keep (dO (eG _ _) ob)
def tF.drew (h:tF w0 w gb o v r):tF w0 w.drew gb o v r:=h.keep ⟨rfl,rfl,rfl,aV _,λ_ _=>rfl⟩
theorem tF.stepped (h:tF w0 w gb o v r)(ok:eA w' gb v' r')(t:oG v w w')(m:xH w.heap.size v v'):
 bU gb w0 w'/\w'.heap[gb]? =w.heap[gb]? /\w'.heap[gb+1]? =w.heap[gb+1]? /\w'.heap[gb+6]? =w.heap[gb+6]? /\(gb+2<=v'.gR/\v'.gR≠gb+6)/\(gb+2<=v'.gW/\v'.gW≠gb+6)/\(gb+2<=v'.gB/\v'.gB≠gb+6)/\(gb+2<=v'.gL/\v'.gL≠gb+6)/\w.heap.size<=w'.heap.size:=by
 have aR:=h.aR;have aW:=h.aW;have aB:=h.aB;have aL:=h.aL;have mr:=m.r;have mw:=m.w;have mb:=m.b;have ml:=m.l;have sz:=h.size;refine⟨⟨t.os.trans h.bel.os,t.tape.trans h.bel.tape,t.output.trans h.bel.output,eM h.bel.size t.size,λb hb=>?_⟩,t.block _ aC aC aC,t.block _ aC aC aC,t.block _ aC aC aC,aC,aC,aC,aC,t.size⟩;exact(t.block b aC aC aC).trans (h.bel.block b hb)
theorem tF.stored (ok:eA w gb v' r')(bel:bU gb w0 w)(e0:w.heap[gb]? =some (.cells #[.int .i64 o.ln,.int .i64 o.op,.int .i64 o.pt] 29))(e1:w.heap[gb+1]? =some jV)(e6:w.heap[gb+6]? =some (Gy v r))
 (a1:gb+2<=v'.gR/\v'.gR≠gb+6) (a2:gb+2<=v'.gW/\v'.gW≠gb+6) (a3:gb+2<=v'.gB/\v'.gB≠gb+6) (a4:gb+2<=v'.gL/\v'.gL≠gb+6) (sz:gb+7<=w.heap.size):
 tF w0 (gV w (gb+6) (.int .i64 r'.o.ln) (.int .i64 r'.o.op) (.int .i64 r'.o.pt) (.int .i64 r'.clk) (v'.sR r') (v'.sW r') (v'.sB r') (v'.sL r')) gb o v' r':=by
 refine⟨ok.set8 aC,?_,(Hc aC).trans e0,(Hc aC).trans e1,zb4 e6,a1,a2,a3,a4,by rw[zmN];exact sz⟩;have c:=ze4 w (gb+6) (.int .i64 r'.o.ln) (.int .i64 r'.o.op) (.int .i64 r'.o.pt) (.int .i64 r'.clk) (v'.sR r') (v'.sW r') (v'.sB r') (v'.sL r');exact bel.trans ⟨c.os,c.tape,c.output,c.size,λb hb=>c.block b aC aC⟩
theorem tF.appL {m g c:Nat}{x:List UInt8}(h:tF w0 w gb o v r)(hg:w.grownBy w' (some v.gL))(ho:w'.ownsRow gb 9 1 (.slice (some ⟨g,0,none⟩) m c) m (Eh r.log++[.string ⟨x.toArray⟩]))(hm:m=r.log.length+1)(hw:g=v.gL\/g=w.heap.size):
 tF w0 (w'.setCell ⟨gb+6,7,none⟩ (.slice (some ⟨g,0,none⟩) m c)) gb o {v with gL:=g,cL:=c} {r with log:=r.log++[x]}:=by
 have aR:=h.aR;have aW:=h.aW;have aB:=h.aB;have aL:=h.aL;have sz:=h.size;have l:=h.ok.lts;have hk:=h.ok.appL hg ho hm aC;have hs:=hg.size;have kb:=(zD hg h.blk aC).1;have k0:=(zD hg h.ofc aC).1;have k1:=(zD hg h.res aC).1;have aT:g≠gb+6:=aC;refine⟨hk.setCell (by refine⟨?_,?_,?_,?_⟩<;>(simp only;omega)),?_,(eJ w' _ _ gb (by show gb≠gb+6;omega)).trans k0,(eJ w' _ _ (gb+1) (by show gb+1≠gb+6;omega)).trans k1,?_,aR,aW,aB,⟨by simp only;omega,aT⟩,by rw[sU];omega⟩
 .refine⟨hg.os.trans h.bel.os,hg.tape.trans h.bel.tape,hg.output.trans h.bel.output,by rw[sU];exact eM h.bel.size hs,λb hb=>?_⟩
  exact((eJ w' _ _ b (by show b≠gb+6;omega)).trans (hg.block b aC qR)).trans (h.bel.block b hb)
 .rw[nQ kb]
  have e:=room_L v r g c (r.log++[x]);rw[hm];simp only[gM,pX,r8] at e;exact congrArg (λa=>some (Obj.cells a 59)) e
end
def zJJ (o:jN)(es:List dG)(w:aE)(x:Ending)(w':aE):Prop:=
 ∃v,x=.returned (.tuple #[.agg (fU v (y5 o es)),.bool (j9 o es)])/\eA w' w.heap.size v (y5 o es)/\bU w.heap.size w w'
variable {w0 w:aE}{gb:Nat}{o:jN}{v:fM}{r:b6}
theorem tF.done {a0 a1 a2 a3 a4 a5 a6 a7:aF}(h:tF w0 w gb o v r):eA (gV w (gb+1) a0 a1 a2 a3 a4 a5 a6 a7) gb v r/\bU gb w0 (gV w (gb+1) a0 a1 a2 a3 a4 a5 a6 a7):=by
 have aR:=h.aR;have aW:=h.aW;have aB:=h.aB;have aL:=h.aL;refine⟨h.ok.set8 aC,?_⟩;have c:=ze4 w (gb+1) a0 a1 a2 a3 a4 a5 a6 a7;exact h.bel.trans ⟨c.os,c.tape,c.output,c.size,λb hb=>c.block b zi3 aC⟩
def tF.doneR (h:tF w0 w gb o v r)(v1:fM)(r1:b6):eA (gV w (gb+1) (.int .i64 r1.o.ln) (.int .i64 r1.o.op) (.int .i64 r1.o.pt) (.int .i64 r1.clk) (v1.sR r1) (v1.sW r1) (v1.sB r1) (v1.sL r1)) gb v r/\bU gb w0 (gV w (gb+1) (.int .i64 r1.o.ln) (.int .i64 r1.o.op) (.int .i64 r1.o.pt) (.int .i64 r1.clk) (v1.sR r1) (v1.sW r1) (v1.sB r1) (v1.sL r1)):=h.done
def zJw {w':aE}{b g o1:Nat}{o2 o3 o4:Nat}{v1 v2 v3 v4:aF}(h:w.cell? ⟨b,o1,none⟩=some v1/\w.cell? ⟨b,o2,none⟩=some v2/\w.cell? ⟨b,o3,none⟩=some v3/\w.cell? ⟨g,o4,none⟩=some v4)(k1:w'.heap[b]? =w.heap[b]?)(k2:w'.heap[g]? =w.heap[g]?):
 w'.cell? ⟨b,o1,none⟩=some v1/\w'.cell? ⟨b,o2,none⟩=some v2/\w'.cell? ⟨b,o3,none⟩=some v3/\w'.cell? ⟨g,o4,none⟩=some v4:=
 ⟨(Cw k1).trans h.1,(Cw k1).trans h.2.1,(Cw k1).trans h.2.2.1,(Cw k2).trans h.2.2.2⟩
def zDC {b g o1:Nat}{o2 o3 o4:Nat}{v1 v2 v3 v4:aF}(h:w.cell? ⟨b,o1,none⟩=some v1/\w.cell? ⟨b,o2,none⟩=some v2/\w.cell? ⟨b,o3,none⟩=some v3/\w.cell? ⟨g,o4,none⟩=some v4):
 w.drew.cell? ⟨b,o1,none⟩=some v1/\w.drew.cell? ⟨b,o2,none⟩=some v2/\w.drew.cell? ⟨b,o3,none⟩=some v3/\w.drew.cell? ⟨g,o4,none⟩=some v4:=h
def zFV (w:aE)(b:Nat):w.drew.heap[b]? =w.heap[b]? :=rfl
def zsX:(aK.info? 9).map (λi=>(i.zero,i.size,i.bytes))=some (some (.string ⟨#[]⟩),1,16):=aQ
variable {es:List dG}
theorem Zb (h:j9 o es=false):y5 o es=lW o:=by unfold y5;rw[h];rfl
theorem zC9 (o:jN)(lo hi n c:Nat)(A:Option bL)(es:List dG)(w:aE)(h:b7 w lo hi 3 A n c (lM es))(hn:n<=1048576)(Ts:hi<=w.heap.size):
 fH aK 40 #[.agg #[.int .i64 o.ln,.int .i64 o.op,.int .i64 o.pt],.slice A n c] w (zJJ o es w):=by
 have Ck:=h.eventsLen;have Py:=aD Ck;obtain⟨gb,eV⟩:=aU w.heap.size;have fS:=aD eV;clear Ck
 go_enter Tryz.func40,Tryz.ntmps40
 go_upto_region 2 with fail
 obtain⟨v0,fI⟩:=aU (⟨w.heap.size+1+1,0,w.heap.size+1+1+1,0,w.heap.size+1+1+1+1,0,w.heap.size+1+1+1+1+1,0⟩:fM)
 obtain⟨W1,dE⟩:∃y,y=(((((((w.alloc (.cells #[.int .i64 o.ln,.int .i64 o.op,.int .i64 o.pt] 29)).alloc jV).alloc (.cells #[] 50)).alloc (.cells #[] 100)).alloc (.cells #[] 100)).alloc (.cells #[] 9)).alloc
  (.cells #[.int .i64 o.ln,.int .i64 o.op,.int .i64 o.pt,.int .i64 0,.slice (some ⟨w.heap.size+1+1,0,none⟩) 0 0,.slice (some ⟨w.heap.size+1+1+1,0,none⟩) 0 0,.slice (some ⟨w.heap.size+1+1+1+1,0,none⟩) 0 0,.slice (some ⟨w.heap.size+1+1+1+1+1,0,none⟩) 0 0] 59)):=⟨_,rfl⟩
 have eZ:=aD (show tF w W1 gb o v0 (lW o) by
  have mX:bU w.heap.size w W1:=by rw[dE];exact dO (dO (dO (dO (dO (dO (dO (eG _ _) _) _) _) _) _) _) _
  refine⟨⟨?_,?_,?_,?_,?_⟩,by rw[eV];exact mX,?_,?_,?_,?_,?_,?_,?_,?_⟩
  .rw[fI];exact M9 Ku (by rw[dE];exact dH (dH (dH (dH (mI _ _ aP) _) _) _) _)
  .rw[fI];exact M9 Ku (by rw[dE];exact dH (dH (dH (mI _ _ aP) _) _) _)
  .rw[fI];exact M9 Ku (by rw[dE];exact dH (dH (mI _ _ aP) _) _)
  .rw[fI];exact M9 Ku (by rw[dE];exact dH (mI _ _ aP) _)
  .rw[fI];simp only;omega
  .rw[dE];exact dH (dH (dH (dH (dH (dH (mI _ _ eV) _) _) _) _) _) _
  .rw[dE];exact dH (dH (dH (dH (dH (mI _ _ Y4) _) _) _) _) _
  .rw[dE,fI];exact mI _ _ Y4
  .rw[fI];simp only;omega
  .rw[fI];simp only;omega
  .rw[fI];simp only;omega
  .rw[fI];simp only;omega
  .rw[dE,eV];simp)
 rw[<-dE];have e6:w.heap.size+1+1+1+1+1+1=gb+6:=aC;rw[e6,<-eV];clear dE fI e6 eV;have q0:=aJ eZ.o.ofc 0;have q1:=aJ eZ.o.ofc 1;have q2:=aJ eZ.o.ofc 2;cases hv:sE o
 case false=>
  have fK:=aD (show j9 o es=false by unfold j9;rw[hv];rfl)
  go_upto_region 3 with(go_at_call 34;refine(@zhS (lW o,[]) o W1).mono ?_;rintro x w2 ⟨rfl,b2⟩;have rN:=aD b2;rw[hv];clear b2)
  have nI:=aD (eZ.o.keep rN.o);clear q0 q1 q2;have k:=aJ nI.o.blk;obtain⟨k0,k1,k2,k3,k4,k5,k6,k7⟩:=eR k;clear k;have z:=aJ nI.o.res;obtain⟨z0,z1,z2,z3,z4,z5,z6,z7⟩:=eR z;clear z;have r0:=eK nI.o.res
  go_wp2_with fail
  have er:=aJ (sZ v0 (lW o) nI.o.res);refine qY (v:=.tuple #[.agg (fU (v0) (lW o)),.bool false]) ?_ rfl ?_
  .unfold gV at er
   simp[results,zfM,go_sem,er]
  .obtain⟨d1,d2⟩:=nI.o.doneR v0 (lW o)
   exact⟨v0,by rw[fK.o];rw[Zb fK.o],by rw[Zb fK.o,<-fS.o];exact d1,by rw[<-fS.o];exact d2⟩
 case true=>
  by_cases Xo:n<=60
  case neg=>
   have fK:=aD (show j9 o es=false by unfold j9;rw[hv,Py.o];simp;intro h;omega)
   go_upto_region 3 with(go_at_call 34;refine(@zhS (lW o,[]) o W1).mono ?_;rintro x w2 ⟨rfl,b2⟩;have rN:=aD b2;rw[hv];clear b2)
   have nI:=aD (eZ.o.keep rN.o);clear q0 q1 q2;have k:=aJ nI.o.blk;obtain⟨k0,k1,k2,k3,k4,k5,k6,k7⟩:=eR k;clear k;have z:=aJ nI.o.res;obtain⟨z0,z1,z2,z3,z4,z5,z6,z7⟩:=eR z;clear z;have r0:=eK nI.o.res
   go_wp2_with fail
   have er:=aJ (sZ v0 (lW o) nI.o.res);refine qY (v:=.tuple #[.agg (fU (v0) (lW o)),.bool false]) ?_ rfl ?_
   .unfold gV at er
    simp[results,zfM,go_sem,er]
   .obtain⟨d1,d2⟩:=nI.o.doneR v0 (lW o)
    exact⟨v0,by rw[fK.o];rw[Zb fK.o],by rw[Zb fK.o,<-fS.o];exact d1,by rw[<-fS.o];exact d2⟩
  case pos=>
   have HV:=aD hv
   go_upto_region 4 with(go_at_call 34;refine(@zhS (lW o,[]) o W1).mono ?_;rintro x w2 ⟨rfl,b2⟩;have rN:=aD b2;rw[hv];clear b2)
   have nI:=aD (eZ.o.keep rN.o);clear q0 q1 q2 hv
   go_wp2_with fail
   go_loopw [7] (λi wr=>∃k:Nat,k<=n/\i=.int .i64 k/\tF w wr gb o v0 (lW o)/\∀j,j<k->∀e,es[j]? =some e->sN o.op e=true) (λi _=>n-(intOf i).toNat)
   case atStart=>exact⟨0,jO _,rfl,nI.o,λj hj=>absurd hj aC⟩
   case round=>
    obtain⟨k,hk,rfl,Vp,fV⟩:=hrel;have HC:=aD fV;have Vv:=aD Vp;clear fV Vp;by_cases aN:k<n
    .obtain⟨b,off,e,hA,dV,zBR,zkv,Eo,e0,e1,e2⟩:=(h.below (fS.o▸Vv.o.bel)).eventsAt aN
     subst hA;have Mv:=aD Eo;have zAZ:b<gb:=by have:=fS.o;omega
     have i0:(0:Int)<=(k:Int):=aC;have i1:(k:Int)<(n:Int):=aC;have Df:=aD (And.intro e0 (And.intro e1 (And.intro e2 (show wr.cell? ⟨gb,1,none⟩=some (.int .i64 o.op) from aJ Vv.o.ofc 1))));have zko:gb<wr.heap.size:=gA Vv.o.ofc;clear Eo e0 e1 e2
     go_wp2_with fail
     go_region_held3 (λW=>W.cell? ⟨b,off+k*3,none⟩=some (.string e.k)/\W.cell? ⟨b,off+k*3+1,none⟩=some (.int .i64 e.a)/\W.cell? ⟨b,off+k*3+2,none⟩=some (.int .i64 e.b)/\W.cell? ⟨gb,1,none⟩=some (.int .i64 o.op))
      (first|exact Df.o|exact zDC Df.o|exact S5)
      ((go_at_call 50;refine(@zDs (lW o,[]) e o.op wr.drew).mono ?_;rintro y w5 ⟨rfl,b5⟩;have zdO:bU wr.heap.size wr w5:=⟨b5.os,b5.tape,b5.output,b5.size,b5.block⟩;have C9:=aD zdO;have S5:=zJw Df.o (zdO.block b aC) (zdO.block gb aC);clear b5 zdO))
     cases mP:sN o.op e
     .have fK:=aD (show j9 o es=false by
       unfold j9;rw[Bool.and_eq_false_iff];refine .inr (Bool.eq_false_iff.2 λsX=>?_);rw[tU] at sX;have:=sX e (dX Mv.o);rw[mP] at this;cases this)
      have nI:=aD (Vv.o.keep C9.o);clear mP S5;have k:=aJ nI.o.blk;obtain⟨k0,k1,k2,k3,k4,k5,k6,k7⟩:=eR k;clear k;have z:=aJ nI.o.res;obtain⟨z0,z1,z2,z3,z4,z5,z6,z7⟩:=eR z;clear z;have r0:=eK nI.o.res
      go_wp2_with fail
      have er:=aJ (sZ v0 (lW o) nI.o.res);refine qY (v:=.tuple #[.agg (fU (v0) (lW o)),.bool false]) ?_ rfl ?_
      .unfold gV at er
       simp[results,zfM,go_sem,er]
      .obtain⟨d1,d2⟩:=nI.o.doneR v0 (lW o)
       exact⟨v0,by rw[fK.o];rw[Zb fK.o],by rw[Zb fK.o,<-fS.o];exact d1,by rw[<-fS.o];exact d2⟩
     .go_wp2_with fail
      go_roundw
      case rel=>exact⟨k+1,aC,nC,Vv.o.keep C9.o,λj hj e' Mw=>by
       by_cases e:j=k
       .subst e;rw[Mv.o] at Mw;injection Mw with Mw;exact Mw▸mP
       .exact HC.o j aC e' Mw⟩
      case measure=>simp[intOf];omega
    .have e:k=n:=aC
     subst e;have bV:j9 o es=true:=by
      unfold j9;rw[HV.o,Py.o];simp only[Bool.true_and,fT,decide_eq_true_eq,tU];refine⟨Xo,λe he=>?_⟩;obtain⟨j,hj⟩:=Gq.1 he;have tY:=(jX.1 hj).1;exact HC.o j (by rw[<-Py.o];exact tY) e hj
     have fK:=aD bV;have zB4:=aD (N9 bV);clear bV
     go_wp2_with fail
     go_loopw [8] (λi wr=>∃(j:Nat) (v1:fM),j<=k/\i=.int .i64 j/\tF w wr gb o v1 (mK o es j)) (λi _=>k-(intOf i).toNat)
     case atStart=>exact⟨0,v0,jO _,rfl,Vv.o⟩
     case round=>
      obtain⟨j,v1,hj,rfl,Vp⟩:=hrel;obtain⟨tI,tC,tO⟩:=zB4.o j (by rw[Py.o];exact hj);obtain⟨r1,kG⟩:=aU (mK o es j);rw[<-kG] at Vp tI tC tO;have lO:=aD kG;have lI:=aD Vp;clear kG Vp;by_cases aN:j<k
      .obtain⟨b,off,e,hA,dV,zBR,zkv,Eo,e0,e1,e2⟩:=(h.below (fS.o▸lI.o.bel)).eventsAt aN
       subst hA;have zAZ:b<gb:=by have:=fS.o;omega
       have i0:(0:Int)<=(j:Int):=aC;have i1:(j:Int)<(k:Int):=aC;have zsa:=aD (tI.good tC aC);have zjT:=aD (show sN r1.o.op e=true by
        rw[tO];have:=fK.o;unfold j9 at this;simp only[fT,tU] at this;exact this.2 e (dX Eo))
       have zqo:=aD (Vq (o:=o) Eo);have oU:r1.log.length<=60:=by have:=tC.nl;omega
       have zhT:=aD (And.intro e0 (And.intro e1 e2));have cG:=lI.o.size;have zko:gb<=wr.heap.size:=aC;have zui:=aD (RInv.step (e:=e) tI tC (by rw[tO];exact tO▸zjT.o) aC);clear tI tC tO Eo e0 e1 e2;have zhj:=aD (show∀W:aE,W.heap[b]? =wr.heap[b]? ->W.heap[gb+6]? =wr.heap[gb+6]? ->(W.cell? ⟨b,off+j*3,none⟩=some (.string e.k)/\W.cell? ⟨b,off+j*3+1,none⟩=some (.int .i64 e.a)/\W.cell? ⟨b,off+j*3+2,none⟩=some (.int .i64 e.b)/\W.cell? ⟨gb+6,0,none⟩=some (.int .i64 r1.o.ln)/\W.cell? ⟨gb+6,1,none⟩=some (.int .i64 r1.o.op)/\W.cell? ⟨gb+6,2,none⟩=some (.int .i64 r1.o.pt)/\W.cell? ⟨gb+6,3,none⟩=some (.int .i64 r1.clk)/\W.cell? ⟨gb+6,4,none⟩=some (v1.sR r1)/\W.cell? ⟨gb+6,5,none⟩=some (v1.sW r1)/\W.cell? ⟨gb+6,6,none⟩=some (v1.sB r1)/\W.cell? ⟨gb+6,7,none⟩=some (v1.sL r1)) from λW h1 h2=>by
        have k:=aJ (h2.trans lI.o.blk);exact⟨(Cw h1).trans zhT.o.1,(Cw h1).trans zhT.o.2.1,(Cw h1).trans zhT.o.2.2,k 0,k 1,k 2,k 3,k 4,k 5,k 6,k 7⟩)
       have Df:=aD (zhj.o wr.drew rfl rfl);have zAC:=aD (zhj.o wr rfl rfl);have z6:gb+6<wr.heap.size:=aC;have zb:b<wr.heap.size:=aC;have aR:=lI.o.aR;have aB:=lI.o.aB
       go_wp2_with fail
       go_region_held3 (λW=>W.cell? ⟨b,off+j*3,none⟩=some (.string e.k)/\W.cell? ⟨b,off+j*3+1,none⟩=some (.int .i64 e.a)/\W.cell? ⟨b,off+j*3+2,none⟩=some (.int .i64 e.b)/\W.cell? ⟨gb+6,0,none⟩=some (.int .i64 r1.o.ln)/\W.cell? ⟨gb+6,1,none⟩=some (.int .i64 r1.o.op)/\W.cell? ⟨gb+6,2,none⟩=some (.int .i64 r1.o.pt)/\W.cell? ⟨gb+6,3,none⟩=some (.int .i64 r1.clk)/\W.cell? ⟨gb+6,4,none⟩=some (v1.sR r1)/\W.cell? ⟨gb+6,5,none⟩=some (v1.sW r1)/\W.cell? ⟨gb+6,6,none⟩=some (v1.sB r1)/\W.cell? ⟨gb+6,7,none⟩=some (v1.sL r1))
        (first|with_reducible exact Df.o|with_reducible exact zAC.o|with_reducible exact zhj.o _ ztb zts|(with_reducible refine zhj.o _ ?_ ?_<;>(repeat' (first|with_reducible assumption|with_reducible rfl|(refine(zFV _ _).trans ?_)|(refine(eJ _ _ _ _ ?_).trans ?_;(first|omega|(simp;omega)))|(refine(rA _ _ _ ?_).trans ?_;(first|omega|(simp;omega)))))))
        (first|(go_at_call 51;refine(zrX gb v1 r1 e wr.drew lI.o.drew.ok zsa.o zko zjT.o).mono ?_;rintro y w5 ⟨v5,rfl,bV,jQ,xK⟩;obtain⟨r5,fG⟩:=aU ((eU r1 e).1:b6);obtain⟨t5,oY⟩:=aU ((eU r1 e).2:List UInt8);rw[<-fG] at bV⊢;rw[<-oY];have o7:=aD fG;have Cu:=aD oY;have wG:=aD bV;have uG:=aD jQ;have oK:=aD xK;have ztb:w5.heap[b]? =wr.heap[b]? :=jQ.block b zb aC aC;have zts:w5.heap[gb+6]? =wr.heap[gb+6]? :=jQ.block (gb+6) z6 aC aC;have z5:wr.heap.size<=w5.heap.size:=jQ.size;have N5:=aD lI.o.drew;clear fG oY bV jQ xK)|(go_at_call 51;refine(zrX gb v1 r1 e (wr.alloc jV).drew (lI.o.alloc jV).drew.ok zsa.o (by show gb<=(wr.alloc jV).heap.size;simp;omega) zjT.o).mono ?_;rintro y w5 ⟨v5,rfl,bV,jQ,xK⟩;obtain⟨r5,fG⟩:=aU ((eU r1 e).1:b6);obtain⟨t5,oY⟩:=aU ((eU r1 e).2:List UInt8);rw[<-fG] at bV⊢;rw[<-oY];have o7:=aD fG;have Cu:=aD oY;have wG:=aD bV;have uG:=aD jQ;have oK:=aD xK;have ztb:w5.heap[b]? =wr.heap[b]? :=(jQ.block b (by show b<(wr.alloc jV).heap.size;simp;omega) aC aC).trans (rA wr jV b zb);have zts:w5.heap[gb+6]? =wr.heap[gb+6]? :=(jQ.block (gb+6) (by show gb+6<(wr.alloc jV).heap.size;simp;omega) aC aC).trans (rA wr jV _ z6);have z5:wr.heap.size<w5.heap.size:=(by have:=jQ.size;have e:(wr.alloc jV).drew.heap.size=wr.heap.size+1:=(by show(wr.alloc jV).heap.size=_;simp);omega);have kr:w5.heap[wr.heap.size]? =some jV:=(jQ.block wr.heap.size (by show wr.heap.size<(wr.alloc jV).heap.size;simp) (by have:=lI.o.ok.lts;omega) (by have:=lI.o.ok.lts;omega)).trans (lP wr jV);have zIf:=aD kr;have z:=aJ kr;have r0:=eK kr;have z0:=z 0;have z1:=z 1;have z2:=z 2;have z3:=z 3;have z4:=z 4;have z5:=z 5;have z7:=z 7;have zb1:=z 6;have N5:=aD (lI.o.alloc jV).drew;clear fG oY bV jQ xK kr z))
       .
         obtain⟨W6,rK⟩:=aU (w5.alloc (Gy v5 r5));obtain⟨nb,nJ⟩:=aU w5.heap.size;rw[<-rK,<-nJ];have hN:W6.heap[nb]? =some (Gy v5 r5):=by rw[rK];exact mI _ _ nJ
         have Sx:eA W6 gb v5 r5:=by rw[rK];exact wG.o.alloc _
         obtain⟨zbU,p0,p1,p6,a1,a2,a3,a4,zd9⟩:=N5.o.stepped wG.o uG.o oK.o;have zaV:bU gb w W6:=by rw[rK];exact zbU.alloc aC _
         have q0:W6.heap[gb]? =some (.cells #[.int .i64 o.ln,.int .i64 o.op,.int .i64 o.pt] 29):=by rw[rK];exact(rA _ _ gb aC).trans (p0.trans N5.o.ofc)
         have q1:W6.heap[gb+1]? =some jV:=by rw[rK];exact(rA _ _ (gb+1) aC).trans (p1.trans N5.o.res)
         have q6:W6.heap[gb+6]? =some (Gy v1 r1):=by rw[rK];exact(rA _ _ (gb+6) aC).trans (p6.trans N5.o.blk)
         have zkZ:gb+7<=W6.heap.size:=by rw[rK];simp;omega
         have Cq:nb≠gb+6:=aC;clear rK nJ zbU p0 p1 p6 zd9;have zJz:=aD hN;have zAi:=aD Sx;have zce:r5.log=r1.log:=by rw[o7.o];exact zui.o.2.2.2
         have zEP:r5.log.length<=60:=by rw[zce];exact oU
         have Br:=aD (tF.stored Sx zaV q0 q1 q6 a1 a2 a3 a4 zkZ);have k:=aJ hN;obtain⟨k0,k1,k2,k3,k4,k5,k6,k7⟩:=eR k;have z:=aJ q6;obtain⟨z0,z1,z2,z3,z4,z5,zb1,z7⟩:=eR z;have r0:=eK q6;clear k z hN Sx zaV q0 q1 q6 zce
         go_upto_region 14 with fail
         obtain⟨W7,Ci⟩:=aU (gV W6 (gb+6) (.int .i64 r5.o.ln) (.int .i64 r5.o.op) (.int .i64 r5.o.pt) (.int .i64 r5.clk) (v5.sR r5) (v5.sW r5) (v5.sB r5) (v5.sL r5));rw[<-Ci] at Br;unfold gV at Ci;rw[<-Ci];clear Ci k0 k1 k2 k3 k4 k5 k6 k7 z0 z1 z2 z3 z4 z5 zb1 z7 r0;have k7:=aJ Br.o.blk 7;have zEG:=Br.o.size;have znQ:=Br.o.aL;obtain⟨ii,Ql,gX,dZ,jW⟩:=y3 zsX;have zbV:=aD Ql;clear Ql
         go_wp2_with (at_builtin;refine zlK _ rfl (.tmp 58) (.tmp 60) 26 rfl gb 9 ii (.string ⟨#[]⟩) 1 16 zvX zbV.o gX dZ jW rfl aH v5.gL v5.cL r5.log.length (Eh r5.log) rfl ((Br.o.alloc _).ok.lg) ⟨_,0,none⟩ 1 1 [.string ⟨t5.toArray⟩] rfl rfl ?c2 La ?c5 ?c6 ?c7 ?_;(case c2=>exact E7 (cs:=#[.string ⟨t5.toArray⟩]) (lP _ _));(case c5=>unfold maxLen;omega);(case c6=>omega);(case c7=>(simp;omega));intro g9 c9 w9 za6 Rq B9 zbj;have znb:=aD ((Br.o.alloc _).appL Rq za6 rfl zbj);have kx:=(zD Rq (dH Br.o.blk _) (Ne.symm znQ.2)).1;have zH8:=aJ kx 7;have wU:=eK kx;clear za6 Rq B9 zbj kx)
         go_roundw
         case rel=>
          refine⟨j+1,{v5 with gL:=g9,cL:=c9},aC,nC,?_⟩;rw[zqo.o,<-lO.o];have e:Ei (eU r1 e)={r5 with log:=r5.log++[t5]}:=by rw[o7.o,Cu.o];rfl
          rw[e];exact znb.o
         case measure=>simp[intOf];omega
       .
         obtain⟨nb,nJ⟩:=aU wr.heap.size;obtain⟨W6,rK⟩:=aU (gV w5 nb (.int .i64 r5.o.ln) (.int .i64 r5.o.op) (.int .i64 r5.o.pt) (.int .i64 r5.clk) (v5.sR r5) (v5.sW r5) (v5.sB r5) (v5.sL r5));obtain⟨zbU,p0,p1,p6,a1,a2,a3,a4,zd9⟩:=N5.o.stepped wG.o uG.o oK.o;have l1:=lI.o.ok.lts;have mr:=oK.o.r;have mw:=oK.o.w;have mb:=oK.o.b;have ml:=oK.o.l;have eX:(wr.alloc jV).drew.heap.size=nb+1:=by rw[nJ];show(wr.alloc jV).heap.size=_;simp
         rw[eX] at mr mw mb zd9;have hN:W6.heap[nb]? =some (Gy v5 r5):=by rw[rK,nJ];exact zb4 zIf.o
         have Sx:eA W6 gb v5 r5:=by rw[rK];exact wG.o.set8 aC
         have Yc:=ze4 w5 nb (.int .i64 r5.o.ln) (.int .i64 r5.o.op) (.int .i64 r5.o.pt) (.int .i64 r5.clk) (v5.sR r5) (v5.sW r5) (v5.sB r5) (v5.sL r5);have zaV:bU gb w W6:=by rw[rK];exact zbU.trans ⟨Yc.os,Yc.tape,Yc.output,Yc.size,λx hx=>Yc.block x aC aC⟩
         have q0:W6.heap[gb]? =some (.cells #[.int .i64 o.ln,.int .i64 o.op,.int .i64 o.pt] 29):=by rw[rK];exact(Hc aC).trans (p0.trans N5.o.ofc)
         have q1:W6.heap[gb+1]? =some jV:=by rw[rK];exact(Hc aC).trans (p1.trans N5.o.res)
         have q6:W6.heap[gb+6]? =some (Gy v1 r1):=by rw[rK];exact(Hc aC).trans (p6.trans N5.o.blk)
         have zkZ:gb+7<=W6.heap.size:=by rw[rK,zmN];omega
         have Cq:nb≠gb+6:=aC;unfold gV at rK;rw[<-nJ,<-rK];clear rK nJ zbU p0 p1 p6 zd9 Yc l1 mr mw mb ml eX z0 z1 z2 z3 z4 z5 zb1 z7 r0;have zJz:=aD hN;have zAi:=aD Sx;have zce:r5.log=r1.log:=by rw[o7.o];exact zui.o.2.2.2
         have zEP:r5.log.length<=60:=by rw[zce];exact oU
         have Br:=aD (tF.stored Sx zaV q0 q1 q6 a1 a2 a3 a4 zkZ);have k:=aJ hN;obtain⟨k0,k1,k2,k3,k4,k5,k6,k7⟩:=eR k;have z:=aJ q6;obtain⟨z0,z1,z2,z3,z4,z5,zb1,z7⟩:=eR z;have r0:=eK q6;clear k z hN Sx zaV q0 q1 q6 zce
         go_upto_region 14 with fail
         obtain⟨W7,Ci⟩:=aU (gV W6 (gb+6) (.int .i64 r5.o.ln) (.int .i64 r5.o.op) (.int .i64 r5.o.pt) (.int .i64 r5.clk) (v5.sR r5) (v5.sW r5) (v5.sB r5) (v5.sL r5));rw[<-Ci] at Br;unfold gV at Ci;rw[<-Ci];clear Ci k0 k1 k2 k3 k4 k5 k6 k7 z0 z1 z2 z3 z4 z5 zb1 z7 r0;have k7:=aJ Br.o.blk 7;have zEG:=Br.o.size;have znQ:=Br.o.aL;obtain⟨ii,Ql,gX,dZ,jW⟩:=y3 zsX;have zbV:=aD Ql;clear Ql
         go_wp2_with (at_builtin;refine zlK _ rfl (.tmp 58) (.tmp 60) 26 rfl gb 9 ii (.string ⟨#[]⟩) 1 16 zvX zbV.o gX dZ jW rfl aH v5.gL v5.cL r5.log.length (Eh r5.log) rfl ((Br.o.alloc _).ok.lg) ⟨_,0,none⟩ 1 1 [.string ⟨t5.toArray⟩] rfl rfl ?c2 La ?c5 ?c6 ?c7 ?_;(case c2=>exact E7 (cs:=#[.string ⟨t5.toArray⟩]) (lP _ _));(case c5=>unfold maxLen;omega);(case c6=>omega);(case c7=>(simp;omega));intro g9 c9 w9 za6 Rq B9 zbj;have znb:=aD ((Br.o.alloc _).appL Rq za6 rfl zbj);have kx:=(zD Rq (dH Br.o.blk _) (Ne.symm znQ.2)).1;have zH8:=aJ kx 7;have wU:=eK kx;clear za6 Rq B9 zbj kx)
         go_roundw
         case rel=>
          refine⟨j+1,{v5 with gL:=g9,cL:=c9},aC,nC,?_⟩;rw[zqo.o,<-lO.o];have e:Ei (eU r1 e)={r5 with log:=r5.log++[t5]}:=by rw[o7.o,Cu.o];rfl
          rw[e];exact znb.o
         case measure=>simp[intOf];omega
      .have e:j=k:=aC
       subst e;have ze6:=aD (show y5 o es=r1 by unfold y5;rw[fK.o,<-zc4,Py.o,<-lO.o];exact if_pos rfl);clear tI tC tO aN;have k:=aJ lI.o.blk;obtain⟨k0,k1,k2,k3,k4,k5,k6,k7⟩:=eR k;clear k;have z:=aJ lI.o.res;obtain⟨z0,z1,z2,z3,z4,z5,z6,z7⟩:=eR z;clear z;have r0:=eK lI.o.res
       go_wp2_with fail
       have er:=aJ (sZ v1 r1 lI.o.res);refine qY (v:=.tuple #[.agg (fU (v1) (r1)),.bool true]) ?_ rfl ?_
       .unfold gV at er
        simp[results,zfM,go_sem,er]
       .obtain⟨d1,d2⟩:=lI.o.doneR v1 r1
        exact⟨v1,by rw[fK.o];rw[ze6.o],by rw[ze6.o,<-fS.o];exact d1,by rw[<-fS.o];exact d2⟩
structure jG (b:b6):Prop where
 opn:∀(i j:Nat) (d e:bS),b.recs[i]? =some d->b.recs[j]? =some e->eL d=true->eL e=true->(d.c=e.c\/d.l=e.l\/(d.o=e.o/\0<d.o))->i=j
 last:∀(i j:Nat) (d e:bS),b.recs[i]? =some d->eL d=true->b.recs[j]? =some e->e.c=d.c->j<=i
 wt:∀x∈b.wait,∃(i:Nat) (d:bS),b.recs[i]? =some d/\eL d=true/\d.c=x.c/\d.o=0
 bk:(b.back.map bE.c).Nodup
 bo:∀x∈b.back,jI b.recs x.c=none
variable {rs:List bS}{c:Int}
theorem zi2 (h:∀(i:Nat) (d:bS),rs[i]? =some d->eL d=true->d.c≠c):jI rs c=none:=by
 cases ho:jI rs c with
 |none=>rfl
 |some i=>
  obtain⟨d,h1,h2,h3⟩:=Cg ho;exact absurd h2 (h i d h1 h3)
theorem Lz (h:jI rs c=none):∀(i:Nat) (d:bS),rs[i]? =some d->eL d=true->d.c≠c:=by
 intro i d hd ho e;have:(jI rs c).isSome=true:=by
  rw[zbM,Uf];exact⟨d,dX hd,by unfold As;rw[ho,e];simp⟩
 rw[h] at this;cases this
variable {b:b6}{i:Nat}{d:bS}
theorem jG.at_ (h:jG b)(hd:b.recs[i]? =some d)(ho:eL d=true):jI b.recs d.c=some i:=by
 cases e:jI b.recs d.c with
 |none=>exact absurd rfl (Lz e i d hd ho)
 |some j=>
  obtain⟨d',h1,h2,h3⟩:=Cg e;rw[h.opn j i d' d h1 hd h3 ho (.inl h2)]
theorem K5 {r:bS}(h:(rs++[r])[i]? =some d):(i<rs.length/\rs[i]? =some d)\/(i=rs.length/\d=r):=by
 rcases mY i rs.length with hl|hl
 .rw[zI hl] at h;exact .inl ⟨hl,h⟩
 .rw[Ao hl] at h
  have hz:i-rs.length=0:=by
   rcases Pv (i-rs.length) with e|e
   .exact e
   .rw[Ca qR] at h;cases h
  rw[hz] at h;exact .inr ⟨aC,by simpa using h.symm⟩
theorem zgd {r:bS}(h:rs[i]? =some d):(rs++[r])[i]? =some d:=by
 rw[zI (jX.1 h).1];exact h
variable {f:bS->bS}
theorem Ez {j:Nat}{z:bS}(h:(rs.modify i f)[j]? =some z):∃d,rs[j]? =some d/\((i=j/\z=f d)\/(i≠j/\z=d)):=by
 rw[zS] at h;rcases hr:rs[j]? with _|d
 .rw[hr] at h;cases h
 .rw[hr] at h
  simp at h;split at h
  .rename_i e;exact⟨d,rfl,.inl ⟨e,h.symm⟩⟩
  .rename_i e;exact⟨d,rfl,.inr ⟨e,h.symm⟩⟩
theorem O6 {j:Nat}(h:rs[j]? =some d)(aT:i≠j):(rs.modify i f)[j]? =some d:=by
 rw[zS,h];simp[aT]
theorem Z8 (h:rs[i]? =some d):(rs.modify i f)[i]? =some (f d):=by
 rw[zS,h];simp
theorem zuA {xs:List bE}(h:(vP xs c).isSome=false):∀x∈xs,x.c≠c:=by
 unfold vP at h;rw[List.findIdx?_isSome] at h;intro x hx e;have:xs.any (λx=>x.c==c)=true:=Uf.2 ⟨x,hx,by simp[e]⟩;rw[this] at h;cases h
variable {l:Int}
theorem zjm (h:l∈oE o rs):∀(i:Nat) (d:bS),rs[i]? =some d->eL d=true->d.l≠l:=by
 intro i d hd ho e;unfold oE xU at h;have h2:=(Ia.1 h).2;have:q8 rs l=true:=by unfold q8;exact Uf.2 ⟨d,dX hd,by simp[e,ho]⟩
 rw[this] at h2;cases h2
variable {op:Int}
theorem zeJ (h1:∀d∈rs,1<=d.c)(h:¬0<dK rs op):∀(i:Nat) (d:bS),rs[i]? =some d->eL d=true->d.o≠op:=by
 intro i d hd ho e;unfold dK at h
 cases hf:rs.find? (vT op) with
 |none=>
  have:=zfV.1 hf d (dX hd);unfold vT at this;rw[ho,e] at this;simp at this
 |some d'=>
  rw[hf] at h;have:=h1 d' (zdr hf);simp only at h;omega
theorem zmk (hu:∀(i j:Nat) (d e:bS),rs[i]? =some d->rs[j]? =some e->eL d=true->eL e=true->d.o=op->e.o=op->i=j)(hd:rs[i]? =some d)(ho:eL d=true)(he:d.o=op):dK rs op=d.c:=by
 unfold dK
 cases hf:rs.find? (vT op) with
 |none=>
  have:=zfV.1 hf d (dX hd);unfold vT at this;rw[ho,he] at this;simp at this
 |some d'=>
  obtain⟨j,hj⟩:=Gq.1 (zdr hf);have hp:=zjN hf;unfold vT at hp;simp only[fT,beq_iff_eq] at hp;have:=hu j i d' d hj hd hp.2 ho hp.1 he;subst this;rw[hj] at hd;injection hd with hd;rw[hd]
theorem zpb (h:∀(i:Nat) (d:bS),rs[i]? =some d->eL d=true->d.o≠op):dK rs op=0:=by
 unfold dK
 cases hf:rs.find? (vT op) with
 |none=>rfl
 |some d'=>
  obtain⟨j,hj⟩:=Gq.1 (zdr hf);have hp:=zjN hf;unfold vT at hp;simp only[fT,beq_iff_eq] at hp;exact absurd hp.1 (h j d' hj hp.2)
theorem zuN (rs:List bS)(op:Int):(∃(i:Nat) (d:bS),rs[i]? =some d/\eL d=true/\d.o=op/\dK rs op=d.c)\/((∀(i:Nat) (d:bS),rs[i]? =some d->eL d=true->d.o≠op)/\dK rs op=0):=by
 unfold dK
 cases hf:rs.find? (vT op) with
 |none=>
  refine .inr ⟨λi d hd ho e=>?_,rfl⟩;have:=zfV.1 hf d (dX hd);unfold vT at this;rw[ho,e] at this;simp at this
 |some d'=>
  obtain⟨j,hj⟩:=Gq.1 (zdr hf);have hp:=zjN hf;unfold vT at hp;simp only[fT,beq_iff_eq] at hp;exact .inl ⟨j,d',hj,hp.2,hp.1,rfl⟩
variable {hh:Int}{wait back:List bE}
theorem jG.more (h:jG b){o:Int}{tt:Int}{clk:Int}(hc:jI b.recs c=none)(hl:∀(i:Nat) (d:bS),b.recs[i]? =some d->eL d=true->d.l≠l)(ho:o=0\/∀(i:Nat) (d:bS),b.recs[i]? =some d->eL d=true->d.o≠o)
  (hw:∀x∈wait,x∈b.wait\/(x.c=c/\o=0)) (hb:(back.map bE.c).Nodup) (qW:∀x∈back,x∈b.back/\x.c≠c):jG {b with recs:=b.recs++[⟨c,l,o,clk,hh,tt,eO⟩],wait:=wait,back:=back}:=by
 have hop:eL ⟨c,l,o,clk,hh,tt,eO⟩=true:=by unfold eL;rw[zdN];rfl
 refine⟨λi j d e hi hj hd he hx=>?_,λi j d e hi hd hj hx=>?_,λx hx=>?_,hb,λx hx=>?_⟩
 .rcases K5 hi with⟨zT,J0⟩|⟨rfl,rfl⟩<;>rcases K5 hj with⟨Gu,Qp⟩|⟨rfl,rfl⟩
  .exact h.opn i j d e J0 Qp hd he hx
  .exfalso
   rcases hx with hx|hx|⟨hx,h0⟩
   .exact Lz hc i d J0 hd hx
   .exact hl i d J0 hd hx
   .rcases ho with rfl|ho
    .simp only at hx;omega
    .exact ho i d J0 hd hx
  .exfalso
   rcases hx with hx|hx|⟨hx,h0⟩
   .exact Lz hc j e Qp he hx.symm
   .exact hl j e Qp he hx.symm
   .rcases ho with rfl|ho
    .simp only at h0;omega
    .exact ho j e Qp he hx.symm
  .rfl
 .rcases K5 hi with⟨zT,J0⟩|⟨rfl,rfl⟩<;>rcases K5 hj with⟨Gu,Qp⟩|⟨rfl,rfl⟩
  .exact h.last i j d e J0 hd Qp hx
  .exact absurd hx.symm (Lz hc i d J0 hd)
  .omega
  .exact aV _
 .rcases hw x hx with hx|⟨hx,h0⟩
  .obtain⟨i,d,h1,h2⟩:=h.wt x hx
   exact⟨i,d,zgd h1,h2⟩
  .exact⟨b.recs.length,_,by rw[Ao (aV _),Mx];rfl,hop,hx.symm,h0⟩
 .obtain⟨h1,h2⟩:=qW x hx
  refine zi2 λi d hd vG=>?_;rcases K5 hd with⟨_,h3⟩|⟨_,rfl⟩
  .exact Lz (h.bo x h1) i d h3 vG
  .exact λe=>h2 e.symm
theorem jG.ended (h:jG b)(hd:b.recs[i]? =some d)(zes:eL d=true){e:ByteArray}(he:(e.toList==[111,112,101,110])=false)(hw:∀x∈wait,x∈b.wait/\x.c≠d.c)(hb:(back.map bE.c).Nodup)(qW:∀x∈back,x∈b.back\/x.c=d.c):
 jG {b with recs:=Kr b i e,wait:=wait,back:=back}:=by
 have mG:∀z:bS,eL {z with t:=b.clk,e:=e}=false:=λz=>he;have old:∀(j:Nat) (z:bS),(Kr b i e)[j]? =some z->eL z=true->i≠j/\b.recs[j]? =some z:=λj z hj hz=>by
  obtain⟨d',h1,⟨_,rfl⟩|⟨h2,rfl⟩⟩:=Ez hj
  .rw[mG] at hz;cases hz
  .exact⟨h2,h1⟩
 refine⟨λp q x y hp hq hx hy hh=>?_,λp q x y hp hx hq hh=>?_,λx hx=>?_,hb,λx hx=>?_⟩
 .exact h.opn p q x y (old p x hp hx).2 (old q y hq hy).2 hx hy hh
 .obtain⟨d',h1,h2⟩:=Ez hq
  refine h.last p q x d' (old p x hp hx).2 hx h1 ?_;rcases h2 with⟨_,rfl⟩|⟨_,rfl⟩
  .exact hh
  .exact hh
 .obtain⟨h1,h2⟩:=hw x hx
  obtain⟨j,z,h3,h4,h5,h6⟩:=h.wt x h1;have aT:i≠j:=λe=>by subst e;rw[hd] at h3;injection h3 with h3;exact h2 (by rw[<-h5,<-h3])
  exact⟨j,z,O6 h3 aT,h4,h5,h6⟩
 .refine zi2 λj z hj hz=>?_
  obtain⟨h1,h2⟩:=old j z hj hz;rcases qW x hx with h3|h3
  .exact Lz (h.bo x h3) j z h2 hz
  .rw[h3]
   exact λe=>h1 (h.opn i j d z hd h2 zes hz (.inl e.symm))
theorem jG.heard (h:jG b)(hd:b.recs[i]? =some d)(zes:eL d=true)(hop:∀(j:Nat) (z:bS),b.recs[j]? =some z->eL z=true->z.o≠op)(hw:∀x∈wait,x∈b.wait/\x.c≠d.c):
 jG {b with recs:=b.recs.modify i λd=>{d with o:=op,h:=hh},wait:=wait}:=by
 have yW:∀z:bS,eL {z with o:=op,h:=hh}=eL z:=λz=>rfl;refine⟨λp q x y hp hq hx hy he=>?_,λp q x y hp hx hq he=>?_,λx hx=>?_,h.bk,λx hx=>?_⟩
 .obtain⟨u,h1,⟨e1,rfl⟩|⟨e1,rfl⟩⟩:=Ez hp<;>obtain⟨v,h2,⟨e2,rfl⟩|⟨e2,rfl⟩⟩:=Ez hq
  .omega
  .refine h.opn p q u y h1 h2 hx hy ?_
   rcases he with he|he|⟨he,h0⟩
   .exact .inl he
   .exact .inr (.inl he)
   .exact absurd he.symm (hop q y h2 hy)
  .refine h.opn p q x v h1 h2 hx hy ?_
   rcases he with he|he|⟨he,h0⟩
   .exact .inl he
   .exact .inr (.inl he)
   .exact absurd he (hop p x h1 hx)
  .exact h.opn p q x y h1 h2 hx hy he
 .obtain⟨u,h1,e1⟩:=Ez hp
  obtain⟨v,h2,e2⟩:=Ez hq;have hu:eL u=true/\x.c=u.c:=by rcases e1 with⟨_,rfl⟩|⟨_,rfl⟩<;>exact⟨hx,rfl⟩
  have hv:y.c=v.c:=by rcases e2 with⟨_,rfl⟩|⟨_,rfl⟩<;>rfl
  exact h.last p q u v h1 hu.1 h2 (by rw[<-hv,<-hu.2];exact he)
 .obtain⟨h1,h2⟩:=hw x hx
  obtain⟨j,z,h3,h4,h5,h6⟩:=h.wt x h1;have aT:i≠j:=λe=>by subst e;rw[hd] at h3;injection h3 with h3;exact h2 (by rw[<-h5,<-h3])
  exact⟨j,z,O6 h3 aT,h4,h5,h6⟩
 .refine zi2 λj z hj hz=>?_
  obtain⟨u,h1,e1⟩:=Ez hj;rcases e1 with⟨_,rfl⟩|⟨_,rfl⟩
  .exact Lz (h.bo x hx) j u h1 hz
  .exact Lz (h.bo x hx) j z h1 hz
variable {bt:b6×List UInt8}
def jG.log (h:jG bt.1):jG (Ei bt):=⟨h.opn,h.last,h.wt,h.bk,h.bo⟩
theorem jG.zero (o:jN):jG (lW o):=⟨λi j d e h=>by simp[lW] at h,λi j d e h=>by simp[lW] at h,λx hx=>by simp[lW] at hx,Ou,λx hx=>by simp[lW] at hx⟩
theorem zdq:(F5.toList==[111,112,101,110])=false:=by decide+kernel
theorem zlQ:(Bv.toList==[111,112,101,110])=false:=by decide+kernel
theorem zjo:(Dx.toList==[111,112,101,110])=false:=by decide+kernel
theorem jG.rings (h:jG b)(c:bE):jG (qB b c).1:=by
 unfold qB;split
 .exact h
 .rename_i hk
  simp only[Bool.or_eq_true,not_or,Bool.not_eq_true] at hk;have hc:=Option.isSome_eq_false_iff.1 hk.1|>Option.isNone_iff_eq_none.1;have hb:=zuA hk.2;split
  .refine⟨h.opn,h.last,h.wt,?_,λx hx=>?_⟩
   .show((b.back++[c]).map bE.c).Nodup
    rw[Hr];refine zi9.2 ⟨h.bk,aP,λa ha e he=>?_⟩;obtain⟨x,hx,rfl⟩:=Jr.1 ha;simp at he;subst he;exact hb x hx
   .rcases E5.1 hx with hx|hx
    .exact h.bo x hx
    .obtain rfl:=sK.1 hx;exact hc
  .rename_i l ls hf
   exact h.more (l:=l) hc (zjm Y6) (.inl rfl) (wait:=tH b.wait c) (λx hx=>by
    have:=(zcR b.wait c).mem_iff.1 hx;rcases jH.1 this with rfl|h'
    .exact .inr ⟨rfl,rfl⟩
    .exact .inl h') h.bk (λx hx=>⟨hx,hb x hx⟩)
theorem jG.answers (h:jG b)(hr:RInv b)(op:Int):jG (nH b op).1:=by
 unfold nH;split
 .exact h
 .rename_i ht
  have hn:=zeJ (λd hd=>(hr.recB d hd).1) ht;split
  .exact h
  .rename_i c cs hw
   split
   .exact h
   .rename_i i hi
    obtain⟨d,h1,h2,h3⟩:=Cg hi;exact h.heard h1 h3 hn (wait:=dY b.wait c.c) λx hx=>⟨(Dt hx).1,by rw[h2];exact(Dt hx).2⟩
theorem jG.returns (h:jG b)(hr:RInv b)(op:Int):jG (lZ b op).1:=by
 unfold lZ;split
 .exact h
 .rename_i ht
  have hn:=zeJ (λd hd=>(hr.recB d hd).1) ht;split
  .exact h
  .rename_i c cs hw
   split
   .exact h
   .rename_i l ls hf
    exact h.more (l:=l) (h.bo c (by rw[hw];simp)) (zjm Y6) (.inr hn) (wait:=b.wait) (back:=dY b.back c.c) (λx hx=>.inl hx) (zeq h.bk) (λx hx=>Dt hx)
theorem jG.hangs (h:jG b)(c:Int):jG (mJ b c).1:=by
 unfold mJ;split
 .rename_i i hi
  obtain⟨d,h1,h2,h3⟩:=Cg hi;have hw:∀x∈dY b.wait (F8 b.recs i),x∈b.wait/\x.c≠d.c:=λx hx=>⟨(Dt hx).1,by rw[<-S3 h1];exact(Dt hx).2⟩;split
  .exact h.ended h1 h3 zdq hw h.bk λx hx=>.inl hx
  .exact h.ended h1 h3 zlQ hw h.bk λx hx=>.inl hx
 .split
  .exact⟨h.opn,h.last,h.wt,zeq h.bk,λx hx=>h.bo x (Dt hx).1⟩
  .exact h
theorem jG.tire {t:List UInt8}{x:bE}(h:jG b):jG (l9 (b,t) x).1:=by
 unfold l9;split
 .exact h
 .rename_i i hi
  split
  .obtain⟨d,h1,h2,h3⟩:=Cg hi
   refine h.ended (wait:=dY b.wait (F8 b.recs i)) (back:=b.back++[x]) h1 h3 zjo (λy hy=>⟨(Dt hy).1,by rw[<-S3 h1];exact(Dt hy).2⟩) ?_ λy hy=>?_
   .rw[Hr]
    refine zi9.2 ⟨h.bk,aP,λa ha e he=>?_⟩;obtain⟨y,hy,rfl⟩:=Jr.1 ha;simp at he;subst he;exact λe=>Lz (h.bo y hy) i d h1 h3 (by rw[h2,e])
   .rcases E5.1 hy with hy|hy
    .exact .inl hy
    .obtain rfl:=sK.1 hy;exact .inr h2.symm
  .exact h
theorem jG.tires:∀(xs:List bE) (b:b6) (t:List UInt8),jG b->jG (xs.foldl l9 (b,t)).1:=by
 intro xs
 induction xs with
 |nil=>intro b t h;exact h
 |cons x xs ih=>
  intro b t h;rw[Qn];have h1:=h.tire (t:=t) (x:=x);generalize l9 (b,t) x=p at h1⊢;obtain⟨b',t'⟩:=p;exact ih b' t' h1
theorem jG.step (h:jG b)(hr:RInv b)(e:dG):jG (eU b e).1:=by
 unfold eU;split
 .exact h.rings _
 .split
  .exact h.answers hr _
  .split
   .exact h.returns hr _
   .split
    .exact h.hangs _
    .unfold uJ
     exact jG.tires _ _ _ ⟨h.opn,h.last,h.wt,h.bk,h.bo⟩
theorem zv5 (h:j9 o es=true):∀k,k<=es.length->jG (mK o es k):=by
 intro k
 induction k with
 |zero=>intro _;exact jG.zero o
 |succ k ih=>
  intro hk;have aN:k<es.length:=aC;rw[Vq (lV aN)];exact jG.log ((ih aC).step (N9 h k aC).1 _)
end Go.Proofs.YtfcjiloojkjaeaaGreatDoor
namespace Go.Mt
open Go.Conc
inductive fJ where
 |ask (i:Nat) (kind call ans:Int)
 |shut (i:Nat)
inductive gS where
 |mN (qs:List Nat)
 |mA (qs:List Nat) (a:Nat)
 |mS (qs:List Nat) (a:Nat)
 |mW (qs:List Nat)
 |mZ
 |op (c:Nat) (call:Int) (m:Nat)
 |an (c:Nat) (call:Int) (a:Nat) (m:Nat)
 |oD
 |wk (qs:List Nat) (k:Nat)
 |wr (qs:List Nat) (k:Nat) (a:Nat)
def Mh (kind call:Int)(a:Nat):Value:=.agg #[.int .i64 kind,.int .i64 call,.chan (some a)]
def unQ:aF->Option (Int×Int×Nat)
 | .agg xs=>match xs.toList with
  |[.int .i64 kd,.int .i64 cl,.chan (some a)]=>some (kd,cl,a)
  |_=>none
 |_=>none
def zft (kd cl:Int)(a:Nat):unQ (Mh kd cl a)=some (kd,cl,a):=rfl
variable {kd cl:Int}
theorem unQ_inv {v:aF}{a:Nat}(h:unQ v=some (kd,cl,a)):v=Mh kd cl a:=by
 unfold unQ at h;split at h
 .rename_i xs
  split at h
  .rename_i e
   simp only[fY,Prod.mk.injEq] at h;obtain⟨rfl,rfl,rfl⟩:=h;unfold Mh;congr 1;exact Array.ext' e
  .cases h
 .cases h
def qa (qs:List Nat)(j:Nat):Nat:=qs.getD j 0
def Uz (c:Nat)(call:Int)(m:Nat)(v:aF):gS:=match unQ v with|some (kd,cl,a)=>.an c (if kd=1 then cl else call) a (m-1)|none=>.oD
def zfW (i:Nat):fJ->Bool
 | .ask j _ _ _=>j==i
 |_=>false
def nN (W:List fJ)(k i:Nat):Nat:=(W.drop k).countP (zfW i)
variable {W:List fJ}
theorem zop {k i:Nat}{ans:Int}(h:W[k]? =some (.ask i kd cl ans))(j:Nat):nN W k j=nN W (k+1) j+if j=i then 1 else 0:=by
 obtain⟨hl,he⟩:=jX.1 h;unfold nN;rw[zgo hl,he,zwM];by_cases e:j=i
 .subst e;simp[zfW]
 .have:¬i=j:=λx=>e x.symm
  simp[zfW,e,this]
theorem zGI {k i:Nat}(h:W[k]? =some (.shut i))(j:Nat):nN W (k+1) j=nN W k j:=by
 obtain⟨hl,he⟩:=jX.1 h;unfold nN;rw[zgo hl,he,zwM];simp[zfW]
def O9 (v:aF):List Nat:=match unQ v with|some (_,_,a)=>[a]|none=>[]
def Ww (qs:List Nat)(k:Nat)(v:aF):gS:=match unQ v with|some (_,_,a)=>.wr qs k a|none=>.oD
def Z2 (W:List fJ)(k:Nat)(v:aF):Prop:=match W[k]? with|some (.ask _ _ _ ans)=>v=.int .i64 ans|_=>False
def eN (N:Nat)(W:List fJ):gS->Act gS
 | .mN qs=>if qs.length<N then .note (λl'=>∃a,l'=.mA qs a) else .add (.mW qs)
 | .mA qs a=>.add (.mS qs a)
 | .mS qs a=>.spawn [a] (.op a 0 (nN W 0 qs.length)) (.mN (qs++[a]))
 | .mW qs=>.spawn [] (.wk qs 0) .mZ
 | .mZ=>.wait
 | .op c call m=>.recv c (λv=>(unQ v).isSome=true/\0<m) (Uz c call m) .oD
 | .an c call a m=>.send a (λv=>v=.int .i64 call) (λ_=>[]) (λ_=>.op c call m)
 | .oD=>.done
 | .wk qs k=>match W[k]? with
  |none=>.done
  |some (.ask i kd cl _)=>.send (qa qs i) (λv=>∃a,v=Mh kd cl a) O9 (Ww qs k)
  |some (.shut i)=>.close (qa qs i) (.wk qs (k+1))
 | .wr qs k a=>.recv a (Z2 W k) (λ_=>.wk qs (k+1)) .oD
def gS.pend:gS->Bool
 | .mS _ _| .mW _=>true
 |_=>false
def kY (W:List fJ):Nat->Nat->Int
 |0,_=>0
 |k+1,i=>match W[k]? with
  |some (.ask j kd cl _)=>if i=j then(if kd=1 then cl else kY W k i) else kY W k i
  |_=>kY W k i
def fX (W:List fJ):Nat->Nat->Bool
 |0,_=>false
 |k+1,i=>match W[k]? with
  |some (.shut j)=>if i=j then true else fX W k i
  |_=>fX W k i
structure WOk (N:Nat)(W:List fJ):Prop where
 ask:∀k i kd cl ans,W[k]? =some (.ask i kd cl ans)->i<N/\fX W k i=false/\ans=kY W (k+1) i
 shut:∀k i,W[k]? =some (.shut i)->i<N/\fX W k i=false
 all:∀i,i<N->fX W W.length i=true
structure Ops (n:Nat)(ix:Nat->Nat)(q:Nat->Pj gS)(F:Nat->Pj gS->Prop):Prop where
 ne:∀j,j<n->ix j≠0
 inj:∀j j',j<n->j'<n->ix j=ix j'->j=j'
 at_:∀j,j<n->F j (q (ix j))
structure Qs (n:Nat)(qs:List Nat):Prop where
 len:qs.length=n
 inj:∀j j',j<n->j'<n->qa qs j=qa qs j'->j=j'
def Ie (W:List fJ)(qs:List Nat)(k j:Nat)(p:Pj gS):Prop:=
 p=.run (.op (qa qs j) (kY W k j) (nN W k j))\/(fX W k j=true/\(p=.run .oD\/p=.over .oD))
inductive Wv (N:Nat)(W:List fJ)(q:Nat->Pj gS)(ch:rC):Prop
 |a (n:Nat) (qs:List Nat) (ix:Nat->Nat) (l:gS):Qs n qs->n<=N->(l=.mN qs\/(n<N/\∃a,l=.mA qs a\/l=.mS qs a)\/(l=.mW qs/\n=N))->q 0=.run l->Ops n ix q (λj p=>p=.run (.op (qa qs j) 0 (nN W 0 j)))->
  (∀j,j<n->ch (qa qs j)=some false)->(∀i,i≠0->(∀j,j<n->i≠ix j)->q i=.gone)->Wv N W q ch
 |b (qs:List Nat) (ix:Nat->Nat) (iw k:Nat):Qs N qs->k<=W.length->iw≠0->(∀j,j<N->ix j≠iw)->(q 0=.run .mZ\/q 0=.waits)->(q iw=.run (.wk qs k)\/(k=W.length/\q iw=.over (.wk qs k)))->
  Ops N ix q (Ie W qs k)->(∀j,j<N->ch (qa qs j)=some (fX W k j))->(∀i,i≠0->i≠iw->(∀j,j<N->i≠ix j)->q i=.gone)->Wv N W q ch
 |c (qs:List Nat) (ix:Nat->Nat) (iw k i:Nat) (kd cl ans:Int) (a:Nat):Qs N qs->W[k]? =some (.ask i kd cl ans)->iw≠0->(∀j,j<N->ix j≠iw)->(q 0=.run .mZ\/q 0=.waits)->q iw=.run (.wr qs k a)->
  Ops N ix q (λj p=>if j=i then p=.run (.an (qa qs j) (kY W (k+1) j) a (nN W (k+1) j)) else Ie W qs k j p)->(∀j,j<N->ch (qa qs j)=some (fX W k j))->ch a=some false->(∀j,j<N->qa qs j≠a)->
  (∀i,i≠0->i≠iw->(∀j,j<N->i≠ix j)->q i=.gone)->Wv N W q ch
def By (N:Nat)(W:List fJ)(D:aE->Prop):jU gS where
 act:=eN N W
 dep:=λl w=>match l with| .wk _ _=>D w|_=>True
 pend:=gS.pend
 cl:=λl=>match l with| .op _ _ _=>True|_=>False
 Inv:=Wv N W
 got:=λl v=>match l with| .op _ _ _=>O9 v|_=>[]
section
variable {N:Nat}{W:List fJ}
variable {l:gS}{ok:aF->Prop}{nx:aF->gS}
theorem zls {c:Nat}{pub:aF->List Nat}(h:eN N W l=.send c ok pub nx):
 (∃c0 call m,l=.an c0 call c m/\ok=(λv=>v=.int .i64 call)/\pub=(λ_=>[])/\nx=λ_=>.op c0 call m)\/
 (∃qs k i kd cl ans,l=.wk qs k/\W[k]? =some (.ask i kd cl ans)/\c=qa qs i/\ok=(λv=>∃a,v=Mh kd cl a)/\pub=O9/\nx=Ww qs k):=by
 cases l with
 |mN qs=>simp only[eN] at h;split at h<;>cases h
 |an c0 call a m=>simp only[eN] at h;cases h;exact .inl ⟨_,_,_,rfl,rfl,rfl,rfl⟩
 |wk qs k=>
  simp only[eN] at h;split at h
  .cases h
  .rename_i i kd cl ans e;cases h;exact .inr ⟨qs,k,i,kd,cl,ans,rfl,e,rfl,rfl,rfl,rfl⟩
  .cases h
 |_=>simp only[eN] at h;cases h
theorem Zi {c:Nat}{sh:gS}(h:eN N W l=.recv c ok nx sh):
 (∃call m,l=.op c call m/\ok=(λv=>(unQ v).isSome=true/\0<m)/\nx=Uz c call m/\sh=.oD)\/(∃qs k,l=.wr qs k c/\ok=Z2 W k/\nx=(λ_=>.wk qs (k+1))/\sh=.oD):=by
 cases l with
 |mN qs=>simp only[eN] at h;split at h<;>cases h
 |op c0 call m=>simp only[eN] at h;cases h;exact .inl ⟨_,_,rfl,rfl,rfl,rfl⟩
 |wk qs k=>simp only[eN] at h;split at h<;>cases h
 |wr qs k a=>simp only[eN] at h;cases h;exact .inr ⟨_,_,rfl,rfl,rfl,rfl⟩
 |_=>simp only[eN] at h;cases h
variable {nx:gS}
theorem zqL {c:Nat}(h:eN N W l=.close c nx):∃qs k i,l=.wk qs k/\W[k]? =some (.shut i)/\c=qa qs i/\nx=.wk qs (k+1):=by
 cases l with
 |mN qs=>simp only[eN] at h;split at h<;>cases h
 |wk qs k=>
  simp only[eN] at h;split at h
  .cases h
  .cases h
  .rename_i i e;cases h;exact⟨qs,k,i,rfl,e,rfl,rfl⟩
 |_=>simp only[eN] at h;cases h
theorem zG0 (h:eN N W l=.add nx):(∃qs,l=.mN qs/\¬qs.length<N/\nx=.mW qs)\/∃qs a,l=.mA qs a/\nx=.mS qs a:=by
 cases l with
 |mN qs=>
  simp only[eN] at h;split at h
  .cases h
  .rename_i e;cases h;exact .inl ⟨qs,rfl,e,rfl⟩
 |mA qs a=>simp only[eN] at h;cases h;exact .inr ⟨qs,a,rfl,rfl⟩
 |wk qs k=>simp only[eN] at h;split at h<;>cases h
 |_=>simp only[eN] at h;cases h
theorem zFk {lc:gS}{pub:List Nat}(h:eN N W l=.spawn pub lc nx):(∃qs a,l=.mS qs a/\pub=[a]/\lc=.op a 0 (nN W 0 qs.length)/\nx=.mN (qs++[a]))\/∃qs,l=.mW qs/\pub=[]/\lc=.wk qs 0/\nx=.mZ:=by
 cases l with
 |mN qs=>simp only[eN] at h;split at h<;>cases h
 |mS qs a=>simp only[eN] at h;cases h;exact .inl ⟨qs,a,rfl,rfl,rfl,rfl⟩
 |mW qs=>simp only[eN] at h;cases h;exact .inr ⟨qs,rfl,rfl,rfl,rfl⟩
 |wk qs k=>simp only[eN] at h;split at h<;>cases h
 |_=>simp only[eN] at h;cases h
theorem zBz (h:eN N W l=.done):l=.oD\/∃qs k,l=.wk qs k/\W[k]? =none:=by
 cases l with
 |mN qs=>simp only[eN] at h;split at h<;>cases h
 |oD=>exact .inl rfl
 |wk qs k=>
  simp only[eN] at h;split at h
  .rename_i e;exact .inr ⟨qs,k,rfl,e⟩
  .cases h
  .cases h
 |_=>simp only[eN] at h;cases h
theorem zGp (h:eN N W l=.wait):l=.mZ:=by
 cases l with
 |mN qs=>simp only[eN] at h;split at h<;>cases h
 |mZ=>rfl
 |wk qs k=>simp only[eN] at h;split at h<;>cases h
 |_=>simp only[eN] at h;cases h
theorem zHm {can:gS->Prop}(h:eN N W l=.note can):∃qs,l=.mN qs/\qs.length<N/\can=λl'=>∃a,l'=.mA qs a:=by
 cases l with
 |mN qs=>
  simp only[eN] at h;split at h
  .rename_i e;cases h;exact⟨qs,rfl,e,rfl⟩
  .cases h
 |wk qs k=>simp only[eN] at h;split at h<;>cases h
 |_=>simp only[eN] at h;cases h
variable {ans:Int}
theorem zv1 {k i:Nat}{kd cl:Int}(h:W[k]? =some (.ask i kd cl ans))(j:Nat):kY W (k+1) j=if j=i then(if kd=1 then cl else kY W k j) else kY W k j:=by simp only[kY,h]
theorem zwa {k i:Nat}{kd cl:Int}(h:W[k]? =some (.ask i kd cl ans))(j:Nat):fX W (k+1) j=fX W k j:=by simp only[fX,h]
theorem zIB {k i:Nat}(h:W[k]? =some (.shut i))(j:Nat):kY W (k+1) j=kY W k j:=by simp only[kY,h]
theorem zqe {k i:Nat}(h:W[k]? =some (.shut i))(j:Nat):fX W (k+1) j=if j=i then true else fX W k j:=by simp only[fX,h]
def wk_lt {k:Nat}{x:fJ}(h:W[k]? =some x):k<W.length:=(jX.1 h).1
end
section
variable {N:Nat}{W:List fJ}{q:Nat->Pj gS}{ch:rC}
theorem zhs {n:Nat}{ix:Nat->Nat}{iw:Nat}(hg:∀i,i≠0->i≠iw->(∀j,j<n->i≠ix j)->q i=.gone){i:Nat}{l:gS}(h:q i=.run l):i=0\/i=iw\/∃j,j<n/\i=ix j:=by
 by_cases h0:i=0
 .exact .inl h0
 .by_cases h1:i=iw
  .exact .inr (.inl h1)
  .refine .inr (.inr (Classical.byContradiction λhn=>?_))
   have:=hg i h0 h1 λj hj e=>hn ⟨j,hj,e⟩;rw[this] at h;cases h
theorem zxN {qs:List Nat}{k j:Nat}{l:gS}(h:Ie W qs k j (.run l)):l=.op (qa qs j) (kY W k j) (nN W k j)\/(fX W k j=true/\l=.oD):=by
 rcases h with h|⟨h1,h|h⟩
 .cases h;exact .inl rfl
 .cases h;exact .inr ⟨h1,rfl⟩
 .cases h
theorem V8 {l:gS}(h:(∃qs,l=.mN qs)\/(∃qs a,l=.mA qs a)\/(∃qs a,l=.mS qs a)\/(∃qs,l=.mW qs)\/l=.mZ):(∀c ok pub nx,eN N W l≠ .send c ok pub nx)/\(∀c ok nx sh,eN N W l≠ .recv c ok nx sh)/\(∀c nx,eN N W l≠ .close c nx)/\eN N W l≠ .done:=by
 rcases h with⟨qs,rfl⟩|⟨qs,a,rfl⟩|⟨qs,a,rfl⟩|⟨qs,rfl⟩|rfl
 .simp only[eN]
  split<;>simp
 all_goals simp[eN]
theorem zcd {n:Nat}{qs:List Nat}{l:gS}(h:l=.mN qs\/(n<N/\∃a,l=.mA qs a\/l=.mS qs a)\/(l=.mW qs/\n=N)):(∃qs,l=.mN qs)\/(∃qs a,l=.mA qs a)\/(∃qs a,l=.mS qs a)\/(∃qs,l=.mW qs)\/l=.mZ:=by
 rcases h with rfl|⟨_,a,rfl|rfl⟩|⟨rfl,_⟩
 .exact .inl ⟨_,rfl⟩
 .exact .inr (.inl ⟨_,_,rfl⟩)
 .exact .inr (.inr (.inl ⟨_,_,rfl⟩))
 .exact .inr (.inr (.inr (.inl ⟨_,rfl⟩)))
section
variable {n:Nat}{qs:List Nat}{ix:Nat->Nat}{iw k i0:Nat}{i c a:Nat}{l l0:gS}
theorem Pg (hl:l0=.mN qs\/(n<N/\∃a,l0=.mA qs a\/l0=.mS qs a)\/(l0=.mW qs/\n=N))(h0:q 0=.run l0)(ho:Ops n ix q (λj p=>p=.run (.op (qa qs j) 0 (nN W 0 j))))(hg:∀i,i≠0->(∀j,j<n->i≠ix j)->q i=.gone)(hi:q i=.run l):(i=0/\l=l0)\/∃j,j<n/\i=ix j/\l=.op (qa qs j) 0 (nN W 0 j):=by
 rcases zhs (iw:=0) (λi h1 _ h3=>hg i h1 h3) hi with rfl|rfl|⟨j,hj,rfl⟩
 .rw[h0] at hi;cases hi;exact .inl ⟨rfl,rfl⟩
 .rw[h0] at hi;cases hi;exact .inl ⟨rfl,rfl⟩
 .have:=ho.at_ j hj;rw[hi] at this;cases this;exact .inr ⟨j,hj,rfl,rfl⟩
theorem N6 (h0:q 0=.run .mZ\/q 0=.waits)(cM:q iw=.run (.wk qs k)\/(k=W.length/\q iw=.over (.wk qs k)))(ho:Ops N ix q (Ie W qs k))(hg:∀i,i≠0->i≠iw->(∀j,j<N->i≠ix j)->q i=.gone)(hi:q i=.run l):
 (i=0/\l=.mZ)\/(i=iw/\l=.wk qs k)\/∃j,j<N/\i=ix j/\(l=.op (qa qs j) (kY W k j) (nN W k j)\/(fX W k j=true/\l=.oD)):=by
 rcases zhs hg hi with rfl|rfl|⟨j,hj,rfl⟩
 .rcases h0 with h0|h0<;>rw[h0] at hi<;>cases hi
  exact .inl ⟨rfl,rfl⟩
 .rcases cM with h|⟨_,h⟩<;>rw[h] at hi<;>cases hi
  exact .inr (.inl ⟨rfl,rfl⟩)
 .have:=ho.at_ j hj;rw[hi] at this
  exact .inr (.inr ⟨j,hj,rfl,zxN this⟩)
theorem Oj (h0:q 0=.run .mZ\/q 0=.waits)(cM:q iw=.run (.wr qs k a))(ho:Ops N ix q (λj p=>if j=i0 then p=.run (.an (qa qs j) (kY W (k+1) j) a (nN W (k+1) j)) else Ie W qs k j p))(hg:∀i,i≠0->i≠iw->(∀j,j<N->i≠ix j)->q i=.gone)(hi:q i=.run l):
 (i=0/\l=.mZ)\/(i=iw/\l=.wr qs k a)\/∃j,j<N/\i=ix j/\((j=i0/\l=.an (qa qs j) (kY W (k+1) j) a (nN W (k+1) j))\/(j≠i0/\(l=.op (qa qs j) (kY W k j) (nN W k j)\/(fX W k j=true/\l=.oD)))):=by
 rcases zhs hg hi with rfl|rfl|⟨j,hj,rfl⟩
 .rcases h0 with h0|h0<;>rw[h0] at hi<;>cases hi
  exact .inl ⟨rfl,rfl⟩
 .rw[cM] at hi;cases hi
  exact .inr (.inl ⟨rfl,rfl⟩)
 .have:=ho.at_ j hj
  simp only[hi] at this;split at this
  .rename_i e;cases this;exact .inr (.inr ⟨j,hj,rfl,.inl ⟨e,rfl⟩⟩)
  .rename_i e;exact .inr (.inr ⟨j,hj,rfl,.inr ⟨e,zxN this⟩⟩)
variable {ok:aF->Prop}{pub:aF->List Nat}{nx:aF->gS}{sh:gS}
theorem za0 (h0:q 0=.run .mZ\/q 0=.waits)(cM:q iw=.run (.wk qs k)\/(k=W.length/\q iw=.over (.wk qs k)))(ho:Ops N ix q (Ie W qs k))(hg:∀i,i≠0->i≠iw->(∀j,j<N->i≠ix j)->q i=.gone)(hi:q i=.run l)(ha:eN N W l=.send c ok pub nx):
 i=iw/\l=.wk qs k/\∃j kd cl ans,W[k]? =some (.ask j kd cl ans)/\c=qa qs j/\ok=(λv=>∃a,v=Mh kd cl a)/\pub=O9/\nx=Ww qs k:=by
 rcases N6 h0 cM ho hg hi with⟨rfl,rfl⟩|⟨rfl,rfl⟩|⟨j,hj,rfl,rfl|⟨_,rfl⟩⟩
 .cases ha
 .rcases zls ha with⟨_,_,_,e,_⟩|⟨Ox,k',j,kd,cl,ans,e,h1,h2,h3,h4,h5⟩
  .cases e
  .cases e;exact⟨rfl,rfl,j,kd,cl,ans,h1,h2,h3,h4,h5⟩
 .cases ha
 .cases ha
theorem Vw (h0:q 0=.run .mZ\/q 0=.waits)(cM:q iw=.run (.wk qs k)\/(k=W.length/\q iw=.over (.wk qs k)))(ho:Ops N ix q (Ie W qs k))(hg:∀i,i≠0->i≠iw->(∀j,j<N->i≠ix j)->q i=.gone)(hi:q i=.run l)(ha:eN N W l=.recv c ok nx sh):
 ∃j,j<N/\i=ix j/\l=.op (qa qs j) (kY W k j) (nN W k j)/\c=qa qs j/\ok=(λv=>(unQ v).isSome=true/\0<nN W k j)/\nx=Uz c (kY W k j) (nN W k j)/\sh=.oD:=by
 rcases N6 h0 cM ho hg hi with⟨rfl,rfl⟩|⟨rfl,rfl⟩|⟨j,hj,rfl,rfl|⟨_,rfl⟩⟩
 .cases ha
 .rcases Zi ha with⟨_,_,e,_⟩|⟨_,_,e,_⟩<;>cases e
 .rcases Zi ha with⟨_,_,e,h1,h2,h3⟩|⟨_,_,e,_⟩<;>cases e
  exact⟨j,hj,rfl,rfl,rfl,h1,h2,h3⟩
 .cases ha
theorem zbm (h0:q 0=.run .mZ\/q 0=.waits)(cM:q iw=.run (.wr qs k a))(ho:Ops N ix q (λj p=>if j=i0 then p=.run (.an (qa qs j) (kY W (k+1) j) a (nN W (k+1) j)) else Ie W qs k j p))(hg:∀i,i≠0->i≠iw->(∀j,j<N->i≠ix j)->q i=.gone)(hi:q i=.run l)(ha:eN N W l=.send c ok pub nx):
 i0<N/\i=ix i0/\l=.an (qa qs i0) (kY W (k+1) i0) a (nN W (k+1) i0)/\c=a/\ok=(λv=>v=.int .i64 (kY W (k+1) i0))/\pub=(λ_=>[])/\nx=λ_=>.op (qa qs i0) (kY W (k+1) i0) (nN W (k+1) i0):=by
 rcases Oj h0 cM ho hg hi with⟨rfl,rfl⟩|⟨rfl,rfl⟩|⟨j,hj,rfl,⟨rfl,rfl⟩|⟨_,rfl|⟨_,rfl⟩⟩⟩
 .cases ha
 .cases ha
 .rcases zls ha with⟨_,_,_,e,h1,h2,h3⟩|⟨_,_,_,_,_,_,e,_⟩<;>cases e
  exact⟨hj,rfl,rfl,rfl,h1,h2,h3⟩
 .cases ha
 .cases ha
theorem Y8 (h0:q 0=.run .mZ\/q 0=.waits)(cM:q iw=.run (.wr qs k a))(ho:Ops N ix q (λj p=>if j=i0 then p=.run (.an (qa qs j) (kY W (k+1) j) a (nN W (k+1) j)) else Ie W qs k j p))(hg:∀i,i≠0->i≠iw->(∀j,j<N->i≠ix j)->q i=.gone)(hi:q i=.run l)(ha:eN N W l=.recv c ok nx sh):
 (i=iw/\l=.wr qs k a/\c=a/\ok=Z2 W k/\nx=(λ_=>.wk qs (k+1)))\/∃j,j<N/\j≠i0/\i=ix j/\l=.op (qa qs j) (kY W k j) (nN W k j)/\c=qa qs j/\sh=.oD:=by
 rcases Oj h0 cM ho hg hi with⟨rfl,rfl⟩|⟨rfl,rfl⟩|⟨j,hj,rfl,⟨rfl,rfl⟩|⟨aT,rfl|⟨_,rfl⟩⟩⟩
 .cases ha
 .rcases Zi ha with⟨_,_,e,_⟩|⟨_,_,e,h1,h2,h3⟩<;>cases e
  exact .inl ⟨rfl,rfl,rfl,h1,h2⟩
 .cases ha
 .rcases Zi ha with⟨_,_,e,h1,h2,h3⟩|⟨_,_,e,_⟩<;>cases e
  exact .inr ⟨j,hj,aT,rfl,rfl,rfl,h3⟩
 .cases ha
theorem zd1 (hl:l0=.mN qs\/(n<N/\∃a,l0=.mA qs a\/l0=.mS qs a)\/(l0=.mW qs/\n=N))(h0:q 0=.run l0)(ho:Ops n ix q (λj p=>p=.run (.op (qa qs j) 0 (nN W 0 j))))(hg:∀i,i≠0->(∀j,j<n->i≠ix j)->q i=.gone)(hi:q i=.run l)(ha:eN N W l=.send c ok pub nx):False:=by
 rcases Pg hl h0 ho hg hi with⟨rfl,rfl⟩|⟨j,hj,rfl,rfl⟩
 .exact(V8 (zcd hl)).1 _ _ _ _ ha
 .cases ha
theorem zfF (hl:l0=.mN qs\/(n<N/\∃a,l0=.mA qs a\/l0=.mS qs a)\/(l0=.mW qs/\n=N))(h0:q 0=.run l0)(ho:Ops n ix q (λj p=>p=.run (.op (qa qs j) 0 (nN W 0 j))))(hg:∀i,i≠0->(∀j,j<n->i≠ix j)->q i=.gone)(hi:q i=.run l)(ha:eN N W l=.recv c ok nx sh):∃j,j<n/\i=ix j/\l=.op (qa qs j) 0 (nN W 0 j)/\c=qa qs j:=by
 rcases Pg hl h0 ho hg hi with⟨rfl,rfl⟩|⟨j,hj,rfl,rfl⟩
 .exact((V8 (zcd hl)).2.1 _ _ _ _ ha).elim
 .rcases Zi ha with⟨_,_,e,h1,h2,h3⟩|⟨_,_,e,_⟩<;>cases e
  exact⟨j,hj,rfl,rfl,rfl⟩
end
end
variable {L:Type}
theorem num_upd (q:Nat->Pj L)(s:Nat):∀n,num q n<=num (bH q s .gone) n+1:=by
 have ind:∀n,num q n<=num (bH q s .gone) n+(if s<n then 1 else 0):=by
  intro n
  induction n with
  |zero=>simp[num]
  |succ n ih=>
   simp only[num];have hc:(q n).c<=1:=by cases q n<;>simp[Pj.c]
   by_cases h:n=s
   .subst h
    rw[upd_same,show(Pj.gone:Pj L).c=0 from rfl];rw[if_neg (Bt _)] at ih;rw[if_pos (xD _)];omega
   .rw[upd_ne _ _ h]
    have:s<n↔s<n+1:=aC;simp only[this] at ih;omega
 intro n;have:=ind n;split at this<;>omega
theorem zJI :∀(S:List Nat) (q:Nat->Pj L),(∀i,i∉S->q i=.gone)->∀n,num q n<=S.length:=by
 intro S
 induction S with
 |nil=>
  intro q h n
  induction n with
  |zero=>simp[num]
  |succ n ih=>simp only[num];rw[h n aP];simpa[Pj.c] using ih
 |cons s S ih=>
  intro q h n;have h1:=num_upd q s n;have h2:=ih (bH q s .gone) (λi hi=>by
   by_cases e:i=s
   .subst e;exact upd_same _ _ _
   .rw[upd_ne _ _ e];exact h i (by simp[e,hi])) n
  simp only[pX];omega
section
variable {N:Nat}{W:List fJ}{q:Nat->Pj gS}{ch:rC}
theorem ztS (ch:rC):ch.opn []=ch:=by funext c;simp[rC.opn]
theorem zxC {ch:rC}{a c:Nat}(h:c≠a):ch.opn [a] c=ch c:=by simp[rC.opn,h]
theorem zwt (ch:rC)(a:Nat):ch.opn [a] a=some false:=by simp[rC.opn]
theorem Yj {qs:List Nat}{n:Nat}(h:qs.length=n){j:Nat}(hj:j<n)(a:Nat):qa (qs++[a]) j=qa qs j:=by
 unfold qa;rw[Jx,Jx,zI aC]
theorem zgZ {qs:List Nat}{n:Nat}(h:qs.length=n)(a:Nat):qa (qs++[a]) n=a:=by
 unfold qa;rw[Jx,Ao aC,h,Mx];rfl
theorem zyb {D:aE->Prop}{l:gS}(h:(∃qs,l=.mN qs)\/(∃qs a,l=.mA qs a)\/(∃qs a,l=.mS qs a)\/(∃qs,l=.mW qs)\/l=.mZ):¬(By N W D).Blocked q ch l:=by
 unfold jU.Blocked;split
 .rename_i e;exact((V8 h).1 _ _ _ _ e).elim
 .rename_i e;exact((V8 h).2.1 _ _ _ _ e).elim
 .exact id
theorem zBb (N:Nat)(W:List fJ)(D:aE->Prop)(hW:WOk N W)(hN:N<=1000000):(By N W D).Ok where
 send1:=by
  intro q ch i j li lj c ok pub nx pN Pz nV hI hi hj ha hb
  cases hI with
  |a n qs ix l0 hq hn hl h0 ho hc hg=>exact(zd1 hl h0 ho hg hi ha).elim
  |b qs ix iw k hq hk hw aT h0 cM ho hc hg=>rw[(za0 h0 cM ho hg hi ha).1,(za0 h0 cM ho hg hj hb).1]
  |c qs ix iw k i0 kd cl ans a hq hk hw aT h0 cM ho hc pY mB hg=>rw[(zbm h0 cM ho hg hi ha).2.1,(zbm h0 cM ho hg hj hb).2.1]
 recv1:=by
  intro q ch i j li lj c ok nx sh pN nV wZ hI hi hj ha hb
  cases hI with
  |a n qs ix l0 hq hn hl h0 ho hc hg=>
   obtain⟨j1,h1,rfl,_,c1⟩:=zfF hl h0 ho hg hi ha;obtain⟨j2,h2,rfl,_,c2⟩:=zfF hl h0 ho hg hj hb;rw[hq.inj j1 j2 h1 h2 (c1.symm.trans c2)]
  |b qs ix iw k hq hk hw aT h0 cM ho hc hg=>
   obtain⟨j1,h1,rfl,_,c1,_⟩:=Vw h0 cM ho hg hi ha;obtain⟨j2,h2,rfl,_,c2,_⟩:=Vw h0 cM ho hg hj hb;rw[hq.inj j1 j2 h1 h2 (c1.symm.trans c2)]
  |c qs ix iw k i0 kd cl ans a hq hk hw aT h0 cM ho hc pY mB hg=>
   rcases Y8 h0 cM ho hg hi ha with⟨rfl,_,rfl,_⟩|⟨j1,h1,_,rfl,_,c1,_⟩<;>rcases Y8 h0 cM ho hg hj hb with⟨rfl,_,e2,_⟩|⟨j2,h2,_,rfl,_,c2,_⟩
   .rfl
   .exact(mB j2 h2 c2.symm).elim
   .exact(mB j1 h1 (c1.symm.trans e2)).elim
   .rw[hq.inj j1 j2 h1 h2 (c1.symm.trans c2)]
 sendC:=by
  intro q ch i l c ok pub nx hI hi ha
  cases hI with
  |a n qs ix l0 hq hn hl h0 ho hc hg=>exact(zd1 hl h0 ho hg hi ha).elim
  |b qs ix iw k hq hk hw aT h0 cM ho hc hg=>
   obtain⟨rfl,rfl,j,kd,cl,ans,h1,rfl,_⟩:=za0 h0 cM ho hg hi ha;obtain⟨h2,h3,_⟩:=hW.ask k j kd cl ans h1;rw[hc j h2,h3]
  |c qs ix iw k i0 kd cl ans a hq hk hw aT h0 cM ho hc pY mB hg=>
   obtain⟨_,_,_,rfl,_⟩:=zbm h0 cM ho hg hi ha;exact pY
 recvC:=by
  intro q ch i l c ok nx sh hI hi ha
  cases hI with
  |a n qs ix l0 hq hn hl h0 ho hc hg=>
   obtain⟨j1,h1,rfl,_,rfl⟩:=zfF hl h0 ho hg hi ha;exact⟨_,hc j1 h1⟩
  |b qs ix iw k hq hk hw aT h0 cM ho hc hg=>
   obtain⟨j1,h1,rfl,_,rfl,_⟩:=Vw h0 cM ho hg hi ha;exact⟨_,hc j1 h1⟩
  |c qs ix iw k i0 kd cl ans a hq hk hw aT h0 cM ho hc pY mB hg=>
   rcases Y8 h0 cM ho hg hi ha with⟨rfl,_,rfl,_⟩|⟨j1,h1,_,rfl,_,rfl,_⟩
   .exact⟨_,pY⟩
   .exact⟨_,hc j1 h1⟩
 meet:=by
  intro q ch i j li lj c ok pub nx pN nV sh v hI hi hj ha hb hv hp
  cases hI with
  |a n qs ix l0 hq hn hl h0 ho hc hg=>exact(zd1 hl h0 ho hg hi ha).elim
  |b qs ix iw k hq hk hw aT h0 cM ho hc hg=>
   obtain⟨rfl,rfl,j0,kd,cl,ans,h1,rfl,rfl,rfl,rfl⟩:=za0 h0 cM ho hg hi ha;obtain⟨j1,Gu,rfl,rfl,qN,rfl,rfl,_⟩:=Vw h0 cM ho hg hj hb;obtain rfl:=hq.inj j0 j1 (hW.ask k j0 kd cl ans h1).1 Gu qN;obtain⟨a,rfl⟩:=hv;have Kh:=hp a (by simp[O9,zft]);have mB:∀j,j<N->qa qs j≠a:=λj hj e=>by have:=hc j hj;rw[e,Kh] at this;cases this
   have hR:=zop h1 j0;rw[if_pos rfl] at hR;refine⟨⟨by simp[zft],aC⟩,?_⟩;show Wv N W (bH (bH q i (.run (.wr qs k a))) (ix j0) (.run (.an (qa qs j0) (if kd=1 then cl else kY W k j0) a (nN W k j0-1)))) (ch.opn [a]);rw[show nN W k j0-1=nN W (k+1) j0 by omega];refine .c qs ix i k j0 kd cl ans a hq h1 hw aT ?_ ?_ ⟨ho.ne,ho.inj,λj hj=>?_⟩ (λj hj=>by rw[zxC (mB j hj)];exact hc j hj) (zwt _ _) mB λi' g0 g1 g2=>?_
   .rw[upd_ne _ _ (Ne.symm (ho.ne j0 Gu)),upd_ne _ _ (Ne.symm hw)];exact h0
   .rw[upd_ne _ _ (Ne.symm (aT j0 Gu)),upd_same]
   .by_cases e:j=j0
    .subst e;rw[if_pos rfl,upd_same,zv1 h1,if_pos rfl]
    .rw[if_neg e,upd_ne _ _ (λh=>e (ho.inj j j0 hj Gu h)),upd_ne _ _ (aT j hj)]
     exact ho.at_ j hj
   .rw[upd_ne _ _ (g2 j0 Gu),upd_ne _ _ g1];exact hg i' g0 g1 g2
  |c qs ix iw k i0 kd cl ans a hq hk hw aT h0 cM ho hc pY mB hg=>
   obtain⟨eY,rfl,rfl,rfl,rfl,rfl,rfl⟩:=zbm h0 cM ho hg hi ha;rcases Y8 h0 cM ho hg hj hb with⟨rfl,rfl,_,rfl,rfl⟩|⟨j1,Gu,_,rfl,_,qN,_⟩
   .refine⟨?_,?_⟩
    .unfold Z2;rw[hk]
     show v=_;rw[(hW.ask k i0 kd cl ans hk).2.2];exact hv
    .rw[ztS]
     refine .b qs ix j (k+1) hq (wk_lt hk) hw aT ?_ (.inl (upd_same _ _ _)) ⟨ho.ne,ho.inj,λj' oP=>?_⟩ (λj' oP=>by rw[zwa hk];exact hc j' oP) λi' g0 g1 g2=>?_
     .rw[upd_ne _ _ (Ne.symm hw),upd_ne _ _ (Ne.symm (ho.ne i0 eY))];exact h0
     .rw[upd_ne _ _ (aT j' oP)]
      by_cases e:j'=i0
      .subst e;rw[upd_same];exact .inl rfl
      .rw[upd_ne _ _ (λh=>e (ho.inj j' i0 oP eY h))]
       have:=ho.at_ j' oP;rw[if_neg e] at this;unfold Ie at this⊢;have hR:=zop hk j';rw[if_neg e,Qx] at hR;rw[zv1 hk,if_neg e,zwa hk,<-hR];exact this
     .rw[upd_ne _ _ g1,upd_ne _ _ (g2 i0 eY)];exact hg i' g0 g1 g2
   .exact(mB j1 Gu qN.symm).elim
 shut:=by
  intro q ch i l c ok nx sh hI hi ha qN
  cases hI with
  |a n qs ix l0 hq hn hl h0 ho hc hg=>
   obtain⟨j1,h1,rfl,_,rfl⟩:=zfF hl h0 ho hg hi ha;rw[hc j1 h1] at qN;cases qN
  |b qs ix iw k hq hk hw aT h0 cM ho hc hg=>
   obtain⟨j1,h1,rfl,rfl,rfl,_,_,rfl⟩:=Vw h0 cM ho hg hi ha;have hx:fX W k j1=true:=by have:=hc j1 h1;rw[qN] at this;injection this with this;exact this.symm
   refine⟨trivial,.b qs ix iw k hq hk hw aT ?_ ?_ ⟨ho.ne,ho.inj,λj hj=>?_⟩ hc λi' g0 g1 g2=>?_⟩
   .rw[upd_ne _ _ (Ne.symm (ho.ne j1 h1))];exact h0
   .rw[upd_ne _ _ (Ne.symm (aT j1 h1))];exact cM
   .by_cases e:j=j1
    .subst e;rw[upd_same];exact .inr ⟨hx,.inl rfl⟩
    .rw[upd_ne _ _ (λh=>e (ho.inj j j1 hj h1 h))];exact ho.at_ j hj
   .rw[upd_ne _ _ (g2 j1 h1)];exact hg i' g0 g1 g2
  |c qs ix iw k i0 kd cl ans a hq hk hw aT h0 cM ho hc pY mB hg=>
   rcases Y8 h0 cM ho hg hi ha with⟨rfl,_,rfl,_⟩|⟨j1,h1,P8,rfl,rfl,rfl,rfl⟩
   .rw[pY] at qN;cases qN
   .have hx:fX W k j1=true:=by have:=hc j1 h1;rw[qN] at this;injection this with this;exact this.symm
    refine⟨trivial,.c qs ix iw k i0 kd cl ans a hq hk hw aT ?_ ?_ ⟨ho.ne,ho.inj,λj hj=>?_⟩ hc pY mB λi' g0 g1 g2=>?_⟩
    .rw[upd_ne _ _ (Ne.symm (ho.ne j1 h1))];exact h0
    .rw[upd_ne _ _ (Ne.symm (aT j1 h1))];exact cM
    .by_cases e:j=j1
     .subst e;rw[if_neg P8,upd_same];exact .inr ⟨hx,.inl rfl⟩
     .rw[upd_ne _ _ (λh=>e (ho.inj j j1 hj h1 h))];exact ho.at_ j hj
    .rw[upd_ne _ _ (g2 j1 h1)];exact hg i' g0 g1 g2
 close:=by
  intro q ch i l c nx hI hi ha;obtain⟨Ox,k',i0,rfl,cO,rfl,rfl⟩:=zqL (N:=N) ha
  cases hI with
  |a n qs ix l0 hq hn hl h0 ho hc hg=>
   rcases Pg hl h0 ho hg hi with⟨rfl,rfl⟩|⟨j,hj,rfl,e⟩
   .exact((V8 (N:=N) (W:=W) (zcd hl)).2.2.1 _ _ ha).elim
   .cases e
  |b qs ix iw k hq hk hw aT h0 cM ho hc hg=>
   rcases N6 h0 cM ho hg hi with⟨_,e⟩|⟨rfl,e⟩|⟨j,hj,rfl,e|⟨_,e⟩⟩<;>cases e;obtain⟨eY,hx⟩:=hW.shut k' i0 cO;refine⟨by rw[hc i0 eY,hx],.b Ox ix i (k'+1) hq (wk_lt cO) hw aT ?_ (.inl (upd_same _ _ _)) ⟨ho.ne,ho.inj,λj hj=>?_⟩ (λj hj=>?_) λi' g0 g1 g2=>?_⟩
   .rw[upd_ne _ _ (Ne.symm hw)];exact h0
   .rw[upd_ne _ _ (aT j hj)]
    have:=ho.at_ j hj;unfold Ie at this⊢;rw[zIB cO,zqe cO,zGI cO];refine this.imp id λh=>⟨?_,h.2⟩;split
    .rfl
    .exact h.1
   .rw[zqe cO]
    by_cases e:j=i0
    .subst e;rw[if_pos rfl,upd_same]
    .rw[if_neg e,upd_ne _ _ (λh=>e (hq.inj j i0 hj eY h))];exact hc j hj
   .rw[upd_ne _ _ g1];exact hg i' g0 g1 g2
  |c qs ix iw k i1 kd cl ans a hq hk hw aT h0 cM ho hc pY mB hg=>
   rcases Oj h0 cM ho hg hi with⟨_,e⟩|⟨_,e⟩|⟨j,hj,rfl,⟨_,e⟩|⟨_,e|⟨_,e⟩⟩⟩<;>cases e
 add:=by
  intro q ch i l nx hI hi ha;have ha:=zG0 ha
  cases hI with
  |a n qs ix l0 hq hn hl h0 ho hc hg=>
   rcases Pg hl h0 ho hg hi with⟨rfl,rfl⟩|⟨j,hj,rfl,rfl⟩
   .have keep:∀l',(l'=.mN qs\/(n<N/\∃a,l'=.mA qs a\/l'=.mS qs a)\/(l'=.mW qs/\n=N))->Wv N W (bH q 0 (.run l')) ch:=λl' yC=>
     .a n qs ix l' hq hn yC (upd_same _ _ _) ⟨ho.ne,ho.inj,λj hj=>by rw[upd_ne _ _ (ho.ne j hj)];exact ho.at_ j hj⟩ hc λi' g0 g1=>by rw[upd_ne _ _ g0];exact hg i' g0 g1
    rcases ha with⟨Ox,rfl,h1,rfl⟩|⟨Ox,a,rfl,rfl⟩
    .rcases hl with e|⟨_,_,e|e⟩|⟨e,_⟩<;>cases e
     refine⟨rfl,rfl,rfl,keep _ (.inr (.inr ⟨rfl,?_⟩))⟩;have:=hq.len;omega
    .rcases hl with e|⟨h1,_,e|e⟩|⟨e,_⟩<;>cases e
     exact⟨rfl,rfl,rfl,keep _ (.inr (.inl ⟨h1,a,.inr rfl⟩))⟩
   .rcases ha with⟨_,e,_⟩|⟨_,_,e,_⟩<;>cases e
  |b qs ix iw k hq hk hw aT h0 cM ho hc hg=>
   exfalso;rcases N6 h0 cM ho hg hi with⟨_,rfl⟩|⟨_,rfl⟩|⟨j,hj,_,rfl|⟨_,rfl⟩⟩<;>rcases ha with⟨_,e,_⟩|⟨_,_,e,_⟩<;>cases e
  |c qs ix iw k i0 kd cl ans a hq hk hw aT h0 cM ho hc pY mB hg=>
   exfalso;rcases Oj h0 cM ho hg hi with⟨_,rfl⟩|⟨_,rfl⟩|⟨j,hj,_,⟨_,rfl⟩|⟨_,rfl|⟨_,rfl⟩⟩⟩<;>rcases ha with⟨_,e,_⟩|⟨_,_,e,_⟩<;>cases e
 spawn:=by
  intro q ch i l pub lc nx kk hI hi ha;have ha:=zFk ha
  cases hI with
  |a n qs ix l0 hq hn hl h0 ho hc hg=>
   rcases Pg hl h0 ho hg hi with⟨rfl,rfl⟩|⟨j,hj,rfl,rfl⟩
   .rcases ha with⟨Ox,a,rfl,rfl,rfl,rfl⟩|⟨Ox,rfl,rfl,rfl,rfl⟩
    .rcases hl with e|⟨aN,_,e|e⟩|⟨e,_⟩<;>cases e
     refine⟨rfl,rfl,rfl,λhk iR hp=>?_⟩;have Kh:=hp a aP;have mB:∀j,j<n->qa qs j≠a:=λj hj e=>by have:=hc j hj;rw[e,Kh] at this;cases this
     have eE:∀j,j<n->ix j≠kk:=λj hj e=>by have:=ho.at_ j hj;rw[e,hk] at this;cases this
     have Jp:∀j,j<n+1->j<n\/j=n:=λj hj=>by omega
     refine .a (n+1) (qs++[a]) (λj=>if j<n then ix j else kk) _ ⟨by simp[hq.len],λj j' hj oP e=>?_⟩ aN (.inl rfl) ?_ ⟨λj hj=>?_,λj j' hj oP e=>?_,λj hj=>?_⟩ (λj hj=>?_) λi' g0 g1=>?_
     .rcases Jp j hj with h|rfl<;>rcases Jp j' oP with h'|rfl
      .rw[Yj hq.len h,Yj hq.len h'] at e;exact hq.inj j j' h h' e
      .rw[Yj hq.len h,zgZ hq.len] at e;exact(mB j h e).elim
      .rw[Yj hq.len h',zgZ hq.len] at e;exact(mB j' h' e.symm).elim
      .rfl
     .rw[upd_ne _ _ (Ne.symm iR),upd_same]
     .show(if j<n then ix j else kk)≠0
      split
      .rename_i h;exact ho.ne j h
      .exact iR
     .have e:=e
      rcases Jp j hj with h|rfl<;>rcases Jp j' oP with h'|rfl
      .rw[if_pos h,if_pos h'] at e;exact ho.inj j j' h h' e
      .rw[if_pos h,if_neg (Bt _)] at e;exact(eE j h e).elim
      .rw[if_pos h',if_neg (Bt _)] at e;exact(eE j' h' e.symm).elim
      .rfl
     .rcases Jp j hj with h|rfl
      .simp only[if_pos h]
       rw[upd_ne _ _ (eE j h),upd_ne _ _ (ho.ne j h),Yj hq.len h];exact ho.at_ j h
      .simp only[Bt,if_false]
       rw[upd_same,zgZ hq.len,hq.len]
     .rcases Jp j hj with h|rfl
      .rw[Yj hq.len h,zxC (mB j h)];exact hc j h
      .rw[zgZ hq.len];exact zwt _ _
     .have e1:i'≠kk:=λe=>by have:=g1 n (xD _);simp only[Bt,if_false] at this;exact this e
      rw[upd_ne _ _ e1,upd_ne _ _ g0];exact hg i' g0 λj hj e=>by have:=g1 j aC;simp only[if_pos hj] at this;exact this e
    .rcases hl with e|⟨aN,_,e|e⟩|⟨e,rfl⟩<;>cases e
     refine⟨rfl,rfl,rfl,λhk iR hp=>?_⟩;have eE:∀j,j<n->ix j≠kk:=λj hj e=>by have:=ho.at_ j hj;rw[e,hk] at this;cases this
     rw[ztS];refine .b qs ix kk 0 hq (jO _) iR eE (.inl ?_) (.inl (upd_same _ _ _)) ⟨ho.ne,ho.inj,λj hj=>?_⟩ hc λi' g0 g1 g2=>?_
     .rw[upd_ne _ _ (Ne.symm iR),upd_same]
     .rw[upd_ne _ _ (eE j hj),upd_ne _ _ (ho.ne j hj)];exact .inl (ho.at_ j hj)
     .rw[upd_ne _ _ g1,upd_ne _ _ g0];exact hg i' g0 g2
   .rcases ha with⟨_,_,e,_⟩|⟨_,e,_⟩<;>cases e
  |b qs ix iw k hq hk hw aT h0 cM ho hc hg=>
   exfalso;rcases N6 h0 cM ho hg hi with⟨_,rfl⟩|⟨_,rfl⟩|⟨j,hj,_,rfl|⟨_,rfl⟩⟩<;>rcases ha with⟨_,_,e,_⟩|⟨_,e,_⟩<;>cases e
  |c qs ix iw k i0 kd cl ans a hq hk hw aT h0 cM ho hc pY mB hg=>
   exfalso;rcases Oj h0 cM ho hg hi with⟨_,rfl⟩|⟨_,rfl⟩|⟨j,hj,_,⟨_,rfl⟩|⟨_,rfl|⟨_,rfl⟩⟩⟩<;>rcases ha with⟨_,_,e,_⟩|⟨_,e,_⟩<;>cases e
 done:=by
  intro q ch i l hI hi ha;have fN:=zBz ha
  cases hI with
  |a n qs ix l0 hq hn hl h0 ho hc hg=>
   exfalso;rcases Pg hl h0 ho hg hi with⟨rfl,rfl⟩|⟨j,hj,rfl,rfl⟩
   .exact(V8 (zcd hl)).2.2.2 ha
   .cases ha
  |b qs ix iw k hq hk hw aT h0 cM ho hc hg=>
   rcases N6 h0 cM ho hg hi with⟨_,rfl⟩|⟨rfl,rfl⟩|⟨j,hj,rfl,rfl|⟨hx,rfl⟩⟩
   .cases ha
   .rcases fN with e|⟨_,_,e,h1⟩
    .cases e
    .cases e
     have Wc:k=W.length:=by have:=zrw.1 h1;omega
     refine⟨hw,.b qs ix i k hq hk hw aT ?_ (.inr ⟨Wc,upd_same _ _ _⟩) ⟨ho.ne,ho.inj,λj hj=>?_⟩ hc λi' g0 g1 g2=>?_⟩
     .rw[upd_ne _ _ (Ne.symm hw)];exact h0
     .rw[upd_ne _ _ (aT j hj)];exact ho.at_ j hj
     .rw[upd_ne _ _ g1];exact hg i' g0 g1 g2
   .cases ha
   .refine⟨ho.ne j hj,.b qs ix iw k hq hk hw aT ?_ ?_ ⟨ho.ne,ho.inj,λj' oP=>?_⟩ hc λi' g0 g1 g2=>?_⟩
    .rw[upd_ne _ _ (Ne.symm (ho.ne j hj))];exact h0
    .rw[upd_ne _ _ (Ne.symm (aT j hj))];exact cM
    .by_cases e:j'=j
     .subst e;rw[upd_same];exact .inr ⟨hx,.inr rfl⟩
     .rw[upd_ne _ _ (λh=>e (ho.inj j' j oP hj h))];exact ho.at_ j' oP
    .rw[upd_ne _ _ (g2 j hj)];exact hg i' g0 g1 g2
  |c qs ix iw k i0 kd cl ans a hq hk hw aT h0 cM ho hc pY mB hg=>
   rcases Oj h0 cM ho hg hi with⟨_,rfl⟩|⟨rfl,rfl⟩|⟨j,hj,rfl,⟨_,rfl⟩|⟨P8,rfl|⟨hx,rfl⟩⟩⟩
   .cases ha
   .cases ha
   .cases ha
   .cases ha
   .refine⟨ho.ne j hj,.c qs ix iw k i0 kd cl ans a hq hk hw aT ?_ ?_ ⟨ho.ne,ho.inj,λj' oP=>?_⟩ hc pY mB λi' g0 g1 g2=>?_⟩
    .rw[upd_ne _ _ (Ne.symm (ho.ne j hj))];exact h0
    .rw[upd_ne _ _ (Ne.symm (aT j hj))];exact cM
    .by_cases e:j'=j
     .subst e;rw[if_neg P8,upd_same];exact .inr ⟨hx,.inr rfl⟩
     .rw[upd_ne _ _ (λh=>e (ho.inj j' j oP hj h))];exact ho.at_ j' oP
    .rw[upd_ne _ _ (g2 j hj)];exact hg i' g0 g1 g2
 note:=by
  intro q ch i l can l' hI hi ha zEA;obtain⟨Ox,rfl,aN,rfl⟩:=zHm ha;obtain⟨a,rfl⟩:=zEA;refine⟨rfl,?_⟩
  cases hI with
  |a n qs ix l0 hq hn hl h0 ho hc hg=>
   rcases Pg hl h0 ho hg hi with⟨rfl,rfl⟩|⟨j,hj,rfl,e⟩
   .rcases hl with e|⟨_,_,e|e⟩|⟨e,_⟩<;>cases e
    exact .a n Ox ix _ hq hn (.inr (.inl ⟨by have:=hq.len;omega,a,.inl rfl⟩)) (upd_same _ _ _) ⟨ho.ne,ho.inj,λj hj=>by rw[upd_ne _ _ (ho.ne j hj)];exact ho.at_ j hj⟩ hc λi' g0 g1=>by rw[upd_ne _ _ g0];exact hg i' g0 g1
   .cases e
  |b qs ix iw k hq hk hw aT h0 cM ho hc hg=>
   exfalso;rcases N6 h0 cM ho hg hi with⟨_,e⟩|⟨_,e⟩|⟨j,hj,_,e|⟨_,e⟩⟩<;>cases e
  |c qs ix iw k i0 kd cl ans a hq hk hw aT h0 cM ho hc pY mB hg=>
   exfalso;rcases Oj h0 cM ho hg hi with⟨_,e⟩|⟨_,e⟩|⟨j,hj,_,⟨_,e⟩|⟨_,e|⟨_,e⟩⟩⟩<;>cases e
 wait:=by
  intro q ch i l hI hi ha;obtain rfl:=zGp ha
  cases hI with
  |a n qs ix l0 hq hn hl h0 ho hc hg=>
   exfalso;rcases Pg hl h0 ho hg hi with⟨rfl,e⟩|⟨j,hj,rfl,e⟩
   .subst e;rcases hl with e|⟨_,_,e|e⟩|⟨e,_⟩<;>cases e
   .cases e
  |b qs ix iw k hq hk hw aT h0 cM ho hc hg=>
   rcases N6 h0 cM ho hg hi with⟨rfl,_⟩|⟨_,e⟩|⟨j,hj,_,e|⟨_,e⟩⟩
   .refine⟨rfl,rfl,.b qs ix iw k hq hk hw aT (.inr (upd_same _ _ _)) ?_ ⟨ho.ne,ho.inj,λj hj=>?_⟩ hc λi' g0 g1 g2=>?_⟩
    .rw[upd_ne _ _ hw];exact cM
    .rw[upd_ne _ _ (ho.ne j hj)];exact ho.at_ j hj
    .rw[upd_ne _ _ g0];exact hg i' g0 g1 g2
   all_goals cases e
  |c qs ix iw k i0 kd cl ans a hq hk hw aT h0 cM ho hc pY mB hg=>
   rcases Oj h0 cM ho hg hi with⟨rfl,_⟩|⟨_,e⟩|⟨j,hj,_,⟨_,e⟩|⟨_,e|⟨_,e⟩⟩⟩
   .refine⟨rfl,rfl,.c qs ix iw k i0 kd cl ans a hq hk hw aT (.inr (upd_same _ _ _)) ?_ ⟨ho.ne,ho.inj,λj hj=>?_⟩ hc pY mB λi' g0 g1 g2=>?_⟩
    .rw[upd_ne _ _ hw];exact cM
    .rw[upd_ne _ _ (ho.ne j hj)];exact ho.at_ j hj
    .rw[upd_ne _ _ g0];exact hg i' g0 g1 g2
   all_goals cases e
 prog:=by
  intro q ch hI hB
  cases hI with
  |a n qs ix l0 hq hn hl h0 ho hc hg=>exact(zyb (zcd hl) (hB 0 l0 h0)).elim
  |b qs ix iw k hq hk hw aT h0 cM ho hc hg=>
   have hz:=h0.resolve_left λe=>zyb (.inr (.inr (.inr (.inr rfl)))) (hB 0 _ e);have zDJ:k=W.length:=by
    rcases cM with e|⟨e,_⟩
    .have h1:=hB iw _ e
     cases hx:W[k]? with
     |none=>have:=zrw.1 hx;omega
     |some x=>
      exfalso
      cases x with
      |ask i kd cl ans=>
       obtain⟨hi,Af,_⟩:=hW.ask k i kd cl ans hx;unfold jU.Blocked By at h1;simp only[eN,hx] at h1;refine h1 ⟨ix i,.op (qa qs i) (kY W k i) (nN W k i),_,_,_,?_,rfl⟩;rcases ho.at_ i hi with h2|⟨h2,_⟩
       .exact h2
       .rw[Af] at h2;cases h2
      |shut i=>
       unfold jU.Blocked By at h1;simp only[eN,hx] at h1
    .exact e
   subst zDJ;refine⟨hz,λi l hi=>?_⟩;have h1:=hB i l hi;rcases N6 h0 cM ho hg hi with⟨rfl,_⟩|⟨_,rfl⟩|⟨j,hj,rfl,rfl|⟨_,rfl⟩⟩
   .rw[hz] at hi;cases hi
   .unfold jU.Blocked By at h1
    simp[eN] at h1
   .unfold jU.Blocked By at h1
    simp only[eN] at h1;rw[hc j hj,hW.all j hj] at h1;exact absurd h1.1 aP
   .unfold jU.Blocked By at h1
    simp[eN] at h1
  |c qs ix iw k i0 kd cl ans a hq hk hw aT h0 cM ho hc pY mB hg=>
   exfalso;obtain⟨eY,_,_⟩:=hW.ask k i0 kd cl ans hk;have h2:=ho.at_ i0 eY;rw[if_pos rfl] at h2;have h1:=hB (ix i0) _ h2;unfold jU.Blocked By at h1;simp only[eN] at h1;exact h1 ⟨iw,.wr qs k a,_,_,_,cM,rfl⟩
 pendC:=by
  intro l l' c v ok pub nx ha hl;subst hl;rcases zls ha with⟨c0,call,m,rfl,rfl,rfl,rfl⟩|⟨qs,k,i,kd,cl,ans,rfl,h1,rfl,rfl,rfl,rfl⟩
  .rfl
  .show(Ww qs k v).pend=false
   unfold Ww;split<;>rfl
 pendR:=by
  intro l l' c v ok nx sh ha hl;rcases Zi ha with⟨call,m,rfl,rfl,rfl,rfl⟩|⟨qs,k,rfl,rfl,rfl,rfl⟩
  .rcases hl with rfl|rfl
   .show(Uz c call m v).pend=false
    unfold Uz;split<;>rfl
   .rfl
  .rcases hl with rfl|rfl<;>rfl
 pendX:=by
  intro l c nx ha;obtain⟨qs,k,i,rfl,_,_,rfl⟩:=zqL ha;rfl
 few:=by
  intro q ch hI m;have key:∀(n iw:Nat) (ix:Nat->Nat),n<=N->(∀i,i≠0->i≠iw->(∀j,j<n->i≠ix j)->q i=.gone)->num q m<2000000000:=λn iw ix hn hg=>by
   have:=zJI (0::iw::(gN n).map ix) q (λi hi=>by
    simp only[jH,not_or,Jr,Bh,not_exists,not_and] at hi;exact hg i hi.1 hi.2.1 λj hj e=>hi.2.2 j hj e.symm) m
   simp at this;omega
  cases hI with
  |a n qs ix l0 hq hn hl h0 ho hc hg=>exact key n 0 ix hn λi h1 _ h3=>hg i h1 h3
  |b qs ix iw k hq hk hw aT h0 cM ho hc hg=>exact key N iw ix (aV _) hg
  |c qs ix iw k i0 kd cl ans a hq hk hw aT h0 cM ho hc pY mB hg=>exact key N iw ix (aV _) hg
 gotP:=by
  intro q ch i j li lj c ok pub nx pN nV sh v hI hi hj ha hb hv a hx
  cases hI with
  |a n qs ix l0 hq hn hl h0 ho hc hg=>exact(zd1 hl h0 ho hg hi ha).elim
  |b qs ix iw k hq hk hw aT h0 cM ho hc hg=>
   obtain⟨rfl,rfl,j0,kd,cl,ans,h1,rfl,rfl,rfl,rfl⟩:=za0 h0 cM ho hg hi ha;obtain⟨j1,Gu,rfl,rfl,_⟩:=Vw h0 cM ho hg hj hb;exact hx
  |c qs ix iw k i0 kd cl ans a' hq hk hw aT h0 cM ho hc pY mB hg=>
   obtain⟨eY,rfl,rfl,rfl,rfl,rfl,rfl⟩:=zbm h0 cM ho hg hi ha;rcases Y8 h0 cM ho hg hj hb with⟨rfl,rfl,_⟩|⟨j1,Gu,_,rfl,_,qN,_⟩
   .cases hx
   .exact(mB j1 Gu qN.symm).elim
end
end Go.Mt
namespace Go.Proofs.YtfcjiloojkjaeaaGreatDoor
open Go.RowKit Go.Mt
def zK (op:Int):Nat:=(op-1).toNat
def Fu (b:b6)(op:Int):List fJ:=
 .ask (zK op) 0 0 (dK b.recs op)::(if 0<dK b.recs op then[] else match b.wait with|[]=>[]|c::_=>[.ask (zK op) 1 c.c c.c])
def Dd (b:b6)(op:Int):List fJ:=
 .ask (zK op) 0 0 (dK b.recs op)::(if 0<dK b.recs op then[] else match b.back with|[]=>[]|c::_=>match oE b.o b.recs with|[]=>[]|_::_=>[.ask (zK op) 1 c.c c.c])
def Dp (b:b6)(c:Int):List fJ:=
 match jI b.recs c with
 |some i=>if 0<opAt b.recs i then[.ask (zK (opAt b.recs i)) 1 0 0] else[]
 |none=>[]
def pJ (b:b6)(e:dG):List fJ:=
 if e.k.toList=Jq then[] else if e.k.toList=Jb then Fu b e.a else if e.k.toList=H0 then Dd b e.a else if e.k.toList=L5 then Dp b e.a else[]
def rY (o:jN)(es:List dG):Nat->List fJ
 |0=>[]
 |k+1=>rY o es k++(match es[k]? with|some e=>pJ (mK o es k) e|none=>[])
def yH (b:b6):Nat->List fJ
 |0=>[]
 |n+1=>yH b n++[.ask n 0 0 (dK b.recs ((n:Int)+1)),.shut n]
def B6 (o:jN)(es:List dG):List fJ:=rY o es es.length++yH (H9 o es) o.op.toNat
theorem zkN (A B:List fJ)(i:Nat):∀k,k<=A.length->kY (A++B) k i=kY A k i:=by
 intro k
 induction k with
 |zero=>intro _;rfl
 |succ k ih=>
  intro hk;simp only[kY];rw[zI aC,ih aC]
theorem Ze (A B:List fJ)(i:Nat):∀k,k<=A.length->fX (A++B) k i=fX A k i:=by
 intro k
 induction k with
 |zero=>intro _;rfl
 |succ k ih=>
  intro hk;simp only[fX];rw[zI aC,ih aC]
theorem zg2 (A:List fJ)(x:fJ):(A++[x])[A.length]? =some x:=by rw[Ao (aV _),Mx];rfl
structure WP (N:Nat)(A:List fJ):Prop where
 ask:∀(k i:Nat) (kd cl ans:Int),A[k]? =some (.ask i kd cl ans)->i<N/\fX A k i=false/\ans=kY A (k+1) i
 shut:∀(k i:Nat),A[k]? =some (.shut i)->i<N/\fX A k i=false
variable {N:Nat}{A:List fJ}
theorem WP.snoc {x:fJ}(h:WP N A)(h1:∀i kd cl ans,x=.ask i kd cl ans->i<N/\fX A A.length i=false/\ans=kY (A++[x]) (A.length+1) i)(h2:∀i,x=.shut i->i<N/\fX A A.length i=false):WP N (A++[x]):=by
 have key:∀(k:Nat) (y:fJ),(A++[x])[k]? =some y->(k<A.length/\A[k]? =some y)\/(k=A.length/\y=x):=λk y hk=>by
  rcases mY k A.length with hl|hl
  .rw[zI hl] at hk;exact .inl ⟨hl,hk⟩
  .rw[Ao hl] at hk
   rcases Pv (k-A.length) with e|e
   .rw[e] at hk;exact .inr ⟨aC,by simpa using hk.symm⟩
   .rw[Ca qR] at hk;cases hk
 refine⟨λk i kd cl ans hk=>?_,λk i hk=>?_⟩
 .rcases key k _ hk with⟨hl,cO⟩|⟨rfl,e⟩
  .obtain⟨a1,a2,a3⟩:=h.ask k i kd cl ans cO
   exact⟨a1,by rw[Ze _ _ _ _ aC];exact a2,by rw[zkN _ _ _ _ aC];exact a3⟩
  .obtain⟨a1,a2,a3⟩:=h1 i kd cl ans e.symm
   exact⟨a1,by rw[Ze _ _ _ _ (aV _)];exact a2,a3⟩
 .rcases key k _ hk with⟨hl,cO⟩|⟨rfl,e⟩
  .obtain⟨a1,a2⟩:=h.shut k i cO
   exact⟨a1,by rw[Ze _ _ _ _ aC];exact a2⟩
  .obtain⟨a1,a2⟩:=h2 i e.symm
   exact⟨a1,by rw[Ze _ _ _ _ (aV _)];exact a2⟩
theorem Wj (A:List fJ)(j:Nat)(kd cl ans:Int)(i:Nat):kY (A++[.ask j kd cl ans]) (A.length+1) i=if i=j then(if kd=1 then cl else kY A A.length i) else kY A A.length i:=by
 simp only[kY,zg2];rw[zkN _ _ _ _ (aV _)]
theorem zmT (A:List fJ)(j:Nat)(kd cl ans:Int)(i:Nat):fX (A++[.ask j kd cl ans]) (A.length+1) i=fX A A.length i:=by
 simp only[fX,zg2];rw[Ze _ _ _ _ (aV _)]
theorem zz2 (A:List fJ)(j i:Nat):kY (A++[.shut j]) (A.length+1) i=kY A A.length i:=by
 simp only[kY,zg2];rw[zkN _ _ _ _ (aV _)]
theorem zFx (A:List fJ)(j i:Nat):fX (A++[.shut j]) (A.length+1) i=if i=j then true else fX A A.length i:=by
 simp only[fX,zg2];rw[Ze _ _ _ _ (aV _)]
def Ji (N:Nat)(rs:List bS)(A:List fJ):Prop:=∀i,i<N->kY A A.length i=dK rs ((i:Int)+1)/\fX A A.length i=false
def zc8 (A:List fJ)(x:fJ):(A++[x]).length=A.length+1:=aP
variable {rs:List bS}{i:Nat}
theorem WP.who (h:WP N A)(ht:Ji N rs A)(hi:i<N):WP N (A++[.ask i 0 0 (dK rs ((i:Int)+1))])/\Ji N rs (A++[.ask i 0 0 (dK rs ((i:Int)+1))]):=by
 obtain⟨t1,t2⟩:=ht i hi;refine⟨h.snoc (λj kd cl ans e=>?_) (λj e=>by cases e),λj hj=>?_⟩
 .cases e
  exact⟨hi,t2,by rw[Wj,if_pos rfl,if_neg aH,t1]⟩
 .obtain⟨s1,s2⟩:=ht j hj
  rw[zc8,Wj,zmT];refine⟨?_,s2⟩;split
  .rw[if_neg aH];exact s1
  .exact s1
variable {Kx:List bS}
theorem WP.tell (h:WP N A)(ht:Ji N rs A)(hi:i<N){c:Int}(h1:dK Kx ((i:Int)+1)=c)(h2:∀j:Nat,j<N->j≠i->dK Kx ((j:Int)+1)=dK rs ((j:Int)+1)):WP N (A++[.ask i 1 c c])/\Ji N Kx (A++[.ask i 1 c c]):=by
 obtain⟨t1,t2⟩:=ht i hi;refine⟨h.snoc (λj kd cl ans e=>?_) (λj e=>by cases e),λj hj=>?_⟩
 .cases e
  exact⟨hi,t2,by rw[Wj,if_pos rfl,if_pos rfl]⟩
 .obtain⟨s1,s2⟩:=ht j hj
  rw[zc8,Wj,zmT];refine⟨?_,s2⟩;split
  .rename_i e;subst e;rw[if_pos rfl,h1]
  .rename_i e;rw[h2 j hj e];exact s1
def Ji.same (ht:Ji N rs A)(h:∀j:Nat,j<N->dK Kx ((j:Int)+1)=dK rs ((j:Int)+1)):Ji N Kx A:=λi hi=>⟨(ht i hi).1.trans (h i hi).symm,(ht i hi).2⟩
variable {op:Int}
theorem zvC {r:bS}(h:r.o≠op):dK (rs++[r]) op=dK rs op:=by
 unfold dK;have hn:[r].find? (vT op)=none:=by
  rw[zfV];intro x hx;obtain rfl:=sK.1 hx;unfold vT;simp[h]
 rw[List.find?_append,hn];cases rs.find? (vT op)<;>rfl
variable {b:b6}
def jG.one (h:jG b)(hop:0<op):∀(i j:Nat) (d e:bS),b.recs[i]? =some d->b.recs[j]? =some e->eL d=true->eL e=true->d.o=op->e.o=op->i=j:=
 λi j d e h1 h2 h3 h4 h5 h6=>h.opn i j d e h1 h2 h3 h4 (.inr (.inr ⟨h5.trans h6.symm,aC⟩))
theorem zoV (hu:∀(i j:Nat) (d e:bS),Kx[i]? =some d->Kx[j]? =some e->eL d=true->eL e=true->d.o=op->e.o=op->i=j)
 (h1:∀(i:Nat) (d:bS),rs[i]? =some d->eL d=true->d.o=op->Kx[i]? =some d) (h2:∀(i:Nat) (d:bS),Kx[i]? =some d->eL d=true->d.o=op->rs[i]? =some d):dK Kx op=dK rs op:=by
 rcases zuN rs op with⟨i,d,a1,a2,a3,a4⟩|⟨a1,a2⟩
 .rw[a4];exact zmk hu (h1 i d a1 a2 a3) a2 a3
 .rw[a2]
  exact zpb λi d hd ho e=>a1 i d (h2 i d hd ho e) ho e
variable {d:bS}{e:ByteArray}
theorem ziN (h:jG b)(hd:b.recs[i]? =some d)(he:(e.toList==[111,112,101,110])=false)(hop:0<op)(aT:d.o≠op):dK (Kr b i e) op=dK b.recs op:=by
 have old:∀(j:Nat) (z:bS),(Kr b i e)[j]? =some z->eL z=true->b.recs[j]? =some z:=λj z hj hz=>by
  obtain⟨d',h1,⟨_,rfl⟩|⟨h2,rfl⟩⟩:=Ez hj
  .have Hi:eL {d' with t:=b.clk,e:=e}=false:=he
   rw[Hi] at hz;cases hz
  .exact h1
 refine zoV (λp q x y hp hq hx hy h5 h6=>h.one hop p q x y (old p x hp hx) (old q y hq hy) hx hy h5 h6) (λj z hj hz e=>?_) (λj z hj hz _=>old j z hj hz);exact O6 hj λe2=>by subst e2;rw[hd] at hj;injection hj with hj;exact aT (hj▸e)
theorem zFa (h:jG b)(hd:b.recs[i]? =some d)(zes:eL d=true)(he:(e.toList==[111,112,101,110])=false)(hop:0<d.o):dK (Kr b i e) d.o=0:=by
 refine zpb λj z hj hz e2=>?_;obtain⟨d',h1,⟨_,rfl⟩|⟨h2,rfl⟩⟩:=Ez hj
 .have Hi:eL {d' with t:=b.clk,e:=e}=false:=he
  rw[Hi] at hz;cases hz
 .exact h2 (h.one hop i j d z hd h1 zes hz rfl e2)
theorem zHb (hop:0<op):∀(xs:List bE) (b:b6) (t:List UInt8),jG b->(xs.map bE.c).Nodup->(∀x∈xs,x∈b.wait)->dK (xs.foldl l9 (b,t)).1.recs op=dK b.recs op:=by
 intro xs
 induction xs with
 |nil=>intro b t h _ _;rfl
 |cons x xs ih=>
  intro b t h hn hx;rw[Qn];have hS:=h.tire (t:=t) (x:=x);rw[fL,C4] at hn;have key:dK (l9 (b,t) x).1.recs op=dK b.recs op/\∀y∈xs,y∈(l9 (b,t) x).1.wait:=by
   have Cj:∀y∈xs,y∈b.wait:=λy hy=>hx y (Fw _ hy);obtain⟨i0,d0,w1,w2,w3,w4⟩:=h.wt x (hx x aP);have fA:jI b.recs x.c=some i0:=by rw[<-w3];exact h.at_ w1 w2
   unfold l9;simp only[fA];split
   .refine⟨ziN h w1 zjo hop aC,λy hy=>?_⟩
    show y∈dY b.wait (F8 b.recs i0);unfold dY;rw[Ia,S3 w1,w3];refine⟨Cj y hy,?_⟩;have:y.c≠x.c:=λe=>hn.1 (e▸Vj hy);simpa using this
   .exact⟨rfl,Cj⟩
  obtain⟨k1,k2⟩:=key;generalize l9 (b,t) x=p at hS k1 k2⊢;obtain⟨b',t'⟩:=p;rw[ih b' t' hS hn.2 k2];exact k1
structure S4 (b:b6):Prop where
 op:∀d∈b.recs,0<=d.o/\d.o<=b.o.op
 n1:1<=b.o.op
def zue (A B:List fJ)(x:fJ):A++x::B=(A++[x])++B:=aP
theorem zIc {e:dG}(hS:jG b)(hr:RInv b)(hB:S4 b)(hN:b.o.op=(N:Int))(he:sN b.o.op e=true)(hw:WP N A)(ht:Ji N b.recs A):
 WP N (A++pJ b e)/\Ji N (eU b e).1.recs (A++pJ b e)/\S4 (eU b e).1:=by
 have zll:∀op:Int,1<=op->op<=b.o.op->zK op<N/\((zK op:Nat):Int)+1=op:=λop h1 h2=>by unfold zK;omega
 by_cases h1:e.k.toList=Jq
 .unfold pJ eU
  rw[if_pos h1,if_pos h1,N0];refine⟨hw,?_⟩;unfold qB;split
  .exact⟨ht,⟨hB.op,hB.n1⟩⟩
  .split
   .exact⟨ht,⟨hB.op,hB.n1⟩⟩
   .rename_i l ls hf
    refine⟨ht.same λj hj=>zvC (by show(0:Int)≠_;omega),⟨λd hd=>?_,hB.n1⟩⟩;rcases E5.1 hd with hd|hd
    .exact hB.op d hd
    .obtain rfl:=sK.1 hd
     exact⟨Int.le_refl _,by have:=hB.n1;show(0:Int)<=b.o.op;omega⟩
 by_cases h2:e.k.toList=Jb
 .obtain⟨o1,o2⟩:=zfi he (.inl h2)
  obtain⟨i1,i2⟩:=zll e.a o1 o2;have zG:=h1;unfold pJ eU;rw[if_neg h1,if_neg h1,if_pos h2,if_pos h2];unfold Fu nH;obtain⟨k1,k2⟩:=hw.who ht i1;rw[i2] at k1 k2;by_cases hp:0<dK b.recs e.a
  .rw[if_pos hp,if_pos hp]
   exact⟨k1,k2,hB⟩
  .rw[if_neg hp,if_neg hp]
   cases cD:b.wait with
   |nil=>exact⟨k1,k2,hB⟩
   |cons c cs=>
    obtain⟨i0,d0,w1,w2,w3,w4⟩:=hS.wt c U7;have fA:jI b.recs c.c=some i0:=by rw[<-w3];exact hS.at_ w1 w2
    simp only[fA];rw[zue];have hn:=zeJ (λd hd=>(hr.recB d hd).1) hp;have Pk:=hS.heard (hh:=b.clk) w1 w2 hn (wait:=[]) (λx hx=>by cases hx);have r1:dK (b.recs.modify i0 λd=>{d with o:=e.a,h:=b.clk}) (((zK e.a:Nat):Int)+1)=c.c:=by
     rw[i2];have:=zmk (rs:=b.recs.modify i0 λd=>{d with o:=e.a,h:=b.clk}) (op:=e.a) (λp q x y=>Pk.one aC p q x y) (Z8 w1) w2 rfl;rw[this];exact w3
    have r2:∀j:Nat,j<N->j≠zK e.a->dK (b.recs.modify i0 λd=>{d with o:=e.a,h:=b.clk}) ((j:Int)+1)=dK b.recs ((j:Int)+1):=λj hj aT=>by
     have Wx:(j:Int)+1≠e.a:=λh=>aT zjl;refine zoV (λp q x y=>Pk.one aC p q x y) (λp z hz zdi zlp=>?_) (λp z hz zdi zlp=>?_)
     .exact O6 hz λe2=>by subst e2;rw[w1] at hz;injection hz with hz;rw[<-hz] at zlp;omega
     .obtain⟨d',g1,⟨_,rfl⟩|⟨_,rfl⟩⟩:=Ez hz
      .exact absurd zlp.symm Wx
      .exact g1
    obtain⟨m1,m2⟩:=k1.tell k2 i1 r1 r2;refine⟨m1,m2,⟨λd hd=>?_,hB.n1⟩⟩;obtain⟨d',Ae,rfl|rfl⟩:=Ui hd
    .exact hB.op _ Ae
    .exact⟨by show 0<=e.a;omega,o2⟩
 by_cases h3:e.k.toList=H0
 .obtain⟨o1,o2⟩:=zfi he (.inr h3)
  obtain⟨i1,i2⟩:=zll e.a o1 o2;unfold pJ eU;rw[if_neg h1,if_neg h1,if_neg h2,if_neg h2,if_pos h3,if_pos h3];unfold Dd lZ;obtain⟨k1,k2⟩:=hw.who ht i1;rw[i2] at k1 k2;by_cases hp:0<dK b.recs e.a
  .rw[if_pos hp,if_pos hp]
   exact⟨k1,k2,hB⟩
  .rw[if_neg hp,if_neg hp]
   cases uX:b.back with
   |nil=>exact⟨k1,k2,hB⟩
   |cons c cs=>
    cases hf:oE b.o b.recs with
    |nil=>exact⟨k1,k2,hB⟩
    |cons l ls=>
     simp only;rw[zue];have hn:=zeJ (λd hd=>(hr.recB d hd).1) hp;have Pk:=hS.more (c:=c.c) (l:=l) (o:=e.a) (hh:=b.clk) (tt:=-1) (clk:=b.clk) (hS.bo c zcO) (zjm Y6) (.inr hn) (wait:=[]) (back:=[]) (λx hx=>by cases hx) Ou (λx hx=>by cases hx);have r1:dK (b.recs++[⟨c.c,l,e.a,b.clk,b.clk,-1,eO⟩]) (((zK e.a:Nat):Int)+1)=c.c:=by
      rw[i2];exact zmk (rs:=b.recs++[⟨c.c,l,e.a,b.clk,b.clk,-1,eO⟩]) (op:=e.a) (λp q x y=>Pk.one aC p q x y) (i:=b.recs.length) (d:=⟨c.c,l,e.a,b.clk,b.clk,-1,eO⟩) (by rw[Ao (aV _),Mx];rfl) (by unfold eL;rw[zdN];rfl) rfl
     have r2:∀j:Nat,j<N->j≠zK e.a->dK (b.recs++[⟨c.c,l,e.a,b.clk,b.clk,-1,eO⟩]) ((j:Int)+1)=dK b.recs ((j:Int)+1):=λj hj aT=>
      zvC (by show e.a≠_;intro h;exact aT zjl)
     obtain⟨m1,m2⟩:=k1.tell k2 i1 r1 r2;refine⟨m1,m2,⟨λd hd=>?_,hB.n1⟩⟩;rcases E5.1 hd with hd|hd
     .exact hB.op d hd
     .obtain rfl:=sK.1 hd
      exact⟨by show 0<=e.a;omega,o2⟩
 by_cases h4:e.k.toList=L5
 .unfold pJ eU
  rw[if_neg h1,if_neg h1,if_neg h2,if_neg h2,if_neg h3,if_neg h3,if_pos h4,if_pos h4];unfold Dp mJ
  cases fA:jI b.recs e.a with
  |none=>
   simp only;rw[N0];split
   .exact⟨hw,ht,⟨hB.op,hB.n1⟩⟩
   .exact⟨hw,ht,⟨hB.op,hB.n1⟩⟩
  |some i=>
   obtain⟨d,g1,g2,g3⟩:=Cg fA;have ho:opAt b.recs i=d.o:=by unfold opAt;rw[g1]
   have zr8:∀(x:ByteArray),∀z∈Kr b i x,0<=z.o/\z.o<=b.o.op:=λx z hz=>by
    obtain⟨d',Ae,rfl|rfl⟩:=Ui hz
    .exact hB.op _ Ae
    .exact hB.op d' Ae
   simp only[ho];by_cases hp:0<d.o
   .rw[if_pos hp,if_pos hp]
    obtain⟨i1,i2⟩:=zll d.o aC (hB.op d (dX g1)).2;have r1:dK (Kr b i F5) (((zK d.o:Nat):Int)+1)=0:=by rw[i2];exact zFa hS g1 g3 zdq hp
    have r2:∀j:Nat,j<N->j≠zK d.o->dK (Kr b i F5) ((j:Int)+1)=dK b.recs ((j:Int)+1):=λj hj aT=>ziN hS g1 zdq aC (λh=>aT zjl);obtain⟨m1,m2⟩:=hw.tell ht i1 r1 r2;exact⟨m1,m2,⟨zr8 _,hB.n1⟩⟩
   .rw[if_neg hp,if_neg hp,N0]
    exact⟨hw,ht.same λj hj=>ziN hS g1 zlQ aC (by have:=(hB.op d (dX g1)).1;omega),⟨zr8 _,hB.n1⟩⟩
 .unfold pJ eU
  rw[if_neg h1,if_neg h1,if_neg h2,if_neg h2,if_neg h3,if_neg h3,if_neg h4,if_neg h4,N0];unfold uJ;have Pk:jG {b with clk:=b.clk+e.a}:=⟨hS.opn,hS.last,hS.wt,hS.bk,hS.bo⟩;refine⟨hw,ht.same λj hj=>zHb aC b.wait {b with clk:=b.clk+e.a} _ Pk hr.nodup (λx hx=>hx),?_⟩;have key:∀(xs:List bE) (b':b6) (t:List UInt8),S4 b'->S4 (xs.foldl l9 (b',t)).1:=by
   intro xs
   induction xs with
   |nil=>intro b' t h;exact h
   |cons x xs ih=>
    intro b' t h;rw[Qn];have h9:S4 (l9 (b',t) x).1:=by
     unfold l9;split
     .exact h
     .split
      .refine⟨λz hz=>?_,h.n1⟩
       obtain⟨d',Ae,rfl|rfl⟩:=Ui hz
       .exact h.op _ Ae
       .exact h.op d' Ae
      .exact h
    generalize l9 (b',t) x=p at h9⊢;obtain⟨zC3,zJb⟩:=p;exact ih zC3 zJb h9
  exact key _ _ _ ⟨hB.op,hB.n1⟩
variable {o:jN}{es:List dG}
theorem zrR (h:j9 o es=true)(hN:o.op=(N:Int)):∀k,k<=es.length->WP N (rY o es k)/\Ji N (mK o es k).recs (rY o es k)/\S4 (mK o es k):=by
 intro k;have bV:=h;unfold j9 at bV;simp only[fT,tU] at bV
 induction k with
 |zero=>
  intro _;refine⟨⟨λk i kd cl ans h=>by simp[rY] at h,λk i h=>by simp[rY] at h⟩,λi hi=>⟨rfl,rfl⟩,⟨λd hd=>by simp[mK,lW] at hd,?_⟩⟩;have:=bV.1.1;unfold sE at this;simp at this;show 1<=o.op;omega
 |succ k ih=>
  intro hk;have aN:k<es.length:=aC;have he:=lV aN;obtain⟨a1,a2,a3⟩:=ih aC;obtain⟨b1,_,b3⟩:=N9 h k aC;have:=zIc (zv5 h k aC) b1 a3 (by rw[b3];exact hN) (by rw[b3];exact bV.2 es[k] (List.getElem_mem aN)) a1 a2;rw[Vq he];unfold rY;rw[he];exact⟨this.1,this.2.1,⟨this.2.2.op,this.2.2.n1⟩⟩
theorem endA_ok (hw:WP N A)(ht:Ji N b.recs A):∀n,n<=N->WP N (A++yH b n)/\(∀i,i<N->kY (A++yH b n) (A++yH b n).length i=dK b.recs ((i:Int)+1))/\(∀i,fX (A++yH b n) (A++yH b n).length i=if i<n then true else fX A A.length i):=by
 intro n
 induction n with
 |zero=>intro _;simp only[yH,N0];exact⟨hw,λi hi=>(ht i hi).1,λi=>by simp⟩
 |succ n ih=>
  intro hn;obtain⟨k1,k2,k3⟩:=ih aC;have e:A++yH b (n+1)=(A++yH b n++[fJ.ask n 0 0 (dK b.recs ((n:Int)+1))])++[.shut n]:=by simp[yH]
  rw[e];generalize A++yH b n=B at*;have hx:fX B B.length n=false:=by rw[k3 n,if_neg (Bt _)];exact(ht n aC).2
  have w1:WP N (B++[fJ.ask n 0 0 (dK b.recs ((n:Int)+1))]):=k1.snoc (λj kd cl ans e=>by cases e;exact⟨aC,hx,by rw[Wj,if_pos rfl,if_neg aH,k2 n aC]⟩) (λj e=>by cases e);have l1:=zc8 B (fJ.ask n 0 0 (dK b.recs ((n:Int)+1)));have x1:∀i,fX (B++[fJ.ask n 0 0 (dK b.recs ((n:Int)+1))]) (B++[fJ.ask n 0 0 (dK b.recs ((n:Int)+1))]).length i=fX B B.length i:=λi=>by rw[l1,zmT]
  have c1:∀i,kY (B++[fJ.ask n 0 0 (dK b.recs ((n:Int)+1))]) (B++[fJ.ask n 0 0 (dK b.recs ((n:Int)+1))]).length i=kY B B.length i:=λi=>by
   rw[l1,Wj];split
   .rw[if_neg aH]
   .rfl
  generalize B++[fJ.ask n 0 0 (dK b.recs ((n:Int)+1))]=B2 at*;refine⟨w1.snoc (λj kd cl ans e=>by cases e) (λj e=>by cases e;exact⟨aC,by rw[x1];exact hx⟩),λi hi=>?_,λi=>?_⟩
  .rw[zc8,zz2,c1];exact k2 i hi
  .rw[zc8,zFx,x1,k3 i]
   by_cases h:i=n
   .subst h;rw[if_pos rfl,if_pos (xD _)]
   .rw[if_neg h]
    by_cases h2:i<n
    .rw[if_pos h2,if_pos aC]
    .rw[if_neg h2,if_neg aC]
theorem zDa (h:j9 o es=true):WOk o.op.toNat (B6 o es):=by
 have h1:o.op=(o.op.toNat:Int):=by
  have bV:=h;unfold j9 sE at bV;simp at bV;omega
 obtain⟨a1,a2,a3⟩:=zrR h h1 es.length (aV _);rw[zc4] at a2;obtain⟨k1,k2,k3⟩:=endA_ok a1 a2 o.op.toNat (aV _);exact⟨k1.ask,k1.shut,λi hi=>by unfold B6;rw[k3 i,if_pos hi]⟩
end Go.Proofs.YtfcjiloojkjaeaaGreatDoor
namespace Go.Proofs.YtfcjiloojkjaeaaGreatDoor
open Go.RowKit
section
variable {P:bR}{k:aM}
theorem ziE {d:Mm}{e:aM}(hk:P.underlying k=some (.chan d e))(a b:Option Nat)(w:aE):(Op.equal k (.chan a) (.chan b)).run P w=.ok (a==b) w:=by
 unfold Op.equal;rw[show Qw=(Qw-1)+1 by decide];simp[Op.equalIn,wQ hk]
end
def yM (es:List oX)(ps:List (Nat×aF)):Prop:=es.map (λe=>(e.key,e.val))=ps.map (λp=>(aF.chan (some p.1),p.2))
def Bq (w:aE)(b:Nat)(ps:List (Nat×aF)):Prop:=∃es clock,w.heap[b]? =some (.map es clock)/\yM es.toList ps
def pG (c:Nat):List (Nat×aF)->Option aF
 |[]=>none
 |p::ps=>if c=p.1 then some p.2 else pG c ps
def uV (c:Nat)(v:aF):List (Nat×aF)->List (Nat×aF)
 |[]=>[(c,v)]
 |p::ps=>if c=p.1 then(p.1,v)::ps else p::uV c v ps
def Am (c:Nat):List (Nat×aF)->Nat->Option (Nat×aF)
 |[],_=>none
 |p::ps,i=>if c=p.1 then some (i,p.2) else Am c ps (i+1)
variable {e:oX}{es:List oX}{ps:List (Nat×aF)}
theorem yM.cons_inv (h:yM (e::es) ps):∃p qs,ps=p::qs/\e.key=.chan (some p.1)/\e.val=p.2/\yM es qs:=by
 unfold yM at h
 cases ps with
 |nil=>cases h
 |cons p qs=>
  rw[fL,fL] at h;injection h with h1 h2;injection h1 with h3 h4;exact⟨p,qs,rfl,h3,h4,h2⟩
theorem yM.nil_inv (h:yM [] ps):ps=[]:=by
 unfold yM at h;cases ps with
 |nil=>rfl
 |cons p qs=>cases h
section
variable {P:bR}{k:aM}{d:Mm}{e0:aM}
theorem zxG (hk:P.underlying k=some (.chan d e0))(c:Nat)(w:aE):∀(es:List oX) (ps:List (Nat×aF)) (i:Nat),yM es ps->(Kg k (.chan (some c)) es i).run P w=.ok (Am c ps i) w
 |[],ps,i,h=>by rw[h.nil_inv];rfl
 |e::es,ps,i,h=>by
  obtain⟨p,qs,rfl,h1,h2,h3⟩:=h.cons_inv;have ih:=zxG hk c w es qs (i+1) h3;unfold Kg;simp only[Et,h1,ziE hk,Fa];by_cases hc:c=p.1
  .subst hc;simp[Am,h2]
  .have:(some c==some p.1)=false:=by rw[beq_eq_false_iff_ne];intro h;injection h with h;exact hc h
   rw[this];simp only[Bool.false_eq_true,if_false,Am,if_neg hc];exact ih
theorem zf6 (hk:P.underlying k=some (.chan d e0))(c:Nat)(w:aE)(es:List oX)(ps:List (Nat×aF))(h:yM es ps):(K3 k (.chan (some c)) es).run P w=.ok (Am c ps 0) w:=by
 unfold K3;simp only[Et,wQ hk,Fa]
 cases es with
 |nil=>rw[h.nil_inv];rfl
 |cons e es=>
  have:Hf (.chan d e0) (.chan (some c)) (e::es) 0=none:=by
   simp[Hf,vY]
  rw[this];exact zxG hk c w _ _ 0 h
theorem zh2 (c:Nat):∀(ps:List (Nat×aF)) (i:Nat),(Am c ps i).map zxg=pG c ps
 |[],_=>rfl
 |p::ps,i=>by
  unfold Am pG;by_cases h:c=p.1
  .rw[if_pos h,if_pos h];rfl
  .rw[if_neg h,if_neg h];exact zh2 c ps (i+1)
theorem zfh (hk:P.underlying k=some (.chan d e0))(b:Bool)(c:Nat)(w:aE):(Gl b 10000 k (.chan (some c))).run P w=.ok () w:=by
 rw[show(10000:Nat)=9999+1 by decide];unfold Gl;simp[wQ hk]
variable {ps:List (Nat×aF)}
theorem zCs {t e:aM}(ht:P.underlying t=some (.map k e))(hk:P.underlying k=some (.chan d e0)){z:aF}{w:aE}(hz:(zeroValue e).run P w=.ok z w){b c:Nat}(h:Bq w b ps)(ok:Bool):
 (zP t (.map (some b)) (.chan (some c)) ok).run P w=.ok (if ok then .tuple #[(pG c ps).getD z,.bool (pG c ps).isSome] else(pG c ps).getD z) w:=by
 obtain⟨es,clock,hb,he⟩:=h;unfold zP;have hf:=zh2 c ps 0;have hg:(getObj b).run P w=.ok (.map es clock) w:=by first|exact run_getObj hb|(show bD P (zrM b Sem.pure) w=_;unfold bD;rw[hb];rfl)|(simp[getObj,bD,hb])
 simp only[Et,wQ ht,Fa,hg,Jd,zfh hk,zf6 hk c w _ _ he]
 cases hq:Am c ps 0 with
 |none=>
  rw[hq] at hf;have Ag:pG c ps=none:=by simpa using hf.symm
  simp[hz,Ag]
 |some q=>
  rw[hq] at hf;have Ag:pG c ps=some q.2:=by simpa using hf.symm
  simp[Ag]
end
variable {c:Nat}{v:aF}
theorem zpL :∀{ps:List (Nat×aF)} {i:Nat},Am c ps i=none->uV c v ps=ps++[(c,v)]
 |[],_,_=>rfl
 |p::ps,i,h=>by
  unfold Am at h;by_cases hc:c=p.1
  .rw[if_pos hc] at h;cases h
  .rw[if_neg hc] at h
   unfold uV;rw[if_neg hc,zpL h];rfl
theorem zqq :∀{es:List oX} {ps:List (Nat×aF)} {i:Nat} {q:Nat×aF},yM es ps->Am c ps i=some q->
 ∃j e0,q.1=i+j/\es[j]? =some e0/\e0.key=.chan (some c)/\yM (es.set j {e0 with key:=.chan (some c),val:=v}) (uV c v ps)
 |[],ps,i,q,h,hq=>by rw[h.nil_inv] at hq;cases hq
 |e::es,ps,i,q,h,hq=>by
  obtain⟨p,qs,rfl,h1,h2,h3⟩:=h.cons_inv;unfold Am at hq;by_cases hc:c=p.1
  .rw[if_pos hc] at hq
   injection hq with hq;refine⟨0,e,by rw[<-hq];rfl,rfl,by rw[h1,hc],?_⟩;unfold uV;rw[if_pos hc];unfold yM at h3⊢;rw[dW,fL,fL,h3,hc]
  .rw[if_neg hc] at hq
   obtain⟨j,e0,e1,e2,e3,e4⟩:=zqq h3 hq;refine⟨j+1,e0,by rw[e1];omega,e2,e3,?_⟩;unfold uV;rw[if_neg hc];unfold yM at e4⊢;rw[dS,fL,fL,e4,h1,h2]
variable {P:bR}
theorem zFC (c:Nat)(w:aE):(Pf (.chan (some c)) (.chan (some c))).run P w=.ok (.chan (some c)) w:=by
 unfold Pf;rw[if_pos (by simp[za5])];rfl
section
variable {P:bR}{k:aM}{d:Mm}{e0:aM}
variable {ps:List (Nat×aF)}
open Go.ChangeMaps in
theorem zHD {t e:aM}(ht:P.underlying t=some (.map k e))(hk:P.underlying k=some (.chan d e0)){w:aE}{b c:Nat}(h:Bq w b ps)(v:aF):
 ∃fC za4,(G6 t (.map (some b)) (.chan (some c)) v).run P w=.ok () {w with heap:=w.heap.setIfInBounds b (.map fC za4)}/\Bq {w with heap:=w.heap.setIfInBounds b (.map fC za4)} b (uV c v ps):=by
 obtain⟨es,clock,hb,he⟩:=h;have hz:=(dQ.1 hb).1
 cases hq:Am c ps 0 with
 |none=>
  refine⟨es.push ⟨.chan (some c),v,clock⟩,clock+1,?_,es.push ⟨.chan (some c),v,clock⟩,clock+1,by simp[hz],?_⟩
  .simp[G6,wQ ht,Zh hb,zfh hk,zf6 hk c w _ _ he,hq,X4 _ hb,uD]
  .rw[zpL hq]
   unfold yM at he⊢;rw[zuQ,Hr,Hr,he];rfl
 |some q=>
  obtain⟨j,x,e1,e2,e3,e4⟩:=zqq (v:=v) he hq;have Ff:q.1=j:=aC;have hj:es[j]? =some x:=by simpa using e2
  refine⟨es.modify j (λe'=>{e' with key:=.chan (some c),val:=v}),clock,?_,es.modify j (λe'=>{e' with key:=.chan (some c),val:=v}),clock,by simp[hz],?_⟩
  .simp[G6,wQ ht,Zh hb,zfh hk,zf6 hk c w _ _ he,hq,Ff,hj,e3,zFC,X4 _ hb,uD]
  .have:(es.modify j (λe'=>{e' with key:=.chan (some c),val:=v})).toList=es.toList.set j {x with key:=.chan (some c),val:=v}:=by
    rw[zuO,Go.ChangeMaps.modify_eq_set _ _ _ _ e2]
   rw[this];exact e4
variable {ops:Array aZ}{rest:List aZ}{o:aZ}{a:Act}{Q:nZ->Act->aE->Prop}
theorem zra (w:aE)(hg:o.guard=none)(m x:cN)(t:aM)(ok:Bool)(hop:o.op=Op.lookup t m x ok)(e:aM)
 (ht:P.underlying t=some (.map k e)) (hk:P.underlying k=some (.chan d e0)) (z:aF) (hz:(zeroValue e).run P w=.ok z w) (b c:Nat) (ps:List (Nat×aF)) (hm:a.eval m=.map (some b)) (hx:a.eval x=.chan (some c)) (h:Bq w b ps)
 (hK:wpList P ops Q rest (a.put o.dst (if ok then .tuple #[(pG c ps).getD z,.bool (pG c ps).isSome] else(pG c ps).getD z)) w):wpList P ops Q (o::rest) a w:=by
 refine S9 hg λK' rT=>?_;have cH:=zCs ht hk hz h (c:=c) ok;unfold B8;simp[aS,hop,hm,hx,cH,uD];cases ok<;>exact rT _ _ hK
theorem zFe (w:aE)(hg:o.guard=none)(m x y:cN)(t:aM)(hop:o.op=ztA t m x y)(e:aM)
 (ht:P.underlying t=some (.map k e)) (hk:P.underlying k=some (.chan d e0)) (b c:Nat) (v:aF) (ps:List (Nat×aF)) (hm:a.eval m=.map (some b)) (hx:a.eval x=.chan (some c)) (hy:a.eval y=v) (h:Bq w b ps)
 (hK:∀w' o',w'={w with heap:=w.heap.setIfInBounds b o'}->Bq w' b (uV c v ps)->wpList P ops Q rest (a.put o.dst aA) w'):wpList P ops Q (o::rest) a w:=by
 refine S9 hg λK' rT=>?_;obtain⟨es,cl,cH,sD⟩:=zHD ht hk h (c:=c) v;unfold B8;simp[aS,hop,hm,hx,hy,cH,uD];exact rT _ _ (hK _ _ rfl sD)
open Go.ChangeMaps in
end
def yV (es:List oX)(ps:List (Int×aF)):Prop:=es.map (λe=>(e.key,e.val))=ps.map (λp=>(aF.int .i64 p.1,p.2))
def xP (w:aE)(b:Nat)(ps:List (Int×aF)):Prop:=∃es clock,w.heap[b]? =some (.map es clock)/\yV es.toList ps
def kZ (c:Int):List (Int×aF)->Option aF
 |[]=>none
 |p::ps=>if c=p.1 then some p.2 else kZ c ps
def qS (c:Int)(v:aF):List (Int×aF)->List (Int×aF)
 |[]=>[(c,v)]
 |p::ps=>if c=p.1 then(p.1,v)::ps else p::qS c v ps
def Aj (c:Int):List (Int×aF)->Nat->Option (Nat×aF)
 |[],_=>none
 |p::ps,i=>if c=p.1 then some (i,p.2) else Aj c ps (i+1)
variable {ps:List (Int×aF)}
theorem yV.cons_inv (h:yV (e::es) ps):∃p qs,ps=p::qs/\e.key=.int .i64 p.1/\e.val=p.2/\yV es qs:=by
 unfold yV at h
 cases ps with
 |nil=>cases h
 |cons p qs=>
  rw[fL,fL] at h;injection h with h1 h2;injection h1 with h3 h4;exact⟨p,qs,rfl,h3,h4,h2⟩
theorem yV.nil_inv (h:yV [] ps):ps=[]:=by
 unfold yV at h;cases ps with
 |nil=>rfl
 |cons p qs=>cases h
section
variable {P:bR}{k:aM}
theorem zpl (c:Int):∀(es:List oX) (ps:List (Int×aF)) (i:Nat),yV es ps->Hf (.int .i64) (.int .i64 c) es i=some (Aj c ps i)
 |[],ps,i,h=>by rw[h.nil_inv];rfl
 |e::es,ps,i,h=>by
  obtain⟨p,qs,rfl,h1,h2,h3⟩:=h.cons_inv;have ih:=zpl c es qs (i+1) h3;unfold Hf;simp only[h1,vY,if_true];by_cases hc:c=p.1
  .subst hc;simp[Aj,h2]
  .have:(c==p.1)=false:=by rw[beq_eq_false_iff_ne];exact hc
   rw[this];simp only[Aj,if_neg hc];exact ih
theorem zdB (hk:P.underlying k=some (.int .i64))(c:Int)(w:aE)(es:List oX)(ps:List (Int×aF))(h:yV es ps):(K3 k (.int .i64 c) es).run P w=.ok (Aj c ps 0) w:=by
 unfold K3;simp only[Et,wQ hk,Fa,zpl c es ps 0 h,Jd]
theorem zhZ (c:Int):∀(ps:List (Int×aF)) (i:Nat),(Aj c ps i).map zxg=kZ c ps
 |[],_=>rfl
 |p::ps,i=>by
  unfold Aj kZ;by_cases h:c=p.1
  .rw[if_pos h,if_pos h];rfl
  .rw[if_neg h,if_neg h];exact zhZ c ps (i+1)
theorem zfs (hk:P.underlying k=some (.int .i64))(b:Bool)(c:Int)(w:aE):(Gl b 10000 k (.int .i64 c)).run P w=.ok () w:=by
 rw[show(10000:Nat)=9999+1 by decide];unfold Gl;simp[wQ hk]
variable {ps:List (Int×aF)}
theorem zar {t e:aM}(ht:P.underlying t=some (.map k e))(hk:P.underlying k=some (.int .i64)){z:aF}{w:aE}(hz:(zeroValue e).run P w=.ok z w){b:Nat}{c:Int}(h:xP w b ps)(ok:Bool):
 (zP t (.map (some b)) (.int .i64 c) ok).run P w=.ok (if ok then .tuple #[(kZ c ps).getD z,.bool (kZ c ps).isSome] else(kZ c ps).getD z) w:=by
 obtain⟨es,clock,hb,he⟩:=h;unfold zP;have hf:=zhZ c ps 0;have hg:(getObj b).run P w=.ok (.map es clock) w:=by first|exact run_getObj hb|(show bD P (zrM b Sem.pure) w=_;unfold bD;rw[hb];rfl)|(simp[getObj,bD,hb])
 simp only[Et,wQ ht,Fa,hg,Jd,zfs hk,zdB hk c w _ _ he]
 cases hq:Aj c ps 0 with
 |none=>
  rw[hq] at hf;have Ag:kZ c ps=none:=by simpa using hf.symm
  simp[hz,Ag]
 |some q=>
  rw[hq] at hf;have Ag:kZ c ps=some q.2:=by simpa using hf.symm
  simp[Ag]
end
theorem zvW {c:Int}:∀{ps:List (Int×aF)} {i:Nat},Aj c ps i=none->qS c v ps=ps++[(c,v)]
 |[],_,_=>rfl
 |p::ps,i,h=>by
  unfold Aj at h;by_cases hc:c=p.1
  .rw[if_pos hc] at h;cases h
  .rw[if_neg hc] at h
   unfold qS;rw[if_neg hc,zvW h];rfl
theorem zpJ {c:Int}:∀{es:List oX} {ps:List (Int×aF)} {i:Nat} {q:Nat×aF},yV es ps->Aj c ps i=some q->
 ∃j e0,q.1=i+j/\es[j]? =some e0/\e0.key=.int .i64 c/\yV (es.set j {e0 with key:=.int .i64 c,val:=v}) (qS c v ps)
 |[],ps,i,q,h,hq=>by rw[h.nil_inv] at hq;cases hq
 |e::es,ps,i,q,h,hq=>by
  obtain⟨p,qs,rfl,h1,h2,h3⟩:=h.cons_inv;unfold Aj at hq;by_cases hc:c=p.1
  .rw[if_pos hc] at hq
   injection hq with hq;refine⟨0,e,by rw[<-hq];rfl,rfl,by rw[h1,hc],?_⟩;unfold qS;rw[if_pos hc];unfold yV at h3⊢;rw[dW,fL,fL,h3,hc]
  .rw[if_neg hc] at hq
   obtain⟨j,e0,e1,e2,e3,e4⟩:=zpJ h3 hq;refine⟨j+1,e0,by rw[e1];omega,e2,e3,?_⟩;unfold qS;rw[if_neg hc];unfold yV at e4⊢;rw[dS,fL,fL,e4,h1,h2]
theorem zGT (c:Int)(w:aE):(Pf (.int .i64 c) (.int .i64 c)).run P w=.ok (.int .i64 c) w:=by
 unfold Pf;rw[if_pos (by simp[za5])];rfl
section
variable {P:bR}{k:aM}
variable {ps:List (Int×aF)}
open Go.ChangeMaps in
theorem zxZ {t e:aM}(ht:P.underlying t=some (.map k e))(hk:P.underlying k=some (.int .i64)){w:aE}{b:Nat}{c:Int}(h:xP w b ps)(v:aF):
 ∃fC za4,(G6 t (.map (some b)) (.int .i64 c) v).run P w=.ok () {w with heap:=w.heap.setIfInBounds b (.map fC za4)}/\xP {w with heap:=w.heap.setIfInBounds b (.map fC za4)} b (qS c v ps):=by
 obtain⟨es,clock,hb,he⟩:=h;have hz:=(dQ.1 hb).1
 cases hq:Aj c ps 0 with
 |none=>
  refine⟨es.push ⟨.int .i64 c,v,clock⟩,clock+1,?_,es.push ⟨.int .i64 c,v,clock⟩,clock+1,by simp[hz],?_⟩
  .simp[G6,wQ ht,Zh hb,zfs hk,zdB hk c w _ _ he,hq,X4 _ hb,uD]
  .rw[zvW hq]
   unfold yV at he⊢;rw[zuQ,Hr,Hr,he];rfl
 |some q=>
  obtain⟨j,x,e1,e2,e3,e4⟩:=zpJ (v:=v) he hq;have Ff:q.1=j:=aC;have hj:es[j]? =some x:=by simpa using e2
  refine⟨es.modify j (λe'=>{e' with key:=.int .i64 c,val:=v}),clock,?_,es.modify j (λe'=>{e' with key:=.int .i64 c,val:=v}),clock,by simp[hz],?_⟩
  .simp[G6,wQ ht,Zh hb,zfs hk,zdB hk c w _ _ he,hq,Ff,hj,e3,zGT,X4 _ hb,uD]
  .have:(es.modify j (λe'=>{e' with key:=.int .i64 c,val:=v})).toList=es.toList.set j {x with key:=.int .i64 c,val:=v}:=by
    rw[zuO,Go.ChangeMaps.modify_eq_set _ _ _ _ e2]
   rw[this];exact e4
variable {ops:Array aZ}{rest:List aZ}{o:aZ}{a:Act}{Q:nZ->Act->aE->Prop}
theorem ztl (w:aE)(hg:o.guard=none)(m x:cN)(t:aM)(ok:Bool)(hop:o.op=Op.lookup t m x ok)(e:aM)
 (ht:P.underlying t=some (.map k e)) (hk:P.underlying k=some (.int .i64)) (z:aF) (hz:(zeroValue e).run P w=.ok z w) (b:Nat) (c:Int) (ps:List (Int×aF)) (hm:a.eval m=.map (some b)) (hx:a.eval x=.int .i64 c) (h:xP w b ps)
 (hK:wpList P ops Q rest (a.put o.dst (if ok then .tuple #[(kZ c ps).getD z,.bool (kZ c ps).isSome] else(kZ c ps).getD z)) w):wpList P ops Q (o::rest) a w:=by
 refine S9 hg λK' rT=>?_;have cH:=zar ht hk hz h (c:=c) ok;unfold B8;simp[aS,hop,hm,hx,cH,uD];cases ok<;>exact rT _ _ hK
theorem zzn (w:aE)(hg:o.guard=none)(m x y:cN)(t:aM)(hop:o.op=ztA t m x y)(e:aM)
 (ht:P.underlying t=some (.map k e)) (hk:P.underlying k=some (.int .i64)) (b:Nat) (c:Int) (v:aF) (ps:List (Int×aF)) (hm:a.eval m=.map (some b)) (hx:a.eval x=.int .i64 c) (hy:a.eval y=v) (h:xP w b ps)
 (hK:∀w' o',w'={w with heap:=w.heap.setIfInBounds b o'}->xP w' b (qS c v ps)->wpList P ops Q rest (a.put o.dst aA) w'):wpList P ops Q (o::rest) a w:=by
 refine S9 hg λK' rT=>?_;obtain⟨es,cl,cH,sD⟩:=zxZ ht hk h (c:=c) v;unfold B8;simp[aS,hop,hm,hx,hy,cH,uD];exact rT _ _ (hK _ _ rfl sD)
open Go.ChangeMaps in
end
structure fO where
 sL:aF
 sQ:aF
 sW:aF
 sB:aF
 sR:aF
 sA:aF
 sT:aF
 mC:Nat
 mO:Nat
 mM:Nat
 pC:List (Nat×aF)
 pO:List (Int×aF)
 pM:List (Int×aF)
structure nK where
 r:b6
 ln:List Nat
 qn:List Nat
 tk:List Int
def Jc (xs:List Nat):List Value:=xs.map λc=>.chan (some c)
abbrev hallA (v:fO)(d:nK):Array Value:=#[.int .i64 d.r.o.ln,.int .i64 d.r.o.op,.int .i64 d.r.o.pt,v.sL,.map (some v.mC),.map (some v.mO),v.sQ,v.sW,v.sB,v.sR,.map (some v.mM),.int .i64 d.r.clk,v.sA,v.sT]
abbrev Pw (v:fO)(d:nK):Obj:=.cells (hallA v d) 72
def parts (v:fO)(hb:Nat):List (Option Nat):=[some hb,v.sL.ownBlock,some v.mC,some v.mO,v.sQ.ownBlock,v.sW.ownBlock,v.sB.ownBlock,v.sR.ownBlock,some v.mM,v.sA.ownBlock,v.sT.ownBlock]
def zcQ (l:List (Option Nat)):Prop:=∀(i j b:Nat),l[i]? =some (some b)->l[j]? =some (some b)->i=j
structure bF (w:aE)(lo hb:Nat)(v:fO)(d:nK):Prop where
 blk:w.heap[hb]? =some (Pw v d)
 lob:lo<=hb/\lo<=v.mC/\lo<=v.mO/\lo<=v.mM
 L:w.ownsRow lo 84 1 v.sL d.ln.length (Jc d.ln)
 Q:w.ownsRow lo 95 1 v.sQ d.qn.length (Jc d.qn)
 W:w.ownsRow lo 149 2 v.sW d.r.wait.length (bG d.r.wait)
 B:w.ownsRow lo 3 1 v.sB d.r.back.length (eH (d.r.back.map bE.c))
 R:w.ownsRow lo 50 7 v.sR d.r.recs.length (recs d.r.recs)
 A:w.ownsRow lo 9 1 v.sA d.r.log.length (Eh d.r.log)
 T:w.ownsRow lo 3 1 v.sT d.tk.length (eH d.tk)
 C:Bq w v.mC v.pC
 O:xP w v.mO v.pO
 M:xP w v.mM v.pM
 ap:zcQ (parts v hb)
structure bM (hb:Nat)(v:fO)(w:aE)(v':fO)(w':aE):Prop where
 size:w.heap.size<=w'.heap.size
 block:∀b,b<w.heap.size->some b∉parts v hb->w'.heap[b]? =w.heap[b]?
 moved:∀b,some b∈parts v' hb->some b∈parts v hb\/w.heap.size<=b
section
variable {w w1 w' Dy:aE}{lo hb:Nat}{v v' zb6:fO}{d:nK}
def bM.refl:bM hb v w v w:=⟨aV _,λ_ _ _=>rfl,λ_ h=>.inl h⟩
theorem bM.trans (h:bM hb v w v' w')(k:bM hb v' w' zb6 Dy):bM hb v w zb6 Dy:=
 ⟨eM h.size k.size,λb bZ hn=>(k.block b (lE bZ h.size) (λx=>(h.moved b x).elim hn λy=>by omega)).trans (h.block b bZ hn),λb x=>(k.moved b x).elim (h.moved b) λy=>.inr (eM h.size y)⟩
def bM.below (h:bU w.heap.size w w'):bM hb v w v w':=⟨h.size,λb hb _=>h.block b hb,λ_ h=>.inl h⟩
theorem bM.same (h:bM hb v w v' w'){x:aE}(e:x.heap=w'.heap):bM hb v w v' x:=⟨by rw[e];exact h.size,λb hb hn=>by rw[e];exact h.block b hb hn,h.moved⟩
variable {x:aF}
theorem cI {E s n:Nat}{xs:List aF}(h:w.ownsRow lo E s x n xs)(k:∀b,x.ownBlock=some b->w'.heap[b]? =w.heap[b]?):w'.ownsRow lo E s x n xs:=by
 obtain⟨hl,h|⟨g,cap,cur,rfl,h1,hg,h2⟩⟩:=h
 .exact⟨hl,.inl h⟩
 .exact⟨hl,.inr ⟨g,cap,cur,rfl,h1,(k g rfl).trans hg,h2⟩⟩
theorem Bq.keep {b:Nat}{ps:List (Nat×aF)}(h:Bq w b ps)(k:w'.heap[b]? =w.heap[b]?):Bq w' b ps:=by
 obtain⟨es,cl,h1,h2⟩:=h;exact⟨es,cl,k.trans h1,h2⟩
variable {ps:List (Int×aF)}
theorem xP.keep {b:Nat}(h:xP w b ps)(k:w'.heap[b]? =w.heap[b]?):xP w' b ps:=by
 obtain⟨es,cl,h1,h2⟩:=h;exact⟨es,cl,k.trans h1,h2⟩
theorem Bq.lt {b:Nat}{ps:List (Nat×aF)}(h:Bq w b ps):b<w.heap.size:=by
 obtain⟨es,cl,h1,h2⟩:=h;exact(dQ.1 h1).1
theorem xP.lt {b:Nat}(h:xP w b ps):b<w.heap.size:=by
 obtain⟨es,cl,h1,h2⟩:=h;exact(dQ.1 h1).1
theorem bF.lt (h:bF w lo hb v d):∀b,some b∈parts v hb->lo<=b/\b<w.heap.size:=by
 intro b bZ;unfold parts at bZ;simp only[jH,List.not_mem_nil,or_false] at bZ;obtain⟨l0,l1,l2,l3⟩:=h.lob;have zjZ:=(dQ.1 h.blk).1;rcases bZ with e|e|e|e|e|e|e|e|e|e|e
 .cases e;exact⟨l0,zjZ⟩
 .exact h.L.lt b e.symm
 .cases e;exact⟨l1,h.C.lt⟩
 .cases e;exact⟨l2,h.O.lt⟩
 .exact h.Q.lt b e.symm
 .exact h.W.lt b e.symm
 .exact h.B.lt b e.symm
 .exact h.R.lt b e.symm
 .cases e;exact⟨l3,h.M.lt⟩
 .exact h.A.lt b e.symm
 .exact h.T.lt b e.symm
theorem bF.keep (h:bF w lo hb v d)(k:∀b,b<w.heap.size->some b∈parts v hb->w'.heap[b]? =w.heap[b]?):bF w' lo hb v d:=by
 have kk:∀b,some b∈parts v hb->w'.heap[b]? =w.heap[b]? :=λb hb=>k b (h.lt b hb).2 hb;exact⟨(kk _ (dX (i:=0) zeb)).trans h.blk,h.lob,cI h.L λb e=>kk _ (dX (i:=1) cS),cI h.Q λb e=>kk _ (dX (i:=4) cS),cI h.W λb e=>kk _ (dX (i:=5) cS),cI h.B λb e=>kk _ (dX (i:=6) cS),cI h.R λb e=>kk _ (dX (i:=7) cS),cI h.A λb e=>kk _ (dX (i:=9) cS),cI h.T λb e=>kk _ (dX (i:=10) cS),h.C.keep (kk _ (dX (i:=2) zeb)),h.O.keep (kk _ (dX (i:=3) zeb)),h.M.keep (kk _ (dX (i:=8) zeb)),h.ap⟩
def bF.below (h:bF w lo hb v d)(k:bU w.heap.size w w'):bF w' lo hb v d:=h.keep λb hb _=>k.block b hb
def bF.alloc (h:bF w lo hb v d)(o:Obj):bF (w.alloc o) lo hb v d:=h.keep λb hb _=>rA w o b hb
def bF.drew (h:bF w lo hb v d):bF w.drew lo hb v d:=h.keep λ_ _ _=>rfl
theorem bF.same (h:bF w lo hb v d)(e:w'.heap=w.heap):bF w' lo hb v d:=h.keep λb _ _=>by rw[e]
variable {o:Obj}
theorem bF.turned {x:Nat}(h:bF w lo hb v d)(t:bM hb v w v' w')(hx:w.heap[x]? =some o)(hn:some x∉parts v hb):w'.heap[x]? =some o/\some x∉parts v' hb:=
 ⟨(t.block x (dQ.1 hx).1 hn).trans hx,λy=>(t.moved x y).elim hn λz=>by have:=(dQ.1 hx).1;omega⟩
def bF.ne (h:bF w lo hb v d){i j a b:Nat}(hi:(parts v hb)[i]? =some (some a))(hj:(parts v hb)[j]? =some (some b))(rH:i≠j):a≠b:=λe=>rH (h.ap i j a hi (e▸hj))
theorem Rx {l:List (Option Nat)}(h:zcQ l){j n:Nat}{x:Option Nat}(hl:∀b,some b∈l->b<n)(hx:l[j]? =some x\/∀b,x=some b->n<=b):zcQ (l.set j x):=by
 intro i k b hi hk;rw[zau] at hi hk;have old:∀m,l[m]? =some (some b)->b<n:=λm hm=>hl b (dX hm);split at hi<;>split at hk
 .omega
 .next e1 e2=>
  split at hi
  .injection hi with hi
   subst hi;rcases hx with hx|hx
   .exact e1▸h j k b hx hk
   .have:=old k hk;have:=hx b rfl;omega
  .cases hi
 .next e1 e2=>
  split at hk
  .injection hk with hk
   subst hk;rcases hx with hx|hx
   .exact e2▸h i j b hi hx
   .have:=old i hi;have:=hx b rfl;omega
  .cases hk
 .exact h i k b hi hk
theorem bF.other (h:bF w lo hb v d){j c:Nat}(hj:(parts v hb)[j]? =some x.ownBlock)(zi0:j≠0)(hg:w.grownBy w1 x.ownBlock)(s':aF):
 (∀i b,i≠0->i≠j->(parts v hb)[i]? =some (some b)->(w1.setCell ⟨hb,c,none⟩ s').heap[b]? =w.heap[b]?)/\w1.heap[hb]? =w.heap[hb]? :=by
 have h0:(parts v hb)[0]? =some (some hb):=rfl;have hx:∀i b,i≠j->(parts v hb)[i]? =some (some b)->some b≠x.ownBlock:=λi b rH hi e=>rH (h.ap i j b hi (by rw[hj,<-e]));refine⟨λi b eY rH hi=>?_,hg.block hb (h.lt hb (dX h0)).2 (hx 0 hb (Ne.symm zi0) h0)⟩;have aT:b≠hb:=h.ne hi h0 eY;exact(eJ w1 _ _ b aT).trans (hg.block b (h.lt b (dX hi)).2 (hx i b rH hi))
variable {s':aF}
theorem Q5 {j c:Nat}(aN:∀b,some b∈parts v hb->b<w.heap.size)(hj:(parts v hb)[j]? =some x.ownBlock)(hg:w.grownBy w1 x.ownBlock)(hv:parts v' hb=(parts v hb).set j s'.ownBlock)(hw:s'.ownBlock=x.ownBlock\/∀b,s'.ownBlock=some b->w.heap.size<=b):
 bM hb v w v' (w1.setCell ⟨hb,c,none⟩ s'):=by
 refine⟨by rw[sU];exact hg.size,λb bZ hn=>?_,λb bZ=>?_⟩
 .have h0:some hb∈parts v hb:=dX (i:=0) rfl
  have aT:b≠hb:=λe=>hn (e▸h0);exact(eJ w1 _ _ b aT).trans (hg.block b bZ λe=>hn (e▸dX hj))
 .rw[hv] at bZ
  rcases List.mem_or_eq_of_mem_set bZ with h1|h1
  .exact .inl h1
  .rcases hw with hw|hw
   .exact .inl (by rw[h1,hw];exact dX hj)
   .exact .inr (hw b h1.symm)
theorem bF.putL (h:bF w lo hb v d)(hg:w.grownBy w1 v.sL.ownBlock){xs:List Nat}{n:Nat}(ho:w1.ownsRow lo 84 1 s' n (Jc xs))(hn:n=xs.length)(hw:s'.ownBlock=v.sL.ownBlock\/∀b,s'.ownBlock=some b->w.heap.size<=b):
 bF (w1.setCell ⟨hb,3,none⟩ s') lo hb {v with sL:=s'} {d with ln:=xs}/\bM hb v w {v with sL:=s'} (w1.setCell ⟨hb,3,none⟩ s'):=by
 subst hn;have aN:∀b,some b∈parts v hb->b<w.heap.size:=λb hb=>(h.lt b hb).2;obtain⟨kk,k0⟩:=h.other (j:=1) (c:=3) (x:=v.sL) rfl aH hg s';have hs:∀b,s'.ownBlock=some b->b≠hb:=λb e=>by
  rcases hw with hw|hw
  .exact h.ne (i:=1) (j:=0) (show some v.sL.ownBlock=_ by rw[<-hw,e]) rfl aH
  .have:=hw b e;have:=aN hb (dX (i:=0) rfl);omega
 have hp:parts {v with sL:=s'} hb=(parts v hb).set 1 s'.ownBlock:=rfl;refine⟨⟨nQ (k0.trans h.blk) s',h.lob,cI ho λb e=>eJ w1 _ _ b (hs b e),cI h.Q λb e=>kk 4 _ aH aH cS,cI h.W λb e=>kk 5 _ aH aH cS,cI h.B λb e=>kk 6 _ aH aH cS,cI h.R λb e=>kk 7 _ aH aH cS,cI h.A λb e=>kk 9 _ aH aH cS,cI h.T λb e=>kk 10 _ aH aH cS,h.C.keep (kk 2 _ aH aH rfl),h.O.keep (kk 3 _ aH aH rfl),h.M.keep (kk 8 _ aH aH rfl),?_⟩,Q5 (j:=1) (x:=v.sL) aN rfl hg hp hw⟩;rw[hp];exact Rx h.ap aN (hw.imp (λe=>by rw[e];rfl) id)
theorem bF.putQ (h:bF w lo hb v d)(hg:w.grownBy w1 v.sQ.ownBlock){xs:List Nat}{n:Nat}(ho:w1.ownsRow lo 95 1 s' n (Jc xs))(hn:n=xs.length)(hw:s'.ownBlock=v.sQ.ownBlock\/∀b,s'.ownBlock=some b->w.heap.size<=b):
 bF (w1.setCell ⟨hb,6,none⟩ s') lo hb {v with sQ:=s'} {d with qn:=xs}/\bM hb v w {v with sQ:=s'} (w1.setCell ⟨hb,6,none⟩ s'):=by
 subst hn;have aN:∀b,some b∈parts v hb->b<w.heap.size:=λb hb=>(h.lt b hb).2;obtain⟨kk,k0⟩:=h.other (j:=4) (c:=6) (x:=v.sQ) rfl aH hg s';have hs:∀b,s'.ownBlock=some b->b≠hb:=λb e=>by
  rcases hw with hw|hw
  .exact h.ne (i:=4) (j:=0) (show some v.sQ.ownBlock=_ by rw[<-hw,e]) rfl aH
  .have:=hw b e;have:=aN hb (dX (i:=0) rfl);omega
 have hp:parts {v with sQ:=s'} hb=(parts v hb).set 4 s'.ownBlock:=rfl;refine⟨⟨nQ (k0.trans h.blk) s',h.lob,cI h.L λb e=>kk 1 _ aH aH cS,cI ho λb e=>eJ w1 _ _ b (hs b e),cI h.W λb e=>kk 5 _ aH aH cS,cI h.B λb e=>kk 6 _ aH aH cS,cI h.R λb e=>kk 7 _ aH aH cS,cI h.A λb e=>kk 9 _ aH aH cS,cI h.T λb e=>kk 10 _ aH aH cS,h.C.keep (kk 2 _ aH aH rfl),h.O.keep (kk 3 _ aH aH rfl),h.M.keep (kk 8 _ aH aH rfl),?_⟩,Q5 (j:=4) (x:=v.sQ) aN rfl hg hp hw⟩;rw[hp];exact Rx h.ap aN (hw.imp (λe=>by rw[e];rfl) id)
variable {xs:List bE}
theorem bF.putW (h:bF w lo hb v d)(hg:w.grownBy w1 v.sW.ownBlock){n:Nat}(ho:w1.ownsRow lo 149 2 s' n (bG xs))(hn:n=xs.length)(hw:s'.ownBlock=v.sW.ownBlock\/∀b,s'.ownBlock=some b->w.heap.size<=b):
 bF (w1.setCell ⟨hb,7,none⟩ s') lo hb {v with sW:=s'} {d with r:={d.r with wait:=xs}}/\bM hb v w {v with sW:=s'} (w1.setCell ⟨hb,7,none⟩ s'):=by
 subst hn;have aN:∀b,some b∈parts v hb->b<w.heap.size:=λb hb=>(h.lt b hb).2;obtain⟨kk,k0⟩:=h.other (j:=5) (c:=7) (x:=v.sW) rfl aH hg s';have hs:∀b,s'.ownBlock=some b->b≠hb:=λb e=>by
  rcases hw with hw|hw
  .exact h.ne (i:=5) (j:=0) (show some v.sW.ownBlock=_ by rw[<-hw,e]) rfl aH
  .have:=hw b e;have:=aN hb (dX (i:=0) rfl);omega
 have hp:parts {v with sW:=s'} hb=(parts v hb).set 5 s'.ownBlock:=rfl;refine⟨⟨nQ (k0.trans h.blk) s',h.lob,cI h.L λb e=>kk 1 _ aH aH cS,cI h.Q λb e=>kk 4 _ aH aH cS,cI ho λb e=>eJ w1 _ _ b (hs b e),cI h.B λb e=>kk 6 _ aH aH cS,cI h.R λb e=>kk 7 _ aH aH cS,cI h.A λb e=>kk 9 _ aH aH cS,cI h.T λb e=>kk 10 _ aH aH cS,h.C.keep (kk 2 _ aH aH rfl),h.O.keep (kk 3 _ aH aH rfl),h.M.keep (kk 8 _ aH aH rfl),?_⟩,Q5 (j:=5) (x:=v.sW) aN rfl hg hp hw⟩;rw[hp];exact Rx h.ap aN (hw.imp (λe=>by rw[e];rfl) id)
theorem bF.putB (h:bF w lo hb v d)(hg:w.grownBy w1 v.sB.ownBlock){n:Nat}(ho:w1.ownsRow lo 3 1 s' n (eH (xs.map bE.c)))(hn:n=xs.length)(hw:s'.ownBlock=v.sB.ownBlock\/∀b,s'.ownBlock=some b->w.heap.size<=b):
 bF (w1.setCell ⟨hb,8,none⟩ s') lo hb {v with sB:=s'} {d with r:={d.r with back:=xs}}/\bM hb v w {v with sB:=s'} (w1.setCell ⟨hb,8,none⟩ s'):=by
 subst hn;have aN:∀b,some b∈parts v hb->b<w.heap.size:=λb hb=>(h.lt b hb).2;obtain⟨kk,k0⟩:=h.other (j:=6) (c:=8) (x:=v.sB) rfl aH hg s';have hs:∀b,s'.ownBlock=some b->b≠hb:=λb e=>by
  rcases hw with hw|hw
  .exact h.ne (i:=6) (j:=0) (show some v.sB.ownBlock=_ by rw[<-hw,e]) rfl aH
  .have:=hw b e;have:=aN hb (dX (i:=0) rfl);omega
 have hp:parts {v with sB:=s'} hb=(parts v hb).set 6 s'.ownBlock:=rfl;refine⟨⟨nQ (k0.trans h.blk) s',h.lob,cI h.L λb e=>kk 1 _ aH aH cS,cI h.Q λb e=>kk 4 _ aH aH cS,cI h.W λb e=>kk 5 _ aH aH cS,cI ho λb e=>eJ w1 _ _ b (hs b e),cI h.R λb e=>kk 7 _ aH aH cS,cI h.A λb e=>kk 9 _ aH aH cS,cI h.T λb e=>kk 10 _ aH aH cS,h.C.keep (kk 2 _ aH aH rfl),h.O.keep (kk 3 _ aH aH rfl),h.M.keep (kk 8 _ aH aH rfl),?_⟩,Q5 (j:=6) (x:=v.sB) aN rfl hg hp hw⟩;rw[hp];exact Rx h.ap aN (hw.imp (λe=>by rw[e];rfl) id)
theorem bF.putR (h:bF w lo hb v d)(hg:w.grownBy w1 v.sR.ownBlock){xs:List bS}{n:Nat}(ho:w1.ownsRow lo 50 7 s' n (recs xs))(hn:n=xs.length)(hw:s'.ownBlock=v.sR.ownBlock\/∀b,s'.ownBlock=some b->w.heap.size<=b):
 bF (w1.setCell ⟨hb,9,none⟩ s') lo hb {v with sR:=s'} {d with r:={d.r with recs:=xs}}/\bM hb v w {v with sR:=s'} (w1.setCell ⟨hb,9,none⟩ s'):=by
 subst hn;have aN:∀b,some b∈parts v hb->b<w.heap.size:=λb hb=>(h.lt b hb).2;obtain⟨kk,k0⟩:=h.other (j:=7) (c:=9) (x:=v.sR) rfl aH hg s';have hs:∀b,s'.ownBlock=some b->b≠hb:=λb e=>by
  rcases hw with hw|hw
  .exact h.ne (i:=7) (j:=0) (show some v.sR.ownBlock=_ by rw[<-hw,e]) rfl aH
  .have:=hw b e;have:=aN hb (dX (i:=0) rfl);omega
 have hp:parts {v with sR:=s'} hb=(parts v hb).set 7 s'.ownBlock:=rfl;refine⟨⟨nQ (k0.trans h.blk) s',h.lob,cI h.L λb e=>kk 1 _ aH aH cS,cI h.Q λb e=>kk 4 _ aH aH cS,cI h.W λb e=>kk 5 _ aH aH cS,cI h.B λb e=>kk 6 _ aH aH cS,cI ho λb e=>eJ w1 _ _ b (hs b e),cI h.A λb e=>kk 9 _ aH aH cS,cI h.T λb e=>kk 10 _ aH aH cS,h.C.keep (kk 2 _ aH aH rfl),h.O.keep (kk 3 _ aH aH rfl),h.M.keep (kk 8 _ aH aH rfl),?_⟩,Q5 (j:=7) (x:=v.sR) aN rfl hg hp hw⟩;rw[hp];exact Rx h.ap aN (hw.imp (λe=>by rw[e];rfl) id)
variable {xs:List (List UInt8)}
theorem bF.putA (h:bF w lo hb v d)(hg:w.grownBy w1 v.sA.ownBlock){n:Nat}(ho:w1.ownsRow lo 9 1 s' n (Eh xs))(hn:n=xs.length)(hw:s'.ownBlock=v.sA.ownBlock\/∀b,s'.ownBlock=some b->w.heap.size<=b):
 bF (w1.setCell ⟨hb,12,none⟩ s') lo hb {v with sA:=s'} {d with r:={d.r with log:=xs}}/\bM hb v w {v with sA:=s'} (w1.setCell ⟨hb,12,none⟩ s'):=by
 subst hn;have aN:∀b,some b∈parts v hb->b<w.heap.size:=λb hb=>(h.lt b hb).2;obtain⟨kk,k0⟩:=h.other (j:=9) (c:=12) (x:=v.sA) rfl aH hg s';have hs:∀b,s'.ownBlock=some b->b≠hb:=λb e=>by
  rcases hw with hw|hw
  .exact h.ne (i:=9) (j:=0) (show some v.sA.ownBlock=_ by rw[<-hw,e]) rfl aH
  .have:=hw b e;have:=aN hb (dX (i:=0) rfl);omega
 have hp:parts {v with sA:=s'} hb=(parts v hb).set 9 s'.ownBlock:=rfl;refine⟨⟨nQ (k0.trans h.blk) s',h.lob,cI h.L λb e=>kk 1 _ aH aH cS,cI h.Q λb e=>kk 4 _ aH aH cS,cI h.W λb e=>kk 5 _ aH aH cS,cI h.B λb e=>kk 6 _ aH aH cS,cI h.R λb e=>kk 7 _ aH aH cS,cI ho λb e=>eJ w1 _ _ b (hs b e),cI h.T λb e=>kk 10 _ aH aH cS,h.C.keep (kk 2 _ aH aH rfl),h.O.keep (kk 3 _ aH aH rfl),h.M.keep (kk 8 _ aH aH rfl),?_⟩,Q5 (j:=9) (x:=v.sA) aN rfl hg hp hw⟩;rw[hp];exact Rx h.ap aN (hw.imp (λe=>by rw[e];rfl) id)
theorem bF.putT (h:bF w lo hb v d)(hg:w.grownBy w1 v.sT.ownBlock){xs:List Int}{n:Nat}(ho:w1.ownsRow lo 3 1 s' n (eH xs))(hn:n=xs.length)(hw:s'.ownBlock=v.sT.ownBlock\/∀b,s'.ownBlock=some b->w.heap.size<=b):
 bF (w1.setCell ⟨hb,13,none⟩ s') lo hb {v with sT:=s'} {d with tk:=xs}/\bM hb v w {v with sT:=s'} (w1.setCell ⟨hb,13,none⟩ s'):=by
 subst hn;have aN:∀b,some b∈parts v hb->b<w.heap.size:=λb hb=>(h.lt b hb).2;obtain⟨kk,k0⟩:=h.other (j:=10) (c:=13) (x:=v.sT) rfl aH hg s';have hs:∀b,s'.ownBlock=some b->b≠hb:=λb e=>by
  rcases hw with hw|hw
  .exact h.ne (i:=10) (j:=0) (show some v.sT.ownBlock=_ by rw[<-hw,e]) rfl aH
  .have:=hw b e;have:=aN hb (dX (i:=0) rfl);omega
 have hp:parts {v with sT:=s'} hb=(parts v hb).set 10 s'.ownBlock:=rfl;refine⟨⟨nQ (k0.trans h.blk) s',h.lob,cI h.L λb e=>kk 1 _ aH aH cS,cI h.Q λb e=>kk 4 _ aH aH cS,cI h.W λb e=>kk 5 _ aH aH cS,cI h.B λb e=>kk 6 _ aH aH cS,cI h.R λb e=>kk 7 _ aH aH cS,cI h.A λb e=>kk 9 _ aH aH cS,cI ho λb e=>eJ w1 _ _ b (hs b e),h.C.keep (kk 2 _ aH aH rfl),h.O.keep (kk 3 _ aH aH rfl),h.M.keep (kk 8 _ aH aH rfl),?_⟩,Q5 (j:=10) (x:=v.sT) aN rfl hg hp hw⟩;rw[hp];exact Rx h.ap aN (hw.imp (λe=>by rw[e];rfl) id)
theorem bF.mapC (h:bF w lo hb v d){ps:List (Nat×aF)}(hm:Bq {w with heap:=w.heap.setIfInBounds v.mC o} v.mC ps):
 bF {w with heap:=w.heap.setIfInBounds v.mC o} lo hb {v with pC:=ps} d/\bM hb v w {v with pC:=ps} {w with heap:=w.heap.setIfInBounds v.mC o}:=by
 have kk:∀i b,i≠2->(parts v hb)[i]? =some (some b)->(w.heap.setIfInBounds v.mC o)[b]? =w.heap[b]? :=λi b hi bZ=>jP (h.ne (i:=2) rfl bZ (Ne.symm hi));refine⟨⟨(kk 0 _ aH rfl).trans h.blk,h.lob,cI h.L λb e=>kk 1 _ aH cS,cI h.Q λb e=>kk 4 _ aH cS,cI h.W λb e=>kk 5 _ aH cS,cI h.B λb e=>kk 6 _ aH cS,cI h.R λb e=>kk 7 _ aH cS,cI h.A λb e=>kk 9 _ aH cS,cI h.T λb e=>kk 10 _ aH cS,hm,h.O.keep (kk 3 _ aH rfl),h.M.keep (kk 8 _ aH rfl),h.ap⟩,aP,λb bZ hn=>jP λe=>hn (by rw[<-e];exact dX (i:=2) rfl),λb bZ=>.inl bZ⟩
theorem bF.mapO (h:bF w lo hb v d)(hm:xP {w with heap:=w.heap.setIfInBounds v.mO o} v.mO ps):
 bF {w with heap:=w.heap.setIfInBounds v.mO o} lo hb {v with pO:=ps} d/\bM hb v w {v with pO:=ps} {w with heap:=w.heap.setIfInBounds v.mO o}:=by
 have kk:∀i b,i≠3->(parts v hb)[i]? =some (some b)->(w.heap.setIfInBounds v.mO o)[b]? =w.heap[b]? :=λi b hi bZ=>jP (h.ne (i:=3) rfl bZ (Ne.symm hi));refine⟨⟨(kk 0 _ aH rfl).trans h.blk,h.lob,cI h.L λb e=>kk 1 _ aH cS,cI h.Q λb e=>kk 4 _ aH cS,cI h.W λb e=>kk 5 _ aH cS,cI h.B λb e=>kk 6 _ aH cS,cI h.R λb e=>kk 7 _ aH cS,cI h.A λb e=>kk 9 _ aH cS,cI h.T λb e=>kk 10 _ aH cS,h.C.keep (kk 2 _ aH rfl),hm,h.M.keep (kk 8 _ aH rfl),h.ap⟩,aP,λb bZ hn=>jP λe=>hn (by rw[<-e];exact dX (i:=3) rfl),λb bZ=>.inl bZ⟩
theorem bF.mapM (h:bF w lo hb v d)(hm:xP {w with heap:=w.heap.setIfInBounds v.mM o} v.mM ps):
 bF {w with heap:=w.heap.setIfInBounds v.mM o} lo hb {v with pM:=ps} d/\bM hb v w {v with pM:=ps} {w with heap:=w.heap.setIfInBounds v.mM o}:=by
 have kk:∀i b,i≠8->(parts v hb)[i]? =some (some b)->(w.heap.setIfInBounds v.mM o)[b]? =w.heap[b]? :=λi b hi bZ=>jP (h.ne (i:=8) rfl bZ (Ne.symm hi));refine⟨⟨(kk 0 _ aH rfl).trans h.blk,h.lob,cI h.L λb e=>kk 1 _ aH cS,cI h.Q λb e=>kk 4 _ aH cS,cI h.W λb e=>kk 5 _ aH cS,cI h.B λb e=>kk 6 _ aH cS,cI h.R λb e=>kk 7 _ aH cS,cI h.A λb e=>kk 9 _ aH cS,cI h.T λb e=>kk 10 _ aH cS,h.C.keep (kk 2 _ aH rfl),h.O.keep (kk 3 _ aH rfl),hm,h.ap⟩,aP,λb bZ hn=>jP λe=>hn (by rw[<-e];exact dX (i:=8) rfl),λb bZ=>.inl bZ⟩
theorem bF.putClk (h:bF w lo hb v d)(x:Int):bF (w.setCell ⟨hb,11,none⟩ (.int .i64 x)) lo hb v {d with r:={d.r with clk:=x}}/\bM hb v w v (w.setCell ⟨hb,11,none⟩ (.int .i64 x)):=by
 have h0:(parts v hb)[0]? =some (some hb):=rfl;have kk:∀i b,i≠0->(parts v hb)[i]? =some (some b)->(w.setCell ⟨hb,11,none⟩ (.int .i64 x)).heap[b]? =w.heap[b]? :=λi b hi bZ=>eJ w _ _ b (h.ne bZ h0 hi);refine⟨⟨nQ h.blk _,h.lob,cI h.L λb e=>kk 1 _ aH cS,cI h.Q λb e=>kk 4 _ aH cS,cI h.W λb e=>kk 5 _ aH cS,cI h.B λb e=>kk 6 _ aH cS,cI h.R λb e=>kk 7 _ aH cS,cI h.A λb e=>kk 9 _ aH cS,cI h.T λb e=>kk 10 _ aH cS,h.C.keep (kk 2 _ aH rfl),h.O.keep (kk 3 _ aH rfl),h.M.keep (kk 8 _ aH rfl),h.ap⟩,by rw[sU];exact aV _,λb bZ hn=>eJ w _ _ b λe=>hn (e▸dX h0),λb bZ=>.inl bZ⟩
theorem bF.setR {gR cR i j:Nat}{x:bS}{u:aF}(f:bS->bS)(h:bF w lo hb v d)(hv:v.sR=.slice (some ⟨gR,0,none⟩) d.r.recs.length cR)(hd:d.r.recs[i]? =some x)(hj:j<7)(hs:∀k,k<7->k≠j->(f x).cells[k]? =x.cells[k]?)(hu:(f x).cells[j]? =some u):
 bF (w.setCell ⟨gR,i*7+j,none⟩ u) lo hb v {d with r:={d.r with recs:=d.r.recs.modify i f}}/\bM hb v w v (w.setCell ⟨gR,i*7+j,none⟩ u):=by
 have ziC:(parts v hb)[7]? =some (some gR):=by show some v.sR.ownBlock=_;rw[hv];rfl
 have kk:∀i b,i≠7->(parts v hb)[i]? =some (some b)->(w.setCell ⟨gR,i*7+j,none⟩ u).heap[b]? =w.heap[b]? :=λi b hi bZ=>eJ w _ _ b (h.ne bZ ziC hi);have Hz:∀m b,m≠7->(parts v hb)[m]? =some (some b)->(w.setCell ⟨gR,i*7+j,none⟩ u).heap[b]? =w.heap[b]? :=λm b hi bZ=>eJ w _ _ b (h.ne bZ ziC hi);have hr:=h.R;rw[hv] at hr;have h1:=(hr.stored (i*7+j) u).1;rw[zsr hd hj hs hu] at h1;refine⟨⟨(Hz 0 _ aH rfl).trans h.blk,h.lob,cI h.L λb e=>Hz 1 _ aH cS,cI h.Q λb e=>Hz 4 _ aH cS,cI h.W λb e=>Hz 5 _ aH cS,cI h.B λb e=>Hz 6 _ aH cS,?_,cI h.A λb e=>Hz 9 _ aH cS,cI h.T λb e=>Hz 10 _ aH cS,h.C.keep (Hz 2 _ aH rfl),h.O.keep (Hz 3 _ aH rfl),h.M.keep (Hz 8 _ aH rfl),h.ap⟩,by rw[sU];exact aV _,λb bZ hn=>eJ w _ _ b λe=>hn (e▸dX ziC),λb bZ=>.inl bZ⟩;show(w.setCell _ u).ownsRow lo _ 7 v.sR (d.r.recs.modify i f).length _;rw[hv,Gj];exact h1
end
def yE (c:Nat):List (Nat×aF)->List (Nat×aF)
 |[]=>[]
 |p::ps=>if c=p.1 then ps else p::yE c ps
theorem zwp :∀{ps:List (Nat×aF)},c∉ps.map uK->pG c ps=none
 |[],_=>rfl
 |p::ps,h=>by
  unfold pG;have h1:c≠p.1:=λe=>h (by rw[e];simp);rw[if_neg h1];exact zwp λx=>h (Fw _ x)
theorem zvv (c c':Nat)(v:aF):∀ps:List (Nat×aF),pG c' (uV c v ps)=if c'=c then some v else pG c' ps
 |[]=>by
  unfold uV pG pG;rfl
 |p::ps=>by
  unfold uV;by_cases e:c=p.1
  .rw[if_pos e]
   unfold pG;by_cases e2:c'=p.1
   .rw[if_pos e2,if_pos (e2.trans e.symm)]
   .rw[if_neg e2,if_neg (λh=>e2 (h.trans e))]
    first|rfl|simp[e2]
  .rw[if_neg e]
   unfold pG;by_cases e2:c'=p.1
   .rw[if_pos e2,if_neg (λh=>e (h.symm.trans e2))]
    first|rfl|simp[e2]
   .rw[if_neg e2,zvv c c' v ps]
    first|rfl|simp[e2]
variable {c':Nat}
theorem zvP :∀{ps:List (Nat×aF)},c'∈(uV c v ps).map uK->c'=c\/c'∈ps.map uK
 |[],h=>by unfold uV at h;simp at h;exact .inl h
 |p::ps,h=>by
  unfold uV at h;by_cases e:c=p.1
  .rw[if_pos e] at h
   exact .inr h
  .rw[if_neg e,fL,jH] at h
   rcases h with h|h
   .exact .inr (by rw[h];simp)
   .exact(zvP h).imp id (Fw _)
theorem zq9 (c:Nat)(v:aF):∀{ps:List (Nat×aF)},(ps.map uK).Nodup->((uV c v ps).map uK).Nodup
 |[],_=>by unfold uV;simp
 |p::ps,h=>by
  unfold uV;rw[fL,C4] at h;by_cases e:c=p.1
  .rw[if_pos e,fL,C4];exact h
  .rw[if_neg e,fL,C4]
   exact⟨λx=>(zvP x).elim (λy=>e y.symm) h.1,zq9 c v h.2⟩
theorem zsA :∀{ps:List (Nat×aF)},c'∈(yE c ps).map uK->c'∈ps.map uK
 |[],h=>by cases h
 |p::ps,h=>by
  unfold yE at h;by_cases e:c=p.1
  .rw[if_pos e] at h;exact Fw _ h
  .rw[if_neg e,fL,jH] at h
   rcases h with h|h
   .rw[h];simp
   .exact Fw _ (zsA h)
theorem zxK (c:Nat):∀{ps:List (Nat×aF)},(ps.map uK).Nodup->((yE c ps).map uK).Nodup
 |[],_=>by unfold yE;simp
 |p::ps,h=>by
  rw[fL,C4] at h;unfold yE;by_cases e:c=p.1
  .rw[if_pos e];exact h.2
  .rw[if_neg e,fL,C4]
   exact⟨λx=>h.1 (zsA x),zxK c h.2⟩
theorem zqi (c c':Nat):∀{ps:List (Nat×aF)},(ps.map uK).Nodup->pG c' (yE c ps)=if c'=c then none else pG c' ps
 |[],_=>by unfold yE pG;split<;>rfl
 |p::ps,h=>by
  rw[fL,C4] at h;unfold yE;by_cases e:c=p.1
  .rw[if_pos e]
   by_cases e2:c'=c
   .rw[if_pos e2];exact zwp (by rw[e2,e];exact h.1)
   .rw[if_neg e2]
    show _=pG c' (p::ps)
    conv=>rhs;unfold pG
    rw[if_neg (λh=>e2 (h.trans e.symm))]
  .rw[if_neg e]
   unfold pG;by_cases e2:c'=p.1
   .rw[if_pos e2,if_neg (λh=>e (h.symm.trans e2))]
    first|rfl|simp[e2]
   .rw[if_neg e2,zqi c c' h.2]
    first|rfl|simp[e2]
theorem zte :∀{es:List oX} {ps:List (Nat×aF)} {i:Nat} {q:Nat×aF},yM es ps->Am c ps i=some q->∃j,q.1=i+j/\j<es.length/\yM (es.eraseIdx j) (yE c ps)
 |[],ps,i,q,h,hq=>by rw[h.nil_inv] at hq;cases hq
 |e::es,ps,i,q,h,hq=>by
  obtain⟨p,qs,rfl,h1,h2,h3⟩:=h.cons_inv;unfold Am at hq;by_cases hc:c=p.1
  .rw[if_pos hc] at hq
   injection hq with hq;refine⟨0,by rw[<-hq];rfl,aP,?_⟩;unfold yE;rw[if_pos hc];simpa using h3
  .rw[if_neg hc] at hq
   obtain⟨j,e1,e2,e3⟩:=zte h3 hq;refine⟨j+1,by rw[e1];omega,by simpa using e2,?_⟩;unfold yE;rw[if_neg hc];unfold yM at e3⊢;rw[zx3,fL,fL,e3,h1,h2]
section
variable {P:bR}{k:aM}{d:Mm}{e0:aM}
variable {ps:List (Nat×aF)}
theorem zH4 {t e kt:aM}(ht:P.underlying t=some (.map k e))(hk:P.underlying k=some (.chan d e0)){w:aE}{b:Nat}{c:Nat}(h:Bq w b ps)(hc:(pG c ps).isSome=true):
 ∃o',(∀ty,(J7 #[t,kt] ty #[.map (some b),.chan (some c)]).run P w=.ok (.tuple #[]) {w with heap:=w.heap.setIfInBounds b o'})/\Bq {w with heap:=w.heap.setIfInBounds b o'} b (yE c ps):=by
 obtain⟨es,clock,hb,he⟩:=h;have hz:=(dQ.1 hb).1;have hf:=zh2 c ps 0
 cases hq:Am c ps 0 with
 |none=>rw[hq] at hf;rw[<-hf] at hc;cases hc
 |some q=>
  obtain⟨j,e1,e2,e3⟩:=zte he hq;have Ff:q.1=j:=aC;refine⟨.map (es.eraseIdxIfInBounds j) clock,λty=>?_,es.eraseIdxIfInBounds j,clock,by simp[hz],?_⟩
  .simp[J7,wQ ht,Zh hb,zfh hk,zf6 hk c w _ _ he,hq,Ff,X4 _ hb,uD]
  .have hj:j<es.size:=by simpa using e2
   have:(es.eraseIdxIfInBounds j).toList=es.toList.eraseIdx j:=by
    unfold zpp;rw[dif_pos hj,zn3]
   rw[this];exact e3
end
def xW (c:Int):List (Int×aF)->List (Int×aF)
 |[]=>[]
 |p::ps=>if c=p.1 then ps else p::xW c ps
variable {c:Int}
theorem zvB :∀{ps:List (Int×aF)},c∉ps.map uK->kZ c ps=none
 |[],_=>rfl
 |p::ps,h=>by
  unfold kZ;have h1:c≠p.1:=λe=>h (by rw[e];simp);rw[if_neg h1];exact zvB λx=>h (Fw _ x)
theorem Z1 (c c':Int)(v:aF):∀ps:List (Int×aF),kZ c' (qS c v ps)=if c'=c then some v else kZ c' ps
 |[]=>by
  unfold qS kZ kZ;rfl
 |p::ps=>by
  unfold qS;by_cases e:c=p.1
  .rw[if_pos e]
   unfold kZ;by_cases e2:c'=p.1
   .rw[if_pos e2,if_pos (e2.trans e.symm)]
   .rw[if_neg e2,if_neg (λh=>e2 (h.trans e))]
    first|rfl|simp[e2]
  .rw[if_neg e]
   unfold kZ;by_cases e2:c'=p.1
   .rw[if_pos e2,if_neg (λh=>e (h.symm.trans e2))]
    first|rfl|simp[e2]
   .rw[if_neg e2,Z1 c c' v ps]
    first|rfl|simp[e2]
variable {c':Int}
theorem zwV :∀{ps:List (Int×aF)},c'∈(qS c v ps).map uK->c'=c\/c'∈ps.map uK
 |[],h=>by unfold qS at h;simp at h;exact .inl h
 |p::ps,h=>by
  unfold qS at h;by_cases e:c=p.1
  .rw[if_pos e] at h
   exact .inr h
  .rw[if_neg e,fL,jH] at h
   rcases h with h|h
   .exact .inr (by rw[h];simp)
   .exact(zwV h).imp id (Fw _)
theorem zmw (c:Int)(v:aF):∀{ps:List (Int×aF)},(ps.map uK).Nodup->((qS c v ps).map uK).Nodup
 |[],_=>by unfold qS;simp
 |p::ps,h=>by
  unfold qS;rw[fL,C4] at h;by_cases e:c=p.1
  .rw[if_pos e,fL,C4];exact h
  .rw[if_neg e,fL,C4]
   exact⟨λx=>(zwV x).elim (λy=>e y.symm) h.1,zmw c v h.2⟩
theorem zp1 :∀{ps:List (Int×aF)},c'∈(xW c ps).map uK->c'∈ps.map uK
 |[],h=>by cases h
 |p::ps,h=>by
  unfold xW at h;by_cases e:c=p.1
  .rw[if_pos e] at h;exact Fw _ h
  .rw[if_neg e,fL,jH] at h
   rcases h with h|h
   .rw[h];simp
   .exact Fw _ (zp1 h)
theorem ztw (c:Int):∀{ps:List (Int×aF)},(ps.map uK).Nodup->((xW c ps).map uK).Nodup
 |[],_=>by unfold xW;simp
 |p::ps,h=>by
  rw[fL,C4] at h;unfold xW;by_cases e:c=p.1
  .rw[if_pos e];exact h.2
  .rw[if_neg e,fL,C4]
   exact⟨λx=>h.1 (zp1 x),ztw c h.2⟩
theorem zkX (c c':Int):∀{ps:List (Int×aF)},(ps.map uK).Nodup->kZ c' (xW c ps)=if c'=c then none else kZ c' ps
 |[],_=>by unfold xW kZ;split<;>rfl
 |p::ps,h=>by
  rw[fL,C4] at h;unfold xW;by_cases e:c=p.1
  .rw[if_pos e]
   by_cases e2:c'=c
   .rw[if_pos e2];exact zvB (by rw[e2,e];exact h.1)
   .rw[if_neg e2]
    show _=kZ c' (p::ps)
    conv=>rhs;unfold kZ
    rw[if_neg (λh=>e2 (h.trans e.symm))]
  .rw[if_neg e]
   unfold kZ;by_cases e2:c'=p.1
   .rw[if_pos e2,if_neg (λh=>e (h.symm.trans e2))]
    first|rfl|simp[e2]
   .rw[if_neg e2,zkX c c' h.2]
    first|rfl|simp[e2]
theorem zsE :∀{es:List oX} {ps:List (Int×aF)} {i:Nat} {q:Nat×aF},yV es ps->Aj c ps i=some q->∃j,q.1=i+j/\j<es.length/\yV (es.eraseIdx j) (xW c ps)
 |[],ps,i,q,h,hq=>by rw[h.nil_inv] at hq;cases hq
 |e::es,ps,i,q,h,hq=>by
  obtain⟨p,qs,rfl,h1,h2,h3⟩:=h.cons_inv;unfold Aj at hq;by_cases hc:c=p.1
  .rw[if_pos hc] at hq
   injection hq with hq;refine⟨0,by rw[<-hq];rfl,aP,?_⟩;unfold xW;rw[if_pos hc];simpa using h3
  .rw[if_neg hc] at hq
   obtain⟨j,e1,e2,e3⟩:=zsE h3 hq;refine⟨j+1,by rw[e1];omega,by simpa using e2,?_⟩;unfold xW;rw[if_neg hc];unfold yV at e3⊢;rw[zx3,fL,fL,e3,h1,h2]
section
variable {P:bR}{k:aM}
variable {ps:List (Int×aF)}
theorem zBp {t e kt:aM}(ht:P.underlying t=some (.map k e))(hk:P.underlying k=some (.int .i64)){w:aE}{b:Nat}{c:Int}(h:xP w b ps)(hc:(kZ c ps).isSome=true):
 ∃o',(∀ty,(J7 #[t,kt] ty #[.map (some b),.int .i64 c]).run P w=.ok (.tuple #[]) {w with heap:=w.heap.setIfInBounds b o'})/\xP {w with heap:=w.heap.setIfInBounds b o'} b (xW c ps):=by
 obtain⟨es,clock,hb,he⟩:=h;have hz:=(dQ.1 hb).1;have hf:=zhZ c ps 0
 cases hq:Aj c ps 0 with
 |none=>rw[hq] at hf;rw[<-hf] at hc;cases hc
 |some q=>
  obtain⟨j,e1,e2,e3⟩:=zsE he hq;have Ff:q.1=j:=aC;refine⟨.map (es.eraseIdxIfInBounds j) clock,λty=>?_,es.eraseIdxIfInBounds j,clock,by simp[hz],?_⟩
  .simp[J7,wQ ht,Zh hb,zfs hk,zdB hk c w _ _ he,hq,Ff,X4 _ hb,uD]
  .have hj:j<es.size:=by simpa using e2
   have:(es.eraseIdxIfInBounds j).toList=es.toList.eraseIdx j:=by
    unfold zpp;rw[dif_pos hj,zn3]
   rw[this];exact e3
variable {Q:nZ->Act->aE->Prop}
theorem zzF {ops:Array aZ}{rest:List aZ}{o:aZ}{a:Act}(w:aE)(hg:o.guard=none)(m x:cN)(t kt:aM)(hop:o.op=.call {callee:=.builtin .delete,args:=#[m,x],argTypes:=#[t,kt]})(e:aM)
 (ht:P.underlying t=some (.map k e)) (hk:P.underlying k=some (.int .i64)) (b:Nat) (c:Int) (ps:List (Int×aF)) (hm:a.eval m=.map (some b)) (hx:a.eval x=.int .i64 c) (h:xP w b ps) (hc:(kZ c ps).isSome=true)
 (hK:∀w' o',w'={w with heap:=w.heap.setIfInBounds b o'}->xP w' b (xW c ps)->wpList P ops Q rest (a.put o.dst (.tuple #[])) w'):wpList P ops Q (o::rest) a w:=by
 refine S9 hg λK' rT=>?_;obtain⟨o',cH,sD⟩:=zBp (kt:=kt) ht hk h hc;unfold B8;simp only[aS,hop,resolve,invoke,builtin,Et,Jd,Fa,uW,fL,tM,hm,hx,cH];exact rT _ _ (hK _ _ rfl sD)
end
structure gC (v:fO)(d:nK):Prop where
 kc:(v.pC.map uK).Nodup
 ko:(v.pO.map uK).Nodup
 km:(v.pM.map uK).Nodup
 c:∀(i g:Nat),d.ln[i]? =some g->((pG g v.pC).isSome=true↔∃(j:Nat) (x:bS),d.r.recs[j]? =some x/\eL x=true/\x.l=(i:Int)+1)
 o1:∀(c:Int) (y:aF),kZ c v.pO=some y->∃(i:Nat) (x:bS) (g:Nat),d.r.recs[i]? =some x/\eL x=true/\x.c=c/\d.ln[(x.l-1).toNat]? =some g/\y=.chan (some g)
 o2:∀(c:Int),kZ c v.pO=none->∀(i:Nat) (x:bS),d.r.recs[i]? =some x->eL x=true->x.c≠c
 m1:∀(c:Int) (y:aF),kZ c v.pM=some y->∃(i:Nat) (x:bS),y=.int .i64 (i:Int)/\d.r.recs[i]? =some x/\x.c=c/\∀(j:Nat) (e:bS),d.r.recs[j]? =some e->e.c=c->j<=i
 m2:∀(c:Int),kZ c v.pM=none->∀(i:Nat) (x:bS),d.r.recs[i]? =some x->x.c≠c
structure yS (d:nK):Prop where
 S:jG d.r
 R:RInv d.r
 ops:S4 d.r
 ndl:d.ln.Nodup
 nln:(d.ln.length:Int)=d.r.o.ln
 lb:∀x∈d.r.recs,1<=x.l/\x.l<=d.r.o.ln
 nqn:(d.qn.length:Int)=d.r.o.op
 sm:Q9 d.r
variable {xs:List Nat}
theorem znW (h:xs.Nodup){i j g:Nat}(hi:xs[i]? =some g)(hj:xs[j]? =some g):i=j:=by
 obtain⟨h1,h2⟩:=jX.1 hi;obtain⟨h3,h4⟩:=jX.1 hj;exact(List.getElem_inj h).1 (h2.trans h4.symm)
theorem zzQ {rs:List bS}{l:Int}:q8 rs l=true↔∃(j:Nat) (x:bS),rs[j]? =some x/\eL x=true/\x.l=l:=by
 unfold q8;rw[Uf];constructor
 .rintro⟨x,hx,h⟩
  obtain⟨j,hj⟩:=Gq.1 hx;simp only[fT,beq_iff_eq] at h;exact⟨j,x,hj,h.2,h.1⟩
 .rintro⟨j,x,hj,ho,hl⟩
  exact⟨x,dX hj,by simp[ho,hl]⟩
section
variable {v:fO}{d:nK}
variable {i g:Nat}
theorem gC.used (h:gC v d)(hi:d.ln[i]? =some g):(pG g v.pC).isSome=q8 d.r.recs ((i:Int)+1):=by
 rw[Bool.eq_iff_iff,h.c i g hi,zzQ]
variable {c:Int}{x:bS}
theorem gC.onLine (h:gC v d)(hi:yS d)(hx:d.r.recs[i]? =some x)(ho:eL x=true)(hc:x.c=c):∃g,d.ln[(x.l-1).toNat]? =some g/\kZ c v.pO=some (.chan (some g))/\kZ c v.pM=some (.int .i64 (i:Int))/\(pG g v.pC).isSome=true:=by
 have hO:∃g,d.ln[(x.l-1).toNat]? =some g/\kZ c v.pO=some (.chan (some g)):=by
  cases e:kZ c v.pO with
  |none=>exact absurd hc (h.o2 c e i x hx ho)
  |some y=>
   obtain⟨j,z,g,h1,h2,h3,h4,rfl⟩:=h.o1 c y e;obtain rfl:=hi.S.opn i j x z hx h1 ho h2 (.inl (hc.trans h3.symm));rw[hx] at h1;obtain rfl:=cE h1;exact⟨g,h4,rfl⟩
 obtain⟨g,h1,h2⟩:=hO;refine⟨g,h1,h2,?_,(h.c _ g h1).2 ⟨i,x,hx,ho,?_⟩⟩
 .cases e:kZ c v.pM with
  |none=>exact absurd hc (h.m2 c e i x hx)
  |some y=>
   obtain⟨j,z,rfl,h3,h4,h5⟩:=h.m1 c y e;have k1:=h5 i x hx hc;have k2:=hi.S.last i j x z hx ho h3 (h4.trans hc.symm);rw[show j=i by omega]
 .have:=hi.lb x (dX hx);omega
theorem gC.offLine (h:gC v d)(hc:jI d.r.recs c=none):kZ c v.pO=none:=by
 cases e:kZ c v.pO with
 |none=>rfl
 |some y=>
  obtain⟨j,z,g,h1,h2,h3,_⟩:=h.o1 c y e;exact absurd h3 (Lz hc j z h1 h2)
theorem gC.more (h:gC v d)(hn:d.ln.Nodup){o hh tt clk:Int}(hg:d.ln[i]? =some g)(hf:q8 d.r.recs ((i:Int)+1)=false)(hc:jI d.r.recs c=none):
 gC {v with pC:=uV g (.int .i64 c) v.pC,pO:=qS c (.chan (some g)) v.pO,pM:=qS c (.int .i64 (d.r.recs.length:Int)) v.pM} {d with r:={d.r with recs:=d.r.recs++[⟨c,(i:Int)+1,o,clk,hh,tt,eO⟩]}}:=by
 have hop:eL ⟨c,(i:Int)+1,o,clk,hh,tt,eO⟩=true:=by unfold eL;rw[zdN];rfl
 have Cf:(d.r.recs++[(⟨c,(i:Int)+1,o,clk,hh,tt,eO⟩:bS)])[d.r.recs.length]? =some ⟨c,(i:Int)+1,o,clk,hh,tt,eO⟩:=by rw[Ao (aV _),Mx];rfl
 refine⟨zq9 _ _ h.kc,zmw _ _ h.ko,zmw _ _ h.km,λi' g' xE=>?_,λc' y hy=>?_,λc' hy j x hx ho=>?_,λc' y hy=>?_,λc' hy j x hx=>?_⟩
 .simp only[zvv]
  by_cases e:g'=g
  .subst e
   obtain rfl:=znW hn hg xE;rw[if_pos rfl];exact⟨λ_=>⟨_,_,Cf,hop,rfl⟩,λ_=>rfl⟩
  .rw[if_neg e,h.c i' g' xE]
   constructor
   .rintro⟨j,x,h1,h2⟩;exact⟨j,x,zgd h1,h2⟩
   .rintro⟨j,x,h1,h2,h3⟩
    rcases K5 h1 with⟨_,h4⟩|⟨rfl,rfl⟩
    .exact⟨j,x,h4,h2,h3⟩
    .exfalso
     have:i=i':=by simp only at h3;omega
     subst this;rw[hg] at xE;exact e (cE xE).symm
 .simp only[Z1] at hy
  by_cases e:c'=c
  .rw[if_pos e] at hy
   obtain rfl:=cE hy;exact⟨_,_,g,Cf,hop,e.symm,by simp only;rw[show((i:Int)+1-1).toNat=i by omega];exact hg,rfl⟩
  .rw[if_neg e] at hy
   obtain⟨j,x,g',h1,h2⟩:=h.o1 c' y hy;exact⟨j,x,g',zgd h1,h2⟩
 .simp only[Z1] at hy
  by_cases e:c'=c
  .rw[if_pos e] at hy;cases hy
  .rw[if_neg e] at hy
   rcases K5 hx with⟨_,h4⟩|⟨rfl,rfl⟩
   .exact h.o2 c' hy j x h4 ho
   .exact Ne.symm e
 .simp only[Z1] at hy
  by_cases e:c'=c
  .rw[if_pos e] at hy
   obtain rfl:=cE hy;refine⟨_,_,rfl,Cf,e.symm,λj x hx _=>?_⟩;rcases K5 hx with⟨h4,_⟩|⟨rfl,rfl⟩
   .omega
   .exact aV _
  .rw[if_neg e] at hy
   obtain⟨j,x,h1,h2,h3,h4⟩:=h.m1 c' y hy;refine⟨j,x,h1,zgd h2,h3,λj' x' lK kS=>?_⟩;rcases K5 lK with⟨_,h5⟩|⟨rfl,rfl⟩
   .exact h4 j' x' h5 kS
   .exact absurd kS.symm e
 .simp only[Z1] at hy
  by_cases e:c'=c
  .rw[if_pos e] at hy;cases hy
  .rw[if_neg e] at hy
   rcases K5 hx with⟨_,h4⟩|⟨rfl,rfl⟩
   .exact h.m2 c' hy j x h4
   .exact Ne.symm e
variable {f:bS->bS}
theorem gC.mod (h:gC v d)(hf:∀x,(f x).c=x.c/\(f x).l=x.l/\eL (f x)=eL x):gC v {d with r:={d.r with recs:=d.r.recs.modify i f}}:=by
 have fw:∀(j:Nat) (x:bS),d.r.recs[j]? =some x->∃y,(d.r.recs.modify i f)[j]? =some y/\y.c=x.c/\y.l=x.l/\eL y=eL x:=λj x hx=>by
  by_cases e:i=j
  .subst e;exact⟨f x,Z8 hx,hf x⟩
  .exact⟨x,O6 hx e,rfl,rfl,rfl⟩
 have bw:∀(j:Nat) (y:bS),(d.r.recs.modify i f)[j]? =some y->∃x,d.r.recs[j]? =some x/\y.c=x.c/\y.l=x.l/\eL y=eL x:=λj y hy=>by
  obtain⟨x,h1,⟨_,rfl⟩|⟨_,rfl⟩⟩:=Ez hy
  .exact⟨x,h1,hf x⟩
  .exact⟨_,h1,rfl,rfl,rfl⟩
 refine⟨h.kc,h.ko,h.km,λi' g' xE=>?_,λc' y hy=>?_,λc' hy j x hx ho=>?_,λc' y hy=>?_,λc' hy j x hx=>?_⟩
 .rw[h.c i' g' xE]
  constructor
  .rintro⟨j,x,h1,h2,h3⟩
   obtain⟨y,k1,k2,k3,k4⟩:=fw j x h1;exact⟨j,y,k1,k4.trans h2,k3.trans h3⟩
  .rintro⟨j,x,h1,h2,h3⟩
   obtain⟨y,k1,k2,k3,k4⟩:=bw j x h1;exact⟨j,y,k1,k4.symm.trans h2,k3.symm.trans h3⟩
 .obtain⟨j,x,g',h1,h2,h3,h4,h5⟩:=h.o1 c' y hy
  obtain⟨z,k1,k2,k3,k4⟩:=fw j x h1;exact⟨j,z,g',k1,k4.trans h2,k2.trans h3,by rw[k3];exact h4,h5⟩
 .obtain⟨z,k1,k2,k3,k4⟩:=bw j x hx
  rw[k2];exact h.o2 c' hy j z k1 (k4.symm.trans ho)
 .obtain⟨j,x,h1,h2,h3,h4⟩:=h.m1 c' y hy
  obtain⟨z,k1,k2,k3,k4⟩:=fw j x h2;refine⟨j,z,h1,k1,k2.trans h3,λj' x' lK kS=>?_⟩;obtain⟨z',l1,l2,l3,l4⟩:=bw j' x' lK;exact h4 j' z' l1 (l2.symm.trans kS)
 .obtain⟨z,k1,k2,k3,k4⟩:=bw j x hx
  rw[k2];exact h.m2 c' hy j z k1
theorem gC.clear (h:gC v d)(hS:jG d.r)(hn:d.ln.Nodup)(Wp:∀x∈d.r.recs,1<=x.l)(hx:d.r.recs[i]? =some x)(ho:eL x=true)(hg:d.ln[(x.l-1).toNat]? =some g)(hf:∀z,(f z).c=z.c/\(f z).l=z.l)(cT:eL (f x)=false):
 gC {v with pC:=yE g v.pC,pO:=xW x.c v.pO} {d with r:={d.r with recs:=d.r.recs.modify i f}}:=by
 have bw:∀(j:Nat) (y:bS),(d.r.recs.modify i f)[j]? =some y->eL y=true->i≠j/\d.r.recs[j]? =some y:=λj y hy Dl=>by
  obtain⟨z,h1,⟨e,rfl⟩|⟨e,rfl⟩⟩:=Ez hy
  .subst e
   rw[hx] at h1;obtain rfl:=cE h1;rw[cT] at Dl;cases Dl
  .exact⟨e,h1⟩
 have cw:∀(j:Nat) (y:bS),(d.r.recs.modify i f)[j]? =some y->∃z,d.r.recs[j]? =some z/\y.c=z.c:=λj y hy=>by
  obtain⟨z,h1,⟨_,rfl⟩|⟨_,rfl⟩⟩:=Ez hy
  .exact⟨z,h1,(hf z).1⟩
  .exact⟨_,h1,rfl⟩
 refine⟨zxK _ h.kc,ztw _ h.ko,h.km,λi' g' xE=>?_,λc' y hy=>?_,λc' hy j z hz zdi=>?_,λc' y hy=>?_,λc' hy j z hz=>?_⟩
 .simp only[zqi _ _ h.kc]
  by_cases e:g'=g
  .subst e
   have e1:=znW hn hg xE;rw[if_pos rfl];constructor
   .intro h;cases h
   .rintro⟨j,z,h1,h2,h3⟩
    obtain⟨k1,k2⟩:=bw j z h1 h2;have hl:=Wp x (dX hx);exact absurd (hS.opn i j x z hx k2 ho h2 (.inr (.inl aC))) k1
  .rw[if_neg e,h.c i' g' xE]
   constructor
   .rintro⟨j,z,h1,h2,h3⟩
    have aT:i≠j:=λe2=>by
     subst e2;rw[hx] at h1;obtain rfl:=cE h1;have:(x.l-1).toNat=i':=aC;rw[this,xE] at hg;exact e (cE hg)
    exact⟨j,z,O6 h1 aT,h2,h3⟩
   .rintro⟨j,z,h1,h2,h3⟩
    obtain⟨k1,k2⟩:=bw j z h1 h2;exact⟨j,z,k2,h2,h3⟩
 .simp only[zkX _ _ h.ko] at hy
  by_cases e:c'=x.c
  .rw[if_pos e] at hy;cases hy
  .rw[if_neg e] at hy
   obtain⟨j,z,g',h1,h2,h3,h4⟩:=h.o1 c' y hy;have aT:i≠j:=λe2=>by
    subst e2;rw[hx] at h1;obtain rfl:=cE h1;exact e h3.symm
   exact⟨j,z,g',O6 h1 aT,h2,h3,h4⟩
 .simp only[zkX _ _ h.ko] at hy
  obtain⟨k1,k2⟩:=bw j z hz zdi;by_cases e:c'=x.c
  .intro e2
   exact k1 (hS.opn i j x z hx k2 ho zdi (.inl (by rw[e2,e])))
  .rw[if_neg e] at hy
   exact h.o2 c' hy j z k2 zdi
 .obtain⟨j,z,h1,h2,h3,h4⟩:=h.m1 c' y hy
  have up:∀(j':Nat) (e:bS),(d.r.recs.modify i f)[j']? =some e->e.c=c'->j'<=j:=λj' e he hc=>by
   obtain⟨z',k1,k2⟩:=cw j' e he;exact h4 j' z' k1 (k2.symm.trans hc)
  by_cases e:i=j
  .subst e
   exact⟨i,f z,h1,Z8 h2,(hf z).1.trans h3,up⟩
  .exact⟨j,z,h1,O6 h2 e,h3,up⟩
 .obtain⟨z',k1,k2⟩:=cw j z hz
  rw[k2];exact h.m2 c' hy j z' k1
end
def Sl:aK.underlying 84=some (.chan .both 3):=aQ
def J8:aK.underlying 3=some (.int .i64):=aQ
theorem zlF (w:aE):(zeroValue 3).run aK w=.ok (.int .i64 0) w:=by
 obtain⟨i0,hi,gX,_,_⟩:=y3 zrn;simp[zeroValue,typeInfo,hi,gX]
def zcm (w:aE):(zeroValue 84).run aK w=.ok (.chan none) w:=aQ
def Iu (d:nK):Int:=match oE d.r.o d.r.recs with|[]=>-1|l::_=>l-1
theorem zI9 {p:Int->Bool}:∀(n k:Nat),k<n->(∀j,j<k->p ((j:Int)+1)=false)->p ((k:Int)+1)=true->∃rest,((gN n).map λi:Nat=>(i:Int)+1).filter p=((k:Int)+1)::rest:=by
 intro n
 induction n with
 |zero=>intro k h;omega
 |succ n ih=>
  intro k hk h1 h2;rw[List.range_succ,Hr,Qk];by_cases e:k<n
  .obtain⟨rest,hr⟩:=ih k e h1 h2
   rw[hr];exact⟨_,rfl⟩
  .have e2:k=n:=aC
   subst e2;have h0:((gN k).map λi:Nat=>(i:Int)+1).filter p=[]:=by
    rw[zrL];intro x hx;obtain⟨i,hi,rfl⟩:=Jr.1 hx;rw[h1 i (Bh.1 hi)];simp
   rw[h0];exact⟨[],by simp[h2]⟩
variable {d:nK}{k:Nat}
theorem zy3 (hn:(d.ln.length:Int)=d.r.o.ln)(hk:k<d.ln.length)(h1:∀j,j<k->q8 d.r.recs ((j:Int)+1)=true)(h2:q8 d.r.recs ((k:Int)+1)=false):Iu d=(k:Int):=by
 unfold Iu oE xU;obtain⟨rest,hr⟩:=zI9 (p:=λl=>!q8 d.r.recs l) d.r.o.ln.toNat k aC (λj hj=>by simp[h1 j hj]) (by simp[h2]);rw[hr];simp only;omega
theorem zGf (hn:(d.ln.length:Int)=d.r.o.ln)(h1:∀j,j<d.ln.length->q8 d.r.recs ((j:Int)+1)=true):Iu d= -1:=by
 unfold Iu oE xU;have h0:((gN d.r.o.ln.toNat).map λi:Nat=>(i:Int)+1).filter (λl=>!q8 d.r.recs l)=[]:=by
  rw[zrL];intro x hx;obtain⟨i,hi,rfl⟩:=Jr.1 hx;rw[h1 i (by have:=Bh.1 hi;omega)];simp
 rw[h0]
variable {w:aE}{lo:Nat}
theorem Gt {E s n:Nat}{xs:List aF}(h:w.ownsRow lo E s v n xs)(hs:0<s):∃A c,v=.slice A n c/\b7 w lo w.heap.size s A n c xs:=by
 obtain⟨A,c,e,o⟩:=ziv h hs;exact⟨A,c,e,o.slc⟩
theorem zf3 {hi n c:Nat}{A:Option bL}(h:b7 w lo hi 1 A n c (Jc xs))(hk:k<n):∃b off g,A=some ⟨b,off,none⟩/\xs[k]? =some g/\w.cell? ⟨b,off+k,none⟩=some (.chan (some g)):=by
 obtain⟨b,off,e,h1,h2,h3,h4⟩:=h.cells hk;have hl:xs.length=n:=by have:=h.len;simpa[Jc] using this
 obtain⟨g,hg⟩:∃g,xs[k]? =some g:=⟨xs[k]' aC,lV aC⟩;refine⟨b,off,g,e,hg,?_⟩;have:=h4 0 (.chan (some g)) (by simp[Jc,hg]);simpa using this
theorem zpI {hb:Nat}{v:fO}(h:bF w lo hb v d)(m:gC v d)(hn:(d.ln.length:Int)=d.r.o.ln)(hk:d.ln.length<=100):
 fH aK 109 #[.pointer (some ⟨hb,0,none⟩)] w λe w'=>e=.returned (.int .i64 (Iu d))/\w'=w:=by
 obtain⟨A,c,hA,hs⟩:=Gt h.L aH;have HS:=aD hs;have HM:=aD m;have HC:=aD h.C;have HN:=aD hn;have n9:=aJ h.blk 3;have k2:=aJ h.blk 4;have k1:w.cell? ⟨hb,3,none⟩=some (.slice A d.ln.length c):=by rw[n9,<-hA];rfl
 go_enter Tryz.func109,Tryz.ntmps109
 go_wp2
 go_loop [12] (λi=>∃k:Nat,k<=d.ln.length/\i=.int .i64 k/\∀j,j<k->q8 d.r.recs ((j:Int)+1)=true) (λi=>d.ln.length-(intOf i).toNat)
 case atStart=>exact⟨0,jO _,rfl,λj hj=>absurd hj aC⟩
 case round=>
  obtain⟨k,sV,rfl,fV⟩:=hrel;have Yg:=aD fV;by_cases aN:k<d.ln.length
  .obtain⟨b,off,g,hA,hg,hv⟩:=zf3 HS.o aN
   subst hA;have HG:=aD hg;have i0:(0:Int)<=(k:Int):=aC;have i1:(k:Int)<(d.ln.length:Int):=aC;have HU:=aD (HM.o.used hg);cases hu:q8 d.r.recs ((k:Int)+1)
   .have HV:=aD hu
    go_wp2_with (at_lookup;refine zra _ rfl (.tmp 21) (.tmp 22) 66 true rfl 3 zsF Sl (.int .i64 0) (zlF _) v.mC g v.pC rfl rfl HC.o ?_;rw[HU.o,HV.o];simp only[if_true])
    go_ret;exact⟨Ba (zy3 HN.o aN Yg.o HV.o).symm,rfl⟩
   .have HV:=aD hu
    go_wp2_with (at_lookup;refine zra _ rfl (.tmp 21) (.tmp 22) 66 true rfl 3 zsF Sl (.int .i64 0) (zlF _) v.mC g v.pC rfl rfl HC.o ?_;rw[HU.o,HV.o];simp only[if_true])
    go_round
    case rel=>exact⟨k+1,aC,nC,λj hj=>if e:j<k then Yg.o j e else(by rw[show j=k by omega];exact HV.o)⟩
    case measure=>simp[intOf];omega
  .have e:k=d.ln.length:=aC
   subst e;go_wp2;go_ret;exact⟨Ba (zGf HN.o Yg.o).symm,rfl⟩
end Go.Proofs.YtfcjiloojkjaeaaGreatDoor
namespace Go.Proofs.YtfcjiloojkjaeaaGreatDoor
open Go.RowKit Go.Mt Go.Conc Go.Tt Go.Maps
section
variable {p:bR}{o:aZ}{ρ:cN->aF}{w w':aE}
variable {t:aM}
theorem zia {m x:cN}{ok:Bool}{a b v:aF}(ho:o.op=.lookup t m x ok)(hm:ρ m=a)(hx:ρ x=b)(hr:(zP t a b ok).run p w=.ok v w):(aS ρ o).run p w=.ok (.value v) w:=by
 obtain⟨dst,yW,type,pos,after,guard⟩:=o;simp only at ho;subst ho;simp[aS,hm,hx,hr]
theorem zHx {t2:aM}{a b:cN}{x y:Option Nat}{d:Mm}{e:aM}(ho:o.op=.binOp .eql t a b t2)(hu:p.underlying t=some (.chan d e))(ha:ρ a=.chan x)(hb:ρ b=.chan y):(aS ρ o).run p w=.ok (.value (.bool (x==y))) w:=by
 obtain⟨dst,yW,type,pos,after,guard⟩:=o;simp only at ho;subst ho;simp[aS,eqGuard,binOp,ha,hb,ziE hu]
theorem D6 {x:Int}(h1: -1000000000000<=x)(h2:x<=1000000000000):IntKind.i64.wrap x=x:=by
 rw[IntKind.wrap_i64];omega
theorem exec_mu {m x y:cN}{a b c:aF}(ho:o.op=.mapUpdate t m x y)(hm:ρ m=a)(hx:ρ x=b)(hy:ρ y=c)(hr:(G6 t a b c).run p w=.ok () w'):(aS ρ o).run p w=.ok .skip w':=by
 obtain⟨dst,yW,type,pos,after,guard⟩:=o;simp only at ho;subst ho;simp[aS,hm,hx,hy,hr]
variable {kt:aM}
theorem exec_dl {m x:cN}{a b v:aF}(ho:o.op=.call ⟨.builtin .delete,#[m,x],#[t,kt]⟩)(hm:ρ m=a)(hx:ρ x=b)(hr:(J7 #[t,kt] o.type #[a,b]).run p w=.ok v w'):(aS ρ o).run p w=.ok (.value v) w':=by
 obtain⟨dst,yW,type,pos,after,guard⟩:=o;simp only at ho hr;subst ho;simp[aS,resolve,invoke,builtin,hm,hx,hr]
theorem zfX {m x:cN}{a b v:aF}(ho:o.op=.call ⟨.builtin .copy,#[m,x],#[t,kt]⟩)(hm:ρ m=a)(hx:ρ x=b)(hr:(C5 #[t,kt] o.type #[a,b]).run p w=.ok v w'):(aS ρ o).run p w=.ok (.value v) w':=by
 obtain⟨dst,yW,type,pos,after,guard⟩:=o;simp only at ho hr;subst ho;simp[aS,resolve,invoke,builtin,hm,hx,hr]
end
def bodyRF:Go.Code:=(Tryz.f115.body).getD .skip
def rRF1:Go.Code:=match bodyRF with| .seq _ (.seq (a) _)=>a|_=>.skip
def zfL:Array Oper:=match rRF1 with| .region _ ops _=>ops|_=>#[]
def zro:zfL.toList=[⟨some 5,.move (.tmp 0),63,"l6_office.go:126",#[],none⟩,⟨some 6,.nilCheck (.tmp 5),0,"l6_office.go:126",#[⟨0,.data⟩],none⟩,⟨some 7,.fieldAddr 72 (.tmp 6) 7,0,"l6_office.go:126",#[⟨1,.data⟩],none⟩,⟨some 8,.load 45 (.tmp 7),45,"l6_office.go:126",#[⟨2,.data⟩],none⟩,⟨some 9,.move (.tmp 0),63,"l6_office.go:126",#[],none⟩,⟨some 10,.nilCheck (.tmp 9),0,"l6_office.go:126",#[⟨4,.data⟩],none⟩,⟨some 11,.fieldAddr 72 (.tmp 10) 8,0,"l6_office.go:126",#[⟨5,.data⟩],none⟩,⟨some 12,.load 70 (.tmp 11),70,"l6_office.go:126",#[⟨6,.data⟩],none⟩,⟨some 13,.move (.tmp 1),3,"l6_office.go:126",#[],none⟩,⟨some 14,.lookup 70 (.tmp 12) (.tmp 13) false,3,"l6_office.go:126",#[⟨7,.data⟩,⟨8,.data⟩],none⟩,⟨some 15,.indexAddr 45 (.tmp 8) (.tmp 14),0,"l6_office.go:126",#[⟨3,.data⟩,⟨9,.data⟩],none⟩,⟨some 4,.assign (.tmp 15),152,"l6_office.go:126",#[⟨10,.data⟩,⟨0,.phase⟩,⟨1,.phase⟩,⟨2,.phase⟩,⟨3,.phase⟩,⟨4,.phase⟩,⟨5,.phase⟩,⟨6,.phase⟩,⟨7,.phase⟩,⟨8,.phase⟩,⟨9,.phase⟩,⟨10,.phase⟩],none⟩]:=rfl
def WRF1 (w:aE)(hb g n cR mM ix:Nat)(c:Int):Nat->aE
 |_=>w.drew
theorem zs7:zfL.toList.map (·.dst)=[some 5,some 6,some 7,some 8,some 9,some 10,some 11,some 12,some 13,some 14,some 15,some 4]:=by rw[zro];rfl
def lRF1 (w:aE)(hb g n cR mM ix:Nat)(c:Int):List Value:=[.pointer (some ⟨hb,0,none⟩),.pointer (some ⟨hb,0,none⟩),.pointer (some ⟨hb,9,none⟩),.slice (some ⟨g,0,none⟩) n cR,.pointer (some ⟨hb,0,none⟩),.pointer (some ⟨hb,0,none⟩),.pointer (some ⟨hb,10,none⟩),.map (some mM),.int .i64 (c),.int .i64 ((ix:Nat)),.pointer (some ⟨g,ix*7,none⟩),.pointer (some ⟨g,ix*7,none⟩)]
def fRF1 (w:aE)(hb g n cR mM ix:Nat)(c:Int)(i:Nat):Value:=(lRF1 w hb g n cR mM ix c).getD i aA
variable {Q:nZ->tP->aE->Prop}{d:List Ee}{t0:Array aF}
theorem wp_RF1 (w:aE)(hb g n cR mM ix:Nat)(c:Int)(hz:t0.size=16)(uC:t0.getD 0 aA=.pointer (some ⟨hb,0,none⟩))(Ey:t0.getD 1 aA=.int .i64 (c))(h9:w.cell? ⟨hb,9,none⟩=some (.slice (some ⟨g,0,none⟩) n cR))(He:w.cell? ⟨hb,10,none⟩=some (.map (some mM)))(wX:(zP 70 (.map (some mM)) (.int .i64 c) false).run aK w.drew=.ok (.int .i64 (ix:Int)) w.drew)(n8:ix<n)(h0:WRF1 w hb g n cR mM ix c 0=w.drew)(hk:Q .normal ⟨dC zfL (fRF1 w hb g n cR mM ix c) t0,d⟩ (w.drew)):
 (E6 1 zfL true).wp aK Q ⟨t0,d⟩ w:=by
 refine Iy (ws:=[]) (Wd:=WRF1 w hb g n cR mM ix c) (vals:=fRF1 w hb g n cR mM ix c) vL.mixed aQ aH aQ h0 Jk (λV hU hV=>?_) hk;obtain⟨e5,e6,e7,e8,e9,zgA,zid,zd4,zk5,zwS,zwm,e4,-⟩:=Ig zs7 hU;have e0:=(hV 0 aQ).trans uC;have e1:=(hV 1 aQ).trans Ey;have zxw:=h9;have zzG:=He;refine λTf hT=>I2 zro ⟨bP.pv,bP.pv,bP.pv,bP.ld,bP.pv,bP.pv,bP.pv,bP.ld,bP.pv,bP.ld (hx:=zia rfl (nU hT zd4) (nU hT zk5) wX),bP.any (λkk fR hm=>?_),bP.pv,trivial⟩
 .have i0:(0:Int)<=(ix:Int):=aC
  have i1:(ix:Int)<(n:Int):=by have:=n8;omega
  unfold aS;go_simp
def bodyCL:Go.Code:=(Tryz.f116.body).getD .skip
def rCL0:Go.Code:=match bodyCL with| .seq (a) _=>a|_=>.skip
def zgK:Array Oper:=match rCL0 with| .region _ ops _=>ops|_=>#[]
def zpN:zgK.toList=[⟨some 7,.move (.tmp 0),63,"l6_office.go:130",#[],none⟩,⟨some 8,.nilCheck (.tmp 7),0,"l6_office.go:130",#[⟨0,.data⟩],none⟩,⟨some 9,.fieldAddr 72 (.tmp 8) 2,0,"l6_office.go:130",#[⟨1,.data⟩],none⟩,⟨some 10,.load 66 (.tmp 9),66,"l6_office.go:130",#[⟨2,.data⟩],none⟩,⟨some 11,.move (.tmp 0),63,"l6_office.go:130",#[],none⟩,⟨some 12,.nilCheck (.tmp 11),0,"l6_office.go:130",#[⟨4,.data⟩],none⟩,⟨some 13,.fieldAddr 72 (.tmp 12) 3,0,"l6_office.go:130",#[⟨5,.data⟩],none⟩,⟨some 14,.load 67 (.tmp 13),67,"l6_office.go:130",#[⟨6,.data⟩],none⟩,⟨some 15,.move (.tmp 1),3,"l6_office.go:130",#[],none⟩,⟨some 16,.lookup 67 (.tmp 14) (.tmp 15) false,84,"l6_office.go:130",#[⟨7,.data⟩,⟨8,.data⟩],none⟩,⟨none,.call ⟨.builtin .delete,#[.tmp 10,.tmp 16],#[66,84]⟩,0,"l6_office.go:130",#[⟨3,.data⟩,⟨9,.data⟩],none⟩]:=rfl
def WCL0 (w:aE)(hb mC mO g:Nat)(o1:Obj)(c:Int):Nat->aE
 |0=>w.drew
 |_=>{w.drew with heap:=w.drew.heap.setIfInBounds mC o1}
theorem zuy:zgK.toList.map (·.dst)=[some 7,some 8,some 9,some 10,some 11,some 12,some 13,some 14,some 15,some 16,none]:=by rw[zpN];rfl
def lCL0 (w:aE)(hb mC mO g:Nat)(o1:Obj)(c:Int):List Value:=[.pointer (some ⟨hb,0,none⟩),.pointer (some ⟨hb,0,none⟩),.pointer (some ⟨hb,4,none⟩),.map (some mC),.pointer (some ⟨hb,0,none⟩),.pointer (some ⟨hb,0,none⟩),.pointer (some ⟨hb,5,none⟩),.map (some mO),.int .i64 (c),.chan (some g),aA]
def fCL0 (w:aE)(hb mC mO g:Nat)(o1:Obj)(c:Int)(i:Nat):Value:=(lCL0 w hb mC mO g o1 c).getD i aA
theorem wp_CL0 (w:aE)(hb mC mO g:Nat)(o1:Obj)(c:Int)(hz:t0.size=36)(uC:t0.getD 0 aA=.pointer (some ⟨hb,0,none⟩))(Ey:t0.getD 1 aA=.int .i64 (c))(h4:w.cell? ⟨hb,4,none⟩=some (.map (some mC)))(h5:w.cell? ⟨hb,5,none⟩=some (.map (some mO)))(wX:(zP 67 (.map (some mO)) (.int .i64 c) false).run aK w.drew=.ok (.chan (some g)) w.drew)(uZ:∀ty,(J7 #[66,84] ty #[.map (some mC),.chan (some g)]).run aK w.drew=.ok (.tuple #[]) {w.drew with heap:=w.drew.heap.setIfInBounds mC o1})(h0:WCL0 w hb mC mO g o1 c 0=w.drew)(hk:Q .normal ⟨dC zgK (fCL0 w hb mC mO g o1 c) t0,d⟩ ({w.drew with heap:=w.drew.heap.setIfInBounds mC o1})):
 (E6 0 zgK true).wp aK Q ⟨t0,d⟩ w:=by
 refine Iy (ws:=[10]) (Wd:=WCL0 w hb mC mO g o1 c) (vals:=fCL0 w hb mC mO g o1 c) vL.mixed aQ aH aQ h0 Jk (λV hU hV=>?_) hk;obtain⟨e7,e8,e9,zgA,zid,zd4,zk5,zwS,zwm,zGk,-⟩:=Ig zuy hU;have e0:=(hV 0 aQ).trans uC;have e1:=(hV 1 aQ).trans Ey;have L8:=h4;have zAD:=h5;refine λTf hT=>I2 zpN ⟨bP.pv,bP.pv,bP.pv,bP.ld,bP.pv,bP.pv,bP.pv,bP.ld,bP.pv,bP.ld (hx:=zia rfl (nU hT zwS) (nU hT zwm) wX),.actn 0 rfl (eD rfl) rfl (.tuple #[]) ?_,trivial⟩
 .exact exec_dl rfl (nU hT zgA) (nU hT zGk) (uZ _)
def zsJ:Go.Code:=(Tryz.f110.body).getD .skip
def rCC3:Go.Code:=match zsJ with| .seq _ (.seq _ (.seq _ (.seq (a) _)))=>a|_=>.skip
def zhe:Array Oper:=match rCC3 with| .region _ ops _=>ops|_=>#[]
def zoe:zhe.toList=[⟨some 26,.move (.tmp 0),63,"l6_office.go:119",#[],none⟩,⟨some 27,.nilCheck (.tmp 26),0,"l6_office.go:119",#[⟨0,.data⟩],none⟩,⟨some 28,.fieldAddr 72 (.tmp 27) 8,0,"l6_office.go:119",#[⟨1,.data⟩],none⟩,⟨some 29,.load 70 (.tmp 28),70,"l6_office.go:119",#[⟨2,.data⟩],none⟩,⟨some 30,.move (.tmp 1),3,"l6_office.go:119",#[],none⟩,⟨some 31,.move (.tmp 0),63,"l6_office.go:119",#[],none⟩,⟨some 32,.nilCheck (.tmp 31),0,"l6_office.go:119",#[⟨5,.data⟩],none⟩,⟨some 33,.fieldAddr 72 (.tmp 32) 7,0,"l6_office.go:119",#[⟨6,.data⟩],none⟩,⟨some 34,.load 45 (.tmp 33),45,"l6_office.go:119",#[⟨7,.data⟩],none⟩,⟨some 35,.call ⟨.builtin .len,#[.tmp 34],#[45]⟩,3,"l6_office.go:119",#[⟨8,.data⟩],none⟩,⟨none,.mapUpdate 70 (.tmp 29) (.tmp 30) (.tmp 35),0,"l6_office.go:119",#[⟨3,.data⟩,⟨4,.data⟩,⟨9,.data⟩,⟨0,.phase⟩,⟨1,.phase⟩,⟨2,.phase⟩,⟨3,.phase⟩,⟨4,.phase⟩,⟨5,.phase⟩,⟨6,.phase⟩,⟨7,.phase⟩,⟨8,.phase⟩,⟨9,.phase⟩],none⟩]:=rfl
def WCC3 (w:aE)(hb mM n:Nat)(sR:aF)(A:Option bL)(cR:Nat)(o1:Obj)(c:Int):Nat->aE
 |0=>w.drew
 |_=>{w.drew with heap:=w.drew.heap.setIfInBounds mM o1}
theorem zvg:zhe.toList.map (·.dst)=[some 26,some 27,some 28,some 29,some 30,some 31,some 32,some 33,some 34,some 35,none]:=by rw[zoe];rfl
def lCC3 (w:aE)(hb mM n:Nat)(sR:aF)(A:Option bL)(cR:Nat)(o1:Obj)(c:Int):List Value:=[.pointer (some ⟨hb,0,none⟩),.pointer (some ⟨hb,0,none⟩),.pointer (some ⟨hb,10,none⟩),.map (some mM),.int .i64 (c),.pointer (some ⟨hb,0,none⟩),.pointer (some ⟨hb,0,none⟩),.pointer (some ⟨hb,9,none⟩),.slice A n cR,.int .i64 ((n:Nat)),aA]
def fCC3 (w:aE)(hb mM n:Nat)(sR:aF)(A:Option bL)(cR:Nat)(o1:Obj)(c:Int)(i:Nat):Value:=(lCC3 w hb mM n sR A cR o1 c).getD i aA
theorem wp_CC3 (w:aE)(hb mM n:Nat)(sR:aF)(A:Option bL)(cR:Nat)(o1:Obj)(c:Int)(hz:t0.size=53)(uC:t0.getD 0 aA=.pointer (some ⟨hb,0,none⟩))(Ey:t0.getD 1 aA=.int .i64 (c))(He:w.cell? ⟨hb,10,none⟩=some (.map (some mM)))(h9:w.cell? ⟨hb,9,none⟩=some (.slice A n cR))(Kv:(G6 70 (.map (some mM)) (.int .i64 c) (.int .i64 (n:Int))).run aK w.drew=.ok () {w.drew with heap:=w.drew.heap.setIfInBounds mM o1})(h0:WCC3 w hb mM n sR A cR o1 c 0=w.drew)(hk:Q .normal ⟨dC zhe (fCC3 w hb mM n sR A cR o1 c) t0,d⟩ ({w.drew with heap:=w.drew.heap.setIfInBounds mM o1})):
 (E6 3 zhe true).wp aK Q ⟨t0,d⟩ w:=by
 refine Iy (ws:=[10]) (Wd:=WCC3 w hb mM n sR A cR o1 c) (vals:=fCC3 w hb mM n sR A cR o1 c) vL.mixed aQ aH aQ h0 Jk (λV hU hV=>?_) hk;obtain⟨zLN,zKh,zMC,zyR,zHH,zKS,zMs,zLV,zLq,zCJ,-⟩:=Ig zvg hU;have e0:=(hV 0 aQ).trans uC;have e1:=(hV 1 aQ).trans Ey;have zzG:=He;have zxw:=h9;refine λTf hT=>I2 zoe ⟨bP.pv,bP.pv,bP.pv,bP.ld,bP.pv,bP.pv,bP.pv,bP.pv,bP.ld,bP.pv,.skp 0 rfl (eD rfl) rfl ?_,trivial⟩
 .exact exec_mu rfl (nU hT zyR) (nU hT zHH) (nU hT zCJ) Kv
def rCC4:Go.Code:=match zsJ with| .seq _ (.seq _ (.seq _ (.seq _ (a))))=>a|_=>.skip
def zeA:Array Oper:=match rCC4 with| .region _ ops _=>ops|_=>#[]
def zog:zeA.toList=[⟨some 36,.move (.tmp 0),63,"l6_office.go:120",#[],none⟩,⟨some 37,.move (.tmp 0),63,"l6_office.go:120",#[],none⟩,⟨some 38,.nilCheck (.tmp 37),0,"l6_office.go:120",#[⟨1,.data⟩],none⟩,⟨some 39,.fieldAddr 72 (.tmp 38) 7,0,"l6_office.go:120",#[⟨2,.data⟩],none⟩,⟨some 40,.load 45 (.tmp 39),45,"l6_office.go:120",#[⟨3,.data⟩],none⟩,⟨some 41,.move (.tmp 1),3,"l6_office.go:120",#[],none⟩,⟨some 42,.move (.tmp 2),3,"l6_office.go:120",#[],none⟩,⟨some 43,.binOp .add 3 (.tmp 42) (.const (.int .i64 1)) 3,3,"l6_office.go:120",#[⟨6,.data⟩],none⟩,⟨some 44,.move (.tmp 0),63,"l6_office.go:120",#[],none⟩,⟨some 45,.nilCheck (.tmp 44),0,"l6_office.go:120",#[⟨8,.data⟩],none⟩,⟨some 46,.fieldAddr 72 (.tmp 45) 9,0,"l6_office.go:120",#[⟨9,.data⟩],none⟩,⟨some 47,.load 3 (.tmp 46),3,"l6_office.go:120",#[⟨10,.data⟩],none⟩,⟨some 48,.build 50 #[(0,.tmp 41),(1,.tmp 43),(3,.tmp 47),(4,.const (.int .i64 (-1))),(5,.const (.int .i64 (-1))),(6,.const (.string {data:=#[111,112,101,110]}))],50,"l6_office.go:120",#[⟨5,.data⟩,⟨7,.data⟩,⟨11,.data⟩],none⟩,⟨some 49,.buildSlice 45 1 #[(0,.tmp 48)],45,"l6_office.go:120",#[⟨12,.data⟩],none⟩,⟨some 50,.call ⟨.builtin .append,#[.tmp 40,.tmp 49],#[45,45]⟩,45,"l6_office.go:120",#[⟨4,.data⟩,⟨13,.data⟩],none⟩,⟨some 51,.nilCheck (.tmp 36),0,"l6_office.go:120",#[⟨0,.data⟩,⟨0,.phase⟩,⟨1,.phase⟩,⟨2,.phase⟩,⟨3,.phase⟩,⟨4,.phase⟩,⟨5,.phase⟩,⟨6,.phase⟩,⟨7,.phase⟩,⟨8,.phase⟩,⟨9,.phase⟩,⟨10,.phase⟩,⟨11,.phase⟩,⟨12,.phase⟩,⟨13,.phase⟩,⟨14,.phase⟩],none⟩,⟨some 52,.fieldAddr 72 (.tmp 51) 7,0,"l6_office.go:120",#[⟨15,.data⟩,⟨0,.phase⟩,⟨1,.phase⟩,⟨2,.phase⟩,⟨3,.phase⟩,⟨4,.phase⟩,⟨5,.phase⟩,⟨6,.phase⟩,⟨7,.phase⟩,⟨8,.phase⟩,⟨9,.phase⟩,⟨10,.phase⟩,⟨11,.phase⟩,⟨12,.phase⟩,⟨13,.phase⟩,⟨14,.phase⟩],none⟩,⟨none,.store 45 (.tmp 52) (.tmp 50),0,"l6_office.go:120",#[⟨16,.data⟩,⟨14,.data⟩,⟨14,.chain⟩,⟨0,.phase⟩,⟨1,.phase⟩,⟨2,.phase⟩,⟨3,.phase⟩,⟨4,.phase⟩,⟨5,.phase⟩,⟨6,.phase⟩,⟨7,.phase⟩,⟨8,.phase⟩,⟨9,.phase⟩,⟨10,.phase⟩,⟨11,.phase⟩,⟨12,.phase⟩,⟨13,.phase⟩,⟨14,.phase⟩],none⟩]:=rfl
def WCC4 (w w3:aE)(hb g1 n1 c1:Nat)(sR:aF)(c ix clk:Int):Nat->aE
 |0=>w.drew
 |1=>(w.alloc (.cells #[.int .i64 c,.int .i64 (ix+1),.int .i64 0,.int .i64 clk,.int .i64 (-1),.int .i64 (-1),.string eO] 50)).drew
 |2=>w3
 |_=>w3.setCell ⟨hb,9,none⟩ (.slice (some ⟨g1,0,none⟩) n1 c1)
theorem zwv:zeA.toList.map (·.dst)=[some 36,some 37,some 38,some 39,some 40,some 41,some 42,some 43,some 44,some 45,some 46,some 47,some 48,some 49,some 50,some 51,some 52,none]:=by rw[zog];rfl
def lCC4 (w w3:aE)(hb g1 n1 c1:Nat)(sR:aF)(c ix clk:Int):List Value:=[.pointer (some ⟨hb,0,none⟩),.pointer (some ⟨hb,0,none⟩),.pointer (some ⟨hb,0,none⟩),.pointer (some ⟨hb,9,none⟩),sR,.int .i64 (c),.int .i64 (ix),.int .i64 (ix+1),.pointer (some ⟨hb,0,none⟩),.pointer (some ⟨hb,0,none⟩),.pointer (some ⟨hb,11,none⟩),.int .i64 (clk),.agg #[.int .i64 c,.int .i64 (ix+1),.int .i64 0,.int .i64 clk,.int .i64 (-1),.int .i64 (-1),.string eO],.slice (some ⟨w.heap.size,0,none⟩) 1 1,.slice (some ⟨g1,0,none⟩) n1 c1,.pointer (some ⟨hb,0,none⟩),.pointer (some ⟨hb,9,none⟩),aA]
def fCC4 (w w3:aE)(hb g1 n1 c1:Nat)(sR:aF)(c ix clk:Int)(i:Nat):Value:=(lCC4 w w3 hb g1 n1 c1 sR c ix clk).getD i aA
theorem wp_CC4 (w w3:aE)(hb g1 n1 c1:Nat)(sR:aF)(c ix clk:Int)(hz:t0.size=53)(uC:t0.getD 0 aA=.pointer (some ⟨hb,0,none⟩))(Ey:t0.getD 1 aA=.int .i64 (c))(Sn:t0.getD 2 aA=.int .i64 (ix))(h9:w.cell? ⟨hb,9,none⟩=some sR)(Ru:w.cell? ⟨hb,11,none⟩=some (.int .i64 clk))(zof:0<=ix/\ix<=1000)(fP:(wL #[45,45] 45 #[sR,.slice (some ⟨w.heap.size,0,none⟩) 1 1]).run aK ((w.alloc (.cells #[.int .i64 c,.int .i64 (ix+1),.int .i64 0,.int .i64 clk,.int .i64 (-1),.int .i64 (-1),.string eO] 50)).drew)=.ok (.slice (some ⟨g1,0,none⟩) n1 c1) w3)(aY:w3.cell? ⟨hb,9,none⟩=some sR)(mR:w3.frozen? ⟨hb,9,none⟩=false)(h0:WCC4 w w3 hb g1 n1 c1 sR c ix clk 0=w.drew)(hk:Q .normal ⟨dC zeA (fCC4 w w3 hb g1 n1 c1 sR c ix clk) t0,d⟩ (w3.setCell ⟨hb,9,none⟩ (.slice (some ⟨g1,0,none⟩) n1 c1))):
 (E6 4 zeA true).wp aK Q ⟨t0,d⟩ w:=by
 refine Iy (ws:=[13,14,17]) (Wd:=WCC4 w w3 hb g1 n1 c1 sR c ix clk) (vals:=fCC4 w w3 hb g1 n1 c1 sR c ix clk) vL.mixed aQ aH aQ h0 Jk (λV hU hV=>?_) hk;obtain⟨zDt,zrJ,zyc,zlX,zlx,zut,zre,zhJ,zxW,zli,Yd,zbZ,ziK,V4,zgx,Yf,Xy,-⟩:=Ig zwv hU;have e0:=(hV 0 aQ).trans uC;have e1:=(hV 1 aQ).trans Ey;have e2:=(hV 2 aQ).trans Sn;have zxw:=h9;have zLd:=Ru;refine λTf hT=>I2 zog ⟨bP.pv,bP.pv,bP.pv,bP.pv,bP.any (λkk fR hm=>?_),bP.pv,bP.pv,bP.any (λkk fR hm=>?_),bP.pv,bP.pv,bP.pv,bP.ld,bP.any (λkk fR hm=>?_),bP.act (v:=V 49) 0 rfl (eD rfl) ?_,bP.act (v:=V 50) 1 rfl (eD rfl) ?_,bP.pv,bP.pv,.skp 2 rfl (eD rfl) rfl ?_,trivial⟩
 .rcases kk with _|_|_|_|kk
  .show(aS _ _).run _ (w.drew)=wD _ (w.drew);have hh:=h9;unfold aS;go_simp
  .show(aS _ _).run _ ((w.alloc (.cells #[.int .i64 c,.int .i64 (ix+1),.int .i64 0,.int .i64 clk,.int .i64 (-1),.int .i64 (-1),.string eO] 50)).drew)=wD _ ((w.alloc (.cells #[.int .i64 c,.int .i64 (ix+1),.int .i64 0,.int .i64 clk,.int .i64 (-1),.int .i64 (-1),.string eO] 50)).drew);have hh:=Ax h9 (.cells #[.int .i64 c,.int .i64 (ix+1),.int .i64 0,.int .i64 clk,.int .i64 (-1),.int .i64 (-1),.string eO] 50);unfold aS;go_simp
  .exact absurd hm Hm
  .exact absurd hm Hm
  .simp at fR
 .have i0:=zof.1
  have i1:=zof.2;unfold aS;go_simp;exact D6 aC aC
 .unfold aS;go_simp;rfl
 .rw[V4];show(aS _ _).run _ (w.drew)=wD _ ((w.alloc (.cells #[.int .i64 c,.int .i64 (ix+1),.int .i64 0,.int .i64 clk,.int .i64 (-1),.int .i64 (-1),.string eO] 50)).drew);unfold aS;go_simp
 .rw[zgx];exact zc7 rfl (nU hT zlx) (nU hT V4) fP
 .have hs:=aY;have hf:=mR;show(aS _ _).run _ (w3)=wD _ (w3.setCell ⟨hb,9,none⟩ (.slice (some ⟨g1,0,none⟩) n1 c1));unfold aS;go_simp
def bodyWA:Go.Code:=(Tryz.f105.body).getD .skip
def rWA10:Go.Code:=match bodyWA with| .seq _ (.seq _ (.seq _ (.seq _ (.seq (.seq _ (.block _ (.loop (.seq _ (.seq _ (.seq (.block _ (.seq _ (.seq _ (.seq _ (.seq (a) _))))) _)))))) _))))=>a|_=>.skip
def zeU:Array Oper:=match rWA10 with| .region _ ops _=>ops|_=>#[]
def zpT:zeU.toList=[⟨some 58,.move (.tmp 0),63,"l6_office.go:227",#[],none⟩,⟨some 59,.move (.tmp 0),63,"l6_office.go:227",#[],none⟩,⟨some 60,.nilCheck (.tmp 59),0,"l6_office.go:227",#[⟨1,.data⟩],none⟩,⟨some 61,.fieldAddr 72 (.tmp 60) 6,0,"l6_office.go:227",#[⟨2,.data⟩],none⟩,⟨some 62,.load 38 (.tmp 61),38,"l6_office.go:227",#[⟨3,.data⟩],none⟩,⟨some 63,.fieldAddr 149 (.tmp 8) 0,0,"l6_office.go:227",#[],none⟩,⟨some 64,.load 3 (.tmp 63),3,"l6_office.go:227",#[⟨5,.data⟩],none⟩,⟨some 65,.buildSlice 38 1 #[(0,.tmp 64)],38,"l6_office.go:227",#[⟨6,.data⟩],none⟩,⟨some 66,.call ⟨.builtin .append,#[.tmp 62,.tmp 65],#[38,38]⟩,38,"l6_office.go:227",#[⟨4,.data⟩,⟨7,.data⟩],none⟩,⟨some 67,.nilCheck (.tmp 58),0,"l6_office.go:227",#[⟨0,.data⟩,⟨0,.phase⟩,⟨1,.phase⟩,⟨2,.phase⟩,⟨3,.phase⟩,⟨4,.phase⟩,⟨5,.phase⟩,⟨6,.phase⟩,⟨7,.phase⟩,⟨8,.phase⟩],none⟩,⟨some 68,.fieldAddr 72 (.tmp 67) 6,0,"l6_office.go:227",#[⟨9,.data⟩,⟨0,.phase⟩,⟨1,.phase⟩,⟨2,.phase⟩,⟨3,.phase⟩,⟨4,.phase⟩,⟨5,.phase⟩,⟨6,.phase⟩,⟨7,.phase⟩,⟨8,.phase⟩],none⟩,⟨none,.store 38 (.tmp 68) (.tmp 66),0,"l6_office.go:227",#[⟨10,.data⟩,⟨8,.data⟩,⟨8,.chain⟩,⟨0,.phase⟩,⟨1,.phase⟩,⟨2,.phase⟩,⟨3,.phase⟩,⟨4,.phase⟩,⟨5,.phase⟩,⟨6,.phase⟩,⟨7,.phase⟩,⟨8,.phase⟩],none⟩]:=rfl
def WWA10 (w w3:aE)(hb gx g1 n1 c1:Nat)(sB:aF)(c:Int):Nat->aE
 |0=>w.drew
 |1=>(w.alloc (.cells #[.int .i64 c] 3)).drew
 |2=>w3
 |_=>w3.setCell ⟨hb,8,none⟩ (.slice (some ⟨g1,0,none⟩) n1 c1)
theorem zvo:zeU.toList.map (·.dst)=[some 58,some 59,some 60,some 61,some 62,some 63,some 64,some 65,some 66,some 67,some 68,none]:=by rw[zpT];rfl
def lWA10 (w w3:aE)(hb gx g1 n1 c1:Nat)(sB:aF)(c:Int):List Value:=[.pointer (some ⟨hb,0,none⟩),.pointer (some ⟨hb,0,none⟩),.pointer (some ⟨hb,0,none⟩),.pointer (some ⟨hb,8,none⟩),sB,.pointer (some ⟨gx,0,none⟩),.int .i64 (c),.slice (some ⟨w.heap.size,0,none⟩) 1 1,.slice (some ⟨g1,0,none⟩) n1 c1,.pointer (some ⟨hb,0,none⟩),.pointer (some ⟨hb,8,none⟩),aA]
def zmR (w w3:aE)(hb gx g1 n1 c1:Nat)(sB:aF)(c:Int)(i:Nat):Value:=(lWA10 w w3 hb gx g1 n1 c1 sB c).getD i aA
theorem wp_WA10 (w w3:aE)(hb gx g1 n1 c1:Nat)(sB:aF)(c:Int)(hz:t0.size=81)(uC:t0.getD 0 aA=.pointer (some ⟨hb,0,none⟩))(ziu:t0.getD 8 aA=.pointer (some ⟨gx,0,none⟩))(h8:w.cell? ⟨hb,8,none⟩=some sB)(hx:w.cell? ⟨gx,0,none⟩=some (.int .i64 c))(fP:(wL #[38,38] 38 #[sB,.slice (some ⟨w.heap.size,0,none⟩) 1 1]).run aK ((w.alloc (.cells #[.int .i64 c] 3)).drew)=.ok (.slice (some ⟨g1,0,none⟩) n1 c1) w3)(aY:w3.cell? ⟨hb,8,none⟩=some sB)(mR:w3.frozen? ⟨hb,8,none⟩=false)(h0:WWA10 w w3 hb gx g1 n1 c1 sB c 0=w.drew)(hk:Q .normal ⟨dC zeU (zmR w w3 hb gx g1 n1 c1 sB c) t0,d⟩ (w3.setCell ⟨hb,8,none⟩ (.slice (some ⟨g1,0,none⟩) n1 c1))):
 (E6 10 zeU true).wp aK Q ⟨t0,d⟩ w:=by
 refine Iy (ws:=[7,8,11]) (Wd:=WWA10 w w3 hb gx g1 n1 c1 sB c) (vals:=zmR w w3 hb gx g1 n1 c1 sB c) vL.mixed aQ aH aQ h0 Jk (λV hU hV=>?_) hk;obtain⟨zuP,zAh,zLC,zLF,zID,zMR,zKe,zwU,zHI,zMZ,zKQ,-⟩:=Ig zvo hU;have e0:=(hV 0 aQ).trans uC;have e8:=(hV 8 aQ).trans ziu;have zLD:=h8;have lK:=hx;refine λTf hT=>I2 zpT ⟨bP.pv,bP.pv,bP.pv,bP.pv,bP.any (λkk fR hm=>?_),bP.pv,bP.ld,bP.act (v:=V 65) 0 rfl (eD rfl) ?_,bP.act (v:=V 66) 1 rfl (eD rfl) ?_,bP.pv,bP.pv,.skp 2 rfl (eD rfl) rfl ?_,trivial⟩
 .rcases kk with _|_|_|_|kk
  .show(aS _ _).run _ (w.drew)=wD _ (w.drew);have hh:=h8;unfold aS;go_simp
  .show(aS _ _).run _ ((w.alloc (.cells #[.int .i64 c] 3)).drew)=wD _ ((w.alloc (.cells #[.int .i64 c] 3)).drew);have hh:=Ax h8 (.cells #[.int .i64 c] 3);unfold aS;go_simp
  .exact absurd hm Hm
  .exact absurd hm Hm
  .simp at fR
 .rw[zwU];show(aS _ _).run _ (w.drew)=wD _ ((w.alloc (.cells #[.int .i64 c] 3)).drew);unfold aS;go_simp
 .rw[zHI];exact zc7 rfl (nU hT zID) (nU hT zwU) fP
 .have hs:=aY;have hf:=mR;show(aS _ _).run _ (w3)=wD _ (w3.setCell ⟨hb,8,none⟩ (.slice (some ⟨g1,0,none⟩) n1 c1));unfold aS;go_simp
def bodyHG:Go.Code:=(Tryz.f102.body).getD .skip
def rHG1:Go.Code:=match bodyHG with| .seq _ (.seq (.seq (a) _) _)=>a|_=>.skip
def zeo:Array Oper:=match rHG1 with| .region _ ops _=>ops|_=>#[]
def zn4:zeo.toList=[⟨some 7,.move (.tmp 0),63,"l6_office.go:198",#[],none⟩,⟨some 8,.nilCheck (.tmp 7),0,"l6_office.go:198",#[⟨0,.data⟩],none⟩,⟨some 9,.fieldAddr 72 (.tmp 8) 3,0,"l6_office.go:198",#[⟨1,.data⟩],none⟩,⟨some 10,.load 67 (.tmp 9),67,"l6_office.go:198",#[⟨2,.data⟩],none⟩,⟨some 11,.load 3 (.tmp 3),3,"l6_office.go:198",#[],none⟩,⟨some 12,.lookup 67 (.tmp 10) (.tmp 11) false,84,"l6_office.go:198",#[⟨3,.data⟩,⟨4,.data⟩],none⟩,⟨some 13,.binOp .eql 84 (.tmp 12) (.const (.chan none)) 84,4,"l6_office.go:198",#[⟨5,.data⟩],none⟩]:=rfl
def WHG1 (w:aE)(hb gx mO:Nat)(c:Int)(q:Option Nat):Nat->aE
 |_=>w.drew
theorem zih:zeo.toList.map (·.dst)=[some 7,some 8,some 9,some 10,some 11,some 12,some 13]:=by rw[zn4];rfl
def lHG1 (w:aE)(hb gx mO:Nat)(c:Int)(q:Option Nat):List Value:=[.pointer (some ⟨hb,0,none⟩),.pointer (some ⟨hb,0,none⟩),.pointer (some ⟨hb,5,none⟩),.map (some mO),.int .i64 (c),.chan q,.bool (q==none)]
def fHG1 (w:aE)(hb gx mO:Nat)(c:Int)(q:Option Nat)(i:Nat):Value:=(lHG1 w hb gx mO c q).getD i aA
theorem zoc (w:aE)(hb gx mO:Nat)(c:Int)(q:Option Nat)(hz:t0.size=59)(uC:t0.getD 0 aA=.pointer (some ⟨hb,0,none⟩))(zkq:t0.getD 3 aA=.pointer (some ⟨gx,0,none⟩))(h5:w.cell? ⟨hb,5,none⟩=some (.map (some mO)))(hx:w.cell? ⟨gx,0,none⟩=some (.int .i64 c))(wX:(zP 67 (.map (some mO)) (.int .i64 c) false).run aK w.drew=.ok (.chan q) w.drew)(h0:WHG1 w hb gx mO c q 0=w.drew)(hk:Q .normal ⟨dC zeo (fHG1 w hb gx mO c q) t0,d⟩ (w.drew)):
 (E6 1 zeo true).wp aK Q ⟨t0,d⟩ w:=by
 refine Iy (ws:=[]) (Wd:=WHG1 w hb gx mO c q) (vals:=fHG1 w hb gx mO c q) vL.mixed aQ aH aQ h0 Jk (λV hU hV=>?_) hk;obtain⟨e7,e8,e9,zgA,zid,zd4,zk5,-⟩:=Ig zih hU;have e0:=(hV 0 aQ).trans uC;have e3:=(hV 3 aQ).trans zkq;have zAD:=h5;have lK:=hx;refine λTf hT=>I2 zn4 ⟨bP.pv,bP.pv,bP.pv,bP.ld,bP.ld,bP.ld (hx:=zia rfl (nU hT zgA) (nU hT zid) wX),bP.any (λkk fR hm=>?_),trivial⟩
 .exact zHx rfl Sl (nU hT zd4) rfl
end Go.Proofs.YtfcjiloojkjaeaaGreatDoor
namespace Go.Proofs.YtfcjiloojkjaeaaGreatDoor
open Go.RowKit
def Cn (v v':fO):Prop:=v'.sL=v.sL/\v'.sQ=v.sQ/\v'.sW=v.sW/\v'.sB=v.sB/\v'.sA=v.sA/\v'.sT=v.sT
def Cn.rf (v:fO):Cn v v:=⟨rfl,rfl,rfl,rfl,rfl,rfl⟩
def zso:aK.underlying 70=some (.map 3 3):=aQ
def Te:aK.underlying 67=some (.map 3 84):=aQ
def zp4:aK.underlying 66=some (.map 84 3):=aQ
variable {w:aE}{lo hb i:Nat}{v:fO}{d:nK}{x:bS}
theorem zm5 (h:bF w lo hb v d)(hx:d.r.recs[i]? =some x):∃g c,v.sR=.slice (some ⟨g,0,none⟩) d.r.recs.length c:=by
 have hi:=(jX.1 hx).1;rcases h.R.2 with⟨_,h0⟩|⟨g,cap,cur,e,_⟩
 .omega
 .exact⟨g,cap,e⟩
variable {c:Int}{g cR:Nat}
theorem zfd (h:bF w lo hb v d)(hR:v.sR=.slice (some ⟨g,0,none⟩) d.r.recs.length cR)(hx:d.r.recs[i]? =some x)(hc:kZ c v.pM=some (.int .i64 (i:Int))):
 fH aK 115 #[.pointer (some ⟨hb,0,none⟩),.int .i64 c] w λe w'=>e=.returned (.pointer (some ⟨g,i*7,none⟩))/\w'=w.drew:=by
 have hi:=(jX.1 hx).1;have k0:=aJ h.blk 9;have k1:w.cell? ⟨hb,9,none⟩=some (.slice (some ⟨g,0,none⟩) d.r.recs.length cR):=by rw[k0,<-hR];rfl
 have k2:=aJ h.blk 10;have hl:(zP 70 (.map (some v.mM)) (.int .i64 c) false).run aK w.drew=.ok (.int .i64 (i:Int)) w.drew:=by
  have:=zar zso J8 (zlF w.drew) (h.drew.M) (c:=c) false;rw[hc] at this;exact this
 have HL:=aD hl
 go_enter Tryz.func115,Tryz.ntmps115
 go_wp2_with fail
 refine wp_RF1 w hb g d.r.recs.length cR v.mM i c rfl rfl rfl k1 k2 HL.o hi rfl ?_;rw[Go.Mt.Ac,zs7];simp only[Go.Mt.wN,dW,dS,fRF1,lRF1,C2,Cy]
 go_wp2_with fail
 go_ret;exact⟨rfl,rfl⟩
theorem zIL (rs:List bS)(x:bS):recs (rs++[x])=recs rs++x.cells:=by simp[recs]
def zAR:(aK.info? 50).map (λi=>(i.zero,i.size,i.bytes))=some (some (.agg #[.int .i64 0,.int .i64 0,.int .i64 0,.int .i64 0,.int .i64 0,.int .i64 0,.string ⟨#[]⟩]),7,64):=aQ
variable {xs:List aF}{cs:Array aF}
theorem Oh {lo E n m sz bytes t ty:Nat}{v:aF}{news:List aF}{z:aF}(zBm:(aK.info? E).map (λi=>(i.zero,i.size,i.bytes))=some (some z,sz,bytes))(hu:aK.underlying t=some (.slice E))(hzs:z.cells.size=sz)(cG:0<sz)
 (h:w.ownsRow lo E sz v n xs)   (hg:w.heap[g]? =some (.cells cs E)) (fV:cs.toList=news) (hl:news.length=m*sz) (hm:0<m) (h1:∀u∈news,u.oneCell'=true) (hn:n+m<=1000000) (hb:bytes<=1000) (dV:lo<=w.heap.size):
 ∃g1 c1 w',(wL #[t,t] ty #[v,.slice (some ⟨g,0,none⟩) m m]).run aK w=.ok (.slice (some ⟨g1,0,none⟩) (n+m) c1) w'/\w'.ownsRow lo E sz (.slice (some ⟨g1,0,none⟩) (n+m) c1) (n+m) (xs++news)/\w.grownBy w' v.ownBlock/\
  ((Q1 (some ⟨g1,0,none⟩) (n+m) c1).ownBlock=v.ownBlock\/∀b,(Q1 (some ⟨g1,0,none⟩) (n+m) c1).ownBlock=some b->w.heap.size<=b):=by
 obtain⟨i0,hi,gX,dZ,jW⟩:=y3 zBm;have zJ7:=Nat.mul_le_mul hn hb;obtain⟨v',w',hr,h2,h3,h4,h5⟩:=run_append_own_at (P:=aK) w lo t ty E i0 z sz bytes hu hi gX dZ jW hzs cG v n xs h ⟨g,0,none⟩ m m news hl (E7 (cs:=cs) hg|>λf=>by rw[<-fV];exact f) h1 Ya aC dV;obtain⟨g1,c1,rfl⟩:=znw h2 (λe=>by have:=(h4.1 e).2;omega);refine⟨g1,c1,w',hr,h2,h3,?_⟩;rcases h5 with h5|h5
 .exact .inl h5
 .refine .inr λb hb=>?_
  rw[h5] at hb;injection hb with hb;omega
theorem zxM (h:bF w lo hb v d)(dV:lo<=w.heap.size)(hg:d.ln[i]? =some g)(hi:i<=100)(hn:d.r.recs.length<=1000)(c:Int):
 fH aK 110 #[.pointer (some ⟨hb,0,none⟩),.int .i64 c,.int .i64 (i:Int)] w λe w'=>e=.returned (.tuple #[])/\∃v',bF w' lo hb v' {d with r:={d.r with recs:=d.r.recs++[⟨c,(i:Int)+1,0,d.r.clk,-1,-1,eO⟩]}}/\bM hb v w v' w'/\
  v'.pC=uV g (.int .i64 c) v.pC/\v'.pO=qS c (.chan (some g)) v.pO/\v'.pM=qS c (.int .i64 (d.r.recs.length:Int)) v.pM/\Cn v v':=by
 obtain⟨A,cL,hA,hs⟩:=Gt h.L aH;have Be:=(jX.1 hg).1;obtain⟨b,off,g',rfl,xE,hv⟩:=zf3 hs Be;rw[hg] at xE;obtain rfl:=cE xE;have Xr:=aJ h.blk 3;have k3:w.cell? ⟨hb,3,none⟩=some (.slice (some ⟨b,off,none⟩) d.ln.length cL):=by rw[Xr,<-hA];rfl
 have k4:=aJ h.blk 4;have i0:(0:Int)<=(i:Int):=aC;have i1:(i:Int)<(d.ln.length:Int):=aC;have HH:=aD h;have HC:=aD h.C;clear hA hs hg Xr h
 go_enter Tryz.func110,Tryz.ntmps110
 go_upto_region 1 with fail
 clear k3 hv
 go_upto_region 2 with(at_mapUpdate;refine zFe _ rfl (.tmp 17) (.tmp 18) (.tmp 19) 66 rfl 3 zp4 Sl v.mC g (.int .i64 c) v.pC rfl rfl rfl HC.o ?_;intro w2 o2 fZ za1;have Rj:=aD fZ;have Rr:=aD za1;clear fZ za1)
 have nM:=Rr.o;rw[Rj.o] at nM;obtain⟨a2,t2⟩:=HH.o.mapC nM;rw[<-Rj.o] at a2 t2;obtain⟨v2,wV⟩:=aU ({v with pC:=uV g (.int .i64 c) v.pC}:fO);rw[<-wV] at a2 t2;have e2:v2.pC=uV g (.int .i64 c) v.pC/\v2.pO=v.pO/\v2.pM=v.pM/\Cn v v2:=by rw[wV];exact⟨rfl,rfl,rfl,Cn.rf v⟩
 have zgN:=eM dV t2.size;clear wV nM Rr Rj HC k4;have k5:=aJ a2.blk 5;have HO:=aD a2.O;have A2:=aD a2;have T2:=aD t2;have E2:=aD e2;clear a2 t2 e2
 go_upto_region 3 with(at_mapUpdate;refine zzn _ rfl (.tmp 23) (.tmp 24) (.tmp 25) 67 rfl 84 Te J8 v2.mO c (.chan (some g)) v2.pO rfl rfl rfl HO.o ?_;intro w3 o3 iT zuM;have Th:=aD iT;have zsi:=aD zuM;clear iT zuM)
 have zkG:=zsi.o;rw[Th.o] at zkG;obtain⟨a3,t3⟩:=A2.o.mapO zkG;rw[<-Th.o] at a3 t3;obtain⟨v3,Lf⟩:=aU ({v2 with pO:=qS c (.chan (some g)) v2.pO}:fO);rw[<-Lf] at a3 t3;have e3:v3.pC=uV g (.int .i64 c) v.pC/\v3.pO=qS c (.chan (some g)) v.pO/\v3.pM=v.pM/\Cn v v3:=by rw[Lf];exact⟨E2.o.1,by show qS _ _ v2.pO=_;rw[E2.o.2.1],E2.o.2.2⟩
 have zs6:=eM zgN t3.size;have zqR:=T2.o.trans t3;clear Lf zkG zsi Th HO k5 A2 T2 E2 t3;obtain⟨AR,cR,zv7,_⟩:=Gt a3.R aH;have zvH:=aJ a3.blk 9;have k9:w3.cell? ⟨hb,9,none⟩=some (.slice AR d.r.recs.length cR):=by rw[zvH,<-zv7];rfl
 have zqV:=aJ a3.blk 10;obtain⟨es,cl,Kv,sD⟩:=zxZ zso J8 a3.drew.M (c:=c) (.int .i64 (d.r.recs.length:Int));obtain⟨a4,t4⟩:=a3.drew.mapM sD;have A4:=aD a4;have T4:=aD (zqR.trans ((bM.refl (v:=v3) (w:=w3)).trans (⟨t4.size,t4.block,t4.moved⟩:bM hb v3 w3 _ _)));have MU:=aD Kv;have E3:=aD e3;clear zv7 zvH sD a3 a4 t4 Kv zqR e3;refine wp_CC3 w3 hb v3.mM d.r.recs.length v3.sR AR cR (.map es cl) c rfl rfl rfl zqV k9 MU.o rfl ?_;rw[Go.Mt.Ac,zvg];simp only[Go.Mt.wN,dW,dS,fCC3,lCC3,C2,Cy];obtain⟨w4,lJ⟩:=aU ({w3.drew with heap:=w3.drew.heap.setIfInBounds v3.mM (.map es cl)}:aE);rw[<-lJ] at A4 T4⊢;have zMO:=eM dV T4.o.size;clear lJ MU k9 zqV;obtain⟨v4,Li⟩:=aU ({v3 with pM:=qS c (.int .i64 (d.r.recs.length:Int)) v3.pM}:fO);rw[<-Li] at A4 T4;have E4:=aD (show v4.pC=uV g (.int .i64 c) v.pC/\v4.pO=qS c (.chan (some g)) v.pO/\v4.pM=qS c (.int .i64 (d.r.recs.length:Int)) v.pM/\Cn v v4 by rw[Li];exact⟨E3.o.1,E3.o.2.1,by show qS _ _ v3.pM=_;rw[E3.o.2.2.1],E3.o.2.2.2⟩);clear Li E3;obtain⟨OB,zcP⟩:=aU (.cells #[.int .i64 c,.int .i64 ((i:Int)+1),.int .i64 0,.int .i64 d.r.clk,.int .i64 (-1),.int .i64 (-1),.string eO] 50:Obj);have a5:=(A4.o.alloc OB).drew;obtain⟨g1,c1,w5,fP,cP,nE,fA⟩:=Oh (t:=45) (ty:=45) zAR Tryz.underlying45 rfl aH a5.R (g:=w4.heap.size) (cs:=#[.int .i64 c,.int .i64 ((i:Int)+1),.int .i64 0,.int .i64 d.r.clk,.int .i64 (-1),.int .i64 (-1),.string eO]) (news:=bS.cells ⟨c,(i:Int)+1,0,d.r.clk,-1,-1,eO⟩) (by rw[zcP];exact lP _ _) rfl (m:=1) rfl aH zlf aC aH qR;obtain⟨a6,t6⟩:=a5.putR nE (n:=d.r.recs.length+1) (xs:=d.r.recs++[⟨c,(i:Int)+1,0,d.r.clk,-1,-1,eO⟩]) (by rw[zIL];exact cP) aP fA;have A6:=aD a6;have T6:=aD (T4.o.trans ((bM.below (dO (eG _ _) OB)).trans (⟨t6.size,t6.block,t6.moved⟩:bM hb v4 (w4.alloc OB) _ _)));have k9:=aJ A4.o.blk 9;have El:=aJ A4.o.blk 11;have xY:=(a5.other (j:=7) (c:=9) (x:=v4.sR) rfl aH nE (.slice (some ⟨g1,0,none⟩) (d.r.recs.length+1) c1)).2.trans a5.blk;have zxb:=aJ xY 9;have kf:=eK xY 9;have AP:=aD fP;clear cP nE fA a6 t6 a5 xY fP;rw[zcP] at AP
 go_wp2_with fail
 refine wp_CC4 w4 w5 hb g1 (d.r.recs.length+1) c1 v4.sR c (i:Int) d.r.clk rfl rfl rfl rfl k9 El aC AP.o zxb kf rfl ?_;rw[Go.Mt.Ac,zwv];simp only[Go.Mt.wN,dW,dS,fCC4,lCC4,C2,Cy];clear k9 El AP zxb kf;exact bodyPost_end (v:=.tuple #[]) (by simp[results,go_sem]<;>rfl) rfl ⟨rfl,_,A6.o,T6.o,E4.o⟩
variable {j:Nat}
theorem bF.recAt (h:bF w lo hb v d)(hR:v.sR=.slice (some ⟨g,0,none⟩) d.r.recs.length cR)(hx:d.r.recs[i]? =some x){u:aF}(hj:j<7)(hu:x.cells[j]? =some u):
 w.cell? ⟨g,i*7+j,none⟩=some u/\w.frozen? ⟨g,i*7+j,none⟩=false:=by
 have hr:=h.R;rw[hR] at hr;refine⟨?_,hr.frozenAt _⟩;have hi:=(jX.1 hx).1;obtain⟨b,off,e,h1,h2,h3,h4⟩:=(y9 hr aH).cells hi;injection e with e;injection e with e1 e2;subst e1 e2;have:=h4 j u (by
  have g:(recs d.r.recs)[i*7+j]? =(d.r.recs[i]?).bind λx=>x.cells[j]? :=H4 bS.cells (s:=7) (λ_=>rfl) d.r.recs i j hj;rw[g,hx];exact hu)
 simpa using this
theorem zm6 (h:bF w lo hb v d){e:ByteArray}{gR:Nat}(hx:d.r.recs[i]? =some x)(hO:kZ c v.pO=some (.chan (some g)))(hC:(pG g v.pC).isSome=true)(hM:kZ c v.pM=some (.int .i64 (i:Int)))
 (hR:v.sR=.slice (some ⟨gR,0,none⟩) d.r.recs.length cR):
 fH aK 116 #[.pointer (some ⟨hb,0,none⟩),.int .i64 c,.string e] w λen w'=>en=.returned (.tuple #[])/\∃v',bF w' lo hb v' {d with r:={d.r with recs:=d.r.recs.modify i λz=>{z with t:=d.r.clk,e:=e}}}/\bM hb v w v' w'/\
  v'.pC=yE g v.pC/\v'.pO=xW c v.pO/\v'.pM=v.pM/\v'.sR=v.sR/\Cn v v':=by
 have k4:w.cell? ⟨hb,4,none⟩=some (.map (some v.mC)):=aJ h.blk 4;have k5:w.cell? ⟨hb,5,none⟩=some (.map (some v.mO)):=aJ h.blk 5;have wX:(zP 67 (.map (some v.mO)) (.int .i64 c) false).run aK w.drew=.ok (.chan (some g)) w.drew:=by
  have:=zar Te J8 (zcm w.drew) (h.drew.O) (c:=c) false;rw[hO] at this;exact this
 obtain⟨o1,uZ,sD⟩:=zH4 (kt:=84) zp4 Sl h.drew.C hC;obtain⟨a1,t1⟩:=h.drew.mapC sD;have A1:=aD a1;have T1:=aD (⟨t1.size,t1.block,t1.moved⟩:bM hb v w _ _);have HX:=aD hx;have HM:=aD hM;have HR:=aD hR;have HO:=aD hO;have DL:=aD uZ;have LK:=aD wX;clear uZ wX sD a1 t1 hx hM hR hO h hC
 go_enter Tryz.func116,Tryz.ntmps116
 go_wp2_with fail
 refine wp_CL0 w hb v.mC v.mO g o1 c rfl rfl rfl k4 k5 LK.o DL.o rfl ?_;rw[Go.Mt.Ac,zuy];simp only[Go.Mt.wN,dW,dS,fCL0,lCL0,C2,Cy];obtain⟨w1,fB⟩:=aU ({w.drew with heap:=w.drew.heap.setIfInBounds v.mC o1}:aE);obtain⟨v1,oV⟩:=aU ({v with pC:=yE g v.pC}:fO);rw[<-fB,<-oV] at A1 T1;rw[<-fB];have E1:=aD (show v1.pC=yE g v.pC/\v1.pO=v.pO/\v1.pM=v.pM/\v1.sR=v.sR/\Cn v v1 by rw[oV];exact⟨rfl,rfl,rfl,rfl,Cn.rf v⟩);clear fB oV k4 k5 DL LK;have k5:w1.cell? ⟨hb,5,none⟩=some (.map (some v1.mO)):=aJ A1.o.blk 5;have Vz:=aD A1.o.O;have zoj:=aD (show(kZ c v1.pO).isSome=true by rw[E1.o.2.1,HO.o];rfl)
 go_upto_region 2 with(refine zzF _ rfl (.tmp 20) (.tmp 21) 67 3 rfl 84 Te J8 v1.mO c v1.pO rfl rfl Vz.o zoj.o ?_;intro w2 o2 fZ za1;have Rj:=aD fZ;have Rr:=aD za1;clear fZ za1)
 have nM:=Rr.o;rw[Rj.o] at nM;obtain⟨a2,t2⟩:=A1.o.mapO nM;rw[<-Rj.o] at a2 t2;obtain⟨v2,wV⟩:=aU ({v1 with pO:=xW c v1.pO}:fO);rw[<-wV] at a2 t2;have A2:=aD a2;have T2:=aD (T1.o.trans t2);have E2:=aD (show v2.pC=yE g v.pC/\v2.pO=xW c v.pO/\v2.pM=v.pM/\v2.sR=v.sR/\Cn v v2 by rw[wV];exact⟨E1.o.1,by show xW c v1.pO=_;rw[E1.o.2.1],E1.o.2.2⟩);clear wV nM Rr Rj Vz zoj a2 t2 k5 A1 T1 E1;have lI:=aD (E2.o.2.2.2.1.trans HR.o);have zzd:=aD (show kZ c v2.pM=some (.int .i64 (i:Int)) by rw[E2.o.2.2.1];exact HM.o)
 go_upto_region 3 with(go_at_call 115;refine(zfd A2.o lI.o HX.o zzd.o).mono ?_;rintro en w3 ⟨rfl,iT⟩;have Th:=aD iT;clear iT)
 have A3:=aD (show bF w3 lo hb v2 d by rw[Th.o];exact A2.o.drew);have T3:=aD (show bM hb v w v2 w3 by rw[Th.o];exact T2.o.same rfl);clear Th A2 T2;have El:w3.cell? ⟨hb,11,none⟩=some (.int .i64 d.r.clk):=aJ A3.o.blk 11;obtain⟨c5,f5⟩:=A3.o.recAt lI.o HX.o (j:=5) (u:=.int .i64 x.t) aH rfl;obtain⟨a4,t4⟩:=A3.o.setR (λz=>{z with t:=d.r.clk}) lI.o HX.o (j:=5) (u:=.int .i64 d.r.clk) aH zqg rfl;have A4:=aD a4;have T4:=aD (T3.o.trans t4);clear a4 t4
 go_upto_region 4 with fail
 obtain⟨w4,lJ⟩:=aU (w3.setCell ⟨gR,i*7+5,none⟩ (.int .i64 d.r.clk));rw[<-lJ] at A4 T4⊢;clear lJ c5 f5 El;have za3:=aD (show(d.r.recs.modify i λz=>{z with t:=d.r.clk})[i]? =some {x with t:=d.r.clk} from Z8 HX.o);have zpu:=aD (show v2.sR=.slice (some ⟨gR,0,none⟩) (d.r.recs.modify i λz=>{z with t:=d.r.clk}).length cR by rw[Gj];exact lI.o);obtain⟨c6,f6⟩:=A4.o.recAt zpu.o za3.o (j:=6) (u:=.string x.e) aH rfl;obtain⟨a5,t5⟩:=A4.o.setR (λz=>{z with e:=e}) zpu.o za3.o (j:=6) (u:=.string e) aH ztg rfl;simp only[zdl] at a5;have A5:=aD a5;have T5:=aD (T4.o.trans t5);clear a5 t5
 go_wp2_with fail
 exact bodyPost_end (v:=.tuple #[]) (results_none rfl _ _ _) rfl ⟨rfl,_,A5.o,T5.o,E2.o.1,E2.o.2.1,E2.o.2.2.1,E2.o.2.2.2.1,E2.o.2.2.2.2⟩
section
variable {P:bR}{w w':aE}
variable {elem t:aM}{i:TypeInfo}{cur:Array aF}
theorem zdo {dT sT ty:aM}{g o zlB zJn:Nat}{a:bL}{zai zGc:Nat}{cs:List aF}(hu:P.underlying dT=some (.slice elem))(hi:P.info? elem=some i)
 (hg:w.heap[g]? =some (.cells cur t (0,0))) (hn:cs.length=Nat.min zai zlB*i.size) (Tk:∀j v,cs[j]? =some v->w.cell? (a.add j)=some v) (Jo:o+cs.length<=cur.size) (h1:∀v∈cs,v.oneCell'=true):
 (C5 #[dT,sT] ty #[.slice (some ⟨g,o,none⟩) zlB zJn,.slice (some a) zai zGc]).run P w=.ok (goInt (Nat.min zai zlB)) (w.setRow g (cur.toList.take o++cs++cur.toList.drop (o+cs.length)).toArray):=by
 have hl:=run_loadCells_list (P:=P) w a cs Tk;have aY:=zrg P g o t cs 0 cur w hg (by simpa using Jo) h1;simp[C5,wQ hu,Builtin.lenOf,Builtin.firstCells,sizeOf,typeInfo,hi,<-hn,hl,aY]
theorem zlD {dT ty:aM}{z:aF}{g o n c:Nat}(hu:P.underlying dT=some (.slice elem))(hi:P.info? elem=some i)(hz:i.zero=some z)
 (hg:w.heap[g]? =some (.cells cur t (0,0))) (hn:n≠0) (Jo:o+(p8 z.cells n).size<=cur.size) (h1:∀v∈(p8 z.cells n).toList,v.oneCell'=true):
 (Uj #[dT] ty #[.slice (some ⟨g,o,none⟩) n c]).run P w=.ok (.tuple #[]) (w.setRow g (cur.toList.take o++(p8 z.cells n).toList++cur.toList.drop (o+(p8 z.cells n).size)).toArray):=by
 have aY:=zrg P g o t (p8 z.cells n).toList 0 cur w hg (by simpa using Jo) h1;simp only[Qx,Dj] at aY
 cases n with
 |zero=>exact absurd rfl hn
 |succ n=>simp[Uj,wQ hu,zeroValue,typeInfo,hi,hz,aY]
variable {o:aZ}{a:Act}{ops:Array aZ}
theorem zdY {K:Act->aE->Prop}{Q:nZ->Act->aE->Prop}{EE:Prop}(Fp:o.guard=none)(s x:cN)(t tn:aM)(ho:o.op=.call {callee:=.builtin .append,args:=#[s,x],argTypes:=#[t,tn]})(vs vx v':aF)(hs:a.eval s=vs)(hx:a.eval x=vx)
 (hr:∀ty,(wL #[t,tn] ty #[vs,vx]).run P w=.ok v' w') (h:K (a.put o.dst v') w'):if dD o (yielded ops a.tmps)=true then B8 P o a w K Q else EE:=by
 rw[if_pos (by simp[dD,Fp])];unfold B8 aS;simp only[ho,resolve,invoke,builtin,Et,Jd,Fa,uW,fL,tM,hs,hx,hr];exact h
theorem zco {rest:List aZ}{Q:nZ->Act->aE->Prop}(Fp:o.guard=none)(s:cN)(t:aM)(ho:o.op=.call {callee:=.builtin .clear,args:=#[s],argTypes:=#[t]})(vs:aF)(hs:a.eval s=vs)
 (hr:∀ty,(Uj #[t] ty #[vs]).run P w=.ok (.tuple #[]) w') (h:wpList P ops Q rest (a.put o.dst (.tuple #[])) w'):wpList P ops Q (o::rest) a w:=by
 refine S9 Fp λK hK=>?_;unfold B8 aS;simp only[ho,resolve,invoke,builtin,Et,Jd,Fa,uW,fL,tM,hs,hr];exact hK _ _ h
end
def U9:(aK.info? 3).map (λi=>(i.zero,i.size,i.bytes))=some (some (.int .i64 0),1,8):=aQ
def zcs:(aK.info? 149).map (λi=>(i.zero,i.size,i.bytes))=some (some (.agg #[.int .i64 0,.int .i64 0]),2,16):=aQ
theorem zbR (cs:Array aF):w.grownBy (w.setRow g cs) (some g):=⟨rfl,rfl,rfl,aP,λk _ hk=>setRow_other w g k _ (λe=>hk (by rw[e]))⟩
variable {w':aE}{r:Option Nat}
def Tm {Dy:aE}(h:w.grownBy w' r)(k:w'.grownBy Dy r):w.grownBy Dy r:=⟨k.os.trans h.os,k.tape.trans h.tape,k.output.trans h.output,eM h.size k.size,λb hb hn=>(k.block b (lE hb h.size) hn).trans (h.block b hb hn)⟩
def zpd :w.grownBy w.drew r:=⟨rfl,rfl,rfl,aV _,λ_ _ _=>rfl⟩
variable {c n:Nat}
theorem zpa (h:w.ownsRow lo 3 1 (.slice (some ⟨g,0,none⟩) n c) n xs)(I5:∀u∈xs,u.oneCell'=true)(aN:i<j)(hj:j<=n):
 fH aK 114 #[.slice (some ⟨g,0,none⟩) n c,.int .i64 (i:Int),.int .i64 (j:Int)] w λe w'=>e=.returned (.slice (some ⟨g,0,none⟩) (n-(j-i)) c)/\w'.ownsRow lo 3 1 (.slice (some ⟨g,0,none⟩) (n-(j-i)) c) (n-(j-i)) (xs.take i++xs.drop j)/\w.grownBy w' (some g):=by
 obtain⟨hlen,h|⟨g',cap,cur,hv,dV,hg,Vl,sD,fV,lN⟩⟩:=h
 .exact absurd h.1 aP
 injection hv with e1 e2 e3;injection e1 with e1;injection e1 with e1;subst e1 e3;clear e2;obtain⟨i0,eY,gX,dZ,jW⟩:=y3 U9;have mG:cur.toList.length=c*1:=by simpa using fV
 have uZ:(xs.drop (j*1)).length=(n-j)*1:=by rw[xS,hlen];omega
 obtain⟨A,hA,Tk⟩:∃A:bL,(if c=j then(some (⟨g,0,none⟩:bL)) else some ⟨g,j*1,none⟩)=some A/\(∀t u,(xs.drop (j*1))[t]? =some u->w.drew.cell? (A.add t)=some u):=by
  have cell:∀k u,xs[k]? =some u->w.drew.cell? ⟨g,k,none⟩=some u:=λk u hk=>by
   have:w.cell? ⟨g,k,none⟩=cur[k]? :=aJ hg k;have vI:cur.toList[k]? =some u:=by
    rw[<-lN,Xl] at hk;split at hk
    .exact hk
    .cases hk
   rw[Ai] at vI;exact this.trans vI
  by_cases hc:c=j
  .refine⟨⟨g,0,none⟩,by simp[hc],λt u hu=>?_⟩
   have h0:(xs.drop (j*1)).length=0:=by rw[uZ];omega
   rw[zp3.1 h0] at hu;simp at hu
  .refine⟨⟨g,j*1,none⟩,by simp[hc],λt u hu=>?_⟩
   rw[Vo] at hu;rw[Ly];exact cell _ u hu
 have J3:=λty=>zwT (P:=aK) w.drew 38 ty 3 i0 Xq eY g i c cur hg A (n-j) (c-j) (xs.drop (j*1)) (by rw[dZ];exact uZ) Tk (λu hu=>I5 u (zcl hu)) aC (by rw[dZ,uZ,fV];omega);obtain⟨xX,qN⟩:=aU ((cur.toList.take (i*i0.size)++xs.drop (j*1)++cur.toList.drop (i*i0.size+(xs.drop (j*1)).length)).toArray);rw[<-qN] at J3;obtain⟨W1,dE⟩:=aU (w.drew.setRow g xX);rw[<-dE] at J3;have rG:W1.heap[g]? =some (.cells xX 3 (0,0)):=by rw[dE];exact Ki w.drew g cur xX 3 (0,0) hg
 have vZ:xX.size=c*1:=by
  rw[qN];simp only[Ej,gM,rU,xS,mG,uZ,hlen,dZ];have:(i+(n-j))*1<=c*1:=Aa _ aC;omega
 have hzs:(p8 (.int .i64 0:aF).cells (n-(i+(n-j)))).size=(n-(i+(n-j)))*1:=Zk _ _;have O7:=λty=>zlD (P:=aK) (w:=W1) (dT:=38) (ty:=ty) (c:=c-(i+(n-j))) (n:=n-(i+(n-j))) (o:=(i+(n-j))*1) Xq eY gX rG aC (by rw[hzs,vZ];omega) (λu hu=>by
  obtain⟨k,hk,rfl⟩:=L9.1 hu;simp only[p8,Ux,zm8,znK,zkF];simp[Nat.mod_one];rfl)
 obtain⟨yL,nM⟩:=aU ((xX.toList.take ((i+(n-j))*1)++(p8 (.int .i64 0:aF).cells (n-(i+(n-j)))).toList++xX.toList.drop ((i+(n-j))*1+(p8 (.int .i64 0:aF).cells (n-(i+(n-j)))).size)).toArray);rw[<-nM] at O7
 try simp only[zuh] at J3 O7
 have H1:=aD J3;have H2:=aD O7;have HG:=aD (show w.grownBy (W1.setRow g yL) (some g) from Tm (Tm zpd (dE▸zbR xX)) (zbR yL));have HO:=aD (show(W1.setRow g yL).ownsRow lo 3 1 (.slice (some ⟨g,0,none⟩) (n-(j-i)) c) (n-(j-i)) (xs.take (i*1)++xs.drop (j*1)) by
  have Cq:n-(j-i)=i+(n-j):=aC;have Av:yL.size=c*1:=by
   rw[nM];simp only[Ej,gM,rU,xS,Dj,vZ,hzs];have:(i+(n-j))*1+(n-(i+(n-j)))*1=n*1:=by rw[<-Zn];congr 1;omega
   have:n*1<=c*1:=Aa _ Vl;omega
  refine⟨by rw[gM,rU,uZ,hlen];have:=Zn i (n-j) 1;have:i*1<=n*1:=Aa _ aC;rw[Cq];omega,.inr ⟨g,c,yL,rfl,dV,Ki W1 g xX yL 3 (0,0) rG,aC,sD,Av,?_⟩⟩;have e1:cur.toList.take (i*1)=xs.take (i*1):=by
   rw[<-lN,O2];congr 1;have:i*1<=n*1:=Aa _ aC;omega
  have l1:(xs.take (i*1)).length=i*1:=by
   rw[rU,hlen];have:i*1<=n*1:=Aa _ aC;omega
  rw[nM,show∀l:List aF,l.toArray.toList=l from λ_=>rfl,Cq];have l2:(xX.toList.take ((i+(n-j))*1)).length=(i+(n-j))*1:=by
   rw[rU,Dj,vZ];have:(i+(n-j))*1<=c*1:=Aa _ aC;omega
  rw[Jn,Es (by rw[l2];exact aV _),O2,ziU,qN,show∀l:List aF,l.toArray.toList=l from λ_=>rfl,dZ,e1];rw[Es zxk];exact zZ zxk)
 replace HO:=aD (by have:=HO.o;simpa only[zuh] using this);have yO:i<=c:=aC;have N7:j<=c:=aC;have aT:¬((i:Int)=(j:Int)):=aC;clear J3 O7 qN nM rG vZ hzs dE lN fV sD hg dV hlen uZ mG I5 Tk;by_cases zg6:c=j
 .subst zg6
  have pD:n-c=0:=aC;have zG:=H1.o;have Px:=H2.o;simp only[pD,Qx] at zG Px;replace H1:=aD zG;replace H2:=aD Px;clear zG Px
  go_enter zpt,zxI
  go_wp2_with fail
  go_region_law (refine zdY rfl (.tmp 22) (.tmp 25) 38 38 rfl _ _ _ zfJ zeu H1.o ?_)
  go_wp2_with (refine zco rfl (.tmp 31) 38 rfl _ rfl H2.o ?_)
  all_goals
   go_ret;exact⟨by rw[show n-(c-i)=i by omega];rfl,HO.o,HG.o⟩
 .skip
  go_enter zpt,zxI
  go_wp2_with fail
  go_region_law (refine zdY rfl (.tmp 22) (.tmp 25) 38 38 rfl _ _ _ zfJ zeu H1.o ?_)
  go_wp2_with (refine zco rfl (.tmp 31) 38 rfl _ rfl H2.o ?_)
  all_goals
   go_ret;exact⟨by rw[show n-(j-i)=i+(n-j) by omega];rfl,HO.o,HG.o⟩
theorem zIp (h:w.ownsRow lo 149 2 (.slice (some ⟨g,0,none⟩) n c) n xs)(I5:∀u∈xs,u.oneCell'=true)(aN:i<j)(hj:j<=n):
 fH aK 119 #[.slice (some ⟨g,0,none⟩) n c,.int .i64 (i:Int),.int .i64 (j:Int)] w λe w'=>e=.returned (.slice (some ⟨g,0,none⟩) (n-(j-i)) c)/\w'.ownsRow lo 149 2 (.slice (some ⟨g,0,none⟩) (n-(j-i)) c) (n-(j-i)) (xs.take (i*2)++xs.drop (j*2))/\w.grownBy w' (some g):=by
 obtain⟨hlen,h|⟨g',cap,cur,hv,dV,hg,Vl,sD,fV,lN⟩⟩:=h
 .exact absurd h.1 aP
 injection hv with e1 e2 e3;injection e1 with e1;injection e1 with e1;subst e1 e3;clear e2;obtain⟨i0,eY,gX,dZ,jW⟩:=y3 zcs;have mG:cur.toList.length=c*2:=by simpa using fV
 have uZ:(xs.drop (j*2)).length=(n-j)*2:=by rw[xS,hlen];omega
 obtain⟨A,hA,Tk⟩:∃A:bL,(if c=j then(some (⟨g,0,none⟩:bL)) else some ⟨g,j*2,none⟩)=some A/\(∀t u,(xs.drop (j*2))[t]? =some u->w.drew.cell? (A.add t)=some u):=by
  have cell:∀k u,xs[k]? =some u->w.drew.cell? ⟨g,k,none⟩=some u:=λk u hk=>by
   have:w.cell? ⟨g,k,none⟩=cur[k]? :=aJ hg k;have vI:cur.toList[k]? =some u:=by
    rw[<-lN,Xl] at hk;split at hk
    .exact hk
    .cases hk
   rw[Ai] at vI;exact this.trans vI
  by_cases hc:c=j
  .refine⟨⟨g,0,none⟩,by simp[hc],λt u hu=>?_⟩
   have h0:(xs.drop (j*2)).length=0:=by rw[uZ];omega
   rw[zp3.1 h0] at hu;simp at hu
  .refine⟨⟨g,j*2,none⟩,by simp[hc],λt u hu=>?_⟩
   rw[Vo] at hu;rw[Ly];exact cell _ u hu
 have J3:=λty=>zwT (P:=aK) w.drew 69 ty 149 i0 zhI eY g i c cur hg A (n-j) (c-j) (xs.drop (j*2)) (by rw[dZ];exact uZ) Tk (λu hu=>I5 u (zcl hu)) aC (by rw[dZ,uZ,fV];omega);obtain⟨xX,qN⟩:=aU ((cur.toList.take (i*i0.size)++xs.drop (j*2)++cur.toList.drop (i*i0.size+(xs.drop (j*2)).length)).toArray);rw[<-qN] at J3;obtain⟨W1,dE⟩:=aU (w.drew.setRow g xX);rw[<-dE] at J3;have rG:W1.heap[g]? =some (.cells xX 149 (0,0)):=by rw[dE];exact Ki w.drew g cur xX 149 (0,0) hg
 have vZ:xX.size=c*2:=by
  rw[qN];simp only[Ej,gM,rU,xS,mG,uZ,hlen,dZ];have:(i+(n-j))*2<=c*2:=Aa _ aC;omega
 have hzs:(p8 (.agg #[.int .i64 0,.int .i64 0]:aF).cells (n-(i+(n-j)))).size=(n-(i+(n-j)))*2:=Zk _ _;have O7:=λty=>zlD (P:=aK) (w:=W1) (dT:=69) (ty:=ty) (c:=c-(i+(n-j))) (n:=n-(i+(n-j))) (o:=(i+(n-j))*2) zhI eY gX rG aC (by rw[hzs,vZ];omega) (λu hu=>by
  obtain⟨k,hk,rfl⟩:=L9.1 hu;simp only[p8,Ux,zm8,znK,zkF];rcases zs2 k with hk|hk<;>simp[hk]<;>rfl)
 obtain⟨yL,nM⟩:=aU ((xX.toList.take ((i+(n-j))*2)++(p8 (.agg #[.int .i64 0,.int .i64 0]:aF).cells (n-(i+(n-j)))).toList++xX.toList.drop ((i+(n-j))*2+(p8 (.agg #[.int .i64 0,.int .i64 0]:aF).cells (n-(i+(n-j)))).size)).toArray);rw[<-nM] at O7;have H1:=aD J3;have H2:=aD O7;have HG:=aD (show w.grownBy (W1.setRow g yL) (some g) from Tm (Tm zpd (dE▸zbR xX)) (zbR yL));have HO:=aD (show(W1.setRow g yL).ownsRow lo 149 2 (.slice (some ⟨g,0,none⟩) (n-(j-i)) c) (n-(j-i)) (xs.take (i*2)++xs.drop (j*2)) by
  have Cq:n-(j-i)=i+(n-j):=aC;have Av:yL.size=c*2:=by
   rw[nM];simp only[Ej,gM,rU,xS,Dj,vZ,hzs];have:(i+(n-j))*2+(n-(i+(n-j)))*2=n*2:=by rw[<-Zn];congr 1;omega
   have:n*2<=c*2:=Aa _ Vl;omega
  refine⟨by rw[gM,rU,uZ,hlen];have:=Zn i (n-j) 2;have:i*2<=n*2:=Aa _ aC;rw[Cq];omega,.inr ⟨g,c,yL,rfl,dV,Ki W1 g xX yL 149 (0,0) rG,aC,sD,Av,?_⟩⟩;have e1:cur.toList.take (i*2)=xs.take (i*2):=by
   rw[<-lN,O2];congr 1;have:i*2<=n*2:=Aa _ aC;omega
  have l1:(xs.take (i*2)).length=i*2:=by
   rw[rU,hlen];have:i*2<=n*2:=Aa _ aC;omega
  rw[nM,show∀l:List aF,l.toArray.toList=l from λ_=>rfl,Cq];have l2:(xX.toList.take ((i+(n-j))*2)).length=(i+(n-j))*2:=by
   rw[rU,Dj,vZ];have:(i+(n-j))*2<=c*2:=Aa _ aC;omega
  rw[Jn,Es (by rw[l2];exact aV _),O2,ziU,qN,show∀l:List aF,l.toArray.toList=l from λ_=>rfl,dZ,e1];rw[Es zqm];exact zZ zqm)
 have yO:i<=c:=aC;have N7:j<=c:=aC;have aT:¬((i:Int)=(j:Int)):=aC;clear J3 O7 qN nM rG vZ hzs dE lN fV sD hg dV hlen uZ mG I5 Tk;by_cases zg6:c=j
 .subst zg6
  have pD:n-c=0:=aC;have zG:=H1.o;have Px:=H2.o;simp only[pD,Qx] at zG Px;replace H1:=aD zG;replace H2:=aD Px;clear zG Px
  go_enter zoN,ztL
  go_wp2_with fail
  go_region_law (refine zdY rfl (.tmp 22) (.tmp 25) 69 69 rfl _ _ _ zfJ zeu H1.o ?_)
  go_wp2_with (refine zco rfl (.tmp 31) 69 rfl _ rfl H2.o ?_)
  all_goals
   go_ret;exact⟨by rw[show n-(c-i)=i by omega];rfl,HO.o,HG.o⟩
 .skip
  go_enter zoN,ztL
  go_wp2_with fail
  go_region_law (refine zdY rfl (.tmp 22) (.tmp 25) 69 69 rfl _ _ _ zfJ zeu H1.o ?_)
  go_wp2_with (refine zco rfl (.tmp 31) 69 rfl _ rfl H2.o ?_)
  all_goals
   go_ret;exact⟨by rw[show n-(j-i)=i+(n-j) by omega];rfl,HO.o,HG.o⟩
theorem zw8 (lo hi n c:Nat)(A:Option bL)(xs:List Int)(q:Int)(w:aE)(h:b7 w lo hi 1 A n c (eH xs))(hn:n<=1048576):
 fH aK 113 #[.slice A n c,.int .i64 q] w λe w'=>e=.returned (.int .i64 (G5 (xs.findIdx? (·==q))))/\w'=w:=by
 have hl:=aD h.length
 go_enter Tryz.func113,Tryz.ntmps113
 go_wp2
 go_loop [8] (λi=>∃k:Nat,k<=n/\i=.int .i64 k/\∀j,j<k->∀b,xs[j]? =some b->(b==q)=false) (λi=>n-(intOf i).toNat)
 case atStart=>exact⟨0,jO _,rfl,λj hj=>absurd hj aC⟩
 case round=>
  obtain⟨k,hk,rfl,fV⟩:=hrel;have HC:=aD fV;by_cases aN:k<n
  .obtain⟨b,off,x,hA,_,_,_,eE,hv⟩:=h.cellAt aN
   subst hA;have HX:=aD eE;have i0:(0:Int)<=(k:Int):=aC;have i1:(k:Int)<(n:Int):=aC;by_cases hq:q=x
   .subst hq
    go_wp2;go_ret;exact⟨Ba (by rw[Z6 HX.o aP HC.o];rfl),rfl⟩
   .have Qo:(q==x)=false:=by simpa using hq
    go_wp2
    go_round
    case rel=>exact⟨k+1,aC,nC,Sp HC.o HX.o (by simpa using Ne.symm hq)⟩
    case measure=>simp[intOf];omega
  .have e:k=n:=aC
   subst e;go_wp2;go_ret;exact⟨Ba (by rw[zhQ HC.o zck];rfl),rfl⟩
theorem posI_ge (o:Option Nat):decide (0<=G5 o)=o.isSome:=by
 cases o with
 |none=>rfl
 |some i=>simp[G5]
theorem zCk (lo hi n c:Nat)(A:Option bL)(xs:List Int)(q:Int)(w:aE)(h:b7 w lo hi 1 A n c (eH xs))(hn:n<=1048576):
 fH aK 108 #[.slice A n c,.int .i64 q] w λe w'=>e=.returned (.bool (xs.findIdx? (·==q)).isSome)/\w'=w:=by
 have HS:=aD h;clear h
 go_enter Tryz.func108,Tryz.ntmps108
 go_wp2_with (go_at_call 113;refine(zw8 lo hi n c A xs q w HS.o hn).mono ?_;rintro e w' ⟨rfl,hw⟩;obtain rfl:=hw)
 go_ret;exact⟨En (posI_ge _),rfl⟩
theorem zeH (x:bE)(gx:Nat)(c:Int)(w:aE)(h:w.heap[gx]? =some (.cells #[.int .i64 c] 3)):
 fH aK 118 #[.agg #[.int .i64 x.c,.int .i64 x.p],.pointer (some ⟨gx,0,none⟩)] w λe w'=>e=.returned (.bool (x.c==c))/\bU w.heap.size w w':=by
 have aN:=gA h;have k:=aD (dH h (.cells #[.int .i64 x.c,.int .i64 x.p] 149));have k0:=aJ k.o 0
 go_enter Tryz.func118,Tryz.ntmps118
 go_wp2;go_ret;exact⟨rfl,(eG _ _).alloc (aV _) _⟩
variable {xs:List bE}{hi:Nat}{A:Option bL}
theorem zei (h:b7 w lo hi 2 A n c (bG xs)){k:Nat}(hk:k<n):∃b off x,A=some ⟨b,off,none⟩/\b<w.heap.size/\xs[k]? =some x/\w.cell? ⟨b,off+k*2,none⟩=some (.int .i64 x.c)/\w.cell? ⟨b,off+k*2+1,none⟩=some (.int .i64 x.p):=by
 obtain⟨b,off,x,e,_,_,h3,h4,h5,h6⟩:=h.callsAt hk;exact⟨b,off,x,e,h3,h4,h5,h6⟩
theorem zr7 (lo hi n c:Nat)(A:Option bL)(xs:List bE)(gx:Nat)(q:Int)(w:aE)(h:b7 w lo hi 2 A n c (bG xs))(hn:n<=1048576)(hg:w.heap[gx]? =some (.cells #[.int .i64 q] 3)):
 fH aK 124 #[.slice A n c,.func (.func 118) #[] #[.pointer (some ⟨gx,0,none⟩)]] w λe w'=>e=.returned (.int .i64 (G5 (vP xs q)))/\bU w.heap.size w w':=by
 have hl:=aD h.callsLen;have HS:=aD h;have HG:=aD hg
 go_enter Tryz.func124,Tryz.ntmps124
 go_wp2
 go_loopw [8] (λi wr=>∃k:Nat,k<=n/\i=.int .i64 k/\bU w.heap.size w wr/\∀j,j<k->∀b,xs[j]? =some b->(b.c==q)=false) (λi _=>n-(intOf i).toNat)
 case atStart=>exact⟨0,jO _,rfl,eG _ _,λj hj=>absurd hj aC⟩
 case round=>
  obtain⟨k,hk,rfl,hb,fV⟩:=hrel;have HC:=aD fV;have HB:=aD hb;by_cases aN:k<n
  .obtain⟨b,off,x,hA,mX,eE,fI,oV⟩:=zei (HS.o.below HB.o) aN
   have uF:=aD ((HB.o.block gx (gA HG.o)).trans HG.o);have HX:=aD eE;have HA:=aD hA;subst hA;have i0:(0:Int)<=(k:Int):=aC;have i1:(k:Int)<(n:Int):=aC;cases hq:(x.c==q)
   .go_wp2_with (go_at_call 118;refine(zeH x gx q _ uF.o).mono ?_;rintro e w2 ⟨rfl,qW⟩;rw[hq];have rN:=aD qW)
    go_round
    case rel=>exact⟨k+1,aC,nC,X5 HB.o rN.o,Sp HC.o HX.o hq⟩
    case measure=>simp[intOf];omega
   .go_wp2_with (go_at_call 118;refine(zeH x gx q _ uF.o).mono ?_;rintro e w2 ⟨rfl,qW⟩;rw[hq];have rN:=aD qW)
    go_ret;exact⟨Ba (by unfold vP;rw[Z6 HX.o hq HC.o];rfl),X5 HB.o rN.o⟩
  .have e:k=n:=aC
   subst e;go_wp2;go_ret;exact⟨Ba zvS,HB.o⟩
variable {x:bE}
theorem zA2 (hi:i<xs.length):((bG xs).set (i*2) (.int .i64 x.c)).set (i*2+1) (.int .i64 x.p)=bG (xs.set i x):=by
 apply Ra;intro q;obtain⟨a,b,rfl,hb⟩:∃a b,q=a*2+b/\b<2:=⟨q/2,q%2,aC,aC⟩;have g:∀(l:List bE),(bG l)[a*2+b]? =(l[a]?).bind λx=>x.cells[b]? :=λl=>H4 bE.cells (s:=2) (λ_=>rfl) l a b hb;have hlen:(bG xs).length=xs.length*2:=Fe bE.cells (s:=2) (λ_=>rfl) xs;rw[zau,zau,zjP,g,g,zau];by_cases e:i=a
 .subst e
  have bZ:b=0\/b=1:=aC;rcases bZ with rfl|rfl
  .rw[if_neg aC,if_pos aC,if_pos aC,if_pos rfl,if_pos hi];rfl
  .rw[if_pos rfl,if_pos aC,if_pos rfl,if_pos hi];rfl
 .rw[if_neg aC,if_neg aC,if_neg e]
variable {ys:List bE}{a:Nat}
theorem arr_set {rest:List aF}(ha:a<ys.length):((bG ys++rest).toArray.setIfInBounds (a*2) (.int .i64 x.c)).setIfInBounds (a*2+1) (.int .i64 x.p)=(bG (ys.set a x)++rest).toArray:=by
 have mG:(bG ys).length=ys.length*2:=Fe bE.cells (s:=2) (λ_=>rfl) ys;rw[gI,gI,zsk _ _ aC,zsk _ _ (by rw[zjP];omega),zA2 ha]
theorem zIw {q:bE->Bool}{b:Nat}(hlen:ys.length=xs.length)(qJ:a<=b)(h1:ys.take a=(xs.take b).filter q)(h2:ys.drop b=xs.drop b)(hx:xs[b]? =some x):
 (q x=false->ys.take a=(xs.take (b+1)).filter q/\ys.drop (b+1)=xs.drop (b+1))/\
 (q x=true->(ys.set a x).take (a+1)=(xs.take (b+1)).filter q/\(ys.set a x).drop (b+1)=xs.drop (b+1)):=by
 have hb:=(jX.1 hx).1;have ht:xs.take (b+1)=xs.take b++[x]:=by rw[N3,hx];rfl
 have hd:ys.drop (b+1)=xs.drop (b+1):=by
  rw[<-zqE,<-zqE,h2]
 refine⟨λhq=>⟨by rw[ht,Qk,<-h1];simp[hq],hd⟩,λhq=>⟨?_,?_⟩⟩
 .rw[ht,Qk,<-h1,N3]
  have e1:(ys.set a x).take a=ys.take a:=by rw[List.take_set_of_le (aV _)]
  rw[e1,List.getElem?_set_self aC];simp[hq]
 .rw[List.drop_set,if_pos aC];exact hd
theorem zJL (h:w.ownsRow lo 149 2 (.slice (some ⟨g,0,none⟩) n c) n (bG xs))(hn:n<=1048576){gx:Nat}{q:Int}(uF:w.heap[gx]? =some (.cells #[.int .i64 q] 3)):
 fH aK 117 #[.slice (some ⟨g,0,none⟩) n c,.func (.func 118) #[] #[.pointer (some ⟨gx,0,none⟩)]] w λe w'=>∃m,e=.returned (.slice (some ⟨g,0,none⟩) m c)/\m=(dY xs q).length/\w'.ownsRow lo 149 2 (.slice (some ⟨g,0,none⟩) m c) m (bG (dY xs q))/\w.grownBy w' (some g):=by
 have aT:gx≠g:=λe=>by
  subst e;obtain⟨_,h|⟨g',cap,cur,hv,dV,hg,_⟩⟩:=h
  .exact absurd h.1 aP
  .injection hv with e1
   injection e1 with e1;injection e1 with e1;subst e1;rw[uF] at hg;injection hg with hg;injection hg with _ hg;exact absurd hg aH
 have hs:=y9 h aH;have ziB:=hs.callsLen;have HI:=aD (zr7 lo w.heap.size n c (some ⟨g,0,none⟩) xs gx q w hs hn uF);obtain⟨hlen,h|⟨g',cap,cur,hv,dV,hg,Vl,sD,fV,lN⟩⟩:=h
 .exact absurd h.1 aP
 injection hv with e1 e2 e3;injection e1 with e1;injection e1 with e1;subst e1 e3;clear e2;obtain⟨rest,Q6⟩:=aU (cur.toList.drop (n*2));have Sq:cur=(bG xs++rest).toArray:=by rw[Q6,<-lN,zrT]
 have Nl:rest.length=c*2-n*2:=by rw[Q6,xS];simp[fV]
 have Xe:=aD uF;have HG:=aD (show w.heap[g]? =some (.cells (bG xs++rest).toArray 149 (0,0)) by rw[hg,Sq])
 cases hf:vP xs q with
 |none=>
  have hw:dY xs q=xs:=by
   unfold dY;rw[zfl];intro x hx;have:=zuA (by rw[hf];rfl) x hx;simpa using this
  have HO:=aD (show w.ownsRow lo 149 2 (.slice (some ⟨g,0,none⟩) n c) n (bG xs) from⟨hlen,.inr ⟨g,c,cur,rfl,dV,hg,Vl,sD,fV,lN⟩⟩);rw[hw];rw[hf] at HI;clear Sq Q6 lN hg fV hlen uF hs
  go_enter zw6,zqN
  go_wp2_with (go_at_call 124;refine HI.o.mono ?_;rintro e w1 ⟨rfl,uN⟩;simp only[G5];have pU:=aD uN;clear uN)
  go_ret;exact⟨n,rfl,by first|rfl|exact ziB.symm,zu3 HO.o pU.o,⟨pU.o.os,pU.o.tape,pU.o.output,pU.o.size,λb hb _=>pU.o.block b hb⟩⟩
 |some p=>
  obtain⟨xp,Oc,yQ,zuS⟩:∃x,xs[p]? =some x/\x.c=q/\∀j,j<p->∀y,xs[j]? =some y->y.c≠q:=by
   unfold vP at hf;obtain⟨h1,h2,h3⟩:=List.findIdx?_eq_some_iff_getElem.1 hf;refine⟨xs[p],lV h1,by simpa using h2,λj hj y hy=>?_⟩;have:=h3 j hj;obtain⟨k1,k2⟩:=jX.1 hy;rw[k2] at this;simpa using this
  have l6:=(jX.1 Oc).1;have zoD:xs.take p=(xs.take (p+1)).filter (λx=>x.c !=q):=by
   have ht:xs.take (p+1)=xs.take p++[xp]:=by rw[N3,Oc];rfl
   have h1:(xs.take p).filter (λx=>x.c !=q)=xs.take p:=by
    rw[zfl];intro y hy;obtain⟨j,hj⟩:=Gq.1 hy;rw[Xl] at hj;split at hj
    .next aN=>simpa using zuS j aN y hj
    .cases hj
   rw[ht,Qk,h1];simp[yQ]
  rw[hf] at HI;have Df:=aD zoD;have zmP:p<n:=aC;obtain⟨i0,eY,gX,dZ,jW⟩:=y3 zcs;have zAx:=aD eY;clear Sq Q6 lN hg fV hlen uF hs zoD Oc yQ zuS eY
  go_enter zw6,zqN
  go_wp2_with (go_at_call 124;refine HI.o.mono ?_;rintro e w1 ⟨rfl,uN⟩;simp only[G5];have pU:=aD uN;clear uN)
  go_loopw [5,6] (λi j wr=>∃(a b:Nat) (ys:List bE),i=.int .i64 (a:Int)/\j=.int .i64 (b:Int)/\a<b/\b<=n/\ys.length=n/\ys.take a=(xs.take b).filter (λx=>x.c !=q)/\ys.drop b=xs.drop b/\wr.heap[g]? =some (.cells (bG ys++rest).toArray 149 (0,0))/\w.grownBy wr (some g)) (λ_ j _=>n-(intOf j).toNat)
  case atStart=>
   refine⟨p,p+1,xs,rfl,nC,aC,aC,ziB,Df.o,rfl,(pU.o.block g (gA HG.o)).trans HG.o,⟨pU.o.os,pU.o.tape,pU.o.output,pU.o.size,λb hb _=>pU.o.block b hb⟩⟩
  case round=>
   obtain⟨a,b,ys,rfl,rfl,qJ,zKs,Zc,h1,h2,rG,nE⟩:=hrel;have sS:=aD rG;have za9:=aD nE;have zAd:=gA rG;clear rG nE;by_cases aN:b<n
   .obtain⟨x,hx⟩:∃x,xs[b]? =some x:=⟨xs[b]' aC,lV aC⟩
    have zHp:ys[b]? =some x:=by
     have:=congrArg (λl=>l[0]?) h2;simpa[Vo,hx] using this
    obtain⟨d1,d2⟩:=zIw (q:=λx=>x.c !=q) aC aC h1 h2 hx;have zmr:∀(k:Nat) (y:bE),ys[k]? =some y->wr.cell? ⟨g,k*2,none⟩=some (.int .i64 y.c)/\wr.cell? ⟨g,k*2+1,none⟩=some (.int .i64 y.p):=λk y hy=>by
     have hk:=(jX.1 hy).1;have mG:(bG ys).length=ys.length*2:=Fe bE.cells (s:=2) (λ_=>rfl) ys;have gg:∀b',b'<2->wr.cell? ⟨g,k*2+b',none⟩=y.cells[b']? :=λb' bZ=>by
      rw[aJ sS.o];rw[List.getElem?_toArray,zI aC];have:=H4 bE.cells (s:=2) (λ_=>rfl) ys k b' bZ;unfold bG;rw[this,hy];rfl
     exact⟨gg 0 aH,gg 1 aH⟩
    obtain⟨c0,c1⟩:=zmr b x zHp;have i0:(0:Int)<=(b:Int):=aC;have i1:(b:Int)<(n:Int):=aC;have D1:=aD d1;have D2:=aD d2;have GC:=aD zmr;clear d1 d2 zmr;have zwG:=aD ((za9.o.block gx (gA Xe.o) (by simp;exact aT)).trans Xe.o);obtain⟨ya,zCr⟩:∃y,ys[a]? =some y:=⟨ys[a]' aC,lV aC⟩;have zwZ:=aD zCr;have a0:(0:Int)<=(a:Int):=aC;have a1:(a:Int)<(n:Int):=aC;have zcL:g≠wr.heap.size:=aC;cases hq:(x.c==q)
    .go_wp2_with (go_at_call 118;refine(zeH x gx q _ (dH zwG.o _)).mono ?_;rintro e w2 ⟨rfl,qW⟩;rw[hq];have KG:=aD (eI qW (dH sS.o _)).1;have kz:=(eI qW (lP _ _)).1;have z0:=aJ kz 0;have z1:=aJ kz 1;have e0:=(Cw (a:=⟨g,a*2,none⟩) (KG.o.trans sS.o.symm)).trans (GC.o a ya zwZ.o).1;have e1:=(Cw (a:=⟨g,a*2+1,none⟩) (KG.o.trans sS.o.symm)).trans (GC.o a ya zwZ.o).2;have ff:=eK KG.o;have rN:=aD qW;clear qW kz)
     go_round
     case rel=>
      obtain⟨f1,f2⟩:=D2.o (by simpa using hq);refine⟨a+1,b+1,ys.set a x,nC,nC,aC,aC,by rw[zjP];exact Zc,f1,f2,?_,?_⟩
      .rw[nQ (nQ KG.o _),arr_set aC]
      .have hB:=rN.o
       refine Tm za9.o ⟨hB.os,hB.tape,hB.output,?_,λk hk hn=>?_⟩
       .simp only[sU];have:=hB.size;simp at this;omega
       .have zpB:k≠g:=λe=>hn (by rw[e])
        exact(eJ _ _ _ k zpB).trans ((eJ _ _ _ k zpB).trans ((hB.block k qR).trans (rA _ _ k hk)))
     case measure=>simp[intOf];omega
    .go_wp2_with (go_at_call 118;refine(zeH x gx q _ (dH zwG.o _)).mono ?_;rintro e w2 ⟨rfl,qW⟩;rw[hq];have KG:=aD (eI qW (dH sS.o _)).1;have rN:=aD qW;clear qW)
     go_round
     case rel=>
      obtain⟨f1,f2⟩:=D1.o (by simpa using hq);have hB:=rN.o;exact⟨a,b+1,ys,rfl,nC,aC,aC,Zc,f1,f2,KG.o,Tm za9.o ⟨hB.os,hB.tape,hB.output,by have:=hB.size;simp at this;omega,λk hk hn=>(hB.block k qR).trans (rA _ _ k hk)⟩⟩
     case measure=>simp[intOf];omega
   .have e:b=n:=aC
    subst e;have zf4:(dY xs q).length=a:=by
     have sX:xs.take b=xs:=zZ aC;rw[sX] at h1;unfold dY;rw[<-h1,rU];omega
    have Mj:ys.take a=dY xs q:=by
     have sX:xs.take b=xs:=zZ aC;rw[sX] at h1;exact h1
    have mG:(bG ys).length=ys.length*2:=Fe bE.cells (s:=2) (λ_=>rfl) ys;have hzs:(p8 (zkQ #[.int .i64 0,.int .i64 0]).cells (b-a)).size=(b-a)*2:=Zk _ _;have cH:=λty=>zlD (P:=aK) (w:=wr) (dT:=69) (ty:=ty) (c:=c-a) (n:=b-a) (o:=a*2) zhI zAx.o gX sS.o aC (by rw[hzs];simp[mG,Nl];omega) (λu hu=>by
     obtain⟨k,hk,rfl⟩:=L9.1 hu;simp only[p8,Ux,zm8,znK,zkF];rcases zs2 k with hk|hk<;>simp[hk]<;>rfl)
    obtain⟨yL,nM⟩:=aU (((bG ys++rest).toArray.toList.take (a*2)++(p8 (zkQ #[.int .i64 0,.int .i64 0]).cells (b-a)).toList++(bG ys++rest).toArray.toList.drop (a*2+(p8 (zkQ #[.int .i64 0,.int .i64 0]).cells (b-a)).size)).toArray);rw[<-nM] at cH;have HR:=aD cH;have HO:=aD (show(wr.setRow g yL).ownsRow lo 149 2 (.slice (some ⟨g,0,none⟩) a c) a (bG (dY xs q)) by
     refine⟨by have:=Fe bE.cells (s:=2) (λ_=>rfl) (dY xs q);unfold bG;omega,.inr ⟨g,c,yL,rfl,dV,Ki wr g _ yL 149 (0,0) sS.o,aC,sD,?_,?_⟩⟩
     .rw[nM]
      simp only[Ej,gM,rU,xS,Dj,hzs,mG,Nl];omega
     .rw[nM,show∀l:List aF,l.toArray.toList=l from λ_=>rfl,show∀l:List aF,l.toArray.toList=l from λ_=>rfl,Jn,Es (by rw[rU,gM,mG];omega),O2,ziU,Es aC,<-Mj]
      have:(bG ys).take (a*2)=bG (ys.take a):=by
       conv=>lhs;rw[<-zrT a ys]
       unfold bG;rw[List.flatMap_append];have h9:=Fe bE.cells (s:=2) (λ_=>rfl) (ys.take a);rw[rU,Nat.min_eq_left aC] at h9;rw[Es aC];exact zZ aC
      exact this)
    have zIv:=aD (Tm za9.o (zbR yL));have a0:(0:Int)<=(a:Int):=aC;have a1:(a:Int)<(b:Int):=aC;have zKU:a<c:=aC;have zLg:¬(c=a):=aC;clear cH nM hzs mG Mj sS za9 h1 h2
    go_wp2_with (refine zco rfl (.tmp 38) 69 rfl _ rfl HR.o ?_)
    go_ret;exact⟨a,rfl,zf4.symm,HO.o,zIv.o⟩
theorem zix (b:b6)(t:List UInt8)(x:bE):(l9 (b,t) x).1.o=b.o/\(l9 (b,t) x).1.clk=b.clk/\(l9 (b,t) x).1.log=b.log/\(l9 (b,t) x).1.recs.length=b.recs.length/\(l9 (b,t) x).1.wait.length<=b.wait.length/\(l9 (b,t) x).1.back.length<=b.back.length+1/\
 ∀z∈(l9 (b,t) x).1.recs,∃y∈b.recs,z.o=y.o/\z.l=y.l:=by
 have same:∀z∈b.recs,∃y∈b.recs,z.o=y.o/\z.l=y.l:=λz hz=>⟨z,hz,rfl,rfl⟩;unfold l9;split
 .exact⟨rfl,rfl,rfl,rfl,aV _,Tg _,same⟩
 .split
  .refine⟨rfl,rfl,rfl,?_,Xp _ _,?_,λz hz=>?_⟩
   .show(List.modify _ _ _).length=_
    rw[Gj]
   .show(b.back++[x]).length<=_
    simp
   .obtain⟨y,hy,rfl|rfl⟩:=Ui hz
    .exact⟨_,hy,rfl,rfl⟩
    .exact⟨_,hy,rfl,rfl⟩
  .exact⟨rfl,rfl,rfl,rfl,aV _,Tg _,same⟩
theorem yS.tire {t:List UInt8}(h:yS d)(hx:1<=x.c/\x.c<=99)(hb:d.r.back.length<5000):yS {d with r:=(l9 (d.r,t) x).1}:=by
 have S:=h.S.tire (t:=t) (x:=x);have R:=h.R.tire (t:=t) hx;obtain⟨e1,e2,e3,e4,e5,e6,e7⟩:=zix d.r t x;generalize(l9 (d.r,t) x).1=b at*;refine⟨S,R,⟨λz hz=>?_,?_⟩,h.ndl,?_,λz hz=>?_,?_,⟨R.off,?_,?_,?_,?_,?_⟩⟩
 .obtain⟨y,hy,e,_⟩:=e7 z hz
  rw[e,e1];exact h.ops.op y hy
 .show 1<=b.o.op
  rw[e1];exact h.ops.n1
 .show(d.ln.length:Int)=b.o.ln
  rw[e1];exact h.nln
 .obtain⟨y,hy,_,e⟩:=e7 z hz
  show 1<=z.l/\z.l<=b.o.ln;rw[e,e1];exact h.lb y hy
 .show(d.qn.length:Int)=b.o.op
  rw[e1];exact h.nqn
 .show b.recs.length<=1000
  rw[e4];exact h.sm.nr
 .exact eM e5 h.sm.nw
 .show b.back.length<=5000
  omega
 .show b.log.length<=1000
  rw[e3];exact h.sm.nl
 .show 0<=b.clk/\b.clk<=100000
  rw[e2];exact h.sm.clk
def sM (r:b6)(m:Int):Nat->List bE
 |0=>[]
 |k+1=>match r.wait[k]? with
  |none=>sM r m k
  |some x=>match jI (cZ r m k).1.recs x.c with
   |none=>sM r m k++[x]
   |some i=>if(cZ r m k).1.o.pt<=(cZ r m k).1.clk-Ys (cZ r m k).1.recs i then sM r m k else sM r m k++[x]
theorem zgX {st rest:List bE}(h:((st++x::rest).map bE.c).Nodup):dY (st++x::rest) x.c=st++rest:=by
 rw[Hr,fL,zi9] at h;obtain⟨h1,h2,h3⟩:=h;rw[C4] at h2;have a1:∀y∈st,(y.c !=x.c)=true:=λy hy=>by
  have:=h3 y.c (Vj hy) x.c aP;simpa using this
 have a2:∀y∈rest,(y.c !=x.c)=true:=λy hy=>by
  have:y.c≠x.c:=λe=>h2.1 (e▸Vj hy);simpa using this
 unfold dY;rw[Qk,List.filter_cons,zfl.2 a1,zfl.2 a2];simp
structure TK (d:nK)(m:Int)(k:Nat):Prop where
 i:yS {d with r:=(cZ d.r m k).1}
 w:(cZ d.r m k).1.wait=sM d.r m k++d.r.wait.drop k
 nb:(cZ d.r m k).1.back.length<=d.r.back.length+k
 log:(cZ d.r m k).1.log=d.r.log
 o:(cZ d.r m k).1.o=d.r.o
 clk:(cZ d.r m k).1.clk=d.r.clk+m
 le:(sM d.r m k).length<=k
 txt:(cZ d.r m k).2.length<=30+30*k
section
variable {d:nK}{m:Int}
theorem TK.zero (h:yS d)(hm:0<=m)(hc:d.r.clk+m<=100000):TK d m 0:=by
 have h0:=h.sm.clk;have hn:=P3 (c:=d.r.clk+m) aC aC;refine⟨⟨⟨h.S.opn,h.S.last,h.S.wt,h.S.bk,h.S.bo⟩,⟨h.R.off,?_,h.R.nodup,h.R.hasrec,λz hz=>?_,h.R.waitB,h.R.backB⟩,⟨h.ops.op,h.ops.n1⟩,h.ndl,h.nln,h.lb,h.nqn,⟨h.R.off,h.sm.nr,h.sm.nw,h.sm.nb,h.sm.nl,?_⟩⟩,rfl,aV _,rfl,rfl,rfl,aV _,?_⟩
 .show 0<=d.r.clk+m;omega
 .have:=h.R.recB z hz
  show _/\_/\_/\_/\_/\_/\_/\z.f<=d.r.clk+m;omega
 .show 0<=d.r.clk+m/\d.r.clk+m<=100000;omega
 .show([97,116,32]++jM (d.r.clk+m)).length<=_
  rw[gM];simp only[pX,r8];omega
structure Next (d:nK)(m:Int)(k:Nat)(x:bE)(i:Nat)(y:bS):Prop where
 at_:jI (cZ d.r m k).1.recs x.c=some i
 hy:(cZ d.r m k).1.recs[i]? =some y
 c:y.c=x.c
 op:eL y=true
 b:1<=x.c/\x.c<=99
 f:0<=y.f/\y.f<=d.r.clk+m
 tired:d.r.o.pt<=d.r.clk+m-y.f->cZ d.r m (k+1)=({lD (cZ d.r m k).1 i Dx with back:=(cZ d.r m k).1.back++[x]},(cZ d.r m k).2++[32]++jM x.c)/\sM d.r m (k+1)=sM d.r m k
 not_:¬d.r.o.pt<=d.r.clk+m-y.f->cZ d.r m (k+1)=cZ d.r m k/\sM d.r m (k+1)=sM d.r m k++[x]
variable {k:Nat}{x:bE}
theorem TK.next (h:TK d m k)(hx:d.r.wait[k]? =some x):∃i y,Next d m k x i y:=by
 have zng:d.r.wait.drop k=x::d.r.wait.drop (k+1):=by
  obtain⟨hl,he⟩:=jX.1 hx;rw[zgo hl,he]
 have n8:x∈(cZ d.r m k).1.wait:=by rw[h.w,zng];simp
 obtain⟨i,hi⟩:=Option.isSome_iff_exists.1 (h.i.R.hasrec x n8);have hi:=hi;obtain⟨y,hy,zkJ,Dl⟩:=Cg hi;have e1:=zgP (m:=m) hx;rw[zal hi hy,h.o,h.clk] at e1;have e2:sM d.r m (k+1)=if d.r.o.pt<=d.r.clk+m-y.f then sM d.r m k else sM d.r m k++[x]:=by
  conv=>lhs;unfold sM
  simp only[hx,hi,h.o,h.clk];rw[show Ys (cZ d.r m k).1.recs i=y.f by unfold Ys;rw[hy]]
 have hf:=h.i.R.recB y (dX hy);refine⟨i,y,⟨hi,hy,zkJ,Dl,h.i.R.waitB x n8,⟨hf.2.2.2.2.2.2.1,by have:=hf.2.2.2.2.2.2.2;rw[<-h.clk];exact this⟩,λhp=>?_,λhp=>?_⟩⟩
 .rw[if_pos hp] at e1 e2
  exact⟨e1,e2⟩
 .rw[if_neg hp] at e1 e2
  exact⟨e1,e2⟩
theorem TK.succ (h:TK d m k)(hb:d.r.back.length+d.r.wait.length<=5000)(hx:d.r.wait[k]? =some x):TK d m (k+1):=by
 obtain⟨hl,he⟩:=jX.1 hx;have zng:d.r.wait.drop k=x::d.r.wait.drop (k+1):=by rw[zgo hl,he]
 obtain⟨i,y,n⟩:=h.next hx;have nJ:=h.nb;have hT:=yS.tire (t:=(cZ d.r m k).2) h.i n.b (by show(cZ d.r m k).1.back.length<5000;omega);have e1:=zgP (m:=m) hx;have zy0:yS {d with r:=(cZ d.r m (k+1)).1}:=by rw[e1];exact hT
 obtain⟨r1,r2,r3,r4,r5,r6,r7⟩:=zix (cZ d.r m k).1 (cZ d.r m k).2 x;have Ff:=e1;rw[<-Ff] at r1 r2 r3 r4 r5 r6;have hw:=h.w;rw[zng] at hw;have lH:((sM d.r m k++x::d.r.wait.drop (k+1)).map bE.c).Nodup:=by rw[<-hw];exact h.i.R.nodup
 have hle:=h.le;have ztk:=h.txt;refine⟨zy0,?_,aC,r3.trans h.log,r1.trans h.o,r2.trans h.clk,?_,?_⟩
 .by_cases hp:d.r.o.pt<=d.r.clk+m-y.f
  .have t4:=(n.tired hp).2
   rw[t4];have e3:=e1;rw[zal n.at_ n.hy,h.o,h.clk,if_pos hp] at e3;rw[e3];show dY _ (F8 _ _)=_;rw[S3 n.hy,n.c,hw,zgX lH]
  .obtain⟨t1,t2⟩:=n.not_ hp
   rw[t1,t2,hw];simp
 .by_cases hp:d.r.o.pt<=d.r.clk+m-y.f
  .rw[(n.tired hp).2];omega
  .rw[(n.not_ hp).2,gM];simp;omega
 .by_cases hp:d.r.o.pt<=d.r.clk+m-y.f
  .have:=n.b
   have hn:=P3 (c:=x.c) aC aC;rw[(n.tired hp).1,gM,gM];simp only[pX,r8];omega
  .rw[(n.not_ hp).1];omega
def TK.all (h:yS d)(hm:0<=m)(hc:d.r.clk+m<=100000)(hb:d.r.back.length+d.r.wait.length<=5000):∀k,k<=d.r.wait.length->TK d m k
 |0,_=>TK.zero h hm hc
 |k+1,hk=>(TK.all h hm hc hb k aC).succ hb (lV aC)
theorem TK.end_ (h:TK d m d.r.wait.length):(uJ d.r m).1.wait=sM d.r m d.r.wait.length:=by
 rw[<-zaW,h.w,List.drop_of_length_le (aV _),N0]
end
def vF (w:aE):Prop:=Lib.TabIs aK w "internal/strconv.uint64pow10" .u64 Lib.pow10Tab
def Ad (lo:Nat)(w:aE):Prop:=∀w':aE,(∀b,b<lo->w'.heap[b]? =w.heap[b]?)->vF w'
def Ad.at_ (h:Ad lo w):vF w:=h w λ_ _=>rfl
def Ad.keep (h:Ad lo w)(k:∀b,b<lo->w'.heap[b]? =w.heap[b]?):Ad lo w':=λw2 k2=>h w2 λb hb=>(k2 b hb).trans (k b hb)
variable {v':fO}
theorem Ad.turn (h:Ad lo w)(a:bF w lo hb v d)(dV:lo<=w.heap.size)(t:bM hb v w v' w'):Ad lo w':=h.keep λb bZ=>t.block b aC (λx=>by have:=(a.lt b x).1;omega)
def zN (v v':fO):Prop:=v'.sL=v.sL/\v'.sQ=v.sQ/\v'.sA=v.sA/\v'.sT=v.sT
def zN.rf (v:fO):zN v v:=⟨rfl,rfl,rfl,rfl⟩
def Cn.kept (h:Cn v v'):zN v v':=⟨h.1,h.2.1,h.2.2.2.2.1,h.2.2.2.2.2⟩
theorem zAe (ht:Ad lo w)(n:Int)(h0: -1000000000<=n)(h1:n<=1000000000):
 fH aK 112 #[.int .i64 n] w λe w'=>e=.returned (.string ⟨(jM n).toArray⟩)/\bU w.heap.size w w':=
 (Tryz.strconv_Itoa n aC aC w ht.at_).mono (by
  rintro e w' ⟨rfl,k,os,rfl⟩;refine⟨rfl,rfl,rfl,rfl,by simp[Go.Sort.grow],λi hi=>?_⟩;show((w.drewN k).heap++os)[i]? =_;rw[Array.getElem?_append_left (by show i<w.heap.size;omega)];rfl)
theorem zk2 (n:Int)(h0:0<=n)(h1:n<100)(w:aE):
 fH aK 112 #[.int .i64 n] w λe w'=>e=.returned (.string ⟨(jM n).toArray⟩)/\w'=w:=by
 obtain⟨c,rfl⟩:∃c:Nat,n=(c:Int):=⟨n.toNat,aC⟩;refine(Tryz.strconv_Itoa_small c aC w).mono ?_;rintro e w' ⟨rfl,rfl⟩;exact⟨by unfold jM;rw[Lib.itoa_nonneg],rfl⟩
section
variable {P:bR}{w w':aE}
theorem zwB {ops:Array aZ}{rest:List aZ}{o:aZ}{a:Act}{Q:nZ->Act->aE->Prop}(Fp:o.guard=none)(s x:cN)(t tn:aM)(ho:o.op=.call {callee:=.builtin .append,args:=#[s,x],argTypes:=#[t,tn]})(vs vx v':aF)(hs:a.eval s=vs)(hx:a.eval x=vx)
 (hr:(wL #[t,tn] o.type #[vs,vx]).run P w=.ok v' w') (h:wpList P ops Q rest (a.put o.dst v') w'):wpList P ops Q (o::rest) a w:=by
 refine S9 Fp λK hK=>?_;unfold B8 aS;simp only[ho,resolve,invoke,builtin,Et,Jd,Fa,uW,fL,tM,hs,hx,hr];exact hK _ _ h
end
variable {xs:List aF}{x8:Nat}
theorem zpM {E s:Nat}{v:aF}(h:w.ownsRow lo E s v n xs)(hl:x8<=lo):w.ownsRow x8 E s v n xs:=by
 obtain⟨h0,h1|⟨g,cap,cur,e1,e2,e3⟩⟩:=h
 .exact⟨h0,.inl h1⟩
 .exact⟨h0,.inr ⟨g,cap,cur,e1,eM hl e2,e3⟩⟩
variable {x:Option Nat}{l:List (Option Nat)}
theorem zyM (h:zcQ l)(hx:∀b,x=some b->some b∉l):zcQ (l.set j x):=by
 intro i k b hi hk;rw[zau] at hi hk;split at hi<;>split at hk
 .omega
 .rename_i e1 e2
  split at hi
  .injection hi with hi
   exact absurd (dX hk) (hx b hi)
  .cases hi
 .rename_i e1 e2
  split at hk
  .injection hk with hk
   exact absurd (dX hi) (hx b hk)
  .cases hk
 .exact h i k b hi hk
theorem bF.newW (h:bF w lo hb v d){s':aF}{xs:List bE}(ho:w.ownsRow lo 149 2 s' n (bG xs))(hn:n=xs.length)(hw:∀b,s'.ownBlock=some b->some b∉parts v hb):
 bF (w.setCell ⟨hb,7,none⟩ s') lo hb {v with sW:=s'} {d with r:={d.r with wait:=xs}}:=by
 subst hn;have h0:(parts v hb)[0]? =some (some hb):=rfl;have kk:∀i b,i≠0->(parts v hb)[i]? =some (some b)->(w.setCell ⟨hb,7,none⟩ s').heap[b]? =w.heap[b]? :=λi b hi bZ=>eJ w _ _ b (h.ne bZ h0 hi);have hp:parts {v with sW:=s'} hb=(parts v hb).set 5 s'.ownBlock:=rfl
 refine⟨nQ h.blk s',h.lob,cI h.L λb e=>kk 1 _ aH cS,cI h.Q λb e=>kk 4 _ aH cS,cI ho λb e=>eJ w _ _ b (λe2=>hw b e (by have e2:b=hb:=e2;subst e2;exact dX h0)),
  cI h.B λb e=>kk 6 _ aH cS,cI h.R λb e=>kk 7 _ aH cS,cI h.A λb e=>kk 9 _ aH cS,cI h.T λb e=>kk 10 _ aH cS,
  h.C.keep (kk 2 _ aH rfl),h.O.keep (kk 3 _ aH rfl),h.M.keep (kk 8 _ aH rfl),?_⟩
 rw[hp];exact zyM h.ap hw
def bF.grown (h:bF w lo hb v d)(hg:w.grownBy w' x)(hx:∀b,x=some b->some b∉parts v hb):bF w' lo hb v d:=
 h.keep λb bZ hp=>hg.block b bZ λe=>hx b e.symm hp
theorem bM.grown {w0:aE}{v0:fO}(h:bM hb v0 w0 v w)(hg:w.grownBy w' x)(hx:∀b,x=some b->w0.heap.size<=b):bM hb v0 w0 v w':=
 ⟨eM h.size hg.size,λb bZ hn=>(hg.block b (lE bZ h.size) λe=>by have:=hx b e.symm;omega).trans (h.block b bZ hn),h.moved⟩
theorem zEi {N:Nat}(hs:cs.size=N)(hl:xs.length=N)(h:∀j,j<N->cs[j]? =xs[j]?):cs.toList=xs:=by
 apply Ra;intro j;rw[Ai];rcases mY j N with hj|hj
 .exact h j hj
 .rw[Array.getElem?_eq_none aC,Ca aC]
theorem zCL (lo hi n c:Nat)(A:Option bL)(ds:List dG)(w:aE)(h:b7 w lo hi 3 A n c (lM ds))(hn:n<=1048576):
 fH aK 13 #[.slice A n c] w λe w'=>∃b cs,e=.returned (.slice (some ⟨b,0,none⟩) n n)/\w.heap.size<=b/\w'.heap[b]? =some (.cells cs 54)/\cs.toList=lM ds/\qT 54 3 w' w.heap.size w'.heap.size (some ⟨b,0,none⟩) n n (lM ds)/\bU w.heap.size w w':=by
 obtain⟨x9,Y1,zfO⟩:=zHW n hn;have hlen:=h.eventLen;have Df:=aD Y1;have HL:=aD hlen
 go_enter Tryz.func13,Tryz.ntmps13
 go_wp2
 go_loopw [4] (λi wr=>∃k:Nat,k<=n/\i=.int .i64 k/\bU w.heap.size w wr/\∃cs:Array aF,wr.heap[w.heap.size]? =some (.cells cs 54)/\cs.size=n*3/\∀j,j<k*3->cs[j]? =(lM ds)[j]?) (λi _=>n-(intOf i).toNat)
 case atStart=>exact⟨0,jO _,rfl,dO (eG _ _) _,x9,lP _ _,Df.o,λj hj=>absurd hj aC⟩
 case round=>
  obtain⟨k,hk,rfl,B,cs,hb,cG,fV⟩:=hrel;have HS:=aD cG;have HC:=aD fV;have HB:=aD hb;have hz:=gA hb;by_cases aN:k<n
  .obtain⟨b,off,d,rfl,_,_,h3,eE,fI,oV,wV⟩:=(h.below B).eventAt aN
   have HX:=aD eE
   go_wp2_with fail
   refine(zIT d _).mono ?_;rintro e w1 ⟨rfl,b1⟩;obtain⟨uN,z1⟩:=eI b1 HB.o;have B1:=X5 B b1;have e0:=aJ uN (k*3);have e1:=aJ uN (k*3+1);have e2:=aJ uN (k*3+2);have hf:=eK uN;rw[Array.getElem?_eq_getElem (by rw[HS.o];omega)] at e0 e1 e2;have pU:=aD uN;go_wp2;go_roundw
   case rel=>exact⟨k+1,aC,nC,((B1.setCell (aV _) _).setCell (aV _) _).setCell (aV _) _,((cs.setIfInBounds (k*3) (.string d.k)).setIfInBounds (k*3+1) (.int .i64 d.a)).setIfInBounds (k*3+2) (.int .i64 d.b),nQ (nQ (nQ pU.o _) _) _,by simp[HS.o],λj hj=>zAK HX.o (by rw[HS.o];omega) HC.o j hj⟩
   case measure=>simp[intOf];omega
  .have e:k=n:=aC
   subst e;go_wp2;go_ret;exact⟨_,cs,rfl,aV _,HB.o,zEi HS.o (by rw[zg5,HL.o]) HC.o,zAP HB.o hz HS.o (aV _) Ya (by rw[zg5,HL.o]) HC.o,B⟩
variable {xs:List dG}
def zgI (h:b7 w lo hi 3 A n c (lM xs))(hn:n<=1048576):
 fH aK 13 #[.slice A n c] w λe w'=>∃b cs,e=.returned (.slice (some ⟨b,0,none⟩) n n)/\w.heap.size<=b/\w'.heap[b]? =some (.cells cs 54)/\cs.toList=lM xs/\qT 54 3 w' w.heap.size w'.heap.size (some ⟨b,0,none⟩) n n (lM xs)/\bU w.heap.size w w':=zCL _ _ _ _ _ _ _ h hn
def zz8 (l:Int)(h:b7 w lo hi 3 A n c (lM xs))(hd:∀d∈xs,d.k.size<=maxLen)(h0:0<=l)(h1:l<=1048576):
 fH aK 10 #[.slice A n c,.int .i64 l] w λe w'=>e=.returned (.int .i64 (Jg l n xs))/\bU w.heap.size w w':=zI0 _ _ _ _ _ _ _ _ h hd h0 h1
variable {A':Option bL}
def zEE {gT n' c':Nat}{ys:List dG}(h:b7 w lo hi 3 A n c (lM xs))(h':b7 w x8 gT 3 A' n' c' (lM ys))(hn:n<=1048576)(sG:n'<=1048576):
 fH aK 16 #[.slice A n c,.slice A' n' c'] w λe w'=>e=.returned (.bool (xs==ys))/\bU w.heap.size w w':=zAB _ _ _ _ _ _ _ _ _ _ _ _ _ h h' hn sG
def zCW {xs:List aF}(k0:Nat)(h:qT 54 3 w lo hi A n c xs)(hn:n<=1048576)(iR:k0<=10000000):
 fH aK 17 #[.slice A n c,.int .i64 k0] w λe w'=>e=.returned (.int .i64 ((k0+3*n:Nat):Int))/\qC lo hi w w':=zD2 _ _ _ _ _ _ _ _ h hn iR
variable {xs:List Int}
theorem qT.toI (h:qT 3 1 w lo hi A n c (eH xs)):Own w lo hi A n c xs:=
 ⟨h.slc,λhn=>by obtain⟨b,cs,e,k,z⟩:=h.blk hn;exact⟨b,cs,e,k,aC⟩⟩
theorem ziz {gT n' c':Nat}{ys:List Int}(h:b7 w lo hi 1 A n c (eH xs))(h':b7 w x8 gT 1 A' n' c' (eH ys))(hn:n<=1048576)(sG:n'<=1048576):
 fH aK 22 #[.slice A n c,.slice A' n' c'] w λe w'=>e=.returned (.bool (xs==ys))/\bU w.heap.size w w':=
 (zCC _ _ _ _ _ _ _ _ _ _ _ _ _ h h' hn sG).mono λe w' hs=>⟨hs.1,by obtain⟨m,rfl⟩:=hs.2;exact below_drewN (eG _ _) m⟩
theorem zA5 (k0:Nat)(h:qT 3 1 w lo hi A n c (eH xs))(hn:n<=1048576)(iR:k0<=10000000):
 fH aK 23 #[.slice A n c,.int .i64 k0] w λe w'=>e=.returned (.int .i64 ((k0+n:Nat):Int))/\b7 w' lo hi 1 A n c (eH (Ny k0 n))/\qC lo hi w w':=by
 refine(zEI _ _ _ _ _ _ _ _ h.toI hn aC aC).mono λe w' ⟨he,ho,hc,_⟩=>?_;exact⟨by rw[he];congr 2,ho.slc,hc⟩
theorem zus (k0:Nat)(h:b7 w lo hi 1 A n c (eH (Ny k0 n)))(hn:n<=1048576)(iR:k0<=10000000):
 fH aK 24 #[.slice A n c,.int .i64 k0] w λe w'=>e=.returned (.int .i64 ((k0+n:Nat):Int))/\bU w.heap.size w w':=by
 refine(zFD _ _ _ _ _ _ _ h hn aC aC).mono λe w' ⟨he,hw⟩=>?_;subst hw;exact⟨by rw[he];congr 2,eG _ _⟩
theorem zrG (f s p:Int)(w:aE):
 fH aK 12 #[.agg #[.int .i64 f,.int .i64 s,.int .i64 p]] w λe w'=>e=.returned (.agg #[.int .i64 f,.int .i64 s,.int .i64 p])/\bU w.heap.size w w':=by
 go_enter Tryz.func12,Tryz.ntmps12
 go_wp2;refine qY (v:=.agg #[.int .i64 f,.int .i64 s,.int .i64 p]) (by simp[results,Tryz.results12,go_sem]) rfl ⟨rfl,?_⟩;exact dO (dO (dO (eG _ _) _) _) _
end Go.Proofs.YtfcjiloojkjaeaaGreatDoor
namespace Go.Proofs.YtfcjiloojkjaeaaGreatDoor
open Go.Mt Go.Tt
def glL:List Nat:=[33,52,109,110,115,116,105,108,113,124,117,114,119,118,112,123,126,128,129,130,131,132,133,134,135,136,137,138,10,11,12,13,15,16,17,18,19,20,22,23,24,25,34,39,40,41,43,44,45,46,49,50,51,63,64,65,66,67,90,91,92,93,94,95,96]
def alL:List Nat:=[3,4,5,10,11,12,13,14,15,16,17,18,19,20,21,22,23,24,25,26,33,34,39,40,41,42,43,44,45,46,49,50,51,52,63,64,65,66,67,90,91,92,93,94,95,96,118]
def flL:List Nat:=[118]
def olL:List Nat:=[42]
abbrev Bn:aO->Bool:=oZ glL
abbrev gG:aO->Bool:=oZ flL
def zp0:Uu aK=true:=aQ
def zrD:glL.all (fnFit aK (oZ flL) (oZ glL))=true:=aQ
def lvF:Lv aK (oZ olL) (oZ alL) Bn gG:=
 lv_of zp0 zrD aQ aQ aQ aQ aQ
def mQ:vD (PS aK Bn) gG:=zv9 zp0 zrD aQ
end Go.Proofs.YtfcjiloojkjaeaaGreatDoor
namespace Go.Mt
open Go.Conc Go.Tt
def frO:Obj->Obj
 | .cells c T fz=>.cells c T (0,max c.size fz.2)
 |o=>o
def uU (X:Nat->Bool)(w:aE):World:={w with heap:=w.heap.mapIdx λi o=>if X i=true then frO o else o}
def thX (X:Nat->Bool)(w0 wn:aE):World:={wn with heap:=wn.heap.mapIdx λi o=>if X i=true then(w0.heap[i]?).getD o else o}
def reX (X:Nat->Bool)(w:aE):World:={w with heap:=w.heap.mapIdx λi o=>if X i=true then frO o else oR}
theorem Q7 (X:Nat->Bool)(w:aE):(uU X w).heap.size=w.heap.size:=by simp[uU]
theorem zfK (X:Nat->Bool)(w wn:aE):(thX X w wn).heap.size=wn.heap.size:=by simp[thX]
theorem ziJ (X:Nat->Bool)(w:aE):(reX X w).heap.size=w.heap.size:=by simp[reX]
section
variable {X:Nat->Bool}{w wn:aE}{a:Nat}
theorem Nw (h:X a=false):(uU X w).heap[a]? =w.heap[a]? :=by
 simp[uU,M3,h]
variable {c:Array aF}{T:aM}
theorem Uy {fz:Nat×Nat}(h:X a=true)(hc:w.heap[a]? =some (.cells c T fz)):(uU X w).heap[a]? =some (.cells c T (0,max c.size fz.2)):=by
 simp[uU,M3,h,hc,frO]
theorem zhk {fz:Nat×Nat}(h:X a=true)(hc:w.heap[a]? =some (.cells c T fz)):(reX X w).heap[a]? =some (.cells c T (0,max c.size fz.2)):=by
 simp[reX,M3,h,hc,frO]
theorem ztv (h:X a=false)(ha:a<w.heap.size):(reX X w).heap[a]? =some oR:=by
 simp[reX,M3,h,ha]
theorem Wz (h:X a=false):(thX X w wn).heap[a]? =wn.heap[a]? :=by
 simp[thX,M3,h]
theorem zfB {o:Obj}(h:X a=true)(ha:a<wn.heap.size)(ho:w.heap[a]? =some o):(thX X w wn).heap[a]? =some o:=by
 simp[thX,M3,h,ho,ha]
end
inductive xI (X KD:Nat->Prop):aF->Prop
 |bool (b:Bool):xI X KD (.bool b)
 |int (k:IntKind) (n:Int):xI X KD (.int k n)
 |string (s:ByteArray):xI X KD (.string s)
 |nilFunc:xI X KD .nilFunc
 |nilIface:xI X KD .nilIface
 |pointer {a:Option bL}:(∀x,a=some x->X x.block)->xI X KD (.pointer a)
 |slice {a:Option bL} {n c:Nat}:(∀x,a=some x->X x.block)->xI X KD (.slice a n c)
 |chan {a:Option Nat}:(∀x,a=some x->KD x)->xI X KD (.chan a)
 |agg {xs:Array aF}:(∀(i:Nat) (v:aF),xs[i]? =some v->xI X KD v)->xI X KD (.agg xs)
 |tuple {xs:Array aF}:(∀(i:Nat) (v:aF),xs[i]? =some v->xI X KD v)->xI X KD (.tuple xs)
theorem wE.inX {X KD:Nat->Prop}{v:aF}(h:wE v):xI X KD v:=by
 induction h with
 |bool b=>exact .bool b
 |int k n=>exact .int k n
 |string s=>exact .string s
 |nilFunc=>exact .nilFunc
 |nilIface=>exact .nilIface
 |agg _ ih=>exact .agg ih
 |tuple _ ih=>exact .tuple ih
section
variable {S:aO->Prop}{K R K' R':Pr}{X KD:Nat->Prop}
theorem zwC {a a':Option bL}(x:wP R a a')(hR:∀p q,R p q->X p->R' p q)(h:∀y,a=some y->X y.block):wP R' a a':=by
 cases x with
 |none=>exact .none
 |some y=>
  cases y with
  |mk y=>exact .some (.mk (hR _ _ y (h _ rfl)))
theorem xI.vr {u v:aF}(x:VR S K R u v)(hR:∀a b,R a b->X a->R' a b)(hK:∀a b,R.or K a b->KD a->R'.or K' a b)(hu:xI X KD u):VR S K' R' u v:=by
 induction x with
 |bool b=>exact .bool b
 |int k n=>exact .int k n
 |string s=>exact .string s
 |nilFunc=>exact .nilFunc
 |nilIface=>exact .nilIface
 |pointer y=>cases hu with|pointer h=>exact .pointer (zwC y hR h)
 |slice y=>cases hu with|slice h=>exact .slice (zwC y hR h)
 |map _=>cases hu
 |chan y=>
  cases hu with
  |chan h=>
   refine .chan ?_
   cases y with
   |none=>exact .none
   |some y=>exact .some (hK _ _ y (h _ rfl))
 |func _ _ _ _ _ _ _=>cases hu
 |iface _ _=>cases hu
 |agg e _ ih=>cases hu with|agg h=>exact .agg e λi v v' h1 h2=>ih i v v' h1 h2 (h i v h1)
 |tuple e _ ih=>cases hu with|tuple h=>exact .tuple e λi v v' h1 h2=>ih i v v' h1 h2 (h i v h1)
 |junk h=>exact .junk h
end
section
variable {S:aO->Prop}{K R K' R':Pr}{G:Gp}{St St':Nat->Prop}{w W wn Wn:aE}{X:Nat->Bool}
structure XOk (R:Pr)(X:Nat->Bool)(w:aE):Prop where
 dom:∀a,X a=true->∃b,R a b
 cells:∀a,X a=true->∃c T fz,w.heap[a]? =some (.cells c T fz)
theorem zpx (h:cV S K R G St w W)(hx:XOk R X w):cV S K R G (λa=>St a\/X a=true) (uU X w) W:=by
 have stC:∀a,St a->∃c T hi,w.heap[a]? =some (.cells c T (0,hi))/\c.size<=hi:=λa x=>(h.st a x).2;refine⟨h.inj,h.inj',λa b x=>by rw[Q7];exact h.lt a b x,h.low,by rw[Q7];exact h.gle,λa b x=>?_,λa b x hn=>?_,λa x=>?_,?_,h.tb⟩
 .obtain⟨o,o',h1,h2,h3⟩:=h.cont a b x
  cases e:X a with
  |false=>exact⟨o,o',(Nw e).trans h1,h2,h3⟩
  |true=>
   obtain⟨c,T,fz,hc⟩:=hx.cells a e;rw[hc] at h1;obtain rfl:=cE h1
   cases h3 with
   |cells sJ hf=>
    refine⟨_,_,Uy e hc,h2,.cells sJ λo ho=>?_⟩;have:=hf o ho;unfold Ln at this⊢;simp only;omega
 .cases e:X a with
  |false=>exact(Nw e).trans (h.rest a b x hn)
  |true=>
   obtain⟨c,hc⟩:=hx.dom a e;exact absurd hc (hn c)
 .cases e:X a with
  |false=>
   have x':St a:=x.resolve_right (by rw[e];simp);obtain⟨h1,c,T,hi,h2,h3⟩:=h.st a x';exact⟨h1,c,T,hi,(Nw e).trans h2,h3⟩
  |true=>
   obtain⟨c,T,fz,hc⟩:=hx.cells a e;exact⟨hx.dom a e,c,T,_,Uy e hc,znX ..⟩
 .intro a c e hp
  cases ex:X a with
  |false=>
   rw[Nw ex] at hp;exact h.np a c e hp
  |true=>
   obtain⟨c',T,fz,hc⟩:=hx.cells a ex;rw[Uy ex hc] at hp;cases hp
theorem zvl (h:cV S K R G St w W)(hx:XOk R X w)(hle:R.le R')(hK:K.le K')(hn:cV S K' R' G St' wn Wn)(hs:∀a,St a->St' a)(aY:∀a b,X a=true->R a b->Wn.heap[b]? =W.heap[b]?):cV S K' R' G St (thX X w wn) Wn:=by
 have aN:∀a b,R' a b->a<wn.heap.size:=λa b x=>(hn.lt a b (.inl x)).1;refine⟨hn.inj,hn.inj',λa b x=>by rw[zfK];exact hn.lt a b x,hn.low,by rw[zfK];exact hn.gle,λa b x=>?_,λa b x dB=>?_,λa x=>?_,?_,hn.tb⟩
 .cases e:X a with
  |false=>
   obtain⟨o,o',h1,h2,h3⟩:=hn.cont a b x;exact⟨o,o',(Wz e).trans h1,h2,h3⟩
  |true=>
   obtain⟨b0,Hl⟩:=hx.dom a e;obtain rfl:=hn.inj a b b0 (.inl x) (.inl (hle _ _ Hl));obtain⟨o,o',h1,h2,h3⟩:=h.cont a b Hl;exact⟨o,o',zfB e (aN a b x) h1,(aY a b e Hl).trans h2,oH.monoK hK (h3.mono hle)⟩
 .cases e:X a with
  |false=>exact(Wz e).trans (hn.rest a b x dB)
  |true=>
   obtain⟨c,hc⟩:=hx.dom a e;exact absurd (hle _ _ hc) (dB c)
 .cases e:X a with
  |false=>
   obtain⟨h1,c,T,hi,h2,h3⟩:=hn.st a (hs a x);exact⟨h1,c,T,hi,(Wz e).trans h2,h3⟩
  |true=>
   obtain⟨⟨b,h1⟩,c,T,hi,h2,h3⟩:=h.st a x;exact⟨⟨b,hle _ _ h1⟩,c,T,hi,zfB e (aN a b (hle _ _ h1)) h2,h3⟩
 .intro a c e hp
  cases ex:X a with
  |false=>
   rw[Wz ex] at hp;exact hn.np a c e hp
  |true=>
   obtain⟨b,hb⟩:=hx.dom a ex;obtain⟨c',T,fz,hc⟩:=hx.cells a ex;rw[zfB ex (aN a b (hle _ _ hb)) hc] at hp;cases hp
def rX (R:Pr)(X:Nat->Bool):Pr:=λa b=>R a b/\X a=true
def kX (K:Pr)(KD:Nat->Prop):Pr:=λa b=>K a b/\KD a
theorem reX_rel (h:cV S K R G St w W)(hx:XOk R X w)(hT:∀g,G.tab g=true->X g=true){KD:Nat->Prop}(mG:∀a c T fz,X a=true->w.heap[a]? =some (.cells c T fz)->∀v∈c,xI (λa=>X a=true) KD v)(zz5:∀a b,R a b->KD a->X a=true):
 cV S (kX K KD) (rX R X) G (λa=>X a=true) (reX X w) W:=by
 have up:∀a b,(rX R X).or (kX K KD) a b->R.or K a b:=λa b x=>x.elim (λy=>.inl y.1) λy=>.inr y.1;refine⟨λa b c x y=>h.inj a b c (up _ _ x) (up _ _ y),λa b c x y=>h.inj' a b c (up _ _ x) (up _ _ y),λa b x=>by rw[ziJ];exact h.lt a b (up _ _ x),λa b x=>h.low a b x.1,by rw[ziJ];exact h.gle,λa b x=>?_,λa b x dB=>?_,λa x=>?_,?_,λg hg=>⟨h.tb g hg,hT g hg⟩⟩
 .obtain⟨o,o',h1,h2,h3⟩:=h.cont a b x.1
  obtain⟨c,T,fz,hc⟩:=hx.cells a x.2;rw[hc] at h1;obtain rfl:=cE h1
  cases h3 with
  |cells sJ hf=>
   refine⟨_,_,zhk x.2 hc,h2,.cells ⟨sJ.1,λi v v' h1 h2=>?_⟩ λo ho=>?_⟩
   .refine xI.vr (sJ.2 i v v' h1 h2) (λp q y z=>⟨y,z⟩) (λp q y z=>?_) (mG a c T fz x.2 hc v (Array.mem_of_getElem? h1))
    rcases y with y|y
    .exact .inl ⟨y,zz5 p q y z⟩
    .exact .inr ⟨y,z⟩
   .have:=hf o ho
    unfold Ln at this⊢;simp only;omega
 .cases e:X a with
  |false=>exact ztv e (h.lt a b (.inr x.1)).1
  |true=>
   obtain⟨c,hc⟩:=hx.dom a e;exact absurd ⟨hc,e⟩ (dB c)
 .obtain⟨c,T,fz,hc⟩:=hx.cells a x
  obtain⟨b,hb⟩:=hx.dom a x;exact⟨⟨b,hb,x⟩,c,T,_,zhk x hc,znX ..⟩
 .intro a c e hp
  cases ex:X a with
  |false=>
   by_cases ha:a<w.heap.size
   .rw[ztv ex ha] at hp
    unfold oR at hp;cases hp
   .have:=(dQ.1 hp).1
    rw[ziJ] at this;omega
  |true=>
   obtain⟨c',T,fz,hc⟩:=hx.cells a ex;rw[zhk ex hc] at hp;cases hp
end
end Go.Mt
namespace Go.Mt
open Go.Conc Go.Tt
open Go.ConcR (KK wgBlock WgAt stA smA rd wr DC0)
section
variable {p:bR}{Post:aF->aE->Prop}{Shun:Loc->Prop}
def BJ (p:bR)(Post:aF->aE->Prop)(Shun:Loc->Prop)(τ:cF)(g:Goroutine)(W:aE):Prop:=
 (∀b,τ.own b\/τ.still b->b<W.heap.size/\∀l,nD l b->¬Shun l)->(∀l b,nD l b->W.heap.size<=b->¬Shun l)->J p Post Shun W.heap.size g W
theorem zzB {O Z:Nat->Prop}{B:Nat}{e:Event}(h:EvQ O Z e)(hO:∀b,O b\/Z b->b<B/\∀l,nD l b->¬Shun l):EvL Shun B e:=by
 rcases h with rfl|⟨b,h1,h2⟩
 .exact⟨λx hx=>by simp[jJ,qG] at hx,aP,aP,trivial⟩
 .obtain⟨hb,hs⟩:=hO b (h2.imp id And.left)
  obtain⟨loc,wr,sy⟩:=e
  cases loc with
  |cell x=>
   simp only[Fy,fY] at h1;refine⟨λy hy lL=>?_,aP,aP,?_⟩
   .simp only[jJ,qG,fY] at hy
    subst hy;exact absurd lL (hs _ h1)
   .show x.block<B
    rw[h1];exact hb
  |obj r=>
   simp only[Fy,fY] at h1;have hr:r<B:=by rw[h1];exact hb
   refine⟨λy hy lL=>?_,aP,aP,?_⟩
   .have Zc:y.loc=.obj r:=by
     cases wr<;>cases sy<;>simp only[jJ,qG,fY] at hy<;>first|(subst hy;rfl)|(cases hy;done)
    exact absurd (Zc▸lL) (hs (.obj r) h1)
   .cases wr<;>cases sy<;>exact hr
  |_=>simp[Fy] at h1
variable {ty:aM}
def suf_atd {Wg:Nat}{τ:cF}{w:aE}(d:Nat):bT ty Wg τ w (w.at d):=⟨rfl,rfl,rfl,aV _,λ_ _=>rfl,λx=>x⟩
theorem bj_ok {Wg:Nat}(τ:cF)(g:Goroutine)(w:aE)(cH:g.status=.running)(h:OwnQ p ty Wg true (BJ p Post Shun) τ g w):BJ p Post Shun τ g w:=by
 intro h1 h2;have grow:∀(d:Nat) {w':aE},w.heap.size<=w'.heap.size->(∀b,(τ.grow (w.at d) w').own b\/τ.still b->b<w'.heap.size/\∀l,nD l b->¬Shun l)/\∀l b,nD l b->w'.heap.size<=b->¬Shun l:=λd w' hs=>by
  refine⟨λb hb=>?_,λl b hl hb=>h2 l b hl (eM hs hb)⟩;rcases hb with(hb|⟨hb,bZ⟩)|hb
  .exact⟨lE (h1 b (.inl hb)).1 hs,(h1 b (.inl hb)).2⟩
  .exact⟨bZ,λl hl=>h2 l b hl hb⟩
  .exact⟨lE (h1 b (.inr hb)).1 hs,(h1 b (.inr hb)).2⟩
 refine J.own cH λd=>?_;obtain⟨g',w',es,a1,a2,a3,a4,a5⟩:=h (w.at d) (suf_atd d);obtain⟨k1,k2⟩:=grow d a3.size;exact⟨g',w',es,w'.heap.size,a1,λe he=>zzB (a4 e he) k1,a3.size,a5 k1 k2⟩
structure IA (W0:aE)(St:Nat->Prop)(Shun:Loc->Prop)(R0:Pr)(R:Pr)(τ:cF)(W:aE):Prop where
 kp:Kp W0 R St W
 sh:Sh W0.heap.size Shun R W
 still:∀b,b<W0.heap.size->τ.still b
 le:R0.le R
def Fg (p:bR)(gs fs:aO->Bool)(Post:aF->aE->Prop)(Shun:Loc->Prop)(W0:aE)(St:Nat->Prop)(K R0:Pr)(base:List Frame):Cx Unit:=
 {p:=p,gs:=gs,fs:=fs,ty:=0,Wg:=0,A:=⟨λ_=>.wait,λ_ _=>True,λ_=>false,λ_=>True,λ_ _=>True,λ_ _=>[]⟩,Fin:=λ_ _=>True,main:=true,base:=base,ds:=.nil,K:=K,St:=St,I:=IA W0 St Shun R0,pin:=[],alone:=some (BJ p Post Shun),aok:=λB h τ g w hr ho=>by(cases h;exact bj_ok τ g w hr ho)}
variable {gs fs:aO->Bool}{W0:aE}{St:Nat->Prop}{K R0:Pr}{base:List Frame}
theorem dA:fF (Fg p gs fs Post Shun W0 St K R0 base):=by
 refine⟨λR τ W aX h s=>?_,λR τ W R1 W1 h ht hs=>?_⟩
 .have h:=h
  exact⟨⟨s.os.trans h.kp.os,s.tape.trans h.kp.tape,s.output.trans h.kp.output,eM h.kp.size s.size,λb hb=>(s.keep b (.inr (h.still b hb))).trans (h.kp.block b hb),h.kp.old⟩,⟨h.sh.old,h.sh.rel,λl b hl hb=>h.sh.new l b hl (eM s.size hb)⟩,h.still,h.le⟩
 .have h:=h
  have hs:=hs;refine⟨⟨hs.os.trans h.kp.os,hs.tape.trans h.kp.tape,hs.output.trans h.kp.output,eM h.kp.size hs.size,λb hb=>?_,λa b x hb=>?_⟩,⟨h.sh.old,λa b x l hl=>?_,λl b hl hb=>h.sh.new l b hl (eM hs.size hb)⟩,h.still,h.le.trans hs.le⟩
  .rw[hs.keep b (lE hb h.kp.size) (λa x=>h.kp.old a b x hb)]
   exact h.kp.block b hb
  .rcases hs.new a b x with y|⟨y,_⟩
   .exact h.kp.old a b y hb
   .have:=h.kp.size;omega
  .rcases hs.new a b x with y|⟨y,_⟩
   .exact h.sh.rel a b y l hl
   .exact h.sh.new l b hl y
def tauA (R:Pr)(St:Nat->Prop)(W0:aE):cF:=⟨λb=>∃a,R a b/\¬St a,λb=>b<W0.heap.size\/∃a,R a b/\St a,λ_=>False⟩
def zDd {R:Pr}:vO (tauA R St W0) R St:=λa b x=>⟨λh=>.inr ⟨a,x,h⟩,λh=>⟨a,x,h⟩⟩
variable {m':Fm}
theorem BO.aloneIn {R:Pr}{m:Fm}{w W:aE}(h:BO (Fg p gs fs Post Shun W0 St K R base) () m w)(hw:cV (SF fs) K R (o5 p) St w W)(hm:FmW (Fg p gs fs Post Shun W0 St K R base) R m m')(lL:Sh W0.heap.size Shun R W)(hk:Kp W0 R St W):
 J p Post Shun W.heap.size (G m'.fr base) W:=by
 have:=h R W m' (tauA R St W0) hw hm zDd ⟨hk,lL,λb hb=>.inl hb,.refl R⟩;rw[Cx.B_some rfl] at this;have e:fx [] (Fg p gs fs Post Shun W0 St K R base).ds m'=m'.fr:=Hk _;rw[e] at this;refine this (λb hb=>?_) lL.new;rcases hb with⟨a,x,_⟩|hb|⟨a,x,_⟩
 .exact⟨(hw.lt a b (.inl x)).2,lL.rel a b x⟩
 .exact⟨lE hb hk.size,λl hl=>lL.old l b hl hb⟩
 .exact⟨(hw.lt a b (.inl x)).2,lL.rel a b x⟩
theorem BO.aloneOut {op zhA:aO->Bool}{m:Fm}{ms ms':List Fm}(hm:pA (PL p op zhA) fs K R0 m m')(iZ:uL (PL p op zhA) fs K R0 ms ms')(rS:base=m'.fr::ms'.map Fm.fr){ops:Array aZ}{i:Nat}{rest:List Nat}{k:List Item}(hr:m.ret=false)(pT:m.todo=.inRegion ops (i::rest)::k)
 {f:aO} {tmps:Array aF} {todo:List Item} {w:aE} {v:aF} {fnf:Func} (hf:p.funcs[f]? =some fnf) (l6:Du fnf.results.toList) (hv:(oN fnf.results.toList tmps).run p w=.ok v w) (hJ:JL p op zhA fs St W0 Post (m.fin ops i rest k v) ms w):
 BO (Fg p gs fs Post Shun W0 St K R0 base) () ⟨f,tmps,todo,true⟩ w:=by
 intro R W x' τ hw hx ht hi;have hi:IA W0 St Shun R0 R τ W:=hi;obtain⟨f',bQ,yJ,yB⟩:=x';obtain rfl:=hx.fn;obtain rfl:=hx.todo;obtain rfl:=hx.ret;have vX:m'.ret=false:=hm.ret.symm.trans hr;have O3:m'.todo=.inRegion ops (i::rest)::k:=hm.todo.symm.trans pT;refine Cx.ownQ rfl λaX s=>?_;have hC:=dA (p:=p) (gs:=gs) (fs:=fs) (Post:=Post) (Shun:=Shun) (W0:=W0) (St:=St) (K:=K) (R0:=R0) (base:=base);have dI:cV (SF fs) K R (o5 p) St w aX:=Cx.Rel.suf (C:=Fg p gs fs Post Shun W0 St K R0 base) hw ht s;have yU:IA W0 St Shun R0 R τ aX:=hC.suf _ _ _ _ hi s
 let T:Tape:=λn q=>aX.tape (aX.drawn+n) q
 have yF:cV (SF fs) K R (o5 p) St (Tt.tp w T 0) aX:=⟨dI.inj,dI.inj',dI.lt,dI.low,dI.gle,dI.cont,dI.rest,dI.st,dI.np,dI.tb⟩;have L0:Tp (Tt.tp w T 0) aX:=λn q=>by show aX.tape (aX.drawn+(0+n)) q=_;rw[Nat.zero_add]
 have cH:=(Oi _ _ w v w hv).2 T 0;obtain⟨R1,v',W1,ev,e1,g3,e3,e4,e5⟩:=aG.run (P:=PS p gs) rfl _ (zis hx.tmps fnf.results.toList) yF L0 cH;obtain⟨zeG,_⟩:=Oi _ _ aX v' W1 e1;subst zeG;have Pn:(zJ p ⟨f,bQ,todo,true⟩ [m']).run p W1=.ok (m'.fin ops i rest k v',[]) W1:=(Md O3 hf e1).1;obtain⟨_,_,_,e⟩:=zgf (main:=true) rfl vX Pn [] .nil (ms'.map Fm.fr);rw[Hk,Hk] at e;have Qt:fx [] (Fg p gs fs Post Shun W0 St K R0 base).ds ⟨f,bQ,todo,true⟩=(⟨f,bQ,todo,true⟩:Fm).fr:=Hk _;rw[Qt];have Ry:∀e∈seen p f ((zJ p ⟨f,bQ,todo,true⟩ [m']).events p W1 #[]),Ga R1 St e:=λe he=>by
  rw[(Md O3 hf e1).2,e4] at he;exact e5 e (by simpa using mem_seen he)
 have Cf:∀a b,R1 a b->R a b\/(W1.heap.size<=b/\b<W1.heap.size):=λa b x=>by
  rcases e3.new a b x with y|⟨_,y⟩
  .exact .inl y
  .exact .inr ⟨y,(e3.rel.ltR a b x).2⟩
 have Gb:vO (τ.grow W1 W1) R1 St:=λa b x=>by
  rcases e3.new a b x with y|⟨y1,y2⟩
  .exact⟨(ht a b y).1,λz=>.inl ((ht a b y).2 z)⟩
  .have:=(e3.rel.ltR a b x).2;omega
 have zT:IA W0 St Shun R0 R1 (τ.grow W1 W1) W1:=hC.step R τ W1 R1 W1 yU ht ⟨e3.le,rfl,rfl,rfl,aV _,Cf,λ_ _ _=>rfl⟩;refine⟨G (m'.fin ops i rest k v').fr (ms'.map Fm.fr),W1,_,?_,rfl,zW.id _ _,λe he=>zdR (Ry e he) Gb,?_⟩
 .show stepG p true (G (Fm.fr _) base) W1=_
  rw[rS];exact e
 .rw[Cx.B_some rfl]
  intro _ _;have Rv:cV (SF fs) K R1 (o5 p) St w W1:=⟨e3.rel.inj,e3.rel.inj',e3.rel.lt,e3.rel.low,e3.rel.gle,e3.rel.cont,e3.rel.rest,e3.rel.st,e3.rel.np,e3.rel.tb⟩;have hle:R0.le R1:=yU.le.trans e3.le;exact hJ K R1 W1 _ ms' Shun Rv ((hm.mono hle).fin pT g3) (iZ.mono hle) zT.sh zT.kp
end
end Go.Mt
namespace Go.Mt
open Go.Conc Go.Tt Go.RowKit Go.Conc.Lib Go.ConcR.Gen
open Go.ConcR (KK wgBlock WgAt stA smA rd wr mk Payload DC0)
variable [Payload]{Lk:WgLink}
section
variable {p:bR}
theorem zAk (H:WgLib p Lk)(Wg:Nat):Fq p Lk.wait #[.pointer (some ⟨Wg,0,none⟩)] .normal=(Kw Lk.wait).at ⟨#[.pointer (some ⟨Wg,0,none⟩),aA,aA,aA,aA,aA,aA,aA,aA,aA,aA,aA,aA,aA,aA,aA,aA,aA,aA,aA,aA,aA,aA,aA,aA,aA,aA,aA,aA,aA,aA,aA,aA,aA,aA,aA,aA,aA,aA,aA,aA,aA,aA,aA,aA,aA,aA,aA,aA,aA,aA,aA,aA,aA,aA,aA,aA,aA,aA,aA,aA,aA,aA,aA,aA,aA,aA,aA,aA,aA,aA,aA,aA,aA,aA,aA,aA,aA,aA,aA,aA,aA,aA,aA],[]⟩ [.code (body_wait Lk)]:=by
 have h:=zn0 (P:=p) (f:=Lk.wait) (fn:=waitFn Lk) (c:=body_wait Lk) #[.pointer (some ⟨Wg,0,none⟩)] H.f_wait rfl;rw[h];have e:(waitFn Lk).ntmps=84:=rfl;rw[e]
 walk_nrm
theorem zCp (H:WgLib p Lk)(Wg:Nat):Fq p Lk.add #[.pointer (some ⟨Wg,0,none⟩),.int .i64 1] .normal=(Kw Lk.add).at ⟨#[.pointer (some ⟨Wg,0,none⟩),.int .i64 1,aA,aA,aA,aA,aA,aA,aA,aA,aA,aA,aA,aA,aA,aA,aA,aA,aA,aA,aA,aA,aA,aA,aA,aA,aA,aA,aA,aA,aA,aA,aA,aA,aA,aA,aA,aA,aA,aA,aA,aA,aA,aA,aA,aA,aA,aA,aA,aA,aA,aA,aA,aA,aA,aA,aA,aA,aA,aA,aA,aA,aA,aA,aA,aA,aA,aA,aA,aA,aA,aA,aA,aA,aA,aA,aA,aA,aA,aA,aA,aA,aA,aA,aA,aA,aA,aA,aA,aA,aA,aA,aA,aA,aA,aA,aA,aA,aA,aA,aA,aA,aA,aA,aA,aA,aA,aA,aA,aA,aA,aA,aA,aA,aA,aA,aA],[]⟩ [.code (Mi Lk)]:=by
 have h:=zn0 (P:=p) (f:=Lk.add) (fn:=addFn Lk) (c:=Mi Lk) #[.pointer (some ⟨Wg,0,none⟩),.int .i64 1] H.f_add rfl;rw[h];have e:(addFn Lk).ntmps=117:=rfl;rw[e]
 walk_nrm
end
section
variable {L:Type}{C:Cx L}{l nx:L}{I0:Pr->cF->aE->Prop}
theorem zoW (hC:C.ty=Lk.tWg)(hX:IX Lk.tWg C.Wg I0){R:Pr}{τ:cF}{w:aE}(ht:vO τ R C.St):Gs Lk.tWg C.Wg τ (λW=>C.Rel R w W/\I0 R τ W):=by
 refine⟨λW W' s hF=>⟨zlZ hF.1 ht (λa b x=>(hF.1.lt a b (.inr x)).2) s,hX.suf _ _ _ _ hF.2 s⟩,λW a v ha hF=>⟨?_,hX.cell _ _ _ _ _ hF.2 ha⟩⟩;exact cV.real hF.1 (λx b hx=>za8 W a v (by rw[ha];exact hX.rel _ _ _ hF.2 x b hx)) (by rw[H5];exact aV _)
theorem BO.add (H:WgLib C.p Lk)(ha:C.alone=none)(zfY:C.main=true)(Cs:C.ty=Lk.tWg)(hI:fF C)(zeF:C.I=yI Lk.tWg C.Wg I0)(hX:IX Lk.tWg C.Wg I0){fn:aO}{tmps:Array aF}{ops:Array aZ}{i:Nat}{rest:List Nat}{k:List Item}{w:aE}{o:aZ}{s:Tmp}{kT:Array aM}
 (ho:ops[i]? =some o) (cD:dD o (yielded ops tmps)=true) (hop:o.op=.call ⟨.value (.func Lk.add),#[.tmp s,.const (.int .i64 1)],kT⟩) (Dm:(s,.pointer (some ⟨C.Wg,0,none⟩))∈C.pin) (lH:∀s,o.dst=some s->s∉C.S) (pS:C.A.act l=.add nx)
 (h:BO C nx ⟨fn,(cC ⟨tmps,[]⟩ o.dst (.tuple #[])).tmps,.inRegion ops rest::k,false⟩ w):BO C l ⟨fn,tmps,.inRegion ops (i::rest)::k,false⟩ w:=by
 intro R W m' τ hw hm ht hi;obtain⟨fn',bQ,yJ,yB⟩:=m';obtain rfl:=hm.fn;obtain rfl:=hm.todo;obtain rfl:=hm.ret;have uO:=Ip (C:=C) hm.tmps cD;have h5:=hm.pins _ Dm;have hb:=C.ds.ok;rw[mH,Cx.B_none ha,zfY,Cs];rw[zeF] at hi;have kf:=zoW (C:=C) (w:=w) Cs hX ht;have D7:∀v,cC ⟨bQ,C.ds.ds⟩ o.dst v=⟨(cC ⟨bQ,[]⟩ o.dst v).tmps,C.ds.ds⟩:=λv=>by cases o.dst<;>rfl
 refine Nx rfl rfl (g':=G ((Kw Lk.add).at ⟨#[.pointer (some ⟨C.Wg,0,none⟩),.int .i64 1,aA,aA,aA,aA,aA,aA,aA,aA,aA,aA,aA,aA,aA,aA,aA,aA,aA,aA,aA,aA,aA,aA,aA,aA,aA,aA,aA,aA,aA,aA,aA,aA,aA,aA,aA,aA,aA,aA,aA,aA,aA,aA,aA,aA,aA,aA,aA,aA,aA,aA,aA,aA,aA,aA,aA,aA,aA,aA,aA,aA,aA,aA,aA,aA,aA,aA,aA,aA,aA,aA,aA,aA,aA,aA,aA,aA,aA,aA,aA,aA,aA,aA,aA,aA,aA,aA,aA,aA,aA,aA,aA,aA,aA,aA,aA,aA,aA,aA,aA,aA,aA,aA,aA,aA,aA,aA,aA,aA,aA,aA,aA,aA,aA,aA,aA],[]⟩ [.code (Mi Lk)]) ((C.ds.base fn).at ⟨bQ,C.ds.ds⟩ (.inRegion ops (i::rest)::k)::C.base)) (λFv s2=>?_) λFv s2=>?_
 .obtain⟨x1,x2⟩:=zbP (p:=C.p) (o:=o) hop (ρ:=(bJ bQ C.ds.ds).eval) (λg=>rfl) H.f_add rfl rfl Fv
  have tD:(#[.tmp s,.const (.int .i64 1)]:Array cN).map (bJ bQ C.ds.ds).eval=#[.pointer (some ⟨C.Wg,0,none⟩),.int .i64 1]:=by simp only[uW,fL,tM,wA];rw[h5]
  rw[tD] at x1;have zby:=stepG_enter (main:=true) (b:=C.ds.base fn) (a:=⟨bQ,C.ds.ds⟩) (rest:=rest) (cs:=C.base) (k:=k) ho uO hb x1;rw[zby];unfold listed;rw[x2,Ce,zCp H]
 .refine addW (A:=C.A) (b₀:=C.ds.base fn) (a₀:=⟨bQ,C.ds.ds⟩) (ops₀:=ops) (i₀:=i) (rest₀:=rest) (k₀:=k) (cs:=C.base) (Fin:=C.Fin) (l:=l) (nx:=nx) (Wg:=C.Wg) H pS kf (λW5 h5 zEU=>?_) Fv ⟨kf.suf _ _ s2 ⟨hw,hi.1⟩,s2.live hi.2⟩
  have hB:=h R W5 ⟨fn,(cC ⟨bQ,[]⟩ o.dst (.tuple #[])).tmps,.inRegion ops rest::k,false⟩ τ h5.1 ⟨rfl,rfl,rfl,Jj (C:=C) hm.tmps (.tuple rfl λi v v' h=>by simp at h),Ix (C:=C) hm.pins lH⟩ ht (by rw[zeF];exact⟨h5.2,zEU⟩);rw[mH,Cx.B_none ha,zfY,Cs] at hB;rw[ho];simp only[Option.bind_some];rw[D7];exact hB
end
section
variable {L:Type}{C:Cx L}{l nx lc:L}
structure ziI (τ τm τc:cF)(pub:List Nat)(W:aE):Prop where
 own:∀b,τm.own b\/τc.own b->τ.own b
 still:∀b,τm.still b\/τc.still b->τ.still b\/τ.own b
 pass:∀b,τm.pass b\/τc.pass b->τ.pass b\/τ.own b\/τ.still b
 apart:∀b,τm.own b->¬τc.own b/\¬τc.still b/\¬τc.pass b
 apart':∀b,τc.own b->¬τm.still b/\¬τm.pass b
 pub:∀a∈pub,τ.own a/\Ij W a/\¬τm.own a/\¬τm.still a/\¬τc.own a/\¬τc.still a
theorem BO.go (ha:C.alone=none)(hI:fF C){fn:aO}{tmps:Array aF}{ops:Array aZ}{i j:Nat}{rest:List Nat}{k:List Item}{w:aE}{o1 o2:aZ}{s:Tmp}{f:aO}{Fx:Array cN}{pub:List Nat}
 (yT:ops[i]? =some o1) (zb9:ops[j]? =some o2) (rG:o1.guard=none) (yA:o2.guard=none) (ztK:o1.op=.makeFunc (.func f) #[] Fx) (Nk:o1.dst=some s) (zw3:o2.op=.go ⟨.value (.tmp s),#[],#[]⟩) (Ah:o2.dst=none) (pS:C.A.act l=.spawn pub lc nx) (hs:s<tmps.size)
 (h:∀(R:Pr) (W:aE) (bQ:Array aF) (τ:cF),C.Rel R w W->bK (SF C.fs) C.K R tmps bQ->(∀x∈C.pin,bQ.getD x.1 aA=x.2)->vO τ R C.St->C.I R τ W->∃τm τc,ziI τ τm τc pub W/\
  bY C.p C.ty C.Wg C.A C.Fin C.main (.usr nx) 0 τm (G ((C.ds.base fn).at ⟨bQ.setIfInBounds s (.func (.func f) #[] (Fx.map (bJ bQ C.ds.ds).eval)),C.ds.ds⟩ (.inRegion ops rest::k)) C.base) W/\
  bY C.p C.ty C.Wg C.A C.Fin false (.usr lc) 0 τc (born C.p {target:=.fn (.func f) (Fx.map (bJ bQ C.ds.ds).eval),args:=#[]}) W):BO C l ⟨fn,tmps,.inRegion ops (i::j::rest)::k,false⟩ w:=by
 intro R W m' τ hw hm ht hi;obtain⟨fn',bQ,yJ,yB⟩:=m';obtain rfl:=hm.fn;obtain rfl:=hm.todo;obtain rfl:=hm.ret;have hb:=C.ds.ok;rw[mH,Cx.B_none ha];have cG:=Nat.lt_of_lt_of_eq hs hm.tmps.1;obtain⟨zLl,zJW,type1,zw1,zpY,zJ3⟩:=o1;obtain⟨zKu,zL3,type2,ztH,zwO,zLy⟩:=o2;simp only at rG yA ztK zw3 Nk Ah;subst rG yA ztK zw3 Nk Ah;have wn:∀{o:aZ} {t:Array aF},o.guard=none->dD o (yielded ops t)=true:=λh=>by unfold dD;rw[h]
 refine Nx rfl rfl (g':=G ((C.ds.base fn).at ⟨bQ.setIfInBounds s (.func (.func f) #[] (Fx.map (bJ bQ C.ds.ds).eval)),C.ds.ds⟩ (.inRegion ops (j::rest)::k)) C.base) (λaX s1=>?_) λaX s1=>?_
 .have x1:(aS (bJ bQ C.ds.ds).eval ⟨some s,.makeFunc (.func f) #[] Fx,type1,zw1,zpY,none⟩).run C.p aX=.ok (.value (.func (.func f) #[] (Fx.map (bJ bQ C.ds.ds).eval))) aX:=by simp[aS,go_sem,zx9,pure,bD]
  have x2:(aS (bJ bQ C.ds.ds).eval ⟨some s,.makeFunc (.func f) #[] Fx,type1,zw1,zpY,none⟩).events C.p aX #[]=#[]:=by simp[aS,go_sem,zx9]
  rw[stepG_value yT (wn rfl) hb x1];unfold listed;rw[x2,Ce];rfl
 .refine bY.usr rfl ?_
  unfold mE;rw[pS];refine⟨rfl,λFv s2=>?_⟩;have s3:=s1.trans s2;obtain⟨τm,τc,hp,Hb,nM⟩:=h R Fv bQ τ (hw.suf ht s3) hm.tmps hm.pins ht (hI.suf _ _ _ _ hi s3);refine⟨_,_,τm,τc,?_,rfl,rfl,hp.own,hp.still,hp.pass,hp.apart,hp.apart',hp.pub,Hb,nM⟩;have x0:(bJ (bQ.setIfInBounds s (.func (.func f) #[] (Fx.map (bJ bQ C.ds.ds).eval))) C.ds.ds).eval (.tmp s)=.func (.func f) #[] (Fx.map (bJ bQ C.ds.ds).eval):=by
   simp[wA,Array.getD_eq_getD_getElem?,cG]
  have x1:(aS (bJ (bQ.setIfInBounds s (.func (.func f) #[] (Fx.map (bJ bQ C.ds.ds).eval))) C.ds.ds).eval ⟨none,.go ⟨.value (.tmp s),#[],#[]⟩,type2,ztH,zwO,none⟩).run C.p Fv=.ok (.spawn {target:=.fn (.func f) (Fx.map (bJ bQ C.ds.ds).eval),args:=#[]}) Fv:=by
   simp only[aS,resolve,x0];simp[Co,go_sem]
  have x2:(aS (bJ (bQ.setIfInBounds s (.func (.func f) #[] (Fx.map (bJ bQ C.ds.ds).eval))) C.ds.ds).eval ⟨none,.go ⟨.value (.tmp s),#[],#[]⟩,type2,ztH,zwO,none⟩).events C.p Fv #[]=#[]:=by
   simp only[aS,resolve,x0];simp[Co,go_sem]
  rw[stepG_spawn zb9 (wn rfl) hb x1 rfl];unfold listed;rw[x2,Ce];rfl
end
end Go.Mt
namespace Go.Mt
open Go.Conc Go.Tt
open Go.ConcR (KK wgBlock WgAt stA smA rd wr mk Payload DC0)
inductive xN (S:aO->Prop)(K R:Pr):List aF->List aF->Prop
 |nil:xN S K R [] []
 |cons {v v':aF} {l l':List aF}:VR S K R v v'->xN S K R l l'->xN S K R (v::l) (v'::l')
variable {S:aO->Prop}{K R:Pr}{l l':List aF}
theorem xN.len (h:xN S K R l l'):l.length=l'.length:=by
 induction h with
 |nil=>rfl
 |cons _ _ ih=>simp[ih]
theorem xN.get (h:xN S K R l l'):∀(i:Nat) (v v':aF),l[i]? =some v->l'[i]? =some v'->VR S K R v v':=by
 induction h with
 |nil=>intro i v v' h1;simp at h1
 |cons a _ ih=>
  intro i v v' h1 h2
  cases i with
  |zero=>
   simp only[List.getElem?_cons_zero,fY] at h1 h2;subst h1 h2;exact a
  |succ i=>exact ih i v v' Ua Sg
theorem zqQ (h:xN S K R l l'):bK S K R l.toArray l'.toArray:=
 ⟨by simpa using h.len,λi v v' h1 h2=>h.get i v v' Ua Sg⟩
structure IM2 (W0:aE)(St:Nat->Prop)(Shun:Loc->Prop)(Wg:Nat)(SS:Nat->Prop)(R0:Pr)(Fz:Nat->Prop)(Wf:aE)(chs:List Nat)(R:Pr)(τ:cF)(W:aE):Prop where
 x:IMX W0 St Shun Wg SS R0 Fz Wf R τ W
 dis:∀b,τ.own b->¬τ.still b
 slt:∀b,τ.still b->b<W.heap.size
 ch:∀c∈chs,τ.own c/\Ij W c/\∀a,¬R a c
section
variable {W0:aE}{St:Nat->Prop}{Shun:Loc->Prop}{Wg:Nat}{SS:Nat->Prop}{R0:Pr}{Fz:Nat->Prop}{Wf:aE}{chs:List Nat}
def Ij.lt {W:aE}{c:Nat}(h:Ij W c):c<W.heap.size:=(dQ.1 h).1
theorem zrI {ty:aM}(vJ:∀b,b<W0.heap.size->SS b)(hF:∀b,Fz b->SS b)(nX:W0.heap.size<=Wg):IX ty Wg (IM2 W0 St Shun Wg SS R0 Fz Wf chs):=by
 have hx:=zo2 (ty:=ty) (St:=St) (Shun:=Shun) (Wg:=Wg) (R0:=R0) (Wf:=Wf) vJ hF nX;refine⟨λR τ W aX h s=>⟨hx.suf _ _ _ _ h.x s,h.dis,λb hb=>lE (h.slt b hb) s.size,λc hc=>?_⟩,λR τ W a v h ha=>⟨hx.cell _ _ _ _ _ h.x ha,h.dis,λb hb=>by rw[H5];exact h.slt b hb,λc hc=>?_⟩,λR τ W d h=>⟨hx.at_ _ _ _ d h.x,h.dis,h.slt,h.ch⟩,λR τ W h=>h.x.im.rel⟩
 .obtain⟨h1,h2,h3⟩:=h.ch c hc
  exact⟨h1,(s.keep c (.inl h1)).trans h2,h3⟩
 .obtain⟨h1,h2,h3⟩:=h.ch c hc
  exact⟨h1,(za8 W a v (by rw[ha];exact h.x.im.own c h1)).trans h2,h3⟩
variable {L:Type}{C:Cx L}
theorem im2_ok (hC:C.I=yI C.ty C.Wg (IM2 W0 St Shun C.Wg SS R0 Fz Wf chs))(aY:∀a,St a->C.St a)(vJ:∀b,b<W0.heap.size->SS b)(hF:∀b,Fz b->SS b)(nX:W0.heap.size<=C.Wg):fF C:=by
 have h0:=imx_ok (C:={C with I:=yI C.ty C.Wg (IMX W0 St Shun C.Wg SS R0 Fz Wf)}) rfl aY vJ hF nX;have hx:=zrI (ty:=C.ty) (St:=St) (Shun:=Shun) (R0:=R0) (Wf:=Wf) (chs:=chs) vJ hF nX;refine⟨λR τ W aX h s=>?_,λR τ W R1 W1 h ht hs=>?_⟩<;>rw[hC] at*
 .exact⟨hx.suf _ _ _ _ h.1 s,s.live h.2⟩
 .obtain⟨k1,k2⟩:=h0.step R τ W R1 W1 ⟨h.1.x,h.2⟩ ht hs
  refine⟨⟨k1,λb hb F6=>?_,λb hb=>lE (h.1.slt b hb) hs.size,λc hc=>?_⟩,k2⟩
  .rcases hb with hb|⟨hb,_⟩
   .exact h.1.dis b hb F6
   .have:=h.1.slt b F6;omega
  .obtain⟨h1,h2,h3⟩:=h.1.ch c hc
   refine⟨.inl h1,(hs.keep c h2.lt λa x=>absurd x (h3 a)).trans h2,λa x=>?_⟩;rcases hs.new a c x with y|⟨y,_⟩
   .exact h3 a y
   .have:=h2.lt;omega
variable {S:aO->Prop}{K R:Pr}{G:Gp}{eP:Nat->Prop}{w W:aE}{τ:cF}{X:Nat->Bool}
def Gd (R:Pr)(St:Nat->Prop)(X:Nat->Bool)(b:Nat):Prop:=∃a,R a b/\(St a\/X a=true)
def tauP (R:Pr)(St:Nat->Prop)(W0:aE)(chs:List Nat):cF:=⟨λb=>(∃a,R a b/\¬St a)\/b∈chs,λb=>b<W0.heap.size\/∃a,R a b/\St a,λ_=>False⟩
def terra_p:vO (tauP R St W0 chs) R St:=λa b x=>⟨λh=>.inr ⟨a,x,h⟩,λh=>.inl ⟨a,x,h⟩⟩
end
end Go.Mt
