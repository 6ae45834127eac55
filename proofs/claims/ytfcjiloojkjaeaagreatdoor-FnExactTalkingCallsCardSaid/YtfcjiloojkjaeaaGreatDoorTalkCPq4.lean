/-
  Part 4 of what stands behind the last text.
-/
import Derived.Lib.SlicesDelete
import Derived.Test.YtfcjiloojkjaeaaGreatDoorShelf
import Derived.Test.YtfcjiloojkjaeaaGreatDoorTalkCPq3
set_option linter.all false
set_option maxHeartbeats 16000000
set_option maxRecDepth 100000
open Array renaming eraseIdxIfInBounds→zp9,getElem?_eq_some_iff→dP,getElem?_mapIdx→Nv,getElem?_setIfInBounds_ne→jV,getElem?_toList→Aw,getElem_map→zkq,getElem_range→znv,getElem_toList→ziS,length_toList→Ds,toList_eraseIdx→zsW,toList_modify→zsz,toList_push→zsK
open Bool renaming and_eq_true→fU
open Go renaming Act→tK,Addr→bL,Calls→fN,ChanDir→Nu,Deferred→Ew,Exit→n5,FuncId→aP,MapEntry→oP,Oper→aZ,Operand→cM,Program→bS,TypeId→aM,Value→aF,World→aE,bodyPost_ret→rM,execOp→aS,heap_alloc_new→lF,info_parts→y8,run_append_room→zon,run_storeCells_at→zr5,run_underlying→wU,setRow_heap→L0,size_zeroCells→Ys,undef→aA,wpList_plain→Q0
open Go.Act renaming eval→wF,mk→bH,put→cC
open Go.Addr renaming add_lit→Lo
open Go.Builtin renaming append_→xG,clear_→Si,copy_→C7,delete_→J0,zeroCells→qD
open Go.Code renaming region→Ep
open Go.Conc renaming base→J5,enter_at→zr9,seen_none→Ct
open Go.ConcR.Gen renaming body_add→M2
open Go.Deferred renaming ofValue→Bu
open Go.Frame renaming enter→E0
open Go.Instr renaming checkKey→Gs,findAsking→Ku,findKey→Kd,findNow→G2,keyThatStays→Oy,lookup→zK,makeFunc→zxF,mapUpdate→Gi,sameBits→zai,sameNow→vT
open Go.MapKept renaming run_getObj_map→Yi,run_setObj_map→Xb
open Go.MemAct renaming ofEvent→jN,touch?→qQ
open Go.Op renaming mapUpdate→zoR,maxDepth→Tl
open Go.Oper renaming wp→Bm
open Go.Proofs.Tryz renaming checked→vK,func114→ztb,func117→zn4,func119→zxM,ntmps114→zrz,ntmps117→zpr,ntmps119→zt3,prog→aK,results40→zed,underlying26→zxh,underlying38→Y4,underlying66→zsJ,underlying69→znT
open Go.Region renaming wanted→dF
open Go.Result renaming andThen→uV,andThen_ok→Fq,ok→vZ
open Go.RowKit renaming Below→bV
open Go.RowKit.Below renaming heap_alloc→qO,heap_setCell→eH,refl→eF
open Go.Sem renaming getObj→zwu,run→bD,run_bind→Eg,run_pure→Iu
open Go.Value renaming agg→zmn,cells→Ta,slice→Sd
open Go.World renaming cell?_of_block→De,news_of_block→Fo,size_setCell→tD
open List renaming all_eq_true→tY,any_eq_true→Sx,append_assoc→Hs,append_nil→N1,countP_cons→zsk,drop_drop→zo2,drop_eq_getElem_cons→zgs,eraseIdx_cons_succ→ztt,ext_getElem?→Sw,filter_append→Qf,filter_eq_nil_iff→zrf,filter_eq_self→zg7,find?_eq_none→zdw,find?_some→zmo,foldl_cons→Qd,getD_cons_succ→C9,getD_cons_zero→Dn,getD_eq_getElem?_getD→Lj,getElem?_append_left→Ab,getElem?_append_right→At,getElem?_drop→Zv,getElem?_eq_getElem→lX,getElem?_eq_none→Ca,getElem?_eq_none_iff→zuo,getElem?_eq_some_iff→kD,getElem?_modify→zM,getElem?_set→zbb,getElem?_take→Zi,length_append→gN,length_cons→pT,length_drop→x3,length_eq_zero_iff→zu0,length_modify→F6,length_nil→rR,length_set→znk,length_take→rQ,map_append→Jl,map_cons→fO,map_nil→tW,map_toArray→uI,mem_append→Ee,mem_cons→jJ,mem_cons_of_mem→G4,mem_filter→Jd,mem_iff_getElem→L9,mem_iff_getElem?→G5,mem_map→Ia,mem_map_of_mem→Z5,mem_of_find?_eq_some→zgX,mem_of_getElem?→dZ,mem_of_mem_drop→zb2,mem_range→Bz,mem_singleton→sZ,nodup_append→zhX,nodup_cons→Dq,nodup_nil→Qu,range→gF,setIfInBounds_toArray→gK,set_append_left→zqW,set_cons_succ→dV,set_cons_zero→dU,size_toArray→Eh,take_add_one→Nf,take_append_drop→zuJ,take_append_of_le_length→Ft,take_of_length_le→zB,take_take→Qg
open Nat renaming add_mul→V6,add_zero→Ur,eq_zero_or_pos→Qa,le_max_left→zv6,le_refl→aX,le_succ→Rt,le_trans→eG,lt_irrefl→Cr,lt_of_lt_of_le→lD,lt_or_ge→nC,lt_succ_self→xH,min_self→zkE,mod_two_eq_zero_or_one→zqM,mul_le_mul_right→Aj,mul_one→zpB,sub_self→Og,zero_le→jT
open Option.some renaming inj→cE,injEq→gA
open Prod renaming fst→uP,snd→zvA
noncomputable section
namespace Go
def cS{P:Prop}(h:P:=by unfold parts;simp[e]):P:=h
def zdv{P:Prop}(h:P:=by simp[Act.eval,Act.put];first|exact⟨by simpa using hA,by omega⟩|simpa[zeJ] using hA|(simp at hA;simp[hA])):P:=h
def zdP{P:Prop}(h:P:=by simp[Act.eval,Act.put]):P:=h
def zvR{P:Prop}(h:P:=by rw[gN,l1,uW];have:=V6 i (n-j) 1;omega):P:=h
def zrb{P:Prop}(h:P:=by rw[gN,l1,uW];have:=V6 i (n-j) 2;omega):P:=h
def zeg{P:Prop}(h:P:=by unfold parts;simp):P:=h
def zjO{P:Prop}(h:P:=by have:=h.size;omega):P:=h
def zmu{P:Prop}(h:P:=by unfold y5;omega):P:=h
end Go
namespace Go.Proofs.YtfcjiloojkjaeaaGreatDoor
open Go.RowKit
structure sY (w0 w:aE)(gb:Nat)(o:jG)(v:fL)(r:bX):Prop where
 ok:eA w gb v r
 bel:bV gb w0 w
 ofc:w.heap[gb]? =some (.cells #[.int .i64 o.ln,.int .i64 o.op,.int .i64 o.pt] 29)
 res:w.heap[gb+1]? =some jX
 blk:w.heap[gb+6]? =some (yA v r)
 aR:gb+2<=v.gR/\v.gR≠gb+6
 aW:gb+2<=v.gW/\v.gW≠gb+6
 aB:gb+2<=v.gB/\v.gB≠gb+6
 aL:gb+2<=v.gL/\v.gL≠gb+6
 size:gb+7<=w.heap.size
section
variable {w0 w w':aE}{gb:Nat}{o:jG}{v v':fL}{r r':bX}
def sY.keep (h:sY w0 w gb o v r)(b:bV w.heap.size w w'):sY w0 w' gb o v r:=
 ⟨h.ok.below b,h.bel.trans (b.mono zjO),(b.block _ (fP h.ofc)).trans h.ofc,(b.block _ (fP h.res)).trans h.res,(b.block _ (fP h.blk)).trans h.blk,h.aR,h.aW,h.aB,h.aL,eG h.size b.size⟩
def sY.alloc (h:sY w0 w gb o v r)(ob:Obj):sY w0 (w.alloc ob) gb o v r:=h.keep (dN (eF _ _) ob)
def sY.drew (h:sY w0 w gb o v r):sY w0 w.drew gb o v r:=h.keep ⟨rfl,rfl,rfl,aX _,λ_ _=>rfl⟩
theorem sY.stepped (h:sY w0 w gb o v r)(ok:eA w' gb v' r')(t:oF v w w')(m:wS w.heap.size v v'):
 bV gb w0 w'/\w'.heap[gb]? =w.heap[gb]? /\w'.heap[gb+1]? =w.heap[gb+1]? /\w'.heap[gb+6]? =w.heap[gb+6]? /\(gb+2<=v'.gR/\v'.gR≠gb+6)/\(gb+2<=v'.gW/\v'.gW≠gb+6)/\(gb+2<=v'.gB/\v'.gB≠gb+6)/\(gb+2<=v'.gL/\v'.gL≠gb+6)/\w.heap.size<=w'.heap.size:=by
 have aR:=h.aR;have aW:=h.aW;have aB:=h.aB;have aL:=h.aL;have mr:=m.r;have mw:=m.w;have mb:=m.b;have ml:=m.l;have sz:=h.size;refine⟨⟨t.os.trans h.bel.os,t.tape.trans h.bel.tape,t.output.trans h.bel.output,eG h.bel.size t.size,λb hb=>?_⟩,t.block _ aC aC aC,t.block _ aC aC aC,t.block _ aC aC aC,aC,aC,aC,aC,t.size⟩;exact(t.block b aC aC aC).trans (h.bel.block b hb)
theorem sY.stored (ok:eA w gb v' r')(bel:bV gb w0 w)(e0:w.heap[gb]? =some (.cells #[.int .i64 o.ln,.int .i64 o.op,.int .i64 o.pt] 29))(e1:w.heap[gb+1]? =some jX)(e6:w.heap[gb+6]? =some (yA v r))
 (a1:gb+2<=v'.gR/\v'.gR≠gb+6) (a2:gb+2<=v'.gW/\v'.gW≠gb+6) (a3:gb+2<=v'.gB/\v'.gB≠gb+6) (a4:gb+2<=v'.gL/\v'.gL≠gb+6) (sz:gb+7<=w.heap.size):
 sY w0 (gT w (gb+6) (.int .i64 r'.o.ln) (.int .i64 r'.o.op) (.int .i64 r'.o.pt) (.int .i64 r'.clk) (v'.sR r') (v'.sW r') (v'.sB r') (v'.sL r')) gb o v' r':=by
 refine⟨ok.set8 aC,?_,(Hl aC).trans e0,(Hl aC).trans e1,zbq e6,a1,a2,a3,a4,by rw[zmL];exact sz⟩;have c:=zeQ w (gb+6) (.int .i64 r'.o.ln) (.int .i64 r'.o.op) (.int .i64 r'.o.pt) (.int .i64 r'.clk) (v'.sR r') (v'.sW r') (v'.sB r') (v'.sL r');exact bel.trans ⟨c.os,c.tape,c.output,c.size,λb hb=>c.block b aC aC⟩
theorem sY.appL {m g c:Nat}{x:List UInt8}(h:sY w0 w gb o v r)(hg:w.grownBy w' (some v.gL))(ho:w'.ownsRow gb 9 1 (.slice (some ⟨g,0,none⟩) m c) m (Fx r.log++[.string ⟨x.toArray⟩]))(hm:m=r.log.length+1)(hw:g=v.gL\/g=w.heap.size):
 sY w0 (w'.setCell ⟨gb+6,7,none⟩ (.slice (some ⟨g,0,none⟩) m c)) gb o {v with gL:=g,cL:=c} {r with log:=r.log++[x]}:=by
 have aR:=h.aR;have aW:=h.aW;have aB:=h.aB;have aL:=h.aL;have sz:=h.size;have l:=h.ok.lts;have hk:=h.ok.appL hg ho hm aC;have hs:=hg.size;have kb:=(zG hg h.blk aC).1;have k0:=(zG hg h.ofc aC).1;have k1:=(zG hg h.res aC).1;have aT:g≠gb+6:=aC;refine⟨hk.setCell (by refine⟨?_,?_,?_,?_⟩<;>(simp only;omega)),?_,(eH w' _ _ gb (by show gb≠gb+6;omega)).trans k0,(eH w' _ _ (gb+1) (by show gb+1≠gb+6;omega)).trans k1,?_,aR,aW,aB,⟨by simp only;omega,aT⟩,by rw[tD];omega⟩
 .refine⟨hg.os.trans h.bel.os,hg.tape.trans h.bel.tape,hg.output.trans h.bel.output,by rw[tD];exact eG h.bel.size hs,λb hb=>?_⟩
  exact((eH w' _ _ b (by show b≠gb+6;omega)).trans (hg.block b aC q8)).trans (h.bel.block b hb)
 .rw[nH kb]
  have e:=room_L v r g c (r.log++[x]);rw[hm];simp only[gN,pT,rR] at e;exact congrArg (λa=>some (Obj.cells a 59)) e
end
def zGa (o:jG)(es:List dD)(w:aE)(x:Ending)(w':aE):Prop:=
 ∃v,x=.returned (.tuple #[.agg (fW v (Gx o es)),.bool (jP o es)])/\eA w' w.heap.size v (Gx o es)/\bV w.heap.size w w'
variable {w0 w:aE}{gb:Nat}{o:jG}{v:fL}{r:bX}
theorem sY.done {a0 a1 a2 a3 a4 a5 a6 a7:aF}(h:sY w0 w gb o v r):eA (gT w (gb+1) a0 a1 a2 a3 a4 a5 a6 a7) gb v r/\bV gb w0 (gT w (gb+1) a0 a1 a2 a3 a4 a5 a6 a7):=by
 have aR:=h.aR;have aW:=h.aW;have aB:=h.aB;have aL:=h.aL;refine⟨h.ok.set8 aC,?_⟩;have c:=zeQ w (gb+1) a0 a1 a2 a3 a4 a5 a6 a7;exact h.bel.trans ⟨c.os,c.tape,c.output,c.size,λb hb=>c.block b zjO aC⟩
def sY.doneR (h:sY w0 w gb o v r)(v1:fL)(r1:bX):eA (gT w (gb+1) (.int .i64 r1.o.ln) (.int .i64 r1.o.op) (.int .i64 r1.o.pt) (.int .i64 r1.clk) (v1.sR r1) (v1.sW r1) (v1.sB r1) (v1.sL r1)) gb v r/\bV gb w0 (gT w (gb+1) (.int .i64 r1.o.ln) (.int .i64 r1.o.op) (.int .i64 r1.o.pt) (.int .i64 r1.clk) (v1.sR r1) (v1.sW r1) (v1.sB r1) (v1.sL r1)):=h.done
def zB9 {w':aE}{b g o1:Nat}{o2 o3 o4:Nat}{v1 v2 v3 v4:aF}(h:w.cell? ⟨b,o1,none⟩=some v1/\w.cell? ⟨b,o2,none⟩=some v2/\w.cell? ⟨b,o3,none⟩=some v3/\w.cell? ⟨g,o4,none⟩=some v4)(k1:w'.heap[b]? =w.heap[b]?)(k2:w'.heap[g]? =w.heap[g]?):
 w'.cell? ⟨b,o1,none⟩=some v1/\w'.cell? ⟨b,o2,none⟩=some v2/\w'.cell? ⟨b,o3,none⟩=some v3/\w'.cell? ⟨g,o4,none⟩=some v4:=
 ⟨(De k1).trans h.1,(De k1).trans h.2.1,(De k1).trans h.2.2.1,(De k2).trans h.2.2.2⟩
def zAx {b g o1:Nat}{o2 o3 o4:Nat}{v1 v2 v3 v4:aF}(h:w.cell? ⟨b,o1,none⟩=some v1/\w.cell? ⟨b,o2,none⟩=some v2/\w.cell? ⟨b,o3,none⟩=some v3/\w.cell? ⟨g,o4,none⟩=some v4):
 w.drew.cell? ⟨b,o1,none⟩=some v1/\w.drew.cell? ⟨b,o2,none⟩=some v2/\w.drew.cell? ⟨b,o3,none⟩=some v3/\w.drew.cell? ⟨g,o4,none⟩=some v4:=h
def zA3 (w:aE)(b:Nat):w.drew.heap[b]? =w.heap[b]? :=rfl
def zsU:(aK.info? 9).map (λi=>(i.zero,i.size,i.bytes))=some (some (.string ⟨#[]⟩),1,16):=aQ
variable {es:List dD}
theorem W9 (h:jP o es=false):Gx o es=mP o:=by unfold Gx;rw[h];rfl
theorem zyD (o:jG)(lo hi n c:Nat)(A:Option bL)(es:List dD)(w:aE)(h:b7 w lo hi 3 A n c (lN es))(hn:n<=1048576)(Se:hi<=w.heap.size):
 fN aK 40 #[.agg #[.int .i64 o.ln,.int .i64 o.op,.int .i64 o.pt],.slice A n c] w (zGa o es w):=by
 have Ck:=h.eventsLen;have Ox:=aD Ck;obtain⟨gb,eY⟩:=aU w.heap.size;have fT:=aD eY;clear Ck
 go_enter Tryz.func40,Tryz.ntmps40
 go_upto_region 2 with fail
 obtain⟨v0,fK⟩:=aU (⟨w.heap.size+1+1,0,w.heap.size+1+1+1,0,w.heap.size+1+1+1+1,0,w.heap.size+1+1+1+1+1,0⟩:fL)
 obtain⟨W1,dH⟩:∃y,y=(((((((w.alloc (.cells #[.int .i64 o.ln,.int .i64 o.op,.int .i64 o.pt] 29)).alloc jX).alloc (.cells #[] 50)).alloc (.cells #[] 100)).alloc (.cells #[] 100)).alloc (.cells #[] 9)).alloc
  (.cells #[.int .i64 o.ln,.int .i64 o.op,.int .i64 o.pt,.int .i64 0,.slice (some ⟨w.heap.size+1+1,0,none⟩) 0 0,.slice (some ⟨w.heap.size+1+1+1,0,none⟩) 0 0,.slice (some ⟨w.heap.size+1+1+1+1,0,none⟩) 0 0,.slice (some ⟨w.heap.size+1+1+1+1+1,0,none⟩) 0 0] 59)):=⟨_,rfl⟩
 have eZ:=aD (show sY w W1 gb o v0 (mP o) by
  have mQ:bV w.heap.size w W1:=by rw[dH];exact dN (dN (dN (dN (dN (dN (dN (eF _ _) _) _) _) _) _) _) _
  refine⟨⟨?_,?_,?_,?_,?_⟩,by rw[eY];exact mQ,?_,?_,?_,?_,?_,?_,?_,?_⟩
  .rw[fK];exact L5 Lt (by rw[dH];exact dB (dB (dB (dB (mI _ _ aO) _) _) _) _)
  .rw[fK];exact L5 Lt (by rw[dH];exact dB (dB (dB (mI _ _ aO) _) _) _)
  .rw[fK];exact L5 Lt (by rw[dH];exact dB (dB (mI _ _ aO) _) _)
  .rw[fK];exact L5 Lt (by rw[dH];exact dB (mI _ _ aO) _)
  .rw[fK];simp only;omega
  .rw[dH];exact dB (dB (dB (dB (dB (dB (mI _ _ eY) _) _) _) _) _) _
  .rw[dH];exact dB (dB (dB (dB (dB (mI _ _ Vy) _) _) _) _) _
  .rw[dH,fK];exact mI _ _ Vy
  .rw[fK];simp only;omega
  .rw[fK];simp only;omega
  .rw[fK];simp only;omega
  .rw[fK];simp only;omega
  .rw[dH,eY];simp)
 rw[<-dH];have e6:w.heap.size+1+1+1+1+1+1=gb+6:=aC;rw[e6,<-eY];clear dH fK e6 eY;have q0:=aJ eZ.o.ofc 0;have q1:=aJ eZ.o.ofc 1;have q2:=aJ eZ.o.ofc 2;cases hv:qJ o
 case false=>
  have fI:=aD (show jP o es=false by unfold jP;rw[hv];rfl)
  go_upto_region 3 with(go_at_call 34;refine(@zhZ (mP o,[]) o W1).mono ?_;rintro x w2 ⟨rfl,b2⟩;have pZ:=aD b2;rw[hv];clear b2)
  have nV:=aD (eZ.o.keep pZ.o);clear q0 q1 q2;have k:=aJ nV.o.blk;obtain⟨k0,k1,k2,k3,k4,k5,k6,k7⟩:=eP k;clear k;have z:=aJ nV.o.res;obtain⟨z0,z1,z2,z3,z4,z5,z6,z7⟩:=eP z;clear z;have r0:=eL nV.o.res
  go_wp2_with fail
  have er:=aJ (sU v0 (mP o) nV.o.res);refine rM (v:=.tuple #[.agg (fW (v0) (mP o)),.bool false]) ?_ rfl ?_
  .unfold gT at er
   simp[results,zed,go_sem,er]
  .obtain⟨d1,d2⟩:=nV.o.doneR v0 (mP o)
   exact⟨v0,by rw[fI.o];rw[W9 fI.o],by rw[W9 fI.o,<-fT.o];exact d1,by rw[<-fT.o];exact d2⟩
 case true=>
  by_cases zbk:n<=60
  case neg=>
   have fI:=aD (show jP o es=false by unfold jP;rw[hv,Ox.o];simp;intro h;omega)
   go_upto_region 3 with(go_at_call 34;refine(@zhZ (mP o,[]) o W1).mono ?_;rintro x w2 ⟨rfl,b2⟩;have pZ:=aD b2;rw[hv];clear b2)
   have nV:=aD (eZ.o.keep pZ.o);clear q0 q1 q2;have k:=aJ nV.o.blk;obtain⟨k0,k1,k2,k3,k4,k5,k6,k7⟩:=eP k;clear k;have z:=aJ nV.o.res;obtain⟨z0,z1,z2,z3,z4,z5,z6,z7⟩:=eP z;clear z;have r0:=eL nV.o.res
   go_wp2_with fail
   have er:=aJ (sU v0 (mP o) nV.o.res);refine rM (v:=.tuple #[.agg (fW (v0) (mP o)),.bool false]) ?_ rfl ?_
   .unfold gT at er
    simp[results,zed,go_sem,er]
   .obtain⟨d1,d2⟩:=nV.o.doneR v0 (mP o)
    exact⟨v0,by rw[fI.o];rw[W9 fI.o],by rw[W9 fI.o,<-fT.o];exact d1,by rw[<-fT.o];exact d2⟩
  case pos=>
   have HV:=aD hv
   go_upto_region 4 with(go_at_call 34;refine(@zhZ (mP o,[]) o W1).mono ?_;rintro x w2 ⟨rfl,b2⟩;have pZ:=aD b2;rw[hv];clear b2)
   have nV:=aD (eZ.o.keep pZ.o);clear q0 q1 q2 hv
   go_wp2_with fail
   go_loopw [7] (λi wr=>∃k:Nat,k<=n/\i=.int .i64 k/\sY w wr gb o v0 (mP o)/\∀j,j<k->∀e,es[j]? =some e->sO o.op e=true) (λi _=>n-(intOf i).toNat)
   case atStart=>exact⟨0,jT _,rfl,nV.o,λj hj=>absurd hj aC⟩
   case round=>
    obtain⟨k,hk,rfl,Yv,fV⟩:=hrel;have HC:=aD fV;have Ln:=aD Yv;clear fV Yv;by_cases aN:k<n
    .obtain⟨b,off,e,hA,dW,zBc,ziI,Em,e0,e1,e2⟩:=(h.below (fT.o▸Ln.o.bel)).eventsAt aN
     subst hA;have Nc:=aD Em;have zHC:b<gb:=by have:=fT.o;omega
     have i0:(0:Int)<=(k:Int):=aC;have i1:(k:Int)<(n:Int):=aC;have Dt:=aD (And.intro e0 (And.intro e1 (And.intro e2 (show wr.cell? ⟨gb,1,none⟩=some (.int .i64 o.op) from aJ Ln.o.ofc 1))));have zj7:gb<wr.heap.size:=fP Ln.o.ofc;clear Em e0 e1 e2
     go_wp2_with fail
     go_region_held3 (λW=>W.cell? ⟨b,off+k*3,none⟩=some (.string e.k)/\W.cell? ⟨b,off+k*3+1,none⟩=some (.int .i64 e.a)/\W.cell? ⟨b,off+k*3+2,none⟩=some (.int .i64 e.b)/\W.cell? ⟨gb,1,none⟩=some (.int .i64 o.op))
      (first|exact Dt.o|exact zAx Dt.o|exact S5)
      ((go_at_call 50;refine(@zDk (mP o,[]) e o.op wr.drew).mono ?_;rintro y w5 ⟨rfl,b5⟩;have zeb:bV wr.heap.size wr w5:=⟨b5.os,b5.tape,b5.output,b5.size,b5.block⟩;have Dx:=aD zeb;have S5:=zB9 Dt.o (zeb.block b aC) (zeb.block gb aC);clear b5 zeb))
     cases mJ:sO o.op e
     .have fI:=aD (show jP o es=false by
       unfold jP;rw[Bool.and_eq_false_iff];refine .inr (Bool.eq_false_iff.2 λtF=>?_);rw[tY] at tF;have:=tF e (dZ Nc.o);rw[mJ] at this;cases this)
      have nV:=aD (Ln.o.keep Dx.o);clear mJ S5;have k:=aJ nV.o.blk;obtain⟨k0,k1,k2,k3,k4,k5,k6,k7⟩:=eP k;clear k;have z:=aJ nV.o.res;obtain⟨z0,z1,z2,z3,z4,z5,z6,z7⟩:=eP z;clear z;have r0:=eL nV.o.res
      go_wp2_with fail
      have er:=aJ (sU v0 (mP o) nV.o.res);refine rM (v:=.tuple #[.agg (fW (v0) (mP o)),.bool false]) ?_ rfl ?_
      .unfold gT at er
       simp[results,zed,go_sem,er]
      .obtain⟨d1,d2⟩:=nV.o.doneR v0 (mP o)
       exact⟨v0,by rw[fI.o];rw[W9 fI.o],by rw[W9 fI.o,<-fT.o];exact d1,by rw[<-fT.o];exact d2⟩
     .go_wp2_with fail
      go_roundw
      case rel=>exact⟨k+1,aC,mV,Ln.o.keep Dx.o,λj hj e' Nw=>by
       by_cases e:j=k
       .subst e;rw[Nc.o] at Nw;injection Nw with Nw;exact Nw▸mJ
       .exact HC.o j aC e' Nw⟩
      case measure=>simp[intOf];omega
    .have e:k=n:=aC
     subst e;have bU:jP o es=true:=by
      unfold jP;rw[HV.o,Ox.o];simp only[Bool.true_and,fU,decide_eq_true_eq,tY];refine⟨zbk,λe he=>?_⟩;obtain⟨j,hj⟩:=G5.1 he;have uC:=(kD.1 hj).1;exact HC.o j (by rw[<-Ox.o];exact uC) e hj
     have fI:=aD bU;have zGO:=aD (P7 bU);clear bU
     go_wp2_with fail
     go_loopw [8] (λi wr=>∃(j:Nat) (v1:fL),j<=k/\i=.int .i64 j/\sY w wr gb o v1 (mH o es j)) (λi _=>k-(intOf i).toNat)
     case atStart=>exact⟨0,v0,jT _,rfl,Ln.o⟩
     case round=>
      obtain⟨j,v1,hj,rfl,Yv⟩:=hrel;obtain⟨tI,tC,tO⟩:=zGO.o j (by rw[Ox.o];exact hj);obtain⟨r1,j8⟩:=aU (mH o es j);rw[<-j8] at Yv tI tC tO;have lO:=aD j8;have lG:=aD Yv;clear j8 Yv;by_cases aN:j<k
      .obtain⟨b,off,e,hA,dW,zBc,ziI,Em,e0,e1,e2⟩:=(h.below (fT.o▸lG.o.bel)).eventsAt aN
       subst hA;have zHC:b<gb:=by have:=fT.o;omega
       have i0:(0:Int)<=(j:Int):=aC;have i1:(j:Int)<(k:Int):=aC;have zww:=aD (tI.good tC aC);have zk2:=aD (show sO r1.o.op e=true by
        rw[tO];have:=fI.o;unfold jP at this;simp only[fU,tY] at this;exact this.2 e (dZ Em))
       have zst:=aD (Wj (o:=o) Em);have oX:r1.log.length<=60:=by have:=tC.nl;omega
       have zlN:=aD (And.intro e0 (And.intro e1 e2));have cG:=lG.o.size;have zj7:gb<=wr.heap.size:=aC;have zsd:=aD (RInv.step (e:=e) tI tC (by rw[tO];exact tO▸zk2.o) aC);clear tI tC tO Em e0 e1 e2;have zgj:=aD (show∀W:aE,W.heap[b]? =wr.heap[b]? ->W.heap[gb+6]? =wr.heap[gb+6]? ->(W.cell? ⟨b,off+j*3,none⟩=some (.string e.k)/\W.cell? ⟨b,off+j*3+1,none⟩=some (.int .i64 e.a)/\W.cell? ⟨b,off+j*3+2,none⟩=some (.int .i64 e.b)/\W.cell? ⟨gb+6,0,none⟩=some (.int .i64 r1.o.ln)/\W.cell? ⟨gb+6,1,none⟩=some (.int .i64 r1.o.op)/\W.cell? ⟨gb+6,2,none⟩=some (.int .i64 r1.o.pt)/\W.cell? ⟨gb+6,3,none⟩=some (.int .i64 r1.clk)/\W.cell? ⟨gb+6,4,none⟩=some (v1.sR r1)/\W.cell? ⟨gb+6,5,none⟩=some (v1.sW r1)/\W.cell? ⟨gb+6,6,none⟩=some (v1.sB r1)/\W.cell? ⟨gb+6,7,none⟩=some (v1.sL r1)) from λW h1 h2=>by
        have k:=aJ (h2.trans lG.o.blk);exact⟨(De h1).trans zlN.o.1,(De h1).trans zlN.o.2.1,(De h1).trans zlN.o.2.2,k 0,k 1,k 2,k 3,k 4,k 5,k 6,k 7⟩)
       have Dt:=aD (zgj.o wr.drew rfl rfl);have zAv:=aD (zgj.o wr rfl rfl);have z6:gb+6<wr.heap.size:=aC;have zb:b<wr.heap.size:=aC;have aR:=lG.o.aR;have aB:=lG.o.aB
       go_wp2_with fail
       go_region_held3 (λW=>W.cell? ⟨b,off+j*3,none⟩=some (.string e.k)/\W.cell? ⟨b,off+j*3+1,none⟩=some (.int .i64 e.a)/\W.cell? ⟨b,off+j*3+2,none⟩=some (.int .i64 e.b)/\W.cell? ⟨gb+6,0,none⟩=some (.int .i64 r1.o.ln)/\W.cell? ⟨gb+6,1,none⟩=some (.int .i64 r1.o.op)/\W.cell? ⟨gb+6,2,none⟩=some (.int .i64 r1.o.pt)/\W.cell? ⟨gb+6,3,none⟩=some (.int .i64 r1.clk)/\W.cell? ⟨gb+6,4,none⟩=some (v1.sR r1)/\W.cell? ⟨gb+6,5,none⟩=some (v1.sW r1)/\W.cell? ⟨gb+6,6,none⟩=some (v1.sB r1)/\W.cell? ⟨gb+6,7,none⟩=some (v1.sL r1))
        (first|with_reducible exact Dt.o|with_reducible exact zAv.o|with_reducible exact zgj.o _ zvT zvK|(with_reducible refine zgj.o _ ?_ ?_<;>(repeat' (first|with_reducible assumption|with_reducible rfl|(refine(zA3 _ _).trans ?_)|(refine(eH _ _ _ _ ?_).trans ?_;(first|omega|(simp;omega)))|(refine(qO _ _ _ ?_).trans ?_;(first|omega|(simp;omega)))))))
        (first|(go_at_call 51;refine(zv3 gb v1 r1 e wr.drew lG.o.drew.ok zww.o zj7 zk2.o).mono ?_;rintro y w5 ⟨v5,rfl,bU,jQ,wZ⟩;obtain⟨r5,fF⟩:=aU ((eN r1 e).1:bX);obtain⟨t5,oQ⟩:=aU ((eN r1 e).2:List UInt8);rw[<-fF] at bU⊢;rw[<-oQ];have pL:=aD fF;have xL:=aD oQ;have vP:=aD bU;have uU:=aD jQ;have oH:=aD wZ;have zvT:w5.heap[b]? =wr.heap[b]? :=jQ.block b zb aC aC;have zvK:w5.heap[gb+6]? =wr.heap[gb+6]? :=jQ.block (gb+6) z6 aC aC;have z5:wr.heap.size<=w5.heap.size:=jQ.size;have Nd:=aD lG.o.drew;clear fF oQ bU jQ wZ)|(go_at_call 51;refine(zv3 gb v1 r1 e (wr.alloc jX).drew (lG.o.alloc jX).drew.ok zww.o (by show gb<=(wr.alloc jX).heap.size;simp;omega) zk2.o).mono ?_;rintro y w5 ⟨v5,rfl,bU,jQ,wZ⟩;obtain⟨r5,fF⟩:=aU ((eN r1 e).1:bX);obtain⟨t5,oQ⟩:=aU ((eN r1 e).2:List UInt8);rw[<-fF] at bU⊢;rw[<-oQ];have pL:=aD fF;have xL:=aD oQ;have vP:=aD bU;have uU:=aD jQ;have oH:=aD wZ;have zvT:w5.heap[b]? =wr.heap[b]? :=(jQ.block b (by show b<(wr.alloc jX).heap.size;simp;omega) aC aC).trans (qO wr jX b zb);have zvK:w5.heap[gb+6]? =wr.heap[gb+6]? :=(jQ.block (gb+6) (by show gb+6<(wr.alloc jX).heap.size;simp;omega) aC aC).trans (qO wr jX _ z6);have z5:wr.heap.size<w5.heap.size:=(by have:=jQ.size;have e:(wr.alloc jX).drew.heap.size=wr.heap.size+1:=(by show(wr.alloc jX).heap.size=_;simp);omega);have kr:w5.heap[wr.heap.size]? =some jX:=(jQ.block wr.heap.size (by show wr.heap.size<(wr.alloc jX).heap.size;simp) (by have:=lG.o.ok.lts;omega) (by have:=lG.o.ok.lts;omega)).trans (lF wr jX);have zDs:=aD kr;have z:=aJ kr;have r0:=eL kr;have z0:=z 0;have z1:=z 1;have z2:=z 2;have z3:=z 3;have z4:=z 4;have z5:=z 5;have z7:=z 7;have zbJ:=z 6;have Nd:=aD (lG.o.alloc jX).drew;clear fF oQ bU jQ wZ kr z))
       .
         obtain⟨W6,rN⟩:=aU (w5.alloc (yA v5 r5));obtain⟨nb,nL⟩:=aU w5.heap.size;rw[<-rN,<-nL];have hN:W6.heap[nb]? =some (yA v5 r5):=by rw[rN];exact mI _ _ nL
         have Rx:eA W6 gb v5 r5:=by rw[rN];exact vP.o.alloc _
         obtain⟨zbh,p0,p1,p6,a1,a2,a3,a4,zeN⟩:=Nd.o.stepped vP.o uU.o oH.o;have za7:bV gb w W6:=by rw[rN];exact zbh.alloc aC _
         have q0:W6.heap[gb]? =some (.cells #[.int .i64 o.ln,.int .i64 o.op,.int .i64 o.pt] 29):=by rw[rN];exact(qO _ _ gb aC).trans (p0.trans Nd.o.ofc)
         have q1:W6.heap[gb+1]? =some jX:=by rw[rN];exact(qO _ _ (gb+1) aC).trans (p1.trans Nd.o.res)
         have q6:W6.heap[gb+6]? =some (yA v1 r1):=by rw[rN];exact(qO _ _ (gb+6) aC).trans (p6.trans Nd.o.blk)
         have zjV:gb+7<=W6.heap.size:=by rw[rN];simp;omega
         have Cm:nb≠gb+6:=aC;clear rN nL zbh p0 p1 p6 zeN;have zzi:=aD hN;have zzL:=aD Rx;have zc9:r5.log=r1.log:=by rw[pL.o];exact zsd.o.2.2.2
         have zCW:r5.log.length<=60:=by rw[zc9];exact oX
         have Bq:=aD (sY.stored Rx za7 q0 q1 q6 a1 a2 a3 a4 zjV);have k:=aJ hN;obtain⟨k0,k1,k2,k3,k4,k5,k6,k7⟩:=eP k;have z:=aJ q6;obtain⟨z0,z1,z2,z3,z4,z5,zbJ,z7⟩:=eP z;have r0:=eL q6;clear k z hN Rx za7 q0 q1 q6 zc9
         go_upto_region 14 with fail
         obtain⟨W7,Cb⟩:=aU (gT W6 (gb+6) (.int .i64 r5.o.ln) (.int .i64 r5.o.op) (.int .i64 r5.o.pt) (.int .i64 r5.clk) (v5.sR r5) (v5.sW r5) (v5.sB r5) (v5.sL r5));rw[<-Cb] at Bq;unfold gT at Cb;rw[<-Cb];clear Cb k0 k1 k2 k3 k4 k5 k6 k7 z0 z1 z2 z3 z4 z5 zbJ z7 r0;have k7:=aJ Bq.o.blk 7;have zDC:=Bq.o.size;have zj1:=Bq.o.aL;obtain⟨ii,Oo,gX,eB,jZ⟩:=y8 zsU;have zaL:=aD Oo;clear Oo
         go_wp2_with (at_builtin;refine znJ _ rfl (.tmp 58) (.tmp 60) 26 rfl gb 9 ii (.string ⟨#[]⟩) 1 16 zxh zaL.o gX eB jZ rfl aH v5.gL v5.cL r5.log.length (Fx r5.log) rfl ((Bq.o.alloc _).ok.lg) ⟨_,0,none⟩ 1 1 [.string ⟨t5.toArray⟩] rfl rfl ?c2 Lm ?c5 ?c6 ?c7 ?_;(case c2=>exact Fo (cs:=#[.string ⟨t5.toArray⟩]) (lF _ _));(case c5=>unfold maxLen;omega);(case c6=>omega);(case c7=>(simp;omega));intro g9 c9 w9 zb7 Q3 B9 zaq;have zml:=aD ((Bq.o.alloc _).appL Q3 zb7 rfl zaq);have kx:=(zG Q3 (dB Bq.o.blk _) (Ne.symm zj1.2)).1;have zAg:=aJ kx 7;have wO:=eL kx;clear zb7 Q3 B9 zaq kx)
         go_roundw
         case rel=>
          refine⟨j+1,{v5 with gL:=g9,cL:=c9},aC,mV,?_⟩;rw[zst.o,<-lO.o];have e:Ed (eN r1 e)={r5 with log:=r5.log++[t5]}:=by rw[pL.o,xL.o];rfl
          rw[e];exact zml.o
         case measure=>simp[intOf];omega
       .
         obtain⟨nb,nL⟩:=aU wr.heap.size;obtain⟨W6,rN⟩:=aU (gT w5 nb (.int .i64 r5.o.ln) (.int .i64 r5.o.op) (.int .i64 r5.o.pt) (.int .i64 r5.clk) (v5.sR r5) (v5.sW r5) (v5.sB r5) (v5.sL r5));obtain⟨zbh,p0,p1,p6,a1,a2,a3,a4,zeN⟩:=Nd.o.stepped vP.o uU.o oH.o;have l1:=lG.o.ok.lts;have mr:=oH.o.r;have mw:=oH.o.w;have mb:=oH.o.b;have ml:=oH.o.l;have eX:(wr.alloc jX).drew.heap.size=nb+1:=by rw[nL];show(wr.alloc jX).heap.size=_;simp
         rw[eX] at mr mw mb zeN;have hN:W6.heap[nb]? =some (yA v5 r5):=by rw[rN,nL];exact zbq zDs.o
         have Rx:eA W6 gb v5 r5:=by rw[rN];exact vP.o.set8 aC
         have Yq:=zeQ w5 nb (.int .i64 r5.o.ln) (.int .i64 r5.o.op) (.int .i64 r5.o.pt) (.int .i64 r5.clk) (v5.sR r5) (v5.sW r5) (v5.sB r5) (v5.sL r5);have za7:bV gb w W6:=by rw[rN];exact zbh.trans ⟨Yq.os,Yq.tape,Yq.output,Yq.size,λx hx=>Yq.block x aC aC⟩
         have q0:W6.heap[gb]? =some (.cells #[.int .i64 o.ln,.int .i64 o.op,.int .i64 o.pt] 29):=by rw[rN];exact(Hl aC).trans (p0.trans Nd.o.ofc)
         have q1:W6.heap[gb+1]? =some jX:=by rw[rN];exact(Hl aC).trans (p1.trans Nd.o.res)
         have q6:W6.heap[gb+6]? =some (yA v1 r1):=by rw[rN];exact(Hl aC).trans (p6.trans Nd.o.blk)
         have zjV:gb+7<=W6.heap.size:=by rw[rN,zmL];omega
         have Cm:nb≠gb+6:=aC;unfold gT at rN;rw[<-nL,<-rN];clear rN nL zbh p0 p1 p6 zeN Yq l1 mr mw mb ml eX z0 z1 z2 z3 z4 z5 zbJ z7 r0;have zzi:=aD hN;have zzL:=aD Rx;have zc9:r5.log=r1.log:=by rw[pL.o];exact zsd.o.2.2.2
         have zCW:r5.log.length<=60:=by rw[zc9];exact oX
         have Bq:=aD (sY.stored Rx za7 q0 q1 q6 a1 a2 a3 a4 zjV);have k:=aJ hN;obtain⟨k0,k1,k2,k3,k4,k5,k6,k7⟩:=eP k;have z:=aJ q6;obtain⟨z0,z1,z2,z3,z4,z5,zbJ,z7⟩:=eP z;have r0:=eL q6;clear k z hN Rx za7 q0 q1 q6 zc9
         go_upto_region 14 with fail
         obtain⟨W7,Cb⟩:=aU (gT W6 (gb+6) (.int .i64 r5.o.ln) (.int .i64 r5.o.op) (.int .i64 r5.o.pt) (.int .i64 r5.clk) (v5.sR r5) (v5.sW r5) (v5.sB r5) (v5.sL r5));rw[<-Cb] at Bq;unfold gT at Cb;rw[<-Cb];clear Cb k0 k1 k2 k3 k4 k5 k6 k7 z0 z1 z2 z3 z4 z5 zbJ z7 r0;have k7:=aJ Bq.o.blk 7;have zDC:=Bq.o.size;have zj1:=Bq.o.aL;obtain⟨ii,Oo,gX,eB,jZ⟩:=y8 zsU;have zaL:=aD Oo;clear Oo
         go_wp2_with (at_builtin;refine znJ _ rfl (.tmp 58) (.tmp 60) 26 rfl gb 9 ii (.string ⟨#[]⟩) 1 16 zxh zaL.o gX eB jZ rfl aH v5.gL v5.cL r5.log.length (Fx r5.log) rfl ((Bq.o.alloc _).ok.lg) ⟨_,0,none⟩ 1 1 [.string ⟨t5.toArray⟩] rfl rfl ?c2 Lm ?c5 ?c6 ?c7 ?_;(case c2=>exact Fo (cs:=#[.string ⟨t5.toArray⟩]) (lF _ _));(case c5=>unfold maxLen;omega);(case c6=>omega);(case c7=>(simp;omega));intro g9 c9 w9 zb7 Q3 B9 zaq;have zml:=aD ((Bq.o.alloc _).appL Q3 zb7 rfl zaq);have kx:=(zG Q3 (dB Bq.o.blk _) (Ne.symm zj1.2)).1;have zAg:=aJ kx 7;have wO:=eL kx;clear zb7 Q3 B9 zaq kx)
         go_roundw
         case rel=>
          refine⟨j+1,{v5 with gL:=g9,cL:=c9},aC,mV,?_⟩;rw[zst.o,<-lO.o];have e:Ed (eN r1 e)={r5 with log:=r5.log++[t5]}:=by rw[pL.o,xL.o];rfl
          rw[e];exact zml.o
         case measure=>simp[intOf];omega
      .have e:j=k:=aC
       subst e;have zgS:=aD (show Gx o es=r1 by unfold Gx;rw[fI.o,<-zg1,Ox.o,<-lO.o];exact if_pos rfl);clear tI tC tO aN;have k:=aJ lG.o.blk;obtain⟨k0,k1,k2,k3,k4,k5,k6,k7⟩:=eP k;clear k;have z:=aJ lG.o.res;obtain⟨z0,z1,z2,z3,z4,z5,z6,z7⟩:=eP z;clear z;have r0:=eL lG.o.res
       go_wp2_with fail
       have er:=aJ (sU v1 r1 lG.o.res);refine rM (v:=.tuple #[.agg (fW (v1) (r1)),.bool true]) ?_ rfl ?_
       .unfold gT at er
        simp[results,zed,go_sem,er]
       .obtain⟨d1,d2⟩:=lG.o.doneR v1 r1
        exact⟨v1,by rw[fI.o];rw[zgS.o],by rw[zgS.o,<-fT.o];exact d1,by rw[<-fT.o];exact d2⟩
structure jF (b:bX):Prop where
 opn:∀(i j:Nat) (d e:bR),b.recs[i]? =some d->b.recs[j]? =some e->eK d=true->eK e=true->(d.c=e.c\/d.l=e.l\/(d.o=e.o/\0<d.o))->i=j
 last:∀(i j:Nat) (d e:bR),b.recs[i]? =some d->eK d=true->b.recs[j]? =some e->e.c=d.c->j<=i
 wt:∀x∈b.wait,∃(i:Nat) (d:bR),b.recs[i]? =some d/\eK d=true/\d.c=x.c/\d.o=0
 bk:(b.back.map bJ.c).Nodup
 bo:∀x∈b.back,jL b.recs x.c=none
variable {rs:List bR}{c:Int}
theorem zmY (h:∀(i:Nat) (d:bR),rs[i]? =some d->eK d=true->d.c≠c):jL rs c=none:=by
 cases ho:jL rs c with
 |none=>rfl
 |some i=>
  obtain⟨d,h1,h2,h3⟩:=B4 ho;exact absurd h2 (h i d h1 h3)
theorem Kl (h:jL rs c=none):∀(i:Nat) (d:bR),rs[i]? =some d->eK d=true->d.c≠c:=by
 intro i d hd ho e;have:(jL rs c).isSome=true:=by
  rw[za2,Sx];exact⟨d,dZ hd,by unfold Au;rw[ho,e];simp⟩
 rw[h] at this;cases this
variable {b:bX}{i:Nat}{d:bR}
theorem jF.at_ (h:jF b)(hd:b.recs[i]? =some d)(ho:eK d=true):jL b.recs d.c=some i:=by
 cases e:jL b.recs d.c with
 |none=>exact absurd rfl (Kl e i d hd ho)
 |some j=>
  obtain⟨d',h1,h2,h3⟩:=B4 e;rw[h.opn j i d' d h1 hd h3 ho (.inl h2)]
theorem Km {r:bR}(h:(rs++[r])[i]? =some d):(i<rs.length/\rs[i]? =some d)\/(i=rs.length/\d=r):=by
 rcases nC i rs.length with hl|hl
 .rw[Ab hl] at h;exact .inl ⟨hl,h⟩
 .rw[At hl] at h
  have hz:i-rs.length=0:=by
   rcases Qa (i-rs.length) with e|e
   .exact e
   .rw[Ca q8] at h;cases h
  rw[hz] at h;exact .inr ⟨aC,by simpa using h.symm⟩
theorem zdx {r:bR}(h:rs[i]? =some d):(rs++[r])[i]? =some d:=by
 rw[Ab (kD.1 h).1];exact h
variable {f:bR->bR}
theorem Fl {j:Nat}{z:bR}(h:(rs.modify i f)[j]? =some z):∃d,rs[j]? =some d/\((i=j/\z=f d)\/(i≠j/\z=d)):=by
 rw[zM] at h;rcases hr:rs[j]? with _|d
 .rw[hr] at h;cases h
 .rw[hr] at h
  simp at h;split at h
  .rename_i e;exact⟨d,rfl,.inl ⟨e,h.symm⟩⟩
  .rename_i e;exact⟨d,rfl,.inr ⟨e,h.symm⟩⟩
theorem Ov {j:Nat}(h:rs[j]? =some d)(aT:i≠j):(rs.modify i f)[j]? =some d:=by
 rw[zM,h];simp[aT]
theorem zbV (h:rs[i]? =some d):(rs.modify i f)[i]? =some (f d):=by
 rw[zM,h];simp
theorem zxL {xs:List bJ}(h:(vC xs c).isSome=false):∀x∈xs,x.c≠c:=by
 unfold vC at h;rw[List.findIdx?_isSome] at h;intro x hx e;have:xs.any (λx=>x.c==c)=true:=Sx.2 ⟨x,hx,by simp[e]⟩;rw[this] at h;cases h
variable {l:Int}
theorem znI (h:l∈oJ o rs):∀(i:Nat) (d:bR),rs[i]? =some d->eK d=true->d.l≠l:=by
 intro i d hd ho e;unfold oJ xO at h;have h2:=(Jd.1 h).2;have:rB rs l=true:=by unfold rB;exact Sx.2 ⟨d,dZ hd,by simp[e,ho]⟩
 rw[this] at h2;cases h2
variable {op:Int}
theorem zga (h1:∀d∈rs,1<=d.c)(h:¬0<dA rs op):∀(i:Nat) (d:bR),rs[i]? =some d->eK d=true->d.o≠op:=by
 intro i d hd ho e;unfold dA at h
 cases hf:rs.find? (wG op) with
 |none=>
  have:=zdw.1 hf d (dZ hd);unfold wG at this;rw[ho,e] at this;simp at this
 |some d'=>
  rw[hf] at h;have:=h1 d' (zgX hf);simp only at h;omega
theorem zhv (hu:∀(i j:Nat) (d e:bR),rs[i]? =some d->rs[j]? =some e->eK d=true->eK e=true->d.o=op->e.o=op->i=j)(hd:rs[i]? =some d)(ho:eK d=true)(he:d.o=op):dA rs op=d.c:=by
 unfold dA
 cases hf:rs.find? (wG op) with
 |none=>
  have:=zdw.1 hf d (dZ hd);unfold wG at this;rw[ho,he] at this;simp at this
 |some d'=>
  obtain⟨j,hj⟩:=G5.1 (zgX hf);have hp:=zmo hf;unfold wG at hp;simp only[fU,beq_iff_eq] at hp;have:=hu j i d' d hj hd hp.2 ho hp.1 he;subst this;rw[hj] at hd;injection hd with hd;rw[hd]
theorem zpt (h:∀(i:Nat) (d:bR),rs[i]? =some d->eK d=true->d.o≠op):dA rs op=0:=by
 unfold dA
 cases hf:rs.find? (wG op) with
 |none=>rfl
 |some d'=>
  obtain⟨j,hj⟩:=G5.1 (zgX hf);have hp:=zmo hf;unfold wG at hp;simp only[fU,beq_iff_eq] at hp;exact absurd hp.1 (h j d' hj hp.2)
theorem zuQ (rs:List bR)(op:Int):(∃(i:Nat) (d:bR),rs[i]? =some d/\eK d=true/\d.o=op/\dA rs op=d.c)\/((∀(i:Nat) (d:bR),rs[i]? =some d->eK d=true->d.o≠op)/\dA rs op=0):=by
 unfold dA
 cases hf:rs.find? (wG op) with
 |none=>
  refine .inr ⟨λi d hd ho e=>?_,rfl⟩;have:=zdw.1 hf d (dZ hd);unfold wG at this;rw[ho,e] at this;simp at this
 |some d'=>
  obtain⟨j,hj⟩:=G5.1 (zgX hf);have hp:=zmo hf;unfold wG at hp;simp only[fU,beq_iff_eq] at hp;exact .inl ⟨j,d',hj,hp.2,hp.1,rfl⟩
variable {hh:Int}{wait back:List bJ}
theorem jF.more (h:jF b){o:Int}{tt:Int}{clk:Int}(hc:jL b.recs c=none)(hl:∀(i:Nat) (d:bR),b.recs[i]? =some d->eK d=true->d.l≠l)(ho:o=0\/∀(i:Nat) (d:bR),b.recs[i]? =some d->eK d=true->d.o≠o)
  (hw:∀x∈wait,x∈b.wait\/(x.c=c/\o=0)) (hb:(back.map bJ.c).Nodup) (rG:∀x∈back,x∈b.back/\x.c≠c):jF {b with recs:=b.recs++[⟨c,l,o,clk,hh,tt,eU⟩],wait:=wait,back:=back}:=by
 have hop:eK ⟨c,l,o,clk,hh,tt,eU⟩=true:=by unfold eK;rw[zfd];rfl
 refine⟨λi j d e hi hj hd he hx=>?_,λi j d e hi hd hj hx=>?_,λx hx=>?_,hb,λx hx=>?_⟩
 .rcases Km hi with⟨zU,L2⟩|⟨rfl,rfl⟩<;>rcases Km hj with⟨Gd,Qv⟩|⟨rfl,rfl⟩
  .exact h.opn i j d e L2 Qv hd he hx
  .exfalso
   rcases hx with hx|hx|⟨hx,h0⟩
   .exact Kl hc i d L2 hd hx
   .exact hl i d L2 hd hx
   .rcases ho with rfl|ho
    .simp only at hx;omega
    .exact ho i d L2 hd hx
  .exfalso
   rcases hx with hx|hx|⟨hx,h0⟩
   .exact Kl hc j e Qv he hx.symm
   .exact hl j e Qv he hx.symm
   .rcases ho with rfl|ho
    .simp only at h0;omega
    .exact ho j e Qv he hx.symm
  .rfl
 .rcases Km hi with⟨zU,L2⟩|⟨rfl,rfl⟩<;>rcases Km hj with⟨Gd,Qv⟩|⟨rfl,rfl⟩
  .exact h.last i j d e L2 hd Qv hx
  .exact absurd hx.symm (Kl hc i d L2 hd)
  .omega
  .exact aX _
 .rcases hw x hx with hx|⟨hx,h0⟩
  .obtain⟨i,d,h1,h2⟩:=h.wt x hx
   exact⟨i,d,zdx h1,h2⟩
  .exact⟨b.recs.length,_,by rw[At (aX _),Og];rfl,hop,hx.symm,h0⟩
 .obtain⟨h1,h2⟩:=rG x hx
  refine zmY λi d hd vH=>?_;rcases Km hd with⟨_,h3⟩|⟨_,rfl⟩
  .exact Kl (h.bo x h1) i d h3 vH
  .exact λe=>h2 e.symm
theorem jF.ended (h:jF b)(hd:b.recs[i]? =some d)(ze7:eK d=true){e:ByteArray}(he:(e.toList==[111,112,101,110])=false)(hw:∀x∈wait,x∈b.wait/\x.c≠d.c)(hb:(back.map bJ.c).Nodup)(rG:∀x∈back,x∈b.back\/x.c=d.c):
 jF {b with recs:=Me b i e,wait:=wait,back:=back}:=by
 have mK:∀z:bR,eK {z with t:=b.clk,e:=e}=false:=λz=>he;have old:∀(j:Nat) (z:bR),(Me b i e)[j]? =some z->eK z=true->i≠j/\b.recs[j]? =some z:=λj z hj hz=>by
  obtain⟨d',h1,⟨_,rfl⟩|⟨h2,rfl⟩⟩:=Fl hj
  .rw[mK] at hz;cases hz
  .exact⟨h2,h1⟩
 refine⟨λp q x y hp hq hx hy hh=>?_,λp q x y hp hx hq hh=>?_,λx hx=>?_,hb,λx hx=>?_⟩
 .exact h.opn p q x y (old p x hp hx).2 (old q y hq hy).2 hx hy hh
 .obtain⟨d',h1,h2⟩:=Fl hq
  refine h.last p q x d' (old p x hp hx).2 hx h1 ?_;rcases h2 with⟨_,rfl⟩|⟨_,rfl⟩
  .exact hh
  .exact hh
 .obtain⟨h1,h2⟩:=hw x hx
  obtain⟨j,z,h3,h4,h5,h6⟩:=h.wt x h1;have aT:i≠j:=λe=>by subst e;rw[hd] at h3;injection h3 with h3;exact h2 (by rw[<-h5,<-h3])
  exact⟨j,z,Ov h3 aT,h4,h5,h6⟩
 .refine zmY λj z hj hz=>?_
  obtain⟨h1,h2⟩:=old j z hj hz;rcases rG x hx with h3|h3
  .exact Kl (h.bo x h3) j z h2 hz
  .rw[h3]
   exact λe=>h1 (h.opn i j d z hd h2 ze7 hz (.inl e.symm))
theorem jF.heard (h:jF b)(hd:b.recs[i]? =some d)(ze7:eK d=true)(hop:∀(j:Nat) (z:bR),b.recs[j]? =some z->eK z=true->z.o≠op)(hw:∀x∈wait,x∈b.wait/\x.c≠d.c):
 jF {b with recs:=b.recs.modify i λd=>{d with o:=op,h:=hh},wait:=wait}:=by
 have yJ:∀z:bR,eK {z with o:=op,h:=hh}=eK z:=λz=>rfl;refine⟨λp q x y hp hq hx hy he=>?_,λp q x y hp hx hq he=>?_,λx hx=>?_,h.bk,λx hx=>?_⟩
 .obtain⟨u,h1,⟨e1,rfl⟩|⟨e1,rfl⟩⟩:=Fl hp<;>obtain⟨v,h2,⟨e2,rfl⟩|⟨e2,rfl⟩⟩:=Fl hq
  .omega
  .refine h.opn p q u y h1 h2 hx hy ?_
   rcases he with he|he|⟨he,h0⟩
   .exact .inl he
   .exact .inr (.inl he)
   .exact absurd he.symm (hop q y h2 hy)
  .refine h.opn p q x v h1 h2 hx hy ?_
   rcases he with he|he|⟨he,h0⟩
   .exact .inl he
   .exact .inr (.inl he)
   .exact absurd he (hop p x h1 hx)
  .exact h.opn p q x y h1 h2 hx hy he
 .obtain⟨u,h1,e1⟩:=Fl hp
  obtain⟨v,h2,e2⟩:=Fl hq;have hu:eK u=true/\x.c=u.c:=by rcases e1 with⟨_,rfl⟩|⟨_,rfl⟩<;>exact⟨hx,rfl⟩
  have hv:y.c=v.c:=by rcases e2 with⟨_,rfl⟩|⟨_,rfl⟩<;>rfl
  exact h.last p q u v h1 hu.1 h2 (by rw[<-hv,<-hu.2];exact he)
 .obtain⟨h1,h2⟩:=hw x hx
  obtain⟨j,z,h3,h4,h5,h6⟩:=h.wt x h1;have aT:i≠j:=λe=>by subst e;rw[hd] at h3;injection h3 with h3;exact h2 (by rw[<-h5,<-h3])
  exact⟨j,z,Ov h3 aT,h4,h5,h6⟩
 .refine zmY λj z hj hz=>?_
  obtain⟨u,h1,e1⟩:=Fl hj;rcases e1 with⟨_,rfl⟩|⟨_,rfl⟩
  .exact Kl (h.bo x hx) j u h1 hz
  .exact Kl (h.bo x hx) j z h1 hz
variable {bt:bX×List UInt8}
def jF.log (h:jF bt.1):jF (Ed bt):=⟨h.opn,h.last,h.wt,h.bk,h.bo⟩
theorem jF.zero (o:jG):jF (mP o):=⟨λi j d e h=>by simp[mP] at h,λi j d e h=>by simp[mP] at h,λx hx=>by simp[mP] at hx,Qu,λx hx=>by simp[mP] at hx⟩
theorem zg3:(Gj.toList==[111,112,101,110])=false:=by decide+kernel
theorem zkz:(Cc.toList==[111,112,101,110])=false:=by decide+kernel
theorem zi4:(Fc.toList==[111,112,101,110])=false:=by decide+kernel
theorem jF.rings (h:jF b)(c:bJ):jF (qB b c).1:=by
 unfold qB;split
 .exact h
 .rename_i hk
  simp only[Bool.or_eq_true,not_or,Bool.not_eq_true] at hk;have hc:=Option.isSome_eq_false_iff.1 hk.1|>Option.isNone_iff_eq_none.1;have hb:=zxL hk.2;split
  .refine⟨h.opn,h.last,h.wt,?_,λx hx=>?_⟩
   .show((b.back++[c]).map bJ.c).Nodup
    rw[Jl];refine zhX.2 ⟨h.bk,aO,λa ha e he=>?_⟩;obtain⟨x,hx,rfl⟩:=Ia.1 ha;simp at he;subst he;exact hb x hx
   .rcases Ee.1 hx with hx|hx
    .exact h.bo x hx
    .obtain rfl:=sZ.1 hx;exact hc
  .rename_i l ls hf
   exact h.more (l:=l) hc (znI Vp) (.inl rfl) (wait:=uB b.wait c) (λx hx=>by
    have:=(Z7 b.wait c).mem_iff.1 hx;rcases jJ.1 this with rfl|h'
    .exact .inr ⟨rfl,rfl⟩
    .exact .inl h') h.bk (λx hx=>⟨hx,hb x hx⟩)
theorem jF.answers (h:jF b)(hr:RInv b)(op:Int):jF (nO b op).1:=by
 unfold nO;split
 .exact h
 .rename_i ht
  have hn:=zga (λd hd=>(hr.recB d hd).1) ht;split
  .exact h
  .rename_i c cs hw
   split
   .exact h
   .rename_i i hi
    obtain⟨d,h1,h2,h3⟩:=B4 hi;exact h.heard h1 h3 hn (wait:=dX b.wait c.c) λx hx=>⟨(Dg hx).1,by rw[h2];exact(Dg hx).2⟩
theorem jF.returns (h:jF b)(hr:RInv b)(op:Int):jF (l6 b op).1:=by
 unfold l6;split
 .exact h
 .rename_i ht
  have hn:=zga (λd hd=>(hr.recB d hd).1) ht;split
  .exact h
  .rename_i c cs hw
   split
   .exact h
   .rename_i l ls hf
    exact h.more (l:=l) (h.bo c (by rw[hw];simp)) (znI Vp) (.inr hn) (wait:=b.wait) (back:=dX b.back c.c) (λx hx=>.inl hx) (zdZ h.bk) (λx hx=>Dg hx)
theorem jF.hangs (h:jF b)(c:Int):jF (mB b c).1:=by
 unfold mB;split
 .rename_i i hi
  obtain⟨d,h1,h2,h3⟩:=B4 hi;have hw:∀x∈dX b.wait (Gz b.recs i),x∈b.wait/\x.c≠d.c:=λx hx=>⟨(Dg hx).1,by rw[<-Tc h1];exact(Dg hx).2⟩;split
  .exact h.ended h1 h3 zg3 hw h.bk λx hx=>.inl hx
  .exact h.ended h1 h3 zkz hw h.bk λx hx=>.inl hx
 .split
  .exact⟨h.opn,h.last,h.wt,zdZ h.bk,λx hx=>h.bo x (Dg hx).1⟩
  .exact h
theorem jF.tire {t:List UInt8}{x:bJ}(h:jF b):jF (l7 (b,t) x).1:=by
 unfold l7;split
 .exact h
 .rename_i i hi
  split
  .obtain⟨d,h1,h2,h3⟩:=B4 hi
   refine h.ended (wait:=dX b.wait (Gz b.recs i)) (back:=b.back++[x]) h1 h3 zi4 (λy hy=>⟨(Dg hy).1,by rw[<-Tc h1];exact(Dg hy).2⟩) ?_ λy hy=>?_
   .rw[Jl]
    refine zhX.2 ⟨h.bk,aO,λa ha e he=>?_⟩;obtain⟨y,hy,rfl⟩:=Ia.1 ha;simp at he;subst he;exact λe=>Kl (h.bo y hy) i d h1 h3 (by rw[h2,e])
   .rcases Ee.1 hy with hy|hy
    .exact .inl hy
    .obtain rfl:=sZ.1 hy;exact .inr h2.symm
  .exact h
theorem jF.tires:∀(xs:List bJ) (b:bX) (t:List UInt8),jF b->jF (xs.foldl l7 (b,t)).1:=by
 intro xs
 induction xs with
 |nil=>intro b t h;exact h
 |cons x xs ih=>
  intro b t h;rw[Qd];have h1:=h.tire (t:=t) (x:=x);generalize l7 (b,t) x=p at h1⊢;obtain⟨b',t'⟩:=p;exact ih b' t' h1
theorem jF.step (h:jF b)(hr:RInv b)(e:dD):jF (eN b e).1:=by
 unfold eN;split
 .exact h.rings _
 .split
  .exact h.answers hr _
  .split
   .exact h.returns hr _
   .split
    .exact h.hangs _
    .unfold uR
     exact jF.tires _ _ _ ⟨h.opn,h.last,h.wt,h.bk,h.bo⟩
theorem zuf (h:jP o es=true):∀k,k<=es.length->jF (mH o es k):=by
 intro k
 induction k with
 |zero=>intro _;exact jF.zero o
 |succ k ih=>
  intro hk;have aN:k<es.length:=aC;rw[Wj (lX aN)];exact jF.log ((ih aC).step (P7 h k aC).1 _)
end Go.Proofs.YtfcjiloojkjaeaaGreatDoor
namespace Go.Mt
open Go.Conc
inductive fH where
 |ask (i:Nat) (kind call ans:Int)
 |shut (i:Nat)
inductive gO where
 |mN (qs:List Nat)
 |mA (qs:List Nat) (a:Nat)
 |mS (qs:List Nat) (a:Nat)
 |mW (qs:List Nat)
 |mZ
 |op (c:Nat) (call:Int) (m:Nat)
 |an (c:Nat) (call:Int) (a:Nat) (m:Nat)
 |oD
 |wk (qs:List Nat) (k:Nat)
 |wr (qs:List Nat) (k:Nat) (a:Nat)
def Lw (kind call:Int)(a:Nat):Value:=.agg #[.int .i64 kind,.int .i64 call,.chan (some a)]
def unQ:aF->Option (Int×Int×Nat)
 | .agg xs=>match xs.toList with
  |[.int .i64 kd,.int .i64 cl,.chan (some a)]=>some (kd,cl,a)
  |_=>none
 |_=>none
def zfj (kd cl:Int)(a:Nat):unQ (Lw kd cl a)=some (kd,cl,a):=rfl
variable {kd cl:Int}
theorem unQ_inv {v:aF}{a:Nat}(h:unQ v=some (kd,cl,a)):v=Lw kd cl a:=by
 unfold unQ at h;split at h
 .rename_i xs
  split at h
  .rename_i e
   simp only[gA,Prod.mk.injEq] at h;obtain⟨rfl,rfl,rfl⟩:=h;unfold Lw;congr 1;exact Array.ext' e
  .cases h
 .cases h
def qa (qs:List Nat)(j:Nat):Nat:=qs.getD j 0
def U0 (c:Nat)(call:Int)(m:Nat)(v:aF):gO:=match unQ v with|some (kd,cl,a)=>.an c (if kd=1 then cl else call) a (m-1)|none=>.oD
def zfw (i:Nat):fH->Bool
 | .ask j _ _ _=>j==i
 |_=>false
def nX (W:List fH)(k i:Nat):Nat:=(W.drop k).countP (zfw i)
variable {W:List fH}
theorem ztf {k i:Nat}{ans:Int}(h:W[k]? =some (.ask i kd cl ans))(j:Nat):nX W k j=nX W (k+1) j+if j=i then 1 else 0:=by
 obtain⟨hl,he⟩:=kD.1 h;unfold nX;rw[zgs hl,he,zsk];by_cases e:j=i
 .subst e;simp[zfw]
 .have:¬i=j:=λx=>e x.symm
  simp[zfw,e,this]
theorem zHO {k i:Nat}(h:W[k]? =some (.shut i))(j:Nat):nX W (k+1) j=nX W k j:=by
 obtain⟨hl,he⟩:=kD.1 h;unfold nX;rw[zgs hl,he,zsk];simp[zfw]
def Po (v:aF):List Nat:=match unQ v with|some (_,_,a)=>[a]|none=>[]
def Zu (qs:List Nat)(k:Nat)(v:aF):gO:=match unQ v with|some (_,_,a)=>.wr qs k a|none=>.oD
def Yu (W:List fH)(k:Nat)(v:aF):Prop:=match W[k]? with|some (.ask _ _ _ ans)=>v=.int .i64 ans|_=>False
def eT (N:Nat)(W:List fH):gO->Act gO
 | .mN qs=>if qs.length<N then .note (λl'=>∃a,l'=.mA qs a) else .add (.mW qs)
 | .mA qs a=>.add (.mS qs a)
 | .mS qs a=>.spawn [a] (.op a 0 (nX W 0 qs.length)) (.mN (qs++[a]))
 | .mW qs=>.spawn [] (.wk qs 0) .mZ
 | .mZ=>.wait
 | .op c call m=>.recv c (λv=>(unQ v).isSome=true/\0<m) (U0 c call m) .oD
 | .an c call a m=>.send a (λv=>v=.int .i64 call) (λ_=>[]) (λ_=>.op c call m)
 | .oD=>.done
 | .wk qs k=>match W[k]? with
  |none=>.done
  |some (.ask i kd cl _)=>.send (qa qs i) (λv=>∃a,v=Lw kd cl a) Po (Zu qs k)
  |some (.shut i)=>.close (qa qs i) (.wk qs (k+1))
 | .wr qs k a=>.recv a (Yu W k) (λ_=>.wk qs (k+1)) .oD
def gO.pend:gO->Bool
 | .mS _ _| .mW _=>true
 |_=>false
def kY (W:List fH):Nat->Nat->Int
 |0,_=>0
 |k+1,i=>match W[k]? with
  |some (.ask j kd cl _)=>if i=j then(if kd=1 then cl else kY W k i) else kY W k i
  |_=>kY W k i
def fY (W:List fH):Nat->Nat->Bool
 |0,_=>false
 |k+1,i=>match W[k]? with
  |some (.shut j)=>if i=j then true else fY W k i
  |_=>fY W k i
structure WOk (N:Nat)(W:List fH):Prop where
 ask:∀k i kd cl ans,W[k]? =some (.ask i kd cl ans)->i<N/\fY W k i=false/\ans=kY W (k+1) i
 shut:∀k i,W[k]? =some (.shut i)->i<N/\fY W k i=false
 all:∀i,i<N->fY W W.length i=true
structure Ops (n:Nat)(ix:Nat->Nat)(q:Nat->Pj gO)(F:Nat->Pj gO->Prop):Prop where
 ne:∀j,j<n->ix j≠0
 inj:∀j j',j<n->j'<n->ix j=ix j'->j=j'
 at_:∀j,j<n->F j (q (ix j))
structure Qs (n:Nat)(qs:List Nat):Prop where
 len:qs.length=n
 inj:∀j j',j<n->j'<n->qa qs j=qa qs j'->j=j'
def H5 (W:List fH)(qs:List Nat)(k j:Nat)(p:Pj gO):Prop:=
 p=.run (.op (qa qs j) (kY W k j) (nX W k j))\/(fY W k j=true/\(p=.run .oD\/p=.over .oD))
inductive Z2 (N:Nat)(W:List fH)(q:Nat->Pj gO)(ch:rP):Prop
 |a (n:Nat) (qs:List Nat) (ix:Nat->Nat) (l:gO):Qs n qs->n<=N->(l=.mN qs\/(n<N/\∃a,l=.mA qs a\/l=.mS qs a)\/(l=.mW qs/\n=N))->q 0=.run l->Ops n ix q (λj p=>p=.run (.op (qa qs j) 0 (nX W 0 j)))->
  (∀j,j<n->ch (qa qs j)=some false)->(∀i,i≠0->(∀j,j<n->i≠ix j)->q i=.gone)->Z2 N W q ch
 |b (qs:List Nat) (ix:Nat->Nat) (iw k:Nat):Qs N qs->k<=W.length->iw≠0->(∀j,j<N->ix j≠iw)->(q 0=.run .mZ\/q 0=.waits)->(q iw=.run (.wk qs k)\/(k=W.length/\q iw=.over (.wk qs k)))->
  Ops N ix q (H5 W qs k)->(∀j,j<N->ch (qa qs j)=some (fY W k j))->(∀i,i≠0->i≠iw->(∀j,j<N->i≠ix j)->q i=.gone)->Z2 N W q ch
 |c (qs:List Nat) (ix:Nat->Nat) (iw k i:Nat) (kd cl ans:Int) (a:Nat):Qs N qs->W[k]? =some (.ask i kd cl ans)->iw≠0->(∀j,j<N->ix j≠iw)->(q 0=.run .mZ\/q 0=.waits)->q iw=.run (.wr qs k a)->
  Ops N ix q (λj p=>if j=i then p=.run (.an (qa qs j) (kY W (k+1) j) a (nX W (k+1) j)) else H5 W qs k j p)->(∀j,j<N->ch (qa qs j)=some (fY W k j))->ch a=some false->(∀j,j<N->qa qs j≠a)->
  (∀i,i≠0->i≠iw->(∀j,j<N->i≠ix j)->q i=.gone)->Z2 N W q ch
def B6 (N:Nat)(W:List fH)(D:aE->Prop):jU gO where
 act:=eT N W
 dep:=λl w=>match l with| .wk _ _=>D w|_=>True
 pend:=gO.pend
 cl:=λl=>match l with| .op _ _ _=>True|_=>False
 Inv:=Z2 N W
 got:=λl v=>match l with| .op _ _ _=>Po v|_=>[]
section
variable {N:Nat}{W:List fH}
variable {l:gO}{ok:aF->Prop}{nx:aF->gO}
theorem zmQ {c:Nat}{pub:aF->List Nat}(h:eT N W l=.send c ok pub nx):
 (∃c0 call m,l=.an c0 call c m/\ok=(λv=>v=.int .i64 call)/\pub=(λ_=>[])/\nx=λ_=>.op c0 call m)\/
 (∃qs k i kd cl ans,l=.wk qs k/\W[k]? =some (.ask i kd cl ans)/\c=qa qs i/\ok=(λv=>∃a,v=Lw kd cl a)/\pub=Po/\nx=Zu qs k):=by
 cases l with
 |mN qs=>simp only[eT] at h;split at h<;>cases h
 |an c0 call a m=>simp only[eT] at h;cases h;exact .inl ⟨_,_,_,rfl,rfl,rfl,rfl⟩
 |wk qs k=>
  simp only[eT] at h;split at h
  .cases h
  .rename_i i kd cl ans e;cases h;exact .inr ⟨qs,k,i,kd,cl,ans,rfl,e,rfl,rfl,rfl,rfl⟩
  .cases h
 |_=>simp only[eT] at h;cases h
theorem Zn {c:Nat}{sh:gO}(h:eT N W l=.recv c ok nx sh):
 (∃call m,l=.op c call m/\ok=(λv=>(unQ v).isSome=true/\0<m)/\nx=U0 c call m/\sh=.oD)\/(∃qs k,l=.wr qs k c/\ok=Yu W k/\nx=(λ_=>.wk qs (k+1))/\sh=.oD):=by
 cases l with
 |mN qs=>simp only[eT] at h;split at h<;>cases h
 |op c0 call m=>simp only[eT] at h;cases h;exact .inl ⟨_,_,rfl,rfl,rfl,rfl⟩
 |wk qs k=>simp only[eT] at h;split at h<;>cases h
 |wr qs k a=>simp only[eT] at h;cases h;exact .inr ⟨_,_,rfl,rfl,rfl,rfl⟩
 |_=>simp only[eT] at h;cases h
variable {nx:gO}
theorem zws {c:Nat}(h:eT N W l=.close c nx):∃qs k i,l=.wk qs k/\W[k]? =some (.shut i)/\c=qa qs i/\nx=.wk qs (k+1):=by
 cases l with
 |mN qs=>simp only[eT] at h;split at h<;>cases h
 |wk qs k=>
  simp only[eT] at h;split at h
  .cases h
  .cases h
  .rename_i i e;cases h;exact⟨qs,k,i,rfl,e,rfl,rfl⟩
 |_=>simp only[eT] at h;cases h
theorem zDy (h:eT N W l=.add nx):(∃qs,l=.mN qs/\¬qs.length<N/\nx=.mW qs)\/∃qs a,l=.mA qs a/\nx=.mS qs a:=by
 cases l with
 |mN qs=>
  simp only[eT] at h;split at h
  .cases h
  .rename_i e;cases h;exact .inl ⟨qs,rfl,e,rfl⟩
 |mA qs a=>simp only[eT] at h;cases h;exact .inr ⟨qs,a,rfl,rfl⟩
 |wk qs k=>simp only[eT] at h;split at h<;>cases h
 |_=>simp only[eT] at h;cases h
theorem zAz {lc:gO}{pub:List Nat}(h:eT N W l=.spawn pub lc nx):(∃qs a,l=.mS qs a/\pub=[a]/\lc=.op a 0 (nX W 0 qs.length)/\nx=.mN (qs++[a]))\/∃qs,l=.mW qs/\pub=[]/\lc=.wk qs 0/\nx=.mZ:=by
 cases l with
 |mN qs=>simp only[eT] at h;split at h<;>cases h
 |mS qs a=>simp only[eT] at h;cases h;exact .inl ⟨qs,a,rfl,rfl,rfl,rfl⟩
 |mW qs=>simp only[eT] at h;cases h;exact .inr ⟨qs,rfl,rfl,rfl,rfl⟩
 |wk qs k=>simp only[eT] at h;split at h<;>cases h
 |_=>simp only[eT] at h;cases h
theorem zA0 (h:eT N W l=.done):l=.oD\/∃qs k,l=.wk qs k/\W[k]? =none:=by
 cases l with
 |mN qs=>simp only[eT] at h;split at h<;>cases h
 |oD=>exact .inl rfl
 |wk qs k=>
  simp only[eT] at h;split at h
  .rename_i e;exact .inr ⟨qs,k,rfl,e⟩
  .cases h
  .cases h
 |_=>simp only[eT] at h;cases h
theorem zzI (h:eT N W l=.wait):l=.mZ:=by
 cases l with
 |mN qs=>simp only[eT] at h;split at h<;>cases h
 |mZ=>rfl
 |wk qs k=>simp only[eT] at h;split at h<;>cases h
 |_=>simp only[eT] at h;cases h
theorem zHp {can:gO->Prop}(h:eT N W l=.note can):∃qs,l=.mN qs/\qs.length<N/\can=λl'=>∃a,l'=.mA qs a:=by
 cases l with
 |mN qs=>
  simp only[eT] at h;split at h
  .rename_i e;cases h;exact⟨qs,rfl,e,rfl⟩
  .cases h
 |wk qs k=>simp only[eT] at h;split at h<;>cases h
 |_=>simp only[eT] at h;cases h
variable {ans:Int}
theorem zvJ {k i:Nat}{kd cl:Int}(h:W[k]? =some (.ask i kd cl ans))(j:Nat):kY W (k+1) j=if j=i then(if kd=1 then cl else kY W k j) else kY W k j:=by simp only[kY,h]
theorem zn7 {k i:Nat}{kd cl:Int}(h:W[k]? =some (.ask i kd cl ans))(j:Nat):fY W (k+1) j=fY W k j:=by simp only[fY,h]
theorem zDz {k i:Nat}(h:W[k]? =some (.shut i))(j:Nat):kY W (k+1) j=kY W k j:=by simp only[kY,h]
theorem zvI {k i:Nat}(h:W[k]? =some (.shut i))(j:Nat):fY W (k+1) j=if j=i then true else fY W k j:=by simp only[fY,h]
def wk_lt {k:Nat}{x:fH}(h:W[k]? =some x):k<W.length:=(kD.1 h).1
end
section
variable {N:Nat}{W:List fH}{q:Nat->Pj gO}{ch:rP}
theorem zh9 {n:Nat}{ix:Nat->Nat}{iw:Nat}(hg:∀i,i≠0->i≠iw->(∀j,j<n->i≠ix j)->q i=.gone){i:Nat}{l:gO}(h:q i=.run l):i=0\/i=iw\/∃j,j<n/\i=ix j:=by
 by_cases h0:i=0
 .exact .inl h0
 .by_cases h1:i=iw
  .exact .inr (.inl h1)
  .refine .inr (.inr (Classical.byContradiction λhn=>?_))
   have:=hg i h0 h1 λj hj e=>hn ⟨j,hj,e⟩;rw[this] at h;cases h
theorem zpH {qs:List Nat}{k j:Nat}{l:gO}(h:H5 W qs k j (.run l)):l=.op (qa qs j) (kY W k j) (nX W k j)\/(fY W k j=true/\l=.oD):=by
 rcases h with h|⟨h1,h|h⟩
 .cases h;exact .inl rfl
 .cases h;exact .inr ⟨h1,rfl⟩
 .cases h
theorem Y7 {l:gO}(h:(∃qs,l=.mN qs)\/(∃qs a,l=.mA qs a)\/(∃qs a,l=.mS qs a)\/(∃qs,l=.mW qs)\/l=.mZ):(∀c ok pub nx,eT N W l≠ .send c ok pub nx)/\(∀c ok nx sh,eT N W l≠ .recv c ok nx sh)/\(∀c nx,eT N W l≠ .close c nx)/\eT N W l≠ .done:=by
 rcases h with⟨qs,rfl⟩|⟨qs,a,rfl⟩|⟨qs,a,rfl⟩|⟨qs,rfl⟩|rfl
 .simp only[eT]
  split<;>simp
 all_goals simp[eT]
theorem zc5 {n:Nat}{qs:List Nat}{l:gO}(h:l=.mN qs\/(n<N/\∃a,l=.mA qs a\/l=.mS qs a)\/(l=.mW qs/\n=N)):(∃qs,l=.mN qs)\/(∃qs a,l=.mA qs a)\/(∃qs a,l=.mS qs a)\/(∃qs,l=.mW qs)\/l=.mZ:=by
 rcases h with rfl|⟨_,a,rfl|rfl⟩|⟨rfl,_⟩
 .exact .inl ⟨_,rfl⟩
 .exact .inr (.inl ⟨_,_,rfl⟩)
 .exact .inr (.inr (.inl ⟨_,_,rfl⟩))
 .exact .inr (.inr (.inr (.inl ⟨_,rfl⟩)))
section
variable {n:Nat}{qs:List Nat}{ix:Nat->Nat}{iw k i0:Nat}{i c a:Nat}{l l0:gO}
theorem Ql (hl:l0=.mN qs\/(n<N/\∃a,l0=.mA qs a\/l0=.mS qs a)\/(l0=.mW qs/\n=N))(h0:q 0=.run l0)(ho:Ops n ix q (λj p=>p=.run (.op (qa qs j) 0 (nX W 0 j))))(hg:∀i,i≠0->(∀j,j<n->i≠ix j)->q i=.gone)(hi:q i=.run l):(i=0/\l=l0)\/∃j,j<n/\i=ix j/\l=.op (qa qs j) 0 (nX W 0 j):=by
 rcases zh9 (iw:=0) (λi h1 _ h3=>hg i h1 h3) hi with rfl|rfl|⟨j,hj,rfl⟩
 .rw[h0] at hi;cases hi;exact .inl ⟨rfl,rfl⟩
 .rw[h0] at hi;cases hi;exact .inl ⟨rfl,rfl⟩
 .have:=ho.at_ j hj;rw[hi] at this;cases this;exact .inr ⟨j,hj,rfl,rfl⟩
theorem Ob (h0:q 0=.run .mZ\/q 0=.waits)(cN:q iw=.run (.wk qs k)\/(k=W.length/\q iw=.over (.wk qs k)))(ho:Ops N ix q (H5 W qs k))(hg:∀i,i≠0->i≠iw->(∀j,j<N->i≠ix j)->q i=.gone)(hi:q i=.run l):
 (i=0/\l=.mZ)\/(i=iw/\l=.wk qs k)\/∃j,j<N/\i=ix j/\(l=.op (qa qs j) (kY W k j) (nX W k j)\/(fY W k j=true/\l=.oD)):=by
 rcases zh9 hg hi with rfl|rfl|⟨j,hj,rfl⟩
 .rcases h0 with h0|h0<;>rw[h0] at hi<;>cases hi
  exact .inl ⟨rfl,rfl⟩
 .rcases cN with h|⟨_,h⟩<;>rw[h] at hi<;>cases hi
  exact .inr (.inl ⟨rfl,rfl⟩)
 .have:=ho.at_ j hj;rw[hi] at this
  exact .inr (.inr ⟨j,hj,rfl,zpH this⟩)
theorem P4 (h0:q 0=.run .mZ\/q 0=.waits)(cN:q iw=.run (.wr qs k a))(ho:Ops N ix q (λj p=>if j=i0 then p=.run (.an (qa qs j) (kY W (k+1) j) a (nX W (k+1) j)) else H5 W qs k j p))(hg:∀i,i≠0->i≠iw->(∀j,j<N->i≠ix j)->q i=.gone)(hi:q i=.run l):
 (i=0/\l=.mZ)\/(i=iw/\l=.wr qs k a)\/∃j,j<N/\i=ix j/\((j=i0/\l=.an (qa qs j) (kY W (k+1) j) a (nX W (k+1) j))\/(j≠i0/\(l=.op (qa qs j) (kY W k j) (nX W k j)\/(fY W k j=true/\l=.oD)))):=by
 rcases zh9 hg hi with rfl|rfl|⟨j,hj,rfl⟩
 .rcases h0 with h0|h0<;>rw[h0] at hi<;>cases hi
  exact .inl ⟨rfl,rfl⟩
 .rw[cN] at hi;cases hi
  exact .inr (.inl ⟨rfl,rfl⟩)
 .have:=ho.at_ j hj
  simp only[hi] at this;split at this
  .rename_i e;cases this;exact .inr (.inr ⟨j,hj,rfl,.inl ⟨e,rfl⟩⟩)
  .rename_i e;exact .inr (.inr ⟨j,hj,rfl,.inr ⟨e,zpH this⟩⟩)
variable {ok:aF->Prop}{pub:aF->List Nat}{nx:aF->gO}{sh:gO}
theorem Z6 (h0:q 0=.run .mZ\/q 0=.waits)(cN:q iw=.run (.wk qs k)\/(k=W.length/\q iw=.over (.wk qs k)))(ho:Ops N ix q (H5 W qs k))(hg:∀i,i≠0->i≠iw->(∀j,j<N->i≠ix j)->q i=.gone)(hi:q i=.run l)(ha:eT N W l=.send c ok pub nx):
 i=iw/\l=.wk qs k/\∃j kd cl ans,W[k]? =some (.ask j kd cl ans)/\c=qa qs j/\ok=(λv=>∃a,v=Lw kd cl a)/\pub=Po/\nx=Zu qs k:=by
 rcases Ob h0 cN ho hg hi with⟨rfl,rfl⟩|⟨rfl,rfl⟩|⟨j,hj,rfl,rfl|⟨_,rfl⟩⟩
 .cases ha
 .rcases zmQ ha with⟨_,_,_,e,_⟩|⟨Om,k',j,kd,cl,ans,e,h1,h2,h3,h4,h5⟩
  .cases e
  .cases e;exact⟨rfl,rfl,j,kd,cl,ans,h1,h2,h3,h4,h5⟩
 .cases ha
 .cases ha
theorem Xw (h0:q 0=.run .mZ\/q 0=.waits)(cN:q iw=.run (.wk qs k)\/(k=W.length/\q iw=.over (.wk qs k)))(ho:Ops N ix q (H5 W qs k))(hg:∀i,i≠0->i≠iw->(∀j,j<N->i≠ix j)->q i=.gone)(hi:q i=.run l)(ha:eT N W l=.recv c ok nx sh):
 ∃j,j<N/\i=ix j/\l=.op (qa qs j) (kY W k j) (nX W k j)/\c=qa qs j/\ok=(λv=>(unQ v).isSome=true/\0<nX W k j)/\nx=U0 c (kY W k j) (nX W k j)/\sh=.oD:=by
 rcases Ob h0 cN ho hg hi with⟨rfl,rfl⟩|⟨rfl,rfl⟩|⟨j,hj,rfl,rfl|⟨_,rfl⟩⟩
 .cases ha
 .rcases Zn ha with⟨_,_,e,_⟩|⟨_,_,e,_⟩<;>cases e
 .rcases Zn ha with⟨_,_,e,h1,h2,h3⟩|⟨_,_,e,_⟩<;>cases e
  exact⟨j,hj,rfl,rfl,rfl,h1,h2,h3⟩
 .cases ha
theorem zc6 (h0:q 0=.run .mZ\/q 0=.waits)(cN:q iw=.run (.wr qs k a))(ho:Ops N ix q (λj p=>if j=i0 then p=.run (.an (qa qs j) (kY W (k+1) j) a (nX W (k+1) j)) else H5 W qs k j p))(hg:∀i,i≠0->i≠iw->(∀j,j<N->i≠ix j)->q i=.gone)(hi:q i=.run l)(ha:eT N W l=.send c ok pub nx):
 i0<N/\i=ix i0/\l=.an (qa qs i0) (kY W (k+1) i0) a (nX W (k+1) i0)/\c=a/\ok=(λv=>v=.int .i64 (kY W (k+1) i0))/\pub=(λ_=>[])/\nx=λ_=>.op (qa qs i0) (kY W (k+1) i0) (nX W (k+1) i0):=by
 rcases P4 h0 cN ho hg hi with⟨rfl,rfl⟩|⟨rfl,rfl⟩|⟨j,hj,rfl,⟨rfl,rfl⟩|⟨_,rfl|⟨_,rfl⟩⟩⟩
 .cases ha
 .cases ha
 .rcases zmQ ha with⟨_,_,_,e,h1,h2,h3⟩|⟨_,_,_,_,_,_,e,_⟩<;>cases e
  exact⟨hj,rfl,rfl,rfl,h1,h2,h3⟩
 .cases ha
 .cases ha
theorem V4 (h0:q 0=.run .mZ\/q 0=.waits)(cN:q iw=.run (.wr qs k a))(ho:Ops N ix q (λj p=>if j=i0 then p=.run (.an (qa qs j) (kY W (k+1) j) a (nX W (k+1) j)) else H5 W qs k j p))(hg:∀i,i≠0->i≠iw->(∀j,j<N->i≠ix j)->q i=.gone)(hi:q i=.run l)(ha:eT N W l=.recv c ok nx sh):
 (i=iw/\l=.wr qs k a/\c=a/\ok=Yu W k/\nx=(λ_=>.wk qs (k+1)))\/∃j,j<N/\j≠i0/\i=ix j/\l=.op (qa qs j) (kY W k j) (nX W k j)/\c=qa qs j/\sh=.oD:=by
 rcases P4 h0 cN ho hg hi with⟨rfl,rfl⟩|⟨rfl,rfl⟩|⟨j,hj,rfl,⟨rfl,rfl⟩|⟨aT,rfl|⟨_,rfl⟩⟩⟩
 .cases ha
 .rcases Zn ha with⟨_,_,e,_⟩|⟨_,_,e,h1,h2,h3⟩<;>cases e
  exact .inl ⟨rfl,rfl,rfl,h1,h2⟩
 .cases ha
 .rcases Zn ha with⟨_,_,e,h1,h2,h3⟩|⟨_,_,e,_⟩<;>cases e
  exact .inr ⟨j,hj,aT,rfl,rfl,rfl,h3⟩
 .cases ha
theorem zf8 (hl:l0=.mN qs\/(n<N/\∃a,l0=.mA qs a\/l0=.mS qs a)\/(l0=.mW qs/\n=N))(h0:q 0=.run l0)(ho:Ops n ix q (λj p=>p=.run (.op (qa qs j) 0 (nX W 0 j))))(hg:∀i,i≠0->(∀j,j<n->i≠ix j)->q i=.gone)(hi:q i=.run l)(ha:eT N W l=.send c ok pub nx):False:=by
 rcases Ql hl h0 ho hg hi with⟨rfl,rfl⟩|⟨j,hj,rfl,rfl⟩
 .exact(Y7 (zc5 hl)).1 _ _ _ _ ha
 .cases ha
theorem zdi (hl:l0=.mN qs\/(n<N/\∃a,l0=.mA qs a\/l0=.mS qs a)\/(l0=.mW qs/\n=N))(h0:q 0=.run l0)(ho:Ops n ix q (λj p=>p=.run (.op (qa qs j) 0 (nX W 0 j))))(hg:∀i,i≠0->(∀j,j<n->i≠ix j)->q i=.gone)(hi:q i=.run l)(ha:eT N W l=.recv c ok nx sh):∃j,j<n/\i=ix j/\l=.op (qa qs j) 0 (nX W 0 j)/\c=qa qs j:=by
 rcases Ql hl h0 ho hg hi with⟨rfl,rfl⟩|⟨j,hj,rfl,rfl⟩
 .exact((Y7 (zc5 hl)).2.1 _ _ _ _ ha).elim
 .rcases Zn ha with⟨_,_,e,h1,h2,h3⟩|⟨_,_,e,_⟩<;>cases e
  exact⟨j,hj,rfl,rfl,rfl⟩
end
end
variable {L:Type}
theorem num_upd (q:Nat->Pj L)(s:Nat):∀n,num q n<=num (bG q s .gone) n+1:=by
 have ind:∀n,num q n<=num (bG q s .gone) n+(if s<n then 1 else 0):=by
  intro n
  induction n with
  |zero=>simp[num]
  |succ n ih=>
   simp only[num];have hc:(q n).c<=1:=by cases q n<;>simp[Pj.c]
   by_cases h:n=s
   .subst h
    rw[upd_same,show(Pj.gone:Pj L).c=0 from rfl];rw[if_neg (Cr _)] at ih;rw[if_pos (xH _)];omega
   .rw[upd_ne _ _ h]
    have:s<n↔s<n+1:=aC;simp only[this] at ih;omega
 intro n;have:=ind n;split at this<;>omega
theorem zEz :∀(S:List Nat) (q:Nat->Pj L),(∀i,i∉S->q i=.gone)->∀n,num q n<=S.length:=by
 intro S
 induction S with
 |nil=>
  intro q h n
  induction n with
  |zero=>simp[num]
  |succ n ih=>simp only[num];rw[h n aO];simpa[Pj.c] using ih
 |cons s S ih=>
  intro q h n;have h1:=num_upd q s n;have h2:=ih (bG q s .gone) (λi hi=>by
   by_cases e:i=s
   .subst e;exact upd_same _ _ _
   .rw[upd_ne _ _ e];exact h i (by simp[e,hi])) n
  simp only[pT];omega
section
variable {N:Nat}{W:List fH}{q:Nat->Pj gO}{ch:rP}
theorem ztr (ch:rP):ch.opn []=ch:=by funext c;simp[rP.opn]
theorem zwT {ch:rP}{a c:Nat}(h:c≠a):ch.opn [a] c=ch c:=by simp[rP.opn,h]
theorem zqU (ch:rP)(a:Nat):ch.opn [a] a=some false:=by simp[rP.opn]
theorem Yd {qs:List Nat}{n:Nat}(h:qs.length=n){j:Nat}(hj:j<n)(a:Nat):qa (qs++[a]) j=qa qs j:=by
 unfold qa;rw[Lj,Lj,Ab aC]
theorem zdn {qs:List Nat}{n:Nat}(h:qs.length=n)(a:Nat):qa (qs++[a]) n=a:=by
 unfold qa;rw[Lj,At aC,h,Og];rfl
theorem ztq {D:aE->Prop}{l:gO}(h:(∃qs,l=.mN qs)\/(∃qs a,l=.mA qs a)\/(∃qs a,l=.mS qs a)\/(∃qs,l=.mW qs)\/l=.mZ):¬(B6 N W D).Blocked q ch l:=by
 unfold jU.Blocked;split
 .rename_i e;exact((Y7 h).1 _ _ _ _ e).elim
 .rename_i e;exact((Y7 h).2.1 _ _ _ _ e).elim
 .exact id
theorem zzz (N:Nat)(W:List fH)(D:aE->Prop)(hW:WOk N W)(hN:N<=1000000):(B6 N W D).Ok where
 send1:=by
  intro q ch i j li lj c ok pub nx pE O7 nQ hI hi hj ha hb
  cases hI with
  |a n qs ix l0 hq hn hl h0 ho hc hg=>exact(zf8 hl h0 ho hg hi ha).elim
  |b qs ix iw k hq hk hw aT h0 cN ho hc hg=>rw[(Z6 h0 cN ho hg hi ha).1,(Z6 h0 cN ho hg hj hb).1]
  |c qs ix iw k i0 kd cl ans a hq hk hw aT h0 cN ho hc pR l8 hg=>rw[(zc6 h0 cN ho hg hi ha).2.1,(zc6 h0 cN ho hg hj hb).2.1]
 recv1:=by
  intro q ch i j li lj c ok nx sh pE nQ xD hI hi hj ha hb
  cases hI with
  |a n qs ix l0 hq hn hl h0 ho hc hg=>
   obtain⟨j1,h1,rfl,_,c1⟩:=zdi hl h0 ho hg hi ha;obtain⟨j2,h2,rfl,_,c2⟩:=zdi hl h0 ho hg hj hb;rw[hq.inj j1 j2 h1 h2 (c1.symm.trans c2)]
  |b qs ix iw k hq hk hw aT h0 cN ho hc hg=>
   obtain⟨j1,h1,rfl,_,c1,_⟩:=Xw h0 cN ho hg hi ha;obtain⟨j2,h2,rfl,_,c2,_⟩:=Xw h0 cN ho hg hj hb;rw[hq.inj j1 j2 h1 h2 (c1.symm.trans c2)]
  |c qs ix iw k i0 kd cl ans a hq hk hw aT h0 cN ho hc pR l8 hg=>
   rcases V4 h0 cN ho hg hi ha with⟨rfl,_,rfl,_⟩|⟨j1,h1,_,rfl,_,c1,_⟩<;>rcases V4 h0 cN ho hg hj hb with⟨rfl,_,e2,_⟩|⟨j2,h2,_,rfl,_,c2,_⟩
   .rfl
   .exact(l8 j2 h2 c2.symm).elim
   .exact(l8 j1 h1 (c1.symm.trans e2)).elim
   .rw[hq.inj j1 j2 h1 h2 (c1.symm.trans c2)]
 sendC:=by
  intro q ch i l c ok pub nx hI hi ha
  cases hI with
  |a n qs ix l0 hq hn hl h0 ho hc hg=>exact(zf8 hl h0 ho hg hi ha).elim
  |b qs ix iw k hq hk hw aT h0 cN ho hc hg=>
   obtain⟨rfl,rfl,j,kd,cl,ans,h1,rfl,_⟩:=Z6 h0 cN ho hg hi ha;obtain⟨h2,h3,_⟩:=hW.ask k j kd cl ans h1;rw[hc j h2,h3]
  |c qs ix iw k i0 kd cl ans a hq hk hw aT h0 cN ho hc pR l8 hg=>
   obtain⟨_,_,_,rfl,_⟩:=zc6 h0 cN ho hg hi ha;exact pR
 recvC:=by
  intro q ch i l c ok nx sh hI hi ha
  cases hI with
  |a n qs ix l0 hq hn hl h0 ho hc hg=>
   obtain⟨j1,h1,rfl,_,rfl⟩:=zdi hl h0 ho hg hi ha;exact⟨_,hc j1 h1⟩
  |b qs ix iw k hq hk hw aT h0 cN ho hc hg=>
   obtain⟨j1,h1,rfl,_,rfl,_⟩:=Xw h0 cN ho hg hi ha;exact⟨_,hc j1 h1⟩
  |c qs ix iw k i0 kd cl ans a hq hk hw aT h0 cN ho hc pR l8 hg=>
   rcases V4 h0 cN ho hg hi ha with⟨rfl,_,rfl,_⟩|⟨j1,h1,_,rfl,_,rfl,_⟩
   .exact⟨_,pR⟩
   .exact⟨_,hc j1 h1⟩
 meet:=by
  intro q ch i j li lj c ok pub nx pE nQ sh v hI hi hj ha hb hv hp
  cases hI with
  |a n qs ix l0 hq hn hl h0 ho hc hg=>exact(zf8 hl h0 ho hg hi ha).elim
  |b qs ix iw k hq hk hw aT h0 cN ho hc hg=>
   obtain⟨rfl,rfl,j0,kd,cl,ans,h1,rfl,rfl,rfl,rfl⟩:=Z6 h0 cN ho hg hi ha;obtain⟨j1,Gd,rfl,rfl,qR,rfl,rfl,_⟩:=Xw h0 cN ho hg hj hb;obtain rfl:=hq.inj j0 j1 (hW.ask k j0 kd cl ans h1).1 Gd qR;obtain⟨a,rfl⟩:=hv;have Lu:=hp a (by simp[Po,zfj]);have l8:∀j,j<N->qa qs j≠a:=λj hj e=>by have:=hc j hj;rw[e,Lu] at this;cases this
   have hR:=ztf h1 j0;rw[if_pos rfl] at hR;refine⟨⟨by simp[zfj],aC⟩,?_⟩;show Z2 N W (bG (bG q i (.run (.wr qs k a))) (ix j0) (.run (.an (qa qs j0) (if kd=1 then cl else kY W k j0) a (nX W k j0-1)))) (ch.opn [a]);rw[show nX W k j0-1=nX W (k+1) j0 by omega];refine .c qs ix i k j0 kd cl ans a hq h1 hw aT ?_ ?_ ⟨ho.ne,ho.inj,λj hj=>?_⟩ (λj hj=>by rw[zwT (l8 j hj)];exact hc j hj) (zqU _ _) l8 λi' g0 g1 g2=>?_
   .rw[upd_ne _ _ (Ne.symm (ho.ne j0 Gd)),upd_ne _ _ (Ne.symm hw)];exact h0
   .rw[upd_ne _ _ (Ne.symm (aT j0 Gd)),upd_same]
   .by_cases e:j=j0
    .subst e;rw[if_pos rfl,upd_same,zvJ h1,if_pos rfl]
    .rw[if_neg e,upd_ne _ _ (λh=>e (ho.inj j j0 hj Gd h)),upd_ne _ _ (aT j hj)]
     exact ho.at_ j hj
   .rw[upd_ne _ _ (g2 j0 Gd),upd_ne _ _ g1];exact hg i' g0 g1 g2
  |c qs ix iw k i0 kd cl ans a hq hk hw aT h0 cN ho hc pR l8 hg=>
   obtain⟨eV,rfl,rfl,rfl,rfl,rfl,rfl⟩:=zc6 h0 cN ho hg hi ha;rcases V4 h0 cN ho hg hj hb with⟨rfl,rfl,_,rfl,rfl⟩|⟨j1,Gd,_,rfl,_,qR,_⟩
   .refine⟨?_,?_⟩
    .unfold Yu;rw[hk]
     show v=_;rw[(hW.ask k i0 kd cl ans hk).2.2];exact hv
    .rw[ztr]
     refine .b qs ix j (k+1) hq (wk_lt hk) hw aT ?_ (.inl (upd_same _ _ _)) ⟨ho.ne,ho.inj,λj' oZ=>?_⟩ (λj' oZ=>by rw[zn7 hk];exact hc j' oZ) λi' g0 g1 g2=>?_
     .rw[upd_ne _ _ (Ne.symm hw),upd_ne _ _ (Ne.symm (ho.ne i0 eV))];exact h0
     .rw[upd_ne _ _ (aT j' oZ)]
      by_cases e:j'=i0
      .subst e;rw[upd_same];exact .inl rfl
      .rw[upd_ne _ _ (λh=>e (ho.inj j' i0 oZ eV h))]
       have:=ho.at_ j' oZ;rw[if_neg e] at this;unfold H5 at this⊢;have hR:=ztf hk j';rw[if_neg e,Ur] at hR;rw[zvJ hk,if_neg e,zn7 hk,<-hR];exact this
     .rw[upd_ne _ _ g1,upd_ne _ _ (g2 i0 eV)];exact hg i' g0 g1 g2
   .exact(l8 j1 Gd qR.symm).elim
 shut:=by
  intro q ch i l c ok nx sh hI hi ha qR
  cases hI with
  |a n qs ix l0 hq hn hl h0 ho hc hg=>
   obtain⟨j1,h1,rfl,_,rfl⟩:=zdi hl h0 ho hg hi ha;rw[hc j1 h1] at qR;cases qR
  |b qs ix iw k hq hk hw aT h0 cN ho hc hg=>
   obtain⟨j1,h1,rfl,rfl,rfl,_,_,rfl⟩:=Xw h0 cN ho hg hi ha;have hx:fY W k j1=true:=by have:=hc j1 h1;rw[qR] at this;injection this with this;exact this.symm
   refine⟨trivial,.b qs ix iw k hq hk hw aT ?_ ?_ ⟨ho.ne,ho.inj,λj hj=>?_⟩ hc λi' g0 g1 g2=>?_⟩
   .rw[upd_ne _ _ (Ne.symm (ho.ne j1 h1))];exact h0
   .rw[upd_ne _ _ (Ne.symm (aT j1 h1))];exact cN
   .by_cases e:j=j1
    .subst e;rw[upd_same];exact .inr ⟨hx,.inl rfl⟩
    .rw[upd_ne _ _ (λh=>e (ho.inj j j1 hj h1 h))];exact ho.at_ j hj
   .rw[upd_ne _ _ (g2 j1 h1)];exact hg i' g0 g1 g2
  |c qs ix iw k i0 kd cl ans a hq hk hw aT h0 cN ho hc pR l8 hg=>
   rcases V4 h0 cN ho hg hi ha with⟨rfl,_,rfl,_⟩|⟨j1,h1,Pa,rfl,rfl,rfl,rfl⟩
   .rw[pR] at qR;cases qR
   .have hx:fY W k j1=true:=by have:=hc j1 h1;rw[qR] at this;injection this with this;exact this.symm
    refine⟨trivial,.c qs ix iw k i0 kd cl ans a hq hk hw aT ?_ ?_ ⟨ho.ne,ho.inj,λj hj=>?_⟩ hc pR l8 λi' g0 g1 g2=>?_⟩
    .rw[upd_ne _ _ (Ne.symm (ho.ne j1 h1))];exact h0
    .rw[upd_ne _ _ (Ne.symm (aT j1 h1))];exact cN
    .by_cases e:j=j1
     .subst e;rw[if_neg Pa,upd_same];exact .inr ⟨hx,.inl rfl⟩
     .rw[upd_ne _ _ (λh=>e (ho.inj j j1 hj h1 h))];exact ho.at_ j hj
    .rw[upd_ne _ _ (g2 j1 h1)];exact hg i' g0 g1 g2
 close:=by
  intro q ch i l c nx hI hi ha;obtain⟨Om,k',i0,rfl,cO,rfl,rfl⟩:=zws (N:=N) ha
  cases hI with
  |a n qs ix l0 hq hn hl h0 ho hc hg=>
   rcases Ql hl h0 ho hg hi with⟨rfl,rfl⟩|⟨j,hj,rfl,e⟩
   .exact((Y7 (N:=N) (W:=W) (zc5 hl)).2.2.1 _ _ ha).elim
   .cases e
  |b qs ix iw k hq hk hw aT h0 cN ho hc hg=>
   rcases Ob h0 cN ho hg hi with⟨_,e⟩|⟨rfl,e⟩|⟨j,hj,rfl,e|⟨_,e⟩⟩<;>cases e;obtain⟨eV,hx⟩:=hW.shut k' i0 cO;refine⟨by rw[hc i0 eV,hx],.b Om ix i (k'+1) hq (wk_lt cO) hw aT ?_ (.inl (upd_same _ _ _)) ⟨ho.ne,ho.inj,λj hj=>?_⟩ (λj hj=>?_) λi' g0 g1 g2=>?_⟩
   .rw[upd_ne _ _ (Ne.symm hw)];exact h0
   .rw[upd_ne _ _ (aT j hj)]
    have:=ho.at_ j hj;unfold H5 at this⊢;rw[zDz cO,zvI cO,zHO cO];refine this.imp id λh=>⟨?_,h.2⟩;split
    .rfl
    .exact h.1
   .rw[zvI cO]
    by_cases e:j=i0
    .subst e;rw[if_pos rfl,upd_same]
    .rw[if_neg e,upd_ne _ _ (λh=>e (hq.inj j i0 hj eV h))];exact hc j hj
   .rw[upd_ne _ _ g1];exact hg i' g0 g1 g2
  |c qs ix iw k i1 kd cl ans a hq hk hw aT h0 cN ho hc pR l8 hg=>
   rcases P4 h0 cN ho hg hi with⟨_,e⟩|⟨_,e⟩|⟨j,hj,rfl,⟨_,e⟩|⟨_,e|⟨_,e⟩⟩⟩<;>cases e
 add:=by
  intro q ch i l nx hI hi ha;have ha:=zDy ha
  cases hI with
  |a n qs ix l0 hq hn hl h0 ho hc hg=>
   rcases Ql hl h0 ho hg hi with⟨rfl,rfl⟩|⟨j,hj,rfl,rfl⟩
   .have keep:∀l',(l'=.mN qs\/(n<N/\∃a,l'=.mA qs a\/l'=.mS qs a)\/(l'=.mW qs/\n=N))->Z2 N W (bG q 0 (.run l')) ch:=λl' yH=>
     .a n qs ix l' hq hn yH (upd_same _ _ _) ⟨ho.ne,ho.inj,λj hj=>by rw[upd_ne _ _ (ho.ne j hj)];exact ho.at_ j hj⟩ hc λi' g0 g1=>by rw[upd_ne _ _ g0];exact hg i' g0 g1
    rcases ha with⟨Om,rfl,h1,rfl⟩|⟨Om,a,rfl,rfl⟩
    .rcases hl with e|⟨_,_,e|e⟩|⟨e,_⟩<;>cases e
     refine⟨rfl,rfl,rfl,keep _ (.inr (.inr ⟨rfl,?_⟩))⟩;have:=hq.len;omega
    .rcases hl with e|⟨h1,_,e|e⟩|⟨e,_⟩<;>cases e
     exact⟨rfl,rfl,rfl,keep _ (.inr (.inl ⟨h1,a,.inr rfl⟩))⟩
   .rcases ha with⟨_,e,_⟩|⟨_,_,e,_⟩<;>cases e
  |b qs ix iw k hq hk hw aT h0 cN ho hc hg=>
   exfalso;rcases Ob h0 cN ho hg hi with⟨_,rfl⟩|⟨_,rfl⟩|⟨j,hj,_,rfl|⟨_,rfl⟩⟩<;>rcases ha with⟨_,e,_⟩|⟨_,_,e,_⟩<;>cases e
  |c qs ix iw k i0 kd cl ans a hq hk hw aT h0 cN ho hc pR l8 hg=>
   exfalso;rcases P4 h0 cN ho hg hi with⟨_,rfl⟩|⟨_,rfl⟩|⟨j,hj,_,⟨_,rfl⟩|⟨_,rfl|⟨_,rfl⟩⟩⟩<;>rcases ha with⟨_,e,_⟩|⟨_,_,e,_⟩<;>cases e
 spawn:=by
  intro q ch i l pub lc nx kk hI hi ha;have ha:=zAz ha
  cases hI with
  |a n qs ix l0 hq hn hl h0 ho hc hg=>
   rcases Ql hl h0 ho hg hi with⟨rfl,rfl⟩|⟨j,hj,rfl,rfl⟩
   .rcases ha with⟨Om,a,rfl,rfl,rfl,rfl⟩|⟨Om,rfl,rfl,rfl,rfl⟩
    .rcases hl with e|⟨aN,_,e|e⟩|⟨e,_⟩<;>cases e
     refine⟨rfl,rfl,rfl,λhk jC hp=>?_⟩;have Lu:=hp a aO;have l8:∀j,j<n->qa qs j≠a:=λj hj e=>by have:=hc j hj;rw[e,Lu] at this;cases this
     have eM:∀j,j<n->ix j≠kk:=λj hj e=>by have:=ho.at_ j hj;rw[e,hk] at this;cases this
     have Iv:∀j,j<n+1->j<n\/j=n:=λj hj=>by omega
     refine .a (n+1) (qs++[a]) (λj=>if j<n then ix j else kk) _ ⟨by simp[hq.len],λj j' hj oZ e=>?_⟩ aN (.inl rfl) ?_ ⟨λj hj=>?_,λj j' hj oZ e=>?_,λj hj=>?_⟩ (λj hj=>?_) λi' g0 g1=>?_
     .rcases Iv j hj with h|rfl<;>rcases Iv j' oZ with h'|rfl
      .rw[Yd hq.len h,Yd hq.len h'] at e;exact hq.inj j j' h h' e
      .rw[Yd hq.len h,zdn hq.len] at e;exact(l8 j h e).elim
      .rw[Yd hq.len h',zdn hq.len] at e;exact(l8 j' h' e.symm).elim
      .rfl
     .rw[upd_ne _ _ (Ne.symm jC),upd_same]
     .show(if j<n then ix j else kk)≠0
      split
      .rename_i h;exact ho.ne j h
      .exact jC
     .have e:=e
      rcases Iv j hj with h|rfl<;>rcases Iv j' oZ with h'|rfl
      .rw[if_pos h,if_pos h'] at e;exact ho.inj j j' h h' e
      .rw[if_pos h,if_neg (Cr _)] at e;exact(eM j h e).elim
      .rw[if_pos h',if_neg (Cr _)] at e;exact(eM j' h' e.symm).elim
      .rfl
     .rcases Iv j hj with h|rfl
      .simp only[if_pos h]
       rw[upd_ne _ _ (eM j h),upd_ne _ _ (ho.ne j h),Yd hq.len h];exact ho.at_ j h
      .simp only[Cr,if_false]
       rw[upd_same,zdn hq.len,hq.len]
     .rcases Iv j hj with h|rfl
      .rw[Yd hq.len h,zwT (l8 j h)];exact hc j h
      .rw[zdn hq.len];exact zqU _ _
     .have e1:i'≠kk:=λe=>by have:=g1 n (xH _);simp only[Cr,if_false] at this;exact this e
      rw[upd_ne _ _ e1,upd_ne _ _ g0];exact hg i' g0 λj hj e=>by have:=g1 j aC;simp only[if_pos hj] at this;exact this e
    .rcases hl with e|⟨aN,_,e|e⟩|⟨e,rfl⟩<;>cases e
     refine⟨rfl,rfl,rfl,λhk jC hp=>?_⟩;have eM:∀j,j<n->ix j≠kk:=λj hj e=>by have:=ho.at_ j hj;rw[e,hk] at this;cases this
     rw[ztr];refine .b qs ix kk 0 hq (jT _) jC eM (.inl ?_) (.inl (upd_same _ _ _)) ⟨ho.ne,ho.inj,λj hj=>?_⟩ hc λi' g0 g1 g2=>?_
     .rw[upd_ne _ _ (Ne.symm jC),upd_same]
     .rw[upd_ne _ _ (eM j hj),upd_ne _ _ (ho.ne j hj)];exact .inl (ho.at_ j hj)
     .rw[upd_ne _ _ g1,upd_ne _ _ g0];exact hg i' g0 g2
   .rcases ha with⟨_,_,e,_⟩|⟨_,e,_⟩<;>cases e
  |b qs ix iw k hq hk hw aT h0 cN ho hc hg=>
   exfalso;rcases Ob h0 cN ho hg hi with⟨_,rfl⟩|⟨_,rfl⟩|⟨j,hj,_,rfl|⟨_,rfl⟩⟩<;>rcases ha with⟨_,_,e,_⟩|⟨_,e,_⟩<;>cases e
  |c qs ix iw k i0 kd cl ans a hq hk hw aT h0 cN ho hc pR l8 hg=>
   exfalso;rcases P4 h0 cN ho hg hi with⟨_,rfl⟩|⟨_,rfl⟩|⟨j,hj,_,⟨_,rfl⟩|⟨_,rfl|⟨_,rfl⟩⟩⟩<;>rcases ha with⟨_,_,e,_⟩|⟨_,e,_⟩<;>cases e
 done:=by
  intro q ch i l hI hi ha;have fM:=zA0 ha
  cases hI with
  |a n qs ix l0 hq hn hl h0 ho hc hg=>
   exfalso;rcases Ql hl h0 ho hg hi with⟨rfl,rfl⟩|⟨j,hj,rfl,rfl⟩
   .exact(Y7 (zc5 hl)).2.2.2 ha
   .cases ha
  |b qs ix iw k hq hk hw aT h0 cN ho hc hg=>
   rcases Ob h0 cN ho hg hi with⟨_,rfl⟩|⟨rfl,rfl⟩|⟨j,hj,rfl,rfl|⟨hx,rfl⟩⟩
   .cases ha
   .rcases fM with e|⟨_,_,e,h1⟩
    .cases e
    .cases e
     have zfm:k=W.length:=by have:=zuo.1 h1;omega
     refine⟨hw,.b qs ix i k hq hk hw aT ?_ (.inr ⟨zfm,upd_same _ _ _⟩) ⟨ho.ne,ho.inj,λj hj=>?_⟩ hc λi' g0 g1 g2=>?_⟩
     .rw[upd_ne _ _ (Ne.symm hw)];exact h0
     .rw[upd_ne _ _ (aT j hj)];exact ho.at_ j hj
     .rw[upd_ne _ _ g1];exact hg i' g0 g1 g2
   .cases ha
   .refine⟨ho.ne j hj,.b qs ix iw k hq hk hw aT ?_ ?_ ⟨ho.ne,ho.inj,λj' oZ=>?_⟩ hc λi' g0 g1 g2=>?_⟩
    .rw[upd_ne _ _ (Ne.symm (ho.ne j hj))];exact h0
    .rw[upd_ne _ _ (Ne.symm (aT j hj))];exact cN
    .by_cases e:j'=j
     .subst e;rw[upd_same];exact .inr ⟨hx,.inr rfl⟩
     .rw[upd_ne _ _ (λh=>e (ho.inj j' j oZ hj h))];exact ho.at_ j' oZ
    .rw[upd_ne _ _ (g2 j hj)];exact hg i' g0 g1 g2
  |c qs ix iw k i0 kd cl ans a hq hk hw aT h0 cN ho hc pR l8 hg=>
   rcases P4 h0 cN ho hg hi with⟨_,rfl⟩|⟨rfl,rfl⟩|⟨j,hj,rfl,⟨_,rfl⟩|⟨Pa,rfl|⟨hx,rfl⟩⟩⟩
   .cases ha
   .cases ha
   .cases ha
   .cases ha
   .refine⟨ho.ne j hj,.c qs ix iw k i0 kd cl ans a hq hk hw aT ?_ ?_ ⟨ho.ne,ho.inj,λj' oZ=>?_⟩ hc pR l8 λi' g0 g1 g2=>?_⟩
    .rw[upd_ne _ _ (Ne.symm (ho.ne j hj))];exact h0
    .rw[upd_ne _ _ (Ne.symm (aT j hj))];exact cN
    .by_cases e:j'=j
     .subst e;rw[if_neg Pa,upd_same];exact .inr ⟨hx,.inr rfl⟩
     .rw[upd_ne _ _ (λh=>e (ho.inj j' j oZ hj h))];exact ho.at_ j' oZ
    .rw[upd_ne _ _ (g2 j hj)];exact hg i' g0 g1 g2
 note:=by
  intro q ch i l can l' hI hi ha zJE;obtain⟨Om,rfl,aN,rfl⟩:=zHp ha;obtain⟨a,rfl⟩:=zJE;refine⟨rfl,?_⟩
  cases hI with
  |a n qs ix l0 hq hn hl h0 ho hc hg=>
   rcases Ql hl h0 ho hg hi with⟨rfl,rfl⟩|⟨j,hj,rfl,e⟩
   .rcases hl with e|⟨_,_,e|e⟩|⟨e,_⟩<;>cases e
    exact .a n Om ix _ hq hn (.inr (.inl ⟨by have:=hq.len;omega,a,.inl rfl⟩)) (upd_same _ _ _) ⟨ho.ne,ho.inj,λj hj=>by rw[upd_ne _ _ (ho.ne j hj)];exact ho.at_ j hj⟩ hc λi' g0 g1=>by rw[upd_ne _ _ g0];exact hg i' g0 g1
   .cases e
  |b qs ix iw k hq hk hw aT h0 cN ho hc hg=>
   exfalso;rcases Ob h0 cN ho hg hi with⟨_,e⟩|⟨_,e⟩|⟨j,hj,_,e|⟨_,e⟩⟩<;>cases e
  |c qs ix iw k i0 kd cl ans a hq hk hw aT h0 cN ho hc pR l8 hg=>
   exfalso;rcases P4 h0 cN ho hg hi with⟨_,e⟩|⟨_,e⟩|⟨j,hj,_,⟨_,e⟩|⟨_,e|⟨_,e⟩⟩⟩<;>cases e
 wait:=by
  intro q ch i l hI hi ha;obtain rfl:=zzI ha
  cases hI with
  |a n qs ix l0 hq hn hl h0 ho hc hg=>
   exfalso;rcases Ql hl h0 ho hg hi with⟨rfl,e⟩|⟨j,hj,rfl,e⟩
   .subst e;rcases hl with e|⟨_,_,e|e⟩|⟨e,_⟩<;>cases e
   .cases e
  |b qs ix iw k hq hk hw aT h0 cN ho hc hg=>
   rcases Ob h0 cN ho hg hi with⟨rfl,_⟩|⟨_,e⟩|⟨j,hj,_,e|⟨_,e⟩⟩
   .refine⟨rfl,rfl,.b qs ix iw k hq hk hw aT (.inr (upd_same _ _ _)) ?_ ⟨ho.ne,ho.inj,λj hj=>?_⟩ hc λi' g0 g1 g2=>?_⟩
    .rw[upd_ne _ _ hw];exact cN
    .rw[upd_ne _ _ (ho.ne j hj)];exact ho.at_ j hj
    .rw[upd_ne _ _ g0];exact hg i' g0 g1 g2
   all_goals cases e
  |c qs ix iw k i0 kd cl ans a hq hk hw aT h0 cN ho hc pR l8 hg=>
   rcases P4 h0 cN ho hg hi with⟨rfl,_⟩|⟨_,e⟩|⟨j,hj,_,⟨_,e⟩|⟨_,e|⟨_,e⟩⟩⟩
   .refine⟨rfl,rfl,.c qs ix iw k i0 kd cl ans a hq hk hw aT (.inr (upd_same _ _ _)) ?_ ⟨ho.ne,ho.inj,λj hj=>?_⟩ hc pR l8 λi' g0 g1 g2=>?_⟩
    .rw[upd_ne _ _ hw];exact cN
    .rw[upd_ne _ _ (ho.ne j hj)];exact ho.at_ j hj
    .rw[upd_ne _ _ g0];exact hg i' g0 g1 g2
   all_goals cases e
 prog:=by
  intro q ch hI hB
  cases hI with
  |a n qs ix l0 hq hn hl h0 ho hc hg=>exact(ztq (zc5 hl) (hB 0 l0 h0)).elim
  |b qs ix iw k hq hk hw aT h0 cN ho hc hg=>
   have hz:=h0.resolve_left λe=>ztq (.inr (.inr (.inr (.inr rfl)))) (hB 0 _ e);have zA2:k=W.length:=by
    rcases cN with e|⟨e,_⟩
    .have h1:=hB iw _ e
     cases hx:W[k]? with
     |none=>have:=zuo.1 hx;omega
     |some x=>
      exfalso
      cases x with
      |ask i kd cl ans=>
       obtain⟨hi,Ak,_⟩:=hW.ask k i kd cl ans hx;unfold jU.Blocked B6 at h1;simp only[eT,hx] at h1;refine h1 ⟨ix i,.op (qa qs i) (kY W k i) (nX W k i),_,_,_,?_,rfl⟩;rcases ho.at_ i hi with h2|⟨h2,_⟩
       .exact h2
       .rw[Ak] at h2;cases h2
      |shut i=>
       unfold jU.Blocked B6 at h1;simp only[eT,hx] at h1
    .exact e
   subst zA2;refine⟨hz,λi l hi=>?_⟩;have h1:=hB i l hi;rcases Ob h0 cN ho hg hi with⟨rfl,_⟩|⟨_,rfl⟩|⟨j,hj,rfl,rfl|⟨_,rfl⟩⟩
   .rw[hz] at hi;cases hi
   .unfold jU.Blocked B6 at h1
    simp[eT] at h1
   .unfold jU.Blocked B6 at h1
    simp only[eT] at h1;rw[hc j hj,hW.all j hj] at h1;exact absurd h1.1 aO
   .unfold jU.Blocked B6 at h1
    simp[eT] at h1
  |c qs ix iw k i0 kd cl ans a hq hk hw aT h0 cN ho hc pR l8 hg=>
   exfalso;obtain⟨eV,_,_⟩:=hW.ask k i0 kd cl ans hk;have h2:=ho.at_ i0 eV;rw[if_pos rfl] at h2;have h1:=hB (ix i0) _ h2;unfold jU.Blocked B6 at h1;simp only[eT] at h1;exact h1 ⟨iw,.wr qs k a,_,_,_,cN,rfl⟩
 pendC:=by
  intro l l' c v ok pub nx ha hl;subst hl;rcases zmQ ha with⟨c0,call,m,rfl,rfl,rfl,rfl⟩|⟨qs,k,i,kd,cl,ans,rfl,h1,rfl,rfl,rfl,rfl⟩
  .rfl
  .show(Zu qs k v).pend=false
   unfold Zu;split<;>rfl
 pendR:=by
  intro l l' c v ok nx sh ha hl;rcases Zn ha with⟨call,m,rfl,rfl,rfl,rfl⟩|⟨qs,k,rfl,rfl,rfl,rfl⟩
  .rcases hl with rfl|rfl
   .show(U0 c call m v).pend=false
    unfold U0;split<;>rfl
   .rfl
  .rcases hl with rfl|rfl<;>rfl
 pendX:=by
  intro l c nx ha;obtain⟨qs,k,i,rfl,_,_,rfl⟩:=zws ha;rfl
 few:=by
  intro q ch hI m;have key:∀(n iw:Nat) (ix:Nat->Nat),n<=N->(∀i,i≠0->i≠iw->(∀j,j<n->i≠ix j)->q i=.gone)->num q m<2000000000:=λn iw ix hn hg=>by
   have:=zEz (0::iw::(gF n).map ix) q (λi hi=>by
    simp only[jJ,not_or,Ia,Bz,not_exists,not_and] at hi;exact hg i hi.1 hi.2.1 λj hj e=>hi.2.2 j hj e.symm) m
   simp at this;omega
  cases hI with
  |a n qs ix l0 hq hn hl h0 ho hc hg=>exact key n 0 ix hn λi h1 _ h3=>hg i h1 h3
  |b qs ix iw k hq hk hw aT h0 cN ho hc hg=>exact key N iw ix (aX _) hg
  |c qs ix iw k i0 kd cl ans a hq hk hw aT h0 cN ho hc pR l8 hg=>exact key N iw ix (aX _) hg
 gotP:=by
  intro q ch i j li lj c ok pub nx pE nQ sh v hI hi hj ha hb hv a hx
  cases hI with
  |a n qs ix l0 hq hn hl h0 ho hc hg=>exact(zf8 hl h0 ho hg hi ha).elim
  |b qs ix iw k hq hk hw aT h0 cN ho hc hg=>
   obtain⟨rfl,rfl,j0,kd,cl,ans,h1,rfl,rfl,rfl,rfl⟩:=Z6 h0 cN ho hg hi ha;obtain⟨j1,Gd,rfl,rfl,_⟩:=Xw h0 cN ho hg hj hb;exact hx
  |c qs ix iw k i0 kd cl ans a' hq hk hw aT h0 cN ho hc pR l8 hg=>
   obtain⟨eV,rfl,rfl,rfl,rfl,rfl,rfl⟩:=zc6 h0 cN ho hg hi ha;rcases V4 h0 cN ho hg hj hb with⟨rfl,rfl,_⟩|⟨j1,Gd,_,rfl,_,qR,_⟩
   .cases hx
   .exact(l8 j1 Gd qR.symm).elim
end
end Go.Mt
namespace Go.Proofs.YtfcjiloojkjaeaaGreatDoor
open Go.RowKit Go.Mt
def y5 (op:Int):Nat:=(op-1).toNat
def Hb (b:bX)(op:Int):List fH:=
 .ask (y5 op) 0 0 (dA b.recs op)::(if 0<dA b.recs op then[] else match b.wait with|[]=>[]|c::_=>[.ask (y5 op) 1 c.c c.c])
def C0 (b:bX)(op:Int):List fH:=
 .ask (y5 op) 0 0 (dA b.recs op)::(if 0<dA b.recs op then[] else match b.back with|[]=>[]|c::_=>match oJ b.o b.recs with|[]=>[]|_::_=>[.ask (y5 op) 1 c.c c.c])
def Dv (b:bX)(c:Int):List fH:=
 match jL b.recs c with
 |some i=>if 0<opAt b.recs i then[.ask (y5 (opAt b.recs i)) 1 0 0] else[]
 |none=>[]
def pG (b:bX)(e:dD):List fH:=
 if e.k.toList=Hz then[] else if e.k.toList=Ii then Hb b e.a else if e.k.toList=Hw then C0 b e.a else if e.k.toList=Kf then Dv b e.a else[]
def rZ (o:jG)(es:List dD):Nat->List fH
 |0=>[]
 |k+1=>rZ o es k++(match es[k]? with|some e=>pG (mH o es k) e|none=>[])
def yN (b:bX):Nat->List fH
 |0=>[]
 |n+1=>yN b n++[.ask n 0 0 (dA b.recs ((n:Int)+1)),.shut n]
def Bo (o:jG)(es:List dD):List fH:=rZ o es es.length++yN (Eu o es) o.op.toNat
theorem zhM (A B:List fH)(i:Nat):∀k,k<=A.length->kY (A++B) k i=kY A k i:=by
 intro k
 induction k with
 |zero=>intro _;rfl
 |succ k ih=>
  intro hk;simp only[kY];rw[Ab aC,ih aC]
theorem Yf (A B:List fH)(i:Nat):∀k,k<=A.length->fY (A++B) k i=fY A k i:=by
 intro k
 induction k with
 |zero=>intro _;rfl
 |succ k ih=>
  intro hk;simp only[fY];rw[Ab aC,ih aC]
theorem ze0 (A:List fH)(x:fH):(A++[x])[A.length]? =some x:=by rw[At (aX _),Og];rfl
structure WP (N:Nat)(A:List fH):Prop where
 ask:∀(k i:Nat) (kd cl ans:Int),A[k]? =some (.ask i kd cl ans)->i<N/\fY A k i=false/\ans=kY A (k+1) i
 shut:∀(k i:Nat),A[k]? =some (.shut i)->i<N/\fY A k i=false
variable {N:Nat}{A:List fH}
theorem WP.snoc {x:fH}(h:WP N A)(h1:∀i kd cl ans,x=.ask i kd cl ans->i<N/\fY A A.length i=false/\ans=kY (A++[x]) (A.length+1) i)(h2:∀i,x=.shut i->i<N/\fY A A.length i=false):WP N (A++[x]):=by
 have key:∀(k:Nat) (y:fH),(A++[x])[k]? =some y->(k<A.length/\A[k]? =some y)\/(k=A.length/\y=x):=λk y hk=>by
  rcases nC k A.length with hl|hl
  .rw[Ab hl] at hk;exact .inl ⟨hl,hk⟩
  .rw[At hl] at hk
   rcases Qa (k-A.length) with e|e
   .rw[e] at hk;exact .inr ⟨aC,by simpa using hk.symm⟩
   .rw[Ca q8] at hk;cases hk
 refine⟨λk i kd cl ans hk=>?_,λk i hk=>?_⟩
 .rcases key k _ hk with⟨hl,cO⟩|⟨rfl,e⟩
  .obtain⟨a1,a2,a3⟩:=h.ask k i kd cl ans cO
   exact⟨a1,by rw[Yf _ _ _ _ aC];exact a2,by rw[zhM _ _ _ _ aC];exact a3⟩
  .obtain⟨a1,a2,a3⟩:=h1 i kd cl ans e.symm
   exact⟨a1,by rw[Yf _ _ _ _ (aX _)];exact a2,a3⟩
 .rcases key k _ hk with⟨hl,cO⟩|⟨rfl,e⟩
  .obtain⟨a1,a2⟩:=h.shut k i cO
   exact⟨a1,by rw[Yf _ _ _ _ aC];exact a2⟩
  .obtain⟨a1,a2⟩:=h2 i e.symm
   exact⟨a1,by rw[Yf _ _ _ _ (aX _)];exact a2⟩
theorem Vw (A:List fH)(j:Nat)(kd cl ans:Int)(i:Nat):kY (A++[.ask j kd cl ans]) (A.length+1) i=if i=j then(if kd=1 then cl else kY A A.length i) else kY A A.length i:=by
 simp only[kY,ze0];rw[zhM _ _ _ _ (aX _)]
theorem znB (A:List fH)(j:Nat)(kd cl ans:Int)(i:Nat):fY (A++[.ask j kd cl ans]) (A.length+1) i=fY A A.length i:=by
 simp only[fY,ze0];rw[Yf _ _ _ _ (aX _)]
theorem zFf (A:List fH)(j i:Nat):kY (A++[.shut j]) (A.length+1) i=kY A A.length i:=by
 simp only[kY,ze0];rw[zhM _ _ _ _ (aX _)]
theorem zDH (A:List fH)(j i:Nat):fY (A++[.shut j]) (A.length+1) i=if i=j then true else fY A A.length i:=by
 simp only[fY,ze0];rw[Yf _ _ _ _ (aX _)]
def Jb (N:Nat)(rs:List bR)(A:List fH):Prop:=∀i,i<N->kY A A.length i=dA rs ((i:Int)+1)/\fY A A.length i=false
def zcJ (A:List fH)(x:fH):(A++[x]).length=A.length+1:=aO
variable {rs:List bR}{i:Nat}
theorem WP.who (h:WP N A)(ht:Jb N rs A)(hi:i<N):WP N (A++[.ask i 0 0 (dA rs ((i:Int)+1))])/\Jb N rs (A++[.ask i 0 0 (dA rs ((i:Int)+1))]):=by
 obtain⟨t1,t2⟩:=ht i hi;refine⟨h.snoc (λj kd cl ans e=>?_) (λj e=>by cases e),λj hj=>?_⟩
 .cases e
  exact⟨hi,t2,by rw[Vw,if_pos rfl,if_neg aH,t1]⟩
 .obtain⟨s1,s2⟩:=ht j hj
  rw[zcJ,Vw,znB];refine⟨?_,s2⟩;split
  .rw[if_neg aH];exact s1
  .exact s1
variable {Mj:List bR}
theorem WP.tell (h:WP N A)(ht:Jb N rs A)(hi:i<N){c:Int}(h1:dA Mj ((i:Int)+1)=c)(h2:∀j:Nat,j<N->j≠i->dA Mj ((j:Int)+1)=dA rs ((j:Int)+1)):WP N (A++[.ask i 1 c c])/\Jb N Mj (A++[.ask i 1 c c]):=by
 obtain⟨t1,t2⟩:=ht i hi;refine⟨h.snoc (λj kd cl ans e=>?_) (λj e=>by cases e),λj hj=>?_⟩
 .cases e
  exact⟨hi,t2,by rw[Vw,if_pos rfl,if_pos rfl]⟩
 .obtain⟨s1,s2⟩:=ht j hj
  rw[zcJ,Vw,znB];refine⟨?_,s2⟩;split
  .rename_i e;subst e;rw[if_pos rfl,h1]
  .rename_i e;rw[h2 j hj e];exact s1
def Jb.same (ht:Jb N rs A)(h:∀j:Nat,j<N->dA Mj ((j:Int)+1)=dA rs ((j:Int)+1)):Jb N Mj A:=λi hi=>⟨(ht i hi).1.trans (h i hi).symm,(ht i hi).2⟩
variable {op:Int}
theorem zqk {r:bR}(h:r.o≠op):dA (rs++[r]) op=dA rs op:=by
 unfold dA;have hn:[r].find? (wG op)=none:=by
  rw[zdw];intro x hx;obtain rfl:=sZ.1 hx;unfold wG;simp[h]
 rw[List.find?_append,hn];cases rs.find? (wG op)<;>rfl
variable {b:bX}
def jF.one (h:jF b)(hop:0<op):∀(i j:Nat) (d e:bR),b.recs[i]? =some d->b.recs[j]? =some e->eK d=true->eK e=true->d.o=op->e.o=op->i=j:=
 λi j d e h1 h2 h3 h4 h5 h6=>h.opn i j d e h1 h2 h3 h4 (.inr (.inr ⟨h5.trans h6.symm,aC⟩))
theorem zwd (hu:∀(i j:Nat) (d e:bR),Mj[i]? =some d->Mj[j]? =some e->eK d=true->eK e=true->d.o=op->e.o=op->i=j)
 (h1:∀(i:Nat) (d:bR),rs[i]? =some d->eK d=true->d.o=op->Mj[i]? =some d) (h2:∀(i:Nat) (d:bR),Mj[i]? =some d->eK d=true->d.o=op->rs[i]? =some d):dA Mj op=dA rs op:=by
 rcases zuQ rs op with⟨i,d,a1,a2,a3,a4⟩|⟨a1,a2⟩
 .rw[a4];exact zhv hu (h1 i d a1 a2 a3) a2 a3
 .rw[a2]
  exact zpt λi d hd ho e=>a1 i d (h2 i d hd ho e) ho e
variable {d:bR}{e:ByteArray}
theorem zm2 (h:jF b)(hd:b.recs[i]? =some d)(he:(e.toList==[111,112,101,110])=false)(hop:0<op)(aT:d.o≠op):dA (Me b i e) op=dA b.recs op:=by
 have old:∀(j:Nat) (z:bR),(Me b i e)[j]? =some z->eK z=true->b.recs[j]? =some z:=λj z hj hz=>by
  obtain⟨d',h1,⟨_,rfl⟩|⟨h2,rfl⟩⟩:=Fl hj
  .have G0:eK {d' with t:=b.clk,e:=e}=false:=he
   rw[G0] at hz;cases hz
  .exact h1
 refine zwd (λp q x y hp hq hx hy h5 h6=>h.one hop p q x y (old p x hp hx) (old q y hq hy) hx hy h5 h6) (λj z hj hz e=>?_) (λj z hj hz _=>old j z hj hz);exact Ov hj λe2=>by subst e2;rw[hd] at hj;injection hj with hj;exact aT (hj▸e)
theorem zI0 (h:jF b)(hd:b.recs[i]? =some d)(ze7:eK d=true)(he:(e.toList==[111,112,101,110])=false)(hop:0<d.o):dA (Me b i e) d.o=0:=by
 refine zpt λj z hj hz e2=>?_;obtain⟨d',h1,⟨_,rfl⟩|⟨h2,rfl⟩⟩:=Fl hj
 .have G0:eK {d' with t:=b.clk,e:=e}=false:=he
  rw[G0] at hz;cases hz
 .exact h2 (h.one hop i j d z hd h1 ze7 hz rfl e2)
theorem zBm (hop:0<op):∀(xs:List bJ) (b:bX) (t:List UInt8),jF b->(xs.map bJ.c).Nodup->(∀x∈xs,x∈b.wait)->dA (xs.foldl l7 (b,t)).1.recs op=dA b.recs op:=by
 intro xs
 induction xs with
 |nil=>intro b t h _ _;rfl
 |cons x xs ih=>
  intro b t h hn hx;rw[Qd];have hS:=h.tire (t:=t) (x:=x);rw[fO,Dq] at hn;have key:dA (l7 (b,t) x).1.recs op=dA b.recs op/\∀y∈xs,y∈(l7 (b,t) x).1.wait:=by
   have Bx:∀y∈xs,y∈b.wait:=λy hy=>hx y (G4 _ hy);obtain⟨i0,d0,w1,w2,w3,w4⟩:=h.wt x (hx x aO);have fB:jL b.recs x.c=some i0:=by rw[<-w3];exact h.at_ w1 w2
   unfold l7;simp only[fB];split
   .refine⟨zm2 h w1 zi4 hop aC,λy hy=>?_⟩
    show y∈dX b.wait (Gz b.recs i0);unfold dX;rw[Jd,Tc w1,w3];refine⟨Bx y hy,?_⟩;have:y.c≠x.c:=λe=>hn.1 (e▸Z5 hy);simpa using this
   .exact⟨rfl,Bx⟩
  obtain⟨k1,k2⟩:=key;generalize l7 (b,t) x=p at hS k1 k2⊢;obtain⟨b',t'⟩:=p;rw[ih b' t' hS hn.2 k2];exact k1
structure Uq (b:bX):Prop where
 op:∀d∈b.recs,0<=d.o/\d.o<=b.o.op
 n1:1<=b.o.op
def zsx (A B:List fH)(x:fH):A++x::B=(A++[x])++B:=aO
theorem zFw {e:dD}(hS:jF b)(hr:RInv b)(hB:Uq b)(hN:b.o.op=(N:Int))(he:sO b.o.op e=true)(hw:WP N A)(ht:Jb N b.recs A):
 WP N (A++pG b e)/\Jb N (eN b e).1.recs (A++pG b e)/\Uq (eN b e).1:=by
 have zi2:∀op:Int,1<=op->op<=b.o.op->y5 op<N/\((y5 op:Nat):Int)+1=op:=λop h1 h2=>by unfold y5;omega
 by_cases h1:e.k.toList=Hz
 .unfold pG eN
  rw[if_pos h1,if_pos h1,N1];refine⟨hw,?_⟩;unfold qB;split
  .exact⟨ht,⟨hB.op,hB.n1⟩⟩
  .split
   .exact⟨ht,⟨hB.op,hB.n1⟩⟩
   .rename_i l ls hf
    refine⟨ht.same λj hj=>zqk (by show(0:Int)≠_;omega),⟨λd hd=>?_,hB.n1⟩⟩;rcases Ee.1 hd with hd|hd
    .exact hB.op d hd
    .obtain rfl:=sZ.1 hd
     exact⟨Int.le_refl _,by have:=hB.n1;show(0:Int)<=b.o.op;omega⟩
 by_cases h2:e.k.toList=Ii
 .obtain⟨o1,o2⟩:=zfp he (.inl h2)
  obtain⟨i1,i2⟩:=zi2 e.a o1 o2;have zR:=h1;unfold pG eN;rw[if_neg h1,if_neg h1,if_pos h2,if_pos h2];unfold Hb nO;obtain⟨k1,k2⟩:=hw.who ht i1;rw[i2] at k1 k2;by_cases hp:0<dA b.recs e.a
  .rw[if_pos hp,if_pos hp]
   exact⟨k1,k2,hB⟩
  .rw[if_neg hp,if_neg hp]
   cases cD:b.wait with
   |nil=>exact⟨k1,k2,hB⟩
   |cons c cs=>
    obtain⟨i0,d0,w1,w2,w3,w4⟩:=hS.wt c Xc;have fB:jL b.recs c.c=some i0:=by rw[<-w3];exact hS.at_ w1 w2
    simp only[fB];rw[zsx];have hn:=zga (λd hd=>(hr.recB d hd).1) hp;have Qp:=hS.heard (hh:=b.clk) w1 w2 hn (wait:=[]) (λx hx=>by cases hx);have r1:dA (b.recs.modify i0 λd=>{d with o:=e.a,h:=b.clk}) (((y5 e.a:Nat):Int)+1)=c.c:=by
     rw[i2];have:=zhv (rs:=b.recs.modify i0 λd=>{d with o:=e.a,h:=b.clk}) (op:=e.a) (λp q x y=>Qp.one aC p q x y) (zbV w1) w2 rfl;rw[this];exact w3
    have r2:∀j:Nat,j<N->j≠y5 e.a->dA (b.recs.modify i0 λd=>{d with o:=e.a,h:=b.clk}) ((j:Int)+1)=dA b.recs ((j:Int)+1):=λj hj aT=>by
     have Vl:(j:Int)+1≠e.a:=λh=>aT zmu;refine zwd (λp q x y=>Qp.one aC p q x y) (λp z hz zb3 zhD=>?_) (λp z hz zb3 zhD=>?_)
     .exact Ov hz λe2=>by subst e2;rw[w1] at hz;injection hz with hz;rw[<-hz] at zhD;omega
     .obtain⟨d',g1,⟨_,rfl⟩|⟨_,rfl⟩⟩:=Fl hz
      .exact absurd zhD.symm Vl
      .exact g1
    obtain⟨m1,m2⟩:=k1.tell k2 i1 r1 r2;refine⟨m1,m2,⟨λd hd=>?_,hB.n1⟩⟩;obtain⟨d',Be,rfl|rfl⟩:=Uo hd
    .exact hB.op _ Be
    .exact⟨by show 0<=e.a;omega,o2⟩
 by_cases h3:e.k.toList=Hw
 .obtain⟨o1,o2⟩:=zfp he (.inr h3)
  obtain⟨i1,i2⟩:=zi2 e.a o1 o2;unfold pG eN;rw[if_neg h1,if_neg h1,if_neg h2,if_neg h2,if_pos h3,if_pos h3];unfold C0 l6;obtain⟨k1,k2⟩:=hw.who ht i1;rw[i2] at k1 k2;by_cases hp:0<dA b.recs e.a
  .rw[if_pos hp,if_pos hp]
   exact⟨k1,k2,hB⟩
  .rw[if_neg hp,if_neg hp]
   cases wX:b.back with
   |nil=>exact⟨k1,k2,hB⟩
   |cons c cs=>
    cases hf:oJ b.o b.recs with
    |nil=>exact⟨k1,k2,hB⟩
    |cons l ls=>
     simp only;rw[zsx];have hn:=zga (λd hd=>(hr.recB d hd).1) hp;have Qp:=hS.more (c:=c.c) (l:=l) (o:=e.a) (hh:=b.clk) (tt:=-1) (clk:=b.clk) (hS.bo c zba) (znI Vp) (.inr hn) (wait:=[]) (back:=[]) (λx hx=>by cases hx) Qu (λx hx=>by cases hx);have r1:dA (b.recs++[⟨c.c,l,e.a,b.clk,b.clk,-1,eU⟩]) (((y5 e.a:Nat):Int)+1)=c.c:=by
      rw[i2];exact zhv (rs:=b.recs++[⟨c.c,l,e.a,b.clk,b.clk,-1,eU⟩]) (op:=e.a) (λp q x y=>Qp.one aC p q x y) (i:=b.recs.length) (d:=⟨c.c,l,e.a,b.clk,b.clk,-1,eU⟩) (by rw[At (aX _),Og];rfl) (by unfold eK;rw[zfd];rfl) rfl
     have r2:∀j:Nat,j<N->j≠y5 e.a->dA (b.recs++[⟨c.c,l,e.a,b.clk,b.clk,-1,eU⟩]) ((j:Int)+1)=dA b.recs ((j:Int)+1):=λj hj aT=>
      zqk (by show e.a≠_;intro h;exact aT zmu)
     obtain⟨m1,m2⟩:=k1.tell k2 i1 r1 r2;refine⟨m1,m2,⟨λd hd=>?_,hB.n1⟩⟩;rcases Ee.1 hd with hd|hd
     .exact hB.op d hd
     .obtain rfl:=sZ.1 hd
      exact⟨by show 0<=e.a;omega,o2⟩
 by_cases h4:e.k.toList=Kf
 .unfold pG eN
  rw[if_neg h1,if_neg h1,if_neg h2,if_neg h2,if_neg h3,if_neg h3,if_pos h4,if_pos h4];unfold Dv mB
  cases fB:jL b.recs e.a with
  |none=>
   simp only;rw[N1];split
   .exact⟨hw,ht,⟨hB.op,hB.n1⟩⟩
   .exact⟨hw,ht,⟨hB.op,hB.n1⟩⟩
  |some i=>
   obtain⟨d,g1,g2,g3⟩:=B4 fB;have ho:opAt b.recs i=d.o:=by unfold opAt;rw[g1]
   have zx0:∀(x:ByteArray),∀z∈Me b i x,0<=z.o/\z.o<=b.o.op:=λx z hz=>by
    obtain⟨d',Be,rfl|rfl⟩:=Uo hz
    .exact hB.op _ Be
    .exact hB.op d' Be
   simp only[ho];by_cases hp:0<d.o
   .rw[if_pos hp,if_pos hp]
    obtain⟨i1,i2⟩:=zi2 d.o aC (hB.op d (dZ g1)).2;have r1:dA (Me b i Gj) (((y5 d.o:Nat):Int)+1)=0:=by rw[i2];exact zI0 hS g1 g3 zg3 hp
    have r2:∀j:Nat,j<N->j≠y5 d.o->dA (Me b i Gj) ((j:Int)+1)=dA b.recs ((j:Int)+1):=λj hj aT=>zm2 hS g1 zg3 aC (λh=>aT zmu);obtain⟨m1,m2⟩:=hw.tell ht i1 r1 r2;exact⟨m1,m2,⟨zx0 _,hB.n1⟩⟩
   .rw[if_neg hp,if_neg hp,N1]
    exact⟨hw,ht.same λj hj=>zm2 hS g1 zkz aC (by have:=(hB.op d (dZ g1)).1;omega),⟨zx0 _,hB.n1⟩⟩
 .unfold pG eN
  rw[if_neg h1,if_neg h1,if_neg h2,if_neg h2,if_neg h3,if_neg h3,if_neg h4,if_neg h4,N1];unfold uR;have Qp:jF {b with clk:=b.clk+e.a}:=⟨hS.opn,hS.last,hS.wt,hS.bk,hS.bo⟩;refine⟨hw,ht.same λj hj=>zBm aC b.wait {b with clk:=b.clk+e.a} _ Qp hr.nodup (λx hx=>hx),?_⟩;have key:∀(xs:List bJ) (b':bX) (t:List UInt8),Uq b'->Uq (xs.foldl l7 (b',t)).1:=by
   intro xs
   induction xs with
   |nil=>intro b' t h;exact h
   |cons x xs ih=>
    intro b' t h;rw[Qd];have h9:Uq (l7 (b',t) x).1:=by
     unfold l7;split
     .exact h
     .split
      .refine⟨λz hz=>?_,h.n1⟩
       obtain⟨d',Be,rfl|rfl⟩:=Uo hz
       .exact h.op _ Be
       .exact h.op d' Be
      .exact h
    generalize l7 (b',t) x=p at h9⊢;obtain⟨zFP,zHh⟩:=p;exact ih zFP zHh h9
  exact key _ _ _ ⟨hB.op,hB.n1⟩
variable {o:jG}{es:List dD}
theorem zxy (h:jP o es=true)(hN:o.op=(N:Int)):∀k,k<=es.length->WP N (rZ o es k)/\Jb N (mH o es k).recs (rZ o es k)/\Uq (mH o es k):=by
 intro k;have bU:=h;unfold jP at bU;simp only[fU,tY] at bU
 induction k with
 |zero=>
  intro _;refine⟨⟨λk i kd cl ans h=>by simp[rZ] at h,λk i h=>by simp[rZ] at h⟩,λi hi=>⟨rfl,rfl⟩,⟨λd hd=>by simp[mH,mP] at hd,?_⟩⟩;have:=bU.1.1;unfold qJ at this;simp at this;show 1<=o.op;omega
 |succ k ih=>
  intro hk;have aN:k<es.length:=aC;have he:=lX aN;obtain⟨a1,a2,a3⟩:=ih aC;obtain⟨b1,_,b3⟩:=P7 h k aC;have:=zFw (zuf h k aC) b1 a3 (by rw[b3];exact hN) (by rw[b3];exact bU.2 es[k] (List.getElem_mem aN)) a1 a2;rw[Wj he];unfold rZ;rw[he];exact⟨this.1,this.2.1,⟨this.2.2.op,this.2.2.n1⟩⟩
theorem endA_ok (hw:WP N A)(ht:Jb N b.recs A):∀n,n<=N->WP N (A++yN b n)/\(∀i,i<N->kY (A++yN b n) (A++yN b n).length i=dA b.recs ((i:Int)+1))/\(∀i,fY (A++yN b n) (A++yN b n).length i=if i<n then true else fY A A.length i):=by
 intro n
 induction n with
 |zero=>intro _;simp only[yN,N1];exact⟨hw,λi hi=>(ht i hi).1,λi=>by simp⟩
 |succ n ih=>
  intro hn;obtain⟨k1,k2,k3⟩:=ih aC;have e:A++yN b (n+1)=(A++yN b n++[fH.ask n 0 0 (dA b.recs ((n:Int)+1))])++[.shut n]:=by simp[yN]
  rw[e];generalize A++yN b n=B at*;have hx:fY B B.length n=false:=by rw[k3 n,if_neg (Cr _)];exact(ht n aC).2
  have w1:WP N (B++[fH.ask n 0 0 (dA b.recs ((n:Int)+1))]):=k1.snoc (λj kd cl ans e=>by cases e;exact⟨aC,hx,by rw[Vw,if_pos rfl,if_neg aH,k2 n aC]⟩) (λj e=>by cases e);have l1:=zcJ B (fH.ask n 0 0 (dA b.recs ((n:Int)+1)));have x1:∀i,fY (B++[fH.ask n 0 0 (dA b.recs ((n:Int)+1))]) (B++[fH.ask n 0 0 (dA b.recs ((n:Int)+1))]).length i=fY B B.length i:=λi=>by rw[l1,znB]
  have c1:∀i,kY (B++[fH.ask n 0 0 (dA b.recs ((n:Int)+1))]) (B++[fH.ask n 0 0 (dA b.recs ((n:Int)+1))]).length i=kY B B.length i:=λi=>by
   rw[l1,Vw];split
   .rw[if_neg aH]
   .rfl
  generalize B++[fH.ask n 0 0 (dA b.recs ((n:Int)+1))]=B2 at*;refine⟨w1.snoc (λj kd cl ans e=>by cases e) (λj e=>by cases e;exact⟨aC,by rw[x1];exact hx⟩),λi hi=>?_,λi=>?_⟩
  .rw[zcJ,zFf,c1];exact k2 i hi
  .rw[zcJ,zDH,x1,k3 i]
   by_cases h:i=n
   .subst h;rw[if_pos rfl,if_pos (xH _)]
   .rw[if_neg h]
    by_cases h2:i<n
    .rw[if_pos h2,if_pos aC]
    .rw[if_neg h2,if_neg aC]
theorem zEs (h:jP o es=true):WOk o.op.toNat (Bo o es):=by
 have h1:o.op=(o.op.toNat:Int):=by
  have bU:=h;unfold jP qJ at bU;simp at bU;omega
 obtain⟨a1,a2,a3⟩:=zxy h h1 es.length (aX _);rw[zg1] at a2;obtain⟨k1,k2,k3⟩:=endA_ok a1 a2 o.op.toNat (aX _);exact⟨k1.ask,k1.shut,λi hi=>by unfold Bo;rw[k3 i,if_pos hi]⟩
end Go.Proofs.YtfcjiloojkjaeaaGreatDoor
namespace Go.Proofs.YtfcjiloojkjaeaaGreatDoor
open Go.RowKit
section
variable {P:bS}{k:aM}
theorem zkZ {d:Nu}{e:aM}(hk:P.underlying k=some (.chan d e))(a b:Option Nat)(w:aE):(Op.equal k (.chan a) (.chan b)).run P w=.ok (a==b) w:=by
 unfold Op.equal;rw[show Tl=(Tl-1)+1 by decide];simp[Op.equalIn,wU hk]
end
def yL (es:List oP)(ps:List (Nat×aF)):Prop:=es.map (λe=>(e.key,e.val))=ps.map (λp=>(aF.chan (some p.1),p.2))
def Ch (w:aE)(b:Nat)(ps:List (Nat×aF)):Prop:=∃es clock,w.heap[b]? =some (.map es clock)/\yL es.toList ps
def pI (c:Nat):List (Nat×aF)->Option aF
 |[]=>none
 |p::ps=>if c=p.1 then some p.2 else pI c ps
def uM (c:Nat)(v:aF):List (Nat×aF)->List (Nat×aF)
 |[]=>[(c,v)]
 |p::ps=>if c=p.1 then(p.1,v)::ps else p::uM c v ps
def Bc (c:Nat):List (Nat×aF)->Nat->Option (Nat×aF)
 |[],_=>none
 |p::ps,i=>if c=p.1 then some (i,p.2) else Bc c ps (i+1)
variable {e:oP}{es:List oP}{ps:List (Nat×aF)}
theorem yL.cons_inv (h:yL (e::es) ps):∃p qs,ps=p::qs/\e.key=.chan (some p.1)/\e.val=p.2/\yL es qs:=by
 unfold yL at h
 cases ps with
 |nil=>cases h
 |cons p qs=>
  rw[fO,fO] at h;injection h with h1 h2;injection h1 with h3 h4;exact⟨p,qs,rfl,h3,h4,h2⟩
theorem yL.nil_inv (h:yL [] ps):ps=[]:=by
 unfold yL at h;cases ps with
 |nil=>rfl
 |cons p qs=>cases h
section
variable {P:bS}{k:aM}{d:Nu}{e0:aM}
theorem zvD (hk:P.underlying k=some (.chan d e0))(c:Nat)(w:aE):∀(es:List oP) (ps:List (Nat×aF)) (i:Nat),yL es ps->(Ku k (.chan (some c)) es i).run P w=.ok (Bc c ps i) w
 |[],ps,i,h=>by rw[h.nil_inv];rfl
 |e::es,ps,i,h=>by
  obtain⟨p,qs,rfl,h1,h2,h3⟩:=h.cons_inv;have ih:=zvD hk c w es qs (i+1) h3;unfold Ku;simp only[Eg,h1,zkZ hk,Fq];by_cases hc:c=p.1
  .subst hc;simp[Bc,h2]
  .have:(some c==some p.1)=false:=by rw[beq_eq_false_iff_ne];intro h;injection h with h;exact hc h
   rw[this];simp only[Bool.false_eq_true,if_false,Bc,if_neg hc];exact ih
theorem zfy (hk:P.underlying k=some (.chan d e0))(c:Nat)(w:aE)(es:List oP)(ps:List (Nat×aF))(h:yL es ps):(Kd k (.chan (some c)) es).run P w=.ok (Bc c ps 0) w:=by
 unfold Kd;simp only[Eg,wU hk,Fq]
 cases es with
 |nil=>rw[h.nil_inv];rfl
 |cons e es=>
  have:G2 (.chan d e0) (.chan (some c)) (e::es) 0=none:=by
   simp[G2,vT]
  rw[this];exact zvD hk c w _ _ 0 h
theorem zjx (c:Nat):∀(ps:List (Nat×aF)) (i:Nat),(Bc c ps i).map zvA=pI c ps
 |[],_=>rfl
 |p::ps,i=>by
  unfold Bc pI;by_cases h:c=p.1
  .rw[if_pos h,if_pos h];rfl
  .rw[if_neg h,if_neg h];exact zjx c ps (i+1)
theorem zgE (hk:P.underlying k=some (.chan d e0))(b:Bool)(c:Nat)(w:aE):(Gs b 10000 k (.chan (some c))).run P w=.ok () w:=by
 rw[show(10000:Nat)=9999+1 by decide];unfold Gs;simp[wU hk]
variable {ps:List (Nat×aF)}
theorem zGI {t e:aM}(ht:P.underlying t=some (.map k e))(hk:P.underlying k=some (.chan d e0)){z:aF}{w:aE}(hz:(zeroValue e).run P w=.ok z w){b c:Nat}(h:Ch w b ps)(ok:Bool):
 (zK t (.map (some b)) (.chan (some c)) ok).run P w=.ok (if ok then .tuple #[(pI c ps).getD z,.bool (pI c ps).isSome] else(pI c ps).getD z) w:=by
 obtain⟨es,clock,hb,he⟩:=h;unfold zK;have hf:=zjx c ps 0;have hg:(getObj b).run P w=.ok (.map es clock) w:=by first|exact run_getObj hb|(show bD P (zwu b Sem.pure) w=_;unfold bD;rw[hb];rfl)|(simp[getObj,bD,hb])
 simp only[Eg,wU ht,Fq,hg,Iu,zgE hk,zfy hk c w _ _ he]
 cases hq:Bc c ps 0 with
 |none=>
  rw[hq] at hf;have Az:pI c ps=none:=by simpa using hf.symm
  simp[hz,Az]
 |some q=>
  rw[hq] at hf;have Az:pI c ps=some q.2:=by simpa using hf.symm
  simp[Az]
end
variable {c:Nat}{v:aF}
theorem zrU :∀{ps:List (Nat×aF)} {i:Nat},Bc c ps i=none->uM c v ps=ps++[(c,v)]
 |[],_,_=>rfl
 |p::ps,i,h=>by
  unfold Bc at h;by_cases hc:c=p.1
  .rw[if_pos hc] at h;cases h
  .rw[if_neg hc] at h
   unfold uM;rw[if_neg hc,zrU h];rfl
theorem zvZ :∀{es:List oP} {ps:List (Nat×aF)} {i:Nat} {q:Nat×aF},yL es ps->Bc c ps i=some q->
 ∃j e0,q.1=i+j/\es[j]? =some e0/\e0.key=.chan (some c)/\yL (es.set j {e0 with key:=.chan (some c),val:=v}) (uM c v ps)
 |[],ps,i,q,h,hq=>by rw[h.nil_inv] at hq;cases hq
 |e::es,ps,i,q,h,hq=>by
  obtain⟨p,qs,rfl,h1,h2,h3⟩:=h.cons_inv;unfold Bc at hq;by_cases hc:c=p.1
  .rw[if_pos hc] at hq
   injection hq with hq;refine⟨0,e,by rw[<-hq];rfl,rfl,by rw[h1,hc],?_⟩;unfold uM;rw[if_pos hc];unfold yL at h3⊢;rw[dU,fO,fO,h3,hc]
  .rw[if_neg hc] at hq
   obtain⟨j,e0,e1,e2,e3,e4⟩:=zvZ h3 hq;refine⟨j+1,e0,by rw[e1];omega,e2,e3,?_⟩;unfold uM;rw[if_neg hc];unfold yL at e4⊢;rw[dV,fO,fO,e4,h1,h2]
variable {P:bS}
theorem zDO (c:Nat)(w:aE):(Oy (.chan (some c)) (.chan (some c))).run P w=.ok (.chan (some c)) w:=by
 unfold Oy;rw[if_pos (by simp[zai])];rfl
section
variable {P:bS}{k:aM}{d:Nu}{e0:aM}
variable {ps:List (Nat×aF)}
open Go.ChangeMaps in
theorem zGd {t e:aM}(ht:P.underlying t=some (.map k e))(hk:P.underlying k=some (.chan d e0)){w:aE}{b c:Nat}(h:Ch w b ps)(v:aF):
 ∃fE zcb,(Gi t (.map (some b)) (.chan (some c)) v).run P w=.ok () {w with heap:=w.heap.setIfInBounds b (.map fE zcb)}/\Ch {w with heap:=w.heap.setIfInBounds b (.map fE zcb)} b (uM c v ps):=by
 obtain⟨es,clock,hb,he⟩:=h;have hz:=(dP.1 hb).1
 cases hq:Bc c ps 0 with
 |none=>
  refine⟨es.push ⟨.chan (some c),v,clock⟩,clock+1,?_,es.push ⟨.chan (some c),v,clock⟩,clock+1,by simp[hz],?_⟩
  .simp[Gi,wU ht,Yi hb,zgE hk,zfy hk c w _ _ he,hq,Xb _ hb,uV]
  .rw[zrU hq]
   unfold yL at he⊢;rw[zsK,Jl,Jl,he];rfl
 |some q=>
  obtain⟨j,x,e1,e2,e3,e4⟩:=zvZ (v:=v) he hq;have Ez:q.1=j:=aC;have hj:es[j]? =some x:=by simpa using e2
  refine⟨es.modify j (λe'=>{e' with key:=.chan (some c),val:=v}),clock,?_,es.modify j (λe'=>{e' with key:=.chan (some c),val:=v}),clock,by simp[hz],?_⟩
  .simp[Gi,wU ht,Yi hb,zgE hk,zfy hk c w _ _ he,hq,Ez,hj,e3,zDO,Xb _ hb,uV]
  .have:(es.modify j (λe'=>{e' with key:=.chan (some c),val:=v})).toList=es.toList.set j {x with key:=.chan (some c),val:=v}:=by
    rw[zsz,Go.ChangeMaps.modify_eq_set _ _ _ _ e2]
   rw[this];exact e4
variable {ops:Array aZ}{rest:List aZ}{o:aZ}{a:Act}{Q:n5->Act->aE->Prop}
theorem zum (w:aE)(hg:o.guard=none)(m x:cM)(t:aM)(ok:Bool)(hop:o.op=Op.lookup t m x ok)(e:aM)
 (ht:P.underlying t=some (.map k e)) (hk:P.underlying k=some (.chan d e0)) (z:aF) (hz:(zeroValue e).run P w=.ok z w) (b c:Nat) (ps:List (Nat×aF)) (hm:a.eval m=.map (some b)) (hx:a.eval x=.chan (some c)) (h:Ch w b ps)
 (hK:wpList P ops Q rest (a.put o.dst (if ok then .tuple #[(pI c ps).getD z,.bool (pI c ps).isSome] else(pI c ps).getD z)) w):wpList P ops Q (o::rest) a w:=by
 refine Q0 hg λK' rV=>?_;have cH:=zGI ht hk hz h (c:=c) ok;unfold Bm;simp[aS,hop,hm,hx,cH,uV];cases ok<;>exact rV _ _ hK
theorem zBG (w:aE)(hg:o.guard=none)(m x y:cM)(t:aM)(hop:o.op=zoR t m x y)(e:aM)
 (ht:P.underlying t=some (.map k e)) (hk:P.underlying k=some (.chan d e0)) (b c:Nat) (v:aF) (ps:List (Nat×aF)) (hm:a.eval m=.map (some b)) (hx:a.eval x=.chan (some c)) (hy:a.eval y=v) (h:Ch w b ps)
 (hK:∀w' o',w'={w with heap:=w.heap.setIfInBounds b o'}->Ch w' b (uM c v ps)->wpList P ops Q rest (a.put o.dst aA) w'):wpList P ops Q (o::rest) a w:=by
 refine Q0 hg λK' rV=>?_;obtain⟨es,cl,cH,r9⟩:=zGd ht hk h (c:=c) v;unfold Bm;simp[aS,hop,hm,hx,hy,cH,uV];exact rV _ _ (hK _ _ rfl r9)
open Go.ChangeMaps in
end
def yT (es:List oP)(ps:List (Int×aF)):Prop:=es.map (λe=>(e.key,e.val))=ps.map (λp=>(aF.int .i64 p.1,p.2))
def xS (w:aE)(b:Nat)(ps:List (Int×aF)):Prop:=∃es clock,w.heap[b]? =some (.map es clock)/\yT es.toList ps
def lA (c:Int):List (Int×aF)->Option aF
 |[]=>none
 |p::ps=>if c=p.1 then some p.2 else lA c ps
def qG (c:Int)(v:aF):List (Int×aF)->List (Int×aF)
 |[]=>[(c,v)]
 |p::ps=>if c=p.1 then(p.1,v)::ps else p::qG c v ps
def Av (c:Int):List (Int×aF)->Nat->Option (Nat×aF)
 |[],_=>none
 |p::ps,i=>if c=p.1 then some (i,p.2) else Av c ps (i+1)
variable {ps:List (Int×aF)}
theorem yT.cons_inv (h:yT (e::es) ps):∃p qs,ps=p::qs/\e.key=.int .i64 p.1/\e.val=p.2/\yT es qs:=by
 unfold yT at h
 cases ps with
 |nil=>cases h
 |cons p qs=>
  rw[fO,fO] at h;injection h with h1 h2;injection h1 with h3 h4;exact⟨p,qs,rfl,h3,h4,h2⟩
theorem yT.nil_inv (h:yT [] ps):ps=[]:=by
 unfold yT at h;cases ps with
 |nil=>rfl
 |cons p qs=>cases h
section
variable {P:bS}{k:aM}
theorem zu1 (c:Int):∀(es:List oP) (ps:List (Int×aF)) (i:Nat),yT es ps->G2 (.int .i64) (.int .i64 c) es i=some (Av c ps i)
 |[],ps,i,h=>by rw[h.nil_inv];rfl
 |e::es,ps,i,h=>by
  obtain⟨p,qs,rfl,h1,h2,h3⟩:=h.cons_inv;have ih:=zu1 c es qs (i+1) h3;unfold G2;simp only[h1,vT,if_true];by_cases hc:c=p.1
  .subst hc;simp[Av,h2]
  .have:(c==p.1)=false:=by rw[beq_eq_false_iff_ne];exact hc
   rw[this];simp only[Av,if_neg hc];exact ih
theorem zfA (hk:P.underlying k=some (.int .i64))(c:Int)(w:aE)(es:List oP)(ps:List (Int×aF))(h:yT es ps):(Kd k (.int .i64 c) es).run P w=.ok (Av c ps 0) w:=by
 unfold Kd;simp only[Eg,wU hk,Fq,zu1 c es ps 0 h,Iu]
theorem zie (c:Int):∀(ps:List (Int×aF)) (i:Nat),(Av c ps i).map zvA=lA c ps
 |[],_=>rfl
 |p::ps,i=>by
  unfold Av lA;by_cases h:c=p.1
  .rw[if_pos h,if_pos h];rfl
  .rw[if_neg h,if_neg h];exact zie c ps (i+1)
theorem zdR (hk:P.underlying k=some (.int .i64))(b:Bool)(c:Int)(w:aE):(Gs b 10000 k (.int .i64 c)).run P w=.ok () w:=by
 rw[show(10000:Nat)=9999+1 by decide];unfold Gs;simp[wU hk]
variable {ps:List (Int×aF)}
theorem zcO {t e:aM}(ht:P.underlying t=some (.map k e))(hk:P.underlying k=some (.int .i64)){z:aF}{w:aE}(hz:(zeroValue e).run P w=.ok z w){b:Nat}{c:Int}(h:xS w b ps)(ok:Bool):
 (zK t (.map (some b)) (.int .i64 c) ok).run P w=.ok (if ok then .tuple #[(lA c ps).getD z,.bool (lA c ps).isSome] else(lA c ps).getD z) w:=by
 obtain⟨es,clock,hb,he⟩:=h;unfold zK;have hf:=zie c ps 0;have hg:(getObj b).run P w=.ok (.map es clock) w:=by first|exact run_getObj hb|(show bD P (zwu b Sem.pure) w=_;unfold bD;rw[hb];rfl)|(simp[getObj,bD,hb])
 simp only[Eg,wU ht,Fq,hg,Iu,zdR hk,zfA hk c w _ _ he]
 cases hq:Av c ps 0 with
 |none=>
  rw[hq] at hf;have Az:lA c ps=none:=by simpa using hf.symm
  simp[hz,Az]
 |some q=>
  rw[hq] at hf;have Az:lA c ps=some q.2:=by simpa using hf.symm
  simp[Az]
end
theorem zvp {c:Int}:∀{ps:List (Int×aF)} {i:Nat},Av c ps i=none->qG c v ps=ps++[(c,v)]
 |[],_,_=>rfl
 |p::ps,i,h=>by
  unfold Av at h;by_cases hc:c=p.1
  .rw[if_pos hc] at h;cases h
  .rw[if_neg hc] at h
   unfold qG;rw[if_neg hc,zvp h];rfl
theorem zpP {c:Int}:∀{es:List oP} {ps:List (Int×aF)} {i:Nat} {q:Nat×aF},yT es ps->Av c ps i=some q->
 ∃j e0,q.1=i+j/\es[j]? =some e0/\e0.key=.int .i64 c/\yT (es.set j {e0 with key:=.int .i64 c,val:=v}) (qG c v ps)
 |[],ps,i,q,h,hq=>by rw[h.nil_inv] at hq;cases hq
 |e::es,ps,i,q,h,hq=>by
  obtain⟨p,qs,rfl,h1,h2,h3⟩:=h.cons_inv;unfold Av at hq;by_cases hc:c=p.1
  .rw[if_pos hc] at hq
   injection hq with hq;refine⟨0,e,by rw[<-hq];rfl,rfl,by rw[h1,hc],?_⟩;unfold qG;rw[if_pos hc];unfold yT at h3⊢;rw[dU,fO,fO,h3,hc]
  .rw[if_neg hc] at hq
   obtain⟨j,e0,e1,e2,e3,e4⟩:=zpP h3 hq;refine⟨j+1,e0,by rw[e1];omega,e2,e3,?_⟩;unfold qG;rw[if_neg hc];unfold yT at e4⊢;rw[dV,fO,fO,e4,h1,h2]
theorem zEU (c:Int)(w:aE):(Oy (.int .i64 c) (.int .i64 c)).run P w=.ok (.int .i64 c) w:=by
 unfold Oy;rw[if_pos (by simp[zai])];rfl
section
variable {P:bS}{k:aM}
variable {ps:List (Int×aF)}
open Go.ChangeMaps in
theorem zrS {t e:aM}(ht:P.underlying t=some (.map k e))(hk:P.underlying k=some (.int .i64)){w:aE}{b:Nat}{c:Int}(h:xS w b ps)(v:aF):
 ∃fE zcb,(Gi t (.map (some b)) (.int .i64 c) v).run P w=.ok () {w with heap:=w.heap.setIfInBounds b (.map fE zcb)}/\xS {w with heap:=w.heap.setIfInBounds b (.map fE zcb)} b (qG c v ps):=by
 obtain⟨es,clock,hb,he⟩:=h;have hz:=(dP.1 hb).1
 cases hq:Av c ps 0 with
 |none=>
  refine⟨es.push ⟨.int .i64 c,v,clock⟩,clock+1,?_,es.push ⟨.int .i64 c,v,clock⟩,clock+1,by simp[hz],?_⟩
  .simp[Gi,wU ht,Yi hb,zdR hk,zfA hk c w _ _ he,hq,Xb _ hb,uV]
  .rw[zvp hq]
   unfold yT at he⊢;rw[zsK,Jl,Jl,he];rfl
 |some q=>
  obtain⟨j,x,e1,e2,e3,e4⟩:=zpP (v:=v) he hq;have Ez:q.1=j:=aC;have hj:es[j]? =some x:=by simpa using e2
  refine⟨es.modify j (λe'=>{e' with key:=.int .i64 c,val:=v}),clock,?_,es.modify j (λe'=>{e' with key:=.int .i64 c,val:=v}),clock,by simp[hz],?_⟩
  .simp[Gi,wU ht,Yi hb,zdR hk,zfA hk c w _ _ he,hq,Ez,hj,e3,zEU,Xb _ hb,uV]
  .have:(es.modify j (λe'=>{e' with key:=.int .i64 c,val:=v})).toList=es.toList.set j {x with key:=.int .i64 c,val:=v}:=by
    rw[zsz,Go.ChangeMaps.modify_eq_set _ _ _ _ e2]
   rw[this];exact e4
variable {ops:Array aZ}{rest:List aZ}{o:aZ}{a:Act}{Q:n5->Act->aE->Prop}
theorem zvu (w:aE)(hg:o.guard=none)(m x:cM)(t:aM)(ok:Bool)(hop:o.op=Op.lookup t m x ok)(e:aM)
 (ht:P.underlying t=some (.map k e)) (hk:P.underlying k=some (.int .i64)) (z:aF) (hz:(zeroValue e).run P w=.ok z w) (b:Nat) (c:Int) (ps:List (Int×aF)) (hm:a.eval m=.map (some b)) (hx:a.eval x=.int .i64 c) (h:xS w b ps)
 (hK:wpList P ops Q rest (a.put o.dst (if ok then .tuple #[(lA c ps).getD z,.bool (lA c ps).isSome] else(lA c ps).getD z)) w):wpList P ops Q (o::rest) a w:=by
 refine Q0 hg λK' rV=>?_;have cH:=zcO ht hk hz h (c:=c) ok;unfold Bm;simp[aS,hop,hm,hx,cH,uV];cases ok<;>exact rV _ _ hK
theorem zIU (w:aE)(hg:o.guard=none)(m x y:cM)(t:aM)(hop:o.op=zoR t m x y)(e:aM)
 (ht:P.underlying t=some (.map k e)) (hk:P.underlying k=some (.int .i64)) (b:Nat) (c:Int) (v:aF) (ps:List (Int×aF)) (hm:a.eval m=.map (some b)) (hx:a.eval x=.int .i64 c) (hy:a.eval y=v) (h:xS w b ps)
 (hK:∀w' o',w'={w with heap:=w.heap.setIfInBounds b o'}->xS w' b (qG c v ps)->wpList P ops Q rest (a.put o.dst aA) w'):wpList P ops Q (o::rest) a w:=by
 refine Q0 hg λK' rV=>?_;obtain⟨es,cl,cH,r9⟩:=zrS ht hk h (c:=c) v;unfold Bm;simp[aS,hop,hm,hx,hy,cH,uV];exact rV _ _ (hK _ _ rfl r9)
open Go.ChangeMaps in
end
structure fJ where
 sL:aF
 sQ:aF
 sW:aF
 sB:aF
 sR:aF
 sA:aF
 sT:aF
 mC:Nat
 mO:Nat
 mM:Nat
 pC:List (Nat×aF)
 pO:List (Int×aF)
 pM:List (Int×aF)
structure nM where
 r:bX
 ln:List Nat
 qn:List Nat
 tk:List Int
def I2 (xs:List Nat):List Value:=xs.map λc=>.chan (some c)
abbrev hallA (v:fJ)(d:nM):Array Value:=#[.int .i64 d.r.o.ln,.int .i64 d.r.o.op,.int .i64 d.r.o.pt,v.sL,.map (some v.mC),.map (some v.mO),v.sQ,v.sW,v.sB,v.sR,.map (some v.mM),.int .i64 d.r.clk,v.sA,v.sT]
abbrev Qc (v:fJ)(d:nM):Obj:=.cells (hallA v d) 72
def parts (v:fJ)(hb:Nat):List (Option Nat):=[some hb,v.sL.ownBlock,some v.mC,some v.mO,v.sQ.ownBlock,v.sW.ownBlock,v.sB.ownBlock,v.sR.ownBlock,some v.mM,v.sA.ownBlock,v.sT.ownBlock]
def zcx (l:List (Option Nat)):Prop:=∀(i j b:Nat),l[i]? =some (some b)->l[j]? =some (some b)->i=j
structure bE (w:aE)(lo hb:Nat)(v:fJ)(d:nM):Prop where
 blk:w.heap[hb]? =some (Qc v d)
 lob:lo<=hb/\lo<=v.mC/\lo<=v.mO/\lo<=v.mM
 L:w.ownsRow lo 84 1 v.sL d.ln.length (I2 d.ln)
 Q:w.ownsRow lo 95 1 v.sQ d.qn.length (I2 d.qn)
 W:w.ownsRow lo 149 2 v.sW d.r.wait.length (bF d.r.wait)
 B:w.ownsRow lo 3 1 v.sB d.r.back.length (eJ (d.r.back.map bJ.c))
 R:w.ownsRow lo 50 7 v.sR d.r.recs.length (recs d.r.recs)
 A:w.ownsRow lo 9 1 v.sA d.r.log.length (Fx d.r.log)
 T:w.ownsRow lo 3 1 v.sT d.tk.length (eJ d.tk)
 C:Ch w v.mC v.pC
 O:xS w v.mO v.pO
 M:xS w v.mM v.pM
 ap:zcx (parts v hb)
structure bM (hb:Nat)(v:fJ)(w:aE)(v':fJ)(w':aE):Prop where
 size:w.heap.size<=w'.heap.size
 block:∀b,b<w.heap.size->some b∉parts v hb->w'.heap[b]? =w.heap[b]?
 moved:∀b,some b∈parts v' hb->some b∈parts v hb\/w.heap.size<=b
section
variable {w w1 w' Ff:aE}{lo hb:Nat}{v v' zaG:fJ}{d:nM}
def bM.refl:bM hb v w v w:=⟨aX _,λ_ _ _=>rfl,λ_ h=>.inl h⟩
theorem bM.trans (h:bM hb v w v' w')(k:bM hb v' w' zaG Ff):bM hb v w zaG Ff:=
 ⟨eG h.size k.size,λb b6 hn=>(k.block b (lD b6 h.size) (λx=>(h.moved b x).elim hn λy=>by omega)).trans (h.block b b6 hn),λb x=>(k.moved b x).elim (h.moved b) λy=>.inr (eG h.size y)⟩
def bM.below (h:bV w.heap.size w w'):bM hb v w v w':=⟨h.size,λb hb _=>h.block b hb,λ_ h=>.inl h⟩
theorem bM.same (h:bM hb v w v' w'){x:aE}(e:x.heap=w'.heap):bM hb v w v' x:=⟨by rw[e];exact h.size,λb hb hn=>by rw[e];exact h.block b hb hn,h.moved⟩
variable {x:aF}
theorem cJ {E s n:Nat}{xs:List aF}(h:w.ownsRow lo E s x n xs)(k:∀b,x.ownBlock=some b->w'.heap[b]? =w.heap[b]?):w'.ownsRow lo E s x n xs:=by
 obtain⟨hl,h|⟨g,cap,cur,rfl,h1,hg,h2⟩⟩:=h
 .exact⟨hl,.inl h⟩
 .exact⟨hl,.inr ⟨g,cap,cur,rfl,h1,(k g rfl).trans hg,h2⟩⟩
theorem Ch.keep {b:Nat}{ps:List (Nat×aF)}(h:Ch w b ps)(k:w'.heap[b]? =w.heap[b]?):Ch w' b ps:=by
 obtain⟨es,cl,h1,h2⟩:=h;exact⟨es,cl,k.trans h1,h2⟩
variable {ps:List (Int×aF)}
theorem xS.keep {b:Nat}(h:xS w b ps)(k:w'.heap[b]? =w.heap[b]?):xS w' b ps:=by
 obtain⟨es,cl,h1,h2⟩:=h;exact⟨es,cl,k.trans h1,h2⟩
theorem Ch.lt {b:Nat}{ps:List (Nat×aF)}(h:Ch w b ps):b<w.heap.size:=by
 obtain⟨es,cl,h1,h2⟩:=h;exact(dP.1 h1).1
theorem xS.lt {b:Nat}(h:xS w b ps):b<w.heap.size:=by
 obtain⟨es,cl,h1,h2⟩:=h;exact(dP.1 h1).1
theorem bE.lt (h:bE w lo hb v d):∀b,some b∈parts v hb->lo<=b/\b<w.heap.size:=by
 intro b b6;unfold parts at b6;simp only[jJ,List.not_mem_nil,or_false] at b6;obtain⟨l0,l1,l2,l3⟩:=h.lob;have znl:=(dP.1 h.blk).1;rcases b6 with e|e|e|e|e|e|e|e|e|e|e
 .cases e;exact⟨l0,znl⟩
 .exact h.L.lt b e.symm
 .cases e;exact⟨l1,h.C.lt⟩
 .cases e;exact⟨l2,h.O.lt⟩
 .exact h.Q.lt b e.symm
 .exact h.W.lt b e.symm
 .exact h.B.lt b e.symm
 .exact h.R.lt b e.symm
 .cases e;exact⟨l3,h.M.lt⟩
 .exact h.A.lt b e.symm
 .exact h.T.lt b e.symm
theorem bE.keep (h:bE w lo hb v d)(k:∀b,b<w.heap.size->some b∈parts v hb->w'.heap[b]? =w.heap[b]?):bE w' lo hb v d:=by
 have kk:∀b,some b∈parts v hb->w'.heap[b]? =w.heap[b]? :=λb hb=>k b (h.lt b hb).2 hb;exact⟨(kk _ (dZ (i:=0) zeg)).trans h.blk,h.lob,cJ h.L λb e=>kk _ (dZ (i:=1) cS),cJ h.Q λb e=>kk _ (dZ (i:=4) cS),cJ h.W λb e=>kk _ (dZ (i:=5) cS),cJ h.B λb e=>kk _ (dZ (i:=6) cS),cJ h.R λb e=>kk _ (dZ (i:=7) cS),cJ h.A λb e=>kk _ (dZ (i:=9) cS),cJ h.T λb e=>kk _ (dZ (i:=10) cS),h.C.keep (kk _ (dZ (i:=2) zeg)),h.O.keep (kk _ (dZ (i:=3) zeg)),h.M.keep (kk _ (dZ (i:=8) zeg)),h.ap⟩
def bE.below (h:bE w lo hb v d)(k:bV w.heap.size w w'):bE w' lo hb v d:=h.keep λb hb _=>k.block b hb
def bE.alloc (h:bE w lo hb v d)(o:Obj):bE (w.alloc o) lo hb v d:=h.keep λb hb _=>qO w o b hb
def bE.drew (h:bE w lo hb v d):bE w.drew lo hb v d:=h.keep λ_ _ _=>rfl
theorem bE.same (h:bE w lo hb v d)(e:w'.heap=w.heap):bE w' lo hb v d:=h.keep λb _ _=>by rw[e]
variable {o:Obj}
theorem bE.turned {x:Nat}(h:bE w lo hb v d)(t:bM hb v w v' w')(hx:w.heap[x]? =some o)(hn:some x∉parts v hb):w'.heap[x]? =some o/\some x∉parts v' hb:=
 ⟨(t.block x (dP.1 hx).1 hn).trans hx,λy=>(t.moved x y).elim hn λz=>by have:=(dP.1 hx).1;omega⟩
def bE.ne (h:bE w lo hb v d){i j a b:Nat}(hi:(parts v hb)[i]? =some (some a))(hj:(parts v hb)[j]? =some (some b))(q9:i≠j):a≠b:=λe=>q9 (h.ap i j a hi (e▸hj))
theorem Ug {l:List (Option Nat)}(h:zcx l){j n:Nat}{x:Option Nat}(hl:∀b,some b∈l->b<n)(hx:l[j]? =some x\/∀b,x=some b->n<=b):zcx (l.set j x):=by
 intro i k b hi hk;rw[zbb] at hi hk;have old:∀m,l[m]? =some (some b)->b<n:=λm hm=>hl b (dZ hm);split at hi<;>split at hk
 .omega
 .next e1 e2=>
  split at hi
  .injection hi with hi
   subst hi;rcases hx with hx|hx
   .exact e1▸h j k b hx hk
   .have:=old k hk;have:=hx b rfl;omega
  .cases hi
 .next e1 e2=>
  split at hk
  .injection hk with hk
   subst hk;rcases hx with hx|hx
   .exact e2▸h i j b hi hx
   .have:=old i hi;have:=hx b rfl;omega
  .cases hk
 .exact h i k b hi hk
theorem bE.other (h:bE w lo hb v d){j c:Nat}(hj:(parts v hb)[j]? =some x.ownBlock)(znS:j≠0)(hg:w.grownBy w1 x.ownBlock)(s':aF):
 (∀i b,i≠0->i≠j->(parts v hb)[i]? =some (some b)->(w1.setCell ⟨hb,c,none⟩ s').heap[b]? =w.heap[b]?)/\w1.heap[hb]? =w.heap[hb]? :=by
 have h0:(parts v hb)[0]? =some (some hb):=rfl;have hx:∀i b,i≠j->(parts v hb)[i]? =some (some b)->some b≠x.ownBlock:=λi b q9 hi e=>q9 (h.ap i j b hi (by rw[hj,<-e]));refine⟨λi b eV q9 hi=>?_,hg.block hb (h.lt hb (dZ h0)).2 (hx 0 hb (Ne.symm znS) h0)⟩;have aT:b≠hb:=h.ne hi h0 eV;exact(eH w1 _ _ b aT).trans (hg.block b (h.lt b (dZ hi)).2 (hx i b q9 hi))
variable {s':aF}
theorem Q7 {j c:Nat}(aN:∀b,some b∈parts v hb->b<w.heap.size)(hj:(parts v hb)[j]? =some x.ownBlock)(hg:w.grownBy w1 x.ownBlock)(hv:parts v' hb=(parts v hb).set j s'.ownBlock)(hw:s'.ownBlock=x.ownBlock\/∀b,s'.ownBlock=some b->w.heap.size<=b):
 bM hb v w v' (w1.setCell ⟨hb,c,none⟩ s'):=by
 refine⟨by rw[tD];exact hg.size,λb b6 hn=>?_,λb b6=>?_⟩
 .have h0:some hb∈parts v hb:=dZ (i:=0) rfl
  have aT:b≠hb:=λe=>hn (e▸h0);exact(eH w1 _ _ b aT).trans (hg.block b b6 λe=>hn (e▸dZ hj))
 .rw[hv] at b6
  rcases List.mem_or_eq_of_mem_set b6 with h1|h1
  .exact .inl h1
  .rcases hw with hw|hw
   .exact .inl (by rw[h1,hw];exact dZ hj)
   .exact .inr (hw b h1.symm)
theorem bE.putL (h:bE w lo hb v d)(hg:w.grownBy w1 v.sL.ownBlock){xs:List Nat}{n:Nat}(ho:w1.ownsRow lo 84 1 s' n (I2 xs))(hn:n=xs.length)(hw:s'.ownBlock=v.sL.ownBlock\/∀b,s'.ownBlock=some b->w.heap.size<=b):
 bE (w1.setCell ⟨hb,3,none⟩ s') lo hb {v with sL:=s'} {d with ln:=xs}/\bM hb v w {v with sL:=s'} (w1.setCell ⟨hb,3,none⟩ s'):=by
 subst hn;have aN:∀b,some b∈parts v hb->b<w.heap.size:=λb hb=>(h.lt b hb).2;obtain⟨kk,k0⟩:=h.other (j:=1) (c:=3) (x:=v.sL) rfl aH hg s';have hs:∀b,s'.ownBlock=some b->b≠hb:=λb e=>by
  rcases hw with hw|hw
  .exact h.ne (i:=1) (j:=0) (show some v.sL.ownBlock=_ by rw[<-hw,e]) rfl aH
  .have:=hw b e;have:=aN hb (dZ (i:=0) rfl);omega
 have hp:parts {v with sL:=s'} hb=(parts v hb).set 1 s'.ownBlock:=rfl;refine⟨⟨nH (k0.trans h.blk) s',h.lob,cJ ho λb e=>eH w1 _ _ b (hs b e),cJ h.Q λb e=>kk 4 _ aH aH cS,cJ h.W λb e=>kk 5 _ aH aH cS,cJ h.B λb e=>kk 6 _ aH aH cS,cJ h.R λb e=>kk 7 _ aH aH cS,cJ h.A λb e=>kk 9 _ aH aH cS,cJ h.T λb e=>kk 10 _ aH aH cS,h.C.keep (kk 2 _ aH aH rfl),h.O.keep (kk 3 _ aH aH rfl),h.M.keep (kk 8 _ aH aH rfl),?_⟩,Q7 (j:=1) (x:=v.sL) aN rfl hg hp hw⟩;rw[hp];exact Ug h.ap aN (hw.imp (λe=>by rw[e];rfl) id)
theorem bE.putQ (h:bE w lo hb v d)(hg:w.grownBy w1 v.sQ.ownBlock){xs:List Nat}{n:Nat}(ho:w1.ownsRow lo 95 1 s' n (I2 xs))(hn:n=xs.length)(hw:s'.ownBlock=v.sQ.ownBlock\/∀b,s'.ownBlock=some b->w.heap.size<=b):
 bE (w1.setCell ⟨hb,6,none⟩ s') lo hb {v with sQ:=s'} {d with qn:=xs}/\bM hb v w {v with sQ:=s'} (w1.setCell ⟨hb,6,none⟩ s'):=by
 subst hn;have aN:∀b,some b∈parts v hb->b<w.heap.size:=λb hb=>(h.lt b hb).2;obtain⟨kk,k0⟩:=h.other (j:=4) (c:=6) (x:=v.sQ) rfl aH hg s';have hs:∀b,s'.ownBlock=some b->b≠hb:=λb e=>by
  rcases hw with hw|hw
  .exact h.ne (i:=4) (j:=0) (show some v.sQ.ownBlock=_ by rw[<-hw,e]) rfl aH
  .have:=hw b e;have:=aN hb (dZ (i:=0) rfl);omega
 have hp:parts {v with sQ:=s'} hb=(parts v hb).set 4 s'.ownBlock:=rfl;refine⟨⟨nH (k0.trans h.blk) s',h.lob,cJ h.L λb e=>kk 1 _ aH aH cS,cJ ho λb e=>eH w1 _ _ b (hs b e),cJ h.W λb e=>kk 5 _ aH aH cS,cJ h.B λb e=>kk 6 _ aH aH cS,cJ h.R λb e=>kk 7 _ aH aH cS,cJ h.A λb e=>kk 9 _ aH aH cS,cJ h.T λb e=>kk 10 _ aH aH cS,h.C.keep (kk 2 _ aH aH rfl),h.O.keep (kk 3 _ aH aH rfl),h.M.keep (kk 8 _ aH aH rfl),?_⟩,Q7 (j:=4) (x:=v.sQ) aN rfl hg hp hw⟩;rw[hp];exact Ug h.ap aN (hw.imp (λe=>by rw[e];rfl) id)
variable {xs:List bJ}
theorem bE.putW (h:bE w lo hb v d)(hg:w.grownBy w1 v.sW.ownBlock){n:Nat}(ho:w1.ownsRow lo 149 2 s' n (bF xs))(hn:n=xs.length)(hw:s'.ownBlock=v.sW.ownBlock\/∀b,s'.ownBlock=some b->w.heap.size<=b):
 bE (w1.setCell ⟨hb,7,none⟩ s') lo hb {v with sW:=s'} {d with r:={d.r with wait:=xs}}/\bM hb v w {v with sW:=s'} (w1.setCell ⟨hb,7,none⟩ s'):=by
 subst hn;have aN:∀b,some b∈parts v hb->b<w.heap.size:=λb hb=>(h.lt b hb).2;obtain⟨kk,k0⟩:=h.other (j:=5) (c:=7) (x:=v.sW) rfl aH hg s';have hs:∀b,s'.ownBlock=some b->b≠hb:=λb e=>by
  rcases hw with hw|hw
  .exact h.ne (i:=5) (j:=0) (show some v.sW.ownBlock=_ by rw[<-hw,e]) rfl aH
  .have:=hw b e;have:=aN hb (dZ (i:=0) rfl);omega
 have hp:parts {v with sW:=s'} hb=(parts v hb).set 5 s'.ownBlock:=rfl;refine⟨⟨nH (k0.trans h.blk) s',h.lob,cJ h.L λb e=>kk 1 _ aH aH cS,cJ h.Q λb e=>kk 4 _ aH aH cS,cJ ho λb e=>eH w1 _ _ b (hs b e),cJ h.B λb e=>kk 6 _ aH aH cS,cJ h.R λb e=>kk 7 _ aH aH cS,cJ h.A λb e=>kk 9 _ aH aH cS,cJ h.T λb e=>kk 10 _ aH aH cS,h.C.keep (kk 2 _ aH aH rfl),h.O.keep (kk 3 _ aH aH rfl),h.M.keep (kk 8 _ aH aH rfl),?_⟩,Q7 (j:=5) (x:=v.sW) aN rfl hg hp hw⟩;rw[hp];exact Ug h.ap aN (hw.imp (λe=>by rw[e];rfl) id)
theorem bE.putB (h:bE w lo hb v d)(hg:w.grownBy w1 v.sB.ownBlock){n:Nat}(ho:w1.ownsRow lo 3 1 s' n (eJ (xs.map bJ.c)))(hn:n=xs.length)(hw:s'.ownBlock=v.sB.ownBlock\/∀b,s'.ownBlock=some b->w.heap.size<=b):
 bE (w1.setCell ⟨hb,8,none⟩ s') lo hb {v with sB:=s'} {d with r:={d.r with back:=xs}}/\bM hb v w {v with sB:=s'} (w1.setCell ⟨hb,8,none⟩ s'):=by
 subst hn;have aN:∀b,some b∈parts v hb->b<w.heap.size:=λb hb=>(h.lt b hb).2;obtain⟨kk,k0⟩:=h.other (j:=6) (c:=8) (x:=v.sB) rfl aH hg s';have hs:∀b,s'.ownBlock=some b->b≠hb:=λb e=>by
  rcases hw with hw|hw
  .exact h.ne (i:=6) (j:=0) (show some v.sB.ownBlock=_ by rw[<-hw,e]) rfl aH
  .have:=hw b e;have:=aN hb (dZ (i:=0) rfl);omega
 have hp:parts {v with sB:=s'} hb=(parts v hb).set 6 s'.ownBlock:=rfl;refine⟨⟨nH (k0.trans h.blk) s',h.lob,cJ h.L λb e=>kk 1 _ aH aH cS,cJ h.Q λb e=>kk 4 _ aH aH cS,cJ h.W λb e=>kk 5 _ aH aH cS,cJ ho λb e=>eH w1 _ _ b (hs b e),cJ h.R λb e=>kk 7 _ aH aH cS,cJ h.A λb e=>kk 9 _ aH aH cS,cJ h.T λb e=>kk 10 _ aH aH cS,h.C.keep (kk 2 _ aH aH rfl),h.O.keep (kk 3 _ aH aH rfl),h.M.keep (kk 8 _ aH aH rfl),?_⟩,Q7 (j:=6) (x:=v.sB) aN rfl hg hp hw⟩;rw[hp];exact Ug h.ap aN (hw.imp (λe=>by rw[e];rfl) id)
theorem bE.putR (h:bE w lo hb v d)(hg:w.grownBy w1 v.sR.ownBlock){xs:List bR}{n:Nat}(ho:w1.ownsRow lo 50 7 s' n (recs xs))(hn:n=xs.length)(hw:s'.ownBlock=v.sR.ownBlock\/∀b,s'.ownBlock=some b->w.heap.size<=b):
 bE (w1.setCell ⟨hb,9,none⟩ s') lo hb {v with sR:=s'} {d with r:={d.r with recs:=xs}}/\bM hb v w {v with sR:=s'} (w1.setCell ⟨hb,9,none⟩ s'):=by
 subst hn;have aN:∀b,some b∈parts v hb->b<w.heap.size:=λb hb=>(h.lt b hb).2;obtain⟨kk,k0⟩:=h.other (j:=7) (c:=9) (x:=v.sR) rfl aH hg s';have hs:∀b,s'.ownBlock=some b->b≠hb:=λb e=>by
  rcases hw with hw|hw
  .exact h.ne (i:=7) (j:=0) (show some v.sR.ownBlock=_ by rw[<-hw,e]) rfl aH
  .have:=hw b e;have:=aN hb (dZ (i:=0) rfl);omega
 have hp:parts {v with sR:=s'} hb=(parts v hb).set 7 s'.ownBlock:=rfl;refine⟨⟨nH (k0.trans h.blk) s',h.lob,cJ h.L λb e=>kk 1 _ aH aH cS,cJ h.Q λb e=>kk 4 _ aH aH cS,cJ h.W λb e=>kk 5 _ aH aH cS,cJ h.B λb e=>kk 6 _ aH aH cS,cJ ho λb e=>eH w1 _ _ b (hs b e),cJ h.A λb e=>kk 9 _ aH aH cS,cJ h.T λb e=>kk 10 _ aH aH cS,h.C.keep (kk 2 _ aH aH rfl),h.O.keep (kk 3 _ aH aH rfl),h.M.keep (kk 8 _ aH aH rfl),?_⟩,Q7 (j:=7) (x:=v.sR) aN rfl hg hp hw⟩;rw[hp];exact Ug h.ap aN (hw.imp (λe=>by rw[e];rfl) id)
variable {xs:List (List UInt8)}
theorem bE.putA (h:bE w lo hb v d)(hg:w.grownBy w1 v.sA.ownBlock){n:Nat}(ho:w1.ownsRow lo 9 1 s' n (Fx xs))(hn:n=xs.length)(hw:s'.ownBlock=v.sA.ownBlock\/∀b,s'.ownBlock=some b->w.heap.size<=b):
 bE (w1.setCell ⟨hb,12,none⟩ s') lo hb {v with sA:=s'} {d with r:={d.r with log:=xs}}/\bM hb v w {v with sA:=s'} (w1.setCell ⟨hb,12,none⟩ s'):=by
 subst hn;have aN:∀b,some b∈parts v hb->b<w.heap.size:=λb hb=>(h.lt b hb).2;obtain⟨kk,k0⟩:=h.other (j:=9) (c:=12) (x:=v.sA) rfl aH hg s';have hs:∀b,s'.ownBlock=some b->b≠hb:=λb e=>by
  rcases hw with hw|hw
  .exact h.ne (i:=9) (j:=0) (show some v.sA.ownBlock=_ by rw[<-hw,e]) rfl aH
  .have:=hw b e;have:=aN hb (dZ (i:=0) rfl);omega
 have hp:parts {v with sA:=s'} hb=(parts v hb).set 9 s'.ownBlock:=rfl;refine⟨⟨nH (k0.trans h.blk) s',h.lob,cJ h.L λb e=>kk 1 _ aH aH cS,cJ h.Q λb e=>kk 4 _ aH aH cS,cJ h.W λb e=>kk 5 _ aH aH cS,cJ h.B λb e=>kk 6 _ aH aH cS,cJ h.R λb e=>kk 7 _ aH aH cS,cJ ho λb e=>eH w1 _ _ b (hs b e),cJ h.T λb e=>kk 10 _ aH aH cS,h.C.keep (kk 2 _ aH aH rfl),h.O.keep (kk 3 _ aH aH rfl),h.M.keep (kk 8 _ aH aH rfl),?_⟩,Q7 (j:=9) (x:=v.sA) aN rfl hg hp hw⟩;rw[hp];exact Ug h.ap aN (hw.imp (λe=>by rw[e];rfl) id)
theorem bE.putT (h:bE w lo hb v d)(hg:w.grownBy w1 v.sT.ownBlock){xs:List Int}{n:Nat}(ho:w1.ownsRow lo 3 1 s' n (eJ xs))(hn:n=xs.length)(hw:s'.ownBlock=v.sT.ownBlock\/∀b,s'.ownBlock=some b->w.heap.size<=b):
 bE (w1.setCell ⟨hb,13,none⟩ s') lo hb {v with sT:=s'} {d with tk:=xs}/\bM hb v w {v with sT:=s'} (w1.setCell ⟨hb,13,none⟩ s'):=by
 subst hn;have aN:∀b,some b∈parts v hb->b<w.heap.size:=λb hb=>(h.lt b hb).2;obtain⟨kk,k0⟩:=h.other (j:=10) (c:=13) (x:=v.sT) rfl aH hg s';have hs:∀b,s'.ownBlock=some b->b≠hb:=λb e=>by
  rcases hw with hw|hw
  .exact h.ne (i:=10) (j:=0) (show some v.sT.ownBlock=_ by rw[<-hw,e]) rfl aH
  .have:=hw b e;have:=aN hb (dZ (i:=0) rfl);omega
 have hp:parts {v with sT:=s'} hb=(parts v hb).set 10 s'.ownBlock:=rfl;refine⟨⟨nH (k0.trans h.blk) s',h.lob,cJ h.L λb e=>kk 1 _ aH aH cS,cJ h.Q λb e=>kk 4 _ aH aH cS,cJ h.W λb e=>kk 5 _ aH aH cS,cJ h.B λb e=>kk 6 _ aH aH cS,cJ h.R λb e=>kk 7 _ aH aH cS,cJ h.A λb e=>kk 9 _ aH aH cS,cJ ho λb e=>eH w1 _ _ b (hs b e),h.C.keep (kk 2 _ aH aH rfl),h.O.keep (kk 3 _ aH aH rfl),h.M.keep (kk 8 _ aH aH rfl),?_⟩,Q7 (j:=10) (x:=v.sT) aN rfl hg hp hw⟩;rw[hp];exact Ug h.ap aN (hw.imp (λe=>by rw[e];rfl) id)
theorem bE.mapC (h:bE w lo hb v d){ps:List (Nat×aF)}(hm:Ch {w with heap:=w.heap.setIfInBounds v.mC o} v.mC ps):
 bE {w with heap:=w.heap.setIfInBounds v.mC o} lo hb {v with pC:=ps} d/\bM hb v w {v with pC:=ps} {w with heap:=w.heap.setIfInBounds v.mC o}:=by
 have kk:∀i b,i≠2->(parts v hb)[i]? =some (some b)->(w.heap.setIfInBounds v.mC o)[b]? =w.heap[b]? :=λi b hi b6=>jV (h.ne (i:=2) rfl b6 (Ne.symm hi));refine⟨⟨(kk 0 _ aH rfl).trans h.blk,h.lob,cJ h.L λb e=>kk 1 _ aH cS,cJ h.Q λb e=>kk 4 _ aH cS,cJ h.W λb e=>kk 5 _ aH cS,cJ h.B λb e=>kk 6 _ aH cS,cJ h.R λb e=>kk 7 _ aH cS,cJ h.A λb e=>kk 9 _ aH cS,cJ h.T λb e=>kk 10 _ aH cS,hm,h.O.keep (kk 3 _ aH rfl),h.M.keep (kk 8 _ aH rfl),h.ap⟩,aO,λb b6 hn=>jV λe=>hn (by rw[<-e];exact dZ (i:=2) rfl),λb b6=>.inl b6⟩
theorem bE.mapO (h:bE w lo hb v d)(hm:xS {w with heap:=w.heap.setIfInBounds v.mO o} v.mO ps):
 bE {w with heap:=w.heap.setIfInBounds v.mO o} lo hb {v with pO:=ps} d/\bM hb v w {v with pO:=ps} {w with heap:=w.heap.setIfInBounds v.mO o}:=by
 have kk:∀i b,i≠3->(parts v hb)[i]? =some (some b)->(w.heap.setIfInBounds v.mO o)[b]? =w.heap[b]? :=λi b hi b6=>jV (h.ne (i:=3) rfl b6 (Ne.symm hi));refine⟨⟨(kk 0 _ aH rfl).trans h.blk,h.lob,cJ h.L λb e=>kk 1 _ aH cS,cJ h.Q λb e=>kk 4 _ aH cS,cJ h.W λb e=>kk 5 _ aH cS,cJ h.B λb e=>kk 6 _ aH cS,cJ h.R λb e=>kk 7 _ aH cS,cJ h.A λb e=>kk 9 _ aH cS,cJ h.T λb e=>kk 10 _ aH cS,h.C.keep (kk 2 _ aH rfl),hm,h.M.keep (kk 8 _ aH rfl),h.ap⟩,aO,λb b6 hn=>jV λe=>hn (by rw[<-e];exact dZ (i:=3) rfl),λb b6=>.inl b6⟩
theorem bE.mapM (h:bE w lo hb v d)(hm:xS {w with heap:=w.heap.setIfInBounds v.mM o} v.mM ps):
 bE {w with heap:=w.heap.setIfInBounds v.mM o} lo hb {v with pM:=ps} d/\bM hb v w {v with pM:=ps} {w with heap:=w.heap.setIfInBounds v.mM o}:=by
 have kk:∀i b,i≠8->(parts v hb)[i]? =some (some b)->(w.heap.setIfInBounds v.mM o)[b]? =w.heap[b]? :=λi b hi b6=>jV (h.ne (i:=8) rfl b6 (Ne.symm hi));refine⟨⟨(kk 0 _ aH rfl).trans h.blk,h.lob,cJ h.L λb e=>kk 1 _ aH cS,cJ h.Q λb e=>kk 4 _ aH cS,cJ h.W λb e=>kk 5 _ aH cS,cJ h.B λb e=>kk 6 _ aH cS,cJ h.R λb e=>kk 7 _ aH cS,cJ h.A λb e=>kk 9 _ aH cS,cJ h.T λb e=>kk 10 _ aH cS,h.C.keep (kk 2 _ aH rfl),h.O.keep (kk 3 _ aH rfl),hm,h.ap⟩,aO,λb b6 hn=>jV λe=>hn (by rw[<-e];exact dZ (i:=8) rfl),λb b6=>.inl b6⟩
theorem bE.putClk (h:bE w lo hb v d)(x:Int):bE (w.setCell ⟨hb,11,none⟩ (.int .i64 x)) lo hb v {d with r:={d.r with clk:=x}}/\bM hb v w v (w.setCell ⟨hb,11,none⟩ (.int .i64 x)):=by
 have h0:(parts v hb)[0]? =some (some hb):=rfl;have kk:∀i b,i≠0->(parts v hb)[i]? =some (some b)->(w.setCell ⟨hb,11,none⟩ (.int .i64 x)).heap[b]? =w.heap[b]? :=λi b hi b6=>eH w _ _ b (h.ne b6 h0 hi);refine⟨⟨nH h.blk _,h.lob,cJ h.L λb e=>kk 1 _ aH cS,cJ h.Q λb e=>kk 4 _ aH cS,cJ h.W λb e=>kk 5 _ aH cS,cJ h.B λb e=>kk 6 _ aH cS,cJ h.R λb e=>kk 7 _ aH cS,cJ h.A λb e=>kk 9 _ aH cS,cJ h.T λb e=>kk 10 _ aH cS,h.C.keep (kk 2 _ aH rfl),h.O.keep (kk 3 _ aH rfl),h.M.keep (kk 8 _ aH rfl),h.ap⟩,by rw[tD];exact aX _,λb b6 hn=>eH w _ _ b λe=>hn (e▸dZ h0),λb b6=>.inl b6⟩
theorem bE.setR {gR cR i j:Nat}{x:bR}{u:aF}(f:bR->bR)(h:bE w lo hb v d)(hv:v.sR=.slice (some ⟨gR,0,none⟩) d.r.recs.length cR)(hd:d.r.recs[i]? =some x)(hj:j<7)(hs:∀k,k<7->k≠j->(f x).cells[k]? =x.cells[k]?)(hu:(f x).cells[j]? =some u):
 bE (w.setCell ⟨gR,i*7+j,none⟩ u) lo hb v {d with r:={d.r with recs:=d.r.recs.modify i f}}/\bM hb v w v (w.setCell ⟨gR,i*7+j,none⟩ u):=by
 have zh2:(parts v hb)[7]? =some (some gR):=by show some v.sR.ownBlock=_;rw[hv];rfl
 have kk:∀i b,i≠7->(parts v hb)[i]? =some (some b)->(w.setCell ⟨gR,i*7+j,none⟩ u).heap[b]? =w.heap[b]? :=λi b hi b6=>eH w _ _ b (h.ne b6 zh2 hi);have Jh:∀m b,m≠7->(parts v hb)[m]? =some (some b)->(w.setCell ⟨gR,i*7+j,none⟩ u).heap[b]? =w.heap[b]? :=λm b hi b6=>eH w _ _ b (h.ne b6 zh2 hi);have hr:=h.R;rw[hv] at hr;have h1:=(hr.stored (i*7+j) u).1;rw[zwO hd hj hs hu] at h1;refine⟨⟨(Jh 0 _ aH rfl).trans h.blk,h.lob,cJ h.L λb e=>Jh 1 _ aH cS,cJ h.Q λb e=>Jh 4 _ aH cS,cJ h.W λb e=>Jh 5 _ aH cS,cJ h.B λb e=>Jh 6 _ aH cS,?_,cJ h.A λb e=>Jh 9 _ aH cS,cJ h.T λb e=>Jh 10 _ aH cS,h.C.keep (Jh 2 _ aH rfl),h.O.keep (Jh 3 _ aH rfl),h.M.keep (Jh 8 _ aH rfl),h.ap⟩,by rw[tD];exact aX _,λb b6 hn=>eH w _ _ b λe=>hn (e▸dZ zh2),λb b6=>.inl b6⟩;show(w.setCell _ u).ownsRow lo _ 7 v.sR (d.r.recs.modify i f).length _;rw[hv,F6];exact h1
end
def yW (c:Nat):List (Nat×aF)->List (Nat×aF)
 |[]=>[]
 |p::ps=>if c=p.1 then ps else p::yW c ps
theorem zru :∀{ps:List (Nat×aF)},c∉ps.map uP->pI c ps=none
 |[],_=>rfl
 |p::ps,h=>by
  unfold pI;have h1:c≠p.1:=λe=>h (by rw[e];simp);rw[if_neg h1];exact zru λx=>h (G4 _ x)
theorem zt5 (c c':Nat)(v:aF):∀ps:List (Nat×aF),pI c' (uM c v ps)=if c'=c then some v else pI c' ps
 |[]=>by
  unfold uM pI pI;rfl
 |p::ps=>by
  unfold uM;by_cases e:c=p.1
  .rw[if_pos e]
   unfold pI;by_cases e2:c'=p.1
   .rw[if_pos e2,if_pos (e2.trans e.symm)]
   .rw[if_neg e2,if_neg (λh=>e2 (h.trans e))]
    first|rfl|simp[e2]
  .rw[if_neg e]
   unfold pI;by_cases e2:c'=p.1
   .rw[if_pos e2,if_neg (λh=>e (h.symm.trans e2))]
    first|rfl|simp[e2]
   .rw[if_neg e2,zt5 c c' v ps]
    first|rfl|simp[e2]
variable {c':Nat}
theorem zoC :∀{ps:List (Nat×aF)},c'∈(uM c v ps).map uP->c'=c\/c'∈ps.map uP
 |[],h=>by unfold uM at h;simp at h;exact .inl h
 |p::ps,h=>by
  unfold uM at h;by_cases e:c=p.1
  .rw[if_pos e] at h
   exact .inr h
  .rw[if_neg e,fO,jJ] at h
   rcases h with h|h
   .exact .inr (by rw[h];simp)
   .exact(zoC h).imp id (G4 _)
theorem zuF (c:Nat)(v:aF):∀{ps:List (Nat×aF)},(ps.map uP).Nodup->((uM c v ps).map uP).Nodup
 |[],_=>by unfold uM;simp
 |p::ps,h=>by
  unfold uM;rw[fO,Dq] at h;by_cases e:c=p.1
  .rw[if_pos e,fO,Dq];exact h
  .rw[if_neg e,fO,Dq]
   exact⟨λx=>(zoC x).elim (λy=>e y.symm) h.1,zuF c v h.2⟩
theorem zu7 :∀{ps:List (Nat×aF)},c'∈(yW c ps).map uP->c'∈ps.map uP
 |[],h=>by cases h
 |p::ps,h=>by
  unfold yW at h;by_cases e:c=p.1
  .rw[if_pos e] at h;exact G4 _ h
  .rw[if_neg e,fO,jJ] at h
   rcases h with h|h
   .rw[h];simp
   .exact G4 _ (zu7 h)
theorem zuN (c:Nat):∀{ps:List (Nat×aF)},(ps.map uP).Nodup->((yW c ps).map uP).Nodup
 |[],_=>by unfold yW;simp
 |p::ps,h=>by
  rw[fO,Dq] at h;unfold yW;by_cases e:c=p.1
  .rw[if_pos e];exact h.2
  .rw[if_neg e,fO,Dq]
   exact⟨λx=>h.1 (zu7 x),zuN c h.2⟩
theorem zp0 (c c':Nat):∀{ps:List (Nat×aF)},(ps.map uP).Nodup->pI c' (yW c ps)=if c'=c then none else pI c' ps
 |[],_=>by unfold yW pI;split<;>rfl
 |p::ps,h=>by
  rw[fO,Dq] at h;unfold yW;by_cases e:c=p.1
  .rw[if_pos e]
   by_cases e2:c'=c
   .rw[if_pos e2];exact zru (by rw[e2,e];exact h.1)
   .rw[if_neg e2]
    show _=pI c' (p::ps)
    conv=>rhs;unfold pI
    rw[if_neg (λh=>e2 (h.trans e.symm))]
  .rw[if_neg e]
   unfold pI;by_cases e2:c'=p.1
   .rw[if_pos e2,if_neg (λh=>e (h.symm.trans e2))]
    first|rfl|simp[e2]
   .rw[if_neg e2,zp0 c c' h.2]
    first|rfl|simp[e2]
theorem zrC :∀{es:List oP} {ps:List (Nat×aF)} {i:Nat} {q:Nat×aF},yL es ps->Bc c ps i=some q->∃j,q.1=i+j/\j<es.length/\yL (es.eraseIdx j) (yW c ps)
 |[],ps,i,q,h,hq=>by rw[h.nil_inv] at hq;cases hq
 |e::es,ps,i,q,h,hq=>by
  obtain⟨p,qs,rfl,h1,h2,h3⟩:=h.cons_inv;unfold Bc at hq;by_cases hc:c=p.1
  .rw[if_pos hc] at hq
   injection hq with hq;refine⟨0,by rw[<-hq];rfl,aO,?_⟩;unfold yW;rw[if_pos hc];simpa using h3
  .rw[if_neg hc] at hq
   obtain⟨j,e1,e2,e3⟩:=zrC h3 hq;refine⟨j+1,by rw[e1];omega,by simpa using e2,?_⟩;unfold yW;rw[if_neg hc];unfold yL at e3⊢;rw[ztt,fO,fO,e3,h1,h2]
section
variable {P:bS}{k:aM}{d:Nu}{e0:aM}
variable {ps:List (Nat×aF)}
theorem zGR {t e kt:aM}(ht:P.underlying t=some (.map k e))(hk:P.underlying k=some (.chan d e0)){w:aE}{b:Nat}{c:Nat}(h:Ch w b ps)(hc:(pI c ps).isSome=true):
 ∃o',(∀ty,(J0 #[t,kt] ty #[.map (some b),.chan (some c)]).run P w=.ok (.tuple #[]) {w with heap:=w.heap.setIfInBounds b o'})/\Ch {w with heap:=w.heap.setIfInBounds b o'} b (yW c ps):=by
 obtain⟨es,clock,hb,he⟩:=h;have hz:=(dP.1 hb).1;have hf:=zjx c ps 0
 cases hq:Bc c ps 0 with
 |none=>rw[hq] at hf;rw[<-hf] at hc;cases hc
 |some q=>
  obtain⟨j,e1,e2,e3⟩:=zrC he hq;have Ez:q.1=j:=aC;refine⟨.map (es.eraseIdxIfInBounds j) clock,λty=>?_,es.eraseIdxIfInBounds j,clock,by simp[hz],?_⟩
  .simp[J0,wU ht,Yi hb,zgE hk,zfy hk c w _ _ he,hq,Ez,Xb _ hb,uV]
  .have hj:j<es.size:=by simpa using e2
   have:(es.eraseIdxIfInBounds j).toList=es.toList.eraseIdx j:=by
    unfold zp9;rw[dif_pos hj,zsW]
   rw[this];exact e3
end
def x6 (c:Int):List (Int×aF)->List (Int×aF)
 |[]=>[]
 |p::ps=>if c=p.1 then ps else p::x6 c ps
variable {c:Int}
theorem zuI :∀{ps:List (Int×aF)},c∉ps.map uP->lA c ps=none
 |[],_=>rfl
 |p::ps,h=>by
  unfold lA;have h1:c≠p.1:=λe=>h (by rw[e];simp);rw[if_neg h1];exact zuI λx=>h (G4 _ x)
theorem V9 (c c':Int)(v:aF):∀ps:List (Int×aF),lA c' (qG c v ps)=if c'=c then some v else lA c' ps
 |[]=>by
  unfold qG lA lA;rfl
 |p::ps=>by
  unfold qG;by_cases e:c=p.1
  .rw[if_pos e]
   unfold lA;by_cases e2:c'=p.1
   .rw[if_pos e2,if_pos (e2.trans e.symm)]
   .rw[if_neg e2,if_neg (λh=>e2 (h.trans e))]
    first|rfl|simp[e2]
  .rw[if_neg e]
   unfold lA;by_cases e2:c'=p.1
   .rw[if_pos e2,if_neg (λh=>e (h.symm.trans e2))]
    first|rfl|simp[e2]
   .rw[if_neg e2,V9 c c' v ps]
    first|rfl|simp[e2]
variable {c':Int}
theorem zuS :∀{ps:List (Int×aF)},c'∈(qG c v ps).map uP->c'=c\/c'∈ps.map uP
 |[],h=>by unfold qG at h;simp at h;exact .inl h
 |p::ps,h=>by
  unfold qG at h;by_cases e:c=p.1
  .rw[if_pos e] at h
   exact .inr h
  .rw[if_neg e,fO,jJ] at h
   rcases h with h|h
   .exact .inr (by rw[h];simp)
   .exact(zuS h).imp id (G4 _)
theorem zm3 (c:Int)(v:aF):∀{ps:List (Int×aF)},(ps.map uP).Nodup->((qG c v ps).map uP).Nodup
 |[],_=>by unfold qG;simp
 |p::ps,h=>by
  unfold qG;rw[fO,Dq] at h;by_cases e:c=p.1
  .rw[if_pos e,fO,Dq];exact h
  .rw[if_neg e,fO,Dq]
   exact⟨λx=>(zuS x).elim (λy=>e y.symm) h.1,zm3 c v h.2⟩
theorem ztZ :∀{ps:List (Int×aF)},c'∈(x6 c ps).map uP->c'∈ps.map uP
 |[],h=>by cases h
 |p::ps,h=>by
  unfold x6 at h;by_cases e:c=p.1
  .rw[if_pos e] at h;exact G4 _ h
  .rw[if_neg e,fO,jJ] at h
   rcases h with h|h
   .rw[h];simp
   .exact G4 _ (ztZ h)
theorem zvY (c:Int):∀{ps:List (Int×aF)},(ps.map uP).Nodup->((x6 c ps).map uP).Nodup
 |[],_=>by unfold x6;simp
 |p::ps,h=>by
  rw[fO,Dq] at h;unfold x6;by_cases e:c=p.1
  .rw[if_pos e];exact h.2
  .rw[if_neg e,fO,Dq]
   exact⟨λx=>h.1 (ztZ x),zvY c h.2⟩
theorem zkU (c c':Int):∀{ps:List (Int×aF)},(ps.map uP).Nodup->lA c' (x6 c ps)=if c'=c then none else lA c' ps
 |[],_=>by unfold x6 lA;split<;>rfl
 |p::ps,h=>by
  rw[fO,Dq] at h;unfold x6;by_cases e:c=p.1
  .rw[if_pos e]
   by_cases e2:c'=c
   .rw[if_pos e2];exact zuI (by rw[e2,e];exact h.1)
   .rw[if_neg e2]
    show _=lA c' (p::ps)
    conv=>rhs;unfold lA
    rw[if_neg (λh=>e2 (h.trans e.symm))]
  .rw[if_neg e]
   unfold lA;by_cases e2:c'=p.1
   .rw[if_pos e2,if_neg (λh=>e (h.symm.trans e2))]
    first|rfl|simp[e2]
   .rw[if_neg e2,zkU c c' h.2]
    first|rfl|simp[e2]
theorem zxI :∀{es:List oP} {ps:List (Int×aF)} {i:Nat} {q:Nat×aF},yT es ps->Av c ps i=some q->∃j,q.1=i+j/\j<es.length/\yT (es.eraseIdx j) (x6 c ps)
 |[],ps,i,q,h,hq=>by rw[h.nil_inv] at hq;cases hq
 |e::es,ps,i,q,h,hq=>by
  obtain⟨p,qs,rfl,h1,h2,h3⟩:=h.cons_inv;unfold Av at hq;by_cases hc:c=p.1
  .rw[if_pos hc] at hq
   injection hq with hq;refine⟨0,by rw[<-hq];rfl,aO,?_⟩;unfold x6;rw[if_pos hc];simpa using h3
  .rw[if_neg hc] at hq
   obtain⟨j,e1,e2,e3⟩:=zxI h3 hq;refine⟨j+1,by rw[e1];omega,by simpa using e2,?_⟩;unfold x6;rw[if_neg hc];unfold yT at e3⊢;rw[ztt,fO,fO,e3,h1,h2]
section
variable {P:bS}{k:aM}
variable {ps:List (Int×aF)}
theorem zFO {t e kt:aM}(ht:P.underlying t=some (.map k e))(hk:P.underlying k=some (.int .i64)){w:aE}{b:Nat}{c:Int}(h:xS w b ps)(hc:(lA c ps).isSome=true):
 ∃o',(∀ty,(J0 #[t,kt] ty #[.map (some b),.int .i64 c]).run P w=.ok (.tuple #[]) {w with heap:=w.heap.setIfInBounds b o'})/\xS {w with heap:=w.heap.setIfInBounds b o'} b (x6 c ps):=by
 obtain⟨es,clock,hb,he⟩:=h;have hz:=(dP.1 hb).1;have hf:=zie c ps 0
 cases hq:Av c ps 0 with
 |none=>rw[hq] at hf;rw[<-hf] at hc;cases hc
 |some q=>
  obtain⟨j,e1,e2,e3⟩:=zxI he hq;have Ez:q.1=j:=aC;refine⟨.map (es.eraseIdxIfInBounds j) clock,λty=>?_,es.eraseIdxIfInBounds j,clock,by simp[hz],?_⟩
  .simp[J0,wU ht,Yi hb,zdR hk,zfA hk c w _ _ he,hq,Ez,Xb _ hb,uV]
  .have hj:j<es.size:=by simpa using e2
   have:(es.eraseIdxIfInBounds j).toList=es.toList.eraseIdx j:=by
    unfold zp9;rw[dif_pos hj,zsW]
   rw[this];exact e3
variable {Q:n5->Act->aE->Prop}
theorem zI9 {ops:Array aZ}{rest:List aZ}{o:aZ}{a:Act}(w:aE)(hg:o.guard=none)(m x:cM)(t kt:aM)(hop:o.op=.call {callee:=.builtin .delete,args:=#[m,x],argTypes:=#[t,kt]})(e:aM)
 (ht:P.underlying t=some (.map k e)) (hk:P.underlying k=some (.int .i64)) (b:Nat) (c:Int) (ps:List (Int×aF)) (hm:a.eval m=.map (some b)) (hx:a.eval x=.int .i64 c) (h:xS w b ps) (hc:(lA c ps).isSome=true)
 (hK:∀w' o',w'={w with heap:=w.heap.setIfInBounds b o'}->xS w' b (x6 c ps)->wpList P ops Q rest (a.put o.dst (.tuple #[])) w'):wpList P ops Q (o::rest) a w:=by
 refine Q0 hg λK' rV=>?_;obtain⟨o',cH,r9⟩:=zFO (kt:=kt) ht hk h hc;unfold Bm;simp only[aS,hop,resolve,invoke,builtin,Eg,Iu,Fq,uI,fO,tW,hm,hx,cH];exact rV _ _ (hK _ _ rfl r9)
end
structure gC (v:fJ)(d:nM):Prop where
 kc:(v.pC.map uP).Nodup
 ko:(v.pO.map uP).Nodup
 km:(v.pM.map uP).Nodup
 c:∀(i g:Nat),d.ln[i]? =some g->((pI g v.pC).isSome=true↔∃(j:Nat) (x:bR),d.r.recs[j]? =some x/\eK x=true/\x.l=(i:Int)+1)
 o1:∀(c:Int) (y:aF),lA c v.pO=some y->∃(i:Nat) (x:bR) (g:Nat),d.r.recs[i]? =some x/\eK x=true/\x.c=c/\d.ln[(x.l-1).toNat]? =some g/\y=.chan (some g)
 o2:∀(c:Int),lA c v.pO=none->∀(i:Nat) (x:bR),d.r.recs[i]? =some x->eK x=true->x.c≠c
 m1:∀(c:Int) (y:aF),lA c v.pM=some y->∃(i:Nat) (x:bR),y=.int .i64 (i:Int)/\d.r.recs[i]? =some x/\x.c=c/\∀(j:Nat) (e:bR),d.r.recs[j]? =some e->e.c=c->j<=i
 m2:∀(c:Int),lA c v.pM=none->∀(i:Nat) (x:bR),d.r.recs[i]? =some x->x.c≠c
structure yM (d:nM):Prop where
 S:jF d.r
 R:RInv d.r
 ops:Uq d.r
 ndl:d.ln.Nodup
 nln:(d.ln.length:Int)=d.r.o.ln
 lb:∀x∈d.r.recs,1<=x.l/\x.l<=d.r.o.ln
 nqn:(d.qn.length:Int)=d.r.o.op
 sm:Ud d.r
variable {xs:List Nat}
theorem zvr (h:xs.Nodup){i j g:Nat}(hi:xs[i]? =some g)(hj:xs[j]? =some g):i=j:=by
 obtain⟨h1,h2⟩:=kD.1 hi;obtain⟨h3,h4⟩:=kD.1 hj;exact(List.getElem_inj h).1 (h2.trans h4.symm)
theorem zGA {rs:List bR}{l:Int}:rB rs l=true↔∃(j:Nat) (x:bR),rs[j]? =some x/\eK x=true/\x.l=l:=by
 unfold rB;rw[Sx];constructor
 .rintro⟨x,hx,h⟩
  obtain⟨j,hj⟩:=G5.1 hx;simp only[fU,beq_iff_eq] at h;exact⟨j,x,hj,h.2,h.1⟩
 .rintro⟨j,x,hj,ho,hl⟩
  exact⟨x,dZ hj,by simp[ho,hl]⟩
section
variable {v:fJ}{d:nM}
variable {i g:Nat}
theorem gC.used (h:gC v d)(hi:d.ln[i]? =some g):(pI g v.pC).isSome=rB d.r.recs ((i:Int)+1):=by
 rw[Bool.eq_iff_iff,h.c i g hi,zGA]
variable {c:Int}{x:bR}
theorem gC.onLine (h:gC v d)(hi:yM d)(hx:d.r.recs[i]? =some x)(ho:eK x=true)(hc:x.c=c):∃g,d.ln[(x.l-1).toNat]? =some g/\lA c v.pO=some (.chan (some g))/\lA c v.pM=some (.int .i64 (i:Int))/\(pI g v.pC).isSome=true:=by
 have hO:∃g,d.ln[(x.l-1).toNat]? =some g/\lA c v.pO=some (.chan (some g)):=by
  cases e:lA c v.pO with
  |none=>exact absurd hc (h.o2 c e i x hx ho)
  |some y=>
   obtain⟨j,z,g,h1,h2,h3,h4,rfl⟩:=h.o1 c y e;obtain rfl:=hi.S.opn i j x z hx h1 ho h2 (.inl (hc.trans h3.symm));rw[hx] at h1;obtain rfl:=cE h1;exact⟨g,h4,rfl⟩
 obtain⟨g,h1,h2⟩:=hO;refine⟨g,h1,h2,?_,(h.c _ g h1).2 ⟨i,x,hx,ho,?_⟩⟩
 .cases e:lA c v.pM with
  |none=>exact absurd hc (h.m2 c e i x hx)
  |some y=>
   obtain⟨j,z,rfl,h3,h4,h5⟩:=h.m1 c y e;have k1:=h5 i x hx hc;have k2:=hi.S.last i j x z hx ho h3 (h4.trans hc.symm);rw[show j=i by omega]
 .have:=hi.lb x (dZ hx);omega
theorem gC.offLine (h:gC v d)(hc:jL d.r.recs c=none):lA c v.pO=none:=by
 cases e:lA c v.pO with
 |none=>rfl
 |some y=>
  obtain⟨j,z,g,h1,h2,h3,_⟩:=h.o1 c y e;exact absurd h3 (Kl hc j z h1 h2)
theorem gC.more (h:gC v d)(hn:d.ln.Nodup){o hh tt clk:Int}(hg:d.ln[i]? =some g)(hf:rB d.r.recs ((i:Int)+1)=false)(hc:jL d.r.recs c=none):
 gC {v with pC:=uM g (.int .i64 c) v.pC,pO:=qG c (.chan (some g)) v.pO,pM:=qG c (.int .i64 (d.r.recs.length:Int)) v.pM} {d with r:={d.r with recs:=d.r.recs++[⟨c,(i:Int)+1,o,clk,hh,tt,eU⟩]}}:=by
 have hop:eK ⟨c,(i:Int)+1,o,clk,hh,tt,eU⟩=true:=by unfold eK;rw[zfd];rfl
 have Ci:(d.r.recs++[(⟨c,(i:Int)+1,o,clk,hh,tt,eU⟩:bR)])[d.r.recs.length]? =some ⟨c,(i:Int)+1,o,clk,hh,tt,eU⟩:=by rw[At (aX _),Og];rfl
 refine⟨zuF _ _ h.kc,zm3 _ _ h.ko,zm3 _ _ h.km,λi' g' wY=>?_,λc' y hy=>?_,λc' hy j x hx ho=>?_,λc' y hy=>?_,λc' hy j x hx=>?_⟩
 .simp only[zt5]
  by_cases e:g'=g
  .subst e
   obtain rfl:=zvr hn hg wY;rw[if_pos rfl];exact⟨λ_=>⟨_,_,Ci,hop,rfl⟩,λ_=>rfl⟩
  .rw[if_neg e,h.c i' g' wY]
   constructor
   .rintro⟨j,x,h1,h2⟩;exact⟨j,x,zdx h1,h2⟩
   .rintro⟨j,x,h1,h2,h3⟩
    rcases Km h1 with⟨_,h4⟩|⟨rfl,rfl⟩
    .exact⟨j,x,h4,h2,h3⟩
    .exfalso
     have:i=i':=by simp only at h3;omega
     subst this;rw[hg] at wY;exact e (cE wY).symm
 .simp only[V9] at hy
  by_cases e:c'=c
  .rw[if_pos e] at hy
   obtain rfl:=cE hy;exact⟨_,_,g,Ci,hop,e.symm,by simp only;rw[show((i:Int)+1-1).toNat=i by omega];exact hg,rfl⟩
  .rw[if_neg e] at hy
   obtain⟨j,x,g',h1,h2⟩:=h.o1 c' y hy;exact⟨j,x,g',zdx h1,h2⟩
 .simp only[V9] at hy
  by_cases e:c'=c
  .rw[if_pos e] at hy;cases hy
  .rw[if_neg e] at hy
   rcases Km hx with⟨_,h4⟩|⟨rfl,rfl⟩
   .exact h.o2 c' hy j x h4 ho
   .exact Ne.symm e
 .simp only[V9] at hy
  by_cases e:c'=c
  .rw[if_pos e] at hy
   obtain rfl:=cE hy;refine⟨_,_,rfl,Ci,e.symm,λj x hx _=>?_⟩;rcases Km hx with⟨h4,_⟩|⟨rfl,rfl⟩
   .omega
   .exact aX _
  .rw[if_neg e] at hy
   obtain⟨j,x,h1,h2,h3,h4⟩:=h.m1 c' y hy;refine⟨j,x,h1,zdx h2,h3,λj' x' lK kI=>?_⟩;rcases Km lK with⟨_,h5⟩|⟨rfl,rfl⟩
   .exact h4 j' x' h5 kI
   .exact absurd kI.symm e
 .simp only[V9] at hy
  by_cases e:c'=c
  .rw[if_pos e] at hy;cases hy
  .rw[if_neg e] at hy
   rcases Km hx with⟨_,h4⟩|⟨rfl,rfl⟩
   .exact h.m2 c' hy j x h4
   .exact Ne.symm e
variable {f:bR->bR}
theorem gC.mod (h:gC v d)(hf:∀x,(f x).c=x.c/\(f x).l=x.l/\eK (f x)=eK x):gC v {d with r:={d.r with recs:=d.r.recs.modify i f}}:=by
 have fw:∀(j:Nat) (x:bR),d.r.recs[j]? =some x->∃y,(d.r.recs.modify i f)[j]? =some y/\y.c=x.c/\y.l=x.l/\eK y=eK x:=λj x hx=>by
  by_cases e:i=j
  .subst e;exact⟨f x,zbV hx,hf x⟩
  .exact⟨x,Ov hx e,rfl,rfl,rfl⟩
 have bw:∀(j:Nat) (y:bR),(d.r.recs.modify i f)[j]? =some y->∃x,d.r.recs[j]? =some x/\y.c=x.c/\y.l=x.l/\eK y=eK x:=λj y hy=>by
  obtain⟨x,h1,⟨_,rfl⟩|⟨_,rfl⟩⟩:=Fl hy
  .exact⟨x,h1,hf x⟩
  .exact⟨_,h1,rfl,rfl,rfl⟩
 refine⟨h.kc,h.ko,h.km,λi' g' wY=>?_,λc' y hy=>?_,λc' hy j x hx ho=>?_,λc' y hy=>?_,λc' hy j x hx=>?_⟩
 .rw[h.c i' g' wY]
  constructor
  .rintro⟨j,x,h1,h2,h3⟩
   obtain⟨y,k1,k2,k3,k4⟩:=fw j x h1;exact⟨j,y,k1,k4.trans h2,k3.trans h3⟩
  .rintro⟨j,x,h1,h2,h3⟩
   obtain⟨y,k1,k2,k3,k4⟩:=bw j x h1;exact⟨j,y,k1,k4.symm.trans h2,k3.symm.trans h3⟩
 .obtain⟨j,x,g',h1,h2,h3,h4,h5⟩:=h.o1 c' y hy
  obtain⟨z,k1,k2,k3,k4⟩:=fw j x h1;exact⟨j,z,g',k1,k4.trans h2,k2.trans h3,by rw[k3];exact h4,h5⟩
 .obtain⟨z,k1,k2,k3,k4⟩:=bw j x hx
  rw[k2];exact h.o2 c' hy j z k1 (k4.symm.trans ho)
 .obtain⟨j,x,h1,h2,h3,h4⟩:=h.m1 c' y hy
  obtain⟨z,k1,k2,k3,k4⟩:=fw j x h2;refine⟨j,z,h1,k1,k2.trans h3,λj' x' lK kI=>?_⟩;obtain⟨z',l1,l2,l3,l4⟩:=bw j' x' lK;exact h4 j' z' l1 (l2.symm.trans kI)
 .obtain⟨z,k1,k2,k3,k4⟩:=bw j x hx
  rw[k2];exact h.m2 c' hy j z k1
theorem gC.clear (h:gC v d)(hS:jF d.r)(hn:d.ln.Nodup)(Ws:∀x∈d.r.recs,1<=x.l)(hx:d.r.recs[i]? =some x)(ho:eK x=true)(hg:d.ln[(x.l-1).toNat]? =some g)(hf:∀z,(f z).c=z.c/\(f z).l=z.l)(cT:eK (f x)=false):
 gC {v with pC:=yW g v.pC,pO:=x6 x.c v.pO} {d with r:={d.r with recs:=d.r.recs.modify i f}}:=by
 have bw:∀(j:Nat) (y:bR),(d.r.recs.modify i f)[j]? =some y->eK y=true->i≠j/\d.r.recs[j]? =some y:=λj y hy Dr=>by
  obtain⟨z,h1,⟨e,rfl⟩|⟨e,rfl⟩⟩:=Fl hy
  .subst e
   rw[hx] at h1;obtain rfl:=cE h1;rw[cT] at Dr;cases Dr
  .exact⟨e,h1⟩
 have cw:∀(j:Nat) (y:bR),(d.r.recs.modify i f)[j]? =some y->∃z,d.r.recs[j]? =some z/\y.c=z.c:=λj y hy=>by
  obtain⟨z,h1,⟨_,rfl⟩|⟨_,rfl⟩⟩:=Fl hy
  .exact⟨z,h1,(hf z).1⟩
  .exact⟨_,h1,rfl⟩
 refine⟨zuN _ h.kc,zvY _ h.ko,h.km,λi' g' wY=>?_,λc' y hy=>?_,λc' hy j z hz zb3=>?_,λc' y hy=>?_,λc' hy j z hz=>?_⟩
 .simp only[zp0 _ _ h.kc]
  by_cases e:g'=g
  .subst e
   have e1:=zvr hn hg wY;rw[if_pos rfl];constructor
   .intro h;cases h
   .rintro⟨j,z,h1,h2,h3⟩
    obtain⟨k1,k2⟩:=bw j z h1 h2;have hl:=Ws x (dZ hx);exact absurd (hS.opn i j x z hx k2 ho h2 (.inr (.inl aC))) k1
  .rw[if_neg e,h.c i' g' wY]
   constructor
   .rintro⟨j,z,h1,h2,h3⟩
    have aT:i≠j:=λe2=>by
     subst e2;rw[hx] at h1;obtain rfl:=cE h1;have:(x.l-1).toNat=i':=aC;rw[this,wY] at hg;exact e (cE hg)
    exact⟨j,z,Ov h1 aT,h2,h3⟩
   .rintro⟨j,z,h1,h2,h3⟩
    obtain⟨k1,k2⟩:=bw j z h1 h2;exact⟨j,z,k2,h2,h3⟩
 .simp only[zkU _ _ h.ko] at hy
  by_cases e:c'=x.c
  .rw[if_pos e] at hy;cases hy
  .rw[if_neg e] at hy
   obtain⟨j,z,g',h1,h2,h3,h4⟩:=h.o1 c' y hy;have aT:i≠j:=λe2=>by
    subst e2;rw[hx] at h1;obtain rfl:=cE h1;exact e h3.symm
   exact⟨j,z,g',Ov h1 aT,h2,h3,h4⟩
 .simp only[zkU _ _ h.ko] at hy
  obtain⟨k1,k2⟩:=bw j z hz zb3;by_cases e:c'=x.c
  .intro e2
   exact k1 (hS.opn i j x z hx k2 ho zb3 (.inl (by rw[e2,e])))
  .rw[if_neg e] at hy
   exact h.o2 c' hy j z k2 zb3
 .obtain⟨j,z,h1,h2,h3,h4⟩:=h.m1 c' y hy
  have up:∀(j':Nat) (e:bR),(d.r.recs.modify i f)[j']? =some e->e.c=c'->j'<=j:=λj' e he hc=>by
   obtain⟨z',k1,k2⟩:=cw j' e he;exact h4 j' z' k1 (k2.symm.trans hc)
  by_cases e:i=j
  .subst e
   exact⟨i,f z,h1,zbV h2,(hf z).1.trans h3,up⟩
  .exact⟨j,z,h1,Ov h2 e,h3,up⟩
 .obtain⟨z',k1,k2⟩:=cw j z hz
  rw[k2];exact h.m2 c' hy j z' k1
end
def U5:aK.underlying 84=some (.chan .both 3):=aQ
def Ko:aK.underlying 3=some (.int .i64):=aQ
theorem zma (w:aE):(zeroValue 3).run aK w=.ok (.int .i64 0) w:=by
 obtain⟨i0,hi,gX,_,_⟩:=y8 zot;simp[zeroValue,typeInfo,hi,gX]
def zcY (w:aE):(zeroValue 84).run aK w=.ok (.chan none) w:=aQ
def Hy (d:nM):Int:=match oJ d.r.o d.r.recs with|[]=>-1|l::_=>l-1
theorem zF2 {p:Int->Bool}:∀(n k:Nat),k<n->(∀j,j<k->p ((j:Int)+1)=false)->p ((k:Int)+1)=true->∃rest,((gF n).map λi:Nat=>(i:Int)+1).filter p=((k:Int)+1)::rest:=by
 intro n
 induction n with
 |zero=>intro k h;omega
 |succ n ih=>
  intro k hk h1 h2;rw[List.range_succ,Jl,Qf];by_cases e:k<n
  .obtain⟨rest,hr⟩:=ih k e h1 h2
   rw[hr];exact⟨_,rfl⟩
  .have e2:k=n:=aC
   subst e2;have h0:((gF k).map λi:Nat=>(i:Int)+1).filter p=[]:=by
    rw[zrf];intro x hx;obtain⟨i,hi,rfl⟩:=Ia.1 hx;rw[h1 i (Bz.1 hi)];simp
   rw[h0];exact⟨[],by simp[h2]⟩
variable {d:nM}{k:Nat}
theorem zD1 (hn:(d.ln.length:Int)=d.r.o.ln)(hk:k<d.ln.length)(h1:∀j,j<k->rB d.r.recs ((j:Int)+1)=true)(h2:rB d.r.recs ((k:Int)+1)=false):Hy d=(k:Int):=by
 unfold Hy oJ xO;obtain⟨rest,hr⟩:=zF2 (p:=λl=>!rB d.r.recs l) d.r.o.ln.toNat k aC (λj hj=>by simp[h1 j hj]) (by simp[h2]);rw[hr];simp only;omega
theorem zH0 (hn:(d.ln.length:Int)=d.r.o.ln)(h1:∀j,j<d.ln.length->rB d.r.recs ((j:Int)+1)=true):Hy d= -1:=by
 unfold Hy oJ xO;have h0:((gF d.r.o.ln.toNat).map λi:Nat=>(i:Int)+1).filter (λl=>!rB d.r.recs l)=[]:=by
  rw[zrf];intro x hx;obtain⟨i,hi,rfl⟩:=Ia.1 hx;rw[h1 i (by have:=Bz.1 hi;omega)];simp
 rw[h0]
variable {w:aE}{lo:Nat}
theorem Gh {E s n:Nat}{xs:List aF}(h:w.ownsRow lo E s v n xs)(hs:0<s):∃A c,v=.slice A n c/\b7 w lo w.heap.size s A n c xs:=by
 obtain⟨A,c,e,o⟩:=zmS h hs;exact⟨A,c,e,o.slc⟩
theorem zho {hi n c:Nat}{A:Option bL}(h:b7 w lo hi 1 A n c (I2 xs))(hk:k<n):∃b off g,A=some ⟨b,off,none⟩/\xs[k]? =some g/\w.cell? ⟨b,off+k,none⟩=some (.chan (some g)):=by
 obtain⟨b,off,e,h1,h2,h3,h4⟩:=h.cells hk;have hl:xs.length=n:=by have:=h.len;simpa[I2] using this
 obtain⟨g,hg⟩:∃g,xs[k]? =some g:=⟨xs[k]' aC,lX aC⟩;refine⟨b,off,g,e,hg,?_⟩;have:=h4 0 (.chan (some g)) (by simp[I2,hg]);simpa using this
theorem zp2 {hb:Nat}{v:fJ}(h:bE w lo hb v d)(m:gC v d)(hn:(d.ln.length:Int)=d.r.o.ln)(hk:d.ln.length<=100):
 fN aK 109 #[.pointer (some ⟨hb,0,none⟩)] w λe w'=>e=.returned (.int .i64 (Hy d))/\w'=w:=by
 obtain⟨A,c,hA,hs⟩:=Gh h.L aH;have HS:=aD hs;have HM:=aD m;have HC:=aD h.C;have HN:=aD hn;have nZ:=aJ h.blk 3;have k2:=aJ h.blk 4;have k1:w.cell? ⟨hb,3,none⟩=some (.slice A d.ln.length c):=by rw[nZ,<-hA];rfl
 go_enter Tryz.func109,Tryz.ntmps109
 go_wp2
 go_loop [12] (λi=>∃k:Nat,k<=d.ln.length/\i=.int .i64 k/\∀j,j<k->rB d.r.recs ((j:Int)+1)=true) (λi=>d.ln.length-(intOf i).toNat)
 case atStart=>exact⟨0,jT _,rfl,λj hj=>absurd hj aC⟩
 case round=>
  obtain⟨k,sX,rfl,fV⟩:=hrel;have Wp:=aD fV;by_cases aN:k<d.ln.length
  .obtain⟨b,off,g,hA,hg,hv⟩:=zho HS.o aN
   subst hA;have HG:=aD hg;have i0:(0:Int)<=(k:Int):=aC;have i1:(k:Int)<(d.ln.length:Int):=aC;have HU:=aD (HM.o.used hg);cases hu:rB d.r.recs ((k:Int)+1)
   .have HV:=aD hu
    go_wp2_with (at_lookup;refine zum _ rfl (.tmp 21) (.tmp 22) 66 true rfl 3 zsJ U5 (.int .i64 0) (zma _) v.mC g v.pC rfl rfl HC.o ?_;rw[HU.o,HV.o];simp only[if_true])
    go_ret;exact⟨As (zD1 HN.o aN Wp.o HV.o).symm,rfl⟩
   .have HV:=aD hu
    go_wp2_with (at_lookup;refine zum _ rfl (.tmp 21) (.tmp 22) 66 true rfl 3 zsJ U5 (.int .i64 0) (zma _) v.mC g v.pC rfl rfl HC.o ?_;rw[HU.o,HV.o];simp only[if_true])
    go_round
    case rel=>exact⟨k+1,aC,mV,λj hj=>if e:j<k then Wp.o j e else(by rw[show j=k by omega];exact HV.o)⟩
    case measure=>simp[intOf];omega
  .have e:k=d.ln.length:=aC
   subst e;go_wp2;go_ret;exact⟨As (zH0 HN.o Wp.o).symm,rfl⟩
end Go.Proofs.YtfcjiloojkjaeaaGreatDoor
namespace Go.Proofs.YtfcjiloojkjaeaaGreatDoor
open Go.RowKit Go.Mt Go.Conc Go.Tt Go.Maps
section
variable {p:bS}{o:aZ}{ρ:cM->aF}{w w':aE}
variable {t:aM}
theorem zjF {m x:cM}{ok:Bool}{a b v:aF}(ho:o.op=.lookup t m x ok)(hm:ρ m=a)(hx:ρ x=b)(hr:(zK t a b ok).run p w=.ok v w):(aS ρ o).run p w=.ok (.value v) w:=by
 obtain⟨dst,yJ,type,pos,after,guard⟩:=o;simp only at ho;subst ho;simp[aS,hm,hx,hr]
theorem zHA {t2:aM}{a b:cM}{x y:Option Nat}{d:Nu}{e:aM}(ho:o.op=.binOp .eql t a b t2)(hu:p.underlying t=some (.chan d e))(ha:ρ a=.chan x)(hb:ρ b=.chan y):(aS ρ o).run p w=.ok (.value (.bool (x==y))) w:=by
 obtain⟨dst,yJ,type,pos,after,guard⟩:=o;simp only at ho;subst ho;simp[aS,eqGuard,binOp,ha,hb,zkZ hu]
theorem D9 {x:Int}(h1: -1000000000000<=x)(h2:x<=1000000000000):IntKind.i64.wrap x=x:=by
 rw[IntKind.wrap_i64];omega
theorem exec_mu {m x y:cM}{a b c:aF}(ho:o.op=.mapUpdate t m x y)(hm:ρ m=a)(hx:ρ x=b)(hy:ρ y=c)(hr:(Gi t a b c).run p w=.ok () w'):(aS ρ o).run p w=.ok .skip w':=by
 obtain⟨dst,yJ,type,pos,after,guard⟩:=o;simp only at ho;subst ho;simp[aS,hm,hx,hy,hr]
variable {kt:aM}
theorem exec_dl {m x:cM}{a b v:aF}(ho:o.op=.call ⟨.builtin .delete,#[m,x],#[t,kt]⟩)(hm:ρ m=a)(hx:ρ x=b)(hr:(J0 #[t,kt] o.type #[a,b]).run p w=.ok v w'):(aS ρ o).run p w=.ok (.value v) w':=by
 obtain⟨dst,yJ,type,pos,after,guard⟩:=o;simp only at ho hr;subst ho;simp[aS,resolve,invoke,builtin,hm,hx,hr]
theorem zec {m x:cM}{a b v:aF}(ho:o.op=.call ⟨.builtin .copy,#[m,x],#[t,kt]⟩)(hm:ρ m=a)(hx:ρ x=b)(hr:(C7 #[t,kt] o.type #[a,b]).run p w=.ok v w'):(aS ρ o).run p w=.ok (.value v) w':=by
 obtain⟨dst,yJ,type,pos,after,guard⟩:=o;simp only at ho hr;subst ho;simp[aS,resolve,invoke,builtin,hm,hx,hr]
end
def bodyRF:Go.Code:=(Tryz.f115.body).getD .skip
def rRF1:Go.Code:=match bodyRF with| .seq _ (.seq (a) _)=>a|_=>.skip
def zen:Array Oper:=match rRF1 with| .region _ ops _=>ops|_=>#[]
def zvB:zen.toList=[⟨some 5,.move (.tmp 0),63,"l6_office.go:126",#[],none⟩,⟨some 6,.nilCheck (.tmp 5),0,"l6_office.go:126",#[⟨0,.data⟩],none⟩,⟨some 7,.fieldAddr 72 (.tmp 6) 7,0,"l6_office.go:126",#[⟨1,.data⟩],none⟩,⟨some 8,.load 45 (.tmp 7),45,"l6_office.go:126",#[⟨2,.data⟩],none⟩,⟨some 9,.move (.tmp 0),63,"l6_office.go:126",#[],none⟩,⟨some 10,.nilCheck (.tmp 9),0,"l6_office.go:126",#[⟨4,.data⟩],none⟩,⟨some 11,.fieldAddr 72 (.tmp 10) 8,0,"l6_office.go:126",#[⟨5,.data⟩],none⟩,⟨some 12,.load 70 (.tmp 11),70,"l6_office.go:126",#[⟨6,.data⟩],none⟩,⟨some 13,.move (.tmp 1),3,"l6_office.go:126",#[],none⟩,⟨some 14,.lookup 70 (.tmp 12) (.tmp 13) false,3,"l6_office.go:126",#[⟨7,.data⟩,⟨8,.data⟩],none⟩,⟨some 15,.indexAddr 45 (.tmp 8) (.tmp 14),0,"l6_office.go:126",#[⟨3,.data⟩,⟨9,.data⟩],none⟩,⟨some 4,.assign (.tmp 15),152,"l6_office.go:126",#[⟨10,.data⟩,⟨0,.phase⟩,⟨1,.phase⟩,⟨2,.phase⟩,⟨3,.phase⟩,⟨4,.phase⟩,⟨5,.phase⟩,⟨6,.phase⟩,⟨7,.phase⟩,⟨8,.phase⟩,⟨9,.phase⟩,⟨10,.phase⟩],none⟩]:=rfl
def WRF1 (w:aE)(hb g n cR mM ix:Nat)(c:Int):Nat->aE
 |_=>w.drew
theorem zsL:zen.toList.map (·.dst)=[some 5,some 6,some 7,some 8,some 9,some 10,some 11,some 12,some 13,some 14,some 15,some 4]:=by rw[zvB];rfl
def lRF1 (w:aE)(hb g n cR mM ix:Nat)(c:Int):List Value:=[.pointer (some ⟨hb,0,none⟩),.pointer (some ⟨hb,0,none⟩),.pointer (some ⟨hb,9,none⟩),.slice (some ⟨g,0,none⟩) n cR,.pointer (some ⟨hb,0,none⟩),.pointer (some ⟨hb,0,none⟩),.pointer (some ⟨hb,10,none⟩),.map (some mM),.int .i64 (c),.int .i64 ((ix:Nat)),.pointer (some ⟨g,ix*7,none⟩),.pointer (some ⟨g,ix*7,none⟩)]
def fRF1 (w:aE)(hb g n cR mM ix:Nat)(c:Int)(i:Nat):Value:=(lRF1 w hb g n cR mM ix c).getD i aA
variable {Q:n5->tK->aE->Prop}{d:List Ew}{t0:Array aF}
theorem wp_RF1 (w:aE)(hb g n cR mM ix:Nat)(c:Int)(hz:t0.size=16)(uK:t0.getD 0 aA=.pointer (some ⟨hb,0,none⟩))(Ei:t0.getD 1 aA=.int .i64 (c))(h9:w.cell? ⟨hb,9,none⟩=some (.slice (some ⟨g,0,none⟩) n cR))(G7:w.cell? ⟨hb,10,none⟩=some (.map (some mM)))(wV:(zK 70 (.map (some mM)) (.int .i64 c) false).run aK w.drew=.ok (.int .i64 (ix:Int)) w.drew)(nY:ix<n)(h0:WRF1 w hb g n cR mM ix c 0=w.drew)(hk:Q .normal ⟨dE zen (fRF1 w hb g n cR mM ix c) t0,d⟩ (w.drew)):
 (Ep 1 zen true).wp aK Q ⟨t0,d⟩ w:=by
 refine H8 (ws:=[]) (Wd:=WRF1 w hb g n cR mM ix c) (vals:=fRF1 w hb g n cR mM ix c) vK.mixed aQ aH aQ h0 Hv (λV hU hV=>?_) hk;obtain⟨e5,e6,e7,e8,e9,zdy,zmZ,zgl,zjg,zqu,zyo,e4,-⟩:=Ib zsL hU;have e0:=(hV 0 aQ).trans uK;have e1:=(hV 1 aQ).trans Ei;have zui:=h9;have zFI:=G7;refine λTf hT=>Ht zvB ⟨bP.pv,bP.pv,bP.pv,bP.ld,bP.pv,bP.pv,bP.pv,bP.ld,bP.pv,bP.ld (hx:=zjF rfl (nN hT zgl) (nN hT zjg) wV),bP.any (λkk fS hm=>?_),bP.pv,trivial⟩
 .have i0:(0:Int)<=(ix:Int):=aC
  have i1:(ix:Int)<(n:Int):=by have:=nY;omega
  unfold aS;go_simp
def bodyCL:Go.Code:=(Tryz.f116.body).getD .skip
def rCL0:Go.Code:=match bodyCL with| .seq (a) _=>a|_=>.skip
def zft:Array Oper:=match rCL0 with| .region _ ops _=>ops|_=>#[]
def zw0:zft.toList=[⟨some 7,.move (.tmp 0),63,"l6_office.go:130",#[],none⟩,⟨some 8,.nilCheck (.tmp 7),0,"l6_office.go:130",#[⟨0,.data⟩],none⟩,⟨some 9,.fieldAddr 72 (.tmp 8) 2,0,"l6_office.go:130",#[⟨1,.data⟩],none⟩,⟨some 10,.load 66 (.tmp 9),66,"l6_office.go:130",#[⟨2,.data⟩],none⟩,⟨some 11,.move (.tmp 0),63,"l6_office.go:130",#[],none⟩,⟨some 12,.nilCheck (.tmp 11),0,"l6_office.go:130",#[⟨4,.data⟩],none⟩,⟨some 13,.fieldAddr 72 (.tmp 12) 3,0,"l6_office.go:130",#[⟨5,.data⟩],none⟩,⟨some 14,.load 67 (.tmp 13),67,"l6_office.go:130",#[⟨6,.data⟩],none⟩,⟨some 15,.move (.tmp 1),3,"l6_office.go:130",#[],none⟩,⟨some 16,.lookup 67 (.tmp 14) (.tmp 15) false,84,"l6_office.go:130",#[⟨7,.data⟩,⟨8,.data⟩],none⟩,⟨none,.call ⟨.builtin .delete,#[.tmp 10,.tmp 16],#[66,84]⟩,0,"l6_office.go:130",#[⟨3,.data⟩,⟨9,.data⟩],none⟩]:=rfl
def WCL0 (w:aE)(hb mC mO g:Nat)(o1:Obj)(c:Int):Nat->aE
 |0=>w.drew
 |_=>{w.drew with heap:=w.drew.heap.setIfInBounds mC o1}
theorem zrA:zft.toList.map (·.dst)=[some 7,some 8,some 9,some 10,some 11,some 12,some 13,some 14,some 15,some 16,none]:=by rw[zw0];rfl
def lCL0 (w:aE)(hb mC mO g:Nat)(o1:Obj)(c:Int):List Value:=[.pointer (some ⟨hb,0,none⟩),.pointer (some ⟨hb,0,none⟩),.pointer (some ⟨hb,4,none⟩),.map (some mC),.pointer (some ⟨hb,0,none⟩),.pointer (some ⟨hb,0,none⟩),.pointer (some ⟨hb,5,none⟩),.map (some mO),.int .i64 (c),.chan (some g),aA]
def fCL0 (w:aE)(hb mC mO g:Nat)(o1:Obj)(c:Int)(i:Nat):Value:=(lCL0 w hb mC mO g o1 c).getD i aA
theorem wp_CL0 (w:aE)(hb mC mO g:Nat)(o1:Obj)(c:Int)(hz:t0.size=36)(uK:t0.getD 0 aA=.pointer (some ⟨hb,0,none⟩))(Ei:t0.getD 1 aA=.int .i64 (c))(h4:w.cell? ⟨hb,4,none⟩=some (.map (some mC)))(h5:w.cell? ⟨hb,5,none⟩=some (.map (some mO)))(wV:(zK 67 (.map (some mO)) (.int .i64 c) false).run aK w.drew=.ok (.chan (some g)) w.drew)(uW:∀ty,(J0 #[66,84] ty #[.map (some mC),.chan (some g)]).run aK w.drew=.ok (.tuple #[]) {w.drew with heap:=w.drew.heap.setIfInBounds mC o1})(h0:WCL0 w hb mC mO g o1 c 0=w.drew)(hk:Q .normal ⟨dE zft (fCL0 w hb mC mO g o1 c) t0,d⟩ ({w.drew with heap:=w.drew.heap.setIfInBounds mC o1})):
 (Ep 0 zft true).wp aK Q ⟨t0,d⟩ w:=by
 refine H8 (ws:=[10]) (Wd:=WCL0 w hb mC mO g o1 c) (vals:=fCL0 w hb mC mO g o1 c) vK.mixed aQ aH aQ h0 Hv (λV hU hV=>?_) hk;obtain⟨e7,e8,e9,zdy,zmZ,zgl,zjg,zqu,zyo,zIi,-⟩:=Ib zrA hU;have e0:=(hV 0 aQ).trans uK;have e1:=(hV 1 aQ).trans Ei;have K8:=h4;have zzb:=h5;refine λTf hT=>Ht zw0 ⟨bP.pv,bP.pv,bP.pv,bP.ld,bP.pv,bP.pv,bP.pv,bP.ld,bP.pv,bP.ld (hx:=zjF rfl (nN hT zqu) (nN hT zyo) wV),.actn 0 rfl (eD rfl) rfl (.tuple #[]) ?_,trivial⟩
 .exact exec_dl rfl (nN hT zdy) (nN hT zIi) (uW _)
def zxS:Go.Code:=(Tryz.f110.body).getD .skip
def rCC3:Go.Code:=match zxS with| .seq _ (.seq _ (.seq _ (.seq (a) _)))=>a|_=>.skip
def zgJ:Array Oper:=match rCC3 with| .region _ ops _=>ops|_=>#[]
def zva:zgJ.toList=[⟨some 26,.move (.tmp 0),63,"l6_office.go:119",#[],none⟩,⟨some 27,.nilCheck (.tmp 26),0,"l6_office.go:119",#[⟨0,.data⟩],none⟩,⟨some 28,.fieldAddr 72 (.tmp 27) 8,0,"l6_office.go:119",#[⟨1,.data⟩],none⟩,⟨some 29,.load 70 (.tmp 28),70,"l6_office.go:119",#[⟨2,.data⟩],none⟩,⟨some 30,.move (.tmp 1),3,"l6_office.go:119",#[],none⟩,⟨some 31,.move (.tmp 0),63,"l6_office.go:119",#[],none⟩,⟨some 32,.nilCheck (.tmp 31),0,"l6_office.go:119",#[⟨5,.data⟩],none⟩,⟨some 33,.fieldAddr 72 (.tmp 32) 7,0,"l6_office.go:119",#[⟨6,.data⟩],none⟩,⟨some 34,.load 45 (.tmp 33),45,"l6_office.go:119",#[⟨7,.data⟩],none⟩,⟨some 35,.call ⟨.builtin .len,#[.tmp 34],#[45]⟩,3,"l6_office.go:119",#[⟨8,.data⟩],none⟩,⟨none,.mapUpdate 70 (.tmp 29) (.tmp 30) (.tmp 35),0,"l6_office.go:119",#[⟨3,.data⟩,⟨4,.data⟩,⟨9,.data⟩,⟨0,.phase⟩,⟨1,.phase⟩,⟨2,.phase⟩,⟨3,.phase⟩,⟨4,.phase⟩,⟨5,.phase⟩,⟨6,.phase⟩,⟨7,.phase⟩,⟨8,.phase⟩,⟨9,.phase⟩],none⟩]:=rfl
def WCC3 (w:aE)(hb mM n:Nat)(sR:aF)(A:Option bL)(cR:Nat)(o1:Obj)(c:Int):Nat->aE
 |0=>w.drew
 |_=>{w.drew with heap:=w.drew.heap.setIfInBounds mM o1}
theorem zq2:zgJ.toList.map (·.dst)=[some 26,some 27,some 28,some 29,some 30,some 31,some 32,some 33,some 34,some 35,none]:=by rw[zva];rfl
def lCC3 (w:aE)(hb mM n:Nat)(sR:aF)(A:Option bL)(cR:Nat)(o1:Obj)(c:Int):List Value:=[.pointer (some ⟨hb,0,none⟩),.pointer (some ⟨hb,0,none⟩),.pointer (some ⟨hb,10,none⟩),.map (some mM),.int .i64 (c),.pointer (some ⟨hb,0,none⟩),.pointer (some ⟨hb,0,none⟩),.pointer (some ⟨hb,9,none⟩),.slice A n cR,.int .i64 ((n:Nat)),aA]
def fCC3 (w:aE)(hb mM n:Nat)(sR:aF)(A:Option bL)(cR:Nat)(o1:Obj)(c:Int)(i:Nat):Value:=(lCC3 w hb mM n sR A cR o1 c).getD i aA
theorem wp_CC3 (w:aE)(hb mM n:Nat)(sR:aF)(A:Option bL)(cR:Nat)(o1:Obj)(c:Int)(hz:t0.size=53)(uK:t0.getD 0 aA=.pointer (some ⟨hb,0,none⟩))(Ei:t0.getD 1 aA=.int .i64 (c))(G7:w.cell? ⟨hb,10,none⟩=some (.map (some mM)))(h9:w.cell? ⟨hb,9,none⟩=some (.slice A n cR))(K7:(Gi 70 (.map (some mM)) (.int .i64 c) (.int .i64 (n:Int))).run aK w.drew=.ok () {w.drew with heap:=w.drew.heap.setIfInBounds mM o1})(h0:WCC3 w hb mM n sR A cR o1 c 0=w.drew)(hk:Q .normal ⟨dE zgJ (fCC3 w hb mM n sR A cR o1 c) t0,d⟩ ({w.drew with heap:=w.drew.heap.setIfInBounds mM o1})):
 (Ep 3 zgJ true).wp aK Q ⟨t0,d⟩ w:=by
 refine H8 (ws:=[10]) (Wd:=WCC3 w hb mM n sR A cR o1 c) (vals:=fCC3 w hb mM n sR A cR o1 c) vK.mixed aQ aH aQ h0 Hv (λV hU hV=>?_) hk;obtain⟨zK3,zJW,zKk,zy7,zz1,zL1,zKx,zKF,zK9,zIF,-⟩:=Ib zq2 hU;have e0:=(hV 0 aQ).trans uK;have e1:=(hV 1 aQ).trans Ei;have zFI:=G7;have zui:=h9;refine λTf hT=>Ht zva ⟨bP.pv,bP.pv,bP.pv,bP.ld,bP.pv,bP.pv,bP.pv,bP.pv,bP.ld,bP.pv,.skp 0 rfl (eD rfl) rfl ?_,trivial⟩
 .exact exec_mu rfl (nN hT zy7) (nN hT zz1) (nN hT zIF) K7
def rCC4:Go.Code:=match zxS with| .seq _ (.seq _ (.seq _ (.seq _ (a))))=>a|_=>.skip
def zhg:Array Oper:=match rCC4 with| .region _ ops _=>ops|_=>#[]
def zqn:zhg.toList=[⟨some 36,.move (.tmp 0),63,"l6_office.go:120",#[],none⟩,⟨some 37,.move (.tmp 0),63,"l6_office.go:120",#[],none⟩,⟨some 38,.nilCheck (.tmp 37),0,"l6_office.go:120",#[⟨1,.data⟩],none⟩,⟨some 39,.fieldAddr 72 (.tmp 38) 7,0,"l6_office.go:120",#[⟨2,.data⟩],none⟩,⟨some 40,.load 45 (.tmp 39),45,"l6_office.go:120",#[⟨3,.data⟩],none⟩,⟨some 41,.move (.tmp 1),3,"l6_office.go:120",#[],none⟩,⟨some 42,.move (.tmp 2),3,"l6_office.go:120",#[],none⟩,⟨some 43,.binOp .add 3 (.tmp 42) (.const (.int .i64 1)) 3,3,"l6_office.go:120",#[⟨6,.data⟩],none⟩,⟨some 44,.move (.tmp 0),63,"l6_office.go:120",#[],none⟩,⟨some 45,.nilCheck (.tmp 44),0,"l6_office.go:120",#[⟨8,.data⟩],none⟩,⟨some 46,.fieldAddr 72 (.tmp 45) 9,0,"l6_office.go:120",#[⟨9,.data⟩],none⟩,⟨some 47,.load 3 (.tmp 46),3,"l6_office.go:120",#[⟨10,.data⟩],none⟩,⟨some 48,.build 50 #[(0,.tmp 41),(1,.tmp 43),(3,.tmp 47),(4,.const (.int .i64 (-1))),(5,.const (.int .i64 (-1))),(6,.const (.string {data:=#[111,112,101,110]}))],50,"l6_office.go:120",#[⟨5,.data⟩,⟨7,.data⟩,⟨11,.data⟩],none⟩,⟨some 49,.buildSlice 45 1 #[(0,.tmp 48)],45,"l6_office.go:120",#[⟨12,.data⟩],none⟩,⟨some 50,.call ⟨.builtin .append,#[.tmp 40,.tmp 49],#[45,45]⟩,45,"l6_office.go:120",#[⟨4,.data⟩,⟨13,.data⟩],none⟩,⟨some 51,.nilCheck (.tmp 36),0,"l6_office.go:120",#[⟨0,.data⟩,⟨0,.phase⟩,⟨1,.phase⟩,⟨2,.phase⟩,⟨3,.phase⟩,⟨4,.phase⟩,⟨5,.phase⟩,⟨6,.phase⟩,⟨7,.phase⟩,⟨8,.phase⟩,⟨9,.phase⟩,⟨10,.phase⟩,⟨11,.phase⟩,⟨12,.phase⟩,⟨13,.phase⟩,⟨14,.phase⟩],none⟩,⟨some 52,.fieldAddr 72 (.tmp 51) 7,0,"l6_office.go:120",#[⟨15,.data⟩,⟨0,.phase⟩,⟨1,.phase⟩,⟨2,.phase⟩,⟨3,.phase⟩,⟨4,.phase⟩,⟨5,.phase⟩,⟨6,.phase⟩,⟨7,.phase⟩,⟨8,.phase⟩,⟨9,.phase⟩,⟨10,.phase⟩,⟨11,.phase⟩,⟨12,.phase⟩,⟨13,.phase⟩,⟨14,.phase⟩],none⟩,⟨none,.store 45 (.tmp 52) (.tmp 50),0,"l6_office.go:120",#[⟨16,.data⟩,⟨14,.data⟩,⟨14,.chain⟩,⟨0,.phase⟩,⟨1,.phase⟩,⟨2,.phase⟩,⟨3,.phase⟩,⟨4,.phase⟩,⟨5,.phase⟩,⟨6,.phase⟩,⟨7,.phase⟩,⟨8,.phase⟩,⟨9,.phase⟩,⟨10,.phase⟩,⟨11,.phase⟩,⟨12,.phase⟩,⟨13,.phase⟩,⟨14,.phase⟩],none⟩]:=rfl
def WCC4 (w w3:aE)(hb g1 n1 c1:Nat)(sR:aF)(c ix clk:Int):Nat->aE
 |0=>w.drew
 |1=>(w.alloc (.cells #[.int .i64 c,.int .i64 (ix+1),.int .i64 0,.int .i64 clk,.int .i64 (-1),.int .i64 (-1),.string eU] 50)).drew
 |2=>w3
 |_=>w3.setCell ⟨hb,9,none⟩ (.slice (some ⟨g1,0,none⟩) n1 c1)
theorem zop:zhg.toList.map (·.dst)=[some 36,some 37,some 38,some 39,some 40,some 41,some 42,some 43,some 44,some 45,some 46,some 47,some 48,some 49,some 50,some 51,some 52,none]:=by rw[zqn];rfl
def lCC4 (w w3:aE)(hb g1 n1 c1:Nat)(sR:aF)(c ix clk:Int):List Value:=[.pointer (some ⟨hb,0,none⟩),.pointer (some ⟨hb,0,none⟩),.pointer (some ⟨hb,0,none⟩),.pointer (some ⟨hb,9,none⟩),sR,.int .i64 (c),.int .i64 (ix),.int .i64 (ix+1),.pointer (some ⟨hb,0,none⟩),.pointer (some ⟨hb,0,none⟩),.pointer (some ⟨hb,11,none⟩),.int .i64 (clk),.agg #[.int .i64 c,.int .i64 (ix+1),.int .i64 0,.int .i64 clk,.int .i64 (-1),.int .i64 (-1),.string eU],.slice (some ⟨w.heap.size,0,none⟩) 1 1,.slice (some ⟨g1,0,none⟩) n1 c1,.pointer (some ⟨hb,0,none⟩),.pointer (some ⟨hb,9,none⟩),aA]
def fCC4 (w w3:aE)(hb g1 n1 c1:Nat)(sR:aF)(c ix clk:Int)(i:Nat):Value:=(lCC4 w w3 hb g1 n1 c1 sR c ix clk).getD i aA
theorem wp_CC4 (w w3:aE)(hb g1 n1 c1:Nat)(sR:aF)(c ix clk:Int)(hz:t0.size=53)(uK:t0.getD 0 aA=.pointer (some ⟨hb,0,none⟩))(Ei:t0.getD 1 aA=.int .i64 (c))(U7:t0.getD 2 aA=.int .i64 (ix))(h9:w.cell? ⟨hb,9,none⟩=some sR)(Q5:w.cell? ⟨hb,11,none⟩=some (.int .i64 clk))(zqH:0<=ix/\ix<=1000)(fR:(xG #[45,45] 45 #[sR,.slice (some ⟨w.heap.size,0,none⟩) 1 1]).run aK ((w.alloc (.cells #[.int .i64 c,.int .i64 (ix+1),.int .i64 0,.int .i64 clk,.int .i64 (-1),.int .i64 (-1),.string eU] 50)).drew)=.ok (.slice (some ⟨g1,0,none⟩) n1 c1) w3)(aY:w3.cell? ⟨hb,9,none⟩=some sR)(mY:w3.frozen? ⟨hb,9,none⟩=false)(h0:WCC4 w w3 hb g1 n1 c1 sR c ix clk 0=w.drew)(hk:Q .normal ⟨dE zhg (fCC4 w w3 hb g1 n1 c1 sR c ix clk) t0,d⟩ (w3.setCell ⟨hb,9,none⟩ (.slice (some ⟨g1,0,none⟩) n1 c1))):
 (Ep 4 zhg true).wp aK Q ⟨t0,d⟩ w:=by
 refine H8 (ws:=[13,14,17]) (Wd:=WCC4 w w3 hb g1 n1 c1 sR c ix clk) (vals:=fCC4 w w3 hb g1 n1 c1 sR c ix clk) vK.mixed aQ aH aQ h0 Hv (λV hU hV=>?_) hk;obtain⟨zBp,zwq,zxE,zhz,zlJ,zxs,zs7,zhQ,zp3,zkY,X8,zbQ,znE,Xm,zfP,Vn,Vt,-⟩:=Ib zop hU;have e0:=(hV 0 aQ).trans uK;have e1:=(hV 1 aQ).trans Ei;have e2:=(hV 2 aQ).trans U7;have zui:=h9;have zLP:=Q5;refine λTf hT=>Ht zqn ⟨bP.pv,bP.pv,bP.pv,bP.pv,bP.any (λkk fS hm=>?_),bP.pv,bP.pv,bP.any (λkk fS hm=>?_),bP.pv,bP.pv,bP.pv,bP.ld,bP.any (λkk fS hm=>?_),bP.act (v:=V 49) 0 rfl (eD rfl) ?_,bP.act (v:=V 50) 1 rfl (eD rfl) ?_,bP.pv,bP.pv,.skp 2 rfl (eD rfl) rfl ?_,trivial⟩
 .rcases kk with _|_|_|_|kk
  .show(aS _ _).run _ (w.drew)=vZ _ (w.drew);have hh:=h9;unfold aS;go_simp
  .show(aS _ _).run _ ((w.alloc (.cells #[.int .i64 c,.int .i64 (ix+1),.int .i64 0,.int .i64 clk,.int .i64 (-1),.int .i64 (-1),.string eU] 50)).drew)=vZ _ ((w.alloc (.cells #[.int .i64 c,.int .i64 (ix+1),.int .i64 0,.int .i64 clk,.int .i64 (-1),.int .i64 (-1),.string eU] 50)).drew);have hh:=Ae h9 (.cells #[.int .i64 c,.int .i64 (ix+1),.int .i64 0,.int .i64 clk,.int .i64 (-1),.int .i64 (-1),.string eU] 50);unfold aS;go_simp
  .exact absurd hm Gv
  .exact absurd hm Gv
  .simp at fS
 .have i0:=zqH.1
  have i1:=zqH.2;unfold aS;go_simp;exact D9 aC aC
 .unfold aS;go_simp;rfl
 .rw[Xm];show(aS _ _).run _ (w.drew)=vZ _ ((w.alloc (.cells #[.int .i64 c,.int .i64 (ix+1),.int .i64 0,.int .i64 clk,.int .i64 (-1),.int .i64 (-1),.string eU] 50)).drew);unfold aS;go_simp
 .rw[zfP];exact zbB rfl (nN hT zlJ) (nN hT Xm) fR
 .have hs:=aY;have hf:=mY;show(aS _ _).run _ (w3)=vZ _ (w3.setCell ⟨hb,9,none⟩ (.slice (some ⟨g1,0,none⟩) n1 c1));unfold aS;go_simp
def bodyWA:Go.Code:=(Tryz.f105.body).getD .skip
def rWA10:Go.Code:=match bodyWA with| .seq _ (.seq _ (.seq _ (.seq _ (.seq (.seq _ (.block _ (.loop (.seq _ (.seq _ (.seq (.block _ (.seq _ (.seq _ (.seq _ (.seq (a) _))))) _)))))) _))))=>a|_=>.skip
def zdm:Array Oper:=match rWA10 with| .region _ ops _=>ops|_=>#[]
def zpb:zdm.toList=[⟨some 58,.move (.tmp 0),63,"l6_office.go:227",#[],none⟩,⟨some 59,.move (.tmp 0),63,"l6_office.go:227",#[],none⟩,⟨some 60,.nilCheck (.tmp 59),0,"l6_office.go:227",#[⟨1,.data⟩],none⟩,⟨some 61,.fieldAddr 72 (.tmp 60) 6,0,"l6_office.go:227",#[⟨2,.data⟩],none⟩,⟨some 62,.load 38 (.tmp 61),38,"l6_office.go:227",#[⟨3,.data⟩],none⟩,⟨some 63,.fieldAddr 149 (.tmp 8) 0,0,"l6_office.go:227",#[],none⟩,⟨some 64,.load 3 (.tmp 63),3,"l6_office.go:227",#[⟨5,.data⟩],none⟩,⟨some 65,.buildSlice 38 1 #[(0,.tmp 64)],38,"l6_office.go:227",#[⟨6,.data⟩],none⟩,⟨some 66,.call ⟨.builtin .append,#[.tmp 62,.tmp 65],#[38,38]⟩,38,"l6_office.go:227",#[⟨4,.data⟩,⟨7,.data⟩],none⟩,⟨some 67,.nilCheck (.tmp 58),0,"l6_office.go:227",#[⟨0,.data⟩,⟨0,.phase⟩,⟨1,.phase⟩,⟨2,.phase⟩,⟨3,.phase⟩,⟨4,.phase⟩,⟨5,.phase⟩,⟨6,.phase⟩,⟨7,.phase⟩,⟨8,.phase⟩],none⟩,⟨some 68,.fieldAddr 72 (.tmp 67) 6,0,"l6_office.go:227",#[⟨9,.data⟩,⟨0,.phase⟩,⟨1,.phase⟩,⟨2,.phase⟩,⟨3,.phase⟩,⟨4,.phase⟩,⟨5,.phase⟩,⟨6,.phase⟩,⟨7,.phase⟩,⟨8,.phase⟩],none⟩,⟨none,.store 38 (.tmp 68) (.tmp 66),0,"l6_office.go:227",#[⟨10,.data⟩,⟨8,.data⟩,⟨8,.chain⟩,⟨0,.phase⟩,⟨1,.phase⟩,⟨2,.phase⟩,⟨3,.phase⟩,⟨4,.phase⟩,⟨5,.phase⟩,⟨6,.phase⟩,⟨7,.phase⟩,⟨8,.phase⟩],none⟩]:=rfl
def WWA10 (w w3:aE)(hb gx g1 n1 c1:Nat)(sB:aF)(c:Int):Nat->aE
 |0=>w.drew
 |1=>(w.alloc (.cells #[.int .i64 c] 3)).drew
 |2=>w3
 |_=>w3.setCell ⟨hb,8,none⟩ (.slice (some ⟨g1,0,none⟩) n1 c1)
theorem zoM:zdm.toList.map (·.dst)=[some 58,some 59,some 60,some 61,some 62,some 63,some 64,some 65,some 66,some 67,some 68,none]:=by rw[zpb];rfl
def lWA10 (w w3:aE)(hb gx g1 n1 c1:Nat)(sB:aF)(c:Int):List Value:=[.pointer (some ⟨hb,0,none⟩),.pointer (some ⟨hb,0,none⟩),.pointer (some ⟨hb,0,none⟩),.pointer (some ⟨hb,8,none⟩),sB,.pointer (some ⟨gx,0,none⟩),.int .i64 (c),.slice (some ⟨w.heap.size,0,none⟩) 1 1,.slice (some ⟨g1,0,none⟩) n1 c1,.pointer (some ⟨hb,0,none⟩),.pointer (some ⟨hb,8,none⟩),aA]
def zj5 (w w3:aE)(hb gx g1 n1 c1:Nat)(sB:aF)(c:Int)(i:Nat):Value:=(lWA10 w w3 hb gx g1 n1 c1 sB c).getD i aA
theorem wp_WA10 (w w3:aE)(hb gx g1 n1 c1:Nat)(sB:aF)(c:Int)(hz:t0.size=81)(uK:t0.getD 0 aA=.pointer (some ⟨hb,0,none⟩))(zkg:t0.getD 8 aA=.pointer (some ⟨gx,0,none⟩))(h8:w.cell? ⟨hb,8,none⟩=some sB)(hx:w.cell? ⟨gx,0,none⟩=some (.int .i64 c))(fR:(xG #[38,38] 38 #[sB,.slice (some ⟨w.heap.size,0,none⟩) 1 1]).run aK ((w.alloc (.cells #[.int .i64 c] 3)).drew)=.ok (.slice (some ⟨g1,0,none⟩) n1 c1) w3)(aY:w3.cell? ⟨hb,8,none⟩=some sB)(mY:w3.frozen? ⟨hb,8,none⟩=false)(h0:WWA10 w w3 hb gx g1 n1 c1 sB c 0=w.drew)(hk:Q .normal ⟨dE zdm (zj5 w w3 hb gx g1 n1 c1 sB c) t0,d⟩ (w3.setCell ⟨hb,8,none⟩ (.slice (some ⟨g1,0,none⟩) n1 c1))):
 (Ep 10 zdm true).wp aK Q ⟨t0,d⟩ w:=by
 refine H8 (ws:=[7,8,11]) (Wd:=WWA10 w w3 hb gx g1 n1 c1 sB c) (vals:=zj5 w w3 hb gx g1 n1 c1 sB c) vK.mixed aQ aH aQ h0 Hv (λV hU hV=>?_) hk;obtain⟨zw3,zEk,zKO,zL4,zzM,zKo,zLU,zvj,zEa,zJV,zLF,-⟩:=Ib zoM hU;have e0:=(hV 0 aQ).trans uK;have e8:=(hV 8 aQ).trans zkg;have zKd:=h8;have lK:=hx;refine λTf hT=>Ht zpb ⟨bP.pv,bP.pv,bP.pv,bP.pv,bP.any (λkk fS hm=>?_),bP.pv,bP.ld,bP.act (v:=V 65) 0 rfl (eD rfl) ?_,bP.act (v:=V 66) 1 rfl (eD rfl) ?_,bP.pv,bP.pv,.skp 2 rfl (eD rfl) rfl ?_,trivial⟩
 .rcases kk with _|_|_|_|kk
  .show(aS _ _).run _ (w.drew)=vZ _ (w.drew);have hh:=h8;unfold aS;go_simp
  .show(aS _ _).run _ ((w.alloc (.cells #[.int .i64 c] 3)).drew)=vZ _ ((w.alloc (.cells #[.int .i64 c] 3)).drew);have hh:=Ae h8 (.cells #[.int .i64 c] 3);unfold aS;go_simp
  .exact absurd hm Gv
  .exact absurd hm Gv
  .simp at fS
 .rw[zvj];show(aS _ _).run _ (w.drew)=vZ _ ((w.alloc (.cells #[.int .i64 c] 3)).drew);unfold aS;go_simp
 .rw[zEa];exact zbB rfl (nN hT zzM) (nN hT zvj) fR
 .have hs:=aY;have hf:=mY;show(aS _ _).run _ (w3)=vZ _ (w3.setCell ⟨hb,8,none⟩ (.slice (some ⟨g1,0,none⟩) n1 c1));unfold aS;go_simp
def bodyHG:Go.Code:=(Tryz.f102.body).getD .skip
def rHG1:Go.Code:=match bodyHG with| .seq _ (.seq (.seq (a) _) _)=>a|_=>.skip
def zdE:Array Oper:=match rHG1 with| .region _ ops _=>ops|_=>#[]
def zym:zdE.toList=[⟨some 7,.move (.tmp 0),63,"l6_office.go:198",#[],none⟩,⟨some 8,.nilCheck (.tmp 7),0,"l6_office.go:198",#[⟨0,.data⟩],none⟩,⟨some 9,.fieldAddr 72 (.tmp 8) 3,0,"l6_office.go:198",#[⟨1,.data⟩],none⟩,⟨some 10,.load 67 (.tmp 9),67,"l6_office.go:198",#[⟨2,.data⟩],none⟩,⟨some 11,.load 3 (.tmp 3),3,"l6_office.go:198",#[],none⟩,⟨some 12,.lookup 67 (.tmp 10) (.tmp 11) false,84,"l6_office.go:198",#[⟨3,.data⟩,⟨4,.data⟩],none⟩,⟨some 13,.binOp .eql 84 (.tmp 12) (.const (.chan none)) 84,4,"l6_office.go:198",#[⟨5,.data⟩],none⟩]:=rfl
def WHG1 (w:aE)(hb gx mO:Nat)(c:Int)(q:Option Nat):Nat->aE
 |_=>w.drew
theorem zmA:zdE.toList.map (·.dst)=[some 7,some 8,some 9,some 10,some 11,some 12,some 13]:=by rw[zym];rfl
def lHG1 (w:aE)(hb gx mO:Nat)(c:Int)(q:Option Nat):List Value:=[.pointer (some ⟨hb,0,none⟩),.pointer (some ⟨hb,0,none⟩),.pointer (some ⟨hb,5,none⟩),.map (some mO),.int .i64 (c),.chan q,.bool (q==none)]
def fHG1 (w:aE)(hb gx mO:Nat)(c:Int)(q:Option Nat)(i:Nat):Value:=(lHG1 w hb gx mO c q).getD i aA
theorem zqP (w:aE)(hb gx mO:Nat)(c:Int)(q:Option Nat)(hz:t0.size=59)(uK:t0.getD 0 aA=.pointer (some ⟨hb,0,none⟩))(zhN:t0.getD 3 aA=.pointer (some ⟨gx,0,none⟩))(h5:w.cell? ⟨hb,5,none⟩=some (.map (some mO)))(hx:w.cell? ⟨gx,0,none⟩=some (.int .i64 c))(wV:(zK 67 (.map (some mO)) (.int .i64 c) false).run aK w.drew=.ok (.chan q) w.drew)(h0:WHG1 w hb gx mO c q 0=w.drew)(hk:Q .normal ⟨dE zdE (fHG1 w hb gx mO c q) t0,d⟩ (w.drew)):
 (Ep 1 zdE true).wp aK Q ⟨t0,d⟩ w:=by
 refine H8 (ws:=[]) (Wd:=WHG1 w hb gx mO c q) (vals:=fHG1 w hb gx mO c q) vK.mixed aQ aH aQ h0 Hv (λV hU hV=>?_) hk;obtain⟨e7,e8,e9,zdy,zmZ,zgl,zjg,-⟩:=Ib zmA hU;have e0:=(hV 0 aQ).trans uK;have e3:=(hV 3 aQ).trans zhN;have zzb:=h5;have lK:=hx;refine λTf hT=>Ht zym ⟨bP.pv,bP.pv,bP.pv,bP.ld,bP.ld,bP.ld (hx:=zjF rfl (nN hT zdy) (nN hT zmZ) wV),bP.any (λkk fS hm=>?_),trivial⟩
 .exact zHA rfl U5 (nN hT zgl) rfl
end Go.Proofs.YtfcjiloojkjaeaaGreatDoor
namespace Go.Proofs.YtfcjiloojkjaeaaGreatDoor
open Go.RowKit
def Bj (v v':fJ):Prop:=v'.sL=v.sL/\v'.sQ=v.sQ/\v'.sW=v.sW/\v'.sB=v.sB/\v'.sA=v.sA/\v'.sT=v.sT
def Bj.rf (v:fJ):Bj v v:=⟨rfl,rfl,rfl,rfl,rfl,rfl⟩
def zvy:aK.underlying 70=some (.map 3 3):=aQ
def U2:aK.underlying 67=some (.map 3 84):=aQ
def zv8:aK.underlying 66=some (.map 84 3):=aQ
variable {w:aE}{lo hb i:Nat}{v:fJ}{d:nM}{x:bR}
theorem zl0 (h:bE w lo hb v d)(hx:d.r.recs[i]? =some x):∃g c,v.sR=.slice (some ⟨g,0,none⟩) d.r.recs.length c:=by
 have hi:=(kD.1 hx).1;rcases h.R.2 with⟨_,h0⟩|⟨g,cap,cur,e,_⟩
 .omega
 .exact⟨g,cap,e⟩
variable {c:Int}{g cR:Nat}
theorem zd2 (h:bE w lo hb v d)(hR:v.sR=.slice (some ⟨g,0,none⟩) d.r.recs.length cR)(hx:d.r.recs[i]? =some x)(hc:lA c v.pM=some (.int .i64 (i:Int))):
 fN aK 115 #[.pointer (some ⟨hb,0,none⟩),.int .i64 c] w λe w'=>e=.returned (.pointer (some ⟨g,i*7,none⟩))/\w'=w.drew:=by
 have hi:=(kD.1 hx).1;have k0:=aJ h.blk 9;have k1:w.cell? ⟨hb,9,none⟩=some (.slice (some ⟨g,0,none⟩) d.r.recs.length cR):=by rw[k0,<-hR];rfl
 have k2:=aJ h.blk 10;have hl:(zK 70 (.map (some v.mM)) (.int .i64 c) false).run aK w.drew=.ok (.int .i64 (i:Int)) w.drew:=by
  have:=zcO zvy Ko (zma w.drew) (h.drew.M) (c:=c) false;rw[hc] at this;exact this
 have HL:=aD hl
 go_enter Tryz.func115,Tryz.ntmps115
 go_wp2_with fail
 refine wp_RF1 w hb g d.r.recs.length cR v.mM i c rfl rfl rfl k1 k2 HL.o hi rfl ?_;rw[Go.Mt.Al,zsL];simp only[Go.Mt.wL,dU,dV,fRF1,lRF1,Dn,C9]
 go_wp2_with fail
 go_ret;exact⟨rfl,rfl⟩
theorem zHT (rs:List bR)(x:bR):recs (rs++[x])=recs rs++x.cells:=by simp[recs]
def zyQ:(aK.info? 50).map (λi=>(i.zero,i.size,i.bytes))=some (some (.agg #[.int .i64 0,.int .i64 0,.int .i64 0,.int .i64 0,.int .i64 0,.int .i64 0,.string ⟨#[]⟩]),7,64):=aQ
variable {xs:List aF}{cs:Array aF}
theorem Np {lo E n m sz bytes t ty:Nat}{v:aF}{news:List aF}{z:aF}(zEQ:(aK.info? E).map (λi=>(i.zero,i.size,i.bytes))=some (some z,sz,bytes))(hu:aK.underlying t=some (.slice E))(hzs:z.cells.size=sz)(cG:0<sz)
 (h:w.ownsRow lo E sz v n xs)   (hg:w.heap[g]? =some (.cells cs E)) (fV:cs.toList=news) (hl:news.length=m*sz) (hm:0<m) (h1:∀u∈news,u.oneCell'=true) (hn:n+m<=1000000) (hb:bytes<=1000) (dW:lo<=w.heap.size):
 ∃g1 c1 w',(xG #[t,t] ty #[v,.slice (some ⟨g,0,none⟩) m m]).run aK w=.ok (.slice (some ⟨g1,0,none⟩) (n+m) c1) w'/\w'.ownsRow lo E sz (.slice (some ⟨g1,0,none⟩) (n+m) c1) (n+m) (xs++news)/\w.grownBy w' v.ownBlock/\
  ((Sd (some ⟨g1,0,none⟩) (n+m) c1).ownBlock=v.ownBlock\/∀b,(Sd (some ⟨g1,0,none⟩) (n+m) c1).ownBlock=some b->w.heap.size<=b):=by
 obtain⟨i0,hi,gX,eB,jZ⟩:=y8 zEQ;have zKr:=Nat.mul_le_mul hn hb;obtain⟨v',w',hr,h2,h3,h4,h5⟩:=run_append_own_at (P:=aK) w lo t ty E i0 z sz bytes hu hi gX eB jZ hzs cG v n xs h ⟨g,0,none⟩ m m news hl (Fo (cs:=cs) hg|>λf=>by rw[<-fV];exact f) h1 X2 aC dW;obtain⟨g1,c1,rfl⟩:=znq h2 (λe=>by have:=(h4.1 e).2;omega);refine⟨g1,c1,w',hr,h2,h3,?_⟩;rcases h5 with h5|h5
 .exact .inl h5
 .refine .inr λb hb=>?_
  rw[h5] at hb;injection hb with hb;omega
theorem zoA (h:bE w lo hb v d)(dW:lo<=w.heap.size)(hg:d.ln[i]? =some g)(hi:i<=100)(hn:d.r.recs.length<=1000)(c:Int):
 fN aK 110 #[.pointer (some ⟨hb,0,none⟩),.int .i64 c,.int .i64 (i:Int)] w λe w'=>e=.returned (.tuple #[])/\∃v',bE w' lo hb v' {d with r:={d.r with recs:=d.r.recs++[⟨c,(i:Int)+1,0,d.r.clk,-1,-1,eU⟩]}}/\bM hb v w v' w'/\
  v'.pC=uM g (.int .i64 c) v.pC/\v'.pO=qG c (.chan (some g)) v.pO/\v'.pM=qG c (.int .i64 (d.r.recs.length:Int)) v.pM/\Bj v v':=by
 obtain⟨A,cL,hA,hs⟩:=Gh h.L aH;have Bw:=(kD.1 hg).1;obtain⟨b,off,g',rfl,wY,hv⟩:=zho hs Bw;rw[hg] at wY;obtain rfl:=cE wY;have Wu:=aJ h.blk 3;have k3:w.cell? ⟨hb,3,none⟩=some (.slice (some ⟨b,off,none⟩) d.ln.length cL):=by rw[Wu,<-hA];rfl
 have k4:=aJ h.blk 4;have i0:(0:Int)<=(i:Int):=aC;have i1:(i:Int)<(d.ln.length:Int):=aC;have HH:=aD h;have HC:=aD h.C;clear hA hs hg Wu h
 go_enter Tryz.func110,Tryz.ntmps110
 go_upto_region 1 with fail
 clear k3 hv
 go_upto_region 2 with(at_mapUpdate;refine zBG _ rfl (.tmp 17) (.tmp 18) (.tmp 19) 66 rfl 3 zv8 U5 v.mC g (.int .i64 c) v.pC rfl rfl rfl HC.o ?_;intro w2 o2 fZ zc8;have Ro:=aD fZ;have S6:=aD zc8;clear fZ zc8)
 have nK:=S6.o;rw[Ro.o] at nK;obtain⟨a2,t2⟩:=HH.o.mapC nK;rw[<-Ro.o] at a2 t2;obtain⟨v2,xJ⟩:=aU ({v with pC:=uM g (.int .i64 c) v.pC}:fJ);rw[<-xJ] at a2 t2;have e2:v2.pC=uM g (.int .i64 c) v.pC/\v2.pO=v.pO/\v2.pM=v.pM/\Bj v v2:=by rw[xJ];exact⟨rfl,rfl,rfl,Bj.rf v⟩
 have zf7:=eG dW t2.size;clear xJ nK S6 Ro HC k4;have k5:=aJ a2.blk 5;have HO:=aD a2.O;have A2:=aD a2;have T2:=aD t2;have E2:=aD e2;clear a2 t2 e2
 go_upto_region 3 with(at_mapUpdate;refine zIU _ rfl (.tmp 23) (.tmp 24) (.tmp 25) 67 rfl 84 U2 Ko v2.mO c (.chan (some g)) v2.pO rfl rfl rfl HO.o ?_;intro w3 o3 iT zwo;have Q2:=aD iT;have zwS:=aD zwo;clear iT zwo)
 have zmI:=zwS.o;rw[Q2.o] at zmI;obtain⟨a3,t3⟩:=A2.o.mapO zmI;rw[<-Q2.o] at a3 t3;obtain⟨v3,Jz⟩:=aU ({v2 with pO:=qG c (.chan (some g)) v2.pO}:fJ);rw[<-Jz] at a3 t3;have e3:v3.pC=uM g (.int .i64 c) v.pC/\v3.pO=qG c (.chan (some g)) v.pO/\v3.pM=v.pM/\Bj v v3:=by rw[Jz];exact⟨E2.o.1,by show qG _ _ v2.pO=_;rw[E2.o.2.1],E2.o.2.2⟩
 have ztA:=eG zf7 t3.size;have zsv:=T2.o.trans t3;clear Jz zmI zwS Q2 HO k5 A2 T2 E2 t3;obtain⟨AR,cR,zpp,_⟩:=Gh a3.R aH;have zt8:=aJ a3.blk 9;have k9:w3.cell? ⟨hb,9,none⟩=some (.slice AR d.r.recs.length cR):=by rw[zt8,<-zpp];rfl
 have zph:=aJ a3.blk 10;obtain⟨es,cl,K7,r9⟩:=zrS zvy Ko a3.drew.M (c:=c) (.int .i64 (d.r.recs.length:Int));obtain⟨a4,t4⟩:=a3.drew.mapM r9;have A4:=aD a4;have T4:=aD (zsv.trans ((bM.refl (v:=v3) (w:=w3)).trans (⟨t4.size,t4.block,t4.moved⟩:bM hb v3 w3 _ _)));have MU:=aD K7;have E3:=aD e3;clear zpp zt8 r9 a3 a4 t4 K7 zsv e3;refine wp_CC3 w3 hb v3.mM d.r.recs.length v3.sR AR cR (.map es cl) c rfl rfl rfl zph k9 MU.o rfl ?_;rw[Go.Mt.Al,zq2];simp only[Go.Mt.wL,dU,dV,fCC3,lCC3,Dn,C9];obtain⟨w4,lM⟩:=aU ({w3.drew with heap:=w3.drew.heap.setIfInBounds v3.mM (.map es cl)}:aE);rw[<-lM] at A4 T4⊢;have zLt:=eG dW T4.o.size;clear lM MU k9 zph;obtain⟨v4,Kt⟩:=aU ({v3 with pM:=qG c (.int .i64 (d.r.recs.length:Int)) v3.pM}:fJ);rw[<-Kt] at A4 T4;have E4:=aD (show v4.pC=uM g (.int .i64 c) v.pC/\v4.pO=qG c (.chan (some g)) v.pO/\v4.pM=qG c (.int .i64 (d.r.recs.length:Int)) v.pM/\Bj v v4 by rw[Kt];exact⟨E3.o.1,E3.o.2.1,by show qG _ _ v3.pM=_;rw[E3.o.2.2.1],E3.o.2.2.2⟩);clear Kt E3;obtain⟨OB,zbg⟩:=aU (.cells #[.int .i64 c,.int .i64 ((i:Int)+1),.int .i64 0,.int .i64 d.r.clk,.int .i64 (-1),.int .i64 (-1),.string eU] 50:Obj);have a5:=(A4.o.alloc OB).drew;obtain⟨g1,c1,w5,fR,cP,nF,fB⟩:=Np (t:=45) (ty:=45) zyQ Tryz.underlying45 rfl aH a5.R (g:=w4.heap.size) (cs:=#[.int .i64 c,.int .i64 ((i:Int)+1),.int .i64 0,.int .i64 d.r.clk,.int .i64 (-1),.int .i64 (-1),.string eU]) (news:=bR.cells ⟨c,(i:Int)+1,0,d.r.clk,-1,-1,eU⟩) (by rw[zbg];exact lF _ _) rfl (m:=1) rfl aH zil aC aH q8;obtain⟨a6,t6⟩:=a5.putR nF (n:=d.r.recs.length+1) (xs:=d.r.recs++[⟨c,(i:Int)+1,0,d.r.clk,-1,-1,eU⟩]) (by rw[zHT];exact cP) aO fB;have A6:=aD a6;have T6:=aD (T4.o.trans ((bM.below (dN (eF _ _) OB)).trans (⟨t6.size,t6.block,t6.moved⟩:bM hb v4 (w4.alloc OB) _ _)));have k9:=aJ A4.o.blk 9;have Fj:=aJ A4.o.blk 11;have xY:=(a5.other (j:=7) (c:=9) (x:=v4.sR) rfl aH nF (.slice (some ⟨g1,0,none⟩) (d.r.recs.length+1) c1)).2.trans a5.blk;have zqr:=aJ xY 9;have kf:=eL xY 9;have AP:=aD fR;clear cP nF fB a6 t6 a5 xY fR;rw[zbg] at AP
 go_wp2_with fail
 refine wp_CC4 w4 w5 hb g1 (d.r.recs.length+1) c1 v4.sR c (i:Int) d.r.clk rfl rfl rfl rfl k9 Fj aC AP.o zqr kf rfl ?_;rw[Go.Mt.Al,zop];simp only[Go.Mt.wL,dU,dV,fCC4,lCC4,Dn,C9];clear k9 Fj AP zqr kf;exact bodyPost_end (v:=.tuple #[]) (by simp[results,go_sem]<;>rfl) rfl ⟨rfl,_,A6.o,T6.o,E4.o⟩
variable {j:Nat}
theorem bE.recAt (h:bE w lo hb v d)(hR:v.sR=.slice (some ⟨g,0,none⟩) d.r.recs.length cR)(hx:d.r.recs[i]? =some x){u:aF}(hj:j<7)(hu:x.cells[j]? =some u):
 w.cell? ⟨g,i*7+j,none⟩=some u/\w.frozen? ⟨g,i*7+j,none⟩=false:=by
 have hr:=h.R;rw[hR] at hr;refine⟨?_,hr.frozenAt _⟩;have hi:=(kD.1 hx).1;obtain⟨b,off,e,h1,h2,h3,h4⟩:=(zZ hr aH).cells hi;injection e with e;injection e with e1 e2;subst e1 e2;have:=h4 j u (by
  have g:(recs d.r.recs)[i*7+j]? =(d.r.recs[i]?).bind λx=>x.cells[j]? :=H0 bR.cells (s:=7) (λ_=>rfl) d.r.recs i j hj;rw[g,hx];exact hu)
 simpa using this
theorem zkQ (h:bE w lo hb v d){e:ByteArray}{gR:Nat}(hx:d.r.recs[i]? =some x)(hO:lA c v.pO=some (.chan (some g)))(hC:(pI g v.pC).isSome=true)(hM:lA c v.pM=some (.int .i64 (i:Int)))
 (hR:v.sR=.slice (some ⟨gR,0,none⟩) d.r.recs.length cR):
 fN aK 116 #[.pointer (some ⟨hb,0,none⟩),.int .i64 c,.string e] w λen w'=>en=.returned (.tuple #[])/\∃v',bE w' lo hb v' {d with r:={d.r with recs:=d.r.recs.modify i λz=>{z with t:=d.r.clk,e:=e}}}/\bM hb v w v' w'/\
  v'.pC=yW g v.pC/\v'.pO=x6 c v.pO/\v'.pM=v.pM/\v'.sR=v.sR/\Bj v v':=by
 have k4:w.cell? ⟨hb,4,none⟩=some (.map (some v.mC)):=aJ h.blk 4;have k5:w.cell? ⟨hb,5,none⟩=some (.map (some v.mO)):=aJ h.blk 5;have wV:(zK 67 (.map (some v.mO)) (.int .i64 c) false).run aK w.drew=.ok (.chan (some g)) w.drew:=by
  have:=zcO U2 Ko (zcY w.drew) (h.drew.O) (c:=c) false;rw[hO] at this;exact this
 obtain⟨o1,uW,r9⟩:=zGR (kt:=84) zv8 U5 h.drew.C hC;obtain⟨a1,t1⟩:=h.drew.mapC r9;have A1:=aD a1;have T1:=aD (⟨t1.size,t1.block,t1.moved⟩:bM hb v w _ _);have HX:=aD hx;have HM:=aD hM;have HR:=aD hR;have HO:=aD hO;have DL:=aD uW;have LK:=aD wV;clear uW wV r9 a1 t1 hx hM hR hO h hC
 go_enter Tryz.func116,Tryz.ntmps116
 go_wp2_with fail
 refine wp_CL0 w hb v.mC v.mO g o1 c rfl rfl rfl k4 k5 LK.o DL.o rfl ?_;rw[Go.Mt.Al,zrA];simp only[Go.Mt.wL,dU,dV,fCL0,lCL0,Dn,C9];obtain⟨w1,fA⟩:=aU ({w.drew with heap:=w.drew.heap.setIfInBounds v.mC o1}:aE);obtain⟨v1,pD⟩:=aU ({v with pC:=yW g v.pC}:fJ);rw[<-fA,<-pD] at A1 T1;rw[<-fA];have E1:=aD (show v1.pC=yW g v.pC/\v1.pO=v.pO/\v1.pM=v.pM/\v1.sR=v.sR/\Bj v v1 by rw[pD];exact⟨rfl,rfl,rfl,rfl,Bj.rf v⟩);clear fA pD k4 k5 DL LK;have k5:w1.cell? ⟨hb,5,none⟩=some (.map (some v1.mO)):=aJ A1.o.blk 5;have Wq:=aD A1.o.O;have zo3:=aD (show(lA c v1.pO).isSome=true by rw[E1.o.2.1,HO.o];rfl)
 go_upto_region 2 with(refine zI9 _ rfl (.tmp 20) (.tmp 21) 67 3 rfl 84 U2 Ko v1.mO c v1.pO rfl rfl Wq.o zo3.o ?_;intro w2 o2 fZ zc8;have Ro:=aD fZ;have S6:=aD zc8;clear fZ zc8)
 have nK:=S6.o;rw[Ro.o] at nK;obtain⟨a2,t2⟩:=A1.o.mapO nK;rw[<-Ro.o] at a2 t2;obtain⟨v2,xJ⟩:=aU ({v1 with pO:=x6 c v1.pO}:fJ);rw[<-xJ] at a2 t2;have A2:=aD a2;have T2:=aD (T1.o.trans t2);have E2:=aD (show v2.pC=yW g v.pC/\v2.pO=x6 c v.pO/\v2.pM=v.pM/\v2.sR=v.sR/\Bj v v2 by rw[xJ];exact⟨E1.o.1,by show x6 c v1.pO=_;rw[E1.o.2.1],E1.o.2.2⟩);clear xJ nK S6 Ro Wq zo3 a2 t2 k5 A1 T1 E1;have lG:=aD (E2.o.2.2.2.1.trans HR.o);have zEp:=aD (show lA c v2.pM=some (.int .i64 (i:Int)) by rw[E2.o.2.2.1];exact HM.o)
 go_upto_region 3 with(go_at_call 115;refine(zd2 A2.o lG.o HX.o zEp.o).mono ?_;rintro en w3 ⟨rfl,iT⟩;have Q2:=aD iT;clear iT)
 have A3:=aD (show bE w3 lo hb v2 d by rw[Q2.o];exact A2.o.drew);have T3:=aD (show bM hb v w v2 w3 by rw[Q2.o];exact T2.o.same rfl);clear Q2 A2 T2;have Fj:w3.cell? ⟨hb,11,none⟩=some (.int .i64 d.r.clk):=aJ A3.o.blk 11;obtain⟨c5,f5⟩:=A3.o.recAt lG.o HX.o (j:=5) (u:=.int .i64 x.t) aH rfl;obtain⟨a4,t4⟩:=A3.o.setR (λz=>{z with t:=d.r.clk}) lG.o HX.o (j:=5) (u:=.int .i64 d.r.clk) aH zwM rfl;have A4:=aD a4;have T4:=aD (T3.o.trans t4);clear a4 t4
 go_upto_region 4 with fail
 obtain⟨w4,lM⟩:=aU (w3.setCell ⟨gR,i*7+5,none⟩ (.int .i64 d.r.clk));rw[<-lM] at A4 T4⊢;clear lM c5 f5 Fj;have zao:=aD (show(d.r.recs.modify i λz=>{z with t:=d.r.clk})[i]? =some {x with t:=d.r.clk} from zbV HX.o);have zu6:=aD (show v2.sR=.slice (some ⟨gR,0,none⟩) (d.r.recs.modify i λz=>{z with t:=d.r.clk}).length cR by rw[F6];exact lG.o);obtain⟨c6,f6⟩:=A4.o.recAt zu6.o zao.o (j:=6) (u:=.string x.e) aH rfl;obtain⟨a5,t5⟩:=A4.o.setR (λz=>{z with e:=e}) zu6.o zao.o (j:=6) (u:=.string e) aH zxY rfl;simp only[zgt] at a5;have A5:=aD a5;have T5:=aD (T4.o.trans t5);clear a5 t5
 go_wp2_with fail
 exact bodyPost_end (v:=.tuple #[]) (results_none rfl _ _ _) rfl ⟨rfl,_,A5.o,T5.o,E2.o.1,E2.o.2.1,E2.o.2.2.1,E2.o.2.2.2.1,E2.o.2.2.2.2⟩
section
variable {P:bS}{w w':aE}
variable {elem t:aM}{i:TypeInfo}{cur:Array aF}
theorem zhf {dT sT ty:aM}{g o zkG zG5:Nat}{a:bL}{zcp zGS:Nat}{cs:List aF}(hu:P.underlying dT=some (.slice elem))(hi:P.info? elem=some i)
 (hg:w.heap[g]? =some (.cells cur t (0,0))) (hn:cs.length=Nat.min zcp zkG*i.size) (Uh:∀j v,cs[j]? =some v->w.cell? (a.add j)=some v) (It:o+cs.length<=cur.size) (h1:∀v∈cs,v.oneCell'=true):
 (C7 #[dT,sT] ty #[.slice (some ⟨g,o,none⟩) zkG zG5,.slice (some a) zcp zGS]).run P w=.ok (goInt (Nat.min zcp zkG)) (w.setRow g (cur.toList.take o++cs++cur.toList.drop (o+cs.length)).toArray):=by
 have hl:=run_loadCells_list (P:=P) w a cs Uh;have aY:=zr5 P g o t cs 0 cur w hg (by simpa using It) h1;simp[C7,wU hu,Builtin.lenOf,Builtin.firstCells,sizeOf,typeInfo,hi,<-hn,hl,aY]
theorem zir {dT ty:aM}{z:aF}{g o n c:Nat}(hu:P.underlying dT=some (.slice elem))(hi:P.info? elem=some i)(hz:i.zero=some z)
 (hg:w.heap[g]? =some (.cells cur t (0,0))) (hn:n≠0) (It:o+(qD z.cells n).size<=cur.size) (h1:∀v∈(qD z.cells n).toList,v.oneCell'=true):
 (Si #[dT] ty #[.slice (some ⟨g,o,none⟩) n c]).run P w=.ok (.tuple #[]) (w.setRow g (cur.toList.take o++(qD z.cells n).toList++cur.toList.drop (o+(qD z.cells n).size)).toArray):=by
 have aY:=zr5 P g o t (qD z.cells n).toList 0 cur w hg (by simpa using It) h1;simp only[Ur,Ds] at aY
 cases n with
 |zero=>exact absurd rfl hn
 |succ n=>simp[Si,wU hu,zeroValue,typeInfo,hi,hz,aY]
variable {o:aZ}{a:Act}{ops:Array aZ}
theorem zdH {K:Act->aE->Prop}{Q:n5->Act->aE->Prop}{EE:Prop}(E8:o.guard=none)(s x:cM)(t tn:aM)(ho:o.op=.call {callee:=.builtin .append,args:=#[s,x],argTypes:=#[t,tn]})(vs vx v':aF)(hs:a.eval s=vs)(hx:a.eval x=vx)
 (hr:∀ty,(xG #[t,tn] ty #[vs,vx]).run P w=.ok v' w') (h:K (a.put o.dst v') w'):if dF o (yielded ops a.tmps)=true then Bm P o a w K Q else EE:=by
 rw[if_pos (by simp[dF,E8])];unfold Bm aS;simp only[ho,resolve,invoke,builtin,Eg,Iu,Fq,uI,fO,tW,hs,hx,hr];exact h
theorem zc0 {rest:List aZ}{Q:n5->Act->aE->Prop}(E8:o.guard=none)(s:cM)(t:aM)(ho:o.op=.call {callee:=.builtin .clear,args:=#[s],argTypes:=#[t]})(vs:aF)(hs:a.eval s=vs)
 (hr:∀ty,(Si #[t] ty #[vs]).run P w=.ok (.tuple #[]) w') (h:wpList P ops Q rest (a.put o.dst (.tuple #[])) w'):wpList P ops Q (o::rest) a w:=by
 refine Q0 E8 λK hK=>?_;unfold Bm aS;simp only[ho,resolve,invoke,builtin,Eg,Iu,Fq,uI,fO,tW,hs,hr];exact hK _ _ h
end
def Xq:(aK.info? 3).map (λi=>(i.zero,i.size,i.bytes))=some (some (.int .i64 0),1,8):=aQ
def zau:(aK.info? 149).map (λi=>(i.zero,i.size,i.bytes))=some (some (.agg #[.int .i64 0,.int .i64 0]),2,16):=aQ
theorem zbv (cs:Array aF):w.grownBy (w.setRow g cs) (some g):=⟨rfl,rfl,rfl,aO,λk _ hk=>setRow_other w g k _ (λe=>hk (by rw[e]))⟩
variable {w':aE}{r:Option Nat}
def Tj {Ff:aE}(h:w.grownBy w' r)(k:w'.grownBy Ff r):w.grownBy Ff r:=⟨k.os.trans h.os,k.tape.trans h.tape,k.output.trans h.output,eG h.size k.size,λb hb hn=>(k.block b (lD hb h.size) hn).trans (h.block b hb hn)⟩
def zv7 :w.grownBy w.drew r:=⟨rfl,rfl,rfl,aX _,λ_ _ _=>rfl⟩
variable {c n:Nat}
theorem ztx (h:w.ownsRow lo 3 1 (.slice (some ⟨g,0,none⟩) n c) n xs)(Ie:∀u∈xs,u.oneCell'=true)(aN:i<j)(hj:j<=n):
 fN aK 114 #[.slice (some ⟨g,0,none⟩) n c,.int .i64 (i:Int),.int .i64 (j:Int)] w λe w'=>e=.returned (.slice (some ⟨g,0,none⟩) (n-(j-i)) c)/\w'.ownsRow lo 3 1 (.slice (some ⟨g,0,none⟩) (n-(j-i)) c) (n-(j-i)) (xs.take i++xs.drop j)/\w.grownBy w' (some g):=by
 obtain⟨hlen,h|⟨g',cap,cur,hv,dW,hg,Zs,r9,fV,lP⟩⟩:=h
 .exact absurd h.1 aO
 injection hv with e1 e2 e3;injection e1 with e1;injection e1 with e1;subst e1 e3;clear e2;obtain⟨i0,eV,gX,eB,jZ⟩:=y8 Xq;have mK:cur.toList.length=c*1:=by simpa using fV
 have uW:(xs.drop (j*1)).length=(n-j)*1:=by rw[x3,hlen];omega
 obtain⟨A,hA,Uh⟩:∃A:bL,(if c=j then(some (⟨g,0,none⟩:bL)) else some ⟨g,j*1,none⟩)=some A/\(∀t u,(xs.drop (j*1))[t]? =some u->w.drew.cell? (A.add t)=some u):=by
  have cell:∀k u,xs[k]? =some u->w.drew.cell? ⟨g,k,none⟩=some u:=λk u hk=>by
   have:w.cell? ⟨g,k,none⟩=cur[k]? :=aJ hg k;have vA:cur.toList[k]? =some u:=by
    rw[<-lP,Zi] at hk;split at hk
    .exact hk
    .cases hk
   rw[Aw] at vA;exact this.trans vA
  by_cases hc:c=j
  .refine⟨⟨g,0,none⟩,by simp[hc],λt u hu=>?_⟩
   have h0:(xs.drop (j*1)).length=0:=by rw[uW];omega
   rw[zu0.1 h0] at hu;simp at hu
  .refine⟨⟨g,j*1,none⟩,by simp[hc],λt u hu=>?_⟩
   rw[Zv] at hu;rw[Lo];exact cell _ u hu
 have Mg:=λty=>zon (P:=aK) w.drew 38 ty 3 i0 Y4 eV g i c cur hg A (n-j) (c-j) (xs.drop (j*1)) (by rw[eB];exact uW) Uh (λu hu=>Ie u (zb2 hu)) aC (by rw[eB,uW,fV];omega);obtain⟨xU,qR⟩:=aU ((cur.toList.take (i*i0.size)++xs.drop (j*1)++cur.toList.drop (i*i0.size+(xs.drop (j*1)).length)).toArray);rw[<-qR] at Mg;obtain⟨W1,dH⟩:=aU (w.drew.setRow g xU);rw[<-dH] at Mg;have qX:W1.heap[g]? =some (.cells xU 3 (0,0)):=by rw[dH];exact L0 w.drew g cur xU 3 (0,0) hg
 have vS:xU.size=c*1:=by
  rw[qR];simp only[Eh,gN,rQ,x3,mK,uW,hlen,eB];have:(i+(n-j))*1<=c*1:=Aj _ aC;omega
 have hzs:(qD (.int .i64 0:aF).cells (n-(i+(n-j)))).size=(n-(i+(n-j)))*1:=Ys _ _;have O2:=λty=>zir (P:=aK) (w:=W1) (dT:=38) (ty:=ty) (c:=c-(i+(n-j))) (n:=n-(i+(n-j))) (o:=(i+(n-j))*1) Y4 eV gX qX aC (by rw[hzs,vS];omega) (λu hu=>by
  obtain⟨k,hk,rfl⟩:=L9.1 hu;simp only[qD,Ta,ziS,zkq,znv];simp[Nat.mod_one];rfl)
 obtain⟨yP,nK⟩:=aU ((xU.toList.take ((i+(n-j))*1)++(qD (.int .i64 0:aF).cells (n-(i+(n-j)))).toList++xU.toList.drop ((i+(n-j))*1+(qD (.int .i64 0:aF).cells (n-(i+(n-j)))).size)).toArray);rw[<-nK] at O2
 try simp only[zpB] at Mg O2
 have H1:=aD Mg;have H2:=aD O2;have HG:=aD (show w.grownBy (W1.setRow g yP) (some g) from Tj (Tj zv7 (dH▸zbv xU)) (zbv yP));have HO:=aD (show(W1.setRow g yP).ownsRow lo 3 1 (.slice (some ⟨g,0,none⟩) (n-(j-i)) c) (n-(j-i)) (xs.take (i*1)++xs.drop (j*1)) by
  have Cm:n-(j-i)=i+(n-j):=aC;have Ba:yP.size=c*1:=by
   rw[nK];simp only[Eh,gN,rQ,x3,Ds,vS,hzs];have:(i+(n-j))*1+(n-(i+(n-j)))*1=n*1:=by rw[<-V6];congr 1;omega
   have:n*1<=c*1:=Aj _ Zs;omega
  refine⟨by rw[gN,rQ,uW,hlen];have:=V6 i (n-j) 1;have:i*1<=n*1:=Aj _ aC;rw[Cm];omega,.inr ⟨g,c,yP,rfl,dW,L0 W1 g xU yP 3 (0,0) qX,aC,r9,Ba,?_⟩⟩;have e1:cur.toList.take (i*1)=xs.take (i*1):=by
   rw[<-lP,Qg];congr 1;have:i*1<=n*1:=Aj _ aC;omega
  have l1:(xs.take (i*1)).length=i*1:=by
   rw[rQ,hlen];have:i*1<=n*1:=Aj _ aC;omega
  rw[nK,show∀l:List aF,l.toArray.toList=l from λ_=>rfl,Cm];have l2:(xU.toList.take ((i+(n-j))*1)).length=(i+(n-j))*1:=by
   rw[rQ,Ds,vS];have:(i+(n-j))*1<=c*1:=Aj _ aC;omega
  rw[Hs,Ft (by rw[l2];exact aX _),Qg,zkE,qR,show∀l:List aF,l.toArray.toList=l from λ_=>rfl,eB,e1];rw[Ft zvR];exact zB zvR)
 replace HO:=aD (by have:=HO.o;simpa only[zpB] using this);have yD:i<=c:=aC;have N5:j<=c:=aC;have aT:¬((i:Int)=(j:Int)):=aC;clear Mg O2 qR nK qX vS hzs dH lP fV r9 hg dW hlen uW mK Ie Uh;by_cases zeJ:c=j
 .subst zeJ
  have pA:n-c=0:=aC;have zR:=H1.o;have Pk:=H2.o;simp only[pA,Ur] at zR Pk;replace H1:=aD zR;replace H2:=aD Pk;clear zR Pk
  go_enter ztb,zrz
  go_wp2_with fail
  go_region_law (refine zdH rfl (.tmp 22) (.tmp 25) 38 38 rfl _ _ _ zdP zdv H1.o ?_)
  go_wp2_with (refine zc0 rfl (.tmp 31) 38 rfl _ rfl H2.o ?_)
  all_goals
   go_ret;exact⟨by rw[show n-(c-i)=i by omega];rfl,HO.o,HG.o⟩
 .skip
  go_enter ztb,zrz
  go_wp2_with fail
  go_region_law (refine zdH rfl (.tmp 22) (.tmp 25) 38 38 rfl _ _ _ zdP zdv H1.o ?_)
  go_wp2_with (refine zc0 rfl (.tmp 31) 38 rfl _ rfl H2.o ?_)
  all_goals
   go_ret;exact⟨by rw[show n-(j-i)=i+(n-j) by omega];rfl,HO.o,HG.o⟩
theorem zEX (h:w.ownsRow lo 149 2 (.slice (some ⟨g,0,none⟩) n c) n xs)(Ie:∀u∈xs,u.oneCell'=true)(aN:i<j)(hj:j<=n):
 fN aK 119 #[.slice (some ⟨g,0,none⟩) n c,.int .i64 (i:Int),.int .i64 (j:Int)] w λe w'=>e=.returned (.slice (some ⟨g,0,none⟩) (n-(j-i)) c)/\w'.ownsRow lo 149 2 (.slice (some ⟨g,0,none⟩) (n-(j-i)) c) (n-(j-i)) (xs.take (i*2)++xs.drop (j*2))/\w.grownBy w' (some g):=by
 obtain⟨hlen,h|⟨g',cap,cur,hv,dW,hg,Zs,r9,fV,lP⟩⟩:=h
 .exact absurd h.1 aO
 injection hv with e1 e2 e3;injection e1 with e1;injection e1 with e1;subst e1 e3;clear e2;obtain⟨i0,eV,gX,eB,jZ⟩:=y8 zau;have mK:cur.toList.length=c*2:=by simpa using fV
 have uW:(xs.drop (j*2)).length=(n-j)*2:=by rw[x3,hlen];omega
 obtain⟨A,hA,Uh⟩:∃A:bL,(if c=j then(some (⟨g,0,none⟩:bL)) else some ⟨g,j*2,none⟩)=some A/\(∀t u,(xs.drop (j*2))[t]? =some u->w.drew.cell? (A.add t)=some u):=by
  have cell:∀k u,xs[k]? =some u->w.drew.cell? ⟨g,k,none⟩=some u:=λk u hk=>by
   have:w.cell? ⟨g,k,none⟩=cur[k]? :=aJ hg k;have vA:cur.toList[k]? =some u:=by
    rw[<-lP,Zi] at hk;split at hk
    .exact hk
    .cases hk
   rw[Aw] at vA;exact this.trans vA
  by_cases hc:c=j
  .refine⟨⟨g,0,none⟩,by simp[hc],λt u hu=>?_⟩
   have h0:(xs.drop (j*2)).length=0:=by rw[uW];omega
   rw[zu0.1 h0] at hu;simp at hu
  .refine⟨⟨g,j*2,none⟩,by simp[hc],λt u hu=>?_⟩
   rw[Zv] at hu;rw[Lo];exact cell _ u hu
 have Mg:=λty=>zon (P:=aK) w.drew 69 ty 149 i0 znT eV g i c cur hg A (n-j) (c-j) (xs.drop (j*2)) (by rw[eB];exact uW) Uh (λu hu=>Ie u (zb2 hu)) aC (by rw[eB,uW,fV];omega);obtain⟨xU,qR⟩:=aU ((cur.toList.take (i*i0.size)++xs.drop (j*2)++cur.toList.drop (i*i0.size+(xs.drop (j*2)).length)).toArray);rw[<-qR] at Mg;obtain⟨W1,dH⟩:=aU (w.drew.setRow g xU);rw[<-dH] at Mg;have qX:W1.heap[g]? =some (.cells xU 149 (0,0)):=by rw[dH];exact L0 w.drew g cur xU 149 (0,0) hg
 have vS:xU.size=c*2:=by
  rw[qR];simp only[Eh,gN,rQ,x3,mK,uW,hlen,eB];have:(i+(n-j))*2<=c*2:=Aj _ aC;omega
 have hzs:(qD (.agg #[.int .i64 0,.int .i64 0]:aF).cells (n-(i+(n-j)))).size=(n-(i+(n-j)))*2:=Ys _ _;have O2:=λty=>zir (P:=aK) (w:=W1) (dT:=69) (ty:=ty) (c:=c-(i+(n-j))) (n:=n-(i+(n-j))) (o:=(i+(n-j))*2) znT eV gX qX aC (by rw[hzs,vS];omega) (λu hu=>by
  obtain⟨k,hk,rfl⟩:=L9.1 hu;simp only[qD,Ta,ziS,zkq,znv];rcases zqM k with hk|hk<;>simp[hk]<;>rfl)
 obtain⟨yP,nK⟩:=aU ((xU.toList.take ((i+(n-j))*2)++(qD (.agg #[.int .i64 0,.int .i64 0]:aF).cells (n-(i+(n-j)))).toList++xU.toList.drop ((i+(n-j))*2+(qD (.agg #[.int .i64 0,.int .i64 0]:aF).cells (n-(i+(n-j)))).size)).toArray);rw[<-nK] at O2;have H1:=aD Mg;have H2:=aD O2;have HG:=aD (show w.grownBy (W1.setRow g yP) (some g) from Tj (Tj zv7 (dH▸zbv xU)) (zbv yP));have HO:=aD (show(W1.setRow g yP).ownsRow lo 149 2 (.slice (some ⟨g,0,none⟩) (n-(j-i)) c) (n-(j-i)) (xs.take (i*2)++xs.drop (j*2)) by
  have Cm:n-(j-i)=i+(n-j):=aC;have Ba:yP.size=c*2:=by
   rw[nK];simp only[Eh,gN,rQ,x3,Ds,vS,hzs];have:(i+(n-j))*2+(n-(i+(n-j)))*2=n*2:=by rw[<-V6];congr 1;omega
   have:n*2<=c*2:=Aj _ Zs;omega
  refine⟨by rw[gN,rQ,uW,hlen];have:=V6 i (n-j) 2;have:i*2<=n*2:=Aj _ aC;rw[Cm];omega,.inr ⟨g,c,yP,rfl,dW,L0 W1 g xU yP 149 (0,0) qX,aC,r9,Ba,?_⟩⟩;have e1:cur.toList.take (i*2)=xs.take (i*2):=by
   rw[<-lP,Qg];congr 1;have:i*2<=n*2:=Aj _ aC;omega
  have l1:(xs.take (i*2)).length=i*2:=by
   rw[rQ,hlen];have:i*2<=n*2:=Aj _ aC;omega
  rw[nK,show∀l:List aF,l.toArray.toList=l from λ_=>rfl,Cm];have l2:(xU.toList.take ((i+(n-j))*2)).length=(i+(n-j))*2:=by
   rw[rQ,Ds,vS];have:(i+(n-j))*2<=c*2:=Aj _ aC;omega
  rw[Hs,Ft (by rw[l2];exact aX _),Qg,zkE,qR,show∀l:List aF,l.toArray.toList=l from λ_=>rfl,eB,e1];rw[Ft zrb];exact zB zrb)
 have yD:i<=c:=aC;have N5:j<=c:=aC;have aT:¬((i:Int)=(j:Int)):=aC;clear Mg O2 qR nK qX vS hzs dH lP fV r9 hg dW hlen uW mK Ie Uh;by_cases zeJ:c=j
 .subst zeJ
  have pA:n-c=0:=aC;have zR:=H1.o;have Pk:=H2.o;simp only[pA,Ur] at zR Pk;replace H1:=aD zR;replace H2:=aD Pk;clear zR Pk
  go_enter zxM,zt3
  go_wp2_with fail
  go_region_law (refine zdH rfl (.tmp 22) (.tmp 25) 69 69 rfl _ _ _ zdP zdv H1.o ?_)
  go_wp2_with (refine zc0 rfl (.tmp 31) 69 rfl _ rfl H2.o ?_)
  all_goals
   go_ret;exact⟨by rw[show n-(c-i)=i by omega];rfl,HO.o,HG.o⟩
 .skip
  go_enter zxM,zt3
  go_wp2_with fail
  go_region_law (refine zdH rfl (.tmp 22) (.tmp 25) 69 69 rfl _ _ _ zdP zdv H1.o ?_)
  go_wp2_with (refine zc0 rfl (.tmp 31) 69 rfl _ rfl H2.o ?_)
  all_goals
   go_ret;exact⟨by rw[show n-(j-i)=i+(n-j) by omega];rfl,HO.o,HG.o⟩
theorem zpU (lo hi n c:Nat)(A:Option bL)(xs:List Int)(q:Int)(w:aE)(h:b7 w lo hi 1 A n c (eJ xs))(hn:n<=1048576):
 fN aK 113 #[.slice A n c,.int .i64 q] w λe w'=>e=.returned (.int .i64 (Gu (xs.findIdx? (·==q))))/\w'=w:=by
 have hl:=aD h.length
 go_enter Tryz.func113,Tryz.ntmps113
 go_wp2
 go_loop [8] (λi=>∃k:Nat,k<=n/\i=.int .i64 k/\∀j,j<k->∀b,xs[j]? =some b->(b==q)=false) (λi=>n-(intOf i).toNat)
 case atStart=>exact⟨0,jT _,rfl,λj hj=>absurd hj aC⟩
 case round=>
  obtain⟨k,hk,rfl,fV⟩:=hrel;have HC:=aD fV;by_cases aN:k<n
  .obtain⟨b,off,x,hA,_,_,_,eM,hv⟩:=h.cellAt aN
   subst hA;have HX:=aD eM;have i0:(0:Int)<=(k:Int):=aC;have i1:(k:Int)<(n:Int):=aC;by_cases hq:q=x
   .subst hq
    go_wp2;go_ret;exact⟨As (by rw[zcz HX.o aO HC.o];rfl),rfl⟩
   .have Pp:(q==x)=false:=by simpa using hq
    go_wp2
    go_round
    case rel=>exact⟨k+1,aC,mV,S7 HC.o HX.o (by simpa using Ne.symm hq)⟩
    case measure=>simp[intOf];omega
  .have e:k=n:=aC
   subst e;go_wp2;go_ret;exact⟨As (by rw[zk8 HC.o zg5];rfl),rfl⟩
theorem posI_ge (o:Option Nat):decide (0<=Gu o)=o.isSome:=by
 cases o with
 |none=>rfl
 |some i=>simp[Gu]
theorem zFn (lo hi n c:Nat)(A:Option bL)(xs:List Int)(q:Int)(w:aE)(h:b7 w lo hi 1 A n c (eJ xs))(hn:n<=1048576):
 fN aK 108 #[.slice A n c,.int .i64 q] w λe w'=>e=.returned (.bool (xs.findIdx? (·==q)).isSome)/\w'=w:=by
 have HS:=aD h;clear h
 go_enter Tryz.func108,Tryz.ntmps108
 go_wp2_with (go_at_call 113;refine(zpU lo hi n c A xs q w HS.o hn).mono ?_;rintro e w' ⟨rfl,hw⟩;obtain rfl:=hw)
 go_ret;exact⟨D4 (posI_ge _),rfl⟩
theorem zgk (x:bJ)(gx:Nat)(c:Int)(w:aE)(h:w.heap[gx]? =some (.cells #[.int .i64 c] 3)):
 fN aK 118 #[.agg #[.int .i64 x.c,.int .i64 x.p],.pointer (some ⟨gx,0,none⟩)] w λe w'=>e=.returned (.bool (x.c==c))/\bV w.heap.size w w':=by
 have aN:=fP h;have k:=aD (dB h (.cells #[.int .i64 x.c,.int .i64 x.p] 149));have k0:=aJ k.o 0
 go_enter Tryz.func118,Tryz.ntmps118
 go_wp2;go_ret;exact⟨rfl,(eF _ _).alloc (aX _) _⟩
variable {xs:List bJ}{hi:Nat}{A:Option bL}
theorem zev (h:b7 w lo hi 2 A n c (bF xs)){k:Nat}(hk:k<n):∃b off x,A=some ⟨b,off,none⟩/\b<w.heap.size/\xs[k]? =some x/\w.cell? ⟨b,off+k*2,none⟩=some (.int .i64 x.c)/\w.cell? ⟨b,off+k*2+1,none⟩=some (.int .i64 x.p):=by
 obtain⟨b,off,x,e,_,_,h3,h4,h5,h6⟩:=h.callsAt hk;exact⟨b,off,x,e,h3,h4,h5,h6⟩
theorem zsM (lo hi n c:Nat)(A:Option bL)(xs:List bJ)(gx:Nat)(q:Int)(w:aE)(h:b7 w lo hi 2 A n c (bF xs))(hn:n<=1048576)(hg:w.heap[gx]? =some (.cells #[.int .i64 q] 3)):
 fN aK 124 #[.slice A n c,.func (.func 118) #[] #[.pointer (some ⟨gx,0,none⟩)]] w λe w'=>e=.returned (.int .i64 (Gu (vC xs q)))/\bV w.heap.size w w':=by
 have hl:=aD h.callsLen;have HS:=aD h;have HG:=aD hg
 go_enter Tryz.func124,Tryz.ntmps124
 go_wp2
 go_loopw [8] (λi wr=>∃k:Nat,k<=n/\i=.int .i64 k/\bV w.heap.size w wr/\∀j,j<k->∀b,xs[j]? =some b->(b.c==q)=false) (λi _=>n-(intOf i).toNat)
 case atStart=>exact⟨0,jT _,rfl,eF _ _,λj hj=>absurd hj aC⟩
 case round=>
  obtain⟨k,hk,rfl,hb,fV⟩:=hrel;have HC:=aD fV;have HB:=aD hb;by_cases aN:k<n
  .obtain⟨b,off,x,hA,mQ,eM,fK,pD⟩:=zev (HS.o.below HB.o) aN
   have uT:=aD ((HB.o.block gx (fP HG.o)).trans HG.o);have HX:=aD eM;have HA:=aD hA;subst hA;have i0:(0:Int)<=(k:Int):=aC;have i1:(k:Int)<(n:Int):=aC;cases hq:(x.c==q)
   .go_wp2_with (go_at_call 118;refine(zgk x gx q _ uT.o).mono ?_;rintro e w2 ⟨rfl,rG⟩;rw[hq];have pZ:=aD rG)
    go_round
    case rel=>exact⟨k+1,aC,mV,Yg HB.o pZ.o,S7 HC.o HX.o hq⟩
    case measure=>simp[intOf];omega
   .go_wp2_with (go_at_call 118;refine(zgk x gx q _ uT.o).mono ?_;rintro e w2 ⟨rfl,rG⟩;rw[hq];have pZ:=aD rG)
    go_ret;exact⟨As (by unfold vC;rw[zcz HX.o hq HC.o];rfl),Yg HB.o pZ.o⟩
  .have e:k=n:=aC
   subst e;go_wp2;go_ret;exact⟨As zuY,HB.o⟩
variable {x:bJ}
theorem zET (hi:i<xs.length):((bF xs).set (i*2) (.int .i64 x.c)).set (i*2+1) (.int .i64 x.p)=bF (xs.set i x):=by
 apply Sw;intro q;obtain⟨a,b,rfl,hb⟩:∃a b,q=a*2+b/\b<2:=⟨q/2,q%2,aC,aC⟩;have g:∀(l:List bJ),(bF l)[a*2+b]? =(l[a]?).bind λx=>x.cells[b]? :=λl=>H0 bJ.cells (s:=2) (λ_=>rfl) l a b hb;have hlen:(bF xs).length=xs.length*2:=Fi bJ.cells (s:=2) (λ_=>rfl) xs;rw[zbb,zbb,znk,g,g,zbb];by_cases e:i=a
 .subst e
  have b6:b=0\/b=1:=aC;rcases b6 with rfl|rfl
  .rw[if_neg aC,if_pos aC,if_pos aC,if_pos rfl,if_pos hi];rfl
  .rw[if_pos rfl,if_pos aC,if_pos rfl,if_pos hi];rfl
 .rw[if_neg aC,if_neg aC,if_neg e]
variable {ys:List bJ}{a:Nat}
theorem arr_set {rest:List aF}(ha:a<ys.length):((bF ys++rest).toArray.setIfInBounds (a*2) (.int .i64 x.c)).setIfInBounds (a*2+1) (.int .i64 x.p)=(bF (ys.set a x)++rest).toArray:=by
 have mK:(bF ys).length=ys.length*2:=Fi bJ.cells (s:=2) (λ_=>rfl) ys;rw[gK,gK,zqW _ _ aC,zqW _ _ (by rw[znk];omega),zET ha]
theorem zHo {q:bJ->Bool}{b:Nat}(hlen:ys.length=xs.length)(qK:a<=b)(h1:ys.take a=(xs.take b).filter q)(h2:ys.drop b=xs.drop b)(hx:xs[b]? =some x):
 (q x=false->ys.take a=(xs.take (b+1)).filter q/\ys.drop (b+1)=xs.drop (b+1))/\
 (q x=true->(ys.set a x).take (a+1)=(xs.take (b+1)).filter q/\(ys.set a x).drop (b+1)=xs.drop (b+1)):=by
 have hb:=(kD.1 hx).1;have ht:xs.take (b+1)=xs.take b++[x]:=by rw[Nf,hx];rfl
 have hd:ys.drop (b+1)=xs.drop (b+1):=by
  rw[<-zo2,<-zo2,h2]
 refine⟨λhq=>⟨by rw[ht,Qf,<-h1];simp[hq],hd⟩,λhq=>⟨?_,?_⟩⟩
 .rw[ht,Qf,<-h1,Nf]
  have e1:(ys.set a x).take a=ys.take a:=by rw[List.take_set_of_le (aX _)]
  rw[e1,List.getElem?_set_self aC];simp[hq]
 .rw[List.drop_set,if_pos aC];exact hd
theorem zDT (h:w.ownsRow lo 149 2 (.slice (some ⟨g,0,none⟩) n c) n (bF xs))(hn:n<=1048576){gx:Nat}{q:Int}(uT:w.heap[gx]? =some (.cells #[.int .i64 q] 3)):
 fN aK 117 #[.slice (some ⟨g,0,none⟩) n c,.func (.func 118) #[] #[.pointer (some ⟨gx,0,none⟩)]] w λe w'=>∃m,e=.returned (.slice (some ⟨g,0,none⟩) m c)/\m=(dX xs q).length/\w'.ownsRow lo 149 2 (.slice (some ⟨g,0,none⟩) m c) m (bF (dX xs q))/\w.grownBy w' (some g):=by
 have aT:gx≠g:=λe=>by
  subst e;obtain⟨_,h|⟨g',cap,cur,hv,dW,hg,_⟩⟩:=h
  .exact absurd h.1 aO
  .injection hv with e1
   injection e1 with e1;injection e1 with e1;subst e1;rw[uT] at hg;injection hg with hg;injection hg with _ hg;exact absurd hg aH
 have hs:=zZ h aH;have zlv:=hs.callsLen;have HI:=aD (zsM lo w.heap.size n c (some ⟨g,0,none⟩) xs gx q w hs hn uT);obtain⟨hlen,h|⟨g',cap,cur,hv,dW,hg,Zs,r9,fV,lP⟩⟩:=h
 .exact absurd h.1 aO
 injection hv with e1 e2 e3;injection e1 with e1;injection e1 with e1;subst e1 e3;clear e2;obtain⟨rest,S3⟩:=aU (cur.toList.drop (n*2));have Ru:cur=(bF xs++rest).toArray:=by rw[S3,<-lP,zuJ]
 have Iq:rest.length=c*2-n*2:=by rw[S3,x3];simp[fV]
 have Yb:=aD uT;have HG:=aD (show w.heap[g]? =some (.cells (bF xs++rest).toArray 149 (0,0)) by rw[hg,Ru])
 cases hf:vC xs q with
 |none=>
  have hw:dX xs q=xs:=by
   unfold dX;rw[zg7];intro x hx;have:=zxL (by rw[hf];rfl) x hx;simpa using this
  have HO:=aD (show w.ownsRow lo 149 2 (.slice (some ⟨g,0,none⟩) n c) n (bF xs) from⟨hlen,.inr ⟨g,c,cur,rfl,dW,hg,Zs,r9,fV,lP⟩⟩);rw[hw];rw[hf] at HI;clear Ru S3 lP hg fV hlen uT hs
  go_enter zn4,zpr
  go_wp2_with (go_at_call 124;refine HI.o.mono ?_;rintro e w1 ⟨rfl,uL⟩;simp only[Gu];have rC:=aD uL;clear uL)
  go_ret;exact⟨n,rfl,by first|rfl|exact zlv.symm,zvm HO.o rC.o,⟨rC.o.os,rC.o.tape,rC.o.output,rC.o.size,λb hb _=>rC.o.block b hb⟩⟩
 |some p=>
  obtain⟨xp,Nz,yR,zqY⟩:∃x,xs[p]? =some x/\x.c=q/\∀j,j<p->∀y,xs[j]? =some y->y.c≠q:=by
   unfold vC at hf;obtain⟨h1,h2,h3⟩:=List.findIdx?_eq_some_iff_getElem.1 hf;refine⟨xs[p],lX h1,by simpa using h2,λj hj y hy=>?_⟩;have:=h3 j hj;obtain⟨k1,k2⟩:=kD.1 hy;rw[k2] at this;simpa using this
  have lY:=(kD.1 Nz).1;have zvn:xs.take p=(xs.take (p+1)).filter (λx=>x.c !=q):=by
   have ht:xs.take (p+1)=xs.take p++[xp]:=by rw[Nf,Nz];rfl
   have h1:(xs.take p).filter (λx=>x.c !=q)=xs.take p:=by
    rw[zg7];intro y hy;obtain⟨j,hj⟩:=G5.1 hy;rw[Zi] at hj;split at hj
    .next aN=>simpa using zqY j aN y hj
    .cases hj
   rw[ht,Qf,h1];simp[yR]
  rw[hf] at HI;have Dt:=aD zvn;have zhw:p<n:=aC;obtain⟨i0,eV,gX,eB,jZ⟩:=y8 zau;have zJw:=aD eV;clear Ru S3 lP hg fV hlen uT hs zvn Nz yR zqY eV
  go_enter zn4,zpr
  go_wp2_with (go_at_call 124;refine HI.o.mono ?_;rintro e w1 ⟨rfl,uL⟩;simp only[Gu];have rC:=aD uL;clear uL)
  go_loopw [5,6] (λi j wr=>∃(a b:Nat) (ys:List bJ),i=.int .i64 (a:Int)/\j=.int .i64 (b:Int)/\a<b/\b<=n/\ys.length=n/\ys.take a=(xs.take b).filter (λx=>x.c !=q)/\ys.drop b=xs.drop b/\wr.heap[g]? =some (.cells (bF ys++rest).toArray 149 (0,0))/\w.grownBy wr (some g)) (λ_ j _=>n-(intOf j).toNat)
  case atStart=>
   refine⟨p,p+1,xs,rfl,mV,aC,aC,zlv,Dt.o,rfl,(rC.o.block g (fP HG.o)).trans HG.o,⟨rC.o.os,rC.o.tape,rC.o.output,rC.o.size,λb hb _=>rC.o.block b hb⟩⟩
  case round=>
   obtain⟨a,b,ys,rfl,rfl,qK,zMV,Vz,h1,h2,qX,nF⟩:=hrel;have sM:=aD qX;have Tq:=aD nF;have zz2:=fP qX;clear qX nF;by_cases aN:b<n
   .obtain⟨x,hx⟩:∃x,xs[b]? =some x:=⟨xs[b]' aC,lX aC⟩
    have zEl:ys[b]? =some x:=by
     have:=congrArg (λl=>l[0]?) h2;simpa[Zv,hx] using this
    obtain⟨d1,d2⟩:=zHo (q:=λx=>x.c !=q) aC aC h1 h2 hx;have zmp:∀(k:Nat) (y:bJ),ys[k]? =some y->wr.cell? ⟨g,k*2,none⟩=some (.int .i64 y.c)/\wr.cell? ⟨g,k*2+1,none⟩=some (.int .i64 y.p):=λk y hy=>by
     have hk:=(kD.1 hy).1;have mK:(bF ys).length=ys.length*2:=Fi bJ.cells (s:=2) (λ_=>rfl) ys;have gg:∀b',b'<2->wr.cell? ⟨g,k*2+b',none⟩=y.cells[b']? :=λb' b6=>by
      rw[aJ sM.o];rw[List.getElem?_toArray,Ab aC];have:=H0 bJ.cells (s:=2) (λ_=>rfl) ys k b' b6;unfold bF;rw[this,hy];rfl
     exact⟨gg 0 aH,gg 1 aH⟩
    obtain⟨c0,c1⟩:=zmp b x zEl;have i0:(0:Int)<=(b:Int):=aC;have i1:(b:Int)<(n:Int):=aC;have D1:=aD d1;have D2:=aD d2;have GC:=aD zmp;clear d1 d2 zmp;have zqm:=aD ((Tq.o.block gx (fP Yb.o) (by simp;exact aT)).trans Yb.o);obtain⟨ya,zBn⟩:∃y,ys[a]? =some y:=⟨ys[a]' aC,lX aC⟩;have zvO:=aD zBn;have a0:(0:Int)<=(a:Int):=aC;have a1:(a:Int)<(n:Int):=aC;have zbK:g≠wr.heap.size:=aC;cases hq:(x.c==q)
    .go_wp2_with (go_at_call 118;refine(zgk x gx q _ (dB zqm.o _)).mono ?_;rintro e w2 ⟨rfl,rG⟩;rw[hq];have KG:=aD (eI rG (dB sM.o _)).1;have kz:=(eI rG (lF _ _)).1;have z0:=aJ kz 0;have z1:=aJ kz 1;have e0:=(De (a:=⟨g,a*2,none⟩) (KG.o.trans sM.o.symm)).trans (GC.o a ya zvO.o).1;have e1:=(De (a:=⟨g,a*2+1,none⟩) (KG.o.trans sM.o.symm)).trans (GC.o a ya zvO.o).2;have ff:=eL KG.o;have pZ:=aD rG;clear rG kz)
     go_round
     case rel=>
      obtain⟨f1,f2⟩:=D2.o (by simpa using hq);refine⟨a+1,b+1,ys.set a x,mV,mV,aC,aC,by rw[znk];exact Vz,f1,f2,?_,?_⟩
      .rw[nH (nH KG.o _),arr_set aC]
      .have hB:=pZ.o
       refine Tj Tq.o ⟨hB.os,hB.tape,hB.output,?_,λk hk hn=>?_⟩
       .simp only[tD];have:=hB.size;simp at this;omega
       .have zs6:k≠g:=λe=>hn (by rw[e])
        exact(eH _ _ _ k zs6).trans ((eH _ _ _ k zs6).trans ((hB.block k q8).trans (qO _ _ k hk)))
     case measure=>simp[intOf];omega
    .go_wp2_with (go_at_call 118;refine(zgk x gx q _ (dB zqm.o _)).mono ?_;rintro e w2 ⟨rfl,rG⟩;rw[hq];have KG:=aD (eI rG (dB sM.o _)).1;have pZ:=aD rG;clear rG)
     go_round
     case rel=>
      obtain⟨f1,f2⟩:=D1.o (by simpa using hq);have hB:=pZ.o;exact⟨a,b+1,ys,rfl,mV,aC,aC,Vz,f1,f2,KG.o,Tj Tq.o ⟨hB.os,hB.tape,hB.output,by have:=hB.size;simp at this;omega,λk hk hn=>(hB.block k q8).trans (qO _ _ k hk)⟩⟩
     case measure=>simp[intOf];omega
   .have e:b=n:=aC
    subst e;have zeT:(dX xs q).length=a:=by
     have tF:xs.take b=xs:=zB aC;rw[tF] at h1;unfold dX;rw[<-h1,rQ];omega
    have Oc:ys.take a=dX xs q:=by
     have tF:xs.take b=xs:=zB aC;rw[tF] at h1;exact h1
    have mK:(bF ys).length=ys.length*2:=Fi bJ.cells (s:=2) (λ_=>rfl) ys;have hzs:(qD (zmn #[.int .i64 0,.int .i64 0]).cells (b-a)).size=(b-a)*2:=Ys _ _;have cH:=λty=>zir (P:=aK) (w:=wr) (dT:=69) (ty:=ty) (c:=c-a) (n:=b-a) (o:=a*2) znT zJw.o gX sM.o aC (by rw[hzs];simp[mK,Iq];omega) (λu hu=>by
     obtain⟨k,hk,rfl⟩:=L9.1 hu;simp only[qD,Ta,ziS,zkq,znv];rcases zqM k with hk|hk<;>simp[hk]<;>rfl)
    obtain⟨yP,nK⟩:=aU (((bF ys++rest).toArray.toList.take (a*2)++(qD (zmn #[.int .i64 0,.int .i64 0]).cells (b-a)).toList++(bF ys++rest).toArray.toList.drop (a*2+(qD (zmn #[.int .i64 0,.int .i64 0]).cells (b-a)).size)).toArray);rw[<-nK] at cH;have HR:=aD cH;have HO:=aD (show(wr.setRow g yP).ownsRow lo 149 2 (.slice (some ⟨g,0,none⟩) a c) a (bF (dX xs q)) by
     refine⟨by have:=Fi bJ.cells (s:=2) (λ_=>rfl) (dX xs q);unfold bF;omega,.inr ⟨g,c,yP,rfl,dW,L0 wr g _ yP 149 (0,0) sM.o,aC,r9,?_,?_⟩⟩
     .rw[nK]
      simp only[Eh,gN,rQ,x3,Ds,hzs,mK,Iq];omega
     .rw[nK,show∀l:List aF,l.toArray.toList=l from λ_=>rfl,show∀l:List aF,l.toArray.toList=l from λ_=>rfl,Hs,Ft (by rw[rQ,gN,mK];omega),Qg,zkE,Ft aC,<-Oc]
      have:(bF ys).take (a*2)=bF (ys.take a):=by
       conv=>lhs;rw[<-zuJ a ys]
       unfold bF;rw[List.flatMap_append];have h9:=Fi bJ.cells (s:=2) (λ_=>rfl) (ys.take a);rw[rQ,Nat.min_eq_left aC] at h9;rw[Ft aC];exact zB aC
      exact this)
    have zy0:=aD (Tj Tq.o (zbv yP));have a0:(0:Int)<=(a:Int):=aC;have a1:(a:Int)<(b:Int):=aC;have zMQ:a<c:=aC;have zM1:¬(c=a):=aC;clear cH nK hzs mK Oc sM Tq h1 h2
    go_wp2_with (refine zc0 rfl (.tmp 38) 69 rfl _ rfl HR.o ?_)
    go_ret;exact⟨a,rfl,zeT.symm,HO.o,zy0.o⟩
theorem zkC (b:bX)(t:List UInt8)(x:bJ):(l7 (b,t) x).1.o=b.o/\(l7 (b,t) x).1.clk=b.clk/\(l7 (b,t) x).1.log=b.log/\(l7 (b,t) x).1.recs.length=b.recs.length/\(l7 (b,t) x).1.wait.length<=b.wait.length/\(l7 (b,t) x).1.back.length<=b.back.length+1/\
 ∀z∈(l7 (b,t) x).1.recs,∃y∈b.recs,z.o=y.o/\z.l=y.l:=by
 have same:∀z∈b.recs,∃y∈b.recs,z.o=y.o/\z.l=y.l:=λz hz=>⟨z,hz,rfl,rfl⟩;unfold l7;split
 .exact⟨rfl,rfl,rfl,rfl,aX _,Rt _,same⟩
 .split
  .refine⟨rfl,rfl,rfl,?_,Zp _ _,?_,λz hz=>?_⟩
   .show(List.modify _ _ _).length=_
    rw[F6]
   .show(b.back++[x]).length<=_
    simp
   .obtain⟨y,hy,rfl|rfl⟩:=Uo hz
    .exact⟨_,hy,rfl,rfl⟩
    .exact⟨_,hy,rfl,rfl⟩
  .exact⟨rfl,rfl,rfl,rfl,aX _,Rt _,same⟩
theorem yM.tire {t:List UInt8}(h:yM d)(hx:1<=x.c/\x.c<=99)(hb:d.r.back.length<5000):yM {d with r:=(l7 (d.r,t) x).1}:=by
 have S:=h.S.tire (t:=t) (x:=x);have R:=h.R.tire (t:=t) hx;obtain⟨e1,e2,e3,e4,e5,e6,e7⟩:=zkC d.r t x;generalize(l7 (d.r,t) x).1=b at*;refine⟨S,R,⟨λz hz=>?_,?_⟩,h.ndl,?_,λz hz=>?_,?_,⟨R.off,?_,?_,?_,?_,?_⟩⟩
 .obtain⟨y,hy,e,_⟩:=e7 z hz
  rw[e,e1];exact h.ops.op y hy
 .show 1<=b.o.op
  rw[e1];exact h.ops.n1
 .show(d.ln.length:Int)=b.o.ln
  rw[e1];exact h.nln
 .obtain⟨y,hy,_,e⟩:=e7 z hz
  show 1<=z.l/\z.l<=b.o.ln;rw[e,e1];exact h.lb y hy
 .show(d.qn.length:Int)=b.o.op
  rw[e1];exact h.nqn
 .show b.recs.length<=1000
  rw[e4];exact h.sm.nr
 .exact eG e5 h.sm.nw
 .show b.back.length<=5000
  omega
 .show b.log.length<=1000
  rw[e3];exact h.sm.nl
 .show 0<=b.clk/\b.clk<=100000
  rw[e2];exact h.sm.clk
def sK (r:bX)(m:Int):Nat->List bJ
 |0=>[]
 |k+1=>match r.wait[k]? with
  |none=>sK r m k
  |some x=>match jL (cY r m k).1.recs x.c with
   |none=>sK r m k++[x]
   |some i=>if(cY r m k).1.o.pt<=(cY r m k).1.clk-We (cY r m k).1.recs i then sK r m k else sK r m k++[x]
theorem zhk {st rest:List bJ}(h:((st++x::rest).map bJ.c).Nodup):dX (st++x::rest) x.c=st++rest:=by
 rw[Jl,fO,zhX] at h;obtain⟨h1,h2,h3⟩:=h;rw[Dq] at h2;have a1:∀y∈st,(y.c !=x.c)=true:=λy hy=>by
  have:=h3 y.c (Z5 hy) x.c aO;simpa using this
 have a2:∀y∈rest,(y.c !=x.c)=true:=λy hy=>by
  have:y.c≠x.c:=λe=>h2.1 (e▸Z5 hy);simpa using this
 unfold dX;rw[Qf,List.filter_cons,zg7.2 a1,zg7.2 a2];simp
structure TK (d:nM)(m:Int)(k:Nat):Prop where
 i:yM {d with r:=(cY d.r m k).1}
 w:(cY d.r m k).1.wait=sK d.r m k++d.r.wait.drop k
 nb:(cY d.r m k).1.back.length<=d.r.back.length+k
 log:(cY d.r m k).1.log=d.r.log
 o:(cY d.r m k).1.o=d.r.o
 clk:(cY d.r m k).1.clk=d.r.clk+m
 le:(sK d.r m k).length<=k
 txt:(cY d.r m k).2.length<=30+30*k
section
variable {d:nM}{m:Int}
theorem TK.zero (h:yM d)(hm:0<=m)(hc:d.r.clk+m<=100000):TK d m 0:=by
 have h0:=h.sm.clk;have hn:=Qn (c:=d.r.clk+m) aC aC;refine⟨⟨⟨h.S.opn,h.S.last,h.S.wt,h.S.bk,h.S.bo⟩,⟨h.R.off,?_,h.R.nodup,h.R.hasrec,λz hz=>?_,h.R.waitB,h.R.backB⟩,⟨h.ops.op,h.ops.n1⟩,h.ndl,h.nln,h.lb,h.nqn,⟨h.R.off,h.sm.nr,h.sm.nw,h.sm.nb,h.sm.nl,?_⟩⟩,rfl,aX _,rfl,rfl,rfl,aX _,?_⟩
 .show 0<=d.r.clk+m;omega
 .have:=h.R.recB z hz
  show _/\_/\_/\_/\_/\_/\_/\z.f<=d.r.clk+m;omega
 .show 0<=d.r.clk+m/\d.r.clk+m<=100000;omega
 .show([97,116,32]++jK (d.r.clk+m)).length<=_
  rw[gN];simp only[pT,rR];omega
structure Next (d:nM)(m:Int)(k:Nat)(x:bJ)(i:Nat)(y:bR):Prop where
 at_:jL (cY d.r m k).1.recs x.c=some i
 hy:(cY d.r m k).1.recs[i]? =some y
 c:y.c=x.c
 op:eK y=true
 b:1<=x.c/\x.c<=99
 f:0<=y.f/\y.f<=d.r.clk+m
 tired:d.r.o.pt<=d.r.clk+m-y.f->cY d.r m (k+1)=({lE (cY d.r m k).1 i Fc with back:=(cY d.r m k).1.back++[x]},(cY d.r m k).2++[32]++jK x.c)/\sK d.r m (k+1)=sK d.r m k
 not_:¬d.r.o.pt<=d.r.clk+m-y.f->cY d.r m (k+1)=cY d.r m k/\sK d.r m (k+1)=sK d.r m k++[x]
variable {k:Nat}{x:bJ}
theorem TK.next (h:TK d m k)(hx:d.r.wait[k]? =some x):∃i y,Next d m k x i y:=by
 have znH:d.r.wait.drop k=x::d.r.wait.drop (k+1):=by
  obtain⟨hl,he⟩:=kD.1 hx;rw[zgs hl,he]
 have nY:x∈(cY d.r m k).1.wait:=by rw[h.w,znH];simp
 obtain⟨i,hi⟩:=Option.isSome_iff_exists.1 (h.i.R.hasrec x nY);have hi:=hi;obtain⟨y,hy,zmC,Dr⟩:=B4 hi;have e1:=zd1 (m:=m) hx;rw[zcf hi hy,h.o,h.clk] at e1;have e2:sK d.r m (k+1)=if d.r.o.pt<=d.r.clk+m-y.f then sK d.r m k else sK d.r m k++[x]:=by
  conv=>lhs;unfold sK
  simp only[hx,hi,h.o,h.clk];rw[show We (cY d.r m k).1.recs i=y.f by unfold We;rw[hy]]
 have hf:=h.i.R.recB y (dZ hy);refine⟨i,y,⟨hi,hy,zmC,Dr,h.i.R.waitB x nY,⟨hf.2.2.2.2.2.2.1,by have:=hf.2.2.2.2.2.2.2;rw[<-h.clk];exact this⟩,λhp=>?_,λhp=>?_⟩⟩
 .rw[if_pos hp] at e1 e2
  exact⟨e1,e2⟩
 .rw[if_neg hp] at e1 e2
  exact⟨e1,e2⟩
theorem TK.succ (h:TK d m k)(hb:d.r.back.length+d.r.wait.length<=5000)(hx:d.r.wait[k]? =some x):TK d m (k+1):=by
 obtain⟨hl,he⟩:=kD.1 hx;have znH:d.r.wait.drop k=x::d.r.wait.drop (k+1):=by rw[zgs hl,he]
 obtain⟨i,y,n⟩:=h.next hx;have nL:=h.nb;have hT:=yM.tire (t:=(cY d.r m k).2) h.i n.b (by show(cY d.r m k).1.back.length<5000;omega);have e1:=zd1 (m:=m) hx;have zBR:yM {d with r:=(cY d.r m (k+1)).1}:=by rw[e1];exact hT
 obtain⟨r1,r2,r3,r4,r5,r6,r7⟩:=zkC (cY d.r m k).1 (cY d.r m k).2 x;have Ez:=e1;rw[<-Ez] at r1 r2 r3 r4 r5 r6;have hw:=h.w;rw[znH] at hw;have lH:((sK d.r m k++x::d.r.wait.drop (k+1)).map bJ.c).Nodup:=by rw[<-hw];exact h.i.R.nodup
 have hle:=h.le;have zqC:=h.txt;refine⟨zBR,?_,aC,r3.trans h.log,r1.trans h.o,r2.trans h.clk,?_,?_⟩
 .by_cases hp:d.r.o.pt<=d.r.clk+m-y.f
  .have t4:=(n.tired hp).2
   rw[t4];have e3:=e1;rw[zcf n.at_ n.hy,h.o,h.clk,if_pos hp] at e3;rw[e3];show dX _ (Gz _ _)=_;rw[Tc n.hy,n.c,hw,zhk lH]
  .obtain⟨t1,t2⟩:=n.not_ hp
   rw[t1,t2,hw];simp
 .by_cases hp:d.r.o.pt<=d.r.clk+m-y.f
  .rw[(n.tired hp).2];omega
  .rw[(n.not_ hp).2,gN];simp;omega
 .by_cases hp:d.r.o.pt<=d.r.clk+m-y.f
  .have:=n.b
   have hn:=Qn (c:=x.c) aC aC;rw[(n.tired hp).1,gN,gN];simp only[pT,rR];omega
  .rw[(n.not_ hp).1];omega
def TK.all (h:yM d)(hm:0<=m)(hc:d.r.clk+m<=100000)(hb:d.r.back.length+d.r.wait.length<=5000):∀k,k<=d.r.wait.length->TK d m k
 |0,_=>TK.zero h hm hc
 |k+1,hk=>(TK.all h hm hc hb k aC).succ hb (lX aC)
theorem TK.end_ (h:TK d m d.r.wait.length):(uR d.r m).1.wait=sK d.r m d.r.wait.length:=by
 rw[<-zbz,h.w,List.drop_of_length_le (aX _),N1]
end
def vL (w:aE):Prop:=Lib.TabIs aK w "internal/strconv.uint64pow10" .u64 Lib.pow10Tab
def Af (lo:Nat)(w:aE):Prop:=∀w':aE,(∀b,b<lo->w'.heap[b]? =w.heap[b]?)->vL w'
def Af.at_ (h:Af lo w):vL w:=h w λ_ _=>rfl
def Af.keep (h:Af lo w)(k:∀b,b<lo->w'.heap[b]? =w.heap[b]?):Af lo w':=λw2 k2=>h w2 λb hb=>(k2 b hb).trans (k b hb)
variable {v':fJ}
theorem Af.turn (h:Af lo w)(a:bE w lo hb v d)(dW:lo<=w.heap.size)(t:bM hb v w v' w'):Af lo w':=h.keep λb b6=>t.block b aC (λx=>by have:=(a.lt b x).1;omega)
def zS (v v':fJ):Prop:=v'.sL=v.sL/\v'.sQ=v.sQ/\v'.sA=v.sA/\v'.sT=v.sT
def zS.rf (v:fJ):zS v v:=⟨rfl,rfl,rfl,rfl⟩
def Bj.kept (h:Bj v v'):zS v v':=⟨h.1,h.2.1,h.2.2.2.2.1,h.2.2.2.2.2⟩
theorem zF4 (ht:Af lo w)(n:Int)(h0: -1000000000<=n)(h1:n<=1000000000):
 fN aK 112 #[.int .i64 n] w λe w'=>e=.returned (.string ⟨(jK n).toArray⟩)/\bV w.heap.size w w':=
 (Tryz.strconv_Itoa n aC aC w ht.at_).mono (by
  rintro e w' ⟨rfl,k,os,rfl⟩;refine⟨rfl,rfl,rfl,rfl,by simp[Go.Sort.grow],λi hi=>?_⟩;show((w.drewN k).heap++os)[i]? =_;rw[Array.getElem?_append_left (by show i<w.heap.size;omega)];rfl)
theorem zl4 (n:Int)(h0:0<=n)(h1:n<100)(w:aE):
 fN aK 112 #[.int .i64 n] w λe w'=>e=.returned (.string ⟨(jK n).toArray⟩)/\w'=w:=by
 obtain⟨c,rfl⟩:∃c:Nat,n=(c:Int):=⟨n.toNat,aC⟩;refine(Tryz.strconv_Itoa_small c aC w).mono ?_;rintro e w' ⟨rfl,rfl⟩;exact⟨by unfold jK;rw[Lib.itoa_nonneg],rfl⟩
section
variable {P:bS}{w w':aE}
theorem zrP {ops:Array aZ}{rest:List aZ}{o:aZ}{a:Act}{Q:n5->Act->aE->Prop}(E8:o.guard=none)(s x:cM)(t tn:aM)(ho:o.op=.call {callee:=.builtin .append,args:=#[s,x],argTypes:=#[t,tn]})(vs vx v':aF)(hs:a.eval s=vs)(hx:a.eval x=vx)
 (hr:(xG #[t,tn] o.type #[vs,vx]).run P w=.ok v' w') (h:wpList P ops Q rest (a.put o.dst v') w'):wpList P ops Q (o::rest) a w:=by
 refine Q0 E8 λK hK=>?_;unfold Bm aS;simp only[ho,resolve,invoke,builtin,Eg,Iu,Fq,uI,fO,tW,hs,hx,hr];exact hK _ _ h
end
variable {xs:List aF}{x8:Nat}
theorem zsl {E s:Nat}{v:aF}(h:w.ownsRow lo E s v n xs)(hl:x8<=lo):w.ownsRow x8 E s v n xs:=by
 obtain⟨h0,h1|⟨g,cap,cur,e1,e2,e3⟩⟩:=h
 .exact⟨h0,.inl h1⟩
 .exact⟨h0,.inr ⟨g,cap,cur,e1,eG hl e2,e3⟩⟩
variable {x:Option Nat}{l:List (Option Nat)}
theorem zDF (h:zcx l)(hx:∀b,x=some b->some b∉l):zcx (l.set j x):=by
 intro i k b hi hk;rw[zbb] at hi hk;split at hi<;>split at hk
 .omega
 .rename_i e1 e2
  split at hi
  .injection hi with hi
   exact absurd (dZ hk) (hx b hi)
  .cases hi
 .rename_i e1 e2
  split at hk
  .injection hk with hk
   exact absurd (dZ hi) (hx b hk)
  .cases hk
 .exact h i k b hi hk
theorem bE.newW (h:bE w lo hb v d){s':aF}{xs:List bJ}(ho:w.ownsRow lo 149 2 s' n (bF xs))(hn:n=xs.length)(hw:∀b,s'.ownBlock=some b->some b∉parts v hb):
 bE (w.setCell ⟨hb,7,none⟩ s') lo hb {v with sW:=s'} {d with r:={d.r with wait:=xs}}:=by
 subst hn;have h0:(parts v hb)[0]? =some (some hb):=rfl;have kk:∀i b,i≠0->(parts v hb)[i]? =some (some b)->(w.setCell ⟨hb,7,none⟩ s').heap[b]? =w.heap[b]? :=λi b hi b6=>eH w _ _ b (h.ne b6 h0 hi);have hp:parts {v with sW:=s'} hb=(parts v hb).set 5 s'.ownBlock:=rfl
 refine⟨nH h.blk s',h.lob,cJ h.L λb e=>kk 1 _ aH cS,cJ h.Q λb e=>kk 4 _ aH cS,cJ ho λb e=>eH w _ _ b (λe2=>hw b e (by have e2:b=hb:=e2;subst e2;exact dZ h0)),
  cJ h.B λb e=>kk 6 _ aH cS,cJ h.R λb e=>kk 7 _ aH cS,cJ h.A λb e=>kk 9 _ aH cS,cJ h.T λb e=>kk 10 _ aH cS,
  h.C.keep (kk 2 _ aH rfl),h.O.keep (kk 3 _ aH rfl),h.M.keep (kk 8 _ aH rfl),?_⟩
 rw[hp];exact zDF h.ap hw
def bE.grown (h:bE w lo hb v d)(hg:w.grownBy w' x)(hx:∀b,x=some b->some b∉parts v hb):bE w' lo hb v d:=
 h.keep λb b6 hp=>hg.block b b6 λe=>hx b e.symm hp
theorem bM.grown {w0:aE}{v0:fJ}(h:bM hb v0 w0 v w)(hg:w.grownBy w' x)(hx:∀b,x=some b->w0.heap.size<=b):bM hb v0 w0 v w':=
 ⟨eG h.size hg.size,λb b6 hn=>(hg.block b (lD b6 h.size) λe=>by have:=hx b e.symm;omega).trans (h.block b b6 hn),h.moved⟩
theorem zCZ {N:Nat}(hs:cs.size=N)(hl:xs.length=N)(h:∀j,j<N->cs[j]? =xs[j]?):cs.toList=xs:=by
 apply Sw;intro j;rw[Aw];rcases nC j N with hj|hj
 .exact h j hj
 .rw[Array.getElem?_eq_none aC,Ca aC]
theorem zHl (lo hi n c:Nat)(A:Option bL)(ds:List dD)(w:aE)(h:b7 w lo hi 3 A n c (lN ds))(hn:n<=1048576):
 fN aK 13 #[.slice A n c] w λe w'=>∃b cs,e=.returned (.slice (some ⟨b,0,none⟩) n n)/\w.heap.size<=b/\w'.heap[b]? =some (.cells cs 54)/\cs.toList=lN ds/\rJ 54 3 w' w.heap.size w'.heap.size (some ⟨b,0,none⟩) n n (lN ds)/\bV w.heap.size w w':=by
 obtain⟨xP,Zj,zee⟩:=zDa n hn;have hlen:=h.eventLen;have Dt:=aD Zj;have HL:=aD hlen
 go_enter Tryz.func13,Tryz.ntmps13
 go_wp2
 go_loopw [4] (λi wr=>∃k:Nat,k<=n/\i=.int .i64 k/\bV w.heap.size w wr/\∃cs:Array aF,wr.heap[w.heap.size]? =some (.cells cs 54)/\cs.size=n*3/\∀j,j<k*3->cs[j]? =(lN ds)[j]?) (λi _=>n-(intOf i).toNat)
 case atStart=>exact⟨0,jT _,rfl,dN (eF _ _) _,xP,lF _ _,Dt.o,λj hj=>absurd hj aC⟩
 case round=>
  obtain⟨k,hk,rfl,B,cs,hb,cG,fV⟩:=hrel;have HS:=aD cG;have HC:=aD fV;have HB:=aD hb;have hz:=fP hb;by_cases aN:k<n
  .obtain⟨b,off,d,rfl,_,_,h3,eM,fK,pD,xJ⟩:=(h.below B).eventAt aN
   have HX:=aD eM
   go_wp2_with fail
   refine(zH3 d _).mono ?_;rintro e w1 ⟨rfl,b1⟩;obtain⟨uL,z1⟩:=eI b1 HB.o;have B1:=Yg B b1;have e0:=aJ uL (k*3);have e1:=aJ uL (k*3+1);have e2:=aJ uL (k*3+2);have hf:=eL uL;rw[Array.getElem?_eq_getElem (by rw[HS.o];omega)] at e0 e1 e2;have rC:=aD uL;go_wp2;go_roundw
   case rel=>exact⟨k+1,aC,mV,((B1.setCell (aX _) _).setCell (aX _) _).setCell (aX _) _,((cs.setIfInBounds (k*3) (.string d.k)).setIfInBounds (k*3+1) (.int .i64 d.a)).setIfInBounds (k*3+2) (.int .i64 d.b),nH (nH (nH rC.o _) _) _,by simp[HS.o],λj hj=>zHY HX.o (by rw[HS.o];omega) HC.o j hj⟩
   case measure=>simp[intOf];omega
  .have e:k=n:=aC
   subst e;go_wp2;go_ret;exact⟨_,cs,rfl,aX _,HB.o,zCZ HS.o (by rw[zdY,HL.o]) HC.o,zBX HB.o hz HS.o (aX _) X2 (by rw[zdY,HL.o]) HC.o,B⟩
variable {xs:List dD}
def zdk (h:b7 w lo hi 3 A n c (lN xs))(hn:n<=1048576):
 fN aK 13 #[.slice A n c] w λe w'=>∃b cs,e=.returned (.slice (some ⟨b,0,none⟩) n n)/\w.heap.size<=b/\w'.heap[b]? =some (.cells cs 54)/\cs.toList=lN xs/\rJ 54 3 w' w.heap.size w'.heap.size (some ⟨b,0,none⟩) n n (lN xs)/\bV w.heap.size w w':=zHl _ _ _ _ _ _ _ h hn
def zIM (l:Int)(h:b7 w lo hi 3 A n c (lN xs))(hd:∀d∈xs,d.k.size<=maxLen)(h0:0<=l)(h1:l<=1048576):
 fN aK 10 #[.slice A n c,.int .i64 l] w λe w'=>e=.returned (.int .i64 (Hr l n xs))/\bV w.heap.size w w':=zHc _ _ _ _ _ _ _ _ h hd h0 h1
variable {A':Option bL}
def zE4 {gV n' c':Nat}{ys:List dD}(h:b7 w lo hi 3 A n c (lN xs))(h':b7 w x8 gV 3 A' n' c' (lN ys))(hn:n<=1048576)(sV:n'<=1048576):
 fN aK 16 #[.slice A n c,.slice A' n' c'] w λe w'=>e=.returned (.bool (xs==ys))/\bV w.heap.size w w':=zFK _ _ _ _ _ _ _ _ _ _ _ _ _ h h' hn sV
def zIO {xs:List aF}(k0:Nat)(h:rJ 54 3 w lo hi A n c xs)(hn:n<=1048576)(jC:k0<=10000000):
 fN aK 17 #[.slice A n c,.int .i64 k0] w λe w'=>e=.returned (.int .i64 ((k0+3*n:Nat):Int))/\qI lo hi w w':=zCC _ _ _ _ _ _ _ _ h hn jC
variable {xs:List Int}
theorem rJ.toI (h:rJ 3 1 w lo hi A n c (eJ xs)):Own w lo hi A n c xs:=
 ⟨h.slc,λhn=>by obtain⟨b,cs,e,k,z⟩:=h.blk hn;exact⟨b,cs,e,k,aC⟩⟩
theorem zmz {gV n' c':Nat}{ys:List Int}(h:b7 w lo hi 1 A n c (eJ xs))(h':b7 w x8 gV 1 A' n' c' (eJ ys))(hn:n<=1048576)(sV:n'<=1048576):
 fN aK 22 #[.slice A n c,.slice A' n' c'] w λe w'=>e=.returned (.bool (xs==ys))/\bV w.heap.size w w':=
 (zz9 _ _ _ _ _ _ _ _ _ _ _ _ _ h h' hn sV).mono λe w' hs=>⟨hs.1,by obtain⟨m,rfl⟩:=hs.2;exact below_drewN (eF _ _) m⟩
theorem zzY (k0:Nat)(h:rJ 3 1 w lo hi A n c (eJ xs))(hn:n<=1048576)(jC:k0<=10000000):
 fN aK 23 #[.slice A n c,.int .i64 k0] w λe w'=>e=.returned (.int .i64 ((k0+n:Nat):Int))/\b7 w' lo hi 1 A n c (eJ (N0 k0 n))/\qI lo hi w w':=by
 refine(zIu _ _ _ _ _ _ _ _ h.toI hn aC aC).mono λe w' ⟨he,ho,hc,_⟩=>?_;exact⟨by rw[he];congr 2,ho.slc,hc⟩
theorem zvt (k0:Nat)(h:b7 w lo hi 1 A n c (eJ (N0 k0 n)))(hn:n<=1048576)(jC:k0<=10000000):
 fN aK 24 #[.slice A n c,.int .i64 k0] w λe w'=>e=.returned (.int .i64 ((k0+n:Nat):Int))/\bV w.heap.size w w':=by
 refine(zCw _ _ _ _ _ _ _ h hn aC aC).mono λe w' ⟨he,hw⟩=>?_;subst hw;exact⟨by rw[he];congr 2,eF _ _⟩
theorem zre (f s p:Int)(w:aE):
 fN aK 12 #[.agg #[.int .i64 f,.int .i64 s,.int .i64 p]] w λe w'=>e=.returned (.agg #[.int .i64 f,.int .i64 s,.int .i64 p])/\bV w.heap.size w w':=by
 go_enter Tryz.func12,Tryz.ntmps12
 go_wp2;refine rM (v:=.agg #[.int .i64 f,.int .i64 s,.int .i64 p]) (by simp[results,Tryz.results12,go_sem]) rfl ⟨rfl,?_⟩;exact dN (dN (dN (eF _ _) _) _) _
end Go.Proofs.YtfcjiloojkjaeaaGreatDoor
namespace Go.Proofs.YtfcjiloojkjaeaaGreatDoor
open Go.Mt Go.Tt
def glL:List Nat:=[33,52,109,110,115,116,105,108,113,124,117,114,119,118,112,123,126,128,129,130,131,132,133,134,135,136,137,138,10,11,12,13,15,16,17,18,19,20,22,23,24,25,34,39,40,41,43,44,45,46,49,50,51,63,64,65,66,67,90,91,92,93,94,95,96]
def alL:List Nat:=[3,4,5,10,11,12,13,14,15,16,17,18,19,20,21,22,23,24,25,26,33,34,39,40,41,42,43,44,45,46,49,50,51,52,63,64,65,66,67,90,91,92,93,94,95,96,118]
def flL:List Nat:=[118]
def olL:List Nat:=[42]
abbrev Cf:aP->Bool:=oV glL
abbrev gE:aP->Bool:=oV flL
def zsn:Rg aK=true:=aQ
def zwC:glL.all (fnFit aK (oV flL) (oV glL))=true:=aQ
def lvF:Lv aK (oV olL) (oV alL) Cf gE:=
 lv_of zsn zwC aQ aQ aQ aQ aQ
def mX:vN (PS aK Cf) gE:=zqt zsn zwC aQ
end Go.Proofs.YtfcjiloojkjaeaaGreatDoor
namespace Go.Mt
open Go.Conc Go.Tt
def frO:Obj->Obj
 | .cells c T fz=>.cells c T (0,max c.size fz.2)
 |o=>o
def uF (X:Nat->Bool)(w:aE):World:={w with heap:=w.heap.mapIdx λi o=>if X i=true then frO o else o}
def thX (X:Nat->Bool)(w0 wn:aE):World:={wn with heap:=wn.heap.mapIdx λi o=>if X i=true then(w0.heap[i]?).getD o else o}
def reX (X:Nat->Bool)(w:aE):World:={w with heap:=w.heap.mapIdx λi o=>if X i=true then frO o else oY}
theorem Tz (X:Nat->Bool)(w:aE):(uF X w).heap.size=w.heap.size:=by simp[uF]
theorem zdI (X:Nat->Bool)(w wn:aE):(thX X w wn).heap.size=wn.heap.size:=by simp[thX]
theorem zks (X:Nat->Bool)(w:aE):(reX X w).heap.size=w.heap.size:=by simp[reX]
section
variable {X:Nat->Bool}{w wn:aE}{a:Nat}
theorem N4 (h:X a=false):(uF X w).heap[a]? =w.heap[a]? :=by
 simp[uF,Nv,h]
variable {c:Array aF}{T:aM}
theorem Tv {fz:Nat×Nat}(h:X a=true)(hc:w.heap[a]? =some (.cells c T fz)):(uF X w).heap[a]? =some (.cells c T (0,max c.size fz.2)):=by
 simp[uF,Nv,h,hc,frO]
theorem zhd {fz:Nat×Nat}(h:X a=true)(hc:w.heap[a]? =some (.cells c T fz)):(reX X w).heap[a]? =some (.cells c T (0,max c.size fz.2)):=by
 simp[reX,Nv,h,hc,frO]
theorem ztD (h:X a=false)(ha:a<w.heap.size):(reX X w).heap[a]? =some oY:=by
 simp[reX,Nv,h,ha]
theorem Y6 (h:X a=false):(thX X w wn).heap[a]? =wn.heap[a]? :=by
 simp[thX,Nv,h]
theorem zey {o:Obj}(h:X a=true)(ha:a<wn.heap.size)(ho:w.heap[a]? =some o):(thX X w wn).heap[a]? =some o:=by
 simp[thX,Nv,h,ho,ha]
end
inductive wN (X KD:Nat->Prop):aF->Prop
 |bool (b:Bool):wN X KD (.bool b)
 |int (k:IntKind) (n:Int):wN X KD (.int k n)
 |string (s:ByteArray):wN X KD (.string s)
 |nilFunc:wN X KD .nilFunc
 |nilIface:wN X KD .nilIface
 |pointer {a:Option bL}:(∀x,a=some x->X x.block)->wN X KD (.pointer a)
 |slice {a:Option bL} {n c:Nat}:(∀x,a=some x->X x.block)->wN X KD (.slice a n c)
 |chan {a:Option Nat}:(∀x,a=some x->KD x)->wN X KD (.chan a)
 |agg {xs:Array aF}:(∀(i:Nat) (v:aF),xs[i]? =some v->wN X KD v)->wN X KD (.agg xs)
 |tuple {xs:Array aF}:(∀(i:Nat) (v:aF),xs[i]? =some v->wN X KD v)->wN X KD (.tuple xs)
theorem vR.inX {X KD:Nat->Prop}{v:aF}(h:vR v):wN X KD v:=by
 induction h with
 |bool b=>exact .bool b
 |int k n=>exact .int k n
 |string s=>exact .string s
 |nilFunc=>exact .nilFunc
 |nilIface=>exact .nilIface
 |agg _ ih=>exact .agg ih
 |tuple _ ih=>exact .tuple ih
section
variable {S:aP->Prop}{K R K' R':Pr}{X KD:Nat->Prop}
theorem ztc {a a':Option bL}(x:wK R a a')(hR:∀p q,R p q->X p->R' p q)(h:∀y,a=some y->X y.block):wK R' a a':=by
 cases x with
 |none=>exact .none
 |some y=>
  cases y with
  |mk y=>exact .some (.mk (hR _ _ y (h _ rfl)))
theorem wN.vr {u v:aF}(x:VR S K R u v)(hR:∀a b,R a b->X a->R' a b)(hK:∀a b,R.or K a b->KD a->R'.or K' a b)(hu:wN X KD u):VR S K' R' u v:=by
 induction x with
 |bool b=>exact .bool b
 |int k n=>exact .int k n
 |string s=>exact .string s
 |nilFunc=>exact .nilFunc
 |nilIface=>exact .nilIface
 |pointer y=>cases hu with|pointer h=>exact .pointer (ztc y hR h)
 |slice y=>cases hu with|slice h=>exact .slice (ztc y hR h)
 |map _=>cases hu
 |chan y=>
  cases hu with
  |chan h=>
   refine .chan ?_
   cases y with
   |none=>exact .none
   |some y=>exact .some (hK _ _ y (h _ rfl))
 |func _ _ _ _ _ _ _=>cases hu
 |iface _ _=>cases hu
 |agg e _ ih=>cases hu with|agg h=>exact .agg e λi v v' h1 h2=>ih i v v' h1 h2 (h i v h1)
 |tuple e _ ih=>cases hu with|tuple h=>exact .tuple e λi v v' h1 h2=>ih i v v' h1 h2 (h i v h1)
 |junk h=>exact .junk h
end
section
variable {S:aP->Prop}{K R K' R':Pr}{G:Gp}{St St':Nat->Prop}{w W wn Wn:aE}{X:Nat->Bool}
structure XOk (R:Pr)(X:Nat->Bool)(w:aE):Prop where
 dom:∀a,X a=true->∃b,R a b
 cells:∀a,X a=true->∃c T fz,w.heap[a]? =some (.cells c T fz)
theorem zoh (h:cV S K R G St w W)(hx:XOk R X w):cV S K R G (λa=>St a\/X a=true) (uF X w) W:=by
 have stC:∀a,St a->∃c T hi,w.heap[a]? =some (.cells c T (0,hi))/\c.size<=hi:=λa x=>(h.st a x).2;refine⟨h.inj,h.inj',λa b x=>by rw[Tz];exact h.lt a b x,h.low,by rw[Tz];exact h.gle,λa b x=>?_,λa b x hn=>?_,λa x=>?_,?_,h.tb⟩
 .obtain⟨o,o',h1,h2,h3⟩:=h.cont a b x
  cases e:X a with
  |false=>exact⟨o,o',(N4 e).trans h1,h2,h3⟩
  |true=>
   obtain⟨c,T,fz,hc⟩:=hx.cells a e;rw[hc] at h1;obtain rfl:=cE h1
   cases h3 with
   |cells sN hf=>
    refine⟨_,_,Tv e hc,h2,.cells sN λo ho=>?_⟩;have:=hf o ho;unfold Lr at this⊢;simp only;omega
 .cases e:X a with
  |false=>exact(N4 e).trans (h.rest a b x hn)
  |true=>
   obtain⟨c,hc⟩:=hx.dom a e;exact absurd hc (hn c)
 .cases e:X a with
  |false=>
   have x':St a:=x.resolve_right (by rw[e];simp);obtain⟨h1,c,T,hi,h2,h3⟩:=h.st a x';exact⟨h1,c,T,hi,(N4 e).trans h2,h3⟩
  |true=>
   obtain⟨c,T,fz,hc⟩:=hx.cells a e;exact⟨hx.dom a e,c,T,_,Tv e hc,zv6 ..⟩
 .intro a c e hp
  cases ex:X a with
  |false=>
   rw[N4 ex] at hp;exact h.np a c e hp
  |true=>
   obtain⟨c',T,fz,hc⟩:=hx.cells a ex;rw[Tv ex hc] at hp;cases hp
theorem ztU (h:cV S K R G St w W)(hx:XOk R X w)(hle:R.le R')(hK:K.le K')(hn:cV S K' R' G St' wn Wn)(hs:∀a,St a->St' a)(aY:∀a b,X a=true->R a b->Wn.heap[b]? =W.heap[b]?):cV S K' R' G St (thX X w wn) Wn:=by
 have aN:∀a b,R' a b->a<wn.heap.size:=λa b x=>(hn.lt a b (.inl x)).1;refine⟨hn.inj,hn.inj',λa b x=>by rw[zdI];exact hn.lt a b x,hn.low,by rw[zdI];exact hn.gle,λa b x=>?_,λa b x dG=>?_,λa x=>?_,?_,hn.tb⟩
 .cases e:X a with
  |false=>
   obtain⟨o,o',h1,h2,h3⟩:=hn.cont a b x;exact⟨o,o',(Y6 e).trans h1,h2,h3⟩
  |true=>
   obtain⟨b0,G6⟩:=hx.dom a e;obtain rfl:=hn.inj a b b0 (.inl x) (.inl (hle _ _ G6));obtain⟨o,o',h1,h2,h3⟩:=h.cont a b G6;exact⟨o,o',zey e (aN a b x) h1,(aY a b e G6).trans h2,oO.monoK hK (h3.mono hle)⟩
 .cases e:X a with
  |false=>exact(Y6 e).trans (hn.rest a b x dG)
  |true=>
   obtain⟨c,hc⟩:=hx.dom a e;exact absurd (hle _ _ hc) (dG c)
 .cases e:X a with
  |false=>
   obtain⟨h1,c,T,hi,h2,h3⟩:=hn.st a (hs a x);exact⟨h1,c,T,hi,(Y6 e).trans h2,h3⟩
  |true=>
   obtain⟨⟨b,h1⟩,c,T,hi,h2,h3⟩:=h.st a x;exact⟨⟨b,hle _ _ h1⟩,c,T,hi,zey e (aN a b (hle _ _ h1)) h2,h3⟩
 .intro a c e hp
  cases ex:X a with
  |false=>
   rw[Y6 ex] at hp;exact hn.np a c e hp
  |true=>
   obtain⟨b,hb⟩:=hx.dom a ex;obtain⟨c',T,fz,hc⟩:=hx.cells a ex;rw[zey ex (aN a b (hle _ _ hb)) hc] at hp;cases hp
def rX (R:Pr)(X:Nat->Bool):Pr:=λa b=>R a b/\X a=true
def kX (K:Pr)(KD:Nat->Prop):Pr:=λa b=>K a b/\KD a
theorem reX_rel (h:cV S K R G St w W)(hx:XOk R X w)(hT:∀g,G.tab g=true->X g=true){KD:Nat->Prop}(mK:∀a c T fz,X a=true->w.heap[a]? =some (.cells c T fz)->∀v∈c,wN (λa=>X a=true) KD v)(zH5:∀a b,R a b->KD a->X a=true):
 cV S (kX K KD) (rX R X) G (λa=>X a=true) (reX X w) W:=by
 have up:∀a b,(rX R X).or (kX K KD) a b->R.or K a b:=λa b x=>x.elim (λy=>.inl y.1) λy=>.inr y.1;refine⟨λa b c x y=>h.inj a b c (up _ _ x) (up _ _ y),λa b c x y=>h.inj' a b c (up _ _ x) (up _ _ y),λa b x=>by rw[zks];exact h.lt a b (up _ _ x),λa b x=>h.low a b x.1,by rw[zks];exact h.gle,λa b x=>?_,λa b x dG=>?_,λa x=>?_,?_,λg hg=>⟨h.tb g hg,hT g hg⟩⟩
 .obtain⟨o,o',h1,h2,h3⟩:=h.cont a b x.1
  obtain⟨c,T,fz,hc⟩:=hx.cells a x.2;rw[hc] at h1;obtain rfl:=cE h1
  cases h3 with
  |cells sN hf=>
   refine⟨_,_,zhd x.2 hc,h2,.cells ⟨sN.1,λi v v' h1 h2=>?_⟩ λo ho=>?_⟩
   .refine wN.vr (sN.2 i v v' h1 h2) (λp q y z=>⟨y,z⟩) (λp q y z=>?_) (mK a c T fz x.2 hc v (Array.mem_of_getElem? h1))
    rcases y with y|y
    .exact .inl ⟨y,zH5 p q y z⟩
    .exact .inr ⟨y,z⟩
   .have:=hf o ho
    unfold Lr at this⊢;simp only;omega
 .cases e:X a with
  |false=>exact ztD e (h.lt a b (.inr x.1)).1
  |true=>
   obtain⟨c,hc⟩:=hx.dom a e;exact absurd ⟨hc,e⟩ (dG c)
 .obtain⟨c,T,fz,hc⟩:=hx.cells a x
  obtain⟨b,hb⟩:=hx.dom a x;exact⟨⟨b,hb,x⟩,c,T,_,zhd x hc,zv6 ..⟩
 .intro a c e hp
  cases ex:X a with
  |false=>
   by_cases ha:a<w.heap.size
   .rw[ztD ex ha] at hp
    unfold oY at hp;cases hp
   .have:=(dP.1 hp).1
    rw[zks] at this;omega
  |true=>
   obtain⟨c',T,fz,hc⟩:=hx.cells a ex;rw[zhd ex hc] at hp;cases hp
end
end Go.Mt
namespace Go.Mt
open Go.Conc Go.Tt
open Go.ConcR (KK wgBlock WgAt stA smA rd wr DC0)
section
variable {p:bS}{Post:aF->aE->Prop}{Shun:Loc->Prop}
def BJ (p:bS)(Post:aF->aE->Prop)(Shun:Loc->Prop)(τ:cF)(g:Goroutine)(W:aE):Prop:=
 (∀b,τ.own b\/τ.still b->b<W.heap.size/\∀l,nE l b->¬Shun l)->(∀l b,nE l b->W.heap.size<=b->¬Shun l)->J p Post Shun W.heap.size g W
theorem zFD {O Z:Nat->Prop}{B:Nat}{e:Event}(h:EvQ O Z e)(hO:∀b,O b\/Z b->b<B/\∀l,nE l b->¬Shun l):EvL Shun B e:=by
 rcases h with rfl|⟨b,h1,h2⟩
 .exact⟨λx hx=>by simp[jN,qQ] at hx,aO,aO,trivial⟩
 .obtain⟨hb,hs⟩:=hO b (h2.imp id And.left)
  obtain⟨loc,wr,sy⟩:=e
  cases loc with
  |cell x=>
   simp only[Ge,gA] at h1;refine⟨λy hy lL=>?_,aO,aO,?_⟩
   .simp only[jN,qQ,gA] at hy
    subst hy;exact absurd lL (hs _ h1)
   .show x.block<B
    rw[h1];exact hb
  |obj r=>
   simp only[Ge,gA] at h1;have hr:r<B:=by rw[h1];exact hb
   refine⟨λy hy lL=>?_,aO,aO,?_⟩
   .have Vz:y.loc=.obj r:=by
     cases wr<;>cases sy<;>simp only[jN,qQ,gA] at hy<;>first|(subst hy;rfl)|(cases hy;done)
    exact absurd (Vz▸lL) (hs (.obj r) h1)
   .cases wr<;>cases sy<;>exact hr
  |_=>simp[Ge] at h1
variable {ty:aM}
def suf_atd {Wg:Nat}{τ:cF}{w:aE}(d:Nat):bT ty Wg τ w (w.at d):=⟨rfl,rfl,rfl,aX _,λ_ _=>rfl,λx=>x⟩
theorem bj_ok {Wg:Nat}(τ:cF)(g:Goroutine)(w:aE)(cH:g.status=.running)(h:OwnQ p ty Wg true (BJ p Post Shun) τ g w):BJ p Post Shun τ g w:=by
 intro h1 h2;have grow:∀(d:Nat) {w':aE},w.heap.size<=w'.heap.size->(∀b,(τ.grow (w.at d) w').own b\/τ.still b->b<w'.heap.size/\∀l,nE l b->¬Shun l)/\∀l b,nE l b->w'.heap.size<=b->¬Shun l:=λd w' hs=>by
  refine⟨λb hb=>?_,λl b hl hb=>h2 l b hl (eG hs hb)⟩;rcases hb with(hb|⟨hb,b6⟩)|hb
  .exact⟨lD (h1 b (.inl hb)).1 hs,(h1 b (.inl hb)).2⟩
  .exact⟨b6,λl hl=>h2 l b hl hb⟩
  .exact⟨lD (h1 b (.inr hb)).1 hs,(h1 b (.inr hb)).2⟩
 refine J.own cH λd=>?_;obtain⟨g',w',es,a1,a2,a3,a4,a5⟩:=h (w.at d) (suf_atd d);obtain⟨k1,k2⟩:=grow d a3.size;exact⟨g',w',es,w'.heap.size,a1,λe he=>zFD (a4 e he) k1,a3.size,a5 k1 k2⟩
structure IA (W0:aE)(St:Nat->Prop)(Shun:Loc->Prop)(R0:Pr)(R:Pr)(τ:cF)(W:aE):Prop where
 kp:Kp W0 R St W
 sh:Sh W0.heap.size Shun R W
 still:∀b,b<W0.heap.size->τ.still b
 le:R0.le R
def Fb (p:bS)(gs fs:aP->Bool)(Post:aF->aE->Prop)(Shun:Loc->Prop)(W0:aE)(St:Nat->Prop)(K R0:Pr)(base:List Frame):Cx Unit:=
 {p:=p,gs:=gs,fs:=fs,ty:=0,Wg:=0,A:=⟨λ_=>.wait,λ_ _=>True,λ_=>false,λ_=>True,λ_ _=>True,λ_ _=>[]⟩,Fin:=λ_ _=>True,main:=true,base:=base,ds:=.nil,K:=K,St:=St,I:=IA W0 St Shun R0,pin:=[],alone:=some (BJ p Post Shun),aok:=λB h τ g w hr ho=>by(cases h;exact bj_ok τ g w hr ho)}
variable {gs fs:aP->Bool}{W0:aE}{St:Nat->Prop}{K R0:Pr}{base:List Frame}
theorem dC:fG (Fb p gs fs Post Shun W0 St K R0 base):=by
 refine⟨λR τ W aV h s=>?_,λR τ W R1 W1 h ht hs=>?_⟩
 .have h:=h
  exact⟨⟨s.os.trans h.kp.os,s.tape.trans h.kp.tape,s.output.trans h.kp.output,eG h.kp.size s.size,λb hb=>(s.keep b (.inr (h.still b hb))).trans (h.kp.block b hb),h.kp.old⟩,⟨h.sh.old,h.sh.rel,λl b hl hb=>h.sh.new l b hl (eG s.size hb)⟩,h.still,h.le⟩
 .have h:=h
  have hs:=hs;refine⟨⟨hs.os.trans h.kp.os,hs.tape.trans h.kp.tape,hs.output.trans h.kp.output,eG h.kp.size hs.size,λb hb=>?_,λa b x hb=>?_⟩,⟨h.sh.old,λa b x l hl=>?_,λl b hl hb=>h.sh.new l b hl (eG hs.size hb)⟩,h.still,h.le.trans hs.le⟩
  .rw[hs.keep b (lD hb h.kp.size) (λa x=>h.kp.old a b x hb)]
   exact h.kp.block b hb
  .rcases hs.new a b x with y|⟨y,_⟩
   .exact h.kp.old a b y hb
   .have:=h.kp.size;omega
  .rcases hs.new a b x with y|⟨y,_⟩
   .exact h.sh.rel a b y l hl
   .exact h.sh.new l b hl y
def tauA (R:Pr)(St:Nat->Prop)(W0:aE):cF:=⟨λb=>∃a,R a b/\¬St a,λb=>b<W0.heap.size\/∃a,R a b/\St a,λ_=>False⟩
def zBY {R:Pr}:vF (tauA R St W0) R St:=λa b x=>⟨λh=>.inr ⟨a,x,h⟩,λh=>⟨a,x,h⟩⟩
variable {m':Fm}
theorem BO.aloneIn {R:Pr}{m:Fm}{w W:aE}(h:BO (Fb p gs fs Post Shun W0 St K R base) () m w)(hw:cV (SF fs) K R (o6 p) St w W)(hm:FmW (Fb p gs fs Post Shun W0 St K R base) R m m')(lL:Sh W0.heap.size Shun R W)(hk:Kp W0 R St W):
 J p Post Shun W.heap.size (G m'.fr base) W:=by
 have:=h R W m' (tauA R St W0) hw hm zBY ⟨hk,lL,λb hb=>.inl hb,.refl R⟩;rw[Cx.B_some rfl] at this;have e:fx [] (Fb p gs fs Post Shun W0 St K R base).ds m'=m'.fr:=G9 _;rw[e] at this;refine this (λb hb=>?_) lL.new;rcases hb with⟨a,x,_⟩|hb|⟨a,x,_⟩
 .exact⟨(hw.lt a b (.inl x)).2,lL.rel a b x⟩
 .exact⟨lD hb hk.size,λl hl=>lL.old l b hl hb⟩
 .exact⟨(hw.lt a b (.inl x)).2,lL.rel a b x⟩
theorem BO.aloneOut {op zlj:aP->Bool}{m:Fm}{ms ms':List Fm}(hm:oU (PL p op zlj) fs K R0 m m')(iP:uS (PL p op zlj) fs K R0 ms ms')(rT:base=m'.fr::ms'.map Fm.fr){ops:Array aZ}{i:Nat}{rest:List Nat}{k:List Item}(hr:m.ret=false)(pS:m.todo=.inRegion ops (i::rest)::k)
 {f:aP} {tmps:Array aF} {todo:List Item} {w:aE} {v:aF} {fnf:Func} (hf:p.funcs[f]? =some fnf) (lY:C3 fnf.results.toList) (hv:(oK fnf.results.toList tmps).run p w=.ok v w) (hJ:JL p op zlj fs St W0 Post (m.fin ops i rest k v) ms w):
 BO (Fb p gs fs Post Shun W0 St K R0 base) () ⟨f,tmps,todo,true⟩ w:=by
 intro R W x' τ hw hx ht hi;have hi:IA W0 St Shun R0 R τ W:=hi;obtain⟨f',bQ,yQ,y3⟩:=x';obtain rfl:=hx.fn;obtain rfl:=hx.todo;obtain rfl:=hx.ret;have wE:m'.ret=false:=hm.ret.symm.trans hr;have Qi:m'.todo=.inRegion ops (i::rest)::k:=hm.todo.symm.trans pS;refine Cx.ownQ rfl λaV s=>?_;have hC:=dC (p:=p) (gs:=gs) (fs:=fs) (Post:=Post) (Shun:=Shun) (W0:=W0) (St:=St) (K:=K) (R0:=R0) (base:=base);have dJ:cV (SF fs) K R (o6 p) St w aV:=Cx.Rel.suf (C:=Fb p gs fs Post Shun W0 St K R0 base) hw ht s;have yI:IA W0 St Shun R0 R τ aV:=hC.suf _ _ _ _ hi s
 let T:Tape:=λn q=>aV.tape (aV.drawn+n) q
 have yE:cV (SF fs) K R (o6 p) St (Tt.tp w T 0) aV:=⟨dJ.inj,dJ.inj',dJ.lt,dJ.low,dJ.gle,dJ.cont,dJ.rest,dJ.st,dJ.np,dJ.tb⟩;have Lq:Tp (Tt.tp w T 0) aV:=λn q=>by show aV.tape (aV.drawn+(0+n)) q=_;rw[Nat.zero_add]
 have cH:=(Py _ _ w v w hv).2 T 0;obtain⟨R1,v',W1,ev,e1,g3,e3,e4,e5⟩:=aG.run (P:=PS p gs) rfl _ (znb hx.tmps fnf.results.toList) yE Lq cH;obtain⟨ze9,_⟩:=Py _ _ aV v' W1 e1;subst ze9;have Pg:(zX p ⟨f,bQ,todo,true⟩ [m']).run p W1=.ok (m'.fin ops i rest k v',[]) W1:=(Mi Qi hf e1).1;obtain⟨_,_,_,e⟩:=zfl (main:=true) rfl wE Pg [] .nil (ms'.map Fm.fr);rw[G9,G9] at e;have Sk:fx [] (Fb p gs fs Post Shun W0 St K R0 base).ds ⟨f,bQ,todo,true⟩=(⟨f,bQ,todo,true⟩:Fm).fr:=G9 _;rw[Sk];have Ss:∀e∈seen p f ((zX p ⟨f,bQ,todo,true⟩ [m']).events p W1 #[]),Hf R1 St e:=λe he=>by
  rw[(Mi Qi hf e1).2,e4] at he;exact e5 e (by simpa using mem_seen he)
 have Ci:∀a b,R1 a b->R a b\/(W1.heap.size<=b/\b<W1.heap.size):=λa b x=>by
  rcases e3.new a b x with y|⟨_,y⟩
  .exact .inl y
  .exact .inr ⟨y,(e3.rel.ltR a b x).2⟩
 have Gq:vF (τ.grow W1 W1) R1 St:=λa b x=>by
  rcases e3.new a b x with y|⟨y1,y2⟩
  .exact⟨(ht a b y).1,λz=>.inl ((ht a b y).2 z)⟩
  .have:=(e3.rel.ltR a b x).2;omega
 have zU:IA W0 St Shun R0 R1 (τ.grow W1 W1) W1:=hC.step R τ W1 R1 W1 yI ht ⟨e3.le,rfl,rfl,rfl,aX _,Ci,λ_ _ _=>rfl⟩;refine⟨G (m'.fin ops i rest k v').fr (ms'.map Fm.fr),W1,_,?_,rfl,zP.id _ _,λe he=>zg6 (Ss e he) Gq,?_⟩
 .show stepG p true (G (Fm.fr _) base) W1=_
  rw[rT];exact e
 .rw[Cx.B_some rfl]
  intro _ _;have U9:cV (SF fs) K R1 (o6 p) St w W1:=⟨e3.rel.inj,e3.rel.inj',e3.rel.lt,e3.rel.low,e3.rel.gle,e3.rel.cont,e3.rel.rest,e3.rel.st,e3.rel.np,e3.rel.tb⟩;have hle:R0.le R1:=yI.le.trans e3.le;exact hJ K R1 W1 _ ms' Shun U9 ((hm.mono hle).fin pS g3) (iP.mono hle) zU.sh zU.kp
end
end Go.Mt
namespace Go.Mt
open Go.Conc Go.Tt Go.RowKit Go.Conc.Lib Go.ConcR.Gen
open Go.ConcR (KK wgBlock WgAt stA smA rd wr mk Payload DC0)
variable [Payload]{Lk:WgLink}
section
variable {p:bS}
theorem zGU (H:WgLib p Lk)(Wg:Nat):E0 p Lk.wait #[.pointer (some ⟨Wg,0,none⟩)] .normal=(J5 Lk.wait).at ⟨#[.pointer (some ⟨Wg,0,none⟩),aA,aA,aA,aA,aA,aA,aA,aA,aA,aA,aA,aA,aA,aA,aA,aA,aA,aA,aA,aA,aA,aA,aA,aA,aA,aA,aA,aA,aA,aA,aA,aA,aA,aA,aA,aA,aA,aA,aA,aA,aA,aA,aA,aA,aA,aA,aA,aA,aA,aA,aA,aA,aA,aA,aA,aA,aA,aA,aA,aA,aA,aA,aA,aA,aA,aA,aA,aA,aA,aA,aA,aA,aA,aA,aA,aA,aA,aA,aA,aA,aA,aA,aA],[]⟩ [.code (body_wait Lk)]:=by
 have h:=zr9 (P:=p) (f:=Lk.wait) (fn:=waitFn Lk) (c:=body_wait Lk) #[.pointer (some ⟨Wg,0,none⟩)] H.f_wait rfl;rw[h];have e:(waitFn Lk).ntmps=84:=rfl;rw[e]
 walk_nrm
theorem zJq (H:WgLib p Lk)(Wg:Nat):E0 p Lk.add #[.pointer (some ⟨Wg,0,none⟩),.int .i64 1] .normal=(J5 Lk.add).at ⟨#[.pointer (some ⟨Wg,0,none⟩),.int .i64 1,aA,aA,aA,aA,aA,aA,aA,aA,aA,aA,aA,aA,aA,aA,aA,aA,aA,aA,aA,aA,aA,aA,aA,aA,aA,aA,aA,aA,aA,aA,aA,aA,aA,aA,aA,aA,aA,aA,aA,aA,aA,aA,aA,aA,aA,aA,aA,aA,aA,aA,aA,aA,aA,aA,aA,aA,aA,aA,aA,aA,aA,aA,aA,aA,aA,aA,aA,aA,aA,aA,aA,aA,aA,aA,aA,aA,aA,aA,aA,aA,aA,aA,aA,aA,aA,aA,aA,aA,aA,aA,aA,aA,aA,aA,aA,aA,aA,aA,aA,aA,aA,aA,aA,aA,aA,aA,aA,aA,aA,aA,aA,aA,aA,aA,aA],[]⟩ [.code (M2 Lk)]:=by
 have h:=zr9 (P:=p) (f:=Lk.add) (fn:=addFn Lk) (c:=M2 Lk) #[.pointer (some ⟨Wg,0,none⟩),.int .i64 1] H.f_add rfl;rw[h];have e:(addFn Lk).ntmps=117:=rfl;rw[e]
 walk_nrm
end
section
variable {L:Type}{C:Cx L}{l nx:L}{I0:Pr->cF->aE->Prop}
theorem zq3 (hC:C.ty=Lk.tWg)(hX:IX Lk.tWg C.Wg I0){R:Pr}{τ:cF}{w:aE}(ht:vF τ R C.St):Gt Lk.tWg C.Wg τ (λW=>C.Rel R w W/\I0 R τ W):=by
 refine⟨λW W' s hF=>⟨zjq hF.1 ht (λa b x=>(hF.1.lt a b (.inr x)).2) s,hX.suf _ _ _ _ hF.2 s⟩,λW a v ha hF=>⟨?_,hX.cell _ _ _ _ _ hF.2 ha⟩⟩;exact cV.real hF.1 (λx b hx=>zaw W a v (by rw[ha];exact hX.rel _ _ _ hF.2 x b hx)) (by rw[Jo];exact aX _)
theorem BO.add (H:WgLib C.p Lk)(ha:C.alone=none)(zfo:C.main=true)(By:C.ty=Lk.tWg)(hI:fG C)(ze1:C.I=yZ Lk.tWg C.Wg I0)(hX:IX Lk.tWg C.Wg I0){fn:aP}{tmps:Array aF}{ops:Array aZ}{i:Nat}{rest:List Nat}{k:List Item}{w:aE}{o:aZ}{s:Tmp}{kH:Array aM}
 (ho:ops[i]? =some o) (cD:dF o (yielded ops tmps)=true) (hop:o.op=.call ⟨.value (.func Lk.add),#[.tmp s,.const (.int .i64 1)],kH⟩) (Dp:(s,.pointer (some ⟨C.Wg,0,none⟩))∈C.pin) (lH:∀s,o.dst=some s->s∉C.S) (p8:C.A.act l=.add nx)
 (h:BO C nx ⟨fn,(cC ⟨tmps,[]⟩ o.dst (.tuple #[])).tmps,.inRegion ops rest::k,false⟩ w):BO C l ⟨fn,tmps,.inRegion ops (i::rest)::k,false⟩ w:=by
 intro R W m' τ hw hm ht hi;obtain⟨fn',bQ,yQ,y3⟩:=m';obtain rfl:=hm.fn;obtain rfl:=hm.todo;obtain rfl:=hm.ret;have uD:=Hu (C:=C) hm.tmps cD;have h5:=hm.pins _ Dp;have hb:=C.ds.ok;rw[mG,Cx.B_none ha,zfo,By];rw[ze1] at hi;have kf:=zq3 (C:=C) (w:=w) By hX ht;have Fw:∀v,cC ⟨bQ,C.ds.ds⟩ o.dst v=⟨(cC ⟨bQ,[]⟩ o.dst v).tmps,C.ds.ds⟩:=λv=>by cases o.dst<;>rfl
 refine M3 rfl rfl (g':=G ((J5 Lk.add).at ⟨#[.pointer (some ⟨C.Wg,0,none⟩),.int .i64 1,aA,aA,aA,aA,aA,aA,aA,aA,aA,aA,aA,aA,aA,aA,aA,aA,aA,aA,aA,aA,aA,aA,aA,aA,aA,aA,aA,aA,aA,aA,aA,aA,aA,aA,aA,aA,aA,aA,aA,aA,aA,aA,aA,aA,aA,aA,aA,aA,aA,aA,aA,aA,aA,aA,aA,aA,aA,aA,aA,aA,aA,aA,aA,aA,aA,aA,aA,aA,aA,aA,aA,aA,aA,aA,aA,aA,aA,aA,aA,aA,aA,aA,aA,aA,aA,aA,aA,aA,aA,aA,aA,aA,aA,aA,aA,aA,aA,aA,aA,aA,aA,aA,aA,aA,aA,aA,aA,aA,aA,aA,aA,aA,aA,aA,aA],[]⟩ [.code (M2 Lk)]) ((C.ds.base fn).at ⟨bQ,C.ds.ds⟩ (.inRegion ops (i::rest)::k)::C.base)) (λF0 s2=>?_) λF0 s2=>?_
 .obtain⟨x1,x2⟩:=zcK (p:=C.p) (o:=o) hop (ρ:=(bH bQ C.ds.ds).eval) (λg=>rfl) H.f_add rfl rfl F0
  have sH:(#[.tmp s,.const (.int .i64 1)]:Array cM).map (bH bQ C.ds.ds).eval=#[.pointer (some ⟨C.Wg,0,none⟩),.int .i64 1]:=by simp only[uI,fO,tW,wF];rw[h5]
  rw[sH] at x1;have zcv:=stepG_enter (main:=true) (b:=C.ds.base fn) (a:=⟨bQ,C.ds.ds⟩) (rest:=rest) (cs:=C.base) (k:=k) ho uD hb x1;rw[zcv];unfold listed;rw[x2,Ct,zJq H]
 .refine addW (A:=C.A) (b₀:=C.ds.base fn) (a₀:=⟨bQ,C.ds.ds⟩) (ops₀:=ops) (i₀:=i) (rest₀:=rest) (k₀:=k) (cs:=C.base) (Fin:=C.Fin) (l:=l) (nx:=nx) (Wg:=C.Wg) H p8 kf (λW5 h5 zzs=>?_) F0 ⟨kf.suf _ _ s2 ⟨hw,hi.1⟩,s2.live hi.2⟩
  have hB:=h R W5 ⟨fn,(cC ⟨bQ,[]⟩ o.dst (.tuple #[])).tmps,.inRegion ops rest::k,false⟩ τ h5.1 ⟨rfl,rfl,rfl,Jf (C:=C) hm.tmps (.tuple rfl λi v v' h=>by simp at h),Jn (C:=C) hm.pins lH⟩ ht (by rw[ze1];exact⟨h5.2,zzs⟩);rw[mG,Cx.B_none ha,zfo,By] at hB;rw[ho];simp only[Option.bind_some];rw[Fw];exact hB
end
section
variable {L:Type}{C:Cx L}{l nx lc:L}
structure zi8 (τ τm τc:cF)(pub:List Nat)(W:aE):Prop where
 own:∀b,τm.own b\/τc.own b->τ.own b
 still:∀b,τm.still b\/τc.still b->τ.still b\/τ.own b
 pass:∀b,τm.pass b\/τc.pass b->τ.pass b\/τ.own b\/τ.still b
 apart:∀b,τm.own b->¬τc.own b/\¬τc.still b/\¬τc.pass b
 apart':∀b,τc.own b->¬τm.still b/\¬τm.pass b
 pub:∀a∈pub,τ.own a/\Ij W a/\¬τm.own a/\¬τm.still a/\¬τc.own a/\¬τc.still a
theorem BO.go (ha:C.alone=none)(hI:fG C){fn:aP}{tmps:Array aF}{ops:Array aZ}{i j:Nat}{rest:List Nat}{k:List Item}{w:aE}{o1 o2:aZ}{s:Tmp}{f:aP}{Hk:Array cM}{pub:List Nat}
 (yO:ops[i]? =some o1) (zcy:ops[j]? =some o2) (qX:o1.guard=none) (yG:o2.guard=none) (zpR:o1.op=.makeFunc (.func f) #[] Hk) (No:o1.dst=some s) (zyq:o2.op=.go ⟨.value (.tmp s),#[],#[]⟩) (Ag:o2.dst=none) (p8:C.A.act l=.spawn pub lc nx) (hs:s<tmps.size)
 (h:∀(R:Pr) (W:aE) (bQ:Array aF) (τ:cF),C.Rel R w W->bK (SF C.fs) C.K R tmps bQ->(∀x∈C.pin,bQ.getD x.1 aA=x.2)->vF τ R C.St->C.I R τ W->∃τm τc,zi8 τ τm τc pub W/\
  bZ C.p C.ty C.Wg C.A C.Fin C.main (.usr nx) 0 τm (G ((C.ds.base fn).at ⟨bQ.setIfInBounds s (.func (.func f) #[] (Hk.map (bH bQ C.ds.ds).eval)),C.ds.ds⟩ (.inRegion ops rest::k)) C.base) W/\
  bZ C.p C.ty C.Wg C.A C.Fin false (.usr lc) 0 τc (born C.p {target:=.fn (.func f) (Hk.map (bH bQ C.ds.ds).eval),args:=#[]}) W):BO C l ⟨fn,tmps,.inRegion ops (i::j::rest)::k,false⟩ w:=by
 intro R W m' τ hw hm ht hi;obtain⟨fn',bQ,yQ,y3⟩:=m';obtain rfl:=hm.fn;obtain rfl:=hm.todo;obtain rfl:=hm.ret;have hb:=C.ds.ok;rw[mG,Cx.B_none ha];have cG:=Nat.lt_of_lt_of_eq hs hm.tmps.1;obtain⟨zL2,zMi,type1,zqB,zyb,zNa⟩:=o1;obtain⟨zNh,zJ8,type2,zor,zxp,zLz⟩:=o2;simp only at qX yG zpR zyq No Ag;subst qX yG zpR zyq No Ag;have wn:∀{o:aZ} {t:Array aF},o.guard=none->dF o (yielded ops t)=true:=λh=>by unfold dF;rw[h]
 refine M3 rfl rfl (g':=G ((C.ds.base fn).at ⟨bQ.setIfInBounds s (.func (.func f) #[] (Hk.map (bH bQ C.ds.ds).eval)),C.ds.ds⟩ (.inRegion ops (j::rest)::k)) C.base) (λaV s1=>?_) λaV s1=>?_
 .have x1:(aS (bH bQ C.ds.ds).eval ⟨some s,.makeFunc (.func f) #[] Hk,type1,zqB,zyb,none⟩).run C.p aV=.ok (.value (.func (.func f) #[] (Hk.map (bH bQ C.ds.ds).eval))) aV:=by simp[aS,go_sem,zxF,pure,bD]
  have x2:(aS (bH bQ C.ds.ds).eval ⟨some s,.makeFunc (.func f) #[] Hk,type1,zqB,zyb,none⟩).events C.p aV #[]=#[]:=by simp[aS,go_sem,zxF]
  rw[stepG_value yO (wn rfl) hb x1];unfold listed;rw[x2,Ct];rfl
 .refine bZ.usr rfl ?_
  unfold mF;rw[p8];refine⟨rfl,λF0 s2=>?_⟩;have s3:=s1.trans s2;obtain⟨τm,τc,hp,yK,nK⟩:=h R F0 bQ τ (hw.suf ht s3) hm.tmps hm.pins ht (hI.suf _ _ _ _ hi s3);refine⟨_,_,τm,τc,?_,rfl,rfl,hp.own,hp.still,hp.pass,hp.apart,hp.apart',hp.pub,yK,nK⟩;have x0:(bH (bQ.setIfInBounds s (.func (.func f) #[] (Hk.map (bH bQ C.ds.ds).eval))) C.ds.ds).eval (.tmp s)=.func (.func f) #[] (Hk.map (bH bQ C.ds.ds).eval):=by
   simp[wF,Array.getD_eq_getD_getElem?,cG]
  have x1:(aS (bH (bQ.setIfInBounds s (.func (.func f) #[] (Hk.map (bH bQ C.ds.ds).eval))) C.ds.ds).eval ⟨none,.go ⟨.value (.tmp s),#[],#[]⟩,type2,zor,zxp,none⟩).run C.p F0=.ok (.spawn {target:=.fn (.func f) (Hk.map (bH bQ C.ds.ds).eval),args:=#[]}) F0:=by
   simp only[aS,resolve,x0];simp[Bu,go_sem]
  have x2:(aS (bH (bQ.setIfInBounds s (.func (.func f) #[] (Hk.map (bH bQ C.ds.ds).eval))) C.ds.ds).eval ⟨none,.go ⟨.value (.tmp s),#[],#[]⟩,type2,zor,zxp,none⟩).events C.p F0 #[]=#[]:=by
   simp only[aS,resolve,x0];simp[Bu,go_sem]
  rw[stepG_spawn zcy (wn rfl) hb x1 rfl];unfold listed;rw[x2,Ct];rfl
end
end Go.Mt
namespace Go.Mt
open Go.Conc Go.Tt
open Go.ConcR (KK wgBlock WgAt stA smA rd wr mk Payload DC0)
inductive xV (S:aP->Prop)(K R:Pr):List aF->List aF->Prop
 |nil:xV S K R [] []
 |cons {v v':aF} {l l':List aF}:VR S K R v v'->xV S K R l l'->xV S K R (v::l) (v'::l')
variable {S:aP->Prop}{K R:Pr}{l l':List aF}
theorem xV.len (h:xV S K R l l'):l.length=l'.length:=by
 induction h with
 |nil=>rfl
 |cons _ _ ih=>simp[ih]
theorem xV.get (h:xV S K R l l'):∀(i:Nat) (v v':aF),l[i]? =some v->l'[i]? =some v'->VR S K R v v':=by
 induction h with
 |nil=>intro i v v' h1;simp at h1
 |cons a _ ih=>
  intro i v v' h1 h2
  cases i with
  |zero=>
   simp only[List.getElem?_cons_zero,gA] at h1 h2;subst h1 h2;exact a
  |succ i=>exact ih i v v' Uz Sb
theorem zuu (h:xV S K R l l'):bK S K R l.toArray l'.toArray:=
 ⟨by simpa using h.len,λi v v' h1 h2=>h.get i v v' Uz Sb⟩
structure IM2 (W0:aE)(St:Nat->Prop)(Shun:Loc->Prop)(Wg:Nat)(SS:Nat->Prop)(R0:Pr)(Fz:Nat->Prop)(Wf:aE)(chs:List Nat)(R:Pr)(τ:cF)(W:aE):Prop where
 x:IMX W0 St Shun Wg SS R0 Fz Wf R τ W
 dis:∀b,τ.own b->¬τ.still b
 slt:∀b,τ.still b->b<W.heap.size
 ch:∀c∈chs,τ.own c/\Ij W c/\∀a,¬R a c
section
variable {W0:aE}{St:Nat->Prop}{Shun:Loc->Prop}{Wg:Nat}{SS:Nat->Prop}{R0:Pr}{Fz:Nat->Prop}{Wf:aE}{chs:List Nat}
def Ij.lt {W:aE}{c:Nat}(h:Ij W c):c<W.heap.size:=(dP.1 h).1
theorem zx6 {ty:aM}(vM:∀b,b<W0.heap.size->SS b)(hF:∀b,Fz b->SS b)(nI:W0.heap.size<=Wg):IX ty Wg (IM2 W0 St Shun Wg SS R0 Fz Wf chs):=by
 have hx:=zrv (ty:=ty) (St:=St) (Shun:=Shun) (Wg:=Wg) (R0:=R0) (Wf:=Wf) vM hF nI;refine⟨λR τ W aV h s=>⟨hx.suf _ _ _ _ h.x s,h.dis,λb hb=>lD (h.slt b hb) s.size,λc hc=>?_⟩,λR τ W a v h ha=>⟨hx.cell _ _ _ _ _ h.x ha,h.dis,λb hb=>by rw[Jo];exact h.slt b hb,λc hc=>?_⟩,λR τ W d h=>⟨hx.at_ _ _ _ d h.x,h.dis,h.slt,h.ch⟩,λR τ W h=>h.x.im.rel⟩
 .obtain⟨h1,h2,h3⟩:=h.ch c hc
  exact⟨h1,(s.keep c (.inl h1)).trans h2,h3⟩
 .obtain⟨h1,h2,h3⟩:=h.ch c hc
  exact⟨h1,(zaw W a v (by rw[ha];exact h.x.im.own c h1)).trans h2,h3⟩
variable {L:Type}{C:Cx L}
theorem im2_ok (hC:C.I=yZ C.ty C.Wg (IM2 W0 St Shun C.Wg SS R0 Fz Wf chs))(aY:∀a,St a->C.St a)(vM:∀b,b<W0.heap.size->SS b)(hF:∀b,Fz b->SS b)(nI:W0.heap.size<=C.Wg):fG C:=by
 have h0:=imx_ok (C:={C with I:=yZ C.ty C.Wg (IMX W0 St Shun C.Wg SS R0 Fz Wf)}) rfl aY vM hF nI;have hx:=zx6 (ty:=C.ty) (St:=St) (Shun:=Shun) (R0:=R0) (Wf:=Wf) (chs:=chs) vM hF nI;refine⟨λR τ W aV h s=>?_,λR τ W R1 W1 h ht hs=>?_⟩<;>rw[hC] at*
 .exact⟨hx.suf _ _ _ _ h.1 s,s.live h.2⟩
 .obtain⟨k1,k2⟩:=h0.step R τ W R1 W1 ⟨h.1.x,h.2⟩ ht hs
  refine⟨⟨k1,λb hb Gk=>?_,λb hb=>lD (h.1.slt b hb) hs.size,λc hc=>?_⟩,k2⟩
  .rcases hb with hb|⟨hb,_⟩
   .exact h.1.dis b hb Gk
   .have:=h.1.slt b Gk;omega
  .obtain⟨h1,h2,h3⟩:=h.1.ch c hc
   refine⟨.inl h1,(hs.keep c h2.lt λa x=>absurd x (h3 a)).trans h2,λa x=>?_⟩;rcases hs.new a c x with y|⟨y,_⟩
   .exact h3 a y
   .have:=h2.lt;omega
variable {S:aP->Prop}{K R:Pr}{G:Gp}{eO:Nat->Prop}{w W:aE}{τ:cF}{X:Nat->Bool}
def Gc (R:Pr)(St:Nat->Prop)(X:Nat->Bool)(b:Nat):Prop:=∃a,R a b/\(St a\/X a=true)
def tauP (R:Pr)(St:Nat->Prop)(W0:aE)(chs:List Nat):cF:=⟨λb=>(∃a,R a b/\¬St a)\/b∈chs,λb=>b<W0.heap.size\/∃a,R a b/\St a,λ_=>False⟩
def terra_p:vF (tauP R St W0 chs) R St:=λa b x=>⟨λh=>.inr ⟨a,x,h⟩,λh=>.inl ⟨a,x,h⟩⟩
end
end Go.Mt
