/-
  Part 4 of what stands behind the last text.
-/
import Derived.Test.YtfcjiloojkjaeaaDoorShelf
import Derived.Test.YtfcjiloojkjaeaaDoorClockPq3
set_option linter.all false
set_option maxHeartbeats 16000000
set_option maxRecDepth 100000
open Array renaming eraseIdxIfInBounds→zwF,getElem?_eq_some_iff→dM,getElem?_mapIdx→L6,getElem?_setIfInBounds_ne→jM,getElem?_toList→zR,getElem_map→zj6,getElem_range→zh5,getElem_toList→zmu,length_toList→De,toList_eraseIdx→zpg,toList_modify→zvN,toList_push→zw4
open Bool renaming and_eq_true→fN
open Go renaming Act→tE,Addr→bO,Calls→iE,ChanDir→Mr,Deferred→Eo,Exit→nQ,FuncId→aN,MapEntry→oS,Oper→aY,Operand→cM,Program→bS,TypeId→aM,Value→aF,World→aE,bodyPost_ret→qP,execOp→aO,heap_alloc_new→lO,info_parts→y3,run_append_room→zs0,run_storeCells_at→zwt,run_underlying→wU,setRow_heap→Jb,size_zeroCells→Xz,undef→aA,wpList_plain→Tb
open Go.Act renaming eval→vW,mk→bH,put→b7
open Go.Addr renaming add_lit→Jt
open Go.Builtin renaming append_→wG,clear_→Qn,copy_→C8,delete_→Kd,zeroCells→pS
open Go.Code renaming region→Dl
open Go.Conc renaming base→Ju,enter_at→zpa,seen_none→Bm
open Go.ConcR.Gen renaming body_add→L9
open Go.Deferred renaming ofValue→Bg
open Go.Frame renaming enter→Ed
open Go.Instr renaming checkKey→Ga,findAsking→Jm,findKey→J8,findNow→Gt,keyThatStays→Oa,lookup→yP,makeFunc→zwd,mapUpdate→Gg,sameBits→zb5,sameNow→vF
open Go.MapKept renaming run_getObj_map→Yl,run_setObj_map→Y2
open Go.MemAct renaming ofEvent→jB,touch?→qG
open Go.Op renaming mapUpdate→zpF,maxDepth→Tx
open Go.Oper renaming wp→Ay
open Go.Proofs.Tryd renaming checked→vD,func77→zrr,func80→zpG,func82→zsx,ntmps77→zt4,ntmps80→zqt,ntmps82→znH,prog→aK,results11→zeu,underlying38→zv5,underlying48→zsu,underlying51→zlS,underlying52→Xd
open Go.Region renaming wanted→dA
open Go.Result renaming andThen→uC,andThen_ok→D8,ok→vT
open Go.RowKit renaming Below→bU
open Go.RowKit.Below renaming heap_alloc→tL,heap_setCell→dZ,refl→eR
open Go.Sem renaming getObj→zs8,run→bD,run_bind→D5,run_pure→Ib
open Go.Value renaming agg→zml,cells→Rh,slice→Sm
open Go.World renaming cell?_of_block→Co,news_of_block→Em,size_setCell→sE
open List renaming all_eq_true→tJ,any_eq_true→Qo,append_assoc→G8,append_nil→Mh,countP_cons→znk,drop_drop→znL,drop_eq_getElem_cons→zf6,eraseIdx_cons_succ→zsN,ext_getElem?→X5,filter_append→Pd,filter_eq_nil_iff→zrz,filter_eq_self→zev,find?_eq_none→zfm,find?_some→zhK,foldl_cons→Pc,getD_cons_succ→Cm,getD_cons_zero→C4,getD_eq_getElem?_getD→Jl,getElem?_append_left→yO,getElem?_append_right→zS,getElem?_drop→Vf,getElem?_eq_getElem→lP,getElem?_eq_none→Gk,getElem?_eq_none_iff→zoP,getElem?_eq_some_iff→jW,getElem?_modify→zG,getElem?_set→zcy,getElem?_take→Uz,length_append→gJ,length_cons→pG,length_drop→xS,length_eq_zero_iff→zqe,length_modify→Gj,length_nil→tV,length_set→ziR,length_take→rJ,map_append→If,map_cons→fG,map_nil→tH,map_toArray→uG,mem_append→Dv,mem_cons→iX,mem_cons_of_mem→Gn,mem_filter→H5,mem_iff_getElem→Kh,mem_iff_getElem?→F7,mem_map→Hv,mem_map_of_mem→Uu,mem_of_find?_eq_some→zgv,mem_of_getElem?→dS,mem_of_mem_drop→zcI,mem_range→B6,mem_singleton→sC,nodup_append→zmI,nodup_cons→Ch,nodup_nil→Pq,range→gD,setIfInBounds_toArray→gK,set_append_left→zsF,set_cons_succ→dX,set_cons_zero→dV,size_toArray→Ec,take_add_one→L0,take_append_drop→zuf,take_append_of_le_length→Dp,take_of_length_le→yR,take_take→Nv
open Nat renaming add_mul→Xs,add_zero→Ra,eq_zero_or_pos→Ou,le_max_left→zoM,le_refl→aZ,le_succ→Pu,le_trans→eP,lt_irrefl→Cb,lt_of_lt_of_le→lA,lt_or_ge→nM,lt_succ_self→wL,min_self→ziD,mod_two_eq_zero_or_one→zqm,mul_le_mul_right→zT,mul_one→zqE,sub_self→M9,zero_le→lB
open Option.some renaming inj→cD,injEq→fS
open Prod renaming fst→tY,snd→zqF
noncomputable section
namespace Go
theorem cO{P:Prop}(h:P:=by unfold parts;simp[e]):P:=h
theorem zgd{P:Prop}(h:P:=by simp[Act.eval,Act.put];first|exact⟨by simpa using hA,by omega⟩|simpa[zdO] using hA|(simp at hA;simp[hA])):P:=h
theorem zdb{P:Prop}(h:P:=by simp[Act.eval,Act.put]):P:=h
theorem zxi{P:Prop}(h:P:=by rw[gJ,l1,uL];have:=Xs i (n-j) 1;omega):P:=h
theorem zoE{P:Prop}(h:P:=by rw[gJ,l1,uL];have:=Xs i (n-j) 2;omega):P:=h
theorem zc5{P:Prop}(h:P:=by unfold parts;simp):P:=h
theorem zkw{P:Prop}(h:P:=by have:=h.size;omega):P:=h
theorem zne{P:Prop}(h:P:=by unfold zE;omega):P:=h
end Go
namespace Go.Proofs.YtfcjiloojkjaeaaDoor
open Go.RowKit
structure r9 (w0 w:aE)(gb:Nat)(o:jE)(v:fD)(r:b6):Prop where
 ok:dR w gb v r
 bel:bU gb w0 w
 ofc:w.heap[gb]? =some (.cells #[.int .i64 o.ln,.int .i64 o.op,.int .i64 o.pt] 27)
 res:w.heap[gb+1]? =some jO
 blk:w.heap[gb+6]? =some (Ew v r)
 aR:gb+2<=v.gR/\v.gR≠gb+6
 aW:gb+2<=v.gW/\v.gW≠gb+6
 aB:gb+2<=v.gB/\v.gB≠gb+6
 aL:gb+2<=v.gL/\v.gL≠gb+6
 size:gb+7<=w.heap.size
section
variable {w0 w w':aE}{gb:Nat}{o:jE}{v v':fD}{r r':b6}
def r9.keep (h:r9 w0 w gb o v r)(b:bU w.heap.size w w'):r9 w0 w' gb o v r:=
 ⟨h.ok.below b,h.bel.trans (b.mono zkw),(b.block _ (kU h.ofc)).trans h.ofc,(b.block _ (kU h.res)).trans h.res,(b.block _ (kU h.blk)).trans h.blk,h.aR,h.aW,h.aB,h.aL,eP h.size b.size⟩
def r9.alloc (h:r9 w0 w gb o v r)(ob:Obj):r9 w0 (w.alloc ob) gb o v r:=h.keep (dO (eR _ _) ob)
def r9.drew (h:r9 w0 w gb o v r):r9 w0 w.drew gb o v r:=h.keep ⟨rfl,rfl,rfl,aZ _,λ_ _=>rfl⟩
theorem r9.stepped (h:r9 w0 w gb o v r)(ok:dR w' gb v' r')(t:n5 v w w')(m:vX w.heap.size v v'):
 bU gb w0 w'/\w'.heap[gb]? =w.heap[gb]? /\w'.heap[gb+1]? =w.heap[gb+1]? /\w'.heap[gb+6]? =w.heap[gb+6]? /\(gb+2<=v'.gR/\v'.gR≠gb+6)/\(gb+2<=v'.gW/\v'.gW≠gb+6)/\(gb+2<=v'.gB/\v'.gB≠gb+6)/\(gb+2<=v'.gL/\v'.gL≠gb+6)/\w.heap.size<=w'.heap.size:=by
 have aR:=h.aR;have aW:=h.aW;have aB:=h.aB;have aL:=h.aL;have mr:=m.r;have mw:=m.w;have mb:=m.b;have ml:=m.l;have sz:=h.size;refine⟨⟨t.os.trans h.bel.os,t.tape.trans h.bel.tape,t.output.trans h.bel.output,eP h.bel.size t.size,λb hb=>?_⟩,t.block _ aD aD aD,t.block _ aD aD aD,t.block _ aD aD aD,aD,aD,aD,aD,t.size⟩;exact(t.block b aD aD aD).trans (h.bel.block b hb)
theorem r9.stored (ok:dR w gb v' r')(bel:bU gb w0 w)(e0:w.heap[gb]? =some (.cells #[.int .i64 o.ln,.int .i64 o.op,.int .i64 o.pt] 27))(e1:w.heap[gb+1]? =some jO)(e6:w.heap[gb+6]? =some (Ew v r))
 (a1:gb+2<=v'.gR/\v'.gR≠gb+6) (a2:gb+2<=v'.gW/\v'.gW≠gb+6) (a3:gb+2<=v'.gB/\v'.gB≠gb+6) (a4:gb+2<=v'.gL/\v'.gL≠gb+6) (sz:gb+7<=w.heap.size):
 r9 w0 (gI w (gb+6) (.int .i64 r'.o.ln) (.int .i64 r'.o.op) (.int .i64 r'.o.pt) (.int .i64 r'.clk) (v'.sR r') (v'.sW r') (v'.sB r') (v'.sL r')) gb o v' r':=by
 refine⟨ok.set8 aD,?_,(F9 aD).trans e0,(F9 aD).trans e1,za5 e6,a1,a2,a3,a4,by rw[zkD];exact sz⟩;have c:=zdh w (gb+6) (.int .i64 r'.o.ln) (.int .i64 r'.o.op) (.int .i64 r'.o.pt) (.int .i64 r'.clk) (v'.sR r') (v'.sW r') (v'.sB r') (v'.sL r');exact bel.trans ⟨c.os,c.tape,c.output,c.size,λb hb=>c.block b aD aD⟩
theorem r9.appL {m g c:Nat}{x:List UInt8}(h:r9 w0 w gb o v r)(hg:w.grownBy w' (some v.gL))(ho:w'.ownsRow gb 9 1 (.slice (some ⟨g,0,none⟩) m c) m (E7 r.log++[.string ⟨x.toArray⟩]))(hm:m=r.log.length+1)(hw:g=v.gL\/g=w.heap.size):
 r9 w0 (w'.setCell ⟨gb+6,7,none⟩ (.slice (some ⟨g,0,none⟩) m c)) gb o {v with gL:=g,cL:=c} {r with log:=r.log++[x]}:=by
 have aR:=h.aR;have aW:=h.aW;have aB:=h.aB;have aL:=h.aL;have sz:=h.size;have l:=h.ok.lts;have hk:=h.ok.appL hg ho hm aD;have hs:=hg.size;have kb:=(y8 hg h.blk aD).1;have k0:=(y8 hg h.ofc aD).1;have k1:=(y8 hg h.res aD).1;have aT:g≠gb+6:=aD;refine⟨hk.setCell (by refine⟨?_,?_,?_,?_⟩<;>(simp only;omega)),?_,(dZ w' _ _ gb (by show gb≠gb+6;omega)).trans k0,(dZ w' _ _ (gb+1) (by show gb+1≠gb+6;omega)).trans k1,?_,aR,aW,aB,⟨by simp only;omega,aT⟩,by rw[sE];omega⟩
 .refine⟨hg.os.trans h.bel.os,hg.tape.trans h.bel.tape,hg.output.trans h.bel.output,by rw[sE];exact eP h.bel.size hs,λb hb=>?_⟩
  exact((dZ w' _ _ b (by show b≠gb+6;omega)).trans (hg.block b aD rF)).trans (h.bel.block b hb)
 .rw[oZ kb]
  have e:=room_L v r g c (r.log++[x]);rw[hm];simp only[gJ,pG,tV] at e;exact congrArg (λa=>some (Obj.cells a 40)) e
end
def zGh (o:jE)(es:List dG)(w:aE)(x:Ending)(w':aE):Prop:=
 ∃v,x=.returned (.tuple #[.agg (fO v (Lq o es)),.bool (jV o es)])/\dR w' w.heap.size v (Lq o es)/\bU w.heap.size w w'
variable {w0 w:aE}{gb:Nat}{o:jE}{v:fD}{r:b6}
theorem r9.done {a0 a1 a2 a3 a4 a5 a6 a7:aF}(h:r9 w0 w gb o v r):dR (gI w (gb+1) a0 a1 a2 a3 a4 a5 a6 a7) gb v r/\bU gb w0 (gI w (gb+1) a0 a1 a2 a3 a4 a5 a6 a7):=by
 have aR:=h.aR;have aW:=h.aW;have aB:=h.aB;have aL:=h.aL;refine⟨h.ok.set8 aD,?_⟩;have c:=zdh w (gb+1) a0 a1 a2 a3 a4 a5 a6 a7;exact h.bel.trans ⟨c.os,c.tape,c.output,c.size,λb hb=>c.block b zkw aD⟩
def r9.doneR (h:r9 w0 w gb o v r)(v1:fD)(r1:b6):dR (gI w (gb+1) (.int .i64 r1.o.ln) (.int .i64 r1.o.op) (.int .i64 r1.o.pt) (.int .i64 r1.clk) (v1.sR r1) (v1.sW r1) (v1.sB r1) (v1.sL r1)) gb v r/\bU gb w0 (gI w (gb+1) (.int .i64 r1.o.ln) (.int .i64 r1.o.op) (.int .i64 r1.o.pt) (.int .i64 r1.clk) (v1.sR r1) (v1.sW r1) (v1.sB r1) (v1.sL r1)):=h.done
def zCF {w':aE}{b g o1:Nat}{o2 o3 o4:Nat}{v1 v2 v3 v4:aF}(h:w.cell? ⟨b,o1,none⟩=some v1/\w.cell? ⟨b,o2,none⟩=some v2/\w.cell? ⟨b,o3,none⟩=some v3/\w.cell? ⟨g,o4,none⟩=some v4)(k1:w'.heap[b]? =w.heap[b]?)(k2:w'.heap[g]? =w.heap[g]?):
 w'.cell? ⟨b,o1,none⟩=some v1/\w'.cell? ⟨b,o2,none⟩=some v2/\w'.cell? ⟨b,o3,none⟩=some v3/\w'.cell? ⟨g,o4,none⟩=some v4:=
 ⟨(Co k1).trans h.1,(Co k1).trans h.2.1,(Co k1).trans h.2.2.1,(Co k2).trans h.2.2.2⟩
def zCd {b g o1:Nat}{o2 o3 o4:Nat}{v1 v2 v3 v4:aF}(h:w.cell? ⟨b,o1,none⟩=some v1/\w.cell? ⟨b,o2,none⟩=some v2/\w.cell? ⟨b,o3,none⟩=some v3/\w.cell? ⟨g,o4,none⟩=some v4):
 w.drew.cell? ⟨b,o1,none⟩=some v1/\w.drew.cell? ⟨b,o2,none⟩=some v2/\w.drew.cell? ⟨b,o3,none⟩=some v3/\w.drew.cell? ⟨g,o4,none⟩=some v4:=h
def zIJ (w:aE)(b:Nat):w.drew.heap[b]? =w.heap[b]? :=rfl
def zn6:(aK.info? 9).map (λi=>(i.zero,i.size,i.bytes))=some (some (.string ⟨#[]⟩),1,16):=aS
variable {es:List dG}
theorem Uc (h:jV o es=false):Lq o es=l6 o:=by unfold Lq;rw[h];rfl
theorem zFl (o:jE)(lo hi n c:Nat)(A:Option bO)(es:List dG)(w:aE)(h:cG w lo hi 3 A n c (lW es))(hn:n<=1048576)(zkS:hi<=w.heap.size):
 iE aK 11 #[.agg #[.int .i64 o.ln,.int .i64 o.op,.int .i64 o.pt],.slice A n c] w (zGh o es w):=by
 have B7:=h.eventsLen;have Ny:=aC B7;obtain⟨gb,eK⟩:=aU w.heap.size;have fK:=aC eK;clear B7
 go_enter Tryd.func11,Tryd.ntmps11
 go_upto_region 2 with fail
 obtain⟨v0,eM⟩:=aU (⟨w.heap.size+1+1,0,w.heap.size+1+1+1,0,w.heap.size+1+1+1+1,0,w.heap.size+1+1+1+1+1,0⟩:fD)
 obtain⟨W1,dC⟩:∃y,y=(((((((w.alloc (.cells #[.int .i64 o.ln,.int .i64 o.op,.int .i64 o.pt] 27)).alloc jO).alloc (.cells #[] 107)).alloc (.cells #[] 79)).alloc (.cells #[] 79)).alloc (.cells #[] 9)).alloc
  (.cells #[.int .i64 o.ln,.int .i64 o.op,.int .i64 o.pt,.int .i64 0,.slice (some ⟨w.heap.size+1+1,0,none⟩) 0 0,.slice (some ⟨w.heap.size+1+1+1,0,none⟩) 0 0,.slice (some ⟨w.heap.size+1+1+1+1,0,none⟩) 0 0,.slice (some ⟨w.heap.size+1+1+1+1+1,0,none⟩) 0 0] 40)):=⟨_,rfl⟩
 have eO:=aC (show r9 w W1 gb o v0 (l6 o) by
  have mI:bU w.heap.size w W1:=by rw[dC];exact dO (dO (dO (dO (dO (dO (dO (eR _ _) _) _) _) _) _) _) _
  refine⟨⟨?_,?_,?_,?_,?_⟩,by rw[eK];exact mI,?_,?_,?_,?_,?_,?_,?_,?_⟩
  .rw[eM];exact Oh Jn (by rw[dC];exact dF (dF (dF (dF (mX _ _ aQ) _) _) _) _)
  .rw[eM];exact Oh Jn (by rw[dC];exact dF (dF (dF (mX _ _ aQ) _) _) _)
  .rw[eM];exact Oh Jn (by rw[dC];exact dF (dF (mX _ _ aQ) _) _)
  .rw[eM];exact Oh Jn (by rw[dC];exact dF (mX _ _ aQ) _)
  .rw[eM];simp only;omega
  .rw[dC];exact dF (dF (dF (dF (dF (dF (mX _ _ eK) _) _) _) _) _) _
  .rw[dC];exact dF (dF (dF (dF (dF (mX _ _ X9) _) _) _) _) _
  .rw[dC,eM];exact mX _ _ X9
  .rw[eM];simp only;omega
  .rw[eM];simp only;omega
  .rw[eM];simp only;omega
  .rw[eM];simp only;omega
  .rw[dC,eK];simp)
 rw[<-dC];have e6:w.heap.size+1+1+1+1+1+1=gb+6:=aD;rw[e6,<-eK];clear dC eM e6 eK;have q0:=aJ eO.o.ofc 0;have q1:=aJ eO.o.ofc 1;have q2:=aJ eO.o.ofc 2;cases hv:qY o
 case false=>
  have eZ:=aC (show jV o es=false by unfold jV;rw[hv];rfl)
  go_upto_region 3 with(go_at_call 15;refine(zmm o W1).mono ?_;rintro x w2 ⟨rfl,b2⟩;have rH:=aC b2;rw[hv];clear b2)
  have nC:=aC (eO.o.keep rH.o);clear q0 q1 q2;have k:=aJ nC.o.blk;obtain⟨k0,k1,k2,k3,k4,k5,k6,k7⟩:=eF k;clear k;have z:=aJ nC.o.res;obtain⟨z0,z1,z2,z3,z4,z5,z6,z7⟩:=eF z;clear z;have r0:=eL nC.o.res
  go_wp2_with fail
  have er:=aJ (sJ v0 (l6 o) nC.o.res);refine qP (v:=.tuple #[.agg (fO (v0) (l6 o)),.bool false]) ?_ rfl ?_
  .unfold gI at er
   simp[results,zeu,go_sem,er]
  .obtain⟨d1,d2⟩:=nC.o.doneR v0 (l6 o)
   exact⟨v0,by rw[eZ.o];rw[Uc eZ.o],by rw[Uc eZ.o,<-fK.o];exact d1,by rw[<-fK.o];exact d2⟩
 case true=>
  by_cases za0:n<=60
  case neg=>
   have eZ:=aC (show jV o es=false by unfold jV;rw[hv,Ny.o];simp;intro h;omega)
   go_upto_region 3 with(go_at_call 15;refine(zmm o W1).mono ?_;rintro x w2 ⟨rfl,b2⟩;have rH:=aC b2;rw[hv];clear b2)
   have nC:=aC (eO.o.keep rH.o);clear q0 q1 q2;have k:=aJ nC.o.blk;obtain⟨k0,k1,k2,k3,k4,k5,k6,k7⟩:=eF k;clear k;have z:=aJ nC.o.res;obtain⟨z0,z1,z2,z3,z4,z5,z6,z7⟩:=eF z;clear z;have r0:=eL nC.o.res
   go_wp2_with fail
   have er:=aJ (sJ v0 (l6 o) nC.o.res);refine qP (v:=.tuple #[.agg (fO (v0) (l6 o)),.bool false]) ?_ rfl ?_
   .unfold gI at er
    simp[results,zeu,go_sem,er]
   .obtain⟨d1,d2⟩:=nC.o.doneR v0 (l6 o)
    exact⟨v0,by rw[eZ.o];rw[Uc eZ.o],by rw[Uc eZ.o,<-fK.o];exact d1,by rw[<-fK.o];exact d2⟩
  case pos=>
   have HV:=aC hv
   go_upto_region 4 with(go_at_call 15;refine(zmm o W1).mono ?_;rintro x w2 ⟨rfl,b2⟩;have rH:=aC b2;rw[hv];clear b2)
   have nC:=aC (eO.o.keep rH.o);clear q0 q1 q2 hv
   go_wp2_with fail
   go_loopw [7] (λi wr=>∃k:Nat,k<=n/\i=.int .i64 k/\r9 w wr gb o v0 (l6 o)/\∀j,j<k->∀e,es[j]? =some e->sK o.op e=true) (λi _=>n-(intOf i).toNat)
   case atStart=>exact⟨0,lB _,rfl,nC.o,λj hj=>absurd hj aD⟩
   case round=>
    obtain⟨k,hk,rfl,Wi,fP⟩:=hrel;have HC:=aC fP;have Y3:=aC Wi;clear fP Wi;by_cases aP:k<n
    .obtain⟨b,off,e,hA,dY,zAf,zhz,Dw,e0,e1,e2⟩:=(h.below (fK.o▸Y3.o.bel)).eventsAt aP
     subst hA;have No:=aC Dw;have zFi:b<gb:=by have:=fK.o;omega
     have i0:(0:Int)<=(k:Int):=aD;have i1:(k:Int)<(n:Int):=aD;have Cv:=aC (And.intro e0 (And.intro e1 (And.intro e2 (show wr.cell? ⟨gb,1,none⟩=some (.int .i64 o.op) from aJ Y3.o.ofc 1))));have zko:gb<wr.heap.size:=kU Y3.o.ofc;clear Dw e0 e1 e2
     go_wp2_with fail
     go_region_held3 (λW=>W.cell? ⟨b,off+k*3,none⟩=some (.string e.k)/\W.cell? ⟨b,off+k*3+1,none⟩=some (.int .i64 e.a)/\W.cell? ⟨b,off+k*3+2,none⟩=some (.int .i64 e.b)/\W.cell? ⟨gb,1,none⟩=some (.int .i64 o.op))
      (first|exact Cv.o|exact zCd Cv.o|exact S5)
      ((go_at_call 16;refine(zBR e o.op wr.drew).mono ?_;rintro y w5 ⟨rfl,b5⟩;have zgk:bU wr.heap.size wr w5:=⟨b5.os,b5.tape,b5.output,b5.size,b5.block⟩;have C0:=aC zgk;have S5:=zCF Cv.o (zgk.block b aD) (zgk.block gb aD);clear b5 zgk))
     cases mD:sK o.op e
     .have eZ:=aC (show jV o es=false by
       unfold jV;rw[Bool.and_eq_false_iff];refine .inr (Bool.eq_false_iff.2 λrU=>?_);rw[tJ] at rU;have:=rU e (dS No.o);rw[mD] at this;cases this)
      have nC:=aC (Y3.o.keep C0.o);clear mD S5;have k:=aJ nC.o.blk;obtain⟨k0,k1,k2,k3,k4,k5,k6,k7⟩:=eF k;clear k;have z:=aJ nC.o.res;obtain⟨z0,z1,z2,z3,z4,z5,z6,z7⟩:=eF z;clear z;have r0:=eL nC.o.res
      go_wp2_with fail
      have er:=aJ (sJ v0 (l6 o) nC.o.res);refine qP (v:=.tuple #[.agg (fO (v0) (l6 o)),.bool false]) ?_ rfl ?_
      .unfold gI at er
       simp[results,zeu,go_sem,er]
      .obtain⟨d1,d2⟩:=nC.o.doneR v0 (l6 o)
       exact⟨v0,by rw[eZ.o];rw[Uc eZ.o],by rw[Uc eZ.o,<-fK.o];exact d1,by rw[<-fK.o];exact d2⟩
     .go_wp2_with fail
      go_roundw
      case rel=>exact⟨k+1,aD,pT,Y3.o.keep C0.o,λj hj e' M3=>by
       by_cases e:j=k
       .subst e;rw[No.o] at M3;injection M3 with M3;exact M3▸mD
       .exact HC.o j aD e' M3⟩
      case measure=>simp[intOf];omega
    .have e:k=n:=aD
     subst e;have bV:jV o es=true:=by
      unfold jV;rw[HV.o,Ny.o];simp only[Bool.true_and,fN,decide_eq_true_eq,tJ];refine⟨za0,λe he=>?_⟩;obtain⟨j,hj⟩:=F7.1 he;have sN:=(jW.1 hj).1;exact HC.o j (by rw[<-Ny.o];exact sN) e hj
     have eZ:=aC bV;have zz9:=aC (Tw bV);clear bV
     go_wp2_with fail
     go_loopw [8] (λi wr=>∃(j:Nat) (v1:fD),j<=k/\i=.int .i64 j/\r9 w wr gb o v1 (mB o es j)) (λi _=>k-(intOf i).toNat)
     case atStart=>exact⟨0,v0,lB _,rfl,Y3.o⟩
     case round=>
      obtain⟨j,v1,hj,rfl,Wi⟩:=hrel;obtain⟨tI,tC,tO⟩:=zz9.o j (by rw[Ny.o];exact hj);obtain⟨r1,jT⟩:=aU (mB o es j);rw[<-jT] at Wi tI tC tO;have lF:=aC jT;have lC:=aC Wi;clear jT Wi;by_cases aP:j<k
      .obtain⟨b,off,e,hA,dY,zAf,zhz,Dw,e0,e1,e2⟩:=(h.below (fK.o▸lC.o.bel)).eventsAt aP
       subst hA;have zFi:b<gb:=by have:=fK.o;omega
       have i0:(0:Int)<=(j:Int):=aD;have i1:(j:Int)<(k:Int):=aD;have zof:=aC (tI.good tC aD);have zjd:=aC (show sK r1.o.op e=true by
        rw[tO];have:=eZ.o;unfold jV at this;simp only[fN,tJ] at this;exact this.2 e (dS Dw))
       have zpl:=aC (Wz (o:=o) Dw);have oQ:r1.log.length<=60:=by have:=tC.nl;omega
       have zkX:=aC (And.intro e0 (And.intro e1 e2));have cH:=lC.o.size;have zko:gb<=wr.heap.size:=aD;have zo5:=aC (RInv.step (e:=e) tI tC (by rw[tO];exact tO▸zjd.o) aD);clear tI tC tO Dw e0 e1 e2;have zeg:=aC (show∀W:aE,W.heap[b]? =wr.heap[b]? ->W.heap[gb+6]? =wr.heap[gb+6]? ->(W.cell? ⟨b,off+j*3,none⟩=some (.string e.k)/\W.cell? ⟨b,off+j*3+1,none⟩=some (.int .i64 e.a)/\W.cell? ⟨b,off+j*3+2,none⟩=some (.int .i64 e.b)/\W.cell? ⟨gb+6,0,none⟩=some (.int .i64 r1.o.ln)/\W.cell? ⟨gb+6,1,none⟩=some (.int .i64 r1.o.op)/\W.cell? ⟨gb+6,2,none⟩=some (.int .i64 r1.o.pt)/\W.cell? ⟨gb+6,3,none⟩=some (.int .i64 r1.clk)/\W.cell? ⟨gb+6,4,none⟩=some (v1.sR r1)/\W.cell? ⟨gb+6,5,none⟩=some (v1.sW r1)/\W.cell? ⟨gb+6,6,none⟩=some (v1.sB r1)/\W.cell? ⟨gb+6,7,none⟩=some (v1.sL r1)) from λW h1 h2=>by
        have k:=aJ (h2.trans lC.o.blk);exact⟨(Co h1).trans zkX.o.1,(Co h1).trans zkX.o.2.1,(Co h1).trans zkX.o.2.2,k 0,k 1,k 2,k 3,k 4,k 5,k 6,k 7⟩)
       have Cv:=aC (zeg.o wr.drew rfl rfl);have zGD:=aC (zeg.o wr rfl rfl);have z6:gb+6<wr.heap.size:=aD;have zb:b<wr.heap.size:=aD;have aR:=lC.o.aR;have aB:=lC.o.aB
       go_wp2_with fail
       go_region_held3 (λW=>W.cell? ⟨b,off+j*3,none⟩=some (.string e.k)/\W.cell? ⟨b,off+j*3+1,none⟩=some (.int .i64 e.a)/\W.cell? ⟨b,off+j*3+2,none⟩=some (.int .i64 e.b)/\W.cell? ⟨gb+6,0,none⟩=some (.int .i64 r1.o.ln)/\W.cell? ⟨gb+6,1,none⟩=some (.int .i64 r1.o.op)/\W.cell? ⟨gb+6,2,none⟩=some (.int .i64 r1.o.pt)/\W.cell? ⟨gb+6,3,none⟩=some (.int .i64 r1.clk)/\W.cell? ⟨gb+6,4,none⟩=some (v1.sR r1)/\W.cell? ⟨gb+6,5,none⟩=some (v1.sW r1)/\W.cell? ⟨gb+6,6,none⟩=some (v1.sB r1)/\W.cell? ⟨gb+6,7,none⟩=some (v1.sL r1))
        (first|with_reducible exact Cv.o|with_reducible exact zGD.o|with_reducible exact zeg.o _ zoG zqk|(with_reducible refine zeg.o _ ?_ ?_<;>(repeat' (first|with_reducible assumption|with_reducible rfl|(refine(zIJ _ _).trans ?_)|(refine(dZ _ _ _ _ ?_).trans ?_;(first|omega|(simp;omega)))|(refine(tL _ _ _ ?_).trans ?_;(first|omega|(simp;omega)))))))
        (first|(go_at_call 17;refine(zqP gb v1 r1 e wr.drew lC.o.drew.ok zof.o zko zjd.o).mono ?_;rintro y w5 ⟨v5,rfl,bV,jI,wY⟩;obtain⟨r5,fA⟩:=aU ((eG r1 e).1:b6);obtain⟨t5,oL⟩:=aU ((eG r1 e).2:List UInt8);rw[<-fA] at bV⊢;rw[<-oL];have pU:=aC fA;have yY:=aC oL;have wC:=aC bV;have tU:=aC jI;have oG:=aC wY;have zoG:w5.heap[b]? =wr.heap[b]? :=jI.block b zb aD aD;have zqk:w5.heap[gb+6]? =wr.heap[gb+6]? :=jI.block (gb+6) z6 aD aD;have z5:wr.heap.size<=w5.heap.size:=jI.size;have M0:=aC lC.o.drew;clear fA oL bV jI wY)|(go_at_call 17;refine(zqP gb v1 r1 e (wr.alloc jO).drew (lC.o.alloc jO).drew.ok zof.o (by show gb<=(wr.alloc jO).heap.size;simp;omega) zjd.o).mono ?_;rintro y w5 ⟨v5,rfl,bV,jI,wY⟩;obtain⟨r5,fA⟩:=aU ((eG r1 e).1:b6);obtain⟨t5,oL⟩:=aU ((eG r1 e).2:List UInt8);rw[<-fA] at bV⊢;rw[<-oL];have pU:=aC fA;have yY:=aC oL;have wC:=aC bV;have tU:=aC jI;have oG:=aC wY;have zoG:w5.heap[b]? =wr.heap[b]? :=(jI.block b (by show b<(wr.alloc jO).heap.size;simp;omega) aD aD).trans (tL wr jO b zb);have zqk:w5.heap[gb+6]? =wr.heap[gb+6]? :=(jI.block (gb+6) (by show gb+6<(wr.alloc jO).heap.size;simp;omega) aD aD).trans (tL wr jO _ z6);have z5:wr.heap.size<w5.heap.size:=(by have:=jI.size;have e:(wr.alloc jO).drew.heap.size=wr.heap.size+1:=(by show(wr.alloc jO).heap.size=_;simp);omega);have kr:w5.heap[wr.heap.size]? =some jO:=(jI.block wr.heap.size (by show wr.heap.size<(wr.alloc jO).heap.size;simp) (by have:=lC.o.ok.lts;omega) (by have:=lC.o.ok.lts;omega)).trans (lO wr jO);have zFw:=aC kr;have z:=aJ kr;have r0:=eL kr;have z0:=z 0;have z1:=z 1;have z2:=z 2;have z3:=z 3;have z4:=z 4;have z5:=z 5;have z7:=z 7;have zba:=z 6;have M0:=aC (lC.o.alloc jO).drew;clear fA oL bV jI wY kr z))
       .
         obtain⟨W6,qU⟩:=aU (w5.alloc (Ew v5 r5));obtain⟨nb,nE⟩:=aU w5.heap.size;rw[<-qU,<-nE];have hN:W6.heap[nb]? =some (Ew v5 r5):=by rw[qU];exact mX _ _ nE
         have Sd:dR W6 gb v5 r5:=by rw[qU];exact wC.o.alloc _
         obtain⟨zaO,p0,p1,p6,a1,a2,a3,a4,zgB⟩:=M0.o.stepped wC.o tU.o oG.o;have zbJ:bU gb w W6:=by rw[qU];exact zaO.alloc aD _
         have q0:W6.heap[gb]? =some (.cells #[.int .i64 o.ln,.int .i64 o.op,.int .i64 o.pt] 27):=by rw[qU];exact(tL _ _ gb aD).trans (p0.trans M0.o.ofc)
         have q1:W6.heap[gb+1]? =some jO:=by rw[qU];exact(tL _ _ (gb+1) aD).trans (p1.trans M0.o.res)
         have q6:W6.heap[gb+6]? =some (Ew v1 r1):=by rw[qU];exact(tL _ _ (gb+6) aD).trans (p6.trans M0.o.blk)
         have zj8:gb+7<=W6.heap.size:=by rw[qU];simp;omega
         have Br:nb≠gb+6:=aD;clear qU nE zaO p0 p1 p6 zgB;have zE8:=aC hN;have zEB:=aC Sd;have zaC:r5.log=r1.log:=by rw[pU.o];exact zo5.o.2.2.2
         have zB0:r5.log.length<=60:=by rw[zaC];exact oQ
         have Bf:=aC (r9.stored Sd zbJ q0 q1 q6 a1 a2 a3 a4 zj8);have k:=aJ hN;obtain⟨k0,k1,k2,k3,k4,k5,k6,k7⟩:=eF k;have z:=aJ q6;obtain⟨z0,z1,z2,z3,z4,z5,zba,z7⟩:=eF z;have r0:=eL q6;clear k z hN Sd zbJ q0 q1 q6 zaC
         go_upto_region 14 with fail
         obtain⟨W7,Cg⟩:=aU (gI W6 (gb+6) (.int .i64 r5.o.ln) (.int .i64 r5.o.op) (.int .i64 r5.o.pt) (.int .i64 r5.clk) (v5.sR r5) (v5.sW r5) (v5.sB r5) (v5.sL r5));rw[<-Cg] at Bf;unfold gI at Cg;rw[<-Cg];clear Cg k0 k1 k2 k3 k4 k5 k6 k7 z0 z1 z2 z3 z4 z5 zba z7 r0;have k7:=aJ Bf.o.blk 7;have zER:=Bf.o.size;have zk5:=Bf.o.aL;obtain⟨ii,N1,jJ,eE,kZ⟩:=y3 zn6;have Z4:=aC N1;clear N1
         go_wp2_with (at_builtin;refine zjg _ rfl (.tmp 58) (.tmp 60) 38 rfl gb 9 ii (.string ⟨#[]⟩) 1 16 zv5 Z4.o jJ eE kZ rfl aH v5.gL v5.cL r5.log.length (E7 r5.log) rfl ((Bf.o.alloc _).ok.lg) ⟨_,0,none⟩ 1 1 [.string ⟨t5.toArray⟩] rfl rfl ?c2 Me ?c5 ?c6 ?c7 ?_;(case c2=>exact Em (cs:=#[.string ⟨t5.toArray⟩]) (lO _ _));(case c5=>unfold maxLen;omega);(case c6=>omega);(case c7=>(simp;omega));intro g9 c9 w9 zcE Px B9 za8;have zmR:=aC ((Bf.o.alloc _).appL Px zcE rfl za8);have kx:=(y8 Px (dF Bf.o.blk _) (Ne.symm zk5.2)).1;have zHn:=aJ kx 7;have vZ:=eL kx;clear zcE Px B9 za8 kx)
         go_roundw
         case rel=>
          refine⟨j+1,{v5 with gL:=g9,cL:=c9},aD,pT,?_⟩;rw[zpl.o,<-lF.o];have e:Eb (eG r1 e)={r5 with log:=r5.log++[t5]}:=by rw[pU.o,yY.o];rfl
          rw[e];exact zmR.o
         case measure=>simp[intOf];omega
       .
         obtain⟨nb,nE⟩:=aU wr.heap.size;obtain⟨W6,qU⟩:=aU (gI w5 nb (.int .i64 r5.o.ln) (.int .i64 r5.o.op) (.int .i64 r5.o.pt) (.int .i64 r5.clk) (v5.sR r5) (v5.sW r5) (v5.sB r5) (v5.sL r5));obtain⟨zaO,p0,p1,p6,a1,a2,a3,a4,zgB⟩:=M0.o.stepped wC.o tU.o oG.o;have l1:=lC.o.ok.lts;have mr:=oG.o.r;have mw:=oG.o.w;have mb:=oG.o.b;have ml:=oG.o.l;have eX:(wr.alloc jO).drew.heap.size=nb+1:=by rw[nE];show(wr.alloc jO).heap.size=_;simp
         rw[eX] at mr mw mb zgB;have hN:W6.heap[nb]? =some (Ew v5 r5):=by rw[qU,nE];exact za5 zFw.o
         have Sd:dR W6 gb v5 r5:=by rw[qU];exact wC.o.set8 aD
         have Un:=zdh w5 nb (.int .i64 r5.o.ln) (.int .i64 r5.o.op) (.int .i64 r5.o.pt) (.int .i64 r5.clk) (v5.sR r5) (v5.sW r5) (v5.sB r5) (v5.sL r5);have zbJ:bU gb w W6:=by rw[qU];exact zaO.trans ⟨Un.os,Un.tape,Un.output,Un.size,λx hx=>Un.block x aD aD⟩
         have q0:W6.heap[gb]? =some (.cells #[.int .i64 o.ln,.int .i64 o.op,.int .i64 o.pt] 27):=by rw[qU];exact(F9 aD).trans (p0.trans M0.o.ofc)
         have q1:W6.heap[gb+1]? =some jO:=by rw[qU];exact(F9 aD).trans (p1.trans M0.o.res)
         have q6:W6.heap[gb+6]? =some (Ew v1 r1):=by rw[qU];exact(F9 aD).trans (p6.trans M0.o.blk)
         have zj8:gb+7<=W6.heap.size:=by rw[qU,zkD];omega
         have Br:nb≠gb+6:=aD;unfold gI at qU;rw[<-nE,<-qU];clear qU nE zaO p0 p1 p6 zgB Un l1 mr mw mb ml eX z0 z1 z2 z3 z4 z5 zba z7 r0;have zE8:=aC hN;have zEB:=aC Sd;have zaC:r5.log=r1.log:=by rw[pU.o];exact zo5.o.2.2.2
         have zB0:r5.log.length<=60:=by rw[zaC];exact oQ
         have Bf:=aC (r9.stored Sd zbJ q0 q1 q6 a1 a2 a3 a4 zj8);have k:=aJ hN;obtain⟨k0,k1,k2,k3,k4,k5,k6,k7⟩:=eF k;have z:=aJ q6;obtain⟨z0,z1,z2,z3,z4,z5,zba,z7⟩:=eF z;have r0:=eL q6;clear k z hN Sd zbJ q0 q1 q6 zaC
         go_upto_region 14 with fail
         obtain⟨W7,Cg⟩:=aU (gI W6 (gb+6) (.int .i64 r5.o.ln) (.int .i64 r5.o.op) (.int .i64 r5.o.pt) (.int .i64 r5.clk) (v5.sR r5) (v5.sW r5) (v5.sB r5) (v5.sL r5));rw[<-Cg] at Bf;unfold gI at Cg;rw[<-Cg];clear Cg k0 k1 k2 k3 k4 k5 k6 k7 z0 z1 z2 z3 z4 z5 zba z7 r0;have k7:=aJ Bf.o.blk 7;have zER:=Bf.o.size;have zk5:=Bf.o.aL;obtain⟨ii,N1,jJ,eE,kZ⟩:=y3 zn6;have Z4:=aC N1;clear N1
         go_wp2_with (at_builtin;refine zjg _ rfl (.tmp 58) (.tmp 60) 38 rfl gb 9 ii (.string ⟨#[]⟩) 1 16 zv5 Z4.o jJ eE kZ rfl aH v5.gL v5.cL r5.log.length (E7 r5.log) rfl ((Bf.o.alloc _).ok.lg) ⟨_,0,none⟩ 1 1 [.string ⟨t5.toArray⟩] rfl rfl ?c2 Me ?c5 ?c6 ?c7 ?_;(case c2=>exact Em (cs:=#[.string ⟨t5.toArray⟩]) (lO _ _));(case c5=>unfold maxLen;omega);(case c6=>omega);(case c7=>(simp;omega));intro g9 c9 w9 zcE Px B9 za8;have zmR:=aC ((Bf.o.alloc _).appL Px zcE rfl za8);have kx:=(y8 Px (dF Bf.o.blk _) (Ne.symm zk5.2)).1;have zHn:=aJ kx 7;have vZ:=eL kx;clear zcE Px B9 za8 kx)
         go_roundw
         case rel=>
          refine⟨j+1,{v5 with gL:=g9,cL:=c9},aD,pT,?_⟩;rw[zpl.o,<-lF.o];have e:Eb (eG r1 e)={r5 with log:=r5.log++[t5]}:=by rw[pU.o,yY.o];rfl
          rw[e];exact zmR.o
         case measure=>simp[intOf];omega
      .have e:j=k:=aD
       subst e;have zgU:=aC (show Lq o es=r1 by unfold Lq;rw[eZ.o,<-zha,Ny.o,<-lF.o];exact if_pos rfl);clear tI tC tO aP;have k:=aJ lC.o.blk;obtain⟨k0,k1,k2,k3,k4,k5,k6,k7⟩:=eF k;clear k;have z:=aJ lC.o.res;obtain⟨z0,z1,z2,z3,z4,z5,z6,z7⟩:=eF z;clear z;have r0:=eL lC.o.res
       go_wp2_with fail
       have er:=aJ (sJ v1 r1 lC.o.res);refine qP (v:=.tuple #[.agg (fO (v1) (r1)),.bool true]) ?_ rfl ?_
       .unfold gI at er
        simp[results,zeu,go_sem,er]
       .obtain⟨d1,d2⟩:=lC.o.doneR v1 r1
        exact⟨v1,by rw[eZ.o];rw[zgU.o],by rw[zgU.o,<-fK.o];exact d1,by rw[<-fK.o];exact d2⟩
structure iW (b:b6):Prop where
 opn:∀(i j:Nat) (d e:bR),b.recs[i]? =some d->b.recs[j]? =some e->eA d=true->eA e=true->(d.c=e.c\/d.l=e.l\/(d.o=e.o/\0<d.o))->i=j
 last:∀(i j:Nat) (d e:bR),b.recs[i]? =some d->eA d=true->b.recs[j]? =some e->e.c=d.c->j<=i
 wt:∀x∈b.wait,∃(i:Nat) (d:bR),b.recs[i]? =some d/\eA d=true/\d.c=x.c/\d.o=0
 bk:(b.back.map bJ.c).Nodup
 bo:∀x∈b.back,jD b.recs x.c=none
variable {rs:List bR}{c:Int}
theorem zlx (h:∀(i:Nat) (d:bR),rs[i]? =some d->eA d=true->d.c≠c):jD rs c=none:=by
 cases ho:jD rs c with
 |none=>rfl
 |some i=>
  obtain⟨d,h1,h2,h3⟩:=Ca ho;exact absurd h2 (h i d h1 h3)
theorem Jp (h:jD rs c=none):∀(i:Nat) (d:bR),rs[i]? =some d->eA d=true->d.c≠c:=by
 intro i d hd ho e;have:(jD rs c).isSome=true:=by
  rw[zbn,Qo];exact⟨d,dS hd,by unfold zU;rw[ho,e];simp⟩
 rw[h] at this;cases this
variable {b:b6}{i:Nat}{d:bR}
theorem iW.at_ (h:iW b)(hd:b.recs[i]? =some d)(ho:eA d=true):jD b.recs d.c=some i:=by
 cases e:jD b.recs d.c with
 |none=>exact absurd rfl (Jp e i d hd ho)
 |some j=>
  obtain⟨d',h1,h2,h3⟩:=Ca e;rw[h.opn j i d' d h1 hd h3 ho (.inl h2)]
theorem Jv {r:bR}(h:(rs++[r])[i]? =some d):(i<rs.length/\rs[i]? =some d)\/(i=rs.length/\d=r):=by
 rcases nM i rs.length with hl|hl
 .rw[yO hl] at h;exact .inl ⟨hl,h⟩
 .rw[zS hl] at h
  have hz:i-rs.length=0:=by
   rcases Ou (i-rs.length) with e|e
   .exact e
   .rw[Gk rF] at h;cases h
  rw[hz] at h;exact .inr ⟨aD,by simpa using h.symm⟩
theorem ze4 {r:bR}(h:rs[i]? =some d):(rs++[r])[i]? =some d:=by
 rw[yO (jW.1 h).1];exact h
variable {f:bR->bR}
theorem Ey {j:Nat}{z:bR}(h:(rs.modify i f)[j]? =some z):∃d,rs[j]? =some d/\((i=j/\z=f d)\/(i≠j/\z=d)):=by
 rw[zG] at h;rcases hr:rs[j]? with _|d
 .rw[hr] at h;cases h
 .rw[hr] at h
  simp at h;split at h
  .rename_i e;exact⟨d,rfl,.inl ⟨e,h.symm⟩⟩
  .rename_i e;exact⟨d,rfl,.inr ⟨e,h.symm⟩⟩
theorem Pk {j:Nat}(h:rs[j]? =some d)(aT:i≠j):(rs.modify i f)[j]? =some d:=by
 rw[zG,h];simp[aT]
theorem zcw (h:rs[i]? =some d):(rs.modify i f)[i]? =some (f d):=by
 rw[zG,h];simp
theorem zv8 {xs:List bJ}(h:(uX xs c).isSome=false):∀x∈xs,x.c≠c:=by
 unfold uX at h;rw[List.findIdx?_isSome] at h;intro x hx e;have:xs.any (λx=>x.c==c)=true:=Qo.2 ⟨x,hx,by simp[e]⟩;rw[this] at h;cases h
variable {l:Int}
theorem zkI (h:l∈n6 o rs):∀(i:Nat) (d:bR),rs[i]? =some d->eA d=true->d.l≠l:=by
 intro i d hd ho e;unfold n6 xR at h;have h2:=(H5.1 h).2;have:qW rs l=true:=by unfold qW;exact Qo.2 ⟨d,dS hd,by simp[e,ho]⟩
 rw[this] at h2;cases h2
variable {op:Int}
theorem zgo (h1:∀d∈rs,1<=d.c)(h:¬0<dJ rs op):∀(i:Nat) (d:bR),rs[i]? =some d->eA d=true->d.o≠op:=by
 intro i d hd ho e;unfold dJ at h
 cases hf:rs.find? (vQ op) with
 |none=>
  have:=zfm.1 hf d (dS hd);unfold vQ at this;rw[ho,e] at this;simp at this
 |some d'=>
  rw[hf] at h;have:=h1 d' (zgv hf);simp only at h;omega
theorem zhF (hu:∀(i j:Nat) (d e:bR),rs[i]? =some d->rs[j]? =some e->eA d=true->eA e=true->d.o=op->e.o=op->i=j)(hd:rs[i]? =some d)(ho:eA d=true)(he:d.o=op):dJ rs op=d.c:=by
 unfold dJ
 cases hf:rs.find? (vQ op) with
 |none=>
  have:=zfm.1 hf d (dS hd);unfold vQ at this;rw[ho,he] at this;simp at this
 |some d'=>
  obtain⟨j,hj⟩:=F7.1 (zgv hf);have hp:=zhK hf;unfold vQ at hp;simp only[fN,beq_iff_eq] at hp;have:=hu j i d' d hj hd hp.2 ho hp.1 he;subst this;rw[hj] at hd;injection hd with hd;rw[hd]
theorem zru (h:∀(i:Nat) (d:bR),rs[i]? =some d->eA d=true->d.o≠op):dJ rs op=0:=by
 unfold dJ
 cases hf:rs.find? (vQ op) with
 |none=>rfl
 |some d'=>
  obtain⟨j,hj⟩:=F7.1 (zgv hf);have hp:=zhK hf;unfold vQ at hp;simp only[fN,beq_iff_eq] at hp;exact absurd hp.1 (h j d' hj hp.2)
theorem zoJ (rs:List bR)(op:Int):(∃(i:Nat) (d:bR),rs[i]? =some d/\eA d=true/\d.o=op/\dJ rs op=d.c)\/((∀(i:Nat) (d:bR),rs[i]? =some d->eA d=true->d.o≠op)/\dJ rs op=0):=by
 unfold dJ
 cases hf:rs.find? (vQ op) with
 |none=>
  refine .inr ⟨λi d hd ho e=>?_,rfl⟩;have:=zfm.1 hf d (dS hd);unfold vQ at this;rw[ho,e] at this;simp at this
 |some d'=>
  obtain⟨j,hj⟩:=F7.1 (zgv hf);have hp:=zhK hf;unfold vQ at hp;simp only[fN,beq_iff_eq] at hp;exact .inl ⟨j,d',hj,hp.2,hp.1,rfl⟩
variable {hh:Int}{wait back:List bJ}
theorem iW.more (h:iW b){o:Int}{tt:Int}{clk:Int}(hc:jD b.recs c=none)(hl:∀(i:Nat) (d:bR),b.recs[i]? =some d->eA d=true->d.l≠l)(ho:o=0\/∀(i:Nat) (d:bR),b.recs[i]? =some d->eA d=true->d.o≠o)
  (hw:∀x∈wait,x∈b.wait\/(x.c=c/\o=0)) (hb:(back.map bJ.c).Nodup) (pI:∀x∈back,x∈b.back/\x.c≠c):iW {b with recs:=b.recs++[⟨c,l,o,clk,hh,tt,eJ⟩],wait:=wait,back:=back}:=by
 have hop:eA ⟨c,l,o,clk,hh,tt,eJ⟩=true:=by unfold eA;rw[zdH];rfl
 refine⟨λi j d e hi hj hd he hx=>?_,λi j d e hi hd hj hx=>?_,λx hx=>?_,hb,λx hx=>?_⟩
 .rcases Jv hi with⟨y5,Km⟩|⟨rfl,rfl⟩<;>rcases Jv hj with⟨Gz,O8⟩|⟨rfl,rfl⟩
  .exact h.opn i j d e Km O8 hd he hx
  .exfalso
   rcases hx with hx|hx|⟨hx,h0⟩
   .exact Jp hc i d Km hd hx
   .exact hl i d Km hd hx
   .rcases ho with rfl|ho
    .simp only at hx;omega
    .exact ho i d Km hd hx
  .exfalso
   rcases hx with hx|hx|⟨hx,h0⟩
   .exact Jp hc j e O8 he hx.symm
   .exact hl j e O8 he hx.symm
   .rcases ho with rfl|ho
    .simp only at h0;omega
    .exact ho j e O8 he hx.symm
  .rfl
 .rcases Jv hi with⟨y5,Km⟩|⟨rfl,rfl⟩<;>rcases Jv hj with⟨Gz,O8⟩|⟨rfl,rfl⟩
  .exact h.last i j d e Km hd O8 hx
  .exact absurd hx.symm (Jp hc i d Km hd)
  .omega
  .exact aZ _
 .rcases hw x hx with hx|⟨hx,h0⟩
  .obtain⟨i,d,h1,h2⟩:=h.wt x hx
   exact⟨i,d,ze4 h1,h2⟩
  .exact⟨b.recs.length,_,by rw[zS (aZ _),M9];rfl,hop,hx.symm,h0⟩
 .obtain⟨h1,h2⟩:=pI x hx
  refine zlx λi d hd uW=>?_;rcases Jv hd with⟨_,h3⟩|⟨_,rfl⟩
  .exact Jp (h.bo x h1) i d h3 uW
  .exact λe=>h2 e.symm
theorem iW.ended (h:iW b)(hd:b.recs[i]? =some d)(zdB:eA d=true){e:ByteArray}(he:(e.toList==[111,112,101,110])=false)(hw:∀x∈wait,x∈b.wait/\x.c≠d.c)(hb:(back.map bJ.c).Nodup)(pI:∀x∈back,x∈b.back\/x.c=d.c):
 iW {b with recs:=Ke b i e,wait:=wait,back:=back}:=by
 have mF:∀z:bR,eA {z with t:=b.clk,e:=e}=false:=λz=>he;have old:∀(j:Nat) (z:bR),(Ke b i e)[j]? =some z->eA z=true->i≠j/\b.recs[j]? =some z:=λj z hj hz=>by
  obtain⟨d',h1,⟨_,rfl⟩|⟨h2,rfl⟩⟩:=Ey hj
  .rw[mF] at hz;cases hz
  .exact⟨h2,h1⟩
 refine⟨λp q x y hp hq hx hy hh=>?_,λp q x y hp hx hq hh=>?_,λx hx=>?_,hb,λx hx=>?_⟩
 .exact h.opn p q x y (old p x hp hx).2 (old q y hq hy).2 hx hy hh
 .obtain⟨d',h1,h2⟩:=Ey hq
  refine h.last p q x d' (old p x hp hx).2 hx h1 ?_;rcases h2 with⟨_,rfl⟩|⟨_,rfl⟩
  .exact hh
  .exact hh
 .obtain⟨h1,h2⟩:=hw x hx
  obtain⟨j,z,h3,h4,h5,h6⟩:=h.wt x h1;have aT:i≠j:=λe=>by subst e;rw[hd] at h3;injection h3 with h3;exact h2 (by rw[<-h5,<-h3])
  exact⟨j,z,Pk h3 aT,h4,h5,h6⟩
 .refine zlx λj z hj hz=>?_
  obtain⟨h1,h2⟩:=old j z hj hz;rcases pI x hx with h3|h3
  .exact Jp (h.bo x h3) j z h2 hz
  .rw[h3]
   exact λe=>h1 (h.opn i j d z hd h2 zdB hz (.inl e.symm))
theorem iW.heard (h:iW b)(hd:b.recs[i]? =some d)(zdB:eA d=true)(hop:∀(j:Nat) (z:bR),b.recs[j]? =some z->eA z=true->z.o≠op)(hw:∀x∈wait,x∈b.wait/\x.c≠d.c):
 iW {b with recs:=b.recs.modify i λd=>{d with o:=op,h:=hh},wait:=wait}:=by
 have yF:∀z:bR,eA {z with o:=op,h:=hh}=eA z:=λz=>rfl;refine⟨λp q x y hp hq hx hy he=>?_,λp q x y hp hx hq he=>?_,λx hx=>?_,h.bk,λx hx=>?_⟩
 .obtain⟨u,h1,⟨e1,rfl⟩|⟨e1,rfl⟩⟩:=Ey hp<;>obtain⟨v,h2,⟨e2,rfl⟩|⟨e2,rfl⟩⟩:=Ey hq
  .omega
  .refine h.opn p q u y h1 h2 hx hy ?_
   rcases he with he|he|⟨he,h0⟩
   .exact .inl he
   .exact .inr (.inl he)
   .exact absurd he.symm (hop q y h2 hy)
  .refine h.opn p q x v h1 h2 hx hy ?_
   rcases he with he|he|⟨he,h0⟩
   .exact .inl he
   .exact .inr (.inl he)
   .exact absurd he (hop p x h1 hx)
  .exact h.opn p q x y h1 h2 hx hy he
 .obtain⟨u,h1,e1⟩:=Ey hp
  obtain⟨v,h2,e2⟩:=Ey hq;have hu:eA u=true/\x.c=u.c:=by rcases e1 with⟨_,rfl⟩|⟨_,rfl⟩<;>exact⟨hx,rfl⟩
  have hv:y.c=v.c:=by rcases e2 with⟨_,rfl⟩|⟨_,rfl⟩<;>rfl
  exact h.last p q u v h1 hu.1 h2 (by rw[<-hv,<-hu.2];exact he)
 .obtain⟨h1,h2⟩:=hw x hx
  obtain⟨j,z,h3,h4,h5,h6⟩:=h.wt x h1;have aT:i≠j:=λe=>by subst e;rw[hd] at h3;injection h3 with h3;exact h2 (by rw[<-h5,<-h3])
  exact⟨j,z,Pk h3 aT,h4,h5,h6⟩
 .refine zlx λj z hj hz=>?_
  obtain⟨u,h1,e1⟩:=Ey hj;rcases e1 with⟨_,rfl⟩|⟨_,rfl⟩
  .exact Jp (h.bo x hx) j u h1 hz
  .exact Jp (h.bo x hx) j z h1 hz
variable {bt:b6×List UInt8}
def iW.log (h:iW bt.1):iW (Eb bt):=⟨h.opn,h.last,h.wt,h.bk,h.bo⟩
theorem iW.zero (o:jE):iW (l6 o):=⟨λi j d e h=>by simp[l6] at h,λi j d e h=>by simp[l6] at h,λx hx=>by simp[l6] at hx,Pq,λx hx=>by simp[l6] at hx⟩
theorem zdX:(Gv.toList==[111,112,101,110])=false:=by decide+kernel
theorem zjX:(Bs.toList==[111,112,101,110])=false:=by decide+kernel
theorem zjQ:(Ea.toList==[111,112,101,110])=false:=by decide+kernel
theorem iW.rings (h:iW b)(c:bJ):iW (pL b c).1:=by
 unfold pL;split
 .exact h
 .rename_i hk
  simp only[Bool.or_eq_true,not_or,Bool.not_eq_true] at hk;have hc:=Option.isSome_eq_false_iff.1 hk.1|>Option.isNone_iff_eq_none.1;have hb:=zv8 hk.2;split
  .refine⟨h.opn,h.last,h.wt,?_,λx hx=>?_⟩
   .show((b.back++[c]).map bJ.c).Nodup
    rw[If];refine zmI.2 ⟨h.bk,aQ,λa ha e he=>?_⟩;obtain⟨x,hx,rfl⟩:=Hv.1 ha;simp at he;subst he;exact hb x hx
   .rcases Dv.1 hx with hx|hx
    .exact h.bo x hx
    .obtain rfl:=sC.1 hx;exact hc
  .rename_i l ls hf
   exact h.more (l:=l) hc (zkI Uk) (.inl rfl) (wait:=sV b.wait c) (λx hx=>by
    have:=(zaY b.wait c).mem_iff.1 hx;rcases iX.1 this with rfl|h'
    .exact .inr ⟨rfl,rfl⟩
    .exact .inl h') h.bk (λx hx=>⟨hx,hb x hx⟩)
theorem iW.answers (h:iW b)(hr:RInv b)(op:Int):iW (nG b op).1:=by
 unfold nG;split
 .exact h
 .rename_i ht
  have hn:=zgo (λd hd=>(hr.recB d hd).1) ht;split
  .exact h
  .rename_i c cs hw
   split
   .exact h
   .rename_i i hi
    obtain⟨d,h1,h2,h3⟩:=Ca hi;exact h.heard h1 h3 hn (wait:=dQ b.wait c.c) λx hx=>⟨(Da hx).1,by rw[h2];exact(Da hx).2⟩
theorem iW.returns (h:iW b)(hr:RInv b)(op:Int):iW (lV b op).1:=by
 unfold lV;split
 .exact h
 .rename_i ht
  have hn:=zgo (λd hd=>(hr.recB d hd).1) ht;split
  .exact h
  .rename_i c cs hw
   split
   .exact h
   .rename_i l ls hf
    exact h.more (l:=l) (h.bo c (by rw[hw];simp)) (zkI Uk) (.inr hn) (wait:=b.wait) (back:=dQ b.back c.c) (λx hx=>.inl hx) (zed h.bk) (λx hx=>Da hx)
theorem iW.hangs (h:iW b)(c:Int):iW (l7 b c).1:=by
 unfold l7;split
 .rename_i i hi
  obtain⟨d,h1,h2,h3⟩:=Ca hi;have hw:∀x∈dQ b.wait (Fu b.recs i),x∈b.wait/\x.c≠d.c:=λx hx=>⟨(Da hx).1,by rw[<-Qe h1];exact(Da hx).2⟩;split
  .exact h.ended h1 h3 zdX hw h.bk λx hx=>.inl hx
  .exact h.ended h1 h3 zjX hw h.bk λx hx=>.inl hx
 .split
  .exact⟨h.opn,h.last,h.wt,zed h.bk,λx hx=>h.bo x (Da hx).1⟩
  .exact h
theorem iW.tire {t:List UInt8}{x:bJ}(h:iW b):iW (lY (b,t) x).1:=by
 unfold lY;split
 .exact h
 .rename_i i hi
  split
  .obtain⟨d,h1,h2,h3⟩:=Ca hi
   refine h.ended (wait:=dQ b.wait (Fu b.recs i)) (back:=b.back++[x]) h1 h3 zjQ (λy hy=>⟨(Da hy).1,by rw[<-Qe h1];exact(Da hy).2⟩) ?_ λy hy=>?_
   .rw[If]
    refine zmI.2 ⟨h.bk,aQ,λa ha e he=>?_⟩;obtain⟨y,hy,rfl⟩:=Hv.1 ha;simp at he;subst he;exact λe=>Jp (h.bo y hy) i d h1 h3 (by rw[h2,e])
   .rcases Dv.1 hy with hy|hy
    .exact .inl hy
    .obtain rfl:=sC.1 hy;exact .inr h2.symm
  .exact h
theorem iW.tires:∀(xs:List bJ) (b:b6) (t:List UInt8),iW b->iW (xs.foldl lY (b,t)).1:=by
 intro xs
 induction xs with
 |nil=>intro b t h;exact h
 |cons x xs ih=>
  intro b t h;rw[Pc];have h1:=h.tire (t:=t) (x:=x);generalize lY (b,t) x=p at h1⊢;obtain⟨b',t'⟩:=p;exact ih b' t' h1
theorem iW.step (h:iW b)(hr:RInv b)(e:dG):iW (eG b e).1:=by
 unfold eG;split
 .exact h.rings _
 .split
  .exact h.answers hr _
  .split
   .exact h.returns hr _
   .split
    .exact h.hangs _
    .unfold tT
     exact iW.tires _ _ _ ⟨h.opn,h.last,h.wt,h.bk,h.bo⟩
theorem zt9 (h:jV o es=true):∀k,k<=es.length->iW (mB o es k):=by
 intro k
 induction k with
 |zero=>intro _;exact iW.zero o
 |succ k ih=>
  intro hk;have aP:k<es.length:=aD;rw[Wz (lP aP)];exact iW.log ((ih aD).step (Tw h k aD).1 _)
end Go.Proofs.YtfcjiloojkjaeaaDoor
namespace Go.Mt
open Go.Conc
inductive fE where
 |ask (i:Nat) (kind call ans:Int)
 |shut (i:Nat)
inductive gE where
 |mN (qs:List Nat)
 |mA (qs:List Nat) (a:Nat)
 |mS (qs:List Nat) (a:Nat)
 |mW (qs:List Nat)
 |mZ
 |op (c:Nat) (call:Int) (m:Nat)
 |an (c:Nat) (call:Int) (a:Nat) (m:Nat)
 |oD
 |wk (qs:List Nat) (k:Nat)
 |wr (qs:List Nat) (k:Nat) (a:Nat)
def J6 (kind call:Int)(a:Nat):Value:=.agg #[.int .i64 kind,.int .i64 call,.chan (some a)]
def Np:aF->Option (Int×Int×Nat)
 | .agg xs=>match xs.toList with
  |[.int .i64 kd,.int .i64 cl,.chan (some a)]=>some (kd,cl,a)
  |_=>none
 |_=>none
def ze6 (kd cl:Int)(a:Nat):Np (J6 kd cl a)=some (kd,cl,a):=rfl
variable {kd cl:Int}
theorem zHu {v:aF}{a:Nat}(h:Np v=some (kd,cl,a)):v=J6 kd cl a:=by
 unfold Np at h;split at h
 .rename_i xs
  split at h
  .rename_i e
   simp only[fS,Prod.mk.injEq] at h;obtain⟨rfl,rfl,rfl⟩:=h;unfold J6;congr 1;exact Array.ext' e
  .cases h
 .cases h
def qa (qs:List Nat)(j:Nat):Nat:=qs.getD j 0
def Pz (c:Nat)(call:Int)(m:Nat)(v:aF):gE:=match Np v with|some (kd,cl,a)=>.an c (if kd=1 then cl else call) a (m-1)|none=>.oD
def zdC (i:Nat):fE->Bool
 | .ask j _ _ _=>j==i
 |_=>false
def nH (W:List fE)(k i:Nat):Nat:=(W.drop k).countP (zdC i)
variable {W:List fE}
theorem zvw {k i:Nat}{ans:Int}(h:W[k]? =some (.ask i kd cl ans))(j:Nat):nH W k j=nH W (k+1) j+if j=i then 1 else 0:=by
 obtain⟨hl,he⟩:=jW.1 h;unfold nH;rw[zf6 hl,he,znk];by_cases e:j=i
 .subst e;simp[zdC]
 .have:¬i=j:=λx=>e x.symm
  simp[zdC,e,this]
theorem zDg {k i:Nat}(h:W[k]? =some (.shut i))(j:Nat):nH W (k+1) j=nH W k j:=by
 obtain⟨hl,he⟩:=jW.1 h;unfold nH;rw[zf6 hl,he,znk];simp[zdC]
def Oz (v:aF):List Nat:=match Np v with|some (_,_,a)=>[a]|none=>[]
def Vj (qs:List Nat)(k:Nat)(v:aF):gE:=match Np v with|some (_,_,a)=>.wr qs k a|none=>.oD
def Wh (W:List fE)(k:Nat)(v:aF):Prop:=match W[k]? with|some (.ask _ _ _ ans)=>v=.int .i64 ans|_=>False
def eH (N:Nat)(W:List fE):gE->Act gE
 | .mN qs=>if qs.length<N then .note (λl'=>∃a,l'=.mA qs a) else .add (.mW qs)
 | .mA qs a=>.add (.mS qs a)
 | .mS qs a=>.spawn [a] (.op a 0 (nH W 0 qs.length)) (.mN (qs++[a]))
 | .mW qs=>.spawn [] (.wk qs 0) .mZ
 | .mZ=>.wait
 | .op c call m=>.recv c (λv=>(Np v).isSome=true/\0<m) (Pz c call m) .oD
 | .an c call a m=>.send a (λv=>v=.int .i64 call) (λ_=>[]) (λ_=>.op c call m)
 | .oD=>.done
 | .wk qs k=>match W[k]? with
  |none=>.done
  |some (.ask i kd cl _)=>.send (qa qs i) (λv=>∃a,v=J6 kd cl a) Oz (Vj qs k)
  |some (.shut i)=>.close (qa qs i) (.wk qs (k+1))
 | .wr qs k a=>.recv a (Wh W k) (λ_=>.wk qs (k+1)) .oD
def gE.pend:gE->Bool
 | .mS _ _| .mW _=>true
 |_=>false
def kP (W:List fE):Nat->Nat->Int
 |0,_=>0
 |k+1,i=>match W[k]? with
  |some (.ask j kd cl _)=>if i=j then(if kd=1 then cl else kP W k i) else kP W k i
  |_=>kP W k i
def fR (W:List fE):Nat->Nat->Bool
 |0,_=>false
 |k+1,i=>match W[k]? with
  |some (.shut j)=>if i=j then true else fR W k i
  |_=>fR W k i
structure WOk (N:Nat)(W:List fE):Prop where
 ask:∀k i kd cl ans,W[k]? =some (.ask i kd cl ans)->i<N/\fR W k i=false/\ans=kP W (k+1) i
 shut:∀k i,W[k]? =some (.shut i)->i<N/\fR W k i=false
 all:∀i,i<N->fR W W.length i=true
structure Ops (n:Nat)(ix:Nat->Nat)(q:Nat->Pj gE)(F:Nat->Pj gE->Prop):Prop where
 ne:∀j,j<n->ix j≠0
 inj:∀j j',j<n->j'<n->ix j=ix j'->j=j'
 at_:∀j,j<n->F j (q (ix j))
structure Qs (n:Nat)(qs:List Nat):Prop where
 len:qs.length=n
 inj:∀j j',j<n->j'<n->qa qs j=qa qs j'->j=j'
def Ig (W:List fE)(qs:List Nat)(k j:Nat)(p:Pj gE):Prop:=
 p=.run (.op (qa qs j) (kP W k j) (nH W k j))\/(fR W k j=true/\(p=.run .oD\/p=.over .oD))
inductive Xc (N:Nat)(W:List fE)(q:Nat->Pj gE)(ch:qV):Prop
 |a (n:Nat) (qs:List Nat) (ix:Nat->Nat) (l:gE):Qs n qs->n<=N->(l=.mN qs\/(n<N/\∃a,l=.mA qs a\/l=.mS qs a)\/(l=.mW qs/\n=N))->q 0=.run l->Ops n ix q (λj p=>p=.run (.op (qa qs j) 0 (nH W 0 j)))->
  (∀j,j<n->ch (qa qs j)=some false)->(∀i,i≠0->(∀j,j<n->i≠ix j)->q i=.gone)->Xc N W q ch
 |b (qs:List Nat) (ix:Nat->Nat) (iw k:Nat):Qs N qs->k<=W.length->iw≠0->(∀j,j<N->ix j≠iw)->(q 0=.run .mZ\/q 0=.waits)->(q iw=.run (.wk qs k)\/(k=W.length/\q iw=.over (.wk qs k)))->
  Ops N ix q (Ig W qs k)->(∀j,j<N->ch (qa qs j)=some (fR W k j))->(∀i,i≠0->i≠iw->(∀j,j<N->i≠ix j)->q i=.gone)->Xc N W q ch
 |c (qs:List Nat) (ix:Nat->Nat) (iw k i:Nat) (kd cl ans:Int) (a:Nat):Qs N qs->W[k]? =some (.ask i kd cl ans)->iw≠0->(∀j,j<N->ix j≠iw)->(q 0=.run .mZ\/q 0=.waits)->q iw=.run (.wr qs k a)->
  Ops N ix q (λj p=>if j=i then p=.run (.an (qa qs j) (kP W (k+1) j) a (nH W (k+1) j)) else Ig W qs k j p)->(∀j,j<N->ch (qa qs j)=some (fR W k j))->ch a=some false->(∀j,j<N->qa qs j≠a)->
  (∀i,i≠0->i≠iw->(∀j,j<N->i≠ix j)->q i=.gone)->Xc N W q ch
def Au (N:Nat)(W:List fE)(D:aE->Prop):jF gE where
 act:=eH N W
 dep:=λl w=>match l with| .wk _ _=>D w|_=>True
 pend:=gE.pend
 cl:=λl=>match l with| .op _ _ _=>True|_=>False
 Inv:=Xc N W
 got:=λl v=>match l with| .op _ _ _=>Oz v|_=>[]
section
variable {N:Nat}{W:List fE}
variable {l:gE}{ok:aF->Prop}{nx:aF->gE}
theorem zln {c:Nat}{pub:aF->List Nat}(h:eH N W l=.send c ok pub nx):
 (∃c0 call m,l=.an c0 call c m/\ok=(λv=>v=.int .i64 call)/\pub=(λ_=>[])/\nx=λ_=>.op c0 call m)\/
 (∃qs k i kd cl ans,l=.wk qs k/\W[k]? =some (.ask i kd cl ans)/\c=qa qs i/\ok=(λv=>∃a,v=J6 kd cl a)/\pub=Oz/\nx=Vj qs k):=by
 cases l with
 |mN qs=>simp only[eH] at h;split at h<;>cases h
 |an c0 call a m=>simp only[eH] at h;cases h;exact .inl ⟨_,_,_,rfl,rfl,rfl,rfl⟩
 |wk qs k=>
  simp only[eH] at h;split at h
  .cases h
  .rename_i i kd cl ans e;cases h;exact .inr ⟨qs,k,i,kd,cl,ans,rfl,e,rfl,rfl,rfl,rfl⟩
  .cases h
 |_=>simp only[eH] at h;cases h
theorem Xi {c:Nat}{sh:gE}(h:eH N W l=.recv c ok nx sh):
 (∃call m,l=.op c call m/\ok=(λv=>(Np v).isSome=true/\0<m)/\nx=Pz c call m/\sh=.oD)\/(∃qs k,l=.wr qs k c/\ok=Wh W k/\nx=(λ_=>.wk qs (k+1))/\sh=.oD):=by
 cases l with
 |mN qs=>simp only[eH] at h;split at h<;>cases h
 |op c0 call m=>simp only[eH] at h;cases h;exact .inl ⟨_,_,rfl,rfl,rfl,rfl⟩
 |wk qs k=>simp only[eH] at h;split at h<;>cases h
 |wr qs k a=>simp only[eH] at h;cases h;exact .inr ⟨_,_,rfl,rfl,rfl,rfl⟩
 |_=>simp only[eH] at h;cases h
variable {nx:gE}
theorem zs4 {c:Nat}(h:eH N W l=.close c nx):∃qs k i,l=.wk qs k/\W[k]? =some (.shut i)/\c=qa qs i/\nx=.wk qs (k+1):=by
 cases l with
 |mN qs=>simp only[eH] at h;split at h<;>cases h
 |wk qs k=>
  simp only[eH] at h;split at h
  .cases h
  .cases h
  .rename_i i e;cases h;exact⟨qs,k,i,rfl,e,rfl,rfl⟩
 |_=>simp only[eH] at h;cases h
theorem zzM (h:eH N W l=.add nx):(∃qs,l=.mN qs/\¬qs.length<N/\nx=.mW qs)\/∃qs a,l=.mA qs a/\nx=.mS qs a:=by
 cases l with
 |mN qs=>
  simp only[eH] at h;split at h
  .cases h
  .rename_i e;cases h;exact .inl ⟨qs,rfl,e,rfl⟩
 |mA qs a=>simp only[eH] at h;cases h;exact .inr ⟨qs,a,rfl,rfl⟩
 |wk qs k=>simp only[eH] at h;split at h<;>cases h
 |_=>simp only[eH] at h;cases h
theorem zGm {lc:gE}{pub:List Nat}(h:eH N W l=.spawn pub lc nx):(∃qs a,l=.mS qs a/\pub=[a]/\lc=.op a 0 (nH W 0 qs.length)/\nx=.mN (qs++[a]))\/∃qs,l=.mW qs/\pub=[]/\lc=.wk qs 0/\nx=.mZ:=by
 cases l with
 |mN qs=>simp only[eH] at h;split at h<;>cases h
 |mS qs a=>simp only[eH] at h;cases h;exact .inl ⟨qs,a,rfl,rfl,rfl,rfl⟩
 |mW qs=>simp only[eH] at h;cases h;exact .inr ⟨qs,rfl,rfl,rfl,rfl⟩
 |wk qs k=>simp only[eH] at h;split at h<;>cases h
 |_=>simp only[eH] at h;cases h
theorem zDI (h:eH N W l=.done):l=.oD\/∃qs k,l=.wk qs k/\W[k]? =none:=by
 cases l with
 |mN qs=>simp only[eH] at h;split at h<;>cases h
 |oD=>exact .inl rfl
 |wk qs k=>
  simp only[eH] at h;split at h
  .rename_i e;exact .inr ⟨qs,k,rfl,e⟩
  .cases h
  .cases h
 |_=>simp only[eH] at h;cases h
theorem zza (h:eH N W l=.wait):l=.mZ:=by
 cases l with
 |mN qs=>simp only[eH] at h;split at h<;>cases h
 |mZ=>rfl
 |wk qs k=>simp only[eH] at h;split at h<;>cases h
 |_=>simp only[eH] at h;cases h
theorem zxP {can:gE->Prop}(h:eH N W l=.note can):∃qs,l=.mN qs/\qs.length<N/\can=λl'=>∃a,l'=.mA qs a:=by
 cases l with
 |mN qs=>
  simp only[eH] at h;split at h
  .rename_i e;cases h;exact⟨qs,rfl,e,rfl⟩
  .cases h
 |wk qs k=>simp only[eH] at h;split at h<;>cases h
 |_=>simp only[eH] at h;cases h
variable {ans:Int}
theorem zpr {k i:Nat}{kd cl:Int}(h:W[k]? =some (.ask i kd cl ans))(j:Nat):kP W (k+1) j=if j=i then(if kd=1 then cl else kP W k j) else kP W k j:=by simp only[kP,h]
theorem zrO {k i:Nat}{kd cl:Int}(h:W[k]? =some (.ask i kd cl ans))(j:Nat):fR W (k+1) j=fR W k j:=by simp only[fR,h]
theorem zIb {k i:Nat}(h:W[k]? =some (.shut i))(j:Nat):kP W (k+1) j=kP W k j:=by simp only[kP,h]
theorem zxF {k i:Nat}(h:W[k]? =some (.shut i))(j:Nat):fR W (k+1) j=if j=i then true else fR W k j:=by simp only[fR,h]
def zpD {k:Nat}{x:fE}(h:W[k]? =some x):k<W.length:=(jW.1 h).1
end
section
variable {N:Nat}{W:List fE}{q:Nat->Pj gE}{ch:qV}
theorem zmo {n:Nat}{ix:Nat->Nat}{iw:Nat}(hg:∀i,i≠0->i≠iw->(∀j,j<n->i≠ix j)->q i=.gone){i:Nat}{l:gE}(h:q i=.run l):i=0\/i=iw\/∃j,j<n/\i=ix j:=by
 by_cases h0:i=0
 .exact .inl h0
 .by_cases h1:i=iw
  .exact .inr (.inl h1)
  .refine .inr (.inr (Classical.byContradiction λhn=>?_))
   have:=hg i h0 h1 λj hj e=>hn ⟨j,hj,e⟩;rw[this] at h;cases h
theorem zqh {qs:List Nat}{k j:Nat}{l:gE}(h:Ig W qs k j (.run l)):l=.op (qa qs j) (kP W k j) (nH W k j)\/(fR W k j=true/\l=.oD):=by
 rcases h with h|⟨h1,h|h⟩
 .cases h;exact .inl rfl
 .cases h;exact .inr ⟨h1,rfl⟩
 .cases h
theorem Yq {l:gE}(h:(∃qs,l=.mN qs)\/(∃qs a,l=.mA qs a)\/(∃qs a,l=.mS qs a)\/(∃qs,l=.mW qs)\/l=.mZ):(∀c ok pub nx,eH N W l≠ .send c ok pub nx)/\(∀c ok nx sh,eH N W l≠ .recv c ok nx sh)/\(∀c nx,eH N W l≠ .close c nx)/\eH N W l≠ .done:=by
 rcases h with⟨qs,rfl⟩|⟨qs,a,rfl⟩|⟨qs,a,rfl⟩|⟨qs,rfl⟩|rfl
 .simp only[eH]
  split<;>simp
 all_goals simp[eH]
theorem zbQ {n:Nat}{qs:List Nat}{l:gE}(h:l=.mN qs\/(n<N/\∃a,l=.mA qs a\/l=.mS qs a)\/(l=.mW qs/\n=N)):(∃qs,l=.mN qs)\/(∃qs a,l=.mA qs a)\/(∃qs a,l=.mS qs a)\/(∃qs,l=.mW qs)\/l=.mZ:=by
 rcases h with rfl|⟨_,a,rfl|rfl⟩|⟨rfl,_⟩
 .exact .inl ⟨_,rfl⟩
 .exact .inr (.inl ⟨_,_,rfl⟩)
 .exact .inr (.inr (.inl ⟨_,_,rfl⟩))
 .exact .inr (.inr (.inr (.inl ⟨_,rfl⟩)))
section
variable {n:Nat}{qs:List Nat}{ix:Nat->Nat}{iw k i0:Nat}{i c a:Nat}{l l0:gE}
theorem Of (hl:l0=.mN qs\/(n<N/\∃a,l0=.mA qs a\/l0=.mS qs a)\/(l0=.mW qs/\n=N))(h0:q 0=.run l0)(ho:Ops n ix q (λj p=>p=.run (.op (qa qs j) 0 (nH W 0 j))))(hg:∀i,i≠0->(∀j,j<n->i≠ix j)->q i=.gone)(hi:q i=.run l):(i=0/\l=l0)\/∃j,j<n/\i=ix j/\l=.op (qa qs j) 0 (nH W 0 j):=by
 rcases zmo (iw:=0) (λi h1 _ h3=>hg i h1 h3) hi with rfl|rfl|⟨j,hj,rfl⟩
 .rw[h0] at hi;cases hi;exact .inl ⟨rfl,rfl⟩
 .rw[h0] at hi;cases hi;exact .inl ⟨rfl,rfl⟩
 .have:=ho.at_ j hj;rw[hi] at this;cases this;exact .inr ⟨j,hj,rfl,rfl⟩
theorem Mz (h0:q 0=.run .mZ\/q 0=.waits)(cK:q iw=.run (.wk qs k)\/(k=W.length/\q iw=.over (.wk qs k)))(ho:Ops N ix q (Ig W qs k))(hg:∀i,i≠0->i≠iw->(∀j,j<N->i≠ix j)->q i=.gone)(hi:q i=.run l):
 (i=0/\l=.mZ)\/(i=iw/\l=.wk qs k)\/∃j,j<N/\i=ix j/\(l=.op (qa qs j) (kP W k j) (nH W k j)\/(fR W k j=true/\l=.oD)):=by
 rcases zmo hg hi with rfl|rfl|⟨j,hj,rfl⟩
 .rcases h0 with h0|h0<;>rw[h0] at hi<;>cases hi
  exact .inl ⟨rfl,rfl⟩
 .rcases cK with h|⟨_,h⟩<;>rw[h] at hi<;>cases hi
  exact .inr (.inl ⟨rfl,rfl⟩)
 .have:=ho.at_ j hj;rw[hi] at this
  exact .inr (.inr ⟨j,hj,rfl,zqh this⟩)
theorem Pm (h0:q 0=.run .mZ\/q 0=.waits)(cK:q iw=.run (.wr qs k a))(ho:Ops N ix q (λj p=>if j=i0 then p=.run (.an (qa qs j) (kP W (k+1) j) a (nH W (k+1) j)) else Ig W qs k j p))(hg:∀i,i≠0->i≠iw->(∀j,j<N->i≠ix j)->q i=.gone)(hi:q i=.run l):
 (i=0/\l=.mZ)\/(i=iw/\l=.wr qs k a)\/∃j,j<N/\i=ix j/\((j=i0/\l=.an (qa qs j) (kP W (k+1) j) a (nH W (k+1) j))\/(j≠i0/\(l=.op (qa qs j) (kP W k j) (nH W k j)\/(fR W k j=true/\l=.oD)))):=by
 rcases zmo hg hi with rfl|rfl|⟨j,hj,rfl⟩
 .rcases h0 with h0|h0<;>rw[h0] at hi<;>cases hi
  exact .inl ⟨rfl,rfl⟩
 .rw[cK] at hi;cases hi
  exact .inr (.inl ⟨rfl,rfl⟩)
 .have:=ho.at_ j hj
  simp only[hi] at this;split at this
  .rename_i e;cases this;exact .inr (.inr ⟨j,hj,rfl,.inl ⟨e,rfl⟩⟩)
  .rename_i e;exact .inr (.inr ⟨j,hj,rfl,.inr ⟨e,zqh this⟩⟩)
variable {ok:aF->Prop}{pub:aF->List Nat}{nx:aF->gE}{sh:gE}
theorem Zm (h0:q 0=.run .mZ\/q 0=.waits)(cK:q iw=.run (.wk qs k)\/(k=W.length/\q iw=.over (.wk qs k)))(ho:Ops N ix q (Ig W qs k))(hg:∀i,i≠0->i≠iw->(∀j,j<N->i≠ix j)->q i=.gone)(hi:q i=.run l)(ha:eH N W l=.send c ok pub nx):
 i=iw/\l=.wk qs k/\∃j kd cl ans,W[k]? =some (.ask j kd cl ans)/\c=qa qs j/\ok=(λv=>∃a,v=J6 kd cl a)/\pub=Oz/\nx=Vj qs k:=by
 rcases Mz h0 cK ho hg hi with⟨rfl,rfl⟩|⟨rfl,rfl⟩|⟨j,hj,rfl,rfl|⟨_,rfl⟩⟩
 .cases ha
 .rcases zln ha with⟨_,_,_,e,_⟩|⟨Pf,k',j,kd,cl,ans,e,h1,h2,h3,h4,h5⟩
  .cases e
  .cases e;exact⟨rfl,rfl,j,kd,cl,ans,h1,h2,h3,h4,h5⟩
 .cases ha
 .cases ha
theorem Vb (h0:q 0=.run .mZ\/q 0=.waits)(cK:q iw=.run (.wk qs k)\/(k=W.length/\q iw=.over (.wk qs k)))(ho:Ops N ix q (Ig W qs k))(hg:∀i,i≠0->i≠iw->(∀j,j<N->i≠ix j)->q i=.gone)(hi:q i=.run l)(ha:eH N W l=.recv c ok nx sh):
 ∃j,j<N/\i=ix j/\l=.op (qa qs j) (kP W k j) (nH W k j)/\c=qa qs j/\ok=(λv=>(Np v).isSome=true/\0<nH W k j)/\nx=Pz c (kP W k j) (nH W k j)/\sh=.oD:=by
 rcases Mz h0 cK ho hg hi with⟨rfl,rfl⟩|⟨rfl,rfl⟩|⟨j,hj,rfl,rfl|⟨_,rfl⟩⟩
 .cases ha
 .rcases Xi ha with⟨_,_,e,_⟩|⟨_,_,e,_⟩<;>cases e
 .rcases Xi ha with⟨_,_,e,h1,h2,h3⟩|⟨_,_,e,_⟩<;>cases e
  exact⟨j,hj,rfl,rfl,rfl,h1,h2,h3⟩
 .cases ha
theorem Zk (h0:q 0=.run .mZ\/q 0=.waits)(cK:q iw=.run (.wr qs k a))(ho:Ops N ix q (λj p=>if j=i0 then p=.run (.an (qa qs j) (kP W (k+1) j) a (nH W (k+1) j)) else Ig W qs k j p))(hg:∀i,i≠0->i≠iw->(∀j,j<N->i≠ix j)->q i=.gone)(hi:q i=.run l)(ha:eH N W l=.send c ok pub nx):
 i0<N/\i=ix i0/\l=.an (qa qs i0) (kP W (k+1) i0) a (nH W (k+1) i0)/\c=a/\ok=(λv=>v=.int .i64 (kP W (k+1) i0))/\pub=(λ_=>[])/\nx=λ_=>.op (qa qs i0) (kP W (k+1) i0) (nH W (k+1) i0):=by
 rcases Pm h0 cK ho hg hi with⟨rfl,rfl⟩|⟨rfl,rfl⟩|⟨j,hj,rfl,⟨rfl,rfl⟩|⟨_,rfl|⟨_,rfl⟩⟩⟩
 .cases ha
 .cases ha
 .rcases zln ha with⟨_,_,_,e,h1,h2,h3⟩|⟨_,_,_,_,_,_,e,_⟩<;>cases e
  exact⟨hj,rfl,rfl,rfl,h1,h2,h3⟩
 .cases ha
 .cases ha
theorem Vv (h0:q 0=.run .mZ\/q 0=.waits)(cK:q iw=.run (.wr qs k a))(ho:Ops N ix q (λj p=>if j=i0 then p=.run (.an (qa qs j) (kP W (k+1) j) a (nH W (k+1) j)) else Ig W qs k j p))(hg:∀i,i≠0->i≠iw->(∀j,j<N->i≠ix j)->q i=.gone)(hi:q i=.run l)(ha:eH N W l=.recv c ok nx sh):
 (i=iw/\l=.wr qs k a/\c=a/\ok=Wh W k/\nx=(λ_=>.wk qs (k+1)))\/∃j,j<N/\j≠i0/\i=ix j/\l=.op (qa qs j) (kP W k j) (nH W k j)/\c=qa qs j/\sh=.oD:=by
 rcases Pm h0 cK ho hg hi with⟨rfl,rfl⟩|⟨rfl,rfl⟩|⟨j,hj,rfl,⟨rfl,rfl⟩|⟨aT,rfl|⟨_,rfl⟩⟩⟩
 .cases ha
 .rcases Xi ha with⟨_,_,e,_⟩|⟨_,_,e,h1,h2,h3⟩<;>cases e
  exact .inl ⟨rfl,rfl,rfl,h1,h2⟩
 .cases ha
 .rcases Xi ha with⟨_,_,e,h1,h2,h3⟩|⟨_,_,e,_⟩<;>cases e
  exact .inr ⟨j,hj,aT,rfl,rfl,rfl,h3⟩
 .cases ha
theorem zfV (hl:l0=.mN qs\/(n<N/\∃a,l0=.mA qs a\/l0=.mS qs a)\/(l0=.mW qs/\n=N))(h0:q 0=.run l0)(ho:Ops n ix q (λj p=>p=.run (.op (qa qs j) 0 (nH W 0 j))))(hg:∀i,i≠0->(∀j,j<n->i≠ix j)->q i=.gone)(hi:q i=.run l)(ha:eH N W l=.send c ok pub nx):False:=by
 rcases Of hl h0 ho hg hi with⟨rfl,rfl⟩|⟨j,hj,rfl,rfl⟩
 .exact(Yq (zbQ hl)).1 _ _ _ _ ha
 .cases ha
theorem zfn (hl:l0=.mN qs\/(n<N/\∃a,l0=.mA qs a\/l0=.mS qs a)\/(l0=.mW qs/\n=N))(h0:q 0=.run l0)(ho:Ops n ix q (λj p=>p=.run (.op (qa qs j) 0 (nH W 0 j))))(hg:∀i,i≠0->(∀j,j<n->i≠ix j)->q i=.gone)(hi:q i=.run l)(ha:eH N W l=.recv c ok nx sh):∃j,j<n/\i=ix j/\l=.op (qa qs j) 0 (nH W 0 j)/\c=qa qs j:=by
 rcases Of hl h0 ho hg hi with⟨rfl,rfl⟩|⟨j,hj,rfl,rfl⟩
 .exact((Yq (zbQ hl)).2.1 _ _ _ _ ha).elim
 .rcases Xi ha with⟨_,_,e,h1,h2,h3⟩|⟨_,_,e,_⟩<;>cases e
  exact⟨j,hj,rfl,rfl,rfl⟩
end
end
variable {L:Type}
theorem zHV (q:Nat->Pj L)(s:Nat):∀n,num q n<=num (bG q s .gone) n+1:=by
 have ind:∀n,num q n<=num (bG q s .gone) n+(if s<n then 1 else 0):=by
  intro n
  induction n with
  |zero=>simp[num]
  |succ n ih=>
   simp only[num];have hc:(q n).c<=1:=by cases q n<;>simp[Pj.c]
   by_cases h:n=s
   .subst h
    rw[upd_same,show(Pj.gone:Pj L).c=0 from rfl];rw[if_neg (Cb _)] at ih;rw[if_pos (wL _)];omega
   .rw[upd_ne _ _ h]
    have:s<n↔s<n+1:=aD;simp only[this] at ih;omega
 intro n;have:=ind n;split at this<;>omega
theorem zGw :∀(S:List Nat) (q:Nat->Pj L),(∀i,i∉S->q i=.gone)->∀n,num q n<=S.length:=by
 intro S
 induction S with
 |nil=>
  intro q h n
  induction n with
  |zero=>simp[num]
  |succ n ih=>simp only[num];rw[h n aQ];simpa[Pj.c] using ih
 |cons s S ih=>
  intro q h n;have h1:=zHV q s n;have h2:=ih (bG q s .gone) (λi hi=>by
   by_cases e:i=s
   .subst e;exact upd_same _ _ _
   .rw[upd_ne _ _ e];exact h i (by simp[e,hi])) n
  simp only[pG];omega
section
variable {N:Nat}{W:List fE}{q:Nat->Pj gE}{ch:qV}
theorem ztK (ch:qV):ch.opn []=ch:=by funext c;simp[qV.opn]
theorem zto {ch:qV}{a c:Nat}(h:c≠a):ch.opn [a] c=ch c:=by simp[qV.opn,h]
theorem zvG (ch:qV)(a:Nat):ch.opn [a] a=some false:=by simp[qV.opn]
theorem X2 {qs:List Nat}{n:Nat}(h:qs.length=n){j:Nat}(hj:j<n)(a:Nat):qa (qs++[a]) j=qa qs j:=by
 unfold qa;rw[Jl,Jl,yO aD]
theorem zc1 {qs:List Nat}{n:Nat}(h:qs.length=n)(a:Nat):qa (qs++[a]) n=a:=by
 unfold qa;rw[Jl,zS aD,h,M9];rfl
theorem zrC {D:aE->Prop}{l:gE}(h:(∃qs,l=.mN qs)\/(∃qs a,l=.mA qs a)\/(∃qs a,l=.mS qs a)\/(∃qs,l=.mW qs)\/l=.mZ):¬(Au N W D).Blocked q ch l:=by
 unfold jF.Blocked;split
 .rename_i e;exact((Yq h).1 _ _ _ _ e).elim
 .rename_i e;exact((Yq h).2.1 _ _ _ _ e).elim
 .exact id
theorem zDz (N:Nat)(W:List fE)(D:aE->Prop)(hW:WOk N W)(hN:N<=1000000):(Au N W D).Ok where
 send1:=by
  intro q ch i j li lj c ok pub nx pF N0 nJ hI hi hj ha hb
  cases hI with
  |a n qs ix l0 hq hn hl h0 ho hc hg=>exact(zfV hl h0 ho hg hi ha).elim
  |b qs ix iw k hq hk hw aT h0 cK ho hc hg=>rw[(Zm h0 cK ho hg hi ha).1,(Zm h0 cK ho hg hj hb).1]
  |c qs ix iw k i0 kd cl ans a hq hk hw aT h0 cK ho hc pK lT hg=>rw[(Zk h0 cK ho hg hi ha).2.1,(Zk h0 cK ho hg hj hb).2.1]
 recv1:=by
  intro q ch i j li lj c ok nx sh pF nJ wD hI hi hj ha hb
  cases hI with
  |a n qs ix l0 hq hn hl h0 ho hc hg=>
   obtain⟨j1,h1,rfl,_,c1⟩:=zfn hl h0 ho hg hi ha;obtain⟨j2,h2,rfl,_,c2⟩:=zfn hl h0 ho hg hj hb;rw[hq.inj j1 j2 h1 h2 (c1.symm.trans c2)]
  |b qs ix iw k hq hk hw aT h0 cK ho hc hg=>
   obtain⟨j1,h1,rfl,_,c1,_⟩:=Vb h0 cK ho hg hi ha;obtain⟨j2,h2,rfl,_,c2,_⟩:=Vb h0 cK ho hg hj hb;rw[hq.inj j1 j2 h1 h2 (c1.symm.trans c2)]
  |c qs ix iw k i0 kd cl ans a hq hk hw aT h0 cK ho hc pK lT hg=>
   rcases Vv h0 cK ho hg hi ha with⟨rfl,_,rfl,_⟩|⟨j1,h1,_,rfl,_,c1,_⟩<;>rcases Vv h0 cK ho hg hj hb with⟨rfl,_,e2,_⟩|⟨j2,h2,_,rfl,_,c2,_⟩
   .rfl
   .exact(lT j2 h2 c2.symm).elim
   .exact(lT j1 h1 (c1.symm.trans e2)).elim
   .rw[hq.inj j1 j2 h1 h2 (c1.symm.trans c2)]
 sendC:=by
  intro q ch i l c ok pub nx hI hi ha
  cases hI with
  |a n qs ix l0 hq hn hl h0 ho hc hg=>exact(zfV hl h0 ho hg hi ha).elim
  |b qs ix iw k hq hk hw aT h0 cK ho hc hg=>
   obtain⟨rfl,rfl,j,kd,cl,ans,h1,rfl,_⟩:=Zm h0 cK ho hg hi ha;obtain⟨h2,h3,_⟩:=hW.ask k j kd cl ans h1;rw[hc j h2,h3]
  |c qs ix iw k i0 kd cl ans a hq hk hw aT h0 cK ho hc pK lT hg=>
   obtain⟨_,_,_,rfl,_⟩:=Zk h0 cK ho hg hi ha;exact pK
 recvC:=by
  intro q ch i l c ok nx sh hI hi ha
  cases hI with
  |a n qs ix l0 hq hn hl h0 ho hc hg=>
   obtain⟨j1,h1,rfl,_,rfl⟩:=zfn hl h0 ho hg hi ha;exact⟨_,hc j1 h1⟩
  |b qs ix iw k hq hk hw aT h0 cK ho hc hg=>
   obtain⟨j1,h1,rfl,_,rfl,_⟩:=Vb h0 cK ho hg hi ha;exact⟨_,hc j1 h1⟩
  |c qs ix iw k i0 kd cl ans a hq hk hw aT h0 cK ho hc pK lT hg=>
   rcases Vv h0 cK ho hg hi ha with⟨rfl,_,rfl,_⟩|⟨j1,h1,_,rfl,_,rfl,_⟩
   .exact⟨_,pK⟩
   .exact⟨_,hc j1 h1⟩
 meet:=by
  intro q ch i j li lj c ok pub nx pF nJ sh v hI hi hj ha hb hv hp
  cases hI with
  |a n qs ix l0 hq hn hl h0 ho hc hg=>exact(zfV hl h0 ho hg hi ha).elim
  |b qs ix iw k hq hk hw aT h0 cK ho hc hg=>
   obtain⟨rfl,rfl,j0,kd,cl,ans,h1,rfl,rfl,rfl,rfl⟩:=Zm h0 cK ho hg hi ha;obtain⟨j1,Gz,rfl,rfl,pY,rfl,rfl,_⟩:=Vb h0 cK ho hg hj hb;obtain rfl:=hq.inj j0 j1 (hW.ask k j0 kd cl ans h1).1 Gz pY;obtain⟨a,rfl⟩:=hv;have Jq:=hp a (by simp[Oz,ze6]);have lT:∀j,j<N->qa qs j≠a:=λj hj e=>by have:=hc j hj;rw[e,Jq] at this;cases this
   have hR:=zvw h1 j0;rw[if_pos rfl] at hR;refine⟨⟨by simp[ze6],aD⟩,?_⟩;show Xc N W (bG (bG q i (.run (.wr qs k a))) (ix j0) (.run (.an (qa qs j0) (if kd=1 then cl else kP W k j0) a (nH W k j0-1)))) (ch.opn [a]);rw[show nH W k j0-1=nH W (k+1) j0 by omega];refine .c qs ix i k j0 kd cl ans a hq h1 hw aT ?_ ?_ ⟨ho.ne,ho.inj,λj hj=>?_⟩ (λj hj=>by rw[zto (lT j hj)];exact hc j hj) (zvG _ _) lT λi' g0 g1 g2=>?_
   .rw[upd_ne _ _ (Ne.symm (ho.ne j0 Gz)),upd_ne _ _ (Ne.symm hw)];exact h0
   .rw[upd_ne _ _ (Ne.symm (aT j0 Gz)),upd_same]
   .by_cases e:j=j0
    .subst e;rw[if_pos rfl,upd_same,zpr h1,if_pos rfl]
    .rw[if_neg e,upd_ne _ _ (λh=>e (ho.inj j j0 hj Gz h)),upd_ne _ _ (aT j hj)]
     exact ho.at_ j hj
   .rw[upd_ne _ _ (g2 j0 Gz),upd_ne _ _ g1];exact hg i' g0 g1 g2
  |c qs ix iw k i0 kd cl ans a hq hk hw aT h0 cK ho hc pK lT hg=>
   obtain⟨fL,rfl,rfl,rfl,rfl,rfl,rfl⟩:=Zk h0 cK ho hg hi ha;rcases Vv h0 cK ho hg hj hb with⟨rfl,rfl,_,rfl,rfl⟩|⟨j1,Gz,_,rfl,_,pY,_⟩
   .refine⟨?_,?_⟩
    .unfold Wh;rw[hk]
     show v=_;rw[(hW.ask k i0 kd cl ans hk).2.2];exact hv
    .rw[ztK]
     refine .b qs ix j (k+1) hq (zpD hk) hw aT ?_ (.inl (upd_same _ _ _)) ⟨ho.ne,ho.inj,λj' oJ=>?_⟩ (λj' oJ=>by rw[zrO hk];exact hc j' oJ) λi' g0 g1 g2=>?_
     .rw[upd_ne _ _ (Ne.symm hw),upd_ne _ _ (Ne.symm (ho.ne i0 fL))];exact h0
     .rw[upd_ne _ _ (aT j' oJ)]
      by_cases e:j'=i0
      .subst e;rw[upd_same];exact .inl rfl
      .rw[upd_ne _ _ (λh=>e (ho.inj j' i0 oJ fL h))]
       have:=ho.at_ j' oJ;rw[if_neg e] at this;unfold Ig at this⊢;have hR:=zvw hk j';rw[if_neg e,Ra] at hR;rw[zpr hk,if_neg e,zrO hk,<-hR];exact this
     .rw[upd_ne _ _ g1,upd_ne _ _ (g2 i0 fL)];exact hg i' g0 g1 g2
   .exact(lT j1 Gz pY.symm).elim
 shut:=by
  intro q ch i l c ok nx sh hI hi ha pY
  cases hI with
  |a n qs ix l0 hq hn hl h0 ho hc hg=>
   obtain⟨j1,h1,rfl,_,rfl⟩:=zfn hl h0 ho hg hi ha;rw[hc j1 h1] at pY;cases pY
  |b qs ix iw k hq hk hw aT h0 cK ho hc hg=>
   obtain⟨j1,h1,rfl,rfl,rfl,_,_,rfl⟩:=Vb h0 cK ho hg hi ha;have hx:fR W k j1=true:=by have:=hc j1 h1;rw[pY] at this;injection this with this;exact this.symm
   refine⟨trivial,.b qs ix iw k hq hk hw aT ?_ ?_ ⟨ho.ne,ho.inj,λj hj=>?_⟩ hc λi' g0 g1 g2=>?_⟩
   .rw[upd_ne _ _ (Ne.symm (ho.ne j1 h1))];exact h0
   .rw[upd_ne _ _ (Ne.symm (aT j1 h1))];exact cK
   .by_cases e:j=j1
    .subst e;rw[upd_same];exact .inr ⟨hx,.inl rfl⟩
    .rw[upd_ne _ _ (λh=>e (ho.inj j j1 hj h1 h))];exact ho.at_ j hj
   .rw[upd_ne _ _ (g2 j1 h1)];exact hg i' g0 g1 g2
  |c qs ix iw k i0 kd cl ans a hq hk hw aT h0 cK ho hc pK lT hg=>
   rcases Vv h0 cK ho hg hi ha with⟨rfl,_,rfl,_⟩|⟨j1,h1,Pp,rfl,rfl,rfl,rfl⟩
   .rw[pK] at pY;cases pY
   .have hx:fR W k j1=true:=by have:=hc j1 h1;rw[pY] at this;injection this with this;exact this.symm
    refine⟨trivial,.c qs ix iw k i0 kd cl ans a hq hk hw aT ?_ ?_ ⟨ho.ne,ho.inj,λj hj=>?_⟩ hc pK lT λi' g0 g1 g2=>?_⟩
    .rw[upd_ne _ _ (Ne.symm (ho.ne j1 h1))];exact h0
    .rw[upd_ne _ _ (Ne.symm (aT j1 h1))];exact cK
    .by_cases e:j=j1
     .subst e;rw[if_neg Pp,upd_same];exact .inr ⟨hx,.inl rfl⟩
     .rw[upd_ne _ _ (λh=>e (ho.inj j j1 hj h1 h))];exact ho.at_ j hj
    .rw[upd_ne _ _ (g2 j1 h1)];exact hg i' g0 g1 g2
 close:=by
  intro q ch i l c nx hI hi ha;obtain⟨Pf,k',i0,rfl,cN,rfl,rfl⟩:=zs4 (N:=N) ha
  cases hI with
  |a n qs ix l0 hq hn hl h0 ho hc hg=>
   rcases Of hl h0 ho hg hi with⟨rfl,rfl⟩|⟨j,hj,rfl,e⟩
   .exact((Yq (N:=N) (W:=W) (zbQ hl)).2.2.1 _ _ ha).elim
   .cases e
  |b qs ix iw k hq hk hw aT h0 cK ho hc hg=>
   rcases Mz h0 cK ho hg hi with⟨_,e⟩|⟨rfl,e⟩|⟨j,hj,rfl,e|⟨_,e⟩⟩<;>cases e;obtain⟨fL,hx⟩:=hW.shut k' i0 cN;refine⟨by rw[hc i0 fL,hx],.b Pf ix i (k'+1) hq (zpD cN) hw aT ?_ (.inl (upd_same _ _ _)) ⟨ho.ne,ho.inj,λj hj=>?_⟩ (λj hj=>?_) λi' g0 g1 g2=>?_⟩
   .rw[upd_ne _ _ (Ne.symm hw)];exact h0
   .rw[upd_ne _ _ (aT j hj)]
    have:=ho.at_ j hj;unfold Ig at this⊢;rw[zIb cN,zxF cN,zDg cN];refine this.imp id λh=>⟨?_,h.2⟩;split
    .rfl
    .exact h.1
   .rw[zxF cN]
    by_cases e:j=i0
    .subst e;rw[if_pos rfl,upd_same]
    .rw[if_neg e,upd_ne _ _ (λh=>e (hq.inj j i0 hj fL h))];exact hc j hj
   .rw[upd_ne _ _ g1];exact hg i' g0 g1 g2
  |c qs ix iw k i1 kd cl ans a hq hk hw aT h0 cK ho hc pK lT hg=>
   rcases Pm h0 cK ho hg hi with⟨_,e⟩|⟨_,e⟩|⟨j,hj,rfl,⟨_,e⟩|⟨_,e|⟨_,e⟩⟩⟩<;>cases e
 add:=by
  intro q ch i l nx hI hi ha;have ha:=zzM ha
  cases hI with
  |a n qs ix l0 hq hn hl h0 ho hc hg=>
   rcases Of hl h0 ho hg hi with⟨rfl,rfl⟩|⟨j,hj,rfl,rfl⟩
   .have keep:∀l',(l'=.mN qs\/(n<N/\∃a,l'=.mA qs a\/l'=.mS qs a)\/(l'=.mW qs/\n=N))->Xc N W (bG q 0 (.run l')) ch:=λl' Ao=>
     .a n qs ix l' hq hn Ao (upd_same _ _ _) ⟨ho.ne,ho.inj,λj hj=>by rw[upd_ne _ _ (ho.ne j hj)];exact ho.at_ j hj⟩ hc λi' g0 g1=>by rw[upd_ne _ _ g0];exact hg i' g0 g1
    rcases ha with⟨Pf,rfl,h1,rfl⟩|⟨Pf,a,rfl,rfl⟩
    .rcases hl with e|⟨_,_,e|e⟩|⟨e,_⟩<;>cases e
     refine⟨rfl,rfl,rfl,keep _ (.inr (.inr ⟨rfl,?_⟩))⟩;have:=hq.len;omega
    .rcases hl with e|⟨h1,_,e|e⟩|⟨e,_⟩<;>cases e
     exact⟨rfl,rfl,rfl,keep _ (.inr (.inl ⟨h1,a,.inr rfl⟩))⟩
   .rcases ha with⟨_,e,_⟩|⟨_,_,e,_⟩<;>cases e
  |b qs ix iw k hq hk hw aT h0 cK ho hc hg=>
   exfalso;rcases Mz h0 cK ho hg hi with⟨_,rfl⟩|⟨_,rfl⟩|⟨j,hj,_,rfl|⟨_,rfl⟩⟩<;>rcases ha with⟨_,e,_⟩|⟨_,_,e,_⟩<;>cases e
  |c qs ix iw k i0 kd cl ans a hq hk hw aT h0 cK ho hc pK lT hg=>
   exfalso;rcases Pm h0 cK ho hg hi with⟨_,rfl⟩|⟨_,rfl⟩|⟨j,hj,_,⟨_,rfl⟩|⟨_,rfl|⟨_,rfl⟩⟩⟩<;>rcases ha with⟨_,e,_⟩|⟨_,_,e,_⟩<;>cases e
 spawn:=by
  intro q ch i l pub lc nx kk hI hi ha;have ha:=zGm ha
  cases hI with
  |a n qs ix l0 hq hn hl h0 ho hc hg=>
   rcases Of hl h0 ho hg hi with⟨rfl,rfl⟩|⟨j,hj,rfl,rfl⟩
   .rcases ha with⟨Pf,a,rfl,rfl,rfl,rfl⟩|⟨Pf,rfl,rfl,rfl,rfl⟩
    .rcases hl with e|⟨aP,_,e|e⟩|⟨e,_⟩<;>cases e
     refine⟨rfl,rfl,rfl,λhk kW hp=>?_⟩;have Jq:=hp a aQ;have lT:∀j,j<n->qa qs j≠a:=λj hj e=>by have:=hc j hj;rw[e,Jq] at this;cases this
     have eB:∀j,j<n->ix j≠kk:=λj hj e=>by have:=ho.at_ j hj;rw[e,hk] at this;cases this
     have Iq:∀j,j<n+1->j<n\/j=n:=λj hj=>by omega
     refine .a (n+1) (qs++[a]) (λj=>if j<n then ix j else kk) _ ⟨by simp[hq.len],λj j' hj oJ e=>?_⟩ aP (.inl rfl) ?_ ⟨λj hj=>?_,λj j' hj oJ e=>?_,λj hj=>?_⟩ (λj hj=>?_) λi' g0 g1=>?_
     .rcases Iq j hj with h|rfl<;>rcases Iq j' oJ with h'|rfl
      .rw[X2 hq.len h,X2 hq.len h'] at e;exact hq.inj j j' h h' e
      .rw[X2 hq.len h,zc1 hq.len] at e;exact(lT j h e).elim
      .rw[X2 hq.len h',zc1 hq.len] at e;exact(lT j' h' e.symm).elim
      .rfl
     .rw[upd_ne _ _ (Ne.symm kW),upd_same]
     .show(if j<n then ix j else kk)≠0
      split
      .rename_i h;exact ho.ne j h
      .exact kW
     .have e:=e
      rcases Iq j hj with h|rfl<;>rcases Iq j' oJ with h'|rfl
      .rw[if_pos h,if_pos h'] at e;exact ho.inj j j' h h' e
      .rw[if_pos h,if_neg (Cb _)] at e;exact(eB j h e).elim
      .rw[if_pos h',if_neg (Cb _)] at e;exact(eB j' h' e.symm).elim
      .rfl
     .rcases Iq j hj with h|rfl
      .simp only[if_pos h]
       rw[upd_ne _ _ (eB j h),upd_ne _ _ (ho.ne j h),X2 hq.len h];exact ho.at_ j h
      .simp only[Cb,if_false]
       rw[upd_same,zc1 hq.len,hq.len]
     .rcases Iq j hj with h|rfl
      .rw[X2 hq.len h,zto (lT j h)];exact hc j h
      .rw[zc1 hq.len];exact zvG _ _
     .have e1:i'≠kk:=λe=>by have:=g1 n (wL _);simp only[Cb,if_false] at this;exact this e
      rw[upd_ne _ _ e1,upd_ne _ _ g0];exact hg i' g0 λj hj e=>by have:=g1 j aD;simp only[if_pos hj] at this;exact this e
    .rcases hl with e|⟨aP,_,e|e⟩|⟨e,rfl⟩<;>cases e
     refine⟨rfl,rfl,rfl,λhk kW hp=>?_⟩;have eB:∀j,j<n->ix j≠kk:=λj hj e=>by have:=ho.at_ j hj;rw[e,hk] at this;cases this
     rw[ztK];refine .b qs ix kk 0 hq (lB _) kW eB (.inl ?_) (.inl (upd_same _ _ _)) ⟨ho.ne,ho.inj,λj hj=>?_⟩ hc λi' g0 g1 g2=>?_
     .rw[upd_ne _ _ (Ne.symm kW),upd_same]
     .rw[upd_ne _ _ (eB j hj),upd_ne _ _ (ho.ne j hj)];exact .inl (ho.at_ j hj)
     .rw[upd_ne _ _ g1,upd_ne _ _ g0];exact hg i' g0 g2
   .rcases ha with⟨_,_,e,_⟩|⟨_,e,_⟩<;>cases e
  |b qs ix iw k hq hk hw aT h0 cK ho hc hg=>
   exfalso;rcases Mz h0 cK ho hg hi with⟨_,rfl⟩|⟨_,rfl⟩|⟨j,hj,_,rfl|⟨_,rfl⟩⟩<;>rcases ha with⟨_,_,e,_⟩|⟨_,e,_⟩<;>cases e
  |c qs ix iw k i0 kd cl ans a hq hk hw aT h0 cK ho hc pK lT hg=>
   exfalso;rcases Pm h0 cK ho hg hi with⟨_,rfl⟩|⟨_,rfl⟩|⟨j,hj,_,⟨_,rfl⟩|⟨_,rfl|⟨_,rfl⟩⟩⟩<;>rcases ha with⟨_,_,e,_⟩|⟨_,e,_⟩<;>cases e
 done:=by
  intro q ch i l hI hi ha;have fF:=zDI ha
  cases hI with
  |a n qs ix l0 hq hn hl h0 ho hc hg=>
   exfalso;rcases Of hl h0 ho hg hi with⟨rfl,rfl⟩|⟨j,hj,rfl,rfl⟩
   .exact(Yq (zbQ hl)).2.2.2 ha
   .cases ha
  |b qs ix iw k hq hk hw aT h0 cK ho hc hg=>
   rcases Mz h0 cK ho hg hi with⟨_,rfl⟩|⟨rfl,rfl⟩|⟨j,hj,rfl,rfl|⟨hx,rfl⟩⟩
   .cases ha
   .rcases fF with e|⟨_,_,e,h1⟩
    .cases e
    .cases e
     have zc8:k=W.length:=by have:=zoP.1 h1;omega
     refine⟨hw,.b qs ix i k hq hk hw aT ?_ (.inr ⟨zc8,upd_same _ _ _⟩) ⟨ho.ne,ho.inj,λj hj=>?_⟩ hc λi' g0 g1 g2=>?_⟩
     .rw[upd_ne _ _ (Ne.symm hw)];exact h0
     .rw[upd_ne _ _ (aT j hj)];exact ho.at_ j hj
     .rw[upd_ne _ _ g1];exact hg i' g0 g1 g2
   .cases ha
   .refine⟨ho.ne j hj,.b qs ix iw k hq hk hw aT ?_ ?_ ⟨ho.ne,ho.inj,λj' oJ=>?_⟩ hc λi' g0 g1 g2=>?_⟩
    .rw[upd_ne _ _ (Ne.symm (ho.ne j hj))];exact h0
    .rw[upd_ne _ _ (Ne.symm (aT j hj))];exact cK
    .by_cases e:j'=j
     .subst e;rw[upd_same];exact .inr ⟨hx,.inr rfl⟩
     .rw[upd_ne _ _ (λh=>e (ho.inj j' j oJ hj h))];exact ho.at_ j' oJ
    .rw[upd_ne _ _ (g2 j hj)];exact hg i' g0 g1 g2
  |c qs ix iw k i0 kd cl ans a hq hk hw aT h0 cK ho hc pK lT hg=>
   rcases Pm h0 cK ho hg hi with⟨_,rfl⟩|⟨rfl,rfl⟩|⟨j,hj,rfl,⟨_,rfl⟩|⟨Pp,rfl|⟨hx,rfl⟩⟩⟩
   .cases ha
   .cases ha
   .cases ha
   .cases ha
   .refine⟨ho.ne j hj,.c qs ix iw k i0 kd cl ans a hq hk hw aT ?_ ?_ ⟨ho.ne,ho.inj,λj' oJ=>?_⟩ hc pK lT λi' g0 g1 g2=>?_⟩
    .rw[upd_ne _ _ (Ne.symm (ho.ne j hj))];exact h0
    .rw[upd_ne _ _ (Ne.symm (aT j hj))];exact cK
    .by_cases e:j'=j
     .subst e;rw[if_neg Pp,upd_same];exact .inr ⟨hx,.inr rfl⟩
     .rw[upd_ne _ _ (λh=>e (ho.inj j' j oJ hj h))];exact ho.at_ j' oJ
    .rw[upd_ne _ _ (g2 j hj)];exact hg i' g0 g1 g2
 note:=by
  intro q ch i l can l' hI hi ha zBM;obtain⟨Pf,rfl,aP,rfl⟩:=zxP ha;obtain⟨a,rfl⟩:=zBM;refine⟨rfl,?_⟩
  cases hI with
  |a n qs ix l0 hq hn hl h0 ho hc hg=>
   rcases Of hl h0 ho hg hi with⟨rfl,rfl⟩|⟨j,hj,rfl,e⟩
   .rcases hl with e|⟨_,_,e|e⟩|⟨e,_⟩<;>cases e
    exact .a n Pf ix _ hq hn (.inr (.inl ⟨by have:=hq.len;omega,a,.inl rfl⟩)) (upd_same _ _ _) ⟨ho.ne,ho.inj,λj hj=>by rw[upd_ne _ _ (ho.ne j hj)];exact ho.at_ j hj⟩ hc λi' g0 g1=>by rw[upd_ne _ _ g0];exact hg i' g0 g1
   .cases e
  |b qs ix iw k hq hk hw aT h0 cK ho hc hg=>
   exfalso;rcases Mz h0 cK ho hg hi with⟨_,e⟩|⟨_,e⟩|⟨j,hj,_,e|⟨_,e⟩⟩<;>cases e
  |c qs ix iw k i0 kd cl ans a hq hk hw aT h0 cK ho hc pK lT hg=>
   exfalso;rcases Pm h0 cK ho hg hi with⟨_,e⟩|⟨_,e⟩|⟨j,hj,_,⟨_,e⟩|⟨_,e|⟨_,e⟩⟩⟩<;>cases e
 wait:=by
  intro q ch i l hI hi ha;obtain rfl:=zza ha
  cases hI with
  |a n qs ix l0 hq hn hl h0 ho hc hg=>
   exfalso;rcases Of hl h0 ho hg hi with⟨rfl,e⟩|⟨j,hj,rfl,e⟩
   .subst e;rcases hl with e|⟨_,_,e|e⟩|⟨e,_⟩<;>cases e
   .cases e
  |b qs ix iw k hq hk hw aT h0 cK ho hc hg=>
   rcases Mz h0 cK ho hg hi with⟨rfl,_⟩|⟨_,e⟩|⟨j,hj,_,e|⟨_,e⟩⟩
   .refine⟨rfl,rfl,.b qs ix iw k hq hk hw aT (.inr (upd_same _ _ _)) ?_ ⟨ho.ne,ho.inj,λj hj=>?_⟩ hc λi' g0 g1 g2=>?_⟩
    .rw[upd_ne _ _ hw];exact cK
    .rw[upd_ne _ _ (ho.ne j hj)];exact ho.at_ j hj
    .rw[upd_ne _ _ g0];exact hg i' g0 g1 g2
   all_goals cases e
  |c qs ix iw k i0 kd cl ans a hq hk hw aT h0 cK ho hc pK lT hg=>
   rcases Pm h0 cK ho hg hi with⟨rfl,_⟩|⟨_,e⟩|⟨j,hj,_,⟨_,e⟩|⟨_,e|⟨_,e⟩⟩⟩
   .refine⟨rfl,rfl,.c qs ix iw k i0 kd cl ans a hq hk hw aT (.inr (upd_same _ _ _)) ?_ ⟨ho.ne,ho.inj,λj hj=>?_⟩ hc pK lT λi' g0 g1 g2=>?_⟩
    .rw[upd_ne _ _ hw];exact cK
    .rw[upd_ne _ _ (ho.ne j hj)];exact ho.at_ j hj
    .rw[upd_ne _ _ g0];exact hg i' g0 g1 g2
   all_goals cases e
 prog:=by
  intro q ch hI hB
  cases hI with
  |a n qs ix l0 hq hn hl h0 ho hc hg=>exact(zrC (zbQ hl) (hB 0 l0 h0)).elim
  |b qs ix iw k hq hk hw aT h0 cK ho hc hg=>
   have hz:=h0.resolve_left λe=>zrC (.inr (.inr (.inr (.inr rfl)))) (hB 0 _ e);have zB9:k=W.length:=by
    rcases cK with e|⟨e,_⟩
    .have h1:=hB iw _ e
     cases hx:W[k]? with
     |none=>have:=zoP.1 hx;omega
     |some x=>
      exfalso
      cases x with
      |ask i kd cl ans=>
       obtain⟨hi,Am,_⟩:=hW.ask k i kd cl ans hx;unfold jF.Blocked Au at h1;simp only[eH,hx] at h1;refine h1 ⟨ix i,.op (qa qs i) (kP W k i) (nH W k i),_,_,_,?_,rfl⟩;rcases ho.at_ i hi with h2|⟨h2,_⟩
       .exact h2
       .rw[Am] at h2;cases h2
      |shut i=>
       unfold jF.Blocked Au at h1;simp only[eH,hx] at h1
    .exact e
   subst zB9;refine⟨hz,λi l hi=>?_⟩;have h1:=hB i l hi;rcases Mz h0 cK ho hg hi with⟨rfl,_⟩|⟨_,rfl⟩|⟨j,hj,rfl,rfl|⟨_,rfl⟩⟩
   .rw[hz] at hi;cases hi
   .unfold jF.Blocked Au at h1
    simp[eH] at h1
   .unfold jF.Blocked Au at h1
    simp only[eH] at h1;rw[hc j hj,hW.all j hj] at h1;exact absurd h1.1 aQ
   .unfold jF.Blocked Au at h1
    simp[eH] at h1
  |c qs ix iw k i0 kd cl ans a hq hk hw aT h0 cK ho hc pK lT hg=>
   exfalso;obtain⟨fL,_,_⟩:=hW.ask k i0 kd cl ans hk;have h2:=ho.at_ i0 fL;rw[if_pos rfl] at h2;have h1:=hB (ix i0) _ h2;unfold jF.Blocked Au at h1;simp only[eH] at h1;exact h1 ⟨iw,.wr qs k a,_,_,_,cK,rfl⟩
 pendC:=by
  intro l l' c v ok pub nx ha hl;subst hl;rcases zln ha with⟨c0,call,m,rfl,rfl,rfl,rfl⟩|⟨qs,k,i,kd,cl,ans,rfl,h1,rfl,rfl,rfl,rfl⟩
  .rfl
  .show(Vj qs k v).pend=false
   unfold Vj;split<;>rfl
 pendR:=by
  intro l l' c v ok nx sh ha hl;rcases Xi ha with⟨call,m,rfl,rfl,rfl,rfl⟩|⟨qs,k,rfl,rfl,rfl,rfl⟩
  .rcases hl with rfl|rfl
   .show(Pz c call m v).pend=false
    unfold Pz;split<;>rfl
   .rfl
  .rcases hl with rfl|rfl<;>rfl
 pendX:=by
  intro l c nx ha;obtain⟨qs,k,i,rfl,_,_,rfl⟩:=zs4 ha;rfl
 few:=by
  intro q ch hI m;have key:∀(n iw:Nat) (ix:Nat->Nat),n<=N->(∀i,i≠0->i≠iw->(∀j,j<n->i≠ix j)->q i=.gone)->num q m<2000000000:=λn iw ix hn hg=>by
   have:=zGw (0::iw::(gD n).map ix) q (λi hi=>by
    simp only[iX,not_or,Hv,B6,not_exists,not_and] at hi;exact hg i hi.1 hi.2.1 λj hj e=>hi.2.2 j hj e.symm) m
   simp at this;omega
  cases hI with
  |a n qs ix l0 hq hn hl h0 ho hc hg=>exact key n 0 ix hn λi h1 _ h3=>hg i h1 h3
  |b qs ix iw k hq hk hw aT h0 cK ho hc hg=>exact key N iw ix (aZ _) hg
  |c qs ix iw k i0 kd cl ans a hq hk hw aT h0 cK ho hc pK lT hg=>exact key N iw ix (aZ _) hg
 gotP:=by
  intro q ch i j li lj c ok pub nx pF nJ sh v hI hi hj ha hb hv a hx
  cases hI with
  |a n qs ix l0 hq hn hl h0 ho hc hg=>exact(zfV hl h0 ho hg hi ha).elim
  |b qs ix iw k hq hk hw aT h0 cK ho hc hg=>
   obtain⟨rfl,rfl,j0,kd,cl,ans,h1,rfl,rfl,rfl,rfl⟩:=Zm h0 cK ho hg hi ha;obtain⟨j1,Gz,rfl,rfl,_⟩:=Vb h0 cK ho hg hj hb;exact hx
  |c qs ix iw k i0 kd cl ans a' hq hk hw aT h0 cK ho hc pK lT hg=>
   obtain⟨fL,rfl,rfl,rfl,rfl,rfl,rfl⟩:=Zk h0 cK ho hg hi ha;rcases Vv h0 cK ho hg hj hb with⟨rfl,rfl,_⟩|⟨j1,Gz,_,rfl,_,pY,_⟩
   .cases hx
   .exact(lT j1 Gz pY.symm).elim
end
end Go.Mt
namespace Go.Proofs.YtfcjiloojkjaeaaDoor
open Go.RowKit Go.Mt
def zE (op:Int):Nat:=(op-1).toNat
def Gc (b:b6)(op:Int):List fE:=
 .ask (zE op) 0 0 (dJ b.recs op)::(if 0<dJ b.recs op then[] else match b.wait with|[]=>[]|c::_=>[.ask (zE op) 1 c.c c.c])
def Ct (b:b6)(op:Int):List fE:=
 .ask (zE op) 0 0 (dJ b.recs op)::(if 0<dJ b.recs op then[] else match b.back with|[]=>[]|c::_=>match n6 b.o b.recs with|[]=>[]|_::_=>[.ask (zE op) 1 c.c c.c])
def Cq (b:b6)(c:Int):List fE:=
 match jD b.recs c with
 |some i=>if 0<opAt b.recs i then[.ask (zE (opAt b.recs i)) 1 0 0] else[]
 |none=>[]
def o8 (b:b6)(e:dG):List fE:=
 if e.k.toList=H3 then[] else if e.k.toList=Hs then Gc b e.a else if e.k.toList=He then Ct b e.a else if e.k.toList=I6 then Cq b e.a else[]
def rM (o:jE)(es:List dG):Nat->List fE
 |0=>[]
 |k+1=>rM o es k++(match es[k]? with|some e=>o8 (mB o es k) e|none=>[])
def yI (b:b6):Nat->List fE
 |0=>[]
 |n+1=>yI b n++[.ask n 0 0 (dJ b.recs ((n:Int)+1)),.shut n]
def By (o:jE)(es:List dG):List fE:=rM o es es.length++yI (C3 o es) o.op.toNat
theorem zlu (A B:List fE)(i:Nat):∀k,k<=A.length->kP (A++B) k i=kP A k i:=by
 intro k
 induction k with
 |zero=>intro _;rfl
 |succ k ih=>
  intro hk;simp only[kP];rw[yO aD,ih aD]
theorem Y6 (A B:List fE)(i:Nat):∀k,k<=A.length->fR (A++B) k i=fR A k i:=by
 intro k
 induction k with
 |zero=>intro _;rfl
 |succ k ih=>
  intro hk;simp only[fR];rw[yO aD,ih aD]
theorem zgs (A:List fE)(x:fE):(A++[x])[A.length]? =some x:=by rw[zS (aZ _),M9];rfl
structure WP (N:Nat)(A:List fE):Prop where
 ask:∀(k i:Nat) (kd cl ans:Int),A[k]? =some (.ask i kd cl ans)->i<N/\fR A k i=false/\ans=kP A (k+1) i
 shut:∀(k i:Nat),A[k]? =some (.shut i)->i<N/\fR A k i=false
variable {N:Nat}{A:List fE}
theorem WP.snoc {x:fE}(h:WP N A)(h1:∀i kd cl ans,x=.ask i kd cl ans->i<N/\fR A A.length i=false/\ans=kP (A++[x]) (A.length+1) i)(h2:∀i,x=.shut i->i<N/\fR A A.length i=false):WP N (A++[x]):=by
 have key:∀(k:Nat) (y:fE),(A++[x])[k]? =some y->(k<A.length/\A[k]? =some y)\/(k=A.length/\y=x):=λk y hk=>by
  rcases nM k A.length with hl|hl
  .rw[yO hl] at hk;exact .inl ⟨hl,hk⟩
  .rw[zS hl] at hk
   rcases Ou (k-A.length) with e|e
   .rw[e] at hk;exact .inr ⟨aD,by simpa using hk.symm⟩
   .rw[Gk rF] at hk;cases hk
 refine⟨λk i kd cl ans hk=>?_,λk i hk=>?_⟩
 .rcases key k _ hk with⟨hl,cN⟩|⟨rfl,e⟩
  .obtain⟨a1,a2,a3⟩:=h.ask k i kd cl ans cN
   exact⟨a1,by rw[Y6 _ _ _ _ aD];exact a2,by rw[zlu _ _ _ _ aD];exact a3⟩
  .obtain⟨a1,a2,a3⟩:=h1 i kd cl ans e.symm
   exact⟨a1,by rw[Y6 _ _ _ _ (aZ _)];exact a2,a3⟩
 .rcases key k _ hk with⟨hl,cN⟩|⟨rfl,e⟩
  .obtain⟨a1,a2⟩:=h.shut k i cN
   exact⟨a1,by rw[Y6 _ _ _ _ aD];exact a2⟩
  .obtain⟨a1,a2⟩:=h2 i e.symm
   exact⟨a1,by rw[Y6 _ _ _ _ (aZ _)];exact a2⟩
theorem Y5 (A:List fE)(j:Nat)(kd cl ans:Int)(i:Nat):kP (A++[.ask j kd cl ans]) (A.length+1) i=if i=j then(if kd=1 then cl else kP A A.length i) else kP A A.length i:=by
 simp only[kP,zgs];rw[zlu _ _ _ _ (aZ _)]
theorem zhy (A:List fE)(j:Nat)(kd cl ans:Int)(i:Nat):fR (A++[.ask j kd cl ans]) (A.length+1) i=fR A A.length i:=by
 simp only[fR,zgs];rw[Y6 _ _ _ _ (aZ _)]
theorem zBF (A:List fE)(j i:Nat):kP (A++[.shut j]) (A.length+1) i=kP A A.length i:=by
 simp only[kP,zgs];rw[zlu _ _ _ _ (aZ _)]
theorem zz0 (A:List fE)(j i:Nat):fR (A++[.shut j]) (A.length+1) i=if i=j then true else fR A A.length i:=by
 simp only[fR,zgs];rw[Y6 _ _ _ _ (aZ _)]
def Hi (N:Nat)(rs:List bR)(A:List fE):Prop:=∀i,i<N->kP A A.length i=dJ rs ((i:Int)+1)/\fR A A.length i=false
def Zz (A:List fE)(x:fE):(A++[x]).length=A.length+1:=aQ
variable {rs:List bR}{i:Nat}
theorem WP.who (h:WP N A)(ht:Hi N rs A)(hi:i<N):WP N (A++[.ask i 0 0 (dJ rs ((i:Int)+1))])/\Hi N rs (A++[.ask i 0 0 (dJ rs ((i:Int)+1))]):=by
 obtain⟨t1,t2⟩:=ht i hi;refine⟨h.snoc (λj kd cl ans e=>?_) (λj e=>by cases e),λj hj=>?_⟩
 .cases e
  exact⟨hi,t2,by rw[Y5,if_pos rfl,if_neg aH,t1]⟩
 .obtain⟨s1,s2⟩:=ht j hj
  rw[Zz,Y5,zhy];refine⟨?_,s2⟩;split
  .rw[if_neg aH];exact s1
  .exact s1
variable {I8:List bR}
theorem WP.tell (h:WP N A)(ht:Hi N rs A)(hi:i<N){c:Int}(h1:dJ I8 ((i:Int)+1)=c)(h2:∀j:Nat,j<N->j≠i->dJ I8 ((j:Int)+1)=dJ rs ((j:Int)+1)):WP N (A++[.ask i 1 c c])/\Hi N I8 (A++[.ask i 1 c c]):=by
 obtain⟨t1,t2⟩:=ht i hi;refine⟨h.snoc (λj kd cl ans e=>?_) (λj e=>by cases e),λj hj=>?_⟩
 .cases e
  exact⟨hi,t2,by rw[Y5,if_pos rfl,if_pos rfl]⟩
 .obtain⟨s1,s2⟩:=ht j hj
  rw[Zz,Y5,zhy];refine⟨?_,s2⟩;split
  .rename_i e;subst e;rw[if_pos rfl,h1]
  .rename_i e;rw[h2 j hj e];exact s1
def Hi.same (ht:Hi N rs A)(h:∀j:Nat,j<N->dJ I8 ((j:Int)+1)=dJ rs ((j:Int)+1)):Hi N I8 A:=λi hi=>⟨(ht i hi).1.trans (h i hi).symm,(ht i hi).2⟩
variable {op:Int}
theorem zsP {r:bR}(h:r.o≠op):dJ (rs++[r]) op=dJ rs op:=by
 unfold dJ;have hn:[r].find? (vQ op)=none:=by
  rw[zfm];intro x hx;obtain rfl:=sC.1 hx;unfold vQ;simp[h]
 rw[List.find?_append,hn];cases rs.find? (vQ op)<;>rfl
variable {b:b6}
def iW.one (h:iW b)(hop:0<op):∀(i j:Nat) (d e:bR),b.recs[i]? =some d->b.recs[j]? =some e->eA d=true->eA e=true->d.o=op->e.o=op->i=j:=
 λi j d e h1 h2 h3 h4 h5 h6=>h.opn i j d e h1 h2 h3 h4 (.inr (.inr ⟨h5.trans h6.symm,aD⟩))
theorem zqz (hu:∀(i j:Nat) (d e:bR),I8[i]? =some d->I8[j]? =some e->eA d=true->eA e=true->d.o=op->e.o=op->i=j)
 (h1:∀(i:Nat) (d:bR),rs[i]? =some d->eA d=true->d.o=op->I8[i]? =some d) (h2:∀(i:Nat) (d:bR),I8[i]? =some d->eA d=true->d.o=op->rs[i]? =some d):dJ I8 op=dJ rs op:=by
 rcases zoJ rs op with⟨i,d,a1,a2,a3,a4⟩|⟨a1,a2⟩
 .rw[a4];exact zhF hu (h1 i d a1 a2 a3) a2 a3
 .rw[a2]
  exact zru λi d hd ho e=>a1 i d (h2 i d hd ho e) ho e
variable {d:bR}{e:ByteArray}
theorem zhe (h:iW b)(hd:b.recs[i]? =some d)(he:(e.toList==[111,112,101,110])=false)(hop:0<op)(aT:d.o≠op):dJ (Ke b i e) op=dJ b.recs op:=by
 have old:∀(j:Nat) (z:bR),(Ke b i e)[j]? =some z->eA z=true->b.recs[j]? =some z:=λj z hj hz=>by
  obtain⟨d',h1,⟨_,rfl⟩|⟨h2,rfl⟩⟩:=Ey hj
  .have Fi:eA {d' with t:=b.clk,e:=e}=false:=he
   rw[Fi] at hz;cases hz
  .exact h1
 refine zqz (λp q x y hp hq hx hy h5 h6=>h.one hop p q x y (old p x hp hx) (old q y hq hy) hx hy h5 h6) (λj z hj hz e=>?_) (λj z hj hz _=>old j z hj hz);exact Pk hj λe2=>by subst e2;rw[hd] at hj;injection hj with hj;exact aT (hj▸e)
theorem zyv (h:iW b)(hd:b.recs[i]? =some d)(zdB:eA d=true)(he:(e.toList==[111,112,101,110])=false)(hop:0<d.o):dJ (Ke b i e) d.o=0:=by
 refine zru λj z hj hz e2=>?_;obtain⟨d',h1,⟨_,rfl⟩|⟨h2,rfl⟩⟩:=Ey hj
 .have Fi:eA {d' with t:=b.clk,e:=e}=false:=he
  rw[Fi] at hz;cases hz
 .exact h2 (h.one hop i j d z hd h1 zdB hz rfl e2)
theorem zIU (hop:0<op):∀(xs:List bJ) (b:b6) (t:List UInt8),iW b->(xs.map bJ.c).Nodup->(∀x∈xs,x∈b.wait)->dJ (xs.foldl lY (b,t)).1.recs op=dJ b.recs op:=by
 intro xs
 induction xs with
 |nil=>intro b t h _ _;rfl
 |cons x xs ih=>
  intro b t h hn hx;rw[Pc];have hS:=h.tire (t:=t) (x:=x);rw[fG,Ch] at hn;have key:dJ (lY (b,t) x).1.recs op=dJ b.recs op/\∀y∈xs,y∈(lY (b,t) x).1.wait:=by
   have Be:∀y∈xs,y∈b.wait:=λy hy=>hx y (Gn _ hy);obtain⟨i0,d0,w1,w2,w3,w4⟩:=h.wt x (hx x aQ);have eY:jD b.recs x.c=some i0:=by rw[<-w3];exact h.at_ w1 w2
   unfold lY;simp only[eY];split
   .refine⟨zhe h w1 zjQ hop aD,λy hy=>?_⟩
    show y∈dQ b.wait (Fu b.recs i0);unfold dQ;rw[H5,Qe w1,w3];refine⟨Be y hy,?_⟩;have:y.c≠x.c:=λe=>hn.1 (e▸Uu hy);simpa using this
   .exact⟨rfl,Be⟩
  obtain⟨k1,k2⟩:=key;generalize lY (b,t) x=p at hS k1 k2⊢;obtain⟨b',t'⟩:=p;rw[ih b' t' hS hn.2 k2];exact k1
structure Qd (b:b6):Prop where
 op:∀d∈b.recs,0<=d.o/\d.o<=b.o.op
 n1:1<=b.o.op
def zqA (A B:List fE)(x:fE):A++x::B=(A++[x])++B:=aQ
theorem zHL {e:dG}(hS:iW b)(hr:RInv b)(hB:Qd b)(hN:b.o.op=(N:Int))(he:sK b.o.op e=true)(hw:WP N A)(ht:Hi N b.recs A):
 WP N (A++o8 b e)/\Hi N (eG b e).1.recs (A++o8 b e)/\Qd (eG b e).1:=by
 have ziv:∀op:Int,1<=op->op<=b.o.op->zE op<N/\((zE op:Nat):Int)+1=op:=λop h1 h2=>by unfold zE;omega
 by_cases h1:e.k.toList=H3
 .unfold o8 eG
  rw[if_pos h1,if_pos h1,Mh];refine⟨hw,?_⟩;unfold pL;split
  .exact⟨ht,⟨hB.op,hB.n1⟩⟩
  .split
   .exact⟨ht,⟨hB.op,hB.n1⟩⟩
   .rename_i l ls hf
    refine⟨ht.same λj hj=>zsP (by show(0:Int)≠_;omega),⟨λd hd=>?_,hB.n1⟩⟩;rcases Dv.1 hd with hd|hd
    .exact hB.op d hd
    .obtain rfl:=sC.1 hd
     exact⟨Int.le_refl _,by have:=hB.n1;show(0:Int)<=b.o.op;omega⟩
 by_cases h2:e.k.toList=Hs
 .obtain⟨o1,o2⟩:=zds he (.inl h2)
  obtain⟨i1,i2⟩:=ziv e.a o1 o2;have y6:=h1;unfold o8 eG;rw[if_neg h1,if_neg h1,if_pos h2,if_pos h2];unfold Gc nG;obtain⟨k1,k2⟩:=hw.who ht i1;rw[i2] at k1 k2;by_cases hp:0<dJ b.recs e.a
  .rw[if_pos hp,if_pos hp]
   exact⟨k1,k2,hB⟩
  .rw[if_neg hp,if_neg hp]
   cases cC:b.wait with
   |nil=>exact⟨k1,k2,hB⟩
   |cons c cs=>
    obtain⟨i0,d0,w1,w2,w3,w4⟩:=hS.wt c Vk;have eY:jD b.recs c.c=some i0:=by rw[<-w3];exact hS.at_ w1 w2
    simp only[eY];rw[zqA];have hn:=zgo (λd hd=>(hr.recB d hd).1) hp;have Pe:=hS.heard (hh:=b.clk) w1 w2 hn (wait:=[]) (λx hx=>by cases hx);have r1:dJ (b.recs.modify i0 λd=>{d with o:=e.a,h:=b.clk}) (((zE e.a:Nat):Int)+1)=c.c:=by
     rw[i2];have:=zhF (rs:=b.recs.modify i0 λd=>{d with o:=e.a,h:=b.clk}) (op:=e.a) (λp q x y=>Pe.one aD p q x y) (zcw w1) w2 rfl;rw[this];exact w3
    have r2:∀j:Nat,j<N->j≠zE e.a->dJ (b.recs.modify i0 λd=>{d with o:=e.a,h:=b.clk}) ((j:Int)+1)=dJ b.recs ((j:Int)+1):=λj hj aT=>by
     have Yh:(j:Int)+1≠e.a:=λh=>aT zne;refine zqz (λp q x y=>Pe.one aD p q x y) (λp z hz Zi zlz=>?_) (λp z hz Zi zlz=>?_)
     .exact Pk hz λe2=>by subst e2;rw[w1] at hz;injection hz with hz;rw[<-hz] at zlz;omega
     .obtain⟨d',g1,⟨_,rfl⟩|⟨_,rfl⟩⟩:=Ey hz
      .exact absurd zlz.symm Yh
      .exact g1
    obtain⟨m1,m2⟩:=k1.tell k2 i1 r1 r2;refine⟨m1,m2,⟨λd hd=>?_,hB.n1⟩⟩;obtain⟨d',Ah,rfl|rfl⟩:=Pt hd
    .exact hB.op _ Ah
    .exact⟨by show 0<=e.a;omega,o2⟩
 by_cases h3:e.k.toList=He
 .obtain⟨o1,o2⟩:=zds he (.inr h3)
  obtain⟨i1,i2⟩:=ziv e.a o1 o2;unfold o8 eG;rw[if_neg h1,if_neg h1,if_neg h2,if_neg h2,if_pos h3,if_pos h3];unfold Ct lV;obtain⟨k1,k2⟩:=hw.who ht i1;rw[i2] at k1 k2;by_cases hp:0<dJ b.recs e.a
  .rw[if_pos hp,if_pos hp]
   exact⟨k1,k2,hB⟩
  .rw[if_neg hp,if_neg hp]
   cases wH:b.back with
   |nil=>exact⟨k1,k2,hB⟩
   |cons c cs=>
    cases hf:n6 b.o b.recs with
    |nil=>exact⟨k1,k2,hB⟩
    |cons l ls=>
     simp only;rw[zqA];have hn:=zgo (λd hd=>(hr.recB d hd).1) hp;have Pe:=hS.more (c:=c.c) (l:=l) (o:=e.a) (hh:=b.clk) (tt:=-1) (clk:=b.clk) (hS.bo c zak) (zkI Uk) (.inr hn) (wait:=[]) (back:=[]) (λx hx=>by cases hx) Pq (λx hx=>by cases hx);have r1:dJ (b.recs++[⟨c.c,l,e.a,b.clk,b.clk,-1,eJ⟩]) (((zE e.a:Nat):Int)+1)=c.c:=by
      rw[i2];exact zhF (rs:=b.recs++[⟨c.c,l,e.a,b.clk,b.clk,-1,eJ⟩]) (op:=e.a) (λp q x y=>Pe.one aD p q x y) (i:=b.recs.length) (d:=⟨c.c,l,e.a,b.clk,b.clk,-1,eJ⟩) (by rw[zS (aZ _),M9];rfl) (by unfold eA;rw[zdH];rfl) rfl
     have r2:∀j:Nat,j<N->j≠zE e.a->dJ (b.recs++[⟨c.c,l,e.a,b.clk,b.clk,-1,eJ⟩]) ((j:Int)+1)=dJ b.recs ((j:Int)+1):=λj hj aT=>
      zsP (by show e.a≠_;intro h;exact aT zne)
     obtain⟨m1,m2⟩:=k1.tell k2 i1 r1 r2;refine⟨m1,m2,⟨λd hd=>?_,hB.n1⟩⟩;rcases Dv.1 hd with hd|hd
     .exact hB.op d hd
     .obtain rfl:=sC.1 hd
      exact⟨by show 0<=e.a;omega,o2⟩
 by_cases h4:e.k.toList=I6
 .unfold o8 eG
  rw[if_neg h1,if_neg h1,if_neg h2,if_neg h2,if_neg h3,if_neg h3,if_pos h4,if_pos h4];unfold Cq l7
  cases eY:jD b.recs e.a with
  |none=>
   simp only;rw[Mh];split
   .exact⟨hw,ht,⟨hB.op,hB.n1⟩⟩
   .exact⟨hw,ht,⟨hB.op,hB.n1⟩⟩
  |some i=>
   obtain⟨d,g1,g2,g3⟩:=Ca eY;have ho:opAt b.recs i=d.o:=by unfold opAt;rw[g1]
   have zpk:∀(x:ByteArray),∀z∈Ke b i x,0<=z.o/\z.o<=b.o.op:=λx z hz=>by
    obtain⟨d',Ah,rfl|rfl⟩:=Pt hz
    .exact hB.op _ Ah
    .exact hB.op d' Ah
   simp only[ho];by_cases hp:0<d.o
   .rw[if_pos hp,if_pos hp]
    obtain⟨i1,i2⟩:=ziv d.o aD (hB.op d (dS g1)).2;have r1:dJ (Ke b i Gv) (((zE d.o:Nat):Int)+1)=0:=by rw[i2];exact zyv hS g1 g3 zdX hp
    have r2:∀j:Nat,j<N->j≠zE d.o->dJ (Ke b i Gv) ((j:Int)+1)=dJ b.recs ((j:Int)+1):=λj hj aT=>zhe hS g1 zdX aD (λh=>aT zne);obtain⟨m1,m2⟩:=hw.tell ht i1 r1 r2;exact⟨m1,m2,⟨zpk _,hB.n1⟩⟩
   .rw[if_neg hp,if_neg hp,Mh]
    exact⟨hw,ht.same λj hj=>zhe hS g1 zjX aD (by have:=(hB.op d (dS g1)).1;omega),⟨zpk _,hB.n1⟩⟩
 .unfold o8 eG
  rw[if_neg h1,if_neg h1,if_neg h2,if_neg h2,if_neg h3,if_neg h3,if_neg h4,if_neg h4,Mh];unfold tT;have Pe:iW {b with clk:=b.clk+e.a}:=⟨hS.opn,hS.last,hS.wt,hS.bk,hS.bo⟩;refine⟨hw,ht.same λj hj=>zIU aD b.wait {b with clk:=b.clk+e.a} _ Pe hr.nodup (λx hx=>hx),?_⟩;have key:∀(xs:List bJ) (b':b6) (t:List UInt8),Qd b'->Qd (xs.foldl lY (b',t)).1:=by
   intro xs
   induction xs with
   |nil=>intro b' t h;exact h
   |cons x xs ih=>
    intro b' t h;rw[Pc];have h9:Qd (lY (b',t) x).1:=by
     unfold lY;split
     .exact h
     .split
      .refine⟨λz hz=>?_,h.n1⟩
       obtain⟨d',Ah,rfl|rfl⟩:=Pt hz
       .exact h.op _ Ah
       .exact h.op d' Ah
      .exact h
    generalize lY (b',t) x=p at h9⊢;obtain⟨zyA,zFy⟩:=p;exact ih zyA zFy h9
  exact key _ _ _ ⟨hB.op,hB.n1⟩
variable {o:jE}{es:List dG}
theorem zrY (h:jV o es=true)(hN:o.op=(N:Int)):∀k,k<=es.length->WP N (rM o es k)/\Hi N (mB o es k).recs (rM o es k)/\Qd (mB o es k):=by
 intro k;have bV:=h;unfold jV at bV;simp only[fN,tJ] at bV
 induction k with
 |zero=>
  intro _;refine⟨⟨λk i kd cl ans h=>by simp[rM] at h,λk i h=>by simp[rM] at h⟩,λi hi=>⟨rfl,rfl⟩,⟨λd hd=>by simp[mB,l6] at hd,?_⟩⟩;have:=bV.1.1;unfold qY at this;simp at this;show 1<=o.op;omega
 |succ k ih=>
  intro hk;have aP:k<es.length:=aD;have he:=lP aP;obtain⟨a1,a2,a3⟩:=ih aD;obtain⟨b1,_,b3⟩:=Tw h k aD;have:=zHL (zt9 h k aD) b1 a3 (by rw[b3];exact hN) (by rw[b3];exact bV.2 es[k] (List.getElem_mem aP)) a1 a2;rw[Wz he];unfold rM;rw[he];exact⟨this.1,this.2.1,⟨this.2.2.op,this.2.2.n1⟩⟩
theorem zAT (hw:WP N A)(ht:Hi N b.recs A):∀n,n<=N->WP N (A++yI b n)/\(∀i,i<N->kP (A++yI b n) (A++yI b n).length i=dJ b.recs ((i:Int)+1))/\(∀i,fR (A++yI b n) (A++yI b n).length i=if i<n then true else fR A A.length i):=by
 intro n
 induction n with
 |zero=>intro _;simp only[yI,Mh];exact⟨hw,λi hi=>(ht i hi).1,λi=>by simp⟩
 |succ n ih=>
  intro hn;obtain⟨k1,k2,k3⟩:=ih aD;have e:A++yI b (n+1)=(A++yI b n++[fE.ask n 0 0 (dJ b.recs ((n:Int)+1))])++[.shut n]:=by simp[yI]
  rw[e];generalize A++yI b n=B at*;have hx:fR B B.length n=false:=by rw[k3 n,if_neg (Cb _)];exact(ht n aD).2
  have w1:WP N (B++[fE.ask n 0 0 (dJ b.recs ((n:Int)+1))]):=k1.snoc (λj kd cl ans e=>by cases e;exact⟨aD,hx,by rw[Y5,if_pos rfl,if_neg aH,k2 n aD]⟩) (λj e=>by cases e);have l1:=Zz B (fE.ask n 0 0 (dJ b.recs ((n:Int)+1)));have x1:∀i,fR (B++[fE.ask n 0 0 (dJ b.recs ((n:Int)+1))]) (B++[fE.ask n 0 0 (dJ b.recs ((n:Int)+1))]).length i=fR B B.length i:=λi=>by rw[l1,zhy]
  have c1:∀i,kP (B++[fE.ask n 0 0 (dJ b.recs ((n:Int)+1))]) (B++[fE.ask n 0 0 (dJ b.recs ((n:Int)+1))]).length i=kP B B.length i:=λi=>by
   rw[l1,Y5];split
   .rw[if_neg aH]
   .rfl
  generalize B++[fE.ask n 0 0 (dJ b.recs ((n:Int)+1))]=B2 at*;refine⟨w1.snoc (λj kd cl ans e=>by cases e) (λj e=>by cases e;exact⟨aD,by rw[x1];exact hx⟩),λi hi=>?_,λi=>?_⟩
  .rw[Zz,zBF,c1];exact k2 i hi
  .rw[Zz,zz0,x1,k3 i]
   by_cases h:i=n
   .subst h;rw[if_pos rfl,if_pos (wL _)]
   .rw[if_neg h]
    by_cases h2:i<n
    .rw[if_pos h2,if_pos aD]
    .rw[if_neg h2,if_neg aD]
theorem zJw (h:jV o es=true):WOk o.op.toNat (By o es):=by
 have h1:o.op=(o.op.toNat:Int):=by
  have bV:=h;unfold jV qY at bV;simp at bV;omega
 obtain⟨a1,a2,a3⟩:=zrY h h1 es.length (aZ _);rw[zha] at a2;obtain⟨k1,k2,k3⟩:=zAT a1 a2 o.op.toNat (aZ _);exact⟨k1.ask,k1.shut,λi hi=>by unfold By;rw[k3 i,if_pos hi]⟩
end Go.Proofs.YtfcjiloojkjaeaaDoor
namespace Go.Proofs.YtfcjiloojkjaeaaDoor
open Go.RowKit
section
variable {P:bS}{k:aM}
theorem zlT {d:Mr}{e:aM}(hk:P.underlying k=some (.chan d e))(a b:Option Nat)(w:aE):(Op.equal k (.chan a) (.chan b)).run P w=.ok (a==b) w:=by
 unfold Op.equal;rw[show Tx=(Tx-1)+1 by decide];simp[Op.equalIn,wU hk]
end
def x9 (es:List oS)(ps:List (Nat×aF)):Prop:=es.map (λe=>(e.key,e.val))=ps.map (λp=>(aF.chan (some p.1),p.2))
def Bc (w:aE)(b:Nat)(ps:List (Nat×aF)):Prop:=∃es clock,w.heap[b]? =some (.map es clock)/\x9 es.toList ps
def o6 (c:Nat):List (Nat×aF)->Option aF
 |[]=>none
 |p::ps=>if c=p.1 then some p.2 else o6 c ps
def uM (c:Nat)(v:aF):List (Nat×aF)->List (Nat×aF)
 |[]=>[(c,v)]
 |p::ps=>if c=p.1 then(p.1,v)::ps else p::uM c v ps
def zW (c:Nat):List (Nat×aF)->Nat->Option (Nat×aF)
 |[],_=>none
 |p::ps,i=>if c=p.1 then some (i,p.2) else zW c ps (i+1)
variable {e:oS}{es:List oS}{ps:List (Nat×aF)}
theorem x9.cons_inv (h:x9 (e::es) ps):∃p qs,ps=p::qs/\e.key=.chan (some p.1)/\e.val=p.2/\x9 es qs:=by
 unfold x9 at h
 cases ps with
 |nil=>cases h
 |cons p qs=>
  rw[fG,fG] at h;injection h with h1 h2;injection h1 with h3 h4;exact⟨p,qs,rfl,h3,h4,h2⟩
theorem x9.nil_inv (h:x9 [] ps):ps=[]:=by
 unfold x9 at h;cases ps with
 |nil=>rfl
 |cons p qs=>cases h
section
variable {P:bS}{k:aM}{d:Mr}{e0:aM}
theorem zvB (hk:P.underlying k=some (.chan d e0))(c:Nat)(w:aE):∀(es:List oS) (ps:List (Nat×aF)) (i:Nat),x9 es ps->(Jm k (.chan (some c)) es i).run P w=.ok (zW c ps i) w
 |[],ps,i,h=>by rw[h.nil_inv];rfl
 |e::es,ps,i,h=>by
  obtain⟨p,qs,rfl,h1,h2,h3⟩:=h.cons_inv;have ih:=zvB hk c w es qs (i+1) h3;unfold Jm;simp only[D5,h1,zlT hk,D8];by_cases hc:c=p.1
  .subst hc;simp[zW,h2]
  .have:(some c==some p.1)=false:=by rw[beq_eq_false_iff_ne];intro h;injection h with h;exact hc h
   rw[this];simp only[Bool.false_eq_true,if_false,zW,if_neg hc];exact ih
theorem zgT (hk:P.underlying k=some (.chan d e0))(c:Nat)(w:aE)(es:List oS)(ps:List (Nat×aF))(h:x9 es ps):(J8 k (.chan (some c)) es).run P w=.ok (zW c ps 0) w:=by
 unfold J8;simp only[D5,wU hk,D8]
 cases es with
 |nil=>rw[h.nil_inv];rfl
 |cons e es=>
  have:Gt (.chan d e0) (.chan (some c)) (e::es) 0=none:=by
   simp[Gt,vF]
  rw[this];exact zvB hk c w _ _ 0 h
theorem zhv (c:Nat):∀(ps:List (Nat×aF)) (i:Nat),(zW c ps i).map zqF=o6 c ps
 |[],_=>rfl
 |p::ps,i=>by
  unfold zW o6;by_cases h:c=p.1
  .rw[if_pos h,if_pos h];rfl
  .rw[if_neg h,if_neg h];exact zhv c ps (i+1)
theorem zgm (hk:P.underlying k=some (.chan d e0))(b:Bool)(c:Nat)(w:aE):(Ga b 10000 k (.chan (some c))).run P w=.ok () w:=by
 rw[show(10000:Nat)=9999+1 by decide];unfold Ga;simp[wU hk]
variable {ps:List (Nat×aF)}
theorem zHq {t e:aM}(ht:P.underlying t=some (.map k e))(hk:P.underlying k=some (.chan d e0)){z:aF}{w:aE}(hz:(zeroValue e).run P w=.ok z w){b c:Nat}(h:Bc w b ps)(ok:Bool):
 (yP t (.map (some b)) (.chan (some c)) ok).run P w=.ok (if ok then .tuple #[(o6 c ps).getD z,.bool (o6 c ps).isSome] else(o6 c ps).getD z) w:=by
 obtain⟨es,clock,hb,he⟩:=h;unfold yP;have hf:=zhv c ps 0;have hg:(getObj b).run P w=.ok (.map es clock) w:=by first|exact run_getObj hb|(show bD P (zs8 b Sem.pure) w=_;unfold bD;rw[hb];rfl)|(simp[getObj,bD,hb])
 simp only[D5,wU ht,D8,hg,Ib,zgm hk,zgT hk c w _ _ he]
 cases hq:zW c ps 0 with
 |none=>
  rw[hq] at hf;have Ak:o6 c ps=none:=by simpa using hf.symm
  simp[hz,Ak]
 |some q=>
  rw[hq] at hf;have Ak:o6 c ps=some q.2:=by simpa using hf.symm
  simp[Ak]
end
variable {c:Nat}{v:aF}
theorem ztL :∀{ps:List (Nat×aF)} {i:Nat},zW c ps i=none->uM c v ps=ps++[(c,v)]
 |[],_,_=>rfl
 |p::ps,i,h=>by
  unfold zW at h;by_cases hc:c=p.1
  .rw[if_pos hc] at h;cases h
  .rw[if_neg hc] at h
   unfold uM;rw[if_neg hc,ztL h];rfl
theorem zqy {c:Nat}{v:aF}:∀{es:List oS} {ps:List (Nat×aF)} {i:Nat} {q:Nat×aF},x9 es ps->zW c ps i=some q->
 ∃j e0,q.1=i+j/\es[j]? =some e0/\e0.key=.chan (some c)/\x9 (es.set j {e0 with key:=.chan (some c),val:=v}) (uM c v ps)
 |[],ps,i,q,h,hq=>by rw[h.nil_inv] at hq;cases hq
 |e::es,ps,i,q,h,hq=>by
  obtain⟨p,qs,rfl,h1,h2,h3⟩:=h.cons_inv;unfold zW at hq;by_cases hc:c=p.1
  .rw[if_pos hc] at hq
   injection hq with hq;refine⟨0,e,by rw[<-hq];rfl,rfl,by rw[h1,hc],?_⟩;unfold uM;rw[if_pos hc];unfold x9 at h3⊢;rw[dV,fG,fG,h3,hc]
  .rw[if_neg hc] at hq
   obtain⟨j,e0,e1,e2,e3,e4⟩:=zqy (v:=v) h3 hq;refine⟨j+1,e0,by rw[e1];omega,e2,e3,?_⟩;unfold uM;rw[if_neg hc];unfold x9 at e4⊢;rw[dX,fG,fG,e4,h1,h2]
variable {P:bS}
theorem zHr (c:Nat)(w:aE):(Oa (.chan (some c)) (.chan (some c))).run P w=.ok (.chan (some c)) w:=by
 unfold Oa;rw[if_pos (by simp[zb5])];rfl
section
variable {P:bS}{k:aM}{d:Mr}{e0:aM}
variable {ps:List (Nat×aF)}
open Go.ChangeMaps in
theorem zH8 {t e:aM}(ht:P.underlying t=some (.map k e))(hk:P.underlying k=some (.chan d e0)){w:aE}{b c:Nat}(h:Bc w b ps)(v:aF):
 ∃eV zaE,(Gg t (.map (some b)) (.chan (some c)) v).run P w=.ok () {w with heap:=w.heap.setIfInBounds b (.map eV zaE)}/\Bc {w with heap:=w.heap.setIfInBounds b (.map eV zaE)} b (uM c v ps):=by
 obtain⟨es,clock,hb,he⟩:=h;have hz:=(dM.1 hb).1
 cases hq:zW c ps 0 with
 |none=>
  refine⟨es.push ⟨.chan (some c),v,clock⟩,clock+1,?_,es.push ⟨.chan (some c),v,clock⟩,clock+1,by simp[hz],?_⟩
  .simp[Gg,wU ht,Yl hb,zgm hk,zgT hk c w _ _ he,hq,Y2 _ hb,uC]
  .rw[ztL hq]
   unfold x9 at he⊢;rw[zw4,If,If,he];rfl
 |some q=>
  obtain⟨j,x,e1,e2,e3,e4⟩:=zqy (v:=v) he hq;have Ei:q.1=j:=aD;have hj:es[j]? =some x:=by simpa using e2
  refine⟨es.modify j (λe'=>{e' with key:=.chan (some c),val:=v}),clock,?_,es.modify j (λe'=>{e' with key:=.chan (some c),val:=v}),clock,by simp[hz],?_⟩
  .simp[Gg,wU ht,Yl hb,zgm hk,zgT hk c w _ _ he,hq,Ei,hj,e3,zHr,Y2 _ hb,uC]
  .have:(es.modify j (λe'=>{e' with key:=.chan (some c),val:=v})).toList=es.toList.set j {x with key:=.chan (some c),val:=v}:=by
    rw[zvN,modify_eq_set _ _ _ _ e2]
   rw[this];exact e4
variable {ops:Array aY}{rest:List aY}{o:aY}{a:Act}{Q:nQ->Act->aE->Prop}
theorem zxf (w:aE)(hg:o.guard=none)(m x:cM)(t:aM)(ok:Bool)(hop:o.op=Op.lookup t m x ok)(e:aM)
 (ht:P.underlying t=some (.map k e)) (hk:P.underlying k=some (.chan d e0)) (z:aF) (hz:(zeroValue e).run P w=.ok z w) (b c:Nat) (ps:List (Nat×aF)) (hm:a.eval m=.map (some b)) (hx:a.eval x=.chan (some c)) (h:Bc w b ps)
 (hK:wpList P ops Q rest (a.put o.dst (if ok then .tuple #[(o6 c ps).getD z,.bool (o6 c ps).isSome] else(o6 c ps).getD z)) w):wpList P ops Q (o::rest) a w:=by
 refine Tb hg λK' rI=>?_;have cF:=zHq ht hk hz h (c:=c) ok;unfold Ay;simp[aO,hop,hm,hx,cF,uC];cases ok<;>exact rI _ _ hK
theorem zA5 (w:aE)(hg:o.guard=none)(m x y:cM)(t:aM)(hop:o.op=zpF t m x y)(e:aM)
 (ht:P.underlying t=some (.map k e)) (hk:P.underlying k=some (.chan d e0)) (b c:Nat) (v:aF) (ps:List (Nat×aF)) (hm:a.eval m=.map (some b)) (hx:a.eval x=.chan (some c)) (hy:a.eval y=v) (h:Bc w b ps)
 (hK:∀w' o',w'={w with heap:=w.heap.setIfInBounds b o'}->Bc w' b (uM c v ps)->wpList P ops Q rest (a.put o.dst aA) w'):wpList P ops Q (o::rest) a w:=by
 refine Tb hg λK' rI=>?_;obtain⟨es,cl,cF,q8⟩:=zH8 ht hk h (c:=c) v;unfold Ay;simp[aO,hop,hm,hx,hy,cF,uC];exact rI _ _ (hK _ _ rfl q8)
open Go.ChangeMaps in
end
def x8 (es:List oS)(ps:List (Int×aF)):Prop:=es.map (λe=>(e.key,e.val))=ps.map (λp=>(aF.int .i64 p.1,p.2))
def xW (w:aE)(b:Nat)(ps:List (Int×aF)):Prop:=∃es clock,w.heap[b]? =some (.map es clock)/\x8 es.toList ps
def kQ (c:Int):List (Int×aF)->Option aF
 |[]=>none
 |p::ps=>if c=p.1 then some p.2 else kQ c ps
def pX (c:Int)(v:aF):List (Int×aF)->List (Int×aF)
 |[]=>[(c,v)]
 |p::ps=>if c=p.1 then(p.1,v)::ps else p::pX c v ps
def zZ (c:Int):List (Int×aF)->Nat->Option (Nat×aF)
 |[],_=>none
 |p::ps,i=>if c=p.1 then some (i,p.2) else zZ c ps (i+1)
variable {ps:List (Int×aF)}
theorem x8.cons_inv (h:x8 (e::es) ps):∃p qs,ps=p::qs/\e.key=.int .i64 p.1/\e.val=p.2/\x8 es qs:=by
 unfold x8 at h
 cases ps with
 |nil=>cases h
 |cons p qs=>
  rw[fG,fG] at h;injection h with h1 h2;injection h1 with h3 h4;exact⟨p,qs,rfl,h3,h4,h2⟩
theorem x8.nil_inv (h:x8 [] ps):ps=[]:=by
 unfold x8 at h;cases ps with
 |nil=>rfl
 |cons p qs=>cases h
section
variable {P:bS}{k:aM}
theorem zqX (c:Int):∀(es:List oS) (ps:List (Int×aF)) (i:Nat),x8 es ps->Gt (.int .i64) (.int .i64 c) es i=some (zZ c ps i)
 |[],ps,i,h=>by rw[h.nil_inv];rfl
 |e::es,ps,i,h=>by
  obtain⟨p,qs,rfl,h1,h2,h3⟩:=h.cons_inv;have ih:=zqX c es qs (i+1) h3;unfold Gt;simp only[h1,vF,if_true];by_cases hc:c=p.1
  .subst hc;simp[zZ,h2]
  .have:(c==p.1)=false:=by rw[beq_eq_false_iff_ne];exact hc
   rw[this];simp only[zZ,if_neg hc];exact ih
theorem zeW (hk:P.underlying k=some (.int .i64))(c:Int)(w:aE)(es:List oS)(ps:List (Int×aF))(h:x8 es ps):(J8 k (.int .i64 c) es).run P w=.ok (zZ c ps 0) w:=by
 unfold J8;simp only[D5,wU hk,D8,zqX c es ps 0 h,Ib]
theorem zmB (c:Int):∀(ps:List (Int×aF)) (i:Nat),(zZ c ps i).map zqF=kQ c ps
 |[],_=>rfl
 |p::ps,i=>by
  unfold zZ kQ;by_cases h:c=p.1
  .rw[if_pos h,if_pos h];rfl
  .rw[if_neg h,if_neg h];exact zmB c ps (i+1)
theorem zeb (hk:P.underlying k=some (.int .i64))(b:Bool)(c:Int)(w:aE):(Ga b 10000 k (.int .i64 c)).run P w=.ok () w:=by
 rw[show(10000:Nat)=9999+1 by decide];unfold Ga;simp[wU hk]
variable {ps:List (Int×aF)}
theorem za6 {t e:aM}(ht:P.underlying t=some (.map k e))(hk:P.underlying k=some (.int .i64)){z:aF}{w:aE}(hz:(zeroValue e).run P w=.ok z w){b:Nat}{c:Int}(h:xW w b ps)(ok:Bool):
 (yP t (.map (some b)) (.int .i64 c) ok).run P w=.ok (if ok then .tuple #[(kQ c ps).getD z,.bool (kQ c ps).isSome] else(kQ c ps).getD z) w:=by
 obtain⟨es,clock,hb,he⟩:=h;unfold yP;have hf:=zmB c ps 0;have hg:(getObj b).run P w=.ok (.map es clock) w:=by first|exact run_getObj hb|(show bD P (zs8 b Sem.pure) w=_;unfold bD;rw[hb];rfl)|(simp[getObj,bD,hb])
 simp only[D5,wU ht,D8,hg,Ib,zeb hk,zeW hk c w _ _ he]
 cases hq:zZ c ps 0 with
 |none=>
  rw[hq] at hf;have Ak:kQ c ps=none:=by simpa using hf.symm
  simp[hz,Ak]
 |some q=>
  rw[hq] at hf;have Ak:kQ c ps=some q.2:=by simpa using hf.symm
  simp[Ak]
end
theorem zwv {c:Int}:∀{ps:List (Int×aF)} {i:Nat},zZ c ps i=none->pX c v ps=ps++[(c,v)]
 |[],_,_=>rfl
 |p::ps,i,h=>by
  unfold zZ at h;by_cases hc:c=p.1
  .rw[if_pos hc] at h;cases h
  .rw[if_neg hc] at h
   unfold pX;rw[if_neg hc,zwv h];rfl
theorem zqO {c:Int}{v:aF}:∀{es:List oS} {ps:List (Int×aF)} {i:Nat} {q:Nat×aF},x8 es ps->zZ c ps i=some q->
 ∃j e0,q.1=i+j/\es[j]? =some e0/\e0.key=.int .i64 c/\x8 (es.set j {e0 with key:=.int .i64 c,val:=v}) (pX c v ps)
 |[],ps,i,q,h,hq=>by rw[h.nil_inv] at hq;cases hq
 |e::es,ps,i,q,h,hq=>by
  obtain⟨p,qs,rfl,h1,h2,h3⟩:=h.cons_inv;unfold zZ at hq;by_cases hc:c=p.1
  .rw[if_pos hc] at hq
   injection hq with hq;refine⟨0,e,by rw[<-hq];rfl,rfl,by rw[h1,hc],?_⟩;unfold pX;rw[if_pos hc];unfold x8 at h3⊢;rw[dV,fG,fG,h3,hc]
  .rw[if_neg hc] at hq
   obtain⟨j,e0,e1,e2,e3,e4⟩:=zqO (v:=v) h3 hq;refine⟨j+1,e0,by rw[e1];omega,e2,e3,?_⟩;unfold pX;rw[if_neg hc];unfold x8 at e4⊢;rw[dX,fG,fG,e4,h1,h2]
theorem zCc (c:Int)(w:aE):(Oa (.int .i64 c) (.int .i64 c)).run P w=.ok (.int .i64 c) w:=by
 unfold Oa;rw[if_pos (by simp[zb5])];rfl
section
variable {P:bS}{k:aM}
variable {ps:List (Int×aF)}
open Go.ChangeMaps in
theorem ztp {t e:aM}(ht:P.underlying t=some (.map k e))(hk:P.underlying k=some (.int .i64)){w:aE}{b:Nat}{c:Int}(h:xW w b ps)(v:aF):
 ∃eV zaE,(Gg t (.map (some b)) (.int .i64 c) v).run P w=.ok () {w with heap:=w.heap.setIfInBounds b (.map eV zaE)}/\xW {w with heap:=w.heap.setIfInBounds b (.map eV zaE)} b (pX c v ps):=by
 obtain⟨es,clock,hb,he⟩:=h;have hz:=(dM.1 hb).1
 cases hq:zZ c ps 0 with
 |none=>
  refine⟨es.push ⟨.int .i64 c,v,clock⟩,clock+1,?_,es.push ⟨.int .i64 c,v,clock⟩,clock+1,by simp[hz],?_⟩
  .simp[Gg,wU ht,Yl hb,zeb hk,zeW hk c w _ _ he,hq,Y2 _ hb,uC]
  .rw[zwv hq]
   unfold x8 at he⊢;rw[zw4,If,If,he];rfl
 |some q=>
  obtain⟨j,x,e1,e2,e3,e4⟩:=zqO (v:=v) he hq;have Ei:q.1=j:=aD;have hj:es[j]? =some x:=by simpa using e2
  refine⟨es.modify j (λe'=>{e' with key:=.int .i64 c,val:=v}),clock,?_,es.modify j (λe'=>{e' with key:=.int .i64 c,val:=v}),clock,by simp[hz],?_⟩
  .simp[Gg,wU ht,Yl hb,zeb hk,zeW hk c w _ _ he,hq,Ei,hj,e3,zCc,Y2 _ hb,uC]
  .have:(es.modify j (λe'=>{e' with key:=.int .i64 c,val:=v})).toList=es.toList.set j {x with key:=.int .i64 c,val:=v}:=by
    rw[zvN,modify_eq_set _ _ _ _ e2]
   rw[this];exact e4
variable {ops:Array aY}{rest:List aY}{o:aY}{a:Act}{Q:nQ->Act->aE->Prop}
theorem zqo (w:aE)(hg:o.guard=none)(m x:cM)(t:aM)(ok:Bool)(hop:o.op=Op.lookup t m x ok)(e:aM)
 (ht:P.underlying t=some (.map k e)) (hk:P.underlying k=some (.int .i64)) (z:aF) (hz:(zeroValue e).run P w=.ok z w) (b:Nat) (c:Int) (ps:List (Int×aF)) (hm:a.eval m=.map (some b)) (hx:a.eval x=.int .i64 c) (h:xW w b ps)
 (hK:wpList P ops Q rest (a.put o.dst (if ok then .tuple #[(kQ c ps).getD z,.bool (kQ c ps).isSome] else(kQ c ps).getD z)) w):wpList P ops Q (o::rest) a w:=by
 refine Tb hg λK' rI=>?_;have cF:=za6 ht hk hz h (c:=c) ok;unfold Ay;simp[aO,hop,hm,hx,cF,uC];cases ok<;>exact rI _ _ hK
theorem zFj (w:aE)(hg:o.guard=none)(m x y:cM)(t:aM)(hop:o.op=zpF t m x y)(e:aM)
 (ht:P.underlying t=some (.map k e)) (hk:P.underlying k=some (.int .i64)) (b:Nat) (c:Int) (v:aF) (ps:List (Int×aF)) (hm:a.eval m=.map (some b)) (hx:a.eval x=.int .i64 c) (hy:a.eval y=v) (h:xW w b ps)
 (hK:∀w' o',w'={w with heap:=w.heap.setIfInBounds b o'}->xW w' b (pX c v ps)->wpList P ops Q rest (a.put o.dst aA) w'):wpList P ops Q (o::rest) a w:=by
 refine Tb hg λK' rI=>?_;obtain⟨es,cl,cF,q8⟩:=ztp ht hk h (c:=c) v;unfold Ay;simp[aO,hop,hm,hx,hy,cF,uC];exact rI _ _ (hK _ _ rfl q8)
open Go.ChangeMaps in
end
structure fC where
 sL:aF
 sQ:aF
 sW:aF
 sB:aF
 sR:aF
 sA:aF
 sT:aF
 mC:Nat
 mO:Nat
 mM:Nat
 pC:List (Nat×aF)
 pO:List (Int×aF)
 pM:List (Int×aF)
structure nF where
 r:b6
 ln:List Nat
 qn:List Nat
 tk:List Int
def Ia (xs:List Nat):List Value:=xs.map λc=>.chan (some c)
abbrev zvg (v:fC)(d:nF):Array Value:=#[.int .i64 d.r.o.ln,.int .i64 d.r.o.op,.int .i64 d.r.o.pt,v.sL,.map (some v.mC),.map (some v.mO),v.sQ,v.sW,v.sB,v.sR,.map (some v.mM),.int .i64 d.r.clk,v.sA,v.sT]
abbrev J9 (v:fC)(d:nF):Obj:=.cells (zvg v d) 55
def parts (v:fC)(hb:Nat):List (Option Nat):=[some hb,v.sL.ownBlock,some v.mC,some v.mO,v.sQ.ownBlock,v.sW.ownBlock,v.sB.ownBlock,v.sR.ownBlock,some v.mM,v.sA.ownBlock,v.sT.ownBlock]
def zb3 (l:List (Option Nat)):Prop:=∀(i j b:Nat),l[i]? =some (some b)->l[j]? =some (some b)->i=j
structure bE (w:aE)(lo hb:Nat)(v:fC)(d:nF):Prop where
 blk:w.heap[hb]? =some (J9 v d)
 lob:lo<=hb/\lo<=v.mC/\lo<=v.mO/\lo<=v.mM
 L:w.ownsRow lo 61 1 v.sL d.ln.length (Ia d.ln)
 Q:w.ownsRow lo 72 1 v.sQ d.qn.length (Ia d.qn)
 W:w.ownsRow lo 124 2 v.sW d.r.wait.length (bF d.r.wait)
 B:w.ownsRow lo 3 1 v.sB d.r.back.length (jN (d.r.back.map bJ.c))
 R:w.ownsRow lo 107 7 v.sR d.r.recs.length (recs d.r.recs)
 A:w.ownsRow lo 9 1 v.sA d.r.log.length (E7 d.r.log)
 T:w.ownsRow lo 3 1 v.sT d.tk.length (jN d.tk)
 C:Bc w v.mC v.pC
 O:xW w v.mO v.pO
 M:xW w v.mM v.pM
 ap:zb3 (parts v hb)
structure bL (hb:Nat)(v:fC)(w:aE)(v':fC)(w':aE):Prop where
 size:w.heap.size<=w'.heap.size
 block:∀b,b<w.heap.size->some b∉parts v hb->w'.heap[b]? =w.heap[b]?
 moved:∀b,some b∈parts v' hb->some b∈parts v hb\/w.heap.size<=b
section
variable {w w1 w' Ef:aE}{lo hb:Nat}{v v' zbK:fC}{d:nF}
def bL.refl:bL hb v w v w:=⟨aZ _,λ_ _ _=>rfl,λ_ h=>.inl h⟩
theorem bL.trans (h:bL hb v w v' w')(k:bL hb v' w' zbK Ef):bL hb v w zbK Ef:=
 ⟨eP h.size k.size,λb bY hn=>(k.block b (lA bY h.size) (λx=>(h.moved b x).elim hn λy=>by omega)).trans (h.block b bY hn),λb x=>(k.moved b x).elim (h.moved b) λy=>.inr (eP h.size y)⟩
def bL.below (h:bU w.heap.size w w'):bL hb v w v w':=⟨h.size,λb hb _=>h.block b hb,λ_ h=>.inl h⟩
theorem bL.same (h:bL hb v w v' w'){x:aE}(e:x.heap=w'.heap):bL hb v w v' x:=⟨by rw[e];exact h.size,λb hb hn=>by rw[e];exact h.block b hb hn,h.moved⟩
variable {x:aF}
theorem cI {E s n:Nat}{xs:List aF}(h:w.ownsRow lo E s x n xs)(k:∀b,x.ownBlock=some b->w'.heap[b]? =w.heap[b]?):w'.ownsRow lo E s x n xs:=by
 obtain⟨hl,h|⟨g,cap,cur,rfl,h1,hg,h2⟩⟩:=h
 .exact⟨hl,.inl h⟩
 .exact⟨hl,.inr ⟨g,cap,cur,rfl,h1,(k g rfl).trans hg,h2⟩⟩
theorem Bc.keep {b:Nat}{ps:List (Nat×aF)}(h:Bc w b ps)(k:w'.heap[b]? =w.heap[b]?):Bc w' b ps:=by
 obtain⟨es,cl,h1,h2⟩:=h;exact⟨es,cl,k.trans h1,h2⟩
variable {ps:List (Int×aF)}
theorem xW.keep {b:Nat}(h:xW w b ps)(k:w'.heap[b]? =w.heap[b]?):xW w' b ps:=by
 obtain⟨es,cl,h1,h2⟩:=h;exact⟨es,cl,k.trans h1,h2⟩
theorem Bc.lt {b:Nat}{ps:List (Nat×aF)}(h:Bc w b ps):b<w.heap.size:=by
 obtain⟨es,cl,h1,h2⟩:=h;exact(dM.1 h1).1
theorem xW.lt {b:Nat}(h:xW w b ps):b<w.heap.size:=by
 obtain⟨es,cl,h1,h2⟩:=h;exact(dM.1 h1).1
theorem bE.lt (h:bE w lo hb v d):∀b,some b∈parts v hb->lo<=b/\b<w.heap.size:=by
 intro b bY;unfold parts at bY;simp only[iX,List.not_mem_nil,or_false] at bY;obtain⟨l0,l1,l2,l3⟩:=h.lob;have zji:=(dM.1 h.blk).1;rcases bY with e|e|e|e|e|e|e|e|e|e|e
 .cases e;exact⟨l0,zji⟩
 .exact h.L.lt b e.symm
 .cases e;exact⟨l1,h.C.lt⟩
 .cases e;exact⟨l2,h.O.lt⟩
 .exact h.Q.lt b e.symm
 .exact h.W.lt b e.symm
 .exact h.B.lt b e.symm
 .exact h.R.lt b e.symm
 .cases e;exact⟨l3,h.M.lt⟩
 .exact h.A.lt b e.symm
 .exact h.T.lt b e.symm
theorem bE.keep (h:bE w lo hb v d)(k:∀b,b<w.heap.size->some b∈parts v hb->w'.heap[b]? =w.heap[b]?):bE w' lo hb v d:=by
 have kk:∀b,some b∈parts v hb->w'.heap[b]? =w.heap[b]? :=λb hb=>k b (h.lt b hb).2 hb;exact⟨(kk _ (dS (i:=0) zc5)).trans h.blk,h.lob,cI h.L λb e=>kk _ (dS (i:=1) cO),cI h.Q λb e=>kk _ (dS (i:=4) cO),cI h.W λb e=>kk _ (dS (i:=5) cO),cI h.B λb e=>kk _ (dS (i:=6) cO),cI h.R λb e=>kk _ (dS (i:=7) cO),cI h.A λb e=>kk _ (dS (i:=9) cO),cI h.T λb e=>kk _ (dS (i:=10) cO),h.C.keep (kk _ (dS (i:=2) zc5)),h.O.keep (kk _ (dS (i:=3) zc5)),h.M.keep (kk _ (dS (i:=8) zc5)),h.ap⟩
def bE.below (h:bE w lo hb v d)(k:bU w.heap.size w w'):bE w' lo hb v d:=h.keep λb hb _=>k.block b hb
def bE.alloc (h:bE w lo hb v d)(o:Obj):bE (w.alloc o) lo hb v d:=h.keep λb hb _=>tL w o b hb
def bE.drew (h:bE w lo hb v d):bE w.drew lo hb v d:=h.keep λ_ _ _=>rfl
theorem bE.same (h:bE w lo hb v d)(e:w'.heap=w.heap):bE w' lo hb v d:=h.keep λb _ _=>by rw[e]
variable {o:Obj}
theorem bE.turned {x:Nat}(h:bE w lo hb v d)(t:bL hb v w v' w')(hx:w.heap[x]? =some o)(hn:some x∉parts v hb):w'.heap[x]? =some o/\some x∉parts v' hb:=
 ⟨(t.block x (dM.1 hx).1 hn).trans hx,λy=>(t.moved x y).elim hn λz=>by have:=(dM.1 hx).1;omega⟩
def bE.ne (h:bE w lo hb v d){i j a b:Nat}(hi:(parts v hb)[i]? =some (some a))(hj:(parts v hb)[j]? =some (some b))(qQ:i≠j):a≠b:=λe=>qQ (h.ap i j a hi (e▸hj))
theorem Q3 {l:List (Option Nat)}(h:zb3 l){j n:Nat}{x:Option Nat}(hl:∀b,some b∈l->b<n)(hx:l[j]? =some x\/∀b,x=some b->n<=b):zb3 (l.set j x):=by
 intro i k b hi hk;rw[zcy] at hi hk;have old:∀m,l[m]? =some (some b)->b<n:=λm hm=>hl b (dS hm);split at hi<;>split at hk
 .omega
 .next e1 e2=>
  split at hi
  .injection hi with hi
   subst hi;rcases hx with hx|hx
   .exact e1▸h j k b hx hk
   .have:=old k hk;have:=hx b rfl;omega
  .cases hi
 .next e1 e2=>
  split at hk
  .injection hk with hk
   subst hk;rcases hx with hx|hx
   .exact e2▸h i j b hi hx
   .have:=old i hi;have:=hx b rfl;omega
  .cases hk
 .exact h i k b hi hk
theorem bE.other (h:bE w lo hb v d){j c:Nat}(hj:(parts v hb)[j]? =some x.ownBlock)(zhq:j≠0)(hg:w.grownBy w1 x.ownBlock)(s':aF):
 (∀i b,i≠0->i≠j->(parts v hb)[i]? =some (some b)->(w1.setCell ⟨hb,c,none⟩ s').heap[b]? =w.heap[b]?)/\w1.heap[hb]? =w.heap[hb]? :=by
 have h0:(parts v hb)[0]? =some (some hb):=rfl;have hx:∀i b,i≠j->(parts v hb)[i]? =some (some b)->some b≠x.ownBlock:=λi b qQ hi e=>qQ (h.ap i j b hi (by rw[hj,<-e]));refine⟨λi b fL qQ hi=>?_,hg.block hb (h.lt hb (dS h0)).2 (hx 0 hb (Ne.symm zhq) h0)⟩;have aT:b≠hb:=h.ne hi h0 fL;exact(dZ w1 _ _ b aT).trans (hg.block b (h.lt b (dS hi)).2 (hx i b qQ hi))
variable {s':aF}
theorem Qf {j c:Nat}(aP:∀b,some b∈parts v hb->b<w.heap.size)(hj:(parts v hb)[j]? =some x.ownBlock)(hg:w.grownBy w1 x.ownBlock)(hv:parts v' hb=(parts v hb).set j s'.ownBlock)(hw:s'.ownBlock=x.ownBlock\/∀b,s'.ownBlock=some b->w.heap.size<=b):
 bL hb v w v' (w1.setCell ⟨hb,c,none⟩ s'):=by
 refine⟨by rw[sE];exact hg.size,λb bY hn=>?_,λb bY=>?_⟩
 .have h0:some hb∈parts v hb:=dS (i:=0) rfl
  have aT:b≠hb:=λe=>hn (e▸h0);exact(dZ w1 _ _ b aT).trans (hg.block b bY λe=>hn (e▸dS hj))
 .rw[hv] at bY
  rcases List.mem_or_eq_of_mem_set bY with h1|h1
  .exact .inl h1
  .rcases hw with hw|hw
   .exact .inl (by rw[h1,hw];exact dS hj)
   .exact .inr (hw b h1.symm)
theorem bE.putL (h:bE w lo hb v d)(hg:w.grownBy w1 v.sL.ownBlock){xs:List Nat}{n:Nat}(ho:w1.ownsRow lo 61 1 s' n (Ia xs))(hn:n=xs.length)(hw:s'.ownBlock=v.sL.ownBlock\/∀b,s'.ownBlock=some b->w.heap.size<=b):
 bE (w1.setCell ⟨hb,3,none⟩ s') lo hb {v with sL:=s'} {d with ln:=xs}/\bL hb v w {v with sL:=s'} (w1.setCell ⟨hb,3,none⟩ s'):=by
 subst hn;have aP:∀b,some b∈parts v hb->b<w.heap.size:=λb hb=>(h.lt b hb).2;obtain⟨kk,k0⟩:=h.other (j:=1) (c:=3) (x:=v.sL) rfl aH hg s';have hs:∀b,s'.ownBlock=some b->b≠hb:=λb e=>by
  rcases hw with hw|hw
  .exact h.ne (i:=1) (j:=0) (show some v.sL.ownBlock=_ by rw[<-hw,e]) rfl aH
  .have:=hw b e;have:=aP hb (dS (i:=0) rfl);omega
 have hp:parts {v with sL:=s'} hb=(parts v hb).set 1 s'.ownBlock:=rfl;refine⟨⟨oZ (k0.trans h.blk) s',h.lob,cI ho λb e=>dZ w1 _ _ b (hs b e),cI h.Q λb e=>kk 4 _ aH aH cO,cI h.W λb e=>kk 5 _ aH aH cO,cI h.B λb e=>kk 6 _ aH aH cO,cI h.R λb e=>kk 7 _ aH aH cO,cI h.A λb e=>kk 9 _ aH aH cO,cI h.T λb e=>kk 10 _ aH aH cO,h.C.keep (kk 2 _ aH aH rfl),h.O.keep (kk 3 _ aH aH rfl),h.M.keep (kk 8 _ aH aH rfl),?_⟩,Qf (j:=1) (x:=v.sL) aP rfl hg hp hw⟩;rw[hp];exact Q3 h.ap aP (hw.imp (λe=>by rw[e];rfl) id)
theorem bE.putQ (h:bE w lo hb v d)(hg:w.grownBy w1 v.sQ.ownBlock){xs:List Nat}{n:Nat}(ho:w1.ownsRow lo 72 1 s' n (Ia xs))(hn:n=xs.length)(hw:s'.ownBlock=v.sQ.ownBlock\/∀b,s'.ownBlock=some b->w.heap.size<=b):
 bE (w1.setCell ⟨hb,6,none⟩ s') lo hb {v with sQ:=s'} {d with qn:=xs}/\bL hb v w {v with sQ:=s'} (w1.setCell ⟨hb,6,none⟩ s'):=by
 subst hn;have aP:∀b,some b∈parts v hb->b<w.heap.size:=λb hb=>(h.lt b hb).2;obtain⟨kk,k0⟩:=h.other (j:=4) (c:=6) (x:=v.sQ) rfl aH hg s';have hs:∀b,s'.ownBlock=some b->b≠hb:=λb e=>by
  rcases hw with hw|hw
  .exact h.ne (i:=4) (j:=0) (show some v.sQ.ownBlock=_ by rw[<-hw,e]) rfl aH
  .have:=hw b e;have:=aP hb (dS (i:=0) rfl);omega
 have hp:parts {v with sQ:=s'} hb=(parts v hb).set 4 s'.ownBlock:=rfl;refine⟨⟨oZ (k0.trans h.blk) s',h.lob,cI h.L λb e=>kk 1 _ aH aH cO,cI ho λb e=>dZ w1 _ _ b (hs b e),cI h.W λb e=>kk 5 _ aH aH cO,cI h.B λb e=>kk 6 _ aH aH cO,cI h.R λb e=>kk 7 _ aH aH cO,cI h.A λb e=>kk 9 _ aH aH cO,cI h.T λb e=>kk 10 _ aH aH cO,h.C.keep (kk 2 _ aH aH rfl),h.O.keep (kk 3 _ aH aH rfl),h.M.keep (kk 8 _ aH aH rfl),?_⟩,Qf (j:=4) (x:=v.sQ) aP rfl hg hp hw⟩;rw[hp];exact Q3 h.ap aP (hw.imp (λe=>by rw[e];rfl) id)
variable {xs:List bJ}
theorem bE.putW (h:bE w lo hb v d)(hg:w.grownBy w1 v.sW.ownBlock){n:Nat}(ho:w1.ownsRow lo 124 2 s' n (bF xs))(hn:n=xs.length)(hw:s'.ownBlock=v.sW.ownBlock\/∀b,s'.ownBlock=some b->w.heap.size<=b):
 bE (w1.setCell ⟨hb,7,none⟩ s') lo hb {v with sW:=s'} {d with r:={d.r with wait:=xs}}/\bL hb v w {v with sW:=s'} (w1.setCell ⟨hb,7,none⟩ s'):=by
 subst hn;have aP:∀b,some b∈parts v hb->b<w.heap.size:=λb hb=>(h.lt b hb).2;obtain⟨kk,k0⟩:=h.other (j:=5) (c:=7) (x:=v.sW) rfl aH hg s';have hs:∀b,s'.ownBlock=some b->b≠hb:=λb e=>by
  rcases hw with hw|hw
  .exact h.ne (i:=5) (j:=0) (show some v.sW.ownBlock=_ by rw[<-hw,e]) rfl aH
  .have:=hw b e;have:=aP hb (dS (i:=0) rfl);omega
 have hp:parts {v with sW:=s'} hb=(parts v hb).set 5 s'.ownBlock:=rfl;refine⟨⟨oZ (k0.trans h.blk) s',h.lob,cI h.L λb e=>kk 1 _ aH aH cO,cI h.Q λb e=>kk 4 _ aH aH cO,cI ho λb e=>dZ w1 _ _ b (hs b e),cI h.B λb e=>kk 6 _ aH aH cO,cI h.R λb e=>kk 7 _ aH aH cO,cI h.A λb e=>kk 9 _ aH aH cO,cI h.T λb e=>kk 10 _ aH aH cO,h.C.keep (kk 2 _ aH aH rfl),h.O.keep (kk 3 _ aH aH rfl),h.M.keep (kk 8 _ aH aH rfl),?_⟩,Qf (j:=5) (x:=v.sW) aP rfl hg hp hw⟩;rw[hp];exact Q3 h.ap aP (hw.imp (λe=>by rw[e];rfl) id)
theorem bE.putB (h:bE w lo hb v d)(hg:w.grownBy w1 v.sB.ownBlock){n:Nat}(ho:w1.ownsRow lo 3 1 s' n (jN (xs.map bJ.c)))(hn:n=xs.length)(hw:s'.ownBlock=v.sB.ownBlock\/∀b,s'.ownBlock=some b->w.heap.size<=b):
 bE (w1.setCell ⟨hb,8,none⟩ s') lo hb {v with sB:=s'} {d with r:={d.r with back:=xs}}/\bL hb v w {v with sB:=s'} (w1.setCell ⟨hb,8,none⟩ s'):=by
 subst hn;have aP:∀b,some b∈parts v hb->b<w.heap.size:=λb hb=>(h.lt b hb).2;obtain⟨kk,k0⟩:=h.other (j:=6) (c:=8) (x:=v.sB) rfl aH hg s';have hs:∀b,s'.ownBlock=some b->b≠hb:=λb e=>by
  rcases hw with hw|hw
  .exact h.ne (i:=6) (j:=0) (show some v.sB.ownBlock=_ by rw[<-hw,e]) rfl aH
  .have:=hw b e;have:=aP hb (dS (i:=0) rfl);omega
 have hp:parts {v with sB:=s'} hb=(parts v hb).set 6 s'.ownBlock:=rfl;refine⟨⟨oZ (k0.trans h.blk) s',h.lob,cI h.L λb e=>kk 1 _ aH aH cO,cI h.Q λb e=>kk 4 _ aH aH cO,cI h.W λb e=>kk 5 _ aH aH cO,cI ho λb e=>dZ w1 _ _ b (hs b e),cI h.R λb e=>kk 7 _ aH aH cO,cI h.A λb e=>kk 9 _ aH aH cO,cI h.T λb e=>kk 10 _ aH aH cO,h.C.keep (kk 2 _ aH aH rfl),h.O.keep (kk 3 _ aH aH rfl),h.M.keep (kk 8 _ aH aH rfl),?_⟩,Qf (j:=6) (x:=v.sB) aP rfl hg hp hw⟩;rw[hp];exact Q3 h.ap aP (hw.imp (λe=>by rw[e];rfl) id)
theorem bE.putR (h:bE w lo hb v d)(hg:w.grownBy w1 v.sR.ownBlock){xs:List bR}{n:Nat}(ho:w1.ownsRow lo 107 7 s' n (recs xs))(hn:n=xs.length)(hw:s'.ownBlock=v.sR.ownBlock\/∀b,s'.ownBlock=some b->w.heap.size<=b):
 bE (w1.setCell ⟨hb,9,none⟩ s') lo hb {v with sR:=s'} {d with r:={d.r with recs:=xs}}/\bL hb v w {v with sR:=s'} (w1.setCell ⟨hb,9,none⟩ s'):=by
 subst hn;have aP:∀b,some b∈parts v hb->b<w.heap.size:=λb hb=>(h.lt b hb).2;obtain⟨kk,k0⟩:=h.other (j:=7) (c:=9) (x:=v.sR) rfl aH hg s';have hs:∀b,s'.ownBlock=some b->b≠hb:=λb e=>by
  rcases hw with hw|hw
  .exact h.ne (i:=7) (j:=0) (show some v.sR.ownBlock=_ by rw[<-hw,e]) rfl aH
  .have:=hw b e;have:=aP hb (dS (i:=0) rfl);omega
 have hp:parts {v with sR:=s'} hb=(parts v hb).set 7 s'.ownBlock:=rfl;refine⟨⟨oZ (k0.trans h.blk) s',h.lob,cI h.L λb e=>kk 1 _ aH aH cO,cI h.Q λb e=>kk 4 _ aH aH cO,cI h.W λb e=>kk 5 _ aH aH cO,cI h.B λb e=>kk 6 _ aH aH cO,cI ho λb e=>dZ w1 _ _ b (hs b e),cI h.A λb e=>kk 9 _ aH aH cO,cI h.T λb e=>kk 10 _ aH aH cO,h.C.keep (kk 2 _ aH aH rfl),h.O.keep (kk 3 _ aH aH rfl),h.M.keep (kk 8 _ aH aH rfl),?_⟩,Qf (j:=7) (x:=v.sR) aP rfl hg hp hw⟩;rw[hp];exact Q3 h.ap aP (hw.imp (λe=>by rw[e];rfl) id)
variable {xs:List (List UInt8)}
theorem bE.putA (h:bE w lo hb v d)(hg:w.grownBy w1 v.sA.ownBlock){n:Nat}(ho:w1.ownsRow lo 9 1 s' n (E7 xs))(hn:n=xs.length)(hw:s'.ownBlock=v.sA.ownBlock\/∀b,s'.ownBlock=some b->w.heap.size<=b):
 bE (w1.setCell ⟨hb,12,none⟩ s') lo hb {v with sA:=s'} {d with r:={d.r with log:=xs}}/\bL hb v w {v with sA:=s'} (w1.setCell ⟨hb,12,none⟩ s'):=by
 subst hn;have aP:∀b,some b∈parts v hb->b<w.heap.size:=λb hb=>(h.lt b hb).2;obtain⟨kk,k0⟩:=h.other (j:=9) (c:=12) (x:=v.sA) rfl aH hg s';have hs:∀b,s'.ownBlock=some b->b≠hb:=λb e=>by
  rcases hw with hw|hw
  .exact h.ne (i:=9) (j:=0) (show some v.sA.ownBlock=_ by rw[<-hw,e]) rfl aH
  .have:=hw b e;have:=aP hb (dS (i:=0) rfl);omega
 have hp:parts {v with sA:=s'} hb=(parts v hb).set 9 s'.ownBlock:=rfl;refine⟨⟨oZ (k0.trans h.blk) s',h.lob,cI h.L λb e=>kk 1 _ aH aH cO,cI h.Q λb e=>kk 4 _ aH aH cO,cI h.W λb e=>kk 5 _ aH aH cO,cI h.B λb e=>kk 6 _ aH aH cO,cI h.R λb e=>kk 7 _ aH aH cO,cI ho λb e=>dZ w1 _ _ b (hs b e),cI h.T λb e=>kk 10 _ aH aH cO,h.C.keep (kk 2 _ aH aH rfl),h.O.keep (kk 3 _ aH aH rfl),h.M.keep (kk 8 _ aH aH rfl),?_⟩,Qf (j:=9) (x:=v.sA) aP rfl hg hp hw⟩;rw[hp];exact Q3 h.ap aP (hw.imp (λe=>by rw[e];rfl) id)
theorem bE.putT (h:bE w lo hb v d)(hg:w.grownBy w1 v.sT.ownBlock){xs:List Int}{n:Nat}(ho:w1.ownsRow lo 3 1 s' n (jN xs))(hn:n=xs.length)(hw:s'.ownBlock=v.sT.ownBlock\/∀b,s'.ownBlock=some b->w.heap.size<=b):
 bE (w1.setCell ⟨hb,13,none⟩ s') lo hb {v with sT:=s'} {d with tk:=xs}/\bL hb v w {v with sT:=s'} (w1.setCell ⟨hb,13,none⟩ s'):=by
 subst hn;have aP:∀b,some b∈parts v hb->b<w.heap.size:=λb hb=>(h.lt b hb).2;obtain⟨kk,k0⟩:=h.other (j:=10) (c:=13) (x:=v.sT) rfl aH hg s';have hs:∀b,s'.ownBlock=some b->b≠hb:=λb e=>by
  rcases hw with hw|hw
  .exact h.ne (i:=10) (j:=0) (show some v.sT.ownBlock=_ by rw[<-hw,e]) rfl aH
  .have:=hw b e;have:=aP hb (dS (i:=0) rfl);omega
 have hp:parts {v with sT:=s'} hb=(parts v hb).set 10 s'.ownBlock:=rfl;refine⟨⟨oZ (k0.trans h.blk) s',h.lob,cI h.L λb e=>kk 1 _ aH aH cO,cI h.Q λb e=>kk 4 _ aH aH cO,cI h.W λb e=>kk 5 _ aH aH cO,cI h.B λb e=>kk 6 _ aH aH cO,cI h.R λb e=>kk 7 _ aH aH cO,cI h.A λb e=>kk 9 _ aH aH cO,cI ho λb e=>dZ w1 _ _ b (hs b e),h.C.keep (kk 2 _ aH aH rfl),h.O.keep (kk 3 _ aH aH rfl),h.M.keep (kk 8 _ aH aH rfl),?_⟩,Qf (j:=10) (x:=v.sT) aP rfl hg hp hw⟩;rw[hp];exact Q3 h.ap aP (hw.imp (λe=>by rw[e];rfl) id)
theorem bE.mapC (h:bE w lo hb v d){ps:List (Nat×aF)}(hm:Bc {w with heap:=w.heap.setIfInBounds v.mC o} v.mC ps):
 bE {w with heap:=w.heap.setIfInBounds v.mC o} lo hb {v with pC:=ps} d/\bL hb v w {v with pC:=ps} {w with heap:=w.heap.setIfInBounds v.mC o}:=by
 have kk:∀i b,i≠2->(parts v hb)[i]? =some (some b)->(w.heap.setIfInBounds v.mC o)[b]? =w.heap[b]? :=λi b hi bY=>jM (h.ne (i:=2) rfl bY (Ne.symm hi));refine⟨⟨(kk 0 _ aH rfl).trans h.blk,h.lob,cI h.L λb e=>kk 1 _ aH cO,cI h.Q λb e=>kk 4 _ aH cO,cI h.W λb e=>kk 5 _ aH cO,cI h.B λb e=>kk 6 _ aH cO,cI h.R λb e=>kk 7 _ aH cO,cI h.A λb e=>kk 9 _ aH cO,cI h.T λb e=>kk 10 _ aH cO,hm,h.O.keep (kk 3 _ aH rfl),h.M.keep (kk 8 _ aH rfl),h.ap⟩,aQ,λb bY hn=>jM λe=>hn (by rw[<-e];exact dS (i:=2) rfl),λb bY=>.inl bY⟩
theorem bE.mapO (h:bE w lo hb v d)(hm:xW {w with heap:=w.heap.setIfInBounds v.mO o} v.mO ps):
 bE {w with heap:=w.heap.setIfInBounds v.mO o} lo hb {v with pO:=ps} d/\bL hb v w {v with pO:=ps} {w with heap:=w.heap.setIfInBounds v.mO o}:=by
 have kk:∀i b,i≠3->(parts v hb)[i]? =some (some b)->(w.heap.setIfInBounds v.mO o)[b]? =w.heap[b]? :=λi b hi bY=>jM (h.ne (i:=3) rfl bY (Ne.symm hi));refine⟨⟨(kk 0 _ aH rfl).trans h.blk,h.lob,cI h.L λb e=>kk 1 _ aH cO,cI h.Q λb e=>kk 4 _ aH cO,cI h.W λb e=>kk 5 _ aH cO,cI h.B λb e=>kk 6 _ aH cO,cI h.R λb e=>kk 7 _ aH cO,cI h.A λb e=>kk 9 _ aH cO,cI h.T λb e=>kk 10 _ aH cO,h.C.keep (kk 2 _ aH rfl),hm,h.M.keep (kk 8 _ aH rfl),h.ap⟩,aQ,λb bY hn=>jM λe=>hn (by rw[<-e];exact dS (i:=3) rfl),λb bY=>.inl bY⟩
theorem bE.mapM (h:bE w lo hb v d)(hm:xW {w with heap:=w.heap.setIfInBounds v.mM o} v.mM ps):
 bE {w with heap:=w.heap.setIfInBounds v.mM o} lo hb {v with pM:=ps} d/\bL hb v w {v with pM:=ps} {w with heap:=w.heap.setIfInBounds v.mM o}:=by
 have kk:∀i b,i≠8->(parts v hb)[i]? =some (some b)->(w.heap.setIfInBounds v.mM o)[b]? =w.heap[b]? :=λi b hi bY=>jM (h.ne (i:=8) rfl bY (Ne.symm hi));refine⟨⟨(kk 0 _ aH rfl).trans h.blk,h.lob,cI h.L λb e=>kk 1 _ aH cO,cI h.Q λb e=>kk 4 _ aH cO,cI h.W λb e=>kk 5 _ aH cO,cI h.B λb e=>kk 6 _ aH cO,cI h.R λb e=>kk 7 _ aH cO,cI h.A λb e=>kk 9 _ aH cO,cI h.T λb e=>kk 10 _ aH cO,h.C.keep (kk 2 _ aH rfl),h.O.keep (kk 3 _ aH rfl),hm,h.ap⟩,aQ,λb bY hn=>jM λe=>hn (by rw[<-e];exact dS (i:=8) rfl),λb bY=>.inl bY⟩
theorem bE.putClk (h:bE w lo hb v d)(x:Int):bE (w.setCell ⟨hb,11,none⟩ (.int .i64 x)) lo hb v {d with r:={d.r with clk:=x}}/\bL hb v w v (w.setCell ⟨hb,11,none⟩ (.int .i64 x)):=by
 have h0:(parts v hb)[0]? =some (some hb):=rfl;have kk:∀i b,i≠0->(parts v hb)[i]? =some (some b)->(w.setCell ⟨hb,11,none⟩ (.int .i64 x)).heap[b]? =w.heap[b]? :=λi b hi bY=>dZ w _ _ b (h.ne bY h0 hi);refine⟨⟨oZ h.blk _,h.lob,cI h.L λb e=>kk 1 _ aH cO,cI h.Q λb e=>kk 4 _ aH cO,cI h.W λb e=>kk 5 _ aH cO,cI h.B λb e=>kk 6 _ aH cO,cI h.R λb e=>kk 7 _ aH cO,cI h.A λb e=>kk 9 _ aH cO,cI h.T λb e=>kk 10 _ aH cO,h.C.keep (kk 2 _ aH rfl),h.O.keep (kk 3 _ aH rfl),h.M.keep (kk 8 _ aH rfl),h.ap⟩,by rw[sE];exact aZ _,λb bY hn=>dZ w _ _ b λe=>hn (e▸dS h0),λb bY=>.inl bY⟩
theorem bE.setR {gR cR i j:Nat}{x:bR}{u:aF}(f:bR->bR)(h:bE w lo hb v d)(hv:v.sR=.slice (some ⟨gR,0,none⟩) d.r.recs.length cR)(hd:d.r.recs[i]? =some x)(hj:j<7)(hs:∀k,k<7->k≠j->(f x).cells[k]? =x.cells[k]?)(hu:(f x).cells[j]? =some u):
 bE (w.setCell ⟨gR,i*7+j,none⟩ u) lo hb v {d with r:={d.r with recs:=d.r.recs.modify i f}}/\bL hb v w v (w.setCell ⟨gR,i*7+j,none⟩ u):=by
 have zhU:(parts v hb)[7]? =some (some gR):=by show some v.sR.ownBlock=_;rw[hv];rfl
 have kk:∀i b,i≠7->(parts v hb)[i]? =some (some b)->(w.setCell ⟨gR,i*7+j,none⟩ u).heap[b]? =w.heap[b]? :=λi b hi bY=>dZ w _ _ b (h.ne bY zhU hi);have Il:∀m b,m≠7->(parts v hb)[m]? =some (some b)->(w.setCell ⟨gR,i*7+j,none⟩ u).heap[b]? =w.heap[b]? :=λm b hi bY=>dZ w _ _ b (h.ne bY zhU hi);have hr:=h.R;rw[hv] at hr;have h1:=(hr.stored (i*7+j) u).1;rw[zwP hd hj hs hu] at h1;refine⟨⟨(Il 0 _ aH rfl).trans h.blk,h.lob,cI h.L λb e=>Il 1 _ aH cO,cI h.Q λb e=>Il 4 _ aH cO,cI h.W λb e=>Il 5 _ aH cO,cI h.B λb e=>Il 6 _ aH cO,?_,cI h.A λb e=>Il 9 _ aH cO,cI h.T λb e=>Il 10 _ aH cO,h.C.keep (Il 2 _ aH rfl),h.O.keep (Il 3 _ aH rfl),h.M.keep (Il 8 _ aH rfl),h.ap⟩,by rw[sE];exact aZ _,λb bY hn=>dZ w _ _ b λe=>hn (e▸dS zhU),λb bY=>.inl bY⟩;show(w.setCell _ u).ownsRow lo _ 7 v.sR (d.r.recs.modify i f).length _;rw[hv,Gj];exact h1
end
def yC (c:Nat):List (Nat×aF)->List (Nat×aF)
 |[]=>[]
 |p::ps=>if c=p.1 then ps else p::yC c ps
theorem ztr :∀{ps:List (Nat×aF)},c∉ps.map tY->o6 c ps=none
 |[],_=>rfl
 |p::ps,h=>by
  unfold o6;have h1:c≠p.1:=λe=>h (by rw[e];simp);rw[if_neg h1];exact ztr λx=>h (Gn _ x)
theorem zuS (c c':Nat)(v:aF):∀ps:List (Nat×aF),o6 c' (uM c v ps)=if c'=c then some v else o6 c' ps
 |[]=>by
  unfold uM o6 o6;rfl
 |p::ps=>by
  unfold uM;by_cases e:c=p.1
  .rw[if_pos e]
   unfold o6;by_cases e2:c'=p.1
   .rw[if_pos e2,if_pos (e2.trans e.symm)]
   .rw[if_neg e2,if_neg (λh=>e2 (h.trans e))]
    first|rfl|simp[e2]
  .rw[if_neg e]
   unfold o6;by_cases e2:c'=p.1
   .rw[if_pos e2,if_neg (λh=>e (h.symm.trans e2))]
    first|rfl|simp[e2]
   .rw[if_neg e2,zuS c c' v ps]
    first|rfl|simp[e2]
variable {c':Nat}
theorem zud :∀{ps:List (Nat×aF)},c'∈(uM c v ps).map tY->c'=c\/c'∈ps.map tY
 |[],h=>by unfold uM at h;simp at h;exact .inl h
 |p::ps,h=>by
  unfold uM at h;by_cases e:c=p.1
  .rw[if_pos e] at h
   exact .inr h
  .rw[if_neg e,fG,iX] at h
   rcases h with h|h
   .exact .inr (by rw[h];simp)
   .exact(zud h).imp id (Gn _)
theorem zpq (c:Nat)(v:aF):∀{ps:List (Nat×aF)},(ps.map tY).Nodup->((uM c v ps).map tY).Nodup
 |[],_=>by unfold uM;simp
 |p::ps,h=>by
  unfold uM;rw[fG,Ch] at h;by_cases e:c=p.1
  .rw[if_pos e,fG,Ch];exact h
  .rw[if_neg e,fG,Ch]
   exact⟨λx=>(zud x).elim (λy=>e y.symm) h.1,zpq c v h.2⟩
theorem zn3 :∀{ps:List (Nat×aF)},c'∈(yC c ps).map tY->c'∈ps.map tY
 |[],h=>by cases h
 |p::ps,h=>by
  unfold yC at h;by_cases e:c=p.1
  .rw[if_pos e] at h;exact Gn _ h
  .rw[if_neg e,fG,iX] at h
   rcases h with h|h
   .rw[h];simp
   .exact Gn _ (zn3 h)
theorem zty (c:Nat):∀{ps:List (Nat×aF)},(ps.map tY).Nodup->((yC c ps).map tY).Nodup
 |[],_=>by unfold yC;simp
 |p::ps,h=>by
  rw[fG,Ch] at h;unfold yC;by_cases e:c=p.1
  .rw[if_pos e];exact h.2
  .rw[if_neg e,fG,Ch]
   exact⟨λx=>h.1 (zn3 x),zty c h.2⟩
theorem zvl (c c':Nat):∀{ps:List (Nat×aF)},(ps.map tY).Nodup->o6 c' (yC c ps)=if c'=c then none else o6 c' ps
 |[],_=>by unfold yC o6;split<;>rfl
 |p::ps,h=>by
  rw[fG,Ch] at h;unfold yC;by_cases e:c=p.1
  .rw[if_pos e]
   by_cases e2:c'=c
   .rw[if_pos e2];exact ztr (by rw[e2,e];exact h.1)
   .rw[if_neg e2]
    show _=o6 c' (p::ps)
    conv=>rhs;unfold o6
    rw[if_neg (λh=>e2 (h.trans e.symm))]
  .rw[if_neg e]
   unfold o6;by_cases e2:c'=p.1
   .rw[if_pos e2,if_neg (λh=>e (h.symm.trans e2))]
    first|rfl|simp[e2]
   .rw[if_neg e2,zvl c c' h.2]
    first|rfl|simp[e2]
theorem zw7 :∀{es:List oS} {ps:List (Nat×aF)} {i:Nat} {q:Nat×aF},x9 es ps->zW c ps i=some q->∃j,q.1=i+j/\j<es.length/\x9 (es.eraseIdx j) (yC c ps)
 |[],ps,i,q,h,hq=>by rw[h.nil_inv] at hq;cases hq
 |e::es,ps,i,q,h,hq=>by
  obtain⟨p,qs,rfl,h1,h2,h3⟩:=h.cons_inv;unfold zW at hq;by_cases hc:c=p.1
  .rw[if_pos hc] at hq
   injection hq with hq;refine⟨0,by rw[<-hq];rfl,aQ,?_⟩;unfold yC;rw[if_pos hc];simpa using h3
  .rw[if_neg hc] at hq
   obtain⟨j,e1,e2,e3⟩:=zw7 h3 hq;refine⟨j+1,by rw[e1];omega,by simpa using e2,?_⟩;unfold yC;rw[if_neg hc];unfold x9 at e3⊢;rw[zsN,fG,fG,e3,h1,h2]
section
variable {P:bS}{k:aM}{d:Mr}{e0:aM}
variable {ps:List (Nat×aF)}
theorem zz4 {t e kt:aM}(ht:P.underlying t=some (.map k e))(hk:P.underlying k=some (.chan d e0)){w:aE}{b:Nat}{c:Nat}(h:Bc w b ps)(hc:(o6 c ps).isSome=true):
 ∃o',(∀ty,(Kd #[t,kt] ty #[.map (some b),.chan (some c)]).run P w=.ok (.tuple #[]) {w with heap:=w.heap.setIfInBounds b o'})/\Bc {w with heap:=w.heap.setIfInBounds b o'} b (yC c ps):=by
 obtain⟨es,clock,hb,he⟩:=h;have hz:=(dM.1 hb).1;have hf:=zhv c ps 0
 cases hq:zW c ps 0 with
 |none=>rw[hq] at hf;rw[<-hf] at hc;cases hc
 |some q=>
  obtain⟨j,e1,e2,e3⟩:=zw7 he hq;have Ei:q.1=j:=aD;refine⟨.map (es.eraseIdxIfInBounds j) clock,λty=>?_,es.eraseIdxIfInBounds j,clock,by simp[hz],?_⟩
  .simp[Kd,wU ht,Yl hb,zgm hk,zgT hk c w _ _ he,hq,Ei,Y2 _ hb,uC]
  .have hj:j<es.size:=by simpa using e2
   have:(es.eraseIdxIfInBounds j).toList=es.toList.eraseIdx j:=by
    unfold zwF;rw[dif_pos hj,zpg]
   rw[this];exact e3
end
def xE (c:Int):List (Int×aF)->List (Int×aF)
 |[]=>[]
 |p::ps=>if c=p.1 then ps else p::xE c ps
variable {c:Int}
theorem zwI :∀{ps:List (Int×aF)},c∉ps.map tY->kQ c ps=none
 |[],_=>rfl
 |p::ps,h=>by
  unfold kQ;have h1:c≠p.1:=λe=>h (by rw[e];simp);rw[if_neg h1];exact zwI λx=>h (Gn _ x)
theorem Xe (c c':Int)(v:aF):∀ps:List (Int×aF),kQ c' (pX c v ps)=if c'=c then some v else kQ c' ps
 |[]=>by
  unfold pX kQ kQ;rfl
 |p::ps=>by
  unfold pX;by_cases e:c=p.1
  .rw[if_pos e]
   unfold kQ;by_cases e2:c'=p.1
   .rw[if_pos e2,if_pos (e2.trans e.symm)]
   .rw[if_neg e2,if_neg (λh=>e2 (h.trans e))]
    first|rfl|simp[e2]
  .rw[if_neg e]
   unfold kQ;by_cases e2:c'=p.1
   .rw[if_pos e2,if_neg (λh=>e (h.symm.trans e2))]
    first|rfl|simp[e2]
   .rw[if_neg e2,Xe c c' v ps]
    first|rfl|simp[e2]
variable {c':Int}
theorem zoc :∀{ps:List (Int×aF)},c'∈(pX c v ps).map tY->c'=c\/c'∈ps.map tY
 |[],h=>by unfold pX at h;simp at h;exact .inl h
 |p::ps,h=>by
  unfold pX at h;by_cases e:c=p.1
  .rw[if_pos e] at h
   exact .inr h
  .rw[if_neg e,fG,iX] at h
   rcases h with h|h
   .exact .inr (by rw[h];simp)
   .exact(zoc h).imp id (Gn _)
theorem ziY (c:Int)(v:aF):∀{ps:List (Int×aF)},(ps.map tY).Nodup->((pX c v ps).map tY).Nodup
 |[],_=>by unfold pX;simp
 |p::ps,h=>by
  unfold pX;rw[fG,Ch] at h;by_cases e:c=p.1
  .rw[if_pos e,fG,Ch];exact h
  .rw[if_neg e,fG,Ch]
   exact⟨λx=>(zoc x).elim (λy=>e y.symm) h.1,ziY c v h.2⟩
theorem zpH :∀{ps:List (Int×aF)},c'∈(xE c ps).map tY->c'∈ps.map tY
 |[],h=>by cases h
 |p::ps,h=>by
  unfold xE at h;by_cases e:c=p.1
  .rw[if_pos e] at h;exact Gn _ h
  .rw[if_neg e,fG,iX] at h
   rcases h with h|h
   .rw[h];simp
   .exact Gn _ (zpH h)
theorem zvZ (c:Int):∀{ps:List (Int×aF)},(ps.map tY).Nodup->((xE c ps).map tY).Nodup
 |[],_=>by unfold xE;simp
 |p::ps,h=>by
  rw[fG,Ch] at h;unfold xE;by_cases e:c=p.1
  .rw[if_pos e];exact h.2
  .rw[if_neg e,fG,Ch]
   exact⟨λx=>h.1 (zpH x),zvZ c h.2⟩
theorem zh3 (c c':Int):∀{ps:List (Int×aF)},(ps.map tY).Nodup->kQ c' (xE c ps)=if c'=c then none else kQ c' ps
 |[],_=>by unfold xE kQ;split<;>rfl
 |p::ps,h=>by
  rw[fG,Ch] at h;unfold xE;by_cases e:c=p.1
  .rw[if_pos e]
   by_cases e2:c'=c
   .rw[if_pos e2];exact zwI (by rw[e2,e];exact h.1)
   .rw[if_neg e2]
    show _=kQ c' (p::ps)
    conv=>rhs;unfold kQ
    rw[if_neg (λh=>e2 (h.trans e.symm))]
  .rw[if_neg e]
   unfold kQ;by_cases e2:c'=p.1
   .rw[if_pos e2,if_neg (λh=>e (h.symm.trans e2))]
    first|rfl|simp[e2]
   .rw[if_neg e2,zh3 c c' h.2]
    first|rfl|simp[e2]
theorem zt5 :∀{es:List oS} {ps:List (Int×aF)} {i:Nat} {q:Nat×aF},x8 es ps->zZ c ps i=some q->∃j,q.1=i+j/\j<es.length/\x8 (es.eraseIdx j) (xE c ps)
 |[],ps,i,q,h,hq=>by rw[h.nil_inv] at hq;cases hq
 |e::es,ps,i,q,h,hq=>by
  obtain⟨p,qs,rfl,h1,h2,h3⟩:=h.cons_inv;unfold zZ at hq;by_cases hc:c=p.1
  .rw[if_pos hc] at hq
   injection hq with hq;refine⟨0,by rw[<-hq];rfl,aQ,?_⟩;unfold xE;rw[if_pos hc];simpa using h3
  .rw[if_neg hc] at hq
   obtain⟨j,e1,e2,e3⟩:=zt5 h3 hq;refine⟨j+1,by rw[e1];omega,by simpa using e2,?_⟩;unfold xE;rw[if_neg hc];unfold x8 at e3⊢;rw[zsN,fG,fG,e3,h1,h2]
section
variable {P:bS}{k:aM}
variable {ps:List (Int×aF)}
theorem zyo {t e kt:aM}(ht:P.underlying t=some (.map k e))(hk:P.underlying k=some (.int .i64)){w:aE}{b:Nat}{c:Int}(h:xW w b ps)(hc:(kQ c ps).isSome=true):
 ∃o',(∀ty,(Kd #[t,kt] ty #[.map (some b),.int .i64 c]).run P w=.ok (.tuple #[]) {w with heap:=w.heap.setIfInBounds b o'})/\xW {w with heap:=w.heap.setIfInBounds b o'} b (xE c ps):=by
 obtain⟨es,clock,hb,he⟩:=h;have hz:=(dM.1 hb).1;have hf:=zmB c ps 0
 cases hq:zZ c ps 0 with
 |none=>rw[hq] at hf;rw[<-hf] at hc;cases hc
 |some q=>
  obtain⟨j,e1,e2,e3⟩:=zt5 he hq;have Ei:q.1=j:=aD;refine⟨.map (es.eraseIdxIfInBounds j) clock,λty=>?_,es.eraseIdxIfInBounds j,clock,by simp[hz],?_⟩
  .simp[Kd,wU ht,Yl hb,zeb hk,zeW hk c w _ _ he,hq,Ei,Y2 _ hb,uC]
  .have hj:j<es.size:=by simpa using e2
   have:(es.eraseIdxIfInBounds j).toList=es.toList.eraseIdx j:=by
    unfold zwF;rw[dif_pos hj,zpg]
   rw[this];exact e3
variable {Q:nQ->Act->aE->Prop}
theorem zCT {ops:Array aY}{rest:List aY}{o:aY}{a:Act}(w:aE)(hg:o.guard=none)(m x:cM)(t kt:aM)(hop:o.op=.call {callee:=.builtin .delete,args:=#[m,x],argTypes:=#[t,kt]})(e:aM)
 (ht:P.underlying t=some (.map k e)) (hk:P.underlying k=some (.int .i64)) (b:Nat) (c:Int) (ps:List (Int×aF)) (hm:a.eval m=.map (some b)) (hx:a.eval x=.int .i64 c) (h:xW w b ps) (hc:(kQ c ps).isSome=true)
 (hK:∀w' o',w'={w with heap:=w.heap.setIfInBounds b o'}->xW w' b (xE c ps)->wpList P ops Q rest (a.put o.dst (.tuple #[])) w'):wpList P ops Q (o::rest) a w:=by
 refine Tb hg λK' rI=>?_;obtain⟨o',cF,q8⟩:=zyo (kt:=kt) ht hk h hc;unfold Ay;simp only[aO,hop,resolve,invoke,builtin,D5,Ib,D8,uG,fG,tH,hm,hx,cF];exact rI _ _ (hK _ _ rfl q8)
end
structure fT (v:fC)(d:nF):Prop where
 kc:(v.pC.map tY).Nodup
 ko:(v.pO.map tY).Nodup
 km:(v.pM.map tY).Nodup
 c:∀(i g:Nat),d.ln[i]? =some g->((o6 g v.pC).isSome=true↔∃(j:Nat) (x:bR),d.r.recs[j]? =some x/\eA x=true/\x.l=(i:Int)+1)
 o1:∀(c:Int) (y:aF),kQ c v.pO=some y->∃(i:Nat) (x:bR) (g:Nat),d.r.recs[i]? =some x/\eA x=true/\x.c=c/\d.ln[(x.l-1).toNat]? =some g/\y=.chan (some g)
 o2:∀(c:Int),kQ c v.pO=none->∀(i:Nat) (x:bR),d.r.recs[i]? =some x->eA x=true->x.c≠c
 m1:∀(c:Int) (y:aF),kQ c v.pM=some y->∃(i:Nat) (x:bR),y=.int .i64 (i:Int)/\d.r.recs[i]? =some x/\x.c=c/\∀(j:Nat) (e:bR),d.r.recs[j]? =some e->e.c=c->j<=i
 m2:∀(c:Int),kQ c v.pM=none->∀(i:Nat) (x:bR),d.r.recs[i]? =some x->x.c≠c
structure yE (d:nF):Prop where
 S:iW d.r
 R:RInv d.r
 ops:Qd d.r
 ndl:d.ln.Nodup
 nln:(d.ln.length:Int)=d.r.o.ln
 lb:∀x∈d.r.recs,1<=x.l/\x.l<=d.r.o.ln
 nqn:(d.qn.length:Int)=d.r.o.op
 sm:Sa d.r
variable {xs:List Nat}
theorem zxz (h:xs.Nodup){i j g:Nat}(hi:xs[i]? =some g)(hj:xs[j]? =some g):i=j:=by
 obtain⟨h1,h2⟩:=jW.1 hi;obtain⟨h3,h4⟩:=jW.1 hj;exact(List.getElem_inj h).1 (h2.trans h4.symm)
theorem zzK {rs:List bR}{l:Int}:qW rs l=true↔∃(j:Nat) (x:bR),rs[j]? =some x/\eA x=true/\x.l=l:=by
 unfold qW;rw[Qo];constructor
 .rintro⟨x,hx,h⟩
  obtain⟨j,hj⟩:=F7.1 hx;simp only[fN,beq_iff_eq] at h;exact⟨j,x,hj,h.2,h.1⟩
 .rintro⟨j,x,hj,ho,hl⟩
  exact⟨x,dS hj,by simp[ho,hl]⟩
section
variable {v:fC}{d:nF}
variable {i g:Nat}
theorem fT.used (h:fT v d)(hi:d.ln[i]? =some g):(o6 g v.pC).isSome=qW d.r.recs ((i:Int)+1):=by
 rw[Bool.eq_iff_iff,h.c i g hi,zzK]
variable {c:Int}{x:bR}
theorem fT.onLine (h:fT v d)(hi:yE d)(hx:d.r.recs[i]? =some x)(ho:eA x=true)(hc:x.c=c):∃g,d.ln[(x.l-1).toNat]? =some g/\kQ c v.pO=some (.chan (some g))/\kQ c v.pM=some (.int .i64 (i:Int))/\(o6 g v.pC).isSome=true:=by
 have hO:∃g,d.ln[(x.l-1).toNat]? =some g/\kQ c v.pO=some (.chan (some g)):=by
  cases e:kQ c v.pO with
  |none=>exact absurd hc (h.o2 c e i x hx ho)
  |some y=>
   obtain⟨j,z,g,h1,h2,h3,h4,rfl⟩:=h.o1 c y e;obtain rfl:=hi.S.opn i j x z hx h1 ho h2 (.inl (hc.trans h3.symm));rw[hx] at h1;obtain rfl:=cD h1;exact⟨g,h4,rfl⟩
 obtain⟨g,h1,h2⟩:=hO;refine⟨g,h1,h2,?_,(h.c _ g h1).2 ⟨i,x,hx,ho,?_⟩⟩
 .cases e:kQ c v.pM with
  |none=>exact absurd hc (h.m2 c e i x hx)
  |some y=>
   obtain⟨j,z,rfl,h3,h4,h5⟩:=h.m1 c y e;have k1:=h5 i x hx hc;have k2:=hi.S.last i j x z hx ho h3 (h4.trans hc.symm);rw[show j=i by omega]
 .have:=hi.lb x (dS hx);omega
theorem fT.offLine (h:fT v d)(hc:jD d.r.recs c=none):kQ c v.pO=none:=by
 cases e:kQ c v.pO with
 |none=>rfl
 |some y=>
  obtain⟨j,z,g,h1,h2,h3,_⟩:=h.o1 c y e;exact absurd h3 (Jp hc j z h1 h2)
theorem fT.more (h:fT v d)(hn:d.ln.Nodup){o hh tt clk:Int}(hg:d.ln[i]? =some g)(hf:qW d.r.recs ((i:Int)+1)=false)(hc:jD d.r.recs c=none):
 fT {v with pC:=uM g (.int .i64 c) v.pC,pO:=pX c (.chan (some g)) v.pO,pM:=pX c (.int .i64 (d.r.recs.length:Int)) v.pM} {d with r:={d.r with recs:=d.r.recs++[⟨c,(i:Int)+1,o,clk,hh,tt,eJ⟩]}}:=by
 have hop:eA ⟨c,(i:Int)+1,o,clk,hh,tt,eJ⟩=true:=by unfold eA;rw[zdH];rfl
 have Bd:(d.r.recs++[(⟨c,(i:Int)+1,o,clk,hh,tt,eJ⟩:bR)])[d.r.recs.length]? =some ⟨c,(i:Int)+1,o,clk,hh,tt,eJ⟩:=by rw[zS (aZ _),M9];rfl
 refine⟨zpq _ _ h.kc,ziY _ _ h.ko,ziY _ _ h.km,λi' g' wA=>?_,λc' y hy=>?_,λc' hy j x hx ho=>?_,λc' y hy=>?_,λc' hy j x hx=>?_⟩
 .simp only[zuS]
  by_cases e:g'=g
  .subst e
   obtain rfl:=zxz hn hg wA;rw[if_pos rfl];exact⟨λ_=>⟨_,_,Bd,hop,rfl⟩,λ_=>rfl⟩
  .rw[if_neg e,h.c i' g' wA]
   constructor
   .rintro⟨j,x,h1,h2⟩;exact⟨j,x,ze4 h1,h2⟩
   .rintro⟨j,x,h1,h2,h3⟩
    rcases Jv h1 with⟨_,h4⟩|⟨rfl,rfl⟩
    .exact⟨j,x,h4,h2,h3⟩
    .exfalso
     have:i=i':=by simp only at h3;omega
     subst this;rw[hg] at wA;exact e (cD wA).symm
 .simp only[Xe] at hy
  by_cases e:c'=c
  .rw[if_pos e] at hy
   obtain rfl:=cD hy;exact⟨_,_,g,Bd,hop,e.symm,by simp only;rw[show((i:Int)+1-1).toNat=i by omega];exact hg,rfl⟩
  .rw[if_neg e] at hy
   obtain⟨j,x,g',h1,h2⟩:=h.o1 c' y hy;exact⟨j,x,g',ze4 h1,h2⟩
 .simp only[Xe] at hy
  by_cases e:c'=c
  .rw[if_pos e] at hy;cases hy
  .rw[if_neg e] at hy
   rcases Jv hx with⟨_,h4⟩|⟨rfl,rfl⟩
   .exact h.o2 c' hy j x h4 ho
   .exact Ne.symm e
 .simp only[Xe] at hy
  by_cases e:c'=c
  .rw[if_pos e] at hy
   obtain rfl:=cD hy;refine⟨_,_,rfl,Bd,e.symm,λj x hx _=>?_⟩;rcases Jv hx with⟨h4,_⟩|⟨rfl,rfl⟩
   .omega
   .exact aZ _
  .rw[if_neg e] at hy
   obtain⟨j,x,h1,h2,h3,h4⟩:=h.m1 c' y hy;refine⟨j,x,h1,ze4 h2,h3,λj' x' lH kF=>?_⟩;rcases Jv lH with⟨_,h5⟩|⟨rfl,rfl⟩
   .exact h4 j' x' h5 kF
   .exact absurd kF.symm e
 .simp only[Xe] at hy
  by_cases e:c'=c
  .rw[if_pos e] at hy;cases hy
  .rw[if_neg e] at hy
   rcases Jv hx with⟨_,h4⟩|⟨rfl,rfl⟩
   .exact h.m2 c' hy j x h4
   .exact Ne.symm e
variable {f:bR->bR}
theorem fT.mod (h:fT v d)(hf:∀x,(f x).c=x.c/\(f x).l=x.l/\eA (f x)=eA x):fT v {d with r:={d.r with recs:=d.r.recs.modify i f}}:=by
 have fw:∀(j:Nat) (x:bR),d.r.recs[j]? =some x->∃y,(d.r.recs.modify i f)[j]? =some y/\y.c=x.c/\y.l=x.l/\eA y=eA x:=λj x hx=>by
  by_cases e:i=j
  .subst e;exact⟨f x,zcw hx,hf x⟩
  .exact⟨x,Pk hx e,rfl,rfl,rfl⟩
 have bw:∀(j:Nat) (y:bR),(d.r.recs.modify i f)[j]? =some y->∃x,d.r.recs[j]? =some x/\y.c=x.c/\y.l=x.l/\eA y=eA x:=λj y hy=>by
  obtain⟨x,h1,⟨_,rfl⟩|⟨_,rfl⟩⟩:=Ey hy
  .exact⟨x,h1,hf x⟩
  .exact⟨_,h1,rfl,rfl,rfl⟩
 refine⟨h.kc,h.ko,h.km,λi' g' wA=>?_,λc' y hy=>?_,λc' hy j x hx ho=>?_,λc' y hy=>?_,λc' hy j x hx=>?_⟩
 .rw[h.c i' g' wA]
  constructor
  .rintro⟨j,x,h1,h2,h3⟩
   obtain⟨y,k1,k2,k3,k4⟩:=fw j x h1;exact⟨j,y,k1,k4.trans h2,k3.trans h3⟩
  .rintro⟨j,x,h1,h2,h3⟩
   obtain⟨y,k1,k2,k3,k4⟩:=bw j x h1;exact⟨j,y,k1,k4.symm.trans h2,k3.symm.trans h3⟩
 .obtain⟨j,x,g',h1,h2,h3,h4,h5⟩:=h.o1 c' y hy
  obtain⟨z,k1,k2,k3,k4⟩:=fw j x h1;exact⟨j,z,g',k1,k4.trans h2,k2.trans h3,by rw[k3];exact h4,h5⟩
 .obtain⟨z,k1,k2,k3,k4⟩:=bw j x hx
  rw[k2];exact h.o2 c' hy j z k1 (k4.symm.trans ho)
 .obtain⟨j,x,h1,h2,h3,h4⟩:=h.m1 c' y hy
  obtain⟨z,k1,k2,k3,k4⟩:=fw j x h2;refine⟨j,z,h1,k1,k2.trans h3,λj' x' lH kF=>?_⟩;obtain⟨z',l1,l2,l3,l4⟩:=bw j' x' lH;exact h4 j' z' l1 (l2.symm.trans kF)
 .obtain⟨z,k1,k2,k3,k4⟩:=bw j x hx
  rw[k2];exact h.m2 c' hy j z k1
theorem fT.clear (h:fT v d)(hS:iW d.r)(hn:d.ln.Nodup)(V9:∀x∈d.r.recs,1<=x.l)(hx:d.r.recs[i]? =some x)(ho:eA x=true)(hg:d.ln[(x.l-1).toNat]? =some g)(hf:∀z,(f z).c=z.c/\(f z).l=z.l)(fU:eA (f x)=false):
 fT {v with pC:=yC g v.pC,pO:=xE x.c v.pO} {d with r:={d.r with recs:=d.r.recs.modify i f}}:=by
 have bw:∀(j:Nat) (y:bR),(d.r.recs.modify i f)[j]? =some y->eA y=true->i≠j/\d.r.recs[j]? =some y:=λj y hy C6=>by
  obtain⟨z,h1,⟨e,rfl⟩|⟨e,rfl⟩⟩:=Ey hy
  .subst e
   rw[hx] at h1;obtain rfl:=cD h1;rw[fU] at C6;cases C6
  .exact⟨e,h1⟩
 have cw:∀(j:Nat) (y:bR),(d.r.recs.modify i f)[j]? =some y->∃z,d.r.recs[j]? =some z/\y.c=z.c:=λj y hy=>by
  obtain⟨z,h1,⟨_,rfl⟩|⟨_,rfl⟩⟩:=Ey hy
  .exact⟨z,h1,(hf z).1⟩
  .exact⟨_,h1,rfl⟩
 refine⟨zty _ h.kc,zvZ _ h.ko,h.km,λi' g' wA=>?_,λc' y hy=>?_,λc' hy j z hz Zi=>?_,λc' y hy=>?_,λc' hy j z hz=>?_⟩
 .simp only[zvl _ _ h.kc]
  by_cases e:g'=g
  .subst e
   have e1:=zxz hn hg wA;rw[if_pos rfl];constructor
   .intro h;cases h
   .rintro⟨j,z,h1,h2,h3⟩
    obtain⟨k1,k2⟩:=bw j z h1 h2;have hl:=V9 x (dS hx);exact absurd (hS.opn i j x z hx k2 ho h2 (.inr (.inl aD))) k1
  .rw[if_neg e,h.c i' g' wA]
   constructor
   .rintro⟨j,z,h1,h2,h3⟩
    have aT:i≠j:=λe2=>by
     subst e2;rw[hx] at h1;obtain rfl:=cD h1;have:(x.l-1).toNat=i':=aD;rw[this,wA] at hg;exact e (cD hg)
    exact⟨j,z,Pk h1 aT,h2,h3⟩
   .rintro⟨j,z,h1,h2,h3⟩
    obtain⟨k1,k2⟩:=bw j z h1 h2;exact⟨j,z,k2,h2,h3⟩
 .simp only[zh3 _ _ h.ko] at hy
  by_cases e:c'=x.c
  .rw[if_pos e] at hy;cases hy
  .rw[if_neg e] at hy
   obtain⟨j,z,g',h1,h2,h3,h4⟩:=h.o1 c' y hy;have aT:i≠j:=λe2=>by
    subst e2;rw[hx] at h1;obtain rfl:=cD h1;exact e h3.symm
   exact⟨j,z,g',Pk h1 aT,h2,h3,h4⟩
 .simp only[zh3 _ _ h.ko] at hy
  obtain⟨k1,k2⟩:=bw j z hz Zi;by_cases e:c'=x.c
  .intro e2
   exact k1 (hS.opn i j x z hx k2 ho Zi (.inl (by rw[e2,e])))
  .rw[if_neg e] at hy
   exact h.o2 c' hy j z k2 Zi
 .obtain⟨j,z,h1,h2,h3,h4⟩:=h.m1 c' y hy
  have up:∀(j':Nat) (e:bR),(d.r.recs.modify i f)[j']? =some e->e.c=c'->j'<=j:=λj' e he hc=>by
   obtain⟨z',k1,k2⟩:=cw j' e he;exact h4 j' z' k1 (k2.symm.trans hc)
  by_cases e:i=j
  .subst e
   exact⟨i,f z,h1,zcw h2,(hf z).1.trans h3,up⟩
  .exact⟨j,z,h1,Pk h2 e,h3,up⟩
 .obtain⟨z',k1,k2⟩:=cw j z hz
  rw[k2];exact h.m2 c' hy j z' k1
end
def Q6:aK.underlying 61=some (.chan .both 3):=aS
def Kv:aK.underlying 3=some (.int .i64):=aS
theorem zjc (w:aE):(zeroValue 3).run aK w=.ok (.int .i64 0) w:=by
 obtain⟨i0,hi,jJ,_,_⟩:=y3 zoN;simp[zeroValue,typeInfo,hi,jJ]
def zaK (w:aE):(zeroValue 61).run aK w=.ok (.chan none) w:=aS
def Ik (d:nF):Int:=match n6 d.r.o d.r.recs with|[]=>-1|l::_=>l-1
theorem zGj {p:Int->Bool}:∀(n k:Nat),k<n->(∀j,j<k->p ((j:Int)+1)=false)->p ((k:Int)+1)=true->∃rest,((gD n).map λi:Nat=>(i:Int)+1).filter p=((k:Int)+1)::rest:=by
 intro n
 induction n with
 |zero=>intro k h;omega
 |succ n ih=>
  intro k hk h1 h2;rw[List.range_succ,If,Pd];by_cases e:k<n
  .obtain⟨rest,hr⟩:=ih k e h1 h2
   rw[hr];exact⟨_,rfl⟩
  .have e2:k=n:=aD
   subst e2;have h0:((gD k).map λi:Nat=>(i:Int)+1).filter p=[]:=by
    rw[zrz];intro x hx;obtain⟨i,hi,rfl⟩:=Hv.1 hx;rw[h1 i (B6.1 hi)];simp
   rw[h0];exact⟨[],by simp[h2]⟩
variable {d:nF}{k:Nat}
theorem zCJ (hn:(d.ln.length:Int)=d.r.o.ln)(hk:k<d.ln.length)(h1:∀j,j<k->qW d.r.recs ((j:Int)+1)=true)(h2:qW d.r.recs ((k:Int)+1)=false):Ik d=(k:Int):=by
 unfold Ik n6 xR;obtain⟨rest,hr⟩:=zGj (p:=λl=>!qW d.r.recs l) d.r.o.ln.toNat k aD (λj hj=>by simp[h1 j hj]) (by simp[h2]);rw[hr];simp only;omega
theorem zDQ (hn:(d.ln.length:Int)=d.r.o.ln)(h1:∀j,j<d.ln.length->qW d.r.recs ((j:Int)+1)=true):Ik d= -1:=by
 unfold Ik n6 xR;have h0:((gD d.r.o.ln.toNat).map λi:Nat=>(i:Int)+1).filter (λl=>!qW d.r.recs l)=[]:=by
  rw[zrz];intro x hx;obtain⟨i,hi,rfl⟩:=Hv.1 hx;rw[h1 i (by have:=B6.1 hi;omega)];simp
 rw[h0]
variable {w:aE}{lo:Nat}
theorem Fo {E s n:Nat}{xs:List aF}(h:w.ownsRow lo E s v n xs)(hs:0<s):∃A c,v=.slice A n c/\cG w lo w.heap.size s A n c xs:=by
 obtain⟨A,c,e,o⟩:=zvy h hs;exact⟨A,c,e,o.slc⟩
theorem zer {hi n c:Nat}{A:Option bO}(h:cG w lo hi 1 A n c (Ia xs))(hk:k<n):∃b off g,A=some ⟨b,off,none⟩/\xs[k]? =some g/\w.cell? ⟨b,off+k,none⟩=some (.chan (some g)):=by
 obtain⟨b,off,e,h1,h2,h3,h4⟩:=h.cells hk;have hl:xs.length=n:=by have:=h.len;simpa[Ia] using this
 obtain⟨g,hg⟩:∃g,xs[k]? =some g:=⟨xs[k]' aD,lP aD⟩;refine⟨b,off,g,e,hg,?_⟩;have:=h4 0 (.chan (some g)) (by simp[Ia,hg]);simpa using this
theorem zuX {hb:Nat}{v:fC}(h:bE w lo hb v d)(m:fT v d)(hn:(d.ln.length:Int)=d.r.o.ln)(hk:d.ln.length<=100):
 iE aK 72 #[.pointer (some ⟨hb,0,none⟩)] w λe w'=>e=.returned (.int .i64 (Ik d))/\w'=w:=by
 obtain⟨A,c,hA,hs⟩:=Fo h.L aH;have HS:=aC hs;have HM:=aC m;have HC:=aC h.C;have HN:=aC hn;have n8:=aJ h.blk 3;have k2:=aJ h.blk 4;have k1:w.cell? ⟨hb,3,none⟩=some (.slice A d.ln.length c):=by rw[n8,<-hA];rfl
 clear n8 hA hs m hn h
 go_enter Tryd.func72,Tryd.ntmps72
 go_wp2
 go_loop [12] (λi=>∃k:Nat,k<=d.ln.length/\i=.int .i64 k/\∀j,j<k->qW d.r.recs ((j:Int)+1)=true) (λi=>d.ln.length-(intOf i).toNat)
 case atStart=>exact⟨0,lB _,rfl,λj hj=>absurd hj aD⟩
 case round=>
  obtain⟨k,rT,rfl,fP⟩:=hrel;have zhB:=aC fP;clear fP;by_cases aP:k<d.ln.length
  .obtain⟨b,off,g,hA,hg,hv⟩:=zer HS.o aP
   subst hA;have HG:=aC hg;have i0:(0:Int)<=(k:Int):=aD;have i1:(k:Int)<(d.ln.length:Int):=aD;have HU:=aC (HM.o.used hg);clear hg;cases hu:qW d.r.recs ((k:Int)+1)
   .have HV:=aC hu
    clear hu
    go_wp2_with (at_lookup;refine zxf _ rfl (.tmp 21) (.tmp 22) 48 true rfl 3 zsu Q6 (.int .i64 0) (zjc _) v.mC g v.pC rfl rfl HC.o ?_;rw[HU.o,HV.o];simp only[if_true])
    go_ret;exact⟨Ba (zCJ HN.o aP zhB.o HV.o).symm,rfl⟩
   .have HV:=aC hu
    clear hu
    go_wp2_with (at_lookup;refine zxf _ rfl (.tmp 21) (.tmp 22) 48 true rfl 3 zsu Q6 (.int .i64 0) (zjc _) v.mC g v.pC rfl rfl HC.o ?_;rw[HU.o,HV.o];simp only[if_true])
    go_round
    case rel=>exact⟨k+1,aD,pT,λj hj=>if e:j<k then zhB.o j e else(by rw[show j=k by omega];exact HV.o)⟩
    case measure=>simp[intOf];omega
  .have e:k=d.ln.length:=aD
   subst e;go_wp2;go_ret;exact⟨Ba (zDQ HN.o zhB.o).symm,rfl⟩
end Go.Proofs.YtfcjiloojkjaeaaDoor
namespace Go.Proofs.YtfcjiloojkjaeaaDoor
open Go.RowKit Go.Mt Go.Conc Go.Tt Go.Maps
section
variable {p:bS}{o:aY}{ρ:cM->aF}{w w':aE}
variable {t:aM}
theorem zmr {m x:cM}{ok:Bool}{a b v:aF}(ho:o.op=.lookup t m x ok)(hm:ρ m=a)(hx:ρ x=b)(hr:(yP t a b ok).run p w=.ok v w):(aO ρ o).run p w=.ok (.value v) w:=by
 obtain⟨dst,yF,type,pos,after,guard⟩:=o;simp only at ho;subst ho;simp[aO,hm,hx,hr]
theorem zIX {t2:aM}{a b:cM}{x y:Option Nat}{d:Mr}{e:aM}(ho:o.op=.binOp .eql t a b t2)(hu:p.underlying t=some (.chan d e))(ha:ρ a=.chan x)(hb:ρ b=.chan y):(aO ρ o).run p w=.ok (.value (.bool (x==y))) w:=by
 obtain⟨dst,yF,type,pos,after,guard⟩:=o;simp only at ho;subst ho;simp[aO,eqGuard,binOp,ha,hb,zlT hu]
theorem Ep {x:Int}(h1: -1000000000000<=x)(h2:x<=1000000000000):IntKind.i64.wrap x=x:=by
 rw[IntKind.wrap_i64];omega
theorem zx7 {m x y:cM}{a b c:aF}(ho:o.op=.mapUpdate t m x y)(hm:ρ m=a)(hx:ρ x=b)(hy:ρ y=c)(hr:(Gg t a b c).run p w=.ok () w'):(aO ρ o).run p w=.ok .skip w':=by
 obtain⟨dst,yF,type,pos,after,guard⟩:=o;simp only at ho;subst ho;simp[aO,hm,hx,hy,hr]
variable {kt:aM}
theorem zCj {m x:cM}{a b v:aF}(ho:o.op=.call ⟨.builtin .delete,#[m,x],#[t,kt]⟩)(hm:ρ m=a)(hx:ρ x=b)(hr:(Kd #[t,kt] o.type #[a,b]).run p w=.ok v w'):(aO ρ o).run p w=.ok (.value v) w':=by
 obtain⟨dst,yF,type,pos,after,guard⟩:=o;simp only at ho hr;subst ho;simp[aO,resolve,invoke,builtin,hm,hx,hr]
theorem zgq {m x:cM}{a b v:aF}(ho:o.op=.call ⟨.builtin .copy,#[m,x],#[t,kt]⟩)(hm:ρ m=a)(hx:ρ x=b)(hr:(C8 #[t,kt] o.type #[a,b]).run p w=.ok v w'):(aO ρ o).run p w=.ok (.value v) w':=by
 obtain⟨dst,yF,type,pos,after,guard⟩:=o;simp only at ho hr;subst ho;simp[aO,resolve,invoke,builtin,hm,hx,hr]
end
def bodyRF:Go.Code:=(Tryd.f78.body).getD .skip
def rRF1:Go.Code:=match bodyRF with| .seq _ (.seq (a) _)=>a|_=>.skip
def ze9:Array Oper:=match rRF1 with| .region _ ops _=>ops|_=>#[]
def zsq:ze9.toList=[⟨some 5,.move (.tmp 0),45,"l6_office.go:126",#[],none⟩,⟨some 6,.nilCheck (.tmp 5),0,"l6_office.go:126",#[⟨0,.data⟩],none⟩,⟨some 7,.fieldAddr 55 (.tmp 6) 7,0,"l6_office.go:126",#[⟨1,.data⟩],none⟩,⟨some 8,.load 36 (.tmp 7),36,"l6_office.go:126",#[⟨2,.data⟩],none⟩,⟨some 9,.move (.tmp 0),45,"l6_office.go:126",#[],none⟩,⟨some 10,.nilCheck (.tmp 9),0,"l6_office.go:126",#[⟨4,.data⟩],none⟩,⟨some 11,.fieldAddr 55 (.tmp 10) 8,0,"l6_office.go:126",#[⟨5,.data⟩],none⟩,⟨some 12,.load 53 (.tmp 11),53,"l6_office.go:126",#[⟨6,.data⟩],none⟩,⟨some 13,.move (.tmp 1),3,"l6_office.go:126",#[],none⟩,⟨some 14,.lookup 53 (.tmp 12) (.tmp 13) false,3,"l6_office.go:126",#[⟨7,.data⟩,⟨8,.data⟩],none⟩,⟨some 15,.indexAddr 36 (.tmp 8) (.tmp 14),0,"l6_office.go:126",#[⟨3,.data⟩,⟨9,.data⟩],none⟩,⟨some 4,.assign (.tmp 15),128,"l6_office.go:126",#[⟨10,.data⟩,⟨0,.phase⟩,⟨1,.phase⟩,⟨2,.phase⟩,⟨3,.phase⟩,⟨4,.phase⟩,⟨5,.phase⟩,⟨6,.phase⟩,⟨7,.phase⟩,⟨8,.phase⟩,⟨9,.phase⟩,⟨10,.phase⟩],none⟩]:=rfl
def WRF1 (w:aE)(hb g n cR mM ix:Nat)(c:Int):Nat->aE
 |_=>w.drew
theorem zt2:ze9.toList.map (·.dst)=[some 5,some 6,some 7,some 8,some 9,some 10,some 11,some 12,some 13,some 14,some 15,some 4]:=by rw[zsq];rfl
def lRF1 (w:aE)(hb g n cR mM ix:Nat)(c:Int):List Value:=[.pointer (some ⟨hb,0,none⟩),.pointer (some ⟨hb,0,none⟩),.pointer (some ⟨hb,9,none⟩),.slice (some ⟨g,0,none⟩) n cR,.pointer (some ⟨hb,0,none⟩),.pointer (some ⟨hb,0,none⟩),.pointer (some ⟨hb,10,none⟩),.map (some mM),.int .i64 (c),.int .i64 ((ix:Nat)),.pointer (some ⟨g,ix*7,none⟩),.pointer (some ⟨g,ix*7,none⟩)]
def fRF1 (w:aE)(hb g n cR mM ix:Nat)(c:Int)(i:Nat):Value:=(lRF1 w hb g n cR mM ix c).getD i aA
variable {Q:nQ->tE->aE->Prop}{d:List Eo}{t0:Array aF}
theorem wp_RF1 (w:aE)(hb g n cR mM ix:Nat)(c:Int)(hz:t0.size=16)(tX:t0.getD 0 aA=.pointer (some ⟨hb,0,none⟩))(Eu:t0.getD 1 aA=.int .i64 (c))(h9:w.cell? ⟨hb,9,none⟩=some (.slice (some ⟨g,0,none⟩) n cR))(N7:w.cell? ⟨hb,10,none⟩=some (.map (some mM)))(wN:(yP 53 (.map (some mM)) (.int .i64 c) false).run aK w.drew=.ok (.int .i64 (ix:Int)) w.drew)(nV:ix<n)(h0:WRF1 w hb g n cR mM ix c 0=w.drew)(hk:Q .normal ⟨cZ ze9 (fRF1 w hb g n cR mM ix c) t0,d⟩ (w.drew)):
 (Dl 1 ze9 true).wp aK Q ⟨t0,d⟩ w:=by
 refine Ho (ws:=[]) (Wd:=WRF1 w hb g n cR mM ix c) (vals:=fRF1 w hb g n cR mM ix c) vD.mixed aS aH aS h0 Ih (λV hU hV=>?_) hk;obtain⟨e5,e6,e7,e8,e9,ze7,ziZ,ze5,ziq,zvP,zpy,e4,-⟩:=Hn zt2 hU;have e0:=(hV 0 aS).trans tX;have e1:=(hV 1 aS).trans Eu;have zug:w.drew.cell? ⟨hb,9,none⟩=some (.slice (some ⟨g,0,none⟩) n cR):=h9;have zBX:w.drew.cell? ⟨hb,10,none⟩=some (.map (some mM)):=N7;refine λTf hT=>Hz zsq ⟨bP.pv,bP.pv,bP.pv,bP.ld,bP.pv,bP.pv,bP.pv,bP.ld,bP.pv,bP.ld (hx:=zmr rfl (nK hT ze5) (nK hT ziq) wN),bP.any (λkk fJ hm=>?_),bP.pv,trivial⟩
 .have i0:(0:Int)<=(ix:Int):=aD
  have i1:(ix:Int)<(n:Int):=by have:=nV;omega
  unfold aO;go_simp
def bodyCL:Go.Code:=(Tryd.f79.body).getD .skip
def rCL0:Go.Code:=match bodyCL with| .seq (a) _=>a|_=>.skip
def zfI:Array Oper:=match rCL0 with| .region _ ops _=>ops|_=>#[]
def zul:zfI.toList=[⟨some 7,.move (.tmp 0),45,"l6_office.go:130",#[],none⟩,⟨some 8,.nilCheck (.tmp 7),0,"l6_office.go:130",#[⟨0,.data⟩],none⟩,⟨some 9,.fieldAddr 55 (.tmp 8) 2,0,"l6_office.go:130",#[⟨1,.data⟩],none⟩,⟨some 10,.load 48 (.tmp 9),48,"l6_office.go:130",#[⟨2,.data⟩],none⟩,⟨some 11,.move (.tmp 0),45,"l6_office.go:130",#[],none⟩,⟨some 12,.nilCheck (.tmp 11),0,"l6_office.go:130",#[⟨4,.data⟩],none⟩,⟨some 13,.fieldAddr 55 (.tmp 12) 3,0,"l6_office.go:130",#[⟨5,.data⟩],none⟩,⟨some 14,.load 49 (.tmp 13),49,"l6_office.go:130",#[⟨6,.data⟩],none⟩,⟨some 15,.move (.tmp 1),3,"l6_office.go:130",#[],none⟩,⟨some 16,.lookup 49 (.tmp 14) (.tmp 15) false,61,"l6_office.go:130",#[⟨7,.data⟩,⟨8,.data⟩],none⟩,⟨none,.call ⟨.builtin .delete,#[.tmp 10,.tmp 16],#[48,61]⟩,0,"l6_office.go:130",#[⟨3,.data⟩,⟨9,.data⟩],none⟩]:=rfl
def WCL0 (w:aE)(hb mC mO g:Nat)(o1:Obj)(c:Int):Nat->aE
 |0=>w.drew
 |_=>{w.drew with heap:=w.drew.heap.setIfInBounds mC o1}
theorem znO:zfI.toList.map (·.dst)=[some 7,some 8,some 9,some 10,some 11,some 12,some 13,some 14,some 15,some 16,none]:=by rw[zul];rfl
def lCL0 (w:aE)(hb mC mO g:Nat)(o1:Obj)(c:Int):List Value:=[.pointer (some ⟨hb,0,none⟩),.pointer (some ⟨hb,0,none⟩),.pointer (some ⟨hb,4,none⟩),.map (some mC),.pointer (some ⟨hb,0,none⟩),.pointer (some ⟨hb,0,none⟩),.pointer (some ⟨hb,5,none⟩),.map (some mO),.int .i64 (c),.chan (some g),aA]
def fCL0 (w:aE)(hb mC mO g:Nat)(o1:Obj)(c:Int)(i:Nat):Value:=(lCL0 w hb mC mO g o1 c).getD i aA
theorem wp_CL0 (w:aE)(hb mC mO g:Nat)(o1:Obj)(c:Int)(hz:t0.size=36)(tX:t0.getD 0 aA=.pointer (some ⟨hb,0,none⟩))(Eu:t0.getD 1 aA=.int .i64 (c))(h4:w.cell? ⟨hb,4,none⟩=some (.map (some mC)))(h5:w.cell? ⟨hb,5,none⟩=some (.map (some mO)))(wN:(yP 49 (.map (some mO)) (.int .i64 c) false).run aK w.drew=.ok (.chan (some g)) w.drew)(uL:∀ty,(Kd #[48,61] ty #[.map (some mC),.chan (some g)]).run aK w.drew=.ok (.tuple #[]) {w.drew with heap:=w.drew.heap.setIfInBounds mC o1})(h0:WCL0 w hb mC mO g o1 c 0=w.drew)(hk:Q .normal ⟨cZ zfI (fCL0 w hb mC mO g o1 c) t0,d⟩ ({w.drew with heap:=w.drew.heap.setIfInBounds mC o1})):
 (Dl 0 zfI true).wp aK Q ⟨t0,d⟩ w:=by
 refine Ho (ws:=[10]) (Wd:=WCL0 w hb mC mO g o1 c) (vals:=fCL0 w hb mC mO g o1 c) vD.mixed aS aH aS h0 Ih (λV hU hV=>?_) hk;obtain⟨e7,e8,e9,ze7,ziZ,ze5,ziq,zvP,zpy,zFr,-⟩:=Hn znO hU;have e0:=(hV 0 aS).trans tX;have e1:=(hV 1 aS).trans Eu;have Ki:w.drew.cell? ⟨hb,4,none⟩=some (.map (some mC)):=h4;have zA6:w.drew.cell? ⟨hb,5,none⟩=some (.map (some mO)):=h5;refine λTf hT=>Hz zul ⟨bP.pv,bP.pv,bP.pv,bP.ld,bP.pv,bP.pv,bP.pv,bP.ld,bP.pv,bP.ld (hx:=zmr rfl (nK hT zvP) (nK hT zpy) wN),.actn 0 rfl (dU rfl) rfl (.tuple #[]) ?_,trivial⟩
 .exact zCj rfl (nK hT ze7) (nK hT zFr) (uL _)
def zpK:Go.Code:=(Tryd.f73.body).getD .skip
def rCC3:Go.Code:=match zpK with| .seq _ (.seq _ (.seq _ (.seq (a) _)))=>a|_=>.skip
def zcS:Array Oper:=match rCC3 with| .region _ ops _=>ops|_=>#[]
def zqw:zcS.toList=[⟨some 26,.move (.tmp 0),45,"l6_office.go:119",#[],none⟩,⟨some 27,.nilCheck (.tmp 26),0,"l6_office.go:119",#[⟨0,.data⟩],none⟩,⟨some 28,.fieldAddr 55 (.tmp 27) 8,0,"l6_office.go:119",#[⟨1,.data⟩],none⟩,⟨some 29,.load 53 (.tmp 28),53,"l6_office.go:119",#[⟨2,.data⟩],none⟩,⟨some 30,.move (.tmp 1),3,"l6_office.go:119",#[],none⟩,⟨some 31,.move (.tmp 0),45,"l6_office.go:119",#[],none⟩,⟨some 32,.nilCheck (.tmp 31),0,"l6_office.go:119",#[⟨5,.data⟩],none⟩,⟨some 33,.fieldAddr 55 (.tmp 32) 7,0,"l6_office.go:119",#[⟨6,.data⟩],none⟩,⟨some 34,.load 36 (.tmp 33),36,"l6_office.go:119",#[⟨7,.data⟩],none⟩,⟨some 35,.call ⟨.builtin .len,#[.tmp 34],#[36]⟩,3,"l6_office.go:119",#[⟨8,.data⟩],none⟩,⟨none,.mapUpdate 53 (.tmp 29) (.tmp 30) (.tmp 35),0,"l6_office.go:119",#[⟨3,.data⟩,⟨4,.data⟩,⟨9,.data⟩,⟨0,.phase⟩,⟨1,.phase⟩,⟨2,.phase⟩,⟨3,.phase⟩,⟨4,.phase⟩,⟨5,.phase⟩,⟨6,.phase⟩,⟨7,.phase⟩,⟨8,.phase⟩,⟨9,.phase⟩],none⟩]:=rfl
def WCC3 (w:aE)(hb mM n:Nat)(sR:aF)(A:Option bO)(cR:Nat)(o1:Obj)(c:Int):Nat->aE
 |0=>w.drew
 |_=>{w.drew with heap:=w.drew.heap.setIfInBounds mM o1}
theorem zpS:zcS.toList.map (·.dst)=[some 26,some 27,some 28,some 29,some 30,some 31,some 32,some 33,some 34,some 35,none]:=by rw[zqw];rfl
def lCC3 (w:aE)(hb mM n:Nat)(sR:aF)(A:Option bO)(cR:Nat)(o1:Obj)(c:Int):List Value:=[.pointer (some ⟨hb,0,none⟩),.pointer (some ⟨hb,0,none⟩),.pointer (some ⟨hb,10,none⟩),.map (some mM),.int .i64 (c),.pointer (some ⟨hb,0,none⟩),.pointer (some ⟨hb,0,none⟩),.pointer (some ⟨hb,9,none⟩),.slice A n cR,.int .i64 ((n:Nat)),aA]
def fCC3 (w:aE)(hb mM n:Nat)(sR:aF)(A:Option bO)(cR:Nat)(o1:Obj)(c:Int)(i:Nat):Value:=(lCC3 w hb mM n sR A cR o1 c).getD i aA
theorem wp_CC3 (w:aE)(hb mM n:Nat)(sR:aF)(A:Option bO)(cR:Nat)(o1:Obj)(c:Int)(hz:t0.size=53)(tX:t0.getD 0 aA=.pointer (some ⟨hb,0,none⟩))(Eu:t0.getD 1 aA=.int .i64 (c))(N7:w.cell? ⟨hb,10,none⟩=some (.map (some mM)))(h9:w.cell? ⟨hb,9,none⟩=some (.slice A n cR))(J1:(Gg 53 (.map (some mM)) (.int .i64 c) (.int .i64 (n:Int))).run aK w.drew=.ok () {w.drew with heap:=w.drew.heap.setIfInBounds mM o1})(h0:WCC3 w hb mM n sR A cR o1 c 0=w.drew)(hk:Q .normal ⟨cZ zcS (fCC3 w hb mM n sR A cR o1 c) t0,d⟩ ({w.drew with heap:=w.drew.heap.setIfInBounds mM o1})):
 (Dl 3 zcS true).wp aK Q ⟨t0,d⟩ w:=by
 refine Ho (ws:=[10]) (Wd:=WCC3 w hb mM n sR A cR o1 c) (vals:=fCC3 w hb mM n sR A cR o1 c) vD.mixed aS aH aS h0 Ih (λV hU hV=>?_) hk;obtain⟨zLI,zLg,zMh,zBc,zyD,zJH,zKq,zKS,zMy,zIG,-⟩:=Hn zpS hU;have e0:=(hV 0 aS).trans tX;have e1:=(hV 1 aS).trans Eu;have zBX:w.drew.cell? ⟨hb,10,none⟩=some (.map (some mM)):=N7;have zug:w.drew.cell? ⟨hb,9,none⟩=some (.slice A n cR):=h9;refine λTf hT=>Hz zqw ⟨bP.pv,bP.pv,bP.pv,bP.ld,bP.pv,bP.pv,bP.pv,bP.pv,bP.ld,bP.pv,.skp 0 rfl (dU rfl) rfl ?_,trivial⟩
 .exact zx7 rfl (nK hT zBc) (nK hT zyD) (nK hT zIG) J1
def rCC4:Go.Code:=match zpK with| .seq _ (.seq _ (.seq _ (.seq _ (a))))=>a|_=>.skip
def zeB:Array Oper:=match rCC4 with| .region _ ops _=>ops|_=>#[]
def zrQ:zeB.toList=[⟨some 36,.move (.tmp 0),45,"l6_office.go:120",#[],none⟩,⟨some 37,.move (.tmp 0),45,"l6_office.go:120",#[],none⟩,⟨some 38,.nilCheck (.tmp 37),0,"l6_office.go:120",#[⟨1,.data⟩],none⟩,⟨some 39,.fieldAddr 55 (.tmp 38) 7,0,"l6_office.go:120",#[⟨2,.data⟩],none⟩,⟨some 40,.load 36 (.tmp 39),36,"l6_office.go:120",#[⟨3,.data⟩],none⟩,⟨some 41,.move (.tmp 1),3,"l6_office.go:120",#[],none⟩,⟨some 42,.move (.tmp 2),3,"l6_office.go:120",#[],none⟩,⟨some 43,.binOp .add 3 (.tmp 42) (.const (.int .i64 1)) 3,3,"l6_office.go:120",#[⟨6,.data⟩],none⟩,⟨some 44,.move (.tmp 0),45,"l6_office.go:120",#[],none⟩,⟨some 45,.nilCheck (.tmp 44),0,"l6_office.go:120",#[⟨8,.data⟩],none⟩,⟨some 46,.fieldAddr 55 (.tmp 45) 9,0,"l6_office.go:120",#[⟨9,.data⟩],none⟩,⟨some 47,.load 3 (.tmp 46),3,"l6_office.go:120",#[⟨10,.data⟩],none⟩,⟨some 48,.build 107 #[(0,.tmp 41),(1,.tmp 43),(3,.tmp 47),(4,.const (.int .i64 (-1))),(5,.const (.int .i64 (-1))),(6,.const (.string {data:=#[111,112,101,110]}))],107,"l6_office.go:120",#[⟨5,.data⟩,⟨7,.data⟩,⟨11,.data⟩],none⟩,⟨some 49,.buildSlice 36 1 #[(0,.tmp 48)],36,"l6_office.go:120",#[⟨12,.data⟩],none⟩,⟨some 50,.call ⟨.builtin .append,#[.tmp 40,.tmp 49],#[36,36]⟩,36,"l6_office.go:120",#[⟨4,.data⟩,⟨13,.data⟩],none⟩,⟨some 51,.nilCheck (.tmp 36),0,"l6_office.go:120",#[⟨0,.data⟩,⟨0,.phase⟩,⟨1,.phase⟩,⟨2,.phase⟩,⟨3,.phase⟩,⟨4,.phase⟩,⟨5,.phase⟩,⟨6,.phase⟩,⟨7,.phase⟩,⟨8,.phase⟩,⟨9,.phase⟩,⟨10,.phase⟩,⟨11,.phase⟩,⟨12,.phase⟩,⟨13,.phase⟩,⟨14,.phase⟩],none⟩,⟨some 52,.fieldAddr 55 (.tmp 51) 7,0,"l6_office.go:120",#[⟨15,.data⟩,⟨0,.phase⟩,⟨1,.phase⟩,⟨2,.phase⟩,⟨3,.phase⟩,⟨4,.phase⟩,⟨5,.phase⟩,⟨6,.phase⟩,⟨7,.phase⟩,⟨8,.phase⟩,⟨9,.phase⟩,⟨10,.phase⟩,⟨11,.phase⟩,⟨12,.phase⟩,⟨13,.phase⟩,⟨14,.phase⟩],none⟩,⟨none,.store 36 (.tmp 52) (.tmp 50),0,"l6_office.go:120",#[⟨16,.data⟩,⟨14,.data⟩,⟨14,.chain⟩,⟨0,.phase⟩,⟨1,.phase⟩,⟨2,.phase⟩,⟨3,.phase⟩,⟨4,.phase⟩,⟨5,.phase⟩,⟨6,.phase⟩,⟨7,.phase⟩,⟨8,.phase⟩,⟨9,.phase⟩,⟨10,.phase⟩,⟨11,.phase⟩,⟨12,.phase⟩,⟨13,.phase⟩,⟨14,.phase⟩],none⟩]:=rfl
def WCC4 (w w3:aE)(hb g1 n1 c1:Nat)(sR:aF)(c ix clk:Int):Nat->aE
 |0=>w.drew
 |1=>(w.alloc (.cells #[.int .i64 c,.int .i64 (ix+1),.int .i64 0,.int .i64 clk,.int .i64 (-1),.int .i64 (-1),.string eJ] 107)).drew
 |2=>w3
 |_=>w3.setCell ⟨hb,9,none⟩ (.slice (some ⟨g1,0,none⟩) n1 c1)
theorem zrx:zeB.toList.map (·.dst)=[some 36,some 37,some 38,some 39,some 40,some 41,some 42,some 43,some 44,some 45,some 46,some 47,some 48,some 49,some 50,some 51,some 52,none]:=by rw[zrQ];rfl
def lCC4 (w w3:aE)(hb g1 n1 c1:Nat)(sR:aF)(c ix clk:Int):List Value:=[.pointer (some ⟨hb,0,none⟩),.pointer (some ⟨hb,0,none⟩),.pointer (some ⟨hb,0,none⟩),.pointer (some ⟨hb,9,none⟩),sR,.int .i64 (c),.int .i64 (ix),.int .i64 (ix+1),.pointer (some ⟨hb,0,none⟩),.pointer (some ⟨hb,0,none⟩),.pointer (some ⟨hb,11,none⟩),.int .i64 (clk),.agg #[.int .i64 c,.int .i64 (ix+1),.int .i64 0,.int .i64 clk,.int .i64 (-1),.int .i64 (-1),.string eJ],.slice (some ⟨w.heap.size,0,none⟩) 1 1,.slice (some ⟨g1,0,none⟩) n1 c1,.pointer (some ⟨hb,0,none⟩),.pointer (some ⟨hb,9,none⟩),aA]
def fCC4 (w w3:aE)(hb g1 n1 c1:Nat)(sR:aF)(c ix clk:Int)(i:Nat):Value:=(lCC4 w w3 hb g1 n1 c1 sR c ix clk).getD i aA
theorem wp_CC4 (w w3:aE)(hb g1 n1 c1:Nat)(sR:aF)(c ix clk:Int)(hz:t0.size=53)(tX:t0.getD 0 aA=.pointer (some ⟨hb,0,none⟩))(Eu:t0.getD 1 aA=.int .i64 (c))(Ts:t0.getD 2 aA=.int .i64 (ix))(h9:w.cell? ⟨hb,9,none⟩=some sR)(S4:w.cell? ⟨hb,11,none⟩=some (.int .i64 clk))(ztf:0<=ix/\ix<=1000)(fH:(wG #[36,36] 36 #[sR,.slice (some ⟨w.heap.size,0,none⟩) 1 1]).run aK ((w.alloc (.cells #[.int .i64 c,.int .i64 (ix+1),.int .i64 0,.int .i64 clk,.int .i64 (-1),.int .i64 (-1),.string eJ] 107)).drew)=.ok (.slice (some ⟨g1,0,none⟩) n1 c1) w3)(aX:w3.cell? ⟨hb,9,none⟩=some sR)(mH:w3.frozen? ⟨hb,9,none⟩=false)(h0:WCC4 w w3 hb g1 n1 c1 sR c ix clk 0=w.drew)(hk:Q .normal ⟨cZ zeB (fCC4 w w3 hb g1 n1 c1 sR c ix clk) t0,d⟩ (w3.setCell ⟨hb,9,none⟩ (.slice (some ⟨g1,0,none⟩) n1 c1))):
 (Dl 4 zeB true).wp aK Q ⟨t0,d⟩ w:=by
 refine Ho (ws:=[13,14,17]) (Wd:=WCC4 w w3 hb g1 n1 c1 sR c ix clk) (vals:=fCC4 w w3 hb g1 n1 c1 sR c ix clk) vD.mixed aS aH aS h0 Ih (λV hU hV=>?_) hk;obtain⟨zEO,zwy,znm,zjk,zhG,zxo,zvO,zg8,zpx,zle,Vm,Zs,zkZ,X1,zf7,Vl,X4,-⟩:=Hn zrx hU;have e0:=(hV 0 aS).trans tX;have e1:=(hV 1 aS).trans Eu;have e2:=(hV 2 aS).trans Ts;have zug:w.drew.cell? ⟨hb,9,none⟩=some sR:=h9;have zLw:w.drew.cell? ⟨hb,11,none⟩=some (.int .i64 clk):=S4;refine λTf hT=>Hz zrQ ⟨bP.pv,bP.pv,bP.pv,bP.pv,bP.any (λkk fJ hm=>?_),bP.pv,bP.pv,bP.any (λkk fJ hm=>?_),bP.pv,bP.pv,bP.pv,bP.ld,bP.any (λkk fJ hm=>?_),bP.act (v:=V 49) 0 rfl (dU rfl) ?_,bP.act (v:=V 50) 1 rfl (dU rfl) ?_,bP.pv,bP.pv,.skp 2 rfl (dU rfl) rfl ?_,trivial⟩
 .rcases kk with _|_|_|_|kk
  .show(aO _ _).run _ (w.drew)=vT _ (w.drew);have hh:w.drew.cell? _=_:=h9;unfold aO;go_simp
  .show(aO _ _).run _ ((w.alloc (.cells #[.int .i64 c,.int .i64 (ix+1),.int .i64 0,.int .i64 clk,.int .i64 (-1),.int .i64 (-1),.string eJ] 107)).drew)=vT _ ((w.alloc (.cells #[.int .i64 c,.int .i64 (ix+1),.int .i64 0,.int .i64 clk,.int .i64 (-1),.int .i64 (-1),.string eJ] 107)).drew);have hh:=An h9 (.cells #[.int .i64 c,.int .i64 (ix+1),.int .i64 0,.int .i64 clk,.int .i64 (-1),.int .i64 (-1),.string eJ] 107);unfold aO;go_simp
  .exact absurd hm Fe
  .exact absurd hm Fe
  .simp at fJ
 .have i0:=ztf.1
  have i1:=ztf.2;unfold aO;go_simp;exact Ep aD aD
 .unfold aO;go_simp;rfl
 .rw[X1];show(aO _ _).run _ (w.drew)=vT _ ((w.alloc (.cells #[.int .i64 c,.int .i64 (ix+1),.int .i64 0,.int .i64 clk,.int .i64 (-1),.int .i64 (-1),.string eJ] 107)).drew);unfold aO;go_simp
 .rw[zf7];exact zae rfl (nK hT zhG) (nK hT X1) fH
 .have hs:=aX;have hf:=mH;show(aO _ _).run _ (w3)=vT _ (w3.setCell ⟨hb,9,none⟩ (.slice (some ⟨g1,0,none⟩) n1 c1));unfold aO;go_simp
def bodyWA:Go.Code:=(Tryd.f69.body).getD .skip
def rWA10:Go.Code:=match bodyWA with| .seq _ (.seq _ (.seq _ (.seq _ (.seq (.seq _ (.block _ (.loop (.seq _ (.seq _ (.seq (.block _ (.seq _ (.seq _ (.seq _ (.seq (a) _))))) _)))))) _))))=>a|_=>.skip
def zcY:Array Oper:=match rWA10 with| .region _ ops _=>ops|_=>#[]
def zuw:zcY.toList=[⟨some 58,.move (.tmp 0),45,"l6_office.go:227",#[],none⟩,⟨some 59,.move (.tmp 0),45,"l6_office.go:227",#[],none⟩,⟨some 60,.nilCheck (.tmp 59),0,"l6_office.go:227",#[⟨1,.data⟩],none⟩,⟨some 61,.fieldAddr 55 (.tmp 60) 6,0,"l6_office.go:227",#[⟨2,.data⟩],none⟩,⟨some 62,.load 52 (.tmp 61),52,"l6_office.go:227",#[⟨3,.data⟩],none⟩,⟨some 63,.fieldAddr 124 (.tmp 8) 0,0,"l6_office.go:227",#[],none⟩,⟨some 64,.load 3 (.tmp 63),3,"l6_office.go:227",#[⟨5,.data⟩],none⟩,⟨some 65,.buildSlice 52 1 #[(0,.tmp 64)],52,"l6_office.go:227",#[⟨6,.data⟩],none⟩,⟨some 66,.call ⟨.builtin .append,#[.tmp 62,.tmp 65],#[52,52]⟩,52,"l6_office.go:227",#[⟨4,.data⟩,⟨7,.data⟩],none⟩,⟨some 67,.nilCheck (.tmp 58),0,"l6_office.go:227",#[⟨0,.data⟩,⟨0,.phase⟩,⟨1,.phase⟩,⟨2,.phase⟩,⟨3,.phase⟩,⟨4,.phase⟩,⟨5,.phase⟩,⟨6,.phase⟩,⟨7,.phase⟩,⟨8,.phase⟩],none⟩,⟨some 68,.fieldAddr 55 (.tmp 67) 6,0,"l6_office.go:227",#[⟨9,.data⟩,⟨0,.phase⟩,⟨1,.phase⟩,⟨2,.phase⟩,⟨3,.phase⟩,⟨4,.phase⟩,⟨5,.phase⟩,⟨6,.phase⟩,⟨7,.phase⟩,⟨8,.phase⟩],none⟩,⟨none,.store 52 (.tmp 68) (.tmp 66),0,"l6_office.go:227",#[⟨10,.data⟩,⟨8,.data⟩,⟨8,.chain⟩,⟨0,.phase⟩,⟨1,.phase⟩,⟨2,.phase⟩,⟨3,.phase⟩,⟨4,.phase⟩,⟨5,.phase⟩,⟨6,.phase⟩,⟨7,.phase⟩,⟨8,.phase⟩],none⟩]:=rfl
def zpV (w w3:aE)(hb gx g1 n1 c1:Nat)(sB:aF)(c:Int):Nat->aE
 |0=>w.drew
 |1=>(w.alloc (.cells #[.int .i64 c] 3)).drew
 |2=>w3
 |_=>w3.setCell ⟨hb,8,none⟩ (.slice (some ⟨g1,0,none⟩) n1 c1)
theorem zs9:zcY.toList.map (·.dst)=[some 58,some 59,some 60,some 61,some 62,some 63,some 64,some 65,some 66,some 67,some 68,none]:=by rw[zuw];rfl
def zxt (w w3:aE)(hb gx g1 n1 c1:Nat)(sB:aF)(c:Int):List Value:=[.pointer (some ⟨hb,0,none⟩),.pointer (some ⟨hb,0,none⟩),.pointer (some ⟨hb,0,none⟩),.pointer (some ⟨hb,8,none⟩),sB,.pointer (some ⟨gx,0,none⟩),.int .i64 (c),.slice (some ⟨w.heap.size,0,none⟩) 1 1,.slice (some ⟨g1,0,none⟩) n1 c1,.pointer (some ⟨hb,0,none⟩),.pointer (some ⟨hb,8,none⟩),aA]
def zkP (w w3:aE)(hb gx g1 n1 c1:Nat)(sB:aF)(c:Int)(i:Nat):Value:=(zxt w w3 hb gx g1 n1 c1 sB c).getD i aA
theorem zAp (w w3:aE)(hb gx g1 n1 c1:Nat)(sB:aF)(c:Int)(hz:t0.size=81)(tX:t0.getD 0 aA=.pointer (some ⟨hb,0,none⟩))(zmq:t0.getD 8 aA=.pointer (some ⟨gx,0,none⟩))(h8:w.cell? ⟨hb,8,none⟩=some sB)(hx:w.cell? ⟨gx,0,none⟩=some (.int .i64 c))(fH:(wG #[52,52] 52 #[sB,.slice (some ⟨w.heap.size,0,none⟩) 1 1]).run aK ((w.alloc (.cells #[.int .i64 c] 3)).drew)=.ok (.slice (some ⟨g1,0,none⟩) n1 c1) w3)(aX:w3.cell? ⟨hb,8,none⟩=some sB)(mH:w3.frozen? ⟨hb,8,none⟩=false)(h0:zpV w w3 hb gx g1 n1 c1 sB c 0=w.drew)(hk:Q .normal ⟨cZ zcY (zkP w w3 hb gx g1 n1 c1 sB c) t0,d⟩ (w3.setCell ⟨hb,8,none⟩ (.slice (some ⟨g1,0,none⟩) n1 c1))):
 (Dl 10 zcY true).wp aK Q ⟨t0,d⟩ w:=by
 refine Ho (ws:=[7,8,11]) (Wd:=zpV w w3 hb gx g1 n1 c1 sB c) (vals:=zkP w w3 hb gx g1 n1 c1 sB c) vD.mixed aS aH aS h0 Ih (λV hU hV=>?_) hk;obtain⟨ztF,zCo,zKK,zLf,zET,zLz,zMn,zw9,zCt,zMt,zKp,-⟩:=Hn zs9 hU;have e0:=(hV 0 aS).trans tX;have e8:=(hV 8 aS).trans zmq;have zLX:w.drew.cell? ⟨hb,8,none⟩=some sB:=h8;have lH:w.drew.cell? ⟨gx,0,none⟩=some (.int .i64 c):=hx;refine λTf hT=>Hz zuw ⟨bP.pv,bP.pv,bP.pv,bP.pv,bP.any (λkk fJ hm=>?_),bP.pv,bP.ld,bP.act (v:=V 65) 0 rfl (dU rfl) ?_,bP.act (v:=V 66) 1 rfl (dU rfl) ?_,bP.pv,bP.pv,.skp 2 rfl (dU rfl) rfl ?_,trivial⟩
 .rcases kk with _|_|_|_|kk
  .show(aO _ _).run _ (w.drew)=vT _ (w.drew);have hh:w.drew.cell? _=_:=h8;unfold aO;go_simp
  .show(aO _ _).run _ ((w.alloc (.cells #[.int .i64 c] 3)).drew)=vT _ ((w.alloc (.cells #[.int .i64 c] 3)).drew);have hh:=An h8 (.cells #[.int .i64 c] 3);unfold aO;go_simp
  .exact absurd hm Fe
  .exact absurd hm Fe
  .simp at fJ
 .rw[zw9];show(aO _ _).run _ (w.drew)=vT _ ((w.alloc (.cells #[.int .i64 c] 3)).drew);unfold aO;go_simp
 .rw[zCt];exact zae rfl (nK hT zET) (nK hT zw9) fH
 .have hs:=aX;have hf:=mH;show(aO _ _).run _ (w3)=vT _ (w3.setCell ⟨hb,8,none⟩ (.slice (some ⟨g1,0,none⟩) n1 c1));unfold aO;go_simp
def bodyHG:Go.Code:=(Tryd.f66.body).getD .skip
def rHG1:Go.Code:=match bodyHG with| .seq _ (.seq (.seq (a) _) _)=>a|_=>.skip
def zdR:Array Oper:=match rHG1 with| .region _ ops _=>ops|_=>#[]
def zuT:zdR.toList=[⟨some 7,.move (.tmp 0),45,"l6_office.go:198",#[],none⟩,⟨some 8,.nilCheck (.tmp 7),0,"l6_office.go:198",#[⟨0,.data⟩],none⟩,⟨some 9,.fieldAddr 55 (.tmp 8) 3,0,"l6_office.go:198",#[⟨1,.data⟩],none⟩,⟨some 10,.load 49 (.tmp 9),49,"l6_office.go:198",#[⟨2,.data⟩],none⟩,⟨some 11,.load 3 (.tmp 3),3,"l6_office.go:198",#[],none⟩,⟨some 12,.lookup 49 (.tmp 10) (.tmp 11) false,61,"l6_office.go:198",#[⟨3,.data⟩,⟨4,.data⟩],none⟩,⟨some 13,.binOp .eql 61 (.tmp 12) (.const (.chan none)) 61,4,"l6_office.go:198",#[⟨5,.data⟩],none⟩]:=rfl
def WHG1 (w:aE)(hb gx mO:Nat)(c:Int)(q:Option Nat):Nat->aE
 |_=>w.drew
theorem ziy:zdR.toList.map (·.dst)=[some 7,some 8,some 9,some 10,some 11,some 12,some 13]:=by rw[zuT];rfl
def lHG1 (w:aE)(hb gx mO:Nat)(c:Int)(q:Option Nat):List Value:=[.pointer (some ⟨hb,0,none⟩),.pointer (some ⟨hb,0,none⟩),.pointer (some ⟨hb,5,none⟩),.map (some mO),.int .i64 (c),.chan q,.bool (q==none)]
def zfh (w:aE)(hb gx mO:Nat)(c:Int)(q:Option Nat)(i:Nat):Value:=(lHG1 w hb gx mO c q).getD i aA
theorem zqB (w:aE)(hb gx mO:Nat)(c:Int)(q:Option Nat)(hz:t0.size=59)(tX:t0.getD 0 aA=.pointer (some ⟨hb,0,none⟩))(zlp:t0.getD 3 aA=.pointer (some ⟨gx,0,none⟩))(h5:w.cell? ⟨hb,5,none⟩=some (.map (some mO)))(hx:w.cell? ⟨gx,0,none⟩=some (.int .i64 c))(wN:(yP 49 (.map (some mO)) (.int .i64 c) false).run aK w.drew=.ok (.chan q) w.drew)(h0:WHG1 w hb gx mO c q 0=w.drew)(hk:Q .normal ⟨cZ zdR (zfh w hb gx mO c q) t0,d⟩ (w.drew)):
 (Dl 1 zdR true).wp aK Q ⟨t0,d⟩ w:=by
 refine Ho (ws:=[]) (Wd:=WHG1 w hb gx mO c q) (vals:=zfh w hb gx mO c q) vD.mixed aS aH aS h0 Ih (λV hU hV=>?_) hk;obtain⟨e7,e8,e9,ze7,ziZ,ze5,ziq,-⟩:=Hn ziy hU;have e0:=(hV 0 aS).trans tX;have e3:=(hV 3 aS).trans zlp;have zA6:w.drew.cell? ⟨hb,5,none⟩=some (.map (some mO)):=h5;have lH:w.drew.cell? ⟨gx,0,none⟩=some (.int .i64 c):=hx;refine λTf hT=>Hz zuT ⟨bP.pv,bP.pv,bP.pv,bP.ld,bP.ld,bP.ld (hx:=zmr rfl (nK hT ze7) (nK hT ziZ) wN),bP.any (λkk fJ hm=>?_),trivial⟩
 .exact zIX rfl Q6 (nK hT ze5) rfl
end Go.Proofs.YtfcjiloojkjaeaaDoor
namespace Go.Proofs.YtfcjiloojkjaeaaDoor
open Go.RowKit
def B4 (v v':fC):Prop:=v'.sL=v.sL/\v'.sQ=v.sQ/\v'.sW=v.sW/\v'.sB=v.sB/\v'.sA=v.sA/\v'.sT=v.sT
def B4.rf (v:fC):B4 v v:=⟨rfl,rfl,rfl,rfl,rfl,rfl⟩
def zwe:aK.underlying 53=some (.map 3 3):=aS
def Ry:aK.underlying 49=some (.map 3 61):=aS
def zpn:aK.underlying 48=some (.map 61 3):=aS
variable {w:aE}{lo hb i:Nat}{v:fC}{d:nF}{x:bR}
theorem zg4 (h:bE w lo hb v d)(hx:d.r.recs[i]? =some x):∃g c,v.sR=.slice (some ⟨g,0,none⟩) d.r.recs.length c:=by
 have hi:=(jW.1 hx).1;rcases h.R.2 with⟨_,h0⟩|⟨g,cap,cur,e,_⟩
 .omega
 .exact⟨g,cap,e⟩
variable {c:Int}{g cR:Nat}
theorem zd5 (h:bE w lo hb v d)(hR:v.sR=.slice (some ⟨g,0,none⟩) d.r.recs.length cR)(hx:d.r.recs[i]? =some x)(hc:kQ c v.pM=some (.int .i64 (i:Int))):
 iE aK 78 #[.pointer (some ⟨hb,0,none⟩),.int .i64 c] w λe w'=>e=.returned (.pointer (some ⟨g,i*7,none⟩))/\w'=w.drew:=by
 have hi:=(jW.1 hx).1;have k0:=aJ h.blk 9;have k1:w.cell? ⟨hb,9,none⟩=some (.slice (some ⟨g,0,none⟩) d.r.recs.length cR):=by rw[k0,<-hR];rfl
 have k2:w.cell? ⟨hb,10,none⟩=some (.map (some v.mM)):=aJ h.blk 10;have hl:(yP 53 (.map (some v.mM)) (.int .i64 c) false).run aK w.drew=.ok (.int .i64 (i:Int)) w.drew:=by
  have:=za6 zwe Kv (zjc w.drew) (h.drew.M) (c:=c) false;rw[hc] at this;exact this
 have HL:=aC hl;clear k0 hR hc h hx hl
 go_enter Tryd.func78,Tryd.ntmps78
 go_wp2_with fail
 refine wp_RF1 w hb g d.r.recs.length cR v.mM i c rfl rfl rfl k1 k2 HL.o hi rfl ?_;rw[Go.Mt.zY,zt2];simp only[Go.Mt.wO,dV,dX,fRF1,lRF1,C4,Cm]
 go_wp2_with fail
 go_ret;exact⟨rfl,rfl⟩
theorem zEb (rs:List bR)(x:bR):recs (rs++[x])=recs rs++x.cells:=by simp[recs]
def zFs:(aK.info? 107).map (λi=>(i.zero,i.size,i.bytes))=some (some (.agg #[.int .i64 0,.int .i64 0,.int .i64 0,.int .i64 0,.int .i64 0,.int .i64 0,.string ⟨#[]⟩]),7,64):=aS
variable {xs:List aF}{cs:Array aF}
theorem L5 {lo E n m sz bytes t ty:Nat}{v:aF}{news:List aF}{z:aF}(zCI:(aK.info? E).map (λi=>(i.zero,i.size,i.bytes))=some (some z,sz,bytes))(hu:aK.underlying t=some (.slice E))(hzs:z.cells.size=sz)(cH:0<sz)
 (h:w.ownsRow lo E sz v n xs)   (hg:w.heap[g]? =some (.cells cs E)) (fP:cs.toList=news) (hl:news.length=m*sz) (hm:0<m) (h1:∀u∈news,u.oneCell'=true) (hn:n+m<=1000000) (hb:bytes<=1000) (dY:lo<=w.heap.size):
 ∃g1 c1 w',(wG #[t,t] ty #[v,.slice (some ⟨g,0,none⟩) m m]).run aK w=.ok (.slice (some ⟨g1,0,none⟩) (n+m) c1) w'/\w'.ownsRow lo E sz (.slice (some ⟨g1,0,none⟩) (n+m) c1) (n+m) (xs++news)/\w.grownBy w' v.ownBlock/\
  ((Sm (some ⟨g1,0,none⟩) (n+m) c1).ownBlock=v.ownBlock\/∀b,(Sm (some ⟨g1,0,none⟩) (n+m) c1).ownBlock=some b->w.heap.size<=b):=by
 obtain⟨i0,hi,jJ,eE,kZ⟩:=y3 zCI;have zMd:(n+m)*bytes<=1000000*1000:=Nat.mul_le_mul hn hb;obtain⟨v',w',hr,h2,h3,h4,h5⟩:=run_append_own_at (P:=aK) w lo t ty E i0 z sz bytes hu hi jJ eE kZ hzs cH v n xs h ⟨g,0,none⟩ m m news hl (Em (cs:=cs) hg|>λf=>by rw[<-fP];exact f) h1 V8 aD dY;obtain⟨g1,c1,rfl⟩:=zmM h2 (λe=>by have:=(h4.1 e).2;omega);refine⟨g1,c1,w',hr,h2,h3,?_⟩;rcases h5 with h5|h5
 .exact .inl h5
 .refine .inr λb hb=>?_
  rw[h5] at hb;injection hb with hb;omega
theorem zss (h:bE w lo hb v d)(dY:lo<=w.heap.size)(hg:d.ln[i]? =some g)(hi:i<=100)(hn:d.r.recs.length<=1000)(c:Int):
 iE aK 73 #[.pointer (some ⟨hb,0,none⟩),.int .i64 c,.int .i64 (i:Int)] w λe w'=>e=.returned (.tuple #[])/\∃v',bE w' lo hb v' {d with r:={d.r with recs:=d.r.recs++[⟨c,(i:Int)+1,0,d.r.clk,-1,-1,eJ⟩]}}/\bL hb v w v' w'/\
  v'.pC=uM g (.int .i64 c) v.pC/\v'.pO=pX c (.chan (some g)) v.pO/\v'.pM=pX c (.int .i64 (d.r.recs.length:Int)) v.pM/\B4 v v':=by
 obtain⟨A,cL,hA,hs⟩:=Fo h.L aH;have Bw:i<d.ln.length:=(jW.1 hg).1;obtain⟨b,off,g',rfl,wA,hv⟩:=zer hs Bw;rw[hg] at wA;obtain rfl:=cD wA;have Wl:=aJ h.blk 3;have k3:w.cell? ⟨hb,3,none⟩=some (.slice (some ⟨b,off,none⟩) d.ln.length cL):=by rw[Wl,<-hA];rfl
 have k4:=aJ h.blk 4;have i0:(0:Int)<=(i:Int):=aD;have i1:(i:Int)<(d.ln.length:Int):=aD;have HH:=aC h;have HC:=aC h.C;clear hA hs hg Wl h
 go_enter Tryd.func73,Tryd.ntmps73
 go_upto_region 1 with fail
 clear k3 hv
 go_upto_region 2 with(at_mapUpdate;refine zA5 _ rfl (.tmp 17) (.tmp 18) (.tmp 19) 48 rfl 3 zpn Q6 v.mC g (.int .i64 c) v.pC rfl rfl rfl HC.o ?_;intro w2 o2 fQ Zl;have Q1:=aC fQ;have Ql:=aC Zl;clear fQ Zl)
 have nI:=Ql.o;rw[Q1.o] at nI;obtain⟨a2,t2⟩:=HH.o.mapC nI;rw[<-Q1.o] at a2 t2;obtain⟨v2,sO⟩:=aU ({v with pC:=uM g (.int .i64 c) v.pC}:fC);rw[<-sO] at a2 t2;have e2:v2.pC=uM g (.int .i64 c) v.pC/\v2.pO=v.pO/\v2.pM=v.pM/\B4 v v2:=by rw[sO];exact⟨rfl,rfl,rfl,B4.rf v⟩
 have zc7:lo<=w2.heap.size:=eP dY t2.size;clear sO nI Ql Q1 HC k4;have k5:=aJ a2.blk 5;have HO:=aC a2.O;have A2:=aC a2;have T2:=aC t2;have E2:=aC e2;clear a2 t2 e2
 go_upto_region 3 with(at_mapUpdate;refine zFj _ rfl (.tmp 23) (.tmp 24) (.tmp 25) 49 rfl 61 Ry Kv v2.mO c (.chan (some g)) v2.pO rfl rfl rfl HO.o ?_;intro w3 o3 iM zus;have Qy:=aC iM;have zsy:=aC zus;clear iM zus)
 have zhS:=zsy.o;rw[Qy.o] at zhS;obtain⟨a3,t3⟩:=A2.o.mapO zhS;rw[<-Qy.o] at a3 t3;obtain⟨v3,Fg⟩:=aU ({v2 with pO:=pX c (.chan (some g)) v2.pO}:fC);rw[<-Fg] at a3 t3;have e3:v3.pC=uM g (.int .i64 c) v.pC/\v3.pO=pX c (.chan (some g)) v.pO/\v3.pM=v.pM/\B4 v v3:=by rw[Fg];exact⟨E2.o.1,by show pX _ _ v2.pO=_;rw[E2.o.2.1],E2.o.2.2⟩
 have zpA:lo<=w3.heap.size:=eP zc7 t3.size;have zoV:=T2.o.trans t3;clear Fg zhS zsy Qy HO k5 A2 T2 E2 t3;obtain⟨AR,cR,zpt,_⟩:=Fo a3.R aH;have zql:=aJ a3.blk 9;have k9:w3.cell? ⟨hb,9,none⟩=some (.slice AR d.r.recs.length cR):=by rw[zql,<-zpt];rfl
 have zti:w3.cell? ⟨hb,10,none⟩=some (.map (some v3.mM)):=aJ a3.blk 10;obtain⟨es,cl,J1,q8⟩:=ztp zwe Kv a3.drew.M (c:=c) (.int .i64 (d.r.recs.length:Int));obtain⟨a4,t4⟩:=a3.drew.mapM q8;have A4:=aC a4;have T4:=aC (zoV.trans ((bL.refl (v:=v3) (w:=w3)).trans (⟨t4.size,t4.block,t4.moved⟩:bL hb v3 w3 _ _)));have MU:=aC J1;have E3:=aC e3;clear zpt zql q8 a3 a4 t4 J1 zoV e3;refine wp_CC3 w3 hb v3.mM d.r.recs.length v3.sR AR cR (.map es cl) c rfl rfl rfl zti k9 MU.o rfl ?_;rw[Go.Mt.zY,zpS];simp only[Go.Mt.wO,dV,dX,fCC3,lCC3,C4,Cm];obtain⟨w4,lG⟩:=aU ({w3.drew with heap:=w3.drew.heap.setIfInBounds v3.mM (.map es cl)}:aE);rw[<-lG] at A4 T4⊢;have zLh:lo<=w4.heap.size:=eP dY T4.o.size;clear lG MU k9 zti;obtain⟨v4,Gr⟩:=aU ({v3 with pM:=pX c (.int .i64 (d.r.recs.length:Int)) v3.pM}:fC);rw[<-Gr] at A4 T4;have E4:=aC (show v4.pC=uM g (.int .i64 c) v.pC/\v4.pO=pX c (.chan (some g)) v.pO/\v4.pM=pX c (.int .i64 (d.r.recs.length:Int)) v.pM/\B4 v v4 by rw[Gr];exact⟨E3.o.1,E3.o.2.1,by show pX _ _ v3.pM=_;rw[E3.o.2.2.1],E3.o.2.2.2⟩);clear Gr E3;obtain⟨OB,Ze⟩:=aU (.cells #[.int .i64 c,.int .i64 ((i:Int)+1),.int .i64 0,.int .i64 d.r.clk,.int .i64 (-1),.int .i64 (-1),.string eJ] 107:Obj);have a5:=(A4.o.alloc OB).drew;obtain⟨g1,c1,w5,fH,cP,mU,eY⟩:=L5 (t:=36) (ty:=36) zFs Tryd.underlying36 rfl aH a5.R (g:=w4.heap.size) (cs:=#[.int .i64 c,.int .i64 ((i:Int)+1),.int .i64 0,.int .i64 d.r.clk,.int .i64 (-1),.int .i64 (-1),.string eJ]) (news:=bR.cells ⟨c,(i:Int)+1,0,d.r.clk,-1,-1,eJ⟩) (by rw[Ze];exact lO _ _) rfl (m:=1) rfl aH zlR aD aH rF;obtain⟨a6,t6⟩:=a5.putR mU (n:=d.r.recs.length+1) (xs:=d.r.recs++[⟨c,(i:Int)+1,0,d.r.clk,-1,-1,eJ⟩]) (by rw[zEb];exact cP) aQ eY;have A6:=aC a6;have T6:=aC (T4.o.trans ((bL.below (dO (eR _ _) OB)).trans (⟨t6.size,t6.block,t6.moved⟩:bL hb v4 (w4.alloc OB) _ _)));have k9:w4.cell? ⟨hb,9,none⟩=some v4.sR:=aJ A4.o.blk 9;have Dx:w4.cell? ⟨hb,11,none⟩=some (.int .i64 d.r.clk):=aJ A4.o.blk 11;have xU:w5.heap[hb]? =some (J9 v4 d):=(a5.other (j:=7) (c:=9) (x:=v4.sR) rfl aH mU (.slice (some ⟨g1,0,none⟩) (d.r.recs.length+1) c1)).2.trans a5.blk;have zw0:=aJ xU 9;have kf:=eL xU 9;have AP:=aC fH;clear cP mU eY a6 t6 a5 xU fH;rw[Ze] at AP
 go_wp2_with fail
 refine wp_CC4 w4 w5 hb g1 (d.r.recs.length+1) c1 v4.sR c (i:Int) d.r.clk rfl rfl rfl rfl k9 Dx aD AP.o zw0 kf rfl ?_;rw[Go.Mt.zY,zrx];simp only[Go.Mt.wO,dV,dX,fCC4,lCC4,C4,Cm];clear k9 Dx AP zw0 kf;exact bodyPost_end (v:=.tuple #[]) (by simp[results,go_sem]<;>rfl) rfl ⟨rfl,_,A6.o,T6.o,E4.o⟩
variable {j:Nat}
theorem bE.recAt (h:bE w lo hb v d)(hR:v.sR=.slice (some ⟨g,0,none⟩) d.r.recs.length cR)(hx:d.r.recs[i]? =some x){u:aF}(hj:j<7)(hu:x.cells[j]? =some u):
 w.cell? ⟨g,i*7+j,none⟩=some u/\w.frozen? ⟨g,i*7+j,none⟩=false:=by
 have hr:=h.R;rw[hR] at hr;refine⟨?_,hr.frozenAt _⟩;have hi:=(jW.1 hx).1;obtain⟨b,off,e,h1,h2,h3,h4⟩:=(zQ hr aH).cells hi;injection e with e;injection e with e1 e2;subst e1 e2;have:=h4 j u (by
  have g:(recs d.r.recs)[i*7+j]? =(d.r.recs[i]?).bind λx=>x.cells[j]? :=H4 bR.cells (s:=7) (λ_=>rfl) d.r.recs i j hj;rw[g,hx];exact hu)
 simpa using this
theorem zlF (h:bE w lo hb v d){e:ByteArray}{gR:Nat}(hx:d.r.recs[i]? =some x)(hO:kQ c v.pO=some (.chan (some g)))(hC:(o6 g v.pC).isSome=true)(hM:kQ c v.pM=some (.int .i64 (i:Int)))
 (hR:v.sR=.slice (some ⟨gR,0,none⟩) d.r.recs.length cR):
 iE aK 79 #[.pointer (some ⟨hb,0,none⟩),.int .i64 c,.string e] w λen w'=>en=.returned (.tuple #[])/\∃v',bE w' lo hb v' {d with r:={d.r with recs:=d.r.recs.modify i λz=>{z with t:=d.r.clk,e:=e}}}/\bL hb v w v' w'/\
  v'.pC=yC g v.pC/\v'.pO=xE c v.pO/\v'.pM=v.pM/\v'.sR=v.sR/\B4 v v':=by
 have k4:w.cell? ⟨hb,4,none⟩=some (.map (some v.mC)):=aJ h.blk 4;have k5:w.cell? ⟨hb,5,none⟩=some (.map (some v.mO)):=aJ h.blk 5;have wN:(yP 49 (.map (some v.mO)) (.int .i64 c) false).run aK w.drew=.ok (.chan (some g)) w.drew:=by
  have:=za6 Ry Kv (zaK w.drew) (h.drew.O) (c:=c) false;rw[hO] at this;exact this
 obtain⟨o1,uL,q8⟩:=zz4 (kt:=61) zpn Q6 h.drew.C hC;obtain⟨a1,t1⟩:=h.drew.mapC q8;have A1:=aC a1;have T1:=aC (⟨t1.size,t1.block,t1.moved⟩:bL hb v w _ _);have HX:=aC hx;have HM:=aC hM;have HR:=aC hR;have HO:=aC hO;have DL:=aC uL;have LK:=aC wN;clear uL wN q8 a1 t1 hx hM hR hO h hC
 go_enter Tryd.func79,Tryd.ntmps79
 go_wp2_with fail
 refine wp_CL0 w hb v.mC v.mO g o1 c rfl rfl rfl k4 k5 LK.o DL.o rfl ?_;rw[Go.Mt.zY,znO];simp only[Go.Mt.wO,dV,dX,fCL0,lCL0,C4,Cm];obtain⟨w1,eT⟩:=aU ({w.drew with heap:=w.drew.heap.setIfInBounds v.mC o1}:aE);obtain⟨v1,mJ⟩:=aU ({v with pC:=yC g v.pC}:fC);rw[<-eT,<-mJ] at A1 T1;rw[<-eT];have E1:=aC (show v1.pC=yC g v.pC/\v1.pO=v.pO/\v1.pM=v.pM/\v1.sR=v.sR/\B4 v v1 by rw[mJ];exact⟨rfl,rfl,rfl,rfl,B4.rf v⟩);clear eT mJ k4 k5 DL LK;have k5:w1.cell? ⟨hb,5,none⟩=some (.map (some v1.mO)):=aJ A1.o.blk 5;have Yb:=aC A1.o.O;have znP:=aC (show(kQ c v1.pO).isSome=true by rw[E1.o.2.1,HO.o];rfl)
 go_upto_region 2 with(refine zCT _ rfl (.tmp 20) (.tmp 21) 49 3 rfl 61 Ry Kv v1.mO c v1.pO rfl rfl Yb.o znP.o ?_;intro w2 o2 fQ Zl;have Q1:=aC fQ;have Ql:=aC Zl;clear fQ Zl)
 have nI:=Ql.o;rw[Q1.o] at nI;obtain⟨a2,t2⟩:=A1.o.mapO nI;rw[<-Q1.o] at a2 t2;obtain⟨v2,sO⟩:=aU ({v1 with pO:=xE c v1.pO}:fC);rw[<-sO] at a2 t2;have A2:=aC a2;have T2:=aC (T1.o.trans t2);have E2:=aC (show v2.pC=yC g v.pC/\v2.pO=xE c v.pO/\v2.pM=v.pM/\v2.sR=v.sR/\B4 v v2 by rw[sO];exact⟨E1.o.1,by show xE c v1.pO=_;rw[E1.o.2.1],E1.o.2.2⟩);clear sO nI Ql Q1 Yb znP a2 t2 k5 A1 T1 E1;have lC:=aC (E2.o.2.2.2.1.trans HR.o);have zBz:=aC (show kQ c v2.pM=some (.int .i64 (i:Int)) by rw[E2.o.2.2.1];exact HM.o)
 go_upto_region 3 with(go_at_call 78;refine(zd5 A2.o lC.o HX.o zBz.o).mono ?_;rintro en w3 ⟨rfl,iM⟩;have Qy:=aC iM;clear iM)
 have A3:=aC (show bE w3 lo hb v2 d by rw[Qy.o];exact A2.o.drew);have T3:=aC (show bL hb v w v2 w3 by rw[Qy.o];exact T2.o.same rfl);clear Qy A2 T2;have Dx:w3.cell? ⟨hb,11,none⟩=some (.int .i64 d.r.clk):=aJ A3.o.blk 11;obtain⟨c5,f5⟩:=A3.o.recAt lC.o HX.o (j:=5) (u:=.int .i64 x.t) aH rfl;obtain⟨a4,t4⟩:=A3.o.setR (λz=>{z with t:=d.r.clk}) lC.o HX.o (j:=5) (u:=.int .i64 d.r.clk) aH zwl rfl;have A4:=aC a4;have T4:=aC (T3.o.trans t4);clear a4 t4
 go_upto_region 4 with fail
 obtain⟨w4,lG⟩:=aU (w3.setCell ⟨gR,i*7+5,none⟩ (.int .i64 d.r.clk));rw[<-lG] at A4 T4⊢;clear lG c5 f5 Dx;have zaN:=aC (show(d.r.recs.modify i λz=>{z with t:=d.r.clk})[i]? =some {x with t:=d.r.clk} from zcw HX.o);have zwV:=aC (show v2.sR=.slice (some ⟨gR,0,none⟩) (d.r.recs.modify i λz=>{z with t:=d.r.clk}).length cR by rw[Gj];exact lC.o);obtain⟨c6,f6⟩:=A4.o.recAt zwV.o zaN.o (j:=6) (u:=.string x.e) aH rfl;obtain⟨a5,t5⟩:=A4.o.setR (λz=>{z with e:=e}) zwV.o zaN.o (j:=6) (u:=.string e) aH zoT rfl;simp only[zgF] at a5;have A5:=aC a5;have T5:=aC (T4.o.trans t5);clear a5 t5
 go_wp2_with fail
 exact bodyPost_end (v:=.tuple #[]) (results_none rfl _ _ _) rfl ⟨rfl,_,A5.o,T5.o,E2.o.1,E2.o.2.1,E2.o.2.2.1,E2.o.2.2.2.1,E2.o.2.2.2.2⟩
section
variable {P:bS}{w w':aE}
variable {elem t:aM}{i:TypeInfo}{cur:Array aF}
theorem zcO {dT sT ty:aM}{g o zlU zzr:Nat}{a:bO}{zbj zzU:Nat}{cs:List aF}(hu:P.underlying dT=some (.slice elem))(hi:P.info? elem=some i)
 (hg:w.heap[g]? =some (.cells cur t (0,0))) (hn:cs.length=Nat.min zbj zlU*i.size) (Qq:∀j v,cs[j]? =some v->w.cell? (a.add j)=some v) (H7:o+cs.length<=cur.size) (h1:∀v∈cs,v.oneCell'=true):
 (C8 #[dT,sT] ty #[.slice (some ⟨g,o,none⟩) zlU zzr,.slice (some a) zbj zzU]).run P w=.ok (goInt (Nat.min zbj zlU)) (w.setRow g (cur.toList.take o++cs++cur.toList.drop (o+cs.length)).toArray):=by
 have hl:=run_loadCells_list (P:=P) w a cs Qq;have aX:=zwt P g o t cs 0 cur w hg (by simpa using H7) h1;simp[C8,wU hu,Builtin.lenOf,Builtin.firstCells,sizeOf,typeInfo,hi,<-hn,hl,aX]
theorem zmX {dT ty:aM}{z:aF}{g o n c:Nat}(hu:P.underlying dT=some (.slice elem))(hi:P.info? elem=some i)(hz:i.zero=some z)
 (hg:w.heap[g]? =some (.cells cur t (0,0))) (hn:n≠0) (H7:o+(pS z.cells n).size<=cur.size) (h1:∀v∈(pS z.cells n).toList,v.oneCell'=true):
 (Qn #[dT] ty #[.slice (some ⟨g,o,none⟩) n c]).run P w=.ok (.tuple #[]) (w.setRow g (cur.toList.take o++(pS z.cells n).toList++cur.toList.drop (o+(pS z.cells n).size)).toArray):=by
 have aX:=zwt P g o t (pS z.cells n).toList 0 cur w hg (by simpa using H7) h1;simp only[Ra,De] at aX
 cases n with
 |zero=>exact absurd rfl hn
 |succ n=>simp[Qn,wU hu,zeroValue,typeInfo,hi,hz,aX]
variable {o:aY}{a:Act}{ops:Array aY}
theorem zdv {K:Act->aE->Prop}{Q:nQ->Act->aE->Prop}{EE:Prop}(Dn:o.guard=none)(s x:cM)(t tn:aM)(ho:o.op=.call {callee:=.builtin .append,args:=#[s,x],argTypes:=#[t,tn]})(vs vx v':aF)(hs:a.eval s=vs)(hx:a.eval x=vx)
 (hr:∀ty,(wG #[t,tn] ty #[vs,vx]).run P w=.ok v' w') (h:K (a.put o.dst v') w'):if dA o (yielded ops a.tmps)=true then Ay P o a w K Q else EE:=by
 rw[if_pos (by simp[dA,Dn])];unfold Ay aO;simp only[ho,resolve,invoke,builtin,D5,Ib,D8,uG,fG,tH,hs,hx,hr];exact h
theorem Zo {rest:List aY}{Q:nQ->Act->aE->Prop}(Dn:o.guard=none)(s:cM)(t:aM)(ho:o.op=.call {callee:=.builtin .clear,args:=#[s],argTypes:=#[t]})(vs:aF)(hs:a.eval s=vs)
 (hr:∀ty,(Qn #[t] ty #[vs]).run P w=.ok (.tuple #[]) w') (h:wpList P ops Q rest (a.put o.dst (.tuple #[])) w'):wpList P ops Q (o::rest) a w:=by
 refine Tb Dn λK hK=>?_;unfold Ay aO;simp only[ho,resolve,invoke,builtin,D5,Ib,D8,uG,fG,tH,hs,hr];exact hK _ _ h
end
def zbO:(aK.info? 3).map (λi=>(i.zero,i.size,i.bytes))=some (some (.int .i64 0),1,8):=aS
def zcg:(aK.info? 124).map (λi=>(i.zero,i.size,i.bytes))=some (some (.agg #[.int .i64 0,.int .i64 0]),2,16):=aS
theorem zaM (cs:Array aF):w.grownBy (w.setRow g cs) (some g):=⟨rfl,rfl,rfl,aQ,λk _ hk=>setRow_other w g k _ (λe=>hk (by rw[e]))⟩
variable {w':aE}{r:Option Nat}
def Qj {Ef:aE}(h:w.grownBy w' r)(k:w'.grownBy Ef r):w.grownBy Ef r:=⟨k.os.trans h.os,k.tape.trans h.tape,k.output.trans h.output,eP h.size k.size,λb hb hn=>(k.block b (lA hb h.size) hn).trans (h.block b hb hn)⟩
def zvL :w.grownBy w.drew r:=⟨rfl,rfl,rfl,aZ _,λ_ _ _=>rfl⟩
variable {c n:Nat}
theorem zts (h:w.ownsRow lo 3 1 (.slice (some ⟨g,0,none⟩) n c) n xs)(G7:∀u∈xs,u.oneCell'=true)(aP:i<j)(hj:j<=n):
 iE aK 77 #[.slice (some ⟨g,0,none⟩) n c,.int .i64 (i:Int),.int .i64 (j:Int)] w λe w'=>e=.returned (.slice (some ⟨g,0,none⟩) (n-(j-i)) c)/\w'.ownsRow lo 3 1 (.slice (some ⟨g,0,none⟩) (n-(j-i)) c) (n-(j-i)) (xs.take i++xs.drop j)/\w.grownBy w' (some g):=by
 obtain⟨hlen,h|⟨g',cap,cur,hv,dY,hg,Wu,q8,fP,lI⟩⟩:=h
 .exact absurd h.1 aQ
 injection hv with e1 e2 e3;injection e1 with e1;injection e1 with e1;subst e1 e3;clear e2;obtain⟨i0,fL,jJ,eE,kZ⟩:=y3 zbO;have mF:cur.toList.length=c*1:=by simpa using fP
 have uL:(xs.drop (j*1)).length=(n-j)*1:=by rw[xS,hlen];omega
 obtain⟨A,hA,Qq⟩:∃A:bO,(if c=j then(some (⟨g,0,none⟩:bO)) else some ⟨g,j*1,none⟩)=some A/\(∀t u,(xs.drop (j*1))[t]? =some u->w.drew.cell? (A.add t)=some u):=by
  have cell:∀k u,xs[k]? =some u->w.drew.cell? ⟨g,k,none⟩=some u:=λk u hk=>by
   have:w.cell? ⟨g,k,none⟩=cur[k]? :=aJ hg k;have uU:cur.toList[k]? =some u:=by
    rw[<-lI,Uz] at hk;split at hk
    .exact hk
    .cases hk
   rw[zR] at uU;exact this.trans uU
  by_cases hc:c=j
  .refine⟨⟨g,0,none⟩,by simp[hc],λt u hu=>?_⟩
   have h0:(xs.drop (j*1)).length=0:=by rw[uL];omega
   rw[zqe.1 h0] at hu;simp at hu
  .refine⟨⟨g,j*1,none⟩,by simp[hc],λt u hu=>?_⟩
   rw[Vf] at hu;rw[Jt];exact cell _ u hu
 have J3:=λty=>zs0 (P:=aK) w.drew 52 ty 3 i0 Xd fL g i c cur hg A (n-j) (c-j) (xs.drop (j*1)) (by rw[eE];exact uL) Qq (λu hu=>G7 u (zcI hu)) aD (by rw[eE,uL,fP];omega);obtain⟨xL,pY⟩:=aU ((cur.toList.take (i*i0.size)++xs.drop (j*1)++cur.toList.drop (i*i0.size+(xs.drop (j*1)).length)).toArray);rw[<-pY] at J3;obtain⟨W1,dC⟩:=aU (w.drew.setRow g xL);rw[<-dC] at J3;have qX:W1.heap[g]? =some (.cells xL 3 (0,0)):=by rw[dC];exact Jb w.drew g cur xL 3 (0,0) hg
 have vU:xL.size=c*1:=by
  rw[pY];simp only[Ec,gJ,rJ,xS,mF,uL,hlen,eE];have:(i+(n-j))*1<=c*1:=zT _ aD;omega
 have hzs:(pS (.int .i64 0:aF).cells (n-(i+(n-j)))).size=(n-(i+(n-j)))*1:=Xz _ _;have O4:=λty=>zmX (P:=aK) (w:=W1) (dT:=52) (ty:=ty) (c:=c-(i+(n-j))) (n:=n-(i+(n-j))) (o:=(i+(n-j))*1) Xd fL jJ qX aD (by rw[hzs,vU];omega) (λu hu=>by
  obtain⟨k,hk,rfl⟩:=Kh.1 hu;simp only[pS,Rh,zmu,zj6,zh5];simp[Nat.mod_one];rfl)
 obtain⟨yG,nI⟩:=aU ((xL.toList.take ((i+(n-j))*1)++(pS (.int .i64 0:aF).cells (n-(i+(n-j)))).toList++xL.toList.drop ((i+(n-j))*1+(pS (.int .i64 0:aF).cells (n-(i+(n-j)))).size)).toArray);rw[<-nI] at O4
 try simp only[zqE] at J3 O4
 have H1:=aC J3;have H2:=aC O4;have HG:=aC (show w.grownBy (W1.setRow g yG) (some g) from Qj (Qj zvL (dC▸zaM xL)) (zaM yG));have HO:=aC (show(W1.setRow g yG).ownsRow lo 3 1 (.slice (some ⟨g,0,none⟩) (n-(j-i)) c) (n-(j-i)) (xs.take (i*1)++xs.drop (j*1)) by
  have Br:n-(j-i)=i+(n-j):=aD;have Ap:yG.size=c*1:=by
   rw[nI];simp only[Ec,gJ,rJ,xS,De,vU,hzs];have:(i+(n-j))*1+(n-(i+(n-j)))*1=n*1:=by rw[<-Xs];congr 1;omega
   have:n*1<=c*1:=zT _ Wu;omega
  refine⟨by rw[gJ,rJ,uL,hlen];have:=Xs i (n-j) 1;have:i*1<=n*1:=zT _ aD;rw[Br];omega,.inr ⟨g,c,yG,rfl,dY,Jb W1 g xL yG 3 (0,0) qX,aD,q8,Ap,?_⟩⟩;have e1:cur.toList.take (i*1)=xs.take (i*1):=by
   rw[<-lI,Nv];congr 1;have:i*1<=n*1:=zT _ aD;omega
  have l1:(xs.take (i*1)).length=i*1:=by
   rw[rJ,hlen];have:i*1<=n*1:=zT _ aD;omega
  rw[nI,show∀l:List aF,l.toArray.toList=l from λ_=>rfl,Br];have l2:(xL.toList.take ((i+(n-j))*1)).length=(i+(n-j))*1:=by
   rw[rJ,De,vU];have:(i+(n-j))*1<=c*1:=zT _ aD;omega
  rw[G8,Dp (by rw[l2];exact aZ _),Nv,ziD,pY,show∀l:List aF,l.toArray.toList=l from λ_=>rfl,eE,e1];rw[Dp zxi];exact yR zxi)
 replace HO:=aC (by have:=HO.o;simpa only[zqE] using this);have yB:i<=c:=aD;have Md:j<=c:=aD;have aT:¬((i:Int)=(j:Int)):=aD;clear J3 O4 pY nI qX vU hzs dC lI fP q8 hg dY hlen uL mF G7 Qq;by_cases zdO:c=j
 .subst zdO
  have pD:n-c=0:=aD;have y6:=H1.o;have Ov:=H2.o;simp only[pD,Ra] at y6 Ov;replace H1:=aC y6;replace H2:=aC Ov;clear y6 Ov
  go_enter zrr,zt4
  go_wp2_with fail
  go_region_law (refine zdv rfl (.tmp 22) (.tmp 25) 52 52 rfl _ _ _ zdb zgd H1.o ?_)
  go_wp2_with (refine Zo rfl (.tmp 31) 52 rfl _ rfl H2.o ?_)
  all_goals
   go_ret;exact⟨by rw[show n-(c-i)=i by omega];rfl,HO.o,HG.o⟩
 .skip
  go_enter zrr,zt4
  go_wp2_with fail
  go_region_law (refine zdv rfl (.tmp 22) (.tmp 25) 52 52 rfl _ _ _ zdb zgd H1.o ?_)
  go_wp2_with (refine Zo rfl (.tmp 31) 52 rfl _ rfl H2.o ?_)
  all_goals
   go_ret;exact⟨by rw[show n-(j-i)=i+(n-j) by omega];rfl,HO.o,HG.o⟩
theorem zF2 (h:w.ownsRow lo 124 2 (.slice (some ⟨g,0,none⟩) n c) n xs)(G7:∀u∈xs,u.oneCell'=true)(aP:i<j)(hj:j<=n):
 iE aK 82 #[.slice (some ⟨g,0,none⟩) n c,.int .i64 (i:Int),.int .i64 (j:Int)] w λe w'=>e=.returned (.slice (some ⟨g,0,none⟩) (n-(j-i)) c)/\w'.ownsRow lo 124 2 (.slice (some ⟨g,0,none⟩) (n-(j-i)) c) (n-(j-i)) (xs.take (i*2)++xs.drop (j*2))/\w.grownBy w' (some g):=by
 obtain⟨hlen,h|⟨g',cap,cur,hv,dY,hg,Wu,q8,fP,lI⟩⟩:=h
 .exact absurd h.1 aQ
 injection hv with e1 e2 e3;injection e1 with e1;injection e1 with e1;subst e1 e3;clear e2;obtain⟨i0,fL,jJ,eE,kZ⟩:=y3 zcg;have mF:cur.toList.length=c*2:=by simpa using fP
 have uL:(xs.drop (j*2)).length=(n-j)*2:=by rw[xS,hlen];omega
 obtain⟨A,hA,Qq⟩:∃A:bO,(if c=j then(some (⟨g,0,none⟩:bO)) else some ⟨g,j*2,none⟩)=some A/\(∀t u,(xs.drop (j*2))[t]? =some u->w.drew.cell? (A.add t)=some u):=by
  have cell:∀k u,xs[k]? =some u->w.drew.cell? ⟨g,k,none⟩=some u:=λk u hk=>by
   have:w.cell? ⟨g,k,none⟩=cur[k]? :=aJ hg k;have uU:cur.toList[k]? =some u:=by
    rw[<-lI,Uz] at hk;split at hk
    .exact hk
    .cases hk
   rw[zR] at uU;exact this.trans uU
  by_cases hc:c=j
  .refine⟨⟨g,0,none⟩,by simp[hc],λt u hu=>?_⟩
   have h0:(xs.drop (j*2)).length=0:=by rw[uL];omega
   rw[zqe.1 h0] at hu;simp at hu
  .refine⟨⟨g,j*2,none⟩,by simp[hc],λt u hu=>?_⟩
   rw[Vf] at hu;rw[Jt];exact cell _ u hu
 have J3:=λty=>zs0 (P:=aK) w.drew 51 ty 124 i0 zlS fL g i c cur hg A (n-j) (c-j) (xs.drop (j*2)) (by rw[eE];exact uL) Qq (λu hu=>G7 u (zcI hu)) aD (by rw[eE,uL,fP];omega);obtain⟨xL,pY⟩:=aU ((cur.toList.take (i*i0.size)++xs.drop (j*2)++cur.toList.drop (i*i0.size+(xs.drop (j*2)).length)).toArray);rw[<-pY] at J3;obtain⟨W1,dC⟩:=aU (w.drew.setRow g xL);rw[<-dC] at J3;have qX:W1.heap[g]? =some (.cells xL 124 (0,0)):=by rw[dC];exact Jb w.drew g cur xL 124 (0,0) hg
 have vU:xL.size=c*2:=by
  rw[pY];simp only[Ec,gJ,rJ,xS,mF,uL,hlen,eE];have:(i+(n-j))*2<=c*2:=zT _ aD;omega
 have hzs:(pS (.agg #[.int .i64 0,.int .i64 0]:aF).cells (n-(i+(n-j)))).size=(n-(i+(n-j)))*2:=Xz _ _;have O4:=λty=>zmX (P:=aK) (w:=W1) (dT:=51) (ty:=ty) (c:=c-(i+(n-j))) (n:=n-(i+(n-j))) (o:=(i+(n-j))*2) zlS fL jJ qX aD (by rw[hzs,vU];omega) (λu hu=>by
  obtain⟨k,hk,rfl⟩:=Kh.1 hu;simp only[pS,Rh,zmu,zj6,zh5];rcases zqm k with hk|hk<;>simp[hk]<;>rfl)
 obtain⟨yG,nI⟩:=aU ((xL.toList.take ((i+(n-j))*2)++(pS (.agg #[.int .i64 0,.int .i64 0]:aF).cells (n-(i+(n-j)))).toList++xL.toList.drop ((i+(n-j))*2+(pS (.agg #[.int .i64 0,.int .i64 0]:aF).cells (n-(i+(n-j)))).size)).toArray);rw[<-nI] at O4;have H1:=aC J3;have H2:=aC O4;have HG:=aC (show w.grownBy (W1.setRow g yG) (some g) from Qj (Qj zvL (dC▸zaM xL)) (zaM yG));have HO:=aC (show(W1.setRow g yG).ownsRow lo 124 2 (.slice (some ⟨g,0,none⟩) (n-(j-i)) c) (n-(j-i)) (xs.take (i*2)++xs.drop (j*2)) by
  have Br:n-(j-i)=i+(n-j):=aD;have Ap:yG.size=c*2:=by
   rw[nI];simp only[Ec,gJ,rJ,xS,De,vU,hzs];have:(i+(n-j))*2+(n-(i+(n-j)))*2=n*2:=by rw[<-Xs];congr 1;omega
   have:n*2<=c*2:=zT _ Wu;omega
  refine⟨by rw[gJ,rJ,uL,hlen];have:=Xs i (n-j) 2;have:i*2<=n*2:=zT _ aD;rw[Br];omega,.inr ⟨g,c,yG,rfl,dY,Jb W1 g xL yG 124 (0,0) qX,aD,q8,Ap,?_⟩⟩;have e1:cur.toList.take (i*2)=xs.take (i*2):=by
   rw[<-lI,Nv];congr 1;have:i*2<=n*2:=zT _ aD;omega
  have l1:(xs.take (i*2)).length=i*2:=by
   rw[rJ,hlen];have:i*2<=n*2:=zT _ aD;omega
  rw[nI,show∀l:List aF,l.toArray.toList=l from λ_=>rfl,Br];have l2:(xL.toList.take ((i+(n-j))*2)).length=(i+(n-j))*2:=by
   rw[rJ,De,vU];have:(i+(n-j))*2<=c*2:=zT _ aD;omega
  rw[G8,Dp (by rw[l2];exact aZ _),Nv,ziD,pY,show∀l:List aF,l.toArray.toList=l from λ_=>rfl,eE,e1];rw[Dp zoE];exact yR zoE)
 have yB:i<=c:=aD;have Md:j<=c:=aD;have aT:¬((i:Int)=(j:Int)):=aD;clear J3 O4 pY nI qX vU hzs dC lI fP q8 hg dY hlen uL mF G7 Qq;by_cases zdO:c=j
 .subst zdO
  have pD:n-c=0:=aD;have y6:=H1.o;have Ov:=H2.o;simp only[pD,Ra] at y6 Ov;replace H1:=aC y6;replace H2:=aC Ov;clear y6 Ov
  go_enter zsx,znH
  go_wp2_with fail
  go_region_law (refine zdv rfl (.tmp 22) (.tmp 25) 51 51 rfl _ _ _ zdb zgd H1.o ?_)
  go_wp2_with (refine Zo rfl (.tmp 31) 51 rfl _ rfl H2.o ?_)
  all_goals
   go_ret;exact⟨by rw[show n-(c-i)=i by omega];rfl,HO.o,HG.o⟩
 .skip
  go_enter zsx,znH
  go_wp2_with fail
  go_region_law (refine zdv rfl (.tmp 22) (.tmp 25) 51 51 rfl _ _ _ zdb zgd H1.o ?_)
  go_wp2_with (refine Zo rfl (.tmp 31) 51 rfl _ rfl H2.o ?_)
  all_goals
   go_ret;exact⟨by rw[show n-(j-i)=i+(n-j) by omega];rfl,HO.o,HG.o⟩
theorem zoa (lo hi n c:Nat)(A:Option bO)(xs:List Int)(q:Int)(w:aE)(h:cG w lo hi 1 A n c (jN xs))(hn:n<=1048576):
 iE aK 76 #[.slice A n c,.int .i64 q] w λe w'=>e=.returned (.int .i64 (Fj (xs.findIdx? (·==q))))/\w'=w:=by
 have hl:=aC h.length
 go_enter Tryd.func76,Tryd.ntmps76
 go_wp2
 go_loop [8] (λi=>∃k:Nat,k<=n/\i=.int .i64 k/\∀j,j<k->∀b,xs[j]? =some b->(b==q)=false) (λi=>n-(intOf i).toNat)
 case atStart=>exact⟨0,lB _,rfl,λj hj=>absurd hj aD⟩
 case round=>
  obtain⟨k,hk,rfl,fP⟩:=hrel;have HC:=aC fP;clear fP;by_cases aP:k<n
  .obtain⟨b,off,x,hA,_,_,_,eB,hv⟩:=h.cellAt aP
   subst hA;have HX:=aC eB;clear eB h;have i0:(0:Int)<=(k:Int):=aD;have i1:(k:Int)<(n:Int):=aD;by_cases hq:q=x
   .subst hq
    go_wp2;go_ret;exact⟨Ba (by rw[zb4 HX.o aQ HC.o];rfl),rfl⟩
   .have O9:(q==x)=false:=by simpa using hq
    go_wp2
    go_round
    case rel=>exact⟨k+1,aD,pT,Rt HC.o HX.o (by simpa using Ne.symm hq)⟩
    case measure=>simp[intOf];omega
  .have e:k=n:=aD
   subst e;clear h;go_wp2;go_ret;exact⟨Ba (by rw[zgY HC.o zez];rfl),rfl⟩
theorem zFC (o:Option Nat):decide (0<=Fj o)=o.isSome:=by
 cases o with
 |none=>rfl
 |some i=>simp[Fj]
theorem zyG (lo hi n c:Nat)(A:Option bO)(xs:List Int)(q:Int)(w:aE)(h:cG w lo hi 1 A n c (jN xs))(hn:n<=1048576):
 iE aK 71 #[.slice A n c,.int .i64 q] w λe w'=>e=.returned (.bool (xs.findIdx? (·==q)).isSome)/\w'=w:=by
 have HS:=aC h;clear h
 go_enter Tryd.func71,Tryd.ntmps71
 go_wp2_with (go_at_call 76;refine(zoa lo hi n c A xs q w HS.o hn).mono ?_;rintro e w' ⟨rfl,hw⟩;obtain rfl:=hw)
 go_ret;exact⟨Kj (zFC _),rfl⟩
theorem zgf (x:bJ)(gx:Nat)(c:Int)(w:aE)(h:w.heap[gx]? =some (.cells #[.int .i64 c] 3)):
 iE aK 81 #[.agg #[.int .i64 x.c,.int .i64 x.p],.pointer (some ⟨gx,0,none⟩)] w λe w'=>e=.returned (.bool (x.c==c))/\bU w.heap.size w w':=by
 have aP:=kU h;have k:=aC (dF h (.cells #[.int .i64 x.c,.int .i64 x.p] 124));have k0:=aJ k.o 0
 go_enter Tryd.func81,Tryd.ntmps81
 go_wp2;go_ret;exact⟨rfl,(eR _ _).alloc (aZ _) _⟩
variable {xs:List bJ}{hi:Nat}{A:Option bO}
theorem zeJ (h:cG w lo hi 2 A n c (bF xs)){k:Nat}(hk:k<n):∃b off x,A=some ⟨b,off,none⟩/\b<w.heap.size/\xs[k]? =some x/\w.cell? ⟨b,off+k*2,none⟩=some (.int .i64 x.c)/\w.cell? ⟨b,off+k*2+1,none⟩=some (.int .i64 x.p):=by
 obtain⟨b,off,x,e,_,_,h3,h4,h5,h6⟩:=h.callsAt hk;exact⟨b,off,x,e,h3,h4,h5,h6⟩
theorem zsR (lo hi n c:Nat)(A:Option bO)(xs:List bJ)(gx:Nat)(q:Int)(w:aE)(h:cG w lo hi 2 A n c (bF xs))(hn:n<=1048576)(hg:w.heap[gx]? =some (.cells #[.int .i64 q] 3)):
 iE aK 87 #[.slice A n c,.func (.func 81) #[] #[.pointer (some ⟨gx,0,none⟩)]] w λe w'=>e=.returned (.int .i64 (Fj (uX xs q)))/\bU w.heap.size w w':=by
 have hl:=aC h.callsLen;have HS:=aC h;have HG:=aC hg;clear hg h
 go_enter Tryd.func87,Tryd.ntmps87
 go_wp2
 go_loopw [8] (λi wr=>∃k:Nat,k<=n/\i=.int .i64 k/\bU w.heap.size w wr/\∀j,j<k->∀b,xs[j]? =some b->(b.c==q)=false) (λi _=>n-(intOf i).toNat)
 case atStart=>exact⟨0,lB _,rfl,eR _ _,λj hj=>absurd hj aD⟩
 case round=>
  obtain⟨k,hk,rfl,hb,fP⟩:=hrel;have HC:=aC fP;have HB:=aC hb;clear fP hb;by_cases aP:k<n
  .obtain⟨b,off,x,hA,mI,eB,eM,mJ⟩:=zeJ (HS.o.below HB.o) aP
   have sU:=aC ((HB.o.block gx (kU HG.o)).trans HG.o);have HX:=aC eB;have HA:=aC hA;subst hA;clear eB;have i0:(0:Int)<=(k:Int):=aD;have i1:(k:Int)<(n:Int):=aD;cases hq:(x.c==q)
   .go_wp2_with (go_at_call 81;refine(zgf x gx q _ sU.o).mono ?_;rintro e w2 ⟨rfl,pI⟩;rw[hq];have rH:=aC pI;clear pI)
    go_round
    case rel=>exact⟨k+1,aD,pT,Xm HB.o rH.o,Rt HC.o HX.o hq⟩
    case measure=>simp[intOf];omega
   .go_wp2_with (go_at_call 81;refine(zgf x gx q _ sU.o).mono ?_;rintro e w2 ⟨rfl,pI⟩;rw[hq];have rH:=aC pI;clear pI)
    go_ret;exact⟨Ba (by unfold uX;rw[zb4 HX.o hq HC.o];rfl),Xm HB.o rH.o⟩
  .have e:k=n:=aD
   subst e;go_wp2;go_ret;exact⟨Ba zq1,HB.o⟩
variable {x:bJ}
theorem zF4 (hi:i<xs.length):((bF xs).set (i*2) (.int .i64 x.c)).set (i*2+1) (.int .i64 x.p)=bF (xs.set i x):=by
 apply X5;intro q;obtain⟨a,b,rfl,hb⟩:∃a b,q=a*2+b/\b<2:=⟨q/2,q%2,aD,aD⟩;have g:∀(l:List bJ),(bF l)[a*2+b]? =(l[a]?).bind λx=>x.cells[b]? :=λl=>H4 bJ.cells (s:=2) (λ_=>rfl) l a b hb;have hlen:(bF xs).length=xs.length*2:=Er bJ.cells (s:=2) (λ_=>rfl) xs;rw[zcy,zcy,ziR,g,g,zcy];by_cases e:i=a
 .subst e
  have bY:b=0\/b=1:=aD;rcases bY with rfl|rfl
  .rw[if_neg aD,if_pos aD,if_pos aD,if_pos rfl,if_pos hi];rfl
  .rw[if_pos rfl,if_pos aD,if_pos rfl,if_pos hi];rfl
 .rw[if_neg aD,if_neg aD,if_neg e]
variable {ys:List bJ}{a:Nat}
theorem zGc {rest:List aF}(ha:a<ys.length):((bF ys++rest).toArray.setIfInBounds (a*2) (.int .i64 x.c)).setIfInBounds (a*2+1) (.int .i64 x.p)=(bF (ys.set a x)++rest).toArray:=by
 have mF:(bF ys).length=ys.length*2:=Er bJ.cells (s:=2) (λ_=>rfl) ys;rw[gK,gK,zsF _ _ aD,zsF _ _ (by rw[ziR];omega),zF4 ha]
theorem zDS {q:bJ->Bool}{b:Nat}(hlen:ys.length=xs.length)(qE:a<=b)(h1:ys.take a=(xs.take b).filter q)(h2:ys.drop b=xs.drop b)(hx:xs[b]? =some x):
 (q x=false->ys.take a=(xs.take (b+1)).filter q/\ys.drop (b+1)=xs.drop (b+1))/\
 (q x=true->(ys.set a x).take (a+1)=(xs.take (b+1)).filter q/\(ys.set a x).drop (b+1)=xs.drop (b+1)):=by
 have hb:=(jW.1 hx).1;have ht:xs.take (b+1)=xs.take b++[x]:=by rw[L0,hx];rfl
 have hd:ys.drop (b+1)=xs.drop (b+1):=by
  rw[<-znL,<-znL,h2]
 refine⟨λhq=>⟨by rw[ht,Pd,<-h1];simp[hq],hd⟩,λhq=>⟨?_,?_⟩⟩
 .rw[ht,Pd,<-h1,L0]
  have e1:(ys.set a x).take a=ys.take a:=by rw[List.take_set_of_le (aZ _)]
  rw[e1,List.getElem?_set_self aD];simp[hq]
 .rw[List.drop_set,if_pos aD];exact hd
theorem zEk (h:w.ownsRow lo 124 2 (.slice (some ⟨g,0,none⟩) n c) n (bF xs))(hn:n<=1048576){gx:Nat}{q:Int}(sU:w.heap[gx]? =some (.cells #[.int .i64 q] 3)):
 iE aK 80 #[.slice (some ⟨g,0,none⟩) n c,.func (.func 81) #[] #[.pointer (some ⟨gx,0,none⟩)]] w λe w'=>∃m,e=.returned (.slice (some ⟨g,0,none⟩) m c)/\m=(dQ xs q).length/\w'.ownsRow lo 124 2 (.slice (some ⟨g,0,none⟩) m c) m (bF (dQ xs q))/\w.grownBy w' (some g):=by
 have aT:gx≠g:=λe=>by
  subst e;obtain⟨_,h|⟨g',cap,cur,hv,dY,hg,_⟩⟩:=h
  .exact absurd h.1 aQ
  .injection hv with e1
   injection e1 with e1;injection e1 with e1;subst e1;rw[sU] at hg;injection hg with hg;injection hg with _ hg;exact absurd hg aH
 have hs:=zQ h aH;have zkW:=hs.callsLen;have HI:=aC (zsR lo w.heap.size n c (some ⟨g,0,none⟩) xs gx q w hs hn sU);obtain⟨hlen,h|⟨g',cap,cur,hv,dY,hg,Wu,q8,fP,lI⟩⟩:=h
 .exact absurd h.1 aQ
 injection hv with e1 e2 e3;injection e1 with e1;injection e1 with e1;subst e1 e3;clear e2;obtain⟨rest,Tj⟩:=aU (cur.toList.drop (n*2));have Qm:cur=(bF xs++rest).toArray:=by rw[Tj,<-lI,zuf]
 have Ls:rest.length=c*2-n*2:=by rw[Tj,xS];simp[fP]
 have Wc:=aC sU;have HG:=aC (show w.heap[g]? =some (.cells (bF xs++rest).toArray 124 (0,0)) by rw[hg,Qm])
 cases hf:uX xs q with
 |none=>
  have hw:dQ xs q=xs:=by
   unfold dQ;rw[zev];intro x hx;have:=zv8 (by rw[hf];rfl) x hx;simpa using this
  have HO:=aC (show w.ownsRow lo 124 2 (.slice (some ⟨g,0,none⟩) n c) n (bF xs) from⟨hlen,.inr ⟨g,c,cur,rfl,dY,hg,Wu,q8,fP,lI⟩⟩);rw[hw];rw[hf] at HI;clear Qm Tj lI hg fP hlen sU hs
  go_enter zpG,zqt
  go_wp2_with (go_at_call 87;refine HI.o.mono ?_;rintro e w1 ⟨rfl,xB⟩;simp only[Fj];have sG:=aC xB;clear xB)
  go_ret;exact⟨n,rfl,by first|rfl|exact zkW.symm,zta HO.o sG.o,⟨sG.o.os,sG.o.tape,sG.o.output,sG.o.size,λb hb _=>sG.o.block b hb⟩⟩
 |some p=>
  obtain⟨xp,Mq,x7,zoC⟩:∃x,xs[p]? =some x/\x.c=q/\∀j,j<p->∀y,xs[j]? =some y->y.c≠q:=by
   unfold uX at hf;obtain⟨h1,h2,h3⟩:=List.findIdx?_eq_some_iff_getElem.1 hf;refine⟨xs[p],lP h1,by simpa using h2,λj hj y hy=>?_⟩;have:=h3 j hj;obtain⟨k1,k2⟩:=jW.1 hy;rw[k2] at this;simpa using this
  have lS:=(jW.1 Mq).1;have zrf:xs.take p=(xs.take (p+1)).filter (λx=>x.c !=q):=by
   have ht:xs.take (p+1)=xs.take p++[xp]:=by rw[L0,Mq];rfl
   have h1:(xs.take p).filter (λx=>x.c !=q)=xs.take p:=by
    rw[zev];intro y hy;obtain⟨j,hj⟩:=F7.1 hy;rw[Uz] at hj;split at hj
    .next aP=>simpa using zoC j aP y hj
    .cases hj
   rw[ht,Pd,h1];simp[x7]
  rw[hf] at HI;have Cv:=aC zrf;have zl8:p<n:=aD;obtain⟨i0,fL,jJ,eE,kZ⟩:=y3 zcg;have zCk:=aC fL;clear Qm Tj lI hg fP hlen sU hs zrf Mq x7 zoC fL
  go_enter zpG,zqt
  go_wp2_with (go_at_call 87;refine HI.o.mono ?_;rintro e w1 ⟨rfl,xB⟩;simp only[Fj];have sG:=aC xB;clear xB)
  go_loopw [5,6] (λi j wr=>∃(a b:Nat) (ys:List bJ),i=.int .i64 (a:Int)/\j=.int .i64 (b:Int)/\a<b/\b<=n/\ys.length=n/\ys.take a=(xs.take b).filter (λx=>x.c !=q)/\ys.drop b=xs.drop b/\wr.heap[g]? =some (.cells (bF ys++rest).toArray 124 (0,0))/\w.grownBy wr (some g)) (λ_ j _=>n-(intOf j).toNat)
  case atStart=>
   refine⟨p,p+1,xs,rfl,pT,aD,aD,zkW,Cv.o,rfl,(sG.o.block g (kU HG.o)).trans HG.o,⟨sG.o.os,sG.o.tape,sG.o.output,sG.o.size,λb hb _=>sG.o.block b hb⟩⟩
  case round=>
   obtain⟨a,b,ys,rfl,rfl,qE,zL0,V7,h1,h2,qX,mU⟩:=hrel;have r8:=aC qX;have zb7:=aC mU;have zy9:=kU qX;clear qX mU;by_cases aP:b<n
   .obtain⟨x,hx⟩:∃x,xs[b]? =some x:=⟨xs[b]' aD,lP aD⟩
    have zy8:ys[b]? =some x:=by
     have:=congrArg (λl=>l[0]?) h2;simpa[Vf,hx] using this
    obtain⟨d1,d2⟩:=zDS (q:=λx=>x.c !=q) aD aD h1 h2 hx;have zk3:∀(k:Nat) (y:bJ),ys[k]? =some y->wr.cell? ⟨g,k*2,none⟩=some (.int .i64 y.c)/\wr.cell? ⟨g,k*2+1,none⟩=some (.int .i64 y.p):=λk y hy=>by
     have hk:=(jW.1 hy).1;have mF:(bF ys).length=ys.length*2:=Er bJ.cells (s:=2) (λ_=>rfl) ys;have gg:∀b',b'<2->wr.cell? ⟨g,k*2+b',none⟩=y.cells[b']? :=λb' bY=>by
      rw[aJ r8.o];rw[List.getElem?_toArray,yO aD];have:=H4 bJ.cells (s:=2) (λ_=>rfl) ys k b' bY;unfold bF;rw[this,hy];rfl
     exact⟨gg 0 aH,gg 1 aH⟩
    obtain⟨c0,c1⟩:=zk3 b x zy8;have i0:(0:Int)<=(b:Int):=aD;have i1:(b:Int)<(n:Int):=aD;have D1:=aC d1;have D2:=aC d2;have GC:=aC zk3;clear d1 d2 zk3;have zws:=aC ((zb7.o.block gx (kU Wc.o) (by simp;exact aT)).trans Wc.o);obtain⟨ya,zDJ⟩:∃y,ys[a]? =some y:=⟨ys[a]' aD,lP aD⟩;have zpJ:=aC zDJ;have a0:(0:Int)<=(a:Int):=aD;have a1:(a:Int)<(n:Int):=aD;have za3:g≠wr.heap.size:=aD;cases hq:(x.c==q)
    .go_wp2_with (go_at_call 81;refine(zgf x gx q _ (dF zws.o _)).mono ?_;rintro e w2 ⟨rfl,pI⟩;rw[hq];have KG:=aC (iS pI (dF r8.o _)).1;have kz:=(iS pI (lO _ _)).1;have z0:=aJ kz 0;have z1:=aJ kz 1;have e0:=(Co (a:=⟨g,a*2,none⟩) (KG.o.trans r8.o.symm)).trans (GC.o a ya zpJ.o).1;have e1:=(Co (a:=⟨g,a*2+1,none⟩) (KG.o.trans r8.o.symm)).trans (GC.o a ya zpJ.o).2;have ff:=eL KG.o;have rH:=aC pI;clear pI kz)
     go_round
     case rel=>
      obtain⟨f1,f2⟩:=D2.o (by simpa using hq);refine⟨a+1,b+1,ys.set a x,pT,pT,aD,aD,by rw[ziR];exact V7,f1,f2,?_,?_⟩
      .rw[oZ (oZ KG.o _),zGc aD]
      .have hB:=rH.o
       refine Qj zb7.o ⟨hB.os,hB.tape,hB.output,?_,λk hk hn=>?_⟩
       .simp only[sE];have:=hB.size;simp at this;omega
       .have zqD:k≠g:=λe=>hn (by rw[e])
        exact(dZ _ _ _ k zqD).trans ((dZ _ _ _ k zqD).trans ((hB.block k rF).trans (tL _ _ k hk)))
     case measure=>simp[intOf];omega
    .go_wp2_with (go_at_call 81;refine(zgf x gx q _ (dF zws.o _)).mono ?_;rintro e w2 ⟨rfl,pI⟩;rw[hq];have KG:=aC (iS pI (dF r8.o _)).1;have rH:=aC pI;clear pI)
     go_round
     case rel=>
      obtain⟨f1,f2⟩:=D1.o (by simpa using hq);have hB:=rH.o;exact⟨a,b+1,ys,rfl,pT,aD,aD,V7,f1,f2,KG.o,Qj zb7.o ⟨hB.os,hB.tape,hB.output,by have:=hB.size;simp at this;omega,λk hk hn=>(hB.block k rF).trans (tL _ _ k hk)⟩⟩
     case measure=>simp[intOf];omega
   .have e:b=n:=aD
    subst e;have zeq:(dQ xs q).length=a:=by
     have rU:xs.take b=xs:=yR aD;rw[rU] at h1;unfold dQ;rw[<-h1,rJ];omega
    have Lt:ys.take a=dQ xs q:=by
     have rU:xs.take b=xs:=yR aD;rw[rU] at h1;exact h1
    have mF:(bF ys).length=ys.length*2:=Er bJ.cells (s:=2) (λ_=>rfl) ys;have hzs:(pS (zml #[.int .i64 0,.int .i64 0]).cells (b-a)).size=(b-a)*2:=Xz _ _;have cF:=λty=>zmX (P:=aK) (w:=wr) (dT:=51) (ty:=ty) (c:=c-a) (n:=b-a) (o:=a*2) zlS zCk.o jJ r8.o aD (by rw[hzs];simp[mF,Ls];omega) (λu hu=>by
     obtain⟨k,hk,rfl⟩:=Kh.1 hu;simp only[pS,Rh,zmu,zj6,zh5];rcases zqm k with hk|hk<;>simp[hk]<;>rfl)
    obtain⟨yG,nI⟩:=aU (((bF ys++rest).toArray.toList.take (a*2)++(pS (zml #[.int .i64 0,.int .i64 0]).cells (b-a)).toList++(bF ys++rest).toArray.toList.drop (a*2+(pS (zml #[.int .i64 0,.int .i64 0]).cells (b-a)).size)).toArray);rw[<-nI] at cF;have HR:=aC cF;have HO:=aC (show(wr.setRow g yG).ownsRow lo 124 2 (.slice (some ⟨g,0,none⟩) a c) a (bF (dQ xs q)) by
     refine⟨by have:=Er bJ.cells (s:=2) (λ_=>rfl) (dQ xs q);unfold bF;omega,.inr ⟨g,c,yG,rfl,dY,Jb wr g _ yG 124 (0,0) r8.o,aD,q8,?_,?_⟩⟩
     .rw[nI]
      simp only[Ec,gJ,rJ,xS,De,hzs,mF,Ls];omega
     .rw[nI,show∀l:List aF,l.toArray.toList=l from λ_=>rfl,show∀l:List aF,l.toArray.toList=l from λ_=>rfl,G8,Dp (by rw[rJ,gJ,mF];omega),Nv,ziD,Dp aD,<-Lt]
      have:(bF ys).take (a*2)=bF (ys.take a):=by
       conv=>lhs;rw[<-zuf a ys]
       unfold bF;rw[List.flatMap_append];have h9:=Er bJ.cells (s:=2) (λ_=>rfl) (ys.take a);rw[rJ,Nat.min_eq_left aD] at h9;rw[Dp aD];exact yR aD
      exact this)
    have zBO:=aC (Qj zb7.o (zaM yG));have a0:(0:Int)<=(a:Int):=aD;have a1:(a:Int)<(b:Int):=aD;have zKs:a<c:=aD;have zMD:¬(c=a):=aD;clear cF nI hzs mF Lt r8 zb7 h1 h2
    go_wp2_with (refine Zo rfl (.tmp 38) 51 rfl _ rfl HR.o ?_)
    go_ret;exact⟨a,rfl,zeq.symm,HO.o,zBO.o⟩
theorem zms (b:b6)(t:List UInt8)(x:bJ):(lY (b,t) x).1.o=b.o/\(lY (b,t) x).1.clk=b.clk/\(lY (b,t) x).1.log=b.log/\(lY (b,t) x).1.recs.length=b.recs.length/\(lY (b,t) x).1.wait.length<=b.wait.length/\(lY (b,t) x).1.back.length<=b.back.length+1/\
 ∀z∈(lY (b,t) x).1.recs,∃y∈b.recs,z.o=y.o/\z.l=y.l:=by
 have same:∀z∈b.recs,∃y∈b.recs,z.o=y.o/\z.l=y.l:=λz hz=>⟨z,hz,rfl,rfl⟩;unfold lY;split
 .exact⟨rfl,rfl,rfl,rfl,aZ _,Pu _,same⟩
 .split
  .refine⟨rfl,rfl,rfl,?_,Yc _ _,?_,λz hz=>?_⟩
   .show(List.modify _ _ _).length=_
    rw[Gj]
   .show(b.back++[x]).length<=_
    simp
   .obtain⟨y,hy,rfl|rfl⟩:=Pt hz
    .exact⟨_,hy,rfl,rfl⟩
    .exact⟨_,hy,rfl,rfl⟩
  .exact⟨rfl,rfl,rfl,rfl,aZ _,Pu _,same⟩
theorem yE.tire {t:List UInt8}(h:yE d)(hx:1<=x.c/\x.c<=99)(hb:d.r.back.length<5000):yE {d with r:=(lY (d.r,t) x).1}:=by
 have S:=h.S.tire (t:=t) (x:=x);have R:=h.R.tire (t:=t) hx;obtain⟨e1,e2,e3,e4,e5,e6,e7⟩:=zms d.r t x;generalize(lY (d.r,t) x).1=b at*;refine⟨S,R,⟨λz hz=>?_,?_⟩,h.ndl,?_,λz hz=>?_,?_,⟨R.off,?_,?_,?_,?_,?_⟩⟩
 .obtain⟨y,hy,e,_⟩:=e7 z hz
  rw[e,e1];exact h.ops.op y hy
 .show 1<=b.o.op
  rw[e1];exact h.ops.n1
 .show(d.ln.length:Int)=b.o.ln
  rw[e1];exact h.nln
 .obtain⟨y,hy,_,e⟩:=e7 z hz
  show 1<=z.l/\z.l<=b.o.ln;rw[e,e1];exact h.lb y hy
 .show(d.qn.length:Int)=b.o.op
  rw[e1];exact h.nqn
 .show b.recs.length<=1000
  rw[e4];exact h.sm.nr
 .exact eP e5 h.sm.nw
 .show b.back.length<=5000
  omega
 .show b.log.length<=1000
  rw[e3];exact h.sm.nl
 .show 0<=b.clk/\b.clk<=100000
  rw[e2];exact h.sm.clk
def rY (r:b6)(m:Int):Nat->List bJ
 |0=>[]
 |k+1=>match r.wait[k]? with
  |none=>rY r m k
  |some x=>match jD (cU r m k).1.recs x.c with
   |none=>rY r m k++[x]
   |some i=>if(cU r m k).1.o.pt<=(cU r m k).1.clk-Vi (cU r m k).1.recs i then rY r m k else rY r m k++[x]
theorem zdD {st rest:List bJ}(h:((st++x::rest).map bJ.c).Nodup):dQ (st++x::rest) x.c=st++rest:=by
 rw[If,fG,zmI] at h;obtain⟨h1,h2,h3⟩:=h;rw[Ch] at h2;have a1:∀y∈st,(y.c !=x.c)=true:=λy hy=>by
  have:=h3 y.c (Uu hy) x.c aQ;simpa using this
 have a2:∀y∈rest,(y.c !=x.c)=true:=λy hy=>by
  have:y.c≠x.c:=λe=>h2.1 (e▸Uu hy);simpa using this
 unfold dQ;rw[Pd,List.filter_cons,zev.2 a1,zev.2 a2];simp
structure TK (d:nF)(m:Int)(k:Nat):Prop where
 i:yE {d with r:=(cU d.r m k).1}
 w:(cU d.r m k).1.wait=rY d.r m k++d.r.wait.drop k
 nb:(cU d.r m k).1.back.length<=d.r.back.length+k
 log:(cU d.r m k).1.log=d.r.log
 o:(cU d.r m k).1.o=d.r.o
 clk:(cU d.r m k).1.clk=d.r.clk+m
 le:(rY d.r m k).length<=k
 txt:(cU d.r m k).2.length<=30+30*k
section
variable {d:nF}{m:Int}
theorem TK.zero (h:yE d)(hm:0<=m)(hc:d.r.clk+m<=100000):TK d m 0:=by
 have h0:=h.sm.clk;have hn:=N4 (c:=d.r.clk+m) aD aD;refine⟨⟨⟨h.S.opn,h.S.last,h.S.wt,h.S.bk,h.S.bo⟩,⟨h.R.off,?_,h.R.nodup,h.R.hasrec,λz hz=>?_,h.R.waitB,h.R.backB⟩,⟨h.ops.op,h.ops.n1⟩,h.ndl,h.nln,h.lb,h.nqn,⟨h.R.off,h.sm.nr,h.sm.nw,h.sm.nb,h.sm.nl,?_⟩⟩,rfl,aZ _,rfl,rfl,rfl,aZ _,?_⟩
 .show 0<=d.r.clk+m;omega
 .have:=h.R.recB z hz
  show _/\_/\_/\_/\_/\_/\_/\z.f<=d.r.clk+m;omega
 .show 0<=d.r.clk+m/\d.r.clk+m<=100000;omega
 .show([97,116,32]++jC (d.r.clk+m)).length<=_
  rw[gJ];simp only[pG,tV];omega
structure Next (d:nF)(m:Int)(k:Nat)(x:bJ)(i:Nat)(y:bR):Prop where
 at_:jD (cU d.r m k).1.recs x.c=some i
 hy:(cU d.r m k).1.recs[i]? =some y
 c:y.c=x.c
 op:eA y=true
 b:1<=x.c/\x.c<=99
 f:0<=y.f/\y.f<=d.r.clk+m
 tired:d.r.o.pt<=d.r.clk+m-y.f->cU d.r m (k+1)=({kT (cU d.r m k).1 i Ea with back:=(cU d.r m k).1.back++[x]},(cU d.r m k).2++[32]++jC x.c)/\rY d.r m (k+1)=rY d.r m k
 not_:¬d.r.o.pt<=d.r.clk+m-y.f->cU d.r m (k+1)=cU d.r m k/\rY d.r m (k+1)=rY d.r m k++[x]
variable {k:Nat}{x:bJ}
theorem TK.next (h:TK d m k)(hx:d.r.wait[k]? =some x):∃i y,Next d m k x i y:=by
 have zih:d.r.wait.drop k=x::d.r.wait.drop (k+1):=by
  obtain⟨hl,he⟩:=jW.1 hx;rw[zf6 hl,he]
 have nV:x∈(cU d.r m k).1.wait:=by rw[h.w,zih];simp
 obtain⟨i,hi⟩:=Option.isSome_iff_exists.1 (h.i.R.hasrec x nV);have hi:=hi;obtain⟨y,hy,zjC,C6⟩:=Ca hi;have e1:=zcX (m:=m) hx;rw[zaQ hi hy,h.o,h.clk] at e1;have e2:rY d.r m (k+1)=if d.r.o.pt<=d.r.clk+m-y.f then rY d.r m k else rY d.r m k++[x]:=by
  conv=>lhs;unfold rY
  simp only[hx,hi,h.o,h.clk];rw[show Vi (cU d.r m k).1.recs i=y.f by unfold Vi;rw[hy]]
 have hf:=h.i.R.recB y (dS hy);refine⟨i,y,⟨hi,hy,zjC,C6,h.i.R.waitB x nV,⟨hf.2.2.2.2.2.2.1,by have:=hf.2.2.2.2.2.2.2;rw[<-h.clk];exact this⟩,λhp=>?_,λhp=>?_⟩⟩
 .rw[if_pos hp] at e1 e2
  exact⟨e1,e2⟩
 .rw[if_neg hp] at e1 e2
  exact⟨e1,e2⟩
theorem TK.succ (h:TK d m k)(hb:d.r.back.length+d.r.wait.length<=5000)(hx:d.r.wait[k]? =some x):TK d m (k+1):=by
 obtain⟨hl,he⟩:=jW.1 hx;have zih:d.r.wait.drop k=x::d.r.wait.drop (k+1):=by rw[zf6 hl,he]
 obtain⟨i,y,n⟩:=h.next hx;have nE:=h.nb;have hT:=yE.tire (t:=(cU d.r m k).2) h.i n.b (by show(cU d.r m k).1.back.length<5000;omega);have e1:=zcX (m:=m) hx;have zEX:yE {d with r:=(cU d.r m (k+1)).1}:=by rw[e1];exact hT
 obtain⟨r1,r2,r3,r4,r5,r6,r7⟩:=zms (cU d.r m k).1 (cU d.r m k).2 x;have Ei:=e1;rw[<-Ei] at r1 r2 r3 r4 r5 r6;have hw:=h.w;rw[zih] at hw;have lD:((rY d.r m k++x::d.r.wait.drop (k+1)).map bJ.c).Nodup:=by rw[<-hw];exact h.i.R.nodup
 have hle:=h.le;have zom:=h.txt;refine⟨zEX,?_,aD,r3.trans h.log,r1.trans h.o,r2.trans h.clk,?_,?_⟩
 .by_cases hp:d.r.o.pt<=d.r.clk+m-y.f
  .have t4:=(n.tired hp).2
   rw[t4];have e3:=e1;rw[zaQ n.at_ n.hy,h.o,h.clk,if_pos hp] at e3;rw[e3];show dQ _ (Fu _ _)=_;rw[Qe n.hy,n.c,hw,zdD lD]
  .obtain⟨t1,t2⟩:=n.not_ hp
   rw[t1,t2,hw];simp
 .by_cases hp:d.r.o.pt<=d.r.clk+m-y.f
  .rw[(n.tired hp).2];omega
  .rw[(n.not_ hp).2,gJ];simp;omega
 .by_cases hp:d.r.o.pt<=d.r.clk+m-y.f
  .have:=n.b
   have hn:=N4 (c:=x.c) aD aD;rw[(n.tired hp).1,gJ,gJ];simp only[pG,tV];omega
  .rw[(n.not_ hp).1];omega
def TK.all (h:yE d)(hm:0<=m)(hc:d.r.clk+m<=100000)(hb:d.r.back.length+d.r.wait.length<=5000):∀k,k<=d.r.wait.length->TK d m k
 |0,_=>TK.zero h hm hc
 |k+1,hk=>(TK.all h hm hc hb k aD).succ hb (lP aD)
theorem TK.end_ (h:TK d m d.r.wait.length):(tT d.r m).1.wait=rY d.r m d.r.wait.length:=by
 rw[<-zcC,h.w,List.drop_of_length_le (aZ _),Mh]
end
def uQ (w:aE):Prop:=Lib.TabIs aK w "internal/strconv.uint64pow10" .u64 Lib.pow10Tab
def Al (lo:Nat)(w:aE):Prop:=∀w':aE,(∀b,b<lo->w'.heap[b]? =w.heap[b]?)->uQ w'
def Al.at_ (h:Al lo w):uQ w:=h w λ_ _=>rfl
def Al.keep (h:Al lo w)(k:∀b,b<lo->w'.heap[b]? =w.heap[b]?):Al lo w':=λw2 k2=>h w2 λb hb=>(k2 b hb).trans (k b hb)
variable {v':fC}
theorem Al.turn (h:Al lo w)(a:bE w lo hb v d)(dY:lo<=w.heap.size)(t:bL hb v w v' w'):Al lo w':=h.keep λb bY=>t.block b aD (λx=>by have:=(a.lt b x).1;omega)
def zI (v v':fC):Prop:=v'.sL=v.sL/\v'.sQ=v.sQ/\v'.sA=v.sA/\v'.sT=v.sT
def zI.rf (v:fC):zI v v:=⟨rfl,rfl,rfl,rfl⟩
def B4.kept (h:B4 v v'):zI v v':=⟨h.1,h.2.1,h.2.2.2.2.1,h.2.2.2.2.2⟩
theorem zA8 (ht:Al lo w)(n:Int)(h0: -1000000000<=n)(h1:n<=1000000000):
 iE aK 75 #[.int .i64 n] w λe w'=>e=.returned (.string ⟨(jC n).toArray⟩)/\bU w.heap.size w w':=
 (Tryd.strconv_Itoa n aD aD w ht.at_).mono (by
  rintro e w' ⟨rfl,k,os,rfl⟩;refine⟨rfl,rfl,rfl,rfl,by simp[Go.Sort.grow],λi hi=>?_⟩;show((w.drewN k).heap++os)[i]? =_;rw[Array.getElem?_append_left (by show i<w.heap.size;omega)];rfl)
theorem ziF (n:Int)(h0:0<=n)(h1:n<100)(w:aE):
 iE aK 75 #[.int .i64 n] w λe w'=>e=.returned (.string ⟨(jC n).toArray⟩)/\w'=w:=by
 obtain⟨c,rfl⟩:∃c:Nat,n=(c:Int):=⟨n.toNat,aD⟩;refine(Tryd.strconv_Itoa_small c aD w).mono ?_;rintro e w' ⟨rfl,rfl⟩;exact⟨by unfold jC;rw[Lib.itoa_nonneg],rfl⟩
section
variable {P:bS}{w w':aE}
theorem zsX {ops:Array aY}{rest:List aY}{o:aY}{a:Act}{Q:nQ->Act->aE->Prop}(Dn:o.guard=none)(s x:cM)(t tn:aM)(ho:o.op=.call {callee:=.builtin .append,args:=#[s,x],argTypes:=#[t,tn]})(vs vx v':aF)(hs:a.eval s=vs)(hx:a.eval x=vx)
 (hr:(wG #[t,tn] o.type #[vs,vx]).run P w=.ok v' w') (h:wpList P ops Q rest (a.put o.dst v') w'):wpList P ops Q (o::rest) a w:=by
 refine Tb Dn λK hK=>?_;unfold Ay aO;simp only[ho,resolve,invoke,builtin,D5,Ib,D8,uG,fG,tH,hs,hx,hr];exact hK _ _ h
end
variable {xs:List aF}
theorem zCK {E s:Nat}{y4:Nat}{v:aF}(h:w.ownsRow lo E s v n xs)(hl:y4<=lo):w.ownsRow y4 E s v n xs:=by
 obtain⟨h0,h1|⟨g,cap,cur,e1,e2,e3⟩⟩:=h
 .exact⟨h0,.inl h1⟩
 .exact⟨h0,.inr ⟨g,cap,cur,e1,eP hl e2,e3⟩⟩
variable {x:Option Nat}{l:List (Option Nat)}
theorem zzq (h:zb3 l)(hx:∀b,x=some b->some b∉l):zb3 (l.set j x):=by
 intro i k b hi hk;rw[zcy] at hi hk;split at hi<;>split at hk
 .omega
 .rename_i e1 e2
  split at hi
  .injection hi with hi
   exact absurd (dS hk) (hx b hi)
  .cases hi
 .rename_i e1 e2
  split at hk
  .injection hk with hk
   exact absurd (dS hi) (hx b hk)
  .cases hk
 .exact h i k b hi hk
theorem bE.newW (h:bE w lo hb v d){s':aF}{xs:List bJ}(ho:w.ownsRow lo 124 2 s' n (bF xs))(hn:n=xs.length)(hw:∀b,s'.ownBlock=some b->some b∉parts v hb):
 bE (w.setCell ⟨hb,7,none⟩ s') lo hb {v with sW:=s'} {d with r:={d.r with wait:=xs}}:=by
 subst hn;have h0:(parts v hb)[0]? =some (some hb):=rfl;have kk:∀i b,i≠0->(parts v hb)[i]? =some (some b)->(w.setCell ⟨hb,7,none⟩ s').heap[b]? =w.heap[b]? :=λi b hi bY=>dZ w _ _ b (h.ne bY h0 hi);have hp:parts {v with sW:=s'} hb=(parts v hb).set 5 s'.ownBlock:=rfl
 refine⟨oZ h.blk s',h.lob,cI h.L λb e=>kk 1 _ aH cO,cI h.Q λb e=>kk 4 _ aH cO,cI ho λb e=>dZ w _ _ b (λe2=>hw b e (by have e2:b=hb:=e2;subst e2;exact dS h0)),
  cI h.B λb e=>kk 6 _ aH cO,cI h.R λb e=>kk 7 _ aH cO,cI h.A λb e=>kk 9 _ aH cO,cI h.T λb e=>kk 10 _ aH cO,
  h.C.keep (kk 2 _ aH rfl),h.O.keep (kk 3 _ aH rfl),h.M.keep (kk 8 _ aH rfl),?_⟩
 rw[hp];exact zzq h.ap hw
def bE.grown (h:bE w lo hb v d)(hg:w.grownBy w' x)(hx:∀b,x=some b->some b∉parts v hb):bE w' lo hb v d:=
 h.keep λb bY hp=>hg.block b bY λe=>hx b e.symm hp
theorem bL.grown {w0:aE}{v0:fC}(h:bL hb v0 w0 v w)(hg:w.grownBy w' x)(hx:∀b,x=some b->w0.heap.size<=b):bL hb v0 w0 v w':=
 ⟨eP h.size hg.size,λb bY hn=>(hg.block b (lA bY h.size) λe=>by have:=hx b e.symm;omega).trans (h.block b bY hn),h.moved⟩
theorem zyZ {N:Nat}(hs:cs.size=N)(hl:xs.length=N)(h:∀j,j<N->cs[j]? =xs[j]?):cs.toList=xs:=by
 apply X5;intro j;rw[zR];rcases nM j N with hj|hj
 .exact h j hj
 .rw[Array.getElem?_eq_none aD,Gk aD]
theorem zzb (lo hi n c:Nat)(A:Option bO)(ds:List dG)(w:aE)(h:cG w lo hi 3 A n c (lW ds))(hn:n<=1048576):
 iE aK 7 #[.slice A n c] w λe w'=>∃b cs,e=.returned (.slice (some ⟨b,0,none⟩) n n)/\w.heap.size<=b/\w'.heap[b]? =some (.cells cs 43)/\cs.toList=lW ds/\z8 43 3 w' w.heap.size w'.heap.size (some ⟨b,0,none⟩) n n (lW ds)/\bU w.heap.size w w':=by
 obtain⟨Bb,Tg,zgX⟩:=zDL n hn;have hlen:=h.eventLen;have Cv:=aC Tg;have HL:=aC hlen;clear Tg hlen
 go_enter Tryd.func7,Tryd.ntmps7
 go_wp2
 go_loopw [4] (λi wr=>∃k:Nat,k<=n/\i=.int .i64 k/\bU w.heap.size w wr/\∃cs:Array aF,wr.heap[w.heap.size]? =some (.cells cs 43)/\cs.size=n*3/\∀j,j<k*3->cs[j]? =(lW ds)[j]?) (λi _=>n-(intOf i).toNat)
 case atStart=>exact⟨0,lB _,rfl,dO (eR _ _) _,Bb,lO _ _,Cv.o,λj hj=>absurd hj aD⟩
 case round=>
  obtain⟨k,hk,rfl,B,cs,hb,cH,fP⟩:=hrel;have HS:=aC cH;have HC:=aC fP;have HB:=aC hb;have hz:=kU hb;clear cH fP hb;by_cases aP:k<n
  .obtain⟨b,off,d,rfl,_,_,h3,eB,eM,mJ,sO⟩:=(h.below B).eventAt aP
   have HX:=aC eB;clear eB
   go_wp2_with fail
   refine(zGl d _).mono ?_;rintro e w1 ⟨rfl,b1⟩;obtain⟨xB,z1⟩:=iS b1 HB.o;have B1:=Xm B b1;have e0:=aJ xB (k*3);have e1:=aJ xB (k*3+1);have e2:=aJ xB (k*3+2);have hf:=eL xB;rw[Array.getElem?_eq_getElem (by rw[HS.o];omega)] at e0 e1 e2;have sG:=aC xB;clear xB b1 h eM mJ sO;go_wp2;go_roundw
   case rel=>exact⟨k+1,aD,pT,((B1.setCell (aZ _) _).setCell (aZ _) _).setCell (aZ _) _,((cs.setIfInBounds (k*3) (.string d.k)).setIfInBounds (k*3+1) (.int .i64 d.a)).setIfInBounds (k*3+2) (.int .i64 d.b),oZ (oZ (oZ sG.o _) _) _,by simp[HS.o],λj hj=>zIo HX.o (by rw[HS.o];omega) HC.o j hj⟩
   case measure=>simp[intOf];omega
  .have e:k=n:=aD
   subst e;clear h;go_wp2;go_ret;exact⟨_,cs,rfl,aZ _,HB.o,zyZ HS.o (by rw[zes,HL.o]) HC.o,zHg HB.o hz HS.o (aZ _) V8 (by rw[zes,HL.o]) HC.o,B⟩
variable {xs:List dG}
def zlJ (h:cG w lo hi 3 A n c (lW xs))(hn:n<=1048576):
 iE aK 7 #[.slice A n c] w λe w'=>∃b cs,e=.returned (.slice (some ⟨b,0,none⟩) n n)/\w.heap.size<=b/\w'.heap[b]? =some (.cells cs 43)/\cs.toList=lW xs/\z8 43 3 w' w.heap.size w'.heap.size (some ⟨b,0,none⟩) n n (lW xs)/\bU w.heap.size w w':=zzb _ _ _ _ _ _ _ h hn
def zBE (l:Int)(h:cG w lo hi 3 A n c (lW xs))(hd:∀d∈xs,d.k.size<=maxLen)(h0:0<=l)(h1:l<=1048576):
 iE aK 4 #[.slice A n c,.int .i64 l] w λe w'=>e=.returned (.int .i64 (Hj l n xs))/\bU w.heap.size w w':=zy1 _ _ _ _ _ _ _ _ h hd h0 h1
def zzf {y4 iY n' c':Nat}{A':Option bO}{ys:List dG}(h:cG w lo hi 3 A n c (lW xs))(h':cG w y4 iY 3 A' n' c' (lW ys))(hn:n<=1048576)(vB:n'<=1048576):
 iE aK 9 #[.slice A n c,.slice A' n' c'] w λe w'=>e=.returned (.bool (xs==ys))/\bU w.heap.size w w':=zBV _ _ _ _ _ _ _ _ _ _ _ _ _ h h' hn vB
theorem zoW (f s p:Int)(w:aE):
 iE aK 6 #[.agg #[.int .i64 f,.int .i64 s,.int .i64 p]] w λe w'=>e=.returned (.agg #[.int .i64 f,.int .i64 s,.int .i64 p])/\bU w.heap.size w w':=by
 go_enter Tryd.func6,Tryd.ntmps6
 go_wp2;refine qP (v:=.agg #[.int .i64 f,.int .i64 s,.int .i64 p]) (by simp[results,Tryd.results6,go_sem]) rfl ⟨rfl,?_⟩;exact dO (dO (dO (eR _ _) _) _) _
end Go.Proofs.YtfcjiloojkjaeaaDoor
namespace Go.Proofs.YtfcjiloojkjaeaaDoor
open Go.Mt Go.Tt
def glL:List Nat:=[18,19,72,73,78,79,69,71,76,87,80,77,82,81,75,86,89,91,92,93,94,95,96,97,98,99,100,101,4,5,6,7,9,10,11,12,14,15,16,17,27,28,29,30,31,32,53,54,55,56,57,58,59,60]
def alL:List Nat:=[3,4,5,6,7,8,9,10,11,12,13,14,15,16,17,18,19,27,28,29,30,31,32,53,54,55,56,57,58,59,60,81]
def flL:List Nat:=[81]
def olL:List Nat:=[13]
abbrev Bi:aN->Bool:=oK glL
abbrev fZ:aN->Bool:=oK flL
def zwk:S7 aK=true:=aS
def zst:glL.all (fnFit aK (oK flL) (oK glL))=true:=aS
def lvF:Lv aK (oK olL) (oK alL) Bi fZ:=
 lv_of zwk zst aS aS aS aS aS
def mG:uT (PS aK Bi) fZ:=zwE zwk zst aS
end Go.Proofs.YtfcjiloojkjaeaaDoor
namespace Go.Mt
open Go.Conc Go.Tt
def frO:Obj->Obj
 | .cells c T fz=>.cells c T (0,max c.size fz.2)
 |o=>o
def uN (X:Nat->Bool)(w:aE):World:={w with heap:=w.heap.mapIdx λi o=>if X i=true then frO o else o}
def thX (X:Nat->Bool)(w0 wn:aE):World:={wn with heap:=wn.heap.mapIdx λi o=>if X i=true then(w0.heap[i]?).getD o else o}
def reX (X:Nat->Bool)(w:aE):World:={w with heap:=w.heap.mapIdx λi o=>if X i=true then frO o else oM}
theorem Sq (X:Nat->Bool)(w:aE):(uN X w).heap.size=w.heap.size:=by simp[uN]
theorem zde (X:Nat->Bool)(w wn:aE):(thX X w wn).heap.size=wn.heap.size:=by simp[thX]
theorem zmb (X:Nat->Bool)(w:aE):(reX X w).heap.size=w.heap.size:=by simp[reX]
section
variable {X:Nat->Bool}{w wn:aE}{a:Nat}
theorem Mx (h:X a=false):(uN X w).heap[a]? =w.heap[a]? :=by
 simp[uN,L6,h]
variable {c:Array aF}{T:aM}
theorem P3 {fz:Nat×Nat}(h:X a=true)(hc:w.heap[a]? =some (.cells c T fz)):(uN X w).heap[a]? =some (.cells c T (0,max c.size fz.2)):=by
 simp[uN,L6,h,hc,frO]
theorem zdG {fz:Nat×Nat}(h:X a=true)(hc:w.heap[a]? =some (.cells c T fz)):(reX X w).heap[a]? =some (.cells c T (0,max c.size fz.2)):=by
 simp[reX,L6,h,hc,frO]
theorem zxb (h:X a=false)(ha:a<w.heap.size):(reX X w).heap[a]? =some oM:=by
 simp[reX,L6,h,ha]
theorem Ul (h:X a=false):(thX X w wn).heap[a]? =wn.heap[a]? :=by
 simp[thX,L6,h]
theorem zdm {o:Obj}(h:X a=true)(ha:a<wn.heap.size)(ho:w.heap[a]? =some o):(thX X w wn).heap[a]? =some o:=by
 simp[thX,L6,h,ho,ha]
end
inductive wF (X KD:Nat->Prop):aF->Prop
 |bool (b:Bool):wF X KD (.bool b)
 |int (k:IntKind) (n:Int):wF X KD (.int k n)
 |string (s:ByteArray):wF X KD (.string s)
 |nilFunc:wF X KD .nilFunc
 |nilIface:wF X KD .nilIface
 |pointer {a:Option bO}:(∀x,a=some x->X x.block)->wF X KD (.pointer a)
 |slice {a:Option bO} {n c:Nat}:(∀x,a=some x->X x.block)->wF X KD (.slice a n c)
 |chan {a:Option Nat}:(∀x,a=some x->KD x)->wF X KD (.chan a)
 |agg {xs:Array aF}:(∀(i:Nat) (v:aF),xs[i]? =some v->wF X KD v)->wF X KD (.agg xs)
 |tuple {xs:Array aF}:(∀(i:Nat) (v:aF),xs[i]? =some v->wF X KD v)->wF X KD (.tuple xs)
theorem vH.inX {X KD:Nat->Prop}{v:aF}(h:vH v):wF X KD v:=by
 induction h with
 |bool b=>exact .bool b
 |int k n=>exact .int k n
 |string s=>exact .string s
 |nilFunc=>exact .nilFunc
 |nilIface=>exact .nilIface
 |agg _ ih=>exact .agg ih
 |tuple _ ih=>exact .tuple ih
section
variable {S:aN->Prop}{K R K' R':Pr}{X KD:Nat->Prop}
theorem zwi {a a':Option bO}(x:wX R a a')(hR:∀p q,R p q->X p->R' p q)(h:∀y,a=some y->X y.block):wX R' a a':=by
 cases x with
 |none=>exact .none
 |some y=>
  cases y with
  |mk y=>exact .some (.mk (hR _ _ y (h _ rfl)))
theorem wF.vr {u v:aF}(x:VR S K R u v)(hR:∀a b,R a b->X a->R' a b)(hK:∀a b,R.or K a b->KD a->R'.or K' a b)(hu:wF X KD u):VR S K' R' u v:=by
 induction x with
 |bool b=>exact .bool b
 |int k n=>exact .int k n
 |string s=>exact .string s
 |nilFunc=>exact .nilFunc
 |nilIface=>exact .nilIface
 |pointer y=>cases hu with|pointer h=>exact .pointer (zwi y hR h)
 |slice y=>cases hu with|slice h=>exact .slice (zwi y hR h)
 |map _=>cases hu
 |chan y=>
  cases hu with
  |chan h=>
   refine .chan ?_
   cases y with
   |none=>exact .none
   |some y=>exact .some (hK _ _ y (h _ rfl))
 |func _ _ _ _ _ _ _=>cases hu
 |iface _ _=>cases hu
 |agg e _ ih=>cases hu with|agg h=>exact .agg e λi v v' h1 h2=>ih i v v' h1 h2 (h i v h1)
 |tuple e _ ih=>cases hu with|tuple h=>exact .tuple e λi v v' h1 h2=>ih i v v' h1 h2 (h i v h1)
 |junk h=>exact .junk h
end
section
variable {S:aN->Prop}{K R K' R':Pr}{G:Gp}{St St':Nat->Prop}{w W wn Wn:aE}{X:Nat->Bool}
structure XOk (R:Pr)(X:Nat->Bool)(w:aE):Prop where
 dom:∀a,X a=true->∃b,R a b
 cells:∀a,X a=true->∃c T fz,w.heap[a]? =some (.cells c T fz)
theorem zop (h:cT S K R G St w W)(hx:XOk R X w):cT S K R G (λa=>St a\/X a=true) (uN X w) W:=by
 have stC:∀a,St a->∃c T hi,w.heap[a]? =some (.cells c T (0,hi))/\c.size<=hi:=λa x=>(h.st a x).2;refine⟨h.inj,h.inj',λa b x=>by rw[Sq];exact h.lt a b x,h.low,by rw[Sq];exact h.gle,λa b x=>?_,λa b x hn=>?_,λa x=>?_,?_,h.tb⟩
 .obtain⟨o,o',h1,h2,h3⟩:=h.cont a b x
  cases e:X a with
  |false=>exact⟨o,o',(Mx e).trans h1,h2,h3⟩
  |true=>
   obtain⟨c,T,fz,hc⟩:=hx.cells a e;rw[hc] at h1;obtain rfl:=cD h1
   cases h3 with
   |cells rQ hf=>
    refine⟨_,_,P3 e hc,h2,.cells rQ λo ho=>?_⟩;have:=hf o ho;unfold Ja at this⊢;simp only;omega
 .cases e:X a with
  |false=>exact(Mx e).trans (h.rest a b x hn)
  |true=>
   obtain⟨c,hc⟩:=hx.dom a e;exact absurd hc (hn c)
 .cases e:X a with
  |false=>
   have x':St a:=x.resolve_right (by rw[e];simp);obtain⟨h1,c,T,hi,h2,h3⟩:=h.st a x';exact⟨h1,c,T,hi,(Mx e).trans h2,h3⟩
  |true=>
   obtain⟨c,T,fz,hc⟩:=hx.cells a e;exact⟨hx.dom a e,c,T,_,P3 e hc,zoM ..⟩
 .intro a c e hp
  cases ex:X a with
  |false=>
   rw[Mx ex] at hp;exact h.np a c e hp
  |true=>
   obtain⟨c',T,fz,hc⟩:=hx.cells a ex;rw[P3 ex hc] at hp;cases hp
theorem zrD (h:cT S K R G St w W)(hx:XOk R X w)(hle:R.le R')(hK:K.le K')(hn:cT S K' R' G St' wn Wn)(hs:∀a,St a->St' a)(aX:∀a b,X a=true->R a b->Wn.heap[b]? =W.heap[b]?):cT S K' R' G St (thX X w wn) Wn:=by
 have aP:∀a b,R' a b->a<wn.heap.size:=λa b x=>(hn.lt a b (.inl x)).1;refine⟨hn.inj,hn.inj',λa b x=>by rw[zde];exact hn.lt a b x,hn.low,by rw[zde];exact hn.gle,λa b x=>?_,λa b x dB=>?_,λa x=>?_,?_,hn.tb⟩
 .cases e:X a with
  |false=>
   obtain⟨o,o',h1,h2,h3⟩:=hn.cont a b x;exact⟨o,o',(Ul e).trans h1,h2,h3⟩
  |true=>
   obtain⟨b0,Sr⟩:=hx.dom a e;obtain rfl:=hn.inj a b b0 (.inl x) (.inl (hle _ _ Sr));obtain⟨o,o',h1,h2,h3⟩:=h.cont a b Sr;exact⟨o,o',zdm e (aP a b x) h1,(aX a b e Sr).trans h2,oA.monoK hK (h3.mono hle)⟩
 .cases e:X a with
  |false=>exact(Ul e).trans (hn.rest a b x dB)
  |true=>
   obtain⟨c,hc⟩:=hx.dom a e;exact absurd (hle _ _ hc) (dB c)
 .cases e:X a with
  |false=>
   obtain⟨h1,c,T,hi,h2,h3⟩:=hn.st a (hs a x);exact⟨h1,c,T,hi,(Ul e).trans h2,h3⟩
  |true=>
   obtain⟨⟨b,h1⟩,c,T,hi,h2,h3⟩:=h.st a x;exact⟨⟨b,hle _ _ h1⟩,c,T,hi,zdm e (aP a b (hle _ _ h1)) h2,h3⟩
 .intro a c e hp
  cases ex:X a with
  |false=>
   rw[Ul ex] at hp;exact hn.np a c e hp
  |true=>
   obtain⟨b,hb⟩:=hx.dom a ex;obtain⟨c',T,fz,hc⟩:=hx.cells a ex;rw[zdm ex (aP a b (hle _ _ hb)) hc] at hp;cases hp
def rX (R:Pr)(X:Nat->Bool):Pr:=λa b=>R a b/\X a=true
def kX (K:Pr)(KD:Nat->Prop):Pr:=λa b=>K a b/\KD a
theorem zBH (h:cT S K R G St w W)(hx:XOk R X w)(hT:∀g,G.tab g=true->X g=true){KD:Nat->Prop}(mF:∀a c T fz,X a=true->w.heap[a]? =some (.cells c T fz)->∀v∈c,wF (λa=>X a=true) KD v)(zDp:∀a b,R a b->KD a->X a=true):
 cT S (kX K KD) (rX R X) G (λa=>X a=true) (reX X w) W:=by
 have up:∀a b,(rX R X).or (kX K KD) a b->R.or K a b:=λa b x=>x.elim (λy=>.inl y.1) λy=>.inr y.1;refine⟨λa b c x y=>h.inj a b c (up _ _ x) (up _ _ y),λa b c x y=>h.inj' a b c (up _ _ x) (up _ _ y),λa b x=>by rw[zmb];exact h.lt a b (up _ _ x),λa b x=>h.low a b x.1,by rw[zmb];exact h.gle,λa b x=>?_,λa b x dB=>?_,λa x=>?_,?_,λg hg=>⟨h.tb g hg,hT g hg⟩⟩
 .obtain⟨o,o',h1,h2,h3⟩:=h.cont a b x.1
  obtain⟨c,T,fz,hc⟩:=hx.cells a x.2;rw[hc] at h1;obtain rfl:=cD h1
  cases h3 with
  |cells rQ hf=>
   refine⟨_,_,zdG x.2 hc,h2,.cells ⟨rQ.1,λi v v' h1 h2=>?_⟩ λo ho=>?_⟩
   .refine wF.vr (rQ.2 i v v' h1 h2) (λp q y z=>⟨y,z⟩) (λp q y z=>?_) (mF a c T fz x.2 hc v (Array.mem_of_getElem? h1))
    rcases y with y|y
    .exact .inl ⟨y,zDp p q y z⟩
    .exact .inr ⟨y,z⟩
   .have:=hf o ho
    unfold Ja at this⊢;simp only;omega
 .cases e:X a with
  |false=>exact zxb e (h.lt a b (.inr x.1)).1
  |true=>
   obtain⟨c,hc⟩:=hx.dom a e;exact absurd ⟨hc,e⟩ (dB c)
 .obtain⟨c,T,fz,hc⟩:=hx.cells a x
  obtain⟨b,hb⟩:=hx.dom a x;exact⟨⟨b,hb,x⟩,c,T,_,zdG x hc,zoM ..⟩
 .intro a c e hp
  cases ex:X a with
  |false=>
   by_cases ha:a<w.heap.size
   .rw[zxb ex ha] at hp
    unfold oM at hp;cases hp
   .have:=(dM.1 hp).1
    rw[zmb] at this;omega
  |true=>
   obtain⟨c',T,fz,hc⟩:=hx.cells a ex;rw[zdG ex hc] at hp;cases hp
end
end Go.Mt
namespace Go.Mt
open Go.Conc Go.Tt
open Go.ConcR (KK wgBlock WgAt stA smA rd wr DC0)
section
variable {p:bS}{Post:aF->aE->Prop}{Shun:Loc->Prop}
def BJ (p:bS)(Post:aF->aE->Prop)(Shun:Loc->Prop)(τ:cE)(g:Goroutine)(W:aE):Prop:=
 (∀b,τ.own b\/τ.still b->b<W.heap.size/\∀l,mY l b->¬Shun l)->(∀l b,mY l b->W.heap.size<=b->¬Shun l)->J p Post Shun W.heap.size g W
theorem zED {O Z:Nat->Prop}{B:Nat}{e:Event}(h:EvQ O Z e)(hO:∀b,O b\/Z b->b<B/\∀l,mY l b->¬Shun l):EvL Shun B e:=by
 rcases h with rfl|⟨b,h1,h2⟩
 .exact⟨λx hx=>by simp[jB,qG] at hx,aQ,aQ,trivial⟩
 .obtain⟨hb,hs⟩:=hO b (h2.imp id And.left)
  obtain⟨loc,wr,sy⟩:=e
  cases loc with
  |cell x=>
   simp only[Gw,fS] at h1;refine⟨λy hy lE=>?_,aQ,aQ,?_⟩
   .simp only[jB,qG,fS] at hy
    subst hy;exact absurd lE (hs _ h1)
   .show x.block<B
    rw[h1];exact hb
  |obj r=>
   simp only[Gw,fS] at h1;have hr:r<B:=by rw[h1];exact hb
   refine⟨λy hy lE=>?_,aQ,aQ,?_⟩
   .have V7:y.loc=.obj r:=by
     cases wr<;>cases sy<;>simp only[jB,qG,fS] at hy<;>first|(subst hy;rfl)|(cases hy;done)
    exact absurd (V7▸lE) (hs (.obj r) h1)
   .cases wr<;>cases sy<;>exact hr
  |_=>simp[Gw] at h1
variable {ty:aM}
def zBt {Wg:Nat}{τ:cE}{w:aE}(d:Nat):bT ty Wg τ w (w.at d):=⟨rfl,rfl,rfl,aZ _,λ_ _=>rfl,λx=>x⟩
theorem bj_ok {Wg:Nat}(τ:cE)(g:Goroutine)(w:aE)(cF:g.status=.running)(h:OwnQ p ty Wg true (BJ p Post Shun) τ g w):BJ p Post Shun τ g w:=by
 intro h1 h2;have grow:∀(d:Nat) {w':aE},w.heap.size<=w'.heap.size->(∀b,(τ.grow (w.at d) w').own b\/τ.still b->b<w'.heap.size/\∀l,mY l b->¬Shun l)/\∀l b,mY l b->w'.heap.size<=b->¬Shun l:=λd w' hs=>by
  refine⟨λb hb=>?_,λl b hl hb=>h2 l b hl (eP hs hb)⟩;rcases hb with(hb|⟨hb,bY⟩)|hb
  .exact⟨lA (h1 b (.inl hb)).1 hs,(h1 b (.inl hb)).2⟩
  .exact⟨bY,λl hl=>h2 l b hl hb⟩
  .exact⟨lA (h1 b (.inr hb)).1 hs,(h1 b (.inr hb)).2⟩
 refine J.own cF λd=>?_;obtain⟨g',w',es,a1,a2,a3,a4,a5⟩:=h (w.at d) (zBt d);obtain⟨k1,k2⟩:=grow d a3.size;exact⟨g',w',es,w'.heap.size,a1,λe he=>zED (a4 e he) k1,a3.size,a5 k1 k2⟩
structure IA (W0:aE)(St:Nat->Prop)(Shun:Loc->Prop)(R0:Pr)(R:Pr)(τ:cE)(W:aE):Prop where
 kp:Kp W0 R St W
 sh:Sh W0.heap.size Shun R W
 still:∀b,b<W0.heap.size->τ.still b
 le:R0.le R
def D6 (p:bS)(gs fs:aN->Bool)(Post:aF->aE->Prop)(Shun:Loc->Prop)(W0:aE)(St:Nat->Prop)(K R0:Pr)(base:List Frame):Cx Unit:=
 {p:=p,gs:=gs,fs:=fs,ty:=0,Wg:=0,A:=⟨λ_=>.wait,λ_ _=>True,λ_=>false,λ_=>True,λ_ _=>True,λ_ _=>[]⟩,Fin:=λ_ _=>True,main:=true,base:=base,ds:=.nil,K:=K,St:=St,I:=IA W0 St Shun R0,pin:=[],alone:=some (BJ p Post Shun),aok:=λB h τ g w hr ho=>(by cases h;exact bj_ok τ g w hr ho)}
variable {gs fs:aN->Bool}{W0:aE}{St:Nat->Prop}{K R0:Pr}{base:List Frame}
theorem cY:fB (D6 p gs fs Post Shun W0 St K R0 base):=by
 refine⟨λR τ W aV h s=>?_,λR τ W R1 W1 h ht hs=>?_⟩
 .have h:=h
  exact⟨⟨s.os.trans h.kp.os,s.tape.trans h.kp.tape,s.output.trans h.kp.output,eP h.kp.size s.size,λb hb=>(s.keep b (.inr (h.still b hb))).trans (h.kp.block b hb),h.kp.old⟩,⟨h.sh.old,h.sh.rel,λl b hl hb=>h.sh.new l b hl (eP s.size hb)⟩,h.still,h.le⟩
 .have h:=h
  have hs:=hs;refine⟨⟨hs.os.trans h.kp.os,hs.tape.trans h.kp.tape,hs.output.trans h.kp.output,eP h.kp.size hs.size,λb hb=>?_,λa b x hb=>?_⟩,⟨h.sh.old,λa b x l hl=>?_,λl b hl hb=>h.sh.new l b hl (eP hs.size hb)⟩,h.still,h.le.trans hs.le⟩
  .rw[hs.keep b (lA hb h.kp.size) (λa x=>h.kp.old a b x hb)]
   exact h.kp.block b hb
  .rcases hs.new a b x with y|⟨y,_⟩
   .exact h.kp.old a b y hb
   .have:=h.kp.size;omega
  .rcases hs.new a b x with y|⟨y,_⟩
   .exact h.sh.rel a b y l hl
   .exact h.sh.new l b hl y
def tauA (R:Pr)(St:Nat->Prop)(W0:aE):cE:=⟨λb=>∃a,R a b/\¬St a,λb=>b<W0.heap.size\/∃a,R a b/\St a,λ_=>False⟩
def zHR {R:Pr}:uZ (tauA R St W0) R St:=λa b x=>⟨λh=>.inr ⟨a,x,h⟩,λh=>⟨a,x,h⟩⟩
variable {m':Fm}
theorem BO.aloneIn {R:Pr}{m:Fm}{w W:aE}(h:BO (D6 p gs fs Post Shun W0 St K R base) () m w)(hw:cT (SF fs) K R (oR p) St w W)(hm:FmW (D6 p gs fs Post Shun W0 St K R base) R m m')(lE:Sh W0.heap.size Shun R W)(hk:Kp W0 R St W):
 J p Post Shun W.heap.size (G m'.fr base) W:=by
 have:=h R W m' (tauA R St W0) hw hm zHR ⟨hk,lE,λb hb=>.inl hb,.refl R⟩;rw[Cx.B_some rfl] at this;have e:fx [] (D6 p gs fs Post Shun W0 St K R base).ds m'=m'.fr:=Fc _;rw[e] at this;refine this (λb hb=>?_) lE.new;rcases hb with⟨a,x,_⟩|hb|⟨a,x,_⟩
 .exact⟨(hw.lt a b (.inl x)).2,lE.rel a b x⟩
 .exact⟨lA hb hk.size,λl hl=>lE.old l b hl hb⟩
 .exact⟨(hw.lt a b (.inl x)).2,lE.rel a b x⟩
theorem BO.aloneOut {op zkQ:aN->Bool}{m:Fm}{ms ms':List Fm}(hm:oV (PL p op zkQ) fs K R0 m m')(iJ:uD (PL p op zkQ) fs K R0 ms ms')(qZ:base=m'.fr::ms'.map Fm.fr){ops:Array aY}{i:Nat}{rest:List Nat}{k:List Item}(hr:m.ret=false)(pR:m.todo=.inRegion ops (i::rest)::k)
 {f:aN} {tmps:Array aF} {todo:List Item} {w:aE} {v:aF} {fnf:Func} (hf:p.funcs[f]? =some fnf) (lS:Cs fnf.results.toList) (hv:(nY fnf.results.toList tmps).run p w=.ok v w) (hJ:JL p op zkQ fs St W0 Post (m.fin ops i rest k v) ms w):
 BO (D6 p gs fs Post Shun W0 St K R0 base) () ⟨f,tmps,todo,true⟩ w:=by
 intro R W x' τ hw hx ht hi;have hi:IA W0 St Shun R0 R τ W:=hi;obtain⟨f',bQ,yJ,x3⟩:=x';obtain rfl:=hx.fn;obtain rfl:=hx.todo;obtain rfl:=hx.ret;have vN:m'.ret=false:=hm.ret.symm.trans hr;have Og:m'.todo=.inRegion ops (i::rest)::k:=hm.todo.symm.trans pR;refine Cx.ownQ rfl λaV s=>?_;have hC:=cY (p:=p) (gs:=gs) (fs:=fs) (Post:=Post) (Shun:=Shun) (W0:=W0) (St:=St) (K:=K) (R0:=R0) (base:=base);have dH:cT (SF fs) K R (oR p) St w aV:=Cx.Rel.suf (C:=D6 p gs fs Post Shun W0 St K R0 base) hw ht s;have yH:IA W0 St Shun R0 R τ aV:=hC.suf _ _ _ _ hi s
 let T:Tape:=λn q=>aV.tape (aV.drawn+n) q
 have xX:cT (SF fs) K R (oR p) St (Tt.tp w T 0) aV:=⟨dH.inj,dH.inj',dH.lt,dH.low,dH.gle,dH.cont,dH.rest,dH.st,dH.np,dH.tb⟩;have K7:Tp (Tt.tp w T 0) aV:=λn q=>by show aV.tape (aV.drawn+(0+n)) q=_;rw[Nat.zero_add]
 have cF:=(Nz _ _ w v w hv).2 T 0;obtain⟨R1,v',W1,ev,e1,g3,e3,e4,e5⟩:=aG.run (P:=PS p gs) rfl _ (zkY hx.tmps fnf.results.toList) xX K7 cF;obtain⟨zfu,_⟩:=Nz _ _ aV v' W1 e1;subst zfu;have N3:(yN p ⟨f,bQ,todo,true⟩ [m']).run p W1=.ok (m'.fin ops i rest k v',[]) W1:=(Jw Og hf e1).1;obtain⟨_,_,_,e⟩:=zew (main:=true) rfl vN N3 [] .nil (ms'.map Fm.fr);rw[Fc,Fc] at e;have Rn:fx [] (D6 p gs fs Post Shun W0 St K R0 base).ds ⟨f,bQ,todo,true⟩=(⟨f,bQ,todo,true⟩:Fm).fr:=Fc _;rw[Rn];have Rl:∀e∈seen p f ((yN p ⟨f,bQ,todo,true⟩ [m']).events p W1 #[]),Ft R1 St e:=λe he=>by
  rw[(Jw Og hf e1).2,e4] at he;exact e5 e (by simpa using mem_seen he)
 have Bd:∀a b,R1 a b->R a b\/(W1.heap.size<=b/\b<W1.heap.size):=λa b x=>by
  rcases e3.new a b x with y|⟨_,y⟩
  .exact .inl y
  .exact .inr ⟨y,(e3.rel.ltR a b x).2⟩
 have Ff:uZ (τ.grow W1 W1) R1 St:=λa b x=>by
  rcases e3.new a b x with y|⟨y1,y2⟩
  .exact⟨(ht a b y).1,λz=>.inl ((ht a b y).2 z)⟩
  .have:=(e3.rel.ltR a b x).2;omega
 have y5:IA W0 St Shun R0 R1 (τ.grow W1 W1) W1:=hC.step R τ W1 R1 W1 yH ht ⟨e3.le,rfl,rfl,rfl,aZ _,Bd,λ_ _ _=>rfl⟩;refine⟨G (m'.fin ops i rest k v').fr (ms'.map Fm.fr),W1,_,?_,rfl,zA.id _ _,λe he=>zeE (Rl e he) Ff,?_⟩
 .show stepG p true (G (Fm.fr _) base) W1=_
  rw[qZ];exact e
 .rw[Cx.B_some rfl]
  intro _ _;have Ty:cT (SF fs) K R1 (oR p) St w W1:=⟨e3.rel.inj,e3.rel.inj',e3.rel.lt,e3.rel.low,e3.rel.gle,e3.rel.cont,e3.rel.rest,e3.rel.st,e3.rel.np,e3.rel.tb⟩;have hle:R0.le R1:=yH.le.trans e3.le;exact hJ K R1 W1 _ ms' Shun Ty ((hm.mono hle).fin pR g3) (iJ.mono hle) y5.sh y5.kp
end
end Go.Mt
namespace Go.Mt
open Go.Conc Go.Tt Go.RowKit Go.Conc.Lib Go.ConcR.Gen
open Go.ConcR (KK wgBlock WgAt stA smA rd wr mk Payload DC0)
variable [Payload]{Lk:WgLink}
section
variable {p:bS}
theorem zxK (H:WgLib p Lk)(Wg:Nat):Ed p Lk.wait #[.pointer (some ⟨Wg,0,none⟩)] .normal=(Ju Lk.wait).at ⟨#[.pointer (some ⟨Wg,0,none⟩),aA,aA,aA,aA,aA,aA,aA,aA,aA,aA,aA,aA,aA,aA,aA,aA,aA,aA,aA,aA,aA,aA,aA,aA,aA,aA,aA,aA,aA,aA,aA,aA,aA,aA,aA,aA,aA,aA,aA,aA,aA,aA,aA,aA,aA,aA,aA,aA,aA,aA,aA,aA,aA,aA,aA,aA,aA,aA,aA,aA,aA,aA,aA,aA,aA,aA,aA,aA,aA,aA,aA,aA,aA,aA,aA,aA,aA,aA,aA,aA,aA,aA,aA],[]⟩ [.code (body_wait Lk)]:=by
 have h:=zpa (P:=p) (f:=Lk.wait) (fn:=waitFn Lk) (c:=body_wait Lk) #[.pointer (some ⟨Wg,0,none⟩)] H.f_wait rfl;rw[h];have e:(waitFn Lk).ntmps=84:=rfl;rw[e]
 walk_nrm
theorem zzN (H:WgLib p Lk)(Wg:Nat):Ed p Lk.add #[.pointer (some ⟨Wg,0,none⟩),.int .i64 1] .normal=(Ju Lk.add).at ⟨#[.pointer (some ⟨Wg,0,none⟩),.int .i64 1,aA,aA,aA,aA,aA,aA,aA,aA,aA,aA,aA,aA,aA,aA,aA,aA,aA,aA,aA,aA,aA,aA,aA,aA,aA,aA,aA,aA,aA,aA,aA,aA,aA,aA,aA,aA,aA,aA,aA,aA,aA,aA,aA,aA,aA,aA,aA,aA,aA,aA,aA,aA,aA,aA,aA,aA,aA,aA,aA,aA,aA,aA,aA,aA,aA,aA,aA,aA,aA,aA,aA,aA,aA,aA,aA,aA,aA,aA,aA,aA,aA,aA,aA,aA,aA,aA,aA,aA,aA,aA,aA,aA,aA,aA,aA,aA,aA,aA,aA,aA,aA,aA,aA,aA,aA,aA,aA,aA,aA,aA,aA,aA,aA,aA,aA],[]⟩ [.code (L9 Lk)]:=by
 have h:=zpa (P:=p) (f:=Lk.add) (fn:=addFn Lk) (c:=L9 Lk) #[.pointer (some ⟨Wg,0,none⟩),.int .i64 1] H.f_add rfl;rw[h];have e:(addFn Lk).ntmps=117:=rfl;rw[e]
 walk_nrm
end
section
variable {L:Type}{C:Cx L}{l nx:L}{I0:Pr->cE->aE->Prop}
theorem zuL (hC:C.ty=Lk.tWg)(hX:IX Lk.tWg C.Wg I0){R:Pr}{τ:cE}{w:aE}(ht:uZ τ R C.St):Fl Lk.tWg C.Wg τ (λW=>C.Rel R w W/\I0 R τ W):=by
 refine⟨λW W' s hF=>⟨zlO hF.1 ht (λa b x=>(hF.1.lt a b (.inr x)).2) s,hX.suf _ _ _ _ hF.2 s⟩,λW a v ha hF=>⟨?_,hX.cell _ _ _ _ _ hF.2 ha⟩⟩;exact cT.real hF.1 (λx b hx=>zbR W a v (by rw[ha];exact hX.rel _ _ _ hF.2 x b hx)) (by rw[Hc];exact aZ _)
theorem BO.add (H:WgLib C.p Lk)(ha:C.alone=none)(zeK:C.main=true)(Bh:C.ty=Lk.tWg)(hI:fB C)(zgz:C.I=yK Lk.tWg C.Wg I0)(hX:IX Lk.tWg C.Wg I0){fn:aN}{tmps:Array aF}{ops:Array aY}{i:Nat}{rest:List Nat}{k:List Item}{w:aE}{o:aY}{s:Tmp}{j8:Array aM}
 (ho:ops[i]? =some o) (cC:dA o (yielded ops tmps)=true) (hop:o.op=.call ⟨.value (.func Lk.add),#[.tmp s,.const (.int .i64 1)],j8⟩) (C2:(s,.pointer (some ⟨C.Wg,0,none⟩))∈C.pin) (lD:∀s,o.dst=some s->s∉C.S) (pN:C.A.act l=.add nx)
 (h:BO C nx ⟨fn,(b7 ⟨tmps,[]⟩ o.dst (.tuple #[])).tmps,.inRegion ops rest::k,false⟩ w):BO C l ⟨fn,tmps,.inRegion ops (i::rest)::k,false⟩ w:=by
 intro R W m' τ hw hm ht hi;obtain⟨fn',bQ,yJ,x3⟩:=m';obtain rfl:=hm.fn;obtain rfl:=hm.todo;obtain rfl:=hm.ret;have uH:=Hd (C:=C) hm.tmps cC;have h5:=hm.pins _ C2;have hb:=C.ds.ok;rw[mE,Cx.B_none ha,zeK,Bh];rw[zgz] at hi;have kf:=zuL (C:=C) (w:=w) Bh hX ht;have Dz:∀v,b7 ⟨bQ,C.ds.ds⟩ o.dst v=⟨(b7 ⟨bQ,[]⟩ o.dst v).tmps,C.ds.ds⟩:=λv=>by cases o.dst<;>rfl
 refine L3 rfl rfl (g':=G ((Ju Lk.add).at ⟨#[.pointer (some ⟨C.Wg,0,none⟩),.int .i64 1,aA,aA,aA,aA,aA,aA,aA,aA,aA,aA,aA,aA,aA,aA,aA,aA,aA,aA,aA,aA,aA,aA,aA,aA,aA,aA,aA,aA,aA,aA,aA,aA,aA,aA,aA,aA,aA,aA,aA,aA,aA,aA,aA,aA,aA,aA,aA,aA,aA,aA,aA,aA,aA,aA,aA,aA,aA,aA,aA,aA,aA,aA,aA,aA,aA,aA,aA,aA,aA,aA,aA,aA,aA,aA,aA,aA,aA,aA,aA,aA,aA,aA,aA,aA,aA,aA,aA,aA,aA,aA,aA,aA,aA,aA,aA,aA,aA,aA,aA,aA,aA,aA,aA,aA,aA,aA,aA,aA,aA,aA,aA,aA,aA,aA,aA],[]⟩ [.code (L9 Lk)]) ((C.ds.base fn).at ⟨bQ,C.ds.ds⟩ (.inRegion ops (i::rest)::k)::C.base)) (λFa s2=>?_) λFa s2=>?_
 .obtain⟨x1,x2⟩:=zct (p:=C.p) (o:=o) hop (ρ:=(bH bQ C.ds.ds).eval) (λg=>rfl) H.f_add rfl rfl Fa
  have rR:(#[.tmp s,.const (.int .i64 1)]:Array cM).map (bH bQ C.ds.ds).eval=#[.pointer (some ⟨C.Wg,0,none⟩),.int .i64 1]:=by simp only[uG,fG,tH,vW];rw[h5]
  rw[rR] at x1;have zac:=stepG_enter (main:=true) (b:=C.ds.base fn) (a:=⟨bQ,C.ds.ds⟩) (rest:=rest) (cs:=C.base) (k:=k) ho uH hb x1;rw[zac];unfold listed;rw[x2,Bm,zzN H]
 .refine addW (A:=C.A) (b₀:=C.ds.base fn) (a₀:=⟨bQ,C.ds.ds⟩) (ops₀:=ops) (i₀:=i) (rest₀:=rest) (k₀:=k) (cs:=C.base) (Fin:=C.Fin) (l:=l) (nx:=nx) (Wg:=C.Wg) H pN kf (λW5 h5 zGx=>?_) Fa ⟨kf.suf _ _ s2 ⟨hw,hi.1⟩,s2.live hi.2⟩
  have hB:=h R W5 ⟨fn,(b7 ⟨bQ,[]⟩ o.dst (.tuple #[])).tmps,.inRegion ops rest::k,false⟩ τ h5.1 ⟨rfl,rfl,rfl,Hh (C:=C) hm.tmps (.tuple rfl λi v v' h=>by simp at h),Is (C:=C) hm.pins lD⟩ ht (by rw[zgz];exact⟨h5.2,zGx⟩);rw[mE,Cx.B_none ha,zeK,Bh] at hB;rw[ho];simp only[Option.bind_some];rw[Dz];exact hB
end
section
variable {L:Type}{C:Cx L}{l nx lc:L}
structure zlv (τ τm τc:cE)(pub:List Nat)(W:aE):Prop where
 own:∀b,τm.own b\/τc.own b->τ.own b
 still:∀b,τm.still b\/τc.still b->τ.still b\/τ.own b
 pass:∀b,τm.pass b\/τc.pass b->τ.pass b\/τ.own b\/τ.still b
 apart:∀b,τm.own b->¬τc.own b/\¬τc.still b/\¬τc.pass b
 apart':∀b,τc.own b->¬τm.still b/\¬τm.pass b
 pub:∀a∈pub,τ.own a/\Ic W a/\¬τm.own a/\¬τm.still a/\¬τc.own a/\¬τc.still a
theorem BO.go (ha:C.alone=none)(hI:fB C){fn:aN}{tmps:Array aF}{ops:Array aY}{i j:Nat}{rest:List Nat}{k:List Item}{w:aE}{o1 o2:aY}{s:Tmp}{f:aN}{Gb:Array cM}{pub:List Nat}
 (yM:ops[i]? =some o1) (zam:ops[j]? =some o2) (qX:o1.guard=none) (yA:o2.guard=none) (ztw:o1.op=.makeFunc (.func f) #[] Gb) (Nh:o1.dst=some s) (zqq:o2.op=.go ⟨.value (.tmp s),#[],#[]⟩) (Aj:o2.dst=none) (pN:C.A.act l=.spawn pub lc nx) (hs:s<tmps.size)
 (h:∀(R:Pr) (W:aE) (bQ:Array aF) (τ:cE),C.Rel R w W->bK (SF C.fs) C.K R tmps bQ->(∀x∈C.pin,bQ.getD x.1 aA=x.2)->uZ τ R C.St->C.I R τ W->∃τm τc,zlv τ τm τc pub W/\
  bZ C.p C.ty C.Wg C.A C.Fin C.main (.usr nx) 0 τm (G ((C.ds.base fn).at ⟨bQ.setIfInBounds s (.func (.func f) #[] (Gb.map (bH bQ C.ds.ds).eval)),C.ds.ds⟩ (.inRegion ops rest::k)) C.base) W/\
  bZ C.p C.ty C.Wg C.A C.Fin false (.usr lc) 0 τc (born C.p {target:=.fn (.func f) (Gb.map (bH bQ C.ds.ds).eval),args:=#[]}) W):BO C l ⟨fn,tmps,.inRegion ops (i::j::rest)::k,false⟩ w:=by
 intro R W m' τ hw hm ht hi;obtain⟨fn',bQ,yJ,x3⟩:=m';obtain rfl:=hm.fn;obtain rfl:=hm.todo;obtain rfl:=hm.ret;have hb:=C.ds.ok;rw[mE,Cx.B_none ha];have cH:=Nat.lt_of_lt_of_eq hs hm.tmps.1;obtain⟨zK6,zLA,type1,zqH,zo6,zKZ⟩:=o1;obtain⟨zL7,zLj,type2,zwu,zsz,zLR⟩:=o2;simp only at qX yA ztw zqq Nh Aj;subst qX yA ztw zqq Nh Aj;have wn:∀{o:aY} {t:Array aF},o.guard=none->dA o (yielded ops t)=true:=λh=>by unfold dA;rw[h]
 refine L3 rfl rfl (g':=G ((C.ds.base fn).at ⟨bQ.setIfInBounds s (.func (.func f) #[] (Gb.map (bH bQ C.ds.ds).eval)),C.ds.ds⟩ (.inRegion ops (j::rest)::k)) C.base) (λaV s1=>?_) λaV s1=>?_
 .have x1:(aO (bH bQ C.ds.ds).eval ⟨some s,.makeFunc (.func f) #[] Gb,type1,zqH,zo6,none⟩).run C.p aV=.ok (.value (.func (.func f) #[] (Gb.map (bH bQ C.ds.ds).eval))) aV:=by simp[aO,go_sem,zwd,pure,bD]
  have x2:(aO (bH bQ C.ds.ds).eval ⟨some s,.makeFunc (.func f) #[] Gb,type1,zqH,zo6,none⟩).events C.p aV #[]=#[]:=by simp[aO,go_sem,zwd]
  rw[stepG_value yM (wn rfl) hb x1];unfold listed;rw[x2,Bm];rfl
 .refine bZ.usr rfl ?_
  unfold l9;rw[pN];refine⟨rfl,λFa s2=>?_⟩;have s3:=s1.trans s2;obtain⟨τm,τc,hp,Fs,nI⟩:=h R Fa bQ τ (hw.suf ht s3) hm.tmps hm.pins ht (hI.suf _ _ _ _ hi s3);refine⟨_,_,τm,τc,?_,rfl,rfl,hp.own,hp.still,hp.pass,hp.apart,hp.apart',hp.pub,Fs,nI⟩;have x0:(bH (bQ.setIfInBounds s (.func (.func f) #[] (Gb.map (bH bQ C.ds.ds).eval))) C.ds.ds).eval (.tmp s)=.func (.func f) #[] (Gb.map (bH bQ C.ds.ds).eval):=by
   simp[vW,Array.getD_eq_getD_getElem?,cH]
  have x1:(aO (bH (bQ.setIfInBounds s (.func (.func f) #[] (Gb.map (bH bQ C.ds.ds).eval))) C.ds.ds).eval ⟨none,.go ⟨.value (.tmp s),#[],#[]⟩,type2,zwu,zsz,none⟩).run C.p Fa=.ok (.spawn {target:=.fn (.func f) (Gb.map (bH bQ C.ds.ds).eval),args:=#[]}) Fa:=by
   simp only[aO,resolve,x0];simp[Bg,go_sem]
  have x2:(aO (bH (bQ.setIfInBounds s (.func (.func f) #[] (Gb.map (bH bQ C.ds.ds).eval))) C.ds.ds).eval ⟨none,.go ⟨.value (.tmp s),#[],#[]⟩,type2,zwu,zsz,none⟩).events C.p Fa #[]=#[]:=by
   simp only[aO,resolve,x0];simp[Bg,go_sem]
  rw[stepG_spawn zam (wn rfl) hb x1 rfl];unfold listed;rw[x2,Bm];rfl
end
end Go.Mt
namespace Go.Mt
open Go.Conc Go.Tt
open Go.ConcR (KK wgBlock WgAt stA smA rd wr mk Payload DC0)
inductive xN (S:aN->Prop)(K R:Pr):List aF->List aF->Prop
 |nil:xN S K R [] []
 |cons {v v':aF} {l l':List aF}:VR S K R v v'->xN S K R l l'->xN S K R (v::l) (v'::l')
variable {S:aN->Prop}{K R:Pr}{l l':List aF}
theorem xN.len (h:xN S K R l l'):l.length=l'.length:=by
 induction h with
 |nil=>rfl
 |cons _ _ ih=>simp[ih]
theorem xN.get (h:xN S K R l l'):∀(i:Nat) (v v':aF),l[i]? =some v->l'[i]? =some v'->VR S K R v v':=by
 induction h with
 |nil=>intro i v v' h1;simp at h1
 |cons a _ ih=>
  intro i v v' h1 h2
  cases i with
  |zero=>
   simp only[List.getElem?_cons_zero,fS] at h1 h2;subst h1 h2;exact a
  |succ i=>exact ih i v v' Qb Qz
theorem zvj (h:xN S K R l l'):bK S K R l.toArray l'.toArray:=
 ⟨by simpa using h.len,λi v v' h1 h2=>h.get i v v' Qb Qz⟩
structure IM2 (W0:aE)(St:Nat->Prop)(Shun:Loc->Prop)(Wg:Nat)(SS:Nat->Prop)(R0:Pr)(Fz:Nat->Prop)(Wf:aE)(chs:List Nat)(R:Pr)(τ:cE)(W:aE):Prop where
 x:IMX W0 St Shun Wg SS R0 Fz Wf R τ W
 dis:∀b,τ.own b->¬τ.still b
 slt:∀b,τ.still b->b<W.heap.size
 ch:∀c∈chs,τ.own c/\Ic W c/\∀a,¬R a c
section
variable {W0:aE}{St:Nat->Prop}{Shun:Loc->Prop}{Wg:Nat}{SS:Nat->Prop}{R0:Pr}{Fz:Nat->Prop}{Wf:aE}{chs:List Nat}
def Ic.lt {W:aE}{c:Nat}(h:Ic W c):c<W.heap.size:=(dM.1 h).1
theorem zq0 {ty:aM}(vC:∀b,b<W0.heap.size->SS b)(hF:∀b,Fz b->SS b)(nL:W0.heap.size<=Wg):IX ty Wg (IM2 W0 St Shun Wg SS R0 Fz Wf chs):=by
 have hx:=zvd (ty:=ty) (St:=St) (Shun:=Shun) (Wg:=Wg) (R0:=R0) (Wf:=Wf) vC hF nL;refine⟨λR τ W aV h s=>⟨hx.suf _ _ _ _ h.x s,h.dis,λb hb=>lA (h.slt b hb) s.size,λc hc=>?_⟩,λR τ W a v h ha=>⟨hx.cell _ _ _ _ _ h.x ha,h.dis,λb hb=>by rw[Hc];exact h.slt b hb,λc hc=>?_⟩,λR τ W d h=>⟨hx.at_ _ _ _ d h.x,h.dis,h.slt,h.ch⟩,λR τ W h=>h.x.im.rel⟩
 .obtain⟨h1,h2,h3⟩:=h.ch c hc
  exact⟨h1,(s.keep c (.inl h1)).trans h2,h3⟩
 .obtain⟨h1,h2,h3⟩:=h.ch c hc
  exact⟨h1,(zbR W a v (by rw[ha];exact h.x.im.own c h1)).trans h2,h3⟩
variable {L:Type}{C:Cx L}
theorem im2_ok (hC:C.I=yK C.ty C.Wg (IM2 W0 St Shun C.Wg SS R0 Fz Wf chs))(aX:∀a,St a->C.St a)(vC:∀b,b<W0.heap.size->SS b)(hF:∀b,Fz b->SS b)(nL:W0.heap.size<=C.Wg):fB C:=by
 have h0:=imx_ok (C:={C with I:=yK C.ty C.Wg (IMX W0 St Shun C.Wg SS R0 Fz Wf)}) rfl aX vC hF nL;have hx:=zq0 (ty:=C.ty) (St:=St) (Shun:=Shun) (R0:=R0) (Wf:=Wf) (chs:=chs) vC hF nL;refine⟨λR τ W aV h s=>?_,λR τ W R1 W1 h ht hs=>?_⟩<;>rw[hC] at*
 .exact⟨hx.suf _ _ _ _ h.1 s,s.live h.2⟩
 .obtain⟨k1,k2⟩:=h0.step R τ W R1 W1 ⟨h.1.x,h.2⟩ ht hs
  refine⟨⟨k1,λb hb G0=>?_,λb hb=>lA (h.1.slt b hb) hs.size,λc hc=>?_⟩,k2⟩
  .rcases hb with hb|⟨hb,_⟩
   .exact h.1.dis b hb G0
   .have:=h.1.slt b G0;omega
  .obtain⟨h1,h2,h3⟩:=h.1.ch c hc
   refine⟨.inl h1,(hs.keep c h2.lt λa x=>absurd x (h3 a)).trans h2,λa x=>?_⟩;rcases hs.new a c x with y|⟨y,_⟩
   .exact h3 a y
   .have:=h2.lt;omega
variable {S:aN->Prop}{K R:Pr}{G:Gp}{eD:Nat->Prop}{w W:aE}{τ:cE}{X:Nat->Bool}
def Fp (R:Pr)(St:Nat->Prop)(X:Nat->Bool)(b:Nat):Prop:=∃a,R a b/\(St a\/X a=true)
def tauP (R:Pr)(St:Nat->Prop)(W0:aE)(chs:List Nat):cE:=⟨λb=>(∃a,R a b/\¬St a)\/b∈chs,λb=>b<W0.heap.size\/∃a,R a b/\St a,λ_=>False⟩
def zyI:uZ (tauP R St W0 chs) R St:=λa b x=>⟨λh=>.inr ⟨a,x,h⟩,λh=>.inl ⟨a,x,h⟩⟩
end
end Go.Mt
