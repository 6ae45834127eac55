/-
  Part 2 of what stands behind the last text.
-/
import Derived.Conc.Token
import Derived.Conc.CompanyDraw
import Derived.Conc.LoneCalls
import Derived.Test.YtfcjiloojkjaeaaDoorClockPq1
set_option linter.all false
open Array renaming all_eq_true→zmZ,empty_append→zib,ext'→Jr,forIn_toList→zuV,getElem?_eq_getElem→nA,getElem?_eq_some_iff→dM,getElem?_map→xP,getElem?_push→Xh,getElem?_setIfInBounds_ne→jM,getElem?_setIfInBounds_self_of_lt→Mb,mem_append→ztX,replicate→nD,size_append→Ua,size_setIfInBounds→zvk,toList_inj→zal,toList_map→zq9
open Array.mk renaming injEq→zfq
open Bool renaming and_eq_true→fN,false_eq_true→iU,noConfusion→I5,or_eq_true→Dq
open Classical renaming byContradiction→zD
open Go renaming Addr→bO,CommCase→ziW,CommShape→Nk,Event→oE,Frame→dE,FuncId→aN,Goroutine→bC,HappensBefore→zfe,Item→dW,Machine→Zy,MemOp→Sx,Oper→aY,Operand→cM,Program→bS,ResultVar→O2,Sem→cS,Tape→kK,Trace→lJ,TypeId→aM,Value→aF,World→aE,deafBehind→nN,execOp→aO,undef→aA,yielded→dN
open Go.CommCase.mk renaming injEq→zdl
open Go.CommShape.recv renaming injEq→zH2
open Go.Conc renaming Aside→Jy,Deaf→gV,Deaf_other→Nj,Knows→Lp,act?_old→zaG,aside_setCell→U7,base→Ju,deafBehind_still→znZ,deaf_old→zd2,finishComm_recv→zhR,finishComm_send→zwz,g?_old→Qp,getElem?_stand→ztk,heard_old→zlt,listed→wK,lt_of_act?→zcU,lt_size_of_getElem?→Wv,mem_of_getElem?→zl5,noRace_append→zvF,ofEvents_eq→Wp,offersAt_of_not_blocked→U1,offersAt_parked_recv→zhX,offersAt_parked_send→zkh,ph→zdF,runT_crowd_go→X0,served→oO,step_solo_go→zbE,touch_mute→zkH,touch_of→zdi,woken_quitsD→zly
open Go.Conc.Aside renaming refl→Nl
open Go.ConcR renaming WgAt→fV,deafBehind_cons→znj,mk→oF
open Go.ConcR.WgAt renaming setSm→zFT,setSt→zye,unique→Sz
open Go.Conv renaming bytesToString→zcu,intToString→zjL,runesToString→zxB
open Go.Deferred renaming ofValue→Bg
open Go.Event renaming mute→zdo
open Go.Frame renaming enter→Ed,raise→zsj
open Go.GStep renaming after→Bo
open Go.GStep.comm renaming injEq→zwU
open Go.Goroutine renaming again→zcL,offers→ztu
open Go.Goroutine.mk renaming injEq→zrE
open Go.Instr renaming panic→zn8
open Go.Item renaming code→Xl,inRegion→qN
open Go.MemAct renaming low→Ws,low_mono→zvr,ofEvent→jB,touch?→qG
open Go.MemOp renaming ofEvents→vP
open Go.Mode renaming atomic→zf5,plain→zaU
open Go.Op renaming eqGuardIn→Tl,equal→yQ,equalIn→Db,maxDepth→Tx
open Go.Question renaming cut→zjB,forced→zm8
open Go.Region renaming schedule→S9,wanted→dA
open Go.Result renaming andThen→uC,evThen_ok→S3
open Go.Result.ok renaming injEq→qO
open Go.Sem renaming bind→xF,events→vV,events_bind'→Qk,run→bD,run_bind'→q9
open Go.Stepped.next renaming injEq→V6
open Go.Trace renaming act?→zp2,g?→Dh
open Go.Value.chan renaming injEq→zrK
open Go.World renaming cell?→kY,farLoad→x4,farStore→Cr,noCell→qJ,setChan→Ks
open Go.stepG renaming exec→L1
open List renaming cons_append→Qt,cons_ne_nil→zea,length→ztO,length_cons→pG,length_nil→tV,mem_cons→iX,mem_cons_of_mem→Gn,mem_toArray→Gy,not_mem_nil→lX,range→gD,size_toArray→Ec
open List.cons renaming injEq→Xy
open Nat renaming le_refl→aZ,le_trans→eP,lt_irrefl→Cb,lt_or_ge→nM,zero_le→lB
open Option renaming bind_some→xI,getD_some→zC,isNone_some→zot,map_eq_some_iff→wM,map_some→zP
open Option.some renaming inj→cD,injEq→fS
open Prod.mk renaming injEq→o7
open Pure renaming pure→kE
open WellFounded renaming transGen→zFD
namespace Go
theorem Dd{P:Prop}(h:P:=by rw[hp];trivial):P:=h
theorem Oq{P:Prop}(h:P:=by rw[hr];exact .inr (.mk f k)):P:=h
theorem Jc{P:Prop}(h:P:=by rw[lQ];simp):P:=h
theorem Xo{P:Prop}(h:P:=by rw[hp];exact hB _ bT.refl):P:=h
theorem zbq{P:Prop}(h:P:=by rw[dK.step];exact aX):P:=h
theorem zum{P:Prop}(h:P:=by have:=(h.st.bnd k c (.inl e)).2.2;rw[M7] at this;cases this):P:=h
theorem zsG{P:Prop}(h:P:=by have:=(h.st.bnd k c (.inr e)).2.2;rw[M7] at this;cases this):P:=h
theorem zbl{P:Prop}(h:P:=by simpa using hj):P:=h
theorem zr9{P:Prop}(h:P:=by rw[(L8 w _).size];exact h.st.grp.live.lt):P:=h
theorem zuz{P:Prop}(h:P:=by rw[upd_same,hr];exact .inr (.mk f k)):P:=h
theorem Le{P:Prop}(h:P:=by rfl):P:=h
theorem zcP{P:Prop}(h:P:=by rw[hp];exact id):P:=h
theorem zgp{P:Prop}(h:P:=by rw[hp];exact hB):P:=h
theorem ztE{P:Prop}(h:P:=by rw[jM (Ne.symm Cw)];simp[Wq]):P:=h
theorem zkK{P:Prop}(h:P:=by simpa using hg.1):P:=h
theorem zjS{P:Prop}(h:P:=by rw[hl];exact id):P:=h
end Go
namespace Go.Mt
open Go.Conc
open Go.ConcR (KK wgBlock WgAt stA smA rd wr mk)
inductive Rk:Type 1
 |mk (ι:Type) (f:ι->Rk)
inductive Rk.Child:Rk->Rk->Prop
 |mk {ι:Type} (f:ι->Rk) (i:ι):Rk.Child (f i) (.mk ι f)
theorem Rk.wf:WellFounded Rk.Child:=⟨λr=>by
 induction r with
 |mk ι f ih=>exact⟨_,λy h=>by cases h with|mk _ i=>exact ih i⟩⟩
structure cE where
 own:Nat->Prop
 still:Nat->Prop
 pass:Nat->Prop
def cE.grow (τ:cE)(w w':aE):cE:={τ with own:=λb=>τ.own b\/(w.heap.size<=b/\b<w'.heap.size)}
inductive Act (L:Type) where
 |send (c:Nat) (ok:aF->Prop) (pub:aF->List Nat) (nx:aF->L)
 |recv (c:Nat) (ok:aF->Prop) (nx:aF->L) (shut:L)
 |close (c:Nat) (nx:L)
 |add (nx:L)
 |spawn (pub:List Nat) (child nx:L)
 |done
 |wait
 |note (can:L->Prop)
inductive Ph (L:Type) where
 |gone
 |usr (l:L)
 |rel (l:L)
 |l1 (l:L)
 |l2 (l:L)
 |l3 (l:L)
 |quit (l:L)
 |w1 (b:Nat)
 |w2 (v:Nat)
 |w3
 |w4
 |w5
inductive Pj (L:Type) where
 |gone
 |run (l:L)
 |over (l:L)
 |waits
def Ph.proj {L:Type}:Ph L->Pj L
 | .gone=>.gone
 | .usr l=>.run l
 | .rel l| .l1 l| .l2 l| .l3 l| .quit l=>.over l
 | .w1 _| .w2 _| .w3| .w4| .w5=>.waits
abbrev qV:=Nat->Option Bool
def qV.opn (ch:qV)(l:List Nat):qV:=λc=>if c∈l then some false else ch c
structure jF (L:Type) where
 act:L->Act L
 dep:L->aE->Prop
 pend:L->Bool
 cl:L->Prop
 Inv:(Nat->Pj L)->qV->Prop
 got:L->aF->List Nat:=λ_ _=>[]
def jF.Blocked {L:Type}(A:jF L)(q:Nat->Pj L)(ch:qV)(l:L):Prop:=
 match A.act l with
 | .send c _ _ _=>¬∃j l' ok nx sh,q j=.run l'/\A.act l'=.recv c ok nx sh
 | .recv c _ _ _=>ch c=some false/\¬∃j l' ok pub nx,q j=.run l'/\A.act l'=.send c ok pub nx
 |_=>False
def Pj.c {L:Type}:Pj L->Nat
 | .gone=>0
 |_=>1
def num {L:Type}(q:Nat->Pj L):Nat->Nat
 |0=>0
 |n+1=>num q n+(q n).c
def bG {α:Type _}(f:Nat->α)(i:Nat)(x:α):Nat->α:=λa=>if a=i then x else f a
structure jF.Ok {L:Type}(A:jF L):Prop where
 send1:∀q ch i j li lj c ok pub nx pF N0 nJ,A.Inv q ch->q i=.run li->q j=.run lj->A.act li=.send c ok pub nx->A.act lj=.send c pF N0 nJ->i=j
 recv1:∀q ch i j li lj c ok nx sh pF nJ wD,A.Inv q ch->q i=.run li->q j=.run lj->A.act li=.recv c ok nx sh->A.act lj=.recv c pF nJ wD->i=j
 sendC:∀q ch i l c ok pub nx,A.Inv q ch->q i=.run l->A.act l=.send c ok pub nx->ch c=some false
 recvC:∀q ch i l c ok nx sh,A.Inv q ch->q i=.run l->A.act l=.recv c ok nx sh->∃b,ch c=some b
 meet:∀q ch i j li lj c ok pub nx pF nJ sh v,A.Inv q ch->q i=.run li->q j=.run lj->A.act li=.send c ok pub nx->A.act lj=.recv c pF nJ sh->ok v->
  (∀a∈pub v,ch a=none)->pF v/\A.Inv (bG (bG q i (.run (nx v))) j (.run (nJ v))) (ch.opn (pub v))
 shut:∀q ch i l c ok nx sh,A.Inv q ch->q i=.run l->A.act l=.recv c ok nx sh->ch c=some true->A.cl l/\A.Inv (bG q i (.run sh)) ch
 close:∀q ch i l c nx,A.Inv q ch->q i=.run l->A.act l=.close c nx->ch c=some false/\A.Inv (bG q i (.run nx)) (bG ch c (some true))
 add:∀q ch i l nx,A.Inv q ch->q i=.run l->A.act l=.add nx->i=0/\A.pend l=false/\A.pend nx=true/\A.Inv (bG q i (.run nx)) ch
 spawn:∀q ch i l pub lc nx k,A.Inv q ch->q i=.run l->A.act l=.spawn pub lc nx->i=0/\A.pend l=true/\A.pend nx=false/\(q k=.gone->k≠0->(∀a∈pub,ch a=none)->A.Inv (bG (bG q i (.run nx)) k (.run lc)) (ch.opn pub))
 done:∀q ch i l,A.Inv q ch->q i=.run l->A.act l=.done->i≠0/\A.Inv (bG q i (.over l)) ch
 note:∀q ch i l can l',A.Inv q ch->q i=.run l->A.act l=.note can->can l'->A.pend l'=A.pend l/\A.Inv (bG q i (.run l')) ch
 wait:∀q ch i l,A.Inv q ch->q i=.run l->A.act l=.wait->i=0/\A.pend l=false/\A.Inv (bG q i .waits) ch
 prog:∀q ch,A.Inv q ch->(∀i l,q i=.run l->A.Blocked q ch l)->q 0=.waits/\∀i l,q i≠ .run l
 pendC:∀l l' c v ok pub nx,A.act l=.send c ok pub nx->l'=nx v->A.pend l'=A.pend l
 pendR:∀l l' c v ok nx sh,A.act l=.recv c ok nx sh->(l'=nx v\/l'=sh)->A.pend l'=A.pend l
 pendX:∀l c nx,A.act l=.close c nx->A.pend nx=A.pend l
 few:∀q ch,A.Inv q ch->∀n,num q n<2000000000
 gotP:∀q ch i j li lj c ok pub nx pF nJ sh v,A.Inv q ch->q i=.run li->q j=.run lj->A.act li=.send c ok pub nx->A.act lj=.recv c pF nJ sh->ok v->∀a∈A.got lj v,a∈pub v
section
variable {L:Type}(P:bS)(ty:aM)(Wg:Nat)(A:jF L)(Fin:bC->aE->Prop)
def WgLive (w:aE):Prop:=∃st sm,fV ty Wg w st sm
structure bT (τ:cE)(w aI:aE):Prop where
 tape:aI.tape=w.tape
 os:aI.os=w.os
 output:aI.output=w.output
 size:w.heap.size<=aI.heap.size
 keep:∀b,τ.own b\/τ.still b->aI.heap[b]? =w.heap[b]?
 live:WgLive ty Wg w->WgLive ty Wg aI
structure zA (O:Nat->Prop)(w w':aE):Prop where
 tape:w'.tape=w.tape
 os:w'.os=w.os
 output:w'.output=w.output
 size:w.heap.size<=w'.heap.size
 keep:∀b,b<w.heap.size->¬O b->w'.heap[b]? =w.heap[b]?
def EvT (main:Bool)(O Z:Nat->Prop)(e:oE):Prop:=
 match e.loc with
 | .cell a=>O a.block\/(Z a.block/\e.write=false)
 | .obj r=>O r\/(Z r/\e.write=false)
 | .mark (.read a)| .mark (.write a)=>main=true/\a.block=Wg
 | .mark (.acquire _)| .mark (.release _)| .mark (.releaseMerge _)=>False
 | .mark _=>True
 |_=>False
variable (K:Bool->Ph L->Nat->cE->bC->aE->Prop)
def GoG (main:Bool)(ph:Ph L)(d:Nat)(τ:cE)(g:bC)(aI:aE):Prop:=
 ∃g' w' es,stepG P main g aI=.go g' w' es/\g'.status=.running/\zA τ.own aI w'/\(∀e∈es,EvT Wg main (τ.grow aI w').own τ.still e)/\K main ph (nN d es) (τ.grow aI w') g' w'
def zeQ (main:Bool)(ph:Ph L)(d:Nat)(τ:cE)(g:bC)(w:aE):Prop:=∀aI,bT ty Wg τ w aI->GoG P Wg K main ph d τ g aI
def zat (main:Bool)(ph:Ph L)(d:Nat)(τ:cE)(g:bC)(w:aE):Prop:=
 ∀aI,bT ty Wg τ w aI->∃g' es,stepG P main g aI=.go g' aI es/\g'.status=.running/\(∀e∈es,zdo e=true)/\K main ph (nN d es) τ g' aI
def st (v wt:Nat):Value:=.int .u64 ((v:Int)*KK+wt)
def Ic (w:aE)(a:Nat):Prop:=w.heap[a]? =some (.chan 0 #[] false 0 0 false)
def l9 (main:Bool)(l:L)(d:Nat)(τ:cE)(g:bC)(w:aE):Prop:=
 match A.act l with
 | .send c ok pub nx=>g.offers=none/\∃v z τ',(∀aI,bT ty Wg τ w aI->stepG P main g aI=.comm g #[scase c v z] true .send aI #[])/\ok v/\(∀b,τ'.own b->τ.own b)/\τ'.still=τ.still/\(∀b,τ'.pass b->τ.pass b\/τ.own b)/\
  (∀a∈pub v,τ.own a/\¬τ'.own a/\¬τ'.still a/\Ic w a)/\K main (.usr (nx v)) d τ' (oO g aA) w
 | .recv c ok nx sh=>g.offers=none/\∃z b,(∀aI,bT ty Wg τ w aI->stepG P main g aI=.comm g #[rcase c z] true (.recv b) aI #[])/\(∀v,ok v->∀aI,bT ty Wg τ w aI->(∀a∈A.got l v,a<aI.heap.size/\¬τ.own a/\¬τ.still a)->K main (.usr (nx v)) d τ (oO g (recvd b v true)) aI)/\(A.cl l->K main (.usr sh) d τ (oO g (recvd b z false)) w)
 | .close c nx=>mayWake P g=true/\τ.pass c/\∀aI,bT ty Wg τ w aI->∀s r,aI.heap[c]? =some (.chan 0 #[] false s r false)->
  ∃g',stepG P main g aI=.go g' (aI.setChan c 0 #[] true s r false) (closeEvents c)/\g'.status=.running/\K main (.usr nx) d τ g' (aI.setChan c 0 #[] true s r false)
 | .add nx=>∀aI,bT ty Wg τ w aI->∀v:Nat,v<2147483647->fV ty Wg aI (v*KK) 0->
  ∃g',stepG P main g aI=.go g' (aI.setCell (stA Wg) (st (v+1) 0)) #[rd (stA Wg),wr (stA Wg)]/\g'.status=.running/\K main (.usr nx) d τ g' (aI.setCell (stA Wg) (st (v+1) 0))
 | .spawn pub lc nx=>d=0/\∀aI,bT ty Wg τ w aI->∃g' child τm τc,stepG P main g aI=.spawn g' child aI #[]/\g'.status=.running/\child.status=.running/\
  (∀b,τm.own b\/τc.own b->τ.own b)/\(∀b,τm.still b\/τc.still b->τ.still b\/τ.own b)/\(∀b,τm.pass b\/τc.pass b->τ.pass b\/τ.own b\/τ.still b)/\
  (∀b,τm.own b->¬τc.own b/\¬τc.still b/\¬τc.pass b)/\(∀b,τc.own b->¬τm.still b/\¬τm.pass b)/\
  (∀a∈pub,τ.own a/\Ic aI a/\¬τm.own a/\¬τm.still a/\¬τc.own a/\¬τc.still a)/\K main (.usr nx) 0 τm g' aI/\K false (.usr lc) 0 τc child aI
 | .done=>d=0/\main=false/\(∀aI,bT ty Wg τ w aI->A.dep l aI)/\∀aI,bT ty Wg τ w aI->∃g',stepG P main g aI=.go g' aI #[mk (.releaseMerge (stA Wg))]/\g'.status=.running/\K main (.rel l) 0 τ g' aI
 | .wait=>∀aI,bT ty Wg τ w aI->∀v:Nat,v<2147483648->fV ty Wg aI (v*KK) 0->∃g',stepG P main g aI=.go g' aI #[rd (stA Wg)]/\g'.status=.running/\
  (v=0->K main .w5 d τ g' aI)/\(v≠0->K main (.w2 v) d τ g' aI)
 | .note can=>∃l',can l'/\K main (.usr l') d τ g w
def zL (main:Bool)(ph:Ph L)(d:Nat)(τ:cE)(g:bC)(w:aE):Prop:=
 match ph with
 | .gone| .quit _=>False
 | .usr l=>l9 P ty Wg A K main l d τ g w
 | .rel l=>∀aI,bT ty Wg τ w aI->∀v wt:Nat,wt<=1->v<2147483647->fV ty Wg aI ((v+1:Nat)*KK+wt) 0->
  ∃g',stepG P main g aI=.go g' (aI.setCell (stA Wg) (st v wt)) #[rd (stA Wg),wr (stA Wg)]/\g'.status=.running/\0<d/\
   ((v=0/\wt=1)->K main (.l1 l) d τ g' (aI.setCell (stA Wg) (st v wt)))/\(¬(v=0/\wt=1)->∃q,QuitsD P q d g')
 | .l1 l=>∀aI,bT ty Wg τ w aI->fV ty Wg aI 1 0->∃g',stepG P main g aI=.go g' aI #[rd (stA Wg)]/\g'.status=.running/\0<d/\K main (.l2 l) d τ g' aI
 | .l2 l=>∀aI,bT ty Wg τ w aI->fV ty Wg aI 1 0->∃g',stepG P main g aI=.go g' (aI.setCell (stA Wg) (st 0 0)) #[wr (stA Wg)]/\g'.status=.running/\0<d/\K main (.l3 l) d τ g' (aI.setCell (stA Wg) (st 0 0))
 | .l3 l=>mayWake P g=true/\∀aI,bT ty Wg τ w aI->fV ty Wg aI 0 0->∃g',stepG P main g aI=.go g' (aI.setCell (smA Wg) (.int .u32 1)) (semEvents (smA Wg))/\g'.status=.running/\0<d/\∃q,QuitsD P q d g'
 | .w1 b=>∀aI,bT ty Wg τ w aI->∀v:Nat,v<b->v<2147483648->fV ty Wg aI (v*KK) 0->∃g',stepG P main g aI=.go g' aI #[rd (stA Wg)]/\g'.status=.running/\
  (v=0->K main .w5 d τ g' aI)/\(v≠0->K main (.w2 v) d τ g' aI)
 | .w2 vs=>∀aI,bT ty Wg τ w aI->∀v:Nat,v<2147483648->fV ty Wg aI (v*KK) 0->
  (v=vs->∃g',stepG P main g aI=.go g' (aI.setCell (stA Wg) (st v 1)) #[rd (stA Wg),wr (stA Wg)]/\g'.status=.running/\K main .w3 d τ g' (aI.setCell (stA Wg) (st v 1)))/\
  (v<vs->∃g',stepG P main g aI=.go g' aI #[rd (stA Wg)]/\g'.status=.running/\K main (.w1 vs) d τ g' aI)
 | .w3=>g.offers=none/\∀aI,bT ty Wg τ w aI->((∃x,fV ty Wg aI x 0)->stepG P main g aI=.go {g with status:=.blocked} aI #[])/\
  (fV ty Wg aI 0 1->∃g',stepG P main g aI=.go g' (aI.setCell (smA Wg) (.int .u32 0)) (semEvents (smA Wg))/\g'.status=.running/\K main .w4 d τ g' (aI.setCell (smA Wg) (.int .u32 0)))
 | .w4=>∀aI,bT ty Wg τ w aI->fV ty Wg aI 0 0->∃g',stepG P main g aI=.go g' aI #[rd (stA Wg)]/\g'.status=.running/\K main .w5 d τ g' aI
 | .w5=>d=0/\∀aI,bT ty Wg τ w aI->(∃q ch,A.Inv q ch/\q 0=.waits/\(∀i l,q i≠ .run l)/\∀i l,q i=.over l->A.dep l aI)->
  ∃g',stepG P main g aI=.go g' aI #[mk (.acquire (stA Wg))]/\g'.status=.running/\Fin g' aI
def Lr (main:Bool)(ph:Ph L)(d:Nat)(τ:cE)(g:bC)(w:aE):Prop:=
 match ph with
 | .gone| .quit _=>False
 | .rel _| .l1 _| .l2 _| .l3 _=>zat P ty Wg K main ph d τ g w
 |_=>zeQ P ty Wg K main ph d τ g w
end
def oX {L:Type}(P:bS)(ty:aM)(Wg:Nat)(A:jF L)(Fin:bC->aE->Prop):Rk->Bool->Ph L->Nat->cE->bC->aE->Prop
 | .mk ι f,main,ph,d,τ,g,w=>g.status=.running/\
  (
   Lr P ty Wg (λm ph d τ g w=>∃i,oX P ty Wg A Fin (f i) m ph d τ g w) main ph d τ g w\/
   zL P ty Wg A Fin (λm ph d τ g w=>∃i,oX P ty Wg A Fin (f i) m ph d τ g w) main ph d τ g w)
abbrev Cp:=Sum Nat Rk
def Cl:Cp->Cp->Prop:=Sum.Lex (·<·) Rk.Child
theorem Cl.wf:WellFounded Cl:=by
 have hl:∀n:Nat,Acc Cl (.inl n):=λn=>by
  induction n using Nat.strongRecOn with
  |_ n ih=>exact⟨_,λy h=>by cases h with|inl h=>exact ih _ h⟩
 refine⟨λx=>?_⟩
 cases x with
 |inl n=>exact hl n
 |inr r=>
  induction r using Rk.wf.induction with
  |_ r ih=>exact⟨_,λy h=>by cases h with|inr h=>exact ih _ h|sep=>exact hl _⟩
def Xj (n:Nat)(f' f:Nat->Cp):Prop:=∃i,i<=n/\Cl (f' i) (f i)/\∀j,j<i->f' j=f j
theorem Xj.wf:∀n,WellFounded (Xj n):=by
 intro n
 induction n with
 |zero=>
  have:∀c,Acc Cl c->∀f:Nat->Cp,f 0=c->Acc (Xj 0) f:=by
   intro c hc
   induction hc with
   |intro c _ ih=>
    intro f hf;refine⟨_,λf' h=>?_⟩;obtain⟨i,hi,hl,_⟩:=h;have:i=0:=aD;subst this;exact ih _ (hf▸hl) f' rfl
  exact⟨λf=>this _ (Cl.wf.apply _) f rfl⟩
 |succ n ih=>
  have:∀zdp,Acc (Xj n) zdp->∀c,Acc Cl c->∀f:Nat->Cp,(∀j,j<=n->f j=zdp j)->f (n+1)=c->Acc (Xj (n+1)) f:=by
   intro zdp zeR
   induction zeR with
   |intro zdp _ zFm=>
    intro c hc
    induction hc with
    |intro c _ zzB=>
     intro f hf Gm;refine⟨_,λf' h=>?_⟩;obtain⟨i,hi,hl,he⟩:=h;rcases nM n i with aP|B8
     .have:i=n+1:=aD
      subst this;exact zzB _ (Gm▸hl) f' (λj hj=>(he j aD).trans (hf j hj)) rfl
     .refine zFm f' ⟨i,B8,(hf i B8)▸hl,λj hj=>(he j hj).trans (hf j aD)⟩ _ (Cl.wf.apply (f' (n+1))) f' (λj _=>rfl) rfl
  exact⟨λf=>this f (ih.apply f) _ (Cl.wf.apply _) f (λ_ _=>rfl) rfl⟩
abbrev Mu:=Nat×(Nat->Cp)
def Mu.lt (x y:Mu):Prop:=∃i,i<=y.1/\Cl (x.2 i) (y.2 i)/\(∀j,j<i->x.2 j=y.2 j)/\(i≠0->x.1=y.1)
theorem Mu.wf:WellFounded Mu.lt:=by
 have:∀c,Acc Cl c->∀n (f:Nat->Cp),f 0=c->Acc Mu.lt (n,f):=by
  intro c hc
  induction hc with
  |intro c _ ih=>
   intro n f
   induction f using(Xj.wf n).induction with
   |_ f zGb=>
    intro hf;refine⟨_,λy h=>?_⟩;obtain⟨n',f'⟩:=y;obtain⟨i,hi,hl,he,hn⟩:=h;simp only at hi hl he hn;by_cases h0:i=0
    .subst h0
     exact ih _ (hf▸hl) n' f' rfl
    .have:=hn h0
     subst this;exact zGb f' ⟨i,hi,hl,he⟩ ((he 0 aD).trans hf)
 exact⟨λx=>this _ (Cl.wf.apply _) x.1 x.2 rfl⟩
theorem run_to {P:bS}{α:Type _}{r:α->α->Prop}(wf:WellFounded r)(Inv:α->Zy->lJ->Prop)(Oo:Zy->lJ->Prop)
 (h:∀μ m t,Inv μ m t->∃m' ops,stepT P m=(.next m',ops)/\(Oo m' (t++ops)\/∃μ',r μ' μ/\Inv μ' m' (t++ops))):
 ∀μ m t,Inv μ m t->∃n m' t',runNT P n m t=(.next m',t')/\Oo m' t':=by
 intro μ
 induction μ using wf.induction with
 |_ μ ih=>
  intro m t hI;obtain⟨m',ops,hs,hg|⟨μ',hr,zlq⟩⟩:=h μ m t hI
  .exact⟨1,m',t++ops,by simp[runNT,hs],hg⟩
  .obtain⟨n,zGB,t',h1,h2⟩:=ih μ' hr m' (t++ops) zlq
   exact⟨n+1,zGB,t',by rw[runNT_succ_next hs];exact h1,h2⟩
section
variable {L:Type}{P:bS}{ty:aM}{Wg:Nat}{A:jF L}{Fin:bC->aE->Prop}
variable {τ τ':cE}{w aI eN:aE}
def bT.refl:bT ty Wg τ w w:=⟨rfl,rfl,rfl,aZ _,λ_ _=>rfl,id⟩
def bT.trans (h:bT ty Wg τ w aI)(k:bT ty Wg τ aI eN):bT ty Wg τ w eN:=
 ⟨k.tape.trans h.tape,k.os.trans h.os,k.output.trans h.output,eP h.size k.size,λb hb=>(k.keep b hb).trans (h.keep b hb),λx=>k.live (h.live x)⟩
def bT.mono (h:bT ty Wg τ w aI)(hs:∀b,τ'.own b\/τ'.still b->τ.own b\/τ.still b):bT ty Wg τ' w aI:=
 ⟨h.tape,h.os,h.output,h.size,λb hb=>h.keep b (hs b hb),h.live⟩
def ztb (ty:aM)(Wg:Nat)(K:Bool->Ph L->Nat->cE->bC->aE->Prop):Prop:=
 ∀m ph d τ g w aI,K m ph d τ g w->bT ty Wg τ w aI->K m ph d τ g aI
variable {K:Bool->Ph L->Nat->cE->bC->aE->Prop}
theorem l9.rely (hK:ztb ty Wg K){main:Bool}{l:L}{d:Nat}{g:bC}(h:l9 P ty Wg A K main l d τ g w)(s:bT ty Wg τ w aI):l9 P ty Wg A K main l d τ g aI:=by
 unfold l9 at*;split
 .rename_i c ok pub nx e
  simp only[e] at h;obtain⟨ho,v,z,τ',h1,h2,h3,h4,Ki,h5,h6⟩:=h
  exact⟨ho,v,z,τ',λeN lK=>h1 eN (s.trans lK),h2,h3,h4,Ki,λa ha=>⟨(h5 a ha).1,(h5 a ha).2.1,(h5 a ha).2.2.1,(s.keep a (.inl (h5 a ha).1)).trans (h5 a ha).2.2.2⟩,
   hK _ _ _ _ _ _ _ h6 (s.mono λb hb=>hb.imp (h3 b) (λx=>h4▸x))⟩
 .rename_i c ok nx sh e
  simp only[e] at h;obtain⟨ho,z,b,h1,h2,h3⟩:=h;exact⟨ho,z,b,λeN lK=>h1 eN (s.trans lK),λv hv eN lK hg=>h2 v hv eN (s.trans lK) hg,λx=>hK _ _ _ _ _ _ _ (h3 x) s⟩
 .rename_i c nx e
  simp only[e] at h;exact⟨h.1,h.2.1,λeN lK=>h.2.2 eN (s.trans lK)⟩
 .rename_i nx e
  simp only[e] at h;exact λeN lK=>h eN (s.trans lK)
 .rename_i pub lc nx e
  simp only[e] at h;exact⟨h.1,λeN lK=>h.2 eN (s.trans lK)⟩
 .rename_i e
  simp only[e] at h;exact⟨h.1,h.2.1,λeN lK=>h.2.2.1 eN (s.trans lK),λeN lK=>h.2.2.2 eN (s.trans lK)⟩
 .rename_i e
  simp only[e] at h;exact λeN lK=>h eN (s.trans lK)
 .rename_i can e
  simp only[e] at h;obtain⟨l',h1,h2⟩:=h;exact⟨l',h1,hK _ _ _ _ _ _ _ h2 s⟩
theorem zL.rely (hK:ztb ty Wg K){main:Bool}{ph:Ph L}{d:Nat}{g:bC}(h:zL P ty Wg A Fin K main ph d τ g w)(s:bT ty Wg τ w aI):zL P ty Wg A Fin K main ph d τ g aI:=by
 cases ph with
 |gone=>exact h
 |quit l=>exact h
 |usr l=>exact l9.rely hK h s
 |l3 l=>exact⟨h.1,λeN lK=>h.2 eN (s.trans lK)⟩
 |w3=>exact⟨h.1,λeN lK=>h.2 eN (s.trans lK)⟩
 |w5=>exact⟨h.1,λeN lK=>h.2 eN (s.trans lK)⟩
 |rel l=>exact λeN lK=>h eN (s.trans lK)
 |l1 l=>exact λeN lK=>h eN (s.trans lK)
 |l2 l=>exact λeN lK=>h eN (s.trans lK)
 |w1 b=>exact λeN lK=>h eN (s.trans lK)
 |w2 v=>exact λeN lK=>h eN (s.trans lK)
 |w4=>exact λeN lK=>h eN (s.trans lK)
theorem Lr.rely {main:Bool}{ph:Ph L}{d:Nat}{g:bC}(h:Lr P ty Wg K main ph d τ g w)(s:bT ty Wg τ w aI):Lr P ty Wg K main ph d τ g aI:=by
 cases ph<;>first|exact h|exact λeN lK=>h eN (s.trans lK)
theorem oX.rely:∀{r:Rk} {main:Bool} {ph:Ph L} {d:Nat} {τ:cE} {g:bC} {w aI:aE},oX P ty Wg A Fin r main ph d τ g w->bT ty Wg τ w aI->oX P ty Wg A Fin r main ph d τ g aI:=by
 intro r
 induction r with
 |mk ι f ih=>
  intro main ph d τ g w aI h s;refine⟨h.1,h.2.imp (λx=>x.rely s) λx=>x.rely (λm ph d τ g w aI ⟨i,hi⟩ s=>⟨i,ih i hi s⟩) s⟩
end
def mY (l:Loc)(b:Nat):Prop:=match l with| .cell a=>a.block=b| .obj r=>r=b|_=>False
variable {l:Loc}{b:Nat}
theorem zch (h:mY l b):l.isMemory=true:=by cases l<;>first|rfl|exact h.elim
theorem K8 {b':Nat}(h:mY l b)(h':mY l b'):b=b':=by cases l<;>first|exact h.symm.trans h'|exact h.elim
def Handed (Wg:Nat)(t:lJ)(i:Nat):Prop:=∃r,t.act? r=some (.mark (.releaseMerge (stA Wg)))/\t.heard r/\Before t i r
variable {i:Nat}
theorem Handed.app {Wg:Nat}{t:lJ}(u:lJ)(h:Handed Wg t i):Handed Wg (t++u) i:=by
 obtain⟨r,h1,h2,h3⟩:=h;have hr:=zcU h1;exact⟨r,by rw[zaG hr];exact h1,(zlt hr).2 h2,h3.app u⟩
structure TI (Wg n:Nat)(own pas:Nat->Nat->Prop)(live:Nat->Prop)(Shun:Loc->Prop)(B:Nat)(t:lJ):Prop where
 clean:∀said,¬Race said t
 own:∀k b,live k->own k b->∀i a,touchAt t i=some a->mY a.loc b->Lp t k i
 pas:∀k b,live k->pas k b->∀i a,touchAt t i=some a->mY a.loc b->a.write=true->Lp t k i
 grp:∀i a,touchAt t i=some a->mY a.loc Wg->a.kind=.atomic\/(a.kind=.said/\t.g? i=some 0)
 all:∀i a,touchAt t i=some a->a.loc.isMemory=true->(∃k,live k/\Lp t k i)\/Handed Wg t i\/((Shun a.loc\/mY a.loc Wg)/\a.kind=.atomic)
 over:∀i g,t.g? i=some g->g≠0->t.counts i->(∃k,live k/\Lp t k i)\/Handed Wg t i\/∃j,t.g? j=some 0/\zfe t i j
 norel:∀k,t.act? k≠some (.mark (.release (stA Wg)))
 low:∀op∈t,op.act.low B
 above:∀j,n<=j->gV t j=0
section
variable {Wg n:Nat}{own own' pas Xk:Nat->Nat->Prop}{live live':Nat->Prop}{Shun:Loc->Prop}{B B':Nat}{t:lJ}
def zrg (t:lJ)(y:Sx):touchAt (t++ #[y]) t.size=y.act.touch? :=touchAt_of aQ
variable {y:Sx}{a:Touch}
theorem G5 {t:lJ}{i:Nat}(h:touchAt (t++ #[y]) i=some a):(i<t.size/\touchAt t i=some a)\/(i=t.size/\y.act.touch? =some a):=by
 obtain⟨op,ho,K5⟩:=zdi h;rcases getElem?_append_cases ho with⟨hi,uW⟩|⟨hi,hu⟩
 .exact .inl ⟨hi,by rw[touchAt_of uW];exact K5⟩
 .have aP:=Wv ho
  simp only[Ua,Ec,pG,tV] at aP;have:i=t.size:=aD;subst this;rw[zrg] at h;exact .inr ⟨rfl,h⟩
theorem zwQ {B:Nat}{x:MemAct}{b:Nat}(h:x.low B)(ht:x.touch? =some a)(hb:mY a.loc b):b<B:=by
 cases x with
 |access e=>
  simp only[qG,fS] at ht;subst ht;obtain⟨loc,wr,sy⟩:=e;cases loc<;>first|exact hb▸h|exact hb.elim
 |mark m=>cases m<;>simp only[qG,fS,reduceCtorEq] at ht<;>(subst ht;exact hb▸h)
 |_=>simp[qG] at ht
theorem TI.lowB (h:TI Wg n own pas live Shun B t){i:Nat}{b:Nat}(ht:touchAt t i=some a)(hb:mY a.loc b):b<B:=by
 obtain⟨op,ho,K5⟩:=zdi ht;exact zwQ (h.low op (zl5 ho)) K5 hb
def TI.less (h:TI Wg n own pas live Shun B t)(ho:∀k b,live k->own' k b->own k b\/B<=b)(hp:∀k b,live k->Xk k b->pas k b\/own k b\/B<=b)(hB:B<=B'):TI Wg n own' Xk live Shun B' t:=
 ⟨
  h.clean,λk b hk hb i a ha hl=>(ho k b hk hb).elim (λx=>h.own k b hk x i a ha hl) (λx=>absurd (h.lowB ha hl) aD),
  λk b hk hb i a ha hl hw=>(hp k b hk hb).elim (λx=>h.pas k b hk x i a ha hl hw) (λx=>x.elim (λx=>h.own k b hk x i a ha hl) (λx=>absurd (h.lowB ha hl) aD)),
  h.grp,h.all,h.over,h.norel,λop hop=>zvr hB (h.low op hop),h.above⟩
def ze1 {t:lJ}{k:Nat}(hg:y.g=k):Lp (t++ #[y]) k t.size:=⟨t.size,y,aQ,hg,.inl rfl⟩
theorem zd0 {t:lJ}{i g:Nat}(hg:(t++ #[y]).g? i=some g)(hc:(t++ #[y]).counts i):(i<t.size/\t.g? i=some g/\t.counts i)\/(i=t.size/\y.g=g):=by
 obtain⟨x,hx,rQ⟩:=hc;have aP:i<(t++ #[y]).size:=by
  unfold Dh at hg;obtain⟨z,hz,_⟩:=wM.1 hg;exact Wv hz
 simp only[Ua,Ec,pG,tV] at aP;rcases nM i t.size with hi|hi
 .refine .inl ⟨hi,by rw[Qp hi] at hg;exact hg,x,?_,rQ.1,rQ.2.imp id λz=>(zlt hi).1 z⟩
  rw[zaG hi] at hx;exact hx
 .have:i=t.size:=aD
  subst this;refine .inr ⟨rfl,?_⟩;simpa[Dh] using hg
theorem TI.push (h:TI Wg n own pas live Shun B t){k:Nat}(hk:live k)(rT:k<n)(hg:y.g=k)
 (ht:∀a,y.act.touch? =some a->(∃b,b≠Wg/\mY a.loc b/\(own k b\/(pas k b/\a.write=false))/\∀k',live k'->k'≠k->¬own k' b/\(a.write=true->¬pas k' b))\/(mY a.loc Wg/\(a.kind=.atomic\/(a.kind=.said/\k=0))/\∀k',live k'->¬own k' Wg/\¬pas k' Wg)\/a.loc.isMemory=false)
 (hr:y.act≠ .mark (.release (stA Wg))) (hl:y.act.low B):TI Wg n own pas live Shun B (t++ #[y]):=by
 refine⟨λsaid=>?_,λk' b cN hb i a ha iV=>?_,λk' b cN hb i a ha iV hw=>?_,λi a ha iV=>?_,λi a ha hm=>?_,λi g Ek aT hc=>?_,λi e=>?_,λop hop=>?_,λj hj=>?_⟩
 .refine zvF (g:=k) (h.clean said) (λop hop=>by simp at hop;rw[hop];exact hg) λi a ha op hop b hb hc=>?_
  have:op=y:=by simpa using hop
  subst this;obtain⟨Xq,zjx,jH,fJ⟩:=hc;rcases ht b hb with⟨bl,mI,iV,Om,_⟩|⟨iV,H6,_⟩|Gu
  .rcases Om with Om|⟨Om,zAA⟩
   .exact h.own k bl hk Om i a ha (Xq▸iV)
   .exact h.pas k bl hk Om i a ha (Xq▸iV) (by simpa[zAA] using jH)
  .have Di:=h.grp i a ha (Xq▸iV)
   rcases H6 with H6|⟨H6,kW⟩
   .rw[H6] at fJ
    rcases Di with Di|⟨Di,_⟩<;>rw[Di] at fJ<;>simp at fJ
   .rcases Di with Di|⟨Di,Sj⟩
    .rw[Di,H6] at fJ;simp at fJ
    .obtain⟨zqp,zwo,_⟩:=zdi ha
     have:zqp.g=0:=by simpa[Dh,zwo] using Sj
     have:=knows_own zwo;rw[‹zqp.g=0›] at this;exact kW▸this
  .rw[Xq,Gu] at zjx;cases zjx
 .rcases G5 ha with⟨_,fF⟩|⟨rfl,fF⟩
  .exact(h.own k' b cN hb i a fF iV).app _
  .by_cases fJ:k'=k
   .exact fJ▸ze1 hg
   .rcases ht a fF with⟨bl,mI,C5,_,fH⟩|⟨C5,_,fH⟩|Gu
    .exact absurd (K8 iV C5▸hb) (fH k' cN fJ).1
    .exact absurd (K8 iV C5▸hb) (fH k' cN).1
    .rw[zch iV] at Gu;cases Gu
 .rcases G5 ha with⟨_,fF⟩|⟨rfl,fF⟩
  .exact(h.pas k' b cN hb i a fF iV hw).app _
  .by_cases fJ:k'=k
   .exact fJ▸ze1 hg
   .rcases ht a fF with⟨bl,mI,C5,_,fH⟩|⟨C5,_,fH⟩|Gu
    .exact absurd (K8 iV C5▸hb) ((fH k' cN fJ).2 hw)
    .exact absurd (K8 iV C5▸hb) (fH k' cN).2
    .rw[zch iV] at Gu;cases Gu
 .rcases G5 ha with⟨hi,fF⟩|⟨rfl,fF⟩
  .exact(h.grp i a fF iV).imp id λx=>⟨x.1,by rw[Qp hi];exact x.2⟩
  .rcases ht a fF with⟨bl,mI,C5,_,fH⟩|⟨C5,H6,_⟩|Gu
   .exact absurd (K8 C5 iV) mI
   .exact H6.imp id λx=>⟨x.1,by simp[Dh,hg,x.2]⟩
   .rw[zch iV] at Gu;cases Gu
 .rcases G5 ha with⟨_,fF⟩|⟨rfl,fF⟩
  .rcases h.all i a fF hm with⟨k',cN,hkn'⟩|hh|hs
   .exact .inl ⟨k',cN,hkn'.app _⟩
   .exact .inr (.inl (hh.app _))
   .exact .inr (.inr hs)
  .exact .inl ⟨k,hk,ze1 hg⟩
 .rcases zd0 Ek hc with⟨hi,hgi',kF⟩|⟨rfl,hgi'⟩
  .rcases h.over i g hgi' aT kF with⟨k',cN,hkn'⟩|hh|⟨j,hj,hb⟩
   .exact .inl ⟨k',cN,hkn'.app _⟩
   .exact .inr (.inl (hh.app _))
   .refine .inr (.inr ⟨j,?_,hb_app _ hb⟩)
    have sN:j<t.size:=by
     unfold Dh at hj;obtain⟨z,hz,_⟩:=wM.1 hj;exact Wv hz
    rw[Qp sN];exact hj
  .exact .inl ⟨k,hk,ze1 hg⟩
 .have aP:=zcU e
  simp only[Ua,Ec,pG,tV] at aP;rcases nM i t.size with hi|hi
  .rw[zaG hi] at e;exact h.norel i e
  .have:i=t.size:=aD
   subst this;exact hr (by simpa[zp2] using e)
 .rcases ztX.1 hop with hop|hop
  .exact h.low op hop
  .have:op=y:=by simpa using hop
   exact this▸hl
 .rw[Nj t (g':=k) aD _ (λop hop=>by simp at hop;rw[hop];exact hg)];exact h.above j hj
theorem TI.idle (h:TI Wg n own pas live Shun B t)(rT:y.g<n)
 (ht:∀a,y.act.touch? =some a->mY a.loc Wg/\a.kind=.atomic/\0<gV t y.g/\∀k',live k'->¬own k' Wg/\¬pas k' Wg)
 (hr:y.act≠ .mark (.release (stA Wg))) (hl:y.act.low B):TI Wg n own pas live Shun B (t++ #[y]):=by
 have zai:∀a,y.act.touch? =some a->¬(t++ #[y]).heard t.size:=by
  rintro a ha ⟨g,hg,hd⟩;have:y.g=g:=by simpa[Dh] using hg
  rw[zd2 (aZ _),<-this] at hd;have:=(ht a ha).2.2.1;unfold gV at this;omega
 refine⟨λsaid=>?_,λk' b cN hb i a ha iV=>?_,λk' b cN hb i a ha iV hw=>?_,λi a ha iV=>?_,λi a ha hm=>?_,λi g Ek aT hc=>?_,λi e=>?_,λop hop=>?_,λj hj=>?_⟩
 .refine zvF (g:=y.g) (h.clean said) (λop hop=>by simp at hop;rw[hop]) λi a ha op hop b hb hc=>?_
  have:op=y:=by simpa using hop
  subst this;obtain⟨Xq,zjx,jH,fJ⟩:=hc;obtain⟨iV,H6,_,_⟩:=ht b hb;have Di:=h.grp i a ha (Xq▸iV);rw[H6] at fJ;rcases Di with Di|⟨Di,_⟩<;>rw[Di] at fJ<;>simp at fJ
 .rcases G5 ha with⟨_,fF⟩|⟨rfl,fF⟩
  .exact(h.own k' b cN hb i a fF iV).app _
  .obtain⟨C5,_,_,fH⟩:=ht a fF
   exact absurd (K8 iV C5▸hb) (fH k' cN).1
 .rcases G5 ha with⟨_,fF⟩|⟨rfl,fF⟩
  .exact(h.pas k' b cN hb i a fF iV hw).app _
  .obtain⟨C5,_,_,fH⟩:=ht a fF
   exact absurd (K8 iV C5▸hb) (fH k' cN).2
 .rcases G5 ha with⟨hi,fF⟩|⟨rfl,fF⟩
  .exact(h.grp i a fF iV).imp id λx=>⟨x.1,by rw[Qp hi];exact x.2⟩
  .exact .inl (ht a fF).2.1
 .rcases G5 ha with⟨_,fF⟩|⟨rfl,fF⟩
  .rcases h.all i a fF hm with⟨k',cN,hkn'⟩|hh|hs
   .exact .inl ⟨k',cN,hkn'.app _⟩
   .exact .inr (.inl (hh.app _))
   .exact .inr (.inr hs)
  .exact .inr (.inr ⟨.inr (ht a fF).1,(ht a fF).2.1⟩)
 .obtain⟨x,hx,zeS,zJv⟩:=id hc
  rcases zd0 Ek hc with⟨hi,hgi',kF⟩|⟨rfl,hgi'⟩
  .rcases h.over i g hgi' aT kF with⟨k',cN,hkn'⟩|hh|⟨j,hj,hb⟩
   .exact .inl ⟨k',cN,hkn'.app _⟩
   .exact .inr (.inl (hh.app _))
   .refine .inr (.inr ⟨j,?_,hb_app _ hb⟩)
    have sN:j<t.size:=by
     unfold Dh at hj;obtain⟨z,hz,_⟩:=wM.1 hj;exact Wv hz
    rw[Qp sN];exact hj
  .have hy:y.act.touch? =some x:=by rw[<-zrg t y];exact hx
   exact(zJv.elim (λz=>z (ht x hy).2.1) (zai x hy)).elim
 .have aP:=zcU e
  simp only[Ua,Ec,pG,tV] at aP;rcases nM i t.size with hi|hi
  .rw[zaG hi] at e;exact h.norel i e
  .have:i=t.size:=aD
   subst this;exact hr (by simpa[zp2] using e)
 .rcases ztX.1 hop with hop|hop
  .exact h.low op hop
  .have:op=y:=by simpa using hop
   exact this▸hl
 .rw[Nj t (g':=y.g) aD _ (λop hop=>by simp at hop;rw[hop])];exact h.above j hj
theorem TI.release (h:TI Wg n own pas live Shun B t){k:Nat}(rT:k<n)(hg:y.g=k)(hy:y.act=.mark (.releaseMerge (stA Wg)))(hd:gV t k=0)
 (zh2:Wg<B) (mP:∀j,live' j->live j) (G7:∀j,live j->live' j\/j=k):TI Wg n own pas live' Shun B (t++ #[y]):=by
 have h1:=h.idle (y:=y) aD (λa ha=>by rw[hy] at ha;simp[qG] at ha) (by rw[hy];simp) (by rw[hy];exact zh2);have Ck:(t++ #[y])[t.size]? =some y:=aQ;have Bd:∀i,Lp t k i->Handed Wg (t++ #[y]) i:=λi hi=>
  ⟨t.size,by rw[act?_of Ck,hy],⟨k,by simp[Dh,hg],by rw[zd2 (aZ _)];exact hd⟩,.inr (hi.hb_new (aZ _) Ck hg)⟩
 have zdA:Handed Wg (t++ #[y]) t.size:=⟨t.size,by rw[act?_of Ck,hy],⟨k,by simp[Dh,hg],by rw[zd2 (aZ _)];exact hd⟩,.inl rfl⟩;refine⟨h1.clean,λk' b cN=>h1.own k' b (mP k' cN),λk' b cN=>h1.pas k' b (mP k' cN),h1.grp,λi a ha hm=>?_,λi g Ek aT hc=>?_,h1.norel,h1.low,h1.above⟩
 .rcases G5 ha with⟨_,fF⟩|⟨rfl,fF⟩
  .rcases h.all i a fF hm with⟨k',cN,hkn'⟩|hh|hs
   .rcases G7 k' cN with x|rfl
    .exact .inl ⟨k',x,hkn'.app _⟩
    .exact .inr (.inl (Bd i hkn'))
   .exact .inr (.inl (hh.app _))
   .exact .inr (.inr hs)
  .rw[hy] at fF;simp[qG] at fF
 .rcases zd0 Ek hc with⟨hi,hgi',kF⟩|⟨rfl,hgi'⟩
  .rcases h.over i g hgi' aT kF with⟨k',cN,hkn'⟩|hh|⟨j,hj,hb⟩
   .rcases G7 k' cN with x|rfl
    .exact .inl ⟨k',x,hkn'.app _⟩
    .exact .inr (.inl (Bd i hkn'))
   .exact .inr (.inl (hh.app _))
   .refine .inr (.inr ⟨j,?_,hb_app _ hb⟩)
    have sN:j<t.size:=by
     unfold Dh at hj;obtain⟨z,hz,_⟩:=wM.1 hj;exact Wv hz
    rw[Qp sN];exact hj
  .exact .inr (.inl zdA)
theorem TI.fork (h:TI Wg n own pas live Shun B t){x:Sx}(h0:live 0)(zCC:0<n)(hx:x.g=0/\x.act=.go n)(hy:y.g=n/\y.act=.start)(hd:gV t 0=0)
 (mP:∀j,live' j↔(live j\/j=n)) (x5:¬live n) (Ln:∀k b,live k->k≠0->own' k b->own k b) (zjs:∀k b,live k->k≠0->Xk k b->pas k b)
 (ho:∀b,own' 0 b\/own' n b->own 0 b) (hp:∀b,Xk 0 b\/Xk n b->own 0 b\/pas 0 b):TI Wg (n+1) own' Xk live' Shun B (t++ #[x,y]):=by
 have zDq:=h.above n (aZ _);have e2:t++ #[x,y]=(t++ #[x])++ #[y]:=by apply Jr;simp
 have hn:TI Wg (n+1) own pas live Shun B t:=⟨h.clean,h.own,h.pas,h.grp,h.all,h.over,h.norel,h.low,λj hj=>h.above j aD⟩;have h1:=hn.idle (y:=x) (by rw[hx.1];omega) (λa ha=>by rw[hx.2] at ha;simp[qG] at ha) (by rw[hx.2];simp) (by rw[hx.2];trivial);have h2:=h1.idle (y:=y) (by rw[hy.1];omega) (λa ha=>by rw[hy.2] at ha;simp[qG] at ha) (by rw[hy.2];simp) (by rw[hy.2];trivial);rw[<-e2] at h2;have old:∀{i:Nat} {a:Touch},touchAt (t++ #[x,y]) i=some a->touchAt t i=some a:=by
  intro i a ha;rw[e2] at ha;rcases G5 ha with⟨_,fF⟩|⟨_,fF⟩
  .rcases G5 fF with⟨_,ha''⟩|⟨_,ha''⟩
   .exact ha''
   .rw[hx.2] at ha'';simp[qG] at ha''
  .rw[hy.2] at fF;simp[qG] at fF
 have fk:∀{i:Nat},Lp t 0 i->Lp (t++ #[x,y]) n i:=λ{i} hi=>Go.ConcN.fork_knows hx hy hd zDq hi;refine⟨h2.clean,λk b hk hb i a ha iV=>?_,λk b hk hb i a ha iV hw=>?_,h2.grp,λi a ha hm=>?_,λi g Ek aT hc=>?_,h2.norel,h2.low,h2.above⟩
 .rcases(mP k).1 hk with cN|rfl
  .by_cases kW:k=0
   .subst kW;exact h2.own 0 b h0 (ho b (.inl hb)) i a ha iV
   .exact h2.own k b cN (Ln k b cN kW hb) i a ha iV
  .exact fk (h.own 0 b h0 (ho b (.inr hb)) i a (old ha) iV)
 .rcases(mP k).1 hk with cN|rfl
  .by_cases kW:k=0
   .subst kW
    exact(hp b (.inl hb)).elim (λz=>h2.own 0 b h0 z i a ha iV) (λz=>h2.pas 0 b h0 z i a ha iV hw)
   .exact h2.pas k b cN (zjs k b cN kW hb) i a ha iV hw
  .exact(hp b (.inr hb)).elim (λz=>fk (h.own 0 b h0 z i a (old ha) iV)) (λz=>fk (h.pas 0 b h0 z i a (old ha) iV hw))
 .exact(h2.all i a ha hm).imp (λ⟨k,hk,rT⟩=>⟨k,(mP k).2 (.inl hk),rT⟩) id
 .exact(h2.over i g Ek aT hc).imp (λ⟨k,hk,rT⟩=>⟨k,(mP k).2 (.inl hk),rT⟩) id
theorem TI.acquire (h:TI Wg n own pas live Shun B t)(zCC:0<n)(hg:y.g=0)(hy:y.act=.mark (.acquire (stA Wg)))(hd:gV t 0=0)(zh2:Wg<B)(G7:∀j,live j->j=0):
 Past (λl=>Shun l\/mY l Wg) B (t++ #[y])/\∀j,n<=j->gV (t++ #[y]) j=0:=by
 have h1:=h.idle (y:=y) aD (λa ha=>by rw[hy] at ha;simp[qG] at ha) (by rw[hy];simp) (by rw[hy];exact zh2);have Ck:(t++ #[y])[t.size]? =some y:=aQ;have hh:(t++ #[y]).heard t.size:=⟨0,by simp[Dh,hg],by rw[zd2 (aZ _)];exact hd⟩;have got:∀i,i<t.size->Handed Wg t i->zfe (t++ #[y]) i t.size:=by
  rintro i hi ⟨r,jT,Uo,Ro⟩;have Ls:=zcU jT;have zAy:zfe (t++ #[y]) r t.size:=.single (.inr ⟨.marked Ls (.inr (by rw[zaG Ls];exact jT)) (by rw[act?_of Ck,hy]) (λk n8 uU=>h1.norel k),(zlt Ls).2 Uo,hh⟩);exact(Ro.app _).hb zAy
 have zCQ:∀i,zfe (t++ #[y]) i t.size->Lp (t++ #[y]) 0 i:=λi hb=>⟨t.size,y,Ck,hg,.inr hb⟩;refine⟨⟨h1.clean,λi a ha hm=>?_,λi g Ek aT hc=>?_,?_,h1.low⟩,h1.above⟩
 .rcases G5 ha with⟨hi,fF⟩|⟨rfl,fF⟩
  .rcases h.all i a fF hm with⟨k,hk,rT⟩|hh|hs
   .have:=G7 k hk;subst this;exact .inl (rT.app _)
   .exact .inl (zCQ i (got i hi hh))
   .exact .inr hs
  .rw[hy] at fF;simp[qG] at fF
 .rcases zd0 Ek hc with⟨hi,hgi',kF⟩|⟨rfl,hgi'⟩
  .rcases h.over i g hgi' aT kF with⟨k,hk,rT⟩|hh|⟨j,hj,hb⟩
   .have:=G7 k hk;subst this
    exact⟨t.size,by simp[Dh,hg],rT.hb_new (aZ _) Ck hg⟩
   .exact⟨t.size,by simp[Dh,hg],got i hi hh⟩
   .refine⟨j,?_,hb_app _ hb⟩
    have sN:j<t.size:=by
     unfold Dh at hj;obtain⟨z,hz,_⟩:=wM.1 hj;exact Wv hz
    rw[Qp sN];exact hj
  .exact absurd (hgi'.symm.trans hg) aT
 .rw[Deaf_push];simp[deafStep,hy,hd]
theorem TI.begin (hP:Past Shun B t)(hB:B<=B')(zbh:∀j,n<=j->gV t j=0)(mP:∀j,live j↔j=0)(ho:∀b,own 0 b\/pas 0 b->∀l,mY l b->¬Shun l)
 (hW:B<=Wg):TI Wg n own pas live Shun B' t:=by
 have nL:∀{i:Nat} {a:Touch} {b:Nat},touchAt t i=some a->mY a.loc b->b<B:=λ{i a b} ha hb=>by
  obtain⟨op,ho,K5⟩:=zdi ha;exact zwQ (hP.seen op (zl5 ho)) K5 hb
 refine⟨hP.clean,λk b hk hb i a ha iV=>?_,λk b hk hb i a ha iV hw=>?_,λi a ha iV=>?_,λi a ha hm=>?_,λi g Ek aT hc=>.inr (.inr (hP.over i g Ek aT hc)),λk e=>?_,λop hop=>zvr hB (hP.seen op hop),zbh⟩
 .have:=(mP k).1 hk;subst this
  rcases hP.known i a ha (zch iV) with x|⟨x,_⟩
  .exact x
  .exact absurd x (ho b (.inl hb) _ iV)
 .have:=(mP k).1 hk;subst this
  rcases hP.known i a ha (zch iV) with x|⟨x,_⟩
  .exact x
  .exact absurd x (ho b (.inr hb) _ iV)
 .have:=nL ha iV;omega
 .exact(hP.known i a ha hm).imp (λx=>⟨0,(mP 0).2 rfl,x⟩) λx=>.inr ⟨.inl x.1,x.2⟩
 .obtain⟨op,ho,K5⟩:=wM.1 e
  have:=hP.seen op (zl5 ho);rw[K5] at this;simp only[Ws,stA] at this;omega
end
theorem upd_same {α:Type _}(f:Nat->α)(i:Nat)(x:α):bG f i x i=x:=by simp[bG]
theorem upd_ne {α:Type _}(f:Nat->α){j:Nat}(x:α)(h:j≠i):bG f i x j=f j:=by simp[bG,h]
section
variable {L:Type}
def Ph.live:Ph L->Prop| .usr _| .w1 _| .w2 _| .w3| .w4| .w5=>True|_=>False
def Ph.waits:Ph L->Prop| .w1 _| .w2 _| .w3| .w4| .w5=>True|_=>False
def Ph.pre:Ph L->Bool| .usr _| .rel _=>true|_=>false
def Ph.last:Ph L->Prop| .l1 _| .l2 _| .l3 _=>True|_=>False
structure Td (L:Type) where
 ph:Ph L
 r:Cp
 τ:cE
 g:bC
def oP (p:Nat->Ph L):Nat->Nat
 |0=>0
 |n+1=>oP p n+(if n≠0/\(p n).pre=true then 1 else 0)
def yU (A:jF L)(p:Nat->Ph L):Nat:=match p 0 with| .usr l=>if A.pend l then 1 else 0|_=>0
def vv (A:jF L)(p:Nat->Ph L)(n:Nat):Nat:=oP p n+yU A p
def gF (A:jF L)(ty:aM)(Wg:Nat)(p:Nat->Ph L)(n:Nat)(w:aE):Prop:=
 match p 0 with
 | .usr _=>fV ty Wg w (vv A p n*KK) 0/\∀i,¬(p i).last
 | .w1 b=>fV ty Wg w (vv A p n*KK) 0/\(∀i,¬(p i).last)/\vv A p n<b
 | .w2 vs=>fV ty Wg w (vv A p n*KK) 0/\(∀i,¬(p i).last)/\vv A p n<=vs/\0<vs
 | .w3=>(0<vv A p n/\fV ty Wg w (vv A p n*KK+1) 0/\∀i,¬(p i).last)\/
  (vv A p n=0/\∃i l,(∀j,(p j).last->j=i)/\(((p i=.l1 l\/p i=.l2 l)/\fV ty Wg w 1 0)\/(p i=.l3 l/\fV ty Wg w 0 0)))\/
  (vv A p n=0/\(∀i,¬(p i).last)/\fV ty Wg w 0 1)
 | .w4| .w5=>vv A p n=0/\(∀i,¬(p i).last)/\fV ty Wg w 0 0
 |_=>False
theorem zv2 (p:Nat->Ph L){i n:Nat}(x:Ph L)(h:n<=i):oP (bG p i x) n=oP p n:=by
 induction n with
 |zero=>rfl
 |succ n ih=>simp only[oP,ih aD,upd_ne p x (show n≠i by omega)]
theorem zfN (p:Nat->Ph L)(n:Nat)(x:Ph L):oP (bG p 0 x) n=oP p n:=by
 induction n with
 |zero=>rfl
 |succ n ih=>
  simp only[oP,ih];by_cases h:n=0
  .simp[h]
  .rw[upd_ne p x h]
theorem zdd (p:Nat->Ph L){i n:Nat}(x:Ph L)(h:i<n)(h0:i≠0):oP (bG p i x) n+(if(p i).pre=true then 1 else 0)=oP p n+(if x.pre=true then 1 else 0):=by
 induction n with
 |zero=>omega
 |succ n ih=>
  simp only[oP];by_cases hi:i=n
  .subst hi
   rw[zv2 p x (aZ _),upd_same];simp only[ne_eq,h0,not_false_eq_true,true_and];omega
  .have:=ih aD
   rw[upd_ne p x (λe=>hi e.symm)];omega
theorem pre_le (ph:Ph L)(q:Prop)[Decidable q]:(if q/\ph.pre=true then 1 else 0)<=ph.proj.c:=by
 cases ph<;>simp[Ph.pre,Ph.proj,Pj.c]
 all_goals(split<;>omega)
theorem zxZ (A:jF L)(p:Nat->Ph L)(n:Nat)(h:0<n):vv A p n<=num (λi=>(p i).proj) n:=by
 have key:∀n,0<n->oP p n+(p 0).proj.c<=num (λi=>(p i).proj) n:=by
  intro n
  induction n with
  |zero=>omega
  |succ n ih=>
   intro _;by_cases hn:n=0
   .subst hn;simp[oP,num]
   .have:=ih aD
    have h2:=pre_le (p n) (n≠0);simp only[oP,num];omega
 have h1:=key n h;have h2:yU A p<=(p 0).proj.c:=by
  unfold yU;cases p 0<;>simp only[Ph.proj,Pj.c]<;>first|omega|(split<;>omega)
 unfold vv;omega
def lL (x g:bC):Prop:=x.status=.running/\x.frame=g.frame/\x.callers=g.callers/\x.dying=g.dying
def lL.self {g:bC}(h:g.status=.running):lL g g:=⟨h,rfl,rfl,rfl⟩
def lL.step {P:bS}{main:Bool}{x g:bC}(h:lL x g)(w:aE):stepG P main x w=stepG P main g w:=stepG_same h.2.1 h.2.2.1 h.2.2.2 w
variable (P:bS)(ty:aM)(Wg:Nat)(A:jF L)(Fin:bC->aE->Prop)
def zec (main:Bool)(T:Td L)(x:bC)(w:aE):Prop:=
 ∃l cs sh,T.ph=.usr l/\x=parked T.g cs sh/\(∀aI,bT ty Wg T.τ w aI->stepG P main T.g aI=.comm T.g cs true sh aI #[])/\
  ((∃c ok pub nx v z,A.act l=.send c ok pub nx/\cs=#[scase c v z]/\sh=.send)\/(∃c ok nx s z b,A.act l=.recv c ok nx s/\cs=#[rcase c z]/\sh=.recv b))
def ziw (T:Td L)(x:bC):Prop:=T.ph=.w3/\x={T.g with status:=.blocked}/\T.g.offers=none
def Sits (i:Nat)(T:Td L)(d:Nat)(x:bC)(w:aE):Prop:=
 match T.ph with
 | .gone| .quit _=>∃q,T.r=.inl q/\QuitsD P q d x
 |_=>∃r,T.r=.inr r/\oX P ty Wg A Fin r (i==0) T.ph d T.τ T.g w/\(lL x T.g\/zec P ty Wg A (i==0) T x w\/ziw T x)
def Ph.leaves:Ph L->Prop| .gone| .quit _=>True|_=>False
theorem G2 {P:bS}{ty:aM}{Wg:Nat}{A:jF L}{Fin:bC->aE->Prop}{i:Nat}{T:Td L}{d:Nat}{x:bC}{w:aE}(h:T.ph.leaves):
 Sits P ty Wg A Fin i T d x w↔∃q,T.r=.inl q/\QuitsD P q d x:=by
 obtain⟨ph,r,τ,g⟩:=T;cases ph<;>first|exact Iff.rfl|exact h.elim
theorem pE {P:bS}{ty:aM}{Wg:Nat}{A:jF L}{Fin:bC->aE->Prop}{i:Nat}{T:Td L}{d:Nat}{x:bC}{w:aE}(h:¬T.ph.leaves):
 Sits P ty Wg A Fin i T d x w↔∃r,T.r=.inr r/\oX P ty Wg A Fin r (i==0) T.ph d T.τ T.g w/\(lL x T.g\/zec P ty Wg A (i==0) T x w\/ziw T x):=by
 obtain⟨ph,r,τ,g⟩:=T;cases ph<;>first|exact Iff.rfl|exact absurd trivial h
variable {P:bS}{ty:aM}{Wg:Nat}{A:jF L}{Fin:bC->aE->Prop}
theorem zqL (a a' g:bC)(cs:Array ziW)(sh:Nk)(w:aE):woken P a a' w (parked g cs sh)=parked g cs sh\/woken P a a' w (parked g cs sh)={parked g cs sh with status:=.running}:=by
 unfold woken;split
 .unfold zcL
  simp only[parked];split
  .exact .inr rfl
  .exact .inl rfl
 .exact .inl rfl
def woken_running {a a' x:bC}{w:aE}(h:x.status=.running):woken P a a' w x=x:=woken_run h
theorem Sits.other {i:Nat}{T:Td L}{d:Nat}{x:bC}{w w':aE}(h:Sits P ty Wg A Fin i T d x w)(s:bT ty Wg T.τ w w')(a a':bC):Sits P ty Wg A Fin i T d (woken P a a' w' x) w':=by
 by_cases hl:T.ph.leaves
 .rw[G2 hl] at h⊢
  obtain⟨q,hq,hQ⟩:=h;exact⟨q,hq,by rw[zly hQ];exact hQ⟩
 .rw[pE hl] at h⊢
  obtain⟨r,hr,hB,hx⟩:=h;refine⟨r,hr,hB.rely s,?_⟩;rcases hx with hx|⟨l,cs,sh,h1,rfl,h3,h4⟩|⟨h1,rfl,h3⟩
  .rw[woken_running hx.1];exact .inl hx
  .rcases zqL (P:=P) a a' T.g cs sh w' with e|e
   .rw[e];exact .inr (.inl ⟨l,cs,sh,h1,rfl,λaI iN=>h3 aI (s.trans iN),h4⟩)
   .rw[e];exact .inl ⟨rfl,rfl,rfl,rfl⟩
  .unfold woken
   split
   .left
    simp only[zcL,h3];exact⟨rfl,rfl,rfl,rfl⟩
   .exact .inr (.inr ⟨h1,rfl,h3⟩)
theorem Sits.rely {i:Nat}{T:Td L}{d:Nat}{x:bC}{w w':aE}(h:Sits P ty Wg A Fin i T d x w)(s:bT ty Wg T.τ w w'):Sits P ty Wg A Fin i T d x w':=by
 by_cases hl:T.ph.leaves
 .rw[G2 hl] at h⊢;exact h
 .rw[pE hl] at h⊢
  obtain⟨r,hr,hB,hx⟩:=h;refine⟨r,hr,hB.rely s,hx.imp id (Or.imp ?_ id)⟩;rintro⟨l,cs,sh,h1,h2,h3,h4⟩;exact⟨l,cs,sh,h1,h2,λaI iN=>h3 aI (s.trans iN),h4⟩
theorem Sits.status {i:Nat}{T:Td L}{d:Nat}{x:bC}{w:aE}(h:Sits P ty Wg A Fin i T d x w):x.status=.running\/x.status=.finished\/x.status=.blocked:=by
 by_cases hl:T.ph.leaves
 .rw[G2 hl] at h
  obtain⟨q,hq,hQ⟩:=h;exact hQ.status.imp id .inl
 .rw[pE hl] at h
  obtain⟨r,hr,hB,hx|⟨l,cs,sh,h1,rfl,h3,h4⟩|⟨h1,rfl,h3⟩⟩:=h
  .exact .inl hx.1
  .exact .inr (.inr rfl)
  .exact .inr (.inr rfl)
structure Stat (n:Nat)(w:aE)(T:Nat->Td L)(ch:qV):Prop where
 n0:0<n
 ou:∀i,n<=i->(T i).ph=.gone
 role0:(T 0).ph.live
 role:∀i,i≠0->¬(T i).ph.waits
 nil:∀i,(T i).ph=.gone->∀b,¬(T i).τ.own b/\¬(T i).τ.still b/\¬(T i).τ.pass b
 sep:∀i j b,i≠j->(T i).τ.own b->¬(T j).τ.own b/\¬(T j).τ.still b/\¬(T j).τ.pass b
 bnd:∀i b,(T i).τ.own b\/(T i).τ.still b->b<w.heap.size/\b≠Wg/\ch b=none
 pas:∀i b,(T i).τ.pass b->b<w.heap.size/\b≠Wg
 depo:∀i l,(T i).ph.proj=.over l->∀aI,bT ty Wg (T i).τ w aI->A.dep l aI
 chan:∀c b,ch c=some b->c≠Wg/\∃s r,w.heap[c]? =some (.chan 0 #[] b s r false)
 grp:gF A ty Wg (λi=>(T i).ph) n w
 inv:A.Inv (λi=>(T i).ph.proj) ch
structure El (gs:Array bC)(w:aE)(t:lJ)(T:Nat->Td L)(ch:qV)(Shun:Loc->Prop):Prop where
 sit:∀(i:Nat) (x:bC),gs[i]? =some x->Sits P ty Wg A Fin i (T i) (gV t i) x w
 slp:∀(i j:Nat) (gi gj:bC) (c:Nat) (v z z':aF) (sh wD:Nk),gs[i]? =some (parked gi #[scase c v z] sh)->gs[j]? =some (parked gj #[rcase c z'] wD)->False
 slpC:∀(i:Nat) (gi:bC) (c:Nat) (z:aF) (sh:Nk),gs[i]? =some (parked gi #[rcase c z] sh)->ch c≠some true
 slpW:∀(x:bC),gs[0]? =some x->(T 0).ph=.w3->x.status=.blocked->¬fV ty Wg w 0 1
 tr:TI Wg gs.size (λi=>(T i).τ.own) (λi b=>(T i).τ.still b\/(T i).τ.pass b) (λi=>(T i).ph.live) Shun w.heap.size t
def Mo (g:bC):Bool:=match g.status with| .running=>true|_=>false
def mu (gs:Array bC)(T:Nat->Td L):Mu:=(gs.size,λj=>if j<gs.size then(T j).r else .inl (gs.countP Mo))
end
section
variable {L:Type}{P:bS}{ty:aM}{Wg:Nat}{A:jF L}{Fin:bC->aE->Prop}
variable {fn:aN}{pos:String}{es:Array oE}
theorem zGS {g:Nat}{op:Sx}(h:op∈vP g fn pos es):op.g=g:=by
 rw[Wp] at h;obtain⟨e,he,rfl⟩:=Array.mem_map.1 h;rfl
def Mm (Wg:Nat)(own pas:Nat->Prop)(k B:Nat)(e:oE):Prop:=
 (∀a,(jB e).touch? =some a->(∃b,b≠Wg/\mY a.loc b/\(own b\/(pas b/\a.write=false)))\/(mY a.loc Wg/\(a.kind=.atomic\/(a.kind=.said/\k=0)))\/a.loc.isMemory=false)/\
 jB e≠ .mark (.release (stA Wg))/\(jB e).low B
theorem TI.events {n:Nat}{own pas:Nat->Nat->Prop}{live:Nat->Prop}{Shun:Loc->Prop}{B:Nat}{k:Nat}(hk:live k)(rT:k<n)
 (hs:∀k' b,live k'->k'≠k->own k b->¬own k' b/\¬pas k' b) (hp:∀k' b,live k'->k'≠k->pas k b->¬own k' b) (hW:∀k',live k'->¬own k' Wg/\¬pas k' Wg)
 (fn:aN) (pos:String):∀(es:List oE) {t:lJ},TI Wg n own pas live Shun B t->(∀e∈es,Mm Wg (own k) (pas k) k B e)->TI Wg n own pas live Shun B (t++vP k fn pos es.toArray)
 |[],t,h,_=>by simpa[vP] using h
 |e::es,t,h,xO=>by
  have e1:t++vP k fn pos (e::es).toArray=(t++ #[{g:=k,fn,pos,act:=.ofEvent e}])++vP k fn pos es.toArray:=by
   rw[Wp,Wp];apply Jr;simp
  rw[e1];obtain⟨h1,h2,h3⟩:=xO e aQ;refine TI.events hk rT hs hp hW fn pos es (h.push hk rT rfl (λa ha=>?_) h2 h3) λe' M3=>xO e' (by simp[M3]);rcases h1 a ha with⟨b,hb,iV,Om⟩|⟨iV,H6⟩|hm
  .refine .inl ⟨b,hb,iV,Om,λk' cN aT=>?_⟩
   rcases Om with ho|⟨zjs,hw⟩
   .exact⟨(hs k' b cN aT ho).1,λ_=>(hs k' b cN aT ho).2⟩
   .exact⟨hp k' b cN aT zjs,λx=>by rw[hw] at x;cases x⟩
  .exact .inr (.inl ⟨iV,H6,hW⟩)
  .exact .inr (.inr hm)
variable {e:oE}
theorem zAe {own still pas:Nat->Prop}{k B:Nat}(h:EvT Wg (k==0) own still e)(Iq:∀b,still b->pas b)(hb:∀b,own b\/still b->b<B/\b≠Wg)(hW:Wg<B):Mm Wg own pas k B e:=by
 obtain⟨loc,w,sy⟩:=e
 cases loc with
 |cell a=>
  simp only[EvT] at h;refine⟨λx hx=>?_,by simp[jB],?_⟩
  .simp only[jB,qG,fS] at hx
   subst hx;exact .inl ⟨a.block,(hb _ (h.imp id (·.1))).2,rfl,h.imp id λx=>⟨Iq _ x.1,x.2⟩⟩
  .exact(hb _ (h.imp id (·.1))).1
 |obj r=>
  simp only[EvT] at h
  cases w<;>cases sy<;>refine⟨λx hx=>?_,by simp[jB],(hb _ (h.imp id (·.1))).1⟩<;>simp only[jB,qG,fS,reduceCtorEq] at hx<;>
   (subst hx;exact .inl ⟨r,(hb _ (h.imp id (·.1))).2,rfl,h.imp id λx=>⟨Iq _ x.1,x.2⟩⟩)
 |output=>exact h.elim
 |goroutines=>exact h.elim
 |mark m=>
  cases m<;>simp only[EvT] at h<;>try exact h.elim
  case read a=>
   refine⟨λx hx=>?_,by simp[jB],by simpa[jB,Ws,h.2] using hW⟩;simp only[jB,qG,fS] at hx;subst hx;exact .inr (.inl ⟨h.2,.inr ⟨rfl,by simpa using h.1⟩⟩)
  case write a=>
   refine⟨λx hx=>?_,by simp[jB],by simpa[jB,Ws,h.2] using hW⟩;simp only[jB,qG,fS] at hx;subst hx;exact .inr (.inl ⟨h.2,.inr ⟨rfl,by simpa using h.1⟩⟩)
  all_goals exact⟨λx hx=>by simp[jB,qG] at hx,by simp[jB],by simp[jB,Ws]⟩
theorem zdn {own pas:Nat->Prop}{k B:Nat}{a:bO}{b:Bool}(ha:a.block=Wg)(hW:Wg<B):Mm Wg own pas k B ⟨.cell a,b,true⟩:=by
 refine⟨λx hx=>?_,by simp[jB],by simpa[jB,Ws,Loc.low,ha] using hW⟩;simp only[jB,qG,fS] at hx;subst hx;exact .inr (.inl ⟨ha,.inl rfl⟩)
theorem zeh {own pas:Nat->Prop}{k B:Nat}(h:e.mute=true):Mm Wg own pas k B e:=by
 refine⟨λx hx=>(by rw[zkH h] at hx;cases hx),?_,low_mute h B⟩;obtain⟨loc,w,sy⟩:=e;cases loc<;>simp_all [zdo];rename_i m;cases m<;>simp_all [jB]
theorem TI.deafs {n:Nat}{own pas:Nat->Nat->Prop}{live:Nat->Prop}{Shun:Loc->Prop}{B:Nat}{k:Nat}(rT:k<n)(hW:∀k',live k'->¬own k' Wg/\¬pas k' Wg)
 (fn:aN) (pos:String):∀(es:List oE) {t:lJ},TI Wg n own pas live Shun B t->
  (∀(l r:List oE) (e:oE),es=l++e::r->(∀a,(jB e).touch? =some a->mY a.loc Wg/\a.kind=.atomic/\0<nN (gV t k) l.toArray)/\jB e≠ .mark (.release (stA Wg))/\(jB e).low B)->
  TI Wg n own pas live Shun B (t++vP k fn pos es.toArray)
 |[],t,h,_=>by simpa[vP] using h
 |e::es,t,h,xO=>by
  have e1:t++vP k fn pos (e::es).toArray=(t++ #[{g:=k,fn,pos,act:=.ofEvent e}])++vP k fn pos es.toArray:=by
   rw[Wp,Wp];apply Jr;simp
  rw[e1];obtain⟨h1,h2,h3⟩:=xO [] es e rfl;refine TI.deafs rT hW fn pos es (h.idle rT (λa ha=>⟨(h1 a ha).1,(h1 a ha).2.1,(h1 a ha).2.2,hW⟩) h2 h3) λl r e' M3=>?_;have hd:gV (t++ #[({g:=k,fn,pos,act:=.ofEvent e}:Sx)]) k=nN (gV t k) #[e]:=by
   have:=Deaf_own t k fn pos #[e];rw[Wp] at this;simpa using this
  have:=xO (e::l) r e' (by rw[M3];rfl);rw[hd];refine⟨λa ha=>⟨(this.1 a ha).1,(this.1 a ha).2.1,?_⟩,this.2⟩;have h5:=(this.1 a ha).2.2
  rwa [znj] at h5
variable {t:lJ}
theorem TI.mutes {n:Nat}{own pas:Nat->Nat->Prop}{live:Nat->Prop}{Shun:Loc->Prop}{B:Nat}{k:Nat}(h:TI Wg n own pas live Shun B t)(rT:k<n)(hW:∀k',live k'->¬own k' Wg/\¬pas k' Wg)
 (fn:aN) (pos:String)  (xO:∀e∈es,zdo e=true):TI Wg n own pas live Shun B (t++vP k fn pos es):=by
 obtain⟨l⟩:=es;refine h.deafs rT hW fn pos l λx r e he=>?_;have hm:=xO e (by simp[he]);have:=zeh (Wg:=Wg) (own:=own k) (pas:=pas k) (k:=k) (B:=B) hm;exact⟨λa ha=>(by rw[zkH hm] at ha;cases ha),this.2.1,this.2.2⟩
theorem Uj {gs gs':Array bC}{T T':Nat->Td L}{i:Nat}(hs:i≠0->gs'.size=gs.size)(h0:0<gs'.size)(hi:i<gs.size)(iY:i<gs'.size)(hc:Cl (T' i).r (T i).r)(he:∀j,j<i->(T' j).r=(T j).r):Mu.lt (mu gs' T') (mu gs T):=by
 refine⟨i,by simp only[mu];omega,?_,λj hj=>?_,λh=>by simpa[mu] using hs h⟩
 .simp only[mu,if_pos hi,if_pos iY];exact hc
 .simp only[mu,if_pos (show j<gs.size by omega),if_pos (show j<gs'.size by omega)];exact he j hj
theorem zG4 {gs gs':Array bC}{T:Nat->Td L}(hs:gs'.size=gs.size)(hc:gs'.countP Mo<gs.countP Mo):Mu.lt (mu gs' T) (mu gs T):=by
 refine⟨gs.size,by simp[mu],?_,λj hj=>?_,λh=>by simpa[mu] using hs⟩
 .simp only[mu,hs,Cb,if_false]
  exact .inl hc
 .simp only[mu,hs,if_pos hj]
theorem El.go {gs:Array bC}{w w':aE}{T:Nat->Td L}{ch tM:qV}{Shun:Loc->Prop}(h:El (P:=P) (ty:=ty) (Wg:=Wg) (A:=A) (Fin:=Fin) gs w t T ch Shun){i:Nat}{x g':bC}{Ti:Td L}
 (hi:gs[i]? =some x) (zix:Sits P ty Wg A Fin i Ti (nN (gV t i) es) g' w') (nE:g'.status≠ .blocked) (zj7:∀j,j≠i->bT ty Wg (T j).τ w w')
 (hC:∀(j:Nat) (gj:bC) (c:Nat) (z:aF) (sh:Nk),gs[j]? =some (parked gj #[rcase c z] sh)->woken P x g' w' (parked gj #[rcase c z] sh)=parked gj #[rcase c z] sh->tM c≠some true)
 (hW:i≠0->∀x0,gs[0]? =some x0->(T 0).ph=.w3->x0.status=.blocked->(woken P x g' w' x0).status=.blocked->¬fV ty Wg w' 0 1)
 (zlK:TI Wg gs.size (λk=>(bG T i Ti k).τ.own) (λk b=>(bG T i Ti k).τ.still b\/(bG T i Ti k).τ.pass b) (λk=>(bG T i Ti k).ph.live) Shun w'.heap.size (t++vP i fn pos es)):
 El (P:=P) (ty:=ty) (Wg:=Wg) (A:=A) (Fin:=Fin) ((gs.map (woken P x g' w')).setIfInBounds i g') w' (t++vP i fn pos es) (bG T i Ti) tM Shun:=by
 have aP:=(dM.1 hi).1;have get:∀(j:Nat) (y:bC),((gs.map (woken P x g' w')).setIfInBounds i g')[j]? =some y->(j=i/\y=g')\/(j≠i/\∃y0,gs[j]? =some y0/\y=woken P x g' w' y0):=by
  intro j y hj;by_cases eI:i=j
  .subst eI
   rw[Mb (by simpa using aP)] at hj;exact .inl ⟨rfl,(cD hj).symm⟩
  .rw[jM eI,xP] at hj
   obtain⟨y0,h0,rfl⟩:=wM.1 hj;exact .inr ⟨λe=>eI e.symm,y0,h0,rfl⟩
 have back:∀(j:Nat) (gj:bC) (cs:Array ziW) (sh:Nk),((gs.map (woken P x g' w')).setIfInBounds i g')[j]? =some (parked gj cs sh)->gs[j]? =some (parked gj cs sh)/\woken P x g' w' (parked gj cs sh)=parked gj cs sh:=by
  intro j gj cs sh hj;rcases get j _ hj with⟨_,e⟩|⟨aT,y0,h0,e⟩
  .exact absurd (by rw[<-e];rfl) nE
  .have hs:=h.sit j y0 h0
   by_cases hl:(T j).ph.leaves
   .rw[G2 hl] at hs
    obtain⟨q,_,hQ⟩:=hs;rw[zly hQ] at e;have:=hQ.status;rw[<-e] at this;simp[parked] at this
   .rw[pE hl] at hs
    obtain⟨r,_,_,hx|⟨l,Yp,wD,_,rfl,_,_⟩|⟨_,rfl,ho⟩⟩:=hs
    .rw[woken_running hx.1] at e
     have:=hx.1;rw[<-e] at this;simp[parked] at this
    .rcases zqL (P:=P) x g' (T j).g Yp wD w' with e2|e2
     .rw[e2] at e;rw[h0,e,e2];exact⟨rfl,rfl⟩
     .rw[e2] at e
      have:(parked gj cs sh).status=.running:=by rw[e]
      simp[parked] at this
    .have:(parked gj cs sh).offers=none:=by
      rw[e];unfold woken;split
      .simp[zcL,ho]
      .exact ho
     simp[parked] at this
 refine⟨λj y hj=>?_,λa b ga gb c v z z' sh wD ha hb=>?_,λj gj c z sh hj=>?_,λy hy wZ aX=>?_,by simpa using zlK⟩
 .rcases get j y hj with⟨rfl,rfl⟩|⟨aT,y0,h0,rfl⟩
  .rw[upd_same,Deaf_own];exact zix
  .rw[upd_ne T Ti aT,Nj t (g':=i) (λe=>aT e.symm) (vP i fn pos es) (λop hop=>zGS hop)]
   exact(h.sit j y0 h0).other (zj7 j aT) _ _
 .exact h.slp a b ga gb c v z z' sh wD (back a ga _ _ ha).1 (back b gb _ _ hb).1
 .exact hC j gj c z sh (back j gj _ _ hj).1 (back j gj _ _ hj).2
 .rcases get 0 y hy with⟨e,rfl⟩|⟨aT,y0,h0,rfl⟩
  .exact absurd aX nE
  .rw[upd_ne T Ti aT] at wZ
   have hb:y0.status=.blocked:=by
    rcases(h.sit 0 y0 h0).status with hs|hs|hs
    .rw[woken_running hs,hs] at aX;cases aX
    .unfold woken at aX
     split at aX
     .rw[again_running _ (.inr hs),hs] at aX;cases aX
     .rw[hs] at aX;cases aX
    .exact hs
   exact hW (λe=>aT e.symm) y0 h0 wZ hb aX
end
section
variable {L:Type}{P:bS}{ty:aM}{Wg:Nat}{A:jF L}{Fin:bC->aE->Prop}
theorem bT.of_aside {τ:cE}{c:Nat}{w w':aE}(h:Jy c w w')(hc:¬τ.own c/\¬τ.still c)(hl:WgLive ty Wg w->WgLive ty Wg w'):bT ty Wg τ w w':=
 ⟨h.tape,h.os,h.output,Nat.le_of_eq h.size.symm,λb hb=>h.block b (λe=>by subst e;exact hb.elim hc.1 hc.2),hl⟩
def Y4 {c:Nat}{w w':aE}(h:Jy c w w')(hc:c≠Wg):WgLive ty Wg w->WgLive ty Wg w':=λ⟨a,b,x⟩=>⟨a,b,(h.block Wg (λe=>hc e.symm)).trans x⟩
theorem gF.live {p:Nat->Ph L}{n:Nat}{w:aE}(h:gF A ty Wg p n w):WgLive ty Wg w:=by
 unfold gF at h;split at h
 .exact⟨_,_,h.1⟩
 .exact⟨_,_,h.1⟩
 .exact⟨_,_,h.1⟩
 .rcases h with⟨_,h,_⟩|⟨_,_,_,_,⟨_,h⟩|⟨_,h⟩⟩|⟨_,_,h⟩<;>exact⟨_,_,h⟩
 .exact⟨_,_,h.2.2⟩
 .exact⟨_,_,h.2.2⟩
 .exact h.elim
theorem WgLive.lt {w:aE}(h:WgLive ty Wg w):Wg<w.heap.size:=by
 obtain⟨_,_,h⟩:=h;exact(dM.1 h).1
theorem gF.of_block {p:Nat->Ph L}{n:Nat}{w w':aE}(h:gF A ty Wg p n w)(e:w'.heap[Wg]? =w.heap[Wg]?):gF A ty Wg p n w':=by
 have key:∀a b,fV ty Wg w a b->fV ty Wg w' a b:=λa b x=>e.trans x;unfold gF at*;split
 all_goals(rename_i hp;simp only[hp] at h)
 .exact⟨key _ _ h.1,h.2⟩
 .exact⟨key _ _ h.1,h.2⟩
 .exact⟨key _ _ h.1,h.2⟩
 .exact h.imp (λx=>⟨x.1,key _ _ x.2.1,x.2.2⟩) (Or.imp (λ⟨a,i,l,b,c⟩=>⟨a,i,l,b,c.imp (λx=>⟨x.1,key _ _ x.2⟩) (λx=>⟨x.1,key _ _ x.2⟩)⟩) λx=>⟨x.1,x.2.1,key _ _ x.2.2⟩)
 .exact⟨h.1,h.2.1,key _ _ h.2.2⟩
 .exact⟨h.1,h.2.1,key _ _ h.2.2⟩
theorem Ur (T:Nat->Td L)(i:Nat)(Ti:Td L):(λj=>(bG T i Ti j).ph.proj)=bG (λj=>(T j).ph.proj) i Ti.ph.proj:=by
 funext j;by_cases h:j=i
 .subst h;simp[upd_same]
 .simp[upd_ne _ _ h]
theorem Va (T:Nat->Td L)(i:Nat)(Ti:Td L):(λj=>(bG T i Ti j).ph)=bG (λj=>(T j).ph) i Ti.ph:=by
 funext j;by_cases h:j=i
 .subst h;simp[upd_same]
 .simp[upd_ne _ _ h]
theorem zgl {α:Type _}(f:Nat->α)(i:Nat):bG f i (f i)=f:=by
 funext j;by_cases h:j=i
 .subst h;simp[upd_same]
 .simp[upd_ne _ _ h]
variable {ch:qV}
theorem Stat.same {n:Nat}{w:aE}{T T':Nat->Td L}(h:Stat (ty:=ty) (Wg:=Wg) (A:=A) n w T ch)(hp:∀j,(T' j).ph=(T j).ph)(ht:∀j,(T' j).τ=(T j).τ):Stat (ty:=ty) (Wg:=Wg) (A:=A) n w T' ch:=by
 have e1:(λj=>(T' j).ph)=λj=>(T j).ph:=funext hp;have e2:(λj=>(T' j).ph.proj)=λj=>(T j).ph.proj:=funext λj=>by rw[hp]
 refine⟨h.n0,λi hi=>(hp i).trans (h.ou i hi),by rw[hp];exact h.role0,λi hi=>by rw[hp];exact h.role i hi,λi hi=>by rw[ht];rw[hp] at hi;exact h.nil i hi,λi j b qQ hb=>by rw[ht] at hb⊢;exact h.sep i j b qQ hb,
  λi b hb=>by rw[ht] at hb;exact h.bnd i b hb,λi b hb=>by rw[ht] at hb;exact h.pas i b hb,λi l hi=>by rw[ht];rw[hp] at hi;exact h.depo i l hi,h.chan,by rw[e1];exact h.grp,by rw[e2];exact h.inv⟩
theorem Stat.suf {n:Nat}{w w':aE}{T:Nat->Td L}(h:Stat (ty:=ty) (Wg:=Wg) (A:=A) n w T ch){i:Nat}(g:zA (T i).τ.own w w'){j:Nat}(hj:j≠i):bT ty Wg (T j).τ w w':=by
 have hl:WgLive ty Wg w->WgLive ty Wg w':=λx=>by
  obtain⟨a,b,hx⟩:=id x;exact⟨a,b,(g.keep Wg x.lt λe=>((h.bnd i Wg (.inl e)).2.1 rfl)).trans hx⟩
 refine⟨g.tape,g.os,g.output,g.size,λb hb=>g.keep b (h.bnd j b hb).1 λe=>?_,hl⟩;have:=h.sep i j b (λe=>hj e.symm) e;exact hb.elim this.1 this.2.1
theorem Stat.grow {n:Nat}{w w':aE}{T:Nat->Td L}(h:Stat (ty:=ty) (Wg:=Wg) (A:=A) n w T ch){i:Nat}(mP:(T i).ph.live)(g:zA (T i).τ.own w w')(r:Cp)(g':bC):
 Stat (ty:=ty) (Wg:=Wg) (A:=A) n w' (bG T i ⟨(T i).ph,r,(T i).τ.grow w w',g'⟩) ch:=by
 have hp:∀j,(bG T i ⟨(T i).ph,r,(T i).τ.grow w w',g'⟩ j).ph=(T j).ph:=λj=>by
  by_cases hj:j=i
  .subst hj;simp[upd_same]
  .simp[upd_ne _ _ hj]
 have e1:(λj=>(bG T i ⟨(T i).ph,r,(T i).τ.grow w w',g'⟩ j).ph)=λj=>(T j).ph:=funext hp;have e2:(λj=>(bG T i ⟨(T i).ph,r,(T i).τ.grow w w',g'⟩ j).ph.proj)=λj=>(T j).ph.proj:=funext λj=>by rw[hp]
 have hs:=g.size;have zh6:w'.heap[Wg]? =w.heap[Wg]? :=g.keep Wg h.grp.live.lt λe=>((h.bnd i Wg (.inl e)).2.1 rfl);have zvH:∀c b,ch c=some b->c<w.heap.size:=λc b hc=>by
  obtain⟨_,s,r,hh⟩:=h.chan c b hc;exact(dM.1 hh).1
 refine⟨h.n0,λj hj=>(hp j).trans (h.ou j hj),by rw[hp];exact h.role0,λj hj=>by rw[hp];exact h.role j hj,λj hj b=>?_,λa j b qQ hb=>?_,λj b hb=>?_,λj b hb=>?_,λj l hj=>?_,λc b hc=>?_,by rw[e1];exact h.grp.of_block zh6,by rw[e2];exact h.inv⟩
 .rw[hp] at hj
  by_cases eI:j=i
  .subst eI;rw[hj] at mP;exact mP.elim
  .rw[upd_ne _ _ eI];exact h.nil j hj b
 .by_cases Rc:a=i
  .subst Rc
   have eI:j≠a:=λe=>qQ e.symm;rw[upd_same] at hb;rw[upd_ne _ _ eI];rcases hb with hb|⟨hb,_⟩
   .exact h.sep a j b qQ hb
   .exact⟨λe=>by have:=(h.bnd j b (.inl e)).1;omega,λe=>by have:=(h.bnd j b (.inr e)).1;omega,λe=>by have:=(h.pas j b e).1;omega⟩
  .rw[upd_ne _ _ Rc] at hb
   by_cases eI:j=i
   .subst eI
    rw[upd_same];have:=h.sep a j b qQ hb;exact⟨λe=>e.elim this.1 λx=>by have:=(h.bnd a b (.inl hb)).1;omega,this.2⟩
   .rw[upd_ne _ _ eI];exact h.sep a j b qQ hb
 .by_cases eI:j=i
  .subst eI
   rw[upd_same] at hb;rcases hb with(hb|⟨hb,bY⟩)|hb
   .have:=h.bnd j b (.inl hb);exact⟨aD,this.2⟩
   .refine⟨bY,λe=>by have:=h.grp.live.lt;omega,?_⟩
    cases hc:ch b with
    |none=>rfl
    |some x=>have:=zvH b x hc;omega
   .have:=h.bnd j b (.inr hb);exact⟨aD,this.2⟩
  .rw[upd_ne _ _ eI] at hb
   have:=h.bnd j b hb;exact⟨aD,this.2⟩
 .by_cases eI:j=i
  .subst eI
   rw[upd_same] at hb;have:=h.pas j b hb;exact⟨aD,this.2⟩
  .rw[upd_ne _ _ eI] at hb
   have:=h.pas j b hb;exact⟨aD,this.2⟩
 .rw[hp] at hj
  by_cases eI:j=i
  .subst eI
   cases wZ:(T j).ph<;>rw[wZ] at hj mP<;>first|exact mP.elim|simp[Ph.proj] at hj
  .rw[upd_ne _ _ eI]
   exact λaI iN=>h.depo j l hj aI ((h.suf g eI).trans iN)
 .obtain⟨h1,s,r,h2⟩:=h.chan c b hc
  exact⟨h1,s,r,(g.keep c (zvH c b hc) λe=>by have:=(h.bnd i c (.inl e)).2.2;rw[hc] at this;cases this).trans h2⟩
theorem Stat.phase {n:Nat}{w w':aE}{T:Nat->Td L}(h:Stat (ty:=ty) (Wg:=Wg) (A:=A) n w T ch){i:Nat}(hg:(T i).ph≠ .gone)(nV:i<n)(a:Jy Wg w w')(ph':Ph L)(r:Cp)(g':bC)
 (wZ:ph'≠ .gone) (h0:i=0->ph'.live) (h1:i≠0->¬ph'.waits) (hl:WgLive ty Wg w->WgLive ty Wg w')
 (hd:∀l,ph'.proj=.over l->(T i).ph.proj=.over l\/∀aI,bT ty Wg (T i).τ w aI->A.dep l aI)
 (Ar:gF A ty Wg (bG (λj=>(T j).ph) i ph') n w') (hinv:A.Inv (bG (λj=>(T j).ph.proj) i ph'.proj) ch):
 Stat (ty:=ty) (Wg:=Wg) (A:=A) n w' (bG T i ⟨ph',r,(T i).τ,g'⟩) ch:=by
 have ht:∀j,(bG T i ⟨ph',r,(T i).τ,g'⟩ j).τ=(T j).τ:=λj=>by
  by_cases hj:j=i
  .subst hj;simp[upd_same]
  .simp[upd_ne _ _ hj]
 have sf:∀j,bT ty Wg (T j).τ w w':=λj=>bT.of_aside a ⟨λe=>(h.bnd j Wg (.inl e)).2.1 rfl,λe=>(h.bnd j Wg (.inr e)).2.1 rfl⟩ hl;have cH:=a.size;refine⟨h.n0,λj hj=>?_,?_,λj hj=>?_,λj hj b=>?_,λx j b qQ hb=>?_,λj b hb=>?_,λj b hb=>?_,λj l hj=>?_,λc b hc=>?_,by rw[Va];exact Ar,by rw[Ur];exact hinv⟩
 .have:j≠i:=aD
  rw[upd_ne _ _ this];exact h.ou j hj
 .by_cases hi:i=0
  .subst hi;rw[upd_same];exact h0 rfl
  .rw[upd_ne _ _ (Ne.symm hi)];exact h.role0
 .by_cases eI:j=i
  .subst eI;rw[upd_same];exact h1 hj
  .rw[upd_ne _ _ eI];exact h.role j hj
 .rw[ht]
  by_cases eI:j=i
  .subst eI;rw[upd_same] at hj;exact absurd hj wZ
  .rw[upd_ne _ _ eI] at hj;exact h.nil j hj b
 .rw[ht] at hb⊢;exact h.sep x j b qQ hb
 .rw[ht] at hb;have:=h.bnd j b hb;exact⟨aD,this.2⟩
 .rw[ht] at hb;have:=h.pas j b hb;exact⟨aD,this.2⟩
 .rw[ht]
  by_cases eI:j=i
  .subst eI
   rw[upd_same] at hj;rcases hd l hj with x|x
   .exact λaI iN=>h.depo j l x aI ((sf j).trans iN)
   .exact λaI iN=>x aI ((sf j).trans iN)
  .rw[upd_ne _ _ eI] at hj
   exact λaI iN=>h.depo j l hj aI ((sf j).trans iN)
 .obtain⟨h1,s,r,h2⟩:=h.chan c b hc
  exact⟨h1,s,r,(a.block c h1).trans h2⟩
theorem Stat.close {n:Nat}{w w':aE}{T:Nat->Td L}(h:Stat (ty:=ty) (Wg:=Wg) (A:=A) n w T ch){i:Nat}(nV:i<n){c:Nat}{x:Bool}(hc:ch c=some x)(a:Jy c w w'){l l':L}(hl:(T i).ph=.usr l)(r:Cp)(g':bC)
 (p8:∃s r,w'.heap[c]? =some (.chan 0 #[] true s r false)) (Ar:gF A ty Wg (bG (λj=>(T j).ph) i (.usr l')) n w) (hinv:A.Inv (bG (λj=>(T j).ph.proj) i (.run l')) (bG ch c (some true))):
 Stat (ty:=ty) (Wg:=Wg) (A:=A) n w' (bG T i ⟨.usr l',r,(T i).τ,g'⟩) (bG ch c (some true)):=by
 have ht:∀j,(bG T i ⟨.usr l',r,(T i).τ,g'⟩ j).τ=(T j).τ:=λj=>by
  by_cases hj:j=i
  .subst hj;simp[upd_same]
  .simp[upd_ne _ _ hj]
 have zF:=(h.chan c x hc).1;have nc:∀j,¬(T j).τ.own c/\¬(T j).τ.still c:=λj=>⟨λe=>(by have:=(h.bnd j c (.inl e)).2.2;rw[hc] at this;cases this),λe=>(by have:=(h.bnd j c (.inr e)).2.2;rw[hc] at this;cases this)⟩;have sf:∀j,bT ty Wg (T j).τ w w':=λj=>bT.of_aside a (nc j) (Y4 a zF);have cH:=a.size;refine⟨h.n0,λj hj=>?_,?_,λj hj=>?_,λj hj b=>?_,λx j b qQ hb=>?_,λj b hb=>?_,λj b hb=>?_,λj l hj=>?_,λc' b kF=>?_,by rw[Va];exact Ar.of_block (a.block Wg (Ne.symm zF)),by rw[Ur];exact hinv⟩
 .have:j≠i:=aD
  rw[upd_ne _ _ this];exact h.ou j hj
 .by_cases hi:i=0
  .subst hi;rw[upd_same];trivial
  .rw[upd_ne _ _ (Ne.symm hi)];exact h.role0
 .by_cases eI:j=i
  .subst eI;rw[upd_same];exact id
  .rw[upd_ne _ _ eI];exact h.role j hj
 .rw[ht]
  by_cases eI:j=i
  .subst eI;rw[upd_same] at hj;cases hj
  .rw[upd_ne _ _ eI] at hj;exact h.nil j hj b
 .rw[ht] at hb⊢;exact h.sep x j b qQ hb
 .rw[ht] at hb
  have:=h.bnd j b hb;refine⟨aD,this.2.1,?_⟩;have aT:b≠c:=λe=>by subst e;exact hb.elim (nc j).1 (nc j).2
  rw[upd_ne _ _ aT];exact this.2.2
 .rw[ht] at hb;have:=h.pas j b hb;exact⟨aD,this.2⟩
 .rw[ht]
  by_cases eI:j=i
  .subst eI;rw[upd_same] at hj;simp[Ph.proj] at hj
  .rw[upd_ne _ _ eI] at hj
   exact λaI iN=>h.depo j l hj aI ((sf j).trans iN)
 .by_cases rQ:c'=c
  .subst rQ
   rw[upd_same] at kF;obtain⟨s,r,hw⟩:=p8;exact⟨zF,s,r,by rw[hw,<-cD kF]⟩
  .rw[upd_ne _ _ rQ] at kF
   obtain⟨h1,s,r,h2⟩:=h.chan c' b kF;exact⟨h1,s,r,(a.block c' rQ).trans h2⟩
end
section
variable {L:Type}{P:bS}{ty:aM}{Wg:Nat}{A:jF L}{Fin:bC->aE->Prop}
theorem gF.congr {p p':Nat->Ph L}{n n':Nat}{w:aE}(h:gF A ty Wg p n w)(h0:p' 0=p 0\/∃l l',p 0=.usr l/\p' 0=.usr l')(hv:vv A p' n'=vv A p n)(hl:∀j,(p j).last\/(p' j).last->p' j=p j):gF A ty Wg p' n' w:=by
 have nl:(∀i,¬(p i).last)->∀i,¬(p' i).last:=λx i e=>x i (by rw[<-hl i (.inr e)];exact e);unfold gF at*;rcases h0 with h0|⟨l,l',h0,zD7⟩
 .rw[h0,hv]
  split
  all_goals(rename_i hp;simp only[hp] at h)
  .exact⟨h.1,nl h.2⟩
  .exact⟨h.1,nl h.2.1,h.2.2⟩
  .exact⟨h.1,nl h.2.1,h.2.2⟩
  .rcases h with⟨a,b,c⟩|⟨a,i,l,b,c⟩|⟨a,b,c⟩
   .exact .inl ⟨a,b,nl c⟩
   .have hi:(p i).last:=by rcases c with⟨c|c,_⟩|⟨c,_⟩<;>rw[c]<;>trivial
    have e:=hl i (.inl hi);refine .inr (.inl ⟨a,i,l,λj hj=>b j (by rw[<-hl j (.inr hj)];exact hj),?_⟩);rw[e];exact c
   .exact .inr (.inr ⟨a,nl b,c⟩)
  .exact⟨h.1,nl h.2.1,h.2.2⟩
  .exact⟨h.1,nl h.2.1,h.2.2⟩
 .rw[zD7]
  rw[h0] at h;simp only at h⊢;rw[hv];exact⟨h.1,nl h.2⟩
theorem zf4 (A:jF L)(p:Nat->Ph L){i:Nat}(h:i≠0)(x:Ph L):yU A (bG p i x)=yU A p:=by
 unfold yU;rw[upd_ne _ _ (Ne.symm h)]
theorem gF.usr {p:Nat->Ph L}{n:Nat}{w:aE}(h:gF A ty Wg p n w){i:Nat}{l l':L}(hi:p i=.usr l)(nV:i<n)(ziB:A.pend l'=A.pend l):gF A ty Wg (bG p i (.usr l')) n w:=by
 refine h.congr ?_ ?_ λj hj=>?_
 .by_cases h0:i=0
  .subst h0;exact .inr ⟨l,l',hi,upd_same _ _ _⟩
  .exact .inl (upd_ne _ _ (Ne.symm h0))
 .unfold vv
  by_cases h0:i=0
  .subst h0
   rw[zfN];unfold yU;rw[upd_same,hi];simp only[ziB]
  .rw[zf4 A p h0]
   have:=zdd p (i:=i) (n:=n) (.usr l') nV h0;rw[hi] at this;simp only[Ph.pre,if_true] at this;omega
 .by_cases eI:j=i
  .subst eI;rw[upd_same,hi] at hj;exact(hj.elim id id).elim
  .exact upd_ne _ _ eI
variable {ch:qV}
theorem zgP {l:List Nat}{a:Nat}(h:a∈l):ch.opn l a=some false:=by simp[qV.opn,h]
theorem W9 {l:List Nat}{a:Nat}(h:a∉l):ch.opn l a=ch a:=by simp[qV.opn,h]
theorem Stat.meet {n:Nat}{w w':aE}{T:Nat->Td L}(h:Stat (ty:=ty) (Wg:=Wg) (A:=A) n w T ch){i j:Nat}(qQ:i≠j)(nV:i<n)(Yv:j<n){c:Nat}(hc:ch c=some false)(a:Jy c w w'){li li' lj lj':L}
 (hi:(T i).ph=.usr li) (hj:(T j).ph=.usr lj) (ri rj:Cp) (gi gj:bC) (τ':cE) (pub:List Nat)
 (ho:∀b,τ'.own b->(T i).τ.own b) (aX:τ'.still=(T i).τ.still) (Jq:∀b,τ'.pass b->(T i).τ.pass b\/(T i).τ.own b)
 (Cj:∀a∈pub,(T i).τ.own a/\¬τ'.own a/\¬τ'.still a/\Ic w a) (p8:∃s r,w'.heap[c]? =some (.chan 0 #[] false s r false))
 (zbV:A.pend li'=A.pend li) (Kr:A.pend lj'=A.pend lj) (hinv:A.Inv (bG (bG (λk=>(T k).ph.proj) i (.run li')) j (.run lj')) (ch.opn pub)):
 Stat (ty:=ty) (Wg:=Wg) (A:=A) n w' (bG (bG T i ⟨.usr li',ri,τ',gi⟩) j ⟨.usr lj',rj,(T j).τ,gj⟩) (ch.opn pub):=by
 have zF:=(h.chan c _ hc).1;have zh6:=a.block Wg (Ne.symm zF);have cH:=a.size;have nc:∀k,¬(T k).τ.own c/\¬(T k).τ.still c:=λk=>⟨λe=>(by have:=(h.bnd k c (.inl e)).2.2;rw[hc] at this;cases this),λe=>(by have:=(h.bnd k c (.inr e)).2.2;rw[hc] at this;cases this)⟩;have sf:∀k,bT ty Wg (T k).τ w w':=λk=>bT.of_aside a (nc k) (Y4 a zF)
 let U:=bG (bG T i ⟨.usr li',ri,τ',gi⟩) j ⟨.usr lj',rj,(T j).τ,gj⟩
 have ui:U i=⟨.usr li',ri,τ',gi⟩:=by simp only[U];rw[upd_ne _ _ qQ,upd_same]
 have uj:U j=⟨.usr lj',rj,(T j).τ,gj⟩:=by simp only[U];rw[upd_same]
 have uk:∀k,k≠i->k≠j->U k=T k:=λk h1 h2=>by simp only[U];rw[upd_ne _ _ h2,upd_ne _ _ h1]
 have own:∀k b,(U k).τ.own b->(T k).τ.own b:=λk b hb=>by
  by_cases k1:k=i
  .subst k1;rw[ui] at hb;exact ho b hb
  .by_cases k2:k=j
   .subst k2;rw[uj] at hb;exact hb
   .rw[uk k k1 k2] at hb;exact hb
 have still:∀k,(U k).τ.still=(T k).τ.still:=λk=>by
  by_cases k1:k=i
  .subst k1;rw[ui];exact aX
  .by_cases k2:k=j
   .subst k2;rw[uj]
   .rw[uk k k1 k2]
 have pass:∀k b,(U k).τ.pass b->(T k).τ.pass b\/(T k).τ.own b:=λk b hb=>by
  by_cases k1:k=i
  .subst k1;rw[ui] at hb;exact Jq b hb
  .by_cases k2:k=j
   .subst k2;rw[uj] at hb;exact .inl hb
   .rw[uk k k1 k2] at hb;exact .inl hb
 have zky:(λk=>(U k).ph)=bG (bG (λk=>(T k).ph) i (.usr li')) j (.usr lj'):=by simp only[U];rw[Va,Va]
 have zhZ:(λk=>(U k).ph.proj)=bG (bG (λk=>(T k).ph.proj) i (.run li')) j (.run lj'):=by simp only[U];rw[Ur,Ur];rfl
 have hp:∀k,(U k).ph=(T k).ph\/(∃l,(U k).ph=.usr l):=λk=>by
  by_cases k1:k=i
  .subst k1;rw[ui];exact .inr ⟨_,rfl⟩
  .by_cases k2:k=j
   .subst k2;rw[uj];exact .inr ⟨_,rfl⟩
   .rw[uk k k1 k2];exact .inl rfl
 refine⟨h.n0,λk hk=>?_,?_,λk hk=>?_,λk hk b=>?_,λx k b eB hb=>?_,λk b hb=>?_,λk b hb=>?_,λk l hk=>?_,λc' b kF=>?_,?_,?_⟩
 .show(U k).ph=_
  rw[uk k aD aD];exact h.ou k hk
 .rcases hp 0 with e|⟨l,e⟩
  .rw[show(bG (bG T i ⟨.usr li',ri,τ',gi⟩) j ⟨.usr lj',rj,(T j).τ,gj⟩ 0).ph=(T 0).ph from e];exact h.role0
  .rw[show(bG (bG T i ⟨.usr li',ri,τ',gi⟩) j ⟨.usr lj',rj,(T j).τ,gj⟩ 0).ph=.usr l from e];trivial
 .rcases hp k with e|⟨l,e⟩
  .rw[show(bG (bG T i ⟨.usr li',ri,τ',gi⟩) j ⟨.usr lj',rj,(T j).τ,gj⟩ k).ph=(T k).ph from e];exact h.role k hk
  .rw[show(bG (bG T i ⟨.usr li',ri,τ',gi⟩) j ⟨.usr lj',rj,(T j).τ,gj⟩ k).ph=.usr l from e];exact id
 .have k1:k≠i:=λe=>by subst e;rw[show(bG (bG T k ⟨.usr li',ri,τ',gi⟩) j ⟨.usr lj',rj,(T j).τ,gj⟩ k)=_ from ui] at hk;cases hk
  have k2:k≠j:=λe=>by subst e;rw[show(bG (bG T i ⟨.usr li',ri,τ',gi⟩) k ⟨.usr lj',rj,(T k).τ,gj⟩ k)=_ from uj] at hk;cases hk
  have e:=uk k k1 k2;show ¬(U k).τ.own b/\_;rw[show(bG (bG T i ⟨.usr li',ri,τ',gi⟩) j ⟨.usr lj',rj,(T j).τ,gj⟩ k)=T k from e] at hk⊢;rw[e];exact h.nil k hk b
 .have:=h.sep x k b eB (own x b hb)
  refine⟨λe=>this.1 (own k b e),λe=>this.2.1 (by have e':(U k).τ.still b:=e;rwa [still k] at e'),λe=>(pass k b e).elim this.2.2 this.1⟩
 .have bY:(T k).τ.own b\/(T k).τ.still b:=hb.imp (own k b) λe=>by have e':(U k).τ.still b:=e;rwa [still k] at e'
  have:=h.bnd k b bY;refine⟨aD,this.2.1,?_⟩;have zao:b∉pub:=λhp=>by
   obtain⟨h1,h2,h3,_⟩:=Cj b hp;by_cases k1:k=i
   .subst k1
    rcases hb with e|e
    .rw[show(bG (bG T k ⟨.usr li',ri,τ',gi⟩) j ⟨.usr lj',rj,(T j).τ,gj⟩ k)=_ from ui] at e;exact h2 e
    .rw[show(bG (bG T k ⟨.usr li',ri,τ',gi⟩) j ⟨.usr lj',rj,(T j).τ,gj⟩ k)=_ from ui] at e;exact h3 e
   .have s:=h.sep i k b (Ne.symm k1) h1
    exact bY.elim s.1 s.2.1
  rw[W9 zao];exact this.2.2
 .rcases pass k b hb with e|e
  .have:=h.pas k b e;exact⟨aD,this.2⟩
  .have:=h.bnd k b (.inl e);exact⟨aD,this.2.1⟩
 .by_cases k1:k=i
  .subst k1;rw[show(bG (bG T k ⟨.usr li',ri,τ',gi⟩) j ⟨.usr lj',rj,(T j).τ,gj⟩ k)=_ from ui] at hk;simp[Ph.proj] at hk
  .by_cases k2:k=j
   .subst k2;rw[show(bG (bG T i ⟨.usr li',ri,τ',gi⟩) k ⟨.usr lj',rj,(T k).τ,gj⟩ k)=_ from uj] at hk;simp[Ph.proj] at hk
   .rw[show(bG (bG T i ⟨.usr li',ri,τ',gi⟩) j ⟨.usr lj',rj,(T j).τ,gj⟩ k)=T k from uk k k1 k2] at hk⊢
    exact λaI iN=>h.depo k l hk aI ((sf k).trans iN)
 .by_cases mQ:c'∈pub
  .obtain⟨h1,_,_,h4⟩:=Cj c' mQ
   rw[zgP mQ] at kF;have aT:c'≠c:=λe=>by subst e;exact(nc i).1 h1
   exact⟨(h.bnd i c' (.inl h1)).2.1,0,0,by rw[a.block c' aT,<-cD kF];exact h4⟩
  .rw[W9 mQ] at kF
   by_cases rQ:c'=c
   .subst rQ
    rw[hc] at kF;obtain⟨s,r,hw⟩:=p8;exact⟨zF,s,r,by rw[hw,<-cD kF]⟩
   .obtain⟨h1,s,r,h2⟩:=h.chan c' b kF
    exact⟨h1,s,r,(a.block c' rQ).trans h2⟩
 .show gF A ty Wg (λk=>(U k).ph) n w'
  rw[zky];refine gF.of_block (gF.usr (l:=lj) (gF.usr (l:=li) h.grp hi nV zbV) ?_ Yv Kr) zh6;rw[upd_ne _ _ (Ne.symm qQ)];exact hj
 .show A.Inv (λk=>(U k).ph.proj) _
  rw[zhZ];exact hinv
theorem Stat.fork {n:Nat}{w:aE}{T:Nat->Td L}(h:Stat (ty:=ty) (Wg:=Wg) (A:=A) n w T ch){l lm lc:L}(hl:(T 0).ph=.usr l)(Mq:A.pend l=true)(x7:A.pend lm=false)(rm rc:Cp)(gm gc:bC)(τm τc:cE)(pub:List Nat)
 (cP:∀b,τm.own b\/τc.own b->(T 0).τ.own b) (zgy:∀b,τm.still b\/τc.still b->(T 0).τ.still b\/(T 0).τ.own b) (zf0:∀b,τm.pass b\/τc.pass b->(T 0).τ.pass b\/(T 0).τ.own b\/(T 0).τ.still b)
 (vU:∀b,τm.own b->¬τc.own b/\¬τc.still b/\¬τc.pass b) (Ap:∀b,τc.own b->¬τm.still b/\¬τm.pass b)
 (Cj:∀a∈pub,(T 0).τ.own a/\Ic w a/\¬τm.own a/\¬τm.still a/\¬τc.own a/\¬τc.still a) (hinv:A.Inv (bG (bG (λk=>(T k).ph.proj) 0 (.run lm)) n (.run lc)) (ch.opn pub)):
 Stat (ty:=ty) (Wg:=Wg) (A:=A) (n+1) w (bG (bG T 0 ⟨.usr lm,rm,τm,gm⟩) n ⟨.usr lc,rc,τc,gc⟩) (ch.opn pub):=by
 have hn:=h.n0;have za3:(T n).ph=.gone:=h.ou n (aZ _);have nn:=h.nil n za3;generalize hU:bG (bG T 0 ⟨.usr lm,rm,τm,gm⟩) n ⟨.usr lc,rc,τc,gc⟩=U;have u0:U 0=⟨.usr lm,rm,τm,gm⟩:=by rw[<-hU,upd_ne _ _ aD,upd_same]
 have un:U n=⟨.usr lc,rc,τc,gc⟩:=by rw[<-hU,upd_same]
 have uk:∀k,k≠0->k≠n->U k=T k:=λk h1 h2=>by rw[<-hU,upd_ne _ _ h2,upd_ne _ _ h1]
 have own:∀k b,(U k).τ.own b->(T k).τ.own b\/(k=n/\(T 0).τ.own b):=λk b hb=>by
  by_cases k1:k=0
  .subst k1;rw[u0] at hb;exact .inl (cP b (.inl hb))
  .by_cases k2:k=n
   .subst k2;rw[un] at hb;exact .inr ⟨rfl,cP b (.inr hb)⟩
   .rw[uk k k1 k2] at hb;exact .inl hb
 have zky:(λk=>(U k).ph)=bG (bG (λk=>(T k).ph) 0 (.usr lm)) n (.usr lc):=by rw[<-hU,Va,Va]
 have zhZ:(λk=>(U k).ph.proj)=bG (bG (λk=>(T k).ph.proj) 0 (.run lm)) n (.run lc):=by rw[<-hU,Ur,Ur];rfl
 have sub:∀k b,(U k).τ.own b\/(U k).τ.still b\/(U k).τ.pass b->k=0\/k=n\/(k≠0/\k≠n):=λk b _=>by omega
 refine⟨aD,λk hk=>?_,by rw[u0];trivial,λk hk=>?_,λk hk b=>?_,λx k b eB hb=>?_,λk b hb=>?_,λk b hb=>?_,λk l' hk=>?_,λc' b kF=>?_,?_,by rw[zhZ];exact hinv⟩
 .rw[uk k aD aD];exact h.ou k aD
 .by_cases k2:k=n
  .subst k2;rw[un];exact id
  .rw[uk k hk k2];exact h.role k hk
 .have k1:k≠0:=λe=>by subst e;rw[u0] at hk;cases hk
  have k2:k≠n:=λe=>by subst e;rw[un] at hk;cases hk
  rw[uk k k1 k2] at hk⊢;exact h.nil k hk b
 .by_cases x1:x=0
  .subst x1
   rw[u0] at hb;have ho:=cP b (.inl hb);by_cases k2:k=n
   .subst k2;rw[un];exact vU b hb
   .rw[uk k (Ne.symm eB) k2];exact h.sep 0 k b eB ho
  .by_cases x2:x=n
   .subst x2
    rw[un] at hb;have ho:=cP b (.inr hb);by_cases k1:k=0
    .subst k1;rw[u0];exact⟨λe=>(vU b e).1 hb,Ap b hb⟩
    .rw[uk k k1 (Ne.symm eB)];exact h.sep 0 k b (Ne.symm k1) ho
   .rw[uk x x1 x2] at hb
    have s0:=h.sep x 0 b x1 hb;by_cases k1:k=0
    .subst k1;rw[u0]
     exact⟨λe=>s0.1 (cP b (.inl e)),λe=>(zgy b (.inl e)).elim s0.2.1 s0.1,λe=>(zf0 b (.inl e)).elim s0.2.2 λz=>z.elim s0.1 s0.2.1⟩
    .by_cases k2:k=n
     .subst k2;rw[un]
      exact⟨λe=>s0.1 (cP b (.inr e)),λe=>(zgy b (.inr e)).elim s0.2.1 s0.1,λe=>(zf0 b (.inr e)).elim s0.2.2 λz=>z.elim s0.1 s0.2.1⟩
     .rw[uk k k1 k2];exact h.sep x k b eB hb
 .have key:(∃j,(T j).τ.own b\/(T j).τ.still b)/\b∉pub:=by
   by_cases k1:k=0
   .subst k1;rw[u0] at hb
    refine⟨⟨0,hb.elim (λe=>.inl (cP b (.inl e))) λe=>(zgy b (.inl e)).symm⟩,λhp=>?_⟩;have:=Cj b hp;exact hb.elim this.2.2.1 this.2.2.2.1
   .by_cases k2:k=n
    .subst k2;rw[un] at hb
     refine⟨⟨0,hb.elim (λe=>.inl (cP b (.inr e))) λe=>(zgy b (.inr e)).symm⟩,λhp=>?_⟩;have:=Cj b hp;exact hb.elim this.2.2.2.2.1 this.2.2.2.2.2
    .rw[uk k k1 k2] at hb
     refine⟨⟨k,hb⟩,λhp=>?_⟩;have:=h.sep 0 k b (Ne.symm k1) (Cj b hp).1;exact hb.elim this.1 this.2.1
  obtain⟨⟨j,hj⟩,zao⟩:=key;have:=h.bnd j b hj;exact⟨this.1,this.2.1,by rw[W9 zao];exact this.2.2⟩
 .have key:∃j,(T j).τ.pass b\/(T j).τ.own b\/(T j).τ.still b:=by
   by_cases k1:k=0
   .subst k1;rw[u0] at hb;exact⟨0,zf0 b (.inl hb)⟩
   .by_cases k2:k=n
    .subst k2;rw[un] at hb;exact⟨0,zf0 b (.inr hb)⟩
    .rw[uk k k1 k2] at hb;exact⟨k,.inl hb⟩
  obtain⟨j,hj|hj⟩:=key
  .exact h.pas j b hj
  .have:=h.bnd j b hj;exact⟨this.1,this.2.1⟩
 .have k1:k≠0:=λe=>by subst e;rw[u0] at hk;simp[Ph.proj] at hk
  have k2:k≠n:=λe=>by subst e;rw[un] at hk;simp[Ph.proj] at hk
  rw[uk k k1 k2] at hk⊢;exact h.depo k l' hk
 .by_cases mQ:c'∈pub
  .rw[zgP mQ] at kF
   obtain⟨h1,h2,_⟩:=Cj c' mQ;exact⟨(h.bnd 0 c' (.inl h1)).2.1,0,0,by rw[<-cD kF];exact h2⟩
  .rw[W9 mQ] at kF;exact h.chan c' b kF
 .rw[zky]
  refine h.grp.congr (.inr ⟨l,lm,hl,by rw[upd_ne _ _ aD,upd_same]⟩) ?_ λj hj=>?_
  .unfold vv
   have e1:oP (bG (bG (λk=>(T k).ph) 0 (.usr lm)) n (.usr lc)) (n+1)=oP (λk=>(T k).ph) n+1:=by
    simp only[oP];rw[zv2 _ _ (aZ n),zfN,upd_same];simp[Ph.pre];omega
   have e2:yU A (bG (bG (λk=>(T k).ph) 0 (.usr lm)) n (.usr lc))=0:=by
    unfold yU;rw[upd_ne _ _ aD,upd_same];simp[x7]
   have e3:yU A (λk=>(T k).ph)=1:=by
    unfold yU;simp only[hl,Mq,if_true]
   omega
  .by_cases j1:j=0
   .subst j1;rw[upd_ne _ _ aD,upd_same] at hj
    have:((T 0).ph).last\/False:=hj;rw[hl] at this;exact(this.elim id id).elim
   .by_cases j2:j=n
    .subst j2;rw[upd_same] at hj
     have:((T j).ph).last\/False:=hj;rw[za3] at this;exact(this.elim id id).elim
    .rw[upd_ne _ _ j2,upd_ne _ _ j1]
end
section
variable {L:Type}(P:bS)(ty:aM)(Wg:Nat)(A:jF L)(Fin:bC->aE->Prop)(Shun:Loc->Prop)
structure Inv (gs:Array bC)(w:aE)(t:lJ)(T:Nat->Td L)(ch:qV):Prop where
 st:Stat (ty:=ty) (Wg:=Wg) (A:=A) gs.size w T ch
 dy:El (P:=P) (ty:=ty) (Wg:=Wg) (A:=A) (Fin:=Fin) gs w t T ch Shun
def Oo (m:Zy)(t:lJ):Prop:=
 ∃gs a w sl q,m=crowd gs w sl/\gs[0]? =some a/\a.status=.running/\Fin a w/\Leavers P t gs q/\Past (λl=>Shun l\/mY l Wg) w.heap.size t
def vA (gs:Array bC)(w:aE)(t:lJ)(T:Nat->Td L)(sl:Option (Nat×Nat))(i:Nat):Prop:=
 ∃m' ops,runT P (crowd gs w sl) i=(.next m',ops)/\
  (Oo P Wg Fin Shun m' (t++ops)\/∃gs' w' J5 T' tM,m'=crowd gs' w' J5/\Inv P ty Wg A Fin Shun gs' w' (t++ops) T' tM/\Mu.lt (mu gs' T') (mu gs T))
end
section
variable {L:Type}{P:bS}{ty:aM}{Wg:Nat}{A:jF L}{Fin:bC->aE->Prop}{Shun:Loc->Prop}
variable {gs:Array bC}{w w':aE}{t:lJ}{T:Nat->Td L}{ch tM:qV}{sl:Option (Nat×Nat)}{i j:Nat}{x g':bC}{es:Array oE}
def zvR (τ:cE)(w:aE)(d:Nat):bT ty Wg τ w (w.at d):=⟨rfl,rfl,rfl,aZ _,λ_ _=>rfl,id⟩
def Inv.at (h:Inv P ty Wg A Fin Shun gs w t T ch)(d:Nat):Inv P ty Wg A Fin Shun gs (w.at d) t T ch:=
 ⟨
  ⟨h.st.n0,h.st.ou,h.st.role0,h.st.role,h.st.nil,h.st.sep,h.st.bnd,h.st.pas,λi l hi aI s=>h.st.depo i l hi aI ((zvR _ w d).trans s),h.st.chan,h.st.grp.of_block rfl,h.st.inv⟩,
  ⟨λi x hi=>(h.dy.sit i x hi).rely (zvR _ w d),h.dy.slp,h.dy.slpC,h.dy.slpW,h.dy.tr⟩⟩
theorem znb {p:Nat->Ph L}(h:∀j,j≠0->(p j).pre=false):∀n,oP p n=0
 |0=>rfl
 |n+1=>by
  simp only[oP,znb h n];by_cases hn:n=0
  .simp[hn]
  .simp[h n hn]
theorem Inv.some1 (hA:A.Ok)(h:Inv P ty Wg A Fin Shun gs w t T ch):∃(i:Nat) (g:bC),gs[i]? =some g/\g.status=.running:=by
 refine zD λdB=>?_;have hn:∀(i:Nat) (g:bC),gs[i]? =some g->g.status≠ .running:=λi g hg e=>dB ⟨i,g,hg,e⟩;have zm4:∀i l,(T i).ph=.usr l->∃g,gs[i]? =some g/\zec P ty Wg A (i==0) (T i) g w:=by
  intro i l hl;have aP:i<gs.size:=by
   rcases nM i gs.size with x|x
   .exact x
   .have:=h.st.ou i x;rw[hl] at this;cases this
  refine⟨gs[i],nA aP,?_⟩;have hs:=h.dy.sit i _ (nA aP);rw[pE zjS] at hs;obtain⟨r,_,_,hx|hx|hx⟩:=hs
  .exact absurd hx.1 (hn i _ (nA aP))
  .exact hx
  .have:=hx.1;rw[hl] at this;cases this
 have Kr:∀i l,(T i).ph.proj=.run l->(T i).ph=.usr l:=by
  intro i l hi;cases wZ:(T i).ph<;>rw[wZ] at hi<;>simp[Ph.proj] at hi;rw[hi]
 have zFq:∀i l c ok pub nx,(T i).ph=.usr l->A.act l=.send c ok pub nx->∃g v z sh,gs[i]? =some (parked g #[scase c v z] sh):=by
  intro i l c ok pub nx hl ha;obtain⟨g,hg,l',cs,sh,h1,rfl,_,h4|h4⟩:=zm4 i l hl
  .obtain⟨c',pF,N0,nJ,v,z,h5,h6,_⟩:=h4
   rw[hl] at h1;injection h1 with h1;subst h1;rw[ha] at h5;injection h5 with h5;subst h5;exact⟨_,v,z,sh,by rw[hg,h6]⟩
  .obtain⟨c',pF,nJ,s',z,b,h5,_⟩:=h4
   rw[hl] at h1;injection h1 with h1;subst h1;rw[ha] at h5;cases h5
 have zyb:∀i l c ok nx s,(T i).ph=.usr l->A.act l=.recv c ok nx s->∃g z sh,gs[i]? =some (parked g #[rcase c z] sh):=by
  intro i l c ok nx s hl ha;obtain⟨g,hg,l',cs,sh,h1,rfl,_,h4|h4⟩:=zm4 i l hl
  .obtain⟨c',pF,N0,nJ,v,z,h5,_⟩:=h4
   rw[hl] at h1;injection h1 with h1;subst h1;rw[ha] at h5;cases h5
  .obtain⟨c',pF,nJ,s',z,b,h5,h6,_⟩:=h4
   rw[hl] at h1;injection h1 with h1;subst h1;rw[ha] at h5;injection h5 with h5;subst h5;exact⟨_,z,sh,by rw[hg,h6]⟩
 have hb:∀i l,(T i).ph.proj=.run l->A.Blocked (λi=>(T i).ph.proj) ch l:=by
  intro i l hi;have hl:=Kr i l hi;obtain⟨g,hg,l',cs,sh,h1,rfl,_,h4⟩:=zm4 i l hl;rw[hl] at h1;injection h1 with h1;subst h1;unfold jF.Blocked;rcases h4 with⟨c,ok,pub,nx,v,z,h5,h6,_⟩|⟨c,ok,nx,s,z,b,h5,h6,_⟩
  .rw[h5]
   rintro⟨j,l',pF,nJ,wD,hj,oJ⟩;obtain⟨gj,zj,zFa,zcH⟩:=zyb j l' c pF nJ wD (Kr j l' hj) oJ;subst h6;exact h.dy.slp i j _ _ _ _ _ _ _ _ hg zcH
  .rw[h5]
   subst h6;refine⟨?_,?_⟩
   .obtain⟨b',bY⟩:=hA.recvC _ ch i l c ok nx s h.st.inv hi h5
    cases b'
    .exact bY
    .exact absurd bY (h.dy.slpC i _ _ _ _ hg)
   .rintro⟨j,l',pF,N0,nJ,hj,oJ⟩
    obtain⟨gj,vj,zj,zFa,zcH⟩:=zFq j l' c pF N0 nJ (Kr j l' hj) oJ;exact h.dy.slp j i _ _ _ _ _ _ _ _ zcH hg
 obtain⟨Jj,Bn⟩:=hA.prog _ ch h.st.inv hb;have hq:∀j,j≠0->(T j).ph.leaves:=by
  intro j hj;refine zD λhl=>?_;have aP:j<gs.size:=by
   rcases nM j gs.size with x|x
   .exact x
   .exact absurd (by rw[h.st.ou j x];trivial) hl
  have hs:=h.dy.sit j _ (nA aP);rw[pE hl] at hs;obtain⟨r,_,_,hx|hx|hx⟩:=hs
  .exact hn j _ (nA aP) hx.1
  .obtain⟨l,_,_,h1,_⟩:=hx
   exact Bn j l (by show(T j).ph.proj=_;rw[h1];rfl)
  .have:=h.st.role j hj;rw[hx.1] at this;exact this trivial
 have h0:=h.dy.sit 0 _ (nA h.st.n0);have zf2:¬(T 0).ph.leaves:=λe=>by
  have:=h.st.role0;cases hp:(T 0).ph<;>rw[hp] at e this<;>first|exact e.elim|exact this.elim
 rw[pE zf2] at h0;obtain⟨r,_,_,hx|hx|hx⟩:=h0
 .exact hn 0 _ (nA h.st.n0) hx.1
 .obtain⟨l,_,_,h1,_⟩:=hx
  have:(T 0).ph.proj=.waits:=Jj;rw[h1] at this;cases this
 .have hg:=h.st.grp
  unfold gF at hg;simp only[hx.1] at hg;have zGQ:∀i,¬(T i).ph.last:=λi e=>by
   by_cases hi:i=0
   .subst hi;rw[hx.1] at e;exact e
   .have:=hq i hi
    cases hp:(T i).ph<;>rw[hp] at e this<;>first|exact e.elim|exact this.elim
  have hv:vv A (λi=>(T i).ph) gs.size=0:=by
   unfold vv yU;simp only[hx.1,Nat.add_zero];refine znb (λj hj=>?_) _;have:=hq j hj;cases hp:(T j).ph<;>rw[hp] at this<;>first|exact this.elim|rfl
  rcases hg with⟨a,_⟩|⟨_,i,l,_,hc⟩|⟨_,_,hc⟩
  .omega
  .refine zGQ i ?_
   rcases hc with⟨c|c,_⟩|⟨c,_⟩<;>rw[c]<;>trivial
  .exact h.dy.slpW _ (nA h.st.n0) hx.1 (by rw[hx.2.1]) hc
theorem Inv.awake (h:Inv P ty Wg A Fin Shun gs w t T ch):∀g∈gs,Conc.awake g:=by
 intro g hg;obtain⟨i,hi,rfl⟩:=Array.mem_iff_getElem.1 hg;have:=(h.dy.sit i _ (nA hi)).status;intro t e;rcases this with x|x|x<;>rw[e] at x<;>cases x
theorem U6 (hi:gs[i]? =some x)(hn:0<gs.size){Ti:Td L}(uO:stepG P (i==0) x w=.go g' w' es)(hr:Cl Ti.r (T i).r)
 (hS:Stat (ty:=ty) (Wg:=Wg) (A:=A) gs.size w' (bG T i Ti) tM)
 (hD:El (P:=P) (ty:=ty) (Wg:=Wg) (A:=A) (Fin:=Fin) ((gs.map (woken P x g' w')).setIfInBounds i g') w' (t++vP i x.frame.fn x.frame.place es) (bG T i Ti) tM Shun):vA P ty Wg A Fin Shun gs w t T sl i:=by
 have aP:=(dM.1 hi).1;have cH:((gs.map (woken P x g' w')).setIfInBounds i g').size=gs.size:=aQ;refine⟨_,_,X0 hi uO,.inr ⟨_,_,sl,bG T i Ti,tM,rfl,⟨by rw[cH];exact hS,hD⟩,Uj (i:=i) (λ_=>cH) aD aP aD (by rw[upd_same];exact hr) λj hj=>by rw[upd_ne _ _ aD]⟩⟩
theorem Stat.tiEvents {n:Nat}(hS:Stat (ty:=ty) (Wg:=Wg) (A:=A) n w T ch)(nV:i<n)(hl:(T i).ph.live)(fn:aN)(pos:String)
 (h:TI Wg n (λk=>(T k).τ.own) (λk b=>(T k).τ.still b\/(T k).τ.pass b) (λk=>(T k).ph.live) Shun w.heap.size t)
 (xO:∀e∈es,Mm Wg (T i).τ.own (λb=>(T i).τ.still b\/(T i).τ.pass b) i w.heap.size e):
 TI Wg n (λk=>(T k).τ.own) (λk b=>(T k).τ.still b\/(T k).τ.pass b) (λk=>(T k).ph.live) Shun w.heap.size (t++vP i fn pos es):=by
 obtain⟨l⟩:=es;refine TI.events (live:=λk=>(T k).ph.live) (k:=i) hl nV (λk' b _ aT hb=>?_) (λk' b _ aT hb ho=>?_) (λk' _=>⟨λe=>(hS.bnd k' Wg (.inl e)).2.1 rfl,λe=>e.elim (λe=>(hS.bnd k' Wg (.inr e)).2.1 rfl) λe=>(hS.pas k' Wg e).2 rfl⟩) fn pos l h λe he=>xO e (by simpa using he)
 .have:=hS.sep i k' b (Ne.symm aT) hb
  exact⟨this.1,λe=>e.elim this.2.1 this.2.2⟩
 .have:=hS.sep k' i b aT ho
  exact hb.elim this.2.1 this.2.2
def Stat.noWg {n:Nat}(hS:Stat (ty:=ty) (Wg:=Wg) (A:=A) n w T ch):∀k',(T k').ph.live->¬(T k').τ.own Wg/\¬((T k').τ.still Wg\/(T k').τ.pass Wg):=
 λk' _=>⟨λe=>(hS.bnd k' Wg (.inl e)).2.1 rfl,λe=>e.elim (λe=>(hS.bnd k' Wg (.inr e)).2.1 rfl) λe=>(hS.pas k' Wg e).2 rfl⟩
def El.keepC (h:El (P:=P) (ty:=ty) (Wg:=Wg) (A:=A) (Fin:=Fin) gs w t T ch Shun):∀(j:Nat) (gj:bC) (c:Nat) (z:aF) (sh:Nk),gs[j]? =some (parked gj #[rcase c z] sh)->woken P x g' w' (parked gj #[rcase c z] sh)=parked gj #[rcase c z] sh->ch c≠some true:=
 λj gj c z sh hj _=>h.slpC j gj c z sh hj
def El.keepW (h:El (P:=P) (ty:=ty) (Wg:=Wg) (A:=A) (Fin:=Fin) gs w t T ch Shun)(e:fV ty Wg w' 0 1->fV ty Wg w 0 1):i≠0->∀x0,gs[0]? =some x0->(T 0).ph=.w3->x0.status=.blocked->(woken P x g' w' x0).status=.blocked->¬fV ty Wg w' 0 1:=
 λ_ x0 h0 h1 h2 _ h4=>h.slpW x0 h0 h1 h2 (e h4)
theorem Inv.leaver (h:Inv P ty Wg A Fin Shun gs w t T ch)(hi:gs[i]? =some x)(cF:x.status=.running)(hl:(T i).ph.leaves):vA P ty Wg A Fin Shun gs w t T sl i:=by
 have hs:=h.dy.sit i x hi;rw[G2 hl] at hs;obtain⟨q,hq,hQ⟩:=hs;have fL:i≠0:=λe=>by
  subst e;have:=h.st.role0;cases hp:(T 0).ph<;>rw[hp] at hl this<;>first|exact hl.elim|exact this.elim
 have aP:=(dM.1 hi).1
 cases q with
 |zero=>rw[hQ.1] at cF;cases cF
 |succ k=>
  rcases hQ with⟨hf,_⟩|⟨_,g',es,hm,aX,hQ'⟩
  .rw[hf] at cF;cases cF
  have uO:stepG P (i==0) x w=.go g' w es:=by
   have:(i==0)=false:=by simpa using fL
   rw[this];exact aX w
  have hp:∀j,(bG T i ⟨(T i).ph,.inl k,(T i).τ,g'⟩ j).ph=(T j).ph:=λj=>by
   by_cases hj:j=i
   .subst hj;simp[upd_same]
   .simp[upd_ne _ _ hj]
  have ht:∀j,(bG T i ⟨(T i).ph,.inl k,(T i).τ,g'⟩ j).τ=(T j).τ:=λj=>by
   by_cases hj:j=i
   .subst hj;simp[upd_same]
   .simp[upd_ne _ _ hj]
  refine U6 hi h.st.n0 (Ti:=⟨(T i).ph,.inl k,(T i).τ,g'⟩) uO (by rw[hq];exact .inl (Nat.lt_succ_self k)) (h.st.same hp ht) ?_;refine h.dy.go hi ((G2 (T:=⟨(T i).ph,.inl k,(T i).τ,g'⟩) hl).2 ⟨k,rfl,hQ'⟩) (by rcases hQ'.status with e|e<;>rw[e]<;>simp) (λj _=>bT.refl) h.dy.keepC (h.dy.keepW id) ?_;have e1:(λk'=>(bG T i ⟨(T i).ph,.inl k,(T i).τ,g'⟩ k').τ.own)=λk'=>(T k').τ.own:=funext λj=>by rw[ht]
  have e2:(λk' b=>(bG T i ⟨(T i).ph,.inl k,(T i).τ,g'⟩ k').τ.still b\/(bG T i ⟨(T i).ph,.inl k,(T i).τ,g'⟩ k').τ.pass b)=λk' b=>(T k').τ.still b\/(T k').τ.pass b:=funext λj=>by rw[ht]
  have e3:(λk'=>(bG T i ⟨(T i).ph,.inl k,(T i).τ,g'⟩ k').ph.live)=λk'=>(T k').ph.live:=funext λj=>by rw[hp]
  rw[e1,e2,e3];exact h.dy.tr.mutes aP h.st.noWg _ _ hm
theorem Inv.ownG {K:Bool->Ph L->Nat->cE->bC->aE->Prop}(h:Inv P ty Wg A Fin Shun gs w t T ch)(hi:gs[i]? =some x)(dK:lL x (T i).g)(hl:(T i).ph.live){ι:Type}{f:ι->Rk}(hr:(T i).r=.inr (.mk ι f))
 (hK:∀m ph d τ g w,K m ph d τ g w->∃k,oX P ty Wg A Fin (f k) m ph d τ g w) (ho:GoG P Wg K (i==0) (T i).ph (gV t i) (T i).τ (T i).g w):vA P ty Wg A Fin Shun gs w t T sl i:=by
 have aP:i<gs.size:=(dM.1 hi).1;obtain⟨g',w',es,aX,lQ,hg,xO,hk⟩:=ho;obtain⟨k,hB⟩:=hK _ _ _ _ _ _ hk;have oQ:¬(T i).ph.leaves:=λe=>by cases hp:(T i).ph<;>rw[hp] at e hl<;>first|exact e.elim|exact hl.elim
 have hS:=h.st.grow hl hg (.inr (f k)) g';refine U6 hi h.st.n0 (Ti:=⟨(T i).ph,.inr (f k),(T i).τ.grow w w',g'⟩) zbq Oq hS ?_
 refine h.dy.go hi ((pE (T:=⟨(T i).ph,.inr (f k),(T i).τ.grow w w',g'⟩) oQ).2 ⟨f k,rfl,hB,.inl (lL.self lQ)⟩) Jc (λj hj=>h.st.suf hg hj) h.dy.keepC
  (h.dy.keepW λe=>(hg.keep Wg h.st.grp.live.lt λe=>((h.st.bnd i Wg (.inl e)).2.1 rfl)).symm.trans e) ?_
 have hp:∀j,(bG T i ⟨(T i).ph,.inr (f k),(T i).τ.grow w w',g'⟩ j).ph=(T j).ph:=λj=>by
  by_cases hj:j=i
  .subst hj;simp[upd_same]
  .simp[upd_ne _ _ hj]
 have Oe:bG T i ⟨(T i).ph,.inr (f k),(T i).τ.grow w w',g'⟩ i=⟨(T i).ph,.inr (f k),(T i).τ.grow w w',g'⟩:=upd_same _ _ _;refine hS.tiEvents aP (by rw[hp];exact hl) _ _ ?_ λe he=>?_
 .have e3:(λk'=>(bG T i ⟨(T i).ph,.inr (f k),(T i).τ.grow w w',g'⟩ k').ph.live)=λk'=>(T k').ph.live:=funext λj=>by rw[hp]
  rw[e3];refine h.dy.tr.less (λk' b _ hb=>?_) (λk' b _ hb=>?_) hg.size
  .by_cases hj:k'=i
   .subst hj;rw[upd_same] at hb;exact hb.imp id (·.1)
   .rw[upd_ne _ _ hj] at hb;exact .inl hb
  .by_cases hj:k'=i
   .subst hj;rw[upd_same] at hb;exact .inl hb
   .rw[upd_ne _ _ hj] at hb;exact .inl hb
 .rw[Oe]
  refine zAe (xO e he) (λb hb=>.inl hb) (λb hb=>?_) (by have:=h.st.grp.live.lt;have:=hg.size;omega);have:=hS.bnd i b (by rw[Oe];exact hb);exact⟨this.1,this.2.1⟩
end
section
variable {L:Type}{P:bS}{ty:aM}{Wg:Nat}{A:jF L}{Fin:bC->aE->Prop}{Shun:Loc->Prop}
variable {gs:Array bC}{w w':aE}{t:lJ}{T:Nat->Td L}{ch tM:qV}{sl:Option (Nat×Nat)}{i j:Nat}{x g':bC}{es:Array oE}
theorem zei (T:Nat->Td L)(i:Nat)(ph':Ph L)(r:Cp)(g':bC)(j:Nat):(bG T i ⟨ph',r,(T i).τ,g'⟩ j).τ=(T j).τ:=by
 by_cases hj:j=i
 .subst hj;simp[upd_same]
 .simp[upd_ne _ _ hj]
theorem zGR (T:Nat->Td L)(i:Nat){ph':Ph L}(r:Cp)(τ:cE)(g':bC)(h:ph'.live↔(T i).ph.live):(λk=>(bG T i ⟨ph',r,τ,g'⟩ k).ph.live)=λk=>(T k).ph.live:=by
 funext j;by_cases hj:j=i
 .subst hj;simp[upd_same,h]
 .simp[upd_ne _ _ hj]
theorem TI.phase {n B:Nat}{ph':Ph L}(r:Cp)(g':bC)(h:TI Wg n (λk=>(T k).τ.own) (λk b=>(T k).τ.still b\/(T k).τ.pass b) (λk=>(T k).ph.live) Shun B t)(hl:ph'.live↔(T i).ph.live):
 TI Wg n (λk=>(bG T i ⟨ph',r,(T i).τ,g'⟩ k).τ.own) (λk b=>(bG T i ⟨ph',r,(T i).τ,g'⟩ k).τ.still b\/(bG T i ⟨ph',r,(T i).τ,g'⟩ k).τ.pass b) (λk=>(bG T i ⟨ph',r,(T i).τ,g'⟩ k).ph.live) Shun B t:=by
 have e1:(λk'=>(bG T i ⟨ph',r,(T i).τ,g'⟩ k').τ.own)=λk'=>(T k').τ.own:=funext λj=>by rw[zei]
 have e2:(λk' b=>(bG T i ⟨ph',r,(T i).τ,g'⟩ k').τ.still b\/(bG T i ⟨ph',r,(T i).τ,g'⟩ k').τ.pass b)=λk' b=>(T k').τ.still b\/(T k').τ.pass b:=funext λj=>by rw[zei]
 rw[e1,e2,zGR T i r _ g' hl];exact h
theorem Inv.alive (h:Inv P ty Wg A Fin Shun gs w t T ch)(hi:gs[i]? =some x)(dK:lL x (T i).g)(aX:stepG P (i==0) (T i).g w=.go g' w' es)(lQ:g'.status=.running){ι:Type}{f:ι->Rk}(hr:(T i).r=.inr (.mk ι f))
 (hl:(T i).ph.live) {ph':Ph L} (Ao:ph'.live) (a:Jy Wg w w') (J0:WgLive ty Wg w->WgLive ty Wg w')
 (hK:∃k,oX P ty Wg A Fin (f k) (i==0) ph' (nN (gV t i) es) (T i).τ g' w') (h1:i≠0->¬ph'.waits)
 (Ar:gF A ty Wg (bG (λj=>(T j).ph) i ph') gs.size w') (hinv:A.Inv (bG (λj=>(T j).ph.proj) i ph'.proj) ch) (hW:fV ty Wg w' 0 1->fV ty Wg w 0 1)
 (xO:∀e∈es,Mm Wg (T i).τ.own (λb=>(T i).τ.still b\/(T i).τ.pass b) i w'.heap.size e):vA P ty Wg A Fin Shun gs w t T sl i:=by
 have aP:i<gs.size:=(dM.1 hi).1;obtain⟨k,hB⟩:=hK;have oQ:¬ph'.leaves:=λe=>by cases ph'<;>first|exact e.elim|exact Ao.elim
 have Aa:(T i).ph≠ .gone:=λe=>by rw[e] at hl;exact hl
 have hS:=h.st.phase (r:=.inr (f k)) (g':=g') Aa aP a ph' (λe=>by rw[e] at Ao;exact Ao) (λ_=>Ao) h1 J0 (λl e=>by cases ph'<;>simp_all [Ph.proj,Ph.live]) Ar hinv;have Oe:bG T i ⟨ph',.inr (f k),(T i).τ,g'⟩ i=⟨ph',.inr (f k),(T i).τ,g'⟩:=upd_same _ _ _;refine U6 hi h.st.n0 (Ti:=⟨ph',.inr (f k),(T i).τ,g'⟩) zbq Oq hS ?_
 refine h.dy.go hi ((pE (T:=⟨ph',.inr (f k),(T i).τ,g'⟩) oQ).2 ⟨f k,rfl,hB,.inl (lL.self lQ)⟩) Jc
  (λj _=>bT.of_aside a ⟨λe=>(h.st.bnd j Wg (.inl e)).2.1 rfl,λe=>(h.st.bnd j Wg (.inr e)).2.1 rfl⟩ J0) h.dy.keepC (h.dy.keepW hW) ?_
 refine hS.tiEvents aP (by rw[Oe];exact Ao) _ _ ?_ λe he=>?_
 .have:=h.dy.tr.phase (i:=i) (ph':=ph') (.inr (f k)) g' ⟨λ_=>hl,λ_=>Ao⟩
  rwa [a.size]
 .rw[Oe];exact xO e he
theorem Inv.dead (h:Inv P ty Wg A Fin Shun gs w t T ch)(hi:gs[i]? =some x)(dK:lL x (T i).g)(aX:stepG P (i==0) (T i).g w=.go g' w' es)(nE:g'.status≠ .blocked){Ti:Td L}(hr:Cl Ti.r (T i).r)(hτ:Ti.τ=(T i).τ)
 (hl:¬(T i).ph.live) (hg:(T i).ph≠ .gone) (h0:i≠0) (Ao:¬Ti.ph.live) (wA:Ti.ph≠ .gone) (a:Jy Wg w w') (J0:WgLive ty Wg w->WgLive ty Wg w')
 (zix:Sits P ty Wg A Fin i Ti (nN (gV t i) es) g' w') (Zn:Ti.ph.proj=(T i).ph.proj)
 (Ar:gF A ty Wg (bG (λj=>(T j).ph) i Ti.ph) gs.size w') (hW:(mayWake P (T i).g=true/\g'.status=.running)\/(fV ty Wg w' 0 1->fV ty Wg w 0 1))
 (xO:∀(l r:List oE) (e:oE),es.toList=l++e::r->(∀a,(jB e).touch? =some a->mY a.loc Wg/\a.kind=.atomic/\0<nN (gV t i) l.toArray)/\jB e≠ .mark (.release (stA Wg))/\(jB e).low w'.heap.size):vA P ty Wg A Fin Shun gs w t T sl i:=by
 have aP:=(dM.1 hi).1;obtain⟨ph',r',τ',Rj⟩:=Ti;simp only at hτ Ao wA Zn Ar hr;subst hτ;have Kr:bG (λj=>(T j).ph.proj) i ph'.proj=λj=>(T j).ph.proj:=by rw[Zn];exact zgl (λj=>(T j).ph.proj) i
 have hS:=h.st.phase (r:=r') (g':=Rj) hg aP a ph' wA (λe=>absurd e h0) (λ_ e=>by cases ph'<;>first|exact e.elim|exact Ao e) J0 (λl e=>.inl (by rw[<-Zn];exact e)) Ar (by rw[Kr];exact h.st.inv);refine U6 hi h.st.n0 (Ti:=⟨ph',r',(T i).τ,Rj⟩) zbq hr hS ?_
 refine h.dy.go hi zix nE
  (λj _=>bT.of_aside a ⟨λe=>(h.st.bnd j Wg (.inl e)).2.1 rfl,λe=>(h.st.bnd j Wg (.inr e)).2.1 rfl⟩ J0) h.dy.keepC ?_ ?_
 .intro fL x0 sH wZ hb cK
  rcases hW with⟨hm,vN⟩|hW
  .exfalso
   have hs:=h.dy.sit 0 x0 sH;rw[pE (by rw[wZ];exact id)] at hs;obtain⟨_,_,_,hx|⟨_,_,_,hx,_⟩|⟨_,hx,ho⟩⟩:=hs
   .rw[hx.1] at hb;cases hb
   .rw[wZ] at hx;cases hx
   .have zeS:mayWake P x=true:=by
     rw[<-hm];unfold mayWake;rw[dK.2.1]
    rw[hx] at cK;unfold woken at cK;rw[zeS,vN] at cK;simp[zcL,ho] at cK
  .exact h.dy.slpW x0 sH wZ hb∘hW
 .have h1:=h.dy.tr.phase (i:=i) (ph':=ph') r' Rj ⟨λe=>absurd e Ao,λe=>absurd e hl⟩
  have h2:TI Wg gs.size (λk=>(bG T i ⟨ph',r',(T i).τ,Rj⟩ k).τ.own) (λk b=>(bG T i ⟨ph',r',(T i).τ,Rj⟩ k).τ.still b\/(bG T i ⟨ph',r',(T i).τ,Rj⟩ k).τ.pass b) (λk=>(bG T i ⟨ph',r',(T i).τ,Rj⟩ k).ph.live) Shun w'.heap.size t:=by rwa [a.size]
  have:=h2.deafs (k:=i) aP hS.noWg x.frame.fn x.frame.place es.toList xO;simpa using this
theorem zxr {n B d:Nat}{es:Array oE}(hm:∀e∈es,zdo e=true):∀(l r:List oE) (e:oE),es.toList=l++e::r->(∀a,(jB e).touch? =some a->mY a.loc Wg/\a.kind=.atomic/\0<nN d l.toArray)/\jB e≠ .mark (.release (stA Wg))/\(jB e).low B:=by
 intro l r e he;have zgE:=hm e (by rw[<-Array.mem_toList_iff,he];simp);have:=zeh (Wg:=Wg) (own:=λ_=>False) (pas:=λ_=>False) (k:=0) (B:=B) zgE;exact⟨λa ha=>(by rw[zkH zgE] at ha;cases ha),this.2.1,this.2.2⟩
theorem Inv.idle1 {K:Bool->Ph L->Nat->cE->bC->aE->Prop}(h:Inv P ty Wg A Fin Shun gs w t T ch)(hi:gs[i]? =some x)(dK:lL x (T i).g)(hl:¬(T i).ph.live)(oQ:¬(T i).ph.leaves){ι:Type}{f:ι->Rk}(hr:(T i).r=.inr (.mk ι f))
 (hK:∀m ph d τ g w,K m ph d τ g w->∃k,oX P ty Wg A Fin (f k) m ph d τ g w) (ho:zat P ty Wg K (i==0) (T i).ph (gV t i) (T i).τ (T i).g w):vA P ty Wg A Fin Shun gs w t T sl i:=by
 obtain⟨g',es,aX,lQ,hm,hk⟩:=ho w bT.refl;obtain⟨k,hB⟩:=hK _ _ _ _ _ _ hk;have h0:i≠0:=λe=>by subst e;exact hl h.st.role0
 have Aa:(T i).ph≠ .gone:=λe=>by rw[e] at oQ;exact oQ trivial
 have eu:=zgl (λj=>(T j).ph) i
 exact h.dead hi dK aX Jc (Ti:=⟨(T i).ph,.inr (f k),(T i).τ,g'⟩) Oq rfl hl Aa h0 hl Aa (Nl _ _) id
  ((pE (T:=⟨(T i).ph,.inr (f k),(T i).τ,g'⟩) oQ).2 ⟨f k,rfl,hB,.inl (lL.self lQ)⟩) rfl (by rw[eu];exact h.st.grp) (.inr id) (zxr (n:=0) hm)
theorem Inv.release (hA:A.Ok)(h:Inv P ty Wg A Fin Shun gs w t T ch)(hi:gs[i]? =some x)(dK:lL x (T i).g)(aX:stepG P (i==0) (T i).g w=.go g' w #[oF (.releaseMerge (stA Wg))])(lQ:g'.status=.running){ι:Type}{f:ι->Rk}(hr:(T i).r=.inr (.mk ι f))
 {l:L} (hl:(T i).ph=.usr l) (pN:A.act l=.done) (hd:gV t i=0) (sZ:∀aI,bT ty Wg (T i).τ w aI->A.dep l aI)
 (hK:∃k,oX P ty Wg A Fin (f k) (i==0) (.rel l) 0 (T i).τ g' w):vA P ty Wg A Fin Shun gs w t T sl i:=by
 have aP:=(dM.1 hi).1;obtain⟨k,hB⟩:=hK;obtain⟨h0,hinv⟩:=hA.done _ ch i l h.st.inv (by show(T i).ph.proj=_;rw[hl];rfl) pN;have Ar:gF A ty Wg (bG (λj=>(T j).ph) i (.rel l)) gs.size w:=by
  refine h.st.grp.congr (.inl (upd_ne _ _ (Ne.symm h0))) ?_ λj hj=>?_
  .unfold vv
   rw[zf4 A _ h0];have:=zdd (λj=>(T j).ph) (i:=i) (n:=gs.size) (.rel l) aP h0;simp only[hl,Ph.pre,if_true] at this;omega
  .by_cases eI:j=i
   .subst eI;rw[upd_same] at hj
    have:=hj;rw[hl] at this;exact(this.elim id id).elim
   .exact upd_ne _ _ eI
 have hS:=h.st.phase (r:=.inr (f k)) (g':=g') (by rw[hl];simp) aP (Nl _ _) (.rel l) aQ (λe=>absurd e h0) (λ_ e=>e) id (λl' e=>.inr (by
  simp only[Ph.proj,Pj.over.injEq] at e;subst e;exact sZ)) Ar hinv
 refine U6 hi h.st.n0 (Ti:=⟨.rel l,.inr (f k),(T i).τ,g'⟩) zbq Oq hS ?_;refine h.dy.go hi ((pE (T:=⟨.rel l,.inr (f k),(T i).τ,g'⟩) (by exact id)).2 ⟨f k,rfl,?_,.inl (lL.self lQ)⟩) Jc (λj _=>bT.refl) h.dy.keepC (h.dy.keepW id) ?_
 .have:nN (gV t i) #[oF (.releaseMerge (stA Wg))]=0:=by rw[hd];rfl
  rw[this];exact hB
 .have e1:(λk'=>(bG T i ⟨.rel l,.inr (f k),(T i).τ,g'⟩ k').τ.own)=λk'=>(T k').τ.own:=funext λj=>by rw[zei]
  have e2:(λk' b=>(bG T i ⟨.rel l,.inr (f k),(T i).τ,g'⟩ k').τ.still b\/(bG T i ⟨.rel l,.inr (f k),(T i).τ,g'⟩ k').τ.pass b)=λk' b=>(T k').τ.still b\/(T k').τ.pass b:=funext λj=>by rw[zei]
  rw[e1,e2];have mD:vP i x.frame.fn x.frame.place #[oF (.releaseMerge (stA Wg))]=#[{g:=i,fn:=x.frame.fn,pos:=x.frame.place,act:=.mark (.releaseMerge (stA Wg))}]:=by simp[vP,oF,jB]
  rw[mD];refine h.dy.tr.release aP rfl rfl hd h.st.grp.live.lt (λj hj=>?_) λj hj=>?_
  .by_cases eI:j=i
   .subst eI;rw[upd_same] at hj;exact hj.elim
   .rw[upd_ne _ _ eI] at hj;exact hj
  .by_cases eI:j=i
   .exact .inr eI
   .left;rw[upd_ne _ _ eI];exact hj
theorem Inv.acquire (h:Inv P ty Wg A Fin Shun gs w t T ch)(hi:gs[0]? =some x)(dK:lL x (T 0).g)(aX:stepG P true (T 0).g w=.go g' w #[oF (.acquire (stA Wg))])(lQ:g'.status=.running)(hd:gV t 0=0)
 (hq:∀j,j≠0->(T j).ph.leaves) (hF:Fin g' w):vA P ty Wg A Fin Shun gs w t T sl 0:=by
 have aP:0<gs.size:=h.st.n0;have M5:stepG P (0==0) x w=.go g' w #[oF (.acquire (stA Wg))]:=by rw[show((0:Nat)==0)=true from rfl,dK.step];exact aX
 refine⟨_,_,X0 hi M5,.inl ⟨_,g',w,sl,λj=>match(T j).r with| .inl q=>q|_=>0,rfl,by simp[aP],lQ,hF,?_⟩⟩;have mD:vP 0 x.frame.fn x.frame.place #[oF (.acquire (stA Wg))]=#[{g:=0,fn:=x.frame.fn,pos:=x.frame.place,act:=.mark (.acquire (stA Wg))}]:=by simp[vP,oF,jB]
 rw[mD]
 obtain⟨hP,qE⟩:=h.dy.tr.acquire (y:={g:=0,fn:=x.frame.fn,pos:=x.frame.place,act:=.mark (.acquire (stA Wg))}) aP rfl rfl hd h.st.grp.live.lt (λj hj=>by
  refine zD λaT=>?_;have:=hq j aT;have oJ:(T j).ph.live:=hj;cases hp:(T j).ph<;>rw[hp] at this oJ<;>first|exact this.elim|exact oJ.elim)
 refine⟨⟨λj y hj hy=>?_,λj hj=>qE j zbl⟩,hP⟩;have aT:0≠j:=aD;rw[jM aT,xP] at hy;obtain⟨y0,Tz,rfl⟩:=wM.1 hy;have hs:=h.dy.sit j y0 Tz;rw[G2 (hq j aD)] at hs;obtain⟨q,O9,hQ⟩:=hs;rw[zly hQ,Nj t (g:=j) (g':=0) aT _ (λop hop=>by simp at hop;rw[hop])];simp only[O9];exact hQ
end
end Go.Mt
namespace Go.Mt
open Go.Conc
open Go.ConcR (KK wgBlock WgAt stA smA rd wr)
section
variable {L:Type}{P:bS}{ty:aM}{Wg:Nat}{A:jF L}{Fin:bC->aE->Prop}{Shun:Loc->Prop}
variable {gs gs':Array bC}{w w':aE}{t t':lJ}{T T':Nat->Td L}{ch tM:qV}{sl:Option (Nat×Nat)}{i j:Nat}{x g':bC}{es:Array oE}
theorem El.gen (h:El (P:=P) (ty:=ty) (Wg:=Wg) (A:=A) (Fin:=Fin) gs w t T ch Shun)(M:Nat->Prop)(zg1:∀j,¬M j->gs'[j]? =gs[j]? /\T' j=T j)
 (zlQ:∀j y,M j->gs'[j]? =some y->y.status≠ .blocked/\Sits P ty Wg A Fin j (T' j) (gV t' j) y w') (zj7:∀j,¬M j->bT ty Wg (T j).τ w w') (zEp:∀j,¬M j->gV t' j=gV t j)
 (sS:∀c,tM c=some true->ch c=some true) (hW:fV ty Wg w' 0 1->fV ty Wg w 0 1)
 (zlK:TI Wg gs'.size (λk=>(T' k).τ.own) (λk b=>(T' k).τ.still b\/(T' k).τ.pass b) (λk=>(T' k).ph.live) Shun w'.heap.size t'):
 El (P:=P) (ty:=ty) (Wg:=Wg) (A:=A) (Fin:=Fin) gs' w' t' T' tM Shun:=by
 have old:∀(j:Nat) (g:bC) (cs:Array ziW) (sh:Nk),gs'[j]? =some (parked g cs sh)->gs[j]? =some (parked g cs sh):=by
  intro j g cs sh hj;by_cases hm:M j
  .exact absurd rfl (zlQ j _ hm hj).1
  .rw[<-(zg1 j hm).1];exact hj
 refine⟨λj y hj=>?_,λa b ga gb c v z z' sh wD ha hb=>h.slp a b ga gb c v z z' sh wD (old _ _ _ _ ha) (old _ _ _ _ hb),λj g c z sh hj hc=>h.slpC j g c z sh (old _ _ _ _ hj) (sS c hc),λy hy wZ hb=>?_,zlK⟩
 .by_cases hm:M j
  .exact(zlQ j y hm hj).2
  .obtain⟨h1,h2⟩:=zg1 j hm
   rw[h2,zEp j hm];rw[h1] at hj;exact(h.sit j y hj).rely (zj7 j hm)
 .by_cases hm:M 0
  .exact absurd hb (zlQ 0 y hm hy).1
  .obtain⟨h1,h2⟩:=zg1 0 hm
   rw[h1] at hy;rw[h2] at wZ;exact λe=>h.slpW y hy wZ hb (hW e)
theorem znd (t:lJ)(g:Nat)(u:lJ)(hu:∀op∈u,op.act≠ .mark .disable/\op.act≠ .mark .enable):gV (t++u) g=gV t g:=by
 obtain⟨l⟩:=u;rw[Deaf_append];have key:∀(l:List Sx) (d:Nat),(∀op∈l,op.act≠ .mark .disable/\op.act≠ .mark .enable)->l.foldl (deafStep g) d=d:=by
  intro l
  induction l with
  |nil=>intro d _;rfl
  |cons y l ih=>
   intro d hl;have e:deafStep g d y=d:=by
    have:=hl y aQ;unfold deafStep;split<;>simp_all
   rw[List.foldl_cons,e];exact ih d λop hop=>hl op (by simp[hop])
 exact key l _ λop hop=>hu op (by simpa using hop)
theorem TI.idles {n B:Nat}{own pas:Nat->Nat->Prop}{live:Nat->Prop}:∀(u:List Sx) {t:lJ},TI Wg n own pas live Shun B t->(∀op∈u,op.g<n/\op.act.touch? =none/\op.act≠ .mark (.release (stA Wg))/\op.act.low B)->TI Wg n own pas live Shun B (t++u.toArray)
 |[],t,h,_=>by simpa using h
 |y::u,t,h,hu=>by
  have e1:t++(y::u).toArray=(t++ #[y])++u.toArray:=by apply Jr;simp
  rw[e1];obtain⟨h1,h2,h3,h4⟩:=hu y aQ;exact TI.idles u (h.idle h1 (λa ha=>by rw[h2] at ha;cases ha) h3 h4) λop hop=>hu op (by simp[hop])
theorem Inv.offerR (h:Inv P ty Wg A Fin Shun gs w t T ch){k c:Nat}{y:bC}(hk:gs[k]? =some y)(aT:offersAt y c false≠[]):
 ∃l ok nx s z b,(T k).ph=.usr l/\A.act l=.recv c ok nx s/\y=parked (T k).g #[rcase c z] (.recv b)/\(∀aI,bT ty Wg (T k).τ w aI->stepG P (k==0) (T k).g aI=.comm (T k).g #[rcase c z] true (.recv b) aI #[]):=by
 have hs:=h.dy.sit k y hk;by_cases hl:(T k).ph.leaves
 .rw[G2 hl] at hs
  obtain⟨q,_,hQ⟩:=hs;refine absurd (U1 ?_ c false) aT;rcases hQ.status with e|e<;>rw[e]<;>simp
 .rw[pE hl] at hs
  obtain⟨r,_,_,hx|⟨l,cs,sh,h1,rfl,h3,h4⟩|⟨_,rfl,ho⟩⟩:=hs
  .exact absurd (U1 (by rw[hx.1];simp) c false) aT
  .rcases h4 with⟨c',ok,pub,nx,v,z,h5,rfl,rfl⟩|⟨c',ok,nx,s,z,b,h5,rfl,rfl⟩
   .exact absurd (offersAt_parked_send' _ _ _ _ _ _) aT
   .rw[zhX] at aT
    by_cases hc:c'=c
    .subst hc;exact⟨l,ok,nx,s,z,b,h1,h5,rfl,h3⟩
    .rw[if_neg hc] at aT;exact absurd rfl aT
  .refine absurd ?_ aT
   simp[offersAt,ho]
theorem Inv.offerS (h:Inv P ty Wg A Fin Shun gs w t T ch){k c:Nat}{y:bC}(hk:gs[k]? =some y)(aT:offersAt y c true≠[]):
 ∃l ok pub nx v z,(T k).ph=.usr l/\A.act l=.send c ok pub nx/\y=parked (T k).g #[scase c v z] .send/\(∀aI,bT ty Wg (T k).τ w aI->stepG P (k==0) (T k).g aI=.comm (T k).g #[scase c v z] true .send aI #[]):=by
 have hs:=h.dy.sit k y hk;by_cases hl:(T k).ph.leaves
 .rw[G2 hl] at hs
  obtain⟨q,_,hQ⟩:=hs;refine absurd (U1 ?_ c true) aT;rcases hQ.status with e|e<;>rw[e]<;>simp
 .rw[pE hl] at hs
  obtain⟨r,_,_,hx|⟨l,cs,sh,h1,rfl,h3,h4⟩|⟨_,rfl,ho⟩⟩:=hs
  .exact absurd (U1 (by rw[hx.1];simp) c true) aT
  .rcases h4 with⟨c',ok,pub,nx,v,z,h5,rfl,rfl⟩|⟨c',ok,nx,s,z,b,h5,rfl,rfl⟩
   .rw[zkh] at aT
    by_cases hc:c'=c
    .subst hc;exact⟨l,ok,pub,nx,v,z,h1,h5,rfl,h3⟩
    .rw[if_neg hc] at aT;exact absurd rfl aT
   .exact absurd (offersAt_parked_recv' _ _ _ _ _) aT
  .refine absurd ?_ aT
   simp[offersAt,ho]
theorem setChan_at (w:aE)(c cap:Nat)(Ix:Array aF)(cl:Bool)(s r:Nat)(tm:Bool)(h:c<w.heap.size):(w.setChan c cap Ix cl s r tm).heap[c]? =some (.chan cap Ix cl s r tm):=by
 simp[Ks,h]
theorem zp3 (w:aE)(c cap:Nat)(Ix:Array aF)(cl:Bool)(s r:Nat)(tm:Bool):Jy c w (w.setChan c cap Ix cl s r tm):=
 ⟨rfl,rfl,rfl,by simp[Ks],λk hk=>by simp only[Ks];rw[jM (Ne.symm hk)]⟩
theorem Inv.meet (hA:A.Ok)(h:Inv P ty Wg A Fin Shun gs w t T ch)(qQ:i≠j)(nV:i<gs.size)(Yv:j<gs.size){c:Nat}{li lj:L}{ok pF:aF->Prop}{pub:aF->List Nat}{nx nJ:aF->L}{sh:L}
 (zk1:(T i).ph=.usr li) (Rc:A.act li=.send c ok pub nx) (ziQ:(T j).ph=.usr lj) (znf:A.act lj=.recv c pF nJ sh) {ιi ιj:Type} {fi:ιi->Rk} {fj:ιj->Rk} (zDA:(T i).r=.inr (.mk ιi fi)) (Ll:(T j).r=.inr (.mk ιj fj))
 {v:aF} {τ':cE} {b:Bool} (bV:ok v) (ho:∀b,τ'.own b->(T i).τ.own b) (aX:τ'.still=(T i).τ.still) (Jq:∀b,τ'.pass b->(T i).τ.pass b\/(T i).τ.own b)
 (Cj:∀a∈pub v,(T i).τ.own a/\¬τ'.own a/\¬τ'.still a/\Ic w a)
 (zBj:∃k,oX P ty Wg A Fin (fi k) (i==0) (.usr (nx v)) (gV t i) τ' (oO (T i).g aA) w)
 (zII:pF v->(∀a∈A.got lj v,a<w.heap.size/\¬(T j).τ.own a/\¬(T j).τ.still a)->∃k,oX P ty Wg A Fin (fj k) (j==0) (.usr (nJ v)) (gV t j) (T j).τ (oO (T j).g (recvd b v true)) w)
 {s r:Nat} (hc:w.heap[c]? =some (.chan 0 #[] false s r false)) (cH:gs'.size=gs.size) (Ek:gs'[i]? =some (oO (T i).g aA)) (zcH:gs'[j]? =some (oO (T j).g (recvd b v true)))
 (zHc:∀k,k≠i->k≠j->gs'[k]? =gs[k]?) {u:lJ} (hu:∀op∈u,op.g<gs.size/\op.act.touch? =none/\op.act≠ .mark (.release (stA Wg))/\op.act.low w.heap.size/\op.act≠ .mark .disable/\op.act≠ .mark .enable):
 ∃T' tM,Inv P ty Wg A Fin Shun gs' (w.setChan c 0 #[] false (s+1) (r+1) false) (t++u) T' tM/\Mu.lt (mu gs' T') (mu gs T):=by
 have zbV:(λk=>(T k).ph.proj) i=.run li:=by show(T i).ph.proj=_;rw[zk1];rfl
 have Kr:(λk=>(T k).ph.proj) j=.run lj:=by show(T j).ph.proj=_;rw[ziQ];rfl
 have M7:=hA.sendC _ ch i li c ok pub nx h.st.inv zbV Rc;obtain⟨zyT,hinv⟩:=hA.meet _ ch i j li lj c ok pub nx pF nJ sh v h.st.inv zbV Kr Rc znf bV λa ha=>(h.st.bnd i a (.inl (Cj a ha).1)).2.2;obtain⟨ki,zCM⟩:=zBj
 obtain⟨kj,zEF⟩:=zII zyT λa ha=>by
  obtain⟨p1,_,_,p4⟩:=Cj a (hA.gotP _ ch i j li lj c ok pub nx pF nJ sh v h.st.inv zbV Kr Rc znf bV a ha);obtain⟨q1,q2,_⟩:=h.st.sep i j a qQ p1;exact⟨(dM.1 p4).1,q1,q2⟩
 have Ij:=(dM.1 hc).1;have a:=zp3 w c 0 #[] false (s+1) (r+1) false;have zF:=(h.st.chan c _ M7).1
 have hS:=h.st.meet qQ nV Yv M7 a zk1 ziQ (.inr (fi ki)) (.inr (fj kj)) (oO (T i).g aA) (oO (T j).g (recvd b v true)) τ' (pub v) ho aX Jq Cj
  ⟨s+1,r+1,setChan_at w c 0 #[] false (s+1) (r+1) false Ij⟩ (li':=nx v) (lj':=nJ v) (hA.pendC li _ c v ok pub nx Rc rfl) (hA.pendR lj _ c v pF nJ sh znf (.inl rfl)) hinv
 have nc:∀k,¬(T k).τ.own c/\¬(T k).τ.still c:=λk=>⟨λe=>zum,λe=>zsG⟩;have Ji:∀k,gV (t++u) k=gV t k:=λk=>znd t k u λop hop=>⟨(hu op hop).2.2.2.2.1,(hu op hop).2.2.2.2.2⟩;generalize hU:bG (bG T i ⟨.usr (nx v),.inr (fi ki),τ',oO (T i).g aA⟩) j ⟨.usr (nJ v),.inr (fj kj),(T j).τ,oO (T j).g (recvd b v true)⟩=U at hS;have ui:U i=⟨.usr (nx v),.inr (fi ki),τ',oO (T i).g aA⟩:=by rw[<-hU,upd_ne _ _ qQ,upd_same]
 have uj:U j=⟨.usr (nJ v),.inr (fj kj),(T j).τ,oO (T j).g (recvd b v true)⟩:=by rw[<-hU,upd_same]
 have uk:∀k,k≠i->k≠j->U k=T k:=λk h1 h2=>by rw[<-hU,upd_ne _ _ h2,upd_ne _ _ h1]
 refine⟨U,ch.opn (pub v),⟨by rw[cH];exact hS,h.dy.gen (λk=>k=i\/k=j) (λk hk=>⟨zHc k (λe=>hk (.inl e)) (λe=>hk (.inr e)),uk k (λe=>hk (.inl e)) (λe=>hk (.inr e))⟩) (λk y hk hy=>?_)
  (λk _=>bT.of_aside a (nc k) (Y4 a zF)) (λk _=>Ji k) (λc' kF=>?_) (λe=>(a.block Wg (Ne.symm zF)).symm.trans e) ?_⟩,?_⟩
 .rcases hk with rfl|rfl
  .rw[Ek] at hy;cases hy
   refine⟨by simp[oO],?_⟩;rw[ui,Ji];refine(pE (T:=⟨.usr (nx v),.inr (fi ki),τ',oO (T k).g aA⟩) id).2 ⟨fi ki,rfl,zCM.rely (bT.of_aside a ⟨λe=>(nc k).1 (ho c e),λe=>(nc k).2 (aX▸e)⟩ (Y4 a zF)),.inl (lL.self rfl)⟩
  .rw[zcH] at hy;cases hy
   refine⟨by simp[oO],?_⟩;rw[uj,Ji];exact(pE (T:=⟨.usr (nJ v),.inr (fj kj),(T k).τ,oO (T k).g (recvd b v true)⟩) id).2 ⟨fj kj,rfl,zEF.rely (bT.of_aside a (nc k) (Y4 a zF)),.inl (lL.self rfl)⟩
 .by_cases hp:c'∈pub v
  .rw[zgP hp] at kF;cases kF
  .rw[W9 hp] at kF;exact kF
 .rw[cH,a.size]
  have h1:=h.dy.tr.idles u.toList (λop hop=>by have:=hu op (by simpa using hop);exact⟨this.1,this.2.1,this.2.2.1,this.2.2.2.1⟩);have e0:u.toList.toArray=u:=aQ;rw[e0] at h1;have e3:(λk=>(U k).ph.live)=λk=>(T k).ph.live:=funext λk=>by
   by_cases k1:k=i
   .subst k1;rw[ui,zk1];rfl
   .by_cases k2:k=j
    .subst k2;rw[uj,ziQ];rfl
    .rw[uk k k1 k2]
  rw[e3];refine h1.less (λk b _ hb=>?_) (λk b _ hb=>?_) (aZ _)
  .by_cases k1:k=i
   .subst k1;rw[ui] at hb;exact .inl (ho b hb)
   .by_cases k2:k=j
    .subst k2;rw[uj] at hb;exact .inl hb
    .rw[uk k k1 k2] at hb;exact .inl hb
  .by_cases k1:k=i
   .subst k1;rw[ui] at hb
    rcases hb with hb|hb
    .exact .inl (.inl (aX▸hb))
    .exact(Jq b hb).elim (λe=>.inl (.inr e)) λe=>.inr (.inl e)
   .by_cases k2:k=j
    .subst k2;rw[uj] at hb;exact .inl hb
    .rw[uk k k1 k2] at hb;exact .inl hb
 .rcases nM i j with aP|B8
  .exact Uj (i:=i) (λ_=>cH) aD nV aD (by rw[ui,zDA];exact .inr (.mk fi ki)) λk hk=>by rw[uk k aD aD]
  .exact Uj (i:=j) (λ_=>cH) aD Yv aD (by rw[uj,Ll];exact .inr (.mk fj kj)) λk hk=>by rw[uk k aD aD]
theorem zD2 {xs:Array bC}{i:Nat}{y z:bC}(h:xs[i]? =some y)(hy:Mo y=true)(hz:Mo z=false):(xs.setIfInBounds i z).countP Mo<xs.countP Mo:=by
 obtain⟨aP,rfl⟩:=dM.1 h;have e:xs.setIfInBounds i z=xs.set i z:=by simp[Array.setIfInBounds,aP]
 rw[e,Array.countP_set aP];have:=Array.countP_pos_iff.2 ⟨xs[i],Array.getElem_mem aP,hy⟩;simp only[hy,hz,if_true,iU,if_false];omega
theorem Inv.park (h:Inv P ty Wg A Fin Shun gs w t T ch)(hi:gs[i]? =some x)(cF:x.status=.running)(oQ:¬(T i).ph.leaves){y:bC}(hy:y.status=.blocked)
 (hP:zec P ty Wg A (i==0) (T i) y w\/ziw (T i) y) (hW:i=0->(T 0).ph=.w3->¬fV ty Wg w 0 1)
 (hR:∀(c:Nat) (v z:aF) (sh:Nk) (g:bC),y=parked g #[scase c v z] sh->∀(k:Nat) (yk:bC),gs[k]? =some yk->offersAt yk c false=[]) (hS:∀(c:Nat) (z:aF) (sh:Nk) (g:bC),y=parked g #[rcase c z] sh->ch c≠some true/\∀(k:Nat) (yk:bC),gs[k]? =some yk->offersAt yk c true=[]):
 Inv P ty Wg A Fin Shun (gs.setIfInBounds i y) w (t++ #[]) T ch/\Mu.lt (mu (gs.setIfInBounds i y) T) (mu gs T):=by
 have aP:=(dM.1 hi).1;have cH:(gs.setIfInBounds i y).size=gs.size:=aQ;have get:∀(k:Nat) (z:bC),(gs.setIfInBounds i y)[k]? =some z->(k=i/\z=y)\/(k≠i/\gs[k]? =some z):=by
  intro k z hk;by_cases Cw:i=k
  .subst Cw
   rw[Mb aP] at hk;exact .inl ⟨rfl,(cD hk).symm⟩
  .rw[jM Cw] at hk
   exact .inr ⟨λe=>Cw e.symm,hk⟩
 have et:t++ #[]=t:=aQ;refine⟨⟨by rw[cH];exact h.st,?_⟩,zG4 cH (zD2 hi (by simp[Mo,cF]) (by simp[Mo,hy]))⟩;rw[et];refine⟨λk z hk=>?_,λa b ga gb c v z z' sh wD ha hb=>?_,λk g c z sh hk=>?_,λz hz wZ hb=>?_,by rw[cH];exact h.dy.tr⟩
 .rcases get k z hk with⟨rfl,rfl⟩|⟨aT,cN⟩
  .have hs:=h.dy.sit k x hi
   rw[pE oQ] at hs⊢;obtain⟨r,h1,h2,_⟩:=hs;exact⟨r,h1,h2,.inr hP⟩
  .exact h.dy.sit k z cN
 .rcases get a _ ha with⟨ea,fF⟩|⟨Mk,fF⟩
  .rcases get b _ hb with⟨eb,bY⟩|⟨nE,bY⟩
   .rw[<-fF] at bY
    simp[parked,rcase,scase] at bY
   .have:=hR c v z sh ga fF.symm b _ bY
    rw[zhX] at this;simp at this
  .rcases get b _ hb with⟨eb,bY⟩|⟨nE,bY⟩
   .have:=(hS c z' wD gb bY.symm).2 a _ fF
    rw[zkh] at this;simp at this
   .exact h.dy.slp a b ga gb c v z z' sh wD fF bY
 .rcases get k _ hk with⟨_,e⟩|⟨_,cN⟩
  .exact(hS c z sh g e.symm).1
  .exact h.dy.slpC k g c z sh cN
 .rcases get 0 z hz with⟨e,_⟩|⟨_,cN⟩
  .exact hW e.symm wZ
  .exact h.dy.slpW z cN wZ hb
end
section
variable {L:Type}{P:bS}{ty:aM}{Wg:Nat}{A:jF L}{Fin:bC->aE->Prop}{Shun:Loc->Prop}
variable {gs gs':Array bC}{w w':aE}{t t':lJ}{T T':Nat->Td L}{ch tM:qV}{sl:Option (Nat×Nat)}{i j:Nat}{x g':bC}{es:Array oE}
def zdL (i:Nat)(fn:aN)(pos:String):vP i fn pos #[]=#[]:=rfl
variable {b:Bool}
theorem zmW {c:Nat}(h:∀(k:Nat) (y:bC),gs[k]? =some y->offersAt y c b=[]):partners (gs.setIfInBounds i zdF) c b=[]:=by
 refine partners_nil λk y hk=>?_;rcases ztk gs i k y hk with⟨_,rfl⟩|⟨_,cN⟩
 .rfl
 .exact h k y cN
theorem zoh {c k:Nat}{y:bC}(Cw:k≠i)(hk:gs[k]? =some y)(ho:offersAt y c b=[0])(h:∀(m:Nat) (z:bC),m≠k->gs[m]? =some z->offersAt z c b=[]):partners (gs.setIfInBounds i zdF) c b=[(k,0)]:=by
 rw[partners_one (stand_get Cw hk) λm z hm hz=>?_,ho]
 .rfl
 .rcases ztk gs i m z hz with⟨_,rfl⟩|⟨_,Fi⟩
  .rfl
  .exact h m z hm Fi
theorem Inv.send (hA:A.Ok)(h:Inv P ty Wg A Fin Shun gs w t T ch)(hi:gs[i]? =some x)(dK:lL x (T i).g){ι:Type}{f:ι->Rk}(hr:(T i).r=.inr (.mk ι f)){l:L}(hl:(T i).ph=.usr l){c:Nat}{ok:aF->Prop}{pub:aF->List Nat}{nx:aF->L}
 (ha:A.act l=.send c ok pub nx) (hB:l9 P ty Wg A (λm ph d τ g w=>∃k,oX P ty Wg A Fin (f k) m ph d τ g w) (i==0) l (gV t i) (T i).τ (T i).g w):vA P ty Wg A Fin Shun gs w t T sl i:=by
 have aP:i<gs.size:=(dM.1 hi).1;unfold l9 at hB;rw[ha] at hB;obtain⟨Ci,v,z,τ',h1,h2,h3,h4,Ki,h5,h6⟩:=hB;have hp:(λk=>(T k).ph.proj) i=.run l:=by show(T i).ph.proj=_;rw[hl];rfl
 have M7:=hA.sendC _ ch i l c ok pub nx h.st.inv hp ha;obtain⟨_,s,r,hc⟩:=h.st.chan c _ M7;have uO:stepG P (i==0) x w=.comm (T i).g #[scase c v z] true .send w #[]:=by rw[dK.step];exact h1 w bT.refl
 by_cases hk:∃(k:Nat) (y:bC),gs[k]? =some y/\offersAt y c false≠[]
 .obtain⟨k,y,hk,aT⟩:=hk
  have Cw:k≠i:=λe=>by
   subst e;rw[hi] at hk;cases hk;exact aT (U1 (by rw[dK.1];simp) c false)
  have Wq:k<gs.size:=(dM.1 hk).1;obtain⟨lk,pF,nJ,sh,zk,b,wN,Mi,rfl,zbd⟩:=h.offerR hk aT;have zhx:(λk=>(T k).ph.proj) k=.run lk:=by show(T k).ph.proj=_;rw[wN];rfl
  have zhi:partners (gs.setIfInBounds i zdF) c false=[(k,0)]:=by
   refine zoh Cw hk (by rw[zhX];simp) λm y' hm zhj=>zD λhn=>?_;obtain⟨lm,ziG,zlh,sm,_,_,Vd,zmU,_⟩:=h.offerR zhj hn;exact hm (hA.recv1 _ ch m k lm lk c ziG zlh sm pF nJ sh h.st.inv (by show(T m).ph.proj=_;rw[Vd];rfl) zhx zmU Mi)
  have Zp:=crowd_send_meets (P:=P) (sl:=sl) hi uO hc Cw hk zhi;have hs:=h.dy.sit k _ hk;rw[pE (by rw[wN];exact id)] at hs;obtain⟨rk,zkT,xG,_⟩:=hs
  cases rk with
  |mk ιk fk=>
   obtain⟨_,xG⟩:=xG;rw[wN] at xG;rcases xG with xG|xG
   .obtain⟨g',w',es,aX,_⟩:=xG w bT.refl
    rw[zbd w bT.refl] at aX;cases aX
   .simp only[zL,l9,Mi] at xG
    obtain⟨_,z',b',n8,uU,It⟩:=xG;have e:=(n8 w bT.refl).symm.trans (zbd w bT.refl);simp only[zwU,rcase,zfq,Xy,zdl,zH2,true_and,and_true] at e;obtain⟨_,eb⟩:=e;subst eb
    obtain⟨T',tM,hI,J1⟩:=h.meet hA (Ne.symm Cw) aP Wq hl ha wN Mi hr zkT (v:=v) (τ':=τ') (b:=b') h2 h3 h4 Ki h5 h6 (λhv hg=>uU v hv w bT.refl hg) hc
     (gs':=(gs.setIfInBounds k (oO (T k).g (recvd b' v true))).setIfInBounds i (oO (T i).g aA)) aQ (by simp[aP]) ztE
     (λm h1 h2=>by rw[jM (Ne.symm h1),jM (Ne.symm h2)])
     (u:=#[{g:=i,fn:=(T i).g.frame.fn,pos:=(T i).g.frame.place,act:=.send c s},{g:=k,fn:=(T k).g.frame.fn,pos:=(T k).g.frame.place,act:=.recv c r 0},{g:=i,fn:=(T i).g.frame.fn,pos:=(T i).g.frame.place,act:=.sendDone c s},{g:=k,fn:=(T k).g.frame.fn,pos:=(T k).g.frame.place,act:=.recvDone c r}])
     (λop hop=>by
      have Ij:c<w.heap.size:=(dM.1 hc).1;simp only[Gy,iX,lX,or_false] at hop;rcases hop with rfl|rfl|rfl|rfl<;>exact⟨by first|exact aP|exact Wq,rfl,aQ,Ij,aQ,aQ⟩)
    rw[zhR,zwz,zdL,zib] at Zp;exact⟨_,_,Zp,.inr ⟨_,_,sl,T',tM,rfl,hI,J1⟩⟩
 .have dB:∀(k:Nat) (y:bC),gs[k]? =some y->offersAt y c false=[]:=λk y zb8=>zD λhn=>hk ⟨k,y,zb8,hn⟩
  have vL:=crowd_waits (P:=P) (sl:=sl) hi uO (λcc rQ=>by
   simp only[Gy,iX,lX,or_false] at rQ;subst rQ;exact ways_send_none hc (lB _) (zmW dB))
  have hp:=h.park hi dK.1 zjS (y:=parked (T i).g #[scase c v z] .send) rfl (.inl ⟨l,_,_,hl,rfl,h1,.inl ⟨c,ok,pub,nx,v,z,ha,rfl,rfl⟩⟩) (λe e2=>by subst e;rw[hl] at e2;cases e2)
   (λc' v' z' wD g' e=>by
    simp only[parked,zrE,fS,o7,zfq,Xy,scase,zdl,zrK,and_true,true_and] at e;obtain⟨_,_,_,⟨e,_⟩,_⟩:=e;subst e;exact dB)
   (λc' z' wD g' e=>by simp[parked,scase,rcase] at e)
  exact⟨_,_,vL,.inr ⟨_,_,sl,T,ch,rfl,hp.1,hp.2⟩⟩
theorem Inv.recv (hA:A.Ok)(h:Inv P ty Wg A Fin Shun gs w t T ch)(hi:gs[i]? =some x)(dK:lL x (T i).g){ι:Type}{f:ι->Rk}(hr:(T i).r=.inr (.mk ι f)){l:L}(hl:(T i).ph=.usr l){c:Nat}{ok:aF->Prop}{nx:aF->L}{sh:L}
 (ha:A.act l=.recv c ok nx sh) (hB:l9 P ty Wg A (λm ph d τ g w=>∃k,oX P ty Wg A Fin (f k) m ph d τ g w) (i==0) l (gV t i) (T i).τ (T i).g w):vA P ty Wg A Fin Shun gs w t T sl i:=by
 have aP:i<gs.size:=(dM.1 hi).1;unfold l9 at hB;rw[ha] at hB;obtain⟨Ci,z,b,h1,h2,h3⟩:=hB;have hp:(λk=>(T k).ph.proj) i=.run l:=by show(T i).ph.proj=_;rw[hl];rfl
 obtain⟨cl,mF⟩:=hA.recvC _ ch i l c ok nx sh h.st.inv hp ha;obtain⟨zF,s,r,hc⟩:=h.st.chan c _ mF;have Ij:c<w.heap.size:=(dM.1 hc).1;have uO:stepG P (i==0) x w=.comm (T i).g #[rcase c z] true (.recv b) w #[]:=by rw[dK.step];exact h1 w bT.refl
 cases cl with
 |true=>
  have dB:∀(k:Nat) (y:bC),gs[k]? =some y->offersAt y c true=[]:=λk y zb8=>zD λhn=>by
   obtain⟨lk,zyw,zym,zHw,_,_,wN,Mi,_⟩:=h.offerS zb8 hn;have:=hA.sendC _ ch k lk c zyw zym zHw h.st.inv (by show(T k).ph.proj=_;rw[wN];rfl) Mi;rw[mF] at this;cases this
  have cF:=crowd_recv_closed (P:=P) (sl:=sl) hi uO hc (zmW dB);rw[zhR,zdL,zib] at cF;obtain⟨zF6,hinv⟩:=hA.shut _ ch i l c ok nx sh h.st.inv hp ha mF;obtain⟨k,hk⟩:=h3 zF6;have Ar:=gF.usr (l:=l) h.st.grp hl aP (hA.pendR l sh c aA ok nx sh ha (.inr rfl));have hS:=h.st.phase (r:=.inr (f k)) (g':=oO (T i).g (recvd b z false)) (by rw[hl];simp) aP (Nl _ _) (.usr sh) aQ (λ_=>trivial) (λ_ e=>e) id (λl' e=>by simp[Ph.proj] at e) Ar hinv;have cH:(gs.setIfInBounds i (oO (T i).g (recvd b z false))).size=gs.size:=aQ;have Ji:∀k,gV (t++(#[{g:=i,fn:=(T i).g.frame.fn,pos:=(T i).g.frame.place,act:=.recvClosed c}]:lJ)) k=gV t k:=λk=>znd t k _ λop hop=>by
   simp only[Gy,iX,lX,or_false] at hop;subst hop;exact⟨aQ,aQ⟩
  refine⟨_,_,cF,.inr ⟨gs.setIfInBounds i (oO (T i).g (recvd b z false)),w,sl,bG T i ⟨.usr sh,.inr (f k),(T i).τ,oO (T i).g (recvd b z false)⟩,ch,rfl,⟨by rw[cH];exact hS,?_⟩,?_⟩⟩
  .show El _ _ (t++(#[{g:=i,fn:=(T i).g.frame.fn,pos:=(T i).g.frame.place,act:=.recvClosed c}]:lJ)) _ _ _
   refine h.dy.gen (λk'=>k'=i) (λk' cN=>⟨by rw[jM (Ne.symm cN)],upd_ne _ _ cN⟩) (λk' y cN hy=>?_) (λ_ _=>bT.refl) (λk' _=>Ji k') (λ_ e=>e) id ?_
   .subst cN
    rw[Mb aP] at hy;cases hy;refine⟨by simp[oO],?_⟩;rw[upd_same,Ji];exact(pE (T:=⟨.usr sh,.inr (f k),(T k').τ,oO (T k').g (recvd b z false)⟩) id).2 ⟨f k,rfl,hk,.inl (lL.self rfl)⟩
   .rw[cH]
    have h0:=h.dy.tr.phase (i:=i) (ph':=.usr sh) (.inr (f k)) (oO (T i).g (recvd b z false)) ⟨λ_=>by rw[hl];trivial,λ_=>trivial⟩;exact h0.idles [{g:=i,fn:=(T i).g.frame.fn,pos:=(T i).g.frame.place,act:=.recvClosed c}] λop hop=>by
     simp only[iX,lX,or_false] at hop;subst hop;exact⟨aP,rfl,aQ,Ij⟩
  .exact Uj (i:=i) (λ_=>cH) aD aP aD zuz λk' cN=>by rw[upd_ne _ _ aD]
 |false=>
  by_cases hk:∃(k:Nat) (y:bC),gs[k]? =some y/\offersAt y c true≠[]
  .obtain⟨k,y,hk,aT⟩:=hk
   have Cw:k≠i:=λe=>by
    subst e;rw[hi] at hk;cases hk;exact aT (U1 (by rw[dK.1];simp) c true)
   have Wq:k<gs.size:=(dM.1 hk).1;obtain⟨lk,pF,N0,nJ,v,zk,wN,Mi,rfl,zbd⟩:=h.offerS hk aT;have zhx:(λk=>(T k).ph.proj) k=.run lk:=by show(T k).ph.proj=_;rw[wN];rfl
   have zhi:partners (gs.setIfInBounds i zdF) c true=[(k,0)]:=by
    refine zoh Cw hk (by rw[zkh];simp) λm y' hm zhj=>zD λhn=>?_;obtain⟨lm,ziG,zyg,zlh,_,_,Vd,zmU,_⟩:=h.offerS zhj hn;exact hm (hA.send1 _ ch m k lm lk c ziG zyg zlh pF N0 nJ h.st.inv (by show(T m).ph.proj=_;rw[Vd];rfl) zhx zmU Mi)
   have Zp:=crowd_recv_meets (P:=P) (sl:=sl) hi uO hc Cw hk zhi;have hs:=h.dy.sit k _ hk;rw[pE (by rw[wN];exact id)] at hs;obtain⟨rk,zkT,xG,_⟩:=hs
   cases rk with
   |mk ιk fk=>
    obtain⟨_,xG⟩:=xG;rw[wN] at xG;rcases xG with xG|xG
    .obtain⟨g',w',es,aX,_⟩:=xG w bT.refl
     rw[zbd w bT.refl] at aX;cases aX
    .simp only[zL,l9,Mi] at xG
     obtain⟨_,v',z',τ',n8,uU,It,zh7,zIF,zJr,zxJ⟩:=xG;have e:=(n8 w bT.refl).symm.trans (zbd w bT.refl);simp only[zwU,scase,zfq,Xy,zdl,fS,true_and,and_true] at e;obtain⟨ev,_⟩:=e;subst ev
     obtain⟨T',tM,hI,J1⟩:=h.meet hA Cw Wq aP wN Mi hl ha zkT hr (v:=v') (τ':=τ') (b:=b) uU It zh7 zIF zJr zxJ (λhv hg=>h2 v' hv w bT.refl hg) hc
      (gs':=(gs.setIfInBounds k (oO (T k).g aA)).setIfInBounds i (oO (T i).g (recvd b v' true))) aQ ztE (by simp[aP])
      (λm h1 h2=>by rw[jM (Ne.symm h2),jM (Ne.symm h1)])
      (u:=#[{g:=k,fn:=(T k).g.frame.fn,pos:=(T k).g.frame.place,act:=.send c s},{g:=i,fn:=(T i).g.frame.fn,pos:=(T i).g.frame.place,act:=.recv c r 0},{g:=k,fn:=(T k).g.frame.fn,pos:=(T k).g.frame.place,act:=.sendDone c s},{g:=i,fn:=(T i).g.frame.fn,pos:=(T i).g.frame.place,act:=.recvDone c r}])
      (λop hop=>by
       simp only[Gy,iX,lX,or_false] at hop;rcases hop with rfl|rfl|rfl|rfl<;>exact⟨by first|exact aP|exact Wq,rfl,aQ,Ij,aQ,aQ⟩)
     rw[zhR,zwz,zdL,zib] at Zp;exact⟨_,_,Zp,.inr ⟨_,_,sl,T',tM,rfl,hI,J1⟩⟩
  .have dB:∀(k:Nat) (y:bC),gs[k]? =some y->offersAt y c true=[]:=λk y zb8=>zD λhn=>hk ⟨k,y,zb8,hn⟩
   have vL:=crowd_waits (P:=P) (sl:=sl) hi uO (λcc rQ=>by
    simp only[Gy,iX,lX,or_false] at rQ;subst rQ;exact ways_recv_none hc (zmW dB))
   have hp:=h.park hi dK.1 zjS (y:=parked (T i).g #[rcase c z] (.recv b)) rfl (.inl ⟨l,_,_,hl,rfl,h1,.inr ⟨c,ok,nx,sh,z,b,ha,rfl,rfl⟩⟩) (λe e2=>by subst e;rw[hl] at e2;cases e2)
    (λc' v' z' wD g' e=>by simp[parked,scase,rcase] at e)
    (λc' z' wD g' e=>by
     simp only[parked,zrE,fS,o7,zfq,Xy,rcase,zdl,zrK,and_true,true_and] at e;obtain⟨_,_,_,⟨e,_⟩,_⟩:=e;subst e;exact⟨(by rw[mF];simp),dB⟩)
   exact⟨_,_,vL,.inr ⟨_,_,sl,T,ch,rfl,hp.1,hp.2⟩⟩
theorem Inv.close (hA:A.Ok)(h:Inv P ty Wg A Fin Shun gs w t T ch)(hi:gs[i]? =some x)(dK:lL x (T i).g){ι:Type}{f:ι->Rk}(hr:(T i).r=.inr (.mk ι f)){l:L}(hl:(T i).ph=.usr l){c:Nat}{nx:L}
 (ha:A.act l=.close c nx) (hB:l9 P ty Wg A (λm ph d τ g w=>∃k,oX P ty Wg A Fin (f k) m ph d τ g w) (i==0) l (gV t i) (T i).τ (T i).g w):vA P ty Wg A Fin Shun gs w t T sl i:=by
 have aP:i<gs.size:=(dM.1 hi).1;unfold l9 at hB;rw[ha] at hB;obtain⟨Zx,zEG,h1⟩:=hB;have hp:(λk=>(T k).ph.proj) i=.run l:=by show(T i).ph.proj=_;rw[hl];rfl
 obtain⟨M7,hinv⟩:=hA.close _ ch i l c nx h.st.inv hp ha;obtain⟨zF,s,r,hc⟩:=h.st.chan c _ M7;have Ij:c<w.heap.size:=(dM.1 hc).1;obtain⟨g',aX,lQ,k,hk⟩:=h1 w bT.refl s r hc;have a:=zp3 w c 0 #[] true s r false;have hS:=h.st.close aP M7 a hl (.inr (f k)) g' (l':=nx) ⟨s,r,setChan_at w c 0 #[] true s r false Ij⟩ (gF.usr (l:=l) h.st.grp hl aP (hA.pendX l c nx ha)) hinv;have nc:∀k,¬(T k).τ.own c/\¬(T k).τ.still c:=λk=>⟨λe=>zum,λe=>zsG⟩;have hd:nN (gV t i) (closeEvents c)=gV t i:=znZ (λe he=>by
  simp only[closeEvents,Gy,iX,lX,or_false] at he;rcases he with rfl|rfl<;>exact⟨aQ,aQ⟩) _
 have zeS:mayWake P x=true:=by rw[<-Zx];unfold mayWake;rw[dK.2.1]
 have Oe:bG T i ⟨.usr nx,.inr (f k),(T i).τ,g'⟩ i=⟨.usr nx,.inr (f k),(T i).τ,g'⟩:=upd_same _ _ _;refine U6 hi h.st.n0 (Ti:=⟨.usr nx,.inr (f k),(T i).τ,g'⟩) zbq Oq hS ?_
 refine h.dy.go hi (by rw[hd];exact(pE (T:=⟨.usr nx,.inr (f k),(T i).τ,g'⟩) id).2 ⟨f k,rfl,hk,.inl (lL.self lQ)⟩) Jc (λj _=>bT.of_aside a (nc j) (Y4 a zF)) ?_
  (h.dy.keepW λe=>(a.block Wg (Ne.symm zF)).symm.trans e) ?_
 .intro j gj c' z sh hj cK e
  by_cases rQ:c'=c
  .subst rQ
   unfold woken at cK;rw[zeS,lQ] at cK;have:=again_recv_closed (g:=gj) (z:=z) (sh:=sh) (setChan_at w c' 0 #[] true s r false Ij);simp only[Bool.true_and] at cK;rw[if_pos Le,this] at cK;have:(GoStatus.running:GoStatus)=.blocked:=by
    have h2:=congrArg bC.status cK;simp[parked] at h2
   cases this
  .rw[upd_ne _ _ rQ] at e
   exact h.dy.slpC j gj c' z sh hj e
 .refine hS.tiEvents aP (by rw[Oe];trivial) _ _ ?_ λe he=>?_
  .have:=h.dy.tr.phase (i:=i) (ph':=.usr nx) (.inr (f k)) g' ⟨λ_=>by rw[hl];trivial,λ_=>trivial⟩
   rwa [a.size]
  .rw[Oe]
   simp only[closeEvents,Gy,iX,lX,or_false] at he;rw[a.size];rcases he with rfl|rfl
   .refine⟨λy hy=>?_,by simp[jB],Ij⟩
    simp only[jB,qG,fS] at hy;subst hy;exact .inl ⟨c,zF,rfl,.inr ⟨.inr zEG,rfl⟩⟩
   .exact⟨λy hy=>by simp[jB,qG] at hy,by simp[jB],Ij⟩
theorem Inv.spawn (hA:A.Ok)(h:Inv P ty Wg A Fin Shun gs w t T ch)(hi:gs[i]? =some x)(dK:lL x (T i).g){ι:Type}{f:ι->Rk}(hr:(T i).r=.inr (.mk ι f)){l:L}(hl:(T i).ph=.usr l){pub:List Nat}{lc nx:L}
 (ha:A.act l=.spawn pub lc nx) (hB:l9 P ty Wg A (λm ph d τ g w=>∃k,oX P ty Wg A Fin (f k) m ph d τ g w) (i==0) l (gV t i) (T i).τ (T i).g w):vA P ty Wg A Fin Shun gs w t T sl i:=by
 unfold l9 at hB;rw[ha] at hB;obtain⟨hd,h1⟩:=hB;have hp:(λk=>(T k).ph.proj) i=.run l:=by show(T i).ph.proj=_;rw[hl];rfl
 obtain⟨rfl,Mq,x7,hinv⟩:=hA.spawn _ ch i l pub lc nx gs.size h.st.inv hp ha;obtain⟨g',child,τm,τc,aX,zoy,zw3,ho,hs,oN,vU,Ap,Cj,⟨km,zDK⟩,⟨kc,G6⟩⟩:=h1 w bT.refl;have hn:=h.st.n0;have zFK:=hinv (by show(T gs.size).ph.proj=_;rw[h.st.ou _ (aZ _)];rfl) aD λa Jq=>(h.st.bnd 0 a (.inl (Cj a Jq).1)).2.2;have hS:=h.st.fork hl Mq x7 (.inr (f km)) (.inr (f kc)) g' child τm τc pub ho hs oN vU Ap Cj zFK;have cF:=runT_crowd_spawn (P:=P) (sl:=sl) hi (show stepG P (0==0) x w=_ by rw[dK.step];exact aX);have cH:((gs.setIfInBounds 0 g').push child).size=gs.size+1:=aQ;generalize hU:bG (bG T 0 ⟨.usr nx,.inr (f km),τm,g'⟩) gs.size ⟨.usr lc,.inr (f kc),τc,child⟩=U at hS;have u0:U 0=⟨.usr nx,.inr (f km),τm,g'⟩:=by rw[<-hU,upd_ne _ _ aD,upd_same]
 have un:U gs.size=⟨.usr lc,.inr (f kc),τc,child⟩:=by rw[<-hU,upd_same]
 have uk:∀k,k≠0->k≠gs.size->U k=T k:=λk h1 h2=>by rw[<-hU,upd_ne _ _ h2,upd_ne _ _ h1]
 have zhr:((vP 0 x.frame.fn x.frame.place #[]).push {g:=0,fn:=x.frame.fn,pos:=x.frame.place,act:=.go gs.size}|>.push {g:=gs.size,fn:=child.frame.fn,pos:=x.frame.place,act:=.start})
  =#[{g:=0,fn:=x.frame.fn,pos:=x.frame.place,act:=.go gs.size},{g:=gs.size,fn:=child.frame.fn,pos:=x.frame.place,act:=.start}]:=rfl
 rw[zhr] at cF;have Ji:∀k,gV (t++(#[{g:=0,fn:=x.frame.fn,pos:=x.frame.place,act:=.go gs.size},{g:=gs.size,fn:=child.frame.fn,pos:=x.frame.place,act:=.start}]:lJ)) k=gV t k:=λk=>znd t k _ λop hop=>by
  simp only[Gy,iX,lX,or_false] at hop;rcases hop with rfl|rfl<;>exact⟨aQ,aQ⟩
 refine⟨_,_,cF,.inr ⟨(gs.setIfInBounds 0 g').push child,w,sl,U,ch.opn pub,rfl,⟨by rw[cH];exact hS,h.dy.gen (λk=>k=0\/gs.size<=k) (λk hk=>?_) (λk y hk hy=>?_) (λ_ _=>bT.refl) (λk _=>Ji k) (λc hc=>?_) id ?_⟩,?_⟩⟩
 .have n8:k≠0:=λe=>hk (.inl e)
  have uU:k<gs.size:=Nat.lt_of_not_le λe=>hk (.inr e);refine⟨?_,uk k n8 aD⟩;rw[Xh,zvk,if_neg aD,jM (Ne.symm n8)]
 .rw[Xh,zvk] at hy
  rcases hk with rfl|hk
  .rw[if_neg aD,Mb hn] at hy
   cases hy;refine⟨by rw[zoy];simp,?_⟩;rw[u0,Ji,hd];exact(pE (T:=⟨.usr nx,.inr (f km),τm,g'⟩) id).2 ⟨f km,rfl,zDK,.inl (lL.self zoy)⟩
  .by_cases cN:k=gs.size
   .subst cN
    rw[if_pos rfl] at hy;cases hy;refine⟨by rw[zw3];simp,?_⟩;rw[un,Ji,h.dy.tr.above _ (aZ _)];have e0:(gs.size==0)=false:=beq_eq_false_iff_ne.2 aD;exact(pE (T:=⟨.usr lc,.inr (f kc),τc,child⟩) id).2 ⟨f kc,rfl,by rw[e0];exact G6,.inl (lL.self zw3)⟩
   .rw[if_neg cN,Array.getElem?_eq_none rF] at hy
    cases hy
 .by_cases mQ:c∈pub
  .rw[zgP mQ] at hc;cases hc
  .rw[W9 mQ] at hc;exact hc
 .rw[cH]
  refine h.dy.tr.fork (live':=λk=>(U k).ph.live) (by show(T 0).ph.live;rw[hl];trivial) hn ⟨rfl,rfl⟩ ⟨rfl,rfl⟩ hd (λk=>?_) (by show ¬(T gs.size).ph.live;rw[h.st.ou _ (aZ _)];exact id) (λk b hk kW hb=>?_) (λk b hk kW hb=>?_) (λb hb=>?_) λb hb=>?_
  .show(U k).ph.live↔(T k).ph.live\/k=gs.size
   by_cases k1:k=0
   .subst k1;rw[u0,hl];exact⟨λ_=>.inl trivial,λ_=>trivial⟩
   .by_cases k2:k=gs.size
    .subst k2;rw[un];exact⟨λ_=>.inr rfl,λ_=>trivial⟩
    .rw[uk k k1 k2];exact⟨λe=>.inl e,λe=>e.resolve_right k2⟩
  .have uU:k≠gs.size:=λe=>by
    subst e;have:(T gs.size).ph.live:=hk;rw[h.st.ou _ (aZ _)] at this;exact this
   rw[uk k kW uU] at hb;exact hb
  .have uU:k≠gs.size:=λe=>by
    subst e;have:(T gs.size).ph.live:=hk;rw[h.st.ou _ (aZ _)] at this;exact this
   rw[uk k kW uU] at hb;exact hb
  .rw[u0,un] at hb;exact ho b hb
  .rw[u0,un] at hb
   have:(T 0).τ.pass b\/(T 0).τ.own b\/(T 0).τ.still b:=by
    rcases hb with(e|e)|(e|e)
    .exact(hs b (.inl e)).elim (λz=>.inr (.inr z)) λz=>.inr (.inl z)
    .exact oN b (.inl e)
    .exact(hs b (.inr e)).elim (λz=>.inr (.inr z)) λz=>.inr (.inl z)
    .exact oN b (.inr e)
   rcases this with e|e|e
   .exact .inr (.inr e)
   .exact .inl e
   .exact .inr (.inl e)
 .exact Uj (i:=0) (λe=>absurd rfl e) (by rw[cH];omega) hn (by rw[cH];omega) (by rw[u0,hr];exact .inr (.mk f km)) λk hk=>by omega
end
section
variable {L:Type}{P:bS}{ty:aM}{Wg:Nat}{A:jF L}{Fin:bC->aE->Prop}{Shun:Loc->Prop}
variable {gs gs':Array bC}{w w':aE}{t t':lJ}{T T':Nat->Td L}{ch tM:qV}{sl:Option (Nat×Nat)}{i j:Nat}{x g':bC}{es:Array oE}
def zg9 (Wg B:Nat):Nat->List oE->Prop
 |_,[]=>True
 |d,e::es=>((e.mute=true\/(∃a b,e=⟨.cell a,b,true⟩/\a.block=Wg/\0<d))/\Wg<B)/\zg9 Wg B (nN d #[e]) es
theorem Yk {B:Nat}:∀{es:List oE} {d:Nat},zg9 Wg B d es->∀(l r:List oE) (e:oE),es=l++e::r->(∀a,(jB e).touch? =some a->mY a.loc Wg/\a.kind=.atomic/\0<nN d l.toArray)/\jB e≠ .mark (.release (stA Wg))/\(jB e).low B
 |[],d,_,l,r,e,he=>by simp at he
 |y::es,d,h,[],r,e,he=>by
  simp only[List.nil_append,Xy] at he;obtain⟨rfl,rfl⟩:=he;obtain⟨⟨hm|⟨a,b,rfl,ha,hd⟩,hW⟩,_⟩:=h
  .exact zxr (n:=0) (d:=d) (es:=#[y]) (λe he=>by simp at he;rw[he];exact hm) [] [] y rfl
  .refine⟨λz hz=>?_,by simp[jB],by simpa[jB,Ws,Loc.low,ha] using hW⟩
   simp only[jB,qG,fS] at hz;subst hz;exact⟨ha,rfl,hd⟩
 |y::es,d,h,z::l,r,e,he=>by
  simp only[Qt,Xy] at he;obtain⟨rfl,he⟩:=he;have:=Yk h.2 l r e he;refine⟨λa ha=>?_,this.2⟩;rw[znj];exact this.1 a ha
def Mc {v wt:Nat}{a b:Int}(h:fV ty Wg w a b):fV ty Wg (w.setCell (stA Wg) (st v wt)) ((v:Int)*KK+wt) b:=zye h _
def zxC {a b:Int}(h:fV ty Wg w a b)(c:Int):fV ty Wg (w.setCell (smA Wg) (.int .u32 c)) a c:=zFT h c
def L8 (w:aE)(v:aF):Jy Wg w (w.setCell (stA Wg) v):=U7 w (stA Wg) v
def zem (w:aE)(v:aF):Jy Wg w (w.setCell (smA Wg) v):=U7 w (smA Wg) v
def zm2 (d:Nat){es:Array oE}(h:∀e∈es,e.loc≠ .mark .disable/\e.loc≠ .mark .enable):nN d es=d:=znZ h d
theorem We (d:Nat)(a:bO):nN d #[rd a]=d:=zm2 d (λe he=>by simp at he;subst he;exact⟨by simp[rd],by simp[rd]⟩)
theorem zyr (d:Nat)(a:bO):nN d #[wr a]=d:=zm2 d (λe he=>by simp at he;subst he;exact⟨by simp[wr],by simp[wr]⟩)
theorem zd6 (d:Nat)(a:bO):nN d #[rd a,wr a]=d:=zm2 d (λe he=>by
 simp only[Gy,iX,lX,or_false] at he;rcases he with rfl|rfl<;>exact⟨by simp[rd,wr],by simp[rd,wr]⟩)
theorem zwB (d:Nat)(a:bO):nN d (semEvents a)=d:=by
 simp[nN,semEvents]
theorem Lf (p:Nat->Ph L)(n:Nat)(ph':Ph L)(h:ph'.waits):vv A (bG p 0 ph') n=oP p n:=by
 unfold vv yU;rw[zfN,upd_same];cases ph'<;>first|exact h.elim|rfl
theorem zaX (p:Nat->Ph L)(n:Nat)(h:(p 0).waits):vv A p n=oP p n:=by
 have:=Lf (A:=A) p n (p 0) h
 rwa [zgl] at this
theorem Su {p:Nat->Ph L}{ph':Ph L}(h:∀i,¬(p i).last)(h':¬ph'.last):∀i,¬(bG p 0 ph' i).last:=λi=>by
 by_cases hi:i=0
 .subst hi;rw[upd_same];exact h'
 .rw[upd_ne _ _ hi];exact h i
theorem zuU {p:Nat->Ph L}:∀{n:Nat},oP p n=0->∀j,j<n->j≠0->(p j).pre=false
 |n+1,h,j,hj,h0=>by
  simp only[oP] at h;by_cases Yv:j=n
  .subst Yv
   cases hp:(p j).pre
   .rfl
   .simp[h0,hp] at h
  .exact zuU (n:=n) aD j aD h0
def Inv.vlt (hA:A.Ok)(h:Inv P ty Wg A Fin Shun gs w t T ch):vv A (λj=>(T j).ph) gs.size<2000000000:=
 Nat.lt_of_le_of_lt (zxZ A _ _ h.st.n0) (hA.few _ ch h.st.inv _)
variable {a:bO}
theorem okRW {own pas:Nat->Prop}{k B:Nat}(hW:Wg<B)(ha:a.block=Wg):∀e∈(#[rd a,wr a]:Array oE),Mm Wg own pas k B e:=by
 intro e he;simp only[Gy,iX,lX,or_false] at he;rcases he with rfl|rfl<;>exact zdn ha hW
theorem okR {own pas:Nat->Prop}{k B:Nat}(hW:Wg<B)(ha:a.block=Wg):∀e∈(#[rd a]:Array oE),Mm Wg own pas k B e:=by
 intro e he;simp only[Gy,iX,lX,or_false] at he;subst he;exact zdn ha hW
theorem okSem {own pas:Nat->Prop}{k B:Nat}(hW:Wg<B)(ha:a.block=Wg):∀e∈semEvents a,Mm Wg own pas k B e:=by
 intro e he;simp only[semEvents,Gy,iX,lX,or_false] at he;rcases he with rfl|rfl|rfl|rfl
 .exact zeh rfl
 .exact zdn ha hW
 .exact zdn ha hW
 .exact zeh rfl
theorem ztR (T:Nat->Td L){ph':Ph L}(h:ph'.proj=(T i).ph.proj):bG (λj=>(T j).ph.proj) i ph'.proj=λj=>(T j).ph.proj:=by rw[h];exact zgl (λj=>(T j).ph.proj) i
theorem Inv.add (hA:A.Ok)(h:Inv P ty Wg A Fin Shun gs w t T ch)(hi:gs[i]? =some x)(dK:lL x (T i).g){ι:Type}{f:ι->Rk}(hr:(T i).r=.inr (.mk ι f)){l:L}(hl:(T i).ph=.usr l){nx:L}
 (ha:A.act l=.add nx) (hB:l9 P ty Wg A (λm ph d τ g w=>∃k,oX P ty Wg A Fin (f k) m ph d τ g w) (i==0) l (gV t i) (T i).τ (T i).g w):vA P ty Wg A Fin Shun gs w t T sl i:=by
 unfold l9 at hB;rw[ha] at hB;have hp:(λk=>(T k).ph.proj) i=.run l:=by show(T i).ph.proj=_;rw[hl];rfl
 obtain⟨rfl,Mq,x7,hinv⟩:=hA.add _ ch i l nx h.st.inv hp ha;have hg:=h.st.grp;unfold gF at hg;simp only[hl] at hg;have hv:=h.vlt hA;obtain⟨g',aX,lQ,k,hk⟩:=hB w bT.refl _ aD hg.1;have eM:vv A (λj=>(T j).ph) gs.size=oP (λj=>(T j).ph) gs.size:=by unfold vv yU;simp only[hl,Mq];rfl
 have mJ:vv A (bG (λj=>(T j).ph) 0 (.usr nx)) gs.size=oP (λj=>(T j).ph) gs.size+1:=by unfold vv yU;rw[zfN,upd_same];simp[x7]
 have dC:=Mc (v:=vv A (λj=>(T j).ph) gs.size+1) (wt:=0) hg.1;refine h.alive hi dK aX lQ hr (by rw[hl];trivial) (ph':=.usr nx) trivial (L8 _ _) (λ_=>⟨_,_,dC⟩) ⟨k,by rw[zd6];exact hk⟩ (λe=>absurd rfl e) ?_ hinv (λe=>by have:=(Sz e dC).2;omega) (okRW zr9 rfl);unfold gF;rw[upd_same];refine⟨?_,Su hg.2 id⟩;rw[mJ,<-eM];simpa using dC
theorem Inv.look (hA:A.Ok)(h:Inv P ty Wg A Fin Shun gs w t T ch)(hi:gs[0]? =some x)(dK:lL x (T 0).g){ι:Type}{f:ι->Rk}(hr:(T 0).r=.inr (.mk ι f))(lS:(∃b,(T 0).ph=.w1 b)\/∃l,(T 0).ph=.usr l/\A.act l=.wait)
 (hB:∀aI,bT ty Wg (T 0).τ w aI->∀v:Nat,(∀b,(T 0).ph=.w1 b->v<b)->v<2147483648->fV ty Wg aI (v*KK) 0->∃g',stepG P true (T 0).g aI=.go g' aI #[rd (stA Wg)]/\g'.status=.running/\
  (v=0->∃k,oX P ty Wg A Fin (f k) true .w5 (gV t 0) (T 0).τ g' aI)/\(v≠0->∃k,oX P ty Wg A Fin (f k) true (.w2 v) (gV t 0) (T 0).τ g' aI)):vA P ty Wg A Fin Shun gs w t T sl 0:=by
 have hv:=h.vlt hA;have hg:fV ty Wg w (vv A (λj=>(T j).ph) gs.size*KK) 0/\∀i,¬(T i).ph.last:=by
  have hg:=h.st.grp;unfold gF at hg;rcases lS with⟨b,e⟩|⟨l,e,_⟩<;>simp only[e] at hg
  .exact⟨hg.1,hg.2.1⟩
  .exact hg
 have eK:∀b,(T 0).ph=.w1 b->vv A (λj=>(T j).ph) gs.size<b:=λb e=>by
  have hg:=h.st.grp;unfold gF at hg;simp only[e] at hg;exact hg.2.2
 have mP:(T 0).ph.live:=h.st.role0;have C9:vv A (λj=>(T j).ph) gs.size=oP (λj=>(T j).ph) gs.size:=by
  rcases lS with⟨b,e⟩|⟨l,e,ha⟩
  .exact zaX _ _ (by show(T 0).ph.waits;rw[e];trivial)
  .have:=(hA.wait _ ch 0 l h.st.inv (by show(T 0).ph.proj=_;rw[e];rfl) ha).2.1
   unfold vv yU;simp only[e,this];rfl
 have hinv:A.Inv (bG (λj=>(T j).ph.proj) 0 .waits) ch:=by
  rcases lS with⟨b,e⟩|⟨l,e,ha⟩
  .have:=ztR T (i:=0) (ph':=.w1 b) (by rw[e])
   rw[show(Ph.w1 b:Ph L).proj=.waits from rfl] at this;rw[this];exact h.st.inv
  .exact(hA.wait _ ch 0 l h.st.inv (by show(T 0).ph.proj=_;rw[e];rfl) ha).2.2
 obtain⟨g',aX,lQ,h0,h1⟩:=hB w bT.refl _ eK aD hg.1;by_cases hz:vv A (λj=>(T j).ph) gs.size=0
 .obtain⟨k,hk⟩:=h0 hz
  refine h.alive hi dK aX lQ hr mP (ph':=.w5) trivial (Nl _ _) id ⟨k,by rw[We];exact hk⟩ (λe=>absurd rfl e) ?_ hinv id (okR h.st.grp.live.lt rfl);unfold gF;rw[upd_same];refine⟨by rw[Lf _ _ .w5 trivial,<-C9];exact hz,Su hg.2 id,?_⟩;have:=hg.1;rw[hz] at this;simpa using this
 .obtain⟨k,hk⟩:=h1 hz
  refine h.alive hi dK aX lQ hr mP (ph':=.w2 (vv A (λj=>(T j).ph) gs.size)) trivial (Nl _ _) id ⟨k,by rw[We];exact hk⟩ (λe=>absurd rfl e) ?_ hinv id (okR h.st.grp.live.lt rfl);unfold gF;rw[upd_same];refine⟨?_,Su hg.2 id,?_,Nat.pos_of_ne_zero hz⟩
  .rw[Lf _ _ (.w2 _) trivial,<-C9];exact hg.1
  .rw[Lf _ _ (.w2 _) trivial,<-C9];exact aZ _
theorem zfC (h:Inv P ty Wg A Fin Shun gs w t T ch){ph':Ph L}(hw:(T 0).ph.waits)(p8:ph'.waits):A.Inv (bG (λj=>(T j).ph.proj) 0 ph'.proj) ch:=by
 rw[ztR T]
 .exact h.st.inv
 .cases hp:(T 0).ph<;>rw[hp] at hw<;>first|exact hw.elim|(cases ph'<;>first|exact p8.elim|rfl)
theorem Inv.cas (hA:A.Ok)(h:Inv P ty Wg A Fin Shun gs w t T ch)(hi:gs[0]? =some x)(dK:lL x (T 0).g){ι:Type}{f:ι->Rk}(hr:(T 0).r=.inr (.mk ι f)){vs:Nat}(lS:(T 0).ph=.w2 vs)
 (hB:zL P ty Wg A Fin (λm ph d τ g w=>∃k,oX P ty Wg A Fin (f k) m ph d τ g w) true (.w2 vs) (gV t 0) (T 0).τ (T 0).g w):vA P ty Wg A Fin Shun gs w t T sl 0:=by
 have hv:=h.vlt hA;have hg:=h.st.grp;unfold gF at hg;simp only[lS] at hg;obtain⟨h1,h2,h3,h4⟩:=hg;have cC:(T 0).ph.waits:=by rw[lS];trivial
 have C9:vv A (λj=>(T j).ph) gs.size=oP (λj=>(T j).ph) gs.size:=zaX _ _ cC;have mP:(T 0).ph.live:=h.st.role0;obtain⟨ha,hb⟩:=hB w bT.refl _ aD h1;rcases nM (vv A (λj=>(T j).ph) gs.size) vs with aP|B8
 .obtain⟨g',aX,lQ,k,hk⟩:=hb aP
  refine h.alive hi dK aX lQ hr mP (ph':=.w1 vs) trivial (Nl _ _) id ⟨k,by rw[We];exact hk⟩ (λe=>absurd rfl e) ?_ (zfC h cC trivial) id (okR h.st.grp.live.lt rfl);unfold gF;rw[upd_same];exact⟨by rw[Lf _ _ (.w1 vs) trivial,<-C9];exact h1,Su h2 id,by rw[Lf _ _ (.w1 vs) trivial,<-C9];exact aP⟩
 .obtain⟨g',aX,lQ,k,hk⟩:=ha aD
  have dC:=Mc (v:=vv A (λj=>(T j).ph) gs.size) (wt:=1) h1;refine h.alive hi dK aX lQ hr mP (ph':=.w3) trivial (L8 _ _) (λ_=>⟨_,_,dC⟩) ⟨k,by rw[zd6];exact hk⟩ (λe=>absurd rfl e) ?_ (zfC h cC trivial) (λe=>by have:=(Sz e dC).2;omega) (okRW zr9 rfl);unfold gF;rw[upd_same];refine .inl ⟨?_,?_,Su h2 id⟩
  .rw[Lf _ _ .w3 trivial,<-C9];omega
  .rw[Lf _ _ .w3 trivial,<-C9];exact dC
theorem Inv.sleep (hA:A.Ok)(h:Inv P ty Wg A Fin Shun gs w t T ch)(hi:gs[0]? =some x)(dK:lL x (T 0).g){ι:Type}{f:ι->Rk}(hr:(T 0).r=.inr (.mk ι f))(lS:(T 0).ph=.w3)
 (hB:zL P ty Wg A Fin (λm ph d τ g w=>∃k,oX P ty Wg A Fin (f k) m ph d τ g w) true .w3 (gV t 0) (T 0).τ (T 0).g w):vA P ty Wg A Fin Shun gs w t T sl 0:=by
 have hg:=h.st.grp;unfold gF at hg;simp only[lS] at hg;have cC:(T 0).ph.waits:=by rw[lS];trivial
 have C9:vv A (λj=>(T j).ph) gs.size=oP (λj=>(T j).ph) gs.size:=zaX _ _ cC;have mP:(T 0).ph.live:=h.st.role0;obtain⟨ho,hB⟩:=hB;obtain⟨ha,hb⟩:=hB w bT.refl;have zFu:(∃x,fV ty Wg w x 0)\/(vv A (λj=>(T j).ph) gs.size=0/\(∀i,¬(T i).ph.last)/\fV ty Wg w 0 1):=by
  rcases hg with⟨_,h1,_⟩|⟨_,_,_,_,⟨_,h1⟩|⟨_,h1⟩⟩|h1
  .exact .inl ⟨_,h1⟩
  .exact .inl ⟨_,h1⟩
  .exact .inl ⟨_,h1⟩
  .exact .inr h1
 rcases zFu with h0|⟨h1,h2,h3⟩
 .have aX:=ha h0
  have uO:stepG P (0==0) x w=.go {(T 0).g with status:=.blocked} w #[]:=by rw[show((0:Nat)==0)=true from rfl,dK.step];exact aX
  have cF:=X0 (sl:=sl) hi uO;have ew:woken P x {(T 0).g with status:=.blocked} w=id:=by
   funext o;simp[woken]
  rw[ew,Array.map_id,zdL] at cF;obtain⟨y,hy⟩:=h0
  have hp:=h.park hi dK.1 (by rw[lS];exact id) (y:={(T 0).g with status:=.blocked}) rfl (.inr ⟨lS,rfl,ho⟩) (λ_ _ e=>by have:=(Sz e hy).2;omega)
   (λc v z sh g e=>by
    have:=congrArg ztu e;simp[parked,ho] at this)
   (λc z sh g e=>by
    have:=congrArg ztu e;simp[parked,ho] at this)
  exact⟨_,_,cF,.inr ⟨_,_,sl,T,ch,rfl,hp.1,hp.2⟩⟩
 .obtain⟨g',aX,lQ,k,hk⟩:=hb h3
  have dC:=zxC h3 0;refine h.alive hi dK aX lQ hr mP (ph':=.w4) trivial (zem _ _) (λ_=>⟨_,_,dC⟩) ⟨k,by rw[zwB];exact hk⟩ (λe=>absurd rfl e) ?_ (zfC h cC trivial) (λe=>by have:=(Sz e dC).2;omega) (okSem (by rw[(zem w _).size];exact h.st.grp.live.lt) rfl);unfold gF;rw[upd_same];exact⟨by rw[Lf _ _ .w4 trivial,<-C9];exact h1,Su h2 id,dC⟩
theorem Inv.woke (hA:A.Ok)(h:Inv P ty Wg A Fin Shun gs w t T ch)(hi:gs[0]? =some x)(dK:lL x (T 0).g){ι:Type}{f:ι->Rk}(hr:(T 0).r=.inr (.mk ι f))(lS:(T 0).ph=.w4)
 (hB:zL P ty Wg A Fin (λm ph d τ g w=>∃k,oX P ty Wg A Fin (f k) m ph d τ g w) true .w4 (gV t 0) (T 0).τ (T 0).g w):vA P ty Wg A Fin Shun gs w t T sl 0:=by
 have hg:=h.st.grp;unfold gF at hg;simp only[lS] at hg;have cC:(T 0).ph.waits:=by rw[lS];trivial
 have C9:vv A (λj=>(T j).ph) gs.size=oP (λj=>(T j).ph) gs.size:=zaX _ _ cC;obtain⟨g',aX,lQ,k,hk⟩:=hB w bT.refl hg.2.2;refine h.alive hi dK aX lQ hr h.st.role0 (ph':=.w5) trivial (Nl _ _) id ⟨k,by rw[We];exact hk⟩ (λe=>absurd rfl e) ?_ (zfC h cC trivial) id (okR h.st.grp.live.lt rfl);unfold gF;rw[upd_same];exact⟨by rw[Lf _ _ .w5 trivial,<-C9];exact hg.1,Su hg.2.1 id,hg.2.2⟩
theorem Inv.fin (hA:A.Ok)(h:Inv P ty Wg A Fin Shun gs w t T ch)(hi:gs[0]? =some x)(dK:lL x (T 0).g){ι:Type}{f:ι->Rk}(hr:(T 0).r=.inr (.mk ι f))(lS:(T 0).ph=.w5)
 (hB:zL P ty Wg A Fin (λm ph d τ g w=>∃k,oX P ty Wg A Fin (f k) m ph d τ g w) true .w5 (gV t 0) (T 0).τ (T 0).g w):vA P ty Wg A Fin Shun gs w t T sl 0:=by
 have hg:=h.st.grp;unfold gF at hg;simp only[lS] at hg;obtain⟨h1,h2,h3⟩:=hg;have C9:vv A (λj=>(T j).ph) gs.size=oP (λj=>(T j).ph) gs.size:=zaX _ _ (by show(T 0).ph.waits;rw[lS];trivial);have J0:∀j,j≠0->(T j).ph.leaves:=by
  intro j hj;rcases nM j gs.size with aP|B8
  .have e1:=zuU (p:=λj=>(T j).ph) (by rw[<-C9];exact h1) j aP hj
   have e2:=h2 j;have e3:=h.st.role j hj;cases hp:(T j).ph<;>simp only[hp] at e1 e2 e3<;>first|trivial|(simp[Ph.pre] at e1;done)|exact absurd trivial e2|exact absurd trivial e3
  .rw[h.st.ou j B8];trivial
 obtain⟨hd,hB⟩:=hB;have Jj:(λj=>(T j).ph.proj) 0=.waits:=by show(T 0).ph.proj=_;rw[lS];rfl
 have Bn:∀(j:Nat) (l:L),(λj=>(T j).ph.proj) j≠ .run l:=λj l e=>by
  have e':(T j).ph.proj=.run l:=e;by_cases hj:j=0
  .subst hj;rw[lS] at e';cases e'
  .have:=J0 j hj
   cases hp:(T j).ph<;>rw[hp] at e' this<;>first|exact this.elim|cases e'
 obtain⟨g',aX,lQ,hF⟩:=hB w bT.refl ⟨λj=>(T j).ph.proj,ch,h.st.inv,Jj,Bn,λj l e=>h.st.depo j l e w bT.refl⟩;exact h.acquire hi dK aX lQ hd J0 hF
theorem Inv.dec (hA:A.Ok)(h:Inv P ty Wg A Fin Shun gs w t T ch)(hi:gs[i]? =some x)(dK:lL x (T i).g){ι:Type}{f:ι->Rk}(hr:(T i).r=.inr (.mk ι f)){l:L}(lS:(T i).ph=.rel l)
 (hB:zL P ty Wg A Fin (λm ph d τ g w=>∃k,oX P ty Wg A Fin (f k) m ph d τ g w) (i==0) (.rel l) (gV t i) (T i).τ (T i).g w):vA P ty Wg A Fin Shun gs w t T sl i:=by
 have aP:i<gs.size:=(dM.1 hi).1;have hv:=h.vlt hA;have h0:i≠0:=λe=>by subst e;have:=h.st.role0;rw[lS] at this;exact this
 have oQ:¬(T i).ph.live:=by rw[lS];exact id
 have Aa:(T i).ph≠ .gone:=by rw[lS];simp
 have Xn:Wg<w.heap.size:=h.st.grp.live.lt;have key:∀ph':Ph L,ph'.pre=false->vv A (bG (λj=>(T j).ph) i ph') gs.size+1=vv A (λj=>(T j).ph) gs.size:=by
  intro ph' hp;have:=zdd (λj=>(T j).ph) (i:=i) (n:=gs.size) ph' aP h0;unfold vv;rw[zf4 A _ h0];rw[hp] at this;simp only[lS,Ph.pre,if_true,iU,if_false] at this;omega
 have k1:=key (.quit l) rfl;have k2:=key (.l1 l) rfl;have zeA:(∀j,¬(T j).ph.last)->∀j,¬(bG (λj=>(T j).ph) i (.quit l) j).last:=λhn j=>by
  by_cases hj:j=i
  .subst hj;rw[upd_same];exact id
  .rw[upd_ne _ _ hj];exact hn j
 have nZ:∀e:0<gV t i,∀B,Wg<B->zg9 Wg B (gV t i) [rd (stA Wg),wr (stA Wg)]:=λe B hB=>
  ⟨⟨.inr ⟨stA Wg,false,rfl,rfl,e⟩,hB⟩,⟨.inr ⟨stA Wg,true,rfl,rfl,by rw[We];exact e⟩,hB⟩,trivial⟩
 have u0:bG (λj=>(T j).ph) i (.quit l) 0=(T 0).ph:=upd_ne _ _ (Ne.symm h0);have u1:bG (λj=>(T j).ph) i (.l1 l) 0=(T 0).ph:=upd_ne _ _ (Ne.symm h0)
 have quit:∀(v wt:Nat),wt<=1->fV ty Wg w ((v+1:Nat)*KK+wt) 0->vv A (λj=>(T j).ph) gs.size=v+1->¬(v=0/\wt=1)->
  gF A ty Wg (bG (λj=>(T j).ph) i (.quit l)) gs.size (w.setCell (stA Wg) (Mt.st v wt))->vA P ty Wg A Fin Shun gs w t T sl i:=by
  intro v wt cC hW vI aT Ar;obtain⟨g',aX,lQ,hd,_,hq⟩:=hB w bT.refl v wt cC aD hW;obtain⟨q,hQ⟩:=hq aT;have dC:=Mc (v:=v) (wt:=wt) hW
  exact h.dead hi dK aX Jc (Ti:=⟨.quit l,.inl q,(T i).τ,g'⟩) (by rw[hr];exact .sep _ _) rfl oQ Aa h0 id aQ (L8 _ _) (λ_=>⟨_,_,dC⟩)
   ((G2 (T:=⟨.quit l,.inl q,(T i).τ,g'⟩) trivial).2 ⟨q,rfl,by rw[zd6];exact hQ⟩) (by rw[lS];rfl) Ar (.inr λe=>by have:=(Sz e dC).2;omega) (Yk (nZ hd _ (by rw[(L8 w _).size];exact Xn)))
 have hg:=h.st.grp;unfold gF at hg;have norm:∀v:Nat,((v:Int)*KK)=((v:Nat):Int)*KK+((0:Nat):Int):=λv=>by simp
 have pos:0<vv A (λj=>(T j).ph) gs.size:=aD;obtain⟨v,vI⟩:∃v,vv A (λj=>(T j).ph) gs.size=v+1:=⟨_,(Nat.succ_pred_eq_of_pos pos).symm⟩;have e1:vv A (bG (λj=>(T j).ph) i (.quit l)) gs.size=v:=aD;have e2:vv A (bG (λj=>(T j).ph) i (.l1 l)) gs.size=v:=aD
 cases vM:(T 0).ph with
 |gone=>have:=h.st.role0;rw[vM] at this;exact this.elim
 |rel _=>have:=h.st.role0;rw[vM] at this;exact this.elim
 |l1 _=>have:=h.st.role0;rw[vM] at this;exact this.elim
 |l2 _=>have:=h.st.role0;rw[vM] at this;exact this.elim
 |l3 _=>have:=h.st.role0;rw[vM] at this;exact this.elim
 |quit _=>have:=h.st.role0;rw[vM] at this;exact this.elim
 |usr l0=>
  simp only[vM] at hg;rw[vI] at hg;refine quit v 0 aD zkK vI aD ?_;unfold gF;rw[u0,vM];simp only;exact⟨by rw[e1];simpa using Mc (v:=v) (wt:=0) hg.1,zeA hg.2⟩
 |w1 b=>
  simp only[vM] at hg;rw[vI] at hg;refine quit v 0 aD zkK vI aD ?_;unfold gF;rw[u0,vM];simp only;exact⟨by rw[e1];simpa using Mc (v:=v) (wt:=0) hg.1,zeA hg.2.1,aD⟩
 |w2 vs=>
  simp only[vM] at hg;rw[vI] at hg;refine quit v 0 aD zkK vI aD ?_;unfold gF;rw[u0,vM];simp only;exact⟨by rw[e1];simpa using Mc (v:=v) (wt:=0) hg.1,zeA hg.2.1,aD,hg.2.2.2⟩
 |w4=>simp only[vM] at hg;omega
 |w5=>simp only[vM] at hg;omega
 |w3=>
  simp only[vM] at hg;rcases hg with⟨_,hW,hn⟩|⟨hz,_⟩|⟨hz,_⟩
  .rw[vI] at hW
   have Vz:fV ty Wg w ((v+1:Nat)*KK+(1:Nat)) 0:=by simpa using hW
   by_cases eM:v=0
   .obtain⟨g',aX,lQ,hd,hk,_⟩:=hB w bT.refl v 1 aD aD Vz
    obtain⟨k,hk⟩:=hk ⟨eM,rfl⟩;have dC:=Mc (v:=v) (wt:=1) Vz
    refine h.dead hi dK aX Jc (Ti:=⟨.l1 l,.inr (f k),(T i).τ,g'⟩) Oq rfl oQ Aa h0 id aQ (L8 _ _) (λ_=>⟨_,_,dC⟩)
     ((pE (T:=⟨.l1 l,.inr (f k),(T i).τ,g'⟩) id).2 ⟨f k,rfl,by rw[zd6];exact hk,.inl (lL.self lQ)⟩) (by rw[lS];rfl) ?_ (.inr λe=>by have:=(Sz e dC).2;omega) (Yk (nZ hd _ (by rw[(L8 w _).size];exact Xn)))
    unfold gF;rw[u1,vM];simp only;refine .inr (.inl ⟨aD,i,l,λj hj=>?_,.inl ⟨.inl (upd_same _ _ _),?_⟩⟩)
    .by_cases eI:j=i
     .exact eI
     .rw[upd_ne _ _ eI] at hj;exact absurd hj (hn j)
    .subst eM;simpa using dC
   .refine quit v 1 aD Vz vI aD ?_
    unfold gF;rw[u0,vM];simp only;exact .inl ⟨aD,by rw[e1];simpa using Mc (v:=v) (wt:=1) Vz,zeA hn⟩
  .omega
  .omega
theorem Inv.lastGrp (h:Inv P ty Wg A Fin Shun gs w t T ch)(hl:(T i).ph.last):(T 0).ph=.w3/\vv A (λj=>(T j).ph) gs.size=0/\(∀j,(T j).ph.last->j=i)/\((∃l,((T i).ph=.l1 l\/(T i).ph=.l2 l))/\fV ty Wg w 1 0\/(∃l,(T i).ph=.l3 l)/\fV ty Wg w 0 0):=by
 have hg:=h.st.grp;unfold gF at hg;have h0:=h.st.role0;cases vM:(T 0).ph<;>simp only[vM] at hg h0<;>first|exact h0.elim|exact absurd hl (hg.2 i)|exact absurd hl (hg.2.1 i)|skip
 rcases hg with⟨_,_,hn⟩|⟨hz,k,l,hu,hc⟩|⟨_,hn,_⟩
 .exact absurd hl (hn i)
 .have:=hu i hl
  subst this;exact⟨rfl,hz,hu,hc.imp (λx=>⟨⟨l,x.1⟩,x.2⟩) λx=>⟨⟨l,x.1⟩,x.2⟩⟩
 .exact absurd hl (hn i)
theorem Inv.last (hA:A.Ok)(h:Inv P ty Wg A Fin Shun gs w t T ch)(hi:gs[i]? =some x)(dK:lL x (T i).g){ι:Type}{f:ι->Rk}(hr:(T i).r=.inr (.mk ι f))(hl:(T i).ph.last)
 (hB:zL P ty Wg A Fin (λm ph d τ g w=>∃k,oX P ty Wg A Fin (f k) m ph d τ g w) (i==0) (T i).ph (gV t i) (T i).τ (T i).g w):vA P ty Wg A Fin Shun gs w t T sl i:=by
 have aP:=(dM.1 hi).1;obtain⟨h3,hz,hu,hc⟩:=h.lastGrp hl;have h0:i≠0:=λe=>by subst e;rw[h3] at hl;exact hl
 have oQ:¬(T i).ph.live:=λe=>by cases hp:(T i).ph<;>rw[hp] at hl e<;>first|exact hl.elim|exact e.elim
 have Aa:(T i).ph≠ .gone:=λe=>by rw[e] at hl;exact hl
 have Xn:=h.st.grp.live.lt;have zhd:(T i).ph.pre=false:=by cases hp:(T i).ph<;>rw[hp] at hl<;>first|exact hl.elim|rfl
 have key:∀ph':Ph L,ph'.pre=false->vv A (bG (λj=>(T j).ph) i ph') gs.size=0:=by
  intro ph' hp;have:=zdd (λj=>(T j).ph) (i:=i) (n:=gs.size) ph' aP h0;rw[hp,zhd] at this;unfold vv at hz⊢;rw[zf4 A _ h0];simp only[iU,if_false] at this;omega
 have Z0:∀ph':Ph L,∀j,(bG (λj=>(T j).ph) i ph' j).last->j=i:=λph' j hj=>by
  by_cases eI:j=i
  .exact eI
  .rw[upd_ne _ _ eI] at hj;exact hu j hj
 have u0:∀ph':Ph L,bG (λj=>(T j).ph) i ph' 0=.w3:=λph'=>(upd_ne _ _ (Ne.symm h0)).trans h3;rcases hc with⟨⟨l,hp|hp⟩,hW⟩|⟨⟨l,hp⟩,hW⟩
 .simp only[hp] at hB
  obtain⟨g',aX,lQ,hd,k,hk⟩:=hB w bT.refl hW
  refine h.dead hi dK aX Jc (Ti:=⟨.l2 l,.inr (f k),(T i).τ,g'⟩) Oq rfl oQ Aa h0 id aQ (Nl _ _) id
   ((pE (T:=⟨.l2 l,.inr (f k),(T i).τ,g'⟩) id).2 ⟨f k,rfl,by rw[We];exact hk,.inl (lL.self lQ)⟩) (by rw[hp];rfl) ?_ (.inr id) (Yk (es:=[rd (stA Wg)]) ⟨⟨.inr ⟨stA Wg,false,rfl,rfl,hd⟩,Xn⟩,trivial⟩)
  unfold gF;rw[u0];exact .inr (.inl ⟨key _ rfl,i,l,Z0 _,.inl ⟨.inr (upd_same _ _ _),hW⟩⟩)
 .simp only[hp] at hB
  obtain⟨g',aX,lQ,hd,k,hk⟩:=hB w bT.refl hW;have dC:=Mc (v:=0) (wt:=0) hW;have qC:fV ty Wg (w.setCell (stA Wg) (Mt.st 0 0)) 0 0:=by simpa using dC
  refine h.dead hi dK aX Jc (Ti:=⟨.l3 l,.inr (f k),(T i).τ,g'⟩) Oq rfl oQ Aa h0 id aQ (L8 _ _) (λ_=>⟨_,_,qC⟩)
   ((pE (T:=⟨.l3 l,.inr (f k),(T i).τ,g'⟩) id).2 ⟨f k,rfl,by rw[zyr];exact hk,.inl (lL.self lQ)⟩) (by rw[hp];rfl) ?_ (.inr λe=>by have:=(Sz e qC).2;omega)
   (Yk (es:=[wr (stA Wg)]) ⟨⟨.inr ⟨stA Wg,true,rfl,rfl,hd⟩,by rw[(L8 w _).size];exact Xn⟩,trivial⟩)
  unfold gF;rw[u0];exact .inr (.inl ⟨key _ rfl,i,l,Z0 _,.inr ⟨upd_same _ _ _,qC⟩⟩)
 .simp only[hp] at hB
  obtain⟨Zx,hB⟩:=hB;obtain⟨g',aX,lQ,hd,q,hQ⟩:=hB w bT.refl hW;have dC:=zxC hW 1;have zfl:Wg<(w.setCell (smA Wg) (.int .u32 1)).heap.size:=by rw[(zem w _).size];exact Xn
  refine h.dead hi dK aX Jc (Ti:=⟨.quit l,.inl q,(T i).τ,g'⟩) (by rw[hr];exact .sep _ _) rfl oQ Aa h0 id aQ (zem _ _) (λ_=>⟨_,_,dC⟩)
   ((G2 (T:=⟨.quit l,.inl q,(T i).τ,g'⟩) trivial).2 ⟨q,rfl,by rw[zwB];exact hQ⟩) (by rw[hp];rfl) ?_ (.inl ⟨Zx,lQ⟩)
   (Yk (es:=[⟨.mark .disable,false,true⟩,⟨.cell (smA Wg),false,true⟩,⟨.cell (smA Wg),true,true⟩,⟨.mark .enable,false,true⟩]) ⟨⟨.inl rfl,zfl⟩,⟨.inr ⟨_,_,rfl,rfl,by simp[nN]⟩,zfl⟩,⟨.inr ⟨_,_,rfl,rfl,by simp[nN]⟩,zfl⟩,⟨.inl rfl,zfl⟩,trivial⟩)
  unfold gF;rw[u0];refine .inr (.inr ⟨key _ rfl,λj hj=>?_,dC⟩);have:=Z0 _ j hj;subst this;rw[upd_same] at hj;exact hj
theorem Inv.note (hA:A.Ok)(h:Inv P ty Wg A Fin Shun gs w t T ch)(hi:gs[i]? =some x)(dK:lL x (T i).g){ι:Type}{f:ι->Rk}(hr:(T i).r=.inr (.mk ι f)){l l':L}(hl:(T i).ph=.usr l){can:L->Prop}(ha:A.act l=.note can)(hc:can l')
 {k:ι} (hk:oX P ty Wg A Fin (f k) (i==0) (.usr l') (gV t i) (T i).τ (T i).g w):Inv P ty Wg A Fin Shun gs w t (bG T i ⟨.usr l',.inr (f k),(T i).τ,(T i).g⟩) ch/\Mu.lt (mu gs (bG T i ⟨.usr l',.inr (f k),(T i).τ,(T i).g⟩)) (mu gs T):=by
 have aP:=(dM.1 hi).1;have hp:(λk=>(T k).ph.proj) i=.run l:=by show(T i).ph.proj=_;rw[hl];rfl
 obtain⟨ziB,hinv⟩:=hA.note _ ch i l can l' h.st.inv hp ha hc;have Ar:=gF.usr (l:=l) h.st.grp hl aP ziB;have hS:=h.st.phase (r:=.inr (f k)) (g':=(T i).g) (by rw[hl];simp) aP (Nl _ _) (.usr l') aQ (λ_=>trivial) (λ_ e=>e) id (λl' e=>by simp[Ph.proj] at e) Ar hinv;refine⟨⟨hS,?_⟩,?_⟩
 .refine h.dy.gen (λk'=>k'=i) (λk' cN=>⟨rfl,upd_ne _ _ cN⟩) (λk' y cN hy=>?_) (λ_ _=>bT.refl) (λk' _=>rfl) (λ_ e=>e) id ?_
  .subst cN
   rw[hi] at hy;cases hy;refine⟨by rw[dK.1];simp,?_⟩;rw[upd_same];exact(pE (T:=⟨.usr l',.inr (f k),(T k').τ,(T k').g⟩) id).2 ⟨f k,rfl,hk,.inl dK⟩
  .exact h.dy.tr.phase (i:=i) (ph':=.usr l') (.inr (f k)) (T i).g ⟨λ_=>by rw[hl];trivial,λ_=>trivial⟩
 .exact Uj (i:=i) (λ_=>rfl) aD aP aP zuz λk' cN=>by rw[upd_ne _ _ aD]
def ResT (P:bS)(ty:aM)(Wg:Nat)(A:jF L)(Fin:bC->aE->Prop)(Shun:Loc->Prop)(gs:Array bC)(w:aE)(t:lJ)(T:Nat->Td L)(sl:Option (Nat×Nat))(i:Nat):Prop:=
 ∃m' ops,runT P (crowd gs w sl) i=(.next m',ops)/\
  (Oo P Wg Fin Shun m' (t++ops)\/∃gs' w' J5 T' tM,m'=crowd gs' w' J5/\Inv P ty Wg A Fin Shun gs' w' (t++ops) T' tM/\Relation.TransGen Mu.lt (mu gs' T') (mu gs T))
theorem qH (h:vA P ty Wg A Fin Shun gs w t T sl i):ResT P ty Wg A Fin Shun gs w t T sl i:=by
 obtain⟨m',ops,h1,h2⟩:=h;refine⟨m',ops,h1,h2.imp id ?_⟩;rintro⟨a,b,c,d,e,h3,h4,h5⟩;exact⟨a,b,c,d,e,h3,h4,.single h5⟩
theorem Inv.stepR (hA:A.Ok)(hi:gs[i]? =some x)(cF:x.status=.running):∀(r:Rk) {T:Nat->Td L},Inv P ty Wg A Fin Shun gs w t T ch->(T i).r=.inr r->ResT P ty Wg A Fin Shun gs w t T sl i:=by
 intro r
 induction r with
 |mk ι f ih=>
  intro T h hr;by_cases hl:(T i).ph.leaves
  .exact qH (h.leaver hi cF hl)
  have hs:=h.dy.sit i x hi;rw[pE hl] at hs;obtain⟨r',vN,hB,hx⟩:=hs;obtain rfl:r'=.mk ι f:=by rw[hr] at vN;injection vN with e;exact e.symm
  have dK:lL x (T i).g:=by
   rcases hx with hx|⟨_,_,_,_,rfl,_⟩|⟨_,rfl,_⟩
   .exact hx
   .cases cF
   .cases cF
  obtain⟨_,hB⟩:=hB;have hK:∀m ph d τ g w,(λm ph d τ g w=>∃k,oX P ty Wg A Fin (f k) m ph d τ g w) m ph d τ g w->∃k,oX P ty Wg A Fin (f k) m ph d τ g w:=λ_ _ _ _ _ _ e=>e;have main:(T i).ph.waits->i=0:=λe=>zD λh0=>h.st.role i h0 e;rcases hB with hB|hB
  .cases hp:(T i).ph<;>rw[hp] at hB<;>first|exact hB.elim|skip
   .exact qH (h.ownG hi dK Dd hr hK Xo)
   .exact qH (h.idle1 hi dK zcP hl hr hK zgp)
   .exact qH (h.idle1 hi dK zcP hl hr hK zgp)
   .exact qH (h.idle1 hi dK zcP hl hr hK zgp)
   .exact qH (h.idle1 hi dK zcP hl hr hK zgp)
   .exact qH (h.ownG hi dK Dd hr hK Xo)
   .exact qH (h.ownG hi dK Dd hr hK Xo)
   .exact qH (h.ownG hi dK Dd hr hK Xo)
   .exact qH (h.ownG hi dK Dd hr hK Xo)
   .exact qH (h.ownG hi dK Dd hr hK Xo)
  .cases hp:(T i).ph with
   |gone=>rw[hp] at hB;exact hB.elim
   |quit l=>rw[hp] at hB;exact hB.elim
   |rel l=>rw[hp] at hB;exact qH (h.dec hA hi dK hr hp hB)
   |l1 l=>exact qH (h.last hA hi dK hr Dd hB)
   |l2 l=>exact qH (h.last hA hi dK hr Dd hB)
   |l3 l=>exact qH (h.last hA hi dK hr Dd hB)
   |w1 b=>
    obtain rfl:=main Dd;rw[hp] at hB;exact qH (h.look hA hi dK hr (.inl ⟨b,hp⟩) λaI iN v hv=>hB aI iN v (hv b hp))
   |w2 v=>
    obtain rfl:=main Dd;rw[hp] at hB;exact qH (h.cas hA hi dK hr hp hB)
   |w3=>
    obtain rfl:=main Dd;rw[hp] at hB;exact qH (h.sleep hA hi dK hr hp hB)
   |w4=>
    obtain rfl:=main Dd;rw[hp] at hB;exact qH (h.woke hA hi dK hr hp hB)
   |w5=>
    obtain rfl:=main Dd;rw[hp] at hB;exact qH (h.fin hA hi dK hr hp hB)
   |usr l=>
    rw[hp] at hB;simp only[zL] at hB
    cases ha:A.act l with
    |send c ok pub nx=>exact qH (h.send hA hi dK hr hp ha hB)
    |recv c ok nx sh=>exact qH (h.recv hA hi dK hr hp ha hB)
    |close c nx=>exact qH (h.close hA hi dK hr hp ha hB)
    |add nx=>exact qH (h.add hA hi dK hr hp ha hB)
    |spawn pub lc nx=>exact qH (h.spawn hA hi dK hr hp ha hB)
    |done=>
     unfold l9 at hB;rw[ha] at hB;obtain⟨hd,_,sZ,h1⟩:=hB;obtain⟨g',aX,lQ,hk⟩:=h1 w bT.refl;exact qH (h.release hA hi dK aX lQ hr hp ha hd sZ hk)
    |note can=>
     unfold l9 at hB;rw[ha] at hB;obtain⟨l',hc,k,hk⟩:=hB;obtain⟨hI,hm⟩:=h.note hA hi dK hr hp ha hc hk;obtain⟨m',ops,h1,h2⟩:=ih k hI (by rw[upd_same]);refine⟨m',ops,h1,h2.imp id ?_⟩;rintro⟨a,b,c,d,e,h3,h4,h5⟩;exact⟨a,b,c,d,e,h3,h4,.tail h5 hm⟩
    |wait=>
     have h0:=(hA.wait _ ch i l h.st.inv (by show(T i).ph.proj=_;rw[hp];rfl) ha).1;subst h0;unfold l9 at hB;rw[ha] at hB;exact qH (h.look hA hi dK hr (.inr ⟨l,hp,ha⟩) λaI iN v _=>hB aI iN v)
theorem Inv.step (hA:A.Ok)(h:Inv P ty Wg A Fin Shun gs w t T ch)(hi:gs[i]? =some x)(cF:x.status=.running):ResT P ty Wg A Fin Shun gs w t T sl i:=by
 by_cases hl:(T i).ph.leaves
 .exact qH (h.leaver hi cF hl)
 have hs:=h.dy.sit i x hi;rw[pE hl] at hs;obtain⟨r,hr,_,_⟩:=hs;exact Inv.stepR hA hi cF r h hr
theorem zBp (hA:A.Ok)(h:Inv P ty Wg A Fin Shun gs w t T ch)(sl:Option (Nat×Nat)):∃N m' t',runNT P N (crowd gs w sl) t=(.next m',t')/\Oo P Wg Fin Shun m' t':=by
 refine run_to (zFD Mu.wf) (λμ m t=>∃gs w sl T ch,m=crowd gs w sl/\Inv P ty Wg A Fin Shun gs w t T ch/\μ=mu gs T) (Oo P Wg Fin Shun) ?_ _ _ _ ⟨gs,w,sl,T,ch,rfl,h,rfl⟩;rintro μ m t ⟨gs,w,sl,T,ch,rfl,h,rfl⟩;obtain⟨i,g,d,J5,hi,hg,aX⟩:=crowd_pick (P:=P) (w:=w) (sl:=sl) h.awake (h.some1 hA);obtain⟨m',ops,cF,zgI⟩:=(h.at d).step hA hi hg (sl:=J5);refine⟨m',ops,aX.trans cF,zgI.imp id ?_⟩;rintro⟨gs',w',zA7,T',tM,rfl,hI,J1⟩;exact⟨_,J1,gs',w',zA7,T',tM,rfl,hI,rfl⟩
end
end Go.Mt
namespace Go.Tt
section
variable {P:dI}{S:aN->Prop}{K:Pr}{R:Pr}
variable {f:aF->ByteArray->cS (ForInStep ByteArray)}
theorem zuA (hf:∀(R:Pr) c c' s,VR S K R c c'->aG P S K lN (f c s) R (f c' s)):∀(l l':List aF) {R:Pr} (s:ByteArray),xN S K R l l'->
 aG P S K lN (forIn (m:=cS) l s f) R (forIn (m:=cS) l' s f)
 |[],[],R,s,_=>aG.ret rfl
 |[],_::_,_,_,h=>by have:=h.1;simp at this
 |_::_,[],_,_,h=>by have:=h.1;simp at this
 |a::l,a'::l',R,s,h=>by
  obtain⟨h1,h2⟩:=h.cons;simp only[List.forIn_cons];refine aG.bnd (hf R a a' s h1) ?_;rintro R1 e1 x _ rfl
  cases x with
  |done b=>exact aG.ret rfl
  |yield b=>exact zuA hf l l' b (h2.mono e1.le)
variable {x':aF}
theorem zxW {x:aF}(h:VR S K R x x'):aG P S K (VA S K) (zcu x) R (zcu x'):=by
 unfold zcu
 cases h with
 |slice ha=>
  cases ha with
  |none=>exact aG.ret (.string _)
  |some ha=>
   refine aG.bnd (zkO ha _) ?_;intro R1 e1 xs bX hx;simp only;rw[<-zuV,<-zuV];refine aG.bnd (zuA (λR c c' s hc=>?_) _ _ _ hx.toList) ?_
   .cases hc with
    |int k n=>cases k<;>first|exact aG.ret rfl|exact .inl (bM.bnd _)|exact .inl bM
    |_=>first|exact .inl (bM.bnd _)|exact .inl bM
   rintro R2 e2 s _ rfl;exact aG.ret (.string _)
 |_=>exact .inl bM
def zjT (v:aF):cS Next:=
 match v with
 | .pointer none| .nilIface| .nilFunc=>runtimePanic .nilDeref
 | .func (.method name) first captured=>
  match(first[0]? :Option aF) with
  |some .nilIface=>runtimePanic .nilDeref
  |some (.iface t w)=>do
   if(<-nilAhead ((<-program).types.size+Made.depth) t w name) !=some false then
    unsupported (.noEntry "op/nilCheck.the method's receiver behind this interface value is a nil pointer, or cannot be seen to be none, and the arguments act or may panic (ledger 612)")
   pure (.value (.func (.method name) first captured))
  |_=>pure (.value (.func (.method name) first captured))
 |x=>pure (.value x)
theorem zEa {x:aF}(h:VR S K R x x'):aG P S K (λR a b=>∃v v',a=.value v/\b=.value v'/\VR S K R v v') (zjT x) R (zjT x'):=by
 unfold zjT;have h0:=h
 cases h with
 |pointer h=>cases h with
  |none=>exact .inl uR
  |some h=>exact aG.ret ⟨_,_,rfl,rfl,h0⟩
 |nilIface=>exact .inl uR
 |nilFunc=>exact .inl uR
 |junk h=>exact .inl uR
 |_=>exact aG.ret ⟨_,_,rfl,rfl,h0⟩
end
end Go.Tt
namespace Go.Tt
open Go.Conc
end Go.Tt
namespace Go.Tt
def zcK (p:bS)(t:aM):Bool:=
 match p.underlying t with
 |some (.int _)=>(match p.info? t with|some i=>(match i.desc with| .named "sync.copyChecker" _=>false|_=>true)|none=>true)
 |some d=>za9 d
 |none=>false
def zxj:aF->Bool
 | .bool _| .int _ _| .string _| .nilFunc| .nilIface| .pointer none| .slice none _ _| .map none| .chan none=>true
 |_=>false
def Xx (p:bS)(t:aM):Bool:=match p.underlying t with|some (.map k _)=>zcK p k|_=>true
def zaf (p:bS)(t:aM):Bool:=match p.underlying t with|some (.int _)=>true|_=>false
def dL (fs:aN->Bool):cM->Bool
 | .tmp _=>true
 | .const v=>zxj v
 | .global _=>false
 | .func f=>fs f
def okTab (p:bS):cM->Bool
 | .global g=>At p g
 |_=>false
structure Cl where
 fs:aN->Bool
 gs:aN->Bool
 dy:Bool
abbrev Cl.T (c:Cl)(f:aN):Prop:=c.gs f=true
def zdr (p:bS)(t:aM):Bool:=match p.underlying t with|some (.slice e)=>(match p.underlying e with|some (.int .u8)=>true|_=>false)|_=>false
def zeO (p:bS)(t:aM):Bool:=match p.underlying t with|some .string=>true|_=>false
def zgM (p:bS)(t:aM):cM->Bool
 | .const (.pointer none)=>(match p.underlying t with|some (.pointer _)=>true|_=>false)
 |_=>false
def zu4 (c:Cl):cM->Bool
 | .func g=>c.gs g
 |x=>dL c.fs x&&c.dy
def rD (p:bS)(c:Cl):Op->Bool
 | .move x| .assign x| .nilCheck x=>dL c.fs x
 | .pick q a b=>dL c.fs q&&dL c.fs a&&dL c.fs b
 | .alloc _=>true
 | .box _ x=>dL c.fs x
 | .build _ ps=>ps.all λx=>dL c.fs x.2
 | .buildSlice _ _ ps=>ps.all λx=>dL c.fs x.2
 | .load _ a=>dL c.fs a
 | .store _ a x=>dL c.fs a&&dL c.fs x
 | .binOp op t x y _=>dL c.fs x&&dL c.fs y&&(if op matches .eql| .neq then(zcK p t||zgM p t y)&& !(p.eqGuardType p.depth t) else true)
 | .unOp _ _ x=>dL c.fs x
 | .convert s d x=>dL c.fs x&&((zaf p s&&zaf p d)||(zdr p s&&zeO p d))
 | .makeFunc (.func f) a b=>c.fs f&&a.all (dL c.fs)&&b.all (dL c.fs)
 | .makeMap _ r=>(match r with|some x=>dL c.fs x|none=>true)
 | .makeSlice _ l q=>dL c.fs l&&dL c.fs q
 | .makeChan _ l=>dL c.fs l
 | .slice _ x lo hi mx=>dL c.fs x&&(match lo with|some x=>dL c.fs x|none=>true)&&(match hi with|some x=>dL c.fs x|none=>true)&&(match mx with|some x=>dL c.fs x|none=>true)
 | .fieldAddr _ x _| .extract x _=>dL c.fs x
 | .indexAddr _ x i=>(dL c.fs x||okTab p x)&&dL c.fs i
 | .index _ x i=>dL c.fs x&&dL c.fs i
 | .makeInterface _ x| .panic x=>dL c.fs x
 | .lookup t x i _=>dL c.fs x&&dL c.fs i&&Xx p t
 | .mapUpdate t m k x=>dL c.fs m&&dL c.fs k&&dL c.fs x&&Xx p t
 | .call {callee:=.value f,args,..}=>zu4 c f&&args.all (dL c.fs)
 | .call {callee:=.builtin .len,args,..}| .call {callee:=.builtin .cap,args,..}| .call {callee:=.builtin .copy,args,..}| .call {callee:=.builtin .append,args,..}| .call {callee:=.builtin .clear,args,..}=>args.all (dL c.fs)
 | .call {callee:=.builtin .delete,args,argTypes}=>args.all (dL c.fs)&&(match argTypes[0]? with|some t=>Xx p t|none=>true)
 |_=>false
section
variable {P:dI}{fs:aN->Bool}{K R:Pr}
abbrev SF (fs:aN->Bool):aN->Prop:=λf=>fs f=true
variable {t:aM}
theorem zfL (h:zcK P.c t=true):Jo P t:=by
 unfold zcK at h;have hu:∀d,P.c.underlying t=some d->P.underlying t=some d:=λd e=>e;split at h
 .next k e=>
  refine⟨⟨_,e,rfl⟩,λk' _ i x hi hd=>?_⟩;have iY:P.c.info? t=some i:=hi;rw[iY] at h;simp only[hd] at h;cases h
 .next d aT e=>
  exact⟨⟨d,e,h⟩,λk hk=>absurd (e.symm.trans hk) (by intro e';injection e' with e';exact aT k (e'▸rfl))⟩
 .cases h
theorem znA {v:aF}(h:zxj v=true):VR (SF fs) K R v v:=by
 cases v with
 |bool b=>exact .bool b
 |int k n=>exact .int k n
 |string s=>exact .string s
 |nilFunc=>exact .nilFunc
 |nilIface=>exact .nilIface
 |pointer a=>cases a with|none=>exact .pointer .none|some a=>cases h
 |slice a n c=>cases a with|none=>exact .slice .none|some a=>cases h
 |map a=>cases a with|none=>exact .map .none|some a=>cases h
 |chan a=>cases a with|none=>exact .chan .none|some a=>cases h
 |_=>cases h
inductive NxR (S:aN->Prop)(T:aN->Prop)(K R:Pr):Next->Next->Prop
 |value {v v':aF}:VR S K R v v'->NxR S T K R (.value v) (.value v')
 |skip:NxR S T K R .skip .skip
 |enter {f:aN} {xs bX:Array aF}:T f->bK S K R xs bX->NxR S T K R (.enter f xs) (.enter f bX)
abbrev NA (S:aN->Prop)(T:aN->Prop)(K:Pr):Pr->Next->Next->Prop:=λR n n'=>NxR S T K R n n'
def pJ {S T:aN->Prop}{s s':cS aF}(h:aG P S K (VA S K) s R s'):aG P S K (NA S T K) (do pure (.value (<-s))) R (do pure (.value (<-s'))):=
 aG.bnd h λ_ _ _ _ hv=>aG.ret (.value hv)
variable {α:Type}
def zxq {S T:aN->Prop}{s s':cS α}(h:aG P S K lN s R s'):aG P S K (NA S T K) (do let _<-s;pure .skip) R (do let _<-s';pure .skip):=
 aG.bnd h λ_ _ _ _ _=>aG.ret .skip
variable {ρ ρ':cM->aF}
theorem bK.maps {S:aN->Prop}{ok:cM->Bool}(h:∀x,ok x=true->VR S K R (ρ x) (ρ' x)){xs:Array cM}(hx:xs.all ok=true):bK S K R (xs.map ρ) (xs.map ρ'):=by
 refine⟨aQ,λi v v' h1 h2=>?_⟩;rw[xP] at h1 h2;obtain⟨x,Dt,rfl⟩:=wM.1 h1;obtain⟨y,Oy,rfl⟩:=wM.1 h2;rw[Dt] at Oy;cases Oy;exact h x (zmZ.1 hx i (dM.1 Dt).1|>λe=>by rwa [(dM.1 Dt).2] at e)
theorem zEq {S:aN->Prop}(op:BinOp)(t:aM)(x y:cM){a a' b b':aF}(ha:VR S K R a a')(hb:VR S K R b b')(h:P.c.eqGuardType P.c.depth t=false)(h':P.g.eqGuardType P.g.depth t=false):
 aG P S K lN (eqGuard op t x y a b) R (eqGuard op t x y a' b'):=by
 have rest:aG P S K lN (do
  match a,b with
  | .nilIface,.nilIface=>
   if(x matches .const _)||(y matches .const _) then return
   if<-Tl Tx t a b then unsupported (.noEntry "binop/eql: two nil values of an interface type with methods, neither of them the literal nil")
  | .agg _,.agg _=>
   if !(<-program).eqGuardType (<-program).depth t then return
   if<-Tl Tx t a b then unsupported (.noEntry "binop/eql: two nil values of an interface type with methods, in a part of a struct or an array")
  |_,_=>pure ()) R (do
  match a',b' with
  | .nilIface,.nilIface=>
   if(x matches .const _)||(y matches .const _) then return
   if<-Tl Tx t a' b' then unsupported (.noEntry "binop/eql: two nil values of an interface type with methods, neither of them the literal nil")
  | .agg _,.agg _=>
   if !(<-program).eqGuardType (<-program).depth t then return
   if<-Tl Tx t a' b' then unsupported (.noEntry "binop/eql: two nil values of an interface type with methods, in a part of a struct or an array")
  |_,_=>pure ()):=by
  cases ha with
  |nilIface=>
   cases hb with
   |nilIface=>
    simp only;by_cases hc:((x matches .const _)||(y matches .const _))=true
    .rw[if_pos hc]
     exact aG.ret rfl
    .rw[if_neg hc]
     refine aG.bnd (A:=lN) ?_ λR1 h1 c _ e=>?_
     .show aG P S K lN (Tl (9999+1) t .nilIface .nilIface) R (Tl (9999+1) t .nilIface .nilIface)
      unfold Tl;refine aG.bnd (lU t) ?_;rintro R1 h1 d _ ⟨rfl,_⟩;cases d<;>exact aG.ret rfl
     .subst e
      cases c
      .exact aG.ret rfl
      .exact .inl kV
   |junk hh=>cases b'<;>first|exact hh.elim|exact aG.ret rfl
   |_=>exact aG.ret rfl
  |agg e1 e2=>
   cases hb with
   |agg e3 e4=>
    simp only;refine aG.bnd Sp ?_;rintro R1 h1 p q ⟨rfl,rfl⟩;refine aG.bnd Sp ?_;rintro R2 h2 p q ⟨rfl,rfl⟩;rw[h,h'];exact aG.ret rfl
   |junk hh=>cases b'<;>first|exact hh.elim|exact aG.ret rfl
   |_=>exact aG.ret rfl
  |junk hh=>cases a'<;>first|exact hh.elim|exact aG.ret rfl
  |_=>exact aG.ret rfl
 unfold eqGuard;cases op<;>first|exact aG.ret rfl|exact rest
variable {x x':aF}
theorem zJn (op:BinOp)(ho:op=.eql\/op=.neq)(he:Jo P t)(hR:tF P K R){y y':aF}(hx:VR (SF fs) K R x x')(hy:VR (SF fs) K R y y'):
 aG P (SF fs) K (VA (SF fs) K) (binOp op t x y) R (binOp op t x' y'):=by
 have k1:aG P (SF fs) K (VA (SF fs) K) (do pure (.bool (<-yQ t x y))) R (do pure (.bool (<-yQ t x' y'))):=
  aG.bnd (zhV he hR hx hy) λR1 _ b _ e=>by subst e;exact aG.ret (.bool _)
 have k2:aG P (SF fs) K (VA (SF fs) K) (do pure (.bool (!(<-yQ t x y)))) R (do pure (.bool (!(<-yQ t x' y')))):=
  aG.bnd (zhV he hR hx hy) λR1 _ b _ e=>by subst e;exact aG.ret (.bool _)
 by_cases hf:Flat x/\Flat y
 rotate_left
 .obtain⟨d,hd,ok⟩:=he.ex
  have hn:=zhb hd ok hf;refine .inl ?_
  rcases ho with rfl|rfl<;>cases x<;>cases y<;>first
   |exact(hf ⟨True.intro,True.intro⟩).elim
   |exact hn.bnd _
 rcases ho with rfl|rfl
 .cases hx with
  |int k a=>
   cases hy with
   |int k' b=>
    by_cases hk:k=k'
    .subst hk;simp only[binOp,ne_eq,not_true_eq_false,if_false];exact zil _ _ _
    .simp only[binOp,ne_eq,hk,not_false_eq_true,if_true];exact .inl bM
   |junk hh=>exact hf.2.elim
   |_=>exact k1
  |string a=>
   cases hy with
   |string b=>exact zmD .eql a b
   |junk hh=>exact hf.2.elim
   |_=>exact k1
  |junk hh=>exact hf.1.elim
  |_=>cases hy<;>first|exact k1|exact hf.2.elim
 .cases hx with
  |int k a=>
   cases hy with
   |int k' b=>
    by_cases hk:k=k'
    .subst hk;simp only[binOp,ne_eq,not_true_eq_false,if_false];exact zil _ _ _
    .simp only[binOp,ne_eq,hk,not_false_eq_true,if_true];exact .inl bM
   |junk hh=>exact hf.2.elim
   |_=>exact k2
  |string a=>
   cases hy with
   |string b=>exact zmD .neq a b
   |junk hh=>exact hf.2.elim
   |_=>exact k2
  |junk hh=>exact hf.1.elim
  |_=>cases hy<;>first|exact k2|exact hf.2.elim
theorem zeP {d:TypeDesc}(hd:P.c.underlying t=some d){β:Type}{f:TypeDesc->cS β}(hf:eW P (f d)):eW P (underlying t>>=f):=λw hw=>by
 obtain⟨h1,w1,h2,h3⟩:=hf w hw;refine⟨h1,w1,?_,h3⟩;have hg:P.g.underlying t=some d:=hd;have hu:(underlying t).run P.g w=.ok d w:=by simp[underlying,program,bD,bind,xF,pure,hg]
 have:=q9 P.g (underlying t) f w;rw[hu] at this;exact this.trans h2
variable {p:bS}
theorem zFe {y:cM}(h:zgM p t y=true):∃el,p.underlying t=some (.pointer el)/\y=.const (.pointer none):=by
 unfold zgM at h;split at h
 .split at h
  .next el e=>exact⟨el,e,rfl⟩
  .cases h
 .cases h
theorem zEL {el:aM}(op:BinOp)(ho:op=.eql\/op=.neq)(he:P.c.underlying t=some (.pointer el))(hx:VR (SF fs) K R x x'):
 aG P (SF fs) K (VA (SF fs) K) (binOp op t x (.pointer none)) R (binOp op t x' (.pointer none)):=by
 have key:aG P (SF fs) K lN (Db (9999+1) t x (.pointer none)) R (Db (9999+1) t x' (.pointer none)):=by
  unfold Db;refine aG.bnd (lU t) ?_;rintro R1 h1 d _ ⟨rfl,hd⟩;obtain rfl:d=.pointer el:=cD ((hd).symm.trans he)
  cases hx with
  |pointer hp=>
   cases hp with
   |none=>exact aG.ret rfl
   |some _=>exact aG.ret rfl
  |_=>exact .inl zhL
 have k1:aG P (SF fs) K (VA (SF fs) K) (do pure (.bool (<-yQ t x (.pointer none)))) R (do pure (.bool (<-yQ t x' (.pointer none)))):=
  aG.bnd key λR1 _ b _ e=>by subst e;exact aG.ret (.bool _)
 have k2:aG P (SF fs) K (VA (SF fs) K) (do pure (.bool (!(<-yQ t x (.pointer none))))) R (do pure (.bool (!(<-yQ t x' (.pointer none))))):=
  aG.bnd key λR1 _ b _ e=>by subst e;exact aG.ret (.bool _)
 by_cases hj:x=.nilFunc
 .subst hj
  refine .inl ?_;have hn:eW P (yQ t .nilFunc (.pointer none)):=by
   show eW P (Db (9999+1) t .nilFunc (.pointer none));unfold Db;exact zeP he zhL
  rcases ho with rfl|rfl<;>exact hn.bnd _
 rcases ho with rfl|rfl
 .cases hx with
  |junk _=>exact absurd rfl hj
  |_=>exact k1
 .cases hx with
  |junk _=>exact absurd rfl hj
  |_=>exact k2
variable {s:aM}
theorem zCH {d:aM}(hs:zaf P.c s=true)(hd:zaf P.c d=true){S:aN->Prop}(hx:VR S K R x x'):aG P S K (VA S K) (convert s d x) R (convert s d x'):=by
 unfold convert;refine aG.bnd (lU s) ?_;rintro R1 h1 a _ ⟨rfl,ha⟩;refine aG.bnd (lU d) ?_;rintro R2 h2 b _ ⟨rfl,hb⟩;have fF:P.c.underlying s=some a:=ha;have bY:P.c.underlying d=some b:=hb;unfold zaf at hs hd;rw[fF] at hs;rw[bY] at hd;cases a<;>simp only[iU] at hs;cases b<;>simp only[iU] at hd
 cases hx with
 |int k n=>exact aG.ret (.int _ _)
 |pointer h=>cases h<;>exact .inl kV
 |_=>exact .inl kV
theorem zAB (h:zdr p s=true):∃e,p.underlying s=some (.slice e)/\p.underlying e=some (.int .u8):=by
 unfold zdr at h;split at h
 .next e he=>
  split at h
  .next h2=>exact⟨e,he,h2⟩
  .cases h
 .cases h
theorem zHb (h:zeO p s=true):p.underlying s=some .string:=by
 unfold zeO at h;split at h
 .next he=>exact he
 .cases h
theorem zIu {S:aN->Prop}(n:Int):aG P S K (VA S K) (zjL n) R (zjL n):=by
 unfold zjL
 first|exact aG.ret (.string _)|(split<;>exact aG.ret (.string _))
theorem zFp {d:aM}(hs:zdr P.c s=true)(hd:zeO P.c d=true){S:aN->Prop}(hx:VR S K R x x'):aG P S K (VA S K) (convert s d x) R (convert s d x'):=by
 obtain⟨e,vU,Ap⟩:=zAB hs;have Nh:=zHb hd;by_cases hj:x=.nilFunc
 .subst hj
  refine .inl ?_;unfold convert;exact zeP vU (zeP Nh (zeP Ap bM))
 unfold convert;refine aG.bnd (lU s) ?_;rintro R1 h1 a _ ⟨rfl,ha⟩;refine aG.bnd (lU d) ?_;rintro R2 h2 b _ ⟨rfl,hb⟩;obtain rfl:a=.slice e:=cD ((ha).symm.trans vU);obtain rfl:b=.string:=cD ((hb).symm.trans Nh)
 have tail:∀{x x':aF},VR S K R2 x x'->aG P S K (VA S K) (do match<-underlying e with| .int .u8=>zcu x| .int .i32=>zxB x|_=>stuck "Convert: a slice of what to string?") R2
  (do match<-underlying e with| .int .u8=>zcu x'| .int .i32=>zxB x'|_=>stuck "Convert: a slice of what to string?"):=by
  intro x x' hx;refine aG.bnd (lU e) ?_;rintro R3 h3 c _ ⟨rfl,hc⟩;obtain rfl:c=.int .u8:=cD ((hc).symm.trans Ap);exact zxW (hx.mono h3.le)
 have Am:=(hx.mono h1.le).mono h2.le
 cases hx with
 |int k n=>exact zIu n
 |string s=>exact aG.ret (.string s)
 |nilFunc=>exact absurd rfl hj
 |junk _=>exact absurd rfl hj
 |slice h=>cases h<;>exact tail Am
 |_=>exact tail Am
def oI (p:bS)(q:Cl):Code->Bool
 | .skip| .ret| .exit _| .label _=>true
 | .region _ ops _=>ops.all λo=>rD p q o.op
 | .seq a b=>oI p q a&&oI p q b
 | .cond c a b=>dL q.fs c&&oI p q a&&oI p q b
 | .block _ c| .loop c| .scope c=>oI p q c
 |_=>false
def sX (P:dI)(fs:aN->Bool)(f:aN):Cl:=if P.lw f then⟨fs,P.lw,false⟩ else⟨fs,P.gs,P.dy⟩
theorem zka (P:dI)(fs:aN->Bool)(f:aN):(sX P fs f).fs=fs:=by unfold sX;split<;>rfl
structure Fit (P:dI)(fs:aN->Bool):Prop where
 zero:Hl P (SF fs)
 fn:∀f,P.gs f=true->P.op f=false->∃fn c,P.g.funcs[f]? =some fn/\P.c.funcs[f]? =some fn/\(fn.name== "runtime.NumGoroutine")=false/\fn.body=some c/\oI P.c (sX P fs f) c=true
 opq:∀f,P.gs f=true->P.op f=true->∃fn fn' c c',P.g.funcs[f]? =some fn/\P.c.funcs[f]? =some fn'/\(fn.name== "runtime.NumGoroutine")=false/\(fn'.name== "runtime.NumGoroutine")=false/\fn.body=some c/\fn'.body=some c'
 low:∀f,P.lw f=true->P.op f=false/\P.gs f=true
 dyn:P.dy=true->∀f,fs f=true->P.gs f=true
 guard:∀t,P.g.eqGuardType P.g.depth t=P.c.eqGuardType P.c.depth t
theorem zuM (F:Fit P fs){T:aN->Prop}{f:aN}(hf:P.gs f=true)(hT:T f){xs bX:Array aF}(h:bK (SF fs) K R xs bX):aG P (SF fs) K (NA (SF fs) T K) (callFunc f xs) R (callFunc f bX):=by
 unfold callFunc;refine aG.bnd Sp ?_;rintro R1 h1 p q ⟨rfl,rfl⟩
 cases ho:P.op f with
 |false=>
  obtain⟨fn,c,e1,e2,e3,e4,_⟩:=F.fn f hf ho;simp only[e1,e2,e3,e4,zot,iU,if_false];exact aG.ret (.enter hT (h.mono h1.le))
 |true=>
  obtain⟨fn,fn',c,c',e1,e2,e3,e4,e5,e6⟩:=F.opq f hf ho;simp only[e1,e2,e3,e4,e5,e6,zot,iU,if_false];exact aG.ret (.enter hT (h.mono h1.le))
theorem zfD {S:aN->Prop}(hρ:∀x,dL fs x=true->VR S K R (ρ x) (ρ' x)){r:Option cM}(h:(match r with|some x=>dL fs x|none=>true)=true):yT S K R (r.map ρ) (r.map ρ'):=by
 cases r with
 |none=>exact .none
 |some x=>exact .some (hρ x h)
variable {ps:Array (Nat×cM)}
theorem zp5 {S:aN->Prop}(hρ:∀x,dL fs x=true->VR S K R (ρ x) (ρ' x))(h:(ps.all λx=>dL fs x.2)=true):Kg S K R (ps.map λ(i,x)=>(i,ρ x)).toList (ps.map λ(i,x)=>(i,ρ' x)).toList:=by
 rw[zq9,zq9];have h':∀x∈ps.toList,dL fs x.2=true:=λx hx=>by
  rw[Array.all_eq_true'] at h;exact h x (by simpa using hx)
 generalize ps.toList=l at h'⊢
 induction l with
 |nil=>exact .nil
 |cons a l ih=>
  obtain⟨i,x⟩:=a;exact .cons (hρ x (h' (i,x) aQ)) (ih λy hy=>h' y (by simp[hy]))
theorem zDT (q:Ask α):∀w:aE,(w.ask q).2.heap=w.heap:=by
 induction q with
 |done a=>intro w;rfl
 |ask zLx range k ih=>
  intro w;unfold aE.ask;simp only;split
  .exact ih _ w
  .exact ih _ _
theorem zGq (c:Sys):mV P (sys c):=λw hw=>.inl ⟨(w.sys c).1,(w.sys c).2,rfl,λb cc e=>by
 have:(w.sys c).2.heap=w.heap:=by
  have h:=zDT (Kernel.perform c w.os) w;unfold aE.sys;split
  .rfl
  .next e=>rw[e] at h;exact h
 rw[this];exact hw b cc e⟩
theorem zDH :eW P (zn8 x):=by
 unfold zn8;cases x<;>first|exact ze3|exact bM|skip
 refine eW.then ?_ λn=>?_
 .unfold Instr.panicnil
  refine(zGq _).bnd λr=>?_;cases r<;>first|exact .never bM|exact ziK.bnd λ_=>mV.ret _
 .split
  .exact ze3
  .exact uR
theorem zh9 (F:Fit P fs)(hR:tF P K R)(hρ:∀x,dL fs x=true->VR (SF fs) K R (ρ x) (ρ' x))(Dc:∀g,ρ (.func g)=.func (.func g) #[] #[])(zDE:∀g,ρ' (.func g)=.func (.func g) #[] #[])(zmv:∀g,ρ (.global g)=.pointer (some ⟨g,0,none⟩))(zDb:∀g,ρ' (.global g)=.pointer (some ⟨g,0,none⟩))(rQ:∀v,ρ (.const v)=v)(zDV:∀v,ρ' (.const v)=v){q:Cl}(hq:q.fs=fs)(zn0:∀f,q.gs f=true->P.gs f=true)(zpC:q.dy=true->∀f,fs f=true->q.gs f=true){o:aY}(ok:rD P.c q o.op=true):
 aG P (SF fs) K (NA (SF fs) q.T K) (aO ρ o) R (aO ρ' o):=by
 obtain⟨dst,op,type,pos,after,guard⟩:=o;subst hq;simp only at ok;unfold aO
 cases op with
 |move x=>exact aG.ret (.value (hρ x ok))
 |assign x=>exact aG.ret (.value (hρ x ok))
 |pick c a b=>
  simp only[rD,fN] at ok;refine aG.bnd (zEs (hρ c ok.1.1)) ?_;rintro R1 h1 x _ rfl;cases x
  .exact aG.ret (.value ((hρ b ok.2).mono h1.le))
  .exact aG.ret (.value ((hρ a ok.1.2).mono h1.le))
 |alloc t=>exact pJ (zJk F.zero t)
 |box t x=>exact pJ (zxG t (hρ x ok))
 |load t a=>exact pJ (zCs t (hρ a ok))
 |store t a x=>
  simp only[rD,fN] at ok;exact zxq (zxN t (hρ a ok.1) (hρ x ok.2))
 |binOp op t x y t'=>
  simp only[rD,fN] at ok;obtain⟨⟨hx,hy⟩,hk⟩:=ok;by_cases ho:op=.eql\/op=.neq
  .have cN:(zcK P.c t=true\/zgM P.c t y=true)/\P.c.eqGuardType P.c.depth t=false:=by
    rcases ho with rfl|rfl<;>simpa using hk
   refine pJ ?_;refine aG.bnd (zEq op t x y (hρ x hx) (hρ y hy) cN.2 (by rw[F.guard];exact cN.2)) ?_;rintro R1 h1 _ _ _;rcases cN.1 with n8|n8
   .exact zJn op ho (zfL n8) (h1.ok hR) ((hρ x hx).mono h1.le) ((hρ y hy).mono h1.le)
   .obtain⟨el,e1,e2⟩:=zFe n8
    subst e2;rw[rQ,zDV];exact zEL op ho e1 ((hρ x hx).mono h1.le)
  .have uW:op≠ .eql/\op≠ .neq:=⟨λe=>ho (.inl e),λe=>ho (.inr e)⟩
   refine pJ ?_;have hg:∀a b,eqGuard op t x y a b=kE ():=λa b=>by
    unfold eqGuard;cases op<;>first|rfl|exact absurd rfl uW.1|exact absurd rfl uW.2
   rw[hg,hg];refine aG.bnd (A:=lN) (aG.ret rfl) ?_;rintro R1 h1 _ _ _;exact zC3 op t uW (h1.ok hR) ((hρ x hx).mono h1.le) ((hρ y hy).mono h1.le)
 |unOp op t x=>exact pJ (zzI op (hρ x ok))
 |convert s d x=>
  simp only[rD,fN,Dq] at ok;rcases ok.2 with h|h
  .exact pJ (zCH h.1 h.2 (hρ x ok.1))
  .exact pJ (zFp h.1 h.2 (hρ x ok.1))
 |nilCheck x=>
  have:=zEa (P:=P) (hρ x ok);exact this.mono λR' _ a b h=>by
   obtain⟨v,v',rfl,rfl,h⟩:=h;exact .value h
 |build t ps=>exact pJ (zx6 F.zero t (zp5 hρ ok))
 |buildSlice t n ps=>exact pJ (zzX F.zero t n (zp5 hρ ok))
 |makeFunc fn a b=>
  cases fn with
  |func f=>
   simp only[rD,fN] at ok;have ha:=bK.maps hρ ok.1.2;have hb:=bK.maps hρ ok.2;exact pJ (aG.ret (.func ok.1.1 ha.1 ha.2 hb.1 hb.2))
  |_=>cases ok
 |makeMap t r=>exact pJ (zEH t (zfD hρ ok))
 |makeSlice t l c=>
  simp only[rD,fN] at ok;exact pJ (zHX F.zero t (hρ l ok.1) (hρ c ok.2))
 |makeChan t l=>exact pJ (zyh t (hρ l ok))
 |slice t x lo hi mx=>
  simp only[rD,fN] at ok;exact pJ (zIe t (hρ x ok.1.1.1) (zfD hρ ok.1.1.2) (zfD hρ ok.1.2) (zfD hρ ok.2))
 |fieldAddr t x f=>exact pJ (zEf t (hρ x ok) f)
 |extract x i=>exact pJ (zCG (hρ x ok) i)
 |indexAddr t x i=>
  simp only[rD,fN,Dq] at ok;have hx:VR (SF q.fs) K R (ρ x) (ρ' x):=by
   rcases ok.1 with h|h
   .exact hρ x h
   .cases x with
    |global g=>rw[zmv,zDb];exact .pointer (.some (.mk (hR.tb g h)))
    |_=>cases h
  exact pJ (zFF t hx (hρ i ok.2))
 |makeInterface t x=>exact pJ (zzp t (hρ x ok))
 |panic x=>exact pJ (.inl zDH)
 |index t x i=>
  simp only[rD,fN] at ok;exact pJ (zCB t (hρ x ok.1) (hρ i ok.2))
 |lookup t x i c=>
  simp only[rD,fN] at ok;refine pJ (zIt F.zero (λk e he=>?_) hR (hρ x ok.1.1) (hρ i ok.1.2) c);have hm:=ok.2;unfold Xx at hm;rw[show P.c.underlying t=some (.map k e) from he] at hm;exact zfL hm
 |mapUpdate t m k x=>
  simp only[rD,fN] at ok;refine zxq (zEy (λk e he=>?_) hR (hρ m ok.1.1.1) (hρ k ok.1.1.2) (hρ x ok.1.2));have hm:=ok.2;unfold Xx at hm;rw[show P.c.underlying t=some (.map k e) from he] at hm;exact zfL hm
 |call c=>
  obtain⟨callee,args,j8⟩:=c
  cases callee with
  |value f=>
   simp only[rD,fN] at ok;have ha:=bK.maps hρ ok.2;have key:(∀g,f≠ .func g)->aG P (SF q.fs) K (NA (SF q.fs) q.T K) (aO ρ ⟨dst,.call ⟨.value f,args,j8⟩,type,pos,after,guard⟩) R (aO ρ' ⟨dst,.call ⟨.value f,args,j8⟩,type,pos,after,guard⟩):=by
    intro aT;have h1:dL q.fs f=true/\q.dy=true:=by
     have:=ok.1;unfold zu4 at this
     cases f with
     |func g=>exact absurd rfl (aT g)
     |_=>simpa using this
    have hf:=hρ f h1.1;unfold aO;simp only[resolve];unfold Bg;generalize ρ f=vf at hf⊢;generalize ρ' f=vf' at hf⊢
    cases hf with
    |nilFunc=>
     refine .inl ?_;intro w hw;exact(uR (P:=P) (α:=Next) (e:=.nilDeref)) w hw
    |junk _=>
     refine .inl ?_;intro w hw;exact(uR (P:=P) (α:=Next) (e:=.nilDeref)) w hw
    |func hs e1 y6 e2 h2=>
     show aG P _ K _ (callFunc _ _) R (callFunc _ _);exact zuM F (zn0 _ (zpC h1.2 _ hs)) (zpC h1.2 _ hs) (bK.append (bK.append ⟨e1,y6⟩ ha) ⟨e2,h2⟩)
    |_=>exact .inl (eW.bnd bM _)
   cases f with
   |func g=>
    have hg:q.gs g=true:=ok.1;simp only[resolve];unfold Bg;rw[Dc,zDE];show aG P _ K _ (callFunc _ _) R (callFunc _ _);exact zuM F (zn0 _ hg) hg (bK.append (bK.append bK.empty ha) bK.empty)
   |_=>exact key (λg e=>by cases e)
  |builtin b=>
   cases b with
   |len=>exact pJ (zFQ j8 type (bK.maps hρ ok))
   |cap=>exact pJ (zCu j8 type (bK.maps hρ ok))
   |copy=>exact pJ (zFG j8 type (bK.maps hρ ok))
   |clear=>exact pJ (zHv F.zero j8 type (bK.maps hρ ok))
   |append=>
    by_cases hi:∃xt k,j8[1]? =some xt/\P.underlying xt=some (.int k)
    .obtain⟨xt,k,e1,e2⟩:=hi
     exact pJ (zyd F.zero type e1 e2 (bK.maps hρ ok))
    .refine pJ (zzE F.zero type (λxt d he hd k hk=>?_) (bK.maps hρ ok))
     subst hk;exact hi ⟨xt,k,he,hd⟩
   |delete=>
    simp only[rD,fN] at ok;refine pJ (zxS type (λmt k e he hd=>?_) hR (bK.maps hρ ok.1));have h2:=ok.2;rw[he] at h2;simp only at h2;unfold Xx at h2;rw[show P.c.underlying mt=some (.map k e) from hd] at h2;exact zfL h2
   |_=>cases ok
  |invoke x y=>cases ok
 |_=>cases ok
end
def tp (w:aE)(T:kK)(e:Nat):World:={w with tape:=T,drawn:=e}
def Mj {α:Type}(p:bS)(s:cS α)(w:aE):Prop:=
 ∀x w',s.run p w=.ok x w'->w'.tape=w.tape/\w.drawn<=w'.drawn/\∀T e,(∀n,n<w'.drawn-w.drawn->∀q,T (e+n) q=w.tape (w.drawn+n) q)->s.run p (tp w T e)=.ok x (tp w' T (e+(w'.drawn-w.drawn)))
variable {α:Type}{p:bS}{w:aE}
def Mj.no {s:cS α}(h:∀x w',s.run p w≠ .ok x w'):Mj p s w:=λx w' e=>absurd e (h x w')
theorem Mj.after {s iN:cS α}{aI:aE}(h:Mj p iN aI)(hr:s.run p w=iN.run p aI)(ht:aI.tape=w.tape)(hd:aI.drawn=w.drawn)(vN:∀T e,s.run p (tp w T e)=iN.run p (tp aI T e)):Mj p s w:=by
 intro x w' e;rw[hr] at e;obtain⟨h1,h2,h3⟩:=h x w' e;refine⟨h1.trans ht,aD,λT e' ha=>?_⟩;rw[vN,h3 T e' (λn hn q=>by rw[ha n aD q,ht,hd])];rw[hd]
theorem aG.locl {P:dI}{S:aN->Prop}{β:Type}{K:Pr}{A:Pr->α->β->Prop}{G:Gp}{St:Nat->Prop}(hG:G=P.gp)(s:cS α):
 ∀{R:Pr} {w W:aE} {s':cS β},aG P S K A s R s'->cT S K R G St w W->Tp w W->Mj P.g s w:=by
 induction s with
 |pure a=>
  rintro R w W s' _ hw ht x w' e;simp only[bD,qO] at e;obtain⟨rfl,rfl⟩:=e;exact⟨rfl,aZ _,λT e _=>by simp[bD]⟩
 |load m a k ih=>
  rintro R w W s' (hn|⟨rfl,a',k',rfl,ha,hk⟩) hw ht
  .exact .no (hn.no hw.np)
  obtain⟨qE⟩:=ha;rename_i b b' o sp;obtain⟨ob,xJ,h1,h2,h3⟩:=hw.cont b b' qE
  cases h3 with
  |cells hc hz=>
   rename_i c c' T fz Im
   cases sp with
   |some sp=>exact .no λx w'=>by simp[bD,kY,h1,x4,qJ]
   |none=>
    cases hv:c[o]? with
    |none=>exact .no λx w'=>by simp[bD,kY,h1,x4,qJ,hv]
    |some v=>
     obtain⟨v',Ni,vI⟩:=hc.get hv;have e1:w.cell? ⟨b,o,none⟩=some v:=by simp[kY,h1,hv]
     refine(ih v (hk v v' vI) hw ht).after (by rw[bD,e1]) rfl rfl λT e=>?_;rw[bD,show(tp w T e).cell? ⟨b,o,none⟩=some v from e1]
  |_=>exact .no λx w'=>by simp[bD,kY,h1,x4,qJ]
 |store m a v k ih=>
  rintro R w W s' (hn|⟨rfl,a',v',k',rfl,ha,hv,hk⟩) hw ht
  .exact .no (hn.no hw.np)
  obtain⟨qE⟩:=ha;rename_i b b' o sp;by_cases Mk:∃cs,v=.agg cs
  .obtain⟨cs,rfl⟩:=Mk;exact .no λx w'=>by simp[bD]
  by_cases Bj:∃cs,v=.tuple cs
  .obtain⟨cs,rfl⟩:=Bj;exact .no λx w'=>by simp[bD]
  have cF:∀w:aE,(cS.store .plain ⟨b,o,sp⟩ v k).run P.g w=(match w.cell? ⟨b,o,sp⟩ with
   |some _=>if w.frozen? ⟨b,o,sp⟩ then .halt (.unsupported (.unsafePointer "a write to bytes that a string shares")) w else k.run P.g (w.setCell ⟨b,o,sp⟩ v)
   |none=>match w.farStore P.g ⟨b,o,sp⟩ v (zaU== .atomic) with
    | .ok (w,_)=>k.run P.g w
    | .error h=>.halt h w):=λw=>by
   rw[bD]
   .rfl
   .exact λcs e=>Mk ⟨cs,e⟩
   .exact λcs e=>Bj ⟨cs,e⟩
  obtain⟨ob,xJ,h1,h2,h3⟩:=hw.cont b b' qE
  cases h3 with
  |cells hc hz=>
   rename_i c c' T fz Im
   cases sp with
   |some sp=>exact .no λx w'=>by rw[cF];simp[kY,h1,Cr,qJ]
   |none=>
    cases eM:c[o]? with
    |none=>exact .no λx w'=>by rw[cF];simp[kY,h1,Cr,qJ,eM]
    |some v0=>
     have e1:w.cell? ⟨b,o,none⟩=some v0:=by simp[kY,h1,eM]
     cases mH:w.frozen? ⟨b,o,none⟩ with
     |true=>exact .no λx w'=>by rw[cF,e1];simp[mH]
     |false=>
      have Ut:¬Ja fz o:=by
       intro⟨z1,z2⟩;simp[aE.frozen?,h1,z1,z2] at mH
      have yW:¬St b:=by
       intro hs;obtain⟨_,c2,T2,hi,g1,g2⟩:=hw.st b hs;rw[h1] at g1;injection g1 with g1;injection g1 with g1 _ g3;subst g1 g3;exact Ut ⟨lB _,Nat.lt_of_lt_of_le (dM.1 eM).1 g2⟩
      have st:=mL.upd hw qE yW (oA.cells (T:=T) (hc.set o hv) hz);refine(ih hk st.rel (ht.step st)).after (by rw[cF,e1];simp only[mH,iU,if_false];rw[Y7 h1]) rfl rfl λT' e=>?_;rw[cF,show(tp w T' e).cell? ⟨b,o,none⟩=some v0 from e1];simp only[show(tp w T' e).frozen? ⟨b,o,none⟩=false from mH,iU,if_false];rw[Y7 (w:=tp w T' e) h1];rfl
  |_=>exact .no λx w'=>by rw[cF];simp[kY,h1,Cr,qJ]
 |new o k ih=>
  rintro R w W s' (hn|⟨o',k',rfl,ho,hk⟩) hw ht
  .exact .no (hn.no hw.np)
  have st:=mL.push hw ho;exact(ih _ (hk _ _ ⟨λb hb=>absurd (hw.lt _ _ hb).1 (Cb _),λa ha=>absurd (hw.lt _ _ ha).2 (Cb _),by subst hG;exact hw.gle⟩) st.rel (ht.step st)).after Nc rfl rfl λT e=>by rw[bD];rfl
 |shape r k ih=>
  rintro R w W s' (hn|⟨r',k',rfl,sD,hk⟩) hw ht
  .exact .no (hn.no hw.np)
  exact(ih _ (hk _) hw ht).after Nc rfl rfl λT e=>by rw[bD];rfl
 |freeze a n k ih=>
  rintro R w W s' (hn|h) hw ht
  .exact .no (hn.no hw.np)
  .exact h.elim
 |frozen a k ih=>
  rintro R w W s' (hn|⟨r',k',rfl,hk⟩) hw ht
  .exact .no (hn.no hw.np)
  exact(ih _ (hk _ true) hw ht).after Nc rfl rfl λT e=>by rw[bD];rfl
 |getObj r k ih=>
  rintro R w W s' (hn|⟨r',k',rfl,sD,hk⟩) hw ht
  .exact .no (hn.no hw.np)
  rcases hw.orR sD with y|y
  .obtain⟨ob,xJ,h1,h2,h3⟩:=hw.cont r r' y
   have go:(∀c T fz,ob≠ .cells c T fz)->Mj P.g (.getObj r k) w:=λn1=>by
    refine(ih ob (hk _ _ h3) hw ht).after ?_ rfl rfl λT e=>?_
    .rw[bD,h1];cases ob<;>first|rfl|exact absurd rfl (n1 _ _ _)
    .rw[bD,show(tp w T e).heap[r]? =some ob from h1];cases ob<;>first|rfl|exact absurd rfl (n1 _ _ _)
   cases h3 with
   |cells _ _=>exact .no λx w'=>by rw[bD,h1];simp
   |_=>exact go aQ
  .exact .no λx w'=>by rw[bD,y];simp[oM]
 |setObj r o k ih=>
  rintro R w W s' (hn|⟨r',o',k',rfl,sD,ho,hk⟩) hw ht
  .exact .no (hn.no hw.np)
  rcases hw.orR sD with y|y
  .obtain⟨ob,xJ,h1,h2,h3⟩:=hw.cont r r' y
   have go:(∀c T fz,ob≠ .cells c T fz)->Mj P.g (.setObj r o k) w:=λn1=>by
    have yW:¬St r:=by
     intro hs;obtain⟨_,c2,T2,hi,g1,g2⟩:=hw.st r hs;rw[h1] at g1;injection g1 with g1;exact n1 _ _ _ g1
    have st:=mL.upd hw y yW ho;refine(ih hk st.rel (ht.step st)).after ?_ rfl rfl λT e=>?_
    .rw[bD,h1];cases ob<;>first|rfl|exact absurd rfl (n1 _ _ _)
    .rw[bD,show(tp w T e).heap[r]? =some ob from h1];cases ob<;>first|rfl|exact absurd rfl (n1 _ _ _)
   cases h3 with
   |cells _ _=>exact .no λx w'=>by rw[bD,h1];simp
   |_=>exact go aQ
  .exact .no λx w'=>by rw[bD,y];simp[oM]
 |choose q k ih=>
  rintro R w W s' (hn|⟨k',rfl,hk⟩) hw ht
  .exact .no (hn.no hw.np)
  cases hq:q.forced with
  |true=>exact(ih 0 (hk 0) hw ht).after (by rw[bD,hq];rfl) rfl rfl λT e=>by rw[bD,hq];rfl
  |false=>
   have st:=mL.draw hw;intro x w' e;rw[bD,hq] at e;simp only[iU,if_false] at e;obtain⟨h1,h2,h3⟩:=ih _ (hk _) st.rel (ht.step st) x w' e;simp only at h1 h2 h3;refine⟨h1,aD,λT e' ha=>?_⟩;rw[bD,hq];simp only[iU,if_false];have ea:T e' q=w.tape w.drawn q:=ha 0 aD q;have:=h3 T (e'+1) (λn hn q'=>by rw[show e'+1+n=e'+(n+1) by omega,show w.drawn+1+n=w.drawn+(n+1) by omega];exact ha (n+1) aD q');show bD P.g (k (q.cut (T e' q))) (tp w T (e'+1))=_;rw[ea];rw[show tp w T (e'+1)=tp {w with drawn:=w.drawn+1} T (e'+1) from rfl,this];congr 2;omega
 |sys c k ih=>
  rintro R w W s' (hn|h) hw ht
  .exact .no (hn.no hw.np)
  .exact h.elim
 |program k ih=>
  rintro R w W s' (hn|⟨k',rfl,hk⟩) hw ht
  .exact .no (hn.no hw.np)
  exact(ih _ hk hw ht).after Nc rfl rfl λT e=>by rw[bD]
 |mark m k ih=>
  rintro R w W s' (hn|⟨rfl,k',rfl,hk⟩) hw ht
  .exact .no (hn.no hw.np)
  exact(ih hk hw ht).after Nc rfl rfl λT e=>by rw[bD]
 |halt h=>
  rintro R w W s' _ hw ht;exact .no λx w'=>by simp[bD]
end Go.Tt
namespace Go.Tt
open Go.Conc (G)
structure Fm where
 fn:aN
 tmps:Array aF
 todo:List dW
 ret:Bool
def Fm.fr (m:Fm):Frame:={fn:=m.fn,tmps:=m.tmps,todo:=m.todo,defers:=[],mode:=if m.ret then .returning else .run,kind:=.normal}
def Fm.eval (m:Fm):cM->aF
 | .tmp t=>m.tmps.getD t aA
 | .const v=>v
 | .global g=>.pointer (some ⟨g,0,none⟩)
 | .func f=>.func (.func f) #[] #[]
def Fm.fin (m:Fm)(ops:Array aY)(i:Nat)(rest:List Nat)(k:List dW)(v:aF):Fm:=
 {m with tmps:=match(ops[i]?).bind (·.dst) with|some d=>m.tmps.setIfInBounds d v|none=>m.tmps,todo:=.inRegion ops rest::k}
def xZ (t:Array aF):O2->cS aF
 | .tmp s=>pure (t.getD s aA)
 | .cell s ty=>do loadVar ty (<-asAddr (t.getD s aA))
def nY:List O2->Array aF->cS aF
 |[],_=>pure (.tuple #[])
 |[a],t=>xZ t a
 |[a,b],t=>do
  let x<-xZ t a
  let y<-xZ t b
  pure (.tuple #[x,y])
 |[a,b,c],t=>do
  let x<-xZ t a
  let y<-xZ t b
  let z<-xZ t c
  pure (.tuple #[x,y,z])
 |[a,b,c,d],t=>do
  let x<-xZ t a
  let y<-xZ t b
  let z<-xZ t c
  let u<-xZ t d
  pure (.tuple #[x,y,z,u])
 |_,_=>stuck ""
def Cs (l:List O2):Prop:=l=[]\/(∃a,l=[a])\/(∃a b,l=[a,b])\/(∃a b c,l=[a,b,c])\/∃a b c d,l=[a,b,c,d]
variable {fn:Func}
theorem zcN {tmps:Array aF}(h:Cs fn.results.toList):results fn tmps=nY fn.results.toList tmps:=by
 rcases h with e|⟨a,e⟩|⟨a,b,e⟩|⟨a,b,c,e⟩|⟨a,b,c,d,e⟩
 .have e':=zal.1 e
  simp[results,e',nY]
 .have e':=zal.1 e
  rw[e];cases a<;>simp[results,e',nY,xZ]
 .have e':=zal.1 e
  rw[e];cases a<;>cases b<;>simp[results,e',nY,xZ]
 .have e':=zal.1 e
  rw[e];cases a<;>cases b<;>cases c<;>simp[results,e',nY,xZ]
 .have e':=zal.1 e
  rw[e];cases a<;>cases b<;>cases c<;>cases d<;>simp[results,e',nY,xZ]
def TF {α:Type}(p:bS)(s:cS α):Prop:=∀w x w',s.run p w=.ok x w'->w'=w/\∀T e,s.run p (tp w T e)=.ok x (tp w T e)
variable {α:Type}{p:bS}
theorem TF.ret (a:α):TF p (kE a:cS α):=λw x w' h=>by
 simp only[kE,bD,qO] at h;obtain⟨rfl,rfl⟩:=h;exact⟨rfl,λT e=>rfl⟩
theorem TF.bnd {β:Type}{s:cS α}{f:α->cS β}(hs:TF p s)(hf:∀a,TF p (f a)):TF p (s>>=f):=λw x w' h=>by
 have h2:=(q9 p s f w).symm.trans h
 cases hx:s.run p w with
 |halt y w2=>rw[hx] at h2;cases h2
 |ok a w1=>
  rw[hx] at h2;obtain⟨rfl,h3⟩:=hs w a w1 hx;obtain⟨rfl,h4⟩:=hf a w1 x w' h2;refine⟨rfl,λT e=>(q9 p s f _).trans ?_⟩;rw[h3 T e];exact h4 T e
def TF.halt {s:cS α}(h:∀w x w',s.run p w≠ .ok x w'):TF p s:=λw x w' e=>absurd e (h w x w')
theorem zgS {Q0:String}:TF p (stuck Q0:cS α):=TF.halt λw x w' e=>by simp[stuck,bD] at e
theorem zwM :TF p program:=λw x w' h=>by
 simp only[program,bD,qO] at h;obtain⟨rfl,rfl⟩:=h;exact⟨rfl,λT e=>rfl⟩
theorem zpN (a:bO):TF p (load a):=λw x w' h=>by
 unfold load at h⊢;simp only[bD] at h⊢
 cases hc:w.cell? a with
 |none=>
  rw[hc] at h;simp only at h
  cases hf:x4 p w a (zaU==zf5) with
  |error y=>rw[hf] at h;cases h
  |ok v=>
   rw[hf] at h;simp only[qO] at h;refine⟨h.2.symm,λT e=>?_⟩;have e1:(tp w T e).cell? a=none:=hc;have e2:x4 p (tp w T e) a (zaU==zf5)=.ok v:=(show x4 p (tp w T e) a (zaU==zf5)=x4 p w a (zaU==zf5) from rfl).trans hf;rw[e1,e2];simp only[h.1]
 |some v=>
  rw[hc] at h;simp only[qO] at h;refine⟨h.2.symm,λT e=>?_⟩;have:(tp w T e).cell? a=some v:=hc;rw[this,h.1]
theorem zG5 (t:aM):TF p (underlying t):=by
 unfold underlying;refine zwM.bnd λq=>?_;split
 .exact .ret _
 .exact zgS
theorem zzP (t:aM):TF p (isAgg t):=by
 unfold isAgg;refine(zG5 t).bnd λq=>?_;split<;>exact .ret _
theorem zDU (t:aM):TF p (sizeOf t):=by
 unfold sizeOf typeInfo;refine TF.bnd (zwM.bnd λq=>?_) λi=>.ret _;split
 .exact .ret _
 .exact zgS
def zrR (a:bO):∀(n i:Nat) (acc:Array aF),TF p (loadCellsFrom a i n acc)
 |0,i,acc=>.ret _
 |n+1,i,acc=>(zpN _).bnd λv=>zrR a n (i+1) (acc.push v)
theorem zCE (t:aM)(a:bO):TF p (loadVar t a):=by
 unfold loadVar;refine(zzP t).bnd λb=>?_;split
 .exact(zDU t).bnd λn=>(zrR a n 0 #[]).bnd λx=>.ret _
 .exact zpN a
theorem Kn (t:Array aF)(r:O2):TF p (xZ t r):=by
 cases r with
 |tmp s=>exact .ret _
 |cell s ty=>
  refine TF.bnd ?_ λa=>zCE ty a;unfold asAddr;split
  .exact .ret _
  .exact TF.halt λw x w' e=>by simp[runtimePanic,goPanic,bD,bind,xF,program] at e
  .exact zgS
def Nz (t:Array aF):∀l:List O2,TF p (nY l t)
 |[]=>.ret _
 |[a]=>Kn t a
 |[a,b]=>(Kn t a).bnd λx=>(Kn t b).bnd λy=>.ret _
 |[a,b,c]=>(Kn t a).bnd λx=>(Kn t b).bnd λy=>(Kn t c).bnd λz=>.ret _
 |[a,b,c,d]=>(Kn t a).bnd λx=>(Kn t b).bnd λy=>(Kn t c).bnd λz=>(Kn t d).bnd λu=>.ret _
 |_::_::_::_::_::_=>zgS
variable {w w':aE}{v:aF}
theorem zqS {l:List O2}{t:Array aF}(h:(nY l t).run p w=.ok v w'):Cs l:=by
 match l,h with
 |[],_=>exact .inl rfl
 |[a],_=>exact .inr (.inl ⟨a,rfl⟩)
 |[a,b],_=>exact .inr (.inr (.inl ⟨a,b,rfl⟩))
 |[a,b,c],_=>exact .inr (.inr (.inr (.inl ⟨a,b,c,rfl⟩)))
 |[a,b,c,d],_=>exact .inr (.inr (.inr (.inr ⟨a,b,c,d,rfl⟩)))
 |a::b::c::d::e::l,h=>simp[nY,stuck,bD] at h
def qF (p:bS)(m:Fm)(ms:List Fm)(ops:Array aY)(i:Nat)(rest:List Nat)(k:List dW):Next->cS (Fm×List Fm)
 | .value v=>pure (m.fin ops i rest k v,ms)
 | .skip=>pure (m.fin ops i rest k aA,ms)
 | .enter f args=>
  match p.funcs[f]? with
  |some fn=>(match fn.body with
   |some c=>pure (⟨f,args++nD (fn.ntmps-args.size) aA,[.code c],false⟩,m::ms)
   |none=>stuck "")
  |none=>stuck ""
 |_=>stuck ""
def yN (p:bS)(m:Fm):List Fm->cS (Fm×List Fm)
 |[]=>stuck ""
 |c::rest=>
  match c.todo,p.funcs[m.fn]? with
  | .inRegion ops (i::r)::k,some fn=>do
   let v<-nY fn.results.toList m.tmps
   pure (c.fin ops i r k v,rest)
  |_,_=>stuck ""
variable {m:Fm}{rest:List Fm}{w1:aE}
theorem Rv {c m1:Fm}{ms1:List Fm}(h:(yN p m (c::rest)).run p w=.ok (m1,ms1) w1):
 ∃ops i r k v fn,c.todo=.inRegion ops (i::r)::k/\p.funcs[m.fn]? =some fn/\(nY fn.results.toList m.tmps).run p w=.ok v w1/\m1=c.fin ops i r k v/\ms1=rest:=by
 unfold yN at h;simp only at h;split at h
 .next ops i r k fn hc hf=>
  have h2:=(q9 p _ _ w).symm.trans h
  cases hx:(nY fn.results.toList m.tmps).run p w with
  |halt y w2=>rw[hx] at h2;cases h2
  |ok v w2=>
   rw[hx] at h2;simp only[uC,kE,bD,qO,o7] at h2;obtain⟨⟨rfl,rfl⟩,rfl⟩:=h2;exact⟨ops,i,r,k,v,fn,hc,hf,hx,rfl,rfl⟩
 .simp[stuck,bD] at h
variable {ops:Array aY}{i:Nat}{k:List dW}
theorem Jw {c:Fm}{r:List Nat}(hc:c.todo=.inRegion ops (i::r)::k)(hf:p.funcs[m.fn]? =some fn)(hv:(nY fn.results.toList m.tmps).run p w=.ok v w1):
 (yN p m (c::rest)).run p w=.ok (c.fin ops i r k v,rest) w1/\∀es,(yN p m (c::rest)).events p w es=(nY fn.results.toList m.tmps).events p w es:=by
 unfold yN;simp only[hc,hf];constructor
 .refine(q9 p _ _ w).trans ?_
  rw[hv];rfl
 .intro es
  refine(Qk p _ _ w es).trans ?_;rw[hv,S3];rfl
def rN (p:bS)(m:Fm)(ms:List Fm):cS (Fm×List Fm):=
 match m.todo with
 |[]=>pure ({m with ret:=true},ms)
 | .code .ret::_=>pure ({m with ret:=true},ms)
 | .code .skip::k=>pure ({m with todo:=k},ms)
 | .code (.label _)::k=>pure ({m with todo:=k},ms)
 | .inBlock _::k=>pure ({m with todo:=k},ms)
 | .inScope _::k=>pure ({m with todo:=k},ms)
 | .code (.seq a b)::k=>pure ({m with todo:=.code a:: .code b::k},ms)
 | .code (.cond c a b)::k=>(match m.eval c with
  | .bool t=>pure ({m with todo:=.code (if t then a else b)::k},ms)
  |_=>stuck "")
 | .code (.block id body)::k=>pure ({m with todo:=.code body:: .inBlock id::k},ms)
 | .code (.loop body)::k=>pure ({m with todo:=.code body:: .inLoop body::k},ms)
 | .inLoop body::k=>pure ({m with todo:=.code body:: .inLoop body::k},ms)
 | .code (.scope body)::k=>pure ({m with todo:=.code body:: .inScope body::k},ms)
 | .code (.exit id)::k=>(match exitTo id k with
  |some k'=>pure ({m with todo:=k'},ms)
  |none=>stuck "")
 | .code (.region id ops draw)::k=>
  if draw then do
   let t<-choose (.order m.fn id)
   pure ({m with todo:=.inRegion ops (S9 (p.follows .mixedOrders) ops t)::k},ms)
  else pure ({m with todo:=.inRegion ops (gD ops.size)::k},ms)
 | .inRegion _ []::k=>pure ({m with todo:=k},ms)
 | .inRegion ops (i::rest)::k=>
  if((ops[i]?).map (dA · (dN ops m.tmps))).getD false then
   match ops[i]? with
   |some o=>do
    let n<-aO m.eval o
    qF p m ms ops i rest k n
   |none=>stuck ""
  else pure (m.fin ops i rest k aA,ms)
 |_=>stuck ""
def eU (p:bS)(m:Fm)(ms:List Fm):cS (Fm×List Fm):=if m.ret then yN p m ms else rN p m ms
theorem Fm.eval_fr (m:Fm):m.fr.eval=m.eval:=by funext x;cases x<;>rfl
theorem Fm.fr_run (h:m.ret=false):m.fr={fn:=m.fn,tmps:=m.tmps,todo:=m.todo,defers:=[],mode:=.run,kind:=.normal}:=by simp[Fm.fr,h]
theorem Fm.fr_ret (h:m.ret=true):m.fr={fn:=m.fn,tmps:=m.tmps,todo:=m.todo,defers:=[],mode:=.returning,kind:=.normal}:=by simp[Fm.fr,h]
theorem zAY {rest:List Nat}(h:m.todo=.inRegion ops (i::rest)::k)(v:aF):m.fr.finish v=(m.fin ops i rest k v).fr:=by
 simp only[dE.finish,Fm.fr,Fm.fin,h];cases(ops[i]?).bind (·.dst)<;>rfl
theorem Ve {f:aN}{c:Code}{args:Array aF}(hf:p.funcs[f]? =some fn)(hb:fn.body=some c):
 Ed p f args .normal=(⟨f,args++nD (fn.ntmps-args.size) aA,[.code c],false⟩:Fm).fr:=by
 simp[Ed,Fm.fr,hf,hb]
theorem zmS {id:Nat}:∀{l l':List dW} (k:List dW),exitTo id l=some l'->exitTo id (l++k)=some (l'++k)
 |[],_,_,h=>by simp[exitTo] at h
 |x::l,l',k,h=>by
  have tail:exitTo id l=some l'->exitTo id (l++k)=some (l'++k):=zmS k;cases x<;>simp only[exitTo,Qt] at h⊢<;>first|exact tail h|skip
  split at h
  .next e=>simp only[fS] at h;subst h;rw[if_pos e]
  .next e=>rw[if_neg e];exact tail h
open Conc in
structure Dk where
 ds:List Deferred
 kd:CallKind
 ok:kd≠ .early
abbrev Dk.nil:Dk:=⟨[],.normal,aQ⟩
def Dk.base (d:Dk)(fn:aN):Frame:={(default:dE) with fn:=fn,kind:=d.kd}
def fx (k:List dW)(d:Dk)(m:Fm):Frame:={m.fr with todo:=m.todo++k,defers:=d.ds,kind:=d.kd}
theorem Fc (m:Fm):fx [] .nil m=m.fr:=by unfold fx;simp[Fm.fr]
variable {main:Bool}{m':Fm}{ms ms':List Fm}
theorem zk0 (hr:m.ret=false)(aT:m.todo=[]->k=[])(h:(rN p m ms).run p w=.ok (m',ms') w')(d:Dk)(CS:List dE):
 (ms'=ms/\stepG p main (G (fx k d m) CS) w=.go (G (fx k d m') CS) w' (seen p m.fn ((rN p m ms).events p w #[])))\/
 (ms'=m::ms/\stepG p main (G (fx k d m) CS) w=.go (G m'.fr (fx k d m::CS)) w' (seen p m.fn ((rN p m ms).events p w #[]))):=by
 have L2:seen p m.fn #[]=#[]:=Conc.seen_none p _;obtain⟨fn,tmps,todo,ret⟩:=m;simp only at hr L2 aT⊢;subst hr;unfold rN at h⊢;simp only at h⊢;split at h
 all_goals first
  |(simp[stuck,bD] at h;done)
  |(
   obtain rfl:=aT rfl;simp only[kE,bD,qO,o7] at h;obtain⟨⟨rfl,rfl⟩,rfl⟩:=h;refine .inl ⟨rfl,?_⟩;simp[G,stepG,L1,Fm.fr,fx,L2,Bo]
   done)
  |(
   simp only[kE,bD,qO,o7] at h;obtain⟨⟨rfl,rfl⟩,rfl⟩:=h;refine .inl ⟨rfl,?_⟩;simp[G,stepG,L1,Fm.fr,fx,L2,Bo]
   done)
  |skip
 case h_8 _ c a b k0=>
  generalize hv:Fm.eval {fn:=fn,tmps:=tmps,todo:=Xl (Code.cond c a b)::k0,ret:=false} c=v at h⊢;have hc:dE.eval {fn:=fn,tmps:=tmps,todo:=Xl (Code.cond c a b)::(k0++k),defers:=d.ds,mode:=.run,kind:=d.kd} c=v:=by rw[<-hv];cases c<;>rfl
  cases v with
  |bool t=>
   simp only[kE,bD,qO,o7] at h;obtain⟨⟨rfl,rfl⟩,rfl⟩:=h;refine .inl ⟨rfl,?_⟩;simp[G,stepG,L1,Fm.fr,fx,L2,hc]
  |_=>simp[stuck,bD] at h
 case h_13 _ id k0=>
  cases he:exitTo id k0 with
  |some k'=>
   rw[he] at h;simp only[kE,bD,qO,o7] at h;obtain⟨⟨rfl,rfl⟩,rfl⟩:=h;refine .inl ⟨rfl,?_⟩;simp[G,stepG,L1,Fm.fr,fx,L2,zmS k he]
  |none=>rw[he] at h;simp[stuck,bD] at h
 case h_14 _ id ops draw k0=>
  cases draw with
  |true=>
   simp[choose,bD,zm8,zjB,bind,xF,pure] at h;obtain⟨⟨rfl,rfl⟩,rfl⟩:=h;refine .inl ⟨rfl,?_⟩;simp[G,stepG,L1,Fm.fr,fx,L2,choose,bD,zm8,zjB,vV,cS.runT,bind,xF,pure]
  |false=>
   simp only[iU,if_false,kE,bD,qO,o7] at h;obtain⟨⟨rfl,rfl⟩,rfl⟩:=h;refine .inl ⟨rfl,?_⟩;simp[G,stepG,L1,Fm.fr,fx,L2]
 case h_16 _ ops i rest k0=>
  have zgQ:∀x,Act.eval ⟨tmps,d.ds⟩ x=Fm.eval {fn:=fn,tmps:=tmps,todo:=qN ops (i::rest)::k0,ret:=false} x:=λx=>by cases x<;>rfl
  have zuY:Act.eval ⟨tmps,d.ds⟩=Fm.eval {fn:=fn,tmps:=tmps,todo:=qN ops (i::rest)::k0,ret:=false}:=funext zgQ;have yS:∀v,(d.base fn).at (Act.put ⟨tmps,d.ds⟩ ((ops[i]?).bind (·.dst)) v) (.inRegion ops rest::(k0++k))=fx k d (Fm.fin {fn:=fn,tmps:=tmps,todo:=qN ops (i::rest)::k0,ret:=false} ops i rest k0 v):=λv=>by
   unfold Fm.fin Act.put fx;cases(ops[i]?).bind (·.dst)<;>rfl
  have hb:(d.base fn).kind≠ .early:=d.ok;have Rn:fx k d {fn:=fn,tmps:=tmps,todo:=qN ops (i::rest)::k0,ret:=false}=(d.base fn).at ⟨tmps,d.ds⟩ (.inRegion ops (i::rest)::(k0++k)):=rfl;rw[Rn]
  cases ho:ops[i]? with
  |none=>
   rw[ho] at h;simp only[Option.map_none,Option.getD_none,iU,if_false,kE,bD,qO,o7] at h;obtain⟨⟨rfl,rfl⟩,rfl⟩:=h;refine .inl ⟨rfl,?_⟩;rw[<-yS aA];have Dc:((d.base fn).at ⟨tmps,d.ds⟩ (.inRegion ops (i::rest)::(k0++k))).finish aA=(d.base fn).at (Act.put ⟨tmps,d.ds⟩ ((ops[i]?).bind (·.dst)) aA) (.inRegion ops rest::(k0++k)):=dE.finish_at _ _ _ _ _ _ _;rw[<-Dc];simp[G,stepG,L1,L2,ho,dE.at]
  |some o=>
   rw[ho] at h;simp only[ho,xI] at yS;simp only[zP,zC] at h⊢;by_cases hw:dA o (dN ops tmps)=true
   .rw[if_pos hw] at h
    rw[if_pos hw];have zkm:=q9 p (aO (Fm.eval {fn:=fn,tmps:=tmps,todo:=qN ops (i::rest)::k0,ret:=false}) o) (qF p {fn:=fn,tmps:=tmps,todo:=qN ops (i::rest)::k0,ret:=false} ms ops i rest k0) w;have h':=zkm.symm.trans h;have zv4:=Qk p (aO (Fm.eval {fn:=fn,tmps:=tmps,todo:=qN ops (i::rest)::k0,ret:=false}) o) (qF p {fn:=fn,tmps:=tmps,todo:=qN ops (i::rest)::k0,ret:=false} ms ops i rest k0) w #[]
    cases hx:(aO (Fm.eval {fn:=fn,tmps:=tmps,todo:=qN ops (i::rest)::k0,ret:=false}) o).run p w with
    |halt y w1=>rw[hx] at h';cases h'
    |ok n w1=>
     rw[hx] at h' zv4;have lH:(aO (Act.eval ⟨tmps,d.ds⟩) o).run p w=.ok n w1:=by rw[zuY];exact hx
     have hl:wK p fn ⟨tmps,d.ds⟩ o w=seen p fn ((aO (Fm.eval {fn:=fn,tmps:=tmps,todo:=qN ops (i::rest)::k0,ret:=false}) o).events p w #[]):=by unfold wK;rw[zuY]
     have h2:(qF p {fn:=fn,tmps:=tmps,todo:=qN ops (i::rest)::k0,ret:=false} ms ops i rest k0 n).run p w1=.ok (m',ms') w':=h'
     have zhA:∀(r:Fm×List Fm),qF p {fn:=fn,tmps:=tmps,todo:=qN ops (i::rest)::k0,ret:=false} ms ops i rest k0 n=kE r->
      (m',ms')=r/\w'=w1/\seen p fn ((do let n<-aO (Fm.eval {fn:=fn,tmps:=tmps,todo:=qN ops (i::rest)::k0,ret:=false}) o;qF p {fn:=fn,tmps:=tmps,todo:=qN ops (i::rest)::k0,ret:=false} ms ops i rest k0 n:cS (Fm×List Fm)).events p w #[])=wK p fn ⟨tmps,d.ds⟩ o w:=λr e=>by
      rw[e] at h2;simp only[kE,bD,qO] at h2;refine⟨h2.1.symm,h2.2.symm,?_⟩;rw[hl];congr 1;refine zv4.trans ?_;rw[S3,e];rfl
     cases n with
     |value v=>
      obtain⟨e1,rfl,e3⟩:=zhA _ rfl;injection e1 with e1 e2;subst e1 e2;refine .inl ⟨rfl,?_⟩;rw[e3];have:=Conc.stepG_value (main:=main) (b:=d.base fn) (a:=⟨tmps,d.ds⟩) (rest:=rest) (k:=k0++k) (cs:=CS) ho hw hb lH;rw[yS] at this;exact this
     |skip=>
      obtain⟨e1,rfl,e3⟩:=zhA _ rfl;injection e1 with e1 e2;subst e1 e2;refine .inl ⟨rfl,?_⟩;rw[e3];have:=Conc.stepG_none (main:=main) (b:=d.base fn) (a:=⟨tmps,d.ds⟩) (rest:=rest) (k:=k0++k) (cs:=CS) ho hw hb lH;rw[yS] at this;exact this
     |enter f args=>
      have h3:=h2;simp only[qF] at h3
      cases hf:p.funcs[f]? with
      |none=>rw[hf] at h3;simp[stuck,bD] at h3
      |some fn2=>
       cases zbP:fn2.body with
       |none=>rw[hf] at h3;simp only[zbP] at h3;simp[stuck,bD] at h3
       |some c=>
        obtain⟨e1,rfl,e3⟩:=zhA _ (by simp only[qF,hf,zbP];rfl);injection e1 with e1 e2;subst e1 e2;refine .inr ⟨rfl,?_⟩;rw[e3];have:=Conc.stepG_enter (main:=main) (b:=d.base fn) (a:=⟨tmps,d.ds⟩) (rest:=rest) (k:=k0++k) (cs:=CS) ho hw hb lH;rw[Ve hf zbP] at this;exact this
     |_=>simp[qF,stuck,bD] at h2
   .rw[if_neg hw] at h
    rw[if_neg hw];simp only[kE,bD,qO,o7] at h;obtain⟨⟨rfl,rfl⟩,rfl⟩:=h;refine .inl ⟨rfl,?_⟩;have:=Conc.stepG_unwanted (P:=p) (main:=main) (b:=d.base fn) (a:=⟨tmps,d.ds⟩) (rest:=rest) (k:=k0++k) (cs:=CS) (w:=w) ho (by simpa using hw);rw[yS] at this;rw[show seen p fn (vV p (kE (Fm.fin {fn:=fn,tmps:=tmps,todo:=qN ops (i::rest)::k0,ret:=false} ops i rest k0 aA,ms):cS (Fm×List Fm)) w #[])=#[] from L2];exact this
theorem zjr (h:(eU p m ms).run p w=.ok (m',ms') w')(base:List dE):
 stepG p main (G m.fr (ms.map Fm.fr++base)) w=.go (G m'.fr (ms'.map Fm.fr++base)) w' (seen p m.fn ((eU p m ms).events p w #[])):=by
 unfold eU at h⊢;by_cases hr:m.ret=true
 .simp only[hr,if_true] at h⊢
  cases ms with
  |nil=>simp[yN,stuck,bD] at h
  |cons c rest=>
   obtain⟨ops,i,r,k,v,fn,hc,hf,hv,rfl,rfl⟩:=Rv h;rw[(Jw hc hf hv).2];have he:results fn m.tmps=nY fn.results.toList m.tmps:=zcN (zqS hv);rw[Fm.fr_ret hr,List.map_cons,Qt];have yS:c.fr.finish v=(c.fin ops i r k v).fr:=zAY hc v;rw[<-yS];simp[G,stepG,unwind,doReturn,hf,he,hv,Bo]
 .have vN:m.ret=false:=by simpa using hr
  simp only[vN,iU,if_false] at h⊢;rcases zk0 (main:=main) vN (k:=[]) (λ_=>rfl) h .nil (ms.map Fm.fr++base) with⟨rfl,e⟩|⟨rfl,e⟩
  .simp only[Fc] at e;exact e
  .simp only[Fc] at e;exact e
end Go.Tt
namespace Go.Tt
def Eh (p:bS)(q:Cl):dW->Bool
 | .code c| .inLoop c| .inScope c=>oI p q c
 | .inBlock _=>true
 | .inRegion ops _=>ops.all λo=>rD p q o.op
 |_=>false
def Wait (m:Fm):Prop:=m.ret=false/\∃ops i r k,m.todo=.inRegion ops (i::r)::k
section
variable (P:dI)(fs:aN->Bool)(K R:Pr)
structure oV (m m':Fm):Prop where
 fn:m.fn=m'.fn
 todo:m.todo=m'.todo
 ret:m.ret=m'.ret
 tmps:bK (SF fs) K R m.tmps m'.tmps
 fit:∀i∈m.todo,Eh P.c (sX P fs m.fn) i=true
 infs:∃fn fn',P.g.funcs[m.fn]? =some fn/\P.c.funcs[m.fn]? =some fn'/\fn.results=fn'.results/\Cs fn.results.toList
inductive uD:List Fm->List Fm->Prop
 |nil:uD [] []
 |cons {m m':Fm} {ms ms':List Fm}:oV P fs K R m m'->Wait m->uD ms ms'->uD (m::ms) (m'::ms')
end
structure Fit2 (P:dI)(fs:aN->Bool):Prop extends Fit P fs where
 res:∀f,P.gs f=true->P.op f=false->∀fn,P.c.funcs[f]? =some fn->Cs fn.results.toList
 follows:P.g.follows .mixedOrders=P.c.follows .mixedOrders
section
variable {P:dI}{fs:aN->Bool}{K R R':Pr}
variable {m m':Fm}
def oV.mono (h:R.le R')(x:oV P fs K R m m'):oV P fs K R' m m':=⟨x.fn,x.todo,x.ret,x.tmps.mono h,x.fit,x.infs⟩
variable {ms ms':List Fm}
theorem uD.mono (h:R.le R')(x:uD P fs K R ms ms'):uD P fs K R' ms ms':=by
 induction x with
 |nil=>exact .nil
 |cons a b _ ih=>exact .cons (a.mono h) b ih
theorem xD {S:aN->Prop}:VR S K R aA undef:=.tuple rfl (λi v v' h=>by simp at h)
theorem oV.eval (x:oV P fs K R m m'):∀o,dL fs o=true->VR (SF fs) K R (m.eval o) (m'.eval o):=by
 intro o ho
 cases o with
 |tmp t=>exact x.tmps.getD t xD
 |const v=>exact znA ho
 |global g=>cases ho
 |func f=>exact .func ho rfl (λi v v' h=>by simp at h) rfl (λi v v' h=>by simp at h)
def qM (p:bS)(f:aN)(xs:Array aF):Fm:=
 match p.funcs[f]? with
 |some fn=>(match fn.body with
  |some c=>⟨f,xs++nD (fn.ntmps-xs.size) aA,[.code c],false⟩
  |none=>⟨f,xs,[],false⟩)
 |none=>⟨f,xs,[],false⟩
structure OpR (P:dI)(fs:aN->Bool)(K R:Pr)(x y:Fm×List Fm):Prop where
 ex:∃f xs bX c c' rest Iz,P.op f=true/\P.gs f=true/\bK (SF fs) K R xs bX/\x=(qM P.g f xs,c::rest)/\y=(qM P.c f bX,c'::Iz)/\oV P fs K R c c'/\Wait c/\uD P fs K R rest Iz/\P.lw c.fn=false
abbrev StA (P:dI)(fs:aN->Bool)(K:Pr)(l:Bool):Pr->(Fm×List Fm)->(Fm×List Fm)->Prop:=λR x y=>
 (oV P fs K R x.1 y.1/\uD P fs K R x.2 y.2/\(l=true->P.lw x.1.fn=true/\∀c∈x.2,P.lw c.fn=true))\/(l=false/\OpR P fs K R x y)
variable {ops:Array aY}{i:Nat}{rest:List Nat}{k:List dW}
theorem oV.fin (x:oV P fs K R m m')(h:m.todo=.inRegion ops (i::rest)::k){v v':aF}(hv:VR (SF fs) K R v v'):
 oV P fs K R (m.fin ops i rest k v) (m'.fin ops i rest k v'):=by
 refine⟨x.fn,rfl,x.ret,?_,λj hj=>?_,x.infs⟩
 .unfold Fm.fin
  cases(ops[i]?).bind (·.dst) with
  |none=>exact x.tmps
  |some d=>exact x.tmps.set d hv
 .simp only[Fm.fin,iX] at hj
  rcases hj with rfl|hj
  .have:=x.fit (.inRegion ops (i::rest)) (by rw[h];simp)
   exact this
  .exact x.fit j (by rw[h];simp[hj])
abbrev LowS (P:dI)(l:Bool)(m:Fm)(ms:List Fm):Prop:=l=true->P.lw m.fn=true/\∀c∈ms,P.lw c.fn=true
variable {xs bX:Array aF}
theorem bK.pad (ha:bK (SF fs) K R xs bX)(n:Nat):bK (SF fs) K R (xs++nD (n-xs.size) aA) (bX++nD (n-bX.size) aA):=by
 rw[ha.1];refine ha.append ⟨aQ,λj v v' h1 h2=>?_⟩;rw[Array.getElem?_replicate] at h1 h2;split at h1
 .rename_i hj
  rw[if_pos hj] at h2;cases h1;cases h2;exact xD
 .cases h1
theorem zdJ (F:Fit P fs)(g:aN):∀f,(sX P fs g).gs f=true->P.gs f=true:=λf h=>by
 unfold sX at h;split at h
 .exact(F.low f h).2
 .exact h
theorem zpM (F:Fit P fs)(g:aN):(sX P fs g).dy=true->∀f,fs f=true->(sX P fs g).gs f=true:=λh f hf=>by
 unfold sX at h⊢;split at h
 .cases h
 .next e=>rw[if_neg e];exact F.dyn h f hf
theorem zAK (F:Fit2 P fs){l:Bool}(hm:oV P fs K R m m')(iJ:uD P fs K R ms ms')(nL:LowS P l m ms)(hr:m.ret=false)(h:m.todo=.inRegion ops (i::rest)::k){n n':Next}(hn:NxR (SF fs) (sX P fs m.fn).T K R n n'):
 aG P (SF fs) K (StA P fs K l) (qF P.g m ms ops i rest k n) R (qF P.c m' ms' ops i rest k n'):=by
 cases hn with
 |value hv=>exact aG.ret (.inl ⟨hm.fin h hv,iJ,nL⟩)
 |skip=>exact aG.ret (.inl ⟨hm.fin h xD,iJ,nL⟩)
 |enter hT ha=>
  rename_i f xs bX;have P4:P.lw m.fn=true->P.lw f=true:=λe=>by
   unfold sX at hT;rw[if_pos e] at hT;exact hT
  have hf:P.gs f=true:=zdJ F.toFit m.fn f hT
  cases ho:P.op f with
  |false=>
   obtain⟨fn,c,e1,e2,e3,e4,e5⟩:=F.fn f hf ho;simp only[qF,e1,e2,e4];refine aG.ret (.inl ⟨⟨rfl,rfl,rfl,ha.pad _,λj hj=>?_,⟨fn,fn,e1,e2,rfl,F.res f hf ho fn e2⟩⟩,.cons hm ⟨hr,ops,i,rest,k,h⟩ iJ,λe=>⟨P4 (nL e).1,λc hc=>?_⟩⟩)
   .simp only[iX,lX,or_false] at hj
    subst hj;exact e5
   .simp only[iX] at hc
    rcases hc with rfl|hc
    .exact(nL e).1
    .exact(nL e).2 c hc
  |true=>
   obtain⟨fn,fn',c,c',e1,e2,e3,e4,e5,e6⟩:=F.opq f hf ho;have zf2:P.lw m.fn=false:=by
    cases hq:P.lw m.fn with
    |false=>rfl
    |true=>have:=(F.low f (P4 hq)).1;rw[ho] at this;cases this
   have hl:l=false:=by
    cases l with
    |false=>rfl
    |true=>have:=(nL rfl).1;rw[zf2] at this;cases this
   simp only[qF,e1,e2,e5,e6];refine aG.ret (.inr ⟨hl,⟨f,xs,bX,m,m',ms,ms',ho,hf,ha,?_,?_,hm,⟨hr,ops,i,rest,k,h⟩,iJ,zf2⟩⟩)
   .have:P.g.funcs[f]? =some fn:=e1
    simp only[qM,this,e5]
   .simp only[qM,e2,e6]
theorem Iw {S:aN->Prop}(h:bK S K R xs bX)(a:O2):aG P S K (VA S K) (xZ xs a) R (xZ bX a):=by
 cases a with
 |tmp t=>exact aG.ret (h.getD t xD)
 |cell s ty=>
  refine aG.bnd (zrH (h.getD s xD)) ?_;intro R1 e1 a a' ha;exact zqI ty ha
theorem zkY {S:aN->Prop}(h:bK S K R xs bX):∀l:List O2,aG P S K (VA S K) (nY l xs) R (nY l bX)
 |[]=>aG.ret (.tuple' bK.empty)
 |[a]=>Iw h a
 |[a,b]=>by
  refine aG.bnd (Iw h a) ?_;intro R1 e1 x x' hx;refine aG.bnd (Iw (h.mono e1.le) b) ?_;intro R2 e2 y y' hy;exact aG.ret (.tuple' ((bK.one (hx.mono e2.le)).push hy))
 |[a,b,c]=>by
  refine aG.bnd (Iw h a) ?_;intro R1 e1 x x' hx;refine aG.bnd (Iw (h.mono e1.le) b) ?_;intro R2 e2 y y' hy;refine aG.bnd (Iw ((h.mono e1.le).mono e2.le) c) ?_;intro R3 e3 z z' hz;exact aG.ret (.tuple' (((bK.one ((hx.mono e2.le).mono e3.le)).push (hy.mono e3.le)).push hz))
 |[a,b,c,d]=>by
  refine aG.bnd (Iw h a) ?_;intro R1 e1 x x' hx;refine aG.bnd (Iw (h.mono e1.le) b) ?_;intro R2 e2 y y' hy;refine aG.bnd (Iw ((h.mono e1.le).mono e2.le) c) ?_;intro R3 e3 z z' hz;refine aG.bnd (Iw (((h.mono e1.le).mono e2.le).mono e3.le) d) ?_;intro R4 e4 u u' hu;exact aG.ret (.tuple' ((((bK.one (((hx.mono e2.le).mono e3.le).mono e4.le)).push ((hy.mono e3.le).mono e4.le)).push (hz.mono e4.le)).push hu))
 |_::_::_::_::_::_=>.inl bM
theorem zkn {S:aN->Prop}(ops:Array aY)(h:bK S K R xs bX):dN ops xs=dN ops bX:=by
 funext j;unfold dN
 cases hd:(ops[j]?).bind (·.dst) with
 |none=>rfl
 |some d=>
  simp only[xI]
  cases hx:xs[d]? with
  |none=>rw[h.none hx]
  |some v=>
   obtain⟨v',e,hv⟩:=h.get hx;rw[e]
   cases hv with
   |junk hh=>cases v'<;>first|exact hh.elim|rfl
   |_=>rfl
theorem zhD {id:Nat}:∀{k k':List dW},exitTo id k=some k'->∀i∈k',i∈k
 |[],_,h,_,_=>by simp[exitTo] at h
 |x::k,k',h,i,hi=>by
  have tail:exitTo id k=some k'->i∈x::k:=λe=>by simp[zhD e i hi]
  cases x<;>simp only[exitTo] at h<;>first|exact tail h|skip
  split at h
  .cases h;simp[hi]
  .exact tail h
theorem zeL (F:Fit2 P fs)(hR:tF P K R){l:Bool}(hm:oV P fs K R m m')(iJ:uD P fs K R ms ms')(nL:LowS P l m ms)(U5:m.ret=true->ms≠[]):
 aG P (SF fs) K (StA P fs K l) (eU P.g m ms) R (eU P.c m' ms'):=by
 unfold eU;rw[<-hm.ret];by_cases hr:m.ret=true
 .simp only[hr,if_true]
  cases iJ with
  |nil=>exact absurd rfl (U5 hr)
  |cons hc hw Tj=>
   rename_i c c' rest Iz;obtain⟨_,ops,i,r,k,hk⟩:=hw;obtain⟨fn,fn',e1,e2,e3,e4⟩:=hm.infs;unfold yN;have cN:c'.todo=.inRegion ops (i::r)::k:=hc.todo.symm.trans hk;rw[<-hm.fn];simp only[hk,cN,e1,e2];rw[<-e3];refine aG.bnd (zkY hm.tmps fn.results.toList) ?_;intro R1 x1 v v' hv;exact aG.ret (.inl ⟨(hc.mono x1.le).fin hk hv,Tj.mono x1.le,λe=>⟨(nL e).2 c aQ,λx hx=>(nL e).2 x (by simp[hx])⟩⟩)
 .have Te:m.ret=false:=by simpa using hr
  simp only[Te,iU,if_false];have vN:m'.ret=false:=hm.ret.symm.trans Te;unfold rN;rw[<-hm.todo];have yD:∀{x y:Fm},oV P fs K R x y->x.fn=m.fn->aG P (SF fs) K (StA P fs K l) (kE (x,ms)) R (kE (y,ms')):=λh e=>aG.ret (.inl ⟨h,iJ,λz=>by rw[e];exact nL z⟩);have keep:∀(l:List dW),(∀i∈l,Eh P.c (sX P fs m.fn) i=true)->oV P fs K R {m with todo:=l} {m' with todo:=l}:=λl hl=>⟨hm.fn,rfl,hm.ret,hm.tmps,hl,hm.infs⟩;have H7:=hm.fit;have zen:=hm.fn
  cases pR:m.todo with
  |nil=>exact yD ⟨hm.fn,rfl,rfl,hm.tmps,λi hi=>(by simp at hi),hm.infs⟩ rfl
  |cons x k=>
   rw[pR] at H7;have hk:∀i∈k,Eh P.c (sX P fs m.fn) i=true:=λi hi=>H7 i (by simp[hi]);have hx:Eh P.c (sX P fs m.fn) x=true:=H7 x aQ;have two:∀(y z:dW),Eh P.c (sX P fs m.fn) y=true->Eh P.c (sX P fs m.fn) z=true->∀i∈y::z::k,Eh P.c (sX P fs m.fn) i=true:=λy z hy hz i hi=>by
    simp only[iX] at hi;rcases hi with rfl|rfl|hi
    .exact hy
    .exact hz
    .exact hk i hi
   have one:∀(y:dW),Eh P.c (sX P fs m.fn) y=true->∀i∈y::k,Eh P.c (sX P fs m.fn) i=true:=λy hy i hi=>by
    simp only[iX] at hi;rcases hi with rfl|hi
    .exact hy
    .exact hk i hi
   cases x with
   |code c=>
    cases c with
    |skip=>exact yD (keep k hk) rfl
    |label l=>exact yD (keep k hk) rfl
    |ret=>exact yD ⟨hm.fn,rfl,rfl,hm.tmps,H7,hm.infs⟩ rfl
    |seq a b=>
     simp only[Eh,oI,fN] at hx;exact yD (keep _ (two _ _ hx.1 hx.2)) rfl
    |cond c a b=>
     simp only[Eh,oI,fN] at hx;have hv:=hm.eval c (zka P fs m.fn▸hx.1.1);simp only;generalize m.eval c=v at hv⊢;generalize m'.eval c=v' at hv⊢
     cases hv with
     |bool t=>
      refine yD (keep _ (one _ ?_)) rfl;cases t
      .exact hx.2
      .exact hx.1.2
     |_=>exact .inl bM
    |block id body=>exact yD (keep _ (two _ _ hx rfl)) rfl
    |loop body=>exact yD (keep _ (two _ _ hx hx)) rfl
    |scope body=>exact yD (keep _ (two _ _ hx hx)) rfl
    |exit id=>
     simp only
     cases he:exitTo id k with
     |none=>exact .inl bM
     |some k'=>exact yD (keep _ λi hi=>hk i (zhD he i hi)) rfl
    |region id ops draw=>
     simp only
     cases draw with
     |true=>
      simp only[if_true];rw[<-zen];refine aG.bnd (zf3 _) ?_;rintro R1 h1 t _ rfl;rw[F.follows];exact aG.ret (.inl ⟨(by have y:=(keep (.inRegion ops (S9 (P.c.follows .mixedOrders) ops t)::k) (one (.inRegion ops (S9 (P.c.follows .mixedOrders) ops t)) hx)).mono h1.le;rw[<-zen] at y;exact y),iJ.mono h1.le,nL⟩)
     |false=>
      simp only[iU,if_false];exact yD (keep _ (one (.inRegion ops (gD ops.size)) hx)) rfl
    |_=>cases hx
   |inBlock id=>exact yD (keep k hk) rfl
   |inScope c=>exact yD (keep k hk) rfl
   |inLoop c=>exact yD (keep _ (two _ _ hx hx)) rfl
   |inRegion ops l=>
    cases l with
    |nil=>exact yD (keep k hk) rfl
    |cons i rest=>
     simp only;rw[<-zkn ops hm.tmps];by_cases hw:((ops[i]?).map (dA · (dN ops m.tmps))).getD false=true
     .rw[if_pos hw,if_pos hw]
      cases ho:ops[i]? with
      |none=>exact .inl bM
      |some o=>
       simp only;have bV:rD P.c (sX P fs m.fn) o.op=true:=by
        have lH:=zmZ.1 hx i (dM.1 ho).1
        rwa [(dM.1 ho).2] at lH
       refine aG.bnd (zh9 F.toFit hR hm.eval (λg=>rfl) (λg=>rfl) (λg=>rfl) (λg=>rfl) (λv=>rfl) (λv=>rfl) (zka P fs m.fn) (zdJ F.toFit m.fn) (zpM F.toFit m.fn) bV) ?_;intro R1 h1 n n' hn;exact zAK F (hm.mono h1.le) (iJ.mono h1.le) nL Te pR hn
     .rw[if_neg hw,if_neg hw]
      exact yD (hm.fin pR xD) rfl
   |_=>cases hx
end
end Go.Tt
namespace Go.Tt
open Go.Conc (G solo)
def nilD:Deferred:={target:=.nil,args:=#[]}
def pz:Frame:={(default:dE) with mode:=.panicking [],defers:=[nilD],kind:=.normal}
section
variable {P:dI}{fs:aN->Bool}{K R:Pr}{G':Gp}{St:Nat->Prop}
variable {w:aE}
theorem zI1 (F:Fit2 P fs)(hG:G'=P.gp){W:aE}(hw:cT (SF fs) K R G' St w W)(ht:Tp w W){m m':Fm}{ms ms':List Fm}(hm:oV P fs K R m m')(iJ:uD P fs K R ms ms')(U5:m.ret=true->ms≠[])
 (dB:∀x w',(eU P.g m ms).run P.g w≠ .ok x w') (base:List dE):
 (∃o w1 es,stepG P.g true (G m.fr (ms.map Fm.fr++base)) w=.ended o w1 es)\/
 ∃x w1 es,stepG P.g true (G m.fr (ms.map Fm.fr++base)) w=.go (G x (ms.map Fm.fr++base)) w1 es/\(∃c,x.mode=.panicking c)/\x.defers=[]:=by
 have hR:tF P K R:=by subst hG;exact⟨hw.inj,hw.inj',λa b h=>(hw.low a b h).1,hw.tb⟩
 unfold eU at dB;by_cases hr:m.ret=true
 .simp only[hr,if_true] at dB
  cases iJ with
  |nil=>exact absurd rfl (U5 hr)
  |cons hc cC Tj=>
   rename_i c c' rest Iz;obtain⟨_,ops,i,r,k,hk⟩:=cC;obtain⟨fn,fn',e1,e2,e3,e4⟩:=hm.infs;have he:results fn m.tmps=nY fn.results.toList m.tmps:=zcN e4
   cases hx:(nY fn.results.toList m.tmps).run P.g w with
   |ok v w1=>exact absurd (Jw (rest:=rest) hk e1 hx).1 (dB _ _)
   |halt y w1=>
    refine .inl ?_;rw[Fm.fr_ret hr];cases y<;>exact⟨_,_,_,by simp only[G,stepG,unwind,e1,he,cS.runT_eq,hx,Bo];rfl⟩
 .have Te:m.ret=false:=by simpa using hr
  simp only[Te,iU,if_false] at dB;have mD:m.fr.eval=m.eval:=m.eval_fr;have H7:=hm.fit;have zEv:=hm.tmps;have zgE:=hm.eval;obtain⟨fn,tmps,todo,ret⟩:=m;simp only at Te H7 zEv;subst Te;unfold rN at dB;simp only at dB
  cases todo with
  |nil=>exact absurd rfl (dB _ _)
  |cons x k=>
   have hx:Eh P.c (sX P fs fn) x=true:=H7 x aQ
   cases x with
   |code c=>
    cases c with
    |skip=>exact absurd rfl (dB _ _)
    |label l=>exact absurd rfl (dB _ _)
    |ret=>exact absurd rfl (dB _ _)
    |seq a b=>exact absurd rfl (dB _ _)
    |block id body=>exact absurd rfl (dB _ _)
    |loop body=>exact absurd rfl (dB _ _)
    |scope body=>exact absurd rfl (dB _ _)
    |cond c a b=>
     have hc:=congrFun mD c;simp only at dB
     cases hv:Fm.eval {fn:=fn,tmps:=tmps,todo:=Xl (Code.cond c a b)::k,ret:=false} c with
     |bool t=>rw[hv] at dB;exact absurd rfl (dB _ _)
     |_=>
      left;rw[hv] at hc;simp only[Fm.fr,iU,if_false] at hc⊢;simp only[G,stepG,L1,hc];exact⟨_,_,_,rfl⟩
    |exit id=>
     simp only at dB
     cases he:exitTo id k with
     |some k'=>rw[he] at dB;exact absurd rfl (dB _ _)
     |none=>
      left;simp only[Fm.fr,iU,if_false];simp[G,stepG,L1,he]
    |region id ops draw=>
     simp only at dB
     cases draw with
     |true=>exact absurd (by simp[choose,bD,zm8,zjB,bind,xF,pure];exact⟨rfl,rfl⟩) (dB _ _)
     |false=>exact absurd rfl (dB _ _)
    |_=>cases hx
   |inBlock id=>exact absurd rfl (dB _ _)
   |inScope c=>exact absurd rfl (dB _ _)
   |inLoop c=>exact absurd rfl (dB _ _)
   |inRegion ops l=>
    cases l with
    |nil=>exact absurd rfl (dB _ _)
    |cons i rest=>
     simp only at dB
     cases ho:ops[i]? with
     |none=>rw[ho] at dB;exact absurd rfl (dB _ _)
     |some o=>
      rw[ho] at dB;simp only[zP,zC] at dB;by_cases p8:dA o (dN ops tmps)=true
      .rw[if_pos p8] at dB
       have bV:rD P.c (sX P fs fn) o.op=true:=by
        have lH:=zmZ.1 hx i (dM.1 ho).1
        rwa [(dM.1 ho).2] at lH
       have zbM:=zh9 F.toFit hR zgE (λg=>rfl) (λg=>rfl) (λg=>rfl) (λg=>rfl) (λv=>rfl) (λv=>rfl) (zka P fs fn) (zdJ F.toFit fn) (zpM F.toFit fn) bV;have zkm:∀x w',((aO (Fm.eval {fn:=fn,tmps:=tmps,todo:=qN ops (i::rest)::k,ret:=false}) o).bind (qF P.g {fn:=fn,tmps:=tmps,todo:=qN ops (i::rest)::k,ret:=false} ms ops i rest k)).run P.g w≠ .ok x w':=dB;rcases aG.tame hG _ zbM hw ht with⟨n,w1,hn⟩|⟨h,w1,hn,hth⟩
       .have zgQ:Act.eval ⟨tmps,[]⟩=Fm.eval {fn:=fn,tmps:=tmps,todo:=qN ops (i::rest)::k,ret:=false}:=funext λx=>by cases x<;>rfl
        obtain⟨R1,n',W1,ev,e1,e2,e3,e4,e5⟩:=aG.run hG _ zbM hw ht hn;have:=λx w'=>zkm x w';simp only[q9,hn,uC] at this
        cases e2 with
        |value hv=>exact absurd rfl (this _ _)
        |skip=>exact absurd rfl (this _ _)
        |enter hT ha=>
         rename_i f xs bX;have hf:P.gs f=true:=zdJ F.toFit fn f hT
         cases zam:P.op f with
         |false=>
          obtain⟨fn',c,q1,q2,q3,q4,q5⟩:=F.fn f hf zam;simp only[qF,q1,q4] at this;exact absurd rfl (this _ _)
         |true=>
          obtain⟨fn1,fn2,c1,c2,q1,q2,q3,q4,q5,q6⟩:=F.opq f hf zam;simp only[qF,q1,q5] at this;exact absurd rfl (this _ _)
       .have zgQ:Act.eval ⟨tmps,[]⟩=Fm.eval {fn:=fn,tmps:=tmps,todo:=qN ops (i::rest)::k,ret:=false}:=funext λx=>by cases x<;>rfl
        have hop:=Conc.stepG_oper (P:=P.g) (main:=true) (b:=Ju fn) (a:=⟨tmps,[]⟩) (k:=k) (cs:=List.map Fm.fr ms++base) (w:=w) (rest:=rest) ho p8;have fI:(Fm.fr {fn:=fn,tmps:=tmps,todo:=qN ops (i::rest)::k,ret:=false})=(Ju fn).at ⟨tmps,[]⟩ (.inRegion ops (i::rest)::k):=rfl;rw[fI,hop,zgQ]
        cases h with
        |panic v=>
         right;simp[stepG.apply,hn,Bo,G,zsj,dE.at]
        |stuck s=>left;simp[stepG.apply,hn,Bo]
        |unsupported u=>
         left;cases u<;>first|exact hth.elim|simp[stepG.apply,hn,Bo]
        |_=>exact hth.elim
      .rw[if_neg p8] at dB
       exact absurd rfl (dB _ _)
   |_=>cases hx
variable {p:bS}{w':aE}{o:Outcome}
theorem zag {a:bC}{es:Array oE}(hs:a.status=.running)(h:stepG p true a w=.ended o w' es):step p (solo a w)=.ended o w':=by
 rw[step,Conc.stepT_solo hs,Conc.solo_eq_crowd,Conc.runT_many_ended (i:=0) rfl h]
variable {m:Zy}
theorem zaV {m':Zy}(h:step p m=.next m')(n:Nat):runN p (n+1) m=runN p n m':=by simp[runN,h]
theorem zn7 (h:step p m=.ended o w)(n:Nat):runN p (n+1) m=.ended o w:=by simp[runN,h]
theorem zgL {g g':bC}(h:solo g w=solo g' w'):g=g'/\w=w':=by
 injection h with h1 h2;injection h2 with h2;injection h2 with h2;exact⟨h2,h1⟩
theorem zfU {fr zoq:dE}{cs Yp:List dE}(h:G fr cs=G zoq Yp):fr=zoq/\cs=Yp:=by
 injection h with h1 h2;exact⟨h1,h2⟩
def zkU (x:dE):Prop:=∃c,x.mode=.panicking c
theorem zfd (x:dE)(vs:List PanicEntry):zkU (x.raise vs)/\(x.raise vs).defers=x.defers:=by
 unfold zsj;split
 .exact⟨⟨_,rfl⟩,rfl⟩
 .exact⟨⟨_,rfl⟩,rfl⟩
variable {ds:List Deferred}
theorem zqc {x:dE}(hd:x.defers=nilD::ds)(hm:zkU x)(cs:List dE)(w:aE):∃o w1 es,stepG p true (G x cs) w=.ended o w1 es:=by
 obtain⟨c,hc⟩:=hm;refine⟨.unsupported (.noEntry "machine/Return: a deferred call of a nil function value, made while the frame is unwinding") ({x with defers:=ds}.pos p),w,#[],?_⟩;simp[G,stepG,hc,unwind,hd,callDeferred,nilD]
theorem zFh (frT:dE)(wT:aE)(hT:frT.mode=.returning):∀(n:Nat) (x:dE) (ys:List dE) (w:aE),zkU x->x.defers=[]->(∀y∈ys,y.defers=[])->runN p n (solo (G x (ys++[pz])) w)≠ .next (solo (G frT [pz]) wT):=by
 intro n
 induction n with
 |zero=>
  intro x ys w ⟨c,hc⟩ _ _ e;simp only[runN,V6] at e;have:=(zfU (zgL e).1).1;rw[this,hT] at hc;cases hc
 |succ n ih=>
  intro x ys w ⟨c,hc⟩ hd zq2 e;have cF:(G x (ys++[pz])).status=.running:=rfl;by_cases zxA:x.catches p=true
  .have aX:∃o w1 es,stepG p true (G x (ys++[pz])) w=.ended o w1 es:=by simp[G,stepG,hc,unwind,hd,zxA]
   obtain⟨o,w1,es,aX⟩:=aX;have hs:=zag cF aX;simp[runN,hs] at e
  .have zxh:x.catches p=false:=by simpa using zxA
   cases ys with
   |nil=>
    have aX:stepG p true (G x [pz]) w=.go (G (pz.raise c) []) w:=by simp[G,stepG,hc,unwind,hd,zxh]
    have hs:=zbE cF aX;replace e:=(zaV hs n).symm.trans e
    cases n with
    |zero=>
     simp only[runN,V6] at e;have:=(zfU (zgL e).1).2;cases this
    |succ n=>
     obtain⟨o,w1,es,zhE⟩:=zqc (p:=p) (x:=pz.raise c) (ds:=[]) ((zfd pz c).2) (zfd pz c).1 [] w;have Ap:=zag rfl zhE;have:=(zn7 Ap n).symm.trans e;cases this
   |cons y ys=>
    have aX:stepG p true (G x (y::(ys++[pz]))) w=.go (G (y.raise c) (ys++[pz])) w:=by simp[G,stepG,hc,unwind,hd,zxh]
    have hs:=zbE cF aX;replace e:=(zaV hs n).symm.trans e;exact ih (y.raise c) ys w (zfd y c).1 ((zfd y c).2.trans (zq2 y aQ)) (λz hz=>zq2 z (by simp[hz])) e
theorem zBk (frT:dE)(wT:aE){m:Fm}(hr:m.ret=true)(n:Nat):runN p (n+1) (solo (G m.fr [pz]) w)≠ .next (solo (G frT [pz]) wT):=by
 intro e;have cF:(G m.fr [pz]).status=.running:=rfl;have key:(∃o w1 es,stepG p true (G m.fr [pz]) w=.ended o w1 es)\/∃v w1 es,stepG p true (G m.fr [pz]) w=.go (G (pz.finish v) []) w1 es:=by
  rw[Fm.fr_ret hr]
  cases hf:p.funcs[m.fn]? with
  |none=>right;simp[G,stepG,unwind,doReturn,hf];exact⟨_,rfl⟩
  |some fn=>
   cases hx:(results fn m.tmps).run p w with
   |ok v w1=>right;simp[G,stepG,unwind,doReturn,hf,hx,Bo];exact⟨_,rfl⟩
   |halt h w1=>left;cases h<;>simp[G,stepG,unwind,hf,hx,Bo]
 rcases key with⟨o,w1,es,aX⟩|⟨v,w1,es,aX⟩
 .have hs:=zag cF aX
  simp[runN,hs] at e
 .have hs:=zbE cF aX
  simp only[runN,hs] at e
  cases n with
  |zero=>
   simp only[runN,V6] at e;have:=(zfU (zgL e).1).2;cases this
  |succ n=>
   have zJg:pz.finish v=pz:=rfl;rw[zJg] at e;obtain⟨o,w2,es,zhE⟩:=zqc (p:=p) (x:=pz) (ds:=[]) rfl ⟨_,rfl⟩ [] w1;have Ap:=zag rfl zhE;simp[runN,Ap] at e
end
inductive Ha (p:bS):Nat->Fm->List Fm->aE->Fm->aE->Prop
 |stop {m:Fm} {w:aE}:m.ret=true->Ha p 0 m [] w m w
 |step {n:Nat} {m m1 mT:Fm} {ms ms1:List Fm} {w w1 wT:aE}:(m.ret=true->ms≠[])->(eU p m ms).run p w=.ok (m1,ms1) w1->Ha p n m1 ms1 w1 mT wT->Ha p (n+1) m ms w mT wT
structure uT (P:dI)(fs:aN->Bool):Prop extends Fit2 P fs where
 none:∀f,P.op f=false
section
variable (P:dI)(fs:aN->Bool)(K:Pr)(G':Gp)(St:Nat->Prop)
def uY (m:Fm)(ms:List Fm)(w:aE):Prop:=∃R W m' ms',cT (SF fs) K R G' St w W/\oV P fs K R m m'/\uD P fs K R ms ms'
variable {P fs K G' St}
variable {w W:aE}
def cT.tp {S:aN->Prop}{R:Pr}(h:cT S K R G' St w W)(T:kK)(e:Nat):cT S K R G' St (tp w T e) (tp W T e):=
 ⟨h.inj,h.inj',h.lt,h.low,h.gle,h.cont,h.rest,h.st,h.np,h.tb⟩
variable {T:kK}
def cT.untp {S:aN->Prop}{R:Pr}{e:Nat}(h:cT S K R G' St (Tt.tp w T e) W):cT S K R G' St w W:=
 ⟨h.inj,h.inj',h.lt,h.low,h.gle,h.cont,h.rest,h.st,h.np,h.tb⟩
def Tp.tp (w W:aE)(T:kK)(e:Nat):Tp (tp w T e) (tp W T e):=λ_ _=>rfl
theorem cT.relOk {S:aN->Prop}{R:Pr}(hG:G'=P.gp)(h:cT S K R G' St w W):tF P K R:=by subst hG;exact⟨h.inj,h.inj',λa b x=>(h.low a b x).1,h.tb⟩
variable {m:Fm}{ms:List Fm}
theorem uY.next (F:uT P fs)(hG:G'=P.gp){m1:Fm}{ms1:List Fm}{w1:aE}{e:Nat}(h:uY P fs K G' St m ms w)(hs:m.ret=true->ms≠[])
 (hr:(eU P.g m ms).run P.g (tp w T e)=.ok (m1,ms1) w1):uY P fs K G' St m1 ms1 w1:=by
 obtain⟨R,W,m',ms',hw,hm,iJ⟩:=h;obtain⟨R1,x',W1,ev,e1,e2,e3,e4,e5⟩:=aG.run hG _ (zeL (l:=false) F.toFit2 (hw.relOk hG) hm iJ (λe=>by cases e) hs) (hw.tp T e) (Tp.tp w W T e) hr;rcases e2 with e2|⟨_,⟨f,_,_,_,_,_,_,ho,_⟩⟩
 .exact⟨R1,W1,x'.1,x'.2,e3.rel,e2.1,e2.2.1⟩
 .rw[F.none] at ho;cases ho
theorem uY.locl (F:uT P fs)(hG:G'=P.gp)(h:uY P fs K G' St m ms w)(hs:m.ret=true->ms≠[])(T:kK)(e:Nat):Mj P.g (eU P.g m ms) (tp w T e):=by
 obtain⟨R,W,m',ms',hw,hm,iJ⟩:=h;exact aG.locl hG _ (zeL (l:=false) F.toFit2 (hw.relOk hG) hm iJ (λe=>by cases e) hs) (hw.tp T e) (Tp.tp w W T e)
theorem zD1 (h:w.tape=T):tp w T w.drawn=w:=by subst h;rfl
theorem Ha.alike (F:uT P fs)(hG:G'=P.gp):∀{n:Nat} {m mT:Fm} {ms:List Fm} {w wT:aE} {T1 T2:kK} {e1 e2:Nat},uY P fs K G' St m ms w->Ha P.g n m ms (tp w T1 e1) mT wT->(∀n q,T2 (e2+n) q=T1 (e1+n) q)->∃e3,Ha P.g n m ms (tp w T2 e2) mT (tp wT T2 e3):=by
 intro n
 induction n with
 |zero=>
  intro m mT ms w wT T1 T2 e1 e2 hR h ht
  cases h with
  |stop hr=>exact⟨e2,.stop hr⟩
 |succ n ih=>
  intro m mT ms w wT T1 T2 e1 e2 hR h ht
  cases h with
  |step hs hr hn=>
   rename_i m1 ms1 w1;obtain⟨h1,h2,h3⟩:=hR.locl F hG hs T1 e1 _ _ hr;have h4:=h3 T2 e2 (λk _ q=>ht k q);have zdA:w1=tp w1 T1 w1.drawn:=(zD1 h1).symm;rw[zdA] at hn
   obtain⟨e3,h5⟩:=ih (T2:=T2) (e2:=e2+(w1.drawn-e1)) (hR.next F hG hs hr) hn (λk q=>by
    have Ov:e1<=w1.drawn:=h2;rw[show e2+(w1.drawn-e1)+k=e2+((w1.drawn-e1)+k) by omega,ht,show e1+((w1.drawn-e1)+k)=w1.drawn+k by omega])
   exact⟨e3,.step hs h4 h5⟩
theorem Sf (F:uT P fs)(hG:G'=P.gp){frT:dE}{wT:aE}(hT:frT.mode=.returning):∀(n:Nat) {m:Fm} {ms:List Fm} {w:aE},uY P fs K G' St m ms w->
 runN P.g n (solo (G m.fr (ms.map Fm.fr++[pz])) w)=.next (solo (G frT [pz]) wT)->∃k mT,Ha P.g k m ms w mT wT/\mT.fr=frT:=by
 intro n
 induction n with
 |zero=>
  intro m ms w hR h;simp only[runN,V6] at h;obtain⟨h1,rfl⟩:=zgL h;obtain⟨h2,h3⟩:=zfU h1;have iJ:ms=[]:=by
   cases ms with
   |nil=>rfl
   |cons a b=>have:=congrArg ztO h3;simp at this
  subst iJ;have hr:m.ret=true:=by
   rw[<-h2] at hT
   cases hm:m.ret with
   |true=>rfl
   |false=>rw[Fm.fr_run hm] at hT;cases hT
  exact⟨0,m,.stop hr,h2⟩
 |succ n ih=>
  intro m ms w hR h;by_cases U5:m.ret=true/\ms=[]
  .obtain⟨hr,rfl⟩:=U5
   exact absurd h (zBk frT wT hr n)
  .have hs:m.ret=true->ms≠[]:=λa b=>U5 ⟨a,b⟩
   have zdA:tp w w.tape w.drawn=w:=rfl;by_cases bV:∃x w1,(eU P.g m ms).run P.g w=.ok x w1
   .obtain⟨⟨m1,ms1⟩,w1,hr⟩:=bV
    have uO:step P.g (solo (G m.fr (ms.map Fm.fr++[pz])) w)=.next (solo (G m1.fr (ms1.map Fm.fr++[pz])) w1):=by
     exact zbE rfl (zjr (main:=true) hr [pz])
    obtain⟨k,mT,h1,h2⟩:=ih (uY.next (T:=w.tape) (e:=w.drawn) F hG hR hs hr) ((zaV uO n).symm.trans h);exact⟨k+1,mT,.step hs hr h1,h2⟩
   .exfalso
    obtain⟨R,W,m',ms',hw,hm,iJ⟩:=hR;rcases zI1 F.toFit2 hG (hw.tp w.tape w.drawn) (Tp.tp w W w.tape w.drawn) hm iJ hs (λx w' e=>bV ⟨x,w',e⟩) [pz] with⟨o,w1,es,aX⟩|⟨x,w1,es,aX,hp,hd⟩
    .have uO:=zag rfl aX
     have:=(zn7 uO n).symm.trans h;cases this
    .have uO:=zbE rfl aX
     exact zFh frT wT hT n x (ms.map Fm.fr) w1 hp hd (λy hy=>by obtain⟨z,_,rfl⟩:=List.mem_map.1 hy;rfl) ((zaV uO n).symm.trans h)
inductive LT (p:bS)(Q:Fm->aE->Prop):Fm->List Fm->aE->Prop
 |stop {m:Fm} {w:aE}:m.ret=true->Q m w->LT p Q m [] w
 |step {m:Fm} {ms:List Fm} {w:aE} (nx:kK->(Fm×List Fm)×aE):(m.ret=true->ms≠[])->(∀T,(eU p m ms).run p (tp w T 0)=.ok (nx T).1 (nx T).2)->(∀T,LT p Q (nx T).1.1 (nx T).1.2 (nx T).2)->LT p Q m ms w
def Hyp (P:dI)(fs:aN->Bool)(K:Pr)(G':Gp)(St:Nat->Prop)(Q:Fm->aE->Prop)(s:Fm×List Fm×aE):Prop:=
 uY P fs K G' St s.1 s.2.1 s.2.2/\∀T,∃n mT wT,Ha P.g n s.1 s.2.1 (tp s.2.2 T 0) mT wT/\Q mT wT
theorem bar (F:uT P fs)(hG:G'=P.gp){Q:Fm->aE->Prop}(hQ:∀m w T e,Q m w->Q m (tp w T e))(h:Hyp P fs K G' St Q (m,ms,w)):LT P.g Q m ms w:=by
 refine zD λdB=>?_
 let Bad:Fm×List Fm×aE->Prop:=λs=>Hyp P fs K G' St Q s/\¬LT P.g Q s.1 s.2.1 s.2.2
 have zhk:∀s,Bad s->s.1.ret=true->s.2.1≠[]:=by
  rintro⟨m,ms,w⟩ ⟨⟨hR,hI⟩,hn⟩ hr e;simp only at hr e hn hI;subst e;obtain⟨n,mT,wT,Ta,hq⟩:=hI w.tape
  cases Ta with
  |stop _=>exact hn (.stop hr (show Q m (tp (tp w w.tape 0) w.tape w.drawn) from hQ _ _ w.tape w.drawn hq))
  |step hs _ _=>exact hs hr rfl
 have next:∀s,Bad s->∃(T:kK) (s1:Fm×List Fm×aE),(eU P.g s.1 s.2.1).run P.g (tp s.2.2 T 0)=.ok (s1.1,s1.2.1) s1.2.2/\Bad s1:=by
  rintro⟨m,ms,w⟩ hb;have hs:=zhk _ hb;obtain⟨⟨hR,hI⟩,hn⟩:=hb;simp only at hs hI hn hR⊢;have bV:∀T,∃x w1,(eU P.g m ms).run P.g (tp w T 0)=.ok x w1:=λT=>by
   obtain⟨n,mT,wT,Ta,_⟩:=hI T
   cases Ta with
   |stop hr=>exact absurd rfl (hs hr)
   |step _ hr _=>exact⟨_,_,hr⟩
  refine zD λzDv=>hn ?_
  let x:=λT=>(bV T).choose
  let w1:=λT=>(bV T).choose_spec.choose
  have hx:∀T,(eU P.g m ms).run P.g (tp w T 0)=.ok (x T) (w1 T):=λT=>(bV T).choose_spec.choose_spec;refine .step (λT=>(x T,w1 T)) hs hx λT=>zD λaP=>zDv ⟨T,((x T).1,(x T).2,w1 T),hx T,⟨?_,?_⟩,aP⟩
  .exact hR.next F hG hs (hx T)
  .intro T'
   obtain⟨h1,h2,h3⟩:=hR.locl F hG hs T 0 _ _ (hx T)
   let T2:Tape:=λn q=>if n<(w1 T).drawn then T n q else T' (n-(w1 T).drawn) q
   have h4:=h3 T2 0 (λn hn q=>by
    have vB:n<(w1 T).drawn:=by simpa[tp] using hn
    show(if 0+n<(w1 T).drawn then T (0+n) q else _)=_;rw[if_pos aD];rfl)
   obtain⟨n,mT,wT,Ta,hq⟩:=hI T2
   cases Ta with
   |stop hr=>exact absurd rfl (hs hr)
   |step G0 hr vB=>
    rename_i n' m1 ms1 w2;have Ki:(eU P.g m ms).run P.g (tp w T2 0)=.ok (x T) (tp (w1 T) T2 (0+((w1 T).drawn-(tp w T 0).drawn))):=h4;rw[Ki] at hr;injection hr with e1 e2;have Dt:m1=(x T).1:=by rw[e1]
    have Am:ms1=(x T).2:=by rw[e1]
    subst Dt Am;rw[<-e2] at vB;have hd:0+((w1 T).drawn-(tp w T 0).drawn)=(w1 T).drawn:=by show 0+((w1 T).drawn-0)=_;omega
    rw[hd] at vB
    obtain⟨e3,h5⟩:=Ha.alike (T2:=T') (e2:=0) F hG (hR.next F hG hs (hx T)) vB (λk q=>by
     show _=(if(w1 T).drawn+k<(w1 T).drawn then _ else T' ((w1 T).drawn+k-(w1 T).drawn) q);rw[if_neg aD];congr 1;omega)
    exact⟨n',mT,_,h5,hQ _ _ _ _ hq⟩
 have hstart:Bad (m,ms,w):=⟨h,dB⟩
 let nT:=λs (hb:Bad s)=>(next s hb).choose
 let nS:=λs (hb:Bad s)=>(next s hb).choose_spec.choose
 have cF:∀s (hb:Bad s),(eU P.g s.1 s.2.1).run P.g (tp s.2.2 (nT s hb) 0)=.ok ((nS s hb).1,(nS s hb).2.1) (nS s hb).2.2:=λs hb=>(next s hb).choose_spec.choose_spec.1;have P7:∀s (hb:Bad s),Bad (nS s hb):=λs hb=>(next s hb).choose_spec.choose_spec.2
 let seq:Nat->{s:Fm×List Fm×aE//Bad s}:=λk=>Nat.rec ⟨(m,ms,w),hstart⟩ (λ_ s=>⟨nS s.1 s.2,P7 s.1 s.2⟩) k
 let tps:Nat->Tape:=λk=>nT (seq k).1 (seq k).2
 let d:Nat->Nat:=λk=>(seq (k+1)).1.2.2.drawn
 let D:Nat->Nat:=λk=>Nat.rec 0 (λk x=>x+d k) k
 have hD:∀k,D (k+1)=D k+d k:=λk=>rfl;have zuj:∀i j,i<=j->D i<=D j:=λi j qQ=>by
  induction qQ with
  |refl=>exact aZ _
  |step _ ih=>exact eP ih (by rw[hD];omega)
 classical
 let TS:Tape:=λN q=>if hh:∃k,D k<=N/\N<D (k+1) then tps hh.choose (N-D hh.choose) q else 0
 have zI4:∀k n q,n<d k->TS (D k+n) q=tps k n q:=by
  intro k n q hn;have hh:∃j,D j<=D k+n/\D k+n<D (j+1):=⟨k,aD,by rw[hD];omega⟩;have hc:=hh.choose_spec;have hk:hh.choose=k:=by
   rcases Nat.lt_trichotomy hh.choose k with x|x|x
   .have:=zuj (hh.choose+1) k x;omega
   .exact x
   .have:=zuj (k+1) hh.choose x;rw[hD] at this;omega
  show(if hh:∃j,D j<=D k+n/\D k+n<D (j+1) then _ else _)=_;rw[dif_pos hh,hk];congr 1;omega
 have uO:∀k,(eU P.g (seq k).1.1 (seq k).1.2.1).run P.g (tp (seq k).1.2.2 TS (D k))=.ok ((seq (k+1)).1.1,(seq (k+1)).1.2.1) (tp (seq (k+1)).1.2.2 TS (D (k+1))):=by
  intro k;have hb:=(seq k).2;have hs:=zhk _ hb;have hr:=cF (seq k).1 (seq k).2;obtain⟨h1,h2,h3⟩:=hb.1.1.locl F hG hs (tps k) 0 _ _ hr;have h4:=h3 TS (D k) (λn hn q=>by
   have vB:n<d k:=by have:n<(nS (seq k).1 (seq k).2).2.2.drawn-0:=hn;simpa using this
   rw[zI4 k n q vB];show _=tps k (0+n) q;rw[Nat.zero_add])
  have e1:D k+((nS (seq k).1 (seq k).2).2.2.drawn-(tp (seq k).1.2.2 (tps k) 0).drawn)=D (k+1):=by rw[hD];show D k+((seq (k+1)).1.2.2.drawn-0)=_;rfl
  rw[e1] at h4;exact h4
 obtain⟨n,mT,wT,Ta,_⟩:=h.2 TS;have key:∀(n k:Nat) (mT:Fm) (wT:aE),Ha P.g n (seq k).1.1 (seq k).1.2.1 (tp (seq k).1.2.2 TS (D k)) mT wT->False:=by
  intro n
  induction n with
  |zero=>
   intro k mT wT hi;have hs:=zhk _ (seq k).2;generalize iJ:(seq k).1.2.1=ms0 at hi hs
   cases hi with
   |stop hr=>exact hs hr rfl
  |succ n ih=>
   intro k mT wT hi;have aX:=uO k;generalize iJ:(seq k).1.2.1=ms0 at hi aX;generalize L4:(seq k).1.1=m0 at hi aX;generalize jH:tp (seq k).1.2.2 TS (D k)=w0 at hi aX
   cases hi with
   |step G0 hr hn=>
    rename_i m1 ms1 w1;rw[aX] at hr;injection hr with e1 e2;injection e1 with e1 e3;subst e1 e2 e3;exact ih (k+1) mT wT hn
 exact key n 0 mT wT Ta
end
end Go.Tt
namespace Go.Tt
inductive Ml (p:bS)(N:Fm->Prop)(Stop:Fm->List Fm->aE->Prop):Fm->List Fm->aE->Prop
 |stop {m:Fm} {ms:List Fm} {w:aE}:Stop m ms w->Ml p N Stop m ms w
 |step {m:Fm} {ms:List Fm} {w:aE} (nx:kK->(Fm×List Fm)×aE):(m.ret=true->ms≠[])->(∀T,(eU p m ms).run p (tp w T 0)=.ok (nx T).1 (nx T).2)->(∀T,N (nx T).1.1)->(∀T,Ml p N Stop (nx T).1.1 (nx T).1.2 (nx T).2)->Ml p N Stop m ms w
def Fm.app (m:Fm)(k:List dW):Fm:={m with todo:=m.todo++k}
theorem Fm.app_nil (m:Fm):m.app []=m:=by unfold Fm.app;simp
def xM (S:List Nat):Code->Bool
 | .skip| .ret| .exit _| .label _=>true
 | .region _ ops _=>ops.all λo=>match o.dst with|some s=>!S.contains s|none=>true
 | .seq a b=>xM S a&&xM S b
 | .cond _ a b=>xM S a&&xM S b
 | .block _ c| .loop c| .scope c=>xM S c
 |_=>false
def Ac (S:List Nat):dW->Bool
 | .code c| .inLoop c| .inScope c=>xM S c
 | .inBlock _=>true
 | .inRegion ops _=>ops.all λo=>match o.dst with|some s=>!S.contains s|none=>true
 |_=>false
def Rp:Fm->List Fm->Fm
 |m,[]=>m
 |_,c::cs=>Rp c cs
structure Lb (S:List Nat)(m m':Fm):Prop where
 no:∀i∈m'.todo,Ac S i=true
 at_:∀s∈S,m'.tmps.getD s aA=m.tmps.getD s aA
variable {S:List Nat}{k:List dW}
theorem zgj {m:Fm}{ops:Array aY}{i:Nat}{rest:List Nat}(h:m.todo=.inRegion ops (i::rest)::k)(hn:∀i∈m.todo,Ac S i=true)(v:aF):Lb S m (m.fin ops i rest k v):=by
 have hx:=hn (.inRegion ops (i::rest)) (by rw[h];exact List.mem_cons_self ..);refine⟨λj hj=>?_,λs hs=>?_⟩
 .simp only[Fm.fin,iX] at hj
  rcases hj with rfl|hj
  .exact hx
  .exact hn j (by rw[h];exact Gn _ hj)
 .unfold Fm.fin
  simp only
  cases hd:(ops[i]?).bind (·.dst) with
  |none=>rfl
  |some q=>
   obtain⟨o,ho,hq⟩:=Option.bind_eq_some_iff.1 hd;simp only[Ac,Array.all_eq_true_iff_forall_mem] at hx;have h1:=hx o (Array.mem_of_getElem? ho);rw[hq] at h1;simp only[Bool.not_eq_true',List.contains_eq_mem,decide_eq_false_iff_not] at h1;have aT:q≠s:=λe=>h1 (e▸hs);simp only[Array.getD_eq_getD_getElem?,jM aT]
def zAs {id:Nat}{k':List dW}(h:exitTo id k=some k')(hn:∀i∈k,Ac S i=true):∀i∈k',Ac S i=true:=λi hi=>hn i (zhD h i hi)
section
variable {p:bS}
theorem Fm.fin_app (m:Fm)(ops:Array aY)(i:Nat)(rest:List Nat)(k0 k:List dW)(v:aF):(m.app k).fin ops i rest (k0++k) v=(m.fin ops i rest k0 v).app k:=by
 unfold Fm.fin Fm.app;simp
variable {m x:Fm}{ms ys ms':List Fm}{w w1:aE}
theorem zay (k:List dW)(aT:m.todo≠[])(h:(rN p m ms).run p w=.ok (x,ys) w1):
 (ys=ms/\x.fn=m.fn/\(x.ret=true->m.ret=false->x.todo≠[])/\(∀S,(∀i∈m.todo,Ac S i=true)->Lb S m x)/\(rN p (m.app k) ms').run p w=.ok (x.app k,ms') w1)\/(ys=m::ms/\(rN p (m.app k) ms').run p w=.ok (x,m.app k::ms') w1):=by
 obtain⟨fn,tmps,todo,ret⟩:=m;simp only at aT;unfold rN at h⊢;simp only[Fm.app] at h⊢
 cases todo with
 |nil=>exact absurd rfl aT
 |cons it k0=>
  simp only[Qt] at h⊢
  cases it with
  |code c=>
   cases c with
   |cond c a b=>
    simp only at h⊢;have he:Fm.eval {fn:=fn,tmps:=tmps,todo:=Xl (Code.cond c a b)::(k0++k),ret:=ret} c=Fm.eval {fn:=fn,tmps:=tmps,todo:=Xl (Code.cond c a b)::k0,ret:=ret} c:=by cases c<;>rfl
    rw[he]
    cases hv:Fm.eval {fn:=fn,tmps:=tmps,todo:=Xl (Code.cond c a b)::k0,ret:=ret} c with
    |bool t=>
     rw[hv] at h;simp only[kE,bD,qO,o7] at h;obtain⟨⟨rfl,rfl⟩,rfl⟩:=h;refine .inl ⟨rfl,rfl,λa b=>I5 (b.symm.trans a),λS hn=>⟨?_,λ_ _=>rfl⟩,rfl⟩;simp only[iX,forall_eq_or_imp,Ac,xM,fN] at hn⊢;cases t<;>grind
    |_=>rw[hv] at h;simp[stuck,bD] at h
   |exit id=>
    simp only at h⊢
    cases he:exitTo id k0 with
    |some k'=>
     rw[he] at h;rw[zmS k he];simp only[kE,bD,qO,o7] at h;obtain⟨⟨rfl,rfl⟩,rfl⟩:=h;exact .inl ⟨rfl,rfl,λa b=>I5 (b.symm.trans a),λS hn=>⟨zAs he λi hi=>hn i (Gn _ hi),λ_ _=>rfl⟩,rfl⟩
    |none=>rw[he] at h;simp[stuck,bD] at h
   |region id ops draw=>
    cases draw with
    |true=>
     simp only[if_true] at h⊢;have h2:=(q9 p (choose (.order fn id)) _ w).symm.trans h;have h3:=λ(f:Nat->cS (Fm×List Fm))=>q9 p (choose (.order fn id)) f w
     cases hc:(choose (.order fn id)).run p w with
     |ok t w2=>
      rw[hc] at h2 h3;simp only[uC] at h2 h3;simp only[kE,bD,qO,o7] at h2;obtain⟨⟨rfl,rfl⟩,rfl⟩:=h2;exact .inl ⟨rfl,rfl,λa b=>I5 (b.symm.trans a),λS hn=>⟨by simp only[iX,forall_eq_or_imp,Ac,xM,fN] at hn⊢;grind,λ_ _=>rfl⟩,h3 _⟩
     |halt y w2=>rw[hc] at h2;cases h2
    |false=>
     simp only[iU,if_false,kE,bD,qO,o7] at h;obtain⟨⟨rfl,rfl⟩,rfl⟩:=h;exact .inl ⟨rfl,rfl,by first|exact λa b=>I5 (b.symm.trans a)|exact λ_ _=>zea _ _,λS hn=>⟨by simp only[iX,forall_eq_or_imp,Ac,xM,fN] at hn⊢;grind,λ_ _=>rfl⟩,rfl⟩
   |_=>
    first
     |(simp[stuck,bD] at h;done)
     |(
      simp only[kE,bD,qO,o7] at h;obtain⟨⟨rfl,rfl⟩,rfl⟩:=h;exact .inl ⟨rfl,rfl,by first|exact λa b=>I5 (b.symm.trans a)|exact λ_ _=>zea _ _,λS hn=>⟨by simp only[iX,forall_eq_or_imp,Ac,xM,fN] at hn⊢;grind,λ_ _=>rfl⟩,rfl⟩)
  |inRegion ops l=>
   cases l with
   |nil=>
    simp only[kE,bD,qO,o7] at h;obtain⟨⟨rfl,rfl⟩,rfl⟩:=h;exact .inl ⟨rfl,rfl,by first|exact λa b=>I5 (b.symm.trans a)|exact λ_ _=>zea _ _,λS hn=>⟨by simp only[iX,forall_eq_or_imp,Ac,xM,fN] at hn⊢;grind,λ_ _=>rfl⟩,rfl⟩
   |cons i rest=>
    simp only at h⊢;have yS:∀v,Fm.fin {fn:=fn,tmps:=tmps,todo:=qN ops (i::rest)::(k0++k),ret:=ret} ops i rest (k0++k) v=(Fm.fin {fn:=fn,tmps:=tmps,todo:=qN ops (i::rest)::k0,ret:=ret} ops i rest k0 v).app k:=λv=>Fm.fin_app {fn:=fn,tmps:=tmps,todo:=qN ops (i::rest)::k0,ret:=ret} ops i rest k0 k v;by_cases hw:((ops[i]?).map (dA · (dN ops tmps))).getD false=true
    .rw[if_pos hw] at h
     simp only[hw,if_true]
     cases ho:ops[i]? with
     |none=>rw[ho] at h;simp[stuck,bD] at h
     |some o=>
      rw[ho] at h;simp only at h⊢;have mD:Fm.eval {fn:=fn,tmps:=tmps,todo:=qN ops (i::rest)::(k0++k),ret:=ret}=Fm.eval {fn:=fn,tmps:=tmps,todo:=qN ops (i::rest)::k0,ret:=ret}:=by funext y;cases y<;>rfl
      rw[mD];have h2:=(q9 p _ _ w).symm.trans h;have h3:=λ(f:Next->cS (Fm×List Fm))=>q9 p (aO (Fm.eval {fn:=fn,tmps:=tmps,todo:=qN ops (i::rest)::k0,ret:=ret}) o) f w
      cases hc:(aO (Fm.eval {fn:=fn,tmps:=tmps,todo:=qN ops (i::rest)::k0,ret:=ret}) o).run p w with
      |halt y w2=>rw[hc] at h2;cases h2
      |ok n w2=>
       rw[hc] at h2 h3;simp only[uC] at h2 h3
       cases n with
       |value v=>
        simp only[qF,kE,bD,qO,o7] at h2;obtain⟨⟨rfl,rfl⟩,rfl⟩:=h2;refine .inl ⟨rfl,rfl,λa b=>I5 (b.symm.trans a),λS hn=>zgj rfl hn _,(h3 _).trans ?_⟩;simp only[qF,kE,bD,yS];rfl
       |skip=>
        simp only[qF,kE,bD,qO,o7] at h2;obtain⟨⟨rfl,rfl⟩,rfl⟩:=h2;refine .inl ⟨rfl,rfl,λa b=>I5 (b.symm.trans a),λS hn=>zgj rfl hn _,(h3 _).trans ?_⟩;simp only[qF,kE,bD,yS];rfl
       |enter f args=>
        simp only[qF] at h2
        cases hf:p.funcs[f]? with
        |none=>rw[hf] at h2;simp[stuck,bD] at h2
        |some fn2=>
         cases hb:fn2.body with
         |none=>rw[hf] at h2;simp only[hb] at h2;simp[stuck,bD] at h2
         |some c=>
          rw[hf] at h2;simp only[hb,kE,bD,qO,o7] at h2;obtain⟨⟨rfl,rfl⟩,rfl⟩:=h2;refine .inr ⟨rfl,(h3 _).trans ?_⟩;simp only[qF,hf,hb,kE,bD]
       |_=>simp[qF,stuck,bD] at h2
    .rw[if_neg hw] at h
     have p8:((ops[i]?).map (dA · (dN ops tmps))).getD false=false:=by simpa using hw
     simp only[p8,iU,if_false];simp only[kE,bD,qO,o7] at h;obtain⟨⟨rfl,rfl⟩,rfl⟩:=h;refine .inl ⟨rfl,rfl,λa b=>I5 (b.symm.trans a),λS hn=>zgj rfl hn _,?_⟩;simp only[kE,bD,yS];rfl
  |_=>
   first
    |(simp[stuck,bD] at h;done)
    |(
     simp only[kE,bD,qO,o7] at h;obtain⟨⟨rfl,rfl⟩,rfl⟩:=h;exact .inl ⟨rfl,rfl,by first|exact λa b=>I5 (b.symm.trans a)|exact λ_ _=>zea _ _,λS hn=>⟨by simp only[iX,forall_eq_or_imp,Ac,xM,fN] at hn⊢;grind,λ_ _=>rfl⟩,rfl⟩)
theorem zsO (h:(rN p m ms).run p w=.ok (x,ys) w1)(hx:x.ret=true)(hr:m.ret=false)(aT:m.todo≠[])(hy:ys=ms):x.todo≠[]:=by
 rcases zay (ms':=[]) [] aT h with e|e
 .exact e.2.2.1 hx hr
 .have:=hy.symm.trans e.1
  exact absurd (congrArg ztO this) aQ
theorem zsd (h:(rN p m ms).run p w=.ok (x,ys) w1)(hm:m.todo=[]):x={m with ret:=true}/\ys=ms:=by
 unfold rN at h;rw[hm] at h;simp only[kE,bD,qO,o7] at h;rw[hm];exact⟨h.1.1.symm,h.1.2.symm⟩
theorem zc4 (h:(rN p m ms).run p w=.ok (x,ys) w1):(ys=ms/\x.fn=m.fn)\/ys=m::ms:=by
 by_cases hm:m.todo=[]
 .obtain⟨rfl,rfl⟩:=zsd h hm
  exact .inl ⟨rfl,rfl⟩
 .exact(zay (ms':=[]) [] hm h).imp (λe=>⟨e.1,e.2.1⟩) And.left
theorem zFV {S:List Nat}{m':Fm}{w':aE}(hn:∀i∈m.todo,Ac S i=true)(h:(rN p m ms).run p w=.ok (m',ms') w'):(ms'=ms/\Lb S m m')\/ms'=m::ms:=by
 by_cases hm:m.todo=[]
 .obtain⟨rfl,rfl⟩:=zsd h hm
  exact .inl ⟨rfl,hn,λ_ _=>rfl⟩
 .exact(zay (ms':=[]) [] hm h).imp (λe=>⟨e.1,e.2.2.2.1 S hn⟩) And.left
def zM (k:List dW)(b:List Fm):Fm->List Fm->Fm×List Fm
 |m,[]=>(m.app k,b)
 |m,c::cs=>(m,(zM k b c cs).1::(zM k b c cs).2)
variable {m1:Fm}{ms1:List Fm}
theorem zBJ {k:List dW}{b:List Fm}(h:(eU p m ms).run p w=.ok (m1,ms1) w1)(aT:ms=[]->m.ret=false->m.todo≠[]):
 (eU p (zM k b m ms).1 (zM k b m ms).2).run p w=.ok (zM k b m1 ms1) w1:=by
 cases ms with
 |nil=>
  simp only[zM]
  cases hr:m.ret with
  |true=>simp[eU,hr,yN,stuck,bD] at h
  |false=>
   have vN:(m.app k).ret=false:=hr;simp only[eU,hr,iU,if_false] at h;simp only[eU,vN,iU,if_false];rcases zay (ms':=b) k (aT rfl hr) h with⟨rfl,_,_,_,e⟩|⟨rfl,e⟩
   .exact e
   .exact e
 |cons c cs=>
  simp only[zM]
  cases hr:m.ret with
  |true=>
   simp only[eU,hr,if_true] at h⊢;obtain⟨ops,i,r,k0,v,fn,hc,hf,hv,rfl,rfl⟩:=Rv h
   cases ms1 with
   |nil=>
    simp only[zM];have kF:(c.app k).todo=.inRegion ops (i::r)::(k0++k):=by simp[Fm.app,hc]
    have:=(Jw (rest:=b) kF hf hv).1;rw[Fm.fin_app] at this;exact this
   |cons d ds=>exact(Jw hc hf hv).1
  |false=>
   simp only[eU,hr,iU,if_false] at h⊢;by_cases pR:m.todo=[]
   .simp only[rN,pR,kE,bD,qO,o7] at h⊢
    obtain⟨⟨rfl,rfl⟩,rfl⟩:=h;exact⟨rfl,rfl⟩
   .rcases zay (ms':=(zM k b c cs).1::(zM k b c cs).2) [] pR h with⟨rfl,_,_,_,e⟩|⟨rfl,e⟩
    .simp only[Fm.app_nil] at e
     exact e
    .simp only[Fm.app_nil] at e
     exact e
def Qi:Fm->List Fm->aN
 |m,[]=>m.fn
 |_,c::cs=>Qi c cs
theorem ztG (h:(eU p m ms).run p w=.ok (m1,ms1) w1):Qi m1 ms1=Qi m ms:=by
 cases hr:m.ret with
 |true=>
  simp only[eU,hr,if_true] at h
  cases ms with
  |nil=>simp[yN,stuck,bD] at h
  |cons c cs=>
   obtain⟨ops,i,r,k0,v,fn,hc,hf,hv,rfl,rfl⟩:=Rv h;cases ms1<;>rfl
 |false=>
  simp only[eU,hr,iU,if_false] at h;rcases zc4 h with⟨rfl,e⟩|rfl
  .cases ms1 with
   |nil=>exact e
   |cons c cs=>rfl
  .rfl
variable {Q:Fm->aE->Prop}
theorem LT.ret_inv (hr:m.ret=true)(h:LT p Q m [] w):Q m w:=by
 generalize iJ:([]:List Fm)=ms at h
 cases h with
 |stop _ hq=>exact hq
 |step nx hs cF _=>subst iJ;exact absurd rfl (hs hr)
variable {Stop:Fm->List Fm->aE->Prop}
theorem LT.app {P₁:dI}{Qa:aN->Bool}{K₁:Pr}{Vq:Gp}{zdN:Nat->Prop}(zfo:uT P₁ Qa)(zeN:Vq=P₁.gp){N:Fm->Prop}(k:List dW)(b:List Fm){fn0:aN}
 (hN:∀m R y,oV P₁ Qa K₁ R m y->N m) (zGt:∀m:Fm,m.fn=fn0->N m)
 (hn:∀(x:Fm) (w:aE),x.fn=fn0->x.ret=false->x.todo=[]->(∀T,Q {x with ret:=true} (tp w T 0))->Stop (x.app k) b w)
 (hr:∀(x:Fm) (w:aE),x.fn=fn0->x.ret=true->x.todo≠[]->Q x w->Stop (x.app k) b w)    (h:LT P₁.g Q m ms w):
 Qi m ms=fn0->uY P₁ Qa K₁ Vq zdN m ms w->(ms=[]->m.ret=true->m.todo≠[])->Ml P₁.g N Stop (zM k b m ms).1 (zM k b m ms).2 w:=by
 induction h with
 |stop h1 h2=>intro hl _ hz;exact .stop (hr _ _ hl h1 (hz rfl h1) h2)
 |step nx hs cF aP ih=>
  rename_i m ms w;intro hl hrel hz;by_cases Na:ms=[]/\m.ret=false/\m.todo=[]
  .obtain⟨rfl,h1,h2⟩:=Na
   refine .stop (hn m w hl h1 h2 λT=>?_);have hT:=cF T;have e:(eU P₁.g m []).run P₁.g (tp w T 0)=.ok ({m with ret:=true},[]) (tp w T 0):=by simp[eU,h1,rN,h2,kE,bD]
   rw[e] at hT;injection hT with e1 e2;have hl:=aP T;rw[<-e1,<-e2] at hl;exact hl.ret_inv rfl
  .have aT:ms=[]->m.ret=false->m.todo≠[]:=λa b c=>Na ⟨a,b,c⟩
   have P4:∀T,Qi (nx T).1.1 (nx T).1.2=fn0:=λT=>(ztG (m1:=(nx T).1.1) (ms1:=(nx T).1.2) (cF T)).trans hl;have sS:∀T,uY P₁ Qa K₁ Vq zdN (nx T).1.1 (nx T).1.2 (nx T).2:=λT=>uY.next (T:=T) (e:=0) zfo zeN hrel hs (cF T);refine .step (λT=>(zM k b (nx T).1.1 (nx T).1.2,(nx T).2)) (λe=>?_) (λT=>zBJ (cF T) aT) (λT=>?_) (λT=>ih T (P4 T) (sS T) λe1 e2 e3=>?_)
   .cases ms with
    |nil=>exact absurd rfl (hs e)
    |cons c cs=>simp[zM]
   .
    show N (zM k b (nx T).1.1 (nx T).1.2).1
    cases iJ:(nx T).1.2 with
    |nil=>exact zGt _ (by have:=P4 T;rw[iJ] at this;exact this)
    |cons c cs=>
     obtain⟨R,W,m',ms',_,hm,_⟩:=sS T;exact hN _ R m' hm
   have hT:=cF T
   cases ms with
   |nil=>
    cases jT:m.ret with
    |true=>exact hs jT rfl
    |false=>
     simp only[eU,jT,iU,if_false] at hT;exact zsO hT e2 jT (aT rfl jT) e1 e3
   |cons c cs=>
    cases jT:m.ret with
    |true=>
     simp only[eU,jT,if_true] at hT;obtain⟨ops,i,r,k0,v,fn,hc,hf,hv,h1,h2⟩:=Rv (m1:=(nx T).1.1) (ms1:=(nx T).1.2) hT;rw[h1] at e3;simp[Fm.fin] at e3
    |false=>
     simp only[eU,jT,iU,if_false] at hT;rcases zc4 hT with⟨e,_⟩|e
     .rw[e1] at e;cases e
     .rw[e1] at e;cases e
end
end Go.Tt
