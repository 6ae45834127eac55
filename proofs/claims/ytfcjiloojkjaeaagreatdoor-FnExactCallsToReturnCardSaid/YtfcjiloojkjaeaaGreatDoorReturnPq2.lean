/-
  Part 2 of what stands behind the last text.
-/
import Derived.Conc.Token
import Derived.Conc.CompanyDraw
import Derived.Conc.LoneCalls
import Derived.Test.YtfcjiloojkjaeaaGreatDoorReturnPq1
set_option linter.all false
open Array renaming all_eq_true→zlt,empty_append→zka,ext'→Ja,forIn_toList→ztP,getElem?_eq_getElem→mD,getElem?_eq_some_iff→dQ,getElem?_map→xL,getElem?_push→Zl,getElem?_setIfInBounds_ne→jP,getElem?_setIfInBounds_self_of_lt→Lx,mem_append→zr9,replicate→nL,size_append→U0,size_setIfInBounds→zwd,toList_inj→zaF,toList_map→zuv
open Array.mk renaming injEq→zfP
open Bool renaming and_eq_true→fT,false_eq_true→jE,noConfusion→K6,or_eq_true→Er
open Classical renaming byContradiction→zC
open Go renaming Addr→bL,CommCase→zjp,CommShape→Nz,Event→oL,Frame→dJ,FuncId→aO,Goroutine→bC,HappensBefore→zg3,Item→eF,Machine→zbg,MemOp→Tb,Oper→aZ,Operand→cN,Program→bR,ResultVar→On,Sem→cU,Tape→jZ,Trace→lT,TypeId→aM,Value→aF,World→aE,deafBehind→n6,execOp→aS,undef→aA,yielded→dR
open Go.CommCase.mk renaming injEq→zfm
open Go.CommShape.recv renaming injEq→zFF
open Go.Conc renaming Aside→J4,Deaf→iE,Deaf_other→Nv,Knows→M0,act?_old→zaZ,aside_setCell→Ws,base→Kw,deafBehind_still→zp8,deaf_old→zgj,finishComm_recv→zjb,finishComm_send→ztt,g?_old→Si,getElem?_stand→zvD,heard_old→zno,listed→xA,lt_of_act?→zg9,lt_size_of_getElem?→Wt,mem_of_getElem?→zkR,noRace_append→zuI,ofEvents_eq→Xi,offersAt_of_not_blocked→Vt,offersAt_parked_recv→znj,offersAt_parked_send→zi5,ph→zfD,runT_crowd_go→Wh,served→oS,step_solo_go→zcc,touch_mute→zic,touch_of→zhi,woken_quitsD→zlg
open Go.Conc.Aside renaming refl→Mo
open Go.ConcR renaming WgAt→gD,deafBehind_cons→zoa,mk→oA
open Go.ConcR.WgAt renaming setSm→zzr,setSt→zFu,unique→Sd
open Go.Conv renaming bytesToString→zbJ,intToString→ziL,runesToString→zuX
open Go.Deferred renaming ofValue→Co
open Go.Event renaming mute→zem
open Go.Frame renaming enter→Fq,raise→zpc
open Go.GStep renaming after→Bf
open Go.GStep.comm renaming injEq→zqw
open Go.Goroutine renaming again→zfz,offers→zxa
open Go.Goroutine.mk renaming injEq→zwz
open Go.Instr renaming panic→zqM
open Go.Item renaming code→Nu,inRegion→q9
open Go.MemAct renaming low→X0,low_mono→zoX,ofEvent→jJ,touch?→qG
open Go.MemOp renaming ofEvents→wC
open Go.Mode renaming atomic→zdL,plain→zcv
open Go.Op renaming eqGuardIn→So,equal→zA,equalIn→Dh,maxDepth→Qw
open Go.Question renaming cut→zmX,forced→znO
open Go.Region renaming schedule→Tr,wanted→dD
open Go.Result renaming andThen→uD,evThen_ok→Uk
open Go.Result.ok renaming injEq→rE
open Go.Sem renaming bind→xR,events→vV,events_bind'→U1,run→bD,run_bind'→r9
open Go.Stepped.next renaming injEq→Ve
open Go.Trace renaming act?→zn5,g?→C6
open Go.Value.chan renaming injEq→zvp
open Go.World renaming cell?→lF,farLoad→yD,farStore→Dc,noCell→rJ,setChan→Le
open Go.stepG renaming exec→N2
open List renaming cons_append→Sw,cons_ne_nil→zgF,length→Yn,length_cons→pX,length_nil→r8,mem_cons→jH,mem_cons_of_mem→Fw,mem_toArray→Gk,not_mem_nil→l8,range→gN,size_toArray→Ej
open List.cons renaming injEq→X8
open Nat renaming le_refl→aV,le_trans→eM,lt_irrefl→Bt,lt_or_ge→mY,zero_le→jO
open Option renaming bind_some→vN,getD_some→y6,isNone_some→zoB,map_eq_some_iff→xB,map_some→Ak
open Option.some renaming inj→cE,injEq→fY
open Prod.mk renaming injEq→pP
open Pure renaming pure→kW
open WellFounded renaming transGen→zGt
namespace Go
def Dw{P:Prop}(h:P:=by rw[hp];trivial):P:=h
def P7{P:Prop}(h:P:=by rw[hr];exact .inr (.mk f k)):P:=h
def Jy{P:Prop}(h:P:=by rw[lX];simp):P:=h
def X9{P:Prop}(h:P:=by rw[hp];exact hB _ bT.refl):P:=h
def zaY{P:Prop}(h:P:=by rw[dN.step];exact aY):P:=h
def zyn{P:Prop}(h:P:=by have:=(h.st.bnd k c (.inl e)).2.2;rw[Mq] at this;cases this):P:=h
def zq2{P:Prop}(h:P:=by have:=(h.st.bnd k c (.inr e)).2.2;rw[Mq] at this;cases this):P:=h
def zbD{P:Prop}(h:P:=by simpa using hj):P:=h
def zrj{P:Prop}(h:P:=by rw[(Ni w _).size];exact h.st.grp.live.lt):P:=h
def zqv{P:Prop}(h:P:=by rw[upd_same,hr];exact .inr (.mk f k)):P:=h
def Ks{P:Prop}(h:P:=by rfl):P:=h
def zez{P:Prop}(h:P:=by rw[hp];exact id):P:=h
def zfI{P:Prop}(h:P:=by rw[hp];exact hB):P:=h
def ztI{P:Prop}(h:P:=by rw[jP (Ne.symm Cz)];simp[Vd]):P:=h
def znI{P:Prop}(h:P:=by simpa using hg.1):P:=h
def znl{P:Prop}(h:P:=by rw[hl];exact id):P:=h
end Go
namespace Go.Mt
open Go.Conc
open Go.ConcR (KK wgBlock WgAt stA smA rd wr mk)
inductive Rk:Type 1
 |mk (ι:Type) (f:ι->Rk)
inductive Rk.Child:Rk->Rk->Prop
 |mk {ι:Type} (f:ι->Rk) (i:ι):Rk.Child (f i) (.mk ι f)
def Rk.wf:WellFounded Rk.Child:=⟨λr=>by
 induction r with
 |mk ι f ih=>exact⟨_,λy h=>by cases h with|mk _ i=>exact ih i⟩⟩
structure cF where
 own:Nat->Prop
 still:Nat->Prop
 pass:Nat->Prop
def cF.grow (τ:cF)(w w':aE):cF:={τ with own:=λb=>τ.own b\/(w.heap.size<=b/\b<w'.heap.size)}
inductive Act (L:Type) where
 |send (c:Nat) (ok:aF->Prop) (pub:aF->List Nat) (nx:aF->L)
 |recv (c:Nat) (ok:aF->Prop) (nx:aF->L) (shut:L)
 |close (c:Nat) (nx:L)
 |add (nx:L)
 |spawn (pub:List Nat) (child nx:L)
 |done
 |wait
 |note (can:L->Prop)
inductive Ph (L:Type) where
 |gone
 |usr (l:L)
 |rel (l:L)
 |l1 (l:L)
 |l2 (l:L)
 |l3 (l:L)
 |quit (l:L)
 |w1 (b:Nat)
 |w2 (v:Nat)
 |w3
 |w4
 |w5
inductive Pj (L:Type) where
 |gone
 |run (l:L)
 |over (l:L)
 |waits
def Ph.proj {L:Type}:Ph L->Pj L
 | .gone=>.gone
 | .usr l=>.run l
 | .rel l| .l1 l| .l2 l| .l3 l| .quit l=>.over l
 | .w1 _| .w2 _| .w3| .w4| .w5=>.waits
abbrev rC:=Nat->Option Bool
def rC.opn (ch:rC)(l:List Nat):rC:=λc=>if c∈l then some false else ch c
structure jU (L:Type) where
 act:L->Act L
 dep:L->aE->Prop
 pend:L->Bool
 cl:L->Prop
 Inv:(Nat->Pj L)->rC->Prop
 got:L->aF->List Nat:=λ_ _=>[]
def jU.Blocked {L:Type}(A:jU L)(q:Nat->Pj L)(ch:rC)(l:L):Prop:=
 match A.act l with
 | .send c _ _ _=>¬∃j l' ok nx sh,q j=.run l'/\A.act l'=.recv c ok nx sh
 | .recv c _ _ _=>ch c=some false/\¬∃j l' ok pub nx,q j=.run l'/\A.act l'=.send c ok pub nx
 |_=>False
def Pj.c {L:Type}:Pj L->Nat
 | .gone=>0
 |_=>1
def num {L:Type}(q:Nat->Pj L):Nat->Nat
 |0=>0
 |n+1=>num q n+(q n).c
def bH {α:Type _}(f:Nat->α)(i:Nat)(x:α):Nat->α:=λa=>if a=i then x else f a
structure jU.Ok {L:Type}(A:jU L):Prop where
 send1:∀q ch i j li lj c ok pub nx pN Pz nV,A.Inv q ch->q i=.run li->q j=.run lj->A.act li=.send c ok pub nx->A.act lj=.send c pN Pz nV->i=j
 recv1:∀q ch i j li lj c ok nx sh pN nV wZ,A.Inv q ch->q i=.run li->q j=.run lj->A.act li=.recv c ok nx sh->A.act lj=.recv c pN nV wZ->i=j
 sendC:∀q ch i l c ok pub nx,A.Inv q ch->q i=.run l->A.act l=.send c ok pub nx->ch c=some false
 recvC:∀q ch i l c ok nx sh,A.Inv q ch->q i=.run l->A.act l=.recv c ok nx sh->∃b,ch c=some b
 meet:∀q ch i j li lj c ok pub nx pN nV sh v,A.Inv q ch->q i=.run li->q j=.run lj->A.act li=.send c ok pub nx->A.act lj=.recv c pN nV sh->ok v->
  (∀a∈pub v,ch a=none)->pN v/\A.Inv (bH (bH q i (.run (nx v))) j (.run (nV v))) (ch.opn (pub v))
 shut:∀q ch i l c ok nx sh,A.Inv q ch->q i=.run l->A.act l=.recv c ok nx sh->ch c=some true->A.cl l/\A.Inv (bH q i (.run sh)) ch
 close:∀q ch i l c nx,A.Inv q ch->q i=.run l->A.act l=.close c nx->ch c=some false/\A.Inv (bH q i (.run nx)) (bH ch c (some true))
 add:∀q ch i l nx,A.Inv q ch->q i=.run l->A.act l=.add nx->i=0/\A.pend l=false/\A.pend nx=true/\A.Inv (bH q i (.run nx)) ch
 spawn:∀q ch i l pub lc nx k,A.Inv q ch->q i=.run l->A.act l=.spawn pub lc nx->i=0/\A.pend l=true/\A.pend nx=false/\(q k=.gone->k≠0->(∀a∈pub,ch a=none)->A.Inv (bH (bH q i (.run nx)) k (.run lc)) (ch.opn pub))
 done:∀q ch i l,A.Inv q ch->q i=.run l->A.act l=.done->i≠0/\A.Inv (bH q i (.over l)) ch
 note:∀q ch i l can l',A.Inv q ch->q i=.run l->A.act l=.note can->can l'->A.pend l'=A.pend l/\A.Inv (bH q i (.run l')) ch
 wait:∀q ch i l,A.Inv q ch->q i=.run l->A.act l=.wait->i=0/\A.pend l=false/\A.Inv (bH q i .waits) ch
 prog:∀q ch,A.Inv q ch->(∀i l,q i=.run l->A.Blocked q ch l)->q 0=.waits/\∀i l,q i≠ .run l
 pendC:∀l l' c v ok pub nx,A.act l=.send c ok pub nx->l'=nx v->A.pend l'=A.pend l
 pendR:∀l l' c v ok nx sh,A.act l=.recv c ok nx sh->(l'=nx v\/l'=sh)->A.pend l'=A.pend l
 pendX:∀l c nx,A.act l=.close c nx->A.pend nx=A.pend l
 few:∀q ch,A.Inv q ch->∀n,num q n<2000000000
 gotP:∀q ch i j li lj c ok pub nx pN nV sh v,A.Inv q ch->q i=.run li->q j=.run lj->A.act li=.send c ok pub nx->A.act lj=.recv c pN nV sh->ok v->∀a∈A.got lj v,a∈pub v
section
variable {L:Type}(P:bR)(ty:aM)(Wg:Nat)(A:jU L)(Fin:bC->aE->Prop)
def WgLive (w:aE):Prop:=∃st sm,gD ty Wg w st sm
structure bT (τ:cF)(w aI:aE):Prop where
 tape:aI.tape=w.tape
 os:aI.os=w.os
 output:aI.output=w.output
 size:w.heap.size<=aI.heap.size
 keep:∀b,τ.own b\/τ.still b->aI.heap[b]? =w.heap[b]?
 live:WgLive ty Wg w->WgLive ty Wg aI
structure zW (O:Nat->Prop)(w w':aE):Prop where
 tape:w'.tape=w.tape
 os:w'.os=w.os
 output:w'.output=w.output
 size:w.heap.size<=w'.heap.size
 keep:∀b,b<w.heap.size->¬O b->w'.heap[b]? =w.heap[b]?
def EvT (main:Bool)(O Z:Nat->Prop)(e:oL):Prop:=
 match e.loc with
 | .cell a=>O a.block\/(Z a.block/\e.write=false)
 | .obj r=>O r\/(Z r/\e.write=false)
 | .mark (.read a)| .mark (.write a)=>main=true/\a.block=Wg
 | .mark (.acquire _)| .mark (.release _)| .mark (.releaseMerge _)=>False
 | .mark _=>True
 |_=>False
variable (K:Bool->Ph L->Nat->cF->bC->aE->Prop)
def GoG (main:Bool)(ph:Ph L)(d:Nat)(τ:cF)(g:bC)(aI:aE):Prop:=
 ∃g' w' es,stepG P main g aI=.go g' w' es/\g'.status=.running/\zW τ.own aI w'/\(∀e∈es,EvT Wg main (τ.grow aI w').own τ.still e)/\K main ph (n6 d es) (τ.grow aI w') g' w'
def zdA (main:Bool)(ph:Ph L)(d:Nat)(τ:cF)(g:bC)(w:aE):Prop:=∀aI,bT ty Wg τ w aI->GoG P Wg K main ph d τ g aI
def zaq (main:Bool)(ph:Ph L)(d:Nat)(τ:cF)(g:bC)(w:aE):Prop:=
 ∀aI,bT ty Wg τ w aI->∃g' es,stepG P main g aI=.go g' aI es/\g'.status=.running/\(∀e∈es,zem e=true)/\K main ph (n6 d es) τ g' aI
def st (v wt:Nat):Value:=.int .u64 ((v:Int)*KK+wt)
def Ij (w:aE)(a:Nat):Prop:=w.heap[a]? =some (.chan 0 #[] false 0 0 false)
def mE (main:Bool)(l:L)(d:Nat)(τ:cF)(g:bC)(w:aE):Prop:=
 match A.act l with
 | .send c ok pub nx=>g.offers=none/\∃v z τ',(∀aI,bT ty Wg τ w aI->stepG P main g aI=.comm g #[scase c v z] true .send aI #[])/\ok v/\(∀b,τ'.own b->τ.own b)/\τ'.still=τ.still/\(∀b,τ'.pass b->τ.pass b\/τ.own b)/\
  (∀a∈pub v,τ.own a/\¬τ'.own a/\¬τ'.still a/\Ij w a)/\K main (.usr (nx v)) d τ' (oS g aA) w
 | .recv c ok nx sh=>g.offers=none/\∃z b,(∀aI,bT ty Wg τ w aI->stepG P main g aI=.comm g #[rcase c z] true (.recv b) aI #[])/\(∀v,ok v->∀aI,bT ty Wg τ w aI->(∀a∈A.got l v,a<aI.heap.size/\¬τ.own a/\¬τ.still a)->K main (.usr (nx v)) d τ (oS g (recvd b v true)) aI)/\(A.cl l->K main (.usr sh) d τ (oS g (recvd b z false)) w)
 | .close c nx=>mayWake P g=true/\τ.pass c/\∀aI,bT ty Wg τ w aI->∀s r,aI.heap[c]? =some (.chan 0 #[] false s r false)->
  ∃g',stepG P main g aI=.go g' (aI.setChan c 0 #[] true s r false) (closeEvents c)/\g'.status=.running/\K main (.usr nx) d τ g' (aI.setChan c 0 #[] true s r false)
 | .add nx=>∀aI,bT ty Wg τ w aI->∀v:Nat,v<2147483647->gD ty Wg aI (v*KK) 0->
  ∃g',stepG P main g aI=.go g' (aI.setCell (stA Wg) (st (v+1) 0)) #[rd (stA Wg),wr (stA Wg)]/\g'.status=.running/\K main (.usr nx) d τ g' (aI.setCell (stA Wg) (st (v+1) 0))
 | .spawn pub lc nx=>d=0/\∀aI,bT ty Wg τ w aI->∃g' child τm τc,stepG P main g aI=.spawn g' child aI #[]/\g'.status=.running/\child.status=.running/\
  (∀b,τm.own b\/τc.own b->τ.own b)/\(∀b,τm.still b\/τc.still b->τ.still b\/τ.own b)/\(∀b,τm.pass b\/τc.pass b->τ.pass b\/τ.own b\/τ.still b)/\
  (∀b,τm.own b->¬τc.own b/\¬τc.still b/\¬τc.pass b)/\(∀b,τc.own b->¬τm.still b/\¬τm.pass b)/\
  (∀a∈pub,τ.own a/\Ij aI a/\¬τm.own a/\¬τm.still a/\¬τc.own a/\¬τc.still a)/\K main (.usr nx) 0 τm g' aI/\K false (.usr lc) 0 τc child aI
 | .done=>d=0/\main=false/\(∀aI,bT ty Wg τ w aI->A.dep l aI)/\∀aI,bT ty Wg τ w aI->∃g',stepG P main g aI=.go g' aI #[mk (.releaseMerge (stA Wg))]/\g'.status=.running/\K main (.rel l) 0 τ g' aI
 | .wait=>∀aI,bT ty Wg τ w aI->∀v:Nat,v<2147483648->gD ty Wg aI (v*KK) 0->∃g',stepG P main g aI=.go g' aI #[rd (stA Wg)]/\g'.status=.running/\
  (v=0->K main .w5 d τ g' aI)/\(v≠0->K main (.w2 v) d τ g' aI)
 | .note can=>∃l',can l'/\K main (.usr l') d τ g w
def zQ (main:Bool)(ph:Ph L)(d:Nat)(τ:cF)(g:bC)(w:aE):Prop:=
 match ph with
 | .gone| .quit _=>False
 | .usr l=>mE P ty Wg A K main l d τ g w
 | .rel l=>∀aI,bT ty Wg τ w aI->∀v wt:Nat,wt<=1->v<2147483647->gD ty Wg aI ((v+1:Nat)*KK+wt) 0->
  ∃g',stepG P main g aI=.go g' (aI.setCell (stA Wg) (st v wt)) #[rd (stA Wg),wr (stA Wg)]/\g'.status=.running/\0<d/\
   ((v=0/\wt=1)->K main (.l1 l) d τ g' (aI.setCell (stA Wg) (st v wt)))/\(¬(v=0/\wt=1)->∃q,QuitsD P q d g')
 | .l1 l=>∀aI,bT ty Wg τ w aI->gD ty Wg aI 1 0->∃g',stepG P main g aI=.go g' aI #[rd (stA Wg)]/\g'.status=.running/\0<d/\K main (.l2 l) d τ g' aI
 | .l2 l=>∀aI,bT ty Wg τ w aI->gD ty Wg aI 1 0->∃g',stepG P main g aI=.go g' (aI.setCell (stA Wg) (st 0 0)) #[wr (stA Wg)]/\g'.status=.running/\0<d/\K main (.l3 l) d τ g' (aI.setCell (stA Wg) (st 0 0))
 | .l3 l=>mayWake P g=true/\∀aI,bT ty Wg τ w aI->gD ty Wg aI 0 0->∃g',stepG P main g aI=.go g' (aI.setCell (smA Wg) (.int .u32 1)) (semEvents (smA Wg))/\g'.status=.running/\0<d/\∃q,QuitsD P q d g'
 | .w1 b=>∀aI,bT ty Wg τ w aI->∀v:Nat,v<b->v<2147483648->gD ty Wg aI (v*KK) 0->∃g',stepG P main g aI=.go g' aI #[rd (stA Wg)]/\g'.status=.running/\
  (v=0->K main .w5 d τ g' aI)/\(v≠0->K main (.w2 v) d τ g' aI)
 | .w2 vs=>∀aI,bT ty Wg τ w aI->∀v:Nat,v<2147483648->gD ty Wg aI (v*KK) 0->
  (v=vs->∃g',stepG P main g aI=.go g' (aI.setCell (stA Wg) (st v 1)) #[rd (stA Wg),wr (stA Wg)]/\g'.status=.running/\K main .w3 d τ g' (aI.setCell (stA Wg) (st v 1)))/\
  (v<vs->∃g',stepG P main g aI=.go g' aI #[rd (stA Wg)]/\g'.status=.running/\K main (.w1 vs) d τ g' aI)
 | .w3=>g.offers=none/\∀aI,bT ty Wg τ w aI->((∃x,gD ty Wg aI x 0)->stepG P main g aI=.go {g with status:=.blocked} aI #[])/\
  (gD ty Wg aI 0 1->∃g',stepG P main g aI=.go g' (aI.setCell (smA Wg) (.int .u32 0)) (semEvents (smA Wg))/\g'.status=.running/\K main .w4 d τ g' (aI.setCell (smA Wg) (.int .u32 0)))
 | .w4=>∀aI,bT ty Wg τ w aI->gD ty Wg aI 0 0->∃g',stepG P main g aI=.go g' aI #[rd (stA Wg)]/\g'.status=.running/\K main .w5 d τ g' aI
 | .w5=>d=0/\∀aI,bT ty Wg τ w aI->(∃q ch,A.Inv q ch/\q 0=.waits/\(∀i l,q i≠ .run l)/\∀i l,q i=.over l->A.dep l aI)->
  ∃g',stepG P main g aI=.go g' aI #[mk (.acquire (stA Wg))]/\g'.status=.running/\Fin g' aI
def Nt (main:Bool)(ph:Ph L)(d:Nat)(τ:cF)(g:bC)(w:aE):Prop:=
 match ph with
 | .gone| .quit _=>False
 | .rel _| .l1 _| .l2 _| .l3 _=>zaq P ty Wg K main ph d τ g w
 |_=>zdA P ty Wg K main ph d τ g w
end
def o8 {L:Type}(P:bR)(ty:aM)(Wg:Nat)(A:jU L)(Fin:bC->aE->Prop):Rk->Bool->Ph L->Nat->cF->bC->aE->Prop
 | .mk ι f,main,ph,d,τ,g,w=>g.status=.running/\
  (
   Nt P ty Wg (λm ph d τ g w=>∃i,o8 P ty Wg A Fin (f i) m ph d τ g w) main ph d τ g w\/
   zQ P ty Wg A Fin (λm ph d τ g w=>∃i,o8 P ty Wg A Fin (f i) m ph d τ g w) main ph d τ g w)
abbrev Cp:=Sum Nat Rk
def Cl:Cp->Cp->Prop:=Sum.Lex (·<·) Rk.Child
def Cl.wf:WellFounded Cl:=by
 have hl:∀n:Nat,Acc Cl (.inl n):=λn=>by
  induction n using Nat.strongRecOn with
  |_ n ih=>exact⟨_,λy h=>by cases h with|inl h=>exact ih _ h⟩
 refine⟨λx=>?_⟩
 cases x with
 |inl n=>exact hl n
 |inr r=>
  induction r using Rk.wf.induction with
  |_ r ih=>exact⟨_,λy h=>by cases h with|inr h=>exact ih _ h|sep=>exact hl _⟩
def Yw (n:Nat)(f' f:Nat->Cp):Prop:=∃i,i<=n/\Cl (f' i) (f i)/\∀j,j<i->f' j=f j
def Yw.wf:∀n,WellFounded (Yw n):=by
 intro n
 induction n with
 |zero=>
  have:∀c,Acc Cl c->∀f:Nat->Cp,f 0=c->Acc (Yw 0) f:=by
   intro c hc
   induction hc with
   |intro c _ ih=>
    intro f hf;refine⟨_,λf' h=>?_⟩;obtain⟨i,hi,hl,_⟩:=h;have:i=0:=aC;subst this;exact ih _ (hf▸hl) f' rfl
  exact⟨λf=>this _ (Cl.wf.apply _) f rfl⟩
 |succ n ih=>
  have:∀zfr,Acc (Yw n) zfr->∀c,Acc Cl c->∀f:Nat->Cp,(∀j,j<=n->f j=zfr j)->f (n+1)=c->Acc (Yw (n+1)) f:=by
   intro zfr zg7
   induction zg7 with
   |intro zfr _ zFQ=>
    intro c hc
    induction hc with
    |intro c _ zEZ=>
     intro f hf G7;refine⟨_,λf' h=>?_⟩;obtain⟨i,hi,hl,he⟩:=h;rcases mY n i with aN|Bx
     .have:i=n+1:=aC
      subst this;exact zEZ _ (G7▸hl) f' (λj hj=>(he j aC).trans (hf j hj)) rfl
     .refine zFQ f' ⟨i,Bx,(hf i Bx)▸hl,λj hj=>(he j hj).trans (hf j aC)⟩ _ (Cl.wf.apply (f' (n+1))) f' (λj _=>rfl) rfl
  exact⟨λf=>this f (ih.apply f) _ (Cl.wf.apply _) f (λ_ _=>rfl) rfl⟩
abbrev Mu:=Nat×(Nat->Cp)
def Mu.lt (x y:Mu):Prop:=∃i,i<=y.1/\Cl (x.2 i) (y.2 i)/\(∀j,j<i->x.2 j=y.2 j)/\(i≠0->x.1=y.1)
def Mu.wf:WellFounded Mu.lt:=by
 have:∀c,Acc Cl c->∀n (f:Nat->Cp),f 0=c->Acc Mu.lt (n,f):=by
  intro c hc
  induction hc with
  |intro c _ ih=>
   intro n f
   induction f using(Yw.wf n).induction with
   |_ f zAn=>
    intro hf;refine⟨_,λy h=>?_⟩;obtain⟨n',f'⟩:=y;obtain⟨i,hi,hl,he,hn⟩:=h;simp only at hi hl he hn;by_cases h0:i=0
    .subst h0
     exact ih _ (hf▸hl) n' f' rfl
    .have:=hn h0
     subst this;exact zAn f' ⟨i,hi,hl,he⟩ ((he 0 aC).trans hf)
 exact⟨λx=>this _ (Cl.wf.apply _) x.1 x.2 rfl⟩
def run_to {P:bR}{α:Type _}{r:α->α->Prop}(wf:WellFounded r)(Inv:α->zbg->lT->Prop)(Qb:zbg->lT->Prop)
 (h:∀μ m t,Inv μ m t->∃m' ops,stepT P m=(.next m',ops)/\(Qb m' (t++ops)\/∃μ',r μ' μ/\Inv μ' m' (t++ops))):
 ∀μ m t,Inv μ m t->∃n m' t',runNT P n m t=(.next m',t')/\Qb m' t':=by
 intro μ
 induction μ using wf.induction with
 |_ μ ih=>
  intro m t hI;obtain⟨m',ops,hs,hg|⟨μ',hr,zla⟩⟩:=h μ m t hI
  .exact⟨1,m',t++ops,by simp[runNT,hs],hg⟩
  .obtain⟨n,zIC,t',h1,h2⟩:=ih μ' hr m' (t++ops) zla
   exact⟨n+1,zIC,t',by rw[runNT_succ_next hs];exact h1,h2⟩
section
variable {L:Type}{P:bR}{ty:aM}{Wg:Nat}{A:jU L}{Fin:bC->aE->Prop}
variable {τ τ':cF}{w aI eW:aE}
def bT.refl:bT ty Wg τ w w:=⟨rfl,rfl,rfl,aV _,λ_ _=>rfl,id⟩
def bT.trans (h:bT ty Wg τ w aI)(k:bT ty Wg τ aI eW):bT ty Wg τ w eW:=
 ⟨k.tape.trans h.tape,k.os.trans h.os,k.output.trans h.output,eM h.size k.size,λb hb=>(k.keep b hb).trans (h.keep b hb),λx=>k.live (h.live x)⟩
def bT.mono (h:bT ty Wg τ w aI)(hs:∀b,τ'.own b\/τ'.still b->τ.own b\/τ.still b):bT ty Wg τ' w aI:=
 ⟨h.tape,h.os,h.output,h.size,λb hb=>h.keep b (hs b hb),h.live⟩
def zvZ (ty:aM)(Wg:Nat)(K:Bool->Ph L->Nat->cF->bC->aE->Prop):Prop:=
 ∀m ph d τ g w aI,K m ph d τ g w->bT ty Wg τ w aI->K m ph d τ g aI
variable {K:Bool->Ph L->Nat->cF->bC->aE->Prop}
def mE.rely (hK:zvZ ty Wg K){main:Bool}{l:L}{d:Nat}{g:bC}(h:mE P ty Wg A K main l d τ g w)(s:bT ty Wg τ w aI):mE P ty Wg A K main l d τ g aI:=by
 unfold mE at*;split
 .rename_i c ok pub nx e
  simp only[e] at h;obtain⟨ho,v,z,τ',h1,h2,h3,h4,L8,h5,h6⟩:=h
  exact⟨ho,v,z,τ',λeW lR=>h1 eW (s.trans lR),h2,h3,h4,L8,λa ha=>⟨(h5 a ha).1,(h5 a ha).2.1,(h5 a ha).2.2.1,(s.keep a (.inl (h5 a ha).1)).trans (h5 a ha).2.2.2⟩,
   hK _ _ _ _ _ _ _ h6 (s.mono λb hb=>hb.imp (h3 b) (λx=>h4▸x))⟩
 .rename_i c ok nx sh e
  simp only[e] at h;obtain⟨ho,z,b,h1,h2,h3⟩:=h;exact⟨ho,z,b,λeW lR=>h1 eW (s.trans lR),λv hv eW lR hg=>h2 v hv eW (s.trans lR) hg,λx=>hK _ _ _ _ _ _ _ (h3 x) s⟩
 .rename_i c nx e
  simp only[e] at h;exact⟨h.1,h.2.1,λeW lR=>h.2.2 eW (s.trans lR)⟩
 .rename_i nx e
  simp only[e] at h;exact λeW lR=>h eW (s.trans lR)
 .rename_i pub lc nx e
  simp only[e] at h;exact⟨h.1,λeW lR=>h.2 eW (s.trans lR)⟩
 .rename_i e
  simp only[e] at h;exact⟨h.1,h.2.1,λeW lR=>h.2.2.1 eW (s.trans lR),λeW lR=>h.2.2.2 eW (s.trans lR)⟩
 .rename_i e
  simp only[e] at h;exact λeW lR=>h eW (s.trans lR)
 .rename_i can e
  simp only[e] at h;obtain⟨l',h1,h2⟩:=h;exact⟨l',h1,hK _ _ _ _ _ _ _ h2 s⟩
def zQ.rely (hK:zvZ ty Wg K){main:Bool}{ph:Ph L}{d:Nat}{g:bC}(h:zQ P ty Wg A Fin K main ph d τ g w)(s:bT ty Wg τ w aI):zQ P ty Wg A Fin K main ph d τ g aI:=by
 cases ph with
 |gone=>exact h
 |quit l=>exact h
 |usr l=>exact mE.rely hK h s
 |l3 l=>exact⟨h.1,λeW lR=>h.2 eW (s.trans lR)⟩
 |w3=>exact⟨h.1,λeW lR=>h.2 eW (s.trans lR)⟩
 |w5=>exact⟨h.1,λeW lR=>h.2 eW (s.trans lR)⟩
 |rel l=>exact λeW lR=>h eW (s.trans lR)
 |l1 l=>exact λeW lR=>h eW (s.trans lR)
 |l2 l=>exact λeW lR=>h eW (s.trans lR)
 |w1 b=>exact λeW lR=>h eW (s.trans lR)
 |w2 v=>exact λeW lR=>h eW (s.trans lR)
 |w4=>exact λeW lR=>h eW (s.trans lR)
def Nt.rely {main:Bool}{ph:Ph L}{d:Nat}{g:bC}(h:Nt P ty Wg K main ph d τ g w)(s:bT ty Wg τ w aI):Nt P ty Wg K main ph d τ g aI:=by
 cases ph<;>first|exact h|exact λeW lR=>h eW (s.trans lR)
def o8.rely:∀{r:Rk} {main:Bool} {ph:Ph L} {d:Nat} {τ:cF} {g:bC} {w aI:aE},o8 P ty Wg A Fin r main ph d τ g w->bT ty Wg τ w aI->o8 P ty Wg A Fin r main ph d τ g aI:=by
 intro r
 induction r with
 |mk ι f ih=>
  intro main ph d τ g w aI h s;refine⟨h.1,h.2.imp (λx=>x.rely s) λx=>x.rely (λm ph d τ g w aI ⟨i,hi⟩ s=>⟨i,ih i hi s⟩) s⟩
end
def nD (l:Loc)(b:Nat):Prop:=match l with| .cell a=>a.block=b| .obj r=>r=b|_=>False
variable {l:Loc}{b:Nat}
def zbX (h:nD l b):l.isMemory=true:=by cases l<;>first|rfl|exact h.elim
def Lu {b':Nat}(h:nD l b)(h':nD l b'):b=b':=by cases l<;>first|exact h.symm.trans h'|exact h.elim
def Handed (Wg:Nat)(t:lT)(i:Nat):Prop:=∃r,t.act? r=some (.mark (.releaseMerge (stA Wg)))/\t.heard r/\Before t i r
variable {i:Nat}
def Handed.app {Wg:Nat}{t:lT}(u:lT)(h:Handed Wg t i):Handed Wg (t++u) i:=by
 obtain⟨r,h1,h2,h3⟩:=h;have hr:=zg9 h1;exact⟨r,by rw[zaZ hr];exact h1,(zno hr).2 h2,h3.app u⟩
structure TI (Wg n:Nat)(own pas:Nat->Nat->Prop)(live:Nat->Prop)(Shun:Loc->Prop)(B:Nat)(t:lT):Prop where
 clean:∀said,¬Race said t
 own:∀k b,live k->own k b->∀i a,touchAt t i=some a->nD a.loc b->M0 t k i
 pas:∀k b,live k->pas k b->∀i a,touchAt t i=some a->nD a.loc b->a.write=true->M0 t k i
 grp:∀i a,touchAt t i=some a->nD a.loc Wg->a.kind=.atomic\/(a.kind=.said/\t.g? i=some 0)
 all:∀i a,touchAt t i=some a->a.loc.isMemory=true->(∃k,live k/\M0 t k i)\/Handed Wg t i\/((Shun a.loc\/nD a.loc Wg)/\a.kind=.atomic)
 over:∀i g,t.g? i=some g->g≠0->t.counts i->(∃k,live k/\M0 t k i)\/Handed Wg t i\/∃j,t.g? j=some 0/\zg3 t i j
 norel:∀k,t.act? k≠some (.mark (.release (stA Wg)))
 low:∀op∈t,op.act.low B
 above:∀j,n<=j->iE t j=0
section
variable {Wg n:Nat}{own own' pas Yk:Nat->Nat->Prop}{live live':Nat->Prop}{Shun:Loc->Prop}{B B':Nat}{t:lT}
def zt8 (t:lT)(y:Tb):touchAt (t++ #[y]) t.size=y.act.touch? :=touchAt_of aP
variable {y:Tb}{a:Touch}
def Hh {t:lT}{i:Nat}(h:touchAt (t++ #[y]) i=some a):(i<t.size/\touchAt t i=some a)\/(i=t.size/\y.act.touch? =some a):=by
 obtain⟨op,ho,Mf⟩:=zhi h;rcases getElem?_append_cases ho with⟨hi,vG⟩|⟨hi,hu⟩
 .exact .inl ⟨hi,by rw[touchAt_of vG];exact Mf⟩
 .have aN:=Wt ho
  simp only[U0,Ej,pX,r8] at aN;have:i=t.size:=aC;subst this;rw[zt8] at h;exact .inr ⟨rfl,h⟩
def ztO {B:Nat}{x:MemAct}{b:Nat}(h:x.low B)(ht:x.touch? =some a)(hb:nD a.loc b):b<B:=by
 cases x with
 |access e=>
  simp only[qG,fY] at ht;subst ht;obtain⟨loc,wr,sy⟩:=e;cases loc<;>first|exact hb▸h|exact hb.elim
 |mark m=>cases m<;>simp only[qG,fY,reduceCtorEq] at ht<;>(subst ht;exact hb▸h)
 |_=>simp[qG] at ht
def TI.lowB (h:TI Wg n own pas live Shun B t){i:Nat}{b:Nat}(ht:touchAt t i=some a)(hb:nD a.loc b):b<B:=by
 obtain⟨op,ho,Mf⟩:=zhi ht;exact ztO (h.low op (zkR ho)) Mf hb
def TI.less (h:TI Wg n own pas live Shun B t)(ho:∀k b,live k->own' k b->own k b\/B<=b)(hp:∀k b,live k->Yk k b->pas k b\/own k b\/B<=b)(hB:B<=B'):TI Wg n own' Yk live Shun B' t:=
 ⟨
  h.clean,λk b hk hb i a ha hl=>(ho k b hk hb).elim (λx=>h.own k b hk x i a ha hl) (λx=>absurd (h.lowB ha hl) aC),
  λk b hk hb i a ha hl hw=>(hp k b hk hb).elim (λx=>h.pas k b hk x i a ha hl hw) (λx=>x.elim (λx=>h.own k b hk x i a ha hl) (λx=>absurd (h.lowB ha hl) aC)),
  h.grp,h.all,h.over,h.norel,λop hop=>zoX hB (h.low op hop),h.above⟩
def zeT {t:lT}{k:Nat}(hg:y.g=k):M0 (t++ #[y]) k t.size:=⟨t.size,y,aP,hg,.inl rfl⟩
def zeD {t:lT}{i g:Nat}(hg:(t++ #[y]).g? i=some g)(hc:(t++ #[y]).counts i):(i<t.size/\t.g? i=some g/\t.counts i)\/(i=t.size/\y.g=g):=by
 obtain⟨x,hx,sJ⟩:=hc;have aN:i<(t++ #[y]).size:=by
  unfold C6 at hg;obtain⟨z,hz,_⟩:=xB.1 hg;exact Wt hz
 simp only[U0,Ej,pX,r8] at aN;rcases mY i t.size with hi|hi
 .refine .inl ⟨hi,by rw[Si hi] at hg;exact hg,x,?_,sJ.1,sJ.2.imp id λz=>(zno hi).1 z⟩
  rw[zaZ hi] at hx;exact hx
 .have:i=t.size:=aC
  subst this;refine .inr ⟨rfl,?_⟩;simpa[C6] using hg
def TI.push (h:TI Wg n own pas live Shun B t){k:Nat}(hk:live k)(sV:k<n)(hg:y.g=k)
 (ht:∀a,y.act.touch? =some a->(∃b,b≠Wg/\nD a.loc b/\(own k b\/(pas k b/\a.write=false))/\∀k',live k'->k'≠k->¬own k' b/\(a.write=true->¬pas k' b))\/(nD a.loc Wg/\(a.kind=.atomic\/(a.kind=.said/\k=0))/\∀k',live k'->¬own k' Wg/\¬pas k' Wg)\/a.loc.isMemory=false)
 (hr:y.act≠ .mark (.release (stA Wg))) (hl:y.act.low B):TI Wg n own pas live Shun B (t++ #[y]):=by
 refine⟨λsaid=>?_,λk' b cO hb i a ha jF=>?_,λk' b cO hb i a ha jF hw=>?_,λi a ha jF=>?_,λi a ha hm=>?_,λi g Eb aT hc=>?_,λi e=>?_,λop hop=>?_,λj hj=>?_⟩
 .refine zuI (g:=k) (h.clean said) (λop hop=>by simp at hop;rw[hop];exact hg) λi a ha op hop b hb hc=>?_
  have:op=y:=by simpa using hop
  subst this;obtain⟨Zw,zhy,jT,fR⟩:=hc;rcases ht b hb with⟨bl,mX,jF,O8,_⟩|⟨jF,If,_⟩|Hd
  .rcases O8 with O8|⟨O8,zC1⟩
   .exact h.own k bl hk O8 i a ha (Zw▸jF)
   .exact h.pas k bl hk O8 i a ha (Zw▸jF) (by simpa[zC1] using jT)
  .have D3:=h.grp i a ha (Zw▸jF)
   rcases If with If|⟨If,iR⟩
   .rw[If] at fR
    rcases D3 with D3|⟨D3,_⟩<;>rw[D3] at fR<;>simp at fR
   .rcases D3 with D3|⟨D3,Ri⟩
    .rw[D3,If] at fR;simp at fR
    .obtain⟨zxi,zqF,_⟩:=zhi ha
     have:zxi.g=0:=by simpa[C6,zqF] using Ri
     have:=knows_own zqF;rw[‹zxi.g=0›] at this;exact iR▸this
  .rw[Zw,Hd] at zhy;cases zhy
 .rcases Hh ha with⟨_,fN⟩|⟨rfl,fN⟩
  .exact(h.own k' b cO hb i a fN jF).app _
  .by_cases fR:k'=k
   .exact fR▸zeT hg
   .rcases ht a fN with⟨bl,mX,Dn,_,fP⟩|⟨Dn,_,fP⟩|Hd
    .exact absurd (Lu jF Dn▸hb) (fP k' cO fR).1
    .exact absurd (Lu jF Dn▸hb) (fP k' cO).1
    .rw[zbX jF] at Hd;cases Hd
 .rcases Hh ha with⟨_,fN⟩|⟨rfl,fN⟩
  .exact(h.pas k' b cO hb i a fN jF hw).app _
  .by_cases fR:k'=k
   .exact fR▸zeT hg
   .rcases ht a fN with⟨bl,mX,Dn,_,fP⟩|⟨Dn,_,fP⟩|Hd
    .exact absurd (Lu jF Dn▸hb) ((fP k' cO fR).2 hw)
    .exact absurd (Lu jF Dn▸hb) (fP k' cO).2
    .rw[zbX jF] at Hd;cases Hd
 .rcases Hh ha with⟨hi,fN⟩|⟨rfl,fN⟩
  .exact(h.grp i a fN jF).imp id λx=>⟨x.1,by rw[Si hi];exact x.2⟩
  .rcases ht a fN with⟨bl,mX,Dn,_,fP⟩|⟨Dn,If,_⟩|Hd
   .exact absurd (Lu Dn jF) mX
   .exact If.imp id λx=>⟨x.1,by simp[C6,hg,x.2]⟩
   .rw[zbX jF] at Hd;cases Hd
 .rcases Hh ha with⟨_,fN⟩|⟨rfl,fN⟩
  .rcases h.all i a fN hm with⟨k',cO,hkn'⟩|hh|hs
   .exact .inl ⟨k',cO,hkn'.app _⟩
   .exact .inr (.inl (hh.app _))
   .exact .inr (.inr hs)
  .exact .inl ⟨k,hk,zeT hg⟩
 .rcases zeD Eb hc with⟨hi,hgi',kS⟩|⟨rfl,hgi'⟩
  .rcases h.over i g hgi' aT kS with⟨k',cO,hkn'⟩|hh|⟨j,hj,hb⟩
   .exact .inl ⟨k',cO,hkn'.app _⟩
   .exact .inr (.inl (hh.app _))
   .refine .inr (.inr ⟨j,?_,hb_app _ hb⟩)
    have tY:j<t.size:=by
     unfold C6 at hj;obtain⟨z,hz,_⟩:=xB.1 hj;exact Wt hz
    rw[Si tY];exact hj
  .exact .inl ⟨k,hk,zeT hg⟩
 .have aN:=zg9 e
  simp only[U0,Ej,pX,r8] at aN;rcases mY i t.size with hi|hi
  .rw[zaZ hi] at e;exact h.norel i e
  .have:i=t.size:=aC
   subst this;exact hr (by simpa[zn5] using e)
 .rcases zr9.1 hop with hop|hop
  .exact h.low op hop
  .have:op=y:=by simpa using hop
   exact this▸hl
 .rw[Nv t (g':=k) aC _ (λop hop=>by simp at hop;rw[hop];exact hg)];exact h.above j hj
def TI.idle (h:TI Wg n own pas live Shun B t)(sV:y.g<n)
 (ht:∀a,y.act.touch? =some a->nD a.loc Wg/\a.kind=.atomic/\0<iE t y.g/\∀k',live k'->¬own k' Wg/\¬pas k' Wg)
 (hr:y.act≠ .mark (.release (stA Wg))) (hl:y.act.low B):TI Wg n own pas live Shun B (t++ #[y]):=by
 have zbW:∀a,y.act.touch? =some a->¬(t++ #[y]).heard t.size:=by
  rintro a ha ⟨g,hg,hd⟩;have:y.g=g:=by simpa[C6] using hg
  rw[zgj (aV _),<-this] at hd;have:=(ht a ha).2.2.1;unfold iE at this;omega
 refine⟨λsaid=>?_,λk' b cO hb i a ha jF=>?_,λk' b cO hb i a ha jF hw=>?_,λi a ha jF=>?_,λi a ha hm=>?_,λi g Eb aT hc=>?_,λi e=>?_,λop hop=>?_,λj hj=>?_⟩
 .refine zuI (g:=y.g) (h.clean said) (λop hop=>by simp at hop;rw[hop]) λi a ha op hop b hb hc=>?_
  have:op=y:=by simpa using hop
  subst this;obtain⟨Zw,zhy,jT,fR⟩:=hc;obtain⟨jF,If,_,_⟩:=ht b hb;have D3:=h.grp i a ha (Zw▸jF);rw[If] at fR;rcases D3 with D3|⟨D3,_⟩<;>rw[D3] at fR<;>simp at fR
 .rcases Hh ha with⟨_,fN⟩|⟨rfl,fN⟩
  .exact(h.own k' b cO hb i a fN jF).app _
  .obtain⟨Dn,_,_,fP⟩:=ht a fN
   exact absurd (Lu jF Dn▸hb) (fP k' cO).1
 .rcases Hh ha with⟨_,fN⟩|⟨rfl,fN⟩
  .exact(h.pas k' b cO hb i a fN jF hw).app _
  .obtain⟨Dn,_,_,fP⟩:=ht a fN
   exact absurd (Lu jF Dn▸hb) (fP k' cO).2
 .rcases Hh ha with⟨hi,fN⟩|⟨rfl,fN⟩
  .exact(h.grp i a fN jF).imp id λx=>⟨x.1,by rw[Si hi];exact x.2⟩
  .exact .inl (ht a fN).2.1
 .rcases Hh ha with⟨_,fN⟩|⟨rfl,fN⟩
  .rcases h.all i a fN hm with⟨k',cO,hkn'⟩|hh|hs
   .exact .inl ⟨k',cO,hkn'.app _⟩
   .exact .inr (.inl (hh.app _))
   .exact .inr (.inr hs)
  .exact .inr (.inr ⟨.inr (ht a fN).1,(ht a fN).2.1⟩)
 .obtain⟨x,hx,zfv,zAO⟩:=id hc
  rcases zeD Eb hc with⟨hi,hgi',kS⟩|⟨rfl,hgi'⟩
  .rcases h.over i g hgi' aT kS with⟨k',cO,hkn'⟩|hh|⟨j,hj,hb⟩
   .exact .inl ⟨k',cO,hkn'.app _⟩
   .exact .inr (.inl (hh.app _))
   .refine .inr (.inr ⟨j,?_,hb_app _ hb⟩)
    have tY:j<t.size:=by
     unfold C6 at hj;obtain⟨z,hz,_⟩:=xB.1 hj;exact Wt hz
    rw[Si tY];exact hj
  .have hy:y.act.touch? =some x:=by rw[<-zt8 t y];exact hx
   exact(zAO.elim (λz=>z (ht x hy).2.1) (zbW x hy)).elim
 .have aN:=zg9 e
  simp only[U0,Ej,pX,r8] at aN;rcases mY i t.size with hi|hi
  .rw[zaZ hi] at e;exact h.norel i e
  .have:i=t.size:=aC
   subst this;exact hr (by simpa[zn5] using e)
 .rcases zr9.1 hop with hop|hop
  .exact h.low op hop
  .have:op=y:=by simpa using hop
   exact this▸hl
 .rw[Nv t (g':=y.g) aC _ (λop hop=>by simp at hop;rw[hop])];exact h.above j hj
def TI.release (h:TI Wg n own pas live Shun B t){k:Nat}(sV:k<n)(hg:y.g=k)(hy:y.act=.mark (.releaseMerge (stA Wg)))(hd:iE t k=0)
 (zl4:Wg<B) (nA:∀j,live' j->live j) (I5:∀j,live j->live' j\/j=k):TI Wg n own pas live' Shun B (t++ #[y]):=by
 have h1:=h.idle (y:=y) aC (λa ha=>by rw[hy] at ha;simp[qG] at ha) (by rw[hy];simp) (by rw[hy];exact zl4);have Ct:(t++ #[y])[t.size]? =some y:=aP;have Cf:∀i,M0 t k i->Handed Wg (t++ #[y]) i:=λi hi=>
  ⟨t.size,by rw[act?_of Ct,hy],⟨k,by simp[C6,hg],by rw[zgj (aV _)];exact hd⟩,.inr (hi.hb_new (aV _) Ct hg)⟩
 have zeQ:Handed Wg (t++ #[y]) t.size:=⟨t.size,by rw[act?_of Ct,hy],⟨k,by simp[C6,hg],by rw[zgj (aV _)];exact hd⟩,.inl rfl⟩;refine⟨h1.clean,λk' b cO=>h1.own k' b (nA k' cO),λk' b cO=>h1.pas k' b (nA k' cO),h1.grp,λi a ha hm=>?_,λi g Eb aT hc=>?_,h1.norel,h1.low,h1.above⟩
 .rcases Hh ha with⟨_,fN⟩|⟨rfl,fN⟩
  .rcases h.all i a fN hm with⟨k',cO,hkn'⟩|hh|hs
   .rcases I5 k' cO with x|rfl
    .exact .inl ⟨k',x,hkn'.app _⟩
    .exact .inr (.inl (Cf i hkn'))
   .exact .inr (.inl (hh.app _))
   .exact .inr (.inr hs)
  .rw[hy] at fN;simp[qG] at fN
 .rcases zeD Eb hc with⟨hi,hgi',kS⟩|⟨rfl,hgi'⟩
  .rcases h.over i g hgi' aT kS with⟨k',cO,hkn'⟩|hh|⟨j,hj,hb⟩
   .rcases I5 k' cO with x|rfl
    .exact .inl ⟨k',x,hkn'.app _⟩
    .exact .inr (.inl (Cf i hkn'))
   .exact .inr (.inl (hh.app _))
   .refine .inr (.inr ⟨j,?_,hb_app _ hb⟩)
    have tY:j<t.size:=by
     unfold C6 at hj;obtain⟨z,hz,_⟩:=xB.1 hj;exact Wt hz
    rw[Si tY];exact hj
  .exact .inr (.inl zeQ)
def TI.fork (h:TI Wg n own pas live Shun B t){x:Tb}(h0:live 0)(zFd:0<n)(hx:x.g=0/\x.act=.go n)(hy:y.g=n/\y.act=.start)(hd:iE t 0=0)
 (nA:∀j,live' j↔(live j\/j=n)) (yX:¬live n) (My:∀k b,live k->k≠0->own' k b->own k b) (zjI:∀k b,live k->k≠0->Yk k b->pas k b)
 (ho:∀b,own' 0 b\/own' n b->own 0 b) (hp:∀b,Yk 0 b\/Yk n b->own 0 b\/pas 0 b):TI Wg (n+1) own' Yk live' Shun B (t++ #[x,y]):=by
 have zEq:=h.above n (aV _);have e2:t++ #[x,y]=(t++ #[x])++ #[y]:=by apply Ja;simp
 have hn:TI Wg (n+1) own pas live Shun B t:=⟨h.clean,h.own,h.pas,h.grp,h.all,h.over,h.norel,h.low,λj hj=>h.above j aC⟩;have h1:=hn.idle (y:=x) (by rw[hx.1];omega) (λa ha=>by rw[hx.2] at ha;simp[qG] at ha) (by rw[hx.2];simp) (by rw[hx.2];trivial);have h2:=h1.idle (y:=y) (by rw[hy.1];omega) (λa ha=>by rw[hy.2] at ha;simp[qG] at ha) (by rw[hy.2];simp) (by rw[hy.2];trivial);rw[<-e2] at h2;have old:∀{i:Nat} {a:Touch},touchAt (t++ #[x,y]) i=some a->touchAt t i=some a:=by
  intro i a ha;rw[e2] at ha;rcases Hh ha with⟨_,fN⟩|⟨_,fN⟩
  .rcases Hh fN with⟨_,ha''⟩|⟨_,ha''⟩
   .exact ha''
   .rw[hx.2] at ha'';simp[qG] at ha''
  .rw[hy.2] at fN;simp[qG] at fN
 have fk:∀{i:Nat},M0 t 0 i->M0 (t++ #[x,y]) n i:=λ{i} hi=>Go.ConcN.fork_knows hx hy hd zEq hi;refine⟨h2.clean,λk b hk hb i a ha jF=>?_,λk b hk hb i a ha jF hw=>?_,h2.grp,λi a ha hm=>?_,λi g Eb aT hc=>?_,h2.norel,h2.low,h2.above⟩
 .rcases(nA k).1 hk with cO|rfl
  .by_cases iR:k=0
   .subst iR;exact h2.own 0 b h0 (ho b (.inl hb)) i a ha jF
   .exact h2.own k b cO (My k b cO iR hb) i a ha jF
  .exact fk (h.own 0 b h0 (ho b (.inr hb)) i a (old ha) jF)
 .rcases(nA k).1 hk with cO|rfl
  .by_cases iR:k=0
   .subst iR
    exact(hp b (.inl hb)).elim (λz=>h2.own 0 b h0 z i a ha jF) (λz=>h2.pas 0 b h0 z i a ha jF hw)
   .exact h2.pas k b cO (zjI k b cO iR hb) i a ha jF hw
  .exact(hp b (.inr hb)).elim (λz=>fk (h.own 0 b h0 z i a (old ha) jF)) (λz=>fk (h.pas 0 b h0 z i a (old ha) jF hw))
 .exact(h2.all i a ha hm).imp (λ⟨k,hk,sV⟩=>⟨k,(nA k).2 (.inl hk),sV⟩) id
 .exact(h2.over i g Eb aT hc).imp (λ⟨k,hk,sV⟩=>⟨k,(nA k).2 (.inl hk),sV⟩) id
def TI.acquire (h:TI Wg n own pas live Shun B t)(zFd:0<n)(hg:y.g=0)(hy:y.act=.mark (.acquire (stA Wg)))(hd:iE t 0=0)(zl4:Wg<B)(I5:∀j,live j->j=0):
 Past (λl=>Shun l\/nD l Wg) B (t++ #[y])/\∀j,n<=j->iE (t++ #[y]) j=0:=by
 have h1:=h.idle (y:=y) aC (λa ha=>by rw[hy] at ha;simp[qG] at ha) (by rw[hy];simp) (by rw[hy];exact zl4);have Ct:(t++ #[y])[t.size]? =some y:=aP;have hh:(t++ #[y]).heard t.size:=⟨0,by simp[C6,hg],by rw[zgj (aV _)];exact hd⟩;have got:∀i,i<t.size->Handed Wg t i->zg3 (t++ #[y]) i t.size:=by
  rintro i hi ⟨r,kG,Wy,S7⟩;have Nl:=zg9 kG;have zHE:zg3 (t++ #[y]) r t.size:=.single (.inr ⟨.marked Nl (.inr (by rw[zaZ Nl];exact kG)) (by rw[act?_of Ct,hy]) (λk n9 vI=>h1.norel k),(zno Nl).2 Wy,hh⟩);exact(S7.app _).hb zHE
 have zFj:∀i,zg3 (t++ #[y]) i t.size->M0 (t++ #[y]) 0 i:=λi hb=>⟨t.size,y,Ct,hg,.inr hb⟩;refine⟨⟨h1.clean,λi a ha hm=>?_,λi g Eb aT hc=>?_,?_,h1.low⟩,h1.above⟩
 .rcases Hh ha with⟨hi,fN⟩|⟨rfl,fN⟩
  .rcases h.all i a fN hm with⟨k,hk,sV⟩|hh|hs
   .have:=I5 k hk;subst this;exact .inl (sV.app _)
   .exact .inl (zFj i (got i hi hh))
   .exact .inr hs
  .rw[hy] at fN;simp[qG] at fN
 .rcases zeD Eb hc with⟨hi,hgi',kS⟩|⟨rfl,hgi'⟩
  .rcases h.over i g hgi' aT kS with⟨k,hk,sV⟩|hh|⟨j,hj,hb⟩
   .have:=I5 k hk;subst this
    exact⟨t.size,by simp[C6,hg],sV.hb_new (aV _) Ct hg⟩
   .exact⟨t.size,by simp[C6,hg],got i hi hh⟩
   .refine⟨j,?_,hb_app _ hb⟩
    have tY:j<t.size:=by
     unfold C6 at hj;obtain⟨z,hz,_⟩:=xB.1 hj;exact Wt hz
    rw[Si tY];exact hj
  .exact absurd (hgi'.symm.trans hg) aT
 .rw[Deaf_push];simp[deafStep,hy,hd]
def TI.begin (hP:Past Shun B t)(hB:B<=B')(zbn:∀j,n<=j->iE t j=0)(nA:∀j,live j↔j=0)(ho:∀b,own 0 b\/pas 0 b->∀l,nD l b->¬Shun l)
 (hW:B<=Wg):TI Wg n own pas live Shun B' t:=by
 have nX:∀{i:Nat} {a:Touch} {b:Nat},touchAt t i=some a->nD a.loc b->b<B:=λ{i a b} ha hb=>by
  obtain⟨op,ho,Mf⟩:=zhi ha;exact ztO (hP.seen op (zkR ho)) Mf hb
 refine⟨hP.clean,λk b hk hb i a ha jF=>?_,λk b hk hb i a ha jF hw=>?_,λi a ha jF=>?_,λi a ha hm=>?_,λi g Eb aT hc=>.inr (.inr (hP.over i g Eb aT hc)),λk e=>?_,λop hop=>zoX hB (hP.seen op hop),zbn⟩
 .have:=(nA k).1 hk;subst this
  rcases hP.known i a ha (zbX jF) with x|⟨x,_⟩
  .exact x
  .exact absurd x (ho b (.inl hb) _ jF)
 .have:=(nA k).1 hk;subst this
  rcases hP.known i a ha (zbX jF) with x|⟨x,_⟩
  .exact x
  .exact absurd x (ho b (.inr hb) _ jF)
 .have:=nX ha jF;omega
 .exact(hP.known i a ha hm).imp (λx=>⟨0,(nA 0).2 rfl,x⟩) λx=>.inr ⟨.inl x.1,x.2⟩
 .obtain⟨op,ho,Mf⟩:=xB.1 e
  have:=hP.seen op (zkR ho);rw[Mf] at this;simp only[X0,stA] at this;omega
end
def upd_same {α:Type _}(f:Nat->α)(i:Nat)(x:α):bH f i x i=x:=by simp[bH]
def upd_ne {α:Type _}(f:Nat->α){j:Nat}(x:α)(h:j≠i):bH f i x j=f j:=by simp[bH,h]
section
variable {L:Type}
def Ph.live:Ph L->Prop| .usr _| .w1 _| .w2 _| .w3| .w4| .w5=>True|_=>False
def Ph.waits:Ph L->Prop| .w1 _| .w2 _| .w3| .w4| .w5=>True|_=>False
def Ph.pre:Ph L->Bool| .usr _| .rel _=>true|_=>false
def Ph.last:Ph L->Prop| .l1 _| .l2 _| .l3 _=>True|_=>False
structure Td (L:Type) where
 ph:Ph L
 r:Cp
 τ:cF
 g:bC
def oT (p:Nat->Ph L):Nat->Nat
 |0=>0
 |n+1=>oT p n+(if n≠0/\(p n).pre=true then 1 else 0)
def zY (A:jU L)(p:Nat->Ph L):Nat:=match p 0 with| .usr l=>if A.pend l then 1 else 0|_=>0
def vv (A:jU L)(p:Nat->Ph L)(n:Nat):Nat:=oT p n+zY A p
def gQ (A:jU L)(ty:aM)(Wg:Nat)(p:Nat->Ph L)(n:Nat)(w:aE):Prop:=
 match p 0 with
 | .usr _=>gD ty Wg w (vv A p n*KK) 0/\∀i,¬(p i).last
 | .w1 b=>gD ty Wg w (vv A p n*KK) 0/\(∀i,¬(p i).last)/\vv A p n<b
 | .w2 vs=>gD ty Wg w (vv A p n*KK) 0/\(∀i,¬(p i).last)/\vv A p n<=vs/\0<vs
 | .w3=>(0<vv A p n/\gD ty Wg w (vv A p n*KK+1) 0/\∀i,¬(p i).last)\/
  (vv A p n=0/\∃i l,(∀j,(p j).last->j=i)/\(((p i=.l1 l\/p i=.l2 l)/\gD ty Wg w 1 0)\/(p i=.l3 l/\gD ty Wg w 0 0)))\/
  (vv A p n=0/\(∀i,¬(p i).last)/\gD ty Wg w 0 1)
 | .w4| .w5=>vv A p n=0/\(∀i,¬(p i).last)/\gD ty Wg w 0 0
 |_=>False
def zpm (p:Nat->Ph L){i n:Nat}(x:Ph L)(h:n<=i):oT (bH p i x) n=oT p n:=by
 induction n with
 |zero=>rfl
 |succ n ih=>simp only[oT,ih aC,upd_ne p x (show n≠i by omega)]
def zdp (p:Nat->Ph L)(n:Nat)(x:Ph L):oT (bH p 0 x) n=oT p n:=by
 induction n with
 |zero=>rfl
 |succ n ih=>
  simp only[oT,ih];by_cases h:n=0
  .simp[h]
  .rw[upd_ne p x h]
def zdT (p:Nat->Ph L){i n:Nat}(x:Ph L)(h:i<n)(h0:i≠0):oT (bH p i x) n+(if(p i).pre=true then 1 else 0)=oT p n+(if x.pre=true then 1 else 0):=by
 induction n with
 |zero=>omega
 |succ n ih=>
  simp only[oT];by_cases hi:i=n
  .subst hi
   rw[zpm p x (aV _),upd_same];simp only[ne_eq,h0,not_false_eq_true,true_and];omega
  .have:=ih aC
   rw[upd_ne p x (λe=>hi e.symm)];omega
def pre_le (ph:Ph L)(q:Prop)[Decidable q]:(if q/\ph.pre=true then 1 else 0)<=ph.proj.c:=by
 cases ph<;>simp[Ph.pre,Ph.proj,Pj.c]
 all_goals(split<;>omega)
def zCP (A:jU L)(p:Nat->Ph L)(n:Nat)(h:0<n):vv A p n<=num (λi=>(p i).proj) n:=by
 have key:∀n,0<n->oT p n+(p 0).proj.c<=num (λi=>(p i).proj) n:=by
  intro n
  induction n with
  |zero=>omega
  |succ n ih=>
   intro _;by_cases hn:n=0
   .subst hn;simp[oT,num]
   .have:=ih aC
    have h2:=pre_le (p n) (n≠0);simp only[oT,num];omega
 have h1:=key n h;have h2:zY A p<=(p 0).proj.c:=by
  unfold zY;cases p 0<;>simp only[Ph.proj,Pj.c]<;>first|omega|(split<;>omega)
 unfold vv;omega
def lS (x g:bC):Prop:=x.status=.running/\x.frame=g.frame/\x.callers=g.callers/\x.dying=g.dying
def lS.self {g:bC}(h:g.status=.running):lS g g:=⟨h,rfl,rfl,rfl⟩
def lS.step {P:bR}{main:Bool}{x g:bC}(h:lS x g)(w:aE):stepG P main x w=stepG P main g w:=stepG_same h.2.1 h.2.2.1 h.2.2.2 w
variable (P:bR)(ty:aM)(Wg:Nat)(A:jU L)(Fin:bC->aE->Prop)
def zgc (main:Bool)(T:Td L)(x:bC)(w:aE):Prop:=
 ∃l cs sh,T.ph=.usr l/\x=parked T.g cs sh/\(∀aI,bT ty Wg T.τ w aI->stepG P main T.g aI=.comm T.g cs true sh aI #[])/\
  ((∃c ok pub nx v z,A.act l=.send c ok pub nx/\cs=#[scase c v z]/\sh=.send)\/(∃c ok nx s z b,A.act l=.recv c ok nx s/\cs=#[rcase c z]/\sh=.recv b))
def zmF (T:Td L)(x:bC):Prop:=T.ph=.w3/\x={T.g with status:=.blocked}/\T.g.offers=none
def Sits (i:Nat)(T:Td L)(d:Nat)(x:bC)(w:aE):Prop:=
 match T.ph with
 | .gone| .quit _=>∃q,T.r=.inl q/\QuitsD P q d x
 |_=>∃r,T.r=.inr r/\o8 P ty Wg A Fin r (i==0) T.ph d T.τ T.g w/\(lS x T.g\/zgc P ty Wg A (i==0) T x w\/zmF T x)
def Ph.leaves:Ph L->Prop| .gone| .quit _=>True|_=>False
def G4 {P:bR}{ty:aM}{Wg:Nat}{A:jU L}{Fin:bC->aE->Prop}{i:Nat}{T:Td L}{d:Nat}{x:bC}{w:aE}(h:T.ph.leaves):
 Sits P ty Wg A Fin i T d x w↔∃q,T.r=.inl q/\QuitsD P q d x:=by
 obtain⟨ph,r,τ,g⟩:=T;cases ph<;>first|exact Iff.rfl|exact h.elim
def pL {P:bR}{ty:aM}{Wg:Nat}{A:jU L}{Fin:bC->aE->Prop}{i:Nat}{T:Td L}{d:Nat}{x:bC}{w:aE}(h:¬T.ph.leaves):
 Sits P ty Wg A Fin i T d x w↔∃r,T.r=.inr r/\o8 P ty Wg A Fin r (i==0) T.ph d T.τ T.g w/\(lS x T.g\/zgc P ty Wg A (i==0) T x w\/zmF T x):=by
 obtain⟨ph,r,τ,g⟩:=T;cases ph<;>first|exact Iff.rfl|exact absurd trivial h
variable {P:bR}{ty:aM}{Wg:Nat}{A:jU L}{Fin:bC->aE->Prop}
def zpX (a a' g:bC)(cs:Array zjp)(sh:Nz)(w:aE):woken P a a' w (parked g cs sh)=parked g cs sh\/woken P a a' w (parked g cs sh)={parked g cs sh with status:=.running}:=by
 unfold woken;split
 .unfold zfz
  simp only[parked];split
  .exact .inr rfl
  .exact .inl rfl
 .exact .inl rfl
def woken_running {a a' x:bC}{w:aE}(h:x.status=.running):woken P a a' w x=x:=woken_run h
def Sits.other {i:Nat}{T:Td L}{d:Nat}{x:bC}{w w':aE}(h:Sits P ty Wg A Fin i T d x w)(s:bT ty Wg T.τ w w')(a a':bC):Sits P ty Wg A Fin i T d (woken P a a' w' x) w':=by
 by_cases hl:T.ph.leaves
 .rw[G4 hl] at h⊢
  obtain⟨q,hq,hQ⟩:=h;exact⟨q,hq,by rw[zlg hQ];exact hQ⟩
 .rw[pL hl] at h⊢
  obtain⟨r,hr,hB,hx⟩:=h;refine⟨r,hr,hB.rely s,?_⟩;rcases hx with hx|⟨l,cs,sh,h1,rfl,h3,h4⟩|⟨h1,rfl,h3⟩
  .rw[woken_running hx.1];exact .inl hx
  .rcases zpX (P:=P) a a' T.g cs sh w' with e|e
   .rw[e];exact .inr (.inl ⟨l,cs,sh,h1,rfl,λaI jA=>h3 aI (s.trans jA),h4⟩)
   .rw[e];exact .inl ⟨rfl,rfl,rfl,rfl⟩
  .unfold woken
   split
   .left
    simp only[zfz,h3];exact⟨rfl,rfl,rfl,rfl⟩
   .exact .inr (.inr ⟨h1,rfl,h3⟩)
def Sits.rely {i:Nat}{T:Td L}{d:Nat}{x:bC}{w w':aE}(h:Sits P ty Wg A Fin i T d x w)(s:bT ty Wg T.τ w w'):Sits P ty Wg A Fin i T d x w':=by
 by_cases hl:T.ph.leaves
 .rw[G4 hl] at h⊢;exact h
 .rw[pL hl] at h⊢
  obtain⟨r,hr,hB,hx⟩:=h;refine⟨r,hr,hB.rely s,hx.imp id (Or.imp ?_ id)⟩;rintro⟨l,cs,sh,h1,h2,h3,h4⟩;exact⟨l,cs,sh,h1,h2,λaI jA=>h3 aI (s.trans jA),h4⟩
def Sits.status {i:Nat}{T:Td L}{d:Nat}{x:bC}{w:aE}(h:Sits P ty Wg A Fin i T d x w):x.status=.running\/x.status=.finished\/x.status=.blocked:=by
 by_cases hl:T.ph.leaves
 .rw[G4 hl] at h
  obtain⟨q,hq,hQ⟩:=h;exact hQ.status.imp id .inl
 .rw[pL hl] at h
  obtain⟨r,hr,hB,hx|⟨l,cs,sh,h1,rfl,h3,h4⟩|⟨h1,rfl,h3⟩⟩:=h
  .exact .inl hx.1
  .exact .inr (.inr rfl)
  .exact .inr (.inr rfl)
structure Stat (n:Nat)(w:aE)(T:Nat->Td L)(ch:rC):Prop where
 n0:0<n
 ou:∀i,n<=i->(T i).ph=.gone
 role0:(T 0).ph.live
 role:∀i,i≠0->¬(T i).ph.waits
 nil:∀i,(T i).ph=.gone->∀b,¬(T i).τ.own b/\¬(T i).τ.still b/\¬(T i).τ.pass b
 sep:∀i j b,i≠j->(T i).τ.own b->¬(T j).τ.own b/\¬(T j).τ.still b/\¬(T j).τ.pass b
 bnd:∀i b,(T i).τ.own b\/(T i).τ.still b->b<w.heap.size/\b≠Wg/\ch b=none
 pas:∀i b,(T i).τ.pass b->b<w.heap.size/\b≠Wg
 depo:∀i l,(T i).ph.proj=.over l->∀aI,bT ty Wg (T i).τ w aI->A.dep l aI
 chan:∀c b,ch c=some b->c≠Wg/\∃s r,w.heap[c]? =some (.chan 0 #[] b s r false)
 grp:gQ A ty Wg (λi=>(T i).ph) n w
 inv:A.Inv (λi=>(T i).ph.proj) ch
structure Fc (gs:Array bC)(w:aE)(t:lT)(T:Nat->Td L)(ch:rC)(Shun:Loc->Prop):Prop where
 sit:∀(i:Nat) (x:bC),gs[i]? =some x->Sits P ty Wg A Fin i (T i) (iE t i) x w
 slp:∀(i j:Nat) (gi gj:bC) (c:Nat) (v z z':aF) (sh wZ:Nz),gs[i]? =some (parked gi #[scase c v z] sh)->gs[j]? =some (parked gj #[rcase c z'] wZ)->False
 slpC:∀(i:Nat) (gi:bC) (c:Nat) (z:aF) (sh:Nz),gs[i]? =some (parked gi #[rcase c z] sh)->ch c≠some true
 slpW:∀(x:bC),gs[0]? =some x->(T 0).ph=.w3->x.status=.blocked->¬gD ty Wg w 0 1
 tr:TI Wg gs.size (λi=>(T i).τ.own) (λi b=>(T i).τ.still b\/(T i).τ.pass b) (λi=>(T i).ph.live) Shun w.heap.size t
def Nf (g:bC):Bool:=match g.status with| .running=>true|_=>false
def mu (gs:Array bC)(T:Nat->Td L):Mu:=(gs.size,λj=>if j<gs.size then(T j).r else .inl (gs.countP Nf))
end
section
variable {L:Type}{P:bR}{ty:aM}{Wg:Nat}{A:jU L}{Fin:bC->aE->Prop}
variable {fn:aO}{pos:String}{es:Array oL}
def zCV {g:Nat}{op:Tb}(h:op∈wC g fn pos es):op.g=g:=by
 rw[Xi] at h;obtain⟨e,he,rfl⟩:=Array.mem_map.1 h;rfl
def Og (Wg:Nat)(own pas:Nat->Prop)(k B:Nat)(e:oL):Prop:=
 (∀a,(jJ e).touch? =some a->(∃b,b≠Wg/\nD a.loc b/\(own b\/(pas b/\a.write=false)))\/(nD a.loc Wg/\(a.kind=.atomic\/(a.kind=.said/\k=0)))\/a.loc.isMemory=false)/\
 jJ e≠ .mark (.release (stA Wg))/\(jJ e).low B
def TI.events {n:Nat}{own pas:Nat->Nat->Prop}{live:Nat->Prop}{Shun:Loc->Prop}{B:Nat}{k:Nat}(hk:live k)(sV:k<n)
 (hs:∀k' b,live k'->k'≠k->own k b->¬own k' b/\¬pas k' b) (hp:∀k' b,live k'->k'≠k->pas k b->¬own k' b) (hW:∀k',live k'->¬own k' Wg/\¬pas k' Wg)
 (fn:aO) (pos:String):∀(es:List oL) {t:lT},TI Wg n own pas live Shun B t->(∀e∈es,Og Wg (own k) (pas k) k B e)->TI Wg n own pas live Shun B (t++wC k fn pos es.toArray)
 |[],t,h,_=>by simpa[wC] using h
 |e::es,t,h,xM=>by
  have e1:t++wC k fn pos (e::es).toArray=(t++ #[{g:=k,fn,pos,act:=.ofEvent e}])++wC k fn pos es.toArray:=by
   rw[Xi,Xi];apply Ja;simp
  rw[e1];obtain⟨h1,h2,h3⟩:=xM e aP;refine TI.events hk sV hs hp hW fn pos es (h.push hk sV rfl (λa ha=>?_) h2 h3) λe' Mw=>xM e' (by simp[Mw]);rcases h1 a ha with⟨b,hb,jF,O8⟩|⟨jF,If⟩|hm
  .refine .inl ⟨b,hb,jF,O8,λk' cO aT=>?_⟩
   rcases O8 with ho|⟨zjI,hw⟩
   .exact⟨(hs k' b cO aT ho).1,λ_=>(hs k' b cO aT ho).2⟩
   .exact⟨hp k' b cO aT zjI,λx=>by rw[hw] at x;cases x⟩
  .exact .inr (.inl ⟨jF,If,hW⟩)
  .exact .inr (.inr hm)
variable {e:oL}
def zBr {own still pas:Nat->Prop}{k B:Nat}(h:EvT Wg (k==0) own still e)(Jp:∀b,still b->pas b)(hb:∀b,own b\/still b->b<B/\b≠Wg)(hW:Wg<B):Og Wg own pas k B e:=by
 obtain⟨loc,w,sy⟩:=e
 cases loc with
 |cell a=>
  simp only[EvT] at h;refine⟨λx hx=>?_,by simp[jJ],?_⟩
  .simp only[jJ,qG,fY] at hx
   subst hx;exact .inl ⟨a.block,(hb _ (h.imp id (·.1))).2,rfl,h.imp id λx=>⟨Jp _ x.1,x.2⟩⟩
  .exact(hb _ (h.imp id (·.1))).1
 |obj r=>
  simp only[EvT] at h
  cases w<;>cases sy<;>refine⟨λx hx=>?_,by simp[jJ],(hb _ (h.imp id (·.1))).1⟩<;>simp only[jJ,qG,fY,reduceCtorEq] at hx<;>
   (subst hx;exact .inl ⟨r,(hb _ (h.imp id (·.1))).2,rfl,h.imp id λx=>⟨Jp _ x.1,x.2⟩⟩)
 |output=>exact h.elim
 |goroutines=>exact h.elim
 |mark m=>
  cases m<;>simp only[EvT] at h<;>try exact h.elim
  case read a=>
   refine⟨λx hx=>?_,by simp[jJ],by simpa[jJ,X0,h.2] using hW⟩;simp only[jJ,qG,fY] at hx;subst hx;exact .inr (.inl ⟨h.2,.inr ⟨rfl,by simpa using h.1⟩⟩)
  case write a=>
   refine⟨λx hx=>?_,by simp[jJ],by simpa[jJ,X0,h.2] using hW⟩;simp only[jJ,qG,fY] at hx;subst hx;exact .inr (.inl ⟨h.2,.inr ⟨rfl,by simpa using h.1⟩⟩)
  all_goals exact⟨λx hx=>by simp[jJ,qG] at hx,by simp[jJ],by simp[jJ,X0]⟩
def zds {own pas:Nat->Prop}{k B:Nat}{a:bL}{b:Bool}(ha:a.block=Wg)(hW:Wg<B):Og Wg own pas k B ⟨.cell a,b,true⟩:=by
 refine⟨λx hx=>?_,by simp[jJ],by simpa[jJ,X0,Loc.low,ha] using hW⟩;simp only[jJ,qG,fY] at hx;subst hx;exact .inr (.inl ⟨ha,.inl rfl⟩)
def zgJ {own pas:Nat->Prop}{k B:Nat}(h:e.mute=true):Og Wg own pas k B e:=by
 refine⟨λx hx=>(by rw[zic h] at hx;cases hx),?_,low_mute h B⟩;obtain⟨loc,w,sy⟩:=e;cases loc<;>simp_all [zem];rename_i m;cases m<;>simp_all [jJ]
def TI.deafs {n:Nat}{own pas:Nat->Nat->Prop}{live:Nat->Prop}{Shun:Loc->Prop}{B:Nat}{k:Nat}(sV:k<n)(hW:∀k',live k'->¬own k' Wg/\¬pas k' Wg)
 (fn:aO) (pos:String):∀(es:List oL) {t:lT},TI Wg n own pas live Shun B t->
  (∀(l r:List oL) (e:oL),es=l++e::r->(∀a,(jJ e).touch? =some a->nD a.loc Wg/\a.kind=.atomic/\0<n6 (iE t k) l.toArray)/\jJ e≠ .mark (.release (stA Wg))/\(jJ e).low B)->
  TI Wg n own pas live Shun B (t++wC k fn pos es.toArray)
 |[],t,h,_=>by simpa[wC] using h
 |e::es,t,h,xM=>by
  have e1:t++wC k fn pos (e::es).toArray=(t++ #[{g:=k,fn,pos,act:=.ofEvent e}])++wC k fn pos es.toArray:=by
   rw[Xi,Xi];apply Ja;simp
  rw[e1];obtain⟨h1,h2,h3⟩:=xM [] es e rfl;refine TI.deafs sV hW fn pos es (h.idle sV (λa ha=>⟨(h1 a ha).1,(h1 a ha).2.1,(h1 a ha).2.2,hW⟩) h2 h3) λl r e' Mw=>?_;have hd:iE (t++ #[({g:=k,fn,pos,act:=.ofEvent e}:Tb)]) k=n6 (iE t k) #[e]:=by
   have:=Deaf_own t k fn pos #[e];rw[Xi] at this;simpa using this
  have:=xM (e::l) r e' (by rw[Mw];rfl);rw[hd];refine⟨λa ha=>⟨(this.1 a ha).1,(this.1 a ha).2.1,?_⟩,this.2⟩;have h5:=(this.1 a ha).2.2
  rwa [zoa] at h5
variable {t:lT}
def TI.mutes {n:Nat}{own pas:Nat->Nat->Prop}{live:Nat->Prop}{Shun:Loc->Prop}{B:Nat}{k:Nat}(h:TI Wg n own pas live Shun B t)(sV:k<n)(hW:∀k',live k'->¬own k' Wg/\¬pas k' Wg)
 (fn:aO) (pos:String)  (xM:∀e∈es,zem e=true):TI Wg n own pas live Shun B (t++wC k fn pos es):=by
 obtain⟨l⟩:=es;refine h.deafs sV hW fn pos l λx r e he=>?_;have hm:=xM e (by simp[he]);have:=zgJ (Wg:=Wg) (own:=own k) (pas:=pas k) (k:=k) (B:=B) hm;exact⟨λa ha=>(by rw[zic hm] at ha;cases ha),this.2.1,this.2.2⟩
def Yl {gs gs':Array bC}{T T':Nat->Td L}{i:Nat}(hs:i≠0->gs'.size=gs.size)(h0:0<gs'.size)(hi:i<gs.size)(gT:i<gs'.size)(hc:Cl (T' i).r (T i).r)(he:∀j,j<i->(T' j).r=(T j).r):Mu.lt (mu gs' T') (mu gs T):=by
 refine⟨i,by simp only[mu];omega,?_,λj hj=>?_,λh=>by simpa[mu] using hs h⟩
 .simp only[mu,if_pos hi,if_pos gT];exact hc
 .simp only[mu,if_pos (show j<gs.size by omega),if_pos (show j<gs'.size by omega)];exact he j hj
def zHk {gs gs':Array bC}{T:Nat->Td L}(hs:gs'.size=gs.size)(hc:gs'.countP Nf<gs.countP Nf):Mu.lt (mu gs' T) (mu gs T):=by
 refine⟨gs.size,by simp[mu],?_,λj hj=>?_,λh=>by simpa[mu] using hs⟩
 .simp only[mu,hs,Bt,if_false]
  exact .inl hc
 .simp only[mu,hs,if_pos hj]
def Fc.go {gs:Array bC}{w w':aE}{T:Nat->Td L}{ch tV:rC}{Shun:Loc->Prop}(h:Fc (P:=P) (ty:=ty) (Wg:=Wg) (A:=A) (Fin:=Fin) gs w t T ch Shun){i:Nat}{x g':bC}{Ti:Td L}
 (hi:gs[i]? =some x) (znC:Sits P ty Wg A Fin i Ti (n6 (iE t i) es) g' w') (nJ:g'.status≠ .blocked) (zlw:∀j,j≠i->bT ty Wg (T j).τ w w')
 (hC:∀(j:Nat) (gj:bC) (c:Nat) (z:aF) (sh:Nz),gs[j]? =some (parked gj #[rcase c z] sh)->woken P x g' w' (parked gj #[rcase c z] sh)=parked gj #[rcase c z] sh->tV c≠some true)
 (hW:i≠0->∀x0,gs[0]? =some x0->(T 0).ph=.w3->x0.status=.blocked->(woken P x g' w' x0).status=.blocked->¬gD ty Wg w' 0 1)
 (zjB:TI Wg gs.size (λk=>(bH T i Ti k).τ.own) (λk b=>(bH T i Ti k).τ.still b\/(bH T i Ti k).τ.pass b) (λk=>(bH T i Ti k).ph.live) Shun w'.heap.size (t++wC i fn pos es)):
 Fc (P:=P) (ty:=ty) (Wg:=Wg) (A:=A) (Fin:=Fin) ((gs.map (woken P x g' w')).setIfInBounds i g') w' (t++wC i fn pos es) (bH T i Ti) tV Shun:=by
 have aN:=(dQ.1 hi).1;have get:∀(j:Nat) (y:bC),((gs.map (woken P x g' w')).setIfInBounds i g')[j]? =some y->(j=i/\y=g')\/(j≠i/\∃y0,gs[j]? =some y0/\y=woken P x g' w' y0):=by
  intro j y hj;by_cases eT:i=j
  .subst eT
   rw[Lx (by simpa using aN)] at hj;exact .inl ⟨rfl,(cE hj).symm⟩
  .rw[jP eT,xL] at hj
   obtain⟨y0,h0,rfl⟩:=xB.1 hj;exact .inr ⟨λe=>eT e.symm,y0,h0,rfl⟩
 have back:∀(j:Nat) (gj:bC) (cs:Array zjp) (sh:Nz),((gs.map (woken P x g' w')).setIfInBounds i g')[j]? =some (parked gj cs sh)->gs[j]? =some (parked gj cs sh)/\woken P x g' w' (parked gj cs sh)=parked gj cs sh:=by
  intro j gj cs sh hj;rcases get j _ hj with⟨_,e⟩|⟨aT,y0,h0,e⟩
  .exact absurd (by rw[<-e];rfl) nJ
  .have hs:=h.sit j y0 h0
   by_cases hl:(T j).ph.leaves
   .rw[G4 hl] at hs
    obtain⟨q,_,hQ⟩:=hs;rw[zlg hQ] at e;have:=hQ.status;rw[<-e] at this;simp[parked] at this
   .rw[pL hl] at hs
    obtain⟨r,_,_,hx|⟨l,Xz,wZ,_,rfl,_,_⟩|⟨_,rfl,ho⟩⟩:=hs
    .rw[woken_running hx.1] at e
     have:=hx.1;rw[<-e] at this;simp[parked] at this
    .rcases zpX (P:=P) x g' (T j).g Xz wZ w' with e2|e2
     .rw[e2] at e;rw[h0,e,e2];exact⟨rfl,rfl⟩
     .rw[e2] at e
      have:(parked gj cs sh).status=.running:=by rw[e]
      simp[parked] at this
    .have:(parked gj cs sh).offers=none:=by
      rw[e];unfold woken;split
      .simp[zfz,ho]
      .exact ho
     simp[parked] at this
 refine⟨λj y hj=>?_,λa b ga gb c v z z' sh wZ ha hb=>?_,λj gj c z sh hj=>?_,λy hy xG aY=>?_,by simpa using zjB⟩
 .rcases get j y hj with⟨rfl,rfl⟩|⟨aT,y0,h0,rfl⟩
  .rw[upd_same,Deaf_own];exact znC
  .rw[upd_ne T Ti aT,Nv t (g':=i) (λe=>aT e.symm) (wC i fn pos es) (λop hop=>zCV hop)]
   exact(h.sit j y0 h0).other (zlw j aT) _ _
 .exact h.slp a b ga gb c v z z' sh wZ (back a ga _ _ ha).1 (back b gb _ _ hb).1
 .exact hC j gj c z sh (back j gj _ _ hj).1 (back j gj _ _ hj).2
 .rcases get 0 y hy with⟨e,rfl⟩|⟨aT,y0,h0,rfl⟩
  .exact absurd aY nJ
  .rw[upd_ne T Ti aT] at xG
   have hb:y0.status=.blocked:=by
    rcases(h.sit 0 y0 h0).status with hs|hs|hs
    .rw[woken_running hs,hs] at aY;cases aY
    .unfold woken at aY
     split at aY
     .rw[again_running _ (.inr hs),hs] at aY;cases aY
     .rw[hs] at aY;cases aY
    .exact hs
   exact hW (λe=>aT e.symm) y0 h0 xG hb aY
end
section
variable {L:Type}{P:bR}{ty:aM}{Wg:Nat}{A:jU L}{Fin:bC->aE->Prop}
def bT.of_aside {τ:cF}{c:Nat}{w w':aE}(h:J4 c w w')(hc:¬τ.own c/\¬τ.still c)(hl:WgLive ty Wg w->WgLive ty Wg w'):bT ty Wg τ w w':=
 ⟨h.tape,h.os,h.output,Nat.le_of_eq h.size.symm,λb hb=>h.block b (λe=>by subst e;exact hb.elim hc.1 hc.2),hl⟩
def Wo {c:Nat}{w w':aE}(h:J4 c w w')(hc:c≠Wg):WgLive ty Wg w->WgLive ty Wg w':=λ⟨a,b,x⟩=>⟨a,b,(h.block Wg (λe=>hc e.symm)).trans x⟩
def gQ.live {p:Nat->Ph L}{n:Nat}{w:aE}(h:gQ A ty Wg p n w):WgLive ty Wg w:=by
 unfold gQ at h;split at h
 .exact⟨_,_,h.1⟩
 .exact⟨_,_,h.1⟩
 .exact⟨_,_,h.1⟩
 .rcases h with⟨_,h,_⟩|⟨_,_,_,_,⟨_,h⟩|⟨_,h⟩⟩|⟨_,_,h⟩<;>exact⟨_,_,h⟩
 .exact⟨_,_,h.2.2⟩
 .exact⟨_,_,h.2.2⟩
 .exact h.elim
def WgLive.lt {w:aE}(h:WgLive ty Wg w):Wg<w.heap.size:=by
 obtain⟨_,_,h⟩:=h;exact(dQ.1 h).1
def gQ.of_block {p:Nat->Ph L}{n:Nat}{w w':aE}(h:gQ A ty Wg p n w)(e:w'.heap[Wg]? =w.heap[Wg]?):gQ A ty Wg p n w':=by
 have key:∀a b,gD ty Wg w a b->gD ty Wg w' a b:=λa b x=>e.trans x;unfold gQ at*;split
 all_goals(rename_i hp;simp only[hp] at h)
 .exact⟨key _ _ h.1,h.2⟩
 .exact⟨key _ _ h.1,h.2⟩
 .exact⟨key _ _ h.1,h.2⟩
 .exact h.imp (λx=>⟨x.1,key _ _ x.2.1,x.2.2⟩) (Or.imp (λ⟨a,i,l,b,c⟩=>⟨a,i,l,b,c.imp (λx=>⟨x.1,key _ _ x.2⟩) (λx=>⟨x.1,key _ _ x.2⟩)⟩) λx=>⟨x.1,x.2.1,key _ _ x.2.2⟩)
 .exact⟨h.1,h.2.1,key _ _ h.2.2⟩
 .exact⟨h.1,h.2.1,key _ _ h.2.2⟩
def Vk (T:Nat->Td L)(i:Nat)(Ti:Td L):(λj=>(bH T i Ti j).ph.proj)=bH (λj=>(T j).ph.proj) i Ti.ph.proj:=by
 funext j;by_cases h:j=i
 .subst h;simp[upd_same]
 .simp[upd_ne _ _ h]
def Yu (T:Nat->Td L)(i:Nat)(Ti:Td L):(λj=>(bH T i Ti j).ph)=bH (λj=>(T j).ph) i Ti.ph:=by
 funext j;by_cases h:j=i
 .subst h;simp[upd_same]
 .simp[upd_ne _ _ h]
def zeY {α:Type _}(f:Nat->α)(i:Nat):bH f i (f i)=f:=by
 funext j;by_cases h:j=i
 .subst h;simp[upd_same]
 .simp[upd_ne _ _ h]
variable {ch:rC}
def Stat.same {n:Nat}{w:aE}{T T':Nat->Td L}(h:Stat (ty:=ty) (Wg:=Wg) (A:=A) n w T ch)(hp:∀j,(T' j).ph=(T j).ph)(ht:∀j,(T' j).τ=(T j).τ):Stat (ty:=ty) (Wg:=Wg) (A:=A) n w T' ch:=by
 have e1:(λj=>(T' j).ph)=λj=>(T j).ph:=funext hp;have e2:(λj=>(T' j).ph.proj)=λj=>(T j).ph.proj:=funext λj=>by rw[hp]
 refine⟨h.n0,λi hi=>(hp i).trans (h.ou i hi),by rw[hp];exact h.role0,λi hi=>by rw[hp];exact h.role i hi,λi hi=>by rw[ht];rw[hp] at hi;exact h.nil i hi,λi j b rH hb=>by rw[ht] at hb⊢;exact h.sep i j b rH hb,
  λi b hb=>by rw[ht] at hb;exact h.bnd i b hb,λi b hb=>by rw[ht] at hb;exact h.pas i b hb,λi l hi=>by rw[ht];rw[hp] at hi;exact h.depo i l hi,h.chan,by rw[e1];exact h.grp,by rw[e2];exact h.inv⟩
def Stat.suf {n:Nat}{w w':aE}{T:Nat->Td L}(h:Stat (ty:=ty) (Wg:=Wg) (A:=A) n w T ch){i:Nat}(g:zW (T i).τ.own w w'){j:Nat}(hj:j≠i):bT ty Wg (T j).τ w w':=by
 have hl:WgLive ty Wg w->WgLive ty Wg w':=λx=>by
  obtain⟨a,b,hx⟩:=id x;exact⟨a,b,(g.keep Wg x.lt λe=>((h.bnd i Wg (.inl e)).2.1 rfl)).trans hx⟩
 refine⟨g.tape,g.os,g.output,g.size,λb hb=>g.keep b (h.bnd j b hb).1 λe=>?_,hl⟩;have:=h.sep i j b (λe=>hj e.symm) e;exact hb.elim this.1 this.2.1
def Stat.grow {n:Nat}{w w':aE}{T:Nat->Td L}(h:Stat (ty:=ty) (Wg:=Wg) (A:=A) n w T ch){i:Nat}(nA:(T i).ph.live)(g:zW (T i).τ.own w w')(r:Cp)(g':bC):
 Stat (ty:=ty) (Wg:=Wg) (A:=A) n w' (bH T i ⟨(T i).ph,r,(T i).τ.grow w w',g'⟩) ch:=by
 have hp:∀j,(bH T i ⟨(T i).ph,r,(T i).τ.grow w w',g'⟩ j).ph=(T j).ph:=λj=>by
  by_cases hj:j=i
  .subst hj;simp[upd_same]
  .simp[upd_ne _ _ hj]
 have e1:(λj=>(bH T i ⟨(T i).ph,r,(T i).τ.grow w w',g'⟩ j).ph)=λj=>(T j).ph:=funext hp;have e2:(λj=>(bH T i ⟨(T i).ph,r,(T i).τ.grow w w',g'⟩ j).ph.proj)=λj=>(T j).ph.proj:=funext λj=>by rw[hp]
 have hs:=g.size;have zjX:w'.heap[Wg]? =w.heap[Wg]? :=g.keep Wg h.grp.live.lt λe=>((h.bnd i Wg (.inl e)).2.1 rfl);have zsn:∀c b,ch c=some b->c<w.heap.size:=λc b hc=>by
  obtain⟨_,s,r,hh⟩:=h.chan c b hc;exact(dQ.1 hh).1
 refine⟨h.n0,λj hj=>(hp j).trans (h.ou j hj),by rw[hp];exact h.role0,λj hj=>by rw[hp];exact h.role j hj,λj hj b=>?_,λa j b rH hb=>?_,λj b hb=>?_,λj b hb=>?_,λj l hj=>?_,λc b hc=>?_,by rw[e1];exact h.grp.of_block zjX,by rw[e2];exact h.inv⟩
 .rw[hp] at hj
  by_cases eT:j=i
  .subst eT;rw[hj] at nA;exact nA.elim
  .rw[upd_ne _ _ eT];exact h.nil j hj b
 .by_cases Tc:a=i
  .subst Tc
   have eT:j≠a:=λe=>rH e.symm;rw[upd_same] at hb;rw[upd_ne _ _ eT];rcases hb with hb|⟨hb,_⟩
   .exact h.sep a j b rH hb
   .exact⟨λe=>by have:=(h.bnd j b (.inl e)).1;omega,λe=>by have:=(h.bnd j b (.inr e)).1;omega,λe=>by have:=(h.pas j b e).1;omega⟩
  .rw[upd_ne _ _ Tc] at hb
   by_cases eT:j=i
   .subst eT
    rw[upd_same];have:=h.sep a j b rH hb;exact⟨λe=>e.elim this.1 λx=>by have:=(h.bnd a b (.inl hb)).1;omega,this.2⟩
   .rw[upd_ne _ _ eT];exact h.sep a j b rH hb
 .by_cases eT:j=i
  .subst eT
   rw[upd_same] at hb;rcases hb with(hb|⟨hb,bZ⟩)|hb
   .have:=h.bnd j b (.inl hb);exact⟨aC,this.2⟩
   .refine⟨bZ,λe=>by have:=h.grp.live.lt;omega,?_⟩
    cases hc:ch b with
    |none=>rfl
    |some x=>have:=zsn b x hc;omega
   .have:=h.bnd j b (.inr hb);exact⟨aC,this.2⟩
  .rw[upd_ne _ _ eT] at hb
   have:=h.bnd j b hb;exact⟨aC,this.2⟩
 .by_cases eT:j=i
  .subst eT
   rw[upd_same] at hb;have:=h.pas j b hb;exact⟨aC,this.2⟩
  .rw[upd_ne _ _ eT] at hb
   have:=h.pas j b hb;exact⟨aC,this.2⟩
 .rw[hp] at hj
  by_cases eT:j=i
  .subst eT
   cases xG:(T j).ph<;>rw[xG] at hj nA<;>first|exact nA.elim|simp[Ph.proj] at hj
  .rw[upd_ne _ _ eT]
   exact λaI jA=>h.depo j l hj aI ((h.suf g eT).trans jA)
 .obtain⟨h1,s,r,h2⟩:=h.chan c b hc
  exact⟨h1,s,r,(g.keep c (zsn c b hc) λe=>by have:=(h.bnd i c (.inl e)).2.2;rw[hc] at this;cases this).trans h2⟩
def Stat.phase {n:Nat}{w w':aE}{T:Nat->Td L}(h:Stat (ty:=ty) (Wg:=Wg) (A:=A) n w T ch){i:Nat}(hg:(T i).ph≠ .gone)(n8:i<n)(a:J4 Wg w w')(ph':Ph L)(r:Cp)(g':bC)
 (xG:ph'≠ .gone) (h0:i=0->ph'.live) (h1:i≠0->¬ph'.waits) (hl:WgLive ty Wg w->WgLive ty Wg w')
 (hd:∀l,ph'.proj=.over l->(T i).ph.proj=.over l\/∀aI,bT ty Wg (T i).τ w aI->A.dep l aI)
 (Ab:gQ A ty Wg (bH (λj=>(T j).ph) i ph') n w') (hinv:A.Inv (bH (λj=>(T j).ph.proj) i ph'.proj) ch):
 Stat (ty:=ty) (Wg:=Wg) (A:=A) n w' (bH T i ⟨ph',r,(T i).τ,g'⟩) ch:=by
 have ht:∀j,(bH T i ⟨ph',r,(T i).τ,g'⟩ j).τ=(T j).τ:=λj=>by
  by_cases hj:j=i
  .subst hj;simp[upd_same]
  .simp[upd_ne _ _ hj]
 have sf:∀j,bT ty Wg (T j).τ w w':=λj=>bT.of_aside a ⟨λe=>(h.bnd j Wg (.inl e)).2.1 rfl,λe=>(h.bnd j Wg (.inr e)).2.1 rfl⟩ hl;have cG:=a.size;refine⟨h.n0,λj hj=>?_,?_,λj hj=>?_,λj hj b=>?_,λx j b rH hb=>?_,λj b hb=>?_,λj b hb=>?_,λj l hj=>?_,λc b hc=>?_,by rw[Yu];exact Ab,by rw[Vk];exact hinv⟩
 .have:j≠i:=aC
  rw[upd_ne _ _ this];exact h.ou j hj
 .by_cases hi:i=0
  .subst hi;rw[upd_same];exact h0 rfl
  .rw[upd_ne _ _ (Ne.symm hi)];exact h.role0
 .by_cases eT:j=i
  .subst eT;rw[upd_same];exact h1 hj
  .rw[upd_ne _ _ eT];exact h.role j hj
 .rw[ht]
  by_cases eT:j=i
  .subst eT;rw[upd_same] at hj;exact absurd hj xG
  .rw[upd_ne _ _ eT] at hj;exact h.nil j hj b
 .rw[ht] at hb⊢;exact h.sep x j b rH hb
 .rw[ht] at hb;have:=h.bnd j b hb;exact⟨aC,this.2⟩
 .rw[ht] at hb;have:=h.pas j b hb;exact⟨aC,this.2⟩
 .rw[ht]
  by_cases eT:j=i
  .subst eT
   rw[upd_same] at hj;rcases hd l hj with x|x
   .exact λaI jA=>h.depo j l x aI ((sf j).trans jA)
   .exact λaI jA=>x aI ((sf j).trans jA)
  .rw[upd_ne _ _ eT] at hj
   exact λaI jA=>h.depo j l hj aI ((sf j).trans jA)
 .obtain⟨h1,s,r,h2⟩:=h.chan c b hc
  exact⟨h1,s,r,(a.block c h1).trans h2⟩
def Stat.close {n:Nat}{w w':aE}{T:Nat->Td L}(h:Stat (ty:=ty) (Wg:=Wg) (A:=A) n w T ch){i:Nat}(n8:i<n){c:Nat}{x:Bool}(hc:ch c=some x)(a:J4 c w w'){l l':L}(hl:(T i).ph=.usr l)(r:Cp)(g':bC)
 (qO:∃s r,w'.heap[c]? =some (.chan 0 #[] true s r false)) (Ab:gQ A ty Wg (bH (λj=>(T j).ph) i (.usr l')) n w) (hinv:A.Inv (bH (λj=>(T j).ph.proj) i (.run l')) (bH ch c (some true))):
 Stat (ty:=ty) (Wg:=Wg) (A:=A) n w' (bH T i ⟨.usr l',r,(T i).τ,g'⟩) (bH ch c (some true)):=by
 have ht:∀j,(bH T i ⟨.usr l',r,(T i).τ,g'⟩ j).τ=(T j).τ:=λj=>by
  by_cases hj:j=i
  .subst hj;simp[upd_same]
  .simp[upd_ne _ _ hj]
 have zH:=(h.chan c x hc).1;have nc:∀j,¬(T j).τ.own c/\¬(T j).τ.still c:=λj=>⟨λe=>(by have:=(h.bnd j c (.inl e)).2.2;rw[hc] at this;cases this),λe=>(by have:=(h.bnd j c (.inr e)).2.2;rw[hc] at this;cases this)⟩;have sf:∀j,bT ty Wg (T j).τ w w':=λj=>bT.of_aside a (nc j) (Wo a zH);have cG:=a.size;refine⟨h.n0,λj hj=>?_,?_,λj hj=>?_,λj hj b=>?_,λx j b rH hb=>?_,λj b hb=>?_,λj b hb=>?_,λj l hj=>?_,λc' b kS=>?_,by rw[Yu];exact Ab.of_block (a.block Wg (Ne.symm zH)),by rw[Vk];exact hinv⟩
 .have:j≠i:=aC
  rw[upd_ne _ _ this];exact h.ou j hj
 .by_cases hi:i=0
  .subst hi;rw[upd_same];trivial
  .rw[upd_ne _ _ (Ne.symm hi)];exact h.role0
 .by_cases eT:j=i
  .subst eT;rw[upd_same];exact id
  .rw[upd_ne _ _ eT];exact h.role j hj
 .rw[ht]
  by_cases eT:j=i
  .subst eT;rw[upd_same] at hj;cases hj
  .rw[upd_ne _ _ eT] at hj;exact h.nil j hj b
 .rw[ht] at hb⊢;exact h.sep x j b rH hb
 .rw[ht] at hb
  have:=h.bnd j b hb;refine⟨aC,this.2.1,?_⟩;have aT:b≠c:=λe=>by subst e;exact hb.elim (nc j).1 (nc j).2
  rw[upd_ne _ _ aT];exact this.2.2
 .rw[ht] at hb;have:=h.pas j b hb;exact⟨aC,this.2⟩
 .rw[ht]
  by_cases eT:j=i
  .subst eT;rw[upd_same] at hj;simp[Ph.proj] at hj
  .rw[upd_ne _ _ eT] at hj
   exact λaI jA=>h.depo j l hj aI ((sf j).trans jA)
 .by_cases sJ:c'=c
  .subst sJ
   rw[upd_same] at kS;obtain⟨s,r,hw⟩:=qO;exact⟨zH,s,r,by rw[hw,<-cE kS]⟩
  .rw[upd_ne _ _ sJ] at kS
   obtain⟨h1,s,r,h2⟩:=h.chan c' b kS;exact⟨h1,s,r,(a.block c' sJ).trans h2⟩
end
section
variable {L:Type}{P:bR}{ty:aM}{Wg:Nat}{A:jU L}{Fin:bC->aE->Prop}
def gQ.congr {p p':Nat->Ph L}{n n':Nat}{w:aE}(h:gQ A ty Wg p n w)(h0:p' 0=p 0\/∃l l',p 0=.usr l/\p' 0=.usr l')(hv:vv A p' n'=vv A p n)(hl:∀j,(p j).last\/(p' j).last->p' j=p j):gQ A ty Wg p' n' w:=by
 have nl:(∀i,¬(p i).last)->∀i,¬(p' i).last:=λx i e=>x i (by rw[<-hl i (.inr e)];exact e);unfold gQ at*;rcases h0 with h0|⟨l,l',h0,zzU⟩
 .rw[h0,hv]
  split
  all_goals(rename_i hp;simp only[hp] at h)
  .exact⟨h.1,nl h.2⟩
  .exact⟨h.1,nl h.2.1,h.2.2⟩
  .exact⟨h.1,nl h.2.1,h.2.2⟩
  .rcases h with⟨a,b,c⟩|⟨a,i,l,b,c⟩|⟨a,b,c⟩
   .exact .inl ⟨a,b,nl c⟩
   .have hi:(p i).last:=by rcases c with⟨c|c,_⟩|⟨c,_⟩<;>rw[c]<;>trivial
    have e:=hl i (.inl hi);refine .inr (.inl ⟨a,i,l,λj hj=>b j (by rw[<-hl j (.inr hj)];exact hj),?_⟩);rw[e];exact c
   .exact .inr (.inr ⟨a,nl b,c⟩)
  .exact⟨h.1,nl h.2.1,h.2.2⟩
  .exact⟨h.1,nl h.2.1,h.2.2⟩
 .rw[zzU]
  rw[h0] at h;simp only at h⊢;rw[hv];exact⟨h.1,nl h.2⟩
def zeE (A:jU L)(p:Nat->Ph L){i:Nat}(h:i≠0)(x:Ph L):zY A (bH p i x)=zY A p:=by
 unfold zY;rw[upd_ne _ _ (Ne.symm h)]
def gQ.usr {p:Nat->Ph L}{n:Nat}{w:aE}(h:gQ A ty Wg p n w){i:Nat}{l l':L}(hi:p i=.usr l)(n8:i<n)(zkY:A.pend l'=A.pend l):gQ A ty Wg (bH p i (.usr l')) n w:=by
 refine h.congr ?_ ?_ λj hj=>?_
 .by_cases h0:i=0
  .subst h0;exact .inr ⟨l,l',hi,upd_same _ _ _⟩
  .exact .inl (upd_ne _ _ (Ne.symm h0))
 .unfold vv
  by_cases h0:i=0
  .subst h0
   rw[zdp];unfold zY;rw[upd_same,hi];simp only[zkY]
  .rw[zeE A p h0]
   have:=zdT p (i:=i) (n:=n) (.usr l') n8 h0;rw[hi] at this;simp only[Ph.pre,if_true] at this;omega
 .by_cases eT:j=i
  .subst eT;rw[upd_same,hi] at hj;exact(hj.elim id id).elim
  .exact upd_ne _ _ eT
variable {ch:rC}
def zej {l:List Nat}{a:Nat}(h:a∈l):ch.opn l a=some false:=by simp[rC.opn,h]
def Z0 {l:List Nat}{a:Nat}(h:a∉l):ch.opn l a=ch a:=by simp[rC.opn,h]
def Stat.meet {n:Nat}{w w':aE}{T:Nat->Td L}(h:Stat (ty:=ty) (Wg:=Wg) (A:=A) n w T ch){i j:Nat}(rH:i≠j)(n8:i<n)(Xf:j<n){c:Nat}(hc:ch c=some false)(a:J4 c w w'){li li' lj lj':L}
 (hi:(T i).ph=.usr li) (hj:(T j).ph=.usr lj) (ri rj:Cp) (gi gj:bC) (τ':cF) (pub:List Nat)
 (ho:∀b,τ'.own b->(T i).τ.own b) (aY:τ'.still=(T i).τ.still) (Kh:∀b,τ'.pass b->(T i).τ.pass b\/(T i).τ.own b)
 (Cv:∀a∈pub,(T i).τ.own a/\¬τ'.own a/\¬τ'.still a/\Ij w a) (qO:∃s r,w'.heap[c]? =some (.chan 0 #[] false s r false))
 (zam:A.pend li'=A.pend li) (Lt:A.pend lj'=A.pend lj) (hinv:A.Inv (bH (bH (λk=>(T k).ph.proj) i (.run li')) j (.run lj')) (ch.opn pub)):
 Stat (ty:=ty) (Wg:=Wg) (A:=A) n w' (bH (bH T i ⟨.usr li',ri,τ',gi⟩) j ⟨.usr lj',rj,(T j).τ,gj⟩) (ch.opn pub):=by
 have zH:=(h.chan c _ hc).1;have zjX:=a.block Wg (Ne.symm zH);have cG:=a.size;have nc:∀k,¬(T k).τ.own c/\¬(T k).τ.still c:=λk=>⟨λe=>(by have:=(h.bnd k c (.inl e)).2.2;rw[hc] at this;cases this),λe=>(by have:=(h.bnd k c (.inr e)).2.2;rw[hc] at this;cases this)⟩;have sf:∀k,bT ty Wg (T k).τ w w':=λk=>bT.of_aside a (nc k) (Wo a zH)
 let U:=bH (bH T i ⟨.usr li',ri,τ',gi⟩) j ⟨.usr lj',rj,(T j).τ,gj⟩
 have ui:U i=⟨.usr li',ri,τ',gi⟩:=by simp only[U];rw[upd_ne _ _ rH,upd_same]
 have uj:U j=⟨.usr lj',rj,(T j).τ,gj⟩:=by simp only[U];rw[upd_same]
 have uk:∀k,k≠i->k≠j->U k=T k:=λk h1 h2=>by simp only[U];rw[upd_ne _ _ h2,upd_ne _ _ h1]
 have own:∀k b,(U k).τ.own b->(T k).τ.own b:=λk b hb=>by
  by_cases k1:k=i
  .subst k1;rw[ui] at hb;exact ho b hb
  .by_cases k2:k=j
   .subst k2;rw[uj] at hb;exact hb
   .rw[uk k k1 k2] at hb;exact hb
 have still:∀k,(U k).τ.still=(T k).τ.still:=λk=>by
  by_cases k1:k=i
  .subst k1;rw[ui];exact aY
  .by_cases k2:k=j
   .subst k2;rw[uj]
   .rw[uk k k1 k2]
 have pass:∀k b,(U k).τ.pass b->(T k).τ.pass b\/(T k).τ.own b:=λk b hb=>by
  by_cases k1:k=i
  .subst k1;rw[ui] at hb;exact Kh b hb
  .by_cases k2:k=j
   .subst k2;rw[uj] at hb;exact .inl hb
   .rw[uk k k1 k2] at hb;exact .inl hb
 have zmZ:(λk=>(U k).ph)=bH (bH (λk=>(T k).ph) i (.usr li')) j (.usr lj'):=by simp only[U];rw[Yu,Yu]
 have zj9:(λk=>(U k).ph.proj)=bH (bH (λk=>(T k).ph.proj) i (.run li')) j (.run lj'):=by simp only[U];rw[Vk,Vk];rfl
 have hp:∀k,(U k).ph=(T k).ph\/(∃l,(U k).ph=.usr l):=λk=>by
  by_cases k1:k=i
  .subst k1;rw[ui];exact .inr ⟨_,rfl⟩
  .by_cases k2:k=j
   .subst k2;rw[uj];exact .inr ⟨_,rfl⟩
   .rw[uk k k1 k2];exact .inl rfl
 refine⟨h.n0,λk hk=>?_,?_,λk hk=>?_,λk hk b=>?_,λx k b eE hb=>?_,λk b hb=>?_,λk b hb=>?_,λk l hk=>?_,λc' b kS=>?_,?_,?_⟩
 .show(U k).ph=_
  rw[uk k aC aC];exact h.ou k hk
 .rcases hp 0 with e|⟨l,e⟩
  .rw[show(bH (bH T i ⟨.usr li',ri,τ',gi⟩) j ⟨.usr lj',rj,(T j).τ,gj⟩ 0).ph=(T 0).ph from e];exact h.role0
  .rw[show(bH (bH T i ⟨.usr li',ri,τ',gi⟩) j ⟨.usr lj',rj,(T j).τ,gj⟩ 0).ph=.usr l from e];trivial
 .rcases hp k with e|⟨l,e⟩
  .rw[show(bH (bH T i ⟨.usr li',ri,τ',gi⟩) j ⟨.usr lj',rj,(T j).τ,gj⟩ k).ph=(T k).ph from e];exact h.role k hk
  .rw[show(bH (bH T i ⟨.usr li',ri,τ',gi⟩) j ⟨.usr lj',rj,(T j).τ,gj⟩ k).ph=.usr l from e];exact id
 .have k1:k≠i:=λe=>by subst e;rw[show(bH (bH T k ⟨.usr li',ri,τ',gi⟩) j ⟨.usr lj',rj,(T j).τ,gj⟩ k)=_ from ui] at hk;cases hk
  have k2:k≠j:=λe=>by subst e;rw[show(bH (bH T i ⟨.usr li',ri,τ',gi⟩) k ⟨.usr lj',rj,(T k).τ,gj⟩ k)=_ from uj] at hk;cases hk
  have e:=uk k k1 k2;show ¬(U k).τ.own b/\_;rw[show(bH (bH T i ⟨.usr li',ri,τ',gi⟩) j ⟨.usr lj',rj,(T j).τ,gj⟩ k)=T k from e] at hk⊢;rw[e];exact h.nil k hk b
 .have:=h.sep x k b eE (own x b hb)
  refine⟨λe=>this.1 (own k b e),λe=>this.2.1 (by have e':(U k).τ.still b:=e;rwa [still k] at e'),λe=>(pass k b e).elim this.2.2 this.1⟩
 .have bZ:(T k).τ.own b\/(T k).τ.still b:=hb.imp (own k b) λe=>by have e':(U k).τ.still b:=e;rwa [still k] at e'
  have:=h.bnd k b bZ;refine⟨aC,this.2.1,?_⟩;have zaU:b∉pub:=λhp=>by
   obtain⟨h1,h2,h3,_⟩:=Cv b hp;by_cases k1:k=i
   .subst k1
    rcases hb with e|e
    .rw[show(bH (bH T k ⟨.usr li',ri,τ',gi⟩) j ⟨.usr lj',rj,(T j).τ,gj⟩ k)=_ from ui] at e;exact h2 e
    .rw[show(bH (bH T k ⟨.usr li',ri,τ',gi⟩) j ⟨.usr lj',rj,(T j).τ,gj⟩ k)=_ from ui] at e;exact h3 e
   .have s:=h.sep i k b (Ne.symm k1) h1
    exact bZ.elim s.1 s.2.1
  rw[Z0 zaU];exact this.2.2
 .rcases pass k b hb with e|e
  .have:=h.pas k b e;exact⟨aC,this.2⟩
  .have:=h.bnd k b (.inl e);exact⟨aC,this.2.1⟩
 .by_cases k1:k=i
  .subst k1;rw[show(bH (bH T k ⟨.usr li',ri,τ',gi⟩) j ⟨.usr lj',rj,(T j).τ,gj⟩ k)=_ from ui] at hk;simp[Ph.proj] at hk
  .by_cases k2:k=j
   .subst k2;rw[show(bH (bH T i ⟨.usr li',ri,τ',gi⟩) k ⟨.usr lj',rj,(T k).τ,gj⟩ k)=_ from uj] at hk;simp[Ph.proj] at hk
   .rw[show(bH (bH T i ⟨.usr li',ri,τ',gi⟩) j ⟨.usr lj',rj,(T j).τ,gj⟩ k)=T k from uk k k1 k2] at hk⊢
    exact λaI jA=>h.depo k l hk aI ((sf k).trans jA)
 .by_cases mU:c'∈pub
  .obtain⟨h1,_,_,h4⟩:=Cv c' mU
   rw[zej mU] at kS;have aT:c'≠c:=λe=>by subst e;exact(nc i).1 h1
   exact⟨(h.bnd i c' (.inl h1)).2.1,0,0,by rw[a.block c' aT,<-cE kS];exact h4⟩
  .rw[Z0 mU] at kS
   by_cases sJ:c'=c
   .subst sJ
    rw[hc] at kS;obtain⟨s,r,hw⟩:=qO;exact⟨zH,s,r,by rw[hw,<-cE kS]⟩
   .obtain⟨h1,s,r,h2⟩:=h.chan c' b kS
    exact⟨h1,s,r,(a.block c' sJ).trans h2⟩
 .show gQ A ty Wg (λk=>(U k).ph) n w'
  rw[zmZ];refine gQ.of_block (gQ.usr (l:=lj) (gQ.usr (l:=li) h.grp hi n8 zam) ?_ Xf Lt) zjX;rw[upd_ne _ _ (Ne.symm rH)];exact hj
 .show A.Inv (λk=>(U k).ph.proj) _
  rw[zj9];exact hinv
def Stat.fork {n:Nat}{w:aE}{T:Nat->Td L}(h:Stat (ty:=ty) (Wg:=Wg) (A:=A) n w T ch){l lm lc:L}(hl:(T 0).ph=.usr l)(Oc:A.pend l=true)(yQ:A.pend lm=false)(rm rc:Cp)(gm gc:bC)(τm τc:cF)(pub:List Nat)
 (cP:∀b,τm.own b\/τc.own b->(T 0).τ.own b) (zeB:∀b,τm.still b\/τc.still b->(T 0).τ.still b\/(T 0).τ.own b) (zd3:∀b,τm.pass b\/τc.pass b->(T 0).τ.pass b\/(T 0).τ.own b\/(T 0).τ.still b)
 (vZ:∀b,τm.own b->¬τc.own b/\¬τc.still b/\¬τc.pass b) (Av:∀b,τc.own b->¬τm.still b/\¬τm.pass b)
 (Cv:∀a∈pub,(T 0).τ.own a/\Ij w a/\¬τm.own a/\¬τm.still a/\¬τc.own a/\¬τc.still a) (hinv:A.Inv (bH (bH (λk=>(T k).ph.proj) 0 (.run lm)) n (.run lc)) (ch.opn pub)):
 Stat (ty:=ty) (Wg:=Wg) (A:=A) (n+1) w (bH (bH T 0 ⟨.usr lm,rm,τm,gm⟩) n ⟨.usr lc,rc,τc,gc⟩) (ch.opn pub):=by
 have hn:=h.n0;have zcL:(T n).ph=.gone:=h.ou n (aV _);have nn:=h.nil n zcL;generalize hU:bH (bH T 0 ⟨.usr lm,rm,τm,gm⟩) n ⟨.usr lc,rc,τc,gc⟩=U;have u0:U 0=⟨.usr lm,rm,τm,gm⟩:=by rw[<-hU,upd_ne _ _ aC,upd_same]
 have un:U n=⟨.usr lc,rc,τc,gc⟩:=by rw[<-hU,upd_same]
 have uk:∀k,k≠0->k≠n->U k=T k:=λk h1 h2=>by rw[<-hU,upd_ne _ _ h2,upd_ne _ _ h1]
 have own:∀k b,(U k).τ.own b->(T k).τ.own b\/(k=n/\(T 0).τ.own b):=λk b hb=>by
  by_cases k1:k=0
  .subst k1;rw[u0] at hb;exact .inl (cP b (.inl hb))
  .by_cases k2:k=n
   .subst k2;rw[un] at hb;exact .inr ⟨rfl,cP b (.inr hb)⟩
   .rw[uk k k1 k2] at hb;exact .inl hb
 have zmZ:(λk=>(U k).ph)=bH (bH (λk=>(T k).ph) 0 (.usr lm)) n (.usr lc):=by rw[<-hU,Yu,Yu]
 have zj9:(λk=>(U k).ph.proj)=bH (bH (λk=>(T k).ph.proj) 0 (.run lm)) n (.run lc):=by rw[<-hU,Vk,Vk];rfl
 have sub:∀k b,(U k).τ.own b\/(U k).τ.still b\/(U k).τ.pass b->k=0\/k=n\/(k≠0/\k≠n):=λk b _=>by omega
 refine⟨aC,λk hk=>?_,by rw[u0];trivial,λk hk=>?_,λk hk b=>?_,λx k b eE hb=>?_,λk b hb=>?_,λk b hb=>?_,λk l' hk=>?_,λc' b kS=>?_,?_,by rw[zj9];exact hinv⟩
 .rw[uk k aC aC];exact h.ou k aC
 .by_cases k2:k=n
  .subst k2;rw[un];exact id
  .rw[uk k hk k2];exact h.role k hk
 .have k1:k≠0:=λe=>by subst e;rw[u0] at hk;cases hk
  have k2:k≠n:=λe=>by subst e;rw[un] at hk;cases hk
  rw[uk k k1 k2] at hk⊢;exact h.nil k hk b
 .by_cases x1:x=0
  .subst x1
   rw[u0] at hb;have ho:=cP b (.inl hb);by_cases k2:k=n
   .subst k2;rw[un];exact vZ b hb
   .rw[uk k (Ne.symm eE) k2];exact h.sep 0 k b eE ho
  .by_cases x2:x=n
   .subst x2
    rw[un] at hb;have ho:=cP b (.inr hb);by_cases k1:k=0
    .subst k1;rw[u0];exact⟨λe=>(vZ b e).1 hb,Av b hb⟩
    .rw[uk k k1 (Ne.symm eE)];exact h.sep 0 k b (Ne.symm k1) ho
   .rw[uk x x1 x2] at hb
    have s0:=h.sep x 0 b x1 hb;by_cases k1:k=0
    .subst k1;rw[u0]
     exact⟨λe=>s0.1 (cP b (.inl e)),λe=>(zeB b (.inl e)).elim s0.2.1 s0.1,λe=>(zd3 b (.inl e)).elim s0.2.2 λz=>z.elim s0.1 s0.2.1⟩
    .by_cases k2:k=n
     .subst k2;rw[un]
      exact⟨λe=>s0.1 (cP b (.inr e)),λe=>(zeB b (.inr e)).elim s0.2.1 s0.1,λe=>(zd3 b (.inr e)).elim s0.2.2 λz=>z.elim s0.1 s0.2.1⟩
     .rw[uk k k1 k2];exact h.sep x k b eE hb
 .have key:(∃j,(T j).τ.own b\/(T j).τ.still b)/\b∉pub:=by
   by_cases k1:k=0
   .subst k1;rw[u0] at hb
    refine⟨⟨0,hb.elim (λe=>.inl (cP b (.inl e))) λe=>(zeB b (.inl e)).symm⟩,λhp=>?_⟩;have:=Cv b hp;exact hb.elim this.2.2.1 this.2.2.2.1
   .by_cases k2:k=n
    .subst k2;rw[un] at hb
     refine⟨⟨0,hb.elim (λe=>.inl (cP b (.inr e))) λe=>(zeB b (.inr e)).symm⟩,λhp=>?_⟩;have:=Cv b hp;exact hb.elim this.2.2.2.2.1 this.2.2.2.2.2
    .rw[uk k k1 k2] at hb
     refine⟨⟨k,hb⟩,λhp=>?_⟩;have:=h.sep 0 k b (Ne.symm k1) (Cv b hp).1;exact hb.elim this.1 this.2.1
  obtain⟨⟨j,hj⟩,zaU⟩:=key;have:=h.bnd j b hj;exact⟨this.1,this.2.1,by rw[Z0 zaU];exact this.2.2⟩
 .have key:∃j,(T j).τ.pass b\/(T j).τ.own b\/(T j).τ.still b:=by
   by_cases k1:k=0
   .subst k1;rw[u0] at hb;exact⟨0,zd3 b (.inl hb)⟩
   .by_cases k2:k=n
    .subst k2;rw[un] at hb;exact⟨0,zd3 b (.inr hb)⟩
    .rw[uk k k1 k2] at hb;exact⟨k,.inl hb⟩
  obtain⟨j,hj|hj⟩:=key
  .exact h.pas j b hj
  .have:=h.bnd j b hj;exact⟨this.1,this.2.1⟩
 .have k1:k≠0:=λe=>by subst e;rw[u0] at hk;simp[Ph.proj] at hk
  have k2:k≠n:=λe=>by subst e;rw[un] at hk;simp[Ph.proj] at hk
  rw[uk k k1 k2] at hk⊢;exact h.depo k l' hk
 .by_cases mU:c'∈pub
  .rw[zej mU] at kS
   obtain⟨h1,h2,_⟩:=Cv c' mU;exact⟨(h.bnd 0 c' (.inl h1)).2.1,0,0,by rw[<-cE kS];exact h2⟩
  .rw[Z0 mU] at kS;exact h.chan c' b kS
 .rw[zmZ]
  refine h.grp.congr (.inr ⟨l,lm,hl,by rw[upd_ne _ _ aC,upd_same]⟩) ?_ λj hj=>?_
  .unfold vv
   have e1:oT (bH (bH (λk=>(T k).ph) 0 (.usr lm)) n (.usr lc)) (n+1)=oT (λk=>(T k).ph) n+1:=by
    simp only[oT];rw[zpm _ _ (aV n),zdp,upd_same];simp[Ph.pre];omega
   have e2:zY A (bH (bH (λk=>(T k).ph) 0 (.usr lm)) n (.usr lc))=0:=by
    unfold zY;rw[upd_ne _ _ aC,upd_same];simp[yQ]
   have e3:zY A (λk=>(T k).ph)=1:=by
    unfold zY;simp only[hl,Oc,if_true]
   omega
  .by_cases j1:j=0
   .subst j1;rw[upd_ne _ _ aC,upd_same] at hj
    have:((T 0).ph).last\/False:=hj;rw[hl] at this;exact(this.elim id id).elim
   .by_cases j2:j=n
    .subst j2;rw[upd_same] at hj
     have:((T j).ph).last\/False:=hj;rw[zcL] at this;exact(this.elim id id).elim
    .rw[upd_ne _ _ j2,upd_ne _ _ j1]
end
section
variable {L:Type}(P:bR)(ty:aM)(Wg:Nat)(A:jU L)(Fin:bC->aE->Prop)(Shun:Loc->Prop)
structure Inv (gs:Array bC)(w:aE)(t:lT)(T:Nat->Td L)(ch:rC):Prop where
 st:Stat (ty:=ty) (Wg:=Wg) (A:=A) gs.size w T ch
 dy:Fc (P:=P) (ty:=ty) (Wg:=Wg) (A:=A) (Fin:=Fin) gs w t T ch Shun
def Qb (m:zbg)(t:lT):Prop:=
 ∃gs a w sl q,m=crowd gs w sl/\gs[0]? =some a/\a.status=.running/\Fin a w/\Leavers P t gs q/\Past (λl=>Shun l\/nD l Wg) w.heap.size t
def vC (gs:Array bC)(w:aE)(t:lT)(T:Nat->Td L)(sl:Option (Nat×Nat))(i:Nat):Prop:=
 ∃m' ops,runT P (crowd gs w sl) i=(.next m',ops)/\
  (Qb P Wg Fin Shun m' (t++ops)\/∃gs' w' Kf T' tV,m'=crowd gs' w' Kf/\Inv P ty Wg A Fin Shun gs' w' (t++ops) T' tV/\Mu.lt (mu gs' T') (mu gs T))
end
section
variable {L:Type}{P:bR}{ty:aM}{Wg:Nat}{A:jU L}{Fin:bC->aE->Prop}{Shun:Loc->Prop}
variable {gs:Array bC}{w w':aE}{t:lT}{T:Nat->Td L}{ch tV:rC}{sl:Option (Nat×Nat)}{i j:Nat}{x g':bC}{es:Array oL}
def zu1 (τ:cF)(w:aE)(d:Nat):bT ty Wg τ w (w.at d):=⟨rfl,rfl,rfl,aV _,λ_ _=>rfl,id⟩
def Inv.at (h:Inv P ty Wg A Fin Shun gs w t T ch)(d:Nat):Inv P ty Wg A Fin Shun gs (w.at d) t T ch:=
 ⟨
  ⟨h.st.n0,h.st.ou,h.st.role0,h.st.role,h.st.nil,h.st.sep,h.st.bnd,h.st.pas,λi l hi aI s=>h.st.depo i l hi aI ((zu1 _ w d).trans s),h.st.chan,h.st.grp.of_block rfl,h.st.inv⟩,
  ⟨λi x hi=>(h.dy.sit i x hi).rely (zu1 _ w d),h.dy.slp,h.dy.slpC,h.dy.slpW,h.dy.tr⟩⟩
def zne {p:Nat->Ph L}(h:∀j,j≠0->(p j).pre=false):∀n,oT p n=0
 |0=>rfl
 |n+1=>by
  simp only[oT,zne h n];by_cases hn:n=0
  .simp[hn]
  .simp[h n hn]
def Inv.some1 (hA:A.Ok)(h:Inv P ty Wg A Fin Shun gs w t T ch):∃(i:Nat) (g:bC),gs[i]? =some g/\g.status=.running:=by
 refine zC λdB=>?_;have hn:∀(i:Nat) (g:bC),gs[i]? =some g->g.status≠ .running:=λi g hg e=>dB ⟨i,g,hg,e⟩;have zi6:∀i l,(T i).ph=.usr l->∃g,gs[i]? =some g/\zgc P ty Wg A (i==0) (T i) g w:=by
  intro i l hl;have aN:i<gs.size:=by
   rcases mY i gs.size with x|x
   .exact x
   .have:=h.st.ou i x;rw[hl] at this;cases this
  refine⟨gs[i],mD aN,?_⟩;have hs:=h.dy.sit i _ (mD aN);rw[pL znl] at hs;obtain⟨r,_,_,hx|hx|hx⟩:=hs
  .exact absurd hx.1 (hn i _ (mD aN))
  .exact hx
  .have:=hx.1;rw[hl] at this;cases this
 have Lt:∀i l,(T i).ph.proj=.run l->(T i).ph=.usr l:=by
  intro i l hi;cases xG:(T i).ph<;>rw[xG] at hi<;>simp[Ph.proj] at hi;rw[hi]
 have zFh:∀i l c ok pub nx,(T i).ph=.usr l->A.act l=.send c ok pub nx->∃g v z sh,gs[i]? =some (parked g #[scase c v z] sh):=by
  intro i l c ok pub nx hl ha;obtain⟨g,hg,l',cs,sh,h1,rfl,_,h4|h4⟩:=zi6 i l hl
  .obtain⟨c',pN,Pz,nV,v,z,h5,h6,_⟩:=h4
   rw[hl] at h1;injection h1 with h1;subst h1;rw[ha] at h5;injection h5 with h5;subst h5;exact⟨_,v,z,sh,by rw[hg,h6]⟩
  .obtain⟨c',pN,nV,s',z,b,h5,_⟩:=h4
   rw[hl] at h1;injection h1 with h1;subst h1;rw[ha] at h5;cases h5
 have zIe:∀i l c ok nx s,(T i).ph=.usr l->A.act l=.recv c ok nx s->∃g z sh,gs[i]? =some (parked g #[rcase c z] sh):=by
  intro i l c ok nx s hl ha;obtain⟨g,hg,l',cs,sh,h1,rfl,_,h4|h4⟩:=zi6 i l hl
  .obtain⟨c',pN,Pz,nV,v,z,h5,_⟩:=h4
   rw[hl] at h1;injection h1 with h1;subst h1;rw[ha] at h5;cases h5
  .obtain⟨c',pN,nV,s',z,b,h5,h6,_⟩:=h4
   rw[hl] at h1;injection h1 with h1;subst h1;rw[ha] at h5;injection h5 with h5;subst h5;exact⟨_,z,sh,by rw[hg,h6]⟩
 have hb:∀i l,(T i).ph.proj=.run l->A.Blocked (λi=>(T i).ph.proj) ch l:=by
  intro i l hi;have hl:=Lt i l hi;obtain⟨g,hg,l',cs,sh,h1,rfl,_,h4⟩:=zi6 i l hl;rw[hl] at h1;injection h1 with h1;subst h1;unfold jU.Blocked;rcases h4 with⟨c,ok,pub,nx,v,z,h5,h6,_⟩|⟨c,ok,nx,s,z,b,h5,h6,_⟩
  .rw[h5]
   rintro⟨j,l',pN,nV,wZ,hj,oP⟩;obtain⟨gj,zj,zH6,zbw⟩:=zIe j l' c pN nV wZ (Lt j l' hj) oP;subst h6;exact h.dy.slp i j _ _ _ _ _ _ _ _ hg zbw
  .rw[h5]
   subst h6;refine⟨?_,?_⟩
   .obtain⟨b',bZ⟩:=hA.recvC _ ch i l c ok nx s h.st.inv hi h5
    cases b'
    .exact bZ
    .exact absurd bZ (h.dy.slpC i _ _ _ _ hg)
   .rintro⟨j,l',pN,Pz,nV,hj,oP⟩
    obtain⟨gj,vj,zj,zH6,zbw⟩:=zFh j l' c pN Pz nV (Lt j l' hj) oP;exact h.dy.slp j i _ _ _ _ _ _ _ _ zbw hg
 obtain⟨L6,Cb⟩:=hA.prog _ ch h.st.inv hb;have hq:∀j,j≠0->(T j).ph.leaves:=by
  intro j hj;refine zC λhl=>?_;have aN:j<gs.size:=by
   rcases mY j gs.size with x|x
   .exact x
   .exact absurd (by rw[h.st.ou j x];trivial) hl
  have hs:=h.dy.sit j _ (mD aN);rw[pL hl] at hs;obtain⟨r,_,_,hx|hx|hx⟩:=hs
  .exact hn j _ (mD aN) hx.1
  .obtain⟨l,_,_,h1,_⟩:=hx
   exact Cb j l (by show(T j).ph.proj=_;rw[h1];rfl)
  .have:=h.st.role j hj;rw[hx.1] at this;exact this trivial
 have h0:=h.dy.sit 0 _ (mD h.st.n0);have zfo:¬(T 0).ph.leaves:=λe=>by
  have:=h.st.role0;cases hp:(T 0).ph<;>rw[hp] at e this<;>first|exact e.elim|exact this.elim
 rw[pL zfo] at h0;obtain⟨r,_,_,hx|hx|hx⟩:=h0
 .exact hn 0 _ (mD h.st.n0) hx.1
 .obtain⟨l,_,_,h1,_⟩:=hx
  have:(T 0).ph.proj=.waits:=L6;rw[h1] at this;cases this
 .have hg:=h.st.grp
  unfold gQ at hg;simp only[hx.1] at hg;have zBY:∀i,¬(T i).ph.last:=λi e=>by
   by_cases hi:i=0
   .subst hi;rw[hx.1] at e;exact e
   .have:=hq i hi
    cases hp:(T i).ph<;>rw[hp] at e this<;>first|exact e.elim|exact this.elim
  have hv:vv A (λi=>(T i).ph) gs.size=0:=by
   unfold vv zY;simp only[hx.1,Nat.add_zero];refine zne (λj hj=>?_) _;have:=hq j hj;cases hp:(T j).ph<;>rw[hp] at this<;>first|exact this.elim|rfl
  rcases hg with⟨a,_⟩|⟨_,i,l,_,hc⟩|⟨_,_,hc⟩
  .omega
  .refine zBY i ?_
   rcases hc with⟨c|c,_⟩|⟨c,_⟩<;>rw[c]<;>trivial
  .exact h.dy.slpW _ (mD h.st.n0) hx.1 (by rw[hx.2.1]) hc
def Inv.awake (h:Inv P ty Wg A Fin Shun gs w t T ch):∀g∈gs,Conc.awake g:=by
 intro g hg;obtain⟨i,hi,rfl⟩:=Array.mem_iff_getElem.1 hg;have:=(h.dy.sit i _ (mD hi)).status;intro t e;rcases this with x|x|x<;>rw[e] at x<;>cases x
def U6 (hi:gs[i]? =some x)(hn:0<gs.size){Ti:Td L}(vK:stepG P (i==0) x w=.go g' w' es)(hr:Cl Ti.r (T i).r)
 (hS:Stat (ty:=ty) (Wg:=Wg) (A:=A) gs.size w' (bH T i Ti) tV)
 (hD:Fc (P:=P) (ty:=ty) (Wg:=Wg) (A:=A) (Fin:=Fin) ((gs.map (woken P x g' w')).setIfInBounds i g') w' (t++wC i x.frame.fn x.frame.place es) (bH T i Ti) tV Shun):vC P ty Wg A Fin Shun gs w t T sl i:=by
 have aN:=(dQ.1 hi).1;have cG:((gs.map (woken P x g' w')).setIfInBounds i g').size=gs.size:=aP;refine⟨_,_,Wh hi vK,.inr ⟨_,_,sl,bH T i Ti,tV,rfl,⟨by rw[cG];exact hS,hD⟩,Yl (i:=i) (λ_=>cG) aC aN aC (by rw[upd_same];exact hr) λj hj=>by rw[upd_ne _ _ aC]⟩⟩
def Stat.tiEvents {n:Nat}(hS:Stat (ty:=ty) (Wg:=Wg) (A:=A) n w T ch)(n8:i<n)(hl:(T i).ph.live)(fn:aO)(pos:String)
 (h:TI Wg n (λk=>(T k).τ.own) (λk b=>(T k).τ.still b\/(T k).τ.pass b) (λk=>(T k).ph.live) Shun w.heap.size t)
 (xM:∀e∈es,Og Wg (T i).τ.own (λb=>(T i).τ.still b\/(T i).τ.pass b) i w.heap.size e):
 TI Wg n (λk=>(T k).τ.own) (λk b=>(T k).τ.still b\/(T k).τ.pass b) (λk=>(T k).ph.live) Shun w.heap.size (t++wC i fn pos es):=by
 obtain⟨l⟩:=es;refine TI.events (live:=λk=>(T k).ph.live) (k:=i) hl n8 (λk' b _ aT hb=>?_) (λk' b _ aT hb ho=>?_) (λk' _=>⟨λe=>(hS.bnd k' Wg (.inl e)).2.1 rfl,λe=>e.elim (λe=>(hS.bnd k' Wg (.inr e)).2.1 rfl) λe=>(hS.pas k' Wg e).2 rfl⟩) fn pos l h λe he=>xM e (by simpa using he)
 .have:=hS.sep i k' b (Ne.symm aT) hb
  exact⟨this.1,λe=>e.elim this.2.1 this.2.2⟩
 .have:=hS.sep k' i b aT ho
  exact hb.elim this.2.1 this.2.2
def Stat.noWg {n:Nat}(hS:Stat (ty:=ty) (Wg:=Wg) (A:=A) n w T ch):∀k',(T k').ph.live->¬(T k').τ.own Wg/\¬((T k').τ.still Wg\/(T k').τ.pass Wg):=
 λk' _=>⟨λe=>(hS.bnd k' Wg (.inl e)).2.1 rfl,λe=>e.elim (λe=>(hS.bnd k' Wg (.inr e)).2.1 rfl) λe=>(hS.pas k' Wg e).2 rfl⟩
def Fc.keepC (h:Fc (P:=P) (ty:=ty) (Wg:=Wg) (A:=A) (Fin:=Fin) gs w t T ch Shun):∀(j:Nat) (gj:bC) (c:Nat) (z:aF) (sh:Nz),gs[j]? =some (parked gj #[rcase c z] sh)->woken P x g' w' (parked gj #[rcase c z] sh)=parked gj #[rcase c z] sh->ch c≠some true:=
 λj gj c z sh hj _=>h.slpC j gj c z sh hj
def Fc.keepW (h:Fc (P:=P) (ty:=ty) (Wg:=Wg) (A:=A) (Fin:=Fin) gs w t T ch Shun)(e:gD ty Wg w' 0 1->gD ty Wg w 0 1):i≠0->∀x0,gs[0]? =some x0->(T 0).ph=.w3->x0.status=.blocked->(woken P x g' w' x0).status=.blocked->¬gD ty Wg w' 0 1:=
 λ_ x0 h0 h1 h2 _ h4=>h.slpW x0 h0 h1 h2 (e h4)
def Inv.leaver (h:Inv P ty Wg A Fin Shun gs w t T ch)(hi:gs[i]? =some x)(cH:x.status=.running)(hl:(T i).ph.leaves):vC P ty Wg A Fin Shun gs w t T sl i:=by
 have hs:=h.dy.sit i x hi;rw[G4 hl] at hs;obtain⟨q,hq,hQ⟩:=hs;have eY:i≠0:=λe=>by
  subst e;have:=h.st.role0;cases hp:(T 0).ph<;>rw[hp] at hl this<;>first|exact hl.elim|exact this.elim
 have aN:=(dQ.1 hi).1
 cases q with
 |zero=>rw[hQ.1] at cH;cases cH
 |succ k=>
  rcases hQ with⟨hf,_⟩|⟨_,g',es,hm,aY,hQ'⟩
  .rw[hf] at cH;cases cH
  have vK:stepG P (i==0) x w=.go g' w es:=by
   have:(i==0)=false:=by simpa using eY
   rw[this];exact aY w
  have hp:∀j,(bH T i ⟨(T i).ph,.inl k,(T i).τ,g'⟩ j).ph=(T j).ph:=λj=>by
   by_cases hj:j=i
   .subst hj;simp[upd_same]
   .simp[upd_ne _ _ hj]
  have ht:∀j,(bH T i ⟨(T i).ph,.inl k,(T i).τ,g'⟩ j).τ=(T j).τ:=λj=>by
   by_cases hj:j=i
   .subst hj;simp[upd_same]
   .simp[upd_ne _ _ hj]
  refine U6 hi h.st.n0 (Ti:=⟨(T i).ph,.inl k,(T i).τ,g'⟩) vK (by rw[hq];exact .inl (Nat.lt_succ_self k)) (h.st.same hp ht) ?_;refine h.dy.go hi ((G4 (T:=⟨(T i).ph,.inl k,(T i).τ,g'⟩) hl).2 ⟨k,rfl,hQ'⟩) (by rcases hQ'.status with e|e<;>rw[e]<;>simp) (λj _=>bT.refl) h.dy.keepC (h.dy.keepW id) ?_;have e1:(λk'=>(bH T i ⟨(T i).ph,.inl k,(T i).τ,g'⟩ k').τ.own)=λk'=>(T k').τ.own:=funext λj=>by rw[ht]
  have e2:(λk' b=>(bH T i ⟨(T i).ph,.inl k,(T i).τ,g'⟩ k').τ.still b\/(bH T i ⟨(T i).ph,.inl k,(T i).τ,g'⟩ k').τ.pass b)=λk' b=>(T k').τ.still b\/(T k').τ.pass b:=funext λj=>by rw[ht]
  have e3:(λk'=>(bH T i ⟨(T i).ph,.inl k,(T i).τ,g'⟩ k').ph.live)=λk'=>(T k').ph.live:=funext λj=>by rw[hp]
  rw[e1,e2,e3];exact h.dy.tr.mutes aN h.st.noWg _ _ hm
def Inv.ownG {K:Bool->Ph L->Nat->cF->bC->aE->Prop}(h:Inv P ty Wg A Fin Shun gs w t T ch)(hi:gs[i]? =some x)(dN:lS x (T i).g)(hl:(T i).ph.live){ι:Type}{f:ι->Rk}(hr:(T i).r=.inr (.mk ι f))
 (hK:∀m ph d τ g w,K m ph d τ g w->∃k,o8 P ty Wg A Fin (f k) m ph d τ g w) (ho:GoG P Wg K (i==0) (T i).ph (iE t i) (T i).τ (T i).g w):vC P ty Wg A Fin Shun gs w t T sl i:=by
 have aN:i<gs.size:=(dQ.1 hi).1;obtain⟨g',w',es,aY,lX,hg,xM,hk⟩:=ho;obtain⟨k,hB⟩:=hK _ _ _ _ _ _ hk;have oU:¬(T i).ph.leaves:=λe=>by cases hp:(T i).ph<;>rw[hp] at e hl<;>first|exact e.elim|exact hl.elim
 have hS:=h.st.grow hl hg (.inr (f k)) g';refine U6 hi h.st.n0 (Ti:=⟨(T i).ph,.inr (f k),(T i).τ.grow w w',g'⟩) zaY P7 hS ?_
 refine h.dy.go hi ((pL (T:=⟨(T i).ph,.inr (f k),(T i).τ.grow w w',g'⟩) oU).2 ⟨f k,rfl,hB,.inl (lS.self lX)⟩) Jy (λj hj=>h.st.suf hg hj) h.dy.keepC
  (h.dy.keepW λe=>(hg.keep Wg h.st.grp.live.lt λe=>((h.st.bnd i Wg (.inl e)).2.1 rfl)).symm.trans e) ?_
 have hp:∀j,(bH T i ⟨(T i).ph,.inr (f k),(T i).τ.grow w w',g'⟩ j).ph=(T j).ph:=λj=>by
  by_cases hj:j=i
  .subst hj;simp[upd_same]
  .simp[upd_ne _ _ hj]
 have Ow:bH T i ⟨(T i).ph,.inr (f k),(T i).τ.grow w w',g'⟩ i=⟨(T i).ph,.inr (f k),(T i).τ.grow w w',g'⟩:=upd_same _ _ _;refine hS.tiEvents aN (by rw[hp];exact hl) _ _ ?_ λe he=>?_
 .have e3:(λk'=>(bH T i ⟨(T i).ph,.inr (f k),(T i).τ.grow w w',g'⟩ k').ph.live)=λk'=>(T k').ph.live:=funext λj=>by rw[hp]
  rw[e3];refine h.dy.tr.less (λk' b _ hb=>?_) (λk' b _ hb=>?_) hg.size
  .by_cases hj:k'=i
   .subst hj;rw[upd_same] at hb;exact hb.imp id (·.1)
   .rw[upd_ne _ _ hj] at hb;exact .inl hb
  .by_cases hj:k'=i
   .subst hj;rw[upd_same] at hb;exact .inl hb
   .rw[upd_ne _ _ hj] at hb;exact .inl hb
 .rw[Ow]
  refine zBr (xM e he) (λb hb=>.inl hb) (λb hb=>?_) (by have:=h.st.grp.live.lt;have:=hg.size;omega);have:=hS.bnd i b (by rw[Ow];exact hb);exact⟨this.1,this.2.1⟩
end
section
variable {L:Type}{P:bR}{ty:aM}{Wg:Nat}{A:jU L}{Fin:bC->aE->Prop}{Shun:Loc->Prop}
variable {gs:Array bC}{w w':aE}{t:lT}{T:Nat->Td L}{ch tV:rC}{sl:Option (Nat×Nat)}{i j:Nat}{x g':bC}{es:Array oL}
def zd6 (T:Nat->Td L)(i:Nat)(ph':Ph L)(r:Cp)(g':bC)(j:Nat):(bH T i ⟨ph',r,(T i).τ,g'⟩ j).τ=(T j).τ:=by
 by_cases hj:j=i
 .subst hj;simp[upd_same]
 .simp[upd_ne _ _ hj]
def zy2 (T:Nat->Td L)(i:Nat){ph':Ph L}(r:Cp)(τ:cF)(g':bC)(h:ph'.live↔(T i).ph.live):(λk=>(bH T i ⟨ph',r,τ,g'⟩ k).ph.live)=λk=>(T k).ph.live:=by
 funext j;by_cases hj:j=i
 .subst hj;simp[upd_same,h]
 .simp[upd_ne _ _ hj]
def TI.phase {n B:Nat}{ph':Ph L}(r:Cp)(g':bC)(h:TI Wg n (λk=>(T k).τ.own) (λk b=>(T k).τ.still b\/(T k).τ.pass b) (λk=>(T k).ph.live) Shun B t)(hl:ph'.live↔(T i).ph.live):
 TI Wg n (λk=>(bH T i ⟨ph',r,(T i).τ,g'⟩ k).τ.own) (λk b=>(bH T i ⟨ph',r,(T i).τ,g'⟩ k).τ.still b\/(bH T i ⟨ph',r,(T i).τ,g'⟩ k).τ.pass b) (λk=>(bH T i ⟨ph',r,(T i).τ,g'⟩ k).ph.live) Shun B t:=by
 have e1:(λk'=>(bH T i ⟨ph',r,(T i).τ,g'⟩ k').τ.own)=λk'=>(T k').τ.own:=funext λj=>by rw[zd6]
 have e2:(λk' b=>(bH T i ⟨ph',r,(T i).τ,g'⟩ k').τ.still b\/(bH T i ⟨ph',r,(T i).τ,g'⟩ k').τ.pass b)=λk' b=>(T k').τ.still b\/(T k').τ.pass b:=funext λj=>by rw[zd6]
 rw[e1,e2,zy2 T i r _ g' hl];exact h
def Inv.alive (h:Inv P ty Wg A Fin Shun gs w t T ch)(hi:gs[i]? =some x)(dN:lS x (T i).g)(aY:stepG P (i==0) (T i).g w=.go g' w' es)(lX:g'.status=.running){ι:Type}{f:ι->Rk}(hr:(T i).r=.inr (.mk ι f))
 (hl:(T i).ph.live) {ph':Ph L} (yC:ph'.live) (a:J4 Wg w w') (Jt:WgLive ty Wg w->WgLive ty Wg w')
 (hK:∃k,o8 P ty Wg A Fin (f k) (i==0) ph' (n6 (iE t i) es) (T i).τ g' w') (h1:i≠0->¬ph'.waits)
 (Ab:gQ A ty Wg (bH (λj=>(T j).ph) i ph') gs.size w') (hinv:A.Inv (bH (λj=>(T j).ph.proj) i ph'.proj) ch) (hW:gD ty Wg w' 0 1->gD ty Wg w 0 1)
 (xM:∀e∈es,Og Wg (T i).τ.own (λb=>(T i).τ.still b\/(T i).τ.pass b) i w'.heap.size e):vC P ty Wg A Fin Shun gs w t T sl i:=by
 have aN:i<gs.size:=(dQ.1 hi).1;obtain⟨k,hB⟩:=hK;have oU:¬ph'.leaves:=λe=>by cases ph'<;>first|exact e.elim|exact yC.elim
 have Aq:(T i).ph≠ .gone:=λe=>by rw[e] at hl;exact hl
 have hS:=h.st.phase (r:=.inr (f k)) (g':=g') Aq aN a ph' (λe=>by rw[e] at yC;exact yC) (λ_=>yC) h1 Jt (λl e=>by cases ph'<;>simp_all [Ph.proj,Ph.live]) Ab hinv;have Ow:bH T i ⟨ph',.inr (f k),(T i).τ,g'⟩ i=⟨ph',.inr (f k),(T i).τ,g'⟩:=upd_same _ _ _;refine U6 hi h.st.n0 (Ti:=⟨ph',.inr (f k),(T i).τ,g'⟩) zaY P7 hS ?_
 refine h.dy.go hi ((pL (T:=⟨ph',.inr (f k),(T i).τ,g'⟩) oU).2 ⟨f k,rfl,hB,.inl (lS.self lX)⟩) Jy
  (λj _=>bT.of_aside a ⟨λe=>(h.st.bnd j Wg (.inl e)).2.1 rfl,λe=>(h.st.bnd j Wg (.inr e)).2.1 rfl⟩ Jt) h.dy.keepC (h.dy.keepW hW) ?_
 refine hS.tiEvents aN (by rw[Ow];exact yC) _ _ ?_ λe he=>?_
 .have:=h.dy.tr.phase (i:=i) (ph':=ph') (.inr (f k)) g' ⟨λ_=>hl,λ_=>yC⟩
  rwa [a.size]
 .rw[Ow];exact xM e he
def Inv.dead (h:Inv P ty Wg A Fin Shun gs w t T ch)(hi:gs[i]? =some x)(dN:lS x (T i).g)(aY:stepG P (i==0) (T i).g w=.go g' w' es)(nJ:g'.status≠ .blocked){Ti:Td L}(hr:Cl Ti.r (T i).r)(hτ:Ti.τ=(T i).τ)
 (hl:¬(T i).ph.live) (hg:(T i).ph≠ .gone) (h0:i≠0) (yC:¬Ti.ph.live) (xE:Ti.ph≠ .gone) (a:J4 Wg w w') (Jt:WgLive ty Wg w->WgLive ty Wg w')
 (znC:Sits P ty Wg A Fin i Ti (n6 (iE t i) es) g' w') (zbs:Ti.ph.proj=(T i).ph.proj)
 (Ab:gQ A ty Wg (bH (λj=>(T j).ph) i Ti.ph) gs.size w') (hW:(mayWake P (T i).g=true/\g'.status=.running)\/(gD ty Wg w' 0 1->gD ty Wg w 0 1))
 (xM:∀(l r:List oL) (e:oL),es.toList=l++e::r->(∀a,(jJ e).touch? =some a->nD a.loc Wg/\a.kind=.atomic/\0<n6 (iE t i) l.toArray)/\jJ e≠ .mark (.release (stA Wg))/\(jJ e).low w'.heap.size):vC P ty Wg A Fin Shun gs w t T sl i:=by
 have aN:=(dQ.1 hi).1;obtain⟨ph',r',τ',Ub⟩:=Ti;simp only at hτ yC xE zbs Ab hr;subst hτ;have Lt:bH (λj=>(T j).ph.proj) i ph'.proj=λj=>(T j).ph.proj:=by rw[zbs];exact zeY (λj=>(T j).ph.proj) i
 have hS:=h.st.phase (r:=r') (g':=Ub) hg aN a ph' xE (λe=>absurd e h0) (λ_ e=>by cases ph'<;>first|exact e.elim|exact yC e) Jt (λl e=>.inl (by rw[<-zbs];exact e)) Ab (by rw[Lt];exact h.st.inv);refine U6 hi h.st.n0 (Ti:=⟨ph',r',(T i).τ,Ub⟩) zaY hr hS ?_
 refine h.dy.go hi znC nJ
  (λj _=>bT.of_aside a ⟨λe=>(h.st.bnd j Wg (.inl e)).2.1 rfl,λe=>(h.st.bnd j Wg (.inr e)).2.1 rfl⟩ Jt) h.dy.keepC ?_ ?_
 .intro eY x0 sY xG hb cM
  rcases hW with⟨hm,vX⟩|hW
  .exfalso
   have hs:=h.dy.sit 0 x0 sY;rw[pL (by rw[xG];exact id)] at hs;obtain⟨_,_,_,hx|⟨_,_,_,hx,_⟩|⟨_,hx,ho⟩⟩:=hs
   .rw[hx.1] at hb;cases hb
   .rw[xG] at hx;cases hx
   .have zfv:mayWake P x=true:=by
     rw[<-hm];unfold mayWake;rw[dN.2.1]
    rw[hx] at cM;unfold woken at cM;rw[zfv,vX] at cM;simp[zfz,ho] at cM
  .exact h.dy.slpW x0 sY xG hb∘hW
 .have h1:=h.dy.tr.phase (i:=i) (ph':=ph') r' Ub ⟨λe=>absurd e yC,λe=>absurd e hl⟩
  have h2:TI Wg gs.size (λk=>(bH T i ⟨ph',r',(T i).τ,Ub⟩ k).τ.own) (λk b=>(bH T i ⟨ph',r',(T i).τ,Ub⟩ k).τ.still b\/(bH T i ⟨ph',r',(T i).τ,Ub⟩ k).τ.pass b) (λk=>(bH T i ⟨ph',r',(T i).τ,Ub⟩ k).ph.live) Shun w'.heap.size t:=by rwa [a.size]
  have:=h2.deafs (k:=i) aN hS.noWg x.frame.fn x.frame.place es.toList xM;simpa using this
def zqA {n B d:Nat}{es:Array oL}(hm:∀e∈es,zem e=true):∀(l r:List oL) (e:oL),es.toList=l++e::r->(∀a,(jJ e).touch? =some a->nD a.loc Wg/\a.kind=.atomic/\0<n6 d l.toArray)/\jJ e≠ .mark (.release (stA Wg))/\(jJ e).low B:=by
 intro l r e he;have zgb:=hm e (by rw[<-Array.mem_toList_iff,he];simp);have:=zgJ (Wg:=Wg) (own:=λ_=>False) (pas:=λ_=>False) (k:=0) (B:=B) zgb;exact⟨λa ha=>(by rw[zic zgb] at ha;cases ha),this.2.1,this.2.2⟩
def Inv.idle1 {K:Bool->Ph L->Nat->cF->bC->aE->Prop}(h:Inv P ty Wg A Fin Shun gs w t T ch)(hi:gs[i]? =some x)(dN:lS x (T i).g)(hl:¬(T i).ph.live)(oU:¬(T i).ph.leaves){ι:Type}{f:ι->Rk}(hr:(T i).r=.inr (.mk ι f))
 (hK:∀m ph d τ g w,K m ph d τ g w->∃k,o8 P ty Wg A Fin (f k) m ph d τ g w) (ho:zaq P ty Wg K (i==0) (T i).ph (iE t i) (T i).τ (T i).g w):vC P ty Wg A Fin Shun gs w t T sl i:=by
 obtain⟨g',es,aY,lX,hm,hk⟩:=ho w bT.refl;obtain⟨k,hB⟩:=hK _ _ _ _ _ _ hk;have h0:i≠0:=λe=>by subst e;exact hl h.st.role0
 have Aq:(T i).ph≠ .gone:=λe=>by rw[e] at oU;exact oU trivial
 have eu:=zeY (λj=>(T j).ph) i
 exact h.dead hi dN aY Jy (Ti:=⟨(T i).ph,.inr (f k),(T i).τ,g'⟩) P7 rfl hl Aq h0 hl Aq (Mo _ _) id
  ((pL (T:=⟨(T i).ph,.inr (f k),(T i).τ,g'⟩) oU).2 ⟨f k,rfl,hB,.inl (lS.self lX)⟩) rfl (by rw[eu];exact h.st.grp) (.inr id) (zqA (n:=0) hm)
def Inv.release (hA:A.Ok)(h:Inv P ty Wg A Fin Shun gs w t T ch)(hi:gs[i]? =some x)(dN:lS x (T i).g)(aY:stepG P (i==0) (T i).g w=.go g' w #[oA (.releaseMerge (stA Wg))])(lX:g'.status=.running){ι:Type}{f:ι->Rk}(hr:(T i).r=.inr (.mk ι f))
 {l:L} (hl:(T i).ph=.usr l) (pS:A.act l=.done) (hd:iE t i=0) (tZ:∀aI,bT ty Wg (T i).τ w aI->A.dep l aI)
 (hK:∃k,o8 P ty Wg A Fin (f k) (i==0) (.rel l) 0 (T i).τ g' w):vC P ty Wg A Fin Shun gs w t T sl i:=by
 have aN:=(dQ.1 hi).1;obtain⟨k,hB⟩:=hK;obtain⟨h0,hinv⟩:=hA.done _ ch i l h.st.inv (by show(T i).ph.proj=_;rw[hl];rfl) pS;have Ab:gQ A ty Wg (bH (λj=>(T j).ph) i (.rel l)) gs.size w:=by
  refine h.st.grp.congr (.inl (upd_ne _ _ (Ne.symm h0))) ?_ λj hj=>?_
  .unfold vv
   rw[zeE A _ h0];have:=zdT (λj=>(T j).ph) (i:=i) (n:=gs.size) (.rel l) aN h0;simp only[hl,Ph.pre,if_true] at this;omega
  .by_cases eT:j=i
   .subst eT;rw[upd_same] at hj
    have:=hj;rw[hl] at this;exact(this.elim id id).elim
   .exact upd_ne _ _ eT
 have hS:=h.st.phase (r:=.inr (f k)) (g':=g') (by rw[hl];simp) aN (Mo _ _) (.rel l) aP (λe=>absurd e h0) (λ_ e=>e) id (λl' e=>.inr (by
  simp only[Ph.proj,Pj.over.injEq] at e;subst e;exact tZ)) Ab hinv
 refine U6 hi h.st.n0 (Ti:=⟨.rel l,.inr (f k),(T i).τ,g'⟩) zaY P7 hS ?_;refine h.dy.go hi ((pL (T:=⟨.rel l,.inr (f k),(T i).τ,g'⟩) (by exact id)).2 ⟨f k,rfl,?_,.inl (lS.self lX)⟩) Jy (λj _=>bT.refl) h.dy.keepC (h.dy.keepW id) ?_
 .have:n6 (iE t i) #[oA (.releaseMerge (stA Wg))]=0:=by rw[hd];rfl
  rw[this];exact hB
 .have e1:(λk'=>(bH T i ⟨.rel l,.inr (f k),(T i).τ,g'⟩ k').τ.own)=λk'=>(T k').τ.own:=funext λj=>by rw[zd6]
  have e2:(λk' b=>(bH T i ⟨.rel l,.inr (f k),(T i).τ,g'⟩ k').τ.still b\/(bH T i ⟨.rel l,.inr (f k),(T i).τ,g'⟩ k').τ.pass b)=λk' b=>(T k').τ.still b\/(T k').τ.pass b:=funext λj=>by rw[zd6]
  rw[e1,e2];have mP:wC i x.frame.fn x.frame.place #[oA (.releaseMerge (stA Wg))]=#[{g:=i,fn:=x.frame.fn,pos:=x.frame.place,act:=.mark (.releaseMerge (stA Wg))}]:=by simp[wC,oA,jJ]
  rw[mP];refine h.dy.tr.release aN rfl rfl hd h.st.grp.live.lt (λj hj=>?_) λj hj=>?_
  .by_cases eT:j=i
   .subst eT;rw[upd_same] at hj;exact hj.elim
   .rw[upd_ne _ _ eT] at hj;exact hj
  .by_cases eT:j=i
   .exact .inr eT
   .left;rw[upd_ne _ _ eT];exact hj
def Inv.acquire (h:Inv P ty Wg A Fin Shun gs w t T ch)(hi:gs[0]? =some x)(dN:lS x (T 0).g)(aY:stepG P true (T 0).g w=.go g' w #[oA (.acquire (stA Wg))])(lX:g'.status=.running)(hd:iE t 0=0)
 (hq:∀j,j≠0->(T j).ph.leaves) (hF:Fin g' w):vC P ty Wg A Fin Shun gs w t T sl 0:=by
 have aN:0<gs.size:=h.st.n0;have Nn:stepG P (0==0) x w=.go g' w #[oA (.acquire (stA Wg))]:=by rw[show((0:Nat)==0)=true from rfl,dN.step];exact aY
 refine⟨_,_,Wh hi Nn,.inl ⟨_,g',w,sl,λj=>match(T j).r with| .inl q=>q|_=>0,rfl,by simp[aN],lX,hF,?_⟩⟩;have mP:wC 0 x.frame.fn x.frame.place #[oA (.acquire (stA Wg))]=#[{g:=0,fn:=x.frame.fn,pos:=x.frame.place,act:=.mark (.acquire (stA Wg))}]:=by simp[wC,oA,jJ]
 rw[mP]
 obtain⟨hP,qJ⟩:=h.dy.tr.acquire (y:={g:=0,fn:=x.frame.fn,pos:=x.frame.place,act:=.mark (.acquire (stA Wg))}) aN rfl rfl hd h.st.grp.live.lt (λj hj=>by
  refine zC λaT=>?_;have:=hq j aT;have oP:(T j).ph.live:=hj;cases hp:(T j).ph<;>rw[hp] at this oP<;>first|exact this.elim|exact oP.elim)
 refine⟨⟨λj y hj hy=>?_,λj hj=>qJ j zbD⟩,hP⟩;have aT:0≠j:=aC;rw[jP aT,xL] at hy;obtain⟨y0,Sf,rfl⟩:=xB.1 hy;have hs:=h.dy.sit j y0 Sf;rw[G4 (hq j aC)] at hs;obtain⟨q,Qo,hQ⟩:=hs;rw[zlg hQ,Nv t (g:=j) (g':=0) aT _ (λop hop=>by simp at hop;rw[hop])];simp only[Qo];exact hQ
end
end Go.Mt
namespace Go.Mt
open Go.Conc
open Go.ConcR (KK wgBlock WgAt stA smA rd wr)
section
variable {L:Type}{P:bR}{ty:aM}{Wg:Nat}{A:jU L}{Fin:bC->aE->Prop}{Shun:Loc->Prop}
variable {gs gs':Array bC}{w w':aE}{t t':lT}{T T':Nat->Td L}{ch tV:rC}{sl:Option (Nat×Nat)}{i j:Nat}{x g':bC}{es:Array oL}
def Fc.gen (h:Fc (P:=P) (ty:=ty) (Wg:=Wg) (A:=A) (Fin:=Fin) gs w t T ch Shun)(M:Nat->Prop)(zms:∀j,¬M j->gs'[j]? =gs[j]? /\T' j=T j)
 (zi1:∀j y,M j->gs'[j]? =some y->y.status≠ .blocked/\Sits P ty Wg A Fin j (T' j) (iE t' j) y w') (zlw:∀j,¬M j->bT ty Wg (T j).τ w w') (zDm:∀j,¬M j->iE t' j=iE t j)
 (tN:∀c,tV c=some true->ch c=some true) (hW:gD ty Wg w' 0 1->gD ty Wg w 0 1)
 (zjB:TI Wg gs'.size (λk=>(T' k).τ.own) (λk b=>(T' k).τ.still b\/(T' k).τ.pass b) (λk=>(T' k).ph.live) Shun w'.heap.size t'):
 Fc (P:=P) (ty:=ty) (Wg:=Wg) (A:=A) (Fin:=Fin) gs' w' t' T' tV Shun:=by
 have old:∀(j:Nat) (g:bC) (cs:Array zjp) (sh:Nz),gs'[j]? =some (parked g cs sh)->gs[j]? =some (parked g cs sh):=by
  intro j g cs sh hj;by_cases hm:M j
  .exact absurd rfl (zi1 j _ hm hj).1
  .rw[<-(zms j hm).1];exact hj
 refine⟨λj y hj=>?_,λa b ga gb c v z z' sh wZ ha hb=>h.slp a b ga gb c v z z' sh wZ (old _ _ _ _ ha) (old _ _ _ _ hb),λj g c z sh hj hc=>h.slpC j g c z sh (old _ _ _ _ hj) (tN c hc),λy hy xG hb=>?_,zjB⟩
 .by_cases hm:M j
  .exact(zi1 j y hm hj).2
  .obtain⟨h1,h2⟩:=zms j hm
   rw[h2,zDm j hm];rw[h1] at hj;exact(h.sit j y hj).rely (zlw j hm)
 .by_cases hm:M 0
  .exact absurd hb (zi1 0 y hm hy).1
  .obtain⟨h1,h2⟩:=zms 0 hm
   rw[h1] at hy;rw[h2] at xG;exact λe=>h.slpW y hy xG hb (hW e)
def zk8 (t:lT)(g:Nat)(u:lT)(hu:∀op∈u,op.act≠ .mark .disable/\op.act≠ .mark .enable):iE (t++u) g=iE t g:=by
 obtain⟨l⟩:=u;rw[Deaf_append];have key:∀(l:List Tb) (d:Nat),(∀op∈l,op.act≠ .mark .disable/\op.act≠ .mark .enable)->l.foldl (deafStep g) d=d:=by
  intro l
  induction l with
  |nil=>intro d _;rfl
  |cons y l ih=>
   intro d hl;have e:deafStep g d y=d:=by
    have:=hl y aP;unfold deafStep;split<;>simp_all
   rw[List.foldl_cons,e];exact ih d λop hop=>hl op (by simp[hop])
 exact key l _ λop hop=>hu op (by simpa using hop)
def TI.idles {n B:Nat}{own pas:Nat->Nat->Prop}{live:Nat->Prop}:∀(u:List Tb) {t:lT},TI Wg n own pas live Shun B t->(∀op∈u,op.g<n/\op.act.touch? =none/\op.act≠ .mark (.release (stA Wg))/\op.act.low B)->TI Wg n own pas live Shun B (t++u.toArray)
 |[],t,h,_=>by simpa using h
 |y::u,t,h,hu=>by
  have e1:t++(y::u).toArray=(t++ #[y])++u.toArray:=by apply Ja;simp
  rw[e1];obtain⟨h1,h2,h3,h4⟩:=hu y aP;exact TI.idles u (h.idle h1 (λa ha=>by rw[h2] at ha;cases ha) h3 h4) λop hop=>hu op (by simp[hop])
def Inv.offerR (h:Inv P ty Wg A Fin Shun gs w t T ch){k c:Nat}{y:bC}(hk:gs[k]? =some y)(aT:offersAt y c false≠[]):
 ∃l ok nx s z b,(T k).ph=.usr l/\A.act l=.recv c ok nx s/\y=parked (T k).g #[rcase c z] (.recv b)/\(∀aI,bT ty Wg (T k).τ w aI->stepG P (k==0) (T k).g aI=.comm (T k).g #[rcase c z] true (.recv b) aI #[]):=by
 have hs:=h.dy.sit k y hk;by_cases hl:(T k).ph.leaves
 .rw[G4 hl] at hs
  obtain⟨q,_,hQ⟩:=hs;refine absurd (Vt ?_ c false) aT;rcases hQ.status with e|e<;>rw[e]<;>simp
 .rw[pL hl] at hs
  obtain⟨r,_,_,hx|⟨l,cs,sh,h1,rfl,h3,h4⟩|⟨_,rfl,ho⟩⟩:=hs
  .exact absurd (Vt (by rw[hx.1];simp) c false) aT
  .rcases h4 with⟨c',ok,pub,nx,v,z,h5,rfl,rfl⟩|⟨c',ok,nx,s,z,b,h5,rfl,rfl⟩
   .exact absurd (offersAt_parked_send' _ _ _ _ _ _) aT
   .rw[znj] at aT
    by_cases hc:c'=c
    .subst hc;exact⟨l,ok,nx,s,z,b,h1,h5,rfl,h3⟩
    .rw[if_neg hc] at aT;exact absurd rfl aT
  .refine absurd ?_ aT
   simp[offersAt,ho]
def Inv.offerS (h:Inv P ty Wg A Fin Shun gs w t T ch){k c:Nat}{y:bC}(hk:gs[k]? =some y)(aT:offersAt y c true≠[]):
 ∃l ok pub nx v z,(T k).ph=.usr l/\A.act l=.send c ok pub nx/\y=parked (T k).g #[scase c v z] .send/\(∀aI,bT ty Wg (T k).τ w aI->stepG P (k==0) (T k).g aI=.comm (T k).g #[scase c v z] true .send aI #[]):=by
 have hs:=h.dy.sit k y hk;by_cases hl:(T k).ph.leaves
 .rw[G4 hl] at hs
  obtain⟨q,_,hQ⟩:=hs;refine absurd (Vt ?_ c true) aT;rcases hQ.status with e|e<;>rw[e]<;>simp
 .rw[pL hl] at hs
  obtain⟨r,_,_,hx|⟨l,cs,sh,h1,rfl,h3,h4⟩|⟨_,rfl,ho⟩⟩:=hs
  .exact absurd (Vt (by rw[hx.1];simp) c true) aT
  .rcases h4 with⟨c',ok,pub,nx,v,z,h5,rfl,rfl⟩|⟨c',ok,nx,s,z,b,h5,rfl,rfl⟩
   .rw[zi5] at aT
    by_cases hc:c'=c
    .subst hc;exact⟨l,ok,pub,nx,v,z,h1,h5,rfl,h3⟩
    .rw[if_neg hc] at aT;exact absurd rfl aT
   .exact absurd (offersAt_parked_recv' _ _ _ _ _) aT
  .refine absurd ?_ aT
   simp[offersAt,ho]
def setChan_at (w:aE)(c cap:Nat)(K8:Array aF)(cl:Bool)(s r:Nat)(tm:Bool)(h:c<w.heap.size):(w.setChan c cap K8 cl s r tm).heap[c]? =some (.chan cap K8 cl s r tm):=by
 simp[Le,h]
def zxE (w:aE)(c cap:Nat)(K8:Array aF)(cl:Bool)(s r:Nat)(tm:Bool):J4 c w (w.setChan c cap K8 cl s r tm):=
 ⟨rfl,rfl,rfl,by simp[Le],λk hk=>by simp only[Le];rw[jP (Ne.symm hk)]⟩
def Inv.meet (hA:A.Ok)(h:Inv P ty Wg A Fin Shun gs w t T ch)(rH:i≠j)(n8:i<gs.size)(Xf:j<gs.size){c:Nat}{li lj:L}{ok pN:aF->Prop}{pub:aF->List Nat}{nx nV:aF->L}{sh:L}
 (ziW:(T i).ph=.usr li) (Tc:A.act li=.send c ok pub nx) (zmt:(T j).ph=.usr lj) (zh8:A.act lj=.recv c pN nV sh) {ιi ιj:Type} {fi:ιi->Rk} {fj:ιj->Rk} (zFE:(T i).r=.inr (.mk ιi fi)) (Ml:(T j).r=.inr (.mk ιj fj))
 {v:aF} {τ':cF} {b:Bool} (bV:ok v) (ho:∀b,τ'.own b->(T i).τ.own b) (aY:τ'.still=(T i).τ.still) (Kh:∀b,τ'.pass b->(T i).τ.pass b\/(T i).τ.own b)
 (Cv:∀a∈pub v,(T i).τ.own a/\¬τ'.own a/\¬τ'.still a/\Ij w a)
 (zCg:∃k,o8 P ty Wg A Fin (fi k) (i==0) (.usr (nx v)) (iE t i) τ' (oS (T i).g aA) w)
 (zDy:pN v->(∀a∈A.got lj v,a<w.heap.size/\¬(T j).τ.own a/\¬(T j).τ.still a)->∃k,o8 P ty Wg A Fin (fj k) (j==0) (.usr (nV v)) (iE t j) (T j).τ (oS (T j).g (recvd b v true)) w)
 {s r:Nat} (hc:w.heap[c]? =some (.chan 0 #[] false s r false)) (cG:gs'.size=gs.size) (Eb:gs'[i]? =some (oS (T i).g aA)) (zbw:gs'[j]? =some (oS (T j).g (recvd b v true)))
 (zDI:∀k,k≠i->k≠j->gs'[k]? =gs[k]?) {u:lT} (hu:∀op∈u,op.g<gs.size/\op.act.touch? =none/\op.act≠ .mark (.release (stA Wg))/\op.act.low w.heap.size/\op.act≠ .mark .disable/\op.act≠ .mark .enable):
 ∃T' tV,Inv P ty Wg A Fin Shun gs' (w.setChan c 0 #[] false (s+1) (r+1) false) (t++u) T' tV/\Mu.lt (mu gs' T') (mu gs T):=by
 have zam:(λk=>(T k).ph.proj) i=.run li:=by show(T i).ph.proj=_;rw[ziW];rfl
 have Lt:(λk=>(T k).ph.proj) j=.run lj:=by show(T j).ph.proj=_;rw[zmt];rfl
 have Mq:=hA.sendC _ ch i li c ok pub nx h.st.inv zam Tc;obtain⟨zBl,hinv⟩:=hA.meet _ ch i j li lj c ok pub nx pN nV sh v h.st.inv zam Lt Tc zh8 bV λa ha=>(h.st.bnd i a (.inl (Cv a ha).1)).2.2;obtain⟨ki,zBk⟩:=zCg
 obtain⟨kj,zG8⟩:=zDy zBl λa ha=>by
  obtain⟨p1,_,_,p4⟩:=Cv a (hA.gotP _ ch i j li lj c ok pub nx pN nV sh v h.st.inv zam Lt Tc zh8 bV a ha);obtain⟨q1,q2,_⟩:=h.st.sep i j a rH p1;exact⟨(dQ.1 p4).1,q1,q2⟩
 have Ir:=(dQ.1 hc).1;have a:=zxE w c 0 #[] false (s+1) (r+1) false;have zH:=(h.st.chan c _ Mq).1
 have hS:=h.st.meet rH n8 Xf Mq a ziW zmt (.inr (fi ki)) (.inr (fj kj)) (oS (T i).g aA) (oS (T j).g (recvd b v true)) τ' (pub v) ho aY Kh Cv
  ⟨s+1,r+1,setChan_at w c 0 #[] false (s+1) (r+1) false Ir⟩ (li':=nx v) (lj':=nV v) (hA.pendC li _ c v ok pub nx Tc rfl) (hA.pendR lj _ c v pN nV sh zh8 (.inl rfl)) hinv
 have nc:∀k,¬(T k).τ.own c/\¬(T k).τ.still c:=λk=>⟨λe=>zyn,λe=>zq2⟩;have Km:∀k,iE (t++u) k=iE t k:=λk=>zk8 t k u λop hop=>⟨(hu op hop).2.2.2.2.1,(hu op hop).2.2.2.2.2⟩;generalize hU:bH (bH T i ⟨.usr (nx v),.inr (fi ki),τ',oS (T i).g aA⟩) j ⟨.usr (nV v),.inr (fj kj),(T j).τ,oS (T j).g (recvd b v true)⟩=U at hS;have ui:U i=⟨.usr (nx v),.inr (fi ki),τ',oS (T i).g aA⟩:=by rw[<-hU,upd_ne _ _ rH,upd_same]
 have uj:U j=⟨.usr (nV v),.inr (fj kj),(T j).τ,oS (T j).g (recvd b v true)⟩:=by rw[<-hU,upd_same]
 have uk:∀k,k≠i->k≠j->U k=T k:=λk h1 h2=>by rw[<-hU,upd_ne _ _ h2,upd_ne _ _ h1]
 refine⟨U,ch.opn (pub v),⟨by rw[cG];exact hS,h.dy.gen (λk=>k=i\/k=j) (λk hk=>⟨zDI k (λe=>hk (.inl e)) (λe=>hk (.inr e)),uk k (λe=>hk (.inl e)) (λe=>hk (.inr e))⟩) (λk y hk hy=>?_)
  (λk _=>bT.of_aside a (nc k) (Wo a zH)) (λk _=>Km k) (λc' kS=>?_) (λe=>(a.block Wg (Ne.symm zH)).symm.trans e) ?_⟩,?_⟩
 .rcases hk with rfl|rfl
  .rw[Eb] at hy;cases hy
   refine⟨by simp[oS],?_⟩;rw[ui,Km];refine(pL (T:=⟨.usr (nx v),.inr (fi ki),τ',oS (T k).g aA⟩) id).2 ⟨fi ki,rfl,zBk.rely (bT.of_aside a ⟨λe=>(nc k).1 (ho c e),λe=>(nc k).2 (aY▸e)⟩ (Wo a zH)),.inl (lS.self rfl)⟩
  .rw[zbw] at hy;cases hy
   refine⟨by simp[oS],?_⟩;rw[uj,Km];exact(pL (T:=⟨.usr (nV v),.inr (fj kj),(T k).τ,oS (T k).g (recvd b v true)⟩) id).2 ⟨fj kj,rfl,zG8.rely (bT.of_aside a (nc k) (Wo a zH)),.inl (lS.self rfl)⟩
 .by_cases hp:c'∈pub v
  .rw[zej hp] at kS;cases kS
  .rw[Z0 hp] at kS;exact kS
 .rw[cG,a.size]
  have h1:=h.dy.tr.idles u.toList (λop hop=>by have:=hu op (by simpa using hop);exact⟨this.1,this.2.1,this.2.2.1,this.2.2.2.1⟩);have e0:u.toList.toArray=u:=aP;rw[e0] at h1;have e3:(λk=>(U k).ph.live)=λk=>(T k).ph.live:=funext λk=>by
   by_cases k1:k=i
   .subst k1;rw[ui,ziW];rfl
   .by_cases k2:k=j
    .subst k2;rw[uj,zmt];rfl
    .rw[uk k k1 k2]
  rw[e3];refine h1.less (λk b _ hb=>?_) (λk b _ hb=>?_) (aV _)
  .by_cases k1:k=i
   .subst k1;rw[ui] at hb;exact .inl (ho b hb)
   .by_cases k2:k=j
    .subst k2;rw[uj] at hb;exact .inl hb
    .rw[uk k k1 k2] at hb;exact .inl hb
  .by_cases k1:k=i
   .subst k1;rw[ui] at hb
    rcases hb with hb|hb
    .exact .inl (.inl (aY▸hb))
    .exact(Kh b hb).elim (λe=>.inl (.inr e)) λe=>.inr (.inl e)
   .by_cases k2:k=j
    .subst k2;rw[uj] at hb;exact .inl hb
    .rw[uk k k1 k2] at hb;exact .inl hb
 .rcases mY i j with aN|Bx
  .exact Yl (i:=i) (λ_=>cG) aC n8 aC (by rw[ui,zFE];exact .inr (.mk fi ki)) λk hk=>by rw[uk k aC aC]
  .exact Yl (i:=j) (λ_=>cG) aC Xf aC (by rw[uj,Ml];exact .inr (.mk fj kj)) λk hk=>by rw[uk k aC aC]
def zAT {xs:Array bC}{i:Nat}{y z:bC}(h:xs[i]? =some y)(hy:Nf y=true)(hz:Nf z=false):(xs.setIfInBounds i z).countP Nf<xs.countP Nf:=by
 obtain⟨aN,rfl⟩:=dQ.1 h;have e:xs.setIfInBounds i z=xs.set i z:=by simp[Array.setIfInBounds,aN]
 rw[e,Array.countP_set aN];have:=Array.countP_pos_iff.2 ⟨xs[i],Array.getElem_mem aN,hy⟩;simp only[hy,hz,if_true,jE,if_false];omega
def Inv.park (h:Inv P ty Wg A Fin Shun gs w t T ch)(hi:gs[i]? =some x)(cH:x.status=.running)(oU:¬(T i).ph.leaves){y:bC}(hy:y.status=.blocked)
 (hP:zgc P ty Wg A (i==0) (T i) y w\/zmF (T i) y) (hW:i=0->(T 0).ph=.w3->¬gD ty Wg w 0 1)
 (hR:∀(c:Nat) (v z:aF) (sh:Nz) (g:bC),y=parked g #[scase c v z] sh->∀(k:Nat) (yk:bC),gs[k]? =some yk->offersAt yk c false=[]) (hS:∀(c:Nat) (z:aF) (sh:Nz) (g:bC),y=parked g #[rcase c z] sh->ch c≠some true/\∀(k:Nat) (yk:bC),gs[k]? =some yk->offersAt yk c true=[]):
 Inv P ty Wg A Fin Shun (gs.setIfInBounds i y) w (t++ #[]) T ch/\Mu.lt (mu (gs.setIfInBounds i y) T) (mu gs T):=by
 have aN:=(dQ.1 hi).1;have cG:(gs.setIfInBounds i y).size=gs.size:=aP;have get:∀(k:Nat) (z:bC),(gs.setIfInBounds i y)[k]? =some z->(k=i/\z=y)\/(k≠i/\gs[k]? =some z):=by
  intro k z hk;by_cases Cz:i=k
  .subst Cz
   rw[Lx aN] at hk;exact .inl ⟨rfl,(cE hk).symm⟩
  .rw[jP Cz] at hk
   exact .inr ⟨λe=>Cz e.symm,hk⟩
 have et:t++ #[]=t:=aP;refine⟨⟨by rw[cG];exact h.st,?_⟩,zHk cG (zAT hi (by simp[Nf,cH]) (by simp[Nf,hy]))⟩;rw[et];refine⟨λk z hk=>?_,λa b ga gb c v z z' sh wZ ha hb=>?_,λk g c z sh hk=>?_,λz hz xG hb=>?_,by rw[cG];exact h.dy.tr⟩
 .rcases get k z hk with⟨rfl,rfl⟩|⟨aT,cO⟩
  .have hs:=h.dy.sit k x hi
   rw[pL oU] at hs⊢;obtain⟨r,h1,h2,_⟩:=hs;exact⟨r,h1,h2,.inr hP⟩
  .exact h.dy.sit k z cO
 .rcases get a _ ha with⟨ea,fN⟩|⟨Mn,fN⟩
  .rcases get b _ hb with⟨eb,bZ⟩|⟨nJ,bZ⟩
   .rw[<-fN] at bZ
    simp[parked,rcase,scase] at bZ
   .have:=hR c v z sh ga fN.symm b _ bZ
    rw[znj] at this;simp at this
  .rcases get b _ hb with⟨eb,bZ⟩|⟨nJ,bZ⟩
   .have:=(hS c z' wZ gb bZ.symm).2 a _ fN
    rw[zi5] at this;simp at this
   .exact h.dy.slp a b ga gb c v z z' sh wZ fN bZ
 .rcases get k _ hk with⟨_,e⟩|⟨_,cO⟩
  .exact(hS c z sh g e.symm).1
  .exact h.dy.slpC k g c z sh cO
 .rcases get 0 z hz with⟨e,_⟩|⟨_,cO⟩
  .exact hW e.symm xG
  .exact h.dy.slpW z cO xG hb
end
section
variable {L:Type}{P:bR}{ty:aM}{Wg:Nat}{A:jU L}{Fin:bC->aE->Prop}{Shun:Loc->Prop}
variable {gs gs':Array bC}{w w':aE}{t t':lT}{T T':Nat->Td L}{ch tV:rC}{sl:Option (Nat×Nat)}{i j:Nat}{x g':bC}{es:Array oL}
def zed (i:Nat)(fn:aO)(pos:String):wC i fn pos #[]=#[]:=rfl
variable {b:Bool}
def zmU {c:Nat}(h:∀(k:Nat) (y:bC),gs[k]? =some y->offersAt y c b=[]):partners (gs.setIfInBounds i zfD) c b=[]:=by
 refine partners_nil λk y hk=>?_;rcases zvD gs i k y hk with⟨_,rfl⟩|⟨_,cO⟩
 .rfl
 .exact h k y cO
def zqH {c k:Nat}{y:bC}(Cz:k≠i)(hk:gs[k]? =some y)(ho:offersAt y c b=[0])(h:∀(m:Nat) (z:bC),m≠k->gs[m]? =some z->offersAt z c b=[]):partners (gs.setIfInBounds i zfD) c b=[(k,0)]:=by
 rw[partners_one (stand_get Cz hk) λm z hm hz=>?_,ho]
 .rfl
 .rcases zvD gs i m z hz with⟨_,rfl⟩|⟨_,Hi⟩
  .rfl
  .exact h m z hm Hi
def Inv.send (hA:A.Ok)(h:Inv P ty Wg A Fin Shun gs w t T ch)(hi:gs[i]? =some x)(dN:lS x (T i).g){ι:Type}{f:ι->Rk}(hr:(T i).r=.inr (.mk ι f)){l:L}(hl:(T i).ph=.usr l){c:Nat}{ok:aF->Prop}{pub:aF->List Nat}{nx:aF->L}
 (ha:A.act l=.send c ok pub nx) (hB:mE P ty Wg A (λm ph d τ g w=>∃k,o8 P ty Wg A Fin (f k) m ph d τ g w) (i==0) l (iE t i) (T i).τ (T i).g w):vC P ty Wg A Fin Shun gs w t T sl i:=by
 have aN:i<gs.size:=(dQ.1 hi).1;unfold mE at hB;rw[ha] at hB;obtain⟨C0,v,z,τ',h1,h2,h3,h4,L8,h5,h6⟩:=hB;have hp:(λk=>(T k).ph.proj) i=.run l:=by show(T i).ph.proj=_;rw[hl];rfl
 have Mq:=hA.sendC _ ch i l c ok pub nx h.st.inv hp ha;obtain⟨_,s,r,hc⟩:=h.st.chan c _ Mq;have vK:stepG P (i==0) x w=.comm (T i).g #[scase c v z] true .send w #[]:=by rw[dN.step];exact h1 w bT.refl
 by_cases hk:∃(k:Nat) (y:bC),gs[k]? =some y/\offersAt y c false≠[]
 .obtain⟨k,y,hk,aT⟩:=hk
  have Cz:k≠i:=λe=>by
   subst e;rw[hi] at hk;cases hk;exact aT (Vt (by rw[dN.1];simp) c false)
  have Vd:k<gs.size:=(dQ.1 hk).1;obtain⟨lk,pN,nV,sh,zk,b,wX,Of,rfl,zag⟩:=h.offerR hk aT;have zl9:(λk=>(T k).ph.proj) k=.run lk:=by show(T k).ph.proj=_;rw[wX];rfl
  have zjH:partners (gs.setIfInBounds i zfD) c false=[(k,0)]:=by
   refine zqH Cz hk (by rw[znj];simp) λm y' hm zi7=>zC λhn=>?_;obtain⟨lm,zjz,zmb,sm,_,_,V3,zhR,_⟩:=h.offerR zi7 hn;exact hm (hA.recv1 _ ch m k lm lk c zjz zmb sm pN nV sh h.st.inv (by show(T m).ph.proj=_;rw[V3];rfl) zl9 zhR Of)
  have zbS:=crowd_send_meets (P:=P) (sl:=sl) hi vK hc Cz hk zjH;have hs:=h.dy.sit k _ hk;rw[pL (by rw[wX];exact id)] at hs;obtain⟨rk,zm0,x7,_⟩:=hs
  cases rk with
  |mk ιk fk=>
   obtain⟨_,x7⟩:=x7;rw[wX] at x7;rcases x7 with x7|x7
   .obtain⟨g',w',es,aY,_⟩:=x7 w bT.refl
    rw[zag w bT.refl] at aY;cases aY
   .simp only[zQ,mE,Of] at x7
    obtain⟨_,z',b',n9,vI,I8⟩:=x7;have e:=(n9 w bT.refl).symm.trans (zag w bT.refl);simp only[zqw,rcase,zfP,X8,zfm,zFF,true_and,and_true] at e;obtain⟨_,eb⟩:=e;subst eb
    obtain⟨T',tV,hI,Kv⟩:=h.meet hA (Ne.symm Cz) aN Vd hl ha wX Of hr zm0 (v:=v) (τ':=τ') (b:=b') h2 h3 h4 L8 h5 h6 (λhv hg=>vI v hv w bT.refl hg) hc
     (gs':=(gs.setIfInBounds k (oS (T k).g (recvd b' v true))).setIfInBounds i (oS (T i).g aA)) aP (by simp[aN]) ztI
     (λm h1 h2=>by rw[jP (Ne.symm h1),jP (Ne.symm h2)])
     (u:=#[{g:=i,fn:=(T i).g.frame.fn,pos:=(T i).g.frame.place,act:=.send c s},{g:=k,fn:=(T k).g.frame.fn,pos:=(T k).g.frame.place,act:=.recv c r 0},{g:=i,fn:=(T i).g.frame.fn,pos:=(T i).g.frame.place,act:=.sendDone c s},{g:=k,fn:=(T k).g.frame.fn,pos:=(T k).g.frame.place,act:=.recvDone c r}])
     (λop hop=>by
      have Ir:c<w.heap.size:=(dQ.1 hc).1;simp only[Gk,jH,l8,or_false] at hop;rcases hop with rfl|rfl|rfl|rfl<;>exact⟨by first|exact aN|exact Vd,rfl,aP,Ir,aP,aP⟩)
    rw[zjb,ztt,zed,zka] at zbS;exact⟨_,_,zbS,.inr ⟨_,_,sl,T',tV,rfl,hI,Kv⟩⟩
 .have dB:∀(k:Nat) (y:bC),gs[k]? =some y->offersAt y c false=[]:=λk y zb7=>zC λhn=>hk ⟨k,y,zb7,hn⟩
  have vQ:=crowd_waits (P:=P) (sl:=sl) hi vK (λcc sJ=>by
   simp only[Gk,jH,l8,or_false] at sJ;subst sJ;exact ways_send_none hc (jO _) (zmU dB))
  have hp:=h.park hi dN.1 znl (y:=parked (T i).g #[scase c v z] .send) rfl (.inl ⟨l,_,_,hl,rfl,h1,.inl ⟨c,ok,pub,nx,v,z,ha,rfl,rfl⟩⟩) (λe e2=>by subst e;rw[hl] at e2;cases e2)
   (λc' v' z' wZ g' e=>by
    simp only[parked,zwz,fY,pP,zfP,X8,scase,zfm,zvp,and_true,true_and] at e;obtain⟨_,_,_,⟨e,_⟩,_⟩:=e;subst e;exact dB)
   (λc' z' wZ g' e=>by simp[parked,scase,rcase] at e)
  exact⟨_,_,vQ,.inr ⟨_,_,sl,T,ch,rfl,hp.1,hp.2⟩⟩
def Inv.recv (hA:A.Ok)(h:Inv P ty Wg A Fin Shun gs w t T ch)(hi:gs[i]? =some x)(dN:lS x (T i).g){ι:Type}{f:ι->Rk}(hr:(T i).r=.inr (.mk ι f)){l:L}(hl:(T i).ph=.usr l){c:Nat}{ok:aF->Prop}{nx:aF->L}{sh:L}
 (ha:A.act l=.recv c ok nx sh) (hB:mE P ty Wg A (λm ph d τ g w=>∃k,o8 P ty Wg A Fin (f k) m ph d τ g w) (i==0) l (iE t i) (T i).τ (T i).g w):vC P ty Wg A Fin Shun gs w t T sl i:=by
 have aN:i<gs.size:=(dQ.1 hi).1;unfold mE at hB;rw[ha] at hB;obtain⟨C0,z,b,h1,h2,h3⟩:=hB;have hp:(λk=>(T k).ph.proj) i=.run l:=by show(T i).ph.proj=_;rw[hl];rfl
 obtain⟨cl,mG⟩:=hA.recvC _ ch i l c ok nx sh h.st.inv hp ha;obtain⟨zH,s,r,hc⟩:=h.st.chan c _ mG;have Ir:c<w.heap.size:=(dQ.1 hc).1;have vK:stepG P (i==0) x w=.comm (T i).g #[rcase c z] true (.recv b) w #[]:=by rw[dN.step];exact h1 w bT.refl
 cases cl with
 |true=>
  have dB:∀(k:Nat) (y:bC),gs[k]? =some y->offersAt y c true=[]:=λk y zb7=>zC λhn=>by
   obtain⟨lk,zJs,zFK,zF9,_,_,wX,Of,_⟩:=h.offerS zb7 hn;have:=hA.sendC _ ch k lk c zJs zFK zF9 h.st.inv (by show(T k).ph.proj=_;rw[wX];rfl) Of;rw[mG] at this;cases this
  have cH:=crowd_recv_closed (P:=P) (sl:=sl) hi vK hc (zmU dB);rw[zjb,zed,zka] at cH;obtain⟨zCl,hinv⟩:=hA.shut _ ch i l c ok nx sh h.st.inv hp ha mG;obtain⟨k,hk⟩:=h3 zCl;have Ab:=gQ.usr (l:=l) h.st.grp hl aN (hA.pendR l sh c aA ok nx sh ha (.inr rfl));have hS:=h.st.phase (r:=.inr (f k)) (g':=oS (T i).g (recvd b z false)) (by rw[hl];simp) aN (Mo _ _) (.usr sh) aP (λ_=>trivial) (λ_ e=>e) id (λl' e=>by simp[Ph.proj] at e) Ab hinv;have cG:(gs.setIfInBounds i (oS (T i).g (recvd b z false))).size=gs.size:=aP;have Km:∀k,iE (t++(#[{g:=i,fn:=(T i).g.frame.fn,pos:=(T i).g.frame.place,act:=.recvClosed c}]:lT)) k=iE t k:=λk=>zk8 t k _ λop hop=>by
   simp only[Gk,jH,l8,or_false] at hop;subst hop;exact⟨aP,aP⟩
  refine⟨_,_,cH,.inr ⟨gs.setIfInBounds i (oS (T i).g (recvd b z false)),w,sl,bH T i ⟨.usr sh,.inr (f k),(T i).τ,oS (T i).g (recvd b z false)⟩,ch,rfl,⟨by rw[cG];exact hS,?_⟩,?_⟩⟩
  .show Fc _ _ (t++(#[{g:=i,fn:=(T i).g.frame.fn,pos:=(T i).g.frame.place,act:=.recvClosed c}]:lT)) _ _ _
   refine h.dy.gen (λk'=>k'=i) (λk' cO=>⟨by rw[jP (Ne.symm cO)],upd_ne _ _ cO⟩) (λk' y cO hy=>?_) (λ_ _=>bT.refl) (λk' _=>Km k') (λ_ e=>e) id ?_
   .subst cO
    rw[Lx aN] at hy;cases hy;refine⟨by simp[oS],?_⟩;rw[upd_same,Km];exact(pL (T:=⟨.usr sh,.inr (f k),(T k').τ,oS (T k').g (recvd b z false)⟩) id).2 ⟨f k,rfl,hk,.inl (lS.self rfl)⟩
   .rw[cG]
    have h0:=h.dy.tr.phase (i:=i) (ph':=.usr sh) (.inr (f k)) (oS (T i).g (recvd b z false)) ⟨λ_=>by rw[hl];trivial,λ_=>trivial⟩;exact h0.idles [{g:=i,fn:=(T i).g.frame.fn,pos:=(T i).g.frame.place,act:=.recvClosed c}] λop hop=>by
     simp only[jH,l8,or_false] at hop;subst hop;exact⟨aN,rfl,aP,Ir⟩
  .exact Yl (i:=i) (λ_=>cG) aC aN aC zqv λk' cO=>by rw[upd_ne _ _ aC]
 |false=>
  by_cases hk:∃(k:Nat) (y:bC),gs[k]? =some y/\offersAt y c true≠[]
  .obtain⟨k,y,hk,aT⟩:=hk
   have Cz:k≠i:=λe=>by
    subst e;rw[hi] at hk;cases hk;exact aT (Vt (by rw[dN.1];simp) c true)
   have Vd:k<gs.size:=(dQ.1 hk).1;obtain⟨lk,pN,Pz,nV,v,zk,wX,Of,rfl,zag⟩:=h.offerS hk aT;have zl9:(λk=>(T k).ph.proj) k=.run lk:=by show(T k).ph.proj=_;rw[wX];rfl
   have zjH:partners (gs.setIfInBounds i zfD) c true=[(k,0)]:=by
    refine zqH Cz hk (by rw[zi5];simp) λm y' hm zi7=>zC λhn=>?_;obtain⟨lm,zjz,zEW,zmb,_,_,V3,zhR,_⟩:=h.offerS zi7 hn;exact hm (hA.send1 _ ch m k lm lk c zjz zEW zmb pN Pz nV h.st.inv (by show(T m).ph.proj=_;rw[V3];rfl) zl9 zhR Of)
   have zbS:=crowd_recv_meets (P:=P) (sl:=sl) hi vK hc Cz hk zjH;have hs:=h.dy.sit k _ hk;rw[pL (by rw[wX];exact id)] at hs;obtain⟨rk,zm0,x7,_⟩:=hs
   cases rk with
   |mk ιk fk=>
    obtain⟨_,x7⟩:=x7;rw[wX] at x7;rcases x7 with x7|x7
    .obtain⟨g',w',es,aY,_⟩:=x7 w bT.refl
     rw[zag w bT.refl] at aY;cases aY
    .simp only[zQ,mE,Of] at x7
     obtain⟨_,v',z',τ',n9,vI,I8,znL,zB0,zAt,zz9⟩:=x7;have e:=(n9 w bT.refl).symm.trans (zag w bT.refl);simp only[zqw,scase,zfP,X8,zfm,fY,true_and,and_true] at e;obtain⟨ev,_⟩:=e;subst ev
     obtain⟨T',tV,hI,Kv⟩:=h.meet hA Cz Vd aN wX Of hl ha zm0 hr (v:=v') (τ':=τ') (b:=b) vI I8 znL zB0 zAt zz9 (λhv hg=>h2 v' hv w bT.refl hg) hc
      (gs':=(gs.setIfInBounds k (oS (T k).g aA)).setIfInBounds i (oS (T i).g (recvd b v' true))) aP ztI (by simp[aN])
      (λm h1 h2=>by rw[jP (Ne.symm h2),jP (Ne.symm h1)])
      (u:=#[{g:=k,fn:=(T k).g.frame.fn,pos:=(T k).g.frame.place,act:=.send c s},{g:=i,fn:=(T i).g.frame.fn,pos:=(T i).g.frame.place,act:=.recv c r 0},{g:=k,fn:=(T k).g.frame.fn,pos:=(T k).g.frame.place,act:=.sendDone c s},{g:=i,fn:=(T i).g.frame.fn,pos:=(T i).g.frame.place,act:=.recvDone c r}])
      (λop hop=>by
       simp only[Gk,jH,l8,or_false] at hop;rcases hop with rfl|rfl|rfl|rfl<;>exact⟨by first|exact aN|exact Vd,rfl,aP,Ir,aP,aP⟩)
     rw[zjb,ztt,zed,zka] at zbS;exact⟨_,_,zbS,.inr ⟨_,_,sl,T',tV,rfl,hI,Kv⟩⟩
  .have dB:∀(k:Nat) (y:bC),gs[k]? =some y->offersAt y c true=[]:=λk y zb7=>zC λhn=>hk ⟨k,y,zb7,hn⟩
   have vQ:=crowd_waits (P:=P) (sl:=sl) hi vK (λcc sJ=>by
    simp only[Gk,jH,l8,or_false] at sJ;subst sJ;exact ways_recv_none hc (zmU dB))
   have hp:=h.park hi dN.1 znl (y:=parked (T i).g #[rcase c z] (.recv b)) rfl (.inl ⟨l,_,_,hl,rfl,h1,.inr ⟨c,ok,nx,sh,z,b,ha,rfl,rfl⟩⟩) (λe e2=>by subst e;rw[hl] at e2;cases e2)
    (λc' v' z' wZ g' e=>by simp[parked,scase,rcase] at e)
    (λc' z' wZ g' e=>by
     simp only[parked,zwz,fY,pP,zfP,X8,rcase,zfm,zvp,and_true,true_and] at e;obtain⟨_,_,_,⟨e,_⟩,_⟩:=e;subst e;exact⟨(by rw[mG];simp),dB⟩)
   exact⟨_,_,vQ,.inr ⟨_,_,sl,T,ch,rfl,hp.1,hp.2⟩⟩
def Inv.close (hA:A.Ok)(h:Inv P ty Wg A Fin Shun gs w t T ch)(hi:gs[i]? =some x)(dN:lS x (T i).g){ι:Type}{f:ι->Rk}(hr:(T i).r=.inr (.mk ι f)){l:L}(hl:(T i).ph=.usr l){c:Nat}{nx:L}
 (ha:A.act l=.close c nx) (hB:mE P ty Wg A (λm ph d τ g w=>∃k,o8 P ty Wg A Fin (f k) m ph d τ g w) (i==0) l (iE t i) (T i).τ (T i).g w):vC P ty Wg A Fin Shun gs w t T sl i:=by
 have aN:i<gs.size:=(dQ.1 hi).1;unfold mE at hB;rw[ha] at hB;obtain⟨zbl,zC2,h1⟩:=hB;have hp:(λk=>(T k).ph.proj) i=.run l:=by show(T i).ph.proj=_;rw[hl];rfl
 obtain⟨Mq,hinv⟩:=hA.close _ ch i l c nx h.st.inv hp ha;obtain⟨zH,s,r,hc⟩:=h.st.chan c _ Mq;have Ir:c<w.heap.size:=(dQ.1 hc).1;obtain⟨g',aY,lX,k,hk⟩:=h1 w bT.refl s r hc;have a:=zxE w c 0 #[] true s r false;have hS:=h.st.close aN Mq a hl (.inr (f k)) g' (l':=nx) ⟨s,r,setChan_at w c 0 #[] true s r false Ir⟩ (gQ.usr (l:=l) h.st.grp hl aN (hA.pendX l c nx ha)) hinv;have nc:∀k,¬(T k).τ.own c/\¬(T k).τ.still c:=λk=>⟨λe=>zyn,λe=>zq2⟩;have hd:n6 (iE t i) (closeEvents c)=iE t i:=zp8 (λe he=>by
  simp only[closeEvents,Gk,jH,l8,or_false] at he;rcases he with rfl|rfl<;>exact⟨aP,aP⟩) _
 have zfv:mayWake P x=true:=by rw[<-zbl];unfold mayWake;rw[dN.2.1]
 have Ow:bH T i ⟨.usr nx,.inr (f k),(T i).τ,g'⟩ i=⟨.usr nx,.inr (f k),(T i).τ,g'⟩:=upd_same _ _ _;refine U6 hi h.st.n0 (Ti:=⟨.usr nx,.inr (f k),(T i).τ,g'⟩) zaY P7 hS ?_
 refine h.dy.go hi (by rw[hd];exact(pL (T:=⟨.usr nx,.inr (f k),(T i).τ,g'⟩) id).2 ⟨f k,rfl,hk,.inl (lS.self lX)⟩) Jy (λj _=>bT.of_aside a (nc j) (Wo a zH)) ?_
  (h.dy.keepW λe=>(a.block Wg (Ne.symm zH)).symm.trans e) ?_
 .intro j gj c' z sh hj cM e
  by_cases sJ:c'=c
  .subst sJ
   unfold woken at cM;rw[zfv,lX] at cM;have:=again_recv_closed (g:=gj) (z:=z) (sh:=sh) (setChan_at w c' 0 #[] true s r false Ir);simp only[Bool.true_and] at cM;rw[if_pos Ks,this] at cM;have:(GoStatus.running:GoStatus)=.blocked:=by
    have h2:=congrArg bC.status cM;simp[parked] at h2
   cases this
  .rw[upd_ne _ _ sJ] at e
   exact h.dy.slpC j gj c' z sh hj e
 .refine hS.tiEvents aN (by rw[Ow];trivial) _ _ ?_ λe he=>?_
  .have:=h.dy.tr.phase (i:=i) (ph':=.usr nx) (.inr (f k)) g' ⟨λ_=>by rw[hl];trivial,λ_=>trivial⟩
   rwa [a.size]
  .rw[Ow]
   simp only[closeEvents,Gk,jH,l8,or_false] at he;rw[a.size];rcases he with rfl|rfl
   .refine⟨λy hy=>?_,by simp[jJ],Ir⟩
    simp only[jJ,qG,fY] at hy;subst hy;exact .inl ⟨c,zH,rfl,.inr ⟨.inr zC2,rfl⟩⟩
   .exact⟨λy hy=>by simp[jJ,qG] at hy,by simp[jJ],Ir⟩
def Inv.spawn (hA:A.Ok)(h:Inv P ty Wg A Fin Shun gs w t T ch)(hi:gs[i]? =some x)(dN:lS x (T i).g){ι:Type}{f:ι->Rk}(hr:(T i).r=.inr (.mk ι f)){l:L}(hl:(T i).ph=.usr l){pub:List Nat}{lc nx:L}
 (ha:A.act l=.spawn pub lc nx) (hB:mE P ty Wg A (λm ph d τ g w=>∃k,o8 P ty Wg A Fin (f k) m ph d τ g w) (i==0) l (iE t i) (T i).τ (T i).g w):vC P ty Wg A Fin Shun gs w t T sl i:=by
 unfold mE at hB;rw[ha] at hB;obtain⟨hd,h1⟩:=hB;have hp:(λk=>(T k).ph.proj) i=.run l:=by show(T i).ph.proj=_;rw[hl];rfl
 obtain⟨rfl,Oc,yQ,hinv⟩:=hA.spawn _ ch i l pub lc nx gs.size h.st.inv hp ha;obtain⟨g',child,τm,τc,aY,zrt,zn7,ho,hs,oQ,vZ,Av,Cv,⟨km,zIb⟩,⟨kc,H3⟩⟩:=h1 w bT.refl;have hn:=h.st.n0;have zzP:=hinv (by show(T gs.size).ph.proj=_;rw[h.st.ou _ (aV _)];rfl) aC λa Kh=>(h.st.bnd 0 a (.inl (Cv a Kh).1)).2.2;have hS:=h.st.fork hl Oc yQ (.inr (f km)) (.inr (f kc)) g' child τm τc pub ho hs oQ vZ Av Cv zzP;have cH:=runT_crowd_spawn (P:=P) (sl:=sl) hi (show stepG P (0==0) x w=_ by rw[dN.step];exact aY);have cG:((gs.setIfInBounds 0 g').push child).size=gs.size+1:=aP;generalize hU:bH (bH T 0 ⟨.usr nx,.inr (f km),τm,g'⟩) gs.size ⟨.usr lc,.inr (f kc),τc,child⟩=U at hS;have u0:U 0=⟨.usr nx,.inr (f km),τm,g'⟩:=by rw[<-hU,upd_ne _ _ aC,upd_same]
 have un:U gs.size=⟨.usr lc,.inr (f kc),τc,child⟩:=by rw[<-hU,upd_same]
 have uk:∀k,k≠0->k≠gs.size->U k=T k:=λk h1 h2=>by rw[<-hU,upd_ne _ _ h2,upd_ne _ _ h1]
 have zkc:((wC 0 x.frame.fn x.frame.place #[]).push {g:=0,fn:=x.frame.fn,pos:=x.frame.place,act:=.go gs.size}|>.push {g:=gs.size,fn:=child.frame.fn,pos:=x.frame.place,act:=.start})
  =#[{g:=0,fn:=x.frame.fn,pos:=x.frame.place,act:=.go gs.size},{g:=gs.size,fn:=child.frame.fn,pos:=x.frame.place,act:=.start}]:=rfl
 rw[zkc] at cH;have Km:∀k,iE (t++(#[{g:=0,fn:=x.frame.fn,pos:=x.frame.place,act:=.go gs.size},{g:=gs.size,fn:=child.frame.fn,pos:=x.frame.place,act:=.start}]:lT)) k=iE t k:=λk=>zk8 t k _ λop hop=>by
  simp only[Gk,jH,l8,or_false] at hop;rcases hop with rfl|rfl<;>exact⟨aP,aP⟩
 refine⟨_,_,cH,.inr ⟨(gs.setIfInBounds 0 g').push child,w,sl,U,ch.opn pub,rfl,⟨by rw[cG];exact hS,h.dy.gen (λk=>k=0\/gs.size<=k) (λk hk=>?_) (λk y hk hy=>?_) (λ_ _=>bT.refl) (λk _=>Km k) (λc hc=>?_) id ?_⟩,?_⟩⟩
 .have n9:k≠0:=λe=>hk (.inl e)
  have vI:k<gs.size:=Nat.lt_of_not_le λe=>hk (.inr e);refine⟨?_,uk k n9 aC⟩;rw[Zl,zwd,if_neg aC,jP (Ne.symm n9)]
 .rw[Zl,zwd] at hy
  rcases hk with rfl|hk
  .rw[if_neg aC,Lx hn] at hy
   cases hy;refine⟨by rw[zrt];simp,?_⟩;rw[u0,Km,hd];exact(pL (T:=⟨.usr nx,.inr (f km),τm,g'⟩) id).2 ⟨f km,rfl,zIb,.inl (lS.self zrt)⟩
  .by_cases cO:k=gs.size
   .subst cO
    rw[if_pos rfl] at hy;cases hy;refine⟨by rw[zn7];simp,?_⟩;rw[un,Km,h.dy.tr.above _ (aV _)];have e0:(gs.size==0)=false:=beq_eq_false_iff_ne.2 aC;exact(pL (T:=⟨.usr lc,.inr (f kc),τc,child⟩) id).2 ⟨f kc,rfl,by rw[e0];exact H3,.inl (lS.self zn7)⟩
   .rw[if_neg cO,Array.getElem?_eq_none qR] at hy
    cases hy
 .by_cases mU:c∈pub
  .rw[zej mU] at hc;cases hc
  .rw[Z0 mU] at hc;exact hc
 .rw[cG]
  refine h.dy.tr.fork (live':=λk=>(U k).ph.live) (by show(T 0).ph.live;rw[hl];trivial) hn ⟨rfl,rfl⟩ ⟨rfl,rfl⟩ hd (λk=>?_) (by show ¬(T gs.size).ph.live;rw[h.st.ou _ (aV _)];exact id) (λk b hk iR hb=>?_) (λk b hk iR hb=>?_) (λb hb=>?_) λb hb=>?_
  .show(U k).ph.live↔(T k).ph.live\/k=gs.size
   by_cases k1:k=0
   .subst k1;rw[u0,hl];exact⟨λ_=>.inl trivial,λ_=>trivial⟩
   .by_cases k2:k=gs.size
    .subst k2;rw[un];exact⟨λ_=>.inr rfl,λ_=>trivial⟩
    .rw[uk k k1 k2];exact⟨λe=>.inl e,λe=>e.resolve_right k2⟩
  .have vI:k≠gs.size:=λe=>by
    subst e;have:(T gs.size).ph.live:=hk;rw[h.st.ou _ (aV _)] at this;exact this
   rw[uk k iR vI] at hb;exact hb
  .have vI:k≠gs.size:=λe=>by
    subst e;have:(T gs.size).ph.live:=hk;rw[h.st.ou _ (aV _)] at this;exact this
   rw[uk k iR vI] at hb;exact hb
  .rw[u0,un] at hb;exact ho b hb
  .rw[u0,un] at hb
   have:(T 0).τ.pass b\/(T 0).τ.own b\/(T 0).τ.still b:=by
    rcases hb with(e|e)|(e|e)
    .exact(hs b (.inl e)).elim (λz=>.inr (.inr z)) λz=>.inr (.inl z)
    .exact oQ b (.inl e)
    .exact(hs b (.inr e)).elim (λz=>.inr (.inr z)) λz=>.inr (.inl z)
    .exact oQ b (.inr e)
   rcases this with e|e|e
   .exact .inr (.inr e)
   .exact .inl e
   .exact .inr (.inl e)
 .exact Yl (i:=0) (λe=>absurd rfl e) (by rw[cG];omega) hn (by rw[cG];omega) (by rw[u0,hr];exact .inr (.mk f km)) λk hk=>by omega
end
section
variable {L:Type}{P:bR}{ty:aM}{Wg:Nat}{A:jU L}{Fin:bC->aE->Prop}{Shun:Loc->Prop}
variable {gs gs':Array bC}{w w':aE}{t t':lT}{T T':Nat->Td L}{ch tV:rC}{sl:Option (Nat×Nat)}{i j:Nat}{x g':bC}{es:Array oL}
def znn (Wg B:Nat):Nat->List oL->Prop
 |_,[]=>True
 |d,e::es=>((e.mute=true\/(∃a b,e=⟨.cell a,b,true⟩/\a.block=Wg/\0<d))/\Wg<B)/\znn Wg B (n6 d #[e]) es
def Wq {B:Nat}:∀{es:List oL} {d:Nat},znn Wg B d es->∀(l r:List oL) (e:oL),es=l++e::r->(∀a,(jJ e).touch? =some a->nD a.loc Wg/\a.kind=.atomic/\0<n6 d l.toArray)/\jJ e≠ .mark (.release (stA Wg))/\(jJ e).low B
 |[],d,_,l,r,e,he=>by simp at he
 |y::es,d,h,[],r,e,he=>by
  simp only[List.nil_append,X8] at he;obtain⟨rfl,rfl⟩:=he;obtain⟨⟨hm|⟨a,b,rfl,ha,hd⟩,hW⟩,_⟩:=h
  .exact zqA (n:=0) (d:=d) (es:=#[y]) (λe he=>by simp at he;rw[he];exact hm) [] [] y rfl
  .refine⟨λz hz=>?_,by simp[jJ],by simpa[jJ,X0,Loc.low,ha] using hW⟩
   simp only[jJ,qG,fY] at hz;subst hz;exact⟨ha,rfl,hd⟩
 |y::es,d,h,z::l,r,e,he=>by
  simp only[Sw,X8] at he;obtain⟨rfl,he⟩:=he;have:=Wq h.2 l r e he;refine⟨λa ha=>?_,this.2⟩;rw[zoa];exact this.1 a ha
def Ob {v wt:Nat}{a b:Int}(h:gD ty Wg w a b):gD ty Wg (w.setCell (stA Wg) (st v wt)) ((v:Int)*KK+wt) b:=zFu h _
def zsO {a b:Int}(h:gD ty Wg w a b)(c:Int):gD ty Wg (w.setCell (smA Wg) (.int .u32 c)) a c:=zzr h c
def Ni (w:aE)(v:aF):J4 Wg w (w.setCell (stA Wg) v):=Ws w (stA Wg) v
def zdS (w:aE)(v:aF):J4 Wg w (w.setCell (smA Wg) v):=Ws w (smA Wg) v
def zhL (d:Nat){es:Array oL}(h:∀e∈es,e.loc≠ .mark .disable/\e.loc≠ .mark .enable):n6 d es=d:=zp8 h d
def U8 (d:Nat)(a:bL):n6 d #[rd a]=d:=zhL d (λe he=>by simp at he;subst he;exact⟨by simp[rd],by simp[rd]⟩)
def zGA (d:Nat)(a:bL):n6 d #[wr a]=d:=zhL d (λe he=>by simp at he;subst he;exact⟨by simp[wr],by simp[wr]⟩)
def zfA (d:Nat)(a:bL):n6 d #[rd a,wr a]=d:=zhL d (λe he=>by
 simp only[Gk,jH,l8,or_false] at he;rcases he with rfl|rfl<;>exact⟨by simp[rd,wr],by simp[rd,wr]⟩)
def zxz (d:Nat)(a:bL):n6 d (semEvents a)=d:=by
 simp[n6,semEvents]
def Lq (p:Nat->Ph L)(n:Nat)(ph':Ph L)(h:ph'.waits):vv A (bH p 0 ph') n=oT p n:=by
 unfold vv zY;rw[zdp,upd_same];cases ph'<;>first|exact h.elim|rfl
def zdd (p:Nat->Ph L)(n:Nat)(h:(p 0).waits):vv A p n=oT p n:=by
 have:=Lq (A:=A) p n (p 0) h
 rwa [zeY] at this
def Ty {p:Nat->Ph L}{ph':Ph L}(h:∀i,¬(p i).last)(h':¬ph'.last):∀i,¬(bH p 0 ph' i).last:=λi=>by
 by_cases hi:i=0
 .subst hi;rw[upd_same];exact h'
 .rw[upd_ne _ _ hi];exact h i
def zu7 {p:Nat->Ph L}:∀{n:Nat},oT p n=0->∀j,j<n->j≠0->(p j).pre=false
 |n+1,h,j,hj,h0=>by
  simp only[oT] at h;by_cases Xf:j=n
  .subst Xf
   cases hp:(p j).pre
   .rfl
   .simp[h0,hp] at h
  .exact zu7 (n:=n) aC j aC h0
def Inv.vlt (hA:A.Ok)(h:Inv P ty Wg A Fin Shun gs w t T ch):vv A (λj=>(T j).ph) gs.size<2000000000:=
 Nat.lt_of_le_of_lt (zCP A _ _ h.st.n0) (hA.few _ ch h.st.inv _)
variable {a:bL}
def okRW {own pas:Nat->Prop}{k B:Nat}(hW:Wg<B)(ha:a.block=Wg):∀e∈(#[rd a,wr a]:Array oL),Og Wg own pas k B e:=by
 intro e he;simp only[Gk,jH,l8,or_false] at he;rcases he with rfl|rfl<;>exact zds ha hW
def okR {own pas:Nat->Prop}{k B:Nat}(hW:Wg<B)(ha:a.block=Wg):∀e∈(#[rd a]:Array oL),Og Wg own pas k B e:=by
 intro e he;simp only[Gk,jH,l8,or_false] at he;subst he;exact zds ha hW
def okSem {own pas:Nat->Prop}{k B:Nat}(hW:Wg<B)(ha:a.block=Wg):∀e∈semEvents a,Og Wg own pas k B e:=by
 intro e he;simp only[semEvents,Gk,jH,l8,or_false] at he;rcases he with rfl|rfl|rfl|rfl
 .exact zgJ rfl
 .exact zds ha hW
 .exact zds ha hW
 .exact zgJ rfl
def zsP (T:Nat->Td L){ph':Ph L}(h:ph'.proj=(T i).ph.proj):bH (λj=>(T j).ph.proj) i ph'.proj=λj=>(T j).ph.proj:=by rw[h];exact zeY (λj=>(T j).ph.proj) i
def Inv.add (hA:A.Ok)(h:Inv P ty Wg A Fin Shun gs w t T ch)(hi:gs[i]? =some x)(dN:lS x (T i).g){ι:Type}{f:ι->Rk}(hr:(T i).r=.inr (.mk ι f)){l:L}(hl:(T i).ph=.usr l){nx:L}
 (ha:A.act l=.add nx) (hB:mE P ty Wg A (λm ph d τ g w=>∃k,o8 P ty Wg A Fin (f k) m ph d τ g w) (i==0) l (iE t i) (T i).τ (T i).g w):vC P ty Wg A Fin Shun gs w t T sl i:=by
 unfold mE at hB;rw[ha] at hB;have hp:(λk=>(T k).ph.proj) i=.run l:=by show(T i).ph.proj=_;rw[hl];rfl
 obtain⟨rfl,Oc,yQ,hinv⟩:=hA.add _ ch i l nx h.st.inv hp ha;have hg:=h.st.grp;unfold gQ at hg;simp only[hl] at hg;have hv:=h.vlt hA;obtain⟨g',aY,lX,k,hk⟩:=hB w bT.refl _ aC hg.1;have fI:vv A (λj=>(T j).ph) gs.size=oT (λj=>(T j).ph) gs.size:=by unfold vv zY;simp only[hl,Oc];rfl
 have oV:vv A (bH (λj=>(T j).ph) 0 (.usr nx)) gs.size=oT (λj=>(T j).ph) gs.size+1:=by unfold vv zY;rw[zdp,upd_same];simp[yQ]
 have dE:=Ob (v:=vv A (λj=>(T j).ph) gs.size+1) (wt:=0) hg.1;refine h.alive hi dN aY lX hr (by rw[hl];trivial) (ph':=.usr nx) trivial (Ni _ _) (λ_=>⟨_,_,dE⟩) ⟨k,by rw[zfA];exact hk⟩ (λe=>absurd rfl e) ?_ hinv (λe=>by have:=(Sd e dE).2;omega) (okRW zrj rfl);unfold gQ;rw[upd_same];refine⟨?_,Ty hg.2 id⟩;rw[oV,<-fI];simpa using dE
def Inv.look (hA:A.Ok)(h:Inv P ty Wg A Fin Shun gs w t T ch)(hi:gs[0]? =some x)(dN:lS x (T 0).g){ι:Type}{f:ι->Rk}(hr:(T 0).r=.inr (.mk ι f))(l6:(∃b,(T 0).ph=.w1 b)\/∃l,(T 0).ph=.usr l/\A.act l=.wait)
 (hB:∀aI,bT ty Wg (T 0).τ w aI->∀v:Nat,(∀b,(T 0).ph=.w1 b->v<b)->v<2147483648->gD ty Wg aI (v*KK) 0->∃g',stepG P true (T 0).g aI=.go g' aI #[rd (stA Wg)]/\g'.status=.running/\
  (v=0->∃k,o8 P ty Wg A Fin (f k) true .w5 (iE t 0) (T 0).τ g' aI)/\(v≠0->∃k,o8 P ty Wg A Fin (f k) true (.w2 v) (iE t 0) (T 0).τ g' aI)):vC P ty Wg A Fin Shun gs w t T sl 0:=by
 have hv:=h.vlt hA;have hg:gD ty Wg w (vv A (λj=>(T j).ph) gs.size*KK) 0/\∀i,¬(T i).ph.last:=by
  have hg:=h.st.grp;unfold gQ at hg;rcases l6 with⟨b,e⟩|⟨l,e,_⟩<;>simp only[e] at hg
  .exact⟨hg.1,hg.2.1⟩
  .exact hg
 have eV:∀b,(T 0).ph=.w1 b->vv A (λj=>(T j).ph) gs.size<b:=λb e=>by
  have hg:=h.st.grp;unfold gQ at hg;simp only[e] at hg;exact hg.2.2
 have nA:(T 0).ph.live:=h.st.role0;have Da:vv A (λj=>(T j).ph) gs.size=oT (λj=>(T j).ph) gs.size:=by
  rcases l6 with⟨b,e⟩|⟨l,e,ha⟩
  .exact zdd _ _ (by show(T 0).ph.waits;rw[e];trivial)
  .have:=(hA.wait _ ch 0 l h.st.inv (by show(T 0).ph.proj=_;rw[e];rfl) ha).2.1
   unfold vv zY;simp only[e,this];rfl
 have hinv:A.Inv (bH (λj=>(T j).ph.proj) 0 .waits) ch:=by
  rcases l6 with⟨b,e⟩|⟨l,e,ha⟩
  .have:=zsP T (i:=0) (ph':=.w1 b) (by rw[e])
   rw[show(Ph.w1 b:Ph L).proj=.waits from rfl] at this;rw[this];exact h.st.inv
  .exact(hA.wait _ ch 0 l h.st.inv (by show(T 0).ph.proj=_;rw[e];rfl) ha).2.2
 obtain⟨g',aY,lX,h0,h1⟩:=hB w bT.refl _ eV aC hg.1;by_cases hz:vv A (λj=>(T j).ph) gs.size=0
 .obtain⟨k,hk⟩:=h0 hz
  refine h.alive hi dN aY lX hr nA (ph':=.w5) trivial (Mo _ _) id ⟨k,by rw[U8];exact hk⟩ (λe=>absurd rfl e) ?_ hinv id (okR h.st.grp.live.lt rfl);unfold gQ;rw[upd_same];refine⟨by rw[Lq _ _ .w5 trivial,<-Da];exact hz,Ty hg.2 id,?_⟩;have:=hg.1;rw[hz] at this;simpa using this
 .obtain⟨k,hk⟩:=h1 hz
  refine h.alive hi dN aY lX hr nA (ph':=.w2 (vv A (λj=>(T j).ph) gs.size)) trivial (Mo _ _) id ⟨k,by rw[U8];exact hk⟩ (λe=>absurd rfl e) ?_ hinv id (okR h.st.grp.live.lt rfl);unfold gQ;rw[upd_same];refine⟨?_,Ty hg.2 id,?_,Nat.pos_of_ne_zero hz⟩
  .rw[Lq _ _ (.w2 _) trivial,<-Da];exact hg.1
  .rw[Lq _ _ (.w2 _) trivial,<-Da];exact aV _
def ze0 (h:Inv P ty Wg A Fin Shun gs w t T ch){ph':Ph L}(hw:(T 0).ph.waits)(qO:ph'.waits):A.Inv (bH (λj=>(T j).ph.proj) 0 ph'.proj) ch:=by
 rw[zsP T]
 .exact h.st.inv
 .cases hp:(T 0).ph<;>rw[hp] at hw<;>first|exact hw.elim|(cases ph'<;>first|exact qO.elim|rfl)
def Inv.cas (hA:A.Ok)(h:Inv P ty Wg A Fin Shun gs w t T ch)(hi:gs[0]? =some x)(dN:lS x (T 0).g){ι:Type}{f:ι->Rk}(hr:(T 0).r=.inr (.mk ι f)){vs:Nat}(l6:(T 0).ph=.w2 vs)
 (hB:zQ P ty Wg A Fin (λm ph d τ g w=>∃k,o8 P ty Wg A Fin (f k) m ph d τ g w) true (.w2 vs) (iE t 0) (T 0).τ (T 0).g w):vC P ty Wg A Fin Shun gs w t T sl 0:=by
 have hv:=h.vlt hA;have hg:=h.st.grp;unfold gQ at hg;simp only[l6] at hg;obtain⟨h1,h2,h3,h4⟩:=hg;have cD:(T 0).ph.waits:=by rw[l6];trivial
 have Da:vv A (λj=>(T j).ph) gs.size=oT (λj=>(T j).ph) gs.size:=zdd _ _ cD;have nA:(T 0).ph.live:=h.st.role0;obtain⟨ha,hb⟩:=hB w bT.refl _ aC h1;rcases mY (vv A (λj=>(T j).ph) gs.size) vs with aN|Bx
 .obtain⟨g',aY,lX,k,hk⟩:=hb aN
  refine h.alive hi dN aY lX hr nA (ph':=.w1 vs) trivial (Mo _ _) id ⟨k,by rw[U8];exact hk⟩ (λe=>absurd rfl e) ?_ (ze0 h cD trivial) id (okR h.st.grp.live.lt rfl);unfold gQ;rw[upd_same];exact⟨by rw[Lq _ _ (.w1 vs) trivial,<-Da];exact h1,Ty h2 id,by rw[Lq _ _ (.w1 vs) trivial,<-Da];exact aN⟩
 .obtain⟨g',aY,lX,k,hk⟩:=ha aC
  have dE:=Ob (v:=vv A (λj=>(T j).ph) gs.size) (wt:=1) h1;refine h.alive hi dN aY lX hr nA (ph':=.w3) trivial (Ni _ _) (λ_=>⟨_,_,dE⟩) ⟨k,by rw[zfA];exact hk⟩ (λe=>absurd rfl e) ?_ (ze0 h cD trivial) (λe=>by have:=(Sd e dE).2;omega) (okRW zrj rfl);unfold gQ;rw[upd_same];refine .inl ⟨?_,?_,Ty h2 id⟩
  .rw[Lq _ _ .w3 trivial,<-Da];omega
  .rw[Lq _ _ .w3 trivial,<-Da];exact dE
def Inv.sleep (hA:A.Ok)(h:Inv P ty Wg A Fin Shun gs w t T ch)(hi:gs[0]? =some x)(dN:lS x (T 0).g){ι:Type}{f:ι->Rk}(hr:(T 0).r=.inr (.mk ι f))(l6:(T 0).ph=.w3)
 (hB:zQ P ty Wg A Fin (λm ph d τ g w=>∃k,o8 P ty Wg A Fin (f k) m ph d τ g w) true .w3 (iE t 0) (T 0).τ (T 0).g w):vC P ty Wg A Fin Shun gs w t T sl 0:=by
 have hg:=h.st.grp;unfold gQ at hg;simp only[l6] at hg;have cD:(T 0).ph.waits:=by rw[l6];trivial
 have Da:vv A (λj=>(T j).ph) gs.size=oT (λj=>(T j).ph) gs.size:=zdd _ _ cD;have nA:(T 0).ph.live:=h.st.role0;obtain⟨ho,hB⟩:=hB;obtain⟨ha,hb⟩:=hB w bT.refl;have zAH:(∃x,gD ty Wg w x 0)\/(vv A (λj=>(T j).ph) gs.size=0/\(∀i,¬(T i).ph.last)/\gD ty Wg w 0 1):=by
  rcases hg with⟨_,h1,_⟩|⟨_,_,_,_,⟨_,h1⟩|⟨_,h1⟩⟩|h1
  .exact .inl ⟨_,h1⟩
  .exact .inl ⟨_,h1⟩
  .exact .inl ⟨_,h1⟩
  .exact .inr h1
 rcases zAH with h0|⟨h1,h2,h3⟩
 .have aY:=ha h0
  have vK:stepG P (0==0) x w=.go {(T 0).g with status:=.blocked} w #[]:=by rw[show((0:Nat)==0)=true from rfl,dN.step];exact aY
  have cH:=Wh (sl:=sl) hi vK;have ew:woken P x {(T 0).g with status:=.blocked} w=id:=by
   funext o;simp[woken]
  rw[ew,Array.map_id,zed] at cH;obtain⟨y,hy⟩:=h0
  have hp:=h.park hi dN.1 (by rw[l6];exact id) (y:={(T 0).g with status:=.blocked}) rfl (.inr ⟨l6,rfl,ho⟩) (λ_ _ e=>by have:=(Sd e hy).2;omega)
   (λc v z sh g e=>by
    have:=congrArg zxa e;simp[parked,ho] at this)
   (λc z sh g e=>by
    have:=congrArg zxa e;simp[parked,ho] at this)
  exact⟨_,_,cH,.inr ⟨_,_,sl,T,ch,rfl,hp.1,hp.2⟩⟩
 .obtain⟨g',aY,lX,k,hk⟩:=hb h3
  have dE:=zsO h3 0;refine h.alive hi dN aY lX hr nA (ph':=.w4) trivial (zdS _ _) (λ_=>⟨_,_,dE⟩) ⟨k,by rw[zxz];exact hk⟩ (λe=>absurd rfl e) ?_ (ze0 h cD trivial) (λe=>by have:=(Sd e dE).2;omega) (okSem (by rw[(zdS w _).size];exact h.st.grp.live.lt) rfl);unfold gQ;rw[upd_same];exact⟨by rw[Lq _ _ .w4 trivial,<-Da];exact h1,Ty h2 id,dE⟩
def Inv.woke (hA:A.Ok)(h:Inv P ty Wg A Fin Shun gs w t T ch)(hi:gs[0]? =some x)(dN:lS x (T 0).g){ι:Type}{f:ι->Rk}(hr:(T 0).r=.inr (.mk ι f))(l6:(T 0).ph=.w4)
 (hB:zQ P ty Wg A Fin (λm ph d τ g w=>∃k,o8 P ty Wg A Fin (f k) m ph d τ g w) true .w4 (iE t 0) (T 0).τ (T 0).g w):vC P ty Wg A Fin Shun gs w t T sl 0:=by
 have hg:=h.st.grp;unfold gQ at hg;simp only[l6] at hg;have cD:(T 0).ph.waits:=by rw[l6];trivial
 have Da:vv A (λj=>(T j).ph) gs.size=oT (λj=>(T j).ph) gs.size:=zdd _ _ cD;obtain⟨g',aY,lX,k,hk⟩:=hB w bT.refl hg.2.2;refine h.alive hi dN aY lX hr h.st.role0 (ph':=.w5) trivial (Mo _ _) id ⟨k,by rw[U8];exact hk⟩ (λe=>absurd rfl e) ?_ (ze0 h cD trivial) id (okR h.st.grp.live.lt rfl);unfold gQ;rw[upd_same];exact⟨by rw[Lq _ _ .w5 trivial,<-Da];exact hg.1,Ty hg.2.1 id,hg.2.2⟩
def Inv.fin (hA:A.Ok)(h:Inv P ty Wg A Fin Shun gs w t T ch)(hi:gs[0]? =some x)(dN:lS x (T 0).g){ι:Type}{f:ι->Rk}(hr:(T 0).r=.inr (.mk ι f))(l6:(T 0).ph=.w5)
 (hB:zQ P ty Wg A Fin (λm ph d τ g w=>∃k,o8 P ty Wg A Fin (f k) m ph d τ g w) true .w5 (iE t 0) (T 0).τ (T 0).g w):vC P ty Wg A Fin Shun gs w t T sl 0:=by
 have hg:=h.st.grp;unfold gQ at hg;simp only[l6] at hg;obtain⟨h1,h2,h3⟩:=hg;have Da:vv A (λj=>(T j).ph) gs.size=oT (λj=>(T j).ph) gs.size:=zdd _ _ (by show(T 0).ph.waits;rw[l6];trivial);have Jt:∀j,j≠0->(T j).ph.leaves:=by
  intro j hj;rcases mY j gs.size with aN|Bx
  .have e1:=zu7 (p:=λj=>(T j).ph) (by rw[<-Da];exact h1) j aN hj
   have e2:=h2 j;have e3:=h.st.role j hj;cases hp:(T j).ph<;>simp only[hp] at e1 e2 e3<;>first|trivial|(simp[Ph.pre] at e1;done)|exact absurd trivial e2|exact absurd trivial e3
  .rw[h.st.ou j Bx];trivial
 obtain⟨hd,hB⟩:=hB;have L6:(λj=>(T j).ph.proj) 0=.waits:=by show(T 0).ph.proj=_;rw[l6];rfl
 have Cb:∀(j:Nat) (l:L),(λj=>(T j).ph.proj) j≠ .run l:=λj l e=>by
  have e':(T j).ph.proj=.run l:=e;by_cases hj:j=0
  .subst hj;rw[l6] at e';cases e'
  .have:=Jt j hj
   cases hp:(T j).ph<;>rw[hp] at e' this<;>first|exact this.elim|cases e'
 obtain⟨g',aY,lX,hF⟩:=hB w bT.refl ⟨λj=>(T j).ph.proj,ch,h.st.inv,L6,Cb,λj l e=>h.st.depo j l e w bT.refl⟩;exact h.acquire hi dN aY lX hd Jt hF
def Inv.dec (hA:A.Ok)(h:Inv P ty Wg A Fin Shun gs w t T ch)(hi:gs[i]? =some x)(dN:lS x (T i).g){ι:Type}{f:ι->Rk}(hr:(T i).r=.inr (.mk ι f)){l:L}(l6:(T i).ph=.rel l)
 (hB:zQ P ty Wg A Fin (λm ph d τ g w=>∃k,o8 P ty Wg A Fin (f k) m ph d τ g w) (i==0) (.rel l) (iE t i) (T i).τ (T i).g w):vC P ty Wg A Fin Shun gs w t T sl i:=by
 have aN:i<gs.size:=(dQ.1 hi).1;have hv:=h.vlt hA;have h0:i≠0:=λe=>by subst e;have:=h.st.role0;rw[l6] at this;exact this
 have oU:¬(T i).ph.live:=by rw[l6];exact id
 have Aq:(T i).ph≠ .gone:=by rw[l6];simp
 have Zr:Wg<w.heap.size:=h.st.grp.live.lt;have key:∀ph':Ph L,ph'.pre=false->vv A (bH (λj=>(T j).ph) i ph') gs.size+1=vv A (λj=>(T j).ph) gs.size:=by
  intro ph' hp;have:=zdT (λj=>(T j).ph) (i:=i) (n:=gs.size) ph' aN h0;unfold vv;rw[zeE A _ h0];rw[hp] at this;simp only[l6,Ph.pre,if_true,jE,if_false] at this;omega
 have k1:=key (.quit l) rfl;have k2:=key (.l1 l) rfl;have zeC:(∀j,¬(T j).ph.last)->∀j,¬(bH (λj=>(T j).ph) i (.quit l) j).last:=λhn j=>by
  by_cases hj:j=i
  .subst hj;rw[upd_same];exact id
  .rw[upd_ne _ _ hj];exact hn j
 have oF:∀e:0<iE t i,∀B,Wg<B->znn Wg B (iE t i) [rd (stA Wg),wr (stA Wg)]:=λe B hB=>
  ⟨⟨.inr ⟨stA Wg,false,rfl,rfl,e⟩,hB⟩,⟨.inr ⟨stA Wg,true,rfl,rfl,by rw[U8];exact e⟩,hB⟩,trivial⟩
 have u0:bH (λj=>(T j).ph) i (.quit l) 0=(T 0).ph:=upd_ne _ _ (Ne.symm h0);have u1:bH (λj=>(T j).ph) i (.l1 l) 0=(T 0).ph:=upd_ne _ _ (Ne.symm h0)
 have quit:∀(v wt:Nat),wt<=1->gD ty Wg w ((v+1:Nat)*KK+wt) 0->vv A (λj=>(T j).ph) gs.size=v+1->¬(v=0/\wt=1)->
  gQ A ty Wg (bH (λj=>(T j).ph) i (.quit l)) gs.size (w.setCell (stA Wg) (Mt.st v wt))->vC P ty Wg A Fin Shun gs w t T sl i:=by
  intro v wt cD hW qF aT Ab;obtain⟨g',aY,lX,hd,_,hq⟩:=hB w bT.refl v wt cD aC hW;obtain⟨q,hQ⟩:=hq aT;have dE:=Ob (v:=v) (wt:=wt) hW
  exact h.dead hi dN aY Jy (Ti:=⟨.quit l,.inl q,(T i).τ,g'⟩) (by rw[hr];exact .sep _ _) rfl oU Aq h0 id aP (Ni _ _) (λ_=>⟨_,_,dE⟩)
   ((G4 (T:=⟨.quit l,.inl q,(T i).τ,g'⟩) trivial).2 ⟨q,rfl,by rw[zfA];exact hQ⟩) (by rw[l6];rfl) Ab (.inr λe=>by have:=(Sd e dE).2;omega) (Wq (oF hd _ (by rw[(Ni w _).size];exact Zr)))
 have hg:=h.st.grp;unfold gQ at hg;have norm:∀v:Nat,((v:Int)*KK)=((v:Nat):Int)*KK+((0:Nat):Int):=λv=>by simp
 have pos:0<vv A (λj=>(T j).ph) gs.size:=aC;obtain⟨v,qF⟩:∃v,vv A (λj=>(T j).ph) gs.size=v+1:=⟨_,(Nat.succ_pred_eq_of_pos pos).symm⟩;have e1:vv A (bH (λj=>(T j).ph) i (.quit l)) gs.size=v:=aC;have e2:vv A (bH (λj=>(T j).ph) i (.l1 l)) gs.size=v:=aC
 cases vS:(T 0).ph with
 |gone=>have:=h.st.role0;rw[vS] at this;exact this.elim
 |rel _=>have:=h.st.role0;rw[vS] at this;exact this.elim
 |l1 _=>have:=h.st.role0;rw[vS] at this;exact this.elim
 |l2 _=>have:=h.st.role0;rw[vS] at this;exact this.elim
 |l3 _=>have:=h.st.role0;rw[vS] at this;exact this.elim
 |quit _=>have:=h.st.role0;rw[vS] at this;exact this.elim
 |usr l0=>
  simp only[vS] at hg;rw[qF] at hg;refine quit v 0 aC znI qF aC ?_;unfold gQ;rw[u0,vS];simp only;exact⟨by rw[e1];simpa using Ob (v:=v) (wt:=0) hg.1,zeC hg.2⟩
 |w1 b=>
  simp only[vS] at hg;rw[qF] at hg;refine quit v 0 aC znI qF aC ?_;unfold gQ;rw[u0,vS];simp only;exact⟨by rw[e1];simpa using Ob (v:=v) (wt:=0) hg.1,zeC hg.2.1,aC⟩
 |w2 vs=>
  simp only[vS] at hg;rw[qF] at hg;refine quit v 0 aC znI qF aC ?_;unfold gQ;rw[u0,vS];simp only;exact⟨by rw[e1];simpa using Ob (v:=v) (wt:=0) hg.1,zeC hg.2.1,aC,hg.2.2.2⟩
 |w4=>simp only[vS] at hg;omega
 |w5=>simp only[vS] at hg;omega
 |w3=>
  simp only[vS] at hg;rcases hg with⟨_,hW,hn⟩|⟨hz,_⟩|⟨hz,_⟩
  .rw[qF] at hW
   have Xu:gD ty Wg w ((v+1:Nat)*KK+(1:Nat)) 0:=by simpa using hW
   by_cases fI:v=0
   .obtain⟨g',aY,lX,hd,hk,_⟩:=hB w bT.refl v 1 aC aC Xu
    obtain⟨k,hk⟩:=hk ⟨fI,rfl⟩;have dE:=Ob (v:=v) (wt:=1) Xu
    refine h.dead hi dN aY Jy (Ti:=⟨.l1 l,.inr (f k),(T i).τ,g'⟩) P7 rfl oU Aq h0 id aP (Ni _ _) (λ_=>⟨_,_,dE⟩)
     ((pL (T:=⟨.l1 l,.inr (f k),(T i).τ,g'⟩) id).2 ⟨f k,rfl,by rw[zfA];exact hk,.inl (lS.self lX)⟩) (by rw[l6];rfl) ?_ (.inr λe=>by have:=(Sd e dE).2;omega) (Wq (oF hd _ (by rw[(Ni w _).size];exact Zr)))
    unfold gQ;rw[u1,vS];simp only;refine .inr (.inl ⟨aC,i,l,λj hj=>?_,.inl ⟨.inl (upd_same _ _ _),?_⟩⟩)
    .by_cases eT:j=i
     .exact eT
     .rw[upd_ne _ _ eT] at hj;exact absurd hj (hn j)
    .subst fI;simpa using dE
   .refine quit v 1 aC Xu qF aC ?_
    unfold gQ;rw[u0,vS];simp only;exact .inl ⟨aC,by rw[e1];simpa using Ob (v:=v) (wt:=1) Xu,zeC hn⟩
  .omega
  .omega
def Inv.lastGrp (h:Inv P ty Wg A Fin Shun gs w t T ch)(hl:(T i).ph.last):(T 0).ph=.w3/\vv A (λj=>(T j).ph) gs.size=0/\(∀j,(T j).ph.last->j=i)/\((∃l,((T i).ph=.l1 l\/(T i).ph=.l2 l))/\gD ty Wg w 1 0\/(∃l,(T i).ph=.l3 l)/\gD ty Wg w 0 0):=by
 have hg:=h.st.grp;unfold gQ at hg;have h0:=h.st.role0;cases vS:(T 0).ph<;>simp only[vS] at hg h0<;>first|exact h0.elim|exact absurd hl (hg.2 i)|exact absurd hl (hg.2.1 i)|skip
 rcases hg with⟨_,_,hn⟩|⟨hz,k,l,hu,hc⟩|⟨_,hn,_⟩
 .exact absurd hl (hn i)
 .have:=hu i hl
  subst this;exact⟨rfl,hz,hu,hc.imp (λx=>⟨⟨l,x.1⟩,x.2⟩) λx=>⟨⟨l,x.1⟩,x.2⟩⟩
 .exact absurd hl (hn i)
def Inv.last (hA:A.Ok)(h:Inv P ty Wg A Fin Shun gs w t T ch)(hi:gs[i]? =some x)(dN:lS x (T i).g){ι:Type}{f:ι->Rk}(hr:(T i).r=.inr (.mk ι f))(hl:(T i).ph.last)
 (hB:zQ P ty Wg A Fin (λm ph d τ g w=>∃k,o8 P ty Wg A Fin (f k) m ph d τ g w) (i==0) (T i).ph (iE t i) (T i).τ (T i).g w):vC P ty Wg A Fin Shun gs w t T sl i:=by
 have aN:=(dQ.1 hi).1;obtain⟨h3,hz,hu,hc⟩:=h.lastGrp hl;have h0:i≠0:=λe=>by subst e;rw[h3] at hl;exact hl
 have oU:¬(T i).ph.live:=λe=>by cases hp:(T i).ph<;>rw[hp] at hl e<;>first|exact hl.elim|exact e.elim
 have Aq:(T i).ph≠ .gone:=λe=>by rw[e] at hl;exact hl
 have Zr:=h.st.grp.live.lt;have zkj:(T i).ph.pre=false:=by cases hp:(T i).ph<;>rw[hp] at hl<;>first|exact hl.elim|rfl
 have key:∀ph':Ph L,ph'.pre=false->vv A (bH (λj=>(T j).ph) i ph') gs.size=0:=by
  intro ph' hp;have:=zdT (λj=>(T j).ph) (i:=i) (n:=gs.size) ph' aN h0;rw[hp,zkj] at this;unfold vv at hz⊢;rw[zeE A _ h0];simp only[jE,if_false] at this;omega
 have zas:∀ph':Ph L,∀j,(bH (λj=>(T j).ph) i ph' j).last->j=i:=λph' j hj=>by
  by_cases eT:j=i
  .exact eT
  .rw[upd_ne _ _ eT] at hj;exact hu j hj
 have u0:∀ph':Ph L,bH (λj=>(T j).ph) i ph' 0=.w3:=λph'=>(upd_ne _ _ (Ne.symm h0)).trans h3;rcases hc with⟨⟨l,hp|hp⟩,hW⟩|⟨⟨l,hp⟩,hW⟩
 .simp only[hp] at hB
  obtain⟨g',aY,lX,hd,k,hk⟩:=hB w bT.refl hW
  refine h.dead hi dN aY Jy (Ti:=⟨.l2 l,.inr (f k),(T i).τ,g'⟩) P7 rfl oU Aq h0 id aP (Mo _ _) id
   ((pL (T:=⟨.l2 l,.inr (f k),(T i).τ,g'⟩) id).2 ⟨f k,rfl,by rw[U8];exact hk,.inl (lS.self lX)⟩) (by rw[hp];rfl) ?_ (.inr id) (Wq (es:=[rd (stA Wg)]) ⟨⟨.inr ⟨stA Wg,false,rfl,rfl,hd⟩,Zr⟩,trivial⟩)
  unfold gQ;rw[u0];exact .inr (.inl ⟨key _ rfl,i,l,zas _,.inl ⟨.inr (upd_same _ _ _),hW⟩⟩)
 .simp only[hp] at hB
  obtain⟨g',aY,lX,hd,k,hk⟩:=hB w bT.refl hW;have dE:=Ob (v:=0) (wt:=0) hW;have qH:gD ty Wg (w.setCell (stA Wg) (Mt.st 0 0)) 0 0:=by simpa using dE
  refine h.dead hi dN aY Jy (Ti:=⟨.l3 l,.inr (f k),(T i).τ,g'⟩) P7 rfl oU Aq h0 id aP (Ni _ _) (λ_=>⟨_,_,qH⟩)
   ((pL (T:=⟨.l3 l,.inr (f k),(T i).τ,g'⟩) id).2 ⟨f k,rfl,by rw[zGA];exact hk,.inl (lS.self lX)⟩) (by rw[hp];rfl) ?_ (.inr λe=>by have:=(Sd e qH).2;omega)
   (Wq (es:=[wr (stA Wg)]) ⟨⟨.inr ⟨stA Wg,true,rfl,rfl,hd⟩,by rw[(Ni w _).size];exact Zr⟩,trivial⟩)
  unfold gQ;rw[u0];exact .inr (.inl ⟨key _ rfl,i,l,zas _,.inr ⟨upd_same _ _ _,qH⟩⟩)
 .simp only[hp] at hB
  obtain⟨zbl,hB⟩:=hB;obtain⟨g',aY,lX,hd,q,hQ⟩:=hB w bT.refl hW;have dE:=zsO hW 1;have zgW:Wg<(w.setCell (smA Wg) (.int .u32 1)).heap.size:=by rw[(zdS w _).size];exact Zr
  refine h.dead hi dN aY Jy (Ti:=⟨.quit l,.inl q,(T i).τ,g'⟩) (by rw[hr];exact .sep _ _) rfl oU Aq h0 id aP (zdS _ _) (λ_=>⟨_,_,dE⟩)
   ((G4 (T:=⟨.quit l,.inl q,(T i).τ,g'⟩) trivial).2 ⟨q,rfl,by rw[zxz];exact hQ⟩) (by rw[hp];rfl) ?_ (.inl ⟨zbl,lX⟩)
   (Wq (es:=[⟨.mark .disable,false,true⟩,⟨.cell (smA Wg),false,true⟩,⟨.cell (smA Wg),true,true⟩,⟨.mark .enable,false,true⟩]) ⟨⟨.inl rfl,zgW⟩,⟨.inr ⟨_,_,rfl,rfl,by simp[n6]⟩,zgW⟩,⟨.inr ⟨_,_,rfl,rfl,by simp[n6]⟩,zgW⟩,⟨.inl rfl,zgW⟩,trivial⟩)
  unfold gQ;rw[u0];refine .inr (.inr ⟨key _ rfl,λj hj=>?_,dE⟩);have:=zas _ j hj;subst this;rw[upd_same] at hj;exact hj
def Inv.note (hA:A.Ok)(h:Inv P ty Wg A Fin Shun gs w t T ch)(hi:gs[i]? =some x)(dN:lS x (T i).g){ι:Type}{f:ι->Rk}(hr:(T i).r=.inr (.mk ι f)){l l':L}(hl:(T i).ph=.usr l){can:L->Prop}(ha:A.act l=.note can)(hc:can l')
 {k:ι} (hk:o8 P ty Wg A Fin (f k) (i==0) (.usr l') (iE t i) (T i).τ (T i).g w):Inv P ty Wg A Fin Shun gs w t (bH T i ⟨.usr l',.inr (f k),(T i).τ,(T i).g⟩) ch/\Mu.lt (mu gs (bH T i ⟨.usr l',.inr (f k),(T i).τ,(T i).g⟩)) (mu gs T):=by
 have aN:=(dQ.1 hi).1;have hp:(λk=>(T k).ph.proj) i=.run l:=by show(T i).ph.proj=_;rw[hl];rfl
 obtain⟨zkY,hinv⟩:=hA.note _ ch i l can l' h.st.inv hp ha hc;have Ab:=gQ.usr (l:=l) h.st.grp hl aN zkY;have hS:=h.st.phase (r:=.inr (f k)) (g':=(T i).g) (by rw[hl];simp) aN (Mo _ _) (.usr l') aP (λ_=>trivial) (λ_ e=>e) id (λl' e=>by simp[Ph.proj] at e) Ab hinv;refine⟨⟨hS,?_⟩,?_⟩
 .refine h.dy.gen (λk'=>k'=i) (λk' cO=>⟨rfl,upd_ne _ _ cO⟩) (λk' y cO hy=>?_) (λ_ _=>bT.refl) (λk' _=>rfl) (λ_ e=>e) id ?_
  .subst cO
   rw[hi] at hy;cases hy;refine⟨by rw[dN.1];simp,?_⟩;rw[upd_same];exact(pL (T:=⟨.usr l',.inr (f k),(T k').τ,(T k').g⟩) id).2 ⟨f k,rfl,hk,.inl dN⟩
  .exact h.dy.tr.phase (i:=i) (ph':=.usr l') (.inr (f k)) (T i).g ⟨λ_=>by rw[hl];trivial,λ_=>trivial⟩
 .exact Yl (i:=i) (λ_=>rfl) aC aN aN zqv λk' cO=>by rw[upd_ne _ _ aC]
def ResT (P:bR)(ty:aM)(Wg:Nat)(A:jU L)(Fin:bC->aE->Prop)(Shun:Loc->Prop)(gs:Array bC)(w:aE)(t:lT)(T:Nat->Td L)(sl:Option (Nat×Nat))(i:Nat):Prop:=
 ∃m' ops,runT P (crowd gs w sl) i=(.next m',ops)/\
  (Qb P Wg Fin Shun m' (t++ops)\/∃gs' w' Kf T' tV,m'=crowd gs' w' Kf/\Inv P ty Wg A Fin Shun gs' w' (t++ops) T' tV/\Relation.TransGen Mu.lt (mu gs' T') (mu gs T))
def qK (h:vC P ty Wg A Fin Shun gs w t T sl i):ResT P ty Wg A Fin Shun gs w t T sl i:=by
 obtain⟨m',ops,h1,h2⟩:=h;refine⟨m',ops,h1,h2.imp id ?_⟩;rintro⟨a,b,c,d,e,h3,h4,h5⟩;exact⟨a,b,c,d,e,h3,h4,.single h5⟩
def Inv.stepR (hA:A.Ok)(hi:gs[i]? =some x)(cH:x.status=.running):∀(r:Rk) {T:Nat->Td L},Inv P ty Wg A Fin Shun gs w t T ch->(T i).r=.inr r->ResT P ty Wg A Fin Shun gs w t T sl i:=by
 intro r
 induction r with
 |mk ι f ih=>
  intro T h hr;by_cases hl:(T i).ph.leaves
  .exact qK (h.leaver hi cH hl)
  have hs:=h.dy.sit i x hi;rw[pL hl] at hs;obtain⟨r',vX,hB,hx⟩:=hs;obtain rfl:r'=.mk ι f:=by rw[hr] at vX;injection vX with e;exact e.symm
  have dN:lS x (T i).g:=by
   rcases hx with hx|⟨_,_,_,_,rfl,_⟩|⟨_,rfl,_⟩
   .exact hx
   .cases cH
   .cases cH
  obtain⟨_,hB⟩:=hB;have hK:∀m ph d τ g w,(λm ph d τ g w=>∃k,o8 P ty Wg A Fin (f k) m ph d τ g w) m ph d τ g w->∃k,o8 P ty Wg A Fin (f k) m ph d τ g w:=λ_ _ _ _ _ _ e=>e;have main:(T i).ph.waits->i=0:=λe=>zC λh0=>h.st.role i h0 e;rcases hB with hB|hB
  .cases hp:(T i).ph<;>rw[hp] at hB<;>first|exact hB.elim|skip
   .exact qK (h.ownG hi dN Dw hr hK X9)
   .exact qK (h.idle1 hi dN zez hl hr hK zfI)
   .exact qK (h.idle1 hi dN zez hl hr hK zfI)
   .exact qK (h.idle1 hi dN zez hl hr hK zfI)
   .exact qK (h.idle1 hi dN zez hl hr hK zfI)
   .exact qK (h.ownG hi dN Dw hr hK X9)
   .exact qK (h.ownG hi dN Dw hr hK X9)
   .exact qK (h.ownG hi dN Dw hr hK X9)
   .exact qK (h.ownG hi dN Dw hr hK X9)
   .exact qK (h.ownG hi dN Dw hr hK X9)
  .cases hp:(T i).ph with
   |gone=>rw[hp] at hB;exact hB.elim
   |quit l=>rw[hp] at hB;exact hB.elim
   |rel l=>rw[hp] at hB;exact qK (h.dec hA hi dN hr hp hB)
   |l1 l=>exact qK (h.last hA hi dN hr Dw hB)
   |l2 l=>exact qK (h.last hA hi dN hr Dw hB)
   |l3 l=>exact qK (h.last hA hi dN hr Dw hB)
   |w1 b=>
    obtain rfl:=main Dw;rw[hp] at hB;exact qK (h.look hA hi dN hr (.inl ⟨b,hp⟩) λaI jA v hv=>hB aI jA v (hv b hp))
   |w2 v=>
    obtain rfl:=main Dw;rw[hp] at hB;exact qK (h.cas hA hi dN hr hp hB)
   |w3=>
    obtain rfl:=main Dw;rw[hp] at hB;exact qK (h.sleep hA hi dN hr hp hB)
   |w4=>
    obtain rfl:=main Dw;rw[hp] at hB;exact qK (h.woke hA hi dN hr hp hB)
   |w5=>
    obtain rfl:=main Dw;rw[hp] at hB;exact qK (h.fin hA hi dN hr hp hB)
   |usr l=>
    rw[hp] at hB;simp only[zQ] at hB
    cases ha:A.act l with
    |send c ok pub nx=>exact qK (h.send hA hi dN hr hp ha hB)
    |recv c ok nx sh=>exact qK (h.recv hA hi dN hr hp ha hB)
    |close c nx=>exact qK (h.close hA hi dN hr hp ha hB)
    |add nx=>exact qK (h.add hA hi dN hr hp ha hB)
    |spawn pub lc nx=>exact qK (h.spawn hA hi dN hr hp ha hB)
    |done=>
     unfold mE at hB;rw[ha] at hB;obtain⟨hd,_,tZ,h1⟩:=hB;obtain⟨g',aY,lX,hk⟩:=h1 w bT.refl;exact qK (h.release hA hi dN aY lX hr hp ha hd tZ hk)
    |note can=>
     unfold mE at hB;rw[ha] at hB;obtain⟨l',hc,k,hk⟩:=hB;obtain⟨hI,hm⟩:=h.note hA hi dN hr hp ha hc hk;obtain⟨m',ops,h1,h2⟩:=ih k hI (by rw[upd_same]);refine⟨m',ops,h1,h2.imp id ?_⟩;rintro⟨a,b,c,d,e,h3,h4,h5⟩;exact⟨a,b,c,d,e,h3,h4,.tail h5 hm⟩
    |wait=>
     have h0:=(hA.wait _ ch i l h.st.inv (by show(T i).ph.proj=_;rw[hp];rfl) ha).1;subst h0;unfold mE at hB;rw[ha] at hB;exact qK (h.look hA hi dN hr (.inr ⟨l,hp,ha⟩) λaI jA v _=>hB aI jA v)
def Inv.step (hA:A.Ok)(h:Inv P ty Wg A Fin Shun gs w t T ch)(hi:gs[i]? =some x)(cH:x.status=.running):ResT P ty Wg A Fin Shun gs w t T sl i:=by
 by_cases hl:(T i).ph.leaves
 .exact qK (h.leaver hi cH hl)
 have hs:=h.dy.sit i x hi;rw[pL hl] at hs;obtain⟨r,hr,_,_⟩:=hs;exact Inv.stepR hA hi cH r h hr
def zDi (hA:A.Ok)(h:Inv P ty Wg A Fin Shun gs w t T ch)(sl:Option (Nat×Nat)):∃N m' t',runNT P N (crowd gs w sl) t=(.next m',t')/\Qb P Wg Fin Shun m' t':=by
 refine run_to (zGt Mu.wf) (λμ m t=>∃gs w sl T ch,m=crowd gs w sl/\Inv P ty Wg A Fin Shun gs w t T ch/\μ=mu gs T) (Qb P Wg Fin Shun) ?_ _ _ _ ⟨gs,w,sl,T,ch,rfl,h,rfl⟩;rintro μ m t ⟨gs,w,sl,T,ch,rfl,h,rfl⟩;obtain⟨i,g,d,Kf,hi,hg,aY⟩:=crowd_pick (P:=P) (w:=w) (sl:=sl) h.awake (h.some1 hA);obtain⟨m',ops,cH,zhp⟩:=(h.at d).step hA hi hg (sl:=Kf);refine⟨m',ops,aY.trans cH,zhp.imp id ?_⟩;rintro⟨gs',w',zIk,T',tV,rfl,hI,Kv⟩;exact⟨_,Kv,gs',w',zIk,T',tV,rfl,hI,rfl⟩
end
end Go.Mt
namespace Go.Tt
section
variable {P:dL}{S:aO->Prop}{K:Pr}{R:Pr}
variable {f:aF->ByteArray->cU (ForInStep ByteArray)}
def zwX (hf:∀(R:Pr) c c' s,VR S K R c c'->aG P S K lQ (f c s) R (f c' s)):∀(l l':List aF) {R:Pr} (s:ByteArray),xN S K R l l'->
 aG P S K lQ (forIn (m:=cU) l s f) R (forIn (m:=cU) l' s f)
 |[],[],R,s,_=>aG.ret rfl
 |[],_::_,_,_,h=>by have:=h.1;simp at this
 |_::_,[],_,_,h=>by have:=h.1;simp at this
 |a::l,a'::l',R,s,h=>by
  obtain⟨h1,h2⟩:=h.cons;simp only[List.forIn_cons];refine aG.bnd (hf R a a' s h1) ?_;rintro R1 e1 x _ rfl
  cases x with
  |done b=>exact aG.ret rfl
  |yield b=>exact zwX hf l l' b (h2.mono e1.le)
variable {x':aF}
def zED {x:aF}(h:VR S K R x x'):aG P S K (VA S K) (zbJ x) R (zbJ x'):=by
 unfold zbJ
 cases h with
 |slice ha=>
  cases ha with
  |none=>exact aG.ret (.string _)
  |some ha=>
   refine aG.bnd (zkE ha _) ?_;intro R1 e1 xs bX hx;simp only;rw[<-ztP,<-ztP];refine aG.bnd (zwX (λR c c' s hc=>?_) _ _ _ hx.toList) ?_
   .cases hc with
    |int k n=>cases k<;>first|exact aG.ret rfl|exact .inl (bN.bnd _)|exact .inl bN
    |_=>first|exact .inl (bN.bnd _)|exact .inl bN
   rintro R2 e2 s _ rfl;exact aG.ret (.string _)
 |_=>exact .inl bN
def zie (v:aF):cU Next:=
 match v with
 | .pointer none| .nilIface| .nilFunc=>runtimePanic .nilDeref
 | .func (.method name) first captured=>
  match(first[0]? :Option aF) with
  |some .nilIface=>runtimePanic .nilDeref
  |some (.iface t w)=>do
   if(<-nilAhead ((<-program).types.size+Made.depth) t w name) !=some false then
    unsupported (.noEntry "op/nilCheck.the method's receiver behind this interface value is a nil pointer, or cannot be seen to be none, and the arguments act or may panic (ledger 612)")
   pure (.value (.func (.method name) first captured))
  |_=>pure (.value (.func (.method name) first captured))
 |x=>pure (.value x)
def zB5 {x:aF}(h:VR S K R x x'):aG P S K (λR a b=>∃v v',a=.value v/\b=.value v'/\VR S K R v v') (zie x) R (zie x'):=by
 unfold zie;have h0:=h
 cases h with
 |pointer h=>cases h with
  |none=>exact .inl vE
  |some h=>exact aG.ret ⟨_,_,rfl,rfl,h0⟩
 |nilIface=>exact .inl vE
 |nilFunc=>exact .inl vE
 |junk h=>exact .inl vE
 |_=>exact aG.ret ⟨_,_,rfl,rfl,h0⟩
end
end Go.Tt
namespace Go.Tt
open Go.Conc
end Go.Tt
namespace Go.Tt
def zcG (p:bR)(t:aM):Bool:=
 match p.underlying t with
 |some (.int _)=>(match p.info? t with|some i=>(match i.desc with| .named "sync.copyChecker" _=>false|_=>true)|none=>true)
 |some d=>za2 d
 |none=>false
def zvk:aF->Bool
 | .bool _| .int _ _| .string _| .nilFunc| .nilIface| .pointer none| .slice none _ _| .map none| .chan none=>true
 |_=>false
def Xv (p:bR)(t:aM):Bool:=match p.underlying t with|some (.map k _)=>zcG p k|_=>true
def zcC (p:bR)(t:aM):Bool:=match p.underlying t with|some (.int _)=>true|_=>false
def dP (fs:aO->Bool):cN->Bool
 | .tmp _=>true
 | .const v=>zvk v
 | .global _=>false
 | .func f=>fs f
def okTab (p:bR):cN->Bool
 | .global g=>Bc p g
 |_=>false
structure Cl where
 fs:aO->Bool
 gs:aO->Bool
 dy:Bool
abbrev Cl.T (c:Cl)(f:aO):Prop:=c.gs f=true
def zgE (p:bR)(t:aM):Bool:=match p.underlying t with|some (.slice e)=>(match p.underlying e with|some (.int .u8)=>true|_=>false)|_=>false
def zgV (p:bR)(t:aM):Bool:=match p.underlying t with|some .string=>true|_=>false
def zgG (p:bR)(t:aM):cN->Bool
 | .const (.pointer none)=>(match p.underlying t with|some (.pointer _)=>true|_=>false)
 |_=>false
def zoq (c:Cl):cN->Bool
 | .func g=>c.gs g
 |x=>dP c.fs x&&c.dy
def rL (p:bR)(c:Cl):Op->Bool
 | .move x| .assign x| .nilCheck x=>dP c.fs x
 | .pick q a b=>dP c.fs q&&dP c.fs a&&dP c.fs b
 | .alloc _=>true
 | .box _ x=>dP c.fs x
 | .build _ ps=>ps.all λx=>dP c.fs x.2
 | .buildSlice _ _ ps=>ps.all λx=>dP c.fs x.2
 | .load _ a=>dP c.fs a
 | .store _ a x=>dP c.fs a&&dP c.fs x
 | .binOp op t x y _=>dP c.fs x&&dP c.fs y&&(if op matches .eql| .neq then(zcG p t||zgG p t y)&& !(p.eqGuardType p.depth t) else true)
 | .unOp _ _ x=>dP c.fs x
 | .convert s d x=>dP c.fs x&&((zcC p s&&zcC p d)||(zgE p s&&zgV p d))
 | .makeFunc (.func f) a b=>c.fs f&&a.all (dP c.fs)&&b.all (dP c.fs)
 | .makeMap _ r=>(match r with|some x=>dP c.fs x|none=>true)
 | .makeSlice _ l q=>dP c.fs l&&dP c.fs q
 | .makeChan _ l=>dP c.fs l
 | .slice _ x lo hi mx=>dP c.fs x&&(match lo with|some x=>dP c.fs x|none=>true)&&(match hi with|some x=>dP c.fs x|none=>true)&&(match mx with|some x=>dP c.fs x|none=>true)
 | .fieldAddr _ x _| .extract x _=>dP c.fs x
 | .indexAddr _ x i=>(dP c.fs x||okTab p x)&&dP c.fs i
 | .index _ x i=>dP c.fs x&&dP c.fs i
 | .makeInterface _ x| .panic x=>dP c.fs x
 | .lookup t x i _=>dP c.fs x&&dP c.fs i&&Xv p t
 | .mapUpdate t m k x=>dP c.fs m&&dP c.fs k&&dP c.fs x&&Xv p t
 | .call {callee:=.value f,args,..}=>zoq c f&&args.all (dP c.fs)
 | .call {callee:=.builtin .len,args,..}| .call {callee:=.builtin .cap,args,..}| .call {callee:=.builtin .copy,args,..}| .call {callee:=.builtin .append,args,..}| .call {callee:=.builtin .clear,args,..}=>args.all (dP c.fs)
 | .call {callee:=.builtin .delete,args,argTypes}=>args.all (dP c.fs)&&(match argTypes[0]? with|some t=>Xv p t|none=>true)
 |_=>false
section
variable {P:dL}{fs:aO->Bool}{K R:Pr}
abbrev SF (fs:aO->Bool):aO->Prop:=λf=>fs f=true
variable {t:aM}
def zgT (h:zcG P.c t=true):L3 P t:=by
 unfold zcG at h;have hu:∀d,P.c.underlying t=some d->P.underlying t=some d:=λd e=>e;split at h
 .next k e=>
  refine⟨⟨_,e,rfl⟩,λk' _ i x hi hd=>?_⟩;have gT:P.c.info? t=some i:=hi;rw[gT] at h;simp only[hd] at h;cases h
 .next d aT e=>
  exact⟨⟨d,e,h⟩,λk hk=>absurd (e.symm.trans hk) (by intro e';injection e' with e';exact aT k (e'▸rfl))⟩
 .cases h
def zph {v:aF}(h:zvk v=true):VR (SF fs) K R v v:=by
 cases v with
 |bool b=>exact .bool b
 |int k n=>exact .int k n
 |string s=>exact .string s
 |nilFunc=>exact .nilFunc
 |nilIface=>exact .nilIface
 |pointer a=>cases a with|none=>exact .pointer .none|some a=>cases h
 |slice a n c=>cases a with|none=>exact .slice .none|some a=>cases h
 |map a=>cases a with|none=>exact .map .none|some a=>cases h
 |chan a=>cases a with|none=>exact .chan .none|some a=>cases h
 |_=>cases h
inductive NxR (S:aO->Prop)(T:aO->Prop)(K R:Pr):Next->Next->Prop
 |value {v v':aF}:VR S K R v v'->NxR S T K R (.value v) (.value v')
 |skip:NxR S T K R .skip .skip
 |enter {f:aO} {xs bX:Array aF}:T f->bK S K R xs bX->NxR S T K R (.enter f xs) (.enter f bX)
abbrev NA (S:aO->Prop)(T:aO->Prop)(K:Pr):Pr->Next->Next->Prop:=λR n n'=>NxR S T K R n n'
def qA {S T:aO->Prop}{s s':cU aF}(h:aG P S K (VA S K) s R s'):aG P S K (NA S T K) (do pure (.value (<-s))) R (do pure (.value (<-s'))):=
 aG.bnd h λ_ _ _ _ hv=>aG.ret (.value hv)
variable {α:Type}
def sim_u {S T:aO->Prop}{s s':cU α}(h:aG P S K lQ s R s'):aG P S K (NA S T K) (do let _<-s;pure .skip) R (do let _<-s';pure .skip):=
 aG.bnd h λ_ _ _ _ _=>aG.ret .skip
variable {ρ ρ':cN->aF}
def bK.maps {S:aO->Prop}{ok:cN->Bool}(h:∀x,ok x=true->VR S K R (ρ x) (ρ' x)){xs:Array cN}(hx:xs.all ok=true):bK S K R (xs.map ρ) (xs.map ρ'):=by
 refine⟨aP,λi v v' h1 h2=>?_⟩;rw[xL] at h1 h2;obtain⟨x,Fs,rfl⟩:=xB.1 h1;obtain⟨y,Ot,rfl⟩:=xB.1 h2;rw[Fs] at Ot;cases Ot;exact h x (zlt.1 hx i (dQ.1 Fs).1|>λe=>by rwa [(dQ.1 Fs).2] at e)
def zEd {S:aO->Prop}(op:BinOp)(t:aM)(x y:cN){a a' b b':aF}(ha:VR S K R a a')(hb:VR S K R b b')(h:P.c.eqGuardType P.c.depth t=false)(h':P.g.eqGuardType P.g.depth t=false):
 aG P S K lQ (eqGuard op t x y a b) R (eqGuard op t x y a' b'):=by
 have rest:aG P S K lQ (do
  match a,b with
  | .nilIface,.nilIface=>
   if(x matches .const _)||(y matches .const _) then return
   if<-So Qw t a b then unsupported (.noEntry "binop/eql: two nil values of an interface type with methods, neither of them the literal nil")
  | .agg _,.agg _=>
   if !(<-program).eqGuardType (<-program).depth t then return
   if<-So Qw t a b then unsupported (.noEntry "binop/eql: two nil values of an interface type with methods, in a part of a struct or an array")
  |_,_=>pure ()) R (do
  match a',b' with
  | .nilIface,.nilIface=>
   if(x matches .const _)||(y matches .const _) then return
   if<-So Qw t a' b' then unsupported (.noEntry "binop/eql: two nil values of an interface type with methods, neither of them the literal nil")
  | .agg _,.agg _=>
   if !(<-program).eqGuardType (<-program).depth t then return
   if<-So Qw t a' b' then unsupported (.noEntry "binop/eql: two nil values of an interface type with methods, in a part of a struct or an array")
  |_,_=>pure ()):=by
  cases ha with
  |nilIface=>
   cases hb with
   |nilIface=>
    simp only;by_cases hc:((x matches .const _)||(y matches .const _))=true
    .rw[if_pos hc]
     exact aG.ret rfl
    .rw[if_neg hc]
     refine aG.bnd (A:=lQ) ?_ λR1 h1 c _ e=>?_
     .show aG P S K lQ (So (9999+1) t .nilIface .nilIface) R (So (9999+1) t .nilIface .nilIface)
      unfold So;refine aG.bnd (l7 t) ?_;rintro R1 h1 d _ ⟨rfl,_⟩;cases d<;>exact aG.ret rfl
     .subst e
      cases c
      .exact aG.ret rfl
      .exact .inl lG
   |junk hh=>cases b'<;>first|exact hh.elim|exact aG.ret rfl
   |_=>exact aG.ret rfl
  |agg e1 e2=>
   cases hb with
   |agg e3 e4=>
    simp only;refine aG.bnd Tw ?_;rintro R1 h1 p q ⟨rfl,rfl⟩;refine aG.bnd Tw ?_;rintro R2 h2 p q ⟨rfl,rfl⟩;rw[h,h'];exact aG.ret rfl
   |junk hh=>cases b'<;>first|exact hh.elim|exact aG.ret rfl
   |_=>exact aG.ret rfl
  |junk hh=>cases a'<;>first|exact hh.elim|exact aG.ret rfl
  |_=>exact aG.ret rfl
 unfold eqGuard;cases op<;>first|exact aG.ret rfl|exact rest
variable {x x':aF}
def zDx (op:BinOp)(ho:op=.eql\/op=.neq)(he:L3 P t)(hR:tW P K R){y y':aF}(hx:VR (SF fs) K R x x')(hy:VR (SF fs) K R y y'):
 aG P (SF fs) K (VA (SF fs) K) (binOp op t x y) R (binOp op t x' y'):=by
 have k1:aG P (SF fs) K (VA (SF fs) K) (do pure (.bool (<-zA t x y))) R (do pure (.bool (<-zA t x' y'))):=
  aG.bnd (znG he hR hx hy) λR1 _ b _ e=>by subst e;exact aG.ret (.bool _)
 have k2:aG P (SF fs) K (VA (SF fs) K) (do pure (.bool (!(<-zA t x y)))) R (do pure (.bool (!(<-zA t x' y')))):=
  aG.bnd (znG he hR hx hy) λR1 _ b _ e=>by subst e;exact aG.ret (.bool _)
 by_cases hf:Flat x/\Flat y
 rotate_left
 .obtain⟨d,hd,ok⟩:=he.ex
  have hn:=zmO hd ok hf;refine .inl ?_
  rcases ho with rfl|rfl<;>cases x<;>cases y<;>first
   |exact(hf ⟨True.intro,True.intro⟩).elim
   |exact hn.bnd _
 rcases ho with rfl|rfl
 .cases hx with
  |int k a=>
   cases hy with
   |int k' b=>
    by_cases hk:k=k'
    .subst hk;simp only[binOp,ne_eq,not_true_eq_false,if_false];exact zkV _ _ _
    .simp only[binOp,ne_eq,hk,not_false_eq_true,if_true];exact .inl bN
   |junk hh=>exact hf.2.elim
   |_=>exact k1
  |string a=>
   cases hy with
   |string b=>exact ziR .eql a b
   |junk hh=>exact hf.2.elim
   |_=>exact k1
  |junk hh=>exact hf.1.elim
  |_=>cases hy<;>first|exact k1|exact hf.2.elim
 .cases hx with
  |int k a=>
   cases hy with
   |int k' b=>
    by_cases hk:k=k'
    .subst hk;simp only[binOp,ne_eq,not_true_eq_false,if_false];exact zkV _ _ _
    .simp only[binOp,ne_eq,hk,not_false_eq_true,if_true];exact .inl bN
   |junk hh=>exact hf.2.elim
   |_=>exact k2
  |string a=>
   cases hy with
   |string b=>exact ziR .neq a b
   |junk hh=>exact hf.2.elim
   |_=>exact k2
  |junk hh=>exact hf.1.elim
  |_=>cases hy<;>first|exact k2|exact hf.2.elim
def zeh {d:TypeDesc}(hd:P.c.underlying t=some d){β:Type}{f:TypeDesc->cU β}(hf:fE P (f d)):fE P (underlying t>>=f):=λw hw=>by
 obtain⟨h1,w1,h2,h3⟩:=hf w hw;refine⟨h1,w1,?_,h3⟩;have hg:P.g.underlying t=some d:=hd;have hu:(underlying t).run P.g w=.ok d w:=by simp[underlying,program,bD,bind,xR,pure,hg]
 have:=r9 P.g (underlying t) f w;rw[hu] at this;exact this.trans h2
variable {p:bR}
def zzl {y:cN}(h:zgG p t y=true):∃el,p.underlying t=some (.pointer el)/\y=.const (.pointer none):=by
 unfold zgG at h;split at h
 .split at h
  .next el e=>exact⟨el,e,rfl⟩
  .cases h
 .cases h
def zCq {el:aM}(op:BinOp)(ho:op=.eql\/op=.neq)(he:P.c.underlying t=some (.pointer el))(hx:VR (SF fs) K R x x'):
 aG P (SF fs) K (VA (SF fs) K) (binOp op t x (.pointer none)) R (binOp op t x' (.pointer none)):=by
 have key:aG P (SF fs) K lQ (Dh (9999+1) t x (.pointer none)) R (Dh (9999+1) t x' (.pointer none)):=by
  unfold Dh;refine aG.bnd (l7 t) ?_;rintro R1 h1 d _ ⟨rfl,hd⟩;obtain rfl:d=.pointer el:=cE ((hd).symm.trans he)
  cases hx with
  |pointer hp=>
   cases hp with
   |none=>exact aG.ret rfl
   |some _=>exact aG.ret rfl
  |_=>exact .inl zjK
 have k1:aG P (SF fs) K (VA (SF fs) K) (do pure (.bool (<-zA t x (.pointer none)))) R (do pure (.bool (<-zA t x' (.pointer none)))):=
  aG.bnd key λR1 _ b _ e=>by subst e;exact aG.ret (.bool _)
 have k2:aG P (SF fs) K (VA (SF fs) K) (do pure (.bool (!(<-zA t x (.pointer none))))) R (do pure (.bool (!(<-zA t x' (.pointer none))))):=
  aG.bnd key λR1 _ b _ e=>by subst e;exact aG.ret (.bool _)
 by_cases hj:x=.nilFunc
 .subst hj
  refine .inl ?_;have hn:fE P (zA t .nilFunc (.pointer none)):=by
   show fE P (Dh (9999+1) t .nilFunc (.pointer none));unfold Dh;exact zeh he zjK
  rcases ho with rfl|rfl<;>exact hn.bnd _
 rcases ho with rfl|rfl
 .cases hx with
  |junk _=>exact absurd rfl hj
  |_=>exact k1
 .cases hx with
  |junk _=>exact absurd rfl hj
  |_=>exact k2
variable {s:aM}
def zB1 {d:aM}(hs:zcC P.c s=true)(hd:zcC P.c d=true){S:aO->Prop}(hx:VR S K R x x'):aG P S K (VA S K) (convert s d x) R (convert s d x'):=by
 unfold convert;refine aG.bnd (l7 s) ?_;rintro R1 h1 a _ ⟨rfl,ha⟩;refine aG.bnd (l7 d) ?_;rintro R2 h2 b _ ⟨rfl,hb⟩;have fN:P.c.underlying s=some a:=ha;have bZ:P.c.underlying d=some b:=hb;unfold zcC at hs hd;rw[fN] at hs;rw[bZ] at hd;cases a<;>simp only[jE] at hs;cases b<;>simp only[jE] at hd
 cases hx with
 |int k n=>exact aG.ret (.int _ _)
 |pointer h=>cases h<;>exact .inl lG
 |_=>exact .inl lG
def zGJ (h:zgE p s=true):∃e,p.underlying s=some (.slice e)/\p.underlying e=some (.int .u8):=by
 unfold zgE at h;split at h
 .next e he=>
  split at h
  .next h2=>exact⟨e,he,h2⟩
  .cases h
 .cases h
def zHO (h:zgV p s=true):p.underlying s=some .string:=by
 unfold zgV at h;split at h
 .next he=>exact he
 .cases h
def zEF {S:aO->Prop}(n:Int):aG P S K (VA S K) (ziL n) R (ziL n):=by
 unfold ziL
 first|exact aG.ret (.string _)|(split<;>exact aG.ret (.string _))
def zDg {d:aM}(hs:zgE P.c s=true)(hd:zgV P.c d=true){S:aO->Prop}(hx:VR S K R x x'):aG P S K (VA S K) (convert s d x) R (convert s d x'):=by
 obtain⟨e,vZ,Av⟩:=zGJ hs;have Nk:=zHO hd;by_cases hj:x=.nilFunc
 .subst hj
  refine .inl ?_;unfold convert;exact zeh vZ (zeh Nk (zeh Av bN))
 unfold convert;refine aG.bnd (l7 s) ?_;rintro R1 h1 a _ ⟨rfl,ha⟩;refine aG.bnd (l7 d) ?_;rintro R2 h2 b _ ⟨rfl,hb⟩;obtain rfl:a=.slice e:=cE ((ha).symm.trans vZ);obtain rfl:b=.string:=cE ((hb).symm.trans Nk)
 have tail:∀{x x':aF},VR S K R2 x x'->aG P S K (VA S K) (do match<-underlying e with| .int .u8=>zbJ x| .int .i32=>zuX x|_=>stuck "Convert: a slice of what to string?") R2
  (do match<-underlying e with| .int .u8=>zbJ x'| .int .i32=>zuX x'|_=>stuck "Convert: a slice of what to string?"):=by
  intro x x' hx;refine aG.bnd (l7 e) ?_;rintro R3 h3 c _ ⟨rfl,hc⟩;obtain rfl:c=.int .u8:=cE ((hc).symm.trans Av);exact zED (hx.mono h3.le)
 have Af:=(hx.mono h1.le).mono h2.le
 cases hx with
 |int k n=>exact zEF n
 |string s=>exact aG.ret (.string s)
 |nilFunc=>exact absurd rfl hj
 |junk _=>exact absurd rfl hj
 |slice h=>cases h<;>exact tail Af
 |_=>exact tail Af
def oC (p:bR)(q:Cl):Code->Bool
 | .skip| .ret| .exit _| .label _=>true
 | .region _ ops _=>ops.all λo=>rL p q o.op
 | .seq a b=>oC p q a&&oC p q b
 | .cond c a b=>dP q.fs c&&oC p q a&&oC p q b
 | .block _ c| .loop c| .scope c=>oC p q c
 |_=>false
def uA (P:dL)(fs:aO->Bool)(f:aO):Cl:=if P.lw f then⟨fs,P.lw,false⟩ else⟨fs,P.gs,P.dy⟩
def zm7 (P:dL)(fs:aO->Bool)(f:aO):(uA P fs f).fs=fs:=by unfold uA;split<;>rfl
structure Fit (P:dL)(fs:aO->Bool):Prop where
 zero:H7 P (SF fs)
 fn:∀f,P.gs f=true->P.op f=false->∃fn c,P.g.funcs[f]? =some fn/\P.c.funcs[f]? =some fn/\(fn.name== "runtime.NumGoroutine")=false/\fn.body=some c/\oC P.c (uA P fs f) c=true
 opq:∀f,P.gs f=true->P.op f=true->∃fn fn' c c',P.g.funcs[f]? =some fn/\P.c.funcs[f]? =some fn'/\(fn.name== "runtime.NumGoroutine")=false/\(fn'.name== "runtime.NumGoroutine")=false/\fn.body=some c/\fn'.body=some c'
 low:∀f,P.lw f=true->P.op f=false/\P.gs f=true
 dyn:P.dy=true->∀f,fs f=true->P.gs f=true
 guard:∀t,P.g.eqGuardType P.g.depth t=P.c.eqGuardType P.c.depth t
def zr3 (F:Fit P fs){T:aO->Prop}{f:aO}(hf:P.gs f=true)(hT:T f){xs bX:Array aF}(h:bK (SF fs) K R xs bX):aG P (SF fs) K (NA (SF fs) T K) (callFunc f xs) R (callFunc f bX):=by
 unfold callFunc;refine aG.bnd Tw ?_;rintro R1 h1 p q ⟨rfl,rfl⟩
 cases ho:P.op f with
 |false=>
  obtain⟨fn,c,e1,e2,e3,e4,_⟩:=F.fn f hf ho;simp only[e1,e2,e3,e4,zoB,jE,if_false];exact aG.ret (.enter hT (h.mono h1.le))
 |true=>
  obtain⟨fn,fn',c,c',e1,e2,e3,e4,e5,e6⟩:=F.opq f hf ho;simp only[e1,e2,e3,e4,e5,e6,zoB,jE,if_false];exact aG.ret (.enter hT (h.mono h1.le))
def zdM {S:aO->Prop}(hρ:∀x,dP fs x=true->VR S K R (ρ x) (ρ' x)){r:Option cN}(h:(match r with|some x=>dP fs x|none=>true)=true):zF S K R (r.map ρ) (r.map ρ'):=by
 cases r with
 |none=>exact .none
 |some x=>exact .some (hρ x h)
variable {ps:Array (Nat×cN)}
def zrq {S:aO->Prop}(hρ:∀x,dP fs x=true->VR S K R (ρ x) (ρ' x))(h:(ps.all λx=>dP fs x.2)=true):J5 S K R (ps.map λ(i,x)=>(i,ρ x)).toList (ps.map λ(i,x)=>(i,ρ' x)).toList:=by
 rw[zuv,zuv];have h':∀x∈ps.toList,dP fs x.2=true:=λx hx=>by
  rw[Array.all_eq_true'] at h;exact h x (by simpa using hx)
 generalize ps.toList=l at h'⊢
 induction l with
 |nil=>exact .nil
 |cons a l ih=>
  obtain⟨i,x⟩:=a;exact .cons (hρ x (h' (i,x) aP)) (ih λy hy=>h' y (by simp[hy]))
def zGZ (q:Ask α):∀w:aE,(w.ask q).2.heap=w.heap:=by
 induction q with
 |done a=>intro w;rfl
 |ask zLw range k ih=>
  intro w;unfold aE.ask;simp only;split
  .exact ih _ w
  .exact ih _ _
def zyE (c:Sys):nG P (sys c):=λw hw=>.inl ⟨(w.sys c).1,(w.sys c).2,rfl,λb cc e=>by
 have:(w.sys c).2.heap=w.heap:=by
  have h:=zGZ (Kernel.perform c w.os) w;unfold aE.sys;split
  .rfl
  .next e=>rw[e] at h;exact h
 rw[this];exact hw b cc e⟩
def zz0 :fE P (zqM x):=by
 unfold zqM;cases x<;>first|exact zg1|exact bN|skip
 refine fE.then ?_ λn=>?_
 .unfold Instr.panicnil
  refine(zyE _).bnd λr=>?_;cases r<;>first|exact .never bN|exact zlm.bnd λ_=>nG.ret _
 .split
  .exact zg1
  .exact vE
def zjF (F:Fit P fs)(hR:tW P K R)(hρ:∀x,dP fs x=true->VR (SF fs) K R (ρ x) (ρ' x))(De:∀g,ρ (.func g)=.func (.func g) #[] #[])(zB3:∀g,ρ' (.func g)=.func (.func g) #[] #[])(ziD:∀g,ρ (.global g)=.pointer (some ⟨g,0,none⟩))(zA6:∀g,ρ' (.global g)=.pointer (some ⟨g,0,none⟩))(sJ:∀v,ρ (.const v)=v)(zzK:∀v,ρ' (.const v)=v){q:Cl}(hq:q.fs=fs)(zwQ:∀f,q.gs f=true->P.gs f=true)(zq6:q.dy=true->∀f,fs f=true->q.gs f=true){o:aZ}(ok:rL P.c q o.op=true):
 aG P (SF fs) K (NA (SF fs) q.T K) (aS ρ o) R (aS ρ' o):=by
 obtain⟨dst,op,type,pos,after,guard⟩:=o;subst hq;simp only at ok;unfold aS
 cases op with
 |move x=>exact aG.ret (.value (hρ x ok))
 |assign x=>exact aG.ret (.value (hρ x ok))
 |pick c a b=>
  simp only[rL,fT] at ok;refine aG.bnd (zET (hρ c ok.1.1)) ?_;rintro R1 h1 x _ rfl;cases x
  .exact aG.ret (.value ((hρ b ok.2).mono h1.le))
  .exact aG.ret (.value ((hρ a ok.1.2).mono h1.le))
 |alloc t=>exact qA (zH9 F.zero t)
 |box t x=>exact qA (zBW t (hρ x ok))
 |load t a=>exact qA (zDP t (hρ a ok))
 |store t a x=>
  simp only[rL,fT] at ok;exact sim_u (zJe t (hρ a ok.1) (hρ x ok.2))
 |binOp op t x y t'=>
  simp only[rL,fT] at ok;obtain⟨⟨hx,hy⟩,hk⟩:=ok;by_cases ho:op=.eql\/op=.neq
  .have cO:(zcG P.c t=true\/zgG P.c t y=true)/\P.c.eqGuardType P.c.depth t=false:=by
    rcases ho with rfl|rfl<;>simpa using hk
   refine qA ?_;refine aG.bnd (zEd op t x y (hρ x hx) (hρ y hy) cO.2 (by rw[F.guard];exact cO.2)) ?_;rintro R1 h1 _ _ _;rcases cO.1 with n9|n9
   .exact zDx op ho (zgT n9) (h1.ok hR) ((hρ x hx).mono h1.le) ((hρ y hy).mono h1.le)
   .obtain⟨el,e1,e2⟩:=zzl n9
    subst e2;rw[sJ,zzK];exact zCq op ho e1 ((hρ x hx).mono h1.le)
  .have vG:op≠ .eql/\op≠ .neq:=⟨λe=>ho (.inl e),λe=>ho (.inr e)⟩
   refine qA ?_;have hg:∀a b,eqGuard op t x y a b=kW ():=λa b=>by
    unfold eqGuard;cases op<;>first|rfl|exact absurd rfl vG.1|exact absurd rfl vG.2
   rw[hg,hg];refine aG.bnd (A:=lQ) (aG.ret rfl) ?_;rintro R1 h1 _ _ _;exact zJq op t vG (h1.ok hR) ((hρ x hx).mono h1.le) ((hρ y hy).mono h1.le)
 |unOp op t x=>exact qA (zJg op (hρ x ok))
 |convert s d x=>
  simp only[rL,fT,Er] at ok;rcases ok.2 with h|h
  .exact qA (zB1 h.1 h.2 (hρ x ok.1))
  .exact qA (zDg h.1 h.2 (hρ x ok.1))
 |nilCheck x=>
  have:=zB5 (P:=P) (hρ x ok);exact this.mono λR' _ a b h=>by
   obtain⟨v,v',rfl,rfl,h⟩:=h;exact .value h
 |build t ps=>exact qA (zI7 F.zero t (zrq hρ ok))
 |buildSlice t n ps=>exact qA (zAc F.zero t n (zrq hρ ok))
 |makeFunc fn a b=>
  cases fn with
  |func f=>
   simp only[rL,fT] at ok;have ha:=bK.maps hρ ok.1.2;have hb:=bK.maps hρ ok.2;exact qA (aG.ret (.func ok.1.1 ha.1 ha.2 hb.1 hb.2))
  |_=>cases ok
 |makeMap t r=>exact qA (zy1 t (zdM hρ ok))
 |makeSlice t l c=>
  simp only[rL,fT] at ok;exact qA (zDe F.zero t (hρ l ok.1) (hρ c ok.2))
 |makeChan t l=>exact qA (zBK t (hρ l ok))
 |slice t x lo hi mx=>
  simp only[rL,fT] at ok;exact qA (zIh t (hρ x ok.1.1.1) (zdM hρ ok.1.1.2) (zdM hρ ok.1.2) (zdM hρ ok.2))
 |fieldAddr t x f=>exact qA (zEb t (hρ x ok) f)
 |extract x i=>exact qA (zEM (hρ x ok) i)
 |indexAddr t x i=>
  simp only[rL,fT,Er] at ok;have hx:VR (SF q.fs) K R (ρ x) (ρ' x):=by
   rcases ok.1 with h|h
   .exact hρ x h
   .cases x with
    |global g=>rw[ziD,zA6];exact .pointer (.some (.mk (hR.tb g h)))
    |_=>cases h
  exact qA (zGH t hx (hρ i ok.2))
 |makeInterface t x=>exact qA (zCN t (hρ x ok))
 |panic x=>exact qA (.inl zz0)
 |index t x i=>
  simp only[rL,fT] at ok;exact qA (zEc t (hρ x ok.1) (hρ i ok.2))
 |lookup t x i c=>
  simp only[rL,fT] at ok;refine qA (zIY F.zero (λk e he=>?_) hR (hρ x ok.1.1) (hρ i ok.1.2) c);have hm:=ok.2;unfold Xv at hm;rw[show P.c.underlying t=some (.map k e) from he] at hm;exact zgT hm
 |mapUpdate t m k x=>
  simp only[rL,fT] at ok;refine sim_u (zFo (λk e he=>?_) hR (hρ m ok.1.1.1) (hρ k ok.1.1.2) (hρ x ok.1.2));have hm:=ok.2;unfold Xv at hm;rw[show P.c.underlying t=some (.map k e) from he] at hm;exact zgT hm
 |call c=>
  obtain⟨callee,args,kT⟩:=c
  cases callee with
  |value f=>
   simp only[rL,fT] at ok;have ha:=bK.maps hρ ok.2;have key:(∀g,f≠ .func g)->aG P (SF q.fs) K (NA (SF q.fs) q.T K) (aS ρ ⟨dst,.call ⟨.value f,args,kT⟩,type,pos,after,guard⟩) R (aS ρ' ⟨dst,.call ⟨.value f,args,kT⟩,type,pos,after,guard⟩):=by
    intro aT;have h1:dP q.fs f=true/\q.dy=true:=by
     have:=ok.1;unfold zoq at this
     cases f with
     |func g=>exact absurd rfl (aT g)
     |_=>simpa using this
    have hf:=hρ f h1.1;unfold aS;simp only[resolve];unfold Co;generalize ρ f=vf at hf⊢;generalize ρ' f=vf' at hf⊢
    cases hf with
    |nilFunc=>
     refine .inl ?_;intro w hw;exact(vE (P:=P) (α:=Next) (e:=.nilDeref)) w hw
    |junk _=>
     refine .inl ?_;intro w hw;exact(vE (P:=P) (α:=Next) (e:=.nilDeref)) w hw
    |func hs e1 zG e2 h2=>
     show aG P _ K _ (callFunc _ _) R (callFunc _ _);exact zr3 F (zwQ _ (zq6 h1.2 _ hs)) (zq6 h1.2 _ hs) (bK.append (bK.append ⟨e1,zG⟩ ha) ⟨e2,h2⟩)
    |_=>exact .inl (fE.bnd bN _)
   cases f with
   |func g=>
    have hg:q.gs g=true:=ok.1;simp only[resolve];unfold Co;rw[De,zB3];show aG P _ K _ (callFunc _ _) R (callFunc _ _);exact zr3 F (zwQ _ hg) hg (bK.append (bK.append bK.empty ha) bK.empty)
   |_=>exact key (λg e=>by cases e)
  |builtin b=>
   cases b with
   |len=>exact qA (zBJ kT type (bK.maps hρ ok))
   |cap=>exact qA (zA3 kT type (bK.maps hρ ok))
   |copy=>exact qA (zCQ kT type (bK.maps hρ ok))
   |clear=>exact qA (zCH F.zero kT type (bK.maps hρ ok))
   |append=>
    by_cases hi:∃xt k,kT[1]? =some xt/\P.underlying xt=some (.int k)
    .obtain⟨xt,k,e1,e2⟩:=hi
     exact qA (zFA F.zero type e1 e2 (bK.maps hρ ok))
    .refine qA (zGz F.zero type (λxt d he hd k hk=>?_) (bK.maps hρ ok))
     subst hk;exact hi ⟨xt,k,he,hd⟩
   |delete=>
    simp only[rL,fT] at ok;refine qA (zBa type (λmt k e he hd=>?_) hR (bK.maps hρ ok.1));have h2:=ok.2;rw[he] at h2;simp only at h2;unfold Xv at h2;rw[show P.c.underlying mt=some (.map k e) from hd] at h2;exact zgT h2
   |_=>cases ok
  |invoke x y=>cases ok
 |_=>cases ok
end
def tp (w:aE)(T:jZ)(e:Nat):World:={w with tape:=T,drawn:=e}
def Nj {α:Type}(p:bR)(s:cU α)(w:aE):Prop:=
 ∀x w',s.run p w=.ok x w'->w'.tape=w.tape/\w.drawn<=w'.drawn/\∀T e,(∀n,n<w'.drawn-w.drawn->∀q,T (e+n) q=w.tape (w.drawn+n) q)->s.run p (tp w T e)=.ok x (tp w' T (e+(w'.drawn-w.drawn)))
variable {α:Type}{p:bR}{w:aE}
def Nj.no {s:cU α}(h:∀x w',s.run p w≠ .ok x w'):Nj p s w:=λx w' e=>absurd e (h x w')
def Nj.after {s jA:cU α}{aI:aE}(h:Nj p jA aI)(hr:s.run p w=jA.run p aI)(ht:aI.tape=w.tape)(hd:aI.drawn=w.drawn)(vX:∀T e,s.run p (tp w T e)=jA.run p (tp aI T e)):Nj p s w:=by
 intro x w' e;rw[hr] at e;obtain⟨h1,h2,h3⟩:=h x w' e;refine⟨h1.trans ht,aC,λT e' ha=>?_⟩;rw[vX,h3 T e' (λn hn q=>by rw[ha n aC q,ht,hd])];rw[hd]
def aG.locl {P:dL}{S:aO->Prop}{β:Type}{K:Pr}{A:Pr->α->β->Prop}{G:Gp}{St:Nat->Prop}(hG:G=P.gp)(s:cU α):
 ∀{R:Pr} {w W:aE} {s':cU β},aG P S K A s R s'->cV S K R G St w W->Tp w W->Nj P.g s w:=by
 induction s with
 |pure a=>
  rintro R w W s' _ hw ht x w' e;simp only[bD,rE] at e;obtain⟨rfl,rfl⟩:=e;exact⟨rfl,aV _,λT e _=>by simp[bD]⟩
 |load m a k ih=>
  rintro R w W s' (hn|⟨rfl,a',k',rfl,ha,hk⟩) hw ht
  .exact .no (hn.no hw.np)
  obtain⟨qJ⟩:=ha;rename_i b b' o sp;obtain⟨ob,xV,h1,h2,h3⟩:=hw.cont b b' qJ
  cases h3 with
  |cells hc hz=>
   rename_i c c' T fz Jf
   cases sp with
   |some sp=>exact .no λx w'=>by simp[bD,lF,h1,yD,rJ]
   |none=>
    cases hv:c[o]? with
    |none=>exact .no λx w'=>by simp[bD,lF,h1,yD,rJ,hv]
    |some v=>
     obtain⟨v',J2,qF⟩:=hc.get hv;have e1:w.cell? ⟨b,o,none⟩=some v:=by simp[lF,h1,hv]
     refine(ih v (hk v v' qF) hw ht).after (by rw[bD,e1]) rfl rfl λT e=>?_;rw[bD,show(tp w T e).cell? ⟨b,o,none⟩=some v from e1]
  |_=>exact .no λx w'=>by simp[bD,lF,h1,yD,rJ]
 |store m a v k ih=>
  rintro R w W s' (hn|⟨rfl,a',v',k',rfl,ha,hv,hk⟩) hw ht
  .exact .no (hn.no hw.np)
  obtain⟨qJ⟩:=ha;rename_i b b' o sp;by_cases Mn:∃cs,v=.agg cs
  .obtain⟨cs,rfl⟩:=Mn;exact .no λx w'=>by simp[bD]
  by_cases Bg:∃cs,v=.tuple cs
  .obtain⟨cs,rfl⟩:=Bg;exact .no λx w'=>by simp[bD]
  have cH:∀w:aE,(cU.store .plain ⟨b,o,sp⟩ v k).run P.g w=(match w.cell? ⟨b,o,sp⟩ with
   |some _=>if w.frozen? ⟨b,o,sp⟩ then .halt (.unsupported (.unsafePointer "a write to bytes that a string shares")) w else k.run P.g (w.setCell ⟨b,o,sp⟩ v)
   |none=>match w.farStore P.g ⟨b,o,sp⟩ v (zcv== .atomic) with
    | .ok (w,_)=>k.run P.g w
    | .error h=>.halt h w):=λw=>by
   rw[bD]
   .rfl
   .exact λcs e=>Mn ⟨cs,e⟩
   .exact λcs e=>Bg ⟨cs,e⟩
  obtain⟨ob,xV,h1,h2,h3⟩:=hw.cont b b' qJ
  cases h3 with
  |cells hc hz=>
   rename_i c c' T fz Jf
   cases sp with
   |some sp=>exact .no λx w'=>by rw[cH];simp[lF,h1,Dc,rJ]
   |none=>
    cases fI:c[o]? with
    |none=>exact .no λx w'=>by rw[cH];simp[lF,h1,Dc,rJ,fI]
    |some v0=>
     have e1:w.cell? ⟨b,o,none⟩=some v0:=by simp[lF,h1,fI]
     cases mR:w.frozen? ⟨b,o,none⟩ with
     |true=>exact .no λx w'=>by rw[cH,e1];simp[mR]
     |false=>
      have Xg:¬Ln fz o:=by
       intro⟨z1,z2⟩;simp[aE.frozen?,h1,z1,z2] at mR
      have zO:¬St b:=by
       intro hs;obtain⟨_,c2,T2,hi,g1,g2⟩:=hw.st b hs;rw[h1] at g1;injection g1 with g1;injection g1 with g1 _ g3;subst g1 g3;exact Xg ⟨jO _,Nat.lt_of_lt_of_le (dQ.1 fI).1 g2⟩
      have st:=mV.upd hw qJ zO (oH.cells (T:=T) (hc.set o hv) hz);refine(ih hk st.rel (ht.step st)).after (by rw[cH,e1];simp only[mR,jE,if_false];rw[Zy h1]) rfl rfl λT' e=>?_;rw[cH,show(tp w T' e).cell? ⟨b,o,none⟩=some v0 from e1];simp only[show(tp w T' e).frozen? ⟨b,o,none⟩=false from mR,jE,if_false];rw[Zy (w:=tp w T' e) h1];rfl
  |_=>exact .no λx w'=>by rw[cH];simp[lF,h1,Dc,rJ]
 |new o k ih=>
  rintro R w W s' (hn|⟨o',k',rfl,ho,hk⟩) hw ht
  .exact .no (hn.no hw.np)
  have st:=mV.push hw ho;exact(ih _ (hk _ _ ⟨λb hb=>absurd (hw.lt _ _ hb).1 (Bt _),λa ha=>absurd (hw.lt _ _ ha).2 (Bt _),by subst hG;exact hw.gle⟩) st.rel (ht.step st)).after Nd rfl rfl λT e=>by rw[bD];rfl
 |shape r k ih=>
  rintro R w W s' (hn|⟨r',k',rfl,tG,hk⟩) hw ht
  .exact .no (hn.no hw.np)
  exact(ih _ (hk _) hw ht).after Nd rfl rfl λT e=>by rw[bD];rfl
 |freeze a n k ih=>
  rintro R w W s' (hn|h) hw ht
  .exact .no (hn.no hw.np)
  .exact h.elim
 |frozen a k ih=>
  rintro R w W s' (hn|⟨r',k',rfl,hk⟩) hw ht
  .exact .no (hn.no hw.np)
  exact(ih _ (hk _ true) hw ht).after Nd rfl rfl λT e=>by rw[bD];rfl
 |getObj r k ih=>
  rintro R w W s' (hn|⟨r',k',rfl,tG,hk⟩) hw ht
  .exact .no (hn.no hw.np)
  rcases hw.orR tG with y|y
  .obtain⟨ob,xV,h1,h2,h3⟩:=hw.cont r r' y
   have go:(∀c T fz,ob≠ .cells c T fz)->Nj P.g (.getObj r k) w:=λn1=>by
    refine(ih ob (hk _ _ h3) hw ht).after ?_ rfl rfl λT e=>?_
    .rw[bD,h1];cases ob<;>first|rfl|exact absurd rfl (n1 _ _ _)
    .rw[bD,show(tp w T e).heap[r]? =some ob from h1];cases ob<;>first|rfl|exact absurd rfl (n1 _ _ _)
   cases h3 with
   |cells _ _=>exact .no λx w'=>by rw[bD,h1];simp
   |_=>exact go aP
  .exact .no λx w'=>by rw[bD,y];simp[oR]
 |setObj r o k ih=>
  rintro R w W s' (hn|⟨r',o',k',rfl,tG,ho,hk⟩) hw ht
  .exact .no (hn.no hw.np)
  rcases hw.orR tG with y|y
  .obtain⟨ob,xV,h1,h2,h3⟩:=hw.cont r r' y
   have go:(∀c T fz,ob≠ .cells c T fz)->Nj P.g (.setObj r o k) w:=λn1=>by
    have zO:¬St r:=by
     intro hs;obtain⟨_,c2,T2,hi,g1,g2⟩:=hw.st r hs;rw[h1] at g1;injection g1 with g1;exact n1 _ _ _ g1
    have st:=mV.upd hw y zO ho;refine(ih hk st.rel (ht.step st)).after ?_ rfl rfl λT e=>?_
    .rw[bD,h1];cases ob<;>first|rfl|exact absurd rfl (n1 _ _ _)
    .rw[bD,show(tp w T e).heap[r]? =some ob from h1];cases ob<;>first|rfl|exact absurd rfl (n1 _ _ _)
   cases h3 with
   |cells _ _=>exact .no λx w'=>by rw[bD,h1];simp
   |_=>exact go aP
  .exact .no λx w'=>by rw[bD,y];simp[oR]
 |choose q k ih=>
  rintro R w W s' (hn|⟨k',rfl,hk⟩) hw ht
  .exact .no (hn.no hw.np)
  cases hq:q.forced with
  |true=>exact(ih 0 (hk 0) hw ht).after (by rw[bD,hq];rfl) rfl rfl λT e=>by rw[bD,hq];rfl
  |false=>
   have st:=mV.draw hw;intro x w' e;rw[bD,hq] at e;simp only[jE,if_false] at e;obtain⟨h1,h2,h3⟩:=ih _ (hk _) st.rel (ht.step st) x w' e;simp only at h1 h2 h3;refine⟨h1,aC,λT e' ha=>?_⟩;rw[bD,hq];simp only[jE,if_false];have ea:T e' q=w.tape w.drawn q:=ha 0 aC q;have:=h3 T (e'+1) (λn hn q'=>by rw[show e'+1+n=e'+(n+1) by omega,show w.drawn+1+n=w.drawn+(n+1) by omega];exact ha (n+1) aC q');show bD P.g (k (q.cut (T e' q))) (tp w T (e'+1))=_;rw[ea];rw[show tp w T (e'+1)=tp {w with drawn:=w.drawn+1} T (e'+1) from rfl,this];congr 2;omega
 |sys c k ih=>
  rintro R w W s' (hn|h) hw ht
  .exact .no (hn.no hw.np)
  .exact h.elim
 |program k ih=>
  rintro R w W s' (hn|⟨k',rfl,hk⟩) hw ht
  .exact .no (hn.no hw.np)
  exact(ih _ hk hw ht).after Nd rfl rfl λT e=>by rw[bD]
 |mark m k ih=>
  rintro R w W s' (hn|⟨rfl,k',rfl,hk⟩) hw ht
  .exact .no (hn.no hw.np)
  exact(ih hk hw ht).after Nd rfl rfl λT e=>by rw[bD]
 |halt h=>
  rintro R w W s' _ hw ht;exact .no λx w'=>by simp[bD]
end Go.Tt
namespace Go.Tt
open Go.Conc (G)
structure Fm where
 fn:aO
 tmps:Array aF
 todo:List eF
 ret:Bool
def Fm.fr (m:Fm):Frame:={fn:=m.fn,tmps:=m.tmps,todo:=m.todo,defers:=[],mode:=if m.ret then .returning else .run,kind:=.normal}
def Fm.eval (m:Fm):cN->aF
 | .tmp t=>m.tmps.getD t aA
 | .const v=>v
 | .global g=>.pointer (some ⟨g,0,none⟩)
 | .func f=>.func (.func f) #[] #[]
def Fm.fin (m:Fm)(ops:Array aZ)(i:Nat)(rest:List Nat)(k:List eF)(v:aF):Fm:=
 {m with tmps:=match(ops[i]?).bind (·.dst) with|some d=>m.tmps.setIfInBounds d v|none=>m.tmps,todo:=.inRegion ops rest::k}
def yK (t:Array aF):On->cU aF
 | .tmp s=>pure (t.getD s aA)
 | .cell s ty=>do loadVar ty (<-asAddr (t.getD s aA))
def oN:List On->Array aF->cU aF
 |[],_=>pure (.tuple #[])
 |[a],t=>yK t a
 |[a,b],t=>do
  let x<-yK t a
  let y<-yK t b
  pure (.tuple #[x,y])
 |[a,b,c],t=>do
  let x<-yK t a
  let y<-yK t b
  let z<-yK t c
  pure (.tuple #[x,y,z])
 |[a,b,c,d],t=>do
  let x<-yK t a
  let y<-yK t b
  let z<-yK t c
  let u<-yK t d
  pure (.tuple #[x,y,z,u])
 |_,_=>stuck ""
def Du (l:List On):Prop:=l=[]\/(∃a,l=[a])\/(∃a b,l=[a,b])\/(∃a b c,l=[a,b,c])\/∃a b c d,l=[a,b,c,d]
variable {fn:Func}
def zhc {tmps:Array aF}(h:Du fn.results.toList):results fn tmps=oN fn.results.toList tmps:=by
 rcases h with e|⟨a,e⟩|⟨a,b,e⟩|⟨a,b,c,e⟩|⟨a,b,c,d,e⟩
 .have e':=zaF.1 e
  simp[results,e',oN]
 .have e':=zaF.1 e
  rw[e];cases a<;>simp[results,e',oN,yK]
 .have e':=zaF.1 e
  rw[e];cases a<;>cases b<;>simp[results,e',oN,yK]
 .have e':=zaF.1 e
  rw[e];cases a<;>cases b<;>cases c<;>simp[results,e',oN,yK]
 .have e':=zaF.1 e
  rw[e];cases a<;>cases b<;>cases c<;>cases d<;>simp[results,e',oN,yK]
def TF {α:Type}(p:bR)(s:cU α):Prop:=∀w x w',s.run p w=.ok x w'->w'=w/\∀T e,s.run p (tp w T e)=.ok x (tp w T e)
variable {α:Type}{p:bR}
def TF.ret (a:α):TF p (kW a:cU α):=λw x w' h=>by
 simp only[kW,bD,rE] at h;obtain⟨rfl,rfl⟩:=h;exact⟨rfl,λT e=>rfl⟩
def TF.bnd {β:Type}{s:cU α}{f:α->cU β}(hs:TF p s)(hf:∀a,TF p (f a)):TF p (s>>=f):=λw x w' h=>by
 have h2:=(r9 p s f w).symm.trans h
 cases hx:s.run p w with
 |halt y w2=>rw[hx] at h2;cases h2
 |ok a w1=>
  rw[hx] at h2;obtain⟨rfl,h3⟩:=hs w a w1 hx;obtain⟨rfl,h4⟩:=hf a w1 x w' h2;refine⟨rfl,λT e=>(r9 p s f _).trans ?_⟩;rw[h3 T e];exact h4 T e
def TF.halt {s:cU α}(h:∀w x w',s.run p w≠ .ok x w'):TF p s:=λw x w' e=>absurd e (h w x w')
def zhf {Uw:String}:TF p (stuck Uw:cU α):=TF.halt λw x w' e=>by simp[stuck,bD] at e
def zoh :TF p program:=λw x w' h=>by
 simp only[program,bD,rE] at h;obtain⟨rfl,rfl⟩:=h;exact⟨rfl,λT e=>rfl⟩
def zyd (a:bL):TF p (load a):=λw x w' h=>by
 unfold load at h⊢;simp only[bD] at h⊢
 cases hc:w.cell? a with
 |none=>
  rw[hc] at h;simp only at h
  cases hf:yD p w a (zcv==zdL) with
  |error y=>rw[hf] at h;cases h
  |ok v=>
   rw[hf] at h;simp only[rE] at h;refine⟨h.2.symm,λT e=>?_⟩;have e1:(tp w T e).cell? a=none:=hc;have e2:yD p (tp w T e) a (zcv==zdL)=.ok v:=(show yD p (tp w T e) a (zcv==zdL)=yD p w a (zcv==zdL) from rfl).trans hf;rw[e1,e2];simp only[h.1]
 |some v=>
  rw[hc] at h;simp only[rE] at h;refine⟨h.2.symm,λT e=>?_⟩;have:(tp w T e).cell? a=some v:=hc;rw[this,h.1]
def zy8 (t:aM):TF p (underlying t):=by
 unfold underlying;refine zoh.bnd λq=>?_;split
 .exact .ret _
 .exact zhf
def zCi (t:aM):TF p (isAgg t):=by
 unfold isAgg;refine(zy8 t).bnd λq=>?_;split<;>exact .ret _
def zEC (t:aM):TF p (sizeOf t):=by
 unfold sizeOf typeInfo;refine TF.bnd (zoh.bnd λq=>?_) λi=>.ret _;split
 .exact .ret _
 .exact zhf
def zun (a:bL):∀(n i:Nat) (acc:Array aF),TF p (loadCellsFrom a i n acc)
 |0,i,acc=>.ret _
 |n+1,i,acc=>(zyd _).bnd λv=>zun a n (i+1) (acc.push v)
def zBD (t:aM)(a:bL):TF p (loadVar t a):=by
 unfold loadVar;refine(zCi t).bnd λb=>?_;split
 .exact(zEC t).bnd λn=>(zun a n 0 #[]).bnd λx=>.ret _
 .exact zyd a
def Mc (t:Array aF)(r:On):TF p (yK t r):=by
 cases r with
 |tmp s=>exact .ret _
 |cell s ty=>
  refine TF.bnd ?_ λa=>zBD ty a;unfold asAddr;split
  .exact .ret _
  .exact TF.halt λw x w' e=>by simp[runtimePanic,goPanic,bD,bind,xR,program] at e
  .exact zhf
def Oi (t:Array aF):∀l:List On,TF p (oN l t)
 |[]=>.ret _
 |[a]=>Mc t a
 |[a,b]=>(Mc t a).bnd λx=>(Mc t b).bnd λy=>.ret _
 |[a,b,c]=>(Mc t a).bnd λx=>(Mc t b).bnd λy=>(Mc t c).bnd λz=>.ret _
 |[a,b,c,d]=>(Mc t a).bnd λx=>(Mc t b).bnd λy=>(Mc t c).bnd λz=>(Mc t d).bnd λu=>.ret _
 |_::_::_::_::_::_=>zhf
variable {w w':aE}{v:aF}
def zsL {l:List On}{t:Array aF}(h:(oN l t).run p w=.ok v w'):Du l:=by
 match l,h with
 |[],_=>exact .inl rfl
 |[a],_=>exact .inr (.inl ⟨a,rfl⟩)
 |[a,b],_=>exact .inr (.inr (.inl ⟨a,b,rfl⟩))
 |[a,b,c],_=>exact .inr (.inr (.inr (.inl ⟨a,b,c,rfl⟩)))
 |[a,b,c,d],_=>exact .inr (.inr (.inr (.inr ⟨a,b,c,d,rfl⟩)))
 |a::b::c::d::e::l,h=>simp[oN,stuck,bD] at h
def qQ (p:bR)(m:Fm)(ms:List Fm)(ops:Array aZ)(i:Nat)(rest:List Nat)(k:List eF):Next->cU (Fm×List Fm)
 | .value v=>pure (m.fin ops i rest k v,ms)
 | .skip=>pure (m.fin ops i rest k aA,ms)
 | .enter f args=>
  match p.funcs[f]? with
  |some fn=>(match fn.body with
   |some c=>pure (⟨f,args++nL (fn.ntmps-args.size) aA,[.code c],false⟩,m::ms)
   |none=>stuck "")
  |none=>stuck ""
 |_=>stuck ""
def zJ (p:bR)(m:Fm):List Fm->cU (Fm×List Fm)
 |[]=>stuck ""
 |c::rest=>
  match c.todo,p.funcs[m.fn]? with
  | .inRegion ops (i::r)::k,some fn=>do
   let v<-oN fn.results.toList m.tmps
   pure (c.fin ops i r k v,rest)
  |_,_=>stuck ""
variable {m:Fm}{rest:List Fm}{w1:aE}
def Us {c m1:Fm}{ms1:List Fm}(h:(zJ p m (c::rest)).run p w=.ok (m1,ms1) w1):
 ∃ops i r k v fn,c.todo=.inRegion ops (i::r)::k/\p.funcs[m.fn]? =some fn/\(oN fn.results.toList m.tmps).run p w=.ok v w1/\m1=c.fin ops i r k v/\ms1=rest:=by
 unfold zJ at h;simp only at h;split at h
 .next ops i r k fn hc hf=>
  have h2:=(r9 p _ _ w).symm.trans h
  cases hx:(oN fn.results.toList m.tmps).run p w with
  |halt y w2=>rw[hx] at h2;cases h2
  |ok v w2=>
   rw[hx] at h2;simp only[uD,kW,bD,rE,pP] at h2;obtain⟨⟨rfl,rfl⟩,rfl⟩:=h2;exact⟨ops,i,r,k,v,fn,hc,hf,hx,rfl,rfl⟩
 .simp[stuck,bD] at h
variable {ops:Array aZ}{i:Nat}{k:List eF}
def Md {c:Fm}{r:List Nat}(hc:c.todo=.inRegion ops (i::r)::k)(hf:p.funcs[m.fn]? =some fn)(hv:(oN fn.results.toList m.tmps).run p w=.ok v w1):
 (zJ p m (c::rest)).run p w=.ok (c.fin ops i r k v,rest) w1/\∀es,(zJ p m (c::rest)).events p w es=(oN fn.results.toList m.tmps).events p w es:=by
 unfold zJ;simp only[hc,hf];constructor
 .refine(r9 p _ _ w).trans ?_
  rw[hv];rfl
 .intro es
  refine(U1 p _ _ w es).trans ?_;rw[hv,Uk];rfl
def sC (p:bR)(m:Fm)(ms:List Fm):cU (Fm×List Fm):=
 match m.todo with
 |[]=>pure ({m with ret:=true},ms)
 | .code .ret::_=>pure ({m with ret:=true},ms)
 | .code .skip::k=>pure ({m with todo:=k},ms)
 | .code (.label _)::k=>pure ({m with todo:=k},ms)
 | .inBlock _::k=>pure ({m with todo:=k},ms)
 | .inScope _::k=>pure ({m with todo:=k},ms)
 | .code (.seq a b)::k=>pure ({m with todo:=.code a:: .code b::k},ms)
 | .code (.cond c a b)::k=>(match m.eval c with
  | .bool t=>pure ({m with todo:=.code (if t then a else b)::k},ms)
  |_=>stuck "")
 | .code (.block id body)::k=>pure ({m with todo:=.code body:: .inBlock id::k},ms)
 | .code (.loop body)::k=>pure ({m with todo:=.code body:: .inLoop body::k},ms)
 | .inLoop body::k=>pure ({m with todo:=.code body:: .inLoop body::k},ms)
 | .code (.scope body)::k=>pure ({m with todo:=.code body:: .inScope body::k},ms)
 | .code (.exit id)::k=>(match exitTo id k with
  |some k'=>pure ({m with todo:=k'},ms)
  |none=>stuck "")
 | .code (.region id ops draw)::k=>
  if draw then do
   let t<-choose (.order m.fn id)
   pure ({m with todo:=.inRegion ops (Tr (p.follows .mixedOrders) ops t)::k},ms)
  else pure ({m with todo:=.inRegion ops (gN ops.size)::k},ms)
 | .inRegion _ []::k=>pure ({m with todo:=k},ms)
 | .inRegion ops (i::rest)::k=>
  if((ops[i]?).map (dD · (dR ops m.tmps))).getD false then
   match ops[i]? with
   |some o=>do
    let n<-aS m.eval o
    qQ p m ms ops i rest k n
   |none=>stuck ""
  else pure (m.fin ops i rest k aA,ms)
 |_=>stuck ""
def fD (p:bR)(m:Fm)(ms:List Fm):cU (Fm×List Fm):=if m.ret then zJ p m ms else sC p m ms
def Fm.eval_fr (m:Fm):m.fr.eval=m.eval:=by funext x;cases x<;>rfl
def Fm.fr_run (h:m.ret=false):m.fr={fn:=m.fn,tmps:=m.tmps,todo:=m.todo,defers:=[],mode:=.run,kind:=.normal}:=by simp[Fm.fr,h]
def Fm.fr_ret (h:m.ret=true):m.fr={fn:=m.fn,tmps:=m.tmps,todo:=m.todo,defers:=[],mode:=.returning,kind:=.normal}:=by simp[Fm.fr,h]
def zAr {rest:List Nat}(h:m.todo=.inRegion ops (i::rest)::k)(v:aF):m.fr.finish v=(m.fin ops i rest k v).fr:=by
 simp only[dJ.finish,Fm.fr,Fm.fin,h];cases(ops[i]?).bind (·.dst)<;>rfl
def Yb {f:aO}{c:Code}{args:Array aF}(hf:p.funcs[f]? =some fn)(hb:fn.body=some c):
 Fq p f args .normal=(⟨f,args++nL (fn.ntmps-args.size) aA,[.code c],false⟩:Fm).fr:=by
 simp[Fq,Fm.fr,hf,hb]
def zjO {id:Nat}:∀{l l':List eF} (k:List eF),exitTo id l=some l'->exitTo id (l++k)=some (l'++k)
 |[],_,_,h=>by simp[exitTo] at h
 |x::l,l',k,h=>by
  have tail:exitTo id l=some l'->exitTo id (l++k)=some (l'++k):=zjO k;cases x<;>simp only[exitTo,Sw] at h⊢<;>first|exact tail h|skip
  split at h
  .next e=>simp only[fY] at h;subst h;rw[if_pos e]
  .next e=>rw[if_neg e];exact tail h
open Conc in
structure Dk where
 ds:List Deferred
 kd:CallKind
 ok:kd≠ .early
abbrev Dk.nil:Dk:=⟨[],.normal,aP⟩
def Dk.base (d:Dk)(fn:aO):Frame:={(default:dJ) with fn:=fn,kind:=d.kd}
def fx (k:List eF)(d:Dk)(m:Fm):Frame:={m.fr with todo:=m.todo++k,defers:=d.ds,kind:=d.kd}
def Hk (m:Fm):fx [] .nil m=m.fr:=by unfold fx;simp[Fm.fr]
variable {main:Bool}{m':Fm}{ms ms':List Fm}
def zjE (hr:m.ret=false)(aT:m.todo=[]->k=[])(h:(sC p m ms).run p w=.ok (m',ms') w')(d:Dk)(CS:List dJ):
 (ms'=ms/\stepG p main (G (fx k d m) CS) w=.go (G (fx k d m') CS) w' (seen p m.fn ((sC p m ms).events p w #[])))\/
 (ms'=m::ms/\stepG p main (G (fx k d m) CS) w=.go (G m'.fr (fx k d m::CS)) w' (seen p m.fn ((sC p m ms).events p w #[]))):=by
 have Nc:seen p m.fn #[]=#[]:=Conc.seen_none p _;obtain⟨fn,tmps,todo,ret⟩:=m;simp only at hr Nc aT⊢;subst hr;unfold sC at h⊢;simp only at h⊢;split at h
 all_goals first
  |(simp[stuck,bD] at h;done)
  |(
   obtain rfl:=aT rfl;simp only[kW,bD,rE,pP] at h;obtain⟨⟨rfl,rfl⟩,rfl⟩:=h;refine .inl ⟨rfl,?_⟩;simp[G,stepG,N2,Fm.fr,fx,Nc,Bf]
   done)
  |(
   simp only[kW,bD,rE,pP] at h;obtain⟨⟨rfl,rfl⟩,rfl⟩:=h;refine .inl ⟨rfl,?_⟩;simp[G,stepG,N2,Fm.fr,fx,Nc,Bf]
   done)
  |skip
 case h_8 _ c a b k0=>
  generalize hv:Fm.eval {fn:=fn,tmps:=tmps,todo:=Nu (Code.cond c a b)::k0,ret:=false} c=v at h⊢;have hc:dJ.eval {fn:=fn,tmps:=tmps,todo:=Nu (Code.cond c a b)::(k0++k),defers:=d.ds,mode:=.run,kind:=d.kd} c=v:=by rw[<-hv];cases c<;>rfl
  cases v with
  |bool t=>
   simp only[kW,bD,rE,pP] at h;obtain⟨⟨rfl,rfl⟩,rfl⟩:=h;refine .inl ⟨rfl,?_⟩;simp[G,stepG,N2,Fm.fr,fx,Nc,hc]
  |_=>simp[stuck,bD] at h
 case h_13 _ id k0=>
  cases he:exitTo id k0 with
  |some k'=>
   rw[he] at h;simp only[kW,bD,rE,pP] at h;obtain⟨⟨rfl,rfl⟩,rfl⟩:=h;refine .inl ⟨rfl,?_⟩;simp[G,stepG,N2,Fm.fr,fx,Nc,zjO k he]
  |none=>rw[he] at h;simp[stuck,bD] at h
 case h_14 _ id ops draw k0=>
  cases draw with
  |true=>
   simp[choose,bD,znO,zmX,bind,xR,pure] at h;obtain⟨⟨rfl,rfl⟩,rfl⟩:=h;refine .inl ⟨rfl,?_⟩;simp[G,stepG,N2,Fm.fr,fx,Nc,choose,bD,znO,zmX,vV,cU.runT,bind,xR,pure]
  |false=>
   simp only[jE,if_false,kW,bD,rE,pP] at h;obtain⟨⟨rfl,rfl⟩,rfl⟩:=h;refine .inl ⟨rfl,?_⟩;simp[G,stepG,N2,Fm.fr,fx,Nc]
 case h_16 _ ops i rest k0=>
  have zfT:∀x,Act.eval ⟨tmps,d.ds⟩ x=Fm.eval {fn:=fn,tmps:=tmps,todo:=q9 ops (i::rest)::k0,ret:=false} x:=λx=>by cases x<;>rfl
  have zsT:Act.eval ⟨tmps,d.ds⟩=Fm.eval {fn:=fn,tmps:=tmps,todo:=q9 ops (i::rest)::k0,ret:=false}:=funext zfT;have zR:∀v,(d.base fn).at (Act.put ⟨tmps,d.ds⟩ ((ops[i]?).bind (·.dst)) v) (.inRegion ops rest::(k0++k))=fx k d (Fm.fin {fn:=fn,tmps:=tmps,todo:=q9 ops (i::rest)::k0,ret:=false} ops i rest k0 v):=λv=>by
   unfold Fm.fin Act.put fx;cases(ops[i]?).bind (·.dst)<;>rfl
  have hb:(d.base fn).kind≠ .early:=d.ok;have Qt:fx k d {fn:=fn,tmps:=tmps,todo:=q9 ops (i::rest)::k0,ret:=false}=(d.base fn).at ⟨tmps,d.ds⟩ (.inRegion ops (i::rest)::(k0++k)):=rfl;rw[Qt]
  cases ho:ops[i]? with
  |none=>
   rw[ho] at h;simp only[Option.map_none,Option.getD_none,jE,if_false,kW,bD,rE,pP] at h;obtain⟨⟨rfl,rfl⟩,rfl⟩:=h;refine .inl ⟨rfl,?_⟩;rw[<-zR aA];have De:((d.base fn).at ⟨tmps,d.ds⟩ (.inRegion ops (i::rest)::(k0++k))).finish aA=(d.base fn).at (Act.put ⟨tmps,d.ds⟩ ((ops[i]?).bind (·.dst)) aA) (.inRegion ops rest::(k0++k)):=dJ.finish_at _ _ _ _ _ _ _;rw[<-De];simp[G,stepG,N2,Nc,ho,dJ.at]
  |some o=>
   rw[ho] at h;simp only[ho,vN] at zR;simp only[Ak,y6] at h⊢;by_cases hw:dD o (dR ops tmps)=true
   .rw[if_pos hw] at h
    rw[if_pos hw];have zjU:=r9 p (aS (Fm.eval {fn:=fn,tmps:=tmps,todo:=q9 ops (i::rest)::k0,ret:=false}) o) (qQ p {fn:=fn,tmps:=tmps,todo:=q9 ops (i::rest)::k0,ret:=false} ms ops i rest k0) w;have h':=zjU.symm.trans h;have zp9:=U1 p (aS (Fm.eval {fn:=fn,tmps:=tmps,todo:=q9 ops (i::rest)::k0,ret:=false}) o) (qQ p {fn:=fn,tmps:=tmps,todo:=q9 ops (i::rest)::k0,ret:=false} ms ops i rest k0) w #[]
    cases hx:(aS (Fm.eval {fn:=fn,tmps:=tmps,todo:=q9 ops (i::rest)::k0,ret:=false}) o).run p w with
    |halt y w1=>rw[hx] at h';cases h'
    |ok n w1=>
     rw[hx] at h' zp9;have lK:(aS (Act.eval ⟨tmps,d.ds⟩) o).run p w=.ok n w1:=by rw[zsT];exact hx
     have hl:xA p fn ⟨tmps,d.ds⟩ o w=seen p fn ((aS (Fm.eval {fn:=fn,tmps:=tmps,todo:=q9 ops (i::rest)::k0,ret:=false}) o).events p w #[]):=by unfold xA;rw[zsT]
     have h2:(qQ p {fn:=fn,tmps:=tmps,todo:=q9 ops (i::rest)::k0,ret:=false} ms ops i rest k0 n).run p w1=.ok (m',ms') w':=h'
     have zhw:∀(r:Fm×List Fm),qQ p {fn:=fn,tmps:=tmps,todo:=q9 ops (i::rest)::k0,ret:=false} ms ops i rest k0 n=kW r->
      (m',ms')=r/\w'=w1/\seen p fn ((do let n<-aS (Fm.eval {fn:=fn,tmps:=tmps,todo:=q9 ops (i::rest)::k0,ret:=false}) o;qQ p {fn:=fn,tmps:=tmps,todo:=q9 ops (i::rest)::k0,ret:=false} ms ops i rest k0 n:cU (Fm×List Fm)).events p w #[])=xA p fn ⟨tmps,d.ds⟩ o w:=λr e=>by
      rw[e] at h2;simp only[kW,bD,rE] at h2;refine⟨h2.1.symm,h2.2.symm,?_⟩;rw[hl];congr 1;refine zp9.trans ?_;rw[Uk,e];rfl
     cases n with
     |value v=>
      obtain⟨e1,rfl,e3⟩:=zhw _ rfl;injection e1 with e1 e2;subst e1 e2;refine .inl ⟨rfl,?_⟩;rw[e3];have:=Conc.stepG_value (main:=main) (b:=d.base fn) (a:=⟨tmps,d.ds⟩) (rest:=rest) (k:=k0++k) (cs:=CS) ho hw hb lK;rw[zR] at this;exact this
     |skip=>
      obtain⟨e1,rfl,e3⟩:=zhw _ rfl;injection e1 with e1 e2;subst e1 e2;refine .inl ⟨rfl,?_⟩;rw[e3];have:=Conc.stepG_none (main:=main) (b:=d.base fn) (a:=⟨tmps,d.ds⟩) (rest:=rest) (k:=k0++k) (cs:=CS) ho hw hb lK;rw[zR] at this;exact this
     |enter f args=>
      have h3:=h2;simp only[qQ] at h3
      cases hf:p.funcs[f]? with
      |none=>rw[hf] at h3;simp[stuck,bD] at h3
      |some fn2=>
       cases zaG:fn2.body with
       |none=>rw[hf] at h3;simp only[zaG] at h3;simp[stuck,bD] at h3
       |some c=>
        obtain⟨e1,rfl,e3⟩:=zhw _ (by simp only[qQ,hf,zaG];rfl);injection e1 with e1 e2;subst e1 e2;refine .inr ⟨rfl,?_⟩;rw[e3];have:=Conc.stepG_enter (main:=main) (b:=d.base fn) (a:=⟨tmps,d.ds⟩) (rest:=rest) (k:=k0++k) (cs:=CS) ho hw hb lK;rw[Yb hf zaG] at this;exact this
     |_=>simp[qQ,stuck,bD] at h2
   .rw[if_neg hw] at h
    rw[if_neg hw];simp only[kW,bD,rE,pP] at h;obtain⟨⟨rfl,rfl⟩,rfl⟩:=h;refine .inl ⟨rfl,?_⟩;have:=Conc.stepG_unwanted (P:=p) (main:=main) (b:=d.base fn) (a:=⟨tmps,d.ds⟩) (rest:=rest) (k:=k0++k) (cs:=CS) (w:=w) ho (by simpa using hw);rw[zR] at this;rw[show seen p fn (vV p (kW (Fm.fin {fn:=fn,tmps:=tmps,todo:=q9 ops (i::rest)::k0,ret:=false} ops i rest k0 aA,ms):cU (Fm×List Fm)) w #[])=#[] from Nc];exact this
def zjL (h:(fD p m ms).run p w=.ok (m',ms') w')(base:List dJ):
 stepG p main (G m.fr (ms.map Fm.fr++base)) w=.go (G m'.fr (ms'.map Fm.fr++base)) w' (seen p m.fn ((fD p m ms).events p w #[])):=by
 unfold fD at h⊢;by_cases hr:m.ret=true
 .simp only[hr,if_true] at h⊢
  cases ms with
  |nil=>simp[zJ,stuck,bD] at h
  |cons c rest=>
   obtain⟨ops,i,r,k,v,fn,hc,hf,hv,rfl,rfl⟩:=Us h;rw[(Md hc hf hv).2];have he:results fn m.tmps=oN fn.results.toList m.tmps:=zhc (zsL hv);rw[Fm.fr_ret hr,List.map_cons,Sw];have zR:c.fr.finish v=(c.fin ops i r k v).fr:=zAr hc v;rw[<-zR];simp[G,stepG,unwind,doReturn,hf,he,hv,Bf]
 .have vX:m.ret=false:=by simpa using hr
  simp only[vX,jE,if_false] at h⊢;rcases zjE (main:=main) vX (k:=[]) (λ_=>rfl) h .nil (ms.map Fm.fr++base) with⟨rfl,e⟩|⟨rfl,e⟩
  .simp only[Hk] at e;exact e
  .simp only[Hk] at e;exact e
end Go.Tt
namespace Go.Tt
def Eg (p:bR)(q:Cl):eF->Bool
 | .code c| .inLoop c| .inScope c=>oC p q c
 | .inBlock _=>true
 | .inRegion ops _=>ops.all λo=>rL p q o.op
 |_=>false
def Wait (m:Fm):Prop:=m.ret=false/\∃ops i r k,m.todo=.inRegion ops (i::r)::k
section
variable (P:dL)(fs:aO->Bool)(K R:Pr)
structure pA (m m':Fm):Prop where
 fn:m.fn=m'.fn
 todo:m.todo=m'.todo
 ret:m.ret=m'.ret
 tmps:bK (SF fs) K R m.tmps m'.tmps
 fit:∀i∈m.todo,Eg P.c (uA P fs m.fn) i=true
 infs:∃fn fn',P.g.funcs[m.fn]? =some fn/\P.c.funcs[m.fn]? =some fn'/\fn.results=fn'.results/\Du fn.results.toList
inductive uL:List Fm->List Fm->Prop
 |nil:uL [] []
 |cons {m m':Fm} {ms ms':List Fm}:pA P fs K R m m'->Wait m->uL ms ms'->uL (m::ms) (m'::ms')
end
structure Fit2 (P:dL)(fs:aO->Bool):Prop extends Fit P fs where
 res:∀f,P.gs f=true->P.op f=false->∀fn,P.c.funcs[f]? =some fn->Du fn.results.toList
 follows:P.g.follows .mixedOrders=P.c.follows .mixedOrders
section
variable {P:dL}{fs:aO->Bool}{K R R':Pr}
variable {m m':Fm}
def pA.mono (h:R.le R')(x:pA P fs K R m m'):pA P fs K R' m m':=⟨x.fn,x.todo,x.ret,x.tmps.mono h,x.fit,x.infs⟩
variable {ms ms':List Fm}
def uL.mono (h:R.le R')(x:uL P fs K R ms ms'):uL P fs K R' ms ms':=by
 induction x with
 |nil=>exact .nil
 |cons a b _ ih=>exact .cons (a.mono h) b ih
def xO {S:aO->Prop}:VR S K R aA undef:=.tuple rfl (λi v v' h=>by simp at h)
def pA.eval (x:pA P fs K R m m'):∀o,dP fs o=true->VR (SF fs) K R (m.eval o) (m'.eval o):=by
 intro o ho
 cases o with
 |tmp t=>exact x.tmps.getD t xO
 |const v=>exact zph ho
 |global g=>cases ho
 |func f=>exact .func ho rfl (λi v v' h=>by simp at h) rfl (λi v v' h=>by simp at h)
def rB (p:bR)(f:aO)(xs:Array aF):Fm:=
 match p.funcs[f]? with
 |some fn=>(match fn.body with
  |some c=>⟨f,xs++nL (fn.ntmps-xs.size) aA,[.code c],false⟩
  |none=>⟨f,xs,[],false⟩)
 |none=>⟨f,xs,[],false⟩
structure OpR (P:dL)(fs:aO->Bool)(K R:Pr)(x y:Fm×List Fm):Prop where
 ex:∃f xs bX c c' rest Lj,P.op f=true/\P.gs f=true/\bK (SF fs) K R xs bX/\x=(rB P.g f xs,c::rest)/\y=(rB P.c f bX,c'::Lj)/\pA P fs K R c c'/\Wait c/\uL P fs K R rest Lj/\P.lw c.fn=false
abbrev StA (P:dL)(fs:aO->Bool)(K:Pr)(l:Bool):Pr->(Fm×List Fm)->(Fm×List Fm)->Prop:=λR x y=>
 (pA P fs K R x.1 y.1/\uL P fs K R x.2 y.2/\(l=true->P.lw x.1.fn=true/\∀c∈x.2,P.lw c.fn=true))\/(l=false/\OpR P fs K R x y)
variable {ops:Array aZ}{i:Nat}{rest:List Nat}{k:List eF}
def pA.fin (x:pA P fs K R m m')(h:m.todo=.inRegion ops (i::rest)::k){v v':aF}(hv:VR (SF fs) K R v v'):
 pA P fs K R (m.fin ops i rest k v) (m'.fin ops i rest k v'):=by
 refine⟨x.fn,rfl,x.ret,?_,λj hj=>?_,x.infs⟩
 .unfold Fm.fin
  cases(ops[i]?).bind (·.dst) with
  |none=>exact x.tmps
  |some d=>exact x.tmps.set d hv
 .simp only[Fm.fin,jH] at hj
  rcases hj with rfl|hj
  .have:=x.fit (.inRegion ops (i::rest)) (by rw[h];simp)
   exact this
  .exact x.fit j (by rw[h];simp[hj])
abbrev LowS (P:dL)(l:Bool)(m:Fm)(ms:List Fm):Prop:=l=true->P.lw m.fn=true/\∀c∈ms,P.lw c.fn=true
variable {xs bX:Array aF}
def bK.pad (ha:bK (SF fs) K R xs bX)(n:Nat):bK (SF fs) K R (xs++nL (n-xs.size) aA) (bX++nL (n-bX.size) aA):=by
 rw[ha.1];refine ha.append ⟨aP,λj v v' h1 h2=>?_⟩;rw[Array.getElem?_replicate] at h1 h2;split at h1
 .rename_i hj
  rw[if_pos hj] at h2;cases h1;cases h2;exact xO
 .cases h1
def zev (F:Fit P fs)(g:aO):∀f,(uA P fs g).gs f=true->P.gs f=true:=λf h=>by
 unfold uA at h;split at h
 .exact(F.low f h).2
 .exact h
def zxr (F:Fit P fs)(g:aO):(uA P fs g).dy=true->∀f,fs f=true->(uA P fs g).gs f=true:=λh f hf=>by
 unfold uA at h⊢;split at h
 .cases h
 .next e=>rw[if_neg e];exact F.dyn h f hf
def zyv (F:Fit2 P fs){l:Bool}(hm:pA P fs K R m m')(iZ:uL P fs K R ms ms')(nX:LowS P l m ms)(hr:m.ret=false)(h:m.todo=.inRegion ops (i::rest)::k){n n':Next}(hn:NxR (SF fs) (uA P fs m.fn).T K R n n'):
 aG P (SF fs) K (StA P fs K l) (qQ P.g m ms ops i rest k n) R (qQ P.c m' ms' ops i rest k n'):=by
 cases hn with
 |value hv=>exact aG.ret (.inl ⟨hm.fin h hv,iZ,nX⟩)
 |skip=>exact aG.ret (.inl ⟨hm.fin h xO,iZ,nX⟩)
 |enter hT ha=>
  rename_i f xs bX;have Sv:P.lw m.fn=true->P.lw f=true:=λe=>by
   unfold uA at hT;rw[if_pos e] at hT;exact hT
  have hf:P.gs f=true:=zev F.toFit m.fn f hT
  cases ho:P.op f with
  |false=>
   obtain⟨fn,c,e1,e2,e3,e4,e5⟩:=F.fn f hf ho;simp only[qQ,e1,e2,e4];refine aG.ret (.inl ⟨⟨rfl,rfl,rfl,ha.pad _,λj hj=>?_,⟨fn,fn,e1,e2,rfl,F.res f hf ho fn e2⟩⟩,.cons hm ⟨hr,ops,i,rest,k,h⟩ iZ,λe=>⟨Sv (nX e).1,λc hc=>?_⟩⟩)
   .simp only[jH,l8,or_false] at hj
    subst hj;exact e5
   .simp only[jH] at hc
    rcases hc with rfl|hc
    .exact(nX e).1
    .exact(nX e).2 c hc
  |true=>
   obtain⟨fn,fn',c,c',e1,e2,e3,e4,e5,e6⟩:=F.opq f hf ho;have zfo:P.lw m.fn=false:=by
    cases hq:P.lw m.fn with
    |false=>rfl
    |true=>have:=(F.low f (Sv hq)).1;rw[ho] at this;cases this
   have hl:l=false:=by
    cases l with
    |false=>rfl
    |true=>have:=(nX rfl).1;rw[zfo] at this;cases this
   simp only[qQ,e1,e2,e5,e6];refine aG.ret (.inr ⟨hl,⟨f,xs,bX,m,m',ms,ms',ho,hf,ha,?_,?_,hm,⟨hr,ops,i,rest,k,h⟩,iZ,zfo⟩⟩)
   .have:P.g.funcs[f]? =some fn:=e1
    simp only[rB,this,e5]
   .simp only[rB,e2,e6]
def Lp {S:aO->Prop}(h:bK S K R xs bX)(a:On):aG P S K (VA S K) (yK xs a) R (yK bX a):=by
 cases a with
 |tmp t=>exact aG.ret (h.getD t xO)
 |cell s ty=>
  refine aG.bnd (zxT (h.getD s xO)) ?_;intro R1 e1 a a' ha;exact zvM ty ha
def zis {S:aO->Prop}(h:bK S K R xs bX):∀l:List On,aG P S K (VA S K) (oN l xs) R (oN l bX)
 |[]=>aG.ret (.tuple' bK.empty)
 |[a]=>Lp h a
 |[a,b]=>by
  refine aG.bnd (Lp h a) ?_;intro R1 e1 x x' hx;refine aG.bnd (Lp (h.mono e1.le) b) ?_;intro R2 e2 y y' hy;exact aG.ret (.tuple' ((bK.one (hx.mono e2.le)).push hy))
 |[a,b,c]=>by
  refine aG.bnd (Lp h a) ?_;intro R1 e1 x x' hx;refine aG.bnd (Lp (h.mono e1.le) b) ?_;intro R2 e2 y y' hy;refine aG.bnd (Lp ((h.mono e1.le).mono e2.le) c) ?_;intro R3 e3 z z' hz;exact aG.ret (.tuple' (((bK.one ((hx.mono e2.le).mono e3.le)).push (hy.mono e3.le)).push hz))
 |[a,b,c,d]=>by
  refine aG.bnd (Lp h a) ?_;intro R1 e1 x x' hx;refine aG.bnd (Lp (h.mono e1.le) b) ?_;intro R2 e2 y y' hy;refine aG.bnd (Lp ((h.mono e1.le).mono e2.le) c) ?_;intro R3 e3 z z' hz;refine aG.bnd (Lp (((h.mono e1.le).mono e2.le).mono e3.le) d) ?_;intro R4 e4 u u' hu;exact aG.ret (.tuple' ((((bK.one (((hx.mono e2.le).mono e3.le).mono e4.le)).push ((hy.mono e3.le).mono e4.le)).push (hz.mono e4.le)).push hu))
 |_::_::_::_::_::_=>.inl bN
def zlW {S:aO->Prop}(ops:Array aZ)(h:bK S K R xs bX):dR ops xs=dR ops bX:=by
 funext j;unfold dR
 cases hd:(ops[j]?).bind (·.dst) with
 |none=>rfl
 |some d=>
  simp only[vN]
  cases hx:xs[d]? with
  |none=>rw[h.none hx]
  |some v=>
   obtain⟨v',e,hv⟩:=h.get hx;rw[e]
   cases hv with
   |junk hh=>cases v'<;>first|exact hh.elim|rfl
   |_=>rfl
def zjS {id:Nat}:∀{k k':List eF},exitTo id k=some k'->∀i∈k',i∈k
 |[],_,h,_,_=>by simp[exitTo] at h
 |x::k,k',h,i,hi=>by
  have tail:exitTo id k=some k'->i∈x::k:=λe=>by simp[zjS e i hi]
  cases x<;>simp only[exitTo] at h<;>first|exact tail h|skip
  split at h
  .cases h;simp[hi]
  .exact tail h
def zdQ (F:Fit2 P fs)(hR:tW P K R){l:Bool}(hm:pA P fs K R m m')(iZ:uL P fs K R ms ms')(nX:LowS P l m ms)(Vi:m.ret=true->ms≠[]):
 aG P (SF fs) K (StA P fs K l) (fD P.g m ms) R (fD P.c m' ms'):=by
 unfold fD;rw[<-hm.ret];by_cases hr:m.ret=true
 .simp only[hr,if_true]
  cases iZ with
  |nil=>exact absurd rfl (Vi hr)
  |cons hc hw Q6=>
   rename_i c c' rest Lj;obtain⟨_,ops,i,r,k,hk⟩:=hw;obtain⟨fn,fn',e1,e2,e3,e4⟩:=hm.infs;unfold zJ;have cO:c'.todo=.inRegion ops (i::r)::k:=hc.todo.symm.trans hk;rw[<-hm.fn];simp only[hk,cO,e1,e2];rw[<-e3];refine aG.bnd (zis hm.tmps fn.results.toList) ?_;intro R1 x1 v v' hv;exact aG.ret (.inl ⟨(hc.mono x1.le).fin hk hv,Q6.mono x1.le,λe=>⟨(nX e).2 c aP,λx hx=>(nX e).2 x (by simp[hx])⟩⟩)
 .have Rz:m.ret=false:=by simpa using hr
  simp only[Rz,jE,if_false];have vX:m'.ret=false:=hm.ret.symm.trans Rz;unfold sC;rw[<-hm.todo];have yP:∀{x y:Fm},pA P fs K R x y->x.fn=m.fn->aG P (SF fs) K (StA P fs K l) (kW (x,ms)) R (kW (y,ms')):=λh e=>aG.ret (.inl ⟨h,iZ,λz=>by rw[e];exact nX z⟩);have keep:∀(l:List eF),(∀i∈l,Eg P.c (uA P fs m.fn) i=true)->pA P fs K R {m with todo:=l} {m' with todo:=l}:=λl hl=>⟨hm.fn,rfl,hm.ret,hm.tmps,hl,hm.infs⟩;have Jo:=hm.fit;have zex:=hm.fn
  cases pT:m.todo with
  |nil=>exact yP ⟨hm.fn,rfl,rfl,hm.tmps,λi hi=>(by simp at hi),hm.infs⟩ rfl
  |cons x k=>
   rw[pT] at Jo;have hk:∀i∈k,Eg P.c (uA P fs m.fn) i=true:=λi hi=>Jo i (by simp[hi]);have hx:Eg P.c (uA P fs m.fn) x=true:=Jo x aP;have two:∀(y z:eF),Eg P.c (uA P fs m.fn) y=true->Eg P.c (uA P fs m.fn) z=true->∀i∈y::z::k,Eg P.c (uA P fs m.fn) i=true:=λy z hy hz i hi=>by
    simp only[jH] at hi;rcases hi with rfl|rfl|hi
    .exact hy
    .exact hz
    .exact hk i hi
   have one:∀(y:eF),Eg P.c (uA P fs m.fn) y=true->∀i∈y::k,Eg P.c (uA P fs m.fn) i=true:=λy hy i hi=>by
    simp only[jH] at hi;rcases hi with rfl|hi
    .exact hy
    .exact hk i hi
   cases x with
   |code c=>
    cases c with
    |skip=>exact yP (keep k hk) rfl
    |label l=>exact yP (keep k hk) rfl
    |ret=>exact yP ⟨hm.fn,rfl,rfl,hm.tmps,Jo,hm.infs⟩ rfl
    |seq a b=>
     simp only[Eg,oC,fT] at hx;exact yP (keep _ (two _ _ hx.1 hx.2)) rfl
    |cond c a b=>
     simp only[Eg,oC,fT] at hx;have hv:=hm.eval c (zm7 P fs m.fn▸hx.1.1);simp only;generalize m.eval c=v at hv⊢;generalize m'.eval c=v' at hv⊢
     cases hv with
     |bool t=>
      refine yP (keep _ (one _ ?_)) rfl;cases t
      .exact hx.2
      .exact hx.1.2
     |_=>exact .inl bN
    |block id body=>exact yP (keep _ (two _ _ hx rfl)) rfl
    |loop body=>exact yP (keep _ (two _ _ hx hx)) rfl
    |scope body=>exact yP (keep _ (two _ _ hx hx)) rfl
    |exit id=>
     simp only
     cases he:exitTo id k with
     |none=>exact .inl bN
     |some k'=>exact yP (keep _ λi hi=>hk i (zjS he i hi)) rfl
    |region id ops draw=>
     simp only
     cases draw with
     |true=>
      simp only[if_true];rw[<-zex];refine aG.bnd (zgs _) ?_;rintro R1 h1 t _ rfl;rw[F.follows];exact aG.ret (.inl ⟨(by have y:=(keep (.inRegion ops (Tr (P.c.follows .mixedOrders) ops t)::k) (one (.inRegion ops (Tr (P.c.follows .mixedOrders) ops t)) hx)).mono h1.le;rw[<-zex] at y;exact y),iZ.mono h1.le,nX⟩)
     |false=>
      simp only[jE,if_false];exact yP (keep _ (one (.inRegion ops (gN ops.size)) hx)) rfl
    |_=>cases hx
   |inBlock id=>exact yP (keep k hk) rfl
   |inScope c=>exact yP (keep k hk) rfl
   |inLoop c=>exact yP (keep _ (two _ _ hx hx)) rfl
   |inRegion ops l=>
    cases l with
    |nil=>exact yP (keep k hk) rfl
    |cons i rest=>
     simp only;rw[<-zlW ops hm.tmps];by_cases hw:((ops[i]?).map (dD · (dR ops m.tmps))).getD false=true
     .rw[if_pos hw,if_pos hw]
      cases ho:ops[i]? with
      |none=>exact .inl bN
      |some o=>
       simp only;have bV:rL P.c (uA P fs m.fn) o.op=true:=by
        have lK:=zlt.1 hx i (dQ.1 ho).1
        rwa [(dQ.1 ho).2] at lK
       refine aG.bnd (zjF F.toFit hR hm.eval (λg=>rfl) (λg=>rfl) (λg=>rfl) (λg=>rfl) (λv=>rfl) (λv=>rfl) (zm7 P fs m.fn) (zev F.toFit m.fn) (zxr F.toFit m.fn) bV) ?_;intro R1 h1 n n' hn;exact zyv F (hm.mono h1.le) (iZ.mono h1.le) nX Rz pT hn
     .rw[if_neg hw,if_neg hw]
      exact yP (hm.fin pT xO) rfl
   |_=>cases hx
end
end Go.Tt
namespace Go.Tt
open Go.Conc (G solo)
def nilD:Deferred:={target:=.nil,args:=#[]}
def pz:Frame:={(default:dJ) with mode:=.panicking [],defers:=[nilD],kind:=.normal}
section
variable {P:dL}{fs:aO->Bool}{K R:Pr}{G':Gp}{St:Nat->Prop}
variable {w:aE}
def zFM (F:Fit2 P fs)(hG:G'=P.gp){W:aE}(hw:cV (SF fs) K R G' St w W)(ht:Tp w W){m m':Fm}{ms ms':List Fm}(hm:pA P fs K R m m')(iZ:uL P fs K R ms ms')(Vi:m.ret=true->ms≠[])
 (dB:∀x w',(fD P.g m ms).run P.g w≠ .ok x w') (base:List dJ):
 (∃o w1 es,stepG P.g true (G m.fr (ms.map Fm.fr++base)) w=.ended o w1 es)\/
 ∃x w1 es,stepG P.g true (G m.fr (ms.map Fm.fr++base)) w=.go (G x (ms.map Fm.fr++base)) w1 es/\(∃c,x.mode=.panicking c)/\x.defers=[]:=by
 have hR:tW P K R:=by subst hG;exact⟨hw.inj,hw.inj',λa b h=>(hw.low a b h).1,hw.tb⟩
 unfold fD at dB;by_cases hr:m.ret=true
 .simp only[hr,if_true] at dB
  cases iZ with
  |nil=>exact absurd rfl (Vi hr)
  |cons hc cD Q6=>
   rename_i c c' rest Lj;obtain⟨_,ops,i,r,k,hk⟩:=cD;obtain⟨fn,fn',e1,e2,e3,e4⟩:=hm.infs;have he:results fn m.tmps=oN fn.results.toList m.tmps:=zhc e4
   cases hx:(oN fn.results.toList m.tmps).run P.g w with
   |ok v w1=>exact absurd (Md (rest:=rest) hk e1 hx).1 (dB _ _)
   |halt y w1=>
    refine .inl ?_;rw[Fm.fr_ret hr];cases y<;>exact⟨_,_,_,by simp only[G,stepG,unwind,e1,he,cU.runT_eq,hx,Bf];rfl⟩
 .have Rz:m.ret=false:=by simpa using hr
  simp only[Rz,jE,if_false] at dB;have mP:m.fr.eval=m.eval:=m.eval_fr;have Jo:=hm.fit;have zEt:=hm.tmps;have zgb:=hm.eval;obtain⟨fn,tmps,todo,ret⟩:=m;simp only at Rz Jo zEt;subst Rz;unfold sC at dB;simp only at dB
  cases todo with
  |nil=>exact absurd rfl (dB _ _)
  |cons x k=>
   have hx:Eg P.c (uA P fs fn) x=true:=Jo x aP
   cases x with
   |code c=>
    cases c with
    |skip=>exact absurd rfl (dB _ _)
    |label l=>exact absurd rfl (dB _ _)
    |ret=>exact absurd rfl (dB _ _)
    |seq a b=>exact absurd rfl (dB _ _)
    |block id body=>exact absurd rfl (dB _ _)
    |loop body=>exact absurd rfl (dB _ _)
    |scope body=>exact absurd rfl (dB _ _)
    |cond c a b=>
     have hc:=congrFun mP c;simp only at dB
     cases hv:Fm.eval {fn:=fn,tmps:=tmps,todo:=Nu (Code.cond c a b)::k,ret:=false} c with
     |bool t=>rw[hv] at dB;exact absurd rfl (dB _ _)
     |_=>
      left;rw[hv] at hc;simp only[Fm.fr,jE,if_false] at hc⊢;simp only[G,stepG,N2,hc];exact⟨_,_,_,rfl⟩
    |exit id=>
     simp only at dB
     cases he:exitTo id k with
     |some k'=>rw[he] at dB;exact absurd rfl (dB _ _)
     |none=>
      left;simp only[Fm.fr,jE,if_false];simp[G,stepG,N2,he]
    |region id ops draw=>
     simp only at dB
     cases draw with
     |true=>exact absurd (by simp[choose,bD,znO,zmX,bind,xR,pure];exact⟨rfl,rfl⟩) (dB _ _)
     |false=>exact absurd rfl (dB _ _)
    |_=>cases hx
   |inBlock id=>exact absurd rfl (dB _ _)
   |inScope c=>exact absurd rfl (dB _ _)
   |inLoop c=>exact absurd rfl (dB _ _)
   |inRegion ops l=>
    cases l with
    |nil=>exact absurd rfl (dB _ _)
    |cons i rest=>
     simp only at dB
     cases ho:ops[i]? with
     |none=>rw[ho] at dB;exact absurd rfl (dB _ _)
     |some o=>
      rw[ho] at dB;simp only[Ak,y6] at dB;by_cases qO:dD o (dR ops tmps)=true
      .rw[if_pos qO] at dB
       have bV:rL P.c (uA P fs fn) o.op=true:=by
        have lK:=zlt.1 hx i (dQ.1 ho).1
        rwa [(dQ.1 ho).2] at lK
       have zbG:=zjF F.toFit hR zgb (λg=>rfl) (λg=>rfl) (λg=>rfl) (λg=>rfl) (λv=>rfl) (λv=>rfl) (zm7 P fs fn) (zev F.toFit fn) (zxr F.toFit fn) bV;have zjU:∀x w',((aS (Fm.eval {fn:=fn,tmps:=tmps,todo:=q9 ops (i::rest)::k,ret:=false}) o).bind (qQ P.g {fn:=fn,tmps:=tmps,todo:=q9 ops (i::rest)::k,ret:=false} ms ops i rest k)).run P.g w≠ .ok x w':=dB;rcases aG.tame hG _ zbG hw ht with⟨n,w1,hn⟩|⟨h,w1,hn,hth⟩
       .have zfT:Act.eval ⟨tmps,[]⟩=Fm.eval {fn:=fn,tmps:=tmps,todo:=q9 ops (i::rest)::k,ret:=false}:=funext λx=>by cases x<;>rfl
        obtain⟨R1,n',W1,ev,e1,e2,e3,e4,e5⟩:=aG.run hG _ zbG hw ht hn;have:=λx w'=>zjU x w';simp only[r9,hn,uD] at this
        cases e2 with
        |value hv=>exact absurd rfl (this _ _)
        |skip=>exact absurd rfl (this _ _)
        |enter hT ha=>
         rename_i f xs bX;have hf:P.gs f=true:=zev F.toFit fn f hT
         cases zb9:P.op f with
         |false=>
          obtain⟨fn',c,q1,q2,q3,q4,q5⟩:=F.fn f hf zb9;simp only[qQ,q1,q4] at this;exact absurd rfl (this _ _)
         |true=>
          obtain⟨fn1,fn2,c1,c2,q1,q2,q3,q4,q5,q6⟩:=F.opq f hf zb9;simp only[qQ,q1,q5] at this;exact absurd rfl (this _ _)
       .have zfT:Act.eval ⟨tmps,[]⟩=Fm.eval {fn:=fn,tmps:=tmps,todo:=q9 ops (i::rest)::k,ret:=false}:=funext λx=>by cases x<;>rfl
        have hop:=Conc.stepG_oper (P:=P.g) (main:=true) (b:=Kw fn) (a:=⟨tmps,[]⟩) (k:=k) (cs:=List.map Fm.fr ms++base) (w:=w) (rest:=rest) ho qO;have fQ:(Fm.fr {fn:=fn,tmps:=tmps,todo:=q9 ops (i::rest)::k,ret:=false})=(Kw fn).at ⟨tmps,[]⟩ (.inRegion ops (i::rest)::k):=rfl;rw[fQ,hop,zfT]
        cases h with
        |panic v=>
         right;simp[stepG.apply,hn,Bf,G,zpc,dJ.at]
        |stuck s=>left;simp[stepG.apply,hn,Bf]
        |unsupported u=>
         left;cases u<;>first|exact hth.elim|simp[stepG.apply,hn,Bf]
        |_=>exact hth.elim
      .rw[if_neg qO] at dB
       exact absurd rfl (dB _ _)
   |_=>cases hx
variable {p:bR}{w':aE}{o:Outcome}
def zb5 {a:bC}{es:Array oL}(hs:a.status=.running)(h:stepG p true a w=.ended o w' es):step p (solo a w)=.ended o w':=by
 rw[step,Conc.stepT_solo hs,Conc.solo_eq_crowd,Conc.runT_many_ended (i:=0) rfl h]
variable {m:zbg}
def zbb {m':zbg}(h:step p m=.next m')(n:Nat):runN p (n+1) m=runN p n m':=by simp[runN,h]
def zpf (h:step p m=.ended o w)(n:Nat):runN p (n+1) m=.ended o w:=by simp[runN,h]
def zhr {g g':bC}(h:solo g w=solo g' w'):g=g'/\w=w':=by
 injection h with h1 h2;injection h2 with h2;injection h2 with h2;exact⟨h2,h1⟩
def ze3 {fr zsv:dJ}{cs Xz:List dJ}(h:G fr cs=G zsv Xz):fr=zsv/\cs=Xz:=by
 injection h with h1 h2;exact⟨h1,h2⟩
def zmC (x:dJ):Prop:=∃c,x.mode=.panicking c
def zga (x:dJ)(vs:List PanicEntry):zmC (x.raise vs)/\(x.raise vs).defers=x.defers:=by
 unfold zpc;split
 .exact⟨⟨_,rfl⟩,rfl⟩
 .exact⟨⟨_,rfl⟩,rfl⟩
variable {ds:List Deferred}
def zo7 {x:dJ}(hd:x.defers=nilD::ds)(hm:zmC x)(cs:List dJ)(w:aE):∃o w1 es,stepG p true (G x cs) w=.ended o w1 es:=by
 obtain⟨c,hc⟩:=hm;refine⟨.unsupported (.noEntry "machine/Return: a deferred call of a nil function value, made while the frame is unwinding") ({x with defers:=ds}.pos p),w,#[],?_⟩;simp[G,stepG,hc,unwind,hd,callDeferred,nilD]
def zF6 (frT:dJ)(wT:aE)(hT:frT.mode=.returning):∀(n:Nat) (x:dJ) (ys:List dJ) (w:aE),zmC x->x.defers=[]->(∀y∈ys,y.defers=[])->runN p n (solo (G x (ys++[pz])) w)≠ .next (solo (G frT [pz]) wT):=by
 intro n
 induction n with
 |zero=>
  intro x ys w ⟨c,hc⟩ _ _ e;simp only[runN,Ve] at e;have:=(ze3 (zhr e).1).1;rw[this,hT] at hc;cases hc
 |succ n ih=>
  intro x ys w ⟨c,hc⟩ hd zvK e;have cH:(G x (ys++[pz])).status=.running:=rfl;by_cases zsq:x.catches p=true
  .have aY:∃o w1 es,stepG p true (G x (ys++[pz])) w=.ended o w1 es:=by simp[G,stepG,hc,unwind,hd,zsq]
   obtain⟨o,w1,es,aY⟩:=aY;have hs:=zb5 cH aY;simp[runN,hs] at e
  .have zug:x.catches p=false:=by simpa using zsq
   cases ys with
   |nil=>
    have aY:stepG p true (G x [pz]) w=.go (G (pz.raise c) []) w:=by simp[G,stepG,hc,unwind,hd,zug]
    have hs:=zcc cH aY;replace e:=(zbb hs n).symm.trans e
    cases n with
    |zero=>
     simp only[runN,Ve] at e;have:=(ze3 (zhr e).1).2;cases this
    |succ n=>
     obtain⟨o,w1,es,zjR⟩:=zo7 (p:=p) (x:=pz.raise c) (ds:=[]) ((zga pz c).2) (zga pz c).1 [] w;have Av:=zb5 rfl zjR;have:=(zpf Av n).symm.trans e;cases this
   |cons y ys=>
    have aY:stepG p true (G x (y::(ys++[pz]))) w=.go (G (y.raise c) (ys++[pz])) w:=by simp[G,stepG,hc,unwind,hd,zug]
    have hs:=zcc cH aY;replace e:=(zbb hs n).symm.trans e;exact ih (y.raise c) ys w (zga y c).1 ((zga y c).2.trans (zvK y aP)) (λz hz=>zvK z (by simp[hz])) e
def zI6 (frT:dJ)(wT:aE){m:Fm}(hr:m.ret=true)(n:Nat):runN p (n+1) (solo (G m.fr [pz]) w)≠ .next (solo (G frT [pz]) wT):=by
 intro e;have cH:(G m.fr [pz]).status=.running:=rfl;have key:(∃o w1 es,stepG p true (G m.fr [pz]) w=.ended o w1 es)\/∃v w1 es,stepG p true (G m.fr [pz]) w=.go (G (pz.finish v) []) w1 es:=by
  rw[Fm.fr_ret hr]
  cases hf:p.funcs[m.fn]? with
  |none=>right;simp[G,stepG,unwind,doReturn,hf];exact⟨_,rfl⟩
  |some fn=>
   cases hx:(results fn m.tmps).run p w with
   |ok v w1=>right;simp[G,stepG,unwind,doReturn,hf,hx,Bf];exact⟨_,rfl⟩
   |halt h w1=>left;cases h<;>simp[G,stepG,unwind,hf,hx,Bf]
 rcases key with⟨o,w1,es,aY⟩|⟨v,w1,es,aY⟩
 .have hs:=zb5 cH aY
  simp[runN,hs] at e
 .have hs:=zcc cH aY
  simp only[runN,hs] at e
  cases n with
  |zero=>
   simp only[runN,Ve] at e;have:=(ze3 (zhr e).1).2;cases this
  |succ n=>
   have zEm:pz.finish v=pz:=rfl;rw[zEm] at e;obtain⟨o,w2,es,zjR⟩:=zo7 (p:=p) (x:=pz) (ds:=[]) rfl ⟨_,rfl⟩ [] w1;have Av:=zb5 rfl zjR;simp[runN,Av] at e
end
inductive Ib (p:bR):Nat->Fm->List Fm->aE->Fm->aE->Prop
 |stop {m:Fm} {w:aE}:m.ret=true->Ib p 0 m [] w m w
 |step {n:Nat} {m m1 mT:Fm} {ms ms1:List Fm} {w w1 wT:aE}:(m.ret=true->ms≠[])->(fD p m ms).run p w=.ok (m1,ms1) w1->Ib p n m1 ms1 w1 mT wT->Ib p (n+1) m ms w mT wT
structure vD (P:dL)(fs:aO->Bool):Prop extends Fit2 P fs where
 none:∀f,P.op f=false
section
variable (P:dL)(fs:aO->Bool)(K:Pr)(G':Gp)(St:Nat->Prop)
def vA (m:Fm)(ms:List Fm)(w:aE):Prop:=∃R W m' ms',cV (SF fs) K R G' St w W/\pA P fs K R m m'/\uL P fs K R ms ms'
variable {P fs K G' St}
variable {w W:aE}
def cV.tp {S:aO->Prop}{R:Pr}(h:cV S K R G' St w W)(T:jZ)(e:Nat):cV S K R G' St (tp w T e) (tp W T e):=
 ⟨h.inj,h.inj',h.lt,h.low,h.gle,h.cont,h.rest,h.st,h.np,h.tb⟩
variable {T:jZ}
def cV.untp {S:aO->Prop}{R:Pr}{e:Nat}(h:cV S K R G' St (Tt.tp w T e) W):cV S K R G' St w W:=
 ⟨h.inj,h.inj',h.lt,h.low,h.gle,h.cont,h.rest,h.st,h.np,h.tb⟩
def Tp.tp (w W:aE)(T:jZ)(e:Nat):Tp (tp w T e) (tp W T e):=λ_ _=>rfl
def cV.relOk {S:aO->Prop}{R:Pr}(hG:G'=P.gp)(h:cV S K R G' St w W):tW P K R:=by subst hG;exact⟨h.inj,h.inj',λa b x=>(h.low a b x).1,h.tb⟩
variable {m:Fm}{ms:List Fm}
def vA.next (F:vD P fs)(hG:G'=P.gp){m1:Fm}{ms1:List Fm}{w1:aE}{e:Nat}(h:vA P fs K G' St m ms w)(hs:m.ret=true->ms≠[])
 (hr:(fD P.g m ms).run P.g (tp w T e)=.ok (m1,ms1) w1):vA P fs K G' St m1 ms1 w1:=by
 obtain⟨R,W,m',ms',hw,hm,iZ⟩:=h;obtain⟨R1,x',W1,ev,e1,e2,e3,e4,e5⟩:=aG.run hG _ (zdQ (l:=false) F.toFit2 (hw.relOk hG) hm iZ (λe=>by cases e) hs) (hw.tp T e) (Tp.tp w W T e) hr;rcases e2 with e2|⟨_,⟨f,_,_,_,_,_,_,ho,_⟩⟩
 .exact⟨R1,W1,x'.1,x'.2,e3.rel,e2.1,e2.2.1⟩
 .rw[F.none] at ho;cases ho
def vA.locl (F:vD P fs)(hG:G'=P.gp)(h:vA P fs K G' St m ms w)(hs:m.ret=true->ms≠[])(T:jZ)(e:Nat):Nj P.g (fD P.g m ms) (tp w T e):=by
 obtain⟨R,W,m',ms',hw,hm,iZ⟩:=h;exact aG.locl hG _ (zdQ (l:=false) F.toFit2 (hw.relOk hG) hm iZ (λe=>by cases e) hs) (hw.tp T e) (Tp.tp w W T e)
def zEl (h:w.tape=T):tp w T w.drawn=w:=by subst h;rfl
def Ib.alike (F:vD P fs)(hG:G'=P.gp):∀{n:Nat} {m mT:Fm} {ms:List Fm} {w wT:aE} {T1 T2:jZ} {e1 e2:Nat},vA P fs K G' St m ms w->Ib P.g n m ms (tp w T1 e1) mT wT->(∀n q,T2 (e2+n) q=T1 (e1+n) q)->∃e3,Ib P.g n m ms (tp w T2 e2) mT (tp wT T2 e3):=by
 intro n
 induction n with
 |zero=>
  intro m mT ms w wT T1 T2 e1 e2 hR h ht
  cases h with
  |stop hr=>exact⟨e2,.stop hr⟩
 |succ n ih=>
  intro m mT ms w wT T1 T2 e1 e2 hR h ht
  cases h with
  |step hs hr hn=>
   rename_i m1 ms1 w1;obtain⟨h1,h2,h3⟩:=hR.locl F hG hs T1 e1 _ _ hr;have h4:=h3 T2 e2 (λk _ q=>ht k q);have zeQ:w1=tp w1 T1 w1.drawn:=(zEl h1).symm;rw[zeQ] at hn
   obtain⟨e3,h5⟩:=ih (T2:=T2) (e2:=e2+(w1.drawn-e1)) (hR.next F hG hs hr) hn (λk q=>by
    have Px:e1<=w1.drawn:=h2;rw[show e2+(w1.drawn-e1)+k=e2+((w1.drawn-e1)+k) by omega,ht,show e1+((w1.drawn-e1)+k)=w1.drawn+k by omega])
   exact⟨e3,.step hs h4 h5⟩
def Tq (F:vD P fs)(hG:G'=P.gp){frT:dJ}{wT:aE}(hT:frT.mode=.returning):∀(n:Nat) {m:Fm} {ms:List Fm} {w:aE},vA P fs K G' St m ms w->
 runN P.g n (solo (G m.fr (ms.map Fm.fr++[pz])) w)=.next (solo (G frT [pz]) wT)->∃k mT,Ib P.g k m ms w mT wT/\mT.fr=frT:=by
 intro n
 induction n with
 |zero=>
  intro m ms w hR h;simp only[runN,Ve] at h;obtain⟨h1,rfl⟩:=zhr h;obtain⟨h2,h3⟩:=ze3 h1;have iZ:ms=[]:=by
   cases ms with
   |nil=>rfl
   |cons a b=>have:=congrArg Yn h3;simp at this
  subst iZ;have hr:m.ret=true:=by
   rw[<-h2] at hT
   cases hm:m.ret with
   |true=>rfl
   |false=>rw[Fm.fr_run hm] at hT;cases hT
  exact⟨0,m,.stop hr,h2⟩
 |succ n ih=>
  intro m ms w hR h;by_cases Vi:m.ret=true/\ms=[]
  .obtain⟨hr,rfl⟩:=Vi
   exact absurd h (zI6 frT wT hr n)
  .have hs:m.ret=true->ms≠[]:=λa b=>Vi ⟨a,b⟩
   have zeQ:tp w w.tape w.drawn=w:=rfl;by_cases bV:∃x w1,(fD P.g m ms).run P.g w=.ok x w1
   .obtain⟨⟨m1,ms1⟩,w1,hr⟩:=bV
    have vK:step P.g (solo (G m.fr (ms.map Fm.fr++[pz])) w)=.next (solo (G m1.fr (ms1.map Fm.fr++[pz])) w1):=by
     exact zcc rfl (zjL (main:=true) hr [pz])
    obtain⟨k,mT,h1,h2⟩:=ih (vA.next (T:=w.tape) (e:=w.drawn) F hG hR hs hr) ((zbb vK n).symm.trans h);exact⟨k+1,mT,.step hs hr h1,h2⟩
   .exfalso
    obtain⟨R,W,m',ms',hw,hm,iZ⟩:=hR;rcases zFM F.toFit2 hG (hw.tp w.tape w.drawn) (Tp.tp w W w.tape w.drawn) hm iZ hs (λx w' e=>bV ⟨x,w',e⟩) [pz] with⟨o,w1,es,aY⟩|⟨x,w1,es,aY,hp,hd⟩
    .have vK:=zb5 rfl aY
     have:=(zpf vK n).symm.trans h;cases this
    .have vK:=zcc rfl aY
     exact zF6 frT wT hT n x (ms.map Fm.fr) w1 hp hd (λy hy=>by obtain⟨z,_,rfl⟩:=List.mem_map.1 hy;rfl) ((zbb vK n).symm.trans h)
inductive LT (p:bR)(Q:Fm->aE->Prop):Fm->List Fm->aE->Prop
 |stop {m:Fm} {w:aE}:m.ret=true->Q m w->LT p Q m [] w
 |step {m:Fm} {ms:List Fm} {w:aE} (nx:jZ->(Fm×List Fm)×aE):(m.ret=true->ms≠[])->(∀T,(fD p m ms).run p (tp w T 0)=.ok (nx T).1 (nx T).2)->(∀T,LT p Q (nx T).1.1 (nx T).1.2 (nx T).2)->LT p Q m ms w
def Hyp (P:dL)(fs:aO->Bool)(K:Pr)(G':Gp)(St:Nat->Prop)(Q:Fm->aE->Prop)(s:Fm×List Fm×aE):Prop:=
 vA P fs K G' St s.1 s.2.1 s.2.2/\∀T,∃n mT wT,Ib P.g n s.1 s.2.1 (tp s.2.2 T 0) mT wT/\Q mT wT
def bar (F:vD P fs)(hG:G'=P.gp){Q:Fm->aE->Prop}(hQ:∀m w T e,Q m w->Q m (tp w T e))(h:Hyp P fs K G' St Q (m,ms,w)):LT P.g Q m ms w:=by
 refine zC λdB=>?_
 let Bad:Fm×List Fm×aE->Prop:=λs=>Hyp P fs K G' St Q s/\¬LT P.g Q s.1 s.2.1 s.2.2
 have zlM:∀s,Bad s->s.1.ret=true->s.2.1≠[]:=by
  rintro⟨m,ms,w⟩ ⟨⟨hR,hI⟩,hn⟩ hr e;simp only at hr e hn hI;subst e;obtain⟨n,mT,wT,Ta,hq⟩:=hI w.tape
  cases Ta with
  |stop _=>exact hn (.stop hr (show Q m (tp (tp w w.tape 0) w.tape w.drawn) from hQ _ _ w.tape w.drawn hq))
  |step hs _ _=>exact hs hr rfl
 have next:∀s,Bad s->∃(T:jZ) (s1:Fm×List Fm×aE),(fD P.g s.1 s.2.1).run P.g (tp s.2.2 T 0)=.ok (s1.1,s1.2.1) s1.2.2/\Bad s1:=by
  rintro⟨m,ms,w⟩ hb;have hs:=zlM _ hb;obtain⟨⟨hR,hI⟩,hn⟩:=hb;simp only at hs hI hn hR⊢;have bV:∀T,∃x w1,(fD P.g m ms).run P.g (tp w T 0)=.ok x w1:=λT=>by
   obtain⟨n,mT,wT,Ta,_⟩:=hI T
   cases Ta with
   |stop hr=>exact absurd rfl (hs hr)
   |step _ hr _=>exact⟨_,_,hr⟩
  refine zC λzEB=>hn ?_
  let x:=λT=>(bV T).choose
  let w1:=λT=>(bV T).choose_spec.choose
  have hx:∀T,(fD P.g m ms).run P.g (tp w T 0)=.ok (x T) (w1 T):=λT=>(bV T).choose_spec.choose_spec;refine .step (λT=>(x T,w1 T)) hs hx λT=>zC λaN=>zEB ⟨T,((x T).1,(x T).2,w1 T),hx T,⟨?_,?_⟩,aN⟩
  .exact hR.next F hG hs (hx T)
  .intro T'
   obtain⟨h1,h2,h3⟩:=hR.locl F hG hs T 0 _ _ (hx T)
   let T2:Tape:=λn q=>if n<(w1 T).drawn then T n q else T' (n-(w1 T).drawn) q
   have h4:=h3 T2 0 (λn hn q=>by
    have sG:n<(w1 T).drawn:=by simpa[tp] using hn
    show(if 0+n<(w1 T).drawn then T (0+n) q else _)=_;rw[if_pos aC];rfl)
   obtain⟨n,mT,wT,Ta,hq⟩:=hI T2
   cases Ta with
   |stop hr=>exact absurd rfl (hs hr)
   |step F6 hr sG=>
    rename_i n' m1 ms1 w2;have L8:(fD P.g m ms).run P.g (tp w T2 0)=.ok (x T) (tp (w1 T) T2 (0+((w1 T).drawn-(tp w T 0).drawn))):=h4;rw[L8] at hr;injection hr with e1 e2;have Fs:m1=(x T).1:=by rw[e1]
    have Af:ms1=(x T).2:=by rw[e1]
    subst Fs Af;rw[<-e2] at sG;have hd:0+((w1 T).drawn-(tp w T 0).drawn)=(w1 T).drawn:=by show 0+((w1 T).drawn-0)=_;omega
    rw[hd] at sG
    obtain⟨e3,h5⟩:=Ib.alike (T2:=T') (e2:=0) F hG (hR.next F hG hs (hx T)) sG (λk q=>by
     show _=(if(w1 T).drawn+k<(w1 T).drawn then _ else T' ((w1 T).drawn+k-(w1 T).drawn) q);rw[if_neg aC];congr 1;omega)
    exact⟨n',mT,_,h5,hQ _ _ _ _ hq⟩
 have hstart:Bad (m,ms,w):=⟨h,dB⟩
 let nT:=λs (hb:Bad s)=>(next s hb).choose
 let nS:=λs (hb:Bad s)=>(next s hb).choose_spec.choose
 have cH:∀s (hb:Bad s),(fD P.g s.1 s.2.1).run P.g (tp s.2.2 (nT s hb) 0)=.ok ((nS s hb).1,(nS s hb).2.1) (nS s hb).2.2:=λs hb=>(next s hb).choose_spec.choose_spec.1;have Uc:∀s (hb:Bad s),Bad (nS s hb):=λs hb=>(next s hb).choose_spec.choose_spec.2
 let seq:Nat->{s:Fm×List Fm×aE//Bad s}:=λk=>Nat.rec ⟨(m,ms,w),hstart⟩ (λ_ s=>⟨nS s.1 s.2,Uc s.1 s.2⟩) k
 let tps:Nat->Tape:=λk=>nT (seq k).1 (seq k).2
 let d:Nat->Nat:=λk=>(seq (k+1)).1.2.2.drawn
 let D:Nat->Nat:=λk=>Nat.rec 0 (λk x=>x+d k) k
 have hD:∀k,D (k+1)=D k+d k:=λk=>rfl;have zs1:∀i j,i<=j->D i<=D j:=λi j rH=>by
  induction rH with
  |refl=>exact aV _
  |step _ ih=>exact eM ih (by rw[hD];omega)
 classical
 let TS:Tape:=λN q=>if hh:∃k,D k<=N/\N<D (k+1) then tps hh.choose (N-D hh.choose) q else 0
 have zIF:∀k n q,n<d k->TS (D k+n) q=tps k n q:=by
  intro k n q hn;have hh:∃j,D j<=D k+n/\D k+n<D (j+1):=⟨k,aC,by rw[hD];omega⟩;have hc:=hh.choose_spec;have hk:hh.choose=k:=by
   rcases Nat.lt_trichotomy hh.choose k with x|x|x
   .have:=zs1 (hh.choose+1) k x;omega
   .exact x
   .have:=zs1 (k+1) hh.choose x;rw[hD] at this;omega
  show(if hh:∃j,D j<=D k+n/\D k+n<D (j+1) then _ else _)=_;rw[dif_pos hh,hk];congr 1;omega
 have vK:∀k,(fD P.g (seq k).1.1 (seq k).1.2.1).run P.g (tp (seq k).1.2.2 TS (D k))=.ok ((seq (k+1)).1.1,(seq (k+1)).1.2.1) (tp (seq (k+1)).1.2.2 TS (D (k+1))):=by
  intro k;have hb:=(seq k).2;have hs:=zlM _ hb;have hr:=cH (seq k).1 (seq k).2;obtain⟨h1,h2,h3⟩:=hb.1.1.locl F hG hs (tps k) 0 _ _ hr;have h4:=h3 TS (D k) (λn hn q=>by
   have sG:n<d k:=by have:n<(nS (seq k).1 (seq k).2).2.2.drawn-0:=hn;simpa using this
   rw[zIF k n q sG];show _=tps k (0+n) q;rw[Nat.zero_add])
  have e1:D k+((nS (seq k).1 (seq k).2).2.2.drawn-(tp (seq k).1.2.2 (tps k) 0).drawn)=D (k+1):=by rw[hD];show D k+((seq (k+1)).1.2.2.drawn-0)=_;rfl
  rw[e1] at h4;exact h4
 obtain⟨n,mT,wT,Ta,_⟩:=h.2 TS;have key:∀(n k:Nat) (mT:Fm) (wT:aE),Ib P.g n (seq k).1.1 (seq k).1.2.1 (tp (seq k).1.2.2 TS (D k)) mT wT->False:=by
  intro n
  induction n with
  |zero=>
   intro k mT wT hi;have hs:=zlM _ (seq k).2;generalize iZ:(seq k).1.2.1=ms0 at hi hs
   cases hi with
   |stop hr=>exact hs hr rfl
  |succ n ih=>
   intro k mT wT hi;have aY:=vK k;generalize iZ:(seq k).1.2.1=ms0 at hi aY;generalize Mz:(seq k).1.1=m0 at hi aY;generalize jT:tp (seq k).1.2.2 TS (D k)=w0 at hi aY
   cases hi with
   |step F6 hr hn=>
    rename_i m1 ms1 w1;rw[aY] at hr;injection hr with e1 e2;injection e1 with e1 e3;subst e1 e2 e3;exact ih (k+1) mT wT hn
 exact key n 0 mT wT Ta
end
end Go.Tt
namespace Go.Tt
inductive LTs (p:bR)(N:Fm->Prop)(Stop:Fm->List Fm->aE->Prop):Fm->List Fm->aE->Prop
 |stop {m:Fm} {ms:List Fm} {w:aE}:Stop m ms w->LTs p N Stop m ms w
 |step {m:Fm} {ms:List Fm} {w:aE} (nx:jZ->(Fm×List Fm)×aE):(m.ret=true->ms≠[])->(∀T,(fD p m ms).run p (tp w T 0)=.ok (nx T).1 (nx T).2)->(∀T,N (nx T).1.1)->(∀T,LTs p N Stop (nx T).1.1 (nx T).1.2 (nx T).2)->LTs p N Stop m ms w
def Fm.app (m:Fm)(k:List eF):Fm:={m with todo:=m.todo++k}
def Fm.app_nil (m:Fm):m.app []=m:=by unfold Fm.app;simp
def x3 (S:List Nat):Code->Bool
 | .skip| .ret| .exit _| .label _=>true
 | .region _ ops _=>ops.all λo=>match o.dst with|some s=>!S.contains s|none=>true
 | .seq a b=>x3 S a&&x3 S b
 | .cond _ a b=>x3 S a&&x3 S b
 | .block _ c| .loop c| .scope c=>x3 S c
 |_=>false
def At (S:List Nat):eF->Bool
 | .code c| .inLoop c| .inScope c=>x3 S c
 | .inBlock _=>true
 | .inRegion ops _=>ops.all λo=>match o.dst with|some s=>!S.contains s|none=>true
 |_=>false
def Sk:Fm->List Fm->Fm
 |m,[]=>m
 |_,c::cs=>Sk c cs
structure K4 (S:List Nat)(m m':Fm):Prop where
 no:∀i∈m'.todo,At S i=true
 at_:∀s∈S,m'.tmps.getD s aA=m.tmps.getD s aA
variable {S:List Nat}{k:List eF}
def zge {m:Fm}{ops:Array aZ}{i:Nat}{rest:List Nat}(h:m.todo=.inRegion ops (i::rest)::k)(hn:∀i∈m.todo,At S i=true)(v:aF):K4 S m (m.fin ops i rest k v):=by
 have hx:=hn (.inRegion ops (i::rest)) (by rw[h];exact List.mem_cons_self ..);refine⟨λj hj=>?_,λs hs=>?_⟩
 .simp only[Fm.fin,jH] at hj
  rcases hj with rfl|hj
  .exact hx
  .exact hn j (by rw[h];exact Fw _ hj)
 .unfold Fm.fin
  simp only
  cases hd:(ops[i]?).bind (·.dst) with
  |none=>rfl
  |some q=>
   obtain⟨o,ho,hq⟩:=Option.bind_eq_some_iff.1 hd;simp only[At,Array.all_eq_true_iff_forall_mem] at hx;have h1:=hx o (Array.mem_of_getElem? ho);rw[hq] at h1;simp only[Bool.not_eq_true',List.contains_eq_mem,decide_eq_false_iff_not] at h1;have aT:q≠s:=λe=>h1 (e▸hs);simp only[Array.getD_eq_getD_getElem?,jP aT]
def zHJ {id:Nat}{k':List eF}(h:exitTo id k=some k')(hn:∀i∈k,At S i=true):∀i∈k',At S i=true:=λi hi=>hn i (zjS h i hi)
section
variable {p:bR}
def Fm.fin_app (m:Fm)(ops:Array aZ)(i:Nat)(rest:List Nat)(k0 k:List eF)(v:aF):(m.app k).fin ops i rest (k0++k) v=(m.fin ops i rest k0 v).app k:=by
 unfold Fm.fin Fm.app;simp
variable {m x:Fm}{ms ys ms':List Fm}{w w1:aE}
def zcp (k:List eF)(aT:m.todo≠[])(h:(sC p m ms).run p w=.ok (x,ys) w1):
 (ys=ms/\x.fn=m.fn/\(x.ret=true->m.ret=false->x.todo≠[])/\(∀S,(∀i∈m.todo,At S i=true)->K4 S m x)/\(sC p (m.app k) ms').run p w=.ok (x.app k,ms') w1)\/(ys=m::ms/\(sC p (m.app k) ms').run p w=.ok (x,m.app k::ms') w1):=by
 obtain⟨fn,tmps,todo,ret⟩:=m;simp only at aT;unfold sC at h⊢;simp only[Fm.app] at h⊢
 cases todo with
 |nil=>exact absurd rfl aT
 |cons it k0=>
  simp only[Sw] at h⊢
  cases it with
  |code c=>
   cases c with
   |cond c a b=>
    simp only at h⊢;have he:Fm.eval {fn:=fn,tmps:=tmps,todo:=Nu (Code.cond c a b)::(k0++k),ret:=ret} c=Fm.eval {fn:=fn,tmps:=tmps,todo:=Nu (Code.cond c a b)::k0,ret:=ret} c:=by cases c<;>rfl
    rw[he]
    cases hv:Fm.eval {fn:=fn,tmps:=tmps,todo:=Nu (Code.cond c a b)::k0,ret:=ret} c with
    |bool t=>
     rw[hv] at h;simp only[kW,bD,rE,pP] at h;obtain⟨⟨rfl,rfl⟩,rfl⟩:=h;refine .inl ⟨rfl,rfl,λa b=>K6 (b.symm.trans a),λS hn=>⟨?_,λ_ _=>rfl⟩,rfl⟩;simp only[jH,forall_eq_or_imp,At,x3,fT] at hn⊢;cases t<;>grind
    |_=>rw[hv] at h;simp[stuck,bD] at h
   |exit id=>
    simp only at h⊢
    cases he:exitTo id k0 with
    |some k'=>
     rw[he] at h;rw[zjO k he];simp only[kW,bD,rE,pP] at h;obtain⟨⟨rfl,rfl⟩,rfl⟩:=h;exact .inl ⟨rfl,rfl,λa b=>K6 (b.symm.trans a),λS hn=>⟨zHJ he λi hi=>hn i (Fw _ hi),λ_ _=>rfl⟩,rfl⟩
    |none=>rw[he] at h;simp[stuck,bD] at h
   |region id ops draw=>
    cases draw with
    |true=>
     simp only[if_true] at h⊢;have h2:=(r9 p (choose (.order fn id)) _ w).symm.trans h;have h3:=λ(f:Nat->cU (Fm×List Fm))=>r9 p (choose (.order fn id)) f w
     cases hc:(choose (.order fn id)).run p w with
     |ok t w2=>
      rw[hc] at h2 h3;simp only[uD] at h2 h3;simp only[kW,bD,rE,pP] at h2;obtain⟨⟨rfl,rfl⟩,rfl⟩:=h2;exact .inl ⟨rfl,rfl,λa b=>K6 (b.symm.trans a),λS hn=>⟨by simp only[jH,forall_eq_or_imp,At,x3,fT] at hn⊢;grind,λ_ _=>rfl⟩,h3 _⟩
     |halt y w2=>rw[hc] at h2;cases h2
    |false=>
     simp only[jE,if_false,kW,bD,rE,pP] at h;obtain⟨⟨rfl,rfl⟩,rfl⟩:=h;exact .inl ⟨rfl,rfl,by first|exact λa b=>K6 (b.symm.trans a)|exact λ_ _=>zgF _ _,λS hn=>⟨by simp only[jH,forall_eq_or_imp,At,x3,fT] at hn⊢;grind,λ_ _=>rfl⟩,rfl⟩
   |_=>
    first
     |(simp[stuck,bD] at h;done)
     |(
      simp only[kW,bD,rE,pP] at h;obtain⟨⟨rfl,rfl⟩,rfl⟩:=h;exact .inl ⟨rfl,rfl,by first|exact λa b=>K6 (b.symm.trans a)|exact λ_ _=>zgF _ _,λS hn=>⟨by simp only[jH,forall_eq_or_imp,At,x3,fT] at hn⊢;grind,λ_ _=>rfl⟩,rfl⟩)
  |inRegion ops l=>
   cases l with
   |nil=>
    simp only[kW,bD,rE,pP] at h;obtain⟨⟨rfl,rfl⟩,rfl⟩:=h;exact .inl ⟨rfl,rfl,by first|exact λa b=>K6 (b.symm.trans a)|exact λ_ _=>zgF _ _,λS hn=>⟨by simp only[jH,forall_eq_or_imp,At,x3,fT] at hn⊢;grind,λ_ _=>rfl⟩,rfl⟩
   |cons i rest=>
    simp only at h⊢;have zR:∀v,Fm.fin {fn:=fn,tmps:=tmps,todo:=q9 ops (i::rest)::(k0++k),ret:=ret} ops i rest (k0++k) v=(Fm.fin {fn:=fn,tmps:=tmps,todo:=q9 ops (i::rest)::k0,ret:=ret} ops i rest k0 v).app k:=λv=>Fm.fin_app {fn:=fn,tmps:=tmps,todo:=q9 ops (i::rest)::k0,ret:=ret} ops i rest k0 k v;by_cases hw:((ops[i]?).map (dD · (dR ops tmps))).getD false=true
    .rw[if_pos hw] at h
     simp only[hw,if_true]
     cases ho:ops[i]? with
     |none=>rw[ho] at h;simp[stuck,bD] at h
     |some o=>
      rw[ho] at h;simp only at h⊢;have mP:Fm.eval {fn:=fn,tmps:=tmps,todo:=q9 ops (i::rest)::(k0++k),ret:=ret}=Fm.eval {fn:=fn,tmps:=tmps,todo:=q9 ops (i::rest)::k0,ret:=ret}:=by funext y;cases y<;>rfl
      rw[mP];have h2:=(r9 p _ _ w).symm.trans h;have h3:=λ(f:Next->cU (Fm×List Fm))=>r9 p (aS (Fm.eval {fn:=fn,tmps:=tmps,todo:=q9 ops (i::rest)::k0,ret:=ret}) o) f w
      cases hc:(aS (Fm.eval {fn:=fn,tmps:=tmps,todo:=q9 ops (i::rest)::k0,ret:=ret}) o).run p w with
      |halt y w2=>rw[hc] at h2;cases h2
      |ok n w2=>
       rw[hc] at h2 h3;simp only[uD] at h2 h3
       cases n with
       |value v=>
        simp only[qQ,kW,bD,rE,pP] at h2;obtain⟨⟨rfl,rfl⟩,rfl⟩:=h2;refine .inl ⟨rfl,rfl,λa b=>K6 (b.symm.trans a),λS hn=>zge rfl hn _,(h3 _).trans ?_⟩;simp only[qQ,kW,bD,zR];rfl
       |skip=>
        simp only[qQ,kW,bD,rE,pP] at h2;obtain⟨⟨rfl,rfl⟩,rfl⟩:=h2;refine .inl ⟨rfl,rfl,λa b=>K6 (b.symm.trans a),λS hn=>zge rfl hn _,(h3 _).trans ?_⟩;simp only[qQ,kW,bD,zR];rfl
       |enter f args=>
        simp only[qQ] at h2
        cases hf:p.funcs[f]? with
        |none=>rw[hf] at h2;simp[stuck,bD] at h2
        |some fn2=>
         cases hb:fn2.body with
         |none=>rw[hf] at h2;simp only[hb] at h2;simp[stuck,bD] at h2
         |some c=>
          rw[hf] at h2;simp only[hb,kW,bD,rE,pP] at h2;obtain⟨⟨rfl,rfl⟩,rfl⟩:=h2;refine .inr ⟨rfl,(h3 _).trans ?_⟩;simp only[qQ,hf,hb,kW,bD]
       |_=>simp[qQ,stuck,bD] at h2
    .rw[if_neg hw] at h
     have qO:((ops[i]?).map (dD · (dR ops tmps))).getD false=false:=by simpa using hw
     simp only[qO,jE,if_false];simp only[kW,bD,rE,pP] at h;obtain⟨⟨rfl,rfl⟩,rfl⟩:=h;refine .inl ⟨rfl,rfl,λa b=>K6 (b.symm.trans a),λS hn=>zge rfl hn _,?_⟩;simp only[kW,bD,zR];rfl
  |_=>
   first
    |(simp[stuck,bD] at h;done)
    |(
     simp only[kW,bD,rE,pP] at h;obtain⟨⟨rfl,rfl⟩,rfl⟩:=h;exact .inl ⟨rfl,rfl,by first|exact λa b=>K6 (b.symm.trans a)|exact λ_ _=>zgF _ _,λS hn=>⟨by simp only[jH,forall_eq_or_imp,At,x3,fT] at hn⊢;grind,λ_ _=>rfl⟩,rfl⟩)
def zxB (h:(sC p m ms).run p w=.ok (x,ys) w1)(hx:x.ret=true)(hr:m.ret=false)(aT:m.todo≠[])(hy:ys=ms):x.todo≠[]:=by
 rcases zcp (ms':=[]) [] aT h with e|e
 .exact e.2.2.1 hx hr
 .have:=hy.symm.trans e.1
  exact absurd (congrArg Yn this) aP
def zu4 (h:(sC p m ms).run p w=.ok (x,ys) w1)(hm:m.todo=[]):x={m with ret:=true}/\ys=ms:=by
 unfold sC at h;rw[hm] at h;simp only[kW,bD,rE,pP] at h;rw[hm];exact⟨h.1.1.symm,h.1.2.symm⟩
def zdG (h:(sC p m ms).run p w=.ok (x,ys) w1):(ys=ms/\x.fn=m.fn)\/ys=m::ms:=by
 by_cases hm:m.todo=[]
 .obtain⟨rfl,rfl⟩:=zu4 h hm
  exact .inl ⟨rfl,rfl⟩
 .exact(zcp (ms':=[]) [] hm h).imp (λe=>⟨e.1,e.2.1⟩) And.left
def zyD {S:List Nat}{m':Fm}{w':aE}(hn:∀i∈m.todo,At S i=true)(h:(sC p m ms).run p w=.ok (m',ms') w'):(ms'=ms/\K4 S m m')\/ms'=m::ms:=by
 by_cases hm:m.todo=[]
 .obtain⟨rfl,rfl⟩:=zu4 h hm
  exact .inl ⟨rfl,hn,λ_ _=>rfl⟩
 .exact(zcp (ms':=[]) [] hm h).imp (λe=>⟨e.1,e.2.2.2.1 S hn⟩) And.left
def zE (k:List eF)(b:List Fm):Fm->List Fm->Fm×List Fm
 |m,[]=>(m.app k,b)
 |m,c::cs=>(m,(zE k b c cs).1::(zE k b c cs).2)
variable {m1:Fm}{ms1:List Fm}
def zHo {k:List eF}{b:List Fm}(h:(fD p m ms).run p w=.ok (m1,ms1) w1)(aT:ms=[]->m.ret=false->m.todo≠[]):
 (fD p (zE k b m ms).1 (zE k b m ms).2).run p w=.ok (zE k b m1 ms1) w1:=by
 cases ms with
 |nil=>
  simp only[zE]
  cases hr:m.ret with
  |true=>simp[fD,hr,zJ,stuck,bD] at h
  |false=>
   have vX:(m.app k).ret=false:=hr;simp only[fD,hr,jE,if_false] at h;simp only[fD,vX,jE,if_false];rcases zcp (ms':=b) k (aT rfl hr) h with⟨rfl,_,_,_,e⟩|⟨rfl,e⟩
   .exact e
   .exact e
 |cons c cs=>
  simp only[zE]
  cases hr:m.ret with
  |true=>
   simp only[fD,hr,if_true] at h⊢;obtain⟨ops,i,r,k0,v,fn,hc,hf,hv,rfl,rfl⟩:=Us h
   cases ms1 with
   |nil=>
    simp only[zE];have kS:(c.app k).todo=.inRegion ops (i::r)::(k0++k):=by simp[Fm.app,hc]
    have:=(Md (rest:=b) kS hf hv).1;rw[Fm.fin_app] at this;exact this
   |cons d ds=>exact(Md hc hf hv).1
  |false=>
   simp only[fD,hr,jE,if_false] at h⊢;by_cases pT:m.todo=[]
   .simp only[sC,pT,kW,bD,rE,pP] at h⊢
    obtain⟨⟨rfl,rfl⟩,rfl⟩:=h;exact⟨rfl,rfl⟩
   .rcases zcp (ms':=(zE k b c cs).1::(zE k b c cs).2) [] pT h with⟨rfl,_,_,_,e⟩|⟨rfl,e⟩
    .simp only[Fm.app_nil] at e
     exact e
    .simp only[Fm.app_nil] at e
     exact e
def Q2:Fm->List Fm->aO
 |m,[]=>m.fn
 |_,c::cs=>Q2 c cs
def zrh (h:(fD p m ms).run p w=.ok (m1,ms1) w1):Q2 m1 ms1=Q2 m ms:=by
 cases hr:m.ret with
 |true=>
  simp only[fD,hr,if_true] at h
  cases ms with
  |nil=>simp[zJ,stuck,bD] at h
  |cons c cs=>
   obtain⟨ops,i,r,k0,v,fn,hc,hf,hv,rfl,rfl⟩:=Us h;cases ms1<;>rfl
 |false=>
  simp only[fD,hr,jE,if_false] at h;rcases zdG h with⟨rfl,e⟩|rfl
  .cases ms1 with
   |nil=>exact e
   |cons c cs=>rfl
  .rfl
variable {Q:Fm->aE->Prop}
def LT.ret_inv (hr:m.ret=true)(h:LT p Q m [] w):Q m w:=by
 generalize iZ:([]:List Fm)=ms at h
 cases h with
 |stop _ hq=>exact hq
 |step nx hs cH _=>subst iZ;exact absurd rfl (hs hr)
variable {Stop:Fm->List Fm->aE->Prop}
def LT.app {P₁:dL}{Qy:aO->Bool}{K₁:Pr}{Zx:Gp}{zeW:Nat->Prop}(zdt:vD P₁ Qy)(zfQ:Zx=P₁.gp){N:Fm->Prop}(k:List eF)(b:List Fm){fn0:aO}
 (hN:∀m R y,pA P₁ Qy K₁ R m y->N m) (zHF:∀m:Fm,m.fn=fn0->N m)
 (hn:∀(x:Fm) (w:aE),x.fn=fn0->x.ret=false->x.todo=[]->(∀T,Q {x with ret:=true} (tp w T 0))->Stop (x.app k) b w)
 (hr:∀(x:Fm) (w:aE),x.fn=fn0->x.ret=true->x.todo≠[]->Q x w->Stop (x.app k) b w)    (h:LT P₁.g Q m ms w):
 Q2 m ms=fn0->vA P₁ Qy K₁ Zx zeW m ms w->(ms=[]->m.ret=true->m.todo≠[])->LTs P₁.g N Stop (zE k b m ms).1 (zE k b m ms).2 w:=by
 induction h with
 |stop h1 h2=>intro hl _ hz;exact .stop (hr _ _ hl h1 (hz rfl h1) h2)
 |step nx hs cH aN ih=>
  rename_i m ms w;intro hl hrel hz;by_cases Oa:ms=[]/\m.ret=false/\m.todo=[]
  .obtain⟨rfl,h1,h2⟩:=Oa
   refine .stop (hn m w hl h1 h2 λT=>?_);have hT:=cH T;have e:(fD P₁.g m []).run P₁.g (tp w T 0)=.ok ({m with ret:=true},[]) (tp w T 0):=by simp[fD,h1,sC,h2,kW,bD]
   rw[e] at hT;injection hT with e1 e2;have hl:=aN T;rw[<-e1,<-e2] at hl;exact hl.ret_inv rfl
  .have aT:ms=[]->m.ret=false->m.todo≠[]:=λa b c=>Oa ⟨a,b,c⟩
   have Sv:∀T,Q2 (nx T).1.1 (nx T).1.2=fn0:=λT=>(zrh (m1:=(nx T).1.1) (ms1:=(nx T).1.2) (cH T)).trans hl;have tN:∀T,vA P₁ Qy K₁ Zx zeW (nx T).1.1 (nx T).1.2 (nx T).2:=λT=>vA.next (T:=T) (e:=0) zdt zfQ hrel hs (cH T);refine .step (λT=>(zE k b (nx T).1.1 (nx T).1.2,(nx T).2)) (λe=>?_) (λT=>zHo (cH T) aT) (λT=>?_) (λT=>ih T (Sv T) (tN T) λe1 e2 e3=>?_)
   .cases ms with
    |nil=>exact absurd rfl (hs e)
    |cons c cs=>simp[zE]
   .
    show N (zE k b (nx T).1.1 (nx T).1.2).1
    cases iZ:(nx T).1.2 with
    |nil=>exact zHF _ (by have:=Sv T;rw[iZ] at this;exact this)
    |cons c cs=>
     obtain⟨R,W,m',ms',_,hm,_⟩:=tN T;exact hN _ R m' hm
   have hT:=cH T
   cases ms with
   |nil=>
    cases kG:m.ret with
    |true=>exact hs kG rfl
    |false=>
     simp only[fD,kG,jE,if_false] at hT;exact zxB hT e2 kG (aT rfl kG) e1 e3
   |cons c cs=>
    cases kG:m.ret with
    |true=>
     simp only[fD,kG,if_true] at hT;obtain⟨ops,i,r,k0,v,fn,hc,hf,hv,h1,h2⟩:=Us (m1:=(nx T).1.1) (ms1:=(nx T).1.2) hT;rw[h1] at e3;simp[Fm.fin] at e3
    |false=>
     simp only[fD,kG,jE,if_false] at hT;rcases zdG hT with⟨e,_⟩|e
     .rw[e1] at e;cases e
     .rw[e1] at e;cases e
end
end Go.Tt
