/-
  Part 2 of what stands behind the last text.
-/
import Derived.Conc.Token
import Derived.Conc.CompanyDraw
import Derived.Conc.LoneCalls
import Derived.Test.YtfcjiloojkjaeaaGreatDoorTalkCPq1
set_option linter.all false
open Array renaming all_eq_true→zmx,empty_append→zhq,ext'→Ik,forIn_toList→zxU,getElem?_eq_getElem→mE,getElem?_eq_some_iff→dP,getElem?_map→yB,getElem?_push→Vr,getElem?_setIfInBounds_ne→jV,getElem?_setIfInBounds_self_of_lt→Ki,mem_append→zsV,replicate→nU,size_append→Sn,size_setIfInBounds→zwR,toList_inj→zaA,toList_map→zvi
open Array.mk renaming injEq→zeZ
open Bool renaming and_eq_true→fU,false_eq_true→jE,noConfusion→Ks,or_eq_true→Ey
open Classical renaming byContradiction→zY
open Go renaming Addr→bL,CommCase→znw,CommShape→Mq,Event→oC,Frame→dK,FuncId→aP,Goroutine→bC,HappensBefore→ze6,Item→eE,Machine→zcR,MemOp→Tm,Oper→aZ,Operand→cM,Program→bS,ResultVar→O5,Sem→cU,Tape→jW,Trace→lU,TypeId→aM,Value→aF,World→aE,deafBehind→n9,execOp→aS,undef→aA,yielded→dR
open Go.CommCase.mk renaming injEq→zgy
open Go.CommShape.recv renaming injEq→zCv
open Go.Conc renaming Aside→Ls,Deaf→iA,Deaf_other→Nl,Knows→N6,act?_old→zan,aside_setCell→Yl,base→J5,deafBehind_still→zpe,deaf_old→zgQ,finishComm_recv→zle,finishComm_send→zpQ,g?_old→Sl,getElem?_stand→ztK,heard_old→zkO,listed→wJ,lt_of_act?→zfW,lt_size_of_getElem?→X5,mem_of_getElem?→zlb,noRace_append→zoU,ofEvents_eq→Xt,offersAt_of_not_blocked→Vq,offersAt_parked_recv→zhx,offersAt_parked_send→znf,ph→zfB,runT_crowd_go→Y1,served→o9,step_solo_go→zcL,touch_mute→zky,touch_of→zeH,woken_quitsD→zjs
open Go.Conc.Aside renaming refl→Nj
open Go.ConcR renaming WgAt→gD,deafBehind_cons→zqT,mk→oE
open Go.ConcR.WgAt renaming setSm→zI1,setSt→zJc,unique→Sq
open Go.Conv renaming bytesToString→zcP,intToString→ziq,runesToString→zqD
open Go.Deferred renaming ofValue→Bu
open Go.Event renaming mute→zdN
open Go.Frame renaming enter→E0,raise→zwm
open Go.GStep renaming after→Bt
open Go.GStep.comm renaming injEq→zwK
open Go.Goroutine renaming again→zgc,offers→ztz
open Go.Goroutine.mk renaming injEq→zwl
open Go.Instr renaming panic→zvb
open Go.Item renaming code→Nr,inRegion→rI
open Go.MemAct renaming low→X6,low_mono→ztN,ofEvent→jN,touch?→qQ
open Go.MemOp renaming ofEvents→vQ
open Go.Mode renaming atomic→zeW,plain→zcX
open Go.Op renaming eqGuardIn→Th,equal→zA,equalIn→Da,maxDepth→Tl
open Go.Question renaming cut→zkn,forced→zhH
open Go.Region renaming schedule→Sj,wanted→dF
open Go.Result renaming andThen→uV,evThen_ok→Rm
open Go.Result.ok renaming injEq→rH
open Go.Sem renaming bind→x7,events→vY,events_bind'→Tx,run→bD,run_bind'→sE
open Go.Stepped.next renaming injEq→Xj
open Go.Trace renaming act?→zxj,g?→Di
open Go.Value.chan renaming injEq→zus
open Go.World renaming cell?→lI,farLoad→yV,farStore→Dh,noCell→rD,setChan→J8
open Go.stepG renaming exec→Of
open List renaming cons_append→Us,cons_ne_nil→zgh,length→Zm,length_cons→pT,length_nil→rR,mem_cons→jJ,mem_cons_of_mem→G4,mem_toArray→Ha,not_mem_nil→lZ,range→gF,size_toArray→Eh
open List.cons renaming injEq→Vg
open Nat renaming le_refl→aX,le_trans→eG,lt_irrefl→Cr,lt_or_ge→nC,zero_le→jT
open Option renaming bind_some→vD,getD_some→y4,isNone_some→zs3,map_eq_some_iff→xK,map_some→Ao
open Option.some renaming inj→cE,injEq→gA
open Prod.mk renaming injEq→pK
open Pure renaming pure→kN
open WellFounded renaming transGen→zEb
namespace Go
def Dc{P:Prop}(h:P:=by rw[hp];trivial):P:=h
def Pe{P:Prop}(h:P:=by rw[hr];exact .inr (.mk f k)):P:=h
def Kg{P:Prop}(h:P:=by rw[lW];simp):P:=h
def Vb{P:Prop}(h:P:=by rw[hp];exact hB _ bT.refl):P:=h
def zaQ{P:Prop}(h:P:=by rw[dL.step];exact aY):P:=h
def ztM{P:Prop}(h:P:=by have:=(h.st.bnd k c (.inl e)).2.2;rw[Nx] at this;cases this):P:=h
def zpo{P:Prop}(h:P:=by have:=(h.st.bnd k c (.inr e)).2.2;rw[Nx] at this;cases this):P:=h
def zcC{P:Prop}(h:P:=by simpa using hj):P:=h
def zqw{P:Prop}(h:P:=by rw[(Od w _).size];exact h.st.grp.live.lt):P:=h
def zvP{P:Prop}(h:P:=by rw[upd_same,hr];exact .inr (.mk f k)):P:=h
def Mk{P:Prop}(h:P:=by rfl):P:=h
def zgU{P:Prop}(h:P:=by rw[hp];exact id):P:=h
def zfD{P:Prop}(h:P:=by rw[hp];exact hB):P:=h
def zqN{P:Prop}(h:P:=by rw[jV (Ne.symm C8)];simp[Yw]):P:=h
def zhy{P:Prop}(h:P:=by simpa using hg.1):P:=h
def zl7{P:Prop}(h:P:=by rw[hl];exact id):P:=h
end Go
namespace Go.Mt
open Go.Conc
open Go.ConcR (KK wgBlock WgAt stA smA rd wr mk)
inductive Rk:Type 1
 |mk (ι:Type) (f:ι->Rk)
inductive Rk.Child:Rk->Rk->Prop
 |mk {ι:Type} (f:ι->Rk) (i:ι):Rk.Child (f i) (.mk ι f)
def Rk.wf:WellFounded Rk.Child:=⟨λr=>by
 induction r with
 |mk ι f ih=>exact⟨_,λy h=>by cases h with|mk _ i=>exact ih i⟩⟩
structure cF where
 own:Nat->Prop
 still:Nat->Prop
 pass:Nat->Prop
def cF.grow (τ:cF)(w w':aE):cF:={τ with own:=λb=>τ.own b\/(w.heap.size<=b/\b<w'.heap.size)}
inductive Act (L:Type) where
 |send (c:Nat) (ok:aF->Prop) (pub:aF->List Nat) (nx:aF->L)
 |recv (c:Nat) (ok:aF->Prop) (nx:aF->L) (shut:L)
 |close (c:Nat) (nx:L)
 |add (nx:L)
 |spawn (pub:List Nat) (child nx:L)
 |done
 |wait
 |note (can:L->Prop)
inductive Ph (L:Type) where
 |gone
 |usr (l:L)
 |rel (l:L)
 |l1 (l:L)
 |l2 (l:L)
 |l3 (l:L)
 |quit (l:L)
 |w1 (b:Nat)
 |w2 (v:Nat)
 |w3
 |w4
 |w5
inductive Pj (L:Type) where
 |gone
 |run (l:L)
 |over (l:L)
 |waits
def Ph.proj {L:Type}:Ph L->Pj L
 | .gone=>.gone
 | .usr l=>.run l
 | .rel l| .l1 l| .l2 l| .l3 l| .quit l=>.over l
 | .w1 _| .w2 _| .w3| .w4| .w5=>.waits
abbrev rP:=Nat->Option Bool
def rP.opn (ch:rP)(l:List Nat):rP:=λc=>if c∈l then some false else ch c
structure jU (L:Type) where
 act:L->Act L
 dep:L->aE->Prop
 pend:L->Bool
 cl:L->Prop
 Inv:(Nat->Pj L)->rP->Prop
 got:L->aF->List Nat:=λ_ _=>[]
def jU.Blocked {L:Type}(A:jU L)(q:Nat->Pj L)(ch:rP)(l:L):Prop:=
 match A.act l with
 | .send c _ _ _=>¬∃j l' ok nx sh,q j=.run l'/\A.act l'=.recv c ok nx sh
 | .recv c _ _ _=>ch c=some false/\¬∃j l' ok pub nx,q j=.run l'/\A.act l'=.send c ok pub nx
 |_=>False
def Pj.c {L:Type}:Pj L->Nat
 | .gone=>0
 |_=>1
def num {L:Type}(q:Nat->Pj L):Nat->Nat
 |0=>0
 |n+1=>num q n+(q n).c
def bG {α:Type _}(f:Nat->α)(i:Nat)(x:α):Nat->α:=λa=>if a=i then x else f a
structure jU.Ok {L:Type}(A:jU L):Prop where
 send1:∀q ch i j li lj c ok pub nx pE O7 nQ,A.Inv q ch->q i=.run li->q j=.run lj->A.act li=.send c ok pub nx->A.act lj=.send c pE O7 nQ->i=j
 recv1:∀q ch i j li lj c ok nx sh pE nQ xD,A.Inv q ch->q i=.run li->q j=.run lj->A.act li=.recv c ok nx sh->A.act lj=.recv c pE nQ xD->i=j
 sendC:∀q ch i l c ok pub nx,A.Inv q ch->q i=.run l->A.act l=.send c ok pub nx->ch c=some false
 recvC:∀q ch i l c ok nx sh,A.Inv q ch->q i=.run l->A.act l=.recv c ok nx sh->∃b,ch c=some b
 meet:∀q ch i j li lj c ok pub nx pE nQ sh v,A.Inv q ch->q i=.run li->q j=.run lj->A.act li=.send c ok pub nx->A.act lj=.recv c pE nQ sh->ok v->
  (∀a∈pub v,ch a=none)->pE v/\A.Inv (bG (bG q i (.run (nx v))) j (.run (nQ v))) (ch.opn (pub v))
 shut:∀q ch i l c ok nx sh,A.Inv q ch->q i=.run l->A.act l=.recv c ok nx sh->ch c=some true->A.cl l/\A.Inv (bG q i (.run sh)) ch
 close:∀q ch i l c nx,A.Inv q ch->q i=.run l->A.act l=.close c nx->ch c=some false/\A.Inv (bG q i (.run nx)) (bG ch c (some true))
 add:∀q ch i l nx,A.Inv q ch->q i=.run l->A.act l=.add nx->i=0/\A.pend l=false/\A.pend nx=true/\A.Inv (bG q i (.run nx)) ch
 spawn:∀q ch i l pub lc nx k,A.Inv q ch->q i=.run l->A.act l=.spawn pub lc nx->i=0/\A.pend l=true/\A.pend nx=false/\(q k=.gone->k≠0->(∀a∈pub,ch a=none)->A.Inv (bG (bG q i (.run nx)) k (.run lc)) (ch.opn pub))
 done:∀q ch i l,A.Inv q ch->q i=.run l->A.act l=.done->i≠0/\A.Inv (bG q i (.over l)) ch
 note:∀q ch i l can l',A.Inv q ch->q i=.run l->A.act l=.note can->can l'->A.pend l'=A.pend l/\A.Inv (bG q i (.run l')) ch
 wait:∀q ch i l,A.Inv q ch->q i=.run l->A.act l=.wait->i=0/\A.pend l=false/\A.Inv (bG q i .waits) ch
 prog:∀q ch,A.Inv q ch->(∀i l,q i=.run l->A.Blocked q ch l)->q 0=.waits/\∀i l,q i≠ .run l
 pendC:∀l l' c v ok pub nx,A.act l=.send c ok pub nx->l'=nx v->A.pend l'=A.pend l
 pendR:∀l l' c v ok nx sh,A.act l=.recv c ok nx sh->(l'=nx v\/l'=sh)->A.pend l'=A.pend l
 pendX:∀l c nx,A.act l=.close c nx->A.pend nx=A.pend l
 few:∀q ch,A.Inv q ch->∀n,num q n<2000000000
 gotP:∀q ch i j li lj c ok pub nx pE nQ sh v,A.Inv q ch->q i=.run li->q j=.run lj->A.act li=.send c ok pub nx->A.act lj=.recv c pE nQ sh->ok v->∀a∈A.got lj v,a∈pub v
section
variable {L:Type}(P:bS)(ty:aM)(Wg:Nat)(A:jU L)(Fin:bC->aE->Prop)
def WgLive (w:aE):Prop:=∃st sm,gD ty Wg w st sm
structure bT (τ:cF)(w aI:aE):Prop where
 tape:aI.tape=w.tape
 os:aI.os=w.os
 output:aI.output=w.output
 size:w.heap.size<=aI.heap.size
 keep:∀b,τ.own b\/τ.still b->aI.heap[b]? =w.heap[b]?
 live:WgLive ty Wg w->WgLive ty Wg aI
structure zP (O:Nat->Prop)(w w':aE):Prop where
 tape:w'.tape=w.tape
 os:w'.os=w.os
 output:w'.output=w.output
 size:w.heap.size<=w'.heap.size
 keep:∀b,b<w.heap.size->¬O b->w'.heap[b]? =w.heap[b]?
def EvT (main:Bool)(O Z:Nat->Prop)(e:oC):Prop:=
 match e.loc with
 | .cell a=>O a.block\/(Z a.block/\e.write=false)
 | .obj r=>O r\/(Z r/\e.write=false)
 | .mark (.read a)| .mark (.write a)=>main=true/\a.block=Wg
 | .mark (.acquire _)| .mark (.release _)| .mark (.releaseMerge _)=>False
 | .mark _=>True
 |_=>False
variable (K:Bool->Ph L->Nat->cF->bC->aE->Prop)
def GoG (main:Bool)(ph:Ph L)(d:Nat)(τ:cF)(g:bC)(aI:aE):Prop:=
 ∃g' w' es,stepG P main g aI=.go g' w' es/\g'.status=.running/\zP τ.own aI w'/\(∀e∈es,EvT Wg main (τ.grow aI w').own τ.still e)/\K main ph (n9 d es) (τ.grow aI w') g' w'
def zei (main:Bool)(ph:Ph L)(d:Nat)(τ:cF)(g:bC)(w:aE):Prop:=∀aI,bT ty Wg τ w aI->GoG P Wg K main ph d τ g aI
def zaP (main:Bool)(ph:Ph L)(d:Nat)(τ:cF)(g:bC)(w:aE):Prop:=
 ∀aI,bT ty Wg τ w aI->∃g' es,stepG P main g aI=.go g' aI es/\g'.status=.running/\(∀e∈es,zdN e=true)/\K main ph (n9 d es) τ g' aI
def st (v wt:Nat):Value:=.int .u64 ((v:Int)*KK+wt)
def Ij (w:aE)(a:Nat):Prop:=w.heap[a]? =some (.chan 0 #[] false 0 0 false)
def mF (main:Bool)(l:L)(d:Nat)(τ:cF)(g:bC)(w:aE):Prop:=
 match A.act l with
 | .send c ok pub nx=>g.offers=none/\∃v z τ',(∀aI,bT ty Wg τ w aI->stepG P main g aI=.comm g #[scase c v z] true .send aI #[])/\ok v/\(∀b,τ'.own b->τ.own b)/\τ'.still=τ.still/\(∀b,τ'.pass b->τ.pass b\/τ.own b)/\
  (∀a∈pub v,τ.own a/\¬τ'.own a/\¬τ'.still a/\Ij w a)/\K main (.usr (nx v)) d τ' (o9 g aA) w
 | .recv c ok nx sh=>g.offers=none/\∃z b,(∀aI,bT ty Wg τ w aI->stepG P main g aI=.comm g #[rcase c z] true (.recv b) aI #[])/\(∀v,ok v->∀aI,bT ty Wg τ w aI->(∀a∈A.got l v,a<aI.heap.size/\¬τ.own a/\¬τ.still a)->K main (.usr (nx v)) d τ (o9 g (recvd b v true)) aI)/\(A.cl l->K main (.usr sh) d τ (o9 g (recvd b z false)) w)
 | .close c nx=>mayWake P g=true/\τ.pass c/\∀aI,bT ty Wg τ w aI->∀s r,aI.heap[c]? =some (.chan 0 #[] false s r false)->
  ∃g',stepG P main g aI=.go g' (aI.setChan c 0 #[] true s r false) (closeEvents c)/\g'.status=.running/\K main (.usr nx) d τ g' (aI.setChan c 0 #[] true s r false)
 | .add nx=>∀aI,bT ty Wg τ w aI->∀v:Nat,v<2147483647->gD ty Wg aI (v*KK) 0->
  ∃g',stepG P main g aI=.go g' (aI.setCell (stA Wg) (st (v+1) 0)) #[rd (stA Wg),wr (stA Wg)]/\g'.status=.running/\K main (.usr nx) d τ g' (aI.setCell (stA Wg) (st (v+1) 0))
 | .spawn pub lc nx=>d=0/\∀aI,bT ty Wg τ w aI->∃g' child τm τc,stepG P main g aI=.spawn g' child aI #[]/\g'.status=.running/\child.status=.running/\
  (∀b,τm.own b\/τc.own b->τ.own b)/\(∀b,τm.still b\/τc.still b->τ.still b\/τ.own b)/\(∀b,τm.pass b\/τc.pass b->τ.pass b\/τ.own b\/τ.still b)/\
  (∀b,τm.own b->¬τc.own b/\¬τc.still b/\¬τc.pass b)/\(∀b,τc.own b->¬τm.still b/\¬τm.pass b)/\
  (∀a∈pub,τ.own a/\Ij aI a/\¬τm.own a/\¬τm.still a/\¬τc.own a/\¬τc.still a)/\K main (.usr nx) 0 τm g' aI/\K false (.usr lc) 0 τc child aI
 | .done=>d=0/\main=false/\(∀aI,bT ty Wg τ w aI->A.dep l aI)/\∀aI,bT ty Wg τ w aI->∃g',stepG P main g aI=.go g' aI #[mk (.releaseMerge (stA Wg))]/\g'.status=.running/\K main (.rel l) 0 τ g' aI
 | .wait=>∀aI,bT ty Wg τ w aI->∀v:Nat,v<2147483648->gD ty Wg aI (v*KK) 0->∃g',stepG P main g aI=.go g' aI #[rd (stA Wg)]/\g'.status=.running/\
  (v=0->K main .w5 d τ g' aI)/\(v≠0->K main (.w2 v) d τ g' aI)
 | .note can=>∃l',can l'/\K main (.usr l') d τ g w
def zN (main:Bool)(ph:Ph L)(d:Nat)(τ:cF)(g:bC)(w:aE):Prop:=
 match ph with
 | .gone| .quit _=>False
 | .usr l=>mF P ty Wg A K main l d τ g w
 | .rel l=>∀aI,bT ty Wg τ w aI->∀v wt:Nat,wt<=1->v<2147483647->gD ty Wg aI ((v+1:Nat)*KK+wt) 0->
  ∃g',stepG P main g aI=.go g' (aI.setCell (stA Wg) (st v wt)) #[rd (stA Wg),wr (stA Wg)]/\g'.status=.running/\0<d/\
   ((v=0/\wt=1)->K main (.l1 l) d τ g' (aI.setCell (stA Wg) (st v wt)))/\(¬(v=0/\wt=1)->∃q,QuitsD P q d g')
 | .l1 l=>∀aI,bT ty Wg τ w aI->gD ty Wg aI 1 0->∃g',stepG P main g aI=.go g' aI #[rd (stA Wg)]/\g'.status=.running/\0<d/\K main (.l2 l) d τ g' aI
 | .l2 l=>∀aI,bT ty Wg τ w aI->gD ty Wg aI 1 0->∃g',stepG P main g aI=.go g' (aI.setCell (stA Wg) (st 0 0)) #[wr (stA Wg)]/\g'.status=.running/\0<d/\K main (.l3 l) d τ g' (aI.setCell (stA Wg) (st 0 0))
 | .l3 l=>mayWake P g=true/\∀aI,bT ty Wg τ w aI->gD ty Wg aI 0 0->∃g',stepG P main g aI=.go g' (aI.setCell (smA Wg) (.int .u32 1)) (semEvents (smA Wg))/\g'.status=.running/\0<d/\∃q,QuitsD P q d g'
 | .w1 b=>∀aI,bT ty Wg τ w aI->∀v:Nat,v<b->v<2147483648->gD ty Wg aI (v*KK) 0->∃g',stepG P main g aI=.go g' aI #[rd (stA Wg)]/\g'.status=.running/\
  (v=0->K main .w5 d τ g' aI)/\(v≠0->K main (.w2 v) d τ g' aI)
 | .w2 vs=>∀aI,bT ty Wg τ w aI->∀v:Nat,v<2147483648->gD ty Wg aI (v*KK) 0->
  (v=vs->∃g',stepG P main g aI=.go g' (aI.setCell (stA Wg) (st v 1)) #[rd (stA Wg),wr (stA Wg)]/\g'.status=.running/\K main .w3 d τ g' (aI.setCell (stA Wg) (st v 1)))/\
  (v<vs->∃g',stepG P main g aI=.go g' aI #[rd (stA Wg)]/\g'.status=.running/\K main (.w1 vs) d τ g' aI)
 | .w3=>g.offers=none/\∀aI,bT ty Wg τ w aI->((∃x,gD ty Wg aI x 0)->stepG P main g aI=.go {g with status:=.blocked} aI #[])/\
  (gD ty Wg aI 0 1->∃g',stepG P main g aI=.go g' (aI.setCell (smA Wg) (.int .u32 0)) (semEvents (smA Wg))/\g'.status=.running/\K main .w4 d τ g' (aI.setCell (smA Wg) (.int .u32 0)))
 | .w4=>∀aI,bT ty Wg τ w aI->gD ty Wg aI 0 0->∃g',stepG P main g aI=.go g' aI #[rd (stA Wg)]/\g'.status=.running/\K main .w5 d τ g' aI
 | .w5=>d=0/\∀aI,bT ty Wg τ w aI->(∃q ch,A.Inv q ch/\q 0=.waits/\(∀i l,q i≠ .run l)/\∀i l,q i=.over l->A.dep l aI)->
  ∃g',stepG P main g aI=.go g' aI #[mk (.acquire (stA Wg))]/\g'.status=.running/\Fin g' aI
def Nq (main:Bool)(ph:Ph L)(d:Nat)(τ:cF)(g:bC)(w:aE):Prop:=
 match ph with
 | .gone| .quit _=>False
 | .rel _| .l1 _| .l2 _| .l3 _=>zaP P ty Wg K main ph d τ g w
 |_=>zei P ty Wg K main ph d τ g w
end
def o7 {L:Type}(P:bS)(ty:aM)(Wg:Nat)(A:jU L)(Fin:bC->aE->Prop):Rk->Bool->Ph L->Nat->cF->bC->aE->Prop
 | .mk ι f,main,ph,d,τ,g,w=>g.status=.running/\
  (
   Nq P ty Wg (λm ph d τ g w=>∃i,o7 P ty Wg A Fin (f i) m ph d τ g w) main ph d τ g w\/
   zN P ty Wg A Fin (λm ph d τ g w=>∃i,o7 P ty Wg A Fin (f i) m ph d τ g w) main ph d τ g w)
abbrev Cp:=Sum Nat Rk
def Cl:Cp->Cp->Prop:=Sum.Lex (·<·) Rk.Child
def Cl.wf:WellFounded Cl:=by
 have hl:∀n:Nat,Acc Cl (.inl n):=λn=>by
  induction n using Nat.strongRecOn with
  |_ n ih=>exact⟨_,λy h=>by cases h with|inl h=>exact ih _ h⟩
 refine⟨λx=>?_⟩
 cases x with
 |inl n=>exact hl n
 |inr r=>
  induction r using Rk.wf.induction with
  |_ r ih=>exact⟨_,λy h=>by cases h with|inr h=>exact ih _ h|sep=>exact hl _⟩
def Zc (n:Nat)(f' f:Nat->Cp):Prop:=∃i,i<=n/\Cl (f' i) (f i)/\∀j,j<i->f' j=f j
def Zc.wf:∀n,WellFounded (Zc n):=by
 intro n
 induction n with
 |zero=>
  have:∀c,Acc Cl c->∀f:Nat->Cp,f 0=c->Acc (Zc 0) f:=by
   intro c hc
   induction hc with
   |intro c _ ih=>
    intro f hf;refine⟨_,λf' h=>?_⟩;obtain⟨i,hi,hl,_⟩:=h;have:i=0:=aC;subst this;exact ih _ (hf▸hl) f' rfl
  exact⟨λf=>this _ (Cl.wf.apply _) f rfl⟩
 |succ n ih=>
  have:∀zfs,Acc (Zc n) zfs->∀c,Acc Cl c->∀f:Nat->Cp,(∀j,j<=n->f j=zfs j)->f (n+1)=c->Acc (Zc (n+1)) f:=by
   intro zfs zdp
   induction zdp with
   |intro zfs _ zCi=>
    intro c hc
    induction hc with
    |intro c _ zIX=>
     intro f hf Gw;refine⟨_,λf' h=>?_⟩;obtain⟨i,hi,hl,he⟩:=h;rcases nC n i with aN|Aq
     .have:i=n+1:=aC
      subst this;exact zIX _ (Gw▸hl) f' (λj hj=>(he j aC).trans (hf j hj)) rfl
     .refine zCi f' ⟨i,Aq,(hf i Aq)▸hl,λj hj=>(he j hj).trans (hf j aC)⟩ _ (Cl.wf.apply (f' (n+1))) f' (λj _=>rfl) rfl
  exact⟨λf=>this f (ih.apply f) _ (Cl.wf.apply _) f (λ_ _=>rfl) rfl⟩
abbrev Mu:=Nat×(Nat->Cp)
def Mu.lt (x y:Mu):Prop:=∃i,i<=y.1/\Cl (x.2 i) (y.2 i)/\(∀j,j<i->x.2 j=y.2 j)/\(i≠0->x.1=y.1)
def Mu.wf:WellFounded Mu.lt:=by
 have:∀c,Acc Cl c->∀n (f:Nat->Cp),f 0=c->Acc Mu.lt (n,f):=by
  intro c hc
  induction hc with
  |intro c _ ih=>
   intro n f
   induction f using(Zc.wf n).induction with
   |_ f zCt=>
    intro hf;refine⟨_,λy h=>?_⟩;obtain⟨n',f'⟩:=y;obtain⟨i,hi,hl,he,hn⟩:=h;simp only at hi hl he hn;by_cases h0:i=0
    .subst h0
     exact ih _ (hf▸hl) n' f' rfl
    .have:=hn h0
     subst this;exact zCt f' ⟨i,hi,hl,he⟩ ((he 0 aC).trans hf)
 exact⟨λx=>this _ (Cl.wf.apply _) x.1 x.2 rfl⟩
def run_to {P:bS}{α:Type _}{r:α->α->Prop}(wf:WellFounded r)(Inv:α->zcR->lU->Prop)(O4:zcR->lU->Prop)
 (h:∀μ m t,Inv μ m t->∃m' ops,stepT P m=(.next m',ops)/\(O4 m' (t++ops)\/∃μ',r μ' μ/\Inv μ' m' (t++ops))):
 ∀μ m t,Inv μ m t->∃n m' t',runNT P n m t=(.next m',t')/\O4 m' t':=by
 intro μ
 induction μ using wf.induction with
 |_ μ ih=>
  intro m t hI;obtain⟨m',ops,hs,hg|⟨μ',hr,zkF⟩⟩:=h μ m t hI
  .exact⟨1,m',t++ops,by simp[runNT,hs],hg⟩
  .obtain⟨n,zBK,t',h1,h2⟩:=ih μ' hr m' (t++ops) zkF
   exact⟨n+1,zBK,t',by rw[runNT_succ_next hs];exact h1,h2⟩
section
variable {L:Type}{P:bS}{ty:aM}{Wg:Nat}{A:jU L}{Fin:bC->aE->Prop}
variable {τ τ':cF}{w aI eW:aE}
def bT.refl:bT ty Wg τ w w:=⟨rfl,rfl,rfl,aX _,λ_ _=>rfl,id⟩
def bT.trans (h:bT ty Wg τ w aI)(k:bT ty Wg τ aI eW):bT ty Wg τ w eW:=
 ⟨k.tape.trans h.tape,k.os.trans h.os,k.output.trans h.output,eG h.size k.size,λb hb=>(k.keep b hb).trans (h.keep b hb),λx=>k.live (h.live x)⟩
def bT.mono (h:bT ty Wg τ w aI)(hs:∀b,τ'.own b\/τ'.still b->τ.own b\/τ.still b):bT ty Wg τ' w aI:=
 ⟨h.tape,h.os,h.output,h.size,λb hb=>h.keep b (hs b hb),h.live⟩
def zw4 (ty:aM)(Wg:Nat)(K:Bool->Ph L->Nat->cF->bC->aE->Prop):Prop:=
 ∀m ph d τ g w aI,K m ph d τ g w->bT ty Wg τ w aI->K m ph d τ g aI
variable {K:Bool->Ph L->Nat->cF->bC->aE->Prop}
def mF.rely (hK:zw4 ty Wg K){main:Bool}{l:L}{d:Nat}{g:bC}(h:mF P ty Wg A K main l d τ g w)(s:bT ty Wg τ w aI):mF P ty Wg A K main l d τ g aI:=by
 unfold mF at*;split
 .rename_i c ok pub nx e
  simp only[e] at h;obtain⟨ho,v,z,τ',h1,h2,h3,h4,K8,h5,h6⟩:=h
  exact⟨ho,v,z,τ',λeW lT=>h1 eW (s.trans lT),h2,h3,h4,K8,λa ha=>⟨(h5 a ha).1,(h5 a ha).2.1,(h5 a ha).2.2.1,(s.keep a (.inl (h5 a ha).1)).trans (h5 a ha).2.2.2⟩,
   hK _ _ _ _ _ _ _ h6 (s.mono λb hb=>hb.imp (h3 b) (λx=>h4▸x))⟩
 .rename_i c ok nx sh e
  simp only[e] at h;obtain⟨ho,z,b,h1,h2,h3⟩:=h;exact⟨ho,z,b,λeW lT=>h1 eW (s.trans lT),λv hv eW lT hg=>h2 v hv eW (s.trans lT) hg,λx=>hK _ _ _ _ _ _ _ (h3 x) s⟩
 .rename_i c nx e
  simp only[e] at h;exact⟨h.1,h.2.1,λeW lT=>h.2.2 eW (s.trans lT)⟩
 .rename_i nx e
  simp only[e] at h;exact λeW lT=>h eW (s.trans lT)
 .rename_i pub lc nx e
  simp only[e] at h;exact⟨h.1,λeW lT=>h.2 eW (s.trans lT)⟩
 .rename_i e
  simp only[e] at h;exact⟨h.1,h.2.1,λeW lT=>h.2.2.1 eW (s.trans lT),λeW lT=>h.2.2.2 eW (s.trans lT)⟩
 .rename_i e
  simp only[e] at h;exact λeW lT=>h eW (s.trans lT)
 .rename_i can e
  simp only[e] at h;obtain⟨l',h1,h2⟩:=h;exact⟨l',h1,hK _ _ _ _ _ _ _ h2 s⟩
def zN.rely (hK:zw4 ty Wg K){main:Bool}{ph:Ph L}{d:Nat}{g:bC}(h:zN P ty Wg A Fin K main ph d τ g w)(s:bT ty Wg τ w aI):zN P ty Wg A Fin K main ph d τ g aI:=by
 cases ph with
 |gone=>exact h
 |quit l=>exact h
 |usr l=>exact mF.rely hK h s
 |l3 l=>exact⟨h.1,λeW lT=>h.2 eW (s.trans lT)⟩
 |w3=>exact⟨h.1,λeW lT=>h.2 eW (s.trans lT)⟩
 |w5=>exact⟨h.1,λeW lT=>h.2 eW (s.trans lT)⟩
 |rel l=>exact λeW lT=>h eW (s.trans lT)
 |l1 l=>exact λeW lT=>h eW (s.trans lT)
 |l2 l=>exact λeW lT=>h eW (s.trans lT)
 |w1 b=>exact λeW lT=>h eW (s.trans lT)
 |w2 v=>exact λeW lT=>h eW (s.trans lT)
 |w4=>exact λeW lT=>h eW (s.trans lT)
def Nq.rely {main:Bool}{ph:Ph L}{d:Nat}{g:bC}(h:Nq P ty Wg K main ph d τ g w)(s:bT ty Wg τ w aI):Nq P ty Wg K main ph d τ g aI:=by
 cases ph<;>first|exact h|exact λeW lT=>h eW (s.trans lT)
def o7.rely:∀{r:Rk} {main:Bool} {ph:Ph L} {d:Nat} {τ:cF} {g:bC} {w aI:aE},o7 P ty Wg A Fin r main ph d τ g w->bT ty Wg τ w aI->o7 P ty Wg A Fin r main ph d τ g aI:=by
 intro r
 induction r with
 |mk ι f ih=>
  intro main ph d τ g w aI h s;refine⟨h.1,h.2.imp (λx=>x.rely s) λx=>x.rely (λm ph d τ g w aI ⟨i,hi⟩ s=>⟨i,ih i hi s⟩) s⟩
end
def nE (l:Loc)(b:Nat):Prop:=match l with| .cell a=>a.block=b| .obj r=>r=b|_=>False
variable {l:Loc}{b:Nat}
def zcI (h:nE l b):l.isMemory=true:=by cases l<;>first|rfl|exact h.elim
def L6 {b':Nat}(h:nE l b)(h':nE l b'):b=b':=by cases l<;>first|exact h.symm.trans h'|exact h.elim
def Handed (Wg:Nat)(t:lU)(i:Nat):Prop:=∃r,t.act? r=some (.mark (.releaseMerge (stA Wg)))/\t.heard r/\Before t i r
variable {i:Nat}
def Handed.app {Wg:Nat}{t:lU}(u:lU)(h:Handed Wg t i):Handed Wg (t++u) i:=by
 obtain⟨r,h1,h2,h3⟩:=h;have hr:=zfW h1;exact⟨r,by rw[zan hr];exact h1,(zkO hr).2 h2,h3.app u⟩
structure TI (Wg n:Nat)(own pas:Nat->Nat->Prop)(live:Nat->Prop)(Shun:Loc->Prop)(B:Nat)(t:lU):Prop where
 clean:∀said,¬Race said t
 own:∀k b,live k->own k b->∀i a,touchAt t i=some a->nE a.loc b->N6 t k i
 pas:∀k b,live k->pas k b->∀i a,touchAt t i=some a->nE a.loc b->a.write=true->N6 t k i
 grp:∀i a,touchAt t i=some a->nE a.loc Wg->a.kind=.atomic\/(a.kind=.said/\t.g? i=some 0)
 all:∀i a,touchAt t i=some a->a.loc.isMemory=true->(∃k,live k/\N6 t k i)\/Handed Wg t i\/((Shun a.loc\/nE a.loc Wg)/\a.kind=.atomic)
 over:∀i g,t.g? i=some g->g≠0->t.counts i->(∃k,live k/\N6 t k i)\/Handed Wg t i\/∃j,t.g? j=some 0/\ze6 t i j
 norel:∀k,t.act? k≠some (.mark (.release (stA Wg)))
 low:∀op∈t,op.act.low B
 above:∀j,n<=j->iA t j=0
section
variable {Wg n:Nat}{own own' pas Vm:Nat->Nat->Prop}{live live':Nat->Prop}{Shun:Loc->Prop}{B B':Nat}{t:lU}
def zuA (t:lU)(y:Tm):touchAt (t++ #[y]) t.size=y.act.touch? :=touchAt_of aO
variable {y:Tm}{a:Touch}
def Hi {t:lU}{i:Nat}(h:touchAt (t++ #[y]) i=some a):(i<t.size/\touchAt t i=some a)\/(i=t.size/\y.act.touch? =some a):=by
 obtain⟨op,ho,Md⟩:=zeH h;rcases getElem?_append_cases ho with⟨hi,vH⟩|⟨hi,hu⟩
 .exact .inl ⟨hi,by rw[touchAt_of vH];exact Md⟩
 .have aN:=X5 ho
  simp only[Sn,Eh,pT,rR] at aN;have:i=t.size:=aC;subst this;rw[zuA] at h;exact .inr ⟨rfl,h⟩
def zpg {B:Nat}{x:MemAct}{b:Nat}(h:x.low B)(ht:x.touch? =some a)(hb:nE a.loc b):b<B:=by
 cases x with
 |access e=>
  simp only[qQ,gA] at ht;subst ht;obtain⟨loc,wr,sy⟩:=e;cases loc<;>first|exact hb▸h|exact hb.elim
 |mark m=>cases m<;>simp only[qQ,gA,reduceCtorEq] at ht<;>(subst ht;exact hb▸h)
 |_=>simp[qQ] at ht
def TI.lowB (h:TI Wg n own pas live Shun B t){i:Nat}{b:Nat}(ht:touchAt t i=some a)(hb:nE a.loc b):b<B:=by
 obtain⟨op,ho,Md⟩:=zeH ht;exact zpg (h.low op (zlb ho)) Md hb
def TI.less (h:TI Wg n own pas live Shun B t)(ho:∀k b,live k->own' k b->own k b\/B<=b)(hp:∀k b,live k->Vm k b->pas k b\/own k b\/B<=b)(hB:B<=B'):TI Wg n own' Vm live Shun B' t:=
 ⟨
  h.clean,λk b hk hb i a ha hl=>(ho k b hk hb).elim (λx=>h.own k b hk x i a ha hl) (λx=>absurd (h.lowB ha hl) aC),
  λk b hk hb i a ha hl hw=>(hp k b hk hb).elim (λx=>h.pas k b hk x i a ha hl hw) (λx=>x.elim (λx=>h.own k b hk x i a ha hl) (λx=>absurd (h.lowB ha hl) aC)),
  h.grp,h.all,h.over,h.norel,λop hop=>ztN hB (h.low op hop),h.above⟩
def zg4 {t:lU}{k:Nat}(hg:y.g=k):N6 (t++ #[y]) k t.size:=⟨t.size,y,aO,hg,.inl rfl⟩
def zfu {t:lU}{i g:Nat}(hg:(t++ #[y]).g? i=some g)(hc:(t++ #[y]).counts i):(i<t.size/\t.g? i=some g/\t.counts i)\/(i=t.size/\y.g=g):=by
 obtain⟨x,hx,sN⟩:=hc;have aN:i<(t++ #[y]).size:=by
  unfold Di at hg;obtain⟨z,hz,_⟩:=xK.1 hg;exact X5 hz
 simp only[Sn,Eh,pT,rR] at aN;rcases nC i t.size with hi|hi
 .refine .inl ⟨hi,by rw[Sl hi] at hg;exact hg,x,?_,sN.1,sN.2.imp id λz=>(zkO hi).1 z⟩
  rw[zan hi] at hx;exact hx
 .have:i=t.size:=aC
  subst this;refine .inr ⟨rfl,?_⟩;simpa[Di] using hg
def TI.push (h:TI Wg n own pas live Shun B t){k:Nat}(hk:live k)(sX:k<n)(hg:y.g=k)
 (ht:∀a,y.act.touch? =some a->(∃b,b≠Wg/\nE a.loc b/\(own k b\/(pas k b/\a.write=false))/\∀k',live k'->k'≠k->¬own k' b/\(a.write=true->¬pas k' b))\/(nE a.loc Wg/\(a.kind=.atomic\/(a.kind=.said/\k=0))/\∀k',live k'->¬own k' Wg/\¬pas k' Wg)\/a.loc.isMemory=false)
 (hr:y.act≠ .mark (.release (stA Wg))) (hl:y.act.low B):TI Wg n own pas live Shun B (t++ #[y]):=by
 refine⟨λsaid=>?_,λk' b cO hb i a ha jI=>?_,λk' b cO hb i a ha jI hw=>?_,λi a ha jI=>?_,λi a ha hm=>?_,λi g Ef aT hc=>?_,λi e=>?_,λop hop=>?_,λj hj=>?_⟩
 .refine zoU (g:=k) (h.clean said) (λop hop=>by simp at hop;rw[hop];exact hg) λi a ha op hop b hb hc=>?_
  have:op=y:=by simpa using hop
  subst this;obtain⟨Xi,zkB,jH,fS⟩:=hc;rcases ht b hb with⟨bl,mQ,jI,Pn,_⟩|⟨jI,Jc,_⟩|Hn
  .rcases Pn with Pn|⟨Pn,zBf⟩
   .exact h.own k bl hk Pn i a ha (Xi▸jI)
   .exact h.pas k bl hk Pn i a ha (Xi▸jI) (by simpa[zBf] using jH)
  .have Ev:=h.grp i a ha (Xi▸jI)
   rcases Jc with Jc|⟨Jc,jC⟩
   .rw[Jc] at fS
    rcases Ev with Ev|⟨Ev,_⟩<;>rw[Ev] at fS<;>simp at fS
   .rcases Ev with Ev|⟨Ev,S8⟩
    .rw[Ev,Jc] at fS;simp at fS
    .obtain⟨zwg,zqi,_⟩:=zeH ha
     have:zwg.g=0:=by simpa[Di,zqi] using S8
     have:=knows_own zqi;rw[‹zwg.g=0›] at this;exact jC▸this
  .rw[Xi,Hn] at zkB;cases zkB
 .rcases Hi ha with⟨_,fM⟩|⟨rfl,fM⟩
  .exact(h.own k' b cO hb i a fM jI).app _
  .by_cases fS:k'=k
   .exact fS▸zg4 hg
   .rcases ht a fM with⟨bl,mQ,Cv,_,fR⟩|⟨Cv,_,fR⟩|Hn
    .exact absurd (L6 jI Cv▸hb) (fR k' cO fS).1
    .exact absurd (L6 jI Cv▸hb) (fR k' cO).1
    .rw[zcI jI] at Hn;cases Hn
 .rcases Hi ha with⟨_,fM⟩|⟨rfl,fM⟩
  .exact(h.pas k' b cO hb i a fM jI hw).app _
  .by_cases fS:k'=k
   .exact fS▸zg4 hg
   .rcases ht a fM with⟨bl,mQ,Cv,_,fR⟩|⟨Cv,_,fR⟩|Hn
    .exact absurd (L6 jI Cv▸hb) ((fR k' cO fS).2 hw)
    .exact absurd (L6 jI Cv▸hb) (fR k' cO).2
    .rw[zcI jI] at Hn;cases Hn
 .rcases Hi ha with⟨hi,fM⟩|⟨rfl,fM⟩
  .exact(h.grp i a fM jI).imp id λx=>⟨x.1,by rw[Sl hi];exact x.2⟩
  .rcases ht a fM with⟨bl,mQ,Cv,_,fR⟩|⟨Cv,Jc,_⟩|Hn
   .exact absurd (L6 Cv jI) mQ
   .exact Jc.imp id λx=>⟨x.1,by simp[Di,hg,x.2]⟩
   .rw[zcI jI] at Hn;cases Hn
 .rcases Hi ha with⟨_,fM⟩|⟨rfl,fM⟩
  .rcases h.all i a fM hm with⟨k',cO,hkn'⟩|hh|hs
   .exact .inl ⟨k',cO,hkn'.app _⟩
   .exact .inr (.inl (hh.app _))
   .exact .inr (.inr hs)
  .exact .inl ⟨k,hk,zg4 hg⟩
 .rcases zfu Ef hc with⟨hi,hgi',kI⟩|⟨rfl,hgi'⟩
  .rcases h.over i g hgi' aT kI with⟨k',cO,hkn'⟩|hh|⟨j,hj,hb⟩
   .exact .inl ⟨k',cO,hkn'.app _⟩
   .exact .inr (.inl (hh.app _))
   .refine .inr (.inr ⟨j,?_,hb_app _ hb⟩)
    have uC:j<t.size:=by
     unfold Di at hj;obtain⟨z,hz,_⟩:=xK.1 hj;exact X5 hz
    rw[Sl uC];exact hj
  .exact .inl ⟨k,hk,zg4 hg⟩
 .have aN:=zfW e
  simp only[Sn,Eh,pT,rR] at aN;rcases nC i t.size with hi|hi
  .rw[zan hi] at e;exact h.norel i e
  .have:i=t.size:=aC
   subst this;exact hr (by simpa[zxj] using e)
 .rcases zsV.1 hop with hop|hop
  .exact h.low op hop
  .have:op=y:=by simpa using hop
   exact this▸hl
 .rw[Nl t (g':=k) aC _ (λop hop=>by simp at hop;rw[hop];exact hg)];exact h.above j hj
def TI.idle (h:TI Wg n own pas live Shun B t)(sX:y.g<n)
 (ht:∀a,y.act.touch? =some a->nE a.loc Wg/\a.kind=.atomic/\0<iA t y.g/\∀k',live k'->¬own k' Wg/\¬pas k' Wg)
 (hr:y.act≠ .mark (.release (stA Wg))) (hl:y.act.low B):TI Wg n own pas live Shun B (t++ #[y]):=by
 have zbU:∀a,y.act.touch? =some a->¬(t++ #[y]).heard t.size:=by
  rintro a ha ⟨g,hg,hd⟩;have:y.g=g:=by simpa[Di] using hg
  rw[zgQ (aX _),<-this] at hd;have:=(ht a ha).2.2.1;unfold iA at this;omega
 refine⟨λsaid=>?_,λk' b cO hb i a ha jI=>?_,λk' b cO hb i a ha jI hw=>?_,λi a ha jI=>?_,λi a ha hm=>?_,λi g Ef aT hc=>?_,λi e=>?_,λop hop=>?_,λj hj=>?_⟩
 .refine zoU (g:=y.g) (h.clean said) (λop hop=>by simp at hop;rw[hop]) λi a ha op hop b hb hc=>?_
  have:op=y:=by simpa using hop
  subst this;obtain⟨Xi,zkB,jH,fS⟩:=hc;obtain⟨jI,Jc,_,_⟩:=ht b hb;have Ev:=h.grp i a ha (Xi▸jI);rw[Jc] at fS;rcases Ev with Ev|⟨Ev,_⟩<;>rw[Ev] at fS<;>simp at fS
 .rcases Hi ha with⟨_,fM⟩|⟨rfl,fM⟩
  .exact(h.own k' b cO hb i a fM jI).app _
  .obtain⟨Cv,_,_,fR⟩:=ht a fM
   exact absurd (L6 jI Cv▸hb) (fR k' cO).1
 .rcases Hi ha with⟨_,fM⟩|⟨rfl,fM⟩
  .exact(h.pas k' b cO hb i a fM jI hw).app _
  .obtain⟨Cv,_,_,fR⟩:=ht a fM
   exact absurd (L6 jI Cv▸hb) (fR k' cO).2
 .rcases Hi ha with⟨hi,fM⟩|⟨rfl,fM⟩
  .exact(h.grp i a fM jI).imp id λx=>⟨x.1,by rw[Sl hi];exact x.2⟩
  .exact .inl (ht a fM).2.1
 .rcases Hi ha with⟨_,fM⟩|⟨rfl,fM⟩
  .rcases h.all i a fM hm with⟨k',cO,hkn'⟩|hh|hs
   .exact .inl ⟨k',cO,hkn'.app _⟩
   .exact .inr (.inl (hh.app _))
   .exact .inr (.inr hs)
  .exact .inr (.inr ⟨.inr (ht a fM).1,(ht a fM).2.1⟩)
 .obtain⟨x,hx,zek,zCU⟩:=id hc
  rcases zfu Ef hc with⟨hi,hgi',kI⟩|⟨rfl,hgi'⟩
  .rcases h.over i g hgi' aT kI with⟨k',cO,hkn'⟩|hh|⟨j,hj,hb⟩
   .exact .inl ⟨k',cO,hkn'.app _⟩
   .exact .inr (.inl (hh.app _))
   .refine .inr (.inr ⟨j,?_,hb_app _ hb⟩)
    have uC:j<t.size:=by
     unfold Di at hj;obtain⟨z,hz,_⟩:=xK.1 hj;exact X5 hz
    rw[Sl uC];exact hj
  .have hy:y.act.touch? =some x:=by rw[<-zuA t y];exact hx
   exact(zCU.elim (λz=>z (ht x hy).2.1) (zbU x hy)).elim
 .have aN:=zfW e
  simp only[Sn,Eh,pT,rR] at aN;rcases nC i t.size with hi|hi
  .rw[zan hi] at e;exact h.norel i e
  .have:i=t.size:=aC
   subst this;exact hr (by simpa[zxj] using e)
 .rcases zsV.1 hop with hop|hop
  .exact h.low op hop
  .have:op=y:=by simpa using hop
   exact this▸hl
 .rw[Nl t (g':=y.g) aC _ (λop hop=>by simp at hop;rw[hop])];exact h.above j hj
def TI.release (h:TI Wg n own pas live Shun B t){k:Nat}(sX:k<n)(hg:y.g=k)(hy:y.act=.mark (.releaseMerge (stA Wg)))(hd:iA t k=0)
 (zhC:Wg<B) (mU:∀j,live' j->live j) (Ie:∀j,live j->live' j\/j=k):TI Wg n own pas live' Shun B (t++ #[y]):=by
 have h1:=h.idle (y:=y) aC (λa ha=>by rw[hy] at ha;simp[qQ] at ha) (by rw[hy];simp) (by rw[hy];exact zhC);have Cw:(t++ #[y])[t.size]? =some y:=aO;have Ci:∀i,N6 t k i->Handed Wg (t++ #[y]) i:=λi hi=>
  ⟨t.size,by rw[act?_of Cw,hy],⟨k,by simp[Di,hg],by rw[zgQ (aX _)];exact hd⟩,.inr (hi.hb_new (aX _) Cw hg)⟩
 have zes:Handed Wg (t++ #[y]) t.size:=⟨t.size,by rw[act?_of Cw,hy],⟨k,by simp[Di,hg],by rw[zgQ (aX _)];exact hd⟩,.inl rfl⟩;refine⟨h1.clean,λk' b cO=>h1.own k' b (mU k' cO),λk' b cO=>h1.pas k' b (mU k' cO),h1.grp,λi a ha hm=>?_,λi g Ef aT hc=>?_,h1.norel,h1.low,h1.above⟩
 .rcases Hi ha with⟨_,fM⟩|⟨rfl,fM⟩
  .rcases h.all i a fM hm with⟨k',cO,hkn'⟩|hh|hs
   .rcases Ie k' cO with x|rfl
    .exact .inl ⟨k',x,hkn'.app _⟩
    .exact .inr (.inl (Ci i hkn'))
   .exact .inr (.inl (hh.app _))
   .exact .inr (.inr hs)
  .rw[hy] at fM;simp[qQ] at fM
 .rcases zfu Ef hc with⟨hi,hgi',kI⟩|⟨rfl,hgi'⟩
  .rcases h.over i g hgi' aT kI with⟨k',cO,hkn'⟩|hh|⟨j,hj,hb⟩
   .rcases Ie k' cO with x|rfl
    .exact .inl ⟨k',x,hkn'.app _⟩
    .exact .inr (.inl (Ci i hkn'))
   .exact .inr (.inl (hh.app _))
   .refine .inr (.inr ⟨j,?_,hb_app _ hb⟩)
    have uC:j<t.size:=by
     unfold Di at hj;obtain⟨z,hz,_⟩:=xK.1 hj;exact X5 hz
    rw[Sl uC];exact hj
  .exact .inr (.inl zes)
def TI.fork (h:TI Wg n own pas live Shun B t){x:Tm}(h0:live 0)(zFg:0<n)(hx:x.g=0/\x.act=.go n)(hy:y.g=n/\y.act=.start)(hd:iA t 0=0)
 (mU:∀j,live' j↔(live j\/j=n)) (yU:¬live n) (Nh:∀k b,live k->k≠0->own' k b->own k b) (zkT:∀k b,live k->k≠0->Vm k b->pas k b)
 (ho:∀b,own' 0 b\/own' n b->own 0 b) (hp:∀b,Vm 0 b\/Vm n b->own 0 b\/pas 0 b):TI Wg (n+1) own' Vm live' Shun B (t++ #[x,y]):=by
 have zES:=h.above n (aX _);have e2:t++ #[x,y]=(t++ #[x])++ #[y]:=by apply Ik;simp
 have hn:TI Wg (n+1) own pas live Shun B t:=⟨h.clean,h.own,h.pas,h.grp,h.all,h.over,h.norel,h.low,λj hj=>h.above j aC⟩;have h1:=hn.idle (y:=x) (by rw[hx.1];omega) (λa ha=>by rw[hx.2] at ha;simp[qQ] at ha) (by rw[hx.2];simp) (by rw[hx.2];trivial);have h2:=h1.idle (y:=y) (by rw[hy.1];omega) (λa ha=>by rw[hy.2] at ha;simp[qQ] at ha) (by rw[hy.2];simp) (by rw[hy.2];trivial);rw[<-e2] at h2;have old:∀{i:Nat} {a:Touch},touchAt (t++ #[x,y]) i=some a->touchAt t i=some a:=by
  intro i a ha;rw[e2] at ha;rcases Hi ha with⟨_,fM⟩|⟨_,fM⟩
  .rcases Hi fM with⟨_,ha''⟩|⟨_,ha''⟩
   .exact ha''
   .rw[hx.2] at ha'';simp[qQ] at ha''
  .rw[hy.2] at fM;simp[qQ] at fM
 have fk:∀{i:Nat},N6 t 0 i->N6 (t++ #[x,y]) n i:=λ{i} hi=>Go.ConcN.fork_knows hx hy hd zES hi;refine⟨h2.clean,λk b hk hb i a ha jI=>?_,λk b hk hb i a ha jI hw=>?_,h2.grp,λi a ha hm=>?_,λi g Ef aT hc=>?_,h2.norel,h2.low,h2.above⟩
 .rcases(mU k).1 hk with cO|rfl
  .by_cases jC:k=0
   .subst jC;exact h2.own 0 b h0 (ho b (.inl hb)) i a ha jI
   .exact h2.own k b cO (Nh k b cO jC hb) i a ha jI
  .exact fk (h.own 0 b h0 (ho b (.inr hb)) i a (old ha) jI)
 .rcases(mU k).1 hk with cO|rfl
  .by_cases jC:k=0
   .subst jC
    exact(hp b (.inl hb)).elim (λz=>h2.own 0 b h0 z i a ha jI) (λz=>h2.pas 0 b h0 z i a ha jI hw)
   .exact h2.pas k b cO (zkT k b cO jC hb) i a ha jI hw
  .exact(hp b (.inr hb)).elim (λz=>fk (h.own 0 b h0 z i a (old ha) jI)) (λz=>fk (h.pas 0 b h0 z i a (old ha) jI hw))
 .exact(h2.all i a ha hm).imp (λ⟨k,hk,sX⟩=>⟨k,(mU k).2 (.inl hk),sX⟩) id
 .exact(h2.over i g Ef aT hc).imp (λ⟨k,hk,sX⟩=>⟨k,(mU k).2 (.inl hk),sX⟩) id
def TI.acquire (h:TI Wg n own pas live Shun B t)(zFg:0<n)(hg:y.g=0)(hy:y.act=.mark (.acquire (stA Wg)))(hd:iA t 0=0)(zhC:Wg<B)(Ie:∀j,live j->j=0):
 Past (λl=>Shun l\/nE l Wg) B (t++ #[y])/\∀j,n<=j->iA (t++ #[y]) j=0:=by
 have h1:=h.idle (y:=y) aC (λa ha=>by rw[hy] at ha;simp[qQ] at ha) (by rw[hy];simp) (by rw[hy];exact zhC);have Cw:(t++ #[y])[t.size]? =some y:=aO;have hh:(t++ #[y]).heard t.size:=⟨0,by simp[Di,hg],by rw[zgQ (aX _)];exact hd⟩;have got:∀i,i<t.size->Handed Wg t i->ze6 (t++ #[y]) i t.size:=by
  rintro i hi ⟨r,j8,Vs,Ts⟩;have Iq:=zfW j8;have zJb:ze6 (t++ #[y]) r t.size:=.single (.inr ⟨.marked Iq (.inr (by rw[zan Iq];exact j8)) (by rw[act?_of Cw,hy]) (λk nZ vA=>h1.norel k),(zkO Iq).2 Vs,hh⟩);exact(Ts.app _).hb zJb
 have zAG:∀i,ze6 (t++ #[y]) i t.size->N6 (t++ #[y]) 0 i:=λi hb=>⟨t.size,y,Cw,hg,.inr hb⟩;refine⟨⟨h1.clean,λi a ha hm=>?_,λi g Ef aT hc=>?_,?_,h1.low⟩,h1.above⟩
 .rcases Hi ha with⟨hi,fM⟩|⟨rfl,fM⟩
  .rcases h.all i a fM hm with⟨k,hk,sX⟩|hh|hs
   .have:=Ie k hk;subst this;exact .inl (sX.app _)
   .exact .inl (zAG i (got i hi hh))
   .exact .inr hs
  .rw[hy] at fM;simp[qQ] at fM
 .rcases zfu Ef hc with⟨hi,hgi',kI⟩|⟨rfl,hgi'⟩
  .rcases h.over i g hgi' aT kI with⟨k,hk,sX⟩|hh|⟨j,hj,hb⟩
   .have:=Ie k hk;subst this
    exact⟨t.size,by simp[Di,hg],sX.hb_new (aX _) Cw hg⟩
   .exact⟨t.size,by simp[Di,hg],got i hi hh⟩
   .refine⟨j,?_,hb_app _ hb⟩
    have uC:j<t.size:=by
     unfold Di at hj;obtain⟨z,hz,_⟩:=xK.1 hj;exact X5 hz
    rw[Sl uC];exact hj
  .exact absurd (hgi'.symm.trans hg) aT
 .rw[Deaf_push];simp[deafStep,hy,hd]
def TI.begin (hP:Past Shun B t)(hB:B<=B')(zad:∀j,n<=j->iA t j=0)(mU:∀j,live j↔j=0)(ho:∀b,own 0 b\/pas 0 b->∀l,nE l b->¬Shun l)
 (hW:B<=Wg):TI Wg n own pas live Shun B' t:=by
 have nI:∀{i:Nat} {a:Touch} {b:Nat},touchAt t i=some a->nE a.loc b->b<B:=λ{i a b} ha hb=>by
  obtain⟨op,ho,Md⟩:=zeH ha;exact zpg (hP.seen op (zlb ho)) Md hb
 refine⟨hP.clean,λk b hk hb i a ha jI=>?_,λk b hk hb i a ha jI hw=>?_,λi a ha jI=>?_,λi a ha hm=>?_,λi g Ef aT hc=>.inr (.inr (hP.over i g Ef aT hc)),λk e=>?_,λop hop=>ztN hB (hP.seen op hop),zad⟩
 .have:=(mU k).1 hk;subst this
  rcases hP.known i a ha (zcI jI) with x|⟨x,_⟩
  .exact x
  .exact absurd x (ho b (.inl hb) _ jI)
 .have:=(mU k).1 hk;subst this
  rcases hP.known i a ha (zcI jI) with x|⟨x,_⟩
  .exact x
  .exact absurd x (ho b (.inr hb) _ jI)
 .have:=nI ha jI;omega
 .exact(hP.known i a ha hm).imp (λx=>⟨0,(mU 0).2 rfl,x⟩) λx=>.inr ⟨.inl x.1,x.2⟩
 .obtain⟨op,ho,Md⟩:=xK.1 e
  have:=hP.seen op (zlb ho);rw[Md] at this;simp only[X6,stA] at this;omega
end
def upd_same {α:Type _}(f:Nat->α)(i:Nat)(x:α):bG f i x i=x:=by simp[bG]
def upd_ne {α:Type _}(f:Nat->α){j:Nat}(x:α)(h:j≠i):bG f i x j=f j:=by simp[bG,h]
section
variable {L:Type}
def Ph.live:Ph L->Prop| .usr _| .w1 _| .w2 _| .w3| .w4| .w5=>True|_=>False
def Ph.waits:Ph L->Prop| .w1 _| .w2 _| .w3| .w4| .w5=>True|_=>False
def Ph.pre:Ph L->Bool| .usr _| .rel _=>true|_=>false
def Ph.last:Ph L->Prop| .l1 _| .l2 _| .l3 _=>True|_=>False
structure Td (L:Type) where
 ph:Ph L
 r:Cp
 τ:cF
 g:bC
def o8 (p:Nat->Ph L):Nat->Nat
 |0=>0
 |n+1=>o8 p n+(if n≠0/\(p n).pre=true then 1 else 0)
def zD (A:jU L)(p:Nat->Ph L):Nat:=match p 0 with| .usr l=>if A.pend l then 1 else 0|_=>0
def vv (A:jU L)(p:Nat->Ph L)(n:Nat):Nat:=o8 p n+zD A p
def gP (A:jU L)(ty:aM)(Wg:Nat)(p:Nat->Ph L)(n:Nat)(w:aE):Prop:=
 match p 0 with
 | .usr _=>gD ty Wg w (vv A p n*KK) 0/\∀i,¬(p i).last
 | .w1 b=>gD ty Wg w (vv A p n*KK) 0/\(∀i,¬(p i).last)/\vv A p n<b
 | .w2 vs=>gD ty Wg w (vv A p n*KK) 0/\(∀i,¬(p i).last)/\vv A p n<=vs/\0<vs
 | .w3=>(0<vv A p n/\gD ty Wg w (vv A p n*KK+1) 0/\∀i,¬(p i).last)\/
  (vv A p n=0/\∃i l,(∀j,(p j).last->j=i)/\(((p i=.l1 l\/p i=.l2 l)/\gD ty Wg w 1 0)\/(p i=.l3 l/\gD ty Wg w 0 0)))\/
  (vv A p n=0/\(∀i,¬(p i).last)/\gD ty Wg w 0 1)
 | .w4| .w5=>vv A p n=0/\(∀i,¬(p i).last)/\gD ty Wg w 0 0
 |_=>False
def zpY (p:Nat->Ph L){i n:Nat}(x:Ph L)(h:n<=i):o8 (bG p i x) n=o8 p n:=by
 induction n with
 |zero=>rfl
 |succ n ih=>simp only[o8,ih aC,upd_ne p x (show n≠i by omega)]
def zew (p:Nat->Ph L)(n:Nat)(x:Ph L):o8 (bG p 0 x) n=o8 p n:=by
 induction n with
 |zero=>rfl
 |succ n ih=>
  simp only[o8,ih];by_cases h:n=0
  .simp[h]
  .rw[upd_ne p x h]
def zge (p:Nat->Ph L){i n:Nat}(x:Ph L)(h:i<n)(h0:i≠0):o8 (bG p i x) n+(if(p i).pre=true then 1 else 0)=o8 p n+(if x.pre=true then 1 else 0):=by
 induction n with
 |zero=>omega
 |succ n ih=>
  simp only[o8];by_cases hi:i=n
  .subst hi
   rw[zpY p x (aX _),upd_same];simp only[ne_eq,h0,not_false_eq_true,true_and];omega
  .have:=ih aC
   rw[upd_ne p x (λe=>hi e.symm)];omega
def pre_le (ph:Ph L)(q:Prop)[Decidable q]:(if q/\ph.pre=true then 1 else 0)<=ph.proj.c:=by
 cases ph<;>simp[Ph.pre,Ph.proj,Pj.c]
 all_goals(split<;>omega)
def zJA (A:jU L)(p:Nat->Ph L)(n:Nat)(h:0<n):vv A p n<=num (λi=>(p i).proj) n:=by
 have key:∀n,0<n->o8 p n+(p 0).proj.c<=num (λi=>(p i).proj) n:=by
  intro n
  induction n with
  |zero=>omega
  |succ n ih=>
   intro _;by_cases hn:n=0
   .subst hn;simp[o8,num]
   .have:=ih aC
    have h2:=pre_le (p n) (n≠0);simp only[o8,num];omega
 have h1:=key n h;have h2:zD A p<=(p 0).proj.c:=by
  unfold zD;cases p 0<;>simp only[Ph.proj,Pj.c]<;>first|omega|(split<;>omega)
 unfold vv;omega
def lQ (x g:bC):Prop:=x.status=.running/\x.frame=g.frame/\x.callers=g.callers/\x.dying=g.dying
def lQ.self {g:bC}(h:g.status=.running):lQ g g:=⟨h,rfl,rfl,rfl⟩
def lQ.step {P:bS}{main:Bool}{x g:bC}(h:lQ x g)(w:aE):stepG P main x w=stepG P main g w:=stepG_same h.2.1 h.2.2.1 h.2.2.2 w
variable (P:bS)(ty:aM)(Wg:Nat)(A:jU L)(Fin:bC->aE->Prop)
def zdV (main:Bool)(T:Td L)(x:bC)(w:aE):Prop:=
 ∃l cs sh,T.ph=.usr l/\x=parked T.g cs sh/\(∀aI,bT ty Wg T.τ w aI->stepG P main T.g aI=.comm T.g cs true sh aI #[])/\
  ((∃c ok pub nx v z,A.act l=.send c ok pub nx/\cs=#[scase c v z]/\sh=.send)\/(∃c ok nx s z b,A.act l=.recv c ok nx s/\cs=#[rcase c z]/\sh=.recv b))
def zme (T:Td L)(x:bC):Prop:=T.ph=.w3/\x={T.g with status:=.blocked}/\T.g.offers=none
def Sits (i:Nat)(T:Td L)(d:Nat)(x:bC)(w:aE):Prop:=
 match T.ph with
 | .gone| .quit _=>∃q,T.r=.inl q/\QuitsD P q d x
 |_=>∃r,T.r=.inr r/\o7 P ty Wg A Fin r (i==0) T.ph d T.τ T.g w/\(lQ x T.g\/zdV P ty Wg A (i==0) T x w\/zme T x)
def Ph.leaves:Ph L->Prop| .gone| .quit _=>True|_=>False
def Hc {P:bS}{ty:aM}{Wg:Nat}{A:jU L}{Fin:bC->aE->Prop}{i:Nat}{T:Td L}{d:Nat}{x:bC}{w:aE}(h:T.ph.leaves):
 Sits P ty Wg A Fin i T d x w↔∃q,T.r=.inl q/\QuitsD P q d x:=by
 obtain⟨ph,r,τ,g⟩:=T;cases ph<;>first|exact Iff.rfl|exact h.elim
def pF {P:bS}{ty:aM}{Wg:Nat}{A:jU L}{Fin:bC->aE->Prop}{i:Nat}{T:Td L}{d:Nat}{x:bC}{w:aE}(h:¬T.ph.leaves):
 Sits P ty Wg A Fin i T d x w↔∃r,T.r=.inr r/\o7 P ty Wg A Fin r (i==0) T.ph d T.τ T.g w/\(lQ x T.g\/zdV P ty Wg A (i==0) T x w\/zme T x):=by
 obtain⟨ph,r,τ,g⟩:=T;cases ph<;>first|exact Iff.rfl|exact absurd trivial h
variable {P:bS}{ty:aM}{Wg:Nat}{A:jU L}{Fin:bC->aE->Prop}
def zqf (a a' g:bC)(cs:Array znw)(sh:Mq)(w:aE):woken P a a' w (parked g cs sh)=parked g cs sh\/woken P a a' w (parked g cs sh)={parked g cs sh with status:=.running}:=by
 unfold woken;split
 .unfold zgc
  simp only[parked];split
  .exact .inr rfl
  .exact .inl rfl
 .exact .inl rfl
def woken_running {a a' x:bC}{w:aE}(h:x.status=.running):woken P a a' w x=x:=woken_run h
def Sits.other {i:Nat}{T:Td L}{d:Nat}{x:bC}{w w':aE}(h:Sits P ty Wg A Fin i T d x w)(s:bT ty Wg T.τ w w')(a a':bC):Sits P ty Wg A Fin i T d (woken P a a' w' x) w':=by
 by_cases hl:T.ph.leaves
 .rw[Hc hl] at h⊢
  obtain⟨q,hq,hQ⟩:=h;exact⟨q,hq,by rw[zjs hQ];exact hQ⟩
 .rw[pF hl] at h⊢
  obtain⟨r,hr,hB,hx⟩:=h;refine⟨r,hr,hB.rely s,?_⟩;rcases hx with hx|⟨l,cs,sh,h1,rfl,h3,h4⟩|⟨h1,rfl,h3⟩
  .rw[woken_running hx.1];exact .inl hx
  .rcases zqf (P:=P) a a' T.g cs sh w' with e|e
   .rw[e];exact .inr (.inl ⟨l,cs,sh,h1,rfl,λaI iS=>h3 aI (s.trans iS),h4⟩)
   .rw[e];exact .inl ⟨rfl,rfl,rfl,rfl⟩
  .unfold woken
   split
   .left
    simp only[zgc,h3];exact⟨rfl,rfl,rfl,rfl⟩
   .exact .inr (.inr ⟨h1,rfl,h3⟩)
def Sits.rely {i:Nat}{T:Td L}{d:Nat}{x:bC}{w w':aE}(h:Sits P ty Wg A Fin i T d x w)(s:bT ty Wg T.τ w w'):Sits P ty Wg A Fin i T d x w':=by
 by_cases hl:T.ph.leaves
 .rw[Hc hl] at h⊢;exact h
 .rw[pF hl] at h⊢
  obtain⟨r,hr,hB,hx⟩:=h;refine⟨r,hr,hB.rely s,hx.imp id (Or.imp ?_ id)⟩;rintro⟨l,cs,sh,h1,h2,h3,h4⟩;exact⟨l,cs,sh,h1,h2,λaI iS=>h3 aI (s.trans iS),h4⟩
def Sits.status {i:Nat}{T:Td L}{d:Nat}{x:bC}{w:aE}(h:Sits P ty Wg A Fin i T d x w):x.status=.running\/x.status=.finished\/x.status=.blocked:=by
 by_cases hl:T.ph.leaves
 .rw[Hc hl] at h
  obtain⟨q,hq,hQ⟩:=h;exact hQ.status.imp id .inl
 .rw[pF hl] at h
  obtain⟨r,hr,hB,hx|⟨l,cs,sh,h1,rfl,h3,h4⟩|⟨h1,rfl,h3⟩⟩:=h
  .exact .inl hx.1
  .exact .inr (.inr rfl)
  .exact .inr (.inr rfl)
structure Stat (n:Nat)(w:aE)(T:Nat->Td L)(ch:rP):Prop where
 n0:0<n
 ou:∀i,n<=i->(T i).ph=.gone
 role0:(T 0).ph.live
 role:∀i,i≠0->¬(T i).ph.waits
 nil:∀i,(T i).ph=.gone->∀b,¬(T i).τ.own b/\¬(T i).τ.still b/\¬(T i).τ.pass b
 sep:∀i j b,i≠j->(T i).τ.own b->¬(T j).τ.own b/\¬(T j).τ.still b/\¬(T j).τ.pass b
 bnd:∀i b,(T i).τ.own b\/(T i).τ.still b->b<w.heap.size/\b≠Wg/\ch b=none
 pas:∀i b,(T i).τ.pass b->b<w.heap.size/\b≠Wg
 depo:∀i l,(T i).ph.proj=.over l->∀aI,bT ty Wg (T i).τ w aI->A.dep l aI
 chan:∀c b,ch c=some b->c≠Wg/\∃s r,w.heap[c]? =some (.chan 0 #[] b s r false)
 grp:gP A ty Wg (λi=>(T i).ph) n w
 inv:A.Inv (λi=>(T i).ph.proj) ch
structure Fu (gs:Array bC)(w:aE)(t:lU)(T:Nat->Td L)(ch:rP)(Shun:Loc->Prop):Prop where
 sit:∀(i:Nat) (x:bC),gs[i]? =some x->Sits P ty Wg A Fin i (T i) (iA t i) x w
 slp:∀(i j:Nat) (gi gj:bC) (c:Nat) (v z z':aF) (sh xD:Mq),gs[i]? =some (parked gi #[scase c v z] sh)->gs[j]? =some (parked gj #[rcase c z'] xD)->False
 slpC:∀(i:Nat) (gi:bC) (c:Nat) (z:aF) (sh:Mq),gs[i]? =some (parked gi #[rcase c z] sh)->ch c≠some true
 slpW:∀(x:bC),gs[0]? =some x->(T 0).ph=.w3->x.status=.blocked->¬gD ty Wg w 0 1
 tr:TI Wg gs.size (λi=>(T i).τ.own) (λi b=>(T i).τ.still b\/(T i).τ.pass b) (λi=>(T i).ph.live) Shun w.heap.size t
def Oi (g:bC):Bool:=match g.status with| .running=>true|_=>false
def mu (gs:Array bC)(T:Nat->Td L):Mu:=(gs.size,λj=>if j<gs.size then(T j).r else .inl (gs.countP Oi))
end
section
variable {L:Type}{P:bS}{ty:aM}{Wg:Nat}{A:jU L}{Fin:bC->aE->Prop}
variable {fn:aP}{pos:String}{es:Array oC}
def zEK {g:Nat}{op:Tm}(h:op∈vQ g fn pos es):op.g=g:=by
 rw[Xt] at h;obtain⟨e,he,rfl⟩:=Array.mem_map.1 h;rfl
def OkL (Wg:Nat)(own pas:Nat->Prop)(k B:Nat)(e:oC):Prop:=
 (∀a,(jN e).touch? =some a->(∃b,b≠Wg/\nE a.loc b/\(own b\/(pas b/\a.write=false)))\/(nE a.loc Wg/\(a.kind=.atomic\/(a.kind=.said/\k=0)))\/a.loc.isMemory=false)/\
 jN e≠ .mark (.release (stA Wg))/\(jN e).low B
def TI.events {n:Nat}{own pas:Nat->Nat->Prop}{live:Nat->Prop}{Shun:Loc->Prop}{B:Nat}{k:Nat}(hk:live k)(sX:k<n)
 (hs:∀k' b,live k'->k'≠k->own k b->¬own k' b/\¬pas k' b) (hp:∀k' b,live k'->k'≠k->pas k b->¬own k' b) (hW:∀k',live k'->¬own k' Wg/\¬pas k' Wg)
 (fn:aP) (pos:String):∀(es:List oC) {t:lU},TI Wg n own pas live Shun B t->(∀e∈es,OkL Wg (own k) (pas k) k B e)->TI Wg n own pas live Shun B (t++vQ k fn pos es.toArray)
 |[],t,h,_=>by simpa[vQ] using h
 |e::es,t,h,xZ=>by
  have e1:t++vQ k fn pos (e::es).toArray=(t++ #[{g:=k,fn,pos,act:=.ofEvent e}])++vQ k fn pos es.toArray:=by
   rw[Xt,Xt];apply Ik;simp
  rw[e1];obtain⟨h1,h2,h3⟩:=xZ e aO;refine TI.events hk sX hs hp hW fn pos es (h.push hk sX rfl (λa ha=>?_) h2 h3) λe' Nw=>xZ e' (by simp[Nw]);rcases h1 a ha with⟨b,hb,jI,Pn⟩|⟨jI,Jc⟩|hm
  .refine .inl ⟨b,hb,jI,Pn,λk' cO aT=>?_⟩
   rcases Pn with ho|⟨zkT,hw⟩
   .exact⟨(hs k' b cO aT ho).1,λ_=>(hs k' b cO aT ho).2⟩
   .exact⟨hp k' b cO aT zkT,λx=>by rw[hw] at x;cases x⟩
  .exact .inr (.inl ⟨jI,Jc,hW⟩)
  .exact .inr (.inr hm)
variable {e:oC}
def okL_evT {own still pas:Nat->Prop}{k B:Nat}(h:EvT Wg (k==0) own still e)(Iv:∀b,still b->pas b)(hb:∀b,own b\/still b->b<B/\b≠Wg)(hW:Wg<B):OkL Wg own pas k B e:=by
 obtain⟨loc,w,sy⟩:=e
 cases loc with
 |cell a=>
  simp only[EvT] at h;refine⟨λx hx=>?_,by simp[jN],?_⟩
  .simp only[jN,qQ,gA] at hx
   subst hx;exact .inl ⟨a.block,(hb _ (h.imp id (·.1))).2,rfl,h.imp id λx=>⟨Iv _ x.1,x.2⟩⟩
  .exact(hb _ (h.imp id (·.1))).1
 |obj r=>
  simp only[EvT] at h
  cases w<;>cases sy<;>refine⟨λx hx=>?_,by simp[jN],(hb _ (h.imp id (·.1))).1⟩<;>simp only[jN,qQ,gA,reduceCtorEq] at hx<;>
   (subst hx;exact .inl ⟨r,(hb _ (h.imp id (·.1))).2,rfl,h.imp id λx=>⟨Iv _ x.1,x.2⟩⟩)
 |output=>exact h.elim
 |goroutines=>exact h.elim
 |mark m=>
  cases m<;>simp only[EvT] at h<;>try exact h.elim
  case read a=>
   refine⟨λx hx=>?_,by simp[jN],by simpa[jN,X6,h.2] using hW⟩;simp only[jN,qQ,gA] at hx;subst hx;exact .inr (.inl ⟨h.2,.inr ⟨rfl,by simpa using h.1⟩⟩)
  case write a=>
   refine⟨λx hx=>?_,by simp[jN],by simpa[jN,X6,h.2] using hW⟩;simp only[jN,qQ,gA] at hx;subst hx;exact .inr (.inl ⟨h.2,.inr ⟨rfl,by simpa using h.1⟩⟩)
  all_goals exact⟨λx hx=>by simp[jN,qQ] at hx,by simp[jN],by simp[jN,X6]⟩
def zgw {own pas:Nat->Prop}{k B:Nat}{a:bL}{b:Bool}(ha:a.block=Wg)(hW:Wg<B):OkL Wg own pas k B ⟨.cell a,b,true⟩:=by
 refine⟨λx hx=>?_,by simp[jN],by simpa[jN,X6,Loc.low,ha] using hW⟩;simp only[jN,qQ,gA] at hx;subst hx;exact .inr (.inl ⟨ha,.inl rfl⟩)
def zdF {own pas:Nat->Prop}{k B:Nat}(h:e.mute=true):OkL Wg own pas k B e:=by
 refine⟨λx hx=>(by rw[zky h] at hx;cases hx),?_,low_mute h B⟩;obtain⟨loc,w,sy⟩:=e;cases loc<;>simp_all [zdN];rename_i m;cases m<;>simp_all [jN]
def TI.deafs {n:Nat}{own pas:Nat->Nat->Prop}{live:Nat->Prop}{Shun:Loc->Prop}{B:Nat}{k:Nat}(sX:k<n)(hW:∀k',live k'->¬own k' Wg/\¬pas k' Wg)
 (fn:aP) (pos:String):∀(es:List oC) {t:lU},TI Wg n own pas live Shun B t->
  (∀(l r:List oC) (e:oC),es=l++e::r->(∀a,(jN e).touch? =some a->nE a.loc Wg/\a.kind=.atomic/\0<n9 (iA t k) l.toArray)/\jN e≠ .mark (.release (stA Wg))/\(jN e).low B)->
  TI Wg n own pas live Shun B (t++vQ k fn pos es.toArray)
 |[],t,h,_=>by simpa[vQ] using h
 |e::es,t,h,xZ=>by
  have e1:t++vQ k fn pos (e::es).toArray=(t++ #[{g:=k,fn,pos,act:=.ofEvent e}])++vQ k fn pos es.toArray:=by
   rw[Xt,Xt];apply Ik;simp
  rw[e1];obtain⟨h1,h2,h3⟩:=xZ [] es e rfl;refine TI.deafs sX hW fn pos es (h.idle sX (λa ha=>⟨(h1 a ha).1,(h1 a ha).2.1,(h1 a ha).2.2,hW⟩) h2 h3) λl r e' Nw=>?_;have hd:iA (t++ #[({g:=k,fn,pos,act:=.ofEvent e}:Tm)]) k=n9 (iA t k) #[e]:=by
   have:=Deaf_own t k fn pos #[e];rw[Xt] at this;simpa using this
  have:=xZ (e::l) r e' (by rw[Nw];rfl);rw[hd];refine⟨λa ha=>⟨(this.1 a ha).1,(this.1 a ha).2.1,?_⟩,this.2⟩;have h5:=(this.1 a ha).2.2
  rwa [zqT] at h5
variable {t:lU}
def TI.mutes {n:Nat}{own pas:Nat->Nat->Prop}{live:Nat->Prop}{Shun:Loc->Prop}{B:Nat}{k:Nat}(h:TI Wg n own pas live Shun B t)(sX:k<n)(hW:∀k',live k'->¬own k' Wg/\¬pas k' Wg)
 (fn:aP) (pos:String)  (xZ:∀e∈es,zdN e=true):TI Wg n own pas live Shun B (t++vQ k fn pos es):=by
 obtain⟨l⟩:=es;refine h.deafs sX hW fn pos l λx r e he=>?_;have hm:=xZ e (by simp[he]);have:=zdF (Wg:=Wg) (own:=own k) (pas:=pas k) (k:=k) (B:=B) hm;exact⟨λa ha=>(by rw[zky hm] at ha;cases ha),this.2.1,this.2.2⟩
def Wc {gs gs':Array bC}{T T':Nat->Td L}{i:Nat}(hs:i≠0->gs'.size=gs.size)(h0:0<gs'.size)(hi:i<gs.size)(gV:i<gs'.size)(hc:Cl (T' i).r (T i).r)(he:∀j,j<i->(T' j).r=(T j).r):Mu.lt (mu gs' T') (mu gs T):=by
 refine⟨i,by simp only[mu];omega,?_,λj hj=>?_,λh=>by simpa[mu] using hs h⟩
 .simp only[mu,if_pos hi,if_pos gV];exact hc
 .simp only[mu,if_pos (show j<gs.size by omega),if_pos (show j<gs'.size by omega)];exact he j hj
def mu_dec' {gs gs':Array bC}{T:Nat->Td L}(hs:gs'.size=gs.size)(hc:gs'.countP Oi<gs.countP Oi):Mu.lt (mu gs' T) (mu gs T):=by
 refine⟨gs.size,by simp[mu],?_,λj hj=>?_,λh=>by simpa[mu] using hs⟩
 .simp only[mu,hs,Cr,if_false]
  exact .inl hc
 .simp only[mu,hs,if_pos hj]
def Fu.go {gs:Array bC}{w w':aE}{T:Nat->Td L}{ch tN:rP}{Shun:Loc->Prop}(h:Fu (P:=P) (ty:=ty) (Wg:=Wg) (A:=A) (Fin:=Fin) gs w t T ch Shun){i:Nat}{x g':bC}{Ti:Td L}
 (hi:gs[i]? =some x) (zji:Sits P ty Wg A Fin i Ti (n9 (iA t i) es) g' w') (nL:g'.status≠ .blocked) (zjW:∀j,j≠i->bT ty Wg (T j).τ w w')
 (hC:∀(j:Nat) (gj:bC) (c:Nat) (z:aF) (sh:Mq),gs[j]? =some (parked gj #[rcase c z] sh)->woken P x g' w' (parked gj #[rcase c z] sh)=parked gj #[rcase c z] sh->tN c≠some true)
 (hW:i≠0->∀x0,gs[0]? =some x0->(T 0).ph=.w3->x0.status=.blocked->(woken P x g' w' x0).status=.blocked->¬gD ty Wg w' 0 1)
 (zhJ:TI Wg gs.size (λk=>(bG T i Ti k).τ.own) (λk b=>(bG T i Ti k).τ.still b\/(bG T i Ti k).τ.pass b) (λk=>(bG T i Ti k).ph.live) Shun w'.heap.size (t++vQ i fn pos es)):
 Fu (P:=P) (ty:=ty) (Wg:=Wg) (A:=A) (Fin:=Fin) ((gs.map (woken P x g' w')).setIfInBounds i g') w' (t++vQ i fn pos es) (bG T i Ti) tN Shun:=by
 have aN:=(dP.1 hi).1;have get:∀(j:Nat) (y:bC),((gs.map (woken P x g' w')).setIfInBounds i g')[j]? =some y->(j=i/\y=g')\/(j≠i/\∃y0,gs[j]? =some y0/\y=woken P x g' w' y0):=by
  intro j y hj;by_cases eR:i=j
  .subst eR
   rw[Ki (by simpa using aN)] at hj;exact .inl ⟨rfl,(cE hj).symm⟩
  .rw[jV eR,yB] at hj
   obtain⟨y0,h0,rfl⟩:=xK.1 hj;exact .inr ⟨λe=>eR e.symm,y0,h0,rfl⟩
 have back:∀(j:Nat) (gj:bC) (cs:Array znw) (sh:Mq),((gs.map (woken P x g' w')).setIfInBounds i g')[j]? =some (parked gj cs sh)->gs[j]? =some (parked gj cs sh)/\woken P x g' w' (parked gj cs sh)=parked gj cs sh:=by
  intro j gj cs sh hj;rcases get j _ hj with⟨_,e⟩|⟨aT,y0,h0,e⟩
  .exact absurd (by rw[<-e];rfl) nL
  .have hs:=h.sit j y0 h0
   by_cases hl:(T j).ph.leaves
   .rw[Hc hl] at hs
    obtain⟨q,_,hQ⟩:=hs;rw[zjs hQ] at e;have:=hQ.status;rw[<-e] at this;simp[parked] at this
   .rw[pF hl] at hs
    obtain⟨r,_,_,hx|⟨l,Vd,xD,_,rfl,_,_⟩|⟨_,rfl,ho⟩⟩:=hs
    .rw[woken_running hx.1] at e
     have:=hx.1;rw[<-e] at this;simp[parked] at this
    .rcases zqf (P:=P) x g' (T j).g Vd xD w' with e2|e2
     .rw[e2] at e;rw[h0,e,e2];exact⟨rfl,rfl⟩
     .rw[e2] at e
      have:(parked gj cs sh).status=.running:=by rw[e]
      simp[parked] at this
    .have:(parked gj cs sh).offers=none:=by
      rw[e];unfold woken;split
      .simp[zgc,ho]
      .exact ho
     simp[parked] at this
 refine⟨λj y hj=>?_,λa b ga gb c v z z' sh xD ha hb=>?_,λj gj c z sh hj=>?_,λy hy xC aY=>?_,by simpa using zhJ⟩
 .rcases get j y hj with⟨rfl,rfl⟩|⟨aT,y0,h0,rfl⟩
  .rw[upd_same,Deaf_own];exact zji
  .rw[upd_ne T Ti aT,Nl t (g':=i) (λe=>aT e.symm) (vQ i fn pos es) (λop hop=>zEK hop)]
   exact(h.sit j y0 h0).other (zjW j aT) _ _
 .exact h.slp a b ga gb c v z z' sh xD (back a ga _ _ ha).1 (back b gb _ _ hb).1
 .exact hC j gj c z sh (back j gj _ _ hj).1 (back j gj _ _ hj).2
 .rcases get 0 y hy with⟨e,rfl⟩|⟨aT,y0,h0,rfl⟩
  .exact absurd aY nL
  .rw[upd_ne T Ti aT] at xC
   have hb:y0.status=.blocked:=by
    rcases(h.sit 0 y0 h0).status with hs|hs|hs
    .rw[woken_running hs,hs] at aY;cases aY
    .unfold woken at aY
     split at aY
     .rw[again_running _ (.inr hs),hs] at aY;cases aY
     .rw[hs] at aY;cases aY
    .exact hs
   exact hW (λe=>aT e.symm) y0 h0 xC hb aY
end
section
variable {L:Type}{P:bS}{ty:aM}{Wg:Nat}{A:jU L}{Fin:bC->aE->Prop}
def bT.of_aside {τ:cF}{c:Nat}{w w':aE}(h:Ls c w w')(hc:¬τ.own c/\¬τ.still c)(hl:WgLive ty Wg w->WgLive ty Wg w'):bT ty Wg τ w w':=
 ⟨h.tape,h.os,h.output,Nat.le_of_eq h.size.symm,λb hb=>h.block b (λe=>by subst e;exact hb.elim hc.1 hc.2),hl⟩
def Yp {c:Nat}{w w':aE}(h:Ls c w w')(hc:c≠Wg):WgLive ty Wg w->WgLive ty Wg w':=λ⟨a,b,x⟩=>⟨a,b,(h.block Wg (λe=>hc e.symm)).trans x⟩
def gP.live {p:Nat->Ph L}{n:Nat}{w:aE}(h:gP A ty Wg p n w):WgLive ty Wg w:=by
 unfold gP at h;split at h
 .exact⟨_,_,h.1⟩
 .exact⟨_,_,h.1⟩
 .exact⟨_,_,h.1⟩
 .rcases h with⟨_,h,_⟩|⟨_,_,_,_,⟨_,h⟩|⟨_,h⟩⟩|⟨_,_,h⟩<;>exact⟨_,_,h⟩
 .exact⟨_,_,h.2.2⟩
 .exact⟨_,_,h.2.2⟩
 .exact h.elim
def WgLive.lt {w:aE}(h:WgLive ty Wg w):Wg<w.heap.size:=by
 obtain⟨_,_,h⟩:=h;exact(dP.1 h).1
def gP.of_block {p:Nat->Ph L}{n:Nat}{w w':aE}(h:gP A ty Wg p n w)(e:w'.heap[Wg]? =w.heap[Wg]?):gP A ty Wg p n w':=by
 have key:∀a b,gD ty Wg w a b->gD ty Wg w' a b:=λa b x=>e.trans x;unfold gP at*;split
 all_goals(rename_i hp;simp only[hp] at h)
 .exact⟨key _ _ h.1,h.2⟩
 .exact⟨key _ _ h.1,h.2⟩
 .exact⟨key _ _ h.1,h.2⟩
 .exact h.imp (λx=>⟨x.1,key _ _ x.2.1,x.2.2⟩) (Or.imp (λ⟨a,i,l,b,c⟩=>⟨a,i,l,b,c.imp (λx=>⟨x.1,key _ _ x.2⟩) (λx=>⟨x.1,key _ _ x.2⟩)⟩) λx=>⟨x.1,x.2.1,key _ _ x.2.2⟩)
 .exact⟨h.1,h.2.1,key _ _ h.2.2⟩
 .exact⟨h.1,h.2.1,key _ _ h.2.2⟩
def Wa (T:Nat->Td L)(i:Nat)(Ti:Td L):(λj=>(bG T i Ti j).ph.proj)=bG (λj=>(T j).ph.proj) i Ti.ph.proj:=by
 funext j;by_cases h:j=i
 .subst h;simp[upd_same]
 .simp[upd_ne _ _ h]
def Yk (T:Nat->Td L)(i:Nat)(Ti:Td L):(λj=>(bG T i Ti j).ph)=bG (λj=>(T j).ph) i Ti.ph:=by
 funext j;by_cases h:j=i
 .subst h;simp[upd_same]
 .simp[upd_ne _ _ h]
def zgO {α:Type _}(f:Nat->α)(i:Nat):bG f i (f i)=f:=by
 funext j;by_cases h:j=i
 .subst h;simp[upd_same]
 .simp[upd_ne _ _ h]
variable {ch:rP}
def Stat.same {n:Nat}{w:aE}{T T':Nat->Td L}(h:Stat (ty:=ty) (Wg:=Wg) (A:=A) n w T ch)(hp:∀j,(T' j).ph=(T j).ph)(ht:∀j,(T' j).τ=(T j).τ):Stat (ty:=ty) (Wg:=Wg) (A:=A) n w T' ch:=by
 have e1:(λj=>(T' j).ph)=λj=>(T j).ph:=funext hp;have e2:(λj=>(T' j).ph.proj)=λj=>(T j).ph.proj:=funext λj=>by rw[hp]
 refine⟨h.n0,λi hi=>(hp i).trans (h.ou i hi),by rw[hp];exact h.role0,λi hi=>by rw[hp];exact h.role i hi,λi hi=>by rw[ht];rw[hp] at hi;exact h.nil i hi,λi j b q9 hb=>by rw[ht] at hb⊢;exact h.sep i j b q9 hb,
  λi b hb=>by rw[ht] at hb;exact h.bnd i b hb,λi b hb=>by rw[ht] at hb;exact h.pas i b hb,λi l hi=>by rw[ht];rw[hp] at hi;exact h.depo i l hi,h.chan,by rw[e1];exact h.grp,by rw[e2];exact h.inv⟩
def Stat.suf {n:Nat}{w w':aE}{T:Nat->Td L}(h:Stat (ty:=ty) (Wg:=Wg) (A:=A) n w T ch){i:Nat}(g:zP (T i).τ.own w w'){j:Nat}(hj:j≠i):bT ty Wg (T j).τ w w':=by
 have hl:WgLive ty Wg w->WgLive ty Wg w':=λx=>by
  obtain⟨a,b,hx⟩:=id x;exact⟨a,b,(g.keep Wg x.lt λe=>((h.bnd i Wg (.inl e)).2.1 rfl)).trans hx⟩
 refine⟨g.tape,g.os,g.output,g.size,λb hb=>g.keep b (h.bnd j b hb).1 λe=>?_,hl⟩;have:=h.sep i j b (λe=>hj e.symm) e;exact hb.elim this.1 this.2.1
def Stat.grow {n:Nat}{w w':aE}{T:Nat->Td L}(h:Stat (ty:=ty) (Wg:=Wg) (A:=A) n w T ch){i:Nat}(mU:(T i).ph.live)(g:zP (T i).τ.own w w')(r:Cp)(g':bC):
 Stat (ty:=ty) (Wg:=Wg) (A:=A) n w' (bG T i ⟨(T i).ph,r,(T i).τ.grow w w',g'⟩) ch:=by
 have hp:∀j,(bG T i ⟨(T i).ph,r,(T i).τ.grow w w',g'⟩ j).ph=(T j).ph:=λj=>by
  by_cases hj:j=i
  .subst hj;simp[upd_same]
  .simp[upd_ne _ _ hj]
 have e1:(λj=>(bG T i ⟨(T i).ph,r,(T i).τ.grow w w',g'⟩ j).ph)=λj=>(T j).ph:=funext hp;have e2:(λj=>(bG T i ⟨(T i).ph,r,(T i).τ.grow w w',g'⟩ j).ph.proj)=λj=>(T j).ph.proj:=funext λj=>by rw[hp]
 have hs:=g.size;have zmU:w'.heap[Wg]? =w.heap[Wg]? :=g.keep Wg h.grp.live.lt λe=>((h.bnd i Wg (.inl e)).2.1 rfl);have zoV:∀c b,ch c=some b->c<w.heap.size:=λc b hc=>by
  obtain⟨_,s,r,hh⟩:=h.chan c b hc;exact(dP.1 hh).1
 refine⟨h.n0,λj hj=>(hp j).trans (h.ou j hj),by rw[hp];exact h.role0,λj hj=>by rw[hp];exact h.role j hj,λj hj b=>?_,λa j b q9 hb=>?_,λj b hb=>?_,λj b hb=>?_,λj l hj=>?_,λc b hc=>?_,by rw[e1];exact h.grp.of_block zmU,by rw[e2];exact h.inv⟩
 .rw[hp] at hj
  by_cases eR:j=i
  .subst eR;rw[hj] at mU;exact mU.elim
  .rw[upd_ne _ _ eR];exact h.nil j hj b
 .by_cases Rf:a=i
  .subst Rf
   have eR:j≠a:=λe=>q9 e.symm;rw[upd_same] at hb;rw[upd_ne _ _ eR];rcases hb with hb|⟨hb,_⟩
   .exact h.sep a j b q9 hb
   .exact⟨λe=>by have:=(h.bnd j b (.inl e)).1;omega,λe=>by have:=(h.bnd j b (.inr e)).1;omega,λe=>by have:=(h.pas j b e).1;omega⟩
  .rw[upd_ne _ _ Rf] at hb
   by_cases eR:j=i
   .subst eR
    rw[upd_same];have:=h.sep a j b q9 hb;exact⟨λe=>e.elim this.1 λx=>by have:=(h.bnd a b (.inl hb)).1;omega,this.2⟩
   .rw[upd_ne _ _ eR];exact h.sep a j b q9 hb
 .by_cases eR:j=i
  .subst eR
   rw[upd_same] at hb;rcases hb with(hb|⟨hb,b6⟩)|hb
   .have:=h.bnd j b (.inl hb);exact⟨aC,this.2⟩
   .refine⟨b6,λe=>by have:=h.grp.live.lt;omega,?_⟩
    cases hc:ch b with
    |none=>rfl
    |some x=>have:=zoV b x hc;omega
   .have:=h.bnd j b (.inr hb);exact⟨aC,this.2⟩
  .rw[upd_ne _ _ eR] at hb
   have:=h.bnd j b hb;exact⟨aC,this.2⟩
 .by_cases eR:j=i
  .subst eR
   rw[upd_same] at hb;have:=h.pas j b hb;exact⟨aC,this.2⟩
  .rw[upd_ne _ _ eR] at hb
   have:=h.pas j b hb;exact⟨aC,this.2⟩
 .rw[hp] at hj
  by_cases eR:j=i
  .subst eR
   cases xC:(T j).ph<;>rw[xC] at hj mU<;>first|exact mU.elim|simp[Ph.proj] at hj
  .rw[upd_ne _ _ eR]
   exact λaI iS=>h.depo j l hj aI ((h.suf g eR).trans iS)
 .obtain⟨h1,s,r,h2⟩:=h.chan c b hc
  exact⟨h1,s,r,(g.keep c (zoV c b hc) λe=>by have:=(h.bnd i c (.inl e)).2.2;rw[hc] at this;cases this).trans h2⟩
def Stat.phase {n:Nat}{w w':aE}{T:Nat->Td L}(h:Stat (ty:=ty) (Wg:=Wg) (A:=A) n w T ch){i:Nat}(hg:(T i).ph≠ .gone)(nY:i<n)(a:Ls Wg w w')(ph':Ph L)(r:Cp)(g':bC)
 (xC:ph'≠ .gone) (h0:i=0->ph'.live) (h1:i≠0->¬ph'.waits) (hl:WgLive ty Wg w->WgLive ty Wg w')
 (hd:∀l,ph'.proj=.over l->(T i).ph.proj=.over l\/∀aI,bT ty Wg (T i).τ w aI->A.dep l aI)
 (Ay:gP A ty Wg (bG (λj=>(T j).ph) i ph') n w') (hinv:A.Inv (bG (λj=>(T j).ph.proj) i ph'.proj) ch):
 Stat (ty:=ty) (Wg:=Wg) (A:=A) n w' (bG T i ⟨ph',r,(T i).τ,g'⟩) ch:=by
 have ht:∀j,(bG T i ⟨ph',r,(T i).τ,g'⟩ j).τ=(T j).τ:=λj=>by
  by_cases hj:j=i
  .subst hj;simp[upd_same]
  .simp[upd_ne _ _ hj]
 have sf:∀j,bT ty Wg (T j).τ w w':=λj=>bT.of_aside a ⟨λe=>(h.bnd j Wg (.inl e)).2.1 rfl,λe=>(h.bnd j Wg (.inr e)).2.1 rfl⟩ hl;have cG:=a.size;refine⟨h.n0,λj hj=>?_,?_,λj hj=>?_,λj hj b=>?_,λx j b q9 hb=>?_,λj b hb=>?_,λj b hb=>?_,λj l hj=>?_,λc b hc=>?_,by rw[Yk];exact Ay,by rw[Wa];exact hinv⟩
 .have:j≠i:=aC
  rw[upd_ne _ _ this];exact h.ou j hj
 .by_cases hi:i=0
  .subst hi;rw[upd_same];exact h0 rfl
  .rw[upd_ne _ _ (Ne.symm hi)];exact h.role0
 .by_cases eR:j=i
  .subst eR;rw[upd_same];exact h1 hj
  .rw[upd_ne _ _ eR];exact h.role j hj
 .rw[ht]
  by_cases eR:j=i
  .subst eR;rw[upd_same] at hj;exact absurd hj xC
  .rw[upd_ne _ _ eR] at hj;exact h.nil j hj b
 .rw[ht] at hb⊢;exact h.sep x j b q9 hb
 .rw[ht] at hb;have:=h.bnd j b hb;exact⟨aC,this.2⟩
 .rw[ht] at hb;have:=h.pas j b hb;exact⟨aC,this.2⟩
 .rw[ht]
  by_cases eR:j=i
  .subst eR
   rw[upd_same] at hj;rcases hd l hj with x|x
   .exact λaI iS=>h.depo j l x aI ((sf j).trans iS)
   .exact λaI iS=>x aI ((sf j).trans iS)
  .rw[upd_ne _ _ eR] at hj
   exact λaI iS=>h.depo j l hj aI ((sf j).trans iS)
 .obtain⟨h1,s,r,h2⟩:=h.chan c b hc
  exact⟨h1,s,r,(a.block c h1).trans h2⟩
def Stat.close {n:Nat}{w w':aE}{T:Nat->Td L}(h:Stat (ty:=ty) (Wg:=Wg) (A:=A) n w T ch){i:Nat}(nY:i<n){c:Nat}{x:Bool}(hc:ch c=some x)(a:Ls c w w'){l l':L}(hl:(T i).ph=.usr l)(r:Cp)(g':bC)
 (qF:∃s r,w'.heap[c]? =some (.chan 0 #[] true s r false)) (Ay:gP A ty Wg (bG (λj=>(T j).ph) i (.usr l')) n w) (hinv:A.Inv (bG (λj=>(T j).ph.proj) i (.run l')) (bG ch c (some true))):
 Stat (ty:=ty) (Wg:=Wg) (A:=A) n w' (bG T i ⟨.usr l',r,(T i).τ,g'⟩) (bG ch c (some true)):=by
 have ht:∀j,(bG T i ⟨.usr l',r,(T i).τ,g'⟩ j).τ=(T j).τ:=λj=>by
  by_cases hj:j=i
  .subst hj;simp[upd_same]
  .simp[upd_ne _ _ hj]
 have Aa:=(h.chan c x hc).1;have nc:∀j,¬(T j).τ.own c/\¬(T j).τ.still c:=λj=>⟨λe=>(by have:=(h.bnd j c (.inl e)).2.2;rw[hc] at this;cases this),λe=>(by have:=(h.bnd j c (.inr e)).2.2;rw[hc] at this;cases this)⟩;have sf:∀j,bT ty Wg (T j).τ w w':=λj=>bT.of_aside a (nc j) (Yp a Aa);have cG:=a.size;refine⟨h.n0,λj hj=>?_,?_,λj hj=>?_,λj hj b=>?_,λx j b q9 hb=>?_,λj b hb=>?_,λj b hb=>?_,λj l hj=>?_,λc' b kI=>?_,by rw[Yk];exact Ay.of_block (a.block Wg (Ne.symm Aa)),by rw[Wa];exact hinv⟩
 .have:j≠i:=aC
  rw[upd_ne _ _ this];exact h.ou j hj
 .by_cases hi:i=0
  .subst hi;rw[upd_same];trivial
  .rw[upd_ne _ _ (Ne.symm hi)];exact h.role0
 .by_cases eR:j=i
  .subst eR;rw[upd_same];exact id
  .rw[upd_ne _ _ eR];exact h.role j hj
 .rw[ht]
  by_cases eR:j=i
  .subst eR;rw[upd_same] at hj;cases hj
  .rw[upd_ne _ _ eR] at hj;exact h.nil j hj b
 .rw[ht] at hb⊢;exact h.sep x j b q9 hb
 .rw[ht] at hb
  have:=h.bnd j b hb;refine⟨aC,this.2.1,?_⟩;have aT:b≠c:=λe=>by subst e;exact hb.elim (nc j).1 (nc j).2
  rw[upd_ne _ _ aT];exact this.2.2
 .rw[ht] at hb;have:=h.pas j b hb;exact⟨aC,this.2⟩
 .rw[ht]
  by_cases eR:j=i
  .subst eR;rw[upd_same] at hj;simp[Ph.proj] at hj
  .rw[upd_ne _ _ eR] at hj
   exact λaI iS=>h.depo j l hj aI ((sf j).trans iS)
 .by_cases sN:c'=c
  .subst sN
   rw[upd_same] at kI;obtain⟨s,r,hw⟩:=qF;exact⟨Aa,s,r,by rw[hw,<-cE kI]⟩
  .rw[upd_ne _ _ sN] at kI
   obtain⟨h1,s,r,h2⟩:=h.chan c' b kI;exact⟨h1,s,r,(a.block c' sN).trans h2⟩
end
section
variable {L:Type}{P:bS}{ty:aM}{Wg:Nat}{A:jU L}{Fin:bC->aE->Prop}
def gP.congr {p p':Nat->Ph L}{n n':Nat}{w:aE}(h:gP A ty Wg p n w)(h0:p' 0=p 0\/∃l l',p 0=.usr l/\p' 0=.usr l')(hv:vv A p' n'=vv A p n)(hl:∀j,(p j).last\/(p' j).last->p' j=p j):gP A ty Wg p' n' w:=by
 have nl:(∀i,¬(p i).last)->∀i,¬(p' i).last:=λx i e=>x i (by rw[<-hl i (.inr e)];exact e);unfold gP at*;rcases h0 with h0|⟨l,l',h0,zDV⟩
 .rw[h0,hv]
  split
  all_goals(rename_i hp;simp only[hp] at h)
  .exact⟨h.1,nl h.2⟩
  .exact⟨h.1,nl h.2.1,h.2.2⟩
  .exact⟨h.1,nl h.2.1,h.2.2⟩
  .rcases h with⟨a,b,c⟩|⟨a,i,l,b,c⟩|⟨a,b,c⟩
   .exact .inl ⟨a,b,nl c⟩
   .have hi:(p i).last:=by rcases c with⟨c|c,_⟩|⟨c,_⟩<;>rw[c]<;>trivial
    have e:=hl i (.inl hi);refine .inr (.inl ⟨a,i,l,λj hj=>b j (by rw[<-hl j (.inr hj)];exact hj),?_⟩);rw[e];exact c
   .exact .inr (.inr ⟨a,nl b,c⟩)
  .exact⟨h.1,nl h.2.1,h.2.2⟩
  .exact⟨h.1,nl h.2.1,h.2.2⟩
 .rw[zDV]
  rw[h0] at h;simp only at h⊢;rw[hv];exact⟨h.1,nl h.2⟩
def zgr (A:jU L)(p:Nat->Ph L){i:Nat}(h:i≠0)(x:Ph L):zD A (bG p i x)=zD A p:=by
 unfold zD;rw[upd_ne _ _ (Ne.symm h)]
def gP.usr {p:Nat->Ph L}{n:Nat}{w:aE}(h:gP A ty Wg p n w){i:Nat}{l l':L}(hi:p i=.usr l)(nY:i<n)(zlC:A.pend l'=A.pend l):gP A ty Wg (bG p i (.usr l')) n w:=by
 refine h.congr ?_ ?_ λj hj=>?_
 .by_cases h0:i=0
  .subst h0;exact .inr ⟨l,l',hi,upd_same _ _ _⟩
  .exact .inl (upd_ne _ _ (Ne.symm h0))
 .unfold vv
  by_cases h0:i=0
  .subst h0
   rw[zew];unfold zD;rw[upd_same,hi];simp only[zlC]
  .rw[zgr A p h0]
   have:=zge p (i:=i) (n:=n) (.usr l') nY h0;rw[hi] at this;simp only[Ph.pre,if_true] at this;omega
 .by_cases eR:j=i
  .subst eR;rw[upd_same,hi] at hj;exact(hj.elim id id).elim
  .exact upd_ne _ _ eR
variable {ch:rP}
def zef {l:List Nat}{a:Nat}(h:a∈l):ch.opn l a=some false:=by simp[rP.opn,h]
def Xn {l:List Nat}{a:Nat}(h:a∉l):ch.opn l a=ch a:=by simp[rP.opn,h]
def Stat.meet {n:Nat}{w w':aE}{T:Nat->Td L}(h:Stat (ty:=ty) (Wg:=Wg) (A:=A) n w T ch){i j:Nat}(q9:i≠j)(nY:i<n)(Y3:j<n){c:Nat}(hc:ch c=some false)(a:Ls c w w'){li li' lj lj':L}
 (hi:(T i).ph=.usr li) (hj:(T j).ph=.usr lj) (ri rj:Cp) (gi gj:bC) (τ':cF) (pub:List Nat)
 (ho:∀b,τ'.own b->(T i).τ.own b) (aY:τ'.still=(T i).τ.still) (Lu:∀b,τ'.pass b->(T i).τ.pass b\/(T i).τ.own b)
 (C5:∀a∈pub,(T i).τ.own a/\¬τ'.own a/\¬τ'.still a/\Ij w a) (qF:∃s r,w'.heap[c]? =some (.chan 0 #[] false s r false))
 (zcH:A.pend li'=A.pend li) (Jw:A.pend lj'=A.pend lj) (hinv:A.Inv (bG (bG (λk=>(T k).ph.proj) i (.run li')) j (.run lj')) (ch.opn pub)):
 Stat (ty:=ty) (Wg:=Wg) (A:=A) n w' (bG (bG T i ⟨.usr li',ri,τ',gi⟩) j ⟨.usr lj',rj,(T j).τ,gj⟩) (ch.opn pub):=by
 have Aa:=(h.chan c _ hc).1;have zmU:=a.block Wg (Ne.symm Aa);have cG:=a.size;have nc:∀k,¬(T k).τ.own c/\¬(T k).τ.still c:=λk=>⟨λe=>(by have:=(h.bnd k c (.inl e)).2.2;rw[hc] at this;cases this),λe=>(by have:=(h.bnd k c (.inr e)).2.2;rw[hc] at this;cases this)⟩;have sf:∀k,bT ty Wg (T k).τ w w':=λk=>bT.of_aside a (nc k) (Yp a Aa)
 let U:=bG (bG T i ⟨.usr li',ri,τ',gi⟩) j ⟨.usr lj',rj,(T j).τ,gj⟩
 have ui:U i=⟨.usr li',ri,τ',gi⟩:=by simp only[U];rw[upd_ne _ _ q9,upd_same]
 have uj:U j=⟨.usr lj',rj,(T j).τ,gj⟩:=by simp only[U];rw[upd_same]
 have uk:∀k,k≠i->k≠j->U k=T k:=λk h1 h2=>by simp only[U];rw[upd_ne _ _ h2,upd_ne _ _ h1]
 have own:∀k b,(U k).τ.own b->(T k).τ.own b:=λk b hb=>by
  by_cases k1:k=i
  .subst k1;rw[ui] at hb;exact ho b hb
  .by_cases k2:k=j
   .subst k2;rw[uj] at hb;exact hb
   .rw[uk k k1 k2] at hb;exact hb
 have still:∀k,(U k).τ.still=(T k).τ.still:=λk=>by
  by_cases k1:k=i
  .subst k1;rw[ui];exact aY
  .by_cases k2:k=j
   .subst k2;rw[uj]
   .rw[uk k k1 k2]
 have pass:∀k b,(U k).τ.pass b->(T k).τ.pass b\/(T k).τ.own b:=λk b hb=>by
  by_cases k1:k=i
  .subst k1;rw[ui] at hb;exact Lu b hb
  .by_cases k2:k=j
   .subst k2;rw[uj] at hb;exact .inl hb
   .rw[uk k k1 k2] at hb;exact .inl hb
 have znU:(λk=>(U k).ph)=bG (bG (λk=>(T k).ph) i (.usr li')) j (.usr lj'):=by simp only[U];rw[Yk,Yk]
 have zkr:(λk=>(U k).ph.proj)=bG (bG (λk=>(T k).ph.proj) i (.run li')) j (.run lj'):=by simp only[U];rw[Wa,Wa];rfl
 have hp:∀k,(U k).ph=(T k).ph\/(∃l,(U k).ph=.usr l):=λk=>by
  by_cases k1:k=i
  .subst k1;rw[ui];exact .inr ⟨_,rfl⟩
  .by_cases k2:k=j
   .subst k2;rw[uj];exact .inr ⟨_,rfl⟩
   .rw[uk k k1 k2];exact .inl rfl
 refine⟨h.n0,λk hk=>?_,?_,λk hk=>?_,λk hk b=>?_,λx k b eM hb=>?_,λk b hb=>?_,λk b hb=>?_,λk l hk=>?_,λc' b kI=>?_,?_,?_⟩
 .show(U k).ph=_
  rw[uk k aC aC];exact h.ou k hk
 .rcases hp 0 with e|⟨l,e⟩
  .rw[show(bG (bG T i ⟨.usr li',ri,τ',gi⟩) j ⟨.usr lj',rj,(T j).τ,gj⟩ 0).ph=(T 0).ph from e];exact h.role0
  .rw[show(bG (bG T i ⟨.usr li',ri,τ',gi⟩) j ⟨.usr lj',rj,(T j).τ,gj⟩ 0).ph=.usr l from e];trivial
 .rcases hp k with e|⟨l,e⟩
  .rw[show(bG (bG T i ⟨.usr li',ri,τ',gi⟩) j ⟨.usr lj',rj,(T j).τ,gj⟩ k).ph=(T k).ph from e];exact h.role k hk
  .rw[show(bG (bG T i ⟨.usr li',ri,τ',gi⟩) j ⟨.usr lj',rj,(T j).τ,gj⟩ k).ph=.usr l from e];exact id
 .have k1:k≠i:=λe=>by subst e;rw[show(bG (bG T k ⟨.usr li',ri,τ',gi⟩) j ⟨.usr lj',rj,(T j).τ,gj⟩ k)=_ from ui] at hk;cases hk
  have k2:k≠j:=λe=>by subst e;rw[show(bG (bG T i ⟨.usr li',ri,τ',gi⟩) k ⟨.usr lj',rj,(T k).τ,gj⟩ k)=_ from uj] at hk;cases hk
  have e:=uk k k1 k2;show ¬(U k).τ.own b/\_;rw[show(bG (bG T i ⟨.usr li',ri,τ',gi⟩) j ⟨.usr lj',rj,(T j).τ,gj⟩ k)=T k from e] at hk⊢;rw[e];exact h.nil k hk b
 .have:=h.sep x k b eM (own x b hb)
  refine⟨λe=>this.1 (own k b e),λe=>this.2.1 (by have e':(U k).τ.still b:=e;rwa [still k] at e'),λe=>(pass k b e).elim this.2.2 this.1⟩
 .have b6:(T k).τ.own b\/(T k).τ.still b:=hb.imp (own k b) λe=>by have e':(U k).τ.still b:=e;rwa [still k] at e'
  have:=h.bnd k b b6;refine⟨aC,this.2.1,?_⟩;have zbR:b∉pub:=λhp=>by
   obtain⟨h1,h2,h3,_⟩:=C5 b hp;by_cases k1:k=i
   .subst k1
    rcases hb with e|e
    .rw[show(bG (bG T k ⟨.usr li',ri,τ',gi⟩) j ⟨.usr lj',rj,(T j).τ,gj⟩ k)=_ from ui] at e;exact h2 e
    .rw[show(bG (bG T k ⟨.usr li',ri,τ',gi⟩) j ⟨.usr lj',rj,(T j).τ,gj⟩ k)=_ from ui] at e;exact h3 e
   .have s:=h.sep i k b (Ne.symm k1) h1
    exact b6.elim s.1 s.2.1
  rw[Xn zbR];exact this.2.2
 .rcases pass k b hb with e|e
  .have:=h.pas k b e;exact⟨aC,this.2⟩
  .have:=h.bnd k b (.inl e);exact⟨aC,this.2.1⟩
 .by_cases k1:k=i
  .subst k1;rw[show(bG (bG T k ⟨.usr li',ri,τ',gi⟩) j ⟨.usr lj',rj,(T j).τ,gj⟩ k)=_ from ui] at hk;simp[Ph.proj] at hk
  .by_cases k2:k=j
   .subst k2;rw[show(bG (bG T i ⟨.usr li',ri,τ',gi⟩) k ⟨.usr lj',rj,(T k).τ,gj⟩ k)=_ from uj] at hk;simp[Ph.proj] at hk
   .rw[show(bG (bG T i ⟨.usr li',ri,τ',gi⟩) j ⟨.usr lj',rj,(T j).τ,gj⟩ k)=T k from uk k k1 k2] at hk⊢
    exact λaI iS=>h.depo k l hk aI ((sf k).trans iS)
 .by_cases mR:c'∈pub
  .obtain⟨h1,_,_,h4⟩:=C5 c' mR
   rw[zef mR] at kI;have aT:c'≠c:=λe=>by subst e;exact(nc i).1 h1
   exact⟨(h.bnd i c' (.inl h1)).2.1,0,0,by rw[a.block c' aT,<-cE kI];exact h4⟩
  .rw[Xn mR] at kI
   by_cases sN:c'=c
   .subst sN
    rw[hc] at kI;obtain⟨s,r,hw⟩:=qF;exact⟨Aa,s,r,by rw[hw,<-cE kI]⟩
   .obtain⟨h1,s,r,h2⟩:=h.chan c' b kI
    exact⟨h1,s,r,(a.block c' sN).trans h2⟩
 .show gP A ty Wg (λk=>(U k).ph) n w'
  rw[znU];refine gP.of_block (gP.usr (l:=lj) (gP.usr (l:=li) h.grp hi nY zcH) ?_ Y3 Jw) zmU;rw[upd_ne _ _ (Ne.symm q9)];exact hj
 .show A.Inv (λk=>(U k).ph.proj) _
  rw[zkr];exact hinv
def Stat.fork {n:Nat}{w:aE}{T:Nat->Td L}(h:Stat (ty:=ty) (Wg:=Wg) (A:=A) n w T ch){l lm lc:L}(hl:(T 0).ph=.usr l)(Nz:A.pend l=true)(yR:A.pend lm=false)(rm rc:Cp)(gm gc:bC)(τm τc:cF)(pub:List Nat)
 (cP:∀b,τm.own b\/τc.own b->(T 0).τ.own b) (zea:∀b,τm.still b\/τc.still b->(T 0).τ.still b\/(T 0).τ.own b) (zgR:∀b,τm.pass b\/τc.pass b->(T 0).τ.pass b\/(T 0).τ.own b\/(T 0).τ.still b)
 (vS:∀b,τm.own b->¬τc.own b/\¬τc.still b/\¬τc.pass b) (Ba:∀b,τc.own b->¬τm.still b/\¬τm.pass b)
 (C5:∀a∈pub,(T 0).τ.own a/\Ij w a/\¬τm.own a/\¬τm.still a/\¬τc.own a/\¬τc.still a) (hinv:A.Inv (bG (bG (λk=>(T k).ph.proj) 0 (.run lm)) n (.run lc)) (ch.opn pub)):
 Stat (ty:=ty) (Wg:=Wg) (A:=A) (n+1) w (bG (bG T 0 ⟨.usr lm,rm,τm,gm⟩) n ⟨.usr lc,rc,τc,gc⟩) (ch.opn pub):=by
 have hn:=h.n0;have zbK:(T n).ph=.gone:=h.ou n (aX _);have nn:=h.nil n zbK;generalize hU:bG (bG T 0 ⟨.usr lm,rm,τm,gm⟩) n ⟨.usr lc,rc,τc,gc⟩=U;have u0:U 0=⟨.usr lm,rm,τm,gm⟩:=by rw[<-hU,upd_ne _ _ aC,upd_same]
 have un:U n=⟨.usr lc,rc,τc,gc⟩:=by rw[<-hU,upd_same]
 have uk:∀k,k≠0->k≠n->U k=T k:=λk h1 h2=>by rw[<-hU,upd_ne _ _ h2,upd_ne _ _ h1]
 have own:∀k b,(U k).τ.own b->(T k).τ.own b\/(k=n/\(T 0).τ.own b):=λk b hb=>by
  by_cases k1:k=0
  .subst k1;rw[u0] at hb;exact .inl (cP b (.inl hb))
  .by_cases k2:k=n
   .subst k2;rw[un] at hb;exact .inr ⟨rfl,cP b (.inr hb)⟩
   .rw[uk k k1 k2] at hb;exact .inl hb
 have znU:(λk=>(U k).ph)=bG (bG (λk=>(T k).ph) 0 (.usr lm)) n (.usr lc):=by rw[<-hU,Yk,Yk]
 have zkr:(λk=>(U k).ph.proj)=bG (bG (λk=>(T k).ph.proj) 0 (.run lm)) n (.run lc):=by rw[<-hU,Wa,Wa];rfl
 have sub:∀k b,(U k).τ.own b\/(U k).τ.still b\/(U k).τ.pass b->k=0\/k=n\/(k≠0/\k≠n):=λk b _=>by omega
 refine⟨aC,λk hk=>?_,by rw[u0];trivial,λk hk=>?_,λk hk b=>?_,λx k b eM hb=>?_,λk b hb=>?_,λk b hb=>?_,λk l' hk=>?_,λc' b kI=>?_,?_,by rw[zkr];exact hinv⟩
 .rw[uk k aC aC];exact h.ou k aC
 .by_cases k2:k=n
  .subst k2;rw[un];exact id
  .rw[uk k hk k2];exact h.role k hk
 .have k1:k≠0:=λe=>by subst e;rw[u0] at hk;cases hk
  have k2:k≠n:=λe=>by subst e;rw[un] at hk;cases hk
  rw[uk k k1 k2] at hk⊢;exact h.nil k hk b
 .by_cases x1:x=0
  .subst x1
   rw[u0] at hb;have ho:=cP b (.inl hb);by_cases k2:k=n
   .subst k2;rw[un];exact vS b hb
   .rw[uk k (Ne.symm eM) k2];exact h.sep 0 k b eM ho
  .by_cases x2:x=n
   .subst x2
    rw[un] at hb;have ho:=cP b (.inr hb);by_cases k1:k=0
    .subst k1;rw[u0];exact⟨λe=>(vS b e).1 hb,Ba b hb⟩
    .rw[uk k k1 (Ne.symm eM)];exact h.sep 0 k b (Ne.symm k1) ho
   .rw[uk x x1 x2] at hb
    have s0:=h.sep x 0 b x1 hb;by_cases k1:k=0
    .subst k1;rw[u0]
     exact⟨λe=>s0.1 (cP b (.inl e)),λe=>(zea b (.inl e)).elim s0.2.1 s0.1,λe=>(zgR b (.inl e)).elim s0.2.2 λz=>z.elim s0.1 s0.2.1⟩
    .by_cases k2:k=n
     .subst k2;rw[un]
      exact⟨λe=>s0.1 (cP b (.inr e)),λe=>(zea b (.inr e)).elim s0.2.1 s0.1,λe=>(zgR b (.inr e)).elim s0.2.2 λz=>z.elim s0.1 s0.2.1⟩
     .rw[uk k k1 k2];exact h.sep x k b eM hb
 .have key:(∃j,(T j).τ.own b\/(T j).τ.still b)/\b∉pub:=by
   by_cases k1:k=0
   .subst k1;rw[u0] at hb
    refine⟨⟨0,hb.elim (λe=>.inl (cP b (.inl e))) λe=>(zea b (.inl e)).symm⟩,λhp=>?_⟩;have:=C5 b hp;exact hb.elim this.2.2.1 this.2.2.2.1
   .by_cases k2:k=n
    .subst k2;rw[un] at hb
     refine⟨⟨0,hb.elim (λe=>.inl (cP b (.inr e))) λe=>(zea b (.inr e)).symm⟩,λhp=>?_⟩;have:=C5 b hp;exact hb.elim this.2.2.2.2.1 this.2.2.2.2.2
    .rw[uk k k1 k2] at hb
     refine⟨⟨k,hb⟩,λhp=>?_⟩;have:=h.sep 0 k b (Ne.symm k1) (C5 b hp).1;exact hb.elim this.1 this.2.1
  obtain⟨⟨j,hj⟩,zbR⟩:=key;have:=h.bnd j b hj;exact⟨this.1,this.2.1,by rw[Xn zbR];exact this.2.2⟩
 .have key:∃j,(T j).τ.pass b\/(T j).τ.own b\/(T j).τ.still b:=by
   by_cases k1:k=0
   .subst k1;rw[u0] at hb;exact⟨0,zgR b (.inl hb)⟩
   .by_cases k2:k=n
    .subst k2;rw[un] at hb;exact⟨0,zgR b (.inr hb)⟩
    .rw[uk k k1 k2] at hb;exact⟨k,.inl hb⟩
  obtain⟨j,hj|hj⟩:=key
  .exact h.pas j b hj
  .have:=h.bnd j b hj;exact⟨this.1,this.2.1⟩
 .have k1:k≠0:=λe=>by subst e;rw[u0] at hk;simp[Ph.proj] at hk
  have k2:k≠n:=λe=>by subst e;rw[un] at hk;simp[Ph.proj] at hk
  rw[uk k k1 k2] at hk⊢;exact h.depo k l' hk
 .by_cases mR:c'∈pub
  .rw[zef mR] at kI
   obtain⟨h1,h2,_⟩:=C5 c' mR;exact⟨(h.bnd 0 c' (.inl h1)).2.1,0,0,by rw[<-cE kI];exact h2⟩
  .rw[Xn mR] at kI;exact h.chan c' b kI
 .rw[znU]
  refine h.grp.congr (.inr ⟨l,lm,hl,by rw[upd_ne _ _ aC,upd_same]⟩) ?_ λj hj=>?_
  .unfold vv
   have e1:o8 (bG (bG (λk=>(T k).ph) 0 (.usr lm)) n (.usr lc)) (n+1)=o8 (λk=>(T k).ph) n+1:=by
    simp only[o8];rw[zpY _ _ (aX n),zew,upd_same];simp[Ph.pre];omega
   have e2:zD A (bG (bG (λk=>(T k).ph) 0 (.usr lm)) n (.usr lc))=0:=by
    unfold zD;rw[upd_ne _ _ aC,upd_same];simp[yR]
   have e3:zD A (λk=>(T k).ph)=1:=by
    unfold zD;simp only[hl,Nz,if_true]
   omega
  .by_cases j1:j=0
   .subst j1;rw[upd_ne _ _ aC,upd_same] at hj
    have:((T 0).ph).last\/False:=hj;rw[hl] at this;exact(this.elim id id).elim
   .by_cases j2:j=n
    .subst j2;rw[upd_same] at hj
     have:((T j).ph).last\/False:=hj;rw[zbK] at this;exact(this.elim id id).elim
    .rw[upd_ne _ _ j2,upd_ne _ _ j1]
end
section
variable {L:Type}(P:bS)(ty:aM)(Wg:Nat)(A:jU L)(Fin:bC->aE->Prop)(Shun:Loc->Prop)
structure Inv (gs:Array bC)(w:aE)(t:lU)(T:Nat->Td L)(ch:rP):Prop where
 st:Stat (ty:=ty) (Wg:=Wg) (A:=A) gs.size w T ch
 dy:Fu (P:=P) (ty:=ty) (Wg:=Wg) (A:=A) (Fin:=Fin) gs w t T ch Shun
def O4 (m:zcR)(t:lU):Prop:=
 ∃gs a w sl q,m=crowd gs w sl/\gs[0]? =some a/\a.status=.running/\Fin a w/\Leavers P t gs q/\Past (λl=>Shun l\/nE l Wg) w.heap.size t
def vB (gs:Array bC)(w:aE)(t:lU)(T:Nat->Td L)(sl:Option (Nat×Nat))(i:Nat):Prop:=
 ∃m' ops,runT P (crowd gs w sl) i=(.next m',ops)/\
  (O4 P Wg Fin Shun m' (t++ops)\/∃gs' w' J7 T' tN,m'=crowd gs' w' J7/\Inv P ty Wg A Fin Shun gs' w' (t++ops) T' tN/\Mu.lt (mu gs' T') (mu gs T))
end
section
variable {L:Type}{P:bS}{ty:aM}{Wg:Nat}{A:jU L}{Fin:bC->aE->Prop}{Shun:Loc->Prop}
variable {gs:Array bC}{w w':aE}{t:lU}{T:Nat->Td L}{ch tN:rP}{sl:Option (Nat×Nat)}{i j:Nat}{x g':bC}{es:Array oC}
def zqS (τ:cF)(w:aE)(d:Nat):bT ty Wg τ w (w.at d):=⟨rfl,rfl,rfl,aX _,λ_ _=>rfl,id⟩
def Inv.at (h:Inv P ty Wg A Fin Shun gs w t T ch)(d:Nat):Inv P ty Wg A Fin Shun gs (w.at d) t T ch:=
 ⟨
  ⟨h.st.n0,h.st.ou,h.st.role0,h.st.role,h.st.nil,h.st.sep,h.st.bnd,h.st.pas,λi l hi aI s=>h.st.depo i l hi aI ((zqS _ w d).trans s),h.st.chan,h.st.grp.of_block rfl,h.st.inv⟩,
  ⟨λi x hi=>(h.dy.sit i x hi).rely (zqS _ w d),h.dy.slp,h.dy.slpC,h.dy.slpW,h.dy.tr⟩⟩
def zkN {p:Nat->Ph L}(h:∀j,j≠0->(p j).pre=false):∀n,o8 p n=0
 |0=>rfl
 |n+1=>by
  simp only[o8,zkN h n];by_cases hn:n=0
  .simp[hn]
  .simp[h n hn]
def Inv.some1 (hA:A.Ok)(h:Inv P ty Wg A Fin Shun gs w t T ch):∃(i:Nat) (g:bC),gs[i]? =some g/\g.status=.running:=by
 refine zY λdG=>?_;have hn:∀(i:Nat) (g:bC),gs[i]? =some g->g.status≠ .running:=λi g hg e=>dG ⟨i,g,hg,e⟩;have zim:∀i l,(T i).ph=.usr l->∃g,gs[i]? =some g/\zdV P ty Wg A (i==0) (T i) g w:=by
  intro i l hl;have aN:i<gs.size:=by
   rcases nC i gs.size with x|x
   .exact x
   .have:=h.st.ou i x;rw[hl] at this;cases this
  refine⟨gs[i],mE aN,?_⟩;have hs:=h.dy.sit i _ (mE aN);rw[pF zl7] at hs;obtain⟨r,_,_,hx|hx|hx⟩:=hs
  .exact absurd hx.1 (hn i _ (mE aN))
  .exact hx
  .have:=hx.1;rw[hl] at this;cases this
 have Jw:∀i l,(T i).ph.proj=.run l->(T i).ph=.usr l:=by
  intro i l hi;cases xC:(T i).ph<;>rw[xC] at hi<;>simp[Ph.proj] at hi;rw[hi]
 have zIq:∀i l c ok pub nx,(T i).ph=.usr l->A.act l=.send c ok pub nx->∃g v z sh,gs[i]? =some (parked g #[scase c v z] sh):=by
  intro i l c ok pub nx hl ha;obtain⟨g,hg,l',cs,sh,h1,rfl,_,h4|h4⟩:=zim i l hl
  .obtain⟨c',pE,O7,nQ,v,z,h5,h6,_⟩:=h4
   rw[hl] at h1;injection h1 with h1;subst h1;rw[ha] at h5;injection h5 with h5;subst h5;exact⟨_,v,z,sh,by rw[hg,h6]⟩
  .obtain⟨c',pE,nQ,s',z,b,h5,_⟩:=h4
   rw[hl] at h1;injection h1 with h1;subst h1;rw[ha] at h5;cases h5
 have zIw:∀i l c ok nx s,(T i).ph=.usr l->A.act l=.recv c ok nx s->∃g z sh,gs[i]? =some (parked g #[rcase c z] sh):=by
  intro i l c ok nx s hl ha;obtain⟨g,hg,l',cs,sh,h1,rfl,_,h4|h4⟩:=zim i l hl
  .obtain⟨c',pE,O7,nQ,v,z,h5,_⟩:=h4
   rw[hl] at h1;injection h1 with h1;subst h1;rw[ha] at h5;cases h5
  .obtain⟨c',pE,nQ,s',z,b,h5,h6,_⟩:=h4
   rw[hl] at h1;injection h1 with h1;subst h1;rw[ha] at h5;injection h5 with h5;subst h5;exact⟨_,z,sh,by rw[hg,h6]⟩
 have hb:∀i l,(T i).ph.proj=.run l->A.Blocked (λi=>(T i).ph.proj) ch l:=by
  intro i l hi;have hl:=Jw i l hi;obtain⟨g,hg,l',cs,sh,h1,rfl,_,h4⟩:=zim i l hl;rw[hl] at h1;injection h1 with h1;subst h1;unfold jU.Blocked;rcases h4 with⟨c,ok,pub,nx,v,z,h5,h6,_⟩|⟨c,ok,nx,s,z,b,h5,h6,_⟩
  .rw[h5]
   rintro⟨j,l',pE,nQ,xD,hj,oZ⟩;obtain⟨gj,zj,zB2,zbN⟩:=zIw j l' c pE nQ xD (Jw j l' hj) oZ;subst h6;exact h.dy.slp i j _ _ _ _ _ _ _ _ hg zbN
  .rw[h5]
   subst h6;refine⟨?_,?_⟩
   .obtain⟨b',b6⟩:=hA.recvC _ ch i l c ok nx s h.st.inv hi h5
    cases b'
    .exact b6
    .exact absurd b6 (h.dy.slpC i _ _ _ _ hg)
   .rintro⟨j,l',pE,O7,nQ,hj,oZ⟩
    obtain⟨gj,vj,zj,zB2,zbN⟩:=zIq j l' c pE O7 nQ (Jw j l' hj) oZ;exact h.dy.slp j i _ _ _ _ _ _ _ _ zbN hg
 obtain⟨Kb,Bv⟩:=hA.prog _ ch h.st.inv hb;have hq:∀j,j≠0->(T j).ph.leaves:=by
  intro j hj;refine zY λhl=>?_;have aN:j<gs.size:=by
   rcases nC j gs.size with x|x
   .exact x
   .exact absurd (by rw[h.st.ou j x];trivial) hl
  have hs:=h.dy.sit j _ (mE aN);rw[pF hl] at hs;obtain⟨r,_,_,hx|hx|hx⟩:=hs
  .exact hn j _ (mE aN) hx.1
  .obtain⟨l,_,_,h1,_⟩:=hx
   exact Bv j l (by show(T j).ph.proj=_;rw[h1];rfl)
  .have:=h.st.role j hj;rw[hx.1] at this;exact this trivial
 have h0:=h.dy.sit 0 _ (mE h.st.n0);have zf0:¬(T 0).ph.leaves:=λe=>by
  have:=h.st.role0;cases hp:(T 0).ph<;>rw[hp] at e this<;>first|exact e.elim|exact this.elim
 rw[pF zf0] at h0;obtain⟨r,_,_,hx|hx|hx⟩:=h0
 .exact hn 0 _ (mE h.st.n0) hx.1
 .obtain⟨l,_,_,h1,_⟩:=hx
  have:(T 0).ph.proj=.waits:=Kb;rw[h1] at this;cases this
 .have hg:=h.st.grp
  unfold gP at hg;simp only[hx.1] at hg;have zC8:∀i,¬(T i).ph.last:=λi e=>by
   by_cases hi:i=0
   .subst hi;rw[hx.1] at e;exact e
   .have:=hq i hi
    cases hp:(T i).ph<;>rw[hp] at e this<;>first|exact e.elim|exact this.elim
  have hv:vv A (λi=>(T i).ph) gs.size=0:=by
   unfold vv zD;simp only[hx.1,Nat.add_zero];refine zkN (λj hj=>?_) _;have:=hq j hj;cases hp:(T j).ph<;>rw[hp] at this<;>first|exact this.elim|rfl
  rcases hg with⟨a,_⟩|⟨_,i,l,_,hc⟩|⟨_,_,hc⟩
  .omega
  .refine zC8 i ?_
   rcases hc with⟨c|c,_⟩|⟨c,_⟩<;>rw[c]<;>trivial
  .exact h.dy.slpW _ (mE h.st.n0) hx.1 (by rw[hx.2.1]) hc
def Inv.awake (h:Inv P ty Wg A Fin Shun gs w t T ch):∀g∈gs,Conc.awake g:=by
 intro g hg;obtain⟨i,hi,rfl⟩:=Array.mem_iff_getElem.1 hg;have:=(h.dy.sit i _ (mE hi)).status;intro t e;rcases this with x|x|x<;>rw[e] at x<;>cases x
def Za (hi:gs[i]? =some x)(hn:0<gs.size){Ti:Td L}(vJ:stepG P (i==0) x w=.go g' w' es)(hr:Cl Ti.r (T i).r)
 (hS:Stat (ty:=ty) (Wg:=Wg) (A:=A) gs.size w' (bG T i Ti) tN)
 (hD:Fu (P:=P) (ty:=ty) (Wg:=Wg) (A:=A) (Fin:=Fin) ((gs.map (woken P x g' w')).setIfInBounds i g') w' (t++vQ i x.frame.fn x.frame.place es) (bG T i Ti) tN Shun):vB P ty Wg A Fin Shun gs w t T sl i:=by
 have aN:=(dP.1 hi).1;have cG:((gs.map (woken P x g' w')).setIfInBounds i g').size=gs.size:=aO;refine⟨_,_,Y1 hi vJ,.inr ⟨_,_,sl,bG T i Ti,tN,rfl,⟨by rw[cG];exact hS,hD⟩,Wc (i:=i) (λ_=>cG) aC aN aC (by rw[upd_same];exact hr) λj hj=>by rw[upd_ne _ _ aC]⟩⟩
def Stat.tiEvents {n:Nat}(hS:Stat (ty:=ty) (Wg:=Wg) (A:=A) n w T ch)(nY:i<n)(hl:(T i).ph.live)(fn:aP)(pos:String)
 (h:TI Wg n (λk=>(T k).τ.own) (λk b=>(T k).τ.still b\/(T k).τ.pass b) (λk=>(T k).ph.live) Shun w.heap.size t)
 (xZ:∀e∈es,OkL Wg (T i).τ.own (λb=>(T i).τ.still b\/(T i).τ.pass b) i w.heap.size e):
 TI Wg n (λk=>(T k).τ.own) (λk b=>(T k).τ.still b\/(T k).τ.pass b) (λk=>(T k).ph.live) Shun w.heap.size (t++vQ i fn pos es):=by
 obtain⟨l⟩:=es;refine TI.events (live:=λk=>(T k).ph.live) (k:=i) hl nY (λk' b _ aT hb=>?_) (λk' b _ aT hb ho=>?_) (λk' _=>⟨λe=>(hS.bnd k' Wg (.inl e)).2.1 rfl,λe=>e.elim (λe=>(hS.bnd k' Wg (.inr e)).2.1 rfl) λe=>(hS.pas k' Wg e).2 rfl⟩) fn pos l h λe he=>xZ e (by simpa using he)
 .have:=hS.sep i k' b (Ne.symm aT) hb
  exact⟨this.1,λe=>e.elim this.2.1 this.2.2⟩
 .have:=hS.sep k' i b aT ho
  exact hb.elim this.2.1 this.2.2
def Stat.noWg {n:Nat}(hS:Stat (ty:=ty) (Wg:=Wg) (A:=A) n w T ch):∀k',(T k').ph.live->¬(T k').τ.own Wg/\¬((T k').τ.still Wg\/(T k').τ.pass Wg):=
 λk' _=>⟨λe=>(hS.bnd k' Wg (.inl e)).2.1 rfl,λe=>e.elim (λe=>(hS.bnd k' Wg (.inr e)).2.1 rfl) λe=>(hS.pas k' Wg e).2 rfl⟩
def Fu.keepC (h:Fu (P:=P) (ty:=ty) (Wg:=Wg) (A:=A) (Fin:=Fin) gs w t T ch Shun):∀(j:Nat) (gj:bC) (c:Nat) (z:aF) (sh:Mq),gs[j]? =some (parked gj #[rcase c z] sh)->woken P x g' w' (parked gj #[rcase c z] sh)=parked gj #[rcase c z] sh->ch c≠some true:=
 λj gj c z sh hj _=>h.slpC j gj c z sh hj
def Fu.keepW (h:Fu (P:=P) (ty:=ty) (Wg:=Wg) (A:=A) (Fin:=Fin) gs w t T ch Shun)(e:gD ty Wg w' 0 1->gD ty Wg w 0 1):i≠0->∀x0,gs[0]? =some x0->(T 0).ph=.w3->x0.status=.blocked->(woken P x g' w' x0).status=.blocked->¬gD ty Wg w' 0 1:=
 λ_ x0 h0 h1 h2 _ h4=>h.slpW x0 h0 h1 h2 (e h4)
def Inv.leaver (h:Inv P ty Wg A Fin Shun gs w t T ch)(hi:gs[i]? =some x)(cH:x.status=.running)(hl:(T i).ph.leaves):vB P ty Wg A Fin Shun gs w t T sl i:=by
 have hs:=h.dy.sit i x hi;rw[Hc hl] at hs;obtain⟨q,hq,hQ⟩:=hs;have eV:i≠0:=λe=>by
  subst e;have:=h.st.role0;cases hp:(T 0).ph<;>rw[hp] at hl this<;>first|exact hl.elim|exact this.elim
 have aN:=(dP.1 hi).1
 cases q with
 |zero=>rw[hQ.1] at cH;cases cH
 |succ k=>
  rcases hQ with⟨hf,_⟩|⟨_,g',es,hm,aY,hQ'⟩
  .rw[hf] at cH;cases cH
  have vJ:stepG P (i==0) x w=.go g' w es:=by
   have:(i==0)=false:=by simpa using eV
   rw[this];exact aY w
  have hp:∀j,(bG T i ⟨(T i).ph,.inl k,(T i).τ,g'⟩ j).ph=(T j).ph:=λj=>by
   by_cases hj:j=i
   .subst hj;simp[upd_same]
   .simp[upd_ne _ _ hj]
  have ht:∀j,(bG T i ⟨(T i).ph,.inl k,(T i).τ,g'⟩ j).τ=(T j).τ:=λj=>by
   by_cases hj:j=i
   .subst hj;simp[upd_same]
   .simp[upd_ne _ _ hj]
  refine Za hi h.st.n0 (Ti:=⟨(T i).ph,.inl k,(T i).τ,g'⟩) vJ (by rw[hq];exact .inl (Nat.lt_succ_self k)) (h.st.same hp ht) ?_;refine h.dy.go hi ((Hc (T:=⟨(T i).ph,.inl k,(T i).τ,g'⟩) hl).2 ⟨k,rfl,hQ'⟩) (by rcases hQ'.status with e|e<;>rw[e]<;>simp) (λj _=>bT.refl) h.dy.keepC (h.dy.keepW id) ?_;have e1:(λk'=>(bG T i ⟨(T i).ph,.inl k,(T i).τ,g'⟩ k').τ.own)=λk'=>(T k').τ.own:=funext λj=>by rw[ht]
  have e2:(λk' b=>(bG T i ⟨(T i).ph,.inl k,(T i).τ,g'⟩ k').τ.still b\/(bG T i ⟨(T i).ph,.inl k,(T i).τ,g'⟩ k').τ.pass b)=λk' b=>(T k').τ.still b\/(T k').τ.pass b:=funext λj=>by rw[ht]
  have e3:(λk'=>(bG T i ⟨(T i).ph,.inl k,(T i).τ,g'⟩ k').ph.live)=λk'=>(T k').ph.live:=funext λj=>by rw[hp]
  rw[e1,e2,e3];exact h.dy.tr.mutes aN h.st.noWg _ _ hm
def Inv.ownG {K:Bool->Ph L->Nat->cF->bC->aE->Prop}(h:Inv P ty Wg A Fin Shun gs w t T ch)(hi:gs[i]? =some x)(dL:lQ x (T i).g)(hl:(T i).ph.live){ι:Type}{f:ι->Rk}(hr:(T i).r=.inr (.mk ι f))
 (hK:∀m ph d τ g w,K m ph d τ g w->∃k,o7 P ty Wg A Fin (f k) m ph d τ g w) (ho:GoG P Wg K (i==0) (T i).ph (iA t i) (T i).τ (T i).g w):vB P ty Wg A Fin Shun gs w t T sl i:=by
 have aN:i<gs.size:=(dP.1 hi).1;obtain⟨g',w',es,aY,lW,hg,xZ,hk⟩:=ho;obtain⟨k,hB⟩:=hK _ _ _ _ _ _ hk;have oX:¬(T i).ph.leaves:=λe=>by cases hp:(T i).ph<;>rw[hp] at e hl<;>first|exact e.elim|exact hl.elim
 have hS:=h.st.grow hl hg (.inr (f k)) g';refine Za hi h.st.n0 (Ti:=⟨(T i).ph,.inr (f k),(T i).τ.grow w w',g'⟩) zaQ Pe hS ?_
 refine h.dy.go hi ((pF (T:=⟨(T i).ph,.inr (f k),(T i).τ.grow w w',g'⟩) oX).2 ⟨f k,rfl,hB,.inl (lQ.self lW)⟩) Kg (λj hj=>h.st.suf hg hj) h.dy.keepC
  (h.dy.keepW λe=>(hg.keep Wg h.st.grp.live.lt λe=>((h.st.bnd i Wg (.inl e)).2.1 rfl)).symm.trans e) ?_
 have hp:∀j,(bG T i ⟨(T i).ph,.inr (f k),(T i).τ.grow w w',g'⟩ j).ph=(T j).ph:=λj=>by
  by_cases hj:j=i
  .subst hj;simp[upd_same]
  .simp[upd_ne _ _ hj]
 have Qt:bG T i ⟨(T i).ph,.inr (f k),(T i).τ.grow w w',g'⟩ i=⟨(T i).ph,.inr (f k),(T i).τ.grow w w',g'⟩:=upd_same _ _ _;refine hS.tiEvents aN (by rw[hp];exact hl) _ _ ?_ λe he=>?_
 .have e3:(λk'=>(bG T i ⟨(T i).ph,.inr (f k),(T i).τ.grow w w',g'⟩ k').ph.live)=λk'=>(T k').ph.live:=funext λj=>by rw[hp]
  rw[e3];refine h.dy.tr.less (λk' b _ hb=>?_) (λk' b _ hb=>?_) hg.size
  .by_cases hj:k'=i
   .subst hj;rw[upd_same] at hb;exact hb.imp id (·.1)
   .rw[upd_ne _ _ hj] at hb;exact .inl hb
  .by_cases hj:k'=i
   .subst hj;rw[upd_same] at hb;exact .inl hb
   .rw[upd_ne _ _ hj] at hb;exact .inl hb
 .rw[Qt]
  refine okL_evT (xZ e he) (λb hb=>.inl hb) (λb hb=>?_) (by have:=h.st.grp.live.lt;have:=hg.size;omega);have:=hS.bnd i b (by rw[Qt];exact hb);exact⟨this.1,this.2.1⟩
end
section
variable {L:Type}{P:bS}{ty:aM}{Wg:Nat}{A:jU L}{Fin:bC->aE->Prop}{Shun:Loc->Prop}
variable {gs:Array bC}{w w':aE}{t:lU}{T:Nat->Td L}{ch tN:rP}{sl:Option (Nat×Nat)}{i j:Nat}{x g':bC}{es:Array oC}
def zhh (T:Nat->Td L)(i:Nat)(ph':Ph L)(r:Cp)(g':bC)(j:Nat):(bG T i ⟨ph',r,(T i).τ,g'⟩ j).τ=(T j).τ:=by
 by_cases hj:j=i
 .subst hj;simp[upd_same]
 .simp[upd_ne _ _ hj]
def zBt (T:Nat->Td L)(i:Nat){ph':Ph L}(r:Cp)(τ:cF)(g':bC)(h:ph'.live↔(T i).ph.live):(λk=>(bG T i ⟨ph',r,τ,g'⟩ k).ph.live)=λk=>(T k).ph.live:=by
 funext j;by_cases hj:j=i
 .subst hj;simp[upd_same,h]
 .simp[upd_ne _ _ hj]
def TI.phase {n B:Nat}{ph':Ph L}(r:Cp)(g':bC)(h:TI Wg n (λk=>(T k).τ.own) (λk b=>(T k).τ.still b\/(T k).τ.pass b) (λk=>(T k).ph.live) Shun B t)(hl:ph'.live↔(T i).ph.live):
 TI Wg n (λk=>(bG T i ⟨ph',r,(T i).τ,g'⟩ k).τ.own) (λk b=>(bG T i ⟨ph',r,(T i).τ,g'⟩ k).τ.still b\/(bG T i ⟨ph',r,(T i).τ,g'⟩ k).τ.pass b) (λk=>(bG T i ⟨ph',r,(T i).τ,g'⟩ k).ph.live) Shun B t:=by
 have e1:(λk'=>(bG T i ⟨ph',r,(T i).τ,g'⟩ k').τ.own)=λk'=>(T k').τ.own:=funext λj=>by rw[zhh]
 have e2:(λk' b=>(bG T i ⟨ph',r,(T i).τ,g'⟩ k').τ.still b\/(bG T i ⟨ph',r,(T i).τ,g'⟩ k').τ.pass b)=λk' b=>(T k').τ.still b\/(T k').τ.pass b:=funext λj=>by rw[zhh]
 rw[e1,e2,zBt T i r _ g' hl];exact h
def Inv.alive (h:Inv P ty Wg A Fin Shun gs w t T ch)(hi:gs[i]? =some x)(dL:lQ x (T i).g)(aY:stepG P (i==0) (T i).g w=.go g' w' es)(lW:g'.status=.running){ι:Type}{f:ι->Rk}(hr:(T i).r=.inr (.mk ι f))
 (hl:(T i).ph.live) {ph':Ph L} (yH:ph'.live) (a:Ls Wg w w') (Kv:WgLive ty Wg w->WgLive ty Wg w')
 (hK:∃k,o7 P ty Wg A Fin (f k) (i==0) ph' (n9 (iA t i) es) (T i).τ g' w') (h1:i≠0->¬ph'.waits)
 (Ay:gP A ty Wg (bG (λj=>(T j).ph) i ph') gs.size w') (hinv:A.Inv (bG (λj=>(T j).ph.proj) i ph'.proj) ch) (hW:gD ty Wg w' 0 1->gD ty Wg w 0 1)
 (xZ:∀e∈es,OkL Wg (T i).τ.own (λb=>(T i).τ.still b\/(T i).τ.pass b) i w'.heap.size e):vB P ty Wg A Fin Shun gs w t T sl i:=by
 have aN:i<gs.size:=(dP.1 hi).1;obtain⟨k,hB⟩:=hK;have oX:¬ph'.leaves:=λe=>by cases ph'<;>first|exact e.elim|exact yH.elim
 have Ai:(T i).ph≠ .gone:=λe=>by rw[e] at hl;exact hl
 have hS:=h.st.phase (r:=.inr (f k)) (g':=g') Ai aN a ph' (λe=>by rw[e] at yH;exact yH) (λ_=>yH) h1 Kv (λl e=>by cases ph'<;>simp_all [Ph.proj,Ph.live]) Ay hinv;have Qt:bG T i ⟨ph',.inr (f k),(T i).τ,g'⟩ i=⟨ph',.inr (f k),(T i).τ,g'⟩:=upd_same _ _ _;refine Za hi h.st.n0 (Ti:=⟨ph',.inr (f k),(T i).τ,g'⟩) zaQ Pe hS ?_
 refine h.dy.go hi ((pF (T:=⟨ph',.inr (f k),(T i).τ,g'⟩) oX).2 ⟨f k,rfl,hB,.inl (lQ.self lW)⟩) Kg
  (λj _=>bT.of_aside a ⟨λe=>(h.st.bnd j Wg (.inl e)).2.1 rfl,λe=>(h.st.bnd j Wg (.inr e)).2.1 rfl⟩ Kv) h.dy.keepC (h.dy.keepW hW) ?_
 refine hS.tiEvents aN (by rw[Qt];exact yH) _ _ ?_ λe he=>?_
 .have:=h.dy.tr.phase (i:=i) (ph':=ph') (.inr (f k)) g' ⟨λ_=>hl,λ_=>yH⟩
  rwa [a.size]
 .rw[Qt];exact xZ e he
def Inv.dead (h:Inv P ty Wg A Fin Shun gs w t T ch)(hi:gs[i]? =some x)(dL:lQ x (T i).g)(aY:stepG P (i==0) (T i).g w=.go g' w' es)(nL:g'.status≠ .blocked){Ti:Td L}(hr:Cl Ti.r (T i).r)(hτ:Ti.τ=(T i).τ)
 (hl:¬(T i).ph.live) (hg:(T i).ph≠ .gone) (h0:i≠0) (yH:¬Ti.ph.live) (wY:Ti.ph≠ .gone) (a:Ls Wg w w') (Kv:WgLive ty Wg w->WgLive ty Wg w')
 (zji:Sits P ty Wg A Fin i Ti (n9 (iA t i) es) g' w') (zdf:Ti.ph.proj=(T i).ph.proj)
 (Ay:gP A ty Wg (bG (λj=>(T j).ph) i Ti.ph) gs.size w') (hW:(mayWake P (T i).g=true/\g'.status=.running)\/(gD ty Wg w' 0 1->gD ty Wg w 0 1))
 (xZ:∀(l r:List oC) (e:oC),es.toList=l++e::r->(∀a,(jN e).touch? =some a->nE a.loc Wg/\a.kind=.atomic/\0<n9 (iA t i) l.toArray)/\jN e≠ .mark (.release (stA Wg))/\(jN e).low w'.heap.size):vB P ty Wg A Fin Shun gs w t T sl i:=by
 have aN:=(dP.1 hi).1;obtain⟨ph',r',τ',Sr⟩:=Ti;simp only at hτ yH wY zdf Ay hr;subst hτ;have Jw:bG (λj=>(T j).ph.proj) i ph'.proj=λj=>(T j).ph.proj:=by rw[zdf];exact zgO (λj=>(T j).ph.proj) i
 have hS:=h.st.phase (r:=r') (g':=Sr) hg aN a ph' wY (λe=>absurd e h0) (λ_ e=>by cases ph'<;>first|exact e.elim|exact yH e) Kv (λl e=>.inl (by rw[<-zdf];exact e)) Ay (by rw[Jw];exact h.st.inv);refine Za hi h.st.n0 (Ti:=⟨ph',r',(T i).τ,Sr⟩) zaQ hr hS ?_
 refine h.dy.go hi zji nL
  (λj _=>bT.of_aside a ⟨λe=>(h.st.bnd j Wg (.inl e)).2.1 rfl,λe=>(h.st.bnd j Wg (.inr e)).2.1 rfl⟩ Kv) h.dy.keepC ?_ ?_
 .intro eV x0 tE xC hb cN
  rcases hW with⟨hm,wE⟩|hW
  .exfalso
   have hs:=h.dy.sit 0 x0 tE;rw[pF (by rw[xC];exact id)] at hs;obtain⟨_,_,_,hx|⟨_,_,_,hx,_⟩|⟨_,hx,ho⟩⟩:=hs
   .rw[hx.1] at hb;cases hb
   .rw[xC] at hx;cases hx
   .have zek:mayWake P x=true:=by
     rw[<-hm];unfold mayWake;rw[dL.2.1]
    rw[hx] at cN;unfold woken at cN;rw[zek,wE] at cN;simp[zgc,ho] at cN
  .exact h.dy.slpW x0 tE xC hb∘hW
 .have h1:=h.dy.tr.phase (i:=i) (ph':=ph') r' Sr ⟨λe=>absurd e yH,λe=>absurd e hl⟩
  have h2:TI Wg gs.size (λk=>(bG T i ⟨ph',r',(T i).τ,Sr⟩ k).τ.own) (λk b=>(bG T i ⟨ph',r',(T i).τ,Sr⟩ k).τ.still b\/(bG T i ⟨ph',r',(T i).τ,Sr⟩ k).τ.pass b) (λk=>(bG T i ⟨ph',r',(T i).τ,Sr⟩ k).ph.live) Shun w'.heap.size t:=by rwa [a.size]
  have:=h2.deafs (k:=i) aN hS.noWg x.frame.fn x.frame.place es.toList xZ;simpa using this
def zpl {n B d:Nat}{es:Array oC}(hm:∀e∈es,zdN e=true):∀(l r:List oC) (e:oC),es.toList=l++e::r->(∀a,(jN e).touch? =some a->nE a.loc Wg/\a.kind=.atomic/\0<n9 d l.toArray)/\jN e≠ .mark (.release (stA Wg))/\(jN e).low B:=by
 intro l r e he;have zf9:=hm e (by rw[<-Array.mem_toList_iff,he];simp);have:=zdF (Wg:=Wg) (own:=λ_=>False) (pas:=λ_=>False) (k:=0) (B:=B) zf9;exact⟨λa ha=>(by rw[zky zf9] at ha;cases ha),this.2.1,this.2.2⟩
def Inv.idle1 {K:Bool->Ph L->Nat->cF->bC->aE->Prop}(h:Inv P ty Wg A Fin Shun gs w t T ch)(hi:gs[i]? =some x)(dL:lQ x (T i).g)(hl:¬(T i).ph.live)(oX:¬(T i).ph.leaves){ι:Type}{f:ι->Rk}(hr:(T i).r=.inr (.mk ι f))
 (hK:∀m ph d τ g w,K m ph d τ g w->∃k,o7 P ty Wg A Fin (f k) m ph d τ g w) (ho:zaP P ty Wg K (i==0) (T i).ph (iA t i) (T i).τ (T i).g w):vB P ty Wg A Fin Shun gs w t T sl i:=by
 obtain⟨g',es,aY,lW,hm,hk⟩:=ho w bT.refl;obtain⟨k,hB⟩:=hK _ _ _ _ _ _ hk;have h0:i≠0:=λe=>by subst e;exact hl h.st.role0
 have Ai:(T i).ph≠ .gone:=λe=>by rw[e] at oX;exact oX trivial
 have eu:=zgO (λj=>(T j).ph) i
 exact h.dead hi dL aY Kg (Ti:=⟨(T i).ph,.inr (f k),(T i).τ,g'⟩) Pe rfl hl Ai h0 hl Ai (Nj _ _) id
  ((pF (T:=⟨(T i).ph,.inr (f k),(T i).τ,g'⟩) oX).2 ⟨f k,rfl,hB,.inl (lQ.self lW)⟩) rfl (by rw[eu];exact h.st.grp) (.inr id) (zpl (n:=0) hm)
def Inv.release (hA:A.Ok)(h:Inv P ty Wg A Fin Shun gs w t T ch)(hi:gs[i]? =some x)(dL:lQ x (T i).g)(aY:stepG P (i==0) (T i).g w=.go g' w #[oE (.releaseMerge (stA Wg))])(lW:g'.status=.running){ι:Type}{f:ι->Rk}(hr:(T i).r=.inr (.mk ι f))
 {l:L} (hl:(T i).ph=.usr l) (p8:A.act l=.done) (hd:iA t i=0) (tV:∀aI,bT ty Wg (T i).τ w aI->A.dep l aI)
 (hK:∃k,o7 P ty Wg A Fin (f k) (i==0) (.rel l) 0 (T i).τ g' w):vB P ty Wg A Fin Shun gs w t T sl i:=by
 have aN:=(dP.1 hi).1;obtain⟨k,hB⟩:=hK;obtain⟨h0,hinv⟩:=hA.done _ ch i l h.st.inv (by show(T i).ph.proj=_;rw[hl];rfl) p8;have Ay:gP A ty Wg (bG (λj=>(T j).ph) i (.rel l)) gs.size w:=by
  refine h.st.grp.congr (.inl (upd_ne _ _ (Ne.symm h0))) ?_ λj hj=>?_
  .unfold vv
   rw[zgr A _ h0];have:=zge (λj=>(T j).ph) (i:=i) (n:=gs.size) (.rel l) aN h0;simp only[hl,Ph.pre,if_true] at this;omega
  .by_cases eR:j=i
   .subst eR;rw[upd_same] at hj
    have:=hj;rw[hl] at this;exact(this.elim id id).elim
   .exact upd_ne _ _ eR
 have hS:=h.st.phase (r:=.inr (f k)) (g':=g') (by rw[hl];simp) aN (Nj _ _) (.rel l) aO (λe=>absurd e h0) (λ_ e=>e) id (λl' e=>.inr (by
  simp only[Ph.proj,Pj.over.injEq] at e;subst e;exact tV)) Ay hinv
 refine Za hi h.st.n0 (Ti:=⟨.rel l,.inr (f k),(T i).τ,g'⟩) zaQ Pe hS ?_;refine h.dy.go hi ((pF (T:=⟨.rel l,.inr (f k),(T i).τ,g'⟩) (by exact id)).2 ⟨f k,rfl,?_,.inl (lQ.self lW)⟩) Kg (λj _=>bT.refl) h.dy.keepC (h.dy.keepW id) ?_
 .have:n9 (iA t i) #[oE (.releaseMerge (stA Wg))]=0:=by rw[hd];rfl
  rw[this];exact hB
 .have e1:(λk'=>(bG T i ⟨.rel l,.inr (f k),(T i).τ,g'⟩ k').τ.own)=λk'=>(T k').τ.own:=funext λj=>by rw[zhh]
  have e2:(λk' b=>(bG T i ⟨.rel l,.inr (f k),(T i).τ,g'⟩ k').τ.still b\/(bG T i ⟨.rel l,.inr (f k),(T i).τ,g'⟩ k').τ.pass b)=λk' b=>(T k').τ.still b\/(T k').τ.pass b:=funext λj=>by rw[zhh]
  rw[e1,e2];have mJ:vQ i x.frame.fn x.frame.place #[oE (.releaseMerge (stA Wg))]=#[{g:=i,fn:=x.frame.fn,pos:=x.frame.place,act:=.mark (.releaseMerge (stA Wg))}]:=by simp[vQ,oE,jN]
  rw[mJ];refine h.dy.tr.release aN rfl rfl hd h.st.grp.live.lt (λj hj=>?_) λj hj=>?_
  .by_cases eR:j=i
   .subst eR;rw[upd_same] at hj;exact hj.elim
   .rw[upd_ne _ _ eR] at hj;exact hj
  .by_cases eR:j=i
   .exact .inr eR
   .left;rw[upd_ne _ _ eR];exact hj
def Inv.acquire (h:Inv P ty Wg A Fin Shun gs w t T ch)(hi:gs[0]? =some x)(dL:lQ x (T 0).g)(aY:stepG P true (T 0).g w=.go g' w #[oE (.acquire (stA Wg))])(lW:g'.status=.running)(hd:iA t 0=0)
 (hq:∀j,j≠0->(T j).ph.leaves) (hF:Fin g' w):vB P ty Wg A Fin Shun gs w t T sl 0:=by
 have aN:0<gs.size:=h.st.n0;have Mz:stepG P (0==0) x w=.go g' w #[oE (.acquire (stA Wg))]:=by rw[show((0:Nat)==0)=true from rfl,dL.step];exact aY
 refine⟨_,_,Y1 hi Mz,.inl ⟨_,g',w,sl,λj=>match(T j).r with| .inl q=>q|_=>0,rfl,by simp[aN],lW,hF,?_⟩⟩;have mJ:vQ 0 x.frame.fn x.frame.place #[oE (.acquire (stA Wg))]=#[{g:=0,fn:=x.frame.fn,pos:=x.frame.place,act:=.mark (.acquire (stA Wg))}]:=by simp[vQ,oE,jN]
 rw[mJ]
 obtain⟨hP,qK⟩:=h.dy.tr.acquire (y:={g:=0,fn:=x.frame.fn,pos:=x.frame.place,act:=.mark (.acquire (stA Wg))}) aN rfl rfl hd h.st.grp.live.lt (λj hj=>by
  refine zY λaT=>?_;have:=hq j aT;have oZ:(T j).ph.live:=hj;cases hp:(T j).ph<;>rw[hp] at this oZ<;>first|exact this.elim|exact oZ.elim)
 refine⟨⟨λj y hj hy=>?_,λj hj=>qK j zcC⟩,hP⟩;have aT:0≠j:=aC;rw[jV aT,yB] at hy;obtain⟨y0,Tr,rfl⟩:=xK.1 hy;have hs:=h.dy.sit j y0 Tr;rw[Hc (hq j aC)] at hs;obtain⟨q,Pp,hQ⟩:=hs;rw[zjs hQ,Nl t (g:=j) (g':=0) aT _ (λop hop=>by simp at hop;rw[hop])];simp only[Pp];exact hQ
end
end Go.Mt
namespace Go.Mt
open Go.Conc
open Go.ConcR (KK wgBlock WgAt stA smA rd wr)
section
variable {L:Type}{P:bS}{ty:aM}{Wg:Nat}{A:jU L}{Fin:bC->aE->Prop}{Shun:Loc->Prop}
variable {gs gs':Array bC}{w w':aE}{t t':lU}{T T':Nat->Td L}{ch tN:rP}{sl:Option (Nat×Nat)}{i j:Nat}{x g':bC}{es:Array oC}
def Fu.gen (h:Fu (P:=P) (ty:=ty) (Wg:=Wg) (A:=A) (Fin:=Fin) gs w t T ch Shun)(M:Nat->Prop)(zna:∀j,¬M j->gs'[j]? =gs[j]? /\T' j=T j)
 (zlu:∀j y,M j->gs'[j]? =some y->y.status≠ .blocked/\Sits P ty Wg A Fin j (T' j) (iA t' j) y w') (zjW:∀j,¬M j->bT ty Wg (T j).τ w w') (zD7:∀j,¬M j->iA t' j=iA t j)
 (tM:∀c,tN c=some true->ch c=some true) (hW:gD ty Wg w' 0 1->gD ty Wg w 0 1)
 (zhJ:TI Wg gs'.size (λk=>(T' k).τ.own) (λk b=>(T' k).τ.still b\/(T' k).τ.pass b) (λk=>(T' k).ph.live) Shun w'.heap.size t'):
 Fu (P:=P) (ty:=ty) (Wg:=Wg) (A:=A) (Fin:=Fin) gs' w' t' T' tN Shun:=by
 have old:∀(j:Nat) (g:bC) (cs:Array znw) (sh:Mq),gs'[j]? =some (parked g cs sh)->gs[j]? =some (parked g cs sh):=by
  intro j g cs sh hj;by_cases hm:M j
  .exact absurd rfl (zlu j _ hm hj).1
  .rw[<-(zna j hm).1];exact hj
 refine⟨λj y hj=>?_,λa b ga gb c v z z' sh xD ha hb=>h.slp a b ga gb c v z z' sh xD (old _ _ _ _ ha) (old _ _ _ _ hb),λj g c z sh hj hc=>h.slpC j g c z sh (old _ _ _ _ hj) (tM c hc),λy hy xC hb=>?_,zhJ⟩
 .by_cases hm:M j
  .exact(zlu j y hm hj).2
  .obtain⟨h1,h2⟩:=zna j hm
   rw[h2,zD7 j hm];rw[h1] at hj;exact(h.sit j y hj).rely (zjW j hm)
 .by_cases hm:M 0
  .exact absurd hb (zlu 0 y hm hy).1
  .obtain⟨h1,h2⟩:=zna 0 hm
   rw[h1] at hy;rw[h2] at xC;exact λe=>h.slpW y hy xC hb (hW e)
def zlz (t:lU)(g:Nat)(u:lU)(hu:∀op∈u,op.act≠ .mark .disable/\op.act≠ .mark .enable):iA (t++u) g=iA t g:=by
 obtain⟨l⟩:=u;rw[Deaf_append];have key:∀(l:List Tm) (d:Nat),(∀op∈l,op.act≠ .mark .disable/\op.act≠ .mark .enable)->l.foldl (deafStep g) d=d:=by
  intro l
  induction l with
  |nil=>intro d _;rfl
  |cons y l ih=>
   intro d hl;have e:deafStep g d y=d:=by
    have:=hl y aO;unfold deafStep;split<;>simp_all
   rw[List.foldl_cons,e];exact ih d λop hop=>hl op (by simp[hop])
 exact key l _ λop hop=>hu op (by simpa using hop)
def TI.idles {n B:Nat}{own pas:Nat->Nat->Prop}{live:Nat->Prop}:∀(u:List Tm) {t:lU},TI Wg n own pas live Shun B t->(∀op∈u,op.g<n/\op.act.touch? =none/\op.act≠ .mark (.release (stA Wg))/\op.act.low B)->TI Wg n own pas live Shun B (t++u.toArray)
 |[],t,h,_=>by simpa using h
 |y::u,t,h,hu=>by
  have e1:t++(y::u).toArray=(t++ #[y])++u.toArray:=by apply Ik;simp
  rw[e1];obtain⟨h1,h2,h3,h4⟩:=hu y aO;exact TI.idles u (h.idle h1 (λa ha=>by rw[h2] at ha;cases ha) h3 h4) λop hop=>hu op (by simp[hop])
def Inv.offerR (h:Inv P ty Wg A Fin Shun gs w t T ch){k c:Nat}{y:bC}(hk:gs[k]? =some y)(aT:offersAt y c false≠[]):
 ∃l ok nx s z b,(T k).ph=.usr l/\A.act l=.recv c ok nx s/\y=parked (T k).g #[rcase c z] (.recv b)/\(∀aI,bT ty Wg (T k).τ w aI->stepG P (k==0) (T k).g aI=.comm (T k).g #[rcase c z] true (.recv b) aI #[]):=by
 have hs:=h.dy.sit k y hk;by_cases hl:(T k).ph.leaves
 .rw[Hc hl] at hs
  obtain⟨q,_,hQ⟩:=hs;refine absurd (Vq ?_ c false) aT;rcases hQ.status with e|e<;>rw[e]<;>simp
 .rw[pF hl] at hs
  obtain⟨r,_,_,hx|⟨l,cs,sh,h1,rfl,h3,h4⟩|⟨_,rfl,ho⟩⟩:=hs
  .exact absurd (Vq (by rw[hx.1];simp) c false) aT
  .rcases h4 with⟨c',ok,pub,nx,v,z,h5,rfl,rfl⟩|⟨c',ok,nx,s,z,b,h5,rfl,rfl⟩
   .exact absurd (offersAt_parked_send' _ _ _ _ _ _) aT
   .rw[zhx] at aT
    by_cases hc:c'=c
    .subst hc;exact⟨l,ok,nx,s,z,b,h1,h5,rfl,h3⟩
    .rw[if_neg hc] at aT;exact absurd rfl aT
  .refine absurd ?_ aT
   simp[offersAt,ho]
def Inv.offerS (h:Inv P ty Wg A Fin Shun gs w t T ch){k c:Nat}{y:bC}(hk:gs[k]? =some y)(aT:offersAt y c true≠[]):
 ∃l ok pub nx v z,(T k).ph=.usr l/\A.act l=.send c ok pub nx/\y=parked (T k).g #[scase c v z] .send/\(∀aI,bT ty Wg (T k).τ w aI->stepG P (k==0) (T k).g aI=.comm (T k).g #[scase c v z] true .send aI #[]):=by
 have hs:=h.dy.sit k y hk;by_cases hl:(T k).ph.leaves
 .rw[Hc hl] at hs
  obtain⟨q,_,hQ⟩:=hs;refine absurd (Vq ?_ c true) aT;rcases hQ.status with e|e<;>rw[e]<;>simp
 .rw[pF hl] at hs
  obtain⟨r,_,_,hx|⟨l,cs,sh,h1,rfl,h3,h4⟩|⟨_,rfl,ho⟩⟩:=hs
  .exact absurd (Vq (by rw[hx.1];simp) c true) aT
  .rcases h4 with⟨c',ok,pub,nx,v,z,h5,rfl,rfl⟩|⟨c',ok,nx,s,z,b,h5,rfl,rfl⟩
   .rw[znf] at aT
    by_cases hc:c'=c
    .subst hc;exact⟨l,ok,pub,nx,v,z,h1,h5,rfl,h3⟩
    .rw[if_neg hc] at aT;exact absurd rfl aT
   .exact absurd (offersAt_parked_recv' _ _ _ _ _) aT
  .refine absurd ?_ aT
   simp[offersAt,ho]
def setChan_at (w:aE)(c cap:Nat)(Lx:Array aF)(cl:Bool)(s r:Nat)(tm:Bool)(h:c<w.heap.size):(w.setChan c cap Lx cl s r tm).heap[c]? =some (.chan cap Lx cl s r tm):=by
 simp[J8,h]
def zoc (w:aE)(c cap:Nat)(Lx:Array aF)(cl:Bool)(s r:Nat)(tm:Bool):Ls c w (w.setChan c cap Lx cl s r tm):=
 ⟨rfl,rfl,rfl,by simp[J8],λk hk=>by simp only[J8];rw[jV (Ne.symm hk)]⟩
def Inv.meet (hA:A.Ok)(h:Inv P ty Wg A Fin Shun gs w t T ch)(q9:i≠j)(nY:i<gs.size)(Y3:j<gs.size){c:Nat}{li lj:L}{ok pE:aF->Prop}{pub:aF->List Nat}{nx nQ:aF->L}{sh:L}
 (zke:(T i).ph=.usr li) (Rf:A.act li=.send c ok pub nx) (ziX:(T j).ph=.usr lj) (zng:A.act lj=.recv c pE nQ sh) {ιi ιj:Type} {fi:ιi->Rk} {fj:ιj->Rk} (zzk:(T i).r=.inr (.mk ιi fi)) (My:(T j).r=.inr (.mk ιj fj))
 {v:aF} {τ':cF} {b:Bool} (bU:ok v) (ho:∀b,τ'.own b->(T i).τ.own b) (aY:τ'.still=(T i).τ.still) (Lu:∀b,τ'.pass b->(T i).τ.pass b\/(T i).τ.own b)
 (C5:∀a∈pub v,(T i).τ.own a/\¬τ'.own a/\¬τ'.still a/\Ij w a)
 (zIY:∃k,o7 P ty Wg A Fin (fi k) (i==0) (.usr (nx v)) (iA t i) τ' (o9 (T i).g aA) w)
 (zAh:pE v->(∀a∈A.got lj v,a<w.heap.size/\¬(T j).τ.own a/\¬(T j).τ.still a)->∃k,o7 P ty Wg A Fin (fj k) (j==0) (.usr (nQ v)) (iA t j) (T j).τ (o9 (T j).g (recvd b v true)) w)
 {s r:Nat} (hc:w.heap[c]? =some (.chan 0 #[] false s r false)) (cG:gs'.size=gs.size) (Ef:gs'[i]? =some (o9 (T i).g aA)) (zbN:gs'[j]? =some (o9 (T j).g (recvd b v true)))
 (zDw:∀k,k≠i->k≠j->gs'[k]? =gs[k]?) {u:lU} (hu:∀op∈u,op.g<gs.size/\op.act.touch? =none/\op.act≠ .mark (.release (stA Wg))/\op.act.low w.heap.size/\op.act≠ .mark .disable/\op.act≠ .mark .enable):
 ∃T' tN,Inv P ty Wg A Fin Shun gs' (w.setChan c 0 #[] false (s+1) (r+1) false) (t++u) T' tN/\Mu.lt (mu gs' T') (mu gs T):=by
 have zcH:(λk=>(T k).ph.proj) i=.run li:=by show(T i).ph.proj=_;rw[zke];rfl
 have Jw:(λk=>(T k).ph.proj) j=.run lj:=by show(T j).ph.proj=_;rw[ziX];rfl
 have Nx:=hA.sendC _ ch i li c ok pub nx h.st.inv zcH Rf;obtain⟨zGs,hinv⟩:=hA.meet _ ch i j li lj c ok pub nx pE nQ sh v h.st.inv zcH Jw Rf zng bU λa ha=>(h.st.bnd i a (.inl (C5 a ha).1)).2.2;obtain⟨ki,zAO⟩:=zIY
 obtain⟨kj,zFt⟩:=zAh zGs λa ha=>by
  obtain⟨p1,_,_,p4⟩:=C5 a (hA.gotP _ ch i j li lj c ok pub nx pE nQ sh v h.st.inv zcH Jw Rf zng bU a ha);obtain⟨q1,q2,_⟩:=h.st.sep i j a q9 p1;exact⟨(dP.1 p4).1,q1,q2⟩
 have Jj:=(dP.1 hc).1;have a:=zoc w c 0 #[] false (s+1) (r+1) false;have Aa:=(h.st.chan c _ Nx).1
 have hS:=h.st.meet q9 nY Y3 Nx a zke ziX (.inr (fi ki)) (.inr (fj kj)) (o9 (T i).g aA) (o9 (T j).g (recvd b v true)) τ' (pub v) ho aY Lu C5
  ⟨s+1,r+1,setChan_at w c 0 #[] false (s+1) (r+1) false Jj⟩ (li':=nx v) (lj':=nQ v) (hA.pendC li _ c v ok pub nx Rf rfl) (hA.pendR lj _ c v pE nQ sh zng (.inl rfl)) hinv
 have nc:∀k,¬(T k).τ.own c/\¬(T k).τ.still c:=λk=>⟨λe=>ztM,λe=>zpo⟩;have Lf:∀k,iA (t++u) k=iA t k:=λk=>zlz t k u λop hop=>⟨(hu op hop).2.2.2.2.1,(hu op hop).2.2.2.2.2⟩;generalize hU:bG (bG T i ⟨.usr (nx v),.inr (fi ki),τ',o9 (T i).g aA⟩) j ⟨.usr (nQ v),.inr (fj kj),(T j).τ,o9 (T j).g (recvd b v true)⟩=U at hS;have ui:U i=⟨.usr (nx v),.inr (fi ki),τ',o9 (T i).g aA⟩:=by rw[<-hU,upd_ne _ _ q9,upd_same]
 have uj:U j=⟨.usr (nQ v),.inr (fj kj),(T j).τ,o9 (T j).g (recvd b v true)⟩:=by rw[<-hU,upd_same]
 have uk:∀k,k≠i->k≠j->U k=T k:=λk h1 h2=>by rw[<-hU,upd_ne _ _ h2,upd_ne _ _ h1]
 refine⟨U,ch.opn (pub v),⟨by rw[cG];exact hS,h.dy.gen (λk=>k=i\/k=j) (λk hk=>⟨zDw k (λe=>hk (.inl e)) (λe=>hk (.inr e)),uk k (λe=>hk (.inl e)) (λe=>hk (.inr e))⟩) (λk y hk hy=>?_)
  (λk _=>bT.of_aside a (nc k) (Yp a Aa)) (λk _=>Lf k) (λc' kI=>?_) (λe=>(a.block Wg (Ne.symm Aa)).symm.trans e) ?_⟩,?_⟩
 .rcases hk with rfl|rfl
  .rw[Ef] at hy;cases hy
   refine⟨by simp[o9],?_⟩;rw[ui,Lf];refine(pF (T:=⟨.usr (nx v),.inr (fi ki),τ',o9 (T k).g aA⟩) id).2 ⟨fi ki,rfl,zAO.rely (bT.of_aside a ⟨λe=>(nc k).1 (ho c e),λe=>(nc k).2 (aY▸e)⟩ (Yp a Aa)),.inl (lQ.self rfl)⟩
  .rw[zbN] at hy;cases hy
   refine⟨by simp[o9],?_⟩;rw[uj,Lf];exact(pF (T:=⟨.usr (nQ v),.inr (fj kj),(T k).τ,o9 (T k).g (recvd b v true)⟩) id).2 ⟨fj kj,rfl,zFt.rely (bT.of_aside a (nc k) (Yp a Aa)),.inl (lQ.self rfl)⟩
 .by_cases hp:c'∈pub v
  .rw[zef hp] at kI;cases kI
  .rw[Xn hp] at kI;exact kI
 .rw[cG,a.size]
  have h1:=h.dy.tr.idles u.toList (λop hop=>by have:=hu op (by simpa using hop);exact⟨this.1,this.2.1,this.2.2.1,this.2.2.2.1⟩);have e0:u.toList.toArray=u:=aO;rw[e0] at h1;have e3:(λk=>(U k).ph.live)=λk=>(T k).ph.live:=funext λk=>by
   by_cases k1:k=i
   .subst k1;rw[ui,zke];rfl
   .by_cases k2:k=j
    .subst k2;rw[uj,ziX];rfl
    .rw[uk k k1 k2]
  rw[e3];refine h1.less (λk b _ hb=>?_) (λk b _ hb=>?_) (aX _)
  .by_cases k1:k=i
   .subst k1;rw[ui] at hb;exact .inl (ho b hb)
   .by_cases k2:k=j
    .subst k2;rw[uj] at hb;exact .inl hb
    .rw[uk k k1 k2] at hb;exact .inl hb
  .by_cases k1:k=i
   .subst k1;rw[ui] at hb
    rcases hb with hb|hb
    .exact .inl (.inl (aY▸hb))
    .exact(Lu b hb).elim (λe=>.inl (.inr e)) λe=>.inr (.inl e)
   .by_cases k2:k=j
    .subst k2;rw[uj] at hb;exact .inl hb
    .rw[uk k k1 k2] at hb;exact .inl hb
 .rcases nC i j with aN|Aq
  .exact Wc (i:=i) (λ_=>cG) aC nY aC (by rw[ui,zzk];exact .inr (.mk fi ki)) λk hk=>by rw[uk k aC aC]
  .exact Wc (i:=j) (λ_=>cG) aC Y3 aC (by rw[uj,My];exact .inr (.mk fj kj)) λk hk=>by rw[uk k aC aC]
def zE1 {xs:Array bC}{i:Nat}{y z:bC}(h:xs[i]? =some y)(hy:Oi y=true)(hz:Oi z=false):(xs.setIfInBounds i z).countP Oi<xs.countP Oi:=by
 obtain⟨aN,rfl⟩:=dP.1 h;have e:xs.setIfInBounds i z=xs.set i z:=by simp[Array.setIfInBounds,aN]
 rw[e,Array.countP_set aN];have:=Array.countP_pos_iff.2 ⟨xs[i],Array.getElem_mem aN,hy⟩;simp only[hy,hz,if_true,jE,if_false];omega
def Inv.park (h:Inv P ty Wg A Fin Shun gs w t T ch)(hi:gs[i]? =some x)(cH:x.status=.running)(oX:¬(T i).ph.leaves){y:bC}(hy:y.status=.blocked)
 (hP:zdV P ty Wg A (i==0) (T i) y w\/zme (T i) y) (hW:i=0->(T 0).ph=.w3->¬gD ty Wg w 0 1)
 (hR:∀(c:Nat) (v z:aF) (sh:Mq) (g:bC),y=parked g #[scase c v z] sh->∀(k:Nat) (yk:bC),gs[k]? =some yk->offersAt yk c false=[]) (hS:∀(c:Nat) (z:aF) (sh:Mq) (g:bC),y=parked g #[rcase c z] sh->ch c≠some true/\∀(k:Nat) (yk:bC),gs[k]? =some yk->offersAt yk c true=[]):
 Inv P ty Wg A Fin Shun (gs.setIfInBounds i y) w (t++ #[]) T ch/\Mu.lt (mu (gs.setIfInBounds i y) T) (mu gs T):=by
 have aN:=(dP.1 hi).1;have cG:(gs.setIfInBounds i y).size=gs.size:=aO;have get:∀(k:Nat) (z:bC),(gs.setIfInBounds i y)[k]? =some z->(k=i/\z=y)\/(k≠i/\gs[k]? =some z):=by
  intro k z hk;by_cases C8:i=k
  .subst C8
   rw[Ki aN] at hk;exact .inl ⟨rfl,(cE hk).symm⟩
  .rw[jV C8] at hk
   exact .inr ⟨λe=>C8 e.symm,hk⟩
 have et:t++ #[]=t:=aO;refine⟨⟨by rw[cG];exact h.st,?_⟩,mu_dec' cG (zE1 hi (by simp[Oi,cH]) (by simp[Oi,hy]))⟩;rw[et];refine⟨λk z hk=>?_,λa b ga gb c v z z' sh xD ha hb=>?_,λk g c z sh hk=>?_,λz hz xC hb=>?_,by rw[cG];exact h.dy.tr⟩
 .rcases get k z hk with⟨rfl,rfl⟩|⟨aT,cO⟩
  .have hs:=h.dy.sit k x hi
   rw[pF oX] at hs⊢;obtain⟨r,h1,h2,_⟩:=hs;exact⟨r,h1,h2,.inr hP⟩
  .exact h.dy.sit k z cO
 .rcases get a _ ha with⟨ea,fM⟩|⟨Ms,fM⟩
  .rcases get b _ hb with⟨eb,b6⟩|⟨nL,b6⟩
   .rw[<-fM] at b6
    simp[parked,rcase,scase] at b6
   .have:=hR c v z sh ga fM.symm b _ b6
    rw[zhx] at this;simp at this
  .rcases get b _ hb with⟨eb,b6⟩|⟨nL,b6⟩
   .have:=(hS c z' xD gb b6.symm).2 a _ fM
    rw[znf] at this;simp at this
   .exact h.dy.slp a b ga gb c v z z' sh xD fM b6
 .rcases get k _ hk with⟨_,e⟩|⟨_,cO⟩
  .exact(hS c z sh g e.symm).1
  .exact h.dy.slpC k g c z sh cO
 .rcases get 0 z hz with⟨e,_⟩|⟨_,cO⟩
  .exact hW e.symm xC
  .exact h.dy.slpW z cO xC hb
end
section
variable {L:Type}{P:bS}{ty:aM}{Wg:Nat}{A:jU L}{Fin:bC->aE->Prop}{Shun:Loc->Prop}
variable {gs gs':Array bC}{w w':aE}{t t':lU}{T T':Nat->Td L}{ch tN:rP}{sl:Option (Nat×Nat)}{i j:Nat}{x g':bC}{es:Array oC}
def ze5 (i:Nat)(fn:aP)(pos:String):vQ i fn pos #[]=#[]:=rfl
variable {b:Bool}
def zkf {c:Nat}(h:∀(k:Nat) (y:bC),gs[k]? =some y->offersAt y c b=[]):partners (gs.setIfInBounds i zfB) c b=[]:=by
 refine partners_nil λk y hk=>?_;rcases ztK gs i k y hk with⟨_,rfl⟩|⟨_,cO⟩
 .rfl
 .exact h k y cO
def zvh {c k:Nat}{y:bC}(C8:k≠i)(hk:gs[k]? =some y)(ho:offersAt y c b=[0])(h:∀(m:Nat) (z:bC),m≠k->gs[m]? =some z->offersAt z c b=[]):partners (gs.setIfInBounds i zfB) c b=[(k,0)]:=by
 rw[partners_one (stand_get C8 hk) λm z hm hz=>?_,ho]
 .rfl
 .rcases ztK gs i m z hz with⟨_,rfl⟩|⟨_,G0⟩
  .rfl
  .exact h m z hm G0
def Inv.send (hA:A.Ok)(h:Inv P ty Wg A Fin Shun gs w t T ch)(hi:gs[i]? =some x)(dL:lQ x (T i).g){ι:Type}{f:ι->Rk}(hr:(T i).r=.inr (.mk ι f)){l:L}(hl:(T i).ph=.usr l){c:Nat}{ok:aF->Prop}{pub:aF->List Nat}{nx:aF->L}
 (ha:A.act l=.send c ok pub nx) (hB:mF P ty Wg A (λm ph d τ g w=>∃k,o7 P ty Wg A Fin (f k) m ph d τ g w) (i==0) l (iA t i) (T i).τ (T i).g w):vB P ty Wg A Fin Shun gs w t T sl i:=by
 have aN:i<gs.size:=(dP.1 hi).1;unfold mF at hB;rw[ha] at hB;obtain⟨Dl,v,z,τ',h1,h2,h3,h4,K8,h5,h6⟩:=hB;have hp:(λk=>(T k).ph.proj) i=.run l:=by show(T i).ph.proj=_;rw[hl];rfl
 have Nx:=hA.sendC _ ch i l c ok pub nx h.st.inv hp ha;obtain⟨_,s,r,hc⟩:=h.st.chan c _ Nx;have vJ:stepG P (i==0) x w=.comm (T i).g #[scase c v z] true .send w #[]:=by rw[dL.step];exact h1 w bT.refl
 by_cases hk:∃(k:Nat) (y:bC),gs[k]? =some y/\offersAt y c false≠[]
 .obtain⟨k,y,hk,aT⟩:=hk
  have C8:k≠i:=λe=>by
   subst e;rw[hi] at hk;cases hk;exact aT (Vq (by rw[dL.1];simp) c false)
  have Yw:k<gs.size:=(dP.1 hk).1;obtain⟨lk,pE,nQ,sh,zk,b,wV,Mw,rfl,zcF⟩:=h.offerR hk aT;have zkd:(λk=>(T k).ph.proj) k=.run lk:=by show(T k).ph.proj=_;rw[wV];rfl
  have znG:partners (gs.setIfInBounds i zfB) c false=[(k,0)]:=by
   refine zvh C8 hk (by rw[zhx];simp) λm y' hm znt=>zY λhn=>?_;obtain⟨lm,zif,zm6,sm,_,_,Zh,ziG,_⟩:=h.offerR znt hn;exact hm (hA.recv1 _ ch m k lm lk c zif zm6 sm pE nQ sh h.st.inv (by show(T m).ph.proj=_;rw[Zh];rfl) zkd ziG Mw)
  have zak:=crowd_send_meets (P:=P) (sl:=sl) hi vJ hc C8 hk znG;have hs:=h.dy.sit k _ hk;rw[pF (by rw[wV];exact id)] at hs;obtain⟨rk,zmT,xX,_⟩:=hs
  cases rk with
  |mk ιk fk=>
   obtain⟨_,xX⟩:=xX;rw[wV] at xX;rcases xX with xX|xX
   .obtain⟨g',w',es,aY,_⟩:=xX w bT.refl
    rw[zcF w bT.refl] at aY;cases aY
   .simp only[zN,mF,Mw] at xX
    obtain⟨_,z',b',nZ,vA,Ic⟩:=xX;have e:=(nZ w bT.refl).symm.trans (zcF w bT.refl);simp only[zwK,rcase,zeZ,Vg,zgy,zCv,true_and,and_true] at e;obtain⟨_,eb⟩:=e;subst eb
    obtain⟨T',tN,hI,K7⟩:=h.meet hA (Ne.symm C8) aN Yw hl ha wV Mw hr zmT (v:=v) (τ':=τ') (b:=b') h2 h3 h4 K8 h5 h6 (λhv hg=>vA v hv w bT.refl hg) hc
     (gs':=(gs.setIfInBounds k (o9 (T k).g (recvd b' v true))).setIfInBounds i (o9 (T i).g aA)) aO (by simp[aN]) zqN
     (λm h1 h2=>by rw[jV (Ne.symm h1),jV (Ne.symm h2)])
     (u:=#[{g:=i,fn:=(T i).g.frame.fn,pos:=(T i).g.frame.place,act:=.send c s},{g:=k,fn:=(T k).g.frame.fn,pos:=(T k).g.frame.place,act:=.recv c r 0},{g:=i,fn:=(T i).g.frame.fn,pos:=(T i).g.frame.place,act:=.sendDone c s},{g:=k,fn:=(T k).g.frame.fn,pos:=(T k).g.frame.place,act:=.recvDone c r}])
     (λop hop=>by
      have Jj:c<w.heap.size:=(dP.1 hc).1;simp only[Ha,jJ,lZ,or_false] at hop;rcases hop with rfl|rfl|rfl|rfl<;>exact⟨by first|exact aN|exact Yw,rfl,aO,Jj,aO,aO⟩)
    rw[zle,zpQ,ze5,zhq] at zak;exact⟨_,_,zak,.inr ⟨_,_,sl,T',tN,rfl,hI,K7⟩⟩
 .have dG:∀(k:Nat) (y:bC),gs[k]? =some y->offersAt y c false=[]:=λk y zc1=>zY λhn=>hk ⟨k,y,zc1,hn⟩
  have wH:=crowd_waits (P:=P) (sl:=sl) hi vJ (λcc sN=>by
   simp only[Ha,jJ,lZ,or_false] at sN;subst sN;exact ways_send_none hc (jT _) (zkf dG))
  have hp:=h.park hi dL.1 zl7 (y:=parked (T i).g #[scase c v z] .send) rfl (.inl ⟨l,_,_,hl,rfl,h1,.inl ⟨c,ok,pub,nx,v,z,ha,rfl,rfl⟩⟩) (λe e2=>by subst e;rw[hl] at e2;cases e2)
   (λc' v' z' xD g' e=>by
    simp only[parked,zwl,gA,pK,zeZ,Vg,scase,zgy,zus,and_true,true_and] at e;obtain⟨_,_,_,⟨e,_⟩,_⟩:=e;subst e;exact dG)
   (λc' z' xD g' e=>by simp[parked,scase,rcase] at e)
  exact⟨_,_,wH,.inr ⟨_,_,sl,T,ch,rfl,hp.1,hp.2⟩⟩
def Inv.recv (hA:A.Ok)(h:Inv P ty Wg A Fin Shun gs w t T ch)(hi:gs[i]? =some x)(dL:lQ x (T i).g){ι:Type}{f:ι->Rk}(hr:(T i).r=.inr (.mk ι f)){l:L}(hl:(T i).ph=.usr l){c:Nat}{ok:aF->Prop}{nx:aF->L}{sh:L}
 (ha:A.act l=.recv c ok nx sh) (hB:mF P ty Wg A (λm ph d τ g w=>∃k,o7 P ty Wg A Fin (f k) m ph d τ g w) (i==0) l (iA t i) (T i).τ (T i).g w):vB P ty Wg A Fin Shun gs w t T sl i:=by
 have aN:i<gs.size:=(dP.1 hi).1;unfold mF at hB;rw[ha] at hB;obtain⟨Dl,z,b,h1,h2,h3⟩:=hB;have hp:(λk=>(T k).ph.proj) i=.run l:=by show(T i).ph.proj=_;rw[hl];rfl
 obtain⟨cl,mK⟩:=hA.recvC _ ch i l c ok nx sh h.st.inv hp ha;obtain⟨Aa,s,r,hc⟩:=h.st.chan c _ mK;have Jj:c<w.heap.size:=(dP.1 hc).1;have vJ:stepG P (i==0) x w=.comm (T i).g #[rcase c z] true (.recv b) w #[]:=by rw[dL.step];exact h1 w bT.refl
 cases cl with
 |true=>
  have dG:∀(k:Nat) (y:bC),gs[k]? =some y->offersAt y c true=[]:=λk y zc1=>zY λhn=>by
   obtain⟨lk,zGF,zIc,zy5,_,_,wV,Mw,_⟩:=h.offerS zc1 hn;have:=hA.sendC _ ch k lk c zGF zIc zy5 h.st.inv (by show(T k).ph.proj=_;rw[wV];rfl) Mw;rw[mK] at this;cases this
  have cH:=crowd_recv_closed (P:=P) (sl:=sl) hi vJ hc (zkf dG);rw[zle,ze5,zhq] at cH;obtain⟨zHD,hinv⟩:=hA.shut _ ch i l c ok nx sh h.st.inv hp ha mK;obtain⟨k,hk⟩:=h3 zHD;have Ay:=gP.usr (l:=l) h.st.grp hl aN (hA.pendR l sh c aA ok nx sh ha (.inr rfl));have hS:=h.st.phase (r:=.inr (f k)) (g':=o9 (T i).g (recvd b z false)) (by rw[hl];simp) aN (Nj _ _) (.usr sh) aO (λ_=>trivial) (λ_ e=>e) id (λl' e=>by simp[Ph.proj] at e) Ay hinv;have cG:(gs.setIfInBounds i (o9 (T i).g (recvd b z false))).size=gs.size:=aO;have Lf:∀k,iA (t++(#[{g:=i,fn:=(T i).g.frame.fn,pos:=(T i).g.frame.place,act:=.recvClosed c}]:lU)) k=iA t k:=λk=>zlz t k _ λop hop=>by
   simp only[Ha,jJ,lZ,or_false] at hop;subst hop;exact⟨aO,aO⟩
  refine⟨_,_,cH,.inr ⟨gs.setIfInBounds i (o9 (T i).g (recvd b z false)),w,sl,bG T i ⟨.usr sh,.inr (f k),(T i).τ,o9 (T i).g (recvd b z false)⟩,ch,rfl,⟨by rw[cG];exact hS,?_⟩,?_⟩⟩
  .show Fu _ _ (t++(#[{g:=i,fn:=(T i).g.frame.fn,pos:=(T i).g.frame.place,act:=.recvClosed c}]:lU)) _ _ _
   refine h.dy.gen (λk'=>k'=i) (λk' cO=>⟨by rw[jV (Ne.symm cO)],upd_ne _ _ cO⟩) (λk' y cO hy=>?_) (λ_ _=>bT.refl) (λk' _=>Lf k') (λ_ e=>e) id ?_
   .subst cO
    rw[Ki aN] at hy;cases hy;refine⟨by simp[o9],?_⟩;rw[upd_same,Lf];exact(pF (T:=⟨.usr sh,.inr (f k),(T k').τ,o9 (T k').g (recvd b z false)⟩) id).2 ⟨f k,rfl,hk,.inl (lQ.self rfl)⟩
   .rw[cG]
    have h0:=h.dy.tr.phase (i:=i) (ph':=.usr sh) (.inr (f k)) (o9 (T i).g (recvd b z false)) ⟨λ_=>by rw[hl];trivial,λ_=>trivial⟩;exact h0.idles [{g:=i,fn:=(T i).g.frame.fn,pos:=(T i).g.frame.place,act:=.recvClosed c}] λop hop=>by
     simp only[jJ,lZ,or_false] at hop;subst hop;exact⟨aN,rfl,aO,Jj⟩
  .exact Wc (i:=i) (λ_=>cG) aC aN aC zvP λk' cO=>by rw[upd_ne _ _ aC]
 |false=>
  by_cases hk:∃(k:Nat) (y:bC),gs[k]? =some y/\offersAt y c true≠[]
  .obtain⟨k,y,hk,aT⟩:=hk
   have C8:k≠i:=λe=>by
    subst e;rw[hi] at hk;cases hk;exact aT (Vq (by rw[dL.1];simp) c true)
   have Yw:k<gs.size:=(dP.1 hk).1;obtain⟨lk,pE,O7,nQ,v,zk,wV,Mw,rfl,zcF⟩:=h.offerS hk aT;have zkd:(λk=>(T k).ph.proj) k=.run lk:=by show(T k).ph.proj=_;rw[wV];rfl
   have znG:partners (gs.setIfInBounds i zfB) c true=[(k,0)]:=by
    refine zvh C8 hk (by rw[znf];simp) λm y' hm znt=>zY λhn=>?_;obtain⟨lm,zif,zJo,zm6,_,_,Zh,ziG,_⟩:=h.offerS znt hn;exact hm (hA.send1 _ ch m k lm lk c zif zJo zm6 pE O7 nQ h.st.inv (by show(T m).ph.proj=_;rw[Zh];rfl) zkd ziG Mw)
   have zak:=crowd_recv_meets (P:=P) (sl:=sl) hi vJ hc C8 hk znG;have hs:=h.dy.sit k _ hk;rw[pF (by rw[wV];exact id)] at hs;obtain⟨rk,zmT,xX,_⟩:=hs
   cases rk with
   |mk ιk fk=>
    obtain⟨_,xX⟩:=xX;rw[wV] at xX;rcases xX with xX|xX
    .obtain⟨g',w',es,aY,_⟩:=xX w bT.refl
     rw[zcF w bT.refl] at aY;cases aY
    .simp only[zN,mF,Mw] at xX
     obtain⟨_,v',z',τ',nZ,vA,Ic,znD,zC4,zzW,zGK⟩:=xX;have e:=(nZ w bT.refl).symm.trans (zcF w bT.refl);simp only[zwK,scase,zeZ,Vg,zgy,gA,true_and,and_true] at e;obtain⟨ev,_⟩:=e;subst ev
     obtain⟨T',tN,hI,K7⟩:=h.meet hA C8 Yw aN wV Mw hl ha zmT hr (v:=v') (τ':=τ') (b:=b) vA Ic znD zC4 zzW zGK (λhv hg=>h2 v' hv w bT.refl hg) hc
      (gs':=(gs.setIfInBounds k (o9 (T k).g aA)).setIfInBounds i (o9 (T i).g (recvd b v' true))) aO zqN (by simp[aN])
      (λm h1 h2=>by rw[jV (Ne.symm h2),jV (Ne.symm h1)])
      (u:=#[{g:=k,fn:=(T k).g.frame.fn,pos:=(T k).g.frame.place,act:=.send c s},{g:=i,fn:=(T i).g.frame.fn,pos:=(T i).g.frame.place,act:=.recv c r 0},{g:=k,fn:=(T k).g.frame.fn,pos:=(T k).g.frame.place,act:=.sendDone c s},{g:=i,fn:=(T i).g.frame.fn,pos:=(T i).g.frame.place,act:=.recvDone c r}])
      (λop hop=>by
       simp only[Ha,jJ,lZ,or_false] at hop;rcases hop with rfl|rfl|rfl|rfl<;>exact⟨by first|exact aN|exact Yw,rfl,aO,Jj,aO,aO⟩)
     rw[zle,zpQ,ze5,zhq] at zak;exact⟨_,_,zak,.inr ⟨_,_,sl,T',tN,rfl,hI,K7⟩⟩
  .have dG:∀(k:Nat) (y:bC),gs[k]? =some y->offersAt y c true=[]:=λk y zc1=>zY λhn=>hk ⟨k,y,zc1,hn⟩
   have wH:=crowd_waits (P:=P) (sl:=sl) hi vJ (λcc sN=>by
    simp only[Ha,jJ,lZ,or_false] at sN;subst sN;exact ways_recv_none hc (zkf dG))
   have hp:=h.park hi dL.1 zl7 (y:=parked (T i).g #[rcase c z] (.recv b)) rfl (.inl ⟨l,_,_,hl,rfl,h1,.inr ⟨c,ok,nx,sh,z,b,ha,rfl,rfl⟩⟩) (λe e2=>by subst e;rw[hl] at e2;cases e2)
    (λc' v' z' xD g' e=>by simp[parked,scase,rcase] at e)
    (λc' z' xD g' e=>by
     simp only[parked,zwl,gA,pK,zeZ,Vg,rcase,zgy,zus,and_true,true_and] at e;obtain⟨_,_,_,⟨e,_⟩,_⟩:=e;subst e;exact⟨(by rw[mK];simp),dG⟩)
   exact⟨_,_,wH,.inr ⟨_,_,sl,T,ch,rfl,hp.1,hp.2⟩⟩
def Inv.close (hA:A.Ok)(h:Inv P ty Wg A Fin Shun gs w t T ch)(hi:gs[i]? =some x)(dL:lQ x (T i).g){ι:Type}{f:ι->Rk}(hr:(T i).r=.inr (.mk ι f)){l:L}(hl:(T i).ph=.usr l){c:Nat}{nx:L}
 (ha:A.act l=.close c nx) (hB:mF P ty Wg A (λm ph d τ g w=>∃k,o7 P ty Wg A Fin (f k) m ph d τ g w) (i==0) l (iA t i) (T i).τ (T i).g w):vB P ty Wg A Fin Shun gs w t T sl i:=by
 have aN:i<gs.size:=(dP.1 hi).1;unfold mF at hB;rw[ha] at hB;obtain⟨zbG,zGN,h1⟩:=hB;have hp:(λk=>(T k).ph.proj) i=.run l:=by show(T i).ph.proj=_;rw[hl];rfl
 obtain⟨Nx,hinv⟩:=hA.close _ ch i l c nx h.st.inv hp ha;obtain⟨Aa,s,r,hc⟩:=h.st.chan c _ Nx;have Jj:c<w.heap.size:=(dP.1 hc).1;obtain⟨g',aY,lW,k,hk⟩:=h1 w bT.refl s r hc;have a:=zoc w c 0 #[] true s r false;have hS:=h.st.close aN Nx a hl (.inr (f k)) g' (l':=nx) ⟨s,r,setChan_at w c 0 #[] true s r false Jj⟩ (gP.usr (l:=l) h.st.grp hl aN (hA.pendX l c nx ha)) hinv;have nc:∀k,¬(T k).τ.own c/\¬(T k).τ.still c:=λk=>⟨λe=>ztM,λe=>zpo⟩;have hd:n9 (iA t i) (closeEvents c)=iA t i:=zpe (λe he=>by
  simp only[closeEvents,Ha,jJ,lZ,or_false] at he;rcases he with rfl|rfl<;>exact⟨aO,aO⟩) _
 have zek:mayWake P x=true:=by rw[<-zbG];unfold mayWake;rw[dL.2.1]
 have Qt:bG T i ⟨.usr nx,.inr (f k),(T i).τ,g'⟩ i=⟨.usr nx,.inr (f k),(T i).τ,g'⟩:=upd_same _ _ _;refine Za hi h.st.n0 (Ti:=⟨.usr nx,.inr (f k),(T i).τ,g'⟩) zaQ Pe hS ?_
 refine h.dy.go hi (by rw[hd];exact(pF (T:=⟨.usr nx,.inr (f k),(T i).τ,g'⟩) id).2 ⟨f k,rfl,hk,.inl (lQ.self lW)⟩) Kg (λj _=>bT.of_aside a (nc j) (Yp a Aa)) ?_
  (h.dy.keepW λe=>(a.block Wg (Ne.symm Aa)).symm.trans e) ?_
 .intro j gj c' z sh hj cN e
  by_cases sN:c'=c
  .subst sN
   unfold woken at cN;rw[zek,lW] at cN;have:=again_recv_closed (g:=gj) (z:=z) (sh:=sh) (setChan_at w c' 0 #[] true s r false Jj);simp only[Bool.true_and] at cN;rw[if_pos Mk,this] at cN;have:(GoStatus.running:GoStatus)=.blocked:=by
    have h2:=congrArg bC.status cN;simp[parked] at h2
   cases this
  .rw[upd_ne _ _ sN] at e
   exact h.dy.slpC j gj c' z sh hj e
 .refine hS.tiEvents aN (by rw[Qt];trivial) _ _ ?_ λe he=>?_
  .have:=h.dy.tr.phase (i:=i) (ph':=.usr nx) (.inr (f k)) g' ⟨λ_=>by rw[hl];trivial,λ_=>trivial⟩
   rwa [a.size]
  .rw[Qt]
   simp only[closeEvents,Ha,jJ,lZ,or_false] at he;rw[a.size];rcases he with rfl|rfl
   .refine⟨λy hy=>?_,by simp[jN],Jj⟩
    simp only[jN,qQ,gA] at hy;subst hy;exact .inl ⟨c,Aa,rfl,.inr ⟨.inr zGN,rfl⟩⟩
   .exact⟨λy hy=>by simp[jN,qQ] at hy,by simp[jN],Jj⟩
def Inv.spawn (hA:A.Ok)(h:Inv P ty Wg A Fin Shun gs w t T ch)(hi:gs[i]? =some x)(dL:lQ x (T i).g){ι:Type}{f:ι->Rk}(hr:(T i).r=.inr (.mk ι f)){l:L}(hl:(T i).ph=.usr l){pub:List Nat}{lc nx:L}
 (ha:A.act l=.spawn pub lc nx) (hB:mF P ty Wg A (λm ph d τ g w=>∃k,o7 P ty Wg A Fin (f k) m ph d τ g w) (i==0) l (iA t i) (T i).τ (T i).g w):vB P ty Wg A Fin Shun gs w t T sl i:=by
 unfold mF at hB;rw[ha] at hB;obtain⟨hd,h1⟩:=hB;have hp:(λk=>(T k).ph.proj) i=.run l:=by show(T i).ph.proj=_;rw[hl];rfl
 obtain⟨rfl,Nz,yR,hinv⟩:=hA.spawn _ ch i l pub lc nx gs.size h.st.inv hp ha;obtain⟨g',child,τm,τc,aY,X3,zxb,ho,hs,o5,vS,Ba,C5,⟨km,zHU⟩,⟨kc,I6⟩⟩:=h1 w bT.refl;have hn:=h.st.n0;have zAD:=hinv (by show(T gs.size).ph.proj=_;rw[h.st.ou _ (aX _)];rfl) aC λa Lu=>(h.st.bnd 0 a (.inl (C5 a Lu).1)).2.2;have hS:=h.st.fork hl Nz yR (.inr (f km)) (.inr (f kc)) g' child τm τc pub ho hs o5 vS Ba C5 zAD;have cH:=runT_crowd_spawn (P:=P) (sl:=sl) hi (show stepG P (0==0) x w=_ by rw[dL.step];exact aY);have cG:((gs.setIfInBounds 0 g').push child).size=gs.size+1:=aO;generalize hU:bG (bG T 0 ⟨.usr nx,.inr (f km),τm,g'⟩) gs.size ⟨.usr lc,.inr (f kc),τc,child⟩=U at hS;have u0:U 0=⟨.usr nx,.inr (f km),τm,g'⟩:=by rw[<-hU,upd_ne _ _ aC,upd_same]
 have un:U gs.size=⟨.usr lc,.inr (f kc),τc,child⟩:=by rw[<-hU,upd_same]
 have uk:∀k,k≠0->k≠gs.size->U k=T k:=λk h1 h2=>by rw[<-hU,upd_ne _ _ h2,upd_ne _ _ h1]
 have zhB:((vQ 0 x.frame.fn x.frame.place #[]).push {g:=0,fn:=x.frame.fn,pos:=x.frame.place,act:=.go gs.size}|>.push {g:=gs.size,fn:=child.frame.fn,pos:=x.frame.place,act:=.start})
  =#[{g:=0,fn:=x.frame.fn,pos:=x.frame.place,act:=.go gs.size},{g:=gs.size,fn:=child.frame.fn,pos:=x.frame.place,act:=.start}]:=rfl
 rw[zhB] at cH;have Lf:∀k,iA (t++(#[{g:=0,fn:=x.frame.fn,pos:=x.frame.place,act:=.go gs.size},{g:=gs.size,fn:=child.frame.fn,pos:=x.frame.place,act:=.start}]:lU)) k=iA t k:=λk=>zlz t k _ λop hop=>by
  simp only[Ha,jJ,lZ,or_false] at hop;rcases hop with rfl|rfl<;>exact⟨aO,aO⟩
 refine⟨_,_,cH,.inr ⟨(gs.setIfInBounds 0 g').push child,w,sl,U,ch.opn pub,rfl,⟨by rw[cG];exact hS,h.dy.gen (λk=>k=0\/gs.size<=k) (λk hk=>?_) (λk y hk hy=>?_) (λ_ _=>bT.refl) (λk _=>Lf k) (λc hc=>?_) id ?_⟩,?_⟩⟩
 .have nZ:k≠0:=λe=>hk (.inl e)
  have vA:k<gs.size:=Nat.lt_of_not_le λe=>hk (.inr e);refine⟨?_,uk k nZ aC⟩;rw[Vr,zwR,if_neg aC,jV (Ne.symm nZ)]
 .rw[Vr,zwR] at hy
  rcases hk with rfl|hk
  .rw[if_neg aC,Ki hn] at hy
   cases hy;refine⟨by rw[X3];simp,?_⟩;rw[u0,Lf,hd];exact(pF (T:=⟨.usr nx,.inr (f km),τm,g'⟩) id).2 ⟨f km,rfl,zHU,.inl (lQ.self X3)⟩
  .by_cases cO:k=gs.size
   .subst cO
    rw[if_pos rfl] at hy;cases hy;refine⟨by rw[zxb];simp,?_⟩;rw[un,Lf,h.dy.tr.above _ (aX _)];have e0:(gs.size==0)=false:=beq_eq_false_iff_ne.2 aC;exact(pF (T:=⟨.usr lc,.inr (f kc),τc,child⟩) id).2 ⟨f kc,rfl,by rw[e0];exact I6,.inl (lQ.self zxb)⟩
   .rw[if_neg cO,Array.getElem?_eq_none q8] at hy
    cases hy
 .by_cases mR:c∈pub
  .rw[zef mR] at hc;cases hc
  .rw[Xn mR] at hc;exact hc
 .rw[cG]
  refine h.dy.tr.fork (live':=λk=>(U k).ph.live) (by show(T 0).ph.live;rw[hl];trivial) hn ⟨rfl,rfl⟩ ⟨rfl,rfl⟩ hd (λk=>?_) (by show ¬(T gs.size).ph.live;rw[h.st.ou _ (aX _)];exact id) (λk b hk jC hb=>?_) (λk b hk jC hb=>?_) (λb hb=>?_) λb hb=>?_
  .show(U k).ph.live↔(T k).ph.live\/k=gs.size
   by_cases k1:k=0
   .subst k1;rw[u0,hl];exact⟨λ_=>.inl trivial,λ_=>trivial⟩
   .by_cases k2:k=gs.size
    .subst k2;rw[un];exact⟨λ_=>.inr rfl,λ_=>trivial⟩
    .rw[uk k k1 k2];exact⟨λe=>.inl e,λe=>e.resolve_right k2⟩
  .have vA:k≠gs.size:=λe=>by
    subst e;have:(T gs.size).ph.live:=hk;rw[h.st.ou _ (aX _)] at this;exact this
   rw[uk k jC vA] at hb;exact hb
  .have vA:k≠gs.size:=λe=>by
    subst e;have:(T gs.size).ph.live:=hk;rw[h.st.ou _ (aX _)] at this;exact this
   rw[uk k jC vA] at hb;exact hb
  .rw[u0,un] at hb;exact ho b hb
  .rw[u0,un] at hb
   have:(T 0).τ.pass b\/(T 0).τ.own b\/(T 0).τ.still b:=by
    rcases hb with(e|e)|(e|e)
    .exact(hs b (.inl e)).elim (λz=>.inr (.inr z)) λz=>.inr (.inl z)
    .exact o5 b (.inl e)
    .exact(hs b (.inr e)).elim (λz=>.inr (.inr z)) λz=>.inr (.inl z)
    .exact o5 b (.inr e)
   rcases this with e|e|e
   .exact .inr (.inr e)
   .exact .inl e
   .exact .inr (.inl e)
 .exact Wc (i:=0) (λe=>absurd rfl e) (by rw[cG];omega) hn (by rw[cG];omega) (by rw[u0,hr];exact .inr (.mk f km)) λk hk=>by omega
end
section
variable {L:Type}{P:bS}{ty:aM}{Wg:Nat}{A:jU L}{Fin:bC->aE->Prop}{Shun:Loc->Prop}
variable {gs gs':Array bC}{w w':aE}{t t':lU}{T T':Nat->Td L}{ch tN:rP}{sl:Option (Nat×Nat)}{i j:Nat}{x g':bC}{es:Array oC}
def ziE (Wg B:Nat):Nat->List oC->Prop
 |_,[]=>True
 |d,e::es=>((e.mute=true\/(∃a b,e=⟨.cell a,b,true⟩/\a.block=Wg/\0<d))/\Wg<B)/\ziE Wg B (n9 d #[e]) es
def Vi {B:Nat}:∀{es:List oC} {d:Nat},ziE Wg B d es->∀(l r:List oC) (e:oC),es=l++e::r->(∀a,(jN e).touch? =some a->nE a.loc Wg/\a.kind=.atomic/\0<n9 d l.toArray)/\jN e≠ .mark (.release (stA Wg))/\(jN e).low B
 |[],d,_,l,r,e,he=>by simp at he
 |y::es,d,h,[],r,e,he=>by
  simp only[List.nil_append,Vg] at he;obtain⟨rfl,rfl⟩:=he;obtain⟨⟨hm|⟨a,b,rfl,ha,hd⟩,hW⟩,_⟩:=h
  .exact zpl (n:=0) (d:=d) (es:=#[y]) (λe he=>by simp at he;rw[he];exact hm) [] [] y rfl
  .refine⟨λz hz=>?_,by simp[jN],by simpa[jN,X6,Loc.low,ha] using hW⟩
   simp only[jN,qQ,gA] at hz;subst hz;exact⟨ha,rfl,hd⟩
 |y::es,d,h,z::l,r,e,he=>by
  simp only[Us,Vg] at he;obtain⟨rfl,he⟩:=he;have:=Vi h.2 l r e he;refine⟨λa ha=>?_,this.2⟩;rw[zqT];exact this.1 a ha
def Na {v wt:Nat}{a b:Int}(h:gD ty Wg w a b):gD ty Wg (w.setCell (stA Wg) (st v wt)) ((v:Int)*KK+wt) b:=zJc h _
def zoi {a b:Int}(h:gD ty Wg w a b)(c:Int):gD ty Wg (w.setCell (smA Wg) (.int .u32 c)) a c:=zI1 h c
def Od (w:aE)(v:aF):Ls Wg w (w.setCell (stA Wg) v):=Yl w (stA Wg) v
def zdz (w:aE)(v:aF):Ls Wg w (w.setCell (smA Wg) v):=Yl w (smA Wg) v
def zly (d:Nat){es:Array oC}(h:∀e∈es,e.loc≠ .mark .disable/\e.loc≠ .mark .enable):n9 d es=d:=zpe h d
def Zw (d:Nat)(a:bL):n9 d #[rd a]=d:=zly d (λe he=>by simp at he;subst he;exact⟨by simp[rd],by simp[rd]⟩)
def deaf_wr (d:Nat)(a:bL):n9 d #[wr a]=d:=zly d (λe he=>by simp at he;subst he;exact⟨by simp[wr],by simp[wr]⟩)
def zeC (d:Nat)(a:bL):n9 d #[rd a,wr a]=d:=zly d (λe he=>by
 simp only[Ha,jJ,lZ,or_false] at he;rcases he with rfl|rfl<;>exact⟨by simp[rd,wr],by simp[rd,wr]⟩)
def zrm (d:Nat)(a:bL):n9 d (semEvents a)=d:=by
 simp[n9,semEvents]
def Kh (p:Nat->Ph L)(n:Nat)(ph':Ph L)(h:ph'.waits):vv A (bG p 0 ph') n=o8 p n:=by
 unfold vv zD;rw[zew,upd_same];cases ph'<;>first|exact h.elim|rfl
def zco (p:Nat->Ph L)(n:Nat)(h:(p 0).waits):vv A p n=o8 p n:=by
 have:=Kh (A:=A) p n (p 0) h
 rwa [zgO] at this
def Te {p:Nat->Ph L}{ph':Ph L}(h:∀i,¬(p i).last)(h':¬ph'.last):∀i,¬(bG p 0 ph' i).last:=λi=>by
 by_cases hi:i=0
 .subst hi;rw[upd_same];exact h'
 .rw[upd_ne _ _ hi];exact h i
def zsq {p:Nat->Ph L}:∀{n:Nat},o8 p n=0->∀j,j<n->j≠0->(p j).pre=false
 |n+1,h,j,hj,h0=>by
  simp only[o8] at h;by_cases Y3:j=n
  .subst Y3
   cases hp:(p j).pre
   .rfl
   .simp[h0,hp] at h
  .exact zsq (n:=n) aC j aC h0
def Inv.vlt (hA:A.Ok)(h:Inv P ty Wg A Fin Shun gs w t T ch):vv A (λj=>(T j).ph) gs.size<2000000000:=
 Nat.lt_of_le_of_lt (zJA A _ _ h.st.n0) (hA.few _ ch h.st.inv _)
variable {a:bL}
def okRW {own pas:Nat->Prop}{k B:Nat}(hW:Wg<B)(ha:a.block=Wg):∀e∈(#[rd a,wr a]:Array oC),OkL Wg own pas k B e:=by
 intro e he;simp only[Ha,jJ,lZ,or_false] at he;rcases he with rfl|rfl<;>exact zgw ha hW
def okR {own pas:Nat->Prop}{k B:Nat}(hW:Wg<B)(ha:a.block=Wg):∀e∈(#[rd a]:Array oC),OkL Wg own pas k B e:=by
 intro e he;simp only[Ha,jJ,lZ,or_false] at he;subst he;exact zgw ha hW
def okSem {own pas:Nat->Prop}{k B:Nat}(hW:Wg<B)(ha:a.block=Wg):∀e∈semEvents a,OkL Wg own pas k B e:=by
 intro e he;simp only[semEvents,Ha,jJ,lZ,or_false] at he;rcases he with rfl|rfl|rfl|rfl
 .exact zdF rfl
 .exact zgw ha hW
 .exact zgw ha hW
 .exact zdF rfl
def zwX (T:Nat->Td L){ph':Ph L}(h:ph'.proj=(T i).ph.proj):bG (λj=>(T j).ph.proj) i ph'.proj=λj=>(T j).ph.proj:=by rw[h];exact zgO (λj=>(T j).ph.proj) i
def Inv.add (hA:A.Ok)(h:Inv P ty Wg A Fin Shun gs w t T ch)(hi:gs[i]? =some x)(dL:lQ x (T i).g){ι:Type}{f:ι->Rk}(hr:(T i).r=.inr (.mk ι f)){l:L}(hl:(T i).ph=.usr l){nx:L}
 (ha:A.act l=.add nx) (hB:mF P ty Wg A (λm ph d τ g w=>∃k,o7 P ty Wg A Fin (f k) m ph d τ g w) (i==0) l (iA t i) (T i).τ (T i).g w):vB P ty Wg A Fin Shun gs w t T sl i:=by
 unfold mF at hB;rw[ha] at hB;have hp:(λk=>(T k).ph.proj) i=.run l:=by show(T i).ph.proj=_;rw[hl];rfl
 obtain⟨rfl,Nz,yR,hinv⟩:=hA.add _ ch i l nx h.st.inv hp ha;have hg:=h.st.grp;unfold gP at hg;simp only[hl] at hg;have hv:=h.vlt hA;obtain⟨g',aY,lW,k,hk⟩:=hB w bT.refl _ aC hg.1;have fK:vv A (λj=>(T j).ph) gs.size=o8 (λj=>(T j).ph) gs.size:=by unfold vv zD;simp only[hl,Nz];rfl
 have pD:vv A (bG (λj=>(T j).ph) 0 (.usr nx)) gs.size=o8 (λj=>(T j).ph) gs.size+1:=by unfold vv zD;rw[zew,upd_same];simp[yR]
 have dH:=Na (v:=vv A (λj=>(T j).ph) gs.size+1) (wt:=0) hg.1;refine h.alive hi dL aY lW hr (by rw[hl];trivial) (ph':=.usr nx) trivial (Od _ _) (λ_=>⟨_,_,dH⟩) ⟨k,by rw[zeC];exact hk⟩ (λe=>absurd rfl e) ?_ hinv (λe=>by have:=(Sq e dH).2;omega) (okRW zqw rfl);unfold gP;rw[upd_same];refine⟨?_,Te hg.2 id⟩;rw[pD,<-fK];simpa using dH
def Inv.look (hA:A.Ok)(h:Inv P ty Wg A Fin Shun gs w t T ch)(hi:gs[0]? =some x)(dL:lQ x (T 0).g){ι:Type}{f:ι->Rk}(hr:(T 0).r=.inr (.mk ι f))(lY:(∃b,(T 0).ph=.w1 b)\/∃l,(T 0).ph=.usr l/\A.act l=.wait)
 (hB:∀aI,bT ty Wg (T 0).τ w aI->∀v:Nat,(∀b,(T 0).ph=.w1 b->v<b)->v<2147483648->gD ty Wg aI (v*KK) 0->∃g',stepG P true (T 0).g aI=.go g' aI #[rd (stA Wg)]/\g'.status=.running/\
  (v=0->∃k,o7 P ty Wg A Fin (f k) true .w5 (iA t 0) (T 0).τ g' aI)/\(v≠0->∃k,o7 P ty Wg A Fin (f k) true (.w2 v) (iA t 0) (T 0).τ g' aI)):vB P ty Wg A Fin Shun gs w t T sl 0:=by
 have hv:=h.vlt hA;have hg:gD ty Wg w (vv A (λj=>(T j).ph) gs.size*KK) 0/\∀i,¬(T i).ph.last:=by
  have hg:=h.st.grp;unfold gP at hg;rcases lY with⟨b,e⟩|⟨l,e,_⟩<;>simp only[e] at hg
  .exact⟨hg.1,hg.2.1⟩
  .exact hg
 have eY:∀b,(T 0).ph=.w1 b->vv A (λj=>(T j).ph) gs.size<b:=λb e=>by
  have hg:=h.st.grp;unfold gP at hg;simp only[e] at hg;exact hg.2.2
 have mU:(T 0).ph.live:=h.st.role0;have Dm:vv A (λj=>(T j).ph) gs.size=o8 (λj=>(T j).ph) gs.size:=by
  rcases lY with⟨b,e⟩|⟨l,e,ha⟩
  .exact zco _ _ (by show(T 0).ph.waits;rw[e];trivial)
  .have:=(hA.wait _ ch 0 l h.st.inv (by show(T 0).ph.proj=_;rw[e];rfl) ha).2.1
   unfold vv zD;simp only[e,this];rfl
 have hinv:A.Inv (bG (λj=>(T j).ph.proj) 0 .waits) ch:=by
  rcases lY with⟨b,e⟩|⟨l,e,ha⟩
  .have:=zwX T (i:=0) (ph':=.w1 b) (by rw[e])
   rw[show(Ph.w1 b:Ph L).proj=.waits from rfl] at this;rw[this];exact h.st.inv
  .exact(hA.wait _ ch 0 l h.st.inv (by show(T 0).ph.proj=_;rw[e];rfl) ha).2.2
 obtain⟨g',aY,lW,h0,h1⟩:=hB w bT.refl _ eY aC hg.1;by_cases hz:vv A (λj=>(T j).ph) gs.size=0
 .obtain⟨k,hk⟩:=h0 hz
  refine h.alive hi dL aY lW hr mU (ph':=.w5) trivial (Nj _ _) id ⟨k,by rw[Zw];exact hk⟩ (λe=>absurd rfl e) ?_ hinv id (okR h.st.grp.live.lt rfl);unfold gP;rw[upd_same];refine⟨by rw[Kh _ _ .w5 trivial,<-Dm];exact hz,Te hg.2 id,?_⟩;have:=hg.1;rw[hz] at this;simpa using this
 .obtain⟨k,hk⟩:=h1 hz
  refine h.alive hi dL aY lW hr mU (ph':=.w2 (vv A (λj=>(T j).ph) gs.size)) trivial (Nj _ _) id ⟨k,by rw[Zw];exact hk⟩ (λe=>absurd rfl e) ?_ hinv id (okR h.st.grp.live.lt rfl);unfold gP;rw[upd_same];refine⟨?_,Te hg.2 id,?_,Nat.pos_of_ne_zero hz⟩
  .rw[Kh _ _ (.w2 _) trivial,<-Dm];exact hg.1
  .rw[Kh _ _ (.w2 _) trivial,<-Dm];exact aX _
def invW (h:Inv P ty Wg A Fin Shun gs w t T ch){ph':Ph L}(hw:(T 0).ph.waits)(qF:ph'.waits):A.Inv (bG (λj=>(T j).ph.proj) 0 ph'.proj) ch:=by
 rw[zwX T]
 .exact h.st.inv
 .cases hp:(T 0).ph<;>rw[hp] at hw<;>first|exact hw.elim|(cases ph'<;>first|exact qF.elim|rfl)
def Inv.cas (hA:A.Ok)(h:Inv P ty Wg A Fin Shun gs w t T ch)(hi:gs[0]? =some x)(dL:lQ x (T 0).g){ι:Type}{f:ι->Rk}(hr:(T 0).r=.inr (.mk ι f)){vs:Nat}(lY:(T 0).ph=.w2 vs)
 (hB:zN P ty Wg A Fin (λm ph d τ g w=>∃k,o7 P ty Wg A Fin (f k) m ph d τ g w) true (.w2 vs) (iA t 0) (T 0).τ (T 0).g w):vB P ty Wg A Fin Shun gs w t T sl 0:=by
 have hv:=h.vlt hA;have hg:=h.st.grp;unfold gP at hg;simp only[lY] at hg;obtain⟨h1,h2,h3,h4⟩:=hg;have cD:(T 0).ph.waits:=by rw[lY];trivial
 have Dm:vv A (λj=>(T j).ph) gs.size=o8 (λj=>(T j).ph) gs.size:=zco _ _ cD;have mU:(T 0).ph.live:=h.st.role0;obtain⟨ha,hb⟩:=hB w bT.refl _ aC h1;rcases nC (vv A (λj=>(T j).ph) gs.size) vs with aN|Aq
 .obtain⟨g',aY,lW,k,hk⟩:=hb aN
  refine h.alive hi dL aY lW hr mU (ph':=.w1 vs) trivial (Nj _ _) id ⟨k,by rw[Zw];exact hk⟩ (λe=>absurd rfl e) ?_ (invW h cD trivial) id (okR h.st.grp.live.lt rfl);unfold gP;rw[upd_same];exact⟨by rw[Kh _ _ (.w1 vs) trivial,<-Dm];exact h1,Te h2 id,by rw[Kh _ _ (.w1 vs) trivial,<-Dm];exact aN⟩
 .obtain⟨g',aY,lW,k,hk⟩:=ha aC
  have dH:=Na (v:=vv A (λj=>(T j).ph) gs.size) (wt:=1) h1;refine h.alive hi dL aY lW hr mU (ph':=.w3) trivial (Od _ _) (λ_=>⟨_,_,dH⟩) ⟨k,by rw[zeC];exact hk⟩ (λe=>absurd rfl e) ?_ (invW h cD trivial) (λe=>by have:=(Sq e dH).2;omega) (okRW zqw rfl);unfold gP;rw[upd_same];refine .inl ⟨?_,?_,Te h2 id⟩
  .rw[Kh _ _ .w3 trivial,<-Dm];omega
  .rw[Kh _ _ .w3 trivial,<-Dm];exact dH
def Inv.sleep (hA:A.Ok)(h:Inv P ty Wg A Fin Shun gs w t T ch)(hi:gs[0]? =some x)(dL:lQ x (T 0).g){ι:Type}{f:ι->Rk}(hr:(T 0).r=.inr (.mk ι f))(lY:(T 0).ph=.w3)
 (hB:zN P ty Wg A Fin (λm ph d τ g w=>∃k,o7 P ty Wg A Fin (f k) m ph d τ g w) true .w3 (iA t 0) (T 0).τ (T 0).g w):vB P ty Wg A Fin Shun gs w t T sl 0:=by
 have hg:=h.st.grp;unfold gP at hg;simp only[lY] at hg;have cD:(T 0).ph.waits:=by rw[lY];trivial
 have Dm:vv A (λj=>(T j).ph) gs.size=o8 (λj=>(T j).ph) gs.size:=zco _ _ cD;have mU:(T 0).ph.live:=h.st.role0;obtain⟨ho,hB⟩:=hB;obtain⟨ha,hb⟩:=hB w bT.refl;have zBB:(∃x,gD ty Wg w x 0)\/(vv A (λj=>(T j).ph) gs.size=0/\(∀i,¬(T i).ph.last)/\gD ty Wg w 0 1):=by
  rcases hg with⟨_,h1,_⟩|⟨_,_,_,_,⟨_,h1⟩|⟨_,h1⟩⟩|h1
  .exact .inl ⟨_,h1⟩
  .exact .inl ⟨_,h1⟩
  .exact .inl ⟨_,h1⟩
  .exact .inr h1
 rcases zBB with h0|⟨h1,h2,h3⟩
 .have aY:=ha h0
  have vJ:stepG P (0==0) x w=.go {(T 0).g with status:=.blocked} w #[]:=by rw[show((0:Nat)==0)=true from rfl,dL.step];exact aY
  have cH:=Y1 (sl:=sl) hi vJ;have ew:woken P x {(T 0).g with status:=.blocked} w=id:=by
   funext o;simp[woken]
  rw[ew,Array.map_id,ze5] at cH;obtain⟨y,hy⟩:=h0
  have hp:=h.park hi dL.1 (by rw[lY];exact id) (y:={(T 0).g with status:=.blocked}) rfl (.inr ⟨lY,rfl,ho⟩) (λ_ _ e=>by have:=(Sq e hy).2;omega)
   (λc v z sh g e=>by
    have:=congrArg ztz e;simp[parked,ho] at this)
   (λc z sh g e=>by
    have:=congrArg ztz e;simp[parked,ho] at this)
  exact⟨_,_,cH,.inr ⟨_,_,sl,T,ch,rfl,hp.1,hp.2⟩⟩
 .obtain⟨g',aY,lW,k,hk⟩:=hb h3
  have dH:=zoi h3 0;refine h.alive hi dL aY lW hr mU (ph':=.w4) trivial (zdz _ _) (λ_=>⟨_,_,dH⟩) ⟨k,by rw[zrm];exact hk⟩ (λe=>absurd rfl e) ?_ (invW h cD trivial) (λe=>by have:=(Sq e dH).2;omega) (okSem (by rw[(zdz w _).size];exact h.st.grp.live.lt) rfl);unfold gP;rw[upd_same];exact⟨by rw[Kh _ _ .w4 trivial,<-Dm];exact h1,Te h2 id,dH⟩
def Inv.woke (hA:A.Ok)(h:Inv P ty Wg A Fin Shun gs w t T ch)(hi:gs[0]? =some x)(dL:lQ x (T 0).g){ι:Type}{f:ι->Rk}(hr:(T 0).r=.inr (.mk ι f))(lY:(T 0).ph=.w4)
 (hB:zN P ty Wg A Fin (λm ph d τ g w=>∃k,o7 P ty Wg A Fin (f k) m ph d τ g w) true .w4 (iA t 0) (T 0).τ (T 0).g w):vB P ty Wg A Fin Shun gs w t T sl 0:=by
 have hg:=h.st.grp;unfold gP at hg;simp only[lY] at hg;have cD:(T 0).ph.waits:=by rw[lY];trivial
 have Dm:vv A (λj=>(T j).ph) gs.size=o8 (λj=>(T j).ph) gs.size:=zco _ _ cD;obtain⟨g',aY,lW,k,hk⟩:=hB w bT.refl hg.2.2;refine h.alive hi dL aY lW hr h.st.role0 (ph':=.w5) trivial (Nj _ _) id ⟨k,by rw[Zw];exact hk⟩ (λe=>absurd rfl e) ?_ (invW h cD trivial) id (okR h.st.grp.live.lt rfl);unfold gP;rw[upd_same];exact⟨by rw[Kh _ _ .w5 trivial,<-Dm];exact hg.1,Te hg.2.1 id,hg.2.2⟩
def Inv.fin (hA:A.Ok)(h:Inv P ty Wg A Fin Shun gs w t T ch)(hi:gs[0]? =some x)(dL:lQ x (T 0).g){ι:Type}{f:ι->Rk}(hr:(T 0).r=.inr (.mk ι f))(lY:(T 0).ph=.w5)
 (hB:zN P ty Wg A Fin (λm ph d τ g w=>∃k,o7 P ty Wg A Fin (f k) m ph d τ g w) true .w5 (iA t 0) (T 0).τ (T 0).g w):vB P ty Wg A Fin Shun gs w t T sl 0:=by
 have hg:=h.st.grp;unfold gP at hg;simp only[lY] at hg;obtain⟨h1,h2,h3⟩:=hg;have Dm:vv A (λj=>(T j).ph) gs.size=o8 (λj=>(T j).ph) gs.size:=zco _ _ (by show(T 0).ph.waits;rw[lY];trivial);have Kv:∀j,j≠0->(T j).ph.leaves:=by
  intro j hj;rcases nC j gs.size with aN|Aq
  .have e1:=zsq (p:=λj=>(T j).ph) (by rw[<-Dm];exact h1) j aN hj
   have e2:=h2 j;have e3:=h.st.role j hj;cases hp:(T j).ph<;>simp only[hp] at e1 e2 e3<;>first|trivial|(simp[Ph.pre] at e1;done)|exact absurd trivial e2|exact absurd trivial e3
  .rw[h.st.ou j Aq];trivial
 obtain⟨hd,hB⟩:=hB;have Kb:(λj=>(T j).ph.proj) 0=.waits:=by show(T 0).ph.proj=_;rw[lY];rfl
 have Bv:∀(j:Nat) (l:L),(λj=>(T j).ph.proj) j≠ .run l:=λj l e=>by
  have e':(T j).ph.proj=.run l:=e;by_cases hj:j=0
  .subst hj;rw[lY] at e';cases e'
  .have:=Kv j hj
   cases hp:(T j).ph<;>rw[hp] at e' this<;>first|exact this.elim|cases e'
 obtain⟨g',aY,lW,hF⟩:=hB w bT.refl ⟨λj=>(T j).ph.proj,ch,h.st.inv,Kb,Bv,λj l e=>h.st.depo j l e w bT.refl⟩;exact h.acquire hi dL aY lW hd Kv hF
def Inv.dec (hA:A.Ok)(h:Inv P ty Wg A Fin Shun gs w t T ch)(hi:gs[i]? =some x)(dL:lQ x (T i).g){ι:Type}{f:ι->Rk}(hr:(T i).r=.inr (.mk ι f)){l:L}(lY:(T i).ph=.rel l)
 (hB:zN P ty Wg A Fin (λm ph d τ g w=>∃k,o7 P ty Wg A Fin (f k) m ph d τ g w) (i==0) (.rel l) (iA t i) (T i).τ (T i).g w):vB P ty Wg A Fin Shun gs w t T sl i:=by
 have aN:i<gs.size:=(dP.1 hi).1;have hv:=h.vlt hA;have h0:i≠0:=λe=>by subst e;have:=h.st.role0;rw[lY] at this;exact this
 have oX:¬(T i).ph.live:=by rw[lY];exact id
 have Ai:(T i).ph≠ .gone:=by rw[lY];simp
 have Wh:Wg<w.heap.size:=h.st.grp.live.lt;have key:∀ph':Ph L,ph'.pre=false->vv A (bG (λj=>(T j).ph) i ph') gs.size+1=vv A (λj=>(T j).ph) gs.size:=by
  intro ph' hp;have:=zge (λj=>(T j).ph) (i:=i) (n:=gs.size) ph' aN h0;unfold vv;rw[zgr A _ h0];rw[hp] at this;simp only[lY,Ph.pre,if_true,jE,if_false] at this;omega
 have k1:=key (.quit l) rfl;have k2:=key (.l1 l) rfl;have zf2:(∀j,¬(T j).ph.last)->∀j,¬(bG (λj=>(T j).ph) i (.quit l) j).last:=λhn j=>by
  by_cases hj:j=i
  .subst hj;rw[upd_same];exact id
  .rw[upd_ne _ _ hj];exact hn j
 have oM:∀e:0<iA t i,∀B,Wg<B->ziE Wg B (iA t i) [rd (stA Wg),wr (stA Wg)]:=λe B hB=>
  ⟨⟨.inr ⟨stA Wg,false,rfl,rfl,e⟩,hB⟩,⟨.inr ⟨stA Wg,true,rfl,rfl,by rw[Zw];exact e⟩,hB⟩,trivial⟩
 have u0:bG (λj=>(T j).ph) i (.quit l) 0=(T 0).ph:=upd_ne _ _ (Ne.symm h0);have u1:bG (λj=>(T j).ph) i (.l1 l) 0=(T 0).ph:=upd_ne _ _ (Ne.symm h0)
 have quit:∀(v wt:Nat),wt<=1->gD ty Wg w ((v+1:Nat)*KK+wt) 0->vv A (λj=>(T j).ph) gs.size=v+1->¬(v=0/\wt=1)->
  gP A ty Wg (bG (λj=>(T j).ph) i (.quit l)) gs.size (w.setCell (stA Wg) (Mt.st v wt))->vB P ty Wg A Fin Shun gs w t T sl i:=by
  intro v wt cD hW qS aT Ay;obtain⟨g',aY,lW,hd,_,hq⟩:=hB w bT.refl v wt cD aC hW;obtain⟨q,hQ⟩:=hq aT;have dH:=Na (v:=v) (wt:=wt) hW
  exact h.dead hi dL aY Kg (Ti:=⟨.quit l,.inl q,(T i).τ,g'⟩) (by rw[hr];exact .sep _ _) rfl oX Ai h0 id aO (Od _ _) (λ_=>⟨_,_,dH⟩)
   ((Hc (T:=⟨.quit l,.inl q,(T i).τ,g'⟩) trivial).2 ⟨q,rfl,by rw[zeC];exact hQ⟩) (by rw[lY];rfl) Ay (.inr λe=>by have:=(Sq e dH).2;omega) (Vi (oM hd _ (by rw[(Od w _).size];exact Wh)))
 have hg:=h.st.grp;unfold gP at hg;have norm:∀v:Nat,((v:Int)*KK)=((v:Nat):Int)*KK+((0:Nat):Int):=λv=>by simp
 have pos:0<vv A (λj=>(T j).ph) gs.size:=aC;obtain⟨v,qS⟩:∃v,vv A (λj=>(T j).ph) gs.size=v+1:=⟨_,(Nat.succ_pred_eq_of_pos pos).symm⟩;have e1:vv A (bG (λj=>(T j).ph) i (.quit l)) gs.size=v:=aC;have e2:vv A (bG (λj=>(T j).ph) i (.l1 l)) gs.size=v:=aC
 cases vW:(T 0).ph with
 |gone=>have:=h.st.role0;rw[vW] at this;exact this.elim
 |rel _=>have:=h.st.role0;rw[vW] at this;exact this.elim
 |l1 _=>have:=h.st.role0;rw[vW] at this;exact this.elim
 |l2 _=>have:=h.st.role0;rw[vW] at this;exact this.elim
 |l3 _=>have:=h.st.role0;rw[vW] at this;exact this.elim
 |quit _=>have:=h.st.role0;rw[vW] at this;exact this.elim
 |usr l0=>
  simp only[vW] at hg;rw[qS] at hg;refine quit v 0 aC zhy qS aC ?_;unfold gP;rw[u0,vW];simp only;exact⟨by rw[e1];simpa using Na (v:=v) (wt:=0) hg.1,zf2 hg.2⟩
 |w1 b=>
  simp only[vW] at hg;rw[qS] at hg;refine quit v 0 aC zhy qS aC ?_;unfold gP;rw[u0,vW];simp only;exact⟨by rw[e1];simpa using Na (v:=v) (wt:=0) hg.1,zf2 hg.2.1,aC⟩
 |w2 vs=>
  simp only[vW] at hg;rw[qS] at hg;refine quit v 0 aC zhy qS aC ?_;unfold gP;rw[u0,vW];simp only;exact⟨by rw[e1];simpa using Na (v:=v) (wt:=0) hg.1,zf2 hg.2.1,aC,hg.2.2.2⟩
 |w4=>simp only[vW] at hg;omega
 |w5=>simp only[vW] at hg;omega
 |w3=>
  simp only[vW] at hg;rcases hg with⟨_,hW,hn⟩|⟨hz,_⟩|⟨hz,_⟩
  .rw[qS] at hW
   have Y5:gD ty Wg w ((v+1:Nat)*KK+(1:Nat)) 0:=by simpa using hW
   by_cases fK:v=0
   .obtain⟨g',aY,lW,hd,hk,_⟩:=hB w bT.refl v 1 aC aC Y5
    obtain⟨k,hk⟩:=hk ⟨fK,rfl⟩;have dH:=Na (v:=v) (wt:=1) Y5
    refine h.dead hi dL aY Kg (Ti:=⟨.l1 l,.inr (f k),(T i).τ,g'⟩) Pe rfl oX Ai h0 id aO (Od _ _) (λ_=>⟨_,_,dH⟩)
     ((pF (T:=⟨.l1 l,.inr (f k),(T i).τ,g'⟩) id).2 ⟨f k,rfl,by rw[zeC];exact hk,.inl (lQ.self lW)⟩) (by rw[lY];rfl) ?_ (.inr λe=>by have:=(Sq e dH).2;omega) (Vi (oM hd _ (by rw[(Od w _).size];exact Wh)))
    unfold gP;rw[u1,vW];simp only;refine .inr (.inl ⟨aC,i,l,λj hj=>?_,.inl ⟨.inl (upd_same _ _ _),?_⟩⟩)
    .by_cases eR:j=i
     .exact eR
     .rw[upd_ne _ _ eR] at hj;exact absurd hj (hn j)
    .subst fK;simpa using dH
   .refine quit v 1 aC Y5 qS aC ?_
    unfold gP;rw[u0,vW];simp only;exact .inl ⟨aC,by rw[e1];simpa using Na (v:=v) (wt:=1) Y5,zf2 hn⟩
  .omega
  .omega
def Inv.lastGrp (h:Inv P ty Wg A Fin Shun gs w t T ch)(hl:(T i).ph.last):(T 0).ph=.w3/\vv A (λj=>(T j).ph) gs.size=0/\(∀j,(T j).ph.last->j=i)/\((∃l,((T i).ph=.l1 l\/(T i).ph=.l2 l))/\gD ty Wg w 1 0\/(∃l,(T i).ph=.l3 l)/\gD ty Wg w 0 0):=by
 have hg:=h.st.grp;unfold gP at hg;have h0:=h.st.role0;cases vW:(T 0).ph<;>simp only[vW] at hg h0<;>first|exact h0.elim|exact absurd hl (hg.2 i)|exact absurd hl (hg.2.1 i)|skip
 rcases hg with⟨_,_,hn⟩|⟨hz,k,l,hu,hc⟩|⟨_,hn,_⟩
 .exact absurd hl (hn i)
 .have:=hu i hl
  subst this;exact⟨rfl,hz,hu,hc.imp (λx=>⟨⟨l,x.1⟩,x.2⟩) λx=>⟨⟨l,x.1⟩,x.2⟩⟩
 .exact absurd hl (hn i)
def Inv.last (hA:A.Ok)(h:Inv P ty Wg A Fin Shun gs w t T ch)(hi:gs[i]? =some x)(dL:lQ x (T i).g){ι:Type}{f:ι->Rk}(hr:(T i).r=.inr (.mk ι f))(hl:(T i).ph.last)
 (hB:zN P ty Wg A Fin (λm ph d τ g w=>∃k,o7 P ty Wg A Fin (f k) m ph d τ g w) (i==0) (T i).ph (iA t i) (T i).τ (T i).g w):vB P ty Wg A Fin Shun gs w t T sl i:=by
 have aN:=(dP.1 hi).1;obtain⟨h3,hz,hu,hc⟩:=h.lastGrp hl;have h0:i≠0:=λe=>by subst e;rw[h3] at hl;exact hl
 have oX:¬(T i).ph.live:=λe=>by cases hp:(T i).ph<;>rw[hp] at hl e<;>first|exact hl.elim|exact e.elim
 have Ai:(T i).ph≠ .gone:=λe=>by rw[e] at hl;exact hl
 have Wh:=h.st.grp.live.lt;have zmb:(T i).ph.pre=false:=by cases hp:(T i).ph<;>rw[hp] at hl<;>first|exact hl.elim|rfl
 have key:∀ph':Ph L,ph'.pre=false->vv A (bG (λj=>(T j).ph) i ph') gs.size=0:=by
  intro ph' hp;have:=zge (λj=>(T j).ph) (i:=i) (n:=gs.size) ph' aN h0;rw[hp,zmb] at this;unfold vv at hz⊢;rw[zgr A _ h0];simp only[jE,if_false] at this;omega
 have zbS:∀ph':Ph L,∀j,(bG (λj=>(T j).ph) i ph' j).last->j=i:=λph' j hj=>by
  by_cases eR:j=i
  .exact eR
  .rw[upd_ne _ _ eR] at hj;exact hu j hj
 have u0:∀ph':Ph L,bG (λj=>(T j).ph) i ph' 0=.w3:=λph'=>(upd_ne _ _ (Ne.symm h0)).trans h3;rcases hc with⟨⟨l,hp|hp⟩,hW⟩|⟨⟨l,hp⟩,hW⟩
 .simp only[hp] at hB
  obtain⟨g',aY,lW,hd,k,hk⟩:=hB w bT.refl hW
  refine h.dead hi dL aY Kg (Ti:=⟨.l2 l,.inr (f k),(T i).τ,g'⟩) Pe rfl oX Ai h0 id aO (Nj _ _) id
   ((pF (T:=⟨.l2 l,.inr (f k),(T i).τ,g'⟩) id).2 ⟨f k,rfl,by rw[Zw];exact hk,.inl (lQ.self lW)⟩) (by rw[hp];rfl) ?_ (.inr id) (Vi (es:=[rd (stA Wg)]) ⟨⟨.inr ⟨stA Wg,false,rfl,rfl,hd⟩,Wh⟩,trivial⟩)
  unfold gP;rw[u0];exact .inr (.inl ⟨key _ rfl,i,l,zbS _,.inl ⟨.inr (upd_same _ _ _),hW⟩⟩)
 .simp only[hp] at hB
  obtain⟨g',aY,lW,hd,k,hk⟩:=hB w bT.refl hW;have dH:=Na (v:=0) (wt:=0) hW;have qV:gD ty Wg (w.setCell (stA Wg) (Mt.st 0 0)) 0 0:=by simpa using dH
  refine h.dead hi dL aY Kg (Ti:=⟨.l3 l,.inr (f k),(T i).τ,g'⟩) Pe rfl oX Ai h0 id aO (Od _ _) (λ_=>⟨_,_,qV⟩)
   ((pF (T:=⟨.l3 l,.inr (f k),(T i).τ,g'⟩) id).2 ⟨f k,rfl,by rw[deaf_wr];exact hk,.inl (lQ.self lW)⟩) (by rw[hp];rfl) ?_ (.inr λe=>by have:=(Sq e qV).2;omega)
   (Vi (es:=[wr (stA Wg)]) ⟨⟨.inr ⟨stA Wg,true,rfl,rfl,hd⟩,by rw[(Od w _).size];exact Wh⟩,trivial⟩)
  unfold gP;rw[u0];exact .inr (.inl ⟨key _ rfl,i,l,zbS _,.inr ⟨upd_same _ _ _,qV⟩⟩)
 .simp only[hp] at hB
  obtain⟨zbG,hB⟩:=hB;obtain⟨g',aY,lW,hd,q,hQ⟩:=hB w bT.refl hW;have dH:=zoi hW 1;have zeA:Wg<(w.setCell (smA Wg) (.int .u32 1)).heap.size:=by rw[(zdz w _).size];exact Wh
  refine h.dead hi dL aY Kg (Ti:=⟨.quit l,.inl q,(T i).τ,g'⟩) (by rw[hr];exact .sep _ _) rfl oX Ai h0 id aO (zdz _ _) (λ_=>⟨_,_,dH⟩)
   ((Hc (T:=⟨.quit l,.inl q,(T i).τ,g'⟩) trivial).2 ⟨q,rfl,by rw[zrm];exact hQ⟩) (by rw[hp];rfl) ?_ (.inl ⟨zbG,lW⟩)
   (Vi (es:=[⟨.mark .disable,false,true⟩,⟨.cell (smA Wg),false,true⟩,⟨.cell (smA Wg),true,true⟩,⟨.mark .enable,false,true⟩]) ⟨⟨.inl rfl,zeA⟩,⟨.inr ⟨_,_,rfl,rfl,by simp[n9]⟩,zeA⟩,⟨.inr ⟨_,_,rfl,rfl,by simp[n9]⟩,zeA⟩,⟨.inl rfl,zeA⟩,trivial⟩)
  unfold gP;rw[u0];refine .inr (.inr ⟨key _ rfl,λj hj=>?_,dH⟩);have:=zbS _ j hj;subst this;rw[upd_same] at hj;exact hj
def Inv.note (hA:A.Ok)(h:Inv P ty Wg A Fin Shun gs w t T ch)(hi:gs[i]? =some x)(dL:lQ x (T i).g){ι:Type}{f:ι->Rk}(hr:(T i).r=.inr (.mk ι f)){l l':L}(hl:(T i).ph=.usr l){can:L->Prop}(ha:A.act l=.note can)(hc:can l')
 {k:ι} (hk:o7 P ty Wg A Fin (f k) (i==0) (.usr l') (iA t i) (T i).τ (T i).g w):Inv P ty Wg A Fin Shun gs w t (bG T i ⟨.usr l',.inr (f k),(T i).τ,(T i).g⟩) ch/\Mu.lt (mu gs (bG T i ⟨.usr l',.inr (f k),(T i).τ,(T i).g⟩)) (mu gs T):=by
 have aN:=(dP.1 hi).1;have hp:(λk=>(T k).ph.proj) i=.run l:=by show(T i).ph.proj=_;rw[hl];rfl
 obtain⟨zlC,hinv⟩:=hA.note _ ch i l can l' h.st.inv hp ha hc;have Ay:=gP.usr (l:=l) h.st.grp hl aN zlC;have hS:=h.st.phase (r:=.inr (f k)) (g':=(T i).g) (by rw[hl];simp) aN (Nj _ _) (.usr l') aO (λ_=>trivial) (λ_ e=>e) id (λl' e=>by simp[Ph.proj] at e) Ay hinv;refine⟨⟨hS,?_⟩,?_⟩
 .refine h.dy.gen (λk'=>k'=i) (λk' cO=>⟨rfl,upd_ne _ _ cO⟩) (λk' y cO hy=>?_) (λ_ _=>bT.refl) (λk' _=>rfl) (λ_ e=>e) id ?_
  .subst cO
   rw[hi] at hy;cases hy;refine⟨by rw[dL.1];simp,?_⟩;rw[upd_same];exact(pF (T:=⟨.usr l',.inr (f k),(T k').τ,(T k').g⟩) id).2 ⟨f k,rfl,hk,.inl dL⟩
  .exact h.dy.tr.phase (i:=i) (ph':=.usr l') (.inr (f k)) (T i).g ⟨λ_=>by rw[hl];trivial,λ_=>trivial⟩
 .exact Wc (i:=i) (λ_=>rfl) aC aN aN zvP λk' cO=>by rw[upd_ne _ _ aC]
def ResT (P:bS)(ty:aM)(Wg:Nat)(A:jU L)(Fin:bC->aE->Prop)(Shun:Loc->Prop)(gs:Array bC)(w:aE)(t:lU)(T:Nat->Td L)(sl:Option (Nat×Nat))(i:Nat):Prop:=
 ∃m' ops,runT P (crowd gs w sl) i=(.next m',ops)/\
  (O4 P Wg Fin Shun m' (t++ops)\/∃gs' w' J7 T' tN,m'=crowd gs' w' J7/\Inv P ty Wg A Fin Shun gs' w' (t++ops) T' tN/\Relation.TransGen Mu.lt (mu gs' T') (mu gs T))
def qU (h:vB P ty Wg A Fin Shun gs w t T sl i):ResT P ty Wg A Fin Shun gs w t T sl i:=by
 obtain⟨m',ops,h1,h2⟩:=h;refine⟨m',ops,h1,h2.imp id ?_⟩;rintro⟨a,b,c,d,e,h3,h4,h5⟩;exact⟨a,b,c,d,e,h3,h4,.single h5⟩
def Inv.stepR (hA:A.Ok)(hi:gs[i]? =some x)(cH:x.status=.running):∀(r:Rk) {T:Nat->Td L},Inv P ty Wg A Fin Shun gs w t T ch->(T i).r=.inr r->ResT P ty Wg A Fin Shun gs w t T sl i:=by
 intro r
 induction r with
 |mk ι f ih=>
  intro T h hr;by_cases hl:(T i).ph.leaves
  .exact qU (h.leaver hi cH hl)
  have hs:=h.dy.sit i x hi;rw[pF hl] at hs;obtain⟨r',wE,hB,hx⟩:=hs;obtain rfl:r'=.mk ι f:=by rw[hr] at wE;injection wE with e;exact e.symm
  have dL:lQ x (T i).g:=by
   rcases hx with hx|⟨_,_,_,_,rfl,_⟩|⟨_,rfl,_⟩
   .exact hx
   .cases cH
   .cases cH
  obtain⟨_,hB⟩:=hB;have hK:∀m ph d τ g w,(λm ph d τ g w=>∃k,o7 P ty Wg A Fin (f k) m ph d τ g w) m ph d τ g w->∃k,o7 P ty Wg A Fin (f k) m ph d τ g w:=λ_ _ _ _ _ _ e=>e;have main:(T i).ph.waits->i=0:=λe=>zY λh0=>h.st.role i h0 e;rcases hB with hB|hB
  .cases hp:(T i).ph<;>rw[hp] at hB<;>first|exact hB.elim|skip
   .exact qU (h.ownG hi dL Dc hr hK Vb)
   .exact qU (h.idle1 hi dL zgU hl hr hK zfD)
   .exact qU (h.idle1 hi dL zgU hl hr hK zfD)
   .exact qU (h.idle1 hi dL zgU hl hr hK zfD)
   .exact qU (h.idle1 hi dL zgU hl hr hK zfD)
   .exact qU (h.ownG hi dL Dc hr hK Vb)
   .exact qU (h.ownG hi dL Dc hr hK Vb)
   .exact qU (h.ownG hi dL Dc hr hK Vb)
   .exact qU (h.ownG hi dL Dc hr hK Vb)
   .exact qU (h.ownG hi dL Dc hr hK Vb)
  .cases hp:(T i).ph with
   |gone=>rw[hp] at hB;exact hB.elim
   |quit l=>rw[hp] at hB;exact hB.elim
   |rel l=>rw[hp] at hB;exact qU (h.dec hA hi dL hr hp hB)
   |l1 l=>exact qU (h.last hA hi dL hr Dc hB)
   |l2 l=>exact qU (h.last hA hi dL hr Dc hB)
   |l3 l=>exact qU (h.last hA hi dL hr Dc hB)
   |w1 b=>
    obtain rfl:=main Dc;rw[hp] at hB;exact qU (h.look hA hi dL hr (.inl ⟨b,hp⟩) λaI iS v hv=>hB aI iS v (hv b hp))
   |w2 v=>
    obtain rfl:=main Dc;rw[hp] at hB;exact qU (h.cas hA hi dL hr hp hB)
   |w3=>
    obtain rfl:=main Dc;rw[hp] at hB;exact qU (h.sleep hA hi dL hr hp hB)
   |w4=>
    obtain rfl:=main Dc;rw[hp] at hB;exact qU (h.woke hA hi dL hr hp hB)
   |w5=>
    obtain rfl:=main Dc;rw[hp] at hB;exact qU (h.fin hA hi dL hr hp hB)
   |usr l=>
    rw[hp] at hB;simp only[zN] at hB
    cases ha:A.act l with
    |send c ok pub nx=>exact qU (h.send hA hi dL hr hp ha hB)
    |recv c ok nx sh=>exact qU (h.recv hA hi dL hr hp ha hB)
    |close c nx=>exact qU (h.close hA hi dL hr hp ha hB)
    |add nx=>exact qU (h.add hA hi dL hr hp ha hB)
    |spawn pub lc nx=>exact qU (h.spawn hA hi dL hr hp ha hB)
    |done=>
     unfold mF at hB;rw[ha] at hB;obtain⟨hd,_,tV,h1⟩:=hB;obtain⟨g',aY,lW,hk⟩:=h1 w bT.refl;exact qU (h.release hA hi dL aY lW hr hp ha hd tV hk)
    |note can=>
     unfold mF at hB;rw[ha] at hB;obtain⟨l',hc,k,hk⟩:=hB;obtain⟨hI,hm⟩:=h.note hA hi dL hr hp ha hc hk;obtain⟨m',ops,h1,h2⟩:=ih k hI (by rw[upd_same]);refine⟨m',ops,h1,h2.imp id ?_⟩;rintro⟨a,b,c,d,e,h3,h4,h5⟩;exact⟨a,b,c,d,e,h3,h4,.tail h5 hm⟩
    |wait=>
     have h0:=(hA.wait _ ch i l h.st.inv (by show(T i).ph.proj=_;rw[hp];rfl) ha).1;subst h0;unfold mF at hB;rw[ha] at hB;exact qU (h.look hA hi dL hr (.inr ⟨l,hp,ha⟩) λaI iS v _=>hB aI iS v)
def Inv.step (hA:A.Ok)(h:Inv P ty Wg A Fin Shun gs w t T ch)(hi:gs[i]? =some x)(cH:x.status=.running):ResT P ty Wg A Fin Shun gs w t T sl i:=by
 by_cases hl:(T i).ph.leaves
 .exact qU (h.leaver hi cH hl)
 have hs:=h.dy.sit i x hi;rw[pF hl] at hs;obtain⟨r,hr,_,_⟩:=hs;exact Inv.stepR hA hi cH r h hr
def zDp (hA:A.Ok)(h:Inv P ty Wg A Fin Shun gs w t T ch)(sl:Option (Nat×Nat)):∃N m' t',runNT P N (crowd gs w sl) t=(.next m',t')/\O4 P Wg Fin Shun m' t':=by
 refine run_to (zEb Mu.wf) (λμ m t=>∃gs w sl T ch,m=crowd gs w sl/\Inv P ty Wg A Fin Shun gs w t T ch/\μ=mu gs T) (O4 P Wg Fin Shun) ?_ _ _ _ ⟨gs,w,sl,T,ch,rfl,h,rfl⟩;rintro μ m t ⟨gs,w,sl,T,ch,rfl,h,rfl⟩;obtain⟨i,g,d,J7,hi,hg,aY⟩:=crowd_pick (P:=P) (w:=w) (sl:=sl) h.awake (h.some1 hA);obtain⟨m',ops,cH,zdl⟩:=(h.at d).step hA hi hg (sl:=J7);refine⟨m',ops,aY.trans cH,zdl.imp id ?_⟩;rintro⟨gs',w',zIa,T',tN,rfl,hI,K7⟩;exact⟨_,K7,gs',w',zIa,T',tN,rfl,hI,rfl⟩
end
end Go.Mt
namespace Go.Tt
section
variable {P:dM}{S:aP->Prop}{K:Pr}{R:Pr}
variable {f:aF->ByteArray->cU (ForInStep ByteArray)}
def zuR (hf:∀(R:Pr) c c' s,VR S K R c c'->aG P S K lR (f c s) R (f c' s)):∀(l l':List aF) {R:Pr} (s:ByteArray),xV S K R l l'->
 aG P S K lR (forIn (m:=cU) l s f) R (forIn (m:=cU) l' s f)
 |[],[],R,s,_=>aG.ret rfl
 |[],_::_,_,_,h=>by have:=h.1;simp at this
 |_::_,[],_,_,h=>by have:=h.1;simp at this
 |a::l,a'::l',R,s,h=>by
  obtain⟨h1,h2⟩:=h.cons;simp only[List.forIn_cons];refine aG.bnd (hf R a a' s h1) ?_;rintro R1 e1 x _ rfl
  cases x with
  |done b=>exact aG.ret rfl
  |yield b=>exact zuR hf l l' b (h2.mono e1.le)
variable {x':aF}
def zCr {x:aF}(h:VR S K R x x'):aG P S K (VA S K) (zcP x) R (zcP x'):=by
 unfold zcP
 cases h with
 |slice ha=>
  cases ha with
  |none=>exact aG.ret (.string _)
  |some ha=>
   refine aG.bnd (zhL ha _) ?_;intro R1 e1 xs bY hx;simp only;rw[<-zxU,<-zxU];refine aG.bnd (zuR (λR c c' s hc=>?_) _ _ _ hx.toList) ?_
   .cases hc with
    |int k n=>cases k<;>first|exact aG.ret rfl|exact .inl (bN.bnd _)|exact .inl bN
    |_=>first|exact .inl (bN.bnd _)|exact .inl bN
   rintro R2 e2 s _ rfl;exact aG.ret (.string _)
 |_=>exact .inl bN
def ziP (v:aF):cU Next:=
 match v with
 | .pointer none| .nilIface| .nilFunc=>runtimePanic .nilDeref
 | .func (.method name) first captured=>
  match(first[0]? :Option aF) with
  |some .nilIface=>runtimePanic .nilDeref
  |some (.iface t w)=>do
   if(<-nilAhead ((<-program).types.size+Made.depth) t w name) !=some false then
    unsupported (.noEntry "op/nilCheck.the method's receiver behind this interface value is a nil pointer, or cannot be seen to be none, and the arguments act or may panic (ledger 612)")
   pure (.value (.func (.method name) first captured))
  |_=>pure (.value (.func (.method name) first captured))
 |x=>pure (.value x)
def zGB {x:aF}(h:VR S K R x x'):aG P S K (λR a b=>∃v v',a=.value v/\b=.value v'/\VR S K R v v') (ziP x) R (ziP x'):=by
 unfold ziP;have h0:=h
 cases h with
 |pointer h=>cases h with
  |none=>exact .inl vE
  |some h=>exact aG.ret ⟨_,_,rfl,rfl,h0⟩
 |nilIface=>exact .inl vE
 |nilFunc=>exact .inl vE
 |junk h=>exact .inl vE
 |_=>exact aG.ret ⟨_,_,rfl,rfl,h0⟩
end
end Go.Tt
namespace Go.Tt
open Go.Conc
end Go.Tt
namespace Go.Tt
def zdg (p:bS)(t:aM):Bool:=
 match p.underlying t with
 |some (.int _)=>(match p.info? t with|some i=>(match i.desc with| .named "sync.copyChecker" _=>false|_=>true)|none=>true)
 |some d=>zaW d
 |none=>false
def zrJ:aF->Bool
 | .bool _| .int _ _| .string _| .nilFunc| .nilIface| .pointer none| .slice none _ _| .map none| .chan none=>true
 |_=>false
def Xh (p:bS)(t:aM):Bool:=match p.underlying t with|some (.map k _)=>zdg p k|_=>true
def zbO (p:bS)(t:aM):Bool:=match p.underlying t with|some (.int _)=>true|_=>false
def dQ (fs:aP->Bool):cM->Bool
 | .tmp _=>true
 | .const v=>zrJ v
 | .global _=>false
 | .func f=>fs f
def okTab (p:bS):cM->Bool
 | .global g=>Ap p g
 |_=>false
structure Cl where
 fs:aP->Bool
 gs:aP->Bool
 dy:Bool
abbrev Cl.T (c:Cl)(f:aP):Prop:=c.gs f=true
def zgK (p:bS)(t:aM):Bool:=match p.underlying t with|some (.slice e)=>(match p.underlying e with|some (.int .u8)=>true|_=>false)|_=>false
def zem (p:bS)(t:aM):Bool:=match p.underlying t with|some .string=>true|_=>false
def zfE (p:bS)(t:aM):cM->Bool
 | .const (.pointer none)=>(match p.underlying t with|some (.pointer _)=>true|_=>false)
 |_=>false
def zsP (c:Cl):cM->Bool
 | .func g=>c.gs g
 |x=>dQ c.fs x&&c.dy
def sG (p:bS)(c:Cl):Op->Bool
 | .move x| .assign x| .nilCheck x=>dQ c.fs x
 | .pick q a b=>dQ c.fs q&&dQ c.fs a&&dQ c.fs b
 | .alloc _=>true
 | .box _ x=>dQ c.fs x
 | .build _ ps=>ps.all λx=>dQ c.fs x.2
 | .buildSlice _ _ ps=>ps.all λx=>dQ c.fs x.2
 | .load _ a=>dQ c.fs a
 | .store _ a x=>dQ c.fs a&&dQ c.fs x
 | .binOp op t x y _=>dQ c.fs x&&dQ c.fs y&&(if op matches .eql| .neq then(zdg p t||zfE p t y)&& !(p.eqGuardType p.depth t) else true)
 | .unOp _ _ x=>dQ c.fs x
 | .convert s d x=>dQ c.fs x&&((zbO p s&&zbO p d)||(zgK p s&&zem p d))
 | .makeFunc (.func f) a b=>c.fs f&&a.all (dQ c.fs)&&b.all (dQ c.fs)
 | .makeMap _ r=>(match r with|some x=>dQ c.fs x|none=>true)
 | .makeSlice _ l q=>dQ c.fs l&&dQ c.fs q
 | .makeChan _ l=>dQ c.fs l
 | .slice _ x lo hi mx=>dQ c.fs x&&(match lo with|some x=>dQ c.fs x|none=>true)&&(match hi with|some x=>dQ c.fs x|none=>true)&&(match mx with|some x=>dQ c.fs x|none=>true)
 | .fieldAddr _ x _| .extract x _=>dQ c.fs x
 | .indexAddr _ x i=>(dQ c.fs x||okTab p x)&&dQ c.fs i
 | .index _ x i=>dQ c.fs x&&dQ c.fs i
 | .makeInterface _ x| .panic x=>dQ c.fs x
 | .lookup t x i _=>dQ c.fs x&&dQ c.fs i&&Xh p t
 | .mapUpdate t m k x=>dQ c.fs m&&dQ c.fs k&&dQ c.fs x&&Xh p t
 | .call {callee:=.value f,args,..}=>zsP c f&&args.all (dQ c.fs)
 | .call {callee:=.builtin .len,args,..}| .call {callee:=.builtin .cap,args,..}| .call {callee:=.builtin .copy,args,..}| .call {callee:=.builtin .append,args,..}| .call {callee:=.builtin .clear,args,..}=>args.all (dQ c.fs)
 | .call {callee:=.builtin .delete,args,argTypes}=>args.all (dQ c.fs)&&(match argTypes[0]? with|some t=>Xh p t|none=>true)
 |_=>false
section
variable {P:dM}{fs:aP->Bool}{K R:Pr}
abbrev SF (fs:aP->Bool):aP->Prop:=λf=>fs f=true
variable {t:aM}
def zgv (h:zdg P.c t=true):Ly P t:=by
 unfold zdg at h;have hu:∀d,P.c.underlying t=some d->P.underlying t=some d:=λd e=>e;split at h
 .next k e=>
  refine⟨⟨_,e,rfl⟩,λk' _ i x hi hd=>?_⟩;have gV:P.c.info? t=some i:=hi;rw[gV] at h;simp only[hd] at h;cases h
 .next d aT e=>
  exact⟨⟨d,e,h⟩,λk hk=>absurd (e.symm.trans hk) (by intro e';injection e' with e';exact aT k (e'▸rfl))⟩
 .cases h
def zvd {v:aF}(h:zrJ v=true):VR (SF fs) K R v v:=by
 cases v with
 |bool b=>exact .bool b
 |int k n=>exact .int k n
 |string s=>exact .string s
 |nilFunc=>exact .nilFunc
 |nilIface=>exact .nilIface
 |pointer a=>cases a with|none=>exact .pointer .none|some a=>cases h
 |slice a n c=>cases a with|none=>exact .slice .none|some a=>cases h
 |map a=>cases a with|none=>exact .map .none|some a=>cases h
 |chan a=>cases a with|none=>exact .chan .none|some a=>cases h
 |_=>cases h
inductive NxR (S:aP->Prop)(T:aP->Prop)(K R:Pr):Next->Next->Prop
 |value {v v':aF}:VR S K R v v'->NxR S T K R (.value v) (.value v')
 |skip:NxR S T K R .skip .skip
 |enter {f:aP} {xs bY:Array aF}:T f->bK S K R xs bY->NxR S T K R (.enter f xs) (.enter f bY)
abbrev NA (S:aP->Prop)(T:aP->Prop)(K:Pr):Pr->Next->Next->Prop:=λR n n'=>NxR S T K R n n'
def qA {S T:aP->Prop}{s s':cU aF}(h:aG P S K (VA S K) s R s'):aG P S K (NA S T K) (do pure (.value (<-s))) R (do pure (.value (<-s'))):=
 aG.bnd h λ_ _ _ _ hv=>aG.ret (.value hv)
variable {α:Type}
def sim_u {S T:aP->Prop}{s s':cU α}(h:aG P S K lR s R s'):aG P S K (NA S T K) (do let _<-s;pure .skip) R (do let _<-s';pure .skip):=
 aG.bnd h λ_ _ _ _ _=>aG.ret .skip
variable {ρ ρ':cM->aF}
def bK.maps {S:aP->Prop}{ok:cM->Bool}(h:∀x,ok x=true->VR S K R (ρ x) (ρ' x)){xs:Array cM}(hx:xs.all ok=true):bK S K R (xs.map ρ) (xs.map ρ'):=by
 refine⟨aO,λi v v' h1 h2=>?_⟩;rw[yB] at h1 h2;obtain⟨x,D5,rfl⟩:=xK.1 h1;obtain⟨y,Qb,rfl⟩:=xK.1 h2;rw[D5] at Qb;cases Qb;exact h x (zmx.1 hx i (dP.1 D5).1|>λe=>by rwa [(dP.1 D5).2] at e)
def zAj {S:aP->Prop}(op:BinOp)(t:aM)(x y:cM){a a' b b':aF}(ha:VR S K R a a')(hb:VR S K R b b')(h:P.c.eqGuardType P.c.depth t=false)(h':P.g.eqGuardType P.g.depth t=false):
 aG P S K lR (eqGuard op t x y a b) R (eqGuard op t x y a' b'):=by
 have rest:aG P S K lR (do
  match a,b with
  | .nilIface,.nilIface=>
   if(x matches .const _)||(y matches .const _) then return
   if<-Th Tl t a b then unsupported (.noEntry "binop/eql: two nil values of an interface type with methods, neither of them the literal nil")
  | .agg _,.agg _=>
   if !(<-program).eqGuardType (<-program).depth t then return
   if<-Th Tl t a b then unsupported (.noEntry "binop/eql: two nil values of an interface type with methods, in a part of a struct or an array")
  |_,_=>pure ()) R (do
  match a',b' with
  | .nilIface,.nilIface=>
   if(x matches .const _)||(y matches .const _) then return
   if<-Th Tl t a' b' then unsupported (.noEntry "binop/eql: two nil values of an interface type with methods, neither of them the literal nil")
  | .agg _,.agg _=>
   if !(<-program).eqGuardType (<-program).depth t then return
   if<-Th Tl t a' b' then unsupported (.noEntry "binop/eql: two nil values of an interface type with methods, in a part of a struct or an array")
  |_,_=>pure ()):=by
  cases ha with
  |nilIface=>
   cases hb with
   |nilIface=>
    simp only;by_cases hc:((x matches .const _)||(y matches .const _))=true
    .rw[if_pos hc]
     exact aG.ret rfl
    .rw[if_neg hc]
     refine aG.bnd (A:=lR) ?_ λR1 h1 c _ e=>?_
     .show aG P S K lR (Th (9999+1) t .nilIface .nilIface) R (Th (9999+1) t .nilIface .nilIface)
      unfold Th;refine aG.bnd (l9 t) ?_;rintro R1 h1 d _ ⟨rfl,_⟩;cases d<;>exact aG.ret rfl
     .subst e
      cases c
      .exact aG.ret rfl
      .exact .inl lJ
   |junk hh=>cases b'<;>first|exact hh.elim|exact aG.ret rfl
   |_=>exact aG.ret rfl
  |agg e1 e2=>
   cases hb with
   |agg e3 e4=>
    simp only;refine aG.bnd Rb ?_;rintro R1 h1 p q ⟨rfl,rfl⟩;refine aG.bnd Rb ?_;rintro R2 h2 p q ⟨rfl,rfl⟩;rw[h,h'];exact aG.ret rfl
   |junk hh=>cases b'<;>first|exact hh.elim|exact aG.ret rfl
   |_=>exact aG.ret rfl
  |junk hh=>cases a'<;>first|exact hh.elim|exact aG.ret rfl
  |_=>exact aG.ret rfl
 unfold eqGuard;cases op<;>first|exact aG.ret rfl|exact rest
variable {x x':aF}
def sim_cmp (op:BinOp)(ho:op=.eql\/op=.neq)(he:Ly P t)(hR:tZ P K R){y y':aF}(hx:VR (SF fs) K R x x')(hy:VR (SF fs) K R y y'):
 aG P (SF fs) K (VA (SF fs) K) (binOp op t x y) R (binOp op t x' y'):=by
 have k1:aG P (SF fs) K (VA (SF fs) K) (do pure (.bool (<-zA t x y))) R (do pure (.bool (<-zA t x' y'))):=
  aG.bnd (zjj he hR hx hy) λR1 _ b _ e=>by subst e;exact aG.ret (.bool _)
 have k2:aG P (SF fs) K (VA (SF fs) K) (do pure (.bool (!(<-zA t x y)))) R (do pure (.bool (!(<-zA t x' y')))):=
  aG.bnd (zjj he hR hx hy) λR1 _ b _ e=>by subst e;exact aG.ret (.bool _)
 by_cases hf:Flat x/\Flat y
 rotate_left
 .obtain⟨d,hd,ok⟩:=he.ex
  have hn:=zmP hd ok hf;refine .inl ?_
  rcases ho with rfl|rfl<;>cases x<;>cases y<;>first
   |exact(hf ⟨True.intro,True.intro⟩).elim
   |exact hn.bnd _
 rcases ho with rfl|rfl
 .cases hx with
  |int k a=>
   cases hy with
   |int k' b=>
    by_cases hk:k=k'
    .subst hk;simp only[binOp,ne_eq,not_true_eq_false,if_false];exact zio _ _ _
    .simp only[binOp,ne_eq,hk,not_false_eq_true,if_true];exact .inl bN
   |junk hh=>exact hf.2.elim
   |_=>exact k1
  |string a=>
   cases hy with
   |string b=>exact zmi .eql a b
   |junk hh=>exact hf.2.elim
   |_=>exact k1
  |junk hh=>exact hf.1.elim
  |_=>cases hy<;>first|exact k1|exact hf.2.elim
 .cases hx with
  |int k a=>
   cases hy with
   |int k' b=>
    by_cases hk:k=k'
    .subst hk;simp only[binOp,ne_eq,not_true_eq_false,if_false];exact zio _ _ _
    .simp only[binOp,ne_eq,hk,not_false_eq_true,if_true];exact .inl bN
   |junk hh=>exact hf.2.elim
   |_=>exact k2
  |string a=>
   cases hy with
   |string b=>exact zmi .neq a b
   |junk hh=>exact hf.2.elim
   |_=>exact k2
  |junk hh=>exact hf.1.elim
  |_=>cases hy<;>first|exact k2|exact hf.2.elim
def zfi {d:TypeDesc}(hd:P.c.underlying t=some d){β:Type}{f:TypeDesc->cU β}(hf:fC P (f d)):fC P (underlying t>>=f):=λw hw=>by
 obtain⟨h1,w1,h2,h3⟩:=hf w hw;refine⟨h1,w1,?_,h3⟩;have hg:P.g.underlying t=some d:=hd;have hu:(underlying t).run P.g w=.ok d w:=by simp[underlying,program,bD,bind,x7,pure,hg]
 have:=sE P.g (underlying t) f w;rw[hu] at this;exact this.trans h2
variable {p:bS}
def zAJ {y:cM}(h:zfE p t y=true):∃el,p.underlying t=some (.pointer el)/\y=.const (.pointer none):=by
 unfold zfE at h;split at h
 .split at h
  .next el e=>exact⟨el,e,rfl⟩
  .cases h
 .cases h
def zGq {el:aM}(op:BinOp)(ho:op=.eql\/op=.neq)(he:P.c.underlying t=some (.pointer el))(hx:VR (SF fs) K R x x'):
 aG P (SF fs) K (VA (SF fs) K) (binOp op t x (.pointer none)) R (binOp op t x' (.pointer none)):=by
 have key:aG P (SF fs) K lR (Da (9999+1) t x (.pointer none)) R (Da (9999+1) t x' (.pointer none)):=by
  unfold Da;refine aG.bnd (l9 t) ?_;rintro R1 h1 d _ ⟨rfl,hd⟩;obtain rfl:d=.pointer el:=cE ((hd).symm.trans he)
  cases hx with
  |pointer hp=>
   cases hp with
   |none=>exact aG.ret rfl
   |some _=>exact aG.ret rfl
  |_=>exact .inl zhR
 have k1:aG P (SF fs) K (VA (SF fs) K) (do pure (.bool (<-zA t x (.pointer none)))) R (do pure (.bool (<-zA t x' (.pointer none)))):=
  aG.bnd key λR1 _ b _ e=>by subst e;exact aG.ret (.bool _)
 have k2:aG P (SF fs) K (VA (SF fs) K) (do pure (.bool (!(<-zA t x (.pointer none))))) R (do pure (.bool (!(<-zA t x' (.pointer none))))):=
  aG.bnd key λR1 _ b _ e=>by subst e;exact aG.ret (.bool _)
 by_cases hj:x=.nilFunc
 .subst hj
  refine .inl ?_;have hn:fC P (zA t .nilFunc (.pointer none)):=by
   show fC P (Da (9999+1) t .nilFunc (.pointer none));unfold Da;exact zfi he zhR
  rcases ho with rfl|rfl<;>exact hn.bnd _
 rcases ho with rfl|rfl
 .cases hx with
  |junk _=>exact absurd rfl hj
  |_=>exact k1
 .cases hx with
  |junk _=>exact absurd rfl hj
  |_=>exact k2
variable {s:aM}
def zB1 {d:aM}(hs:zbO P.c s=true)(hd:zbO P.c d=true){S:aP->Prop}(hx:VR S K R x x'):aG P S K (VA S K) (convert s d x) R (convert s d x'):=by
 unfold convert;refine aG.bnd (l9 s) ?_;rintro R1 h1 a _ ⟨rfl,ha⟩;refine aG.bnd (l9 d) ?_;rintro R2 h2 b _ ⟨rfl,hb⟩;have fM:P.c.underlying s=some a:=ha;have b6:P.c.underlying d=some b:=hb;unfold zbO at hs hd;rw[fM] at hs;rw[b6] at hd;cases a<;>simp only[jE] at hs;cases b<;>simp only[jE] at hd
 cases hx with
 |int k n=>exact aG.ret (.int _ _)
 |pointer h=>cases h<;>exact .inl lJ
 |_=>exact .inl lJ
def zIk (h:zgK p s=true):∃e,p.underlying s=some (.slice e)/\p.underlying e=some (.int .u8):=by
 unfold zgK at h;split at h
 .next e he=>
  split at h
  .next h2=>exact⟨e,he,h2⟩
  .cases h
 .cases h
def zCk (h:zem p s=true):p.underlying s=some .string:=by
 unfold zem at h;split at h
 .next he=>exact he
 .cases h
def zIC {S:aP->Prop}(n:Int):aG P S K (VA S K) (ziq n) R (ziq n):=by
 unfold ziq
 first|exact aG.ret (.string _)|(split<;>exact aG.ret (.string _))
def zHw {d:aM}(hs:zgK P.c s=true)(hd:zem P.c d=true){S:aP->Prop}(hx:VR S K R x x'):aG P S K (VA S K) (convert s d x) R (convert s d x'):=by
 obtain⟨e,vS,Ba⟩:=zIk hs;have No:=zCk hd;by_cases hj:x=.nilFunc
 .subst hj
  refine .inl ?_;unfold convert;exact zfi vS (zfi No (zfi Ba bN))
 unfold convert;refine aG.bnd (l9 s) ?_;rintro R1 h1 a _ ⟨rfl,ha⟩;refine aG.bnd (l9 d) ?_;rintro R2 h2 b _ ⟨rfl,hb⟩;obtain rfl:a=.slice e:=cE ((ha).symm.trans vS);obtain rfl:b=.string:=cE ((hb).symm.trans No)
 have tail:∀{x x':aF},VR S K R2 x x'->aG P S K (VA S K) (do match<-underlying e with| .int .u8=>zcP x| .int .i32=>zqD x|_=>stuck "Convert: a slice of what to string?") R2
  (do match<-underlying e with| .int .u8=>zcP x'| .int .i32=>zqD x'|_=>stuck "Convert: a slice of what to string?"):=by
  intro x x' hx;refine aG.bnd (l9 e) ?_;rintro R3 h3 c _ ⟨rfl,hc⟩;obtain rfl:c=.int .u8:=cE ((hc).symm.trans Ba);exact zCr (hx.mono h3.le)
 have Ak:=(hx.mono h1.le).mono h2.le
 cases hx with
 |int k n=>exact zIC n
 |string s=>exact aG.ret (.string s)
 |nilFunc=>exact absurd rfl hj
 |junk _=>exact absurd rfl hj
 |slice h=>cases h<;>exact tail Ak
 |_=>exact tail Ak
def oI (p:bS)(q:Cl):Code->Bool
 | .skip| .ret| .exit _| .label _=>true
 | .region _ ops _=>ops.all λo=>sG p q o.op
 | .seq a b=>oI p q a&&oI p q b
 | .cond c a b=>dQ q.fs c&&oI p q a&&oI p q b
 | .block _ c| .loop c| .scope c=>oI p q c
 |_=>false
def tU (P:dM)(fs:aP->Bool)(f:aP):Cl:=if P.lw f then⟨fs,P.lw,false⟩ else⟨fs,P.gs,P.dy⟩
def zjM (P:dM)(fs:aP->Bool)(f:aP):(tU P fs f).fs=fs:=by unfold tU;split<;>rfl
structure Fit (P:dM)(fs:aP->Bool):Prop where
 zero:H6 P (SF fs)
 fn:∀f,P.gs f=true->P.op f=false->∃fn c,P.g.funcs[f]? =some fn/\P.c.funcs[f]? =some fn/\(fn.name== "runtime.NumGoroutine")=false/\fn.body=some c/\oI P.c (tU P fs f) c=true
 opq:∀f,P.gs f=true->P.op f=true->∃fn fn' c c',P.g.funcs[f]? =some fn/\P.c.funcs[f]? =some fn'/\(fn.name== "runtime.NumGoroutine")=false/\(fn'.name== "runtime.NumGoroutine")=false/\fn.body=some c/\fn'.body=some c'
 low:∀f,P.lw f=true->P.op f=false/\P.gs f=true
 dyn:P.dy=true->∀f,fs f=true->P.gs f=true
 guard:∀t,P.g.eqGuardType P.g.depth t=P.c.eqGuardType P.c.depth t
def zsj (F:Fit P fs){T:aP->Prop}{f:aP}(hf:P.gs f=true)(hT:T f){xs bY:Array aF}(h:bK (SF fs) K R xs bY):aG P (SF fs) K (NA (SF fs) T K) (callFunc f xs) R (callFunc f bY):=by
 unfold callFunc;refine aG.bnd Rb ?_;rintro R1 h1 p q ⟨rfl,rfl⟩
 cases ho:P.op f with
 |false=>
  obtain⟨fn,c,e1,e2,e3,e4,_⟩:=F.fn f hf ho;simp only[e1,e2,e3,e4,zs3,jE,if_false];exact aG.ret (.enter hT (h.mono h1.le))
 |true=>
  obtain⟨fn,fn',c,c',e1,e2,e3,e4,e5,e6⟩:=F.opq f hf ho;simp only[e1,e2,e3,e4,e5,e6,zs3,jE,if_false];exact aG.ret (.enter hT (h.mono h1.le))
def zfT {S:aP->Prop}(hρ:∀x,dQ fs x=true->VR S K R (ρ x) (ρ' x)){r:Option cM}(h:(match r with|some x=>dQ fs x|none=>true)=true):y7 S K R (r.map ρ) (r.map ρ'):=by
 cases r with
 |none=>exact .none
 |some x=>exact .some (hρ x h)
variable {ps:Array (Nat×cM)}
def zrx {S:aP->Prop}(hρ:∀x,dQ fs x=true->VR S K R (ρ x) (ρ' x))(h:(ps.all λx=>dQ fs x.2)=true):Mh S K R (ps.map λ(i,x)=>(i,ρ x)).toList (ps.map λ(i,x)=>(i,ρ' x)).toList:=by
 rw[zvi,zvi];have h':∀x∈ps.toList,dQ fs x.2=true:=λx hx=>by
  rw[Array.all_eq_true'] at h;exact h x (by simpa using hx)
 generalize ps.toList=l at h'⊢
 induction l with
 |nil=>exact .nil
 |cons a l ih=>
  obtain⟨i,x⟩:=a;exact .cons (hρ x (h' (i,x) aO)) (ih λy hy=>h' y (by simp[hy]))
def zH7 (q:Ask α):∀w:aE,(w.ask q).2.heap=w.heap:=by
 induction q with
 |done a=>intro w;rfl
 |ask zMP range k ih=>
  intro w;unfold aE.ask;simp only;split
  .exact ih _ w
  .exact ih _ _
def zHz (c:Sys):nD P (sys c):=λw hw=>.inl ⟨(w.sys c).1,(w.sys c).2,rfl,λb cc e=>by
 have:(w.sys c).2.heap=w.heap:=by
  have h:=zH7 (Kernel.perform c w.os) w;unfold aE.sys;split
  .rfl
  .next e=>rw[e] at h;exact h
 rw[this];exact hw b cc e⟩
def zBS :fC P (zvb x):=by
 unfold zvb;cases x<;>first|exact zfS|exact bN|skip
 refine fC.then ?_ λn=>?_
 .unfold Instr.panicnil
  refine(zHz _).bnd λr=>?_;cases r<;>first|exact .never bN|exact zmM.bnd λ_=>nD.ret _
 .split
  .exact zfS
  .exact vE
def zno (F:Fit P fs)(hR:tZ P K R)(hρ:∀x,dQ fs x=true->VR (SF fs) K R (ρ x) (ρ' x))(Cz:∀g,ρ (.func g)=.func (.func g) #[] #[])(zJf:∀g,ρ' (.func g)=.func (.func g) #[] #[])(zkL:∀g,ρ (.global g)=.pointer (some ⟨g,0,none⟩))(zII:∀g,ρ' (.global g)=.pointer (some ⟨g,0,none⟩))(sN:∀v,ρ (.const v)=v)(zAB:∀v,ρ' (.const v)=v){q:Cl}(hq:q.fs=fs)(zua:∀f,q.gs f=true->P.gs f=true)(zys:q.dy=true->∀f,fs f=true->q.gs f=true){o:aZ}(ok:sG P.c q o.op=true):
 aG P (SF fs) K (NA (SF fs) q.T K) (aS ρ o) R (aS ρ' o):=by
 obtain⟨dst,op,type,pos,after,guard⟩:=o;subst hq;simp only at ok;unfold aS
 cases op with
 |move x=>exact aG.ret (.value (hρ x ok))
 |assign x=>exact aG.ret (.value (hρ x ok))
 |pick c a b=>
  simp only[sG,fU] at ok;refine aG.bnd (zC0 (hρ c ok.1.1)) ?_;rintro R1 h1 x _ rfl;cases x
  .exact aG.ret (.value ((hρ b ok.2).mono h1.le))
  .exact aG.ret (.value ((hρ a ok.1.2).mono h1.le))
 |alloc t=>exact qA (zF3 F.zero t)
 |box t x=>exact qA (zCF t (hρ x ok))
 |load t a=>exact qA (zEZ t (hρ a ok))
 |store t a x=>
  simp only[sG,fU] at ok;exact sim_u (zz8 t (hρ a ok.1) (hρ x ok.2))
 |binOp op t x y t'=>
  simp only[sG,fU] at ok;obtain⟨⟨hx,hy⟩,hk⟩:=ok;by_cases ho:op=.eql\/op=.neq
  .have cO:(zdg P.c t=true\/zfE P.c t y=true)/\P.c.eqGuardType P.c.depth t=false:=by
    rcases ho with rfl|rfl<;>simpa using hk
   refine qA ?_;refine aG.bnd (zAj op t x y (hρ x hx) (hρ y hy) cO.2 (by rw[F.guard];exact cO.2)) ?_;rintro R1 h1 _ _ _;rcases cO.1 with nZ|nZ
   .exact sim_cmp op ho (zgv nZ) (h1.ok hR) ((hρ x hx).mono h1.le) ((hρ y hy).mono h1.le)
   .obtain⟨el,e1,e2⟩:=zAJ nZ
    subst e2;rw[sN,zAB];exact zGq op ho e1 ((hρ x hx).mono h1.le)
  .have vH:op≠ .eql/\op≠ .neq:=⟨λe=>ho (.inl e),λe=>ho (.inr e)⟩
   refine qA ?_;have hg:∀a b,eqGuard op t x y a b=kN ():=λa b=>by
    unfold eqGuard;cases op<;>first|rfl|exact absurd rfl vH.1|exact absurd rfl vH.2
   rw[hg,hg];refine aG.bnd (A:=lR) (aG.ret rfl) ?_;rintro R1 h1 _ _ _;exact zyH op t vH (h1.ok hR) ((hρ x hx).mono h1.le) ((hρ y hy).mono h1.le)
 |unOp op t x=>exact qA (zFR op (hρ x ok))
 |convert s d x=>
  simp only[sG,fU,Ey] at ok;rcases ok.2 with h|h
  .exact qA (zB1 h.1 h.2 (hρ x ok.1))
  .exact qA (zHw h.1 h.2 (hρ x ok.1))
 |nilCheck x=>
  have:=zGB (P:=P) (hρ x ok);exact this.mono λR' _ a b h=>by
   obtain⟨v,v',rfl,rfl,h⟩:=h;exact .value h
 |build t ps=>exact qA (zCS F.zero t (zrx hρ ok))
 |buildSlice t n ps=>exact qA (zEf F.zero t n (zrx hρ ok))
 |makeFunc fn a b=>
  cases fn with
  |func f=>
   simp only[sG,fU] at ok;have ha:=bK.maps hρ ok.1.2;have hb:=bK.maps hρ ok.2;exact qA (aG.ret (.func ok.1.1 ha.1 ha.2 hb.1 hb.2))
  |_=>cases ok
 |makeMap t r=>exact qA (zyG t (zfT hρ ok))
 |makeSlice t l c=>
  simp only[sG,fU] at ok;exact qA (zEB F.zero t (hρ l ok.1) (hρ c ok.2))
 |makeChan t l=>exact qA (zGV t (hρ l ok))
 |slice t x lo hi mx=>
  simp only[sG,fU] at ok;exact qA (zC6 t (hρ x ok.1.1.1) (zfT hρ ok.1.1.2) (zfT hρ ok.1.2) (zfT hρ ok.2))
 |fieldAddr t x f=>exact qA (zCB t (hρ x ok) f)
 |extract x i=>exact qA (zyW (hρ x ok) i)
 |indexAddr t x i=>
  simp only[sG,fU,Ey] at ok;have hx:VR (SF q.fs) K R (ρ x) (ρ' x):=by
   rcases ok.1 with h|h
   .exact hρ x h
   .cases x with
    |global g=>rw[zkL,zII];exact .pointer (.some (.mk (hR.tb g h)))
    |_=>cases h
  exact qA (zHv t hx (hρ i ok.2))
 |makeInterface t x=>exact qA (zzS t (hρ x ok))
 |panic x=>exact qA (.inl zBS)
 |index t x i=>
  simp only[sG,fU] at ok;exact qA (zzH t (hρ x ok.1) (hρ i ok.2))
 |lookup t x i c=>
  simp only[sG,fU] at ok;refine qA (zF6 F.zero (λk e he=>?_) hR (hρ x ok.1.1) (hρ i ok.1.2) c);have hm:=ok.2;unfold Xh at hm;rw[show P.c.underlying t=some (.map k e) from he] at hm;exact zgv hm
 |mapUpdate t m k x=>
  simp only[sG,fU] at ok;refine sim_u (zIN (λk e he=>?_) hR (hρ m ok.1.1.1) (hρ k ok.1.1.2) (hρ x ok.1.2));have hm:=ok.2;unfold Xh at hm;rw[show P.c.underlying t=some (.map k e) from he] at hm;exact zgv hm
 |call c=>
  obtain⟨callee,args,kH⟩:=c
  cases callee with
  |value f=>
   simp only[sG,fU] at ok;have ha:=bK.maps hρ ok.2;have key:(∀g,f≠ .func g)->aG P (SF q.fs) K (NA (SF q.fs) q.T K) (aS ρ ⟨dst,.call ⟨.value f,args,kH⟩,type,pos,after,guard⟩) R (aS ρ' ⟨dst,.call ⟨.value f,args,kH⟩,type,pos,after,guard⟩):=by
    intro aT;have h1:dQ q.fs f=true/\q.dy=true:=by
     have:=ok.1;unfold zsP at this
     cases f with
     |func g=>exact absurd rfl (aT g)
     |_=>simpa using this
    have hf:=hρ f h1.1;unfold aS;simp only[resolve];unfold Bu;generalize ρ f=vf at hf⊢;generalize ρ' f=vf' at hf⊢
    cases hf with
    |nilFunc=>
     refine .inl ?_;intro w hw;exact(vE (P:=P) (α:=Next) (e:=.nilDeref)) w hw
    |junk _=>
     refine .inl ?_;intro w hw;exact(vE (P:=P) (α:=Next) (e:=.nilDeref)) w hw
    |func hs e1 zR e2 h2=>
     show aG P _ K _ (callFunc _ _) R (callFunc _ _);exact zsj F (zua _ (zys h1.2 _ hs)) (zys h1.2 _ hs) (bK.append (bK.append ⟨e1,zR⟩ ha) ⟨e2,h2⟩)
    |_=>exact .inl (fC.bnd bN _)
   cases f with
   |func g=>
    have hg:q.gs g=true:=ok.1;simp only[resolve];unfold Bu;rw[Cz,zJf];show aG P _ K _ (callFunc _ _) R (callFunc _ _);exact zsj F (zua _ hg) hg (bK.append (bK.append bK.empty ha) bK.empty)
   |_=>exact key (λg e=>by cases e)
  |builtin b=>
   cases b with
   |len=>exact qA (zDt kH type (bK.maps hρ ok))
   |cap=>exact qA (zB4 kH type (bK.maps hρ ok))
   |copy=>exact qA (zFT kH type (bK.maps hρ ok))
   |clear=>exact qA (zEt F.zero kH type (bK.maps hρ ok))
   |append=>
    by_cases hi:∃xt k,kH[1]? =some xt/\P.underlying xt=some (.int k)
    .obtain⟨xt,k,e1,e2⟩:=hi
     exact qA (zFv F.zero type e1 e2 (bK.maps hρ ok))
    .refine qA (zHg F.zero type (λxt d he hd k hk=>?_) (bK.maps hρ ok))
     subst hk;exact hi ⟨xt,k,he,hd⟩
   |delete=>
    simp only[sG,fU] at ok;refine qA (zEL type (λmt k e he hd=>?_) hR (bK.maps hρ ok.1));have h2:=ok.2;rw[he] at h2;simp only at h2;unfold Xh at h2;rw[show P.c.underlying mt=some (.map k e) from hd] at h2;exact zgv h2
   |_=>cases ok
  |invoke x y=>cases ok
 |_=>cases ok
end
def tp (w:aE)(T:jW)(e:Nat):World:={w with tape:=T,drawn:=e}
def Mx {α:Type}(p:bS)(s:cU α)(w:aE):Prop:=
 ∀x w',s.run p w=.ok x w'->w'.tape=w.tape/\w.drawn<=w'.drawn/\∀T e,(∀n,n<w'.drawn-w.drawn->∀q,T (e+n) q=w.tape (w.drawn+n) q)->s.run p (tp w T e)=.ok x (tp w' T (e+(w'.drawn-w.drawn)))
variable {α:Type}{p:bS}{w:aE}
def Mx.no {s:cU α}(h:∀x w',s.run p w≠ .ok x w'):Mx p s w:=λx w' e=>absurd e (h x w')
def Mx.after {s iS:cU α}{aI:aE}(h:Mx p iS aI)(hr:s.run p w=iS.run p aI)(ht:aI.tape=w.tape)(hd:aI.drawn=w.drawn)(wE:∀T e,s.run p (tp w T e)=iS.run p (tp aI T e)):Mx p s w:=by
 intro x w' e;rw[hr] at e;obtain⟨h1,h2,h3⟩:=h x w' e;refine⟨h1.trans ht,aC,λT e' ha=>?_⟩;rw[wE,h3 T e' (λn hn q=>by rw[ha n aC q,ht,hd])];rw[hd]
def aG.locl {P:dM}{S:aP->Prop}{β:Type}{K:Pr}{A:Pr->α->β->Prop}{G:Gp}{St:Nat->Prop}(hG:G=P.gp)(s:cU α):
 ∀{R:Pr} {w W:aE} {s':cU β},aG P S K A s R s'->cV S K R G St w W->Tp w W->Mx P.g s w:=by
 induction s with
 |pure a=>
  rintro R w W s' _ hw ht x w' e;simp only[bD,rH] at e;obtain⟨rfl,rfl⟩:=e;exact⟨rfl,aX _,λT e _=>by simp[bD]⟩
 |load m a k ih=>
  rintro R w W s' (hn|⟨rfl,a',k',rfl,ha,hk⟩) hw ht
  .exact .no (hn.no hw.np)
  obtain⟨qK⟩:=ha;rename_i b b' o sp;obtain⟨ob,xM,h1,h2,h3⟩:=hw.cont b b' qK
  cases h3 with
  |cells hc hz=>
   rename_i c c' T fz Iz
   cases sp with
   |some sp=>exact .no λx w'=>by simp[bD,lI,h1,yV,rD]
   |none=>
    cases hv:c[o]? with
    |none=>exact .no λx w'=>by simp[bD,lI,h1,yV,rD,hv]
    |some v=>
     obtain⟨v',Ke,qS⟩:=hc.get hv;have e1:w.cell? ⟨b,o,none⟩=some v:=by simp[lI,h1,hv]
     refine(ih v (hk v v' qS) hw ht).after (by rw[bD,e1]) rfl rfl λT e=>?_;rw[bD,show(tp w T e).cell? ⟨b,o,none⟩=some v from e1]
  |_=>exact .no λx w'=>by simp[bD,lI,h1,yV,rD]
 |store m a v k ih=>
  rintro R w W s' (hn|⟨rfl,a',v',k',rfl,ha,hv,hk⟩) hw ht
  .exact .no (hn.no hw.np)
  obtain⟨qK⟩:=ha;rename_i b b' o sp;by_cases Ms:∃cs,v=.agg cs
  .obtain⟨cs,rfl⟩:=Ms;exact .no λx w'=>by simp[bD]
  by_cases Bp:∃cs,v=.tuple cs
  .obtain⟨cs,rfl⟩:=Bp;exact .no λx w'=>by simp[bD]
  have cH:∀w:aE,(cU.store .plain ⟨b,o,sp⟩ v k).run P.g w=(match w.cell? ⟨b,o,sp⟩ with
   |some _=>if w.frozen? ⟨b,o,sp⟩ then .halt (.unsupported (.unsafePointer "a write to bytes that a string shares")) w else k.run P.g (w.setCell ⟨b,o,sp⟩ v)
   |none=>match w.farStore P.g ⟨b,o,sp⟩ v (zcX== .atomic) with
    | .ok (w,_)=>k.run P.g w
    | .error h=>.halt h w):=λw=>by
   rw[bD]
   .rfl
   .exact λcs e=>Ms ⟨cs,e⟩
   .exact λcs e=>Bp ⟨cs,e⟩
  obtain⟨ob,xM,h1,h2,h3⟩:=hw.cont b b' qK
  cases h3 with
  |cells hc hz=>
   rename_i c c' T fz Iz
   cases sp with
   |some sp=>exact .no λx w'=>by rw[cH];simp[lI,h1,Dh,rD]
   |none=>
    cases fK:c[o]? with
    |none=>exact .no λx w'=>by rw[cH];simp[lI,h1,Dh,rD,fK]
    |some v0=>
     have e1:w.cell? ⟨b,o,none⟩=some v0:=by simp[lI,h1,fK]
     cases mY:w.frozen? ⟨b,o,none⟩ with
     |true=>exact .no λx w'=>by rw[cH,e1];simp[mY]
     |false=>
      have Zq:¬Lr fz o:=by
       intro⟨z1,z2⟩;simp[aE.frozen?,h1,z1,z2] at mY
      have zI:¬St b:=by
       intro hs;obtain⟨_,c2,T2,hi,g1,g2⟩:=hw.st b hs;rw[h1] at g1;injection g1 with g1;injection g1 with g1 _ g3;subst g1 g3;exact Zq ⟨jT _,Nat.lt_of_lt_of_le (dP.1 fK).1 g2⟩
      have st:=nA.upd hw qK zI (oO.cells (T:=T) (hc.set o hv) hz);refine(ih hk st.rel (ht.step st)).after (by rw[cH,e1];simp only[mY,jE,if_false];rw[Z0 h1]) rfl rfl λT' e=>?_;rw[cH,show(tp w T' e).cell? ⟨b,o,none⟩=some v0 from e1];simp only[show(tp w T' e).frozen? ⟨b,o,none⟩=false from mY,jE,if_false];rw[Z0 (w:=tp w T' e) h1];rfl
  |_=>exact .no λx w'=>by rw[cH];simp[lI,h1,Dh,rD]
 |new o k ih=>
  rintro R w W s' (hn|⟨o',k',rfl,ho,hk⟩) hw ht
  .exact .no (hn.no hw.np)
  have st:=nA.push hw ho;exact(ih _ (hk _ _ ⟨λb hb=>absurd (hw.lt _ _ hb).1 (Cr _),λa ha=>absurd (hw.lt _ _ ha).2 (Cr _),by subst hG;exact hw.gle⟩) st.rel (ht.step st)).after Mo rfl rfl λT e=>by rw[bD];rfl
 |shape r k ih=>
  rintro R w W s' (hn|⟨r',k',rfl,qM,hk⟩) hw ht
  .exact .no (hn.no hw.np)
  exact(ih _ (hk _) hw ht).after Mo rfl rfl λT e=>by rw[bD];rfl
 |freeze a n k ih=>
  rintro R w W s' (hn|h) hw ht
  .exact .no (hn.no hw.np)
  .exact h.elim
 |frozen a k ih=>
  rintro R w W s' (hn|⟨r',k',rfl,hk⟩) hw ht
  .exact .no (hn.no hw.np)
  exact(ih _ (hk _ true) hw ht).after Mo rfl rfl λT e=>by rw[bD];rfl
 |getObj r k ih=>
  rintro R w W s' (hn|⟨r',k',rfl,qM,hk⟩) hw ht
  .exact .no (hn.no hw.np)
  rcases hw.orR qM with y|y
  .obtain⟨ob,xM,h1,h2,h3⟩:=hw.cont r r' y
   have go:(∀c T fz,ob≠ .cells c T fz)->Mx P.g (.getObj r k) w:=λn1=>by
    refine(ih ob (hk _ _ h3) hw ht).after ?_ rfl rfl λT e=>?_
    .rw[bD,h1];cases ob<;>first|rfl|exact absurd rfl (n1 _ _ _)
    .rw[bD,show(tp w T e).heap[r]? =some ob from h1];cases ob<;>first|rfl|exact absurd rfl (n1 _ _ _)
   cases h3 with
   |cells _ _=>exact .no λx w'=>by rw[bD,h1];simp
   |_=>exact go aO
  .exact .no λx w'=>by rw[bD,y];simp[oY]
 |setObj r o k ih=>
  rintro R w W s' (hn|⟨r',o',k',rfl,qM,ho,hk⟩) hw ht
  .exact .no (hn.no hw.np)
  rcases hw.orR qM with y|y
  .obtain⟨ob,xM,h1,h2,h3⟩:=hw.cont r r' y
   have go:(∀c T fz,ob≠ .cells c T fz)->Mx P.g (.setObj r o k) w:=λn1=>by
    have zI:¬St r:=by
     intro hs;obtain⟨_,c2,T2,hi,g1,g2⟩:=hw.st r hs;rw[h1] at g1;injection g1 with g1;exact n1 _ _ _ g1
    have st:=nA.upd hw y zI ho;refine(ih hk st.rel (ht.step st)).after ?_ rfl rfl λT e=>?_
    .rw[bD,h1];cases ob<;>first|rfl|exact absurd rfl (n1 _ _ _)
    .rw[bD,show(tp w T e).heap[r]? =some ob from h1];cases ob<;>first|rfl|exact absurd rfl (n1 _ _ _)
   cases h3 with
   |cells _ _=>exact .no λx w'=>by rw[bD,h1];simp
   |_=>exact go aO
  .exact .no λx w'=>by rw[bD,y];simp[oY]
 |choose q k ih=>
  rintro R w W s' (hn|⟨k',rfl,hk⟩) hw ht
  .exact .no (hn.no hw.np)
  cases hq:q.forced with
  |true=>exact(ih 0 (hk 0) hw ht).after (by rw[bD,hq];rfl) rfl rfl λT e=>by rw[bD,hq];rfl
  |false=>
   have st:=nA.draw hw;intro x w' e;rw[bD,hq] at e;simp only[jE,if_false] at e;obtain⟨h1,h2,h3⟩:=ih _ (hk _) st.rel (ht.step st) x w' e;simp only at h1 h2 h3;refine⟨h1,aC,λT e' ha=>?_⟩;rw[bD,hq];simp only[jE,if_false];have ea:T e' q=w.tape w.drawn q:=ha 0 aC q;have:=h3 T (e'+1) (λn hn q'=>by rw[show e'+1+n=e'+(n+1) by omega,show w.drawn+1+n=w.drawn+(n+1) by omega];exact ha (n+1) aC q');show bD P.g (k (q.cut (T e' q))) (tp w T (e'+1))=_;rw[ea];rw[show tp w T (e'+1)=tp {w with drawn:=w.drawn+1} T (e'+1) from rfl,this];congr 2;omega
 |sys c k ih=>
  rintro R w W s' (hn|h) hw ht
  .exact .no (hn.no hw.np)
  .exact h.elim
 |program k ih=>
  rintro R w W s' (hn|⟨k',rfl,hk⟩) hw ht
  .exact .no (hn.no hw.np)
  exact(ih _ hk hw ht).after Mo rfl rfl λT e=>by rw[bD]
 |mark m k ih=>
  rintro R w W s' (hn|⟨rfl,k',rfl,hk⟩) hw ht
  .exact .no (hn.no hw.np)
  exact(ih hk hw ht).after Mo rfl rfl λT e=>by rw[bD]
 |halt h=>
  rintro R w W s' _ hw ht;exact .no λx w'=>by simp[bD]
end Go.Tt
namespace Go.Tt
open Go.Conc (G)
structure Fm where
 fn:aP
 tmps:Array aF
 todo:List eE
 ret:Bool
def Fm.fr (m:Fm):Frame:={fn:=m.fn,tmps:=m.tmps,todo:=m.todo,defers:=[],mode:=if m.ret then .returning else .run,kind:=.normal}
def Fm.eval (m:Fm):cM->aF
 | .tmp t=>m.tmps.getD t aA
 | .const v=>v
 | .global g=>.pointer (some ⟨g,0,none⟩)
 | .func f=>.func (.func f) #[] #[]
def Fm.fin (m:Fm)(ops:Array aZ)(i:Nat)(rest:List Nat)(k:List eE)(v:aF):Fm:=
 {m with tmps:=match(ops[i]?).bind (·.dst) with|some d=>m.tmps.setIfInBounds d v|none=>m.tmps,todo:=.inRegion ops rest::k}
def yF (t:Array aF):O5->cU aF
 | .tmp s=>pure (t.getD s aA)
 | .cell s ty=>do loadVar ty (<-asAddr (t.getD s aA))
def oK:List O5->Array aF->cU aF
 |[],_=>pure (.tuple #[])
 |[a],t=>yF t a
 |[a,b],t=>do
  let x<-yF t a
  let y<-yF t b
  pure (.tuple #[x,y])
 |[a,b,c],t=>do
  let x<-yF t a
  let y<-yF t b
  let z<-yF t c
  pure (.tuple #[x,y,z])
 |[a,b,c,d],t=>do
  let x<-yF t a
  let y<-yF t b
  let z<-yF t c
  let u<-yF t d
  pure (.tuple #[x,y,z,u])
 |_,_=>stuck ""
def C3 (l:List O5):Prop:=l=[]\/(∃a,l=[a])\/(∃a b,l=[a,b])\/(∃a b c,l=[a,b,c])\/∃a b c d,l=[a,b,c,d]
variable {fn:Func}
def zfe {tmps:Array aF}(h:C3 fn.results.toList):results fn tmps=oK fn.results.toList tmps:=by
 rcases h with e|⟨a,e⟩|⟨a,b,e⟩|⟨a,b,c,e⟩|⟨a,b,c,d,e⟩
 .have e':=zaA.1 e
  simp[results,e',oK]
 .have e':=zaA.1 e
  rw[e];cases a<;>simp[results,e',oK,yF]
 .have e':=zaA.1 e
  rw[e];cases a<;>cases b<;>simp[results,e',oK,yF]
 .have e':=zaA.1 e
  rw[e];cases a<;>cases b<;>cases c<;>simp[results,e',oK,yF]
 .have e':=zaA.1 e
  rw[e];cases a<;>cases b<;>cases c<;>cases d<;>simp[results,e',oK,yF]
def TF {α:Type}(p:bS)(s:cU α):Prop:=∀w x w',s.run p w=.ok x w'->w'=w/\∀T e,s.run p (tp w T e)=.ok x (tp w T e)
variable {α:Type}{p:bS}
def TF.ret (a:α):TF p (kN a:cU α):=λw x w' h=>by
 simp only[kN,bD,rH] at h;obtain⟨rfl,rfl⟩:=h;exact⟨rfl,λT e=>rfl⟩
def TF.bnd {β:Type}{s:cU α}{f:α->cU β}(hs:TF p s)(hf:∀a,TF p (f a)):TF p (s>>=f):=λw x w' h=>by
 have h2:=(sE p s f w).symm.trans h
 cases hx:s.run p w with
 |halt y w2=>rw[hx] at h2;cases h2
 |ok a w1=>
  rw[hx] at h2;obtain⟨rfl,h3⟩:=hs w a w1 hx;obtain⟨rfl,h4⟩:=hf a w1 x w' h2;refine⟨rfl,λT e=>(sE p s f _).trans ?_⟩;rw[h3 T e];exact h4 T e
def TF.halt {s:cU α}(h:∀w x w',s.run p w≠ .ok x w'):TF p s:=λw x w' e=>absurd e (h w x w')
def zeP {Un:String}:TF p (stuck Un:cU α):=TF.halt λw x w' e=>by simp[stuck,bD] at e
def zpG :TF p program:=λw x w' h=>by
 simp only[program,bD,rH] at h;obtain⟨rfl,rfl⟩:=h;exact⟨rfl,λT e=>rfl⟩
def zuZ (a:bL):TF p (load a):=λw x w' h=>by
 unfold load at h⊢;simp only[bD] at h⊢
 cases hc:w.cell? a with
 |none=>
  rw[hc] at h;simp only at h
  cases hf:yV p w a (zcX==zeW) with
  |error y=>rw[hf] at h;cases h
  |ok v=>
   rw[hf] at h;simp only[rH] at h;refine⟨h.2.symm,λT e=>?_⟩;have e1:(tp w T e).cell? a=none:=hc;have e2:yV p (tp w T e) a (zcX==zeW)=.ok v:=(show yV p (tp w T e) a (zcX==zeW)=yV p w a (zcX==zeW) from rfl).trans hf;rw[e1,e2];simp only[h.1]
 |some v=>
  rw[hc] at h;simp only[rH] at h;refine⟨h.2.symm,λT e=>?_⟩;have:(tp w T e).cell? a=some v:=hc;rw[this,h.1]
def zG3 (t:aM):TF p (underlying t):=by
 unfold underlying;refine zpG.bnd λq=>?_;split
 .exact .ret _
 .exact zeP
def zCO (t:aM):TF p (isAgg t):=by
 unfold isAgg;refine(zG3 t).bnd λq=>?_;split<;>exact .ret _
def zCE (t:aM):TF p (sizeOf t):=by
 unfold sizeOf typeInfo;refine TF.bnd (zpG.bnd λq=>?_) λi=>.ret _;split
 .exact .ret _
 .exact zeP
def zoP (a:bL):∀(n i:Nat) (acc:Array aF),TF p (loadCellsFrom a i n acc)
 |0,i,acc=>.ret _
 |n+1,i,acc=>(zuZ _).bnd λv=>zoP a n (i+1) (acc.push v)
def zHe (t:aM)(a:bL):TF p (loadVar t a):=by
 unfold loadVar;refine(zCO t).bnd λb=>?_;split
 .exact(zCE t).bnd λn=>(zoP a n 0 #[]).bnd λx=>.ret _
 .exact zuZ a
def Kj (t:Array aF)(r:O5):TF p (yF t r):=by
 cases r with
 |tmp s=>exact .ret _
 |cell s ty=>
  refine TF.bnd ?_ λa=>zHe ty a;unfold asAddr;split
  .exact .ret _
  .exact TF.halt λw x w' e=>by simp[runtimePanic,goPanic,bD,bind,x7,program] at e
  .exact zeP
def Py (t:Array aF):∀l:List O5,TF p (oK l t)
 |[]=>.ret _
 |[a]=>Kj t a
 |[a,b]=>(Kj t a).bnd λx=>(Kj t b).bnd λy=>.ret _
 |[a,b,c]=>(Kj t a).bnd λx=>(Kj t b).bnd λy=>(Kj t c).bnd λz=>.ret _
 |[a,b,c,d]=>(Kj t a).bnd λx=>(Kj t b).bnd λy=>(Kj t c).bnd λz=>(Kj t d).bnd λu=>.ret _
 |_::_::_::_::_::_=>zeP
variable {w w':aE}{v:aF}
def zoq {l:List O5}{t:Array aF}(h:(oK l t).run p w=.ok v w'):C3 l:=by
 match l,h with
 |[],_=>exact .inl rfl
 |[a],_=>exact .inr (.inl ⟨a,rfl⟩)
 |[a,b],_=>exact .inr (.inr (.inl ⟨a,b,rfl⟩))
 |[a,b,c],_=>exact .inr (.inr (.inr (.inl ⟨a,b,c,rfl⟩)))
 |[a,b,c,d],_=>exact .inr (.inr (.inr (.inr ⟨a,b,c,d,rfl⟩)))
 |a::b::c::d::e::l,h=>simp[oK,stuck,bD] at h
def qT (p:bS)(m:Fm)(ms:List Fm)(ops:Array aZ)(i:Nat)(rest:List Nat)(k:List eE):Next->cU (Fm×List Fm)
 | .value v=>pure (m.fin ops i rest k v,ms)
 | .skip=>pure (m.fin ops i rest k aA,ms)
 | .enter f args=>
  match p.funcs[f]? with
  |some fn=>(match fn.body with
   |some c=>pure (⟨f,args++nU (fn.ntmps-args.size) aA,[.code c],false⟩,m::ms)
   |none=>stuck "")
  |none=>stuck ""
 |_=>stuck ""
def zX (p:bS)(m:Fm):List Fm->cU (Fm×List Fm)
 |[]=>stuck ""
 |c::rest=>
  match c.todo,p.funcs[m.fn]? with
  | .inRegion ops (i::r)::k,some fn=>do
   let v<-oK fn.results.toList m.tmps
   pure (c.fin ops i r k v,rest)
  |_,_=>stuck ""
variable {m:Fm}{rest:List Fm}{w1:aE}
def Uj {c m1:Fm}{ms1:List Fm}(h:(zX p m (c::rest)).run p w=.ok (m1,ms1) w1):
 ∃ops i r k v fn,c.todo=.inRegion ops (i::r)::k/\p.funcs[m.fn]? =some fn/\(oK fn.results.toList m.tmps).run p w=.ok v w1/\m1=c.fin ops i r k v/\ms1=rest:=by
 unfold zX at h;simp only at h;split at h
 .next ops i r k fn hc hf=>
  have h2:=(sE p _ _ w).symm.trans h
  cases hx:(oK fn.results.toList m.tmps).run p w with
  |halt y w2=>rw[hx] at h2;cases h2
  |ok v w2=>
   rw[hx] at h2;simp only[uV,kN,bD,rH,pK] at h2;obtain⟨⟨rfl,rfl⟩,rfl⟩:=h2;exact⟨ops,i,r,k,v,fn,hc,hf,hx,rfl,rfl⟩
 .simp[stuck,bD] at h
variable {ops:Array aZ}{i:Nat}{k:List eE}
def Mi {c:Fm}{r:List Nat}(hc:c.todo=.inRegion ops (i::r)::k)(hf:p.funcs[m.fn]? =some fn)(hv:(oK fn.results.toList m.tmps).run p w=.ok v w1):
 (zX p m (c::rest)).run p w=.ok (c.fin ops i r k v,rest) w1/\∀es,(zX p m (c::rest)).events p w es=(oK fn.results.toList m.tmps).events p w es:=by
 unfold zX;simp only[hc,hf];constructor
 .refine(sE p _ _ w).trans ?_
  rw[hv];rfl
 .intro es
  refine(Tx p _ _ w es).trans ?_;rw[hv,Rm];rfl
def rU (p:bS)(m:Fm)(ms:List Fm):cU (Fm×List Fm):=
 match m.todo with
 |[]=>pure ({m with ret:=true},ms)
 | .code .ret::_=>pure ({m with ret:=true},ms)
 | .code .skip::k=>pure ({m with todo:=k},ms)
 | .code (.label _)::k=>pure ({m with todo:=k},ms)
 | .inBlock _::k=>pure ({m with todo:=k},ms)
 | .inScope _::k=>pure ({m with todo:=k},ms)
 | .code (.seq a b)::k=>pure ({m with todo:=.code a:: .code b::k},ms)
 | .code (.cond c a b)::k=>(match m.eval c with
  | .bool t=>pure ({m with todo:=.code (if t then a else b)::k},ms)
  |_=>stuck "")
 | .code (.block id body)::k=>pure ({m with todo:=.code body:: .inBlock id::k},ms)
 | .code (.loop body)::k=>pure ({m with todo:=.code body:: .inLoop body::k},ms)
 | .inLoop body::k=>pure ({m with todo:=.code body:: .inLoop body::k},ms)
 | .code (.scope body)::k=>pure ({m with todo:=.code body:: .inScope body::k},ms)
 | .code (.exit id)::k=>(match exitTo id k with
  |some k'=>pure ({m with todo:=k'},ms)
  |none=>stuck "")
 | .code (.region id ops draw)::k=>
  if draw then do
   let t<-choose (.order m.fn id)
   pure ({m with todo:=.inRegion ops (Sj (p.follows .mixedOrders) ops t)::k},ms)
  else pure ({m with todo:=.inRegion ops (gF ops.size)::k},ms)
 | .inRegion _ []::k=>pure ({m with todo:=k},ms)
 | .inRegion ops (i::rest)::k=>
  if((ops[i]?).map (dF · (dR ops m.tmps))).getD false then
   match ops[i]? with
   |some o=>do
    let n<-aS m.eval o
    qT p m ms ops i rest k n
   |none=>stuck ""
  else pure (m.fin ops i rest k aA,ms)
 |_=>stuck ""
def fD (p:bS)(m:Fm)(ms:List Fm):cU (Fm×List Fm):=if m.ret then zX p m ms else rU p m ms
def Fm.eval_fr (m:Fm):m.fr.eval=m.eval:=by funext x;cases x<;>rfl
def Fm.fr_run (h:m.ret=false):m.fr={fn:=m.fn,tmps:=m.tmps,todo:=m.todo,defers:=[],mode:=.run,kind:=.normal}:=by simp[Fm.fr,h]
def Fm.fr_ret (h:m.ret=true):m.fr={fn:=m.fn,tmps:=m.tmps,todo:=m.todo,defers:=[],mode:=.returning,kind:=.normal}:=by simp[Fm.fr,h]
def zDW {rest:List Nat}(h:m.todo=.inRegion ops (i::rest)::k)(v:aF):m.fr.finish v=(m.fin ops i rest k v).fr:=by
 simp only[dK.finish,Fm.fr,Fm.fin,h];cases(ops[i]?).bind (·.dst)<;>rfl
def Ve {f:aP}{c:Code}{args:Array aF}(hf:p.funcs[f]? =some fn)(hb:fn.body=some c):
 E0 p f args .normal=(⟨f,args++nU (fn.ntmps-args.size) aA,[.code c],false⟩:Fm).fr:=by
 simp[E0,Fm.fr,hf,hb]
def zhK {id:Nat}:∀{l l':List eE} (k:List eE),exitTo id l=some l'->exitTo id (l++k)=some (l'++k)
 |[],_,_,h=>by simp[exitTo] at h
 |x::l,l',k,h=>by
  have tail:exitTo id l=some l'->exitTo id (l++k)=some (l'++k):=zhK k;cases x<;>simp only[exitTo,Us] at h⊢<;>first|exact tail h|skip
  split at h
  .next e=>simp only[gA] at h;subst h;rw[if_pos e]
  .next e=>rw[if_neg e];exact tail h
open Conc in
structure Dk where
 ds:List Deferred
 kd:CallKind
 ok:kd≠ .early
abbrev Dk.nil:Dk:=⟨[],.normal,aO⟩
def Dk.base (d:Dk)(fn:aP):Frame:={(default:dK) with fn:=fn,kind:=d.kd}
def fx (k:List eE)(d:Dk)(m:Fm):Frame:={m.fr with todo:=m.todo++k,defers:=d.ds,kind:=d.kd}
def G9 (m:Fm):fx [] .nil m=m.fr:=by unfold fx;simp[Fm.fr]
variable {main:Bool}{m':Fm}{ms ms':List Fm}
def zjp (hr:m.ret=false)(aT:m.todo=[]->k=[])(h:(rU p m ms).run p w=.ok (m',ms') w')(d:Dk)(CS:List dK):
 (ms'=ms/\stepG p main (G (fx k d m) CS) w=.go (G (fx k d m') CS) w' (seen p m.fn ((rU p m ms).events p w #[])))\/
 (ms'=m::ms/\stepG p main (G (fx k d m) CS) w=.go (G m'.fr (fx k d m::CS)) w' (seen p m.fn ((rU p m ms).events p w #[]))):=by
 have Oe:seen p m.fn #[]=#[]:=Conc.seen_none p _;obtain⟨fn,tmps,todo,ret⟩:=m;simp only at hr Oe aT⊢;subst hr;unfold rU at h⊢;simp only at h⊢;split at h
 all_goals first
  |(simp[stuck,bD] at h;done)
  |(
   obtain rfl:=aT rfl;simp only[kN,bD,rH,pK] at h;obtain⟨⟨rfl,rfl⟩,rfl⟩:=h;refine .inl ⟨rfl,?_⟩;simp[G,stepG,Of,Fm.fr,fx,Oe,Bt]
   done)
  |(
   simp only[kN,bD,rH,pK] at h;obtain⟨⟨rfl,rfl⟩,rfl⟩:=h;refine .inl ⟨rfl,?_⟩;simp[G,stepG,Of,Fm.fr,fx,Oe,Bt]
   done)
  |skip
 case h_8 _ c a b k0=>
  generalize hv:Fm.eval {fn:=fn,tmps:=tmps,todo:=Nr (Code.cond c a b)::k0,ret:=false} c=v at h⊢;have hc:dK.eval {fn:=fn,tmps:=tmps,todo:=Nr (Code.cond c a b)::(k0++k),defers:=d.ds,mode:=.run,kind:=d.kd} c=v:=by rw[<-hv];cases c<;>rfl
  cases v with
  |bool t=>
   simp only[kN,bD,rH,pK] at h;obtain⟨⟨rfl,rfl⟩,rfl⟩:=h;refine .inl ⟨rfl,?_⟩;simp[G,stepG,Of,Fm.fr,fx,Oe,hc]
  |_=>simp[stuck,bD] at h
 case h_13 _ id k0=>
  cases he:exitTo id k0 with
  |some k'=>
   rw[he] at h;simp only[kN,bD,rH,pK] at h;obtain⟨⟨rfl,rfl⟩,rfl⟩:=h;refine .inl ⟨rfl,?_⟩;simp[G,stepG,Of,Fm.fr,fx,Oe,zhK k he]
  |none=>rw[he] at h;simp[stuck,bD] at h
 case h_14 _ id ops draw k0=>
  cases draw with
  |true=>
   simp[choose,bD,zhH,zkn,bind,x7,pure] at h;obtain⟨⟨rfl,rfl⟩,rfl⟩:=h;refine .inl ⟨rfl,?_⟩;simp[G,stepG,Of,Fm.fr,fx,Oe,choose,bD,zhH,zkn,vY,cU.runT,bind,x7,pure]
  |false=>
   simp only[jE,if_false,kN,bD,rH,pK] at h;obtain⟨⟨rfl,rfl⟩,rfl⟩:=h;refine .inl ⟨rfl,?_⟩;simp[G,stepG,Of,Fm.fr,fx,Oe]
 case h_16 _ ops i rest k0=>
  have zfx:∀x,Act.eval ⟨tmps,d.ds⟩ x=Fm.eval {fn:=fn,tmps:=tmps,todo:=rI ops (i::rest)::k0,ret:=false} x:=λx=>by cases x<;>rfl
  have zuW:Act.eval ⟨tmps,d.ds⟩=Fm.eval {fn:=fn,tmps:=tmps,todo:=rI ops (i::rest)::k0,ret:=false}:=funext zfx;have zJ:∀v,(d.base fn).at (Act.put ⟨tmps,d.ds⟩ ((ops[i]?).bind (·.dst)) v) (.inRegion ops rest::(k0++k))=fx k d (Fm.fin {fn:=fn,tmps:=tmps,todo:=rI ops (i::rest)::k0,ret:=false} ops i rest k0 v):=λv=>by
   unfold Fm.fin Act.put fx;cases(ops[i]?).bind (·.dst)<;>rfl
  have hb:(d.base fn).kind≠ .early:=d.ok;have Sk:fx k d {fn:=fn,tmps:=tmps,todo:=rI ops (i::rest)::k0,ret:=false}=(d.base fn).at ⟨tmps,d.ds⟩ (.inRegion ops (i::rest)::(k0++k)):=rfl;rw[Sk]
  cases ho:ops[i]? with
  |none=>
   rw[ho] at h;simp only[Option.map_none,Option.getD_none,jE,if_false,kN,bD,rH,pK] at h;obtain⟨⟨rfl,rfl⟩,rfl⟩:=h;refine .inl ⟨rfl,?_⟩;rw[<-zJ aA];have Cz:((d.base fn).at ⟨tmps,d.ds⟩ (.inRegion ops (i::rest)::(k0++k))).finish aA=(d.base fn).at (Act.put ⟨tmps,d.ds⟩ ((ops[i]?).bind (·.dst)) aA) (.inRegion ops rest::(k0++k)):=dK.finish_at _ _ _ _ _ _ _;rw[<-Cz];simp[G,stepG,Of,Oe,ho,dK.at]
  |some o=>
   rw[ho] at h;simp only[ho,vD] at zJ;simp only[Ao,y4] at h⊢;by_cases hw:dF o (dR ops tmps)=true
   .rw[if_pos hw] at h
    rw[if_pos hw];have zhV:=sE p (aS (Fm.eval {fn:=fn,tmps:=tmps,todo:=rI ops (i::rest)::k0,ret:=false}) o) (qT p {fn:=fn,tmps:=tmps,todo:=rI ops (i::rest)::k0,ret:=false} ms ops i rest k0) w;have h':=zhV.symm.trans h;have zou:=Tx p (aS (Fm.eval {fn:=fn,tmps:=tmps,todo:=rI ops (i::rest)::k0,ret:=false}) o) (qT p {fn:=fn,tmps:=tmps,todo:=rI ops (i::rest)::k0,ret:=false} ms ops i rest k0) w #[]
    cases hx:(aS (Fm.eval {fn:=fn,tmps:=tmps,todo:=rI ops (i::rest)::k0,ret:=false}) o).run p w with
    |halt y w1=>rw[hx] at h';cases h'
    |ok n w1=>
     rw[hx] at h' zou;have lK:(aS (Act.eval ⟨tmps,d.ds⟩) o).run p w=.ok n w1:=by rw[zuW];exact hx
     have hl:wJ p fn ⟨tmps,d.ds⟩ o w=seen p fn ((aS (Fm.eval {fn:=fn,tmps:=tmps,todo:=rI ops (i::rest)::k0,ret:=false}) o).events p w #[]):=by unfold wJ;rw[zuW]
     have h2:(qT p {fn:=fn,tmps:=tmps,todo:=rI ops (i::rest)::k0,ret:=false} ms ops i rest k0 n).run p w1=.ok (m',ms') w':=h'
     have zjm:∀(r:Fm×List Fm),qT p {fn:=fn,tmps:=tmps,todo:=rI ops (i::rest)::k0,ret:=false} ms ops i rest k0 n=kN r->
      (m',ms')=r/\w'=w1/\seen p fn ((do let n<-aS (Fm.eval {fn:=fn,tmps:=tmps,todo:=rI ops (i::rest)::k0,ret:=false}) o;qT p {fn:=fn,tmps:=tmps,todo:=rI ops (i::rest)::k0,ret:=false} ms ops i rest k0 n:cU (Fm×List Fm)).events p w #[])=wJ p fn ⟨tmps,d.ds⟩ o w:=λr e=>by
      rw[e] at h2;simp only[kN,bD,rH] at h2;refine⟨h2.1.symm,h2.2.symm,?_⟩;rw[hl];congr 1;refine zou.trans ?_;rw[Rm,e];rfl
     cases n with
     |value v=>
      obtain⟨e1,rfl,e3⟩:=zjm _ rfl;injection e1 with e1 e2;subst e1 e2;refine .inl ⟨rfl,?_⟩;rw[e3];have:=Conc.stepG_value (main:=main) (b:=d.base fn) (a:=⟨tmps,d.ds⟩) (rest:=rest) (k:=k0++k) (cs:=CS) ho hw hb lK;rw[zJ] at this;exact this
     |skip=>
      obtain⟨e1,rfl,e3⟩:=zjm _ rfl;injection e1 with e1 e2;subst e1 e2;refine .inl ⟨rfl,?_⟩;rw[e3];have:=Conc.stepG_none (main:=main) (b:=d.base fn) (a:=⟨tmps,d.ds⟩) (rest:=rest) (k:=k0++k) (cs:=CS) ho hw hb lK;rw[zJ] at this;exact this
     |enter f args=>
      have h3:=h2;simp only[qT] at h3
      cases hf:p.funcs[f]? with
      |none=>rw[hf] at h3;simp[stuck,bD] at h3
      |some fn2=>
       cases zcs:fn2.body with
       |none=>rw[hf] at h3;simp only[zcs] at h3;simp[stuck,bD] at h3
       |some c=>
        obtain⟨e1,rfl,e3⟩:=zjm _ (by simp only[qT,hf,zcs];rfl);injection e1 with e1 e2;subst e1 e2;refine .inr ⟨rfl,?_⟩;rw[e3];have:=Conc.stepG_enter (main:=main) (b:=d.base fn) (a:=⟨tmps,d.ds⟩) (rest:=rest) (k:=k0++k) (cs:=CS) ho hw hb lK;rw[Ve hf zcs] at this;exact this
     |_=>simp[qT,stuck,bD] at h2
   .rw[if_neg hw] at h
    rw[if_neg hw];simp only[kN,bD,rH,pK] at h;obtain⟨⟨rfl,rfl⟩,rfl⟩:=h;refine .inl ⟨rfl,?_⟩;have:=Conc.stepG_unwanted (P:=p) (main:=main) (b:=d.base fn) (a:=⟨tmps,d.ds⟩) (rest:=rest) (k:=k0++k) (cs:=CS) (w:=w) ho (by simpa using hw);rw[zJ] at this;rw[show seen p fn (vY p (kN (Fm.fin {fn:=fn,tmps:=tmps,todo:=rI ops (i::rest)::k0,ret:=false} ops i rest k0 aA,ms):cU (Fm×List Fm)) w #[])=#[] from Oe];exact this
def ziA (h:(fD p m ms).run p w=.ok (m',ms') w')(base:List dK):
 stepG p main (G m.fr (ms.map Fm.fr++base)) w=.go (G m'.fr (ms'.map Fm.fr++base)) w' (seen p m.fn ((fD p m ms).events p w #[])):=by
 unfold fD at h⊢;by_cases hr:m.ret=true
 .simp only[hr,if_true] at h⊢
  cases ms with
  |nil=>simp[zX,stuck,bD] at h
  |cons c rest=>
   obtain⟨ops,i,r,k,v,fn,hc,hf,hv,rfl,rfl⟩:=Uj h;rw[(Mi hc hf hv).2];have he:results fn m.tmps=oK fn.results.toList m.tmps:=zfe (zoq hv);rw[Fm.fr_ret hr,List.map_cons,Us];have zJ:c.fr.finish v=(c.fin ops i r k v).fr:=zDW hc v;rw[<-zJ];simp[G,stepG,unwind,doReturn,hf,he,hv,Bt]
 .have wE:m.ret=false:=by simpa using hr
  simp only[wE,jE,if_false] at h⊢;rcases zjp (main:=main) wE (k:=[]) (λ_=>rfl) h .nil (ms.map Fm.fr++base) with⟨rfl,e⟩|⟨rfl,e⟩
  .simp only[G9] at e;exact e
  .simp only[G9] at e;exact e
end Go.Tt
namespace Go.Tt
def Ea (p:bS)(q:Cl):eE->Bool
 | .code c| .inLoop c| .inScope c=>oI p q c
 | .inBlock _=>true
 | .inRegion ops _=>ops.all λo=>sG p q o.op
 |_=>false
def Wait (m:Fm):Prop:=m.ret=false/\∃ops i r k,m.todo=.inRegion ops (i::r)::k
section
variable (P:dM)(fs:aP->Bool)(K R:Pr)
structure oU (m m':Fm):Prop where
 fn:m.fn=m'.fn
 todo:m.todo=m'.todo
 ret:m.ret=m'.ret
 tmps:bK (SF fs) K R m.tmps m'.tmps
 fit:∀i∈m.todo,Ea P.c (tU P fs m.fn) i=true
 infs:∃fn fn',P.g.funcs[m.fn]? =some fn/\P.c.funcs[m.fn]? =some fn'/\fn.results=fn'.results/\C3 fn.results.toList
inductive uS:List Fm->List Fm->Prop
 |nil:uS [] []
 |cons {m m':Fm} {ms ms':List Fm}:oU P fs K R m m'->Wait m->uS ms ms'->uS (m::ms) (m'::ms')
end
structure Fit2 (P:dM)(fs:aP->Bool):Prop extends Fit P fs where
 res:∀f,P.gs f=true->P.op f=false->∀fn,P.c.funcs[f]? =some fn->C3 fn.results.toList
 follows:P.g.follows .mixedOrders=P.c.follows .mixedOrders
section
variable {P:dM}{fs:aP->Bool}{K R R':Pr}
variable {m m':Fm}
def oU.mono (h:R.le R')(x:oU P fs K R m m'):oU P fs K R' m m':=⟨x.fn,x.todo,x.ret,x.tmps.mono h,x.fit,x.infs⟩
variable {ms ms':List Fm}
def uS.mono (h:R.le R')(x:uS P fs K R ms ms'):uS P fs K R' ms ms':=by
 induction x with
 |nil=>exact .nil
 |cons a b _ ih=>exact .cons (a.mono h) b ih
def xN {S:aP->Prop}:VR S K R aA undef:=.tuple rfl (λi v v' h=>by simp at h)
def oU.eval (x:oU P fs K R m m'):∀o,dQ fs o=true->VR (SF fs) K R (m.eval o) (m'.eval o):=by
 intro o ho
 cases o with
 |tmp t=>exact x.tmps.getD t xN
 |const v=>exact zvd ho
 |global g=>cases ho
 |func f=>exact .func ho rfl (λi v v' h=>by simp at h) rfl (λi v v' h=>by simp at h)
def rA (p:bS)(f:aP)(xs:Array aF):Fm:=
 match p.funcs[f]? with
 |some fn=>(match fn.body with
  |some c=>⟨f,xs++nU (fn.ntmps-xs.size) aA,[.code c],false⟩
  |none=>⟨f,xs,[],false⟩)
 |none=>⟨f,xs,[],false⟩
structure OpR (P:dM)(fs:aP->Bool)(K R:Pr)(x y:Fm×List Fm):Prop where
 ex:∃f xs bY c c' rest L4,P.op f=true/\P.gs f=true/\bK (SF fs) K R xs bY/\x=(rA P.g f xs,c::rest)/\y=(rA P.c f bY,c'::L4)/\oU P fs K R c c'/\Wait c/\uS P fs K R rest L4/\P.lw c.fn=false
abbrev StA (P:dM)(fs:aP->Bool)(K:Pr)(l:Bool):Pr->(Fm×List Fm)->(Fm×List Fm)->Prop:=λR x y=>
 (oU P fs K R x.1 y.1/\uS P fs K R x.2 y.2/\(l=true->P.lw x.1.fn=true/\∀c∈x.2,P.lw c.fn=true))\/(l=false/\OpR P fs K R x y)
variable {ops:Array aZ}{i:Nat}{rest:List Nat}{k:List eE}
def oU.fin (x:oU P fs K R m m')(h:m.todo=.inRegion ops (i::rest)::k){v v':aF}(hv:VR (SF fs) K R v v'):
 oU P fs K R (m.fin ops i rest k v) (m'.fin ops i rest k v'):=by
 refine⟨x.fn,rfl,x.ret,?_,λj hj=>?_,x.infs⟩
 .unfold Fm.fin
  cases(ops[i]?).bind (·.dst) with
  |none=>exact x.tmps
  |some d=>exact x.tmps.set d hv
 .simp only[Fm.fin,jJ] at hj
  rcases hj with rfl|hj
  .have:=x.fit (.inRegion ops (i::rest)) (by rw[h];simp)
   exact this
  .exact x.fit j (by rw[h];simp[hj])
abbrev LowS (P:dM)(l:Bool)(m:Fm)(ms:List Fm):Prop:=l=true->P.lw m.fn=true/\∀c∈ms,P.lw c.fn=true
variable {xs bY:Array aF}
def bK.pad (ha:bK (SF fs) K R xs bY)(n:Nat):bK (SF fs) K R (xs++nU (n-xs.size) aA) (bY++nU (n-bY.size) aA):=by
 rw[ha.1];refine ha.append ⟨aO,λj v v' h1 h2=>?_⟩;rw[Array.getElem?_replicate] at h1 h2;split at h1
 .rename_i hj
  rw[if_pos hj] at h2;cases h1;cases h2;exact xN
 .cases h1
def ze8 (F:Fit P fs)(g:aP):∀f,(tU P fs g).gs f=true->P.gs f=true:=λf h=>by
 unfold tU at h;split at h
 .exact(F.low f h).2
 .exact h
def zq9 (F:Fit P fs)(g:aP):(tU P fs g).dy=true->∀f,fs f=true->(tU P fs g).gs f=true:=λh f hf=>by
 unfold tU at h⊢;split at h
 .cases h
 .next e=>rw[if_neg e];exact F.dyn h f hf
def sim_opS (F:Fit2 P fs){l:Bool}(hm:oU P fs K R m m')(iP:uS P fs K R ms ms')(nI:LowS P l m ms)(hr:m.ret=false)(h:m.todo=.inRegion ops (i::rest)::k){n n':Next}(hn:NxR (SF fs) (tU P fs m.fn).T K R n n'):
 aG P (SF fs) K (StA P fs K l) (qT P.g m ms ops i rest k n) R (qT P.c m' ms' ops i rest k n'):=by
 cases hn with
 |value hv=>exact aG.ret (.inl ⟨hm.fin h hv,iP,nI⟩)
 |skip=>exact aG.ret (.inl ⟨hm.fin h xN,iP,nI⟩)
 |enter hT ha=>
  rename_i f xs bY;have Q6:P.lw m.fn=true->P.lw f=true:=λe=>by
   unfold tU at hT;rw[if_pos e] at hT;exact hT
  have hf:P.gs f=true:=ze8 F.toFit m.fn f hT
  cases ho:P.op f with
  |false=>
   obtain⟨fn,c,e1,e2,e3,e4,e5⟩:=F.fn f hf ho;simp only[qT,e1,e2,e4];refine aG.ret (.inl ⟨⟨rfl,rfl,rfl,ha.pad _,λj hj=>?_,⟨fn,fn,e1,e2,rfl,F.res f hf ho fn e2⟩⟩,.cons hm ⟨hr,ops,i,rest,k,h⟩ iP,λe=>⟨Q6 (nI e).1,λc hc=>?_⟩⟩)
   .simp only[jJ,lZ,or_false] at hj
    subst hj;exact e5
   .simp only[jJ] at hc
    rcases hc with rfl|hc
    .exact(nI e).1
    .exact(nI e).2 c hc
  |true=>
   obtain⟨fn,fn',c,c',e1,e2,e3,e4,e5,e6⟩:=F.opq f hf ho;have zf0:P.lw m.fn=false:=by
    cases hq:P.lw m.fn with
    |false=>rfl
    |true=>have:=(F.low f (Q6 hq)).1;rw[ho] at this;cases this
   have hl:l=false:=by
    cases l with
    |false=>rfl
    |true=>have:=(nI rfl).1;rw[zf0] at this;cases this
   simp only[qT,e1,e2,e5,e6];refine aG.ret (.inr ⟨hl,⟨f,xs,bY,m,m',ms,ms',ho,hf,ha,?_,?_,hm,⟨hr,ops,i,rest,k,h⟩,iP,zf0⟩⟩)
   .have:P.g.funcs[f]? =some fn:=e1
    simp only[rA,this,e5]
   .simp only[rA,e2,e6]
def Lc {S:aP->Prop}(h:bK S K R xs bY)(a:O5):aG P S K (VA S K) (yF xs a) R (yF bY a):=by
 cases a with
 |tmp t=>exact aG.ret (h.getD t xN)
 |cell s ty=>
  refine aG.bnd (zxV (h.getD s xN)) ?_;intro R1 e1 a a' ha;exact zqa ty ha
def znb {S:aP->Prop}(h:bK S K R xs bY):∀l:List O5,aG P S K (VA S K) (oK l xs) R (oK l bY)
 |[]=>aG.ret (.tuple' bK.empty)
 |[a]=>Lc h a
 |[a,b]=>by
  refine aG.bnd (Lc h a) ?_;intro R1 e1 x x' hx;refine aG.bnd (Lc (h.mono e1.le) b) ?_;intro R2 e2 y y' hy;exact aG.ret (.tuple' ((bK.one (hx.mono e2.le)).push hy))
 |[a,b,c]=>by
  refine aG.bnd (Lc h a) ?_;intro R1 e1 x x' hx;refine aG.bnd (Lc (h.mono e1.le) b) ?_;intro R2 e2 y y' hy;refine aG.bnd (Lc ((h.mono e1.le).mono e2.le) c) ?_;intro R3 e3 z z' hz;exact aG.ret (.tuple' (((bK.one ((hx.mono e2.le).mono e3.le)).push (hy.mono e3.le)).push hz))
 |[a,b,c,d]=>by
  refine aG.bnd (Lc h a) ?_;intro R1 e1 x x' hx;refine aG.bnd (Lc (h.mono e1.le) b) ?_;intro R2 e2 y y' hy;refine aG.bnd (Lc ((h.mono e1.le).mono e2.le) c) ?_;intro R3 e3 z z' hz;refine aG.bnd (Lc (((h.mono e1.le).mono e2.le).mono e3.le) d) ?_;intro R4 e4 u u' hu;exact aG.ret (.tuple' ((((bK.one (((hx.mono e2.le).mono e3.le).mono e4.le)).push ((hy.mono e3.le).mono e4.le)).push (hz.mono e4.le)).push hu))
 |_::_::_::_::_::_=>.inl bN
def zmk {S:aP->Prop}(ops:Array aZ)(h:bK S K R xs bY):dR ops xs=dR ops bY:=by
 funext j;unfold dR
 cases hd:(ops[j]?).bind (·.dst) with
 |none=>rfl
 |some d=>
  simp only[vD]
  cases hx:xs[d]? with
  |none=>rw[h.none hx]
  |some v=>
   obtain⟨v',e,hv⟩:=h.get hx;rw[e]
   cases hv with
   |junk hh=>cases v'<;>first|exact hh.elim|rfl
   |_=>rfl
def ziw {id:Nat}:∀{k k':List eE},exitTo id k=some k'->∀i∈k',i∈k
 |[],_,h,_,_=>by simp[exitTo] at h
 |x::k,k',h,i,hi=>by
  have tail:exitTo id k=some k'->i∈x::k:=λe=>by simp[ziw e i hi]
  cases x<;>simp only[exitTo] at h<;>first|exact tail h|skip
  split at h
  .cases h;simp[hi]
  .exact tail h
def zdO (F:Fit2 P fs)(hR:tZ P K R){l:Bool}(hm:oU P fs K R m m')(iP:uS P fs K R ms ms')(nI:LowS P l m ms)(Ww:m.ret=true->ms≠[]):
 aG P (SF fs) K (StA P fs K l) (fD P.g m ms) R (fD P.c m' ms'):=by
 unfold fD;rw[<-hm.ret];by_cases hr:m.ret=true
 .simp only[hr,if_true]
  cases iP with
  |nil=>exact absurd rfl (Ww hr)
  |cons hc hw S3=>
   rename_i c c' rest L4;obtain⟨_,ops,i,r,k,hk⟩:=hw;obtain⟨fn,fn',e1,e2,e3,e4⟩:=hm.infs;unfold zX;have cO:c'.todo=.inRegion ops (i::r)::k:=hc.todo.symm.trans hk;rw[<-hm.fn];simp only[hk,cO,e1,e2];rw[<-e3];refine aG.bnd (znb hm.tmps fn.results.toList) ?_;intro R1 x1 v v' hv;exact aG.ret (.inl ⟨(hc.mono x1.le).fin hk hv,S3.mono x1.le,λe=>⟨(nI e).2 c aO,λx hx=>(nI e).2 x (by simp[hx])⟩⟩)
 .have Q9:m.ret=false:=by simpa using hr
  simp only[Q9,jE,if_false];have wE:m'.ret=false:=hm.ret.symm.trans Q9;unfold rU;rw[<-hm.todo];have yY:∀{x y:Fm},oU P fs K R x y->x.fn=m.fn->aG P (SF fs) K (StA P fs K l) (kN (x,ms)) R (kN (y,ms')):=λh e=>aG.ret (.inl ⟨h,iP,λz=>by rw[e];exact nI z⟩);have keep:∀(l:List eE),(∀i∈l,Ea P.c (tU P fs m.fn) i=true)->oU P fs K R {m with todo:=l} {m' with todo:=l}:=λl hl=>⟨hm.fn,rfl,hm.ret,hm.tmps,hl,hm.infs⟩;have It:=hm.fit;have zfC:=hm.fn
  cases pS:m.todo with
  |nil=>exact yY ⟨hm.fn,rfl,rfl,hm.tmps,λi hi=>(by simp at hi),hm.infs⟩ rfl
  |cons x k=>
   rw[pS] at It;have hk:∀i∈k,Ea P.c (tU P fs m.fn) i=true:=λi hi=>It i (by simp[hi]);have hx:Ea P.c (tU P fs m.fn) x=true:=It x aO;have two:∀(y z:eE),Ea P.c (tU P fs m.fn) y=true->Ea P.c (tU P fs m.fn) z=true->∀i∈y::z::k,Ea P.c (tU P fs m.fn) i=true:=λy z hy hz i hi=>by
    simp only[jJ] at hi;rcases hi with rfl|rfl|hi
    .exact hy
    .exact hz
    .exact hk i hi
   have one:∀(y:eE),Ea P.c (tU P fs m.fn) y=true->∀i∈y::k,Ea P.c (tU P fs m.fn) i=true:=λy hy i hi=>by
    simp only[jJ] at hi;rcases hi with rfl|hi
    .exact hy
    .exact hk i hi
   cases x with
   |code c=>
    cases c with
    |skip=>exact yY (keep k hk) rfl
    |label l=>exact yY (keep k hk) rfl
    |ret=>exact yY ⟨hm.fn,rfl,rfl,hm.tmps,It,hm.infs⟩ rfl
    |seq a b=>
     simp only[Ea,oI,fU] at hx;exact yY (keep _ (two _ _ hx.1 hx.2)) rfl
    |cond c a b=>
     simp only[Ea,oI,fU] at hx;have hv:=hm.eval c (zjM P fs m.fn▸hx.1.1);simp only;generalize m.eval c=v at hv⊢;generalize m'.eval c=v' at hv⊢
     cases hv with
     |bool t=>
      refine yY (keep _ (one _ ?_)) rfl;cases t
      .exact hx.2
      .exact hx.1.2
     |_=>exact .inl bN
    |block id body=>exact yY (keep _ (two _ _ hx rfl)) rfl
    |loop body=>exact yY (keep _ (two _ _ hx hx)) rfl
    |scope body=>exact yY (keep _ (two _ _ hx hx)) rfl
    |exit id=>
     simp only
     cases he:exitTo id k with
     |none=>exact .inl bN
     |some k'=>exact yY (keep _ λi hi=>hk i (ziw he i hi)) rfl
    |region id ops draw=>
     simp only
     cases draw with
     |true=>
      simp only[if_true];rw[<-zfC];refine aG.bnd (zgz _) ?_;rintro R1 h1 t _ rfl;rw[F.follows];exact aG.ret (.inl ⟨(by have y:=(keep (.inRegion ops (Sj (P.c.follows .mixedOrders) ops t)::k) (one (.inRegion ops (Sj (P.c.follows .mixedOrders) ops t)) hx)).mono h1.le;rw[<-zfC] at y;exact y),iP.mono h1.le,nI⟩)
     |false=>
      simp only[jE,if_false];exact yY (keep _ (one (.inRegion ops (gF ops.size)) hx)) rfl
    |_=>cases hx
   |inBlock id=>exact yY (keep k hk) rfl
   |inScope c=>exact yY (keep k hk) rfl
   |inLoop c=>exact yY (keep _ (two _ _ hx hx)) rfl
   |inRegion ops l=>
    cases l with
    |nil=>exact yY (keep k hk) rfl
    |cons i rest=>
     simp only;rw[<-zmk ops hm.tmps];by_cases hw:((ops[i]?).map (dF · (dR ops m.tmps))).getD false=true
     .rw[if_pos hw,if_pos hw]
      cases ho:ops[i]? with
      |none=>exact .inl bN
      |some o=>
       simp only;have bU:sG P.c (tU P fs m.fn) o.op=true:=by
        have lK:=zmx.1 hx i (dP.1 ho).1
        rwa [(dP.1 ho).2] at lK
       refine aG.bnd (zno F.toFit hR hm.eval (λg=>rfl) (λg=>rfl) (λg=>rfl) (λg=>rfl) (λv=>rfl) (λv=>rfl) (zjM P fs m.fn) (ze8 F.toFit m.fn) (zq9 F.toFit m.fn) bU) ?_;intro R1 h1 n n' hn;exact sim_opS F (hm.mono h1.le) (iP.mono h1.le) nI Q9 pS hn
     .rw[if_neg hw,if_neg hw]
      exact yY (hm.fin pS xN) rfl
   |_=>cases hx
end
end Go.Tt
namespace Go.Tt
open Go.Conc (G solo)
def nilD:Deferred:={target:=.nil,args:=#[]}
def pz:Frame:={(default:dK) with mode:=.panicking [],defers:=[nilD],kind:=.normal}
section
variable {P:dM}{fs:aP->Bool}{K R:Pr}{G':Gp}{St:Nat->Prop}
variable {w:aE}
def zI2 (F:Fit2 P fs)(hG:G'=P.gp){W:aE}(hw:cV (SF fs) K R G' St w W)(ht:Tp w W){m m':Fm}{ms ms':List Fm}(hm:oU P fs K R m m')(iP:uS P fs K R ms ms')(Ww:m.ret=true->ms≠[])
 (dG:∀x w',(fD P.g m ms).run P.g w≠ .ok x w') (base:List dK):
 (∃o w1 es,stepG P.g true (G m.fr (ms.map Fm.fr++base)) w=.ended o w1 es)\/
 ∃x w1 es,stepG P.g true (G m.fr (ms.map Fm.fr++base)) w=.go (G x (ms.map Fm.fr++base)) w1 es/\(∃c,x.mode=.panicking c)/\x.defers=[]:=by
 have hR:tZ P K R:=by subst hG;exact⟨hw.inj,hw.inj',λa b h=>(hw.low a b h).1,hw.tb⟩
 unfold fD at dG;by_cases hr:m.ret=true
 .simp only[hr,if_true] at dG
  cases iP with
  |nil=>exact absurd rfl (Ww hr)
  |cons hc cD S3=>
   rename_i c c' rest L4;obtain⟨_,ops,i,r,k,hk⟩:=cD;obtain⟨fn,fn',e1,e2,e3,e4⟩:=hm.infs;have he:results fn m.tmps=oK fn.results.toList m.tmps:=zfe e4
   cases hx:(oK fn.results.toList m.tmps).run P.g w with
   |ok v w1=>exact absurd (Mi (rest:=rest) hk e1 hx).1 (dG _ _)
   |halt y w1=>
    refine .inl ?_;rw[Fm.fr_ret hr];cases y<;>exact⟨_,_,_,by simp only[G,stepG,unwind,e1,he,cU.runT_eq,hx,Bt];rfl⟩
 .have Q9:m.ret=false:=by simpa using hr
  simp only[Q9,jE,if_false] at dG;have mJ:m.fr.eval=m.eval:=m.eval_fr;have It:=hm.fit;have zIT:=hm.tmps;have zf9:=hm.eval;obtain⟨fn,tmps,todo,ret⟩:=m;simp only at Q9 It zIT;subst Q9;unfold rU at dG;simp only at dG
  cases todo with
  |nil=>exact absurd rfl (dG _ _)
  |cons x k=>
   have hx:Ea P.c (tU P fs fn) x=true:=It x aO
   cases x with
   |code c=>
    cases c with
    |skip=>exact absurd rfl (dG _ _)
    |label l=>exact absurd rfl (dG _ _)
    |ret=>exact absurd rfl (dG _ _)
    |seq a b=>exact absurd rfl (dG _ _)
    |block id body=>exact absurd rfl (dG _ _)
    |loop body=>exact absurd rfl (dG _ _)
    |scope body=>exact absurd rfl (dG _ _)
    |cond c a b=>
     have hc:=congrFun mJ c;simp only at dG
     cases hv:Fm.eval {fn:=fn,tmps:=tmps,todo:=Nr (Code.cond c a b)::k,ret:=false} c with
     |bool t=>rw[hv] at dG;exact absurd rfl (dG _ _)
     |_=>
      left;rw[hv] at hc;simp only[Fm.fr,jE,if_false] at hc⊢;simp only[G,stepG,Of,hc];exact⟨_,_,_,rfl⟩
    |exit id=>
     simp only at dG
     cases he:exitTo id k with
     |some k'=>rw[he] at dG;exact absurd rfl (dG _ _)
     |none=>
      left;simp only[Fm.fr,jE,if_false];simp[G,stepG,Of,he]
    |region id ops draw=>
     simp only at dG
     cases draw with
     |true=>exact absurd (by simp[choose,bD,zhH,zkn,bind,x7,pure];exact⟨rfl,rfl⟩) (dG _ _)
     |false=>exact absurd rfl (dG _ _)
    |_=>cases hx
   |inBlock id=>exact absurd rfl (dG _ _)
   |inScope c=>exact absurd rfl (dG _ _)
   |inLoop c=>exact absurd rfl (dG _ _)
   |inRegion ops l=>
    cases l with
    |nil=>exact absurd rfl (dG _ _)
    |cons i rest=>
     simp only at dG
     cases ho:ops[i]? with
     |none=>rw[ho] at dG;exact absurd rfl (dG _ _)
     |some o=>
      rw[ho] at dG;simp only[Ao,y4] at dG;by_cases qF:dF o (dR ops tmps)=true
      .rw[if_pos qF] at dG
       have bU:sG P.c (tU P fs fn) o.op=true:=by
        have lK:=zmx.1 hx i (dP.1 ho).1
        rwa [(dP.1 ho).2] at lK
       have zaI:=zno F.toFit hR zf9 (λg=>rfl) (λg=>rfl) (λg=>rfl) (λg=>rfl) (λv=>rfl) (λv=>rfl) (zjM P fs fn) (ze8 F.toFit fn) (zq9 F.toFit fn) bU;have zhV:∀x w',((aS (Fm.eval {fn:=fn,tmps:=tmps,todo:=rI ops (i::rest)::k,ret:=false}) o).bind (qT P.g {fn:=fn,tmps:=tmps,todo:=rI ops (i::rest)::k,ret:=false} ms ops i rest k)).run P.g w≠ .ok x w':=dG;rcases aG.tame hG _ zaI hw ht with⟨n,w1,hn⟩|⟨h,w1,hn,hth⟩
       .have zfx:Act.eval ⟨tmps,[]⟩=Fm.eval {fn:=fn,tmps:=tmps,todo:=rI ops (i::rest)::k,ret:=false}:=funext λx=>by cases x<;>rfl
        obtain⟨R1,n',W1,ev,e1,e2,e3,e4,e5⟩:=aG.run hG _ zaI hw ht hn;have:=λx w'=>zhV x w';simp only[sE,hn,uV] at this
        cases e2 with
        |value hv=>exact absurd rfl (this _ _)
        |skip=>exact absurd rfl (this _ _)
        |enter hT ha=>
         rename_i f xs bY;have hf:P.gs f=true:=ze8 F.toFit fn f hT
         cases zcy:P.op f with
         |false=>
          obtain⟨fn',c,q1,q2,q3,q4,q5⟩:=F.fn f hf zcy;simp only[qT,q1,q4] at this;exact absurd rfl (this _ _)
         |true=>
          obtain⟨fn1,fn2,c1,c2,q1,q2,q3,q4,q5,q6⟩:=F.opq f hf zcy;simp only[qT,q1,q5] at this;exact absurd rfl (this _ _)
       .have zfx:Act.eval ⟨tmps,[]⟩=Fm.eval {fn:=fn,tmps:=tmps,todo:=rI ops (i::rest)::k,ret:=false}:=funext λx=>by cases x<;>rfl
        have hop:=Conc.stepG_oper (P:=P.g) (main:=true) (b:=J5 fn) (a:=⟨tmps,[]⟩) (k:=k) (cs:=List.map Fm.fr ms++base) (w:=w) (rest:=rest) ho qF;have fQ:(Fm.fr {fn:=fn,tmps:=tmps,todo:=rI ops (i::rest)::k,ret:=false})=(J5 fn).at ⟨tmps,[]⟩ (.inRegion ops (i::rest)::k):=rfl;rw[fQ,hop,zfx]
        cases h with
        |panic v=>
         right;simp[stepG.apply,hn,Bt,G,zwm,dK.at]
        |stuck s=>left;simp[stepG.apply,hn,Bt]
        |unsupported u=>
         left;cases u<;>first|exact hth.elim|simp[stepG.apply,hn,Bt]
        |_=>exact hth.elim
      .rw[if_neg qF] at dG
       exact absurd rfl (dG _ _)
   |_=>cases hx
variable {p:bS}{w':aE}{o:Outcome}
def zaB {a:bC}{es:Array oC}(hs:a.status=.running)(h:stepG p true a w=.ended o w' es):step p (solo a w)=.ended o w':=by
 rw[step,Conc.stepT_solo hs,Conc.solo_eq_crowd,Conc.runT_many_ended (i:=0) rfl h]
variable {m:zcR}
def zcN {m':zcR}(h:step p m=.next m')(n:Nat):runN p (n+1) m=runN p n m':=by simp[runN,h]
def zrB (h:step p m=.ended o w)(n:Nat):runN p (n+1) m=.ended o w:=by simp[runN,h]
def zfJ {g g':bC}(h:solo g w=solo g' w'):g=g'/\w=w':=by
 injection h with h1 h2;injection h2 with h2;injection h2 with h2;exact⟨h2,h1⟩
def zgZ {fr znW:dK}{cs Vd:List dK}(h:G fr cs=G znW Vd):fr=znW/\cs=Vd:=by
 injection h with h1 h2;exact⟨h1,h2⟩
def zkV (x:dK):Prop:=∃c,x.mode=.panicking c
def zfG (x:dK)(vs:List PanicEntry):zkV (x.raise vs)/\(x.raise vs).defers=x.defers:=by
 unfold zwm;split
 .exact⟨⟨_,rfl⟩,rfl⟩
 .exact⟨⟨_,rfl⟩,rfl⟩
variable {ds:List Deferred}
def zvc {x:dK}(hd:x.defers=nilD::ds)(hm:zkV x)(cs:List dK)(w:aE):∃o w1 es,stepG p true (G x cs) w=.ended o w1 es:=by
 obtain⟨c,hc⟩:=hm;refine⟨.unsupported (.noEntry "machine/Return: a deferred call of a nil function value, made while the frame is unwinding") ({x with defers:=ds}.pos p),w,#[],?_⟩;simp[G,stepG,hc,unwind,hd,callDeferred,nilD]
def zJM (frT:dK)(wT:aE)(hT:frT.mode=.returning):∀(n:Nat) (x:dK) (ys:List dK) (w:aE),zkV x->x.defers=[]->(∀y∈ys,y.defers=[])->runN p n (solo (G x (ys++[pz])) w)≠ .next (solo (G frT [pz]) wT):=by
 intro n
 induction n with
 |zero=>
  intro x ys w ⟨c,hc⟩ _ _ e;simp only[runN,Xj] at e;have:=(zgZ (zfJ e).1).1;rw[this,hT] at hc;cases hc
 |succ n ih=>
  intro x ys w ⟨c,hc⟩ hd zwI e;have cH:(G x (ys++[pz])).status=.running:=rfl;by_cases ztj:x.catches p=true
  .have aY:∃o w1 es,stepG p true (G x (ys++[pz])) w=.ended o w1 es:=by simp[G,stepG,hc,unwind,hd,ztj]
   obtain⟨o,w1,es,aY⟩:=aY;have hs:=zaB cH aY;simp[runN,hs] at e
  .have ztm:x.catches p=false:=by simpa using ztj
   cases ys with
   |nil=>
    have aY:stepG p true (G x [pz]) w=.go (G (pz.raise c) []) w:=by simp[G,stepG,hc,unwind,hd,ztm]
    have hs:=zcL cH aY;replace e:=(zcN hs n).symm.trans e
    cases n with
    |zero=>
     simp only[runN,Xj] at e;have:=(zgZ (zfJ e).1).2;cases this
    |succ n=>
     obtain⟨o,w1,es,zlA⟩:=zvc (p:=p) (x:=pz.raise c) (ds:=[]) ((zfG pz c).2) (zfG pz c).1 [] w;have Ba:=zaB rfl zlA;have:=(zrB Ba n).symm.trans e;cases this
   |cons y ys=>
    have aY:stepG p true (G x (y::(ys++[pz]))) w=.go (G (y.raise c) (ys++[pz])) w:=by simp[G,stepG,hc,unwind,hd,ztm]
    have hs:=zcL cH aY;replace e:=(zcN hs n).symm.trans e;exact ih (y.raise c) ys w (zfG y c).1 ((zfG y c).2.trans (zwI y aO)) (λz hz=>zwI z (by simp[hz])) e
def zF1 (frT:dK)(wT:aE){m:Fm}(hr:m.ret=true)(n:Nat):runN p (n+1) (solo (G m.fr [pz]) w)≠ .next (solo (G frT [pz]) wT):=by
 intro e;have cH:(G m.fr [pz]).status=.running:=rfl;have key:(∃o w1 es,stepG p true (G m.fr [pz]) w=.ended o w1 es)\/∃v w1 es,stepG p true (G m.fr [pz]) w=.go (G (pz.finish v) []) w1 es:=by
  rw[Fm.fr_ret hr]
  cases hf:p.funcs[m.fn]? with
  |none=>right;simp[G,stepG,unwind,doReturn,hf];exact⟨_,rfl⟩
  |some fn=>
   cases hx:(results fn m.tmps).run p w with
   |ok v w1=>right;simp[G,stepG,unwind,doReturn,hf,hx,Bt];exact⟨_,rfl⟩
   |halt h w1=>left;cases h<;>simp[G,stepG,unwind,hf,hx,Bt]
 rcases key with⟨o,w1,es,aY⟩|⟨v,w1,es,aY⟩
 .have hs:=zaB cH aY
  simp[runN,hs] at e
 .have hs:=zcL cH aY
  simp only[runN,hs] at e
  cases n with
  |zero=>
   simp only[runN,Xj] at e;have:=(zgZ (zfJ e).1).2;cases this
  |succ n=>
   have zBe:pz.finish v=pz:=rfl;rw[zBe] at e;obtain⟨o,w2,es,zlA⟩:=zvc (p:=p) (x:=pz) (ds:=[]) rfl ⟨_,rfl⟩ [] w1;have Ba:=zaB rfl zlA;simp[runN,Ba] at e
end
inductive Ir (p:bS):Nat->Fm->List Fm->aE->Fm->aE->Prop
 |stop {m:Fm} {w:aE}:m.ret=true->Ir p 0 m [] w m w
 |step {n:Nat} {m m1 mT:Fm} {ms ms1:List Fm} {w w1 wT:aE}:(m.ret=true->ms≠[])->(fD p m ms).run p w=.ok (m1,ms1) w1->Ir p n m1 ms1 w1 mT wT->Ir p (n+1) m ms w mT wT
structure vN (P:dM)(fs:aP->Bool):Prop extends Fit2 P fs where
 none:∀f,P.op f=false
section
variable (P:dM)(fs:aP->Bool)(K:Pr)(G':Gp)(St:Nat->Prop)
def vO (m:Fm)(ms:List Fm)(w:aE):Prop:=∃R W m' ms',cV (SF fs) K R G' St w W/\oU P fs K R m m'/\uS P fs K R ms ms'
variable {P fs K G' St}
variable {w W:aE}
def cV.tp {S:aP->Prop}{R:Pr}(h:cV S K R G' St w W)(T:jW)(e:Nat):cV S K R G' St (tp w T e) (tp W T e):=
 ⟨h.inj,h.inj',h.lt,h.low,h.gle,h.cont,h.rest,h.st,h.np,h.tb⟩
variable {T:jW}
def cV.untp {S:aP->Prop}{R:Pr}{e:Nat}(h:cV S K R G' St (Tt.tp w T e) W):cV S K R G' St w W:=
 ⟨h.inj,h.inj',h.lt,h.low,h.gle,h.cont,h.rest,h.st,h.np,h.tb⟩
def Tp.tp (w W:aE)(T:jW)(e:Nat):Tp (tp w T e) (tp W T e):=λ_ _=>rfl
def cV.relOk {S:aP->Prop}{R:Pr}(hG:G'=P.gp)(h:cV S K R G' St w W):tZ P K R:=by subst hG;exact⟨h.inj,h.inj',λa b x=>(h.low a b x).1,h.tb⟩
variable {m:Fm}{ms:List Fm}
def vO.next (F:vN P fs)(hG:G'=P.gp){m1:Fm}{ms1:List Fm}{w1:aE}{e:Nat}(h:vO P fs K G' St m ms w)(hs:m.ret=true->ms≠[])
 (hr:(fD P.g m ms).run P.g (tp w T e)=.ok (m1,ms1) w1):vO P fs K G' St m1 ms1 w1:=by
 obtain⟨R,W,m',ms',hw,hm,iP⟩:=h;obtain⟨R1,x',W1,ev,e1,e2,e3,e4,e5⟩:=aG.run hG _ (zdO (l:=false) F.toFit2 (hw.relOk hG) hm iP (λe=>by cases e) hs) (hw.tp T e) (Tp.tp w W T e) hr;rcases e2 with e2|⟨_,⟨f,_,_,_,_,_,_,ho,_⟩⟩
 .exact⟨R1,W1,x'.1,x'.2,e3.rel,e2.1,e2.2.1⟩
 .rw[F.none] at ho;cases ho
def vO.locl (F:vN P fs)(hG:G'=P.gp)(h:vO P fs K G' St m ms w)(hs:m.ret=true->ms≠[])(T:jW)(e:Nat):Mx P.g (fD P.g m ms) (tp w T e):=by
 obtain⟨R,W,m',ms',hw,hm,iP⟩:=h;exact aG.locl hG _ (zdO (l:=false) F.toFit2 (hw.relOk hG) hm iP (λe=>by cases e) hs) (hw.tp T e) (Tp.tp w W T e)
def tp_self (h:w.tape=T):tp w T w.drawn=w:=by subst h;rfl
def Ir.alike (F:vN P fs)(hG:G'=P.gp):∀{n:Nat} {m mT:Fm} {ms:List Fm} {w wT:aE} {T1 T2:jW} {e1 e2:Nat},vO P fs K G' St m ms w->Ir P.g n m ms (tp w T1 e1) mT wT->(∀n q,T2 (e2+n) q=T1 (e1+n) q)->∃e3,Ir P.g n m ms (tp w T2 e2) mT (tp wT T2 e3):=by
 intro n
 induction n with
 |zero=>
  intro m mT ms w wT T1 T2 e1 e2 hR h ht
  cases h with
  |stop hr=>exact⟨e2,.stop hr⟩
 |succ n ih=>
  intro m mT ms w wT T1 T2 e1 e2 hR h ht
  cases h with
  |step hs hr hn=>
   rename_i m1 ms1 w1;obtain⟨h1,h2,h3⟩:=hR.locl F hG hs T1 e1 _ _ hr;have h4:=h3 T2 e2 (λk _ q=>ht k q);have zes:w1=tp w1 T1 w1.drawn:=(tp_self h1).symm;rw[zes] at hn
   obtain⟨e3,h5⟩:=ih (T2:=T2) (e2:=e2+(w1.drawn-e1)) (hR.next F hG hs hr) hn (λk q=>by
    have Pk:e1<=w1.drawn:=h2;rw[show e2+(w1.drawn-e1)+k=e2+((w1.drawn-e1)+k) by omega,ht,show e1+((w1.drawn-e1)+k)=w1.drawn+k by omega])
   exact⟨e3,.step hs h4 h5⟩
def Rv (F:vN P fs)(hG:G'=P.gp){frT:dK}{wT:aE}(hT:frT.mode=.returning):∀(n:Nat) {m:Fm} {ms:List Fm} {w:aE},vO P fs K G' St m ms w->
 runN P.g n (solo (G m.fr (ms.map Fm.fr++[pz])) w)=.next (solo (G frT [pz]) wT)->∃k mT,Ir P.g k m ms w mT wT/\mT.fr=frT:=by
 intro n
 induction n with
 |zero=>
  intro m ms w hR h;simp only[runN,Xj] at h;obtain⟨h1,rfl⟩:=zfJ h;obtain⟨h2,h3⟩:=zgZ h1;have iP:ms=[]:=by
   cases ms with
   |nil=>rfl
   |cons a b=>have:=congrArg Zm h3;simp at this
  subst iP;have hr:m.ret=true:=by
   rw[<-h2] at hT
   cases hm:m.ret with
   |true=>rfl
   |false=>rw[Fm.fr_run hm] at hT;cases hT
  exact⟨0,m,.stop hr,h2⟩
 |succ n ih=>
  intro m ms w hR h;by_cases Ww:m.ret=true/\ms=[]
  .obtain⟨hr,rfl⟩:=Ww
   exact absurd h (zF1 frT wT hr n)
  .have hs:m.ret=true->ms≠[]:=λa b=>Ww ⟨a,b⟩
   have zes:tp w w.tape w.drawn=w:=rfl;by_cases bU:∃x w1,(fD P.g m ms).run P.g w=.ok x w1
   .obtain⟨⟨m1,ms1⟩,w1,hr⟩:=bU
    have vJ:step P.g (solo (G m.fr (ms.map Fm.fr++[pz])) w)=.next (solo (G m1.fr (ms1.map Fm.fr++[pz])) w1):=by
     exact zcL rfl (ziA (main:=true) hr [pz])
    obtain⟨k,mT,h1,h2⟩:=ih (vO.next (T:=w.tape) (e:=w.drawn) F hG hR hs hr) ((zcN vJ n).symm.trans h);exact⟨k+1,mT,.step hs hr h1,h2⟩
   .exfalso
    obtain⟨R,W,m',ms',hw,hm,iP⟩:=hR;rcases zI2 F.toFit2 hG (hw.tp w.tape w.drawn) (Tp.tp w W w.tape w.drawn) hm iP hs (λx w' e=>bU ⟨x,w',e⟩) [pz] with⟨o,w1,es,aY⟩|⟨x,w1,es,aY,hp,hd⟩
    .have vJ:=zaB rfl aY
     have:=(zrB vJ n).symm.trans h;cases this
    .have vJ:=zcL rfl aY
     exact zJM frT wT hT n x (ms.map Fm.fr) w1 hp hd (λy hy=>by obtain⟨z,_,rfl⟩:=List.mem_map.1 hy;rfl) ((zcN vJ n).symm.trans h)
inductive LT (p:bS)(Q:Fm->aE->Prop):Fm->List Fm->aE->Prop
 |stop {m:Fm} {w:aE}:m.ret=true->Q m w->LT p Q m [] w
 |step {m:Fm} {ms:List Fm} {w:aE} (nx:jW->(Fm×List Fm)×aE):(m.ret=true->ms≠[])->(∀T,(fD p m ms).run p (tp w T 0)=.ok (nx T).1 (nx T).2)->(∀T,LT p Q (nx T).1.1 (nx T).1.2 (nx T).2)->LT p Q m ms w
def Hyp (P:dM)(fs:aP->Bool)(K:Pr)(G':Gp)(St:Nat->Prop)(Q:Fm->aE->Prop)(s:Fm×List Fm×aE):Prop:=
 vO P fs K G' St s.1 s.2.1 s.2.2/\∀T,∃n mT wT,Ir P.g n s.1 s.2.1 (tp s.2.2 T 0) mT wT/\Q mT wT
def bar (F:vN P fs)(hG:G'=P.gp){Q:Fm->aE->Prop}(hQ:∀m w T e,Q m w->Q m (tp w T e))(h:Hyp P fs K G' St Q (m,ms,w)):LT P.g Q m ms w:=by
 refine zY λdG=>?_
 let Bad:Fm×List Fm×aE->Prop:=λs=>Hyp P fs K G' St Q s/\¬LT P.g Q s.1 s.2.1 s.2.2
 have zlq:∀s,Bad s->s.1.ret=true->s.2.1≠[]:=by
  rintro⟨m,ms,w⟩ ⟨⟨hR,hI⟩,hn⟩ hr e;simp only at hr e hn hI;subst e;obtain⟨n,mT,wT,Ue,hq⟩:=hI w.tape
  cases Ue with
  |stop _=>exact hn (.stop hr (show Q m (tp (tp w w.tape 0) w.tape w.drawn) from hQ _ _ w.tape w.drawn hq))
  |step hs _ _=>exact hs hr rfl
 have next:∀s,Bad s->∃(T:jW) (s1:Fm×List Fm×aE),(fD P.g s.1 s.2.1).run P.g (tp s.2.2 T 0)=.ok (s1.1,s1.2.1) s1.2.2/\Bad s1:=by
  rintro⟨m,ms,w⟩ hb;have hs:=zlq _ hb;obtain⟨⟨hR,hI⟩,hn⟩:=hb;simp only at hs hI hn hR⊢;have bU:∀T,∃x w1,(fD P.g m ms).run P.g (tp w T 0)=.ok x w1:=λT=>by
   obtain⟨n,mT,wT,Ue,_⟩:=hI T
   cases Ue with
   |stop hr=>exact absurd rfl (hs hr)
   |step _ hr _=>exact⟨_,_,hr⟩
  refine zY λzzc=>hn ?_
  let x:=λT=>(bU T).choose
  let w1:=λT=>(bU T).choose_spec.choose
  have hx:∀T,(fD P.g m ms).run P.g (tp w T 0)=.ok (x T) (w1 T):=λT=>(bU T).choose_spec.choose_spec;refine .step (λT=>(x T,w1 T)) hs hx λT=>zY λaN=>zzc ⟨T,((x T).1,(x T).2,w1 T),hx T,⟨?_,?_⟩,aN⟩
  .exact hR.next F hG hs (hx T)
  .intro T'
   obtain⟨h1,h2,h3⟩:=hR.locl F hG hs T 0 _ _ (hx T)
   let T2:Tape:=λn q=>if n<(w1 T).drawn then T n q else T' (n-(w1 T).drawn) q
   have h4:=h3 T2 0 (λn hn q=>by
    have sV:n<(w1 T).drawn:=by simpa[tp] using hn
    show(if 0+n<(w1 T).drawn then T (0+n) q else _)=_;rw[if_pos aC];rfl)
   obtain⟨n,mT,wT,Ue,hq⟩:=hI T2
   cases Ue with
   |stop hr=>exact absurd rfl (hs hr)
   |step Gk hr sV=>
    rename_i n' m1 ms1 w2;have K8:(fD P.g m ms).run P.g (tp w T2 0)=.ok (x T) (tp (w1 T) T2 (0+((w1 T).drawn-(tp w T 0).drawn))):=h4;rw[K8] at hr;injection hr with e1 e2;have D5:m1=(x T).1:=by rw[e1]
    have Ak:ms1=(x T).2:=by rw[e1]
    subst D5 Ak;rw[<-e2] at sV;have hd:0+((w1 T).drawn-(tp w T 0).drawn)=(w1 T).drawn:=by show 0+((w1 T).drawn-0)=_;omega
    rw[hd] at sV
    obtain⟨e3,h5⟩:=Ir.alike (T2:=T') (e2:=0) F hG (hR.next F hG hs (hx T)) sV (λk q=>by
     show _=(if(w1 T).drawn+k<(w1 T).drawn then _ else T' ((w1 T).drawn+k-(w1 T).drawn) q);rw[if_neg aC];congr 1;omega)
    exact⟨n',mT,_,h5,hQ _ _ _ _ hq⟩
 have hstart:Bad (m,ms,w):=⟨h,dG⟩
 let nT:=λs (hb:Bad s)=>(next s hb).choose
 let nS:=λs (hb:Bad s)=>(next s hb).choose_spec.choose
 have cH:∀s (hb:Bad s),(fD P.g s.1 s.2.1).run P.g (tp s.2.2 (nT s hb) 0)=.ok ((nS s hb).1,(nS s hb).2.1) (nS s hb).2.2:=λs hb=>(next s hb).choose_spec.choose_spec.1;have Sf:∀s (hb:Bad s),Bad (nS s hb):=λs hb=>(next s hb).choose_spec.choose_spec.2
 let seq:Nat->{s:Fm×List Fm×aE//Bad s}:=λk=>Nat.rec ⟨(m,ms,w),hstart⟩ (λ_ s=>⟨nS s.1 s.2,Sf s.1 s.2⟩) k
 let tps:Nat->Tape:=λk=>nT (seq k).1 (seq k).2
 let d:Nat->Nat:=λk=>(seq (k+1)).1.2.2.drawn
 let D:Nat->Nat:=λk=>Nat.rec 0 (λk x=>x+d k) k
 have hD:∀k,D (k+1)=D k+d k:=λk=>rfl;have ztB:∀i j,i<=j->D i<=D j:=λi j q9=>by
  induction q9 with
  |refl=>exact aX _
  |step _ ih=>exact eG ih (by rw[hD];omega)
 classical
 let TS:Tape:=λN q=>if hh:∃k,D k<=N/\N<D (k+1) then tps hh.choose (N-D hh.choose) q else 0
 have zFr:∀k n q,n<d k->TS (D k+n) q=tps k n q:=by
  intro k n q hn;have hh:∃j,D j<=D k+n/\D k+n<D (j+1):=⟨k,aC,by rw[hD];omega⟩;have hc:=hh.choose_spec;have hk:hh.choose=k:=by
   rcases Nat.lt_trichotomy hh.choose k with x|x|x
   .have:=ztB (hh.choose+1) k x;omega
   .exact x
   .have:=ztB (k+1) hh.choose x;rw[hD] at this;omega
  show(if hh:∃j,D j<=D k+n/\D k+n<D (j+1) then _ else _)=_;rw[dif_pos hh,hk];congr 1;omega
 have vJ:∀k,(fD P.g (seq k).1.1 (seq k).1.2.1).run P.g (tp (seq k).1.2.2 TS (D k))=.ok ((seq (k+1)).1.1,(seq (k+1)).1.2.1) (tp (seq (k+1)).1.2.2 TS (D (k+1))):=by
  intro k;have hb:=(seq k).2;have hs:=zlq _ hb;have hr:=cH (seq k).1 (seq k).2;obtain⟨h1,h2,h3⟩:=hb.1.1.locl F hG hs (tps k) 0 _ _ hr;have h4:=h3 TS (D k) (λn hn q=>by
   have sV:n<d k:=by have:n<(nS (seq k).1 (seq k).2).2.2.drawn-0:=hn;simpa using this
   rw[zFr k n q sV];show _=tps k (0+n) q;rw[Nat.zero_add])
  have e1:D k+((nS (seq k).1 (seq k).2).2.2.drawn-(tp (seq k).1.2.2 (tps k) 0).drawn)=D (k+1):=by rw[hD];show D k+((seq (k+1)).1.2.2.drawn-0)=_;rfl
  rw[e1] at h4;exact h4
 obtain⟨n,mT,wT,Ue,_⟩:=h.2 TS;have key:∀(n k:Nat) (mT:Fm) (wT:aE),Ir P.g n (seq k).1.1 (seq k).1.2.1 (tp (seq k).1.2.2 TS (D k)) mT wT->False:=by
  intro n
  induction n with
  |zero=>
   intro k mT wT hi;have hs:=zlq _ (seq k).2;generalize iP:(seq k).1.2.1=ms0 at hi hs
   cases hi with
   |stop hr=>exact hs hr rfl
  |succ n ih=>
   intro k mT wT hi;have aY:=vJ k;generalize iP:(seq k).1.2.1=ms0 at hi aY;generalize Ml:(seq k).1.1=m0 at hi aY;generalize jH:tp (seq k).1.2.2 TS (D k)=w0 at hi aY
   cases hi with
   |step Gk hr hn=>
    rename_i m1 ms1 w1;rw[aY] at hr;injection hr with e1 e2;injection e1 with e1 e3;subst e1 e2 e3;exact ih (k+1) mT wT hn
 exact key n 0 mT wT Ue
end
end Go.Tt
namespace Go.Tt
inductive LTs (p:bS)(N:Fm->Prop)(Stop:Fm->List Fm->aE->Prop):Fm->List Fm->aE->Prop
 |stop {m:Fm} {ms:List Fm} {w:aE}:Stop m ms w->LTs p N Stop m ms w
 |step {m:Fm} {ms:List Fm} {w:aE} (nx:jW->(Fm×List Fm)×aE):(m.ret=true->ms≠[])->(∀T,(fD p m ms).run p (tp w T 0)=.ok (nx T).1 (nx T).2)->(∀T,N (nx T).1.1)->(∀T,LTs p N Stop (nx T).1.1 (nx T).1.2 (nx T).2)->LTs p N Stop m ms w
def Fm.app (m:Fm)(k:List eE):Fm:={m with todo:=m.todo++k}
def Fm.app_nil (m:Fm):m.app []=m:=by unfold Fm.app;simp
def x5 (S:List Nat):Code->Bool
 | .skip| .ret| .exit _| .label _=>true
 | .region _ ops _=>ops.all λo=>match o.dst with|some s=>!S.contains s|none=>true
 | .seq a b=>x5 S a&&x5 S b
 | .cond _ a b=>x5 S a&&x5 S b
 | .block _ c| .loop c| .scope c=>x5 S c
 |_=>false
def Bh (S:List Nat):eE->Bool
 | .code c| .inLoop c| .inScope c=>x5 S c
 | .inBlock _=>true
 | .inRegion ops _=>ops.all λo=>match o.dst with|some s=>!S.contains s|none=>true
 |_=>false
def Sa:Fm->List Fm->Fm
 |m,[]=>m
 |_,c::cs=>Sa c cs
structure Kn (S:List Nat)(m m':Fm):Prop where
 no:∀i∈m'.todo,Bh S i=true
 at_:∀s∈S,m'.tmps.getD s aA=m.tmps.getD s aA
variable {S:List Nat}{k:List eE}
def zfz {m:Fm}{ops:Array aZ}{i:Nat}{rest:List Nat}(h:m.todo=.inRegion ops (i::rest)::k)(hn:∀i∈m.todo,Bh S i=true)(v:aF):Kn S m (m.fin ops i rest k v):=by
 have hx:=hn (.inRegion ops (i::rest)) (by rw[h];exact List.mem_cons_self ..);refine⟨λj hj=>?_,λs hs=>?_⟩
 .simp only[Fm.fin,jJ] at hj
  rcases hj with rfl|hj
  .exact hx
  .exact hn j (by rw[h];exact G4 _ hj)
 .unfold Fm.fin
  simp only
  cases hd:(ops[i]?).bind (·.dst) with
  |none=>rfl
  |some q=>
   obtain⟨o,ho,hq⟩:=Option.bind_eq_some_iff.1 hd;simp only[Bh,Array.all_eq_true_iff_forall_mem] at hx;have h1:=hx o (Array.mem_of_getElem? ho);rw[hq] at h1;simp only[Bool.not_eq_true',List.contains_eq_mem,decide_eq_false_iff_not] at h1;have aT:q≠s:=λe=>h1 (e▸hs);simp only[Array.getD_eq_getD_getElem?,jV aT]
def zH6 {id:Nat}{k':List eE}(h:exitTo id k=some k')(hn:∀i∈k,Bh S i=true):∀i∈k',Bh S i=true:=λi hi=>hn i (ziw h i hi)
section
variable {p:bS}
def Fm.fin_app (m:Fm)(ops:Array aZ)(i:Nat)(rest:List Nat)(k0 k:List eE)(v:aF):(m.app k).fin ops i rest (k0++k) v=(m.fin ops i rest k0 v).app k:=by
 unfold Fm.fin Fm.app;simp
variable {m x:Fm}{ms ys ms':List Fm}{w w1:aE}
def zar (k:List eE)(aT:m.todo≠[])(h:(rU p m ms).run p w=.ok (x,ys) w1):
 (ys=ms/\x.fn=m.fn/\(x.ret=true->m.ret=false->x.todo≠[])/\(∀S,(∀i∈m.todo,Bh S i=true)->Kn S m x)/\(rU p (m.app k) ms').run p w=.ok (x.app k,ms') w1)\/(ys=m::ms/\(rU p (m.app k) ms').run p w=.ok (x,m.app k::ms') w1):=by
 obtain⟨fn,tmps,todo,ret⟩:=m;simp only at aT;unfold rU at h⊢;simp only[Fm.app] at h⊢
 cases todo with
 |nil=>exact absurd rfl aT
 |cons it k0=>
  simp only[Us] at h⊢
  cases it with
  |code c=>
   cases c with
   |cond c a b=>
    simp only at h⊢;have he:Fm.eval {fn:=fn,tmps:=tmps,todo:=Nr (Code.cond c a b)::(k0++k),ret:=ret} c=Fm.eval {fn:=fn,tmps:=tmps,todo:=Nr (Code.cond c a b)::k0,ret:=ret} c:=by cases c<;>rfl
    rw[he]
    cases hv:Fm.eval {fn:=fn,tmps:=tmps,todo:=Nr (Code.cond c a b)::k0,ret:=ret} c with
    |bool t=>
     rw[hv] at h;simp only[kN,bD,rH,pK] at h;obtain⟨⟨rfl,rfl⟩,rfl⟩:=h;refine .inl ⟨rfl,rfl,λa b=>Ks (b.symm.trans a),λS hn=>⟨?_,λ_ _=>rfl⟩,rfl⟩;simp only[jJ,forall_eq_or_imp,Bh,x5,fU] at hn⊢;cases t<;>grind
    |_=>rw[hv] at h;simp[stuck,bD] at h
   |exit id=>
    simp only at h⊢
    cases he:exitTo id k0 with
    |some k'=>
     rw[he] at h;rw[zhK k he];simp only[kN,bD,rH,pK] at h;obtain⟨⟨rfl,rfl⟩,rfl⟩:=h;exact .inl ⟨rfl,rfl,λa b=>Ks (b.symm.trans a),λS hn=>⟨zH6 he λi hi=>hn i (G4 _ hi),λ_ _=>rfl⟩,rfl⟩
    |none=>rw[he] at h;simp[stuck,bD] at h
   |region id ops draw=>
    cases draw with
    |true=>
     simp only[if_true] at h⊢;have h2:=(sE p (choose (.order fn id)) _ w).symm.trans h;have h3:=λ(f:Nat->cU (Fm×List Fm))=>sE p (choose (.order fn id)) f w
     cases hc:(choose (.order fn id)).run p w with
     |ok t w2=>
      rw[hc] at h2 h3;simp only[uV] at h2 h3;simp only[kN,bD,rH,pK] at h2;obtain⟨⟨rfl,rfl⟩,rfl⟩:=h2;exact .inl ⟨rfl,rfl,λa b=>Ks (b.symm.trans a),λS hn=>⟨by simp only[jJ,forall_eq_or_imp,Bh,x5,fU] at hn⊢;grind,λ_ _=>rfl⟩,h3 _⟩
     |halt y w2=>rw[hc] at h2;cases h2
    |false=>
     simp only[jE,if_false,kN,bD,rH,pK] at h;obtain⟨⟨rfl,rfl⟩,rfl⟩:=h;exact .inl ⟨rfl,rfl,by first|exact λa b=>Ks (b.symm.trans a)|exact λ_ _=>zgh _ _,λS hn=>⟨by simp only[jJ,forall_eq_or_imp,Bh,x5,fU] at hn⊢;grind,λ_ _=>rfl⟩,rfl⟩
   |_=>
    first
     |(simp[stuck,bD] at h;done)
     |(
      simp only[kN,bD,rH,pK] at h;obtain⟨⟨rfl,rfl⟩,rfl⟩:=h;exact .inl ⟨rfl,rfl,by first|exact λa b=>Ks (b.symm.trans a)|exact λ_ _=>zgh _ _,λS hn=>⟨by simp only[jJ,forall_eq_or_imp,Bh,x5,fU] at hn⊢;grind,λ_ _=>rfl⟩,rfl⟩)
  |inRegion ops l=>
   cases l with
   |nil=>
    simp only[kN,bD,rH,pK] at h;obtain⟨⟨rfl,rfl⟩,rfl⟩:=h;exact .inl ⟨rfl,rfl,by first|exact λa b=>Ks (b.symm.trans a)|exact λ_ _=>zgh _ _,λS hn=>⟨by simp only[jJ,forall_eq_or_imp,Bh,x5,fU] at hn⊢;grind,λ_ _=>rfl⟩,rfl⟩
   |cons i rest=>
    simp only at h⊢;have zJ:∀v,Fm.fin {fn:=fn,tmps:=tmps,todo:=rI ops (i::rest)::(k0++k),ret:=ret} ops i rest (k0++k) v=(Fm.fin {fn:=fn,tmps:=tmps,todo:=rI ops (i::rest)::k0,ret:=ret} ops i rest k0 v).app k:=λv=>Fm.fin_app {fn:=fn,tmps:=tmps,todo:=rI ops (i::rest)::k0,ret:=ret} ops i rest k0 k v;by_cases hw:((ops[i]?).map (dF · (dR ops tmps))).getD false=true
    .rw[if_pos hw] at h
     simp only[hw,if_true]
     cases ho:ops[i]? with
     |none=>rw[ho] at h;simp[stuck,bD] at h
     |some o=>
      rw[ho] at h;simp only at h⊢;have mJ:Fm.eval {fn:=fn,tmps:=tmps,todo:=rI ops (i::rest)::(k0++k),ret:=ret}=Fm.eval {fn:=fn,tmps:=tmps,todo:=rI ops (i::rest)::k0,ret:=ret}:=by funext y;cases y<;>rfl
      rw[mJ];have h2:=(sE p _ _ w).symm.trans h;have h3:=λ(f:Next->cU (Fm×List Fm))=>sE p (aS (Fm.eval {fn:=fn,tmps:=tmps,todo:=rI ops (i::rest)::k0,ret:=ret}) o) f w
      cases hc:(aS (Fm.eval {fn:=fn,tmps:=tmps,todo:=rI ops (i::rest)::k0,ret:=ret}) o).run p w with
      |halt y w2=>rw[hc] at h2;cases h2
      |ok n w2=>
       rw[hc] at h2 h3;simp only[uV] at h2 h3
       cases n with
       |value v=>
        simp only[qT,kN,bD,rH,pK] at h2;obtain⟨⟨rfl,rfl⟩,rfl⟩:=h2;refine .inl ⟨rfl,rfl,λa b=>Ks (b.symm.trans a),λS hn=>zfz rfl hn _,(h3 _).trans ?_⟩;simp only[qT,kN,bD,zJ];rfl
       |skip=>
        simp only[qT,kN,bD,rH,pK] at h2;obtain⟨⟨rfl,rfl⟩,rfl⟩:=h2;refine .inl ⟨rfl,rfl,λa b=>Ks (b.symm.trans a),λS hn=>zfz rfl hn _,(h3 _).trans ?_⟩;simp only[qT,kN,bD,zJ];rfl
       |enter f args=>
        simp only[qT] at h2
        cases hf:p.funcs[f]? with
        |none=>rw[hf] at h2;simp[stuck,bD] at h2
        |some fn2=>
         cases hb:fn2.body with
         |none=>rw[hf] at h2;simp only[hb] at h2;simp[stuck,bD] at h2
         |some c=>
          rw[hf] at h2;simp only[hb,kN,bD,rH,pK] at h2;obtain⟨⟨rfl,rfl⟩,rfl⟩:=h2;refine .inr ⟨rfl,(h3 _).trans ?_⟩;simp only[qT,hf,hb,kN,bD]
       |_=>simp[qT,stuck,bD] at h2
    .rw[if_neg hw] at h
     have qF:((ops[i]?).map (dF · (dR ops tmps))).getD false=false:=by simpa using hw
     simp only[qF,jE,if_false];simp only[kN,bD,rH,pK] at h;obtain⟨⟨rfl,rfl⟩,rfl⟩:=h;refine .inl ⟨rfl,rfl,λa b=>Ks (b.symm.trans a),λS hn=>zfz rfl hn _,?_⟩;simp only[kN,bD,zJ];rfl
  |_=>
   first
    |(simp[stuck,bD] at h;done)
    |(
     simp only[kN,bD,rH,pK] at h;obtain⟨⟨rfl,rfl⟩,rfl⟩:=h;exact .inl ⟨rfl,rfl,by first|exact λa b=>Ks (b.symm.trans a)|exact λ_ _=>zgh _ _,λS hn=>⟨by simp only[jJ,forall_eq_or_imp,Bh,x5,fU] at hn⊢;grind,λ_ _=>rfl⟩,rfl⟩)
def zxd (h:(rU p m ms).run p w=.ok (x,ys) w1)(hx:x.ret=true)(hr:m.ret=false)(aT:m.todo≠[])(hy:ys=ms):x.todo≠[]:=by
 rcases zar (ms':=[]) [] aT h with e|e
 .exact e.2.2.1 hx hr
 .have:=hy.symm.trans e.1
  exact absurd (congrArg Zm this) aO
def ztw (h:(rU p m ms).run p w=.ok (x,ys) w1)(hm:m.todo=[]):x={m with ret:=true}/\ys=ms:=by
 unfold rU at h;rw[hm] at h;simp only[kN,bD,rH,pK] at h;rw[hm];exact⟨h.1.1.symm,h.1.2.symm⟩
def zet (h:(rU p m ms).run p w=.ok (x,ys) w1):(ys=ms/\x.fn=m.fn)\/ys=m::ms:=by
 by_cases hm:m.todo=[]
 .obtain⟨rfl,rfl⟩:=ztw h hm
  exact .inl ⟨rfl,rfl⟩
 .exact(zar (ms':=[]) [] hm h).imp (λe=>⟨e.1,e.2.1⟩) And.left
def zIG {S:List Nat}{m':Fm}{w':aE}(hn:∀i∈m.todo,Bh S i=true)(h:(rU p m ms).run p w=.ok (m',ms') w'):(ms'=ms/\Kn S m m')\/ms'=m::ms:=by
 by_cases hm:m.todo=[]
 .obtain⟨rfl,rfl⟩:=ztw h hm
  exact .inl ⟨rfl,hn,λ_ _=>rfl⟩
 .exact(zar (ms':=[]) [] hm h).imp (λe=>⟨e.1,e.2.2.2.1 S hn⟩) And.left
def zF (k:List eE)(b:List Fm):Fm->List Fm->Fm×List Fm
 |m,[]=>(m.app k,b)
 |m,c::cs=>(m,(zF k b c cs).1::(zF k b c cs).2)
variable {m1:Fm}{ms1:List Fm}
def zFY {k:List eE}{b:List Fm}(h:(fD p m ms).run p w=.ok (m1,ms1) w1)(aT:ms=[]->m.ret=false->m.todo≠[]):
 (fD p (zF k b m ms).1 (zF k b m ms).2).run p w=.ok (zF k b m1 ms1) w1:=by
 cases ms with
 |nil=>
  simp only[zF]
  cases hr:m.ret with
  |true=>simp[fD,hr,zX,stuck,bD] at h
  |false=>
   have wE:(m.app k).ret=false:=hr;simp only[fD,hr,jE,if_false] at h;simp only[fD,wE,jE,if_false];rcases zar (ms':=b) k (aT rfl hr) h with⟨rfl,_,_,_,e⟩|⟨rfl,e⟩
   .exact e
   .exact e
 |cons c cs=>
  simp only[zF]
  cases hr:m.ret with
  |true=>
   simp only[fD,hr,if_true] at h⊢;obtain⟨ops,i,r,k0,v,fn,hc,hf,hv,rfl,rfl⟩:=Uj h
   cases ms1 with
   |nil=>
    simp only[zF];have kI:(c.app k).todo=.inRegion ops (i::r)::(k0++k):=by simp[Fm.app,hc]
    have:=(Mi (rest:=b) kI hf hv).1;rw[Fm.fin_app] at this;exact this
   |cons d ds=>exact(Mi hc hf hv).1
  |false=>
   simp only[fD,hr,jE,if_false] at h⊢;by_cases pS:m.todo=[]
   .simp only[rU,pS,kN,bD,rH,pK] at h⊢
    obtain⟨⟨rfl,rfl⟩,rfl⟩:=h;exact⟨rfl,rfl⟩
   .rcases zar (ms':=(zF k b c cs).1::(zF k b c cs).2) [] pS h with⟨rfl,_,_,_,e⟩|⟨rfl,e⟩
    .simp only[Fm.app_nil] at e
     exact e
    .simp only[Fm.app_nil] at e
     exact e
def Rp:Fm->List Fm->aP
 |m,[]=>m.fn
 |_,c::cs=>Rp c cs
def zqs (h:(fD p m ms).run p w=.ok (m1,ms1) w1):Rp m1 ms1=Rp m ms:=by
 cases hr:m.ret with
 |true=>
  simp only[fD,hr,if_true] at h
  cases ms with
  |nil=>simp[zX,stuck,bD] at h
  |cons c cs=>
   obtain⟨ops,i,r,k0,v,fn,hc,hf,hv,rfl,rfl⟩:=Uj h;cases ms1<;>rfl
 |false=>
  simp only[fD,hr,jE,if_false] at h;rcases zet h with⟨rfl,e⟩|rfl
  .cases ms1 with
   |nil=>exact e
   |cons c cs=>rfl
  .rfl
variable {Q:Fm->aE->Prop}
def LT.ret_inv (hr:m.ret=true)(h:LT p Q m [] w):Q m w:=by
 generalize iP:([]:List Fm)=ms at h
 cases h with
 |stop _ hq=>exact hq
 |step nx hs cH _=>subst iP;exact absurd rfl (hs hr)
variable {Stop:Fm->List Fm->aE->Prop}
def LT.app {P₁:dM}{U4:aP->Bool}{K₁:Pr}{Wy:Gp}{zdQ:Nat->Prop}(zgn:vN P₁ U4)(zdA:Wy=P₁.gp){N:Fm->Prop}(k:List eE)(b:List Fm){fn0:aP}
 (hN:∀m R y,oU P₁ U4 K₁ R m y->N m) (zAn:∀m:Fm,m.fn=fn0->N m)
 (hn:∀(x:Fm) (w:aE),x.fn=fn0->x.ret=false->x.todo=[]->(∀T,Q {x with ret:=true} (tp w T 0))->Stop (x.app k) b w)
 (hr:∀(x:Fm) (w:aE),x.fn=fn0->x.ret=true->x.todo≠[]->Q x w->Stop (x.app k) b w)    (h:LT P₁.g Q m ms w):
 Rp m ms=fn0->vO P₁ U4 K₁ Wy zdQ m ms w->(ms=[]->m.ret=true->m.todo≠[])->LTs P₁.g N Stop (zF k b m ms).1 (zF k b m ms).2 w:=by
 induction h with
 |stop h1 h2=>intro hl _ hz;exact .stop (hr _ _ hl h1 (hz rfl h1) h2)
 |step nx hs cH aN ih=>
  rename_i m ms w;intro hl hrel hz;by_cases Ns:ms=[]/\m.ret=false/\m.todo=[]
  .obtain⟨rfl,h1,h2⟩:=Ns
   refine .stop (hn m w hl h1 h2 λT=>?_);have hT:=cH T;have e:(fD P₁.g m []).run P₁.g (tp w T 0)=.ok ({m with ret:=true},[]) (tp w T 0):=by simp[fD,h1,rU,h2,kN,bD]
   rw[e] at hT;injection hT with e1 e2;have hl:=aN T;rw[<-e1,<-e2] at hl;exact hl.ret_inv rfl
  .have aT:ms=[]->m.ret=false->m.todo≠[]:=λa b c=>Ns ⟨a,b,c⟩
   have Q6:∀T,Rp (nx T).1.1 (nx T).1.2=fn0:=λT=>(zqs (m1:=(nx T).1.1) (ms1:=(nx T).1.2) (cH T)).trans hl;have tM:∀T,vO P₁ U4 K₁ Wy zdQ (nx T).1.1 (nx T).1.2 (nx T).2:=λT=>vO.next (T:=T) (e:=0) zgn zdA hrel hs (cH T);refine .step (λT=>(zF k b (nx T).1.1 (nx T).1.2,(nx T).2)) (λe=>?_) (λT=>zFY (cH T) aT) (λT=>?_) (λT=>ih T (Q6 T) (tM T) λe1 e2 e3=>?_)
   .cases ms with
    |nil=>exact absurd rfl (hs e)
    |cons c cs=>simp[zF]
   .
    show N (zF k b (nx T).1.1 (nx T).1.2).1
    cases iP:(nx T).1.2 with
    |nil=>exact zAn _ (by have:=Q6 T;rw[iP] at this;exact this)
    |cons c cs=>
     obtain⟨R,W,m',ms',_,hm,_⟩:=tM T;exact hN _ R m' hm
   have hT:=cH T
   cases ms with
   |nil=>
    cases j8:m.ret with
    |true=>exact hs j8 rfl
    |false=>
     simp only[fD,j8,jE,if_false] at hT;exact zxd hT e2 j8 (aT rfl j8) e1 e3
   |cons c cs=>
    cases j8:m.ret with
    |true=>
     simp only[fD,j8,if_true] at hT;obtain⟨ops,i,r,k0,v,fn,hc,hf,hv,h1,h2⟩:=Uj (m1:=(nx T).1.1) (ms1:=(nx T).1.2) hT;rw[h1] at e3;simp[Fm.fin] at e3
    |false=>
     simp only[fD,j8,jE,if_false] at hT;rcases zet hT with⟨e,_⟩|e
     .rw[e1] at e;cases e
     .rw[e1] at e;cases e
end
end Go.Tt
