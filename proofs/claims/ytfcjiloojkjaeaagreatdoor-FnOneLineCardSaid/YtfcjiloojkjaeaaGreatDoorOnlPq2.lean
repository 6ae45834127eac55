/-
  Part 2 of what stands behind the last text.
-/
import Derived.Conc.Token
import Derived.Conc.CompanyDraw
import Derived.Conc.LoneCalls
import Derived.Test.YtfcjiloojkjaeaaGreatDoorOnlPq1
set_option linter.all false
open Array renaming all_eq_true→zvg,all_eq_true_iff_forall_mem→Wc,empty_append→zlN,ext'→L1,forIn_toList→zfy,getElem?_eq_getElem→qA,getElem?_eq_some_iff→eE,getElem?_setIfInBounds_ne→rN,getElem?_setIfInBounds_self_of_lt→zrx,mem_append→zxP,replicate→oC,size_append→Yx,toList_inj→zdi,toList_map→zpY
open Array.mk renaming injEq→zdP
open Bool renaming and_eq_true→iY,false_eq_true→gK,noConfusion→L8,not_eq_true'→zbf,or_eq_true→Di
open Classical renaming byContradiction→zU
open Go renaming Addr→bD,CommCase→znM,CommShape→No,Event→oR,Frame→dJ,FuncId→aN,Goroutine→bC,HappensBefore→zeP,Item→dS,Machine→za3,MemOp→Tv,Oper→aZ,Operand→cI,Program→bT,ResultVar→Qh,Sem→cP,Tape→lM,Trace→l6,TypeDesc→Oh,TypeId→aM,Value→aF,World→aE,deafBehind→n9,execOp→aO,undef→aA,yielded→dO
open Go.Builtin renaming max2→zty,max_→zlD
open Go.CommCase.mk renaming injEq→zem
open Go.CommShape.recv renaming injEq→zzE
open Go.Conc renaming Aside→Ld,Deaf→gX,Deaf_other→Mi,Knows→Nq,act?_old→zb0,aside_setCell→Yq,base→Kt,deafBehind_still→zxl,deaf_old→ze7,finishComm_recv→zkx,finishComm_send→ztY,g?_old→Sx,getElem?_stand→zrT,heard_old→znc,listed→wU,lt_of_act?→zhs,lt_size_of_getElem?→zca,mem_of_getElem?→zjO,noRace_append→ztD,ofEvents_eq→Xq,offersAt_of_not_blocked→Zu,offersAt_parked_recv→zkX,offersAt_parked_send→zlU,ph→zg9,runT_crowd_go→Ye,served→o7,step_solo_go→zbD,touch_mute→zku,touch_of→zeu,woken_quitsD→zk9
open Go.Conc.Aside renaming refl→Og
open Go.ConcR renaming WgAt→fQ,deafBehind_cons→zp4,mk→oF
open Go.ConcR.WgAt renaming setSm→zE7,setSt→zCc,unique→zc3
open Go.Conv renaming bytesToString→zad,intToString→zk0,runesToString→zoU
open Go.Deferred renaming ofValue→C0
open Go.Event renaming mute→zfH
open Go.Frame renaming enter→Hu,raise→zwK
open Go.GStep renaming after→Ct
open Go.GStep.comm renaming injEq→zrP
open Go.Goroutine renaming again→zfK,offers→zod
open Go.Goroutine.mk renaming injEq→zu0
open Go.Instr renaming panic→zwq
open Go.Item renaming code→Mw,inRegion→sD
open Go.MemAct renaming low→Wy,low_mono→ztt,ofEvent→jF,touch?→qZ
open Go.MemOp renaming ofEvents→wK
open Go.Mode renaming atomic→zf3,plain→zab
open Go.Op renaming eqGuardIn→Q6,equal→vJ,equalIn→tD,maxDepth→Ud
open Go.Question renaming cut→ziW,forced→zjb
open Go.Region renaming schedule→Sm,wanted→dG
open Go.Result renaming andThen→vF
open Go.Result.ok renaming injEq→uV
open Go.Sem renaming bind→wX,run→bK,run_bind'→tP
open Go.Stepped.next renaming injEq→U1
open Go.Trace renaming act?→zxi,g?→Ef
open Go.Value.chan renaming injEq→zoN
open Go.World renaming cell?→lN,farLoad→zF,farStore→Dq,noCell→rB,setChan→Ke
open Go.stepG renaming exec→Mp
open List renaming cons_append→Sr,cons_ne_nil→zdT,forIn_cons→zrt,length_cons→yH,length_nil→Al,mem_cons→lO,mem_toArray→Iu,not_mem_nil→nM,range→iX,size_toArray→Fg
open List.cons renaming injEq→Vk
open Nat renaming le_refl→bN,le_trans→eM,lt_irrefl→Jn,lt_or_ge→uE,zero_le→mP
open Option renaming bind_some→xS,getD_some→Bp,isNone_some→zoc,map_eq_some_iff→zW,map_some→Fl
open Option.some renaming inj→cJ,injEq→jM
open Prod.mk renaming injEq→qI
open Pure renaming pure→lZ
open WellFounded renaming transGen→zD5
namespace Go
theorem Dn{P:Prop}(h:P:=by rw[hp];trivial):P:=h
theorem Pw{P:Prop}(h:P:=by rw[hr];exact .inr (.mk f k)):P:=h
theorem Kd{P:Prop}(h:P:=by rw[mI];simp):P:=h
theorem Xx{P:Prop}(h:P:=by rw[hp];exact hB _ bX.refl):P:=h
theorem zcw{P:Prop}(h:P:=by rw[dK.step];exact aX):P:=h
theorem znV{P:Prop}(h:P:=by have:=(h.st.bnd k c (.inl e)).2.2;rw[N8] at this;cases this):P:=h
theorem zvq{P:Prop}(h:P:=by have:=(h.st.bnd k c (.inr e)).2.2;rw[N8] at this;cases this):P:=h
theorem zcz{P:Prop}(h:P:=by simpa using hj):P:=h
theorem zwe{P:Prop}(h:P:=by rw[(Na w _).size];exact h.st.grp.live.lt):P:=h
theorem zoe{P:Prop}(h:P:=by rw[upd_same,hr];exact .inr (.mk f k)):P:=h
theorem Mb{P:Prop}(h:P:=by rfl):P:=h
theorem zfk{P:Prop}(h:P:=by rw[hp];exact id):P:=h
theorem zeb{P:Prop}(h:P:=by rw[hp];exact hB):P:=h
theorem Xg{P:Prop}(h:P:=by simp[hy]):P:=h
theorem zlr{P:Prop}(h:P:=by simpa using hg.1):P:=h
theorem zmY{P:Prop}(h:P:=by rw[hl];exact id):P:=h
end Go
namespace Go.Mt
open Go.Conc
open Go.ConcR (KK wgBlock WgAt stA smA rd wr mk)
inductive Rk:Type 1
 |mk (ι:Type) (f:ι->Rk)
inductive Rk.Child:Rk->Rk->Prop
 |mk {ι:Type} (f:ι->Rk) (i:ι):Rk.Child (f i) (.mk ι f)
theorem Rk.wf:WellFounded Rk.Child:=⟨λr=>by
 induction r with
 |mk ι f ih=>exact⟨_,λy h=>by cases h with|mk _ i=>exact ih i⟩⟩
structure cC where
 own:Nat->Prop
 still:Nat->Prop
 pass:Nat->Prop
def cC.grow (τ:cC)(w w':aE):cC:={τ with own:=λb=>τ.own b\/(w.heap.size<=b/\b<w'.heap.size)}
inductive Act (L:Type) where
 |send (c:Nat) (ok:aF->Prop) (pub:aF->List Nat) (nx:aF->L)
 |recv (c:Nat) (ok:aF->Prop) (nx:aF->L) (shut:L)
 |close (c:Nat) (nx:L)
 |add (nx:L)
 |spawn (pub:List Nat) (child nx:L)
 |done
 |wait
 |note (can:L->Prop)
inductive Ph (L:Type) where
 |gone
 |usr (l:L)
 |rel (l:L)
 |l1 (l:L)
 |l2 (l:L)
 |l3 (l:L)
 |quit (l:L)
 |w1 (b:Nat)
 |w2 (v:Nat)
 |w3
 |w4
 |w5
inductive Pj (L:Type) where
 |gone
 |run (l:L)
 |over (l:L)
 |waits
def Ph.proj {L:Type}:Ph L->Pj L
 | .gone=>.gone
 | .usr l=>.run l
 | .rel l| .l1 l| .l2 l| .l3 l| .quit l=>.over l
 | .w1 _| .w2 _| .w3| .w4| .w5=>.waits
abbrev rG:=Nat->Option Bool
def rG.opn (ch:rG)(l:List Nat):rG:=λc=>if c∈l then some false else ch c
structure jL (L:Type) where
 act:L->Act L
 dep:L->aE->Prop
 pend:L->Bool
 cl:L->Prop
 Inv:(Nat->Pj L)->rG->Prop
 got:L->aF->List Nat:=λ_ _=>[]
def jL.Blocked {L:Type}(A:jL L)(q:Nat->Pj L)(ch:rG)(l:L):Prop:=
 match A.act l with
 | .send c _ _ _=>¬∃j l' ok nx sh,q j=.run l'/\A.act l'=.recv c ok nx sh
 | .recv c _ _ _=>ch c=some false/\¬∃j l' ok pub nx,q j=.run l'/\A.act l'=.send c ok pub nx
 |_=>False
def Pj.c {L:Type}:Pj L->Nat
 | .gone=>0
 |_=>1
def num {L:Type}(q:Nat->Pj L):Nat->Nat
 |0=>0
 |n+1=>num q n+(q n).c
def bH {α:Type _}(f:Nat->α)(i:Nat)(x:α):Nat->α:=λa=>if a=i then x else f a
structure jL.Ok {L:Type}(A:jL L):Prop where
 send1:∀q ch i j li lj c ok pub nx rL U0 pL,A.Inv q ch->q i=.run li->q j=.run lj->A.act li=.send c ok pub nx->A.act lj=.send c rL U0 pL->i=j
 recv1:∀q ch i j li lj c ok nx sh rL pL xL,A.Inv q ch->q i=.run li->q j=.run lj->A.act li=.recv c ok nx sh->A.act lj=.recv c rL pL xL->i=j
 sendC:∀q ch i l c ok pub nx,A.Inv q ch->q i=.run l->A.act l=.send c ok pub nx->ch c=some false
 recvC:∀q ch i l c ok nx sh,A.Inv q ch->q i=.run l->A.act l=.recv c ok nx sh->∃b,ch c=some b
 meet:∀q ch i j li lj c ok pub nx rL pL sh v,A.Inv q ch->q i=.run li->q j=.run lj->A.act li=.send c ok pub nx->A.act lj=.recv c rL pL sh->ok v->
  (∀a∈pub v,ch a=none)->rL v/\A.Inv (bH (bH q i (.run (nx v))) j (.run (pL v))) (ch.opn (pub v))
 shut:∀q ch i l c ok nx sh,A.Inv q ch->q i=.run l->A.act l=.recv c ok nx sh->ch c=some true->A.cl l/\A.Inv (bH q i (.run sh)) ch
 close:∀q ch i l c nx,A.Inv q ch->q i=.run l->A.act l=.close c nx->ch c=some false/\A.Inv (bH q i (.run nx)) (bH ch c (some true))
 add:∀q ch i l nx,A.Inv q ch->q i=.run l->A.act l=.add nx->i=0/\A.pend l=false/\A.pend nx=true/\A.Inv (bH q i (.run nx)) ch
 spawn:∀q ch i l pub lc nx k,A.Inv q ch->q i=.run l->A.act l=.spawn pub lc nx->i=0/\A.pend l=true/\A.pend nx=false/\(q k=.gone->k≠0->(∀a∈pub,ch a=none)->A.Inv (bH (bH q i (.run nx)) k (.run lc)) (ch.opn pub))
 done:∀q ch i l,A.Inv q ch->q i=.run l->A.act l=.done->i≠0/\A.Inv (bH q i (.over l)) ch
 note:∀q ch i l can l',A.Inv q ch->q i=.run l->A.act l=.note can->can l'->A.pend l'=A.pend l/\A.Inv (bH q i (.run l')) ch
 wait:∀q ch i l,A.Inv q ch->q i=.run l->A.act l=.wait->i=0/\A.pend l=false/\A.Inv (bH q i .waits) ch
 prog:∀q ch,A.Inv q ch->(∀i l,q i=.run l->A.Blocked q ch l)->q 0=.waits/\∀i l,q i≠ .run l
 pendC:∀l l' c v ok pub nx,A.act l=.send c ok pub nx->l'=nx v->A.pend l'=A.pend l
 pendR:∀l l' c v ok nx sh,A.act l=.recv c ok nx sh->(l'=nx v\/l'=sh)->A.pend l'=A.pend l
 pendX:∀l c nx,A.act l=.close c nx->A.pend nx=A.pend l
 few:∀q ch,A.Inv q ch->∀n,num q n<2000000000
 gotP:∀q ch i j li lj c ok pub nx rL pL sh v,A.Inv q ch->q i=.run li->q j=.run lj->A.act li=.send c ok pub nx->A.act lj=.recv c rL pL sh->ok v->∀a∈A.got lj v,a∈pub v
section
variable {L:Type}(P:bT)(ty:aM)(Wg:Nat)(A:jL L)(Fin:bC->aE->Prop)
def WgLive (w:aE):Prop:=∃st sm,fQ ty Wg w st sm
structure bX (τ:cC)(w aJ:aE):Prop where
 tape:aJ.tape=w.tape
 os:aJ.os=w.os
 output:aJ.output=w.output
 size:w.heap.size<=aJ.heap.size
 keep:∀b,τ.own b\/τ.still b->aJ.heap[b]? =w.heap[b]?
 live:WgLive ty Wg w->WgLive ty Wg aJ
structure zT (O:Nat->Prop)(w w':aE):Prop where
 tape:w'.tape=w.tape
 os:w'.os=w.os
 output:w'.output=w.output
 size:w.heap.size<=w'.heap.size
 keep:∀b,b<w.heap.size->¬O b->w'.heap[b]? =w.heap[b]?
def EvT (main:Bool)(O Z:Nat->Prop)(e:oR):Prop:=
 match e.loc with
 | .cell a=>O a.block\/(Z a.block/\e.write=false)
 | .obj r=>O r\/(Z r/\e.write=false)
 | .mark (.read a)| .mark (.write a)=>main=true/\a.block=Wg
 | .mark (.acquire _)| .mark (.release _)| .mark (.releaseMerge _)=>False
 | .mark _=>True
 |_=>False
variable (K:Bool->Ph L->Nat->cC->bC->aE->Prop)
def GoG (main:Bool)(ph:Ph L)(d:Nat)(τ:cC)(g:bC)(aJ:aE):Prop:=
 ∃g' w' es,stepG P main g aJ=.go g' w' es/\g'.status=.running/\zT τ.own aJ w'/\(∀e∈es,EvT Wg main (τ.grow aJ w').own τ.still e)/\K main ph (n9 d es) (τ.grow aJ w') g' w'
def OwnG (main:Bool)(ph:Ph L)(d:Nat)(τ:cC)(g:bC)(w:aE):Prop:=∀aJ,bX ty Wg τ w aJ->GoG P Wg K main ph d τ g aJ
def Z9 (main:Bool)(ph:Ph L)(d:Nat)(τ:cC)(g:bC)(w:aE):Prop:=
 ∀aJ,bX ty Wg τ w aJ->∃g' es,stepG P main g aJ=.go g' aJ es/\g'.status=.running/\(∀e∈es,zfH e=true)/\K main ph (n9 d es) τ g' aJ
def st (v wt:Nat):Value:=.int .u64 ((v:Int)*KK+wt)
def Jz (w:aE)(a:Nat):Prop:=w.heap[a]? =some (.chan 0 #[] false 0 0 false)
def mR (main:Bool)(l:L)(d:Nat)(τ:cC)(g:bC)(w:aE):Prop:=
 match A.act l with
 | .send c ok pub nx=>g.offers=none/\∃v z τ',(∀aJ,bX ty Wg τ w aJ->stepG P main g aJ=.comm g #[scase c v z] true .send aJ #[])/\ok v/\(∀b,τ'.own b->τ.own b)/\τ'.still=τ.still/\(∀b,τ'.pass b->τ.pass b\/τ.own b)/\
  (∀a∈pub v,τ.own a/\¬τ'.own a/\¬τ'.still a/\Jz w a)/\K main (.usr (nx v)) d τ' (o7 g aA) w
 | .recv c ok nx sh=>g.offers=none/\∃z b,(∀aJ,bX ty Wg τ w aJ->stepG P main g aJ=.comm g #[rcase c z] true (.recv b) aJ #[])/\(∀v,ok v->∀aJ,bX ty Wg τ w aJ->(∀a∈A.got l v,a<aJ.heap.size/\¬τ.own a/\¬τ.still a)->K main (.usr (nx v)) d τ (o7 g (recvd b v true)) aJ)/\(A.cl l->K main (.usr sh) d τ (o7 g (recvd b z false)) w)
 | .close c nx=>mayWake P g=true/\τ.pass c/\∀aJ,bX ty Wg τ w aJ->∀s r,aJ.heap[c]? =some (.chan 0 #[] false s r false)->
  ∃g',stepG P main g aJ=.go g' (aJ.setChan c 0 #[] true s r false) (closeEvents c)/\g'.status=.running/\K main (.usr nx) d τ g' (aJ.setChan c 0 #[] true s r false)
 | .add nx=>∀aJ,bX ty Wg τ w aJ->∀v:Nat,v<2147483647->fQ ty Wg aJ (v*KK) 0->
  ∃g',stepG P main g aJ=.go g' (aJ.setCell (stA Wg) (st (v+1) 0)) #[rd (stA Wg),wr (stA Wg)]/\g'.status=.running/\K main (.usr nx) d τ g' (aJ.setCell (stA Wg) (st (v+1) 0))
 | .spawn pub lc nx=>d=0/\∀aJ,bX ty Wg τ w aJ->∃g' child τm τc,stepG P main g aJ=.spawn g' child aJ #[]/\g'.status=.running/\child.status=.running/\
  (∀b,τm.own b\/τc.own b->τ.own b)/\(∀b,τm.still b\/τc.still b->τ.still b\/τ.own b)/\(∀b,τm.pass b\/τc.pass b->τ.pass b\/τ.own b\/τ.still b)/\
  (∀b,τm.own b->¬τc.own b/\¬τc.still b/\¬τc.pass b)/\(∀b,τc.own b->¬τm.still b/\¬τm.pass b)/\
  (∀a∈pub,τ.own a/\Jz aJ a/\¬τm.own a/\¬τm.still a/\¬τc.own a/\¬τc.still a)/\K main (.usr nx) 0 τm g' aJ/\K false (.usr lc) 0 τc child aJ
 | .done=>d=0/\main=false/\(∀aJ,bX ty Wg τ w aJ->A.dep l aJ)/\∀aJ,bX ty Wg τ w aJ->∃g',stepG P main g aJ=.go g' aJ #[mk (.releaseMerge (stA Wg))]/\g'.status=.running/\K main (.rel l) 0 τ g' aJ
 | .wait=>∀aJ,bX ty Wg τ w aJ->∀v:Nat,v<2147483648->fQ ty Wg aJ (v*KK) 0->∃g',stepG P main g aJ=.go g' aJ #[rd (stA Wg)]/\g'.status=.running/\
  (v=0->K main .w5 d τ g' aJ)/\(v≠0->K main (.w2 v) d τ g' aJ)
 | .note can=>∃l',can l'/\K main (.usr l') d τ g w
def Ai (main:Bool)(ph:Ph L)(d:Nat)(τ:cC)(g:bC)(w:aE):Prop:=
 match ph with
 | .gone| .quit _=>False
 | .usr l=>mR P ty Wg A K main l d τ g w
 | .rel l=>∀aJ,bX ty Wg τ w aJ->∀v wt:Nat,wt<=1->v<2147483647->fQ ty Wg aJ ((v+1:Nat)*KK+wt) 0->
  ∃g',stepG P main g aJ=.go g' (aJ.setCell (stA Wg) (st v wt)) #[rd (stA Wg),wr (stA Wg)]/\g'.status=.running/\0<d/\
   ((v=0/\wt=1)->K main (.l1 l) d τ g' (aJ.setCell (stA Wg) (st v wt)))/\(¬(v=0/\wt=1)->∃q,QuitsD P q d g')
 | .l1 l=>∀aJ,bX ty Wg τ w aJ->fQ ty Wg aJ 1 0->∃g',stepG P main g aJ=.go g' aJ #[rd (stA Wg)]/\g'.status=.running/\0<d/\K main (.l2 l) d τ g' aJ
 | .l2 l=>∀aJ,bX ty Wg τ w aJ->fQ ty Wg aJ 1 0->∃g',stepG P main g aJ=.go g' (aJ.setCell (stA Wg) (st 0 0)) #[wr (stA Wg)]/\g'.status=.running/\0<d/\K main (.l3 l) d τ g' (aJ.setCell (stA Wg) (st 0 0))
 | .l3 l=>mayWake P g=true/\∀aJ,bX ty Wg τ w aJ->fQ ty Wg aJ 0 0->∃g',stepG P main g aJ=.go g' (aJ.setCell (smA Wg) (.int .u32 1)) (semEvents (smA Wg))/\g'.status=.running/\0<d/\∃q,QuitsD P q d g'
 | .w1 b=>∀aJ,bX ty Wg τ w aJ->∀v:Nat,v<b->v<2147483648->fQ ty Wg aJ (v*KK) 0->∃g',stepG P main g aJ=.go g' aJ #[rd (stA Wg)]/\g'.status=.running/\
  (v=0->K main .w5 d τ g' aJ)/\(v≠0->K main (.w2 v) d τ g' aJ)
 | .w2 vs=>∀aJ,bX ty Wg τ w aJ->∀v:Nat,v<2147483648->fQ ty Wg aJ (v*KK) 0->
  (v=vs->∃g',stepG P main g aJ=.go g' (aJ.setCell (stA Wg) (st v 1)) #[rd (stA Wg),wr (stA Wg)]/\g'.status=.running/\K main .w3 d τ g' (aJ.setCell (stA Wg) (st v 1)))/\
  (v<vs->∃g',stepG P main g aJ=.go g' aJ #[rd (stA Wg)]/\g'.status=.running/\K main (.w1 vs) d τ g' aJ)
 | .w3=>g.offers=none/\∀aJ,bX ty Wg τ w aJ->((∃x,fQ ty Wg aJ x 0)->stepG P main g aJ=.go {g with status:=.blocked} aJ #[])/\
  (fQ ty Wg aJ 0 1->∃g',stepG P main g aJ=.go g' (aJ.setCell (smA Wg) (.int .u32 0)) (semEvents (smA Wg))/\g'.status=.running/\K main .w4 d τ g' (aJ.setCell (smA Wg) (.int .u32 0)))
 | .w4=>∀aJ,bX ty Wg τ w aJ->fQ ty Wg aJ 0 0->∃g',stepG P main g aJ=.go g' aJ #[rd (stA Wg)]/\g'.status=.running/\K main .w5 d τ g' aJ
 | .w5=>d=0/\∀aJ,bX ty Wg τ w aJ->(∃q ch,A.Inv q ch/\q 0=.waits/\(∀i l,q i≠ .run l)/\∀i l,q i=.over l->A.dep l aJ)->
  ∃g',stepG P main g aJ=.go g' aJ #[mk (.acquire (stA Wg))]/\g'.status=.running/\Fin g' aJ
def N2 (main:Bool)(ph:Ph L)(d:Nat)(τ:cC)(g:bC)(w:aE):Prop:=
 match ph with
 | .gone| .quit _=>False
 | .rel _| .l1 _| .l2 _| .l3 _=>Z9 P ty Wg K main ph d τ g w
 |_=>OwnG P ty Wg K main ph d τ g w
end
def oU {L:Type}(P:bT)(ty:aM)(Wg:Nat)(A:jL L)(Fin:bC->aE->Prop):Rk->Bool->Ph L->Nat->cC->bC->aE->Prop
 | .mk ι f,main,ph,d,τ,g,w=>g.status=.running/\
  (
   N2 P ty Wg (λm ph d τ g w=>∃i,oU P ty Wg A Fin (f i) m ph d τ g w) main ph d τ g w\/
   Ai P ty Wg A Fin (λm ph d τ g w=>∃i,oU P ty Wg A Fin (f i) m ph d τ g w) main ph d τ g w)
abbrev Cp:=Sum Nat Rk
def Cl:Cp->Cp->Prop:=Sum.Lex (·<·) Rk.Child
theorem Cl.wf:WellFounded Cl:=by
 have hl:∀n:Nat,Acc Cl (.inl n):=λn=>by
  induction n using Nat.strongRecOn with
  |_ n ih=>exact⟨_,λy h=>by cases h with|inl h=>exact ih _ h⟩
 refine⟨λx=>?_⟩
 cases x with
 |inl n=>exact hl n
 |inr r=>
  induction r using Rk.wf.induction with
  |_ r ih=>exact⟨_,λy h=>by cases h with|inr h=>exact ih _ h|sep=>exact hl _⟩
def Xu (n:Nat)(f' f:Nat->Cp):Prop:=∃i,i<=n/\Cl (f' i) (f i)/\∀j,j<i->f' j=f j
theorem Xu.wf:∀n,WellFounded (Xu n):=by
 intro n
 induction n with
 |zero=>
  have:∀c,Acc Cl c->∀f:Nat->Cp,f 0=c->Acc (Xu 0) f:=by
   intro c hc
   induction hc with
   |intro c _ ih=>
    intro f hf;refine⟨_,λf' h=>?_⟩;obtain⟨i,hi,hl,_⟩:=h
    grind
  exact⟨λf=>this _ (Cl.wf.apply _) f rfl⟩
 |succ n ih=>
  have:∀zd5,Acc (Xu n) zd5->∀c,Acc Cl c->∀f:Nat->Cp,(∀j,j<=n->f j=zd5 j)->f (n+1)=c->Acc (Xu (n+1)) f:=by
   intro zd5 zeH
   induction zeH with
   |intro zd5 _ zy4=>
    intro c hc
    induction hc with
    |intro c _ zIM=>
     intro f hf J4;refine⟨_,λf' h=>?_⟩;obtain⟨i,hi,hl,he⟩:=h;rcases uE n i with aU|Cr
     .grind
     .refine zy4 f' ⟨i,Cr,(hf i Cr)▸hl,λj hj=>(he j hj).trans (hf j aC)⟩ _ (Cl.wf.apply (f' (n+1))) f' (λj _=>rfl) rfl
  exact⟨λf=>this f (ih.apply f) _ (Cl.wf.apply _) f (λ_ _=>rfl) rfl⟩
abbrev Mu:=Nat×(Nat->Cp)
def Mu.lt (x y:Mu):Prop:=∃i,i<=y.1/\Cl (x.2 i) (y.2 i)/\(∀j,j<i->x.2 j=y.2 j)/\(i≠0->x.1=y.1)
theorem Mu.wf:WellFounded Mu.lt:=by
 have:∀c,Acc Cl c->∀n (f:Nat->Cp),f 0=c->Acc Mu.lt (n,f):=by
  intro c hc
  induction hc with
  |intro c _ ih=>
   intro n f
   induction f using(Xu.wf n).induction with
   |_ f zFK=>
    intro hf;refine⟨_,λy h=>?_⟩;obtain⟨n',f'⟩:=y;obtain⟨i,hi,hl,he,hn⟩:=h;simp only at hi hl he hn;by_cases h0:i=0
    .grind
    .have:=hn h0
     subst this;exact zFK f' ⟨i,hi,hl,he⟩ ((he 0 aC).trans hf)
 exact⟨λx=>this _ (Cl.wf.apply _) x.1 x.2 rfl⟩
theorem run_to {P:bT}{α:Type _}{r:α->α->Prop}(wf:WellFounded r)(Inv:α->za3->l6->Prop)(Oo:za3->l6->Prop)
 (h:∀μ m t,Inv μ m t->∃m' ops,stepT P m=(.next m',ops)/\(Oo m' (t++ops)\/∃μ',r μ' μ/\Inv μ' m' (t++ops))):
 ∀μ m t,Inv μ m t->∃n m' t',runNT P n m t=(.next m',t')/\Oo m' t':=by
 intro μ
 induction μ using wf.induction with
 |_ μ ih=>
  intro m t hI;obtain⟨m',ops,hs,hg|⟨μ',hr,zkN⟩⟩:=h μ m t hI
  .exact⟨1,m',t++ops,by simp[runNT,hs],hg⟩
  .obtain⟨n,zHG,t',h1,h2⟩:=ih μ' hr m' (t++ops) zkN
   exact⟨n+1,zHG,t',by rw[runNT_succ_next hs];exact h1,h2⟩
section
variable {L:Type}{P:bT}{ty:aM}{Wg:Nat}{A:jL L}{Fin:bC->aE->Prop}
variable {τ τ':cC}{w aJ eL:aE}
def bX.refl:bX ty Wg τ w w:=⟨rfl,rfl,rfl,bN _,λ_ _=>rfl,id⟩
def bX.trans (h:bX ty Wg τ w aJ)(k:bX ty Wg τ aJ eL):bX ty Wg τ w eL:=
 ⟨k.tape.trans h.tape,k.os.trans h.os,k.output.trans h.output,eM h.size k.size,λb hb=>(k.keep b hb).trans (h.keep b hb),λx=>k.live (h.live x)⟩
def bX.mono (h:bX ty Wg τ w aJ)(hs:∀b,τ'.own b\/τ'.still b->τ.own b\/τ.still b):bX ty Wg τ' w aJ:=
 ⟨h.tape,h.os,h.output,h.size,λb hb=>h.keep b (hs b hb),h.live⟩
def zsX (ty:aM)(Wg:Nat)(K:Bool->Ph L->Nat->cC->bC->aE->Prop):Prop:=
 ∀m ph d τ g w aJ,K m ph d τ g w->bX ty Wg τ w aJ->K m ph d τ g aJ
variable {K:Bool->Ph L->Nat->cC->bC->aE->Prop}
theorem mR.rely (hK:zsX ty Wg K){main:Bool}{l:L}{d:Nat}{g:bC}(h:mR P ty Wg A K main l d τ g w)(s:bX ty Wg τ w aJ):mR P ty Wg A K main l d τ g aJ:=by
 unfold mR at*;split
 .rename_i c ok pub nx e
  simp only[e] at h;obtain⟨ho,v,z,τ',h1,h2,h3,h4,L3,h5,h6⟩:=h
  exact⟨ho,v,z,τ',λeL lX=>h1 eL (s.trans lX),h2,h3,h4,L3,λa ha=>⟨(h5 a ha).1,(h5 a ha).2.1,(h5 a ha).2.2.1,(s.keep a (.inl (h5 a ha).1)).trans (h5 a ha).2.2.2⟩,
   hK _ _ _ _ _ _ _ h6 (s.mono λb hb=>hb.imp (h3 b) (λx=>h4▸x))⟩
 .rename_i c ok nx sh e
  simp only[e] at h;obtain⟨ho,z,b,h1,h2,h3⟩:=h;exact⟨ho,z,b,λeL lX=>h1 eL (s.trans lX),λv hv eL lX hg=>h2 v hv eL (s.trans lX) hg,λx=>hK _ _ _ _ _ _ _ (h3 x) s⟩
 .rename_i c nx e
  simp only[e] at h;exact⟨h.1,h.2.1,λeL lX=>h.2.2 eL (s.trans lX)⟩
 .rename_i nx e
  simp only[e] at h;exact λeL lX=>h eL (s.trans lX)
 .rename_i pub lc nx e
  simp only[e] at h;exact⟨h.1,λeL lX=>h.2 eL (s.trans lX)⟩
 .rename_i e
  simp only[e] at h;exact⟨h.1,h.2.1,λeL lX=>h.2.2.1 eL (s.trans lX),λeL lX=>h.2.2.2 eL (s.trans lX)⟩
 .rename_i e
  simp only[e] at h;exact λeL lX=>h eL (s.trans lX)
 .rename_i can e
  simp only[e] at h;obtain⟨l',h1,h2⟩:=h;exact⟨l',h1,hK _ _ _ _ _ _ _ h2 s⟩
theorem Ai.rely (hK:zsX ty Wg K){main:Bool}{ph:Ph L}{d:Nat}{g:bC}(h:Ai P ty Wg A Fin K main ph d τ g w)(s:bX ty Wg τ w aJ):Ai P ty Wg A Fin K main ph d τ g aJ:=by
 cases ph with
 |gone=>exact h
 |quit l=>exact h
 |usr l=>exact mR.rely hK h s
 |l3 l=>exact⟨h.1,λeL lX=>h.2 eL (s.trans lX)⟩
 |w3=>exact⟨h.1,λeL lX=>h.2 eL (s.trans lX)⟩
 |w5=>exact⟨h.1,λeL lX=>h.2 eL (s.trans lX)⟩
 |rel l=>exact λeL lX=>h eL (s.trans lX)
 |l1 l=>exact λeL lX=>h eL (s.trans lX)
 |l2 l=>exact λeL lX=>h eL (s.trans lX)
 |w1 b=>exact λeL lX=>h eL (s.trans lX)
 |w2 v=>exact λeL lX=>h eL (s.trans lX)
 |w4=>exact λeL lX=>h eL (s.trans lX)
theorem N2.rely {main:Bool}{ph:Ph L}{d:Nat}{g:bC}(h:N2 P ty Wg K main ph d τ g w)(s:bX ty Wg τ w aJ):N2 P ty Wg K main ph d τ g aJ:=by
 cases ph<;>first|exact h|exact λeL lX=>h eL (s.trans lX)
theorem oU.rely:∀{r:Rk} {main:Bool} {ph:Ph L} {d:Nat} {τ:cC} {g:bC} {w aJ:aE},oU P ty Wg A Fin r main ph d τ g w->bX ty Wg τ w aJ->oU P ty Wg A Fin r main ph d τ g aJ:=by
 intro r
 induction r with
 |mk ι f ih=>
  intro main ph d τ g w aJ h s;refine⟨h.1,h.2.imp (λx=>x.rely s) λx=>x.rely (λm ph d τ g w aJ ⟨i,hi⟩ s=>⟨i,ih i hi s⟩) s⟩
end
def nJ (l:Loc)(b:Nat):Prop:=match l with| .cell a=>a.block=b| .obj r=>r=b|_=>False
variable {l:Loc}{b:Nat}
theorem zdd (h:nJ l b):l.isMemory=true:=by cases l<;>first|rfl|exact h.elim
theorem L4 {b':Nat}(h:nJ l b)(h':nJ l b'):b=b':=by cases l<;>first|exact h.symm.trans h'|exact h.elim
def Handed (Wg:Nat)(t:l6)(i:Nat):Prop:=∃r,t.act? r=some (.mark (.releaseMerge (stA Wg)))/\t.heard r/\Before t i r
variable {i:Nat}
theorem Handed.app {Wg:Nat}{t:l6}(u:l6)(h:Handed Wg t i):Handed Wg (t++u) i:=by
 obtain⟨r,h1,h2,h3⟩:=h;have hr:=zhs h1;exact⟨r,by rw[zb0 hr];exact h1,(znc hr).2 h2,h3.app u⟩
structure TI (Wg n:Nat)(own pas:Nat->Nat->Prop)(live:Nat->Prop)(Shun:Loc->Prop)(B:Nat)(t:l6):Prop where
 clean:∀said,¬Race said t
 own:∀k b,live k->own k b->∀i a,touchAt t i=some a->nJ a.loc b->Nq t k i
 pas:∀k b,live k->pas k b->∀i a,touchAt t i=some a->nJ a.loc b->a.write=true->Nq t k i
 grp:∀i a,touchAt t i=some a->nJ a.loc Wg->a.kind=.atomic\/(a.kind=.said/\t.g? i=some 0)
 all:∀i a,touchAt t i=some a->a.loc.isMemory=true->(∃k,live k/\Nq t k i)\/Handed Wg t i\/((Shun a.loc\/nJ a.loc Wg)/\a.kind=.atomic)
 over:∀i g,t.g? i=some g->g≠0->t.counts i->(∃k,live k/\Nq t k i)\/Handed Wg t i\/∃j,t.g? j=some 0/\zeP t i j
 norel:∀k,t.act? k≠some (.mark (.release (stA Wg)))
 low:∀op∈t,op.act.low B
 above:∀j,n<=j->gX t j=0
section
variable {Wg n:Nat}{own own' pas Vf:Nat->Nat->Prop}{live live':Nat->Prop}{Shun:Loc->Prop}{B B':Nat}{t:l6}
def zIo (t:l6)(y:Tv):touchAt (t++ #[y]) t.size=y.act.touch? :=touchAt_of aQ
variable {y:Tv}{a:Touch}
theorem Hg {t:l6}{i:Nat}(h:touchAt (t++ #[y]) i=some a):(i<t.size/\touchAt t i=some a)\/(i=t.size/\y.act.touch? =some a):=by
 obtain⟨op,ho,Ma⟩:=zeu h;rcases getElem?_append_cases ho with⟨hi,yO⟩|⟨hi,hu⟩
 .exact .inl ⟨hi,by rw[touchAt_of yO];exact Ma⟩
 grind
theorem zsF {B:Nat}{x:MemAct}{b:Nat}(h:x.low B)(ht:x.touch? =some a)(hb:nJ a.loc b):b<B:=by
 cases x with
 |access e=>
  simp only[qZ,jM] at ht;subst ht;obtain⟨loc,wr,sy⟩:=e;cases loc<;>first|exact hb▸h|exact hb.elim
 |mark m=>cases m<;>simp only[qZ,jM,reduceCtorEq] at ht<;>(subst ht;exact hb▸h)
 |_=>simp[qZ] at ht
theorem TI.lowB (h:TI Wg n own pas live Shun B t){i:Nat}{b:Nat}(ht:touchAt t i=some a)(hb:nJ a.loc b):b<B:=by
 obtain⟨op,ho,Ma⟩:=zeu ht;exact zsF (h.low op (zjO ho)) Ma hb
def TI.less (h:TI Wg n own pas live Shun B t)(ho:∀k b,live k->own' k b->own k b\/B<=b)(hp:∀k b,live k->Vf k b->pas k b\/own k b\/B<=b)(hB:B<=B'):TI Wg n own' Vf live Shun B' t:=
 ⟨
  h.clean,λk b hk hb i a ha hl=>(ho k b hk hb).elim (λx=>h.own k b hk x i a ha hl) (λx=>absurd (h.lowB ha hl) aC),
  λk b hk hb i a ha hl hw=>(hp k b hk hb).elim (λx=>h.pas k b hk x i a ha hl hw) (λx=>x.elim (λx=>h.own k b hk x i a ha hl) (λx=>absurd (h.lowB ha hl) aC)),
  h.grp,h.all,h.over,h.norel,λop hop=>ztt hB (h.low op hop),h.above⟩
def zdJ {t:l6}{k:Nat}(hg:y.g=k):Nq (t++ #[y]) k t.size:=⟨t.size,y,aQ,hg,.inl rfl⟩
theorem zhf {t:l6}{i g:Nat}(hg:(t++ #[y]).g? i=some g)(hc:(t++ #[y]).counts i):(i<t.size/\t.g? i=some g/\t.counts i)\/(i=t.size/\y.g=g):=by
 obtain⟨x,hx,tE⟩:=hc;have aU:i<(t++ #[y]).size:=by
  unfold Ef at hg;obtain⟨z,hz,_⟩:=zW.1 hg;exact zca hz
 simp only[Yx,Fg,yH,Al] at aU;rcases uE i t.size with hi|hi
 .refine .inl ⟨hi,by rw[Sx hi] at hg;exact hg,x,?_,tE.1,tE.2.imp id λz=>(znc hi).1 z⟩
  rw[zb0 hi] at hx;exact hx
 .have:i=t.size:=aC
  subst this;refine .inr ⟨rfl,?_⟩;simpa[Ef] using hg
theorem TI.push (h:TI Wg n own pas live Shun B t){k:Nat}(hk:live k)(sP:k<n)(hg:y.g=k)
 (ht:∀a,y.act.touch? =some a->(∃b,b≠Wg/\nJ a.loc b/\(own k b\/(pas k b/\a.write=false))/\∀k',live k'->k'≠k->¬own k' b/\(a.write=true->¬pas k' b))\/(nJ a.loc Wg/\(a.kind=.atomic\/(a.kind=.said/\k=0))/\∀k',live k'->¬own k' Wg/\¬pas k' Wg)\/a.loc.isMemory=false)
 (hr:y.act≠ .mark (.release (stA Wg))) (hl:y.act.low B):TI Wg n own pas live Shun B (t++ #[y]):=by
 refine⟨λsaid=>?_,λk' b cU hb i a ha kR=>?_,λk' b cU hb i a ha kR hw=>?_,λi a ha kR=>?_,λi a ha hm=>?_,λi g Gi aS hc=>?_,λi e=>?_,λop hop=>?_,λj hj=>?_⟩
 .refine ztD (g:=k) (h.clean said) (λop hop=>by simp_all) λi a ha op hop b hb hc=>?_
  have:op=y:=by simpa using hop
  subst this;obtain⟨zcB,zCA,jI,gD⟩:=hc;rcases ht b hb with⟨bl,lL,kR,Z7,_⟩|⟨kR,Ue,_⟩|Iq
  .rcases Z7 with Z7|⟨Z7,zED⟩
   .exact h.own k bl hk Z7 i a ha (zcB▸kR)
   .exact h.pas k bl hk Z7 i a ha (zcB▸kR) (by simpa[zED] using jI)
  .have Pe:=h.grp i a ha (zcB▸kR)
   rcases Ue with Ue|⟨Ue,lP⟩
   .rw[Ue] at gD
    rcases Pe with Pe|⟨Pe,_⟩<;>rw[Pe] at gD<;>simp at gD
   .rcases Pe with Pe|⟨Pe,To⟩
    .simp_all
    .obtain⟨zyg,zrb,_⟩:=zeu ha
     have:zyg.g=0:=by simpa[Ef,zrb] using To
     have:=knows_own zrb;simp_all
  simp_all
 .rcases Hg ha with⟨_,fU⟩|⟨rfl,fU⟩
  .exact(h.own k' b cU hb i a fU kR).app _
  .by_cases gD:k'=k
   .exact gD▸zdJ hg
   .rcases ht a fU with⟨bl,lL,Ds,_,fF⟩|⟨Ds,_,fF⟩|Iq
    .exact absurd (L4 kR Ds▸hb) (fF k' cU gD).1
    .exact absurd (L4 kR Ds▸hb) (fF k' cU).1
    .rw[zdd kR] at Iq;cases Iq
 .rcases Hg ha with⟨_,fU⟩|⟨rfl,fU⟩
  .exact(h.pas k' b cU hb i a fU kR hw).app _
  .by_cases gD:k'=k
   .exact gD▸zdJ hg
   .rcases ht a fU with⟨bl,lL,Ds,_,fF⟩|⟨Ds,_,fF⟩|Iq
    .exact absurd (L4 kR Ds▸hb) ((fF k' cU gD).2 hw)
    .exact absurd (L4 kR Ds▸hb) (fF k' cU).2
    .rw[zdd kR] at Iq;cases Iq
 .rcases Hg ha with⟨hi,fU⟩|⟨rfl,fU⟩
  .exact(h.grp i a fU kR).imp id λx=>⟨x.1,by rw[Sx hi];exact x.2⟩
  .rcases ht a fU with⟨bl,lL,Ds,_,fF⟩|⟨Ds,Ue,_⟩|Iq
   .exact absurd (L4 Ds kR) lL
   .exact Ue.imp id λx=>⟨x.1,by simp[Ef,hg,x.2]⟩
   .rw[zdd kR] at Iq;cases Iq
 .rcases Hg ha with⟨_,fU⟩|⟨rfl,fU⟩
  .rcases h.all i a fU hm with⟨k',cU,hkn'⟩|hh|hs
   .exact .inl ⟨k',cU,hkn'.app _⟩
   .exact .inr (.inl (hh.app _))
   .exact .inr (.inr hs)
  .exact .inl ⟨k,hk,zdJ hg⟩
 .rcases zhf Gi hc with⟨hi,hgi',lG⟩|⟨rfl,hgi'⟩
  .rcases h.over i g hgi' aS lG with⟨k',cU,hkn'⟩|hh|⟨j,hj,hb⟩
   .exact .inl ⟨k',cU,hkn'.app _⟩
   .exact .inr (.inl (hh.app _))
   .refine .inr (.inr ⟨j,?_,hb_app _ hb⟩)
    have uU:j<t.size:=by
     unfold Ef at hj;obtain⟨z,hz,_⟩:=zW.1 hj;exact zca hz
    rw[Sx uU];exact hj
  .exact .inl ⟨k,hk,zdJ hg⟩
 .have aU:=zhs e
  simp only[Yx,Fg,yH,Al] at aU;rcases uE i t.size with hi|hi
  .rw[zb0 hi] at e;exact h.norel i e
  .have:i=t.size:=aC
   subst this;exact hr (by simpa[zxi] using e)
 .rcases zxP.1 hop with hop|hop
  .exact h.low op hop
  simp_all
 .rw[Mi t (g':=k) aC _ (λop hop=>by simp at hop;rw[hop];exact hg)];exact h.above j hj
theorem TI.idle (h:TI Wg n own pas live Shun B t)(sP:y.g<n)
 (ht:∀a,y.act.touch? =some a->nJ a.loc Wg/\a.kind=.atomic/\0<gX t y.g/\∀k',live k'->¬own k' Wg/\¬pas k' Wg)
 (hr:y.act≠ .mark (.release (stA Wg))) (hl:y.act.low B):TI Wg n own pas live Shun B (t++ #[y]):=by
 have zgR:∀a,y.act.touch? =some a->¬(t++ #[y]).heard t.size:=by
  rintro a ha ⟨g,hg,hd⟩;have:y.g=g:=by simpa[Ef] using hg
  rw[ze7 (bN _),<-this] at hd;have:=(ht a ha).2.2.1;unfold gX at this;omega
 refine⟨λsaid=>?_,λk' b cU hb i a ha kR=>?_,λk' b cU hb i a ha kR hw=>?_,λi a ha kR=>?_,λi a ha hm=>?_,λi g Gi aS hc=>?_,λi e=>?_,λop hop=>?_,λj hj=>?_⟩
 .refine ztD (g:=y.g) (h.clean said) (λop hop=>by simp at hop;rw[hop]) λi a ha op hop b hb hc=>?_
  have:op=y:=by simpa using hop
  subst this;obtain⟨zcB,zCA,jI,gD⟩:=hc;obtain⟨kR,Ue,_,_⟩:=ht b hb;have Pe:=h.grp i a ha (zcB▸kR);simp_all
 .rcases Hg ha with⟨_,fU⟩|⟨rfl,fU⟩
  .exact(h.own k' b cU hb i a fU kR).app _
  .obtain⟨Ds,_,_,fF⟩:=ht a fU
   exact absurd (L4 kR Ds▸hb) (fF k' cU).1
 .rcases Hg ha with⟨_,fU⟩|⟨rfl,fU⟩
  .exact(h.pas k' b cU hb i a fU kR hw).app _
  .obtain⟨Ds,_,_,fF⟩:=ht a fU
   exact absurd (L4 kR Ds▸hb) (fF k' cU).2
 .rcases Hg ha with⟨hi,fU⟩|⟨rfl,fU⟩
  .exact(h.grp i a fU kR).imp id λx=>⟨x.1,by rw[Sx hi];exact x.2⟩
  simp_all
 .rcases Hg ha with⟨_,fU⟩|⟨rfl,fU⟩
  .rcases h.all i a fU hm with⟨k',cU,hkn'⟩|hh|hs
   .exact .inl ⟨k',cU,hkn'.app _⟩
   .exact .inr (.inl (hh.app _))
   .exact .inr (.inr hs)
  simp_all
 .obtain⟨x,hx,zfh,zLa⟩:=id hc
  rcases zhf Gi hc with⟨hi,hgi',lG⟩|⟨rfl,hgi'⟩
  .rcases h.over i g hgi' aS lG with⟨k',cU,hkn'⟩|hh|⟨j,hj,hb⟩
   .exact .inl ⟨k',cU,hkn'.app _⟩
   .exact .inr (.inl (hh.app _))
   .refine .inr (.inr ⟨j,?_,hb_app _ hb⟩)
    have uU:j<t.size:=by
     unfold Ef at hj;obtain⟨z,hz,_⟩:=zW.1 hj;exact zca hz
    rw[Sx uU];exact hj
  .have hy:y.act.touch? =some x:=by rw[<-zIo t y];exact hx
   simp_all
 .have aU:=zhs e
  simp only[Yx,Fg,yH,Al] at aU;rcases uE i t.size with hi|hi
  .rw[zb0 hi] at e;exact h.norel i e
  .have:i=t.size:=aC
   subst this;exact hr (by simpa[zxi] using e)
 .rcases zxP.1 hop with hop|hop
  .exact h.low op hop
  simp_all
 .rw[Mi t (g':=y.g) aC _ (λop hop=>by simp at hop;rw[hop])];exact h.above j hj
theorem TI.release (h:TI Wg n own pas live Shun B t){k:Nat}(sP:k<n)(hg:y.g=k)(hy:y.act=.mark (.releaseMerge (stA Wg)))(hd:gX t k=0)
 (zjC:Wg<B) (nI:∀j,live' j->live j) (Jt:∀j,live j->live' j\/j=k):TI Wg n own pas live' Shun B (t++ #[y]):=by
 have h1:=h.idle (y:=y) aC (λa ha=>by rw[hy] at ha;simp[qZ] at ha) (by rw[hy];simp) (by rw[hy];exact zjC);have Ei:(t++ #[y])[t.size]? =some y:=aQ;have Fj:∀i,Nq t k i->Handed Wg (t++ #[y]) i:=λi hi=>
  ⟨t.size,by rw[act?_of Ei,hy],⟨k,by simp[Ef,hg],by rw[ze7 (bN _)];exact hd⟩,.inr (hi.hb_new (bN _) Ei hg)⟩
 have zna:Handed Wg (t++ #[y]) t.size:=⟨t.size,by rw[act?_of Ei,hy],⟨k,by simp[Ef,hg],by rw[ze7 (bN _)];exact hd⟩,.inl rfl⟩;refine⟨h1.clean,λk' b cU=>h1.own k' b (nI k' cU),λk' b cU=>h1.pas k' b (nI k' cU),h1.grp,λi a ha hm=>?_,λi g Gi aS hc=>?_,h1.norel,h1.low,h1.above⟩
 .rcases Hg ha with⟨_,fU⟩|⟨rfl,fU⟩
  .rcases h.all i a fU hm with⟨k',cU,hkn'⟩|hh|hs
   .rcases Jt k' cU with x|rfl
    .exact .inl ⟨k',x,hkn'.app _⟩
    simp_all
   .exact .inr (.inl (hh.app _))
   .exact .inr (.inr hs)
  simp_all
 .rcases zhf Gi hc with⟨hi,hgi',lG⟩|⟨rfl,hgi'⟩
  .rcases h.over i g hgi' aS lG with⟨k',cU,hkn'⟩|hh|⟨j,hj,hb⟩
   .rcases Jt k' cU with x|rfl
    .exact .inl ⟨k',x,hkn'.app _⟩
    simp_all
   .exact .inr (.inl (hh.app _))
   .refine .inr (.inr ⟨j,?_,hb_app _ hb⟩)
    have uU:j<t.size:=by
     unfold Ef at hj;obtain⟨z,hz,_⟩:=zW.1 hj;exact zca hz
    rw[Sx uU];exact hj
  simp_all
theorem TI.fork (h:TI Wg n own pas live Shun B t){x:Tv}(h0:live 0)(zzi:0<n)(hx:x.g=0/\x.act=.go n)(hy:y.g=n/\y.act=.start)(hd:gX t 0=0)
 (nI:∀j,live' j↔(live j\/j=n)) (yW:¬live n) (Sw:∀k b,live k->k≠0->own' k b->own k b) (zAj:∀k b,live k->k≠0->Vf k b->pas k b)
 (ho:∀b,own' 0 b\/own' n b->own 0 b) (hp:∀b,Vf 0 b\/Vf n b->own 0 b\/pas 0 b):TI Wg (n+1) own' Vf live' Shun B (t++ #[x,y]):=by
 have zzB:=h.above n (bN _);have e2:t++ #[x,y]=(t++ #[x])++ #[y]:=by apply L1;simp
 have hn:TI Wg (n+1) own pas live Shun B t:=⟨h.clean,h.own,h.pas,h.grp,h.all,h.over,h.norel,h.low,λj hj=>h.above j aC⟩;have h1:=hn.idle (y:=x) (by rw[hx.1];omega) (λa ha=>by rw[hx.2] at ha;simp[qZ] at ha) (by rw[hx.2];simp) (by rw[hx.2];trivial);have h2:=h1.idle (y:=y) (by rw[hy.1];omega) (λa ha=>by rw[hy.2] at ha;simp[qZ] at ha) (by rw[hy.2];simp) (by rw[hy.2];trivial);rw[<-e2] at h2;have old:∀{i:Nat} {a:Touch},touchAt (t++ #[x,y]) i=some a->touchAt t i=some a:=by
  intro i a ha;rw[e2] at ha;rcases Hg ha with⟨_,fU⟩|⟨_,fU⟩
  .rcases Hg fU with⟨_,ha''⟩|⟨_,ha''⟩
   .exact ha''
   .rw[hx.2] at ha'';simp[qZ] at ha''
  .rw[hy.2] at fU;simp[qZ] at fU
 have fk:∀{i:Nat},Nq t 0 i->Nq (t++ #[x,y]) n i:=λ{i} hi=>Go.ConcN.fork_knows hx hy hd zzB hi;refine⟨h2.clean,λk b hk hb i a ha kR=>?_,λk b hk hb i a ha kR hw=>?_,h2.grp,λi a ha hm=>?_,λi g Gi aS hc=>?_,h2.norel,h2.low,h2.above⟩
 .rcases(nI k).1 hk with cU|rfl
  .by_cases lP:k=0
   .subst lP;exact h2.own 0 b h0 (ho b (.inl hb)) i a ha kR
   .exact h2.own k b cU (Sw k b cU lP hb) i a ha kR
  .exact fk (h.own 0 b h0 (ho b (.inr hb)) i a (old ha) kR)
 .rcases(nI k).1 hk with cU|rfl
  .by_cases lP:k=0
   .subst lP
    exact(hp b (.inl hb)).elim (λz=>h2.own 0 b h0 z i a ha kR) (λz=>h2.pas 0 b h0 z i a ha kR hw)
   .exact h2.pas k b cU (zAj k b cU lP hb) i a ha kR hw
  .exact(hp b (.inr hb)).elim (λz=>fk (h.own 0 b h0 z i a (old ha) kR)) (λz=>fk (h.pas 0 b h0 z i a (old ha) kR hw))
 .exact(h2.all i a ha hm).imp (λ⟨k,hk,sP⟩=>⟨k,(nI k).2 (.inl hk),sP⟩) id
 .exact(h2.over i g Gi aS hc).imp (λ⟨k,hk,sP⟩=>⟨k,(nI k).2 (.inl hk),sP⟩) id
theorem TI.acquire (h:TI Wg n own pas live Shun B t)(zzi:0<n)(hg:y.g=0)(hy:y.act=.mark (.acquire (stA Wg)))(hd:gX t 0=0)(zjC:Wg<B)(Jt:∀j,live j->j=0):
 Past (λl=>Shun l\/nJ l Wg) B (t++ #[y])/\∀j,n<=j->gX (t++ #[y]) j=0:=by
 have h1:=h.idle (y:=y) aC (λa ha=>by rw[hy] at ha;simp[qZ] at ha) (by rw[hy];simp) (by rw[hy];exact zjC);have Ei:(t++ #[y])[t.size]? =some y:=aQ;have hh:(t++ #[y]).heard t.size:=⟨0,by simp[Ef,hg],by rw[ze7 (bN _)];exact hd⟩;have got:∀i,i<t.size->Handed Wg t i->zeP (t++ #[y]) i t.size:=by
  rintro i hi ⟨r,jX,tZ,Fe⟩;have Mv:=zhs jX;have zFl:zeP (t++ #[y]) r t.size:=.single (.inr ⟨.marked Mv (.inr (by rw[zb0 Mv];exact jX)) (by rw[act?_of Ei,hy]) (λk pK qU=>h1.norel k),(znc Mv).2 tZ,hh⟩);exact(Fe.app _).hb zFl
 have zKH:∀i,zeP (t++ #[y]) i t.size->Nq (t++ #[y]) 0 i:=λi hb=>⟨t.size,y,Ei,hg,.inr hb⟩;refine⟨⟨h1.clean,λi a ha hm=>?_,λi g Gi aS hc=>?_,?_,h1.low⟩,h1.above⟩
 .rcases Hg ha with⟨hi,fU⟩|⟨rfl,fU⟩
  .rcases h.all i a fU hm with⟨k,hk,sP⟩|hh|hs
   .have:=Jt k hk;subst this;exact .inl (sP.app _)
   .simp_all
   .exact .inr hs
  .rw[hy] at fU;simp[qZ] at fU
 .rcases zhf Gi hc with⟨hi,hgi',lG⟩|⟨rfl,hgi'⟩
  .rcases h.over i g hgi' aS lG with⟨k,hk,sP⟩|hh|⟨j,hj,hb⟩
   .have:=Jt k hk;subst this
    exact⟨t.size,by simp[Ef,hg],sP.hb_new (bN _) Ei hg⟩
   .exact⟨t.size,by simp[Ef,hg],got i hi hh⟩
   .refine⟨j,?_,hb_app _ hb⟩
    have uU:j<t.size:=by
     unfold Ef at hj;obtain⟨z,hz,_⟩:=zW.1 hj;exact zca hz
    rw[Sx uU];exact hj
  omega
 .rw[Deaf_push];simp[deafStep,hy,hd]
theorem TI.begin (hP:Past Shun B t)(hB:B<=B')(zcC:∀j,n<=j->gX t j=0)(nI:∀j,live j↔j=0)(ho:∀b,own 0 b\/pas 0 b->∀l,nJ l b->¬Shun l)
 (hW:B<=Wg):TI Wg n own pas live Shun B' t:=by
 have o8:∀{i:Nat} {a:Touch} {b:Nat},touchAt t i=some a->nJ a.loc b->b<B:=λ{i a b} ha hb=>by
  obtain⟨op,ho,Ma⟩:=zeu ha;exact zsF (hP.seen op (zjO ho)) Ma hb
 refine⟨hP.clean,λk b hk hb i a ha kR=>?_,λk b hk hb i a ha kR hw=>?_,λi a ha kR=>?_,λi a ha hm=>?_,λi g Gi aS hc=>.inr (.inr (hP.over i g Gi aS hc)),λk e=>?_,λop hop=>ztt hB (hP.seen op hop),zcC⟩
 .have:=(nI k).1 hk;subst this
  rcases hP.known i a ha (zdd kR) with x|⟨x,_⟩
  .exact x
  grind
 .have:=(nI k).1 hk;subst this
  rcases hP.known i a ha (zdd kR) with x|⟨x,_⟩
  .exact x
  .grind
 .have:=o8 ha kR;omega
 .exact(hP.known i a ha hm).imp (λx=>⟨0,(nI 0).2 rfl,x⟩) λx=>.inr ⟨.inl x.1,x.2⟩
 .obtain⟨op,ho,Ma⟩:=zW.1 e
  have:=hP.seen op (zjO ho);rw[Ma] at this;simp only[Wy,stA] at this;omega
end
theorem upd_same {α:Type _}(f:Nat->α)(i:Nat)(x:α):bH f i x i=x:=by simp[bH]
theorem upd_ne {α:Type _}(f:Nat->α){j:Nat}(x:α)(h:j≠i):bH f i x j=f j:=by simp[bH,h]
section
variable {L:Type}
def Ph.live:Ph L->Prop| .usr _| .w1 _| .w2 _| .w3| .w4| .w5=>True|_=>False
def Ph.waits:Ph L->Prop| .w1 _| .w2 _| .w3| .w4| .w5=>True|_=>False
def Ph.pre:Ph L->Bool| .usr _| .rel _=>true|_=>false
def Ph.last:Ph L->Prop| .l1 _| .l2 _| .l3 _=>True|_=>False
structure Td (L:Type) where
 ph:Ph L
 r:Cp
 τ:cC
 g:bC
def oT (p:Nat->Ph L):Nat->Nat
 |0=>0
 |n+1=>oT p n+(if n≠0/\(p n).pre=true then 1 else 0)
def zQ (A:jL L)(p:Nat->Ph L):Nat:=match p 0 with| .usr l=>if A.pend l then 1 else 0|_=>0
def vv (A:jL L)(p:Nat->Ph L)(n:Nat):Nat:=oT p n+zQ A p
def gM (A:jL L)(ty:aM)(Wg:Nat)(p:Nat->Ph L)(n:Nat)(w:aE):Prop:=
 match p 0 with
 | .usr _=>fQ ty Wg w (vv A p n*KK) 0/\∀i,¬(p i).last
 | .w1 b=>fQ ty Wg w (vv A p n*KK) 0/\(∀i,¬(p i).last)/\vv A p n<b
 | .w2 vs=>fQ ty Wg w (vv A p n*KK) 0/\(∀i,¬(p i).last)/\vv A p n<=vs/\0<vs
 | .w3=>(0<vv A p n/\fQ ty Wg w (vv A p n*KK+1) 0/\∀i,¬(p i).last)\/
  (vv A p n=0/\∃i l,(∀j,(p j).last->j=i)/\(((p i=.l1 l\/p i=.l2 l)/\fQ ty Wg w 1 0)\/(p i=.l3 l/\fQ ty Wg w 0 0)))\/
  (vv A p n=0/\(∀i,¬(p i).last)/\fQ ty Wg w 0 1)
 | .w4| .w5=>vv A p n=0/\(∀i,¬(p i).last)/\fQ ty Wg w 0 0
 |_=>False
theorem zrO (p:Nat->Ph L){i n:Nat}(x:Ph L)(h:n<=i):oT (bH p i x) n=oT p n:=by
 induction n with
 |zero=>rfl
 |succ n ih=>simp only[oT,ih aC,upd_ne p x (show n≠i by omega)]
theorem zd3 (p:Nat->Ph L)(n:Nat)(x:Ph L):oT (bH p 0 x) n=oT p n:=by
 induction n with
 |zero=>rfl
 |succ n ih=>
  simp only[oT,ih];by_cases h:n=0
  .simp[h]
  .rw[upd_ne p x h]
theorem zd1 (p:Nat->Ph L){i n:Nat}(x:Ph L)(h:i<n)(h0:i≠0):oT (bH p i x) n+(if(p i).pre=true then 1 else 0)=oT p n+(if x.pre=true then 1 else 0):=by
 induction n with
 |zero=>omega
 |succ n ih=>
  simp only[oT];by_cases hi:i=n
  .subst hi
   rw[zrO p x (bN _),upd_same]
   grind
  .have:=ih aC
   rw[upd_ne p x (show n≠i from λe=>hi e.symm)];omega
theorem pre_le (ph:Ph L)(q:Prop)[Decidable q]:(if q/\ph.pre=true then 1 else 0)<=ph.proj.c:=by
 cases ph<;>simp[Ph.pre,Ph.proj,Pj.c]
 all_goals(split<;>omega)
theorem zGZ (A:jL L)(p:Nat->Ph L)(n:Nat)(h:0<n):vv A p n<=num (λi=>(p i).proj) n:=by
 have key:∀n,0<n->oT p n+(p 0).proj.c<=num (λi=>(p i).proj) n:=by
  intro n
  induction n with
  |zero=>omega
  |succ n ih=>
   intro _;by_cases hn:n=0
   .subst hn;simp[oT,num]
   .have:=ih aC
    have h2:=pre_le (p n) (n≠0);simp only[oT,num];omega
 have h1:=key n h;have h2:zQ A p<=(p 0).proj.c:=by
  unfold zQ;cases p 0<;>simp only[Ph.proj,Pj.c]<;>first|omega|(split<;>omega)
 unfold vv;omega
def l8 (x g:bC):Prop:=x.status=.running/\x.frame=g.frame/\x.callers=g.callers/\x.dying=g.dying
def l8.self {g:bC}(h:g.status=.running):l8 g g:=⟨h,rfl,rfl,rfl⟩
def l8.step {P:bT}{main:Bool}{x g:bC}(h:l8 x g)(w:aE):stepG P main x w=stepG P main g w:=stepG_same h.2.1 h.2.2.1 h.2.2.2 w
variable (P:bT)(ty:aM)(Wg:Nat)(A:jL L)(Fin:bC->aE->Prop)
def zdL (main:Bool)(T:Td L)(x:bC)(w:aE):Prop:=
 ∃l cs sh,T.ph=.usr l/\x=parked T.g cs sh/\(∀aJ,bX ty Wg T.τ w aJ->stepG P main T.g aJ=.comm T.g cs true sh aJ #[])/\
  ((∃c ok pub nx v z,A.act l=.send c ok pub nx/\cs=#[scase c v z]/\sh=.send)\/(∃c ok nx s z b,A.act l=.recv c ok nx s/\cs=#[rcase c z]/\sh=.recv b))
def znK (T:Td L)(x:bC):Prop:=T.ph=.w3/\x={T.g with status:=.blocked}/\T.g.offers=none
def Sits (i:Nat)(T:Td L)(d:Nat)(x:bC)(w:aE):Prop:=
 match T.ph with
 | .gone| .quit _=>∃q,T.r=.inl q/\QuitsD P q d x
 |_=>∃r,T.r=.inr r/\oU P ty Wg A Fin r (i==0) T.ph d T.τ T.g w/\(l8 x T.g\/zdL P ty Wg A (i==0) T x w\/znK T x)
def Ph.leaves:Ph L->Prop| .gone| .quit _=>True|_=>False
theorem Hm {P:bT}{ty:aM}{Wg:Nat}{A:jL L}{Fin:bC->aE->Prop}{i:Nat}{T:Td L}{d:Nat}{x:bC}{w:aE}(h:T.ph.leaves):
 Sits P ty Wg A Fin i T d x w↔∃q,T.r=.inl q/\QuitsD P q d x:=by
 obtain⟨ph,r,τ,g⟩:=T;cases ph<;>first|exact Iff.rfl|exact h.elim
theorem pP {P:bT}{ty:aM}{Wg:Nat}{A:jL L}{Fin:bC->aE->Prop}{i:Nat}{T:Td L}{d:Nat}{x:bC}{w:aE}(h:¬T.ph.leaves):
 Sits P ty Wg A Fin i T d x w↔∃r,T.r=.inr r/\oU P ty Wg A Fin r (i==0) T.ph d T.τ T.g w/\(l8 x T.g\/zdL P ty Wg A (i==0) T x w\/znK T x):=by
 obtain⟨ph,r,τ,g⟩:=T;cases ph<;>first|exact Iff.rfl|exact absurd trivial h
variable {P:bT}{ty:aM}{Wg:Nat}{A:jL L}{Fin:bC->aE->Prop}
theorem zvj (a a' g:bC)(cs:Array znM)(sh:No)(w:aE):woken P a a' w (parked g cs sh)=parked g cs sh\/woken P a a' w (parked g cs sh)={parked g cs sh with status:=.running}:=by
 unfold woken;split
 .unfold zfK
  grind
 .exact .inl rfl
def woken_running {a a' x:bC}{w:aE}(h:x.status=.running):woken P a a' w x=x:=woken_run h
theorem Sits.other {i:Nat}{T:Td L}{d:Nat}{x:bC}{w w':aE}(h:Sits P ty Wg A Fin i T d x w)(s:bX ty Wg T.τ w w')(a a':bC):Sits P ty Wg A Fin i T d (woken P a a' w' x) w':=by
 by_cases hl:T.ph.leaves
 .rw[Hm hl] at h⊢
  obtain⟨q,hq,hQ⟩:=h;exact⟨q,hq,by rw[zk9 hQ];exact hQ⟩
 .rw[pP hl] at h⊢
  obtain⟨r,hr,hB,hx⟩:=h;refine⟨r,hr,hB.rely s,?_⟩;rcases hx with hx|⟨l,cs,sh,h1,rfl,h3,h4⟩|⟨h1,rfl,h3⟩
  .rw[woken_running hx.1];exact .inl hx
  .rcases zvj (P:=P) a a' T.g cs sh w' with e|e
   .rw[e];exact .inr (.inl ⟨l,cs,sh,h1,rfl,λaJ lK=>h3 aJ (s.trans lK),h4⟩)
   .rw[e];exact .inl ⟨rfl,rfl,rfl,rfl⟩
  .unfold woken
   split
   .left
    simp only[zfK,h3];exact⟨rfl,rfl,rfl,rfl⟩
   .exact .inr (.inr ⟨h1,rfl,h3⟩)
theorem Sits.rely {i:Nat}{T:Td L}{d:Nat}{x:bC}{w w':aE}(h:Sits P ty Wg A Fin i T d x w)(s:bX ty Wg T.τ w w'):Sits P ty Wg A Fin i T d x w':=by
 by_cases hl:T.ph.leaves
 .rw[Hm hl] at h⊢;exact h
 .rw[pP hl] at h⊢
  obtain⟨r,hr,hB,hx⟩:=h;refine⟨r,hr,hB.rely s,hx.imp id (Or.imp ?_ id)⟩;rintro⟨l,cs,sh,h1,h2,h3,h4⟩;exact⟨l,cs,sh,h1,h2,λaJ lK=>h3 aJ (s.trans lK),h4⟩
theorem Sits.status {i:Nat}{T:Td L}{d:Nat}{x:bC}{w:aE}(h:Sits P ty Wg A Fin i T d x w):x.status=.running\/x.status=.finished\/x.status=.blocked:=by
 by_cases hl:T.ph.leaves
 .rw[Hm hl] at h
  obtain⟨q,hq,hQ⟩:=h;exact hQ.status.imp id .inl
 .rw[pP hl] at h
  obtain⟨r,hr,hB,hx|⟨l,cs,sh,h1,rfl,h3,h4⟩|⟨h1,rfl,h3⟩⟩:=h
  .exact .inl hx.1
  .exact .inr (.inr rfl)
  simp_all
structure Stat (n:Nat)(w:aE)(T:Nat->Td L)(ch:rG):Prop where
 n0:0<n
 ou:∀i,n<=i->(T i).ph=.gone
 role0:(T 0).ph.live
 role:∀i,i≠0->¬(T i).ph.waits
 nil:∀i,(T i).ph=.gone->∀b,¬(T i).τ.own b/\¬(T i).τ.still b/\¬(T i).τ.pass b
 sep:∀i j b,i≠j->(T i).τ.own b->¬(T j).τ.own b/\¬(T j).τ.still b/\¬(T j).τ.pass b
 bnd:∀i b,(T i).τ.own b\/(T i).τ.still b->b<w.heap.size/\b≠Wg/\ch b=none
 pas:∀i b,(T i).τ.pass b->b<w.heap.size/\b≠Wg
 depo:∀i l,(T i).ph.proj=.over l->∀aJ,bX ty Wg (T i).τ w aJ->A.dep l aJ
 chan:∀c b,ch c=some b->c≠Wg/\∃s r,w.heap[c]? =some (.chan 0 #[] b s r false)
 grp:gM A ty Wg (λi=>(T i).ph) n w
 inv:A.Inv (λi=>(T i).ph.proj) ch
structure Ev (gs:Array bC)(w:aE)(t:l6)(T:Nat->Td L)(ch:rG)(Shun:Loc->Prop):Prop where
 sit:∀(i:Nat) (x:bC),gs[i]? =some x->Sits P ty Wg A Fin i (T i) (gX t i) x w
 slp:∀(i j:Nat) (gi gj:bC) (c:Nat) (v z z':aF) (sh xL:No),gs[i]? =some (parked gi #[scase c v z] sh)->gs[j]? =some (parked gj #[rcase c z'] xL)->False
 slpC:∀(i:Nat) (gi:bC) (c:Nat) (z:aF) (sh:No),gs[i]? =some (parked gi #[rcase c z] sh)->ch c≠some true
 slpW:∀(x:bC),gs[0]? =some x->(T 0).ph=.w3->x.status=.blocked->¬fQ ty Wg w 0 1
 tr:TI Wg gs.size (λi=>(T i).τ.own) (λi b=>(T i).τ.still b\/(T i).τ.pass b) (λi=>(T i).ph.live) Shun w.heap.size t
def K6 (g:bC):Bool:=match g.status with| .running=>true|_=>false
def mu (gs:Array bC)(T:Nat->Td L):Mu:=(gs.size,λj=>if j<gs.size then(T j).r else .inl (gs.countP K6))
end
section
variable {L:Type}{P:bT}{ty:aM}{Wg:Nat}{A:jL L}{Fin:bC->aE->Prop}
variable {fn:aN}{pos:String}{es:Array oR}
theorem zzx {g:Nat}{op:Tv}(h:op∈wK g fn pos es):op.g=g:=by
 rw[Xq] at h
 grind
def OkL (Wg:Nat)(own pas:Nat->Prop)(k B:Nat)(e:oR):Prop:=
 (∀a,(jF e).touch? =some a->(∃b,b≠Wg/\nJ a.loc b/\(own b\/(pas b/\a.write=false)))\/(nJ a.loc Wg/\(a.kind=.atomic\/(a.kind=.said/\k=0)))\/a.loc.isMemory=false)/\
 jF e≠ .mark (.release (stA Wg))/\(jF e).low B
theorem TI.events {n:Nat}{own pas:Nat->Nat->Prop}{live:Nat->Prop}{Shun:Loc->Prop}{B:Nat}{k:Nat}(hk:live k)(sP:k<n)
 (hs:∀k' b,live k'->k'≠k->own k b->¬own k' b/\¬pas k' b) (hp:∀k' b,live k'->k'≠k->pas k b->¬own k' b) (hW:∀k',live k'->¬own k' Wg/\¬pas k' Wg)
 (fn:aN) (pos:String):∀(es:List oR) {t:l6},TI Wg n own pas live Shun B t->(∀e∈es,OkL Wg (own k) (pas k) k B e)->TI Wg n own pas live Shun B (t++wK k fn pos es.toArray)
 |[],t,h,_=>by simpa[wK] using h
 |e::es,t,h,yC=>by
  have e1:t++wK k fn pos (e::es).toArray=(t++ #[{g:=k,fn,pos,act:=.ofEvent e}])++wK k fn pos es.toArray:=by
   rw[Xq,Xq];apply L1;simp
  rw[e1];obtain⟨h1,h2,h3⟩:=yC e aQ;refine TI.events hk sP hs hp hW fn pos es (h.push hk sP rfl (λa ha=>?_) h2 h3) λe' N3=>yC e' (by simp[N3])
  grind
variable {e:oR}
theorem okL_evT {own still pas:Nat->Prop}{k B:Nat}(h:EvT Wg (k==0) own still e)(Jx:∀b,still b->pas b)(hb:∀b,own b\/still b->b<B/\b≠Wg)(hW:Wg<B):OkL Wg own pas k B e:=by
 obtain⟨loc,w,sy⟩:=e
 cases loc with
 |cell a=>
  simp only[EvT] at h;refine⟨λx hx=>?_,by simp[jF],?_⟩
  .simp only[jF,qZ,jM] at hx
   subst hx;exact .inl ⟨a.block,(hb _ (h.imp id (·.1))).2,rfl,h.imp id λx=>⟨Jx _ x.1,x.2⟩⟩
  .exact(hb _ (h.imp id (·.1))).1
 |obj r=>
  simp only[EvT] at h
  cases w<;>cases sy<;>refine⟨λx hx=>?_,by simp[jF],(hb _ (h.imp id (·.1))).1⟩<;>simp only[jF,qZ,jM,reduceCtorEq] at hx<;>
   (subst hx;exact .inl ⟨r,(hb _ (h.imp id (·.1))).2,rfl,h.imp id λx=>⟨Jx _ x.1,x.2⟩⟩)
 |output=>exact h.elim
 |goroutines=>exact h.elim
 |mark m=>
  cases m<;>simp only[EvT] at h<;>try exact h.elim
  case read a=>
   refine⟨λx hx=>?_,by simp[jF],by simpa[jF,Wy,h.2] using hW⟩;simp only[jF,qZ,jM] at hx;subst hx;exact .inr (.inl ⟨h.2,.inr ⟨rfl,by simpa using h.1⟩⟩)
  case write a=>
   refine⟨λx hx=>?_,by simp[jF],by simpa[jF,Wy,h.2] using hW⟩;simp only[jF,qZ,jM] at hx;subst hx;exact .inr (.inl ⟨h.2,.inr ⟨rfl,by simpa using h.1⟩⟩)
  all_goals exact⟨λx hx=>by simp[jF,qZ] at hx,by simp[jF],by simp[jF,Wy]⟩
theorem zdD {own pas:Nat->Prop}{k B:Nat}{a:bD}{b:Bool}(ha:a.block=Wg)(hW:Wg<B):OkL Wg own pas k B ⟨.cell a,b,true⟩:=by
 refine⟨λx hx=>?_,by simp[jF],by simpa[jF,Wy,Loc.low,ha] using hW⟩;simp only[jF,qZ,jM] at hx;subst hx;exact .inr (.inl ⟨ha,.inl rfl⟩)
theorem zdx {own pas:Nat->Prop}{k B:Nat}(h:e.mute=true):OkL Wg own pas k B e:=by
 refine⟨λx hx=>(by rw[zku h] at hx;cases hx),?_,low_mute h B⟩;obtain⟨loc,w,sy⟩:=e;cases loc<;>simp_all [zfH];rename_i m;cases m<;>simp_all [jF]
theorem TI.deafs {n:Nat}{own pas:Nat->Nat->Prop}{live:Nat->Prop}{Shun:Loc->Prop}{B:Nat}{k:Nat}(sP:k<n)(hW:∀k',live k'->¬own k' Wg/\¬pas k' Wg)
 (fn:aN) (pos:String):∀(es:List oR) {t:l6},TI Wg n own pas live Shun B t->
  (∀(l r:List oR) (e:oR),es=l++e::r->(∀a,(jF e).touch? =some a->nJ a.loc Wg/\a.kind=.atomic/\0<n9 (gX t k) l.toArray)/\jF e≠ .mark (.release (stA Wg))/\(jF e).low B)->
  TI Wg n own pas live Shun B (t++wK k fn pos es.toArray)
 |[],t,h,_=>by simpa[wK] using h
 |e::es,t,h,yC=>by
  have e1:t++wK k fn pos (e::es).toArray=(t++ #[{g:=k,fn,pos,act:=.ofEvent e}])++wK k fn pos es.toArray:=by
   rw[Xq,Xq];apply L1;simp
  rw[e1];obtain⟨h1,h2,h3⟩:=yC [] es e rfl;refine TI.deafs sP hW fn pos es (h.idle sP (λa ha=>⟨(h1 a ha).1,(h1 a ha).2.1,(h1 a ha).2.2,hW⟩) h2 h3) λl r e' N3=>?_;have hd:gX (t++ #[({g:=k,fn,pos,act:=.ofEvent e}:Tv)]) k=n9 (gX t k) #[e]:=by
   have:=Deaf_own t k fn pos #[e];rw[Xq] at this;simpa using this
  have:=yC (e::l) r e' (by rw[N3];rfl);rw[hd];refine⟨λa ha=>⟨(this.1 a ha).1,(this.1 a ha).2.1,?_⟩,this.2⟩;have h5:=(this.1 a ha).2.2
  rwa [zp4] at h5
variable {t:l6}
theorem TI.mutes {n:Nat}{own pas:Nat->Nat->Prop}{live:Nat->Prop}{Shun:Loc->Prop}{B:Nat}{k:Nat}(h:TI Wg n own pas live Shun B t)(sP:k<n)(hW:∀k',live k'->¬own k' Wg/\¬pas k' Wg)
 (fn:aN) (pos:String)  (yC:∀e∈es,zfH e=true):TI Wg n own pas live Shun B (t++wK k fn pos es):=by
 obtain⟨l⟩:=es;refine h.deafs sP hW fn pos l λx r e he=>?_;have hm:=yC e (by simp[he]);have:=zdx (Wg:=Wg) (own:=own k) (pas:=pas k) (k:=k) (B:=B) hm;exact⟨λa ha=>(by rw[zku hm] at ha;cases ha),this.2.1,this.2.2⟩
theorem Wq {gs gs':Array bC}{T T':Nat->Td L}{i:Nat}(hs:i≠0->gs'.size=gs.size)(h0:0<gs'.size)(hi:i<gs.size)(mJ:i<gs'.size)(hc:Cl (T' i).r (T i).r)(he:∀j,j<i->(T' j).r=(T j).r):Mu.lt (mu gs' T') (mu gs T):=by
 refine⟨i,by simp only[mu];omega,?_,λj hj=>?_,λh=>by simpa[mu] using hs h⟩
 .simp only[mu,if_pos hi,if_pos mJ];exact hc
 .simp only[mu,if_pos (show j<gs.size by omega),if_pos (show j<gs'.size by omega)];exact he j hj
theorem mu_dec' {gs gs':Array bC}{T:Nat->Td L}(hs:gs'.size=gs.size)(hc:gs'.countP K6<gs.countP K6):Mu.lt (mu gs' T) (mu gs T):=by
 refine⟨gs.size,by simp[mu],?_,λj hj=>?_,λh=>by simpa[mu] using hs⟩
 .simp only[mu,hs,Jn,if_false]
  exact .inl hc
 .simp only[mu,hs,if_pos hj]
theorem Ev.go {gs:Array bC}{w w':aE}{T:Nat->Td L}{ch vH:rG}{Shun:Loc->Prop}(h:Ev (P:=P) (ty:=ty) (Wg:=Wg) (A:=A) (Fin:=Fin) gs w t T ch Shun){i:Nat}{x g':bC}{Ti:Td L}
 (hi:gs[i]? =some x) (zim:Sits P ty Wg A Fin i Ti (n9 (gX t i) es) g' w') (nX:g'.status≠ .blocked) (zk4:∀j,j≠i->bX ty Wg (T j).τ w w')
 (hC:∀(j:Nat) (gj:bC) (c:Nat) (z:aF) (sh:No),gs[j]? =some (parked gj #[rcase c z] sh)->woken P x g' w' (parked gj #[rcase c z] sh)=parked gj #[rcase c z] sh->vH c≠some true)
 (hW:i≠0->∀x0,gs[0]? =some x0->(T 0).ph=.w3->x0.status=.blocked->(woken P x g' w' x0).status=.blocked->¬fQ ty Wg w' 0 1)
 (znJ:TI Wg gs.size (λk=>(bH T i Ti k).τ.own) (λk b=>(bH T i Ti k).τ.still b\/(bH T i Ti k).τ.pass b) (λk=>(bH T i Ti k).ph.live) Shun w'.heap.size (t++wK i fn pos es)):
 Ev (P:=P) (ty:=ty) (Wg:=Wg) (A:=A) (Fin:=Fin) ((gs.map (woken P x g' w')).setIfInBounds i g') w' (t++wK i fn pos es) (bH T i Ti) vH Shun:=by
 have aU:i<gs.size:=(eE.1 hi).1;have get:∀(j:Nat) (y:bC),((gs.map (woken P x g' w')).setIfInBounds i g')[j]? =some y->(j=i/\y=g')\/(j≠i/\∃y0,gs[j]? =some y0/\y=woken P x g' w' y0):=by
  intro j y hj;by_cases fD:i=j
  .simp_all
  .grind
 have back:∀(j:Nat) (gj:bC) (cs:Array znM) (sh:No),((gs.map (woken P x g' w')).setIfInBounds i g')[j]? =some (parked gj cs sh)->gs[j]? =some (parked gj cs sh)/\woken P x g' w' (parked gj cs sh)=parked gj cs sh:=by
  intro j gj cs sh hj;rcases get j _ hj with⟨_,e⟩|⟨aS,y0,h0,e⟩
  .exact absurd (by rw[<-e];rfl) nX
  .have hs:=h.sit j y0 h0
   by_cases hl:(T j).ph.leaves
   .rw[Hm hl] at hs
    obtain⟨q,_,hQ⟩:=hs;rw[zk9 hQ] at e
    grind
   .rw[pP hl] at hs
    obtain⟨r,_,_,hx|⟨l,Rp,xL,_,rfl,_,_⟩|⟨_,rfl,ho⟩⟩:=hs
    .rw[woken_running hx.1] at e
     grind
    .rcases zvj (P:=P) x g' (T j).g Rp xL w' with e2|e2
     .simp_all
     .rw[e2] at e
      have:(parked gj cs sh).status=.running:=by rw[e]
      simp[parked] at this
    .have:(parked gj cs sh).offers=none:=by
      rw[e];unfold woken;split
      .simp[zfK,ho]
      .exact ho
     simp[parked] at this
 refine⟨λj y hj=>?_,λa b ga gb c v z z' sh xL ha hb=>?_,λj gj c z sh hj=>?_,λy hy yF aX=>?_,by simpa using znJ⟩
 .rcases get j y hj with⟨rfl,rfl⟩|⟨aS,y0,h0,rfl⟩
  .rw[upd_same,Deaf_own];exact zim
  .rw[upd_ne T Ti aS,Mi t (g':=i) (λe=>aS e.symm) (wK i fn pos es) (λop hop=>zzx hop)]
   exact(h.sit j y0 h0).other (zk4 j aS) _ _
 .exact h.slp a b ga gb c v z z' sh xL (back a ga _ _ ha).1 (back b gb _ _ hb).1
 .grind
 .rcases get 0 y hy with⟨e,rfl⟩|⟨aS,y0,h0,rfl⟩
  .exact absurd aX nX
  .rw[upd_ne T Ti aS] at yF
   have hb:y0.status=.blocked:=by
    rcases(h.sit 0 y0 h0).status with hs|hs|hs
    .rw[woken_running hs,hs] at aX;cases aX
    .unfold woken at aX
     split at aX
     .rw[again_running _ (.inr hs),hs] at aX;cases aX
     omega
    .exact hs
   grind
end
section
variable {L:Type}{P:bT}{ty:aM}{Wg:Nat}{A:jL L}{Fin:bC->aE->Prop}
theorem bX.of_aside {τ:cC}{c:Nat}{w w':aE}(h:Ld c w w')(hc:¬τ.own c/\¬τ.still c)(hl:WgLive ty Wg w->WgLive ty Wg w'):bX ty Wg τ w w':=
 ⟨h.tape,h.os,h.output,Nat.le_of_eq h.size.symm,λb hb=>h.block b (λe=>by subst e;exact hb.elim hc.1 hc.2),hl⟩
def U6 {c:Nat}{w w':aE}(h:Ld c w w')(hc:c≠Wg):WgLive ty Wg w->WgLive ty Wg w':=λ⟨a,b,x⟩=>⟨a,b,(h.block Wg (λe=>hc e.symm)).trans x⟩
theorem gM.live {p:Nat->Ph L}{n:Nat}{w:aE}(h:gM A ty Wg p n w):WgLive ty Wg w:=by
 unfold gM at h;split at h
 .exact⟨_,_,h.1⟩
 .exact⟨_,_,h.1⟩
 .exact⟨_,_,h.1⟩
 .rcases h with⟨_,h,_⟩|⟨_,_,_,_,⟨_,h⟩|⟨_,h⟩⟩|⟨_,_,h⟩<;>exact⟨_,_,h⟩
 .exact⟨_,_,h.2.2⟩
 .exact⟨_,_,h.2.2⟩
 .exact h.elim
theorem WgLive.lt {w:aE}(h:WgLive ty Wg w):Wg<w.heap.size:=by
 obtain⟨_,_,h⟩:=h;exact(eE.1 h).1
theorem gM.of_block {p:Nat->Ph L}{n:Nat}{w w':aE}(h:gM A ty Wg p n w)(e:w'.heap[Wg]? =w.heap[Wg]?):gM A ty Wg p n w':=by
 have key:∀a b,fQ ty Wg w a b->fQ ty Wg w' a b:=λa b x=>e.trans x;unfold gM at*;split
 all_goals(rename_i hp;simp only[hp] at h)
 .simp_all
 .simp_all
 .exact⟨key _ _ h.1,h.2⟩
 .exact h.imp (λx=>⟨x.1,key _ _ x.2.1,x.2.2⟩) (Or.imp (λ⟨a,i,l,b,c⟩=>⟨a,i,l,b,c.imp (λx=>⟨x.1,key _ _ x.2⟩) (λx=>⟨x.1,key _ _ x.2⟩)⟩) λx=>⟨x.1,x.2.1,key _ _ x.2.2⟩)
 .simp_all
 simp_all
theorem V8 (T:Nat->Td L)(i:Nat)(Ti:Td L):(λj=>(bH T i Ti j).ph.proj)=bH (λj=>(T j).ph.proj) i Ti.ph.proj:=by
 funext j;by_cases h:j=i
 .subst h;simp[upd_same]
 .simp[upd_ne _ _ h]
theorem Vt (T:Nat->Td L)(i:Nat)(Ti:Td L):(λj=>(bH T i Ti j).ph)=bH (λj=>(T j).ph) i Ti.ph:=by
 funext j;by_cases h:j=i
 .subst h;simp[upd_same]
 .simp[upd_ne _ _ h]
theorem zeB {α:Type _}(f:Nat->α)(i:Nat):bH f i (f i)=f:=by
 funext j;by_cases h:j=i
 .subst h;simp[upd_same]
 .simp[upd_ne _ _ h]
variable {ch:rG}
theorem Stat.same {n:Nat}{w:aE}{T T':Nat->Td L}(h:Stat (ty:=ty) (Wg:=Wg) (A:=A) n w T ch)(hp:∀j,(T' j).ph=(T j).ph)(ht:∀j,(T' j).τ=(T j).τ):Stat (ty:=ty) (Wg:=Wg) (A:=A) n w T' ch:=by
 have e1:(λj=>(T' j).ph)=λj=>(T j).ph:=funext hp;have e2:(λj=>(T' j).ph.proj)=λj=>(T j).ph.proj:=funext λj=>by rw[hp]
 refine⟨h.n0,λi hi=>(hp i).trans (h.ou i hi),by rw[hp];exact h.role0,λi hi=>by rw[hp];exact h.role i hi,λi hi=>by rw[ht];rw[hp] at hi;exact h.nil i hi,λi j b pZ hb=>by rw[ht] at hb⊢;exact h.sep i j b pZ hb,
  λi b hb=>by rw[ht] at hb;exact h.bnd i b hb,λi b hb=>by rw[ht] at hb;exact h.pas i b hb,λi l hi=>by rw[ht];rw[hp] at hi;exact h.depo i l hi,h.chan,by rw[e1];exact h.grp,by rw[e2];exact h.inv⟩
theorem Stat.suf {n:Nat}{w w':aE}{T:Nat->Td L}(h:Stat (ty:=ty) (Wg:=Wg) (A:=A) n w T ch){i:Nat}(g:zT (T i).τ.own w w'){j:Nat}(hj:j≠i):bX ty Wg (T j).τ w w':=by
 have hl:WgLive ty Wg w->WgLive ty Wg w':=λx=>by
  obtain⟨a,b,hx⟩:=id x;exact⟨a,b,(g.keep Wg x.lt λe=>((h.bnd i Wg (.inl e)).2.1 rfl)).trans hx⟩
 refine⟨g.tape,g.os,g.output,g.size,λb hb=>g.keep b (h.bnd j b hb).1 λe=>?_,hl⟩;have:=h.sep i j b (λe=>hj e.symm) e;simp_all
theorem Stat.grow {n:Nat}{w w':aE}{T:Nat->Td L}(h:Stat (ty:=ty) (Wg:=Wg) (A:=A) n w T ch){i:Nat}(nI:(T i).ph.live)(g:zT (T i).τ.own w w')(r:Cp)(g':bC):
 Stat (ty:=ty) (Wg:=Wg) (A:=A) n w' (bH T i ⟨(T i).ph,r,(T i).τ.grow w w',g'⟩) ch:=by
 have hp:∀j,(bH T i ⟨(T i).ph,r,(T i).τ.grow w w',g'⟩ j).ph=(T j).ph:=λj=>by
  by_cases hj:j=i
  .subst hj;simp[upd_same]
  .simp[upd_ne _ _ hj]
 have e1:(λj=>(bH T i ⟨(T i).ph,r,(T i).τ.grow w w',g'⟩ j).ph)=λj=>(T j).ph:=funext hp;have e2:(λj=>(bH T i ⟨(T i).ph,r,(T i).τ.grow w w',g'⟩ j).ph.proj)=λj=>(T j).ph.proj:=funext λj=>by rw[hp]
 have hs:=g.size;have zl6:w'.heap[Wg]? =w.heap[Wg]? :=g.keep Wg h.grp.live.lt λe=>((h.bnd i Wg (.inl e)).2.1 rfl);have zGb:∀c b,ch c=some b->c<w.heap.size:=λc b hc=>by
  obtain⟨_,s,r,hh⟩:=h.chan c b hc
  grind
 refine⟨h.n0,λj hj=>(hp j).trans (h.ou j hj),by rw[hp];exact h.role0,λj hj=>by rw[hp];exact h.role j hj,λj hj b=>?_,λa j b pZ hb=>?_,λj b hb=>?_,λj b hb=>?_,λj l hj=>?_,λc b hc=>?_,by rw[e1];exact h.grp.of_block zl6,by rw[e2];exact h.inv⟩
 .rw[hp] at hj
  by_cases fD:j=i
  .subst fD;rw[hj] at nI;exact nI.elim
  .rw[upd_ne _ _ fD];exact h.nil j hj b
 .by_cases Ui:a=i
  .subst Ui
   have fD:j≠a:=λe=>pZ e.symm;rw[upd_same] at hb;rw[upd_ne _ _ fD];rcases hb with hb|⟨hb,_⟩
   .exact h.sep a j b pZ hb
   .exact⟨λe=>by have:=(h.bnd j b (.inl e)).1;omega,λe=>by have:=(h.bnd j b (.inr e)).1;omega,λe=>by have:=(h.pas j b e).1;omega⟩
  .rw[upd_ne _ _ Ui] at hb
   by_cases fD:j=i
   .subst fD
    rw[upd_same];have:=h.sep a j b pZ hb;exact⟨λe=>e.elim this.1 λx=>by have:=(h.bnd a b (.inl hb)).1;omega,this.2⟩
   .rw[upd_ne _ _ fD];exact h.sep a j b pZ hb
 .by_cases fD:j=i
  .subst fD
   rw[upd_same] at hb;rcases hb with(hb|⟨hb,bZ⟩)|hb
   .have:=h.bnd j b (.inl hb);grind
   .refine⟨bZ,λe=>by simp_all,?_⟩
    cases hc:ch b with
    |none=>rfl
    |some x=>grind
   .have:=h.bnd j b (.inr hb);grind
  .rw[upd_ne _ _ fD] at hb
   have:=h.bnd j b hb;grind
 .by_cases fD:j=i
  .subst fD
   rw[upd_same] at hb;have:=h.pas j b hb;omega
  .rw[upd_ne _ _ fD] at hb
   have:=h.pas j b hb;omega
 .rw[hp] at hj
  by_cases fD:j=i
  .subst fD
   cases yF:(T j).ph<;>rw[yF] at hj nI<;>first|exact nI.elim|simp[Ph.proj] at hj
  .rw[upd_ne _ _ fD]
   exact λaJ lK=>h.depo j l hj aJ ((h.suf g fD).trans lK)
 .obtain⟨h1,s,r,h2⟩:=h.chan c b hc
  exact⟨h1,s,r,(g.keep c (zGb c b hc) λe=>by have:=(h.bnd i c (.inl e)).2.2;rw[hc] at this;cases this).trans h2⟩
theorem Stat.phase {n:Nat}{w w':aE}{T:Nat->Td L}(h:Stat (ty:=ty) (Wg:=Wg) (A:=A) n w T ch){i:Nat}(hg:(T i).ph≠ .gone)(oQ:i<n)(a:Ld Wg w w')(ph':Ph L)(r:Cp)(g':bC)
 (yF:ph'≠ .gone) (h0:i=0->ph'.live) (h1:i≠0->¬ph'.waits) (hl:WgLive ty Wg w->WgLive ty Wg w')
 (hd:∀l,ph'.proj=.over l->(T i).ph.proj=.over l\/∀aJ,bX ty Wg (T i).τ w aJ->A.dep l aJ)
 (Bc:gM A ty Wg (bH (λj=>(T j).ph) i ph') n w') (hinv:A.Inv (bH (λj=>(T j).ph.proj) i ph'.proj) ch):
 Stat (ty:=ty) (Wg:=Wg) (A:=A) n w' (bH T i ⟨ph',r,(T i).τ,g'⟩) ch:=by
 have ht:∀j,(bH T i ⟨ph',r,(T i).τ,g'⟩ j).τ=(T j).τ:=λj=>by
  by_cases hj:j=i
  .subst hj;simp[upd_same]
  .simp[upd_ne _ _ hj]
 have sf:∀j,bX ty Wg (T j).τ w w':=λj=>bX.of_aside a ⟨λe=>(h.bnd j Wg (.inl e)).2.1 rfl,λe=>(h.bnd j Wg (.inr e)).2.1 rfl⟩ hl;have cK:=a.size;refine⟨h.n0,λj hj=>?_,?_,λj hj=>?_,λj hj b=>?_,λx j b pZ hb=>?_,λj b hb=>?_,λj b hb=>?_,λj l hj=>?_,λc b hc=>?_,by rw[Vt];exact Bc,by rw[V8];exact hinv⟩
 .have:j≠i:=aC
  rw[upd_ne _ _ this];exact h.ou j hj
 .by_cases hi:i=0
  .subst hi;rw[upd_same];exact h0 rfl
  .rw[upd_ne _ _ (Ne.symm hi)];exact h.role0
 .by_cases fD:j=i
  .subst fD;rw[upd_same];exact h1 hj
  .rw[upd_ne _ _ fD];exact h.role j hj
 .rw[ht]
  by_cases fD:j=i
  .subst fD;rw[upd_same] at hj;exact absurd hj yF
  .rw[upd_ne _ _ fD] at hj;exact h.nil j hj b
 .rw[ht] at hb⊢;exact h.sep x j b pZ hb
 .rw[ht] at hb;have:=h.bnd j b hb;exact⟨aC,this.2⟩
 .rw[ht] at hb;have:=h.pas j b hb;exact⟨aC,this.2⟩
 .rw[ht]
  by_cases fD:j=i
  .subst fD
   rw[upd_same] at hj;rcases hd l hj with x|x
   .exact λaJ lK=>h.depo j l x aJ ((sf j).trans lK)
   .exact λaJ lK=>x aJ ((sf j).trans lK)
  .rw[upd_ne _ _ fD] at hj
   exact λaJ lK=>h.depo j l hj aJ ((sf j).trans lK)
 .obtain⟨h1,s,r,h2⟩:=h.chan c b hc
  exact⟨h1,s,r,(a.block c h1).trans h2⟩
theorem Stat.close {n:Nat}{w w':aE}{T:Nat->Td L}(h:Stat (ty:=ty) (Wg:=Wg) (A:=A) n w T ch){i:Nat}(oQ:i<n){c:Nat}{x:Bool}(hc:ch c=some x)(a:Ld c w w'){l l':L}(hl:(T i).ph=.usr l)(r:Cp)(g':bC)
 (rJ:∃s r,w'.heap[c]? =some (.chan 0 #[] true s r false)) (Bc:gM A ty Wg (bH (λj=>(T j).ph) i (.usr l')) n w) (hinv:A.Inv (bH (λj=>(T j).ph.proj) i (.run l')) (bH ch c (some true))):
 Stat (ty:=ty) (Wg:=Wg) (A:=A) n w' (bH T i ⟨.usr l',r,(T i).τ,g'⟩) (bH ch c (some true)):=by
 have ht:∀j,(bH T i ⟨.usr l',r,(T i).τ,g'⟩ j).τ=(T j).τ:=λj=>by
  by_cases hj:j=i
  .subst hj;simp[upd_same]
  .simp[upd_ne _ _ hj]
 have Aa:=(h.chan c x hc).1;have nc:∀j,¬(T j).τ.own c/\¬(T j).τ.still c:=λj=>⟨λe=>(by have:=(h.bnd j c (.inl e)).2.2;rw[hc] at this;cases this),λe=>(by have:=(h.bnd j c (.inr e)).2.2;rw[hc] at this;cases this)⟩;have sf:∀j,bX ty Wg (T j).τ w w':=λj=>bX.of_aside a (nc j) (U6 a Aa);have cK:=a.size;refine⟨h.n0,λj hj=>?_,?_,λj hj=>?_,λj hj b=>?_,λx j b pZ hb=>?_,λj b hb=>?_,λj b hb=>?_,λj l hj=>?_,λc' b lG=>?_,by rw[Vt];exact Bc.of_block (a.block Wg (Ne.symm Aa)),by rw[V8];exact hinv⟩
 .have:j≠i:=aC
  rw[upd_ne _ _ this];exact h.ou j hj
 .by_cases hi:i=0
  .subst hi;rw[upd_same];trivial
  .rw[upd_ne _ _ (Ne.symm hi)];exact h.role0
 .by_cases fD:j=i
  .subst fD;rw[upd_same];exact id
  .rw[upd_ne _ _ fD];exact h.role j hj
 .rw[ht]
  by_cases fD:j=i
  .subst fD;rw[upd_same] at hj;cases hj
  .rw[upd_ne _ _ fD] at hj;exact h.nil j hj b
 .rw[ht] at hb⊢;exact h.sep x j b pZ hb
 .rw[ht] at hb
  have:=h.bnd j b hb;refine⟨aC,this.2.1,?_⟩;have aS:b≠c:=λe=>by subst e;exact hb.elim (nc j).1 (nc j).2
  rw[upd_ne _ _ aS];exact this.2.2
 .rw[ht] at hb;have:=h.pas j b hb;exact⟨aC,this.2⟩
 .rw[ht]
  by_cases fD:j=i
  .subst fD;rw[upd_same] at hj;simp[Ph.proj] at hj
  .rw[upd_ne _ _ fD] at hj
   exact λaJ lK=>h.depo j l hj aJ ((sf j).trans lK)
 .by_cases tE:c'=c
  .subst tE
   rw[upd_same] at lG;obtain⟨s,r,hw⟩:=rJ;exact⟨Aa,s,r,by rw[hw,<-cJ lG]⟩
  .rw[upd_ne _ _ tE] at lG
   obtain⟨h1,s,r,h2⟩:=h.chan c' b lG;exact⟨h1,s,r,(a.block c' tE).trans h2⟩
end
section
variable {L:Type}{P:bT}{ty:aM}{Wg:Nat}{A:jL L}{Fin:bC->aE->Prop}
theorem gM.congr {p p':Nat->Ph L}{n n':Nat}{w:aE}(h:gM A ty Wg p n w)(h0:p' 0=p 0\/∃l l',p 0=.usr l/\p' 0=.usr l')(hv:vv A p' n'=vv A p n)(hl:∀j,(p j).last\/(p' j).last->p' j=p j):gM A ty Wg p' n' w:=by
 have nl:(∀i,¬(p i).last)->∀i,¬(p' i).last:=λx i e=>x i s9;unfold gM at*;rcases h0 with h0|⟨l,l',h0,zIS⟩
 .rw[h0,hv]
  split
  all_goals(rename_i hp;simp only[hp] at h)
  .exact⟨h.1,nl h.2⟩
  .simp_all
  .simp_all
  .rcases h with⟨a,b,c⟩|⟨a,i,l,b,c⟩|⟨a,b,c⟩
   .exact .inl ⟨a,b,nl c⟩
   .have hi:(p i).last:=by rcases c with⟨c|c,_⟩|⟨c,_⟩<;>rw[c]<;>trivial
    have e:=hl i (.inl hi);refine .inr (.inl ⟨a,i,l,λj hj=>b j s9,?_⟩);rw[e];exact c
   simp_all
  .simp_all
  simp_all
 .simp_all
theorem zfo (A:jL L)(p:Nat->Ph L){i:Nat}(h:i≠0)(x:Ph L):zQ A (bH p i x)=zQ A p:=by
 unfold zQ;rw[upd_ne _ _ (Ne.symm h)]
theorem gM.usr {p:Nat->Ph L}{n:Nat}{w:aE}(h:gM A ty Wg p n w){i:Nat}{l l':L}(hi:p i=.usr l)(oQ:i<n)(zjf:A.pend l'=A.pend l):gM A ty Wg (bH p i (.usr l')) n w:=by
 refine h.congr ?_ ?_ λj hj=>?_
 .by_cases h0:i=0
  .subst h0;exact .inr ⟨l,l',hi,upd_same _ _ _⟩
  .exact .inl (upd_ne _ _ (Ne.symm h0))
 .unfold vv
  by_cases h0:i=0
  .subst h0
   rw[zd3];unfold zQ;rw[upd_same,hi];simp only[zjf]
  .rw[zfo A p h0]
   have:=zd1 p (i:=i) (n:=n) (.usr l') oQ h0;rw[hi] at this;simp only[Ph.pre,if_true] at this;omega
 .by_cases fD:j=i
  .subst fD;rw[upd_same,hi] at hj;exact(hj.elim id id).elim
  .exact upd_ne _ _ fD
variable {ch:rG}
theorem zeX {l:List Nat}{a:Nat}(h:a∈l):ch.opn l a=some false:=by simp[rG.opn,h]
theorem Wu {l:List Nat}{a:Nat}(h:a∉l):ch.opn l a=ch a:=by simp[rG.opn,h]
theorem Stat.meet {n:Nat}{w w':aE}{T:Nat->Td L}(h:Stat (ty:=ty) (Wg:=Wg) (A:=A) n w T ch){i j:Nat}(pZ:i≠j)(oQ:i<n)(Ux:j<n){c:Nat}(hc:ch c=some false)(a:Ld c w w'){li li' lj lj':L}
 (hi:(T i).ph=.usr li) (hj:(T j).ph=.usr lj) (ri rj:Cp) (gi gj:bC) (τ':cC) (pub:List Nat)
 (ho:∀b,τ'.own b->(T i).τ.own b) (aX:τ'.still=(T i).τ.still) (Q0:∀b,τ'.pass b->(T i).τ.pass b\/(T i).τ.own b)
 (Hd:∀a∈pub,(T i).τ.own a/\¬τ'.own a/\¬τ'.still a/\Jz w a) (rJ:∃s r,w'.heap[c]? =some (.chan 0 #[] false s r false))
 (zb7:A.pend li'=A.pend li) (Kn:A.pend lj'=A.pend lj) (hinv:A.Inv (bH (bH (λk=>(T k).ph.proj) i (.run li')) j (.run lj')) (ch.opn pub)):
 Stat (ty:=ty) (Wg:=Wg) (A:=A) n w' (bH (bH T i ⟨.usr li',ri,τ',gi⟩) j ⟨.usr lj',rj,(T j).τ,gj⟩) (ch.opn pub):=by
 have Aa:=(h.chan c _ hc).1;have zl6:=a.block Wg (Ne.symm Aa);have cK:=a.size;have nc:∀k,¬(T k).τ.own c/\¬(T k).τ.still c:=λk=>⟨λe=>(by have:=(h.bnd k c (.inl e)).2.2;rw[hc] at this;cases this),λe=>(by have:=(h.bnd k c (.inr e)).2.2;rw[hc] at this;cases this)⟩;have sf:∀k,bX ty Wg (T k).τ w w':=λk=>bX.of_aside a (nc k) (U6 a Aa)
 let U:=bH (bH T i ⟨.usr li',ri,τ',gi⟩) j ⟨.usr lj',rj,(T j).τ,gj⟩
 have ui:U i=⟨.usr li',ri,τ',gi⟩:=by simp only[U];rw[upd_ne _ _ pZ,upd_same]
 have uj:U j=⟨.usr lj',rj,(T j).τ,gj⟩:=by simp only[U];rw[upd_same]
 have uk:∀k,k≠i->k≠j->U k=T k:=λk h1 h2=>by simp only[U];rw[upd_ne _ _ h2,upd_ne _ _ h1]
 have own:∀k b,(U k).τ.own b->(T k).τ.own b:=λk b hb=>by
  by_cases k1:k=i
  .subst k1;rw[ui] at hb;exact ho b hb
  .by_cases k2:k=j
   .subst k2;rw[uj] at hb;exact hb
   .rw[uk k k1 k2] at hb;exact hb
 have still:∀k,(U k).τ.still=(T k).τ.still:=λk=>by
  by_cases k1:k=i
  .subst k1;rw[ui];exact aX
  .by_cases k2:k=j
   .subst k2;rw[uj]
   .rw[uk k k1 k2]
 have pass:∀k b,(U k).τ.pass b->(T k).τ.pass b\/(T k).τ.own b:=λk b hb=>by
  by_cases k1:k=i
  .subst k1;rw[ui] at hb;exact Q0 b hb
  .by_cases k2:k=j
   .subst k2;rw[uj] at hb;exact .inl hb
   .rw[uk k k1 k2] at hb;exact .inl hb
 have zkB:(λk=>(U k).ph)=bH (bH (λk=>(T k).ph) i (.usr li')) j (.usr lj'):=by simp only[U];rw[Vt,Vt]
 have zi9:(λk=>(U k).ph.proj)=bH (bH (λk=>(T k).ph.proj) i (.run li')) j (.run lj'):=by simp only[U];rw[V8,V8];rfl
 have hp:∀k,(U k).ph=(T k).ph\/(∃l,(U k).ph=.usr l):=λk=>by
  by_cases k1:k=i
  .subst k1;rw[ui];exact .inr ⟨_,rfl⟩
  .by_cases k2:k=j
   .subst k2;rw[uj];exact .inr ⟨_,rfl⟩
   .rw[uk k k1 k2];exact .inl rfl
 refine⟨h.n0,λk hk=>?_,?_,λk hk=>?_,λk hk b=>?_,λx k b fI hb=>?_,λk b hb=>?_,λk b hb=>?_,λk l hk=>?_,λc' b lG=>?_,?_,?_⟩
 .show(U k).ph=_
  rw[uk k aC aC];exact h.ou k hk
 .rcases hp 0 with e|⟨l,e⟩
  .rw[show(bH (bH T i ⟨.usr li',ri,τ',gi⟩) j ⟨.usr lj',rj,(T j).τ,gj⟩ 0).ph=(T 0).ph from e];exact h.role0
  .rw[show(bH (bH T i ⟨.usr li',ri,τ',gi⟩) j ⟨.usr lj',rj,(T j).τ,gj⟩ 0).ph=.usr l from e];trivial
 .rcases hp k with e|⟨l,e⟩
  .rw[show(bH (bH T i ⟨.usr li',ri,τ',gi⟩) j ⟨.usr lj',rj,(T j).τ,gj⟩ k).ph=(T k).ph from e];exact h.role k hk
  .rw[show(bH (bH T i ⟨.usr li',ri,τ',gi⟩) j ⟨.usr lj',rj,(T j).τ,gj⟩ k).ph=.usr l from e];exact id
 .have k1:k≠i:=λe=>by subst e;rw[show(bH (bH T k ⟨.usr li',ri,τ',gi⟩) j ⟨.usr lj',rj,(T j).τ,gj⟩ k)=_ from ui] at hk;cases hk
  have k2:k≠j:=λe=>by subst e;rw[show(bH (bH T i ⟨.usr li',ri,τ',gi⟩) k ⟨.usr lj',rj,(T k).τ,gj⟩ k)=_ from uj] at hk;cases hk
  have e:=uk k k1 k2;show ¬(U k).τ.own b/\_;rw[show(bH (bH T i ⟨.usr li',ri,τ',gi⟩) j ⟨.usr lj',rj,(T j).τ,gj⟩ k)=T k from e] at hk⊢;rw[e];exact h.nil k hk b
 .have:=h.sep x k b fI (own x b hb)
  refine⟨λe=>this.1 (own k b e),λe=>this.2.1 (by have e':(U k).τ.still b:=e;rwa [still k] at e'),λe=>(pass k b e).elim this.2.2 this.1⟩
 .have bZ:(T k).τ.own b\/(T k).τ.still b:=hb.imp (own k b) λe=>by have e':(U k).τ.still b:=e;rwa [still k] at e'
  have:=h.bnd k b bZ;refine⟨aC,this.2.1,?_⟩;have zcL:b∉pub:=λhp=>by
   obtain⟨h1,h2,h3,_⟩:=Hd b hp;by_cases k1:k=i
   .subst k1
    rcases hb with e|e
    .rw[show(bH (bH T k ⟨.usr li',ri,τ',gi⟩) j ⟨.usr lj',rj,(T j).τ,gj⟩ k)=_ from ui] at e;exact h2 e
    .rw[show(bH (bH T k ⟨.usr li',ri,τ',gi⟩) j ⟨.usr lj',rj,(T j).τ,gj⟩ k)=_ from ui] at e;exact h3 e
   .have s:=h.sep i k b (Ne.symm k1) h1
    exact bZ.elim s.1 s.2.1
  rw[Wu zcL];exact this.2.2
 .rcases pass k b hb with e|e
  .have:=h.pas k b e;exact⟨aC,this.2⟩
  .have:=h.bnd k b (.inl e);exact⟨aC,this.2.1⟩
 .by_cases k1:k=i
  .subst k1;rw[show(bH (bH T k ⟨.usr li',ri,τ',gi⟩) j ⟨.usr lj',rj,(T j).τ,gj⟩ k)=_ from ui] at hk;simp[Ph.proj] at hk
  .by_cases k2:k=j
   .subst k2;rw[show(bH (bH T i ⟨.usr li',ri,τ',gi⟩) k ⟨.usr lj',rj,(T k).τ,gj⟩ k)=_ from uj] at hk;simp[Ph.proj] at hk
   .rw[show(bH (bH T i ⟨.usr li',ri,τ',gi⟩) j ⟨.usr lj',rj,(T j).τ,gj⟩ k)=T k from uk k k1 k2] at hk⊢
    exact λaJ lK=>h.depo k l hk aJ ((sf k).trans lK)
 .by_cases nE:c'∈pub
  .obtain⟨h1,_,_,h4⟩:=Hd c' nE
   rw[zeX nE] at lG;have aS:c'≠c:=λe=>by subst e;exact(nc i).1 h1
   exact⟨(h.bnd i c' (.inl h1)).2.1,0,0,by rw[a.block c' aS,<-cJ lG];exact h4⟩
  .rw[Wu nE] at lG
   by_cases tE:c'=c
   .subst tE
    rw[hc] at lG;obtain⟨s,r,hw⟩:=rJ;exact⟨Aa,s,r,by rw[hw,<-cJ lG]⟩
   .obtain⟨h1,s,r,h2⟩:=h.chan c' b lG
    exact⟨h1,s,r,(a.block c' tE).trans h2⟩
 .show gM A ty Wg (λk=>(U k).ph) n w'
  rw[zkB];refine gM.of_block (gM.usr (l:=lj) (gM.usr (l:=li) h.grp hi oQ zb7) ?_ Ux Kn) zl6;rw[upd_ne _ _ (Ne.symm pZ)];exact hj
 .show A.Inv (λk=>(U k).ph.proj) _
  rw[zi9];exact hinv
theorem Stat.fork {n:Nat}{w:aE}{T:Nat->Td L}(h:Stat (ty:=ty) (Wg:=Wg) (A:=A) n w T ch){l lm lc:L}(hl:(T 0).ph=.usr l)(Nl:A.pend l=true)(yY:A.pend lm=false)(rm rc:Cp)(gm gc:bC)(τm τc:cC)(pub:List Nat)
 (cZ:∀b,τm.own b\/τc.own b->(T 0).τ.own b) (zKn:∀b,τm.still b\/τc.still b->(T 0).τ.still b\/(T 0).τ.own b) (zFs:∀b,τm.pass b\/τc.pass b->(T 0).τ.pass b\/(T 0).τ.own b\/(T 0).τ.still b)
 (x3:∀b,τm.own b->¬τc.own b/\¬τc.still b/\¬τc.pass b) (Ar:∀b,τc.own b->¬τm.still b/\¬τm.pass b)
 (Hd:∀a∈pub,(T 0).τ.own a/\Jz w a/\¬τm.own a/\¬τm.still a/\¬τc.own a/\¬τc.still a) (hinv:A.Inv (bH (bH (λk=>(T k).ph.proj) 0 (.run lm)) n (.run lc)) (ch.opn pub)):
 Stat (ty:=ty) (Wg:=Wg) (A:=A) (n+1) w (bH (bH T 0 ⟨.usr lm,rm,τm,gm⟩) n ⟨.usr lc,rc,τc,gc⟩) (ch.opn pub):=by
 have hn:=h.n0;have zaz:(T n).ph=.gone:=h.ou n (bN _);have nn:=h.nil n zaz;generalize hU:bH (bH T 0 ⟨.usr lm,rm,τm,gm⟩) n ⟨.usr lc,rc,τc,gc⟩=U;have u0:U 0=⟨.usr lm,rm,τm,gm⟩:=by rw[<-hU,upd_ne _ _ aC,upd_same]
 have un:U n=⟨.usr lc,rc,τc,gc⟩:=by rw[<-hU,upd_same]
 have uk:∀k,k≠0->k≠n->U k=T k:=λk h1 h2=>by rw[<-hU,upd_ne _ _ h2,upd_ne _ _ h1]
 have own:∀k b,(U k).τ.own b->(T k).τ.own b\/(k=n/\(T 0).τ.own b):=λk b hb=>by grind
 have zkB:(λk=>(U k).ph)=bH (bH (λk=>(T k).ph) 0 (.usr lm)) n (.usr lc):=by rw[<-hU,Vt,Vt]
 have zi9:(λk=>(U k).ph.proj)=bH (bH (λk=>(T k).ph.proj) 0 (.run lm)) n (.run lc):=by rw[<-hU,V8,V8];rfl
 have sub:∀k b,(U k).τ.own b\/(U k).τ.still b\/(U k).τ.pass b->k=0\/k=n\/(k≠0/\k≠n):=λk b _=>by omega
 refine⟨aC,λk hk=>?_,by rw[u0];trivial,λk hk=>?_,λk hk b=>?_,λx k b fI hb=>?_,λk b hb=>?_,λk b hb=>?_,λk l' hk=>?_,λc' b lG=>?_,?_,by rw[zi9];exact hinv⟩
 .rw[uk k aC aC];exact h.ou k aC
 .by_cases k2:k=n
  .subst k2;rw[un];exact id
  .rw[uk k hk k2];exact h.role k hk
 .have k1:k≠0:=λe=>by simp_all
  have k2:k≠n:=λe=>by simp_all
  rw[uk k k1 k2] at hk⊢;exact h.nil k hk b
 .by_cases x1:x=0
  .subst x1
   rw[u0] at hb;have ho:=cZ b (.inl hb);by_cases k2:k=n
   .simp_all
   .rw[uk k (Ne.symm fI) k2];exact h.sep 0 k b fI ho
  .by_cases x2:x=n
   .subst x2
    rw[un] at hb;have ho:=cZ b (.inr hb);by_cases k1:k=0
    .grind
    .rw[uk k k1 (Ne.symm fI)];exact h.sep 0 k b (Ne.symm k1) ho
   .rw[uk x x1 x2] at hb
    have s0:=h.sep x 0 b x1 hb;by_cases k1:k=0
    .grind
    .by_cases k2:k=n
     .grind
     .rw[uk k k1 k2];exact h.sep x k b fI hb
 .have key:(∃j,(T j).τ.own b\/(T j).τ.still b)/\b∉pub:=by
   by_cases k1:k=0
   .grind
   .by_cases k2:k=n
    .grind
    .rw[uk k k1 k2] at hb
     refine⟨⟨k,hb⟩,λhp=>?_⟩;have:=h.sep 0 k b (Ne.symm k1) (Hd b hp).1;simp_all
  obtain⟨⟨j,hj⟩,zcL⟩:=key;have:=h.bnd j b hj;exact⟨this.1,this.2.1,by rw[Wu zcL];exact this.2.2⟩
 .have key:∃j,(T j).τ.pass b\/(T j).τ.own b\/(T j).τ.still b:=by
   by_cases k1:k=0
   .subst k1;rw[u0] at hb;exact⟨0,zFs b (.inl hb)⟩
   .grind
  obtain⟨j,hj|hj⟩:=key
  .exact h.pas j b hj
  .have:=h.bnd j b hj;omega
 .have k1:k≠0:=λe=>by subst e;rw[u0] at hk;simp[Ph.proj] at hk
  have k2:k≠n:=λe=>by subst e;rw[un] at hk;simp[Ph.proj] at hk
  rw[uk k k1 k2] at hk⊢;exact h.depo k l' hk
 .by_cases nE:c'∈pub
  .rw[zeX nE] at lG
   obtain⟨h1,h2,_⟩:=Hd c' nE;exact⟨(h.bnd 0 c' (.inl h1)).2.1,0,0,by rw[<-cJ lG];exact h2⟩
  .rw[Wu nE] at lG;exact h.chan c' b lG
 .rw[zkB]
  refine h.grp.congr (.inr ⟨l,lm,hl,by grind⟩) ?_ λj hj=>?_
  .unfold vv
   have e1:oT (bH (bH (λk=>(T k).ph) 0 (.usr lm)) n (.usr lc)) (n+1)=oT (λk=>(T k).ph) n+1:=by
    simp only[oT];rw[zrO _ _ (bN n),zd3,upd_same];simp[Ph.pre];omega
   have e2:zQ A (bH (bH (λk=>(T k).ph) 0 (.usr lm)) n (.usr lc))=0:=by
    unfold zQ;rw[upd_ne _ _ aC,upd_same];simp[yY]
   have e3:zQ A (λk=>(T k).ph)=1:=by
    unfold zQ;simp only[hl,Nl,if_true]
   omega
  .by_cases j1:j=0
   .subst j1;rw[upd_ne _ _ aC,upd_same] at hj
    have:((T 0).ph).last\/False:=hj;rw[hl] at this;exact(this.elim id id).elim
   .by_cases j2:j=n
    .subst j2;rw[upd_same] at hj
     have:((T j).ph).last\/False:=hj;rw[zaz] at this;exact(this.elim id id).elim
    grind
end
section
variable {L:Type}(P:bT)(ty:aM)(Wg:Nat)(A:jL L)(Fin:bC->aE->Prop)(Shun:Loc->Prop)
structure Inv (gs:Array bC)(w:aE)(t:l6)(T:Nat->Td L)(ch:rG):Prop where
 st:Stat (ty:=ty) (Wg:=Wg) (A:=A) gs.size w T ch
 dy:Ev (P:=P) (ty:=ty) (Wg:=Wg) (A:=A) (Fin:=Fin) gs w t T ch Shun
def Oo (m:za3)(t:l6):Prop:=
 ∃gs a w sl q,m=crowd gs w sl/\gs[0]? =some a/\a.status=.running/\Fin a w/\Leavers P t gs q/\Past (λl=>Shun l\/nJ l Wg) w.heap.size t
def vP (gs:Array bC)(w:aE)(t:l6)(T:Nat->Td L)(sl:Option (Nat×Nat))(i:Nat):Prop:=
 ∃m' ops,runT P (crowd gs w sl) i=(.next m',ops)/\
  (Oo P Wg Fin Shun m' (t++ops)\/∃gs' w' Md T' vH,m'=crowd gs' w' Md/\Inv P ty Wg A Fin Shun gs' w' (t++ops) T' vH/\Mu.lt (mu gs' T') (mu gs T))
end
section
variable {L:Type}{P:bT}{ty:aM}{Wg:Nat}{A:jL L}{Fin:bC->aE->Prop}{Shun:Loc->Prop}
variable {gs:Array bC}{w w':aE}{t:l6}{T:Nat->Td L}{ch vH:rG}{sl:Option (Nat×Nat)}{i j:Nat}{x g':bC}{es:Array oR}
def zu4 (τ:cC)(w:aE)(d:Nat):bX ty Wg τ w (w.at d):=⟨rfl,rfl,rfl,bN _,λ_ _=>rfl,id⟩
def Inv.at (h:Inv P ty Wg A Fin Shun gs w t T ch)(d:Nat):Inv P ty Wg A Fin Shun gs (w.at d) t T ch:=
 ⟨
  ⟨h.st.n0,h.st.ou,h.st.role0,h.st.role,h.st.nil,h.st.sep,h.st.bnd,h.st.pas,λi l hi aJ s=>h.st.depo i l hi aJ ((zu4 _ w d).trans s),h.st.chan,h.st.grp.of_block rfl,h.st.inv⟩,
  ⟨λi x hi=>(h.dy.sit i x hi).rely (zu4 _ w d),h.dy.slp,h.dy.slpC,h.dy.slpW,h.dy.tr⟩⟩
theorem zm0 {p:Nat->Ph L}(h:∀j,j≠0->(p j).pre=false):∀n,oT p n=0
 |0=>rfl
 |n+1=>by
  simp only[oT,zm0 h n];simp_all
theorem Inv.some1 (hA:A.Ok)(h:Inv P ty Wg A Fin Shun gs w t T ch):∃(i:Nat) (g:bC),gs[i]? =some g/\g.status=.running:=by
 refine zU λfG=>?_;have hn:∀(i:Nat) (g:bC),gs[i]? =some g->g.status≠ .running:=λi g hg e=>fG ⟨i,g,hg,e⟩;have zhJ:∀i l,(T i).ph=.usr l->∃g,gs[i]? =some g/\zdL P ty Wg A (i==0) (T i) g w:=by
  intro i l hl;have aU:i<gs.size:=by
   rcases uE i gs.size with x|x
   .exact x
   .have:=h.st.ou i x;simp_all
  refine⟨gs[i],qA aU,?_⟩;have hs:=h.dy.sit i _ (qA aU);rw[pP zmY] at hs;obtain⟨r,_,_,hx|hx|hx⟩:=hs
  .exact absurd hx.1 (hn i _ (qA aU))
  .exact hx
  .have:=hx.1;simp_all
 have Kn:∀i l,(T i).ph.proj=.run l->(T i).ph=.usr l:=by
  intro i l hi;cases yF:(T i).ph<;>rw[yF] at hi<;>simp[Ph.proj] at hi;rw[hi]
 have zAe:∀i l c ok pub nx,(T i).ph=.usr l->A.act l=.send c ok pub nx->∃g v z sh,gs[i]? =some (parked g #[scase c v z] sh):=by
  intro i l c ok pub nx hl ha;obtain⟨g,hg,l',cs,sh,h1,rfl,_,h4|h4⟩:=zhJ i l hl
  .grind
  .simp_all
 have zFP:∀i l c ok nx s,(T i).ph=.usr l->A.act l=.recv c ok nx s->∃g z sh,gs[i]? =some (parked g #[rcase c z] sh):=by
  intro i l c ok nx s hl ha;obtain⟨g,hg,l',cs,sh,h1,rfl,_,h4|h4⟩:=zhJ i l hl
  .simp_all
  .grind
 have hb:∀i l,(T i).ph.proj=.run l->A.Blocked (λi=>(T i).ph.proj) ch l:=by
  intro i l hi;have hl:=Kn i l hi;obtain⟨g,hg,l',cs,sh,h1,rfl,_,h4⟩:=zhJ i l hl;rw[hl] at h1;injection h1 with h1;subst h1;unfold jL.Blocked;rcases h4 with⟨c,ok,pub,nx,v,z,h5,h6,_⟩|⟨c,ok,nx,s,z,b,h5,h6,_⟩
  .rw[h5]
   rintro⟨j,l',rL,pL,xL,hj,qG⟩;obtain⟨gj,zj,zDr,zcy⟩:=zFP j l' c rL pL xL (Kn j l' hj) qG;subst h6;exact h.dy.slp i j _ _ _ _ _ _ _ _ hg zcy
  .rw[h5]
   subst h6;refine⟨?_,?_⟩
   .obtain⟨b',bZ⟩:=hA.recvC _ ch i l c ok nx s h.st.inv hi h5
    cases b'
    .exact bZ
    .exact absurd bZ (h.dy.slpC i _ _ _ _ hg)
   .rintro⟨j,l',rL,U0,pL,hj,qG⟩
    obtain⟨gj,vj,zj,zDr,zcy⟩:=zAe j l' c rL U0 pL (Kn j l' hj) qG;exact h.dy.slp j i _ _ _ _ _ _ _ _ zcy hg
 obtain⟨K5,Dv⟩:=hA.prog _ ch h.st.inv hb;have hq:∀j,j≠0->(T j).ph.leaves:=by
  intro j hj;refine zU λhl=>?_;have aU:j<gs.size:=by
   rcases uE j gs.size with x|x
   .exact x
   .exact absurd (by rw[h.st.ou j x];trivial) hl
  have hs:=h.dy.sit j _ (qA aU);rw[pP hl] at hs;obtain⟨r,_,_,hx|hx|hx⟩:=hs
  .exact hn j _ (qA aU) hx.1
  .obtain⟨l,_,_,h1,_⟩:=hx
   exact Dv j l (by show(T j).ph.proj=_;rw[h1];rfl)
  .have:=h.st.role j hj;rw[hx.1] at this;exact this trivial
 have h0:=h.dy.sit 0 _ (qA h.st.n0);have zkb:¬(T 0).ph.leaves:=λe=>by
  have:=h.st.role0;cases hp:(T 0).ph<;>rw[hp] at e this<;>first|exact e.elim|exact this.elim
 rw[pP zkb] at h0;obtain⟨r,_,_,hx|hx|hx⟩:=h0
 .exact hn 0 _ (qA h.st.n0) hx.1
 .obtain⟨l,_,_,h1,_⟩:=hx
  have:(T 0).ph.proj=.waits:=K5;rw[h1] at this;cases this
 .have hg:=h.st.grp
  unfold gM at hg;simp only[hx.1] at hg;have zHz:∀i,¬(T i).ph.last:=λi e=>by
   by_cases hi:i=0
   .subst hi;rw[hx.1] at e;exact e
   .have:=hq i hi
    cases hp:(T i).ph<;>rw[hp] at e this<;>first|exact e.elim|exact this.elim
  have hv:vv A (λi=>(T i).ph) gs.size=0:=by
   unfold vv zQ;simp only[hx.1,Nat.add_zero];refine zm0 (λj hj=>?_) _;have:=hq j hj;cases hp:(T j).ph<;>rw[hp] at this<;>first|exact this.elim|rfl
  rcases hg with⟨a,_⟩|⟨_,i,l,_,hc⟩|⟨_,_,hc⟩
  .omega
  .refine zHz i ?_
   rcases hc with⟨c|c,_⟩|⟨c,_⟩<;>rw[c]<;>trivial
  .exact h.dy.slpW _ (qA h.st.n0) hx.1 (by rw[hx.2.1]) hc
theorem Inv.awake (h:Inv P ty Wg A Fin Shun gs w t T ch):∀g∈gs,Conc.awake g:=by
 intro g hg;obtain⟨i,hi,rfl⟩:=Array.mem_iff_getElem.1 hg;have:=(h.dy.sit i _ (qA hi)).status;intro t e;simp_all
theorem Zc (hi:gs[i]? =some x)(hn:0<gs.size){Ti:Td L}(vB:stepG P (i==0) x w=.go g' w' es)(hr:Cl Ti.r (T i).r)
 (hS:Stat (ty:=ty) (Wg:=Wg) (A:=A) gs.size w' (bH T i Ti) vH)
 (hD:Ev (P:=P) (ty:=ty) (Wg:=Wg) (A:=A) (Fin:=Fin) ((gs.map (woken P x g' w')).setIfInBounds i g') w' (t++wK i x.frame.fn x.frame.place es) (bH T i Ti) vH Shun):vP P ty Wg A Fin Shun gs w t T sl i:=by
 have aU:=(eE.1 hi).1;have cK:((gs.map (woken P x g' w')).setIfInBounds i g').size=gs.size:=aQ;refine⟨_,_,Ye hi vB,.inr ⟨_,_,sl,bH T i Ti,vH,rfl,⟨by rw[cK];exact hS,hD⟩,Wq (i:=i) (λ_=>cK) aC aU aC (by rw[upd_same];exact hr) λj hj=>by rw[upd_ne _ _ aC]⟩⟩
theorem Stat.tiEvents {n:Nat}(hS:Stat (ty:=ty) (Wg:=Wg) (A:=A) n w T ch)(oQ:i<n)(hl:(T i).ph.live)(fn:aN)(pos:String)
 (h:TI Wg n (λk=>(T k).τ.own) (λk b=>(T k).τ.still b\/(T k).τ.pass b) (λk=>(T k).ph.live) Shun w.heap.size t)
 (yC:∀e∈es,OkL Wg (T i).τ.own (λb=>(T i).τ.still b\/(T i).τ.pass b) i w.heap.size e):
 TI Wg n (λk=>(T k).τ.own) (λk b=>(T k).τ.still b\/(T k).τ.pass b) (λk=>(T k).ph.live) Shun w.heap.size (t++wK i fn pos es):=by
 obtain⟨l⟩:=es;refine TI.events (live:=λk=>(T k).ph.live) (k:=i) hl oQ (λk' b _ aS hb=>?_) (λk' b _ aS hb ho=>?_) (λk' _=>⟨λe=>(hS.bnd k' Wg (.inl e)).2.1 rfl,λe=>e.elim (λe=>(hS.bnd k' Wg (.inr e)).2.1 rfl) λe=>(hS.pas k' Wg e).2 rfl⟩) fn pos l h λe he=>yC e (by simpa using he)
 .have:=hS.sep i k' b (Ne.symm aS) hb
  simp_all
 .have:=hS.sep k' i b aS ho
  simp_all
def Stat.noWg {n:Nat}(hS:Stat (ty:=ty) (Wg:=Wg) (A:=A) n w T ch):∀k',(T k').ph.live->¬(T k').τ.own Wg/\¬((T k').τ.still Wg\/(T k').τ.pass Wg):=
 λk' _=>⟨λe=>(hS.bnd k' Wg (.inl e)).2.1 rfl,λe=>e.elim (λe=>(hS.bnd k' Wg (.inr e)).2.1 rfl) λe=>(hS.pas k' Wg e).2 rfl⟩
def Ev.keepC (h:Ev (P:=P) (ty:=ty) (Wg:=Wg) (A:=A) (Fin:=Fin) gs w t T ch Shun):∀(j:Nat) (gj:bC) (c:Nat) (z:aF) (sh:No),gs[j]? =some (parked gj #[rcase c z] sh)->woken P x g' w' (parked gj #[rcase c z] sh)=parked gj #[rcase c z] sh->ch c≠some true:=
 λj gj c z sh hj _=>h.slpC j gj c z sh hj
def Ev.keepW (h:Ev (P:=P) (ty:=ty) (Wg:=Wg) (A:=A) (Fin:=Fin) gs w t T ch Shun)(e:fQ ty Wg w' 0 1->fQ ty Wg w 0 1):i≠0->∀x0,gs[0]? =some x0->(T 0).ph=.w3->x0.status=.blocked->(woken P x g' w' x0).status=.blocked->¬fQ ty Wg w' 0 1:=
 λ_ x0 h0 h1 h2 _ h4=>h.slpW x0 h0 h1 h2 (e h4)
theorem Inv.leaver (h:Inv P ty Wg A Fin Shun gs w t T ch)(hi:gs[i]? =some x)(cH:x.status=.running)(hl:(T i).ph.leaves):vP P ty Wg A Fin Shun gs w t T sl i:=by
 have hs:=h.dy.sit i x hi;rw[Hm hl] at hs;obtain⟨q,hq,hQ⟩:=hs;have fH:i≠0:=λe=>by
  subst e;have:=h.st.role0;cases hp:(T 0).ph<;>rw[hp] at hl this<;>first|exact hl.elim|exact this.elim
 have aU:i<gs.size:=(eE.1 hi).1
 cases q with
 |zero=>rw[hQ.1] at cH;cases cH
 |succ k=>
  rcases hQ with⟨hf,_⟩|⟨_,g',es,hm,aX,hQ'⟩
  .simp_all
  have vB:stepG P (i==0) x w=.go g' w es:=by
   have:(i==0)=false:=by simpa using fH
   rw[this];exact aX w
  have hp:∀j,(bH T i ⟨(T i).ph,.inl k,(T i).τ,g'⟩ j).ph=(T j).ph:=λj=>by
   by_cases hj:j=i
   .subst hj;simp[upd_same]
   .simp[upd_ne _ _ hj]
  have ht:∀j,(bH T i ⟨(T i).ph,.inl k,(T i).τ,g'⟩ j).τ=(T j).τ:=λj=>by
   by_cases hj:j=i
   .subst hj;simp[upd_same]
   .simp[upd_ne _ _ hj]
  refine Zc hi h.st.n0 (Ti:=⟨(T i).ph,.inl k,(T i).τ,g'⟩) vB (by rw[hq];exact .inl (Nat.lt_succ_self k)) (h.st.same hp ht) ?_;refine h.dy.go hi ((Hm (T:=⟨(T i).ph,.inl k,(T i).τ,g'⟩) hl).2 ⟨k,rfl,hQ'⟩) (by rcases hQ'.status with e|e<;>rw[e]<;>simp) (λj _=>bX.refl) h.dy.keepC (h.dy.keepW id) ?_;have e1:(λk'=>(bH T i ⟨(T i).ph,.inl k,(T i).τ,g'⟩ k').τ.own)=λk'=>(T k').τ.own:=funext λj=>by rw[ht]
  have e2:(λk' b=>(bH T i ⟨(T i).ph,.inl k,(T i).τ,g'⟩ k').τ.still b\/(bH T i ⟨(T i).ph,.inl k,(T i).τ,g'⟩ k').τ.pass b)=λk' b=>(T k').τ.still b\/(T k').τ.pass b:=funext λj=>by rw[ht]
  have e3:(λk'=>(bH T i ⟨(T i).ph,.inl k,(T i).τ,g'⟩ k').ph.live)=λk'=>(T k').ph.live:=funext λj=>by rw[hp]
  rw[e1,e2,e3];exact h.dy.tr.mutes aU h.st.noWg _ _ hm
theorem Inv.ownG {K:Bool->Ph L->Nat->cC->bC->aE->Prop}(h:Inv P ty Wg A Fin Shun gs w t T ch)(hi:gs[i]? =some x)(dK:l8 x (T i).g)(hl:(T i).ph.live){ι:Type}{f:ι->Rk}(hr:(T i).r=.inr (.mk ι f))
 (hK:∀m ph d τ g w,K m ph d τ g w->∃k,oU P ty Wg A Fin (f k) m ph d τ g w) (ho:GoG P Wg K (i==0) (T i).ph (gX t i) (T i).τ (T i).g w):vP P ty Wg A Fin Shun gs w t T sl i:=by
 have aU:i<gs.size:=(eE.1 hi).1;obtain⟨g',w',es,aX,mI,hg,yC,hk⟩:=ho;obtain⟨k,hB⟩:=hK _ _ _ _ _ _ hk;have o9:¬(T i).ph.leaves:=λe=>by cases hp:(T i).ph<;>rw[hp] at e hl<;>first|exact e.elim|exact hl.elim
 have hS:=h.st.grow hl hg (.inr (f k)) g';refine Zc hi h.st.n0 (Ti:=⟨(T i).ph,.inr (f k),(T i).τ.grow w w',g'⟩) zcw Pw hS ?_
 refine h.dy.go hi ((pP (T:=⟨(T i).ph,.inr (f k),(T i).τ.grow w w',g'⟩) o9).2 ⟨f k,rfl,hB,.inl (l8.self mI)⟩) Kd (λj hj=>h.st.suf hg hj) h.dy.keepC
  (h.dy.keepW λe=>(hg.keep Wg h.st.grp.live.lt λe=>((h.st.bnd i Wg (.inl e)).2.1 rfl)).symm.trans e) ?_
 have hp:∀j,(bH T i ⟨(T i).ph,.inr (f k),(T i).τ.grow w w',g'⟩ j).ph=(T j).ph:=λj=>by
  by_cases hj:j=i
  .subst hj;simp[upd_same]
  .simp[upd_ne _ _ hj]
 have O3:bH T i ⟨(T i).ph,.inr (f k),(T i).τ.grow w w',g'⟩ i=⟨(T i).ph,.inr (f k),(T i).τ.grow w w',g'⟩:=upd_same _ _ _;refine hS.tiEvents aU (by rw[hp];exact hl) _ _ ?_ λe he=>?_
 .have e3:(λk'=>(bH T i ⟨(T i).ph,.inr (f k),(T i).τ.grow w w',g'⟩ k').ph.live)=λk'=>(T k').ph.live:=funext λj=>by rw[hp]
  rw[e3];refine h.dy.tr.less (λk' b _ hb=>?_) (λk' b _ hb=>?_) hg.size
  .by_cases hj:k'=i
   .subst hj;rw[upd_same] at hb;exact hb.imp id (·.1)
   .rw[upd_ne _ _ hj] at hb;exact .inl hb
  .by_cases hj:k'=i
   .subst hj;rw[upd_same] at hb;exact .inl hb
   .rw[upd_ne _ _ hj] at hb;exact .inl hb
 .rw[O3]
  refine okL_evT (yC e he) (λb hb=>.inl hb) (λb hb=>?_) (by have:=h.st.grp.live.lt;have:=hg.size;omega);have:=hS.bnd i b (by rw[O3];exact hb);omega
end
section
variable {L:Type}{P:bT}{ty:aM}{Wg:Nat}{A:jL L}{Fin:bC->aE->Prop}{Shun:Loc->Prop}
variable {gs:Array bC}{w w':aE}{t:l6}{T:Nat->Td L}{ch vH:rG}{sl:Option (Nat×Nat)}{i j:Nat}{x g':bC}{es:Array oR}
theorem zg4 (T:Nat->Td L)(i:Nat)(ph':Ph L)(r:Cp)(g':bC)(j:Nat):(bH T i ⟨ph',r,(T i).τ,g'⟩ j).τ=(T j).τ:=by
 by_cases hj:j=i
 .subst hj;simp[upd_same]
 .simp[upd_ne _ _ hj]
theorem zDK (T:Nat->Td L)(i:Nat){ph':Ph L}(r:Cp)(τ:cC)(g':bC)(h:ph'.live↔(T i).ph.live):(λk=>(bH T i ⟨ph',r,τ,g'⟩ k).ph.live)=λk=>(T k).ph.live:=by
 funext j;by_cases hj:j=i
 .subst hj;simp[upd_same,h]
 .simp[upd_ne _ _ hj]
theorem TI.phase {n B:Nat}{ph':Ph L}(r:Cp)(g':bC)(h:TI Wg n (λk=>(T k).τ.own) (λk b=>(T k).τ.still b\/(T k).τ.pass b) (λk=>(T k).ph.live) Shun B t)(hl:ph'.live↔(T i).ph.live):
 TI Wg n (λk=>(bH T i ⟨ph',r,(T i).τ,g'⟩ k).τ.own) (λk b=>(bH T i ⟨ph',r,(T i).τ,g'⟩ k).τ.still b\/(bH T i ⟨ph',r,(T i).τ,g'⟩ k).τ.pass b) (λk=>(bH T i ⟨ph',r,(T i).τ,g'⟩ k).ph.live) Shun B t:=by
 have e1:(λk'=>(bH T i ⟨ph',r,(T i).τ,g'⟩ k').τ.own)=λk'=>(T k').τ.own:=funext λj=>by rw[zg4]
 have e2:(λk' b=>(bH T i ⟨ph',r,(T i).τ,g'⟩ k').τ.still b\/(bH T i ⟨ph',r,(T i).τ,g'⟩ k').τ.pass b)=λk' b=>(T k').τ.still b\/(T k').τ.pass b:=funext λj=>by rw[zg4]
 rw[e1,e2,zDK T i r _ g' hl];exact h
theorem Inv.alive (h:Inv P ty Wg A Fin Shun gs w t T ch)(hi:gs[i]? =some x)(dK:l8 x (T i).g)(aX:stepG P (i==0) (T i).g w=.go g' w' es)(mI:g'.status=.running){ι:Type}{f:ι->Rk}(hr:(T i).r=.inr (.mk ι f))
 (hl:(T i).ph.live) {ph':Ph L} (Gn:ph'.live) (a:Ld Wg w w') (Qf:WgLive ty Wg w->WgLive ty Wg w')
 (hK:∃k,oU P ty Wg A Fin (f k) (i==0) ph' (n9 (gX t i) es) (T i).τ g' w') (h1:i≠0->¬ph'.waits)
 (Bc:gM A ty Wg (bH (λj=>(T j).ph) i ph') gs.size w') (hinv:A.Inv (bH (λj=>(T j).ph.proj) i ph'.proj) ch) (hW:fQ ty Wg w' 0 1->fQ ty Wg w 0 1)
 (yC:∀e∈es,OkL Wg (T i).τ.own (λb=>(T i).τ.still b\/(T i).τ.pass b) i w'.heap.size e):vP P ty Wg A Fin Shun gs w t T sl i:=by
 have aU:i<gs.size:=(eE.1 hi).1;obtain⟨k,hB⟩:=hK;have o9:¬ph'.leaves:=λe=>by cases ph'<;>first|exact e.elim|exact Gn.elim
 have Be:(T i).ph≠ .gone:=λe=>by rw[e] at hl;exact hl
 have hS:=h.st.phase (r:=.inr (f k)) (g':=g') Be aU a ph' (λe=>by rw[e] at Gn;exact Gn) (λ_=>Gn) h1 Qf (λl e=>by cases ph'<;>simp_all [Ph.proj,Ph.live]) Bc hinv;have O3:bH T i ⟨ph',.inr (f k),(T i).τ,g'⟩ i=⟨ph',.inr (f k),(T i).τ,g'⟩:=upd_same _ _ _;refine Zc hi h.st.n0 (Ti:=⟨ph',.inr (f k),(T i).τ,g'⟩) zcw Pw hS ?_
 refine h.dy.go hi ((pP (T:=⟨ph',.inr (f k),(T i).τ,g'⟩) o9).2 ⟨f k,rfl,hB,.inl (l8.self mI)⟩) Kd
  (λj _=>bX.of_aside a ⟨λe=>(h.st.bnd j Wg (.inl e)).2.1 rfl,λe=>(h.st.bnd j Wg (.inr e)).2.1 rfl⟩ Qf) h.dy.keepC (h.dy.keepW hW) ?_
 refine hS.tiEvents aU (by rw[O3];exact Gn) _ _ ?_ λe he=>?_
 .have:=h.dy.tr.phase (i:=i) (ph':=ph') (.inr (f k)) g' ⟨λ_=>hl,λ_=>Gn⟩
  rwa [a.size]
 .rw[O3];exact yC e he
theorem Inv.dead (h:Inv P ty Wg A Fin Shun gs w t T ch)(hi:gs[i]? =some x)(dK:l8 x (T i).g)(aX:stepG P (i==0) (T i).g w=.go g' w' es)(nX:g'.status≠ .blocked){Ti:Td L}(hr:Cl Ti.r (T i).r)(hτ:Ti.τ=(T i).τ)
 (hl:¬(T i).ph.live) (hg:(T i).ph≠ .gone) (h0:i≠0) (Gn:¬Ti.ph.live) (yD:Ti.ph≠ .gone) (a:Ld Wg w w') (Qf:WgLive ty Wg w->WgLive ty Wg w')
 (zim:Sits P ty Wg A Fin i Ti (n9 (gX t i) es) g' w') (zc9:Ti.ph.proj=(T i).ph.proj)
 (Bc:gM A ty Wg (bH (λj=>(T j).ph) i Ti.ph) gs.size w') (hW:(mayWake P (T i).g=true/\g'.status=.running)\/(fQ ty Wg w' 0 1->fQ ty Wg w 0 1))
 (yC:∀(l r:List oR) (e:oR),es.toList=l++e::r->(∀a,(jF e).touch? =some a->nJ a.loc Wg/\a.kind=.atomic/\0<n9 (gX t i) l.toArray)/\jF e≠ .mark (.release (stA Wg))/\(jF e).low w'.heap.size):vP P ty Wg A Fin Shun gs w t T sl i:=by
 have aU:=(eE.1 hi).1;obtain⟨ph',r',τ',Uo⟩:=Ti;simp only at hτ Gn yD zc9 Bc hr;subst hτ;have Kn:bH (λj=>(T j).ph.proj) i ph'.proj=λj=>(T j).ph.proj:=by rw[zc9];exact zeB (λj=>(T j).ph.proj) i
 have hS:=h.st.phase (r:=r') (g':=Uo) hg aU a ph' yD (λe=>absurd e h0) (λ_ e=>by cases ph'<;>first|exact e.elim|exact Gn e) Qf (λl e=>.inl (by rw[<-zc9];exact e)) Bc (by rw[Kn];exact h.st.inv);refine Zc hi h.st.n0 (Ti:=⟨ph',r',(T i).τ,Uo⟩) zcw hr hS ?_
 refine h.dy.go hi zim nX
  (λj _=>bX.of_aside a ⟨λe=>(h.st.bnd j Wg (.inl e)).2.1 rfl,λe=>(h.st.bnd j Wg (.inr e)).2.1 rfl⟩ Qf) h.dy.keepC ?_ ?_
 .intro fH x0 sH yF hb cN
  rcases hW with⟨hm,y4⟩|hW
  .exfalso
   have hs:=h.dy.sit 0 x0 sH;rw[pP (by rw[yF];exact id)] at hs;obtain⟨_,_,_,hx|⟨_,_,_,hx,_⟩|⟨_,hx,ho⟩⟩:=hs
   .rw[hx.1] at hb;cases hb
   .rw[yF] at hx;cases hx
   .have zfh:mayWake P x=true:=by
     rw[<-hm];unfold mayWake;rw[dK.2.1]
    rw[hx] at cN;unfold woken at cN;rw[zfh,y4] at cN;simp[zfK,ho] at cN
  .exact h.dy.slpW x0 sH yF hb∘hW
 .have h1:=h.dy.tr.phase (i:=i) (ph':=ph') r' Uo ⟨λe=>absurd e Gn,λe=>absurd e hl⟩
  have h2:TI Wg gs.size (λk=>(bH T i ⟨ph',r',(T i).τ,Uo⟩ k).τ.own) (λk b=>(bH T i ⟨ph',r',(T i).τ,Uo⟩ k).τ.still b\/(bH T i ⟨ph',r',(T i).τ,Uo⟩ k).τ.pass b) (λk=>(bH T i ⟨ph',r',(T i).τ,Uo⟩ k).ph.live) Shun w'.heap.size t:=by rwa [a.size]
  have:=h2.deafs (k:=i) aU hS.noWg x.frame.fn x.frame.place es.toList yC;simpa using this
theorem zqK {n B d:Nat}{es:Array oR}(hm:∀e∈es,zfH e=true):∀(l r:List oR) (e:oR),es.toList=l++e::r->(∀a,(jF e).touch? =some a->nJ a.loc Wg/\a.kind=.atomic/\0<n9 d l.toArray)/\jF e≠ .mark (.release (stA Wg))/\(jF e).low B:=by
 intro l r e he;have zfP:=hm e (by rw[<-Array.mem_toList_iff,he];simp);have:=zdx (Wg:=Wg) (own:=λ_=>False) (pas:=λ_=>False) (k:=0) (B:=B) zfP;exact⟨λa ha=>(by rw[zku zfP] at ha;cases ha),this.2.1,this.2.2⟩
theorem Inv.idle1 {K:Bool->Ph L->Nat->cC->bC->aE->Prop}(h:Inv P ty Wg A Fin Shun gs w t T ch)(hi:gs[i]? =some x)(dK:l8 x (T i).g)(hl:¬(T i).ph.live)(o9:¬(T i).ph.leaves){ι:Type}{f:ι->Rk}(hr:(T i).r=.inr (.mk ι f))
 (hK:∀m ph d τ g w,K m ph d τ g w->∃k,oU P ty Wg A Fin (f k) m ph d τ g w) (ho:Z9 P ty Wg K (i==0) (T i).ph (gX t i) (T i).τ (T i).g w):vP P ty Wg A Fin Shun gs w t T sl i:=by
 obtain⟨g',es,aX,mI,hm,hk⟩:=ho w bX.refl;obtain⟨k,hB⟩:=hK _ _ _ _ _ _ hk;have h0:i≠0:=λe=>by subst e;exact hl h.st.role0
 have Be:(T i).ph≠ .gone:=λe=>by rw[e] at o9;exact o9 trivial
 have eu:=zeB (λj=>(T j).ph) i
 exact h.dead hi dK aX Kd (Ti:=⟨(T i).ph,.inr (f k),(T i).τ,g'⟩) Pw rfl hl Be h0 hl Be (Og _ _) id
  ((pP (T:=⟨(T i).ph,.inr (f k),(T i).τ,g'⟩) o9).2 ⟨f k,rfl,hB,.inl (l8.self mI)⟩) rfl (by rw[eu];exact h.st.grp) (.inr id) (zqK (n:=0) hm)
theorem Inv.release (hA:A.Ok)(h:Inv P ty Wg A Fin Shun gs w t T ch)(hi:gs[i]? =some x)(dK:l8 x (T i).g)(aX:stepG P (i==0) (T i).g w=.go g' w #[oF (.releaseMerge (stA Wg))])(mI:g'.status=.running){ι:Type}{f:ι->Rk}(hr:(T i).r=.inr (.mk ι f))
 {l:L} (hl:(T i).ph=.usr l) (qR:A.act l=.done) (hd:gX t i=0) (tU:∀aJ,bX ty Wg (T i).τ w aJ->A.dep l aJ)
 (hK:∃k,oU P ty Wg A Fin (f k) (i==0) (.rel l) 0 (T i).τ g' w):vP P ty Wg A Fin Shun gs w t T sl i:=by
 have aU:=(eE.1 hi).1;obtain⟨k,hB⟩:=hK;obtain⟨h0,hinv⟩:=hA.done _ ch i l h.st.inv (by show(T i).ph.proj=_;rw[hl];rfl) qR;have Bc:gM A ty Wg (bH (λj=>(T j).ph) i (.rel l)) gs.size w:=by
  refine h.st.grp.congr (.inl (upd_ne _ _ (Ne.symm h0))) ?_ λj hj=>?_
  .unfold vv
   rw[zfo A _ h0];have:=zd1 (λj=>(T j).ph) (i:=i) (n:=gs.size) (.rel l) aU h0;simp only[hl,Ph.pre,if_true] at this;omega
  .by_cases fD:j=i
   .subst fD;rw[upd_same] at hj
    have:=hj;rw[hl] at this;exact(this.elim id id).elim
   .exact upd_ne _ _ fD
 have hS:=h.st.phase (r:=.inr (f k)) (g':=g') (by rw[hl];simp) aU (Og _ _) (.rel l) aQ (λe=>absurd e h0) (λ_ e=>e) id (λl' e=>.inr (by
  simp only[Ph.proj,Pj.over.injEq] at e;subst e;exact tU)) Bc hinv
 refine Zc hi h.st.n0 (Ti:=⟨.rel l,.inr (f k),(T i).τ,g'⟩) zcw Pw hS ?_;refine h.dy.go hi ((pP (T:=⟨.rel l,.inr (f k),(T i).τ,g'⟩) (by exact id)).2 ⟨f k,rfl,?_,.inl (l8.self mI)⟩) Kd (λj _=>bX.refl) h.dy.keepC (h.dy.keepW id) ?_
 .have:n9 (gX t i) #[oF (.releaseMerge (stA Wg))]=0:=by rw[hd];rfl
  rw[this];exact hB
 .have e1:(λk'=>(bH T i ⟨.rel l,.inr (f k),(T i).τ,g'⟩ k').τ.own)=λk'=>(T k').τ.own:=funext λj=>by rw[zg4]
  have e2:(λk' b=>(bH T i ⟨.rel l,.inr (f k),(T i).τ,g'⟩ k').τ.still b\/(bH T i ⟨.rel l,.inr (f k),(T i).τ,g'⟩ k').τ.pass b)=λk' b=>(T k').τ.still b\/(T k').τ.pass b:=funext λj=>by rw[zg4]
  rw[e1,e2];have nG:wK i x.frame.fn x.frame.place #[oF (.releaseMerge (stA Wg))]=#[{g:=i,fn:=x.frame.fn,pos:=x.frame.place,act:=.mark (.releaseMerge (stA Wg))}]:=by simp[wK,oF,jF]
  rw[nG];refine h.dy.tr.release aU rfl rfl hd h.st.grp.live.lt (λj hj=>?_) λj hj=>?_
  .by_cases fD:j=i
   .subst fD;rw[upd_same] at hj;exact hj.elim
   .rw[upd_ne _ _ fD] at hj;exact hj
  .by_cases fD:j=i
   .exact .inr fD
   .left;rw[upd_ne _ _ fD];exact hj
theorem Inv.acquire (h:Inv P ty Wg A Fin Shun gs w t T ch)(hi:gs[0]? =some x)(dK:l8 x (T 0).g)(aX:stepG P true (T 0).g w=.go g' w #[oF (.acquire (stA Wg))])(mI:g'.status=.running)(hd:gX t 0=0)
 (hq:∀j,j≠0->(T j).ph.leaves) (hF:Fin g' w):vP P ty Wg A Fin Shun gs w t T sl 0:=by
 have aU:0<gs.size:=h.st.n0;have Nd:stepG P (0==0) x w=.go g' w #[oF (.acquire (stA Wg))]:=by rw[show((0:Nat)==0)=true from rfl,dK.step];exact aX
 refine⟨_,_,Ye hi Nd,.inl ⟨_,g',w,sl,λj=>match(T j).r with| .inl q=>q|_=>0,rfl,by simp[aU],mI,hF,?_⟩⟩;have nG:wK 0 x.frame.fn x.frame.place #[oF (.acquire (stA Wg))]=#[{g:=0,fn:=x.frame.fn,pos:=x.frame.place,act:=.mark (.acquire (stA Wg))}]:=by simp[wK,oF,jF]
 rw[nG]
 obtain⟨hP,qK⟩:=h.dy.tr.acquire (y:={g:=0,fn:=x.frame.fn,pos:=x.frame.place,act:=.mark (.acquire (stA Wg))}) aU rfl rfl hd h.st.grp.live.lt (λj hj=>by
  refine zU λaS=>?_;have:=hq j aS;have qG:(T j).ph.live:=hj;cases hp:(T j).ph<;>rw[hp] at this qG<;>first|exact this.elim|exact qG.elim)
 refine⟨⟨λj y hj hy=>?_,λj hj=>qK j zcz⟩,hP⟩;have aS:0≠j:=aC;rw[rN aS,Array.getElem?_map] at hy;obtain⟨y0,za7,rfl⟩:=zW.1 hy;have hs:=h.dy.sit j y0 za7;rw[Hm (hq j aC)] at hs;obtain⟨q,Ni,hQ⟩:=hs;rw[zk9 hQ,Mi t (g:=j) (g':=0) aS _ (λop hop=>by simp at hop;rw[hop])];simp_all
end
end Go.Mt
namespace Go.Mt
open Go.Conc
open Go.ConcR (KK wgBlock WgAt stA smA rd wr)
section
variable {L:Type}{P:bT}{ty:aM}{Wg:Nat}{A:jL L}{Fin:bC->aE->Prop}{Shun:Loc->Prop}
variable {gs gs':Array bC}{w w':aE}{t t':l6}{T T':Nat->Td L}{ch vH:rG}{sl:Option (Nat×Nat)}{i j:Nat}{x g':bC}{es:Array oR}
theorem Ev.gen (h:Ev (P:=P) (ty:=ty) (Wg:=Wg) (A:=A) (Fin:=Fin) gs w t T ch Shun)(M:Nat->Prop)(zw4:∀j,¬M j->gs'[j]? =gs[j]? /\T' j=T j)
 (zC1:∀j y,M j->gs'[j]? =some y->y.status≠ .blocked/\Sits P ty Wg A Fin j (T' j) (gX t' j) y w') (zk4:∀j,¬M j->bX ty Wg (T j).τ w w') (zyq:∀j,¬M j->gX t' j=gX t j)
 (tL:∀c,vH c=some true->ch c=some true) (hW:fQ ty Wg w' 0 1->fQ ty Wg w 0 1)
 (znJ:TI Wg gs'.size (λk=>(T' k).τ.own) (λk b=>(T' k).τ.still b\/(T' k).τ.pass b) (λk=>(T' k).ph.live) Shun w'.heap.size t'):
 Ev (P:=P) (ty:=ty) (Wg:=Wg) (A:=A) (Fin:=Fin) gs' w' t' T' vH Shun:=by
 have old:∀(j:Nat) (g:bC) (cs:Array znM) (sh:No),gs'[j]? =some (parked g cs sh)->gs[j]? =some (parked g cs sh):=by
  intro j g cs sh hj;by_cases hm:M j
  .exact absurd rfl (zC1 j _ hm hj).1
  .simp_all
 refine⟨λj y hj=>?_,λa b ga gb c v z z' sh xL ha hb=>h.slp a b ga gb c v z z' sh xL (old _ _ _ _ ha) (old _ _ _ _ hb),λj g c z sh hj hc=>h.slpC j g c z sh (old _ _ _ _ hj) (tL c hc),λy hy yF hb=>?_,znJ⟩
 .by_cases hm:M j
  .simp_all
  .obtain⟨h1,h2⟩:=zw4 j hm
   rw[h2,zyq j hm];rw[h1] at hj;exact(h.sit j y hj).rely (zk4 j hm)
 .by_cases hm:M 0
  .grind
  .obtain⟨h1,h2⟩:=zw4 0 hm
   rw[h1] at hy;rw[h2] at yF;exact λe=>h.slpW y hy yF hb (hW e)
theorem zkd (t:l6)(g:Nat)(u:l6)(hu:∀op∈u,op.act≠ .mark .disable/\op.act≠ .mark .enable):gX (t++u) g=gX t g:=by
 obtain⟨l⟩:=u;rw[Deaf_append];have key:∀(l:List Tv) (d:Nat),(∀op∈l,op.act≠ .mark .disable/\op.act≠ .mark .enable)->l.foldl (deafStep g) d=d:=by
  intro l
  induction l with
  |nil=>intro d _;rfl
  |cons y l ih=>
   intro d hl;have e:deafStep g d y=d:=by
    have:=hl y aQ;unfold deafStep;split<;>simp_all
   simp_all
 simp_all
theorem TI.idles {n B:Nat}{own pas:Nat->Nat->Prop}{live:Nat->Prop}:∀(u:List Tv) {t:l6},TI Wg n own pas live Shun B t->(∀op∈u,op.g<n/\op.act.touch? =none/\op.act≠ .mark (.release (stA Wg))/\op.act.low B)->TI Wg n own pas live Shun B (t++u.toArray)
 |[],t,h,_=>by simpa using h
 |y::u,t,h,hu=>by
  have e1:t++(y::u).toArray=(t++ #[y])++u.toArray:=by apply L1;simp
  rw[e1];obtain⟨h1,h2,h3,h4⟩:=hu y aQ;exact TI.idles u (h.idle h1 (λa ha=>by rw[h2] at ha;cases ha) h3 h4) λop hop=>hu op (by simp[hop])
theorem Inv.offerR (h:Inv P ty Wg A Fin Shun gs w t T ch){k c:Nat}{y:bC}(hk:gs[k]? =some y)(aS:offersAt y c false≠[]):
 ∃l ok nx s z b,(T k).ph=.usr l/\A.act l=.recv c ok nx s/\y=parked (T k).g #[rcase c z] (.recv b)/\(∀aJ,bX ty Wg (T k).τ w aJ->stepG P (k==0) (T k).g aJ=.comm (T k).g #[rcase c z] true (.recv b) aJ #[]):=by
 have hs:=h.dy.sit k y hk;by_cases hl:(T k).ph.leaves
 .rw[Hm hl] at hs
  obtain⟨q,_,hQ⟩:=hs;refine absurd (Zu ?_ c false) aS;rcases hQ.status with e|e<;>rw[e]<;>simp
 .rw[pP hl] at hs
  obtain⟨r,_,_,hx|⟨l,cs,sh,h1,rfl,h3,h4⟩|⟨_,rfl,ho⟩⟩:=hs
  .exact absurd (Zu (by rw[hx.1];simp) c false) aS
  .rcases h4 with⟨c',ok,pub,nx,v,z,h5,rfl,rfl⟩|⟨c',ok,nx,s,z,b,h5,rfl,rfl⟩
   .exact absurd (offersAt_parked_send' _ _ _ _ _ _) aS
   .rw[zkX] at aS
    grind
  .refine absurd ?_ aS
   simp[offersAt,ho]
theorem Inv.offerS (h:Inv P ty Wg A Fin Shun gs w t T ch){k c:Nat}{y:bC}(hk:gs[k]? =some y)(aS:offersAt y c true≠[]):
 ∃l ok pub nx v z,(T k).ph=.usr l/\A.act l=.send c ok pub nx/\y=parked (T k).g #[scase c v z] .send/\(∀aJ,bX ty Wg (T k).τ w aJ->stepG P (k==0) (T k).g aJ=.comm (T k).g #[scase c v z] true .send aJ #[]):=by
 have hs:=h.dy.sit k y hk;by_cases hl:(T k).ph.leaves
 .rw[Hm hl] at hs
  obtain⟨q,_,hQ⟩:=hs;refine absurd (Zu ?_ c true) aS;rcases hQ.status with e|e<;>rw[e]<;>simp
 .rw[pP hl] at hs
  obtain⟨r,_,_,hx|⟨l,cs,sh,h1,rfl,h3,h4⟩|⟨_,rfl,ho⟩⟩:=hs
  .exact absurd (Zu (by rw[hx.1];simp) c true) aS
  .rcases h4 with⟨c',ok,pub,nx,v,z,h5,rfl,rfl⟩|⟨c',ok,nx,s,z,b,h5,rfl,rfl⟩
   .rw[zlU] at aS
    grind
   .exact absurd (offersAt_parked_recv' _ _ _ _ _) aS
  .refine absurd ?_ aS
   simp[offersAt,ho]
theorem setChan_at (w:aE)(c cap:Nat)(K4:Array aF)(cl:Bool)(s r:Nat)(tm:Bool)(h:c<w.heap.size):(w.setChan c cap K4 cl s r tm).heap[c]? =some (.chan cap K4 cl s r tm):=by
 simp[Ke,h]
theorem zw5 (w:aE)(c cap:Nat)(K4:Array aF)(cl:Bool)(s r:Nat)(tm:Bool):Ld c w (w.setChan c cap K4 cl s r tm):=
 ⟨rfl,rfl,rfl,by simp[Ke],λk hk=>by simp only[Ke];rw[rN (Ne.symm hk)]⟩
theorem Inv.meet (hA:A.Ok)(h:Inv P ty Wg A Fin Shun gs w t T ch)(pZ:i≠j)(oQ:i<gs.size)(Ux:j<gs.size){c:Nat}{li lj:L}{ok rL:aF->Prop}{pub:aF->List Nat}{nx pL:aF->L}{sh:L}
 (zm1:(T i).ph=.usr li) (Ui:A.act li=.send c ok pub nx) (zmf:(T j).ph=.usr lj) (zny:A.act lj=.recv c rL pL sh) {ιi ιj:Type} {fi:ιi->Rk} {fj:ιj->Rk} (zyH:(T i).r=.inr (.mk ιi fi)) (zc6:(T j).r=.inr (.mk ιj fj))
 {v:aF} {τ':cC} {b:Bool} (bU:ok v) (ho:∀b,τ'.own b->(T i).τ.own b) (aX:τ'.still=(T i).τ.still) (Q0:∀b,τ'.pass b->(T i).τ.pass b\/(T i).τ.own b)
 (Hd:∀a∈pub v,(T i).τ.own a/\¬τ'.own a/\¬τ'.still a/\Jz w a)
 (zE3:∃k,oU P ty Wg A Fin (fi k) (i==0) (.usr (nx v)) (gX t i) τ' (o7 (T i).g aA) w)
 (zEu:rL v->(∀a∈A.got lj v,a<w.heap.size/\¬(T j).τ.own a/\¬(T j).τ.still a)->∃k,oU P ty Wg A Fin (fj k) (j==0) (.usr (pL v)) (gX t j) (T j).τ (o7 (T j).g (recvd b v true)) w)
 {s r:Nat} (hc:w.heap[c]? =some (.chan 0 #[] false s r false)) (cK:gs'.size=gs.size) (Gi:gs'[i]? =some (o7 (T i).g aA)) (zcy:gs'[j]? =some (o7 (T j).g (recvd b v true)))
 (zBK:∀k,k≠i->k≠j->gs'[k]? =gs[k]?) {u:l6} (hu:∀op∈u,op.g<gs.size/\op.act.touch? =none/\op.act≠ .mark (.release (stA Wg))/\op.act.low w.heap.size/\op.act≠ .mark .disable/\op.act≠ .mark .enable):
 ∃T' vH,Inv P ty Wg A Fin Shun gs' (w.setChan c 0 #[] false (s+1) (r+1) false) (t++u) T' vH/\Mu.lt (mu gs' T') (mu gs T):=by
 have zb7:(λk=>(T k).ph.proj) i=.run li:=by show(T i).ph.proj=_;rw[zm1];rfl
 have Kn:(λk=>(T k).ph.proj) j=.run lj:=by show(T j).ph.proj=_;rw[zmf];rfl
 have N8:ch c=some false:=hA.sendC _ ch i li c ok pub nx h.st.inv zb7 Ui;obtain⟨zHa,hinv⟩:=hA.meet _ ch i j li lj c ok pub nx rL pL sh v h.st.inv zb7 Kn Ui zny bU λa ha=>(h.st.bnd i a (.inl (Hd a ha).1)).2.2;obtain⟨ki,zA2⟩:=zE3
 obtain⟨kj,zC8⟩:=zEu zHa λa ha=>by
  obtain⟨p1,_,_,p4⟩:=Hd a (hA.gotP _ ch i j li lj c ok pub nx rL pL sh v h.st.inv zb7 Kn Ui zny bU a ha);obtain⟨q1,q2,_⟩:=h.st.sep i j a pZ p1;exact⟨(eE.1 p4).1,q1,q2⟩
 have Jm:c<w.heap.size:=(eE.1 hc).1;have a:=zw5 w c 0 #[] false (s+1) (r+1) false;have Aa:=(h.st.chan c _ N8).1
 have hS:=h.st.meet pZ oQ Ux N8 a zm1 zmf (.inr (fi ki)) (.inr (fj kj)) (o7 (T i).g aA) (o7 (T j).g (recvd b v true)) τ' (pub v) ho aX Q0 Hd
  ⟨s+1,r+1,setChan_at w c 0 #[] false (s+1) (r+1) false Jm⟩ (li':=nx v) (lj':=pL v) (hA.pendC li _ c v ok pub nx Ui rfl) (hA.pendR lj _ c v rL pL sh zny (.inl rfl)) hinv
 have nc:∀k,¬(T k).τ.own c/\¬(T k).τ.still c:=λk=>⟨λe=>znV,λe=>zvq⟩;have Me:∀k,gX (t++u) k=gX t k:=λk=>zkd t k u λop hop=>⟨(hu op hop).2.2.2.2.1,(hu op hop).2.2.2.2.2⟩;generalize hU:bH (bH T i ⟨.usr (nx v),.inr (fi ki),τ',o7 (T i).g aA⟩) j ⟨.usr (pL v),.inr (fj kj),(T j).τ,o7 (T j).g (recvd b v true)⟩=U at hS;have ui:U i=⟨.usr (nx v),.inr (fi ki),τ',o7 (T i).g aA⟩:=by rw[<-hU,upd_ne _ _ pZ,upd_same]
 have uj:U j=⟨.usr (pL v),.inr (fj kj),(T j).τ,o7 (T j).g (recvd b v true)⟩:=by rw[<-hU,upd_same]
 have uk:∀k,k≠i->k≠j->U k=T k:=λk h1 h2=>by rw[<-hU,upd_ne _ _ h2,upd_ne _ _ h1]
 refine⟨U,ch.opn (pub v),⟨by rw[cK];exact hS,h.dy.gen (λk=>k=i\/k=j) (λk hk=>⟨zBK k (λe=>hk (.inl e)) (λe=>hk (.inr e)),uk k (λe=>hk (.inl e)) (λe=>hk (.inr e))⟩) (λk y hk hy=>?_)
  (λk _=>bX.of_aside a (nc k) (U6 a Aa)) (λk _=>Me k) (λc' lG=>?_) (λe=>(a.block Wg (Ne.symm Aa)).symm.trans e) ?_⟩,?_⟩
 .rcases hk with rfl|rfl
  .rw[Gi] at hy;cases hy
   refine⟨by simp[o7],?_⟩;rw[ui,Me];refine(pP (T:=⟨.usr (nx v),.inr (fi ki),τ',o7 (T k).g aA⟩) id).2 ⟨fi ki,rfl,zA2.rely (bX.of_aside a ⟨λe=>(nc k).1 (ho c e),λe=>(nc k).2 (aX▸e)⟩ (U6 a Aa)),.inl (l8.self rfl)⟩
  .rw[zcy] at hy;cases hy
   refine⟨by simp[o7],?_⟩;rw[uj,Me];exact(pP (T:=⟨.usr (pL v),.inr (fj kj),(T k).τ,o7 (T k).g (recvd b v true)⟩) id).2 ⟨fj kj,rfl,zC8.rely (bX.of_aside a (nc k) (U6 a Aa)),.inl (l8.self rfl)⟩
 .by_cases hp:c'∈pub v
  .rw[zeX hp] at lG;cases lG
  .rw[Wu hp] at lG;exact lG
 .rw[cK,a.size]
  have h1:=h.dy.tr.idles u.toList (λop hop=>by simp_all);have e0:u.toList.toArray=u:=aQ;rw[e0] at h1;have e3:(λk=>(U k).ph.live)=λk=>(T k).ph.live:=funext λk=>by
   by_cases k1:k=i
   .subst k1;rw[ui,zm1];rfl
   .by_cases k2:k=j
    .subst k2;rw[uj,zmf];rfl
    .rw[uk k k1 k2]
  rw[e3];refine h1.less (λk b _ hb=>?_) (λk b _ hb=>?_) (bN _)
  .grind
  grind
 .rcases uE i j with aU|Cr
  .exact Wq (i:=i) (λ_=>cK) aC oQ aC (by rw[ui,zyH];exact .inr (.mk fi ki)) λk hk=>by grind
  .exact Wq (i:=j) (λ_=>cK) aC Ux aC (by rw[uj,zc6];exact .inr (.mk fj kj)) λk hk=>by grind
theorem zBg {xs:Array bC}{i:Nat}{y z:bC}(h:xs[i]? =some y)(hy:K6 y=true)(hz:K6 z=false):(xs.setIfInBounds i z).countP K6<xs.countP K6:=by
 obtain⟨aU,rfl⟩:=eE.1 h;have e:xs.setIfInBounds i z=xs.set i z:=by simp[Array.setIfInBounds,aU]
 rw[e,Array.countP_set aU];have:0<xs.countP K6:=Array.countP_pos_iff.2 ⟨xs[i],Array.getElem_mem aU,hy⟩
 grind
theorem Inv.park (h:Inv P ty Wg A Fin Shun gs w t T ch)(hi:gs[i]? =some x)(cH:x.status=.running)(o9:¬(T i).ph.leaves){y:bC}(hy:y.status=.blocked)
 (hP:zdL P ty Wg A (i==0) (T i) y w\/znK (T i) y) (hW:i=0->(T 0).ph=.w3->¬fQ ty Wg w 0 1)
 (hR:∀(c:Nat) (v z:aF) (sh:No) (g:bC),y=parked g #[scase c v z] sh->∀(k:Nat) (yk:bC),gs[k]? =some yk->offersAt yk c false=[]) (hS:∀(c:Nat) (z:aF) (sh:No) (g:bC),y=parked g #[rcase c z] sh->ch c≠some true/\∀(k:Nat) (yk:bC),gs[k]? =some yk->offersAt yk c true=[]):
 Inv P ty Wg A Fin Shun (gs.setIfInBounds i y) w (t++ #[]) T ch/\Mu.lt (mu (gs.setIfInBounds i y) T) (mu gs T):=by
 have aU:i<gs.size:=(eE.1 hi).1;have cK:(gs.setIfInBounds i y).size=gs.size:=aQ;have get:∀(k:Nat) (z:bC),(gs.setIfInBounds i y)[k]? =some z->(k=i/\z=y)\/(k≠i/\gs[k]? =some z):=by
  intro k z hk;by_cases Ip:i=k
  .simp_all
  .grind
 have et:t++ #[]=t:=aQ;refine⟨⟨by rw[cK];exact h.st,?_⟩,mu_dec' cK (zBg hi (by simp[K6,cH]) (by simp[K6,hy]))⟩;rw[et];refine⟨λk z hk=>?_,λa b ga gb c v z z' sh xL ha hb=>?_,λk g c z sh hk=>?_,λz hz yF hb=>?_,by rw[cK];exact h.dy.tr⟩
 .rcases get k z hk with⟨rfl,rfl⟩|⟨aS,cU⟩
  .have hs:=h.dy.sit k x hi
   rw[pP o9] at hs⊢
   grind
  .exact h.dy.sit k z cU
 .rcases get a _ ha with⟨ea,fU⟩|⟨Tw,fU⟩
  .rcases get b _ hb with⟨eb,bZ⟩|⟨nX,bZ⟩
   .rw[<-fU] at bZ
    simp[parked,rcase,scase] at bZ
   .have:=hR c v z sh ga fU.symm b _ bZ
    rw[zkX] at this;simp at this
  .rcases get b _ hb with⟨eb,bZ⟩|⟨nX,bZ⟩
   .have:=(hS c z' xL gb bZ.symm).2 a _ fU
    rw[zlU] at this;simp at this
   .exact h.dy.slp a b ga gb c v z z' sh xL fU bZ
 .rcases get k _ hk with⟨_,e⟩|⟨_,cU⟩
  .grind
  .exact h.dy.slpC k g c z sh cU
 .rcases get 0 z hz with⟨e,_⟩|⟨_,cU⟩
  .exact hW e.symm yF
  .exact h.dy.slpW z cU yF hb
end
section
variable {L:Type}{P:bT}{ty:aM}{Wg:Nat}{A:jL L}{Fin:bC->aE->Prop}{Shun:Loc->Prop}
variable {gs gs':Array bC}{w w':aE}{t t':l6}{T T':Nat->Td L}{ch vH:rG}{sl:Option (Nat×Nat)}{i j:Nat}{x g':bC}{es:Array oR}
def zf0 (i:Nat)(fn:aN)(pos:String):wK i fn pos #[]=#[]:=rfl
variable {b:Bool}
theorem zjn {c:Nat}(h:∀(k:Nat) (y:bC),gs[k]? =some y->offersAt y c b=[]):partners (gs.setIfInBounds i zg9) c b=[]:=by
 refine partners_nil λk y hk=>?_;rcases zrT gs i k y hk with⟨_,rfl⟩|⟨_,cU⟩
 .rfl
 .exact h k y cU
theorem zut {c k:Nat}{y:bC}(Ip:k≠i)(hk:gs[k]? =some y)(ho:offersAt y c b=[0])(h:∀(m:Nat) (z:bC),m≠k->gs[m]? =some z->offersAt z c b=[]):partners (gs.setIfInBounds i zg9) c b=[(k,0)]:=by
 rw[partners_one (stand_get Ip hk) λm z hm hz=>?_,ho]
 .rfl
 .rcases zrT gs i m z hz with⟨_,rfl⟩|⟨_,Jb⟩
  .rfl
  .exact h m z hm Jb
theorem Inv.send (hA:A.Ok)(h:Inv P ty Wg A Fin Shun gs w t T ch)(hi:gs[i]? =some x)(dK:l8 x (T i).g){ι:Type}{f:ι->Rk}(hr:(T i).r=.inr (.mk ι f)){l:L}(hl:(T i).ph=.usr l){c:Nat}{ok:aF->Prop}{pub:aF->List Nat}{nx:aF->L}
 (ha:A.act l=.send c ok pub nx) (hB:mR P ty Wg A (λm ph d τ g w=>∃k,oU P ty Wg A Fin (f k) m ph d τ g w) (i==0) l (gX t i) (T i).τ (T i).g w):vP P ty Wg A Fin Shun gs w t T sl i:=by
 have aU:i<gs.size:=(eE.1 hi).1;unfold mR at hB;rw[ha] at hB;obtain⟨Nc,v,z,τ',h1,h2,h3,h4,L3,h5,h6⟩:=hB;have hp:(λk=>(T k).ph.proj) i=.run l:=by show(T i).ph.proj=_;rw[hl];rfl
 have N8:=hA.sendC _ ch i l c ok pub nx h.st.inv hp ha;obtain⟨_,s,r,hc⟩:=h.st.chan c _ N8;have vB:stepG P (i==0) x w=.comm (T i).g #[scase c v z] true .send w #[]:=by rw[dK.step];exact h1 w bX.refl
 by_cases hk:∃(k:Nat) (y:bC),gs[k]? =some y/\offersAt y c false≠[]
 .obtain⟨k,y,hk,aS⟩:=hk
  have Ip:k≠i:=λe=>by
   subst e;rw[hi] at hk;cases hk;exact aS (Zu (by rw[dK.1];simp) c false)
  have zdp:k<gs.size:=(eE.1 hk).1;obtain⟨lk,rL,pL,sh,zk,b,wR,Mh,rfl,zb9⟩:=h.offerR hk aS;have zmD:(λk=>(T k).ph.proj) k=.run lk:=by show(T k).ph.proj=_;rw[wR];rfl
  have ziG:partners (gs.setIfInBounds i zg9) c false=[(k,0)]:=by
   refine zut Ip hk (by rw[zkX];simp) λm y' hm zjm=>zU λhn=>?_;obtain⟨lm,zky,znD,sm,_,_,Yt,zlo,_⟩:=h.offerR zjm hn;exact hm (hA.recv1 _ ch m k lm lk c zky znD sm rL pL sh h.st.inv (by show(T m).ph.proj=_;rw[Yt];rfl) zmD zlo Mh)
  have zcQ:=crowd_send_meets (P:=P) (sl:=sl) hi vB hc Ip hk ziG;have hs:=h.dy.sit k _ hk;rw[pP (by rw[wR];exact id)] at hs;obtain⟨rk,zne,x5,_⟩:=hs
  cases rk with
  |mk ιk fk=>
   obtain⟨_,x5⟩:=x5;rw[wR] at x5;rcases x5 with x5|x5
   .obtain⟨g',w',es,aX,_⟩:=x5 w bX.refl
    rw[zb9 w bX.refl] at aX;cases aX
   .simp only[Ai,mR,Mh] at x5
    obtain⟨_,z',b',pK,qU,Jv⟩:=x5;have e:=(pK w bX.refl).symm.trans (zb9 w bX.refl);simp only[zrP,rcase,zdP,Vk,zem,zzE,true_and,and_true] at e;obtain⟨_,eb⟩:=e;subst eb
    obtain⟨T',vH,hI,Pn⟩:=h.meet hA (Ne.symm Ip) aU zdp hl ha wR Mh hr zne (v:=v) (τ':=τ') (b:=b') h2 h3 h4 L3 h5 h6 (λhv hg=>qU v hv w bX.refl hg) hc
     (gs':=(gs.setIfInBounds k (o7 (T k).g (recvd b' v true))).setIfInBounds i (o7 (T i).g aA)) aQ (by simp[aU]) s9
     (λm h1 h2=>by grind)
     (u:=#[{g:=i,fn:=(T i).g.frame.fn,pos:=(T i).g.frame.place,act:=.send c s},{g:=k,fn:=(T k).g.frame.fn,pos:=(T k).g.frame.place,act:=.recv c r 0},{g:=i,fn:=(T i).g.frame.fn,pos:=(T i).g.frame.place,act:=.sendDone c s},{g:=k,fn:=(T k).g.frame.fn,pos:=(T k).g.frame.place,act:=.recvDone c r}])
     (λop hop=>by
      have Jm:c<w.heap.size:=(eE.1 hc).1;simp only[Iu,lO,nM,or_false] at hop;rcases hop with rfl|rfl|rfl|rfl<;>exact⟨aC,rfl,aQ,Jm,aQ,aQ⟩)
    rw[zkx,ztY,zf0,zlN] at zcQ;exact⟨_,_,zcQ,.inr ⟨_,_,sl,T',vH,rfl,hI,Pn⟩⟩
 .have fG:∀(k:Nat) (y:bC),gs[k]? =some y->offersAt y c false=[]:=λk y zcK=>zU λhn=>hk ⟨k,y,zcK,hn⟩
  have wJ:=crowd_waits (P:=P) (sl:=sl) hi vB (λcc tE=>by
   simp only[Iu,lO,nM,or_false] at tE;subst tE;exact ways_send_none hc (mP _) (zjn fG))
  have hp:=h.park hi dK.1 zmY (y:=parked (T i).g #[scase c v z] .send) rfl (.inl ⟨l,_,_,hl,rfl,h1,.inl ⟨c,ok,pub,nx,v,z,ha,rfl,rfl⟩⟩) (λe e2=>by subst e;rw[hl] at e2;cases e2)
   (λc' v' z' xL g' e=>by
    simp only[parked,zu0,jM,qI,zdP,Vk,scase,zem,zoN,and_true,true_and] at e;obtain⟨_,_,_,⟨e,_⟩,_⟩:=e;subst e;exact fG)
   (λc' z' xL g' e=>by simp[parked,scase,rcase] at e)
  exact⟨_,_,wJ,.inr ⟨_,_,sl,T,ch,rfl,hp.1,hp.2⟩⟩
theorem Inv.recv (hA:A.Ok)(h:Inv P ty Wg A Fin Shun gs w t T ch)(hi:gs[i]? =some x)(dK:l8 x (T i).g){ι:Type}{f:ι->Rk}(hr:(T i).r=.inr (.mk ι f)){l:L}(hl:(T i).ph=.usr l){c:Nat}{ok:aF->Prop}{nx:aF->L}{sh:L}
 (ha:A.act l=.recv c ok nx sh) (hB:mR P ty Wg A (λm ph d τ g w=>∃k,oU P ty Wg A Fin (f k) m ph d τ g w) (i==0) l (gX t i) (T i).τ (T i).g w):vP P ty Wg A Fin Shun gs w t T sl i:=by
 have aU:i<gs.size:=(eE.1 hi).1;unfold mR at hB;rw[ha] at hB;obtain⟨Nc,z,b,h1,h2,h3⟩:=hB;have hp:(λk=>(T k).ph.proj) i=.run l:=by show(T i).ph.proj=_;rw[hl];rfl
 obtain⟨cl,lE⟩:=hA.recvC _ ch i l c ok nx sh h.st.inv hp ha;obtain⟨Aa,s,r,hc⟩:=h.st.chan c _ lE;have Jm:c<w.heap.size:=(eE.1 hc).1;have vB:stepG P (i==0) x w=.comm (T i).g #[rcase c z] true (.recv b) w #[]:=by rw[dK.step];exact h1 w bX.refl
 cases cl with
 |true=>
  have fG:∀(k:Nat) (y:bC),gs[k]? =some y->offersAt y c true=[]:=λk y zcK=>zU λhn=>by
   obtain⟨lk,zHZ,zAt,zzM,_,_,wR,Mh,_⟩:=h.offerS zcK hn;have:=hA.sendC _ ch k lk c zHZ zAt zzM h.st.inv (by show(T k).ph.proj=_;rw[wR];rfl) Mh;rw[lE] at this;cases this
  have cH:=crowd_recv_closed (P:=P) (sl:=sl) hi vB hc (zjn fG);rw[zkx,zf0,zlN] at cH;obtain⟨zHH,hinv⟩:=hA.shut _ ch i l c ok nx sh h.st.inv hp ha lE;obtain⟨k,hk⟩:=h3 zHH;have Bc:=gM.usr (l:=l) h.st.grp hl aU (hA.pendR l sh c aA ok nx sh ha (.inr rfl));have hS:=h.st.phase (r:=.inr (f k)) (g':=o7 (T i).g (recvd b z false)) (by rw[hl];simp) aU (Og _ _) (.usr sh) aQ (λ_=>trivial) (λ_ e=>e) id (λl' e=>by simp[Ph.proj] at e) Bc hinv;have cK:(gs.setIfInBounds i (o7 (T i).g (recvd b z false))).size=gs.size:=aQ;have Me:∀k,gX (t++(#[{g:=i,fn:=(T i).g.frame.fn,pos:=(T i).g.frame.place,act:=.recvClosed c}]:l6)) k=gX t k:=λk=>zkd t k _ λop hop=>by
   simp only[Iu,lO,nM,or_false] at hop;subst hop;exact⟨aQ,aQ⟩
  refine⟨_,_,cH,.inr ⟨gs.setIfInBounds i (o7 (T i).g (recvd b z false)),w,sl,bH T i ⟨.usr sh,.inr (f k),(T i).τ,o7 (T i).g (recvd b z false)⟩,ch,rfl,⟨by rw[cK];exact hS,?_⟩,?_⟩⟩
  .show Ev _ _ (t++(#[{g:=i,fn:=(T i).g.frame.fn,pos:=(T i).g.frame.place,act:=.recvClosed c}]:l6)) _ _ _
   refine h.dy.gen (λk'=>k'=i) (λk' cU=>⟨by rw[rN (Ne.symm cU)],upd_ne _ _ cU⟩) (λk' y cU hy=>?_) (λ_ _=>bX.refl) (λk' _=>Me k') (λ_ e=>e) id ?_
   .subst cU
    rw[zrx aU] at hy;cases hy;refine⟨by simp[o7],?_⟩;rw[upd_same,Me];exact(pP (T:=⟨.usr sh,.inr (f k),(T k').τ,o7 (T k').g (recvd b z false)⟩) id).2 ⟨f k,rfl,hk,.inl (l8.self rfl)⟩
   .rw[cK]
    have h0:=h.dy.tr.phase (i:=i) (ph':=.usr sh) (.inr (f k)) (o7 (T i).g (recvd b z false)) ⟨λ_=>by rw[hl];trivial,λ_=>trivial⟩;exact h0.idles [{g:=i,fn:=(T i).g.frame.fn,pos:=(T i).g.frame.place,act:=.recvClosed c}] λop hop=>by
     simp only[lO,nM,or_false] at hop;subst hop;exact⟨aU,rfl,aQ,Jm⟩
  .exact Wq (i:=i) (λ_=>cK) aC aU aC zoe λk' cU=>by rw[upd_ne _ _ aC]
 |false=>
  by_cases hk:∃(k:Nat) (y:bC),gs[k]? =some y/\offersAt y c true≠[]
  .obtain⟨k,y,hk,aS⟩:=hk
   have Ip:k≠i:=λe=>by
    subst e;rw[hi] at hk;cases hk;exact aS (Zu (by rw[dK.1];simp) c true)
   have zdp:k<gs.size:=(eE.1 hk).1;obtain⟨lk,rL,U0,pL,v,zk,wR,Mh,rfl,zb9⟩:=h.offerS hk aS;have zmD:(λk=>(T k).ph.proj) k=.run lk:=by show(T k).ph.proj=_;rw[wR];rfl
   have ziG:partners (gs.setIfInBounds i zg9) c true=[(k,0)]:=by
    refine zut Ip hk (by rw[zlU];simp) λm y' hm zjm=>zU λhn=>?_;obtain⟨lm,zky,zBY,znD,_,_,Yt,zlo,_⟩:=h.offerS zjm hn;exact hm (hA.send1 _ ch m k lm lk c zky zBY znD rL U0 pL h.st.inv (by show(T m).ph.proj=_;rw[Yt];rfl) zmD zlo Mh)
   have zcQ:=crowd_recv_meets (P:=P) (sl:=sl) hi vB hc Ip hk ziG;have hs:=h.dy.sit k _ hk;rw[pP (by rw[wR];exact id)] at hs;obtain⟨rk,zne,x5,_⟩:=hs
   cases rk with
   |mk ιk fk=>
    obtain⟨_,x5⟩:=x5;rw[wR] at x5;rcases x5 with x5|x5
    .obtain⟨g',w',es,aX,_⟩:=x5 w bX.refl
     rw[zb9 w bX.refl] at aX;cases aX
    .simp only[Ai,mR,Mh] at x5
     obtain⟨_,v',z',τ',pK,qU,Jv,zmI,zHI,zA3,zGl⟩:=x5;have e:=(pK w bX.refl).symm.trans (zb9 w bX.refl);simp only[zrP,scase,zdP,Vk,zem,jM,true_and,and_true] at e;obtain⟨ev,_⟩:=e;subst ev
     obtain⟨T',vH,hI,Pn⟩:=h.meet hA Ip zdp aU wR Mh hl ha zne hr (v:=v') (τ':=τ') (b:=b) qU Jv zmI zHI zA3 zGl (λhv hg=>h2 v' hv w bX.refl hg) hc
      (gs':=(gs.setIfInBounds k (o7 (T k).g aA)).setIfInBounds i (o7 (T i).g (recvd b v' true))) aQ (by rw[rN (Ne.symm Ip)];simp[zdp]) (by simp[aU])
      (λm h1 h2=>by rw[rN (Ne.symm h2),rN (Ne.symm h1)])
      (u:=#[{g:=k,fn:=(T k).g.frame.fn,pos:=(T k).g.frame.place,act:=.send c s},{g:=i,fn:=(T i).g.frame.fn,pos:=(T i).g.frame.place,act:=.recv c r 0},{g:=k,fn:=(T k).g.frame.fn,pos:=(T k).g.frame.place,act:=.sendDone c s},{g:=i,fn:=(T i).g.frame.fn,pos:=(T i).g.frame.place,act:=.recvDone c r}])
      (λop hop=>by
       simp only[Iu,lO,nM,or_false] at hop;rcases hop with rfl|rfl|rfl|rfl<;>exact⟨by first|exact aU|exact zdp,rfl,aQ,Jm,aQ,aQ⟩)
     rw[zkx,ztY,zf0,zlN] at zcQ;exact⟨_,_,zcQ,.inr ⟨_,_,sl,T',vH,rfl,hI,Pn⟩⟩
  .have fG:∀(k:Nat) (y:bC),gs[k]? =some y->offersAt y c true=[]:=λk y zcK=>zU λhn=>hk ⟨k,y,zcK,hn⟩
   have wJ:=crowd_waits (P:=P) (sl:=sl) hi vB (λcc tE=>by
    simp only[Iu,lO,nM,or_false] at tE;subst tE;exact ways_recv_none hc (zjn fG))
   have hp:=h.park hi dK.1 zmY (y:=parked (T i).g #[rcase c z] (.recv b)) rfl (.inl ⟨l,_,_,hl,rfl,h1,.inr ⟨c,ok,nx,sh,z,b,ha,rfl,rfl⟩⟩) (λe e2=>by subst e;rw[hl] at e2;cases e2)
    (λc' v' z' xL g' e=>by simp[parked,scase,rcase] at e)
    (λc' z' xL g' e=>by
     simp only[parked,zu0,jM,qI,zdP,Vk,rcase,zem,zoN,and_true,true_and] at e;obtain⟨_,_,_,⟨e,_⟩,_⟩:=e;subst e;exact⟨(by rw[lE];simp),fG⟩)
   exact⟨_,_,wJ,.inr ⟨_,_,sl,T,ch,rfl,hp.1,hp.2⟩⟩
theorem Inv.close (hA:A.Ok)(h:Inv P ty Wg A Fin Shun gs w t T ch)(hi:gs[i]? =some x)(dK:l8 x (T i).g){ι:Type}{f:ι->Rk}(hr:(T i).r=.inr (.mk ι f)){l:L}(hl:(T i).ph=.usr l){c:Nat}{nx:L}
 (ha:A.act l=.close c nx) (hB:mR P ty Wg A (λm ph d τ g w=>∃k,oU P ty Wg A Fin (f k) m ph d τ g w) (i==0) l (gX t i) (T i).τ (T i).g w):vP P ty Wg A Fin Shun gs w t T sl i:=by
 have aU:i<gs.size:=(eE.1 hi).1;unfold mR at hB;rw[ha] at hB;obtain⟨zb1,zBU,h1⟩:=hB;have hp:(λk=>(T k).ph.proj) i=.run l:=by show(T i).ph.proj=_;rw[hl];rfl
 obtain⟨N8,hinv⟩:=hA.close _ ch i l c nx h.st.inv hp ha;obtain⟨Aa,s,r,hc⟩:=h.st.chan c _ N8;have Jm:c<w.heap.size:=(eE.1 hc).1;obtain⟨g',aX,mI,k,hk⟩:=h1 w bX.refl s r hc;have a:=zw5 w c 0 #[] true s r false;have hS:=h.st.close aU N8 a hl (.inr (f k)) g' (l':=nx) ⟨s,r,setChan_at w c 0 #[] true s r false Jm⟩ (gM.usr (l:=l) h.st.grp hl aU (hA.pendX l c nx ha)) hinv;have nc:∀k,¬(T k).τ.own c/\¬(T k).τ.still c:=λk=>⟨λe=>znV,λe=>zvq⟩;have hd:n9 (gX t i) (closeEvents c)=gX t i:=zxl (λe he=>by
  simp only[closeEvents,Iu,lO,nM,or_false] at he;rcases he with rfl|rfl<;>exact⟨aQ,aQ⟩) _
 have zfh:mayWake P x=true:=by rw[<-zb1];unfold mayWake;rw[dK.2.1]
 have O3:bH T i ⟨.usr nx,.inr (f k),(T i).τ,g'⟩ i=⟨.usr nx,.inr (f k),(T i).τ,g'⟩:=upd_same _ _ _;refine Zc hi h.st.n0 (Ti:=⟨.usr nx,.inr (f k),(T i).τ,g'⟩) zcw Pw hS ?_
 refine h.dy.go hi (by rw[hd];exact(pP (T:=⟨.usr nx,.inr (f k),(T i).τ,g'⟩) id).2 ⟨f k,rfl,hk,.inl (l8.self mI)⟩) Kd (λj _=>bX.of_aside a (nc j) (U6 a Aa)) ?_
  (h.dy.keepW λe=>(a.block Wg (Ne.symm Aa)).symm.trans e) ?_
 .intro j gj c' z sh hj cN e
  by_cases tE:c'=c
  .subst tE
   unfold woken at cN;rw[zfh,mI] at cN;have:=again_recv_closed (g:=gj) (z:=z) (sh:=sh) (setChan_at w c' 0 #[] true s r false Jm);simp only[Bool.true_and] at cN;rw[if_pos Mb,this] at cN;have:(GoStatus.running:GoStatus)=.blocked:=by
    have h2:=congrArg bC.status cN;simp[parked] at h2
   cases this
  .rw[upd_ne _ _ tE] at e
   exact h.dy.slpC j gj c' z sh hj e
 .refine hS.tiEvents aU (by rw[O3];trivial) _ _ ?_ λe he=>?_
  .have:=h.dy.tr.phase (i:=i) (ph':=.usr nx) (.inr (f k)) g' ⟨λ_=>by rw[hl];trivial,λ_=>trivial⟩
   rwa [a.size]
  .rw[O3]
   simp only[closeEvents,Iu,lO,nM,or_false] at he;rw[a.size];rcases he with rfl|rfl
   .refine⟨λy hy=>?_,by simp[jF],Jm⟩
    simp only[jF,qZ,jM] at hy;subst hy;exact .inl ⟨c,Aa,rfl,.inr ⟨.inr zBU,rfl⟩⟩
   .exact⟨λy hy=>by simp[jF,qZ] at hy,by simp[jF],Jm⟩
theorem Inv.spawn (hA:A.Ok)(h:Inv P ty Wg A Fin Shun gs w t T ch)(hi:gs[i]? =some x)(dK:l8 x (T i).g){ι:Type}{f:ι->Rk}(hr:(T i).r=.inr (.mk ι f)){l:L}(hl:(T i).ph=.usr l){pub:List Nat}{lc nx:L}
 (ha:A.act l=.spawn pub lc nx) (hB:mR P ty Wg A (λm ph d τ g w=>∃k,oU P ty Wg A Fin (f k) m ph d τ g w) (i==0) l (gX t i) (T i).τ (T i).g w):vP P ty Wg A Fin Shun gs w t T sl i:=by
 unfold mR at hB;rw[ha] at hB;obtain⟨hd,h1⟩:=hB;have hp:(λk=>(T k).ph.proj) i=.run l:=by show(T i).ph.proj=_;rw[hl];rfl
 obtain⟨rfl,Nl,yY,hinv⟩:=hA.spawn _ ch i l pub lc nx gs.size h.st.inv hp ha;obtain⟨g',child,τm,τc,aX,zpc,zqM,ho,hs,qC,x3,Ar,Hd,⟨km,zDt⟩,⟨kc,Io⟩⟩:=h1 w bX.refl;have hn:=h.st.n0;have zGr:=hinv (by show(T gs.size).ph.proj=_;rw[h.st.ou _ (bN _)];rfl) aC λa Q0=>(h.st.bnd 0 a (.inl (Hd a Q0).1)).2.2;have hS:=h.st.fork hl Nl yY (.inr (f km)) (.inr (f kc)) g' child τm τc pub ho hs qC x3 Ar Hd zGr;have cH:=runT_crowd_spawn (P:=P) (sl:=sl) hi (show stepG P (0==0) x w=_ by rw[dK.step];exact aX);have cK:((gs.setIfInBounds 0 g').push child).size=gs.size+1:=aQ;generalize hU:bH (bH T 0 ⟨.usr nx,.inr (f km),τm,g'⟩) gs.size ⟨.usr lc,.inr (f kc),τc,child⟩=U at hS;have u0:U 0=⟨.usr nx,.inr (f km),τm,g'⟩:=by rw[<-hU,upd_ne _ _ aC,upd_same]
 have un:U gs.size=⟨.usr lc,.inr (f kc),τc,child⟩:=by rw[<-hU,upd_same]
 have uk:∀k,k≠0->k≠gs.size->U k=T k:=λk h1 h2=>by rw[<-hU,upd_ne _ _ h2,upd_ne _ _ h1]
 have zj1:((wK 0 x.frame.fn x.frame.place #[]).push {g:=0,fn:=x.frame.fn,pos:=x.frame.place,act:=.go gs.size}|>.push {g:=gs.size,fn:=child.frame.fn,pos:=x.frame.place,act:=.start})
  =#[{g:=0,fn:=x.frame.fn,pos:=x.frame.place,act:=.go gs.size},{g:=gs.size,fn:=child.frame.fn,pos:=x.frame.place,act:=.start}]:=rfl
 rw[zj1] at cH;have Me:∀k,gX (t++(#[{g:=0,fn:=x.frame.fn,pos:=x.frame.place,act:=.go gs.size},{g:=gs.size,fn:=child.frame.fn,pos:=x.frame.place,act:=.start}]:l6)) k=gX t k:=λk=>zkd t k _ λop hop=>by grind
 refine⟨_,_,cH,.inr ⟨(gs.setIfInBounds 0 g').push child,w,sl,U,ch.opn pub,rfl,⟨by rw[cK];exact hS,h.dy.gen (λk=>k=0\/gs.size<=k) (λk hk=>?_) (λk y hk hy=>?_) (λ_ _=>bX.refl) (λk _=>Me k) (λc hc=>?_) id ?_⟩,?_⟩⟩
 .grind
 .rw[Array.getElem?_push,Array.size_setIfInBounds] at hy
  rcases hk with rfl|hk
  .rw[if_neg aC,zrx hn] at hy
   cases hy;refine⟨by rw[zpc];simp,?_⟩;rw[u0,Me,hd];exact(pP (T:=⟨.usr nx,.inr (f km),τm,g'⟩) id).2 ⟨f km,rfl,zDt,.inl (l8.self zpc)⟩
  .by_cases cU:k=gs.size
   .subst cU
    rw[if_pos rfl] at hy;cases hy;refine⟨by rw[zqM];simp,?_⟩;rw[un,Me,h.dy.tr.above _ (bN _)];have e0:(gs.size==0)=false:=beq_eq_false_iff_ne.2 aC;exact(pP (T:=⟨.usr lc,.inr (f kc),τc,child⟩) id).2 ⟨f kc,rfl,by rw[e0];exact Io,.inl (l8.self zqM)⟩
   .simp_all
 .by_cases nE:c∈pub
  .rw[zeX nE] at hc;cases hc
  .rw[Wu nE] at hc;exact hc
 .rw[cK]
  refine h.dy.tr.fork (live':=λk=>(U k).ph.live) (by show(T 0).ph.live;rw[hl];trivial) hn ⟨rfl,rfl⟩ ⟨rfl,rfl⟩ hd (λk=>?_) (by show ¬(T gs.size).ph.live;rw[h.st.ou _ (bN _)];exact id) (λk b hk lP hb=>?_) (λk b hk lP hb=>?_) (λb hb=>?_) λb hb=>?_
  .show(U k).ph.live↔(T k).ph.live\/k=gs.size
   by_cases k1:k=0
   .subst k1;rw[u0,hl];exact⟨λ_=>.inl trivial,λ_=>trivial⟩
   .by_cases k2:k=gs.size
    .subst k2;rw[un];exact⟨λ_=>.inr rfl,λ_=>trivial⟩
    simp_all
  .have qU:k≠gs.size:=λe=>by
    subst e;have:(T gs.size).ph.live:=hk;rw[h.st.ou _ (bN _)] at this;exact this
   simp_all
  .have qU:k≠gs.size:=λe=>by
    subst e;have:(T gs.size).ph.live:=hk;rw[h.st.ou _ (bN _)] at this;exact this
   simp_all
  .simp_all
  grind
 .exact Wq (i:=0) (λe=>absurd rfl e) (by rw[cK];omega) hn (by rw[cK];omega) (by rw[u0,hr];exact .inr (.mk f km)) λk hk=>by omega
end
section
variable {L:Type}{P:bT}{ty:aM}{Wg:Nat}{A:jL L}{Fin:bC->aE->Prop}{Shun:Loc->Prop}
variable {gs gs':Array bC}{w w':aE}{t t':l6}{T T':Nat->Td L}{ch vH:rG}{sl:Option (Nat×Nat)}{i j:Nat}{x g':bC}{es:Array oR}
def zke (Wg B:Nat):Nat->List oR->Prop
 |_,[]=>True
 |d,e::es=>((e.mute=true\/(∃a b,e=⟨.cell a,b,true⟩/\a.block=Wg/\0<d))/\Wg<B)/\zke Wg B (n9 d #[e]) es
theorem Y3 {B:Nat}:∀{es:List oR} {d:Nat},zke Wg B d es->∀(l r:List oR) (e:oR),es=l++e::r->(∀a,(jF e).touch? =some a->nJ a.loc Wg/\a.kind=.atomic/\0<n9 d l.toArray)/\jF e≠ .mark (.release (stA Wg))/\(jF e).low B
 |[],d,_,l,r,e,he=>by simp at he
 |y::es,d,h,[],r,e,he=>by
  simp only[List.nil_append,Vk] at he;obtain⟨rfl,rfl⟩:=he;obtain⟨⟨hm|⟨a,b,rfl,ha,hd⟩,hW⟩,_⟩:=h
  .exact zqK (n:=0) (d:=d) (es:=#[y]) (λe he=>by simp_all) [] [] y rfl
  .refine⟨λz hz=>?_,by simp[jF],by simpa[jF,Wy,Loc.low,ha] using hW⟩
   simp only[jF,qZ,jM] at hz;subst hz;exact⟨ha,rfl,hd⟩
 |y::es,d,h,z::l,r,e,he=>by
  simp only[Sr,Vk] at he;obtain⟨rfl,he⟩:=he;have:=Y3 h.2 l r e he;refine⟨λa ha=>?_,this.2⟩;rw[zp4];exact this.1 a ha
def Od {v wt:Nat}{a b:Int}(h:fQ ty Wg w a b):fQ ty Wg (w.setCell (stA Wg) (st v wt)) ((v:Int)*KK+wt) b:=zCc h _
def zrC {a b:Int}(h:fQ ty Wg w a b)(c:Int):fQ ty Wg (w.setCell (smA Wg) (.int .u32 c)) a c:=zE7 h c
def Na (w:aE)(v:aF):Ld Wg w (w.setCell (stA Wg) v):=Yq w (stA Wg) v
def zhw (w:aE)(v:aF):Ld Wg w (w.setCell (smA Wg) v):=Yq w (smA Wg) v
def zie (d:Nat){es:Array oR}(h:∀e∈es,e.loc≠ .mark .disable/\e.loc≠ .mark .enable):n9 d es=d:=zxl h d
theorem Yz (d:Nat)(a:bD):n9 d #[rd a]=d:=zie d (λe he=>by simp at he;subst he;exact⟨by simp[rd],by simp[rd]⟩)
theorem deaf_wr (d:Nat)(a:bD):n9 d #[wr a]=d:=zie d (λe he=>by simp at he;subst he;exact⟨by simp[wr],by simp[wr]⟩)
theorem zeV (d:Nat)(a:bD):n9 d #[rd a,wr a]=d:=zie d (λe he=>by
 simp only[Iu,lO,nM,or_false] at he;rcases he with rfl|rfl<;>exact⟨by simp[rd,wr],by simp[rd,wr]⟩)
theorem zt3 (d:Nat)(a:bD):n9 d (semEvents a)=d:=by
 simp[n9,semEvents]
theorem Lx (p:Nat->Ph L)(n:Nat)(ph':Ph L)(h:ph'.waits):vv A (bH p 0 ph') n=oT p n:=by
 unfold vv zQ;rw[zd3,upd_same];cases ph'<;>first|exact h.elim|rfl
theorem zda (p:Nat->Ph L)(n:Nat)(h:(p 0).waits):vv A p n=oT p n:=by
 have:=Lx (A:=A) p n (p 0) h
 rwa [zeB] at this
theorem Rx {p:Nat->Ph L}{ph':Ph L}(h:∀i,¬(p i).last)(h':¬ph'.last):∀i,¬(bH p 0 ph' i).last:=λi=>by
 by_cases hi:i=0
 .subst hi;rw[upd_same];exact h'
 .rw[upd_ne _ _ hi];exact h i
theorem zx9 {p:Nat->Ph L}:∀{n:Nat},oT p n=0->∀j,j<n->j≠0->(p j).pre=false
 |n+1,h,j,hj,h0=>by
  simp only[oT] at h;by_cases Ux:j=n
  .simp_all
  .exact zx9 (n:=n) aC j aC h0
def Inv.vlt (hA:A.Ok)(h:Inv P ty Wg A Fin Shun gs w t T ch):vv A (λj=>(T j).ph) gs.size<2000000000:=
 Nat.lt_of_le_of_lt (zGZ A _ _ h.st.n0) (hA.few _ ch h.st.inv _)
variable {a:bD}
theorem okRW {own pas:Nat->Prop}{k B:Nat}(hW:Wg<B)(ha:a.block=Wg):∀e∈(#[rd a,wr a]:Array oR),OkL Wg own pas k B e:=by
 intro e he;simp only[Iu,lO,nM,or_false] at he;rcases he with rfl|rfl<;>exact zdD ha hW
theorem okR {own pas:Nat->Prop}{k B:Nat}(hW:Wg<B)(ha:a.block=Wg):∀e∈(#[rd a]:Array oR),OkL Wg own pas k B e:=by
 intro e he;simp only[Iu,lO,nM,or_false] at he;subst he;exact zdD ha hW
theorem okSem {own pas:Nat->Prop}{k B:Nat}(hW:Wg<B)(ha:a.block=Wg):∀e∈semEvents a,OkL Wg own pas k B e:=by
 intro e he;simp only[semEvents,Iu,lO,nM,or_false] at he;rcases he with rfl|rfl|rfl|rfl
 .exact zdx rfl
 .exact zdD ha hW
 .exact zdD ha hW
 .exact zdx rfl
theorem zt4 (T:Nat->Td L){ph':Ph L}(h:ph'.proj=(T i).ph.proj):bH (λj=>(T j).ph.proj) i ph'.proj=λj=>(T j).ph.proj:=by rw[h];exact zeB (λj=>(T j).ph.proj) i
theorem Inv.add (hA:A.Ok)(h:Inv P ty Wg A Fin Shun gs w t T ch)(hi:gs[i]? =some x)(dK:l8 x (T i).g){ι:Type}{f:ι->Rk}(hr:(T i).r=.inr (.mk ι f)){l:L}(hl:(T i).ph=.usr l){nx:L}
 (ha:A.act l=.add nx) (hB:mR P ty Wg A (λm ph d τ g w=>∃k,oU P ty Wg A Fin (f k) m ph d τ g w) (i==0) l (gX t i) (T i).τ (T i).g w):vP P ty Wg A Fin Shun gs w t T sl i:=by
 unfold mR at hB;rw[ha] at hB;have hp:(λk=>(T k).ph.proj) i=.run l:=by show(T i).ph.proj=_;rw[hl];rfl
 obtain⟨rfl,Nl,yY,hinv⟩:=hA.add _ ch i l nx h.st.inv hp ha;have hg:=h.st.grp;unfold gM at hg;simp only[hl] at hg;have hv:=h.vlt hA;obtain⟨g',aX,mI,k,hk⟩:=hB w bX.refl _ aC hg.1;have gQ:vv A (λj=>(T j).ph) gs.size=oT (λj=>(T j).ph) gs.size:=by unfold vv zQ;simp only[hl,Nl];rfl
 have pD:vv A (bH (λj=>(T j).ph) 0 (.usr nx)) gs.size=oT (λj=>(T j).ph) gs.size+1:=by unfold vv zQ;rw[zd3,upd_same];simp[yY]
 have cO:=Od (v:=vv A (λj=>(T j).ph) gs.size+1) (wt:=0) hg.1;refine h.alive hi dK aX mI hr (by rw[hl];trivial) (ph':=.usr nx) trivial (Na _ _) (λ_=>⟨_,_,cO⟩) ⟨k,by rw[zeV];exact hk⟩ (λe=>absurd rfl e) ?_ hinv (λe=>by have:=(zc3 e cO).2;omega) (okRW zwe rfl);unfold gM;rw[upd_same];refine⟨?_,Rx hg.2 id⟩;rw[pD,<-gQ];simpa using cO
theorem Inv.look (hA:A.Ok)(h:Inv P ty Wg A Fin Shun gs w t T ch)(hi:gs[0]? =some x)(dK:l8 x (T 0).g){ι:Type}{f:ι->Rk}(hr:(T 0).r=.inr (.mk ι f))(nU:(∃b,(T 0).ph=.w1 b)\/∃l,(T 0).ph=.usr l/\A.act l=.wait)
 (hB:∀aJ,bX ty Wg (T 0).τ w aJ->∀v:Nat,(∀b,(T 0).ph=.w1 b->v<b)->v<2147483648->fQ ty Wg aJ (v*KK) 0->∃g',stepG P true (T 0).g aJ=.go g' aJ #[rd (stA Wg)]/\g'.status=.running/\
  (v=0->∃k,oU P ty Wg A Fin (f k) true .w5 (gX t 0) (T 0).τ g' aJ)/\(v≠0->∃k,oU P ty Wg A Fin (f k) true (.w2 v) (gX t 0) (T 0).τ g' aJ)):vP P ty Wg A Fin Shun gs w t T sl 0:=by
 have hv:=h.vlt hA;have hg:fQ ty Wg w (vv A (λj=>(T j).ph) gs.size*KK) 0/\∀i,¬(T i).ph.last:=by
  have hg:=h.st.grp;unfold gM at hg;rcases nU with⟨b,e⟩|⟨l,e,_⟩<;>simp only[e] at hg
  .exact⟨hg.1,hg.2.1⟩
  .exact hg
 have eR:∀b,(T 0).ph=.w1 b->vv A (λj=>(T j).ph) gs.size<b:=λb e=>by
  have hg:=h.st.grp;unfold gM at hg;simp only[e] at hg;exact hg.2.2
 have nI:(T 0).ph.live:=h.st.role0;have Du:vv A (λj=>(T j).ph) gs.size=oT (λj=>(T j).ph) gs.size:=by
  rcases nU with⟨b,e⟩|⟨l,e,ha⟩
  .exact zda _ _ (by show(T 0).ph.waits;rw[e];trivial)
  .have:=(hA.wait _ ch 0 l h.st.inv (by show(T 0).ph.proj=_;rw[e];rfl) ha).2.1
   unfold vv zQ;simp only[e,this];rfl
 have hinv:A.Inv (bH (λj=>(T j).ph.proj) 0 .waits) ch:=by
  rcases nU with⟨b,e⟩|⟨l,e,ha⟩
  .have:=zt4 T (i:=0) (ph':=.w1 b) (by rw[e])
   rw[show(Ph.w1 b:Ph L).proj=.waits from rfl] at this;rw[this];exact h.st.inv
  .exact(hA.wait _ ch 0 l h.st.inv (by show(T 0).ph.proj=_;rw[e];rfl) ha).2.2
 obtain⟨g',aX,mI,h0,h1⟩:=hB w bX.refl _ eR aC hg.1;by_cases hz:vv A (λj=>(T j).ph) gs.size=0
 .obtain⟨k,hk⟩:=h0 hz
  refine h.alive hi dK aX mI hr nI (ph':=.w5) trivial (Og _ _) id ⟨k,by rw[Yz];exact hk⟩ (λe=>absurd rfl e) ?_ hinv id (okR h.st.grp.live.lt rfl);unfold gM;rw[upd_same];refine⟨by rw[Lx _ _ .w5 trivial,<-Du];exact hz,Rx hg.2 id,?_⟩;have:=hg.1;rw[hz] at this;simpa using this
 .obtain⟨k,hk⟩:=h1 hz
  refine h.alive hi dK aX mI hr nI (ph':=.w2 (vv A (λj=>(T j).ph) gs.size)) trivial (Og _ _) id ⟨k,by rw[Yz];exact hk⟩ (λe=>absurd rfl e) ?_ hinv id (okR h.st.grp.live.lt rfl);unfold gM;rw[upd_same];refine⟨?_,Rx hg.2 id,?_,Nat.pos_of_ne_zero hz⟩
  .rw[Lx _ _ (.w2 _) trivial,<-Du];exact hg.1
  .rw[Lx _ _ (.w2 _) trivial,<-Du];exact bN _
theorem invW (h:Inv P ty Wg A Fin Shun gs w t T ch){ph':Ph L}(hw:(T 0).ph.waits)(rJ:ph'.waits):A.Inv (bH (λj=>(T j).ph.proj) 0 ph'.proj) ch:=by
 rw[zt4 T]
 .exact h.st.inv
 .cases hp:(T 0).ph<;>rw[hp] at hw<;>first|exact hw.elim|(cases ph'<;>first|exact rJ.elim|rfl)
theorem Inv.cas (hA:A.Ok)(h:Inv P ty Wg A Fin Shun gs w t T ch)(hi:gs[0]? =some x)(dK:l8 x (T 0).g){ι:Type}{f:ι->Rk}(hr:(T 0).r=.inr (.mk ι f)){vs:Nat}(nU:(T 0).ph=.w2 vs)
 (hB:Ai P ty Wg A Fin (λm ph d τ g w=>∃k,oU P ty Wg A Fin (f k) m ph d τ g w) true (.w2 vs) (gX t 0) (T 0).τ (T 0).g w):vP P ty Wg A Fin Shun gs w t T sl 0:=by
 have hv:=h.vlt hA;have hg:=h.st.grp;unfold gM at hg;simp only[nU] at hg;obtain⟨h1,h2,h3,h4⟩:=hg;have b9:(T 0).ph.waits:=by rw[nU];trivial
 have Du:vv A (λj=>(T j).ph) gs.size=oT (λj=>(T j).ph) gs.size:=zda _ _ b9;have nI:(T 0).ph.live:=h.st.role0;obtain⟨ha,hb⟩:=hB w bX.refl _ aC h1;rcases uE (vv A (λj=>(T j).ph) gs.size) vs with aU|Cr
 .obtain⟨g',aX,mI,k,hk⟩:=hb aU
  refine h.alive hi dK aX mI hr nI (ph':=.w1 vs) trivial (Og _ _) id ⟨k,by rw[Yz];exact hk⟩ (λe=>absurd rfl e) ?_ (invW h b9 trivial) id (okR h.st.grp.live.lt rfl);unfold gM;rw[upd_same];exact⟨by rw[Lx _ _ (.w1 vs) trivial,<-Du];exact h1,Rx h2 id,by rw[Lx _ _ (.w1 vs) trivial,<-Du];exact aU⟩
 .obtain⟨g',aX,mI,k,hk⟩:=ha aC
  have cO:=Od (v:=vv A (λj=>(T j).ph) gs.size) (wt:=1) h1;refine h.alive hi dK aX mI hr nI (ph':=.w3) trivial (Na _ _) (λ_=>⟨_,_,cO⟩) ⟨k,by rw[zeV];exact hk⟩ (λe=>absurd rfl e) ?_ (invW h b9 trivial) (λe=>by have:=(zc3 e cO).2;omega) (okRW zwe rfl);unfold gM;rw[upd_same];refine .inl ⟨?_,?_,Rx h2 id⟩
  .rw[Lx _ _ .w3 trivial,<-Du];omega
  .rw[Lx _ _ .w3 trivial,<-Du];exact cO
theorem Inv.sleep (hA:A.Ok)(h:Inv P ty Wg A Fin Shun gs w t T ch)(hi:gs[0]? =some x)(dK:l8 x (T 0).g){ι:Type}{f:ι->Rk}(hr:(T 0).r=.inr (.mk ι f))(nU:(T 0).ph=.w3)
 (hB:Ai P ty Wg A Fin (λm ph d τ g w=>∃k,oU P ty Wg A Fin (f k) m ph d τ g w) true .w3 (gX t 0) (T 0).τ (T 0).g w):vP P ty Wg A Fin Shun gs w t T sl 0:=by
 have hg:=h.st.grp;unfold gM at hg;simp only[nU] at hg;have b9:(T 0).ph.waits:=by rw[nU];trivial
 have Du:vv A (λj=>(T j).ph) gs.size=oT (λj=>(T j).ph) gs.size:=zda _ _ b9;have nI:(T 0).ph.live:=h.st.role0;obtain⟨ho,hB⟩:=hB;obtain⟨ha,hb⟩:=hB w bX.refl;have zIl:(∃x,fQ ty Wg w x 0)\/(vv A (λj=>(T j).ph) gs.size=0/\(∀i,¬(T i).ph.last)/\fQ ty Wg w 0 1):=by
  rcases hg with⟨_,h1,_⟩|⟨_,_,_,_,⟨_,h1⟩|⟨_,h1⟩⟩|h1
  .exact .inl ⟨_,h1⟩
  .exact .inl ⟨_,h1⟩
  .exact .inl ⟨_,h1⟩
  .exact .inr h1
 rcases zIl with h0|⟨h1,h2,h3⟩
 .have aX:=ha h0
  have vB:stepG P (0==0) x w=.go {(T 0).g with status:=.blocked} w #[]:=by rw[show((0:Nat)==0)=true from rfl,dK.step];exact aX
  have cH:=Ye (sl:=sl) hi vB;have ew:woken P x {(T 0).g with status:=.blocked} w=id:=by
   funext o;simp[woken]
  rw[ew,Array.map_id,zf0] at cH;obtain⟨y,hy⟩:=h0
  have hp:=h.park hi dK.1 (by rw[nU];exact id) (y:={(T 0).g with status:=.blocked}) rfl (.inr ⟨nU,rfl,ho⟩) (λ_ _ e=>by grind)
   (λc v z sh g e=>by
    have:=congrArg zod e;simp[parked,ho] at this)
   (λc z sh g e=>by
    have:=congrArg zod e;simp[parked,ho] at this)
  exact⟨_,_,cH,.inr ⟨_,_,sl,T,ch,rfl,hp.1,hp.2⟩⟩
 .obtain⟨g',aX,mI,k,hk⟩:=hb h3
  have cO:=zrC h3 0;refine h.alive hi dK aX mI hr nI (ph':=.w4) trivial (zhw _ _) (λ_=>⟨_,_,cO⟩) ⟨k,by rw[zt3];exact hk⟩ (λe=>absurd rfl e) ?_ (invW h b9 trivial) (λe=>by omega) (okSem (by rw[(zhw w _).size];exact h.st.grp.live.lt) rfl);unfold gM;rw[upd_same];exact⟨by rw[Lx _ _ .w4 trivial,<-Du];exact h1,Rx h2 id,cO⟩
theorem Inv.woke (hA:A.Ok)(h:Inv P ty Wg A Fin Shun gs w t T ch)(hi:gs[0]? =some x)(dK:l8 x (T 0).g){ι:Type}{f:ι->Rk}(hr:(T 0).r=.inr (.mk ι f))(nU:(T 0).ph=.w4)
 (hB:Ai P ty Wg A Fin (λm ph d τ g w=>∃k,oU P ty Wg A Fin (f k) m ph d τ g w) true .w4 (gX t 0) (T 0).τ (T 0).g w):vP P ty Wg A Fin Shun gs w t T sl 0:=by
 have hg:=h.st.grp;unfold gM at hg;simp only[nU] at hg;have b9:(T 0).ph.waits:=by rw[nU];trivial
 have Du:vv A (λj=>(T j).ph) gs.size=oT (λj=>(T j).ph) gs.size:=zda _ _ b9;obtain⟨g',aX,mI,k,hk⟩:=hB w bX.refl hg.2.2;refine h.alive hi dK aX mI hr h.st.role0 (ph':=.w5) trivial (Og _ _) id ⟨k,by rw[Yz];exact hk⟩ (λe=>absurd rfl e) ?_ (invW h b9 trivial) id (okR h.st.grp.live.lt rfl);unfold gM;rw[upd_same];exact⟨by rw[Lx _ _ .w5 trivial,<-Du];exact hg.1,Rx hg.2.1 id,hg.2.2⟩
theorem Inv.fin (hA:A.Ok)(h:Inv P ty Wg A Fin Shun gs w t T ch)(hi:gs[0]? =some x)(dK:l8 x (T 0).g){ι:Type}{f:ι->Rk}(hr:(T 0).r=.inr (.mk ι f))(nU:(T 0).ph=.w5)
 (hB:Ai P ty Wg A Fin (λm ph d τ g w=>∃k,oU P ty Wg A Fin (f k) m ph d τ g w) true .w5 (gX t 0) (T 0).τ (T 0).g w):vP P ty Wg A Fin Shun gs w t T sl 0:=by
 have hg:=h.st.grp;unfold gM at hg;simp only[nU] at hg;obtain⟨h1,h2,h3⟩:=hg;have Du:vv A (λj=>(T j).ph) gs.size=oT (λj=>(T j).ph) gs.size:=zda _ _ (by show(T 0).ph.waits;rw[nU];trivial);have Qf:∀j,j≠0->(T j).ph.leaves:=by
  intro j hj;rcases uE j gs.size with aU|Cr
  .have e1:=zx9 (p:=λj=>(T j).ph) (by rw[<-Du];exact h1) j aU hj
   have e2:=h2 j;have e3:=h.st.role j hj;cases hp:(T j).ph<;>simp only[hp] at e1 e2 e3<;>first|trivial|(simp[Ph.pre] at e1;done)|exact absurd trivial e2|exact absurd trivial e3
  .rw[h.st.ou j Cr];trivial
 obtain⟨hd,hB⟩:=hB;have K5:(λj=>(T j).ph.proj) 0=.waits:=by show(T 0).ph.proj=_;rw[nU];rfl
 have Dv:∀(j:Nat) (l:L),(λj=>(T j).ph.proj) j≠ .run l:=λj l e=>by
  have e':(T j).ph.proj=.run l:=e;by_cases hj:j=0
  .simp_all
  .have:=Qf j hj
   cases hp:(T j).ph<;>rw[hp] at e' this<;>first|exact this.elim|cases e'
 obtain⟨g',aX,mI,hF⟩:=hB w bX.refl ⟨λj=>(T j).ph.proj,ch,h.st.inv,K5,Dv,λj l e=>h.st.depo j l e w bX.refl⟩;exact h.acquire hi dK aX mI hd Qf hF
theorem Inv.dec (hA:A.Ok)(h:Inv P ty Wg A Fin Shun gs w t T ch)(hi:gs[i]? =some x)(dK:l8 x (T i).g){ι:Type}{f:ι->Rk}(hr:(T i).r=.inr (.mk ι f)){l:L}(nU:(T i).ph=.rel l)
 (hB:Ai P ty Wg A Fin (λm ph d τ g w=>∃k,oU P ty Wg A Fin (f k) m ph d τ g w) (i==0) (.rel l) (gX t i) (T i).τ (T i).g w):vP P ty Wg A Fin Shun gs w t T sl i:=by
 have aU:i<gs.size:=(eE.1 hi).1;have hv:=h.vlt hA;have h0:i≠0:=λe=>by subst e;have:=h.st.role0;rw[nU] at this;exact this
 have o9:¬(T i).ph.live:=by rw[nU];exact id
 have Be:(T i).ph≠ .gone:=by rw[nU];simp
 have Wo:Wg<w.heap.size:=h.st.grp.live.lt;have key:∀ph':Ph L,ph'.pre=false->vv A (bH (λj=>(T j).ph) i ph') gs.size+1=vv A (λj=>(T j).ph) gs.size:=by
  intro ph' hp;have:=zd1 (λj=>(T j).ph) (i:=i) (n:=gs.size) ph' aU h0;unfold vv;rw[zfo A _ h0];rw[hp] at this;simp only[nU,Ph.pre,if_true,gK,if_false] at this;omega
 have k1:=key (.quit l) rfl;have k2:=key (.l1 l) rfl;have zhq:(∀j,¬(T j).ph.last)->∀j,¬(bH (λj=>(T j).ph) i (.quit l) j).last:=λhn j=>by
  by_cases hj:j=i
  .subst hj;rw[upd_same];exact id
  .rw[upd_ne _ _ hj];exact hn j
 have oN:∀e:0<gX t i,∀B,Wg<B->zke Wg B (gX t i) [rd (stA Wg),wr (stA Wg)]:=λe B hB=>
  ⟨⟨.inr ⟨stA Wg,false,rfl,rfl,e⟩,hB⟩,⟨.inr ⟨stA Wg,true,rfl,rfl,by rw[Yz];exact e⟩,hB⟩,trivial⟩
 have u0:bH (λj=>(T j).ph) i (.quit l) 0=(T 0).ph:=upd_ne _ _ (Ne.symm h0);have u1:bH (λj=>(T j).ph) i (.l1 l) 0=(T 0).ph:=upd_ne _ _ (Ne.symm h0)
 have quit:∀(v wt:Nat),wt<=1->fQ ty Wg w ((v+1:Nat)*KK+wt) 0->vv A (λj=>(T j).ph) gs.size=v+1->¬(v=0/\wt=1)->
  gM A ty Wg (bH (λj=>(T j).ph) i (.quit l)) gs.size (w.setCell (stA Wg) (Mt.st v wt))->vP P ty Wg A Fin Shun gs w t T sl i:=by
  intro v wt b9 hW vX aS Bc;obtain⟨g',aX,mI,hd,_,hq⟩:=hB w bX.refl v wt b9 aC hW;obtain⟨q,hQ⟩:=hq aS;have cO:=Od (v:=v) (wt:=wt) hW
  exact h.dead hi dK aX Kd (Ti:=⟨.quit l,.inl q,(T i).τ,g'⟩) (by rw[hr];exact .sep _ _) rfl o9 Be h0 id aQ (Na _ _) (λ_=>⟨_,_,cO⟩)
   ((Hm (T:=⟨.quit l,.inl q,(T i).τ,g'⟩) trivial).2 ⟨q,rfl,by rw[zeV];exact hQ⟩) (by rw[nU];rfl) Bc (.inr λe=>by have:=(zc3 e cO).2;omega) (Y3 (oN hd _ (by rw[(Na w _).size];exact Wo)))
 have hg:=h.st.grp;unfold gM at hg;have norm:∀v:Nat,((v:Int)*KK)=((v:Nat):Int)*KK+((0:Nat):Int):=λv=>by simp
 have pos:0<vv A (λj=>(T j).ph) gs.size:=aC;obtain⟨v,vX⟩:∃v,vv A (λj=>(T j).ph) gs.size=v+1:=⟨_,(Nat.succ_pred_eq_of_pos pos).symm⟩;have e1:vv A (bH (λj=>(T j).ph) i (.quit l)) gs.size=v:=aC;have e2:vv A (bH (λj=>(T j).ph) i (.l1 l)) gs.size=v:=aC
 cases yJ:(T 0).ph with
 |gone=>have:=h.st.role0;rw[yJ] at this;exact this.elim
 |rel _=>have:=h.st.role0;rw[yJ] at this;exact this.elim
 |l1 _=>have:=h.st.role0;rw[yJ] at this;exact this.elim
 |l2 _=>have:=h.st.role0;rw[yJ] at this;exact this.elim
 |l3 _=>have:=h.st.role0;rw[yJ] at this;exact this.elim
 |quit _=>have:=h.st.role0;rw[yJ] at this;exact this.elim
 |usr l0=>
  simp only[yJ] at hg;rw[vX] at hg;refine quit v 0 aC zlr vX aC ?_;unfold gM;rw[u0,yJ];simp only;exact⟨by rw[e1];simpa using Od (v:=v) (wt:=0) hg.1,zhq hg.2⟩
 |w1 b=>
  simp only[yJ] at hg;rw[vX] at hg;refine quit v 0 aC zlr vX aC ?_;unfold gM;rw[u0,yJ];simp only;exact⟨by rw[e1];simpa using Od (v:=v) (wt:=0) hg.1,zhq hg.2.1,aC⟩
 |w2 vs=>
  simp only[yJ] at hg;rw[vX] at hg;refine quit v 0 aC zlr vX aC ?_;unfold gM;rw[u0,yJ];simp only;exact⟨by rw[e1];simpa using Od (v:=v) (wt:=0) hg.1,zhq hg.2.1,aC,hg.2.2.2⟩
 |w4=>simp only[yJ] at hg;omega
 |w5=>simp only[yJ] at hg;omega
 |w3=>
  simp only[yJ] at hg;rcases hg with⟨_,hW,hn⟩|⟨hz,_⟩|⟨hz,_⟩
  .rw[vX] at hW
   have Wx:fQ ty Wg w ((v+1:Nat)*KK+(1:Nat)) 0:=by simpa using hW
   by_cases gQ:v=0
   .obtain⟨g',aX,mI,hd,hk,_⟩:=hB w bX.refl v 1 aC aC Wx
    obtain⟨k,hk⟩:=hk ⟨gQ,rfl⟩;have cO:=Od (v:=v) (wt:=1) Wx
    refine h.dead hi dK aX Kd (Ti:=⟨.l1 l,.inr (f k),(T i).τ,g'⟩) Pw rfl o9 Be h0 id aQ (Na _ _) (λ_=>⟨_,_,cO⟩)
     ((pP (T:=⟨.l1 l,.inr (f k),(T i).τ,g'⟩) id).2 ⟨f k,rfl,by rw[zeV];exact hk,.inl (l8.self mI)⟩) (by rw[nU];rfl) ?_ (.inr λe=>by have:=(zc3 e cO).2;omega) (Y3 (oN hd _ (by rw[(Na w _).size];exact Wo)))
    unfold gM;rw[u1,yJ];simp only;refine .inr (.inl ⟨aC,i,l,λj hj=>?_,.inl ⟨.inl (upd_same _ _ _),?_⟩⟩)
    .by_cases fD:j=i
     .exact fD
     .rw[upd_ne _ _ fD] at hj;exact absurd hj (hn j)
    .subst gQ;simpa using cO
   .refine quit v 1 aC Wx vX aC ?_
    unfold gM;rw[u0,yJ];simp only;exact .inl ⟨aC,by rw[e1];simpa using Od (v:=v) (wt:=1) Wx,zhq hn⟩
  .omega
  .omega
theorem Inv.lastGrp (h:Inv P ty Wg A Fin Shun gs w t T ch)(hl:(T i).ph.last):(T 0).ph=.w3/\vv A (λj=>(T j).ph) gs.size=0/\(∀j,(T j).ph.last->j=i)/\((∃l,((T i).ph=.l1 l\/(T i).ph=.l2 l))/\fQ ty Wg w 1 0\/(∃l,(T i).ph=.l3 l)/\fQ ty Wg w 0 0):=by
 have hg:=h.st.grp;unfold gM at hg
 grind
theorem Inv.last (hA:A.Ok)(h:Inv P ty Wg A Fin Shun gs w t T ch)(hi:gs[i]? =some x)(dK:l8 x (T i).g){ι:Type}{f:ι->Rk}(hr:(T i).r=.inr (.mk ι f))(hl:(T i).ph.last)
 (hB:Ai P ty Wg A Fin (λm ph d τ g w=>∃k,oU P ty Wg A Fin (f k) m ph d τ g w) (i==0) (T i).ph (gX t i) (T i).τ (T i).g w):vP P ty Wg A Fin Shun gs w t T sl i:=by
 have aU:=(eE.1 hi).1;obtain⟨h3,hz,hu,hc⟩:=h.lastGrp hl;have h0:i≠0:=λe=>by subst e;rw[h3] at hl;exact hl
 have o9:¬(T i).ph.live:=λe=>by cases hp:(T i).ph<;>rw[hp] at hl e<;>first|exact hl.elim|exact e.elim
 have Be:(T i).ph≠ .gone:=λe=>by rw[e] at hl;exact hl
 have Wo:=h.st.grp.live.lt;have zmi:(T i).ph.pre=false:=by cases hp:(T i).ph<;>rw[hp] at hl<;>first|exact hl.elim|rfl
 have key:∀ph':Ph L,ph'.pre=false->vv A (bH (λj=>(T j).ph) i ph') gs.size=0:=by
  intro ph' hp;have:=zd1 (λj=>(T j).ph) (i:=i) (n:=gs.size) ph' aU h0;rw[hp,zmi] at this;unfold vv at hz⊢;rw[zfo A _ h0];simp only[gK,if_false] at this;omega
 have zde:∀ph':Ph L,∀j,(bH (λj=>(T j).ph) i ph' j).last->j=i:=λph' j hj=>by
  by_cases fD:j=i
  .exact fD
  .rw[upd_ne _ _ fD] at hj;exact hu j hj
 have u0:∀ph':Ph L,bH (λj=>(T j).ph) i ph' 0=.w3:=λph'=>(upd_ne _ _ (Ne.symm h0)).trans h3;rcases hc with⟨⟨l,hp|hp⟩,hW⟩|⟨⟨l,hp⟩,hW⟩
 .simp only[hp] at hB
  obtain⟨g',aX,mI,hd,k,hk⟩:=hB w bX.refl hW
  refine h.dead hi dK aX Kd (Ti:=⟨.l2 l,.inr (f k),(T i).τ,g'⟩) Pw rfl o9 Be h0 id aQ (Og _ _) id
   ((pP (T:=⟨.l2 l,.inr (f k),(T i).τ,g'⟩) id).2 ⟨f k,rfl,by rw[Yz];exact hk,.inl (l8.self mI)⟩) (by rw[hp];rfl) ?_ (.inr id) (Y3 (es:=[rd (stA Wg)]) ⟨⟨.inr ⟨stA Wg,false,rfl,rfl,hd⟩,Wo⟩,trivial⟩)
  unfold gM;rw[u0];exact .inr (.inl ⟨key _ rfl,i,l,zde _,.inl ⟨.inr (upd_same _ _ _),hW⟩⟩)
 .simp only[hp] at hB
  obtain⟨g',aX,mI,hd,k,hk⟩:=hB w bX.refl hW;have cO:=Od (v:=0) (wt:=0) hW;have nZ:fQ ty Wg (w.setCell (stA Wg) (Mt.st 0 0)) 0 0:=by simpa using cO
  refine h.dead hi dK aX Kd (Ti:=⟨.l3 l,.inr (f k),(T i).τ,g'⟩) Pw rfl o9 Be h0 id aQ (Na _ _) (λ_=>⟨_,_,nZ⟩)
   ((pP (T:=⟨.l3 l,.inr (f k),(T i).τ,g'⟩) id).2 ⟨f k,rfl,by rw[deaf_wr];exact hk,.inl (l8.self mI)⟩) (by rw[hp];rfl) ?_ (.inr λe=>by have:=(zc3 e nZ).2;omega)
   (Y3 (es:=[wr (stA Wg)]) ⟨⟨.inr ⟨stA Wg,true,rfl,rfl,hd⟩,by rw[(Na w _).size];exact Wo⟩,trivial⟩)
  unfold gM;rw[u0];exact .inr (.inl ⟨key _ rfl,i,l,zde _,.inr ⟨upd_same _ _ _,nZ⟩⟩)
 .simp only[hp] at hB
  obtain⟨zb1,hB⟩:=hB;obtain⟨g',aX,mI,hd,q,hQ⟩:=hB w bX.refl hW;have cO:=zrC hW 1;have zfY:Wg<(w.setCell (smA Wg) (.int .u32 1)).heap.size:=by rw[(zhw w _).size];exact Wo
  refine h.dead hi dK aX Kd (Ti:=⟨.quit l,.inl q,(T i).τ,g'⟩) (by rw[hr];exact .sep _ _) rfl o9 Be h0 id aQ (zhw _ _) (λ_=>⟨_,_,cO⟩)
   ((Hm (T:=⟨.quit l,.inl q,(T i).τ,g'⟩) trivial).2 ⟨q,rfl,by rw[zt3];exact hQ⟩) (by rw[hp];rfl) ?_ (.inl ⟨zb1,mI⟩)
   (Y3 (es:=[⟨.mark .disable,false,true⟩,⟨.cell (smA Wg),false,true⟩,⟨.cell (smA Wg),true,true⟩,⟨.mark .enable,false,true⟩]) ⟨⟨.inl rfl,zfY⟩,⟨.inr ⟨_,_,rfl,rfl,by simp[n9]⟩,zfY⟩,⟨.inr ⟨_,_,rfl,rfl,by simp[n9]⟩,zfY⟩,⟨.inl rfl,zfY⟩,trivial⟩)
  unfold gM;rw[u0];refine .inr (.inr ⟨key _ rfl,λj hj=>?_,cO⟩);have:=zde _ j hj;subst this;rw[upd_same] at hj;exact hj
theorem Inv.note (hA:A.Ok)(h:Inv P ty Wg A Fin Shun gs w t T ch)(hi:gs[i]? =some x)(dK:l8 x (T i).g){ι:Type}{f:ι->Rk}(hr:(T i).r=.inr (.mk ι f)){l l':L}(hl:(T i).ph=.usr l){can:L->Prop}(ha:A.act l=.note can)(hc:can l')
 {k:ι} (hk:oU P ty Wg A Fin (f k) (i==0) (.usr l') (gX t i) (T i).τ (T i).g w):Inv P ty Wg A Fin Shun gs w t (bH T i ⟨.usr l',.inr (f k),(T i).τ,(T i).g⟩) ch/\Mu.lt (mu gs (bH T i ⟨.usr l',.inr (f k),(T i).τ,(T i).g⟩)) (mu gs T):=by
 have aU:=(eE.1 hi).1;have hp:(λk=>(T k).ph.proj) i=.run l:=by show(T i).ph.proj=_;rw[hl];rfl
 obtain⟨zjf,hinv⟩:=hA.note _ ch i l can l' h.st.inv hp ha hc;have Bc:=gM.usr (l:=l) h.st.grp hl aU zjf;have hS:=h.st.phase (r:=.inr (f k)) (g':=(T i).g) (by rw[hl];simp) aU (Og _ _) (.usr l') aQ (λ_=>trivial) (λ_ e=>e) id (λl' e=>by simp[Ph.proj] at e) Bc hinv;refine⟨⟨hS,?_⟩,?_⟩
 .refine h.dy.gen (λk'=>k'=i) (λk' cU=>⟨rfl,upd_ne _ _ cU⟩) (λk' y cU hy=>?_) (λ_ _=>bX.refl) (λk' _=>rfl) (λ_ e=>e) id ?_
  .subst cU
   rw[hi] at hy;cases hy;refine⟨by rw[dK.1];simp,?_⟩;rw[upd_same];exact(pP (T:=⟨.usr l',.inr (f k),(T k').τ,(T k').g⟩) id).2 ⟨f k,rfl,hk,.inl dK⟩
  .exact h.dy.tr.phase (i:=i) (ph':=.usr l') (.inr (f k)) (T i).g ⟨λ_=>by rw[hl];trivial,λ_=>trivial⟩
 .exact Wq (i:=i) (λ_=>rfl) aC aU aU zoe λk' cU=>by rw[upd_ne _ _ aC]
def ResT (P:bT)(ty:aM)(Wg:Nat)(A:jL L)(Fin:bC->aE->Prop)(Shun:Loc->Prop)(gs:Array bC)(w:aE)(t:l6)(T:Nat->Td L)(sl:Option (Nat×Nat))(i:Nat):Prop:=
 ∃m' ops,runT P (crowd gs w sl) i=(.next m',ops)/\
  (Oo P Wg Fin Shun m' (t++ops)\/∃gs' w' Md T' vH,m'=crowd gs' w' Md/\Inv P ty Wg A Fin Shun gs' w' (t++ops) T' vH/\Relation.TransGen Mu.lt (mu gs' T') (mu gs T))
theorem qN (h:vP P ty Wg A Fin Shun gs w t T sl i):ResT P ty Wg A Fin Shun gs w t T sl i:=by
 obtain⟨m',ops,h1,h2⟩:=h;refine⟨m',ops,h1,h2.imp id ?_⟩;rintro⟨a,b,c,d,e,h3,h4,h5⟩;exact⟨a,b,c,d,e,h3,h4,.single h5⟩
theorem Inv.stepR (hA:A.Ok)(hi:gs[i]? =some x)(cH:x.status=.running):∀(r:Rk) {T:Nat->Td L},Inv P ty Wg A Fin Shun gs w t T ch->(T i).r=.inr r->ResT P ty Wg A Fin Shun gs w t T sl i:=by
 intro r
 induction r with
 |mk ι f ih=>
  intro T h hr;by_cases hl:(T i).ph.leaves
  .exact qN (h.leaver hi cH hl)
  have hs:=h.dy.sit i x hi;rw[pP hl] at hs;obtain⟨r',y4,hB,hx⟩:=hs;obtain rfl:r'=.mk ι f:=by simp_all
  have dK:l8 x (T i).g:=by
   rcases hx with hx|⟨_,_,_,_,rfl,_⟩|⟨_,rfl,_⟩
   .exact hx
   .cases cH
   .cases cH
  obtain⟨_,hB⟩:=hB;have hK:∀m ph d τ g w,(λm ph d τ g w=>∃k,oU P ty Wg A Fin (f k) m ph d τ g w) m ph d τ g w->∃k,oU P ty Wg A Fin (f k) m ph d τ g w:=λ_ _ _ _ _ _ e=>e;have main:(T i).ph.waits->i=0:=λe=>zU λh0=>h.st.role i h0 e;rcases hB with hB|hB
  .cases hp:(T i).ph<;>rw[hp] at hB<;>first|exact hB.elim|skip
   .exact qN (h.ownG hi dK Dn hr hK Xx)
   .exact qN (h.idle1 hi dK zfk hl hr hK zeb)
   .exact qN (h.idle1 hi dK zfk hl hr hK zeb)
   .exact qN (h.idle1 hi dK zfk hl hr hK zeb)
   .exact qN (h.idle1 hi dK zfk hl hr hK zeb)
   .exact qN (h.ownG hi dK Dn hr hK Xx)
   .exact qN (h.ownG hi dK Dn hr hK Xx)
   .exact qN (h.ownG hi dK Dn hr hK Xx)
   .exact qN (h.ownG hi dK Dn hr hK Xx)
   .exact qN (h.ownG hi dK Dn hr hK Xx)
  .cases hp:(T i).ph with
   |gone=>rw[hp] at hB;exact hB.elim
   |quit l=>rw[hp] at hB;exact hB.elim
   |rel l=>rw[hp] at hB;exact qN (h.dec hA hi dK hr hp hB)
   |l1 l=>exact qN (h.last hA hi dK hr Dn hB)
   |l2 l=>exact qN (h.last hA hi dK hr Dn hB)
   |l3 l=>exact qN (h.last hA hi dK hr Dn hB)
   |w1 b=>
    obtain rfl:=main Dn;rw[hp] at hB;exact qN (h.look hA hi dK hr (.inl ⟨b,hp⟩) λaJ lK v hv=>hB aJ lK v (hv b hp))
   |w2 v=>
    obtain rfl:=main Dn;rw[hp] at hB;exact qN (h.cas hA hi dK hr hp hB)
   |w3=>
    obtain rfl:=main Dn;rw[hp] at hB;exact qN (h.sleep hA hi dK hr hp hB)
   |w4=>
    obtain rfl:=main Dn;rw[hp] at hB;exact qN (h.woke hA hi dK hr hp hB)
   |w5=>
    obtain rfl:=main Dn;rw[hp] at hB;exact qN (h.fin hA hi dK hr hp hB)
   |usr l=>
    rw[hp] at hB;simp only[Ai] at hB
    cases ha:A.act l with
    |send c ok pub nx=>exact qN (h.send hA hi dK hr hp ha hB)
    |recv c ok nx sh=>exact qN (h.recv hA hi dK hr hp ha hB)
    |close c nx=>exact qN (h.close hA hi dK hr hp ha hB)
    |add nx=>exact qN (h.add hA hi dK hr hp ha hB)
    |spawn pub lc nx=>exact qN (h.spawn hA hi dK hr hp ha hB)
    |done=>
     unfold mR at hB;rw[ha] at hB;obtain⟨hd,_,tU,h1⟩:=hB;obtain⟨g',aX,mI,hk⟩:=h1 w bX.refl;exact qN (h.release hA hi dK aX mI hr hp ha hd tU hk)
    |note can=>
     unfold mR at hB;rw[ha] at hB;obtain⟨l',hc,k,hk⟩:=hB;obtain⟨hI,hm⟩:=h.note hA hi dK hr hp ha hc hk;obtain⟨m',ops,h1,h2⟩:=ih k hI (by rw[upd_same]);refine⟨m',ops,h1,h2.imp id ?_⟩;rintro⟨a,b,c,d,e,h3,h4,h5⟩;exact⟨a,b,c,d,e,h3,h4,.tail h5 hm⟩
    |wait=>
     have h0:=(hA.wait _ ch i l h.st.inv (by show(T i).ph.proj=_;rw[hp];rfl) ha).1;subst h0;unfold mR at hB;rw[ha] at hB;exact qN (h.look hA hi dK hr (.inr ⟨l,hp,ha⟩) λaJ lK v _=>hB aJ lK v)
theorem Inv.step (hA:A.Ok)(h:Inv P ty Wg A Fin Shun gs w t T ch)(hi:gs[i]? =some x)(cH:x.status=.running):ResT P ty Wg A Fin Shun gs w t T sl i:=by
 by_cases hl:(T i).ph.leaves
 .exact qN (h.leaver hi cH hl)
 have hs:=h.dy.sit i x hi;rw[pP hl] at hs;obtain⟨r,hr,_,_⟩:=hs;exact Inv.stepR hA hi cH r h hr
theorem zEE (hA:A.Ok)(h:Inv P ty Wg A Fin Shun gs w t T ch)(sl:Option (Nat×Nat)):∃N m' t',runNT P N (crowd gs w sl) t=(.next m',t')/\Oo P Wg Fin Shun m' t':=by
 refine run_to (zD5 Mu.wf) (λμ m t=>∃gs w sl T ch,m=crowd gs w sl/\Inv P ty Wg A Fin Shun gs w t T ch/\μ=mu gs T) (Oo P Wg Fin Shun) ?_ _ _ _ ⟨gs,w,sl,T,ch,rfl,h,rfl⟩;rintro μ m t ⟨gs,w,sl,T,ch,rfl,h,rfl⟩;obtain⟨i,g,d,Md,hi,hg,aX⟩:=crowd_pick (P:=P) (w:=w) (sl:=sl) h.awake (h.some1 hA);obtain⟨m',ops,cH,zDz⟩:=(h.at d).step hA hi hg (sl:=Md)
 grind
end
end Go.Mt
namespace Go.Tt
section
variable {P:dB}{S:aN->Prop}{K:Pr}{R:Pr}
variable {f:aF->aF->cP aF}
theorem zo6 (hf:∀(R:Pr) a a' b b',VR S K R a a'->VR S K R b b'->aG P S K (VA S K) (f a b) R (f a' b')):
 ∀(l l':List aF) {R:Pr} {x x':aF},VR S K R x x'->xX S K R l l'->aG P S K (VA S K) (l.foldlM f x) R (l'.foldlM f x')
 |[],[],R,x,x',hx,_=>aG.ret hx
 |[],_::_,_,_,_,_,h=>by have:=h.1;simp at this
 |_::_,[],_,_,_,_,h=>by have:=h.1;simp at this
 |a::l,a'::l',R,x,x',hx,h=>by
  obtain⟨h1,h2⟩:=h.cons;simp only[List.foldlM_cons];refine aG.bnd (hf R _ _ _ _ hx h1) ?_;intro R1 e1 v v' hv;exact zo6 hf l l' hv (h2.mono e1.le)
theorem zCf {a a' b b':aF}(ha:VR S K R a a')(hb:VR S K R b b'):aG P S K (VA S K) (zty a b) R (zty a' b'):=by
 cases ha with
 |int k n=>cases hb with
  |int k' n'=>exact aG.ret (.int _ _)
  |pointer h=>cases h<;>first|exact .inl jN|exact .inl bM
  |_=>exact .inl bM
 |string s=>cases hb with
  |string s'=>
   refine aG.bnd (Z0 .geq s s') ?_;intro R1 e1 v v' hv;refine aG.bnd (zvx hv) ?_;rintro R2 e2 x _ rfl;exact aG.ret (.string _)
  |pointer h=>cases h<;>first|exact .inl jN|exact .inl bM
  |_=>exact .inl bM
 |pointer h=>cases h<;>cases hb<;>first|exact .inl jN|exact .inl bM|(rename_i h2;cases h2<;>first|exact .inl jN|exact .inl bM)
 |_=>cases hb<;>first|exact .inl jN|exact .inl bM|(rename_i h2;cases h2<;>first|exact .inl jN|exact .inl bM)
theorem sim_max (ts:Array aM)(t:aM){xs bV:Array aF}(h:bL S K R xs bV):aG P S K (VA S K) (zlD ts t xs) R (zlD ts t bV):=by
 unfold zlD;have hl:=h.toList;generalize xs.toList=l at hl⊢;generalize bV.toList=l' at hl⊢;cases l<;>cases l'
 .exact .inl bM
 .have:=hl.1;simp at this
 .have:=hl.1;simp at this
 .exact zo6 (λR a a' b b'=>zCf) _ _ hl.cons.1 hl.cons.2
variable {f:aF->ByteArray->cP (ForInStep ByteArray)}
theorem zqc (hf:∀(R:Pr) c c' s,VR S K R c c'->aG P S K lH (f c s) R (f c' s)):∀(l l':List aF) {R:Pr} (s:ByteArray),xX S K R l l'->
 aG P S K lH (forIn (m:=cP) l s f) R (forIn (m:=cP) l' s f)
 |[],[],R,s,_=>aG.ret rfl
 |[],_::_,_,_,h=>by have:=h.1;simp at this
 |_::_,[],_,_,h=>by have:=h.1;simp at this
 |a::l,a'::l',R,s,h=>by
  obtain⟨h1,h2⟩:=h.cons;simp only[zrt];refine aG.bnd (hf R a a' s h1) ?_;rintro R1 e1 x _ rfl
  cases x with
  |done b=>exact aG.ret rfl
  |yield b=>exact zqc hf l l' b (h2.mono e1.le)
variable {x':aF}
theorem zFZ {x:aF}(h:VR S K R x x'):aG P S K (VA S K) (zad x) R (zad x'):=by
 unfold zad
 cases h with
 |slice ha=>
  cases ha with
  |none=>exact aG.ret (.string _)
  |some ha=>
   refine aG.bnd (zjR ha _) ?_;intro R1 e1 xs bV hx;simp only;rw[<-zfy,<-zfy];refine aG.bnd (zqc (λR c c' s hc=>?_) _ _ _ hx.toList) ?_
   .cases hc with
    |int k n=>cases k<;>first|exact aG.ret rfl|exact .inl (bM.bnd _)|exact .inl bM
    |_=>first|exact .inl (bM.bnd _)|exact .inl bM
   rintro R2 e2 s _ rfl;exact aG.ret (.string _)
 |_=>exact .inl bM
def zns (v:aF):cP Next:=
 match v with
 | .pointer none| .nilIface| .nilFunc=>runtimePanic .nilDeref
 | .func (.method name) first captured=>
  match(first[0]? :Option aF) with
  |some .nilIface=>runtimePanic .nilDeref
  |some (.iface t w)=>do
   if(<-nilAhead ((<-program).types.size+Made.depth) t w name) !=some false then
    unsupported (.noEntry "op/nilCheck.the method's receiver behind this interface value is a nil pointer, or cannot be seen to be none, and the arguments act or may panic (ledger 612)")
   pure (.value (.func (.method name) first captured))
  |_=>pure (.value (.func (.method name) first captured))
 |x=>pure (.value x)
theorem zyG {x:aF}(h:VR S K R x x'):aG P S K (λR a b=>∃v v',a=.value v/\b=.value v'/\VR S K R v v') (zns x) R (zns x'):=by
 unfold zns;have h0:=h
 cases h with
 |pointer h=>cases h with
  |none=>exact .inl vR
  |some h=>exact aG.ret ⟨_,_,rfl,rfl,h0⟩
 |nilIface=>exact .inl vR
 |nilFunc=>exact .inl vR
 |junk h=>exact .inl vR
 |_=>exact aG.ret ⟨_,_,rfl,rfl,h0⟩
end
section
variable {P:dB}{S:aN->Prop}{K R:Pr}
theorem zx6 {α β:Type}{f f':α->β->cP (ForInStep β)}:∀(l:List α) (b:β) {R:Pr},qJ P K R->(∀x∈l,∀b R1,wZ P K R R1->qJ P K R1->aG P S K lH (f x b) R1 (f' x b))->aG P S K lH (forIn l b f) R (forIn l b f')
 |[],b,R,hR,hf=>by simp only[List.forIn_nil];exact aG.ret rfl
 |x::l,b,R,hR,hf=>by
  simp only[zrt];refine aG.bnd (hf x aQ b R (.refl R) hR) ?_;rintro R1 h1 s _ rfl
  cases s with
  |done b=>exact aG.ret rfl
  |yield b=>exact zx6 l b (h1.ok hR) λy hy b R2 h2 h3=>hf y Xg b R2 (h1.trans h2) h3
structure ze5 (P:dB)(t:aM):Prop where
 ex:∃fields,P.underlying t=some (.struct fields)/\∀f∈fields,J9 P f.type
 held:P.c.stoodInHeld t=false
theorem zxm (P:dB):∀(n:Nat),P.g.alikeButTags n=P.c.alikeButTags n
 |0=>rfl
 |n+1=>by
  funext t u;unfold bT.alikeButTags;rw[zxm P n]
theorem zyO (P:dB)(t:aM):P.g.stoodInHeld t=P.c.stoodInHeld t:=by
 unfold bT.stoodInHeld bT.stoodInAs;rw[zxm P P.g.depth];rfl
variable {t:aM}
theorem zGm (ht:ze5 P t)(hR:qJ P K R){xs bV ys Ob:Array aF}(hx:bL S K R xs bV)(hy:bL S K R ys Ob):aG P S K lH (vJ t (.agg xs) (.agg ys)) R (vJ t (.agg bV) (.agg Ob)):=by
 obtain⟨fields,hd,hf⟩:=ht.ex;have e:∀a b,vJ t a b=tD (9999+1) t a b:=λa b=>rfl;rw[e,e];unfold tD;refine aG.bnd (mK t) ?_;rintro R1 h1 d _ ⟨rfl,If⟩;obtain rfl:d=.struct fields:=cJ (If.symm.trans hd);simp only;refine aG.bnd Ql ?_;rintro R2 h2 p q ⟨rfl,rfl⟩;rw[zyO,ht.held];simp only[gK,if_false];have H5:=h2.ok (h1.ok hR);have vS:=(hx.mono h1.le).mono h2.le;have zsg:=(hy.mono h1.le).mono h2.le;rw[<-zfy,<-zfy];refine aG.bnd (zx6 fields.toList _ H5 λf zcd b R3 h3 Om=>?_) ?_
 .by_cases hn:f.name≠ "_"
  .simp only[hn,ne_eq,not_false_eq_true,if_true]
   refine aG.bnd (zjp f.type (vS.mono h3.le) f.offset) λR4 h4 u u' hu=>?_;refine aG.bnd (zjp f.type ((zsg.mono h3.le).mono h4.le) f.offset) λR5 h5 v v' hv=>?_;obtain⟨d',Kc,ok⟩:=(hf f (by simpa using zcd)).ex;refine aG.bnd (zwn 9998 f.type d' Kc ok (λk e=>(hf f (by simpa using zcd)).nc k (e▸Kc)) (h5.ok (h4.ok Om)) (hu.mono h5.le) hv) ?_;rintro R6 h6 c _ rfl;cases c
   .exact aG.ret rfl
   .exact aG.ret rfl
  .simp only[hn,if_false]
   exact aG.ret rfl
 .rintro R3 h3 s _ rfl
  obtain⟨a,b⟩:=s
  cases a with
  |none=>exact aG.ret rfl
  |some c=>exact aG.ret rfl
theorem zDN (ht:ze5 P t){x y:aF}(h:¬((∃xs,x=.agg xs)/\∃ys,y=.agg ys)):eH P (vJ t x y):=by
 obtain⟨fields,hd,hf⟩:=ht.ex;have e:vJ t x y=tD (9999+1) t x y:=rfl;rw[e];unfold tD;have hu:∀w,(underlying t).run P.g w=.ok (.struct fields) w:=λw=>by
  have:P.g.underlying t=some (.struct fields):=hd;simp[underlying,program,bK,bind,wX,pure,this]
 have key:∀{f:Oh->cP Bool},eH P (f (.struct fields))->eH P (underlying t>>=f):=λ{f} hf w hw=>by
  obtain⟨h1,w1,h2,h3⟩:=hf w hw;refine⟨h1,w1,?_,h3⟩;have:=tP P.g (underlying t) f w;rw[hu] at this;exact this.trans h2
 refine key ?_
 cases x<;>cases y<;>first
  |exact(h ⟨⟨_,rfl⟩,⟨_,rfl⟩⟩).elim
  |exact bM
end
end Go.Tt
namespace Go.Tt
open Go.Conc
end Go.Tt
namespace Go.Tt
def Yk (p:bT)(t:aM):Bool:=
 match p.underlying t with
 |some (.int _)=>(match p.info? t with|some i=>(match i.desc with| .named "sync.copyChecker" _=>false|_=>true)|none=>true)
 |some d=>zaq d
 |none=>false
def zrW:aF->Bool
 | .bool _| .int _ _| .string _| .nilFunc| .nilIface| .pointer none| .slice none _ _| .map none| .chan none=>true
 |_=>false
def Vg (p:bT)(t:aM):Bool:=match p.underlying t with|some (.map k _)=>Yk p k|_=>true
def zcS (p:bT)(t:aM):Bool:=match p.underlying t with|some (.int _)=>true|_=>false
def dP (fs:aN->Bool):cI->Bool
 | .tmp _=>true
 | .const v=>zrW v
 | .global _=>false
 | .func f=>fs f
def okTab (p:bT):cI->Bool
 | .global g=>By p g
 |_=>false
structure Cl where
 fs:aN->Bool
 gs:aN->Bool
 dy:Bool
abbrev Cl.T (c:Cl)(f:aN):Prop:=c.gs f=true
def zeZ (p:bT)(t:aM):Bool:=match p.underlying t with|some (.slice e)=>(match p.underlying e with|some (.int .u8)=>true|_=>false)|_=>false
def zhb (p:bT)(t:aM):Bool:=match p.underlying t with|some .string=>true|_=>false
def zep (p:bT)(t:aM):Bool:=
 match p.underlying t with
 |some (.struct fs)=>(fs.all λf=>Yk p f.type)&& !p.stoodInHeld t
 |_=>false
def zef (p:bT)(t:aM):cI->Bool
 | .const (.pointer none)=>(match p.underlying t with|some (.pointer _)=>true|_=>false)
 |_=>false
def zpS (c:Cl):cI->Bool
 | .func g=>c.gs g
 |x=>dP c.fs x&&c.dy
def rP (p:bT)(c:Cl):Op->Bool
 | .move x| .assign x| .nilCheck x=>dP c.fs x
 | .pick q a b=>dP c.fs q&&dP c.fs a&&dP c.fs b
 | .alloc _=>true
 | .box _ x=>dP c.fs x
 | .build _ ps=>ps.all λx=>dP c.fs x.2
 | .buildSlice _ _ ps=>ps.all λx=>dP c.fs x.2
 | .load _ a=>dP c.fs a
 | .store _ a x=>dP c.fs a&&dP c.fs x
 | .binOp op t x y _=>dP c.fs x&&dP c.fs y&&(if op matches .eql| .neq then(Yk p t||zep p t||zef p t y)&& !(p.eqGuardType p.depth t) else true)
 | .unOp _ _ x=>dP c.fs x
 | .convert s d x=>dP c.fs x&&((zcS p s&&zcS p d)||(zeZ p s&&zhb p d))
 | .makeFunc (.func f) a b=>c.fs f&&a.all (dP c.fs)&&b.all (dP c.fs)
 | .makeMap _ r=>(match r with|some x=>dP c.fs x|none=>true)
 | .makeSlice _ l q=>dP c.fs l&&dP c.fs q
 | .makeChan _ l=>dP c.fs l
 | .slice _ x lo hi mx=>dP c.fs x&&(match lo with|some x=>dP c.fs x|none=>true)&&(match hi with|some x=>dP c.fs x|none=>true)&&(match mx with|some x=>dP c.fs x|none=>true)
 | .fieldAddr _ x _| .extract x _=>dP c.fs x
 | .indexAddr _ x i=>(dP c.fs x||okTab p x)&&dP c.fs i
 | .index _ x i=>dP c.fs x&&dP c.fs i
 | .makeInterface _ x| .panic x=>dP c.fs x
 | .lookup t x i _=>dP c.fs x&&dP c.fs i&&Vg p t
 | .mapUpdate t m k x=>dP c.fs m&&dP c.fs k&&dP c.fs x&&Vg p t
 | .call {callee:=.value f,args,..}=>zpS c f&&args.all (dP c.fs)
 | .call {callee:=.builtin .len,args,..}| .call {callee:=.builtin .cap,args,..}| .call {callee:=.builtin .copy,args,..}| .call {callee:=.builtin .append,args,..}| .call {callee:=.builtin .clear,args,..}=>args.all (dP c.fs)
 | .call {callee:=.builtin .delete,args,argTypes}=>args.all (dP c.fs)&&(match argTypes[0]? with|some t=>Vg p t|none=>true)
 |_=>false
section
variable {P:dB}{fs:aN->Bool}{K R:Pr}
abbrev SF (fs:aN->Bool):aN->Prop:=λf=>fs f=true
variable {t:aM}
theorem zby (h:Yk P.c t=true):J9 P t:=by
 unfold Yk at h;have hu:∀d,P.c.underlying t=some d->P.underlying t=some d:=λd e=>e;split at h
 .next k e=>
  refine⟨⟨_,e,rfl⟩,λk' _ i x hi hd=>?_⟩;simp_all
 .next d aS e=>
  exact⟨⟨d,e,h⟩,λk hk=>absurd (e.symm.trans hk) s9⟩
 .cases h
theorem zGE (h:zep P.c t=true):ze5 P t:=by
 unfold zep at h;split at h
 .next fs e=>
  simp only[iY,zbf] at h;refine⟨⟨fs,e,λf hf=>zby ?_⟩,h.2⟩;have:=h.1;rw[Wc] at this;exact this f hf
 .cases h
theorem zwF {v:aF}(h:zrW v=true):VR (SF fs) K R v v:=by
 cases v with
 |bool b=>exact .bool b
 |int k n=>exact .int k n
 |string s=>exact .string s
 |nilFunc=>exact .nilFunc
 |nilIface=>exact .nilIface
 |pointer a=>cases a with|none=>exact .pointer .none|some a=>cases h
 |slice a n c=>cases a with|none=>exact .slice .none|some a=>cases h
 |map a=>cases a with|none=>exact .map .none|some a=>cases h
 |chan a=>cases a with|none=>exact .chan .none|some a=>cases h
 |_=>cases h
inductive NxR (S:aN->Prop)(T:aN->Prop)(K R:Pr):Next->Next->Prop
 |value {v v':aF}:VR S K R v v'->NxR S T K R (.value v) (.value v')
 |skip:NxR S T K R .skip .skip
 |enter {f:aN} {xs bV:Array aF}:T f->bL S K R xs bV->NxR S T K R (.enter f xs) (.enter f bV)
abbrev NA (S:aN->Prop)(T:aN->Prop)(K:Pr):Pr->Next->Next->Prop:=λR n n'=>NxR S T K R n n'
def p8 {S T:aN->Prop}{s s':cP aF}(h:aG P S K (VA S K) s R s'):aG P S K (NA S T K) (do pure (.value (<-s))) R (do pure (.value (<-s'))):=
 aG.bnd h λ_ _ _ _ hv=>aG.ret (.value hv)
variable {α:Type}
def sim_u {S T:aN->Prop}{s s':cP α}(h:aG P S K lH s R s'):aG P S K (NA S T K) (do let _<-s;pure .skip) R (do let _<-s';pure .skip):=
 aG.bnd h λ_ _ _ _ _=>aG.ret .skip
variable {ρ ρ':cI->aF}
theorem bL.maps {S:aN->Prop}{ok:cI->Bool}(h:∀x,ok x=true->VR S K R (ρ x) (ρ' x)){xs:Array cI}(hx:xs.all ok=true):bL S K R (xs.map ρ) (xs.map ρ'):=by
 refine⟨aQ,λi v v' h1 h2=>?_⟩
 grind
theorem zFI {S:aN->Prop}(op:BinOp)(t:aM)(x y:cI){a a' b b':aF}(ha:VR S K R a a')(hb:VR S K R b b')(h:P.c.eqGuardType P.c.depth t=false)(h':P.g.eqGuardType P.g.depth t=false):
 aG P S K lH (eqGuard op t x y a b) R (eqGuard op t x y a' b'):=by
 have rest:aG P S K lH (do
  match a,b with
  | .nilIface,.nilIface=>
   if(x matches .const _)||(y matches .const _) then return
   if<-Q6 Ud t a b then unsupported (.noEntry "binop/eql: two nil values of an interface type with methods, neither of them the literal nil")
  | .agg _,.agg _=>
   if !(<-program).eqGuardType (<-program).depth t then return
   if<-Q6 Ud t a b then unsupported (.noEntry "binop/eql: two nil values of an interface type with methods, in a part of a struct or an array")
  |_,_=>pure ()) R (do
  match a',b' with
  | .nilIface,.nilIface=>
   if(x matches .const _)||(y matches .const _) then return
   if<-Q6 Ud t a' b' then unsupported (.noEntry "binop/eql: two nil values of an interface type with methods, neither of them the literal nil")
  | .agg _,.agg _=>
   if !(<-program).eqGuardType (<-program).depth t then return
   if<-Q6 Ud t a' b' then unsupported (.noEntry "binop/eql: two nil values of an interface type with methods, in a part of a struct or an array")
  |_,_=>pure ()):=by
  cases ha with
  |nilIface=>
   cases hb with
   |nilIface=>
    simp only;by_cases hc:((x matches .const _)||(y matches .const _))=true
    .rw[if_pos hc]
     exact aG.ret rfl
    .rw[if_neg hc]
     refine aG.bnd (A:=lH) ?_ λR1 h1 c _ e=>?_
     .show aG P S K lH (Q6 (9999+1) t .nilIface .nilIface) R (Q6 (9999+1) t .nilIface .nilIface)
      unfold Q6;refine aG.bnd (mK t) ?_;rintro R1 h1 d _ ⟨rfl,_⟩;cases d<;>exact aG.ret rfl
     .subst e
      cases c
      .exact aG.ret rfl
      .exact .inl jN
   |junk hh=>cases b'<;>first|exact hh.elim|exact aG.ret rfl
   |_=>exact aG.ret rfl
  |agg e1 e2=>
   cases hb with
   |agg e3 e4=>
    simp only;refine aG.bnd Ql ?_;rintro R1 h1 p q ⟨rfl,rfl⟩;refine aG.bnd Ql ?_;rintro R2 h2 p q ⟨rfl,rfl⟩;rw[h,h'];exact aG.ret rfl
   |junk hh=>cases b'<;>first|exact hh.elim|exact aG.ret rfl
   |_=>exact aG.ret rfl
  |junk hh=>cases a'<;>first|exact hh.elim|exact aG.ret rfl
  |_=>exact aG.ret rfl
 unfold eqGuard;cases op<;>first|exact aG.ret rfl|exact rest
variable {x x':aF}
theorem sim_cmp (op:BinOp)(ho:op=.eql\/op=.neq)(he:J9 P t)(hR:qJ P K R){y y':aF}(hx:VR (SF fs) K R x x')(hy:VR (SF fs) K R y y'):
 aG P (SF fs) K (VA (SF fs) K) (binOp op t x y) R (binOp op t x' y'):=by
 have k1:aG P (SF fs) K (VA (SF fs) K) (do pure (.bool (<-vJ t x y))) R (do pure (.bool (<-vJ t x' y'))):=
  aG.bnd (zmg he hR hx hy) λR1 _ b _ e=>by subst e;exact aG.ret (.bool _)
 have k2:aG P (SF fs) K (VA (SF fs) K) (do pure (.bool (!(<-vJ t x y)))) R (do pure (.bool (!(<-vJ t x' y')))):=
  aG.bnd (zmg he hR hx hy) λR1 _ b _ e=>by subst e;exact aG.ret (.bool _)
 by_cases hf:Flat x/\Flat y
 rotate_left
 .obtain⟨d,hd,ok⟩:=he.ex
  have hn:=zmT hd ok hf;refine .inl ?_
  rcases ho with rfl|rfl<;>cases x<;>cases y<;>first
   |exact(hf ⟨True.intro,True.intro⟩).elim
   |exact hn.bnd _
 rcases ho with rfl|rfl
 .cases hx with
  |int k a=>
   cases hy with
   |int k' b=>
    by_cases hk:k=k'
    .subst hk;simp only[binOp,ne_eq,not_true_eq_false,if_false];exact ze0 _ _ _
    .simp only[binOp,ne_eq,hk,not_false_eq_true,if_true];exact .inl bM
   |junk hh=>exact hf.2.elim
   |_=>exact k1
  |string a=>
   cases hy with
   |string b=>exact Z0 .eql a b
   |junk hh=>exact hf.2.elim
   |_=>exact k1
  |junk hh=>exact hf.1.elim
  |_=>cases hy<;>first|exact k1|exact hf.2.elim
 .cases hx with
  |int k a=>
   cases hy with
   |int k' b=>
    by_cases hk:k=k'
    .subst hk;simp only[binOp,ne_eq,not_true_eq_false,if_false];exact ze0 _ _ _
    .simp only[binOp,ne_eq,hk,not_false_eq_true,if_true];exact .inl bM
   |junk hh=>exact hf.2.elim
   |_=>exact k2
  |string a=>
   cases hy with
   |string b=>exact Z0 .neq a b
   |junk hh=>exact hf.2.elim
   |_=>exact k2
  |junk hh=>exact hf.1.elim
  |_=>cases hy<;>first|exact k2|exact hf.2.elim
theorem zet {d:Oh}(hd:P.c.underlying t=some d){β:Type}{f:Oh->cP β}(hf:eH P (f d)):eH P (underlying t>>=f):=λw hw=>by
 obtain⟨h1,w1,h2,h3⟩:=hf w hw;refine⟨h1,w1,?_,h3⟩;have hg:P.g.underlying t=some d:=hd;have hu:(underlying t).run P.g w=.ok d w:=by simp[underlying,program,bK,bind,wX,pure,hg]
 simp_all
theorem zB3 (op:BinOp)(ho:op=.eql\/op=.neq)(he:ze5 P t)(hR:qJ P K R){y y':aF}(hx:VR (SF fs) K R x x')(hy:VR (SF fs) K R y y'):
 aG P (SF fs) K (VA (SF fs) K) (binOp op t x y) R (binOp op t x' y'):=by
 by_cases hf:(∃xs,x=.agg xs)/\∃ys,y=.agg ys
 .obtain⟨⟨xs,rfl⟩,ys,rfl⟩:=hf
  cases hx with
  |agg e1 e2=>
   cases hy with
   |agg e3 e4=>
    have k:=zGm he hR (⟨e1,e2⟩:bL (SF fs) K R _ _) (⟨e3,e4⟩:bL (SF fs) K R _ _);rcases ho with rfl|rfl
    .exact aG.bnd k λR1 _ b _ e=>by subst e;exact aG.ret (.bool _)
    .exact aG.bnd k λR1 _ b _ e=>by subst e;exact aG.ret (.bool _)
 .have hn:=zDN he hf
  cases hx with
  |int k a=>
   cases hy with
   |int k' b=>
    by_cases hk:k=k'
    .subst hk;rcases ho with rfl|rfl<;>(simp only[binOp,ne_eq,not_true_eq_false,if_false];exact ze0 _ _ _)
    .rcases ho with rfl|rfl<;>(simp only[binOp,ne_eq,hk,not_false_eq_true,if_true];exact .inl bM)
   |_=>rcases ho with rfl|rfl<;>exact .inl (hn.bnd _)
  |string a=>
   cases hy with
   |string b=>
    rcases ho with rfl|rfl
    .exact Z0 .eql a b
    .exact Z0 .neq a b
   |_=>rcases ho with rfl|rfl<;>exact .inl (hn.bnd _)
  |_=>rcases ho with rfl|rfl<;>(cases hy<;>exact .inl (hn.bnd _))
variable {p:bT}
theorem zFH {y:cI}(h:zef p t y=true):∃el,p.underlying t=some (.pointer el)/\y=.const (.pointer none):=by
 unfold zef at h
 grind
theorem zyA {el:aM}(op:BinOp)(ho:op=.eql\/op=.neq)(he:P.c.underlying t=some (.pointer el))(hx:VR (SF fs) K R x x'):
 aG P (SF fs) K (VA (SF fs) K) (binOp op t x (.pointer none)) R (binOp op t x' (.pointer none)):=by
 have key:aG P (SF fs) K lH (tD (9999+1) t x (.pointer none)) R (tD (9999+1) t x' (.pointer none)):=by
  unfold tD;refine aG.bnd (mK t) ?_;rintro R1 h1 d _ ⟨rfl,hd⟩;obtain rfl:d=.pointer el:=cJ ((hd).symm.trans he)
  cases hx with
  |pointer hp=>
   cases hp with
   |none=>exact aG.ret rfl
   |some _=>exact aG.ret rfl
  |_=>exact .inl zin
 have k1:aG P (SF fs) K (VA (SF fs) K) (do pure (.bool (<-vJ t x (.pointer none)))) R (do pure (.bool (<-vJ t x' (.pointer none)))):=
  aG.bnd key λR1 _ b _ e=>by subst e;exact aG.ret (.bool _)
 have k2:aG P (SF fs) K (VA (SF fs) K) (do pure (.bool (!(<-vJ t x (.pointer none))))) R (do pure (.bool (!(<-vJ t x' (.pointer none))))):=
  aG.bnd key λR1 _ b _ e=>by subst e;exact aG.ret (.bool _)
 by_cases hj:x=.nilFunc
 .subst hj
  refine .inl ?_;have hn:eH P (vJ t .nilFunc (.pointer none)):=by
   show eH P (tD (9999+1) t .nilFunc (.pointer none));unfold tD;exact zet he zin
  rcases ho with rfl|rfl<;>exact hn.bnd _
 rcases ho with rfl|rfl
 .cases hx with
  |junk _=>exact absurd rfl hj
  |_=>exact k1
 .cases hx with
  |junk _=>exact absurd rfl hj
  |_=>exact k2
variable {s:aM}
theorem zG2 {d:aM}(hs:zcS P.c s=true)(hd:zcS P.c d=true){S:aN->Prop}(hx:VR S K R x x'):aG P S K (VA S K) (convert s d x) R (convert s d x'):=by
 unfold convert;refine aG.bnd (mK s) ?_;rintro R1 h1 a _ ⟨rfl,ha⟩;refine aG.bnd (mK d) ?_;rintro R2 h2 b _ ⟨rfl,hb⟩;have fU:P.c.underlying s=some a:=ha;have bZ:P.c.underlying d=some b:=hb;unfold zcS at hs hd;rw[fU] at hs;rw[bZ] at hd;cases a<;>simp only[gK] at hs;cases b<;>simp only[gK] at hd
 cases hx with
 |int k n=>exact aG.ret (.int _ _)
 |pointer h=>cases h<;>exact .inl jN
 |_=>exact .inl jN
theorem zFo (h:zeZ p s=true):∃e,p.underlying s=some (.slice e)/\p.underlying e=some (.int .u8):=by
 unfold zeZ at h
 grind
theorem zBO (h:zhb p s=true):p.underlying s=some .string:=by
 unfold zhb at h
 grind
theorem zEz {S:aN->Prop}(n:Int):aG P S K (VA S K) (zk0 n) R (zk0 n):=by
 unfold zk0
 first|exact aG.ret (.string _)|(split<;>exact aG.ret (.string _))
theorem zCz {d:aM}(hs:zeZ P.c s=true)(hd:zhb P.c d=true){S:aN->Prop}(hx:VR S K R x x'):aG P S K (VA S K) (convert s d x) R (convert s d x'):=by
 obtain⟨e,x3,Ar⟩:=zFo hs;have Kc:=zBO hd;by_cases hj:x=.nilFunc
 .subst hj
  refine .inl ?_;unfold convert;exact zet x3 (zet Kc (zet Ar bM))
 unfold convert;refine aG.bnd (mK s) ?_;rintro R1 h1 a _ ⟨rfl,ha⟩;refine aG.bnd (mK d) ?_;rintro R2 h2 b _ ⟨rfl,hb⟩;obtain rfl:a=.slice e:=cJ ((ha).symm.trans x3);obtain rfl:b=.string:=cJ ((hb).symm.trans Kc)
 have tail:∀{x x':aF},VR S K R2 x x'->aG P S K (VA S K) (do match<-underlying e with| .int .u8=>zad x| .int .i32=>zoU x|_=>stuck "Convert: a slice of what to string?") R2
  (do match<-underlying e with| .int .u8=>zad x'| .int .i32=>zoU x'|_=>stuck "Convert: a slice of what to string?"):=by
  intro x x' hx;refine aG.bnd (mK e) ?_;rintro R3 h3 c _ ⟨rfl,hc⟩;obtain rfl:c=.int .u8:=cJ ((hc).symm.trans Ar);exact zFZ (hx.mono h3.le)
 have vS:=(hx.mono h1.le).mono h2.le
 cases hx with
 |int k n=>exact zEz n
 |string s=>exact aG.ret (.string s)
 |nilFunc=>exact absurd rfl hj
 |junk _=>exact absurd rfl hj
 |slice h=>cases h<;>exact tail vS
 |_=>exact tail vS
def pJ (p:bT)(q:Cl):Code->Bool
 | .skip| .ret| .exit _| .label _=>true
 | .region _ ops _=>ops.all λo=>rP p q o.op
 | .seq a b=>pJ p q a&&pJ p q b
 | .cond c a b=>dP q.fs c&&pJ p q a&&pJ p q b
 | .block _ c| .loop c| .scope c=>pJ p q c
 |_=>false
def uI (P:dB)(fs:aN->Bool)(f:aN):Cl:=if P.lw f then⟨fs,P.lw,false⟩ else⟨fs,P.gs,P.dy⟩
theorem zkW (P:dB)(fs:aN->Bool)(f:aN):(uI P fs f).fs=fs:=by unfold uI;split<;>rfl
structure Fit (P:dB)(fs:aN->Bool):Prop where
 zero:Iv P (SF fs)
 fn:∀f,P.gs f=true->P.op f=false->∃fn c,P.g.funcs[f]? =some fn/\P.c.funcs[f]? =some fn/\(fn.name== "runtime.NumGoroutine")=false/\fn.body=some c/\pJ P.c (uI P fs f) c=true
 opq:∀f,P.gs f=true->P.op f=true->∃fn fn' c c',P.g.funcs[f]? =some fn/\P.c.funcs[f]? =some fn'/\(fn.name== "runtime.NumGoroutine")=false/\(fn'.name== "runtime.NumGoroutine")=false/\fn.body=some c/\fn'.body=some c'
 low:∀f,P.lw f=true->P.op f=false/\P.gs f=true
 dyn:P.dy=true->∀f,fs f=true->P.gs f=true
 guard:∀t,P.g.eqGuardType P.g.depth t=P.c.eqGuardType P.c.depth t
theorem zxx (F:Fit P fs){T:aN->Prop}{f:aN}(hf:P.gs f=true)(hT:T f){xs bV:Array aF}(h:bL (SF fs) K R xs bV):aG P (SF fs) K (NA (SF fs) T K) (callFunc f xs) R (callFunc f bV):=by
 unfold callFunc;refine aG.bnd Ql ?_;rintro R1 h1 p q ⟨rfl,rfl⟩
 cases ho:P.op f with
 |false=>
  obtain⟨fn,c,e1,e2,e3,e4,_⟩:=F.fn f hf ho;simp only[e1,e2,e3,e4,zoc,gK,if_false];exact aG.ret (.enter hT (h.mono h1.le))
 |true=>
  obtain⟨fn,fn',c,c',e1,e2,e3,e4,e5,e6⟩:=F.opq f hf ho;simp only[e1,e2,e3,e4,e5,e6,zoc,gK,if_false];exact aG.ret (.enter hT (h.mono h1.le))
theorem zd4 {S:aN->Prop}(hρ:∀x,dP fs x=true->VR S K R (ρ x) (ρ' x)){r:Option cI}(h:(match r with|some x=>dP fs x|none=>true)=true):Ae S K R (r.map ρ) (r.map ρ'):=by
 cases r with
 |none=>exact .none
 |some x=>exact .some (hρ x h)
variable {ps:Array (Nat×cI)}
theorem zoD {S:aN->Prop}(hρ:∀x,dP fs x=true->VR S K R (ρ x) (ρ' x))(h:(ps.all λx=>dP fs x.2)=true):PsR S K R (ps.map λ(i,x)=>(i,ρ x)).toList (ps.map λ(i,x)=>(i,ρ' x)).toList:=by
 rw[zpY,zpY];have h':∀x∈ps.toList,dP fs x.2=true:=λx hx=>by
  rw[Array.all_eq_true'] at h;exact h x (by simpa using hx)
 generalize ps.toList=l at h'⊢
 induction l with
 |nil=>exact .nil
 |cons a l ih=>
  obtain⟨i,x⟩:=a;exact .cons (hρ x (h' (i,x) aQ)) (ih λy hy=>h' y Xg)
theorem zAX (q:Ask α):∀w:aE,(w.ask q).2.heap=w.heap:=by
 induction q with
 |done a=>intro w;rfl
 |ask zJm range k ih=>
  intro w;unfold aE.ask
  grind
theorem zCD (c:Sys):nL P (sys c):=λw hw=>.inl ⟨(w.sys c).1,(w.sys c).2,rfl,λb cc e=>by
 have:(w.sys c).2.heap=w.heap:=by
  have h:=zAX (Kernel.perform c w.os) w;unfold aE.sys;split
  .rfl
  .simp_all
 rw[this];exact hw b cc e⟩
theorem zBG :eH P (zwq x):=by
 unfold zwq;cases x<;>first|exact zeA|exact bM|skip
 refine eH.then ?_ λn=>?_
 .unfold Instr.panicnil
  refine(zCD _).bnd λr=>?_;cases r<;>first|exact .never bM|exact zk2.bnd λ_=>nL.ret _
 .split
  .exact zeA
  .exact vR
theorem zlf (F:Fit P fs)(hR:qJ P K R)(hρ:∀x,dP fs x=true->VR (SF fs) K R (ρ x) (ρ' x))(Iw:∀g,ρ (.func g)=.func (.func g) #[] #[])(zHd:∀g,ρ' (.func g)=.func (.func g) #[] #[])(zjD:∀g,ρ (.global g)=.pointer (some ⟨g,0,none⟩))(zEa:∀g,ρ' (.global g)=.pointer (some ⟨g,0,none⟩))(tE:∀v,ρ (.const v)=v)(zFS:∀v,ρ' (.const v)=v){q:Cl}(hq:q.fs=fs)(zta:∀f,q.gs f=true->P.gs f=true)(zwy:q.dy=true->∀f,fs f=true->q.gs f=true){o:aZ}(ok:rP P.c q o.op=true):
 aG P (SF fs) K (NA (SF fs) q.T K) (aO ρ o) R (aO ρ' o):=by
 obtain⟨dst,op,type,pos,after,guard⟩:=o;subst hq;simp only at ok;unfold aO
 cases op with
 |move x=>exact aG.ret (.value (hρ x ok))
 |assign x=>exact aG.ret (.value (hρ x ok))
 |pick c a b=>
  simp only[rP,iY] at ok;refine aG.bnd (zvx (hρ c ok.1.1)) ?_;rintro R1 h1 x _ rfl;cases x
  .exact aG.ret (.value ((hρ b ok.2).mono h1.le))
  .exact aG.ret (.value ((hρ a ok.1.2).mono h1.le))
 |alloc t=>exact p8 (zG7 F.zero t)
 |box t x=>exact p8 (sim_box t (hρ x ok))
 |load t a=>exact p8 (zHr t (hρ a ok))
 |store t a x=>
  simp only[rP,iY] at ok;exact sim_u (zzI t (hρ a ok.1) (hρ x ok.2))
 |binOp op t x y t'=>
  simp only[rP,iY] at ok;obtain⟨⟨hx,hy⟩,hk⟩:=ok;by_cases ho:op=.eql\/op=.neq
  .have cU:((Yk P.c t=true\/zep P.c t=true)\/zef P.c t y=true)/\P.c.eqGuardType P.c.depth t=false:=by
    rcases ho with rfl|rfl<;>simpa using hk
   refine p8 ?_;refine aG.bnd (zFI op t x y (hρ x hx) (hρ y hy) cU.2 (by rw[F.guard];exact cU.2)) ?_;rintro R1 h1 _ _ _;rcases cU.1 with(pK|pK)|pK
   .exact sim_cmp op ho (zby pK) (h1.ok hR) ((hρ x hx).mono h1.le) ((hρ y hy).mono h1.le)
   .exact zB3 op ho (zGE pK) (h1.ok hR) ((hρ x hx).mono h1.le) ((hρ y hy).mono h1.le)
   .obtain⟨el,e1,e2⟩:=zFH pK
    subst e2;rw[tE,zFS];exact zyA op ho e1 ((hρ x hx).mono h1.le)
  .have yO:op≠ .eql/\op≠ .neq:=⟨λe=>ho (.inl e),λe=>ho (.inr e)⟩
   refine p8 ?_;have hg:∀a b,eqGuard op t x y a b=lZ ():=λa b=>by
    unfold eqGuard;cases op<;>first|rfl|exact absurd rfl yO.1|exact absurd rfl yO.2
   rw[hg,hg];refine aG.bnd (A:=lH) (aG.ret rfl) ?_;rintro R1 h1 _ _ _;exact zGK op t yO (h1.ok hR) ((hρ x hx).mono h1.le) ((hρ y hy).mono h1.le)
 |unOp op t x=>exact p8 (zH6 op (hρ x ok))
 |convert s d x=>
  simp only[rP,iY,Di] at ok;rcases ok.2 with h|h
  .exact p8 (zG2 h.1 h.2 (hρ x ok.1))
  .exact p8 (zCz h.1 h.2 (hρ x ok.1))
 |nilCheck x=>
  have:=zyG (P:=P) (hρ x ok);exact this.mono λR' _ a b h=>by
   obtain⟨v,v',rfl,rfl,h⟩:=h;exact .value h
 |build t ps=>exact p8 (zyw F.zero t (zoD hρ ok))
 |buildSlice t n ps=>exact p8 (zyB F.zero t n (zoD hρ ok))
 |makeFunc fn a b=>
  cases fn with
  |func f=>
   simp only[rP,iY] at ok;have ha:=bL.maps hρ ok.1.2;have hb:=bL.maps hρ ok.2;exact p8 (aG.ret (.func ok.1.1 ha.1 ha.2 hb.1 hb.2))
  |_=>cases ok
 |makeMap t r=>exact p8 (zDe t (zd4 hρ ok))
 |makeSlice t l c=>
  simp only[rP,iY] at ok;exact p8 (zzc F.zero t (hρ l ok.1) (hρ c ok.2))
 |makeChan t l=>exact p8 (zDk t (hρ l ok))
 |slice t x lo hi mx=>
  simp only[rP,iY] at ok;exact p8 (zDo t (hρ x ok.1.1.1) (zd4 hρ ok.1.1.2) (zd4 hρ ok.1.2) (zd4 hρ ok.2))
 |fieldAddr t x f=>exact p8 (zBd t (hρ x ok) f)
 |extract x i=>exact p8 (zBn (hρ x ok) i)
 |indexAddr t x i=>
  simp only[rP,iY,Di] at ok;have hx:VR (SF q.fs) K R (ρ x) (ρ' x):=by
   rcases ok.1 with h|h
   .exact hρ x h
   .cases x with
    |global g=>rw[zjD,zEa];exact .pointer (.some (.mk (hR.tb g h)))
    |_=>cases h
  exact p8 (zC2 t hx (hρ i ok.2))
 |makeInterface t x=>exact p8 (zFa t (hρ x ok))
 |panic x=>exact p8 (.inl zBG)
 |index t x i=>
  simp only[rP,iY] at ok;exact p8 (zHS t (hρ x ok.1) (hρ i ok.2))
 |lookup t x i c=>
  simp only[rP,iY] at ok;refine p8 (zzK F.zero (λk e he=>?_) hR (hρ x ok.1.1) (hρ i ok.1.2) c);have hm:=ok.2;unfold Vg at hm;rw[show P.c.underlying t=some (.map k e) from he] at hm;exact zby hm
 |mapUpdate t m k x=>
  simp only[rP,iY] at ok;refine sim_u (zBD (λk e he=>?_) hR (hρ m ok.1.1.1) (hρ k ok.1.1.2) (hρ x ok.1.2));have hm:=ok.2;unfold Vg at hm;rw[show P.c.underlying t=some (.map k e) from he] at hm;exact zby hm
 |call c=>
  obtain⟨callee,args,kY⟩:=c
  cases callee with
  |value f=>
   simp only[rP,iY] at ok;have ha:=bL.maps hρ ok.2;have key:(∀g,f≠ .func g)->aG P (SF q.fs) K (NA (SF q.fs) q.T K) (aO ρ ⟨dst,.call ⟨.value f,args,kY⟩,type,pos,after,guard⟩) R (aO ρ' ⟨dst,.call ⟨.value f,args,kY⟩,type,pos,after,guard⟩):=by
    intro aS;have h1:dP q.fs f=true/\q.dy=true:=by
     have:=ok.1;unfold zpS at this
     cases f with
     |func g=>exact absurd rfl (aS g)
     |_=>simpa using this
    have hf:=hρ f h1.1;unfold aO;simp only[resolve];unfold C0;generalize ρ f=vf at hf⊢;generalize ρ' f=vf' at hf⊢
    cases hf with
    |nilFunc=>
     refine .inl ?_;intro w hw;exact(vR (P:=P) (α:=Next) (e:=.nilDeref)) w hw
    |junk _=>
     refine .inl ?_;intro w hw;exact(vR (P:=P) (α:=Next) (e:=.nilDeref)) w hw
    |func hs e1 Ej e2 h2=>
     show aG P _ K _ (callFunc _ _) R (callFunc _ _);exact zxx F (zta _ (zwy h1.2 _ hs)) (zwy h1.2 _ hs) (bL.append (bL.append ⟨e1,Ej⟩ ha) ⟨e2,h2⟩)
    |_=>exact .inl (eH.bnd bM _)
   cases f with
   |func g=>
    have hg:q.gs g=true:=ok.1;simp only[resolve];unfold C0;rw[Iw,zHd];show aG P _ K _ (callFunc _ _) R (callFunc _ _);exact zxx F (zta _ hg) hg (bL.append (bL.append bL.empty ha) bL.empty)
   |_=>exact key (λg e=>by cases e)
  |builtin b=>
   cases b with
   |len=>exact p8 (sim_len kY type (bL.maps hρ ok))
   |cap=>exact p8 (sim_cap kY type (bL.maps hρ ok))
   |copy=>exact p8 (zGN kY type (bL.maps hρ ok))
   |clear=>exact p8 (zA1 F.zero kY type (bL.maps hρ ok))
   |append=>
    by_cases hi:∃xt k,kY[1]? =some xt/\P.underlying xt=some (.int k)
    .obtain⟨xt,k,e1,e2⟩:=hi
     exact p8 (zHR F.zero type e1 e2 (bL.maps hρ ok))
    .refine p8 (zCs F.zero type (λxt d he hd k hk=>?_) (bL.maps hρ ok))
     subst hk;exact hi ⟨xt,k,he,hd⟩
   |delete=>
    simp only[rP,iY] at ok;refine p8 (zFT type (λmt k e he hd=>?_) hR (bL.maps hρ ok.1));have h2:=ok.2;rw[he] at h2;simp only at h2;unfold Vg at h2;rw[show P.c.underlying mt=some (.map k e) from hd] at h2;exact zby h2
   |_=>cases ok
  |invoke x y=>cases ok
 |_=>cases ok
end
def tp (w:aE)(T:lM)(e:Nat):World:={w with tape:=T,drawn:=e}
def M7 {α:Type}(p:bT)(s:cP α)(w:aE):Prop:=
 ∀x w',s.run p w=.ok x w'->w'.tape=w.tape/\w.drawn<=w'.drawn/\∀T e,(∀n,n<w'.drawn-w.drawn->∀q,T (e+n) q=w.tape (w.drawn+n) q)->s.run p (tp w T e)=.ok x (tp w' T (e+(w'.drawn-w.drawn)))
variable {α:Type}{p:bT}{w:aE}
def M7.no {s:cP α}(h:∀x w',s.run p w≠ .ok x w'):M7 p s w:=λx w' e=>absurd e (h x w')
theorem M7.after {s lK:cP α}{aJ:aE}(h:M7 p lK aJ)(hr:s.run p w=lK.run p aJ)(ht:aJ.tape=w.tape)(hd:aJ.drawn=w.drawn)(y4:∀T e,s.run p (tp w T e)=lK.run p (tp aJ T e)):M7 p s w:=by
 intro x w' e;rw[hr] at e;obtain⟨h1,h2,h3⟩:=h x w' e;simp_all
theorem aG.locl {P:dB}{S:aN->Prop}{β:Type}{K:Pr}{A:Pr->α->β->Prop}{G:Gp}{St:Nat->Prop}(hG:G=P.gp)(s:cP α):
 ∀{R:Pr} {w W:aE} {s':cP β},aG P S K A s R s'->cV S K R G St w W->Tp w W->M7 P.g s w:=by
 induction s with
 |pure a=>
  rintro R w W s' _ hw ht x w' e;simp only[bK,uV] at e;obtain⟨rfl,rfl⟩:=e;exact⟨rfl,bN _,λT e _=>by simp[bK]⟩
 |load m a k ih=>
  rintro R w W s' (hn|⟨rfl,a',k',rfl,ha,hk⟩) hw ht
  .exact .no (hn.no hw.np)
  obtain⟨qK⟩:=ha;rename_i b b' o sp;obtain⟨ob,C6,h1,h2,h3⟩:=hw.cont b b' qK
  cases h3 with
  |cells hc hz=>
   rename_i c c' T fz Ix
   cases sp with
   |some sp=>exact .no λx w'=>by simp[bK,lN,h1,zF,rB]
   |none=>
    cases hv:c[o]? with
    |none=>exact .no λx w'=>by simp[bK,lN,h1,zF,rB,hv]
    |some v=>
     obtain⟨v',Oc,vX⟩:=hc.get hv;have e1:w.cell? ⟨b,o,none⟩=some v:=by simp[lN,h1,hv]
     refine(ih v (hk v v' vX) hw ht).after (by rw[bK,e1]) rfl rfl λT e=>?_;rw[bK,show(tp w T e).cell? ⟨b,o,none⟩=some v from e1]
  |_=>exact .no λx w'=>by simp[bK,lN,h1,zF,rB]
 |store m a v k ih=>
  rintro R w W s' (hn|⟨rfl,a',v',k',rfl,ha,hv,hk⟩) hw ht
  .exact .no (hn.no hw.np)
  obtain⟨qK⟩:=ha;rename_i b b' o sp;by_cases Tw:∃cs,v=.agg cs
  .obtain⟨cs,rfl⟩:=Tw;exact .no λx w'=>by simp[bK]
  by_cases Gs:∃cs,v=.tuple cs
  .obtain⟨cs,rfl⟩:=Gs;exact .no λx w'=>by simp[bK]
  have cH:∀w:aE,(cP.store .plain ⟨b,o,sp⟩ v k).run P.g w=(match w.cell? ⟨b,o,sp⟩ with
   |some _=>if w.frozen? ⟨b,o,sp⟩ then .halt (.unsupported (.unsafePointer "a write to bytes that a string shares")) w else k.run P.g (w.setCell ⟨b,o,sp⟩ v)
   |none=>match w.farStore P.g ⟨b,o,sp⟩ v (zab== .atomic) with
    | .ok (w,_)=>k.run P.g w
    | .error h=>.halt h w):=λw=>by
   rw[bK]
   .rfl
   .simp_all
   simp_all
  obtain⟨ob,C6,h1,h2,h3⟩:=hw.cont b b' qK
  cases h3 with
  |cells hc hz=>
   rename_i c c' T fz Ix
   cases sp with
   |some sp=>exact .no λx w'=>by rw[cH];simp[lN,h1,Dq,rB]
   |none=>
    cases gQ:c[o]? with
    |none=>exact .no λx w'=>by rw[cH];simp[lN,h1,Dq,rB,gQ]
    |some v0=>
     have e1:w.cell? ⟨b,o,none⟩=some v0:=by simp[lN,h1,gQ]
     cases nQ:w.frozen? ⟨b,o,none⟩ with
     |true=>exact .no λx w'=>by simp_all
     |false=>
      have V3:¬Lg fz o:=by
       intro⟨z1,z2⟩;simp[aE.frozen?,h1,z1,z2] at nQ
      have Ac:¬St b:=by
       intro hs;obtain⟨_,c2,T2,hi,g1,g2⟩:=hw.st b hs;rw[h1] at g1;injection g1 with g1;injection g1 with g1 _ g3;subst g1 g3;exact V3 ⟨mP _,Nat.lt_of_lt_of_le (eE.1 gQ).1 g2⟩
      have st:=nC.upd hw qK Ac (oK.cells (T:=T) (hc.set o hv) hz);refine(ih hk st.rel (ht.step st)).after (by rw[cH,e1];simp only[nQ,gK,if_false];rw[Yf h1]) rfl rfl λT' e=>?_;rw[cH,show(tp w T' e).cell? ⟨b,o,none⟩=some v0 from e1];simp only[show(tp w T' e).frozen? ⟨b,o,none⟩=false from nQ,gK,if_false];rw[Yf (w:=tp w T' e) h1];rfl
  |_=>exact .no λx w'=>by rw[cH];simp[lN,h1,Dq,rB]
 |new o k ih=>
  rintro R w W s' (hn|⟨o',k',rfl,ho,hk⟩) hw ht
  .exact .no (hn.no hw.np)
  have st:=nC.push hw ho;exact(ih _ (hk _ _ ⟨λb hb=>absurd (hw.lt _ _ hb).1 (Jn _),λa ha=>absurd (hw.lt _ _ ha).2 (Jn _),by subst hG;exact hw.gle⟩) st.rel (ht.step st)).after M2 rfl rfl λT e=>by rw[bK];rfl
 |shape r k ih=>
  rintro R w W s' (hn|⟨r',k',rfl,s7,hk⟩) hw ht
  .exact .no (hn.no hw.np)
  exact(ih _ (hk _) hw ht).after M2 rfl rfl λT e=>by rw[bK];rfl
 |freeze a n k ih=>
  rintro R w W s' (hn|h) hw ht
  .exact .no (hn.no hw.np)
  .exact h.elim
 |frozen a k ih=>
  rintro R w W s' (hn|⟨r',k',rfl,hk⟩) hw ht
  .exact .no (hn.no hw.np)
  exact(ih _ (hk _ true) hw ht).after M2 rfl rfl λT e=>by rw[bK];rfl
 |getObj r k ih=>
  rintro R w W s' (hn|⟨r',k',rfl,s7,hk⟩) hw ht
  .exact .no (hn.no hw.np)
  rcases hw.orR s7 with y|y
  .obtain⟨ob,C6,h1,h2,h3⟩:=hw.cont r r' y
   have go:(∀c T fz,ob≠ .cells c T fz)->M7 P.g (.getObj r k) w:=λn1=>by
    refine(ih ob (hk _ _ h3) hw ht).after ?_ rfl rfl λT e=>?_
    .rw[bK,h1];simp_all
    .rw[bK,show(tp w T e).heap[r]? =some ob from h1];simp_all
   cases h3 with
   |cells _ _=>exact .no λx w'=>by rw[bK,h1];simp
   |_=>exact go aQ
  .exact .no λx w'=>by rw[bK,y];simp[o6]
 |setObj r o k ih=>
  rintro R w W s' (hn|⟨r',o',k',rfl,s7,ho,hk⟩) hw ht
  .exact .no (hn.no hw.np)
  rcases hw.orR s7 with y|y
  .obtain⟨ob,C6,h1,h2,h3⟩:=hw.cont r r' y
   have go:(∀c T fz,ob≠ .cells c T fz)->M7 P.g (.setObj r o k) w:=λn1=>by
    have Ac:¬St r:=by
     intro hs;obtain⟨_,c2,T2,hi,g1,g2⟩:=hw.st r hs;rw[h1] at g1;injection g1 with g1;exact n1 _ _ _ g1
    have st:=nC.upd hw y Ac ho;refine(ih hk st.rel (ht.step st)).after ?_ rfl rfl λT e=>?_
    .rw[bK,h1];simp_all
    .rw[bK,show(tp w T e).heap[r]? =some ob from h1];cases ob<;>first|rfl|exact absurd rfl (n1 _ _ _)
   cases h3 with
   |cells _ _=>exact .no λx w'=>by rw[bK,h1];simp
   |_=>exact go aQ
  .exact .no λx w'=>by rw[bK,y];simp[o6]
 |choose q k ih=>
  rintro R w W s' (hn|⟨k',rfl,hk⟩) hw ht
  .exact .no (hn.no hw.np)
  cases hq:q.forced with
  |true=>exact(ih 0 (hk 0) hw ht).after (by rw[bK,hq];rfl) rfl rfl λT e=>by rw[bK,hq];rfl
  |false=>
   have st:=nC.draw hw;intro x w' e;rw[bK,hq] at e;simp only[gK,if_false] at e;obtain⟨h1,h2,h3⟩:=ih _ (hk _) st.rel (ht.step st) x w' e;simp only at h1 h2 h3;refine⟨h1,aC,λT e' ha=>?_⟩;rw[bK,hq];simp only[gK,if_false];have ea:T e' q=w.tape w.drawn q:=ha 0 aC q;have:=h3 T (e'+1) (λn hn q'=>by rw[show e'+1+n=e'+(n+1) by omega,show w.drawn+1+n=w.drawn+(n+1) by omega];exact ha (n+1) aC q');show bK P.g (k (q.cut (T e' q))) (tp w T (e'+1))=_;rw[ea];rw[show tp w T (e'+1)=tp {w with drawn:=w.drawn+1} T (e'+1) from rfl,this];congr 2;omega
 |sys c k ih=>
  rintro R w W s' (hn|h) hw ht
  .exact .no (hn.no hw.np)
  .exact h.elim
 |program k ih=>
  rintro R w W s' (hn|⟨k',rfl,hk⟩) hw ht
  .exact .no (hn.no hw.np)
  exact(ih _ hk hw ht).after M2 rfl rfl λT e=>by rw[bK]
 |mark m k ih=>
  rintro R w W s' (hn|⟨rfl,k',rfl,hk⟩) hw ht
  .exact .no (hn.no hw.np)
  exact(ih hk hw ht).after M2 rfl rfl λT e=>by rw[bK]
 |halt h=>
  rintro R w W s' _ hw ht;exact .no λx w'=>by simp[bK]
end Go.Tt
namespace Go.Tt
open Go.Conc (G)
structure Fm where
 fn:aN
 tmps:Array aF
 todo:List dS
 ret:Bool
def Fm.fr (m:Fm):Frame:={fn:=m.fn,tmps:=m.tmps,todo:=m.todo,defers:=[],mode:=if m.ret then .returning else .run,kind:=.normal}
def Fm.eval (m:Fm):cI->aF
 | .tmp t=>m.tmps.getD t aA
 | .const v=>v
 | .global g=>.pointer (some ⟨g,0,none⟩)
 | .func f=>.func (.func f) #[] #[]
def Fm.fin (m:Fm)(ops:Array aZ)(i:Nat)(rest:List Nat)(k:List dS)(v:aF):Fm:=
 {m with tmps:=match(ops[i]?).bind (·.dst) with|some d=>m.tmps.setIfInBounds d v|none=>m.tmps,todo:=.inRegion ops rest::k}
def yP (t:Array aF):Qh->cP aF
 | .tmp s=>pure (t.getD s aA)
 | .cell s ty=>do loadVar ty (<-asAddr (t.getD s aA))
def o5:List Qh->Array aF->cP aF
 |[],_=>pure (.tuple #[])
 |[a],t=>yP t a
 |[a,b],t=>do
  let x<-yP t a
  let y<-yP t b
  pure (.tuple #[x,y])
 |[a,b,c],t=>do
  let x<-yP t a
  let y<-yP t b
  let z<-yP t c
  pure (.tuple #[x,y,z])
 |[a,b,c,d],t=>do
  let x<-yP t a
  let y<-yP t b
  let z<-yP t c
  let u<-yP t d
  pure (.tuple #[x,y,z,u])
 |_,_=>stuck ""
def Ia (l:List Qh):Prop:=l=[]\/(∃a,l=[a])\/(∃a b,l=[a,b])\/(∃a b c,l=[a,b,c])\/∃a b c d,l=[a,b,c,d]
variable {fn:Func}
theorem zjz {tmps:Array aF}(h:Ia fn.results.toList):results fn tmps=o5 fn.results.toList tmps:=by
 rcases h with e|⟨a,e⟩|⟨a,b,e⟩|⟨a,b,c,e⟩|⟨a,b,c,d,e⟩
 .have e':=zdi.1 e
  simp[results,e',o5]
 .have e':=zdi.1 e
  rw[e];cases a<;>simp[results,e',o5,yP]
 .have e':=zdi.1 e
  rw[e];cases a<;>cases b<;>simp[results,e',o5,yP]
 .have e':=zdi.1 e
  rw[e];cases a<;>cases b<;>cases c<;>simp[results,e',o5,yP]
 .have e':=zdi.1 e
  rw[e];cases a<;>cases b<;>cases c<;>cases d<;>simp[results,e',o5,yP]
def TF {α:Type}(p:bT)(s:cP α):Prop:=∀w x w',s.run p w=.ok x w'->w'=w/\∀T e,s.run p (tp w T e)=.ok x (tp w T e)
variable {α:Type}{p:bT}
theorem TF.ret (a:α):TF p (lZ a:cP α):=λw x w' h=>by simp_all
theorem TF.bnd {β:Type}{s:cP α}{f:α->cP β}(hs:TF p s)(hf:∀a,TF p (f a)):TF p (s>>=f):=λw x w' h=>by
 have h2:=(tP p s f w).symm.trans h
 cases hx:s.run p w with
 |halt y w2=>rw[hx] at h2;cases h2
 |ok a w1=>
  rw[hx] at h2;obtain⟨rfl,h3⟩:=hs w a w1 hx;obtain⟨rfl,h4⟩:=hf a w1 x w' h2;refine⟨rfl,λT e=>(tP p s f _).trans ?_⟩;rw[h3 T e];exact h4 T e
def TF.halt {s:cP α}(h:∀w x w',s.run p w≠ .ok x w'):TF p s:=λw x w' e=>absurd e (h w x w')
theorem zgO {Uk:String}:TF p (stuck Uk:cP α):=TF.halt λw x w' e=>by simp_all
theorem zqo :TF p program:=λw x w' h=>by simp_all
theorem ztH (a:bD):TF p (load a):=λw x w' h=>by
 unfold load at h⊢;simp only[bK] at h⊢
 cases hc:w.cell? a with
 |none=>
  rw[hc] at h;simp only at h
  cases hf:zF p w a (zab==zf3) with
  |error y=>rw[hf] at h;cases h
  |ok v=>
   rw[hf] at h;simp only[uV] at h;refine⟨h.2.symm,λT e=>?_⟩;have e1:(tp w T e).cell? a=none:=hc;have e2:zF p (tp w T e) a (zab==zf3)=.ok v:=(show zF p (tp w T e) a (zab==zf3)=zF p w a (zab==zf3) from rfl).trans hf;simp_all
 |some v=>
  rw[hc] at h;simp only[uV] at h;refine⟨h.2.symm,λT e=>?_⟩;have:(tp w T e).cell? a=some v:=hc;rw[this,h.1]
theorem zyC (t:aM):TF p (underlying t):=by
 unfold underlying;refine zqo.bnd λq=>?_;split
 .exact .ret _
 .exact zgO
theorem zAH (t:aM):TF p (isAgg t):=by
 unfold isAgg;refine(zyC t).bnd λq=>?_;split<;>exact .ret _
theorem zIj (t:aM):TF p (sizeOf t):=by
 unfold sizeOf typeInfo;refine TF.bnd (zqo.bnd λq=>?_) λi=>.ret _;split
 .exact .ret _
 .exact zgO
def zth (a:bD):∀(n i:Nat) (acc:Array aF),TF p (loadCellsFrom a i n acc)
 |0,i,acc=>.ret _
 |n+1,i,acc=>(ztH _).bnd λv=>zth a n (i+1) (acc.push v)
theorem zy1 (t:aM)(a:bD):TF p (loadVar t a):=by
 unfold loadVar;refine(zAH t).bnd λb=>?_;split
 .exact(zIj t).bnd λn=>(zth a n 0 #[]).bnd λx=>.ret _
 .exact ztH a
theorem Kj (t:Array aF)(r:Qh):TF p (yP t r):=by
 cases r with
 |tmp s=>exact .ret _
 |cell s ty=>
  refine TF.bnd ?_ λa=>zy1 ty a;unfold asAddr;split
  .exact .ret _
  .exact TF.halt λw x w' e=>by simp[runtimePanic,goPanic,bK,bind,wX,program] at e
  .exact zgO
def Xd (t:Array aF):∀l:List Qh,TF p (o5 l t)
 |[]=>.ret _
 |[a]=>Kj t a
 |[a,b]=>(Kj t a).bnd λx=>(Kj t b).bnd λy=>.ret _
 |[a,b,c]=>(Kj t a).bnd λx=>(Kj t b).bnd λy=>(Kj t c).bnd λz=>.ret _
 |[a,b,c,d]=>(Kj t a).bnd λx=>(Kj t b).bnd λy=>(Kj t c).bnd λz=>(Kj t d).bnd λu=>.ret _
 |_::_::_::_::_::_=>zgO
variable {w w':aE}{v:aF}
theorem ztX {l:List Qh}{t:Array aF}(h:(o5 l t).run p w=.ok v w'):Ia l:=by
 match l,h with
 |[],_=>exact .inl rfl
 |[a],_=>exact .inr (.inl ⟨a,rfl⟩)
 |[a,b],_=>exact .inr (.inr (.inl ⟨a,b,rfl⟩))
 |[a,b,c],_=>exact .inr (.inr (.inr (.inl ⟨a,b,c,rfl⟩)))
 |[a,b,c,d],_=>exact .inr (.inr (.inr (.inr ⟨a,b,c,d,rfl⟩)))
 |a::b::c::d::e::l,h=>simp[o5,stuck,bK] at h
def rK (p:bT)(m:Fm)(ms:List Fm)(ops:Array aZ)(i:Nat)(rest:List Nat)(k:List dS):Next->cP (Fm×List Fm)
 | .value v=>pure (m.fin ops i rest k v,ms)
 | .skip=>pure (m.fin ops i rest k aA,ms)
 | .enter f args=>
  match p.funcs[f]? with
  |some fn=>(match fn.body with
   |some c=>pure (⟨f,args++oC (fn.ntmps-args.size) aA,[.code c],false⟩,m::ms)
   |none=>stuck "")
  |none=>stuck ""
 |_=>stuck ""
def z8 (p:bT)(m:Fm):List Fm->cP (Fm×List Fm)
 |[]=>stuck ""
 |c::rest=>
  match c.todo,p.funcs[m.fn]? with
  | .inRegion ops (i::r)::k,some fn=>do
   let v<-o5 fn.results.toList m.tmps
   pure (c.fin ops i r k v,rest)
  |_,_=>stuck ""
variable {m:Fm}{rest:List Fm}{w1:aE}
theorem Ru {c m1:Fm}{ms1:List Fm}(h:(z8 p m (c::rest)).run p w=.ok (m1,ms1) w1):
 ∃ops i r k v fn,c.todo=.inRegion ops (i::r)::k/\p.funcs[m.fn]? =some fn/\(o5 fn.results.toList m.tmps).run p w=.ok v w1/\m1=c.fin ops i r k v/\ms1=rest:=by
 unfold z8 at h;simp only at h;split at h
 .next ops i r k fn hc hf=>
  have h2:=(tP p _ _ w).symm.trans h
  cases hx:(o5 fn.results.toList m.tmps).run p w with
  |halt y w2=>rw[hx] at h2;cases h2
  |ok v w2=>
   rw[hx] at h2;simp only[vF,lZ,bK,uV,qI] at h2;obtain⟨⟨rfl,rfl⟩,rfl⟩:=h2;exact⟨ops,i,r,k,v,fn,hc,hf,hx,rfl,rfl⟩
 .simp[stuck,bK] at h
variable {ops:Array aZ}{i:Nat}{k:List dS}
theorem Kk {c:Fm}{r:List Nat}(hc:c.todo=.inRegion ops (i::r)::k)(hf:p.funcs[m.fn]? =some fn)(hv:(o5 fn.results.toList m.tmps).run p w=.ok v w1):
 (z8 p m (c::rest)).run p w=.ok (c.fin ops i r k v,rest) w1/\∀es,(z8 p m (c::rest)).events p w es=(o5 fn.results.toList m.tmps).events p w es:=by
 unfold z8;simp_all
def sS (p:bT)(m:Fm)(ms:List Fm):cP (Fm×List Fm):=
 match m.todo with
 |[]=>pure ({m with ret:=true},ms)
 | .code .ret::_=>pure ({m with ret:=true},ms)
 | .code .skip::k=>pure ({m with todo:=k},ms)
 | .code (.label _)::k=>pure ({m with todo:=k},ms)
 | .inBlock _::k=>pure ({m with todo:=k},ms)
 | .inScope _::k=>pure ({m with todo:=k},ms)
 | .code (.seq a b)::k=>pure ({m with todo:=.code a:: .code b::k},ms)
 | .code (.cond c a b)::k=>(match m.eval c with
  | .bool t=>pure ({m with todo:=.code (if t then a else b)::k},ms)
  |_=>stuck "")
 | .code (.block id body)::k=>pure ({m with todo:=.code body:: .inBlock id::k},ms)
 | .code (.loop body)::k=>pure ({m with todo:=.code body:: .inLoop body::k},ms)
 | .inLoop body::k=>pure ({m with todo:=.code body:: .inLoop body::k},ms)
 | .code (.scope body)::k=>pure ({m with todo:=.code body:: .inScope body::k},ms)
 | .code (.exit id)::k=>(match exitTo id k with
  |some k'=>pure ({m with todo:=k'},ms)
  |none=>stuck "")
 | .code (.region id ops draw)::k=>
  if draw then do
   let t<-choose (.order m.fn id)
   pure ({m with todo:=.inRegion ops (Sm (p.follows .mixedOrders) ops t)::k},ms)
  else pure ({m with todo:=.inRegion ops (iX ops.size)::k},ms)
 | .inRegion _ []::k=>pure ({m with todo:=k},ms)
 | .inRegion ops (i::rest)::k=>
  if((ops[i]?).map (dG · (dO ops m.tmps))).getD false then
   match ops[i]? with
   |some o=>do
    let n<-aO m.eval o
    rK p m ms ops i rest k n
   |none=>stuck ""
  else pure (m.fin ops i rest k aA,ms)
 |_=>stuck ""
def fE (p:bT)(m:Fm)(ms:List Fm):cP (Fm×List Fm):=if m.ret then z8 p m ms else sS p m ms
theorem Fm.eval_fr (m:Fm):m.fr.eval=m.eval:=by funext x;cases x<;>rfl
theorem Fm.fr_run (h:m.ret=false):m.fr={fn:=m.fn,tmps:=m.tmps,todo:=m.todo,defers:=[],mode:=.run,kind:=.normal}:=by simp[Fm.fr,h]
theorem Fm.fr_ret (h:m.ret=true):m.fr={fn:=m.fn,tmps:=m.tmps,todo:=m.todo,defers:=[],mode:=.returning,kind:=.normal}:=by simp[Fm.fr,h]
theorem zId {rest:List Nat}(h:m.todo=.inRegion ops (i::rest)::k)(v:aF):m.fr.finish v=(m.fin ops i rest k v).fr:=by
 simp only[dJ.finish,Fm.fr,Fm.fin,h]
 grind
theorem zaw {f:aN}{c:Code}{args:Array aF}(hf:p.funcs[f]? =some fn)(hb:fn.body=some c):
 Hu p f args .normal=(⟨f,args++oC (fn.ntmps-args.size) aA,[.code c],false⟩:Fm).fr:=by
 simp[Hu,Fm.fr,hf,hb]
theorem ziQ {id:Nat}:∀{l l':List dS} (k:List dS),exitTo id l=some l'->exitTo id (l++k)=some (l'++k)
 |[],_,_,h=>by simp[exitTo] at h
 |x::l,l',k,h=>by
  have tail:exitTo id l=some l'->exitTo id (l++k)=some (l'++k):=ziQ k;cases x<;>simp only[exitTo,Sr] at h⊢<;>first|exact tail h|skip
  grind
open Conc in
structure Dk where
 ds:List Deferred
 kd:CallKind
 ok:kd≠ .early
abbrev Dk.nil:Dk:=⟨[],.normal,aQ⟩
def Dk.base (d:Dk)(fn:aN):Frame:={(default:dJ) with fn:=fn,kind:=d.kd}
def fx (k:List dS)(d:Dk)(m:Fm):Frame:={m.fr with todo:=m.todo++k,defers:=d.ds,kind:=d.kd}
theorem G5 (m:Fm):fx [] .nil m=m.fr:=by unfold fx;simp[Fm.fr]
variable {main:Bool}{m':Fm}{ms ms':List Fm}
theorem zhI (hr:m.ret=false)(aS:m.todo=[]->k=[])(h:(sS p m ms).run p w=.ok (m',ms') w')(d:Dk)(CS:List dJ):
 (ms'=ms/\stepG p main (G (fx k d m) CS) w=.go (G (fx k d m') CS) w' (seen p m.fn ((sS p m ms).events p w #[])))\/
 (ms'=m::ms/\stepG p main (G (fx k d m) CS) w=.go (G m'.fr (fx k d m::CS)) w' (seen p m.fn ((sS p m ms).events p w #[]))):=by
 have Pm:seen p m.fn #[]=#[]:=Conc.seen_none p _;obtain⟨fn,tmps,todo,ret⟩:=m;simp only at hr Pm aS⊢;subst hr;unfold sS at h⊢;simp only at h⊢;split at h
 all_goals first
  |(simp[stuck,bK] at h;done)
  |(
   obtain rfl:=aS rfl;simp only[lZ,bK,uV,qI] at h;obtain⟨⟨rfl,rfl⟩,rfl⟩:=h;refine .inl ⟨rfl,?_⟩;simp[G,stepG,Mp,Fm.fr,fx,Pm,Ct]
   done)
  |(
   simp only[lZ,bK,uV,qI] at h;obtain⟨⟨rfl,rfl⟩,rfl⟩:=h;refine .inl ⟨rfl,?_⟩;simp[G,stepG,Mp,Fm.fr,fx,Pm,Ct]
   done)
  |skip
 case h_8 _ c a b k0=>
  generalize hv:Fm.eval {fn:=fn,tmps:=tmps,todo:=Mw (Code.cond c a b)::k0,ret:=false} c=v at h⊢;have hc:dJ.eval {fn:=fn,tmps:=tmps,todo:=Mw (Code.cond c a b)::(k0++k),defers:=d.ds,mode:=.run,kind:=d.kd} c=v:=by rw[<-hv];cases c<;>rfl
  cases v with
  |bool t=>
   simp only[lZ,bK,uV,qI] at h;obtain⟨⟨rfl,rfl⟩,rfl⟩:=h;refine .inl ⟨rfl,?_⟩;simp[G,stepG,Mp,Fm.fr,fx,Pm,hc]
  |_=>simp_all
 case h_13 _ id k0=>
  cases he:exitTo id k0 with
  |some k'=>
   rw[he] at h;simp only[lZ,bK,uV,qI] at h;obtain⟨⟨rfl,rfl⟩,rfl⟩:=h;refine .inl ⟨rfl,?_⟩;simp[G,stepG,Mp,Fm.fr,fx,Pm,ziQ k he]
  |none=>simp_all
 case h_14 _ id ops draw k0=>
  cases draw with
  |true=>
   simp[choose,bK,zjb,ziW,bind,wX,pure] at h;obtain⟨⟨rfl,rfl⟩,rfl⟩:=h;refine .inl ⟨rfl,?_⟩;simp[G,stepG,Mp,Fm.fr,fx,Pm,choose,bK,zjb,ziW,cP.events,cP.runT,bind,wX,pure]
  |false=>
   simp only[gK,if_false,lZ,bK,uV,qI] at h;obtain⟨⟨rfl,rfl⟩,rfl⟩:=h;refine .inl ⟨rfl,?_⟩;simp[G,stepG,Mp,Fm.fr,fx,Pm]
 case h_16 _ ops i rest k0=>
  have zfB:∀x,Act.eval ⟨tmps,d.ds⟩ x=Fm.eval {fn:=fn,tmps:=tmps,todo:=sD ops (i::rest)::k0,ret:=false} x:=λx=>by cases x<;>rfl
  have zvJ:Act.eval ⟨tmps,d.ds⟩=Fm.eval {fn:=fn,tmps:=tmps,todo:=sD ops (i::rest)::k0,ret:=false}:=funext zfB;have Az:∀v,(d.base fn).at (Act.put ⟨tmps,d.ds⟩ ((ops[i]?).bind (·.dst)) v) (.inRegion ops rest::(k0++k))=fx k d (Fm.fin {fn:=fn,tmps:=tmps,todo:=sD ops (i::rest)::k0,ret:=false} ops i rest k0 v):=λv=>by
   unfold Fm.fin Act.put fx;cases(ops[i]?).bind (·.dst)<;>rfl
  have hb:(d.base fn).kind≠ .early:=d.ok;have Th:fx k d {fn:=fn,tmps:=tmps,todo:=sD ops (i::rest)::k0,ret:=false}=(d.base fn).at ⟨tmps,d.ds⟩ (.inRegion ops (i::rest)::(k0++k)):=rfl;rw[Th]
  cases ho:ops[i]? with
  |none=>
   rw[ho] at h;simp only[Option.map_none,Option.getD_none,gK,if_false,lZ,bK,uV,qI] at h;obtain⟨⟨rfl,rfl⟩,rfl⟩:=h;refine .inl ⟨rfl,?_⟩;rw[<-Az aA];have Iw:((d.base fn).at ⟨tmps,d.ds⟩ (.inRegion ops (i::rest)::(k0++k))).finish aA=(d.base fn).at (Act.put ⟨tmps,d.ds⟩ ((ops[i]?).bind (·.dst)) aA) (.inRegion ops rest::(k0++k)):=dJ.finish_at _ _ _ _ _ _ _;rw[<-Iw];simp[G,stepG,Mp,Pm,ho,dJ.at]
  |some o=>
   rw[ho] at h;simp only[ho,xS] at Az;simp only[Fl,Bp] at h⊢;by_cases hw:dG o (dO ops tmps)=true
   .rw[if_pos hw] at h
    rw[if_pos hw];have tT:=tP p (aO (Fm.eval {fn:=fn,tmps:=tmps,todo:=sD ops (i::rest)::k0,ret:=false}) o) (rK p {fn:=fn,tmps:=tmps,todo:=sD ops (i::rest)::k0,ret:=false} ms ops i rest k0) w;have h':=tT.symm.trans h;have zHu:=cP.events_bind' p (aO (Fm.eval {fn:=fn,tmps:=tmps,todo:=sD ops (i::rest)::k0,ret:=false}) o) (rK p {fn:=fn,tmps:=tmps,todo:=sD ops (i::rest)::k0,ret:=false} ms ops i rest k0) w #[]
    cases hx:(aO (Fm.eval {fn:=fn,tmps:=tmps,todo:=sD ops (i::rest)::k0,ret:=false}) o).run p w with
    |halt y w1=>rw[hx] at h';cases h'
    |ok n w1=>
     rw[hx] at h' zHu;have l9:(aO (Act.eval ⟨tmps,d.ds⟩) o).run p w=.ok n w1:=by rw[zvJ];exact hx
     have hl:wU p fn ⟨tmps,d.ds⟩ o w=seen p fn ((aO (Fm.eval {fn:=fn,tmps:=tmps,todo:=sD ops (i::rest)::k0,ret:=false}) o).events p w #[]):=by unfold wU;rw[zvJ]
     have h2:(rK p {fn:=fn,tmps:=tmps,todo:=sD ops (i::rest)::k0,ret:=false} ms ops i rest k0 n).run p w1=.ok (m',ms') w':=h'
     have zkn:∀(r:Fm×List Fm),rK p {fn:=fn,tmps:=tmps,todo:=sD ops (i::rest)::k0,ret:=false} ms ops i rest k0 n=lZ r->
      (m',ms')=r/\w'=w1/\seen p fn ((do let n<-aO (Fm.eval {fn:=fn,tmps:=tmps,todo:=sD ops (i::rest)::k0,ret:=false}) o;rK p {fn:=fn,tmps:=tmps,todo:=sD ops (i::rest)::k0,ret:=false} ms ops i rest k0 n:cP (Fm×List Fm)).events p w #[])=wU p fn ⟨tmps,d.ds⟩ o w:=λr e=>by simp_all
     cases n with
     |value v=>
      obtain⟨e1,rfl,e3⟩:=zkn _ rfl;injection e1 with e1 e2;subst e1 e2;refine .inl ⟨rfl,?_⟩;rw[e3];have:=Conc.stepG_value (main:=main) (b:=d.base fn) (a:=⟨tmps,d.ds⟩) (rest:=rest) (k:=k0++k) (cs:=CS) ho hw hb l9;rw[Az] at this;exact this
     |skip=>
      obtain⟨e1,rfl,e3⟩:=zkn _ rfl;injection e1 with e1 e2;subst e1 e2;refine .inl ⟨rfl,?_⟩;rw[e3];have:=Conc.stepG_none (main:=main) (b:=d.base fn) (a:=⟨tmps,d.ds⟩) (rest:=rest) (k:=k0++k) (cs:=CS) ho hw hb l9;rw[Az] at this;exact this
     |enter f args=>
      have h3:=h2;simp only[rK] at h3
      cases hf:p.funcs[f]? with
      |none=>simp_all
      |some fn2=>
       cases zfn:fn2.body with
       |none=>simp_all
       |some c=>
        obtain⟨e1,rfl,e3⟩:=zkn _ (by simp only[rK,hf,zfn];rfl);injection e1 with e1 e2;subst e1 e2;refine .inr ⟨rfl,?_⟩;rw[e3];have:=Conc.stepG_enter (main:=main) (b:=d.base fn) (a:=⟨tmps,d.ds⟩) (rest:=rest) (k:=k0++k) (cs:=CS) ho hw hb l9;rw[zaw hf zfn] at this;exact this
     |_=>simp[rK,stuck,bK] at h2
   .rw[if_neg hw] at h
    rw[if_neg hw];simp only[lZ,bK,uV,qI] at h;obtain⟨⟨rfl,rfl⟩,rfl⟩:=h;refine .inl ⟨rfl,?_⟩;have:=Conc.stepG_unwanted (P:=p) (main:=main) (b:=d.base fn) (a:=⟨tmps,d.ds⟩) (rest:=rest) (k:=k0++k) (cs:=CS) (w:=w) ho (by simpa using hw);simp_all
theorem zlz (h:(fE p m ms).run p w=.ok (m',ms') w')(base:List dJ):
 stepG p main (G m.fr (ms.map Fm.fr++base)) w=.go (G m'.fr (ms'.map Fm.fr++base)) w' (seen p m.fn ((fE p m ms).events p w #[])):=by
 unfold fE at h⊢;by_cases hr:m.ret=true
 .simp only[hr,if_true] at h⊢
  cases ms with
  |nil=>simp[z8,stuck,bK] at h
  |cons c rest=>
   obtain⟨ops,i,r,k,v,fn,hc,hf,hv,rfl,rfl⟩:=Ru h;rw[(Kk hc hf hv).2];have he:results fn m.tmps=o5 fn.results.toList m.tmps:=zjz (ztX hv);rw[Fm.fr_ret hr,List.map_cons,Sr];have Az:c.fr.finish v=(c.fin ops i r k v).fr:=zId hc v;rw[<-Az];simp[G,stepG,unwind,doReturn,hf,he,hv,Ct]
 .have y4:m.ret=false:=by simpa using hr
  simp only[y4,gK,if_false] at h⊢;rcases zhI (main:=main) y4 (k:=[]) (λ_=>rfl) h .nil (ms.map Fm.fr++base) with⟨rfl,e⟩|⟨rfl,e⟩
  .simp only[G5] at e;exact e
  .simp only[G5] at e;exact e
end Go.Tt
namespace Go.Tt
def Fw (p:bT)(q:Cl):dS->Bool
 | .code c| .inLoop c| .inScope c=>pJ p q c
 | .inBlock _=>true
 | .inRegion ops _=>ops.all λo=>rP p q o.op
 |_=>false
def Wait (m:Fm):Prop:=m.ret=false/\∃ops i r k,m.todo=.inRegion ops (i::r)::k
section
variable (P:dB)(fs:aN->Bool)(K R:Pr)
structure pI (m m':Fm):Prop where
 fn:m.fn=m'.fn
 todo:m.todo=m'.todo
 ret:m.ret=m'.ret
 tmps:bL (SF fs) K R m.tmps m'.tmps
 fit:∀i∈m.todo,Fw P.c (uI P fs m.fn) i=true
 infs:∃fn fn',P.g.funcs[m.fn]? =some fn/\P.c.funcs[m.fn]? =some fn'/\fn.results=fn'.results/\Ia fn.results.toList
inductive uP:List Fm->List Fm->Prop
 |nil:uP [] []
 |cons {m m':Fm} {ms ms':List Fm}:pI P fs K R m m'->Wait m->uP ms ms'->uP (m::ms) (m'::ms')
end
structure Fit2 (P:dB)(fs:aN->Bool):Prop extends Fit P fs where
 res:∀f,P.gs f=true->P.op f=false->∀fn,P.c.funcs[f]? =some fn->Ia fn.results.toList
 follows:P.g.follows .mixedOrders=P.c.follows .mixedOrders
section
variable {P:dB}{fs:aN->Bool}{K R R':Pr}
variable {m m':Fm}
def pI.mono (h:R.le R')(x:pI P fs K R m m'):pI P fs K R' m m':=⟨x.fn,x.todo,x.ret,x.tmps.mono h,x.fit,x.infs⟩
variable {ms ms':List Fm}
theorem uP.mono (h:R.le R')(x:uP P fs K R ms ms'):uP P fs K R' ms ms':=by
 induction x with
 |nil=>exact .nil
 |cons a b _ ih=>exact .cons (a.mono h) b ih
theorem yS {S:aN->Prop}:VR S K R aA undef:=.tuple rfl (λi v v' h=>by simp at h)
theorem pI.eval (x:pI P fs K R m m'):∀o,dP fs o=true->VR (SF fs) K R (m.eval o) (m'.eval o):=by
 intro o ho
 cases o with
 |tmp t=>exact x.tmps.getD t yS
 |const v=>exact zwF ho
 |global g=>cases ho
 |func f=>exact .func ho rfl (λi v v' h=>by simp at h) rfl (λi v v' h=>by simp at h)
def Dy (p:bT)(f:aN)(xs:Array aF):Fm:=
 match p.funcs[f]? with
 |some fn=>(match fn.body with
  |some c=>⟨f,xs++oC (fn.ntmps-xs.size) aA,[.code c],false⟩
  |none=>⟨f,xs,[],false⟩)
 |none=>⟨f,xs,[],false⟩
structure OpR (P:dB)(fs:aN->Bool)(K R:Pr)(x y:Fm×List Fm):Prop where
 ex:∃f xs bV c c' rest Nu,P.op f=true/\P.gs f=true/\bL (SF fs) K R xs bV/\x=(Dy P.g f xs,c::rest)/\y=(Dy P.c f bV,c'::Nu)/\pI P fs K R c c'/\Wait c/\uP P fs K R rest Nu/\P.lw c.fn=false
abbrev StA (P:dB)(fs:aN->Bool)(K:Pr)(l:Bool):Pr->(Fm×List Fm)->(Fm×List Fm)->Prop:=λR x y=>
 (pI P fs K R x.1 y.1/\uP P fs K R x.2 y.2/\(l=true->P.lw x.1.fn=true/\∀c∈x.2,P.lw c.fn=true))\/(l=false/\OpR P fs K R x y)
variable {ops:Array aZ}{i:Nat}{rest:List Nat}{k:List dS}
theorem pI.fin (x:pI P fs K R m m')(h:m.todo=.inRegion ops (i::rest)::k){v v':aF}(hv:VR (SF fs) K R v v'):
 pI P fs K R (m.fin ops i rest k v) (m'.fin ops i rest k v'):=by
 refine⟨x.fn,rfl,x.ret,?_,λj hj=>?_,x.infs⟩
 .unfold Fm.fin
  cases(ops[i]?).bind (·.dst) with
  |none=>exact x.tmps
  |some d=>exact x.tmps.set d hv
 .simp only[Fm.fin,lO] at hj
  rcases hj with rfl|hj
  .have:=x.fit (.inRegion ops (i::rest)) (by rw[h];simp)
   exact this
  .exact x.fit j (by rw[h];simp[hj])
abbrev LowS (P:dB)(l:Bool)(m:Fm)(ms:List Fm):Prop:=l=true->P.lw m.fn=true/\∀c∈ms,P.lw c.fn=true
variable {xs bV:Array aF}
theorem bL.pad (ha:bL (SF fs) K R xs bV)(n:Nat):bL (SF fs) K R (xs++oC (n-xs.size) aA) (bV++oC (n-bV.size) aA):=by
 rw[ha.1];refine ha.append ⟨aQ,λj v v' h1 h2=>?_⟩;rw[Array.getElem?_replicate] at h1 h2;split at h1
 .rename_i hj
  rw[if_pos hj] at h2;cases h1;cases h2;exact yS
 .cases h1
theorem zgN (F:Fit P fs)(g:aN):∀f,(uI P fs g).gs f=true->P.gs f=true:=λf h=>by
 unfold uI at h;split at h
 .exact(F.low f h).2
 .exact h
theorem zv4 (F:Fit P fs)(g:aN):(uI P fs g).dy=true->∀f,fs f=true->(uI P fs g).gs f=true:=λh f hf=>by
 unfold uI at h⊢;split at h
 .cases h
 .next e=>rw[if_neg e];exact F.dyn h f hf
theorem sim_opS (F:Fit2 P fs){l:Bool}(hm:pI P fs K R m m')(jV:uP P fs K R ms ms')(o8:LowS P l m ms)(hr:m.ret=false)(h:m.todo=.inRegion ops (i::rest)::k){n n':Next}(hn:NxR (SF fs) (uI P fs m.fn).T K R n n'):
 aG P (SF fs) K (StA P fs K l) (rK P.g m ms ops i rest k n) R (rK P.c m' ms' ops i rest k n'):=by
 cases hn with
 |value hv=>exact aG.ret (.inl ⟨hm.fin h hv,jV,o8⟩)
 |skip=>exact aG.ret (.inl ⟨hm.fin h yS,jV,o8⟩)
 |enter hT ha=>
  rename_i f xs bV;have Uq:P.lw m.fn=true->P.lw f=true:=λe=>by
   unfold uI at hT
   grind
  have hf:P.gs f=true:=zgN F.toFit m.fn f hT
  cases ho:P.op f with
  |false=>
   obtain⟨fn,c,e1,e2,e3,e4,e5⟩:=F.fn f hf ho;simp only[rK,e1,e2,e4];refine aG.ret (.inl ⟨⟨rfl,rfl,rfl,ha.pad _,λj hj=>?_,⟨fn,fn,e1,e2,rfl,F.res f hf ho fn e2⟩⟩,.cons hm ⟨hr,ops,i,rest,k,h⟩ jV,λe=>⟨Uq (o8 e).1,λc hc=>?_⟩⟩)
   .simp only[lO,nM,or_false] at hj
    subst hj;exact e5
   grind
  |true=>
   obtain⟨fn,fn',c,c',e1,e2,e3,e4,e5,e6⟩:=F.opq f hf ho;have zkb:P.lw m.fn=false:=by
    cases hq:P.lw m.fn with
    |false=>rfl
    |true=>have:=(F.low f (Uq hq)).1;simp_all
   have hl:l=false:=by
    cases l with
    |false=>rfl
    |true=>simp_all
   simp only[rK,e1,e2,e5,e6];refine aG.ret (.inr ⟨hl,⟨f,xs,bV,m,m',ms,ms',ho,hf,ha,?_,?_,hm,⟨hr,ops,i,rest,k,h⟩,jV,zkb⟩⟩)
   .have:P.g.funcs[f]? =some fn:=e1
    simp only[Dy,this,e5]
   .simp only[Dy,e2,e6]
theorem Lc {S:aN->Prop}(h:bL S K R xs bV)(a:Qh):aG P S K (VA S K) (yP xs a) R (yP bV a):=by
 cases a with
 |tmp t=>exact aG.ret (h.getD t yS)
 |cell s ty=>
  refine aG.bnd (zp5 (h.getD s yS)) ?_;intro R1 e1 a a' ha;exact zra ty ha
theorem zjv {S:aN->Prop}(h:bL S K R xs bV):∀l:List Qh,aG P S K (VA S K) (o5 l xs) R (o5 l bV)
 |[]=>aG.ret (.tuple' bL.empty)
 |[a]=>Lc h a
 |[a,b]=>by
  refine aG.bnd (Lc h a) ?_;intro R1 e1 x x' hx;refine aG.bnd (Lc (h.mono e1.le) b) ?_;intro R2 e2 y y' hy;exact aG.ret (.tuple' ((bL.one (hx.mono e2.le)).push hy))
 |[a,b,c]=>by
  refine aG.bnd (Lc h a) ?_;intro R1 e1 x x' hx;refine aG.bnd (Lc (h.mono e1.le) b) ?_;intro R2 e2 y y' hy;refine aG.bnd (Lc ((h.mono e1.le).mono e2.le) c) ?_;intro R3 e3 z z' hz;exact aG.ret (.tuple' (((bL.one ((hx.mono e2.le).mono e3.le)).push (hy.mono e3.le)).push hz))
 |[a,b,c,d]=>by
  refine aG.bnd (Lc h a) ?_;intro R1 e1 x x' hx;refine aG.bnd (Lc (h.mono e1.le) b) ?_;intro R2 e2 y y' hy;refine aG.bnd (Lc ((h.mono e1.le).mono e2.le) c) ?_;intro R3 e3 z z' hz;refine aG.bnd (Lc (((h.mono e1.le).mono e2.le).mono e3.le) d) ?_;intro R4 e4 u u' hu;exact aG.ret (.tuple' ((((bL.one (((hx.mono e2.le).mono e3.le).mono e4.le)).push ((hy.mono e3.le).mono e4.le)).push (hz.mono e4.le)).push hu))
 |_::_::_::_::_::_=>.inl bM
theorem ziZ {S:aN->Prop}(ops:Array aZ)(h:bL S K R xs bV):dO ops xs=dO ops bV:=by
 funext j;unfold dO
 cases hd:(ops[j]?).bind (·.dst) with
 |none=>rfl
 |some d=>
  simp only[xS]
  cases hx:xs[d]? with
  |none=>rw[h.none hx]
  |some v=>
   obtain⟨v',e,hv⟩:=h.get hx;rw[e]
   cases hv with
   |junk hh=>cases v'<;>first|exact hh.elim|rfl
   |_=>rfl
theorem znw {id:Nat}:∀{k k':List dS},exitTo id k=some k'->∀i∈k',i∈k
 |[],_,h,_,_=>by simp[exitTo] at h
 |x::k,k',h,i,hi=>by
  have tail:exitTo id k=some k'->i∈x::k:=λe=>by simp[znw e i hi]
  cases x<;>simp only[exitTo] at h<;>first|exact tail h|skip
  grind
theorem zhx (F:Fit2 P fs)(hR:qJ P K R){l:Bool}(hm:pI P fs K R m m')(jV:uP P fs K R ms ms')(o8:LowS P l m ms)(zgv:m.ret=true->ms≠[]):
 aG P (SF fs) K (StA P fs K l) (fE P.g m ms) R (fE P.c m' ms'):=by
 unfold fE;rw[<-hm.ret];by_cases hr:m.ret=true
 .simp only[hr,if_true]
  cases jV with
  |nil=>simp_all
  |cons hc hw Qy=>
   rename_i c c' rest Nu;obtain⟨_,ops,i,r,k,hk⟩:=hw;obtain⟨fn,fn',e1,e2,e3,e4⟩:=hm.infs;unfold z8;have cU:c'.todo=.inRegion ops (i::r)::k:=hc.todo.symm.trans hk;rw[<-hm.fn];simp only[hk,cU,e1,e2];rw[<-e3];refine aG.bnd (zjv hm.tmps fn.results.toList) ?_;intro R1 x1 v v' hv;exact aG.ret (.inl ⟨(hc.mono x1.le).fin hk hv,Qy.mono x1.le,λe=>⟨(o8 e).2 c aQ,λx hx=>(o8 e).2 x (by simp[hx])⟩⟩)
 .have Ro:m.ret=false:=by simpa using hr
  simp only[Ro,gK,if_false];have y4:m'.ret=false:=hm.ret.symm.trans Ro;unfold sS;rw[<-hm.todo];have Ex:∀{x y:Fm},pI P fs K R x y->x.fn=m.fn->aG P (SF fs) K (StA P fs K l) (lZ (x,ms)) R (lZ (y,ms')):=λh e=>aG.ret (.inl ⟨h,jV,λz=>by rw[e];exact o8 z⟩);have keep:∀(l:List dS),(∀i∈l,Fw P.c (uI P fs m.fn) i=true)->pI P fs K R {m with todo:=l} {m' with todo:=l}:=λl hl=>⟨hm.fn,rfl,hm.ret,hm.tmps,hl,hm.infs⟩;have Jc:=hm.fit;have Yl:=hm.fn
  cases qY:m.todo with
  |nil=>exact Ex ⟨hm.fn,rfl,rfl,hm.tmps,λi hi=>(by simp at hi),hm.infs⟩ rfl
  |cons x k=>
   rw[qY] at Jc;have hk:∀i∈k,Fw P.c (uI P fs m.fn) i=true:=λi hi=>Jc i (by simp[hi]);have hx:Fw P.c (uI P fs m.fn) x=true:=Jc x aQ;have two:∀(y z:dS),Fw P.c (uI P fs m.fn) y=true->Fw P.c (uI P fs m.fn) z=true->∀i∈y::z::k,Fw P.c (uI P fs m.fn) i=true:=λy z hy hz i hi=>by grind
   have one:∀(y:dS),Fw P.c (uI P fs m.fn) y=true->∀i∈y::k,Fw P.c (uI P fs m.fn) i=true:=λy hy i hi=>by grind
   cases x with
   |code c=>
    cases c with
    |skip=>grind
    |label l=>grind
    |ret=>exact Ex ⟨hm.fn,rfl,rfl,hm.tmps,Jc,hm.infs⟩ rfl
    |seq a b=>
     simp only[Fw,pJ,iY] at hx;exact Ex (keep _ (two _ _ hx.1 hx.2)) rfl
    |cond c a b=>
     simp only[Fw,pJ,iY] at hx;have hv:=hm.eval c (zkW P fs m.fn▸hx.1.1);simp only;generalize m.eval c=v at hv⊢;generalize m'.eval c=v' at hv⊢
     cases hv with
     |bool t=>
      refine Ex (keep _ (one _ ?_)) rfl;cases t
      .exact hx.2
      .exact hx.1.2
     |_=>exact .inl bM
    |block id body=>exact Ex (keep _ (two _ _ hx rfl)) rfl
    |loop body=>exact Ex (keep _ (two _ _ hx hx)) rfl
    |scope body=>exact Ex (keep _ (two _ _ hx hx)) rfl
    |exit id=>
     simp only
     cases he:exitTo id k with
     |none=>exact .inl bM
     |some k'=>exact Ex (keep _ λi hi=>hk i (znw he i hi)) rfl
    |region id ops draw=>
     simp only
     cases draw with
     |true=>
      simp only[if_true];rw[<-Yl];refine aG.bnd (ze3 _) ?_;rintro R1 h1 t _ rfl;rw[F.follows];exact aG.ret (.inl ⟨(by have y:=(keep (.inRegion ops (Sm (P.c.follows .mixedOrders) ops t)::k) (one (.inRegion ops (Sm (P.c.follows .mixedOrders) ops t)) hx)).mono h1.le;rw[<-Yl] at y;exact y),jV.mono h1.le,o8⟩)
     |false=>
      simp only[gK,if_false];exact Ex (keep _ (one (.inRegion ops (iX ops.size)) hx)) rfl
    |_=>cases hx
   |inBlock id=>grind
   |inScope c=>grind
   |inLoop c=>exact Ex (keep _ (two _ _ hx hx)) rfl
   |inRegion ops l=>
    cases l with
    |nil=>grind
    |cons i rest=>
     simp only;rw[<-ziZ ops hm.tmps];by_cases hw:((ops[i]?).map (dG · (dO ops m.tmps))).getD false=true
     .rw[if_pos hw,if_pos hw]
      cases ho:ops[i]? with
      |none=>exact .inl bM
      |some o=>
       simp only;have bU:rP P.c (uI P fs m.fn) o.op=true:=by
        have l9:=zvg.1 hx i (eE.1 ho).1
        rwa [(eE.1 ho).2] at l9
       refine aG.bnd (zlf F.toFit hR hm.eval (λg=>rfl) (λg=>rfl) (λg=>rfl) (λg=>rfl) (λv=>rfl) (λv=>rfl) (zkW P fs m.fn) (zgN F.toFit m.fn) (zv4 F.toFit m.fn) bU) ?_;intro R1 h1 n n' hn;exact sim_opS F (hm.mono h1.le) (jV.mono h1.le) o8 Ro qY hn
     .rw[if_neg hw,if_neg hw]
      exact Ex (hm.fin qY yS) rfl
   |_=>cases hx
end
end Go.Tt
namespace Go.Tt
open Go.Conc (G solo)
def nilD:Deferred:={target:=.nil,args:=#[]}
def pz:Frame:={(default:dJ) with mode:=.panicking [],defers:=[nilD],kind:=.normal}
section
variable {P:dB}{fs:aN->Bool}{K R:Pr}{G':Gp}{St:Nat->Prop}
variable {w:aE}
theorem zFX (F:Fit2 P fs)(hG:G'=P.gp){W:aE}(hw:cV (SF fs) K R G' St w W)(ht:Tp w W){m m':Fm}{ms ms':List Fm}(hm:pI P fs K R m m')(jV:uP P fs K R ms ms')(zgv:m.ret=true->ms≠[])
 (fG:∀x w',(fE P.g m ms).run P.g w≠ .ok x w') (base:List dJ):
 (∃o w1 es,stepG P.g true (G m.fr (ms.map Fm.fr++base)) w=.ended o w1 es)\/
 ∃x w1 es,stepG P.g true (G m.fr (ms.map Fm.fr++base)) w=.go (G x (ms.map Fm.fr++base)) w1 es/\(∃c,x.mode=.panicking c)/\x.defers=[]:=by
 have hR:qJ P K R:=by subst hG;exact⟨hw.inj,hw.inj',λa b h=>(hw.low a b h).1,hw.tb⟩
 unfold fE at fG;by_cases hr:m.ret=true
 .simp only[hr,if_true] at fG
  cases jV with
  |nil=>simp_all
  |cons hc b9 Qy=>
   rename_i c c' rest Nu;obtain⟨_,ops,i,r,k,hk⟩:=b9;obtain⟨fn,fn',e1,e2,e3,e4⟩:=hm.infs;have he:results fn m.tmps=o5 fn.results.toList m.tmps:=zjz e4
   cases hx:(o5 fn.results.toList m.tmps).run P.g w with
   |ok v w1=>exact absurd (Kk (rest:=rest) hk e1 hx).1 (fG _ _)
   |halt y w1=>
    refine .inl ?_;rw[Fm.fr_ret hr];cases y<;>exact⟨_,_,_,by simp only[G,stepG,unwind,e1,he,cP.runT_eq,hx,Ct];rfl⟩
 .have Ro:m.ret=false:=by simpa using hr
  simp only[Ro,gK,if_false] at fG;have nG:m.fr.eval=m.eval:=m.eval_fr;have Jc:=hm.fit;have zDd:=hm.tmps;have zfP:=hm.eval;obtain⟨fn,tmps,todo,ret⟩:=m;simp only at Ro Jc zDd;subst Ro;unfold sS at fG;simp only at fG
  cases todo with
  |nil=>simp_all
  |cons x k=>
   have hx:Fw P.c (uI P fs fn) x=true:=Jc x aQ
   cases x with
   |code c=>
    cases c with
    |skip=>simp_all
    |label l=>simp_all
    |ret=>simp_all
    |seq a b=>simp_all
    |block id body=>simp_all
    |loop body=>simp_all
    |scope body=>simp_all
    |cond c a b=>
     have hc:=congrFun nG c;simp only at fG
     cases hv:Fm.eval {fn:=fn,tmps:=tmps,todo:=Mw (Code.cond c a b)::k,ret:=false} c with
     |bool t=>simp_all
     |_=>
      left;rw[hv] at hc;simp only[Fm.fr,gK,if_false] at hc⊢;simp only[G,stepG,Mp,hc];simp_all
    |exit id=>
     simp only at fG
     cases he:exitTo id k with
     |some k'=>simp_all
     |none=>
      left;simp only[Fm.fr,gK,if_false];simp[G,stepG,Mp,he]
    |region id ops draw=>
     simp only at fG
     cases draw with
     |true=>exact absurd (by simp[choose,bK,zjb,ziW,bind,wX,pure];exact⟨rfl,rfl⟩) (fG _ _)
     |false=>simp_all
    |_=>cases hx
   |inBlock id=>simp_all
   |inScope c=>simp_all
   |inLoop c=>simp_all
   |inRegion ops l=>
    cases l with
    |nil=>simp_all
    |cons i rest=>
     simp only at fG
     cases ho:ops[i]? with
     |none=>simp_all
     |some o=>
      rw[ho] at fG;simp only[Fl,Bp] at fG;by_cases rJ:dG o (dO ops tmps)=true
      .rw[if_pos rJ] at fG
       have bU:rP P.c (uI P fs fn) o.op=true:=by
        have l9:=zvg.1 hx i (eE.1 ho).1
        rwa [(eE.1 ho).2] at l9
       have zb8:=zlf F.toFit hR zfP (λg=>rfl) (λg=>rfl) (λg=>rfl) (λg=>rfl) (λv=>rfl) (λv=>rfl) (zkW P fs fn) (zgN F.toFit fn) (zv4 F.toFit fn) bU;have tT:∀x w',((aO (Fm.eval {fn:=fn,tmps:=tmps,todo:=sD ops (i::rest)::k,ret:=false}) o).bind (rK P.g {fn:=fn,tmps:=tmps,todo:=sD ops (i::rest)::k,ret:=false} ms ops i rest k)).run P.g w≠ .ok x w':=fG;rcases aG.tame hG _ zb8 hw ht with⟨n,w1,hn⟩|⟨h,w1,hn,hth⟩
       .have zfB:Act.eval ⟨tmps,[]⟩=Fm.eval {fn:=fn,tmps:=tmps,todo:=sD ops (i::rest)::k,ret:=false}:=funext λx=>by cases x<;>rfl
        obtain⟨R1,n',W1,ev,e1,e2,e3,e4,e5⟩:=aG.run hG _ zb8 hw ht hn;have:=λx w'=>tT x w';simp only[tP,hn,vF] at this
        cases e2 with
        |value hv=>exact absurd rfl (this _ _)
        |skip=>exact absurd rfl (this _ _)
        |enter hT ha=>
         rename_i f xs bV;have hf:P.gs f=true:=zgN F.toFit fn f hT
         cases zcu:P.op f with
         |false=>
          obtain⟨fn',c,q1,q2,q3,q4,q5⟩:=F.fn f hf zcu;simp only[rK,q1,q4] at this;simp_all
         |true=>
          obtain⟨fn1,fn2,c1,c2,q1,q2,q3,q4,q5,q6⟩:=F.opq f hf zcu;simp only[rK,q1,q5] at this;simp_all
       .have zfB:Act.eval ⟨tmps,[]⟩=Fm.eval {fn:=fn,tmps:=tmps,todo:=sD ops (i::rest)::k,ret:=false}:=funext λx=>by cases x<;>rfl
        have hop:=Conc.stepG_oper (P:=P.g) (main:=true) (b:=Kt fn) (a:=⟨tmps,[]⟩) (k:=k) (cs:=List.map Fm.fr ms++base) (w:=w) (rest:=rest) ho rJ;have fS:(Fm.fr {fn:=fn,tmps:=tmps,todo:=sD ops (i::rest)::k,ret:=false})=(Kt fn).at ⟨tmps,[]⟩ (.inRegion ops (i::rest)::k):=rfl;rw[fS,hop,zfB]
        cases h with
        |panic v=>
         right;simp[stepG.apply,hn,Ct,G,zwK,dJ.at]
        |stuck s=>left;simp[stepG.apply,hn,Ct]
        |unsupported u=>
         left;cases u<;>first|exact hth.elim|simp[stepG.apply,hn,Ct]
        |_=>exact hth.elim
      simp_all
   |_=>cases hx
variable {p:bT}{w':aE}{o:Outcome}
theorem zct {a:bC}{es:Array oR}(hs:a.status=.running)(h:stepG p true a w=.ended o w' es):step p (solo a w)=.ended o w':=by
 rw[step,Conc.stepT_solo hs,Conc.solo_eq_crowd,Conc.runT_many_ended (i:=0) rfl h]
variable {m:za3}
theorem zcv {m':za3}(h:step p m=.next m')(n:Nat):runN p (n+1) m=runN p n m':=by simp[runN,h]
theorem zpy (h:step p m=.ended o w)(n:Nat):runN p (n+1) m=.ended o w:=by simp[runN,h]
theorem zgo {g g':bC}(h:solo g w=solo g' w'):g=g'/\w=w':=by
 injection h with h1 h2;simp_all
theorem zfN {fr zr4:dJ}{cs Rp:List dJ}(h:G fr cs=G zr4 Rp):fr=zr4/\cs=Rp:=by
 injection h with h1 h2;exact⟨h1,h2⟩
def ziC (x:dJ):Prop:=∃c,x.mode=.panicking c
theorem zey (x:dJ)(vs:List PanicEntry):ziC (x.raise vs)/\(x.raise vs).defers=x.defers:=by
 unfold zwK;split
 .exact⟨⟨_,rfl⟩,rfl⟩
 .exact⟨⟨_,rfl⟩,rfl⟩
variable {ds:List Deferred}
theorem zoo {x:dJ}(hd:x.defers=nilD::ds)(hm:ziC x)(cs:List dJ)(w:aE):∃o w1 es,stepG p true (G x cs) w=.ended o w1 es:=by
 obtain⟨c,hc⟩:=hm;refine⟨.unsupported (.noEntry "machine/Return: a deferred call of a nil function value, made while the frame is unwinding") ({x with defers:=ds}.pos p),w,#[],?_⟩;simp[G,stepG,hc,unwind,hd,callDeferred,nilD]
theorem zBS (frT:dJ)(wT:aE)(hT:frT.mode=.returning):∀(n:Nat) (x:dJ) (ys:List dJ) (w:aE),ziC x->x.defers=[]->(∀y∈ys,y.defers=[])->runN p n (solo (G x (ys++[pz])) w)≠ .next (solo (G frT [pz]) wT):=by
 intro n
 induction n with
 |zero=>
  intro x ys w ⟨c,hc⟩ _ _ e;simp only[runN,U1] at e;have:=(zfN (zgo e).1).1;simp_all
 |succ n ih=>
  intro x ys w ⟨c,hc⟩ hd zxh e;have cH:(G x (ys++[pz])).status=.running:=rfl;by_cases ztG:x.catches p=true
  .have aX:∃o w1 es,stepG p true (G x (ys++[pz])) w=.ended o w1 es:=by simp[G,stepG,hc,unwind,hd,ztG]
   obtain⟨o,w1,es,aX⟩:=aX;have hs:=zct cH aX;simp[runN,hs] at e
  .have zp9:x.catches p=false:=by simpa using ztG
   cases ys with
   |nil=>
    have aX:stepG p true (G x [pz]) w=.go (G (pz.raise c) []) w:=by simp[G,stepG,hc,unwind,hd,zp9]
    have hs:=zbD cH aX;replace e:=(zcv hs n).symm.trans e
    cases n with
    |zero=>
     simp only[runN,U1] at e;have:=(zfN (zgo e).1).2;cases this
    |succ n=>
     obtain⟨o,w1,es,zlj⟩:=zoo (p:=p) (x:=pz.raise c) (ds:=[]) ((zey pz c).2) (zey pz c).1 [] w;have Ar:=zct rfl zlj;have:=(zpy Ar n).symm.trans e;cases this
   |cons y ys=>
    have aX:stepG p true (G x (y::(ys++[pz]))) w=.go (G (y.raise c) (ys++[pz])) w:=by simp[G,stepG,hc,unwind,hd,zp9]
    have hs:=zbD cH aX;replace e:=(zcv hs n).symm.trans e;exact ih (y.raise c) ys w (zey y c).1 ((zey y c).2.trans (zxh y aQ)) (λz hz=>zxh z (by simp[hz])) e
theorem zBZ (frT:dJ)(wT:aE){m:Fm}(hr:m.ret=true)(n:Nat):runN p (n+1) (solo (G m.fr [pz]) w)≠ .next (solo (G frT [pz]) wT):=by
 intro e;have cH:(G m.fr [pz]).status=.running:=rfl;have key:(∃o w1 es,stepG p true (G m.fr [pz]) w=.ended o w1 es)\/∃v w1 es,stepG p true (G m.fr [pz]) w=.go (G (pz.finish v) []) w1 es:=by
  rw[Fm.fr_ret hr]
  cases hf:p.funcs[m.fn]? with
  |none=>right;simp[G,stepG,unwind,doReturn,hf];exact⟨_,rfl⟩
  |some fn=>
   cases hx:(results fn m.tmps).run p w with
   |ok v w1=>right;simp[G,stepG,unwind,doReturn,hf,hx,Ct];exact⟨_,rfl⟩
   |halt h w1=>left;cases h<;>simp[G,stepG,unwind,hf,hx,Ct]
 rcases key with⟨o,w1,es,aX⟩|⟨v,w1,es,aX⟩
 .have hs:=zct cH aX
  simp[runN,hs] at e
 .have hs:=zbD cH aX
  simp only[runN,hs] at e
  cases n with
  |zero=>
   simp only[runN,U1] at e;have:=(zfN (zgo e).1).2;cases this
  |succ n=>
   have zDF:pz.finish v=pz:=rfl;rw[zDF] at e;obtain⟨o,w2,es,zlj⟩:=zoo (p:=p) (x:=pz) (ds:=[]) rfl ⟨_,rfl⟩ [] w1;have Ar:=zct rfl zlj;simp[runN,Ar] at e
end
inductive Jp (p:bT):Nat->Fm->List Fm->aE->Fm->aE->Prop
 |stop {m:Fm} {w:aE}:m.ret=true->Jp p 0 m [] w m w
 |step {n:Nat} {m m1 mT:Fm} {ms ms1:List Fm} {w w1 wT:aE}:(m.ret=true->ms≠[])->(fE p m ms).run p w=.ok (m1,ms1) w1->Jp p n m1 ms1 w1 mT wT->Jp p (n+1) m ms w mT wT
structure vQ (P:dB)(fs:aN->Bool):Prop extends Fit2 P fs where
 none:∀f,P.op f=false
section
variable (P:dB)(fs:aN->Bool)(K:Pr)(G':Gp)(St:Nat->Prop)
def xD (m:Fm)(ms:List Fm)(w:aE):Prop:=∃R W m' ms',cV (SF fs) K R G' St w W/\pI P fs K R m m'/\uP P fs K R ms ms'
variable {P fs K G' St}
variable {w W:aE}
def cV.tp {S:aN->Prop}{R:Pr}(h:cV S K R G' St w W)(T:lM)(e:Nat):cV S K R G' St (tp w T e) (tp W T e):=
 ⟨h.inj,h.inj',h.lt,h.low,h.gle,h.cont,h.rest,h.st,h.np,h.tb⟩
variable {T:lM}
def cV.untp {S:aN->Prop}{R:Pr}{e:Nat}(h:cV S K R G' St (Tt.tp w T e) W):cV S K R G' St w W:=
 ⟨h.inj,h.inj',h.lt,h.low,h.gle,h.cont,h.rest,h.st,h.np,h.tb⟩
def Tp.tp (w W:aE)(T:lM)(e:Nat):Tp (tp w T e) (tp W T e):=λ_ _=>rfl
theorem cV.relOk {S:aN->Prop}{R:Pr}(hG:G'=P.gp)(h:cV S K R G' St w W):qJ P K R:=by subst hG;exact⟨h.inj,h.inj',λa b x=>(h.low a b x).1,h.tb⟩
variable {m:Fm}{ms:List Fm}
theorem xD.next (F:vQ P fs)(hG:G'=P.gp){m1:Fm}{ms1:List Fm}{w1:aE}{e:Nat}(h:xD P fs K G' St m ms w)(hs:m.ret=true->ms≠[])
 (hr:(fE P.g m ms).run P.g (tp w T e)=.ok (m1,ms1) w1):xD P fs K G' St m1 ms1 w1:=by
 obtain⟨R,W,m',ms',hw,hm,jV⟩:=h;obtain⟨R1,x',W1,ev,e1,e2,e3,e4,e5⟩:=aG.run hG _ (zhx (l:=false) F.toFit2 (hw.relOk hG) hm jV (λe=>by cases e) hs) (hw.tp T e) (Tp.tp w W T e) hr;rcases e2 with e2|⟨_,⟨f,_,_,_,_,_,_,ho,_⟩⟩
 .exact⟨R1,W1,x'.1,x'.2,e3.rel,e2.1,e2.2.1⟩
 .rw[F.none] at ho;cases ho
theorem xD.locl (F:vQ P fs)(hG:G'=P.gp)(h:xD P fs K G' St m ms w)(hs:m.ret=true->ms≠[])(T:lM)(e:Nat):M7 P.g (fE P.g m ms) (tp w T e):=by
 obtain⟨R,W,m',ms',hw,hm,jV⟩:=h;exact aG.locl hG _ (zhx (l:=false) F.toFit2 (hw.relOk hG) hm jV (λe=>by cases e) hs) (hw.tp T e) (Tp.tp w W T e)
theorem tp_self (h:w.tape=T):tp w T w.drawn=w:=by subst h;rfl
theorem Jp.alike (F:vQ P fs)(hG:G'=P.gp):∀{n:Nat} {m mT:Fm} {ms:List Fm} {w wT:aE} {T1 T2:lM} {e1 e2:Nat},xD P fs K G' St m ms w->Jp P.g n m ms (tp w T1 e1) mT wT->(∀n q,T2 (e2+n) q=T1 (e1+n) q)->∃e3,Jp P.g n m ms (tp w T2 e2) mT (tp wT T2 e3):=by
 intro n
 induction n with
 |zero=>
  intro m mT ms w wT T1 T2 e1 e2 hR h ht
  cases h with
  |stop hr=>exact⟨e2,.stop hr⟩
 |succ n ih=>
  intro m mT ms w wT T1 T2 e1 e2 hR h ht
  cases h with
  |step hs hr hn=>
   rename_i m1 ms1 w1;obtain⟨h1,h2,h3⟩:=hR.locl F hG hs T1 e1 _ _ hr;have h4:=h3 T2 e2 (λk _ q=>ht k q);have zna:w1=tp w1 T1 w1.drawn:=(tp_self h1).symm;rw[zna] at hn
   obtain⟨e3,h5⟩:=ih (T2:=T2) (e2:=e2+(w1.drawn-e1)) (hR.next F hG hs hr) hn (λk q=>by
    have O8:e1<=w1.drawn:=h2;rw[show e2+(w1.drawn-e1)+k=e2+((w1.drawn-e1)+k) by omega,ht,show e1+((w1.drawn-e1)+k)=w1.drawn+k by omega])
   exact⟨e3,.step hs h4 h5⟩
theorem Pg (F:vQ P fs)(hG:G'=P.gp){frT:dJ}{wT:aE}(hT:frT.mode=.returning):∀(n:Nat) {m:Fm} {ms:List Fm} {w:aE},xD P fs K G' St m ms w->
 runN P.g n (solo (G m.fr (ms.map Fm.fr++[pz])) w)=.next (solo (G frT [pz]) wT)->∃k mT,Jp P.g k m ms w mT wT/\mT.fr=frT:=by
 intro n
 induction n with
 |zero=>
  intro m ms w hR h;simp only[runN,U1] at h;obtain⟨h1,rfl⟩:=zgo h;obtain⟨h2,h3⟩:=zfN h1;have jV:ms=[]:=by
   cases ms with
   |nil=>rfl
   |cons a b=>simp_all
  subst jV;have hr:m.ret=true:=by
   rw[<-h2] at hT
   cases hm:m.ret with
   |true=>rfl
   |false=>rw[Fm.fr_run hm] at hT;cases hT
  exact⟨0,m,.stop hr,h2⟩
 |succ n ih=>
  intro m ms w hR h;by_cases zgv:m.ret=true/\ms=[]
  .obtain⟨hr,rfl⟩:=zgv
   exact absurd h (zBZ frT wT hr n)
  .have hs:m.ret=true->ms≠[]:=λa b=>zgv ⟨a,b⟩
   have zna:tp w w.tape w.drawn=w:=rfl;by_cases bU:∃x w1,(fE P.g m ms).run P.g w=.ok x w1
   .obtain⟨⟨m1,ms1⟩,w1,hr⟩:=bU
    have vB:step P.g (solo (G m.fr (ms.map Fm.fr++[pz])) w)=.next (solo (G m1.fr (ms1.map Fm.fr++[pz])) w1):=by
     exact zbD rfl (zlz (main:=true) hr [pz])
    obtain⟨k,mT,h1,h2⟩:=ih (xD.next (T:=w.tape) (e:=w.drawn) F hG hR hs hr) ((zcv vB n).symm.trans h);exact⟨k+1,mT,.step hs hr h1,h2⟩
   .exfalso
    obtain⟨R,W,m',ms',hw,hm,jV⟩:=hR;rcases zFX F.toFit2 hG (hw.tp w.tape w.drawn) (Tp.tp w W w.tape w.drawn) hm jV hs (λx w' e=>bU ⟨x,w',e⟩) [pz] with⟨o,w1,es,aX⟩|⟨x,w1,es,aX,hp,hd⟩
    .have vB:=zct rfl aX
     have:=(zpy vB n).symm.trans h;cases this
    .have vB:=zbD rfl aX
     exact zBS frT wT hT n x (ms.map Fm.fr) w1 hp hd (λy hy=>by obtain⟨z,_,rfl⟩:=List.mem_map.1 hy;rfl) ((zcv vB n).symm.trans h)
inductive LT (p:bT)(Q:Fm->aE->Prop):Fm->List Fm->aE->Prop
 |stop {m:Fm} {w:aE}:m.ret=true->Q m w->LT p Q m [] w
 |step {m:Fm} {ms:List Fm} {w:aE} (nx:lM->(Fm×List Fm)×aE):(m.ret=true->ms≠[])->(∀T,(fE p m ms).run p (tp w T 0)=.ok (nx T).1 (nx T).2)->(∀T,LT p Q (nx T).1.1 (nx T).1.2 (nx T).2)->LT p Q m ms w
def Hyp (P:dB)(fs:aN->Bool)(K:Pr)(G':Gp)(St:Nat->Prop)(Q:Fm->aE->Prop)(s:Fm×List Fm×aE):Prop:=
 xD P fs K G' St s.1 s.2.1 s.2.2/\∀T,∃n mT wT,Jp P.g n s.1 s.2.1 (tp s.2.2 T 0) mT wT/\Q mT wT
theorem bar (F:vQ P fs)(hG:G'=P.gp){Q:Fm->aE->Prop}(hQ:∀m w T e,Q m w->Q m (tp w T e))(h:Hyp P fs K G' St Q (m,ms,w)):LT P.g Q m ms w:=by
 refine zU λfG=>?_
 let Bad:Fm×List Fm×aE->Prop:=λs=>Hyp P fs K G' St Q s/\¬LT P.g Q s.1 s.2.1 s.2.2
 have zlc:∀s,Bad s->s.1.ret=true->s.2.1≠[]:=by
  rintro⟨m,ms,w⟩ ⟨⟨hR,hI⟩,hn⟩ hr e;simp only at hr e hn hI;subst e;obtain⟨n,mT,wT,Uc,hq⟩:=hI w.tape
  cases Uc with
  |stop _=>exact hn (.stop hr (show Q m (tp (tp w w.tape 0) w.tape w.drawn) from hQ _ _ w.tape w.drawn hq))
  |step hs _ _=>exact hs hr rfl
 have next:∀s,Bad s->∃(T:lM) (s1:Fm×List Fm×aE),(fE P.g s.1 s.2.1).run P.g (tp s.2.2 T 0)=.ok (s1.1,s1.2.1) s1.2.2/\Bad s1:=by
  rintro⟨m,ms,w⟩ hb;have hs:=zlc _ hb;obtain⟨⟨hR,hI⟩,hn⟩:=hb;simp only at hs hI hn hR⊢;have bU:∀T,∃x w1,(fE P.g m ms).run P.g (tp w T 0)=.ok x w1:=λT=>by
   obtain⟨n,mT,wT,Uc,_⟩:=hI T
   cases Uc with
   |stop hr=>exact absurd rfl (hs hr)
   |step _ hr _=>exact⟨_,_,hr⟩
  refine zU λzAA=>hn ?_
  let x:=λT=>(bU T).choose
  let w1:=λT=>(bU T).choose_spec.choose
  have hx:∀T,(fE P.g m ms).run P.g (tp w T 0)=.ok (x T) (w1 T):=λT=>(bU T).choose_spec.choose_spec;refine .step (λT=>(x T,w1 T)) hs hx λT=>zU λaU=>zAA ⟨T,((x T).1,(x T).2,w1 T),hx T,⟨?_,?_⟩,aU⟩
  .exact hR.next F hG hs (hx T)
  .intro T'
   obtain⟨h1,h2,h3⟩:=hR.locl F hG hs T 0 _ _ (hx T)
   let T2:Tape:=λn q=>if n<(w1 T).drawn then T n q else T' (n-(w1 T).drawn) q
   have h4:=h3 T2 0 (λn hn q=>by
    have yB:n<(w1 T).drawn:=by simpa[tp] using hn
    show(if 0+n<(w1 T).drawn then T (0+n) q else _)=_;rw[if_pos aC];rfl)
   obtain⟨n,mT,wT,Uc,hq⟩:=hI T2
   cases Uc with
   |stop hr=>exact absurd rfl (hs hr)
   |step H7 hr yB=>
    rename_i n' m1 ms1 w2;have L3:(fE P.g m ms).run P.g (tp w T2 0)=.ok (x T) (tp (w1 T) T2 (0+((w1 T).drawn-(tp w T 0).drawn))):=h4;rw[L3] at hr;injection hr with e1 e2;have Ja:m1=(x T).1:=by rw[e1]
    have vS:ms1=(x T).2:=by rw[e1]
    subst Ja vS;rw[<-e2] at yB;have hd:0+((w1 T).drawn-(tp w T 0).drawn)=(w1 T).drawn:=by show 0+((w1 T).drawn-0)=_;omega
    rw[hd] at yB
    obtain⟨e3,h5⟩:=Jp.alike (T2:=T') (e2:=0) F hG (hR.next F hG hs (hx T)) yB (λk q=>by
     show _=(if(w1 T).drawn+k<(w1 T).drawn then _ else T' ((w1 T).drawn+k-(w1 T).drawn) q);rw[if_neg aC];congr 1;omega)
    exact⟨n',mT,_,h5,hQ _ _ _ _ hq⟩
 have hstart:Bad (m,ms,w):=⟨h,fG⟩
 let nT:=λs (hb:Bad s)=>(next s hb).choose
 let nS:=λs (hb:Bad s)=>(next s hb).choose_spec.choose
 have cH:∀s (hb:Bad s),(fE P.g s.1 s.2.1).run P.g (tp s.2.2 (nT s hb) 0)=.ok ((nS s hb).1,(nS s hb).2.1) (nS s hb).2.2:=λs hb=>(next s hb).choose_spec.choose_spec.1;have Rq:∀s (hb:Bad s),Bad (nS s hb):=λs hb=>(next s hb).choose_spec.choose_spec.2
 let seq:Nat->{s:Fm×List Fm×aE//Bad s}:=λk=>Nat.rec ⟨(m,ms,w),hstart⟩ (λ_ s=>⟨nS s.1 s.2,Rq s.1 s.2⟩) k
 let tps:Nat->Tape:=λk=>nT (seq k).1 (seq k).2
 let d:Nat->Nat:=λk=>(seq (k+1)).1.2.2.drawn
 let D:Nat->Nat:=λk=>Nat.rec 0 (λk x=>x+d k) k
 have hD:∀k,D (k+1)=D k+d k:=λk=>rfl;have zsc:∀i j,i<=j->D i<=D j:=λi j pZ=>by
  induction pZ with
  |refl=>exact bN _
  |step _ ih=>exact eM ih (by rw[hD];omega)
 classical
 let TS:Tape:=λN q=>if hh:∃k,D k<=N/\N<D (k+1) then tps hh.choose (N-D hh.choose) q else 0
 have zD1:∀k n q,n<d k->TS (D k+n) q=tps k n q:=by
  intro k n q hn;have hh:∃j,D j<=D k+n/\D k+n<D (j+1):=⟨k,aC,by rw[hD];omega⟩;have hc:=hh.choose_spec;have hk:hh.choose=k:=by
   rcases Nat.lt_trichotomy hh.choose k with x|x|x
   .have:=zsc (hh.choose+1) k x;omega
   .exact x
   .have:=zsc (k+1) hh.choose x;rw[hD] at this;omega
  show(if hh:∃j,D j<=D k+n/\D k+n<D (j+1) then _ else _)=_;rw[dif_pos hh,hk];congr 1;omega
 have vB:∀k,(fE P.g (seq k).1.1 (seq k).1.2.1).run P.g (tp (seq k).1.2.2 TS (D k))=.ok ((seq (k+1)).1.1,(seq (k+1)).1.2.1) (tp (seq (k+1)).1.2.2 TS (D (k+1))):=by
  intro k;have hb:=(seq k).2;have hs:=zlc _ hb;have hr:=cH (seq k).1 (seq k).2;obtain⟨h1,h2,h3⟩:=hb.1.1.locl F hG hs (tps k) 0 _ _ hr;have h4:=h3 TS (D k) (λn hn q=>by
   have yB:n<d k:=by have:n<(nS (seq k).1 (seq k).2).2.2.drawn-0:=hn;simpa using this
   rw[zD1 k n q yB];show _=tps k (0+n) q;rw[Nat.zero_add])
  have e1:D k+((nS (seq k).1 (seq k).2).2.2.drawn-(tp (seq k).1.2.2 (tps k) 0).drawn)=D (k+1):=by rw[hD];show D k+((seq (k+1)).1.2.2.drawn-0)=_;rfl
  rw[e1] at h4;exact h4
 obtain⟨n,mT,wT,Uc,_⟩:=h.2 TS;have key:∀(n k:Nat) (mT:Fm) (wT:aE),Jp P.g n (seq k).1.1 (seq k).1.2.1 (tp (seq k).1.2.2 TS (D k)) mT wT->False:=by
  intro n
  induction n with
  |zero=>
   intro k mT wT hi;have hs:=zlc _ (seq k).2;generalize jV:(seq k).1.2.1=ms0 at hi hs
   cases hi with
   |stop hr=>exact hs hr rfl
  |succ n ih=>
   intro k mT wT hi;have aX:=vB k;generalize jV:(seq k).1.2.1=ms0 at hi aX;generalize zbx:(seq k).1.1=m0 at hi aX;generalize jI:tp (seq k).1.2.2 TS (D k)=w0 at hi aX
   cases hi with
   |step H7 hr hn=>
    rename_i m1 ms1 w1;rw[aX] at hr;injection hr with e1 e2;injection e1 with e1 e3;subst e1 e2 e3;exact ih (k+1) mT wT hn
 exact key n 0 mT wT Uc
end
end Go.Tt
namespace Go.Tt
inductive LTs (p:bT)(N:Fm->Prop)(Stop:Fm->List Fm->aE->Prop):Fm->List Fm->aE->Prop
 |stop {m:Fm} {ms:List Fm} {w:aE}:Stop m ms w->LTs p N Stop m ms w
 |step {m:Fm} {ms:List Fm} {w:aE} (nx:lM->(Fm×List Fm)×aE):(m.ret=true->ms≠[])->(∀T,(fE p m ms).run p (tp w T 0)=.ok (nx T).1 (nx T).2)->(∀T,N (nx T).1.1)->(∀T,LTs p N Stop (nx T).1.1 (nx T).1.2 (nx T).2)->LTs p N Stop m ms w
def Fm.app (m:Fm)(k:List dS):Fm:={m with todo:=m.todo++k}
theorem Fm.app_nil (m:Fm):m.app []=m:=by unfold Fm.app;simp
def yV (S:List Nat):Code->Bool
 | .skip| .ret| .exit _| .label _=>true
 | .region _ ops _=>ops.all λo=>match o.dst with|some s=>!S.contains s|none=>true
 | .seq a b=>yV S a&&yV S b
 | .cond _ a b=>yV S a&&yV S b
 | .block _ c| .loop c| .scope c=>yV S c
 |_=>false
def Au (S:List Nat):dS->Bool
 | .code c| .inLoop c| .inScope c=>yV S c
 | .inBlock _=>true
 | .inRegion ops _=>ops.all λo=>match o.dst with|some s=>!S.contains s|none=>true
 |_=>false
def Tb:Fm->List Fm->Fm
 |m,[]=>m
 |_,c::cs=>Tb c cs
structure Lp (S:List Nat)(m m':Fm):Prop where
 no:∀i∈m'.todo,Au S i=true
 at_:∀s∈S,m'.tmps.getD s aA=m.tmps.getD s aA
variable {S:List Nat}{k:List dS}
theorem zen {m:Fm}{ops:Array aZ}{i:Nat}{rest:List Nat}(h:m.todo=.inRegion ops (i::rest)::k)(hn:∀i∈m.todo,Au S i=true)(v:aF):Lp S m (m.fin ops i rest k v):=by
 have hx:=hn (.inRegion ops (i::rest)) tJ;refine⟨λj hj=>?_,λs hs=>?_⟩
 .simp only[Fm.fin,lO] at hj
  rcases hj with rfl|hj
  .exact hx
  simp_all
 .unfold Fm.fin
  simp only
  cases hd:(ops[i]?).bind (·.dst) with
  |none=>rfl
  |some q=>
   obtain⟨o,ho,hq⟩:=Option.bind_eq_some_iff.1 hd;simp only[Au,Wc] at hx;have h1:=hx o (Array.mem_of_getElem? ho);rw[hq] at h1;simp only[zbf,List.contains_eq_mem,decide_eq_false_iff_not] at h1;have aS:q≠s:=λe=>h1 (e▸hs);simp_all
def zHQ {id:Nat}{k':List dS}(h:exitTo id k=some k')(hn:∀i∈k,Au S i=true):∀i∈k',Au S i=true:=λi hi=>hn i (znw h i hi)
section
variable {p:bT}
theorem Fm.fin_app (m:Fm)(ops:Array aZ)(i:Nat)(rest:List Nat)(k0 k:List dS)(v:aF):(m.app k).fin ops i rest (k0++k) v=(m.fin ops i rest k0 v).app k:=by
 unfold Fm.fin Fm.app;simp
variable {m x:Fm}{ms ys ms':List Fm}{w w1:aE}
theorem za6 (k:List dS)(aS:m.todo≠[])(h:(sS p m ms).run p w=.ok (x,ys) w1):
 (ys=ms/\x.fn=m.fn/\(x.ret=true->m.ret=false->x.todo≠[])/\(∀S,(∀i∈m.todo,Au S i=true)->Lp S m x)/\(sS p (m.app k) ms').run p w=.ok (x.app k,ms') w1)\/(ys=m::ms/\(sS p (m.app k) ms').run p w=.ok (x,m.app k::ms') w1):=by
 obtain⟨fn,tmps,todo,ret⟩:=m;simp only at aS;unfold sS at h⊢;simp only[Fm.app] at h⊢
 cases todo with
 |nil=>exact absurd rfl aS
 |cons it k0=>
  simp only[Sr] at h⊢
  cases it with
  |code c=>
   cases c with
   |cond c a b=>
    simp only at h⊢;have he:Fm.eval {fn:=fn,tmps:=tmps,todo:=Mw (Code.cond c a b)::(k0++k),ret:=ret} c=Fm.eval {fn:=fn,tmps:=tmps,todo:=Mw (Code.cond c a b)::k0,ret:=ret} c:=by cases c<;>rfl
    rw[he]
    cases hv:Fm.eval {fn:=fn,tmps:=tmps,todo:=Mw (Code.cond c a b)::k0,ret:=ret} c with
    |bool t=>
     rw[hv] at h;simp only[lZ,bK,uV,qI] at h;obtain⟨⟨rfl,rfl⟩,rfl⟩:=h;refine .inl ⟨rfl,rfl,λa b=>L8 (b.symm.trans a),λS hn=>⟨?_,λ_ _=>rfl⟩,rfl⟩;simp only[lO,forall_eq_or_imp,Au,yV,iY] at hn⊢;cases t<;>grind
    |_=>rw[hv] at h;simp[stuck,bK] at h
   |exit id=>
    simp only at h⊢
    cases he:exitTo id k0 with
    |some k'=>
     rw[he] at h;rw[ziQ k he];simp only[lZ,bK,uV,qI] at h;obtain⟨⟨rfl,rfl⟩,rfl⟩:=h;exact .inl ⟨rfl,rfl,λa b=>L8 (b.symm.trans a),λS hn=>⟨zHQ he λi hi=>hn i (List.mem_cons_of_mem _ hi),λ_ _=>rfl⟩,rfl⟩
    |none=>rw[he] at h;simp[stuck,bK] at h
   |region id ops draw=>
    cases draw with
    |true=>
     simp only[if_true] at h⊢;have h2:=(tP p (choose (.order fn id)) _ w).symm.trans h;have h3:=λ(f:Nat->cP (Fm×List Fm))=>tP p (choose (.order fn id)) f w
     cases hc:(choose (.order fn id)).run p w with
     |ok t w2=>
      rw[hc] at h2 h3;simp only[vF] at h2 h3;simp only[lZ,bK,uV,qI] at h2;obtain⟨⟨rfl,rfl⟩,rfl⟩:=h2;exact .inl ⟨rfl,rfl,λa b=>L8 (b.symm.trans a),λS hn=>⟨by simp only[lO,forall_eq_or_imp,Au,yV,iY] at hn⊢;grind,λ_ _=>rfl⟩,h3 _⟩
     |halt y w2=>rw[hc] at h2;cases h2
    |false=>
     simp only[gK,if_false,lZ,bK,uV,qI] at h;obtain⟨⟨rfl,rfl⟩,rfl⟩:=h;exact .inl ⟨rfl,rfl,by first|exact λa b=>L8 (b.symm.trans a)|exact λ_ _=>zdT _ _,λS hn=>⟨by simp only[lO,forall_eq_or_imp,Au,yV,iY] at hn⊢;grind,λ_ _=>rfl⟩,rfl⟩
   |_=>
    first
     |(simp[stuck,bK] at h;done)
     |(
      simp only[lZ,bK,uV,qI] at h;obtain⟨⟨rfl,rfl⟩,rfl⟩:=h;exact .inl ⟨rfl,rfl,by first|exact λa b=>L8 (b.symm.trans a)|exact λ_ _=>zdT _ _,λS hn=>⟨by simp only[lO,forall_eq_or_imp,Au,yV,iY] at hn⊢;grind,λ_ _=>rfl⟩,rfl⟩)
  |inRegion ops l=>
   cases l with
   |nil=>
    simp only[lZ,bK,uV,qI] at h;obtain⟨⟨rfl,rfl⟩,rfl⟩:=h;exact .inl ⟨rfl,rfl,by first|exact λa b=>L8 (b.symm.trans a)|exact λ_ _=>zdT _ _,λS hn=>⟨by simp only[lO,forall_eq_or_imp,Au,yV,iY] at hn⊢;grind,λ_ _=>rfl⟩,rfl⟩
   |cons i rest=>
    simp only at h⊢;have Az:∀v,Fm.fin {fn:=fn,tmps:=tmps,todo:=sD ops (i::rest)::(k0++k),ret:=ret} ops i rest (k0++k) v=(Fm.fin {fn:=fn,tmps:=tmps,todo:=sD ops (i::rest)::k0,ret:=ret} ops i rest k0 v).app k:=λv=>Fm.fin_app {fn:=fn,tmps:=tmps,todo:=sD ops (i::rest)::k0,ret:=ret} ops i rest k0 k v;by_cases hw:((ops[i]?).map (dG · (dO ops tmps))).getD false=true
    .rw[if_pos hw] at h
     simp only[hw,if_true]
     cases ho:ops[i]? with
     |none=>rw[ho] at h;simp[stuck,bK] at h
     |some o=>
      rw[ho] at h;simp only at h⊢;have nG:Fm.eval {fn:=fn,tmps:=tmps,todo:=sD ops (i::rest)::(k0++k),ret:=ret}=Fm.eval {fn:=fn,tmps:=tmps,todo:=sD ops (i::rest)::k0,ret:=ret}:=by funext y;cases y<;>rfl
      rw[nG];have h2:=(tP p _ _ w).symm.trans h;have h3:=λ(f:Next->cP (Fm×List Fm))=>tP p (aO (Fm.eval {fn:=fn,tmps:=tmps,todo:=sD ops (i::rest)::k0,ret:=ret}) o) f w
      cases hc:(aO (Fm.eval {fn:=fn,tmps:=tmps,todo:=sD ops (i::rest)::k0,ret:=ret}) o).run p w with
      |halt y w2=>rw[hc] at h2;cases h2
      |ok n w2=>
       rw[hc] at h2 h3;simp only[vF] at h2 h3
       cases n with
       |value v=>
        simp only[rK,lZ,bK,uV,qI] at h2;obtain⟨⟨rfl,rfl⟩,rfl⟩:=h2;refine .inl ⟨rfl,rfl,λa b=>L8 (b.symm.trans a),λS hn=>zen rfl hn _,(h3 _).trans ?_⟩;simp only[rK,lZ,bK,Az];rfl
       |skip=>
        simp only[rK,lZ,bK,uV,qI] at h2;obtain⟨⟨rfl,rfl⟩,rfl⟩:=h2;refine .inl ⟨rfl,rfl,λa b=>L8 (b.symm.trans a),λS hn=>zen rfl hn _,(h3 _).trans ?_⟩;simp only[rK,lZ,bK,Az];rfl
       |enter f args=>
        simp only[rK] at h2
        cases hf:p.funcs[f]? with
        |none=>rw[hf] at h2;simp[stuck,bK] at h2
        |some fn2=>
         cases hb:fn2.body with
         |none=>rw[hf] at h2;simp only[hb] at h2;simp[stuck,bK] at h2
         |some c=>
          rw[hf] at h2;simp only[hb,lZ,bK,uV,qI] at h2;obtain⟨⟨rfl,rfl⟩,rfl⟩:=h2;refine .inr ⟨rfl,(h3 _).trans ?_⟩;simp only[rK,hf,hb,lZ,bK]
       |_=>simp[rK,stuck,bK] at h2
    .rw[if_neg hw] at h
     have rJ:((ops[i]?).map (dG · (dO ops tmps))).getD false=false:=by simpa using hw
     simp only[rJ,gK,if_false];simp only[lZ,bK,uV,qI] at h;obtain⟨⟨rfl,rfl⟩,rfl⟩:=h;refine .inl ⟨rfl,rfl,λa b=>L8 (b.symm.trans a),λS hn=>zen rfl hn _,?_⟩;simp only[lZ,bK,Az];rfl
  |_=>
   first
    |(simp[stuck,bK] at h;done)
    |(
     simp only[lZ,bK,uV,qI] at h;obtain⟨⟨rfl,rfl⟩,rfl⟩:=h;exact .inl ⟨rfl,rfl,by first|exact λa b=>L8 (b.symm.trans a)|exact λ_ _=>zdT _ _,λS hn=>⟨by simp only[lO,forall_eq_or_imp,Au,yV,iY] at hn⊢;grind,λ_ _=>rfl⟩,rfl⟩)
theorem zwr (h:(sS p m ms).run p w=.ok (x,ys) w1)(hx:x.ret=true)(hr:m.ret=false)(aS:m.todo≠[])(hy:ys=ms):x.todo≠[]:=by
 rcases za6 (ms':=[]) [] aS h with e|e
 .exact e.2.2.1 hx hr
 simp_all
theorem zrH (h:(sS p m ms).run p w=.ok (x,ys) w1)(hm:m.todo=[]):x={m with ret:=true}/\ys=ms:=by
 unfold sS at h;simp_all
theorem zeE (h:(sS p m ms).run p w=.ok (x,ys) w1):(ys=ms/\x.fn=m.fn)\/ys=m::ms:=by
 by_cases hm:m.todo=[]
 .obtain⟨rfl,rfl⟩:=zrH h hm
  simp_all
 .exact(za6 (ms':=[]) [] hm h).imp (λe=>⟨e.1,e.2.1⟩) And.left
theorem zIk {S:List Nat}{m':Fm}{w':aE}(hn:∀i∈m.todo,Au S i=true)(h:(sS p m ms).run p w=.ok (m',ms') w'):(ms'=ms/\Lp S m m')\/ms'=m::ms:=by
 by_cases hm:m.todo=[]
 .obtain⟨rfl,rfl⟩:=zrH h hm
  exact .inl ⟨rfl,hn,λ_ _=>rfl⟩
 .exact(za6 (ms':=[]) [] hm h).imp (λe=>⟨e.1,e.2.2.2.1 S hn⟩) And.left
def C5 (k:List dS)(b:List Fm):Fm->List Fm->Fm×List Fm
 |m,[]=>(m.app k,b)
 |m,c::cs=>(m,(C5 k b c cs).1::(C5 k b c cs).2)
variable {m1:Fm}{ms1:List Fm}
theorem zBE {k:List dS}{b:List Fm}(h:(fE p m ms).run p w=.ok (m1,ms1) w1)(aS:ms=[]->m.ret=false->m.todo≠[]):
 (fE p (C5 k b m ms).1 (C5 k b m ms).2).run p w=.ok (C5 k b m1 ms1) w1:=by
 cases ms with
 |nil=>
  simp only[C5]
  cases hr:m.ret with
  |true=>simp[fE,hr,z8,stuck,bK] at h
  |false=>
   have y4:(m.app k).ret=false:=hr;simp only[fE,hr,gK,if_false] at h;simp only[fE,y4,gK,if_false];rcases za6 (ms':=b) k (aS rfl hr) h with⟨rfl,_,_,_,e⟩|⟨rfl,e⟩
   .exact e
   .exact e
 |cons c cs=>
  simp only[C5]
  cases hr:m.ret with
  |true=>
   simp only[fE,hr,if_true] at h⊢;obtain⟨ops,i,r,k0,v,fn,hc,hf,hv,rfl,rfl⟩:=Ru h
   cases ms1 with
   |nil=>
    simp only[C5];have lG:(c.app k).todo=.inRegion ops (i::r)::(k0++k):=by simp[Fm.app,hc]
    have:=(Kk (rest:=b) lG hf hv).1;rw[Fm.fin_app] at this;exact this
   |cons d ds=>exact(Kk hc hf hv).1
  |false=>
   simp only[fE,hr,gK,if_false] at h⊢;by_cases qY:m.todo=[]
   .simp only[sS,qY,lZ,bK,uV,qI] at h⊢
    obtain⟨⟨rfl,rfl⟩,rfl⟩:=h;exact⟨rfl,rfl⟩
   .rcases za6 (ms':=(C5 k b c cs).1::(C5 k b c cs).2) [] qY h with⟨rfl,_,_,_,e⟩|⟨rfl,e⟩
    .simp only[Fm.app_nil] at e
     exact e
    .simp only[Fm.app_nil] at e
     exact e
def Sq:Fm->List Fm->aN
 |m,[]=>m.fn
 |_,c::cs=>Sq c cs
theorem ztc (h:(fE p m ms).run p w=.ok (m1,ms1) w1):Sq m1 ms1=Sq m ms:=by
 cases hr:m.ret with
 |true=>
  simp only[fE,hr,if_true] at h
  cases ms with
  |nil=>simp[z8,stuck,bK] at h
  |cons c cs=>
   obtain⟨ops,i,r,k0,v,fn,hc,hf,hv,rfl,rfl⟩:=Ru h;cases ms1<;>rfl
 |false=>
  simp only[fE,hr,gK,if_false] at h;rcases zeE h with⟨rfl,e⟩|rfl
  .cases ms1 with
   |nil=>exact e
   |cons c cs=>rfl
  .rfl
variable {Q:Fm->aE->Prop}
theorem LT.ret_inv (hr:m.ret=true)(h:LT p Q m [] w):Q m w:=by
 generalize jV:([]:List Fm)=ms at h
 cases h with
 |stop _ hq=>exact hq
 |step nx hs cH _=>simp_all
variable {Stop:Fm->List Fm->aE->Prop}
theorem LT.app {Ab:dB}{Q2:aN->Bool}{K₁:Pr}{Wh:Gp}{zdY:Nat->Prop}(zeh:vQ Ab Q2)(zdG:Wh=Ab.gp){N:Fm->Prop}(k:List dS)(b:List Fm){fn0:aN}
 (hN:∀m R y,pI Ab Q2 K₁ R m y->N m) (zzJ:∀m:Fm,m.fn=fn0->N m)
 (hn:∀(x:Fm) (w:aE),x.fn=fn0->x.ret=false->x.todo=[]->(∀T,Q {x with ret:=true} (tp w T 0))->Stop (x.app k) b w)
 (hr:∀(x:Fm) (w:aE),x.fn=fn0->x.ret=true->x.todo≠[]->Q x w->Stop (x.app k) b w)    (h:LT Ab.g Q m ms w):
 Sq m ms=fn0->xD Ab Q2 K₁ Wh zdY m ms w->(ms=[]->m.ret=true->m.todo≠[])->LTs Ab.g N Stop (C5 k b m ms).1 (C5 k b m ms).2 w:=by
 induction h with
 |stop h1 h2=>intro hl _ hz;exact .stop (hr _ _ hl h1 (hz rfl h1) h2)
 |step nx hs cH aU ih=>
  rename_i m ms w;intro hl hrel hz;by_cases Lj:ms=[]/\m.ret=false/\m.todo=[]
  .obtain⟨rfl,h1,h2⟩:=Lj
   refine .stop (hn m w hl h1 h2 λT=>?_);have hT:=cH T;have e:(fE Ab.g m []).run Ab.g (tp w T 0)=.ok ({m with ret:=true},[]) (tp w T 0):=by simp[fE,h1,sS,h2,lZ,bK]
   rw[e] at hT;injection hT with e1 e2;have hl:=aU T;rw[<-e1,<-e2] at hl;exact hl.ret_inv rfl
  .have aS:ms=[]->m.ret=false->m.todo≠[]:=λa b c=>Lj ⟨a,b,c⟩
   have Uq:∀T,Sq (nx T).1.1 (nx T).1.2=fn0:=λT=>(ztc (m1:=(nx T).1.1) (ms1:=(nx T).1.2) (cH T)).trans hl;have tL:∀T,xD Ab Q2 K₁ Wh zdY (nx T).1.1 (nx T).1.2 (nx T).2:=λT=>xD.next (T:=T) (e:=0) zeh zdG hrel hs (cH T);refine .step (λT=>(C5 k b (nx T).1.1 (nx T).1.2,(nx T).2)) (λe=>?_) (λT=>zBE (cH T) aS) (λT=>?_) (λT=>ih T (Uq T) (tL T) λe1 e2 e3=>?_)
   .cases ms with
    |nil=>exact absurd rfl (hs e)
    |cons c cs=>simp[C5]
   .
    show N (C5 k b (nx T).1.1 (nx T).1.2).1
    cases jV:(nx T).1.2 with
    |nil=>exact zzJ _ (by have:=Uq T;rw[jV] at this;exact this)
    |cons c cs=>
     obtain⟨R,W,m',ms',_,hm,_⟩:=tL T;exact hN _ R m' hm
   have hT:=cH T
   cases ms with
   |nil=>
    cases jX:m.ret with
    |true=>exact hs jX rfl
    |false=>
     simp only[fE,jX,gK,if_false] at hT;exact zwr hT e2 jX (aS rfl jX) e1 e3
   |cons c cs=>
    cases jX:m.ret with
    |true=>
     simp only[fE,jX,if_true] at hT;obtain⟨ops,i,r,k0,v,fn,hc,hf,hv,h1,h2⟩:=Ru (m1:=(nx T).1.1) (ms1:=(nx T).1.2) hT;rw[h1] at e3;simp[Fm.fin] at e3
    |false=>
     simp only[fE,jX,gK,if_false] at hT;rcases zeE hT with⟨e,_⟩|e
     .rw[e1] at e;cases e
     .rw[e1] at e;cases e
end
end Go.Tt
