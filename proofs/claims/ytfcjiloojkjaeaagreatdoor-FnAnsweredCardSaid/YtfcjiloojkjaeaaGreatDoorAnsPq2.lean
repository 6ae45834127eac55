/-
  Part 2 of what stands behind the last text.
-/
import Derived.Conc.Token
import Derived.Conc.CompanyDraw
import Derived.Conc.LoneCalls
import Derived.Test.YtfcjiloojkjaeaaGreatDoorAnsPq1
set_option linter.all false
open Array renaming all_eq_true→zrt,empty_append→zjd,ext'→La,forIn_toList→zqr,getElem?_eq_getElem→qI,getElem?_eq_some_iff→eM,getElem?_map→Dw,getElem?_setIfInBounds_ne→tY,getElem?_setIfInBounds_self_of_lt→zlt,mem_append→zus,mem_iff_getElem→zu1,replicate→oL,size_append→Wp,toList_inj→zd2,toList_map→zwc
open Array.mk renaming injEq→zev
open Bool renaming and_eq_true→jB,false_eq_true→iA,noConfusion→Ld,or_eq_true→E9
open Classical renaming byContradiction→Au
open Go renaming Addr→bC,CommCase→zmS,CommShape→Nz,Event→rQ,Frame→dV,FuncId→aP,Goroutine→bE,HappensBefore→zfz,Item→dZ,Loc→rD,Machine→Q0,MemOp→Rg,Oper→aZ,Operand→cN,Program→cD,ResultVar→Qp,Sem→dA,Tape→kI,Trace→mR,TypeId→aM,Value→aF,World→aE,deafBehind→oN,execOp→aO,undef→aA,yielded→dL
open Go.Act renaming mk→bL,put→cE
open Go.Builtin renaming max2→zvU,max_→zje
open Go.CommCase.mk renaming injEq→zhG
open Go.CommShape.recv renaming injEq→zIe
open Go.Conc renaming Aside→M7,Deaf→gY,Deaf_other→Q3,Deaf_own→zny,Knows→N7,Leavers→zfO,act?_old→zcM,aside_setCell→Ze,base→Jj,deafBehind_still→zsM,deaf_old→zgO,finishComm_recv→znI,finishComm_send→zvF,g?_old→Rr,getElem?_stand→zqk,heard_old→zm0,listed→wX,lt_of_act?→zfe,lt_size_of_getElem?→zbm,mem_ofEvents→zhE,mem_of_getElem?→zi0,noRace_append→zuS,ofEvents_eq→Wq,offersAt_of_not_blocked→Zn,offersAt_parked_recv→zlG,offersAt_parked_send→zm4,ph→zgG,runT_crowd_go→zdU,seen_none→Ct,served→pE,step_solo_go→zbr,touch_mute→znb,touch_of→zfL,woken_quitsD→zbf
open Go.Conc.Aside renaming refl→Oq
open Go.ConcN renaming upd→zlB
open Go.ConcR renaming WgAt→jL,deafBehind_cons→zvt,mk→o5
open Go.ConcR.WgAt renaming setSm→zJi,setSt→zze,unique→zaS
open Go.Conv renaming bytesToString→zdW,intToString→zkU,runesToString→zpZ
open Go.Deferred renaming ofValue→Cz
open Go.Event renaming mute→zhw
open Go.Frame renaming enter→Ic,raise→zux
open Go.GStep renaming after→Di
open Go.GStep.comm renaming injEq→zsx
open Go.Goroutine renaming again→zfk,offers→zos
open Go.Goroutine.mk renaming injEq→zst
open Go.Instr renaming panic→zrl
open Go.Item renaming code→Ln,inRegion→sJ
open Go.MemAct renaming low→Z8,low_mono→zrc,ofEvent→jU,touch?→sY
open Go.MemOp renaming ofEvents→wW
open Go.Mode renaming atomic→zgd,plain→zbk
open Go.Op renaming eqGuardIn→Sd,equal→Bi,equalIn→Fg,maxDepth→Ug
open Go.Question renaming cut→zk4,forced→zjf
open Go.Region renaming schedule→Vg,wanted→dI
open Go.Result renaming andThen→vW
open Go.Result.ok renaming injEq→vO
open Go.Sem renaming bind→yK,events→yA,events_bind'→zap,run→bN,run_bind'→vD
open Go.Stepped.next renaming injEq→zd0
open Go.Trace renaming act?→zrs,g?→Ff
open Go.Value.chan renaming injEq→zyN
open Go.World renaming cell?→lW,farLoad→zX,farStore→Eu,noCell→r8,setChan→Mp
open Go.stepG renaming exec→Np
open List renaming append_nil→Og,cons_append→U8,cons_ne_nil→zhV,length_cons→uV,length_nil→zP,mem_cons→mB,mem_toArray→I6,not_mem_nil→nD,range→iL,size_toArray→Bz
open List.cons renaming injEq→Vu
open Nat renaming eq_zero_or_pos→Vt,le_refl→bM,le_trans→eE,lt_irrefl→J9,lt_of_lt_of_le→jP,lt_or_ge→uR,strongRecOn→zbl,zero_add→qV,zero_le→lU
open Option renaming bind_some→vN,getD_some→Cb,isNone_some→zoW,map_eq_some_iff→At,map_some→G7
open Option.some renaming inj→cS,injEq→jQ
open Prod.mk renaming injEq→sV
open Pure renaming pure→mF
open WellFounded renaming transGen→zEm
namespace Go
theorem Ec{P:Prop}(h:P:=by rw[hp];trivial):P:=h
theorem Pc{P:Prop}(h:P:=by rw[hr];exact .inr (.mk f k)):P:=h
theorem L9{P:Prop}(h:P:=by rw[mH];simp):P:=h
theorem Vx{P:Prop}(h:P:=by rw[hp];exact hB _ b8.refl):P:=h
theorem zdk{P:Prop}(h:P:=by rw[dP.step];exact aX):P:=h
theorem zyi{P:Prop}(h:P:=by have:=(h.st.bnd k c (.inl e)).2.2;rw[Ob] at this;cases this):P:=h
theorem zxr{P:Prop}(h:P:=by have:=(h.st.bnd k c (.inr e)).2.2;rw[Ob] at this;cases this):P:=h
theorem Zh{P:Prop}(h:P:=by simpa using hj):P:=h
theorem zx5{P:Prop}(h:P:=by rw[(Ou w _).size];exact h.st.grp.live.lt):P:=h
theorem zvB{P:Prop}(h:P:=by rw[upd_same,hr];exact .inr (.mk f k)):P:=h
theorem K9{P:Prop}(h:P:=by rfl):P:=h
theorem zh4{P:Prop}(h:P:=by rw[hp];exact id):P:=h
theorem zfm{P:Prop}(h:P:=by rw[hp];exact hB):P:=h
theorem za3{P:Prop}(h:P:=by simp[hy]):P:=h
theorem zmM{P:Prop}(h:P:=by simpa using hg.1):P:=h
theorem zjE{P:Prop}(h:P:=by rw[hl];exact id):P:=h
end Go
namespace Go.Mt
open Go.Conc
open Go.ConcR (KK wgBlock WgAt stA smA rd wr mk)
inductive Rk:Type 1
 |mk (ι:Type) (f:ι->Rk)
inductive Rk.Child:Rk->Rk->Prop
 |mk {ι:Type} (f:ι->Rk) (i:ι):Rk.Child (f i) (.mk ι f)
theorem Rk.wf:WellFounded Rk.Child:=⟨λr=>by
 induction r with
 |mk ι f ih=>exact⟨_,λy h=>by cases h with|mk _ i=>exact ih i⟩⟩
structure cI where
 own:Nat->Prop
 still:Nat->Prop
 pass:Nat->Prop
def cI.grow (τ:cI)(w w':aE):cI:={τ with own:=λb=>τ.own b\/(w.heap.size<=b/\b<w'.heap.size)}
inductive Act (L:Type) where
 |send (c:Nat) (ok:aF->Prop) (pub:aF->List Nat) (nx:aF->L)
 |recv (c:Nat) (ok:aF->Prop) (nx:aF->L) (shut:L)
 |close (c:Nat) (nx:L)
 |add (nx:L)
 |spawn (pub:List Nat) (child nx:L)
 |done
 |wait
 |note (can:L->Prop)
inductive Ph (L:Type) where
 |gone
 |usr (l:L)
 |rel (l:L)
 |l1 (l:L)
 |l2 (l:L)
 |l3 (l:L)
 |quit (l:L)
 |w1 (b:Nat)
 |w2 (v:Nat)
 |w3
 |w4
 |w5
inductive Pj (L:Type) where
 |gone
 |run (l:L)
 |over (l:L)
 |waits
def Ph.proj {L:Type}:Ph L->Pj L
 | .gone=>.gone
 | .usr l=>.run l
 | .rel l| .l1 l| .l2 l| .l3 l| .quit l=>.over l
 | .w1 _| .w2 _| .w3| .w4| .w5=>.waits
abbrev rV:=Nat->Option Bool
def rV.opn (ch:rV)(l:List Nat):rV:=λc=>if c∈l then some false else ch c
structure jV (L:Type) where
 act:L->Act L
 dep:L->aE->Prop
 pend:L->Bool
 cl:L->Prop
 Inv:(Nat->Pj L)->rV->Prop
 got:L->aF->List Nat:=λ_ _=>[]
def jV.Blocked {L:Type}(A:jV L)(q:Nat->Pj L)(ch:rV)(l:L):Prop:=
 match A.act l with
 | .send c _ _ _=>¬∃j l' ok nx sh,q j=.run l'/\A.act l'=.recv c ok nx sh
 | .recv c _ _ _=>ch c=some false/\¬∃j l' ok pub nx,q j=.run l'/\A.act l'=.send c ok pub nx
 |_=>False
def Pj.c {L:Type}:Pj L->Nat
 | .gone=>0
 |_=>1
def num {L:Type}(q:Nat->Pj L):Nat->Nat
 |0=>0
 |n+1=>num q n+(q n).c
def bJ {α:Type _}(f:Nat->α)(i:Nat)(x:α):Nat->α:=λa=>if a=i then x else f a
structure jV.Ok {L:Type}(A:jV L):Prop where
 send1:∀q ch i j li lj c ok pub nx sP Xj pX,A.Inv q ch->q i=.run li->q j=.run lj->A.act li=.send c ok pub nx->A.act lj=.send c sP Xj pX->i=j
 recv1:∀q ch i j li lj c ok nx sh sP pX x6,A.Inv q ch->q i=.run li->q j=.run lj->A.act li=.recv c ok nx sh->A.act lj=.recv c sP pX x6->i=j
 sendC:∀q ch i l c ok pub nx,A.Inv q ch->q i=.run l->A.act l=.send c ok pub nx->ch c=some false
 recvC:∀q ch i l c ok nx sh,A.Inv q ch->q i=.run l->A.act l=.recv c ok nx sh->∃b,ch c=some b
 meet:∀q ch i j li lj c ok pub nx sP pX sh v,A.Inv q ch->q i=.run li->q j=.run lj->A.act li=.send c ok pub nx->A.act lj=.recv c sP pX sh->ok v->
  (∀a∈pub v,ch a=none)->sP v/\A.Inv (bJ (bJ q i (.run (nx v))) j (.run (pX v))) (ch.opn (pub v))
 shut:∀q ch i l c ok nx sh,A.Inv q ch->q i=.run l->A.act l=.recv c ok nx sh->ch c=some true->A.cl l/\A.Inv (bJ q i (.run sh)) ch
 close:∀q ch i l c nx,A.Inv q ch->q i=.run l->A.act l=.close c nx->ch c=some false/\A.Inv (bJ q i (.run nx)) (bJ ch c (some true))
 add:∀q ch i l nx,A.Inv q ch->q i=.run l->A.act l=.add nx->i=0/\A.pend l=false/\A.pend nx=true/\A.Inv (bJ q i (.run nx)) ch
 spawn:∀q ch i l pub lc nx k,A.Inv q ch->q i=.run l->A.act l=.spawn pub lc nx->i=0/\A.pend l=true/\A.pend nx=false/\(q k=.gone->k≠0->(∀a∈pub,ch a=none)->A.Inv (bJ (bJ q i (.run nx)) k (.run lc)) (ch.opn pub))
 done:∀q ch i l,A.Inv q ch->q i=.run l->A.act l=.done->i≠0/\A.Inv (bJ q i (.over l)) ch
 note:∀q ch i l can l',A.Inv q ch->q i=.run l->A.act l=.note can->can l'->A.pend l'=A.pend l/\A.Inv (bJ q i (.run l')) ch
 wait:∀q ch i l,A.Inv q ch->q i=.run l->A.act l=.wait->i=0/\A.pend l=false/\A.Inv (bJ q i .waits) ch
 prog:∀q ch,A.Inv q ch->(∀i l,q i=.run l->A.Blocked q ch l)->q 0=.waits/\∀i l,q i≠ .run l
 pendC:∀l l' c v ok pub nx,A.act l=.send c ok pub nx->l'=nx v->A.pend l'=A.pend l
 pendR:∀l l' c v ok nx sh,A.act l=.recv c ok nx sh->(l'=nx v\/l'=sh)->A.pend l'=A.pend l
 pendX:∀l c nx,A.act l=.close c nx->A.pend nx=A.pend l
 few:∀q ch,A.Inv q ch->∀n,num q n<2000000000
 gotP:∀q ch i j li lj c ok pub nx sP pX sh v,A.Inv q ch->q i=.run li->q j=.run lj->A.act li=.send c ok pub nx->A.act lj=.recv c sP pX sh->ok v->∀a∈A.got lj v,a∈pub v
section
variable {L:Type}(P:cD)(ty:aM)(Wg:Nat)(A:jV L)(Fin:bE->aE->Prop)
def WgLive (w:aE):Prop:=∃st sm,jL ty Wg w st sm
structure b8 (τ:cI)(w aJ:aE):Prop where
 tape:aJ.tape=w.tape
 os:aJ.os=w.os
 output:aJ.output=w.output
 size:w.heap.size<=aJ.heap.size
 keep:∀b,τ.own b\/τ.still b->aJ.heap[b]? =w.heap[b]?
 live:WgLive ty Wg w->WgLive ty Wg aJ
structure Am (O:Nat->Prop)(w w':aE):Prop where
 tape:w'.tape=w.tape
 os:w'.os=w.os
 output:w'.output=w.output
 size:w.heap.size<=w'.heap.size
 keep:∀b,b<w.heap.size->¬O b->w'.heap[b]? =w.heap[b]?
def EvT (main:Bool)(O Z:Nat->Prop)(e:rQ):Prop:=
 match e.loc with
 | .cell a=>O a.block\/(Z a.block/\e.write=false)
 | .obj r=>O r\/(Z r/\e.write=false)
 | .mark (.read a)| .mark (.write a)=>main=true/\a.block=Wg
 | .mark (.acquire _)| .mark (.release _)| .mark (.releaseMerge _)=>False
 | .mark _=>True
 |_=>False
variable (K:Bool->Ph L->Nat->cI->bE->aE->Prop)
def GoG (main:Bool)(ph:Ph L)(d:Nat)(τ:cI)(g:bE)(aJ:aE):Prop:=
 ∃g' w' es,stepG P main g aJ=.go g' w' es/\g'.status=.running/\Am τ.own aJ w'/\(∀e∈es,EvT Wg main (τ.grow aJ w').own τ.still e)/\K main ph (oN d es) (τ.grow aJ w') g' w'
def OwnG (main:Bool)(ph:Ph L)(d:Nat)(τ:cI)(g:bE)(w:aE):Prop:=∀aJ,b8 ty Wg τ w aJ->GoG P Wg K main ph d τ g aJ
def zc8 (main:Bool)(ph:Ph L)(d:Nat)(τ:cI)(g:bE)(w:aE):Prop:=
 ∀aJ,b8 ty Wg τ w aJ->∃g' es,stepG P main g aJ=.go g' aJ es/\g'.status=.running/\(∀e∈es,zhw e=true)/\K main ph (oN d es) τ g' aJ
def st (v wt:Nat):Value:=.int .u64 ((v:Int)*KK+wt)
def Kj (w:aE)(a:Nat):Prop:=w.heap[a]? =some (.chan 0 #[] false 0 0 false)
def nG (main:Bool)(l:L)(d:Nat)(τ:cI)(g:bE)(w:aE):Prop:=
 match A.act l with
 | .send c ok pub nx=>g.offers=none/\∃v z τ',(∀aJ,b8 ty Wg τ w aJ->stepG P main g aJ=.comm g #[scase c v z] true .send aJ #[])/\ok v/\(∀b,τ'.own b->τ.own b)/\τ'.still=τ.still/\(∀b,τ'.pass b->τ.pass b\/τ.own b)/\
  (∀a∈pub v,τ.own a/\¬τ'.own a/\¬τ'.still a/\Kj w a)/\K main (.usr (nx v)) d τ' (pE g aA) w
 | .recv c ok nx sh=>g.offers=none/\∃z b,(∀aJ,b8 ty Wg τ w aJ->stepG P main g aJ=.comm g #[rcase c z] true (.recv b) aJ #[])/\(∀v,ok v->∀aJ,b8 ty Wg τ w aJ->(∀a∈A.got l v,a<aJ.heap.size/\¬τ.own a/\¬τ.still a)->K main (.usr (nx v)) d τ (pE g (recvd b v true)) aJ)/\(A.cl l->K main (.usr sh) d τ (pE g (recvd b z false)) w)
 | .close c nx=>mayWake P g=true/\τ.pass c/\∀aJ,b8 ty Wg τ w aJ->∀s r,aJ.heap[c]? =some (.chan 0 #[] false s r false)->
  ∃g',stepG P main g aJ=.go g' (aJ.setChan c 0 #[] true s r false) (closeEvents c)/\g'.status=.running/\K main (.usr nx) d τ g' (aJ.setChan c 0 #[] true s r false)
 | .add nx=>∀aJ,b8 ty Wg τ w aJ->∀v:Nat,v<2147483647->jL ty Wg aJ (v*KK) 0->
  ∃g',stepG P main g aJ=.go g' (aJ.setCell (stA Wg) (st (v+1) 0)) #[rd (stA Wg),wr (stA Wg)]/\g'.status=.running/\K main (.usr nx) d τ g' (aJ.setCell (stA Wg) (st (v+1) 0))
 | .spawn pub lc nx=>d=0/\∀aJ,b8 ty Wg τ w aJ->∃g' child τm τc,stepG P main g aJ=.spawn g' child aJ #[]/\g'.status=.running/\child.status=.running/\
  (∀b,τm.own b\/τc.own b->τ.own b)/\(∀b,τm.still b\/τc.still b->τ.still b\/τ.own b)/\(∀b,τm.pass b\/τc.pass b->τ.pass b\/τ.own b\/τ.still b)/\
  (∀b,τm.own b->¬τc.own b/\¬τc.still b/\¬τc.pass b)/\(∀b,τc.own b->¬τm.still b/\¬τm.pass b)/\
  (∀a∈pub,τ.own a/\Kj aJ a/\¬τm.own a/\¬τm.still a/\¬τc.own a/\¬τc.still a)/\K main (.usr nx) 0 τm g' aJ/\K false (.usr lc) 0 τc child aJ
 | .done=>d=0/\main=false/\(∀aJ,b8 ty Wg τ w aJ->A.dep l aJ)/\∀aJ,b8 ty Wg τ w aJ->∃g',stepG P main g aJ=.go g' aJ #[mk (.releaseMerge (stA Wg))]/\g'.status=.running/\K main (.rel l) 0 τ g' aJ
 | .wait=>∀aJ,b8 ty Wg τ w aJ->∀v:Nat,v<2147483648->jL ty Wg aJ (v*KK) 0->∃g',stepG P main g aJ=.go g' aJ #[rd (stA Wg)]/\g'.status=.running/\
  (v=0->K main .w5 d τ g' aJ)/\(v≠0->K main (.w2 v) d τ g' aJ)
 | .note can=>∃l',can l'/\K main (.usr l') d τ g w
def Ao (main:Bool)(ph:Ph L)(d:Nat)(τ:cI)(g:bE)(w:aE):Prop:=
 match ph with
 | .gone| .quit _=>False
 | .usr l=>nG P ty Wg A K main l d τ g w
 | .rel l=>∀aJ,b8 ty Wg τ w aJ->∀v wt:Nat,wt<=1->v<2147483647->jL ty Wg aJ ((v+1:Nat)*KK+wt) 0->
  ∃g',stepG P main g aJ=.go g' (aJ.setCell (stA Wg) (st v wt)) #[rd (stA Wg),wr (stA Wg)]/\g'.status=.running/\0<d/\
   ((v=0/\wt=1)->K main (.l1 l) d τ g' (aJ.setCell (stA Wg) (st v wt)))/\(¬(v=0/\wt=1)->∃q,QuitsD P q d g')
 | .l1 l=>∀aJ,b8 ty Wg τ w aJ->jL ty Wg aJ 1 0->∃g',stepG P main g aJ=.go g' aJ #[rd (stA Wg)]/\g'.status=.running/\0<d/\K main (.l2 l) d τ g' aJ
 | .l2 l=>∀aJ,b8 ty Wg τ w aJ->jL ty Wg aJ 1 0->∃g',stepG P main g aJ=.go g' (aJ.setCell (stA Wg) (st 0 0)) #[wr (stA Wg)]/\g'.status=.running/\0<d/\K main (.l3 l) d τ g' (aJ.setCell (stA Wg) (st 0 0))
 | .l3 l=>mayWake P g=true/\∀aJ,b8 ty Wg τ w aJ->jL ty Wg aJ 0 0->∃g',stepG P main g aJ=.go g' (aJ.setCell (smA Wg) (.int .u32 1)) (semEvents (smA Wg))/\g'.status=.running/\0<d/\∃q,QuitsD P q d g'
 | .w1 b=>∀aJ,b8 ty Wg τ w aJ->∀v:Nat,v<b->v<2147483648->jL ty Wg aJ (v*KK) 0->∃g',stepG P main g aJ=.go g' aJ #[rd (stA Wg)]/\g'.status=.running/\
  (v=0->K main .w5 d τ g' aJ)/\(v≠0->K main (.w2 v) d τ g' aJ)
 | .w2 vs=>∀aJ,b8 ty Wg τ w aJ->∀v:Nat,v<2147483648->jL ty Wg aJ (v*KK) 0->
  (v=vs->∃g',stepG P main g aJ=.go g' (aJ.setCell (stA Wg) (st v 1)) #[rd (stA Wg),wr (stA Wg)]/\g'.status=.running/\K main .w3 d τ g' (aJ.setCell (stA Wg) (st v 1)))/\
  (v<vs->∃g',stepG P main g aJ=.go g' aJ #[rd (stA Wg)]/\g'.status=.running/\K main (.w1 vs) d τ g' aJ)
 | .w3=>g.offers=none/\∀aJ,b8 ty Wg τ w aJ->((∃x,jL ty Wg aJ x 0)->stepG P main g aJ=.go {g with status:=.blocked} aJ #[])/\
  (jL ty Wg aJ 0 1->∃g',stepG P main g aJ=.go g' (aJ.setCell (smA Wg) (.int .u32 0)) (semEvents (smA Wg))/\g'.status=.running/\K main .w4 d τ g' (aJ.setCell (smA Wg) (.int .u32 0)))
 | .w4=>∀aJ,b8 ty Wg τ w aJ->jL ty Wg aJ 0 0->∃g',stepG P main g aJ=.go g' aJ #[rd (stA Wg)]/\g'.status=.running/\K main .w5 d τ g' aJ
 | .w5=>d=0/\∀aJ,b8 ty Wg τ w aJ->(∃q ch,A.Inv q ch/\q 0=.waits/\(∀i l,q i≠ .run l)/\∀i l,q i=.over l->A.dep l aJ)->
  ∃g',stepG P main g aJ=.go g' aJ #[mk (.acquire (stA Wg))]/\g'.status=.running/\Fin g' aJ
def Nr (main:Bool)(ph:Ph L)(d:Nat)(τ:cI)(g:bE)(w:aE):Prop:=
 match ph with
 | .gone| .quit _=>False
 | .rel _| .l1 _| .l2 _| .l3 _=>zc8 P ty Wg K main ph d τ g w
 |_=>OwnG P ty Wg K main ph d τ g w
end
def pJ {L:Type}(P:cD)(ty:aM)(Wg:Nat)(A:jV L)(Fin:bE->aE->Prop):Rk->Bool->Ph L->Nat->cI->bE->aE->Prop
 | .mk ι f,main,ph,d,τ,g,w=>g.status=.running/\
  (
   Nr P ty Wg (λm ph d τ g w=>∃i,pJ P ty Wg A Fin (f i) m ph d τ g w) main ph d τ g w\/
   Ao P ty Wg A Fin (λm ph d τ g w=>∃i,pJ P ty Wg A Fin (f i) m ph d τ g w) main ph d τ g w)
abbrev Cp:=Sum Nat Rk
def Cl:Cp->Cp->Prop:=Sum.Lex (·<·) Rk.Child
theorem Cl.wf:WellFounded Cl:=by
 have hl:∀n:Nat,Acc Cl (.inl n):=λn=>by
  induction n using zbl with
  |_ n ih=>exact⟨_,λy h=>by cases h with|inl h=>exact ih _ h⟩
 refine⟨λx=>?_⟩
 cases x with
 |inl n=>exact hl n
 |inr r=>
  induction r using Rk.wf.induction with
  |_ r ih=>exact⟨_,λy h=>by cases h with|inr h=>exact ih _ h|sep=>exact hl _⟩
def Zm (n:Nat)(f' f:Nat->Cp):Prop:=∃i,i<=n/\Cl (f' i) (f i)/\∀j,j<i->f' j=f j
theorem Zm.wf:∀n,WellFounded (Zm n):=by
 intro n
 induction n with
 |zero=>
  have:∀c,Acc Cl c->∀f:Nat->Cp,f 0=c->Acc (Zm 0) f:=by
   intro c hc
   induction hc with
   |intro c _ ih=>
    intro f hf;refine⟨_,λf' h=>?_⟩;obtain⟨i,hi,hl,_⟩:=h
    grind
  exact⟨λf=>this _ (Cl.wf.apply _) f rfl⟩
 |succ n ih=>
  have:∀zfn,Acc (Zm n) zfn->∀c,Acc Cl c->∀f:Nat->Cp,(∀j,j<=n->f j=zfn j)->f (n+1)=c->Acc (Zm (n+1)) f:=by
   intro zfn zfh
   induction zfh with
   |intro zfn _ zHP=>
    intro c hc
    induction hc with
    |intro c _ zLS=>
     intro f hf J8;refine⟨_,λf' h=>?_⟩;obtain⟨i,hi,hl,he⟩:=h;rcases uR n i with aT|Cc
     .grind
     .refine zHP f' ⟨i,Cc,(hf i Cc)▸hl,λj hj=>(he j hj).trans (hf j aC)⟩ _ (Cl.wf.apply (f' (n+1))) f' (λj _=>rfl) rfl
  exact⟨λf=>this f (ih.apply f) _ (Cl.wf.apply _) f (λ_ _=>rfl) rfl⟩
abbrev Mu:=Nat×(Nat->Cp)
def Mu.lt (x y:Mu):Prop:=∃i,i<=y.1/\Cl (x.2 i) (y.2 i)/\(∀j,j<i->x.2 j=y.2 j)/\(i≠0->x.1=y.1)
theorem Mu.wf:WellFounded Mu.lt:=by
 have:∀c,Acc Cl c->∀n (f:Nat->Cp),f 0=c->Acc Mu.lt (n,f):=by
  intro c hc
  induction hc with
  |intro c _ ih=>
   intro n f
   induction f using(Zm.wf n).induction with
   |_ f zIz=>
    intro hf;refine⟨_,λy h=>?_⟩;obtain⟨n',f'⟩:=y;obtain⟨i,hi,hl,he,hn⟩:=h;simp only at hi hl he hn;by_cases h0:i=0
    .grind
    .have:=hn h0
     subst this;exact zIz f' ⟨i,hi,hl,he⟩ ((he 0 aC).trans hf)
 exact⟨λx=>this _ (Cl.wf.apply _) x.1 x.2 rfl⟩
theorem run_to {P:cD}{α:Type _}{r:α->α->Prop}(wf:WellFounded r)(Inv:α->Q0->mR->Prop)(Q1:Q0->mR->Prop)
 (h:∀μ m t,Inv μ m t->∃m' ops,stepT P m=(.next m',ops)/\(Q1 m' (t++ops)\/∃μ',r μ' μ/\Inv μ' m' (t++ops))):
 ∀μ m t,Inv μ m t->∃n m' t',runNT P n m t=(.next m',t')/\Q1 m' t':=by
 intro μ
 induction μ using wf.induction with
 |_ μ ih=>
  intro m t hI;obtain⟨m',ops,hs,hg|⟨μ',hr,zjz⟩⟩:=h μ m t hI
  .exact⟨1,m',t++ops,by simp[runNT,hs],hg⟩
  .obtain⟨n,zHG,t',h1,h2⟩:=ih μ' hr m' (t++ops) zjz
   exact⟨n+1,zHG,t',by rw[runNT_succ_next hs];exact h1,h2⟩
section
variable {L:Type}{P:cD}{ty:aM}{Wg:Nat}{A:jV L}{Fin:bE->aE->Prop}
variable {τ τ':cI}{w aJ eZ:aE}
def b8.refl:b8 ty Wg τ w w:=⟨rfl,rfl,rfl,bM _,λ_ _=>rfl,id⟩
def b8.trans (h:b8 ty Wg τ w aJ)(k:b8 ty Wg τ aJ eZ):b8 ty Wg τ w eZ:=
 ⟨k.tape.trans h.tape,k.os.trans h.os,k.output.trans h.output,eE h.size k.size,λb hb=>(k.keep b hb).trans (h.keep b hb),λx=>k.live (h.live x)⟩
def b8.mono (h:b8 ty Wg τ w aJ)(hs:∀b,τ'.own b\/τ'.still b->τ.own b\/τ.still b):b8 ty Wg τ' w aJ:=
 ⟨h.tape,h.os,h.output,h.size,λb hb=>h.keep b (hs b hb),h.live⟩
def zyb (ty:aM)(Wg:Nat)(K:Bool->Ph L->Nat->cI->bE->aE->Prop):Prop:=
 ∀m ph d τ g w aJ,K m ph d τ g w->b8 ty Wg τ w aJ->K m ph d τ g aJ
variable {K:Bool->Ph L->Nat->cI->bE->aE->Prop}
theorem nG.rely (hK:zyb ty Wg K){main:Bool}{l:L}{d:Nat}{g:bE}(h:nG P ty Wg A K main l d τ g w)(s:b8 ty Wg τ w aJ):nG P ty Wg A K main l d τ g aJ:=by
 unfold nG at*;split
 .rename_i c ok pub nx e
  simp only[e] at h;obtain⟨ho,v,z,τ',h1,h2,h3,h4,Hz,h5,h6⟩:=h
  exact⟨ho,v,z,τ',λeZ l8=>h1 eZ (s.trans l8),h2,h3,h4,Hz,λa ha=>⟨(h5 a ha).1,(h5 a ha).2.1,(h5 a ha).2.2.1,(s.keep a (.inl (h5 a ha).1)).trans (h5 a ha).2.2.2⟩,
   hK _ _ _ _ _ _ _ h6 (s.mono λb hb=>hb.imp (h3 b) (λx=>h4▸x))⟩
 .rename_i c ok nx sh e
  simp only[e] at h;obtain⟨ho,z,b,h1,h2,h3⟩:=h;exact⟨ho,z,b,λeZ l8=>h1 eZ (s.trans l8),λv hv eZ l8 hg=>h2 v hv eZ (s.trans l8) hg,λx=>hK _ _ _ _ _ _ _ (h3 x) s⟩
 .rename_i c nx e
  simp only[e] at h;exact⟨h.1,h.2.1,λeZ l8=>h.2.2 eZ (s.trans l8)⟩
 .rename_i nx e
  simp only[e] at h;exact λeZ l8=>h eZ (s.trans l8)
 .rename_i pub lc nx e
  simp only[e] at h;exact⟨h.1,λeZ l8=>h.2 eZ (s.trans l8)⟩
 .rename_i e
  simp only[e] at h;exact⟨h.1,h.2.1,λeZ l8=>h.2.2.1 eZ (s.trans l8),λeZ l8=>h.2.2.2 eZ (s.trans l8)⟩
 .rename_i e
  simp only[e] at h;exact λeZ l8=>h eZ (s.trans l8)
 .rename_i can e
  simp only[e] at h;obtain⟨l',h1,h2⟩:=h;exact⟨l',h1,hK _ _ _ _ _ _ _ h2 s⟩
theorem Ao.rely (hK:zyb ty Wg K){main:Bool}{ph:Ph L}{d:Nat}{g:bE}(h:Ao P ty Wg A Fin K main ph d τ g w)(s:b8 ty Wg τ w aJ):Ao P ty Wg A Fin K main ph d τ g aJ:=by
 cases ph with
 |gone=>exact h
 |quit l=>exact h
 |usr l=>exact nG.rely hK h s
 |l3 l=>exact⟨h.1,λeZ l8=>h.2 eZ (s.trans l8)⟩
 |w3=>exact⟨h.1,λeZ l8=>h.2 eZ (s.trans l8)⟩
 |w5=>exact⟨h.1,λeZ l8=>h.2 eZ (s.trans l8)⟩
 |rel l=>exact λeZ l8=>h eZ (s.trans l8)
 |l1 l=>exact λeZ l8=>h eZ (s.trans l8)
 |l2 l=>exact λeZ l8=>h eZ (s.trans l8)
 |w1 b=>exact λeZ l8=>h eZ (s.trans l8)
 |w2 v=>exact λeZ l8=>h eZ (s.trans l8)
 |w4=>exact λeZ l8=>h eZ (s.trans l8)
theorem Nr.rely {main:Bool}{ph:Ph L}{d:Nat}{g:bE}(h:Nr P ty Wg K main ph d τ g w)(s:b8 ty Wg τ w aJ):Nr P ty Wg K main ph d τ g aJ:=by
 cases ph<;>first|exact h|exact λeZ l8=>h eZ (s.trans l8)
theorem pJ.rely:∀{r:Rk} {main:Bool} {ph:Ph L} {d:Nat} {τ:cI} {g:bE} {w aJ:aE},pJ P ty Wg A Fin r main ph d τ g w->b8 ty Wg τ w aJ->pJ P ty Wg A Fin r main ph d τ g aJ:=by
 intro r
 induction r with
 |mk ι f ih=>
  intro main ph d τ g w aJ h s;refine⟨h.1,h.2.imp (λx=>x.rely s) λx=>x.rely (λm ph d τ g w aJ ⟨i,hi⟩ s=>⟨i,ih i hi s⟩) s⟩
end
def nO (l:rD)(b:Nat):Prop:=match l with| .cell a=>a.block=b| .obj r=>r=b|_=>False
variable {l:rD}{b:Nat}
theorem zcX (h:nO l b):l.isMemory=true:=by cases l<;>first|rfl|exact h.elim
theorem K8 {b':Nat}(h:nO l b)(h':nO l b'):b=b':=by cases l<;>first|exact h.symm.trans h'|exact h.elim
def Handed (Wg:Nat)(t:mR)(i:Nat):Prop:=∃r,t.act? r=some (.mark (.releaseMerge (stA Wg)))/\t.heard r/\Before t i r
variable {i:Nat}
theorem Handed.app {Wg:Nat}{t:mR}(u:mR)(h:Handed Wg t i):Handed Wg (t++u) i:=by
 obtain⟨r,h1,h2,h3⟩:=h;have hr:=zfe h1;exact⟨r,by rw[zcM hr];exact h1,(zm0 hr).2 h2,h3.app u⟩
structure TI (Wg n:Nat)(own pas:Nat->Nat->Prop)(live:Nat->Prop)(Shun:rD->Prop)(B:Nat)(t:mR):Prop where
 clean:∀said,¬Race said t
 own:∀k b,live k->own k b->∀i a,touchAt t i=some a->nO a.loc b->N7 t k i
 pas:∀k b,live k->pas k b->∀i a,touchAt t i=some a->nO a.loc b->a.write=true->N7 t k i
 grp:∀i a,touchAt t i=some a->nO a.loc Wg->a.kind=.atomic\/(a.kind=.said/\t.g? i=some 0)
 all:∀i a,touchAt t i=some a->a.loc.isMemory=true->(∃k,live k/\N7 t k i)\/Handed Wg t i\/((Shun a.loc\/nO a.loc Wg)/\a.kind=.atomic)
 over:∀i g,t.g? i=some g->g≠0->t.counts i->(∃k,live k/\N7 t k i)\/Handed Wg t i\/∃j,t.g? j=some 0/\zfz t i j
 norel:∀k,t.act? k≠some (.mark (.release (stA Wg)))
 low:∀op∈t,op.act.low B
 above:∀j,n<=j->gY t j=0
section
variable {Wg n:Nat}{own own' pas Xy:Nat->Nat->Prop}{live live':Nat->Prop}{Shun:rD->Prop}{B B':Nat}{t:mR}
def zCR (t:mR)(y:Rg):touchAt (t++ #[y]) t.size=y.act.touch? :=touchAt_of aQ
variable {y:Rg}{a:Touch}
theorem H5 {t:mR}{i:Nat}(h:touchAt (t++ #[y]) i=some a):(i<t.size/\touchAt t i=some a)\/(i=t.size/\y.act.touch? =some a):=by
 obtain⟨op,ho,Ma⟩:=zfL h;rcases getElem?_append_cases ho with⟨hi,y9⟩|⟨hi,hu⟩
 .exact .inl ⟨hi,by rw[touchAt_of y9];exact Ma⟩
 grind
theorem zs4 {B:Nat}{x:MemAct}{b:Nat}(h:x.low B)(ht:x.touch? =some a)(hb:nO a.loc b):b<B:=by
 cases x with
 |access e=>
  simp only[sY,jQ] at ht;subst ht;obtain⟨loc,wr,sy⟩:=e;cases loc<;>first|exact hb▸h|exact hb.elim
 |mark m=>cases m<;>simp only[sY,jQ,reduceCtorEq] at ht<;>(subst ht;exact hb▸h)
 |_=>simp[sY] at ht
theorem TI.lowB (h:TI Wg n own pas live Shun B t){i:Nat}{b:Nat}(ht:touchAt t i=some a)(hb:nO a.loc b):b<B:=by
 obtain⟨op,ho,Ma⟩:=zfL ht;exact zs4 (h.low op (zi0 ho)) Ma hb
def TI.less (h:TI Wg n own pas live Shun B t)(ho:∀k b,live k->own' k b->own k b\/B<=b)(hp:∀k b,live k->Xy k b->pas k b\/own k b\/B<=b)(hB:B<=B'):TI Wg n own' Xy live Shun B' t:=
 ⟨
  h.clean,λk b hk hb i a ha hl=>(ho k b hk hb).elim (λx=>h.own k b hk x i a ha hl) (λx=>absurd (h.lowB ha hl) aC),
  λk b hk hb i a ha hl hw=>(hp k b hk hb).elim (λx=>h.pas k b hk x i a ha hl hw) (λx=>x.elim (λx=>h.own k b hk x i a ha hl) (λx=>absurd (h.lowB ha hl) aC)),
  h.grp,h.all,h.over,h.norel,λop hop=>zrc hB (h.low op hop),h.above⟩
def zeK {t:mR}{k:Nat}(hg:y.g=k):N7 (t++ #[y]) k t.size:=⟨t.size,y,aQ,hg,.inl rfl⟩
theorem zfp {t:mR}{i g:Nat}(hg:(t++ #[y]).g? i=some g)(hc:(t++ #[y]).counts i):(i<t.size/\t.g? i=some g/\t.counts i)\/(i=t.size/\y.g=g):=by
 obtain⟨x,hx,tW⟩:=hc;have aT:i<(t++ #[y]).size:=by
  unfold Ff at hg;obtain⟨z,hz,_⟩:=At.1 hg;exact zbm hz
 simp only[Wp,Bz,uV,zP] at aT;rcases uR i t.size with hi|hi
 .refine .inl ⟨hi,by rw[Rr hi] at hg;exact hg,x,?_,tW.1,tW.2.imp id λz=>(zm0 hi).1 z⟩
  rw[zcM hi] at hx;exact hx
 .have:i=t.size:=aC
  subst this;refine .inr ⟨rfl,?_⟩;simpa[Ff] using hg
theorem TI.push (h:TI Wg n own pas live Shun B t){k:Nat}(hk:live k)(tT:k<n)(hg:y.g=k)
 (ht:∀a,y.act.touch? =some a->(∃b,b≠Wg/\nO a.loc b/\(own k b\/(pas k b/\a.write=false))/\∀k',live k'->k'≠k->¬own k' b/\(a.write=true->¬pas k' b))\/(nO a.loc Wg/\(a.kind=.atomic\/(a.kind=.said/\k=0))/\∀k',live k'->¬own k' Wg/\¬pas k' Wg)\/a.loc.isMemory=false)
 (hr:y.act≠ .mark (.release (stA Wg))) (hl:y.act.low B):TI Wg n own pas live Shun B (t++ #[y]):=by
 refine⟨λsaid=>?_,λk' b cZ hb i a ha lJ=>?_,λk' b cZ hb i a ha lJ hw=>?_,λi a ha lJ=>?_,λi a ha hm=>?_,λi g Hb aS hc=>?_,λi e=>?_,λop hop=>?_,λj hj=>?_⟩
 .refine zuS (g:=k) (h.clean said) (λop hop=>by simp_all) λi a ha op hop b hb hc=>?_
  have:op=y:=by simpa using hop
  subst this;obtain⟨zco,zzq,jI,gG⟩:=hc;rcases ht b hb with⟨bl,kK,lJ,zby,_⟩|⟨lJ,Rw,_⟩|Jh
  .rcases zby with zby|⟨zby,zEi⟩
   .exact h.own k bl hk zby i a ha (zco▸lJ)
   .exact h.pas k bl hk zby i a ha (zco▸lJ) (by simpa[zEi] using jI)
  .have Pw:=h.grp i a ha (zco▸lJ)
   rcases Rw with Rw|⟨Rw,lR⟩
   .rw[Rw] at gG
    rcases Pw with Pw|⟨Pw,_⟩<;>rw[Pw] at gG<;>simp at gG
   .rcases Pw with Pw|⟨Pw,Tw⟩
    .simp_all
    .obtain⟨zDs,zqL,_⟩:=zfL ha
     have:zDs.g=0:=by simpa[Ff,zqL] using Tw
     have:=knows_own zqL;simp_all
  simp_all
 .rcases H5 ha with⟨_,fY⟩|⟨rfl,fY⟩
  .exact(h.own k' b cZ hb i a fY lJ).app _
  .by_cases gG:k'=k
   .exact gG▸zeK hg
   .rcases ht a fY with⟨bl,kK,Ew,_,fQ⟩|⟨Ew,_,fQ⟩|Jh
    .exact absurd (K8 lJ Ew▸hb) (fQ k' cZ gG).1
    .exact absurd (K8 lJ Ew▸hb) (fQ k' cZ).1
    .rw[zcX lJ] at Jh;cases Jh
 .rcases H5 ha with⟨_,fY⟩|⟨rfl,fY⟩
  .exact(h.pas k' b cZ hb i a fY lJ hw).app _
  .by_cases gG:k'=k
   .exact gG▸zeK hg
   .rcases ht a fY with⟨bl,kK,Ew,_,fQ⟩|⟨Ew,_,fQ⟩|Jh
    .exact absurd (K8 lJ Ew▸hb) ((fQ k' cZ gG).2 hw)
    .exact absurd (K8 lJ Ew▸hb) (fQ k' cZ).2
    .rw[zcX lJ] at Jh;cases Jh
 .rcases H5 ha with⟨hi,fY⟩|⟨rfl,fY⟩
  .exact(h.grp i a fY lJ).imp id λx=>⟨x.1,by rw[Rr hi];exact x.2⟩
  .rcases ht a fY with⟨bl,kK,Ew,_,fQ⟩|⟨Ew,Rw,_⟩|Jh
   .exact absurd (K8 Ew lJ) kK
   .exact Rw.imp id λx=>⟨x.1,by simp[Ff,hg,x.2]⟩
   .rw[zcX lJ] at Jh;cases Jh
 .rcases H5 ha with⟨_,fY⟩|⟨rfl,fY⟩
  .rcases h.all i a fY hm with⟨k',cZ,hkn'⟩|hh|hs
   .exact .inl ⟨k',cZ,hkn'.app _⟩
   .exact .inr (.inl (hh.app _))
   .exact .inr (.inr hs)
  .exact .inl ⟨k,hk,zeK hg⟩
 .rcases zfp Hb hc with⟨hi,hgi',lN⟩|⟨rfl,hgi'⟩
  .rcases h.over i g hgi' aS lN with⟨k',cZ,hkn'⟩|hh|⟨j,hj,hb⟩
   .exact .inl ⟨k',cZ,hkn'.app _⟩
   .exact .inr (.inl (hh.app _))
   .refine .inr (.inr ⟨j,?_,hb_app _ hb⟩)
    have vF:j<t.size:=by
     unfold Ff at hj;obtain⟨z,hz,_⟩:=At.1 hj;exact zbm hz
    rw[Rr vF];exact hj
  .exact .inl ⟨k,hk,zeK hg⟩
 .have aT:=zfe e
  simp only[Wp,Bz,uV,zP] at aT;rcases uR i t.size with hi|hi
  .rw[zcM hi] at e;exact h.norel i e
  .have:i=t.size:=aC
   subst this;exact hr (by simpa[zrs] using e)
 .rcases zus.1 hop with hop|hop
  .exact h.low op hop
  simp_all
 .rw[Q3 t (g':=k) aC _ (λop hop=>by simp at hop;rw[hop];exact hg)];exact h.above j hj
theorem TI.idle (h:TI Wg n own pas live Shun B t)(tT:y.g<n)
 (ht:∀a,y.act.touch? =some a->nO a.loc Wg/\a.kind=.atomic/\0<gY t y.g/\∀k',live k'->¬own k' Wg/\¬pas k' Wg)
 (hr:y.act≠ .mark (.release (stA Wg))) (hl:y.act.low B):TI Wg n own pas live Shun B (t++ #[y]):=by
 have zft:∀a,y.act.touch? =some a->¬(t++ #[y]).heard t.size:=by
  rintro a ha ⟨g,hg,hd⟩;have:y.g=g:=by simpa[Ff] using hg
  rw[zgO (bM _),<-this] at hd;have:=(ht a ha).2.2.1;unfold gY at this;omega
 refine⟨λsaid=>?_,λk' b cZ hb i a ha lJ=>?_,λk' b cZ hb i a ha lJ hw=>?_,λi a ha lJ=>?_,λi a ha hm=>?_,λi g Hb aS hc=>?_,λi e=>?_,λop hop=>?_,λj hj=>?_⟩
 .refine zuS (g:=y.g) (h.clean said) (λop hop=>by simp at hop;rw[hop]) λi a ha op hop b hb hc=>?_
  have:op=y:=by simpa using hop
  subst this;obtain⟨zco,zzq,jI,gG⟩:=hc;obtain⟨lJ,Rw,_,_⟩:=ht b hb;have Pw:=h.grp i a ha (zco▸lJ);simp_all
 .rcases H5 ha with⟨_,fY⟩|⟨rfl,fY⟩
  .exact(h.own k' b cZ hb i a fY lJ).app _
  .obtain⟨Ew,_,_,fQ⟩:=ht a fY
   exact absurd (K8 lJ Ew▸hb) (fQ k' cZ).1
 .rcases H5 ha with⟨_,fY⟩|⟨rfl,fY⟩
  .exact(h.pas k' b cZ hb i a fY lJ hw).app _
  .obtain⟨Ew,_,_,fQ⟩:=ht a fY
   exact absurd (K8 lJ Ew▸hb) (fQ k' cZ).2
 .rcases H5 ha with⟨hi,fY⟩|⟨rfl,fY⟩
  .exact(h.grp i a fY lJ).imp id λx=>⟨x.1,by rw[Rr hi];exact x.2⟩
  simp_all
 .rcases H5 ha with⟨_,fY⟩|⟨rfl,fY⟩
  .rcases h.all i a fY hm with⟨k',cZ,hkn'⟩|hh|hs
   .exact .inl ⟨k',cZ,hkn'.app _⟩
   .exact .inr (.inl (hh.app _))
   .exact .inr (.inr hs)
  simp_all
 .obtain⟨x,hx,zeN,zKU⟩:=id hc
  rcases zfp Hb hc with⟨hi,hgi',lN⟩|⟨rfl,hgi'⟩
  .rcases h.over i g hgi' aS lN with⟨k',cZ,hkn'⟩|hh|⟨j,hj,hb⟩
   .exact .inl ⟨k',cZ,hkn'.app _⟩
   .exact .inr (.inl (hh.app _))
   .refine .inr (.inr ⟨j,?_,hb_app _ hb⟩)
    have vF:j<t.size:=by
     unfold Ff at hj;obtain⟨z,hz,_⟩:=At.1 hj;exact zbm hz
    rw[Rr vF];exact hj
  .have hy:y.act.touch? =some x:=by rw[<-zCR t y];exact hx
   simp_all
 .have aT:=zfe e
  simp only[Wp,Bz,uV,zP] at aT;rcases uR i t.size with hi|hi
  .rw[zcM hi] at e;exact h.norel i e
  .have:i=t.size:=aC
   subst this;exact hr (by simpa[zrs] using e)
 .rcases zus.1 hop with hop|hop
  .exact h.low op hop
  simp_all
 .rw[Q3 t (g':=y.g) aC _ (λop hop=>by simp at hop;rw[hop])];exact h.above j hj
theorem TI.release (h:TI Wg n own pas live Shun B t){k:Nat}(tT:k<n)(hg:y.g=k)(hy:y.act=.mark (.releaseMerge (stA Wg)))(hd:gY t k=0)
 (zmh:Wg<B) (nI:∀j,live' j->live j) (I9:∀j,live j->live' j\/j=k):TI Wg n own pas live' Shun B (t++ #[y]):=by
 have h1:=h.idle (y:=y) aC (λa ha=>by rw[hy] at ha;simp[sY] at ha) (by rw[hy];simp) (by rw[hy];exact zmh);have En:(t++ #[y])[t.size]? =some y:=aQ;have Fu:∀i,N7 t k i->Handed Wg (t++ #[y]) i:=λi hi=>
  ⟨t.size,by rw[act?_of En,hy],⟨k,by simp[Ff,hg],by rw[zgO (bM _)];exact hd⟩,.inr (hi.hb_new (bM _) En hg)⟩
 have zmw:Handed Wg (t++ #[y]) t.size:=⟨t.size,by rw[act?_of En,hy],⟨k,by simp[Ff,hg],by rw[zgO (bM _)];exact hd⟩,.inl rfl⟩;refine⟨h1.clean,λk' b cZ=>h1.own k' b (nI k' cZ),λk' b cZ=>h1.pas k' b (nI k' cZ),h1.grp,λi a ha hm=>?_,λi g Hb aS hc=>?_,h1.norel,h1.low,h1.above⟩
 .rcases H5 ha with⟨_,fY⟩|⟨rfl,fY⟩
  .rcases h.all i a fY hm with⟨k',cZ,hkn'⟩|hh|hs
   .rcases I9 k' cZ with x|rfl
    .exact .inl ⟨k',x,hkn'.app _⟩
    simp_all
   .exact .inr (.inl (hh.app _))
   .exact .inr (.inr hs)
  simp_all
 .rcases zfp Hb hc with⟨hi,hgi',lN⟩|⟨rfl,hgi'⟩
  .rcases h.over i g hgi' aS lN with⟨k',cZ,hkn'⟩|hh|⟨j,hj,hb⟩
   .rcases I9 k' cZ with x|rfl
    .exact .inl ⟨k',x,hkn'.app _⟩
    simp_all
   .exact .inr (.inl (hh.app _))
   .refine .inr (.inr ⟨j,?_,hb_app _ hb⟩)
    have vF:j<t.size:=by
     unfold Ff at hj;obtain⟨z,hz,_⟩:=At.1 hj;exact zbm hz
    rw[Rr vF];exact hj
  simp_all
theorem TI.fork (h:TI Wg n own pas live Shun B t){x:Rg}(h0:live 0)(zHo:0<n)(hx:x.g=0/\x.act=.go n)(hy:y.g=n/\y.act=.start)(hd:gY t 0=0)
 (nI:∀j,live' j↔(live j\/j=n)) (Af:¬live n) (U7:∀k b,live k->k≠0->own' k b->own k b) (zHc:∀k b,live k->k≠0->Xy k b->pas k b)
 (ho:∀b,own' 0 b\/own' n b->own 0 b) (hp:∀b,Xy 0 b\/Xy n b->own 0 b\/pas 0 b):TI Wg (n+1) own' Xy live' Shun B (t++ #[x,y]):=by
 have zIl:=h.above n (bM _);have e2:t++ #[x,y]=(t++ #[x])++ #[y]:=by apply La;simp
 have hn:TI Wg (n+1) own pas live Shun B t:=⟨h.clean,h.own,h.pas,h.grp,h.all,h.over,h.norel,h.low,λj hj=>h.above j aC⟩;have h1:=hn.idle (y:=x) (by rw[hx.1];omega) (λa ha=>by rw[hx.2] at ha;simp[sY] at ha) (by rw[hx.2];simp) (by rw[hx.2];trivial);have h2:=h1.idle (y:=y) (by rw[hy.1];omega) (λa ha=>by rw[hy.2] at ha;simp[sY] at ha) (by rw[hy.2];simp) (by rw[hy.2];trivial);rw[<-e2] at h2;have old:∀{i:Nat} {a:Touch},touchAt (t++ #[x,y]) i=some a->touchAt t i=some a:=by
  intro i a ha;rw[e2] at ha;rcases H5 ha with⟨_,fY⟩|⟨_,fY⟩
  .rcases H5 fY with⟨_,ha''⟩|⟨_,ha''⟩
   .exact ha''
   .rw[hx.2] at ha'';simp[sY] at ha''
  .rw[hy.2] at fY;simp[sY] at fY
 have fk:∀{i:Nat},N7 t 0 i->N7 (t++ #[x,y]) n i:=λ{i} hi=>Go.ConcN.fork_knows hx hy hd zIl hi;refine⟨h2.clean,λk b hk hb i a ha lJ=>?_,λk b hk hb i a ha lJ hw=>?_,h2.grp,λi a ha hm=>?_,λi g Hb aS hc=>?_,h2.norel,h2.low,h2.above⟩
 .rcases(nI k).1 hk with cZ|rfl
  .by_cases lR:k=0
   .subst lR;exact h2.own 0 b h0 (ho b (.inl hb)) i a ha lJ
   .exact h2.own k b cZ (U7 k b cZ lR hb) i a ha lJ
  .exact fk (h.own 0 b h0 (ho b (.inr hb)) i a (old ha) lJ)
 .rcases(nI k).1 hk with cZ|rfl
  .by_cases lR:k=0
   .subst lR
    exact(hp b (.inl hb)).elim (λz=>h2.own 0 b h0 z i a ha lJ) (λz=>h2.pas 0 b h0 z i a ha lJ hw)
   .exact h2.pas k b cZ (zHc k b cZ lR hb) i a ha lJ hw
  .exact(hp b (.inr hb)).elim (λz=>fk (h.own 0 b h0 z i a (old ha) lJ)) (λz=>fk (h.pas 0 b h0 z i a (old ha) lJ hw))
 .exact(h2.all i a ha hm).imp (λ⟨k,hk,tT⟩=>⟨k,(nI k).2 (.inl hk),tT⟩) id
 .exact(h2.over i g Hb aS hc).imp (λ⟨k,hk,tT⟩=>⟨k,(nI k).2 (.inl hk),tT⟩) id
theorem TI.acquire (h:TI Wg n own pas live Shun B t)(zHo:0<n)(hg:y.g=0)(hy:y.act=.mark (.acquire (stA Wg)))(hd:gY t 0=0)(zmh:Wg<B)(I9:∀j,live j->j=0):
 Past (λl=>Shun l\/nO l Wg) B (t++ #[y])/\∀j,n<=j->gY (t++ #[y]) j=0:=by
 have h1:=h.idle (y:=y) aC (λa ha=>by rw[hy] at ha;simp[sY] at ha) (by rw[hy];simp) (by rw[hy];exact zmh);have En:(t++ #[y])[t.size]? =some y:=aQ;have hh:(t++ #[y]).heard t.size:=⟨0,by simp[Ff,hg],by rw[zgO (bM _)];exact hd⟩;have got:∀i,i<t.size->Handed Wg t i->zfz (t++ #[y]) i t.size:=by
  rintro i hi ⟨r,j9,uM,G8⟩;have Jg:=zfe j9;have zDT:zfz (t++ #[y]) r t.size:=.single (.inr ⟨.marked Jg (.inr (by rw[zcM Jg];exact j9)) (by rw[act?_of En,hy]) (λk rF rL=>h1.norel k),(zm0 Jg).2 uM,hh⟩);exact(G8.app _).hb zDT
 have zK3:∀i,zfz (t++ #[y]) i t.size->N7 (t++ #[y]) 0 i:=λi hb=>⟨t.size,y,En,hg,.inr hb⟩;refine⟨⟨h1.clean,λi a ha hm=>?_,λi g Hb aS hc=>?_,?_,h1.low⟩,h1.above⟩
 .rcases H5 ha with⟨hi,fY⟩|⟨rfl,fY⟩
  .rcases h.all i a fY hm with⟨k,hk,tT⟩|hh|hs
   .have:=I9 k hk;subst this;exact .inl (tT.app _)
   .simp_all
   .exact .inr hs
  .rw[hy] at fY;simp[sY] at fY
 .rcases zfp Hb hc with⟨hi,hgi',lN⟩|⟨rfl,hgi'⟩
  .rcases h.over i g hgi' aS lN with⟨k,hk,tT⟩|hh|⟨j,hj,hb⟩
   .have:=I9 k hk;subst this
    exact⟨t.size,by simp[Ff,hg],tT.hb_new (bM _) En hg⟩
   .exact⟨t.size,by simp[Ff,hg],got i hi hh⟩
   .refine⟨j,?_,hb_app _ hb⟩
    have vF:j<t.size:=by
     unfold Ff at hj;obtain⟨z,hz,_⟩:=At.1 hj;exact zbm hz
    rw[Rr vF];exact hj
  omega
 .rw[Deaf_push];simp[deafStep,hy,hd]
theorem TI.begin (hP:Past Shun B t)(hB:B<=B')(zdw:∀j,n<=j->gY t j=0)(nI:∀j,live j↔j=0)(ho:∀b,own 0 b\/pas 0 b->∀l,nO l b->¬Shun l)
 (hW:B<=Wg):TI Wg n own pas live Shun B' t:=by
 have pG:∀{i:Nat} {a:Touch} {b:Nat},touchAt t i=some a->nO a.loc b->b<B:=λ{i a b} ha hb=>by
  obtain⟨op,ho,Ma⟩:=zfL ha;exact zs4 (hP.seen op (zi0 ho)) Ma hb
 refine⟨hP.clean,λk b hk hb i a ha lJ=>?_,λk b hk hb i a ha lJ hw=>?_,λi a ha lJ=>?_,λi a ha hm=>?_,λi g Hb aS hc=>.inr (.inr (hP.over i g Hb aS hc)),λk e=>?_,λop hop=>zrc hB (hP.seen op hop),zdw⟩
 .have:=(nI k).1 hk;subst this
  rcases hP.known i a ha (zcX lJ) with x|⟨x,_⟩
  .exact x
  grind
 .have:=(nI k).1 hk;subst this
  rcases hP.known i a ha (zcX lJ) with x|⟨x,_⟩
  .exact x
  .grind
 .have:=pG ha lJ;omega
 .exact(hP.known i a ha hm).imp (λx=>⟨0,(nI 0).2 rfl,x⟩) λx=>.inr ⟨.inl x.1,x.2⟩
 .obtain⟨op,ho,Ma⟩:=At.1 e
  have:=hP.seen op (zi0 ho);rw[Ma] at this;simp only[Z8,stA] at this;omega
end
theorem upd_same {α:Type _}(f:Nat->α)(i:Nat)(x:α):bJ f i x i=x:=by simp[bJ]
theorem upd_ne {α:Type _}(f:Nat->α){j:Nat}(x:α)(h:j≠i):bJ f i x j=f j:=by simp[bJ,h]
section
variable {L:Type}
def Ph.live:Ph L->Prop| .usr _| .w1 _| .w2 _| .w3| .w4| .w5=>True|_=>False
def Ph.waits:Ph L->Prop| .w1 _| .w2 _| .w3| .w4| .w5=>True|_=>False
def Ph.pre:Ph L->Bool| .usr _| .rel _=>true|_=>false
def Ph.last:Ph L->Prop| .l1 _| .l2 _| .l3 _=>True|_=>False
structure Td (L:Type) where
 ph:Ph L
 r:Cp
 τ:cI
 g:bE
def pL (p:Nat->Ph L):Nat->Nat
 |0=>0
 |n+1=>pL p n+(if n≠0/\(p n).pre=true then 1 else 0)
def Ay (A:jV L)(p:Nat->Ph L):Nat:=match p 0 with| .usr l=>if A.pend l then 1 else 0|_=>0
def vv (A:jV L)(p:Nat->Ph L)(n:Nat):Nat:=pL p n+Ay A p
def gP (A:jV L)(ty:aM)(Wg:Nat)(p:Nat->Ph L)(n:Nat)(w:aE):Prop:=
 match p 0 with
 | .usr _=>jL ty Wg w (vv A p n*KK) 0/\∀i,¬(p i).last
 | .w1 b=>jL ty Wg w (vv A p n*KK) 0/\(∀i,¬(p i).last)/\vv A p n<b
 | .w2 vs=>jL ty Wg w (vv A p n*KK) 0/\(∀i,¬(p i).last)/\vv A p n<=vs/\0<vs
 | .w3=>(0<vv A p n/\jL ty Wg w (vv A p n*KK+1) 0/\∀i,¬(p i).last)\/
  (vv A p n=0/\∃i l,(∀j,(p j).last->j=i)/\(((p i=.l1 l\/p i=.l2 l)/\jL ty Wg w 1 0)\/(p i=.l3 l/\jL ty Wg w 0 0)))\/
  (vv A p n=0/\(∀i,¬(p i).last)/\jL ty Wg w 0 1)
 | .w4| .w5=>vv A p n=0/\(∀i,¬(p i).last)/\jL ty Wg w 0 0
 |_=>False
theorem zxD (p:Nat->Ph L){i n:Nat}(x:Ph L)(h:n<=i):pL (bJ p i x) n=pL p n:=by
 induction n with
 |zero=>rfl
 |succ n ih=>simp only[pL,ih aC,upd_ne p x (show n≠i by omega)]
theorem zeb (p:Nat->Ph L)(n:Nat)(x:Ph L):pL (bJ p 0 x) n=pL p n:=by
 induction n with
 |zero=>rfl
 |succ n ih=>
  simp only[pL,ih];by_cases h:n=0
  .simp[h]
  .rw[upd_ne p x h]
theorem zgL (p:Nat->Ph L){i n:Nat}(x:Ph L)(h:i<n)(h0:i≠0):pL (bJ p i x) n+(if(p i).pre=true then 1 else 0)=pL p n+(if x.pre=true then 1 else 0):=by
 induction n with
 |zero=>omega
 |succ n ih=>
  simp only[pL];by_cases hi:i=n
  .subst hi
   rw[zxD p x (bM _),upd_same]
   grind
  .have:=ih aC
   rw[upd_ne p x (show n≠i from λe=>hi e.symm)];omega
theorem pre_le (ph:Ph L)(q:Prop)[Decidable q]:(if q/\ph.pre=true then 1 else 0)<=ph.proj.c:=by
 cases ph<;>simp[Ph.pre,Ph.proj,Pj.c]
 all_goals(split<;>omega)
theorem zzS (A:jV L)(p:Nat->Ph L)(n:Nat)(h:0<n):vv A p n<=num (λi=>(p i).proj) n:=by
 have key:∀n,0<n->pL p n+(p 0).proj.c<=num (λi=>(p i).proj) n:=by
  intro n
  induction n with
  |zero=>omega
  |succ n ih=>
   intro _;by_cases hn:n=0
   .subst hn;simp[pL,num]
   .have:=ih aC
    have h2:=pre_le (p n) (n≠0);simp only[pL,num];omega
 have h1:=key n h;have h2:Ay A p<=(p 0).proj.c:=by
  unfold Ay;cases p 0<;>simp only[Ph.proj,Pj.c]<;>first|omega|(split<;>omega)
 unfold vv;omega
def mE (x g:bE):Prop:=x.status=.running/\x.frame=g.frame/\x.callers=g.callers/\x.dying=g.dying
def mE.self {g:bE}(h:g.status=.running):mE g g:=⟨h,rfl,rfl,rfl⟩
def mE.step {P:cD}{main:Bool}{x g:bE}(h:mE x g)(w:aE):stepG P main x w=stepG P main g w:=stepG_same h.2.1 h.2.2.1 h.2.2.2 w
variable (P:cD)(ty:aM)(Wg:Nat)(A:jV L)(Fin:bE->aE->Prop)
def zgl (main:Bool)(T:Td L)(x:bE)(w:aE):Prop:=
 ∃l cs sh,T.ph=.usr l/\x=parked T.g cs sh/\(∀aJ,b8 ty Wg T.τ w aJ->stepG P main T.g aJ=.comm T.g cs true sh aJ #[])/\
  ((∃c ok pub nx v z,A.act l=.send c ok pub nx/\cs=#[scase c v z]/\sh=.send)\/(∃c ok nx s z b,A.act l=.recv c ok nx s/\cs=#[rcase c z]/\sh=.recv b))
def zmg (T:Td L)(x:bE):Prop:=T.ph=.w3/\x={T.g with status:=.blocked}/\T.g.offers=none
def Sits (i:Nat)(T:Td L)(d:Nat)(x:bE)(w:aE):Prop:=
 match T.ph with
 | .gone| .quit _=>∃q,T.r=.inl q/\QuitsD P q d x
 |_=>∃r,T.r=.inr r/\pJ P ty Wg A Fin r (i==0) T.ph d T.τ T.g w/\(mE x T.g\/zgl P ty Wg A (i==0) T x w\/zmg T x)
def Ph.leaves:Ph L->Prop| .gone| .quit _=>True|_=>False
theorem Il {P:cD}{ty:aM}{Wg:Nat}{A:jV L}{Fin:bE->aE->Prop}{i:Nat}{T:Td L}{d:Nat}{x:bE}{w:aE}(h:T.ph.leaves):
 Sits P ty Wg A Fin i T d x w↔∃q,T.r=.inl q/\QuitsD P q d x:=by
 obtain⟨ph,r,τ,g⟩:=T;cases ph<;>first|exact Iff.rfl|exact h.elim
theorem qG {P:cD}{ty:aM}{Wg:Nat}{A:jV L}{Fin:bE->aE->Prop}{i:Nat}{T:Td L}{d:Nat}{x:bE}{w:aE}(h:¬T.ph.leaves):
 Sits P ty Wg A Fin i T d x w↔∃r,T.r=.inr r/\pJ P ty Wg A Fin r (i==0) T.ph d T.τ T.g w/\(mE x T.g\/zgl P ty Wg A (i==0) T x w\/zmg T x):=by
 obtain⟨ph,r,τ,g⟩:=T;cases ph<;>first|exact Iff.rfl|exact absurd trivial h
variable {P:cD}{ty:aM}{Wg:Nat}{A:jV L}{Fin:bE->aE->Prop}
theorem zoB (a a' g:bE)(cs:Array zmS)(sh:Nz)(w:aE):woken P a a' w (parked g cs sh)=parked g cs sh\/woken P a a' w (parked g cs sh)={parked g cs sh with status:=.running}:=by
 unfold woken;split
 .unfold zfk
  grind
 .exact .inl rfl
def woken_running {a a' x:bE}{w:aE}(h:x.status=.running):woken P a a' w x=x:=woken_run h
theorem Sits.other {i:Nat}{T:Td L}{d:Nat}{x:bE}{w w':aE}(h:Sits P ty Wg A Fin i T d x w)(s:b8 ty Wg T.τ w w')(a a':bE):Sits P ty Wg A Fin i T d (woken P a a' w' x) w':=by
 by_cases hl:T.ph.leaves
 .rw[Il hl] at h⊢
  obtain⟨q,hq,hQ⟩:=h;exact⟨q,hq,by rw[zbf hQ];exact hQ⟩
 .rw[qG hl] at h⊢
  obtain⟨r,hr,hB,hx⟩:=h;refine⟨r,hr,hB.rely s,?_⟩;rcases hx with hx|⟨l,cs,sh,h1,rfl,h3,h4⟩|⟨h1,rfl,h3⟩
  .rw[woken_running hx.1];exact .inl hx
  .rcases zoB (P:=P) a a' T.g cs sh w' with e|e
   .rw[e];exact .inr (.inl ⟨l,cs,sh,h1,rfl,λaJ lT=>h3 aJ (s.trans lT),h4⟩)
   .rw[e];exact .inl ⟨rfl,rfl,rfl,rfl⟩
  .unfold woken
   split
   .left
    simp only[zfk,h3];exact⟨rfl,rfl,rfl,rfl⟩
   .exact .inr (.inr ⟨h1,rfl,h3⟩)
theorem Sits.rely {i:Nat}{T:Td L}{d:Nat}{x:bE}{w w':aE}(h:Sits P ty Wg A Fin i T d x w)(s:b8 ty Wg T.τ w w'):Sits P ty Wg A Fin i T d x w':=by
 by_cases hl:T.ph.leaves
 .rw[Il hl] at h⊢;exact h
 .rw[qG hl] at h⊢
  obtain⟨r,hr,hB,hx⟩:=h;refine⟨r,hr,hB.rely s,hx.imp id (Or.imp ?_ id)⟩;rintro⟨l,cs,sh,h1,h2,h3,h4⟩;exact⟨l,cs,sh,h1,h2,λaJ lT=>h3 aJ (s.trans lT),h4⟩
theorem Sits.status {i:Nat}{T:Td L}{d:Nat}{x:bE}{w:aE}(h:Sits P ty Wg A Fin i T d x w):x.status=.running\/x.status=.finished\/x.status=.blocked:=by
 by_cases hl:T.ph.leaves
 .rw[Il hl] at h
  obtain⟨q,hq,hQ⟩:=h;exact hQ.status.imp id .inl
 .rw[qG hl] at h
  obtain⟨r,hr,hB,hx|⟨l,cs,sh,h1,rfl,h3,h4⟩|⟨h1,rfl,h3⟩⟩:=h
  .exact .inl hx.1
  .exact .inr (.inr rfl)
  simp_all
structure Stat (n:Nat)(w:aE)(T:Nat->Td L)(ch:rV):Prop where
 n0:0<n
 ou:∀i,n<=i->(T i).ph=.gone
 role0:(T 0).ph.live
 role:∀i,i≠0->¬(T i).ph.waits
 nil:∀i,(T i).ph=.gone->∀b,¬(T i).τ.own b/\¬(T i).τ.still b/\¬(T i).τ.pass b
 sep:∀i j b,i≠j->(T i).τ.own b->¬(T j).τ.own b/\¬(T j).τ.still b/\¬(T j).τ.pass b
 bnd:∀i b,(T i).τ.own b\/(T i).τ.still b->b<w.heap.size/\b≠Wg/\ch b=none
 pas:∀i b,(T i).τ.pass b->b<w.heap.size/\b≠Wg
 depo:∀i l,(T i).ph.proj=.over l->∀aJ,b8 ty Wg (T i).τ w aJ->A.dep l aJ
 chan:∀c b,ch c=some b->c≠Wg/\∃s r,w.heap[c]? =some (.chan 0 #[] b s r false)
 grp:gP A ty Wg (λi=>(T i).ph) n w
 inv:A.Inv (λi=>(T i).ph.proj) ch
structure F9 (gs:Array bE)(w:aE)(t:mR)(T:Nat->Td L)(ch:rV)(Shun:rD->Prop):Prop where
 sit:∀(i:Nat) (x:bE),gs[i]? =some x->Sits P ty Wg A Fin i (T i) (gY t i) x w
 slp:∀(i j:Nat) (gi gj:bE) (c:Nat) (v z z':aF) (sh x6:Nz),gs[i]? =some (parked gi #[scase c v z] sh)->gs[j]? =some (parked gj #[rcase c z'] x6)->False
 slpC:∀(i:Nat) (gi:bE) (c:Nat) (z:aF) (sh:Nz),gs[i]? =some (parked gi #[rcase c z] sh)->ch c≠some true
 slpW:∀(x:bE),gs[0]? =some x->(T 0).ph=.w3->x.status=.blocked->¬jL ty Wg w 0 1
 tr:TI Wg gs.size (λi=>(T i).τ.own) (λi b=>(T i).τ.still b\/(T i).τ.pass b) (λi=>(T i).ph.live) Shun w.heap.size t
def Lb (g:bE):Bool:=match g.status with| .running=>true|_=>false
def mu (gs:Array bE)(T:Nat->Td L):Mu:=(gs.size,λj=>if j<gs.size then(T j).r else .inl (gs.countP Lb))
end
section
variable {L:Type}{P:cD}{ty:aM}{Wg:Nat}{A:jV L}{Fin:bE->aE->Prop}
variable {fn:aP}{pos:String}{es:Array rQ}
theorem zA9 {g:Nat}{op:Rg}(h:op∈wW g fn pos es):op.g=g:=by
 rw[Wq] at h
 grind
def OkL (Wg:Nat)(own pas:Nat->Prop)(k B:Nat)(e:rQ):Prop:=
 (∀a,(jU e).touch? =some a->(∃b,b≠Wg/\nO a.loc b/\(own b\/(pas b/\a.write=false)))\/(nO a.loc Wg/\(a.kind=.atomic\/(a.kind=.said/\k=0)))\/a.loc.isMemory=false)/\
 jU e≠ .mark (.release (stA Wg))/\(jU e).low B
theorem TI.events {n:Nat}{own pas:Nat->Nat->Prop}{live:Nat->Prop}{Shun:rD->Prop}{B:Nat}{k:Nat}(hk:live k)(tT:k<n)
 (hs:∀k' b,live k'->k'≠k->own k b->¬own k' b/\¬pas k' b) (hp:∀k' b,live k'->k'≠k->pas k b->¬own k' b) (hW:∀k',live k'->¬own k' Wg/\¬pas k' Wg)
 (fn:aP) (pos:String):∀(es:List rQ) {t:mR},TI Wg n own pas live Shun B t->(∀e∈es,OkL Wg (own k) (pas k) k B e)->TI Wg n own pas live Shun B (t++wW k fn pos es.toArray)
 |[],t,h,_=>by simpa[wW] using h
 |e::es,t,h,yS=>by
  have e1:t++wW k fn pos (e::es).toArray=(t++ #[{g:=k,fn,pos,act:=.ofEvent e}])++wW k fn pos es.toArray:=by
   rw[Wq,Wq];apply La;simp
  rw[e1];obtain⟨h1,h2,h3⟩:=yS e aQ;refine TI.events hk tT hs hp hW fn pos es (h.push hk tT rfl (λa ha=>?_) h2 h3) λe' Oh=>yS e' (by simp[Oh])
  grind
variable {e:rQ}
theorem okL_evT {own still pas:Nat->Prop}{k B:Nat}(h:EvT Wg (k==0) own still e)(I5:∀b,still b->pas b)(hb:∀b,own b\/still b->b<B/\b≠Wg)(hW:Wg<B):OkL Wg own pas k B e:=by
 obtain⟨loc,w,sy⟩:=e
 cases loc with
 |cell a=>
  simp only[EvT] at h;refine⟨λx hx=>?_,by simp[jU],?_⟩
  .simp only[jU,sY,jQ] at hx
   subst hx;exact .inl ⟨a.block,(hb _ (h.imp id (·.1))).2,rfl,h.imp id λx=>⟨I5 _ x.1,x.2⟩⟩
  .exact(hb _ (h.imp id (·.1))).1
 |obj r=>
  simp only[EvT] at h
  cases w<;>cases sy<;>refine⟨λx hx=>?_,by simp[jU],(hb _ (h.imp id (·.1))).1⟩<;>simp only[jU,sY,jQ,reduceCtorEq] at hx<;>
   (subst hx;exact .inl ⟨r,(hb _ (h.imp id (·.1))).2,rfl,h.imp id λx=>⟨I5 _ x.1,x.2⟩⟩)
 |output=>exact h.elim
 |goroutines=>exact h.elim
 |mark m=>
  cases m<;>simp only[EvT] at h<;>try exact h.elim
  case read a=>
   refine⟨λx hx=>?_,by simp[jU],by simpa[jU,Z8,h.2] using hW⟩;simp only[jU,sY,jQ] at hx;subst hx;exact .inr (.inl ⟨h.2,.inr ⟨rfl,by simpa using h.1⟩⟩)
  case write a=>
   refine⟨λx hx=>?_,by simp[jU],by simpa[jU,Z8,h.2] using hW⟩;simp only[jU,sY,jQ] at hx;subst hx;exact .inr (.inl ⟨h.2,.inr ⟨rfl,by simpa using h.1⟩⟩)
  all_goals exact⟨λx hx=>by simp[jU,sY] at hx,by simp[jU],by simp[jU,Z8]⟩
theorem zgS {own pas:Nat->Prop}{k B:Nat}{a:bC}{b:Bool}(ha:a.block=Wg)(hW:Wg<B):OkL Wg own pas k B ⟨.cell a,b,true⟩:=by
 refine⟨λx hx=>?_,by simp[jU],by simpa[jU,Z8,rD.low,ha] using hW⟩;simp only[jU,sY,jQ] at hx;subst hx;exact .inr (.inl ⟨ha,.inl rfl⟩)
theorem ze1 {own pas:Nat->Prop}{k B:Nat}(h:e.mute=true):OkL Wg own pas k B e:=by
 refine⟨λx hx=>(by rw[znb h] at hx;cases hx),?_,low_mute h B⟩;obtain⟨loc,w,sy⟩:=e;cases loc<;>simp_all [zhw];rename_i m;cases m<;>simp_all [jU]
theorem TI.deafs {n:Nat}{own pas:Nat->Nat->Prop}{live:Nat->Prop}{Shun:rD->Prop}{B:Nat}{k:Nat}(tT:k<n)(hW:∀k',live k'->¬own k' Wg/\¬pas k' Wg)
 (fn:aP) (pos:String):∀(es:List rQ) {t:mR},TI Wg n own pas live Shun B t->
  (∀(l r:List rQ) (e:rQ),es=l++e::r->(∀a,(jU e).touch? =some a->nO a.loc Wg/\a.kind=.atomic/\0<oN (gY t k) l.toArray)/\jU e≠ .mark (.release (stA Wg))/\(jU e).low B)->
  TI Wg n own pas live Shun B (t++wW k fn pos es.toArray)
 |[],t,h,_=>by simpa[wW] using h
 |e::es,t,h,yS=>by
  have e1:t++wW k fn pos (e::es).toArray=(t++ #[{g:=k,fn,pos,act:=.ofEvent e}])++wW k fn pos es.toArray:=by
   rw[Wq,Wq];apply La;simp
  rw[e1];obtain⟨h1,h2,h3⟩:=yS [] es e rfl;refine TI.deafs tT hW fn pos es (h.idle tT (λa ha=>⟨(h1 a ha).1,(h1 a ha).2.1,(h1 a ha).2.2,hW⟩) h2 h3) λl r e' Oh=>?_;have hd:gY (t++ #[({g:=k,fn,pos,act:=.ofEvent e}:Rg)]) k=oN (gY t k) #[e]:=by
   have:=zny t k fn pos #[e];rw[Wq] at this;simpa using this
  have:=yS (e::l) r e' (by rw[Oh];rfl);rw[hd];refine⟨λa ha=>⟨(this.1 a ha).1,(this.1 a ha).2.1,?_⟩,this.2⟩;have h5:=(this.1 a ha).2.2
  rwa [zvt] at h5
variable {t:mR}
theorem TI.mutes {n:Nat}{own pas:Nat->Nat->Prop}{live:Nat->Prop}{Shun:rD->Prop}{B:Nat}{k:Nat}(h:TI Wg n own pas live Shun B t)(tT:k<n)(hW:∀k',live k'->¬own k' Wg/\¬pas k' Wg)
 (fn:aP) (pos:String)  (yS:∀e∈es,zhw e=true):TI Wg n own pas live Shun B (t++wW k fn pos es):=by
 obtain⟨l⟩:=es;refine h.deafs tT hW fn pos l λx r e he=>?_;have hm:=yS e (by simp[he]);have:=ze1 (Wg:=Wg) (own:=own k) (pas:=pas k) (k:=k) (B:=B) hm;exact⟨λa ha=>(by rw[znb hm] at ha;cases ha),this.2.1,this.2.2⟩
theorem Yz {gs gs':Array bE}{T T':Nat->Td L}{i:Nat}(hs:i≠0->gs'.size=gs.size)(h0:0<gs'.size)(hi:i<gs.size)(lS:i<gs'.size)(hc:Cl (T' i).r (T i).r)(he:∀j,j<i->(T' j).r=(T j).r):Mu.lt (mu gs' T') (mu gs T):=by
 refine⟨i,by simp only[mu];omega,?_,λj hj=>?_,λh=>by simpa[mu] using hs h⟩
 .simp only[mu,if_pos hi,if_pos lS];exact hc
 .simp only[mu,if_pos (show j<gs.size by omega),if_pos (show j<gs'.size by omega)];exact he j hj
theorem mu_dec' {gs gs':Array bE}{T:Nat->Td L}(hs:gs'.size=gs.size)(hc:gs'.countP Lb<gs.countP Lb):Mu.lt (mu gs' T) (mu gs T):=by
 refine⟨gs.size,by simp[mu],?_,λj hj=>?_,λh=>by simpa[mu] using hs⟩
 .simp only[mu,hs,J9,if_false]
  exact .inl hc
 .simp only[mu,hs,if_pos hj]
theorem F9.go {gs:Array bE}{w w':aE}{T:Nat->Td L}{ch wH:rV}{Shun:rD->Prop}(h:F9 (P:=P) (ty:=ty) (Wg:=Wg) (A:=A) (Fin:=Fin) gs w t T ch Shun){i:Nat}{x g':bE}{Ti:Td L}
 (hi:gs[i]? =some x) (zlz:Sits P ty Wg A Fin i Ti (oN (gY t i) es) g' w') (oI:g'.status≠ .blocked) (zjy:∀j,j≠i->b8 ty Wg (T j).τ w w')
 (hC:∀(j:Nat) (gj:bE) (c:Nat) (z:aF) (sh:Nz),gs[j]? =some (parked gj #[rcase c z] sh)->woken P x g' w' (parked gj #[rcase c z] sh)=parked gj #[rcase c z] sh->wH c≠some true)
 (hW:i≠0->∀x0,gs[0]? =some x0->(T 0).ph=.w3->x0.status=.blocked->(woken P x g' w' x0).status=.blocked->¬jL ty Wg w' 0 1)
 (zmo:TI Wg gs.size (λk=>(bJ T i Ti k).τ.own) (λk b=>(bJ T i Ti k).τ.still b\/(bJ T i Ti k).τ.pass b) (λk=>(bJ T i Ti k).ph.live) Shun w'.heap.size (t++wW i fn pos es)):
 F9 (P:=P) (ty:=ty) (Wg:=Wg) (A:=A) (Fin:=Fin) ((gs.map (woken P x g' w')).setIfInBounds i g') w' (t++wW i fn pos es) (bJ T i Ti) wH Shun:=by
 have aT:i<gs.size:=(eM.1 hi).1;have get:∀(j:Nat) (y:bE),((gs.map (woken P x g' w')).setIfInBounds i g')[j]? =some y->(j=i/\y=g')\/(j≠i/\∃y0,gs[j]? =some y0/\y=woken P x g' w' y0):=by
  intro j y hj;by_cases fO:i=j
  .simp_all
  .grind
 have back:∀(j:Nat) (gj:bE) (cs:Array zmS) (sh:Nz),((gs.map (woken P x g' w')).setIfInBounds i g')[j]? =some (parked gj cs sh)->gs[j]? =some (parked gj cs sh)/\woken P x g' w' (parked gj cs sh)=parked gj cs sh:=by
  intro j gj cs sh hj;rcases get j _ hj with⟨_,e⟩|⟨aS,y0,h0,e⟩
  .exact absurd (by rw[<-e];rfl) oI
  .have hs:=h.sit j y0 h0
   by_cases hl:(T j).ph.leaves
   .rw[Il hl] at hs
    obtain⟨q,_,hQ⟩:=hs;rw[zbf hQ] at e
    grind
   .rw[qG hl] at hs
    obtain⟨r,_,_,hx|⟨l,U6,x6,_,rfl,_,_⟩|⟨_,rfl,ho⟩⟩:=hs
    .rw[woken_running hx.1] at e
     grind
    .rcases zoB (P:=P) x g' (T j).g U6 x6 w' with e2|e2
     .simp_all
     .rw[e2] at e
      have:(parked gj cs sh).status=.running:=by rw[e]
      simp[parked] at this
    .have:(parked gj cs sh).offers=none:=by
      rw[e];unfold woken;split
      .simp[zfk,ho]
      .exact ho
     simp[parked] at this
 refine⟨λj y hj=>?_,λa b ga gb c v z z' sh x6 ha hb=>?_,λj gj c z sh hj=>?_,λy hy yW aX=>?_,by simpa using zmo⟩
 .rcases get j y hj with⟨rfl,rfl⟩|⟨aS,y0,h0,rfl⟩
  .rw[upd_same,zny];exact zlz
  .rw[upd_ne T Ti aS,Q3 t (g':=i) (λe=>aS e.symm) (wW i fn pos es) (λop hop=>zA9 hop)]
   exact(h.sit j y0 h0).other (zjy j aS) _ _
 .exact h.slp a b ga gb c v z z' sh x6 (back a ga _ _ ha).1 (back b gb _ _ hb).1
 .grind
 .rcases get 0 y hy with⟨e,rfl⟩|⟨aS,y0,h0,rfl⟩
  .exact absurd aX oI
  .rw[upd_ne T Ti aS] at yW
   have hb:y0.status=.blocked:=by
    rcases(h.sit 0 y0 h0).status with hs|hs|hs
    .rw[woken_running hs,hs] at aX;cases aX
    .unfold woken at aX
     split at aX
     .rw[again_running _ (.inr hs),hs] at aX;cases aX
     omega
    .exact hs
   grind
end
section
variable {L:Type}{P:cD}{ty:aM}{Wg:Nat}{A:jV L}{Fin:bE->aE->Prop}
theorem b8.of_aside {τ:cI}{c:Nat}{w w':aE}(h:M7 c w w')(hc:¬τ.own c/\¬τ.still c)(hl:WgLive ty Wg w->WgLive ty Wg w'):b8 ty Wg τ w w':=
 ⟨h.tape,h.os,h.output,Nat.le_of_eq h.size.symm,λb hb=>h.block b (λe=>by subst e;exact hb.elim hc.1 hc.2),hl⟩
def zam {c:Nat}{w w':aE}(h:M7 c w w')(hc:c≠Wg):WgLive ty Wg w->WgLive ty Wg w':=λ⟨a,b,x⟩=>⟨a,b,(h.block Wg (λe=>hc e.symm)).trans x⟩
theorem gP.live {p:Nat->Ph L}{n:Nat}{w:aE}(h:gP A ty Wg p n w):WgLive ty Wg w:=by
 unfold gP at h;split at h
 .exact⟨_,_,h.1⟩
 .exact⟨_,_,h.1⟩
 .exact⟨_,_,h.1⟩
 .rcases h with⟨_,h,_⟩|⟨_,_,_,_,⟨_,h⟩|⟨_,h⟩⟩|⟨_,_,h⟩<;>exact⟨_,_,h⟩
 .exact⟨_,_,h.2.2⟩
 .exact⟨_,_,h.2.2⟩
 .exact h.elim
theorem WgLive.lt {w:aE}(h:WgLive ty Wg w):Wg<w.heap.size:=by
 obtain⟨_,_,h⟩:=h;exact(eM.1 h).1
theorem gP.of_block {p:Nat->Ph L}{n:Nat}{w w':aE}(h:gP A ty Wg p n w)(e:w'.heap[Wg]? =w.heap[Wg]?):gP A ty Wg p n w':=by
 have key:∀a b,jL ty Wg w a b->jL ty Wg w' a b:=λa b x=>e.trans x;unfold gP at*;split
 all_goals(rename_i hp;simp only[hp] at h)
 .simp_all
 .simp_all
 .exact⟨key _ _ h.1,h.2⟩
 .exact h.imp (λx=>⟨x.1,key _ _ x.2.1,x.2.2⟩) (Or.imp (λ⟨a,i,l,b,c⟩=>⟨a,i,l,b,c.imp (λx=>⟨x.1,key _ _ x.2⟩) (λx=>⟨x.1,key _ _ x.2⟩)⟩) λx=>⟨x.1,x.2.1,key _ _ x.2.2⟩)
 .simp_all
 simp_all
theorem V8 (T:Nat->Td L)(i:Nat)(Ti:Td L):(λj=>(bJ T i Ti j).ph.proj)=bJ (λj=>(T j).ph.proj) i Ti.ph.proj:=by
 funext j;by_cases h:j=i
 .subst h;simp[upd_same]
 .simp[upd_ne _ _ h]
theorem Y4 (T:Nat->Td L)(i:Nat)(Ti:Td L):(λj=>(bJ T i Ti j).ph)=bJ (λj=>(T j).ph) i Ti.ph:=by
 funext j;by_cases h:j=i
 .subst h;simp[upd_same]
 .simp[upd_ne _ _ h]
theorem zeJ {α:Type _}(f:Nat->α)(i:Nat):bJ f i (f i)=f:=by
 funext j;by_cases h:j=i
 .subst h;simp[upd_same]
 .simp[upd_ne _ _ h]
variable {ch:rV}
theorem Stat.same {n:Nat}{w:aE}{T T':Nat->Td L}(h:Stat (ty:=ty) (Wg:=Wg) (A:=A) n w T ch)(hp:∀j,(T' j).ph=(T j).ph)(ht:∀j,(T' j).τ=(T j).τ):Stat (ty:=ty) (Wg:=Wg) (A:=A) n w T' ch:=by
 have e1:(λj=>(T' j).ph)=λj=>(T j).ph:=funext hp;have e2:(λj=>(T' j).ph.proj)=λj=>(T j).ph.proj:=funext λj=>by rw[hp]
 refine⟨h.n0,λi hi=>(hp i).trans (h.ou i hi),by rw[hp];exact h.role0,λi hi=>by rw[hp];exact h.role i hi,λi hi=>by rw[ht];rw[hp] at hi;exact h.nil i hi,λi j b rC hb=>by rw[ht] at hb⊢;exact h.sep i j b rC hb,
  λi b hb=>by rw[ht] at hb;exact h.bnd i b hb,λi b hb=>by rw[ht] at hb;exact h.pas i b hb,λi l hi=>by rw[ht];rw[hp] at hi;exact h.depo i l hi,h.chan,by rw[e1];exact h.grp,by rw[e2];exact h.inv⟩
theorem Stat.suf {n:Nat}{w w':aE}{T:Nat->Td L}(h:Stat (ty:=ty) (Wg:=Wg) (A:=A) n w T ch){i:Nat}(g:Am (T i).τ.own w w'){j:Nat}(hj:j≠i):b8 ty Wg (T j).τ w w':=by
 have hl:WgLive ty Wg w->WgLive ty Wg w':=λx=>by
  obtain⟨a,b,hx⟩:=id x;exact⟨a,b,(g.keep Wg x.lt λe=>((h.bnd i Wg (.inl e)).2.1 rfl)).trans hx⟩
 refine⟨g.tape,g.os,g.output,g.size,λb hb=>g.keep b (h.bnd j b hb).1 λe=>?_,hl⟩;have:=h.sep i j b (λe=>hj e.symm) e;simp_all
theorem Stat.grow {n:Nat}{w w':aE}{T:Nat->Td L}(h:Stat (ty:=ty) (Wg:=Wg) (A:=A) n w T ch){i:Nat}(nI:(T i).ph.live)(g:Am (T i).τ.own w w')(r:Cp)(g':bE):
 Stat (ty:=ty) (Wg:=Wg) (A:=A) n w' (bJ T i ⟨(T i).ph,r,(T i).τ.grow w w',g'⟩) ch:=by
 have hp:∀j,(bJ T i ⟨(T i).ph,r,(T i).τ.grow w w',g'⟩ j).ph=(T j).ph:=λj=>by
  by_cases hj:j=i
  .subst hj;simp[upd_same]
  .simp[upd_ne _ _ hj]
 have e1:(λj=>(bJ T i ⟨(T i).ph,r,(T i).τ.grow w w',g'⟩ j).ph)=λj=>(T j).ph:=funext hp;have e2:(λj=>(bJ T i ⟨(T i).ph,r,(T i).τ.grow w w',g'⟩ j).ph.proj)=λj=>(T j).ph.proj:=funext λj=>by rw[hp]
 have hs:=g.size;have zk8:w'.heap[Wg]? =w.heap[Wg]? :=g.keep Wg h.grp.live.lt λe=>((h.bnd i Wg (.inl e)).2.1 rfl);have zzJ:∀c b,ch c=some b->c<w.heap.size:=λc b hc=>by
  obtain⟨_,s,r,hh⟩:=h.chan c b hc
  grind
 refine⟨h.n0,λj hj=>(hp j).trans (h.ou j hj),by rw[hp];exact h.role0,λj hj=>by rw[hp];exact h.role j hj,λj hj b=>?_,λa j b rC hb=>?_,λj b hb=>?_,λj b hb=>?_,λj l hj=>?_,λc b hc=>?_,by rw[e1];exact h.grp.of_block zk8,by rw[e2];exact h.inv⟩
 .rw[hp] at hj
  by_cases fO:j=i
  .subst fO;rw[hj] at nI;exact nI.elim
  .rw[upd_ne _ _ fO];exact h.nil j hj b
 .by_cases Uc:a=i
  .subst Uc
   have fO:j≠a:=λe=>rC e.symm;rw[upd_same] at hb;rw[upd_ne _ _ fO];rcases hb with hb|⟨hb,_⟩
   .exact h.sep a j b rC hb
   .exact⟨λe=>by have:=(h.bnd j b (.inl e)).1;omega,λe=>by have:=(h.bnd j b (.inr e)).1;omega,λe=>by have:=(h.pas j b e).1;omega⟩
  .rw[upd_ne _ _ Uc] at hb
   by_cases fO:j=i
   .subst fO
    rw[upd_same];have:=h.sep a j b rC hb;exact⟨λe=>e.elim this.1 λx=>by have:=(h.bnd a b (.inl hb)).1;omega,this.2⟩
   .rw[upd_ne _ _ fO];exact h.sep a j b rC hb
 .by_cases fO:j=i
  .subst fO
   rw[upd_same] at hb;rcases hb with(hb|⟨hb,bY⟩)|hb
   .have:=h.bnd j b (.inl hb);grind
   .refine⟨bY,λe=>by simp_all,?_⟩
    cases hc:ch b with
    |none=>rfl
    |some x=>grind
   .have:=h.bnd j b (.inr hb);grind
  .rw[upd_ne _ _ fO] at hb
   have:=h.bnd j b hb;grind
 .by_cases fO:j=i
  .subst fO
   rw[upd_same] at hb;have:=h.pas j b hb;omega
  .rw[upd_ne _ _ fO] at hb
   have:=h.pas j b hb;omega
 .rw[hp] at hj
  by_cases fO:j=i
  .subst fO
   cases yW:(T j).ph<;>rw[yW] at hj nI<;>first|exact nI.elim|simp[Ph.proj] at hj
  .rw[upd_ne _ _ fO]
   exact λaJ lT=>h.depo j l hj aJ ((h.suf g fO).trans lT)
 .obtain⟨h1,s,r,h2⟩:=h.chan c b hc
  exact⟨h1,s,r,(g.keep c (zzJ c b hc) λe=>by have:=(h.bnd i c (.inl e)).2.2;rw[hc] at this;cases this).trans h2⟩
theorem Stat.phase {n:Nat}{w w':aE}{T:Nat->Td L}(h:Stat (ty:=ty) (Wg:=Wg) (A:=A) n w T ch){i:Nat}(hg:(T i).ph≠ .gone)(oT:i<n)(a:M7 Wg w w')(ph':Ph L)(r:Cp)(g':bE)
 (yW:ph'≠ .gone) (h0:i=0->ph'.live) (h1:i≠0->¬ph'.waits) (hl:WgLive ty Wg w->WgLive ty Wg w')
 (hd:∀l,ph'.proj=.over l->(T i).ph.proj=.over l\/∀aJ,b8 ty Wg (T i).τ w aJ->A.dep l aJ)
 (B8:gP A ty Wg (bJ (λj=>(T j).ph) i ph') n w') (hinv:A.Inv (bJ (λj=>(T j).ph.proj) i ph'.proj) ch):
 Stat (ty:=ty) (Wg:=Wg) (A:=A) n w' (bJ T i ⟨ph',r,(T i).τ,g'⟩) ch:=by
 have ht:∀j,(bJ T i ⟨ph',r,(T i).τ,g'⟩ j).τ=(T j).τ:=λj=>by
  by_cases hj:j=i
  .subst hj;simp[upd_same]
  .simp[upd_ne _ _ hj]
 have sf:∀j,b8 ty Wg (T j).τ w w':=λj=>b8.of_aside a ⟨λe=>(h.bnd j Wg (.inl e)).2.1 rfl,λe=>(h.bnd j Wg (.inr e)).2.1 rfl⟩ hl;have cP:=a.size;refine⟨h.n0,λj hj=>?_,?_,λj hj=>?_,λj hj b=>?_,λx j b rC hb=>?_,λj b hb=>?_,λj b hb=>?_,λj l hj=>?_,λc b hc=>?_,by rw[Y4];exact B8,by rw[V8];exact hinv⟩
 .have:j≠i:=aC
  rw[upd_ne _ _ this];exact h.ou j hj
 .by_cases hi:i=0
  .subst hi;rw[upd_same];exact h0 rfl
  .rw[upd_ne _ _ (Ne.symm hi)];exact h.role0
 .by_cases fO:j=i
  .subst fO;rw[upd_same];exact h1 hj
  .rw[upd_ne _ _ fO];exact h.role j hj
 .rw[ht]
  by_cases fO:j=i
  .subst fO;rw[upd_same] at hj;exact absurd hj yW
  .rw[upd_ne _ _ fO] at hj;exact h.nil j hj b
 .rw[ht] at hb⊢;exact h.sep x j b rC hb
 .rw[ht] at hb;have:=h.bnd j b hb;exact⟨aC,this.2⟩
 .rw[ht] at hb;have:=h.pas j b hb;exact⟨aC,this.2⟩
 .rw[ht]
  by_cases fO:j=i
  .subst fO
   rw[upd_same] at hj;rcases hd l hj with x|x
   .exact λaJ lT=>h.depo j l x aJ ((sf j).trans lT)
   .exact λaJ lT=>x aJ ((sf j).trans lT)
  .rw[upd_ne _ _ fO] at hj
   exact λaJ lT=>h.depo j l hj aJ ((sf j).trans lT)
 .obtain⟨h1,s,r,h2⟩:=h.chan c b hc
  exact⟨h1,s,r,(a.block c h1).trans h2⟩
theorem Stat.close {n:Nat}{w w':aE}{T:Nat->Td L}(h:Stat (ty:=ty) (Wg:=Wg) (A:=A) n w T ch){i:Nat}(oT:i<n){c:Nat}{x:Bool}(hc:ch c=some x)(a:M7 c w w'){l l':L}(hl:(T i).ph=.usr l)(r:Cp)(g':bE)
 (sE:∃s r,w'.heap[c]? =some (.chan 0 #[] true s r false)) (B8:gP A ty Wg (bJ (λj=>(T j).ph) i (.usr l')) n w) (hinv:A.Inv (bJ (λj=>(T j).ph.proj) i (.run l')) (bJ ch c (some true))):
 Stat (ty:=ty) (Wg:=Wg) (A:=A) n w' (bJ T i ⟨.usr l',r,(T i).τ,g'⟩) (bJ ch c (some true)):=by
 have ht:∀j,(bJ T i ⟨.usr l',r,(T i).τ,g'⟩ j).τ=(T j).τ:=λj=>by
  by_cases hj:j=i
  .subst hj;simp[upd_same]
  .simp[upd_ne _ _ hj]
 have Ag:=(h.chan c x hc).1;have nc:∀j,¬(T j).τ.own c/\¬(T j).τ.still c:=λj=>⟨λe=>(by have:=(h.bnd j c (.inl e)).2.2;rw[hc] at this;cases this),λe=>(by have:=(h.bnd j c (.inr e)).2.2;rw[hc] at this;cases this)⟩;have sf:∀j,b8 ty Wg (T j).τ w w':=λj=>b8.of_aside a (nc j) (zam a Ag);have cP:=a.size;refine⟨h.n0,λj hj=>?_,?_,λj hj=>?_,λj hj b=>?_,λx j b rC hb=>?_,λj b hb=>?_,λj b hb=>?_,λj l hj=>?_,λc' b lN=>?_,by rw[Y4];exact B8.of_block (a.block Wg (Ne.symm Ag)),by rw[V8];exact hinv⟩
 .have:j≠i:=aC
  rw[upd_ne _ _ this];exact h.ou j hj
 .by_cases hi:i=0
  .subst hi;rw[upd_same];trivial
  .rw[upd_ne _ _ (Ne.symm hi)];exact h.role0
 .by_cases fO:j=i
  .subst fO;rw[upd_same];exact id
  .rw[upd_ne _ _ fO];exact h.role j hj
 .rw[ht]
  by_cases fO:j=i
  .subst fO;rw[upd_same] at hj;cases hj
  .rw[upd_ne _ _ fO] at hj;exact h.nil j hj b
 .rw[ht] at hb⊢;exact h.sep x j b rC hb
 .rw[ht] at hb
  have:=h.bnd j b hb;refine⟨aC,this.2.1,?_⟩;have aS:b≠c:=λe=>by subst e;exact hb.elim (nc j).1 (nc j).2
  rw[upd_ne _ _ aS];exact this.2.2
 .rw[ht] at hb;have:=h.pas j b hb;exact⟨aC,this.2⟩
 .rw[ht]
  by_cases fO:j=i
  .subst fO;rw[upd_same] at hj;simp[Ph.proj] at hj
  .rw[upd_ne _ _ fO] at hj
   exact λaJ lT=>h.depo j l hj aJ ((sf j).trans lT)
 .by_cases tW:c'=c
  .subst tW
   rw[upd_same] at lN;obtain⟨s,r,hw⟩:=sE;exact⟨Ag,s,r,by rw[hw,<-cS lN]⟩
  .rw[upd_ne _ _ tW] at lN
   obtain⟨h1,s,r,h2⟩:=h.chan c' b lN;exact⟨h1,s,r,(a.block c' tW).trans h2⟩
end
section
variable {L:Type}{P:cD}{ty:aM}{Wg:Nat}{A:jV L}{Fin:bE->aE->Prop}
theorem gP.congr {p p':Nat->Ph L}{n n':Nat}{w:aE}(h:gP A ty Wg p n w)(h0:p' 0=p 0\/∃l l',p 0=.usr l/\p' 0=.usr l')(hv:vv A p' n'=vv A p n)(hl:∀j,(p j).last\/(p' j).last->p' j=p j):gP A ty Wg p' n' w:=by
 have nl:(∀i,¬(p i).last)->∀i,¬(p' i).last:=λx i e=>x i tV;unfold gP at*;rcases h0 with h0|⟨l,l',h0,zL4⟩
 .rw[h0,hv]
  split
  all_goals(rename_i hp;simp only[hp] at h)
  .exact⟨h.1,nl h.2⟩
  .simp_all
  .simp_all
  .rcases h with⟨a,b,c⟩|⟨a,i,l,b,c⟩|⟨a,b,c⟩
   .exact .inl ⟨a,b,nl c⟩
   .have hi:(p i).last:=by rcases c with⟨c|c,_⟩|⟨c,_⟩<;>rw[c]<;>trivial
    have e:=hl i (.inl hi);refine .inr (.inl ⟨a,i,l,λj hj=>b j tV,?_⟩);rw[e];exact c
   simp_all
  .simp_all
  simp_all
 .simp_all
theorem zgQ (A:jV L)(p:Nat->Ph L){i:Nat}(h:i≠0)(x:Ph L):Ay A (bJ p i x)=Ay A p:=by
 unfold Ay;rw[upd_ne _ _ (Ne.symm h)]
theorem gP.usr {p:Nat->Ph L}{n:Nat}{w:aE}(h:gP A ty Wg p n w){i:Nat}{l l':L}(hi:p i=.usr l)(oT:i<n)(zm6:A.pend l'=A.pend l):gP A ty Wg (bJ p i (.usr l')) n w:=by
 refine h.congr ?_ ?_ λj hj=>?_
 .by_cases h0:i=0
  .subst h0;exact .inr ⟨l,l',hi,upd_same _ _ _⟩
  .exact .inl (upd_ne _ _ (Ne.symm h0))
 .unfold vv
  by_cases h0:i=0
  .subst h0
   rw[zeb];unfold Ay;rw[upd_same,hi];simp only[zm6]
  .rw[zgQ A p h0]
   have:=zgL p (i:=i) (n:=n) (.usr l') oT h0;rw[hi] at this;simp only[Ph.pre,if_true] at this;omega
 .by_cases fO:j=i
  .subst fO;rw[upd_same,hi] at hj;exact(hj.elim id id).elim
  .exact upd_ne _ _ fO
variable {ch:rV}
theorem zhH {l:List Nat}{a:Nat}(h:a∈l):ch.opn l a=some false:=by simp[rV.opn,h]
theorem Wy {l:List Nat}{a:Nat}(h:a∉l):ch.opn l a=ch a:=by simp[rV.opn,h]
theorem Stat.meet {n:Nat}{w w':aE}{T:Nat->Td L}(h:Stat (ty:=ty) (Wg:=Wg) (A:=A) n w T ch){i j:Nat}(rC:i≠j)(oT:i<n)(Sb:j<n){c:Nat}(hc:ch c=some false)(a:M7 c w w'){li li' lj lj':L}
 (hi:(T i).ph=.usr li) (hj:(T j).ph=.usr lj) (ri rj:Cp) (gi gj:bE) (τ':cI) (pub:List Nat)
 (ho:∀b,τ'.own b->(T i).τ.own b) (aX:τ'.still=(T i).τ.still) (Uw:∀b,τ'.pass b->(T i).τ.pass b\/(T i).τ.own b)
 (Ia:∀a∈pub,(T i).τ.own a/\¬τ'.own a/\¬τ'.still a/\Kj w a) (sE:∃s r,w'.heap[c]? =some (.chan 0 #[] false s r false))
 (zaz:A.pend li'=A.pend li) (Kt:A.pend lj'=A.pend lj) (hinv:A.Inv (bJ (bJ (λk=>(T k).ph.proj) i (.run li')) j (.run lj')) (ch.opn pub)):
 Stat (ty:=ty) (Wg:=Wg) (A:=A) n w' (bJ (bJ T i ⟨.usr li',ri,τ',gi⟩) j ⟨.usr lj',rj,(T j).τ,gj⟩) (ch.opn pub):=by
 have Ag:=(h.chan c _ hc).1;have zk8:=a.block Wg (Ne.symm Ag);have cP:=a.size;have nc:∀k,¬(T k).τ.own c/\¬(T k).τ.still c:=λk=>⟨λe=>(by have:=(h.bnd k c (.inl e)).2.2;rw[hc] at this;cases this),λe=>(by have:=(h.bnd k c (.inr e)).2.2;rw[hc] at this;cases this)⟩;have sf:∀k,b8 ty Wg (T k).τ w w':=λk=>b8.of_aside a (nc k) (zam a Ag)
 let U:=bJ (bJ T i ⟨.usr li',ri,τ',gi⟩) j ⟨.usr lj',rj,(T j).τ,gj⟩
 have ui:U i=⟨.usr li',ri,τ',gi⟩:=by simp only[U];rw[upd_ne _ _ rC,upd_same]
 have uj:U j=⟨.usr lj',rj,(T j).τ,gj⟩:=by simp only[U];rw[upd_same]
 have uk:∀k,k≠i->k≠j->U k=T k:=λk h1 h2=>by simp only[U];rw[upd_ne _ _ h2,upd_ne _ _ h1]
 have own:∀k b,(U k).τ.own b->(T k).τ.own b:=λk b hb=>by
  by_cases k1:k=i
  .subst k1;rw[ui] at hb;exact ho b hb
  .by_cases k2:k=j
   .subst k2;rw[uj] at hb;exact hb
   .rw[uk k k1 k2] at hb;exact hb
 have still:∀k,(U k).τ.still=(T k).τ.still:=λk=>by
  by_cases k1:k=i
  .subst k1;rw[ui];exact aX
  .by_cases k2:k=j
   .subst k2;rw[uj]
   .rw[uk k k1 k2]
 have pass:∀k b,(U k).τ.pass b->(T k).τ.pass b\/(T k).τ.own b:=λk b hb=>by
  by_cases k1:k=i
  .subst k1;rw[ui] at hb;exact Uw b hb
  .by_cases k2:k=j
   .subst k2;rw[uj] at hb;exact .inl hb
   .rw[uk k k1 k2] at hb;exact .inl hb
 have zns:(λk=>(U k).ph)=bJ (bJ (λk=>(T k).ph) i (.usr li')) j (.usr lj'):=by simp only[U];rw[Y4,Y4]
 have znD:(λk=>(U k).ph.proj)=bJ (bJ (λk=>(T k).ph.proj) i (.run li')) j (.run lj'):=by simp only[U];rw[V8,V8];rfl
 have hp:∀k,(U k).ph=(T k).ph\/(∃l,(U k).ph=.usr l):=λk=>by
  by_cases k1:k=i
  .subst k1;rw[ui];exact .inr ⟨_,rfl⟩
  .by_cases k2:k=j
   .subst k2;rw[uj];exact .inr ⟨_,rfl⟩
   .rw[uk k k1 k2];exact .inl rfl
 refine⟨h.n0,λk hk=>?_,?_,λk hk=>?_,λk hk b=>?_,λx k b eR hb=>?_,λk b hb=>?_,λk b hb=>?_,λk l hk=>?_,λc' b lN=>?_,?_,?_⟩
 .show(U k).ph=_
  rw[uk k aC aC];exact h.ou k hk
 .rcases hp 0 with e|⟨l,e⟩
  .rw[show(bJ (bJ T i ⟨.usr li',ri,τ',gi⟩) j ⟨.usr lj',rj,(T j).τ,gj⟩ 0).ph=(T 0).ph from e];exact h.role0
  .rw[show(bJ (bJ T i ⟨.usr li',ri,τ',gi⟩) j ⟨.usr lj',rj,(T j).τ,gj⟩ 0).ph=.usr l from e];trivial
 .rcases hp k with e|⟨l,e⟩
  .rw[show(bJ (bJ T i ⟨.usr li',ri,τ',gi⟩) j ⟨.usr lj',rj,(T j).τ,gj⟩ k).ph=(T k).ph from e];exact h.role k hk
  .rw[show(bJ (bJ T i ⟨.usr li',ri,τ',gi⟩) j ⟨.usr lj',rj,(T j).τ,gj⟩ k).ph=.usr l from e];exact id
 .have k1:k≠i:=λe=>by subst e;rw[show(bJ (bJ T k ⟨.usr li',ri,τ',gi⟩) j ⟨.usr lj',rj,(T j).τ,gj⟩ k)=_ from ui] at hk;cases hk
  have k2:k≠j:=λe=>by subst e;rw[show(bJ (bJ T i ⟨.usr li',ri,τ',gi⟩) k ⟨.usr lj',rj,(T k).τ,gj⟩ k)=_ from uj] at hk;cases hk
  have e:=uk k k1 k2;show ¬(U k).τ.own b/\_;rw[show(bJ (bJ T i ⟨.usr li',ri,τ',gi⟩) j ⟨.usr lj',rj,(T j).τ,gj⟩ k)=T k from e] at hk⊢;rw[e];exact h.nil k hk b
 .have:=h.sep x k b eR (own x b hb)
  refine⟨λe=>this.1 (own k b e),λe=>this.2.1 (by have e':(U k).τ.still b:=e;rwa [still k] at e'),λe=>(pass k b e).elim this.2.2 this.1⟩
 .have bY:(T k).τ.own b\/(T k).τ.still b:=hb.imp (own k b) λe=>by have e':(U k).τ.still b:=e;rwa [still k] at e'
  have:=h.bnd k b bY;refine⟨aC,this.2.1,?_⟩;have zbn:b∉pub:=λhp=>by
   obtain⟨h1,h2,h3,_⟩:=Ia b hp;by_cases k1:k=i
   .subst k1
    rcases hb with e|e
    .rw[show(bJ (bJ T k ⟨.usr li',ri,τ',gi⟩) j ⟨.usr lj',rj,(T j).τ,gj⟩ k)=_ from ui] at e;exact h2 e
    .rw[show(bJ (bJ T k ⟨.usr li',ri,τ',gi⟩) j ⟨.usr lj',rj,(T j).τ,gj⟩ k)=_ from ui] at e;exact h3 e
   .have s:=h.sep i k b (Ne.symm k1) h1
    exact bY.elim s.1 s.2.1
  rw[Wy zbn];exact this.2.2
 .rcases pass k b hb with e|e
  .have:=h.pas k b e;exact⟨aC,this.2⟩
  .have:=h.bnd k b (.inl e);exact⟨aC,this.2.1⟩
 .by_cases k1:k=i
  .subst k1;rw[show(bJ (bJ T k ⟨.usr li',ri,τ',gi⟩) j ⟨.usr lj',rj,(T j).τ,gj⟩ k)=_ from ui] at hk;simp[Ph.proj] at hk
  .by_cases k2:k=j
   .subst k2;rw[show(bJ (bJ T i ⟨.usr li',ri,τ',gi⟩) k ⟨.usr lj',rj,(T k).τ,gj⟩ k)=_ from uj] at hk;simp[Ph.proj] at hk
   .rw[show(bJ (bJ T i ⟨.usr li',ri,τ',gi⟩) j ⟨.usr lj',rj,(T j).τ,gj⟩ k)=T k from uk k k1 k2] at hk⊢
    exact λaJ lT=>h.depo k l hk aJ ((sf k).trans lT)
 .by_cases nJ:c'∈pub
  .obtain⟨h1,_,_,h4⟩:=Ia c' nJ
   rw[zhH nJ] at lN;have aS:c'≠c:=λe=>by subst e;exact(nc i).1 h1
   exact⟨(h.bnd i c' (.inl h1)).2.1,0,0,by rw[a.block c' aS,<-cS lN];exact h4⟩
  .rw[Wy nJ] at lN
   by_cases tW:c'=c
   .subst tW
    rw[hc] at lN;obtain⟨s,r,hw⟩:=sE;exact⟨Ag,s,r,by rw[hw,<-cS lN]⟩
   .obtain⟨h1,s,r,h2⟩:=h.chan c' b lN
    exact⟨h1,s,r,(a.block c' tW).trans h2⟩
 .show gP A ty Wg (λk=>(U k).ph) n w'
  rw[zns];refine gP.of_block (gP.usr (l:=lj) (gP.usr (l:=li) h.grp hi oT zaz) ?_ Sb Kt) zk8;rw[upd_ne _ _ (Ne.symm rC)];exact hj
 .show A.Inv (λk=>(U k).ph.proj) _
  rw[znD];exact hinv
theorem Stat.fork {n:Nat}{w:aE}{T:Nat->Td L}(h:Stat (ty:=ty) (Wg:=Wg) (A:=A) n w T ch){l lm lc:L}(hl:(T 0).ph=.usr l)(Of:A.pend l=true)(zH:A.pend lm=false)(rm rc:Cp)(gm gc:bE)(τm τc:cI)(pub:List Nat)
 (cY:∀b,τm.own b\/τc.own b->(T 0).τ.own b) (zJB:∀b,τm.still b\/τc.still b->(T 0).τ.still b\/(T 0).τ.own b) (zGD:∀b,τm.pass b\/τc.pass b->(T 0).τ.pass b\/(T 0).τ.own b\/(T 0).τ.still b)
 (yQ:∀b,τm.own b->¬τc.own b/\¬τc.still b/\¬τc.pass b) (yZ:∀b,τc.own b->¬τm.still b/\¬τm.pass b)
 (Ia:∀a∈pub,(T 0).τ.own a/\Kj w a/\¬τm.own a/\¬τm.still a/\¬τc.own a/\¬τc.still a) (hinv:A.Inv (bJ (bJ (λk=>(T k).ph.proj) 0 (.run lm)) n (.run lc)) (ch.opn pub)):
 Stat (ty:=ty) (Wg:=Wg) (A:=A) (n+1) w (bJ (bJ T 0 ⟨.usr lm,rm,τm,gm⟩) n ⟨.usr lc,rc,τc,gc⟩) (ch.opn pub):=by
 have hn:=h.n0;have zdV:(T n).ph=.gone:=h.ou n (bM _);have nn:=h.nil n zdV;generalize hU:bJ (bJ T 0 ⟨.usr lm,rm,τm,gm⟩) n ⟨.usr lc,rc,τc,gc⟩=U;have u0:U 0=⟨.usr lm,rm,τm,gm⟩:=by rw[<-hU,upd_ne _ _ aC,upd_same]
 have un:U n=⟨.usr lc,rc,τc,gc⟩:=by rw[<-hU,upd_same]
 have uk:∀k,k≠0->k≠n->U k=T k:=λk h1 h2=>by rw[<-hU,upd_ne _ _ h2,upd_ne _ _ h1]
 have own:∀k b,(U k).τ.own b->(T k).τ.own b\/(k=n/\(T 0).τ.own b):=λk b hb=>by grind
 have zns:(λk=>(U k).ph)=bJ (bJ (λk=>(T k).ph) 0 (.usr lm)) n (.usr lc):=by rw[<-hU,Y4,Y4]
 have znD:(λk=>(U k).ph.proj)=bJ (bJ (λk=>(T k).ph.proj) 0 (.run lm)) n (.run lc):=by rw[<-hU,V8,V8];rfl
 have sub:∀k b,(U k).τ.own b\/(U k).τ.still b\/(U k).τ.pass b->k=0\/k=n\/(k≠0/\k≠n):=λk b _=>by omega
 refine⟨aC,λk hk=>?_,by rw[u0];trivial,λk hk=>?_,λk hk b=>?_,λx k b eR hb=>?_,λk b hb=>?_,λk b hb=>?_,λk l' hk=>?_,λc' b lN=>?_,?_,by rw[znD];exact hinv⟩
 .rw[uk k aC aC];exact h.ou k aC
 .by_cases k2:k=n
  .subst k2;rw[un];exact id
  .rw[uk k hk k2];exact h.role k hk
 .have k1:k≠0:=λe=>by simp_all
  have k2:k≠n:=λe=>by simp_all
  rw[uk k k1 k2] at hk⊢;exact h.nil k hk b
 .by_cases x1:x=0
  .subst x1
   rw[u0] at hb;have ho:=cY b (.inl hb);by_cases k2:k=n
   .simp_all
   .rw[uk k (Ne.symm eR) k2];exact h.sep 0 k b eR ho
  .by_cases x2:x=n
   .subst x2
    rw[un] at hb;have ho:=cY b (.inr hb);by_cases k1:k=0
    .grind
    .rw[uk k k1 (Ne.symm eR)];exact h.sep 0 k b (Ne.symm k1) ho
   .rw[uk x x1 x2] at hb
    have s0:=h.sep x 0 b x1 hb;by_cases k1:k=0
    .grind
    .by_cases k2:k=n
     .grind
     .rw[uk k k1 k2];exact h.sep x k b eR hb
 .have key:(∃j,(T j).τ.own b\/(T j).τ.still b)/\b∉pub:=by
   by_cases k1:k=0
   .grind
   .by_cases k2:k=n
    .grind
    .rw[uk k k1 k2] at hb
     refine⟨⟨k,hb⟩,λhp=>?_⟩;have:=h.sep 0 k b (Ne.symm k1) (Ia b hp).1;simp_all
  obtain⟨⟨j,hj⟩,zbn⟩:=key;have:=h.bnd j b hj;exact⟨this.1,this.2.1,by rw[Wy zbn];exact this.2.2⟩
 .have key:∃j,(T j).τ.pass b\/(T j).τ.own b\/(T j).τ.still b:=by
   by_cases k1:k=0
   .subst k1;rw[u0] at hb;exact⟨0,zGD b (.inl hb)⟩
   .grind
  obtain⟨j,hj|hj⟩:=key
  .exact h.pas j b hj
  .have:=h.bnd j b hj;omega
 .have k1:k≠0:=λe=>by subst e;rw[u0] at hk;simp[Ph.proj] at hk
  have k2:k≠n:=λe=>by subst e;rw[un] at hk;simp[Ph.proj] at hk
  rw[uk k k1 k2] at hk⊢;exact h.depo k l' hk
 .by_cases nJ:c'∈pub
  .rw[zhH nJ] at lN
   obtain⟨h1,h2,_⟩:=Ia c' nJ;exact⟨(h.bnd 0 c' (.inl h1)).2.1,0,0,by rw[<-cS lN];exact h2⟩
  .rw[Wy nJ] at lN;exact h.chan c' b lN
 .rw[zns]
  refine h.grp.congr (.inr ⟨l,lm,hl,by grind⟩) ?_ λj hj=>?_
  .unfold vv
   have e1:pL (bJ (bJ (λk=>(T k).ph) 0 (.usr lm)) n (.usr lc)) (n+1)=pL (λk=>(T k).ph) n+1:=by
    simp only[pL];rw[zxD _ _ (bM n),zeb,upd_same];simp[Ph.pre];omega
   have e2:Ay A (bJ (bJ (λk=>(T k).ph) 0 (.usr lm)) n (.usr lc))=0:=by
    unfold Ay;rw[upd_ne _ _ aC,upd_same];simp[zH]
   have e3:Ay A (λk=>(T k).ph)=1:=by
    unfold Ay;simp only[hl,Of,if_true]
   omega
  .by_cases j1:j=0
   .subst j1;rw[upd_ne _ _ aC,upd_same] at hj
    have:((T 0).ph).last\/False:=hj;rw[hl] at this;exact(this.elim id id).elim
   .by_cases j2:j=n
    .subst j2;rw[upd_same] at hj
     have:((T j).ph).last\/False:=hj;rw[zdV] at this;exact(this.elim id id).elim
    grind
end
section
variable {L:Type}(P:cD)(ty:aM)(Wg:Nat)(A:jV L)(Fin:bE->aE->Prop)(Shun:rD->Prop)
structure Inv (gs:Array bE)(w:aE)(t:mR)(T:Nat->Td L)(ch:rV):Prop where
 st:Stat (ty:=ty) (Wg:=Wg) (A:=A) gs.size w T ch
 dy:F9 (P:=P) (ty:=ty) (Wg:=Wg) (A:=A) (Fin:=Fin) gs w t T ch Shun
def Q1 (m:Q0)(t:mR):Prop:=
 ∃gs a w sl q,m=crowd gs w sl/\gs[0]? =some a/\a.status=.running/\Fin a w/\zfO P t gs q/\Past (λl=>Shun l\/nO l Wg) w.heap.size t
def wJ (gs:Array bE)(w:aE)(t:mR)(T:Nat->Td L)(sl:Option (Nat×Nat))(i:Nat):Prop:=
 ∃m' ops,runT P (crowd gs w sl) i=(.next m',ops)/\
  (Q1 P Wg Fin Shun m' (t++ops)\/∃gs' w' Mf T' wH,m'=crowd gs' w' Mf/\Inv P ty Wg A Fin Shun gs' w' (t++ops) T' wH/\Mu.lt (mu gs' T') (mu gs T))
end
section
variable {L:Type}{P:cD}{ty:aM}{Wg:Nat}{A:jV L}{Fin:bE->aE->Prop}{Shun:rD->Prop}
variable {gs:Array bE}{w w':aE}{t:mR}{T:Nat->Td L}{ch wH:rV}{sl:Option (Nat×Nat)}{i j:Nat}{x g':bE}{es:Array rQ}
def ztQ (τ:cI)(w:aE)(d:Nat):b8 ty Wg τ w (w.at d):=⟨rfl,rfl,rfl,bM _,λ_ _=>rfl,id⟩
def Inv.at (h:Inv P ty Wg A Fin Shun gs w t T ch)(d:Nat):Inv P ty Wg A Fin Shun gs (w.at d) t T ch:=
 ⟨
  ⟨h.st.n0,h.st.ou,h.st.role0,h.st.role,h.st.nil,h.st.sep,h.st.bnd,h.st.pas,λi l hi aJ s=>h.st.depo i l hi aJ ((ztQ _ w d).trans s),h.st.chan,h.st.grp.of_block rfl,h.st.inv⟩,
  ⟨λi x hi=>(h.dy.sit i x hi).rely (ztQ _ w d),h.dy.slp,h.dy.slpC,h.dy.slpW,h.dy.tr⟩⟩
theorem ziV {p:Nat->Ph L}(h:∀j,j≠0->(p j).pre=false):∀n,pL p n=0
 |0=>rfl
 |n+1=>by
  simp only[pL,ziV h n];simp_all
theorem Inv.some1 (hA:A.Ok)(h:Inv P ty Wg A Fin Shun gs w t T ch):∃(i:Nat) (g:bE),gs[i]? =some g/\g.status=.running:=by
 refine Au λfR=>?_;have hn:∀(i:Nat) (g:bE),gs[i]? =some g->g.status≠ .running:=λi g hg e=>fR ⟨i,g,hg,e⟩;have znm:∀i l,(T i).ph=.usr l->∃g,gs[i]? =some g/\zgl P ty Wg A (i==0) (T i) g w:=by
  intro i l hl;have aT:i<gs.size:=by
   rcases uR i gs.size with x|x
   .exact x
   .have:=h.st.ou i x;simp_all
  refine⟨gs[i],qI aT,?_⟩;have hs:=h.dy.sit i _ (qI aT);rw[qG zjE] at hs;obtain⟨r,_,_,hx|hx|hx⟩:=hs
  .exact absurd hx.1 (hn i _ (qI aT))
  .exact hx
  .have:=hx.1;simp_all
 have Kt:∀i l,(T i).ph.proj=.run l->(T i).ph=.usr l:=by
  intro i l hi;cases yW:(T i).ph<;>rw[yW] at hi<;>simp[Ph.proj] at hi;rw[hi]
 have zEA:∀i l c ok pub nx,(T i).ph=.usr l->A.act l=.send c ok pub nx->∃g v z sh,gs[i]? =some (parked g #[scase c v z] sh):=by
  intro i l c ok pub nx hl ha;obtain⟨g,hg,l',cs,sh,h1,rfl,_,h4|h4⟩:=znm i l hl
  .grind
  .simp_all
 have zzT:∀i l c ok nx s,(T i).ph=.usr l->A.act l=.recv c ok nx s->∃g z sh,gs[i]? =some (parked g #[rcase c z] sh):=by
  intro i l c ok nx s hl ha;obtain⟨g,hg,l',cs,sh,h1,rfl,_,h4|h4⟩:=znm i l hl
  .simp_all
  .grind
 have hb:∀i l,(T i).ph.proj=.run l->A.Blocked (λi=>(T i).ph.proj) ch l:=by
  intro i l hi;have hl:=Kt i l hi;obtain⟨g,hg,l',cs,sh,h1,rfl,_,h4⟩:=znm i l hl;rw[hl] at h1;injection h1 with h1;subst h1;unfold jV.Blocked;rcases h4 with⟨c,ok,pub,nx,v,z,h5,h6,_⟩|⟨c,ok,nx,s,z,b,h5,h6,_⟩
  .rw[h5]
   rintro⟨j,l',sP,pX,x6,hj,qR⟩;obtain⟨gj,zj,zIW,zbE⟩:=zzT j l' c sP pX x6 (Kt j l' hj) qR;subst h6;exact h.dy.slp i j _ _ _ _ _ _ _ _ hg zbE
  .rw[h5]
   subst h6;refine⟨?_,?_⟩
   .obtain⟨b',bY⟩:=hA.recvC _ ch i l c ok nx s h.st.inv hi h5
    cases b'
    .exact bY
    .exact absurd bY (h.dy.slpC i _ _ _ _ hg)
   .rintro⟨j,l',sP,Xj,pX,hj,qR⟩
    obtain⟨gj,vj,zj,zIW,zbE⟩:=zEA j l' c sP Xj pX (Kt j l' hj) qR;exact h.dy.slp j i _ _ _ _ _ _ _ _ zbE hg
 obtain⟨Mx,E8⟩:=hA.prog _ ch h.st.inv hb;have hq:∀j,j≠0->(T j).ph.leaves:=by
  intro j hj;refine Au λhl=>?_;have aT:j<gs.size:=by
   rcases uR j gs.size with x|x
   .exact x
   .exact absurd (by rw[h.st.ou j x];trivial) hl
  have hs:=h.dy.sit j _ (qI aT);rw[qG hl] at hs;obtain⟨r,_,_,hx|hx|hx⟩:=hs
  .exact hn j _ (qI aT) hx.1
  .obtain⟨l,_,_,h1,_⟩:=hx
   exact E8 j l (by show(T j).ph.proj=_;rw[h1];rfl)
  .have:=h.st.role j hj;rw[hx.1] at this;exact this trivial
 have h0:=h.dy.sit 0 _ (qI h.st.n0);have zmW:¬(T 0).ph.leaves:=λe=>by
  have:=h.st.role0;cases hp:(T 0).ph<;>rw[hp] at e this<;>first|exact e.elim|exact this.elim
 rw[qG zmW] at h0;obtain⟨r,_,_,hx|hx|hx⟩:=h0
 .exact hn 0 _ (qI h.st.n0) hx.1
 .obtain⟨l,_,_,h1,_⟩:=hx
  have:(T 0).ph.proj=.waits:=Mx;rw[h1] at this;cases this
 .have hg:=h.st.grp
  unfold gP at hg;simp only[hx.1] at hg;have zCP:∀i,¬(T i).ph.last:=λi e=>by
   by_cases hi:i=0
   .subst hi;rw[hx.1] at e;exact e
   .have:=hq i hi
    cases hp:(T i).ph<;>rw[hp] at e this<;>first|exact e.elim|exact this.elim
  have hv:vv A (λi=>(T i).ph) gs.size=0:=by
   unfold vv Ay;simp only[hx.1,Nat.add_zero];refine ziV (λj hj=>?_) _;have:=hq j hj;cases hp:(T j).ph<;>rw[hp] at this<;>first|exact this.elim|rfl
  rcases hg with⟨a,_⟩|⟨_,i,l,_,hc⟩|⟨_,_,hc⟩
  .omega
  .refine zCP i ?_
   rcases hc with⟨c|c,_⟩|⟨c,_⟩<;>rw[c]<;>trivial
  .exact h.dy.slpW _ (qI h.st.n0) hx.1 (by rw[hx.2.1]) hc
theorem Inv.awake (h:Inv P ty Wg A Fin Shun gs w t T ch):∀g∈gs,Conc.awake g:=by
 intro g hg;obtain⟨i,hi,rfl⟩:=zu1.1 hg;have:=(h.dy.sit i _ (qI hi)).status;intro t e;simp_all
theorem Vv (hi:gs[i]? =some x)(hn:0<gs.size){Ti:Td L}(vV:stepG P (i==0) x w=.go g' w' es)(hr:Cl Ti.r (T i).r)
 (hS:Stat (ty:=ty) (Wg:=Wg) (A:=A) gs.size w' (bJ T i Ti) wH)
 (hD:F9 (P:=P) (ty:=ty) (Wg:=Wg) (A:=A) (Fin:=Fin) ((gs.map (woken P x g' w')).setIfInBounds i g') w' (t++wW i x.frame.fn x.frame.place es) (bJ T i Ti) wH Shun):wJ P ty Wg A Fin Shun gs w t T sl i:=by
 have aT:=(eM.1 hi).1;have cP:((gs.map (woken P x g' w')).setIfInBounds i g').size=gs.size:=aQ;refine⟨_,_,zdU hi vV,.inr ⟨_,_,sl,bJ T i Ti,wH,rfl,⟨by rw[cP];exact hS,hD⟩,Yz (i:=i) (λ_=>cP) aC aT aC (by rw[upd_same];exact hr) λj hj=>by rw[upd_ne _ _ aC]⟩⟩
theorem Stat.tiEvents {n:Nat}(hS:Stat (ty:=ty) (Wg:=Wg) (A:=A) n w T ch)(oT:i<n)(hl:(T i).ph.live)(fn:aP)(pos:String)
 (h:TI Wg n (λk=>(T k).τ.own) (λk b=>(T k).τ.still b\/(T k).τ.pass b) (λk=>(T k).ph.live) Shun w.heap.size t)
 (yS:∀e∈es,OkL Wg (T i).τ.own (λb=>(T i).τ.still b\/(T i).τ.pass b) i w.heap.size e):
 TI Wg n (λk=>(T k).τ.own) (λk b=>(T k).τ.still b\/(T k).τ.pass b) (λk=>(T k).ph.live) Shun w.heap.size (t++wW i fn pos es):=by
 obtain⟨l⟩:=es;refine TI.events (live:=λk=>(T k).ph.live) (k:=i) hl oT (λk' b _ aS hb=>?_) (λk' b _ aS hb ho=>?_) (λk' _=>⟨λe=>(hS.bnd k' Wg (.inl e)).2.1 rfl,λe=>e.elim (λe=>(hS.bnd k' Wg (.inr e)).2.1 rfl) λe=>(hS.pas k' Wg e).2 rfl⟩) fn pos l h λe he=>yS e (by simpa using he)
 .have:=hS.sep i k' b (Ne.symm aS) hb
  simp_all
 .have:=hS.sep k' i b aS ho
  simp_all
def Stat.noWg {n:Nat}(hS:Stat (ty:=ty) (Wg:=Wg) (A:=A) n w T ch):∀k',(T k').ph.live->¬(T k').τ.own Wg/\¬((T k').τ.still Wg\/(T k').τ.pass Wg):=
 λk' _=>⟨λe=>(hS.bnd k' Wg (.inl e)).2.1 rfl,λe=>e.elim (λe=>(hS.bnd k' Wg (.inr e)).2.1 rfl) λe=>(hS.pas k' Wg e).2 rfl⟩
def F9.keepC (h:F9 (P:=P) (ty:=ty) (Wg:=Wg) (A:=A) (Fin:=Fin) gs w t T ch Shun):∀(j:Nat) (gj:bE) (c:Nat) (z:aF) (sh:Nz),gs[j]? =some (parked gj #[rcase c z] sh)->woken P x g' w' (parked gj #[rcase c z] sh)=parked gj #[rcase c z] sh->ch c≠some true:=
 λj gj c z sh hj _=>h.slpC j gj c z sh hj
def F9.keepW (h:F9 (P:=P) (ty:=ty) (Wg:=Wg) (A:=A) (Fin:=Fin) gs w t T ch Shun)(e:jL ty Wg w' 0 1->jL ty Wg w 0 1):i≠0->∀x0,gs[0]? =some x0->(T 0).ph=.w3->x0.status=.blocked->(woken P x g' w' x0).status=.blocked->¬jL ty Wg w' 0 1:=
 λ_ x0 h0 h1 h2 _ h4=>h.slpW x0 h0 h1 h2 (e h4)
theorem Inv.leaver (h:Inv P ty Wg A Fin Shun gs w t T ch)(hi:gs[i]? =some x)(cO:x.status=.running)(hl:(T i).ph.leaves):wJ P ty Wg A Fin Shun gs w t T sl i:=by
 have hs:=h.dy.sit i x hi;rw[Il hl] at hs;obtain⟨q,hq,hQ⟩:=hs;have eY:i≠0:=λe=>by
  subst e;have:=h.st.role0;cases hp:(T 0).ph<;>rw[hp] at hl this<;>first|exact hl.elim|exact this.elim
 have aT:i<gs.size:=(eM.1 hi).1
 cases q with
 |zero=>rw[hQ.1] at cO;cases cO
 |succ k=>
  rcases hQ with⟨hf,_⟩|⟨_,g',es,hm,aX,hQ'⟩
  .simp_all
  have vV:stepG P (i==0) x w=.go g' w es:=by
   have:(i==0)=false:=by simpa using eY
   rw[this];exact aX w
  have hp:∀j,(bJ T i ⟨(T i).ph,.inl k,(T i).τ,g'⟩ j).ph=(T j).ph:=λj=>by
   by_cases hj:j=i
   .subst hj;simp[upd_same]
   .simp[upd_ne _ _ hj]
  have ht:∀j,(bJ T i ⟨(T i).ph,.inl k,(T i).τ,g'⟩ j).τ=(T j).τ:=λj=>by
   by_cases hj:j=i
   .subst hj;simp[upd_same]
   .simp[upd_ne _ _ hj]
  refine Vv hi h.st.n0 (Ti:=⟨(T i).ph,.inl k,(T i).τ,g'⟩) vV (by rw[hq];exact .inl (Nat.lt_succ_self k)) (h.st.same hp ht) ?_;refine h.dy.go hi ((Il (T:=⟨(T i).ph,.inl k,(T i).τ,g'⟩) hl).2 ⟨k,rfl,hQ'⟩) (by rcases hQ'.status with e|e<;>rw[e]<;>simp) (λj _=>b8.refl) h.dy.keepC (h.dy.keepW id) ?_;have e1:(λk'=>(bJ T i ⟨(T i).ph,.inl k,(T i).τ,g'⟩ k').τ.own)=λk'=>(T k').τ.own:=funext λj=>by rw[ht]
  have e2:(λk' b=>(bJ T i ⟨(T i).ph,.inl k,(T i).τ,g'⟩ k').τ.still b\/(bJ T i ⟨(T i).ph,.inl k,(T i).τ,g'⟩ k').τ.pass b)=λk' b=>(T k').τ.still b\/(T k').τ.pass b:=funext λj=>by rw[ht]
  have e3:(λk'=>(bJ T i ⟨(T i).ph,.inl k,(T i).τ,g'⟩ k').ph.live)=λk'=>(T k').ph.live:=funext λj=>by rw[hp]
  rw[e1,e2,e3];exact h.dy.tr.mutes aT h.st.noWg _ _ hm
theorem Inv.ownG {K:Bool->Ph L->Nat->cI->bE->aE->Prop}(h:Inv P ty Wg A Fin Shun gs w t T ch)(hi:gs[i]? =some x)(dP:mE x (T i).g)(hl:(T i).ph.live){ι:Type}{f:ι->Rk}(hr:(T i).r=.inr (.mk ι f))
 (hK:∀m ph d τ g w,K m ph d τ g w->∃k,pJ P ty Wg A Fin (f k) m ph d τ g w) (ho:GoG P Wg K (i==0) (T i).ph (gY t i) (T i).τ (T i).g w):wJ P ty Wg A Fin Shun gs w t T sl i:=by
 have aT:i<gs.size:=(eM.1 hi).1;obtain⟨g',w',es,aX,mH,hg,yS,hk⟩:=ho;obtain⟨k,hB⟩:=hK _ _ _ _ _ _ hk;have pI:¬(T i).ph.leaves:=λe=>by cases hp:(T i).ph<;>rw[hp] at e hl<;>first|exact e.elim|exact hl.elim
 have hS:=h.st.grow hl hg (.inr (f k)) g';refine Vv hi h.st.n0 (Ti:=⟨(T i).ph,.inr (f k),(T i).τ.grow w w',g'⟩) zdk Pc hS ?_
 refine h.dy.go hi ((qG (T:=⟨(T i).ph,.inr (f k),(T i).τ.grow w w',g'⟩) pI).2 ⟨f k,rfl,hB,.inl (mE.self mH)⟩) L9 (λj hj=>h.st.suf hg hj) h.dy.keepC
  (h.dy.keepW λe=>(hg.keep Wg h.st.grp.live.lt λe=>((h.st.bnd i Wg (.inl e)).2.1 rfl)).symm.trans e) ?_
 have hp:∀j,(bJ T i ⟨(T i).ph,.inr (f k),(T i).τ.grow w w',g'⟩ j).ph=(T j).ph:=λj=>by
  by_cases hj:j=i
  .subst hj;simp[upd_same]
  .simp[upd_ne _ _ hj]
 have Rc:bJ T i ⟨(T i).ph,.inr (f k),(T i).τ.grow w w',g'⟩ i=⟨(T i).ph,.inr (f k),(T i).τ.grow w w',g'⟩:=upd_same _ _ _;refine hS.tiEvents aT (by rw[hp];exact hl) _ _ ?_ λe he=>?_
 .have e3:(λk'=>(bJ T i ⟨(T i).ph,.inr (f k),(T i).τ.grow w w',g'⟩ k').ph.live)=λk'=>(T k').ph.live:=funext λj=>by rw[hp]
  rw[e3];refine h.dy.tr.less (λk' b _ hb=>?_) (λk' b _ hb=>?_) hg.size
  .by_cases hj:k'=i
   .subst hj;rw[upd_same] at hb;exact hb.imp id (·.1)
   .rw[upd_ne _ _ hj] at hb;exact .inl hb
  .by_cases hj:k'=i
   .subst hj;rw[upd_same] at hb;exact .inl hb
   .rw[upd_ne _ _ hj] at hb;exact .inl hb
 .rw[Rc]
  refine okL_evT (yS e he) (λb hb=>.inl hb) (λb hb=>?_) (by have:=h.st.grp.live.lt;have:=hg.size;omega);have:=hS.bnd i b (by rw[Rc];exact hb);omega
end
section
variable {L:Type}{P:cD}{ty:aM}{Wg:Nat}{A:jV L}{Fin:bE->aE->Prop}{Shun:rD->Prop}
variable {gs:Array bE}{w w':aE}{t:mR}{T:Nat->Td L}{ch wH:rV}{sl:Option (Nat×Nat)}{i j:Nat}{x g':bE}{es:Array rQ}
theorem zhy (T:Nat->Td L)(i:Nat)(ph':Ph L)(r:Cp)(g':bE)(j:Nat):(bJ T i ⟨ph',r,(T i).τ,g'⟩ j).τ=(T j).τ:=by
 by_cases hj:j=i
 .subst hj;simp[upd_same]
 .simp[upd_ne _ _ hj]
theorem zAj (T:Nat->Td L)(i:Nat){ph':Ph L}(r:Cp)(τ:cI)(g':bE)(h:ph'.live↔(T i).ph.live):(λk=>(bJ T i ⟨ph',r,τ,g'⟩ k).ph.live)=λk=>(T k).ph.live:=by
 funext j;by_cases hj:j=i
 .subst hj;simp[upd_same,h]
 .simp[upd_ne _ _ hj]
theorem TI.phase {n B:Nat}{ph':Ph L}(r:Cp)(g':bE)(h:TI Wg n (λk=>(T k).τ.own) (λk b=>(T k).τ.still b\/(T k).τ.pass b) (λk=>(T k).ph.live) Shun B t)(hl:ph'.live↔(T i).ph.live):
 TI Wg n (λk=>(bJ T i ⟨ph',r,(T i).τ,g'⟩ k).τ.own) (λk b=>(bJ T i ⟨ph',r,(T i).τ,g'⟩ k).τ.still b\/(bJ T i ⟨ph',r,(T i).τ,g'⟩ k).τ.pass b) (λk=>(bJ T i ⟨ph',r,(T i).τ,g'⟩ k).ph.live) Shun B t:=by
 have e1:(λk'=>(bJ T i ⟨ph',r,(T i).τ,g'⟩ k').τ.own)=λk'=>(T k').τ.own:=funext λj=>by rw[zhy]
 have e2:(λk' b=>(bJ T i ⟨ph',r,(T i).τ,g'⟩ k').τ.still b\/(bJ T i ⟨ph',r,(T i).τ,g'⟩ k').τ.pass b)=λk' b=>(T k').τ.still b\/(T k').τ.pass b:=funext λj=>by rw[zhy]
 rw[e1,e2,zAj T i r _ g' hl];exact h
theorem Inv.alive (h:Inv P ty Wg A Fin Shun gs w t T ch)(hi:gs[i]? =some x)(dP:mE x (T i).g)(aX:stepG P (i==0) (T i).g w=.go g' w' es)(mH:g'.status=.running){ι:Type}{f:ι->Rk}(hr:(T i).r=.inr (.mk ι f))
 (hl:(T i).ph.live) {ph':Ph L} (Aw:ph'.live) (a:M7 Wg w w') (Pb:WgLive ty Wg w->WgLive ty Wg w')
 (hK:∃k,pJ P ty Wg A Fin (f k) (i==0) ph' (oN (gY t i) es) (T i).τ g' w') (h1:i≠0->¬ph'.waits)
 (B8:gP A ty Wg (bJ (λj=>(T j).ph) i ph') gs.size w') (hinv:A.Inv (bJ (λj=>(T j).ph.proj) i ph'.proj) ch) (hW:jL ty Wg w' 0 1->jL ty Wg w 0 1)
 (yS:∀e∈es,OkL Wg (T i).τ.own (λb=>(T i).τ.still b\/(T i).τ.pass b) i w'.heap.size e):wJ P ty Wg A Fin Shun gs w t T sl i:=by
 have aT:i<gs.size:=(eM.1 hi).1;obtain⟨k,hB⟩:=hK;have pI:¬ph'.leaves:=λe=>by cases ph'<;>first|exact e.elim|exact Aw.elim
 have Cs:(T i).ph≠ .gone:=λe=>by rw[e] at hl;exact hl
 have hS:=h.st.phase (r:=.inr (f k)) (g':=g') Cs aT a ph' (λe=>by rw[e] at Aw;exact Aw) (λ_=>Aw) h1 Pb (λl e=>by cases ph'<;>simp_all [Ph.proj,Ph.live]) B8 hinv;have Rc:bJ T i ⟨ph',.inr (f k),(T i).τ,g'⟩ i=⟨ph',.inr (f k),(T i).τ,g'⟩:=upd_same _ _ _;refine Vv hi h.st.n0 (Ti:=⟨ph',.inr (f k),(T i).τ,g'⟩) zdk Pc hS ?_
 refine h.dy.go hi ((qG (T:=⟨ph',.inr (f k),(T i).τ,g'⟩) pI).2 ⟨f k,rfl,hB,.inl (mE.self mH)⟩) L9
  (λj _=>b8.of_aside a ⟨λe=>(h.st.bnd j Wg (.inl e)).2.1 rfl,λe=>(h.st.bnd j Wg (.inr e)).2.1 rfl⟩ Pb) h.dy.keepC (h.dy.keepW hW) ?_
 refine hS.tiEvents aT (by rw[Rc];exact Aw) _ _ ?_ λe he=>?_
 .have:=h.dy.tr.phase (i:=i) (ph':=ph') (.inr (f k)) g' ⟨λ_=>hl,λ_=>Aw⟩
  rwa [a.size]
 .rw[Rc];exact yS e he
theorem Inv.dead (h:Inv P ty Wg A Fin Shun gs w t T ch)(hi:gs[i]? =some x)(dP:mE x (T i).g)(aX:stepG P (i==0) (T i).g w=.go g' w' es)(oI:g'.status≠ .blocked){Ti:Td L}(hr:Cl Ti.r (T i).r)(hτ:Ti.τ=(T i).τ)
 (hl:¬(T i).ph.live) (hg:(T i).ph≠ .gone) (h0:i≠0) (Aw:¬Ti.ph.live) (yT:Ti.ph≠ .gone) (a:M7 Wg w w') (Pb:WgLive ty Wg w->WgLive ty Wg w')
 (zlz:Sits P ty Wg A Fin i Ti (oN (gY t i) es) g' w') (za0:Ti.ph.proj=(T i).ph.proj)
 (B8:gP A ty Wg (bJ (λj=>(T j).ph) i Ti.ph) gs.size w') (hW:(mayWake P (T i).g=true/\g'.status=.running)\/(jL ty Wg w' 0 1->jL ty Wg w 0 1))
 (yS:∀(l r:List rQ) (e:rQ),es.toList=l++e::r->(∀a,(jU e).touch? =some a->nO a.loc Wg/\a.kind=.atomic/\0<oN (gY t i) l.toArray)/\jU e≠ .mark (.release (stA Wg))/\(jU e).low w'.heap.size):wJ P ty Wg A Fin Shun gs w t T sl i:=by
 have aT:=(eM.1 hi).1;obtain⟨ph',r',τ',Sw⟩:=Ti;simp only at hτ Aw yT za0 B8 hr;subst hτ;have Kt:bJ (λj=>(T j).ph.proj) i ph'.proj=λj=>(T j).ph.proj:=by rw[za0];exact zeJ (λj=>(T j).ph.proj) i
 have hS:=h.st.phase (r:=r') (g':=Sw) hg aT a ph' yT (λe=>absurd e h0) (λ_ e=>by cases ph'<;>first|exact e.elim|exact Aw e) Pb (λl e=>.inl (by rw[<-za0];exact e)) B8 (by rw[Kt];exact h.st.inv);refine Vv hi h.st.n0 (Ti:=⟨ph',r',(T i).τ,Sw⟩) zdk hr hS ?_
 refine h.dy.go hi zlz oI
  (λj _=>b8.of_aside a ⟨λe=>(h.st.bnd j Wg (.inl e)).2.1 rfl,λe=>(h.st.bnd j Wg (.inr e)).2.1 rfl⟩ Pb) h.dy.keepC ?_ ?_
 .intro eY x0 tX yW hb cT
  rcases hW with⟨hm,zL⟩|hW
  .exfalso
   have hs:=h.dy.sit 0 x0 tX;rw[qG (by rw[yW];exact id)] at hs;obtain⟨_,_,_,hx|⟨_,_,_,hx,_⟩|⟨_,hx,ho⟩⟩:=hs
   .rw[hx.1] at hb;cases hb
   .rw[yW] at hx;cases hx
   .have zeN:mayWake P x=true:=by
     rw[<-hm];unfold mayWake;rw[dP.2.1]
    rw[hx] at cT;unfold woken at cT;rw[zeN,zL] at cT;simp[zfk,ho] at cT
  .exact h.dy.slpW x0 tX yW hb∘hW
 .have h1:=h.dy.tr.phase (i:=i) (ph':=ph') r' Sw ⟨λe=>absurd e Aw,λe=>absurd e hl⟩
  have h2:TI Wg gs.size (λk=>(bJ T i ⟨ph',r',(T i).τ,Sw⟩ k).τ.own) (λk b=>(bJ T i ⟨ph',r',(T i).τ,Sw⟩ k).τ.still b\/(bJ T i ⟨ph',r',(T i).τ,Sw⟩ k).τ.pass b) (λk=>(bJ T i ⟨ph',r',(T i).τ,Sw⟩ k).ph.live) Shun w'.heap.size t:=by rwa [a.size]
  have:=h2.deafs (k:=i) aT hS.noWg x.frame.fn x.frame.place es.toList yS;simpa using this
theorem zpy {n B d:Nat}{es:Array rQ}(hm:∀e∈es,zhw e=true):∀(l r:List rQ) (e:rQ),es.toList=l++e::r->(∀a,(jU e).touch? =some a->nO a.loc Wg/\a.kind=.atomic/\0<oN d l.toArray)/\jU e≠ .mark (.release (stA Wg))/\(jU e).low B:=by
 intro l r e he;have zhn:=hm e (by rw[<-Array.mem_toList_iff,he];simp);have:=ze1 (Wg:=Wg) (own:=λ_=>False) (pas:=λ_=>False) (k:=0) (B:=B) zhn;exact⟨λa ha=>(by rw[znb zhn] at ha;cases ha),this.2.1,this.2.2⟩
theorem Inv.idle1 {K:Bool->Ph L->Nat->cI->bE->aE->Prop}(h:Inv P ty Wg A Fin Shun gs w t T ch)(hi:gs[i]? =some x)(dP:mE x (T i).g)(hl:¬(T i).ph.live)(pI:¬(T i).ph.leaves){ι:Type}{f:ι->Rk}(hr:(T i).r=.inr (.mk ι f))
 (hK:∀m ph d τ g w,K m ph d τ g w->∃k,pJ P ty Wg A Fin (f k) m ph d τ g w) (ho:zc8 P ty Wg K (i==0) (T i).ph (gY t i) (T i).τ (T i).g w):wJ P ty Wg A Fin Shun gs w t T sl i:=by
 obtain⟨g',es,aX,mH,hm,hk⟩:=ho w b8.refl;obtain⟨k,hB⟩:=hK _ _ _ _ _ _ hk;have h0:i≠0:=λe=>by subst e;exact hl h.st.role0
 have Cs:(T i).ph≠ .gone:=λe=>by rw[e] at pI;exact pI trivial
 have eu:=zeJ (λj=>(T j).ph) i
 exact h.dead hi dP aX L9 (Ti:=⟨(T i).ph,.inr (f k),(T i).τ,g'⟩) Pc rfl hl Cs h0 hl Cs (Oq _ _) id
  ((qG (T:=⟨(T i).ph,.inr (f k),(T i).τ,g'⟩) pI).2 ⟨f k,rfl,hB,.inl (mE.self mH)⟩) rfl (by rw[eu];exact h.st.grp) (.inr id) (zpy (n:=0) hm)
theorem Inv.release (hA:A.Ok)(h:Inv P ty Wg A Fin Shun gs w t T ch)(hi:gs[i]? =some x)(dP:mE x (T i).g)(aX:stepG P (i==0) (T i).g w=.go g' w #[o5 (.releaseMerge (stA Wg))])(mH:g'.status=.running){ι:Type}{f:ι->Rk}(hr:(T i).r=.inr (.mk ι f))
 {l:L} (hl:(T i).ph=.usr l) (q8:A.act l=.done) (hd:gY t i=0) (uI:∀aJ,b8 ty Wg (T i).τ w aJ->A.dep l aJ)
 (hK:∃k,pJ P ty Wg A Fin (f k) (i==0) (.rel l) 0 (T i).τ g' w):wJ P ty Wg A Fin Shun gs w t T sl i:=by
 have aT:=(eM.1 hi).1;obtain⟨k,hB⟩:=hK;obtain⟨h0,hinv⟩:=hA.done _ ch i l h.st.inv (by show(T i).ph.proj=_;rw[hl];rfl) q8;have B8:gP A ty Wg (bJ (λj=>(T j).ph) i (.rel l)) gs.size w:=by
  refine h.st.grp.congr (.inl (upd_ne _ _ (Ne.symm h0))) ?_ λj hj=>?_
  .unfold vv
   rw[zgQ A _ h0];have:=zgL (λj=>(T j).ph) (i:=i) (n:=gs.size) (.rel l) aT h0;simp only[hl,Ph.pre,if_true] at this;omega
  .by_cases fO:j=i
   .subst fO;rw[upd_same] at hj
    have:=hj;rw[hl] at this;exact(this.elim id id).elim
   .exact upd_ne _ _ fO
 have hS:=h.st.phase (r:=.inr (f k)) (g':=g') (by rw[hl];simp) aT (Oq _ _) (.rel l) aQ (λe=>absurd e h0) (λ_ e=>e) id (λl' e=>.inr (by
  simp only[Ph.proj,Pj.over.injEq] at e;subst e;exact uI)) B8 hinv
 refine Vv hi h.st.n0 (Ti:=⟨.rel l,.inr (f k),(T i).τ,g'⟩) zdk Pc hS ?_;refine h.dy.go hi ((qG (T:=⟨.rel l,.inr (f k),(T i).τ,g'⟩) (by exact id)).2 ⟨f k,rfl,?_,.inl (mE.self mH)⟩) L9 (λj _=>b8.refl) h.dy.keepC (h.dy.keepW id) ?_
 .have:oN (gY t i) #[o5 (.releaseMerge (stA Wg))]=0:=by rw[hd];rfl
  rw[this];exact hB
 .have e1:(λk'=>(bJ T i ⟨.rel l,.inr (f k),(T i).τ,g'⟩ k').τ.own)=λk'=>(T k').τ.own:=funext λj=>by rw[zhy]
  have e2:(λk' b=>(bJ T i ⟨.rel l,.inr (f k),(T i).τ,g'⟩ k').τ.still b\/(bJ T i ⟨.rel l,.inr (f k),(T i).τ,g'⟩ k').τ.pass b)=λk' b=>(T k').τ.still b\/(T k').τ.pass b:=funext λj=>by rw[zhy]
  rw[e1,e2];have nH:wW i x.frame.fn x.frame.place #[o5 (.releaseMerge (stA Wg))]=#[{g:=i,fn:=x.frame.fn,pos:=x.frame.place,act:=.mark (.releaseMerge (stA Wg))}]:=by simp[wW,o5,jU]
  rw[nH];refine h.dy.tr.release aT rfl rfl hd h.st.grp.live.lt (λj hj=>?_) λj hj=>?_
  .by_cases fO:j=i
   .subst fO;rw[upd_same] at hj;exact hj.elim
   .rw[upd_ne _ _ fO] at hj;exact hj
  .by_cases fO:j=i
   .exact .inr fO
   .left;rw[upd_ne _ _ fO];exact hj
theorem Inv.acquire (h:Inv P ty Wg A Fin Shun gs w t T ch)(hi:gs[0]? =some x)(dP:mE x (T 0).g)(aX:stepG P true (T 0).g w=.go g' w #[o5 (.acquire (stA Wg))])(mH:g'.status=.running)(hd:gY t 0=0)
 (hq:∀j,j≠0->(T j).ph.leaves) (hF:Fin g' w):wJ P ty Wg A Fin Shun gs w t T sl 0:=by
 have aT:0<gs.size:=h.st.n0;have Ol:stepG P (0==0) x w=.go g' w #[o5 (.acquire (stA Wg))]:=by rw[show((0:Nat)==0)=true from rfl,dP.step];exact aX
 refine⟨_,_,zdU hi Ol,.inl ⟨_,g',w,sl,λj=>match(T j).r with| .inl q=>q|_=>0,rfl,by simp[aT],mH,hF,?_⟩⟩;have nH:wW 0 x.frame.fn x.frame.place #[o5 (.acquire (stA Wg))]=#[{g:=0,fn:=x.frame.fn,pos:=x.frame.place,act:=.mark (.acquire (stA Wg))}]:=by simp[wW,o5,jU]
 rw[nH]
 obtain⟨hP,qY⟩:=h.dy.tr.acquire (y:={g:=0,fn:=x.frame.fn,pos:=x.frame.place,act:=.mark (.acquire (stA Wg))}) aT rfl rfl hd h.st.grp.live.lt (λj hj=>by
  refine Au λaS=>?_;have:=hq j aS;have qR:(T j).ph.live:=hj;cases hp:(T j).ph<;>rw[hp] at this qR<;>first|exact this.elim|exact qR.elim)
 refine⟨⟨λj y hj hy=>?_,λj hj=>qY j Zh⟩,hP⟩;have aS:0≠j:=aC;rw[tY aS,Dw] at hy;obtain⟨y0,zdl,rfl⟩:=At.1 hy;have hs:=h.dy.sit j y0 zdl;rw[Il (hq j aC)] at hs;obtain⟨q,Kr,hQ⟩:=hs;rw[zbf hQ,Q3 t (g:=j) (g':=0) aS _ (λop hop=>by simp at hop;rw[hop])];simp_all
end
end Go.Mt
namespace Go.Mt
open Go.Conc
open Go.ConcR (KK wgBlock WgAt stA smA rd wr)
section
variable {L:Type}{P:cD}{ty:aM}{Wg:Nat}{A:jV L}{Fin:bE->aE->Prop}{Shun:rD->Prop}
variable {gs gs':Array bE}{w w':aE}{t t':mR}{T T':Nat->Td L}{ch wH:rV}{sl:Option (Nat×Nat)}{i j:Nat}{x g':bE}{es:Array rQ}
theorem F9.gen (h:F9 (P:=P) (ty:=ty) (Wg:=Wg) (A:=A) (Fin:=Fin) gs w t T ch Shun)(M:Nat->Prop)(zvH:∀j,¬M j->gs'[j]? =gs[j]? /\T' j=T j)
 (zAY:∀j y,M j->gs'[j]? =some y->y.status≠ .blocked/\Sits P ty Wg A Fin j (T' j) (gY t' j) y w') (zjy:∀j,¬M j->b8 ty Wg (T j).τ w w') (zHJ:∀j,¬M j->gY t' j=gY t j)
 (uC:∀c,wH c=some true->ch c=some true) (hW:jL ty Wg w' 0 1->jL ty Wg w 0 1)
 (zmo:TI Wg gs'.size (λk=>(T' k).τ.own) (λk b=>(T' k).τ.still b\/(T' k).τ.pass b) (λk=>(T' k).ph.live) Shun w'.heap.size t'):
 F9 (P:=P) (ty:=ty) (Wg:=Wg) (A:=A) (Fin:=Fin) gs' w' t' T' wH Shun:=by
 have old:∀(j:Nat) (g:bE) (cs:Array zmS) (sh:Nz),gs'[j]? =some (parked g cs sh)->gs[j]? =some (parked g cs sh):=by
  intro j g cs sh hj;by_cases hm:M j
  .exact absurd rfl (zAY j _ hm hj).1
  .simp_all
 refine⟨λj y hj=>?_,λa b ga gb c v z z' sh x6 ha hb=>h.slp a b ga gb c v z z' sh x6 (old _ _ _ _ ha) (old _ _ _ _ hb),λj g c z sh hj hc=>h.slpC j g c z sh (old _ _ _ _ hj) (uC c hc),λy hy yW hb=>?_,zmo⟩
 .by_cases hm:M j
  .simp_all
  .obtain⟨h1,h2⟩:=zvH j hm
   rw[h2,zHJ j hm];rw[h1] at hj;exact(h.sit j y hj).rely (zjy j hm)
 .by_cases hm:M 0
  .grind
  .obtain⟨h1,h2⟩:=zvH 0 hm
   rw[h1] at hy;rw[h2] at yW;exact λe=>h.slpW y hy yW hb (hW e)
theorem zmX (t:mR)(g:Nat)(u:mR)(hu:∀op∈u,op.act≠ .mark .disable/\op.act≠ .mark .enable):gY (t++u) g=gY t g:=by
 obtain⟨l⟩:=u;rw[Deaf_append];have key:∀(l:List Rg) (d:Nat),(∀op∈l,op.act≠ .mark .disable/\op.act≠ .mark .enable)->l.foldl (deafStep g) d=d:=by
  intro l
  induction l with
  |nil=>intro d _;rfl
  |cons y l ih=>
   intro d hl;have e:deafStep g d y=d:=by
    have:=hl y aQ;unfold deafStep;split<;>simp_all
   simp_all
 simp_all
theorem TI.idles {n B:Nat}{own pas:Nat->Nat->Prop}{live:Nat->Prop}:∀(u:List Rg) {t:mR},TI Wg n own pas live Shun B t->(∀op∈u,op.g<n/\op.act.touch? =none/\op.act≠ .mark (.release (stA Wg))/\op.act.low B)->TI Wg n own pas live Shun B (t++u.toArray)
 |[],t,h,_=>by simpa using h
 |y::u,t,h,hu=>by
  have e1:t++(y::u).toArray=(t++ #[y])++u.toArray:=by apply La;simp
  rw[e1];obtain⟨h1,h2,h3,h4⟩:=hu y aQ;exact TI.idles u (h.idle h1 (λa ha=>by rw[h2] at ha;cases ha) h3 h4) λop hop=>hu op (by simp[hop])
theorem Inv.offerR (h:Inv P ty Wg A Fin Shun gs w t T ch){k c:Nat}{y:bE}(hk:gs[k]? =some y)(aS:offersAt y c false≠[]):
 ∃l ok nx s z b,(T k).ph=.usr l/\A.act l=.recv c ok nx s/\y=parked (T k).g #[rcase c z] (.recv b)/\(∀aJ,b8 ty Wg (T k).τ w aJ->stepG P (k==0) (T k).g aJ=.comm (T k).g #[rcase c z] true (.recv b) aJ #[]):=by
 have hs:=h.dy.sit k y hk;by_cases hl:(T k).ph.leaves
 .rw[Il hl] at hs
  obtain⟨q,_,hQ⟩:=hs;refine absurd (Zn ?_ c false) aS;rcases hQ.status with e|e<;>rw[e]<;>simp
 .rw[qG hl] at hs
  obtain⟨r,_,_,hx|⟨l,cs,sh,h1,rfl,h3,h4⟩|⟨_,rfl,ho⟩⟩:=hs
  .exact absurd (Zn (by rw[hx.1];simp) c false) aS
  .rcases h4 with⟨c',ok,pub,nx,v,z,h5,rfl,rfl⟩|⟨c',ok,nx,s,z,b,h5,rfl,rfl⟩
   .exact absurd (offersAt_parked_send' _ _ _ _ _ _) aS
   .rw[zlG] at aS
    grind
  .refine absurd ?_ aS
   simp[offersAt,ho]
theorem Inv.offerS (h:Inv P ty Wg A Fin Shun gs w t T ch){k c:Nat}{y:bE}(hk:gs[k]? =some y)(aS:offersAt y c true≠[]):
 ∃l ok pub nx v z,(T k).ph=.usr l/\A.act l=.send c ok pub nx/\y=parked (T k).g #[scase c v z] .send/\(∀aJ,b8 ty Wg (T k).τ w aJ->stepG P (k==0) (T k).g aJ=.comm (T k).g #[scase c v z] true .send aJ #[]):=by
 have hs:=h.dy.sit k y hk;by_cases hl:(T k).ph.leaves
 .rw[Il hl] at hs
  obtain⟨q,_,hQ⟩:=hs;refine absurd (Zn ?_ c true) aS;rcases hQ.status with e|e<;>rw[e]<;>simp
 .rw[qG hl] at hs
  obtain⟨r,_,_,hx|⟨l,cs,sh,h1,rfl,h3,h4⟩|⟨_,rfl,ho⟩⟩:=hs
  .exact absurd (Zn (by rw[hx.1];simp) c true) aS
  .rcases h4 with⟨c',ok,pub,nx,v,z,h5,rfl,rfl⟩|⟨c',ok,nx,s,z,b,h5,rfl,rfl⟩
   .rw[zm4] at aS
    grind
   .exact absurd (offersAt_parked_recv' _ _ _ _ _) aS
  .refine absurd ?_ aS
   simp[offersAt,ho]
theorem setChan_at (w:aE)(c cap:Nat)(L2:Array aF)(cl:Bool)(s r:Nat)(tm:Bool)(h:c<w.heap.size):(w.setChan c cap L2 cl s r tm).heap[c]? =some (.chan cap L2 cl s r tm):=by
 simp[Mp,h]
theorem zu3 (w:aE)(c cap:Nat)(L2:Array aF)(cl:Bool)(s r:Nat)(tm:Bool):M7 c w (w.setChan c cap L2 cl s r tm):=
 ⟨rfl,rfl,rfl,by simp[Mp],λk hk=>by simp only[Mp];rw[tY (Ne.symm hk)]⟩
theorem Inv.meet (hA:A.Ok)(h:Inv P ty Wg A Fin Shun gs w t T ch)(rC:i≠j)(oT:i<gs.size)(Sb:j<gs.size){c:Nat}{li lj:L}{ok sP:aF->Prop}{pub:aF->List Nat}{nx pX:aF->L}{sh:L}
 (zk6:(T i).ph=.usr li) (Uc:A.act li=.send c ok pub nx) (zjs:(T j).ph=.usr lj) (zjv:A.act lj=.recv c sP pX sh) {ιi ιj:Type} {fi:ιi->Rk} {fj:ιj->Rk} (zJe:(T i).r=.inr (.mk ιi fi)) (zdt:(T j).r=.inr (.mk ιj fj))
 {v:aF} {τ':cI} {b:Bool} (bV:ok v) (ho:∀b,τ'.own b->(T i).τ.own b) (aX:τ'.still=(T i).τ.still) (Uw:∀b,τ'.pass b->(T i).τ.pass b\/(T i).τ.own b)
 (Ia:∀a∈pub v,(T i).τ.own a/\¬τ'.own a/\¬τ'.still a/\Kj w a)
 (zGr:∃k,pJ P ty Wg A Fin (fi k) (i==0) (.usr (nx v)) (gY t i) τ' (pE (T i).g aA) w)
 (zzZ:sP v->(∀a∈A.got lj v,a<w.heap.size/\¬(T j).τ.own a/\¬(T j).τ.still a)->∃k,pJ P ty Wg A Fin (fj k) (j==0) (.usr (pX v)) (gY t j) (T j).τ (pE (T j).g (recvd b v true)) w)
 {s r:Nat} (hc:w.heap[c]? =some (.chan 0 #[] false s r false)) (cP:gs'.size=gs.size) (Hb:gs'[i]? =some (pE (T i).g aA)) (zbE:gs'[j]? =some (pE (T j).g (recvd b v true)))
 (zzy:∀k,k≠i->k≠j->gs'[k]? =gs[k]?) {u:mR} (hu:∀op∈u,op.g<gs.size/\op.act.touch? =none/\op.act≠ .mark (.release (stA Wg))/\op.act.low w.heap.size/\op.act≠ .mark .disable/\op.act≠ .mark .enable):
 ∃T' wH,Inv P ty Wg A Fin Shun gs' (w.setChan c 0 #[] false (s+1) (r+1) false) (t++u) T' wH/\Mu.lt (mu gs' T') (mu gs T):=by
 have zaz:(λk=>(T k).ph.proj) i=.run li:=by show(T i).ph.proj=_;rw[zk6];rfl
 have Kt:(λk=>(T k).ph.proj) j=.run lj:=by show(T j).ph.proj=_;rw[zjs];rfl
 have Ob:ch c=some false:=hA.sendC _ ch i li c ok pub nx h.st.inv zaz Uc;obtain⟨zGJ,hinv⟩:=hA.meet _ ch i j li lj c ok pub nx sP pX sh v h.st.inv zaz Kt Uc zjv bV λa ha=>(h.st.bnd i a (.inl (Ia a ha).1)).2.2;obtain⟨ki,zBf⟩:=zGr
 obtain⟨kj,zHs⟩:=zzZ zGJ λa ha=>by
  obtain⟨p1,_,_,p4⟩:=Ia a (hA.gotP _ ch i j li lj c ok pub nx sP pX sh v h.st.inv zaz Kt Uc zjv bV a ha);obtain⟨q1,q2,_⟩:=h.st.sep i j a rC p1;exact⟨(eM.1 p4).1,q1,q2⟩
 have Jt:c<w.heap.size:=(eM.1 hc).1;have a:=zu3 w c 0 #[] false (s+1) (r+1) false;have Ag:=(h.st.chan c _ Ob).1
 have hS:=h.st.meet rC oT Sb Ob a zk6 zjs (.inr (fi ki)) (.inr (fj kj)) (pE (T i).g aA) (pE (T j).g (recvd b v true)) τ' (pub v) ho aX Uw Ia
  ⟨s+1,r+1,setChan_at w c 0 #[] false (s+1) (r+1) false Jt⟩ (li':=nx v) (lj':=pX v) (hA.pendC li _ c v ok pub nx Uc rfl) (hA.pendR lj _ c v sP pX sh zjv (.inl rfl)) hinv
 have nc:∀k,¬(T k).τ.own c/\¬(T k).τ.still c:=λk=>⟨λe=>zyi,λe=>zxr⟩;have Mw:∀k,gY (t++u) k=gY t k:=λk=>zmX t k u λop hop=>⟨(hu op hop).2.2.2.2.1,(hu op hop).2.2.2.2.2⟩;generalize hU:bJ (bJ T i ⟨.usr (nx v),.inr (fi ki),τ',pE (T i).g aA⟩) j ⟨.usr (pX v),.inr (fj kj),(T j).τ,pE (T j).g (recvd b v true)⟩=U at hS;have ui:U i=⟨.usr (nx v),.inr (fi ki),τ',pE (T i).g aA⟩:=by rw[<-hU,upd_ne _ _ rC,upd_same]
 have uj:U j=⟨.usr (pX v),.inr (fj kj),(T j).τ,pE (T j).g (recvd b v true)⟩:=by rw[<-hU,upd_same]
 have uk:∀k,k≠i->k≠j->U k=T k:=λk h1 h2=>by rw[<-hU,upd_ne _ _ h2,upd_ne _ _ h1]
 refine⟨U,ch.opn (pub v),⟨by rw[cP];exact hS,h.dy.gen (λk=>k=i\/k=j) (λk hk=>⟨zzy k (λe=>hk (.inl e)) (λe=>hk (.inr e)),uk k (λe=>hk (.inl e)) (λe=>hk (.inr e))⟩) (λk y hk hy=>?_)
  (λk _=>b8.of_aside a (nc k) (zam a Ag)) (λk _=>Mw k) (λc' lN=>?_) (λe=>(a.block Wg (Ne.symm Ag)).symm.trans e) ?_⟩,?_⟩
 .rcases hk with rfl|rfl
  .rw[Hb] at hy;cases hy
   refine⟨by simp[pE],?_⟩;rw[ui,Mw];refine(qG (T:=⟨.usr (nx v),.inr (fi ki),τ',pE (T k).g aA⟩) id).2 ⟨fi ki,rfl,zBf.rely (b8.of_aside a ⟨λe=>(nc k).1 (ho c e),λe=>(nc k).2 (aX▸e)⟩ (zam a Ag)),.inl (mE.self rfl)⟩
  .rw[zbE] at hy;cases hy
   refine⟨by simp[pE],?_⟩;rw[uj,Mw];exact(qG (T:=⟨.usr (pX v),.inr (fj kj),(T k).τ,pE (T k).g (recvd b v true)⟩) id).2 ⟨fj kj,rfl,zHs.rely (b8.of_aside a (nc k) (zam a Ag)),.inl (mE.self rfl)⟩
 .by_cases hp:c'∈pub v
  .rw[zhH hp] at lN;cases lN
  .rw[Wy hp] at lN;exact lN
 .rw[cP,a.size]
  have h1:=h.dy.tr.idles u.toList (λop hop=>by simp_all);have e0:u.toList.toArray=u:=aQ;rw[e0] at h1;have e3:(λk=>(U k).ph.live)=λk=>(T k).ph.live:=funext λk=>by
   by_cases k1:k=i
   .subst k1;rw[ui,zk6];rfl
   .by_cases k2:k=j
    .subst k2;rw[uj,zjs];rfl
    .rw[uk k k1 k2]
  rw[e3];refine h1.less (λk b _ hb=>?_) (λk b _ hb=>?_) (bM _)
  .grind
  grind
 .rcases uR i j with aT|Cc
  .exact Yz (i:=i) (λ_=>cP) aC oT aC (by rw[ui,zJe];exact .inr (.mk fi ki)) λk hk=>by grind
  .exact Yz (i:=j) (λ_=>cP) aC Sb aC (by rw[uj,zdt];exact .inr (.mk fj kj)) λk hk=>by grind
theorem zFe {xs:Array bE}{i:Nat}{y z:bE}(h:xs[i]? =some y)(hy:Lb y=true)(hz:Lb z=false):(xs.setIfInBounds i z).countP Lb<xs.countP Lb:=by
 obtain⟨aT,rfl⟩:=eM.1 h;have e:xs.setIfInBounds i z=xs.set i z:=by simp[Array.setIfInBounds,aT]
 rw[e,Array.countP_set aT];have:0<xs.countP Lb:=Array.countP_pos_iff.2 ⟨xs[i],Array.getElem_mem aT,hy⟩
 grind
theorem Inv.park (h:Inv P ty Wg A Fin Shun gs w t T ch)(hi:gs[i]? =some x)(cO:x.status=.running)(pI:¬(T i).ph.leaves){y:bE}(hy:y.status=.blocked)
 (hP:zgl P ty Wg A (i==0) (T i) y w\/zmg (T i) y) (hW:i=0->(T 0).ph=.w3->¬jL ty Wg w 0 1)
 (hR:∀(c:Nat) (v z:aF) (sh:Nz) (g:bE),y=parked g #[scase c v z] sh->∀(k:Nat) (yk:bE),gs[k]? =some yk->offersAt yk c false=[]) (hS:∀(c:Nat) (z:aF) (sh:Nz) (g:bE),y=parked g #[rcase c z] sh->ch c≠some true/\∀(k:Nat) (yk:bE),gs[k]? =some yk->offersAt yk c true=[]):
 Inv P ty Wg A Fin Shun (gs.setIfInBounds i y) w (t++ #[]) T ch/\Mu.lt (mu (gs.setIfInBounds i y) T) (mu gs T):=by
 have aT:i<gs.size:=(eM.1 hi).1;have cP:(gs.setIfInBounds i y).size=gs.size:=aQ;have get:∀(k:Nat) (z:bE),(gs.setIfInBounds i y)[k]? =some z->(k=i/\z=y)\/(k≠i/\gs[k]? =some z):=by
  intro k z hk;by_cases I2:i=k
  .simp_all
  .grind
 have et:t++ #[]=t:=aQ;refine⟨⟨by rw[cP];exact h.st,?_⟩,mu_dec' cP (zFe hi (by simp[Lb,cO]) (by simp[Lb,hy]))⟩;rw[et];refine⟨λk z hk=>?_,λa b ga gb c v z z' sh x6 ha hb=>?_,λk g c z sh hk=>?_,λz hz yW hb=>?_,by rw[cP];exact h.dy.tr⟩
 .rcases get k z hk with⟨rfl,rfl⟩|⟨aS,cZ⟩
  .have hs:=h.dy.sit k x hi
   rw[qG pI] at hs⊢
   grind
  .exact h.dy.sit k z cZ
 .rcases get a _ ha with⟨ea,fY⟩|⟨Tv,fY⟩
  .rcases get b _ hb with⟨eb,bY⟩|⟨oI,bY⟩
   .rw[<-fY] at bY
    simp[parked,rcase,scase] at bY
   .have:=hR c v z sh ga fY.symm b _ bY
    rw[zlG] at this;simp at this
  .rcases get b _ hb with⟨eb,bY⟩|⟨oI,bY⟩
   .have:=(hS c z' x6 gb bY.symm).2 a _ fY
    rw[zm4] at this;simp at this
   .exact h.dy.slp a b ga gb c v z z' sh x6 fY bY
 .rcases get k _ hk with⟨_,e⟩|⟨_,cZ⟩
  .grind
  .exact h.dy.slpC k g c z sh cZ
 .rcases get 0 z hz with⟨e,_⟩|⟨_,cZ⟩
  .exact hW e.symm yW
  .exact h.dy.slpW z cZ yW hb
end
section
variable {L:Type}{P:cD}{ty:aM}{Wg:Nat}{A:jV L}{Fin:bE->aE->Prop}{Shun:rD->Prop}
variable {gs gs':Array bE}{w w':aE}{t t':mR}{T T':Nat->Td L}{ch wH:rV}{sl:Option (Nat×Nat)}{i j:Nat}{x g':bE}{es:Array rQ}
def zgc (i:Nat)(fn:aP)(pos:String):wW i fn pos #[]=#[]:=rfl
variable {b:Bool}
theorem zku {c:Nat}(h:∀(k:Nat) (y:bE),gs[k]? =some y->offersAt y c b=[]):partners (gs.setIfInBounds i zgG) c b=[]:=by
 refine partners_nil λk y hk=>?_;rcases zqk gs i k y hk with⟨_,rfl⟩|⟨_,cZ⟩
 .rfl
 .exact h k y cZ
theorem ztG {c k:Nat}{y:bE}(I2:k≠i)(hk:gs[k]? =some y)(ho:offersAt y c b=[0])(h:∀(m:Nat) (z:bE),m≠k->gs[m]? =some z->offersAt z c b=[]):partners (gs.setIfInBounds i zgG) c b=[(k,0)]:=by
 rw[partners_one (stand_get I2 hk) λm z hm hz=>?_,ho]
 .rfl
 .rcases zqk gs i m z hz with⟨_,rfl⟩|⟨_,J1⟩
  .rfl
  .exact h m z hm J1
theorem Inv.send (hA:A.Ok)(h:Inv P ty Wg A Fin Shun gs w t T ch)(hi:gs[i]? =some x)(dP:mE x (T i).g){ι:Type}{f:ι->Rk}(hr:(T i).r=.inr (.mk ι f)){l:L}(hl:(T i).ph=.usr l){c:Nat}{ok:aF->Prop}{pub:aF->List Nat}{nx:aF->L}
 (ha:A.act l=.send c ok pub nx) (hB:nG P ty Wg A (λm ph d τ g w=>∃k,pJ P ty Wg A Fin (f k) m ph d τ g w) (i==0) l (gY t i) (T i).τ (T i).g w):wJ P ty Wg A Fin Shun gs w t T sl i:=by
 have aT:i<gs.size:=(eM.1 hi).1;unfold nG at hB;rw[ha] at hB;obtain⟨N3,v,z,τ',h1,h2,h3,h4,Hz,h5,h6⟩:=hB;have hp:(λk=>(T k).ph.proj) i=.run l:=by show(T i).ph.proj=_;rw[hl];rfl
 have Ob:=hA.sendC _ ch i l c ok pub nx h.st.inv hp ha;obtain⟨_,s,r,hc⟩:=h.st.chan c _ Ob;have vV:stepG P (i==0) x w=.comm (T i).g #[scase c v z] true .send w #[]:=by rw[dP.step];exact h1 w b8.refl
 by_cases hk:∃(k:Nat) (y:bE),gs[k]? =some y/\offersAt y c false≠[]
 .obtain⟨k,y,hk,aS⟩:=hk
  have I2:k≠i:=λe=>by
   subst e;rw[hi] at hk;cases hk;exact aS (Zn (by rw[dP.1];simp) c false)
  have zaD:k<gs.size:=(eM.1 hk).1;obtain⟨lk,sP,pX,sh,zk,b,xX,Nf,rfl,zcc⟩:=h.offerR hk aS;have zjr:(λk=>(T k).ph.proj) k=.run lk:=by show(T k).ph.proj=_;rw[xX];rfl
  have ziS:partners (gs.setIfInBounds i zgG) c false=[(k,0)]:=by
   refine ztG I2 hk (by rw[zlG];simp) λm y' hm ziL=>Au λhn=>?_;obtain⟨lm,zig,zkI,sm,_,_,Yp,ziw,_⟩:=h.offerR ziL hn;exact hm (hA.recv1 _ ch m k lm lk c zig zkI sm sP pX sh h.st.inv (by show(T m).ph.proj=_;rw[Yp];rfl) zjr ziw Nf)
  have zaK:=crowd_send_meets (P:=P) (sl:=sl) hi vV hc I2 hk ziS;have hs:=h.dy.sit k _ hk;rw[qG (by rw[xX];exact id)] at hs;obtain⟨rk,zmG,yI,_⟩:=hs
  cases rk with
  |mk ιk fk=>
   obtain⟨_,yI⟩:=yI;rw[xX] at yI;rcases yI with yI|yI
   .obtain⟨g',w',es,aX,_⟩:=yI w b8.refl
    rw[zcc w b8.refl] at aX;cases aX
   .simp only[Ao,nG,Nf] at yI
    obtain⟨_,z',b',rF,rL,J0⟩:=yI;have e:=(rF w b8.refl).symm.trans (zcc w b8.refl);simp only[zsx,rcase,zev,Vu,zhG,zIe,true_and,and_true] at e;obtain⟨_,eb⟩:=e;subst eb
    obtain⟨T',wH,hI,P4⟩:=h.meet hA (Ne.symm I2) aT zaD hl ha xX Nf hr zmG (v:=v) (τ':=τ') (b:=b') h2 h3 h4 Hz h5 h6 (λhv hg=>rL v hv w b8.refl hg) hc
     (gs':=(gs.setIfInBounds k (pE (T k).g (recvd b' v true))).setIfInBounds i (pE (T i).g aA)) aQ (by simp[aT]) tV
     (λm h1 h2=>by grind)
     (u:=#[{g:=i,fn:=(T i).g.frame.fn,pos:=(T i).g.frame.place,act:=.send c s},{g:=k,fn:=(T k).g.frame.fn,pos:=(T k).g.frame.place,act:=.recv c r 0},{g:=i,fn:=(T i).g.frame.fn,pos:=(T i).g.frame.place,act:=.sendDone c s},{g:=k,fn:=(T k).g.frame.fn,pos:=(T k).g.frame.place,act:=.recvDone c r}])
     (λop hop=>by
      have Jt:c<w.heap.size:=(eM.1 hc).1;simp only[I6,mB,nD,or_false] at hop;rcases hop with rfl|rfl|rfl|rfl<;>exact⟨aC,rfl,aQ,Jt,aQ,aQ⟩)
    rw[znI,zvF,zgc,zjd] at zaK;exact⟨_,_,zaK,.inr ⟨_,_,sl,T',wH,rfl,hI,P4⟩⟩
 .have fR:∀(k:Nat) (y:bE),gs[k]? =some y->offersAt y c false=[]:=λk y zdD=>Au λhn=>hk ⟨k,y,zdD,hn⟩
  have wN:=crowd_waits (P:=P) (sl:=sl) hi vV (λcc tW=>by
   simp only[I6,mB,nD,or_false] at tW;subst tW;exact ways_send_none hc (lU _) (zku fR))
  have hp:=h.park hi dP.1 zjE (y:=parked (T i).g #[scase c v z] .send) rfl (.inl ⟨l,_,_,hl,rfl,h1,.inl ⟨c,ok,pub,nx,v,z,ha,rfl,rfl⟩⟩) (λe e2=>by subst e;rw[hl] at e2;cases e2)
   (λc' v' z' x6 g' e=>by
    simp only[parked,zst,jQ,sV,zev,Vu,scase,zhG,zyN,and_true,true_and] at e;obtain⟨_,_,_,⟨e,_⟩,_⟩:=e;subst e;exact fR)
   (λc' z' x6 g' e=>by simp[parked,scase,rcase] at e)
  exact⟨_,_,wN,.inr ⟨_,_,sl,T,ch,rfl,hp.1,hp.2⟩⟩
theorem Inv.recv (hA:A.Ok)(h:Inv P ty Wg A Fin Shun gs w t T ch)(hi:gs[i]? =some x)(dP:mE x (T i).g){ι:Type}{f:ι->Rk}(hr:(T i).r=.inr (.mk ι f)){l:L}(hl:(T i).ph=.usr l){c:Nat}{ok:aF->Prop}{nx:aF->L}{sh:L}
 (ha:A.act l=.recv c ok nx sh) (hB:nG P ty Wg A (λm ph d τ g w=>∃k,pJ P ty Wg A Fin (f k) m ph d τ g w) (i==0) l (gY t i) (T i).τ (T i).g w):wJ P ty Wg A Fin Shun gs w t T sl i:=by
 have aT:i<gs.size:=(eM.1 hi).1;unfold nG at hB;rw[ha] at hB;obtain⟨N3,z,b,h1,h2,h3⟩:=hB;have hp:(λk=>(T k).ph.proj) i=.run l:=by show(T i).ph.proj=_;rw[hl];rfl
 obtain⟨cl,kR⟩:=hA.recvC _ ch i l c ok nx sh h.st.inv hp ha;obtain⟨Ag,s,r,hc⟩:=h.st.chan c _ kR;have Jt:c<w.heap.size:=(eM.1 hc).1;have vV:stepG P (i==0) x w=.comm (T i).g #[rcase c z] true (.recv b) w #[]:=by rw[dP.step];exact h1 w b8.refl
 cases cl with
 |true=>
  have fR:∀(k:Nat) (y:bE),gs[k]? =some y->offersAt y c true=[]:=λk y zdD=>Au λhn=>by
   obtain⟨lk,zDS,zIw,zDl,_,_,xX,Nf,_⟩:=h.offerS zdD hn;have:=hA.sendC _ ch k lk c zDS zIw zDl h.st.inv (by show(T k).ph.proj=_;rw[xX];rfl) Nf;rw[kR] at this;cases this
  have cO:=crowd_recv_closed (P:=P) (sl:=sl) hi vV hc (zku fR);rw[znI,zgc,zjd] at cO;obtain⟨zGs,hinv⟩:=hA.shut _ ch i l c ok nx sh h.st.inv hp ha kR;obtain⟨k,hk⟩:=h3 zGs;have B8:=gP.usr (l:=l) h.st.grp hl aT (hA.pendR l sh c aA ok nx sh ha (.inr rfl));have hS:=h.st.phase (r:=.inr (f k)) (g':=pE (T i).g (recvd b z false)) (by rw[hl];simp) aT (Oq _ _) (.usr sh) aQ (λ_=>trivial) (λ_ e=>e) id (λl' e=>by simp[Ph.proj] at e) B8 hinv;have cP:(gs.setIfInBounds i (pE (T i).g (recvd b z false))).size=gs.size:=aQ;have Mw:∀k,gY (t++(#[{g:=i,fn:=(T i).g.frame.fn,pos:=(T i).g.frame.place,act:=.recvClosed c}]:mR)) k=gY t k:=λk=>zmX t k _ λop hop=>by
   simp only[I6,mB,nD,or_false] at hop;subst hop;exact⟨aQ,aQ⟩
  refine⟨_,_,cO,.inr ⟨gs.setIfInBounds i (pE (T i).g (recvd b z false)),w,sl,bJ T i ⟨.usr sh,.inr (f k),(T i).τ,pE (T i).g (recvd b z false)⟩,ch,rfl,⟨by rw[cP];exact hS,?_⟩,?_⟩⟩
  .show F9 _ _ (t++(#[{g:=i,fn:=(T i).g.frame.fn,pos:=(T i).g.frame.place,act:=.recvClosed c}]:mR)) _ _ _
   refine h.dy.gen (λk'=>k'=i) (λk' cZ=>⟨by rw[tY (Ne.symm cZ)],upd_ne _ _ cZ⟩) (λk' y cZ hy=>?_) (λ_ _=>b8.refl) (λk' _=>Mw k') (λ_ e=>e) id ?_
   .subst cZ
    rw[zlt aT] at hy;cases hy;refine⟨by simp[pE],?_⟩;rw[upd_same,Mw];exact(qG (T:=⟨.usr sh,.inr (f k),(T k').τ,pE (T k').g (recvd b z false)⟩) id).2 ⟨f k,rfl,hk,.inl (mE.self rfl)⟩
   .rw[cP]
    have h0:=h.dy.tr.phase (i:=i) (ph':=.usr sh) (.inr (f k)) (pE (T i).g (recvd b z false)) ⟨λ_=>by rw[hl];trivial,λ_=>trivial⟩;exact h0.idles [{g:=i,fn:=(T i).g.frame.fn,pos:=(T i).g.frame.place,act:=.recvClosed c}] λop hop=>by
     simp only[mB,nD,or_false] at hop;subst hop;exact⟨aT,rfl,aQ,Jt⟩
  .exact Yz (i:=i) (λ_=>cP) aC aT aC zvB λk' cZ=>by rw[upd_ne _ _ aC]
 |false=>
  by_cases hk:∃(k:Nat) (y:bE),gs[k]? =some y/\offersAt y c true≠[]
  .obtain⟨k,y,hk,aS⟩:=hk
   have I2:k≠i:=λe=>by
    subst e;rw[hi] at hk;cases hk;exact aS (Zn (by rw[dP.1];simp) c true)
   have zaD:k<gs.size:=(eM.1 hk).1;obtain⟨lk,sP,Xj,pX,v,zk,xX,Nf,rfl,zcc⟩:=h.offerS hk aS;have zjr:(λk=>(T k).ph.proj) k=.run lk:=by show(T k).ph.proj=_;rw[xX];rfl
   have ziS:partners (gs.setIfInBounds i zgG) c true=[(k,0)]:=by
    refine ztG I2 hk (by rw[zm4];simp) λm y' hm ziL=>Au λhn=>?_;obtain⟨lm,zig,zCg,zkI,_,_,Yp,ziw,_⟩:=h.offerS ziL hn;exact hm (hA.send1 _ ch m k lm lk c zig zCg zkI sP Xj pX h.st.inv (by show(T m).ph.proj=_;rw[Yp];rfl) zjr ziw Nf)
   have zaK:=crowd_recv_meets (P:=P) (sl:=sl) hi vV hc I2 hk ziS;have hs:=h.dy.sit k _ hk;rw[qG (by rw[xX];exact id)] at hs;obtain⟨rk,zmG,yI,_⟩:=hs
   cases rk with
   |mk ιk fk=>
    obtain⟨_,yI⟩:=yI;rw[xX] at yI;rcases yI with yI|yI
    .obtain⟨g',w',es,aX,_⟩:=yI w b8.refl
     rw[zcc w b8.refl] at aX;cases aX
    .simp only[Ao,nG,Nf] at yI
     obtain⟨_,v',z',τ',rF,rL,J0,zn1,zDC,zz3,zGN⟩:=yI;have e:=(rF w b8.refl).symm.trans (zcc w b8.refl);simp only[zsx,scase,zev,Vu,zhG,jQ,true_and,and_true] at e;obtain⟨ev,_⟩:=e;subst ev
     obtain⟨T',wH,hI,P4⟩:=h.meet hA I2 zaD aT xX Nf hl ha zmG hr (v:=v') (τ':=τ') (b:=b) rL J0 zn1 zDC zz3 zGN (λhv hg=>h2 v' hv w b8.refl hg) hc
      (gs':=(gs.setIfInBounds k (pE (T k).g aA)).setIfInBounds i (pE (T i).g (recvd b v' true))) aQ (by rw[tY (Ne.symm I2)];simp[zaD]) (by simp[aT])
      (λm h1 h2=>by rw[tY (Ne.symm h2),tY (Ne.symm h1)])
      (u:=#[{g:=k,fn:=(T k).g.frame.fn,pos:=(T k).g.frame.place,act:=.send c s},{g:=i,fn:=(T i).g.frame.fn,pos:=(T i).g.frame.place,act:=.recv c r 0},{g:=k,fn:=(T k).g.frame.fn,pos:=(T k).g.frame.place,act:=.sendDone c s},{g:=i,fn:=(T i).g.frame.fn,pos:=(T i).g.frame.place,act:=.recvDone c r}])
      (λop hop=>by
       simp only[I6,mB,nD,or_false] at hop;rcases hop with rfl|rfl|rfl|rfl<;>exact⟨by first|exact aT|exact zaD,rfl,aQ,Jt,aQ,aQ⟩)
     rw[znI,zvF,zgc,zjd] at zaK;exact⟨_,_,zaK,.inr ⟨_,_,sl,T',wH,rfl,hI,P4⟩⟩
  .have fR:∀(k:Nat) (y:bE),gs[k]? =some y->offersAt y c true=[]:=λk y zdD=>Au λhn=>hk ⟨k,y,zdD,hn⟩
   have wN:=crowd_waits (P:=P) (sl:=sl) hi vV (λcc tW=>by
    simp only[I6,mB,nD,or_false] at tW;subst tW;exact ways_recv_none hc (zku fR))
   have hp:=h.park hi dP.1 zjE (y:=parked (T i).g #[rcase c z] (.recv b)) rfl (.inl ⟨l,_,_,hl,rfl,h1,.inr ⟨c,ok,nx,sh,z,b,ha,rfl,rfl⟩⟩) (λe e2=>by subst e;rw[hl] at e2;cases e2)
    (λc' v' z' x6 g' e=>by simp[parked,scase,rcase] at e)
    (λc' z' x6 g' e=>by
     simp only[parked,zst,jQ,sV,zev,Vu,rcase,zhG,zyN,and_true,true_and] at e;obtain⟨_,_,_,⟨e,_⟩,_⟩:=e;subst e;exact⟨(by rw[kR];simp),fR⟩)
   exact⟨_,_,wN,.inr ⟨_,_,sl,T,ch,rfl,hp.1,hp.2⟩⟩
theorem Inv.close (hA:A.Ok)(h:Inv P ty Wg A Fin Shun gs w t T ch)(hi:gs[i]? =some x)(dP:mE x (T i).g){ι:Type}{f:ι->Rk}(hr:(T i).r=.inr (.mk ι f)){l:L}(hl:(T i).ph=.usr l){c:Nat}{nx:L}
 (ha:A.act l=.close c nx) (hB:nG P ty Wg A (λm ph d τ g w=>∃k,pJ P ty Wg A Fin (f k) m ph d τ g w) (i==0) l (gY t i) (T i).τ (T i).g w):wJ P ty Wg A Fin Shun gs w t T sl i:=by
 have aT:i<gs.size:=(eM.1 hi).1;unfold nG at hB;rw[ha] at hB;obtain⟨zbQ,zEV,h1⟩:=hB;have hp:(λk=>(T k).ph.proj) i=.run l:=by show(T i).ph.proj=_;rw[hl];rfl
 obtain⟨Ob,hinv⟩:=hA.close _ ch i l c nx h.st.inv hp ha;obtain⟨Ag,s,r,hc⟩:=h.st.chan c _ Ob;have Jt:c<w.heap.size:=(eM.1 hc).1;obtain⟨g',aX,mH,k,hk⟩:=h1 w b8.refl s r hc;have a:=zu3 w c 0 #[] true s r false;have hS:=h.st.close aT Ob a hl (.inr (f k)) g' (l':=nx) ⟨s,r,setChan_at w c 0 #[] true s r false Jt⟩ (gP.usr (l:=l) h.st.grp hl aT (hA.pendX l c nx ha)) hinv;have nc:∀k,¬(T k).τ.own c/\¬(T k).τ.still c:=λk=>⟨λe=>zyi,λe=>zxr⟩;have hd:oN (gY t i) (closeEvents c)=gY t i:=zsM (λe he=>by
  simp only[closeEvents,I6,mB,nD,or_false] at he;rcases he with rfl|rfl<;>exact⟨aQ,aQ⟩) _
 have zeN:mayWake P x=true:=by rw[<-zbQ];unfold mayWake;rw[dP.2.1]
 have Rc:bJ T i ⟨.usr nx,.inr (f k),(T i).τ,g'⟩ i=⟨.usr nx,.inr (f k),(T i).τ,g'⟩:=upd_same _ _ _;refine Vv hi h.st.n0 (Ti:=⟨.usr nx,.inr (f k),(T i).τ,g'⟩) zdk Pc hS ?_
 refine h.dy.go hi (by rw[hd];exact(qG (T:=⟨.usr nx,.inr (f k),(T i).τ,g'⟩) id).2 ⟨f k,rfl,hk,.inl (mE.self mH)⟩) L9 (λj _=>b8.of_aside a (nc j) (zam a Ag)) ?_
  (h.dy.keepW λe=>(a.block Wg (Ne.symm Ag)).symm.trans e) ?_
 .intro j gj c' z sh hj cT e
  by_cases tW:c'=c
  .subst tW
   unfold woken at cT;rw[zeN,mH] at cT;have:=again_recv_closed (g:=gj) (z:=z) (sh:=sh) (setChan_at w c' 0 #[] true s r false Jt);simp only[Bool.true_and] at cT;rw[if_pos K9,this] at cT;have:(GoStatus.running:GoStatus)=.blocked:=by
    have h2:=congrArg bE.status cT;simp[parked] at h2
   cases this
  .rw[upd_ne _ _ tW] at e
   exact h.dy.slpC j gj c' z sh hj e
 .refine hS.tiEvents aT (by rw[Rc];trivial) _ _ ?_ λe he=>?_
  .have:=h.dy.tr.phase (i:=i) (ph':=.usr nx) (.inr (f k)) g' ⟨λ_=>by rw[hl];trivial,λ_=>trivial⟩
   rwa [a.size]
  .rw[Rc]
   simp only[closeEvents,I6,mB,nD,or_false] at he;rw[a.size];rcases he with rfl|rfl
   .refine⟨λy hy=>?_,by simp[jU],Jt⟩
    simp only[jU,sY,jQ] at hy;subst hy;exact .inl ⟨c,Ag,rfl,.inr ⟨.inr zEV,rfl⟩⟩
   .exact⟨λy hy=>by simp[jU,sY] at hy,by simp[jU],Jt⟩
theorem Inv.spawn (hA:A.Ok)(h:Inv P ty Wg A Fin Shun gs w t T ch)(hi:gs[i]? =some x)(dP:mE x (T i).g){ι:Type}{f:ι->Rk}(hr:(T i).r=.inr (.mk ι f)){l:L}(hl:(T i).ph=.usr l){pub:List Nat}{lc nx:L}
 (ha:A.act l=.spawn pub lc nx) (hB:nG P ty Wg A (λm ph d τ g w=>∃k,pJ P ty Wg A Fin (f k) m ph d τ g w) (i==0) l (gY t i) (T i).τ (T i).g w):wJ P ty Wg A Fin Shun gs w t T sl i:=by
 unfold nG at hB;rw[ha] at hB;obtain⟨hd,h1⟩:=hB;have hp:(λk=>(T k).ph.proj) i=.run l:=by show(T i).ph.proj=_;rw[hl];rfl
 obtain⟨rfl,Of,zH,hinv⟩:=hA.spawn _ ch i l pub lc nx gs.size h.st.inv hp ha;obtain⟨g',child,τm,τc,aX,Zx,zso,ho,hs,qM,yQ,yZ,Ia,⟨km,zJg⟩,⟨kc,Jr⟩⟩:=h1 w b8.refl;have hn:=h.st.n0;have zDD:=hinv (by show(T gs.size).ph.proj=_;rw[h.st.ou _ (bM _)];rfl) aC λa Uw=>(h.st.bnd 0 a (.inl (Ia a Uw).1)).2.2;have hS:=h.st.fork hl Of zH (.inr (f km)) (.inr (f kc)) g' child τm τc pub ho hs qM yQ yZ Ia zDD;have cO:=runT_crowd_spawn (P:=P) (sl:=sl) hi (show stepG P (0==0) x w=_ by rw[dP.step];exact aX);have cP:((gs.setIfInBounds 0 g').push child).size=gs.size+1:=aQ;generalize hU:bJ (bJ T 0 ⟨.usr nx,.inr (f km),τm,g'⟩) gs.size ⟨.usr lc,.inr (f kc),τc,child⟩=U at hS;have u0:U 0=⟨.usr nx,.inr (f km),τm,g'⟩:=by rw[<-hU,upd_ne _ _ aC,upd_same]
 have un:U gs.size=⟨.usr lc,.inr (f kc),τc,child⟩:=by rw[<-hU,upd_same]
 have uk:∀k,k≠0->k≠gs.size->U k=T k:=λk h1 h2=>by rw[<-hU,upd_ne _ _ h2,upd_ne _ _ h1]
 have zkJ:((wW 0 x.frame.fn x.frame.place #[]).push {g:=0,fn:=x.frame.fn,pos:=x.frame.place,act:=.go gs.size}|>.push {g:=gs.size,fn:=child.frame.fn,pos:=x.frame.place,act:=.start})
  =#[{g:=0,fn:=x.frame.fn,pos:=x.frame.place,act:=.go gs.size},{g:=gs.size,fn:=child.frame.fn,pos:=x.frame.place,act:=.start}]:=rfl
 rw[zkJ] at cO;have Mw:∀k,gY (t++(#[{g:=0,fn:=x.frame.fn,pos:=x.frame.place,act:=.go gs.size},{g:=gs.size,fn:=child.frame.fn,pos:=x.frame.place,act:=.start}]:mR)) k=gY t k:=λk=>zmX t k _ λop hop=>by grind
 refine⟨_,_,cO,.inr ⟨(gs.setIfInBounds 0 g').push child,w,sl,U,ch.opn pub,rfl,⟨by rw[cP];exact hS,h.dy.gen (λk=>k=0\/gs.size<=k) (λk hk=>?_) (λk y hk hy=>?_) (λ_ _=>b8.refl) (λk _=>Mw k) (λc hc=>?_) id ?_⟩,?_⟩⟩
 .grind
 .rw[Array.getElem?_push,Array.size_setIfInBounds] at hy
  rcases hk with rfl|hk
  .rw[if_neg aC,zlt hn] at hy
   cases hy;refine⟨by rw[Zx];simp,?_⟩;rw[u0,Mw,hd];exact(qG (T:=⟨.usr nx,.inr (f km),τm,g'⟩) id).2 ⟨f km,rfl,zJg,.inl (mE.self Zx)⟩
  .by_cases cZ:k=gs.size
   .subst cZ
    rw[if_pos rfl] at hy;cases hy;refine⟨by rw[zso];simp,?_⟩;rw[un,Mw,h.dy.tr.above _ (bM _)];have e0:(gs.size==0)=false:=beq_eq_false_iff_ne.2 aC;exact(qG (T:=⟨.usr lc,.inr (f kc),τc,child⟩) id).2 ⟨f kc,rfl,by rw[e0];exact Jr,.inl (mE.self zso)⟩
   .simp_all
 .by_cases nJ:c∈pub
  .rw[zhH nJ] at hc;cases hc
  .rw[Wy nJ] at hc;exact hc
 .rw[cP]
  refine h.dy.tr.fork (live':=λk=>(U k).ph.live) (by show(T 0).ph.live;rw[hl];trivial) hn ⟨rfl,rfl⟩ ⟨rfl,rfl⟩ hd (λk=>?_) (by show ¬(T gs.size).ph.live;rw[h.st.ou _ (bM _)];exact id) (λk b hk lR hb=>?_) (λk b hk lR hb=>?_) (λb hb=>?_) λb hb=>?_
  .show(U k).ph.live↔(T k).ph.live\/k=gs.size
   by_cases k1:k=0
   .subst k1;rw[u0,hl];exact⟨λ_=>.inl trivial,λ_=>trivial⟩
   .by_cases k2:k=gs.size
    .subst k2;rw[un];exact⟨λ_=>.inr rfl,λ_=>trivial⟩
    simp_all
  .have rL:k≠gs.size:=λe=>by
    subst e;have:(T gs.size).ph.live:=hk;rw[h.st.ou _ (bM _)] at this;exact this
   simp_all
  .have rL:k≠gs.size:=λe=>by
    subst e;have:(T gs.size).ph.live:=hk;rw[h.st.ou _ (bM _)] at this;exact this
   simp_all
  .simp_all
  grind
 .exact Yz (i:=0) (λe=>absurd rfl e) (by rw[cP];omega) hn (by rw[cP];omega) (by rw[u0,hr];exact .inr (.mk f km)) λk hk=>by omega
end
section
variable {L:Type}{P:cD}{ty:aM}{Wg:Nat}{A:jV L}{Fin:bE->aE->Prop}{Shun:rD->Prop}
variable {gs gs':Array bE}{w w':aE}{t t':mR}{T T':Nat->Td L}{ch wH:rV}{sl:Option (Nat×Nat)}{i j:Nat}{x g':bE}{es:Array rQ}
def zoq (Wg B:Nat):Nat->List rQ->Prop
 |_,[]=>True
 |d,e::es=>((e.mute=true\/(∃a b,e=⟨.cell a,b,true⟩/\a.block=Wg/\0<d))/\Wg<B)/\zoq Wg B (oN d #[e]) es
theorem Yq {B:Nat}:∀{es:List rQ} {d:Nat},zoq Wg B d es->∀(l r:List rQ) (e:rQ),es=l++e::r->(∀a,(jU e).touch? =some a->nO a.loc Wg/\a.kind=.atomic/\0<oN d l.toArray)/\jU e≠ .mark (.release (stA Wg))/\(jU e).low B
 |[],d,_,l,r,e,he=>by simp at he
 |y::es,d,h,[],r,e,he=>by
  simp only[List.nil_append,Vu] at he;obtain⟨rfl,rfl⟩:=he;obtain⟨⟨hm|⟨a,b,rfl,ha,hd⟩,hW⟩,_⟩:=h
  .exact zpy (n:=0) (d:=d) (es:=#[y]) (λe he=>by simp_all) [] [] y rfl
  .refine⟨λz hz=>?_,by simp[jU],by simpa[jU,Z8,rD.low,ha] using hW⟩
   simp only[jU,sY,jQ] at hz;subst hz;exact⟨ha,rfl,hd⟩
 |y::es,d,h,z::l,r,e,he=>by
  simp only[U8,Vu] at he;obtain⟨rfl,he⟩:=he;have:=Yq h.2 l r e he;refine⟨λa ha=>?_,this.2⟩;rw[zvt];exact this.1 a ha
def Om {v wt:Nat}{a b:Int}(h:jL ty Wg w a b):jL ty Wg (w.setCell (stA Wg) (st v wt)) ((v:Int)*KK+wt) b:=zze h _
def zs2 {a b:Int}(h:jL ty Wg w a b)(c:Int):jL ty Wg (w.setCell (smA Wg) (.int .u32 c)) a c:=zJi h c
def Ou (w:aE)(v:aF):M7 Wg w (w.setCell (stA Wg) v):=Ze w (stA Wg) v
def zhJ (w:aE)(v:aF):M7 Wg w (w.setCell (smA Wg) v):=Ze w (smA Wg) v
def zlF (d:Nat){es:Array rQ}(h:∀e∈es,e.loc≠ .mark .disable/\e.loc≠ .mark .enable):oN d es=d:=zsM h d
theorem Zc (d:Nat)(a:bC):oN d #[rd a]=d:=zlF d (λe he=>by simp at he;subst he;exact⟨by simp[rd],by simp[rd]⟩)
theorem deaf_wr (d:Nat)(a:bC):oN d #[wr a]=d:=zlF d (λe he=>by simp at he;subst he;exact⟨by simp[wr],by simp[wr]⟩)
theorem zeZ (d:Nat)(a:bC):oN d #[rd a,wr a]=d:=zlF d (λe he=>by
 simp only[I6,mB,nD,or_false] at he;rcases he with rfl|rfl<;>exact⟨by simp[rd,wr],by simp[rd,wr]⟩)
theorem zwl (d:Nat)(a:bC):oN d (semEvents a)=d:=by
 simp[oN,semEvents]
theorem Lg (p:Nat->Ph L)(n:Nat)(ph':Ph L)(h:ph'.waits):vv A (bJ p 0 ph') n=pL p n:=by
 unfold vv Ay;rw[zeb,upd_same];cases ph'<;>first|exact h.elim|rfl
theorem zaT (p:Nat->Ph L)(n:Nat)(h:(p 0).waits):vv A p n=pL p n:=by
 have:=Lg (A:=A) p n (p 0) h
 rwa [zeJ] at this
theorem U2 {p:Nat->Ph L}{ph':Ph L}(h:∀i,¬(p i).last)(h':¬ph'.last):∀i,¬(bJ p 0 ph' i).last:=λi=>by
 by_cases hi:i=0
 .subst hi;rw[upd_same];exact h'
 .rw[upd_ne _ _ hi];exact h i
theorem zts {p:Nat->Ph L}:∀{n:Nat},pL p n=0->∀j,j<n->j≠0->(p j).pre=false
 |n+1,h,j,hj,h0=>by
  simp only[pL] at h;by_cases Sb:j=n
  .simp_all
  .exact zts (n:=n) aC j aC h0
def Inv.vlt (hA:A.Ok)(h:Inv P ty Wg A Fin Shun gs w t T ch):vv A (λj=>(T j).ph) gs.size<2000000000:=
 Nat.lt_of_le_of_lt (zzS A _ _ h.st.n0) (hA.few _ ch h.st.inv _)
variable {a:bC}
theorem okRW {own pas:Nat->Prop}{k B:Nat}(hW:Wg<B)(ha:a.block=Wg):∀e∈(#[rd a,wr a]:Array rQ),OkL Wg own pas k B e:=by
 intro e he;simp only[I6,mB,nD,or_false] at he;rcases he with rfl|rfl<;>exact zgS ha hW
theorem okR {own pas:Nat->Prop}{k B:Nat}(hW:Wg<B)(ha:a.block=Wg):∀e∈(#[rd a]:Array rQ),OkL Wg own pas k B e:=by
 intro e he;simp only[I6,mB,nD,or_false] at he;subst he;exact zgS ha hW
theorem okSem {own pas:Nat->Prop}{k B:Nat}(hW:Wg<B)(ha:a.block=Wg):∀e∈semEvents a,OkL Wg own pas k B e:=by
 intro e he;simp only[semEvents,I6,mB,nD,or_false] at he;rcases he with rfl|rfl|rfl|rfl
 .exact ze1 rfl
 .exact zgS ha hW
 .exact zgS ha hW
 .exact ze1 rfl
theorem zq6 (T:Nat->Td L){ph':Ph L}(h:ph'.proj=(T i).ph.proj):bJ (λj=>(T j).ph.proj) i ph'.proj=λj=>(T j).ph.proj:=by rw[h];exact zeJ (λj=>(T j).ph.proj) i
theorem Inv.add (hA:A.Ok)(h:Inv P ty Wg A Fin Shun gs w t T ch)(hi:gs[i]? =some x)(dP:mE x (T i).g){ι:Type}{f:ι->Rk}(hr:(T i).r=.inr (.mk ι f)){l:L}(hl:(T i).ph=.usr l){nx:L}
 (ha:A.act l=.add nx) (hB:nG P ty Wg A (λm ph d τ g w=>∃k,pJ P ty Wg A Fin (f k) m ph d τ g w) (i==0) l (gY t i) (T i).τ (T i).g w):wJ P ty Wg A Fin Shun gs w t T sl i:=by
 unfold nG at hB;rw[ha] at hB;have hp:(λk=>(T k).ph.proj) i=.run l:=by show(T i).ph.proj=_;rw[hl];rfl
 obtain⟨rfl,Of,zH,hinv⟩:=hA.add _ ch i l nx h.st.inv hp ha;have hg:=h.st.grp;unfold gP at hg;simp only[hl] at hg;have hv:=h.vlt hA;obtain⟨g',aX,mH,k,hk⟩:=hB w b8.refl _ aC hg.1;have gZ:vv A (λj=>(T j).ph) gs.size=pL (λj=>(T j).ph) gs.size:=by unfold vv Ay;simp only[hl,Of];rfl
 have pS:vv A (bJ (λj=>(T j).ph) 0 (.usr nx)) gs.size=pL (λj=>(T j).ph) gs.size+1:=by unfold vv Ay;rw[zeb,upd_same];simp[zH]
 have dC:=Om (v:=vv A (λj=>(T j).ph) gs.size+1) (wt:=0) hg.1;refine h.alive hi dP aX mH hr (by rw[hl];trivial) (ph':=.usr nx) trivial (Ou _ _) (λ_=>⟨_,_,dC⟩) ⟨k,by rw[zeZ];exact hk⟩ (λe=>absurd rfl e) ?_ hinv (λe=>by have:=(zaS e dC).2;omega) (okRW zx5 rfl);unfold gP;rw[upd_same];refine⟨?_,U2 hg.2 id⟩;rw[pS,<-gZ];simpa using dC
theorem Inv.look (hA:A.Ok)(h:Inv P ty Wg A Fin Shun gs w t T ch)(hi:gs[0]? =some x)(dP:mE x (T 0).g){ι:Type}{f:ι->Rk}(hr:(T 0).r=.inr (.mk ι f))(oF:(∃b,(T 0).ph=.w1 b)\/∃l,(T 0).ph=.usr l/\A.act l=.wait)
 (hB:∀aJ,b8 ty Wg (T 0).τ w aJ->∀v:Nat,(∀b,(T 0).ph=.w1 b->v<b)->v<2147483648->jL ty Wg aJ (v*KK) 0->∃g',stepG P true (T 0).g aJ=.go g' aJ #[rd (stA Wg)]/\g'.status=.running/\
  (v=0->∃k,pJ P ty Wg A Fin (f k) true .w5 (gY t 0) (T 0).τ g' aJ)/\(v≠0->∃k,pJ P ty Wg A Fin (f k) true (.w2 v) (gY t 0) (T 0).τ g' aJ)):wJ P ty Wg A Fin Shun gs w t T sl 0:=by
 have hv:=h.vlt hA;have hg:jL ty Wg w (vv A (λj=>(T j).ph) gs.size*KK) 0/\∀i,¬(T i).ph.last:=by
  have hg:=h.st.grp;unfold gP at hg;rcases oF with⟨b,e⟩|⟨l,e,_⟩<;>simp only[e] at hg
  .exact⟨hg.1,hg.2.1⟩
  .exact hg
 have fA:∀b,(T 0).ph=.w1 b->vv A (λj=>(T j).ph) gs.size<b:=λb e=>by
  have hg:=h.st.grp;unfold gP at hg;simp only[e] at hg;exact hg.2.2
 have nI:(T 0).ph.live:=h.st.role0;have Ev:vv A (λj=>(T j).ph) gs.size=pL (λj=>(T j).ph) gs.size:=by
  rcases oF with⟨b,e⟩|⟨l,e,ha⟩
  .exact zaT _ _ (by show(T 0).ph.waits;rw[e];trivial)
  .have:=(hA.wait _ ch 0 l h.st.inv (by show(T 0).ph.proj=_;rw[e];rfl) ha).2.1
   unfold vv Ay;simp only[e,this];rfl
 have hinv:A.Inv (bJ (λj=>(T j).ph.proj) 0 .waits) ch:=by
  rcases oF with⟨b,e⟩|⟨l,e,ha⟩
  .have:=zq6 T (i:=0) (ph':=.w1 b) (by rw[e])
   rw[show(Ph.w1 b:Ph L).proj=.waits from rfl] at this;rw[this];exact h.st.inv
  .exact(hA.wait _ ch 0 l h.st.inv (by show(T 0).ph.proj=_;rw[e];rfl) ha).2.2
 obtain⟨g',aX,mH,h0,h1⟩:=hB w b8.refl _ fA aC hg.1;by_cases hz:vv A (λj=>(T j).ph) gs.size=0
 .obtain⟨k,hk⟩:=h0 hz
  refine h.alive hi dP aX mH hr nI (ph':=.w5) trivial (Oq _ _) id ⟨k,by rw[Zc];exact hk⟩ (λe=>absurd rfl e) ?_ hinv id (okR h.st.grp.live.lt rfl);unfold gP;rw[upd_same];refine⟨by rw[Lg _ _ .w5 trivial,<-Ev];exact hz,U2 hg.2 id,?_⟩;have:=hg.1;rw[hz] at this;simpa using this
 .obtain⟨k,hk⟩:=h1 hz
  refine h.alive hi dP aX mH hr nI (ph':=.w2 (vv A (λj=>(T j).ph) gs.size)) trivial (Oq _ _) id ⟨k,by rw[Zc];exact hk⟩ (λe=>absurd rfl e) ?_ hinv id (okR h.st.grp.live.lt rfl);unfold gP;rw[upd_same];refine⟨?_,U2 hg.2 id,?_,Nat.pos_of_ne_zero hz⟩
  .rw[Lg _ _ (.w2 _) trivial,<-Ev];exact hg.1
  .rw[Lg _ _ (.w2 _) trivial,<-Ev];exact bM _
theorem invW (h:Inv P ty Wg A Fin Shun gs w t T ch){ph':Ph L}(hw:(T 0).ph.waits)(sE:ph'.waits):A.Inv (bJ (λj=>(T j).ph.proj) 0 ph'.proj) ch:=by
 rw[zq6 T]
 .exact h.st.inv
 .cases hp:(T 0).ph<;>rw[hp] at hw<;>first|exact hw.elim|(cases ph'<;>first|exact sE.elim|rfl)
theorem Inv.cas (hA:A.Ok)(h:Inv P ty Wg A Fin Shun gs w t T ch)(hi:gs[0]? =some x)(dP:mE x (T 0).g){ι:Type}{f:ι->Rk}(hr:(T 0).r=.inr (.mk ι f)){vs:Nat}(oF:(T 0).ph=.w2 vs)
 (hB:Ao P ty Wg A Fin (λm ph d τ g w=>∃k,pJ P ty Wg A Fin (f k) m ph d τ g w) true (.w2 vs) (gY t 0) (T 0).τ (T 0).g w):wJ P ty Wg A Fin Shun gs w t T sl 0:=by
 have hv:=h.vlt hA;have hg:=h.st.grp;unfold gP at hg;simp only[oF] at hg;obtain⟨h1,h2,h3,h4⟩:=hg;have cG:(T 0).ph.waits:=by rw[oF];trivial
 have Ev:vv A (λj=>(T j).ph) gs.size=pL (λj=>(T j).ph) gs.size:=zaT _ _ cG;have nI:(T 0).ph.live:=h.st.role0;obtain⟨ha,hb⟩:=hB w b8.refl _ aC h1;rcases uR (vv A (λj=>(T j).ph) gs.size) vs with aT|Cc
 .obtain⟨g',aX,mH,k,hk⟩:=hb aT
  refine h.alive hi dP aX mH hr nI (ph':=.w1 vs) trivial (Oq _ _) id ⟨k,by rw[Zc];exact hk⟩ (λe=>absurd rfl e) ?_ (invW h cG trivial) id (okR h.st.grp.live.lt rfl);unfold gP;rw[upd_same];exact⟨by rw[Lg _ _ (.w1 vs) trivial,<-Ev];exact h1,U2 h2 id,by rw[Lg _ _ (.w1 vs) trivial,<-Ev];exact aT⟩
 .obtain⟨g',aX,mH,k,hk⟩:=ha aC
  have dC:=Om (v:=vv A (λj=>(T j).ph) gs.size) (wt:=1) h1;refine h.alive hi dP aX mH hr nI (ph':=.w3) trivial (Ou _ _) (λ_=>⟨_,_,dC⟩) ⟨k,by rw[zeZ];exact hk⟩ (λe=>absurd rfl e) ?_ (invW h cG trivial) (λe=>by have:=(zaS e dC).2;omega) (okRW zx5 rfl);unfold gP;rw[upd_same];refine .inl ⟨?_,?_,U2 h2 id⟩
  .rw[Lg _ _ .w3 trivial,<-Ev];omega
  .rw[Lg _ _ .w3 trivial,<-Ev];exact dC
theorem Inv.sleep (hA:A.Ok)(h:Inv P ty Wg A Fin Shun gs w t T ch)(hi:gs[0]? =some x)(dP:mE x (T 0).g){ι:Type}{f:ι->Rk}(hr:(T 0).r=.inr (.mk ι f))(oF:(T 0).ph=.w3)
 (hB:Ao P ty Wg A Fin (λm ph d τ g w=>∃k,pJ P ty Wg A Fin (f k) m ph d τ g w) true .w3 (gY t 0) (T 0).τ (T 0).g w):wJ P ty Wg A Fin Shun gs w t T sl 0:=by
 have hg:=h.st.grp;unfold gP at hg;simp only[oF] at hg;have cG:(T 0).ph.waits:=by rw[oF];trivial
 have Ev:vv A (λj=>(T j).ph) gs.size=pL (λj=>(T j).ph) gs.size:=zaT _ _ cG;have nI:(T 0).ph.live:=h.st.role0;obtain⟨ho,hB⟩:=hB;obtain⟨ha,hb⟩:=hB w b8.refl;have zEd:(∃x,jL ty Wg w x 0)\/(vv A (λj=>(T j).ph) gs.size=0/\(∀i,¬(T i).ph.last)/\jL ty Wg w 0 1):=by
  rcases hg with⟨_,h1,_⟩|⟨_,_,_,_,⟨_,h1⟩|⟨_,h1⟩⟩|h1
  .exact .inl ⟨_,h1⟩
  .exact .inl ⟨_,h1⟩
  .exact .inl ⟨_,h1⟩
  .exact .inr h1
 rcases zEd with h0|⟨h1,h2,h3⟩
 .have aX:=ha h0
  have vV:stepG P (0==0) x w=.go {(T 0).g with status:=.blocked} w #[]:=by rw[show((0:Nat)==0)=true from rfl,dP.step];exact aX
  have cO:=zdU (sl:=sl) hi vV;have ew:woken P x {(T 0).g with status:=.blocked} w=id:=by
   funext o;simp[woken]
  rw[ew,Array.map_id,zgc] at cO;obtain⟨y,hy⟩:=h0
  have hp:=h.park hi dP.1 (by rw[oF];exact id) (y:={(T 0).g with status:=.blocked}) rfl (.inr ⟨oF,rfl,ho⟩) (λ_ _ e=>by grind)
   (λc v z sh g e=>by
    have:=congrArg zos e;simp[parked,ho] at this)
   (λc z sh g e=>by
    have:=congrArg zos e;simp[parked,ho] at this)
  exact⟨_,_,cO,.inr ⟨_,_,sl,T,ch,rfl,hp.1,hp.2⟩⟩
 .obtain⟨g',aX,mH,k,hk⟩:=hb h3
  have dC:=zs2 h3 0;refine h.alive hi dP aX mH hr nI (ph':=.w4) trivial (zhJ _ _) (λ_=>⟨_,_,dC⟩) ⟨k,by rw[zwl];exact hk⟩ (λe=>absurd rfl e) ?_ (invW h cG trivial) (λe=>by omega) (okSem (by rw[(zhJ w _).size];exact h.st.grp.live.lt) rfl);unfold gP;rw[upd_same];exact⟨by rw[Lg _ _ .w4 trivial,<-Ev];exact h1,U2 h2 id,dC⟩
theorem Inv.woke (hA:A.Ok)(h:Inv P ty Wg A Fin Shun gs w t T ch)(hi:gs[0]? =some x)(dP:mE x (T 0).g){ι:Type}{f:ι->Rk}(hr:(T 0).r=.inr (.mk ι f))(oF:(T 0).ph=.w4)
 (hB:Ao P ty Wg A Fin (λm ph d τ g w=>∃k,pJ P ty Wg A Fin (f k) m ph d τ g w) true .w4 (gY t 0) (T 0).τ (T 0).g w):wJ P ty Wg A Fin Shun gs w t T sl 0:=by
 have hg:=h.st.grp;unfold gP at hg;simp only[oF] at hg;have cG:(T 0).ph.waits:=by rw[oF];trivial
 have Ev:vv A (λj=>(T j).ph) gs.size=pL (λj=>(T j).ph) gs.size:=zaT _ _ cG;obtain⟨g',aX,mH,k,hk⟩:=hB w b8.refl hg.2.2;refine h.alive hi dP aX mH hr h.st.role0 (ph':=.w5) trivial (Oq _ _) id ⟨k,by rw[Zc];exact hk⟩ (λe=>absurd rfl e) ?_ (invW h cG trivial) id (okR h.st.grp.live.lt rfl);unfold gP;rw[upd_same];exact⟨by rw[Lg _ _ .w5 trivial,<-Ev];exact hg.1,U2 hg.2.1 id,hg.2.2⟩
theorem Inv.fin (hA:A.Ok)(h:Inv P ty Wg A Fin Shun gs w t T ch)(hi:gs[0]? =some x)(dP:mE x (T 0).g){ι:Type}{f:ι->Rk}(hr:(T 0).r=.inr (.mk ι f))(oF:(T 0).ph=.w5)
 (hB:Ao P ty Wg A Fin (λm ph d τ g w=>∃k,pJ P ty Wg A Fin (f k) m ph d τ g w) true .w5 (gY t 0) (T 0).τ (T 0).g w):wJ P ty Wg A Fin Shun gs w t T sl 0:=by
 have hg:=h.st.grp;unfold gP at hg;simp only[oF] at hg;obtain⟨h1,h2,h3⟩:=hg;have Ev:vv A (λj=>(T j).ph) gs.size=pL (λj=>(T j).ph) gs.size:=zaT _ _ (by show(T 0).ph.waits;rw[oF];trivial);have Pb:∀j,j≠0->(T j).ph.leaves:=by
  intro j hj;rcases uR j gs.size with aT|Cc
  .have e1:=zts (p:=λj=>(T j).ph) (by rw[<-Ev];exact h1) j aT hj
   have e2:=h2 j;have e3:=h.st.role j hj;cases hp:(T j).ph<;>simp only[hp] at e1 e2 e3<;>first|trivial|(simp[Ph.pre] at e1;done)|exact absurd trivial e2|exact absurd trivial e3
  .rw[h.st.ou j Cc];trivial
 obtain⟨hd,hB⟩:=hB;have Mx:(λj=>(T j).ph.proj) 0=.waits:=by show(T 0).ph.proj=_;rw[oF];rfl
 have E8:∀(j:Nat) (l:L),(λj=>(T j).ph.proj) j≠ .run l:=λj l e=>by
  have e':(T j).ph.proj=.run l:=e;by_cases hj:j=0
  .simp_all
  .have:=Pb j hj
   cases hp:(T j).ph<;>rw[hp] at e' this<;>first|exact this.elim|cases e'
 obtain⟨g',aX,mH,hF⟩:=hB w b8.refl ⟨λj=>(T j).ph.proj,ch,h.st.inv,Mx,E8,λj l e=>h.st.depo j l e w b8.refl⟩;exact h.acquire hi dP aX mH hd Pb hF
theorem Inv.dec (hA:A.Ok)(h:Inv P ty Wg A Fin Shun gs w t T ch)(hi:gs[i]? =some x)(dP:mE x (T i).g){ι:Type}{f:ι->Rk}(hr:(T i).r=.inr (.mk ι f)){l:L}(oF:(T i).ph=.rel l)
 (hB:Ao P ty Wg A Fin (λm ph d τ g w=>∃k,pJ P ty Wg A Fin (f k) m ph d τ g w) (i==0) (.rel l) (gY t i) (T i).τ (T i).g w):wJ P ty Wg A Fin Shun gs w t T sl i:=by
 have aT:i<gs.size:=(eM.1 hi).1;have hv:=h.vlt hA;have h0:i≠0:=λe=>by subst e;have:=h.st.role0;rw[oF] at this;exact this
 have pI:¬(T i).ph.live:=by rw[oF];exact id
 have Cs:(T i).ph≠ .gone:=by rw[oF];simp
 have Yl:Wg<w.heap.size:=h.st.grp.live.lt;have key:∀ph':Ph L,ph'.pre=false->vv A (bJ (λj=>(T j).ph) i ph') gs.size+1=vv A (λj=>(T j).ph) gs.size:=by
  intro ph' hp;have:=zgL (λj=>(T j).ph) (i:=i) (n:=gs.size) ph' aT h0;unfold vv;rw[zgQ A _ h0];rw[hp] at this;simp only[oF,Ph.pre,if_true,iA,if_false] at this;omega
 have k1:=key (.quit l) rfl;have k2:=key (.l1 l) rfl;have zg6:(∀j,¬(T j).ph.last)->∀j,¬(bJ (λj=>(T j).ph) i (.quit l) j).last:=λhn j=>by
  by_cases hj:j=i
  .subst hj;rw[upd_same];exact id
  .rw[upd_ne _ _ hj];exact hn j
 have o7:∀e:0<gY t i,∀B,Wg<B->zoq Wg B (gY t i) [rd (stA Wg),wr (stA Wg)]:=λe B hB=>
  ⟨⟨.inr ⟨stA Wg,false,rfl,rfl,e⟩,hB⟩,⟨.inr ⟨stA Wg,true,rfl,rfl,by rw[Zc];exact e⟩,hB⟩,trivial⟩
 have u0:bJ (λj=>(T j).ph) i (.quit l) 0=(T 0).ph:=upd_ne _ _ (Ne.symm h0);have u1:bJ (λj=>(T j).ph) i (.l1 l) 0=(T 0).ph:=upd_ne _ _ (Ne.symm h0)
 have quit:∀(v wt:Nat),wt<=1->jL ty Wg w ((v+1:Nat)*KK+wt) 0->vv A (λj=>(T j).ph) gs.size=v+1->¬(v=0/\wt=1)->
  gP A ty Wg (bJ (λj=>(T j).ph) i (.quit l)) gs.size (w.setCell (stA Wg) (Mt.st v wt))->wJ P ty Wg A Fin Shun gs w t T sl i:=by
  intro v wt cG hW rI aS B8;obtain⟨g',aX,mH,hd,_,hq⟩:=hB w b8.refl v wt cG aC hW;obtain⟨q,hQ⟩:=hq aS;have dC:=Om (v:=v) (wt:=wt) hW
  exact h.dead hi dP aX L9 (Ti:=⟨.quit l,.inl q,(T i).τ,g'⟩) (by rw[hr];exact .sep _ _) rfl pI Cs h0 id aQ (Ou _ _) (λ_=>⟨_,_,dC⟩)
   ((Il (T:=⟨.quit l,.inl q,(T i).τ,g'⟩) trivial).2 ⟨q,rfl,by rw[zeZ];exact hQ⟩) (by rw[oF];rfl) B8 (.inr λe=>by have:=(zaS e dC).2;omega) (Yq (o7 hd _ (by rw[(Ou w _).size];exact Yl)))
 have hg:=h.st.grp;unfold gP at hg;have norm:∀v:Nat,((v:Int)*KK)=((v:Nat):Int)*KK+((0:Nat):Int):=λv=>by simp
 have pos:0<vv A (λj=>(T j).ph) gs.size:=aC;obtain⟨v,rI⟩:∃v,vv A (λj=>(T j).ph) gs.size=v+1:=⟨_,(Nat.succ_pred_eq_of_pos pos).symm⟩;have e1:vv A (bJ (λj=>(T j).ph) i (.quit l)) gs.size=v:=aC;have e2:vv A (bJ (λj=>(T j).ph) i (.l1 l)) gs.size=v:=aC
 cases yO:(T 0).ph with
 |gone=>have:=h.st.role0;rw[yO] at this;exact this.elim
 |rel _=>have:=h.st.role0;rw[yO] at this;exact this.elim
 |l1 _=>have:=h.st.role0;rw[yO] at this;exact this.elim
 |l2 _=>have:=h.st.role0;rw[yO] at this;exact this.elim
 |l3 _=>have:=h.st.role0;rw[yO] at this;exact this.elim
 |quit _=>have:=h.st.role0;rw[yO] at this;exact this.elim
 |usr l0=>
  simp only[yO] at hg;rw[rI] at hg;refine quit v 0 aC zmM rI aC ?_;unfold gP;rw[u0,yO];simp only;exact⟨by rw[e1];simpa using Om (v:=v) (wt:=0) hg.1,zg6 hg.2⟩
 |w1 b=>
  simp only[yO] at hg;rw[rI] at hg;refine quit v 0 aC zmM rI aC ?_;unfold gP;rw[u0,yO];simp only;exact⟨by rw[e1];simpa using Om (v:=v) (wt:=0) hg.1,zg6 hg.2.1,aC⟩
 |w2 vs=>
  simp only[yO] at hg;rw[rI] at hg;refine quit v 0 aC zmM rI aC ?_;unfold gP;rw[u0,yO];simp only;exact⟨by rw[e1];simpa using Om (v:=v) (wt:=0) hg.1,zg6 hg.2.1,aC,hg.2.2.2⟩
 |w4=>simp only[yO] at hg;omega
 |w5=>simp only[yO] at hg;omega
 |w3=>
  simp only[yO] at hg;rcases hg with⟨_,hW,hn⟩|⟨hz,_⟩|⟨hz,_⟩
  .rw[rI] at hW
   have Zj:jL ty Wg w ((v+1:Nat)*KK+(1:Nat)) 0:=by simpa using hW
   by_cases gZ:v=0
   .obtain⟨g',aX,mH,hd,hk,_⟩:=hB w b8.refl v 1 aC aC Zj
    obtain⟨k,hk⟩:=hk ⟨gZ,rfl⟩;have dC:=Om (v:=v) (wt:=1) Zj
    refine h.dead hi dP aX L9 (Ti:=⟨.l1 l,.inr (f k),(T i).τ,g'⟩) Pc rfl pI Cs h0 id aQ (Ou _ _) (λ_=>⟨_,_,dC⟩)
     ((qG (T:=⟨.l1 l,.inr (f k),(T i).τ,g'⟩) id).2 ⟨f k,rfl,by rw[zeZ];exact hk,.inl (mE.self mH)⟩) (by rw[oF];rfl) ?_ (.inr λe=>by have:=(zaS e dC).2;omega) (Yq (o7 hd _ (by rw[(Ou w _).size];exact Yl)))
    unfold gP;rw[u1,yO];simp only;refine .inr (.inl ⟨aC,i,l,λj hj=>?_,.inl ⟨.inl (upd_same _ _ _),?_⟩⟩)
    .by_cases fO:j=i
     .exact fO
     .rw[upd_ne _ _ fO] at hj;exact absurd hj (hn j)
    .subst gZ;simpa using dC
   .refine quit v 1 aC Zj rI aC ?_
    unfold gP;rw[u0,yO];simp only;exact .inl ⟨aC,by rw[e1];simpa using Om (v:=v) (wt:=1) Zj,zg6 hn⟩
  .omega
  .omega
theorem Inv.lastGrp (h:Inv P ty Wg A Fin Shun gs w t T ch)(hl:(T i).ph.last):(T 0).ph=.w3/\vv A (λj=>(T j).ph) gs.size=0/\(∀j,(T j).ph.last->j=i)/\((∃l,((T i).ph=.l1 l\/(T i).ph=.l2 l))/\jL ty Wg w 1 0\/(∃l,(T i).ph=.l3 l)/\jL ty Wg w 0 0):=by
 have hg:=h.st.grp;unfold gP at hg
 grind
theorem Inv.last (hA:A.Ok)(h:Inv P ty Wg A Fin Shun gs w t T ch)(hi:gs[i]? =some x)(dP:mE x (T i).g){ι:Type}{f:ι->Rk}(hr:(T i).r=.inr (.mk ι f))(hl:(T i).ph.last)
 (hB:Ao P ty Wg A Fin (λm ph d τ g w=>∃k,pJ P ty Wg A Fin (f k) m ph d τ g w) (i==0) (T i).ph (gY t i) (T i).τ (T i).g w):wJ P ty Wg A Fin Shun gs w t T sl i:=by
 have aT:=(eM.1 hi).1;obtain⟨h3,hz,hu,hc⟩:=h.lastGrp hl;have h0:i≠0:=λe=>by subst e;rw[h3] at hl;exact hl
 have pI:¬(T i).ph.live:=λe=>by cases hp:(T i).ph<;>rw[hp] at hl e<;>first|exact hl.elim|exact e.elim
 have Cs:(T i).ph≠ .gone:=λe=>by rw[e] at hl;exact hl
 have Yl:=h.st.grp.live.lt;have zmx:(T i).ph.pre=false:=by cases hp:(T i).ph<;>rw[hp] at hl<;>first|exact hl.elim|rfl
 have key:∀ph':Ph L,ph'.pre=false->vv A (bJ (λj=>(T j).ph) i ph') gs.size=0:=by
  intro ph' hp;have:=zgL (λj=>(T j).ph) (i:=i) (n:=gs.size) ph' aT h0;rw[hp,zmx] at this;unfold vv at hz⊢;rw[zgQ A _ h0];simp only[iA,if_false] at this;omega
 have zch:∀ph':Ph L,∀j,(bJ (λj=>(T j).ph) i ph' j).last->j=i:=λph' j hj=>by
  by_cases fO:j=i
  .exact fO
  .rw[upd_ne _ _ fO] at hj;exact hu j hj
 have u0:∀ph':Ph L,bJ (λj=>(T j).ph) i ph' 0=.w3:=λph'=>(upd_ne _ _ (Ne.symm h0)).trans h3;rcases hc with⟨⟨l,hp|hp⟩,hW⟩|⟨⟨l,hp⟩,hW⟩
 .simp only[hp] at hB
  obtain⟨g',aX,mH,hd,k,hk⟩:=hB w b8.refl hW
  refine h.dead hi dP aX L9 (Ti:=⟨.l2 l,.inr (f k),(T i).τ,g'⟩) Pc rfl pI Cs h0 id aQ (Oq _ _) id
   ((qG (T:=⟨.l2 l,.inr (f k),(T i).τ,g'⟩) id).2 ⟨f k,rfl,by rw[Zc];exact hk,.inl (mE.self mH)⟩) (by rw[hp];rfl) ?_ (.inr id) (Yq (es:=[rd (stA Wg)]) ⟨⟨.inr ⟨stA Wg,false,rfl,rfl,hd⟩,Yl⟩,trivial⟩)
  unfold gP;rw[u0];exact .inr (.inl ⟨key _ rfl,i,l,zch _,.inl ⟨.inr (upd_same _ _ _),hW⟩⟩)
 .simp only[hp] at hB
  obtain⟨g',aX,mH,hd,k,hk⟩:=hB w b8.refl hW;have dC:=Om (v:=0) (wt:=0) hW;have n6:jL ty Wg (w.setCell (stA Wg) (Mt.st 0 0)) 0 0:=by simpa using dC
  refine h.dead hi dP aX L9 (Ti:=⟨.l3 l,.inr (f k),(T i).τ,g'⟩) Pc rfl pI Cs h0 id aQ (Ou _ _) (λ_=>⟨_,_,n6⟩)
   ((qG (T:=⟨.l3 l,.inr (f k),(T i).τ,g'⟩) id).2 ⟨f k,rfl,by rw[deaf_wr];exact hk,.inl (mE.self mH)⟩) (by rw[hp];rfl) ?_ (.inr λe=>by have:=(zaS e n6).2;omega)
   (Yq (es:=[wr (stA Wg)]) ⟨⟨.inr ⟨stA Wg,true,rfl,rfl,hd⟩,by rw[(Ou w _).size];exact Yl⟩,trivial⟩)
  unfold gP;rw[u0];exact .inr (.inl ⟨key _ rfl,i,l,zch _,.inr ⟨upd_same _ _ _,n6⟩⟩)
 .simp only[hp] at hB
  obtain⟨zbQ,hB⟩:=hB;obtain⟨g',aX,mH,hd,q,hQ⟩:=hB w b8.refl hW;have dC:=zs2 hW 1;have zgq:Wg<(w.setCell (smA Wg) (.int .u32 1)).heap.size:=by rw[(zhJ w _).size];exact Yl
  refine h.dead hi dP aX L9 (Ti:=⟨.quit l,.inl q,(T i).τ,g'⟩) (by rw[hr];exact .sep _ _) rfl pI Cs h0 id aQ (zhJ _ _) (λ_=>⟨_,_,dC⟩)
   ((Il (T:=⟨.quit l,.inl q,(T i).τ,g'⟩) trivial).2 ⟨q,rfl,by rw[zwl];exact hQ⟩) (by rw[hp];rfl) ?_ (.inl ⟨zbQ,mH⟩)
   (Yq (es:=[⟨.mark .disable,false,true⟩,⟨.cell (smA Wg),false,true⟩,⟨.cell (smA Wg),true,true⟩,⟨.mark .enable,false,true⟩]) ⟨⟨.inl rfl,zgq⟩,⟨.inr ⟨_,_,rfl,rfl,by simp[oN]⟩,zgq⟩,⟨.inr ⟨_,_,rfl,rfl,by simp[oN]⟩,zgq⟩,⟨.inl rfl,zgq⟩,trivial⟩)
  unfold gP;rw[u0];refine .inr (.inr ⟨key _ rfl,λj hj=>?_,dC⟩);have:=zch _ j hj;subst this;rw[upd_same] at hj;exact hj
theorem Inv.note (hA:A.Ok)(h:Inv P ty Wg A Fin Shun gs w t T ch)(hi:gs[i]? =some x)(dP:mE x (T i).g){ι:Type}{f:ι->Rk}(hr:(T i).r=.inr (.mk ι f)){l l':L}(hl:(T i).ph=.usr l){can:L->Prop}(ha:A.act l=.note can)(hc:can l')
 {k:ι} (hk:pJ P ty Wg A Fin (f k) (i==0) (.usr l') (gY t i) (T i).τ (T i).g w):Inv P ty Wg A Fin Shun gs w t (bJ T i ⟨.usr l',.inr (f k),(T i).τ,(T i).g⟩) ch/\Mu.lt (mu gs (bJ T i ⟨.usr l',.inr (f k),(T i).τ,(T i).g⟩)) (mu gs T):=by
 have aT:=(eM.1 hi).1;have hp:(λk=>(T k).ph.proj) i=.run l:=by show(T i).ph.proj=_;rw[hl];rfl
 obtain⟨zm6,hinv⟩:=hA.note _ ch i l can l' h.st.inv hp ha hc;have B8:=gP.usr (l:=l) h.st.grp hl aT zm6;have hS:=h.st.phase (r:=.inr (f k)) (g':=(T i).g) (by rw[hl];simp) aT (Oq _ _) (.usr l') aQ (λ_=>trivial) (λ_ e=>e) id (λl' e=>by simp[Ph.proj] at e) B8 hinv;refine⟨⟨hS,?_⟩,?_⟩
 .refine h.dy.gen (λk'=>k'=i) (λk' cZ=>⟨rfl,upd_ne _ _ cZ⟩) (λk' y cZ hy=>?_) (λ_ _=>b8.refl) (λk' _=>rfl) (λ_ e=>e) id ?_
  .subst cZ
   rw[hi] at hy;cases hy;refine⟨by rw[dP.1];simp,?_⟩;rw[upd_same];exact(qG (T:=⟨.usr l',.inr (f k),(T k').τ,(T k').g⟩) id).2 ⟨f k,rfl,hk,.inl dP⟩
  .exact h.dy.tr.phase (i:=i) (ph':=.usr l') (.inr (f k)) (T i).g ⟨λ_=>by rw[hl];trivial,λ_=>trivial⟩
 .exact Yz (i:=i) (λ_=>rfl) aC aT aT zvB λk' cZ=>by rw[upd_ne _ _ aC]
def ResT (P:cD)(ty:aM)(Wg:Nat)(A:jV L)(Fin:bE->aE->Prop)(Shun:rD->Prop)(gs:Array bE)(w:aE)(t:mR)(T:Nat->Td L)(sl:Option (Nat×Nat))(i:Nat):Prop:=
 ∃m' ops,runT P (crowd gs w sl) i=(.next m',ops)/\
  (Q1 P Wg Fin Shun m' (t++ops)\/∃gs' w' Mf T' wH,m'=crowd gs' w' Mf/\Inv P ty Wg A Fin Shun gs' w' (t++ops) T' wH/\Relation.TransGen Mu.lt (mu gs' T') (mu gs T))
theorem qW (h:wJ P ty Wg A Fin Shun gs w t T sl i):ResT P ty Wg A Fin Shun gs w t T sl i:=by
 obtain⟨m',ops,h1,h2⟩:=h;refine⟨m',ops,h1,h2.imp id ?_⟩;rintro⟨a,b,c,d,e,h3,h4,h5⟩;exact⟨a,b,c,d,e,h3,h4,.single h5⟩
theorem Inv.stepR (hA:A.Ok)(hi:gs[i]? =some x)(cO:x.status=.running):∀(r:Rk) {T:Nat->Td L},Inv P ty Wg A Fin Shun gs w t T ch->(T i).r=.inr r->ResT P ty Wg A Fin Shun gs w t T sl i:=by
 intro r
 induction r with
 |mk ι f ih=>
  intro T h hr;by_cases hl:(T i).ph.leaves
  .exact qW (h.leaver hi cO hl)
  have hs:=h.dy.sit i x hi;rw[qG hl] at hs;obtain⟨r',zL,hB,hx⟩:=hs;obtain rfl:r'=.mk ι f:=by simp_all
  have dP:mE x (T i).g:=by
   rcases hx with hx|⟨_,_,_,_,rfl,_⟩|⟨_,rfl,_⟩
   .exact hx
   .cases cO
   .cases cO
  obtain⟨_,hB⟩:=hB;have hK:∀m ph d τ g w,(λm ph d τ g w=>∃k,pJ P ty Wg A Fin (f k) m ph d τ g w) m ph d τ g w->∃k,pJ P ty Wg A Fin (f k) m ph d τ g w:=λ_ _ _ _ _ _ e=>e;have main:(T i).ph.waits->i=0:=λe=>Au λh0=>h.st.role i h0 e;rcases hB with hB|hB
  .cases hp:(T i).ph<;>rw[hp] at hB<;>first|exact hB.elim|skip
   .exact qW (h.ownG hi dP Ec hr hK Vx)
   .exact qW (h.idle1 hi dP zh4 hl hr hK zfm)
   .exact qW (h.idle1 hi dP zh4 hl hr hK zfm)
   .exact qW (h.idle1 hi dP zh4 hl hr hK zfm)
   .exact qW (h.idle1 hi dP zh4 hl hr hK zfm)
   .exact qW (h.ownG hi dP Ec hr hK Vx)
   .exact qW (h.ownG hi dP Ec hr hK Vx)
   .exact qW (h.ownG hi dP Ec hr hK Vx)
   .exact qW (h.ownG hi dP Ec hr hK Vx)
   .exact qW (h.ownG hi dP Ec hr hK Vx)
  .cases hp:(T i).ph with
   |gone=>rw[hp] at hB;exact hB.elim
   |quit l=>rw[hp] at hB;exact hB.elim
   |rel l=>rw[hp] at hB;exact qW (h.dec hA hi dP hr hp hB)
   |l1 l=>exact qW (h.last hA hi dP hr Ec hB)
   |l2 l=>exact qW (h.last hA hi dP hr Ec hB)
   |l3 l=>exact qW (h.last hA hi dP hr Ec hB)
   |w1 b=>
    obtain rfl:=main Ec;rw[hp] at hB;exact qW (h.look hA hi dP hr (.inl ⟨b,hp⟩) λaJ lT v hv=>hB aJ lT v (hv b hp))
   |w2 v=>
    obtain rfl:=main Ec;rw[hp] at hB;exact qW (h.cas hA hi dP hr hp hB)
   |w3=>
    obtain rfl:=main Ec;rw[hp] at hB;exact qW (h.sleep hA hi dP hr hp hB)
   |w4=>
    obtain rfl:=main Ec;rw[hp] at hB;exact qW (h.woke hA hi dP hr hp hB)
   |w5=>
    obtain rfl:=main Ec;rw[hp] at hB;exact qW (h.fin hA hi dP hr hp hB)
   |usr l=>
    rw[hp] at hB;simp only[Ao] at hB
    cases ha:A.act l with
    |send c ok pub nx=>exact qW (h.send hA hi dP hr hp ha hB)
    |recv c ok nx sh=>exact qW (h.recv hA hi dP hr hp ha hB)
    |close c nx=>exact qW (h.close hA hi dP hr hp ha hB)
    |add nx=>exact qW (h.add hA hi dP hr hp ha hB)
    |spawn pub lc nx=>exact qW (h.spawn hA hi dP hr hp ha hB)
    |done=>
     unfold nG at hB;rw[ha] at hB;obtain⟨hd,_,uI,h1⟩:=hB;obtain⟨g',aX,mH,hk⟩:=h1 w b8.refl;exact qW (h.release hA hi dP aX mH hr hp ha hd uI hk)
    |note can=>
     unfold nG at hB;rw[ha] at hB;obtain⟨l',hc,k,hk⟩:=hB;obtain⟨hI,hm⟩:=h.note hA hi dP hr hp ha hc hk;obtain⟨m',ops,h1,h2⟩:=ih k hI (by rw[upd_same]);refine⟨m',ops,h1,h2.imp id ?_⟩;rintro⟨a,b,c,d,e,h3,h4,h5⟩;exact⟨a,b,c,d,e,h3,h4,.tail h5 hm⟩
    |wait=>
     have h0:=(hA.wait _ ch i l h.st.inv (by show(T i).ph.proj=_;rw[hp];rfl) ha).1;subst h0;unfold nG at hB;rw[ha] at hB;exact qW (h.look hA hi dP hr (.inr ⟨l,hp,ha⟩) λaJ lT v _=>hB aJ lT v)
theorem Inv.step (hA:A.Ok)(h:Inv P ty Wg A Fin Shun gs w t T ch)(hi:gs[i]? =some x)(cO:x.status=.running):ResT P ty Wg A Fin Shun gs w t T sl i:=by
 by_cases hl:(T i).ph.leaves
 .exact qW (h.leaver hi cO hl)
 have hs:=h.dy.sit i x hi;rw[qG hl] at hs;obtain⟨r,hr,_,_⟩:=hs;exact Inv.stepR hA hi cO r h hr
theorem zHT (hA:A.Ok)(h:Inv P ty Wg A Fin Shun gs w t T ch)(sl:Option (Nat×Nat)):∃N m' t',runNT P N (crowd gs w sl) t=(.next m',t')/\Q1 P Wg Fin Shun m' t':=by
 refine run_to (zEm Mu.wf) (λμ m t=>∃gs w sl T ch,m=crowd gs w sl/\Inv P ty Wg A Fin Shun gs w t T ch/\μ=mu gs T) (Q1 P Wg Fin Shun) ?_ _ _ _ ⟨gs,w,sl,T,ch,rfl,h,rfl⟩;rintro μ m t ⟨gs,w,sl,T,ch,rfl,h,rfl⟩;obtain⟨i,g,d,Mf,hi,hg,aX⟩:=crowd_pick (P:=P) (w:=w) (sl:=sl) h.awake (h.some1 hA);obtain⟨m',ops,cO,zC6⟩:=(h.at d).step hA hi hg (sl:=Mf)
 grind
end
end Go.Mt
namespace Go.Tt
section
variable {P:dQ}{S:aP->Prop}{K:Pr}{R:Pr}
variable {f:aF->aF->dA aF}
theorem zre (hf:∀(R:Pr) a a' b b',VR S K R a a'->VR S K R b b'->aG P S K (VA S K) (f a b) R (f a' b')):
 ∀(l l':List aF) {R:Pr} {x x':aF},VR S K R x x'->xW S K R l l'->aG P S K (VA S K) (l.foldlM f x) R (l'.foldlM f x')
 |[],[],R,x,x',hx,_=>aG.ret hx
 |[],_::_,_,_,_,_,h=>by have:=h.1;simp at this
 |_::_,[],_,_,_,_,h=>by have:=h.1;simp at this
 |a::l,a'::l',R,x,x',hx,h=>by
  obtain⟨h1,h2⟩:=h.cons;simp only[List.foldlM_cons];refine aG.bnd (hf R _ _ _ _ hx h1) ?_;intro R1 e1 v v' hv;exact zre hf l l' hv (h2.mono e1.le)
theorem zGx {a a' b b':aF}(ha:VR S K R a a')(hb:VR S K R b b'):aG P S K (VA S K) (zvU a b) R (zvU a' b'):=by
 cases ha with
 |int k n=>cases hb with
  |int k' n'=>exact aG.ret (.int _ _)
  |pointer h=>cases h<;>first|exact .inl jT|exact .inl bR
  |_=>exact .inl bR
 |string s=>cases hb with
  |string s'=>
   refine aG.bnd (zhm .geq s s') ?_;intro R1 e1 v v' hv;refine aG.bnd (zsF hv) ?_;rintro R2 e2 x _ rfl;exact aG.ret (.string _)
  |pointer h=>cases h<;>first|exact .inl jT|exact .inl bR
  |_=>exact .inl bR
 |pointer h=>cases h<;>cases hb<;>first|exact .inl jT|exact .inl bR|(rename_i h2;cases h2<;>first|exact .inl jT|exact .inl bR)
 |_=>cases hb<;>first|exact .inl jT|exact .inl bR|(rename_i h2;cases h2<;>first|exact .inl jT|exact .inl bR)
theorem sim_max (ts:Array aM)(t:aM){xs cC:Array aF}(h:bQ S K R xs cC):aG P S K (VA S K) (zje ts t xs) R (zje ts t cC):=by
 unfold zje;have hl:=h.toList;generalize xs.toList=l at hl⊢;generalize cC.toList=l' at hl⊢;cases l<;>cases l'
 .exact .inl bR
 .have:=hl.1;simp at this
 .have:=hl.1;simp at this
 .exact zre (λR a a' b b'=>zGx) _ _ hl.cons.1 hl.cons.2
variable {f:aF->ByteArray->dA (ForInStep ByteArray)}
theorem zx9 (hf:∀(R:Pr) c c' s,VR S K R c c'->aG P S K l7 (f c s) R (f c' s)):∀(l l':List aF) {R:Pr} (s:ByteArray),xW S K R l l'->
 aG P S K l7 (forIn (m:=dA) l s f) R (forIn (m:=dA) l' s f)
 |[],[],R,s,_=>aG.ret rfl
 |[],_::_,_,_,h=>by have:=h.1;simp at this
 |_::_,[],_,_,h=>by have:=h.1;simp at this
 |a::l,a'::l',R,s,h=>by
  obtain⟨h1,h2⟩:=h.cons;simp only[List.forIn_cons];refine aG.bnd (hf R a a' s h1) ?_;rintro R1 e1 x _ rfl
  cases x with
  |done b=>exact aG.ret rfl
  |yield b=>exact zx9 hf l l' b (h2.mono e1.le)
variable {x':aF}
theorem zCN {x:aF}(h:VR S K R x x'):aG P S K (VA S K) (zdW x) R (zdW x'):=by
 unfold zdW
 cases h with
 |slice ha=>
  cases ha with
  |none=>exact aG.ret (.string _)
  |some ha=>
   refine aG.bnd (zmN ha _) ?_;intro R1 e1 xs cC hx;simp only;rw[<-zqr,<-zqr];refine aG.bnd (zx9 (λR c c' s hc=>?_) _ _ _ hx.toList) ?_
   .cases hc with
    |int k n=>cases k<;>first|exact aG.ret rfl|exact .inl (bR.bnd _)|exact .inl bR
    |_=>first|exact .inl (bR.bnd _)|exact .inl bR
   rintro R2 e2 s _ rfl;exact aG.ret (.string _)
 |_=>exact .inl bR
def znM (v:aF):dA Next:=
 match v with
 | .pointer none| .nilIface| .nilFunc=>runtimePanic .nilDeref
 | .func (.method name) first captured=>
  match(first[0]? :Option aF) with
  |some .nilIface=>runtimePanic .nilDeref
  |some (.iface t w)=>do
   if(<-nilAhead ((<-program).types.size+Made.depth) t w name) !=some false then
    unsupported (.noEntry "op/nilCheck.the method's receiver behind this interface value is a nil pointer, or cannot be seen to be none, and the arguments act or may panic (ledger 612)")
   pure (.value (.func (.method name) first captured))
  |_=>pure (.value (.func (.method name) first captured))
 |x=>pure (.value x)
theorem zBl {x:aF}(h:VR S K R x x'):aG P S K (λR a b=>∃v v',a=.value v/\b=.value v'/\VR S K R v v') (znM x) R (znM x'):=by
 unfold znM;have h0:=h
 cases h with
 |pointer h=>cases h with
  |none=>exact .inl wA
  |some h=>exact aG.ret ⟨_,_,rfl,rfl,h0⟩
 |nilIface=>exact .inl wA
 |nilFunc=>exact .inl wA
 |junk h=>exact .inl wA
 |_=>exact aG.ret ⟨_,_,rfl,rfl,h0⟩
end
end Go.Tt
namespace Go.Tt
open Go.Conc
end Go.Tt
namespace Go.Tt
def zdQ (p:cD)(t:aM):Bool:=
 match p.underlying t with
 |some (.int _)=>(match p.info? t with|some i=>(match i.desc with| .named "sync.copyChecker" _=>false|_=>true)|none=>true)
 |some d=>zdy d
 |none=>false
def zt6:aF->Bool
 | .bool _| .int _ _| .string _| .nilFunc| .nilIface| .pointer none| .slice none _ _| .map none| .chan none=>true
 |_=>false
def Z4 (p:cD)(t:aM):Bool:=match p.underlying t with|some (.map k _)=>zdQ p k|_=>true
def zbS (p:cD)(t:aM):Bool:=match p.underlying t with|some (.int _)=>true|_=>false
def eD (fs:aP->Bool):cN->Bool
 | .tmp _=>true
 | .const v=>zt6 v
 | .global _=>false
 | .func f=>fs f
def okTab (p:cD):cN->Bool
 | .global g=>Co p g
 |_=>false
structure Cl where
 fs:aP->Bool
 gs:aP->Bool
 dy:Bool
abbrev Cl.T (c:Cl)(f:aP):Prop:=c.gs f=true
def zhB (p:cD)(t:aM):Bool:=match p.underlying t with|some (.slice e)=>(match p.underlying e with|some (.int .u8)=>true|_=>false)|_=>false
def zhd (p:cD)(t:aM):Bool:=match p.underlying t with|some .string=>true|_=>false
def zhk (p:cD)(t:aM):cN->Bool
 | .const (.pointer none)=>(match p.underlying t with|some (.pointer _)=>true|_=>false)
 |_=>false
def zvu (c:Cl):cN->Bool
 | .func g=>c.gs g
 |x=>eD c.fs x&&c.dy
def sO (p:cD)(c:Cl):Op->Bool
 | .move x| .assign x| .nilCheck x=>eD c.fs x
 | .pick q a b=>eD c.fs q&&eD c.fs a&&eD c.fs b
 | .alloc _=>true
 | .box _ x=>eD c.fs x
 | .build _ ps=>ps.all λx=>eD c.fs x.2
 | .buildSlice _ _ ps=>ps.all λx=>eD c.fs x.2
 | .load _ a=>eD c.fs a
 | .store _ a x=>eD c.fs a&&eD c.fs x
 | .binOp op t x y _=>eD c.fs x&&eD c.fs y&&(if op matches .eql| .neq then(zdQ p t||zhk p t y)&& !(p.eqGuardType p.depth t) else true)
 | .unOp _ _ x=>eD c.fs x
 | .convert s d x=>eD c.fs x&&((zbS p s&&zbS p d)||(zhB p s&&zhd p d))
 | .makeFunc (.func f) a b=>c.fs f&&a.all (eD c.fs)&&b.all (eD c.fs)
 | .makeMap _ r=>(match r with|some x=>eD c.fs x|none=>true)
 | .makeSlice _ l q=>eD c.fs l&&eD c.fs q
 | .makeChan _ l=>eD c.fs l
 | .slice _ x lo hi mx=>eD c.fs x&&(match lo with|some x=>eD c.fs x|none=>true)&&(match hi with|some x=>eD c.fs x|none=>true)&&(match mx with|some x=>eD c.fs x|none=>true)
 | .fieldAddr _ x _| .extract x _=>eD c.fs x
 | .indexAddr _ x i=>(eD c.fs x||okTab p x)&&eD c.fs i
 | .index _ x i=>eD c.fs x&&eD c.fs i
 | .makeInterface _ x| .panic x=>eD c.fs x
 | .lookup t x i _=>eD c.fs x&&eD c.fs i&&Z4 p t
 | .mapUpdate t m k x=>eD c.fs m&&eD c.fs k&&eD c.fs x&&Z4 p t
 | .call {callee:=.value f,args,..}=>zvu c f&&args.all (eD c.fs)
 | .call {callee:=.builtin .len,args,..}| .call {callee:=.builtin .cap,args,..}| .call {callee:=.builtin .copy,args,..}| .call {callee:=.builtin .append,args,..}| .call {callee:=.builtin .clear,args,..}| .call {callee:=.builtin .max,args,..}=>args.all (eD c.fs)
 | .call {callee:=.builtin .delete,args,argTypes}=>args.all (eD c.fs)&&(match argTypes[0]? with|some t=>Z4 p t|none=>true)
 |_=>false
section
variable {P:dQ}{fs:aP->Bool}{K R:Pr}
abbrev SF (fs:aP->Bool):aP->Prop:=λf=>fs f=true
variable {t:aM}
theorem zeX (h:zdQ P.c t=true):Mr P t:=by
 unfold zdQ at h;have hu:∀d,P.c.underlying t=some d->P.underlying t=some d:=λd e=>e;split at h
 .next k e=>
  refine⟨⟨_,e,rfl⟩,λk' _ i x hi hd=>?_⟩;simp_all
 .next d aS e=>
  exact⟨⟨d,e,h⟩,λk hk=>absurd (e.symm.trans hk) tV⟩
 .cases h
theorem zqT {v:aF}(h:zt6 v=true):VR (SF fs) K R v v:=by
 cases v with
 |bool b=>exact .bool b
 |int k n=>exact .int k n
 |string s=>exact .string s
 |nilFunc=>exact .nilFunc
 |nilIface=>exact .nilIface
 |pointer a=>cases a with|none=>exact .pointer .none|some a=>cases h
 |slice a n c=>cases a with|none=>exact .slice .none|some a=>cases h
 |map a=>cases a with|none=>exact .map .none|some a=>cases h
 |chan a=>cases a with|none=>exact .chan .none|some a=>cases h
 |_=>cases h
inductive NxR (S:aP->Prop)(T:aP->Prop)(K R:Pr):Next->Next->Prop
 |value {v v':aF}:VR S K R v v'->NxR S T K R (.value v) (.value v')
 |skip:NxR S T K R .skip .skip
 |enter {f:aP} {xs cC:Array aF}:T f->bQ S K R xs cC->NxR S T K R (.enter f xs) (.enter f cC)
abbrev NA (S:aP->Prop)(T:aP->Prop)(K:Pr):Pr->Next->Next->Prop:=λR n n'=>NxR S T K R n n'
def qC {S T:aP->Prop}{s s':dA aF}(h:aG P S K (VA S K) s R s'):aG P S K (NA S T K) (do pure (.value (<-s))) R (do pure (.value (<-s'))):=
 aG.bnd h λ_ _ _ _ hv=>aG.ret (.value hv)
variable {α:Type}
def sim_u {S T:aP->Prop}{s s':dA α}(h:aG P S K l7 s R s'):aG P S K (NA S T K) (do let _<-s;pure .skip) R (do let _<-s';pure .skip):=
 aG.bnd h λ_ _ _ _ _=>aG.ret .skip
variable {ρ ρ':cN->aF}
theorem bQ.maps {S:aP->Prop}{ok:cN->Bool}(h:∀x,ok x=true->VR S K R (ρ x) (ρ' x)){xs:Array cN}(hx:xs.all ok=true):bQ S K R (xs.map ρ) (xs.map ρ'):=by
 refine⟨aQ,λi v v' h1 h2=>?_⟩
 grind
theorem zA5 {S:aP->Prop}(op:BinOp)(t:aM)(x y:cN){a a' b b':aF}(ha:VR S K R a a')(hb:VR S K R b b')(h:P.c.eqGuardType P.c.depth t=false)(h':P.g.eqGuardType P.g.depth t=false):
 aG P S K l7 (eqGuard op t x y a b) R (eqGuard op t x y a' b'):=by
 have rest:aG P S K l7 (do
  match a,b with
  | .nilIface,.nilIface=>
   if(x matches .const _)||(y matches .const _) then return
   if<-Sd Ug t a b then unsupported (.noEntry "binop/eql: two nil values of an interface type with methods, neither of them the literal nil")
  | .agg _,.agg _=>
   if !(<-program).eqGuardType (<-program).depth t then return
   if<-Sd Ug t a b then unsupported (.noEntry "binop/eql: two nil values of an interface type with methods, in a part of a struct or an array")
  |_,_=>pure ()) R (do
  match a',b' with
  | .nilIface,.nilIface=>
   if(x matches .const _)||(y matches .const _) then return
   if<-Sd Ug t a' b' then unsupported (.noEntry "binop/eql: two nil values of an interface type with methods, neither of them the literal nil")
  | .agg _,.agg _=>
   if !(<-program).eqGuardType (<-program).depth t then return
   if<-Sd Ug t a' b' then unsupported (.noEntry "binop/eql: two nil values of an interface type with methods, in a part of a struct or an array")
  |_,_=>pure ()):=by
  cases ha with
  |nilIface=>
   cases hb with
   |nilIface=>
    simp only;by_cases hc:((x matches .const _)||(y matches .const _))=true
    .rw[if_pos hc]
     exact aG.ret rfl
    .rw[if_neg hc]
     refine aG.bnd (A:=l7) ?_ λR1 h1 c _ e=>?_
     .show aG P S K l7 (Sd (9999+1) t .nilIface .nilIface) R (Sd (9999+1) t .nilIface .nilIface)
      unfold Sd;refine aG.bnd (mX t) ?_;rintro R1 h1 d _ ⟨rfl,_⟩;cases d<;>exact aG.ret rfl
     .subst e
      cases c
      .exact aG.ret rfl
      .exact .inl jT
   |junk hh=>cases b'<;>first|exact hh.elim|exact aG.ret rfl
   |_=>exact aG.ret rfl
  |agg e1 e2=>
   cases hb with
   |agg e3 e4=>
    simp only;refine aG.bnd U1 ?_;rintro R1 h1 p q ⟨rfl,rfl⟩;refine aG.bnd U1 ?_;rintro R2 h2 p q ⟨rfl,rfl⟩;rw[h,h'];exact aG.ret rfl
   |junk hh=>cases b'<;>first|exact hh.elim|exact aG.ret rfl
   |_=>exact aG.ret rfl
  |junk hh=>cases a'<;>first|exact hh.elim|exact aG.ret rfl
  |_=>exact aG.ret rfl
 unfold eqGuard;cases op<;>first|exact aG.ret rfl|exact rest
variable {x x':aF}
theorem sim_cmp (op:BinOp)(ho:op=.eql\/op=.neq)(he:Mr P t)(hR:uA P K R){y y':aF}(hx:VR (SF fs) K R x x')(hy:VR (SF fs) K R y y'):
 aG P (SF fs) K (VA (SF fs) K) (binOp op t x y) R (binOp op t x' y'):=by
 have k1:aG P (SF fs) K (VA (SF fs) K) (do pure (.bool (<-Bi t x y))) R (do pure (.bool (<-Bi t x' y'))):=
  aG.bnd (zm1 he hR hx hy) λR1 _ b _ e=>by subst e;exact aG.ret (.bool _)
 have k2:aG P (SF fs) K (VA (SF fs) K) (do pure (.bool (!(<-Bi t x y)))) R (do pure (.bool (!(<-Bi t x' y')))):=
  aG.bnd (zm1 he hR hx hy) λR1 _ b _ e=>by subst e;exact aG.ret (.bool _)
 by_cases hf:Flat x/\Flat y
 rotate_left
 .obtain⟨d,hd,ok⟩:=he.ex
  have hn:=zlQ hd ok hf;refine .inl ?_
  rcases ho with rfl|rfl<;>cases x<;>cases y<;>first
   |exact(hf ⟨True.intro,True.intro⟩).elim
   |exact hn.bnd _
 rcases ho with rfl|rfl
 .cases hx with
  |int k a=>
   cases hy with
   |int k' b=>
    by_cases hk:k=k'
    .subst hk;simp only[binOp,ne_eq,not_true_eq_false,if_false];exact zlL _ _ _
    .simp only[binOp,ne_eq,hk,not_false_eq_true,if_true];exact .inl bR
   |junk hh=>exact hf.2.elim
   |_=>exact k1
  |string a=>
   cases hy with
   |string b=>exact zhm .eql a b
   |junk hh=>exact hf.2.elim
   |_=>exact k1
  |junk hh=>exact hf.1.elim
  |_=>cases hy<;>first|exact k1|exact hf.2.elim
 .cases hx with
  |int k a=>
   cases hy with
   |int k' b=>
    by_cases hk:k=k'
    .subst hk;simp only[binOp,ne_eq,not_true_eq_false,if_false];exact zlL _ _ _
    .simp only[binOp,ne_eq,hk,not_false_eq_true,if_true];exact .inl bR
   |junk hh=>exact hf.2.elim
   |_=>exact k2
  |string a=>
   cases hy with
   |string b=>exact zhm .neq a b
   |junk hh=>exact hf.2.elim
   |_=>exact k2
  |junk hh=>exact hf.1.elim
  |_=>cases hy<;>first|exact k2|exact hf.2.elim
theorem zgX {d:TypeDesc}(hd:P.c.underlying t=some d){β:Type}{f:TypeDesc->dA β}(hf:fF P (f d)):fF P (underlying t>>=f):=λw hw=>by
 obtain⟨h1,w1,h2,h3⟩:=hf w hw;refine⟨h1,w1,?_,h3⟩;have hg:P.g.underlying t=some d:=hd;have hu:(underlying t).run P.g w=.ok d w:=by simp[underlying,program,bN,bind,yK,pure,hg]
 simp_all
variable {p:cD}
theorem zGe {y:cN}(h:zhk p t y=true):∃el,p.underlying t=some (.pointer el)/\y=.const (.pointer none):=by
 unfold zhk at h
 grind
theorem zAw {el:aM}(op:BinOp)(ho:op=.eql\/op=.neq)(he:P.c.underlying t=some (.pointer el))(hx:VR (SF fs) K R x x'):
 aG P (SF fs) K (VA (SF fs) K) (binOp op t x (.pointer none)) R (binOp op t x' (.pointer none)):=by
 have key:aG P (SF fs) K l7 (Fg (9999+1) t x (.pointer none)) R (Fg (9999+1) t x' (.pointer none)):=by
  unfold Fg;refine aG.bnd (mX t) ?_;rintro R1 h1 d _ ⟨rfl,hd⟩;obtain rfl:d=.pointer el:=cS ((hd).symm.trans he)
  cases hx with
  |pointer hp=>
   cases hp with
   |none=>exact aG.ret rfl
   |some _=>exact aG.ret rfl
  |_=>exact .inl zmi
 have k1:aG P (SF fs) K (VA (SF fs) K) (do pure (.bool (<-Bi t x (.pointer none)))) R (do pure (.bool (<-Bi t x' (.pointer none)))):=
  aG.bnd key λR1 _ b _ e=>by subst e;exact aG.ret (.bool _)
 have k2:aG P (SF fs) K (VA (SF fs) K) (do pure (.bool (!(<-Bi t x (.pointer none))))) R (do pure (.bool (!(<-Bi t x' (.pointer none))))):=
  aG.bnd key λR1 _ b _ e=>by subst e;exact aG.ret (.bool _)
 by_cases hj:x=.nilFunc
 .subst hj
  refine .inl ?_;have hn:fF P (Bi t .nilFunc (.pointer none)):=by
   show fF P (Fg (9999+1) t .nilFunc (.pointer none));unfold Fg;exact zgX he zmi
  rcases ho with rfl|rfl<;>exact hn.bnd _
 rcases ho with rfl|rfl
 .cases hx with
  |junk _=>exact absurd rfl hj
  |_=>exact k1
 .cases hx with
  |junk _=>exact absurd rfl hj
  |_=>exact k2
variable {s:aM}
theorem zzM {d:aM}(hs:zbS P.c s=true)(hd:zbS P.c d=true){S:aP->Prop}(hx:VR S K R x x'):aG P S K (VA S K) (convert s d x) R (convert s d x'):=by
 unfold convert;refine aG.bnd (mX s) ?_;rintro R1 h1 a _ ⟨rfl,ha⟩;refine aG.bnd (mX d) ?_;rintro R2 h2 b _ ⟨rfl,hb⟩;have fY:P.c.underlying s=some a:=ha;have bY:P.c.underlying d=some b:=hb;unfold zbS at hs hd;rw[fY] at hs;rw[bY] at hd;cases a<;>simp only[iA] at hs;cases b<;>simp only[iA] at hd
 cases hx with
 |int k n=>exact aG.ret (.int _ _)
 |pointer h=>cases h<;>exact .inl jT
 |_=>exact .inl jT
theorem zEh (h:zhB p s=true):∃e,p.underlying s=some (.slice e)/\p.underlying e=some (.int .u8):=by
 unfold zhB at h
 grind
theorem zEy (h:zhd p s=true):p.underlying s=some .string:=by
 unfold zhd at h
 grind
theorem zAW {S:aP->Prop}(n:Int):aG P S K (VA S K) (zkU n) R (zkU n):=by
 unfold zkU
 first|exact aG.ret (.string _)|(split<;>exact aG.ret (.string _))
theorem zAJ {d:aM}(hs:zhB P.c s=true)(hd:zhd P.c d=true){S:aP->Prop}(hx:VR S K R x x'):aG P S K (VA S K) (convert s d x) R (convert s d x'):=by
 obtain⟨e,yQ,yZ⟩:=zEh hs;have U5:=zEy hd;by_cases hj:x=.nilFunc
 .subst hj
  refine .inl ?_;unfold convert;exact zgX yQ (zgX U5 (zgX yZ bR))
 unfold convert;refine aG.bnd (mX s) ?_;rintro R1 h1 a _ ⟨rfl,ha⟩;refine aG.bnd (mX d) ?_;rintro R2 h2 b _ ⟨rfl,hb⟩;obtain rfl:a=.slice e:=cS ((ha).symm.trans yQ);obtain rfl:b=.string:=cS ((hb).symm.trans U5)
 have tail:∀{x x':aF},VR S K R2 x x'->aG P S K (VA S K) (do match<-underlying e with| .int .u8=>zdW x| .int .i32=>zpZ x|_=>stuck "Convert: a slice of what to string?") R2
  (do match<-underlying e with| .int .u8=>zdW x'| .int .i32=>zpZ x'|_=>stuck "Convert: a slice of what to string?"):=by
  intro x x' hx;refine aG.bnd (mX e) ?_;rintro R3 h3 c _ ⟨rfl,hc⟩;obtain rfl:c=.int .u8:=cS ((hc).symm.trans yZ);exact zCN (hx.mono h3.le)
 have Ak:=(hx.mono h1.le).mono h2.le
 cases hx with
 |int k n=>exact zAW n
 |string s=>exact aG.ret (.string s)
 |nilFunc=>exact absurd rfl hj
 |junk _=>exact absurd rfl hj
 |slice h=>cases h<;>exact tail Ak
 |_=>exact tail Ak
def qD (p:cD)(q:Cl):Code->Bool
 | .skip| .ret| .exit _| .label _=>true
 | .region _ ops _=>ops.all λo=>sO p q o.op
 | .seq a b=>qD p q a&&qD p q b
 | .cond c a b=>eD q.fs c&&qD p q a&&qD p q b
 | .block _ c| .loop c| .scope c=>qD p q c
 |_=>false
def uY (P:dQ)(fs:aP->Bool)(f:aP):Cl:=if P.lw f then⟨fs,P.lw,false⟩ else⟨fs,P.gs,P.dy⟩
theorem znn (P:dQ)(fs:aP->Bool)(f:aP):(uY P fs f).fs=fs:=by unfold uY;split<;>rfl
structure Fit (P:dQ)(fs:aP->Bool):Prop where
 zero:Ks P (SF fs)
 fn:∀f,P.gs f=true->P.op f=false->∃fn c,P.g.funcs[f]? =some fn/\P.c.funcs[f]? =some fn/\(fn.name== "runtime.NumGoroutine")=false/\fn.body=some c/\qD P.c (uY P fs f) c=true
 opq:∀f,P.gs f=true->P.op f=true->∃fn fn' c c',P.g.funcs[f]? =some fn/\P.c.funcs[f]? =some fn'/\(fn.name== "runtime.NumGoroutine")=false/\(fn'.name== "runtime.NumGoroutine")=false/\fn.body=some c/\fn'.body=some c'
 low:∀f,P.lw f=true->P.op f=false/\P.gs f=true
 dyn:P.dy=true->∀f,fs f=true->P.gs f=true
 guard:∀t,P.g.eqGuardType P.g.depth t=P.c.eqGuardType P.c.depth t
theorem zp6 (F:Fit P fs){T:aP->Prop}{f:aP}(hf:P.gs f=true)(hT:T f){xs cC:Array aF}(h:bQ (SF fs) K R xs cC):aG P (SF fs) K (NA (SF fs) T K) (callFunc f xs) R (callFunc f cC):=by
 unfold callFunc;refine aG.bnd U1 ?_;rintro R1 h1 p q ⟨rfl,rfl⟩
 cases ho:P.op f with
 |false=>
  obtain⟨fn,c,e1,e2,e3,e4,_⟩:=F.fn f hf ho;simp only[e1,e2,e3,e4,zoW,iA,if_false];exact aG.ret (.enter hT (h.mono h1.le))
 |true=>
  obtain⟨fn,fn',c,c',e1,e2,e3,e4,e5,e6⟩:=F.opq f hf ho;simp only[e1,e2,e3,e4,e5,e6,zoW,iA,if_false];exact aG.ret (.enter hT (h.mono h1.le))
theorem zgI {S:aP->Prop}(hρ:∀x,eD fs x=true->VR S K R (ρ x) (ρ' x)){r:Option cN}(h:(match r with|some x=>eD fs x|none=>true)=true):Ax S K R (r.map ρ) (r.map ρ'):=by
 cases r with
 |none=>exact .none
 |some x=>exact .some (hρ x h)
variable {ps:Array (Nat×cN)}
theorem zr4 {S:aP->Prop}(hρ:∀x,eD fs x=true->VR S K R (ρ x) (ρ' x))(h:(ps.all λx=>eD fs x.2)=true):PsR S K R (ps.map λ(i,x)=>(i,ρ x)).toList (ps.map λ(i,x)=>(i,ρ' x)).toList:=by
 rw[zwc,zwc];have h':∀x∈ps.toList,eD fs x.2=true:=λx hx=>by
  rw[Array.all_eq_true'] at h;exact h x (by simpa using hx)
 generalize ps.toList=l at h'⊢
 induction l with
 |nil=>exact .nil
 |cons a l ih=>
  obtain⟨i,x⟩:=a;exact .cons (hρ x (h' (i,x) aQ)) (ih λy hy=>h' y za3)
theorem zFd (q:Ask α):∀w:aE,(w.ask q).2.heap=w.heap:=by
 induction q with
 |done a=>intro w;rfl
 |ask zJW range k ih=>
  intro w;unfold aE.ask
  grind
theorem zDq (c:Sys):nV P (sys c):=λw hw=>.inl ⟨(w.sys c).1,(w.sys c).2,rfl,λb cc e=>by
 have:(w.sys c).2.heap=w.heap:=by
  have h:=zFd (Kernel.perform c w.os) w;unfold aE.sys;split
  .rfl
  .simp_all
 rw[this];exact hw b cc e⟩
theorem zFj :fF P (zrl x):=by
 unfold zrl;cases x<;>first|exact zfG|exact bR|skip
 refine fF.then ?_ λn=>?_
 .unfold Instr.panicnil
  refine(zDq _).bnd λr=>?_;cases r<;>first|exact .never bR|exact zof.bnd λ_=>nV.ret _
 .split
  .exact zfG
  .exact wA
theorem zjG (F:Fit P fs)(hR:uA P K R)(hρ:∀x,eD fs x=true->VR (SF fs) K R (ρ x) (ρ' x))(Jm:∀g,ρ (.func g)=.func (.func g) #[] #[])(zHn:∀g,ρ' (.func g)=.func (.func g) #[] #[])(znU:∀g,ρ (.global g)=.pointer (some ⟨g,0,none⟩))(zAl:∀g,ρ' (.global g)=.pointer (some ⟨g,0,none⟩))(tW:∀v,ρ (.const v)=v)(zEo:∀v,ρ' (.const v)=v){q:Cl}(hq:q.fs=fs)(zqD:∀f,q.gs f=true->P.gs f=true)(zpY:q.dy=true->∀f,fs f=true->q.gs f=true){o:aZ}(ok:sO P.c q o.op=true):
 aG P (SF fs) K (NA (SF fs) q.T K) (aO ρ o) R (aO ρ' o):=by
 obtain⟨dst,op,type,pos,after,guard⟩:=o;subst hq;simp only at ok;unfold aO
 cases op with
 |move x=>exact aG.ret (.value (hρ x ok))
 |assign x=>exact aG.ret (.value (hρ x ok))
 |pick c a b=>
  simp only[sO,jB] at ok;refine aG.bnd (zsF (hρ c ok.1.1)) ?_;rintro R1 h1 x _ rfl;cases x
  .exact aG.ret (.value ((hρ b ok.2).mono h1.le))
  .exact aG.ret (.value ((hρ a ok.1.2).mono h1.le))
 |alloc t=>exact qC (zHl F.zero t)
 |box t x=>exact qC (sim_box t (hρ x ok))
 |load t a=>exact qC (zDo t (hρ a ok))
 |store t a x=>
  simp only[sO,jB] at ok;exact sim_u (zzG t (hρ a ok.1) (hρ x ok.2))
 |binOp op t x y t'=>
  simp only[sO,jB] at ok;obtain⟨⟨hx,hy⟩,hk⟩:=ok;by_cases ho:op=.eql\/op=.neq
  .have cZ:(zdQ P.c t=true\/zhk P.c t y=true)/\P.c.eqGuardType P.c.depth t=false:=by
    rcases ho with rfl|rfl<;>simpa using hk
   refine qC ?_;refine aG.bnd (zA5 op t x y (hρ x hx) (hρ y hy) cZ.2 (by rw[F.guard];exact cZ.2)) ?_;rintro R1 h1 _ _ _;rcases cZ.1 with rF|rF
   .exact sim_cmp op ho (zeX rF) (h1.ok hR) ((hρ x hx).mono h1.le) ((hρ y hy).mono h1.le)
   .obtain⟨el,e1,e2⟩:=zGe rF
    subst e2;rw[tW,zEo];exact zAw op ho e1 ((hρ x hx).mono h1.le)
  .have y9:op≠ .eql/\op≠ .neq:=⟨λe=>ho (.inl e),λe=>ho (.inr e)⟩
   refine qC ?_;have hg:∀a b,eqGuard op t x y a b=mF ():=λa b=>by
    unfold eqGuard;cases op<;>first|rfl|exact absurd rfl y9.1|exact absurd rfl y9.2
   rw[hg,hg];refine aG.bnd (A:=l7) (aG.ret rfl) ?_;rintro R1 h1 _ _ _;exact zDc op t y9 (h1.ok hR) ((hρ x hx).mono h1.le) ((hρ y hy).mono h1.le)
 |unOp op t x=>exact qC (zEX op (hρ x ok))
 |convert s d x=>
  simp only[sO,jB,E9] at ok;rcases ok.2 with h|h
  .exact qC (zzM h.1 h.2 (hρ x ok.1))
  .exact qC (zAJ h.1 h.2 (hρ x ok.1))
 |nilCheck x=>
  have:=zBl (P:=P) (hρ x ok);exact this.mono λR' _ a b h=>by
   obtain⟨v,v',rfl,rfl,h⟩:=h;exact .value h
 |build t ps=>exact qC (zAA F.zero t (zr4 hρ ok))
 |buildSlice t n ps=>exact qC (zBX F.zero t n (zr4 hρ ok))
 |makeFunc fn a b=>
  cases fn with
  |func f=>
   simp only[sO,jB] at ok;have ha:=bQ.maps hρ ok.1.2;have hb:=bQ.maps hρ ok.2;exact qC (aG.ret (.func ok.1.1 ha.1 ha.2 hb.1 hb.2))
  |_=>cases ok
 |makeMap t r=>exact qC (zFQ t (zgI hρ ok))
 |makeSlice t l c=>
  simp only[sO,jB] at ok;exact qC (zC3 F.zero t (hρ l ok.1) (hρ c ok.2))
 |makeChan t l=>exact qC (zAR t (hρ l ok))
 |slice t x lo hi mx=>
  simp only[sO,jB] at ok;exact qC (zzf t (hρ x ok.1.1.1) (zgI hρ ok.1.1.2) (zgI hρ ok.1.2) (zgI hρ ok.2))
 |fieldAddr t x f=>exact qC (zHq t (hρ x ok) f)
 |extract x i=>exact qC (zFW (hρ x ok) i)
 |indexAddr t x i=>
  simp only[sO,jB,E9] at ok;have hx:VR (SF q.fs) K R (ρ x) (ρ' x):=by
   rcases ok.1 with h|h
   .exact hρ x h
   .cases x with
    |global g=>rw[znU,zAl];exact .pointer (.some (.mk (hR.tb g h)))
    |_=>cases h
  exact qC (zHB t hx (hρ i ok.2))
 |makeInterface t x=>exact qC (zAT t (hρ x ok))
 |panic x=>exact qC (.inl zFj)
 |index t x i=>
  simp only[sO,jB] at ok;exact qC (zzn t (hρ x ok.1) (hρ i ok.2))
 |lookup t x i c=>
  simp only[sO,jB] at ok;refine qC (zIa F.zero (λk e he=>?_) hR (hρ x ok.1.1) (hρ i ok.1.2) c);have hm:=ok.2;unfold Z4 at hm;rw[show P.c.underlying t=some (.map k e) from he] at hm;exact zeX hm
 |mapUpdate t m k x=>
  simp only[sO,jB] at ok;refine sim_u (zFt (λk e he=>?_) hR (hρ m ok.1.1.1) (hρ k ok.1.1.2) (hρ x ok.1.2));have hm:=ok.2;unfold Z4 at hm;rw[show P.c.underlying t=some (.map k e) from he] at hm;exact zeX hm
 |call c=>
  obtain⟨callee,args,jW⟩:=c
  cases callee with
  |value f=>
   simp only[sO,jB] at ok;have ha:=bQ.maps hρ ok.2;have key:(∀g,f≠ .func g)->aG P (SF q.fs) K (NA (SF q.fs) q.T K) (aO ρ ⟨dst,.call ⟨.value f,args,jW⟩,type,pos,after,guard⟩) R (aO ρ' ⟨dst,.call ⟨.value f,args,jW⟩,type,pos,after,guard⟩):=by
    intro aS;have h1:eD q.fs f=true/\q.dy=true:=by
     have:=ok.1;unfold zvu at this
     cases f with
     |func g=>exact absurd rfl (aS g)
     |_=>simpa using this
    have hf:=hρ f h1.1;unfold aO;simp only[resolve];unfold Cz;generalize ρ f=vf at hf⊢;generalize ρ' f=vf' at hf⊢
    cases hf with
    |nilFunc=>
     refine .inl ?_;intro w hw;exact(wA (P:=P) (α:=Next) (e:=.nilDeref)) w hw
    |junk _=>
     refine .inl ?_;intro w hw;exact(wA (P:=P) (α:=Next) (e:=.nilDeref)) w hw
    |func hs e1 Ea e2 h2=>
     show aG P _ K _ (callFunc _ _) R (callFunc _ _);exact zp6 F (zqD _ (zpY h1.2 _ hs)) (zpY h1.2 _ hs) (bQ.append (bQ.append ⟨e1,Ea⟩ ha) ⟨e2,h2⟩)
    |_=>exact .inl (fF.bnd bR _)
   cases f with
   |func g=>
    have hg:q.gs g=true:=ok.1;simp only[resolve];unfold Cz;rw[Jm,zHn];show aG P _ K _ (callFunc _ _) R (callFunc _ _);exact zp6 F (zqD _ hg) hg (bQ.append (bQ.append bQ.empty ha) bQ.empty)
   |_=>exact key (λg e=>by cases e)
  |builtin b=>
   cases b with
   |len=>exact qC (sim_len jW type (bQ.maps hρ ok))
   |cap=>exact qC (sim_cap jW type (bQ.maps hρ ok))
   |copy=>exact qC (zDw jW type (bQ.maps hρ ok))
   |clear=>exact qC (zDX F.zero jW type (bQ.maps hρ ok))
   |max=>exact qC (sim_max jW type (bQ.maps hρ ok))
   |append=>
    by_cases hi:∃xt k,jW[1]? =some xt/\P.underlying xt=some (.int k)
    .obtain⟨xt,k,e1,e2⟩:=hi
     exact qC (zDI F.zero type e1 e2 (bQ.maps hρ ok))
    .refine qC (zAy F.zero type (λxt d he hd k hk=>?_) (bQ.maps hρ ok))
     subst hk;exact hi ⟨xt,k,he,hd⟩
   |delete=>
    simp only[sO,jB] at ok;refine qC (zDr type (λmt k e he hd=>?_) hR (bQ.maps hρ ok.1));have h2:=ok.2;rw[he] at h2;simp only at h2;unfold Z4 at h2;rw[show P.c.underlying mt=some (.map k e) from hd] at h2;exact zeX h2
   |_=>cases ok
  |invoke x y=>cases ok
 |_=>cases ok
end
def tp (w:aE)(T:kI)(e:Nat):World:={w with tape:=T,drawn:=e}
def O0 {α:Type}(p:cD)(s:dA α)(w:aE):Prop:=
 ∀x w',s.run p w=.ok x w'->w'.tape=w.tape/\w.drawn<=w'.drawn/\∀T e,(∀n,n<w'.drawn-w.drawn->∀q,T (e+n) q=w.tape (w.drawn+n) q)->s.run p (tp w T e)=.ok x (tp w' T (e+(w'.drawn-w.drawn)))
variable {α:Type}{p:cD}{w:aE}
def O0.no {s:dA α}(h:∀x w',s.run p w≠ .ok x w'):O0 p s w:=λx w' e=>absurd e (h x w')
theorem O0.after {s lT:dA α}{aJ:aE}(h:O0 p lT aJ)(hr:s.run p w=lT.run p aJ)(ht:aJ.tape=w.tape)(hd:aJ.drawn=w.drawn)(zL:∀T e,s.run p (tp w T e)=lT.run p (tp aJ T e)):O0 p s w:=by
 intro x w' e;rw[hr] at e;obtain⟨h1,h2,h3⟩:=h x w' e;simp_all
theorem aG.locl {P:dQ}{S:aP->Prop}{β:Type}{K:Pr}{A:Pr->α->β->Prop}{G:Gp}{St:Nat->Prop}(hG:G=P.gp)(s:dA α):
 ∀{R:Pr} {w W:aE} {s':dA β},aG P S K A s R s'->dB S K R G St w W->Tp w W->O0 P.g s w:=by
 induction s with
 |pure a=>
  rintro R w W s' _ hw ht x w' e;simp only[bN,vO] at e;obtain⟨rfl,rfl⟩:=e;exact⟨rfl,bM _,λT e _=>by simp[bN]⟩
 |load m a k ih=>
  rintro R w W s' (hn|⟨rfl,a',k',rfl,ha,hk⟩) hw ht
  .exact .no (hn.no hw.np)
  obtain⟨qY⟩:=ha;rename_i b b' o sp;obtain⟨ob,Dq,h1,h2,h3⟩:=hw.cont b b' qY
  cases h3 with
  |cells hc hz=>
   rename_i c c' T fz Kk
   cases sp with
   |some sp=>exact .no λx w'=>by simp[bN,lW,h1,zX,r8]
   |none=>
    cases hv:c[o]? with
    |none=>exact .no λx w'=>by simp[bN,lW,h1,zX,r8,hv]
    |some v=>
     obtain⟨v',Mi,rI⟩:=hc.get hv;have e1:w.cell? ⟨b,o,none⟩=some v:=by simp[lW,h1,hv]
     refine(ih v (hk v v' rI) hw ht).after (by rw[bN,e1]) rfl rfl λT e=>?_;rw[bN,show(tp w T e).cell? ⟨b,o,none⟩=some v from e1]
  |_=>exact .no λx w'=>by simp[bN,lW,h1,zX,r8]
 |store m a v k ih=>
  rintro R w W s' (hn|⟨rfl,a',v',k',rfl,ha,hv,hk⟩) hw ht
  .exact .no (hn.no hw.np)
  obtain⟨qY⟩:=ha;rename_i b b' o sp;by_cases Tv:∃cs,v=.agg cs
  .obtain⟨cs,rfl⟩:=Tv;exact .no λx w'=>by simp[bN]
  by_cases F5:∃cs,v=.tuple cs
  .obtain⟨cs,rfl⟩:=F5;exact .no λx w'=>by simp[bN]
  have cO:∀w:aE,(dA.store .plain ⟨b,o,sp⟩ v k).run P.g w=(match w.cell? ⟨b,o,sp⟩ with
   |some _=>if w.frozen? ⟨b,o,sp⟩ then .halt (.unsupported (.unsafePointer "a write to bytes that a string shares")) w else k.run P.g (w.setCell ⟨b,o,sp⟩ v)
   |none=>match w.farStore P.g ⟨b,o,sp⟩ v (zbk== .atomic) with
    | .ok (w,_)=>k.run P.g w
    | .error h=>.halt h w):=λw=>by
   rw[bN]
   .rfl
   .simp_all
   simp_all
  obtain⟨ob,Dq,h1,h2,h3⟩:=hw.cont b b' qY
  cases h3 with
  |cells hc hz=>
   rename_i c c' T fz Kk
   cases sp with
   |some sp=>exact .no λx w'=>by rw[cO];simp[lW,h1,Eu,r8]
   |none=>
    cases gZ:c[o]? with
    |none=>exact .no λx w'=>by rw[cO];simp[lW,h1,Eu,r8,gZ]
    |some v0=>
     have e1:w.cell? ⟨b,o,none⟩=some v0:=by simp[lW,h1,gZ]
     cases oC:w.frozen? ⟨b,o,none⟩ with
     |true=>exact .no λx w'=>by simp_all
     |false=>
      have Xz:¬Lp fz o:=by
       intro⟨z1,z2⟩;simp[aE.frozen?,h1,z1,z2] at oC
      have As:¬St b:=by
       intro hs;obtain⟨_,c2,T2,hi,g1,g2⟩:=hw.st b hs;rw[h1] at g1;injection g1 with g1;injection g1 with g1 _ g3;subst g1 g3;exact Xz ⟨lU _,jP (eM.1 gZ).1 g2⟩
      have st:=nK.upd hw qY As (o0.cells (T:=T) (hc.set o hv) hz);refine(ih hk st.rel (ht.step st)).after (by rw[cO,e1];simp only[oC,iA,if_false];rw[Zv h1]) rfl rfl λT' e=>?_;rw[cO,show(tp w T' e).cell? ⟨b,o,none⟩=some v0 from e1];simp only[show(tp w T' e).frozen? ⟨b,o,none⟩=false from oC,iA,if_false];rw[Zv (w:=tp w T' e) h1];rfl
  |_=>exact .no λx w'=>by rw[cO];simp[lW,h1,Eu,r8]
 |new o k ih=>
  rintro R w W s' (hn|⟨o',k',rfl,ho,hk⟩) hw ht
  .exact .no (hn.no hw.np)
  have st:=nK.push hw ho;exact(ih _ (hk _ _ ⟨λb hb=>absurd (hw.lt _ _ hb).1 (J9 _),λa ha=>absurd (hw.lt _ _ ha).2 (J9 _),by subst hG;exact hw.gle⟩) st.rel (ht.step st)).after Oj rfl rfl λT e=>by rw[bN];rfl
 |shape r k ih=>
  rintro R w W s' (hn|⟨r',k',rfl,qS,hk⟩) hw ht
  .exact .no (hn.no hw.np)
  exact(ih _ (hk _) hw ht).after Oj rfl rfl λT e=>by rw[bN];rfl
 |freeze a n k ih=>
  rintro R w W s' (hn|h) hw ht
  .exact .no (hn.no hw.np)
  .exact h.elim
 |frozen a k ih=>
  rintro R w W s' (hn|⟨r',k',rfl,hk⟩) hw ht
  .exact .no (hn.no hw.np)
  exact(ih _ (hk _ true) hw ht).after Oj rfl rfl λT e=>by rw[bN];rfl
 |getObj r k ih=>
  rintro R w W s' (hn|⟨r',k',rfl,qS,hk⟩) hw ht
  .exact .no (hn.no hw.np)
  rcases hw.orR qS with y|y
  .obtain⟨ob,Dq,h1,h2,h3⟩:=hw.cont r r' y
   have go:(∀c T fz,ob≠ .cells c T fz)->O0 P.g (.getObj r k) w:=λn1=>by
    refine(ih ob (hk _ _ h3) hw ht).after ?_ rfl rfl λT e=>?_
    .rw[bN,h1];simp_all
    .rw[bN,show(tp w T e).heap[r]? =some ob from h1];simp_all
   cases h3 with
   |cells _ _=>exact .no λx w'=>by rw[bN,h1];simp
   |_=>exact go aQ
  .exact .no λx w'=>by rw[bN,y];simp[pK]
 |setObj r o k ih=>
  rintro R w W s' (hn|⟨r',o',k',rfl,qS,ho,hk⟩) hw ht
  .exact .no (hn.no hw.np)
  rcases hw.orR qS with y|y
  .obtain⟨ob,Dq,h1,h2,h3⟩:=hw.cont r r' y
   have go:(∀c T fz,ob≠ .cells c T fz)->O0 P.g (.setObj r o k) w:=λn1=>by
    have As:¬St r:=by
     intro hs;obtain⟨_,c2,T2,hi,g1,g2⟩:=hw.st r hs;rw[h1] at g1;injection g1 with g1;exact n1 _ _ _ g1
    have st:=nK.upd hw y As ho;refine(ih hk st.rel (ht.step st)).after ?_ rfl rfl λT e=>?_
    .rw[bN,h1];simp_all
    .rw[bN,show(tp w T e).heap[r]? =some ob from h1];cases ob<;>first|rfl|exact absurd rfl (n1 _ _ _)
   cases h3 with
   |cells _ _=>exact .no λx w'=>by rw[bN,h1];simp
   |_=>exact go aQ
  .exact .no λx w'=>by rw[bN,y];simp[pK]
 |choose q k ih=>
  rintro R w W s' (hn|⟨k',rfl,hk⟩) hw ht
  .exact .no (hn.no hw.np)
  cases hq:q.forced with
  |true=>exact(ih 0 (hk 0) hw ht).after (by rw[bN,hq];rfl) rfl rfl λT e=>by rw[bN,hq];rfl
  |false=>
   have st:=nK.draw hw;intro x w' e;rw[bN,hq] at e;simp only[iA,if_false] at e;obtain⟨h1,h2,h3⟩:=ih _ (hk _) st.rel (ht.step st) x w' e;simp only at h1 h2 h3;refine⟨h1,aC,λT e' ha=>?_⟩;rw[bN,hq];simp only[iA,if_false];have ea:T e' q=w.tape w.drawn q:=ha 0 aC q;have:=h3 T (e'+1) (λn hn q'=>by rw[show e'+1+n=e'+(n+1) by omega,show w.drawn+1+n=w.drawn+(n+1) by omega];exact ha (n+1) aC q');show bN P.g (k (q.cut (T e' q))) (tp w T (e'+1))=_;rw[ea];rw[show tp w T (e'+1)=tp {w with drawn:=w.drawn+1} T (e'+1) from rfl,this];congr 2;omega
 |sys c k ih=>
  rintro R w W s' (hn|h) hw ht
  .exact .no (hn.no hw.np)
  .exact h.elim
 |program k ih=>
  rintro R w W s' (hn|⟨k',rfl,hk⟩) hw ht
  .exact .no (hn.no hw.np)
  exact(ih _ hk hw ht).after Oj rfl rfl λT e=>by rw[bN]
 |mark m k ih=>
  rintro R w W s' (hn|⟨rfl,k',rfl,hk⟩) hw ht
  .exact .no (hn.no hw.np)
  exact(ih hk hw ht).after Oj rfl rfl λT e=>by rw[bN]
 |halt h=>
  rintro R w W s' _ hw ht;exact .no λx w'=>by simp[bN]
end Go.Tt
namespace Go.Tt
open Go.Conc (G)
structure Fm where
 fn:aP
 tmps:Array aF
 todo:List dZ
 ret:Bool
def Fm.fr (m:Fm):Frame:={fn:=m.fn,tmps:=m.tmps,todo:=m.todo,defers:=[],mode:=if m.ret then .returning else .run,kind:=.normal}
def Fm.eval (m:Fm):cN->aF
 | .tmp t=>m.tmps.getD t aA
 | .const v=>v
 | .global g=>.pointer (some ⟨g,0,none⟩)
 | .func f=>.func (.func f) #[] #[]
def Fm.fin (m:Fm)(ops:Array aZ)(i:Nat)(rest:List Nat)(k:List dZ)(v:aF):Fm:=
 {m with tmps:=match(ops[i]?).bind (·.dst) with|some d=>m.tmps.setIfInBounds d v|none=>m.tmps,todo:=.inRegion ops rest::k}
def xP (t:Array aF):Qp->dA aF
 | .tmp s=>pure (t.getD s aA)
 | .cell s ty=>do loadVar ty (<-asAddr (t.getD s aA))
def oO:List Qp->Array aF->dA aF
 |[],_=>pure (.tuple #[])
 |[a],t=>xP t a
 |[a,b],t=>do
  let x<-xP t a
  let y<-xP t b
  pure (.tuple #[x,y])
 |[a,b,c],t=>do
  let x<-xP t a
  let y<-xP t b
  let z<-xP t c
  pure (.tuple #[x,y,z])
 |[a,b,c,d],t=>do
  let x<-xP t a
  let y<-xP t b
  let z<-xP t c
  let u<-xP t d
  pure (.tuple #[x,y,z,u])
 |_,_=>stuck ""
def Hf (l:List Qp):Prop:=l=[]\/(∃a,l=[a])\/(∃a b,l=[a,b])\/(∃a b c,l=[a,b,c])\/∃a b c d,l=[a,b,c,d]
variable {fn:Func}
theorem zmO {tmps:Array aF}(h:Hf fn.results.toList):results fn tmps=oO fn.results.toList tmps:=by
 rcases h with e|⟨a,e⟩|⟨a,b,e⟩|⟨a,b,c,e⟩|⟨a,b,c,d,e⟩
 .have e':=zd2.1 e
  simp[results,e',oO]
 .have e':=zd2.1 e
  rw[e];cases a<;>simp[results,e',oO,xP]
 .have e':=zd2.1 e
  rw[e];cases a<;>cases b<;>simp[results,e',oO,xP]
 .have e':=zd2.1 e
  rw[e];cases a<;>cases b<;>cases c<;>simp[results,e',oO,xP]
 .have e':=zd2.1 e
  rw[e];cases a<;>cases b<;>cases c<;>cases d<;>simp[results,e',oO,xP]
def TF {α:Type}(p:cD)(s:dA α):Prop:=∀w x w',s.run p w=.ok x w'->w'=w/\∀T e,s.run p (tp w T e)=.ok x (tp w T e)
variable {α:Type}{p:cD}
theorem TF.ret (a:α):TF p (mF a:dA α):=λw x w' h=>by simp_all
theorem TF.bnd {β:Type}{s:dA α}{f:α->dA β}(hs:TF p s)(hf:∀a,TF p (f a)):TF p (s>>=f):=λw x w' h=>by
 have h2:=(vD p s f w).symm.trans h
 cases hx:s.run p w with
 |halt y w2=>rw[hx] at h2;cases h2
 |ok a w1=>
  rw[hx] at h2;obtain⟨rfl,h3⟩:=hs w a w1 hx;obtain⟨rfl,h4⟩:=hf a w1 x w' h2;refine⟨rfl,λT e=>(vD p s f _).trans ?_⟩;rw[h3 T e];exact h4 T e
def TF.halt {s:dA α}(h:∀w x w',s.run p w≠ .ok x w'):TF p s:=λw x w' e=>absurd e (h w x w')
theorem zeS {Vh:String}:TF p (stuck Vh:dA α):=TF.halt λw x w' e=>by simp_all
theorem zqQ :TF p program:=λw x w' h=>by simp_all
theorem zwk (a:bC):TF p (load a):=λw x w' h=>by
 unfold load at h⊢;simp only[bN] at h⊢
 cases hc:w.cell? a with
 |none=>
  rw[hc] at h;simp only at h
  cases hf:zX p w a (zbk==zgd) with
  |error y=>rw[hf] at h;cases h
  |ok v=>
   rw[hf] at h;simp only[vO] at h;refine⟨h.2.symm,λT e=>?_⟩;have e1:(tp w T e).cell? a=none:=hc;have e2:zX p (tp w T e) a (zbk==zgd)=.ok v:=(show zX p (tp w T e) a (zbk==zgd)=zX p w a (zbk==zgd) from rfl).trans hf;simp_all
 |some v=>
  rw[hc] at h;simp only[vO] at h;refine⟨h.2.symm,λT e=>?_⟩;have:(tp w T e).cell? a=some v:=hc;rw[this,h.1]
theorem zGC (t:aM):TF p (underlying t):=by
 unfold underlying;refine zqQ.bnd λq=>?_;split
 .exact .ret _
 .exact zeS
theorem zHO (t:aM):TF p (isAgg t):=by
 unfold isAgg;refine(zGC t).bnd λq=>?_;split<;>exact .ret _
theorem zCn (t:aM):TF p (sizeOf t):=by
 unfold sizeOf typeInfo;refine TF.bnd (zqQ.bnd λq=>?_) λi=>.ret _;split
 .exact .ret _
 .exact zeS
def zoF (a:bC):∀(n i:Nat) (acc:Array aF),TF p (loadCellsFrom a i n acc)
 |0,i,acc=>.ret _
 |n+1,i,acc=>(zwk _).bnd λv=>zoF a n (i+1) (acc.push v)
theorem zFc (t:aM)(a:bC):TF p (loadVar t a):=by
 unfold loadVar;refine(zHO t).bnd λb=>?_;split
 .exact(zCn t).bnd λn=>(zoF a n 0 #[]).bnd λx=>.ret _
 .exact zwk a
theorem L3 (t:Array aF)(r:Qp):TF p (xP t r):=by
 cases r with
 |tmp s=>exact .ret _
 |cell s ty=>
  refine TF.bnd ?_ λa=>zFc ty a;unfold asAddr;split
  .exact .ret _
  .exact TF.halt λw x w' e=>by simp[runtimePanic,goPanic,bN,bind,yK,program] at e
  .exact zeS
def Zl (t:Array aF):∀l:List Qp,TF p (oO l t)
 |[]=>.ret _
 |[a]=>L3 t a
 |[a,b]=>(L3 t a).bnd λx=>(L3 t b).bnd λy=>.ret _
 |[a,b,c]=>(L3 t a).bnd λx=>(L3 t b).bnd λy=>(L3 t c).bnd λz=>.ret _
 |[a,b,c,d]=>(L3 t a).bnd λx=>(L3 t b).bnd λy=>(L3 t c).bnd λz=>(L3 t d).bnd λu=>.ret _
 |_::_::_::_::_::_=>zeS
variable {w w':aE}{v:aF}
theorem zxR {l:List Qp}{t:Array aF}(h:(oO l t).run p w=.ok v w'):Hf l:=by
 match l,h with
 |[],_=>exact .inl rfl
 |[a],_=>exact .inr (.inl ⟨a,rfl⟩)
 |[a,b],_=>exact .inr (.inr (.inl ⟨a,b,rfl⟩))
 |[a,b,c],_=>exact .inr (.inr (.inr (.inl ⟨a,b,c,rfl⟩)))
 |[a,b,c,d],_=>exact .inr (.inr (.inr (.inr ⟨a,b,c,d,rfl⟩)))
 |a::b::c::d::e::l,h=>simp[oO,stuck,bN] at h
def rP (p:cD)(m:Fm)(ms:List Fm)(ops:Array aZ)(i:Nat)(rest:List Nat)(k:List dZ):Next->dA (Fm×List Fm)
 | .value v=>pure (m.fin ops i rest k v,ms)
 | .skip=>pure (m.fin ops i rest k aA,ms)
 | .enter f args=>
  match p.funcs[f]? with
  |some fn=>(match fn.body with
   |some c=>pure (⟨f,args++oL (fn.ntmps-args.size) aA,[.code c],false⟩,m::ms)
   |none=>stuck "")
  |none=>stuck ""
 |_=>stuck ""
def Ap (p:cD)(m:Fm):List Fm->dA (Fm×List Fm)
 |[]=>stuck ""
 |c::rest=>
  match c.todo,p.funcs[m.fn]? with
  | .inRegion ops (i::r)::k,some fn=>do
   let v<-oO fn.results.toList m.tmps
   pure (c.fin ops i r k v,rest)
  |_,_=>stuck ""
variable {m:Fm}{rest:List Fm}{w1:aE}
theorem Uv {c m1:Fm}{ms1:List Fm}(h:(Ap p m (c::rest)).run p w=.ok (m1,ms1) w1):
 ∃ops i r k v fn,c.todo=.inRegion ops (i::r)::k/\p.funcs[m.fn]? =some fn/\(oO fn.results.toList m.tmps).run p w=.ok v w1/\m1=c.fin ops i r k v/\ms1=rest:=by
 unfold Ap at h;simp only at h;split at h
 .next ops i r k fn hc hf=>
  have h2:=(vD p _ _ w).symm.trans h
  cases hx:(oO fn.results.toList m.tmps).run p w with
  |halt y w2=>rw[hx] at h2;cases h2
  |ok v w2=>
   rw[hx] at h2;simp only[vW,mF,bN,vO,sV] at h2;obtain⟨⟨rfl,rfl⟩,rfl⟩:=h2;exact⟨ops,i,r,k,v,fn,hc,hf,hx,rfl,rfl⟩
 .simp[stuck,bN] at h
variable {ops:Array aZ}{i:Nat}{k:List dZ}
theorem Mc {c:Fm}{r:List Nat}(hc:c.todo=.inRegion ops (i::r)::k)(hf:p.funcs[m.fn]? =some fn)(hv:(oO fn.results.toList m.tmps).run p w=.ok v w1):
 (Ap p m (c::rest)).run p w=.ok (c.fin ops i r k v,rest) w1/\∀es,(Ap p m (c::rest)).events p w es=(oO fn.results.toList m.tmps).events p w es:=by
 unfold Ap;simp_all
def tL (p:cD)(m:Fm)(ms:List Fm):dA (Fm×List Fm):=
 match m.todo with
 |[]=>pure ({m with ret:=true},ms)
 | .code .ret::_=>pure ({m with ret:=true},ms)
 | .code .skip::k=>pure ({m with todo:=k},ms)
 | .code (.label _)::k=>pure ({m with todo:=k},ms)
 | .inBlock _::k=>pure ({m with todo:=k},ms)
 | .inScope _::k=>pure ({m with todo:=k},ms)
 | .code (.seq a b)::k=>pure ({m with todo:=.code a:: .code b::k},ms)
 | .code (.cond c a b)::k=>(match m.eval c with
  | .bool t=>pure ({m with todo:=.code (if t then a else b)::k},ms)
  |_=>stuck "")
 | .code (.block id body)::k=>pure ({m with todo:=.code body:: .inBlock id::k},ms)
 | .code (.loop body)::k=>pure ({m with todo:=.code body:: .inLoop body::k},ms)
 | .inLoop body::k=>pure ({m with todo:=.code body:: .inLoop body::k},ms)
 | .code (.scope body)::k=>pure ({m with todo:=.code body:: .inScope body::k},ms)
 | .code (.exit id)::k=>(match exitTo id k with
  |some k'=>pure ({m with todo:=k'},ms)
  |none=>stuck "")
 | .code (.region id ops draw)::k=>
  if draw then do
   let t<-choose (.order m.fn id)
   pure ({m with todo:=.inRegion ops (Vg (p.follows .mixedOrders) ops t)::k},ms)
  else pure ({m with todo:=.inRegion ops (iL ops.size)::k},ms)
 | .inRegion _ []::k=>pure ({m with todo:=k},ms)
 | .inRegion ops (i::rest)::k=>
  if((ops[i]?).map (dI · (dL ops m.tmps))).getD false then
   match ops[i]? with
   |some o=>do
    let n<-aO m.eval o
    rP p m ms ops i rest k n
   |none=>stuck ""
  else pure (m.fin ops i rest k aA,ms)
 |_=>stuck ""
def fJ (p:cD)(m:Fm)(ms:List Fm):dA (Fm×List Fm):=if m.ret then Ap p m ms else tL p m ms
theorem Fm.eval_fr (m:Fm):m.fr.eval=m.eval:=by funext x;cases x<;>rfl
theorem Fm.fr_run (h:m.ret=false):m.fr={fn:=m.fn,tmps:=m.tmps,todo:=m.todo,defers:=[],mode:=.run,kind:=.normal}:=by simp[Fm.fr,h]
theorem Fm.fr_ret (h:m.ret=true):m.fr={fn:=m.fn,tmps:=m.tmps,todo:=m.todo,defers:=[],mode:=.returning,kind:=.normal}:=by simp[Fm.fr,h]
theorem zDO {rest:List Nat}(h:m.todo=.inRegion ops (i::rest)::k)(v:aF):m.fr.finish v=(m.fin ops i rest k v).fr:=by
 simp only[dV.finish,Fm.fr,Fm.fin,h]
 grind
theorem zbo {f:aP}{c:Code}{args:Array aF}(hf:p.funcs[f]? =some fn)(hb:fn.body=some c):
 Ic p f args .normal=(⟨f,args++oL (fn.ntmps-args.size) aA,[.code c],false⟩:Fm).fr:=by
 simp[Ic,Fm.fr,hf,hb]
theorem zlc {id:Nat}:∀{l l':List dZ} (k:List dZ),exitTo id l=some l'->exitTo id (l++k)=some (l'++k)
 |[],_,_,h=>by simp[exitTo] at h
 |x::l,l',k,h=>by
  have tail:exitTo id l=some l'->exitTo id (l++k)=some (l'++k):=zlc k;cases x<;>simp only[exitTo,U8] at h⊢<;>first|exact tail h|skip
  grind
open Conc in
structure Dk where
 ds:List Deferred
 kd:CallKind
 ok:kd≠ .early
abbrev Dk.nil:Dk:=⟨[],.normal,aQ⟩
def Dk.base (d:Dk)(fn:aP):Frame:={(default:dV) with fn:=fn,kind:=d.kd}
def fx (k:List dZ)(d:Dk)(m:Fm):Frame:={m.fr with todo:=m.todo++k,defers:=d.ds,kind:=d.kd}
theorem Hi (m:Fm):fx [] .nil m=m.fr:=by unfold fx;simp[Fm.fr]
variable {main:Bool}{m':Fm}{ms ms':List Fm}
theorem znL (hr:m.ret=false)(aS:m.todo=[]->k=[])(h:(tL p m ms).run p w=.ok (m',ms') w')(d:Dk)(CS:List dV):
 (ms'=ms/\stepG p main (G (fx k d m) CS) w=.go (G (fx k d m') CS) w' (seen p m.fn ((tL p m ms).events p w #[])))\/
 (ms'=m::ms/\stepG p main (G (fx k d m) CS) w=.go (G m'.fr (fx k d m::CS)) w' (seen p m.fn ((tL p m ms).events p w #[]))):=by
 have Qg:seen p m.fn #[]=#[]:=Ct p _;obtain⟨fn,tmps,todo,ret⟩:=m;simp only at hr Qg aS⊢;subst hr;unfold tL at h⊢;simp only at h⊢;split at h
 all_goals first
  |(simp[stuck,bN] at h;done)
  |(
   obtain rfl:=aS rfl;simp only[mF,bN,vO,sV] at h;obtain⟨⟨rfl,rfl⟩,rfl⟩:=h;refine .inl ⟨rfl,?_⟩;simp[G,stepG,Np,Fm.fr,fx,Qg,Di]
   done)
  |(
   simp only[mF,bN,vO,sV] at h;obtain⟨⟨rfl,rfl⟩,rfl⟩:=h;refine .inl ⟨rfl,?_⟩;simp[G,stepG,Np,Fm.fr,fx,Qg,Di]
   done)
  |skip
 case h_8 _ c a b k0=>
  generalize hv:Fm.eval {fn:=fn,tmps:=tmps,todo:=Ln (Code.cond c a b)::k0,ret:=false} c=v at h⊢;have hc:dV.eval {fn:=fn,tmps:=tmps,todo:=Ln (Code.cond c a b)::(k0++k),defers:=d.ds,mode:=.run,kind:=d.kd} c=v:=by rw[<-hv];cases c<;>rfl
  cases v with
  |bool t=>
   simp only[mF,bN,vO,sV] at h;obtain⟨⟨rfl,rfl⟩,rfl⟩:=h;refine .inl ⟨rfl,?_⟩;simp[G,stepG,Np,Fm.fr,fx,Qg,hc]
  |_=>simp_all
 case h_13 _ id k0=>
  cases he:exitTo id k0 with
  |some k'=>
   rw[he] at h;simp only[mF,bN,vO,sV] at h;obtain⟨⟨rfl,rfl⟩,rfl⟩:=h;refine .inl ⟨rfl,?_⟩;simp[G,stepG,Np,Fm.fr,fx,Qg,zlc k he]
  |none=>simp_all
 case h_14 _ id ops draw k0=>
  cases draw with
  |true=>
   simp[choose,bN,zjf,zk4,bind,yK,pure] at h;obtain⟨⟨rfl,rfl⟩,rfl⟩:=h;refine .inl ⟨rfl,?_⟩;simp[G,stepG,Np,Fm.fr,fx,Qg,choose,bN,zjf,zk4,yA,dA.runT,bind,yK,pure]
  |false=>
   simp only[iA,if_false,mF,bN,vO,sV] at h;obtain⟨⟨rfl,rfl⟩,rfl⟩:=h;refine .inl ⟨rfl,?_⟩;simp[G,stepG,Np,Fm.fr,fx,Qg]
 case h_16 _ ops i rest k0=>
  have ze3:∀x,Act.eval ⟨tmps,d.ds⟩ x=Fm.eval {fn:=fn,tmps:=tmps,todo:=sJ ops (i::rest)::k0,ret:=false} x:=λx=>by cases x<;>rfl
  have zxM:Act.eval ⟨tmps,d.ds⟩=Fm.eval {fn:=fn,tmps:=tmps,todo:=sJ ops (i::rest)::k0,ret:=false}:=funext ze3;have By:∀v,(d.base fn).at (Act.put ⟨tmps,d.ds⟩ ((ops[i]?).bind (·.dst)) v) (.inRegion ops rest::(k0++k))=fx k d (Fm.fin {fn:=fn,tmps:=tmps,todo:=sJ ops (i::rest)::k0,ret:=false} ops i rest k0 v):=λv=>by
   unfold Fm.fin Act.put fx;cases(ops[i]?).bind (·.dst)<;>rfl
  have hb:(d.base fn).kind≠ .early:=d.ok;have S6:fx k d {fn:=fn,tmps:=tmps,todo:=sJ ops (i::rest)::k0,ret:=false}=(d.base fn).at ⟨tmps,d.ds⟩ (.inRegion ops (i::rest)::(k0++k)):=rfl;rw[S6]
  cases ho:ops[i]? with
  |none=>
   rw[ho] at h;simp only[Option.map_none,Option.getD_none,iA,if_false,mF,bN,vO,sV] at h;obtain⟨⟨rfl,rfl⟩,rfl⟩:=h;refine .inl ⟨rfl,?_⟩;rw[<-By aA];have Jm:((d.base fn).at ⟨tmps,d.ds⟩ (.inRegion ops (i::rest)::(k0++k))).finish aA=(d.base fn).at (Act.put ⟨tmps,d.ds⟩ ((ops[i]?).bind (·.dst)) aA) (.inRegion ops rest::(k0++k)):=dV.finish_at _ _ _ _ _ _ _;rw[<-Jm];simp[G,stepG,Np,Qg,ho,dV.at]
  |some o=>
   rw[ho] at h;simp only[ho,vN] at By;simp only[G7,Cb] at h⊢;by_cases hw:dI o (dL ops tmps)=true
   .rw[if_pos hw] at h
    rw[if_pos hw];have uF:=vD p (aO (Fm.eval {fn:=fn,tmps:=tmps,todo:=sJ ops (i::rest)::k0,ret:=false}) o) (rP p {fn:=fn,tmps:=tmps,todo:=sJ ops (i::rest)::k0,ret:=false} ms ops i rest k0) w;have h':=uF.symm.trans h;have zAC:=zap p (aO (Fm.eval {fn:=fn,tmps:=tmps,todo:=sJ ops (i::rest)::k0,ret:=false}) o) (rP p {fn:=fn,tmps:=tmps,todo:=sJ ops (i::rest)::k0,ret:=false} ms ops i rest k0) w #[]
    cases hx:(aO (Fm.eval {fn:=fn,tmps:=tmps,todo:=sJ ops (i::rest)::k0,ret:=false}) o).run p w with
    |halt y w1=>rw[hx] at h';cases h'
    |ok n w1=>
     rw[hx] at h' zAC;have mJ:(aO (Act.eval ⟨tmps,d.ds⟩) o).run p w=.ok n w1:=by rw[zxM];exact hx
     have hl:wX p fn ⟨tmps,d.ds⟩ o w=seen p fn ((aO (Fm.eval {fn:=fn,tmps:=tmps,todo:=sJ ops (i::rest)::k0,ret:=false}) o).events p w #[]):=by unfold wX;rw[zxM]
     have h2:(rP p {fn:=fn,tmps:=tmps,todo:=sJ ops (i::rest)::k0,ret:=false} ms ops i rest k0 n).run p w1=.ok (m',ms') w':=h'
     have znu:∀(r:Fm×List Fm),rP p {fn:=fn,tmps:=tmps,todo:=sJ ops (i::rest)::k0,ret:=false} ms ops i rest k0 n=mF r->
      (m',ms')=r/\w'=w1/\seen p fn ((do let n<-aO (Fm.eval {fn:=fn,tmps:=tmps,todo:=sJ ops (i::rest)::k0,ret:=false}) o;rP p {fn:=fn,tmps:=tmps,todo:=sJ ops (i::rest)::k0,ret:=false} ms ops i rest k0 n:dA (Fm×List Fm)).events p w #[])=wX p fn ⟨tmps,d.ds⟩ o w:=λr e=>by simp_all
     cases n with
     |value v=>
      obtain⟨e1,rfl,e3⟩:=znu _ rfl;injection e1 with e1 e2;subst e1 e2;refine .inl ⟨rfl,?_⟩;rw[e3];have:=Conc.stepG_value (main:=main) (b:=d.base fn) (a:=⟨tmps,d.ds⟩) (rest:=rest) (k:=k0++k) (cs:=CS) ho hw hb mJ;rw[By] at this;exact this
     |skip=>
      obtain⟨e1,rfl,e3⟩:=znu _ rfl;injection e1 with e1 e2;subst e1 e2;refine .inl ⟨rfl,?_⟩;rw[e3];have:=Conc.stepG_none (main:=main) (b:=d.base fn) (a:=⟨tmps,d.ds⟩) (rest:=rest) (k:=k0++k) (cs:=CS) ho hw hb mJ;rw[By] at this;exact this
     |enter f args=>
      have h3:=h2;simp only[rP] at h3
      cases hf:p.funcs[f]? with
      |none=>simp_all
      |some fn2=>
       cases zhX:fn2.body with
       |none=>simp_all
       |some c=>
        obtain⟨e1,rfl,e3⟩:=znu _ (by simp only[rP,hf,zhX];rfl);injection e1 with e1 e2;subst e1 e2;refine .inr ⟨rfl,?_⟩;rw[e3];have:=Conc.stepG_enter (main:=main) (b:=d.base fn) (a:=⟨tmps,d.ds⟩) (rest:=rest) (k:=k0++k) (cs:=CS) ho hw hb mJ;rw[zbo hf zhX] at this;exact this
     |_=>simp[rP,stuck,bN] at h2
   .rw[if_neg hw] at h
    rw[if_neg hw];simp only[mF,bN,vO,sV] at h;obtain⟨⟨rfl,rfl⟩,rfl⟩:=h;refine .inl ⟨rfl,?_⟩;have:=Conc.stepG_unwanted (P:=p) (main:=main) (b:=d.base fn) (a:=⟨tmps,d.ds⟩) (rest:=rest) (k:=k0++k) (cs:=CS) (w:=w) ho (by simpa using hw);simp_all
theorem zjj (h:(fJ p m ms).run p w=.ok (m',ms') w')(base:List dV):
 stepG p main (G m.fr (ms.map Fm.fr++base)) w=.go (G m'.fr (ms'.map Fm.fr++base)) w' (seen p m.fn ((fJ p m ms).events p w #[])):=by
 unfold fJ at h⊢;by_cases hr:m.ret=true
 .simp only[hr,if_true] at h⊢
  cases ms with
  |nil=>simp[Ap,stuck,bN] at h
  |cons c rest=>
   obtain⟨ops,i,r,k,v,fn,hc,hf,hv,rfl,rfl⟩:=Uv h;rw[(Mc hc hf hv).2];have he:results fn m.tmps=oO fn.results.toList m.tmps:=zmO (zxR hv);rw[Fm.fr_ret hr,List.map_cons,U8];have By:c.fr.finish v=(c.fin ops i r k v).fr:=zDO hc v;rw[<-By];simp[G,stepG,unwind,doReturn,hf,he,hv,Di]
 .have zL:m.ret=false:=by simpa using hr
  simp only[zL,iA,if_false] at h⊢;rcases znL (main:=main) zL (k:=[]) (λ_=>rfl) h .nil (ms.map Fm.fr++base) with⟨rfl,e⟩|⟨rfl,e⟩
  .simp only[Hi] at e;exact e
  .simp only[Hi] at e;exact e
end Go.Tt
namespace Go.Tt
def Fl (p:cD)(q:Cl):dZ->Bool
 | .code c| .inLoop c| .inScope c=>qD p q c
 | .inBlock _=>true
 | .inRegion ops _=>ops.all λo=>sO p q o.op
 |_=>false
def Wait (m:Fm):Prop:=m.ret=false/\∃ops i r k,m.todo=.inRegion ops (i::r)::k
section
variable (P:dQ)(fs:aP->Bool)(K R:Pr)
structure qE (m m':Fm):Prop where
 fn:m.fn=m'.fn
 todo:m.todo=m'.todo
 ret:m.ret=m'.ret
 tmps:bQ (SF fs) K R m.tmps m'.tmps
 fit:∀i∈m.todo,Fl P.c (uY P fs m.fn) i=true
 infs:∃fn fn',P.g.funcs[m.fn]? =some fn/\P.c.funcs[m.fn]? =some fn'/\fn.results=fn'.results/\Hf fn.results.toList
inductive uQ:List Fm->List Fm->Prop
 |nil:uQ [] []
 |cons {m m':Fm} {ms ms':List Fm}:qE P fs K R m m'->Wait m->uQ ms ms'->uQ (m::ms) (m'::ms')
end
structure Fit2 (P:dQ)(fs:aP->Bool):Prop extends Fit P fs where
 res:∀f,P.gs f=true->P.op f=false->∀fn,P.c.funcs[f]? =some fn->Hf fn.results.toList
 follows:P.g.follows .mixedOrders=P.c.follows .mixedOrders
section
variable {P:dQ}{fs:aP->Bool}{K R R':Pr}
variable {m m':Fm}
def qE.mono (h:R.le R')(x:qE P fs K R m m'):qE P fs K R' m m':=⟨x.fn,x.todo,x.ret,x.tmps.mono h,x.fit,x.infs⟩
variable {ms ms':List Fm}
theorem uQ.mono (h:R.le R')(x:uQ P fs K R ms ms'):uQ P fs K R' ms ms':=by
 induction x with
 |nil=>exact .nil
 |cons a b _ ih=>exact .cons (a.mono h) b ih
theorem yU {S:aP->Prop}:VR S K R aA undef:=.tuple rfl (λi v v' h=>by simp at h)
theorem qE.eval (x:qE P fs K R m m'):∀o,eD fs o=true->VR (SF fs) K R (m.eval o) (m'.eval o):=by
 intro o ho
 cases o with
 |tmp t=>exact x.tmps.getD t yU
 |const v=>exact zqT ho
 |global g=>cases ho
 |func f=>exact .func ho rfl (λi v v' h=>by simp at h) rfl (λi v v' h=>by simp at h)
def Fc (p:cD)(f:aP)(xs:Array aF):Fm:=
 match p.funcs[f]? with
 |some fn=>(match fn.body with
  |some c=>⟨f,xs++oL (fn.ntmps-xs.size) aA,[.code c],false⟩
  |none=>⟨f,xs,[],false⟩)
 |none=>⟨f,xs,[],false⟩
structure OpR (P:dQ)(fs:aP->Bool)(K R:Pr)(x y:Fm×List Fm):Prop where
 ex:∃f xs cC c c' rest Nc,P.op f=true/\P.gs f=true/\bQ (SF fs) K R xs cC/\x=(Fc P.g f xs,c::rest)/\y=(Fc P.c f cC,c'::Nc)/\qE P fs K R c c'/\Wait c/\uQ P fs K R rest Nc/\P.lw c.fn=false
abbrev StA (P:dQ)(fs:aP->Bool)(K:Pr)(l:Bool):Pr->(Fm×List Fm)->(Fm×List Fm)->Prop:=λR x y=>
 (qE P fs K R x.1 y.1/\uQ P fs K R x.2 y.2/\(l=true->P.lw x.1.fn=true/\∀c∈x.2,P.lw c.fn=true))\/(l=false/\OpR P fs K R x y)
variable {ops:Array aZ}{i:Nat}{rest:List Nat}{k:List dZ}
theorem qE.fin (x:qE P fs K R m m')(h:m.todo=.inRegion ops (i::rest)::k){v v':aF}(hv:VR (SF fs) K R v v'):
 qE P fs K R (m.fin ops i rest k v) (m'.fin ops i rest k v'):=by
 refine⟨x.fn,rfl,x.ret,?_,λj hj=>?_,x.infs⟩
 .unfold Fm.fin
  cases(ops[i]?).bind (·.dst) with
  |none=>exact x.tmps
  |some d=>exact x.tmps.set d hv
 .simp only[Fm.fin,mB] at hj
  rcases hj with rfl|hj
  .have:=x.fit (.inRegion ops (i::rest)) (by rw[h];simp)
   exact this
  .exact x.fit j (by rw[h];simp[hj])
abbrev LowS (P:dQ)(l:Bool)(m:Fm)(ms:List Fm):Prop:=l=true->P.lw m.fn=true/\∀c∈ms,P.lw c.fn=true
variable {xs cC:Array aF}
theorem bQ.pad (ha:bQ (SF fs) K R xs cC)(n:Nat):bQ (SF fs) K R (xs++oL (n-xs.size) aA) (cC++oL (n-cC.size) aA):=by
 rw[ha.1];refine ha.append ⟨aQ,λj v v' h1 h2=>?_⟩;rw[Array.getElem?_replicate] at h1 h2;split at h1
 .rename_i hj
  rw[if_pos hj] at h2;cases h1;cases h2;exact yU
 .cases h1
theorem zhs (F:Fit P fs)(g:aP):∀f,(uY P fs g).gs f=true->P.gs f=true:=λf h=>by
 unfold uY at h;split at h
 .exact(F.low f h).2
 .exact h
theorem zw0 (F:Fit P fs)(g:aP):(uY P fs g).dy=true->∀f,fs f=true->(uY P fs g).gs f=true:=λh f hf=>by
 unfold uY at h⊢;split at h
 .cases h
 .next e=>rw[if_neg e];exact F.dyn h f hf
theorem sim_opS (F:Fit2 P fs){l:Bool}(hm:qE P fs K R m m')(kJ:uQ P fs K R ms ms')(pG:LowS P l m ms)(hr:m.ret=false)(h:m.todo=.inRegion ops (i::rest)::k){n n':Next}(hn:NxR (SF fs) (uY P fs m.fn).T K R n n'):
 aG P (SF fs) K (StA P fs K l) (rP P.g m ms ops i rest k n) R (rP P.c m' ms' ops i rest k n'):=by
 cases hn with
 |value hv=>exact aG.ret (.inl ⟨hm.fin h hv,kJ,pG⟩)
 |skip=>exact aG.ret (.inl ⟨hm.fin h yU,kJ,pG⟩)
 |enter hT ha=>
  rename_i f xs cC;have Sz:P.lw m.fn=true->P.lw f=true:=λe=>by
   unfold uY at hT
   grind
  have hf:P.gs f=true:=zhs F.toFit m.fn f hT
  cases ho:P.op f with
  |false=>
   obtain⟨fn,c,e1,e2,e3,e4,e5⟩:=F.fn f hf ho;simp only[rP,e1,e2,e4];refine aG.ret (.inl ⟨⟨rfl,rfl,rfl,ha.pad _,λj hj=>?_,⟨fn,fn,e1,e2,rfl,F.res f hf ho fn e2⟩⟩,.cons hm ⟨hr,ops,i,rest,k,h⟩ kJ,λe=>⟨Sz (pG e).1,λc hc=>?_⟩⟩)
   .simp only[mB,nD,or_false] at hj
    subst hj;exact e5
   grind
  |true=>
   obtain⟨fn,fn',c,c',e1,e2,e3,e4,e5,e6⟩:=F.opq f hf ho;have zmW:P.lw m.fn=false:=by
    cases hq:P.lw m.fn with
    |false=>rfl
    |true=>have:=(F.low f (Sz hq)).1;simp_all
   have hl:l=false:=by
    cases l with
    |false=>rfl
    |true=>simp_all
   simp only[rP,e1,e2,e5,e6];refine aG.ret (.inr ⟨hl,⟨f,xs,cC,m,m',ms,ms',ho,hf,ha,?_,?_,hm,⟨hr,ops,i,rest,k,h⟩,kJ,zmW⟩⟩)
   .have:P.g.funcs[f]? =some fn:=e1
    simp only[Fc,this,e5]
   .simp only[Fc,e2,e6]
theorem Ms {S:aP->Prop}(h:bQ S K R xs cC)(a:Qp):aG P S K (VA S K) (xP xs a) R (xP cC a):=by
 cases a with
 |tmp t=>exact aG.ret (h.getD t yU)
 |cell s ty=>
  refine aG.bnd (zvL (h.getD s yU)) ?_;intro R1 e1 a a' ha;exact zpt ty ha
theorem zj8 {S:aP->Prop}(h:bQ S K R xs cC):∀l:List Qp,aG P S K (VA S K) (oO l xs) R (oO l cC)
 |[]=>aG.ret (.tuple' bQ.empty)
 |[a]=>Ms h a
 |[a,b]=>by
  refine aG.bnd (Ms h a) ?_;intro R1 e1 x x' hx;refine aG.bnd (Ms (h.mono e1.le) b) ?_;intro R2 e2 y y' hy;exact aG.ret (.tuple' ((bQ.one (hx.mono e2.le)).push hy))
 |[a,b,c]=>by
  refine aG.bnd (Ms h a) ?_;intro R1 e1 x x' hx;refine aG.bnd (Ms (h.mono e1.le) b) ?_;intro R2 e2 y y' hy;refine aG.bnd (Ms ((h.mono e1.le).mono e2.le) c) ?_;intro R3 e3 z z' hz;exact aG.ret (.tuple' (((bQ.one ((hx.mono e2.le).mono e3.le)).push (hy.mono e3.le)).push hz))
 |[a,b,c,d]=>by
  refine aG.bnd (Ms h a) ?_;intro R1 e1 x x' hx;refine aG.bnd (Ms (h.mono e1.le) b) ?_;intro R2 e2 y y' hy;refine aG.bnd (Ms ((h.mono e1.le).mono e2.le) c) ?_;intro R3 e3 z z' hz;refine aG.bnd (Ms (((h.mono e1.le).mono e2.le).mono e3.le) d) ?_;intro R4 e4 u u' hu;exact aG.ret (.tuple' ((((bQ.one (((hx.mono e2.le).mono e3.le).mono e4.le)).push ((hy.mono e3.le).mono e4.le)).push (hz.mono e4.le)).push hu))
 |_::_::_::_::_::_=>.inl bR
theorem zm5 {S:aP->Prop}(ops:Array aZ)(h:bQ S K R xs cC):dL ops xs=dL ops cC:=by
 funext j;unfold dL
 cases hd:(ops[j]?).bind (·.dst) with
 |none=>rfl
 |some d=>
  simp only[vN]
  cases hx:xs[d]? with
  |none=>rw[h.none hx]
  |some v=>
   obtain⟨v',e,hv⟩:=h.get hx;rw[e]
   cases hv with
   |junk hh=>cases v'<;>first|exact hh.elim|rfl
   |_=>rfl
theorem zki {id:Nat}:∀{k k':List dZ},exitTo id k=some k'->∀i∈k',i∈k
 |[],_,h,_,_=>by simp[exitTo] at h
 |x::k,k',h,i,hi=>by
  have tail:exitTo id k=some k'->i∈x::k:=λe=>by simp[zki e i hi]
  cases x<;>simp only[exitTo] at h<;>first|exact tail h|skip
  grind
theorem zeM (F:Fit2 P fs)(hR:uA P K R){l:Bool}(hm:qE P fs K R m m')(kJ:uQ P fs K R ms ms')(pG:LowS P l m ms)(zgb:m.ret=true->ms≠[]):
 aG P (SF fs) K (StA P fs K l) (fJ P.g m ms) R (fJ P.c m' ms'):=by
 unfold fJ;rw[<-hm.ret];by_cases hr:m.ret=true
 .simp only[hr,if_true]
  cases kJ with
  |nil=>simp_all
  |cons hc hw Tn=>
   rename_i c c' rest Nc;obtain⟨_,ops,i,r,k,hk⟩:=hw;obtain⟨fn,fn',e1,e2,e3,e4⟩:=hm.infs;unfold Ap;have cZ:c'.todo=.inRegion ops (i::r)::k:=hc.todo.symm.trans hk;rw[<-hm.fn];simp only[hk,cZ,e1,e2];rw[<-e3];refine aG.bnd (zj8 hm.tmps fn.results.toList) ?_;intro R1 x1 v v' hv;exact aG.ret (.inl ⟨(hc.mono x1.le).fin hk hv,Tn.mono x1.le,λe=>⟨(pG e).2 c aQ,λx hx=>(pG e).2 x (by simp[hx])⟩⟩)
 .have Tk:m.ret=false:=by simpa using hr
  simp only[Tk,iA,if_false];have zL:m'.ret=false:=hm.ret.symm.trans Tk;unfold tL;rw[<-hm.todo];have G5:∀{x y:Fm},qE P fs K R x y->x.fn=m.fn->aG P (SF fs) K (StA P fs K l) (mF (x,ms)) R (mF (y,ms')):=λh e=>aG.ret (.inl ⟨h,kJ,λz=>by rw[e];exact pG z⟩);have keep:∀(l:List dZ),(∀i∈l,Fl P.c (uY P fs m.fn) i=true)->qE P fs K R {m with todo:=l} {m' with todo:=l}:=λl hl=>⟨hm.fn,rfl,hm.ret,hm.tmps,hl,hm.infs⟩;have Ji:=hm.fit;have Qf:=hm.fn
  cases pZ:m.todo with
  |nil=>exact G5 ⟨hm.fn,rfl,rfl,hm.tmps,λi hi=>(by simp at hi),hm.infs⟩ rfl
  |cons x k=>
   rw[pZ] at Ji;have hk:∀i∈k,Fl P.c (uY P fs m.fn) i=true:=λi hi=>Ji i (by simp[hi]);have hx:Fl P.c (uY P fs m.fn) x=true:=Ji x aQ;have two:∀(y z:dZ),Fl P.c (uY P fs m.fn) y=true->Fl P.c (uY P fs m.fn) z=true->∀i∈y::z::k,Fl P.c (uY P fs m.fn) i=true:=λy z hy hz i hi=>by grind
   have one:∀(y:dZ),Fl P.c (uY P fs m.fn) y=true->∀i∈y::k,Fl P.c (uY P fs m.fn) i=true:=λy hy i hi=>by grind
   cases x with
   |code c=>
    cases c with
    |skip=>grind
    |label l=>grind
    |ret=>exact G5 ⟨hm.fn,rfl,rfl,hm.tmps,Ji,hm.infs⟩ rfl
    |seq a b=>
     simp only[Fl,qD,jB] at hx;exact G5 (keep _ (two _ _ hx.1 hx.2)) rfl
    |cond c a b=>
     simp only[Fl,qD,jB] at hx;have hv:=hm.eval c (znn P fs m.fn▸hx.1.1);simp only;generalize m.eval c=v at hv⊢;generalize m'.eval c=v' at hv⊢
     cases hv with
     |bool t=>
      refine G5 (keep _ (one _ ?_)) rfl;cases t
      .exact hx.2
      .exact hx.1.2
     |_=>exact .inl bR
    |block id body=>exact G5 (keep _ (two _ _ hx rfl)) rfl
    |loop body=>exact G5 (keep _ (two _ _ hx hx)) rfl
    |scope body=>exact G5 (keep _ (two _ _ hx hx)) rfl
    |exit id=>
     simp only
     cases he:exitTo id k with
     |none=>exact .inl bR
     |some k'=>exact G5 (keep _ λi hi=>hk i (zki he i hi)) rfl
    |region id ops draw=>
     simp only
     cases draw with
     |true=>
      simp only[if_true];rw[<-Qf];refine aG.bnd (zgh _) ?_;rintro R1 h1 t _ rfl;rw[F.follows];exact aG.ret (.inl ⟨(by have y:=(keep (.inRegion ops (Vg (P.c.follows .mixedOrders) ops t)::k) (one (.inRegion ops (Vg (P.c.follows .mixedOrders) ops t)) hx)).mono h1.le;rw[<-Qf] at y;exact y),kJ.mono h1.le,pG⟩)
     |false=>
      simp only[iA,if_false];exact G5 (keep _ (one (.inRegion ops (iL ops.size)) hx)) rfl
    |_=>cases hx
   |inBlock id=>grind
   |inScope c=>grind
   |inLoop c=>exact G5 (keep _ (two _ _ hx hx)) rfl
   |inRegion ops l=>
    cases l with
    |nil=>grind
    |cons i rest=>
     simp only;rw[<-zm5 ops hm.tmps];by_cases hw:((ops[i]?).map (dI · (dL ops m.tmps))).getD false=true
     .rw[if_pos hw,if_pos hw]
      cases ho:ops[i]? with
      |none=>exact .inl bR
      |some o=>
       simp only;have bV:sO P.c (uY P fs m.fn) o.op=true:=by
        have mJ:=zrt.1 hx i (eM.1 ho).1
        rwa [(eM.1 ho).2] at mJ
       refine aG.bnd (zjG F.toFit hR hm.eval (λg=>rfl) (λg=>rfl) (λg=>rfl) (λg=>rfl) (λv=>rfl) (λv=>rfl) (znn P fs m.fn) (zhs F.toFit m.fn) (zw0 F.toFit m.fn) bV) ?_;intro R1 h1 n n' hn;exact sim_opS F (hm.mono h1.le) (kJ.mono h1.le) pG Tk pZ hn
     .rw[if_neg hw,if_neg hw]
      exact G5 (hm.fin pZ yU) rfl
   |_=>cases hx
end
end Go.Tt
namespace Go.Tt
open Go.Conc (G solo)
def nilD:Deferred:={target:=.nil,args:=#[]}
def pz:Frame:={(default:dV) with mode:=.panicking [],defers:=[nilD],kind:=.normal}
section
variable {P:dQ}{fs:aP->Bool}{K R:Pr}{G':Gp}{St:Nat->Prop}
variable {w:aE}
theorem zy5 (F:Fit2 P fs)(hG:G'=P.gp){W:aE}(hw:dB (SF fs) K R G' St w W)(ht:Tp w W){m m':Fm}{ms ms':List Fm}(hm:qE P fs K R m m')(kJ:uQ P fs K R ms ms')(zgb:m.ret=true->ms≠[])
 (fR:∀x w',(fJ P.g m ms).run P.g w≠ .ok x w') (base:List dV):
 (∃o w1 es,stepG P.g true (G m.fr (ms.map Fm.fr++base)) w=.ended o w1 es)\/
 ∃x w1 es,stepG P.g true (G m.fr (ms.map Fm.fr++base)) w=.go (G x (ms.map Fm.fr++base)) w1 es/\(∃c,x.mode=.panicking c)/\x.defers=[]:=by
 have hR:uA P K R:=by subst hG;exact⟨hw.inj,hw.inj',λa b h=>(hw.low a b h).1,hw.tb⟩
 unfold fJ at fR;by_cases hr:m.ret=true
 .simp only[hr,if_true] at fR
  cases kJ with
  |nil=>simp_all
  |cons hc cG Tn=>
   rename_i c c' rest Nc;obtain⟨_,ops,i,r,k,hk⟩:=cG;obtain⟨fn,fn',e1,e2,e3,e4⟩:=hm.infs;have he:results fn m.tmps=oO fn.results.toList m.tmps:=zmO e4
   cases hx:(oO fn.results.toList m.tmps).run P.g w with
   |ok v w1=>exact absurd (Mc (rest:=rest) hk e1 hx).1 (fR _ _)
   |halt y w1=>
    refine .inl ?_;rw[Fm.fr_ret hr];cases y<;>exact⟨_,_,_,by simp only[G,stepG,unwind,e1,he,dA.runT_eq,hx,Di];rfl⟩
 .have Tk:m.ret=false:=by simpa using hr
  simp only[Tk,iA,if_false] at fR;have nH:m.fr.eval=m.eval:=m.eval_fr;have Ji:=hm.fit;have zGP:=hm.tmps;have zhn:=hm.eval;obtain⟨fn,tmps,todo,ret⟩:=m;simp only at Tk Ji zGP;subst Tk;unfold tL at fR;simp only at fR
  cases todo with
  |nil=>simp_all
  |cons x k=>
   have hx:Fl P.c (uY P fs fn) x=true:=Ji x aQ
   cases x with
   |code c=>
    cases c with
    |skip=>simp_all
    |label l=>simp_all
    |ret=>simp_all
    |seq a b=>simp_all
    |block id body=>simp_all
    |loop body=>simp_all
    |scope body=>simp_all
    |cond c a b=>
     have hc:=congrFun nH c;simp only at fR
     cases hv:Fm.eval {fn:=fn,tmps:=tmps,todo:=Ln (Code.cond c a b)::k,ret:=false} c with
     |bool t=>simp_all
     |_=>
      left;rw[hv] at hc;simp only[Fm.fr,iA,if_false] at hc⊢;simp only[G,stepG,Np,hc];simp_all
    |exit id=>
     simp only at fR
     cases he:exitTo id k with
     |some k'=>simp_all
     |none=>
      left;simp only[Fm.fr,iA,if_false];simp[G,stepG,Np,he]
    |region id ops draw=>
     simp only at fR
     cases draw with
     |true=>exact absurd (by simp[choose,bN,zjf,zk4,bind,yK,pure];exact⟨rfl,rfl⟩) (fR _ _)
     |false=>simp_all
    |_=>cases hx
   |inBlock id=>simp_all
   |inScope c=>simp_all
   |inLoop c=>simp_all
   |inRegion ops l=>
    cases l with
    |nil=>simp_all
    |cons i rest=>
     simp only at fR
     cases ho:ops[i]? with
     |none=>simp_all
     |some o=>
      rw[ho] at fR;simp only[G7,Cb] at fR;by_cases sE:dI o (dL ops tmps)=true
      .rw[if_pos sE] at fR
       have bV:sO P.c (uY P fs fn) o.op=true:=by
        have mJ:=zrt.1 hx i (eM.1 ho).1
        rwa [(eM.1 ho).2] at mJ
       have zbw:=zjG F.toFit hR zhn (λg=>rfl) (λg=>rfl) (λg=>rfl) (λg=>rfl) (λv=>rfl) (λv=>rfl) (znn P fs fn) (zhs F.toFit fn) (zw0 F.toFit fn) bV;have uF:∀x w',((aO (Fm.eval {fn:=fn,tmps:=tmps,todo:=sJ ops (i::rest)::k,ret:=false}) o).bind (rP P.g {fn:=fn,tmps:=tmps,todo:=sJ ops (i::rest)::k,ret:=false} ms ops i rest k)).run P.g w≠ .ok x w':=fR;rcases aG.tame hG _ zbw hw ht with⟨n,w1,hn⟩|⟨h,w1,hn,hth⟩
       .have ze3:Act.eval ⟨tmps,[]⟩=Fm.eval {fn:=fn,tmps:=tmps,todo:=sJ ops (i::rest)::k,ret:=false}:=funext λx=>by cases x<;>rfl
        obtain⟨R1,n',W1,ev,e1,e2,e3,e4,e5⟩:=aG.run hG _ zbw hw ht hn;have:=λx w'=>uF x w';simp only[vD,hn,vW] at this
        cases e2 with
        |value hv=>exact absurd rfl (this _ _)
        |skip=>exact absurd rfl (this _ _)
        |enter hT ha=>
         rename_i f xs cC;have hf:P.gs f=true:=zhs F.toFit fn f hT
         cases za9:P.op f with
         |false=>
          obtain⟨fn',c,q1,q2,q3,q4,q5⟩:=F.fn f hf za9;simp only[rP,q1,q4] at this;simp_all
         |true=>
          obtain⟨fn1,fn2,c1,c2,q1,q2,q3,q4,q5,q6⟩:=F.opq f hf za9;simp only[rP,q1,q5] at this;simp_all
       .have ze3:Act.eval ⟨tmps,[]⟩=Fm.eval {fn:=fn,tmps:=tmps,todo:=sJ ops (i::rest)::k,ret:=false}:=funext λx=>by cases x<;>rfl
        have hop:=Conc.stepG_oper (P:=P.g) (main:=true) (b:=Jj fn) (a:=⟨tmps,[]⟩) (k:=k) (cs:=List.map Fm.fr ms++base) (w:=w) (rest:=rest) ho sE;have gE:(Fm.fr {fn:=fn,tmps:=tmps,todo:=sJ ops (i::rest)::k,ret:=false})=(Jj fn).at ⟨tmps,[]⟩ (.inRegion ops (i::rest)::k):=rfl;rw[gE,hop,ze3]
        cases h with
        |panic v=>
         right;simp[stepG.apply,hn,Di,G,zux,dV.at]
        |stuck s=>left;simp[stepG.apply,hn,Di]
        |unsupported u=>
         left;cases u<;>first|exact hth.elim|simp[stepG.apply,hn,Di]
        |_=>exact hth.elim
      simp_all
   |_=>cases hx
variable {p:cD}{w':aE}{o:Outcome}
theorem zaI {a:bE}{es:Array rQ}(hs:a.status=.running)(h:stepG p true a w=.ended o w' es):step p (solo a w)=.ended o w':=by
 rw[step,Conc.stepT_solo hs,Conc.solo_eq_crowd,Conc.runT_many_ended (i:=0) rfl h]
variable {m:Q0}
theorem zaC {m':Q0}(h:step p m=.next m')(n:Nat):runN p (n+1) m=runN p n m':=by simp[runN,h]
theorem zyc (h:step p m=.ended o w)(n:Nat):runN p (n+1) m=.ended o w:=by simp[runN,h]
theorem zeF {g g':bE}(h:solo g w=solo g' w'):g=g'/\w=w':=by
 injection h with h1 h2;simp_all
theorem zeo {fr ztv:dV}{cs U6:List dV}(h:G fr cs=G ztv U6):fr=ztv/\cs=U6:=by
 injection h with h1 h2;exact⟨h1,h2⟩
def zjR (x:dV):Prop:=∃c,x.mode=.panicking c
theorem zfs (x:dV)(vs:List PanicEntry):zjR (x.raise vs)/\(x.raise vs).defers=x.defers:=by
 unfold zux;split
 .exact⟨⟨_,rfl⟩,rfl⟩
 .exact⟨⟨_,rfl⟩,rfl⟩
variable {ds:List Deferred}
theorem zwn {x:dV}(hd:x.defers=nilD::ds)(hm:zjR x)(cs:List dV)(w:aE):∃o w1 es,stepG p true (G x cs) w=.ended o w1 es:=by
 obtain⟨c,hc⟩:=hm;refine⟨.unsupported (.noEntry "machine/Return: a deferred call of a nil function value, made while the frame is unwinding") ({x with defers:=ds}.pos p),w,#[],?_⟩;simp[G,stepG,hc,unwind,hd,callDeferred,nilD]
theorem zGo (frT:dV)(wT:aE)(hT:frT.mode=.returning):∀(n:Nat) (x:dV) (ys:List dV) (w:aE),zjR x->x.defers=[]->(∀y∈ys,y.defers=[])->runN p n (solo (G x (ys++[pz])) w)≠ .next (solo (G frT [pz]) wT):=by
 intro n
 induction n with
 |zero=>
  intro x ys w ⟨c,hc⟩ _ _ e;simp only[runN,zd0] at e;have:=(zeo (zeF e).1).1;simp_all
 |succ n ih=>
  intro x ys w ⟨c,hc⟩ hd zxc e;have cO:(G x (ys++[pz])).status=.running:=rfl;by_cases ztE:x.catches p=true
  .have aX:∃o w1 es,stepG p true (G x (ys++[pz])) w=.ended o w1 es:=by simp[G,stepG,hc,unwind,hd,ztE]
   obtain⟨o,w1,es,aX⟩:=aX;have hs:=zaI cO aX;simp[runN,hs] at e
  .have zw6:x.catches p=false:=by simpa using ztE
   cases ys with
   |nil=>
    have aX:stepG p true (G x [pz]) w=.go (G (pz.raise c) []) w:=by simp[G,stepG,hc,unwind,hd,zw6]
    have hs:=zbr cO aX;replace e:=(zaC hs n).symm.trans e
    cases n with
    |zero=>
     simp only[runN,zd0] at e;have:=(zeo (zeF e).1).2;cases this
    |succ n=>
     obtain⟨o,w1,es,znB⟩:=zwn (p:=p) (x:=pz.raise c) (ds:=[]) ((zfs pz c).2) (zfs pz c).1 [] w;have yZ:=zaI rfl znB;have:=(zyc yZ n).symm.trans e;cases this
   |cons y ys=>
    have aX:stepG p true (G x (y::(ys++[pz]))) w=.go (G (y.raise c) (ys++[pz])) w:=by simp[G,stepG,hc,unwind,hd,zw6]
    have hs:=zbr cO aX;replace e:=(zaC hs n).symm.trans e;exact ih (y.raise c) ys w (zfs y c).1 ((zfs y c).2.trans (zxc y aQ)) (λz hz=>zxc z (by simp[hz])) e
theorem zAb (frT:dV)(wT:aE){m:Fm}(hr:m.ret=true)(n:Nat):runN p (n+1) (solo (G m.fr [pz]) w)≠ .next (solo (G frT [pz]) wT):=by
 intro e;have cO:(G m.fr [pz]).status=.running:=rfl;have key:(∃o w1 es,stepG p true (G m.fr [pz]) w=.ended o w1 es)\/∃v w1 es,stepG p true (G m.fr [pz]) w=.go (G (pz.finish v) []) w1 es:=by
  rw[Fm.fr_ret hr]
  cases hf:p.funcs[m.fn]? with
  |none=>right;simp[G,stepG,unwind,doReturn,hf];exact⟨_,rfl⟩
  |some fn=>
   cases hx:(results fn m.tmps).run p w with
   |ok v w1=>right;simp[G,stepG,unwind,doReturn,hf,hx,Di];exact⟨_,rfl⟩
   |halt h w1=>left;cases h<;>simp[G,stepG,unwind,hf,hx,Di]
 rcases key with⟨o,w1,es,aX⟩|⟨v,w1,es,aX⟩
 .have hs:=zaI cO aX
  simp[runN,hs] at e
 .have hs:=zbr cO aX
  simp only[runN,hs] at e
  cases n with
  |zero=>
   simp only[runN,zd0] at e;have:=(zeo (zeF e).1).2;cases this
  |succ n=>
   have zFI:pz.finish v=pz:=rfl;rw[zFI] at e;obtain⟨o,w2,es,znB⟩:=zwn (p:=p) (x:=pz) (ds:=[]) rfl ⟨_,rfl⟩ [] w1;have yZ:=zaI rfl znB;simp[runN,yZ] at e
end
inductive Jk (p:cD):Nat->Fm->List Fm->aE->Fm->aE->Prop
 |stop {m:Fm} {w:aE}:m.ret=true->Jk p 0 m [] w m w
 |step {n:Nat} {m m1 mT:Fm} {ms ms1:List Fm} {w w1 wT:aE}:(m.ret=true->ms≠[])->(fJ p m ms).run p w=.ok (m1,ms1) w1->Jk p n m1 ms1 w1 mT wT->Jk p (n+1) m ms w mT wT
structure wK (P:dQ)(fs:aP->Bool):Prop extends Fit2 P fs where
 none:∀f,P.op f=false
section
variable (P:dQ)(fs:aP->Bool)(K:Pr)(G':Gp)(St:Nat->Prop)
def yH (m:Fm)(ms:List Fm)(w:aE):Prop:=∃R W m' ms',dB (SF fs) K R G' St w W/\qE P fs K R m m'/\uQ P fs K R ms ms'
variable {P fs K G' St}
variable {w W:aE}
def dB.tp {S:aP->Prop}{R:Pr}(h:dB S K R G' St w W)(T:kI)(e:Nat):dB S K R G' St (tp w T e) (tp W T e):=
 ⟨h.inj,h.inj',h.lt,h.low,h.gle,h.cont,h.rest,h.st,h.np,h.tb⟩
variable {T:kI}
def dB.untp {S:aP->Prop}{R:Pr}{e:Nat}(h:dB S K R G' St (Tt.tp w T e) W):dB S K R G' St w W:=
 ⟨h.inj,h.inj',h.lt,h.low,h.gle,h.cont,h.rest,h.st,h.np,h.tb⟩
def Tp.tp (w W:aE)(T:kI)(e:Nat):Tp (tp w T e) (tp W T e):=λ_ _=>rfl
theorem dB.relOk {S:aP->Prop}{R:Pr}(hG:G'=P.gp)(h:dB S K R G' St w W):uA P K R:=by subst hG;exact⟨h.inj,h.inj',λa b x=>(h.low a b x).1,h.tb⟩
variable {m:Fm}{ms:List Fm}
theorem yH.next (F:wK P fs)(hG:G'=P.gp){m1:Fm}{ms1:List Fm}{w1:aE}{e:Nat}(h:yH P fs K G' St m ms w)(hs:m.ret=true->ms≠[])
 (hr:(fJ P.g m ms).run P.g (tp w T e)=.ok (m1,ms1) w1):yH P fs K G' St m1 ms1 w1:=by
 obtain⟨R,W,m',ms',hw,hm,kJ⟩:=h;obtain⟨R1,x',W1,ev,e1,e2,e3,e4,e5⟩:=aG.run hG _ (zeM (l:=false) F.toFit2 (hw.relOk hG) hm kJ (λe=>by cases e) hs) (hw.tp T e) (Tp.tp w W T e) hr;rcases e2 with e2|⟨_,⟨f,_,_,_,_,_,_,ho,_⟩⟩
 .exact⟨R1,W1,x'.1,x'.2,e3.rel,e2.1,e2.2.1⟩
 .rw[F.none] at ho;cases ho
theorem yH.locl (F:wK P fs)(hG:G'=P.gp)(h:yH P fs K G' St m ms w)(hs:m.ret=true->ms≠[])(T:kI)(e:Nat):O0 P.g (fJ P.g m ms) (tp w T e):=by
 obtain⟨R,W,m',ms',hw,hm,kJ⟩:=h;exact aG.locl hG _ (zeM (l:=false) F.toFit2 (hw.relOk hG) hm kJ (λe=>by cases e) hs) (hw.tp T e) (Tp.tp w W T e)
theorem tp_self (h:w.tape=T):tp w T w.drawn=w:=by subst h;rfl
theorem Jk.alike (F:wK P fs)(hG:G'=P.gp):∀{n:Nat} {m mT:Fm} {ms:List Fm} {w wT:aE} {T1 T2:kI} {e1 e2:Nat},yH P fs K G' St m ms w->Jk P.g n m ms (tp w T1 e1) mT wT->(∀n q,T2 (e2+n) q=T1 (e1+n) q)->∃e3,Jk P.g n m ms (tp w T2 e2) mT (tp wT T2 e3):=by
 intro n
 induction n with
 |zero=>
  intro m mT ms w wT T1 T2 e1 e2 hR h ht
  cases h with
  |stop hr=>exact⟨e2,.stop hr⟩
 |succ n ih=>
  intro m mT ms w wT T1 T2 e1 e2 hR h ht
  cases h with
  |step hs hr hn=>
   rename_i m1 ms1 w1;obtain⟨h1,h2,h3⟩:=hR.locl F hG hs T1 e1 _ _ hr;have h4:=h3 T2 e2 (λk _ q=>ht k q);have zmw:w1=tp w1 T1 w1.drawn:=(tp_self h1).symm;rw[zmw] at hn
   obtain⟨e3,h5⟩:=ih (T2:=T2) (e2:=e2+(w1.drawn-e1)) (hR.next F hG hs hr) hn (λk q=>by
    have Pt:e1<=w1.drawn:=h2;rw[show e2+(w1.drawn-e1)+k=e2+((w1.drawn-e1)+k) by omega,ht,show e1+((w1.drawn-e1)+k)=w1.drawn+k by omega])
   exact⟨e3,.step hs h4 h5⟩
theorem Qc (F:wK P fs)(hG:G'=P.gp){frT:dV}{wT:aE}(hT:frT.mode=.returning):∀(n:Nat) {m:Fm} {ms:List Fm} {w:aE},yH P fs K G' St m ms w->
 runN P.g n (solo (G m.fr (ms.map Fm.fr++[pz])) w)=.next (solo (G frT [pz]) wT)->∃k mT,Jk P.g k m ms w mT wT/\mT.fr=frT:=by
 intro n
 induction n with
 |zero=>
  intro m ms w hR h;simp only[runN,zd0] at h;obtain⟨h1,rfl⟩:=zeF h;obtain⟨h2,h3⟩:=zeo h1;have kJ:ms=[]:=by
   cases ms with
   |nil=>rfl
   |cons a b=>simp_all
  subst kJ;have hr:m.ret=true:=by
   rw[<-h2] at hT
   cases hm:m.ret with
   |true=>rfl
   |false=>rw[Fm.fr_run hm] at hT;cases hT
  exact⟨0,m,.stop hr,h2⟩
 |succ n ih=>
  intro m ms w hR h;by_cases zgb:m.ret=true/\ms=[]
  .obtain⟨hr,rfl⟩:=zgb
   exact absurd h (zAb frT wT hr n)
  .have hs:m.ret=true->ms≠[]:=λa b=>zgb ⟨a,b⟩
   have zmw:tp w w.tape w.drawn=w:=rfl;by_cases bV:∃x w1,(fJ P.g m ms).run P.g w=.ok x w1
   .obtain⟨⟨m1,ms1⟩,w1,hr⟩:=bV
    have vV:step P.g (solo (G m.fr (ms.map Fm.fr++[pz])) w)=.next (solo (G m1.fr (ms1.map Fm.fr++[pz])) w1):=by
     exact zbr rfl (zjj (main:=true) hr [pz])
    obtain⟨k,mT,h1,h2⟩:=ih (yH.next (T:=w.tape) (e:=w.drawn) F hG hR hs hr) ((zaC vV n).symm.trans h);exact⟨k+1,mT,.step hs hr h1,h2⟩
   .exfalso
    obtain⟨R,W,m',ms',hw,hm,kJ⟩:=hR;rcases zy5 F.toFit2 hG (hw.tp w.tape w.drawn) (Tp.tp w W w.tape w.drawn) hm kJ hs (λx w' e=>bV ⟨x,w',e⟩) [pz] with⟨o,w1,es,aX⟩|⟨x,w1,es,aX,hp,hd⟩
    .have vV:=zaI rfl aX
     have:=(zyc vV n).symm.trans h;cases this
    .have vV:=zbr rfl aX
     exact zGo frT wT hT n x (ms.map Fm.fr) w1 hp hd (λy hy=>by obtain⟨z,_,rfl⟩:=List.mem_map.1 hy;rfl) ((zaC vV n).symm.trans h)
inductive LT (p:cD)(Q:Fm->aE->Prop):Fm->List Fm->aE->Prop
 |stop {m:Fm} {w:aE}:m.ret=true->Q m w->LT p Q m [] w
 |step {m:Fm} {ms:List Fm} {w:aE} (nx:kI->(Fm×List Fm)×aE):(m.ret=true->ms≠[])->(∀T,(fJ p m ms).run p (tp w T 0)=.ok (nx T).1 (nx T).2)->(∀T,LT p Q (nx T).1.1 (nx T).1.2 (nx T).2)->LT p Q m ms w
def Hyp (P:dQ)(fs:aP->Bool)(K:Pr)(G':Gp)(St:Nat->Prop)(Q:Fm->aE->Prop)(s:Fm×List Fm×aE):Prop:=
 yH P fs K G' St s.1 s.2.1 s.2.2/\∀T,∃n mT wT,Jk P.g n s.1 s.2.1 (tp s.2.2 T 0) mT wT/\Q mT wT
theorem bar (F:wK P fs)(hG:G'=P.gp){Q:Fm->aE->Prop}(hQ:∀m w T e,Q m w->Q m (tp w T e))(h:Hyp P fs K G' St Q (m,ms,w)):LT P.g Q m ms w:=by
 refine Au λfR=>?_
 let Bad:Fm×List Fm×aE->Prop:=λs=>Hyp P fs K G' St Q s/\¬LT P.g Q s.1 s.2.1 s.2.2
 have znN:∀s,Bad s->s.1.ret=true->s.2.1≠[]:=by
  rintro⟨m,ms,w⟩ ⟨⟨hR,hI⟩,hn⟩ hr e;simp only at hr e hn hI;subst e;obtain⟨n,mT,wT,Vr,hq⟩:=hI w.tape
  cases Vr with
  |stop _=>exact hn (.stop hr (show Q m (tp (tp w w.tape 0) w.tape w.drawn) from hQ _ _ w.tape w.drawn hq))
  |step hs _ _=>exact hs hr rfl
 have next:∀s,Bad s->∃(T:kI) (s1:Fm×List Fm×aE),(fJ P.g s.1 s.2.1).run P.g (tp s.2.2 T 0)=.ok (s1.1,s1.2.1) s1.2.2/\Bad s1:=by
  rintro⟨m,ms,w⟩ hb;have hs:=znN _ hb;obtain⟨⟨hR,hI⟩,hn⟩:=hb;simp only at hs hI hn hR⊢;have bV:∀T,∃x w1,(fJ P.g m ms).run P.g (tp w T 0)=.ok x w1:=λT=>by
   obtain⟨n,mT,wT,Vr,_⟩:=hI T
   cases Vr with
   |stop hr=>exact absurd rfl (hs hr)
   |step _ hr _=>exact⟨_,_,hr⟩
  refine Au λzEr=>hn ?_
  let x:=λT=>(bV T).choose
  let w1:=λT=>(bV T).choose_spec.choose
  have hx:∀T,(fJ P.g m ms).run P.g (tp w T 0)=.ok (x T) (w1 T):=λT=>(bV T).choose_spec.choose_spec;refine .step (λT=>(x T,w1 T)) hs hx λT=>Au λaT=>zEr ⟨T,((x T).1,(x T).2,w1 T),hx T,⟨?_,?_⟩,aT⟩
  .exact hR.next F hG hs (hx T)
  .intro T'
   obtain⟨h1,h2,h3⟩:=hR.locl F hG hs T 0 _ _ (hx T)
   let T2:Tape:=λn q=>if n<(w1 T).drawn then T n q else T' (n-(w1 T).drawn) q
   have h4:=h3 T2 0 (λn hn q=>by
    have vZ:n<(w1 T).drawn:=by simpa[tp] using hn
    show(if 0+n<(w1 T).drawn then T (0+n) q else _)=_;rw[if_pos aC];rfl)
   obtain⟨n,mT,wT,Vr,hq⟩:=hI T2
   cases Vr with
   |stop hr=>exact absurd rfl (hs hr)
   |step Hr hr vZ=>
    rename_i n' m1 ms1 w2;have Hz:(fJ P.g m ms).run P.g (tp w T2 0)=.ok (x T) (tp (w1 T) T2 (0+((w1 T).drawn-(tp w T 0).drawn))):=h4;rw[Hz] at hr;injection hr with e1 e2;have N8:m1=(x T).1:=by rw[e1]
    have Ak:ms1=(x T).2:=by rw[e1]
    subst N8 Ak;rw[<-e2] at vZ;have hd:0+((w1 T).drawn-(tp w T 0).drawn)=(w1 T).drawn:=by show 0+((w1 T).drawn-0)=_;omega
    rw[hd] at vZ
    obtain⟨e3,h5⟩:=Jk.alike (T2:=T') (e2:=0) F hG (hR.next F hG hs (hx T)) vZ (λk q=>by
     show _=(if(w1 T).drawn+k<(w1 T).drawn then _ else T' ((w1 T).drawn+k-(w1 T).drawn) q);rw[if_neg aC];congr 1;omega)
    exact⟨n',mT,_,h5,hQ _ _ _ _ hq⟩
 have hstart:Bad (m,ms,w):=⟨h,fR⟩
 let nT:=λs (hb:Bad s)=>(next s hb).choose
 let nS:=λs (hb:Bad s)=>(next s hb).choose_spec.choose
 have cO:∀s (hb:Bad s),(fJ P.g s.1 s.2.1).run P.g (tp s.2.2 (nT s hb) 0)=.ok ((nS s hb).1,(nS s hb).2.1) (nS s hb).2.2:=λs hb=>(next s hb).choose_spec.choose_spec.1;have Sq:∀s (hb:Bad s),Bad (nS s hb):=λs hb=>(next s hb).choose_spec.choose_spec.2
 let seq:Nat->{s:Fm×List Fm×aE//Bad s}:=λk=>Nat.rec ⟨(m,ms,w),hstart⟩ (λ_ s=>⟨nS s.1 s.2,Sq s.1 s.2⟩) k
 let tps:Nat->Tape:=λk=>nT (seq k).1 (seq k).2
 let d:Nat->Nat:=λk=>(seq (k+1)).1.2.2.drawn
 let D:Nat->Nat:=λk=>Nat.rec 0 (λk x=>x+d k) k
 have hD:∀k,D (k+1)=D k+d k:=λk=>rfl;have zq9:∀i j,i<=j->D i<=D j:=λi j rC=>by
  induction rC with
  |refl=>exact bM _
  |step _ ih=>exact eE ih (by rw[hD];omega)
 classical
 let TS:Tape:=λN q=>if hh:∃k,D k<=N/\N<D (k+1) then tps hh.choose (N-D hh.choose) q else 0
 have zBH:∀k n q,n<d k->TS (D k+n) q=tps k n q:=by
  intro k n q hn;have hh:∃j,D j<=D k+n/\D k+n<D (j+1):=⟨k,aC,by rw[hD];omega⟩;have hc:=hh.choose_spec;have hk:hh.choose=k:=by
   rcases Nat.lt_trichotomy hh.choose k with x|x|x
   .have:=zq9 (hh.choose+1) k x;omega
   .exact x
   .have:=zq9 (k+1) hh.choose x;rw[hD] at this;omega
  show(if hh:∃j,D j<=D k+n/\D k+n<D (j+1) then _ else _)=_;rw[dif_pos hh,hk];congr 1;omega
 have vV:∀k,(fJ P.g (seq k).1.1 (seq k).1.2.1).run P.g (tp (seq k).1.2.2 TS (D k))=.ok ((seq (k+1)).1.1,(seq (k+1)).1.2.1) (tp (seq (k+1)).1.2.2 TS (D (k+1))):=by
  intro k;have hb:=(seq k).2;have hs:=znN _ hb;have hr:=cO (seq k).1 (seq k).2;obtain⟨h1,h2,h3⟩:=hb.1.1.locl F hG hs (tps k) 0 _ _ hr;have h4:=h3 TS (D k) (λn hn q=>by
   have vZ:n<d k:=by have:n<(nS (seq k).1 (seq k).2).2.2.drawn-0:=hn;simpa using this
   rw[zBH k n q vZ];show _=tps k (0+n) q;rw[qV])
  have e1:D k+((nS (seq k).1 (seq k).2).2.2.drawn-(tp (seq k).1.2.2 (tps k) 0).drawn)=D (k+1):=by rw[hD];show D k+((seq (k+1)).1.2.2.drawn-0)=_;rfl
  rw[e1] at h4;exact h4
 obtain⟨n,mT,wT,Vr,_⟩:=h.2 TS;have key:∀(n k:Nat) (mT:Fm) (wT:aE),Jk P.g n (seq k).1.1 (seq k).1.2.1 (tp (seq k).1.2.2 TS (D k)) mT wT->False:=by
  intro n
  induction n with
  |zero=>
   intro k mT wT hi;have hs:=znN _ (seq k).2;generalize kJ:(seq k).1.2.1=ms0 at hi hs
   cases hi with
   |stop hr=>exact hs hr rfl
  |succ n ih=>
   intro k mT wT hi;have aX:=vV k;generalize kJ:(seq k).1.2.1=ms0 at hi aX;generalize zca:(seq k).1.1=m0 at hi aX;generalize jI:tp (seq k).1.2.2 TS (D k)=w0 at hi aX
   cases hi with
   |step Hr hr hn=>
    rename_i m1 ms1 w1;rw[aX] at hr;injection hr with e1 e2;injection e1 with e1 e3;subst e1 e2 e3;exact ih (k+1) mT wT hn
 exact key n 0 mT wT Vr
end
end Go.Tt
namespace Go.Tt
inductive LTs (p:cD)(N:Fm->Prop)(Stop:Fm->List Fm->aE->Prop):Fm->List Fm->aE->Prop
 |stop {m:Fm} {ms:List Fm} {w:aE}:Stop m ms w->LTs p N Stop m ms w
 |step {m:Fm} {ms:List Fm} {w:aE} (nx:kI->(Fm×List Fm)×aE):(m.ret=true->ms≠[])->(∀T,(fJ p m ms).run p (tp w T 0)=.ok (nx T).1 (nx T).2)->(∀T,N (nx T).1.1)->(∀T,LTs p N Stop (nx T).1.1 (nx T).1.2 (nx T).2)->LTs p N Stop m ms w
def Fm.app (m:Fm)(k:List dZ):Fm:={m with todo:=m.todo++k}
theorem Fm.app_nil (m:Fm):m.app []=m:=by unfold Fm.app;simp
def y3 (S:List Nat):Code->Bool
 | .skip| .ret| .exit _| .label _=>true
 | .region _ ops _=>ops.all λo=>match o.dst with|some s=>!S.contains s|none=>true
 | .seq a b=>y3 S a&&y3 S b
 | .cond _ a b=>y3 S a&&y3 S b
 | .block _ c| .loop c| .scope c=>y3 S c
 |_=>false
def Ca (S:List Nat):dZ->Bool
 | .code c| .inLoop c| .inScope c=>y3 S c
 | .inBlock _=>true
 | .inRegion ops _=>ops.all λo=>match o.dst with|some s=>!S.contains s|none=>true
 |_=>false
def Uo:Fm->List Fm->Fm
 |m,[]=>m
 |_,c::cs=>Uo c cs
structure K3 (S:List Nat)(m m':Fm):Prop where
 no:∀i∈m'.todo,Ca S i=true
 at_:∀s∈S,m'.tmps.getD s aA=m.tmps.getD s aA
variable {S:List Nat}{k:List dZ}
theorem zf5 {m:Fm}{ops:Array aZ}{i:Nat}{rest:List Nat}(h:m.todo=.inRegion ops (i::rest)::k)(hn:∀i∈m.todo,Ca S i=true)(v:aF):K3 S m (m.fin ops i rest k v):=by
 have hx:=hn (.inRegion ops (i::rest)) uB;refine⟨λj hj=>?_,λs hs=>?_⟩
 .simp only[Fm.fin,mB] at hj
  rcases hj with rfl|hj
  .exact hx
  simp_all
 .unfold Fm.fin
  simp only
  cases hd:(ops[i]?).bind (·.dst) with
  |none=>rfl
  |some q=>
   obtain⟨o,ho,hq⟩:=Option.bind_eq_some_iff.1 hd;simp only[Ca,Array.all_eq_true_iff_forall_mem] at hx;have h1:=hx o (Array.mem_of_getElem? ho);rw[hq] at h1;simp only[Bool.not_eq_true',List.contains_eq_mem,decide_eq_false_iff_not] at h1;have aS:q≠s:=λe=>h1 (e▸hs);simp_all
def zF2 {id:Nat}{k':List dZ}(h:exitTo id k=some k')(hn:∀i∈k,Ca S i=true):∀i∈k',Ca S i=true:=λi hi=>hn i (zki h i hi)
section
variable {p:cD}
theorem Fm.fin_app (m:Fm)(ops:Array aZ)(i:Nat)(rest:List Nat)(k0 k:List dZ)(v:aF):(m.app k).fin ops i rest (k0++k) v=(m.fin ops i rest k0 v).app k:=by
 unfold Fm.fin Fm.app;simp
variable {m x:Fm}{ms ys ms':List Fm}{w w1:aE}
theorem zaP (k:List dZ)(aS:m.todo≠[])(h:(tL p m ms).run p w=.ok (x,ys) w1):
 (ys=ms/\x.fn=m.fn/\(x.ret=true->m.ret=false->x.todo≠[])/\(∀S,(∀i∈m.todo,Ca S i=true)->K3 S m x)/\(tL p (m.app k) ms').run p w=.ok (x.app k,ms') w1)\/(ys=m::ms/\(tL p (m.app k) ms').run p w=.ok (x,m.app k::ms') w1):=by
 obtain⟨fn,tmps,todo,ret⟩:=m;simp only at aS;unfold tL at h⊢;simp only[Fm.app] at h⊢
 cases todo with
 |nil=>exact absurd rfl aS
 |cons it k0=>
  simp only[U8] at h⊢
  cases it with
  |code c=>
   cases c with
   |cond c a b=>
    simp only at h⊢;have he:Fm.eval {fn:=fn,tmps:=tmps,todo:=Ln (Code.cond c a b)::(k0++k),ret:=ret} c=Fm.eval {fn:=fn,tmps:=tmps,todo:=Ln (Code.cond c a b)::k0,ret:=ret} c:=by cases c<;>rfl
    rw[he]
    cases hv:Fm.eval {fn:=fn,tmps:=tmps,todo:=Ln (Code.cond c a b)::k0,ret:=ret} c with
    |bool t=>
     rw[hv] at h;simp only[mF,bN,vO,sV] at h;obtain⟨⟨rfl,rfl⟩,rfl⟩:=h;refine .inl ⟨rfl,rfl,λa b=>Ld (b.symm.trans a),λS hn=>⟨?_,λ_ _=>rfl⟩,rfl⟩;simp only[mB,forall_eq_or_imp,Ca,y3,jB] at hn⊢;cases t<;>grind
    |_=>rw[hv] at h;simp[stuck,bN] at h
   |exit id=>
    simp only at h⊢
    cases he:exitTo id k0 with
    |some k'=>
     rw[he] at h;rw[zlc k he];simp only[mF,bN,vO,sV] at h;obtain⟨⟨rfl,rfl⟩,rfl⟩:=h;exact .inl ⟨rfl,rfl,λa b=>Ld (b.symm.trans a),λS hn=>⟨zF2 he λi hi=>hn i (List.mem_cons_of_mem _ hi),λ_ _=>rfl⟩,rfl⟩
    |none=>rw[he] at h;simp[stuck,bN] at h
   |region id ops draw=>
    cases draw with
    |true=>
     simp only[if_true] at h⊢;have h2:=(vD p (choose (.order fn id)) _ w).symm.trans h;have h3:=λ(f:Nat->dA (Fm×List Fm))=>vD p (choose (.order fn id)) f w
     cases hc:(choose (.order fn id)).run p w with
     |ok t w2=>
      rw[hc] at h2 h3;simp only[vW] at h2 h3;simp only[mF,bN,vO,sV] at h2;obtain⟨⟨rfl,rfl⟩,rfl⟩:=h2;exact .inl ⟨rfl,rfl,λa b=>Ld (b.symm.trans a),λS hn=>⟨by simp only[mB,forall_eq_or_imp,Ca,y3,jB] at hn⊢;grind,λ_ _=>rfl⟩,h3 _⟩
     |halt y w2=>rw[hc] at h2;cases h2
    |false=>
     simp only[iA,if_false,mF,bN,vO,sV] at h;obtain⟨⟨rfl,rfl⟩,rfl⟩:=h;exact .inl ⟨rfl,rfl,by first|exact λa b=>Ld (b.symm.trans a)|exact λ_ _=>zhV _ _,λS hn=>⟨by simp only[mB,forall_eq_or_imp,Ca,y3,jB] at hn⊢;grind,λ_ _=>rfl⟩,rfl⟩
   |_=>
    first
     |(simp[stuck,bN] at h;done)
     |(
      simp only[mF,bN,vO,sV] at h;obtain⟨⟨rfl,rfl⟩,rfl⟩:=h;exact .inl ⟨rfl,rfl,by first|exact λa b=>Ld (b.symm.trans a)|exact λ_ _=>zhV _ _,λS hn=>⟨by simp only[mB,forall_eq_or_imp,Ca,y3,jB] at hn⊢;grind,λ_ _=>rfl⟩,rfl⟩)
  |inRegion ops l=>
   cases l with
   |nil=>
    simp only[mF,bN,vO,sV] at h;obtain⟨⟨rfl,rfl⟩,rfl⟩:=h;exact .inl ⟨rfl,rfl,by first|exact λa b=>Ld (b.symm.trans a)|exact λ_ _=>zhV _ _,λS hn=>⟨by simp only[mB,forall_eq_or_imp,Ca,y3,jB] at hn⊢;grind,λ_ _=>rfl⟩,rfl⟩
   |cons i rest=>
    simp only at h⊢;have By:∀v,Fm.fin {fn:=fn,tmps:=tmps,todo:=sJ ops (i::rest)::(k0++k),ret:=ret} ops i rest (k0++k) v=(Fm.fin {fn:=fn,tmps:=tmps,todo:=sJ ops (i::rest)::k0,ret:=ret} ops i rest k0 v).app k:=λv=>Fm.fin_app {fn:=fn,tmps:=tmps,todo:=sJ ops (i::rest)::k0,ret:=ret} ops i rest k0 k v;by_cases hw:((ops[i]?).map (dI · (dL ops tmps))).getD false=true
    .rw[if_pos hw] at h
     simp only[hw,if_true]
     cases ho:ops[i]? with
     |none=>rw[ho] at h;simp[stuck,bN] at h
     |some o=>
      rw[ho] at h;simp only at h⊢;have nH:Fm.eval {fn:=fn,tmps:=tmps,todo:=sJ ops (i::rest)::(k0++k),ret:=ret}=Fm.eval {fn:=fn,tmps:=tmps,todo:=sJ ops (i::rest)::k0,ret:=ret}:=by funext y;cases y<;>rfl
      rw[nH];have h2:=(vD p _ _ w).symm.trans h;have h3:=λ(f:Next->dA (Fm×List Fm))=>vD p (aO (Fm.eval {fn:=fn,tmps:=tmps,todo:=sJ ops (i::rest)::k0,ret:=ret}) o) f w
      cases hc:(aO (Fm.eval {fn:=fn,tmps:=tmps,todo:=sJ ops (i::rest)::k0,ret:=ret}) o).run p w with
      |halt y w2=>rw[hc] at h2;cases h2
      |ok n w2=>
       rw[hc] at h2 h3;simp only[vW] at h2 h3
       cases n with
       |value v=>
        simp only[rP,mF,bN,vO,sV] at h2;obtain⟨⟨rfl,rfl⟩,rfl⟩:=h2;refine .inl ⟨rfl,rfl,λa b=>Ld (b.symm.trans a),λS hn=>zf5 rfl hn _,(h3 _).trans ?_⟩;simp only[rP,mF,bN,By];rfl
       |skip=>
        simp only[rP,mF,bN,vO,sV] at h2;obtain⟨⟨rfl,rfl⟩,rfl⟩:=h2;refine .inl ⟨rfl,rfl,λa b=>Ld (b.symm.trans a),λS hn=>zf5 rfl hn _,(h3 _).trans ?_⟩;simp only[rP,mF,bN,By];rfl
       |enter f args=>
        simp only[rP] at h2
        cases hf:p.funcs[f]? with
        |none=>rw[hf] at h2;simp[stuck,bN] at h2
        |some fn2=>
         cases hb:fn2.body with
         |none=>rw[hf] at h2;simp only[hb] at h2;simp[stuck,bN] at h2
         |some c=>
          rw[hf] at h2;simp only[hb,mF,bN,vO,sV] at h2;obtain⟨⟨rfl,rfl⟩,rfl⟩:=h2;refine .inr ⟨rfl,(h3 _).trans ?_⟩;simp only[rP,hf,hb,mF,bN]
       |_=>simp[rP,stuck,bN] at h2
    .rw[if_neg hw] at h
     have sE:((ops[i]?).map (dI · (dL ops tmps))).getD false=false:=by simpa using hw
     simp only[sE,iA,if_false];simp only[mF,bN,vO,sV] at h;obtain⟨⟨rfl,rfl⟩,rfl⟩:=h;refine .inl ⟨rfl,rfl,λa b=>Ld (b.symm.trans a),λS hn=>zf5 rfl hn _,?_⟩;simp only[mF,bN,By];rfl
  |_=>
   first
    |(simp[stuck,bN] at h;done)
    |(
     simp only[mF,bN,vO,sV] at h;obtain⟨⟨rfl,rfl⟩,rfl⟩:=h;exact .inl ⟨rfl,rfl,by first|exact λa b=>Ld (b.symm.trans a)|exact λ_ _=>zhV _ _,λS hn=>⟨by simp only[mB,forall_eq_or_imp,Ca,y3,jB] at hn⊢;grind,λ_ _=>rfl⟩,rfl⟩)
theorem zoZ (h:(tL p m ms).run p w=.ok (x,ys) w1)(hx:x.ret=true)(hr:m.ret=false)(aS:m.todo≠[])(hy:ys=ms):x.todo≠[]:=by
 rcases zaP (ms':=[]) [] aS h with e|e
 .exact e.2.2.1 hx hr
 simp_all
theorem zyp (h:(tL p m ms).run p w=.ok (x,ys) w1)(hm:m.todo=[]):x={m with ret:=true}/\ys=ms:=by
 unfold tL at h;simp_all
theorem zgF (h:(tL p m ms).run p w=.ok (x,ys) w1):(ys=ms/\x.fn=m.fn)\/ys=m::ms:=by
 by_cases hm:m.todo=[]
 .obtain⟨rfl,rfl⟩:=zyp h hm
  simp_all
 .exact(zaP (ms':=[]) [] hm h).imp (λe=>⟨e.1,e.2.1⟩) And.left
theorem zEI {S:List Nat}{m':Fm}{w':aE}(hn:∀i∈m.todo,Ca S i=true)(h:(tL p m ms).run p w=.ok (m',ms') w'):(ms'=ms/\K3 S m m')\/ms'=m::ms:=by
 by_cases hm:m.todo=[]
 .obtain⟨rfl,rfl⟩:=zyp h hm
  exact .inl ⟨rfl,hn,λ_ _=>rfl⟩
 .exact(zaP (ms':=[]) [] hm h).imp (λe=>⟨e.1,e.2.2.2.1 S hn⟩) And.left
def C1 (k:List dZ)(b:List Fm):Fm->List Fm->Fm×List Fm
 |m,[]=>(m.app k,b)
 |m,c::cs=>(m,(C1 k b c cs).1::(C1 k b c cs).2)
variable {m1:Fm}{ms1:List Fm}
theorem zFu {k:List dZ}{b:List Fm}(h:(fJ p m ms).run p w=.ok (m1,ms1) w1)(aS:ms=[]->m.ret=false->m.todo≠[]):
 (fJ p (C1 k b m ms).1 (C1 k b m ms).2).run p w=.ok (C1 k b m1 ms1) w1:=by
 cases ms with
 |nil=>
  simp only[C1]
  cases hr:m.ret with
  |true=>simp[fJ,hr,Ap,stuck,bN] at h
  |false=>
   have zL:(m.app k).ret=false:=hr;simp only[fJ,hr,iA,if_false] at h;simp only[fJ,zL,iA,if_false];rcases zaP (ms':=b) k (aS rfl hr) h with⟨rfl,_,_,_,e⟩|⟨rfl,e⟩
   .exact e
   .exact e
 |cons c cs=>
  simp only[C1]
  cases hr:m.ret with
  |true=>
   simp only[fJ,hr,if_true] at h⊢;obtain⟨ops,i,r,k0,v,fn,hc,hf,hv,rfl,rfl⟩:=Uv h
   cases ms1 with
   |nil=>
    simp only[C1];have lN:(c.app k).todo=.inRegion ops (i::r)::(k0++k):=by simp[Fm.app,hc]
    have:=(Mc (rest:=b) lN hf hv).1;rw[Fm.fin_app] at this;exact this
   |cons d ds=>exact(Mc hc hf hv).1
  |false=>
   simp only[fJ,hr,iA,if_false] at h⊢;by_cases pZ:m.todo=[]
   .simp only[tL,pZ,mF,bN,vO,sV] at h⊢
    obtain⟨⟨rfl,rfl⟩,rfl⟩:=h;exact⟨rfl,rfl⟩
   .rcases zaP (ms':=(C1 k b c cs).1::(C1 k b c cs).2) [] pZ h with⟨rfl,_,_,_,e⟩|⟨rfl,e⟩
    .simp only[Fm.app_nil] at e
     exact e
    .simp only[Fm.app_nil] at e
     exact e
def Rx:Fm->List Fm->aP
 |m,[]=>m.fn
 |_,c::cs=>Rx c cs
theorem ztx (h:(fJ p m ms).run p w=.ok (m1,ms1) w1):Rx m1 ms1=Rx m ms:=by
 cases hr:m.ret with
 |true=>
  simp only[fJ,hr,if_true] at h
  cases ms with
  |nil=>simp[Ap,stuck,bN] at h
  |cons c cs=>
   obtain⟨ops,i,r,k0,v,fn,hc,hf,hv,rfl,rfl⟩:=Uv h;cases ms1<;>rfl
 |false=>
  simp only[fJ,hr,iA,if_false] at h;rcases zgF h with⟨rfl,e⟩|rfl
  .cases ms1 with
   |nil=>exact e
   |cons c cs=>rfl
  .rfl
variable {Q:Fm->aE->Prop}
theorem LT.ret_inv (hr:m.ret=true)(h:LT p Q m [] w):Q m w:=by
 generalize kJ:([]:List Fm)=ms at h
 cases h with
 |stop _ hq=>exact hq
 |step nx hs cO _=>simp_all
variable {Stop:Fm->List Fm->aE->Prop}
theorem LT.app {Ai:dQ}{Sg:aP->Bool}{K₁:Pr}{Zr:Gp}{zfP:Nat->Prop}(zep:wK Ai Sg)(zf8:Zr=Ai.gp){N:Fm->Prop}(k:List dZ)(b:List Fm){fn0:aP}
 (hN:∀m R y,qE Ai Sg K₁ R m y->N m) (zIN:∀m:Fm,m.fn=fn0->N m)
 (hn:∀(x:Fm) (w:aE),x.fn=fn0->x.ret=false->x.todo=[]->(∀T,Q {x with ret:=true} (tp w T 0))->Stop (x.app k) b w)
 (hr:∀(x:Fm) (w:aE),x.fn=fn0->x.ret=true->x.todo≠[]->Q x w->Stop (x.app k) b w)    (h:LT Ai.g Q m ms w):
 Rx m ms=fn0->yH Ai Sg K₁ Zr zfP m ms w->(ms=[]->m.ret=true->m.todo≠[])->LTs Ai.g N Stop (C1 k b m ms).1 (C1 k b m ms).2 w:=by
 induction h with
 |stop h1 h2=>intro hl _ hz;exact .stop (hr _ _ hl h1 (hz rfl h1) h2)
 |step nx hs cO aT ih=>
  rename_i m ms w;intro hl hrel hz;by_cases L8:ms=[]/\m.ret=false/\m.todo=[]
  .obtain⟨rfl,h1,h2⟩:=L8
   refine .stop (hn m w hl h1 h2 λT=>?_);have hT:=cO T;have e:(fJ Ai.g m []).run Ai.g (tp w T 0)=.ok ({m with ret:=true},[]) (tp w T 0):=by simp[fJ,h1,tL,h2,mF,bN]
   rw[e] at hT;injection hT with e1 e2;have hl:=aT T;rw[<-e1,<-e2] at hl;exact hl.ret_inv rfl
  .have aS:ms=[]->m.ret=false->m.todo≠[]:=λa b c=>L8 ⟨a,b,c⟩
   have Sz:∀T,Rx (nx T).1.1 (nx T).1.2=fn0:=λT=>(ztx (m1:=(nx T).1.1) (ms1:=(nx T).1.2) (cO T)).trans hl;have uC:∀T,yH Ai Sg K₁ Zr zfP (nx T).1.1 (nx T).1.2 (nx T).2:=λT=>yH.next (T:=T) (e:=0) zep zf8 hrel hs (cO T);refine .step (λT=>(C1 k b (nx T).1.1 (nx T).1.2,(nx T).2)) (λe=>?_) (λT=>zFu (cO T) aS) (λT=>?_) (λT=>ih T (Sz T) (uC T) λe1 e2 e3=>?_)
   .cases ms with
    |nil=>exact absurd rfl (hs e)
    |cons c cs=>simp[C1]
   .
    show N (C1 k b (nx T).1.1 (nx T).1.2).1
    cases kJ:(nx T).1.2 with
    |nil=>exact zIN _ (by have:=Sz T;rw[kJ] at this;exact this)
    |cons c cs=>
     obtain⟨R,W,m',ms',_,hm,_⟩:=uC T;exact hN _ R m' hm
   have hT:=cO T
   cases ms with
   |nil=>
    cases j9:m.ret with
    |true=>exact hs j9 rfl
    |false=>
     simp only[fJ,j9,iA,if_false] at hT;exact zoZ hT e2 j9 (aS rfl j9) e1 e3
   |cons c cs=>
    cases j9:m.ret with
    |true=>
     simp only[fJ,j9,if_true] at hT;obtain⟨ops,i,r,k0,v,fn,hc,hf,hv,h1,h2⟩:=Uv (m1:=(nx T).1.1) (ms1:=(nx T).1.2) hT;rw[h1] at e3;simp[Fm.fin] at e3
    |false=>
     simp only[fJ,j9,iA,if_false] at hT;rcases zgF hT with⟨e,_⟩|e
     .rw[e1] at e;cases e
     .rw[e1] at e;cases e
end
end Go.Tt
namespace Go.Mt
open Go.Conc
open Go.ConcR (KK wgBlock WgAt stA smA rd wr)
section
variable {L:Type}{P:cD}{ty:aM}{Wg:Nat}{A:jV L}{Fin:bE->aE->Prop}
variable {K K':Bool->Ph L->Nat->cI->bE->aE->Prop}
theorem Nr.mono (hK:∀m ph d τ g w,K m ph d τ g w->K' m ph d τ g w){main:Bool}{ph:Ph L}{d:Nat}{τ:cI}{g:bE}{w:aE}(h:Nr P ty Wg K main ph d τ g w):Nr P ty Wg K' main ph d τ g w:=by
 have own:∀{ph:Ph L},OwnG P ty Wg K main ph d τ g w->OwnG P ty Wg K' main ph d τ g w:=λh aJ s=>by
  obtain⟨g',w',es,h1,h2,h3,h4,h5⟩:=h aJ s;exact⟨g',w',es,h1,h2,h3,h4,hK _ _ _ _ _ _ h5⟩
 have idle:∀{ph:Ph L},zc8 P ty Wg K main ph d τ g w->zc8 P ty Wg K' main ph d τ g w:=λh aJ s=>by
  obtain⟨g',es,h1,h2,h3,h4⟩:=h aJ s
  grind
 cases ph<;>first|exact h|exact own h|exact idle h
theorem nG.mono (hK:∀m ph d τ g w,K m ph d τ g w->K' m ph d τ g w){main:Bool}{l:L}{d:Nat}{τ:cI}{g:bE}{w:aE}(h:nG P ty Wg A K main l d τ g w):nG P ty Wg A K' main l d τ g w:=by
 unfold nG at*;split
 all_goals(rename_i e;simp only[e] at h)
 .obtain⟨ho,v,z,τ',h1,h2,h3,h4,Hz,h5,h6⟩:=h
  exact⟨ho,v,z,τ',h1,h2,h3,h4,Hz,h5,hK _ _ _ _ _ _ h6⟩
 .grind
 .grind
 .intro aJ lT v hv hw
  obtain⟨g',h1,h2,h3⟩:=h aJ lT v hv hw;exact⟨g',h1,h2,hK _ _ _ _ _ _ h3⟩
 .grind
 .grind
 .grind
 grind
theorem Ao.mono (hK:∀m ph d τ g w,K m ph d τ g w->K' m ph d τ g w){main:Bool}{ph:Ph L}{d:Nat}{τ:cI}{g:bE}{w:aE}(h:Ao P ty Wg A Fin K main ph d τ g w):Ao P ty Wg A Fin K' main ph d τ g w:=by
 cases ph with
 |gone=>exact h
 |quit l=>exact h
 |usr l=>exact nG.mono hK h
 |rel l=>
  intro aJ lT v wt a b c;obtain⟨g',h1,h2,h3,h4,h5⟩:=h aJ lT v wt a b c
  grind
 |l1 l=>
  intro aJ lT a;obtain⟨g',h1,h2,h3,h4⟩:=h aJ lT a
  grind
 |l2 l=>
  intro aJ lT a;obtain⟨g',h1,h2,h3,h4⟩:=h aJ lT a
  grind
 |l3 l=>exact h
 |w1 b=>
  intro aJ lT v zBQ hv hw;obtain⟨g',h1,h2,h3,h4⟩:=h aJ lT v zBQ hv hw
  grind
 |w2 vs=>
  intro aJ lT v hv hw;obtain⟨h1,h2⟩:=h aJ lT v hv hw
  grind
 |w3=>
  refine⟨h.1,λaJ lT=>⟨(h.2 aJ lT).1,λe=>?_⟩⟩;obtain⟨g',a,b,c⟩:=(h.2 aJ lT).2 e
  grind
 |w4=>
  intro aJ lT a;obtain⟨g',h1,h2,h3⟩:=h aJ lT a
  grind
 |w5=>exact h
def cF (P:cD)(ty:aM)(Wg:Nat)(A:jV L)(Fin:bE->aE->Prop)(main:Bool)(ph:Ph L)(d:Nat)(τ:cI)(g:bE)(w:aE):Prop:=∃r,pJ P ty Wg A Fin r main ph d τ g w
variable {main:Bool}{ph:Ph L}{d:Nat}{τ:cI}{g:bE}{w aJ:aE}
theorem cF.mk (cO:g.status=.running)(h:Nr P ty Wg (cF P ty Wg A Fin) main ph d τ g w\/Ao P ty Wg A Fin (cF P ty Wg A Fin) main ph d τ g w):cF P ty Wg A Fin main ph d τ g w:=by
 let ι:={x:Bool×Ph L×Nat×cI×bE×aE//cF P ty Wg A Fin x.1 x.2.1 x.2.2.1 x.2.2.2.1 x.2.2.2.2.1 x.2.2.2.2.2}
 let f:ι->Rk:=λx=>x.2.choose
 have hK:∀m ph d τ g w,cF P ty Wg A Fin m ph d τ g w->∃i,pJ P ty Wg A Fin (f i) m ph d τ g w:=λm ph d τ g w hb=>⟨⟨(m,ph,d,τ,g,w),hb⟩,hb.choose_spec⟩;exact⟨.mk ι f,cO,h.imp (λx=>x.mono hK) λx=>x.mono hK⟩
theorem cF.own (cO:g.status=.running)(hl:ph.live)(h:OwnG P ty Wg (cF P ty Wg A Fin) main ph d τ g w):cF P ty Wg A Fin main ph d τ g w:=
 .mk cO (.inl (by cases ph<;>first|exact h|exact hl.elim))
def cF.usr {l:L}(cO:g.status=.running)(h:nG P ty Wg A (cF P ty Wg A Fin) main l d τ g w):cF P ty Wg A Fin main (.usr l) d τ g w:=.mk cO (.inr h)
structure Start (P:cD)(ty:aM)(Wg:Nat)(A:jV L)(Fin:bE->aE->Prop)(Shun:rD->Prop)(gs:Array bE)(w:aE)(t:mR)(q:Nat->Nat)(l:L)(τ:cI)(a:bE)(B:Nat):Prop where
 main:gs[0]? =some a
 leave:zfO P t gs q
 past:Past Shun B t
 beh:cF P ty Wg A Fin true (.usr l) 0 τ a w
 grp:jL ty Wg w 0 0
 low:B<=Wg/\B<=w.heap.size
 bnd:∀b,τ.own b\/τ.still b\/τ.pass b->b<w.heap.size/\b≠Wg/\∀l,nO l b->¬Shun l
 pend:A.pend l=false
 inv:A.Inv (λi=>if i=0 then .run l else .gone) (λ_=>none)
theorem phase (hA:A.Ok){Shun:rD->Prop}{gs:Array bE}{t:mR}{q:Nat->Nat}{l:L}{a:bE}{B:Nat}(S:Start P ty Wg A Fin Shun gs w t q l τ a B)(sl:Option (Nat×Nat)):
 ∃N m' t',runNT P N (crowd gs w sl) t=(.next m',t')/\Q1 P Wg Fin Shun m' t':=by
 obtain⟨r,hr⟩:=S.beh;have h0:0<gs.size:=(eM.1 S.main).1
 let none':cI:=⟨λ_=>False,λ_=>False,λ_=>False⟩
 let T:Nat->Td L:=λi=>if i=0 then⟨.usr l,.inr r,τ,a⟩ else⟨.gone,.inl (q i),none',default⟩
 have t0:T 0=⟨.usr l,.inr r,τ,a⟩:=by simp[T]
 have tn:∀i,i≠0->T i=⟨.gone,.inl (q i),none',default⟩:=λi hi=>by simp[T,hi]
 have cO:a.status=.running:=by cases r with|mk ι f=>exact hr.1
 have Y6:pL (λi=>(T i).ph) gs.size=0:=ziV (λj hj=>by simp only[tn j hj,Ph.pre]) _;have rI:vv A (λi=>(T i).ph) gs.size=0:=by
  unfold vv Ay;rw[Y6];simp only[t0,S.pend];rfl
 have za0:(λi=>(T i).ph.proj)=λi=>if i=0 then .run l else .gone:=by
  funext i;by_cases hi:i=0
  .subst hi;rw[t0];rfl
  .rw[tn i hi,if_neg hi];rfl
 refine zHT (ty:=ty) hA (T:=T) (ch:=λ_=>none) (Shun:=Shun) ⟨⟨h0,λi hi=>(by rw[tn i aC]),(by rw[t0];trivial),λi hi=>(by rw[tn i hi];exact id),λi hi b=>?_,λi j b rC hb=>?_,λi b hb=>?_,λi b hb=>?_,λi l' hi=>?_,λc b hc=>(by cases hc),?_,(by rw[za0];exact S.inv)⟩,
  ⟨λi x hi=>?_,λi j gi gj c v z z' sh x6 hi hj=>?_,λi gi c z sh hi e=>(by cases e),λx hx hp=>(by rw[t0] at hp;cases hp),?_⟩⟩ sl
 .grind
 .grind
 .by_cases h:i=0
  .subst h
   rw[t0] at hb;have:=S.bnd b (hb.imp id .inl);simp_all
  .grind
 .by_cases h:i=0
  .subst h
   rw[t0] at hb;have:=S.bnd b (.inr (.inr hb));omega
  grind
 .by_cases h:i=0
  .subst h;rw[t0] at hi;cases hi
  .rw[tn i h] at hi;cases hi
 .unfold gP
  simp only[t0];refine⟨by rw[rI];simpa using S.grp,λi e=>?_⟩;by_cases h:i=0
  .subst h;rw[t0] at e;exact e
  .rw[tn i h] at e;exact e
 .by_cases h:i=0
  .subst h
   rw[S.main] at hi;cases hi;refine(qG (by rw[t0];exact id)).2 ⟨r,by rw[t0],?_,.inl (by rw[t0];exact mE.self cO)⟩;have hd:gY t 0=0:=S.past.hears;rw[t0,hd];exact hr
  .refine(Il (by rw[tn i h];trivial)).2 ⟨q i,by rw[tn i h],S.leave.old i x aC hi⟩
 .exfalso
  by_cases h:i=0
  .subst h
   rw[S.main] at hi;cases hi;simp[parked] at cO
  .have:=(S.leave.old i _ aC hi).status
   simp[parked] at this
 .refine TI.begin S.past S.low.2 S.leave.above (λj=>?_) (λb hb=>?_) S.low.1
  .by_cases h:j=0
   .subst h;rw[t0];exact⟨λ_=>rfl,λ_=>trivial⟩
   .rw[tn j h];exact⟨λe=>e.elim,λe=>absurd e h⟩
  .rw[t0] at hb
   exact(S.bnd b hb).2.2
end
end Go.Mt
namespace Go.Mt
open Go.Conc Go.Tt
open Go.ConcR (KK wgBlock WgAt stA smA rd wr)
def wL (τ:cI)(R:Pr)(St:Nat->Prop):Prop:=∀a b,R a b->(St a->τ.still b)/\(¬St a->τ.own b)
section
variable {L:Type}{P:dQ}{fs:aP->Bool}{K:Pr}{G':Gp}{St:Nat->Prop}{ty:aM}{Wg:Nat}{A:jV L}{Fin:bE->aE->Prop}
theorem zj9 {S:aP->Prop}{R:Pr}{w W aY:aE}{τ:cI}(h:dB S K R G' St w W)(ht:wL τ R St)(hK:∀a b,K a b->b<W.heap.size)(s:b8 ty Wg τ W aY):dB S K R G' St w aY:=by
 refine⟨h.inj,h.inj',λa b x=>⟨(h.lt a b x).1,jP (h.lt a b x).2 s.size⟩,h.low,⟨h.gle.1,eE h.gle.2 s.size⟩,λa b x=>?_,h.rest,h.st,h.np,h.tb⟩;obtain⟨o,o',h1,h2,h3⟩:=h.cont a b x;refine⟨o,o',h1,?_,h3⟩;rw[s.keep b ?_];exact h2;by_cases hs:St a
 .exact .inr ((ht a b x).1 hs)
 .exact .inl ((ht a b x).2 hs)
end
end Go.Mt
namespace Go.Mt
open Go.Conc Go.Tt
open Go.ConcN (sumTo sumTo_upd upd_ne upd_same)
open Go.ConcR (KK wgBlock WgAt stA smA rd wr)
def Ends (P:cD)(Post:aF->aE->Prop)(m:Q0)(t:mR):Prop:=
 ∃M last o w' t',runNT P (M+1) m t=(.ended o w',t')/\runN P M m=.next last/\step P last=.ended o w'/\Conc.Good P Post last o w' t'
section
variable {P:cD}{Post:aF->aE->Prop}
theorem Ends.step {m m':Q0}{t:mR}{ops:Array Rg}(h:stepT P m=(.next m',ops))(he:Ends P Post m' (t++ops)):Ends P Post m t:=by
 obtain⟨M,last,o,w',t',h1,h2,h3,h4⟩:=he;refine⟨M+1,last,o,w',t',?_,?_,h3,h4⟩
 .rw[runNT,h];exact h1
 .have:Go.step P m=.next m':=by rw[Go.step,h]
  rw[zaC this];exact h2
theorem Ends.run:∀(N:Nat) {m m':Q0} {t t':mR},runNT P N m t=(.next m',t')->Ends P Post m' t'->Ends P Post m t:=by
 intro N
 induction N with
 |zero=>
  intro m m' t t' h he;simp only[runNT,sV,zd0] at h;simp_all
 |succ N ih=>
  intro m m' t t' h he;rw[runNT] at h;generalize hs:stepT P m=s at h;obtain⟨s,ops⟩:=s
  cases s with
  |next m1=>exact Ends.step hs (ih h he)
  |ended o w=>simp at h
variable (P Post)
def J (Shun:rD->Prop)(B:Nat)(g:bE)(w:aE):Prop:=
 ∀(gs:Array bE) (t:mR) (sl:Option (Nat×Nat)) (q:Nat->Nat),gs[0]? =some g->zfO P t gs q->Past Shun B t->Ends P Post (crowd gs w sl) t
variable {P Post}
variable {B:Nat}{g:bE}
theorem J.own {Shun:rD->Prop}{w:aE}(cO:g.status=.running)
 (h:∀d,∃g' w' es B',stepG P true g (w.at d)=.go g' w' es/\(∀e∈es,EvL Shun B' e)/\B<=B'/\J P Post Shun B' g' w'):J P Post Shun B g w:=by
 have key:∀(M:Nat) (d:Nat) (gs:Array bE) (t:mR) (sl:Option (Nat×Nat)) (q:Nat->Nat),sumTo gs.size q=M->gs[0]? =some g->zfO P t gs q->Past Shun B t->Ends P Post (crowd gs (w.at d) sl) t:=by
  intro M
  induction M using zbl with
  |ind M ih=>
  intro d gs t sl q hM h0 hL hP;have dP:∀x∈gs,awake x:=by
   intro x hx;obtain⟨i,hi,rfl⟩:=zu1.1 hx;rcases Vt i with rfl|Dt
   .have:gs[0]=g:=by simpa[qI hi] using h0
    rw[this];exact awake_of (.inl cO)
   .exact awake_of ((hL.old i _ Dt (qI hi)).status.elim .inl λx=>.inr (.inr x))
  obtain⟨i,x,d',Mf,hi,hx,aX⟩:=crowd_pick (P:=P) (w:=w.at d) (sl:=sl) dP ⟨0,g,h0,cO⟩;rw[show(w.at d).at d'=w.at d' from rfl] at aX;rcases Vt i with rfl|Dt
  .obtain rfl:x=g:=by simp_all
   obtain⟨g',w',es,B',hgo,yS,cP,hJ⟩:=h d';have zmD:=zdU (P:=P) (sl:=Mf) (i:=0) hi (show stepG P (0==0) x (w.at d')=_ from hgo);have aT:0<gs.size:=(eM.1 h0).1;refine Ends.step (aX.trans zmD) (hJ _ _ _ q (by simp[aT]) ⟨λj y hj hy=>?_,λj hj=>?_⟩ ((hP.mono cP).own yS))
   .have aS:0≠j:=aC
    rw[tY aS,Dw] at hy;obtain⟨z,hz,rfl⟩:=At.1 hy;have hq:=hL.old j z hj hz;rw[zbf hq,Q3 t aC _ (λop hop=>by obtain⟨e,_,rfl⟩:=zhE hop;rfl)];exact hq
   .rw[Q3 t (g':=0) (by simp at hj;omega) _ (λop hop=>by obtain⟨e,_,rfl⟩:=zhE hop;rfl)]
    exact hL.above j Zh
  .have hq:=hL.old i x Dt hi
   have eY:(i==0)=false:=pD;have aT:i<gs.size:=(eM.1 hi).1
   cases znz:q i with
   |zero=>rw[znz] at hq;rw[hq.1] at hx;cases hx
   |succ k=>
    rw[znz] at hq;rcases hq with⟨hf,_⟩|⟨_,g',es,hm,zc4,Kr⟩
    .rw[hf] at hx;cases hx
    have zmD:=zdU (P:=P) (sl:=Mf) (i:=i) hi (by rw[eY];exact zc4 (w.at d'));have cP:((gs.map (woken P x g' (w.at d'))).setIfInBounds i g').size=gs.size:=aQ;have zLE:sumTo gs.size (zlB q i k)+(k+1)=sumTo gs.size q+k:=by
     have:=sumTo_upd q k id aT;simp only[znz,id] at this;exact this
    refine Ends.step (aX.trans zmD) (ih (sumTo gs.size (zlB q i k)) aC d' _ _ _ (zlB q i k) (by rw[cP]) ?_ ⟨λj y hj hy=>?_,λj hj=>?_⟩ (hP.mute aC hm))
    .have aS:i≠0:=aC
     rw[tY aS,Dw,h0];simp[woken_run cO]
    .by_cases fO:i=j
     .subst fO
      rw[zlt (by simpa using aT)] at hy;obtain rfl:=cS hy;rw[ConcN.upd_same,zny];exact Kr
     .rw[tY fO,Dw] at hy
      obtain⟨z,hz,rfl⟩:=At.1 hy;have ztA:=hL.old j z hj hz;rw[zbf ztA,ConcN.upd_ne q k (Ne.symm fO),Q3 t fO _ (λop hop=>by obtain⟨e,_,rfl⟩:=zhE hop;rfl)];exact ztA
    .rw[Q3 t (g':=i) (by simp at hj;omega) _ (λop hop=>by obtain⟨e,_,rfl⟩:=zhE hop;rfl)]
     exact hL.above j Zh
 intro gs t sl q h0 hL hP;have:=key _ w.drawn gs t sl q rfl h0 hL hP;exact this
theorem J.done {Shun:rD->Prop}{w:aE}(cO:g.status=.running)
 (h:∀d,∃v es,stepG P true g (w.at d)=.ended (.done v) (w.at d) es/\(∀e∈es,EvL Shun B e)/\Post v (w.at d)):J P Post Shun B g w:=by
 intro gs t sl q h0 hL hP;exact beside_ends (B:=B) (D:=λ_ _ es=>∀e∈es,EvL Shun B e) (n:=0) (λ_ _ _ hd=>hd) h0 hL hP (λaJ ⟨d,hd⟩=>by subst hd;exact⟨cO,h d⟩)
theorem J.phase {L:Type}{ty:aM}{Wg:Nat}{A:jV L}(hA:A.Ok){Shun:rD->Prop}{a:bE}{w:aE}{l:L}{τ:cI}
 (hb:cF P ty Wg A (λg w'=>J P Post (λl=>Shun l\/nO l Wg) w'.heap.size g w') true (.usr l) 0 τ a w) (hg:jL ty Wg w 0 0) (hB:B<=Wg/\B<=w.heap.size)
 (bnd:∀b,τ.own b\/τ.still b\/τ.pass b->b<w.heap.size/\b≠Wg/\∀l,nO l b->¬Shun l) (pend:A.pend l=false)
 (inv:A.Inv (λi=>if i=0 then .run l else .gone) (λ_=>none)):J P Post Shun B a w:=by
 intro gs t sl q h0 hL hP;obtain⟨N,m',t',h1,gs',a',w',Mf,q',rfl,h2,h3,h4,h5,h6⟩:=Mt.phase hA (S:=⟨h0,hL,hP,hb,hg,hB,bnd,pend,inv⟩) sl;exact Ends.run N h1 (h4 gs' t' Mf q' h2 h5 h6)
end
end Go.Mt
namespace Go.Mt
open Go.Conc Go.Tt
open Go.ConcR (KK wgBlock WgAt stA smA rd wr)
abbrev K0:Pr:=λ_ _=>False
structure Sh (n:Nat)(Shun:rD->Prop)(R:Pr)(W:aE):Prop where
 old:∀l b,nO l b->b<n->¬Shun l
 rel:∀a b,R a b->∀l,nO l b->¬Shun l
 new:∀l b,nO l b->W.heap.size<=b->¬Shun l
structure Kp (W0:aE)(R:Pr)(St:Nat->Prop)(W:aE):Prop where
 os:W.os=W0.os
 tape:W.tape=W0.tape
 output:W.output=W0.output
 size:W0.heap.size<=W.heap.size
 block:∀b,b<W0.heap.size->W.heap[b]? =W0.heap[b]?
 old:∀a b,R a b->b<W0.heap.size->St a
def Kp.below {W0 W:aE}{R:Pr}{St:Nat->Prop}(h:Kp W0 R St W):RowKit.Below W0.heap.size W0 W:=⟨h.os,h.tape,h.output,h.size,h.block⟩
section
variable (P:dQ)(fs:aP->Bool)(G':Gp)(St:Nat->Prop)(W0:aE)(Post:aF->aE->Prop)
def JO (m:Fm)(ms:List Fm)(w:aE):Prop:=
 ∀(K R:Pr) (W:aE) (m':Fm) (ms':List Fm) (Shun:rD->Prop),dB (SF fs) K R G' St w W->qE P fs K R m m'->uQ P fs K R ms ms'->Sh W0.heap.size Shun R W->Kp W0 R St W->
  J P.c Post Shun W.heap.size (G m'.fr (ms'.map Fm.fr)) W
variable {P fs G' St W0 Post}
variable {m:Fm}{ms:List Fm}
def JO.tape {w:aE}(h:JO P fs G' St W0 Post m ms w)(T:kI)(e:Nat):JO P fs G' St W0 Post m ms (Tt.tp w T e):=
 λK R W m' ms' Shun a b c d k=>h K R W m' ms' Shun a.untp b c d k
variable {R:Pr}
theorem zDz {Shun:rD->Prop}{W:aE}{St:Nat->Prop}{e:rQ}(h:Iq R St e){n:Nat}(hs:Sh n Shun R W)(aT:∀a b,R a b->b<W.heap.size):EvL Shun W.heap.size e:=by
 rcases h with rfl|⟨b,a,h1,h2,h3⟩
 .exact⟨λx hx=>by simp[jU,sY] at hx,aQ,aQ,trivial⟩
 .obtain⟨loc,wr,sy⟩:=e
  cases loc with
  |cell x=>
   simp only[Ik,jQ] at h1;refine⟨λy hy nF=>?_,aQ,aQ,?_⟩
   .simp only[jU,sY,jQ] at hy
    subst hy;exact absurd nF (hs.rel a b h2 _ h1)
   .show x.block<W.heap.size
    grind
  |obj r=>
   simp only[Ik,jQ] at h1;have hr:r<W.heap.size:=by rw[h1];exact aT a b h2
   refine⟨λy hy nF=>?_,aQ,aQ,?_⟩
   .have Xv:y.loc=.obj r:=by
     cases wr<;>cases sy<;>simp only[jU,sY,jQ] at hy<;>first|(subst hy;rfl)|(cases hy;done)
    exact absurd (Xv▸nF) (hs.rel a b h2 (.obj r) h1)
   .cases wr<;>cases sy<;>exact hr
  |_=>simp[Ik] at h1
def dB.at {S:aP->Prop}{K:Pr}{G':Gp}{w W:aE}(h:dB S K R G' St w W)(d:Nat):dB S K R G' St w (W.at d):=
 ⟨h.inj,h.inj',h.lt,h.low,h.gle,h.cont,h.rest,h.st,h.np,h.tb⟩
theorem JO.one (F:Fit2 P fs)(hG:G'=P.gp){w:aE}(hs:m.ret=true->ms≠[])(nx:kI->(Fm×List Fm)×aE)(cO:∀T,(fJ P.g m ms).run P.g (Tt.tp w T 0)=.ok (nx T).1 (nx T).2)
 (fR:∀T K R y,¬OpR P fs K R (nx T).1 y) (hJ:∀T,JO P fs G' St W0 Post (nx T).1.1 (nx T).1.2 (nx T).2):JO P fs G' St W0 Post m ms w:=by
 intro K R W m' ms' Shun hw hm kJ nF hk;refine J.own rfl λd=>?_;have dO:=dB.at hw d
 let aY:=W.at d
 let T:Tape:=λn q=>aY.tape (aY.drawn+n) q
 have Be:dB (SF fs) K R G' St (Tt.tp w T 0) aY:=⟨dO.inj,dO.inj',dO.lt,dO.low,dO.gle,dO.cont,dO.rest,dO.st,dO.np,dO.tb⟩;have Mv:Tp (Tt.tp w T 0) aY:=λn q=>by show aY.tape (aY.drawn+(0+n)) q=_;rw[qV]
 obtain⟨R1,x',W1,ev,e1,e2,e3,e4,e5⟩:=aG.run hG _ (zeM (l:=false) F (Be.relOk hG) hm kJ (λe=>by cases e) hs) Be Mv (cO T);replace e2:=e2.resolve_right λx=>fR T K R1 x' x.2;have nH:(fJ P.c m' ms').events P.c aY #[]=ev:=by rw[e4];simp
 have cP:W.heap.size<=W1.heap.size:=e3.size.2;have zw8:Sh W0.heap.size Shun R1 W1:=⟨nF.old,λa b x l hl=>by
  rcases e3.new a b x with y|⟨_,y⟩
  .exact nF.rel a b y l hl
  .exact nF.new l b hl y,λl b hl hb=>nF.new l b hl (eE cP hb)⟩
 have rF:Kp W0 R1 St W1:=by
  refine⟨e3.os.2.trans hk.os,e3.tape.2.trans hk.tape,e3.ou.2.trans hk.output,eE hk.size cP,λb hb=>?_,λa b x hb=>?_⟩
  .have zmd:b<W.heap.size:=jP hb hk.size
   rw[e3.keep b zmd (λa x=>hk.old a b x hb)];exact hk.block b hb
  .rcases e3.new a b x with y|⟨_,y⟩
   .exact hk.old a b y hb
   .have h9:W.heap.size<=b:=y
    have:=hk.size;omega
 have goal:=hJ T K R1 W1 x'.1 x'.2 Shun e3.rel e2.1 e2.2.1 zw8 rF;have aX:=zjj (main:=true) e1 [];simp only[Og] at aX;rw[nH] at aX;exact⟨_,W1,_,W1.heap.size,aX,λe he=>zDz (e5 e (mem_seen he)) zw8 (λa b x=>(e3.rel.ltR a b x).2),cP,goal⟩
theorem LTs.jo (F:Fit2 P fs)(hG:G'=P.gp){N:Fm->Prop}(hop:∀f xs,P.op f=true->¬N (Fc P.g f xs)){Stop:Fm->List Fm->aE->Prop}(hS:∀m ms w,Stop m ms w->JO P fs G' St W0 Post m ms w){w:aE}(h:LTs P.g N Stop m ms w):
 JO P fs G' St W0 Post m ms w:=by
 induction h with
 |stop hs=>exact hS _ _ _ hs
 |step nx hs cO hN aT ih=>
  rename_i m ms w;refine JO.one F hG hs nx cO (λT K R y ho=>?_) ih;obtain⟨f,xs,cC,c,c',rest,Nc,h1,h2,h3,h4,_⟩:=ho.ex
  grind
end
abbrev PL (p:cD)(op gs:aP->Bool):dQ:=⟨p,p.funcs,op,λ_=>false,gs,true⟩
abbrev PS (p:cD)(gs:aP->Bool):dQ:=⟨p,p.funcs,λ_=>false,λ_=>false,gs,true⟩
structure Lv (p:cD)(op gs gs₁ fs:aP->Bool):Prop where
 fit:Fit2 (PL p op gs) fs
 fit₁:wK (PS p gs₁) fs
 nofit:∀f,op f=true->∃fn c,p.funcs[f]? =some fn/\fn.body=some c/\(fn.name== "runtime.NumGoroutine")=false/\qD p ⟨fs,gs₁,true⟩ c=false
section
variable {p:cD}{op gs gs₁ fs:aP->Bool}{St:Nat->Prop}{W0:aE}{Post:aF->aE->Prop}
abbrev JL (p:cD)(op gs fs:aP->Bool)(St:Nat->Prop)(W0:aE)(Post:aF->aE->Prop)(m:Fm)(ms:List Fm)(w:aE):Prop:=JO (PL p op gs) fs (pU p) St W0 Post m ms w
theorem Zi (p:cD)(f:aP)(xs:Array aF):(Fc p f xs).fn=f:=by
 unfold Fc
 grind
variable {P:dQ}{G':Gp}{m:Fm}{ms:List Fm}
def JO.untape {fs:aP->Bool}{w:aE}{T:kI}{e:Nat}(h:JO P fs G' St W0 Post m ms (Tt.tp w T e)):JO P fs G' St W0 Post m ms w:=
 λK R W m' ms' Shun a b c d k=>h K R W m' ms' Shun ⟨a.inj,a.inj',a.lt,a.low,a.gle,a.cont,a.rest,a.st,a.np,a.tb⟩ b c d k
variable {K:Pr}
theorem yH.tape {fs:aP->Bool}{w:aE}(h:yH P fs K G' St m ms w)(T:kI)(e:Nat):yH P fs K G' St m ms (Tt.tp w T e):=by
 obtain⟨R,W,m',ms',a,b,c⟩:=h;exact⟨R,W,m',ms',⟨a.inj,a.inj',a.lt,a.low,a.gle,a.cont,a.rest,a.st,a.np,a.tb⟩,b,c⟩
variable {K₁:Pr}{c:Code}
theorem zq5 {Ai:dQ}{Sg:aP->Bool}{Zr:Gp}{zfP:Nat->Prop}(zep:wK Ai Sg)(zf8:Zr=Ai.gp){fn:aP}{tmps:Array aF}{w:aE}{Q:Exit->Go.Act->aE->Prop}
 (hrel:yH Ai Sg K₁ Zr zfP ⟨fn,tmps,[.code c],false⟩ [] w) (vA:∀T,Code.wp Ai.g c Q ⟨tmps,[]⟩ (Tt.tp w T 0)) (hx:∀e a w,Q e a w->e=.normal\/e=.ret) (ztt:∀e a w T k,Q e a w->Q e a (Tt.tp w T k)):
 Tt.LT Ai.g (λmT wT=>mT.ret=true/\((mT.todo=[]/\Q .normal ⟨mT.tmps,[]⟩ wT)\/Q .ret ⟨mT.tmps,[]⟩ wT)) ⟨fn,tmps,[.code c],false⟩ [] w:=by
 refine bar zep zf8 (λm w T e h=>⟨h.1,h.2.imp (λx=>⟨x.1,ztt _ _ _ _ _ x.2⟩) (ztt _ _ _ _ _)⟩) ⟨hrel,λT=>?_⟩
 let b:Frame:={(default:dV) with fn:=fn,kind:=.normal}
 obtain⟨e,a',w',hq,zvw⟩:=vA T b [] [pz];have zEc:=yH.tape hrel T 0
 have fin:∀todo,Steps Ai.g (lone (b.at ⟨tmps,[]⟩ [.code c]) [pz] (Tt.tp w T 0)) (lone {b.at a' todo with mode:=.returning} [pz] w')->((todo=[]/\Q .normal a' w')\/Q .ret a' w')->
  ∃n mT wT,Jk Ai.g n ⟨fn,tmps,[.code c],false⟩ [] (Tt.tp w T 0) mT wT/\mT.ret=true/\((mT.todo=[]/\Q .normal ⟨mT.tmps,[]⟩ wT)\/Q .ret ⟨mT.tmps,[]⟩ wT):=by
  intro todo hs znE;obtain⟨n,hn⟩:=hs;obtain⟨k,mT,hi,gE⟩:=Qc zep zf8 (frT:={b.at a' todo with mode:=.returning}) rfl n zEc hn;have h1:mT.tmps=a'.tmps:=congrArg dV.tmps gE;have h2:a'.defers=[]:=(congrArg dV.defers gE).symm;have h3:mT.todo=todo:=congrArg dV.todo gE;have h4:mT.ret=true:=by
   cases hr:mT.ret with
   |true=>rfl
   |false=>have:=congrArg dV.mode gE;rw[Fm.fr_run hr] at this;cases this
  have h5:(⟨mT.tmps,[]⟩:Go.Act)=a':=by rw[h1,<-h2]
  exact⟨k,mT,w',hi,h4,by rw[h5,h3];exact znE⟩
 rcases hx e a' w' hq with rfl|rfl
 .exact fin [] (Steps.trans zvw (Steps.one step_end)) (.inl ⟨rfl,hq⟩)
 .obtain⟨todo,hs⟩:=zvw
  grind
def ziI (p:cD)(op:aP->Bool)(m:Fm):Prop:=∀f xs,op f=true->m≠Fc p f xs
def Lv.hop (L:Lv p op gs gs₁ fs):∀f xs,(PL p op gs).op f=true->¬ziI p op (Fc (PL p op gs).g f xs):=λf xs h hn=>hn f xs h rfl
theorem Lv.hN (L:Lv p op gs gs₁ fs):∀m R y,qE (PS p gs₁) fs K₁ R m y->ziI p op m:=by
 rintro m R y hm f xs ho rfl;obtain⟨fn,c,h1,h2,_,h4⟩:=L.nofit f ho;have h5:Fc p f xs=⟨f,xs++oL (fn.ntmps-xs.size) aA,[.code c],false⟩:=by simp[Fc,h1,h2]
 have hf:=hm.fit;rw[h5] at hf;have:=hf (.code c) aQ;have h6:uY (PS p gs₁) fs f=⟨fs,gs₁,true⟩:=rfl;simp only[Fl,h6,h4] at this;cases this
variable {k:List dZ}
theorem zIP {R:Pr}{fn:aP}{tmps:Array aF}{w W:aE}{m':Fm}(hc:qD p ⟨fs,gs₁,true⟩ c=true)
 (hw:dB (SF fs) K R (pU p) St w W) (hm:qE (PL p op gs) fs K R ⟨fn,tmps,.code c::k,false⟩ m'):yH (PS p gs₁) fs K (pU p) St ⟨fn,tmps,[.code c],false⟩ [] w:=by
 refine⟨R,W,{m' with todo:=[.code c]},[],hw,⟨hm.fn,rfl,hm.ret,hm.tmps,λi hi=>?_,hm.infs⟩,.nil⟩;simp only[mB,nD,or_false] at hi;subst hi;exact hc
theorem JO.piece (L:Lv p op gs gs₁ fs){fn:aP}{tmps:Array aF}{b:List Fm}{w:aE}(hc:qD p ⟨fs,gs₁,true⟩ c=true)(Jd:op fn=false)
 (vA:∀T,Code.wp p c (λe a' w'=>e=.normal/\JL p op gs fs St W0 Post ⟨fn,a'.tmps,k,false⟩ b w') ⟨tmps,[]⟩ (Tt.tp w T 0)):JL p op gs fs St W0 Post ⟨fn,tmps,.code c::k,false⟩ b w:=by
 intro K R W m' ms' Shun hw hm kJ nF hk;have hrel:=zIP (gs₁:=gs₁) hc hw hm;have tree:=zq5 L.fit₁ rfl hrel vA (λe a w h=>.inl h.1) (λe a w T k h=>⟨h.1,h.2.tape T k⟩)
 have zEL:=LT.app L.fit₁ rfl (N:=ziI p op) (Stop:=λm ms w=>JL p op gs fs St W0 Post m ms w) k b (fn0:=fn) (L.hN (K₁:=K)) (λm e f xs ho e2=>by rw[e2,Zi] at e;rw[e,Jd] at ho;cases ho)
  (λx w e1 e2 e3 hq=>by
   have h1:=hq w.tape;rcases h1.2 with h|h
   .have h2:=JO.untape h.2.2
    obtain⟨xf,xt,xd,xr⟩:=x;simp only at e1 e2 e3 h2;subst e1 e2 e3;exact h2
   .cases h.1)
  (λx w e1 e2 e3 hq=>by
   rcases hq.2 with h|h
   .exact absurd h.1 e3
   .cases h.1) tree rfl hrel (λ_ e=>by cases e)
 exact LTs.jo L.fit rfl L.hop (λm ms w h=>h) zEL K R W m' ms' Shun hw hm kJ nF hk
theorem JO.ctl (L:Lv p op gs gs₁ fs){m1:Fm}{w:aE}(hr:m.ret=false)(hf:op m1.fn=false)(cO:∀w,(tL p m ms).run p w=.ok (m1,ms) w)(hJ:JL p op gs fs St W0 Post m1 ms w):JL p op gs fs St W0 Post m ms w:=by
 refine JO.one L.fit rfl (λe=>by rw[hr] at e;cases e) (λT=>((m1,ms),Tt.tp w T 0)) (λT=>?_) (λT K R y ho=>?_) λT=>hJ.tape T 0
 .show(fJ p m ms).run p _=_
  simp only[fJ,hr,iA,if_false];exact cO _
 .obtain⟨f,xs,cC,c,c',rest,Nc,h1,h2,h3,h4,_⟩:=ho.ex
  simp only[sV] at h4;have h5:=h4.1;rw[h5,Zi] at hf;simp_all
variable {b a:Code}
def JO.seq (L:Lv p op gs gs₁ fs){fn:aP}{tmps:Array aF}{w:aE}(hf:op fn=false)(h:JL p op gs fs St W0 Post ⟨fn,tmps,.code a:: .code b::k,false⟩ ms w):JL p op gs fs St W0 Post ⟨fn,tmps,.code (.seq a b)::k,false⟩ ms w:=
 JO.ctl L rfl hf (λw=>rfl) h
theorem JO.cond (L:Lv p op gs gs₁ fs){fn:aP}{tmps:Array aF}{c:cN}{w:aE}{t:Bool}(hf:op fn=false)(hc:(bL tmps []).eval c=.bool t)(h:JL p op gs fs St W0 Post ⟨fn,tmps,.code (if t then a else b)::k,false⟩ ms w):JL p op gs fs St W0 Post ⟨fn,tmps,.code (.cond c a b)::k,false⟩ ms w:=by
 refine JO.ctl L rfl hf (λw=>?_) h;have he:Fm.eval ⟨fn,tmps,.code (.cond c a b)::k,false⟩ c=.bool t:=by rw[<-hc];cases c<;>rfl
 simp only[tL,he,mF,bN]
def JO.skip (L:Lv p op gs gs₁ fs){fn:aP}{tmps:Array aF}{w:aE}(hf:op fn=false)(h:JL p op gs fs St W0 Post ⟨fn,tmps,k,false⟩ ms w):JL p op gs fs St W0 Post ⟨fn,tmps,.code .skip::k,false⟩ ms w:=JO.ctl L rfl hf (λw=>rfl) h
def JO.ret (L:Lv p op gs gs₁ fs){fn:aP}{tmps:Array aF}{w:aE}(hf:op fn=false)(h:JL p op gs fs St W0 Post ⟨fn,tmps,.code .ret::k,true⟩ ms w):JL p op gs fs St W0 Post ⟨fn,tmps,.code .ret::k,false⟩ ms w:=JO.ctl L rfl hf (λw=>rfl) h
variable {ops:Array aZ}
def JO.reg (L:Lv p op gs gs₁ fs){fn:aP}{tmps:Array aF}{id:Nat}{w:aE}(hf:op fn=false)(h:JL p op gs fs St W0 Post ⟨fn,tmps,.inRegion ops (iL ops.size)::k,false⟩ ms w):JL p op gs fs St W0 Post ⟨fn,tmps,.code (.region id ops false)::k,false⟩ ms w:=JO.ctl L rfl hf (λw=>rfl) h
def JO.regEnd (L:Lv p op gs gs₁ fs){fn:aP}{tmps:Array aF}{w:aE}(hf:op fn=false)(h:JL p op gs fs St W0 Post ⟨fn,tmps,k,false⟩ ms w):JL p op gs fs St W0 Post ⟨fn,tmps,.inRegion ops []::k,false⟩ ms w:=JO.ctl L rfl hf (λw=>rfl) h
variable {o:aZ}
theorem JO.opv (L:Lv p op gs gs₁ fs){fn:aP}{tmps:Array aF}{i:Nat}{rest:List Nat}{w:aE}{v:aF}(hf:op fn=false)(ho:ops[i]? =some o)(cG:dI o (dL ops tmps)=true)
 (hx:∀T e,(aO (bL tmps []).eval o).run p (Tt.tp w T e)=.ok (.value v) (Tt.tp w T e)) (h:JL p op gs fs St W0 Post ⟨fn,(cE ⟨tmps,[]⟩ o.dst v).tmps,.inRegion ops rest::k,false⟩ ms w):JL p op gs fs St W0 Post ⟨fn,tmps,.inRegion ops (i::rest)::k,false⟩ ms w:=by
 refine JO.one L.fit rfl (λe=>by cases e) (λT=>((⟨fn,(cE ⟨tmps,[]⟩ o.dst v).tmps,.inRegion ops rest::k,false⟩,ms),Tt.tp w T 0)) (λT=>?_) (λT K R y U7=>?_) λT=>h.tape T 0
 .show(fJ p _ ms).run p _=_
  simp only[fJ,iA,if_false,tL,ho,G7,Cb,cG,if_true];have he:Fm.eval ⟨fn,tmps,.inRegion ops (i::rest)::k,false⟩=(bL tmps []).eval:=by funext x;cases x<;>rfl
  rw[he];refine(vD p _ _ _).trans ?_;rw[hx];simp only[vW,rP,mF,bN,Fm.fin,ho,vN,cE];cases o.dst<;>rfl
 .obtain⟨f,xs,cC,c,c',rest,Nc,h1,h2,h3,h4,_⟩:=U7.ex
  simp only[sV] at h4;have h5:=congrArg Fm.fn h4.1;rw[Zi] at h5;simp_all
variable {x:Fm}
theorem JO.back (L:Lv p op gs gs₁ fs){w:aE}{i:Nat}{rest:List Nat}{v:aF}(hr:x.ret=true)(pZ:m.todo=.inRegion ops (i::rest)::k){fnx:Func}(S6:p.funcs[x.fn]? =some fnx)(hv:(oO fnx.results.toList x.tmps).run p w=.ok v w)(hf:op m.fn=false)
 (h:JL p op gs fs St W0 Post (m.fin ops i rest k v) ms w):JL p op gs fs St W0 Post x (m::ms) w:=by
 refine JO.one L.fit rfl (λ_=>by simp) (λT=>((m.fin ops i rest k v,ms),Tt.tp w T 0)) (λT=>?_) (λT K R y U7=>?_) λT=>h.tape T 0
 .show(fJ p x (m::ms)).run p _=_
  simp only[fJ,hr,if_true];exact(Mc pZ S6 ((Zl _ _ w v w hv).2 T 0)).1
 .obtain⟨f,xs,cC,c,c',rest,Nc,h1,h2,h3,h4,_⟩:=U7.ex
  simp only[sV] at h4;have h5:=congrArg Fm.fn h4.1;rw[Zi] at h5;have h6:op f=true:=h1;have h7:m.fn=f:=h5;simp_all
variable {args:Array cN}{jW:Array aM}{fn:Func}
theorem zgM {p:cD}{f:aP}(hop:o.op=.call ⟨.value (.func f),args,jW⟩){ρ:cN->aF}(hρ:∀g,ρ (.func g)=.func (.func g) #[] #[])(hf:p.funcs[f]? =some fn)
 (hn:(fn.name== "runtime.NumGoroutine")=false) (hb:fn.body=some c) (w:aE):(aO ρ o).run p w=.ok (.enter f (args.map ρ)) w/\(aO ρ o).events p w #[]=#[]:=by
 obtain⟨dst,zK,type,pos,after,guard⟩:=o;simp only at hop;subst hop;have vZ:¬fn.name= "runtime.NumGoroutine" :=by simpa using hn
 constructor
 .simp[aO,resolve,Cz,hρ,invoke,callFunc,program,bind,yK,pure,bN,hf,vZ,hb]
 .simp[aO,resolve,Cz,hρ,invoke,callFunc,program,bind,yK,pure,bN,yA,dA.runT,hf,vZ,hb]
theorem JO.callF (L:Lv p op gs gs₁ fs){w:aE}{i:Nat}{rest:List Nat}{f:aP}(hr:m.ret=false)(pZ:m.todo=.inRegion ops (i::rest)::k)
 (ho:ops[i]? =some o) (cG:dI o (dL ops m.tmps)=true) (hop:o.op=.call ⟨.value (.func f),args,jW⟩) (hg:op f=true) (xF:args.all (eD fs)=true)
 (hF:∀(K R:Pr) (W:aE) (m':Fm) (ms':List Fm) (Shun:rD->Prop) (cC:Array aF),dB (SF fs) K R (pU p) St w W->qE (PL p op gs) fs K R m m'->uQ (PL p op gs) fs K R ms ms'->Sh W0.heap.size Shun R W->Kp W0 R St W->bQ (SF fs) K R (args.map m.eval) cC->
  J p Post Shun W.heap.size (G (Ic p f cC .normal) (m'.fr::ms'.map Fm.fr)) W):JL p op gs fs St W0 Post m ms w:=by
 obtain⟨fn,c,Q5,g4,g3,_⟩:=L.nofit f hg;intro K R W m' ms' Shun hw hm kJ nF hk;refine J.own rfl λd=>?_;have Hu:bQ (SF fs) K R (args.map m.eval) (args.map m'.eval):=bQ.maps hm.eval xF;have zL:m'.ret=false:=hm.ret.symm.trans hr;have Pf:m'.todo=.inRegion ops (i::rest)::k:=hm.todo.symm.trans pZ;have vJ:dI o (dL ops m'.tmps)=true:=by rw[<-zm5 ops hm.tmps];exact cG
 have Er:Ic p f (args.map m'.eval) .normal=(⟨f,args.map m'.eval++oL (fn.ntmps-(args.map m'.eval).size) aA,[.code c],false⟩:Fm).fr:=zbo Q5 g4;obtain⟨x1,x2⟩:=zgM hop (ρ:=m'.eval) (λg=>rfl) Q5 g3 g4 (W.at d);have hs:(fJ p m' ms').run p (W.at d)=.ok (⟨f,args.map m'.eval++oL (fn.ntmps-(args.map m'.eval).size) aA,[.code c],false⟩,m'::ms') (W.at d):=by
  simp only[fJ,zL,iA,if_false,tL,Pf,ho,G7,Cb,vJ,if_true];refine(vD p _ _ _).trans ?_;rw[x1];simp only[vW,rP,Q5,g4,mF,bN]
 have aX:=zjj (main:=true) hs [];simp only[Og] at aX;have he:(fJ p m' ms').events p (W.at d) #[]=#[]:=by
  simp only[fJ,zL,iA,if_false,tL,Pf,ho,G7,Cb,vJ,if_true];refine(zap p _ _ _ #[]).trans ?_;rw[x1,Result.evThen_ok,x2];simp only[rP,Q5,g4];rfl
 rw[he,Ct] at aX;refine⟨_,W.at d,#[],W.heap.size,aX,λe he=>by simp at he,bM _,?_⟩;rw[<-Er];exact hF K R (W.at d) m' ms' Shun (args.map m'.eval) (dB.at hw d) hm kJ ⟨nF.old,nF.rel,nF.new⟩ ⟨hk.os,hk.tape,hk.output,hk.size,hk.block,hk.old⟩ Hu
theorem JO.fin (L:Lv p op gs gs₁ fs){w:aE}{t:Tmp}(hr:x.ret=true)(hf:p.funcs[x.fn]? =some fn)(ht:fn.results=#[.tmp t])(hi:p.inits.idxOf? x.fn=none)(hP:∀K R W v',VR (SF fs) K R (x.tmps.getD t aA) v'->Kp W0 R St W->Post v' W):JL p op gs fs St W0 Post x [] w:=by
 intro K R W m' ms' Shun hw hm kJ nF hk;cases kJ;refine J.done rfl λd=>?_;have zL:=hm.ret.symm.trans hr;have ziY:p.funcs[m'.fn]? =some fn:=by rw[<-hm.fn];exact hf
 have lS:p.inits.idxOf? m'.fn=none:=by rw[<-hm.fn];exact hi
 refine⟨m'.tmps.getD t aA,#[],?_,λe he=>by simp at he,hP K R (W.at d) _ (hm.tmps.getD t yU) ⟨hk.os,hk.tape,hk.output,hk.size,hk.block,hk.old⟩⟩;have r1:=results_tmp ht m'.tmps p (W.at d);have r2:=Conc.events_results_tmp (P:=p) (w:=W.at d) ht m'.tmps #[];rw[Fm.fr_ret zL];simp[G,stepG,unwind,doReturn,ziY,r1,r2,Ct,Di,lS]
end
end Go.Mt
