/-
  Part 2 of what stands behind the last text.
-/
import Derived.Conc.Token
import Derived.Conc.CompanyDraw
import Derived.Conc.LoneCalls
import Derived.Test.YtfcjiloojkjaeaaGreatDoorRetFPq1
set_option linter.all false
open Array renaming all_eq_true→zpE,empty_append→zle,ext'→Jq,forIn_toList→zxI,getElem?_eq_getElem→pS,getElem?_eq_some_iff→eB,getElem?_map→Cy,getElem?_setIfInBounds_ne→tL,getElem?_setIfInBounds_self_of_lt→zkR,mem_append→zwH,mem_iff_getElem→ztj,replicate→oJ,size_append→Xc,toList_inj→zc1,toList_map→zsK
open Array.mk renaming injEq→zhg
open Bool renaming and_eq_true→jF,false_eq_true→iX,noConfusion→Mq,or_eq_true→Eu
open Classical renaming byContradiction→Av
open Go renaming Addr→bC,CommCase→zmS,CommShape→Nb,Event→rK,Frame→dR,FuncId→aQ,Goroutine→bD,HappensBefore→zhd,Item→dX,Loc→rC,Machine→O1,MemOp→Qm,Oper→aZ,Operand→cK,Program→bZ,ResultVar→Qh,Sem→cY,Tape→j6,Trace→mQ,TypeId→aM,Value→aF,World→aE,deafBehind→oK,execOp→aO,undef→aA,yielded→dH
open Go.Act renaming mk→bJ,put→cC
open Go.CommCase.mk renaming injEq→zgQ
open Go.CommShape.recv renaming injEq→zAa
open Go.Conc renaming Aside→Lg,Deaf→gX,Deaf_other→Qq,Deaf_own→zlL,Knows→Ms,Leavers→zfD,act?_old→zc2,aside_setCell→Z1,base→Jx,deafBehind_still→ztC,deaf_old→zdQ,finishComm_recv→zmf,finishComm_send→zso,g?_old→Tv,getElem?_stand→zpt,heard_old→ziG,listed→wQ,lt_of_act?→zgi,lt_size_of_getElem?→zda,mem_ofEvents→zgY,mem_of_getElem?→zkb,noRace_append→zwe,ofEvents_eq→Wk,offersAt_of_not_blocked→Ye,offersAt_parked_recv→zmi,offersAt_parked_send→znj,ph→zd0,runT_crowd_go→zcz,seen_none→Ax,served→o8,step_solo_go→zaR,touch_mute→znm,touch_of→zhE,woken_quitsD→zcJ
open Go.Conc.Aside renaming refl→Mv
open Go.ConcN renaming upd→zlc
open Go.ConcR renaming WgAt→jL,deafBehind_cons→zrL,mk→oQ
open Go.ConcR.WgAt renaming setSm→zAM,setSt→zCJ,unique→zcG
open Go.Conv renaming bytesToString→zbN,intToString→zlf,runesToString→zrd
open Go.Deferred renaming ofValue→Db
open Go.Event renaming mute→zfZ
open Go.Frame renaming enter→Hm,raise→zo4
open Go.GStep renaming after→Cg
open Go.GStep.comm renaming injEq→zsF
open Go.Goroutine renaming again→zgK,offers→zqr
open Go.Goroutine.mk renaming injEq→zva
open Go.Instr renaming panic→zwi
open Go.Item renaming code→Ld,inRegion→sC
open Go.MemAct renaming low→Z4,low_mono→zxy,ofEvent→jN,touch?→sJ
open Go.MemOp renaming ofEvents→wO
open Go.Mode renaming atomic→zfl,plain→Z9
open Go.Op renaming eqGuardIn→Ro,equal→zS,equalIn→Dx,maxDepth→Sn
open Go.Question renaming cut→ziR,forced→zkC
open Go.Region renaming schedule→Tz,wanted→dE
open Go.Result renaming andThen→vR
open Go.Result.ok renaming injEq→vF
open Go.Sem renaming bind→yN,events→xI,events_bind'→Xr,run→bL,run_bind'→uR
open Go.Stepped.next renaming injEq→zdd
open Go.Trace renaming act?→zrX,g?→Ek
open Go.Value.chan renaming injEq→zvt
open Go.World renaming cell?→lW,farLoad→y9,farStore→Dp,noCell→rR,setChan→Kw
open Go.stepG renaming exec→Ob
open List renaming append_nil→Nv,cons_append→Ra,cons_ne_nil→zhC,length_cons→rG,length_nil→wD,mem_cons→mD,mem_toArray→J9,not_mem_nil→nE,range→iQ,size_toArray→B6
open List.cons renaming injEq→Xs
open Nat renaming eq_zero_or_pos→Ws,le_refl→bF,le_trans→eH,lt_irrefl→Ij,lt_of_lt_of_le→jO,lt_or_ge→qX,strongRecOn→zb8,zero_add→qH,zero_le→lP
open Option renaming bind_some→uY,getD_some→Br,isNone_some→zvK,map_eq_some_iff→zR,map_some→F8
open Option.some renaming inj→cO,injEq→jP
open Prod.mk renaming injEq→sG
open Pure renaming pure→mE
open WellFounded renaming transGen→zHp
namespace Go
theorem Eh{P:Prop}(h:P:=by rw[hp];trivial):P:=h
theorem Qu{P:Prop}(h:P:=by rw[hr];exact .inr (.mk f k)):P:=h
theorem Ke{P:Prop}(h:P:=by rw[mG];simp):P:=h
theorem X5{P:Prop}(h:P:=by rw[hp];exact hB _ bX.refl):P:=h
theorem zbl{P:Prop}(h:P:=by rw[dN.step];exact aY):P:=h
theorem zog{P:Prop}(h:P:=by have:=(h.st.bnd k c (.inl e)).2.2;rw[Nt] at this;cases this):P:=h
theorem zwE{P:Prop}(h:P:=by have:=(h.st.bnd k c (.inr e)).2.2;rw[Nt] at this;cases this):P:=h
theorem zal{P:Prop}(h:P:=by simpa using hj):P:=h
theorem zsI{P:Prop}(h:P:=by rw[(M9 w _).size];exact h.st.grp.live.lt):P:=h
theorem zsk{P:Prop}(h:P:=by rw[upd_same,hr];exact .inr (.mk f k)):P:=h
theorem Lz{P:Prop}(h:P:=by rfl):P:=h
theorem zgR{P:Prop}(h:P:=by rw[hp];exact id):P:=h
theorem zdM{P:Prop}(h:P:=by rw[hp];exact hB):P:=h
theorem zkO{P:Prop}(h:P:=by simpa using hg.1):P:=h
theorem zjL{P:Prop}(h:P:=by rw[hl];exact id):P:=h
end Go
namespace Go.Mt
open Go.Conc
open Go.ConcR (KK wgBlock WgAt stA smA rd wr mk)
inductive Rk:Type 1
 |mk (ι:Type) (f:ι->Rk)
inductive Rk.Child:Rk->Rk->Prop
 |mk {ι:Type} (f:ι->Rk) (i:ι):Rk.Child (f i) (.mk ι f)
theorem Rk.wf:WellFounded Rk.Child:=⟨λr=>by
 induction r with
 |mk ι f ih=>exact⟨_,λy h=>by cases h with|mk _ i=>exact ih i⟩⟩
structure cH where
 own:Nat->Prop
 still:Nat->Prop
 pass:Nat->Prop
def cH.grow (τ:cH)(w w':aE):cH:={τ with own:=λb=>τ.own b\/(w.heap.size<=b/\b<w'.heap.size)}
inductive Act (L:Type) where
 |send (c:Nat) (ok:aF->Prop) (pub:aF->List Nat) (nx:aF->L)
 |recv (c:Nat) (ok:aF->Prop) (nx:aF->L) (shut:L)
 |close (c:Nat) (nx:L)
 |add (nx:L)
 |spawn (pub:List Nat) (child nx:L)
 |done
 |wait
 |note (can:L->Prop)
inductive Ph (L:Type) where
 |gone
 |usr (l:L)
 |rel (l:L)
 |l1 (l:L)
 |l2 (l:L)
 |l3 (l:L)
 |quit (l:L)
 |w1 (b:Nat)
 |w2 (v:Nat)
 |w3
 |w4
 |w5
inductive Pj (L:Type) where
 |gone
 |run (l:L)
 |over (l:L)
 |waits
def Ph.proj {L:Type}:Ph L->Pj L
 | .gone=>.gone
 | .usr l=>.run l
 | .rel l| .l1 l| .l2 l| .l3 l| .quit l=>.over l
 | .w1 _| .w2 _| .w3| .w4| .w5=>.waits
abbrev rJ:=Nat->Option Bool
def rJ.opn (ch:rJ)(l:List Nat):rJ:=λc=>if c∈l then some false else ch c
structure jM (L:Type) where
 act:L->Act L
 dep:L->aE->Prop
 pend:L->Bool
 cl:L->Prop
 Inv:(Nat->Pj L)->rJ->Prop
 got:L->aF->List Nat:=λ_ _=>[]
def jM.Blocked {L:Type}(A:jM L)(q:Nat->Pj L)(ch:rJ)(l:L):Prop:=
 match A.act l with
 | .send c _ _ _=>¬∃j l' ok nx sh,q j=.run l'/\A.act l'=.recv c ok nx sh
 | .recv c _ _ _=>ch c=some false/\¬∃j l' ok pub nx,q j=.run l'/\A.act l'=.send c ok pub nx
 |_=>False
def Pj.c {L:Type}:Pj L->Nat
 | .gone=>0
 |_=>1
def num {L:Type}(q:Nat->Pj L):Nat->Nat
 |0=>0
 |n+1=>num q n+(q n).c
def bK {α:Type _}(f:Nat->α)(i:Nat)(x:α):Nat->α:=λa=>if a=i then x else f a
structure jM.Ok {L:Type}(A:jM L):Prop where
 send1:∀q ch i j li lj c ok pub nx sN Vp pY,A.Inv q ch->q i=.run li->q j=.run lj->A.act li=.send c ok pub nx->A.act lj=.send c sN Vp pY->i=j
 recv1:∀q ch i j li lj c ok nx sh sN pY xC,A.Inv q ch->q i=.run li->q j=.run lj->A.act li=.recv c ok nx sh->A.act lj=.recv c sN pY xC->i=j
 sendC:∀q ch i l c ok pub nx,A.Inv q ch->q i=.run l->A.act l=.send c ok pub nx->ch c=some false
 recvC:∀q ch i l c ok nx sh,A.Inv q ch->q i=.run l->A.act l=.recv c ok nx sh->∃b,ch c=some b
 meet:∀q ch i j li lj c ok pub nx sN pY sh v,A.Inv q ch->q i=.run li->q j=.run lj->A.act li=.send c ok pub nx->A.act lj=.recv c sN pY sh->ok v->
  (∀a∈pub v,ch a=none)->sN v/\A.Inv (bK (bK q i (.run (nx v))) j (.run (pY v))) (ch.opn (pub v))
 shut:∀q ch i l c ok nx sh,A.Inv q ch->q i=.run l->A.act l=.recv c ok nx sh->ch c=some true->A.cl l/\A.Inv (bK q i (.run sh)) ch
 close:∀q ch i l c nx,A.Inv q ch->q i=.run l->A.act l=.close c nx->ch c=some false/\A.Inv (bK q i (.run nx)) (bK ch c (some true))
 add:∀q ch i l nx,A.Inv q ch->q i=.run l->A.act l=.add nx->i=0/\A.pend l=false/\A.pend nx=true/\A.Inv (bK q i (.run nx)) ch
 spawn:∀q ch i l pub lc nx k,A.Inv q ch->q i=.run l->A.act l=.spawn pub lc nx->i=0/\A.pend l=true/\A.pend nx=false/\(q k=.gone->k≠0->(∀a∈pub,ch a=none)->A.Inv (bK (bK q i (.run nx)) k (.run lc)) (ch.opn pub))
 done:∀q ch i l,A.Inv q ch->q i=.run l->A.act l=.done->i≠0/\A.Inv (bK q i (.over l)) ch
 note:∀q ch i l can l',A.Inv q ch->q i=.run l->A.act l=.note can->can l'->A.pend l'=A.pend l/\A.Inv (bK q i (.run l')) ch
 wait:∀q ch i l,A.Inv q ch->q i=.run l->A.act l=.wait->i=0/\A.pend l=false/\A.Inv (bK q i .waits) ch
 prog:∀q ch,A.Inv q ch->(∀i l,q i=.run l->A.Blocked q ch l)->q 0=.waits/\∀i l,q i≠ .run l
 pendC:∀l l' c v ok pub nx,A.act l=.send c ok pub nx->l'=nx v->A.pend l'=A.pend l
 pendR:∀l l' c v ok nx sh,A.act l=.recv c ok nx sh->(l'=nx v\/l'=sh)->A.pend l'=A.pend l
 pendX:∀l c nx,A.act l=.close c nx->A.pend nx=A.pend l
 few:∀q ch,A.Inv q ch->∀n,num q n<2000000000
 gotP:∀q ch i j li lj c ok pub nx sN pY sh v,A.Inv q ch->q i=.run li->q j=.run lj->A.act li=.send c ok pub nx->A.act lj=.recv c sN pY sh->ok v->∀a∈A.got lj v,a∈pub v
section
variable {L:Type}(P:bZ)(ty:aM)(Wg:Nat)(A:jM L)(Fin:bD->aE->Prop)
def WgLive (w:aE):Prop:=∃st sm,jL ty Wg w st sm
structure bX (τ:cH)(w aJ:aE):Prop where
 tape:aJ.tape=w.tape
 os:aJ.os=w.os
 output:aJ.output=w.output
 size:w.heap.size<=aJ.heap.size
 keep:∀b,τ.own b\/τ.still b->aJ.heap[b]? =w.heap[b]?
 live:WgLive ty Wg w->WgLive ty Wg aJ
structure Ao (O:Nat->Prop)(w w':aE):Prop where
 tape:w'.tape=w.tape
 os:w'.os=w.os
 output:w'.output=w.output
 size:w.heap.size<=w'.heap.size
 keep:∀b,b<w.heap.size->¬O b->w'.heap[b]? =w.heap[b]?
def EvT (main:Bool)(O Z:Nat->Prop)(e:rK):Prop:=
 match e.loc with
 | .cell a=>O a.block\/(Z a.block/\e.write=false)
 | .obj r=>O r\/(Z r/\e.write=false)
 | .mark (.read a)| .mark (.write a)=>main=true/\a.block=Wg
 | .mark (.acquire _)| .mark (.release _)| .mark (.releaseMerge _)=>False
 | .mark _=>True
 |_=>False
variable (K:Bool->Ph L->Nat->cH->bD->aE->Prop)
def GoG (main:Bool)(ph:Ph L)(d:Nat)(τ:cH)(g:bD)(aJ:aE):Prop:=
 ∃g' w' es,stepG P main g aJ=.go g' w' es/\g'.status=.running/\Ao τ.own aJ w'/\(∀e∈es,EvT Wg main (τ.grow aJ w').own τ.still e)/\K main ph (oK d es) (τ.grow aJ w') g' w'
def OwnG (main:Bool)(ph:Ph L)(d:Nat)(τ:cH)(g:bD)(w:aE):Prop:=∀aJ,bX ty Wg τ w aJ->GoG P Wg K main ph d τ g aJ
def zao (main:Bool)(ph:Ph L)(d:Nat)(τ:cH)(g:bD)(w:aE):Prop:=
 ∀aJ,bX ty Wg τ w aJ->∃g' es,stepG P main g aJ=.go g' aJ es/\g'.status=.running/\(∀e∈es,zfZ e=true)/\K main ph (oK d es) τ g' aJ
def st (v wt:Nat):Value:=.int .u64 ((v:Int)*KK+wt)
def Jf (w:aE)(a:Nat):Prop:=w.heap[a]? =some (.chan 0 #[] false 0 0 false)
def mY (main:Bool)(l:L)(d:Nat)(τ:cH)(g:bD)(w:aE):Prop:=
 match A.act l with
 | .send c ok pub nx=>g.offers=none/\∃v z τ',(∀aJ,bX ty Wg τ w aJ->stepG P main g aJ=.comm g #[scase c v z] true .send aJ #[])/\ok v/\(∀b,τ'.own b->τ.own b)/\τ'.still=τ.still/\(∀b,τ'.pass b->τ.pass b\/τ.own b)/\
  (∀a∈pub v,τ.own a/\¬τ'.own a/\¬τ'.still a/\Jf w a)/\K main (.usr (nx v)) d τ' (o8 g aA) w
 | .recv c ok nx sh=>g.offers=none/\∃z b,(∀aJ,bX ty Wg τ w aJ->stepG P main g aJ=.comm g #[rcase c z] true (.recv b) aJ #[])/\(∀v,ok v->∀aJ,bX ty Wg τ w aJ->(∀a∈A.got l v,a<aJ.heap.size/\¬τ.own a/\¬τ.still a)->K main (.usr (nx v)) d τ (o8 g (recvd b v true)) aJ)/\(A.cl l->K main (.usr sh) d τ (o8 g (recvd b z false)) w)
 | .close c nx=>mayWake P g=true/\τ.pass c/\∀aJ,bX ty Wg τ w aJ->∀s r,aJ.heap[c]? =some (.chan 0 #[] false s r false)->
  ∃g',stepG P main g aJ=.go g' (aJ.setChan c 0 #[] true s r false) (closeEvents c)/\g'.status=.running/\K main (.usr nx) d τ g' (aJ.setChan c 0 #[] true s r false)
 | .add nx=>∀aJ,bX ty Wg τ w aJ->∀v:Nat,v<2147483647->jL ty Wg aJ (v*KK) 0->
  ∃g',stepG P main g aJ=.go g' (aJ.setCell (stA Wg) (st (v+1) 0)) #[rd (stA Wg),wr (stA Wg)]/\g'.status=.running/\K main (.usr nx) d τ g' (aJ.setCell (stA Wg) (st (v+1) 0))
 | .spawn pub lc nx=>d=0/\∀aJ,bX ty Wg τ w aJ->∃g' child τm τc,stepG P main g aJ=.spawn g' child aJ #[]/\g'.status=.running/\child.status=.running/\
  (∀b,τm.own b\/τc.own b->τ.own b)/\(∀b,τm.still b\/τc.still b->τ.still b\/τ.own b)/\(∀b,τm.pass b\/τc.pass b->τ.pass b\/τ.own b\/τ.still b)/\
  (∀b,τm.own b->¬τc.own b/\¬τc.still b/\¬τc.pass b)/\(∀b,τc.own b->¬τm.still b/\¬τm.pass b)/\
  (∀a∈pub,τ.own a/\Jf aJ a/\¬τm.own a/\¬τm.still a/\¬τc.own a/\¬τc.still a)/\K main (.usr nx) 0 τm g' aJ/\K false (.usr lc) 0 τc child aJ
 | .done=>d=0/\main=false/\(∀aJ,bX ty Wg τ w aJ->A.dep l aJ)/\∀aJ,bX ty Wg τ w aJ->∃g',stepG P main g aJ=.go g' aJ #[mk (.releaseMerge (stA Wg))]/\g'.status=.running/\K main (.rel l) 0 τ g' aJ
 | .wait=>∀aJ,bX ty Wg τ w aJ->∀v:Nat,v<2147483648->jL ty Wg aJ (v*KK) 0->∃g',stepG P main g aJ=.go g' aJ #[rd (stA Wg)]/\g'.status=.running/\
  (v=0->K main .w5 d τ g' aJ)/\(v≠0->K main (.w2 v) d τ g' aJ)
 | .note can=>∃l',can l'/\K main (.usr l') d τ g w
def Au (main:Bool)(ph:Ph L)(d:Nat)(τ:cH)(g:bD)(w:aE):Prop:=
 match ph with
 | .gone| .quit _=>False
 | .usr l=>mY P ty Wg A K main l d τ g w
 | .rel l=>∀aJ,bX ty Wg τ w aJ->∀v wt:Nat,wt<=1->v<2147483647->jL ty Wg aJ ((v+1:Nat)*KK+wt) 0->
  ∃g',stepG P main g aJ=.go g' (aJ.setCell (stA Wg) (st v wt)) #[rd (stA Wg),wr (stA Wg)]/\g'.status=.running/\0<d/\
   ((v=0/\wt=1)->K main (.l1 l) d τ g' (aJ.setCell (stA Wg) (st v wt)))/\(¬(v=0/\wt=1)->∃q,QuitsD P q d g')
 | .l1 l=>∀aJ,bX ty Wg τ w aJ->jL ty Wg aJ 1 0->∃g',stepG P main g aJ=.go g' aJ #[rd (stA Wg)]/\g'.status=.running/\0<d/\K main (.l2 l) d τ g' aJ
 | .l2 l=>∀aJ,bX ty Wg τ w aJ->jL ty Wg aJ 1 0->∃g',stepG P main g aJ=.go g' (aJ.setCell (stA Wg) (st 0 0)) #[wr (stA Wg)]/\g'.status=.running/\0<d/\K main (.l3 l) d τ g' (aJ.setCell (stA Wg) (st 0 0))
 | .l3 l=>mayWake P g=true/\∀aJ,bX ty Wg τ w aJ->jL ty Wg aJ 0 0->∃g',stepG P main g aJ=.go g' (aJ.setCell (smA Wg) (.int .u32 1)) (semEvents (smA Wg))/\g'.status=.running/\0<d/\∃q,QuitsD P q d g'
 | .w1 b=>∀aJ,bX ty Wg τ w aJ->∀v:Nat,v<b->v<2147483648->jL ty Wg aJ (v*KK) 0->∃g',stepG P main g aJ=.go g' aJ #[rd (stA Wg)]/\g'.status=.running/\
  (v=0->K main .w5 d τ g' aJ)/\(v≠0->K main (.w2 v) d τ g' aJ)
 | .w2 vs=>∀aJ,bX ty Wg τ w aJ->∀v:Nat,v<2147483648->jL ty Wg aJ (v*KK) 0->
  (v=vs->∃g',stepG P main g aJ=.go g' (aJ.setCell (stA Wg) (st v 1)) #[rd (stA Wg),wr (stA Wg)]/\g'.status=.running/\K main .w3 d τ g' (aJ.setCell (stA Wg) (st v 1)))/\
  (v<vs->∃g',stepG P main g aJ=.go g' aJ #[rd (stA Wg)]/\g'.status=.running/\K main (.w1 vs) d τ g' aJ)
 | .w3=>g.offers=none/\∀aJ,bX ty Wg τ w aJ->((∃x,jL ty Wg aJ x 0)->stepG P main g aJ=.go {g with status:=.blocked} aJ #[])/\
  (jL ty Wg aJ 0 1->∃g',stepG P main g aJ=.go g' (aJ.setCell (smA Wg) (.int .u32 0)) (semEvents (smA Wg))/\g'.status=.running/\K main .w4 d τ g' (aJ.setCell (smA Wg) (.int .u32 0)))
 | .w4=>∀aJ,bX ty Wg τ w aJ->jL ty Wg aJ 0 0->∃g',stepG P main g aJ=.go g' aJ #[rd (stA Wg)]/\g'.status=.running/\K main .w5 d τ g' aJ
 | .w5=>d=0/\∀aJ,bX ty Wg τ w aJ->(∃q ch,A.Inv q ch/\q 0=.waits/\(∀i l,q i≠ .run l)/\∀i l,q i=.over l->A.dep l aJ)->
  ∃g',stepG P main g aJ=.go g' aJ #[mk (.acquire (stA Wg))]/\g'.status=.running/\Fin g' aJ
def N0 (main:Bool)(ph:Ph L)(d:Nat)(τ:cH)(g:bD)(w:aE):Prop:=
 match ph with
 | .gone| .quit _=>False
 | .rel _| .l1 _| .l2 _| .l3 _=>zao P ty Wg K main ph d τ g w
 |_=>OwnG P ty Wg K main ph d τ g w
end
def pI {L:Type}(P:bZ)(ty:aM)(Wg:Nat)(A:jM L)(Fin:bD->aE->Prop):Rk->Bool->Ph L->Nat->cH->bD->aE->Prop
 | .mk ι f,main,ph,d,τ,g,w=>g.status=.running/\
  (
   N0 P ty Wg (λm ph d τ g w=>∃i,pI P ty Wg A Fin (f i) m ph d τ g w) main ph d τ g w\/
   Au P ty Wg A Fin (λm ph d τ g w=>∃i,pI P ty Wg A Fin (f i) m ph d τ g w) main ph d τ g w)
abbrev Cp:=Sum Nat Rk
def Cl:Cp->Cp->Prop:=Sum.Lex (·<·) Rk.Child
theorem Cl.wf:WellFounded Cl:=by
 have hl:∀n:Nat,Acc Cl (.inl n):=λn=>by
  induction n using zb8 with
  |_ n ih=>exact⟨_,λy h=>by cases h with|inl h=>exact ih _ h⟩
 refine⟨λx=>?_⟩
 cases x with
 |inl n=>exact hl n
 |inr r=>
  induction r using Rk.wf.induction with
  |_ r ih=>exact⟨_,λy h=>by cases h with|inr h=>exact ih _ h|sep=>exact hl _⟩
def Ve (n:Nat)(f' f:Nat->Cp):Prop:=∃i,i<=n/\Cl (f' i) (f i)/\∀j,j<i->f' j=f j
theorem Ve.wf:∀n,WellFounded (Ve n):=by
 intro n
 induction n with
 |zero=>
  have:∀c,Acc Cl c->∀f:Nat->Cp,f 0=c->Acc (Ve 0) f:=by
   intro c hc
   induction hc with
   |intro c _ ih=>
    intro f hf;refine⟨_,λf' h=>?_⟩;obtain⟨i,hi,hl,_⟩:=h
    grind
  exact⟨λf=>this _ (Cl.wf.apply _) f rfl⟩
 |succ n ih=>
  have:∀zfN,Acc (Ve n) zfN->∀c,Acc Cl c->∀f:Nat->Cp,(∀j,j<=n->f j=zfN j)->f (n+1)=c->Acc (Ve (n+1)) f:=by
   intro zfN zdX
   induction zdX with
   |intro zfN _ zBe=>
    intro c hc
    induction hc with
    |intro c _ zKC=>
     intro f hf J8;refine⟨_,λf' h=>?_⟩;obtain⟨i,hi,hl,he⟩:=h;rcases qX n i with aS|Cm
     .grind
     .refine zBe f' ⟨i,Cm,(hf i Cm)▸hl,λj hj=>(he j hj).trans (hf j aC)⟩ _ (Cl.wf.apply (f' (n+1))) f' (λj _=>rfl) rfl
  exact⟨λf=>this f (ih.apply f) _ (Cl.wf.apply _) f (λ_ _=>rfl) rfl⟩
abbrev Mu:=Nat×(Nat->Cp)
def Mu.lt (x y:Mu):Prop:=∃i,i<=y.1/\Cl (x.2 i) (y.2 i)/\(∀j,j<i->x.2 j=y.2 j)/\(i≠0->x.1=y.1)
theorem Mu.wf:WellFounded Mu.lt:=by
 have:∀c,Acc Cl c->∀n (f:Nat->Cp),f 0=c->Acc Mu.lt (n,f):=by
  intro c hc
  induction hc with
  |intro c _ ih=>
   intro n f
   induction f using(Ve.wf n).induction with
   |_ f zC4=>
    intro hf;refine⟨_,λy h=>?_⟩;obtain⟨n',f'⟩:=y;obtain⟨i,hi,hl,he,hn⟩:=h;simp only at hi hl he hn;by_cases h0:i=0
    .grind
    .have:=hn h0
     subst this;exact zC4 f' ⟨i,hi,hl,he⟩ ((he 0 aC).trans hf)
 exact⟨λx=>this _ (Cl.wf.apply _) x.1 x.2 rfl⟩
theorem run_to {P:bZ}{α:Type _}{r:α->α->Prop}(wf:WellFounded r)(Inv:α->O1->mQ->Prop)(P7:O1->mQ->Prop)
 (h:∀μ m t,Inv μ m t->∃m' ops,stepT P m=(.next m',ops)/\(P7 m' (t++ops)\/∃μ',r μ' μ/\Inv μ' m' (t++ops))):
 ∀μ m t,Inv μ m t->∃n m' t',runNT P n m t=(.next m',t')/\P7 m' t':=by
 intro μ
 induction μ using wf.induction with
 |_ μ ih=>
  intro m t hI;obtain⟨m',ops,hs,hg|⟨μ',hr,zkK⟩⟩:=h μ m t hI
  .exact⟨1,m',t++ops,by simp[runNT,hs],hg⟩
  .obtain⟨n,zD8,t',h1,h2⟩:=ih μ' hr m' (t++ops) zkK
   exact⟨n+1,zD8,t',by rw[runNT_succ_next hs];exact h1,h2⟩
section
variable {L:Type}{P:bZ}{ty:aM}{Wg:Nat}{A:jM L}{Fin:bD->aE->Prop}
variable {τ τ':cH}{w aJ eU:aE}
def bX.refl:bX ty Wg τ w w:=⟨rfl,rfl,rfl,bF _,λ_ _=>rfl,id⟩
def bX.trans (h:bX ty Wg τ w aJ)(k:bX ty Wg τ aJ eU):bX ty Wg τ w eU:=
 ⟨k.tape.trans h.tape,k.os.trans h.os,k.output.trans h.output,eH h.size k.size,λb hb=>(k.keep b hb).trans (h.keep b hb),λx=>k.live (h.live x)⟩
def bX.mono (h:bX ty Wg τ w aJ)(hs:∀b,τ'.own b\/τ'.still b->τ.own b\/τ.still b):bX ty Wg τ' w aJ:=
 ⟨h.tape,h.os,h.output,h.size,λb hb=>h.keep b (hs b hb),h.live⟩
def zvA (ty:aM)(Wg:Nat)(K:Bool->Ph L->Nat->cH->bD->aE->Prop):Prop:=
 ∀m ph d τ g w aJ,K m ph d τ g w->bX ty Wg τ w aJ->K m ph d τ g aJ
variable {K:Bool->Ph L->Nat->cH->bD->aE->Prop}
theorem mY.rely (hK:zvA ty Wg K){main:Bool}{l:L}{d:Nat}{g:bD}(h:mY P ty Wg A K main l d τ g w)(s:bX ty Wg τ w aJ):mY P ty Wg A K main l d τ g aJ:=by
 unfold mY at*;split
 .rename_i c ok pub nx e
  simp only[e] at h;obtain⟨ho,v,z,τ',h1,h2,h3,h4,Ks,h5,h6⟩:=h
  exact⟨ho,v,z,τ',λeU l6=>h1 eU (s.trans l6),h2,h3,h4,Ks,λa ha=>⟨(h5 a ha).1,(h5 a ha).2.1,(h5 a ha).2.2.1,(s.keep a (.inl (h5 a ha).1)).trans (h5 a ha).2.2.2⟩,
   hK _ _ _ _ _ _ _ h6 (s.mono λb hb=>hb.imp (h3 b) (λx=>h4▸x))⟩
 .rename_i c ok nx sh e
  simp only[e] at h;obtain⟨ho,z,b,h1,h2,h3⟩:=h;exact⟨ho,z,b,λeU l6=>h1 eU (s.trans l6),λv hv eU l6 hg=>h2 v hv eU (s.trans l6) hg,λx=>hK _ _ _ _ _ _ _ (h3 x) s⟩
 .rename_i c nx e
  simp only[e] at h;exact⟨h.1,h.2.1,λeU l6=>h.2.2 eU (s.trans l6)⟩
 .rename_i nx e
  simp only[e] at h;exact λeU l6=>h eU (s.trans l6)
 .rename_i pub lc nx e
  simp only[e] at h;exact⟨h.1,λeU l6=>h.2 eU (s.trans l6)⟩
 .rename_i e
  simp only[e] at h;exact⟨h.1,h.2.1,λeU l6=>h.2.2.1 eU (s.trans l6),λeU l6=>h.2.2.2 eU (s.trans l6)⟩
 .rename_i e
  simp only[e] at h;exact λeU l6=>h eU (s.trans l6)
 .rename_i can e
  simp only[e] at h;obtain⟨l',h1,h2⟩:=h;exact⟨l',h1,hK _ _ _ _ _ _ _ h2 s⟩
theorem Au.rely (hK:zvA ty Wg K){main:Bool}{ph:Ph L}{d:Nat}{g:bD}(h:Au P ty Wg A Fin K main ph d τ g w)(s:bX ty Wg τ w aJ):Au P ty Wg A Fin K main ph d τ g aJ:=by
 cases ph with
 |gone=>exact h
 |quit l=>exact h
 |usr l=>exact mY.rely hK h s
 |l3 l=>exact⟨h.1,λeU l6=>h.2 eU (s.trans l6)⟩
 |w3=>exact⟨h.1,λeU l6=>h.2 eU (s.trans l6)⟩
 |w5=>exact⟨h.1,λeU l6=>h.2 eU (s.trans l6)⟩
 |rel l=>exact λeU l6=>h eU (s.trans l6)
 |l1 l=>exact λeU l6=>h eU (s.trans l6)
 |l2 l=>exact λeU l6=>h eU (s.trans l6)
 |w1 b=>exact λeU l6=>h eU (s.trans l6)
 |w2 v=>exact λeU l6=>h eU (s.trans l6)
 |w4=>exact λeU l6=>h eU (s.trans l6)
theorem N0.rely {main:Bool}{ph:Ph L}{d:Nat}{g:bD}(h:N0 P ty Wg K main ph d τ g w)(s:bX ty Wg τ w aJ):N0 P ty Wg K main ph d τ g aJ:=by
 cases ph<;>first|exact h|exact λeU l6=>h eU (s.trans l6)
theorem pI.rely:∀{r:Rk} {main:Bool} {ph:Ph L} {d:Nat} {τ:cH} {g:bD} {w aJ:aE},pI P ty Wg A Fin r main ph d τ g w->bX ty Wg τ w aJ->pI P ty Wg A Fin r main ph d τ g aJ:=by
 intro r
 induction r with
 |mk ι f ih=>
  intro main ph d τ g w aJ h s;refine⟨h.1,h.2.imp (λx=>x.rely s) λx=>x.rely (λm ph d τ g w aJ ⟨i,hi⟩ s=>⟨i,ih i hi s⟩) s⟩
end
def nQ (l:rC)(b:Nat):Prop:=match l with| .cell a=>a.block=b| .obj r=>r=b|_=>False
variable {l:rC}{b:Nat}
theorem zbs (h:nQ l b):l.isMemory=true:=by cases l<;>first|rfl|exact h.elim
theorem Kd {b':Nat}(h:nQ l b)(h':nQ l b'):b=b':=by cases l<;>first|exact h.symm.trans h'|exact h.elim
def Handed (Wg:Nat)(t:mQ)(i:Nat):Prop:=∃r,t.act? r=some (.mark (.releaseMerge (stA Wg)))/\t.heard r/\Before t i r
variable {i:Nat}
theorem Handed.app {Wg:Nat}{t:mQ}(u:mQ)(h:Handed Wg t i):Handed Wg (t++u) i:=by
 obtain⟨r,h1,h2,h3⟩:=h;have hr:=zgi h1;exact⟨r,by rw[zc2 hr];exact h1,(ziG hr).2 h2,h3.app u⟩
structure TI (Wg n:Nat)(own pas:Nat->Nat->Prop)(live:Nat->Prop)(Shun:rC->Prop)(B:Nat)(t:mQ):Prop where
 clean:∀said,¬Race said t
 own:∀k b,live k->own k b->∀i a,touchAt t i=some a->nQ a.loc b->Ms t k i
 pas:∀k b,live k->pas k b->∀i a,touchAt t i=some a->nQ a.loc b->a.write=true->Ms t k i
 grp:∀i a,touchAt t i=some a->nQ a.loc Wg->a.kind=.atomic\/(a.kind=.said/\t.g? i=some 0)
 all:∀i a,touchAt t i=some a->a.loc.isMemory=true->(∃k,live k/\Ms t k i)\/Handed Wg t i\/((Shun a.loc\/nQ a.loc Wg)/\a.kind=.atomic)
 over:∀i g,t.g? i=some g->g≠0->t.counts i->(∃k,live k/\Ms t k i)\/Handed Wg t i\/∃j,t.g? j=some 0/\zhd t i j
 norel:∀k,t.act? k≠some (.mark (.release (stA Wg)))
 low:∀op∈t,op.act.low B
 above:∀j,n<=j->gX t j=0
section
variable {Wg n:Nat}{own own' pas Yg:Nat->Nat->Prop}{live live':Nat->Prop}{Shun:rC->Prop}{B B':Nat}{t:mQ}
def zDI (t:mQ)(y:Qm):touchAt (t++ #[y]) t.size=y.act.touch? :=touchAt_of aN
variable {y:Qm}{a:Touch}
theorem Hj {t:mQ}{i:Nat}(h:touchAt (t++ #[y]) i=some a):(i<t.size/\touchAt t i=some a)\/(i=t.size/\y.act.touch? =some a):=by
 obtain⟨op,ho,Kl⟩:=zhE h;rcases getElem?_append_cases ho with⟨hi,zX⟩|⟨hi,hu⟩
 .exact .inl ⟨hi,by rw[touchAt_of zX];exact Kl⟩
 grind
theorem zoF {B:Nat}{x:MemAct}{b:Nat}(h:x.low B)(ht:x.touch? =some a)(hb:nQ a.loc b):b<B:=by
 cases x with
 |access e=>
  simp only[sJ,jP] at ht;subst ht;obtain⟨loc,wr,sy⟩:=e;cases loc<;>first|exact hb▸h|exact hb.elim
 |mark m=>cases m<;>simp only[sJ,jP,reduceCtorEq] at ht<;>(subst ht;exact hb▸h)
 |_=>simp[sJ] at ht
theorem TI.lowB (h:TI Wg n own pas live Shun B t){i:Nat}{b:Nat}(ht:touchAt t i=some a)(hb:nQ a.loc b):b<B:=by
 obtain⟨op,ho,Kl⟩:=zhE ht;exact zoF (h.low op (zkb ho)) Kl hb
def TI.less (h:TI Wg n own pas live Shun B t)(ho:∀k b,live k->own' k b->own k b\/B<=b)(hp:∀k b,live k->Yg k b->pas k b\/own k b\/B<=b)(hB:B<=B'):TI Wg n own' Yg live Shun B' t:=
 ⟨
  h.clean,λk b hk hb i a ha hl=>(ho k b hk hb).elim (λx=>h.own k b hk x i a ha hl) (λx=>absurd (h.lowB ha hl) aC),
  λk b hk hb i a ha hl hw=>(hp k b hk hb).elim (λx=>h.pas k b hk x i a ha hl hw) (λx=>x.elim (λx=>h.own k b hk x i a ha hl) (λx=>absurd (h.lowB ha hl) aC)),
  h.grp,h.all,h.over,h.norel,λop hop=>zxy hB (h.low op hop),h.above⟩
def zfS {t:mQ}{k:Nat}(hg:y.g=k):Ms (t++ #[y]) k t.size:=⟨t.size,y,aN,hg,.inl rfl⟩
theorem zdD {t:mQ}{i g:Nat}(hg:(t++ #[y]).g? i=some g)(hc:(t++ #[y]).counts i):(i<t.size/\t.g? i=some g/\t.counts i)\/(i=t.size/\y.g=g):=by
 obtain⟨x,hx,tU⟩:=hc;have aS:i<(t++ #[y]).size:=by
  unfold Ek at hg;obtain⟨z,hz,_⟩:=zR.1 hg;exact zda hz
 simp only[Xc,B6,rG,wD] at aS;rcases qX i t.size with hi|hi
 .refine .inl ⟨hi,by rw[Tv hi] at hg;exact hg,x,?_,tU.1,tU.2.imp id λz=>(ziG hi).1 z⟩
  rw[zc2 hi] at hx;exact hx
 .have:i=t.size:=aC
  subst this;refine .inr ⟨rfl,?_⟩;simpa[Ek] using hg
theorem TI.push (h:TI Wg n own pas live Shun B t){k:Nat}(hk:live k)(tG:k<n)(hg:y.g=k)
 (ht:∀a,y.act.touch? =some a->(∃b,b≠Wg/\nQ a.loc b/\(own k b\/(pas k b/\a.write=false))/\∀k',live k'->k'≠k->¬own k' b/\(a.write=true->¬pas k' b))\/(nQ a.loc Wg/\(a.kind=.atomic\/(a.kind=.said/\k=0))/\∀k',live k'->¬own k' Wg/\¬pas k' Wg)\/a.loc.isMemory=false)
 (hr:y.act≠ .mark (.release (stA Wg))) (hl:y.act.low B):TI Wg n own pas live Shun B (t++ #[y]):=by
 refine⟨λsaid=>?_,λk' b cU hb i a ha lJ=>?_,λk' b cU hb i a ha lJ hw=>?_,λi a ha lJ=>?_,λi a ha hm=>?_,λi g Gc aU hc=>?_,λi e=>?_,λop hop=>?_,λj hj=>?_⟩
 .refine zwe (g:=k) (h.clean said) (λop hop=>by simp_all) λi a ha op hop b hb hc=>?_
  have:op=y:=by simpa using hop
  subst this;obtain⟨zcs,zBM,jT,gA⟩:=hc;rcases ht b hb with⟨bl,kF,lJ,zb1,_⟩|⟨lJ,Rl,_⟩|Jh
  .rcases zb1 with zb1|⟨zb1,zDZ⟩
   .exact h.own k bl hk zb1 i a ha (zcs▸lJ)
   .exact h.pas k bl hk zb1 i a ha (zcs▸lJ) (by simpa[zDZ] using jT)
  .have Pf:=h.grp i a ha (zcs▸lJ)
   rcases Rl with Rl|⟨Rl,lO⟩
   .rw[Rl] at gA
    rcases Pf with Pf|⟨Pf,_⟩<;>rw[Pf] at gA<;>simp at gA
   .rcases Pf with Pf|⟨Pf,Rw⟩
    .simp_all
    .obtain⟨zyQ,zwN,_⟩:=zhE ha
     have:zyQ.g=0:=by simpa[Ek,zwN] using Rw
     have:=knows_own zwN;simp_all
  simp_all
 .rcases Hj ha with⟨_,fV⟩|⟨rfl,fV⟩
  .exact(h.own k' b cU hb i a fV lJ).app _
  .by_cases gA:k'=k
   .exact gA▸zfS hg
   .rcases ht a fV with⟨bl,kF,Er,_,fM⟩|⟨Er,_,fM⟩|Jh
    .exact absurd (Kd lJ Er▸hb) (fM k' cU gA).1
    .exact absurd (Kd lJ Er▸hb) (fM k' cU).1
    .rw[zbs lJ] at Jh;cases Jh
 .rcases Hj ha with⟨_,fV⟩|⟨rfl,fV⟩
  .exact(h.pas k' b cU hb i a fV lJ hw).app _
  .by_cases gA:k'=k
   .exact gA▸zfS hg
   .rcases ht a fV with⟨bl,kF,Er,_,fM⟩|⟨Er,_,fM⟩|Jh
    .exact absurd (Kd lJ Er▸hb) ((fM k' cU gA).2 hw)
    .exact absurd (Kd lJ Er▸hb) (fM k' cU).2
    .rw[zbs lJ] at Jh;cases Jh
 .rcases Hj ha with⟨hi,fV⟩|⟨rfl,fV⟩
  .exact(h.grp i a fV lJ).imp id λx=>⟨x.1,by rw[Tv hi];exact x.2⟩
  .rcases ht a fV with⟨bl,kF,Er,_,fM⟩|⟨Er,Rl,_⟩|Jh
   .exact absurd (Kd Er lJ) kF
   .exact Rl.imp id λx=>⟨x.1,by simp[Ek,hg,x.2]⟩
   .rw[zbs lJ] at Jh;cases Jh
 .rcases Hj ha with⟨_,fV⟩|⟨rfl,fV⟩
  .rcases h.all i a fV hm with⟨k',cU,hkn'⟩|hh|hs
   .exact .inl ⟨k',cU,hkn'.app _⟩
   .exact .inr (.inl (hh.app _))
   .exact .inr (.inr hs)
  .exact .inl ⟨k,hk,zfS hg⟩
 .rcases zdD Gc hc with⟨hi,hgi',kO⟩|⟨rfl,hgi'⟩
  .rcases h.over i g hgi' aU kO with⟨k',cU,hkn'⟩|hh|⟨j,hj,hb⟩
   .exact .inl ⟨k',cU,hkn'.app _⟩
   .exact .inr (.inl (hh.app _))
   .refine .inr (.inr ⟨j,?_,hb_app _ hb⟩)
    have uU:j<t.size:=by
     unfold Ek at hj;obtain⟨z,hz,_⟩:=zR.1 hj;exact zda hz
    rw[Tv uU];exact hj
  .exact .inl ⟨k,hk,zfS hg⟩
 .have aS:=zgi e
  simp only[Xc,B6,rG,wD] at aS;rcases qX i t.size with hi|hi
  .rw[zc2 hi] at e;exact h.norel i e
  .have:i=t.size:=aC
   subst this;exact hr (by simpa[zrX] using e)
 .rcases zwH.1 hop with hop|hop
  .exact h.low op hop
  simp_all
 .rw[Qq t (g':=k) aC _ (λop hop=>by simp at hop;rw[hop];exact hg)];exact h.above j hj
theorem TI.idle (h:TI Wg n own pas live Shun B t)(tG:y.g<n)
 (ht:∀a,y.act.touch? =some a->nQ a.loc Wg/\a.kind=.atomic/\0<gX t y.g/\∀k',live k'->¬own k' Wg/\¬pas k' Wg)
 (hr:y.act≠ .mark (.release (stA Wg))) (hl:y.act.low B):TI Wg n own pas live Shun B (t++ #[y]):=by
 have zey:∀a,y.act.touch? =some a->¬(t++ #[y]).heard t.size:=by
  rintro a ha ⟨g,hg,hd⟩;have:y.g=g:=by simpa[Ek] using hg
  rw[zdQ (bF _),<-this] at hd;have:=(ht a ha).2.2.1;unfold gX at this;omega
 refine⟨λsaid=>?_,λk' b cU hb i a ha lJ=>?_,λk' b cU hb i a ha lJ hw=>?_,λi a ha lJ=>?_,λi a ha hm=>?_,λi g Gc aU hc=>?_,λi e=>?_,λop hop=>?_,λj hj=>?_⟩
 .refine zwe (g:=y.g) (h.clean said) (λop hop=>by simp at hop;rw[hop]) λi a ha op hop b hb hc=>?_
  have:op=y:=by simpa using hop
  subst this;obtain⟨zcs,zBM,jT,gA⟩:=hc;obtain⟨lJ,Rl,_,_⟩:=ht b hb;have Pf:=h.grp i a ha (zcs▸lJ);simp_all
 .rcases Hj ha with⟨_,fV⟩|⟨rfl,fV⟩
  .exact(h.own k' b cU hb i a fV lJ).app _
  .obtain⟨Er,_,_,fM⟩:=ht a fV
   exact absurd (Kd lJ Er▸hb) (fM k' cU).1
 .rcases Hj ha with⟨_,fV⟩|⟨rfl,fV⟩
  .exact(h.pas k' b cU hb i a fV lJ hw).app _
  .obtain⟨Er,_,_,fM⟩:=ht a fV
   exact absurd (Kd lJ Er▸hb) (fM k' cU).2
 .rcases Hj ha with⟨hi,fV⟩|⟨rfl,fV⟩
  .exact(h.grp i a fV lJ).imp id λx=>⟨x.1,by rw[Tv hi];exact x.2⟩
  simp_all
 .rcases Hj ha with⟨_,fV⟩|⟨rfl,fV⟩
  .rcases h.all i a fV hm with⟨k',cU,hkn'⟩|hh|hs
   .exact .inl ⟨k',cU,hkn'.app _⟩
   .exact .inr (.inl (hh.app _))
   .exact .inr (.inr hs)
  simp_all
 .obtain⟨x,hx,zep,zI4⟩:=id hc
  rcases zdD Gc hc with⟨hi,hgi',kO⟩|⟨rfl,hgi'⟩
  .rcases h.over i g hgi' aU kO with⟨k',cU,hkn'⟩|hh|⟨j,hj,hb⟩
   .exact .inl ⟨k',cU,hkn'.app _⟩
   .exact .inr (.inl (hh.app _))
   .refine .inr (.inr ⟨j,?_,hb_app _ hb⟩)
    have uU:j<t.size:=by
     unfold Ek at hj;obtain⟨z,hz,_⟩:=zR.1 hj;exact zda hz
    rw[Tv uU];exact hj
  .have hy:y.act.touch? =some x:=by rw[<-zDI t y];exact hx
   simp_all
 .have aS:=zgi e
  simp only[Xc,B6,rG,wD] at aS;rcases qX i t.size with hi|hi
  .rw[zc2 hi] at e;exact h.norel i e
  .have:i=t.size:=aC
   subst this;exact hr (by simpa[zrX] using e)
 .rcases zwH.1 hop with hop|hop
  .exact h.low op hop
  simp_all
 .rw[Qq t (g':=y.g) aC _ (λop hop=>by simp at hop;rw[hop])];exact h.above j hj
theorem TI.release (h:TI Wg n own pas live Shun B t){k:Nat}(tG:k<n)(hg:y.g=k)(hy:y.act=.mark (.releaseMerge (stA Wg)))(hd:gX t k=0)
 (zlV:Wg<B) (nG:∀j,live' j->live j) (Iy:∀j,live j->live' j\/j=k):TI Wg n own pas live' Shun B (t++ #[y]):=by
 have h1:=h.idle (y:=y) aC (λa ha=>by rw[hy] at ha;simp[sJ] at ha) (by rw[hy];simp) (by rw[hy];exact zlV);have D9:(t++ #[y])[t.size]? =some y:=aN;have Fc:∀i,Ms t k i->Handed Wg (t++ #[y]) i:=λi hi=>
  ⟨t.size,by rw[act?_of D9,hy],⟨k,by simp[Ek,hg],by rw[zdQ (bF _)];exact hd⟩,.inr (hi.hb_new (bF _) D9 hg)⟩
 have zmQ:Handed Wg (t++ #[y]) t.size:=⟨t.size,by rw[act?_of D9,hy],⟨k,by simp[Ek,hg],by rw[zdQ (bF _)];exact hd⟩,.inl rfl⟩;refine⟨h1.clean,λk' b cU=>h1.own k' b (nG k' cU),λk' b cU=>h1.pas k' b (nG k' cU),h1.grp,λi a ha hm=>?_,λi g Gc aU hc=>?_,h1.norel,h1.low,h1.above⟩
 .rcases Hj ha with⟨_,fV⟩|⟨rfl,fV⟩
  .rcases h.all i a fV hm with⟨k',cU,hkn'⟩|hh|hs
   .rcases Iy k' cU with x|rfl
    .exact .inl ⟨k',x,hkn'.app _⟩
    simp_all
   .exact .inr (.inl (hh.app _))
   .exact .inr (.inr hs)
  simp_all
 .rcases zdD Gc hc with⟨hi,hgi',kO⟩|⟨rfl,hgi'⟩
  .rcases h.over i g hgi' aU kO with⟨k',cU,hkn'⟩|hh|⟨j,hj,hb⟩
   .rcases Iy k' cU with x|rfl
    .exact .inl ⟨k',x,hkn'.app _⟩
    simp_all
   .exact .inr (.inl (hh.app _))
   .refine .inr (.inr ⟨j,?_,hb_app _ hb⟩)
    have uU:j<t.size:=by
     unfold Ek at hj;obtain⟨z,hz,_⟩:=zR.1 hj;exact zda hz
    rw[Tv uU];exact hj
  simp_all
theorem TI.fork (h:TI Wg n own pas live Shun B t){x:Qm}(h0:live 0)(zHq:0<n)(hx:x.g=0/\x.act=.go n)(hy:y.g=n/\y.act=.start)(hd:gX t 0=0)
 (nG:∀j,live' j↔(live j\/j=n)) (zO:¬live n) (Tr:∀k b,live k->k≠0->own' k b->own k b) (zCF:∀k b,live k->k≠0->Yg k b->pas k b)
 (ho:∀b,own' 0 b\/own' n b->own 0 b) (hp:∀b,Yg 0 b\/Yg n b->own 0 b\/pas 0 b):TI Wg (n+1) own' Yg live' Shun B (t++ #[x,y]):=by
 have zzq:=h.above n (bF _);have e2:t++ #[x,y]=(t++ #[x])++ #[y]:=by apply Jq;simp
 have hn:TI Wg (n+1) own pas live Shun B t:=⟨h.clean,h.own,h.pas,h.grp,h.all,h.over,h.norel,h.low,λj hj=>h.above j aC⟩;have h1:=hn.idle (y:=x) (by rw[hx.1];omega) (λa ha=>by rw[hx.2] at ha;simp[sJ] at ha) (by rw[hx.2];simp) (by rw[hx.2];trivial);have h2:=h1.idle (y:=y) (by rw[hy.1];omega) (λa ha=>by rw[hy.2] at ha;simp[sJ] at ha) (by rw[hy.2];simp) (by rw[hy.2];trivial);rw[<-e2] at h2;have old:∀{i:Nat} {a:Touch},touchAt (t++ #[x,y]) i=some a->touchAt t i=some a:=by
  intro i a ha;rw[e2] at ha;rcases Hj ha with⟨_,fV⟩|⟨_,fV⟩
  .rcases Hj fV with⟨_,ha''⟩|⟨_,ha''⟩
   .exact ha''
   .rw[hx.2] at ha'';simp[sJ] at ha''
  .rw[hy.2] at fV;simp[sJ] at fV
 have fk:∀{i:Nat},Ms t 0 i->Ms (t++ #[x,y]) n i:=λ{i} hi=>Go.ConcN.fork_knows hx hy hd zzq hi;refine⟨h2.clean,λk b hk hb i a ha lJ=>?_,λk b hk hb i a ha lJ hw=>?_,h2.grp,λi a ha hm=>?_,λi g Gc aU hc=>?_,h2.norel,h2.low,h2.above⟩
 .rcases(nG k).1 hk with cU|rfl
  .by_cases lO:k=0
   .subst lO;exact h2.own 0 b h0 (ho b (.inl hb)) i a ha lJ
   .exact h2.own k b cU (Tr k b cU lO hb) i a ha lJ
  .exact fk (h.own 0 b h0 (ho b (.inr hb)) i a (old ha) lJ)
 .rcases(nG k).1 hk with cU|rfl
  .by_cases lO:k=0
   .subst lO
    exact(hp b (.inl hb)).elim (λz=>h2.own 0 b h0 z i a ha lJ) (λz=>h2.pas 0 b h0 z i a ha lJ hw)
   .exact h2.pas k b cU (zCF k b cU lO hb) i a ha lJ hw
  .exact(hp b (.inr hb)).elim (λz=>fk (h.own 0 b h0 z i a (old ha) lJ)) (λz=>fk (h.pas 0 b h0 z i a (old ha) lJ hw))
 .exact(h2.all i a ha hm).imp (λ⟨k,hk,tG⟩=>⟨k,(nG k).2 (.inl hk),tG⟩) id
 .exact(h2.over i g Gc aU hc).imp (λ⟨k,hk,tG⟩=>⟨k,(nG k).2 (.inl hk),tG⟩) id
theorem TI.acquire (h:TI Wg n own pas live Shun B t)(zHq:0<n)(hg:y.g=0)(hy:y.act=.mark (.acquire (stA Wg)))(hd:gX t 0=0)(zlV:Wg<B)(Iy:∀j,live j->j=0):
 Past (λl=>Shun l\/nQ l Wg) B (t++ #[y])/\∀j,n<=j->gX (t++ #[y]) j=0:=by
 have h1:=h.idle (y:=y) aC (λa ha=>by rw[hy] at ha;simp[sJ] at ha) (by rw[hy];simp) (by rw[hy];exact zlV);have D9:(t++ #[y])[t.size]? =some y:=aN;have hh:(t++ #[y]).heard t.size:=⟨0,by simp[Ek,hg],by rw[zdQ (bF _)];exact hd⟩;have got:∀i,i<t.size->Handed Wg t i->zhd (t++ #[y]) i t.size:=by
  rintro i hi ⟨r,j8,uH,Fj⟩;have Jd:=zgi j8;have zDU:zhd (t++ #[y]) r t.size:=.single (.inr ⟨.marked Jd (.inr (by rw[zc2 Jd];exact j8)) (by rw[act?_of D9,hy]) (λk qY qO=>h1.norel k),(ziG Jd).2 uH,hh⟩);exact(Fj.app _).hb zDU
 have zIR:∀i,zhd (t++ #[y]) i t.size->Ms (t++ #[y]) 0 i:=λi hb=>⟨t.size,y,D9,hg,.inr hb⟩;refine⟨⟨h1.clean,λi a ha hm=>?_,λi g Gc aU hc=>?_,?_,h1.low⟩,h1.above⟩
 .rcases Hj ha with⟨hi,fV⟩|⟨rfl,fV⟩
  .rcases h.all i a fV hm with⟨k,hk,tG⟩|hh|hs
   .have:=Iy k hk;subst this;exact .inl (tG.app _)
   .simp_all
   .exact .inr hs
  .rw[hy] at fV;simp[sJ] at fV
 .rcases zdD Gc hc with⟨hi,hgi',kO⟩|⟨rfl,hgi'⟩
  .rcases h.over i g hgi' aU kO with⟨k,hk,tG⟩|hh|⟨j,hj,hb⟩
   .have:=Iy k hk;subst this
    exact⟨t.size,by simp[Ek,hg],tG.hb_new (bF _) D9 hg⟩
   .exact⟨t.size,by simp[Ek,hg],got i hi hh⟩
   .refine⟨j,?_,hb_app _ hb⟩
    have uU:j<t.size:=by
     unfold Ek at hj;obtain⟨z,hz,_⟩:=zR.1 hj;exact zda hz
    rw[Tv uU];exact hj
  omega
 .rw[Deaf_push];simp[deafStep,hy,hd]
theorem TI.begin (hP:Past Shun B t)(hB:B<=B')(zai:∀j,n<=j->gX t j=0)(nG:∀j,live j↔j=0)(ho:∀b,own 0 b\/pas 0 b->∀l,nQ l b->¬Shun l)
 (hW:B<=Wg):TI Wg n own pas live Shun B' t:=by
 have pB:∀{i:Nat} {a:Touch} {b:Nat},touchAt t i=some a->nQ a.loc b->b<B:=λ{i a b} ha hb=>by
  obtain⟨op,ho,Kl⟩:=zhE ha;exact zoF (hP.seen op (zkb ho)) Kl hb
 refine⟨hP.clean,λk b hk hb i a ha lJ=>?_,λk b hk hb i a ha lJ hw=>?_,λi a ha lJ=>?_,λi a ha hm=>?_,λi g Gc aU hc=>.inr (.inr (hP.over i g Gc aU hc)),λk e=>?_,λop hop=>zxy hB (hP.seen op hop),zai⟩
 .have:=(nG k).1 hk;subst this
  rcases hP.known i a ha (zbs lJ) with x|⟨x,_⟩
  .exact x
  grind
 .have:=(nG k).1 hk;subst this
  rcases hP.known i a ha (zbs lJ) with x|⟨x,_⟩
  .exact x
  .grind
 .have:=pB ha lJ;omega
 .exact(hP.known i a ha hm).imp (λx=>⟨0,(nG 0).2 rfl,x⟩) λx=>.inr ⟨.inl x.1,x.2⟩
 .obtain⟨op,ho,Kl⟩:=zR.1 e
  have:=hP.seen op (zkb ho);rw[Kl] at this;simp only[Z4,stA] at this;omega
end
theorem upd_same {α:Type _}(f:Nat->α)(i:Nat)(x:α):bK f i x i=x:=by simp[bK]
theorem upd_ne {α:Type _}(f:Nat->α){j:Nat}(x:α)(h:j≠i):bK f i x j=f j:=by simp[bK,h]
section
variable {L:Type}
def Ph.live:Ph L->Prop| .usr _| .w1 _| .w2 _| .w3| .w4| .w5=>True|_=>False
def Ph.waits:Ph L->Prop| .w1 _| .w2 _| .w3| .w4| .w5=>True|_=>False
def Ph.pre:Ph L->Bool| .usr _| .rel _=>true|_=>false
def Ph.last:Ph L->Prop| .l1 _| .l2 _| .l3 _=>True|_=>False
structure Td (L:Type) where
 ph:Ph L
 r:Cp
 τ:cH
 g:bD
def o9 (p:Nat->Ph L):Nat->Nat
 |0=>0
 |n+1=>o9 p n+(if n≠0/\(p n).pre=true then 1 else 0)
def Aa (A:jM L)(p:Nat->Ph L):Nat:=match p 0 with| .usr l=>if A.pend l then 1 else 0|_=>0
def vv (A:jM L)(p:Nat->Ph L)(n:Nat):Nat:=o9 p n+Aa A p
def gK (A:jM L)(ty:aM)(Wg:Nat)(p:Nat->Ph L)(n:Nat)(w:aE):Prop:=
 match p 0 with
 | .usr _=>jL ty Wg w (vv A p n*KK) 0/\∀i,¬(p i).last
 | .w1 b=>jL ty Wg w (vv A p n*KK) 0/\(∀i,¬(p i).last)/\vv A p n<b
 | .w2 vs=>jL ty Wg w (vv A p n*KK) 0/\(∀i,¬(p i).last)/\vv A p n<=vs/\0<vs
 | .w3=>(0<vv A p n/\jL ty Wg w (vv A p n*KK+1) 0/\∀i,¬(p i).last)\/
  (vv A p n=0/\∃i l,(∀j,(p j).last->j=i)/\(((p i=.l1 l\/p i=.l2 l)/\jL ty Wg w 1 0)\/(p i=.l3 l/\jL ty Wg w 0 0)))\/
  (vv A p n=0/\(∀i,¬(p i).last)/\jL ty Wg w 0 1)
 | .w4| .w5=>vv A p n=0/\(∀i,¬(p i).last)/\jL ty Wg w 0 0
 |_=>False
theorem zyd (p:Nat->Ph L){i n:Nat}(x:Ph L)(h:n<=i):o9 (bK p i x) n=o9 p n:=by
 induction n with
 |zero=>rfl
 |succ n ih=>simp only[o9,ih aC,upd_ne p x (show n≠i by omega)]
theorem ze2 (p:Nat->Ph L)(n:Nat)(x:Ph L):o9 (bK p 0 x) n=o9 p n:=by
 induction n with
 |zero=>rfl
 |succ n ih=>
  simp only[o9,ih];by_cases h:n=0
  .simp[h]
  .rw[upd_ne p x h]
theorem zhc (p:Nat->Ph L){i n:Nat}(x:Ph L)(h:i<n)(h0:i≠0):o9 (bK p i x) n+(if(p i).pre=true then 1 else 0)=o9 p n+(if x.pre=true then 1 else 0):=by
 induction n with
 |zero=>omega
 |succ n ih=>
  simp only[o9];by_cases hi:i=n
  .subst hi
   rw[zyd p x (bF _),upd_same]
   grind
  .have:=ih aC
   rw[upd_ne p x (show n≠i from λe=>hi e.symm)];omega
theorem pre_le (ph:Ph L)(q:Prop)[Decidable q]:(if q/\ph.pre=true then 1 else 0)<=ph.proj.c:=by
 cases ph<;>simp[Ph.pre,Ph.proj,Pj.c]
 all_goals(split<;>omega)
theorem zCl (A:jM L)(p:Nat->Ph L)(n:Nat)(h:0<n):vv A p n<=num (λi=>(p i).proj) n:=by
 have key:∀n,0<n->o9 p n+(p 0).proj.c<=num (λi=>(p i).proj) n:=by
  intro n
  induction n with
  |zero=>omega
  |succ n ih=>
   intro _;by_cases hn:n=0
   .subst hn;simp[o9,num]
   .have:=ih aC
    have h2:=pre_le (p n) (n≠0);simp only[o9,num];omega
 have h1:=key n h;have h2:Aa A p<=(p 0).proj.c:=by
  unfold Aa;cases p 0<;>simp only[Ph.proj,Pj.c]<;>first|omega|(split<;>omega)
 unfold vv;omega
def l9 (x g:bD):Prop:=x.status=.running/\x.frame=g.frame/\x.callers=g.callers/\x.dying=g.dying
def l9.self {g:bD}(h:g.status=.running):l9 g g:=⟨h,rfl,rfl,rfl⟩
def l9.step {P:bZ}{main:Bool}{x g:bD}(h:l9 x g)(w:aE):stepG P main x w=stepG P main g w:=stepG_same h.2.1 h.2.2.1 h.2.2.2 w
variable (P:bZ)(ty:aM)(Wg:Nat)(A:jM L)(Fin:bD->aE->Prop)
def zdF (main:Bool)(T:Td L)(x:bD)(w:aE):Prop:=
 ∃l cs sh,T.ph=.usr l/\x=parked T.g cs sh/\(∀aJ,bX ty Wg T.τ w aJ->stepG P main T.g aJ=.comm T.g cs true sh aJ #[])/\
  ((∃c ok pub nx v z,A.act l=.send c ok pub nx/\cs=#[scase c v z]/\sh=.send)\/(∃c ok nx s z b,A.act l=.recv c ok nx s/\cs=#[rcase c z]/\sh=.recv b))
def zkI (T:Td L)(x:bD):Prop:=T.ph=.w3/\x={T.g with status:=.blocked}/\T.g.offers=none
def Sits (i:Nat)(T:Td L)(d:Nat)(x:bD)(w:aE):Prop:=
 match T.ph with
 | .gone| .quit _=>∃q,T.r=.inl q/\QuitsD P q d x
 |_=>∃r,T.r=.inr r/\pI P ty Wg A Fin r (i==0) T.ph d T.τ T.g w/\(l9 x T.g\/zdF P ty Wg A (i==0) T x w\/zkI T x)
def Ph.leaves:Ph L->Prop| .gone| .quit _=>True|_=>False
theorem H8 {P:bZ}{ty:aM}{Wg:Nat}{A:jM L}{Fin:bD->aE->Prop}{i:Nat}{T:Td L}{d:Nat}{x:bD}{w:aE}(h:T.ph.leaves):
 Sits P ty Wg A Fin i T d x w↔∃q,T.r=.inl q/\QuitsD P q d x:=by
 obtain⟨ph,r,τ,g⟩:=T;cases ph<;>first|exact Iff.rfl|exact h.elim
theorem pN {P:bZ}{ty:aM}{Wg:Nat}{A:jM L}{Fin:bD->aE->Prop}{i:Nat}{T:Td L}{d:Nat}{x:bD}{w:aE}(h:¬T.ph.leaves):
 Sits P ty Wg A Fin i T d x w↔∃r,T.r=.inr r/\pI P ty Wg A Fin r (i==0) T.ph d T.τ T.g w/\(l9 x T.g\/zdF P ty Wg A (i==0) T x w\/zkI T x):=by
 obtain⟨ph,r,τ,g⟩:=T;cases ph<;>first|exact Iff.rfl|exact absurd trivial h
variable {P:bZ}{ty:aM}{Wg:Nat}{A:jM L}{Fin:bD->aE->Prop}
theorem zqm (a a' g:bD)(cs:Array zmS)(sh:Nb)(w:aE):woken P a a' w (parked g cs sh)=parked g cs sh\/woken P a a' w (parked g cs sh)={parked g cs sh with status:=.running}:=by
 unfold woken;split
 .unfold zgK
  grind
 .exact .inl rfl
def woken_running {a a' x:bD}{w:aE}(h:x.status=.running):woken P a a' w x=x:=woken_run h
theorem Sits.other {i:Nat}{T:Td L}{d:Nat}{x:bD}{w w':aE}(h:Sits P ty Wg A Fin i T d x w)(s:bX ty Wg T.τ w w')(a a':bD):Sits P ty Wg A Fin i T d (woken P a a' w' x) w':=by
 by_cases hl:T.ph.leaves
 .rw[H8 hl] at h⊢
  obtain⟨q,hq,hQ⟩:=h;exact⟨q,hq,by rw[zcJ hQ];exact hQ⟩
 .rw[pN hl] at h⊢
  obtain⟨r,hr,hB,hx⟩:=h;refine⟨r,hr,hB.rely s,?_⟩;rcases hx with hx|⟨l,cs,sh,h1,rfl,h3,h4⟩|⟨h1,rfl,h3⟩
  .rw[woken_running hx.1];exact .inl hx
  .rcases zqm (P:=P) a a' T.g cs sh w' with e|e
   .rw[e];exact .inr (.inl ⟨l,cs,sh,h1,rfl,λaJ lQ=>h3 aJ (s.trans lQ),h4⟩)
   .rw[e];exact .inl ⟨rfl,rfl,rfl,rfl⟩
  .unfold woken
   split
   .left
    simp only[zgK,h3];exact⟨rfl,rfl,rfl,rfl⟩
   .exact .inr (.inr ⟨h1,rfl,h3⟩)
theorem Sits.rely {i:Nat}{T:Td L}{d:Nat}{x:bD}{w w':aE}(h:Sits P ty Wg A Fin i T d x w)(s:bX ty Wg T.τ w w'):Sits P ty Wg A Fin i T d x w':=by
 by_cases hl:T.ph.leaves
 .rw[H8 hl] at h⊢;exact h
 .rw[pN hl] at h⊢
  obtain⟨r,hr,hB,hx⟩:=h;refine⟨r,hr,hB.rely s,hx.imp id (Or.imp ?_ id)⟩;rintro⟨l,cs,sh,h1,h2,h3,h4⟩;exact⟨l,cs,sh,h1,h2,λaJ lQ=>h3 aJ (s.trans lQ),h4⟩
theorem Sits.status {i:Nat}{T:Td L}{d:Nat}{x:bD}{w:aE}(h:Sits P ty Wg A Fin i T d x w):x.status=.running\/x.status=.finished\/x.status=.blocked:=by
 by_cases hl:T.ph.leaves
 .rw[H8 hl] at h
  obtain⟨q,hq,hQ⟩:=h;exact hQ.status.imp id .inl
 .rw[pN hl] at h
  obtain⟨r,hr,hB,hx|⟨l,cs,sh,h1,rfl,h3,h4⟩|⟨h1,rfl,h3⟩⟩:=h
  .exact .inl hx.1
  .exact .inr (.inr rfl)
  simp_all
structure Stat (n:Nat)(w:aE)(T:Nat->Td L)(ch:rJ):Prop where
 n0:0<n
 ou:∀i,n<=i->(T i).ph=.gone
 role0:(T 0).ph.live
 role:∀i,i≠0->¬(T i).ph.waits
 nil:∀i,(T i).ph=.gone->∀b,¬(T i).τ.own b/\¬(T i).τ.still b/\¬(T i).τ.pass b
 sep:∀i j b,i≠j->(T i).τ.own b->¬(T j).τ.own b/\¬(T j).τ.still b/\¬(T j).τ.pass b
 bnd:∀i b,(T i).τ.own b\/(T i).τ.still b->b<w.heap.size/\b≠Wg/\ch b=none
 pas:∀i b,(T i).τ.pass b->b<w.heap.size/\b≠Wg
 depo:∀i l,(T i).ph.proj=.over l->∀aJ,bX ty Wg (T i).τ w aJ->A.dep l aJ
 chan:∀c b,ch c=some b->c≠Wg/\∃s r,w.heap[c]? =some (.chan 0 #[] b s r false)
 grp:gK A ty Wg (λi=>(T i).ph) n w
 inv:A.Inv (λi=>(T i).ph.proj) ch
structure F0 (gs:Array bD)(w:aE)(t:mQ)(T:Nat->Td L)(ch:rJ)(Shun:rC->Prop):Prop where
 sit:∀(i:Nat) (x:bD),gs[i]? =some x->Sits P ty Wg A Fin i (T i) (gX t i) x w
 slp:∀(i j:Nat) (gi gj:bD) (c:Nat) (v z z':aF) (sh xC:Nb),gs[i]? =some (parked gi #[scase c v z] sh)->gs[j]? =some (parked gj #[rcase c z'] xC)->False
 slpC:∀(i:Nat) (gi:bD) (c:Nat) (z:aF) (sh:Nb),gs[i]? =some (parked gi #[rcase c z] sh)->ch c≠some true
 slpW:∀(x:bD),gs[0]? =some x->(T 0).ph=.w3->x.status=.blocked->¬jL ty Wg w 0 1
 tr:TI Wg gs.size (λi=>(T i).τ.own) (λi b=>(T i).τ.still b\/(T i).τ.pass b) (λi=>(T i).ph.live) Shun w.heap.size t
def Mm (g:bD):Bool:=match g.status with| .running=>true|_=>false
def mu (gs:Array bD)(T:Nat->Td L):Mu:=(gs.size,λj=>if j<gs.size then(T j).r else .inl (gs.countP Mm))
end
section
variable {L:Type}{P:bZ}{ty:aM}{Wg:Nat}{A:jM L}{Fin:bD->aE->Prop}
variable {fn:aQ}{pos:String}{es:Array rK}
theorem zyT {g:Nat}{op:Qm}(h:op∈wO g fn pos es):op.g=g:=by
 rw[Wk] at h
 grind
def OkL (Wg:Nat)(own pas:Nat->Prop)(k B:Nat)(e:rK):Prop:=
 (∀a,(jN e).touch? =some a->(∃b,b≠Wg/\nQ a.loc b/\(own b\/(pas b/\a.write=false)))\/(nQ a.loc Wg/\(a.kind=.atomic\/(a.kind=.said/\k=0)))\/a.loc.isMemory=false)/\
 jN e≠ .mark (.release (stA Wg))/\(jN e).low B
theorem TI.events {n:Nat}{own pas:Nat->Nat->Prop}{live:Nat->Prop}{Shun:rC->Prop}{B:Nat}{k:Nat}(hk:live k)(tG:k<n)
 (hs:∀k' b,live k'->k'≠k->own k b->¬own k' b/\¬pas k' b) (hp:∀k' b,live k'->k'≠k->pas k b->¬own k' b) (hW:∀k',live k'->¬own k' Wg/\¬pas k' Wg)
 (fn:aQ) (pos:String):∀(es:List rK) {t:mQ},TI Wg n own pas live Shun B t->(∀e∈es,OkL Wg (own k) (pas k) k B e)->TI Wg n own pas live Shun B (t++wO k fn pos es.toArray)
 |[],t,h,_=>by simpa[wO] using h
 |e::es,t,h,yD=>by
  have e1:t++wO k fn pos (e::es).toArray=(t++ #[{g:=k,fn,pos,act:=.ofEvent e}])++wO k fn pos es.toArray:=by
   rw[Wk,Wk];apply Jq;simp
  rw[e1];obtain⟨h1,h2,h3⟩:=yD e aN;refine TI.events hk tG hs hp hW fn pos es (h.push hk tG rfl (λa ha=>?_) h2 h3) λe' Nh=>yD e' (by simp[Nh])
  grind
variable {e:rK}
theorem okL_evT {own still pas:Nat->Prop}{k B:Nat}(h:EvT Wg (k==0) own still e)(Jv:∀b,still b->pas b)(hb:∀b,own b\/still b->b<B/\b≠Wg)(hW:Wg<B):OkL Wg own pas k B e:=by
 obtain⟨loc,w,sy⟩:=e
 cases loc with
 |cell a=>
  simp only[EvT] at h;refine⟨λx hx=>?_,by simp[jN],?_⟩
  .simp only[jN,sJ,jP] at hx
   subst hx;exact .inl ⟨a.block,(hb _ (h.imp id (·.1))).2,rfl,h.imp id λx=>⟨Jv _ x.1,x.2⟩⟩
  .exact(hb _ (h.imp id (·.1))).1
 |obj r=>
  simp only[EvT] at h
  cases w<;>cases sy<;>refine⟨λx hx=>?_,by simp[jN],(hb _ (h.imp id (·.1))).1⟩<;>simp only[jN,sJ,jP,reduceCtorEq] at hx<;>
   (subst hx;exact .inl ⟨r,(hb _ (h.imp id (·.1))).2,rfl,h.imp id λx=>⟨Jv _ x.1,x.2⟩⟩)
 |output=>exact h.elim
 |goroutines=>exact h.elim
 |mark m=>
  cases m<;>simp only[EvT] at h<;>try exact h.elim
  case read a=>
   refine⟨λx hx=>?_,by simp[jN],by simpa[jN,Z4,h.2] using hW⟩;simp only[jN,sJ,jP] at hx;subst hx;exact .inr (.inl ⟨h.2,.inr ⟨rfl,by simpa using h.1⟩⟩)
  case write a=>
   refine⟨λx hx=>?_,by simp[jN],by simpa[jN,Z4,h.2] using hW⟩;simp only[jN,sJ,jP] at hx;subst hx;exact .inr (.inl ⟨h.2,.inr ⟨rfl,by simpa using h.1⟩⟩)
  all_goals exact⟨λx hx=>by simp[jN,sJ] at hx,by simp[jN],by simp[jN,Z4]⟩
theorem zf5 {own pas:Nat->Prop}{k B:Nat}{a:bC}{b:Bool}(ha:a.block=Wg)(hW:Wg<B):OkL Wg own pas k B ⟨.cell a,b,true⟩:=by
 refine⟨λx hx=>?_,by simp[jN],by simpa[jN,Z4,rC.low,ha] using hW⟩;simp only[jN,sJ,jP] at hx;subst hx;exact .inr (.inl ⟨ha,.inl rfl⟩)
theorem zhi {own pas:Nat->Prop}{k B:Nat}(h:e.mute=true):OkL Wg own pas k B e:=by
 refine⟨λx hx=>(by rw[znm h] at hx;cases hx),?_,low_mute h B⟩;obtain⟨loc,w,sy⟩:=e;cases loc<;>simp_all [zfZ];rename_i m;cases m<;>simp_all [jN]
theorem TI.deafs {n:Nat}{own pas:Nat->Nat->Prop}{live:Nat->Prop}{Shun:rC->Prop}{B:Nat}{k:Nat}(tG:k<n)(hW:∀k',live k'->¬own k' Wg/\¬pas k' Wg)
 (fn:aQ) (pos:String):∀(es:List rK) {t:mQ},TI Wg n own pas live Shun B t->
  (∀(l r:List rK) (e:rK),es=l++e::r->(∀a,(jN e).touch? =some a->nQ a.loc Wg/\a.kind=.atomic/\0<oK (gX t k) l.toArray)/\jN e≠ .mark (.release (stA Wg))/\(jN e).low B)->
  TI Wg n own pas live Shun B (t++wO k fn pos es.toArray)
 |[],t,h,_=>by simpa[wO] using h
 |e::es,t,h,yD=>by
  have e1:t++wO k fn pos (e::es).toArray=(t++ #[{g:=k,fn,pos,act:=.ofEvent e}])++wO k fn pos es.toArray:=by
   rw[Wk,Wk];apply Jq;simp
  rw[e1];obtain⟨h1,h2,h3⟩:=yD [] es e rfl;refine TI.deafs tG hW fn pos es (h.idle tG (λa ha=>⟨(h1 a ha).1,(h1 a ha).2.1,(h1 a ha).2.2,hW⟩) h2 h3) λl r e' Nh=>?_;have hd:gX (t++ #[({g:=k,fn,pos,act:=.ofEvent e}:Qm)]) k=oK (gX t k) #[e]:=by
   have:=zlL t k fn pos #[e];rw[Wk] at this;simpa using this
  have:=yD (e::l) r e' (by rw[Nh];rfl);rw[hd];refine⟨λa ha=>⟨(this.1 a ha).1,(this.1 a ha).2.1,?_⟩,this.2⟩;have h5:=(this.1 a ha).2.2
  rwa [zrL] at h5
variable {t:mQ}
theorem TI.mutes {n:Nat}{own pas:Nat->Nat->Prop}{live:Nat->Prop}{Shun:rC->Prop}{B:Nat}{k:Nat}(h:TI Wg n own pas live Shun B t)(tG:k<n)(hW:∀k',live k'->¬own k' Wg/\¬pas k' Wg)
 (fn:aQ) (pos:String)  (yD:∀e∈es,zfZ e=true):TI Wg n own pas live Shun B (t++wO k fn pos es):=by
 obtain⟨l⟩:=es;refine h.deafs tG hW fn pos l λx r e he=>?_;have hm:=yD e (by simp[he]);have:=zhi (Wg:=Wg) (own:=own k) (pas:=pas k) (k:=k) (B:=B) hm;exact⟨λa ha=>(by rw[znm hm] at ha;cases ha),this.2.1,this.2.2⟩
theorem Xg {gs gs':Array bD}{T T':Nat->Td L}{i:Nat}(hs:i≠0->gs'.size=gs.size)(h0:0<gs'.size)(hi:i<gs.size)(lU:i<gs'.size)(hc:Cl (T' i).r (T i).r)(he:∀j,j<i->(T' j).r=(T j).r):Mu.lt (mu gs' T') (mu gs T):=by
 refine⟨i,by simp only[mu];omega,?_,λj hj=>?_,λh=>by simpa[mu] using hs h⟩
 .simp only[mu,if_pos hi,if_pos lU];exact hc
 .simp only[mu,if_pos (show j<gs.size by omega),if_pos (show j<gs'.size by omega)];exact he j hj
theorem mu_dec' {gs gs':Array bD}{T:Nat->Td L}(hs:gs'.size=gs.size)(hc:gs'.countP Mm<gs.countP Mm):Mu.lt (mu gs' T) (mu gs T):=by
 refine⟨gs.size,by simp[mu],?_,λj hj=>?_,λh=>by simpa[mu] using hs⟩
 .simp only[mu,hs,Ij,if_false]
  exact .inl hc
 .simp only[mu,hs,if_pos hj]
theorem F0.go {gs:Array bD}{w w':aE}{T:Nat->Td L}{ch vZ:rJ}{Shun:rC->Prop}(h:F0 (P:=P) (ty:=ty) (Wg:=Wg) (A:=A) (Fin:=Fin) gs w t T ch Shun){i:Nat}{x g':bD}{Ti:Td L}
 (hi:gs[i]? =some x) (ziF:Sits P ty Wg A Fin i Ti (oK (gX t i) es) g' w') (nX:g'.status≠ .blocked) (zmL:∀j,j≠i->bX ty Wg (T j).τ w w')
 (hC:∀(j:Nat) (gj:bD) (c:Nat) (z:aF) (sh:Nb),gs[j]? =some (parked gj #[rcase c z] sh)->woken P x g' w' (parked gj #[rcase c z] sh)=parked gj #[rcase c z] sh->vZ c≠some true)
 (hW:i≠0->∀x0,gs[0]? =some x0->(T 0).ph=.w3->x0.status=.blocked->(woken P x g' w' x0).status=.blocked->¬jL ty Wg w' 0 1)
 (zk3:TI Wg gs.size (λk=>(bK T i Ti k).τ.own) (λk b=>(bK T i Ti k).τ.still b\/(bK T i Ti k).τ.pass b) (λk=>(bK T i Ti k).ph.live) Shun w'.heap.size (t++wO i fn pos es)):
 F0 (P:=P) (ty:=ty) (Wg:=Wg) (A:=A) (Fin:=Fin) ((gs.map (woken P x g' w')).setIfInBounds i g') w' (t++wO i fn pos es) (bK T i Ti) vZ Shun:=by
 have aS:i<gs.size:=(eB.1 hi).1;have get:∀(j:Nat) (y:bD),((gs.map (woken P x g' w')).setIfInBounds i g')[j]? =some y->(j=i/\y=g')\/(j≠i/\∃y0,gs[j]? =some y0/\y=woken P x g' w' y0):=by
  intro j y hj;by_cases fI:i=j
  .simp_all
  .grind
 have back:∀(j:Nat) (gj:bD) (cs:Array zmS) (sh:Nb),((gs.map (woken P x g' w')).setIfInBounds i g')[j]? =some (parked gj cs sh)->gs[j]? =some (parked gj cs sh)/\woken P x g' w' (parked gj cs sh)=parked gj cs sh:=by
  intro j gj cs sh hj;rcases get j _ hj with⟨_,e⟩|⟨aU,y0,h0,e⟩
  .exact absurd (by rw[<-e];rfl) nX
  .have hs:=h.sit j y0 h0
   by_cases hl:(T j).ph.leaves
   .rw[H8 hl] at hs
    obtain⟨q,_,hQ⟩:=hs;rw[zcJ hQ] at e
    grind
   .rw[pN hl] at hs
    obtain⟨r,_,_,hx|⟨l,Uq,xC,_,rfl,_,_⟩|⟨_,rfl,ho⟩⟩:=hs
    .rw[woken_running hx.1] at e
     grind
    .rcases zqm (P:=P) x g' (T j).g Uq xC w' with e2|e2
     .simp_all
     .rw[e2] at e
      have:(parked gj cs sh).status=.running:=by rw[e]
      simp[parked] at this
    .have:(parked gj cs sh).offers=none:=by
      rw[e];unfold woken;split
      .simp[zgK,ho]
      .exact ho
     simp[parked] at this
 refine⟨λj y hj=>?_,λa b ga gb c v z z' sh xC ha hb=>?_,λj gj c z sh hj=>?_,λy hy yT aY=>?_,by simpa using zk3⟩
 .rcases get j y hj with⟨rfl,rfl⟩|⟨aU,y0,h0,rfl⟩
  .rw[upd_same,zlL];exact ziF
  .rw[upd_ne T Ti aU,Qq t (g':=i) (λe=>aU e.symm) (wO i fn pos es) (λop hop=>zyT hop)]
   exact(h.sit j y0 h0).other (zmL j aU) _ _
 .exact h.slp a b ga gb c v z z' sh xC (back a ga _ _ ha).1 (back b gb _ _ hb).1
 .grind
 .rcases get 0 y hy with⟨e,rfl⟩|⟨aU,y0,h0,rfl⟩
  .exact absurd aY nX
  .rw[upd_ne T Ti aU] at yT
   have hb:y0.status=.blocked:=by
    rcases(h.sit 0 y0 h0).status with hs|hs|hs
    .rw[woken_running hs,hs] at aY;cases aY
    .unfold woken at aY
     split at aY
     .rw[again_running _ (.inr hs),hs] at aY;cases aY
     omega
    .exact hs
   grind
end
section
variable {L:Type}{P:bZ}{ty:aM}{Wg:Nat}{A:jM L}{Fin:bD->aE->Prop}
theorem bX.of_aside {τ:cH}{c:Nat}{w w':aE}(h:Lg c w w')(hc:¬τ.own c/\¬τ.still c)(hl:WgLive ty Wg w->WgLive ty Wg w'):bX ty Wg τ w w':=
 ⟨h.tape,h.os,h.output,Nat.le_of_eq h.size.symm,λb hb=>h.block b (λe=>by subst e;exact hb.elim hc.1 hc.2),hl⟩
def Xd {c:Nat}{w w':aE}(h:Lg c w w')(hc:c≠Wg):WgLive ty Wg w->WgLive ty Wg w':=λ⟨a,b,x⟩=>⟨a,b,(h.block Wg (λe=>hc e.symm)).trans x⟩
theorem gK.live {p:Nat->Ph L}{n:Nat}{w:aE}(h:gK A ty Wg p n w):WgLive ty Wg w:=by
 unfold gK at h;split at h
 .exact⟨_,_,h.1⟩
 .exact⟨_,_,h.1⟩
 .exact⟨_,_,h.1⟩
 .rcases h with⟨_,h,_⟩|⟨_,_,_,_,⟨_,h⟩|⟨_,h⟩⟩|⟨_,_,h⟩<;>exact⟨_,_,h⟩
 .exact⟨_,_,h.2.2⟩
 .exact⟨_,_,h.2.2⟩
 .exact h.elim
theorem WgLive.lt {w:aE}(h:WgLive ty Wg w):Wg<w.heap.size:=by
 obtain⟨_,_,h⟩:=h;exact(eB.1 h).1
theorem gK.of_block {p:Nat->Ph L}{n:Nat}{w w':aE}(h:gK A ty Wg p n w)(e:w'.heap[Wg]? =w.heap[Wg]?):gK A ty Wg p n w':=by
 have key:∀a b,jL ty Wg w a b->jL ty Wg w' a b:=λa b x=>e.trans x;unfold gK at*;split
 all_goals(rename_i hp;simp only[hp] at h)
 .simp_all
 .simp_all
 .exact⟨key _ _ h.1,h.2⟩
 .exact h.imp (λx=>⟨x.1,key _ _ x.2.1,x.2.2⟩) (Or.imp (λ⟨a,i,l,b,c⟩=>⟨a,i,l,b,c.imp (λx=>⟨x.1,key _ _ x.2⟩) (λx=>⟨x.1,key _ _ x.2⟩)⟩) λx=>⟨x.1,x.2.1,key _ _ x.2.2⟩)
 .simp_all
 simp_all
theorem Yl (T:Nat->Td L)(i:Nat)(Ti:Td L):(λj=>(bK T i Ti j).ph.proj)=bK (λj=>(T j).ph.proj) i Ti.ph.proj:=by
 funext j;by_cases h:j=i
 .subst h;simp[upd_same]
 .simp[upd_ne _ _ h]
theorem U7 (T:Nat->Td L)(i:Nat)(Ti:Td L):(λj=>(bK T i Ti j).ph)=bK (λj=>(T j).ph) i Ti.ph:=by
 funext j;by_cases h:j=i
 .subst h;simp[upd_same]
 .simp[upd_ne _ _ h]
theorem zfe {α:Type _}(f:Nat->α)(i:Nat):bK f i (f i)=f:=by
 funext j;by_cases h:j=i
 .subst h;simp[upd_same]
 .simp[upd_ne _ _ h]
variable {ch:rJ}
theorem Stat.same {n:Nat}{w:aE}{T T':Nat->Td L}(h:Stat (ty:=ty) (Wg:=Wg) (A:=A) n w T ch)(hp:∀j,(T' j).ph=(T j).ph)(ht:∀j,(T' j).τ=(T j).τ):Stat (ty:=ty) (Wg:=Wg) (A:=A) n w T' ch:=by
 have e1:(λj=>(T' j).ph)=λj=>(T j).ph:=funext hp;have e2:(λj=>(T' j).ph.proj)=λj=>(T j).ph.proj:=funext λj=>by rw[hp]
 refine⟨h.n0,λi hi=>(hp i).trans (h.ou i hi),by rw[hp];exact h.role0,λi hi=>by rw[hp];exact h.role i hi,λi hi=>by rw[ht];rw[hp] at hi;exact h.nil i hi,λi j b sM hb=>by rw[ht] at hb⊢;exact h.sep i j b sM hb,
  λi b hb=>by rw[ht] at hb;exact h.bnd i b hb,λi b hb=>by rw[ht] at hb;exact h.pas i b hb,λi l hi=>by rw[ht];rw[hp] at hi;exact h.depo i l hi,h.chan,by rw[e1];exact h.grp,by rw[e2];exact h.inv⟩
theorem Stat.suf {n:Nat}{w w':aE}{T:Nat->Td L}(h:Stat (ty:=ty) (Wg:=Wg) (A:=A) n w T ch){i:Nat}(g:Ao (T i).τ.own w w'){j:Nat}(hj:j≠i):bX ty Wg (T j).τ w w':=by
 have hl:WgLive ty Wg w->WgLive ty Wg w':=λx=>by
  obtain⟨a,b,hx⟩:=id x;exact⟨a,b,(g.keep Wg x.lt λe=>((h.bnd i Wg (.inl e)).2.1 rfl)).trans hx⟩
 refine⟨g.tape,g.os,g.output,g.size,λb hb=>g.keep b (h.bnd j b hb).1 λe=>?_,hl⟩;have:=h.sep i j b (λe=>hj e.symm) e;simp_all
theorem Stat.grow {n:Nat}{w w':aE}{T:Nat->Td L}(h:Stat (ty:=ty) (Wg:=Wg) (A:=A) n w T ch){i:Nat}(nG:(T i).ph.live)(g:Ao (T i).τ.own w w')(r:Cp)(g':bD):
 Stat (ty:=ty) (Wg:=Wg) (A:=A) n w' (bK T i ⟨(T i).ph,r,(T i).τ.grow w w',g'⟩) ch:=by
 have hp:∀j,(bK T i ⟨(T i).ph,r,(T i).τ.grow w w',g'⟩ j).ph=(T j).ph:=λj=>by
  by_cases hj:j=i
  .subst hj;simp[upd_same]
  .simp[upd_ne _ _ hj]
 have e1:(λj=>(bK T i ⟨(T i).ph,r,(T i).τ.grow w w',g'⟩ j).ph)=λj=>(T j).ph:=funext hp;have e2:(λj=>(bK T i ⟨(T i).ph,r,(T i).τ.grow w w',g'⟩ j).ph.proj)=λj=>(T j).ph.proj:=funext λj=>by rw[hp]
 have hs:=g.size;have zjq:w'.heap[Wg]? =w.heap[Wg]? :=g.keep Wg h.grp.live.lt λe=>((h.bnd i Wg (.inl e)).2.1 rfl);have zAf:∀c b,ch c=some b->c<w.heap.size:=λc b hc=>by
  obtain⟨_,s,r,hh⟩:=h.chan c b hc
  grind
 refine⟨h.n0,λj hj=>(hp j).trans (h.ou j hj),by rw[hp];exact h.role0,λj hj=>by rw[hp];exact h.role j hj,λj hj b=>?_,λa j b sM hb=>?_,λj b hb=>?_,λj b hb=>?_,λj l hj=>?_,λc b hc=>?_,by rw[e1];exact h.grp.of_block zjq,by rw[e2];exact h.inv⟩
 .rw[hp] at hj
  by_cases fI:j=i
  .subst fI;rw[hj] at nG;exact nG.elim
  .rw[upd_ne _ _ fI];exact h.nil j hj b
 .by_cases Q7:a=i
  .subst Q7
   have fI:j≠a:=λe=>sM e.symm;rw[upd_same] at hb;rw[upd_ne _ _ fI];rcases hb with hb|⟨hb,_⟩
   .exact h.sep a j b sM hb
   .exact⟨λe=>by have:=(h.bnd j b (.inl e)).1;omega,λe=>by have:=(h.bnd j b (.inr e)).1;omega,λe=>by have:=(h.pas j b e).1;omega⟩
  .rw[upd_ne _ _ Q7] at hb
   by_cases fI:j=i
   .subst fI
    rw[upd_same];have:=h.sep a j b sM hb;exact⟨λe=>e.elim this.1 λx=>by have:=(h.bnd a b (.inl hb)).1;omega,this.2⟩
   .rw[upd_ne _ _ fI];exact h.sep a j b sM hb
 .by_cases fI:j=i
  .subst fI
   rw[upd_same] at hb;rcases hb with(hb|⟨hb,bU⟩)|hb
   .have:=h.bnd j b (.inl hb);grind
   .refine⟨bU,λe=>by simp_all,?_⟩
    cases hc:ch b with
    |none=>rfl
    |some x=>grind
   .have:=h.bnd j b (.inr hb);grind
  .rw[upd_ne _ _ fI] at hb
   have:=h.bnd j b hb;grind
 .by_cases fI:j=i
  .subst fI
   rw[upd_same] at hb;have:=h.pas j b hb;omega
  .rw[upd_ne _ _ fI] at hb
   have:=h.pas j b hb;omega
 .rw[hp] at hj
  by_cases fI:j=i
  .subst fI
   cases yT:(T j).ph<;>rw[yT] at hj nG<;>first|exact nG.elim|simp[Ph.proj] at hj
  .rw[upd_ne _ _ fI]
   exact λaJ lQ=>h.depo j l hj aJ ((h.suf g fI).trans lQ)
 .obtain⟨h1,s,r,h2⟩:=h.chan c b hc
  exact⟨h1,s,r,(g.keep c (zAf c b hc) λe=>by have:=(h.bnd i c (.inl e)).2.2;rw[hc] at this;cases this).trans h2⟩
theorem Stat.phase {n:Nat}{w w':aE}{T:Nat->Td L}(h:Stat (ty:=ty) (Wg:=Wg) (A:=A) n w T ch){i:Nat}(hg:(T i).ph≠ .gone)(oY:i<n)(a:Lg Wg w w')(ph':Ph L)(r:Cp)(g':bD)
 (yT:ph'≠ .gone) (h0:i=0->ph'.live) (h1:i≠0->¬ph'.waits) (hl:WgLive ty Wg w->WgLive ty Wg w')
 (hd:∀l,ph'.proj=.over l->(T i).ph.proj=.over l\/∀aJ,bX ty Wg (T i).τ w aJ->A.dep l aJ)
 (Cd:gK A ty Wg (bK (λj=>(T j).ph) i ph') n w') (hinv:A.Inv (bK (λj=>(T j).ph.proj) i ph'.proj) ch):
 Stat (ty:=ty) (Wg:=Wg) (A:=A) n w' (bK T i ⟨ph',r,(T i).τ,g'⟩) ch:=by
 have ht:∀j,(bK T i ⟨ph',r,(T i).τ,g'⟩ j).τ=(T j).τ:=λj=>by
  by_cases hj:j=i
  .subst hj;simp[upd_same]
  .simp[upd_ne _ _ hj]
 have sf:∀j,bX ty Wg (T j).τ w w':=λj=>bX.of_aside a ⟨λe=>(h.bnd j Wg (.inl e)).2.1 rfl,λe=>(h.bnd j Wg (.inr e)).2.1 rfl⟩ hl;have cM:=a.size;refine⟨h.n0,λj hj=>?_,?_,λj hj=>?_,λj hj b=>?_,λx j b sM hb=>?_,λj b hb=>?_,λj b hb=>?_,λj l hj=>?_,λc b hc=>?_,by rw[U7];exact Cd,by rw[Yl];exact hinv⟩
 .have:j≠i:=aC
  rw[upd_ne _ _ this];exact h.ou j hj
 .by_cases hi:i=0
  .subst hi;rw[upd_same];exact h0 rfl
  .rw[upd_ne _ _ (Ne.symm hi)];exact h.role0
 .by_cases fI:j=i
  .subst fI;rw[upd_same];exact h1 hj
  .rw[upd_ne _ _ fI];exact h.role j hj
 .rw[ht]
  by_cases fI:j=i
  .subst fI;rw[upd_same] at hj;exact absurd hj yT
  .rw[upd_ne _ _ fI] at hj;exact h.nil j hj b
 .rw[ht] at hb⊢;exact h.sep x j b sM hb
 .rw[ht] at hb;have:=h.bnd j b hb;exact⟨aC,this.2⟩
 .rw[ht] at hb;have:=h.pas j b hb;exact⟨aC,this.2⟩
 .rw[ht]
  by_cases fI:j=i
  .subst fI
   rw[upd_same] at hj;rcases hd l hj with x|x
   .exact λaJ lQ=>h.depo j l x aJ ((sf j).trans lQ)
   .exact λaJ lQ=>x aJ ((sf j).trans lQ)
  .rw[upd_ne _ _ fI] at hj
   exact λaJ lQ=>h.depo j l hj aJ ((sf j).trans lQ)
 .obtain⟨h1,s,r,h2⟩:=h.chan c b hc
  exact⟨h1,s,r,(a.block c h1).trans h2⟩
theorem Stat.close {n:Nat}{w w':aE}{T:Nat->Td L}(h:Stat (ty:=ty) (Wg:=Wg) (A:=A) n w T ch){i:Nat}(oY:i<n){c:Nat}{x:Bool}(hc:ch c=some x)(a:Lg c w w'){l l':L}(hl:(T i).ph=.usr l)(r:Cp)(g':bD)
 (rN:∃s r,w'.heap[c]? =some (.chan 0 #[] true s r false)) (Cd:gK A ty Wg (bK (λj=>(T j).ph) i (.usr l')) n w) (hinv:A.Inv (bK (λj=>(T j).ph.proj) i (.run l')) (bK ch c (some true))):
 Stat (ty:=ty) (Wg:=Wg) (A:=A) n w' (bK T i ⟨.usr l',r,(T i).τ,g'⟩) (bK ch c (some true)):=by
 have ht:∀j,(bK T i ⟨.usr l',r,(T i).τ,g'⟩ j).τ=(T j).τ:=λj=>by
  by_cases hj:j=i
  .subst hj;simp[upd_same]
  .simp[upd_ne _ _ hj]
 have Ap:=(h.chan c x hc).1;have nc:∀j,¬(T j).τ.own c/\¬(T j).τ.still c:=λj=>⟨λe=>(by have:=(h.bnd j c (.inl e)).2.2;rw[hc] at this;cases this),λe=>(by have:=(h.bnd j c (.inr e)).2.2;rw[hc] at this;cases this)⟩;have sf:∀j,bX ty Wg (T j).τ w w':=λj=>bX.of_aside a (nc j) (Xd a Ap);have cM:=a.size;refine⟨h.n0,λj hj=>?_,?_,λj hj=>?_,λj hj b=>?_,λx j b sM hb=>?_,λj b hb=>?_,λj b hb=>?_,λj l hj=>?_,λc' b kO=>?_,by rw[U7];exact Cd.of_block (a.block Wg (Ne.symm Ap)),by rw[Yl];exact hinv⟩
 .have:j≠i:=aC
  rw[upd_ne _ _ this];exact h.ou j hj
 .by_cases hi:i=0
  .subst hi;rw[upd_same];trivial
  .rw[upd_ne _ _ (Ne.symm hi)];exact h.role0
 .by_cases fI:j=i
  .subst fI;rw[upd_same];exact id
  .rw[upd_ne _ _ fI];exact h.role j hj
 .rw[ht]
  by_cases fI:j=i
  .subst fI;rw[upd_same] at hj;cases hj
  .rw[upd_ne _ _ fI] at hj;exact h.nil j hj b
 .rw[ht] at hb⊢;exact h.sep x j b sM hb
 .rw[ht] at hb
  have:=h.bnd j b hb;refine⟨aC,this.2.1,?_⟩;have aU:b≠c:=λe=>by subst e;exact hb.elim (nc j).1 (nc j).2
  rw[upd_ne _ _ aU];exact this.2.2
 .rw[ht] at hb;have:=h.pas j b hb;exact⟨aC,this.2⟩
 .rw[ht]
  by_cases fI:j=i
  .subst fI;rw[upd_same] at hj;simp[Ph.proj] at hj
  .rw[upd_ne _ _ fI] at hj
   exact λaJ lQ=>h.depo j l hj aJ ((sf j).trans lQ)
 .by_cases tU:c'=c
  .subst tU
   rw[upd_same] at kO;obtain⟨s,r,hw⟩:=rN;exact⟨Ap,s,r,by rw[hw,<-cO kO]⟩
  .rw[upd_ne _ _ tU] at kO
   obtain⟨h1,s,r,h2⟩:=h.chan c' b kO;exact⟨h1,s,r,(a.block c' tU).trans h2⟩
end
section
variable {L:Type}{P:bZ}{ty:aM}{Wg:Nat}{A:jM L}{Fin:bD->aE->Prop}
theorem gK.congr {p p':Nat->Ph L}{n n':Nat}{w:aE}(h:gK A ty Wg p n w)(h0:p' 0=p 0\/∃l l',p 0=.usr l/\p' 0=.usr l')(hv:vv A p' n'=vv A p n)(hl:∀j,(p j).last\/(p' j).last->p' j=p j):gK A ty Wg p' n' w:=by
 have nl:(∀i,¬(p i).last)->∀i,¬(p' i).last:=λx i e=>x i sU;unfold gK at*;rcases h0 with h0|⟨l,l',h0,zKu⟩
 .rw[h0,hv]
  split
  all_goals(rename_i hp;simp only[hp] at h)
  .exact⟨h.1,nl h.2⟩
  .simp_all
  .simp_all
  .rcases h with⟨a,b,c⟩|⟨a,i,l,b,c⟩|⟨a,b,c⟩
   .exact .inl ⟨a,b,nl c⟩
   .have hi:(p i).last:=by rcases c with⟨c|c,_⟩|⟨c,_⟩<;>rw[c]<;>trivial
    have e:=hl i (.inl hi);refine .inr (.inl ⟨a,i,l,λj hj=>b j sU,?_⟩);rw[e];exact c
   simp_all
  .simp_all
  simp_all
 .simp_all
theorem zgU (A:jM L)(p:Nat->Ph L){i:Nat}(h:i≠0)(x:Ph L):Aa A (bK p i x)=Aa A p:=by
 unfold Aa;rw[upd_ne _ _ (Ne.symm h)]
theorem gK.usr {p:Nat->Ph L}{n:Nat}{w:aE}(h:gK A ty Wg p n w){i:Nat}{l l':L}(hi:p i=.usr l)(oY:i<n)(ziL:A.pend l'=A.pend l):gK A ty Wg (bK p i (.usr l')) n w:=by
 refine h.congr ?_ ?_ λj hj=>?_
 .by_cases h0:i=0
  .subst h0;exact .inr ⟨l,l',hi,upd_same _ _ _⟩
  .exact .inl (upd_ne _ _ (Ne.symm h0))
 .unfold vv
  by_cases h0:i=0
  .subst h0
   rw[ze2];unfold Aa;rw[upd_same,hi];simp only[ziL]
  .rw[zgU A p h0]
   have:=zhc p (i:=i) (n:=n) (.usr l') oY h0;rw[hi] at this;simp only[Ph.pre,if_true] at this;omega
 .by_cases fI:j=i
  .subst fI;rw[upd_same,hi] at hj;exact(hj.elim id id).elim
  .exact upd_ne _ _ fI
variable {ch:rJ}
theorem zeR {l:List Nat}{a:Nat}(h:a∈l):ch.opn l a=some false:=by simp[rJ.opn,h]
theorem Xo {l:List Nat}{a:Nat}(h:a∉l):ch.opn l a=ch a:=by simp[rJ.opn,h]
theorem Stat.meet {n:Nat}{w w':aE}{T:Nat->Td L}(h:Stat (ty:=ty) (Wg:=Wg) (A:=A) n w T ch){i j:Nat}(sM:i≠j)(oY:i<n)(S4:j<n){c:Nat}(hc:ch c=some false)(a:Lg c w w'){li li' lj lj':L}
 (hi:(T i).ph=.usr li) (hj:(T j).ph=.usr lj) (ri rj:Cp) (gi gj:bD) (τ':cH) (pub:List Nat)
 (ho:∀b,τ'.own b->(T i).τ.own b) (aY:τ'.still=(T i).τ.still) (Sw:∀b,τ'.pass b->(T i).τ.pass b\/(T i).τ.own b)
 (Hu:∀a∈pub,(T i).τ.own a/\¬τ'.own a/\¬τ'.still a/\Jf w a) (rN:∃s r,w'.heap[c]? =some (.chan 0 #[] false s r false))
 (zbi:A.pend li'=A.pend li) (K4:A.pend lj'=A.pend lj) (hinv:A.Inv (bK (bK (λk=>(T k).ph.proj) i (.run li')) j (.run lj')) (ch.opn pub)):
 Stat (ty:=ty) (Wg:=Wg) (A:=A) n w' (bK (bK T i ⟨.usr li',ri,τ',gi⟩) j ⟨.usr lj',rj,(T j).τ,gj⟩) (ch.opn pub):=by
 have Ap:=(h.chan c _ hc).1;have zjq:=a.block Wg (Ne.symm Ap);have cM:=a.size;have nc:∀k,¬(T k).τ.own c/\¬(T k).τ.still c:=λk=>⟨λe=>(by have:=(h.bnd k c (.inl e)).2.2;rw[hc] at this;cases this),λe=>(by have:=(h.bnd k c (.inr e)).2.2;rw[hc] at this;cases this)⟩;have sf:∀k,bX ty Wg (T k).τ w w':=λk=>bX.of_aside a (nc k) (Xd a Ap)
 let U:=bK (bK T i ⟨.usr li',ri,τ',gi⟩) j ⟨.usr lj',rj,(T j).τ,gj⟩
 have ui:U i=⟨.usr li',ri,τ',gi⟩:=by simp only[U];rw[upd_ne _ _ sM,upd_same]
 have uj:U j=⟨.usr lj',rj,(T j).τ,gj⟩:=by simp only[U];rw[upd_same]
 have uk:∀k,k≠i->k≠j->U k=T k:=λk h1 h2=>by simp only[U];rw[upd_ne _ _ h2,upd_ne _ _ h1]
 have own:∀k b,(U k).τ.own b->(T k).τ.own b:=λk b hb=>by
  by_cases k1:k=i
  .subst k1;rw[ui] at hb;exact ho b hb
  .by_cases k2:k=j
   .subst k2;rw[uj] at hb;exact hb
   .rw[uk k k1 k2] at hb;exact hb
 have still:∀k,(U k).τ.still=(T k).τ.still:=λk=>by
  by_cases k1:k=i
  .subst k1;rw[ui];exact aY
  .by_cases k2:k=j
   .subst k2;rw[uj]
   .rw[uk k k1 k2]
 have pass:∀k b,(U k).τ.pass b->(T k).τ.pass b\/(T k).τ.own b:=λk b hb=>by
  by_cases k1:k=i
  .subst k1;rw[ui] at hb;exact Sw b hb
  .by_cases k2:k=j
   .subst k2;rw[uj] at hb;exact .inl hb
   .rw[uk k k1 k2] at hb;exact .inl hb
 have zig:(λk=>(U k).ph)=bK (bK (λk=>(T k).ph) i (.usr li')) j (.usr lj'):=by simp only[U];rw[U7,U7]
 have znI:(λk=>(U k).ph.proj)=bK (bK (λk=>(T k).ph.proj) i (.run li')) j (.run lj'):=by simp only[U];rw[Yl,Yl];rfl
 have hp:∀k,(U k).ph=(T k).ph\/(∃l,(U k).ph=.usr l):=λk=>by
  by_cases k1:k=i
  .subst k1;rw[ui];exact .inr ⟨_,rfl⟩
  .by_cases k2:k=j
   .subst k2;rw[uj];exact .inr ⟨_,rfl⟩
   .rw[uk k k1 k2];exact .inl rfl
 refine⟨h.n0,λk hk=>?_,?_,λk hk=>?_,λk hk b=>?_,λx k b eK hb=>?_,λk b hb=>?_,λk b hb=>?_,λk l hk=>?_,λc' b kO=>?_,?_,?_⟩
 .show(U k).ph=_
  rw[uk k aC aC];exact h.ou k hk
 .rcases hp 0 with e|⟨l,e⟩
  .rw[show(bK (bK T i ⟨.usr li',ri,τ',gi⟩) j ⟨.usr lj',rj,(T j).τ,gj⟩ 0).ph=(T 0).ph from e];exact h.role0
  .rw[show(bK (bK T i ⟨.usr li',ri,τ',gi⟩) j ⟨.usr lj',rj,(T j).τ,gj⟩ 0).ph=.usr l from e];trivial
 .rcases hp k with e|⟨l,e⟩
  .rw[show(bK (bK T i ⟨.usr li',ri,τ',gi⟩) j ⟨.usr lj',rj,(T j).τ,gj⟩ k).ph=(T k).ph from e];exact h.role k hk
  .rw[show(bK (bK T i ⟨.usr li',ri,τ',gi⟩) j ⟨.usr lj',rj,(T j).τ,gj⟩ k).ph=.usr l from e];exact id
 .have k1:k≠i:=λe=>by subst e;rw[show(bK (bK T k ⟨.usr li',ri,τ',gi⟩) j ⟨.usr lj',rj,(T j).τ,gj⟩ k)=_ from ui] at hk;cases hk
  have k2:k≠j:=λe=>by subst e;rw[show(bK (bK T i ⟨.usr li',ri,τ',gi⟩) k ⟨.usr lj',rj,(T k).τ,gj⟩ k)=_ from uj] at hk;cases hk
  have e:=uk k k1 k2;show ¬(U k).τ.own b/\_;rw[show(bK (bK T i ⟨.usr li',ri,τ',gi⟩) j ⟨.usr lj',rj,(T j).τ,gj⟩ k)=T k from e] at hk⊢;rw[e];exact h.nil k hk b
 .have:=h.sep x k b eK (own x b hb)
  refine⟨λe=>this.1 (own k b e),λe=>this.2.1 (by have e':(U k).τ.still b:=e;rwa [still k] at e'),λe=>(pass k b e).elim this.2.2 this.1⟩
 .have bU:(T k).τ.own b\/(T k).τ.still b:=hb.imp (own k b) λe=>by have e':(U k).τ.still b:=e;rwa [still k] at e'
  have:=h.bnd k b bU;refine⟨aC,this.2.1,?_⟩;have zcQ:b∉pub:=λhp=>by
   obtain⟨h1,h2,h3,_⟩:=Hu b hp;by_cases k1:k=i
   .subst k1
    rcases hb with e|e
    .rw[show(bK (bK T k ⟨.usr li',ri,τ',gi⟩) j ⟨.usr lj',rj,(T j).τ,gj⟩ k)=_ from ui] at e;exact h2 e
    .rw[show(bK (bK T k ⟨.usr li',ri,τ',gi⟩) j ⟨.usr lj',rj,(T j).τ,gj⟩ k)=_ from ui] at e;exact h3 e
   .have s:=h.sep i k b (Ne.symm k1) h1
    exact bU.elim s.1 s.2.1
  rw[Xo zcQ];exact this.2.2
 .rcases pass k b hb with e|e
  .have:=h.pas k b e;exact⟨aC,this.2⟩
  .have:=h.bnd k b (.inl e);exact⟨aC,this.2.1⟩
 .by_cases k1:k=i
  .subst k1;rw[show(bK (bK T k ⟨.usr li',ri,τ',gi⟩) j ⟨.usr lj',rj,(T j).τ,gj⟩ k)=_ from ui] at hk;simp[Ph.proj] at hk
  .by_cases k2:k=j
   .subst k2;rw[show(bK (bK T i ⟨.usr li',ri,τ',gi⟩) k ⟨.usr lj',rj,(T k).τ,gj⟩ k)=_ from uj] at hk;simp[Ph.proj] at hk
   .rw[show(bK (bK T i ⟨.usr li',ri,τ',gi⟩) j ⟨.usr lj',rj,(T j).τ,gj⟩ k)=T k from uk k k1 k2] at hk⊢
    exact λaJ lQ=>h.depo k l hk aJ ((sf k).trans lQ)
 .by_cases nK:c'∈pub
  .obtain⟨h1,_,_,h4⟩:=Hu c' nK
   rw[zeR nK] at kO;have aU:c'≠c:=λe=>by subst e;exact(nc i).1 h1
   exact⟨(h.bnd i c' (.inl h1)).2.1,0,0,by rw[a.block c' aU,<-cO kO];exact h4⟩
  .rw[Xo nK] at kO
   by_cases tU:c'=c
   .subst tU
    rw[hc] at kO;obtain⟨s,r,hw⟩:=rN;exact⟨Ap,s,r,by rw[hw,<-cO kO]⟩
   .obtain⟨h1,s,r,h2⟩:=h.chan c' b kO
    exact⟨h1,s,r,(a.block c' tU).trans h2⟩
 .show gK A ty Wg (λk=>(U k).ph) n w'
  rw[zig];refine gK.of_block (gK.usr (l:=lj) (gK.usr (l:=li) h.grp hi oY zbi) ?_ S4 K4) zjq;rw[upd_ne _ _ (Ne.symm sM)];exact hj
 .show A.Inv (λk=>(U k).ph.proj) _
  rw[znI];exact hinv
theorem Stat.fork {n:Nat}{w:aE}{T:Nat->Td L}(h:Stat (ty:=ty) (Wg:=Wg) (A:=A) n w T ch){l lm lc:L}(hl:(T 0).ph=.usr l)(N9:A.pend l=true)(zF:A.pend lm=false)(rm rc:Cp)(gm gc:bD)(τm τc:cH)(pub:List Nat)
 (cT:∀b,τm.own b\/τc.own b->(T 0).τ.own b) (zKX:∀b,τm.still b\/τc.still b->(T 0).τ.still b\/(T 0).τ.own b) (zFm:∀b,τm.pass b\/τc.pass b->(T 0).τ.pass b\/(T 0).τ.own b\/(T 0).τ.still b)
 (yI:∀b,τm.own b->¬τc.own b/\¬τc.still b/\¬τc.pass b) (yK:∀b,τc.own b->¬τm.still b/\¬τm.pass b)
 (Hu:∀a∈pub,(T 0).τ.own a/\Jf w a/\¬τm.own a/\¬τm.still a/\¬τc.own a/\¬τc.still a) (hinv:A.Inv (bK (bK (λk=>(T k).ph.proj) 0 (.run lm)) n (.run lc)) (ch.opn pub)):
 Stat (ty:=ty) (Wg:=Wg) (A:=A) (n+1) w (bK (bK T 0 ⟨.usr lm,rm,τm,gm⟩) n ⟨.usr lc,rc,τc,gc⟩) (ch.opn pub):=by
 have hn:=h.n0;have zaS:(T n).ph=.gone:=h.ou n (bF _);have nn:=h.nil n zaS;generalize hU:bK (bK T 0 ⟨.usr lm,rm,τm,gm⟩) n ⟨.usr lc,rc,τc,gc⟩=U;have u0:U 0=⟨.usr lm,rm,τm,gm⟩:=by rw[<-hU,upd_ne _ _ aC,upd_same]
 have un:U n=⟨.usr lc,rc,τc,gc⟩:=by rw[<-hU,upd_same]
 have uk:∀k,k≠0->k≠n->U k=T k:=λk h1 h2=>by rw[<-hU,upd_ne _ _ h2,upd_ne _ _ h1]
 have own:∀k b,(U k).τ.own b->(T k).τ.own b\/(k=n/\(T 0).τ.own b):=λk b hb=>by grind
 have zig:(λk=>(U k).ph)=bK (bK (λk=>(T k).ph) 0 (.usr lm)) n (.usr lc):=by rw[<-hU,U7,U7]
 have znI:(λk=>(U k).ph.proj)=bK (bK (λk=>(T k).ph.proj) 0 (.run lm)) n (.run lc):=by rw[<-hU,Yl,Yl];rfl
 have sub:∀k b,(U k).τ.own b\/(U k).τ.still b\/(U k).τ.pass b->k=0\/k=n\/(k≠0/\k≠n):=λk b _=>by omega
 refine⟨aC,λk hk=>?_,by rw[u0];trivial,λk hk=>?_,λk hk b=>?_,λx k b eK hb=>?_,λk b hb=>?_,λk b hb=>?_,λk l' hk=>?_,λc' b kO=>?_,?_,by rw[znI];exact hinv⟩
 .rw[uk k aC aC];exact h.ou k aC
 .by_cases k2:k=n
  .subst k2;rw[un];exact id
  .rw[uk k hk k2];exact h.role k hk
 .have k1:k≠0:=λe=>by simp_all
  have k2:k≠n:=λe=>by simp_all
  rw[uk k k1 k2] at hk⊢;exact h.nil k hk b
 .by_cases x1:x=0
  .subst x1
   rw[u0] at hb;have ho:=cT b (.inl hb);by_cases k2:k=n
   .simp_all
   .rw[uk k (Ne.symm eK) k2];exact h.sep 0 k b eK ho
  .by_cases x2:x=n
   .subst x2
    rw[un] at hb;have ho:=cT b (.inr hb);by_cases k1:k=0
    .grind
    .rw[uk k k1 (Ne.symm eK)];exact h.sep 0 k b (Ne.symm k1) ho
   .rw[uk x x1 x2] at hb
    have s0:=h.sep x 0 b x1 hb;by_cases k1:k=0
    .grind
    .by_cases k2:k=n
     .grind
     .rw[uk k k1 k2];exact h.sep x k b eK hb
 .have key:(∃j,(T j).τ.own b\/(T j).τ.still b)/\b∉pub:=by
   by_cases k1:k=0
   .grind
   .by_cases k2:k=n
    .grind
    .rw[uk k k1 k2] at hb
     refine⟨⟨k,hb⟩,λhp=>?_⟩;have:=h.sep 0 k b (Ne.symm k1) (Hu b hp).1;simp_all
  obtain⟨⟨j,hj⟩,zcQ⟩:=key;have:=h.bnd j b hj;exact⟨this.1,this.2.1,by rw[Xo zcQ];exact this.2.2⟩
 .have key:∃j,(T j).τ.pass b\/(T j).τ.own b\/(T j).τ.still b:=by
   by_cases k1:k=0
   .subst k1;rw[u0] at hb;exact⟨0,zFm b (.inl hb)⟩
   .grind
  obtain⟨j,hj|hj⟩:=key
  .exact h.pas j b hj
  .have:=h.bnd j b hj;omega
 .have k1:k≠0:=λe=>by subst e;rw[u0] at hk;simp[Ph.proj] at hk
  have k2:k≠n:=λe=>by subst e;rw[un] at hk;simp[Ph.proj] at hk
  rw[uk k k1 k2] at hk⊢;exact h.depo k l' hk
 .by_cases nK:c'∈pub
  .rw[zeR nK] at kO
   obtain⟨h1,h2,_⟩:=Hu c' nK;exact⟨(h.bnd 0 c' (.inl h1)).2.1,0,0,by rw[<-cO kO];exact h2⟩
  .rw[Xo nK] at kO;exact h.chan c' b kO
 .rw[zig]
  refine h.grp.congr (.inr ⟨l,lm,hl,by grind⟩) ?_ λj hj=>?_
  .unfold vv
   have e1:o9 (bK (bK (λk=>(T k).ph) 0 (.usr lm)) n (.usr lc)) (n+1)=o9 (λk=>(T k).ph) n+1:=by
    simp only[o9];rw[zyd _ _ (bF n),ze2,upd_same];simp[Ph.pre];omega
   have e2:Aa A (bK (bK (λk=>(T k).ph) 0 (.usr lm)) n (.usr lc))=0:=by
    unfold Aa;rw[upd_ne _ _ aC,upd_same];simp[zF]
   have e3:Aa A (λk=>(T k).ph)=1:=by
    unfold Aa;simp only[hl,N9,if_true]
   omega
  .by_cases j1:j=0
   .subst j1;rw[upd_ne _ _ aC,upd_same] at hj
    have:((T 0).ph).last\/False:=hj;rw[hl] at this;exact(this.elim id id).elim
   .by_cases j2:j=n
    .subst j2;rw[upd_same] at hj
     have:((T j).ph).last\/False:=hj;rw[zaS] at this;exact(this.elim id id).elim
    grind
end
section
variable {L:Type}(P:bZ)(ty:aM)(Wg:Nat)(A:jM L)(Fin:bD->aE->Prop)(Shun:rC->Prop)
structure Inv (gs:Array bD)(w:aE)(t:mQ)(T:Nat->Td L)(ch:rJ):Prop where
 st:Stat (ty:=ty) (Wg:=Wg) (A:=A) gs.size w T ch
 dy:F0 (P:=P) (ty:=ty) (Wg:=Wg) (A:=A) (Fin:=Fin) gs w t T ch Shun
def P7 (m:O1)(t:mQ):Prop:=
 ∃gs a w sl q,m=crowd gs w sl/\gs[0]? =some a/\a.status=.running/\Fin a w/\zfD P t gs q/\Past (λl=>Shun l\/nQ l Wg) w.heap.size t
def vU (gs:Array bD)(w:aE)(t:mQ)(T:Nat->Td L)(sl:Option (Nat×Nat))(i:Nat):Prop:=
 ∃m' ops,runT P (crowd gs w sl) i=(.next m',ops)/\
  (P7 P Wg Fin Shun m' (t++ops)\/∃gs' w' L3 T' vZ,m'=crowd gs' w' L3/\Inv P ty Wg A Fin Shun gs' w' (t++ops) T' vZ/\Mu.lt (mu gs' T') (mu gs T))
end
section
variable {L:Type}{P:bZ}{ty:aM}{Wg:Nat}{A:jM L}{Fin:bD->aE->Prop}{Shun:rC->Prop}
variable {gs:Array bD}{w w':aE}{t:mQ}{T:Nat->Td L}{ch vZ:rJ}{sl:Option (Nat×Nat)}{i j:Nat}{x g':bD}{es:Array rK}
def zvd (τ:cH)(w:aE)(d:Nat):bX ty Wg τ w (w.at d):=⟨rfl,rfl,rfl,bF _,λ_ _=>rfl,id⟩
def Inv.at (h:Inv P ty Wg A Fin Shun gs w t T ch)(d:Nat):Inv P ty Wg A Fin Shun gs (w.at d) t T ch:=
 ⟨
  ⟨h.st.n0,h.st.ou,h.st.role0,h.st.role,h.st.nil,h.st.sep,h.st.bnd,h.st.pas,λi l hi aJ s=>h.st.depo i l hi aJ ((zvd _ w d).trans s),h.st.chan,h.st.grp.of_block rfl,h.st.inv⟩,
  ⟨λi x hi=>(h.dy.sit i x hi).rely (zvd _ w d),h.dy.slp,h.dy.slpC,h.dy.slpW,h.dy.tr⟩⟩
theorem zkA {p:Nat->Ph L}(h:∀j,j≠0->(p j).pre=false):∀n,o9 p n=0
 |0=>rfl
 |n+1=>by
  simp only[o9,zkA h n];simp_all
theorem Inv.some1 (hA:A.Ok)(h:Inv P ty Wg A Fin Shun gs w t T ch):∃(i:Nat) (g:bD),gs[i]? =some g/\g.status=.running:=by
 refine Av λfP=>?_;have hn:∀(i:Nat) (g:bD),gs[i]? =some g->g.status≠ .running:=λi g hg e=>fP ⟨i,g,hg,e⟩;have zi8:∀i l,(T i).ph=.usr l->∃g,gs[i]? =some g/\zdF P ty Wg A (i==0) (T i) g w:=by
  intro i l hl;have aS:i<gs.size:=by
   rcases qX i gs.size with x|x
   .exact x
   .have:=h.st.ou i x;simp_all
  refine⟨gs[i],pS aS,?_⟩;have hs:=h.dy.sit i _ (pS aS);rw[pN zjL] at hs;obtain⟨r,_,_,hx|hx|hx⟩:=hs
  .exact absurd hx.1 (hn i _ (pS aS))
  .exact hx
  .have:=hx.1;simp_all
 have K4:∀i l,(T i).ph.proj=.run l->(T i).ph=.usr l:=by
  intro i l hi;cases yT:(T i).ph<;>rw[yT] at hi<;>simp[Ph.proj] at hi;rw[hi]
 have zCB:∀i l c ok pub nx,(T i).ph=.usr l->A.act l=.send c ok pub nx->∃g v z sh,gs[i]? =some (parked g #[scase c v z] sh):=by
  intro i l c ok pub nx hl ha;obtain⟨g,hg,l',cs,sh,h1,rfl,_,h4|h4⟩:=zi8 i l hl
  .grind
  .simp_all
 have zBg:∀i l c ok nx s,(T i).ph=.usr l->A.act l=.recv c ok nx s->∃g z sh,gs[i]? =some (parked g #[rcase c z] sh):=by
  intro i l c ok nx s hl ha;obtain⟨g,hg,l',cs,sh,h1,rfl,_,h4|h4⟩:=zi8 i l hl
  .simp_all
  .grind
 have hb:∀i l,(T i).ph.proj=.run l->A.Blocked (λi=>(T i).ph.proj) ch l:=by
  intro i l hi;have hl:=K4 i l hi;obtain⟨g,hg,l',cs,sh,h1,rfl,_,h4⟩:=zi8 i l hl;rw[hl] at h1;injection h1 with h1;subst h1;unfold jM.Blocked;rcases h4 with⟨c,ok,pub,nx,v,z,h5,h6,_⟩|⟨c,ok,nx,s,z,b,h5,h6,_⟩
  .rw[h5]
   rintro⟨j,l',sN,pY,xC,hj,qM⟩;obtain⟨gj,zj,zGA,Z7⟩:=zBg j l' c sN pY xC (K4 j l' hj) qM;subst h6;exact h.dy.slp i j _ _ _ _ _ _ _ _ hg Z7
  .rw[h5]
   subst h6;refine⟨?_,?_⟩
   .obtain⟨b',bU⟩:=hA.recvC _ ch i l c ok nx s h.st.inv hi h5
    cases b'
    .exact bU
    .exact absurd bU (h.dy.slpC i _ _ _ _ hg)
   .rintro⟨j,l',sN,Vp,pY,hj,qM⟩
    obtain⟨gj,vj,zj,zGA,Z7⟩:=zCB j l' c sN Vp pY (K4 j l' hj) qM;exact h.dy.slp j i _ _ _ _ _ _ _ _ Z7 hg
 obtain⟨L6,Cz⟩:=hA.prog _ ch h.st.inv hb;have hq:∀j,j≠0->(T j).ph.leaves:=by
  intro j hj;refine Av λhl=>?_;have aS:j<gs.size:=by
   rcases qX j gs.size with x|x
   .exact x
   .exact absurd (by rw[h.st.ou j x];trivial) hl
  have hs:=h.dy.sit j _ (pS aS);rw[pN hl] at hs;obtain⟨r,_,_,hx|hx|hx⟩:=hs
  .exact hn j _ (pS aS) hx.1
  .obtain⟨l,_,_,h1,_⟩:=hx
   exact Cz j l (by show(T j).ph.proj=_;rw[h1];rfl)
  .have:=h.st.role j hj;rw[hx.1] at this;exact this trivial
 have h0:=h.dy.sit 0 _ (pS h.st.n0);have zlP:¬(T 0).ph.leaves:=λe=>by
  have:=h.st.role0;cases hp:(T 0).ph<;>rw[hp] at e this<;>first|exact e.elim|exact this.elim
 rw[pN zlP] at h0;obtain⟨r,_,_,hx|hx|hx⟩:=h0
 .exact hn 0 _ (pS h.st.n0) hx.1
 .obtain⟨l,_,_,h1,_⟩:=hx
  have:(T 0).ph.proj=.waits:=L6;rw[h1] at this;cases this
 .have hg:=h.st.grp
  unfold gK at hg;simp only[hx.1] at hg;have zC3:∀i,¬(T i).ph.last:=λi e=>by
   by_cases hi:i=0
   .subst hi;rw[hx.1] at e;exact e
   .have:=hq i hi
    cases hp:(T i).ph<;>rw[hp] at e this<;>first|exact e.elim|exact this.elim
  have hv:vv A (λi=>(T i).ph) gs.size=0:=by
   unfold vv Aa;simp only[hx.1,Nat.add_zero];refine zkA (λj hj=>?_) _;have:=hq j hj;cases hp:(T j).ph<;>rw[hp] at this<;>first|exact this.elim|rfl
  rcases hg with⟨a,_⟩|⟨_,i,l,_,hc⟩|⟨_,_,hc⟩
  .omega
  .refine zC3 i ?_
   rcases hc with⟨c|c,_⟩|⟨c,_⟩<;>rw[c]<;>trivial
  .exact h.dy.slpW _ (pS h.st.n0) hx.1 (by rw[hx.2.1]) hc
theorem Inv.awake (h:Inv P ty Wg A Fin Shun gs w t T ch):∀g∈gs,Conc.awake g:=by
 intro g hg;obtain⟨i,hi,rfl⟩:=ztj.1 hg;have:=(h.dy.sit i _ (pS hi)).status;intro t e;simp_all
theorem Zf (hi:gs[i]? =some x)(hn:0<gs.size){Ti:Td L}(vQ:stepG P (i==0) x w=.go g' w' es)(hr:Cl Ti.r (T i).r)
 (hS:Stat (ty:=ty) (Wg:=Wg) (A:=A) gs.size w' (bK T i Ti) vZ)
 (hD:F0 (P:=P) (ty:=ty) (Wg:=Wg) (A:=A) (Fin:=Fin) ((gs.map (woken P x g' w')).setIfInBounds i g') w' (t++wO i x.frame.fn x.frame.place es) (bK T i Ti) vZ Shun):vU P ty Wg A Fin Shun gs w t T sl i:=by
 have aS:=(eB.1 hi).1;have cM:((gs.map (woken P x g' w')).setIfInBounds i g').size=gs.size:=aN;refine⟨_,_,zcz hi vQ,.inr ⟨_,_,sl,bK T i Ti,vZ,rfl,⟨by rw[cM];exact hS,hD⟩,Xg (i:=i) (λ_=>cM) aC aS aC (by rw[upd_same];exact hr) λj hj=>by rw[upd_ne _ _ aC]⟩⟩
theorem Stat.tiEvents {n:Nat}(hS:Stat (ty:=ty) (Wg:=Wg) (A:=A) n w T ch)(oY:i<n)(hl:(T i).ph.live)(fn:aQ)(pos:String)
 (h:TI Wg n (λk=>(T k).τ.own) (λk b=>(T k).τ.still b\/(T k).τ.pass b) (λk=>(T k).ph.live) Shun w.heap.size t)
 (yD:∀e∈es,OkL Wg (T i).τ.own (λb=>(T i).τ.still b\/(T i).τ.pass b) i w.heap.size e):
 TI Wg n (λk=>(T k).τ.own) (λk b=>(T k).τ.still b\/(T k).τ.pass b) (λk=>(T k).ph.live) Shun w.heap.size (t++wO i fn pos es):=by
 obtain⟨l⟩:=es;refine TI.events (live:=λk=>(T k).ph.live) (k:=i) hl oY (λk' b _ aU hb=>?_) (λk' b _ aU hb ho=>?_) (λk' _=>⟨λe=>(hS.bnd k' Wg (.inl e)).2.1 rfl,λe=>e.elim (λe=>(hS.bnd k' Wg (.inr e)).2.1 rfl) λe=>(hS.pas k' Wg e).2 rfl⟩) fn pos l h λe he=>yD e (by simpa using he)
 .have:=hS.sep i k' b (Ne.symm aU) hb
  simp_all
 .have:=hS.sep k' i b aU ho
  simp_all
def Stat.noWg {n:Nat}(hS:Stat (ty:=ty) (Wg:=Wg) (A:=A) n w T ch):∀k',(T k').ph.live->¬(T k').τ.own Wg/\¬((T k').τ.still Wg\/(T k').τ.pass Wg):=
 λk' _=>⟨λe=>(hS.bnd k' Wg (.inl e)).2.1 rfl,λe=>e.elim (λe=>(hS.bnd k' Wg (.inr e)).2.1 rfl) λe=>(hS.pas k' Wg e).2 rfl⟩
def F0.keepC (h:F0 (P:=P) (ty:=ty) (Wg:=Wg) (A:=A) (Fin:=Fin) gs w t T ch Shun):∀(j:Nat) (gj:bD) (c:Nat) (z:aF) (sh:Nb),gs[j]? =some (parked gj #[rcase c z] sh)->woken P x g' w' (parked gj #[rcase c z] sh)=parked gj #[rcase c z] sh->ch c≠some true:=
 λj gj c z sh hj _=>h.slpC j gj c z sh hj
def F0.keepW (h:F0 (P:=P) (ty:=ty) (Wg:=Wg) (A:=A) (Fin:=Fin) gs w t T ch Shun)(e:jL ty Wg w' 0 1->jL ty Wg w 0 1):i≠0->∀x0,gs[0]? =some x0->(T 0).ph=.w3->x0.status=.blocked->(woken P x g' w' x0).status=.blocked->¬jL ty Wg w' 0 1:=
 λ_ x0 h0 h1 h2 _ h4=>h.slpW x0 h0 h1 h2 (e h4)
theorem Inv.leaver (h:Inv P ty Wg A Fin Shun gs w t T ch)(hi:gs[i]? =some x)(cN:x.status=.running)(hl:(T i).ph.leaves):vU P ty Wg A Fin Shun gs w t T sl i:=by
 have hs:=h.dy.sit i x hi;rw[H8 hl] at hs;obtain⟨q,hq,hQ⟩:=hs;have eR:i≠0:=λe=>by
  subst e;have:=h.st.role0;cases hp:(T 0).ph<;>rw[hp] at hl this<;>first|exact hl.elim|exact this.elim
 have aS:i<gs.size:=(eB.1 hi).1
 cases q with
 |zero=>rw[hQ.1] at cN;cases cN
 |succ k=>
  rcases hQ with⟨hf,_⟩|⟨_,g',es,hm,aY,hQ'⟩
  .simp_all
  have vQ:stepG P (i==0) x w=.go g' w es:=by
   have:(i==0)=false:=by simpa using eR
   rw[this];exact aY w
  have hp:∀j,(bK T i ⟨(T i).ph,.inl k,(T i).τ,g'⟩ j).ph=(T j).ph:=λj=>by
   by_cases hj:j=i
   .subst hj;simp[upd_same]
   .simp[upd_ne _ _ hj]
  have ht:∀j,(bK T i ⟨(T i).ph,.inl k,(T i).τ,g'⟩ j).τ=(T j).τ:=λj=>by
   by_cases hj:j=i
   .subst hj;simp[upd_same]
   .simp[upd_ne _ _ hj]
  refine Zf hi h.st.n0 (Ti:=⟨(T i).ph,.inl k,(T i).τ,g'⟩) vQ (by rw[hq];exact .inl (Nat.lt_succ_self k)) (h.st.same hp ht) ?_;refine h.dy.go hi ((H8 (T:=⟨(T i).ph,.inl k,(T i).τ,g'⟩) hl).2 ⟨k,rfl,hQ'⟩) (by rcases hQ'.status with e|e<;>rw[e]<;>simp) (λj _=>bX.refl) h.dy.keepC (h.dy.keepW id) ?_;have e1:(λk'=>(bK T i ⟨(T i).ph,.inl k,(T i).τ,g'⟩ k').τ.own)=λk'=>(T k').τ.own:=funext λj=>by rw[ht]
  have e2:(λk' b=>(bK T i ⟨(T i).ph,.inl k,(T i).τ,g'⟩ k').τ.still b\/(bK T i ⟨(T i).ph,.inl k,(T i).τ,g'⟩ k').τ.pass b)=λk' b=>(T k').τ.still b\/(T k').τ.pass b:=funext λj=>by rw[ht]
  have e3:(λk'=>(bK T i ⟨(T i).ph,.inl k,(T i).τ,g'⟩ k').ph.live)=λk'=>(T k').ph.live:=funext λj=>by rw[hp]
  rw[e1,e2,e3];exact h.dy.tr.mutes aS h.st.noWg _ _ hm
theorem Inv.ownG {K:Bool->Ph L->Nat->cH->bD->aE->Prop}(h:Inv P ty Wg A Fin Shun gs w t T ch)(hi:gs[i]? =some x)(dN:l9 x (T i).g)(hl:(T i).ph.live){ι:Type}{f:ι->Rk}(hr:(T i).r=.inr (.mk ι f))
 (hK:∀m ph d τ g w,K m ph d τ g w->∃k,pI P ty Wg A Fin (f k) m ph d τ g w) (ho:GoG P Wg K (i==0) (T i).ph (gX t i) (T i).τ (T i).g w):vU P ty Wg A Fin Shun gs w t T sl i:=by
 have aS:i<gs.size:=(eB.1 hi).1;obtain⟨g',w',es,aY,mG,hg,yD,hk⟩:=ho;obtain⟨k,hB⟩:=hK _ _ _ _ _ _ hk;have pD:¬(T i).ph.leaves:=λe=>by cases hp:(T i).ph<;>rw[hp] at e hl<;>first|exact e.elim|exact hl.elim
 have hS:=h.st.grow hl hg (.inr (f k)) g';refine Zf hi h.st.n0 (Ti:=⟨(T i).ph,.inr (f k),(T i).τ.grow w w',g'⟩) zbl Qu hS ?_
 refine h.dy.go hi ((pN (T:=⟨(T i).ph,.inr (f k),(T i).τ.grow w w',g'⟩) pD).2 ⟨f k,rfl,hB,.inl (l9.self mG)⟩) Ke (λj hj=>h.st.suf hg hj) h.dy.keepC
  (h.dy.keepW λe=>(hg.keep Wg h.st.grp.live.lt λe=>((h.st.bnd i Wg (.inl e)).2.1 rfl)).symm.trans e) ?_
 have hp:∀j,(bK T i ⟨(T i).ph,.inr (f k),(T i).τ.grow w w',g'⟩ j).ph=(T j).ph:=λj=>by
  by_cases hj:j=i
  .subst hj;simp[upd_same]
  .simp[upd_ne _ _ hj]
 have Qn:bK T i ⟨(T i).ph,.inr (f k),(T i).τ.grow w w',g'⟩ i=⟨(T i).ph,.inr (f k),(T i).τ.grow w w',g'⟩:=upd_same _ _ _;refine hS.tiEvents aS (by rw[hp];exact hl) _ _ ?_ λe he=>?_
 .have e3:(λk'=>(bK T i ⟨(T i).ph,.inr (f k),(T i).τ.grow w w',g'⟩ k').ph.live)=λk'=>(T k').ph.live:=funext λj=>by rw[hp]
  rw[e3];refine h.dy.tr.less (λk' b _ hb=>?_) (λk' b _ hb=>?_) hg.size
  .by_cases hj:k'=i
   .subst hj;rw[upd_same] at hb;exact hb.imp id (·.1)
   .rw[upd_ne _ _ hj] at hb;exact .inl hb
  .by_cases hj:k'=i
   .subst hj;rw[upd_same] at hb;exact .inl hb
   .rw[upd_ne _ _ hj] at hb;exact .inl hb
 .rw[Qn]
  refine okL_evT (yD e he) (λb hb=>.inl hb) (λb hb=>?_) (by have:=h.st.grp.live.lt;have:=hg.size;omega);have:=hS.bnd i b (by rw[Qn];exact hb);omega
end
section
variable {L:Type}{P:bZ}{ty:aM}{Wg:Nat}{A:jM L}{Fin:bD->aE->Prop}{Shun:rC->Prop}
variable {gs:Array bD}{w w':aE}{t:mQ}{T:Nat->Td L}{ch vZ:rJ}{sl:Option (Nat×Nat)}{i j:Nat}{x g':bD}{es:Array rK}
theorem zfP (T:Nat->Td L)(i:Nat)(ph':Ph L)(r:Cp)(g':bD)(j:Nat):(bK T i ⟨ph',r,(T i).τ,g'⟩ j).τ=(T j).τ:=by
 by_cases hj:j=i
 .subst hj;simp[upd_same]
 .simp[upd_ne _ _ hj]
theorem zD0 (T:Nat->Td L)(i:Nat){ph':Ph L}(r:Cp)(τ:cH)(g':bD)(h:ph'.live↔(T i).ph.live):(λk=>(bK T i ⟨ph',r,τ,g'⟩ k).ph.live)=λk=>(T k).ph.live:=by
 funext j;by_cases hj:j=i
 .subst hj;simp[upd_same,h]
 .simp[upd_ne _ _ hj]
theorem TI.phase {n B:Nat}{ph':Ph L}(r:Cp)(g':bD)(h:TI Wg n (λk=>(T k).τ.own) (λk b=>(T k).τ.still b\/(T k).τ.pass b) (λk=>(T k).ph.live) Shun B t)(hl:ph'.live↔(T i).ph.live):
 TI Wg n (λk=>(bK T i ⟨ph',r,(T i).τ,g'⟩ k).τ.own) (λk b=>(bK T i ⟨ph',r,(T i).τ,g'⟩ k).τ.still b\/(bK T i ⟨ph',r,(T i).τ,g'⟩ k).τ.pass b) (λk=>(bK T i ⟨ph',r,(T i).τ,g'⟩ k).ph.live) Shun B t:=by
 have e1:(λk'=>(bK T i ⟨ph',r,(T i).τ,g'⟩ k').τ.own)=λk'=>(T k').τ.own:=funext λj=>by rw[zfP]
 have e2:(λk' b=>(bK T i ⟨ph',r,(T i).τ,g'⟩ k').τ.still b\/(bK T i ⟨ph',r,(T i).τ,g'⟩ k').τ.pass b)=λk' b=>(T k').τ.still b\/(T k').τ.pass b:=funext λj=>by rw[zfP]
 rw[e1,e2,zD0 T i r _ g' hl];exact h
theorem Inv.alive (h:Inv P ty Wg A Fin Shun gs w t T ch)(hi:gs[i]? =some x)(dN:l9 x (T i).g)(aY:stepG P (i==0) (T i).g w=.go g' w' es)(mG:g'.status=.running){ι:Type}{f:ι->Rk}(hr:(T i).r=.inr (.mk ι f))
 (hl:(T i).ph.live) {ph':Ph L} (Ar:ph'.live) (a:Lg Wg w w') (Pu:WgLive ty Wg w->WgLive ty Wg w')
 (hK:∃k,pI P ty Wg A Fin (f k) (i==0) ph' (oK (gX t i) es) (T i).τ g' w') (h1:i≠0->¬ph'.waits)
 (Cd:gK A ty Wg (bK (λj=>(T j).ph) i ph') gs.size w') (hinv:A.Inv (bK (λj=>(T j).ph.proj) i ph'.proj) ch) (hW:jL ty Wg w' 0 1->jL ty Wg w 0 1)
 (yD:∀e∈es,OkL Wg (T i).τ.own (λb=>(T i).τ.still b\/(T i).τ.pass b) i w'.heap.size e):vU P ty Wg A Fin Shun gs w t T sl i:=by
 have aS:i<gs.size:=(eB.1 hi).1;obtain⟨k,hB⟩:=hK;have pD:¬ph'.leaves:=λe=>by cases ph'<;>first|exact e.elim|exact Ar.elim
 have Ca:(T i).ph≠ .gone:=λe=>by rw[e] at hl;exact hl
 have hS:=h.st.phase (r:=.inr (f k)) (g':=g') Ca aS a ph' (λe=>by rw[e] at Ar;exact Ar) (λ_=>Ar) h1 Pu (λl e=>by cases ph'<;>simp_all [Ph.proj,Ph.live]) Cd hinv;have Qn:bK T i ⟨ph',.inr (f k),(T i).τ,g'⟩ i=⟨ph',.inr (f k),(T i).τ,g'⟩:=upd_same _ _ _;refine Zf hi h.st.n0 (Ti:=⟨ph',.inr (f k),(T i).τ,g'⟩) zbl Qu hS ?_
 refine h.dy.go hi ((pN (T:=⟨ph',.inr (f k),(T i).τ,g'⟩) pD).2 ⟨f k,rfl,hB,.inl (l9.self mG)⟩) Ke
  (λj _=>bX.of_aside a ⟨λe=>(h.st.bnd j Wg (.inl e)).2.1 rfl,λe=>(h.st.bnd j Wg (.inr e)).2.1 rfl⟩ Pu) h.dy.keepC (h.dy.keepW hW) ?_
 refine hS.tiEvents aS (by rw[Qn];exact Ar) _ _ ?_ λe he=>?_
 .have:=h.dy.tr.phase (i:=i) (ph':=ph') (.inr (f k)) g' ⟨λ_=>hl,λ_=>Ar⟩
  rwa [a.size]
 .rw[Qn];exact yD e he
theorem Inv.dead (h:Inv P ty Wg A Fin Shun gs w t T ch)(hi:gs[i]? =some x)(dN:l9 x (T i).g)(aY:stepG P (i==0) (T i).g w=.go g' w' es)(nX:g'.status≠ .blocked){Ti:Td L}(hr:Cl Ti.r (T i).r)(hτ:Ti.τ=(T i).τ)
 (hl:¬(T i).ph.live) (hg:(T i).ph≠ .gone) (h0:i≠0) (Ar:¬Ti.ph.live) (x7:Ti.ph≠ .gone) (a:Lg Wg w w') (Pu:WgLive ty Wg w->WgLive ty Wg w')
 (ziF:Sits P ty Wg A Fin i Ti (oK (gX t i) es) g' w') (zdg:Ti.ph.proj=(T i).ph.proj)
 (Cd:gK A ty Wg (bK (λj=>(T j).ph) i Ti.ph) gs.size w') (hW:(mayWake P (T i).g=true/\g'.status=.running)\/(jL ty Wg w' 0 1->jL ty Wg w 0 1))
 (yD:∀(l r:List rK) (e:rK),es.toList=l++e::r->(∀a,(jN e).touch? =some a->nQ a.loc Wg/\a.kind=.atomic/\0<oK (gX t i) l.toArray)/\jN e≠ .mark (.release (stA Wg))/\(jN e).low w'.heap.size):vU P ty Wg A Fin Shun gs w t T sl i:=by
 have aS:=(eB.1 hi).1;obtain⟨ph',r',τ',Sc⟩:=Ti;simp only at hτ Ar x7 zdg Cd hr;subst hτ;have K4:bK (λj=>(T j).ph.proj) i ph'.proj=λj=>(T j).ph.proj:=by rw[zdg];exact zfe (λj=>(T j).ph.proj) i
 have hS:=h.st.phase (r:=r') (g':=Sc) hg aS a ph' x7 (λe=>absurd e h0) (λ_ e=>by cases ph'<;>first|exact e.elim|exact Ar e) Pu (λl e=>.inl (by rw[<-zdg];exact e)) Cd (by rw[K4];exact h.st.inv);refine Zf hi h.st.n0 (Ti:=⟨ph',r',(T i).τ,Sc⟩) zbl hr hS ?_
 refine h.dy.go hi ziF nX
  (λj _=>bX.of_aside a ⟨λe=>(h.st.bnd j Wg (.inl e)).2.1 rfl,λe=>(h.st.bnd j Wg (.inr e)).2.1 rfl⟩ Pu) h.dy.keepC ?_ ?_
 .intro eR x0 tH yT hb cP
  rcases hW with⟨hm,yW⟩|hW
  .exfalso
   have hs:=h.dy.sit 0 x0 tH;rw[pN (by rw[yT];exact id)] at hs;obtain⟨_,_,_,hx|⟨_,_,_,hx,_⟩|⟨_,hx,ho⟩⟩:=hs
   .rw[hx.1] at hb;cases hb
   .rw[yT] at hx;cases hx
   .have zep:mayWake P x=true:=by
     rw[<-hm];unfold mayWake;rw[dN.2.1]
    rw[hx] at cP;unfold woken at cP;rw[zep,yW] at cP;simp[zgK,ho] at cP
  .exact h.dy.slpW x0 tH yT hb∘hW
 .have h1:=h.dy.tr.phase (i:=i) (ph':=ph') r' Sc ⟨λe=>absurd e Ar,λe=>absurd e hl⟩
  have h2:TI Wg gs.size (λk=>(bK T i ⟨ph',r',(T i).τ,Sc⟩ k).τ.own) (λk b=>(bK T i ⟨ph',r',(T i).τ,Sc⟩ k).τ.still b\/(bK T i ⟨ph',r',(T i).τ,Sc⟩ k).τ.pass b) (λk=>(bK T i ⟨ph',r',(T i).τ,Sc⟩ k).ph.live) Shun w'.heap.size t:=by rwa [a.size]
  have:=h2.deafs (k:=i) aS hS.noWg x.frame.fn x.frame.place es.toList yD;simpa using this
theorem zox {n B d:Nat}{es:Array rK}(hm:∀e∈es,zfZ e=true):∀(l r:List rK) (e:rK),es.toList=l++e::r->(∀a,(jN e).touch? =some a->nQ a.loc Wg/\a.kind=.atomic/\0<oK d l.toArray)/\jN e≠ .mark (.release (stA Wg))/\(jN e).low B:=by
 intro l r e he;have zeZ:=hm e (by rw[<-Array.mem_toList_iff,he];simp);have:=zhi (Wg:=Wg) (own:=λ_=>False) (pas:=λ_=>False) (k:=0) (B:=B) zeZ;exact⟨λa ha=>(by rw[znm zeZ] at ha;cases ha),this.2.1,this.2.2⟩
theorem Inv.idle1 {K:Bool->Ph L->Nat->cH->bD->aE->Prop}(h:Inv P ty Wg A Fin Shun gs w t T ch)(hi:gs[i]? =some x)(dN:l9 x (T i).g)(hl:¬(T i).ph.live)(pD:¬(T i).ph.leaves){ι:Type}{f:ι->Rk}(hr:(T i).r=.inr (.mk ι f))
 (hK:∀m ph d τ g w,K m ph d τ g w->∃k,pI P ty Wg A Fin (f k) m ph d τ g w) (ho:zao P ty Wg K (i==0) (T i).ph (gX t i) (T i).τ (T i).g w):vU P ty Wg A Fin Shun gs w t T sl i:=by
 obtain⟨g',es,aY,mG,hm,hk⟩:=ho w bX.refl;obtain⟨k,hB⟩:=hK _ _ _ _ _ _ hk;have h0:i≠0:=λe=>by subst e;exact hl h.st.role0
 have Ca:(T i).ph≠ .gone:=λe=>by rw[e] at pD;exact pD trivial
 have eu:=zfe (λj=>(T j).ph) i
 exact h.dead hi dN aY Ke (Ti:=⟨(T i).ph,.inr (f k),(T i).τ,g'⟩) Qu rfl hl Ca h0 hl Ca (Mv _ _) id
  ((pN (T:=⟨(T i).ph,.inr (f k),(T i).τ,g'⟩) pD).2 ⟨f k,rfl,hB,.inl (l9.self mG)⟩) rfl (by rw[eu];exact h.st.grp) (.inr id) (zox (n:=0) hm)
theorem Inv.release (hA:A.Ok)(h:Inv P ty Wg A Fin Shun gs w t T ch)(hi:gs[i]? =some x)(dN:l9 x (T i).g)(aY:stepG P (i==0) (T i).g w=.go g' w #[oQ (.releaseMerge (stA Wg))])(mG:g'.status=.running){ι:Type}{f:ι->Rk}(hr:(T i).r=.inr (.mk ι f))
 {l:L} (hl:(T i).ph=.usr l) (rE:A.act l=.done) (hd:gX t i=0) (uG:∀aJ,bX ty Wg (T i).τ w aJ->A.dep l aJ)
 (hK:∃k,pI P ty Wg A Fin (f k) (i==0) (.rel l) 0 (T i).τ g' w):vU P ty Wg A Fin Shun gs w t T sl i:=by
 have aS:=(eB.1 hi).1;obtain⟨k,hB⟩:=hK;obtain⟨h0,hinv⟩:=hA.done _ ch i l h.st.inv (by show(T i).ph.proj=_;rw[hl];rfl) rE;have Cd:gK A ty Wg (bK (λj=>(T j).ph) i (.rel l)) gs.size w:=by
  refine h.st.grp.congr (.inl (upd_ne _ _ (Ne.symm h0))) ?_ λj hj=>?_
  .unfold vv
   rw[zgU A _ h0];have:=zhc (λj=>(T j).ph) (i:=i) (n:=gs.size) (.rel l) aS h0;simp only[hl,Ph.pre,if_true] at this;omega
  .by_cases fI:j=i
   .subst fI;rw[upd_same] at hj
    have:=hj;rw[hl] at this;exact(this.elim id id).elim
   .exact upd_ne _ _ fI
 have hS:=h.st.phase (r:=.inr (f k)) (g':=g') (by rw[hl];simp) aS (Mv _ _) (.rel l) aN (λe=>absurd e h0) (λ_ e=>e) id (λl' e=>.inr (by
  simp only[Ph.proj,Pj.over.injEq] at e;subst e;exact uG)) Cd hinv
 refine Zf hi h.st.n0 (Ti:=⟨.rel l,.inr (f k),(T i).τ,g'⟩) zbl Qu hS ?_;refine h.dy.go hi ((pN (T:=⟨.rel l,.inr (f k),(T i).τ,g'⟩) (by exact id)).2 ⟨f k,rfl,?_,.inl (l9.self mG)⟩) Ke (λj _=>bX.refl) h.dy.keepC (h.dy.keepW id) ?_
 .have:oK (gX t i) #[oQ (.releaseMerge (stA Wg))]=0:=by rw[hd];rfl
  rw[this];exact hB
 .have e1:(λk'=>(bK T i ⟨.rel l,.inr (f k),(T i).τ,g'⟩ k').τ.own)=λk'=>(T k').τ.own:=funext λj=>by rw[zfP]
  have e2:(λk' b=>(bK T i ⟨.rel l,.inr (f k),(T i).τ,g'⟩ k').τ.still b\/(bK T i ⟨.rel l,.inr (f k),(T i).τ,g'⟩ k').τ.pass b)=λk' b=>(T k').τ.still b\/(T k').τ.pass b:=funext λj=>by rw[zfP]
  rw[e1,e2];have nI:wO i x.frame.fn x.frame.place #[oQ (.releaseMerge (stA Wg))]=#[{g:=i,fn:=x.frame.fn,pos:=x.frame.place,act:=.mark (.releaseMerge (stA Wg))}]:=by simp[wO,oQ,jN]
  rw[nI];refine h.dy.tr.release aS rfl rfl hd h.st.grp.live.lt (λj hj=>?_) λj hj=>?_
  .by_cases fI:j=i
   .subst fI;rw[upd_same] at hj;exact hj.elim
   .rw[upd_ne _ _ fI] at hj;exact hj
  .by_cases fI:j=i
   .exact .inr fI
   .left;rw[upd_ne _ _ fI];exact hj
theorem Inv.acquire (h:Inv P ty Wg A Fin Shun gs w t T ch)(hi:gs[0]? =some x)(dN:l9 x (T 0).g)(aY:stepG P true (T 0).g w=.go g' w #[oQ (.acquire (stA Wg))])(mG:g'.status=.running)(hd:gX t 0=0)
 (hq:∀j,j≠0->(T j).ph.leaves) (hF:Fin g' w):vU P ty Wg A Fin Shun gs w t T sl 0:=by
 have aS:0<gs.size:=h.st.n0;have Oj:stepG P (0==0) x w=.go g' w #[oQ (.acquire (stA Wg))]:=by rw[show((0:Nat)==0)=true from rfl,dN.step];exact aY
 refine⟨_,_,zcz hi Oj,.inl ⟨_,g',w,sl,λj=>match(T j).r with| .inl q=>q|_=>0,rfl,by simp[aS],mG,hF,?_⟩⟩;have nI:wO 0 x.frame.fn x.frame.place #[oQ (.acquire (stA Wg))]=#[{g:=0,fn:=x.frame.fn,pos:=x.frame.place,act:=.mark (.acquire (stA Wg))}]:=by simp[wO,oQ,jN]
 rw[nI]
 obtain⟨hP,qZ⟩:=h.dy.tr.acquire (y:={g:=0,fn:=x.frame.fn,pos:=x.frame.place,act:=.mark (.acquire (stA Wg))}) aS rfl rfl hd h.st.grp.live.lt (λj hj=>by
  refine Av λaU=>?_;have:=hq j aU;have qM:(T j).ph.live:=hj;cases hp:(T j).ph<;>rw[hp] at this qM<;>first|exact this.elim|exact qM.elim)
 refine⟨⟨λj y hj hy=>?_,λj hj=>qZ j zal⟩,hP⟩;have aU:0≠j:=aC;rw[tL aU,Cy] at hy;obtain⟨y0,zdf,rfl⟩:=zR.1 hy;have hs:=h.dy.sit j y0 zdf;rw[H8 (hq j aC)] at hs;obtain⟨q,N1,hQ⟩:=hs;rw[zcJ hQ,Qq t (g:=j) (g':=0) aU _ (λop hop=>by simp at hop;rw[hop])];simp_all
end
end Go.Mt
namespace Go.Mt
open Go.Conc
open Go.ConcR (KK wgBlock WgAt stA smA rd wr)
section
variable {L:Type}{P:bZ}{ty:aM}{Wg:Nat}{A:jM L}{Fin:bD->aE->Prop}{Shun:rC->Prop}
variable {gs gs':Array bD}{w w':aE}{t t':mQ}{T T':Nat->Td L}{ch vZ:rJ}{sl:Option (Nat×Nat)}{i j:Nat}{x g':bD}{es:Array rK}
theorem F0.gen (h:F0 (P:=P) (ty:=ty) (Wg:=Wg) (A:=A) (Fin:=Fin) gs w t T ch Shun)(M:Nat->Prop)(zov:∀j,¬M j->gs'[j]? =gs[j]? /\T' j=T j)
 (zHA:∀j y,M j->gs'[j]? =some y->y.status≠ .blocked/\Sits P ty Wg A Fin j (T' j) (gX t' j) y w') (zmL:∀j,¬M j->bX ty Wg (T j).τ w w') (zyO:∀j,¬M j->gX t' j=gX t j)
 (uF:∀c,vZ c=some true->ch c=some true) (hW:jL ty Wg w' 0 1->jL ty Wg w 0 1)
 (zk3:TI Wg gs'.size (λk=>(T' k).τ.own) (λk b=>(T' k).τ.still b\/(T' k).τ.pass b) (λk=>(T' k).ph.live) Shun w'.heap.size t'):
 F0 (P:=P) (ty:=ty) (Wg:=Wg) (A:=A) (Fin:=Fin) gs' w' t' T' vZ Shun:=by
 have old:∀(j:Nat) (g:bD) (cs:Array zmS) (sh:Nb),gs'[j]? =some (parked g cs sh)->gs[j]? =some (parked g cs sh):=by
  intro j g cs sh hj;by_cases hm:M j
  .exact absurd rfl (zHA j _ hm hj).1
  .simp_all
 refine⟨λj y hj=>?_,λa b ga gb c v z z' sh xC ha hb=>h.slp a b ga gb c v z z' sh xC (old _ _ _ _ ha) (old _ _ _ _ hb),λj g c z sh hj hc=>h.slpC j g c z sh (old _ _ _ _ hj) (uF c hc),λy hy yT hb=>?_,zk3⟩
 .by_cases hm:M j
  .simp_all
  .obtain⟨h1,h2⟩:=zov j hm
   rw[h2,zyO j hm];rw[h1] at hj;exact(h.sit j y hj).rely (zmL j hm)
 .by_cases hm:M 0
  .grind
  .obtain⟨h1,h2⟩:=zov 0 hm
   rw[h1] at hy;rw[h2] at yT;exact λe=>h.slpW y hy yT hb (hW e)
theorem zi0 (t:mQ)(g:Nat)(u:mQ)(hu:∀op∈u,op.act≠ .mark .disable/\op.act≠ .mark .enable):gX (t++u) g=gX t g:=by
 obtain⟨l⟩:=u;rw[Deaf_append];have key:∀(l:List Qm) (d:Nat),(∀op∈l,op.act≠ .mark .disable/\op.act≠ .mark .enable)->l.foldl (deafStep g) d=d:=by
  intro l
  induction l with
  |nil=>intro d _;rfl
  |cons y l ih=>
   intro d hl;have e:deafStep g d y=d:=by
    have:=hl y aN;unfold deafStep;split<;>simp_all
   simp_all
 simp_all
theorem TI.idles {n B:Nat}{own pas:Nat->Nat->Prop}{live:Nat->Prop}:∀(u:List Qm) {t:mQ},TI Wg n own pas live Shun B t->(∀op∈u,op.g<n/\op.act.touch? =none/\op.act≠ .mark (.release (stA Wg))/\op.act.low B)->TI Wg n own pas live Shun B (t++u.toArray)
 |[],t,h,_=>by simpa using h
 |y::u,t,h,hu=>by
  have e1:t++(y::u).toArray=(t++ #[y])++u.toArray:=by apply Jq;simp
  rw[e1];obtain⟨h1,h2,h3,h4⟩:=hu y aN;exact TI.idles u (h.idle h1 (λa ha=>by rw[h2] at ha;cases ha) h3 h4) λop hop=>hu op (by simp[hop])
theorem Inv.offerR (h:Inv P ty Wg A Fin Shun gs w t T ch){k c:Nat}{y:bD}(hk:gs[k]? =some y)(aU:offersAt y c false≠[]):
 ∃l ok nx s z b,(T k).ph=.usr l/\A.act l=.recv c ok nx s/\y=parked (T k).g #[rcase c z] (.recv b)/\(∀aJ,bX ty Wg (T k).τ w aJ->stepG P (k==0) (T k).g aJ=.comm (T k).g #[rcase c z] true (.recv b) aJ #[]):=by
 have hs:=h.dy.sit k y hk;by_cases hl:(T k).ph.leaves
 .rw[H8 hl] at hs
  obtain⟨q,_,hQ⟩:=hs;refine absurd (Ye ?_ c false) aU;rcases hQ.status with e|e<;>rw[e]<;>simp
 .rw[pN hl] at hs
  obtain⟨r,_,_,hx|⟨l,cs,sh,h1,rfl,h3,h4⟩|⟨_,rfl,ho⟩⟩:=hs
  .exact absurd (Ye (by rw[hx.1];simp) c false) aU
  .rcases h4 with⟨c',ok,pub,nx,v,z,h5,rfl,rfl⟩|⟨c',ok,nx,s,z,b,h5,rfl,rfl⟩
   .exact absurd (offersAt_parked_send' _ _ _ _ _ _) aU
   .rw[zmi] at aU
    grind
  .refine absurd ?_ aU
   simp[offersAt,ho]
theorem Inv.offerS (h:Inv P ty Wg A Fin Shun gs w t T ch){k c:Nat}{y:bD}(hk:gs[k]? =some y)(aU:offersAt y c true≠[]):
 ∃l ok pub nx v z,(T k).ph=.usr l/\A.act l=.send c ok pub nx/\y=parked (T k).g #[scase c v z] .send/\(∀aJ,bX ty Wg (T k).τ w aJ->stepG P (k==0) (T k).g aJ=.comm (T k).g #[scase c v z] true .send aJ #[]):=by
 have hs:=h.dy.sit k y hk;by_cases hl:(T k).ph.leaves
 .rw[H8 hl] at hs
  obtain⟨q,_,hQ⟩:=hs;refine absurd (Ye ?_ c true) aU;rcases hQ.status with e|e<;>rw[e]<;>simp
 .rw[pN hl] at hs
  obtain⟨r,_,_,hx|⟨l,cs,sh,h1,rfl,h3,h4⟩|⟨_,rfl,ho⟩⟩:=hs
  .exact absurd (Ye (by rw[hx.1];simp) c true) aU
  .rcases h4 with⟨c',ok,pub,nx,v,z,h5,rfl,rfl⟩|⟨c',ok,nx,s,z,b,h5,rfl,rfl⟩
   .rw[znj] at aU
    grind
   .exact absurd (offersAt_parked_recv' _ _ _ _ _) aU
  .refine absurd ?_ aU
   simp[offersAt,ho]
theorem setChan_at (w:aE)(c cap:Nat)(Kt:Array aF)(cl:Bool)(s r:Nat)(tm:Bool)(h:c<w.heap.size):(w.setChan c cap Kt cl s r tm).heap[c]? =some (.chan cap Kt cl s r tm):=by
 simp[Kw,h]
theorem zoH (w:aE)(c cap:Nat)(Kt:Array aF)(cl:Bool)(s r:Nat)(tm:Bool):Lg c w (w.setChan c cap Kt cl s r tm):=
 ⟨rfl,rfl,rfl,by simp[Kw],λk hk=>by simp only[Kw];rw[tL (Ne.symm hk)]⟩
theorem Inv.meet (hA:A.Ok)(h:Inv P ty Wg A Fin Shun gs w t T ch)(sM:i≠j)(oY:i<gs.size)(S4:j<gs.size){c:Nat}{li lj:L}{ok sN:aF->Prop}{pub:aF->List Nat}{nx pY:aF->L}{sh:L}
 (zih:(T i).ph=.usr li) (Q7:A.act li=.send c ok pub nx) (znY:(T j).ph=.usr lj) (zlJ:A.act lj=.recv c sN pY sh) {ιi ιj:Type} {fi:ιi->Rk} {fj:ιj->Rk} (zDf:(T i).r=.inr (.mk ιi fi)) (zcK:(T j).r=.inr (.mk ιj fj))
 {v:aF} {τ':cH} {b:Bool} (bS:ok v) (ho:∀b,τ'.own b->(T i).τ.own b) (aY:τ'.still=(T i).τ.still) (Sw:∀b,τ'.pass b->(T i).τ.pass b\/(T i).τ.own b)
 (Hu:∀a∈pub v,(T i).τ.own a/\¬τ'.own a/\¬τ'.still a/\Jf w a)
 (zAS:∃k,pI P ty Wg A Fin (fi k) (i==0) (.usr (nx v)) (gX t i) τ' (o8 (T i).g aA) w)
 (zCu:sN v->(∀a∈A.got lj v,a<w.heap.size/\¬(T j).τ.own a/\¬(T j).τ.still a)->∃k,pI P ty Wg A Fin (fj k) (j==0) (.usr (pY v)) (gX t j) (T j).τ (o8 (T j).g (recvd b v true)) w)
 {s r:Nat} (hc:w.heap[c]? =some (.chan 0 #[] false s r false)) (cM:gs'.size=gs.size) (Gc:gs'[i]? =some (o8 (T i).g aA)) (Z7:gs'[j]? =some (o8 (T j).g (recvd b v true)))
 (zHO:∀k,k≠i->k≠j->gs'[k]? =gs[k]?) {u:mQ} (hu:∀op∈u,op.g<gs.size/\op.act.touch? =none/\op.act≠ .mark (.release (stA Wg))/\op.act.low w.heap.size/\op.act≠ .mark .disable/\op.act≠ .mark .enable):
 ∃T' vZ,Inv P ty Wg A Fin Shun gs' (w.setChan c 0 #[] false (s+1) (r+1) false) (t++u) T' vZ/\Mu.lt (mu gs' T') (mu gs T):=by
 have zbi:(λk=>(T k).ph.proj) i=.run li:=by show(T i).ph.proj=_;rw[zih];rfl
 have K4:(λk=>(T k).ph.proj) j=.run lj:=by show(T j).ph.proj=_;rw[znY];rfl
 have Nt:ch c=some false:=hA.sendC _ ch i li c ok pub nx h.st.inv zbi Q7;obtain⟨zyH,hinv⟩:=hA.meet _ ch i j li lj c ok pub nx sN pY sh v h.st.inv zbi K4 Q7 zlJ bS λa ha=>(h.st.bnd i a (.inl (Hu a ha).1)).2.2;obtain⟨ki,zAp⟩:=zAS
 obtain⟨kj,zzn⟩:=zCu zyH λa ha=>by
  obtain⟨p1,_,_,p4⟩:=Hu a (hA.gotP _ ch i j li lj c ok pub nx sN pY sh v h.st.inv zbi K4 Q7 zlJ bS a ha);obtain⟨q1,q2,_⟩:=h.st.sep i j a sM p1;exact⟨(eB.1 p4).1,q1,q2⟩
 have Jw:c<w.heap.size:=(eB.1 hc).1;have a:=zoH w c 0 #[] false (s+1) (r+1) false;have Ap:=(h.st.chan c _ Nt).1
 have hS:=h.st.meet sM oY S4 Nt a zih znY (.inr (fi ki)) (.inr (fj kj)) (o8 (T i).g aA) (o8 (T j).g (recvd b v true)) τ' (pub v) ho aY Sw Hu
  ⟨s+1,r+1,setChan_at w c 0 #[] false (s+1) (r+1) false Jw⟩ (li':=nx v) (lj':=pY v) (hA.pendC li _ c v ok pub nx Q7 rfl) (hA.pendR lj _ c v sN pY sh zlJ (.inl rfl)) hinv
 have nc:∀k,¬(T k).τ.own c/\¬(T k).τ.still c:=λk=>⟨λe=>zog,λe=>zwE⟩;have Lm:∀k,gX (t++u) k=gX t k:=λk=>zi0 t k u λop hop=>⟨(hu op hop).2.2.2.2.1,(hu op hop).2.2.2.2.2⟩;generalize hU:bK (bK T i ⟨.usr (nx v),.inr (fi ki),τ',o8 (T i).g aA⟩) j ⟨.usr (pY v),.inr (fj kj),(T j).τ,o8 (T j).g (recvd b v true)⟩=U at hS;have ui:U i=⟨.usr (nx v),.inr (fi ki),τ',o8 (T i).g aA⟩:=by rw[<-hU,upd_ne _ _ sM,upd_same]
 have uj:U j=⟨.usr (pY v),.inr (fj kj),(T j).τ,o8 (T j).g (recvd b v true)⟩:=by rw[<-hU,upd_same]
 have uk:∀k,k≠i->k≠j->U k=T k:=λk h1 h2=>by rw[<-hU,upd_ne _ _ h2,upd_ne _ _ h1]
 refine⟨U,ch.opn (pub v),⟨by rw[cM];exact hS,h.dy.gen (λk=>k=i\/k=j) (λk hk=>⟨zHO k (λe=>hk (.inl e)) (λe=>hk (.inr e)),uk k (λe=>hk (.inl e)) (λe=>hk (.inr e))⟩) (λk y hk hy=>?_)
  (λk _=>bX.of_aside a (nc k) (Xd a Ap)) (λk _=>Lm k) (λc' kO=>?_) (λe=>(a.block Wg (Ne.symm Ap)).symm.trans e) ?_⟩,?_⟩
 .rcases hk with rfl|rfl
  .rw[Gc] at hy;cases hy
   refine⟨by simp[o8],?_⟩;rw[ui,Lm];refine(pN (T:=⟨.usr (nx v),.inr (fi ki),τ',o8 (T k).g aA⟩) id).2 ⟨fi ki,rfl,zAp.rely (bX.of_aside a ⟨λe=>(nc k).1 (ho c e),λe=>(nc k).2 (aY▸e)⟩ (Xd a Ap)),.inl (l9.self rfl)⟩
  .rw[Z7] at hy;cases hy
   refine⟨by simp[o8],?_⟩;rw[uj,Lm];exact(pN (T:=⟨.usr (pY v),.inr (fj kj),(T k).τ,o8 (T k).g (recvd b v true)⟩) id).2 ⟨fj kj,rfl,zzn.rely (bX.of_aside a (nc k) (Xd a Ap)),.inl (l9.self rfl)⟩
 .by_cases hp:c'∈pub v
  .rw[zeR hp] at kO;cases kO
  .rw[Xo hp] at kO;exact kO
 .rw[cM,a.size]
  have h1:=h.dy.tr.idles u.toList (λop hop=>by simp_all);have e0:u.toList.toArray=u:=aN;rw[e0] at h1;have e3:(λk=>(U k).ph.live)=λk=>(T k).ph.live:=funext λk=>by
   by_cases k1:k=i
   .subst k1;rw[ui,zih];rfl
   .by_cases k2:k=j
    .subst k2;rw[uj,znY];rfl
    .rw[uk k k1 k2]
  rw[e3];refine h1.less (λk b _ hb=>?_) (λk b _ hb=>?_) (bF _)
  .grind
  grind
 .rcases qX i j with aS|Cm
  .exact Xg (i:=i) (λ_=>cM) aC oY aC (by rw[ui,zDf];exact .inr (.mk fi ki)) λk hk=>by grind
  .exact Xg (i:=j) (λ_=>cM) aC S4 aC (by rw[uj,zcK];exact .inr (.mk fj kj)) λk hk=>by grind
theorem zGz {xs:Array bD}{i:Nat}{y z:bD}(h:xs[i]? =some y)(hy:Mm y=true)(hz:Mm z=false):(xs.setIfInBounds i z).countP Mm<xs.countP Mm:=by
 obtain⟨aS,rfl⟩:=eB.1 h;have e:xs.setIfInBounds i z=xs.set i z:=by simp[Array.setIfInBounds,aS]
 rw[e,Array.countP_set aS];have:0<xs.countP Mm:=Array.countP_pos_iff.2 ⟨xs[i],Array.getElem_mem aS,hy⟩
 grind
theorem Inv.park (h:Inv P ty Wg A Fin Shun gs w t T ch)(hi:gs[i]? =some x)(cN:x.status=.running)(pD:¬(T i).ph.leaves){y:bD}(hy:y.status=.blocked)
 (hP:zdF P ty Wg A (i==0) (T i) y w\/zkI (T i) y) (hW:i=0->(T 0).ph=.w3->¬jL ty Wg w 0 1)
 (hR:∀(c:Nat) (v z:aF) (sh:Nb) (g:bD),y=parked g #[scase c v z] sh->∀(k:Nat) (yk:bD),gs[k]? =some yk->offersAt yk c false=[]) (hS:∀(c:Nat) (z:aF) (sh:Nb) (g:bD),y=parked g #[rcase c z] sh->ch c≠some true/\∀(k:Nat) (yk:bD),gs[k]? =some yk->offersAt yk c true=[]):
 Inv P ty Wg A Fin Shun (gs.setIfInBounds i y) w (t++ #[]) T ch/\Mu.lt (mu (gs.setIfInBounds i y) T) (mu gs T):=by
 have aS:i<gs.size:=(eB.1 hi).1;have cM:(gs.setIfInBounds i y).size=gs.size:=aN;have get:∀(k:Nat) (z:bD),(gs.setIfInBounds i y)[k]? =some z->(k=i/\z=y)\/(k≠i/\gs[k]? =some z):=by
  intro k z hk;by_cases Jc:i=k
  .simp_all
  .grind
 have et:t++ #[]=t:=aN;refine⟨⟨by rw[cM];exact h.st,?_⟩,mu_dec' cM (zGz hi (by simp[Mm,cN]) (by simp[Mm,hy]))⟩;rw[et];refine⟨λk z hk=>?_,λa b ga gb c v z z' sh xC ha hb=>?_,λk g c z sh hk=>?_,λz hz yT hb=>?_,by rw[cM];exact h.dy.tr⟩
 .rcases get k z hk with⟨rfl,rfl⟩|⟨aU,cU⟩
  .have hs:=h.dy.sit k x hi
   rw[pN pD] at hs⊢
   grind
  .exact h.dy.sit k z cU
 .rcases get a _ ha with⟨ea,fV⟩|⟨Uo,fV⟩
  .rcases get b _ hb with⟨eb,bU⟩|⟨nX,bU⟩
   .rw[<-fV] at bU
    simp[parked,rcase,scase] at bU
   .have:=hR c v z sh ga fV.symm b _ bU
    rw[zmi] at this;simp at this
  .rcases get b _ hb with⟨eb,bU⟩|⟨nX,bU⟩
   .have:=(hS c z' xC gb bU.symm).2 a _ fV
    rw[znj] at this;simp at this
   .exact h.dy.slp a b ga gb c v z z' sh xC fV bU
 .rcases get k _ hk with⟨_,e⟩|⟨_,cU⟩
  .grind
  .exact h.dy.slpC k g c z sh cU
 .rcases get 0 z hz with⟨e,_⟩|⟨_,cU⟩
  .exact hW e.symm yT
  .exact h.dy.slpW z cU yT hb
end
section
variable {L:Type}{P:bZ}{ty:aM}{Wg:Nat}{A:jM L}{Fin:bD->aE->Prop}{Shun:rC->Prop}
variable {gs gs':Array bD}{w w':aE}{t t':mQ}{T T':Nat->Td L}{ch vZ:rJ}{sl:Option (Nat×Nat)}{i j:Nat}{x g':bD}{es:Array rK}
def zgM (i:Nat)(fn:aQ)(pos:String):wO i fn pos #[]=#[]:=rfl
variable {b:Bool}
theorem zlk {c:Nat}(h:∀(k:Nat) (y:bD),gs[k]? =some y->offersAt y c b=[]):partners (gs.setIfInBounds i zd0) c b=[]:=by
 refine partners_nil λk y hk=>?_;rcases zpt gs i k y hk with⟨_,rfl⟩|⟨_,cU⟩
 .rfl
 .exact h k y cU
theorem ztx {c k:Nat}{y:bD}(Jc:k≠i)(hk:gs[k]? =some y)(ho:offersAt y c b=[0])(h:∀(m:Nat) (z:bD),m≠k->gs[m]? =some z->offersAt z c b=[]):partners (gs.setIfInBounds i zd0) c b=[(k,0)]:=by
 rw[partners_one (stand_get Jc hk) λm z hm hz=>?_,ho]
 .rfl
 .rcases zpt gs i m z hz with⟨_,rfl⟩|⟨_,It⟩
  .rfl
  .exact h m z hm It
theorem Inv.send (hA:A.Ok)(h:Inv P ty Wg A Fin Shun gs w t T ch)(hi:gs[i]? =some x)(dN:l9 x (T i).g){ι:Type}{f:ι->Rk}(hr:(T i).r=.inr (.mk ι f)){l:L}(hl:(T i).ph=.usr l){c:Nat}{ok:aF->Prop}{pub:aF->List Nat}{nx:aF->L}
 (ha:A.act l=.send c ok pub nx) (hB:mY P ty Wg A (λm ph d τ g w=>∃k,pI P ty Wg A Fin (f k) m ph d τ g w) (i==0) l (gX t i) (T i).τ (T i).g w):vU P ty Wg A Fin Shun gs w t T sl i:=by
 have aS:i<gs.size:=(eB.1 hi).1;unfold mY at hB;rw[ha] at hB;obtain⟨M0,v,z,τ',h1,h2,h3,h4,Ks,h5,h6⟩:=hB;have hp:(λk=>(T k).ph.proj) i=.run l:=by show(T i).ph.proj=_;rw[hl];rfl
 have Nt:=hA.sendC _ ch i l c ok pub nx h.st.inv hp ha;obtain⟨_,s,r,hc⟩:=h.st.chan c _ Nt;have vQ:stepG P (i==0) x w=.comm (T i).g #[scase c v z] true .send w #[]:=by rw[dN.step];exact h1 w bX.refl
 by_cases hk:∃(k:Nat) (y:bD),gs[k]? =some y/\offersAt y c false≠[]
 .obtain⟨k,y,hk,aU⟩:=hk
  have Jc:k≠i:=λe=>by
   subst e;rw[hi] at hk;cases hk;exact aU (Ye (by rw[dN.1];simp) c false)
  have zdj:k<gs.size:=(eB.1 hk).1;obtain⟨lk,sN,pY,sh,zk,b,xW,Nf,rfl,zbY⟩:=h.offerR hk aU;have zk7:(λk=>(T k).ph.proj) k=.run lk:=by show(T k).ph.proj=_;rw[xW];rfl
  have zkq:partners (gs.setIfInBounds i zd0) c false=[(k,0)]:=by
   refine ztx Jc hk (by rw[zmi];simp) λm y' hm zkn=>Av λhn=>?_;obtain⟨lm,zh3,zix,sm,_,_,Vz,zl0,_⟩:=h.offerR zkn hn;exact hm (hA.recv1 _ ch m k lm lk c zh3 zix sm sN pY sh h.st.inv (by show(T m).ph.proj=_;rw[Vz];rfl) zk7 zl0 Nf)
  have zc4:=crowd_send_meets (P:=P) (sl:=sl) hi vQ hc Jc hk zkq;have hs:=h.dy.sit k _ hk;rw[pN (by rw[xW];exact id)] at hs;obtain⟨rk,ziY,yP,_⟩:=hs
  cases rk with
  |mk ιk fk=>
   obtain⟨_,yP⟩:=yP;rw[xW] at yP;rcases yP with yP|yP
   .obtain⟨g',w',es,aY,_⟩:=yP w bX.refl
    rw[zbY w bX.refl] at aY;cases aY
   .simp only[Au,mY,Nf] at yP
    obtain⟨_,z',b',qY,qO,J3⟩:=yP;have e:=(qY w bX.refl).symm.trans (zbY w bX.refl);simp only[zsF,rcase,zhg,Xs,zgQ,zAa,true_and,and_true] at e;obtain⟨_,eb⟩:=e;subst eb
    obtain⟨T',vZ,hI,Pc⟩:=h.meet hA (Ne.symm Jc) aS zdj hl ha xW Nf hr ziY (v:=v) (τ':=τ') (b:=b') h2 h3 h4 Ks h5 h6 (λhv hg=>qO v hv w bX.refl hg) hc
     (gs':=(gs.setIfInBounds k (o8 (T k).g (recvd b' v true))).setIfInBounds i (o8 (T i).g aA)) aN (by simp[aS]) sU
     (λm h1 h2=>by grind)
     (u:=#[{g:=i,fn:=(T i).g.frame.fn,pos:=(T i).g.frame.place,act:=.send c s},{g:=k,fn:=(T k).g.frame.fn,pos:=(T k).g.frame.place,act:=.recv c r 0},{g:=i,fn:=(T i).g.frame.fn,pos:=(T i).g.frame.place,act:=.sendDone c s},{g:=k,fn:=(T k).g.frame.fn,pos:=(T k).g.frame.place,act:=.recvDone c r}])
     (λop hop=>by
      have Jw:c<w.heap.size:=(eB.1 hc).1;simp only[J9,mD,nE,or_false] at hop;rcases hop with rfl|rfl|rfl|rfl<;>exact⟨aC,rfl,aN,Jw,aN,aN⟩)
    rw[zmf,zso,zgM,zle] at zc4;exact⟨_,_,zc4,.inr ⟨_,_,sl,T',vZ,rfl,hI,Pc⟩⟩
 .have fP:∀(k:Nat) (y:bD),gs[k]? =some y->offersAt y c false=[]:=λk y zbL=>Av λhn=>hk ⟨k,y,zbL,hn⟩
  have wU:=crowd_waits (P:=P) (sl:=sl) hi vQ (λcc tU=>by
   simp only[J9,mD,nE,or_false] at tU;subst tU;exact ways_send_none hc (lP _) (zlk fP))
  have hp:=h.park hi dN.1 zjL (y:=parked (T i).g #[scase c v z] .send) rfl (.inl ⟨l,_,_,hl,rfl,h1,.inl ⟨c,ok,pub,nx,v,z,ha,rfl,rfl⟩⟩) (λe e2=>by subst e;rw[hl] at e2;cases e2)
   (λc' v' z' xC g' e=>by
    simp only[parked,zva,jP,sG,zhg,Xs,scase,zgQ,zvt,and_true,true_and] at e;obtain⟨_,_,_,⟨e,_⟩,_⟩:=e;subst e;exact fP)
   (λc' z' xC g' e=>by simp[parked,scase,rcase] at e)
  exact⟨_,_,wU,.inr ⟨_,_,sl,T,ch,rfl,hp.1,hp.2⟩⟩
theorem Inv.recv (hA:A.Ok)(h:Inv P ty Wg A Fin Shun gs w t T ch)(hi:gs[i]? =some x)(dN:l9 x (T i).g){ι:Type}{f:ι->Rk}(hr:(T i).r=.inr (.mk ι f)){l:L}(hl:(T i).ph=.usr l){c:Nat}{ok:aF->Prop}{nx:aF->L}{sh:L}
 (ha:A.act l=.recv c ok nx sh) (hB:mY P ty Wg A (λm ph d τ g w=>∃k,pI P ty Wg A Fin (f k) m ph d τ g w) (i==0) l (gX t i) (T i).τ (T i).g w):vU P ty Wg A Fin Shun gs w t T sl i:=by
 have aS:i<gs.size:=(eB.1 hi).1;unfold mY at hB;rw[ha] at hB;obtain⟨M0,z,b,h1,h2,h3⟩:=hB;have hp:(λk=>(T k).ph.proj) i=.run l:=by show(T i).ph.proj=_;rw[hl];rfl
 obtain⟨cl,mU⟩:=hA.recvC _ ch i l c ok nx sh h.st.inv hp ha;obtain⟨Ap,s,r,hc⟩:=h.st.chan c _ mU;have Jw:c<w.heap.size:=(eB.1 hc).1;have vQ:stepG P (i==0) x w=.comm (T i).g #[rcase c z] true (.recv b) w #[]:=by rw[dN.step];exact h1 w bX.refl
 cases cl with
 |true=>
  have fP:∀(k:Nat) (y:bD),gs[k]? =some y->offersAt y c true=[]:=λk y zbL=>Av λhn=>by
   obtain⟨lk,zAn,zAb,zz5,_,_,xW,Nf,_⟩:=h.offerS zbL hn;have:=hA.sendC _ ch k lk c zAn zAb zz5 h.st.inv (by show(T k).ph.proj=_;rw[xW];rfl) Nf;rw[mU] at this;cases this
  have cN:=crowd_recv_closed (P:=P) (sl:=sl) hi vQ hc (zlk fP);rw[zmf,zgM,zle] at cN;obtain⟨zC7,hinv⟩:=hA.shut _ ch i l c ok nx sh h.st.inv hp ha mU;obtain⟨k,hk⟩:=h3 zC7;have Cd:=gK.usr (l:=l) h.st.grp hl aS (hA.pendR l sh c aA ok nx sh ha (.inr rfl));have hS:=h.st.phase (r:=.inr (f k)) (g':=o8 (T i).g (recvd b z false)) (by rw[hl];simp) aS (Mv _ _) (.usr sh) aN (λ_=>trivial) (λ_ e=>e) id (λl' e=>by simp[Ph.proj] at e) Cd hinv;have cM:(gs.setIfInBounds i (o8 (T i).g (recvd b z false))).size=gs.size:=aN;have Lm:∀k,gX (t++(#[{g:=i,fn:=(T i).g.frame.fn,pos:=(T i).g.frame.place,act:=.recvClosed c}]:mQ)) k=gX t k:=λk=>zi0 t k _ λop hop=>by
   simp only[J9,mD,nE,or_false] at hop;subst hop;exact⟨aN,aN⟩
  refine⟨_,_,cN,.inr ⟨gs.setIfInBounds i (o8 (T i).g (recvd b z false)),w,sl,bK T i ⟨.usr sh,.inr (f k),(T i).τ,o8 (T i).g (recvd b z false)⟩,ch,rfl,⟨by rw[cM];exact hS,?_⟩,?_⟩⟩
  .show F0 _ _ (t++(#[{g:=i,fn:=(T i).g.frame.fn,pos:=(T i).g.frame.place,act:=.recvClosed c}]:mQ)) _ _ _
   refine h.dy.gen (λk'=>k'=i) (λk' cU=>⟨by rw[tL (Ne.symm cU)],upd_ne _ _ cU⟩) (λk' y cU hy=>?_) (λ_ _=>bX.refl) (λk' _=>Lm k') (λ_ e=>e) id ?_
   .subst cU
    rw[zkR aS] at hy;cases hy;refine⟨by simp[o8],?_⟩;rw[upd_same,Lm];exact(pN (T:=⟨.usr sh,.inr (f k),(T k').τ,o8 (T k').g (recvd b z false)⟩) id).2 ⟨f k,rfl,hk,.inl (l9.self rfl)⟩
   .rw[cM]
    have h0:=h.dy.tr.phase (i:=i) (ph':=.usr sh) (.inr (f k)) (o8 (T i).g (recvd b z false)) ⟨λ_=>by rw[hl];trivial,λ_=>trivial⟩;exact h0.idles [{g:=i,fn:=(T i).g.frame.fn,pos:=(T i).g.frame.place,act:=.recvClosed c}] λop hop=>by
     simp only[mD,nE,or_false] at hop;subst hop;exact⟨aS,rfl,aN,Jw⟩
  .exact Xg (i:=i) (λ_=>cM) aC aS aC zsk λk' cU=>by rw[upd_ne _ _ aC]
 |false=>
  by_cases hk:∃(k:Nat) (y:bD),gs[k]? =some y/\offersAt y c true≠[]
  .obtain⟨k,y,hk,aU⟩:=hk
   have Jc:k≠i:=λe=>by
    subst e;rw[hi] at hk;cases hk;exact aU (Ye (by rw[dN.1];simp) c true)
   have zdj:k<gs.size:=(eB.1 hk).1;obtain⟨lk,sN,Vp,pY,v,zk,xW,Nf,rfl,zbY⟩:=h.offerS hk aU;have zk7:(λk=>(T k).ph.proj) k=.run lk:=by show(T k).ph.proj=_;rw[xW];rfl
   have zkq:partners (gs.setIfInBounds i zd0) c true=[(k,0)]:=by
    refine ztx Jc hk (by rw[znj];simp) λm y' hm zkn=>Av λhn=>?_;obtain⟨lm,zh3,zy5,zix,_,_,Vz,zl0,_⟩:=h.offerS zkn hn;exact hm (hA.send1 _ ch m k lm lk c zh3 zy5 zix sN Vp pY h.st.inv (by show(T m).ph.proj=_;rw[Vz];rfl) zk7 zl0 Nf)
   have zc4:=crowd_recv_meets (P:=P) (sl:=sl) hi vQ hc Jc hk zkq;have hs:=h.dy.sit k _ hk;rw[pN (by rw[xW];exact id)] at hs;obtain⟨rk,ziY,yP,_⟩:=hs
   cases rk with
   |mk ιk fk=>
    obtain⟨_,yP⟩:=yP;rw[xW] at yP;rcases yP with yP|yP
    .obtain⟨g',w',es,aY,_⟩:=yP w bX.refl
     rw[zbY w bX.refl] at aY;cases aY
    .simp only[Au,mY,Nf] at yP
     obtain⟨_,v',z',τ',qY,qO,J3,zhS,zDd,zA4,zEh⟩:=yP;have e:=(qY w bX.refl).symm.trans (zbY w bX.refl);simp only[zsF,scase,zhg,Xs,zgQ,jP,true_and,and_true] at e;obtain⟨ev,_⟩:=e;subst ev
     obtain⟨T',vZ,hI,Pc⟩:=h.meet hA Jc zdj aS xW Nf hl ha ziY hr (v:=v') (τ':=τ') (b:=b) qO J3 zhS zDd zA4 zEh (λhv hg=>h2 v' hv w bX.refl hg) hc
      (gs':=(gs.setIfInBounds k (o8 (T k).g aA)).setIfInBounds i (o8 (T i).g (recvd b v' true))) aN (by rw[tL (Ne.symm Jc)];simp[zdj]) (by simp[aS])
      (λm h1 h2=>by rw[tL (Ne.symm h2),tL (Ne.symm h1)])
      (u:=#[{g:=k,fn:=(T k).g.frame.fn,pos:=(T k).g.frame.place,act:=.send c s},{g:=i,fn:=(T i).g.frame.fn,pos:=(T i).g.frame.place,act:=.recv c r 0},{g:=k,fn:=(T k).g.frame.fn,pos:=(T k).g.frame.place,act:=.sendDone c s},{g:=i,fn:=(T i).g.frame.fn,pos:=(T i).g.frame.place,act:=.recvDone c r}])
      (λop hop=>by
       simp only[J9,mD,nE,or_false] at hop;rcases hop with rfl|rfl|rfl|rfl<;>exact⟨by first|exact aS|exact zdj,rfl,aN,Jw,aN,aN⟩)
     rw[zmf,zso,zgM,zle] at zc4;exact⟨_,_,zc4,.inr ⟨_,_,sl,T',vZ,rfl,hI,Pc⟩⟩
  .have fP:∀(k:Nat) (y:bD),gs[k]? =some y->offersAt y c true=[]:=λk y zbL=>Av λhn=>hk ⟨k,y,zbL,hn⟩
   have wU:=crowd_waits (P:=P) (sl:=sl) hi vQ (λcc tU=>by
    simp only[J9,mD,nE,or_false] at tU;subst tU;exact ways_recv_none hc (zlk fP))
   have hp:=h.park hi dN.1 zjL (y:=parked (T i).g #[rcase c z] (.recv b)) rfl (.inl ⟨l,_,_,hl,rfl,h1,.inr ⟨c,ok,nx,sh,z,b,ha,rfl,rfl⟩⟩) (λe e2=>by subst e;rw[hl] at e2;cases e2)
    (λc' v' z' xC g' e=>by simp[parked,scase,rcase] at e)
    (λc' z' xC g' e=>by
     simp only[parked,zva,jP,sG,zhg,Xs,rcase,zgQ,zvt,and_true,true_and] at e;obtain⟨_,_,_,⟨e,_⟩,_⟩:=e;subst e;exact⟨(by rw[mU];simp),fP⟩)
   exact⟨_,_,wU,.inr ⟨_,_,sl,T,ch,rfl,hp.1,hp.2⟩⟩
theorem Inv.close (hA:A.Ok)(h:Inv P ty Wg A Fin Shun gs w t T ch)(hi:gs[i]? =some x)(dN:l9 x (T i).g){ι:Type}{f:ι->Rk}(hr:(T i).r=.inr (.mk ι f)){l:L}(hl:(T i).ph=.usr l){c:Nat}{nx:L}
 (ha:A.act l=.close c nx) (hB:mY P ty Wg A (λm ph d τ g w=>∃k,pI P ty Wg A Fin (f k) m ph d τ g w) (i==0) l (gX t i) (T i).τ (T i).g w):vU P ty Wg A Fin Shun gs w t T sl i:=by
 have aS:i<gs.size:=(eB.1 hi).1;unfold mY at hB;rw[ha] at hB;obtain⟨zcI,zER,h1⟩:=hB;have hp:(λk=>(T k).ph.proj) i=.run l:=by show(T i).ph.proj=_;rw[hl];rfl
 obtain⟨Nt,hinv⟩:=hA.close _ ch i l c nx h.st.inv hp ha;obtain⟨Ap,s,r,hc⟩:=h.st.chan c _ Nt;have Jw:c<w.heap.size:=(eB.1 hc).1;obtain⟨g',aY,mG,k,hk⟩:=h1 w bX.refl s r hc;have a:=zoH w c 0 #[] true s r false;have hS:=h.st.close aS Nt a hl (.inr (f k)) g' (l':=nx) ⟨s,r,setChan_at w c 0 #[] true s r false Jw⟩ (gK.usr (l:=l) h.st.grp hl aS (hA.pendX l c nx ha)) hinv;have nc:∀k,¬(T k).τ.own c/\¬(T k).τ.still c:=λk=>⟨λe=>zog,λe=>zwE⟩;have hd:oK (gX t i) (closeEvents c)=gX t i:=ztC (λe he=>by
  simp only[closeEvents,J9,mD,nE,or_false] at he;rcases he with rfl|rfl<;>exact⟨aN,aN⟩) _
 have zep:mayWake P x=true:=by rw[<-zcI];unfold mayWake;rw[dN.2.1]
 have Qn:bK T i ⟨.usr nx,.inr (f k),(T i).τ,g'⟩ i=⟨.usr nx,.inr (f k),(T i).τ,g'⟩:=upd_same _ _ _;refine Zf hi h.st.n0 (Ti:=⟨.usr nx,.inr (f k),(T i).τ,g'⟩) zbl Qu hS ?_
 refine h.dy.go hi (by rw[hd];exact(pN (T:=⟨.usr nx,.inr (f k),(T i).τ,g'⟩) id).2 ⟨f k,rfl,hk,.inl (l9.self mG)⟩) Ke (λj _=>bX.of_aside a (nc j) (Xd a Ap)) ?_
  (h.dy.keepW λe=>(a.block Wg (Ne.symm Ap)).symm.trans e) ?_
 .intro j gj c' z sh hj cP e
  by_cases tU:c'=c
  .subst tU
   unfold woken at cP;rw[zep,mG] at cP;have:=again_recv_closed (g:=gj) (z:=z) (sh:=sh) (setChan_at w c' 0 #[] true s r false Jw);simp only[Bool.true_and] at cP;rw[if_pos Lz,this] at cP;have:(GoStatus.running:GoStatus)=.blocked:=by
    have h2:=congrArg bD.status cP;simp[parked] at h2
   cases this
  .rw[upd_ne _ _ tU] at e
   exact h.dy.slpC j gj c' z sh hj e
 .refine hS.tiEvents aS (by rw[Qn];trivial) _ _ ?_ λe he=>?_
  .have:=h.dy.tr.phase (i:=i) (ph':=.usr nx) (.inr (f k)) g' ⟨λ_=>by rw[hl];trivial,λ_=>trivial⟩
   rwa [a.size]
  .rw[Qn]
   simp only[closeEvents,J9,mD,nE,or_false] at he;rw[a.size];rcases he with rfl|rfl
   .refine⟨λy hy=>?_,by simp[jN],Jw⟩
    simp only[jN,sJ,jP] at hy;subst hy;exact .inl ⟨c,Ap,rfl,.inr ⟨.inr zER,rfl⟩⟩
   .exact⟨λy hy=>by simp[jN,sJ] at hy,by simp[jN],Jw⟩
theorem Inv.spawn (hA:A.Ok)(h:Inv P ty Wg A Fin Shun gs w t T ch)(hi:gs[i]? =some x)(dN:l9 x (T i).g){ι:Type}{f:ι->Rk}(hr:(T i).r=.inr (.mk ι f)){l:L}(hl:(T i).ph=.usr l){pub:List Nat}{lc nx:L}
 (ha:A.act l=.spawn pub lc nx) (hB:mY P ty Wg A (λm ph d τ g w=>∃k,pI P ty Wg A Fin (f k) m ph d τ g w) (i==0) l (gX t i) (T i).τ (T i).g w):vU P ty Wg A Fin Shun gs w t T sl i:=by
 unfold mY at hB;rw[ha] at hB;obtain⟨hd,h1⟩:=hB;have hp:(λk=>(T k).ph.proj) i=.run l:=by show(T i).ph.proj=_;rw[hl];rfl
 obtain⟨rfl,N9,zF,hinv⟩:=hA.spawn _ ch i l pub lc nx gs.size h.st.inv hp ha;obtain⟨g',child,τm,τc,aY,zvr,zwk,ho,hs,qI,yI,yK,Hu,⟨km,zzt⟩,⟨kc,Ie⟩⟩:=h1 w bX.refl;have hn:=h.st.n0;have zFn:=hinv (by show(T gs.size).ph.proj=_;rw[h.st.ou _ (bF _)];rfl) aC λa Sw=>(h.st.bnd 0 a (.inl (Hu a Sw).1)).2.2;have hS:=h.st.fork hl N9 zF (.inr (f km)) (.inr (f kc)) g' child τm τc pub ho hs qI yI yK Hu zFn;have cN:=runT_crowd_spawn (P:=P) (sl:=sl) hi (show stepG P (0==0) x w=_ by rw[dN.step];exact aY);have cM:((gs.setIfInBounds 0 g').push child).size=gs.size+1:=aN;generalize hU:bK (bK T 0 ⟨.usr nx,.inr (f km),τm,g'⟩) gs.size ⟨.usr lc,.inr (f kc),τc,child⟩=U at hS;have u0:U 0=⟨.usr nx,.inr (f km),τm,g'⟩:=by rw[<-hU,upd_ne _ _ aC,upd_same]
 have un:U gs.size=⟨.usr lc,.inr (f kc),τc,child⟩:=by rw[<-hU,upd_same]
 have uk:∀k,k≠0->k≠gs.size->U k=T k:=λk h1 h2=>by rw[<-hU,upd_ne _ _ h2,upd_ne _ _ h1]
 have zlE:((wO 0 x.frame.fn x.frame.place #[]).push {g:=0,fn:=x.frame.fn,pos:=x.frame.place,act:=.go gs.size}|>.push {g:=gs.size,fn:=child.frame.fn,pos:=x.frame.place,act:=.start})
  =#[{g:=0,fn:=x.frame.fn,pos:=x.frame.place,act:=.go gs.size},{g:=gs.size,fn:=child.frame.fn,pos:=x.frame.place,act:=.start}]:=rfl
 rw[zlE] at cN;have Lm:∀k,gX (t++(#[{g:=0,fn:=x.frame.fn,pos:=x.frame.place,act:=.go gs.size},{g:=gs.size,fn:=child.frame.fn,pos:=x.frame.place,act:=.start}]:mQ)) k=gX t k:=λk=>zi0 t k _ λop hop=>by grind
 refine⟨_,_,cN,.inr ⟨(gs.setIfInBounds 0 g').push child,w,sl,U,ch.opn pub,rfl,⟨by rw[cM];exact hS,h.dy.gen (λk=>k=0\/gs.size<=k) (λk hk=>?_) (λk y hk hy=>?_) (λ_ _=>bX.refl) (λk _=>Lm k) (λc hc=>?_) id ?_⟩,?_⟩⟩
 .grind
 .rw[Array.getElem?_push,Array.size_setIfInBounds] at hy
  rcases hk with rfl|hk
  .rw[if_neg aC,zkR hn] at hy
   cases hy;refine⟨by rw[zvr];simp,?_⟩;rw[u0,Lm,hd];exact(pN (T:=⟨.usr nx,.inr (f km),τm,g'⟩) id).2 ⟨f km,rfl,zzt,.inl (l9.self zvr)⟩
  .by_cases cU:k=gs.size
   .subst cU
    rw[if_pos rfl] at hy;cases hy;refine⟨by rw[zwk];simp,?_⟩;rw[un,Lm,h.dy.tr.above _ (bF _)];have e0:(gs.size==0)=false:=beq_eq_false_iff_ne.2 aC;exact(pN (T:=⟨.usr lc,.inr (f kc),τc,child⟩) id).2 ⟨f kc,rfl,by rw[e0];exact Ie,.inl (l9.self zwk)⟩
   .simp_all
 .by_cases nK:c∈pub
  .rw[zeR nK] at hc;cases hc
  .rw[Xo nK] at hc;exact hc
 .rw[cM]
  refine h.dy.tr.fork (live':=λk=>(U k).ph.live) (by show(T 0).ph.live;rw[hl];trivial) hn ⟨rfl,rfl⟩ ⟨rfl,rfl⟩ hd (λk=>?_) (by show ¬(T gs.size).ph.live;rw[h.st.ou _ (bF _)];exact id) (λk b hk lO hb=>?_) (λk b hk lO hb=>?_) (λb hb=>?_) λb hb=>?_
  .show(U k).ph.live↔(T k).ph.live\/k=gs.size
   by_cases k1:k=0
   .subst k1;rw[u0,hl];exact⟨λ_=>.inl trivial,λ_=>trivial⟩
   .by_cases k2:k=gs.size
    .subst k2;rw[un];exact⟨λ_=>.inr rfl,λ_=>trivial⟩
    simp_all
  .have qO:k≠gs.size:=λe=>by
    subst e;have:(T gs.size).ph.live:=hk;rw[h.st.ou _ (bF _)] at this;exact this
   simp_all
  .have qO:k≠gs.size:=λe=>by
    subst e;have:(T gs.size).ph.live:=hk;rw[h.st.ou _ (bF _)] at this;exact this
   simp_all
  .simp_all
  grind
 .exact Xg (i:=0) (λe=>absurd rfl e) (by rw[cM];omega) hn (by rw[cM];omega) (by rw[u0,hr];exact .inr (.mk f km)) λk hk=>by omega
end
section
variable {L:Type}{P:bZ}{ty:aM}{Wg:Nat}{A:jM L}{Fin:bD->aE->Prop}{Shun:rC->Prop}
variable {gs gs':Array bD}{w w':aE}{t t':mQ}{T T':Nat->Td L}{ch vZ:rJ}{sl:Option (Nat×Nat)}{i j:Nat}{x g':bD}{es:Array rK}
def zlF (Wg B:Nat):Nat->List rK->Prop
 |_,[]=>True
 |d,e::es=>((e.mute=true\/(∃a b,e=⟨.cell a,b,true⟩/\a.block=Wg/\0<d))/\Wg<B)/\zlF Wg B (oK d #[e]) es
theorem Zv {B:Nat}:∀{es:List rK} {d:Nat},zlF Wg B d es->∀(l r:List rK) (e:rK),es=l++e::r->(∀a,(jN e).touch? =some a->nQ a.loc Wg/\a.kind=.atomic/\0<oK d l.toArray)/\jN e≠ .mark (.release (stA Wg))/\(jN e).low B
 |[],d,_,l,r,e,he=>by simp at he
 |y::es,d,h,[],r,e,he=>by
  simp only[List.nil_append,Xs] at he;obtain⟨rfl,rfl⟩:=he;obtain⟨⟨hm|⟨a,b,rfl,ha,hd⟩,hW⟩,_⟩:=h
  .exact zox (n:=0) (d:=d) (es:=#[y]) (λe he=>by simp_all) [] [] y rfl
  .refine⟨λz hz=>?_,by simp[jN],by simpa[jN,Z4,rC.low,ha] using hW⟩
   simp only[jN,sJ,jP] at hz;subst hz;exact⟨ha,rfl,hd⟩
 |y::es,d,h,z::l,r,e,he=>by
  simp only[Ra,Xs] at he;obtain⟨rfl,he⟩:=he;have:=Zv h.2 l r e he;refine⟨λa ha=>?_,this.2⟩;rw[zrL];exact this.1 a ha
def Nl {v wt:Nat}{a b:Int}(h:jL ty Wg w a b):jL ty Wg (w.setCell (stA Wg) (st v wt)) ((v:Int)*KK+wt) b:=zCJ h _
def zrB {a b:Int}(h:jL ty Wg w a b)(c:Int):jL ty Wg (w.setCell (smA Wg) (.int .u32 c)) a c:=zAM h c
def M9 (w:aE)(v:aF):Lg Wg w (w.setCell (stA Wg) v):=Z1 w (stA Wg) v
def zdW (w:aE)(v:aF):Lg Wg w (w.setCell (smA Wg) v):=Z1 w (smA Wg) v
def zm0 (d:Nat){es:Array rK}(h:∀e∈es,e.loc≠ .mark .disable/\e.loc≠ .mark .enable):oK d es=d:=ztC h d
theorem Xi (d:Nat)(a:bC):oK d #[rd a]=d:=zm0 d (λe he=>by simp at he;subst he;exact⟨by simp[rd],by simp[rd]⟩)
theorem deaf_wr (d:Nat)(a:bC):oK d #[wr a]=d:=zm0 d (λe he=>by simp at he;subst he;exact⟨by simp[wr],by simp[wr]⟩)
theorem zfJ (d:Nat)(a:bC):oK d #[rd a,wr a]=d:=zm0 d (λe he=>by
 simp only[J9,mD,nE,or_false] at he;rcases he with rfl|rfl<;>exact⟨by simp[rd,wr],by simp[rd,wr]⟩)
theorem zx5 (d:Nat)(a:bC):oK d (semEvents a)=d:=by
 simp[oK,semEvents]
theorem La (p:Nat->Ph L)(n:Nat)(ph':Ph L)(h:ph'.waits):vv A (bK p 0 ph') n=o9 p n:=by
 unfold vv Aa;rw[ze2,upd_same];cases ph'<;>first|exact h.elim|rfl
theorem zcB (p:Nat->Ph L)(n:Nat)(h:(p 0).waits):vv A p n=o9 p n:=by
 have:=La (A:=A) p n (p 0) h
 rwa [zfe] at this
theorem Sg {p:Nat->Ph L}{ph':Ph L}(h:∀i,¬(p i).last)(h':¬ph'.last):∀i,¬(bK p 0 ph' i).last:=λi=>by
 by_cases hi:i=0
 .subst hi;rw[upd_same];exact h'
 .rw[upd_ne _ _ hi];exact h i
theorem zwp {p:Nat->Ph L}:∀{n:Nat},o9 p n=0->∀j,j<n->j≠0->(p j).pre=false
 |n+1,h,j,hj,h0=>by
  simp only[o9] at h;by_cases S4:j=n
  .simp_all
  .exact zwp (n:=n) aC j aC h0
def Inv.vlt (hA:A.Ok)(h:Inv P ty Wg A Fin Shun gs w t T ch):vv A (λj=>(T j).ph) gs.size<2000000000:=
 Nat.lt_of_le_of_lt (zCl A _ _ h.st.n0) (hA.few _ ch h.st.inv _)
variable {a:bC}
theorem okRW {own pas:Nat->Prop}{k B:Nat}(hW:Wg<B)(ha:a.block=Wg):∀e∈(#[rd a,wr a]:Array rK),OkL Wg own pas k B e:=by
 intro e he;simp only[J9,mD,nE,or_false] at he;rcases he with rfl|rfl<;>exact zf5 ha hW
theorem okR {own pas:Nat->Prop}{k B:Nat}(hW:Wg<B)(ha:a.block=Wg):∀e∈(#[rd a]:Array rK),OkL Wg own pas k B e:=by
 intro e he;simp only[J9,mD,nE,or_false] at he;subst he;exact zf5 ha hW
theorem okSem {own pas:Nat->Prop}{k B:Nat}(hW:Wg<B)(ha:a.block=Wg):∀e∈semEvents a,OkL Wg own pas k B e:=by
 intro e he;simp only[semEvents,J9,mD,nE,or_false] at he;rcases he with rfl|rfl|rfl|rfl
 .exact zhi rfl
 .exact zf5 ha hW
 .exact zf5 ha hW
 .exact zhi rfl
theorem zx3 (T:Nat->Td L){ph':Ph L}(h:ph'.proj=(T i).ph.proj):bK (λj=>(T j).ph.proj) i ph'.proj=λj=>(T j).ph.proj:=by rw[h];exact zfe (λj=>(T j).ph.proj) i
theorem Inv.add (hA:A.Ok)(h:Inv P ty Wg A Fin Shun gs w t T ch)(hi:gs[i]? =some x)(dN:l9 x (T i).g){ι:Type}{f:ι->Rk}(hr:(T i).r=.inr (.mk ι f)){l:L}(hl:(T i).ph=.usr l){nx:L}
 (ha:A.act l=.add nx) (hB:mY P ty Wg A (λm ph d τ g w=>∃k,pI P ty Wg A Fin (f k) m ph d τ g w) (i==0) l (gX t i) (T i).τ (T i).g w):vU P ty Wg A Fin Shun gs w t T sl i:=by
 unfold mY at hB;rw[ha] at hB;have hp:(λk=>(T k).ph.proj) i=.run l:=by show(T i).ph.proj=_;rw[hl];rfl
 obtain⟨rfl,N9,zF,hinv⟩:=hA.add _ ch i l nx h.st.inv hp ha;have hg:=h.st.grp;unfold gK at hg;simp only[hl] at hg;have hv:=h.vlt hA;obtain⟨g',aY,mG,k,hk⟩:=hB w bX.refl _ aC hg.1;have gI:vv A (λj=>(T j).ph) gs.size=o9 (λj=>(T j).ph) gs.size:=by unfold vv Aa;simp only[hl,N9];rfl
 have pA:vv A (bK (λj=>(T j).ph) 0 (.usr nx)) gs.size=o9 (λj=>(T j).ph) gs.size+1:=by unfold vv Aa;rw[ze2,upd_same];simp[zF]
 have cZ:=Nl (v:=vv A (λj=>(T j).ph) gs.size+1) (wt:=0) hg.1;refine h.alive hi dN aY mG hr (by rw[hl];trivial) (ph':=.usr nx) trivial (M9 _ _) (λ_=>⟨_,_,cZ⟩) ⟨k,by rw[zfJ];exact hk⟩ (λe=>absurd rfl e) ?_ hinv (λe=>by have:=(zcG e cZ).2;omega) (okRW zsI rfl);unfold gK;rw[upd_same];refine⟨?_,Sg hg.2 id⟩;rw[pA,<-gI];simpa using cZ
theorem Inv.look (hA:A.Ok)(h:Inv P ty Wg A Fin Shun gs w t T ch)(hi:gs[0]? =some x)(dN:l9 x (T 0).g){ι:Type}{f:ι->Rk}(hr:(T 0).r=.inr (.mk ι f))(oC:(∃b,(T 0).ph=.w1 b)\/∃l,(T 0).ph=.usr l/\A.act l=.wait)
 (hB:∀aJ,bX ty Wg (T 0).τ w aJ->∀v:Nat,(∀b,(T 0).ph=.w1 b->v<b)->v<2147483648->jL ty Wg aJ (v*KK) 0->∃g',stepG P true (T 0).g aJ=.go g' aJ #[rd (stA Wg)]/\g'.status=.running/\
  (v=0->∃k,pI P ty Wg A Fin (f k) true .w5 (gX t 0) (T 0).τ g' aJ)/\(v≠0->∃k,pI P ty Wg A Fin (f k) true (.w2 v) (gX t 0) (T 0).τ g' aJ)):vU P ty Wg A Fin Shun gs w t T sl 0:=by
 have hv:=h.vlt hA;have hg:jL ty Wg w (vv A (λj=>(T j).ph) gs.size*KK) 0/\∀i,¬(T i).ph.last:=by
  have hg:=h.st.grp;unfold gK at hg;rcases oC with⟨b,e⟩|⟨l,e,_⟩<;>simp only[e] at hg
  .exact⟨hg.1,hg.2.1⟩
  .exact hg
 have eY:∀b,(T 0).ph=.w1 b->vv A (λj=>(T j).ph) gs.size<b:=λb e=>by
  have hg:=h.st.grp;unfold gK at hg;simp only[e] at hg;exact hg.2.2
 have nG:(T 0).ph.live:=h.st.role0;have Di:vv A (λj=>(T j).ph) gs.size=o9 (λj=>(T j).ph) gs.size:=by
  rcases oC with⟨b,e⟩|⟨l,e,ha⟩
  .exact zcB _ _ (by show(T 0).ph.waits;rw[e];trivial)
  .have:=(hA.wait _ ch 0 l h.st.inv (by show(T 0).ph.proj=_;rw[e];rfl) ha).2.1
   unfold vv Aa;simp only[e,this];rfl
 have hinv:A.Inv (bK (λj=>(T j).ph.proj) 0 .waits) ch:=by
  rcases oC with⟨b,e⟩|⟨l,e,ha⟩
  .have:=zx3 T (i:=0) (ph':=.w1 b) (by rw[e])
   rw[show(Ph.w1 b:Ph L).proj=.waits from rfl] at this;rw[this];exact h.st.inv
  .exact(hA.wait _ ch 0 l h.st.inv (by show(T 0).ph.proj=_;rw[e];rfl) ha).2.2
 obtain⟨g',aY,mG,h0,h1⟩:=hB w bX.refl _ eY aC hg.1;by_cases hz:vv A (λj=>(T j).ph) gs.size=0
 .obtain⟨k,hk⟩:=h0 hz
  refine h.alive hi dN aY mG hr nG (ph':=.w5) trivial (Mv _ _) id ⟨k,by rw[Xi];exact hk⟩ (λe=>absurd rfl e) ?_ hinv id (okR h.st.grp.live.lt rfl);unfold gK;rw[upd_same];refine⟨by rw[La _ _ .w5 trivial,<-Di];exact hz,Sg hg.2 id,?_⟩;have:=hg.1;rw[hz] at this;simpa using this
 .obtain⟨k,hk⟩:=h1 hz
  refine h.alive hi dN aY mG hr nG (ph':=.w2 (vv A (λj=>(T j).ph) gs.size)) trivial (Mv _ _) id ⟨k,by rw[Xi];exact hk⟩ (λe=>absurd rfl e) ?_ hinv id (okR h.st.grp.live.lt rfl);unfold gK;rw[upd_same];refine⟨?_,Sg hg.2 id,?_,Nat.pos_of_ne_zero hz⟩
  .rw[La _ _ (.w2 _) trivial,<-Di];exact hg.1
  .rw[La _ _ (.w2 _) trivial,<-Di];exact bF _
theorem invW (h:Inv P ty Wg A Fin Shun gs w t T ch){ph':Ph L}(hw:(T 0).ph.waits)(rN:ph'.waits):A.Inv (bK (λj=>(T j).ph.proj) 0 ph'.proj) ch:=by
 rw[zx3 T]
 .exact h.st.inv
 .cases hp:(T 0).ph<;>rw[hp] at hw<;>first|exact hw.elim|(cases ph'<;>first|exact rN.elim|rfl)
theorem Inv.cas (hA:A.Ok)(h:Inv P ty Wg A Fin Shun gs w t T ch)(hi:gs[0]? =some x)(dN:l9 x (T 0).g){ι:Type}{f:ι->Rk}(hr:(T 0).r=.inr (.mk ι f)){vs:Nat}(oC:(T 0).ph=.w2 vs)
 (hB:Au P ty Wg A Fin (λm ph d τ g w=>∃k,pI P ty Wg A Fin (f k) m ph d τ g w) true (.w2 vs) (gX t 0) (T 0).τ (T 0).g w):vU P ty Wg A Fin Shun gs w t T sl 0:=by
 have hv:=h.vlt hA;have hg:=h.st.grp;unfold gK at hg;simp only[oC] at hg;obtain⟨h1,h2,h3,h4⟩:=hg;have cE:(T 0).ph.waits:=by rw[oC];trivial
 have Di:vv A (λj=>(T j).ph) gs.size=o9 (λj=>(T j).ph) gs.size:=zcB _ _ cE;have nG:(T 0).ph.live:=h.st.role0;obtain⟨ha,hb⟩:=hB w bX.refl _ aC h1;rcases qX (vv A (λj=>(T j).ph) gs.size) vs with aS|Cm
 .obtain⟨g',aY,mG,k,hk⟩:=hb aS
  refine h.alive hi dN aY mG hr nG (ph':=.w1 vs) trivial (Mv _ _) id ⟨k,by rw[Xi];exact hk⟩ (λe=>absurd rfl e) ?_ (invW h cE trivial) id (okR h.st.grp.live.lt rfl);unfold gK;rw[upd_same];exact⟨by rw[La _ _ (.w1 vs) trivial,<-Di];exact h1,Sg h2 id,by rw[La _ _ (.w1 vs) trivial,<-Di];exact aS⟩
 .obtain⟨g',aY,mG,k,hk⟩:=ha aC
  have cZ:=Nl (v:=vv A (λj=>(T j).ph) gs.size) (wt:=1) h1;refine h.alive hi dN aY mG hr nG (ph':=.w3) trivial (M9 _ _) (λ_=>⟨_,_,cZ⟩) ⟨k,by rw[zfJ];exact hk⟩ (λe=>absurd rfl e) ?_ (invW h cE trivial) (λe=>by have:=(zcG e cZ).2;omega) (okRW zsI rfl);unfold gK;rw[upd_same];refine .inl ⟨?_,?_,Sg h2 id⟩
  .rw[La _ _ .w3 trivial,<-Di];omega
  .rw[La _ _ .w3 trivial,<-Di];exact cZ
theorem Inv.sleep (hA:A.Ok)(h:Inv P ty Wg A Fin Shun gs w t T ch)(hi:gs[0]? =some x)(dN:l9 x (T 0).g){ι:Type}{f:ι->Rk}(hr:(T 0).r=.inr (.mk ι f))(oC:(T 0).ph=.w3)
 (hB:Au P ty Wg A Fin (λm ph d τ g w=>∃k,pI P ty Wg A Fin (f k) m ph d τ g w) true .w3 (gX t 0) (T 0).τ (T 0).g w):vU P ty Wg A Fin Shun gs w t T sl 0:=by
 have hg:=h.st.grp;unfold gK at hg;simp only[oC] at hg;have cE:(T 0).ph.waits:=by rw[oC];trivial
 have Di:vv A (λj=>(T j).ph) gs.size=o9 (λj=>(T j).ph) gs.size:=zcB _ _ cE;have nG:(T 0).ph.live:=h.st.role0;obtain⟨ho,hB⟩:=hB;obtain⟨ha,hb⟩:=hB w bX.refl;have zIb:(∃x,jL ty Wg w x 0)\/(vv A (λj=>(T j).ph) gs.size=0/\(∀i,¬(T i).ph.last)/\jL ty Wg w 0 1):=by
  rcases hg with⟨_,h1,_⟩|⟨_,_,_,_,⟨_,h1⟩|⟨_,h1⟩⟩|h1
  .exact .inl ⟨_,h1⟩
  .exact .inl ⟨_,h1⟩
  .exact .inl ⟨_,h1⟩
  .exact .inr h1
 rcases zIb with h0|⟨h1,h2,h3⟩
 .have aY:=ha h0
  have vQ:stepG P (0==0) x w=.go {(T 0).g with status:=.blocked} w #[]:=by rw[show((0:Nat)==0)=true from rfl,dN.step];exact aY
  have cN:=zcz (sl:=sl) hi vQ;have ew:woken P x {(T 0).g with status:=.blocked} w=id:=by
   funext o;simp[woken]
  rw[ew,Array.map_id,zgM] at cN;obtain⟨y,hy⟩:=h0
  have hp:=h.park hi dN.1 (by rw[oC];exact id) (y:={(T 0).g with status:=.blocked}) rfl (.inr ⟨oC,rfl,ho⟩) (λ_ _ e=>by grind)
   (λc v z sh g e=>by
    have:=congrArg zqr e;simp[parked,ho] at this)
   (λc z sh g e=>by
    have:=congrArg zqr e;simp[parked,ho] at this)
  exact⟨_,_,cN,.inr ⟨_,_,sl,T,ch,rfl,hp.1,hp.2⟩⟩
 .obtain⟨g',aY,mG,k,hk⟩:=hb h3
  have cZ:=zrB h3 0;refine h.alive hi dN aY mG hr nG (ph':=.w4) trivial (zdW _ _) (λ_=>⟨_,_,cZ⟩) ⟨k,by rw[zx5];exact hk⟩ (λe=>absurd rfl e) ?_ (invW h cE trivial) (λe=>by omega) (okSem (by rw[(zdW w _).size];exact h.st.grp.live.lt) rfl);unfold gK;rw[upd_same];exact⟨by rw[La _ _ .w4 trivial,<-Di];exact h1,Sg h2 id,cZ⟩
theorem Inv.woke (hA:A.Ok)(h:Inv P ty Wg A Fin Shun gs w t T ch)(hi:gs[0]? =some x)(dN:l9 x (T 0).g){ι:Type}{f:ι->Rk}(hr:(T 0).r=.inr (.mk ι f))(oC:(T 0).ph=.w4)
 (hB:Au P ty Wg A Fin (λm ph d τ g w=>∃k,pI P ty Wg A Fin (f k) m ph d τ g w) true .w4 (gX t 0) (T 0).τ (T 0).g w):vU P ty Wg A Fin Shun gs w t T sl 0:=by
 have hg:=h.st.grp;unfold gK at hg;simp only[oC] at hg;have cE:(T 0).ph.waits:=by rw[oC];trivial
 have Di:vv A (λj=>(T j).ph) gs.size=o9 (λj=>(T j).ph) gs.size:=zcB _ _ cE;obtain⟨g',aY,mG,k,hk⟩:=hB w bX.refl hg.2.2;refine h.alive hi dN aY mG hr h.st.role0 (ph':=.w5) trivial (Mv _ _) id ⟨k,by rw[Xi];exact hk⟩ (λe=>absurd rfl e) ?_ (invW h cE trivial) id (okR h.st.grp.live.lt rfl);unfold gK;rw[upd_same];exact⟨by rw[La _ _ .w5 trivial,<-Di];exact hg.1,Sg hg.2.1 id,hg.2.2⟩
theorem Inv.fin (hA:A.Ok)(h:Inv P ty Wg A Fin Shun gs w t T ch)(hi:gs[0]? =some x)(dN:l9 x (T 0).g){ι:Type}{f:ι->Rk}(hr:(T 0).r=.inr (.mk ι f))(oC:(T 0).ph=.w5)
 (hB:Au P ty Wg A Fin (λm ph d τ g w=>∃k,pI P ty Wg A Fin (f k) m ph d τ g w) true .w5 (gX t 0) (T 0).τ (T 0).g w):vU P ty Wg A Fin Shun gs w t T sl 0:=by
 have hg:=h.st.grp;unfold gK at hg;simp only[oC] at hg;obtain⟨h1,h2,h3⟩:=hg;have Di:vv A (λj=>(T j).ph) gs.size=o9 (λj=>(T j).ph) gs.size:=zcB _ _ (by show(T 0).ph.waits;rw[oC];trivial);have Pu:∀j,j≠0->(T j).ph.leaves:=by
  intro j hj;rcases qX j gs.size with aS|Cm
  .have e1:=zwp (p:=λj=>(T j).ph) (by rw[<-Di];exact h1) j aS hj
   have e2:=h2 j;have e3:=h.st.role j hj;cases hp:(T j).ph<;>simp only[hp] at e1 e2 e3<;>first|trivial|(simp[Ph.pre] at e1;done)|exact absurd trivial e2|exact absurd trivial e3
  .rw[h.st.ou j Cm];trivial
 obtain⟨hd,hB⟩:=hB;have L6:(λj=>(T j).ph.proj) 0=.waits:=by show(T 0).ph.proj=_;rw[oC];rfl
 have Cz:∀(j:Nat) (l:L),(λj=>(T j).ph.proj) j≠ .run l:=λj l e=>by
  have e':(T j).ph.proj=.run l:=e;by_cases hj:j=0
  .simp_all
  .have:=Pu j hj
   cases hp:(T j).ph<;>rw[hp] at e' this<;>first|exact this.elim|cases e'
 obtain⟨g',aY,mG,hF⟩:=hB w bX.refl ⟨λj=>(T j).ph.proj,ch,h.st.inv,L6,Cz,λj l e=>h.st.depo j l e w bX.refl⟩;exact h.acquire hi dN aY mG hd Pu hF
theorem Inv.dec (hA:A.Ok)(h:Inv P ty Wg A Fin Shun gs w t T ch)(hi:gs[i]? =some x)(dN:l9 x (T i).g){ι:Type}{f:ι->Rk}(hr:(T i).r=.inr (.mk ι f)){l:L}(oC:(T i).ph=.rel l)
 (hB:Au P ty Wg A Fin (λm ph d τ g w=>∃k,pI P ty Wg A Fin (f k) m ph d τ g w) (i==0) (.rel l) (gX t i) (T i).τ (T i).g w):vU P ty Wg A Fin Shun gs w t T sl i:=by
 have aS:i<gs.size:=(eB.1 hi).1;have hv:=h.vlt hA;have h0:i≠0:=λe=>by subst e;have:=h.st.role0;rw[oC] at this;exact this
 have pD:¬(T i).ph.live:=by rw[oC];exact id
 have Ca:(T i).ph≠ .gone:=by rw[oC];simp
 have V3:Wg<w.heap.size:=h.st.grp.live.lt;have key:∀ph':Ph L,ph'.pre=false->vv A (bK (λj=>(T j).ph) i ph') gs.size+1=vv A (λj=>(T j).ph) gs.size:=by
  intro ph' hp;have:=zhc (λj=>(T j).ph) (i:=i) (n:=gs.size) ph' aS h0;unfold vv;rw[zgU A _ h0];rw[hp] at this;simp only[oC,Ph.pre,if_true,iX,if_false] at this;omega
 have k1:=key (.quit l) rfl;have k2:=key (.l1 l) rfl;have zev:(∀j,¬(T j).ph.last)->∀j,¬(bK (λj=>(T j).ph) i (.quit l) j).last:=λhn j=>by
  by_cases hj:j=i
  .subst hj;rw[upd_same];exact id
  .rw[upd_ne _ _ hj];exact hn j
 have oZ:∀e:0<gX t i,∀B,Wg<B->zlF Wg B (gX t i) [rd (stA Wg),wr (stA Wg)]:=λe B hB=>
  ⟨⟨.inr ⟨stA Wg,false,rfl,rfl,e⟩,hB⟩,⟨.inr ⟨stA Wg,true,rfl,rfl,by rw[Xi];exact e⟩,hB⟩,trivial⟩
 have u0:bK (λj=>(T j).ph) i (.quit l) 0=(T 0).ph:=upd_ne _ _ (Ne.symm h0);have u1:bK (λj=>(T j).ph) i (.l1 l) 0=(T 0).ph:=upd_ne _ _ (Ne.symm h0)
 have quit:∀(v wt:Nat),wt<=1->jL ty Wg w ((v+1:Nat)*KK+wt) 0->vv A (λj=>(T j).ph) gs.size=v+1->¬(v=0/\wt=1)->
  gK A ty Wg (bK (λj=>(T j).ph) i (.quit l)) gs.size (w.setCell (stA Wg) (Mt.st v wt))->vU P ty Wg A Fin Shun gs w t T sl i:=by
  intro v wt cE hW qS aU Cd;obtain⟨g',aY,mG,hd,_,hq⟩:=hB w bX.refl v wt cE aC hW;obtain⟨q,hQ⟩:=hq aU;have cZ:=Nl (v:=v) (wt:=wt) hW
  exact h.dead hi dN aY Ke (Ti:=⟨.quit l,.inl q,(T i).τ,g'⟩) (by rw[hr];exact .sep _ _) rfl pD Ca h0 id aN (M9 _ _) (λ_=>⟨_,_,cZ⟩)
   ((H8 (T:=⟨.quit l,.inl q,(T i).τ,g'⟩) trivial).2 ⟨q,rfl,by rw[zfJ];exact hQ⟩) (by rw[oC];rfl) Cd (.inr λe=>by have:=(zcG e cZ).2;omega) (Zv (oZ hd _ (by rw[(M9 w _).size];exact V3)))
 have hg:=h.st.grp;unfold gK at hg;have norm:∀v:Nat,((v:Int)*KK)=((v:Nat):Int)*KK+((0:Nat):Int):=λv=>by simp
 have pos:0<vv A (λj=>(T j).ph) gs.size:=aC;obtain⟨v,qS⟩:∃v,vv A (λj=>(T j).ph) gs.size=v+1:=⟨_,(Nat.succ_pred_eq_of_pos pos).symm⟩;have e1:vv A (bK (λj=>(T j).ph) i (.quit l)) gs.size=v:=aC;have e2:vv A (bK (λj=>(T j).ph) i (.l1 l)) gs.size=v:=aC
 cases yS:(T 0).ph with
 |gone=>have:=h.st.role0;rw[yS] at this;exact this.elim
 |rel _=>have:=h.st.role0;rw[yS] at this;exact this.elim
 |l1 _=>have:=h.st.role0;rw[yS] at this;exact this.elim
 |l2 _=>have:=h.st.role0;rw[yS] at this;exact this.elim
 |l3 _=>have:=h.st.role0;rw[yS] at this;exact this.elim
 |quit _=>have:=h.st.role0;rw[yS] at this;exact this.elim
 |usr l0=>
  simp only[yS] at hg;rw[qS] at hg;refine quit v 0 aC zkO qS aC ?_;unfold gK;rw[u0,yS];simp only;exact⟨by rw[e1];simpa using Nl (v:=v) (wt:=0) hg.1,zev hg.2⟩
 |w1 b=>
  simp only[yS] at hg;rw[qS] at hg;refine quit v 0 aC zkO qS aC ?_;unfold gK;rw[u0,yS];simp only;exact⟨by rw[e1];simpa using Nl (v:=v) (wt:=0) hg.1,zev hg.2.1,aC⟩
 |w2 vs=>
  simp only[yS] at hg;rw[qS] at hg;refine quit v 0 aC zkO qS aC ?_;unfold gK;rw[u0,yS];simp only;exact⟨by rw[e1];simpa using Nl (v:=v) (wt:=0) hg.1,zev hg.2.1,aC,hg.2.2.2⟩
 |w4=>simp only[yS] at hg;omega
 |w5=>simp only[yS] at hg;omega
 |w3=>
  simp only[yS] at hg;rcases hg with⟨_,hW,hn⟩|⟨hz,_⟩|⟨hz,_⟩
  .rw[qS] at hW
   have Zz:jL ty Wg w ((v+1:Nat)*KK+(1:Nat)) 0:=by simpa using hW
   by_cases gI:v=0
   .obtain⟨g',aY,mG,hd,hk,_⟩:=hB w bX.refl v 1 aC aC Zz
    obtain⟨k,hk⟩:=hk ⟨gI,rfl⟩;have cZ:=Nl (v:=v) (wt:=1) Zz
    refine h.dead hi dN aY Ke (Ti:=⟨.l1 l,.inr (f k),(T i).τ,g'⟩) Qu rfl pD Ca h0 id aN (M9 _ _) (λ_=>⟨_,_,cZ⟩)
     ((pN (T:=⟨.l1 l,.inr (f k),(T i).τ,g'⟩) id).2 ⟨f k,rfl,by rw[zfJ];exact hk,.inl (l9.self mG)⟩) (by rw[oC];rfl) ?_ (.inr λe=>by have:=(zcG e cZ).2;omega) (Zv (oZ hd _ (by rw[(M9 w _).size];exact V3)))
    unfold gK;rw[u1,yS];simp only;refine .inr (.inl ⟨aC,i,l,λj hj=>?_,.inl ⟨.inl (upd_same _ _ _),?_⟩⟩)
    .by_cases fI:j=i
     .exact fI
     .rw[upd_ne _ _ fI] at hj;exact absurd hj (hn j)
    .subst gI;simpa using cZ
   .refine quit v 1 aC Zz qS aC ?_
    unfold gK;rw[u0,yS];simp only;exact .inl ⟨aC,by rw[e1];simpa using Nl (v:=v) (wt:=1) Zz,zev hn⟩
  .omega
  .omega
theorem Inv.lastGrp (h:Inv P ty Wg A Fin Shun gs w t T ch)(hl:(T i).ph.last):(T 0).ph=.w3/\vv A (λj=>(T j).ph) gs.size=0/\(∀j,(T j).ph.last->j=i)/\((∃l,((T i).ph=.l1 l\/(T i).ph=.l2 l))/\jL ty Wg w 1 0\/(∃l,(T i).ph=.l3 l)/\jL ty Wg w 0 0):=by
 have hg:=h.st.grp;unfold gK at hg
 grind
theorem Inv.last (hA:A.Ok)(h:Inv P ty Wg A Fin Shun gs w t T ch)(hi:gs[i]? =some x)(dN:l9 x (T i).g){ι:Type}{f:ι->Rk}(hr:(T i).r=.inr (.mk ι f))(hl:(T i).ph.last)
 (hB:Au P ty Wg A Fin (λm ph d τ g w=>∃k,pI P ty Wg A Fin (f k) m ph d τ g w) (i==0) (T i).ph (gX t i) (T i).τ (T i).g w):vU P ty Wg A Fin Shun gs w t T sl i:=by
 have aS:=(eB.1 hi).1;obtain⟨h3,hz,hu,hc⟩:=h.lastGrp hl;have h0:i≠0:=λe=>by subst e;rw[h3] at hl;exact hl
 have pD:¬(T i).ph.live:=λe=>by cases hp:(T i).ph<;>rw[hp] at hl e<;>first|exact hl.elim|exact e.elim
 have Ca:(T i).ph≠ .gone:=λe=>by rw[e] at hl;exact hl
 have V3:=h.st.grp.live.lt;have zm3:(T i).ph.pre=false:=by cases hp:(T i).ph<;>rw[hp] at hl<;>first|exact hl.elim|rfl
 have key:∀ph':Ph L,ph'.pre=false->vv A (bK (λj=>(T j).ph) i ph') gs.size=0:=by
  intro ph' hp;have:=zhc (λj=>(T j).ph) (i:=i) (n:=gs.size) ph' aS h0;rw[hp,zm3] at this;unfold vv at hz⊢;rw[zgU A _ h0];simp only[iX,if_false] at this;omega
 have zaD:∀ph':Ph L,∀j,(bK (λj=>(T j).ph) i ph' j).last->j=i:=λph' j hj=>by
  by_cases fI:j=i
  .exact fI
  .rw[upd_ne _ _ fI] at hj;exact hu j hj
 have u0:∀ph':Ph L,bK (λj=>(T j).ph) i ph' 0=.w3:=λph'=>(upd_ne _ _ (Ne.symm h0)).trans h3;rcases hc with⟨⟨l,hp|hp⟩,hW⟩|⟨⟨l,hp⟩,hW⟩
 .simp only[hp] at hB
  obtain⟨g',aY,mG,hd,k,hk⟩:=hB w bX.refl hW
  refine h.dead hi dN aY Ke (Ti:=⟨.l2 l,.inr (f k),(T i).τ,g'⟩) Qu rfl pD Ca h0 id aN (Mv _ _) id
   ((pN (T:=⟨.l2 l,.inr (f k),(T i).τ,g'⟩) id).2 ⟨f k,rfl,by rw[Xi];exact hk,.inl (l9.self mG)⟩) (by rw[hp];rfl) ?_ (.inr id) (Zv (es:=[rd (stA Wg)]) ⟨⟨.inr ⟨stA Wg,false,rfl,rfl,hd⟩,V3⟩,trivial⟩)
  unfold gK;rw[u0];exact .inr (.inl ⟨key _ rfl,i,l,zaD _,.inl ⟨.inr (upd_same _ _ _),hW⟩⟩)
 .simp only[hp] at hB
  obtain⟨g',aY,mG,hd,k,hk⟩:=hB w bX.refl hW;have cZ:=Nl (v:=0) (wt:=0) hW;have oE:jL ty Wg (w.setCell (stA Wg) (Mt.st 0 0)) 0 0:=by simpa using cZ
  refine h.dead hi dN aY Ke (Ti:=⟨.l3 l,.inr (f k),(T i).τ,g'⟩) Qu rfl pD Ca h0 id aN (M9 _ _) (λ_=>⟨_,_,oE⟩)
   ((pN (T:=⟨.l3 l,.inr (f k),(T i).τ,g'⟩) id).2 ⟨f k,rfl,by rw[deaf_wr];exact hk,.inl (l9.self mG)⟩) (by rw[hp];rfl) ?_ (.inr λe=>by have:=(zcG e oE).2;omega)
   (Zv (es:=[wr (stA Wg)]) ⟨⟨.inr ⟨stA Wg,true,rfl,rfl,hd⟩,by rw[(M9 w _).size];exact V3⟩,trivial⟩)
  unfold gK;rw[u0];exact .inr (.inl ⟨key _ rfl,i,l,zaD _,.inr ⟨upd_same _ _ _,oE⟩⟩)
 .simp only[hp] at hB
  obtain⟨zcI,hB⟩:=hB;obtain⟨g',aY,mG,hd,q,hQ⟩:=hB w bX.refl hW;have cZ:=zrB hW 1;have ze9:Wg<(w.setCell (smA Wg) (.int .u32 1)).heap.size:=by rw[(zdW w _).size];exact V3
  refine h.dead hi dN aY Ke (Ti:=⟨.quit l,.inl q,(T i).τ,g'⟩) (by rw[hr];exact .sep _ _) rfl pD Ca h0 id aN (zdW _ _) (λ_=>⟨_,_,cZ⟩)
   ((H8 (T:=⟨.quit l,.inl q,(T i).τ,g'⟩) trivial).2 ⟨q,rfl,by rw[zx5];exact hQ⟩) (by rw[hp];rfl) ?_ (.inl ⟨zcI,mG⟩)
   (Zv (es:=[⟨.mark .disable,false,true⟩,⟨.cell (smA Wg),false,true⟩,⟨.cell (smA Wg),true,true⟩,⟨.mark .enable,false,true⟩]) ⟨⟨.inl rfl,ze9⟩,⟨.inr ⟨_,_,rfl,rfl,by simp[oK]⟩,ze9⟩,⟨.inr ⟨_,_,rfl,rfl,by simp[oK]⟩,ze9⟩,⟨.inl rfl,ze9⟩,trivial⟩)
  unfold gK;rw[u0];refine .inr (.inr ⟨key _ rfl,λj hj=>?_,cZ⟩);have:=zaD _ j hj;subst this;rw[upd_same] at hj;exact hj
theorem Inv.note (hA:A.Ok)(h:Inv P ty Wg A Fin Shun gs w t T ch)(hi:gs[i]? =some x)(dN:l9 x (T i).g){ι:Type}{f:ι->Rk}(hr:(T i).r=.inr (.mk ι f)){l l':L}(hl:(T i).ph=.usr l){can:L->Prop}(ha:A.act l=.note can)(hc:can l')
 {k:ι} (hk:pI P ty Wg A Fin (f k) (i==0) (.usr l') (gX t i) (T i).τ (T i).g w):Inv P ty Wg A Fin Shun gs w t (bK T i ⟨.usr l',.inr (f k),(T i).τ,(T i).g⟩) ch/\Mu.lt (mu gs (bK T i ⟨.usr l',.inr (f k),(T i).τ,(T i).g⟩)) (mu gs T):=by
 have aS:=(eB.1 hi).1;have hp:(λk=>(T k).ph.proj) i=.run l:=by show(T i).ph.proj=_;rw[hl];rfl
 obtain⟨ziL,hinv⟩:=hA.note _ ch i l can l' h.st.inv hp ha hc;have Cd:=gK.usr (l:=l) h.st.grp hl aS ziL;have hS:=h.st.phase (r:=.inr (f k)) (g':=(T i).g) (by rw[hl];simp) aS (Mv _ _) (.usr l') aN (λ_=>trivial) (λ_ e=>e) id (λl' e=>by simp[Ph.proj] at e) Cd hinv;refine⟨⟨hS,?_⟩,?_⟩
 .refine h.dy.gen (λk'=>k'=i) (λk' cU=>⟨rfl,upd_ne _ _ cU⟩) (λk' y cU hy=>?_) (λ_ _=>bX.refl) (λk' _=>rfl) (λ_ e=>e) id ?_
  .subst cU
   rw[hi] at hy;cases hy;refine⟨by rw[dN.1];simp,?_⟩;rw[upd_same];exact(pN (T:=⟨.usr l',.inr (f k),(T k').τ,(T k').g⟩) id).2 ⟨f k,rfl,hk,.inl dN⟩
  .exact h.dy.tr.phase (i:=i) (ph':=.usr l') (.inr (f k)) (T i).g ⟨λ_=>by rw[hl];trivial,λ_=>trivial⟩
 .exact Xg (i:=i) (λ_=>rfl) aC aS aS zsk λk' cU=>by rw[upd_ne _ _ aC]
def ResT (P:bZ)(ty:aM)(Wg:Nat)(A:jM L)(Fin:bD->aE->Prop)(Shun:rC->Prop)(gs:Array bD)(w:aE)(t:mQ)(T:Nat->Td L)(sl:Option (Nat×Nat))(i:Nat):Prop:=
 ∃m' ops,runT P (crowd gs w sl) i=(.next m',ops)/\
  (P7 P Wg Fin Shun m' (t++ops)\/∃gs' w' L3 T' vZ,m'=crowd gs' w' L3/\Inv P ty Wg A Fin Shun gs' w' (t++ops) T' vZ/\Relation.TransGen Mu.lt (mu gs' T') (mu gs T))
theorem qV (h:vU P ty Wg A Fin Shun gs w t T sl i):ResT P ty Wg A Fin Shun gs w t T sl i:=by
 obtain⟨m',ops,h1,h2⟩:=h;refine⟨m',ops,h1,h2.imp id ?_⟩;rintro⟨a,b,c,d,e,h3,h4,h5⟩;exact⟨a,b,c,d,e,h3,h4,.single h5⟩
theorem Inv.stepR (hA:A.Ok)(hi:gs[i]? =some x)(cN:x.status=.running):∀(r:Rk) {T:Nat->Td L},Inv P ty Wg A Fin Shun gs w t T ch->(T i).r=.inr r->ResT P ty Wg A Fin Shun gs w t T sl i:=by
 intro r
 induction r with
 |mk ι f ih=>
  intro T h hr;by_cases hl:(T i).ph.leaves
  .exact qV (h.leaver hi cN hl)
  have hs:=h.dy.sit i x hi;rw[pN hl] at hs;obtain⟨r',yW,hB,hx⟩:=hs;obtain rfl:r'=.mk ι f:=by simp_all
  have dN:l9 x (T i).g:=by
   rcases hx with hx|⟨_,_,_,_,rfl,_⟩|⟨_,rfl,_⟩
   .exact hx
   .cases cN
   .cases cN
  obtain⟨_,hB⟩:=hB;have hK:∀m ph d τ g w,(λm ph d τ g w=>∃k,pI P ty Wg A Fin (f k) m ph d τ g w) m ph d τ g w->∃k,pI P ty Wg A Fin (f k) m ph d τ g w:=λ_ _ _ _ _ _ e=>e;have main:(T i).ph.waits->i=0:=λe=>Av λh0=>h.st.role i h0 e;rcases hB with hB|hB
  .cases hp:(T i).ph<;>rw[hp] at hB<;>first|exact hB.elim|skip
   .exact qV (h.ownG hi dN Eh hr hK X5)
   .exact qV (h.idle1 hi dN zgR hl hr hK zdM)
   .exact qV (h.idle1 hi dN zgR hl hr hK zdM)
   .exact qV (h.idle1 hi dN zgR hl hr hK zdM)
   .exact qV (h.idle1 hi dN zgR hl hr hK zdM)
   .exact qV (h.ownG hi dN Eh hr hK X5)
   .exact qV (h.ownG hi dN Eh hr hK X5)
   .exact qV (h.ownG hi dN Eh hr hK X5)
   .exact qV (h.ownG hi dN Eh hr hK X5)
   .exact qV (h.ownG hi dN Eh hr hK X5)
  .cases hp:(T i).ph with
   |gone=>rw[hp] at hB;exact hB.elim
   |quit l=>rw[hp] at hB;exact hB.elim
   |rel l=>rw[hp] at hB;exact qV (h.dec hA hi dN hr hp hB)
   |l1 l=>exact qV (h.last hA hi dN hr Eh hB)
   |l2 l=>exact qV (h.last hA hi dN hr Eh hB)
   |l3 l=>exact qV (h.last hA hi dN hr Eh hB)
   |w1 b=>
    obtain rfl:=main Eh;rw[hp] at hB;exact qV (h.look hA hi dN hr (.inl ⟨b,hp⟩) λaJ lQ v hv=>hB aJ lQ v (hv b hp))
   |w2 v=>
    obtain rfl:=main Eh;rw[hp] at hB;exact qV (h.cas hA hi dN hr hp hB)
   |w3=>
    obtain rfl:=main Eh;rw[hp] at hB;exact qV (h.sleep hA hi dN hr hp hB)
   |w4=>
    obtain rfl:=main Eh;rw[hp] at hB;exact qV (h.woke hA hi dN hr hp hB)
   |w5=>
    obtain rfl:=main Eh;rw[hp] at hB;exact qV (h.fin hA hi dN hr hp hB)
   |usr l=>
    rw[hp] at hB;simp only[Au] at hB
    cases ha:A.act l with
    |send c ok pub nx=>exact qV (h.send hA hi dN hr hp ha hB)
    |recv c ok nx sh=>exact qV (h.recv hA hi dN hr hp ha hB)
    |close c nx=>exact qV (h.close hA hi dN hr hp ha hB)
    |add nx=>exact qV (h.add hA hi dN hr hp ha hB)
    |spawn pub lc nx=>exact qV (h.spawn hA hi dN hr hp ha hB)
    |done=>
     unfold mY at hB;rw[ha] at hB;obtain⟨hd,_,uG,h1⟩:=hB;obtain⟨g',aY,mG,hk⟩:=h1 w bX.refl;exact qV (h.release hA hi dN aY mG hr hp ha hd uG hk)
    |note can=>
     unfold mY at hB;rw[ha] at hB;obtain⟨l',hc,k,hk⟩:=hB;obtain⟨hI,hm⟩:=h.note hA hi dN hr hp ha hc hk;obtain⟨m',ops,h1,h2⟩:=ih k hI (by rw[upd_same]);refine⟨m',ops,h1,h2.imp id ?_⟩;rintro⟨a,b,c,d,e,h3,h4,h5⟩;exact⟨a,b,c,d,e,h3,h4,.tail h5 hm⟩
    |wait=>
     have h0:=(hA.wait _ ch i l h.st.inv (by show(T i).ph.proj=_;rw[hp];rfl) ha).1;subst h0;unfold mY at hB;rw[ha] at hB;exact qV (h.look hA hi dN hr (.inr ⟨l,hp,ha⟩) λaJ lQ v _=>hB aJ lQ v)
theorem Inv.step (hA:A.Ok)(h:Inv P ty Wg A Fin Shun gs w t T ch)(hi:gs[i]? =some x)(cN:x.status=.running):ResT P ty Wg A Fin Shun gs w t T sl i:=by
 by_cases hl:(T i).ph.leaves
 .exact qV (h.leaver hi cN hl)
 have hs:=h.dy.sit i x hi;rw[pN hl] at hs;obtain⟨r,hr,_,_⟩:=hs;exact Inv.stepR hA hi cN r h hr
theorem zD2 (hA:A.Ok)(h:Inv P ty Wg A Fin Shun gs w t T ch)(sl:Option (Nat×Nat)):∃N m' t',runNT P N (crowd gs w sl) t=(.next m',t')/\P7 P Wg Fin Shun m' t':=by
 refine run_to (zHp Mu.wf) (λμ m t=>∃gs w sl T ch,m=crowd gs w sl/\Inv P ty Wg A Fin Shun gs w t T ch/\μ=mu gs T) (P7 P Wg Fin Shun) ?_ _ _ _ ⟨gs,w,sl,T,ch,rfl,h,rfl⟩;rintro μ m t ⟨gs,w,sl,T,ch,rfl,h,rfl⟩;obtain⟨i,g,d,L3,hi,hg,aY⟩:=crowd_pick (P:=P) (w:=w) (sl:=sl) h.awake (h.some1 hA);obtain⟨m',ops,cN,zCq⟩:=(h.at d).step hA hi hg (sl:=L3)
 grind
end
end Go.Mt
namespace Go.Tt
section
variable {P:dM}{S:aQ->Prop}{K:Pr}{R:Pr}
variable {f:aF->ByteArray->cY (ForInStep ByteArray)}
theorem zuw (hf:∀(R:Pr) c c' s,VR S K R c c'->aG P S K l7 (f c s) R (f c' s)):∀(l l':List aF) {R:Pr} (s:ByteArray),yJ S K R l l'->
 aG P S K l7 (forIn (m:=cY) l s f) R (forIn (m:=cY) l' s f)
 |[],[],R,s,_=>aG.ret rfl
 |[],_::_,_,_,h=>by have:=h.1;simp at this
 |_::_,[],_,_,h=>by have:=h.1;simp at this
 |a::l,a'::l',R,s,h=>by
  obtain⟨h1,h2⟩:=h.cons;simp only[List.forIn_cons];refine aG.bnd (hf R a a' s h1) ?_;rintro R1 e1 x _ rfl
  cases x with
  |done b=>exact aG.ret rfl
  |yield b=>exact zuw hf l l' b (h2.mono e1.le)
variable {x':aF}
theorem zEp {x:aF}(h:VR S K R x x'):aG P S K (VA S K) (zbN x) R (zbN x'):=by
 unfold zbN
 cases h with
 |slice ha=>
  cases ha with
  |none=>exact aG.ret (.string _)
  |some ha=>
   refine aG.bnd (zkB ha _) ?_;intro R1 e1 xs b8 hx;simp only;rw[<-zxI,<-zxI];refine aG.bnd (zuw (λR c c' s hc=>?_) _ _ _ hx.toList) ?_
   .cases hc with
    |int k n=>cases k<;>first|exact aG.ret rfl|exact .inl (bQ.bnd _)|exact .inl bQ
    |_=>first|exact .inl (bQ.bnd _)|exact .inl bQ
   rintro R2 e2 s _ rfl;exact aG.ret (.string _)
 |_=>exact .inl bQ
def znK (v:aF):cY Next:=
 match v with
 | .pointer none| .nilIface| .nilFunc=>runtimePanic .nilDeref
 | .func (.method name) first captured=>
  match(first[0]? :Option aF) with
  |some .nilIface=>runtimePanic .nilDeref
  |some (.iface t w)=>do
   if(<-nilAhead ((<-program).types.size+Made.depth) t w name) !=some false then
    unsupported (.noEntry "op/nilCheck.the method's receiver behind this interface value is a nil pointer, or cannot be seen to be none, and the arguments act or may panic (ledger 612)")
   pure (.value (.func (.method name) first captured))
  |_=>pure (.value (.func (.method name) first captured))
 |x=>pure (.value x)
theorem zGL {x:aF}(h:VR S K R x x'):aG P S K (λR a b=>∃v v',a=.value v/\b=.value v'/\VR S K R v v') (znK x) R (znK x'):=by
 unfold znK;have h0:=h
 cases h with
 |pointer h=>cases h with
  |none=>exact .inl vX
  |some h=>exact aG.ret ⟨_,_,rfl,rfl,h0⟩
 |nilIface=>exact .inl vX
 |nilFunc=>exact .inl vX
 |junk h=>exact .inl vX
 |_=>exact aG.ret ⟨_,_,rfl,rfl,h0⟩
end
end Go.Tt
namespace Go.Tt
open Go.Conc
end Go.Tt
namespace Go.Tt
def zcV (p:bZ)(t:aM):Bool:=
 match p.underlying t with
 |some (.int _)=>(match p.info? t with|some i=>(match i.desc with| .named "sync.copyChecker" _=>false|_=>true)|none=>true)
 |some d=>zbE d
 |none=>false
def zvk:aF->Bool
 | .bool _| .int _ _| .string _| .nilFunc| .nilIface| .pointer none| .slice none _ _| .map none| .chan none=>true
 |_=>false
def Wm (p:bZ)(t:aM):Bool:=match p.underlying t with|some (.map k _)=>zcV p k|_=>true
def zan (p:bZ)(t:aM):Bool:=match p.underlying t with|some (.int _)=>true|_=>false
def dV (fs:aQ->Bool):cK->Bool
 | .tmp _=>true
 | .const v=>zvk v
 | .global _=>false
 | .func f=>fs f
def okTab (p:bZ):cK->Bool
 | .global g=>Bp p g
 |_=>false
structure Cl where
 fs:aQ->Bool
 gs:aQ->Bool
 dy:Bool
abbrev Cl.T (c:Cl)(f:aQ):Prop:=c.gs f=true
def zeC (p:bZ)(t:aM):Bool:=match p.underlying t with|some (.slice e)=>(match p.underlying e with|some (.int .u8)=>true|_=>false)|_=>false
def zgp (p:bZ)(t:aM):Bool:=match p.underlying t with|some .string=>true|_=>false
def zd9 (p:bZ)(t:aM):cK->Bool
 | .const (.pointer none)=>(match p.underlying t with|some (.pointer _)=>true|_=>false)
 |_=>false
def zxZ (c:Cl):cK->Bool
 | .func g=>c.gs g
 |x=>dV c.fs x&&c.dy
def rY (p:bZ)(c:Cl):Op->Bool
 | .move x| .assign x| .nilCheck x=>dV c.fs x
 | .pick q a b=>dV c.fs q&&dV c.fs a&&dV c.fs b
 | .alloc _=>true
 | .box _ x=>dV c.fs x
 | .build _ ps=>ps.all λx=>dV c.fs x.2
 | .buildSlice _ _ ps=>ps.all λx=>dV c.fs x.2
 | .load _ a=>dV c.fs a
 | .store _ a x=>dV c.fs a&&dV c.fs x
 | .binOp op t x y _=>dV c.fs x&&dV c.fs y&&(if op matches .eql| .neq then(zcV p t||zd9 p t y)&& !(p.eqGuardType p.depth t) else true)
 | .unOp _ _ x=>dV c.fs x
 | .convert s d x=>dV c.fs x&&((zan p s&&zan p d)||(zeC p s&&zgp p d))
 | .makeFunc (.func f) a b=>c.fs f&&a.all (dV c.fs)&&b.all (dV c.fs)
 | .makeMap _ r=>(match r with|some x=>dV c.fs x|none=>true)
 | .makeSlice _ l q=>dV c.fs l&&dV c.fs q
 | .makeChan _ l=>dV c.fs l
 | .slice _ x lo hi mx=>dV c.fs x&&(match lo with|some x=>dV c.fs x|none=>true)&&(match hi with|some x=>dV c.fs x|none=>true)&&(match mx with|some x=>dV c.fs x|none=>true)
 | .fieldAddr _ x _| .extract x _=>dV c.fs x
 | .indexAddr _ x i=>(dV c.fs x||okTab p x)&&dV c.fs i
 | .index _ x i=>dV c.fs x&&dV c.fs i
 | .makeInterface _ x| .panic x=>dV c.fs x
 | .lookup t x i _=>dV c.fs x&&dV c.fs i&&Wm p t
 | .mapUpdate t m k x=>dV c.fs m&&dV c.fs k&&dV c.fs x&&Wm p t
 | .call {callee:=.value f,args,..}=>zxZ c f&&args.all (dV c.fs)
 | .call {callee:=.builtin .len,args,..}| .call {callee:=.builtin .cap,args,..}| .call {callee:=.builtin .copy,args,..}| .call {callee:=.builtin .append,args,..}| .call {callee:=.builtin .clear,args,..}=>args.all (dV c.fs)
 | .call {callee:=.builtin .delete,args,argTypes}=>args.all (dV c.fs)&&(match argTypes[0]? with|some t=>Wm p t|none=>true)
 |_=>false
section
variable {P:dM}{fs:aQ->Bool}{K R:Pr}
abbrev SF (fs:aQ->Bool):aQ->Prop:=λf=>fs f=true
variable {t:aM}
theorem zfy (h:zcV P.c t=true):Mb P t:=by
 unfold zcV at h;have hu:∀d,P.c.underlying t=some d->P.underlying t=some d:=λd e=>e;split at h
 .next k e=>
  refine⟨⟨_,e,rfl⟩,λk' _ i x hi hd=>?_⟩;simp_all
 .next d aU e=>
  exact⟨⟨d,e,h⟩,λk hk=>absurd (e.symm.trans hk) sU⟩
 .cases h
theorem ztf {v:aF}(h:zvk v=true):VR (SF fs) K R v v:=by
 cases v with
 |bool b=>exact .bool b
 |int k n=>exact .int k n
 |string s=>exact .string s
 |nilFunc=>exact .nilFunc
 |nilIface=>exact .nilIface
 |pointer a=>cases a with|none=>exact .pointer .none|some a=>cases h
 |slice a n c=>cases a with|none=>exact .slice .none|some a=>cases h
 |map a=>cases a with|none=>exact .map .none|some a=>cases h
 |chan a=>cases a with|none=>exact .chan .none|some a=>cases h
 |_=>cases h
inductive NxR (S:aQ->Prop)(T:aQ->Prop)(K R:Pr):Next->Next->Prop
 |value {v v':aF}:VR S K R v v'->NxR S T K R (.value v) (.value v')
 |skip:NxR S T K R .skip .skip
 |enter {f:aQ} {xs b8:Array aF}:T f->bM S K R xs b8->NxR S T K R (.enter f xs) (.enter f b8)
abbrev NA (S:aQ->Prop)(T:aQ->Prop)(K:Pr):Pr->Next->Next->Prop:=λR n n'=>NxR S T K R n n'
def qK {S T:aQ->Prop}{s s':cY aF}(h:aG P S K (VA S K) s R s'):aG P S K (NA S T K) (do pure (.value (<-s))) R (do pure (.value (<-s'))):=
 aG.bnd h λ_ _ _ _ hv=>aG.ret (.value hv)
variable {α:Type}
def sim_u {S T:aQ->Prop}{s s':cY α}(h:aG P S K l7 s R s'):aG P S K (NA S T K) (do let _<-s;pure .skip) R (do let _<-s';pure .skip):=
 aG.bnd h λ_ _ _ _ _=>aG.ret .skip
variable {ρ ρ':cK->aF}
theorem bM.maps {S:aQ->Prop}{ok:cK->Bool}(h:∀x,ok x=true->VR S K R (ρ x) (ρ' x)){xs:Array cK}(hx:xs.all ok=true):bM S K R (xs.map ρ) (xs.map ρ'):=by
 refine⟨aN,λi v v' h1 h2=>?_⟩
 grind
theorem zC0 {S:aQ->Prop}(op:BinOp)(t:aM)(x y:cK){a a' b b':aF}(ha:VR S K R a a')(hb:VR S K R b b')(h:P.c.eqGuardType P.c.depth t=false)(h':P.g.eqGuardType P.g.depth t=false):
 aG P S K l7 (eqGuard op t x y a b) R (eqGuard op t x y a' b'):=by
 have rest:aG P S K l7 (do
  match a,b with
  | .nilIface,.nilIface=>
   if(x matches .const _)||(y matches .const _) then return
   if<-Ro Sn t a b then unsupported (.noEntry "binop/eql: two nil values of an interface type with methods, neither of them the literal nil")
  | .agg _,.agg _=>
   if !(<-program).eqGuardType (<-program).depth t then return
   if<-Ro Sn t a b then unsupported (.noEntry "binop/eql: two nil values of an interface type with methods, in a part of a struct or an array")
  |_,_=>pure ()) R (do
  match a',b' with
  | .nilIface,.nilIface=>
   if(x matches .const _)||(y matches .const _) then return
   if<-Ro Sn t a' b' then unsupported (.noEntry "binop/eql: two nil values of an interface type with methods, neither of them the literal nil")
  | .agg _,.agg _=>
   if !(<-program).eqGuardType (<-program).depth t then return
   if<-Ro Sn t a' b' then unsupported (.noEntry "binop/eql: two nil values of an interface type with methods, in a part of a struct or an array")
  |_,_=>pure ()):=by
  cases ha with
  |nilIface=>
   cases hb with
   |nilIface=>
    simp only;by_cases hc:((x matches .const _)||(y matches .const _))=true
    .rw[if_pos hc]
     exact aG.ret rfl
    .rw[if_neg hc]
     refine aG.bnd (A:=l7) ?_ λR1 h1 c _ e=>?_
     .show aG P S K l7 (Ro (9999+1) t .nilIface .nilIface) R (Ro (9999+1) t .nilIface .nilIface)
      unfold Ro;refine aG.bnd (mR t) ?_;rintro R1 h1 d _ ⟨rfl,_⟩;cases d<;>exact aG.ret rfl
     .subst e
      cases c
      .exact aG.ret rfl
      .exact .inl lV
   |junk hh=>cases b'<;>first|exact hh.elim|exact aG.ret rfl
   |_=>exact aG.ret rfl
  |agg e1 e2=>
   cases hb with
   |agg e3 e4=>
    simp only;refine aG.bnd Uk ?_;rintro R1 h1 p q ⟨rfl,rfl⟩;refine aG.bnd Uk ?_;rintro R2 h2 p q ⟨rfl,rfl⟩;rw[h,h'];exact aG.ret rfl
   |junk hh=>cases b'<;>first|exact hh.elim|exact aG.ret rfl
   |_=>exact aG.ret rfl
  |junk hh=>cases a'<;>first|exact hh.elim|exact aG.ret rfl
  |_=>exact aG.ret rfl
 unfold eqGuard;cases op<;>first|exact aG.ret rfl|exact rest
variable {x x':aF}
theorem sim_cmp (op:BinOp)(ho:op=.eql\/op=.neq)(he:Mb P t)(hR:uJ P K R){y y':aF}(hx:VR (SF fs) K R x x')(hy:VR (SF fs) K R y y'):
 aG P (SF fs) K (VA (SF fs) K) (binOp op t x y) R (binOp op t x' y'):=by
 have k1:aG P (SF fs) K (VA (SF fs) K) (do pure (.bool (<-zS t x y))) R (do pure (.bool (<-zS t x' y'))):=
  aG.bnd (zhM he hR hx hy) λR1 _ b _ e=>by subst e;exact aG.ret (.bool _)
 have k2:aG P (SF fs) K (VA (SF fs) K) (do pure (.bool (!(<-zS t x y)))) R (do pure (.bool (!(<-zS t x' y')))):=
  aG.bnd (zhM he hR hx hy) λR1 _ b _ e=>by subst e;exact aG.ret (.bool _)
 by_cases hf:Flat x/\Flat y
 rotate_left
 .obtain⟨d,hd,ok⟩:=he.ex
  have hn:=zkv hd ok hf;refine .inl ?_
  rcases ho with rfl|rfl<;>cases x<;>cases y<;>first
   |exact(hf ⟨True.intro,True.intro⟩).elim
   |exact hn.bnd _
 rcases ho with rfl|rfl
 .cases hx with
  |int k a=>
   cases hy with
   |int k' b=>
    by_cases hk:k=k'
    .subst hk;simp only[binOp,ne_eq,not_true_eq_false,if_false];exact zmF _ _ _
    .simp only[binOp,ne_eq,hk,not_false_eq_true,if_true];exact .inl bQ
   |junk hh=>exact hf.2.elim
   |_=>exact k1
  |string a=>
   cases hy with
   |string b=>exact znQ .eql a b
   |junk hh=>exact hf.2.elim
   |_=>exact k1
  |junk hh=>exact hf.1.elim
  |_=>cases hy<;>first|exact k1|exact hf.2.elim
 .cases hx with
  |int k a=>
   cases hy with
   |int k' b=>
    by_cases hk:k=k'
    .subst hk;simp only[binOp,ne_eq,not_true_eq_false,if_false];exact zmF _ _ _
    .simp only[binOp,ne_eq,hk,not_false_eq_true,if_true];exact .inl bQ
   |junk hh=>exact hf.2.elim
   |_=>exact k2
  |string a=>
   cases hy with
   |string b=>exact znQ .neq a b
   |junk hh=>exact hf.2.elim
   |_=>exact k2
  |junk hh=>exact hf.1.elim
  |_=>cases hy<;>first|exact k2|exact hf.2.elim
theorem zgh {d:TypeDesc}(hd:P.c.underlying t=some d){β:Type}{f:TypeDesc->cY β}(hf:fA P (f d)):fA P (underlying t>>=f):=λw hw=>by
 obtain⟨h1,w1,h2,h3⟩:=hf w hw;refine⟨h1,w1,?_,h3⟩;have hg:P.g.underlying t=some d:=hd;have hu:(underlying t).run P.g w=.ok d w:=by simp[underlying,program,bL,bind,yN,pure,hg]
 simp_all
variable {p:bZ}
theorem zCd {y:cK}(h:zd9 p t y=true):∃el,p.underlying t=some (.pointer el)/\y=.const (.pointer none):=by
 unfold zd9 at h
 grind
theorem zAF {el:aM}(op:BinOp)(ho:op=.eql\/op=.neq)(he:P.c.underlying t=some (.pointer el))(hx:VR (SF fs) K R x x'):
 aG P (SF fs) K (VA (SF fs) K) (binOp op t x (.pointer none)) R (binOp op t x' (.pointer none)):=by
 have key:aG P (SF fs) K l7 (Dx (9999+1) t x (.pointer none)) R (Dx (9999+1) t x' (.pointer none)):=by
  unfold Dx;refine aG.bnd (mR t) ?_;rintro R1 h1 d _ ⟨rfl,hd⟩;obtain rfl:d=.pointer el:=cO ((hd).symm.trans he)
  cases hx with
  |pointer hp=>
   cases hp with
   |none=>exact aG.ret rfl
   |some _=>exact aG.ret rfl
  |_=>exact .inl zli
 have k1:aG P (SF fs) K (VA (SF fs) K) (do pure (.bool (<-zS t x (.pointer none)))) R (do pure (.bool (<-zS t x' (.pointer none)))):=
  aG.bnd key λR1 _ b _ e=>by subst e;exact aG.ret (.bool _)
 have k2:aG P (SF fs) K (VA (SF fs) K) (do pure (.bool (!(<-zS t x (.pointer none))))) R (do pure (.bool (!(<-zS t x' (.pointer none))))):=
  aG.bnd key λR1 _ b _ e=>by subst e;exact aG.ret (.bool _)
 by_cases hj:x=.nilFunc
 .subst hj
  refine .inl ?_;have hn:fA P (zS t .nilFunc (.pointer none)):=by
   show fA P (Dx (9999+1) t .nilFunc (.pointer none));unfold Dx;exact zgh he zli
  rcases ho with rfl|rfl<;>exact hn.bnd _
 rcases ho with rfl|rfl
 .cases hx with
  |junk _=>exact absurd rfl hj
  |_=>exact k1
 .cases hx with
  |junk _=>exact absurd rfl hj
  |_=>exact k2
variable {s:aM}
theorem zDk {d:aM}(hs:zan P.c s=true)(hd:zan P.c d=true){S:aQ->Prop}(hx:VR S K R x x'):aG P S K (VA S K) (convert s d x) R (convert s d x'):=by
 unfold convert;refine aG.bnd (mR s) ?_;rintro R1 h1 a _ ⟨rfl,ha⟩;refine aG.bnd (mR d) ?_;rintro R2 h2 b _ ⟨rfl,hb⟩;have fV:P.c.underlying s=some a:=ha;have bU:P.c.underlying d=some b:=hb;unfold zan at hs hd;rw[fV] at hs;rw[bU] at hd;cases a<;>simp only[iX] at hs;cases b<;>simp only[iX] at hd
 cases hx with
 |int k n=>exact aG.ret (.int _ _)
 |pointer h=>cases h<;>exact .inl lV
 |_=>exact .inl lV
theorem zy2 (h:zeC p s=true):∃e,p.underlying s=some (.slice e)/\p.underlying e=some (.int .u8):=by
 unfold zeC at h
 grind
theorem zzc (h:zgp p s=true):p.underlying s=some .string:=by
 unfold zgp at h
 grind
theorem zGO {S:aQ->Prop}(n:Int):aG P S K (VA S K) (zlf n) R (zlf n):=by
 unfold zlf
 first|exact aG.ret (.string _)|(split<;>exact aG.ret (.string _))
theorem zAT {d:aM}(hs:zeC P.c s=true)(hd:zgp P.c d=true){S:aQ->Prop}(hx:VR S K R x x'):aG P S K (VA S K) (convert s d x) R (convert s d x'):=by
 obtain⟨e,yI,yK⟩:=zy2 hs;have Ru:=zzc hd;by_cases hj:x=.nilFunc
 .subst hj
  refine .inl ?_;unfold convert;exact zgh yI (zgh Ru (zgh yK bQ))
 unfold convert;refine aG.bnd (mR s) ?_;rintro R1 h1 a _ ⟨rfl,ha⟩;refine aG.bnd (mR d) ?_;rintro R2 h2 b _ ⟨rfl,hb⟩;obtain rfl:a=.slice e:=cO ((ha).symm.trans yI);obtain rfl:b=.string:=cO ((hb).symm.trans Ru)
 have tail:∀{x x':aF},VR S K R2 x x'->aG P S K (VA S K) (do match<-underlying e with| .int .u8=>zbN x| .int .i32=>zrd x|_=>stuck "Convert: a slice of what to string?") R2
  (do match<-underlying e with| .int .u8=>zbN x'| .int .i32=>zrd x'|_=>stuck "Convert: a slice of what to string?"):=by
  intro x x' hx;refine aG.bnd (mR e) ?_;rintro R3 h3 c _ ⟨rfl,hc⟩;obtain rfl:c=.int .u8:=cO ((hc).symm.trans yK);exact zEp (hx.mono h3.le)
 have Ah:=(hx.mono h1.le).mono h2.le
 cases hx with
 |int k n=>exact zGO n
 |string s=>exact aG.ret (.string s)
 |nilFunc=>exact absurd rfl hj
 |junk _=>exact absurd rfl hj
 |slice h=>cases h<;>exact tail Ah
 |_=>exact tail Ah
def pX (p:bZ)(q:Cl):Code->Bool
 | .skip| .ret| .exit _| .label _=>true
 | .region _ ops _=>ops.all λo=>rY p q o.op
 | .seq a b=>pX p q a&&pX p q b
 | .cond c a b=>dV q.fs c&&pX p q a&&pX p q b
 | .block _ c| .loop c| .scope c=>pX p q c
 |_=>false
def uM (P:dM)(fs:aQ->Bool)(f:aQ):Cl:=if P.lw f then⟨fs,P.lw,false⟩ else⟨fs,P.gs,P.dy⟩
theorem zm5 (P:dM)(fs:aQ->Bool)(f:aQ):(uM P fs f).fs=fs:=by unfold uM;split<;>rfl
structure Fit (P:dM)(fs:aQ->Bool):Prop where
 zero:J6 P (SF fs)
 fn:∀f,P.gs f=true->P.op f=false->∃fn c,P.g.funcs[f]? =some fn/\P.c.funcs[f]? =some fn/\(fn.name== "runtime.NumGoroutine")=false/\fn.body=some c/\pX P.c (uM P fs f) c=true
 opq:∀f,P.gs f=true->P.op f=true->∃fn fn' c c',P.g.funcs[f]? =some fn/\P.c.funcs[f]? =some fn'/\(fn.name== "runtime.NumGoroutine")=false/\(fn'.name== "runtime.NumGoroutine")=false/\fn.body=some c/\fn'.body=some c'
 low:∀f,P.lw f=true->P.op f=false/\P.gs f=true
 dyn:P.dy=true->∀f,fs f=true->P.gs f=true
 guard:∀t,P.g.eqGuardType P.g.depth t=P.c.eqGuardType P.c.depth t
theorem zoR (F:Fit P fs){T:aQ->Prop}{f:aQ}(hf:P.gs f=true)(hT:T f){xs b8:Array aF}(h:bM (SF fs) K R xs b8):aG P (SF fs) K (NA (SF fs) T K) (callFunc f xs) R (callFunc f b8):=by
 unfold callFunc;refine aG.bnd Uk ?_;rintro R1 h1 p q ⟨rfl,rfl⟩
 cases ho:P.op f with
 |false=>
  obtain⟨fn,c,e1,e2,e3,e4,_⟩:=F.fn f hf ho;simp only[e1,e2,e3,e4,zvK,iX,if_false];exact aG.ret (.enter hT (h.mono h1.le))
 |true=>
  obtain⟨fn,fn',c,c',e1,e2,e3,e4,e5,e6⟩:=F.opq f hf ho;simp only[e1,e2,e3,e4,e5,e6,zvK,iX,if_false];exact aG.ret (.enter hT (h.mono h1.le))
theorem zgm {S:aQ->Prop}(hρ:∀x,dV fs x=true->VR S K R (ρ x) (ρ' x)){r:Option cK}(h:(match r with|some x=>dV fs x|none=>true)=true):Ak S K R (r.map ρ) (r.map ρ'):=by
 cases r with
 |none=>exact .none
 |some x=>exact .some (hρ x h)
variable {ps:Array (Nat×cK)}
theorem zw9 {S:aQ->Prop}(hρ:∀x,dV fs x=true->VR S K R (ρ x) (ρ' x))(h:(ps.all λx=>dV fs x.2)=true):PsR S K R (ps.map λ(i,x)=>(i,ρ x)).toList (ps.map λ(i,x)=>(i,ρ' x)).toList:=by
 rw[zsK,zsK];have h':∀x∈ps.toList,dV fs x.2=true:=λx hx=>by
  rw[Array.all_eq_true'] at h;exact h x (by simpa using hx)
 generalize ps.toList=l at h'⊢
 induction l with
 |nil=>exact .nil
 |cons a l ih=>
  obtain⟨i,x⟩:=a;exact .cons (hρ x (h' (i,x) aN)) (ih λy hy=>h' y (by simp[hy]))
theorem zIy (q:Ask α):∀w:aE,(w.ask q).2.heap=w.heap:=by
 induction q with
 |done a=>intro w;rfl
 |ask zJd range k ih=>
  intro w;unfold aE.ask
  grind
theorem zFM (c:Sys):nN P (sys c):=λw hw=>.inl ⟨(w.sys c).1,(w.sys c).2,rfl,λb cc e=>by
 have:(w.sys c).2.heap=w.heap:=by
  have h:=zIy (Kernel.perform c w.os) w;unfold aE.sys;split
  .rfl
  .simp_all
 rw[this];exact hw b cc e⟩
theorem zFC :fA P (zwi x):=by
 unfold zwi;cases x<;>first|exact zeD|exact bQ|skip
 refine fA.then ?_ λn=>?_
 .unfold Instr.panicnil
  refine(zFM _).bnd λr=>?_;cases r<;>first|exact .never bQ|exact znL.bnd λ_=>nN.ret _
 .split
  .exact zeD
  .exact vX
theorem znk (F:Fit P fs)(hR:uJ P K R)(hρ:∀x,dV fs x=true->VR (SF fs) K R (ρ x) (ρ' x))(I5:∀g,ρ (.func g)=.func (.func g) #[] #[])(zAm:∀g,ρ' (.func g)=.func (.func g) #[] #[])(ziQ:∀g,ρ (.global g)=.pointer (some ⟨g,0,none⟩))(zIa:∀g,ρ' (.global g)=.pointer (some ⟨g,0,none⟩))(tU:∀v,ρ (.const v)=v)(zFl:∀v,ρ' (.const v)=v){q:Cl}(hq:q.fs=fs)(zvf:∀f,q.gs f=true->P.gs f=true)(zuq:q.dy=true->∀f,fs f=true->q.gs f=true){o:aZ}(ok:rY P.c q o.op=true):
 aG P (SF fs) K (NA (SF fs) q.T K) (aO ρ o) R (aO ρ' o):=by
 obtain⟨dst,op,type,pos,after,guard⟩:=o;subst hq;simp only at ok;unfold aO
 cases op with
 |move x=>exact aG.ret (.value (hρ x ok))
 |assign x=>exact aG.ret (.value (hρ x ok))
 |pick c a b=>
  simp only[rY,jF] at ok;refine aG.bnd (zCC (hρ c ok.1.1)) ?_;rintro R1 h1 x _ rfl;cases x
  .exact aG.ret (.value ((hρ b ok.2).mono h1.le))
  .exact aG.ret (.value ((hρ a ok.1.2).mono h1.le))
 |alloc t=>exact qK (zCp F.zero t)
 |box t x=>exact qK (sim_box t (hρ x ok))
 |load t a=>exact qK (zHC t (hρ a ok))
 |store t a x=>
  simp only[rY,jF] at ok;exact sim_u (zzK t (hρ a ok.1) (hρ x ok.2))
 |binOp op t x y t'=>
  simp only[rY,jF] at ok;obtain⟨⟨hx,hy⟩,hk⟩:=ok;by_cases ho:op=.eql\/op=.neq
  .have cU:(zcV P.c t=true\/zd9 P.c t y=true)/\P.c.eqGuardType P.c.depth t=false:=by grind
   refine qK ?_;refine aG.bnd (zC0 op t x y (hρ x hx) (hρ y hy) cU.2 (by rw[F.guard];exact cU.2)) ?_;rintro R1 h1 _ _ _;rcases cU.1 with qY|qY
   .exact sim_cmp op ho (zfy qY) (h1.ok hR) ((hρ x hx).mono h1.le) ((hρ y hy).mono h1.le)
   .obtain⟨el,e1,e2⟩:=zCd qY
    subst e2;rw[tU,zFl];exact zAF op ho e1 ((hρ x hx).mono h1.le)
  .have zX:op≠ .eql/\op≠ .neq:=⟨λe=>ho (.inl e),λe=>ho (.inr e)⟩
   refine qK ?_;have hg:∀a b,eqGuard op t x y a b=mE ():=λa b=>by
    unfold eqGuard;simp_all
   rw[hg,hg];refine aG.bnd (A:=l7) (aG.ret rfl) ?_;rintro R1 h1 _ _ _;exact zHS op t zX (h1.ok hR) ((hρ x hx).mono h1.le) ((hρ y hy).mono h1.le)
 |unOp op t x=>exact qK (zzm op (hρ x ok))
 |convert s d x=>
  simp only[rY,jF,Eu] at ok;rcases ok.2 with h|h
  .exact qK (zDk h.1 h.2 (hρ x ok.1))
  .exact qK (zAT h.1 h.2 (hρ x ok.1))
 |nilCheck x=>
  have:=zGL (P:=P) (hρ x ok);exact this.mono λR' _ a b h=>by
   obtain⟨v,v',rfl,rfl,h⟩:=h;exact .value h
 |build t ps=>exact qK (zF7 F.zero t (zw9 hρ ok))
 |buildSlice t n ps=>exact qK (zD4 F.zero t n (zw9 hρ ok))
 |makeFunc fn a b=>
  cases fn with
  |func f=>
   simp only[rY,jF] at ok;have ha:=bM.maps hρ ok.1.2;have hb:=bM.maps hρ ok.2;exact qK (aG.ret (.func ok.1.1 ha.1 ha.2 hb.1 hb.2))
  |_=>cases ok
 |makeMap t r=>exact qK (zzE t (zgm hρ ok))
 |makeSlice t l c=>
  simp only[rY,jF] at ok;exact qK (zAk F.zero t (hρ l ok.1) (hρ c ok.2))
 |makeChan t l=>exact qK (zzr t (hρ l ok))
 |slice t x lo hi mx=>
  simp only[rY,jF] at ok;exact qK (zH4 t (hρ x ok.1.1.1) (zgm hρ ok.1.1.2) (zgm hρ ok.1.2) (zgm hρ ok.2))
 |fieldAddr t x f=>exact qK (zCL t (hρ x ok) f)
 |extract x i=>exact qK (zFO (hρ x ok) i)
 |indexAddr t x i=>
  simp only[rY,jF,Eu] at ok;have hx:VR (SF q.fs) K R (ρ x) (ρ' x):=by
   rcases ok.1 with h|h
   .exact hρ x h
   .cases x with
    |global g=>rw[ziQ,zIa];exact .pointer (.some (.mk (hR.tb g h)))
    |_=>cases h
  exact qK (zHF t hx (hρ i ok.2))
 |makeInterface t x=>exact qK (zC2 t (hρ x ok))
 |panic x=>exact qK (.inl zFC)
 |index t x i=>
  simp only[rY,jF] at ok;exact qK (zDB t (hρ x ok.1) (hρ i ok.2))
 |lookup t x i c=>
  simp only[rY,jF] at ok;refine qK (zEn F.zero (λk e he=>?_) hR (hρ x ok.1.1) (hρ i ok.1.2) c);have hm:=ok.2;unfold Wm at hm;rw[show P.c.underlying t=some (.map k e) from he] at hm;exact zfy hm
 |mapUpdate t m k x=>
  simp only[rY,jF] at ok;refine sim_u (zBc (λk e he=>?_) hR (hρ m ok.1.1.1) (hρ k ok.1.1.2) (hρ x ok.1.2));have hm:=ok.2;unfold Wm at hm;rw[show P.c.underlying t=some (.map k e) from he] at hm;exact zfy hm
 |call c=>
  obtain⟨callee,args,kJ⟩:=c
  cases callee with
  |value f=>
   simp only[rY,jF] at ok;have ha:=bM.maps hρ ok.2;have key:(∀g,f≠ .func g)->aG P (SF q.fs) K (NA (SF q.fs) q.T K) (aO ρ ⟨dst,.call ⟨.value f,args,kJ⟩,type,pos,after,guard⟩) R (aO ρ' ⟨dst,.call ⟨.value f,args,kJ⟩,type,pos,after,guard⟩):=by
    intro aU;have h1:dV q.fs f=true/\q.dy=true:=by
     have:=ok.1;unfold zxZ at this
     cases f with
     |func g=>simp_all
     |_=>simpa using this
    have hf:=hρ f h1.1;unfold aO;simp only[resolve];unfold Db;generalize ρ f=vf at hf⊢;generalize ρ' f=vf' at hf⊢
    cases hf with
    |nilFunc=>
     refine .inl ?_;intro w hw;exact(vX (P:=P) (α:=Next) (e:=.nilDeref)) w hw
    |junk _=>
     refine .inl ?_;intro w hw;exact(vX (P:=P) (α:=Next) (e:=.nilDeref)) w hw
    |func hs e1 Dm e2 h2=>
     show aG P _ K _ (callFunc _ _) R (callFunc _ _);exact zoR F (zvf _ (zuq h1.2 _ hs)) (zuq h1.2 _ hs) (bM.append (bM.append ⟨e1,Dm⟩ ha) ⟨e2,h2⟩)
    |_=>exact .inl (fA.bnd bQ _)
   cases f with
   |func g=>
    have hg:q.gs g=true:=ok.1;simp only[resolve];unfold Db;rw[I5,zAm];show aG P _ K _ (callFunc _ _) R (callFunc _ _);exact zoR F (zvf _ hg) hg (bM.append (bM.append bM.empty ha) bM.empty)
   |_=>exact key (λg e=>by cases e)
  |builtin b=>
   cases b with
   |len=>exact qK (sim_len kJ type (bM.maps hρ ok))
   |cap=>exact qK (sim_cap kJ type (bM.maps hρ ok))
   |copy=>exact qK (zDb kJ type (bM.maps hρ ok))
   |clear=>exact qK (zzQ F.zero kJ type (bM.maps hρ ok))
   |append=>
    by_cases hi:∃xt k,kJ[1]? =some xt/\P.underlying xt=some (.int k)
    .obtain⟨xt,k,e1,e2⟩:=hi
     exact qK (zIn F.zero type e1 e2 (bM.maps hρ ok))
    .refine qK (zGW F.zero type (λxt d he hd k hk=>?_) (bM.maps hρ ok))
     simp_all
   |delete=>
    simp only[rY,jF] at ok;refine qK (zBD type (λmt k e he hd=>?_) hR (bM.maps hρ ok.1));have h2:=ok.2;rw[he] at h2;simp only at h2;unfold Wm at h2;rw[show P.c.underlying mt=some (.map k e) from hd] at h2;exact zfy h2
   |_=>cases ok
  |invoke x y=>cases ok
 |_=>cases ok
end
def tp (w:aE)(T:j6)(e:Nat):World:={w with tape:=T,drawn:=e}
def Ng {α:Type}(p:bZ)(s:cY α)(w:aE):Prop:=
 ∀x w',s.run p w=.ok x w'->w'.tape=w.tape/\w.drawn<=w'.drawn/\∀T e,(∀n,n<w'.drawn-w.drawn->∀q,T (e+n) q=w.tape (w.drawn+n) q)->s.run p (tp w T e)=.ok x (tp w' T (e+(w'.drawn-w.drawn)))
variable {α:Type}{p:bZ}{w:aE}
def Ng.no {s:cY α}(h:∀x w',s.run p w≠ .ok x w'):Ng p s w:=λx w' e=>absurd e (h x w')
theorem Ng.after {s lQ:cY α}{aJ:aE}(h:Ng p lQ aJ)(hr:s.run p w=lQ.run p aJ)(ht:aJ.tape=w.tape)(hd:aJ.drawn=w.drawn)(yW:∀T e,s.run p (tp w T e)=lQ.run p (tp aJ T e)):Ng p s w:=by
 intro x w' e;rw[hr] at e;obtain⟨h1,h2,h3⟩:=h x w' e;simp_all
theorem aG.locl {P:dM}{S:aQ->Prop}{β:Type}{K:Pr}{A:Pr->α->β->Prop}{G:Gp}{St:Nat->Prop}(hG:G=P.gp)(s:cY α):
 ∀{R:Pr} {w W:aE} {s':cY β},aG P S K A s R s'->cV S K R G St w W->Tp w W->Ng P.g s w:=by
 induction s with
 |pure a=>
  rintro R w W s' _ hw ht x w' e;simp only[bL,vF] at e;obtain⟨rfl,rfl⟩:=e;exact⟨rfl,bF _,λT e _=>by simp[bL]⟩
 |load m a k ih=>
  rintro R w W s' (hn|⟨rfl,a',k',rfl,ha,hk⟩) hw ht
  .exact .no (hn.no hw.np)
  obtain⟨qZ⟩:=ha;rename_i b b' o sp;obtain⟨ob,Cq,h1,h2,h3⟩:=hw.cont b b' qZ
  cases h3 with
  |cells hc hz=>
   rename_i c c' T fz Iw
   cases sp with
   |some sp=>exact .no λx w'=>by simp[bL,lW,h1,y9,rR]
   |none=>
    cases hv:c[o]? with
    |none=>exact .no λx w'=>by simp[bL,lW,h1,y9,rR,hv]
    |some v=>
     obtain⟨v',L9,qS⟩:=hc.get hv;have e1:w.cell? ⟨b,o,none⟩=some v:=by simp[lW,h1,hv]
     refine(ih v (hk v v' qS) hw ht).after (by rw[bL,e1]) rfl rfl λT e=>?_;rw[bL,show(tp w T e).cell? ⟨b,o,none⟩=some v from e1]
  |_=>exact .no λx w'=>by simp[bL,lW,h1,y9,rR]
 |store m a v k ih=>
  rintro R w W s' (hn|⟨rfl,a',v',k',rfl,ha,hv,hk⟩) hw ht
  .exact .no (hn.no hw.np)
  obtain⟨qZ⟩:=ha;rename_i b b' o sp;by_cases Uo:∃cs,v=.agg cs
  .obtain⟨cs,rfl⟩:=Uo;exact .no λx w'=>by simp[bL]
  by_cases Gi:∃cs,v=.tuple cs
  .obtain⟨cs,rfl⟩:=Gi;exact .no λx w'=>by simp[bL]
  have cN:∀w:aE,(cY.store .plain ⟨b,o,sp⟩ v k).run P.g w=(match w.cell? ⟨b,o,sp⟩ with
   |some _=>if w.frozen? ⟨b,o,sp⟩ then .halt (.unsupported (.unsafePointer "a write to bytes that a string shares")) w else k.run P.g (w.setCell ⟨b,o,sp⟩ v)
   |none=>match w.farStore P.g ⟨b,o,sp⟩ v (Z9== .atomic) with
    | .ok (w,_)=>k.run P.g w
    | .error h=>.halt h w):=λw=>by
   rw[bL]
   .rfl
   .simp_all
   simp_all
  obtain⟨ob,Cq,h1,h2,h3⟩:=hw.cont b b' qZ
  cases h3 with
  |cells hc hz=>
   rename_i c c' T fz Iw
   cases sp with
   |some sp=>exact .no λx w'=>by rw[cN];simp[lW,h1,Dp,rR]
   |none=>
    cases gI:c[o]? with
    |none=>exact .no λx w'=>by rw[cN];simp[lW,h1,Dp,rR,gI]
    |some v0=>
     have e1:w.cell? ⟨b,o,none⟩=some v0:=by simp[lW,h1,gI]
     cases nZ:w.frozen? ⟨b,o,none⟩ with
     |true=>exact .no λx w'=>by simp_all
     |false=>
      have Xb:¬Kk fz o:=by
       intro⟨z1,z2⟩;simp[aE.frozen?,h1,z1,z2] at nZ
      have Ad:¬St b:=by
       intro hs;obtain⟨_,c2,T2,hi,g1,g2⟩:=hw.st b hs;rw[h1] at g1;injection g1 with g1;injection g1 with g1 _ g3;subst g1 g3;exact Xb ⟨lP _,jO (eB.1 gI).1 g2⟩
      have st:=nJ.upd hw qZ Ad (oS.cells (T:=T) (hc.set o hv) hz);refine(ih hk st.rel (ht.step st)).after (by rw[cN,e1];simp only[nZ,iX,if_false];rw[Yc h1]) rfl rfl λT' e=>?_;rw[cN,show(tp w T' e).cell? ⟨b,o,none⟩=some v0 from e1];simp only[show(tp w T' e).frozen? ⟨b,o,none⟩=false from nZ,iX,if_false];rw[Yc (w:=tp w T' e) h1];rfl
  |_=>exact .no λx w'=>by rw[cN];simp[lW,h1,Dp,rR]
 |new o k ih=>
  rintro R w W s' (hn|⟨o',k',rfl,ho,hk⟩) hw ht
  .exact .no (hn.no hw.np)
  have st:=nJ.push hw ho;exact(ih _ (hk _ _ ⟨λb hb=>absurd (hw.lt _ _ hb).1 (Ij _),λa ha=>absurd (hw.lt _ _ ha).2 (Ij _),by subst hG;exact hw.gle⟩) st.rel (ht.step st)).after Mw rfl rfl λT e=>by rw[bL];rfl
 |shape r k ih=>
  rintro R w W s' (hn|⟨r',k',rfl,tV,hk⟩) hw ht
  .exact .no (hn.no hw.np)
  exact(ih _ (hk _) hw ht).after Mw rfl rfl λT e=>by rw[bL];rfl
 |freeze a n k ih=>
  rintro R w W s' (hn|h) hw ht
  .exact .no (hn.no hw.np)
  .exact h.elim
 |frozen a k ih=>
  rintro R w W s' (hn|⟨r',k',rfl,hk⟩) hw ht
  .exact .no (hn.no hw.np)
  exact(ih _ (hk _ true) hw ht).after Mw rfl rfl λT e=>by rw[bL];rfl
 |getObj r k ih=>
  rintro R w W s' (hn|⟨r',k',rfl,tV,hk⟩) hw ht
  .exact .no (hn.no hw.np)
  rcases hw.orR tV with y|y
  .obtain⟨ob,Cq,h1,h2,h3⟩:=hw.cont r r' y
   have go:(∀c T fz,ob≠ .cells c T fz)->Ng P.g (.getObj r k) w:=λn1=>by
    refine(ih ob (hk _ _ h3) hw ht).after ?_ rfl rfl λT e=>?_
    .rw[bL,h1];simp_all
    .rw[bL,show(tp w T e).heap[r]? =some ob from h1];simp_all
   cases h3 with
   |cells _ _=>exact .no λx w'=>by rw[bL,h1];simp
   |_=>exact go aN
  .exact .no λx w'=>by rw[bL,y];simp[pF]
 |setObj r o k ih=>
  rintro R w W s' (hn|⟨r',o',k',rfl,tV,ho,hk⟩) hw ht
  .exact .no (hn.no hw.np)
  rcases hw.orR tV with y|y
  .obtain⟨ob,Cq,h1,h2,h3⟩:=hw.cont r r' y
   have go:(∀c T fz,ob≠ .cells c T fz)->Ng P.g (.setObj r o k) w:=λn1=>by
    have Ad:¬St r:=by
     intro hs;obtain⟨_,c2,T2,hi,g1,g2⟩:=hw.st r hs;rw[h1] at g1;injection g1 with g1;exact n1 _ _ _ g1
    have st:=nJ.upd hw y Ad ho;refine(ih hk st.rel (ht.step st)).after ?_ rfl rfl λT e=>?_
    .rw[bL,h1];simp_all
    .rw[bL,show(tp w T e).heap[r]? =some ob from h1];cases ob<;>first|rfl|exact absurd rfl (n1 _ _ _)
   cases h3 with
   |cells _ _=>exact .no λx w'=>by rw[bL,h1];simp
   |_=>exact go aN
  .exact .no λx w'=>by rw[bL,y];simp[pF]
 |choose q k ih=>
  rintro R w W s' (hn|⟨k',rfl,hk⟩) hw ht
  .exact .no (hn.no hw.np)
  cases hq:q.forced with
  |true=>exact(ih 0 (hk 0) hw ht).after (by rw[bL,hq];rfl) rfl rfl λT e=>by rw[bL,hq];rfl
  |false=>
   have st:=nJ.draw hw;intro x w' e;rw[bL,hq] at e;simp only[iX,if_false] at e;obtain⟨h1,h2,h3⟩:=ih _ (hk _) st.rel (ht.step st) x w' e;simp only at h1 h2 h3;refine⟨h1,aC,λT e' ha=>?_⟩;rw[bL,hq];simp only[iX,if_false];have ea:T e' q=w.tape w.drawn q:=ha 0 aC q;have:=h3 T (e'+1) (λn hn q'=>by rw[show e'+1+n=e'+(n+1) by omega,show w.drawn+1+n=w.drawn+(n+1) by omega];exact ha (n+1) aC q');show bL P.g (k (q.cut (T e' q))) (tp w T (e'+1))=_;rw[ea];rw[show tp w T (e'+1)=tp {w with drawn:=w.drawn+1} T (e'+1) from rfl,this];congr 2;omega
 |sys c k ih=>
  rintro R w W s' (hn|h) hw ht
  .exact .no (hn.no hw.np)
  .exact h.elim
 |program k ih=>
  rintro R w W s' (hn|⟨k',rfl,hk⟩) hw ht
  .exact .no (hn.no hw.np)
  exact(ih _ hk hw ht).after Mw rfl rfl λT e=>by rw[bL]
 |mark m k ih=>
  rintro R w W s' (hn|⟨rfl,k',rfl,hk⟩) hw ht
  .exact .no (hn.no hw.np)
  exact(ih hk hw ht).after Mw rfl rfl λT e=>by rw[bL]
 |halt h=>
  rintro R w W s' _ hw ht;exact .no λx w'=>by simp[bL]
end Go.Tt
namespace Go.Tt
open Go.Conc (G)
structure Fm where
 fn:aQ
 tmps:Array aF
 todo:List dX
 ret:Bool
def Fm.fr (m:Fm):Frame:={fn:=m.fn,tmps:=m.tmps,todo:=m.todo,defers:=[],mode:=if m.ret then .returning else .run,kind:=.normal}
def Fm.eval (m:Fm):cK->aF
 | .tmp t=>m.tmps.getD t aA
 | .const v=>v
 | .global g=>.pointer (some ⟨g,0,none⟩)
 | .func f=>.func (.func f) #[] #[]
def Fm.fin (m:Fm)(ops:Array aZ)(i:Nat)(rest:List Nat)(k:List dX)(v:aF):Fm:=
 {m with tmps:=match(ops[i]?).bind (·.dst) with|some d=>m.tmps.setIfInBounds d v|none=>m.tmps,todo:=.inRegion ops rest::k}
def x3 (t:Array aF):Qh->cY aF
 | .tmp s=>pure (t.getD s aA)
 | .cell s ty=>do loadVar ty (<-asAddr (t.getD s aA))
def oG:List Qh->Array aF->cY aF
 |[],_=>pure (.tuple #[])
 |[a],t=>x3 t a
 |[a,b],t=>do
  let x<-x3 t a
  let y<-x3 t b
  pure (.tuple #[x,y])
 |[a,b,c],t=>do
  let x<-x3 t a
  let y<-x3 t b
  let z<-x3 t c
  pure (.tuple #[x,y,z])
 |[a,b,c,d],t=>do
  let x<-x3 t a
  let y<-x3 t b
  let z<-x3 t c
  let u<-x3 t d
  pure (.tuple #[x,y,z,u])
 |_,_=>stuck ""
def Gr (l:List Qh):Prop:=l=[]\/(∃a,l=[a])\/(∃a b,l=[a,b])\/(∃a b c,l=[a,b,c])\/∃a b c d,l=[a,b,c,d]
variable {fn:Func}
theorem zmR {tmps:Array aF}(h:Gr fn.results.toList):results fn tmps=oG fn.results.toList tmps:=by
 rcases h with e|⟨a,e⟩|⟨a,b,e⟩|⟨a,b,c,e⟩|⟨a,b,c,d,e⟩
 .have e':=zc1.1 e
  simp[results,e',oG]
 .have e':=zc1.1 e
  rw[e];cases a<;>simp[results,e',oG,x3]
 .have e':=zc1.1 e
  rw[e];cases a<;>cases b<;>simp[results,e',oG,x3]
 .have e':=zc1.1 e
  rw[e];cases a<;>cases b<;>cases c<;>simp[results,e',oG,x3]
 .have e':=zc1.1 e
  rw[e];cases a<;>cases b<;>cases c<;>cases d<;>simp[results,e',oG,x3]
def TF {α:Type}(p:bZ)(s:cY α):Prop:=∀w x w',s.run p w=.ok x w'->w'=w/\∀T e,s.run p (tp w T e)=.ok x (tp w T e)
variable {α:Type}{p:bZ}
theorem TF.ret (a:α):TF p (mE a:cY α):=λw x w' h=>by simp_all
theorem TF.bnd {β:Type}{s:cY α}{f:α->cY β}(hs:TF p s)(hf:∀a,TF p (f a)):TF p (s>>=f):=λw x w' h=>by
 have h2:=(uR p s f w).symm.trans h
 cases hx:s.run p w with
 |halt y w2=>rw[hx] at h2;cases h2
 |ok a w1=>
  rw[hx] at h2;obtain⟨rfl,h3⟩:=hs w a w1 hx;obtain⟨rfl,h4⟩:=hf a w1 x w' h2;refine⟨rfl,λT e=>(uR p s f _).trans ?_⟩;rw[h3 T e];exact h4 T e
def TF.halt {s:cY α}(h:∀w x w',s.run p w≠ .ok x w'):TF p s:=λw x w' e=>absurd e (h w x w')
theorem zgO {Rp:String}:TF p (stuck Rp:cY α):=TF.halt λw x w' e=>by simp_all
theorem zsU :TF p program:=λw x w' h=>by simp_all
theorem ztS (a:bC):TF p (load a):=λw x w' h=>by
 unfold load at h⊢;simp only[bL] at h⊢
 cases hc:w.cell? a with
 |none=>
  rw[hc] at h;simp only at h
  cases hf:y9 p w a (Z9==zfl) with
  |error y=>rw[hf] at h;cases h
  |ok v=>
   rw[hf] at h;simp only[vF] at h;refine⟨h.2.symm,λT e=>?_⟩;have e1:(tp w T e).cell? a=none:=hc;have e2:y9 p (tp w T e) a (Z9==zfl)=.ok v:=(show y9 p (tp w T e) a (Z9==zfl)=y9 p w a (Z9==zfl) from rfl).trans hf;simp_all
 |some v=>
  rw[hc] at h;simp only[vF] at h;refine⟨h.2.symm,λT e=>?_⟩;have:(tp w T e).cell? a=some v:=hc;rw[this,h.1]
theorem zDm (t:aM):TF p (underlying t):=by
 unfold underlying;refine zsU.bnd λq=>?_;split
 .exact .ret _
 .exact zgO
theorem zDX (t:aM):TF p (isAgg t):=by
 unfold isAgg;refine(zDm t).bnd λq=>?_;split<;>exact .ret _
theorem zEL (t:aM):TF p (sizeOf t):=by
 unfold sizeOf typeInfo;refine TF.bnd (zsU.bnd λq=>?_) λi=>.ret _;split
 .exact .ret _
 .exact zgO
def zs4 (a:bC):∀(n i:Nat) (acc:Array aF),TF p (loadCellsFrom a i n acc)
 |0,i,acc=>.ret _
 |n+1,i,acc=>(ztS _).bnd λv=>zs4 a n (i+1) (acc.push v)
theorem zGZ (t:aM)(a:bC):TF p (loadVar t a):=by
 unfold loadVar;refine(zDX t).bnd λb=>?_;split
 .exact(zEL t).bnd λn=>(zs4 a n 0 #[]).bnd λx=>.ret _
 .exact ztS a
theorem Ki (t:Array aF)(r:Qh):TF p (x3 t r):=by
 cases r with
 |tmp s=>exact .ret _
 |cell s ty=>
  refine TF.bnd ?_ λa=>zGZ ty a;unfold asAddr;split
  .exact .ret _
  .exact TF.halt λw x w' e=>by simp[runtimePanic,goPanic,bL,bind,yN,program] at e
  .exact zgO
def Yf (t:Array aF):∀l:List Qh,TF p (oG l t)
 |[]=>.ret _
 |[a]=>Ki t a
 |[a,b]=>(Ki t a).bnd λx=>(Ki t b).bnd λy=>.ret _
 |[a,b,c]=>(Ki t a).bnd λx=>(Ki t b).bnd λy=>(Ki t c).bnd λz=>.ret _
 |[a,b,c,d]=>(Ki t a).bnd λx=>(Ki t b).bnd λy=>(Ki t c).bnd λz=>(Ki t d).bnd λu=>.ret _
 |_::_::_::_::_::_=>zgO
variable {w w':aE}{v:aF}
theorem zu9 {l:List Qh}{t:Array aF}(h:(oG l t).run p w=.ok v w'):Gr l:=by
 match l,h with
 |[],_=>exact .inl rfl
 |[a],_=>exact .inr (.inl ⟨a,rfl⟩)
 |[a,b],_=>exact .inr (.inr (.inl ⟨a,b,rfl⟩))
 |[a,b,c],_=>exact .inr (.inr (.inr (.inl ⟨a,b,c,rfl⟩)))
 |[a,b,c,d],_=>exact .inr (.inr (.inr (.inr ⟨a,b,c,d,rfl⟩)))
 |a::b::c::d::e::l,h=>simp[oG,stuck,bL] at h
def rH (p:bZ)(m:Fm)(ms:List Fm)(ops:Array aZ)(i:Nat)(rest:List Nat)(k:List dX):Next->cY (Fm×List Fm)
 | .value v=>pure (m.fin ops i rest k v,ms)
 | .skip=>pure (m.fin ops i rest k aA,ms)
 | .enter f args=>
  match p.funcs[f]? with
  |some fn=>(match fn.body with
   |some c=>pure (⟨f,args++oJ (fn.ntmps-args.size) aA,[.code c],false⟩,m::ms)
   |none=>stuck "")
  |none=>stuck ""
 |_=>stuck ""
def z8 (p:bZ)(m:Fm):List Fm->cY (Fm×List Fm)
 |[]=>stuck ""
 |c::rest=>
  match c.todo,p.funcs[m.fn]? with
  | .inRegion ops (i::r)::k,some fn=>do
   let v<-oG fn.results.toList m.tmps
   pure (c.fin ops i r k v,rest)
  |_,_=>stuck ""
variable {m:Fm}{rest:List Fm}{w1:aE}
theorem Uc {c m1:Fm}{ms1:List Fm}(h:(z8 p m (c::rest)).run p w=.ok (m1,ms1) w1):
 ∃ops i r k v fn,c.todo=.inRegion ops (i::r)::k/\p.funcs[m.fn]? =some fn/\(oG fn.results.toList m.tmps).run p w=.ok v w1/\m1=c.fin ops i r k v/\ms1=rest:=by
 unfold z8 at h;simp only at h;split at h
 .next ops i r k fn hc hf=>
  have h2:=(uR p _ _ w).symm.trans h
  cases hx:(oG fn.results.toList m.tmps).run p w with
  |halt y w2=>rw[hx] at h2;cases h2
  |ok v w2=>
   rw[hx] at h2;simp only[vR,mE,bL,vF,sG] at h2;obtain⟨⟨rfl,rfl⟩,rfl⟩:=h2;exact⟨ops,i,r,k,v,fn,hc,hf,hx,rfl,rfl⟩
 .simp[stuck,bL] at h
variable {ops:Array aZ}{i:Nat}{k:List dX}
theorem Ma {c:Fm}{r:List Nat}(hc:c.todo=.inRegion ops (i::r)::k)(hf:p.funcs[m.fn]? =some fn)(hv:(oG fn.results.toList m.tmps).run p w=.ok v w1):
 (z8 p m (c::rest)).run p w=.ok (c.fin ops i r k v,rest) w1/\∀es,(z8 p m (c::rest)).events p w es=(oG fn.results.toList m.tmps).events p w es:=by
 unfold z8;simp_all
def sX (p:bZ)(m:Fm)(ms:List Fm):cY (Fm×List Fm):=
 match m.todo with
 |[]=>pure ({m with ret:=true},ms)
 | .code .ret::_=>pure ({m with ret:=true},ms)
 | .code .skip::k=>pure ({m with todo:=k},ms)
 | .code (.label _)::k=>pure ({m with todo:=k},ms)
 | .inBlock _::k=>pure ({m with todo:=k},ms)
 | .inScope _::k=>pure ({m with todo:=k},ms)
 | .code (.seq a b)::k=>pure ({m with todo:=.code a:: .code b::k},ms)
 | .code (.cond c a b)::k=>(match m.eval c with
  | .bool t=>pure ({m with todo:=.code (if t then a else b)::k},ms)
  |_=>stuck "")
 | .code (.block id body)::k=>pure ({m with todo:=.code body:: .inBlock id::k},ms)
 | .code (.loop body)::k=>pure ({m with todo:=.code body:: .inLoop body::k},ms)
 | .inLoop body::k=>pure ({m with todo:=.code body:: .inLoop body::k},ms)
 | .code (.scope body)::k=>pure ({m with todo:=.code body:: .inScope body::k},ms)
 | .code (.exit id)::k=>(match exitTo id k with
  |some k'=>pure ({m with todo:=k'},ms)
  |none=>stuck "")
 | .code (.region id ops draw)::k=>
  if draw then do
   let t<-choose (.order m.fn id)
   pure ({m with todo:=.inRegion ops (Tz (p.follows .mixedOrders) ops t)::k},ms)
  else pure ({m with todo:=.inRegion ops (iQ ops.size)::k},ms)
 | .inRegion _ []::k=>pure ({m with todo:=k},ms)
 | .inRegion ops (i::rest)::k=>
  if((ops[i]?).map (dE · (dH ops m.tmps))).getD false then
   match ops[i]? with
   |some o=>do
    let n<-aO m.eval o
    rH p m ms ops i rest k n
   |none=>stuck ""
  else pure (m.fin ops i rest k aA,ms)
 |_=>stuck ""
def fH (p:bZ)(m:Fm)(ms:List Fm):cY (Fm×List Fm):=if m.ret then z8 p m ms else sX p m ms
theorem Fm.eval_fr (m:Fm):m.fr.eval=m.eval:=by funext x;cases x<;>rfl
theorem Fm.fr_run (h:m.ret=false):m.fr={fn:=m.fn,tmps:=m.tmps,todo:=m.todo,defers:=[],mode:=.run,kind:=.normal}:=by simp[Fm.fr,h]
theorem Fm.fr_ret (h:m.ret=true):m.fr={fn:=m.fn,tmps:=m.tmps,todo:=m.todo,defers:=[],mode:=.returning,kind:=.normal}:=by simp[Fm.fr,h]
theorem zHk {rest:List Nat}(h:m.todo=.inRegion ops (i::rest)::k)(v:aF):m.fr.finish v=(m.fin ops i rest k v).fr:=by
 simp only[dR.finish,Fm.fr,Fm.fin,h]
 grind
theorem zb4 {f:aQ}{c:Code}{args:Array aF}(hf:p.funcs[f]? =some fn)(hb:fn.body=some c):
 Hm p f args .normal=(⟨f,args++oJ (fn.ntmps-args.size) aA,[.code c],false⟩:Fm).fr:=by
 simp[Hm,Fm.fr,hf,hb]
theorem znh {id:Nat}:∀{l l':List dX} (k:List dX),exitTo id l=some l'->exitTo id (l++k)=some (l'++k)
 |[],_,_,h=>by simp[exitTo] at h
 |x::l,l',k,h=>by
  have tail:exitTo id l=some l'->exitTo id (l++k)=some (l'++k):=znh k;cases x<;>simp only[exitTo,Ra] at h⊢<;>first|exact tail h|skip
  grind
open Conc in
structure Dk where
 ds:List Deferred
 kd:CallKind
 ok:kd≠ .early
abbrev Dk.nil:Dk:=⟨[],.normal,aN⟩
def Dk.base (d:Dk)(fn:aQ):Frame:={(default:dR) with fn:=fn,kind:=d.kd}
def fx (k:List dX)(d:Dk)(m:Fm):Frame:={m.fr with todo:=m.todo++k,defers:=d.ds,kind:=d.kd}
theorem Hf (m:Fm):fx [] .nil m=m.fr:=by unfold fx;simp[Fm.fr]
variable {main:Bool}{m':Fm}{ms ms':List Fm}
theorem zki (hr:m.ret=false)(aU:m.todo=[]->k=[])(h:(sX p m ms).run p w=.ok (m',ms') w')(d:Dk)(CS:List dR):
 (ms'=ms/\stepG p main (G (fx k d m) CS) w=.go (G (fx k d m') CS) w' (seen p m.fn ((sX p m ms).events p w #[])))\/
 (ms'=m::ms/\stepG p main (G (fx k d m) CS) w=.go (G m'.fr (fx k d m::CS)) w' (seen p m.fn ((sX p m ms).events p w #[]))):=by
 have Qk:seen p m.fn #[]=#[]:=Ax p _;obtain⟨fn,tmps,todo,ret⟩:=m;simp only at hr Qk aU⊢;subst hr;unfold sX at h⊢;simp only at h⊢;split at h
 all_goals first
  |(simp[stuck,bL] at h;done)
  |(
   obtain rfl:=aU rfl;simp only[mE,bL,vF,sG] at h;obtain⟨⟨rfl,rfl⟩,rfl⟩:=h;refine .inl ⟨rfl,?_⟩;simp[G,stepG,Ob,Fm.fr,fx,Qk,Cg]
   done)
  |(
   simp only[mE,bL,vF,sG] at h;obtain⟨⟨rfl,rfl⟩,rfl⟩:=h;refine .inl ⟨rfl,?_⟩;simp[G,stepG,Ob,Fm.fr,fx,Qk,Cg]
   done)
  |skip
 case h_8 _ c a b k0=>
  generalize hv:Fm.eval {fn:=fn,tmps:=tmps,todo:=Ld (Code.cond c a b)::k0,ret:=false} c=v at h⊢;have hc:dR.eval {fn:=fn,tmps:=tmps,todo:=Ld (Code.cond c a b)::(k0++k),defers:=d.ds,mode:=.run,kind:=d.kd} c=v:=by rw[<-hv];cases c<;>rfl
  cases v with
  |bool t=>
   simp only[mE,bL,vF,sG] at h;obtain⟨⟨rfl,rfl⟩,rfl⟩:=h;refine .inl ⟨rfl,?_⟩;simp[G,stepG,Ob,Fm.fr,fx,Qk,hc]
  |_=>simp_all
 case h_13 _ id k0=>
  cases he:exitTo id k0 with
  |some k'=>
   rw[he] at h;simp only[mE,bL,vF,sG] at h;obtain⟨⟨rfl,rfl⟩,rfl⟩:=h;refine .inl ⟨rfl,?_⟩;simp[G,stepG,Ob,Fm.fr,fx,Qk,znh k he]
  |none=>simp_all
 case h_14 _ id ops draw k0=>
  cases draw with
  |true=>
   simp[choose,bL,zkC,ziR,bind,yN,pure] at h;obtain⟨⟨rfl,rfl⟩,rfl⟩:=h;refine .inl ⟨rfl,?_⟩;simp[G,stepG,Ob,Fm.fr,fx,Qk,choose,bL,zkC,ziR,xI,cY.runT,bind,yN,pure]
  |false=>
   simp only[iX,if_false,mE,bL,vF,sG] at h;obtain⟨⟨rfl,rfl⟩,rfl⟩:=h;refine .inl ⟨rfl,?_⟩;simp[G,stepG,Ob,Fm.fr,fx,Qk]
 case h_16 _ ops i rest k0=>
  have zf8:∀x,Act.eval ⟨tmps,d.ds⟩ x=Fm.eval {fn:=fn,tmps:=tmps,todo:=sC ops (i::rest)::k0,ret:=false} x:=λx=>by cases x<;>rfl
  have zyg:Act.eval ⟨tmps,d.ds⟩=Fm.eval {fn:=fn,tmps:=tmps,todo:=sC ops (i::rest)::k0,ret:=false}:=funext zf8;have Bd:∀v,(d.base fn).at (Act.put ⟨tmps,d.ds⟩ ((ops[i]?).bind (·.dst)) v) (.inRegion ops rest::(k0++k))=fx k d (Fm.fin {fn:=fn,tmps:=tmps,todo:=sC ops (i::rest)::k0,ret:=false} ops i rest k0 v):=λv=>by
   unfold Fm.fin Act.put fx;cases(ops[i]?).bind (·.dst)<;>rfl
  have hb:(d.base fn).kind≠ .early:=d.ok;have U3:fx k d {fn:=fn,tmps:=tmps,todo:=sC ops (i::rest)::k0,ret:=false}=(d.base fn).at ⟨tmps,d.ds⟩ (.inRegion ops (i::rest)::(k0++k)):=rfl;rw[U3]
  cases ho:ops[i]? with
  |none=>
   rw[ho] at h;simp only[Option.map_none,Option.getD_none,iX,if_false,mE,bL,vF,sG] at h;obtain⟨⟨rfl,rfl⟩,rfl⟩:=h;refine .inl ⟨rfl,?_⟩;rw[<-Bd aA];have I5:((d.base fn).at ⟨tmps,d.ds⟩ (.inRegion ops (i::rest)::(k0++k))).finish aA=(d.base fn).at (Act.put ⟨tmps,d.ds⟩ ((ops[i]?).bind (·.dst)) aA) (.inRegion ops rest::(k0++k)):=dR.finish_at _ _ _ _ _ _ _;rw[<-I5];simp[G,stepG,Ob,Qk,ho,dR.at]
  |some o=>
   rw[ho] at h;simp only[ho,uY] at Bd;simp only[F8,Br] at h⊢;by_cases hw:dE o (dH ops tmps)=true
   .rw[if_pos hw] at h
    rw[if_pos hw];have tY:=uR p (aO (Fm.eval {fn:=fn,tmps:=tmps,todo:=sC ops (i::rest)::k0,ret:=false}) o) (rH p {fn:=fn,tmps:=tmps,todo:=sC ops (i::rest)::k0,ret:=false} ms ops i rest k0) w;have h':=tY.symm.trans h;have zzD:=Xr p (aO (Fm.eval {fn:=fn,tmps:=tmps,todo:=sC ops (i::rest)::k0,ret:=false}) o) (rH p {fn:=fn,tmps:=tmps,todo:=sC ops (i::rest)::k0,ret:=false} ms ops i rest k0) w #[]
    cases hx:(aO (Fm.eval {fn:=fn,tmps:=tmps,todo:=sC ops (i::rest)::k0,ret:=false}) o).run p w with
    |halt y w1=>rw[hx] at h';cases h'
    |ok n w1=>
     rw[hx] at h' zzD;have lX:(aO (Act.eval ⟨tmps,d.ds⟩) o).run p w=.ok n w1:=by rw[zyg];exact hx
     have hl:wQ p fn ⟨tmps,d.ds⟩ o w=seen p fn ((aO (Fm.eval {fn:=fn,tmps:=tmps,todo:=sC ops (i::rest)::k0,ret:=false}) o).events p w #[]):=by unfold wQ;rw[zyg]
     have h2:(rH p {fn:=fn,tmps:=tmps,todo:=sC ops (i::rest)::k0,ret:=false} ms ops i rest k0 n).run p w1=.ok (m',ms') w':=h'
     have znG:∀(r:Fm×List Fm),rH p {fn:=fn,tmps:=tmps,todo:=sC ops (i::rest)::k0,ret:=false} ms ops i rest k0 n=mE r->
      (m',ms')=r/\w'=w1/\seen p fn ((do let n<-aO (Fm.eval {fn:=fn,tmps:=tmps,todo:=sC ops (i::rest)::k0,ret:=false}) o;rH p {fn:=fn,tmps:=tmps,todo:=sC ops (i::rest)::k0,ret:=false} ms ops i rest k0 n:cY (Fm×List Fm)).events p w #[])=wQ p fn ⟨tmps,d.ds⟩ o w:=λr e=>by simp_all
     cases n with
     |value v=>
      obtain⟨e1,rfl,e3⟩:=znG _ rfl;injection e1 with e1 e2;subst e1 e2;refine .inl ⟨rfl,?_⟩;rw[e3];have:=Conc.stepG_value (main:=main) (b:=d.base fn) (a:=⟨tmps,d.ds⟩) (rest:=rest) (k:=k0++k) (cs:=CS) ho hw hb lX;rw[Bd] at this;exact this
     |skip=>
      obtain⟨e1,rfl,e3⟩:=znG _ rfl;injection e1 with e1 e2;subst e1 e2;refine .inl ⟨rfl,?_⟩;rw[e3];have:=Conc.stepG_none (main:=main) (b:=d.base fn) (a:=⟨tmps,d.ds⟩) (rest:=rest) (k:=k0++k) (cs:=CS) ho hw hb lX;rw[Bd] at this;exact this
     |enter f args=>
      have h3:=h2;simp only[rH] at h3
      cases hf:p.funcs[f]? with
      |none=>simp_all
      |some fn2=>
       cases zff:fn2.body with
       |none=>simp_all
       |some c=>
        obtain⟨e1,rfl,e3⟩:=znG _ (by simp only[rH,hf,zff];rfl);injection e1 with e1 e2;subst e1 e2;refine .inr ⟨rfl,?_⟩;rw[e3];have:=Conc.stepG_enter (main:=main) (b:=d.base fn) (a:=⟨tmps,d.ds⟩) (rest:=rest) (k:=k0++k) (cs:=CS) ho hw hb lX;rw[zb4 hf zff] at this;exact this
     |_=>simp[rH,stuck,bL] at h2
   .rw[if_neg hw] at h
    rw[if_neg hw];simp only[mE,bL,vF,sG] at h;obtain⟨⟨rfl,rfl⟩,rfl⟩:=h;refine .inl ⟨rfl,?_⟩;have:=Conc.stepG_unwanted (P:=p) (main:=main) (b:=d.base fn) (a:=⟨tmps,d.ds⟩) (rest:=rest) (k:=k0++k) (cs:=CS) (w:=w) ho (by simpa using hw);simp_all
theorem zh0 (h:(fH p m ms).run p w=.ok (m',ms') w')(base:List dR):
 stepG p main (G m.fr (ms.map Fm.fr++base)) w=.go (G m'.fr (ms'.map Fm.fr++base)) w' (seen p m.fn ((fH p m ms).events p w #[])):=by
 unfold fH at h⊢;by_cases hr:m.ret=true
 .simp only[hr,if_true] at h⊢
  cases ms with
  |nil=>simp[z8,stuck,bL] at h
  |cons c rest=>
   obtain⟨ops,i,r,k,v,fn,hc,hf,hv,rfl,rfl⟩:=Uc h;rw[(Ma hc hf hv).2];have he:results fn m.tmps=oG fn.results.toList m.tmps:=zmR (zu9 hv);rw[Fm.fr_ret hr,List.map_cons,Ra];have Bd:c.fr.finish v=(c.fin ops i r k v).fr:=zHk hc v;rw[<-Bd];simp[G,stepG,unwind,doReturn,hf,he,hv,Cg]
 .have yW:m.ret=false:=by simpa using hr
  simp only[yW,iX,if_false] at h⊢;rcases zki (main:=main) yW (k:=[]) (λ_=>rfl) h .nil (ms.map Fm.fr++base) with⟨rfl,e⟩|⟨rfl,e⟩
  .simp only[Hf] at e;exact e
  .simp only[Hf] at e;exact e
end Go.Tt
namespace Go.Tt
def F6 (p:bZ)(q:Cl):dX->Bool
 | .code c| .inLoop c| .inScope c=>pX p q c
 | .inBlock _=>true
 | .inRegion ops _=>ops.all λo=>rY p q o.op
 |_=>false
def Wait (m:Fm):Prop:=m.ret=false/\∃ops i r k,m.todo=.inRegion ops (i::r)::k
section
variable (P:dM)(fs:aQ->Bool)(K R:Pr)
structure qB (m m':Fm):Prop where
 fn:m.fn=m'.fn
 todo:m.todo=m'.todo
 ret:m.ret=m'.ret
 tmps:bM (SF fs) K R m.tmps m'.tmps
 fit:∀i∈m.todo,F6 P.c (uM P fs m.fn) i=true
 infs:∃fn fn',P.g.funcs[m.fn]? =some fn/\P.c.funcs[m.fn]? =some fn'/\fn.results=fn'.results/\Gr fn.results.toList
inductive uS:List Fm->List Fm->Prop
 |nil:uS [] []
 |cons {m m':Fm} {ms ms':List Fm}:qB P fs K R m m'->Wait m->uS ms ms'->uS (m::ms) (m'::ms')
end
structure Fit2 (P:dM)(fs:aQ->Bool):Prop extends Fit P fs where
 res:∀f,P.gs f=true->P.op f=false->∀fn,P.c.funcs[f]? =some fn->Gr fn.results.toList
 follows:P.g.follows .mixedOrders=P.c.follows .mixedOrders
section
variable {P:dM}{fs:aQ->Bool}{K R R':Pr}
variable {m m':Fm}
def qB.mono (h:R.le R')(x:qB P fs K R m m'):qB P fs K R' m m':=⟨x.fn,x.todo,x.ret,x.tmps.mono h,x.fit,x.infs⟩
variable {ms ms':List Fm}
theorem uS.mono (h:R.le R')(x:uS P fs K R ms ms'):uS P fs K R' ms ms':=by
 induction x with
 |nil=>exact .nil
 |cons a b _ ih=>exact .cons (a.mono h) b ih
theorem yA {S:aQ->Prop}:VR S K R aA undef:=.tuple rfl (λi v v' h=>by simp at h)
theorem qB.eval (x:qB P fs K R m m'):∀o,dV fs o=true->VR (SF fs) K R (m.eval o) (m'.eval o):=by
 intro o ho
 cases o with
 |tmp t=>exact x.tmps.getD t yA
 |const v=>exact ztf ho
 |global g=>cases ho
 |func f=>exact .func ho rfl (λi v v' h=>by simp at h) rfl (λi v v' h=>by simp at h)
def Ea (p:bZ)(f:aQ)(xs:Array aF):Fm:=
 match p.funcs[f]? with
 |some fn=>(match fn.body with
  |some c=>⟨f,xs++oJ (fn.ntmps-xs.size) aA,[.code c],false⟩
  |none=>⟨f,xs,[],false⟩)
 |none=>⟨f,xs,[],false⟩
structure OpR (P:dM)(fs:aQ->Bool)(K R:Pr)(x y:Fm×List Fm):Prop where
 ex:∃f xs b8 c c' rest N2,P.op f=true/\P.gs f=true/\bM (SF fs) K R xs b8/\x=(Ea P.g f xs,c::rest)/\y=(Ea P.c f b8,c'::N2)/\qB P fs K R c c'/\Wait c/\uS P fs K R rest N2/\P.lw c.fn=false
abbrev StA (P:dM)(fs:aQ->Bool)(K:Pr)(l:Bool):Pr->(Fm×List Fm)->(Fm×List Fm)->Prop:=λR x y=>
 (qB P fs K R x.1 y.1/\uS P fs K R x.2 y.2/\(l=true->P.lw x.1.fn=true/\∀c∈x.2,P.lw c.fn=true))\/(l=false/\OpR P fs K R x y)
variable {ops:Array aZ}{i:Nat}{rest:List Nat}{k:List dX}
theorem qB.fin (x:qB P fs K R m m')(h:m.todo=.inRegion ops (i::rest)::k){v v':aF}(hv:VR (SF fs) K R v v'):
 qB P fs K R (m.fin ops i rest k v) (m'.fin ops i rest k v'):=by
 refine⟨x.fn,rfl,x.ret,?_,λj hj=>?_,x.infs⟩
 .unfold Fm.fin
  cases(ops[i]?).bind (·.dst) with
  |none=>exact x.tmps
  |some d=>exact x.tmps.set d hv
 .simp only[Fm.fin,mD] at hj
  rcases hj with rfl|hj
  .have:=x.fit (.inRegion ops (i::rest)) (by rw[h];simp)
   exact this
  .exact x.fit j (by rw[h];simp[hj])
abbrev LowS (P:dM)(l:Bool)(m:Fm)(ms:List Fm):Prop:=l=true->P.lw m.fn=true/\∀c∈ms,P.lw c.fn=true
variable {xs b8:Array aF}
theorem bM.pad (ha:bM (SF fs) K R xs b8)(n:Nat):bM (SF fs) K R (xs++oJ (n-xs.size) aA) (b8++oJ (n-b8.size) aA):=by
 rw[ha.1];refine ha.append ⟨aN,λj v v' h1 h2=>?_⟩;rw[Array.getElem?_replicate] at h1 h2;split at h1
 .rename_i hj
  rw[if_pos hj] at h2;cases h1;cases h2;exact yA
 .cases h1
theorem zhv (F:Fit P fs)(g:aQ):∀f,(uM P fs g).gs f=true->P.gs f=true:=λf h=>by
 unfold uM at h;split at h
 .exact(F.low f h).2
 .exact h
theorem zrg (F:Fit P fs)(g:aQ):(uM P fs g).dy=true->∀f,fs f=true->(uM P fs g).gs f=true:=λh f hf=>by
 unfold uM at h⊢;split at h
 .cases h
 .next e=>rw[if_neg e];exact F.dyn h f hf
theorem sim_opS (F:Fit2 P fs){l:Bool}(hm:qB P fs K R m m')(kK:uS P fs K R ms ms')(pB:LowS P l m ms)(hr:m.ret=false)(h:m.todo=.inRegion ops (i::rest)::k){n n':Next}(hn:NxR (SF fs) (uM P fs m.fn).T K R n n'):
 aG P (SF fs) K (StA P fs K l) (rH P.g m ms ops i rest k n) R (rH P.c m' ms' ops i rest k n'):=by
 cases hn with
 |value hv=>exact aG.ret (.inl ⟨hm.fin h hv,kK,pB⟩)
 |skip=>exact aG.ret (.inl ⟨hm.fin h yA,kK,pB⟩)
 |enter hT ha=>
  rename_i f xs b8;have S3:P.lw m.fn=true->P.lw f=true:=λe=>by
   unfold uM at hT
   grind
  have hf:P.gs f=true:=zhv F.toFit m.fn f hT
  cases ho:P.op f with
  |false=>
   obtain⟨fn,c,e1,e2,e3,e4,e5⟩:=F.fn f hf ho;simp only[rH,e1,e2,e4];refine aG.ret (.inl ⟨⟨rfl,rfl,rfl,ha.pad _,λj hj=>?_,⟨fn,fn,e1,e2,rfl,F.res f hf ho fn e2⟩⟩,.cons hm ⟨hr,ops,i,rest,k,h⟩ kK,λe=>⟨S3 (pB e).1,λc hc=>?_⟩⟩)
   .simp only[mD,nE,or_false] at hj
    subst hj;exact e5
   grind
  |true=>
   obtain⟨fn,fn',c,c',e1,e2,e3,e4,e5,e6⟩:=F.opq f hf ho;have zlP:P.lw m.fn=false:=by
    cases hq:P.lw m.fn with
    |false=>rfl
    |true=>have:=(F.low f (S3 hq)).1;simp_all
   have hl:l=false:=by
    cases l with
    |false=>rfl
    |true=>simp_all
   simp only[rH,e1,e2,e5,e6];refine aG.ret (.inr ⟨hl,⟨f,xs,b8,m,m',ms,ms',ho,hf,ha,?_,?_,hm,⟨hr,ops,i,rest,k,h⟩,kK,zlP⟩⟩)
   .have:P.g.funcs[f]? =some fn:=e1
    simp only[Ea,this,e5]
   .simp only[Ea,e2,e6]
theorem L5 {S:aQ->Prop}(h:bM S K R xs b8)(a:Qh):aG P S K (VA S K) (x3 xs a) R (x3 b8 a):=by
 cases a with
 |tmp t=>exact aG.ret (h.getD t yA)
 |cell s ty=>
  refine aG.bnd (zxW (h.getD s yA)) ?_;intro R1 e1 a a' ha;exact zsV ty ha
theorem zlp {S:aQ->Prop}(h:bM S K R xs b8):∀l:List Qh,aG P S K (VA S K) (oG l xs) R (oG l b8)
 |[]=>aG.ret (.tuple' bM.empty)
 |[a]=>L5 h a
 |[a,b]=>by
  refine aG.bnd (L5 h a) ?_;intro R1 e1 x x' hx;refine aG.bnd (L5 (h.mono e1.le) b) ?_;intro R2 e2 y y' hy;exact aG.ret (.tuple' ((bM.one (hx.mono e2.le)).push hy))
 |[a,b,c]=>by
  refine aG.bnd (L5 h a) ?_;intro R1 e1 x x' hx;refine aG.bnd (L5 (h.mono e1.le) b) ?_;intro R2 e2 y y' hy;refine aG.bnd (L5 ((h.mono e1.le).mono e2.le) c) ?_;intro R3 e3 z z' hz;exact aG.ret (.tuple' (((bM.one ((hx.mono e2.le).mono e3.le)).push (hy.mono e3.le)).push hz))
 |[a,b,c,d]=>by
  refine aG.bnd (L5 h a) ?_;intro R1 e1 x x' hx;refine aG.bnd (L5 (h.mono e1.le) b) ?_;intro R2 e2 y y' hy;refine aG.bnd (L5 ((h.mono e1.le).mono e2.le) c) ?_;intro R3 e3 z z' hz;refine aG.bnd (L5 (((h.mono e1.le).mono e2.le).mono e3.le) d) ?_;intro R4 e4 u u' hu;exact aG.ret (.tuple' ((((bM.one (((hx.mono e2.le).mono e3.le).mono e4.le)).push ((hy.mono e3.le).mono e4.le)).push (hz.mono e4.le)).push hu))
 |_::_::_::_::_::_=>.inl bQ
theorem zia {S:aQ->Prop}(ops:Array aZ)(h:bM S K R xs b8):dH ops xs=dH ops b8:=by
 funext j;unfold dH
 cases hd:(ops[j]?).bind (·.dst) with
 |none=>rfl
 |some d=>
  simp only[uY]
  cases hx:xs[d]? with
  |none=>rw[h.none hx]
  |some v=>
   obtain⟨v',e,hv⟩:=h.get hx;rw[e]
   cases hv with
   |junk hh=>cases v'<;>first|exact hh.elim|rfl
   |_=>rfl
theorem zmm {id:Nat}:∀{k k':List dX},exitTo id k=some k'->∀i∈k',i∈k
 |[],_,h,_,_=>by simp[exitTo] at h
 |x::k,k',h,i,hi=>by
  have tail:exitTo id k=some k'->i∈x::k:=λe=>by simp[zmm e i hi]
  cases x<;>simp only[exitTo] at h<;>first|exact tail h|skip
  grind
theorem zfQ (F:Fit2 P fs)(hR:uJ P K R){l:Bool}(hm:qB P fs K R m m')(kK:uS P fs K R ms ms')(pB:LowS P l m ms)(zd1:m.ret=true->ms≠[]):
 aG P (SF fs) K (StA P fs K l) (fH P.g m ms) R (fH P.c m' ms'):=by
 unfold fH;rw[<-hm.ret];by_cases hr:m.ret=true
 .simp only[hr,if_true]
  cases kK with
  |nil=>simp_all
  |cons hc hw Ss=>
   rename_i c c' rest N2;obtain⟨_,ops,i,r,k,hk⟩:=hw;obtain⟨fn,fn',e1,e2,e3,e4⟩:=hm.infs;unfold z8;have cU:c'.todo=.inRegion ops (i::r)::k:=hc.todo.symm.trans hk;rw[<-hm.fn];simp only[hk,cU,e1,e2];rw[<-e3];refine aG.bnd (zlp hm.tmps fn.results.toList) ?_;intro R1 x1 v v' hv;exact aG.ret (.inl ⟨(hc.mono x1.le).fin hk hv,Ss.mono x1.le,λe=>⟨(pB e).2 c aN,λx hx=>(pB e).2 x (by simp[hx])⟩⟩)
 .have Sj:m.ret=false:=by simpa using hr
  simp only[Sj,iX,if_false];have yW:m'.ret=false:=hm.ret.symm.trans Sj;unfold sX;rw[<-hm.todo];have Gk:∀{x y:Fm},qB P fs K R x y->x.fn=m.fn->aG P (SF fs) K (StA P fs K l) (mE (x,ms)) R (mE (y,ms')):=λh e=>aG.ret (.inl ⟨h,kK,λz=>by rw[e];exact pB z⟩);have keep:∀(l:List dX),(∀i∈l,F6 P.c (uM P fs m.fn) i=true)->qB P fs K R {m with todo:=l} {m' with todo:=l}:=λl hl=>⟨hm.fn,rfl,hm.ret,hm.tmps,hl,hm.infs⟩;have Jn:=hm.fit;have Qf:=hm.fn
  cases pT:m.todo with
  |nil=>exact Gk ⟨hm.fn,rfl,rfl,hm.tmps,λi hi=>(by simp at hi),hm.infs⟩ rfl
  |cons x k=>
   rw[pT] at Jn;have hk:∀i∈k,F6 P.c (uM P fs m.fn) i=true:=λi hi=>Jn i (by simp[hi]);have hx:F6 P.c (uM P fs m.fn) x=true:=Jn x aN;have two:∀(y z:dX),F6 P.c (uM P fs m.fn) y=true->F6 P.c (uM P fs m.fn) z=true->∀i∈y::z::k,F6 P.c (uM P fs m.fn) i=true:=λy z hy hz i hi=>by grind
   have one:∀(y:dX),F6 P.c (uM P fs m.fn) y=true->∀i∈y::k,F6 P.c (uM P fs m.fn) i=true:=λy hy i hi=>by grind
   cases x with
   |code c=>
    cases c with
    |skip=>grind
    |label l=>grind
    |ret=>exact Gk ⟨hm.fn,rfl,rfl,hm.tmps,Jn,hm.infs⟩ rfl
    |seq a b=>
     simp only[F6,pX,jF] at hx;exact Gk (keep _ (two _ _ hx.1 hx.2)) rfl
    |cond c a b=>
     simp only[F6,pX,jF] at hx;have hv:=hm.eval c (zm5 P fs m.fn▸hx.1.1);simp only;generalize m.eval c=v at hv⊢;generalize m'.eval c=v' at hv⊢
     cases hv with
     |bool t=>
      refine Gk (keep _ (one _ ?_)) rfl;cases t
      .exact hx.2
      .exact hx.1.2
     |_=>exact .inl bQ
    |block id body=>exact Gk (keep _ (two _ _ hx rfl)) rfl
    |loop body=>exact Gk (keep _ (two _ _ hx hx)) rfl
    |scope body=>exact Gk (keep _ (two _ _ hx hx)) rfl
    |exit id=>
     simp only
     cases he:exitTo id k with
     |none=>exact .inl bQ
     |some k'=>exact Gk (keep _ λi hi=>hk i (zmm he i hi)) rfl
    |region id ops draw=>
     simp only
     cases draw with
     |true=>
      simp only[if_true];rw[<-Qf];refine aG.bnd (zfT _) ?_;rintro R1 h1 t _ rfl;rw[F.follows];exact aG.ret (.inl ⟨(by have y:=(keep (.inRegion ops (Tz (P.c.follows .mixedOrders) ops t)::k) (one (.inRegion ops (Tz (P.c.follows .mixedOrders) ops t)) hx)).mono h1.le;rw[<-Qf] at y;exact y),kK.mono h1.le,pB⟩)
     |false=>
      simp only[iX,if_false];exact Gk (keep _ (one (.inRegion ops (iQ ops.size)) hx)) rfl
    |_=>cases hx
   |inBlock id=>grind
   |inScope c=>grind
   |inLoop c=>exact Gk (keep _ (two _ _ hx hx)) rfl
   |inRegion ops l=>
    cases l with
    |nil=>grind
    |cons i rest=>
     simp only;rw[<-zia ops hm.tmps];by_cases hw:((ops[i]?).map (dE · (dH ops m.tmps))).getD false=true
     .rw[if_pos hw,if_pos hw]
      cases ho:ops[i]? with
      |none=>exact .inl bQ
      |some o=>
       simp only;have bS:rY P.c (uM P fs m.fn) o.op=true:=by
        have lX:=zpE.1 hx i (eB.1 ho).1
        rwa [(eB.1 ho).2] at lX
       refine aG.bnd (znk F.toFit hR hm.eval (λg=>rfl) (λg=>rfl) (λg=>rfl) (λg=>rfl) (λv=>rfl) (λv=>rfl) (zm5 P fs m.fn) (zhv F.toFit m.fn) (zrg F.toFit m.fn) bS) ?_;intro R1 h1 n n' hn;exact sim_opS F (hm.mono h1.le) (kK.mono h1.le) pB Sj pT hn
     .rw[if_neg hw,if_neg hw]
      exact Gk (hm.fin pT yA) rfl
   |_=>cases hx
end
end Go.Tt
namespace Go.Tt
open Go.Conc (G solo)
def nilD:Deferred:={target:=.nil,args:=#[]}
def pz:Frame:={(default:dR) with mode:=.panicking [],defers:=[nilD],kind:=.normal}
section
variable {P:dM}{fs:aQ->Bool}{K R:Pr}{G':Gp}{St:Nat->Prop}
variable {w:aE}
theorem zAG (F:Fit2 P fs)(hG:G'=P.gp){W:aE}(hw:cV (SF fs) K R G' St w W)(ht:Tp w W){m m':Fm}{ms ms':List Fm}(hm:qB P fs K R m m')(kK:uS P fs K R ms ms')(zd1:m.ret=true->ms≠[])
 (fP:∀x w',(fH P.g m ms).run P.g w≠ .ok x w') (base:List dR):
 (∃o w1 es,stepG P.g true (G m.fr (ms.map Fm.fr++base)) w=.ended o w1 es)\/
 ∃x w1 es,stepG P.g true (G m.fr (ms.map Fm.fr++base)) w=.go (G x (ms.map Fm.fr++base)) w1 es/\(∃c,x.mode=.panicking c)/\x.defers=[]:=by
 have hR:uJ P K R:=by subst hG;exact⟨hw.inj,hw.inj',λa b h=>(hw.low a b h).1,hw.tb⟩
 unfold fH at fP;by_cases hr:m.ret=true
 .simp only[hr,if_true] at fP
  cases kK with
  |nil=>simp_all
  |cons hc cE Ss=>
   rename_i c c' rest N2;obtain⟨_,ops,i,r,k,hk⟩:=cE;obtain⟨fn,fn',e1,e2,e3,e4⟩:=hm.infs;have he:results fn m.tmps=oG fn.results.toList m.tmps:=zmR e4
   cases hx:(oG fn.results.toList m.tmps).run P.g w with
   |ok v w1=>exact absurd (Ma (rest:=rest) hk e1 hx).1 (fP _ _)
   |halt y w1=>
    refine .inl ?_;rw[Fm.fr_ret hr];cases y<;>exact⟨_,_,_,by simp only[G,stepG,unwind,e1,he,cY.runT_eq,hx,Cg];rfl⟩
 .have Sj:m.ret=false:=by simpa using hr
  simp only[Sj,iX,if_false] at fP;have nI:m.fr.eval=m.eval:=m.eval_fr;have Jn:=hm.fit;have zIE:=hm.tmps;have zeZ:=hm.eval;obtain⟨fn,tmps,todo,ret⟩:=m;simp only at Sj Jn zIE;subst Sj;unfold sX at fP;simp only at fP
  cases todo with
  |nil=>simp_all
  |cons x k=>
   have hx:F6 P.c (uM P fs fn) x=true:=Jn x aN
   cases x with
   |code c=>
    cases c with
    |skip=>simp_all
    |label l=>simp_all
    |ret=>simp_all
    |seq a b=>simp_all
    |block id body=>simp_all
    |loop body=>simp_all
    |scope body=>simp_all
    |cond c a b=>
     have hc:=congrFun nI c;simp only at fP
     cases hv:Fm.eval {fn:=fn,tmps:=tmps,todo:=Ld (Code.cond c a b)::k,ret:=false} c with
     |bool t=>simp_all
     |_=>
      left;rw[hv] at hc;simp only[Fm.fr,iX,if_false] at hc⊢;simp only[G,stepG,Ob,hc];simp_all
    |exit id=>
     simp only at fP
     cases he:exitTo id k with
     |some k'=>simp_all
     |none=>
      left;simp only[Fm.fr,iX,if_false];simp[G,stepG,Ob,he]
    |region id ops draw=>
     simp only at fP
     cases draw with
     |true=>exact absurd (by simp[choose,bL,zkC,ziR,bind,yN,pure];exact⟨rfl,rfl⟩) (fP _ _)
     |false=>simp_all
    |_=>cases hx
   |inBlock id=>simp_all
   |inScope c=>simp_all
   |inLoop c=>simp_all
   |inRegion ops l=>
    cases l with
    |nil=>simp_all
    |cons i rest=>
     simp only at fP
     cases ho:ops[i]? with
     |none=>simp_all
     |some o=>
      rw[ho] at fP;simp only[F8,Br] at fP;by_cases rN:dE o (dH ops tmps)=true
      .rw[if_pos rN] at fP
       have bS:rY P.c (uM P fs fn) o.op=true:=by
        have lX:=zpE.1 hx i (eB.1 ho).1
        rwa [(eB.1 ho).2] at lX
       have zdi:=znk F.toFit hR zeZ (λg=>rfl) (λg=>rfl) (λg=>rfl) (λg=>rfl) (λv=>rfl) (λv=>rfl) (zm5 P fs fn) (zhv F.toFit fn) (zrg F.toFit fn) bS;have tY:∀x w',((aO (Fm.eval {fn:=fn,tmps:=tmps,todo:=sC ops (i::rest)::k,ret:=false}) o).bind (rH P.g {fn:=fn,tmps:=tmps,todo:=sC ops (i::rest)::k,ret:=false} ms ops i rest k)).run P.g w≠ .ok x w':=fP;rcases aG.tame hG _ zdi hw ht with⟨n,w1,hn⟩|⟨h,w1,hn,hth⟩
       .have zf8:Act.eval ⟨tmps,[]⟩=Fm.eval {fn:=fn,tmps:=tmps,todo:=sC ops (i::rest)::k,ret:=false}:=funext λx=>by cases x<;>rfl
        obtain⟨R1,n',W1,ev,e1,e2,e3,e4,e5⟩:=aG.run hG _ zdi hw ht hn;have:=λx w'=>tY x w';simp only[uR,hn,vR] at this
        cases e2 with
        |value hv=>exact absurd rfl (this _ _)
        |skip=>exact absurd rfl (this _ _)
        |enter hT ha=>
         rename_i f xs b8;have hf:P.gs f=true:=zhv F.toFit fn f hT
         cases zcP:P.op f with
         |false=>
          obtain⟨fn',c,q1,q2,q3,q4,q5⟩:=F.fn f hf zcP;simp only[rH,q1,q4] at this;simp_all
         |true=>
          obtain⟨fn1,fn2,c1,c2,q1,q2,q3,q4,q5,q6⟩:=F.opq f hf zcP;simp only[rH,q1,q5] at this;simp_all
       .have zf8:Act.eval ⟨tmps,[]⟩=Fm.eval {fn:=fn,tmps:=tmps,todo:=sC ops (i::rest)::k,ret:=false}:=funext λx=>by cases x<;>rfl
        have hop:=Conc.stepG_oper (P:=P.g) (main:=true) (b:=Jx fn) (a:=⟨tmps,[]⟩) (k:=k) (cs:=List.map Fm.fr ms++base) (w:=w) (rest:=rest) ho rN;have fZ:(Fm.fr {fn:=fn,tmps:=tmps,todo:=sC ops (i::rest)::k,ret:=false})=(Jx fn).at ⟨tmps,[]⟩ (.inRegion ops (i::rest)::k):=rfl;rw[fZ,hop,zf8]
        cases h with
        |panic v=>
         right;simp[stepG.apply,hn,Cg,G,zo4,dR.at]
        |stuck s=>left;simp[stepG.apply,hn,Cg]
        |unsupported u=>
         left;cases u<;>first|exact hth.elim|simp[stepG.apply,hn,Cg]
        |_=>exact hth.elim
      simp_all
   |_=>cases hx
variable {p:bZ}{w':aE}{o:Outcome}
theorem zaA {a:bD}{es:Array rK}(hs:a.status=.running)(h:stepG p true a w=.ended o w' es):step p (solo a w)=.ended o w':=by
 rw[step,Conc.stepT_solo hs,Conc.solo_eq_crowd,Conc.runT_many_ended (i:=0) rfl h]
variable {m:O1}
theorem zcf {m':O1}(h:step p m=.next m')(n:Nat):runN p (n+1) m=runN p n m':=by simp[runN,h]
theorem zrf (h:step p m=.ended o w)(n:Nat):runN p (n+1) m=.ended o w:=by simp[runN,h]
theorem zd3 {g g':bD}(h:solo g w=solo g' w'):g=g'/\w=w':=by
 injection h with h1 h2;simp_all
theorem zfW {fr zq8:dR}{cs Uq:List dR}(h:G fr cs=G zq8 Uq):fr=zq8/\cs=Uq:=by
 injection h with h1 h2;exact⟨h1,h2⟩
def zkl (x:dR):Prop:=∃c,x.mode=.panicking c
theorem zdI (x:dR)(vs:List PanicEntry):zkl (x.raise vs)/\(x.raise vs).defers=x.defers:=by
 unfold zo4;split
 .exact⟨⟨_,rfl⟩,rfl⟩
 .exact⟨⟨_,rfl⟩,rfl⟩
variable {ds:List Deferred}
theorem zri {x:dR}(hd:x.defers=nilD::ds)(hm:zkl x)(cs:List dR)(w:aE):∃o w1 es,stepG p true (G x cs) w=.ended o w1 es:=by
 obtain⟨c,hc⟩:=hm;refine⟨.unsupported (.noEntry "machine/Return: a deferred call of a nil function value, made while the frame is unwinding") ({x with defers:=ds}.pos p),w,#[],?_⟩;simp[G,stepG,hc,unwind,hd,callDeferred,nilD]
theorem zCV (frT:dR)(wT:aE)(hT:frT.mode=.returning):∀(n:Nat) (x:dR) (ys:List dR) (w:aE),zkl x->x.defers=[]->(∀y∈ys,y.defers=[])->runN p n (solo (G x (ys++[pz])) w)≠ .next (solo (G frT [pz]) wT):=by
 intro n
 induction n with
 |zero=>
  intro x ys w ⟨c,hc⟩ _ _ e;simp only[runN,zdd] at e;have:=(zfW (zd3 e).1).1;simp_all
 |succ n ih=>
  intro x ys w ⟨c,hc⟩ hd zrK e;have cN:(G x (ys++[pz])).status=.running:=rfl;by_cases zye:x.catches p=true
  .have aY:∃o w1 es,stepG p true (G x (ys++[pz])) w=.ended o w1 es:=by simp[G,stepG,hc,unwind,hd,zye]
   obtain⟨o,w1,es,aY⟩:=aY;have hs:=zaA cN aY;simp[runN,hs] at e
  .have zus:x.catches p=false:=by simpa using zye
   cases ys with
   |nil=>
    have aY:stepG p true (G x [pz]) w=.go (G (pz.raise c) []) w:=by simp[G,stepG,hc,unwind,hd,zus]
    have hs:=zaR cN aY;replace e:=(zcf hs n).symm.trans e
    cases n with
    |zero=>
     simp only[runN,zdd] at e;have:=(zfW (zd3 e).1).2;cases this
    |succ n=>
     obtain⟨o,w1,es,zjP⟩:=zri (p:=p) (x:=pz.raise c) (ds:=[]) ((zdI pz c).2) (zdI pz c).1 [] w;have yK:=zaA rfl zjP;have:=(zrf yK n).symm.trans e;cases this
   |cons y ys=>
    have aY:stepG p true (G x (y::(ys++[pz]))) w=.go (G (y.raise c) (ys++[pz])) w:=by simp[G,stepG,hc,unwind,hd,zus]
    have hs:=zaR cN aY;replace e:=(zcf hs n).symm.trans e;exact ih (y.raise c) ys w (zdI y c).1 ((zdI y c).2.trans (zrK y aN)) (λz hz=>zrK z (by simp[hz])) e
theorem zCE (frT:dR)(wT:aE){m:Fm}(hr:m.ret=true)(n:Nat):runN p (n+1) (solo (G m.fr [pz]) w)≠ .next (solo (G frT [pz]) wT):=by
 intro e;have cN:(G m.fr [pz]).status=.running:=rfl;have key:(∃o w1 es,stepG p true (G m.fr [pz]) w=.ended o w1 es)\/∃v w1 es,stepG p true (G m.fr [pz]) w=.go (G (pz.finish v) []) w1 es:=by
  rw[Fm.fr_ret hr]
  cases hf:p.funcs[m.fn]? with
  |none=>right;simp[G,stepG,unwind,doReturn,hf];exact⟨_,rfl⟩
  |some fn=>
   cases hx:(results fn m.tmps).run p w with
   |ok v w1=>right;simp[G,stepG,unwind,doReturn,hf,hx,Cg];exact⟨_,rfl⟩
   |halt h w1=>left;cases h<;>simp[G,stepG,unwind,hf,hx,Cg]
 rcases key with⟨o,w1,es,aY⟩|⟨v,w1,es,aY⟩
 .have hs:=zaA cN aY
  simp[runN,hs] at e
 .have hs:=zaR cN aY
  simp only[runN,hs] at e
  cases n with
  |zero=>
   simp only[runN,zdd] at e;have:=(zfW (zd3 e).1).2;cases this
  |succ n=>
   have zGE:pz.finish v=pz:=rfl;rw[zGE] at e;obtain⟨o,w2,es,zjP⟩:=zri (p:=p) (x:=pz) (ds:=[]) rfl ⟨_,rfl⟩ [] w1;have yK:=zaA rfl zjP;simp[runN,yK] at e
end
inductive Ik (p:bZ):Nat->Fm->List Fm->aE->Fm->aE->Prop
 |stop {m:Fm} {w:aE}:m.ret=true->Ik p 0 m [] w m w
 |step {n:Nat} {m m1 mT:Fm} {ms ms1:List Fm} {w w1 wT:aE}:(m.ret=true->ms≠[])->(fH p m ms).run p w=.ok (m1,ms1) w1->Ik p n m1 ms1 w1 mT wT->Ik p (n+1) m ms w mT wT
structure wC (P:dM)(fs:aQ->Bool):Prop extends Fit2 P fs where
 none:∀f,P.op f=false
section
variable (P:dM)(fs:aQ->Bool)(K:Pr)(G':Gp)(St:Nat->Prop)
def xZ (m:Fm)(ms:List Fm)(w:aE):Prop:=∃R W m' ms',cV (SF fs) K R G' St w W/\qB P fs K R m m'/\uS P fs K R ms ms'
variable {P fs K G' St}
variable {w W:aE}
def cV.tp {S:aQ->Prop}{R:Pr}(h:cV S K R G' St w W)(T:j6)(e:Nat):cV S K R G' St (tp w T e) (tp W T e):=
 ⟨h.inj,h.inj',h.lt,h.low,h.gle,h.cont,h.rest,h.st,h.np,h.tb⟩
variable {T:j6}
def cV.untp {S:aQ->Prop}{R:Pr}{e:Nat}(h:cV S K R G' St (Tt.tp w T e) W):cV S K R G' St w W:=
 ⟨h.inj,h.inj',h.lt,h.low,h.gle,h.cont,h.rest,h.st,h.np,h.tb⟩
def Tp.tp (w W:aE)(T:j6)(e:Nat):Tp (tp w T e) (tp W T e):=λ_ _=>rfl
theorem cV.relOk {S:aQ->Prop}{R:Pr}(hG:G'=P.gp)(h:cV S K R G' St w W):uJ P K R:=by subst hG;exact⟨h.inj,h.inj',λa b x=>(h.low a b x).1,h.tb⟩
variable {m:Fm}{ms:List Fm}
theorem xZ.next (F:wC P fs)(hG:G'=P.gp){m1:Fm}{ms1:List Fm}{w1:aE}{e:Nat}(h:xZ P fs K G' St m ms w)(hs:m.ret=true->ms≠[])
 (hr:(fH P.g m ms).run P.g (tp w T e)=.ok (m1,ms1) w1):xZ P fs K G' St m1 ms1 w1:=by
 obtain⟨R,W,m',ms',hw,hm,kK⟩:=h;obtain⟨R1,x',W1,ev,e1,e2,e3,e4,e5⟩:=aG.run hG _ (zfQ (l:=false) F.toFit2 (hw.relOk hG) hm kK (λe=>by cases e) hs) (hw.tp T e) (Tp.tp w W T e) hr;rcases e2 with e2|⟨_,⟨f,_,_,_,_,_,_,ho,_⟩⟩
 .exact⟨R1,W1,x'.1,x'.2,e3.rel,e2.1,e2.2.1⟩
 .rw[F.none] at ho;cases ho
theorem xZ.locl (F:wC P fs)(hG:G'=P.gp)(h:xZ P fs K G' St m ms w)(hs:m.ret=true->ms≠[])(T:j6)(e:Nat):Ng P.g (fH P.g m ms) (tp w T e):=by
 obtain⟨R,W,m',ms',hw,hm,kK⟩:=h;exact aG.locl hG _ (zfQ (l:=false) F.toFit2 (hw.relOk hG) hm kK (λe=>by cases e) hs) (hw.tp T e) (Tp.tp w W T e)
theorem tp_self (h:w.tape=T):tp w T w.drawn=w:=by subst h;rfl
theorem Ik.alike (F:wC P fs)(hG:G'=P.gp):∀{n:Nat} {m mT:Fm} {ms:List Fm} {w wT:aE} {T1 T2:j6} {e1 e2:Nat},xZ P fs K G' St m ms w->Ik P.g n m ms (tp w T1 e1) mT wT->(∀n q,T2 (e2+n) q=T1 (e1+n) q)->∃e3,Ik P.g n m ms (tp w T2 e2) mT (tp wT T2 e3):=by
 intro n
 induction n with
 |zero=>
  intro m mT ms w wT T1 T2 e1 e2 hR h ht
  cases h with
  |stop hr=>exact⟨e2,.stop hr⟩
 |succ n ih=>
  intro m mT ms w wT T1 T2 e1 e2 hR h ht
  cases h with
  |step hs hr hn=>
   rename_i m1 ms1 w1;obtain⟨h1,h2,h3⟩:=hR.locl F hG hs T1 e1 _ _ hr;have h4:=h3 T2 e2 (λk _ q=>ht k q);have zmQ:w1=tp w1 T1 w1.drawn:=(tp_self h1).symm;rw[zmQ] at hn
   obtain⟨e3,h5⟩:=ih (T2:=T2) (e2:=e2+(w1.drawn-e1)) (hR.next F hG hs hr) hn (λk q=>by
    have Pa:e1<=w1.drawn:=h2;rw[show e2+(w1.drawn-e1)+k=e2+((w1.drawn-e1)+k) by omega,ht,show e1+((w1.drawn-e1)+k)=w1.drawn+k by omega])
   exact⟨e3,.step hs h4 h5⟩
theorem Pp (F:wC P fs)(hG:G'=P.gp){frT:dR}{wT:aE}(hT:frT.mode=.returning):∀(n:Nat) {m:Fm} {ms:List Fm} {w:aE},xZ P fs K G' St m ms w->
 runN P.g n (solo (G m.fr (ms.map Fm.fr++[pz])) w)=.next (solo (G frT [pz]) wT)->∃k mT,Ik P.g k m ms w mT wT/\mT.fr=frT:=by
 intro n
 induction n with
 |zero=>
  intro m ms w hR h;simp only[runN,zdd] at h;obtain⟨h1,rfl⟩:=zd3 h;obtain⟨h2,h3⟩:=zfW h1;have kK:ms=[]:=by
   cases ms with
   |nil=>rfl
   |cons a b=>simp_all
  subst kK;have hr:m.ret=true:=by
   rw[<-h2] at hT
   cases hm:m.ret with
   |true=>rfl
   |false=>rw[Fm.fr_run hm] at hT;cases hT
  exact⟨0,m,.stop hr,h2⟩
 |succ n ih=>
  intro m ms w hR h;by_cases zd1:m.ret=true/\ms=[]
  .obtain⟨hr,rfl⟩:=zd1
   exact absurd h (zCE frT wT hr n)
  .have hs:m.ret=true->ms≠[]:=λa b=>zd1 ⟨a,b⟩
   have zmQ:tp w w.tape w.drawn=w:=rfl;by_cases bS:∃x w1,(fH P.g m ms).run P.g w=.ok x w1
   .obtain⟨⟨m1,ms1⟩,w1,hr⟩:=bS
    have vQ:step P.g (solo (G m.fr (ms.map Fm.fr++[pz])) w)=.next (solo (G m1.fr (ms1.map Fm.fr++[pz])) w1):=by
     exact zaR rfl (zh0 (main:=true) hr [pz])
    obtain⟨k,mT,h1,h2⟩:=ih (xZ.next (T:=w.tape) (e:=w.drawn) F hG hR hs hr) ((zcf vQ n).symm.trans h);exact⟨k+1,mT,.step hs hr h1,h2⟩
   .exfalso
    obtain⟨R,W,m',ms',hw,hm,kK⟩:=hR;rcases zAG F.toFit2 hG (hw.tp w.tape w.drawn) (Tp.tp w W w.tape w.drawn) hm kK hs (λx w' e=>bS ⟨x,w',e⟩) [pz] with⟨o,w1,es,aY⟩|⟨x,w1,es,aY,hp,hd⟩
    .have vQ:=zaA rfl aY
     have:=(zrf vQ n).symm.trans h;cases this
    .have vQ:=zaR rfl aY
     exact zCV frT wT hT n x (ms.map Fm.fr) w1 hp hd (λy hy=>by obtain⟨z,_,rfl⟩:=List.mem_map.1 hy;rfl) ((zcf vQ n).symm.trans h)
inductive LT (p:bZ)(Q:Fm->aE->Prop):Fm->List Fm->aE->Prop
 |stop {m:Fm} {w:aE}:m.ret=true->Q m w->LT p Q m [] w
 |step {m:Fm} {ms:List Fm} {w:aE} (nx:j6->(Fm×List Fm)×aE):(m.ret=true->ms≠[])->(∀T,(fH p m ms).run p (tp w T 0)=.ok (nx T).1 (nx T).2)->(∀T,LT p Q (nx T).1.1 (nx T).1.2 (nx T).2)->LT p Q m ms w
def Hyp (P:dM)(fs:aQ->Bool)(K:Pr)(G':Gp)(St:Nat->Prop)(Q:Fm->aE->Prop)(s:Fm×List Fm×aE):Prop:=
 xZ P fs K G' St s.1 s.2.1 s.2.2/\∀T,∃n mT wT,Ik P.g n s.1 s.2.1 (tp s.2.2 T 0) mT wT/\Q mT wT
theorem bar (F:wC P fs)(hG:G'=P.gp){Q:Fm->aE->Prop}(hQ:∀m w T e,Q m w->Q m (tp w T e))(h:Hyp P fs K G' St Q (m,ms,w)):LT P.g Q m ms w:=by
 refine Av λfP=>?_
 let Bad:Fm×List Fm×aE->Prop:=λs=>Hyp P fs K G' St Q s/\¬LT P.g Q s.1 s.2.1 s.2.2
 have zjD:∀s,Bad s->s.1.ret=true->s.2.1≠[]:=by
  rintro⟨m,ms,w⟩ ⟨⟨hR,hI⟩,hn⟩ hr e;simp only at hr e hn hI;subst e;obtain⟨n,mT,wT,Th,hq⟩:=hI w.tape
  cases Th with
  |stop _=>exact hn (.stop hr (show Q m (tp (tp w w.tape 0) w.tape w.drawn) from hQ _ _ w.tape w.drawn hq))
  |step hs _ _=>exact hs hr rfl
 have next:∀s,Bad s->∃(T:j6) (s1:Fm×List Fm×aE),(fH P.g s.1 s.2.1).run P.g (tp s.2.2 T 0)=.ok (s1.1,s1.2.1) s1.2.2/\Bad s1:=by
  rintro⟨m,ms,w⟩ hb;have hs:=zjD _ hb;obtain⟨⟨hR,hI⟩,hn⟩:=hb;simp only at hs hI hn hR⊢;have bS:∀T,∃x w1,(fH P.g m ms).run P.g (tp w T 0)=.ok x w1:=λT=>by
   obtain⟨n,mT,wT,Th,_⟩:=hI T
   cases Th with
   |stop hr=>exact absurd rfl (hs hr)
   |step _ hr _=>exact⟨_,_,hr⟩
  refine Av λzGF=>hn ?_
  let x:=λT=>(bS T).choose
  let w1:=λT=>(bS T).choose_spec.choose
  have hx:∀T,(fH P.g m ms).run P.g (tp w T 0)=.ok (x T) (w1 T):=λT=>(bS T).choose_spec.choose_spec;refine .step (λT=>(x T,w1 T)) hs hx λT=>Av λaS=>zGF ⟨T,((x T).1,(x T).2,w1 T),hx T,⟨?_,?_⟩,aS⟩
  .exact hR.next F hG hs (hx T)
  .intro T'
   obtain⟨h1,h2,h3⟩:=hR.locl F hG hs T 0 _ _ (hx T)
   let T2:Tape:=λn q=>if n<(w1 T).drawn then T n q else T' (n-(w1 T).drawn) q
   have h4:=h3 T2 0 (λn hn q=>by
    have vL:n<(w1 T).drawn:=by simpa[tp] using hn
    show(if 0+n<(w1 T).drawn then T (0+n) q else _)=_;rw[if_pos aC];rfl)
   obtain⟨n,mT,wT,Th,hq⟩:=hI T2
   cases Th with
   |stop hr=>exact absurd rfl (hs hr)
   |step Gs hr vL=>
    rename_i n' m1 ms1 w2;have Ks:(fH P.g m ms).run P.g (tp w T2 0)=.ok (x T) (tp (w1 T) T2 (0+((w1 T).drawn-(tp w T 0).drawn))):=h4;rw[Ks] at hr;injection hr with e1 e2;have Nc:m1=(x T).1:=by rw[e1]
    have Ah:ms1=(x T).2:=by rw[e1]
    subst Nc Ah;rw[<-e2] at vL;have hd:0+((w1 T).drawn-(tp w T 0).drawn)=(w1 T).drawn:=by show 0+((w1 T).drawn-0)=_;omega
    rw[hd] at vL
    obtain⟨e3,h5⟩:=Ik.alike (T2:=T') (e2:=0) F hG (hR.next F hG hs (hx T)) vL (λk q=>by
     show _=(if(w1 T).drawn+k<(w1 T).drawn then _ else T' ((w1 T).drawn+k-(w1 T).drawn) q);rw[if_neg aC];congr 1;omega)
    exact⟨n',mT,_,h5,hQ _ _ _ _ hq⟩
 have hstart:Bad (m,ms,w):=⟨h,fP⟩
 let nT:=λs (hb:Bad s)=>(next s hb).choose
 let nS:=λs (hb:Bad s)=>(next s hb).choose_spec.choose
 have cN:∀s (hb:Bad s),(fH P.g s.1 s.2.1).run P.g (tp s.2.2 (nT s hb) 0)=.ok ((nS s hb).1,(nS s hb).2.1) (nS s hb).2.2:=λs hb=>(next s hb).choose_spec.choose_spec.1;have Ul:∀s (hb:Bad s),Bad (nS s hb):=λs hb=>(next s hb).choose_spec.choose_spec.2
 let seq:Nat->{s:Fm×List Fm×aE//Bad s}:=λk=>Nat.rec ⟨(m,ms,w),hstart⟩ (λ_ s=>⟨nS s.1 s.2,Ul s.1 s.2⟩) k
 let tps:Nat->Tape:=λk=>nT (seq k).1 (seq k).2
 let d:Nat->Nat:=λk=>(seq (k+1)).1.2.2.drawn
 let D:Nat->Nat:=λk=>Nat.rec 0 (λk x=>x+d k) k
 have hD:∀k,D (k+1)=D k+d k:=λk=>rfl;have zqs:∀i j,i<=j->D i<=D j:=λi j sM=>by
  induction sM with
  |refl=>exact bF _
  |step _ ih=>exact eH ih (by rw[hD];omega)
 classical
 let TS:Tape:=λN q=>if hh:∃k,D k<=N/\N<D (k+1) then tps hh.choose (N-D hh.choose) q else 0
 have zAi:∀k n q,n<d k->TS (D k+n) q=tps k n q:=by
  intro k n q hn;have hh:∃j,D j<=D k+n/\D k+n<D (j+1):=⟨k,aC,by rw[hD];omega⟩;have hc:=hh.choose_spec;have hk:hh.choose=k:=by
   rcases Nat.lt_trichotomy hh.choose k with x|x|x
   .have:=zqs (hh.choose+1) k x;omega
   .exact x
   .have:=zqs (k+1) hh.choose x;rw[hD] at this;omega
  show(if hh:∃j,D j<=D k+n/\D k+n<D (j+1) then _ else _)=_;rw[dif_pos hh,hk];congr 1;omega
 have vQ:∀k,(fH P.g (seq k).1.1 (seq k).1.2.1).run P.g (tp (seq k).1.2.2 TS (D k))=.ok ((seq (k+1)).1.1,(seq (k+1)).1.2.1) (tp (seq (k+1)).1.2.2 TS (D (k+1))):=by
  intro k;have hb:=(seq k).2;have hs:=zjD _ hb;have hr:=cN (seq k).1 (seq k).2;obtain⟨h1,h2,h3⟩:=hb.1.1.locl F hG hs (tps k) 0 _ _ hr;have h4:=h3 TS (D k) (λn hn q=>by
   have vL:n<d k:=by have:n<(nS (seq k).1 (seq k).2).2.2.drawn-0:=hn;simpa using this
   rw[zAi k n q vL];show _=tps k (0+n) q;rw[qH])
  have e1:D k+((nS (seq k).1 (seq k).2).2.2.drawn-(tp (seq k).1.2.2 (tps k) 0).drawn)=D (k+1):=by rw[hD];show D k+((seq (k+1)).1.2.2.drawn-0)=_;rfl
  rw[e1] at h4;exact h4
 obtain⟨n,mT,wT,Th,_⟩:=h.2 TS;have key:∀(n k:Nat) (mT:Fm) (wT:aE),Ik P.g n (seq k).1.1 (seq k).1.2.1 (tp (seq k).1.2.2 TS (D k)) mT wT->False:=by
  intro n
  induction n with
  |zero=>
   intro k mT wT hi;have hs:=zjD _ (seq k).2;generalize kK:(seq k).1.2.1=ms0 at hi hs
   cases hi with
   |stop hr=>exact hs hr rfl
  |succ n ih=>
   intro k mT wT hi;have aY:=vQ k;generalize kK:(seq k).1.2.1=ms0 at hi aY;generalize zcO:(seq k).1.1=m0 at hi aY;generalize jT:tp (seq k).1.2.2 TS (D k)=w0 at hi aY
   cases hi with
   |step Gs hr hn=>
    rename_i m1 ms1 w1;rw[aY] at hr;injection hr with e1 e2;injection e1 with e1 e3;subst e1 e2 e3;exact ih (k+1) mT wT hn
 exact key n 0 mT wT Th
end
end Go.Tt
namespace Go.Tt
inductive LTs (p:bZ)(N:Fm->Prop)(Stop:Fm->List Fm->aE->Prop):Fm->List Fm->aE->Prop
 |stop {m:Fm} {ms:List Fm} {w:aE}:Stop m ms w->LTs p N Stop m ms w
 |step {m:Fm} {ms:List Fm} {w:aE} (nx:j6->(Fm×List Fm)×aE):(m.ret=true->ms≠[])->(∀T,(fH p m ms).run p (tp w T 0)=.ok (nx T).1 (nx T).2)->(∀T,N (nx T).1.1)->(∀T,LTs p N Stop (nx T).1.1 (nx T).1.2 (nx T).2)->LTs p N Stop m ms w
def Fm.app (m:Fm)(k:List dX):Fm:={m with todo:=m.todo++k}
theorem Fm.app_nil (m:Fm):m.app []=m:=by unfold Fm.app;simp
def yL (S:List Nat):Code->Bool
 | .skip| .ret| .exit _| .label _=>true
 | .region _ ops _=>ops.all λo=>match o.dst with|some s=>!S.contains s|none=>true
 | .seq a b=>yL S a&&yL S b
 | .cond _ a b=>yL S a&&yL S b
 | .block _ c| .loop c| .scope c=>yL S c
 |_=>false
def Ay (S:List Nat):dX->Bool
 | .code c| .inLoop c| .inScope c=>yL S c
 | .inBlock _=>true
 | .inRegion ops _=>ops.all λo=>match o.dst with|some s=>!S.contains s|none=>true
 |_=>false
def Sz:Fm->List Fm->Fm
 |m,[]=>m
 |_,c::cs=>Sz c cs
structure Km (S:List Nat)(m m':Fm):Prop where
 no:∀i∈m'.todo,Ay S i=true
 at_:∀s∈S,m'.tmps.getD s aA=m.tmps.getD s aA
variable {S:List Nat}{k:List dX}
theorem zhF {m:Fm}{ops:Array aZ}{i:Nat}{rest:List Nat}(h:m.todo=.inRegion ops (i::rest)::k)(hn:∀i∈m.todo,Ay S i=true)(v:aF):Km S m (m.fin ops i rest k v):=by
 have hx:=hn (.inRegion ops (i::rest)) tD;refine⟨λj hj=>?_,λs hs=>?_⟩
 .simp only[Fm.fin,mD] at hj
  rcases hj with rfl|hj
  .exact hx
  simp_all
 .unfold Fm.fin
  simp only
  cases hd:(ops[i]?).bind (·.dst) with
  |none=>rfl
  |some q=>
   obtain⟨o,ho,hq⟩:=Option.bind_eq_some_iff.1 hd;simp only[Ay,Array.all_eq_true_iff_forall_mem] at hx;have h1:=hx o (Array.mem_of_getElem? ho);rw[hq] at h1;simp only[Bool.not_eq_true',List.contains_eq_mem,decide_eq_false_iff_not] at h1;have aU:q≠s:=λe=>h1 (e▸hs);simp_all
def zzo {id:Nat}{k':List dX}(h:exitTo id k=some k')(hn:∀i∈k,Ay S i=true):∀i∈k',Ay S i=true:=λi hi=>hn i (zmm h i hi)
section
variable {p:bZ}
theorem Fm.fin_app (m:Fm)(ops:Array aZ)(i:Nat)(rest:List Nat)(k0 k:List dX)(v:aF):(m.app k).fin ops i rest (k0++k) v=(m.fin ops i rest k0 v).app k:=by
 unfold Fm.fin Fm.app;simp
variable {m x:Fm}{ms ys ms':List Fm}{w w1:aE}
theorem zc3 (k:List dX)(aU:m.todo≠[])(h:(sX p m ms).run p w=.ok (x,ys) w1):
 (ys=ms/\x.fn=m.fn/\(x.ret=true->m.ret=false->x.todo≠[])/\(∀S,(∀i∈m.todo,Ay S i=true)->Km S m x)/\(sX p (m.app k) ms').run p w=.ok (x.app k,ms') w1)\/(ys=m::ms/\(sX p (m.app k) ms').run p w=.ok (x,m.app k::ms') w1):=by
 obtain⟨fn,tmps,todo,ret⟩:=m;simp only at aU;unfold sX at h⊢;simp only[Fm.app] at h⊢
 cases todo with
 |nil=>exact absurd rfl aU
 |cons it k0=>
  simp only[Ra] at h⊢
  cases it with
  |code c=>
   cases c with
   |cond c a b=>
    simp only at h⊢;have he:Fm.eval {fn:=fn,tmps:=tmps,todo:=Ld (Code.cond c a b)::(k0++k),ret:=ret} c=Fm.eval {fn:=fn,tmps:=tmps,todo:=Ld (Code.cond c a b)::k0,ret:=ret} c:=by cases c<;>rfl
    rw[he]
    cases hv:Fm.eval {fn:=fn,tmps:=tmps,todo:=Ld (Code.cond c a b)::k0,ret:=ret} c with
    |bool t=>
     rw[hv] at h;simp only[mE,bL,vF,sG] at h;obtain⟨⟨rfl,rfl⟩,rfl⟩:=h;refine .inl ⟨rfl,rfl,λa b=>Mq (b.symm.trans a),λS hn=>⟨?_,λ_ _=>rfl⟩,rfl⟩;simp only[mD,forall_eq_or_imp,Ay,yL,jF] at hn⊢;cases t<;>grind
    |_=>rw[hv] at h;simp[stuck,bL] at h
   |exit id=>
    simp only at h⊢
    cases he:exitTo id k0 with
    |some k'=>
     rw[he] at h;rw[znh k he];simp only[mE,bL,vF,sG] at h;obtain⟨⟨rfl,rfl⟩,rfl⟩:=h;exact .inl ⟨rfl,rfl,λa b=>Mq (b.symm.trans a),λS hn=>⟨zzo he λi hi=>hn i (List.mem_cons_of_mem _ hi),λ_ _=>rfl⟩,rfl⟩
    |none=>rw[he] at h;simp[stuck,bL] at h
   |region id ops draw=>
    cases draw with
    |true=>
     simp only[if_true] at h⊢;have h2:=(uR p (choose (.order fn id)) _ w).symm.trans h;have h3:=λ(f:Nat->cY (Fm×List Fm))=>uR p (choose (.order fn id)) f w
     cases hc:(choose (.order fn id)).run p w with
     |ok t w2=>
      rw[hc] at h2 h3;simp only[vR] at h2 h3;simp only[mE,bL,vF,sG] at h2;obtain⟨⟨rfl,rfl⟩,rfl⟩:=h2;exact .inl ⟨rfl,rfl,λa b=>Mq (b.symm.trans a),λS hn=>⟨by simp only[mD,forall_eq_or_imp,Ay,yL,jF] at hn⊢;grind,λ_ _=>rfl⟩,h3 _⟩
     |halt y w2=>rw[hc] at h2;cases h2
    |false=>
     simp only[iX,if_false,mE,bL,vF,sG] at h;obtain⟨⟨rfl,rfl⟩,rfl⟩:=h;exact .inl ⟨rfl,rfl,by first|exact λa b=>Mq (b.symm.trans a)|exact λ_ _=>zhC _ _,λS hn=>⟨by simp only[mD,forall_eq_or_imp,Ay,yL,jF] at hn⊢;grind,λ_ _=>rfl⟩,rfl⟩
   |_=>
    first
     |(simp[stuck,bL] at h;done)
     |(
      simp only[mE,bL,vF,sG] at h;obtain⟨⟨rfl,rfl⟩,rfl⟩:=h;exact .inl ⟨rfl,rfl,by first|exact λa b=>Mq (b.symm.trans a)|exact λ_ _=>zhC _ _,λS hn=>⟨by simp only[mD,forall_eq_or_imp,Ay,yL,jF] at hn⊢;grind,λ_ _=>rfl⟩,rfl⟩)
  |inRegion ops l=>
   cases l with
   |nil=>
    simp only[mE,bL,vF,sG] at h;obtain⟨⟨rfl,rfl⟩,rfl⟩:=h;exact .inl ⟨rfl,rfl,by first|exact λa b=>Mq (b.symm.trans a)|exact λ_ _=>zhC _ _,λS hn=>⟨by simp only[mD,forall_eq_or_imp,Ay,yL,jF] at hn⊢;grind,λ_ _=>rfl⟩,rfl⟩
   |cons i rest=>
    simp only at h⊢;have Bd:∀v,Fm.fin {fn:=fn,tmps:=tmps,todo:=sC ops (i::rest)::(k0++k),ret:=ret} ops i rest (k0++k) v=(Fm.fin {fn:=fn,tmps:=tmps,todo:=sC ops (i::rest)::k0,ret:=ret} ops i rest k0 v).app k:=λv=>Fm.fin_app {fn:=fn,tmps:=tmps,todo:=sC ops (i::rest)::k0,ret:=ret} ops i rest k0 k v;by_cases hw:((ops[i]?).map (dE · (dH ops tmps))).getD false=true
    .rw[if_pos hw] at h
     simp only[hw,if_true]
     cases ho:ops[i]? with
     |none=>rw[ho] at h;simp[stuck,bL] at h
     |some o=>
      rw[ho] at h;simp only at h⊢;have nI:Fm.eval {fn:=fn,tmps:=tmps,todo:=sC ops (i::rest)::(k0++k),ret:=ret}=Fm.eval {fn:=fn,tmps:=tmps,todo:=sC ops (i::rest)::k0,ret:=ret}:=by funext y;cases y<;>rfl
      rw[nI];have h2:=(uR p _ _ w).symm.trans h;have h3:=λ(f:Next->cY (Fm×List Fm))=>uR p (aO (Fm.eval {fn:=fn,tmps:=tmps,todo:=sC ops (i::rest)::k0,ret:=ret}) o) f w
      cases hc:(aO (Fm.eval {fn:=fn,tmps:=tmps,todo:=sC ops (i::rest)::k0,ret:=ret}) o).run p w with
      |halt y w2=>rw[hc] at h2;cases h2
      |ok n w2=>
       rw[hc] at h2 h3;simp only[vR] at h2 h3
       cases n with
       |value v=>
        simp only[rH,mE,bL,vF,sG] at h2;obtain⟨⟨rfl,rfl⟩,rfl⟩:=h2;refine .inl ⟨rfl,rfl,λa b=>Mq (b.symm.trans a),λS hn=>zhF rfl hn _,(h3 _).trans ?_⟩;simp only[rH,mE,bL,Bd];rfl
       |skip=>
        simp only[rH,mE,bL,vF,sG] at h2;obtain⟨⟨rfl,rfl⟩,rfl⟩:=h2;refine .inl ⟨rfl,rfl,λa b=>Mq (b.symm.trans a),λS hn=>zhF rfl hn _,(h3 _).trans ?_⟩;simp only[rH,mE,bL,Bd];rfl
       |enter f args=>
        simp only[rH] at h2
        cases hf:p.funcs[f]? with
        |none=>rw[hf] at h2;simp[stuck,bL] at h2
        |some fn2=>
         cases hb:fn2.body with
         |none=>rw[hf] at h2;simp only[hb] at h2;simp[stuck,bL] at h2
         |some c=>
          rw[hf] at h2;simp only[hb,mE,bL,vF,sG] at h2;obtain⟨⟨rfl,rfl⟩,rfl⟩:=h2;refine .inr ⟨rfl,(h3 _).trans ?_⟩;simp only[rH,hf,hb,mE,bL]
       |_=>simp[rH,stuck,bL] at h2
    .rw[if_neg hw] at h
     have rN:((ops[i]?).map (dE · (dH ops tmps))).getD false=false:=by simpa using hw
     simp only[rN,iX,if_false];simp only[mE,bL,vF,sG] at h;obtain⟨⟨rfl,rfl⟩,rfl⟩:=h;refine .inl ⟨rfl,rfl,λa b=>Mq (b.symm.trans a),λS hn=>zhF rfl hn _,?_⟩;simp only[mE,bL,Bd];rfl
  |_=>
   first
    |(simp[stuck,bL] at h;done)
    |(
     simp only[mE,bL,vF,sG] at h;obtain⟨⟨rfl,rfl⟩,rfl⟩:=h;exact .inl ⟨rfl,rfl,by first|exact λa b=>Mq (b.symm.trans a)|exact λ_ _=>zhC _ _,λS hn=>⟨by simp only[mD,forall_eq_or_imp,Ay,yL,jF] at hn⊢;grind,λ_ _=>rfl⟩,rfl⟩)
theorem zw5 (h:(sX p m ms).run p w=.ok (x,ys) w1)(hx:x.ret=true)(hr:m.ret=false)(aU:m.todo≠[])(hy:ys=ms):x.todo≠[]:=by
 rcases zc3 (ms':=[]) [] aU h with e|e
 .exact e.2.2.1 hx hr
 simp_all
theorem zqZ (h:(sX p m ms).run p w=.ok (x,ys) w1)(hm:m.todo=[]):x={m with ret:=true}/\ys=ms:=by
 unfold sX at h;simp_all
theorem zdT (h:(sX p m ms).run p w=.ok (x,ys) w1):(ys=ms/\x.fn=m.fn)\/ys=m::ms:=by
 by_cases hm:m.todo=[]
 .obtain⟨rfl,rfl⟩:=zqZ h hm
  simp_all
 .exact(zc3 (ms':=[]) [] hm h).imp (λe=>⟨e.1,e.2.1⟩) And.left
theorem zDD {S:List Nat}{m':Fm}{w':aE}(hn:∀i∈m.todo,Ay S i=true)(h:(sX p m ms).run p w=.ok (m',ms') w'):(ms'=ms/\Km S m m')\/ms'=m::ms:=by
 by_cases hm:m.todo=[]
 .obtain⟨rfl,rfl⟩:=zqZ h hm
  exact .inl ⟨rfl,hn,λ_ _=>rfl⟩
 .exact(zc3 (ms':=[]) [] hm h).imp (λe=>⟨e.1,e.2.2.2.1 S hn⟩) And.left
def Dc (k:List dX)(b:List Fm):Fm->List Fm->Fm×List Fm
 |m,[]=>(m.app k,b)
 |m,c::cs=>(m,(Dc k b c cs).1::(Dc k b c cs).2)
variable {m1:Fm}{ms1:List Fm}
theorem zzU {k:List dX}{b:List Fm}(h:(fH p m ms).run p w=.ok (m1,ms1) w1)(aU:ms=[]->m.ret=false->m.todo≠[]):
 (fH p (Dc k b m ms).1 (Dc k b m ms).2).run p w=.ok (Dc k b m1 ms1) w1:=by
 cases ms with
 |nil=>
  simp only[Dc]
  cases hr:m.ret with
  |true=>simp[fH,hr,z8,stuck,bL] at h
  |false=>
   have yW:(m.app k).ret=false:=hr;simp only[fH,hr,iX,if_false] at h;simp only[fH,yW,iX,if_false];rcases zc3 (ms':=b) k (aU rfl hr) h with⟨rfl,_,_,_,e⟩|⟨rfl,e⟩
   .exact e
   .exact e
 |cons c cs=>
  simp only[Dc]
  cases hr:m.ret with
  |true=>
   simp only[fH,hr,if_true] at h⊢;obtain⟨ops,i,r,k0,v,fn,hc,hf,hv,rfl,rfl⟩:=Uc h
   cases ms1 with
   |nil=>
    simp only[Dc];have kO:(c.app k).todo=.inRegion ops (i::r)::(k0++k):=by simp[Fm.app,hc]
    have:=(Ma (rest:=b) kO hf hv).1;rw[Fm.fin_app] at this;exact this
   |cons d ds=>exact(Ma hc hf hv).1
  |false=>
   simp only[fH,hr,iX,if_false] at h⊢;by_cases pT:m.todo=[]
   .simp only[sX,pT,mE,bL,vF,sG] at h⊢
    obtain⟨⟨rfl,rfl⟩,rfl⟩:=h;exact⟨rfl,rfl⟩
   .rcases zc3 (ms':=(Dc k b c cs).1::(Dc k b c cs).2) [] pT h with⟨rfl,_,_,_,e⟩|⟨rfl,e⟩
    .simp only[Fm.app_nil] at e
     exact e
    .simp only[Fm.app_nil] at e
     exact e
def Ud:Fm->List Fm->aQ
 |m,[]=>m.fn
 |_,c::cs=>Ud c cs
theorem zoj (h:(fH p m ms).run p w=.ok (m1,ms1) w1):Ud m1 ms1=Ud m ms:=by
 cases hr:m.ret with
 |true=>
  simp only[fH,hr,if_true] at h
  cases ms with
  |nil=>simp[z8,stuck,bL] at h
  |cons c cs=>
   obtain⟨ops,i,r,k0,v,fn,hc,hf,hv,rfl,rfl⟩:=Uc h;cases ms1<;>rfl
 |false=>
  simp only[fH,hr,iX,if_false] at h;rcases zdT h with⟨rfl,e⟩|rfl
  .cases ms1 with
   |nil=>exact e
   |cons c cs=>rfl
  .rfl
variable {Q:Fm->aE->Prop}
theorem LT.ret_inv (hr:m.ret=true)(h:LT p Q m [] w):Q m w:=by
 generalize kK:([]:List Fm)=ms at h
 cases h with
 |stop _ hq=>exact hq
 |step nx hs cN _=>simp_all
variable {Stop:Fm->List Fm->aE->Prop}
theorem LT.app {Am:dM}{Ut:aQ->Bool}{K₁:Pr}{Zr:Gp}{zgz:Nat->Prop}(zeG:wC Am Ut)(zfK:Zr=Am.gp){N:Fm->Prop}(k:List dX)(b:List Fm){fn0:aQ}
 (hN:∀m R y,qB Am Ut K₁ R m y->N m) (zFP:∀m:Fm,m.fn=fn0->N m)
 (hn:∀(x:Fm) (w:aE),x.fn=fn0->x.ret=false->x.todo=[]->(∀T,Q {x with ret:=true} (tp w T 0))->Stop (x.app k) b w)
 (hr:∀(x:Fm) (w:aE),x.fn=fn0->x.ret=true->x.todo≠[]->Q x w->Stop (x.app k) b w)    (h:LT Am.g Q m ms w):
 Ud m ms=fn0->xZ Am Ut K₁ Zr zgz m ms w->(ms=[]->m.ret=true->m.todo≠[])->LTs Am.g N Stop (Dc k b m ms).1 (Dc k b m ms).2 w:=by
 induction h with
 |stop h1 h2=>intro hl _ hz;exact .stop (hr _ _ hl h1 (hz rfl h1) h2)
 |step nx hs cN aS ih=>
  rename_i m ms w;intro hl hrel hz;by_cases L1:ms=[]/\m.ret=false/\m.todo=[]
  .obtain⟨rfl,h1,h2⟩:=L1
   refine .stop (hn m w hl h1 h2 λT=>?_);have hT:=cN T;have e:(fH Am.g m []).run Am.g (tp w T 0)=.ok ({m with ret:=true},[]) (tp w T 0):=by simp[fH,h1,sX,h2,mE,bL]
   rw[e] at hT;injection hT with e1 e2;have hl:=aS T;rw[<-e1,<-e2] at hl;exact hl.ret_inv rfl
  .have aU:ms=[]->m.ret=false->m.todo≠[]:=λa b c=>L1 ⟨a,b,c⟩
   have S3:∀T,Ud (nx T).1.1 (nx T).1.2=fn0:=λT=>(zoj (m1:=(nx T).1.1) (ms1:=(nx T).1.2) (cN T)).trans hl;have uF:∀T,xZ Am Ut K₁ Zr zgz (nx T).1.1 (nx T).1.2 (nx T).2:=λT=>xZ.next (T:=T) (e:=0) zeG zfK hrel hs (cN T);refine .step (λT=>(Dc k b (nx T).1.1 (nx T).1.2,(nx T).2)) (λe=>?_) (λT=>zzU (cN T) aU) (λT=>?_) (λT=>ih T (S3 T) (uF T) λe1 e2 e3=>?_)
   .cases ms with
    |nil=>exact absurd rfl (hs e)
    |cons c cs=>simp[Dc]
   .
    show N (Dc k b (nx T).1.1 (nx T).1.2).1
    cases kK:(nx T).1.2 with
    |nil=>exact zFP _ (by have:=S3 T;rw[kK] at this;exact this)
    |cons c cs=>
     obtain⟨R,W,m',ms',_,hm,_⟩:=uF T;exact hN _ R m' hm
   have hT:=cN T
   cases ms with
   |nil=>
    cases j8:m.ret with
    |true=>exact hs j8 rfl
    |false=>
     simp only[fH,j8,iX,if_false] at hT;exact zw5 hT e2 j8 (aU rfl j8) e1 e3
   |cons c cs=>
    cases j8:m.ret with
    |true=>
     simp only[fH,j8,if_true] at hT;obtain⟨ops,i,r,k0,v,fn,hc,hf,hv,h1,h2⟩:=Uc (m1:=(nx T).1.1) (ms1:=(nx T).1.2) hT;rw[h1] at e3;simp[Fm.fin] at e3
    |false=>
     simp only[fH,j8,iX,if_false] at hT;rcases zdT hT with⟨e,_⟩|e
     .rw[e1] at e;cases e
     .rw[e1] at e;cases e
end
end Go.Tt
namespace Go.Mt
open Go.Conc
open Go.ConcR (KK wgBlock WgAt stA smA rd wr)
section
variable {L:Type}{P:bZ}{ty:aM}{Wg:Nat}{A:jM L}{Fin:bD->aE->Prop}
variable {K K':Bool->Ph L->Nat->cH->bD->aE->Prop}
theorem N0.mono (hK:∀m ph d τ g w,K m ph d τ g w->K' m ph d τ g w){main:Bool}{ph:Ph L}{d:Nat}{τ:cH}{g:bD}{w:aE}(h:N0 P ty Wg K main ph d τ g w):N0 P ty Wg K' main ph d τ g w:=by
 have own:∀{ph:Ph L},OwnG P ty Wg K main ph d τ g w->OwnG P ty Wg K' main ph d τ g w:=λh aJ s=>by
  obtain⟨g',w',es,h1,h2,h3,h4,h5⟩:=h aJ s;exact⟨g',w',es,h1,h2,h3,h4,hK _ _ _ _ _ _ h5⟩
 have idle:∀{ph:Ph L},zao P ty Wg K main ph d τ g w->zao P ty Wg K' main ph d τ g w:=λh aJ s=>by
  obtain⟨g',es,h1,h2,h3,h4⟩:=h aJ s
  grind
 cases ph<;>first|exact h|exact own h|exact idle h
theorem mY.mono (hK:∀m ph d τ g w,K m ph d τ g w->K' m ph d τ g w){main:Bool}{l:L}{d:Nat}{τ:cH}{g:bD}{w:aE}(h:mY P ty Wg A K main l d τ g w):mY P ty Wg A K' main l d τ g w:=by
 unfold mY at*;split
 all_goals(rename_i e;simp only[e] at h)
 .obtain⟨ho,v,z,τ',h1,h2,h3,h4,Ks,h5,h6⟩:=h
  exact⟨ho,v,z,τ',h1,h2,h3,h4,Ks,h5,hK _ _ _ _ _ _ h6⟩
 .grind
 .grind
 .intro aJ lQ v hv hw
  obtain⟨g',h1,h2,h3⟩:=h aJ lQ v hv hw;exact⟨g',h1,h2,hK _ _ _ _ _ _ h3⟩
 .grind
 .grind
 .grind
 grind
theorem Au.mono (hK:∀m ph d τ g w,K m ph d τ g w->K' m ph d τ g w){main:Bool}{ph:Ph L}{d:Nat}{τ:cH}{g:bD}{w:aE}(h:Au P ty Wg A Fin K main ph d τ g w):Au P ty Wg A Fin K' main ph d τ g w:=by
 cases ph with
 |gone=>exact h
 |quit l=>exact h
 |usr l=>exact mY.mono hK h
 |rel l=>
  intro aJ lQ v wt a b c;obtain⟨g',h1,h2,h3,h4,h5⟩:=h aJ lQ v wt a b c
  grind
 |l1 l=>
  intro aJ lQ a;obtain⟨g',h1,h2,h3,h4⟩:=h aJ lQ a
  grind
 |l2 l=>
  intro aJ lQ a;obtain⟨g',h1,h2,h3,h4⟩:=h aJ lQ a
  grind
 |l3 l=>exact h
 |w1 b=>
  intro aJ lQ v zFq hv hw;obtain⟨g',h1,h2,h3,h4⟩:=h aJ lQ v zFq hv hw
  grind
 |w2 vs=>
  intro aJ lQ v hv hw;obtain⟨h1,h2⟩:=h aJ lQ v hv hw
  grind
 |w3=>
  refine⟨h.1,λaJ lQ=>⟨(h.2 aJ lQ).1,λe=>?_⟩⟩;obtain⟨g',a,b,c⟩:=(h.2 aJ lQ).2 e
  grind
 |w4=>
  intro aJ lQ a;obtain⟨g',h1,h2,h3⟩:=h aJ lQ a
  grind
 |w5=>exact h
def cD (P:bZ)(ty:aM)(Wg:Nat)(A:jM L)(Fin:bD->aE->Prop)(main:Bool)(ph:Ph L)(d:Nat)(τ:cH)(g:bD)(w:aE):Prop:=∃r,pI P ty Wg A Fin r main ph d τ g w
variable {main:Bool}{ph:Ph L}{d:Nat}{τ:cH}{g:bD}{w aJ:aE}
theorem cD.mk (cN:g.status=.running)(h:N0 P ty Wg (cD P ty Wg A Fin) main ph d τ g w\/Au P ty Wg A Fin (cD P ty Wg A Fin) main ph d τ g w):cD P ty Wg A Fin main ph d τ g w:=by
 let ι:={x:Bool×Ph L×Nat×cH×bD×aE//cD P ty Wg A Fin x.1 x.2.1 x.2.2.1 x.2.2.2.1 x.2.2.2.2.1 x.2.2.2.2.2}
 let f:ι->Rk:=λx=>x.2.choose
 have hK:∀m ph d τ g w,cD P ty Wg A Fin m ph d τ g w->∃i,pI P ty Wg A Fin (f i) m ph d τ g w:=λm ph d τ g w hb=>⟨⟨(m,ph,d,τ,g,w),hb⟩,hb.choose_spec⟩;exact⟨.mk ι f,cN,h.imp (λx=>x.mono hK) λx=>x.mono hK⟩
theorem cD.own (cN:g.status=.running)(hl:ph.live)(h:OwnG P ty Wg (cD P ty Wg A Fin) main ph d τ g w):cD P ty Wg A Fin main ph d τ g w:=
 .mk cN (.inl (by cases ph<;>first|exact h|exact hl.elim))
def cD.usr {l:L}(cN:g.status=.running)(h:mY P ty Wg A (cD P ty Wg A Fin) main l d τ g w):cD P ty Wg A Fin main (.usr l) d τ g w:=.mk cN (.inr h)
structure Start (P:bZ)(ty:aM)(Wg:Nat)(A:jM L)(Fin:bD->aE->Prop)(Shun:rC->Prop)(gs:Array bD)(w:aE)(t:mQ)(q:Nat->Nat)(l:L)(τ:cH)(a:bD)(B:Nat):Prop where
 main:gs[0]? =some a
 leave:zfD P t gs q
 past:Past Shun B t
 beh:cD P ty Wg A Fin true (.usr l) 0 τ a w
 grp:jL ty Wg w 0 0
 low:B<=Wg/\B<=w.heap.size
 bnd:∀b,τ.own b\/τ.still b\/τ.pass b->b<w.heap.size/\b≠Wg/\∀l,nQ l b->¬Shun l
 pend:A.pend l=false
 inv:A.Inv (λi=>if i=0 then .run l else .gone) (λ_=>none)
theorem phase (hA:A.Ok){Shun:rC->Prop}{gs:Array bD}{t:mQ}{q:Nat->Nat}{l:L}{a:bD}{B:Nat}(S:Start P ty Wg A Fin Shun gs w t q l τ a B)(sl:Option (Nat×Nat)):
 ∃N m' t',runNT P N (crowd gs w sl) t=(.next m',t')/\P7 P Wg Fin Shun m' t':=by
 obtain⟨r,hr⟩:=S.beh;have h0:0<gs.size:=(eB.1 S.main).1
 let none':cH:=⟨λ_=>False,λ_=>False,λ_=>False⟩
 let T:Nat->Td L:=λi=>if i=0 then⟨.usr l,.inr r,τ,a⟩ else⟨.gone,.inl (q i),none',default⟩
 have t0:T 0=⟨.usr l,.inr r,τ,a⟩:=by simp[T]
 have tn:∀i,i≠0->T i=⟨.gone,.inl (q i),none',default⟩:=λi hi=>by simp[T,hi]
 have cN:a.status=.running:=by cases r with|mk ι f=>exact hr.1
 have X6:o9 (λi=>(T i).ph) gs.size=0:=zkA (λj hj=>by simp only[tn j hj,Ph.pre]) _;have qS:vv A (λi=>(T i).ph) gs.size=0:=by
  unfold vv Aa;rw[X6];simp only[t0,S.pend];rfl
 have zdg:(λi=>(T i).ph.proj)=λi=>if i=0 then .run l else .gone:=by
  funext i;by_cases hi:i=0
  .subst hi;rw[t0];rfl
  .rw[tn i hi,if_neg hi];rfl
 refine zD2 (ty:=ty) hA (T:=T) (ch:=λ_=>none) (Shun:=Shun) ⟨⟨h0,λi hi=>(by rw[tn i aC]),(by rw[t0];trivial),λi hi=>(by rw[tn i hi];exact id),λi hi b=>?_,λi j b sM hb=>?_,λi b hb=>?_,λi b hb=>?_,λi l' hi=>?_,λc b hc=>(by cases hc),?_,(by rw[zdg];exact S.inv)⟩,
  ⟨λi x hi=>?_,λi j gi gj c v z z' sh xC hi hj=>?_,λi gi c z sh hi e=>(by cases e),λx hx hp=>(by rw[t0] at hp;cases hp),?_⟩⟩ sl
 .grind
 .grind
 .by_cases h:i=0
  .subst h
   rw[t0] at hb;have:=S.bnd b (hb.imp id .inl);simp_all
  .grind
 .by_cases h:i=0
  .subst h
   rw[t0] at hb;have:=S.bnd b (.inr (.inr hb));omega
  grind
 .by_cases h:i=0
  .subst h;rw[t0] at hi;cases hi
  .rw[tn i h] at hi;cases hi
 .unfold gK
  simp only[t0];refine⟨by rw[qS];simpa using S.grp,λi e=>?_⟩;by_cases h:i=0
  .subst h;rw[t0] at e;exact e
  .rw[tn i h] at e;exact e
 .by_cases h:i=0
  .subst h
   rw[S.main] at hi;cases hi;refine(pN (by rw[t0];exact id)).2 ⟨r,by rw[t0],?_,.inl (by rw[t0];exact l9.self cN)⟩;have hd:gX t 0=0:=S.past.hears;rw[t0,hd];exact hr
  .refine(H8 (by rw[tn i h];trivial)).2 ⟨q i,by rw[tn i h],S.leave.old i x aC hi⟩
 .exfalso
  by_cases h:i=0
  .subst h
   rw[S.main] at hi;cases hi;simp[parked] at cN
  .have:=(S.leave.old i _ aC hi).status
   simp[parked] at this
 .refine TI.begin S.past S.low.2 S.leave.above (λj=>?_) (λb hb=>?_) S.low.1
  .by_cases h:j=0
   .subst h;rw[t0];exact⟨λ_=>rfl,λ_=>trivial⟩
   .rw[tn j h];exact⟨λe=>e.elim,λe=>absurd e h⟩
  .rw[t0] at hb
   exact(S.bnd b hb).2.2
end
end Go.Mt
namespace Go.Mt
open Go.Conc Go.Tt
open Go.ConcR (KK wgBlock WgAt stA smA rd wr)
def vW (τ:cH)(R:Pr)(St:Nat->Prop):Prop:=∀a b,R a b->(St a->τ.still b)/\(¬St a->τ.own b)
section
variable {L:Type}{P:dM}{fs:aQ->Bool}{K:Pr}{G':Gp}{St:Nat->Prop}{ty:aM}{Wg:Nat}{A:jM L}{Fin:bD->aE->Prop}
theorem zjW {S:aQ->Prop}{R:Pr}{w W aX:aE}{τ:cH}(h:cV S K R G' St w W)(ht:vW τ R St)(hK:∀a b,K a b->b<W.heap.size)(s:bX ty Wg τ W aX):cV S K R G' St w aX:=by
 refine⟨h.inj,h.inj',λa b x=>⟨(h.lt a b x).1,jO (h.lt a b x).2 s.size⟩,h.low,⟨h.gle.1,eH h.gle.2 s.size⟩,λa b x=>?_,h.rest,h.st,h.np,h.tb⟩;obtain⟨o,o',h1,h2,h3⟩:=h.cont a b x;refine⟨o,o',h1,?_,h3⟩;rw[s.keep b ?_];exact h2;by_cases hs:St a
 .exact .inr ((ht a b x).1 hs)
 .exact .inl ((ht a b x).2 hs)
end
end Go.Mt
namespace Go.Mt
open Go.Conc Go.Tt
open Go.ConcN (sumTo sumTo_upd upd_ne upd_same)
open Go.ConcR (KK wgBlock WgAt stA smA rd wr)
def Ends (P:bZ)(Post:aF->aE->Prop)(m:O1)(t:mQ):Prop:=
 ∃M last o w' t',runNT P (M+1) m t=(.ended o w',t')/\runN P M m=.next last/\step P last=.ended o w'/\Conc.Good P Post last o w' t'
section
variable {P:bZ}{Post:aF->aE->Prop}
theorem Ends.step {m m':O1}{t:mQ}{ops:Array Qm}(h:stepT P m=(.next m',ops))(he:Ends P Post m' (t++ops)):Ends P Post m t:=by
 obtain⟨M,last,o,w',t',h1,h2,h3,h4⟩:=he;refine⟨M+1,last,o,w',t',?_,?_,h3,h4⟩
 .rw[runNT,h];exact h1
 .have:Go.step P m=.next m':=by rw[Go.step,h]
  rw[zcf this];exact h2
theorem Ends.run:∀(N:Nat) {m m':O1} {t t':mQ},runNT P N m t=(.next m',t')->Ends P Post m' t'->Ends P Post m t:=by
 intro N
 induction N with
 |zero=>
  intro m m' t t' h he;simp only[runNT,sG,zdd] at h;simp_all
 |succ N ih=>
  intro m m' t t' h he;rw[runNT] at h;generalize hs:stepT P m=s at h;obtain⟨s,ops⟩:=s
  cases s with
  |next m1=>exact Ends.step hs (ih h he)
  |ended o w=>simp at h
variable (P Post)
def J (Shun:rC->Prop)(B:Nat)(g:bD)(w:aE):Prop:=
 ∀(gs:Array bD) (t:mQ) (sl:Option (Nat×Nat)) (q:Nat->Nat),gs[0]? =some g->zfD P t gs q->Past Shun B t->Ends P Post (crowd gs w sl) t
variable {P Post}
variable {B:Nat}{g:bD}
theorem J.own {Shun:rC->Prop}{w:aE}(cN:g.status=.running)
 (h:∀d,∃g' w' es B',stepG P true g (w.at d)=.go g' w' es/\(∀e∈es,EvL Shun B' e)/\B<=B'/\J P Post Shun B' g' w'):J P Post Shun B g w:=by
 have key:∀(M:Nat) (d:Nat) (gs:Array bD) (t:mQ) (sl:Option (Nat×Nat)) (q:Nat->Nat),sumTo gs.size q=M->gs[0]? =some g->zfD P t gs q->Past Shun B t->Ends P Post (crowd gs (w.at d) sl) t:=by
  intro M
  induction M using zb8 with
  |ind M ih=>
  intro d gs t sl q hM h0 hL hP;have dN:∀x∈gs,awake x:=by
   intro x hx;obtain⟨i,hi,rfl⟩:=ztj.1 hx;rcases Ws i with rfl|Ce
   .have:gs[0]=g:=by simpa[pS hi] using h0
    rw[this];exact awake_of (.inl cN)
   .exact awake_of ((hL.old i _ Ce (pS hi)).status.elim .inl λx=>.inr (.inr x))
  obtain⟨i,x,d',L3,hi,hx,aY⟩:=crowd_pick (P:=P) (w:=w.at d) (sl:=sl) dN ⟨0,g,h0,cN⟩;rw[show(w.at d).at d'=w.at d' from rfl] at aY;rcases Ws i with rfl|Ce
  .obtain rfl:x=g:=by simp_all
   obtain⟨g',w',es,B',hgo,yD,cM,hJ⟩:=h d';have zjn:=zcz (P:=P) (sl:=L3) (i:=0) hi (show stepG P (0==0) x (w.at d')=_ from hgo);have aS:0<gs.size:=(eB.1 h0).1;refine Ends.step (aY.trans zjn) (hJ _ _ _ q (by simp[aS]) ⟨λj y hj hy=>?_,λj hj=>?_⟩ ((hP.mono cM).own yD))
   .have aU:0≠j:=aC
    rw[tL aU,Cy] at hy;obtain⟨z,hz,rfl⟩:=zR.1 hy;have hq:=hL.old j z hj hz;rw[zcJ hq,Qq t aC _ (λop hop=>by obtain⟨e,_,rfl⟩:=zgY hop;rfl)];exact hq
   .rw[Qq t (g':=0) (by simp at hj;omega) _ (λop hop=>by obtain⟨e,_,rfl⟩:=zgY hop;rfl)]
    exact hL.above j zal
  .have hq:=hL.old i x Ce hi
   have eR:(i==0)=false:=oX;have aS:i<gs.size:=(eB.1 hi).1
   cases zjt:q i with
   |zero=>rw[zjt] at hq;rw[hq.1] at hx;cases hx
   |succ k=>
    rw[zjt] at hq;rcases hq with⟨hf,_⟩|⟨_,g',es,hm,zaJ,N1⟩
    .rw[hf] at hx;cases hx
    have zjn:=zcz (P:=P) (sl:=L3) (i:=i) hi (by rw[eR];exact zaJ (w.at d'));have cM:((gs.map (woken P x g' (w.at d'))).setIfInBounds i g').size=gs.size:=aN;have zIV:sumTo gs.size (zlc q i k)+(k+1)=sumTo gs.size q+k:=by
     have:=sumTo_upd q k id aS;simp only[zjt,id] at this;exact this
    refine Ends.step (aY.trans zjn) (ih (sumTo gs.size (zlc q i k)) aC d' _ _ _ (zlc q i k) (by rw[cM]) ?_ ⟨λj y hj hy=>?_,λj hj=>?_⟩ (hP.mute aC hm))
    .have aU:i≠0:=aC
     rw[tL aU,Cy,h0];simp[woken_run cN]
    .by_cases fI:i=j
     .subst fI
      rw[zkR (by simpa using aS)] at hy;obtain rfl:=cO hy;rw[ConcN.upd_same,zlL];exact N1
     .rw[tL fI,Cy] at hy
      obtain⟨z,hz,rfl⟩:=zR.1 hy;have zs6:=hL.old j z hj hz;rw[zcJ zs6,ConcN.upd_ne q k (Ne.symm fI),Qq t fI _ (λop hop=>by obtain⟨e,_,rfl⟩:=zgY hop;rfl)];exact zs6
    .rw[Qq t (g':=i) (by simp at hj;omega) _ (λop hop=>by obtain⟨e,_,rfl⟩:=zgY hop;rfl)]
     exact hL.above j zal
 intro gs t sl q h0 hL hP;have:=key _ w.drawn gs t sl q rfl h0 hL hP;exact this
theorem J.done {Shun:rC->Prop}{w:aE}(cN:g.status=.running)
 (h:∀d,∃v es,stepG P true g (w.at d)=.ended (.done v) (w.at d) es/\(∀e∈es,EvL Shun B e)/\Post v (w.at d)):J P Post Shun B g w:=by
 intro gs t sl q h0 hL hP;exact beside_ends (B:=B) (D:=λ_ _ es=>∀e∈es,EvL Shun B e) (n:=0) (λ_ _ _ hd=>hd) h0 hL hP (λaJ ⟨d,hd⟩=>by subst hd;exact⟨cN,h d⟩)
theorem J.phase {L:Type}{ty:aM}{Wg:Nat}{A:jM L}(hA:A.Ok){Shun:rC->Prop}{a:bD}{w:aE}{l:L}{τ:cH}
 (hb:cD P ty Wg A (λg w'=>J P Post (λl=>Shun l\/nQ l Wg) w'.heap.size g w') true (.usr l) 0 τ a w) (hg:jL ty Wg w 0 0) (hB:B<=Wg/\B<=w.heap.size)
 (bnd:∀b,τ.own b\/τ.still b\/τ.pass b->b<w.heap.size/\b≠Wg/\∀l,nQ l b->¬Shun l) (pend:A.pend l=false)
 (inv:A.Inv (λi=>if i=0 then .run l else .gone) (λ_=>none)):J P Post Shun B a w:=by
 intro gs t sl q h0 hL hP;obtain⟨N,m',t',h1,gs',a',w',L3,q',rfl,h2,h3,h4,h5,h6⟩:=Mt.phase hA (S:=⟨h0,hL,hP,hb,hg,hB,bnd,pend,inv⟩) sl;exact Ends.run N h1 (h4 gs' t' L3 q' h2 h5 h6)
end
end Go.Mt
namespace Go.Mt
open Go.Conc Go.Tt
open Go.ConcR (KK wgBlock WgAt stA smA rd wr)
abbrev K0:Pr:=λ_ _=>False
structure Sh (n:Nat)(Shun:rC->Prop)(R:Pr)(W:aE):Prop where
 old:∀l b,nQ l b->b<n->¬Shun l
 rel:∀a b,R a b->∀l,nQ l b->¬Shun l
 new:∀l b,nQ l b->W.heap.size<=b->¬Shun l
structure Kp (W0:aE)(R:Pr)(St:Nat->Prop)(W:aE):Prop where
 os:W.os=W0.os
 tape:W.tape=W0.tape
 output:W.output=W0.output
 size:W0.heap.size<=W.heap.size
 block:∀b,b<W0.heap.size->W.heap[b]? =W0.heap[b]?
 old:∀a b,R a b->b<W0.heap.size->St a
def Kp.below {W0 W:aE}{R:Pr}{St:Nat->Prop}(h:Kp W0 R St W):RowKit.Below W0.heap.size W0 W:=⟨h.os,h.tape,h.output,h.size,h.block⟩
section
variable (P:dM)(fs:aQ->Bool)(G':Gp)(St:Nat->Prop)(W0:aE)(Post:aF->aE->Prop)
def JO (m:Fm)(ms:List Fm)(w:aE):Prop:=
 ∀(K R:Pr) (W:aE) (m':Fm) (ms':List Fm) (Shun:rC->Prop),cV (SF fs) K R G' St w W->qB P fs K R m m'->uS P fs K R ms ms'->Sh W0.heap.size Shun R W->Kp W0 R St W->
  J P.c Post Shun W.heap.size (G m'.fr (ms'.map Fm.fr)) W
variable {P fs G' St W0 Post}
variable {m:Fm}{ms:List Fm}
def JO.tape {w:aE}(h:JO P fs G' St W0 Post m ms w)(T:j6)(e:Nat):JO P fs G' St W0 Post m ms (Tt.tp w T e):=
 λK R W m' ms' Shun a b c d k=>h K R W m' ms' Shun a.untp b c d k
variable {R:Pr}
theorem zzY {Shun:rC->Prop}{W:aE}{St:Nat->Prop}{e:rK}(h:H6 R St e){n:Nat}(hs:Sh n Shun R W)(aS:∀a b,R a b->b<W.heap.size):EvL Shun W.heap.size e:=by
 rcases h with rfl|⟨b,a,h1,h2,h3⟩
 .exact⟨λx hx=>by simp[jN,sJ] at hx,aN,aN,trivial⟩
 .obtain⟨loc,wr,sy⟩:=e
  cases loc with
  |cell x=>
   simp only[Hd,jP] at h1;refine⟨λy hy nD=>?_,aN,aN,?_⟩
   .simp only[jN,sJ,jP] at hy
    subst hy;exact absurd nD (hs.rel a b h2 _ h1)
   .show x.block<W.heap.size
    grind
  |obj r=>
   simp only[Hd,jP] at h1;have hr:r<W.heap.size:=by rw[h1];exact aS a b h2
   refine⟨λy hy nD=>?_,aN,aN,?_⟩
   .have Wx:y.loc=.obj r:=by
     cases wr<;>cases sy<;>simp only[jN,sJ,jP] at hy<;>first|(subst hy;rfl)|(cases hy;done)
    exact absurd (Wx▸nD) (hs.rel a b h2 (.obj r) h1)
   .cases wr<;>cases sy<;>exact hr
  |_=>simp[Hd] at h1
def cV.at {S:aQ->Prop}{K:Pr}{G':Gp}{w W:aE}(h:cV S K R G' St w W)(d:Nat):cV S K R G' St w (W.at d):=
 ⟨h.inj,h.inj',h.lt,h.low,h.gle,h.cont,h.rest,h.st,h.np,h.tb⟩
theorem JO.one (F:Fit2 P fs)(hG:G'=P.gp){w:aE}(hs:m.ret=true->ms≠[])(nx:j6->(Fm×List Fm)×aE)(cN:∀T,(fH P.g m ms).run P.g (Tt.tp w T 0)=.ok (nx T).1 (nx T).2)
 (fP:∀T K R y,¬OpR P fs K R (nx T).1 y) (hJ:∀T,JO P fs G' St W0 Post (nx T).1.1 (nx T).1.2 (nx T).2):JO P fs G' St W0 Post m ms w:=by
 intro K R W m' ms' Shun hw hm kK nD hk;refine J.own rfl λd=>?_;have dL:=cV.at hw d
 let aX:=W.at d
 let T:Tape:=λn q=>aX.tape (aX.drawn+n) q
 have zT:cV (SF fs) K R G' St (Tt.tp w T 0) aX:=⟨dL.inj,dL.inj',dL.lt,dL.low,dL.gle,dL.cont,dL.rest,dL.st,dL.np,dL.tb⟩;have K6:Tp (Tt.tp w T 0) aX:=λn q=>by show aX.tape (aX.drawn+(0+n)) q=_;rw[qH]
 obtain⟨R1,x',W1,ev,e1,e2,e3,e4,e5⟩:=aG.run hG _ (zfQ (l:=false) F (zT.relOk hG) hm kK (λe=>by cases e) hs) zT K6 (cN T);replace e2:=e2.resolve_right λx=>fP T K R1 x' x.2;have nI:(fH P.c m' ms').events P.c aX #[]=ev:=by rw[e4];simp
 have cM:W.heap.size<=W1.heap.size:=e3.size.2;have zo7:Sh W0.heap.size Shun R1 W1:=⟨nD.old,λa b x l hl=>by
  rcases e3.new a b x with y|⟨_,y⟩
  .exact nD.rel a b y l hl
  .exact nD.new l b hl y,λl b hl hb=>nD.new l b hl (eH cM hb)⟩
 have qY:Kp W0 R1 St W1:=by
  refine⟨e3.os.2.trans hk.os,e3.tape.2.trans hk.tape,e3.ou.2.trans hk.output,eH hk.size cM,λb hb=>?_,λa b x hb=>?_⟩
  .have ziE:b<W.heap.size:=jO hb hk.size
   rw[e3.keep b ziE (λa x=>hk.old a b x hb)];exact hk.block b hb
  .rcases e3.new a b x with y|⟨_,y⟩
   .exact hk.old a b y hb
   .have h9:W.heap.size<=b:=y
    have:=hk.size;omega
 have goal:=hJ T K R1 W1 x'.1 x'.2 Shun e3.rel e2.1 e2.2.1 zo7 qY;have aY:=zh0 (main:=true) e1 [];simp only[Nv] at aY;rw[nI] at aY;exact⟨_,W1,_,W1.heap.size,aY,λe he=>zzY (e5 e (mem_seen he)) zo7 (λa b x=>(e3.rel.ltR a b x).2),cM,goal⟩
theorem LTs.jo (F:Fit2 P fs)(hG:G'=P.gp){N:Fm->Prop}(hop:∀f xs,P.op f=true->¬N (Ea P.g f xs)){Stop:Fm->List Fm->aE->Prop}(hS:∀m ms w,Stop m ms w->JO P fs G' St W0 Post m ms w){w:aE}(h:LTs P.g N Stop m ms w):
 JO P fs G' St W0 Post m ms w:=by
 induction h with
 |stop hs=>exact hS _ _ _ hs
 |step nx hs cN hN aS ih=>
  rename_i m ms w;refine JO.one F hG hs nx cN (λT K R y ho=>?_) ih;obtain⟨f,xs,b8,c,c',rest,N2,h1,h2,h3,h4,_⟩:=ho.ex
  grind
end
abbrev PL (p:bZ)(op gs:aQ->Bool):dM:=⟨p,p.funcs,op,λ_=>false,gs,true⟩
abbrev PS (p:bZ)(gs:aQ->Bool):dM:=⟨p,p.funcs,λ_=>false,λ_=>false,gs,true⟩
structure Lv (p:bZ)(op gs gs₁ fs:aQ->Bool):Prop where
 fit:Fit2 (PL p op gs) fs
 fit₁:wC (PS p gs₁) fs
 nofit:∀f,op f=true->∃fn c,p.funcs[f]? =some fn/\fn.body=some c/\(fn.name== "runtime.NumGoroutine")=false/\pX p ⟨fs,gs₁,true⟩ c=false
section
variable {p:bZ}{op gs gs₁ fs:aQ->Bool}{St:Nat->Prop}{W0:aE}{Post:aF->aE->Prop}
abbrev JL (p:bZ)(op gs fs:aQ->Bool)(St:Nat->Prop)(W0:aE)(Post:aF->aE->Prop)(m:Fm)(ms:List Fm)(w:aE):Prop:=JO (PL p op gs) fs (pK p) St W0 Post m ms w
theorem W9 (p:bZ)(f:aQ)(xs:Array aF):(Ea p f xs).fn=f:=by
 unfold Ea
 grind
variable {P:dM}{G':Gp}{m:Fm}{ms:List Fm}
def JO.untape {fs:aQ->Bool}{w:aE}{T:j6}{e:Nat}(h:JO P fs G' St W0 Post m ms (Tt.tp w T e)):JO P fs G' St W0 Post m ms w:=
 λK R W m' ms' Shun a b c d k=>h K R W m' ms' Shun ⟨a.inj,a.inj',a.lt,a.low,a.gle,a.cont,a.rest,a.st,a.np,a.tb⟩ b c d k
variable {K:Pr}
theorem xZ.tape {fs:aQ->Bool}{w:aE}(h:xZ P fs K G' St m ms w)(T:j6)(e:Nat):xZ P fs K G' St m ms (Tt.tp w T e):=by
 obtain⟨R,W,m',ms',a,b,c⟩:=h;exact⟨R,W,m',ms',⟨a.inj,a.inj',a.lt,a.low,a.gle,a.cont,a.rest,a.st,a.np,a.tb⟩,b,c⟩
variable {K₁:Pr}{c:Code}
theorem zn3 {Am:dM}{Ut:aQ->Bool}{Zr:Gp}{zgz:Nat->Prop}(zeG:wC Am Ut)(zfK:Zr=Am.gp){fn:aQ}{tmps:Array aF}{w:aE}{Q:Exit->Go.Act->aE->Prop}
 (hrel:xZ Am Ut K₁ Zr zgz ⟨fn,tmps,[.code c],false⟩ [] w) (uQ:∀T,Code.wp Am.g c Q ⟨tmps,[]⟩ (Tt.tp w T 0)) (hx:∀e a w,Q e a w->e=.normal\/e=.ret) (zto:∀e a w T k,Q e a w->Q e a (Tt.tp w T k)):
 Tt.LT Am.g (λmT wT=>mT.ret=true/\((mT.todo=[]/\Q .normal ⟨mT.tmps,[]⟩ wT)\/Q .ret ⟨mT.tmps,[]⟩ wT)) ⟨fn,tmps,[.code c],false⟩ [] w:=by
 refine bar zeG zfK (λm w T e h=>⟨h.1,h.2.imp (λx=>⟨x.1,zto _ _ _ _ _ x.2⟩) (zto _ _ _ _ _)⟩) ⟨hrel,λT=>?_⟩
 let b:Frame:={(default:dR) with fn:=fn,kind:=.normal}
 obtain⟨e,a',w',hq,zpS⟩:=uQ T b [] [pz];have zHt:=xZ.tape hrel T 0
 have fin:∀todo,Steps Am.g (lone (b.at ⟨tmps,[]⟩ [.code c]) [pz] (Tt.tp w T 0)) (lone {b.at a' todo with mode:=.returning} [pz] w')->((todo=[]/\Q .normal a' w')\/Q .ret a' w')->
  ∃n mT wT,Ik Am.g n ⟨fn,tmps,[.code c],false⟩ [] (Tt.tp w T 0) mT wT/\mT.ret=true/\((mT.todo=[]/\Q .normal ⟨mT.tmps,[]⟩ wT)\/Q .ret ⟨mT.tmps,[]⟩ wT):=by
  intro todo hs zlH;obtain⟨n,hn⟩:=hs;obtain⟨k,mT,hi,fZ⟩:=Pp zeG zfK (frT:={b.at a' todo with mode:=.returning}) rfl n zHt hn;have h1:mT.tmps=a'.tmps:=congrArg dR.tmps fZ;have h2:a'.defers=[]:=(congrArg dR.defers fZ).symm;have h3:mT.todo=todo:=congrArg dR.todo fZ;have h4:mT.ret=true:=by
   cases hr:mT.ret with
   |true=>rfl
   |false=>have:=congrArg dR.mode fZ;rw[Fm.fr_run hr] at this;cases this
  have h5:(⟨mT.tmps,[]⟩:Go.Act)=a':=by rw[h1,<-h2]
  exact⟨k,mT,w',hi,h4,by rw[h5,h3];exact zlH⟩
 rcases hx e a' w' hq with rfl|rfl
 .exact fin [] (Steps.trans zpS (Steps.one step_end)) (.inl ⟨rfl,hq⟩)
 .obtain⟨todo,hs⟩:=zpS
  grind
def zi5 (p:bZ)(op:aQ->Bool)(m:Fm):Prop:=∀f xs,op f=true->m≠Ea p f xs
def Lv.hop (L:Lv p op gs gs₁ fs):∀f xs,(PL p op gs).op f=true->¬zi5 p op (Ea (PL p op gs).g f xs):=λf xs h hn=>hn f xs h rfl
theorem Lv.hN (L:Lv p op gs gs₁ fs):∀m R y,qB (PS p gs₁) fs K₁ R m y->zi5 p op m:=by
 rintro m R y hm f xs ho rfl;obtain⟨fn,c,h1,h2,_,h4⟩:=L.nofit f ho;have h5:Ea p f xs=⟨f,xs++oJ (fn.ntmps-xs.size) aA,[.code c],false⟩:=by simp[Ea,h1,h2]
 have hf:=hm.fit;rw[h5] at hf;have:=hf (.code c) aN;have h6:uM (PS p gs₁) fs f=⟨fs,gs₁,true⟩:=rfl;simp only[F6,h6,h4] at this;cases this
variable {k:List dX}
theorem zDu {R:Pr}{fn:aQ}{tmps:Array aF}{w W:aE}{m':Fm}(hc:pX p ⟨fs,gs₁,true⟩ c=true)
 (hw:cV (SF fs) K R (pK p) St w W) (hm:qB (PL p op gs) fs K R ⟨fn,tmps,.code c::k,false⟩ m'):xZ (PS p gs₁) fs K (pK p) St ⟨fn,tmps,[.code c],false⟩ [] w:=by
 refine⟨R,W,{m' with todo:=[.code c]},[],hw,⟨hm.fn,rfl,hm.ret,hm.tmps,λi hi=>?_,hm.infs⟩,.nil⟩;simp only[mD,nE,or_false] at hi;subst hi;exact hc
theorem JO.piece (L:Lv p op gs gs₁ fs){fn:aQ}{tmps:Array aF}{b:List Fm}{w:aE}(hc:pX p ⟨fs,gs₁,true⟩ c=true)(Ka:op fn=false)
 (uQ:∀T,Code.wp p c (λe a' w'=>e=.normal/\JL p op gs fs St W0 Post ⟨fn,a'.tmps,k,false⟩ b w') ⟨tmps,[]⟩ (Tt.tp w T 0)):JL p op gs fs St W0 Post ⟨fn,tmps,.code c::k,false⟩ b w:=by
 intro K R W m' ms' Shun hw hm kK nD hk;have hrel:=zDu (gs₁:=gs₁) hc hw hm;have tree:=zn3 L.fit₁ rfl hrel uQ (λe a w h=>.inl h.1) (λe a w T k h=>⟨h.1,h.2.tape T k⟩)
 have zFD:=LT.app L.fit₁ rfl (N:=zi5 p op) (Stop:=λm ms w=>JL p op gs fs St W0 Post m ms w) k b (fn0:=fn) (L.hN (K₁:=K)) (λm e f xs ho e2=>by rw[e2,W9] at e;rw[e,Ka] at ho;cases ho)
  (λx w e1 e2 e3 hq=>by
   have h1:=hq w.tape;rcases h1.2 with h|h
   .have h2:=JO.untape h.2.2
    obtain⟨xf,xt,xd,xr⟩:=x;simp only at e1 e2 e3 h2;subst e1 e2 e3;exact h2
   .cases h.1)
  (λx w e1 e2 e3 hq=>by
   rcases hq.2 with h|h
   .exact absurd h.1 e3
   .cases h.1) tree rfl hrel (λ_ e=>by cases e)
 exact LTs.jo L.fit rfl L.hop (λm ms w h=>h) zFD K R W m' ms' Shun hw hm kK nD hk
theorem JO.ctl (L:Lv p op gs gs₁ fs){m1:Fm}{w:aE}(hr:m.ret=false)(hf:op m1.fn=false)(cN:∀w,(sX p m ms).run p w=.ok (m1,ms) w)(hJ:JL p op gs fs St W0 Post m1 ms w):JL p op gs fs St W0 Post m ms w:=by
 refine JO.one L.fit rfl (λe=>by rw[hr] at e;cases e) (λT=>((m1,ms),Tt.tp w T 0)) (λT=>?_) (λT K R y ho=>?_) λT=>hJ.tape T 0
 .show(fH p m ms).run p _=_
  simp only[fH,hr,iX,if_false];exact cN _
 .obtain⟨f,xs,b8,c,c',rest,N2,h1,h2,h3,h4,_⟩:=ho.ex
  simp only[sG] at h4;have h5:=h4.1;rw[h5,W9] at hf;simp_all
variable {b a:Code}
def JO.seq (L:Lv p op gs gs₁ fs){fn:aQ}{tmps:Array aF}{w:aE}(hf:op fn=false)(h:JL p op gs fs St W0 Post ⟨fn,tmps,.code a:: .code b::k,false⟩ ms w):JL p op gs fs St W0 Post ⟨fn,tmps,.code (.seq a b)::k,false⟩ ms w:=
 JO.ctl L rfl hf (λw=>rfl) h
theorem JO.cond (L:Lv p op gs gs₁ fs){fn:aQ}{tmps:Array aF}{c:cK}{w:aE}{t:Bool}(hf:op fn=false)(hc:(bJ tmps []).eval c=.bool t)(h:JL p op gs fs St W0 Post ⟨fn,tmps,.code (if t then a else b)::k,false⟩ ms w):JL p op gs fs St W0 Post ⟨fn,tmps,.code (.cond c a b)::k,false⟩ ms w:=by
 refine JO.ctl L rfl hf (λw=>?_) h;have he:Fm.eval ⟨fn,tmps,.code (.cond c a b)::k,false⟩ c=.bool t:=by rw[<-hc];cases c<;>rfl
 simp only[sX,he,mE,bL]
def JO.skip (L:Lv p op gs gs₁ fs){fn:aQ}{tmps:Array aF}{w:aE}(hf:op fn=false)(h:JL p op gs fs St W0 Post ⟨fn,tmps,k,false⟩ ms w):JL p op gs fs St W0 Post ⟨fn,tmps,.code .skip::k,false⟩ ms w:=JO.ctl L rfl hf (λw=>rfl) h
def JO.ret (L:Lv p op gs gs₁ fs){fn:aQ}{tmps:Array aF}{w:aE}(hf:op fn=false)(h:JL p op gs fs St W0 Post ⟨fn,tmps,.code .ret::k,true⟩ ms w):JL p op gs fs St W0 Post ⟨fn,tmps,.code .ret::k,false⟩ ms w:=JO.ctl L rfl hf (λw=>rfl) h
variable {ops:Array aZ}
def JO.reg (L:Lv p op gs gs₁ fs){fn:aQ}{tmps:Array aF}{id:Nat}{w:aE}(hf:op fn=false)(h:JL p op gs fs St W0 Post ⟨fn,tmps,.inRegion ops (iQ ops.size)::k,false⟩ ms w):JL p op gs fs St W0 Post ⟨fn,tmps,.code (.region id ops false)::k,false⟩ ms w:=JO.ctl L rfl hf (λw=>rfl) h
def JO.regEnd (L:Lv p op gs gs₁ fs){fn:aQ}{tmps:Array aF}{w:aE}(hf:op fn=false)(h:JL p op gs fs St W0 Post ⟨fn,tmps,k,false⟩ ms w):JL p op gs fs St W0 Post ⟨fn,tmps,.inRegion ops []::k,false⟩ ms w:=JO.ctl L rfl hf (λw=>rfl) h
variable {o:aZ}
theorem JO.opv (L:Lv p op gs gs₁ fs){fn:aQ}{tmps:Array aF}{i:Nat}{rest:List Nat}{w:aE}{v:aF}(hf:op fn=false)(ho:ops[i]? =some o)(cE:dE o (dH ops tmps)=true)
 (hx:∀T e,(aO (bJ tmps []).eval o).run p (Tt.tp w T e)=.ok (.value v) (Tt.tp w T e)) (h:JL p op gs fs St W0 Post ⟨fn,(cC ⟨tmps,[]⟩ o.dst v).tmps,.inRegion ops rest::k,false⟩ ms w):JL p op gs fs St W0 Post ⟨fn,tmps,.inRegion ops (i::rest)::k,false⟩ ms w:=by
 refine JO.one L.fit rfl (λe=>by cases e) (λT=>((⟨fn,(cC ⟨tmps,[]⟩ o.dst v).tmps,.inRegion ops rest::k,false⟩,ms),Tt.tp w T 0)) (λT=>?_) (λT K R y Tr=>?_) λT=>h.tape T 0
 .show(fH p _ ms).run p _=_
  simp only[fH,iX,if_false,sX,ho,F8,Br,cE,if_true];have he:Fm.eval ⟨fn,tmps,.inRegion ops (i::rest)::k,false⟩=(bJ tmps []).eval:=by funext x;cases x<;>rfl
  rw[he];refine(uR p _ _ _).trans ?_;rw[hx];simp only[vR,rH,mE,bL,Fm.fin,ho,uY,cC];cases o.dst<;>rfl
 .obtain⟨f,xs,b8,c,c',rest,N2,h1,h2,h3,h4,_⟩:=Tr.ex
  simp only[sG] at h4;have h5:=congrArg Fm.fn h4.1;rw[W9] at h5;simp_all
variable {x:Fm}
theorem JO.back (L:Lv p op gs gs₁ fs){w:aE}{i:Nat}{rest:List Nat}{v:aF}(hr:x.ret=true)(pT:m.todo=.inRegion ops (i::rest)::k){fnx:Func}(U3:p.funcs[x.fn]? =some fnx)(hv:(oG fnx.results.toList x.tmps).run p w=.ok v w)(hf:op m.fn=false)
 (h:JL p op gs fs St W0 Post (m.fin ops i rest k v) ms w):JL p op gs fs St W0 Post x (m::ms) w:=by
 refine JO.one L.fit rfl (λ_=>by simp) (λT=>((m.fin ops i rest k v,ms),Tt.tp w T 0)) (λT=>?_) (λT K R y Tr=>?_) λT=>h.tape T 0
 .show(fH p x (m::ms)).run p _=_
  simp only[fH,hr,if_true];exact(Ma pT U3 ((Yf _ _ w v w hv).2 T 0)).1
 .obtain⟨f,xs,b8,c,c',rest,N2,h1,h2,h3,h4,_⟩:=Tr.ex
  simp only[sG] at h4;have h5:=congrArg Fm.fn h4.1;rw[W9] at h5;have h6:op f=true:=h1;have h7:m.fn=f:=h5;simp_all
variable {args:Array cK}{kJ:Array aM}{fn:Func}
theorem zes {p:bZ}{f:aQ}(hop:o.op=.call ⟨.value (.func f),args,kJ⟩){ρ:cK->aF}(hρ:∀g,ρ (.func g)=.func (.func g) #[] #[])(hf:p.funcs[f]? =some fn)
 (hn:(fn.name== "runtime.NumGoroutine")=false) (hb:fn.body=some c) (w:aE):(aO ρ o).run p w=.ok (.enter f (args.map ρ)) w/\(aO ρ o).events p w #[]=#[]:=by
 obtain⟨dst,yV,type,pos,after,guard⟩:=o;simp only at hop;subst hop;have vL:¬fn.name= "runtime.NumGoroutine" :=by simpa using hn
 constructor
 .simp[aO,resolve,Db,hρ,invoke,callFunc,program,bind,yN,pure,bL,hf,vL,hb]
 .simp[aO,resolve,Db,hρ,invoke,callFunc,program,bind,yN,pure,bL,xI,cY.runT,hf,vL,hb]
theorem JO.callF (L:Lv p op gs gs₁ fs){w:aE}{i:Nat}{rest:List Nat}{f:aQ}(hr:m.ret=false)(pT:m.todo=.inRegion ops (i::rest)::k)
 (ho:ops[i]? =some o) (cE:dE o (dH ops m.tmps)=true) (hop:o.op=.call ⟨.value (.func f),args,kJ⟩) (hg:op f=true) (wK:args.all (dV fs)=true)
 (hF:∀(K R:Pr) (W:aE) (m':Fm) (ms':List Fm) (Shun:rC->Prop) (b8:Array aF),cV (SF fs) K R (pK p) St w W->qB (PL p op gs) fs K R m m'->uS (PL p op gs) fs K R ms ms'->Sh W0.heap.size Shun R W->Kp W0 R St W->bM (SF fs) K R (args.map m.eval) b8->
  J p Post Shun W.heap.size (G (Hm p f b8 .normal) (m'.fr::ms'.map Fm.fr)) W):JL p op gs fs St W0 Post m ms w:=by
 obtain⟨fn,c,Uj,g4,g3,_⟩:=L.nofit f hg;intro K R W m' ms' Shun hw hm kK nD hk;refine J.own rfl λd=>?_;have Gw:bM (SF fs) K R (args.map m.eval) (args.map m'.eval):=bM.maps hm.eval wK;have yW:m'.ret=false:=hm.ret.symm.trans hr;have Qr:m'.todo=.inRegion ops (i::rest)::k:=hm.todo.symm.trans pT;have vA:dE o (dH ops m'.tmps)=true:=by rw[<-zia ops hm.tmps];exact cE
 have Eg:Hm p f (args.map m'.eval) .normal=(⟨f,args.map m'.eval++oJ (fn.ntmps-(args.map m'.eval).size) aA,[.code c],false⟩:Fm).fr:=zb4 Uj g4;obtain⟨x1,x2⟩:=zes hop (ρ:=m'.eval) (λg=>rfl) Uj g3 g4 (W.at d);have hs:(fH p m' ms').run p (W.at d)=.ok (⟨f,args.map m'.eval++oJ (fn.ntmps-(args.map m'.eval).size) aA,[.code c],false⟩,m'::ms') (W.at d):=by
  simp only[fH,yW,iX,if_false,sX,Qr,ho,F8,Br,vA,if_true];refine(uR p _ _ _).trans ?_;rw[x1];simp only[vR,rH,Uj,g4,mE,bL]
 have aY:=zh0 (main:=true) hs [];simp only[Nv] at aY;have he:(fH p m' ms').events p (W.at d) #[]=#[]:=by
  simp only[fH,yW,iX,if_false,sX,Qr,ho,F8,Br,vA,if_true];refine(Xr p _ _ _ #[]).trans ?_;rw[x1,Result.evThen_ok,x2];simp only[rH,Uj,g4];rfl
 rw[he,Ax] at aY;refine⟨_,W.at d,#[],W.heap.size,aY,λe he=>by simp at he,bF _,?_⟩;rw[<-Eg];exact hF K R (W.at d) m' ms' Shun (args.map m'.eval) (cV.at hw d) hm kK ⟨nD.old,nD.rel,nD.new⟩ ⟨hk.os,hk.tape,hk.output,hk.size,hk.block,hk.old⟩ Gw
theorem JO.fin (L:Lv p op gs gs₁ fs){w:aE}{t:Tmp}(hr:x.ret=true)(hf:p.funcs[x.fn]? =some fn)(ht:fn.results=#[.tmp t])(hi:p.inits.idxOf? x.fn=none)(hP:∀K R W v',VR (SF fs) K R (x.tmps.getD t aA) v'->Kp W0 R St W->Post v' W):JL p op gs fs St W0 Post x [] w:=by
 intro K R W m' ms' Shun hw hm kK nD hk;cases kK;refine J.done rfl λd=>?_;have yW:=hm.ret.symm.trans hr;have zjr:p.funcs[m'.fn]? =some fn:=by rw[<-hm.fn];exact hf
 have lU:p.inits.idxOf? m'.fn=none:=by rw[<-hm.fn];exact hi
 refine⟨m'.tmps.getD t aA,#[],?_,λe he=>by simp at he,hP K R (W.at d) _ (hm.tmps.getD t yA) ⟨hk.os,hk.tape,hk.output,hk.size,hk.block,hk.old⟩⟩;have r1:=results_tmp ht m'.tmps p (W.at d);have r2:=Conc.events_results_tmp (P:=p) (w:=W.at d) ht m'.tmps #[];rw[Fm.fr_ret yW];simp[G,stepG,unwind,doReturn,zjr,r1,r2,Ax,Cg,lU]
end
end Go.Mt
