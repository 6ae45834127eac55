/-
  Part 2 of what stands behind the last text.
-/
import Derived.Conc.Token
import Derived.Conc.CompanyDraw
import Derived.Conc.LoneCalls
import Derived.Test.YtfcjiloojkjaeaaGreatDoorRunOffPq1
set_option linter.all false
open Array renaming all_eq_true→zjP,empty_append→zjB,ext'→Iq,forIn_toList→zoX,getElem?_eq_getElem→mK,getElem?_eq_some_iff→dO,getElem?_map→x7,getElem?_push→Wa,getElem?_setIfInBounds_ne→jQ,getElem?_setIfInBounds_self_of_lt→Kd,mem_append→zyo,replicate→nI,size_append→Tj,size_setIfInBounds→zxS,toList_inj→zcx,toList_map→ztR
open Array.mk renaming injEq→zf3
open Bool renaming and_eq_true→fV,false_eq_true→jF,noConfusion→K3,or_eq_true→Eo
open Classical renaming byContradiction→yZ
open Go renaming Addr→bL,CommCase→zh9,CommShape→Nz,Event→oO,Frame→dH,FuncId→aO,Goroutine→bC,HappensBefore→zgl,Item→eE,Machine→zbH,MemOp→Se,Oper→aZ,Operand→cN,Program→bS,ResultVar→Pc,Sem→cU,Tape→jV,Trace→lS,TypeId→aM,Value→aF,World→aE,deafBehind→n7,execOp→aS,undef→aA,yielded→dR
open Go.CommCase.mk renaming injEq→zg6
open Go.CommShape.recv renaming injEq→zzk
open Go.Conc renaming Aside→Kg,Deaf→hY,Deaf_other→Mj,Knows→Nq,act?_old→zaH,aside_setCell→Y9,base→J1,deafBehind_still→zyB,deaf_old→zeN,finishComm_recv→zm9,finishComm_send→zoG,g?_old→Rt,getElem?_stand→zr9,heard_old→zkn,listed→wL,lt_of_act?→zhn,lt_size_of_getElem?→Yc,mem_of_getElem?→zkJ,noRace_append→zsm,ofEvents_eq→X1,offersAt_of_not_blocked→Vl,offersAt_parked_recv→zlj,offersAt_parked_send→znN,ph→zgT,runT_crowd_go→Yq,served→oU,step_solo_go→zaK,touch_mute→zmx,touch_of→zeL,woken_quitsD→zlO
open Go.Conc.Aside renaming refl→Mp
open Go.ConcR renaming WgAt→gA,deafBehind_cons→zrh,mk→oL
open Go.ConcR.WgAt renaming setSm→zJE,setSt→zAI,unique→Ty
open Go.Conv renaming bytesToString→Z6,intToString→zmg,runesToString→zrx
open Go.Deferred renaming ofValue→Bt
open Go.Event renaming mute→zen
open Go.Frame renaming enter→Eg,raise→zuW
open Go.GStep renaming after→B7
open Go.GStep.comm renaming injEq→zyr
open Go.Goroutine renaming again→zhf,offers→zw5
open Go.Goroutine.mk renaming injEq→zsv
open Go.Instr renaming panic→zvW
open Go.Item renaming code→M5,inRegion→qY
open Go.MemAct renaming low→X6,low_mono→zq8,ofEvent→jK,touch?→qO
open Go.MemOp renaming ofEvents→vW
open Go.Mode renaming atomic→zei,plain→zaT
open Go.Op renaming eqGuardIn→Tx,equal→zW,equalIn→C0,maxDepth→Tw
open Go.Question renaming cut→zjU,forced→zl8
open Go.Region renaming schedule→Un,wanted→dD
open Go.Result renaming andThen→uU,evThen_ok→Qx
open Go.Result.ok renaming injEq→rC
open Go.Sem renaming bind→xU,events→wE,events_bind'→Sk,run→bD,run_bind'→rK
open Go.Stepped.next renaming injEq→Vh
open Go.Trace renaming act?→zqO,g?→C3
open Go.Value.chan renaming injEq→zoO
open Go.World renaming cell?→lI,farLoad→yX,farStore→De,noCell→rE,setChan→K9
open Go.stepG renaming exec→Mr
open List renaming cons_append→S4,cons_ne_nil→zff,length→Wm,length_cons→qA,length_nil→rY,mem_cons→jL,mem_cons_of_mem→Hd,mem_toArray→He,not_mem_nil→lZ,range→gN,size_toArray→Ek
open List.cons renaming injEq→Ww
open Nat renaming le_refl→aX,le_trans→eG,lt_irrefl→Ci,lt_or_ge→mX,zero_le→jY
open Option renaming bind_some→vC,getD_some→zG,isNone_some→zrc,map_eq_some_iff→xK,map_some→Ac
open Option.some renaming inj→cE,injEq→fT
open Prod.mk renaming injEq→pJ
open Pure renaming pure→kU
open WellFounded renaming transGen→zIN
namespace Go
def C8{P:Prop}(h:P:=by rw[hp];trivial):P:=h
def P7{P:Prop}(h:P:=by rw[hr];exact .inr (.mk f k)):P:=h
def Kf{P:Prop}(h:P:=by rw[lX];simp):P:=h
def Xx{P:Prop}(h:P:=by rw[hp];exact hB _ bU.refl):P:=h
def zb6{P:Prop}(h:P:=by rw[dM.step];exact aY):P:=h
def zwb{P:Prop}(h:P:=by have:=(h.st.bnd k c (.inl e)).2.2;rw[Mx] at this;cases this):P:=h
def ztI{P:Prop}(h:P:=by have:=(h.st.bnd k c (.inr e)).2.2;rw[Mx] at this;cases this):P:=h
def zax{P:Prop}(h:P:=by simpa using hj):P:=h
def zr8{P:Prop}(h:P:=by rw[(Oa w _).size];exact h.st.grp.live.lt):P:=h
def zuO{P:Prop}(h:P:=by rw[upd_same,hr];exact .inr (.mk f k)):P:=h
def J2{P:Prop}(h:P:=by rfl):P:=h
def zgF{P:Prop}(h:P:=by rw[hp];exact id):P:=h
def zgV{P:Prop}(h:P:=by rw[hp];exact hB):P:=h
def zqH{P:Prop}(h:P:=by rw[jQ (Ne.symm Dn)];simp[Xk]):P:=h
def zho{P:Prop}(h:P:=by simpa using hg.1):P:=h
def zld{P:Prop}(h:P:=by rw[hl];exact id):P:=h
end Go
namespace Go.Mt
open Go.Conc
open Go.ConcR (KK wgBlock WgAt stA smA rd wr mk)
inductive Rk:Type 1
 |mk (ι:Type) (f:ι->Rk)
inductive Rk.Child:Rk->Rk->Prop
 |mk {ι:Type} (f:ι->Rk) (i:ι):Rk.Child (f i) (.mk ι f)
def Rk.wf:WellFounded Rk.Child:=⟨λr=>by
 induction r with
 |mk ι f ih=>exact⟨_,λy h=>by cases h with|mk _ i=>exact ih i⟩⟩
structure cF where
 own:Nat->Prop
 still:Nat->Prop
 pass:Nat->Prop
def cF.grow (τ:cF)(w w':aE):cF:={τ with own:=λb=>τ.own b\/(w.heap.size<=b/\b<w'.heap.size)}
inductive Act (L:Type) where
 |send (c:Nat) (ok:aF->Prop) (pub:aF->List Nat) (nx:aF->L)
 |recv (c:Nat) (ok:aF->Prop) (nx:aF->L) (shut:L)
 |close (c:Nat) (nx:L)
 |add (nx:L)
 |spawn (pub:List Nat) (child nx:L)
 |done
 |wait
 |note (can:L->Prop)
inductive Ph (L:Type) where
 |gone
 |usr (l:L)
 |rel (l:L)
 |l1 (l:L)
 |l2 (l:L)
 |l3 (l:L)
 |quit (l:L)
 |w1 (b:Nat)
 |w2 (v:Nat)
 |w3
 |w4
 |w5
inductive Pj (L:Type) where
 |gone
 |run (l:L)
 |over (l:L)
 |waits
def Ph.proj {L:Type}:Ph L->Pj L
 | .gone=>.gone
 | .usr l=>.run l
 | .rel l| .l1 l| .l2 l| .l3 l| .quit l=>.over l
 | .w1 _| .w2 _| .w3| .w4| .w5=>.waits
abbrev qS:=Nat->Option Bool
def qS.opn (ch:qS)(l:List Nat):qS:=λc=>if c∈l then some false else ch c
structure jP (L:Type) where
 act:L->Act L
 dep:L->aE->Prop
 pend:L->Bool
 cl:L->Prop
 Inv:(Nat->Pj L)->qS->Prop
 got:L->aF->List Nat:=λ_ _=>[]
def jP.Blocked {L:Type}(A:jP L)(q:Nat->Pj L)(ch:qS)(l:L):Prop:=
 match A.act l with
 | .send c _ _ _=>¬∃j l' ok nx sh,q j=.run l'/\A.act l'=.recv c ok nx sh
 | .recv c _ _ _=>ch c=some false/\¬∃j l' ok pub nx,q j=.run l'/\A.act l'=.send c ok pub nx
 |_=>False
def Pj.c {L:Type}:Pj L->Nat
 | .gone=>0
 |_=>1
def num {L:Type}(q:Nat->Pj L):Nat->Nat
 |0=>0
 |n+1=>num q n+(q n).c
def bG {α:Type _}(f:Nat->α)(i:Nat)(x:α):Nat->α:=λa=>if a=i then x else f a
structure jP.Ok {L:Type}(A:jP L):Prop where
 send1:∀q ch i j li lj c ok pub nx pD O6 nH,A.Inv q ch->q i=.run li->q j=.run lj->A.act li=.send c ok pub nx->A.act lj=.send c pD O6 nH->i=j
 recv1:∀q ch i j li lj c ok nx sh pD nH wV,A.Inv q ch->q i=.run li->q j=.run lj->A.act li=.recv c ok nx sh->A.act lj=.recv c pD nH wV->i=j
 sendC:∀q ch i l c ok pub nx,A.Inv q ch->q i=.run l->A.act l=.send c ok pub nx->ch c=some false
 recvC:∀q ch i l c ok nx sh,A.Inv q ch->q i=.run l->A.act l=.recv c ok nx sh->∃b,ch c=some b
 meet:∀q ch i j li lj c ok pub nx pD nH sh v,A.Inv q ch->q i=.run li->q j=.run lj->A.act li=.send c ok pub nx->A.act lj=.recv c pD nH sh->ok v->
  (∀a∈pub v,ch a=none)->pD v/\A.Inv (bG (bG q i (.run (nx v))) j (.run (nH v))) (ch.opn (pub v))
 shut:∀q ch i l c ok nx sh,A.Inv q ch->q i=.run l->A.act l=.recv c ok nx sh->ch c=some true->A.cl l/\A.Inv (bG q i (.run sh)) ch
 close:∀q ch i l c nx,A.Inv q ch->q i=.run l->A.act l=.close c nx->ch c=some false/\A.Inv (bG q i (.run nx)) (bG ch c (some true))
 add:∀q ch i l nx,A.Inv q ch->q i=.run l->A.act l=.add nx->i=0/\A.pend l=false/\A.pend nx=true/\A.Inv (bG q i (.run nx)) ch
 spawn:∀q ch i l pub lc nx k,A.Inv q ch->q i=.run l->A.act l=.spawn pub lc nx->i=0/\A.pend l=true/\A.pend nx=false/\(q k=.gone->k≠0->(∀a∈pub,ch a=none)->A.Inv (bG (bG q i (.run nx)) k (.run lc)) (ch.opn pub))
 done:∀q ch i l,A.Inv q ch->q i=.run l->A.act l=.done->i≠0/\A.Inv (bG q i (.over l)) ch
 note:∀q ch i l can l',A.Inv q ch->q i=.run l->A.act l=.note can->can l'->A.pend l'=A.pend l/\A.Inv (bG q i (.run l')) ch
 wait:∀q ch i l,A.Inv q ch->q i=.run l->A.act l=.wait->i=0/\A.pend l=false/\A.Inv (bG q i .waits) ch
 prog:∀q ch,A.Inv q ch->(∀i l,q i=.run l->A.Blocked q ch l)->q 0=.waits/\∀i l,q i≠ .run l
 pendC:∀l l' c v ok pub nx,A.act l=.send c ok pub nx->l'=nx v->A.pend l'=A.pend l
 pendR:∀l l' c v ok nx sh,A.act l=.recv c ok nx sh->(l'=nx v\/l'=sh)->A.pend l'=A.pend l
 pendX:∀l c nx,A.act l=.close c nx->A.pend nx=A.pend l
 few:∀q ch,A.Inv q ch->∀n,num q n<2000000000
 gotP:∀q ch i j li lj c ok pub nx pD nH sh v,A.Inv q ch->q i=.run li->q j=.run lj->A.act li=.send c ok pub nx->A.act lj=.recv c pD nH sh->ok v->∀a∈A.got lj v,a∈pub v
section
variable {L:Type}(P:bS)(ty:aM)(Wg:Nat)(A:jP L)(Fin:bC->aE->Prop)
def WgLive (w:aE):Prop:=∃st sm,gA ty Wg w st sm
structure bU (τ:cF)(w aI:aE):Prop where
 tape:aI.tape=w.tape
 os:aI.os=w.os
 output:aI.output=w.output
 size:w.heap.size<=aI.heap.size
 keep:∀b,τ.own b\/τ.still b->aI.heap[b]? =w.heap[b]?
 live:WgLive ty Wg w->WgLive ty Wg aI
structure zO (O:Nat->Prop)(w w':aE):Prop where
 tape:w'.tape=w.tape
 os:w'.os=w.os
 output:w'.output=w.output
 size:w.heap.size<=w'.heap.size
 keep:∀b,b<w.heap.size->¬O b->w'.heap[b]? =w.heap[b]?
def EvT (main:Bool)(O Z:Nat->Prop)(e:oO):Prop:=
 match e.loc with
 | .cell a=>O a.block\/(Z a.block/\e.write=false)
 | .obj r=>O r\/(Z r/\e.write=false)
 | .mark (.read a)| .mark (.write a)=>main=true/\a.block=Wg
 | .mark (.acquire _)| .mark (.release _)| .mark (.releaseMerge _)=>False
 | .mark _=>True
 |_=>False
variable (K:Bool->Ph L->Nat->cF->bC->aE->Prop)
def GoG (main:Bool)(ph:Ph L)(d:Nat)(τ:cF)(g:bC)(aI:aE):Prop:=
 ∃g' w' es,stepG P main g aI=.go g' w' es/\g'.status=.running/\zO τ.own aI w'/\(∀e∈es,EvT Wg main (τ.grow aI w').own τ.still e)/\K main ph (n7 d es) (τ.grow aI w') g' w'
def zez (main:Bool)(ph:Ph L)(d:Nat)(τ:cF)(g:bC)(w:aE):Prop:=∀aI,bU ty Wg τ w aI->GoG P Wg K main ph d τ g aI
def za2 (main:Bool)(ph:Ph L)(d:Nat)(τ:cF)(g:bC)(w:aE):Prop:=
 ∀aI,bU ty Wg τ w aI->∃g' es,stepG P main g aI=.go g' aI es/\g'.status=.running/\(∀e∈es,zen e=true)/\K main ph (n7 d es) τ g' aI
def st (v wt:Nat):Value:=.int .u64 ((v:Int)*KK+wt)
def Jq (w:aE)(a:Nat):Prop:=w.heap[a]? =some (.chan 0 #[] false 0 0 false)
def mF (main:Bool)(l:L)(d:Nat)(τ:cF)(g:bC)(w:aE):Prop:=
 match A.act l with
 | .send c ok pub nx=>g.offers=none/\∃v z τ',(∀aI,bU ty Wg τ w aI->stepG P main g aI=.comm g #[scase c v z] true .send aI #[])/\ok v/\(∀b,τ'.own b->τ.own b)/\τ'.still=τ.still/\(∀b,τ'.pass b->τ.pass b\/τ.own b)/\
  (∀a∈pub v,τ.own a/\¬τ'.own a/\¬τ'.still a/\Jq w a)/\K main (.usr (nx v)) d τ' (oU g aA) w
 | .recv c ok nx sh=>g.offers=none/\∃z b,(∀aI,bU ty Wg τ w aI->stepG P main g aI=.comm g #[rcase c z] true (.recv b) aI #[])/\(∀v,ok v->∀aI,bU ty Wg τ w aI->(∀a∈A.got l v,a<aI.heap.size/\¬τ.own a/\¬τ.still a)->K main (.usr (nx v)) d τ (oU g (recvd b v true)) aI)/\(A.cl l->K main (.usr sh) d τ (oU g (recvd b z false)) w)
 | .close c nx=>mayWake P g=true/\τ.pass c/\∀aI,bU ty Wg τ w aI->∀s r,aI.heap[c]? =some (.chan 0 #[] false s r false)->
  ∃g',stepG P main g aI=.go g' (aI.setChan c 0 #[] true s r false) (closeEvents c)/\g'.status=.running/\K main (.usr nx) d τ g' (aI.setChan c 0 #[] true s r false)
 | .add nx=>∀aI,bU ty Wg τ w aI->∀v:Nat,v<2147483647->gA ty Wg aI (v*KK) 0->
  ∃g',stepG P main g aI=.go g' (aI.setCell (stA Wg) (st (v+1) 0)) #[rd (stA Wg),wr (stA Wg)]/\g'.status=.running/\K main (.usr nx) d τ g' (aI.setCell (stA Wg) (st (v+1) 0))
 | .spawn pub lc nx=>d=0/\∀aI,bU ty Wg τ w aI->∃g' child τm τc,stepG P main g aI=.spawn g' child aI #[]/\g'.status=.running/\child.status=.running/\
  (∀b,τm.own b\/τc.own b->τ.own b)/\(∀b,τm.still b\/τc.still b->τ.still b\/τ.own b)/\(∀b,τm.pass b\/τc.pass b->τ.pass b\/τ.own b\/τ.still b)/\
  (∀b,τm.own b->¬τc.own b/\¬τc.still b/\¬τc.pass b)/\(∀b,τc.own b->¬τm.still b/\¬τm.pass b)/\
  (∀a∈pub,τ.own a/\Jq aI a/\¬τm.own a/\¬τm.still a/\¬τc.own a/\¬τc.still a)/\K main (.usr nx) 0 τm g' aI/\K false (.usr lc) 0 τc child aI
 | .done=>d=0/\main=false/\(∀aI,bU ty Wg τ w aI->A.dep l aI)/\∀aI,bU ty Wg τ w aI->∃g',stepG P main g aI=.go g' aI #[mk (.releaseMerge (stA Wg))]/\g'.status=.running/\K main (.rel l) 0 τ g' aI
 | .wait=>∀aI,bU ty Wg τ w aI->∀v:Nat,v<2147483648->gA ty Wg aI (v*KK) 0->∃g',stepG P main g aI=.go g' aI #[rd (stA Wg)]/\g'.status=.running/\
  (v=0->K main .w5 d τ g' aI)/\(v≠0->K main (.w2 v) d τ g' aI)
 | .note can=>∃l',can l'/\K main (.usr l') d τ g w
def zR (main:Bool)(ph:Ph L)(d:Nat)(τ:cF)(g:bC)(w:aE):Prop:=
 match ph with
 | .gone| .quit _=>False
 | .usr l=>mF P ty Wg A K main l d τ g w
 | .rel l=>∀aI,bU ty Wg τ w aI->∀v wt:Nat,wt<=1->v<2147483647->gA ty Wg aI ((v+1:Nat)*KK+wt) 0->
  ∃g',stepG P main g aI=.go g' (aI.setCell (stA Wg) (st v wt)) #[rd (stA Wg),wr (stA Wg)]/\g'.status=.running/\0<d/\
   ((v=0/\wt=1)->K main (.l1 l) d τ g' (aI.setCell (stA Wg) (st v wt)))/\(¬(v=0/\wt=1)->∃q,QuitsD P q d g')
 | .l1 l=>∀aI,bU ty Wg τ w aI->gA ty Wg aI 1 0->∃g',stepG P main g aI=.go g' aI #[rd (stA Wg)]/\g'.status=.running/\0<d/\K main (.l2 l) d τ g' aI
 | .l2 l=>∀aI,bU ty Wg τ w aI->gA ty Wg aI 1 0->∃g',stepG P main g aI=.go g' (aI.setCell (stA Wg) (st 0 0)) #[wr (stA Wg)]/\g'.status=.running/\0<d/\K main (.l3 l) d τ g' (aI.setCell (stA Wg) (st 0 0))
 | .l3 l=>mayWake P g=true/\∀aI,bU ty Wg τ w aI->gA ty Wg aI 0 0->∃g',stepG P main g aI=.go g' (aI.setCell (smA Wg) (.int .u32 1)) (semEvents (smA Wg))/\g'.status=.running/\0<d/\∃q,QuitsD P q d g'
 | .w1 b=>∀aI,bU ty Wg τ w aI->∀v:Nat,v<b->v<2147483648->gA ty Wg aI (v*KK) 0->∃g',stepG P main g aI=.go g' aI #[rd (stA Wg)]/\g'.status=.running/\
  (v=0->K main .w5 d τ g' aI)/\(v≠0->K main (.w2 v) d τ g' aI)
 | .w2 vs=>∀aI,bU ty Wg τ w aI->∀v:Nat,v<2147483648->gA ty Wg aI (v*KK) 0->
  (v=vs->∃g',stepG P main g aI=.go g' (aI.setCell (stA Wg) (st v 1)) #[rd (stA Wg),wr (stA Wg)]/\g'.status=.running/\K main .w3 d τ g' (aI.setCell (stA Wg) (st v 1)))/\
  (v<vs->∃g',stepG P main g aI=.go g' aI #[rd (stA Wg)]/\g'.status=.running/\K main (.w1 vs) d τ g' aI)
 | .w3=>g.offers=none/\∀aI,bU ty Wg τ w aI->((∃x,gA ty Wg aI x 0)->stepG P main g aI=.go {g with status:=.blocked} aI #[])/\
  (gA ty Wg aI 0 1->∃g',stepG P main g aI=.go g' (aI.setCell (smA Wg) (.int .u32 0)) (semEvents (smA Wg))/\g'.status=.running/\K main .w4 d τ g' (aI.setCell (smA Wg) (.int .u32 0)))
 | .w4=>∀aI,bU ty Wg τ w aI->gA ty Wg aI 0 0->∃g',stepG P main g aI=.go g' aI #[rd (stA Wg)]/\g'.status=.running/\K main .w5 d τ g' aI
 | .w5=>d=0/\∀aI,bU ty Wg τ w aI->(∃q ch,A.Inv q ch/\q 0=.waits/\(∀i l,q i≠ .run l)/\∀i l,q i=.over l->A.dep l aI)->
  ∃g',stepG P main g aI=.go g' aI #[mk (.acquire (stA Wg))]/\g'.status=.running/\Fin g' aI
def Oc (main:Bool)(ph:Ph L)(d:Nat)(τ:cF)(g:bC)(w:aE):Prop:=
 match ph with
 | .gone| .quit _=>False
 | .rel _| .l1 _| .l2 _| .l3 _=>za2 P ty Wg K main ph d τ g w
 |_=>zez P ty Wg K main ph d τ g w
end
def oX {L:Type}(P:bS)(ty:aM)(Wg:Nat)(A:jP L)(Fin:bC->aE->Prop):Rk->Bool->Ph L->Nat->cF->bC->aE->Prop
 | .mk ι f,main,ph,d,τ,g,w=>g.status=.running/\
  (
   Oc P ty Wg (λm ph d τ g w=>∃i,oX P ty Wg A Fin (f i) m ph d τ g w) main ph d τ g w\/
   zR P ty Wg A Fin (λm ph d τ g w=>∃i,oX P ty Wg A Fin (f i) m ph d τ g w) main ph d τ g w)
abbrev Cp:=Sum Nat Rk
def Cl:Cp->Cp->Prop:=Sum.Lex (·<·) Rk.Child
def Cl.wf:WellFounded Cl:=by
 have hl:∀n:Nat,Acc Cl (.inl n):=λn=>by
  induction n using Nat.strongRecOn with
  |_ n ih=>exact⟨_,λy h=>by cases h with|inl h=>exact ih _ h⟩
 refine⟨λx=>?_⟩
 cases x with
 |inl n=>exact hl n
 |inr r=>
  induction r using Rk.wf.induction with
  |_ r ih=>exact⟨_,λy h=>by cases h with|inr h=>exact ih _ h|sep=>exact hl _⟩
def Zt (n:Nat)(f' f:Nat->Cp):Prop:=∃i,i<=n/\Cl (f' i) (f i)/\∀j,j<i->f' j=f j
def Zt.wf:∀n,WellFounded (Zt n):=by
 intro n
 induction n with
 |zero=>
  have:∀c,Acc Cl c->∀f:Nat->Cp,f 0=c->Acc (Zt 0) f:=by
   intro c hc
   induction hc with
   |intro c _ ih=>
    intro f hf;refine⟨_,λf' h=>?_⟩;obtain⟨i,hi,hl,_⟩:=h;have:i=0:=aC;subst this;exact ih _ (hf▸hl) f' rfl
  exact⟨λf=>this _ (Cl.wf.apply _) f rfl⟩
 |succ n ih=>
  have:∀zfV,Acc (Zt n) zfV->∀c,Acc Cl c->∀f:Nat->Cp,(∀j,j<=n->f j=zfV j)->f (n+1)=c->Acc (Zt (n+1)) f:=by
   intro zfV zgK
   induction zgK with
   |intro zfV _ zFq=>
    intro c hc
    induction hc with
    |intro c _ zI0=>
     intro f hf Hi;refine⟨_,λf' h=>?_⟩;obtain⟨i,hi,hl,he⟩:=h;rcases mX n i with aN|Cb
     .have:i=n+1:=aC
      subst this;exact zI0 _ (Hi▸hl) f' (λj hj=>(he j aC).trans (hf j hj)) rfl
     .refine zFq f' ⟨i,Cb,(hf i Cb)▸hl,λj hj=>(he j hj).trans (hf j aC)⟩ _ (Cl.wf.apply (f' (n+1))) f' (λj _=>rfl) rfl
  exact⟨λf=>this f (ih.apply f) _ (Cl.wf.apply _) f (λ_ _=>rfl) rfl⟩
abbrev Mu:=Nat×(Nat->Cp)
def Mu.lt (x y:Mu):Prop:=∃i,i<=y.1/\Cl (x.2 i) (y.2 i)/\(∀j,j<i->x.2 j=y.2 j)/\(i≠0->x.1=y.1)
def Mu.wf:WellFounded Mu.lt:=by
 have:∀c,Acc Cl c->∀n (f:Nat->Cp),f 0=c->Acc Mu.lt (n,f):=by
  intro c hc
  induction hc with
  |intro c _ ih=>
   intro n f
   induction f using(Zt.wf n).induction with
   |_ f zBk=>
    intro hf;refine⟨_,λy h=>?_⟩;obtain⟨n',f'⟩:=y;obtain⟨i,hi,hl,he,hn⟩:=h;simp only at hi hl he hn;by_cases h0:i=0
    .subst h0
     exact ih _ (hf▸hl) n' f' rfl
    .have:=hn h0
     subst this;exact zBk f' ⟨i,hi,hl,he⟩ ((he 0 aC).trans hf)
 exact⟨λx=>this _ (Cl.wf.apply _) x.1 x.2 rfl⟩
def run_to {P:bS}{α:Type _}{r:α->α->Prop}(wf:WellFounded r)(Inv:α->zbH->lS->Prop)(Ps:zbH->lS->Prop)
 (h:∀μ m t,Inv μ m t->∃m' ops,stepT P m=(.next m',ops)/\(Ps m' (t++ops)\/∃μ',r μ' μ/\Inv μ' m' (t++ops))):
 ∀μ m t,Inv μ m t->∃n m' t',runNT P n m t=(.next m',t')/\Ps m' t':=by
 intro μ
 induction μ using wf.induction with
 |_ μ ih=>
  intro m t hI;obtain⟨m',ops,hs,hg|⟨μ',hr,zlP⟩⟩:=h μ m t hI
  .exact⟨1,m',t++ops,by simp[runNT,hs],hg⟩
  .obtain⟨n,zIi,t',h1,h2⟩:=ih μ' hr m' (t++ops) zlP
   exact⟨n+1,zIi,t',by rw[runNT_succ_next hs];exact h1,h2⟩
section
variable {L:Type}{P:bS}{ty:aM}{Wg:Nat}{A:jP L}{Fin:bC->aE->Prop}
variable {τ τ':cF}{w aI eU:aE}
def bU.refl:bU ty Wg τ w w:=⟨rfl,rfl,rfl,aX _,λ_ _=>rfl,id⟩
def bU.trans (h:bU ty Wg τ w aI)(k:bU ty Wg τ aI eU):bU ty Wg τ w eU:=
 ⟨k.tape.trans h.tape,k.os.trans h.os,k.output.trans h.output,eG h.size k.size,λb hb=>(k.keep b hb).trans (h.keep b hb),λx=>k.live (h.live x)⟩
def bU.mono (h:bU ty Wg τ w aI)(hs:∀b,τ'.own b\/τ'.still b->τ.own b\/τ.still b):bU ty Wg τ' w aI:=
 ⟨h.tape,h.os,h.output,h.size,λb hb=>h.keep b (hs b hb),h.live⟩
def zu6 (ty:aM)(Wg:Nat)(K:Bool->Ph L->Nat->cF->bC->aE->Prop):Prop:=
 ∀m ph d τ g w aI,K m ph d τ g w->bU ty Wg τ w aI->K m ph d τ g aI
variable {K:Bool->Ph L->Nat->cF->bC->aE->Prop}
def mF.rely (hK:zu6 ty Wg K){main:Bool}{l:L}{d:Nat}{g:bC}(h:mF P ty Wg A K main l d τ g w)(s:bU ty Wg τ w aI):mF P ty Wg A K main l d τ g aI:=by
 unfold mF at*;split
 .rename_i c ok pub nx e
  simp only[e] at h;obtain⟨ho,v,z,τ',h1,h2,h3,h4,Kk,h5,h6⟩:=h
  exact⟨ho,v,z,τ',λeU lU=>h1 eU (s.trans lU),h2,h3,h4,Kk,λa ha=>⟨(h5 a ha).1,(h5 a ha).2.1,(h5 a ha).2.2.1,(s.keep a (.inl (h5 a ha).1)).trans (h5 a ha).2.2.2⟩,
   hK _ _ _ _ _ _ _ h6 (s.mono λb hb=>hb.imp (h3 b) (λx=>h4▸x))⟩
 .rename_i c ok nx sh e
  simp only[e] at h;obtain⟨ho,z,b,h1,h2,h3⟩:=h;exact⟨ho,z,b,λeU lU=>h1 eU (s.trans lU),λv hv eU lU hg=>h2 v hv eU (s.trans lU) hg,λx=>hK _ _ _ _ _ _ _ (h3 x) s⟩
 .rename_i c nx e
  simp only[e] at h;exact⟨h.1,h.2.1,λeU lU=>h.2.2 eU (s.trans lU)⟩
 .rename_i nx e
  simp only[e] at h;exact λeU lU=>h eU (s.trans lU)
 .rename_i pub lc nx e
  simp only[e] at h;exact⟨h.1,λeU lU=>h.2 eU (s.trans lU)⟩
 .rename_i e
  simp only[e] at h;exact⟨h.1,h.2.1,λeU lU=>h.2.2.1 eU (s.trans lU),λeU lU=>h.2.2.2 eU (s.trans lU)⟩
 .rename_i e
  simp only[e] at h;exact λeU lU=>h eU (s.trans lU)
 .rename_i can e
  simp only[e] at h;obtain⟨l',h1,h2⟩:=h;exact⟨l',h1,hK _ _ _ _ _ _ _ h2 s⟩
def zR.rely (hK:zu6 ty Wg K){main:Bool}{ph:Ph L}{d:Nat}{g:bC}(h:zR P ty Wg A Fin K main ph d τ g w)(s:bU ty Wg τ w aI):zR P ty Wg A Fin K main ph d τ g aI:=by
 cases ph with
 |gone=>exact h
 |quit l=>exact h
 |usr l=>exact mF.rely hK h s
 |l3 l=>exact⟨h.1,λeU lU=>h.2 eU (s.trans lU)⟩
 |w3=>exact⟨h.1,λeU lU=>h.2 eU (s.trans lU)⟩
 |w5=>exact⟨h.1,λeU lU=>h.2 eU (s.trans lU)⟩
 |rel l=>exact λeU lU=>h eU (s.trans lU)
 |l1 l=>exact λeU lU=>h eU (s.trans lU)
 |l2 l=>exact λeU lU=>h eU (s.trans lU)
 |w1 b=>exact λeU lU=>h eU (s.trans lU)
 |w2 v=>exact λeU lU=>h eU (s.trans lU)
 |w4=>exact λeU lU=>h eU (s.trans lU)
def Oc.rely {main:Bool}{ph:Ph L}{d:Nat}{g:bC}(h:Oc P ty Wg K main ph d τ g w)(s:bU ty Wg τ w aI):Oc P ty Wg K main ph d τ g aI:=by
 cases ph<;>first|exact h|exact λeU lU=>h eU (s.trans lU)
def oX.rely:∀{r:Rk} {main:Bool} {ph:Ph L} {d:Nat} {τ:cF} {g:bC} {w aI:aE},oX P ty Wg A Fin r main ph d τ g w->bU ty Wg τ w aI->oX P ty Wg A Fin r main ph d τ g aI:=by
 intro r
 induction r with
 |mk ι f ih=>
  intro main ph d τ g w aI h s;refine⟨h.1,h.2.imp (λx=>x.rely s) λx=>x.rely (λm ph d τ g w aI ⟨i,hi⟩ s=>⟨i,ih i hi s⟩) s⟩
end
def nF (l:Loc)(b:Nat):Prop:=match l with| .cell a=>a.block=b| .obj r=>r=b|_=>False
variable {l:Loc}{b:Nat}
def zbt (h:nF l b):l.isMemory=true:=by cases l<;>first|rfl|exact h.elim
def Lq {b':Nat}(h:nF l b)(h':nF l b'):b=b':=by cases l<;>first|exact h.symm.trans h'|exact h.elim
def Handed (Wg:Nat)(t:lS)(i:Nat):Prop:=∃r,t.act? r=some (.mark (.releaseMerge (stA Wg)))/\t.heard r/\Before t i r
variable {i:Nat}
def Handed.app {Wg:Nat}{t:lS}(u:lS)(h:Handed Wg t i):Handed Wg (t++u) i:=by
 obtain⟨r,h1,h2,h3⟩:=h;have hr:=zhn h1;exact⟨r,by rw[zaH hr];exact h1,(zkn hr).2 h2,h3.app u⟩
structure TI (Wg n:Nat)(own pas:Nat->Nat->Prop)(live:Nat->Prop)(Shun:Loc->Prop)(B:Nat)(t:lS):Prop where
 clean:∀said,¬Race said t
 own:∀k b,live k->own k b->∀i a,touchAt t i=some a->nF a.loc b->Nq t k i
 pas:∀k b,live k->pas k b->∀i a,touchAt t i=some a->nF a.loc b->a.write=true->Nq t k i
 grp:∀i a,touchAt t i=some a->nF a.loc Wg->a.kind=.atomic\/(a.kind=.said/\t.g? i=some 0)
 all:∀i a,touchAt t i=some a->a.loc.isMemory=true->(∃k,live k/\Nq t k i)\/Handed Wg t i\/((Shun a.loc\/nF a.loc Wg)/\a.kind=.atomic)
 over:∀i g,t.g? i=some g->g≠0->t.counts i->(∃k,live k/\Nq t k i)\/Handed Wg t i\/∃j,t.g? j=some 0/\zgl t i j
 norel:∀k,t.act? k≠some (.mark (.release (stA Wg)))
 low:∀op∈t,op.act.low B
 above:∀j,n<=j->hY t j=0
section
variable {Wg n:Nat}{own own' pas V4:Nat->Nat->Prop}{live live':Nat->Prop}{Shun:Loc->Prop}{B B':Nat}{t:lS}
def zpU (t:lS)(y:Se):touchAt (t++ #[y]) t.size=y.act.touch? :=touchAt_of aQ
variable {y:Se}{a:Touch}
def Hl {t:lS}{i:Nat}(h:touchAt (t++ #[y]) i=some a):(i<t.size/\touchAt t i=some a)\/(i=t.size/\y.act.touch? =some a):=by
 obtain⟨op,ho,J7⟩:=zeL h;rcases getElem?_append_cases ho with⟨hi,uZ⟩|⟨hi,hu⟩
 .exact .inl ⟨hi,by rw[touchAt_of uZ];exact J7⟩
 .have aN:=Yc ho
  simp only[Tj,Ek,qA,rY] at aN;have:i=t.size:=aC;subst this;rw[zpU] at h;exact .inr ⟨rfl,h⟩
def zwN {B:Nat}{x:MemAct}{b:Nat}(h:x.low B)(ht:x.touch? =some a)(hb:nF a.loc b):b<B:=by
 cases x with
 |access e=>
  simp only[qO,fT] at ht;subst ht;obtain⟨loc,wr,sy⟩:=e;cases loc<;>first|exact hb▸h|exact hb.elim
 |mark m=>cases m<;>simp only[qO,fT,reduceCtorEq] at ht<;>(subst ht;exact hb▸h)
 |_=>simp[qO] at ht
def TI.lowB (h:TI Wg n own pas live Shun B t){i:Nat}{b:Nat}(ht:touchAt t i=some a)(hb:nF a.loc b):b<B:=by
 obtain⟨op,ho,J7⟩:=zeL ht;exact zwN (h.low op (zkJ ho)) J7 hb
def TI.less (h:TI Wg n own pas live Shun B t)(ho:∀k b,live k->own' k b->own k b\/B<=b)(hp:∀k b,live k->V4 k b->pas k b\/own k b\/B<=b)(hB:B<=B'):TI Wg n own' V4 live Shun B' t:=
 ⟨
  h.clean,λk b hk hb i a ha hl=>(ho k b hk hb).elim (λx=>h.own k b hk x i a ha hl) (λx=>absurd (h.lowB ha hl) aC),
  λk b hk hb i a ha hl hw=>(hp k b hk hb).elim (λx=>h.pas k b hk x i a ha hl hw) (λx=>x.elim (λx=>h.own k b hk x i a ha hl) (λx=>absurd (h.lowB ha hl) aC)),
  h.grp,h.all,h.over,h.norel,λop hop=>zq8 hB (h.low op hop),h.above⟩
def zeS {t:lS}{k:Nat}(hg:y.g=k):Nq (t++ #[y]) k t.size:=⟨t.size,y,aQ,hg,.inl rfl⟩
def zfU {t:lS}{i g:Nat}(hg:(t++ #[y]).g? i=some g)(hc:(t++ #[y]).counts i):(i<t.size/\t.g? i=some g/\t.counts i)\/(i=t.size/\y.g=g):=by
 obtain⟨x,hx,sO⟩:=hc;have aN:i<(t++ #[y]).size:=by
  unfold C3 at hg;obtain⟨z,hz,_⟩:=xK.1 hg;exact Yc hz
 simp only[Tj,Ek,qA,rY] at aN;rcases mX i t.size with hi|hi
 .refine .inl ⟨hi,by rw[Rt hi] at hg;exact hg,x,?_,sO.1,sO.2.imp id λz=>(zkn hi).1 z⟩
  rw[zaH hi] at hx;exact hx
 .have:i=t.size:=aC
  subst this;refine .inr ⟨rfl,?_⟩;simpa[C3] using hg
def TI.push (h:TI Wg n own pas live Shun B t){k:Nat}(hk:live k)(sX:k<n)(hg:y.g=k)
 (ht:∀a,y.act.touch? =some a->(∃b,b≠Wg/\nF a.loc b/\(own k b\/(pas k b/\a.write=false))/\∀k',live k'->k'≠k->¬own k' b/\(a.write=true->¬pas k' b))\/(nF a.loc Wg/\(a.kind=.atomic\/(a.kind=.said/\k=0))/\∀k',live k'->¬own k' Wg/\¬pas k' Wg)\/a.loc.isMemory=false)
 (hr:y.act≠ .mark (.release (stA Wg))) (hl:y.act.low B):TI Wg n own pas live Shun B (t++ #[y]):=by
 refine⟨λsaid=>?_,λk' b cP hb i a ha jG=>?_,λk' b cP hb i a ha jG hw=>?_,λi a ha jG=>?_,λi a ha hm=>?_,λi g Ep aT hc=>?_,λi e=>?_,λop hop=>?_,λj hj=>?_⟩
 .refine zsm (g:=k) (h.clean said) (λop hop=>by simp at hop;rw[hop];exact hg) λi a ha op hop b hb hc=>?_
  have:op=y:=by simpa using hop
  subst this;obtain⟨Xu,zkF,jR,fO⟩:=hc;rcases ht b hb with⟨bl,mQ,jG,Qe,_⟩|⟨jG,Hw,_⟩|Gz
  .rcases Qe with Qe|⟨Qe,zG5⟩
   .exact h.own k bl hk Qe i a ha (Xu▸jG)
   .exact h.pas k bl hk Qe i a ha (Xu▸jG) (by simpa[zG5] using jR)
  .have Ec:=h.grp i a ha (Xu▸jG)
   rcases Hw with Hw|⟨Hw,gV⟩
   .rw[Hw] at fO
    rcases Ec with Ec|⟨Ec,_⟩<;>rw[Ec] at fO<;>simp at fO
   .rcases Ec with Ec|⟨Ec,Rw⟩
    .rw[Ec,Hw] at fO;simp at fO
    .obtain⟨zsD,zsj,_⟩:=zeL ha
     have:zsD.g=0:=by simpa[C3,zsj] using Rw
     have:=knows_own zsj;rw[‹zsD.g=0›] at this;exact gV▸this
  .rw[Xu,Gz] at zkF;cases zkF
 .rcases Hl ha with⟨_,fI⟩|⟨rfl,fI⟩
  .exact(h.own k' b cP hb i a fI jG).app _
  .by_cases fO:k'=k
   .exact fO▸zeS hg
   .rcases ht a fI with⟨bl,mQ,Dt,_,fN⟩|⟨Dt,_,fN⟩|Gz
    .exact absurd (Lq jG Dt▸hb) (fN k' cP fO).1
    .exact absurd (Lq jG Dt▸hb) (fN k' cP).1
    .rw[zbt jG] at Gz;cases Gz
 .rcases Hl ha with⟨_,fI⟩|⟨rfl,fI⟩
  .exact(h.pas k' b cP hb i a fI jG hw).app _
  .by_cases fO:k'=k
   .exact fO▸zeS hg
   .rcases ht a fI with⟨bl,mQ,Dt,_,fN⟩|⟨Dt,_,fN⟩|Gz
    .exact absurd (Lq jG Dt▸hb) ((fN k' cP fO).2 hw)
    .exact absurd (Lq jG Dt▸hb) (fN k' cP).2
    .rw[zbt jG] at Gz;cases Gz
 .rcases Hl ha with⟨hi,fI⟩|⟨rfl,fI⟩
  .exact(h.grp i a fI jG).imp id λx=>⟨x.1,by rw[Rt hi];exact x.2⟩
  .rcases ht a fI with⟨bl,mQ,Dt,_,fN⟩|⟨Dt,Hw,_⟩|Gz
   .exact absurd (Lq Dt jG) mQ
   .exact Hw.imp id λx=>⟨x.1,by simp[C3,hg,x.2]⟩
   .rw[zbt jG] at Gz;cases Gz
 .rcases Hl ha with⟨_,fI⟩|⟨rfl,fI⟩
  .rcases h.all i a fI hm with⟨k',cP,hkn'⟩|hh|hs
   .exact .inl ⟨k',cP,hkn'.app _⟩
   .exact .inr (.inl (hh.app _))
   .exact .inr (.inr hs)
  .exact .inl ⟨k,hk,zeS hg⟩
 .rcases zfU Ep hc with⟨hi,hgi',kM⟩|⟨rfl,hgi'⟩
  .rcases h.over i g hgi' aT kM with⟨k',cP,hkn'⟩|hh|⟨j,hj,hb⟩
   .exact .inl ⟨k',cP,hkn'.app _⟩
   .exact .inr (.inl (hh.app _))
   .refine .inr (.inr ⟨j,?_,hb_app _ hb⟩)
    have tW:j<t.size:=by
     unfold C3 at hj;obtain⟨z,hz,_⟩:=xK.1 hj;exact Yc hz
    rw[Rt tW];exact hj
  .exact .inl ⟨k,hk,zeS hg⟩
 .have aN:=zhn e
  simp only[Tj,Ek,qA,rY] at aN;rcases mX i t.size with hi|hi
  .rw[zaH hi] at e;exact h.norel i e
  .have:i=t.size:=aC
   subst this;exact hr (by simpa[zqO] using e)
 .rcases zyo.1 hop with hop|hop
  .exact h.low op hop
  .have:op=y:=by simpa using hop
   exact this▸hl
 .rw[Mj t (g':=k) aC _ (λop hop=>by simp at hop;rw[hop];exact hg)];exact h.above j hj
def TI.idle (h:TI Wg n own pas live Shun B t)(sX:y.g<n)
 (ht:∀a,y.act.touch? =some a->nF a.loc Wg/\a.kind=.atomic/\0<hY t y.g/\∀k',live k'->¬own k' Wg/\¬pas k' Wg)
 (hr:y.act≠ .mark (.release (stA Wg))) (hl:y.act.low B):TI Wg n own pas live Shun B (t++ #[y]):=by
 have zaD:∀a,y.act.touch? =some a->¬(t++ #[y]).heard t.size:=by
  rintro a ha ⟨g,hg,hd⟩;have:y.g=g:=by simpa[C3] using hg
  rw[zeN (aX _),<-this] at hd;have:=(ht a ha).2.2.1;unfold hY at this;omega
 refine⟨λsaid=>?_,λk' b cP hb i a ha jG=>?_,λk' b cP hb i a ha jG hw=>?_,λi a ha jG=>?_,λi a ha hm=>?_,λi g Ep aT hc=>?_,λi e=>?_,λop hop=>?_,λj hj=>?_⟩
 .refine zsm (g:=y.g) (h.clean said) (λop hop=>by simp at hop;rw[hop]) λi a ha op hop b hb hc=>?_
  have:op=y:=by simpa using hop
  subst this;obtain⟨Xu,zkF,jR,fO⟩:=hc;obtain⟨jG,Hw,_,_⟩:=ht b hb;have Ec:=h.grp i a ha (Xu▸jG);rw[Hw] at fO;rcases Ec with Ec|⟨Ec,_⟩<;>rw[Ec] at fO<;>simp at fO
 .rcases Hl ha with⟨_,fI⟩|⟨rfl,fI⟩
  .exact(h.own k' b cP hb i a fI jG).app _
  .obtain⟨Dt,_,_,fN⟩:=ht a fI
   exact absurd (Lq jG Dt▸hb) (fN k' cP).1
 .rcases Hl ha with⟨_,fI⟩|⟨rfl,fI⟩
  .exact(h.pas k' b cP hb i a fI jG hw).app _
  .obtain⟨Dt,_,_,fN⟩:=ht a fI
   exact absurd (Lq jG Dt▸hb) (fN k' cP).2
 .rcases Hl ha with⟨hi,fI⟩|⟨rfl,fI⟩
  .exact(h.grp i a fI jG).imp id λx=>⟨x.1,by rw[Rt hi];exact x.2⟩
  .exact .inl (ht a fI).2.1
 .rcases Hl ha with⟨_,fI⟩|⟨rfl,fI⟩
  .rcases h.all i a fI hm with⟨k',cP,hkn'⟩|hh|hs
   .exact .inl ⟨k',cP,hkn'.app _⟩
   .exact .inr (.inl (hh.app _))
   .exact .inr (.inr hs)
  .exact .inr (.inr ⟨.inr (ht a fI).1,(ht a fI).2.1⟩)
 .obtain⟨x,hx,zf4,zD4⟩:=id hc
  rcases zfU Ep hc with⟨hi,hgi',kM⟩|⟨rfl,hgi'⟩
  .rcases h.over i g hgi' aT kM with⟨k',cP,hkn'⟩|hh|⟨j,hj,hb⟩
   .exact .inl ⟨k',cP,hkn'.app _⟩
   .exact .inr (.inl (hh.app _))
   .refine .inr (.inr ⟨j,?_,hb_app _ hb⟩)
    have tW:j<t.size:=by
     unfold C3 at hj;obtain⟨z,hz,_⟩:=xK.1 hj;exact Yc hz
    rw[Rt tW];exact hj
  .have hy:y.act.touch? =some x:=by rw[<-zpU t y];exact hx
   exact(zD4.elim (λz=>z (ht x hy).2.1) (zaD x hy)).elim
 .have aN:=zhn e
  simp only[Tj,Ek,qA,rY] at aN;rcases mX i t.size with hi|hi
  .rw[zaH hi] at e;exact h.norel i e
  .have:i=t.size:=aC
   subst this;exact hr (by simpa[zqO] using e)
 .rcases zyo.1 hop with hop|hop
  .exact h.low op hop
  .have:op=y:=by simpa using hop
   exact this▸hl
 .rw[Mj t (g':=y.g) aC _ (λop hop=>by simp at hop;rw[hop])];exact h.above j hj
def TI.release (h:TI Wg n own pas live Shun B t){k:Nat}(sX:k<n)(hg:y.g=k)(hy:y.act=.mark (.releaseMerge (stA Wg)))(hd:hY t k=0)
 (znA:Wg<B) (mY:∀j,live' j->live j) (Ji:∀j,live j->live' j\/j=k):TI Wg n own pas live' Shun B (t++ #[y]):=by
 have h1:=h.idle (y:=y) aC (λa ha=>by rw[hy] at ha;simp[qO] at ha) (by rw[hy];simp) (by rw[hy];exact znA);have Dc:(t++ #[y])[t.size]? =some y:=aQ;have Bn:∀i,Nq t k i->Handed Wg (t++ #[y]) i:=λi hi=>
  ⟨t.size,by rw[act?_of Dc,hy],⟨k,by simp[C3,hg],by rw[zeN (aX _)];exact hd⟩,.inr (hi.hb_new (aX _) Dc hg)⟩
 have zfM:Handed Wg (t++ #[y]) t.size:=⟨t.size,by rw[act?_of Dc,hy],⟨k,by simp[C3,hg],by rw[zeN (aX _)];exact hd⟩,.inl rfl⟩;refine⟨h1.clean,λk' b cP=>h1.own k' b (mY k' cP),λk' b cP=>h1.pas k' b (mY k' cP),h1.grp,λi a ha hm=>?_,λi g Ep aT hc=>?_,h1.norel,h1.low,h1.above⟩
 .rcases Hl ha with⟨_,fI⟩|⟨rfl,fI⟩
  .rcases h.all i a fI hm with⟨k',cP,hkn'⟩|hh|hs
   .rcases Ji k' cP with x|rfl
    .exact .inl ⟨k',x,hkn'.app _⟩
    .exact .inr (.inl (Bn i hkn'))
   .exact .inr (.inl (hh.app _))
   .exact .inr (.inr hs)
  .rw[hy] at fI;simp[qO] at fI
 .rcases zfU Ep hc with⟨hi,hgi',kM⟩|⟨rfl,hgi'⟩
  .rcases h.over i g hgi' aT kM with⟨k',cP,hkn'⟩|hh|⟨j,hj,hb⟩
   .rcases Ji k' cP with x|rfl
    .exact .inl ⟨k',x,hkn'.app _⟩
    .exact .inr (.inl (Bn i hkn'))
   .exact .inr (.inl (hh.app _))
   .refine .inr (.inr ⟨j,?_,hb_app _ hb⟩)
    have tW:j<t.size:=by
     unfold C3 at hj;obtain⟨z,hz,_⟩:=xK.1 hj;exact Yc hz
    rw[Rt tW];exact hj
  .exact .inr (.inl zfM)
def TI.fork (h:TI Wg n own pas live Shun B t){x:Se}(h0:live 0)(zyE:0<n)(hx:x.g=0/\x.act=.go n)(hy:y.g=n/\y.act=.start)(hd:hY t 0=0)
 (mY:∀j,live' j↔(live j\/j=n)) (yJ:¬live n) (Mn:∀k b,live k->k≠0->own' k b->own k b) (zhx:∀k b,live k->k≠0->V4 k b->pas k b)
 (ho:∀b,own' 0 b\/own' n b->own 0 b) (hp:∀b,V4 0 b\/V4 n b->own 0 b\/pas 0 b):TI Wg (n+1) own' V4 live' Shun B (t++ #[x,y]):=by
 have zDw:=h.above n (aX _);have e2:t++ #[x,y]=(t++ #[x])++ #[y]:=by apply Iq;simp
 have hn:TI Wg (n+1) own pas live Shun B t:=⟨h.clean,h.own,h.pas,h.grp,h.all,h.over,h.norel,h.low,λj hj=>h.above j aC⟩;have h1:=hn.idle (y:=x) (by rw[hx.1];omega) (λa ha=>by rw[hx.2] at ha;simp[qO] at ha) (by rw[hx.2];simp) (by rw[hx.2];trivial);have h2:=h1.idle (y:=y) (by rw[hy.1];omega) (λa ha=>by rw[hy.2] at ha;simp[qO] at ha) (by rw[hy.2];simp) (by rw[hy.2];trivial);rw[<-e2] at h2;have old:∀{i:Nat} {a:Touch},touchAt (t++ #[x,y]) i=some a->touchAt t i=some a:=by
  intro i a ha;rw[e2] at ha;rcases Hl ha with⟨_,fI⟩|⟨_,fI⟩
  .rcases Hl fI with⟨_,ha''⟩|⟨_,ha''⟩
   .exact ha''
   .rw[hx.2] at ha'';simp[qO] at ha''
  .rw[hy.2] at fI;simp[qO] at fI
 have fk:∀{i:Nat},Nq t 0 i->Nq (t++ #[x,y]) n i:=λ{i} hi=>Go.ConcN.fork_knows hx hy hd zDw hi;refine⟨h2.clean,λk b hk hb i a ha jG=>?_,λk b hk hb i a ha jG hw=>?_,h2.grp,λi a ha hm=>?_,λi g Ep aT hc=>?_,h2.norel,h2.low,h2.above⟩
 .rcases(mY k).1 hk with cP|rfl
  .by_cases gV:k=0
   .subst gV;exact h2.own 0 b h0 (ho b (.inl hb)) i a ha jG
   .exact h2.own k b cP (Mn k b cP gV hb) i a ha jG
  .exact fk (h.own 0 b h0 (ho b (.inr hb)) i a (old ha) jG)
 .rcases(mY k).1 hk with cP|rfl
  .by_cases gV:k=0
   .subst gV
    exact(hp b (.inl hb)).elim (λz=>h2.own 0 b h0 z i a ha jG) (λz=>h2.pas 0 b h0 z i a ha jG hw)
   .exact h2.pas k b cP (zhx k b cP gV hb) i a ha jG hw
  .exact(hp b (.inr hb)).elim (λz=>fk (h.own 0 b h0 z i a (old ha) jG)) (λz=>fk (h.pas 0 b h0 z i a (old ha) jG hw))
 .exact(h2.all i a ha hm).imp (λ⟨k,hk,sX⟩=>⟨k,(mY k).2 (.inl hk),sX⟩) id
 .exact(h2.over i g Ep aT hc).imp (λ⟨k,hk,sX⟩=>⟨k,(mY k).2 (.inl hk),sX⟩) id
def TI.acquire (h:TI Wg n own pas live Shun B t)(zyE:0<n)(hg:y.g=0)(hy:y.act=.mark (.acquire (stA Wg)))(hd:hY t 0=0)(znA:Wg<B)(Ji:∀j,live j->j=0):
 Past (λl=>Shun l\/nF l Wg) B (t++ #[y])/\∀j,n<=j->hY (t++ #[y]) j=0:=by
 have h1:=h.idle (y:=y) aC (λa ha=>by rw[hy] at ha;simp[qO] at ha) (by rw[hy];simp) (by rw[hy];exact znA);have Dc:(t++ #[y])[t.size]? =some y:=aQ;have hh:(t++ #[y]).heard t.size:=⟨0,by simp[C3,hg],by rw[zeN (aX _)];exact hd⟩;have got:∀i,i<t.size->Handed Wg t i->zgl (t++ #[y]) i t.size:=by
  rintro i hi ⟨r,kC,Vx,Rz⟩;have N8:=zhn kC;have zIP:zgl (t++ #[y]) r t.size:=.single (.inr ⟨.marked N8 (.inr (by rw[zaH N8];exact kC)) (by rw[act?_of Dc,hy]) (λk o5 vA=>h1.norel k),(zkn N8).2 Vx,hh⟩);exact(Rz.app _).hb zIP
 have zEY:∀i,zgl (t++ #[y]) i t.size->Nq (t++ #[y]) 0 i:=λi hb=>⟨t.size,y,Dc,hg,.inr hb⟩;refine⟨⟨h1.clean,λi a ha hm=>?_,λi g Ep aT hc=>?_,?_,h1.low⟩,h1.above⟩
 .rcases Hl ha with⟨hi,fI⟩|⟨rfl,fI⟩
  .rcases h.all i a fI hm with⟨k,hk,sX⟩|hh|hs
   .have:=Ji k hk;subst this;exact .inl (sX.app _)
   .exact .inl (zEY i (got i hi hh))
   .exact .inr hs
  .rw[hy] at fI;simp[qO] at fI
 .rcases zfU Ep hc with⟨hi,hgi',kM⟩|⟨rfl,hgi'⟩
  .rcases h.over i g hgi' aT kM with⟨k,hk,sX⟩|hh|⟨j,hj,hb⟩
   .have:=Ji k hk;subst this
    exact⟨t.size,by simp[C3,hg],sX.hb_new (aX _) Dc hg⟩
   .exact⟨t.size,by simp[C3,hg],got i hi hh⟩
   .refine⟨j,?_,hb_app _ hb⟩
    have tW:j<t.size:=by
     unfold C3 at hj;obtain⟨z,hz,_⟩:=xK.1 hj;exact Yc hz
    rw[Rt tW];exact hj
  .exact absurd (hgi'.symm.trans hg) aT
 .rw[Deaf_push];simp[deafStep,hy,hd]
def TI.begin (hP:Past Shun B t)(hB:B<=B')(zcJ:∀j,n<=j->hY t j=0)(mY:∀j,live j↔j=0)(ho:∀b,own 0 b\/pas 0 b->∀l,nF l b->¬Shun l)
 (hW:B<=Wg):TI Wg n own pas live Shun B' t:=by
 have nO:∀{i:Nat} {a:Touch} {b:Nat},touchAt t i=some a->nF a.loc b->b<B:=λ{i a b} ha hb=>by
  obtain⟨op,ho,J7⟩:=zeL ha;exact zwN (hP.seen op (zkJ ho)) J7 hb
 refine⟨hP.clean,λk b hk hb i a ha jG=>?_,λk b hk hb i a ha jG hw=>?_,λi a ha jG=>?_,λi a ha hm=>?_,λi g Ep aT hc=>.inr (.inr (hP.over i g Ep aT hc)),λk e=>?_,λop hop=>zq8 hB (hP.seen op hop),zcJ⟩
 .have:=(mY k).1 hk;subst this
  rcases hP.known i a ha (zbt jG) with x|⟨x,_⟩
  .exact x
  .exact absurd x (ho b (.inl hb) _ jG)
 .have:=(mY k).1 hk;subst this
  rcases hP.known i a ha (zbt jG) with x|⟨x,_⟩
  .exact x
  .exact absurd x (ho b (.inr hb) _ jG)
 .have:=nO ha jG;omega
 .exact(hP.known i a ha hm).imp (λx=>⟨0,(mY 0).2 rfl,x⟩) λx=>.inr ⟨.inl x.1,x.2⟩
 .obtain⟨op,ho,J7⟩:=xK.1 e
  have:=hP.seen op (zkJ ho);rw[J7] at this;simp only[X6,stA] at this;omega
end
def upd_same {α:Type _}(f:Nat->α)(i:Nat)(x:α):bG f i x i=x:=by simp[bG]
def upd_ne {α:Type _}(f:Nat->α){j:Nat}(x:α)(h:j≠i):bG f i x j=f j:=by simp[bG,h]
section
variable {L:Type}
def Ph.live:Ph L->Prop| .usr _| .w1 _| .w2 _| .w3| .w4| .w5=>True|_=>False
def Ph.waits:Ph L->Prop| .w1 _| .w2 _| .w3| .w4| .w5=>True|_=>False
def Ph.pre:Ph L->Bool| .usr _| .rel _=>true|_=>false
def Ph.last:Ph L->Prop| .l1 _| .l2 _| .l3 _=>True|_=>False
structure Td (L:Type) where
 ph:Ph L
 r:Cp
 τ:cF
 g:bC
def oV (p:Nat->Ph L):Nat->Nat
 |0=>0
 |n+1=>oV p n+(if n≠0/\(p n).pre=true then 1 else 0)
def zV (A:jP L)(p:Nat->Ph L):Nat:=match p 0 with| .usr l=>if A.pend l then 1 else 0|_=>0
def vv (A:jP L)(p:Nat->Ph L)(n:Nat):Nat:=oV p n+zV A p
def gS (A:jP L)(ty:aM)(Wg:Nat)(p:Nat->Ph L)(n:Nat)(w:aE):Prop:=
 match p 0 with
 | .usr _=>gA ty Wg w (vv A p n*KK) 0/\∀i,¬(p i).last
 | .w1 b=>gA ty Wg w (vv A p n*KK) 0/\(∀i,¬(p i).last)/\vv A p n<b
 | .w2 vs=>gA ty Wg w (vv A p n*KK) 0/\(∀i,¬(p i).last)/\vv A p n<=vs/\0<vs
 | .w3=>(0<vv A p n/\gA ty Wg w (vv A p n*KK+1) 0/\∀i,¬(p i).last)\/
  (vv A p n=0/\∃i l,(∀j,(p j).last->j=i)/\(((p i=.l1 l\/p i=.l2 l)/\gA ty Wg w 1 0)\/(p i=.l3 l/\gA ty Wg w 0 0)))\/
  (vv A p n=0/\(∀i,¬(p i).last)/\gA ty Wg w 0 1)
 | .w4| .w5=>vv A p n=0/\(∀i,¬(p i).last)/\gA ty Wg w 0 0
 |_=>False
def zqR (p:Nat->Ph L){i n:Nat}(x:Ph L)(h:n<=i):oV (bG p i x) n=oV p n:=by
 induction n with
 |zero=>rfl
 |succ n ih=>simp only[oV,ih aC,upd_ne p x (show n≠i by omega)]
def zes (p:Nat->Ph L)(n:Nat)(x:Ph L):oV (bG p 0 x) n=oV p n:=by
 induction n with
 |zero=>rfl
 |succ n ih=>
  simp only[oV,ih];by_cases h:n=0
  .simp[h]
  .rw[upd_ne p x h]
def zdY (p:Nat->Ph L){i n:Nat}(x:Ph L)(h:i<n)(h0:i≠0):oV (bG p i x) n+(if(p i).pre=true then 1 else 0)=oV p n+(if x.pre=true then 1 else 0):=by
 induction n with
 |zero=>omega
 |succ n ih=>
  simp only[oV];by_cases hi:i=n
  .subst hi
   rw[zqR p x (aX _),upd_same];simp only[ne_eq,h0,not_false_eq_true,true_and];omega
  .have:=ih aC
   rw[upd_ne p x (λe=>hi e.symm)];omega
def pre_le (ph:Ph L)(q:Prop)[Decidable q]:(if q/\ph.pre=true then 1 else 0)<=ph.proj.c:=by
 cases ph<;>simp[Ph.pre,Ph.proj,Pj.c]
 all_goals(split<;>omega)
def zH1 (A:jP L)(p:Nat->Ph L)(n:Nat)(h:0<n):vv A p n<=num (λi=>(p i).proj) n:=by
 have key:∀n,0<n->oV p n+(p 0).proj.c<=num (λi=>(p i).proj) n:=by
  intro n
  induction n with
  |zero=>omega
  |succ n ih=>
   intro _;by_cases hn:n=0
   .subst hn;simp[oV,num]
   .have:=ih aC
    have h2:=pre_le (p n) (n≠0);simp only[oV,num];omega
 have h1:=key n h;have h2:zV A p<=(p 0).proj.c:=by
  unfold zV;cases p 0<;>simp only[Ph.proj,Pj.c]<;>first|omega|(split<;>omega)
 unfold vv;omega
def lV (x g:bC):Prop:=x.status=.running/\x.frame=g.frame/\x.callers=g.callers/\x.dying=g.dying
def lV.self {g:bC}(h:g.status=.running):lV g g:=⟨h,rfl,rfl,rfl⟩
def lV.step {P:bS}{main:Bool}{x g:bC}(h:lV x g)(w:aE):stepG P main x w=stepG P main g w:=stepG_same h.2.1 h.2.2.1 h.2.2.2 w
variable (P:bS)(ty:aM)(Wg:Nat)(A:jP L)(Fin:bC->aE->Prop)
def zd4 (main:Bool)(T:Td L)(x:bC)(w:aE):Prop:=
 ∃l cs sh,T.ph=.usr l/\x=parked T.g cs sh/\(∀aI,bU ty Wg T.τ w aI->stepG P main T.g aI=.comm T.g cs true sh aI #[])/\
  ((∃c ok pub nx v z,A.act l=.send c ok pub nx/\cs=#[scase c v z]/\sh=.send)\/(∃c ok nx s z b,A.act l=.recv c ok nx s/\cs=#[rcase c z]/\sh=.recv b))
def zlJ (T:Td L)(x:bC):Prop:=T.ph=.w3/\x={T.g with status:=.blocked}/\T.g.offers=none
def Sits (i:Nat)(T:Td L)(d:Nat)(x:bC)(w:aE):Prop:=
 match T.ph with
 | .gone| .quit _=>∃q,T.r=.inl q/\QuitsD P q d x
 |_=>∃r,T.r=.inr r/\oX P ty Wg A Fin r (i==0) T.ph d T.τ T.g w/\(lV x T.g\/zd4 P ty Wg A (i==0) T x w\/zlJ T x)
def Ph.leaves:Ph L->Prop| .gone| .quit _=>True|_=>False
def Gm {P:bS}{ty:aM}{Wg:Nat}{A:jP L}{Fin:bC->aE->Prop}{i:Nat}{T:Td L}{d:Nat}{x:bC}{w:aE}(h:T.ph.leaves):
 Sits P ty Wg A Fin i T d x w↔∃q,T.r=.inl q/\QuitsD P q d x:=by
 obtain⟨ph,r,τ,g⟩:=T;cases ph<;>first|exact Iff.rfl|exact h.elim
def pF {P:bS}{ty:aM}{Wg:Nat}{A:jP L}{Fin:bC->aE->Prop}{i:Nat}{T:Td L}{d:Nat}{x:bC}{w:aE}(h:¬T.ph.leaves):
 Sits P ty Wg A Fin i T d x w↔∃r,T.r=.inr r/\oX P ty Wg A Fin r (i==0) T.ph d T.τ T.g w/\(lV x T.g\/zd4 P ty Wg A (i==0) T x w\/zlJ T x):=by
 obtain⟨ph,r,τ,g⟩:=T;cases ph<;>first|exact Iff.rfl|exact absurd trivial h
variable {P:bS}{ty:aM}{Wg:Nat}{A:jP L}{Fin:bC->aE->Prop}
def ztK (a a' g:bC)(cs:Array zh9)(sh:Nz)(w:aE):woken P a a' w (parked g cs sh)=parked g cs sh\/woken P a a' w (parked g cs sh)={parked g cs sh with status:=.running}:=by
 unfold woken;split
 .unfold zhf
  simp only[parked];split
  .exact .inr rfl
  .exact .inl rfl
 .exact .inl rfl
def woken_running {a a' x:bC}{w:aE}(h:x.status=.running):woken P a a' w x=x:=woken_run h
def Sits.other {i:Nat}{T:Td L}{d:Nat}{x:bC}{w w':aE}(h:Sits P ty Wg A Fin i T d x w)(s:bU ty Wg T.τ w w')(a a':bC):Sits P ty Wg A Fin i T d (woken P a a' w' x) w':=by
 by_cases hl:T.ph.leaves
 .rw[Gm hl] at h⊢
  obtain⟨q,hq,hQ⟩:=h;exact⟨q,hq,by rw[zlO hQ];exact hQ⟩
 .rw[pF hl] at h⊢
  obtain⟨r,hr,hB,hx⟩:=h;refine⟨r,hr,hB.rely s,?_⟩;rcases hx with hx|⟨l,cs,sh,h1,rfl,h3,h4⟩|⟨h1,rfl,h3⟩
  .rw[woken_running hx.1];exact .inl hx
  .rcases ztK (P:=P) a a' T.g cs sh w' with e|e
   .rw[e];exact .inr (.inl ⟨l,cs,sh,h1,rfl,λaI iQ=>h3 aI (s.trans iQ),h4⟩)
   .rw[e];exact .inl ⟨rfl,rfl,rfl,rfl⟩
  .unfold woken
   split
   .left
    simp only[zhf,h3];exact⟨rfl,rfl,rfl,rfl⟩
   .exact .inr (.inr ⟨h1,rfl,h3⟩)
def Sits.rely {i:Nat}{T:Td L}{d:Nat}{x:bC}{w w':aE}(h:Sits P ty Wg A Fin i T d x w)(s:bU ty Wg T.τ w w'):Sits P ty Wg A Fin i T d x w':=by
 by_cases hl:T.ph.leaves
 .rw[Gm hl] at h⊢;exact h
 .rw[pF hl] at h⊢
  obtain⟨r,hr,hB,hx⟩:=h;refine⟨r,hr,hB.rely s,hx.imp id (Or.imp ?_ id)⟩;rintro⟨l,cs,sh,h1,h2,h3,h4⟩;exact⟨l,cs,sh,h1,h2,λaI iQ=>h3 aI (s.trans iQ),h4⟩
def Sits.status {i:Nat}{T:Td L}{d:Nat}{x:bC}{w:aE}(h:Sits P ty Wg A Fin i T d x w):x.status=.running\/x.status=.finished\/x.status=.blocked:=by
 by_cases hl:T.ph.leaves
 .rw[Gm hl] at h
  obtain⟨q,hq,hQ⟩:=h;exact hQ.status.imp id .inl
 .rw[pF hl] at h
  obtain⟨r,hr,hB,hx|⟨l,cs,sh,h1,rfl,h3,h4⟩|⟨h1,rfl,h3⟩⟩:=h
  .exact .inl hx.1
  .exact .inr (.inr rfl)
  .exact .inr (.inr rfl)
structure Stat (n:Nat)(w:aE)(T:Nat->Td L)(ch:qS):Prop where
 n0:0<n
 ou:∀i,n<=i->(T i).ph=.gone
 role0:(T 0).ph.live
 role:∀i,i≠0->¬(T i).ph.waits
 nil:∀i,(T i).ph=.gone->∀b,¬(T i).τ.own b/\¬(T i).τ.still b/\¬(T i).τ.pass b
 sep:∀i j b,i≠j->(T i).τ.own b->¬(T j).τ.own b/\¬(T j).τ.still b/\¬(T j).τ.pass b
 bnd:∀i b,(T i).τ.own b\/(T i).τ.still b->b<w.heap.size/\b≠Wg/\ch b=none
 pas:∀i b,(T i).τ.pass b->b<w.heap.size/\b≠Wg
 depo:∀i l,(T i).ph.proj=.over l->∀aI,bU ty Wg (T i).τ w aI->A.dep l aI
 chan:∀c b,ch c=some b->c≠Wg/\∃s r,w.heap[c]? =some (.chan 0 #[] b s r false)
 grp:gS A ty Wg (λi=>(T i).ph) n w
 inv:A.Inv (λi=>(T i).ph.proj) ch
structure Ey (gs:Array bC)(w:aE)(t:lS)(T:Nat->Td L)(ch:qS)(Shun:Loc->Prop):Prop where
 sit:∀(i:Nat) (x:bC),gs[i]? =some x->Sits P ty Wg A Fin i (T i) (hY t i) x w
 slp:∀(i j:Nat) (gi gj:bC) (c:Nat) (v z z':aF) (sh wV:Nz),gs[i]? =some (parked gi #[scase c v z] sh)->gs[j]? =some (parked gj #[rcase c z'] wV)->False
 slpC:∀(i:Nat) (gi:bC) (c:Nat) (z:aF) (sh:Nz),gs[i]? =some (parked gi #[rcase c z] sh)->ch c≠some true
 slpW:∀(x:bC),gs[0]? =some x->(T 0).ph=.w3->x.status=.blocked->¬gA ty Wg w 0 1
 tr:TI Wg gs.size (λi=>(T i).τ.own) (λi b=>(T i).τ.still b\/(T i).τ.pass b) (λi=>(T i).ph.live) Shun w.heap.size t
def N2 (g:bC):Bool:=match g.status with| .running=>true|_=>false
def mu (gs:Array bC)(T:Nat->Td L):Mu:=(gs.size,λj=>if j<gs.size then(T j).r else .inl (gs.countP N2))
end
section
variable {L:Type}{P:bS}{ty:aM}{Wg:Nat}{A:jP L}{Fin:bC->aE->Prop}
variable {fn:aO}{pos:String}{es:Array oO}
def zA8 {g:Nat}{op:Se}(h:op∈vW g fn pos es):op.g=g:=by
 rw[X1] at h;obtain⟨e,he,rfl⟩:=Array.mem_map.1 h;rfl
def OkL (Wg:Nat)(own pas:Nat->Prop)(k B:Nat)(e:oO):Prop:=
 (∀a,(jK e).touch? =some a->(∃b,b≠Wg/\nF a.loc b/\(own b\/(pas b/\a.write=false)))\/(nF a.loc Wg/\(a.kind=.atomic\/(a.kind=.said/\k=0)))\/a.loc.isMemory=false)/\
 jK e≠ .mark (.release (stA Wg))/\(jK e).low B
def TI.events {n:Nat}{own pas:Nat->Nat->Prop}{live:Nat->Prop}{Shun:Loc->Prop}{B:Nat}{k:Nat}(hk:live k)(sX:k<n)
 (hs:∀k' b,live k'->k'≠k->own k b->¬own k' b/\¬pas k' b) (hp:∀k' b,live k'->k'≠k->pas k b->¬own k' b) (hW:∀k',live k'->¬own k' Wg/\¬pas k' Wg)
 (fn:aO) (pos:String):∀(es:List oO) {t:lS},TI Wg n own pas live Shun B t->(∀e∈es,OkL Wg (own k) (pas k) k B e)->TI Wg n own pas live Shun B (t++vW k fn pos es.toArray)
 |[],t,h,_=>by simpa[vW] using h
 |e::es,t,h,x3=>by
  have e1:t++vW k fn pos (e::es).toArray=(t++ #[{g:=k,fn,pos,act:=.ofEvent e}])++vW k fn pos es.toArray:=by
   rw[X1,X1];apply Iq;simp
  rw[e1];obtain⟨h1,h2,h3⟩:=x3 e aQ;refine TI.events hk sX hs hp hW fn pos es (h.push hk sX rfl (λa ha=>?_) h2 h3) λe' Nt=>x3 e' (by simp[Nt]);rcases h1 a ha with⟨b,hb,jG,Qe⟩|⟨jG,Hw⟩|hm
  .refine .inl ⟨b,hb,jG,Qe,λk' cP aT=>?_⟩
   rcases Qe with ho|⟨zhx,hw⟩
   .exact⟨(hs k' b cP aT ho).1,λ_=>(hs k' b cP aT ho).2⟩
   .exact⟨hp k' b cP aT zhx,λx=>by rw[hw] at x;cases x⟩
  .exact .inr (.inl ⟨jG,Hw,hW⟩)
  .exact .inr (.inr hm)
variable {e:oO}
def okL_evT {own still pas:Nat->Prop}{k B:Nat}(h:EvT Wg (k==0) own still e)(Il:∀b,still b->pas b)(hb:∀b,own b\/still b->b<B/\b≠Wg)(hW:Wg<B):OkL Wg own pas k B e:=by
 obtain⟨loc,w,sy⟩:=e
 cases loc with
 |cell a=>
  simp only[EvT] at h;refine⟨λx hx=>?_,by simp[jK],?_⟩
  .simp only[jK,qO,fT] at hx
   subst hx;exact .inl ⟨a.block,(hb _ (h.imp id (·.1))).2,rfl,h.imp id λx=>⟨Il _ x.1,x.2⟩⟩
  .exact(hb _ (h.imp id (·.1))).1
 |obj r=>
  simp only[EvT] at h
  cases w<;>cases sy<;>refine⟨λx hx=>?_,by simp[jK],(hb _ (h.imp id (·.1))).1⟩<;>simp only[jK,qO,fT,reduceCtorEq] at hx<;>
   (subst hx;exact .inl ⟨r,(hb _ (h.imp id (·.1))).2,rfl,h.imp id λx=>⟨Il _ x.1,x.2⟩⟩)
 |output=>exact h.elim
 |goroutines=>exact h.elim
 |mark m=>
  cases m<;>simp only[EvT] at h<;>try exact h.elim
  case read a=>
   refine⟨λx hx=>?_,by simp[jK],by simpa[jK,X6,h.2] using hW⟩;simp only[jK,qO,fT] at hx;subst hx;exact .inr (.inl ⟨h.2,.inr ⟨rfl,by simpa using h.1⟩⟩)
  case write a=>
   refine⟨λx hx=>?_,by simp[jK],by simpa[jK,X6,h.2] using hW⟩;simp only[jK,qO,fT] at hx;subst hx;exact .inr (.inl ⟨h.2,.inr ⟨rfl,by simpa using h.1⟩⟩)
  all_goals exact⟨λx hx=>by simp[jK,qO] at hx,by simp[jK],by simp[jK,X6]⟩
def zha {own pas:Nat->Prop}{k B:Nat}{a:bL}{b:Bool}(ha:a.block=Wg)(hW:Wg<B):OkL Wg own pas k B ⟨.cell a,b,true⟩:=by
 refine⟨λx hx=>?_,by simp[jK],by simpa[jK,X6,Loc.low,ha] using hW⟩;simp only[jK,qO,fT] at hx;subst hx;exact .inr (.inl ⟨ha,.inl rfl⟩)
def zhi {own pas:Nat->Prop}{k B:Nat}(h:e.mute=true):OkL Wg own pas k B e:=by
 refine⟨λx hx=>(by rw[zmx h] at hx;cases hx),?_,low_mute h B⟩;obtain⟨loc,w,sy⟩:=e;cases loc<;>simp_all [zen];rename_i m;cases m<;>simp_all [jK]
def TI.deafs {n:Nat}{own pas:Nat->Nat->Prop}{live:Nat->Prop}{Shun:Loc->Prop}{B:Nat}{k:Nat}(sX:k<n)(hW:∀k',live k'->¬own k' Wg/\¬pas k' Wg)
 (fn:aO) (pos:String):∀(es:List oO) {t:lS},TI Wg n own pas live Shun B t->
  (∀(l r:List oO) (e:oO),es=l++e::r->(∀a,(jK e).touch? =some a->nF a.loc Wg/\a.kind=.atomic/\0<n7 (hY t k) l.toArray)/\jK e≠ .mark (.release (stA Wg))/\(jK e).low B)->
  TI Wg n own pas live Shun B (t++vW k fn pos es.toArray)
 |[],t,h,_=>by simpa[vW] using h
 |e::es,t,h,x3=>by
  have e1:t++vW k fn pos (e::es).toArray=(t++ #[{g:=k,fn,pos,act:=.ofEvent e}])++vW k fn pos es.toArray:=by
   rw[X1,X1];apply Iq;simp
  rw[e1];obtain⟨h1,h2,h3⟩:=x3 [] es e rfl;refine TI.deafs sX hW fn pos es (h.idle sX (λa ha=>⟨(h1 a ha).1,(h1 a ha).2.1,(h1 a ha).2.2,hW⟩) h2 h3) λl r e' Nt=>?_;have hd:hY (t++ #[({g:=k,fn,pos,act:=.ofEvent e}:Se)]) k=n7 (hY t k) #[e]:=by
   have:=Deaf_own t k fn pos #[e];rw[X1] at this;simpa using this
  have:=x3 (e::l) r e' (by rw[Nt];rfl);rw[hd];refine⟨λa ha=>⟨(this.1 a ha).1,(this.1 a ha).2.1,?_⟩,this.2⟩;have h5:=(this.1 a ha).2.2
  rwa [zrh] at h5
variable {t:lS}
def TI.mutes {n:Nat}{own pas:Nat->Nat->Prop}{live:Nat->Prop}{Shun:Loc->Prop}{B:Nat}{k:Nat}(h:TI Wg n own pas live Shun B t)(sX:k<n)(hW:∀k',live k'->¬own k' Wg/\¬pas k' Wg)
 (fn:aO) (pos:String)  (x3:∀e∈es,zen e=true):TI Wg n own pas live Shun B (t++vW k fn pos es):=by
 obtain⟨l⟩:=es;refine h.deafs sX hW fn pos l λx r e he=>?_;have hm:=x3 e (by simp[he]);have:=zhi (Wg:=Wg) (own:=own k) (pas:=pas k) (k:=k) (B:=B) hm;exact⟨λa ha=>(by rw[zmx hm] at ha;cases ha),this.2.1,this.2.2⟩
def Yv {gs gs':Array bC}{T T':Nat->Td L}{i:Nat}(hs:i≠0->gs'.size=gs.size)(h0:0<gs'.size)(hi:i<gs.size)(gT:i<gs'.size)(hc:Cl (T' i).r (T i).r)(he:∀j,j<i->(T' j).r=(T j).r):Mu.lt (mu gs' T') (mu gs T):=by
 refine⟨i,by simp only[mu];omega,?_,λj hj=>?_,λh=>by simpa[mu] using hs h⟩
 .simp only[mu,if_pos hi,if_pos gT];exact hc
 .simp only[mu,if_pos (show j<gs.size by omega),if_pos (show j<gs'.size by omega)];exact he j hj
def mu_dec' {gs gs':Array bC}{T:Nat->Td L}(hs:gs'.size=gs.size)(hc:gs'.countP N2<gs.countP N2):Mu.lt (mu gs' T) (mu gs T):=by
 refine⟨gs.size,by simp[mu],?_,λj hj=>?_,λh=>by simpa[mu] using hs⟩
 .simp only[mu,hs,Ci,if_false]
  exact .inl hc
 .simp only[mu,hs,if_pos hj]
def Ey.go {gs:Array bC}{w w':aE}{T:Nat->Td L}{ch tT:qS}{Shun:Loc->Prop}(h:Ey (P:=P) (ty:=ty) (Wg:=Wg) (A:=A) (Fin:=Fin) gs w t T ch Shun){i:Nat}{x g':bC}{Ti:Td L}
 (hi:gs[i]? =some x) (zkt:Sits P ty Wg A Fin i Ti (n7 (hY t i) es) g' w') (nK:g'.status≠ .blocked) (zj9:∀j,j≠i->bU ty Wg (T j).τ w w')
 (hC:∀(j:Nat) (gj:bC) (c:Nat) (z:aF) (sh:Nz),gs[j]? =some (parked gj #[rcase c z] sh)->woken P x g' w' (parked gj #[rcase c z] sh)=parked gj #[rcase c z] sh->tT c≠some true)
 (hW:i≠0->∀x0,gs[0]? =some x0->(T 0).ph=.w3->x0.status=.blocked->(woken P x g' w' x0).status=.blocked->¬gA ty Wg w' 0 1)
 (zlG:TI Wg gs.size (λk=>(bG T i Ti k).τ.own) (λk b=>(bG T i Ti k).τ.still b\/(bG T i Ti k).τ.pass b) (λk=>(bG T i Ti k).ph.live) Shun w'.heap.size (t++vW i fn pos es)):
 Ey (P:=P) (ty:=ty) (Wg:=Wg) (A:=A) (Fin:=Fin) ((gs.map (woken P x g' w')).setIfInBounds i g') w' (t++vW i fn pos es) (bG T i Ti) tT Shun:=by
 have aN:=(dO.1 hi).1;have get:∀(j:Nat) (y:bC),((gs.map (woken P x g' w')).setIfInBounds i g')[j]? =some y->(j=i/\y=g')\/(j≠i/\∃y0,gs[j]? =some y0/\y=woken P x g' w' y0):=by
  intro j y hj;by_cases eO:i=j
  .subst eO
   rw[Kd (by simpa using aN)] at hj;exact .inl ⟨rfl,(cE hj).symm⟩
  .rw[jQ eO,x7] at hj
   obtain⟨y0,h0,rfl⟩:=xK.1 hj;exact .inr ⟨λe=>eO e.symm,y0,h0,rfl⟩
 have back:∀(j:Nat) (gj:bC) (cs:Array zh9) (sh:Nz),((gs.map (woken P x g' w')).setIfInBounds i g')[j]? =some (parked gj cs sh)->gs[j]? =some (parked gj cs sh)/\woken P x g' w' (parked gj cs sh)=parked gj cs sh:=by
  intro j gj cs sh hj;rcases get j _ hj with⟨_,e⟩|⟨aT,y0,h0,e⟩
  .exact absurd (by rw[<-e];rfl) nK
  .have hs:=h.sit j y0 h0
   by_cases hl:(T j).ph.leaves
   .rw[Gm hl] at hs
    obtain⟨q,_,hQ⟩:=hs;rw[zlO hQ] at e;have:=hQ.status;rw[<-e] at this;simp[parked] at this
   .rw[pF hl] at hs
    obtain⟨r,_,_,hx|⟨l,Xd,wV,_,rfl,_,_⟩|⟨_,rfl,ho⟩⟩:=hs
    .rw[woken_running hx.1] at e
     have:=hx.1;rw[<-e] at this;simp[parked] at this
    .rcases ztK (P:=P) x g' (T j).g Xd wV w' with e2|e2
     .rw[e2] at e;rw[h0,e,e2];exact⟨rfl,rfl⟩
     .rw[e2] at e
      have:(parked gj cs sh).status=.running:=by rw[e]
      simp[parked] at this
    .have:(parked gj cs sh).offers=none:=by
      rw[e];unfold woken;split
      .simp[zhf,ho]
      .exact ho
     simp[parked] at this
 refine⟨λj y hj=>?_,λa b ga gb c v z z' sh wV ha hb=>?_,λj gj c z sh hj=>?_,λy hy xI aY=>?_,by simpa using zlG⟩
 .rcases get j y hj with⟨rfl,rfl⟩|⟨aT,y0,h0,rfl⟩
  .rw[upd_same,Deaf_own];exact zkt
  .rw[upd_ne T Ti aT,Mj t (g':=i) (λe=>aT e.symm) (vW i fn pos es) (λop hop=>zA8 hop)]
   exact(h.sit j y0 h0).other (zj9 j aT) _ _
 .exact h.slp a b ga gb c v z z' sh wV (back a ga _ _ ha).1 (back b gb _ _ hb).1
 .exact hC j gj c z sh (back j gj _ _ hj).1 (back j gj _ _ hj).2
 .rcases get 0 y hy with⟨e,rfl⟩|⟨aT,y0,h0,rfl⟩
  .exact absurd aY nK
  .rw[upd_ne T Ti aT] at xI
   have hb:y0.status=.blocked:=by
    rcases(h.sit 0 y0 h0).status with hs|hs|hs
    .rw[woken_running hs,hs] at aY;cases aY
    .unfold woken at aY
     split at aY
     .rw[again_running _ (.inr hs),hs] at aY;cases aY
     .rw[hs] at aY;cases aY
    .exact hs
   exact hW (λe=>aT e.symm) y0 h0 xI hb aY
end
section
variable {L:Type}{P:bS}{ty:aM}{Wg:Nat}{A:jP L}{Fin:bC->aE->Prop}
def bU.of_aside {τ:cF}{c:Nat}{w w':aE}(h:Kg c w w')(hc:¬τ.own c/\¬τ.still c)(hl:WgLive ty Wg w->WgLive ty Wg w'):bU ty Wg τ w w':=
 ⟨h.tape,h.os,h.output,Nat.le_of_eq h.size.symm,λb hb=>h.block b (λe=>by subst e;exact hb.elim hc.1 hc.2),hl⟩
def Xq {c:Nat}{w w':aE}(h:Kg c w w')(hc:c≠Wg):WgLive ty Wg w->WgLive ty Wg w':=λ⟨a,b,x⟩=>⟨a,b,(h.block Wg (λe=>hc e.symm)).trans x⟩
def gS.live {p:Nat->Ph L}{n:Nat}{w:aE}(h:gS A ty Wg p n w):WgLive ty Wg w:=by
 unfold gS at h;split at h
 .exact⟨_,_,h.1⟩
 .exact⟨_,_,h.1⟩
 .exact⟨_,_,h.1⟩
 .rcases h with⟨_,h,_⟩|⟨_,_,_,_,⟨_,h⟩|⟨_,h⟩⟩|⟨_,_,h⟩<;>exact⟨_,_,h⟩
 .exact⟨_,_,h.2.2⟩
 .exact⟨_,_,h.2.2⟩
 .exact h.elim
def WgLive.lt {w:aE}(h:WgLive ty Wg w):Wg<w.heap.size:=by
 obtain⟨_,_,h⟩:=h;exact(dO.1 h).1
def gS.of_block {p:Nat->Ph L}{n:Nat}{w w':aE}(h:gS A ty Wg p n w)(e:w'.heap[Wg]? =w.heap[Wg]?):gS A ty Wg p n w':=by
 have key:∀a b,gA ty Wg w a b->gA ty Wg w' a b:=λa b x=>e.trans x;unfold gS at*;split
 all_goals(rename_i hp;simp only[hp] at h)
 .exact⟨key _ _ h.1,h.2⟩
 .exact⟨key _ _ h.1,h.2⟩
 .exact⟨key _ _ h.1,h.2⟩
 .exact h.imp (λx=>⟨x.1,key _ _ x.2.1,x.2.2⟩) (Or.imp (λ⟨a,i,l,b,c⟩=>⟨a,i,l,b,c.imp (λx=>⟨x.1,key _ _ x.2⟩) (λx=>⟨x.1,key _ _ x.2⟩)⟩) λx=>⟨x.1,x.2.1,key _ _ x.2.2⟩)
 .exact⟨h.1,h.2.1,key _ _ h.2.2⟩
 .exact⟨h.1,h.2.1,key _ _ h.2.2⟩
def Y1 (T:Nat->Td L)(i:Nat)(Ti:Td L):(λj=>(bG T i Ti j).ph.proj)=bG (λj=>(T j).ph.proj) i Ti.ph.proj:=by
 funext j;by_cases h:j=i
 .subst h;simp[upd_same]
 .simp[upd_ne _ _ h]
def Y6 (T:Nat->Td L)(i:Nat)(Ti:Td L):(λj=>(bG T i Ti j).ph)=bG (λj=>(T j).ph) i Ti.ph:=by
 funext j;by_cases h:j=i
 .subst h;simp[upd_same]
 .simp[upd_ne _ _ h]
def zfS {α:Type _}(f:Nat->α)(i:Nat):bG f i (f i)=f:=by
 funext j;by_cases h:j=i
 .subst h;simp[upd_same]
 .simp[upd_ne _ _ h]
variable {ch:qS}
def Stat.same {n:Nat}{w:aE}{T T':Nat->Td L}(h:Stat (ty:=ty) (Wg:=Wg) (A:=A) n w T ch)(hp:∀j,(T' j).ph=(T j).ph)(ht:∀j,(T' j).τ=(T j).τ):Stat (ty:=ty) (Wg:=Wg) (A:=A) n w T' ch:=by
 have e1:(λj=>(T' j).ph)=λj=>(T j).ph:=funext hp;have e2:(λj=>(T' j).ph.proj)=λj=>(T j).ph.proj:=funext λj=>by rw[hp]
 refine⟨h.n0,λi hi=>(hp i).trans (h.ou i hi),by rw[hp];exact h.role0,λi hi=>by rw[hp];exact h.role i hi,λi hi=>by rw[ht];rw[hp] at hi;exact h.nil i hi,λi j b rD hb=>by rw[ht] at hb⊢;exact h.sep i j b rD hb,
  λi b hb=>by rw[ht] at hb;exact h.bnd i b hb,λi b hb=>by rw[ht] at hb;exact h.pas i b hb,λi l hi=>by rw[ht];rw[hp] at hi;exact h.depo i l hi,h.chan,by rw[e1];exact h.grp,by rw[e2];exact h.inv⟩
def Stat.suf {n:Nat}{w w':aE}{T:Nat->Td L}(h:Stat (ty:=ty) (Wg:=Wg) (A:=A) n w T ch){i:Nat}(g:zO (T i).τ.own w w'){j:Nat}(hj:j≠i):bU ty Wg (T j).τ w w':=by
 have hl:WgLive ty Wg w->WgLive ty Wg w':=λx=>by
  obtain⟨a,b,hx⟩:=id x;exact⟨a,b,(g.keep Wg x.lt λe=>((h.bnd i Wg (.inl e)).2.1 rfl)).trans hx⟩
 refine⟨g.tape,g.os,g.output,g.size,λb hb=>g.keep b (h.bnd j b hb).1 λe=>?_,hl⟩;have:=h.sep i j b (λe=>hj e.symm) e;exact hb.elim this.1 this.2.1
def Stat.grow {n:Nat}{w w':aE}{T:Nat->Td L}(h:Stat (ty:=ty) (Wg:=Wg) (A:=A) n w T ch){i:Nat}(mY:(T i).ph.live)(g:zO (T i).τ.own w w')(r:Cp)(g':bC):
 Stat (ty:=ty) (Wg:=Wg) (A:=A) n w' (bG T i ⟨(T i).ph,r,(T i).τ.grow w w',g'⟩) ch:=by
 have hp:∀j,(bG T i ⟨(T i).ph,r,(T i).τ.grow w w',g'⟩ j).ph=(T j).ph:=λj=>by
  by_cases hj:j=i
  .subst hj;simp[upd_same]
  .simp[upd_ne _ _ hj]
 have e1:(λj=>(bG T i ⟨(T i).ph,r,(T i).τ.grow w w',g'⟩ j).ph)=λj=>(T j).ph:=funext hp;have e2:(λj=>(bG T i ⟨(T i).ph,r,(T i).τ.grow w w',g'⟩ j).ph.proj)=λj=>(T j).ph.proj:=funext λj=>by rw[hp]
 have hs:=g.size;have zhp:w'.heap[Wg]? =w.heap[Wg]? :=g.keep Wg h.grp.live.lt λe=>((h.bnd i Wg (.inl e)).2.1 rfl);have zxi:∀c b,ch c=some b->c<w.heap.size:=λc b hc=>by
  obtain⟨_,s,r,hh⟩:=h.chan c b hc;exact(dO.1 hh).1
 refine⟨h.n0,λj hj=>(hp j).trans (h.ou j hj),by rw[hp];exact h.role0,λj hj=>by rw[hp];exact h.role j hj,λj hj b=>?_,λa j b rD hb=>?_,λj b hb=>?_,λj b hb=>?_,λj l hj=>?_,λc b hc=>?_,by rw[e1];exact h.grp.of_block zhp,by rw[e2];exact h.inv⟩
 .rw[hp] at hj
  by_cases eO:j=i
  .subst eO;rw[hj] at mY;exact mY.elim
  .rw[upd_ne _ _ eO];exact h.nil j hj b
 .by_cases Sl:a=i
  .subst Sl
   have eO:j≠a:=λe=>rD e.symm;rw[upd_same] at hb;rw[upd_ne _ _ eO];rcases hb with hb|⟨hb,_⟩
   .exact h.sep a j b rD hb
   .exact⟨λe=>by have:=(h.bnd j b (.inl e)).1;omega,λe=>by have:=(h.bnd j b (.inr e)).1;omega,λe=>by have:=(h.pas j b e).1;omega⟩
  .rw[upd_ne _ _ Sl] at hb
   by_cases eO:j=i
   .subst eO
    rw[upd_same];have:=h.sep a j b rD hb;exact⟨λe=>e.elim this.1 λx=>by have:=(h.bnd a b (.inl hb)).1;omega,this.2⟩
   .rw[upd_ne _ _ eO];exact h.sep a j b rD hb
 .by_cases eO:j=i
  .subst eO
   rw[upd_same] at hb;rcases hb with(hb|⟨hb,bZ⟩)|hb
   .have:=h.bnd j b (.inl hb);exact⟨aC,this.2⟩
   .refine⟨bZ,λe=>by have:=h.grp.live.lt;omega,?_⟩
    cases hc:ch b with
    |none=>rfl
    |some x=>have:=zxi b x hc;omega
   .have:=h.bnd j b (.inr hb);exact⟨aC,this.2⟩
  .rw[upd_ne _ _ eO] at hb
   have:=h.bnd j b hb;exact⟨aC,this.2⟩
 .by_cases eO:j=i
  .subst eO
   rw[upd_same] at hb;have:=h.pas j b hb;exact⟨aC,this.2⟩
  .rw[upd_ne _ _ eO] at hb
   have:=h.pas j b hb;exact⟨aC,this.2⟩
 .rw[hp] at hj
  by_cases eO:j=i
  .subst eO
   cases xI:(T j).ph<;>rw[xI] at hj mY<;>first|exact mY.elim|simp[Ph.proj] at hj
  .rw[upd_ne _ _ eO]
   exact λaI iQ=>h.depo j l hj aI ((h.suf g eO).trans iQ)
 .obtain⟨h1,s,r,h2⟩:=h.chan c b hc
  exact⟨h1,s,r,(g.keep c (zxi c b hc) λe=>by have:=(h.bnd i c (.inl e)).2.2;rw[hc] at this;cases this).trans h2⟩
def Stat.phase {n:Nat}{w w':aE}{T:Nat->Td L}(h:Stat (ty:=ty) (Wg:=Wg) (A:=A) n w T ch){i:Nat}(hg:(T i).ph≠ .gone)(n9:i<n)(a:Kg Wg w w')(ph':Ph L)(r:Cp)(g':bC)
 (xI:ph'≠ .gone) (h0:i=0->ph'.live) (h1:i≠0->¬ph'.waits) (hl:WgLive ty Wg w->WgLive ty Wg w')
 (hd:∀l,ph'.proj=.over l->(T i).ph.proj=.over l\/∀aI,bU ty Wg (T i).τ w aI->A.dep l aI)
 (zY:gS A ty Wg (bG (λj=>(T j).ph) i ph') n w') (hinv:A.Inv (bG (λj=>(T j).ph.proj) i ph'.proj) ch):
 Stat (ty:=ty) (Wg:=Wg) (A:=A) n w' (bG T i ⟨ph',r,(T i).τ,g'⟩) ch:=by
 have ht:∀j,(bG T i ⟨ph',r,(T i).τ,g'⟩ j).τ=(T j).τ:=λj=>by
  by_cases hj:j=i
  .subst hj;simp[upd_same]
  .simp[upd_ne _ _ hj]
 have sf:∀j,bU ty Wg (T j).τ w w':=λj=>bU.of_aside a ⟨λe=>(h.bnd j Wg (.inl e)).2.1 rfl,λe=>(h.bnd j Wg (.inr e)).2.1 rfl⟩ hl;have cJ:=a.size;refine⟨h.n0,λj hj=>?_,?_,λj hj=>?_,λj hj b=>?_,λx j b rD hb=>?_,λj b hb=>?_,λj b hb=>?_,λj l hj=>?_,λc b hc=>?_,by rw[Y6];exact zY,by rw[Y1];exact hinv⟩
 .have:j≠i:=aC
  rw[upd_ne _ _ this];exact h.ou j hj
 .by_cases hi:i=0
  .subst hi;rw[upd_same];exact h0 rfl
  .rw[upd_ne _ _ (Ne.symm hi)];exact h.role0
 .by_cases eO:j=i
  .subst eO;rw[upd_same];exact h1 hj
  .rw[upd_ne _ _ eO];exact h.role j hj
 .rw[ht]
  by_cases eO:j=i
  .subst eO;rw[upd_same] at hj;exact absurd hj xI
  .rw[upd_ne _ _ eO] at hj;exact h.nil j hj b
 .rw[ht] at hb⊢;exact h.sep x j b rD hb
 .rw[ht] at hb;have:=h.bnd j b hb;exact⟨aC,this.2⟩
 .rw[ht] at hb;have:=h.pas j b hb;exact⟨aC,this.2⟩
 .rw[ht]
  by_cases eO:j=i
  .subst eO
   rw[upd_same] at hj;rcases hd l hj with x|x
   .exact λaI iQ=>h.depo j l x aI ((sf j).trans iQ)
   .exact λaI iQ=>x aI ((sf j).trans iQ)
  .rw[upd_ne _ _ eO] at hj
   exact λaI iQ=>h.depo j l hj aI ((sf j).trans iQ)
 .obtain⟨h1,s,r,h2⟩:=h.chan c b hc
  exact⟨h1,s,r,(a.block c h1).trans h2⟩
def Stat.close {n:Nat}{w w':aE}{T:Nat->Td L}(h:Stat (ty:=ty) (Wg:=Wg) (A:=A) n w T ch){i:Nat}(n9:i<n){c:Nat}{x:Bool}(hc:ch c=some x)(a:Kg c w w'){l l':L}(hl:(T i).ph=.usr l)(r:Cp)(g':bC)
 (qE:∃s r,w'.heap[c]? =some (.chan 0 #[] true s r false)) (zY:gS A ty Wg (bG (λj=>(T j).ph) i (.usr l')) n w) (hinv:A.Inv (bG (λj=>(T j).ph.proj) i (.run l')) (bG ch c (some true))):
 Stat (ty:=ty) (Wg:=Wg) (A:=A) n w' (bG T i ⟨.usr l',r,(T i).τ,g'⟩) (bG ch c (some true)):=by
 have ht:∀j,(bG T i ⟨.usr l',r,(T i).τ,g'⟩ j).τ=(T j).τ:=λj=>by
  by_cases hj:j=i
  .subst hj;simp[upd_same]
  .simp[upd_ne _ _ hj]
 have y7:=(h.chan c x hc).1;have nc:∀j,¬(T j).τ.own c/\¬(T j).τ.still c:=λj=>⟨λe=>(by have:=(h.bnd j c (.inl e)).2.2;rw[hc] at this;cases this),λe=>(by have:=(h.bnd j c (.inr e)).2.2;rw[hc] at this;cases this)⟩;have sf:∀j,bU ty Wg (T j).τ w w':=λj=>bU.of_aside a (nc j) (Xq a y7);have cJ:=a.size;refine⟨h.n0,λj hj=>?_,?_,λj hj=>?_,λj hj b=>?_,λx j b rD hb=>?_,λj b hb=>?_,λj b hb=>?_,λj l hj=>?_,λc' b kM=>?_,by rw[Y6];exact zY.of_block (a.block Wg (Ne.symm y7)),by rw[Y1];exact hinv⟩
 .have:j≠i:=aC
  rw[upd_ne _ _ this];exact h.ou j hj
 .by_cases hi:i=0
  .subst hi;rw[upd_same];trivial
  .rw[upd_ne _ _ (Ne.symm hi)];exact h.role0
 .by_cases eO:j=i
  .subst eO;rw[upd_same];exact id
  .rw[upd_ne _ _ eO];exact h.role j hj
 .rw[ht]
  by_cases eO:j=i
  .subst eO;rw[upd_same] at hj;cases hj
  .rw[upd_ne _ _ eO] at hj;exact h.nil j hj b
 .rw[ht] at hb⊢;exact h.sep x j b rD hb
 .rw[ht] at hb
  have:=h.bnd j b hb;refine⟨aC,this.2.1,?_⟩;have aT:b≠c:=λe=>by subst e;exact hb.elim (nc j).1 (nc j).2
  rw[upd_ne _ _ aT];exact this.2.2
 .rw[ht] at hb;have:=h.pas j b hb;exact⟨aC,this.2⟩
 .rw[ht]
  by_cases eO:j=i
  .subst eO;rw[upd_same] at hj;simp[Ph.proj] at hj
  .rw[upd_ne _ _ eO] at hj
   exact λaI iQ=>h.depo j l hj aI ((sf j).trans iQ)
 .by_cases sO:c'=c
  .subst sO
   rw[upd_same] at kM;obtain⟨s,r,hw⟩:=qE;exact⟨y7,s,r,by rw[hw,<-cE kM]⟩
  .rw[upd_ne _ _ sO] at kM
   obtain⟨h1,s,r,h2⟩:=h.chan c' b kM;exact⟨h1,s,r,(a.block c' sO).trans h2⟩
end
section
variable {L:Type}{P:bS}{ty:aM}{Wg:Nat}{A:jP L}{Fin:bC->aE->Prop}
def gS.congr {p p':Nat->Ph L}{n n':Nat}{w:aE}(h:gS A ty Wg p n w)(h0:p' 0=p 0\/∃l l',p 0=.usr l/\p' 0=.usr l')(hv:vv A p' n'=vv A p n)(hl:∀j,(p j).last\/(p' j).last->p' j=p j):gS A ty Wg p' n' w:=by
 have nl:(∀i,¬(p i).last)->∀i,¬(p' i).last:=λx i e=>x i (by rw[<-hl i (.inr e)];exact e);unfold gS at*;rcases h0 with h0|⟨l,l',h0,zB1⟩
 .rw[h0,hv]
  split
  all_goals(rename_i hp;simp only[hp] at h)
  .exact⟨h.1,nl h.2⟩
  .exact⟨h.1,nl h.2.1,h.2.2⟩
  .exact⟨h.1,nl h.2.1,h.2.2⟩
  .rcases h with⟨a,b,c⟩|⟨a,i,l,b,c⟩|⟨a,b,c⟩
   .exact .inl ⟨a,b,nl c⟩
   .have hi:(p i).last:=by rcases c with⟨c|c,_⟩|⟨c,_⟩<;>rw[c]<;>trivial
    have e:=hl i (.inl hi);refine .inr (.inl ⟨a,i,l,λj hj=>b j (by rw[<-hl j (.inr hj)];exact hj),?_⟩);rw[e];exact c
   .exact .inr (.inr ⟨a,nl b,c⟩)
  .exact⟨h.1,nl h.2.1,h.2.2⟩
  .exact⟨h.1,nl h.2.1,h.2.2⟩
 .rw[zB1]
  rw[h0] at h;simp only at h⊢;rw[hv];exact⟨h.1,nl h.2⟩
def zdn (A:jP L)(p:Nat->Ph L){i:Nat}(h:i≠0)(x:Ph L):zV A (bG p i x)=zV A p:=by
 unfold zV;rw[upd_ne _ _ (Ne.symm h)]
def gS.usr {p:Nat->Ph L}{n:Nat}{w:aE}(h:gS A ty Wg p n w){i:Nat}{l l':L}(hi:p i=.usr l)(n9:i<n)(zl6:A.pend l'=A.pend l):gS A ty Wg (bG p i (.usr l')) n w:=by
 refine h.congr ?_ ?_ λj hj=>?_
 .by_cases h0:i=0
  .subst h0;exact .inr ⟨l,l',hi,upd_same _ _ _⟩
  .exact .inl (upd_ne _ _ (Ne.symm h0))
 .unfold vv
  by_cases h0:i=0
  .subst h0
   rw[zes];unfold zV;rw[upd_same,hi];simp only[zl6]
  .rw[zdn A p h0]
   have:=zdY p (i:=i) (n:=n) (.usr l') n9 h0;rw[hi] at this;simp only[Ph.pre,if_true] at this;omega
 .by_cases eO:j=i
  .subst eO;rw[upd_same,hi] at hj;exact(hj.elim id id).elim
  .exact upd_ne _ _ eO
variable {ch:qS}
def zfP {l:List Nat}{a:Nat}(h:a∈l):ch.opn l a=some false:=by simp[qS.opn,h]
def Yn {l:List Nat}{a:Nat}(h:a∉l):ch.opn l a=ch a:=by simp[qS.opn,h]
def Stat.meet {n:Nat}{w w':aE}{T:Nat->Td L}(h:Stat (ty:=ty) (Wg:=Wg) (A:=A) n w T ch){i j:Nat}(rD:i≠j)(n9:i<n)(Zh:j<n){c:Nat}(hc:ch c=some false)(a:Kg c w w'){li li' lj lj':L}
 (hi:(T i).ph=.usr li) (hj:(T j).ph=.usr lj) (ri rj:Cp) (gi gj:bC) (τ':cF) (pub:List Nat)
 (ho:∀b,τ'.own b->(T i).τ.own b) (aY:τ'.still=(T i).τ.still) (J5:∀b,τ'.pass b->(T i).τ.pass b\/(T i).τ.own b)
 (Dg:∀a∈pub,(T i).τ.own a/\¬τ'.own a/\¬τ'.still a/\Jq w a) (qE:∃s r,w'.heap[c]? =some (.chan 0 #[] false s r false))
 (zb8:A.pend li'=A.pend li) (Lo:A.pend lj'=A.pend lj) (hinv:A.Inv (bG (bG (λk=>(T k).ph.proj) i (.run li')) j (.run lj')) (ch.opn pub)):
 Stat (ty:=ty) (Wg:=Wg) (A:=A) n w' (bG (bG T i ⟨.usr li',ri,τ',gi⟩) j ⟨.usr lj',rj,(T j).τ,gj⟩) (ch.opn pub):=by
 have y7:=(h.chan c _ hc).1;have zhp:=a.block Wg (Ne.symm y7);have cJ:=a.size;have nc:∀k,¬(T k).τ.own c/\¬(T k).τ.still c:=λk=>⟨λe=>(by have:=(h.bnd k c (.inl e)).2.2;rw[hc] at this;cases this),λe=>(by have:=(h.bnd k c (.inr e)).2.2;rw[hc] at this;cases this)⟩;have sf:∀k,bU ty Wg (T k).τ w w':=λk=>bU.of_aside a (nc k) (Xq a y7)
 let U:=bG (bG T i ⟨.usr li',ri,τ',gi⟩) j ⟨.usr lj',rj,(T j).τ,gj⟩
 have ui:U i=⟨.usr li',ri,τ',gi⟩:=by simp only[U];rw[upd_ne _ _ rD,upd_same]
 have uj:U j=⟨.usr lj',rj,(T j).τ,gj⟩:=by simp only[U];rw[upd_same]
 have uk:∀k,k≠i->k≠j->U k=T k:=λk h1 h2=>by simp only[U];rw[upd_ne _ _ h2,upd_ne _ _ h1]
 have own:∀k b,(U k).τ.own b->(T k).τ.own b:=λk b hb=>by
  by_cases k1:k=i
  .subst k1;rw[ui] at hb;exact ho b hb
  .by_cases k2:k=j
   .subst k2;rw[uj] at hb;exact hb
   .rw[uk k k1 k2] at hb;exact hb
 have still:∀k,(U k).τ.still=(T k).τ.still:=λk=>by
  by_cases k1:k=i
  .subst k1;rw[ui];exact aY
  .by_cases k2:k=j
   .subst k2;rw[uj]
   .rw[uk k k1 k2]
 have pass:∀k b,(U k).τ.pass b->(T k).τ.pass b\/(T k).τ.own b:=λk b hb=>by
  by_cases k1:k=i
  .subst k1;rw[ui] at hb;exact J5 b hb
  .by_cases k2:k=j
   .subst k2;rw[uj] at hb;exact .inl hb
   .rw[uk k k1 k2] at hb;exact .inl hb
 have zlS:(λk=>(U k).ph)=bG (bG (λk=>(T k).ph) i (.usr li')) j (.usr lj'):=by simp only[U];rw[Y6,Y6]
 have zk4:(λk=>(U k).ph.proj)=bG (bG (λk=>(T k).ph.proj) i (.run li')) j (.run lj'):=by simp only[U];rw[Y1,Y1];rfl
 have hp:∀k,(U k).ph=(T k).ph\/(∃l,(U k).ph=.usr l):=λk=>by
  by_cases k1:k=i
  .subst k1;rw[ui];exact .inr ⟨_,rfl⟩
  .by_cases k2:k=j
   .subst k2;rw[uj];exact .inr ⟨_,rfl⟩
   .rw[uk k k1 k2];exact .inl rfl
 refine⟨h.n0,λk hk=>?_,?_,λk hk=>?_,λk hk b=>?_,λx k b eK hb=>?_,λk b hb=>?_,λk b hb=>?_,λk l hk=>?_,λc' b kM=>?_,?_,?_⟩
 .show(U k).ph=_
  rw[uk k aC aC];exact h.ou k hk
 .rcases hp 0 with e|⟨l,e⟩
  .rw[show(bG (bG T i ⟨.usr li',ri,τ',gi⟩) j ⟨.usr lj',rj,(T j).τ,gj⟩ 0).ph=(T 0).ph from e];exact h.role0
  .rw[show(bG (bG T i ⟨.usr li',ri,τ',gi⟩) j ⟨.usr lj',rj,(T j).τ,gj⟩ 0).ph=.usr l from e];trivial
 .rcases hp k with e|⟨l,e⟩
  .rw[show(bG (bG T i ⟨.usr li',ri,τ',gi⟩) j ⟨.usr lj',rj,(T j).τ,gj⟩ k).ph=(T k).ph from e];exact h.role k hk
  .rw[show(bG (bG T i ⟨.usr li',ri,τ',gi⟩) j ⟨.usr lj',rj,(T j).τ,gj⟩ k).ph=.usr l from e];exact id
 .have k1:k≠i:=λe=>by subst e;rw[show(bG (bG T k ⟨.usr li',ri,τ',gi⟩) j ⟨.usr lj',rj,(T j).τ,gj⟩ k)=_ from ui] at hk;cases hk
  have k2:k≠j:=λe=>by subst e;rw[show(bG (bG T i ⟨.usr li',ri,τ',gi⟩) k ⟨.usr lj',rj,(T k).τ,gj⟩ k)=_ from uj] at hk;cases hk
  have e:=uk k k1 k2;show ¬(U k).τ.own b/\_;rw[show(bG (bG T i ⟨.usr li',ri,τ',gi⟩) j ⟨.usr lj',rj,(T j).τ,gj⟩ k)=T k from e] at hk⊢;rw[e];exact h.nil k hk b
 .have:=h.sep x k b eK (own x b hb)
  refine⟨λe=>this.1 (own k b e),λe=>this.2.1 (by have e':(U k).τ.still b:=e;rwa [still k] at e'),λe=>(pass k b e).elim this.2.2 this.1⟩
 .have bZ:(T k).τ.own b\/(T k).τ.still b:=hb.imp (own k b) λe=>by have e':(U k).τ.still b:=e;rwa [still k] at e'
  have:=h.bnd k b bZ;refine⟨aC,this.2.1,?_⟩;have zbK:b∉pub:=λhp=>by
   obtain⟨h1,h2,h3,_⟩:=Dg b hp;by_cases k1:k=i
   .subst k1
    rcases hb with e|e
    .rw[show(bG (bG T k ⟨.usr li',ri,τ',gi⟩) j ⟨.usr lj',rj,(T j).τ,gj⟩ k)=_ from ui] at e;exact h2 e
    .rw[show(bG (bG T k ⟨.usr li',ri,τ',gi⟩) j ⟨.usr lj',rj,(T j).τ,gj⟩ k)=_ from ui] at e;exact h3 e
   .have s:=h.sep i k b (Ne.symm k1) h1
    exact bZ.elim s.1 s.2.1
  rw[Yn zbK];exact this.2.2
 .rcases pass k b hb with e|e
  .have:=h.pas k b e;exact⟨aC,this.2⟩
  .have:=h.bnd k b (.inl e);exact⟨aC,this.2.1⟩
 .by_cases k1:k=i
  .subst k1;rw[show(bG (bG T k ⟨.usr li',ri,τ',gi⟩) j ⟨.usr lj',rj,(T j).τ,gj⟩ k)=_ from ui] at hk;simp[Ph.proj] at hk
  .by_cases k2:k=j
   .subst k2;rw[show(bG (bG T i ⟨.usr li',ri,τ',gi⟩) k ⟨.usr lj',rj,(T k).τ,gj⟩ k)=_ from uj] at hk;simp[Ph.proj] at hk
   .rw[show(bG (bG T i ⟨.usr li',ri,τ',gi⟩) j ⟨.usr lj',rj,(T j).τ,gj⟩ k)=T k from uk k k1 k2] at hk⊢
    exact λaI iQ=>h.depo k l hk aI ((sf k).trans iQ)
 .by_cases mR:c'∈pub
  .obtain⟨h1,_,_,h4⟩:=Dg c' mR
   rw[zfP mR] at kM;have aT:c'≠c:=λe=>by subst e;exact(nc i).1 h1
   exact⟨(h.bnd i c' (.inl h1)).2.1,0,0,by rw[a.block c' aT,<-cE kM];exact h4⟩
  .rw[Yn mR] at kM
   by_cases sO:c'=c
   .subst sO
    rw[hc] at kM;obtain⟨s,r,hw⟩:=qE;exact⟨y7,s,r,by rw[hw,<-cE kM]⟩
   .obtain⟨h1,s,r,h2⟩:=h.chan c' b kM
    exact⟨h1,s,r,(a.block c' sO).trans h2⟩
 .show gS A ty Wg (λk=>(U k).ph) n w'
  rw[zlS];refine gS.of_block (gS.usr (l:=lj) (gS.usr (l:=li) h.grp hi n9 zb8) ?_ Zh Lo) zhp;rw[upd_ne _ _ (Ne.symm rD)];exact hj
 .show A.Inv (λk=>(U k).ph.proj) _
  rw[zk4];exact hinv
def Stat.fork {n:Nat}{w:aE}{T:Nat->Td L}(h:Stat (ty:=ty) (Wg:=Wg) (A:=A) n w T ch){l lm lc:L}(hl:(T 0).ph=.usr l)(M7:A.pend l=true)(yM:A.pend lm=false)(rm rc:Cp)(gm gc:bC)(τm τc:cF)(pub:List Nat)
 (cV:∀b,τm.own b\/τc.own b->(T 0).τ.own b) (zgR:∀b,τm.still b\/τc.still b->(T 0).τ.still b\/(T 0).τ.own b) (zdZ:∀b,τm.pass b\/τc.pass b->(T 0).τ.pass b\/(T 0).τ.own b\/(T 0).τ.still b)
 (vY:∀b,τm.own b->¬τc.own b/\¬τc.still b/\¬τc.pass b) (Ax:∀b,τc.own b->¬τm.still b/\¬τm.pass b)
 (Dg:∀a∈pub,(T 0).τ.own a/\Jq w a/\¬τm.own a/\¬τm.still a/\¬τc.own a/\¬τc.still a) (hinv:A.Inv (bG (bG (λk=>(T k).ph.proj) 0 (.run lm)) n (.run lc)) (ch.opn pub)):
 Stat (ty:=ty) (Wg:=Wg) (A:=A) (n+1) w (bG (bG T 0 ⟨.usr lm,rm,τm,gm⟩) n ⟨.usr lc,rc,τc,gc⟩) (ch.opn pub):=by
 have hn:=h.n0;have zc4:(T n).ph=.gone:=h.ou n (aX _);have nn:=h.nil n zc4;generalize hU:bG (bG T 0 ⟨.usr lm,rm,τm,gm⟩) n ⟨.usr lc,rc,τc,gc⟩=U;have u0:U 0=⟨.usr lm,rm,τm,gm⟩:=by rw[<-hU,upd_ne _ _ aC,upd_same]
 have un:U n=⟨.usr lc,rc,τc,gc⟩:=by rw[<-hU,upd_same]
 have uk:∀k,k≠0->k≠n->U k=T k:=λk h1 h2=>by rw[<-hU,upd_ne _ _ h2,upd_ne _ _ h1]
 have own:∀k b,(U k).τ.own b->(T k).τ.own b\/(k=n/\(T 0).τ.own b):=λk b hb=>by
  by_cases k1:k=0
  .subst k1;rw[u0] at hb;exact .inl (cV b (.inl hb))
  .by_cases k2:k=n
   .subst k2;rw[un] at hb;exact .inr ⟨rfl,cV b (.inr hb)⟩
   .rw[uk k k1 k2] at hb;exact .inl hb
 have zlS:(λk=>(U k).ph)=bG (bG (λk=>(T k).ph) 0 (.usr lm)) n (.usr lc):=by rw[<-hU,Y6,Y6]
 have zk4:(λk=>(U k).ph.proj)=bG (bG (λk=>(T k).ph.proj) 0 (.run lm)) n (.run lc):=by rw[<-hU,Y1,Y1];rfl
 have sub:∀k b,(U k).τ.own b\/(U k).τ.still b\/(U k).τ.pass b->k=0\/k=n\/(k≠0/\k≠n):=λk b _=>by omega
 refine⟨aC,λk hk=>?_,by rw[u0];trivial,λk hk=>?_,λk hk b=>?_,λx k b eK hb=>?_,λk b hb=>?_,λk b hb=>?_,λk l' hk=>?_,λc' b kM=>?_,?_,by rw[zk4];exact hinv⟩
 .rw[uk k aC aC];exact h.ou k aC
 .by_cases k2:k=n
  .subst k2;rw[un];exact id
  .rw[uk k hk k2];exact h.role k hk
 .have k1:k≠0:=λe=>by subst e;rw[u0] at hk;cases hk
  have k2:k≠n:=λe=>by subst e;rw[un] at hk;cases hk
  rw[uk k k1 k2] at hk⊢;exact h.nil k hk b
 .by_cases x1:x=0
  .subst x1
   rw[u0] at hb;have ho:=cV b (.inl hb);by_cases k2:k=n
   .subst k2;rw[un];exact vY b hb
   .rw[uk k (Ne.symm eK) k2];exact h.sep 0 k b eK ho
  .by_cases x2:x=n
   .subst x2
    rw[un] at hb;have ho:=cV b (.inr hb);by_cases k1:k=0
    .subst k1;rw[u0];exact⟨λe=>(vY b e).1 hb,Ax b hb⟩
    .rw[uk k k1 (Ne.symm eK)];exact h.sep 0 k b (Ne.symm k1) ho
   .rw[uk x x1 x2] at hb
    have s0:=h.sep x 0 b x1 hb;by_cases k1:k=0
    .subst k1;rw[u0]
     exact⟨λe=>s0.1 (cV b (.inl e)),λe=>(zgR b (.inl e)).elim s0.2.1 s0.1,λe=>(zdZ b (.inl e)).elim s0.2.2 λz=>z.elim s0.1 s0.2.1⟩
    .by_cases k2:k=n
     .subst k2;rw[un]
      exact⟨λe=>s0.1 (cV b (.inr e)),λe=>(zgR b (.inr e)).elim s0.2.1 s0.1,λe=>(zdZ b (.inr e)).elim s0.2.2 λz=>z.elim s0.1 s0.2.1⟩
     .rw[uk k k1 k2];exact h.sep x k b eK hb
 .have key:(∃j,(T j).τ.own b\/(T j).τ.still b)/\b∉pub:=by
   by_cases k1:k=0
   .subst k1;rw[u0] at hb
    refine⟨⟨0,hb.elim (λe=>.inl (cV b (.inl e))) λe=>(zgR b (.inl e)).symm⟩,λhp=>?_⟩;have:=Dg b hp;exact hb.elim this.2.2.1 this.2.2.2.1
   .by_cases k2:k=n
    .subst k2;rw[un] at hb
     refine⟨⟨0,hb.elim (λe=>.inl (cV b (.inr e))) λe=>(zgR b (.inr e)).symm⟩,λhp=>?_⟩;have:=Dg b hp;exact hb.elim this.2.2.2.2.1 this.2.2.2.2.2
    .rw[uk k k1 k2] at hb
     refine⟨⟨k,hb⟩,λhp=>?_⟩;have:=h.sep 0 k b (Ne.symm k1) (Dg b hp).1;exact hb.elim this.1 this.2.1
  obtain⟨⟨j,hj⟩,zbK⟩:=key;have:=h.bnd j b hj;exact⟨this.1,this.2.1,by rw[Yn zbK];exact this.2.2⟩
 .have key:∃j,(T j).τ.pass b\/(T j).τ.own b\/(T j).τ.still b:=by
   by_cases k1:k=0
   .subst k1;rw[u0] at hb;exact⟨0,zdZ b (.inl hb)⟩
   .by_cases k2:k=n
    .subst k2;rw[un] at hb;exact⟨0,zdZ b (.inr hb)⟩
    .rw[uk k k1 k2] at hb;exact⟨k,.inl hb⟩
  obtain⟨j,hj|hj⟩:=key
  .exact h.pas j b hj
  .have:=h.bnd j b hj;exact⟨this.1,this.2.1⟩
 .have k1:k≠0:=λe=>by subst e;rw[u0] at hk;simp[Ph.proj] at hk
  have k2:k≠n:=λe=>by subst e;rw[un] at hk;simp[Ph.proj] at hk
  rw[uk k k1 k2] at hk⊢;exact h.depo k l' hk
 .by_cases mR:c'∈pub
  .rw[zfP mR] at kM
   obtain⟨h1,h2,_⟩:=Dg c' mR;exact⟨(h.bnd 0 c' (.inl h1)).2.1,0,0,by rw[<-cE kM];exact h2⟩
  .rw[Yn mR] at kM;exact h.chan c' b kM
 .rw[zlS]
  refine h.grp.congr (.inr ⟨l,lm,hl,by rw[upd_ne _ _ aC,upd_same]⟩) ?_ λj hj=>?_
  .unfold vv
   have e1:oV (bG (bG (λk=>(T k).ph) 0 (.usr lm)) n (.usr lc)) (n+1)=oV (λk=>(T k).ph) n+1:=by
    simp only[oV];rw[zqR _ _ (aX n),zes,upd_same];simp[Ph.pre];omega
   have e2:zV A (bG (bG (λk=>(T k).ph) 0 (.usr lm)) n (.usr lc))=0:=by
    unfold zV;rw[upd_ne _ _ aC,upd_same];simp[yM]
   have e3:zV A (λk=>(T k).ph)=1:=by
    unfold zV;simp only[hl,M7,if_true]
   omega
  .by_cases j1:j=0
   .subst j1;rw[upd_ne _ _ aC,upd_same] at hj
    have:((T 0).ph).last\/False:=hj;rw[hl] at this;exact(this.elim id id).elim
   .by_cases j2:j=n
    .subst j2;rw[upd_same] at hj
     have:((T j).ph).last\/False:=hj;rw[zc4] at this;exact(this.elim id id).elim
    .rw[upd_ne _ _ j2,upd_ne _ _ j1]
end
section
variable {L:Type}(P:bS)(ty:aM)(Wg:Nat)(A:jP L)(Fin:bC->aE->Prop)(Shun:Loc->Prop)
structure Inv (gs:Array bC)(w:aE)(t:lS)(T:Nat->Td L)(ch:qS):Prop where
 st:Stat (ty:=ty) (Wg:=Wg) (A:=A) gs.size w T ch
 dy:Ey (P:=P) (ty:=ty) (Wg:=Wg) (A:=A) (Fin:=Fin) gs w t T ch Shun
def Ps (m:zbH)(t:lS):Prop:=
 ∃gs a w sl q,m=crowd gs w sl/\gs[0]? =some a/\a.status=.running/\Fin a w/\Leavers P t gs q/\Past (λl=>Shun l\/nF l Wg) w.heap.size t
def vG (gs:Array bC)(w:aE)(t:lS)(T:Nat->Td L)(sl:Option (Nat×Nat))(i:Nat):Prop:=
 ∃m' ops,runT P (crowd gs w sl) i=(.next m',ops)/\
  (Ps P Wg Fin Shun m' (t++ops)\/∃gs' w' K4 T' tT,m'=crowd gs' w' K4/\Inv P ty Wg A Fin Shun gs' w' (t++ops) T' tT/\Mu.lt (mu gs' T') (mu gs T))
end
section
variable {L:Type}{P:bS}{ty:aM}{Wg:Nat}{A:jP L}{Fin:bC->aE->Prop}{Shun:Loc->Prop}
variable {gs:Array bC}{w w':aE}{t:lS}{T:Nat->Td L}{ch tT:qS}{sl:Option (Nat×Nat)}{i j:Nat}{x g':bC}{es:Array oO}
def zwg (τ:cF)(w:aE)(d:Nat):bU ty Wg τ w (w.at d):=⟨rfl,rfl,rfl,aX _,λ_ _=>rfl,id⟩
def Inv.at (h:Inv P ty Wg A Fin Shun gs w t T ch)(d:Nat):Inv P ty Wg A Fin Shun gs (w.at d) t T ch:=
 ⟨
  ⟨h.st.n0,h.st.ou,h.st.role0,h.st.role,h.st.nil,h.st.sep,h.st.bnd,h.st.pas,λi l hi aI s=>h.st.depo i l hi aI ((zwg _ w d).trans s),h.st.chan,h.st.grp.of_block rfl,h.st.inv⟩,
  ⟨λi x hi=>(h.dy.sit i x hi).rely (zwg _ w d),h.dy.slp,h.dy.slpC,h.dy.slpW,h.dy.tr⟩⟩
def zkG {p:Nat->Ph L}(h:∀j,j≠0->(p j).pre=false):∀n,oV p n=0
 |0=>rfl
 |n+1=>by
  simp only[oV,zkG h n];by_cases hn:n=0
  .simp[hn]
  .simp[h n hn]
def Inv.some1 (hA:A.Ok)(h:Inv P ty Wg A Fin Shun gs w t T ch):∃(i:Nat) (g:bC),gs[i]? =some g/\g.status=.running:=by
 refine yZ λdE=>?_;have hn:∀(i:Nat) (g:bC),gs[i]? =some g->g.status≠ .running:=λi g hg e=>dE ⟨i,g,hg,e⟩;have zkT:∀i l,(T i).ph=.usr l->∃g,gs[i]? =some g/\zd4 P ty Wg A (i==0) (T i) g w:=by
  intro i l hl;have aN:i<gs.size:=by
   rcases mX i gs.size with x|x
   .exact x
   .have:=h.st.ou i x;rw[hl] at this;cases this
  refine⟨gs[i],mK aN,?_⟩;have hs:=h.dy.sit i _ (mK aN);rw[pF zld] at hs;obtain⟨r,_,_,hx|hx|hx⟩:=hs
  .exact absurd hx.1 (hn i _ (mK aN))
  .exact hx
  .have:=hx.1;rw[hl] at this;cases this
 have Lo:∀i l,(T i).ph.proj=.run l->(T i).ph=.usr l:=by
  intro i l hi;cases xI:(T i).ph<;>rw[xI] at hi<;>simp[Ph.proj] at hi;rw[hi]
 have zyY:∀i l c ok pub nx,(T i).ph=.usr l->A.act l=.send c ok pub nx->∃g v z sh,gs[i]? =some (parked g #[scase c v z] sh):=by
  intro i l c ok pub nx hl ha;obtain⟨g,hg,l',cs,sh,h1,rfl,_,h4|h4⟩:=zkT i l hl
  .obtain⟨c',pD,O6,nH,v,z,h5,h6,_⟩:=h4
   rw[hl] at h1;injection h1 with h1;subst h1;rw[ha] at h5;injection h5 with h5;subst h5;exact⟨_,v,z,sh,by rw[hg,h6]⟩
  .obtain⟨c',pD,nH,s',z,b,h5,_⟩:=h4
   rw[hl] at h1;injection h1 with h1;subst h1;rw[ha] at h5;cases h5
 have zy9:∀i l c ok nx s,(T i).ph=.usr l->A.act l=.recv c ok nx s->∃g z sh,gs[i]? =some (parked g #[rcase c z] sh):=by
  intro i l c ok nx s hl ha;obtain⟨g,hg,l',cs,sh,h1,rfl,_,h4|h4⟩:=zkT i l hl
  .obtain⟨c',pD,O6,nH,v,z,h5,_⟩:=h4
   rw[hl] at h1;injection h1 with h1;subst h1;rw[ha] at h5;cases h5
  .obtain⟨c',pD,nH,s',z,b,h5,h6,_⟩:=h4
   rw[hl] at h1;injection h1 with h1;subst h1;rw[ha] at h5;injection h5 with h5;subst h5;exact⟨_,z,sh,by rw[hg,h6]⟩
 have hb:∀i l,(T i).ph.proj=.run l->A.Blocked (λi=>(T i).ph.proj) ch l:=by
  intro i l hi;have hl:=Lo i l hi;obtain⟨g,hg,l',cs,sh,h1,rfl,_,h4⟩:=zkT i l hl;rw[hl] at h1;injection h1 with h1;subst h1;unfold jP.Blocked;rcases h4 with⟨c,ok,pub,nx,v,z,h5,h6,_⟩|⟨c,ok,nx,s,z,b,h5,h6,_⟩
  .rw[h5]
   rintro⟨j,l',pD,nH,wV,hj,o6⟩;obtain⟨gj,zj,zJs,zaG⟩:=zy9 j l' c pD nH wV (Lo j l' hj) o6;subst h6;exact h.dy.slp i j _ _ _ _ _ _ _ _ hg zaG
  .rw[h5]
   subst h6;refine⟨?_,?_⟩
   .obtain⟨b',bZ⟩:=hA.recvC _ ch i l c ok nx s h.st.inv hi h5
    cases b'
    .exact bZ
    .exact absurd bZ (h.dy.slpC i _ _ _ _ hg)
   .rintro⟨j,l',pD,O6,nH,hj,o6⟩
    obtain⟨gj,vj,zj,zJs,zaG⟩:=zyY j l' c pD O6 nH (Lo j l' hj) o6;exact h.dy.slp j i _ _ _ _ _ _ _ _ zaG hg
 obtain⟨Ly,Bf⟩:=hA.prog _ ch h.st.inv hb;have hq:∀j,j≠0->(T j).ph.leaves:=by
  intro j hj;refine yZ λhl=>?_;have aN:j<gs.size:=by
   rcases mX j gs.size with x|x
   .exact x
   .exact absurd (by rw[h.st.ou j x];trivial) hl
  have hs:=h.dy.sit j _ (mK aN);rw[pF hl] at hs;obtain⟨r,_,_,hx|hx|hx⟩:=hs
  .exact hn j _ (mK aN) hx.1
  .obtain⟨l,_,_,h1,_⟩:=hx
   exact Bf j l (by show(T j).ph.proj=_;rw[h1];rfl)
  .have:=h.st.role j hj;rw[hx.1] at this;exact this trivial
 have h0:=h.dy.sit 0 _ (mK h.st.n0);have zg5:¬(T 0).ph.leaves:=λe=>by
  have:=h.st.role0;cases hp:(T 0).ph<;>rw[hp] at e this<;>first|exact e.elim|exact this.elim
 rw[pF zg5] at h0;obtain⟨r,_,_,hx|hx|hx⟩:=h0
 .exact hn 0 _ (mK h.st.n0) hx.1
 .obtain⟨l,_,_,h1,_⟩:=hx
  have:(T 0).ph.proj=.waits:=Ly;rw[h1] at this;cases this
 .have hg:=h.st.grp
  unfold gS at hg;simp only[hx.1] at hg;have zGF:∀i,¬(T i).ph.last:=λi e=>by
   by_cases hi:i=0
   .subst hi;rw[hx.1] at e;exact e
   .have:=hq i hi
    cases hp:(T i).ph<;>rw[hp] at e this<;>first|exact e.elim|exact this.elim
  have hv:vv A (λi=>(T i).ph) gs.size=0:=by
   unfold vv zV;simp only[hx.1,Nat.add_zero];refine zkG (λj hj=>?_) _;have:=hq j hj;cases hp:(T j).ph<;>rw[hp] at this<;>first|exact this.elim|rfl
  rcases hg with⟨a,_⟩|⟨_,i,l,_,hc⟩|⟨_,_,hc⟩
  .omega
  .refine zGF i ?_
   rcases hc with⟨c|c,_⟩|⟨c,_⟩<;>rw[c]<;>trivial
  .exact h.dy.slpW _ (mK h.st.n0) hx.1 (by rw[hx.2.1]) hc
def Inv.awake (h:Inv P ty Wg A Fin Shun gs w t T ch):∀g∈gs,Conc.awake g:=by
 intro g hg;obtain⟨i,hi,rfl⟩:=Array.mem_iff_getElem.1 hg;have:=(h.dy.sit i _ (mK hi)).status;intro t e;rcases this with x|x|x<;>rw[e] at x<;>cases x
def Ze (hi:gs[i]? =some x)(hn:0<gs.size){Ti:Td L}(vN:stepG P (i==0) x w=.go g' w' es)(hr:Cl Ti.r (T i).r)
 (hS:Stat (ty:=ty) (Wg:=Wg) (A:=A) gs.size w' (bG T i Ti) tT)
 (hD:Ey (P:=P) (ty:=ty) (Wg:=Wg) (A:=A) (Fin:=Fin) ((gs.map (woken P x g' w')).setIfInBounds i g') w' (t++vW i x.frame.fn x.frame.place es) (bG T i Ti) tT Shun):vG P ty Wg A Fin Shun gs w t T sl i:=by
 have aN:=(dO.1 hi).1;have cJ:((gs.map (woken P x g' w')).setIfInBounds i g').size=gs.size:=aQ;refine⟨_,_,Yq hi vN,.inr ⟨_,_,sl,bG T i Ti,tT,rfl,⟨by rw[cJ];exact hS,hD⟩,Yv (i:=i) (λ_=>cJ) aC aN aC (by rw[upd_same];exact hr) λj hj=>by rw[upd_ne _ _ aC]⟩⟩
def Stat.tiEvents {n:Nat}(hS:Stat (ty:=ty) (Wg:=Wg) (A:=A) n w T ch)(n9:i<n)(hl:(T i).ph.live)(fn:aO)(pos:String)
 (h:TI Wg n (λk=>(T k).τ.own) (λk b=>(T k).τ.still b\/(T k).τ.pass b) (λk=>(T k).ph.live) Shun w.heap.size t)
 (x3:∀e∈es,OkL Wg (T i).τ.own (λb=>(T i).τ.still b\/(T i).τ.pass b) i w.heap.size e):
 TI Wg n (λk=>(T k).τ.own) (λk b=>(T k).τ.still b\/(T k).τ.pass b) (λk=>(T k).ph.live) Shun w.heap.size (t++vW i fn pos es):=by
 obtain⟨l⟩:=es;refine TI.events (live:=λk=>(T k).ph.live) (k:=i) hl n9 (λk' b _ aT hb=>?_) (λk' b _ aT hb ho=>?_) (λk' _=>⟨λe=>(hS.bnd k' Wg (.inl e)).2.1 rfl,λe=>e.elim (λe=>(hS.bnd k' Wg (.inr e)).2.1 rfl) λe=>(hS.pas k' Wg e).2 rfl⟩) fn pos l h λe he=>x3 e (by simpa using he)
 .have:=hS.sep i k' b (Ne.symm aT) hb
  exact⟨this.1,λe=>e.elim this.2.1 this.2.2⟩
 .have:=hS.sep k' i b aT ho
  exact hb.elim this.2.1 this.2.2
def Stat.noWg {n:Nat}(hS:Stat (ty:=ty) (Wg:=Wg) (A:=A) n w T ch):∀k',(T k').ph.live->¬(T k').τ.own Wg/\¬((T k').τ.still Wg\/(T k').τ.pass Wg):=
 λk' _=>⟨λe=>(hS.bnd k' Wg (.inl e)).2.1 rfl,λe=>e.elim (λe=>(hS.bnd k' Wg (.inr e)).2.1 rfl) λe=>(hS.pas k' Wg e).2 rfl⟩
def Ey.keepC (h:Ey (P:=P) (ty:=ty) (Wg:=Wg) (A:=A) (Fin:=Fin) gs w t T ch Shun):∀(j:Nat) (gj:bC) (c:Nat) (z:aF) (sh:Nz),gs[j]? =some (parked gj #[rcase c z] sh)->woken P x g' w' (parked gj #[rcase c z] sh)=parked gj #[rcase c z] sh->ch c≠some true:=
 λj gj c z sh hj _=>h.slpC j gj c z sh hj
def Ey.keepW (h:Ey (P:=P) (ty:=ty) (Wg:=Wg) (A:=A) (Fin:=Fin) gs w t T ch Shun)(e:gA ty Wg w' 0 1->gA ty Wg w 0 1):i≠0->∀x0,gs[0]? =some x0->(T 0).ph=.w3->x0.status=.blocked->(woken P x g' w' x0).status=.blocked->¬gA ty Wg w' 0 1:=
 λ_ x0 h0 h1 h2 _ h4=>h.slpW x0 h0 h1 h2 (e h4)
def Inv.leaver (h:Inv P ty Wg A Fin Shun gs w t T ch)(hi:gs[i]? =some x)(cG:x.status=.running)(hl:(T i).ph.leaves):vG P ty Wg A Fin Shun gs w t T sl i:=by
 have hs:=h.dy.sit i x hi;rw[Gm hl] at hs;obtain⟨q,hq,hQ⟩:=hs;have fR:i≠0:=λe=>by
  subst e;have:=h.st.role0;cases hp:(T 0).ph<;>rw[hp] at hl this<;>first|exact hl.elim|exact this.elim
 have aN:=(dO.1 hi).1
 cases q with
 |zero=>rw[hQ.1] at cG;cases cG
 |succ k=>
  rcases hQ with⟨hf,_⟩|⟨_,g',es,hm,aY,hQ'⟩
  .rw[hf] at cG;cases cG
  have vN:stepG P (i==0) x w=.go g' w es:=by
   have:(i==0)=false:=by simpa using fR
   rw[this];exact aY w
  have hp:∀j,(bG T i ⟨(T i).ph,.inl k,(T i).τ,g'⟩ j).ph=(T j).ph:=λj=>by
   by_cases hj:j=i
   .subst hj;simp[upd_same]
   .simp[upd_ne _ _ hj]
  have ht:∀j,(bG T i ⟨(T i).ph,.inl k,(T i).τ,g'⟩ j).τ=(T j).τ:=λj=>by
   by_cases hj:j=i
   .subst hj;simp[upd_same]
   .simp[upd_ne _ _ hj]
  refine Ze hi h.st.n0 (Ti:=⟨(T i).ph,.inl k,(T i).τ,g'⟩) vN (by rw[hq];exact .inl (Nat.lt_succ_self k)) (h.st.same hp ht) ?_;refine h.dy.go hi ((Gm (T:=⟨(T i).ph,.inl k,(T i).τ,g'⟩) hl).2 ⟨k,rfl,hQ'⟩) (by rcases hQ'.status with e|e<;>rw[e]<;>simp) (λj _=>bU.refl) h.dy.keepC (h.dy.keepW id) ?_;have e1:(λk'=>(bG T i ⟨(T i).ph,.inl k,(T i).τ,g'⟩ k').τ.own)=λk'=>(T k').τ.own:=funext λj=>by rw[ht]
  have e2:(λk' b=>(bG T i ⟨(T i).ph,.inl k,(T i).τ,g'⟩ k').τ.still b\/(bG T i ⟨(T i).ph,.inl k,(T i).τ,g'⟩ k').τ.pass b)=λk' b=>(T k').τ.still b\/(T k').τ.pass b:=funext λj=>by rw[ht]
  have e3:(λk'=>(bG T i ⟨(T i).ph,.inl k,(T i).τ,g'⟩ k').ph.live)=λk'=>(T k').ph.live:=funext λj=>by rw[hp]
  rw[e1,e2,e3];exact h.dy.tr.mutes aN h.st.noWg _ _ hm
def Inv.ownG {K:Bool->Ph L->Nat->cF->bC->aE->Prop}(h:Inv P ty Wg A Fin Shun gs w t T ch)(hi:gs[i]? =some x)(dM:lV x (T i).g)(hl:(T i).ph.live){ι:Type}{f:ι->Rk}(hr:(T i).r=.inr (.mk ι f))
 (hK:∀m ph d τ g w,K m ph d τ g w->∃k,oX P ty Wg A Fin (f k) m ph d τ g w) (ho:GoG P Wg K (i==0) (T i).ph (hY t i) (T i).τ (T i).g w):vG P ty Wg A Fin Shun gs w t T sl i:=by
 have aN:i<gs.size:=(dO.1 hi).1;obtain⟨g',w',es,aY,lX,hg,x3,hk⟩:=ho;obtain⟨k,hB⟩:=hK _ _ _ _ _ _ hk;have oS:¬(T i).ph.leaves:=λe=>by cases hp:(T i).ph<;>rw[hp] at e hl<;>first|exact e.elim|exact hl.elim
 have hS:=h.st.grow hl hg (.inr (f k)) g';refine Ze hi h.st.n0 (Ti:=⟨(T i).ph,.inr (f k),(T i).τ.grow w w',g'⟩) zb6 P7 hS ?_
 refine h.dy.go hi ((pF (T:=⟨(T i).ph,.inr (f k),(T i).τ.grow w w',g'⟩) oS).2 ⟨f k,rfl,hB,.inl (lV.self lX)⟩) Kf (λj hj=>h.st.suf hg hj) h.dy.keepC
  (h.dy.keepW λe=>(hg.keep Wg h.st.grp.live.lt λe=>((h.st.bnd i Wg (.inl e)).2.1 rfl)).symm.trans e) ?_
 have hp:∀j,(bG T i ⟨(T i).ph,.inr (f k),(T i).τ.grow w w',g'⟩ j).ph=(T j).ph:=λj=>by
  by_cases hj:j=i
  .subst hj;simp[upd_same]
  .simp[upd_ne _ _ hj]
 have Pm:bG T i ⟨(T i).ph,.inr (f k),(T i).τ.grow w w',g'⟩ i=⟨(T i).ph,.inr (f k),(T i).τ.grow w w',g'⟩:=upd_same _ _ _;refine hS.tiEvents aN (by rw[hp];exact hl) _ _ ?_ λe he=>?_
 .have e3:(λk'=>(bG T i ⟨(T i).ph,.inr (f k),(T i).τ.grow w w',g'⟩ k').ph.live)=λk'=>(T k').ph.live:=funext λj=>by rw[hp]
  rw[e3];refine h.dy.tr.less (λk' b _ hb=>?_) (λk' b _ hb=>?_) hg.size
  .by_cases hj:k'=i
   .subst hj;rw[upd_same] at hb;exact hb.imp id (·.1)
   .rw[upd_ne _ _ hj] at hb;exact .inl hb
  .by_cases hj:k'=i
   .subst hj;rw[upd_same] at hb;exact .inl hb
   .rw[upd_ne _ _ hj] at hb;exact .inl hb
 .rw[Pm]
  refine okL_evT (x3 e he) (λb hb=>.inl hb) (λb hb=>?_) (by have:=h.st.grp.live.lt;have:=hg.size;omega);have:=hS.bnd i b (by rw[Pm];exact hb);exact⟨this.1,this.2.1⟩
end
section
variable {L:Type}{P:bS}{ty:aM}{Wg:Nat}{A:jP L}{Fin:bC->aE->Prop}{Shun:Loc->Prop}
variable {gs:Array bC}{w w':aE}{t:lS}{T:Nat->Td L}{ch tT:qS}{sl:Option (Nat×Nat)}{i j:Nat}{x g':bC}{es:Array oO}
def ze7 (T:Nat->Td L)(i:Nat)(ph':Ph L)(r:Cp)(g':bC)(j:Nat):(bG T i ⟨ph',r,(T i).τ,g'⟩ j).τ=(T j).τ:=by
 by_cases hj:j=i
 .subst hj;simp[upd_same]
 .simp[upd_ne _ _ hj]
def zAh (T:Nat->Td L)(i:Nat){ph':Ph L}(r:Cp)(τ:cF)(g':bC)(h:ph'.live↔(T i).ph.live):(λk=>(bG T i ⟨ph',r,τ,g'⟩ k).ph.live)=λk=>(T k).ph.live:=by
 funext j;by_cases hj:j=i
 .subst hj;simp[upd_same,h]
 .simp[upd_ne _ _ hj]
def TI.phase {n B:Nat}{ph':Ph L}(r:Cp)(g':bC)(h:TI Wg n (λk=>(T k).τ.own) (λk b=>(T k).τ.still b\/(T k).τ.pass b) (λk=>(T k).ph.live) Shun B t)(hl:ph'.live↔(T i).ph.live):
 TI Wg n (λk=>(bG T i ⟨ph',r,(T i).τ,g'⟩ k).τ.own) (λk b=>(bG T i ⟨ph',r,(T i).τ,g'⟩ k).τ.still b\/(bG T i ⟨ph',r,(T i).τ,g'⟩ k).τ.pass b) (λk=>(bG T i ⟨ph',r,(T i).τ,g'⟩ k).ph.live) Shun B t:=by
 have e1:(λk'=>(bG T i ⟨ph',r,(T i).τ,g'⟩ k').τ.own)=λk'=>(T k').τ.own:=funext λj=>by rw[ze7]
 have e2:(λk' b=>(bG T i ⟨ph',r,(T i).τ,g'⟩ k').τ.still b\/(bG T i ⟨ph',r,(T i).τ,g'⟩ k').τ.pass b)=λk' b=>(T k').τ.still b\/(T k').τ.pass b:=funext λj=>by rw[ze7]
 rw[e1,e2,zAh T i r _ g' hl];exact h
def Inv.alive (h:Inv P ty Wg A Fin Shun gs w t T ch)(hi:gs[i]? =some x)(dM:lV x (T i).g)(aY:stepG P (i==0) (T i).g w=.go g' w' es)(lX:g'.status=.running){ι:Type}{f:ι->Rk}(hr:(T i).r=.inr (.mk ι f))
 (hl:(T i).ph.live) {ph':Ph L} (yQ:ph'.live) (a:Kg Wg w w') (J0:WgLive ty Wg w->WgLive ty Wg w')
 (hK:∃k,oX P ty Wg A Fin (f k) (i==0) ph' (n7 (hY t i) es) (T i).τ g' w') (h1:i≠0->¬ph'.waits)
 (zY:gS A ty Wg (bG (λj=>(T j).ph) i ph') gs.size w') (hinv:A.Inv (bG (λj=>(T j).ph.proj) i ph'.proj) ch) (hW:gA ty Wg w' 0 1->gA ty Wg w 0 1)
 (x3:∀e∈es,OkL Wg (T i).τ.own (λb=>(T i).τ.still b\/(T i).τ.pass b) i w'.heap.size e):vG P ty Wg A Fin Shun gs w t T sl i:=by
 have aN:i<gs.size:=(dO.1 hi).1;obtain⟨k,hB⟩:=hK;have oS:¬ph'.leaves:=λe=>by cases ph'<;>first|exact e.elim|exact yQ.elim
 have Ab:(T i).ph≠ .gone:=λe=>by rw[e] at hl;exact hl
 have hS:=h.st.phase (r:=.inr (f k)) (g':=g') Ab aN a ph' (λe=>by rw[e] at yQ;exact yQ) (λ_=>yQ) h1 J0 (λl e=>by cases ph'<;>simp_all [Ph.proj,Ph.live]) zY hinv;have Pm:bG T i ⟨ph',.inr (f k),(T i).τ,g'⟩ i=⟨ph',.inr (f k),(T i).τ,g'⟩:=upd_same _ _ _;refine Ze hi h.st.n0 (Ti:=⟨ph',.inr (f k),(T i).τ,g'⟩) zb6 P7 hS ?_
 refine h.dy.go hi ((pF (T:=⟨ph',.inr (f k),(T i).τ,g'⟩) oS).2 ⟨f k,rfl,hB,.inl (lV.self lX)⟩) Kf
  (λj _=>bU.of_aside a ⟨λe=>(h.st.bnd j Wg (.inl e)).2.1 rfl,λe=>(h.st.bnd j Wg (.inr e)).2.1 rfl⟩ J0) h.dy.keepC (h.dy.keepW hW) ?_
 refine hS.tiEvents aN (by rw[Pm];exact yQ) _ _ ?_ λe he=>?_
 .have:=h.dy.tr.phase (i:=i) (ph':=ph') (.inr (f k)) g' ⟨λ_=>hl,λ_=>yQ⟩
  rwa [a.size]
 .rw[Pm];exact x3 e he
def Inv.dead (h:Inv P ty Wg A Fin Shun gs w t T ch)(hi:gs[i]? =some x)(dM:lV x (T i).g)(aY:stepG P (i==0) (T i).g w=.go g' w' es)(nK:g'.status≠ .blocked){Ti:Td L}(hr:Cl Ti.r (T i).r)(hτ:Ti.τ=(T i).τ)
 (hl:¬(T i).ph.live) (hg:(T i).ph≠ .gone) (h0:i≠0) (yQ:¬Ti.ph.live) (wQ:Ti.ph≠ .gone) (a:Kg Wg w w') (J0:WgLive ty Wg w->WgLive ty Wg w')
 (zkt:Sits P ty Wg A Fin i Ti (n7 (hY t i) es) g' w') (zan:Ti.ph.proj=(T i).ph.proj)
 (zY:gS A ty Wg (bG (λj=>(T j).ph) i Ti.ph) gs.size w') (hW:(mayWake P (T i).g=true/\g'.status=.running)\/(gA ty Wg w' 0 1->gA ty Wg w 0 1))
 (x3:∀(l r:List oO) (e:oO),es.toList=l++e::r->(∀a,(jK e).touch? =some a->nF a.loc Wg/\a.kind=.atomic/\0<n7 (hY t i) l.toArray)/\jK e≠ .mark (.release (stA Wg))/\(jK e).low w'.heap.size):vG P ty Wg A Fin Shun gs w t T sl i:=by
 have aN:=(dO.1 hi).1;obtain⟨ph',r',τ',Tk⟩:=Ti;simp only at hτ yQ wQ zan zY hr;subst hτ;have Lo:bG (λj=>(T j).ph.proj) i ph'.proj=λj=>(T j).ph.proj:=by rw[zan];exact zfS (λj=>(T j).ph.proj) i
 have hS:=h.st.phase (r:=r') (g':=Tk) hg aN a ph' wQ (λe=>absurd e h0) (λ_ e=>by cases ph'<;>first|exact e.elim|exact yQ e) J0 (λl e=>.inl (by rw[<-zan];exact e)) zY (by rw[Lo];exact h.st.inv);refine Ze hi h.st.n0 (Ti:=⟨ph',r',(T i).τ,Tk⟩) zb6 hr hS ?_
 refine h.dy.go hi zkt nK
  (λj _=>bU.of_aside a ⟨λe=>(h.st.bnd j Wg (.inl e)).2.1 rfl,λe=>(h.st.bnd j Wg (.inr e)).2.1 rfl⟩ J0) h.dy.keepC ?_ ?_
 .intro fR x0 sV xI hb cM
  rcases hW with⟨hm,vT⟩|hW
  .exfalso
   have hs:=h.dy.sit 0 x0 sV;rw[pF (by rw[xI];exact id)] at hs;obtain⟨_,_,_,hx|⟨_,_,_,hx,_⟩|⟨_,hx,ho⟩⟩:=hs
   .rw[hx.1] at hb;cases hb
   .rw[xI] at hx;cases hx
   .have zf4:mayWake P x=true:=by
     rw[<-hm];unfold mayWake;rw[dM.2.1]
    rw[hx] at cM;unfold woken at cM;rw[zf4,vT] at cM;simp[zhf,ho] at cM
  .exact h.dy.slpW x0 sV xI hb∘hW
 .have h1:=h.dy.tr.phase (i:=i) (ph':=ph') r' Tk ⟨λe=>absurd e yQ,λe=>absurd e hl⟩
  have h2:TI Wg gs.size (λk=>(bG T i ⟨ph',r',(T i).τ,Tk⟩ k).τ.own) (λk b=>(bG T i ⟨ph',r',(T i).τ,Tk⟩ k).τ.still b\/(bG T i ⟨ph',r',(T i).τ,Tk⟩ k).τ.pass b) (λk=>(bG T i ⟨ph',r',(T i).τ,Tk⟩ k).ph.live) Shun w'.heap.size t:=by rwa [a.size]
  have:=h2.deafs (k:=i) aN hS.noWg x.frame.fn x.frame.place es.toList x3;simpa using this
def zrm {n B d:Nat}{es:Array oO}(hm:∀e∈es,zen e=true):∀(l r:List oO) (e:oO),es.toList=l++e::r->(∀a,(jK e).touch? =some a->nF a.loc Wg/\a.kind=.atomic/\0<n7 d l.toArray)/\jK e≠ .mark (.release (stA Wg))/\(jK e).low B:=by
 intro l r e he;have zeW:=hm e (by rw[<-Array.mem_toList_iff,he];simp);have:=zhi (Wg:=Wg) (own:=λ_=>False) (pas:=λ_=>False) (k:=0) (B:=B) zeW;exact⟨λa ha=>(by rw[zmx zeW] at ha;cases ha),this.2.1,this.2.2⟩
def Inv.idle1 {K:Bool->Ph L->Nat->cF->bC->aE->Prop}(h:Inv P ty Wg A Fin Shun gs w t T ch)(hi:gs[i]? =some x)(dM:lV x (T i).g)(hl:¬(T i).ph.live)(oS:¬(T i).ph.leaves){ι:Type}{f:ι->Rk}(hr:(T i).r=.inr (.mk ι f))
 (hK:∀m ph d τ g w,K m ph d τ g w->∃k,oX P ty Wg A Fin (f k) m ph d τ g w) (ho:za2 P ty Wg K (i==0) (T i).ph (hY t i) (T i).τ (T i).g w):vG P ty Wg A Fin Shun gs w t T sl i:=by
 obtain⟨g',es,aY,lX,hm,hk⟩:=ho w bU.refl;obtain⟨k,hB⟩:=hK _ _ _ _ _ _ hk;have h0:i≠0:=λe=>by subst e;exact hl h.st.role0
 have Ab:(T i).ph≠ .gone:=λe=>by rw[e] at oS;exact oS trivial
 have eu:=zfS (λj=>(T j).ph) i
 exact h.dead hi dM aY Kf (Ti:=⟨(T i).ph,.inr (f k),(T i).τ,g'⟩) P7 rfl hl Ab h0 hl Ab (Mp _ _) id
  ((pF (T:=⟨(T i).ph,.inr (f k),(T i).τ,g'⟩) oS).2 ⟨f k,rfl,hB,.inl (lV.self lX)⟩) rfl (by rw[eu];exact h.st.grp) (.inr id) (zrm (n:=0) hm)
def Inv.release (hA:A.Ok)(h:Inv P ty Wg A Fin Shun gs w t T ch)(hi:gs[i]? =some x)(dM:lV x (T i).g)(aY:stepG P (i==0) (T i).g w=.go g' w #[oL (.releaseMerge (stA Wg))])(lX:g'.status=.running){ι:Type}{f:ι->Rk}(hr:(T i).r=.inr (.mk ι f))
 {l:L} (hl:(T i).ph=.usr l) (pT:A.act l=.done) (hd:hY t i=0) (tJ:∀aI,bU ty Wg (T i).τ w aI->A.dep l aI)
 (hK:∃k,oX P ty Wg A Fin (f k) (i==0) (.rel l) 0 (T i).τ g' w):vG P ty Wg A Fin Shun gs w t T sl i:=by
 have aN:=(dO.1 hi).1;obtain⟨k,hB⟩:=hK;obtain⟨h0,hinv⟩:=hA.done _ ch i l h.st.inv (by show(T i).ph.proj=_;rw[hl];rfl) pT;have zY:gS A ty Wg (bG (λj=>(T j).ph) i (.rel l)) gs.size w:=by
  refine h.st.grp.congr (.inl (upd_ne _ _ (Ne.symm h0))) ?_ λj hj=>?_
  .unfold vv
   rw[zdn A _ h0];have:=zdY (λj=>(T j).ph) (i:=i) (n:=gs.size) (.rel l) aN h0;simp only[hl,Ph.pre,if_true] at this;omega
  .by_cases eO:j=i
   .subst eO;rw[upd_same] at hj
    have:=hj;rw[hl] at this;exact(this.elim id id).elim
   .exact upd_ne _ _ eO
 have hS:=h.st.phase (r:=.inr (f k)) (g':=g') (by rw[hl];simp) aN (Mp _ _) (.rel l) aQ (λe=>absurd e h0) (λ_ e=>e) id (λl' e=>.inr (by
  simp only[Ph.proj,Pj.over.injEq] at e;subst e;exact tJ)) zY hinv
 refine Ze hi h.st.n0 (Ti:=⟨.rel l,.inr (f k),(T i).τ,g'⟩) zb6 P7 hS ?_;refine h.dy.go hi ((pF (T:=⟨.rel l,.inr (f k),(T i).τ,g'⟩) (by exact id)).2 ⟨f k,rfl,?_,.inl (lV.self lX)⟩) Kf (λj _=>bU.refl) h.dy.keepC (h.dy.keepW id) ?_
 .have:n7 (hY t i) #[oL (.releaseMerge (stA Wg))]=0:=by rw[hd];rfl
  rw[this];exact hB
 .have e1:(λk'=>(bG T i ⟨.rel l,.inr (f k),(T i).τ,g'⟩ k').τ.own)=λk'=>(T k').τ.own:=funext λj=>by rw[ze7]
  have e2:(λk' b=>(bG T i ⟨.rel l,.inr (f k),(T i).τ,g'⟩ k').τ.still b\/(bG T i ⟨.rel l,.inr (f k),(T i).τ,g'⟩ k').τ.pass b)=λk' b=>(T k').τ.still b\/(T k').τ.pass b:=funext λj=>by rw[ze7]
  rw[e1,e2];have mH:vW i x.frame.fn x.frame.place #[oL (.releaseMerge (stA Wg))]=#[{g:=i,fn:=x.frame.fn,pos:=x.frame.place,act:=.mark (.releaseMerge (stA Wg))}]:=by simp[vW,oL,jK]
  rw[mH];refine h.dy.tr.release aN rfl rfl hd h.st.grp.live.lt (λj hj=>?_) λj hj=>?_
  .by_cases eO:j=i
   .subst eO;rw[upd_same] at hj;exact hj.elim
   .rw[upd_ne _ _ eO] at hj;exact hj
  .by_cases eO:j=i
   .exact .inr eO
   .left;rw[upd_ne _ _ eO];exact hj
def Inv.acquire (h:Inv P ty Wg A Fin Shun gs w t T ch)(hi:gs[0]? =some x)(dM:lV x (T 0).g)(aY:stepG P true (T 0).g w=.go g' w #[oL (.acquire (stA Wg))])(lX:g'.status=.running)(hd:hY t 0=0)
 (hq:∀j,j≠0->(T j).ph.leaves) (hF:Fin g' w):vG P ty Wg A Fin Shun gs w t T sl 0:=by
 have aN:0<gs.size:=h.st.n0;have Nd:stepG P (0==0) x w=.go g' w #[oL (.acquire (stA Wg))]:=by rw[show((0:Nat)==0)=true from rfl,dM.step];exact aY
 refine⟨_,_,Yq hi Nd,.inl ⟨_,g',w,sl,λj=>match(T j).r with| .inl q=>q|_=>0,rfl,by simp[aN],lX,hF,?_⟩⟩;have mH:vW 0 x.frame.fn x.frame.place #[oL (.acquire (stA Wg))]=#[{g:=0,fn:=x.frame.fn,pos:=x.frame.place,act:=.mark (.acquire (stA Wg))}]:=by simp[vW,oL,jK]
 rw[mH]
 obtain⟨hP,qQ⟩:=h.dy.tr.acquire (y:={g:=0,fn:=x.frame.fn,pos:=x.frame.place,act:=.mark (.acquire (stA Wg))}) aN rfl rfl hd h.st.grp.live.lt (λj hj=>by
  refine yZ λaT=>?_;have:=hq j aT;have o6:(T j).ph.live:=hj;cases hp:(T j).ph<;>rw[hp] at this o6<;>first|exact this.elim|exact o6.elim)
 refine⟨⟨λj y hj hy=>?_,λj hj=>qQ j zax⟩,hP⟩;have aT:0≠j:=aC;rw[jQ aT,x7] at hy;obtain⟨y0,Q1,rfl⟩:=xK.1 hy;have hs:=h.dy.sit j y0 Q1;rw[Gm (hq j aC)] at hs;obtain⟨q,Ol,hQ⟩:=hs;rw[zlO hQ,Mj t (g:=j) (g':=0) aT _ (λop hop=>by simp at hop;rw[hop])];simp only[Ol];exact hQ
end
end Go.Mt
namespace Go.Mt
open Go.Conc
open Go.ConcR (KK wgBlock WgAt stA smA rd wr)
section
variable {L:Type}{P:bS}{ty:aM}{Wg:Nat}{A:jP L}{Fin:bC->aE->Prop}{Shun:Loc->Prop}
variable {gs gs':Array bC}{w w':aE}{t t':lS}{T T':Nat->Td L}{ch tT:qS}{sl:Option (Nat×Nat)}{i j:Nat}{x g':bC}{es:Array oO}
def Ey.gen (h:Ey (P:=P) (ty:=ty) (Wg:=Wg) (A:=A) (Fin:=Fin) gs w t T ch Shun)(M:Nat->Prop)(ziW:∀j,¬M j->gs'[j]? =gs[j]? /\T' j=T j)
 (zjo:∀j y,M j->gs'[j]? =some y->y.status≠ .blocked/\Sits P ty Wg A Fin j (T' j) (hY t' j) y w') (zj9:∀j,¬M j->bU ty Wg (T j).τ w w') (zAE:∀j,¬M j->hY t' j=hY t j)
 (tP:∀c,tT c=some true->ch c=some true) (hW:gA ty Wg w' 0 1->gA ty Wg w 0 1)
 (zlG:TI Wg gs'.size (λk=>(T' k).τ.own) (λk b=>(T' k).τ.still b\/(T' k).τ.pass b) (λk=>(T' k).ph.live) Shun w'.heap.size t'):
 Ey (P:=P) (ty:=ty) (Wg:=Wg) (A:=A) (Fin:=Fin) gs' w' t' T' tT Shun:=by
 have old:∀(j:Nat) (g:bC) (cs:Array zh9) (sh:Nz),gs'[j]? =some (parked g cs sh)->gs[j]? =some (parked g cs sh):=by
  intro j g cs sh hj;by_cases hm:M j
  .exact absurd rfl (zjo j _ hm hj).1
  .rw[<-(ziW j hm).1];exact hj
 refine⟨λj y hj=>?_,λa b ga gb c v z z' sh wV ha hb=>h.slp a b ga gb c v z z' sh wV (old _ _ _ _ ha) (old _ _ _ _ hb),λj g c z sh hj hc=>h.slpC j g c z sh (old _ _ _ _ hj) (tP c hc),λy hy xI hb=>?_,zlG⟩
 .by_cases hm:M j
  .exact(zjo j y hm hj).2
  .obtain⟨h1,h2⟩:=ziW j hm
   rw[h2,zAE j hm];rw[h1] at hj;exact(h.sit j y hj).rely (zj9 j hm)
 .by_cases hm:M 0
  .exact absurd hb (zjo 0 y hm hy).1
  .obtain⟨h1,h2⟩:=ziW 0 hm
   rw[h1] at hy;rw[h2] at xI;exact λe=>h.slpW y hy xI hb (hW e)
def zlY (t:lS)(g:Nat)(u:lS)(hu:∀op∈u,op.act≠ .mark .disable/\op.act≠ .mark .enable):hY (t++u) g=hY t g:=by
 obtain⟨l⟩:=u;rw[Deaf_append];have key:∀(l:List Se) (d:Nat),(∀op∈l,op.act≠ .mark .disable/\op.act≠ .mark .enable)->l.foldl (deafStep g) d=d:=by
  intro l
  induction l with
  |nil=>intro d _;rfl
  |cons y l ih=>
   intro d hl;have e:deafStep g d y=d:=by
    have:=hl y aQ;unfold deafStep;split<;>simp_all
   rw[List.foldl_cons,e];exact ih d λop hop=>hl op (by simp[hop])
 exact key l _ λop hop=>hu op (by simpa using hop)
def TI.idles {n B:Nat}{own pas:Nat->Nat->Prop}{live:Nat->Prop}:∀(u:List Se) {t:lS},TI Wg n own pas live Shun B t->(∀op∈u,op.g<n/\op.act.touch? =none/\op.act≠ .mark (.release (stA Wg))/\op.act.low B)->TI Wg n own pas live Shun B (t++u.toArray)
 |[],t,h,_=>by simpa using h
 |y::u,t,h,hu=>by
  have e1:t++(y::u).toArray=(t++ #[y])++u.toArray:=by apply Iq;simp
  rw[e1];obtain⟨h1,h2,h3,h4⟩:=hu y aQ;exact TI.idles u (h.idle h1 (λa ha=>by rw[h2] at ha;cases ha) h3 h4) λop hop=>hu op (by simp[hop])
def Inv.offerR (h:Inv P ty Wg A Fin Shun gs w t T ch){k c:Nat}{y:bC}(hk:gs[k]? =some y)(aT:offersAt y c false≠[]):
 ∃l ok nx s z b,(T k).ph=.usr l/\A.act l=.recv c ok nx s/\y=parked (T k).g #[rcase c z] (.recv b)/\(∀aI,bU ty Wg (T k).τ w aI->stepG P (k==0) (T k).g aI=.comm (T k).g #[rcase c z] true (.recv b) aI #[]):=by
 have hs:=h.dy.sit k y hk;by_cases hl:(T k).ph.leaves
 .rw[Gm hl] at hs
  obtain⟨q,_,hQ⟩:=hs;refine absurd (Vl ?_ c false) aT;rcases hQ.status with e|e<;>rw[e]<;>simp
 .rw[pF hl] at hs
  obtain⟨r,_,_,hx|⟨l,cs,sh,h1,rfl,h3,h4⟩|⟨_,rfl,ho⟩⟩:=hs
  .exact absurd (Vl (by rw[hx.1];simp) c false) aT
  .rcases h4 with⟨c',ok,pub,nx,v,z,h5,rfl,rfl⟩|⟨c',ok,nx,s,z,b,h5,rfl,rfl⟩
   .exact absurd (offersAt_parked_send' _ _ _ _ _ _) aT
   .rw[zlj] at aT
    by_cases hc:c'=c
    .subst hc;exact⟨l,ok,nx,s,z,b,h1,h5,rfl,h3⟩
    .rw[if_neg hc] at aT;exact absurd rfl aT
  .refine absurd ?_ aT
   simp[offersAt,ho]
def Inv.offerS (h:Inv P ty Wg A Fin Shun gs w t T ch){k c:Nat}{y:bC}(hk:gs[k]? =some y)(aT:offersAt y c true≠[]):
 ∃l ok pub nx v z,(T k).ph=.usr l/\A.act l=.send c ok pub nx/\y=parked (T k).g #[scase c v z] .send/\(∀aI,bU ty Wg (T k).τ w aI->stepG P (k==0) (T k).g aI=.comm (T k).g #[scase c v z] true .send aI #[]):=by
 have hs:=h.dy.sit k y hk;by_cases hl:(T k).ph.leaves
 .rw[Gm hl] at hs
  obtain⟨q,_,hQ⟩:=hs;refine absurd (Vl ?_ c true) aT;rcases hQ.status with e|e<;>rw[e]<;>simp
 .rw[pF hl] at hs
  obtain⟨r,_,_,hx|⟨l,cs,sh,h1,rfl,h3,h4⟩|⟨_,rfl,ho⟩⟩:=hs
  .exact absurd (Vl (by rw[hx.1];simp) c true) aT
  .rcases h4 with⟨c',ok,pub,nx,v,z,h5,rfl,rfl⟩|⟨c',ok,nx,s,z,b,h5,rfl,rfl⟩
   .rw[znN] at aT
    by_cases hc:c'=c
    .subst hc;exact⟨l,ok,pub,nx,v,z,h1,h5,rfl,h3⟩
    .rw[if_neg hc] at aT;exact absurd rfl aT
   .exact absurd (offersAt_parked_recv' _ _ _ _ _) aT
  .refine absurd ?_ aT
   simp[offersAt,ho]
def setChan_at (w:aE)(c cap:Nat)(Jw:Array aF)(cl:Bool)(s r:Nat)(tm:Bool)(h:c<w.heap.size):(w.setChan c cap Jw cl s r tm).heap[c]? =some (.chan cap Jw cl s r tm):=by
 simp[K9,h]
def zut (w:aE)(c cap:Nat)(Jw:Array aF)(cl:Bool)(s r:Nat)(tm:Bool):Kg c w (w.setChan c cap Jw cl s r tm):=
 ⟨rfl,rfl,rfl,by simp[K9],λk hk=>by simp only[K9];rw[jQ (Ne.symm hk)]⟩
def Inv.meet (hA:A.Ok)(h:Inv P ty Wg A Fin Shun gs w t T ch)(rD:i≠j)(n9:i<gs.size)(Zh:j<gs.size){c:Nat}{li lj:L}{ok pD:aF->Prop}{pub:aF->List Nat}{nx nH:aF->L}{sh:L}
 (zjZ:(T i).ph=.usr li) (Sl:A.act li=.send c ok pub nx) (zjO:(T j).ph=.usr lj) (zkq:A.act lj=.recv c pD nH sh) {ιi ιj:Type} {fi:ιi->Rk} {fj:ιj->Rk} (zFL:(T i).r=.inr (.mk ιi fi)) (Ny:(T j).r=.inr (.mk ιj fj))
 {v:aF} {τ':cF} {b:Bool} (bV:ok v) (ho:∀b,τ'.own b->(T i).τ.own b) (aY:τ'.still=(T i).τ.still) (J5:∀b,τ'.pass b->(T i).τ.pass b\/(T i).τ.own b)
 (Dg:∀a∈pub v,(T i).τ.own a/\¬τ'.own a/\¬τ'.still a/\Jq w a)
 (zzX:∃k,oX P ty Wg A Fin (fi k) (i==0) (.usr (nx v)) (hY t i) τ' (oU (T i).g aA) w)
 (zGj:pD v->(∀a∈A.got lj v,a<w.heap.size/\¬(T j).τ.own a/\¬(T j).τ.still a)->∃k,oX P ty Wg A Fin (fj k) (j==0) (.usr (nH v)) (hY t j) (T j).τ (oU (T j).g (recvd b v true)) w)
 {s r:Nat} (hc:w.heap[c]? =some (.chan 0 #[] false s r false)) (cJ:gs'.size=gs.size) (Ep:gs'[i]? =some (oU (T i).g aA)) (zaG:gs'[j]? =some (oU (T j).g (recvd b v true)))
 (zFy:∀k,k≠i->k≠j->gs'[k]? =gs[k]?) {u:lS} (hu:∀op∈u,op.g<gs.size/\op.act.touch? =none/\op.act≠ .mark (.release (stA Wg))/\op.act.low w.heap.size/\op.act≠ .mark .disable/\op.act≠ .mark .enable):
 ∃T' tT,Inv P ty Wg A Fin Shun gs' (w.setChan c 0 #[] false (s+1) (r+1) false) (t++u) T' tT/\Mu.lt (mu gs' T') (mu gs T):=by
 have zb8:(λk=>(T k).ph.proj) i=.run li:=by show(T i).ph.proj=_;rw[zjZ];rfl
 have Lo:(λk=>(T k).ph.proj) j=.run lj:=by show(T j).ph.proj=_;rw[zjO];rfl
 have Mx:=hA.sendC _ ch i li c ok pub nx h.st.inv zb8 Sl;obtain⟨zBF,hinv⟩:=hA.meet _ ch i j li lj c ok pub nx pD nH sh v h.st.inv zb8 Lo Sl zkq bV λa ha=>(h.st.bnd i a (.inl (Dg a ha).1)).2.2;obtain⟨ki,zEu⟩:=zzX
 obtain⟨kj,zDg⟩:=zGj zBF λa ha=>by
  obtain⟨p1,_,_,p4⟩:=Dg a (hA.gotP _ ch i j li lj c ok pub nx pD nH sh v h.st.inv zb8 Lo Sl zkq bV a ha);obtain⟨q1,q2,_⟩:=h.st.sep i j a rD p1;exact⟨(dO.1 p4).1,q1,q2⟩
 have Ip:=(dO.1 hc).1;have a:=zut w c 0 #[] false (s+1) (r+1) false;have y7:=(h.st.chan c _ Mx).1
 have hS:=h.st.meet rD n9 Zh Mx a zjZ zjO (.inr (fi ki)) (.inr (fj kj)) (oU (T i).g aA) (oU (T j).g (recvd b v true)) τ' (pub v) ho aY J5 Dg
  ⟨s+1,r+1,setChan_at w c 0 #[] false (s+1) (r+1) false Ip⟩ (li':=nx v) (lj':=nH v) (hA.pendC li _ c v ok pub nx Sl rfl) (hA.pendR lj _ c v pD nH sh zkq (.inl rfl)) hinv
 have nc:∀k,¬(T k).τ.own c/\¬(T k).τ.still c:=λk=>⟨λe=>zwb,λe=>ztI⟩;have Kc:∀k,hY (t++u) k=hY t k:=λk=>zlY t k u λop hop=>⟨(hu op hop).2.2.2.2.1,(hu op hop).2.2.2.2.2⟩;generalize hU:bG (bG T i ⟨.usr (nx v),.inr (fi ki),τ',oU (T i).g aA⟩) j ⟨.usr (nH v),.inr (fj kj),(T j).τ,oU (T j).g (recvd b v true)⟩=U at hS;have ui:U i=⟨.usr (nx v),.inr (fi ki),τ',oU (T i).g aA⟩:=by rw[<-hU,upd_ne _ _ rD,upd_same]
 have uj:U j=⟨.usr (nH v),.inr (fj kj),(T j).τ,oU (T j).g (recvd b v true)⟩:=by rw[<-hU,upd_same]
 have uk:∀k,k≠i->k≠j->U k=T k:=λk h1 h2=>by rw[<-hU,upd_ne _ _ h2,upd_ne _ _ h1]
 refine⟨U,ch.opn (pub v),⟨by rw[cJ];exact hS,h.dy.gen (λk=>k=i\/k=j) (λk hk=>⟨zFy k (λe=>hk (.inl e)) (λe=>hk (.inr e)),uk k (λe=>hk (.inl e)) (λe=>hk (.inr e))⟩) (λk y hk hy=>?_)
  (λk _=>bU.of_aside a (nc k) (Xq a y7)) (λk _=>Kc k) (λc' kM=>?_) (λe=>(a.block Wg (Ne.symm y7)).symm.trans e) ?_⟩,?_⟩
 .rcases hk with rfl|rfl
  .rw[Ep] at hy;cases hy
   refine⟨by simp[oU],?_⟩;rw[ui,Kc];refine(pF (T:=⟨.usr (nx v),.inr (fi ki),τ',oU (T k).g aA⟩) id).2 ⟨fi ki,rfl,zEu.rely (bU.of_aside a ⟨λe=>(nc k).1 (ho c e),λe=>(nc k).2 (aY▸e)⟩ (Xq a y7)),.inl (lV.self rfl)⟩
  .rw[zaG] at hy;cases hy
   refine⟨by simp[oU],?_⟩;rw[uj,Kc];exact(pF (T:=⟨.usr (nH v),.inr (fj kj),(T k).τ,oU (T k).g (recvd b v true)⟩) id).2 ⟨fj kj,rfl,zDg.rely (bU.of_aside a (nc k) (Xq a y7)),.inl (lV.self rfl)⟩
 .by_cases hp:c'∈pub v
  .rw[zfP hp] at kM;cases kM
  .rw[Yn hp] at kM;exact kM
 .rw[cJ,a.size]
  have h1:=h.dy.tr.idles u.toList (λop hop=>by have:=hu op (by simpa using hop);exact⟨this.1,this.2.1,this.2.2.1,this.2.2.2.1⟩);have e0:u.toList.toArray=u:=aQ;rw[e0] at h1;have e3:(λk=>(U k).ph.live)=λk=>(T k).ph.live:=funext λk=>by
   by_cases k1:k=i
   .subst k1;rw[ui,zjZ];rfl
   .by_cases k2:k=j
    .subst k2;rw[uj,zjO];rfl
    .rw[uk k k1 k2]
  rw[e3];refine h1.less (λk b _ hb=>?_) (λk b _ hb=>?_) (aX _)
  .by_cases k1:k=i
   .subst k1;rw[ui] at hb;exact .inl (ho b hb)
   .by_cases k2:k=j
    .subst k2;rw[uj] at hb;exact .inl hb
    .rw[uk k k1 k2] at hb;exact .inl hb
  .by_cases k1:k=i
   .subst k1;rw[ui] at hb
    rcases hb with hb|hb
    .exact .inl (.inl (aY▸hb))
    .exact(J5 b hb).elim (λe=>.inl (.inr e)) λe=>.inr (.inl e)
   .by_cases k2:k=j
    .subst k2;rw[uj] at hb;exact .inl hb
    .rw[uk k k1 k2] at hb;exact .inl hb
 .rcases mX i j with aN|Cb
  .exact Yv (i:=i) (λ_=>cJ) aC n9 aC (by rw[ui,zFL];exact .inr (.mk fi ki)) λk hk=>by rw[uk k aC aC]
  .exact Yv (i:=j) (λ_=>cJ) aC Zh aC (by rw[uj,Ny];exact .inr (.mk fj kj)) λk hk=>by rw[uk k aC aC]
def zzl {xs:Array bC}{i:Nat}{y z:bC}(h:xs[i]? =some y)(hy:N2 y=true)(hz:N2 z=false):(xs.setIfInBounds i z).countP N2<xs.countP N2:=by
 obtain⟨aN,rfl⟩:=dO.1 h;have e:xs.setIfInBounds i z=xs.set i z:=by simp[Array.setIfInBounds,aN]
 rw[e,Array.countP_set aN];have:=Array.countP_pos_iff.2 ⟨xs[i],Array.getElem_mem aN,hy⟩;simp only[hy,hz,if_true,jF,if_false];omega
def Inv.park (h:Inv P ty Wg A Fin Shun gs w t T ch)(hi:gs[i]? =some x)(cG:x.status=.running)(oS:¬(T i).ph.leaves){y:bC}(hy:y.status=.blocked)
 (hP:zd4 P ty Wg A (i==0) (T i) y w\/zlJ (T i) y) (hW:i=0->(T 0).ph=.w3->¬gA ty Wg w 0 1)
 (hR:∀(c:Nat) (v z:aF) (sh:Nz) (g:bC),y=parked g #[scase c v z] sh->∀(k:Nat) (yk:bC),gs[k]? =some yk->offersAt yk c false=[]) (hS:∀(c:Nat) (z:aF) (sh:Nz) (g:bC),y=parked g #[rcase c z] sh->ch c≠some true/\∀(k:Nat) (yk:bC),gs[k]? =some yk->offersAt yk c true=[]):
 Inv P ty Wg A Fin Shun (gs.setIfInBounds i y) w (t++ #[]) T ch/\Mu.lt (mu (gs.setIfInBounds i y) T) (mu gs T):=by
 have aN:=(dO.1 hi).1;have cJ:(gs.setIfInBounds i y).size=gs.size:=aQ;have get:∀(k:Nat) (z:bC),(gs.setIfInBounds i y)[k]? =some z->(k=i/\z=y)\/(k≠i/\gs[k]? =some z):=by
  intro k z hk;by_cases Dn:i=k
  .subst Dn
   rw[Kd aN] at hk;exact .inl ⟨rfl,(cE hk).symm⟩
  .rw[jQ Dn] at hk
   exact .inr ⟨λe=>Dn e.symm,hk⟩
 have et:t++ #[]=t:=aQ;refine⟨⟨by rw[cJ];exact h.st,?_⟩,mu_dec' cJ (zzl hi (by simp[N2,cG]) (by simp[N2,hy]))⟩;rw[et];refine⟨λk z hk=>?_,λa b ga gb c v z z' sh wV ha hb=>?_,λk g c z sh hk=>?_,λz hz xI hb=>?_,by rw[cJ];exact h.dy.tr⟩
 .rcases get k z hk with⟨rfl,rfl⟩|⟨aT,cP⟩
  .have hs:=h.dy.sit k x hi
   rw[pF oS] at hs⊢;obtain⟨r,h1,h2,_⟩:=hs;exact⟨r,h1,h2,.inr hP⟩
  .exact h.dy.sit k z cP
 .rcases get a _ ha with⟨ea,fI⟩|⟨M0,fI⟩
  .rcases get b _ hb with⟨eb,bZ⟩|⟨nK,bZ⟩
   .rw[<-fI] at bZ
    simp[parked,rcase,scase] at bZ
   .have:=hR c v z sh ga fI.symm b _ bZ
    rw[zlj] at this;simp at this
  .rcases get b _ hb with⟨eb,bZ⟩|⟨nK,bZ⟩
   .have:=(hS c z' wV gb bZ.symm).2 a _ fI
    rw[znN] at this;simp at this
   .exact h.dy.slp a b ga gb c v z z' sh wV fI bZ
 .rcases get k _ hk with⟨_,e⟩|⟨_,cP⟩
  .exact(hS c z sh g e.symm).1
  .exact h.dy.slpC k g c z sh cP
 .rcases get 0 z hz with⟨e,_⟩|⟨_,cP⟩
  .exact hW e.symm xI
  .exact h.dy.slpW z cP xI hb
end
section
variable {L:Type}{P:bS}{ty:aM}{Wg:Nat}{A:jP L}{Fin:bC->aE->Prop}{Shun:Loc->Prop}
variable {gs gs':Array bC}{w w':aE}{t t':lS}{T T':Nat->Td L}{ch tT:qS}{sl:Option (Nat×Nat)}{i j:Nat}{x g':bC}{es:Array oO}
def zd0 (i:Nat)(fn:aO)(pos:String):vW i fn pos #[]=#[]:=rfl
variable {b:Bool}
def zlb {c:Nat}(h:∀(k:Nat) (y:bC),gs[k]? =some y->offersAt y c b=[]):partners (gs.setIfInBounds i zgT) c b=[]:=by
 refine partners_nil λk y hk=>?_;rcases zr9 gs i k y hk with⟨_,rfl⟩|⟨_,cP⟩
 .rfl
 .exact h k y cP
def zs1 {c k:Nat}{y:bC}(Dn:k≠i)(hk:gs[k]? =some y)(ho:offersAt y c b=[0])(h:∀(m:Nat) (z:bC),m≠k->gs[m]? =some z->offersAt z c b=[]):partners (gs.setIfInBounds i zgT) c b=[(k,0)]:=by
 rw[partners_one (stand_get Dn hk) λm z hm hz=>?_,ho]
 .rfl
 .rcases zr9 gs i m z hz with⟨_,rfl⟩|⟨_,Ga⟩
  .rfl
  .exact h m z hm Ga
def Inv.send (hA:A.Ok)(h:Inv P ty Wg A Fin Shun gs w t T ch)(hi:gs[i]? =some x)(dM:lV x (T i).g){ι:Type}{f:ι->Rk}(hr:(T i).r=.inr (.mk ι f)){l:L}(hl:(T i).ph=.usr l){c:Nat}{ok:aF->Prop}{pub:aF->List Nat}{nx:aF->L}
 (ha:A.act l=.send c ok pub nx) (hB:mF P ty Wg A (λm ph d τ g w=>∃k,oX P ty Wg A Fin (f k) m ph d τ g w) (i==0) l (hY t i) (T i).τ (T i).g w):vG P ty Wg A Fin Shun gs w t T sl i:=by
 have aN:i<gs.size:=(dO.1 hi).1;unfold mF at hB;rw[ha] at hB;obtain⟨C9,v,z,τ',h1,h2,h3,h4,Kk,h5,h6⟩:=hB;have hp:(λk=>(T k).ph.proj) i=.run l:=by show(T i).ph.proj=_;rw[hl];rfl
 have Mx:=hA.sendC _ ch i l c ok pub nx h.st.inv hp ha;obtain⟨_,s,r,hc⟩:=h.st.chan c _ Mx;have vN:stepG P (i==0) x w=.comm (T i).g #[scase c v z] true .send w #[]:=by rw[dM.step];exact h1 w bU.refl
 by_cases hk:∃(k:Nat) (y:bC),gs[k]? =some y/\offersAt y c false≠[]
 .obtain⟨k,y,hk,aT⟩:=hk
  have Dn:k≠i:=λe=>by
   subst e;rw[hi] at hk;cases hk;exact aT (Vl (by rw[dM.1];simp) c false)
  have Xk:k<gs.size:=(dO.1 hk).1;obtain⟨lk,pD,nH,sh,zk,b,xE,Od,rfl,zb7⟩:=h.offerR hk aT;have ziZ:(λk=>(T k).ph.proj) k=.run lk:=by show(T k).ph.proj=_;rw[xE];rfl
  have zh4:partners (gs.setIfInBounds i zgT) c false=[(k,0)]:=by
   refine zs1 Dn hk (by rw[zlj];simp) λm y' hm znt=>yZ λhn=>?_;obtain⟨lm,zj5,zhX,sm,_,_,Vs,zlp,_⟩:=h.offerR znt hn;exact hm (hA.recv1 _ ch m k lm lk c zj5 zhX sm pD nH sh h.st.inv (by show(T m).ph.proj=_;rw[Vs];rfl) ziZ zlp Od)
  have zaZ:=crowd_send_meets (P:=P) (sl:=sl) hi vN hc Dn hk zh4;have hs:=h.dy.sit k _ hk;rw[pF (by rw[xE];exact id)] at hs;obtain⟨rk,zhR,x8,_⟩:=hs
  cases rk with
  |mk ιk fk=>
   obtain⟨_,x8⟩:=x8;rw[xE] at x8;rcases x8 with x8|x8
   .obtain⟨g',w',es,aY,_⟩:=x8 w bU.refl
    rw[zb7 w bU.refl] at aY;cases aY
   .simp only[zR,mF,Od] at x8
    obtain⟨_,z',b',o5,vA,Ik⟩:=x8;have e:=(o5 w bU.refl).symm.trans (zb7 w bU.refl);simp only[zyr,rcase,zf3,Ww,zg6,zzk,true_and,and_true] at e;obtain⟨_,eb⟩:=e;subst eb
    obtain⟨T',tT,hI,Jx⟩:=h.meet hA (Ne.symm Dn) aN Xk hl ha xE Od hr zhR (v:=v) (τ':=τ') (b:=b') h2 h3 h4 Kk h5 h6 (λhv hg=>vA v hv w bU.refl hg) hc
     (gs':=(gs.setIfInBounds k (oU (T k).g (recvd b' v true))).setIfInBounds i (oU (T i).g aA)) aQ (by simp[aN]) zqH
     (λm h1 h2=>by rw[jQ (Ne.symm h1),jQ (Ne.symm h2)])
     (u:=#[{g:=i,fn:=(T i).g.frame.fn,pos:=(T i).g.frame.place,act:=.send c s},{g:=k,fn:=(T k).g.frame.fn,pos:=(T k).g.frame.place,act:=.recv c r 0},{g:=i,fn:=(T i).g.frame.fn,pos:=(T i).g.frame.place,act:=.sendDone c s},{g:=k,fn:=(T k).g.frame.fn,pos:=(T k).g.frame.place,act:=.recvDone c r}])
     (λop hop=>by
      have Ip:c<w.heap.size:=(dO.1 hc).1;simp only[He,jL,lZ,or_false] at hop;rcases hop with rfl|rfl|rfl|rfl<;>exact⟨by first|exact aN|exact Xk,rfl,aQ,Ip,aQ,aQ⟩)
    rw[zm9,zoG,zd0,zjB] at zaZ;exact⟨_,_,zaZ,.inr ⟨_,_,sl,T',tT,rfl,hI,Jx⟩⟩
 .have dE:∀(k:Nat) (y:bC),gs[k]? =some y->offersAt y c false=[]:=λk y zaa=>yZ λhn=>hk ⟨k,y,zaa,hn⟩
  have wC:=crowd_waits (P:=P) (sl:=sl) hi vN (λcc sO=>by
   simp only[He,jL,lZ,or_false] at sO;subst sO;exact ways_send_none hc (jY _) (zlb dE))
  have hp:=h.park hi dM.1 zld (y:=parked (T i).g #[scase c v z] .send) rfl (.inl ⟨l,_,_,hl,rfl,h1,.inl ⟨c,ok,pub,nx,v,z,ha,rfl,rfl⟩⟩) (λe e2=>by subst e;rw[hl] at e2;cases e2)
   (λc' v' z' wV g' e=>by
    simp only[parked,zsv,fT,pJ,zf3,Ww,scase,zg6,zoO,and_true,true_and] at e;obtain⟨_,_,_,⟨e,_⟩,_⟩:=e;subst e;exact dE)
   (λc' z' wV g' e=>by simp[parked,scase,rcase] at e)
  exact⟨_,_,wC,.inr ⟨_,_,sl,T,ch,rfl,hp.1,hp.2⟩⟩
def Inv.recv (hA:A.Ok)(h:Inv P ty Wg A Fin Shun gs w t T ch)(hi:gs[i]? =some x)(dM:lV x (T i).g){ι:Type}{f:ι->Rk}(hr:(T i).r=.inr (.mk ι f)){l:L}(hl:(T i).ph=.usr l){c:Nat}{ok:aF->Prop}{nx:aF->L}{sh:L}
 (ha:A.act l=.recv c ok nx sh) (hB:mF P ty Wg A (λm ph d τ g w=>∃k,oX P ty Wg A Fin (f k) m ph d τ g w) (i==0) l (hY t i) (T i).τ (T i).g w):vG P ty Wg A Fin Shun gs w t T sl i:=by
 have aN:i<gs.size:=(dO.1 hi).1;unfold mF at hB;rw[ha] at hB;obtain⟨C9,z,b,h1,h2,h3⟩:=hB;have hp:(λk=>(T k).ph.proj) i=.run l:=by show(T i).ph.proj=_;rw[hl];rfl
 obtain⟨cl,mL⟩:=hA.recvC _ ch i l c ok nx sh h.st.inv hp ha;obtain⟨y7,s,r,hc⟩:=h.st.chan c _ mL;have Ip:c<w.heap.size:=(dO.1 hc).1;have vN:stepG P (i==0) x w=.comm (T i).g #[rcase c z] true (.recv b) w #[]:=by rw[dM.step];exact h1 w bU.refl
 cases cl with
 |true=>
  have dE:∀(k:Nat) (y:bC),gs[k]? =some y->offersAt y c true=[]:=λk y zaa=>yZ λhn=>by
   obtain⟨lk,zFR,zza,zGc,_,_,xE,Od,_⟩:=h.offerS zaa hn;have:=hA.sendC _ ch k lk c zFR zza zGc h.st.inv (by show(T k).ph.proj=_;rw[xE];rfl) Od;rw[mL] at this;cases this
  have cG:=crowd_recv_closed (P:=P) (sl:=sl) hi vN hc (zlb dE);rw[zm9,zd0,zjB] at cG;obtain⟨zEl,hinv⟩:=hA.shut _ ch i l c ok nx sh h.st.inv hp ha mL;obtain⟨k,hk⟩:=h3 zEl;have zY:=gS.usr (l:=l) h.st.grp hl aN (hA.pendR l sh c aA ok nx sh ha (.inr rfl));have hS:=h.st.phase (r:=.inr (f k)) (g':=oU (T i).g (recvd b z false)) (by rw[hl];simp) aN (Mp _ _) (.usr sh) aQ (λ_=>trivial) (λ_ e=>e) id (λl' e=>by simp[Ph.proj] at e) zY hinv;have cJ:(gs.setIfInBounds i (oU (T i).g (recvd b z false))).size=gs.size:=aQ;have Kc:∀k,hY (t++(#[{g:=i,fn:=(T i).g.frame.fn,pos:=(T i).g.frame.place,act:=.recvClosed c}]:lS)) k=hY t k:=λk=>zlY t k _ λop hop=>by
   simp only[He,jL,lZ,or_false] at hop;subst hop;exact⟨aQ,aQ⟩
  refine⟨_,_,cG,.inr ⟨gs.setIfInBounds i (oU (T i).g (recvd b z false)),w,sl,bG T i ⟨.usr sh,.inr (f k),(T i).τ,oU (T i).g (recvd b z false)⟩,ch,rfl,⟨by rw[cJ];exact hS,?_⟩,?_⟩⟩
  .show Ey _ _ (t++(#[{g:=i,fn:=(T i).g.frame.fn,pos:=(T i).g.frame.place,act:=.recvClosed c}]:lS)) _ _ _
   refine h.dy.gen (λk'=>k'=i) (λk' cP=>⟨by rw[jQ (Ne.symm cP)],upd_ne _ _ cP⟩) (λk' y cP hy=>?_) (λ_ _=>bU.refl) (λk' _=>Kc k') (λ_ e=>e) id ?_
   .subst cP
    rw[Kd aN] at hy;cases hy;refine⟨by simp[oU],?_⟩;rw[upd_same,Kc];exact(pF (T:=⟨.usr sh,.inr (f k),(T k').τ,oU (T k').g (recvd b z false)⟩) id).2 ⟨f k,rfl,hk,.inl (lV.self rfl)⟩
   .rw[cJ]
    have h0:=h.dy.tr.phase (i:=i) (ph':=.usr sh) (.inr (f k)) (oU (T i).g (recvd b z false)) ⟨λ_=>by rw[hl];trivial,λ_=>trivial⟩;exact h0.idles [{g:=i,fn:=(T i).g.frame.fn,pos:=(T i).g.frame.place,act:=.recvClosed c}] λop hop=>by
     simp only[jL,lZ,or_false] at hop;subst hop;exact⟨aN,rfl,aQ,Ip⟩
  .exact Yv (i:=i) (λ_=>cJ) aC aN aC zuO λk' cP=>by rw[upd_ne _ _ aC]
 |false=>
  by_cases hk:∃(k:Nat) (y:bC),gs[k]? =some y/\offersAt y c true≠[]
  .obtain⟨k,y,hk,aT⟩:=hk
   have Dn:k≠i:=λe=>by
    subst e;rw[hi] at hk;cases hk;exact aT (Vl (by rw[dM.1];simp) c true)
   have Xk:k<gs.size:=(dO.1 hk).1;obtain⟨lk,pD,O6,nH,v,zk,xE,Od,rfl,zb7⟩:=h.offerS hk aT;have ziZ:(λk=>(T k).ph.proj) k=.run lk:=by show(T k).ph.proj=_;rw[xE];rfl
   have zh4:partners (gs.setIfInBounds i zgT) c true=[(k,0)]:=by
    refine zs1 Dn hk (by rw[znN];simp) λm y' hm znt=>yZ λhn=>?_;obtain⟨lm,zj5,zIn,zhX,_,_,Vs,zlp,_⟩:=h.offerS znt hn;exact hm (hA.send1 _ ch m k lm lk c zj5 zIn zhX pD O6 nH h.st.inv (by show(T m).ph.proj=_;rw[Vs];rfl) ziZ zlp Od)
   have zaZ:=crowd_recv_meets (P:=P) (sl:=sl) hi vN hc Dn hk zh4;have hs:=h.dy.sit k _ hk;rw[pF (by rw[xE];exact id)] at hs;obtain⟨rk,zhR,x8,_⟩:=hs
   cases rk with
   |mk ιk fk=>
    obtain⟨_,x8⟩:=x8;rw[xE] at x8;rcases x8 with x8|x8
    .obtain⟨g',w',es,aY,_⟩:=x8 w bU.refl
     rw[zb7 w bU.refl] at aY;cases aY
    .simp only[zR,mF,Od] at x8
     obtain⟨_,v',z',τ',o5,vA,Ik,zjA,zzA,zCo,zCr⟩:=x8;have e:=(o5 w bU.refl).symm.trans (zb7 w bU.refl);simp only[zyr,scase,zf3,Ww,zg6,fT,true_and,and_true] at e;obtain⟨ev,_⟩:=e;subst ev
     obtain⟨T',tT,hI,Jx⟩:=h.meet hA Dn Xk aN xE Od hl ha zhR hr (v:=v') (τ':=τ') (b:=b) vA Ik zjA zzA zCo zCr (λhv hg=>h2 v' hv w bU.refl hg) hc
      (gs':=(gs.setIfInBounds k (oU (T k).g aA)).setIfInBounds i (oU (T i).g (recvd b v' true))) aQ zqH (by simp[aN])
      (λm h1 h2=>by rw[jQ (Ne.symm h2),jQ (Ne.symm h1)])
      (u:=#[{g:=k,fn:=(T k).g.frame.fn,pos:=(T k).g.frame.place,act:=.send c s},{g:=i,fn:=(T i).g.frame.fn,pos:=(T i).g.frame.place,act:=.recv c r 0},{g:=k,fn:=(T k).g.frame.fn,pos:=(T k).g.frame.place,act:=.sendDone c s},{g:=i,fn:=(T i).g.frame.fn,pos:=(T i).g.frame.place,act:=.recvDone c r}])
      (λop hop=>by
       simp only[He,jL,lZ,or_false] at hop;rcases hop with rfl|rfl|rfl|rfl<;>exact⟨by first|exact aN|exact Xk,rfl,aQ,Ip,aQ,aQ⟩)
     rw[zm9,zoG,zd0,zjB] at zaZ;exact⟨_,_,zaZ,.inr ⟨_,_,sl,T',tT,rfl,hI,Jx⟩⟩
  .have dE:∀(k:Nat) (y:bC),gs[k]? =some y->offersAt y c true=[]:=λk y zaa=>yZ λhn=>hk ⟨k,y,zaa,hn⟩
   have wC:=crowd_waits (P:=P) (sl:=sl) hi vN (λcc sO=>by
    simp only[He,jL,lZ,or_false] at sO;subst sO;exact ways_recv_none hc (zlb dE))
   have hp:=h.park hi dM.1 zld (y:=parked (T i).g #[rcase c z] (.recv b)) rfl (.inl ⟨l,_,_,hl,rfl,h1,.inr ⟨c,ok,nx,sh,z,b,ha,rfl,rfl⟩⟩) (λe e2=>by subst e;rw[hl] at e2;cases e2)
    (λc' v' z' wV g' e=>by simp[parked,scase,rcase] at e)
    (λc' z' wV g' e=>by
     simp only[parked,zsv,fT,pJ,zf3,Ww,rcase,zg6,zoO,and_true,true_and] at e;obtain⟨_,_,_,⟨e,_⟩,_⟩:=e;subst e;exact⟨(by rw[mL];simp),dE⟩)
   exact⟨_,_,wC,.inr ⟨_,_,sl,T,ch,rfl,hp.1,hp.2⟩⟩
def Inv.close (hA:A.Ok)(h:Inv P ty Wg A Fin Shun gs w t T ch)(hi:gs[i]? =some x)(dM:lV x (T i).g){ι:Type}{f:ι->Rk}(hr:(T i).r=.inr (.mk ι f)){l:L}(hl:(T i).ph=.usr l){c:Nat}{nx:L}
 (ha:A.act l=.close c nx) (hB:mF P ty Wg A (λm ph d τ g w=>∃k,oX P ty Wg A Fin (f k) m ph d τ g w) (i==0) l (hY t i) (T i).τ (T i).g w):vG P ty Wg A Fin Shun gs w t T sl i:=by
 have aN:i<gs.size:=(dO.1 hi).1;unfold mF at hB;rw[ha] at hB;obtain⟨zc1,zEI,h1⟩:=hB;have hp:(λk=>(T k).ph.proj) i=.run l:=by show(T i).ph.proj=_;rw[hl];rfl
 obtain⟨Mx,hinv⟩:=hA.close _ ch i l c nx h.st.inv hp ha;obtain⟨y7,s,r,hc⟩:=h.st.chan c _ Mx;have Ip:c<w.heap.size:=(dO.1 hc).1;obtain⟨g',aY,lX,k,hk⟩:=h1 w bU.refl s r hc;have a:=zut w c 0 #[] true s r false;have hS:=h.st.close aN Mx a hl (.inr (f k)) g' (l':=nx) ⟨s,r,setChan_at w c 0 #[] true s r false Ip⟩ (gS.usr (l:=l) h.st.grp hl aN (hA.pendX l c nx ha)) hinv;have nc:∀k,¬(T k).τ.own c/\¬(T k).τ.still c:=λk=>⟨λe=>zwb,λe=>ztI⟩;have hd:n7 (hY t i) (closeEvents c)=hY t i:=zyB (λe he=>by
  simp only[closeEvents,He,jL,lZ,or_false] at he;rcases he with rfl|rfl<;>exact⟨aQ,aQ⟩) _
 have zf4:mayWake P x=true:=by rw[<-zc1];unfold mayWake;rw[dM.2.1]
 have Pm:bG T i ⟨.usr nx,.inr (f k),(T i).τ,g'⟩ i=⟨.usr nx,.inr (f k),(T i).τ,g'⟩:=upd_same _ _ _;refine Ze hi h.st.n0 (Ti:=⟨.usr nx,.inr (f k),(T i).τ,g'⟩) zb6 P7 hS ?_
 refine h.dy.go hi (by rw[hd];exact(pF (T:=⟨.usr nx,.inr (f k),(T i).τ,g'⟩) id).2 ⟨f k,rfl,hk,.inl (lV.self lX)⟩) Kf (λj _=>bU.of_aside a (nc j) (Xq a y7)) ?_
  (h.dy.keepW λe=>(a.block Wg (Ne.symm y7)).symm.trans e) ?_
 .intro j gj c' z sh hj cM e
  by_cases sO:c'=c
  .subst sO
   unfold woken at cM;rw[zf4,lX] at cM;have:=again_recv_closed (g:=gj) (z:=z) (sh:=sh) (setChan_at w c' 0 #[] true s r false Ip);simp only[Bool.true_and] at cM;rw[if_pos J2,this] at cM;have:(GoStatus.running:GoStatus)=.blocked:=by
    have h2:=congrArg bC.status cM;simp[parked] at h2
   cases this
  .rw[upd_ne _ _ sO] at e
   exact h.dy.slpC j gj c' z sh hj e
 .refine hS.tiEvents aN (by rw[Pm];trivial) _ _ ?_ λe he=>?_
  .have:=h.dy.tr.phase (i:=i) (ph':=.usr nx) (.inr (f k)) g' ⟨λ_=>by rw[hl];trivial,λ_=>trivial⟩
   rwa [a.size]
  .rw[Pm]
   simp only[closeEvents,He,jL,lZ,or_false] at he;rw[a.size];rcases he with rfl|rfl
   .refine⟨λy hy=>?_,by simp[jK],Ip⟩
    simp only[jK,qO,fT] at hy;subst hy;exact .inl ⟨c,y7,rfl,.inr ⟨.inr zEI,rfl⟩⟩
   .exact⟨λy hy=>by simp[jK,qO] at hy,by simp[jK],Ip⟩
def Inv.spawn (hA:A.Ok)(h:Inv P ty Wg A Fin Shun gs w t T ch)(hi:gs[i]? =some x)(dM:lV x (T i).g){ι:Type}{f:ι->Rk}(hr:(T i).r=.inr (.mk ι f)){l:L}(hl:(T i).ph=.usr l){pub:List Nat}{lc nx:L}
 (ha:A.act l=.spawn pub lc nx) (hB:mF P ty Wg A (λm ph d τ g w=>∃k,oX P ty Wg A Fin (f k) m ph d τ g w) (i==0) l (hY t i) (T i).τ (T i).g w):vG P ty Wg A Fin Shun gs w t T sl i:=by
 unfold mF at hB;rw[ha] at hB;obtain⟨hd,h1⟩:=hB;have hp:(λk=>(T k).ph.proj) i=.run l:=by show(T i).ph.proj=_;rw[hl];rfl
 obtain⟨rfl,M7,yM,hinv⟩:=hA.spawn _ ch i l pub lc nx gs.size h.st.inv hp ha;obtain⟨g',child,τm,τc,aY,zw2,zqo,ho,hs,oR,vY,Ax,Dg,⟨km,zC3⟩,⟨kc,Ih⟩⟩:=h1 w bU.refl;have hn:=h.st.n0;have zyO:=hinv (by show(T gs.size).ph.proj=_;rw[h.st.ou _ (aX _)];rfl) aC λa J5=>(h.st.bnd 0 a (.inl (Dg a J5).1)).2.2;have hS:=h.st.fork hl M7 yM (.inr (f km)) (.inr (f kc)) g' child τm τc pub ho hs oR vY Ax Dg zyO;have cG:=runT_crowd_spawn (P:=P) (sl:=sl) hi (show stepG P (0==0) x w=_ by rw[dM.step];exact aY);have cJ:((gs.setIfInBounds 0 g').push child).size=gs.size+1:=aQ;generalize hU:bG (bG T 0 ⟨.usr nx,.inr (f km),τm,g'⟩) gs.size ⟨.usr lc,.inr (f kc),τc,child⟩=U at hS;have u0:U 0=⟨.usr nx,.inr (f km),τm,g'⟩:=by rw[<-hU,upd_ne _ _ aC,upd_same]
 have un:U gs.size=⟨.usr lc,.inr (f kc),τc,child⟩:=by rw[<-hU,upd_same]
 have uk:∀k,k≠0->k≠gs.size->U k=T k:=λk h1 h2=>by rw[<-hU,upd_ne _ _ h2,upd_ne _ _ h1]
 have zll:((vW 0 x.frame.fn x.frame.place #[]).push {g:=0,fn:=x.frame.fn,pos:=x.frame.place,act:=.go gs.size}|>.push {g:=gs.size,fn:=child.frame.fn,pos:=x.frame.place,act:=.start})
  =#[{g:=0,fn:=x.frame.fn,pos:=x.frame.place,act:=.go gs.size},{g:=gs.size,fn:=child.frame.fn,pos:=x.frame.place,act:=.start}]:=rfl
 rw[zll] at cG;have Kc:∀k,hY (t++(#[{g:=0,fn:=x.frame.fn,pos:=x.frame.place,act:=.go gs.size},{g:=gs.size,fn:=child.frame.fn,pos:=x.frame.place,act:=.start}]:lS)) k=hY t k:=λk=>zlY t k _ λop hop=>by
  simp only[He,jL,lZ,or_false] at hop;rcases hop with rfl|rfl<;>exact⟨aQ,aQ⟩
 refine⟨_,_,cG,.inr ⟨(gs.setIfInBounds 0 g').push child,w,sl,U,ch.opn pub,rfl,⟨by rw[cJ];exact hS,h.dy.gen (λk=>k=0\/gs.size<=k) (λk hk=>?_) (λk y hk hy=>?_) (λ_ _=>bU.refl) (λk _=>Kc k) (λc hc=>?_) id ?_⟩,?_⟩⟩
 .have o5:k≠0:=λe=>hk (.inl e)
  have vA:k<gs.size:=Nat.lt_of_not_le λe=>hk (.inr e);refine⟨?_,uk k o5 aC⟩;rw[Wa,zxS,if_neg aC,jQ (Ne.symm o5)]
 .rw[Wa,zxS] at hy
  rcases hk with rfl|hk
  .rw[if_neg aC,Kd hn] at hy
   cases hy;refine⟨by rw[zw2];simp,?_⟩;rw[u0,Kc,hd];exact(pF (T:=⟨.usr nx,.inr (f km),τm,g'⟩) id).2 ⟨f km,rfl,zC3,.inl (lV.self zw2)⟩
  .by_cases cP:k=gs.size
   .subst cP
    rw[if_pos rfl] at hy;cases hy;refine⟨by rw[zqo];simp,?_⟩;rw[un,Kc,h.dy.tr.above _ (aX _)];have e0:(gs.size==0)=false:=beq_eq_false_iff_ne.2 aC;exact(pF (T:=⟨.usr lc,.inr (f kc),τc,child⟩) id).2 ⟨f kc,rfl,by rw[e0];exact Ih,.inl (lV.self zqo)⟩
   .rw[if_neg cP,Array.getElem?_eq_none r9] at hy
    cases hy
 .by_cases mR:c∈pub
  .rw[zfP mR] at hc;cases hc
  .rw[Yn mR] at hc;exact hc
 .rw[cJ]
  refine h.dy.tr.fork (live':=λk=>(U k).ph.live) (by show(T 0).ph.live;rw[hl];trivial) hn ⟨rfl,rfl⟩ ⟨rfl,rfl⟩ hd (λk=>?_) (by show ¬(T gs.size).ph.live;rw[h.st.ou _ (aX _)];exact id) (λk b hk gV hb=>?_) (λk b hk gV hb=>?_) (λb hb=>?_) λb hb=>?_
  .show(U k).ph.live↔(T k).ph.live\/k=gs.size
   by_cases k1:k=0
   .subst k1;rw[u0,hl];exact⟨λ_=>.inl trivial,λ_=>trivial⟩
   .by_cases k2:k=gs.size
    .subst k2;rw[un];exact⟨λ_=>.inr rfl,λ_=>trivial⟩
    .rw[uk k k1 k2];exact⟨λe=>.inl e,λe=>e.resolve_right k2⟩
  .have vA:k≠gs.size:=λe=>by
    subst e;have:(T gs.size).ph.live:=hk;rw[h.st.ou _ (aX _)] at this;exact this
   rw[uk k gV vA] at hb;exact hb
  .have vA:k≠gs.size:=λe=>by
    subst e;have:(T gs.size).ph.live:=hk;rw[h.st.ou _ (aX _)] at this;exact this
   rw[uk k gV vA] at hb;exact hb
  .rw[u0,un] at hb;exact ho b hb
  .rw[u0,un] at hb
   have:(T 0).τ.pass b\/(T 0).τ.own b\/(T 0).τ.still b:=by
    rcases hb with(e|e)|(e|e)
    .exact(hs b (.inl e)).elim (λz=>.inr (.inr z)) λz=>.inr (.inl z)
    .exact oR b (.inl e)
    .exact(hs b (.inr e)).elim (λz=>.inr (.inr z)) λz=>.inr (.inl z)
    .exact oR b (.inr e)
   rcases this with e|e|e
   .exact .inr (.inr e)
   .exact .inl e
   .exact .inr (.inl e)
 .exact Yv (i:=0) (λe=>absurd rfl e) (by rw[cJ];omega) hn (by rw[cJ];omega) (by rw[u0,hr];exact .inr (.mk f km)) λk hk=>by omega
end
section
variable {L:Type}{P:bS}{ty:aM}{Wg:Nat}{A:jP L}{Fin:bC->aE->Prop}{Shun:Loc->Prop}
variable {gs gs':Array bC}{w w':aE}{t t':lS}{T T':Nat->Td L}{ch tT:qS}{sl:Option (Nat×Nat)}{i j:Nat}{x g':bC}{es:Array oO}
def zmO (Wg B:Nat):Nat->List oO->Prop
 |_,[]=>True
 |d,e::es=>((e.mute=true\/(∃a b,e=⟨.cell a,b,true⟩/\a.block=Wg/\0<d))/\Wg<B)/\zmO Wg B (n7 d #[e]) es
def Xo {B:Nat}:∀{es:List oO} {d:Nat},zmO Wg B d es->∀(l r:List oO) (e:oO),es=l++e::r->(∀a,(jK e).touch? =some a->nF a.loc Wg/\a.kind=.atomic/\0<n7 d l.toArray)/\jK e≠ .mark (.release (stA Wg))/\(jK e).low B
 |[],d,_,l,r,e,he=>by simp at he
 |y::es,d,h,[],r,e,he=>by
  simp only[List.nil_append,Ww] at he;obtain⟨rfl,rfl⟩:=he;obtain⟨⟨hm|⟨a,b,rfl,ha,hd⟩,hW⟩,_⟩:=h
  .exact zrm (n:=0) (d:=d) (es:=#[y]) (λe he=>by simp at he;rw[he];exact hm) [] [] y rfl
  .refine⟨λz hz=>?_,by simp[jK],by simpa[jK,X6,Loc.low,ha] using hW⟩
   simp only[jK,qO,fT] at hz;subst hz;exact⟨ha,rfl,hd⟩
 |y::es,d,h,z::l,r,e,he=>by
  simp only[S4,Ww] at he;obtain⟨rfl,he⟩:=he;have:=Xo h.2 l r e he;refine⟨λa ha=>?_,this.2⟩;rw[zrh];exact this.1 a ha
def No {v wt:Nat}{a b:Int}(h:gA ty Wg w a b):gA ty Wg (w.setCell (stA Wg) (st v wt)) ((v:Int)*KK+wt) b:=zAI h _
def zpr {a b:Int}(h:gA ty Wg w a b)(c:Int):gA ty Wg (w.setCell (smA Wg) (.int .u32 c)) a c:=zJE h c
def Oa (w:aE)(v:aF):Kg Wg w (w.setCell (stA Wg) v):=Y9 w (stA Wg) v
def zdi (w:aE)(v:aF):Kg Wg w (w.setCell (smA Wg) v):=Y9 w (smA Wg) v
def zlM (d:Nat){es:Array oO}(h:∀e∈es,e.loc≠ .mark .disable/\e.loc≠ .mark .enable):n7 d es=d:=zyB h d
def Vb (d:Nat)(a:bL):n7 d #[rd a]=d:=zlM d (λe he=>by simp at he;subst he;exact⟨by simp[rd],by simp[rd]⟩)
def deaf_wr (d:Nat)(a:bL):n7 d #[wr a]=d:=zlM d (λe he=>by simp at he;subst he;exact⟨by simp[wr],by simp[wr]⟩)
def zdj (d:Nat)(a:bL):n7 d #[rd a,wr a]=d:=zlM d (λe he=>by
 simp only[He,jL,lZ,or_false] at he;rcases he with rfl|rfl<;>exact⟨by simp[rd,wr],by simp[rd,wr]⟩)
def zr6 (d:Nat)(a:bL):n7 d (semEvents a)=d:=by
 simp[n7,semEvents]
def L3 (p:Nat->Ph L)(n:Nat)(ph':Ph L)(h:ph'.waits):vv A (bG p 0 ph') n=oV p n:=by
 unfold vv zV;rw[zes,upd_same];cases ph'<;>first|exact h.elim|rfl
def zbW (p:Nat->Ph L)(n:Nat)(h:(p 0).waits):vv A p n=oV p n:=by
 have:=L3 (A:=A) p n (p 0) h
 rwa [zfS] at this
def Ud {p:Nat->Ph L}{ph':Ph L}(h:∀i,¬(p i).last)(h':¬ph'.last):∀i,¬(bG p 0 ph' i).last:=λi=>by
 by_cases hi:i=0
 .subst hi;rw[upd_same];exact h'
 .rw[upd_ne _ _ hi];exact h i
def zqz {p:Nat->Ph L}:∀{n:Nat},oV p n=0->∀j,j<n->j≠0->(p j).pre=false
 |n+1,h,j,hj,h0=>by
  simp only[oV] at h;by_cases Zh:j=n
  .subst Zh
   cases hp:(p j).pre
   .rfl
   .simp[h0,hp] at h
  .exact zqz (n:=n) aC j aC h0
def Inv.vlt (hA:A.Ok)(h:Inv P ty Wg A Fin Shun gs w t T ch):vv A (λj=>(T j).ph) gs.size<2000000000:=
 Nat.lt_of_le_of_lt (zH1 A _ _ h.st.n0) (hA.few _ ch h.st.inv _)
variable {a:bL}
def okRW {own pas:Nat->Prop}{k B:Nat}(hW:Wg<B)(ha:a.block=Wg):∀e∈(#[rd a,wr a]:Array oO),OkL Wg own pas k B e:=by
 intro e he;simp only[He,jL,lZ,or_false] at he;rcases he with rfl|rfl<;>exact zha ha hW
def okR {own pas:Nat->Prop}{k B:Nat}(hW:Wg<B)(ha:a.block=Wg):∀e∈(#[rd a]:Array oO),OkL Wg own pas k B e:=by
 intro e he;simp only[He,jL,lZ,or_false] at he;subst he;exact zha ha hW
def okSem {own pas:Nat->Prop}{k B:Nat}(hW:Wg<B)(ha:a.block=Wg):∀e∈semEvents a,OkL Wg own pas k B e:=by
 intro e he;simp only[semEvents,He,jL,lZ,or_false] at he;rcases he with rfl|rfl|rfl|rfl
 .exact zhi rfl
 .exact zha ha hW
 .exact zha ha hW
 .exact zhi rfl
def zuR (T:Nat->Td L){ph':Ph L}(h:ph'.proj=(T i).ph.proj):bG (λj=>(T j).ph.proj) i ph'.proj=λj=>(T j).ph.proj:=by rw[h];exact zfS (λj=>(T j).ph.proj) i
def Inv.add (hA:A.Ok)(h:Inv P ty Wg A Fin Shun gs w t T ch)(hi:gs[i]? =some x)(dM:lV x (T i).g){ι:Type}{f:ι->Rk}(hr:(T i).r=.inr (.mk ι f)){l:L}(hl:(T i).ph=.usr l){nx:L}
 (ha:A.act l=.add nx) (hB:mF P ty Wg A (λm ph d τ g w=>∃k,oX P ty Wg A Fin (f k) m ph d τ g w) (i==0) l (hY t i) (T i).τ (T i).g w):vG P ty Wg A Fin Shun gs w t T sl i:=by
 unfold mF at hB;rw[ha] at hB;have hp:(λk=>(T k).ph.proj) i=.run l:=by show(T i).ph.proj=_;rw[hl];rfl
 obtain⟨rfl,M7,yM,hinv⟩:=hA.add _ ch i l nx h.st.inv hp ha;have hg:=h.st.grp;unfold gS at hg;simp only[hl] at hg;have hv:=h.vlt hA;obtain⟨g',aY,lX,k,hk⟩:=hB w bU.refl _ aC hg.1;have fJ:vv A (λj=>(T j).ph) gs.size=oV (λj=>(T j).ph) gs.size:=by unfold vv zV;simp only[hl,M7];rfl
 have pP:vv A (bG (λj=>(T j).ph) 0 (.usr nx)) gs.size=oV (λj=>(T j).ph) gs.size+1:=by unfold vv zV;rw[zes,upd_same];simp[yM]
 have dG:=No (v:=vv A (λj=>(T j).ph) gs.size+1) (wt:=0) hg.1;refine h.alive hi dM aY lX hr (by rw[hl];trivial) (ph':=.usr nx) trivial (Oa _ _) (λ_=>⟨_,_,dG⟩) ⟨k,by rw[zdj];exact hk⟩ (λe=>absurd rfl e) ?_ hinv (λe=>by have:=(Ty e dG).2;omega) (okRW zr8 rfl);unfold gS;rw[upd_same];refine⟨?_,Ud hg.2 id⟩;rw[pP,<-fJ];simpa using dG
def Inv.look (hA:A.Ok)(h:Inv P ty Wg A Fin Shun gs w t T ch)(hi:gs[0]? =some x)(dM:lV x (T 0).g){ι:Type}{f:ι->Rk}(hr:(T 0).r=.inr (.mk ι f))(l6:(∃b,(T 0).ph=.w1 b)\/∃l,(T 0).ph=.usr l/\A.act l=.wait)
 (hB:∀aI,bU ty Wg (T 0).τ w aI->∀v:Nat,(∀b,(T 0).ph=.w1 b->v<b)->v<2147483648->gA ty Wg aI (v*KK) 0->∃g',stepG P true (T 0).g aI=.go g' aI #[rd (stA Wg)]/\g'.status=.running/\
  (v=0->∃k,oX P ty Wg A Fin (f k) true .w5 (hY t 0) (T 0).τ g' aI)/\(v≠0->∃k,oX P ty Wg A Fin (f k) true (.w2 v) (hY t 0) (T 0).τ g' aI)):vG P ty Wg A Fin Shun gs w t T sl 0:=by
 have hv:=h.vlt hA;have hg:gA ty Wg w (vv A (λj=>(T j).ph) gs.size*KK) 0/\∀i,¬(T i).ph.last:=by
  have hg:=h.st.grp;unfold gS at hg;rcases l6 with⟨b,e⟩|⟨l,e,_⟩<;>simp only[e] at hg
  .exact⟨hg.1,hg.2.1⟩
  .exact hg
 have eV:∀b,(T 0).ph=.w1 b->vv A (λj=>(T j).ph) gs.size<b:=λb e=>by
  have hg:=h.st.grp;unfold gS at hg;simp only[e] at hg;exact hg.2.2
 have mY:(T 0).ph.live:=h.st.role0;have Da:vv A (λj=>(T j).ph) gs.size=oV (λj=>(T j).ph) gs.size:=by
  rcases l6 with⟨b,e⟩|⟨l,e,ha⟩
  .exact zbW _ _ (by show(T 0).ph.waits;rw[e];trivial)
  .have:=(hA.wait _ ch 0 l h.st.inv (by show(T 0).ph.proj=_;rw[e];rfl) ha).2.1
   unfold vv zV;simp only[e,this];rfl
 have hinv:A.Inv (bG (λj=>(T j).ph.proj) 0 .waits) ch:=by
  rcases l6 with⟨b,e⟩|⟨l,e,ha⟩
  .have:=zuR T (i:=0) (ph':=.w1 b) (by rw[e])
   rw[show(Ph.w1 b:Ph L).proj=.waits from rfl] at this;rw[this];exact h.st.inv
  .exact(hA.wait _ ch 0 l h.st.inv (by show(T 0).ph.proj=_;rw[e];rfl) ha).2.2
 obtain⟨g',aY,lX,h0,h1⟩:=hB w bU.refl _ eV aC hg.1;by_cases hz:vv A (λj=>(T j).ph) gs.size=0
 .obtain⟨k,hk⟩:=h0 hz
  refine h.alive hi dM aY lX hr mY (ph':=.w5) trivial (Mp _ _) id ⟨k,by rw[Vb];exact hk⟩ (λe=>absurd rfl e) ?_ hinv id (okR h.st.grp.live.lt rfl);unfold gS;rw[upd_same];refine⟨by rw[L3 _ _ .w5 trivial,<-Da];exact hz,Ud hg.2 id,?_⟩;have:=hg.1;rw[hz] at this;simpa using this
 .obtain⟨k,hk⟩:=h1 hz
  refine h.alive hi dM aY lX hr mY (ph':=.w2 (vv A (λj=>(T j).ph) gs.size)) trivial (Mp _ _) id ⟨k,by rw[Vb];exact hk⟩ (λe=>absurd rfl e) ?_ hinv id (okR h.st.grp.live.lt rfl);unfold gS;rw[upd_same];refine⟨?_,Ud hg.2 id,?_,Nat.pos_of_ne_zero hz⟩
  .rw[L3 _ _ (.w2 _) trivial,<-Da];exact hg.1
  .rw[L3 _ _ (.w2 _) trivial,<-Da];exact aX _
def invW (h:Inv P ty Wg A Fin Shun gs w t T ch){ph':Ph L}(hw:(T 0).ph.waits)(qE:ph'.waits):A.Inv (bG (λj=>(T j).ph.proj) 0 ph'.proj) ch:=by
 rw[zuR T]
 .exact h.st.inv
 .cases hp:(T 0).ph<;>rw[hp] at hw<;>first|exact hw.elim|(cases ph'<;>first|exact qE.elim|rfl)
def Inv.cas (hA:A.Ok)(h:Inv P ty Wg A Fin Shun gs w t T ch)(hi:gs[0]? =some x)(dM:lV x (T 0).g){ι:Type}{f:ι->Rk}(hr:(T 0).r=.inr (.mk ι f)){vs:Nat}(l6:(T 0).ph=.w2 vs)
 (hB:zR P ty Wg A Fin (λm ph d τ g w=>∃k,oX P ty Wg A Fin (f k) m ph d τ g w) true (.w2 vs) (hY t 0) (T 0).τ (T 0).g w):vG P ty Wg A Fin Shun gs w t T sl 0:=by
 have hv:=h.vlt hA;have hg:=h.st.grp;unfold gS at hg;simp only[l6] at hg;obtain⟨h1,h2,h3,h4⟩:=hg;have cD:(T 0).ph.waits:=by rw[l6];trivial
 have Da:vv A (λj=>(T j).ph) gs.size=oV (λj=>(T j).ph) gs.size:=zbW _ _ cD;have mY:(T 0).ph.live:=h.st.role0;obtain⟨ha,hb⟩:=hB w bU.refl _ aC h1;rcases mX (vv A (λj=>(T j).ph) gs.size) vs with aN|Cb
 .obtain⟨g',aY,lX,k,hk⟩:=hb aN
  refine h.alive hi dM aY lX hr mY (ph':=.w1 vs) trivial (Mp _ _) id ⟨k,by rw[Vb];exact hk⟩ (λe=>absurd rfl e) ?_ (invW h cD trivial) id (okR h.st.grp.live.lt rfl);unfold gS;rw[upd_same];exact⟨by rw[L3 _ _ (.w1 vs) trivial,<-Da];exact h1,Ud h2 id,by rw[L3 _ _ (.w1 vs) trivial,<-Da];exact aN⟩
 .obtain⟨g',aY,lX,k,hk⟩:=ha aC
  have dG:=No (v:=vv A (λj=>(T j).ph) gs.size) (wt:=1) h1;refine h.alive hi dM aY lX hr mY (ph':=.w3) trivial (Oa _ _) (λ_=>⟨_,_,dG⟩) ⟨k,by rw[zdj];exact hk⟩ (λe=>absurd rfl e) ?_ (invW h cD trivial) (λe=>by have:=(Ty e dG).2;omega) (okRW zr8 rfl);unfold gS;rw[upd_same];refine .inl ⟨?_,?_,Ud h2 id⟩
  .rw[L3 _ _ .w3 trivial,<-Da];omega
  .rw[L3 _ _ .w3 trivial,<-Da];exact dG
def Inv.sleep (hA:A.Ok)(h:Inv P ty Wg A Fin Shun gs w t T ch)(hi:gs[0]? =some x)(dM:lV x (T 0).g){ι:Type}{f:ι->Rk}(hr:(T 0).r=.inr (.mk ι f))(l6:(T 0).ph=.w3)
 (hB:zR P ty Wg A Fin (λm ph d τ g w=>∃k,oX P ty Wg A Fin (f k) m ph d τ g w) true .w3 (hY t 0) (T 0).τ (T 0).g w):vG P ty Wg A Fin Shun gs w t T sl 0:=by
 have hg:=h.st.grp;unfold gS at hg;simp only[l6] at hg;have cD:(T 0).ph.waits:=by rw[l6];trivial
 have Da:vv A (λj=>(T j).ph) gs.size=oV (λj=>(T j).ph) gs.size:=zbW _ _ cD;have mY:(T 0).ph.live:=h.st.role0;obtain⟨ho,hB⟩:=hB;obtain⟨ha,hb⟩:=hB w bU.refl;have zD7:(∃x,gA ty Wg w x 0)\/(vv A (λj=>(T j).ph) gs.size=0/\(∀i,¬(T i).ph.last)/\gA ty Wg w 0 1):=by
  rcases hg with⟨_,h1,_⟩|⟨_,_,_,_,⟨_,h1⟩|⟨_,h1⟩⟩|h1
  .exact .inl ⟨_,h1⟩
  .exact .inl ⟨_,h1⟩
  .exact .inl ⟨_,h1⟩
  .exact .inr h1
 rcases zD7 with h0|⟨h1,h2,h3⟩
 .have aY:=ha h0
  have vN:stepG P (0==0) x w=.go {(T 0).g with status:=.blocked} w #[]:=by rw[show((0:Nat)==0)=true from rfl,dM.step];exact aY
  have cG:=Yq (sl:=sl) hi vN;have ew:woken P x {(T 0).g with status:=.blocked} w=id:=by
   funext o;simp[woken]
  rw[ew,Array.map_id,zd0] at cG;obtain⟨y,hy⟩:=h0
  have hp:=h.park hi dM.1 (by rw[l6];exact id) (y:={(T 0).g with status:=.blocked}) rfl (.inr ⟨l6,rfl,ho⟩) (λ_ _ e=>by have:=(Ty e hy).2;omega)
   (λc v z sh g e=>by
    have:=congrArg zw5 e;simp[parked,ho] at this)
   (λc z sh g e=>by
    have:=congrArg zw5 e;simp[parked,ho] at this)
  exact⟨_,_,cG,.inr ⟨_,_,sl,T,ch,rfl,hp.1,hp.2⟩⟩
 .obtain⟨g',aY,lX,k,hk⟩:=hb h3
  have dG:=zpr h3 0;refine h.alive hi dM aY lX hr mY (ph':=.w4) trivial (zdi _ _) (λ_=>⟨_,_,dG⟩) ⟨k,by rw[zr6];exact hk⟩ (λe=>absurd rfl e) ?_ (invW h cD trivial) (λe=>by have:=(Ty e dG).2;omega) (okSem (by rw[(zdi w _).size];exact h.st.grp.live.lt) rfl);unfold gS;rw[upd_same];exact⟨by rw[L3 _ _ .w4 trivial,<-Da];exact h1,Ud h2 id,dG⟩
def Inv.woke (hA:A.Ok)(h:Inv P ty Wg A Fin Shun gs w t T ch)(hi:gs[0]? =some x)(dM:lV x (T 0).g){ι:Type}{f:ι->Rk}(hr:(T 0).r=.inr (.mk ι f))(l6:(T 0).ph=.w4)
 (hB:zR P ty Wg A Fin (λm ph d τ g w=>∃k,oX P ty Wg A Fin (f k) m ph d τ g w) true .w4 (hY t 0) (T 0).τ (T 0).g w):vG P ty Wg A Fin Shun gs w t T sl 0:=by
 have hg:=h.st.grp;unfold gS at hg;simp only[l6] at hg;have cD:(T 0).ph.waits:=by rw[l6];trivial
 have Da:vv A (λj=>(T j).ph) gs.size=oV (λj=>(T j).ph) gs.size:=zbW _ _ cD;obtain⟨g',aY,lX,k,hk⟩:=hB w bU.refl hg.2.2;refine h.alive hi dM aY lX hr h.st.role0 (ph':=.w5) trivial (Mp _ _) id ⟨k,by rw[Vb];exact hk⟩ (λe=>absurd rfl e) ?_ (invW h cD trivial) id (okR h.st.grp.live.lt rfl);unfold gS;rw[upd_same];exact⟨by rw[L3 _ _ .w5 trivial,<-Da];exact hg.1,Ud hg.2.1 id,hg.2.2⟩
def Inv.fin (hA:A.Ok)(h:Inv P ty Wg A Fin Shun gs w t T ch)(hi:gs[0]? =some x)(dM:lV x (T 0).g){ι:Type}{f:ι->Rk}(hr:(T 0).r=.inr (.mk ι f))(l6:(T 0).ph=.w5)
 (hB:zR P ty Wg A Fin (λm ph d τ g w=>∃k,oX P ty Wg A Fin (f k) m ph d τ g w) true .w5 (hY t 0) (T 0).τ (T 0).g w):vG P ty Wg A Fin Shun gs w t T sl 0:=by
 have hg:=h.st.grp;unfold gS at hg;simp only[l6] at hg;obtain⟨h1,h2,h3⟩:=hg;have Da:vv A (λj=>(T j).ph) gs.size=oV (λj=>(T j).ph) gs.size:=zbW _ _ (by show(T 0).ph.waits;rw[l6];trivial);have J0:∀j,j≠0->(T j).ph.leaves:=by
  intro j hj;rcases mX j gs.size with aN|Cb
  .have e1:=zqz (p:=λj=>(T j).ph) (by rw[<-Da];exact h1) j aN hj
   have e2:=h2 j;have e3:=h.st.role j hj;cases hp:(T j).ph<;>simp only[hp] at e1 e2 e3<;>first|trivial|(simp[Ph.pre] at e1;done)|exact absurd trivial e2|exact absurd trivial e3
  .rw[h.st.ou j Cb];trivial
 obtain⟨hd,hB⟩:=hB;have Ly:(λj=>(T j).ph.proj) 0=.waits:=by show(T 0).ph.proj=_;rw[l6];rfl
 have Bf:∀(j:Nat) (l:L),(λj=>(T j).ph.proj) j≠ .run l:=λj l e=>by
  have e':(T j).ph.proj=.run l:=e;by_cases hj:j=0
  .subst hj;rw[l6] at e';cases e'
  .have:=J0 j hj
   cases hp:(T j).ph<;>rw[hp] at e' this<;>first|exact this.elim|cases e'
 obtain⟨g',aY,lX,hF⟩:=hB w bU.refl ⟨λj=>(T j).ph.proj,ch,h.st.inv,Ly,Bf,λj l e=>h.st.depo j l e w bU.refl⟩;exact h.acquire hi dM aY lX hd J0 hF
def Inv.dec (hA:A.Ok)(h:Inv P ty Wg A Fin Shun gs w t T ch)(hi:gs[i]? =some x)(dM:lV x (T i).g){ι:Type}{f:ι->Rk}(hr:(T i).r=.inr (.mk ι f)){l:L}(l6:(T i).ph=.rel l)
 (hB:zR P ty Wg A Fin (λm ph d τ g w=>∃k,oX P ty Wg A Fin (f k) m ph d τ g w) (i==0) (.rel l) (hY t i) (T i).τ (T i).g w):vG P ty Wg A Fin Shun gs w t T sl i:=by
 have aN:i<gs.size:=(dO.1 hi).1;have hv:=h.vlt hA;have h0:i≠0:=λe=>by subst e;have:=h.st.role0;rw[l6] at this;exact this
 have oS:¬(T i).ph.live:=by rw[l6];exact id
 have Ab:(T i).ph≠ .gone:=by rw[l6];simp
 have V3:Wg<w.heap.size:=h.st.grp.live.lt;have key:∀ph':Ph L,ph'.pre=false->vv A (bG (λj=>(T j).ph) i ph') gs.size+1=vv A (λj=>(T j).ph) gs.size:=by
  intro ph' hp;have:=zdY (λj=>(T j).ph) (i:=i) (n:=gs.size) ph' aN h0;unfold vv;rw[zdn A _ h0];rw[hp] at this;simp only[l6,Ph.pre,if_true,jF,if_false] at this;omega
 have k1:=key (.quit l) rfl;have k2:=key (.l1 l) rfl;have zfF:(∀j,¬(T j).ph.last)->∀j,¬(bG (λj=>(T j).ph) i (.quit l) j).last:=λhn j=>by
  by_cases hj:j=i
  .subst hj;rw[upd_same];exact id
  .rw[upd_ne _ _ hj];exact hn j
 have oA:∀e:0<hY t i,∀B,Wg<B->zmO Wg B (hY t i) [rd (stA Wg),wr (stA Wg)]:=λe B hB=>
  ⟨⟨.inr ⟨stA Wg,false,rfl,rfl,e⟩,hB⟩,⟨.inr ⟨stA Wg,true,rfl,rfl,by rw[Vb];exact e⟩,hB⟩,trivial⟩
 have u0:bG (λj=>(T j).ph) i (.quit l) 0=(T 0).ph:=upd_ne _ _ (Ne.symm h0);have u1:bG (λj=>(T j).ph) i (.l1 l) 0=(T 0).ph:=upd_ne _ _ (Ne.symm h0)
 have quit:∀(v wt:Nat),wt<=1->gA ty Wg w ((v+1:Nat)*KK+wt) 0->vv A (λj=>(T j).ph) gs.size=v+1->¬(v=0/\wt=1)->
  gS A ty Wg (bG (λj=>(T j).ph) i (.quit l)) gs.size (w.setCell (stA Wg) (Mt.st v wt))->vG P ty Wg A Fin Shun gs w t T sl i:=by
  intro v wt cD hW wI aT zY;obtain⟨g',aY,lX,hd,_,hq⟩:=hB w bU.refl v wt cD aC hW;obtain⟨q,hQ⟩:=hq aT;have dG:=No (v:=v) (wt:=wt) hW
  exact h.dead hi dM aY Kf (Ti:=⟨.quit l,.inl q,(T i).τ,g'⟩) (by rw[hr];exact .sep _ _) rfl oS Ab h0 id aQ (Oa _ _) (λ_=>⟨_,_,dG⟩)
   ((Gm (T:=⟨.quit l,.inl q,(T i).τ,g'⟩) trivial).2 ⟨q,rfl,by rw[zdj];exact hQ⟩) (by rw[l6];rfl) zY (.inr λe=>by have:=(Ty e dG).2;omega) (Xo (oA hd _ (by rw[(Oa w _).size];exact V3)))
 have hg:=h.st.grp;unfold gS at hg;have norm:∀v:Nat,((v:Int)*KK)=((v:Nat):Int)*KK+((0:Nat):Int):=λv=>by simp
 have pos:0<vv A (λj=>(T j).ph) gs.size:=aC;obtain⟨v,wI⟩:∃v,vv A (λj=>(T j).ph) gs.size=v+1:=⟨_,(Nat.succ_pred_eq_of_pos pos).symm⟩;have e1:vv A (bG (λj=>(T j).ph) i (.quit l)) gs.size=v:=aC;have e2:vv A (bG (λj=>(T j).ph) i (.l1 l)) gs.size=v:=aC
 cases vV:(T 0).ph with
 |gone=>have:=h.st.role0;rw[vV] at this;exact this.elim
 |rel _=>have:=h.st.role0;rw[vV] at this;exact this.elim
 |l1 _=>have:=h.st.role0;rw[vV] at this;exact this.elim
 |l2 _=>have:=h.st.role0;rw[vV] at this;exact this.elim
 |l3 _=>have:=h.st.role0;rw[vV] at this;exact this.elim
 |quit _=>have:=h.st.role0;rw[vV] at this;exact this.elim
 |usr l0=>
  simp only[vV] at hg;rw[wI] at hg;refine quit v 0 aC zho wI aC ?_;unfold gS;rw[u0,vV];simp only;exact⟨by rw[e1];simpa using No (v:=v) (wt:=0) hg.1,zfF hg.2⟩
 |w1 b=>
  simp only[vV] at hg;rw[wI] at hg;refine quit v 0 aC zho wI aC ?_;unfold gS;rw[u0,vV];simp only;exact⟨by rw[e1];simpa using No (v:=v) (wt:=0) hg.1,zfF hg.2.1,aC⟩
 |w2 vs=>
  simp only[vV] at hg;rw[wI] at hg;refine quit v 0 aC zho wI aC ?_;unfold gS;rw[u0,vV];simp only;exact⟨by rw[e1];simpa using No (v:=v) (wt:=0) hg.1,zfF hg.2.1,aC,hg.2.2.2⟩
 |w4=>simp only[vV] at hg;omega
 |w5=>simp only[vV] at hg;omega
 |w3=>
  simp only[vV] at hg;rcases hg with⟨_,hW,hn⟩|⟨hz,_⟩|⟨hz,_⟩
  .rw[wI] at hW
   have Vo:gA ty Wg w ((v+1:Nat)*KK+(1:Nat)) 0:=by simpa using hW
   by_cases fJ:v=0
   .obtain⟨g',aY,lX,hd,hk,_⟩:=hB w bU.refl v 1 aC aC Vo
    obtain⟨k,hk⟩:=hk ⟨fJ,rfl⟩;have dG:=No (v:=v) (wt:=1) Vo
    refine h.dead hi dM aY Kf (Ti:=⟨.l1 l,.inr (f k),(T i).τ,g'⟩) P7 rfl oS Ab h0 id aQ (Oa _ _) (λ_=>⟨_,_,dG⟩)
     ((pF (T:=⟨.l1 l,.inr (f k),(T i).τ,g'⟩) id).2 ⟨f k,rfl,by rw[zdj];exact hk,.inl (lV.self lX)⟩) (by rw[l6];rfl) ?_ (.inr λe=>by have:=(Ty e dG).2;omega) (Xo (oA hd _ (by rw[(Oa w _).size];exact V3)))
    unfold gS;rw[u1,vV];simp only;refine .inr (.inl ⟨aC,i,l,λj hj=>?_,.inl ⟨.inl (upd_same _ _ _),?_⟩⟩)
    .by_cases eO:j=i
     .exact eO
     .rw[upd_ne _ _ eO] at hj;exact absurd hj (hn j)
    .subst fJ;simpa using dG
   .refine quit v 1 aC Vo wI aC ?_
    unfold gS;rw[u0,vV];simp only;exact .inl ⟨aC,by rw[e1];simpa using No (v:=v) (wt:=1) Vo,zfF hn⟩
  .omega
  .omega
def Inv.lastGrp (h:Inv P ty Wg A Fin Shun gs w t T ch)(hl:(T i).ph.last):(T 0).ph=.w3/\vv A (λj=>(T j).ph) gs.size=0/\(∀j,(T j).ph.last->j=i)/\((∃l,((T i).ph=.l1 l\/(T i).ph=.l2 l))/\gA ty Wg w 1 0\/(∃l,(T i).ph=.l3 l)/\gA ty Wg w 0 0):=by
 have hg:=h.st.grp;unfold gS at hg;have h0:=h.st.role0;cases vV:(T 0).ph<;>simp only[vV] at hg h0<;>first|exact h0.elim|exact absurd hl (hg.2 i)|exact absurd hl (hg.2.1 i)|skip
 rcases hg with⟨_,_,hn⟩|⟨hz,k,l,hu,hc⟩|⟨_,hn,_⟩
 .exact absurd hl (hn i)
 .have:=hu i hl
  subst this;exact⟨rfl,hz,hu,hc.imp (λx=>⟨⟨l,x.1⟩,x.2⟩) λx=>⟨⟨l,x.1⟩,x.2⟩⟩
 .exact absurd hl (hn i)
def Inv.last (hA:A.Ok)(h:Inv P ty Wg A Fin Shun gs w t T ch)(hi:gs[i]? =some x)(dM:lV x (T i).g){ι:Type}{f:ι->Rk}(hr:(T i).r=.inr (.mk ι f))(hl:(T i).ph.last)
 (hB:zR P ty Wg A Fin (λm ph d τ g w=>∃k,oX P ty Wg A Fin (f k) m ph d τ g w) (i==0) (T i).ph (hY t i) (T i).τ (T i).g w):vG P ty Wg A Fin Shun gs w t T sl i:=by
 have aN:=(dO.1 hi).1;obtain⟨h3,hz,hu,hc⟩:=h.lastGrp hl;have h0:i≠0:=λe=>by subst e;rw[h3] at hl;exact hl
 have oS:¬(T i).ph.live:=λe=>by cases hp:(T i).ph<;>rw[hp] at hl e<;>first|exact hl.elim|exact e.elim
 have Ab:(T i).ph≠ .gone:=λe=>by rw[e] at hl;exact hl
 have V3:=h.st.grp.live.lt;have zkZ:(T i).ph.pre=false:=by cases hp:(T i).ph<;>rw[hp] at hl<;>first|exact hl.elim|rfl
 have key:∀ph':Ph L,ph'.pre=false->vv A (bG (λj=>(T j).ph) i ph') gs.size=0:=by
  intro ph' hp;have:=zdY (λj=>(T j).ph) (i:=i) (n:=gs.size) ph' aN h0;rw[hp,zkZ] at this;unfold vv at hz⊢;rw[zdn A _ h0];simp only[jF,if_false] at this;omega
 have zao:∀ph':Ph L,∀j,(bG (λj=>(T j).ph) i ph' j).last->j=i:=λph' j hj=>by
  by_cases eO:j=i
  .exact eO
  .rw[upd_ne _ _ eO] at hj;exact hu j hj
 have u0:∀ph':Ph L,bG (λj=>(T j).ph) i ph' 0=.w3:=λph'=>(upd_ne _ _ (Ne.symm h0)).trans h3;rcases hc with⟨⟨l,hp|hp⟩,hW⟩|⟨⟨l,hp⟩,hW⟩
 .simp only[hp] at hB
  obtain⟨g',aY,lX,hd,k,hk⟩:=hB w bU.refl hW
  refine h.dead hi dM aY Kf (Ti:=⟨.l2 l,.inr (f k),(T i).τ,g'⟩) P7 rfl oS Ab h0 id aQ (Mp _ _) id
   ((pF (T:=⟨.l2 l,.inr (f k),(T i).τ,g'⟩) id).2 ⟨f k,rfl,by rw[Vb];exact hk,.inl (lV.self lX)⟩) (by rw[hp];rfl) ?_ (.inr id) (Xo (es:=[rd (stA Wg)]) ⟨⟨.inr ⟨stA Wg,false,rfl,rfl,hd⟩,V3⟩,trivial⟩)
  unfold gS;rw[u0];exact .inr (.inl ⟨key _ rfl,i,l,zao _,.inl ⟨.inr (upd_same _ _ _),hW⟩⟩)
 .simp only[hp] at hB
  obtain⟨g',aY,lX,hd,k,hk⟩:=hB w bU.refl hW;have dG:=No (v:=0) (wt:=0) hW;have qM:gA ty Wg (w.setCell (stA Wg) (Mt.st 0 0)) 0 0:=by simpa using dG
  refine h.dead hi dM aY Kf (Ti:=⟨.l3 l,.inr (f k),(T i).τ,g'⟩) P7 rfl oS Ab h0 id aQ (Oa _ _) (λ_=>⟨_,_,qM⟩)
   ((pF (T:=⟨.l3 l,.inr (f k),(T i).τ,g'⟩) id).2 ⟨f k,rfl,by rw[deaf_wr];exact hk,.inl (lV.self lX)⟩) (by rw[hp];rfl) ?_ (.inr λe=>by have:=(Ty e qM).2;omega)
   (Xo (es:=[wr (stA Wg)]) ⟨⟨.inr ⟨stA Wg,true,rfl,rfl,hd⟩,by rw[(Oa w _).size];exact V3⟩,trivial⟩)
  unfold gS;rw[u0];exact .inr (.inl ⟨key _ rfl,i,l,zao _,.inr ⟨upd_same _ _ _,qM⟩⟩)
 .simp only[hp] at hB
  obtain⟨zc1,hB⟩:=hB;obtain⟨g',aY,lX,hd,q,hQ⟩:=hB w bU.refl hW;have dG:=zpr hW 1;have zeA:Wg<(w.setCell (smA Wg) (.int .u32 1)).heap.size:=by rw[(zdi w _).size];exact V3
  refine h.dead hi dM aY Kf (Ti:=⟨.quit l,.inl q,(T i).τ,g'⟩) (by rw[hr];exact .sep _ _) rfl oS Ab h0 id aQ (zdi _ _) (λ_=>⟨_,_,dG⟩)
   ((Gm (T:=⟨.quit l,.inl q,(T i).τ,g'⟩) trivial).2 ⟨q,rfl,by rw[zr6];exact hQ⟩) (by rw[hp];rfl) ?_ (.inl ⟨zc1,lX⟩)
   (Xo (es:=[⟨.mark .disable,false,true⟩,⟨.cell (smA Wg),false,true⟩,⟨.cell (smA Wg),true,true⟩,⟨.mark .enable,false,true⟩]) ⟨⟨.inl rfl,zeA⟩,⟨.inr ⟨_,_,rfl,rfl,by simp[n7]⟩,zeA⟩,⟨.inr ⟨_,_,rfl,rfl,by simp[n7]⟩,zeA⟩,⟨.inl rfl,zeA⟩,trivial⟩)
  unfold gS;rw[u0];refine .inr (.inr ⟨key _ rfl,λj hj=>?_,dG⟩);have:=zao _ j hj;subst this;rw[upd_same] at hj;exact hj
def Inv.note (hA:A.Ok)(h:Inv P ty Wg A Fin Shun gs w t T ch)(hi:gs[i]? =some x)(dM:lV x (T i).g){ι:Type}{f:ι->Rk}(hr:(T i).r=.inr (.mk ι f)){l l':L}(hl:(T i).ph=.usr l){can:L->Prop}(ha:A.act l=.note can)(hc:can l')
 {k:ι} (hk:oX P ty Wg A Fin (f k) (i==0) (.usr l') (hY t i) (T i).τ (T i).g w):Inv P ty Wg A Fin Shun gs w t (bG T i ⟨.usr l',.inr (f k),(T i).τ,(T i).g⟩) ch/\Mu.lt (mu gs (bG T i ⟨.usr l',.inr (f k),(T i).τ,(T i).g⟩)) (mu gs T):=by
 have aN:=(dO.1 hi).1;have hp:(λk=>(T k).ph.proj) i=.run l:=by show(T i).ph.proj=_;rw[hl];rfl
 obtain⟨zl6,hinv⟩:=hA.note _ ch i l can l' h.st.inv hp ha hc;have zY:=gS.usr (l:=l) h.st.grp hl aN zl6;have hS:=h.st.phase (r:=.inr (f k)) (g':=(T i).g) (by rw[hl];simp) aN (Mp _ _) (.usr l') aQ (λ_=>trivial) (λ_ e=>e) id (λl' e=>by simp[Ph.proj] at e) zY hinv;refine⟨⟨hS,?_⟩,?_⟩
 .refine h.dy.gen (λk'=>k'=i) (λk' cP=>⟨rfl,upd_ne _ _ cP⟩) (λk' y cP hy=>?_) (λ_ _=>bU.refl) (λk' _=>rfl) (λ_ e=>e) id ?_
  .subst cP
   rw[hi] at hy;cases hy;refine⟨by rw[dM.1];simp,?_⟩;rw[upd_same];exact(pF (T:=⟨.usr l',.inr (f k),(T k').τ,(T k').g⟩) id).2 ⟨f k,rfl,hk,.inl dM⟩
  .exact h.dy.tr.phase (i:=i) (ph':=.usr l') (.inr (f k)) (T i).g ⟨λ_=>by rw[hl];trivial,λ_=>trivial⟩
 .exact Yv (i:=i) (λ_=>rfl) aC aN aN zuO λk' cP=>by rw[upd_ne _ _ aC]
def ResT (P:bS)(ty:aM)(Wg:Nat)(A:jP L)(Fin:bC->aE->Prop)(Shun:Loc->Prop)(gs:Array bC)(w:aE)(t:lS)(T:Nat->Td L)(sl:Option (Nat×Nat))(i:Nat):Prop:=
 ∃m' ops,runT P (crowd gs w sl) i=(.next m',ops)/\
  (Ps P Wg Fin Shun m' (t++ops)\/∃gs' w' K4 T' tT,m'=crowd gs' w' K4/\Inv P ty Wg A Fin Shun gs' w' (t++ops) T' tT/\Relation.TransGen Mu.lt (mu gs' T') (mu gs T))
def qF (h:vG P ty Wg A Fin Shun gs w t T sl i):ResT P ty Wg A Fin Shun gs w t T sl i:=by
 obtain⟨m',ops,h1,h2⟩:=h;refine⟨m',ops,h1,h2.imp id ?_⟩;rintro⟨a,b,c,d,e,h3,h4,h5⟩;exact⟨a,b,c,d,e,h3,h4,.single h5⟩
def Inv.stepR (hA:A.Ok)(hi:gs[i]? =some x)(cG:x.status=.running):∀(r:Rk) {T:Nat->Td L},Inv P ty Wg A Fin Shun gs w t T ch->(T i).r=.inr r->ResT P ty Wg A Fin Shun gs w t T sl i:=by
 intro r
 induction r with
 |mk ι f ih=>
  intro T h hr;by_cases hl:(T i).ph.leaves
  .exact qF (h.leaver hi cG hl)
  have hs:=h.dy.sit i x hi;rw[pF hl] at hs;obtain⟨r',vT,hB,hx⟩:=hs;obtain rfl:r'=.mk ι f:=by rw[hr] at vT;injection vT with e;exact e.symm
  have dM:lV x (T i).g:=by
   rcases hx with hx|⟨_,_,_,_,rfl,_⟩|⟨_,rfl,_⟩
   .exact hx
   .cases cG
   .cases cG
  obtain⟨_,hB⟩:=hB;have hK:∀m ph d τ g w,(λm ph d τ g w=>∃k,oX P ty Wg A Fin (f k) m ph d τ g w) m ph d τ g w->∃k,oX P ty Wg A Fin (f k) m ph d τ g w:=λ_ _ _ _ _ _ e=>e;have main:(T i).ph.waits->i=0:=λe=>yZ λh0=>h.st.role i h0 e;rcases hB with hB|hB
  .cases hp:(T i).ph<;>rw[hp] at hB<;>first|exact hB.elim|skip
   .exact qF (h.ownG hi dM C8 hr hK Xx)
   .exact qF (h.idle1 hi dM zgF hl hr hK zgV)
   .exact qF (h.idle1 hi dM zgF hl hr hK zgV)
   .exact qF (h.idle1 hi dM zgF hl hr hK zgV)
   .exact qF (h.idle1 hi dM zgF hl hr hK zgV)
   .exact qF (h.ownG hi dM C8 hr hK Xx)
   .exact qF (h.ownG hi dM C8 hr hK Xx)
   .exact qF (h.ownG hi dM C8 hr hK Xx)
   .exact qF (h.ownG hi dM C8 hr hK Xx)
   .exact qF (h.ownG hi dM C8 hr hK Xx)
  .cases hp:(T i).ph with
   |gone=>rw[hp] at hB;exact hB.elim
   |quit l=>rw[hp] at hB;exact hB.elim
   |rel l=>rw[hp] at hB;exact qF (h.dec hA hi dM hr hp hB)
   |l1 l=>exact qF (h.last hA hi dM hr C8 hB)
   |l2 l=>exact qF (h.last hA hi dM hr C8 hB)
   |l3 l=>exact qF (h.last hA hi dM hr C8 hB)
   |w1 b=>
    obtain rfl:=main C8;rw[hp] at hB;exact qF (h.look hA hi dM hr (.inl ⟨b,hp⟩) λaI iQ v hv=>hB aI iQ v (hv b hp))
   |w2 v=>
    obtain rfl:=main C8;rw[hp] at hB;exact qF (h.cas hA hi dM hr hp hB)
   |w3=>
    obtain rfl:=main C8;rw[hp] at hB;exact qF (h.sleep hA hi dM hr hp hB)
   |w4=>
    obtain rfl:=main C8;rw[hp] at hB;exact qF (h.woke hA hi dM hr hp hB)
   |w5=>
    obtain rfl:=main C8;rw[hp] at hB;exact qF (h.fin hA hi dM hr hp hB)
   |usr l=>
    rw[hp] at hB;simp only[zR] at hB
    cases ha:A.act l with
    |send c ok pub nx=>exact qF (h.send hA hi dM hr hp ha hB)
    |recv c ok nx sh=>exact qF (h.recv hA hi dM hr hp ha hB)
    |close c nx=>exact qF (h.close hA hi dM hr hp ha hB)
    |add nx=>exact qF (h.add hA hi dM hr hp ha hB)
    |spawn pub lc nx=>exact qF (h.spawn hA hi dM hr hp ha hB)
    |done=>
     unfold mF at hB;rw[ha] at hB;obtain⟨hd,_,tJ,h1⟩:=hB;obtain⟨g',aY,lX,hk⟩:=h1 w bU.refl;exact qF (h.release hA hi dM aY lX hr hp ha hd tJ hk)
    |note can=>
     unfold mF at hB;rw[ha] at hB;obtain⟨l',hc,k,hk⟩:=hB;obtain⟨hI,hm⟩:=h.note hA hi dM hr hp ha hc hk;obtain⟨m',ops,h1,h2⟩:=ih k hI (by rw[upd_same]);refine⟨m',ops,h1,h2.imp id ?_⟩;rintro⟨a,b,c,d,e,h3,h4,h5⟩;exact⟨a,b,c,d,e,h3,h4,.tail h5 hm⟩
    |wait=>
     have h0:=(hA.wait _ ch i l h.st.inv (by show(T i).ph.proj=_;rw[hp];rfl) ha).1;subst h0;unfold mF at hB;rw[ha] at hB;exact qF (h.look hA hi dM hr (.inr ⟨l,hp,ha⟩) λaI iQ v _=>hB aI iQ v)
def Inv.step (hA:A.Ok)(h:Inv P ty Wg A Fin Shun gs w t T ch)(hi:gs[i]? =some x)(cG:x.status=.running):ResT P ty Wg A Fin Shun gs w t T sl i:=by
 by_cases hl:(T i).ph.leaves
 .exact qF (h.leaver hi cG hl)
 have hs:=h.dy.sit i x hi;rw[pF hl] at hs;obtain⟨r,hr,_,_⟩:=hs;exact Inv.stepR hA hi cG r h hr
def zGH (hA:A.Ok)(h:Inv P ty Wg A Fin Shun gs w t T ch)(sl:Option (Nat×Nat)):∃N m' t',runNT P N (crowd gs w sl) t=(.next m',t')/\Ps P Wg Fin Shun m' t':=by
 refine run_to (zIN Mu.wf) (λμ m t=>∃gs w sl T ch,m=crowd gs w sl/\Inv P ty Wg A Fin Shun gs w t T ch/\μ=mu gs T) (Ps P Wg Fin Shun) ?_ _ _ _ ⟨gs,w,sl,T,ch,rfl,h,rfl⟩;rintro μ m t ⟨gs,w,sl,T,ch,rfl,h,rfl⟩;obtain⟨i,g,d,K4,hi,hg,aY⟩:=crowd_pick (P:=P) (w:=w) (sl:=sl) h.awake (h.some1 hA);obtain⟨m',ops,cG,zdN⟩:=(h.at d).step hA hi hg (sl:=K4);refine⟨m',ops,aY.trans cG,zdN.imp id ?_⟩;rintro⟨gs',w',zEF,T',tT,rfl,hI,Jx⟩;exact⟨_,Jx,gs',w',zEF,T',tT,rfl,hI,rfl⟩
end
end Go.Mt
namespace Go.Tt
section
variable {P:dL}{S:aO->Prop}{K:Pr}{R:Pr}
variable {f:aF->ByteArray->cU (ForInStep ByteArray)}
def zo1 (hf:∀(R:Pr) c c' s,VR S K R c c'->aG P S K lT (f c s) R (f c' s)):∀(l l':List aF) {R:Pr} (s:ByteArray),xN S K R l l'->
 aG P S K lT (forIn (m:=cU) l s f) R (forIn (m:=cU) l' s f)
 |[],[],R,s,_=>aG.ret rfl
 |[],_::_,_,_,h=>by have:=h.1;simp at this
 |_::_,[],_,_,h=>by have:=h.1;simp at this
 |a::l,a'::l',R,s,h=>by
  obtain⟨h1,h2⟩:=h.cons;simp only[List.forIn_cons];refine aG.bnd (hf R a a' s h1) ?_;rintro R1 e1 x _ rfl
  cases x with
  |done b=>exact aG.ret rfl
  |yield b=>exact zo1 hf l l' b (h2.mono e1.le)
variable {x':aF}
def zHr {x:aF}(h:VR S K R x x'):aG P S K (VA S K) (Z6 x) R (Z6 x'):=by
 unfold Z6
 cases h with
 |slice ha=>
  cases ha with
  |none=>exact aG.ret (.string _)
  |some ha=>
   refine aG.bnd (zkW ha _) ?_;intro R1 e1 xs bY hx;simp only;rw[<-zoX,<-zoX];refine aG.bnd (zo1 (λR c c' s hc=>?_) _ _ _ hx.toList) ?_
   .cases hc with
    |int k n=>cases k<;>first|exact aG.ret rfl|exact .inl (bO.bnd _)|exact .inl bO
    |_=>first|exact .inl (bO.bnd _)|exact .inl bO
   rintro R2 e2 s _ rfl;exact aG.ret (.string _)
 |_=>exact .inl bO
def zkY (v:aF):cU Next:=
 match v with
 | .pointer none| .nilIface| .nilFunc=>runtimePanic .nilDeref
 | .func (.method name) first captured=>
  match(first[0]? :Option aF) with
  |some .nilIface=>runtimePanic .nilDeref
  |some (.iface t w)=>do
   if(<-nilAhead ((<-program).types.size+Made.depth) t w name) !=some false then
    unsupported (.noEntry "op/nilCheck.the method's receiver behind this interface value is a nil pointer, or cannot be seen to be none, and the arguments act or may panic (ledger 612)")
   pure (.value (.func (.method name) first captured))
  |_=>pure (.value (.func (.method name) first captured))
 |x=>pure (.value x)
def zz3 {x:aF}(h:VR S K R x x'):aG P S K (λR a b=>∃v v',a=.value v/\b=.value v'/\VR S K R v v') (zkY x) R (zkY x'):=by
 unfold zkY;have h0:=h
 cases h with
 |pointer h=>cases h with
  |none=>exact .inl vK
  |some h=>exact aG.ret ⟨_,_,rfl,rfl,h0⟩
 |nilIface=>exact .inl vK
 |nilFunc=>exact .inl vK
 |junk h=>exact .inl vK
 |_=>exact aG.ret ⟨_,_,rfl,rfl,h0⟩
end
end Go.Tt
namespace Go.Tt
open Go.Conc
end Go.Tt
namespace Go.Tt
def zaX (p:bS)(t:aM):Bool:=
 match p.underlying t with
 |some (.int _)=>(match p.info? t with|some i=>(match i.desc with| .named "sync.copyChecker" _=>false|_=>true)|none=>true)
 |some d=>zbi d
 |none=>false
def zpn:aF->Bool
 | .bool _| .int _ _| .string _| .nilFunc| .nilIface| .pointer none| .slice none _ _| .map none| .chan none=>true
 |_=>false
def Zu (p:bS)(t:aM):Bool:=match p.underlying t with|some (.map k _)=>zaX p k|_=>true
def zbD (p:bS)(t:aM):Bool:=match p.underlying t with|some (.int _)=>true|_=>false
def dP (fs:aO->Bool):cN->Bool
 | .tmp _=>true
 | .const v=>zpn v
 | .global _=>false
 | .func f=>fs f
def okTab (p:bS):cN->Bool
 | .global g=>Ai p g
 |_=>false
structure Cl where
 fs:aO->Bool
 gs:aO->Bool
 dy:Bool
abbrev Cl.T (c:Cl)(f:aO):Prop:=c.gs f=true
def zfv (p:bS)(t:aM):Bool:=match p.underlying t with|some (.slice e)=>(match p.underlying e with|some (.int .u8)=>true|_=>false)|_=>false
def zfN (p:bS)(t:aM):Bool:=match p.underlying t with|some .string=>true|_=>false
def zgm (p:bS)(t:aM):cN->Bool
 | .const (.pointer none)=>(match p.underlying t with|some (.pointer _)=>true|_=>false)
 |_=>false
def zuM (c:Cl):cN->Bool
 | .func g=>c.gs g
 |x=>dP c.fs x&&c.dy
def rU (p:bS)(c:Cl):Op->Bool
 | .move x| .assign x| .nilCheck x=>dP c.fs x
 | .pick q a b=>dP c.fs q&&dP c.fs a&&dP c.fs b
 | .alloc _=>true
 | .box _ x=>dP c.fs x
 | .build _ ps=>ps.all λx=>dP c.fs x.2
 | .buildSlice _ _ ps=>ps.all λx=>dP c.fs x.2
 | .load _ a=>dP c.fs a
 | .store _ a x=>dP c.fs a&&dP c.fs x
 | .binOp op t x y _=>dP c.fs x&&dP c.fs y&&(if op matches .eql| .neq then(zaX p t||zgm p t y)&& !(p.eqGuardType p.depth t) else true)
 | .unOp _ _ x=>dP c.fs x
 | .convert s d x=>dP c.fs x&&((zbD p s&&zbD p d)||(zfv p s&&zfN p d))
 | .makeFunc (.func f) a b=>c.fs f&&a.all (dP c.fs)&&b.all (dP c.fs)
 | .makeMap _ r=>(match r with|some x=>dP c.fs x|none=>true)
 | .makeSlice _ l q=>dP c.fs l&&dP c.fs q
 | .makeChan _ l=>dP c.fs l
 | .slice _ x lo hi mx=>dP c.fs x&&(match lo with|some x=>dP c.fs x|none=>true)&&(match hi with|some x=>dP c.fs x|none=>true)&&(match mx with|some x=>dP c.fs x|none=>true)
 | .fieldAddr _ x _| .extract x _=>dP c.fs x
 | .indexAddr _ x i=>(dP c.fs x||okTab p x)&&dP c.fs i
 | .index _ x i=>dP c.fs x&&dP c.fs i
 | .makeInterface _ x| .panic x=>dP c.fs x
 | .lookup t x i _=>dP c.fs x&&dP c.fs i&&Zu p t
 | .mapUpdate t m k x=>dP c.fs m&&dP c.fs k&&dP c.fs x&&Zu p t
 | .call {callee:=.value f,args,..}=>zuM c f&&args.all (dP c.fs)
 | .call {callee:=.builtin .len,args,..}| .call {callee:=.builtin .cap,args,..}| .call {callee:=.builtin .copy,args,..}| .call {callee:=.builtin .append,args,..}| .call {callee:=.builtin .clear,args,..}=>args.all (dP c.fs)
 | .call {callee:=.builtin .delete,args,argTypes}=>args.all (dP c.fs)&&(match argTypes[0]? with|some t=>Zu p t|none=>true)
 |_=>false
section
variable {P:dL}{fs:aO->Bool}{K R:Pr}
abbrev SF (fs:aO->Bool):aO->Prop:=λf=>fs f=true
variable {t:aM}
def zfn (h:zaX P.c t=true):Kn P t:=by
 unfold zaX at h;have hu:∀d,P.c.underlying t=some d->P.underlying t=some d:=λd e=>e;split at h
 .next k e=>
  refine⟨⟨_,e,rfl⟩,λk' _ i x hi hd=>?_⟩;have gT:P.c.info? t=some i:=hi;rw[gT] at h;simp only[hd] at h;cases h
 .next d aT e=>
  exact⟨⟨d,e,h⟩,λk hk=>absurd (e.symm.trans hk) (by intro e';injection e' with e';exact aT k (e'▸rfl))⟩
 .cases h
def zuw {v:aF}(h:zpn v=true):VR (SF fs) K R v v:=by
 cases v with
 |bool b=>exact .bool b
 |int k n=>exact .int k n
 |string s=>exact .string s
 |nilFunc=>exact .nilFunc
 |nilIface=>exact .nilIface
 |pointer a=>cases a with|none=>exact .pointer .none|some a=>cases h
 |slice a n c=>cases a with|none=>exact .slice .none|some a=>cases h
 |map a=>cases a with|none=>exact .map .none|some a=>cases h
 |chan a=>cases a with|none=>exact .chan .none|some a=>cases h
 |_=>cases h
inductive NxR (S:aO->Prop)(T:aO->Prop)(K R:Pr):Next->Next->Prop
 |value {v v':aF}:VR S K R v v'->NxR S T K R (.value v) (.value v')
 |skip:NxR S T K R .skip .skip
 |enter {f:aO} {xs bY:Array aF}:T f->bK S K R xs bY->NxR S T K R (.enter f xs) (.enter f bY)
abbrev NA (S:aO->Prop)(T:aO->Prop)(K:Pr):Pr->Next->Next->Prop:=λR n n'=>NxR S T K R n n'
def pS {S T:aO->Prop}{s s':cU aF}(h:aG P S K (VA S K) s R s'):aG P S K (NA S T K) (do pure (.value (<-s))) R (do pure (.value (<-s'))):=
 aG.bnd h λ_ _ _ _ hv=>aG.ret (.value hv)
variable {α:Type}
def sim_u {S T:aO->Prop}{s s':cU α}(h:aG P S K lT s R s'):aG P S K (NA S T K) (do let _<-s;pure .skip) R (do let _<-s';pure .skip):=
 aG.bnd h λ_ _ _ _ _=>aG.ret .skip
variable {ρ ρ':cN->aF}
def bK.maps {S:aO->Prop}{ok:cN->Bool}(h:∀x,ok x=true->VR S K R (ρ x) (ρ' x)){xs:Array cN}(hx:xs.all ok=true):bK S K R (xs.map ρ) (xs.map ρ'):=by
 refine⟨aQ,λi v v' h1 h2=>?_⟩;rw[x7] at h1 h2;obtain⟨x,Et,rfl⟩:=xK.1 h1;obtain⟨y,Oz,rfl⟩:=xK.1 h2;rw[Et] at Oz;cases Oz;exact h x (zjP.1 hx i (dO.1 Et).1|>λe=>by rwa [(dO.1 Et).2] at e)
def zF9 {S:aO->Prop}(op:BinOp)(t:aM)(x y:cN){a a' b b':aF}(ha:VR S K R a a')(hb:VR S K R b b')(h:P.c.eqGuardType P.c.depth t=false)(h':P.g.eqGuardType P.g.depth t=false):
 aG P S K lT (eqGuard op t x y a b) R (eqGuard op t x y a' b'):=by
 have rest:aG P S K lT (do
  match a,b with
  | .nilIface,.nilIface=>
   if(x matches .const _)||(y matches .const _) then return
   if<-Tx Tw t a b then unsupported (.noEntry "binop/eql: two nil values of an interface type with methods, neither of them the literal nil")
  | .agg _,.agg _=>
   if !(<-program).eqGuardType (<-program).depth t then return
   if<-Tx Tw t a b then unsupported (.noEntry "binop/eql: two nil values of an interface type with methods, in a part of a struct or an array")
  |_,_=>pure ()) R (do
  match a',b' with
  | .nilIface,.nilIface=>
   if(x matches .const _)||(y matches .const _) then return
   if<-Tx Tw t a' b' then unsupported (.noEntry "binop/eql: two nil values of an interface type with methods, neither of them the literal nil")
  | .agg _,.agg _=>
   if !(<-program).eqGuardType (<-program).depth t then return
   if<-Tx Tw t a' b' then unsupported (.noEntry "binop/eql: two nil values of an interface type with methods, in a part of a struct or an array")
  |_,_=>pure ()):=by
  cases ha with
  |nilIface=>
   cases hb with
   |nilIface=>
    simp only;by_cases hc:((x matches .const _)||(y matches .const _))=true
    .rw[if_pos hc]
     exact aG.ret rfl
    .rw[if_neg hc]
     refine aG.bnd (A:=lT) ?_ λR1 h1 c _ e=>?_
     .show aG P S K lT (Tx (9999+1) t .nilIface .nilIface) R (Tx (9999+1) t .nilIface .nilIface)
      unfold Tx;refine aG.bnd (lY t) ?_;rintro R1 h1 d _ ⟨rfl,_⟩;cases d<;>exact aG.ret rfl
     .subst e
      cases c
      .exact aG.ret rfl
      .exact .inl lF
   |junk hh=>cases b'<;>first|exact hh.elim|exact aG.ret rfl
   |_=>exact aG.ret rfl
  |agg e1 e2=>
   cases hb with
   |agg e3 e4=>
    simp only;refine aG.bnd Rp ?_;rintro R1 h1 p q ⟨rfl,rfl⟩;refine aG.bnd Rp ?_;rintro R2 h2 p q ⟨rfl,rfl⟩;rw[h,h'];exact aG.ret rfl
   |junk hh=>cases b'<;>first|exact hh.elim|exact aG.ret rfl
   |_=>exact aG.ret rfl
  |junk hh=>cases a'<;>first|exact hh.elim|exact aG.ret rfl
  |_=>exact aG.ret rfl
 unfold eqGuard;cases op<;>first|exact aG.ret rfl|exact rest
variable {x x':aF}
def sim_cmp (op:BinOp)(ho:op=.eql\/op=.neq)(he:Kn P t)(hR:tH P K R){y y':aF}(hx:VR (SF fs) K R x x')(hy:VR (SF fs) K R y y'):
 aG P (SF fs) K (VA (SF fs) K) (binOp op t x y) R (binOp op t x' y'):=by
 have k1:aG P (SF fs) K (VA (SF fs) K) (do pure (.bool (<-zW t x y))) R (do pure (.bool (<-zW t x' y'))):=
  aG.bnd (znm he hR hx hy) λR1 _ b _ e=>by subst e;exact aG.ret (.bool _)
 have k2:aG P (SF fs) K (VA (SF fs) K) (do pure (.bool (!(<-zW t x y)))) R (do pure (.bool (!(<-zW t x' y')))):=
  aG.bnd (znm he hR hx hy) λR1 _ b _ e=>by subst e;exact aG.ret (.bool _)
 by_cases hf:Flat x/\Flat y
 rotate_left
 .obtain⟨d,hd,ok⟩:=he.ex
  have hn:=zma hd ok hf;refine .inl ?_
  rcases ho with rfl|rfl<;>cases x<;>cases y<;>first
   |exact(hf ⟨True.intro,True.intro⟩).elim
   |exact hn.bnd _
 rcases ho with rfl|rfl
 .cases hx with
  |int k a=>
   cases hy with
   |int k' b=>
    by_cases hk:k=k'
    .subst hk;simp only[binOp,ne_eq,not_true_eq_false,if_false];exact zj6 _ _ _
    .simp only[binOp,ne_eq,hk,not_false_eq_true,if_true];exact .inl bO
   |junk hh=>exact hf.2.elim
   |_=>exact k1
  |string a=>
   cases hy with
   |string b=>exact znV .eql a b
   |junk hh=>exact hf.2.elim
   |_=>exact k1
  |junk hh=>exact hf.1.elim
  |_=>cases hy<;>first|exact k1|exact hf.2.elim
 .cases hx with
  |int k a=>
   cases hy with
   |int k' b=>
    by_cases hk:k=k'
    .subst hk;simp only[binOp,ne_eq,not_true_eq_false,if_false];exact zj6 _ _ _
    .simp only[binOp,ne_eq,hk,not_false_eq_true,if_true];exact .inl bO
   |junk hh=>exact hf.2.elim
   |_=>exact k2
  |string a=>
   cases hy with
   |string b=>exact znV .neq a b
   |junk hh=>exact hf.2.elim
   |_=>exact k2
  |junk hh=>exact hf.1.elim
  |_=>cases hy<;>first|exact k2|exact hf.2.elim
def zed {d:TypeDesc}(hd:P.c.underlying t=some d){β:Type}{f:TypeDesc->cU β}(hf:fC P (f d)):fC P (underlying t>>=f):=λw hw=>by
 obtain⟨h1,w1,h2,h3⟩:=hf w hw;refine⟨h1,w1,?_,h3⟩;have hg:P.g.underlying t=some d:=hd;have hu:(underlying t).run P.g w=.ok d w:=by simp[underlying,program,bD,bind,xU,pure,hg]
 have:=rK P.g (underlying t) f w;rw[hu] at this;exact this.trans h2
variable {p:bS}
def zzJ {y:cN}(h:zgm p t y=true):∃el,p.underlying t=some (.pointer el)/\y=.const (.pointer none):=by
 unfold zgm at h;split at h
 .split at h
  .next el e=>exact⟨el,e,rfl⟩
  .cases h
 .cases h
def zGK {el:aM}(op:BinOp)(ho:op=.eql\/op=.neq)(he:P.c.underlying t=some (.pointer el))(hx:VR (SF fs) K R x x'):
 aG P (SF fs) K (VA (SF fs) K) (binOp op t x (.pointer none)) R (binOp op t x' (.pointer none)):=by
 have key:aG P (SF fs) K lT (C0 (9999+1) t x (.pointer none)) R (C0 (9999+1) t x' (.pointer none)):=by
  unfold C0;refine aG.bnd (lY t) ?_;rintro R1 h1 d _ ⟨rfl,hd⟩;obtain rfl:d=.pointer el:=cE ((hd).symm.trans he)
  cases hx with
  |pointer hp=>
   cases hp with
   |none=>exact aG.ret rfl
   |some _=>exact aG.ret rfl
  |_=>exact .inl zhv
 have k1:aG P (SF fs) K (VA (SF fs) K) (do pure (.bool (<-zW t x (.pointer none)))) R (do pure (.bool (<-zW t x' (.pointer none)))):=
  aG.bnd key λR1 _ b _ e=>by subst e;exact aG.ret (.bool _)
 have k2:aG P (SF fs) K (VA (SF fs) K) (do pure (.bool (!(<-zW t x (.pointer none))))) R (do pure (.bool (!(<-zW t x' (.pointer none))))):=
  aG.bnd key λR1 _ b _ e=>by subst e;exact aG.ret (.bool _)
 by_cases hj:x=.nilFunc
 .subst hj
  refine .inl ?_;have hn:fC P (zW t .nilFunc (.pointer none)):=by
   show fC P (C0 (9999+1) t .nilFunc (.pointer none));unfold C0;exact zed he zhv
  rcases ho with rfl|rfl<;>exact hn.bnd _
 rcases ho with rfl|rfl
 .cases hx with
  |junk _=>exact absurd rfl hj
  |_=>exact k1
 .cases hx with
  |junk _=>exact absurd rfl hj
  |_=>exact k2
variable {s:aM}
def zFE {d:aM}(hs:zbD P.c s=true)(hd:zbD P.c d=true){S:aO->Prop}(hx:VR S K R x x'):aG P S K (VA S K) (convert s d x) R (convert s d x'):=by
 unfold convert;refine aG.bnd (lY s) ?_;rintro R1 h1 a _ ⟨rfl,ha⟩;refine aG.bnd (lY d) ?_;rintro R2 h2 b _ ⟨rfl,hb⟩;have fI:P.c.underlying s=some a:=ha;have bZ:P.c.underlying d=some b:=hb;unfold zbD at hs hd;rw[fI] at hs;rw[bZ] at hd;cases a<;>simp only[jF] at hs;cases b<;>simp only[jF] at hd
 cases hx with
 |int k n=>exact aG.ret (.int _ _)
 |pointer h=>cases h<;>exact .inl lF
 |_=>exact .inl lF
def zDt (h:zfv p s=true):∃e,p.underlying s=some (.slice e)/\p.underlying e=some (.int .u8):=by
 unfold zfv at h;split at h
 .next e he=>
  split at h
  .next h2=>exact⟨e,he,h2⟩
  .cases h
 .cases h
def zBP (h:zfN p s=true):p.underlying s=some .string:=by
 unfold zfN at h;split at h
 .next he=>exact he
 .cases h
def zzf {S:aO->Prop}(n:Int):aG P S K (VA S K) (zmg n) R (zmg n):=by
 unfold zmg
 first|exact aG.ret (.string _)|(split<;>exact aG.ret (.string _))
def zJy {d:aM}(hs:zfv P.c s=true)(hd:zfN P.c d=true){S:aO->Prop}(hx:VR S K R x x'):aG P S K (VA S K) (convert s d x) R (convert s d x'):=by
 obtain⟨e,vY,Ax⟩:=zDt hs;have Nj:=zBP hd;by_cases hj:x=.nilFunc
 .subst hj
  refine .inl ?_;unfold convert;exact zed vY (zed Nj (zed Ax bO))
 unfold convert;refine aG.bnd (lY s) ?_;rintro R1 h1 a _ ⟨rfl,ha⟩;refine aG.bnd (lY d) ?_;rintro R2 h2 b _ ⟨rfl,hb⟩;obtain rfl:a=.slice e:=cE ((ha).symm.trans vY);obtain rfl:b=.string:=cE ((hb).symm.trans Nj)
 have tail:∀{x x':aF},VR S K R2 x x'->aG P S K (VA S K) (do match<-underlying e with| .int .u8=>Z6 x| .int .i32=>zrx x|_=>stuck "Convert: a slice of what to string?") R2
  (do match<-underlying e with| .int .u8=>Z6 x'| .int .i32=>zrx x'|_=>stuck "Convert: a slice of what to string?"):=by
  intro x x' hx;refine aG.bnd (lY e) ?_;rintro R3 h3 c _ ⟨rfl,hc⟩;obtain rfl:c=.int .u8:=cE ((hc).symm.trans Ax);exact zHr (hx.mono h3.le)
 have Af:=(hx.mono h1.le).mono h2.le
 cases hx with
 |int k n=>exact zzf n
 |string s=>exact aG.ret (.string s)
 |nilFunc=>exact absurd rfl hj
 |junk _=>exact absurd rfl hj
 |slice h=>cases h<;>exact tail Af
 |_=>exact tail Af
def oG (p:bS)(q:Cl):Code->Bool
 | .skip| .ret| .exit _| .label _=>true
 | .region _ ops _=>ops.all λo=>rU p q o.op
 | .seq a b=>oG p q a&&oG p q b
 | .cond c a b=>dP q.fs c&&oG p q a&&oG p q b
 | .block _ c| .loop c| .scope c=>oG p q c
 |_=>false
def uC (P:dL)(fs:aO->Bool)(f:aO):Cl:=if P.lw f then⟨fs,P.lw,false⟩ else⟨fs,P.gs,P.dy⟩
def zla (P:dL)(fs:aO->Bool)(f:aO):(uC P fs f).fs=fs:=by unfold uC;split<;>rfl
structure Fit (P:dL)(fs:aO->Bool):Prop where
 zero:Hz P (SF fs)
 fn:∀f,P.gs f=true->P.op f=false->∃fn c,P.g.funcs[f]? =some fn/\P.c.funcs[f]? =some fn/\(fn.name== "runtime.NumGoroutine")=false/\fn.body=some c/\oG P.c (uC P fs f) c=true
 opq:∀f,P.gs f=true->P.op f=true->∃fn fn' c c',P.g.funcs[f]? =some fn/\P.c.funcs[f]? =some fn'/\(fn.name== "runtime.NumGoroutine")=false/\(fn'.name== "runtime.NumGoroutine")=false/\fn.body=some c/\fn'.body=some c'
 low:∀f,P.lw f=true->P.op f=false/\P.gs f=true
 dyn:P.dy=true->∀f,fs f=true->P.gs f=true
 guard:∀t,P.g.eqGuardType P.g.depth t=P.c.eqGuardType P.c.depth t
def zyw (F:Fit P fs){T:aO->Prop}{f:aO}(hf:P.gs f=true)(hT:T f){xs bY:Array aF}(h:bK (SF fs) K R xs bY):aG P (SF fs) K (NA (SF fs) T K) (callFunc f xs) R (callFunc f bY):=by
 unfold callFunc;refine aG.bnd Rp ?_;rintro R1 h1 p q ⟨rfl,rfl⟩
 cases ho:P.op f with
 |false=>
  obtain⟨fn,c,e1,e2,e3,e4,_⟩:=F.fn f hf ho;simp only[e1,e2,e3,e4,zrc,jF,if_false];exact aG.ret (.enter hT (h.mono h1.le))
 |true=>
  obtain⟨fn,fn',c,c',e1,e2,e3,e4,e5,e6⟩:=F.opq f hf ho;simp only[e1,e2,e3,e4,e5,e6,zrc,jF,if_false];exact aG.ret (.enter hT (h.mono h1.le))
def zf6 {S:aO->Prop}(hρ:∀x,dP fs x=true->VR S K R (ρ x) (ρ' x)){r:Option cN}(h:(match r with|some x=>dP fs x|none=>true)=true):zF S K R (r.map ρ) (r.map ρ'):=by
 cases r with
 |none=>exact .none
 |some x=>exact .some (hρ x h)
variable {ps:Array (Nat×cN)}
def zrW {S:aO->Prop}(hρ:∀x,dP fs x=true->VR S K R (ρ x) (ρ' x))(h:(ps.all λx=>dP fs x.2)=true):Ks S K R (ps.map λ(i,x)=>(i,ρ x)).toList (ps.map λ(i,x)=>(i,ρ' x)).toList:=by
 rw[ztR,ztR];have h':∀x∈ps.toList,dP fs x.2=true:=λx hx=>by
  rw[Array.all_eq_true'] at h;exact h x (by simpa using hx)
 generalize ps.toList=l at h'⊢
 induction l with
 |nil=>exact .nil
 |cons a l ih=>
  obtain⟨i,x⟩:=a;exact .cons (hρ x (h' (i,x) aQ)) (ih λy hy=>h' y (by simp[hy]))
def zFj (q:Ask α):∀w:aE,(w.ask q).2.heap=w.heap:=by
 induction q with
 |done a=>intro w;rfl
 |ask zMd range k ih=>
  intro w;unfold aE.ask;simp only;split
  .exact ih _ w
  .exact ih _ _
def zzq (c:Sys):nE P (sys c):=λw hw=>.inl ⟨(w.sys c).1,(w.sys c).2,rfl,λb cc e=>by
 have:(w.sys c).2.heap=w.heap:=by
  have h:=zFj (Kernel.perform c w.os) w;unfold aE.sys;split
  .rfl
  .next e=>rw[e] at h;exact h
 rw[this];exact hw b cc e⟩
def zDR :fC P (zvW x):=by
 unfold zvW;cases x<;>first|exact zeg|exact bO|skip
 refine fC.then ?_ λn=>?_
 .unfold Instr.panicnil
  refine(zzq _).bnd λr=>?_;cases r<;>first|exact .never bO|exact zjJ.bnd λ_=>nE.ret _
 .split
  .exact zeg
  .exact vK
def zh5 (F:Fit P fs)(hR:tH P K R)(hρ:∀x,dP fs x=true->VR (SF fs) K R (ρ x) (ρ' x))(Dw:∀g,ρ (.func g)=.func (.func g) #[] #[])(zzT:∀g,ρ' (.func g)=.func (.func g) #[] #[])(zkk:∀g,ρ (.global g)=.pointer (some ⟨g,0,none⟩))(zE7:∀g,ρ' (.global g)=.pointer (some ⟨g,0,none⟩))(sO:∀v,ρ (.const v)=v)(zAv:∀v,ρ' (.const v)=v){q:Cl}(hq:q.fs=fs)(ztk:∀f,q.gs f=true->P.gs f=true)(zwY:q.dy=true->∀f,fs f=true->q.gs f=true){o:aZ}(ok:rU P.c q o.op=true):
 aG P (SF fs) K (NA (SF fs) q.T K) (aS ρ o) R (aS ρ' o):=by
 obtain⟨dst,op,type,pos,after,guard⟩:=o;subst hq;simp only at ok;unfold aS
 cases op with
 |move x=>exact aG.ret (.value (hρ x ok))
 |assign x=>exact aG.ret (.value (hρ x ok))
 |pick c a b=>
  simp only[rU,fV] at ok;refine aG.bnd (zBu (hρ c ok.1.1)) ?_;rintro R1 h1 x _ rfl;cases x
  .exact aG.ret (.value ((hρ b ok.2).mono h1.le))
  .exact aG.ret (.value ((hρ a ok.1.2).mono h1.le))
 |alloc t=>exact pS (zBN F.zero t)
 |box t x=>exact pS (zHV t (hρ x ok))
 |load t a=>exact pS (zy6 t (hρ a ok))
 |store t a x=>
  simp only[rU,fV] at ok;exact sim_u (zDV t (hρ a ok.1) (hρ x ok.2))
 |binOp op t x y t'=>
  simp only[rU,fV] at ok;obtain⟨⟨hx,hy⟩,hk⟩:=ok;by_cases ho:op=.eql\/op=.neq
  .have cP:(zaX P.c t=true\/zgm P.c t y=true)/\P.c.eqGuardType P.c.depth t=false:=by
    rcases ho with rfl|rfl<;>simpa using hk
   refine pS ?_;refine aG.bnd (zF9 op t x y (hρ x hx) (hρ y hy) cP.2 (by rw[F.guard];exact cP.2)) ?_;rintro R1 h1 _ _ _;rcases cP.1 with o5|o5
   .exact sim_cmp op ho (zfn o5) (h1.ok hR) ((hρ x hx).mono h1.le) ((hρ y hy).mono h1.le)
   .obtain⟨el,e1,e2⟩:=zzJ o5
    subst e2;rw[sO,zAv];exact zGK op ho e1 ((hρ x hx).mono h1.le)
  .have uZ:op≠ .eql/\op≠ .neq:=⟨λe=>ho (.inl e),λe=>ho (.inr e)⟩
   refine pS ?_;have hg:∀a b,eqGuard op t x y a b=kU ():=λa b=>by
    unfold eqGuard;cases op<;>first|rfl|exact absurd rfl uZ.1|exact absurd rfl uZ.2
   rw[hg,hg];refine aG.bnd (A:=lT) (aG.ret rfl) ?_;rintro R1 h1 _ _ _;exact zIO op t uZ (h1.ok hR) ((hρ x hx).mono h1.le) ((hρ y hy).mono h1.le)
 |unOp op t x=>exact pS (zJc op (hρ x ok))
 |convert s d x=>
  simp only[rU,fV,Eo] at ok;rcases ok.2 with h|h
  .exact pS (zFE h.1 h.2 (hρ x ok.1))
  .exact pS (zJy h.1 h.2 (hρ x ok.1))
 |nilCheck x=>
  have:=zz3 (P:=P) (hρ x ok);exact this.mono λR' _ a b h=>by
   obtain⟨v,v',rfl,rfl,h⟩:=h;exact .value h
 |build t ps=>exact pS (zBW F.zero t (zrW hρ ok))
 |buildSlice t n ps=>exact pS (zJq F.zero t n (zrW hρ ok))
 |makeFunc fn a b=>
  cases fn with
  |func f=>
   simp only[rU,fV] at ok;have ha:=bK.maps hρ ok.1.2;have hb:=bK.maps hρ ok.2;exact pS (aG.ret (.func ok.1.1 ha.1 ha.2 hb.1 hb.2))
  |_=>cases ok
 |makeMap t r=>exact pS (zHW t (zf6 hρ ok))
 |makeSlice t l c=>
  simp only[rU,fV] at ok;exact pS (zBM F.zero t (hρ l ok.1) (hρ c ok.2))
 |makeChan t l=>exact pS (zGk t (hρ l ok))
 |slice t x lo hi mx=>
  simp only[rU,fV] at ok;exact pS (zJA t (hρ x ok.1.1.1) (zf6 hρ ok.1.1.2) (zf6 hρ ok.1.2) (zf6 hρ ok.2))
 |fieldAddr t x f=>exact pS (zAG t (hρ x ok) f)
 |extract x i=>exact pS (zI5 (hρ x ok) i)
 |indexAddr t x i=>
  simp only[rU,fV,Eo] at ok;have hx:VR (SF q.fs) K R (ρ x) (ρ' x):=by
   rcases ok.1 with h|h
   .exact hρ x h
   .cases x with
    |global g=>rw[zkk,zE7];exact .pointer (.some (.mk (hR.tb g h)))
    |_=>cases h
  exact pS (zEV t hx (hρ i ok.2))
 |makeInterface t x=>exact pS (zC6 t (hρ x ok))
 |panic x=>exact pS (.inl zDR)
 |index t x i=>
  simp only[rU,fV] at ok;exact pS (zII t (hρ x ok.1) (hρ i ok.2))
 |lookup t x i c=>
  simp only[rU,fV] at ok;refine pS (zzM F.zero (λk e he=>?_) hR (hρ x ok.1.1) (hρ i ok.1.2) c);have hm:=ok.2;unfold Zu at hm;rw[show P.c.underlying t=some (.map k e) from he] at hm;exact zfn hm
 |mapUpdate t m k x=>
  simp only[rU,fV] at ok;refine sim_u (zzn (λk e he=>?_) hR (hρ m ok.1.1.1) (hρ k ok.1.1.2) (hρ x ok.1.2));have hm:=ok.2;unfold Zu at hm;rw[show P.c.underlying t=some (.map k e) from he] at hm;exact zfn hm
 |call c=>
  obtain⟨callee,args,kS⟩:=c
  cases callee with
  |value f=>
   simp only[rU,fV] at ok;have ha:=bK.maps hρ ok.2;have key:(∀g,f≠ .func g)->aG P (SF q.fs) K (NA (SF q.fs) q.T K) (aS ρ ⟨dst,.call ⟨.value f,args,kS⟩,type,pos,after,guard⟩) R (aS ρ' ⟨dst,.call ⟨.value f,args,kS⟩,type,pos,after,guard⟩):=by
    intro aT;have h1:dP q.fs f=true/\q.dy=true:=by
     have:=ok.1;unfold zuM at this
     cases f with
     |func g=>exact absurd rfl (aT g)
     |_=>simpa using this
    have hf:=hρ f h1.1;unfold aS;simp only[resolve];unfold Bt;generalize ρ f=vf at hf⊢;generalize ρ' f=vf' at hf⊢
    cases hf with
    |nilFunc=>
     refine .inl ?_;intro w hw;exact(vK (P:=P) (α:=Next) (e:=.nilDeref)) w hw
    |junk _=>
     refine .inl ?_;intro w hw;exact(vK (P:=P) (α:=Next) (e:=.nilDeref)) w hw
    |func hs e1 zC e2 h2=>
     show aG P _ K _ (callFunc _ _) R (callFunc _ _);exact zyw F (ztk _ (zwY h1.2 _ hs)) (zwY h1.2 _ hs) (bK.append (bK.append ⟨e1,zC⟩ ha) ⟨e2,h2⟩)
    |_=>exact .inl (fC.bnd bO _)
   cases f with
   |func g=>
    have hg:q.gs g=true:=ok.1;simp only[resolve];unfold Bt;rw[Dw,zzT];show aG P _ K _ (callFunc _ _) R (callFunc _ _);exact zyw F (ztk _ hg) hg (bK.append (bK.append bK.empty ha) bK.empty)
   |_=>exact key (λg e=>by cases e)
  |builtin b=>
   cases b with
   |len=>exact pS (zAb kS type (bK.maps hρ ok))
   |cap=>exact pS (zB2 kS type (bK.maps hρ ok))
   |copy=>exact pS (zyU kS type (bK.maps hρ ok))
   |clear=>exact pS (zHl F.zero kS type (bK.maps hρ ok))
   |append=>
    by_cases hi:∃xt k,kS[1]? =some xt/\P.underlying xt=some (.int k)
    .obtain⟨xt,k,e1,e2⟩:=hi
     exact pS (zBA F.zero type e1 e2 (bK.maps hρ ok))
    .refine pS (zEj F.zero type (λxt d he hd k hk=>?_) (bK.maps hρ ok))
     subst hk;exact hi ⟨xt,k,he,hd⟩
   |delete=>
    simp only[rU,fV] at ok;refine pS (zCS type (λmt k e he hd=>?_) hR (bK.maps hρ ok.1));have h2:=ok.2;rw[he] at h2;simp only at h2;unfold Zu at h2;rw[show P.c.underlying mt=some (.map k e) from hd] at h2;exact zfn h2
   |_=>cases ok
  |invoke x y=>cases ok
 |_=>cases ok
end
def tp (w:aE)(T:jV)(e:Nat):World:={w with tape:=T,drawn:=e}
def N9 {α:Type}(p:bS)(s:cU α)(w:aE):Prop:=
 ∀x w',s.run p w=.ok x w'->w'.tape=w.tape/\w.drawn<=w'.drawn/\∀T e,(∀n,n<w'.drawn-w.drawn->∀q,T (e+n) q=w.tape (w.drawn+n) q)->s.run p (tp w T e)=.ok x (tp w' T (e+(w'.drawn-w.drawn)))
variable {α:Type}{p:bS}{w:aE}
def N9.no {s:cU α}(h:∀x w',s.run p w≠ .ok x w'):N9 p s w:=λx w' e=>absurd e (h x w')
def N9.after {s iQ:cU α}{aI:aE}(h:N9 p iQ aI)(hr:s.run p w=iQ.run p aI)(ht:aI.tape=w.tape)(hd:aI.drawn=w.drawn)(vT:∀T e,s.run p (tp w T e)=iQ.run p (tp aI T e)):N9 p s w:=by
 intro x w' e;rw[hr] at e;obtain⟨h1,h2,h3⟩:=h x w' e;refine⟨h1.trans ht,aC,λT e' ha=>?_⟩;rw[vT,h3 T e' (λn hn q=>by rw[ha n aC q,ht,hd])];rw[hd]
def aG.locl {P:dL}{S:aO->Prop}{β:Type}{K:Pr}{A:Pr->α->β->Prop}{G:Gp}{St:Nat->Prop}(hG:G=P.gp)(s:cU α):
 ∀{R:Pr} {w W:aE} {s':cU β},aG P S K A s R s'->cT S K R G St w W->Tp w W->N9 P.g s w:=by
 induction s with
 |pure a=>
  rintro R w W s' _ hw ht x w' e;simp only[bD,rC] at e;obtain⟨rfl,rfl⟩:=e;exact⟨rfl,aX _,λT e _=>by simp[bD]⟩
 |load m a k ih=>
  rintro R w W s' (hn|⟨rfl,a',k',rfl,ha,hk⟩) hw ht
  .exact .no (hn.no hw.np)
  obtain⟨qQ⟩:=ha;rename_i b b' o sp;obtain⟨ob,yA,h1,h2,h3⟩:=hw.cont b b' qQ
  cases h3 with
  |cells hc hz=>
   rename_i c c' T fz Ii
   cases sp with
   |some sp=>exact .no λx w'=>by simp[bD,lI,h1,yX,rE]
   |none=>
    cases hv:c[o]? with
    |none=>exact .no λx w'=>by simp[bD,lI,h1,yX,rE,hv]
    |some v=>
     obtain⟨v',J6,wI⟩:=hc.get hv;have e1:w.cell? ⟨b,o,none⟩=some v:=by simp[lI,h1,hv]
     refine(ih v (hk v v' wI) hw ht).after (by rw[bD,e1]) rfl rfl λT e=>?_;rw[bD,show(tp w T e).cell? ⟨b,o,none⟩=some v from e1]
  |_=>exact .no λx w'=>by simp[bD,lI,h1,yX,rE]
 |store m a v k ih=>
  rintro R w W s' (hn|⟨rfl,a',v',k',rfl,ha,hv,hk⟩) hw ht
  .exact .no (hn.no hw.np)
  obtain⟨qQ⟩:=ha;rename_i b b' o sp;by_cases M0:∃cs,v=.agg cs
  .obtain⟨cs,rfl⟩:=M0;exact .no λx w'=>by simp[bD]
  by_cases Be:∃cs,v=.tuple cs
  .obtain⟨cs,rfl⟩:=Be;exact .no λx w'=>by simp[bD]
  have cG:∀w:aE,(cU.store .plain ⟨b,o,sp⟩ v k).run P.g w=(match w.cell? ⟨b,o,sp⟩ with
   |some _=>if w.frozen? ⟨b,o,sp⟩ then .halt (.unsupported (.unsafePointer "a write to bytes that a string shares")) w else k.run P.g (w.setCell ⟨b,o,sp⟩ v)
   |none=>match w.farStore P.g ⟨b,o,sp⟩ v (zaT== .atomic) with
    | .ok (w,_)=>k.run P.g w
    | .error h=>.halt h w):=λw=>by
   rw[bD]
   .rfl
   .exact λcs e=>M0 ⟨cs,e⟩
   .exact λcs e=>Be ⟨cs,e⟩
  obtain⟨ob,yA,h1,h2,h3⟩:=hw.cont b b' qQ
  cases h3 with
  |cells hc hz=>
   rename_i c c' T fz Ii
   cases sp with
   |some sp=>exact .no λx w'=>by rw[cG];simp[lI,h1,De,rE]
   |none=>
    cases fJ:c[o]? with
    |none=>exact .no λx w'=>by rw[cG];simp[lI,h1,De,rE,fJ]
    |some v0=>
     have e1:w.cell? ⟨b,o,none⟩=some v0:=by simp[lI,h1,fJ]
     cases mU:w.frozen? ⟨b,o,none⟩ with
     |true=>exact .no λx w'=>by rw[cG,e1];simp[mU]
     |false=>
      have Yr:¬Jv fz o:=by
       intro⟨z1,z2⟩;simp[aE.frozen?,h1,z1,z2] at mU
      have y8:¬St b:=by
       intro hs;obtain⟨_,c2,T2,hi,g1,g2⟩:=hw.st b hs;rw[h1] at g1;injection g1 with g1;injection g1 with g1 _ g3;subst g1 g3;exact Yr ⟨jY _,Nat.lt_of_lt_of_le (dO.1 fJ).1 g2⟩
      have st:=nA.upd hw qQ y8 (oI.cells (T:=T) (hc.set o hv) hz);refine(ih hk st.rel (ht.step st)).after (by rw[cG,e1];simp only[mU,jF,if_false];rw[U9 h1]) rfl rfl λT' e=>?_;rw[cG,show(tp w T' e).cell? ⟨b,o,none⟩=some v0 from e1];simp only[show(tp w T' e).frozen? ⟨b,o,none⟩=false from mU,jF,if_false];rw[U9 (w:=tp w T' e) h1];rfl
  |_=>exact .no λx w'=>by rw[cG];simp[lI,h1,De,rE]
 |new o k ih=>
  rintro R w W s' (hn|⟨o',k',rfl,ho,hk⟩) hw ht
  .exact .no (hn.no hw.np)
  have st:=nA.push hw ho;exact(ih _ (hk _ _ ⟨λb hb=>absurd (hw.lt _ _ hb).1 (Ci _),λa ha=>absurd (hw.lt _ _ ha).2 (Ci _),by subst hG;exact hw.gle⟩) st.rel (ht.step st)).after N1 rfl rfl λT e=>by rw[bD];rfl
 |shape r k ih=>
  rintro R w W s' (hn|⟨r',k',rfl,tG,hk⟩) hw ht
  .exact .no (hn.no hw.np)
  exact(ih _ (hk _) hw ht).after N1 rfl rfl λT e=>by rw[bD];rfl
 |freeze a n k ih=>
  rintro R w W s' (hn|h) hw ht
  .exact .no (hn.no hw.np)
  .exact h.elim
 |frozen a k ih=>
  rintro R w W s' (hn|⟨r',k',rfl,hk⟩) hw ht
  .exact .no (hn.no hw.np)
  exact(ih _ (hk _ true) hw ht).after N1 rfl rfl λT e=>by rw[bD];rfl
 |getObj r k ih=>
  rintro R w W s' (hn|⟨r',k',rfl,tG,hk⟩) hw ht
  .exact .no (hn.no hw.np)
  rcases hw.orR tG with y|y
  .obtain⟨ob,yA,h1,h2,h3⟩:=hw.cont r r' y
   have go:(∀c T fz,ob≠ .cells c T fz)->N9 P.g (.getObj r k) w:=λn1=>by
    refine(ih ob (hk _ _ h3) hw ht).after ?_ rfl rfl λT e=>?_
    .rw[bD,h1];cases ob<;>first|rfl|exact absurd rfl (n1 _ _ _)
    .rw[bD,show(tp w T e).heap[r]? =some ob from h1];cases ob<;>first|rfl|exact absurd rfl (n1 _ _ _)
   cases h3 with
   |cells _ _=>exact .no λx w'=>by rw[bD,h1];simp
   |_=>exact go aQ
  .exact .no λx w'=>by rw[bD,y];simp[o9]
 |setObj r o k ih=>
  rintro R w W s' (hn|⟨r',o',k',rfl,tG,ho,hk⟩) hw ht
  .exact .no (hn.no hw.np)
  rcases hw.orR tG with y|y
  .obtain⟨ob,yA,h1,h2,h3⟩:=hw.cont r r' y
   have go:(∀c T fz,ob≠ .cells c T fz)->N9 P.g (.setObj r o k) w:=λn1=>by
    have y8:¬St r:=by
     intro hs;obtain⟨_,c2,T2,hi,g1,g2⟩:=hw.st r hs;rw[h1] at g1;injection g1 with g1;exact n1 _ _ _ g1
    have st:=nA.upd hw y y8 ho;refine(ih hk st.rel (ht.step st)).after ?_ rfl rfl λT e=>?_
    .rw[bD,h1];cases ob<;>first|rfl|exact absurd rfl (n1 _ _ _)
    .rw[bD,show(tp w T e).heap[r]? =some ob from h1];cases ob<;>first|rfl|exact absurd rfl (n1 _ _ _)
   cases h3 with
   |cells _ _=>exact .no λx w'=>by rw[bD,h1];simp
   |_=>exact go aQ
  .exact .no λx w'=>by rw[bD,y];simp[o9]
 |choose q k ih=>
  rintro R w W s' (hn|⟨k',rfl,hk⟩) hw ht
  .exact .no (hn.no hw.np)
  cases hq:q.forced with
  |true=>exact(ih 0 (hk 0) hw ht).after (by rw[bD,hq];rfl) rfl rfl λT e=>by rw[bD,hq];rfl
  |false=>
   have st:=nA.draw hw;intro x w' e;rw[bD,hq] at e;simp only[jF,if_false] at e;obtain⟨h1,h2,h3⟩:=ih _ (hk _) st.rel (ht.step st) x w' e;simp only at h1 h2 h3;refine⟨h1,aC,λT e' ha=>?_⟩;rw[bD,hq];simp only[jF,if_false];have ea:T e' q=w.tape w.drawn q:=ha 0 aC q;have:=h3 T (e'+1) (λn hn q'=>by rw[show e'+1+n=e'+(n+1) by omega,show w.drawn+1+n=w.drawn+(n+1) by omega];exact ha (n+1) aC q');show bD P.g (k (q.cut (T e' q))) (tp w T (e'+1))=_;rw[ea];rw[show tp w T (e'+1)=tp {w with drawn:=w.drawn+1} T (e'+1) from rfl,this];congr 2;omega
 |sys c k ih=>
  rintro R w W s' (hn|h) hw ht
  .exact .no (hn.no hw.np)
  .exact h.elim
 |program k ih=>
  rintro R w W s' (hn|⟨k',rfl,hk⟩) hw ht
  .exact .no (hn.no hw.np)
  exact(ih _ hk hw ht).after N1 rfl rfl λT e=>by rw[bD]
 |mark m k ih=>
  rintro R w W s' (hn|⟨rfl,k',rfl,hk⟩) hw ht
  .exact .no (hn.no hw.np)
  exact(ih hk hw ht).after N1 rfl rfl λT e=>by rw[bD]
 |halt h=>
  rintro R w W s' _ hw ht;exact .no λx w'=>by simp[bD]
end Go.Tt
namespace Go.Tt
open Go.Conc (G)
structure Fm where
 fn:aO
 tmps:Array aF
 todo:List eE
 ret:Bool
def Fm.fr (m:Fm):Frame:={fn:=m.fn,tmps:=m.tmps,todo:=m.todo,defers:=[],mode:=if m.ret then .returning else .run,kind:=.normal}
def Fm.eval (m:Fm):cN->aF
 | .tmp t=>m.tmps.getD t aA
 | .const v=>v
 | .global g=>.pointer (some ⟨g,0,none⟩)
 | .func f=>.func (.func f) #[] #[]
def Fm.fin (m:Fm)(ops:Array aZ)(i:Nat)(rest:List Nat)(k:List eE)(v:aF):Fm:=
 {m with tmps:=match(ops[i]?).bind (·.dst) with|some d=>m.tmps.setIfInBounds d v|none=>m.tmps,todo:=.inRegion ops rest::k}
def yY (t:Array aF):Pc->cU aF
 | .tmp s=>pure (t.getD s aA)
 | .cell s ty=>do loadVar ty (<-asAddr (t.getD s aA))
def oH:List Pc->Array aF->cU aF
 |[],_=>pure (.tuple #[])
 |[a],t=>yY t a
 |[a,b],t=>do
  let x<-yY t a
  let y<-yY t b
  pure (.tuple #[x,y])
 |[a,b,c],t=>do
  let x<-yY t a
  let y<-yY t b
  let z<-yY t c
  pure (.tuple #[x,y,z])
 |[a,b,c,d],t=>do
  let x<-yY t a
  let y<-yY t b
  let z<-yY t c
  let u<-yY t d
  pure (.tuple #[x,y,z,u])
 |_,_=>stuck ""
def Cw (l:List Pc):Prop:=l=[]\/(∃a,l=[a])\/(∃a b,l=[a,b])\/(∃a b c,l=[a,b,c])\/∃a b c d,l=[a,b,c,d]
variable {fn:Func}
def zeI {tmps:Array aF}(h:Cw fn.results.toList):results fn tmps=oH fn.results.toList tmps:=by
 rcases h with e|⟨a,e⟩|⟨a,b,e⟩|⟨a,b,c,e⟩|⟨a,b,c,d,e⟩
 .have e':=zcx.1 e
  simp[results,e',oH]
 .have e':=zcx.1 e
  rw[e];cases a<;>simp[results,e',oH,yY]
 .have e':=zcx.1 e
  rw[e];cases a<;>cases b<;>simp[results,e',oH,yY]
 .have e':=zcx.1 e
  rw[e];cases a<;>cases b<;>cases c<;>simp[results,e',oH,yY]
 .have e':=zcx.1 e
  rw[e];cases a<;>cases b<;>cases c<;>cases d<;>simp[results,e',oH,yY]
def TF {α:Type}(p:bS)(s:cU α):Prop:=∀w x w',s.run p w=.ok x w'->w'=w/\∀T e,s.run p (tp w T e)=.ok x (tp w T e)
variable {α:Type}{p:bS}
def TF.ret (a:α):TF p (kU a:cU α):=λw x w' h=>by
 simp only[kU,bD,rC] at h;obtain⟨rfl,rfl⟩:=h;exact⟨rfl,λT e=>rfl⟩
def TF.bnd {β:Type}{s:cU α}{f:α->cU β}(hs:TF p s)(hf:∀a,TF p (f a)):TF p (s>>=f):=λw x w' h=>by
 have h2:=(rK p s f w).symm.trans h
 cases hx:s.run p w with
 |halt y w2=>rw[hx] at h2;cases h2
 |ok a w1=>
  rw[hx] at h2;obtain⟨rfl,h3⟩:=hs w a w1 hx;obtain⟨rfl,h4⟩:=hf a w1 x w' h2;refine⟨rfl,λT e=>(rK p s f _).trans ?_⟩;rw[h3 T e];exact h4 T e
def TF.halt {s:cU α}(h:∀w x w',s.run p w≠ .ok x w'):TF p s:=λw x w' e=>absurd e (h w x w')
def zfZ {Ta:String}:TF p (stuck Ta:cU α):=TF.halt λw x w' e=>by simp[stuck,bD] at e
def zvZ :TF p program:=λw x w' h=>by
 simp only[program,bD,rC] at h;obtain⟨rfl,rfl⟩:=h;exact⟨rfl,λT e=>rfl⟩
def zxP (a:bL):TF p (load a):=λw x w' h=>by
 unfold load at h⊢;simp only[bD] at h⊢
 cases hc:w.cell? a with
 |none=>
  rw[hc] at h;simp only at h
  cases hf:yX p w a (zaT==zei) with
  |error y=>rw[hf] at h;cases h
  |ok v=>
   rw[hf] at h;simp only[rC] at h;refine⟨h.2.symm,λT e=>?_⟩;have e1:(tp w T e).cell? a=none:=hc;have e2:yX p (tp w T e) a (zaT==zei)=.ok v:=(show yX p (tp w T e) a (zaT==zei)=yX p w a (zaT==zei) from rfl).trans hf;rw[e1,e2];simp only[h.1]
 |some v=>
  rw[hc] at h;simp only[rC] at h;refine⟨h.2.symm,λT e=>?_⟩;have:(tp w T e).cell? a=some v:=hc;rw[this,h.1]
def zJd (t:aM):TF p (underlying t):=by
 unfold underlying;refine zvZ.bnd λq=>?_;split
 .exact .ret _
 .exact zfZ
def zCd (t:aM):TF p (isAgg t):=by
 unfold isAgg;refine(zJd t).bnd λq=>?_;split<;>exact .ret _
def zIK (t:aM):TF p (sizeOf t):=by
 unfold sizeOf typeInfo;refine TF.bnd (zvZ.bnd λq=>?_) λi=>.ret _;split
 .exact .ret _
 .exact zfZ
def zxr (a:bL):∀(n i:Nat) (acc:Array aF),TF p (loadCellsFrom a i n acc)
 |0,i,acc=>.ret _
 |n+1,i,acc=>(zxP _).bnd λv=>zxr a n (i+1) (acc.push v)
def zG4 (t:aM)(a:bL):TF p (loadVar t a):=by
 unfold loadVar;refine(zCd t).bnd λb=>?_;split
 .exact(zIK t).bnd λn=>(zxr a n 0 #[]).bnd λx=>.ret _
 .exact zxP a
def Lu (t:Array aF)(r:Pc):TF p (yY t r):=by
 cases r with
 |tmp s=>exact .ret _
 |cell s ty=>
  refine TF.bnd ?_ λa=>zG4 ty a;unfold asAddr;split
  .exact .ret _
  .exact TF.halt λw x w' e=>by simp[runtimePanic,goPanic,bD,bind,xU,program] at e
  .exact zfZ
def Qf (t:Array aF):∀l:List Pc,TF p (oH l t)
 |[]=>.ret _
 |[a]=>Lu t a
 |[a,b]=>(Lu t a).bnd λx=>(Lu t b).bnd λy=>.ret _
 |[a,b,c]=>(Lu t a).bnd λx=>(Lu t b).bnd λy=>(Lu t c).bnd λz=>.ret _
 |[a,b,c,d]=>(Lu t a).bnd λx=>(Lu t b).bnd λy=>(Lu t c).bnd λz=>(Lu t d).bnd λu=>.ret _
 |_::_::_::_::_::_=>zfZ
variable {w w':aE}{v:aF}
def zsS {l:List Pc}{t:Array aF}(h:(oH l t).run p w=.ok v w'):Cw l:=by
 match l,h with
 |[],_=>exact .inl rfl
 |[a],_=>exact .inr (.inl ⟨a,rfl⟩)
 |[a,b],_=>exact .inr (.inr (.inl ⟨a,b,rfl⟩))
 |[a,b,c],_=>exact .inr (.inr (.inr (.inl ⟨a,b,c,rfl⟩)))
 |[a,b,c,d],_=>exact .inr (.inr (.inr (.inr ⟨a,b,c,d,rfl⟩)))
 |a::b::c::d::e::l,h=>simp[oH,stuck,bD] at h
def qI (p:bS)(m:Fm)(ms:List Fm)(ops:Array aZ)(i:Nat)(rest:List Nat)(k:List eE):Next->cU (Fm×List Fm)
 | .value v=>pure (m.fin ops i rest k v,ms)
 | .skip=>pure (m.fin ops i rest k aA,ms)
 | .enter f args=>
  match p.funcs[f]? with
  |some fn=>(match fn.body with
   |some c=>pure (⟨f,args++nI (fn.ntmps-args.size) aA,[.code c],false⟩,m::ms)
   |none=>stuck "")
  |none=>stuck ""
 |_=>stuck ""
def zX (p:bS)(m:Fm):List Fm->cU (Fm×List Fm)
 |[]=>stuck ""
 |c::rest=>
  match c.todo,p.funcs[m.fn]? with
  | .inRegion ops (i::r)::k,some fn=>do
   let v<-oH fn.results.toList m.tmps
   pure (c.fin ops i r k v,rest)
  |_,_=>stuck ""
variable {m:Fm}{rest:List Fm}{w1:aE}
def Uh {c m1:Fm}{ms1:List Fm}(h:(zX p m (c::rest)).run p w=.ok (m1,ms1) w1):
 ∃ops i r k v fn,c.todo=.inRegion ops (i::r)::k/\p.funcs[m.fn]? =some fn/\(oH fn.results.toList m.tmps).run p w=.ok v w1/\m1=c.fin ops i r k v/\ms1=rest:=by
 unfold zX at h;simp only at h;split at h
 .next ops i r k fn hc hf=>
  have h2:=(rK p _ _ w).symm.trans h
  cases hx:(oH fn.results.toList m.tmps).run p w with
  |halt y w2=>rw[hx] at h2;cases h2
  |ok v w2=>
   rw[hx] at h2;simp only[uU,kU,bD,rC,pJ] at h2;obtain⟨⟨rfl,rfl⟩,rfl⟩:=h2;exact⟨ops,i,r,k,v,fn,hc,hf,hx,rfl,rfl⟩
 .simp[stuck,bD] at h
variable {ops:Array aZ}{i:Nat}{k:List eE}
def Lj {c:Fm}{r:List Nat}(hc:c.todo=.inRegion ops (i::r)::k)(hf:p.funcs[m.fn]? =some fn)(hv:(oH fn.results.toList m.tmps).run p w=.ok v w1):
 (zX p m (c::rest)).run p w=.ok (c.fin ops i r k v,rest) w1/\∀es,(zX p m (c::rest)).events p w es=(oH fn.results.toList m.tmps).events p w es:=by
 unfold zX;simp only[hc,hf];constructor
 .refine(rK p _ _ w).trans ?_
  rw[hv];rfl
 .intro es
  refine(Sk p _ _ w es).trans ?_;rw[hv,Qx];rfl
def rP (p:bS)(m:Fm)(ms:List Fm):cU (Fm×List Fm):=
 match m.todo with
 |[]=>pure ({m with ret:=true},ms)
 | .code .ret::_=>pure ({m with ret:=true},ms)
 | .code .skip::k=>pure ({m with todo:=k},ms)
 | .code (.label _)::k=>pure ({m with todo:=k},ms)
 | .inBlock _::k=>pure ({m with todo:=k},ms)
 | .inScope _::k=>pure ({m with todo:=k},ms)
 | .code (.seq a b)::k=>pure ({m with todo:=.code a:: .code b::k},ms)
 | .code (.cond c a b)::k=>(match m.eval c with
  | .bool t=>pure ({m with todo:=.code (if t then a else b)::k},ms)
  |_=>stuck "")
 | .code (.block id body)::k=>pure ({m with todo:=.code body:: .inBlock id::k},ms)
 | .code (.loop body)::k=>pure ({m with todo:=.code body:: .inLoop body::k},ms)
 | .inLoop body::k=>pure ({m with todo:=.code body:: .inLoop body::k},ms)
 | .code (.scope body)::k=>pure ({m with todo:=.code body:: .inScope body::k},ms)
 | .code (.exit id)::k=>(match exitTo id k with
  |some k'=>pure ({m with todo:=k'},ms)
  |none=>stuck "")
 | .code (.region id ops draw)::k=>
  if draw then do
   let t<-choose (.order m.fn id)
   pure ({m with todo:=.inRegion ops (Un (p.follows .mixedOrders) ops t)::k},ms)
  else pure ({m with todo:=.inRegion ops (gN ops.size)::k},ms)
 | .inRegion _ []::k=>pure ({m with todo:=k},ms)
 | .inRegion ops (i::rest)::k=>
  if((ops[i]?).map (dD · (dR ops m.tmps))).getD false then
   match ops[i]? with
   |some o=>do
    let n<-aS m.eval o
    qI p m ms ops i rest k n
   |none=>stuck ""
  else pure (m.fin ops i rest k aA,ms)
 |_=>stuck ""
def eZ (p:bS)(m:Fm)(ms:List Fm):cU (Fm×List Fm):=if m.ret then zX p m ms else rP p m ms
def Fm.eval_fr (m:Fm):m.fr.eval=m.eval:=by funext x;cases x<;>rfl
def Fm.fr_run (h:m.ret=false):m.fr={fn:=m.fn,tmps:=m.tmps,todo:=m.todo,defers:=[],mode:=.run,kind:=.normal}:=by simp[Fm.fr,h]
def Fm.fr_ret (h:m.ret=true):m.fr={fn:=m.fn,tmps:=m.tmps,todo:=m.todo,defers:=[],mode:=.returning,kind:=.normal}:=by simp[Fm.fr,h]
def zGa {rest:List Nat}(h:m.todo=.inRegion ops (i::rest)::k)(v:aF):m.fr.finish v=(m.fin ops i rest k v).fr:=by
 simp only[dH.finish,Fm.fr,Fm.fin,h];cases(ops[i]?).bind (·.dst)<;>rfl
def Yt {f:aO}{c:Code}{args:Array aF}(hf:p.funcs[f]? =some fn)(hb:fn.body=some c):
 Eg p f args .normal=(⟨f,args++nI (fn.ntmps-args.size) aA,[.code c],false⟩:Fm).fr:=by
 simp[Eg,Fm.fr,hf,hb]
def zhK {id:Nat}:∀{l l':List eE} (k:List eE),exitTo id l=some l'->exitTo id (l++k)=some (l'++k)
 |[],_,_,h=>by simp[exitTo] at h
 |x::l,l',k,h=>by
  have tail:exitTo id l=some l'->exitTo id (l++k)=some (l'++k):=zhK k;cases x<;>simp only[exitTo,S4] at h⊢<;>first|exact tail h|skip
  split at h
  .next e=>simp only[fT] at h;subst h;rw[if_pos e]
  .next e=>rw[if_neg e];exact tail h
open Conc in
structure Dk where
 ds:List Deferred
 kd:CallKind
 ok:kd≠ .early
abbrev Dk.nil:Dk:=⟨[],.normal,aQ⟩
def Dk.base (d:Dk)(fn:aO):Frame:={(default:dH) with fn:=fn,kind:=d.kd}
def fx (k:List eE)(d:Dk)(m:Fm):Frame:={m.fr with todo:=m.todo++k,defers:=d.ds,kind:=d.kd}
def F6 (m:Fm):fx [] .nil m=m.fr:=by unfold fx;simp[Fm.fr]
variable {main:Bool}{m':Fm}{ms ms':List Fm}
def zmw (hr:m.ret=false)(aT:m.todo=[]->k=[])(h:(rP p m ms).run p w=.ok (m',ms') w')(d:Dk)(CS:List dH):
 (ms'=ms/\stepG p main (G (fx k d m) CS) w=.go (G (fx k d m') CS) w' (seen p m.fn ((rP p m ms).events p w #[])))\/
 (ms'=m::ms/\stepG p main (G (fx k d m) CS) w=.go (G m'.fr (fx k d m::CS)) w' (seen p m.fn ((rP p m ms).events p w #[]))):=by
 have Nx:seen p m.fn #[]=#[]:=Conc.seen_none p _;obtain⟨fn,tmps,todo,ret⟩:=m;simp only at hr Nx aT⊢;subst hr;unfold rP at h⊢;simp only at h⊢;split at h
 all_goals first
  |(simp[stuck,bD] at h;done)
  |(
   obtain rfl:=aT rfl;simp only[kU,bD,rC,pJ] at h;obtain⟨⟨rfl,rfl⟩,rfl⟩:=h;refine .inl ⟨rfl,?_⟩;simp[G,stepG,Mr,Fm.fr,fx,Nx,B7]
   done)
  |(
   simp only[kU,bD,rC,pJ] at h;obtain⟨⟨rfl,rfl⟩,rfl⟩:=h;refine .inl ⟨rfl,?_⟩;simp[G,stepG,Mr,Fm.fr,fx,Nx,B7]
   done)
  |skip
 case h_8 _ c a b k0=>
  generalize hv:Fm.eval {fn:=fn,tmps:=tmps,todo:=M5 (Code.cond c a b)::k0,ret:=false} c=v at h⊢;have hc:dH.eval {fn:=fn,tmps:=tmps,todo:=M5 (Code.cond c a b)::(k0++k),defers:=d.ds,mode:=.run,kind:=d.kd} c=v:=by rw[<-hv];cases c<;>rfl
  cases v with
  |bool t=>
   simp only[kU,bD,rC,pJ] at h;obtain⟨⟨rfl,rfl⟩,rfl⟩:=h;refine .inl ⟨rfl,?_⟩;simp[G,stepG,Mr,Fm.fr,fx,Nx,hc]
  |_=>simp[stuck,bD] at h
 case h_13 _ id k0=>
  cases he:exitTo id k0 with
  |some k'=>
   rw[he] at h;simp only[kU,bD,rC,pJ] at h;obtain⟨⟨rfl,rfl⟩,rfl⟩:=h;refine .inl ⟨rfl,?_⟩;simp[G,stepG,Mr,Fm.fr,fx,Nx,zhK k he]
  |none=>rw[he] at h;simp[stuck,bD] at h
 case h_14 _ id ops draw k0=>
  cases draw with
  |true=>
   simp[choose,bD,zl8,zjU,bind,xU,pure] at h;obtain⟨⟨rfl,rfl⟩,rfl⟩:=h;refine .inl ⟨rfl,?_⟩;simp[G,stepG,Mr,Fm.fr,fx,Nx,choose,bD,zl8,zjU,wE,cU.runT,bind,xU,pure]
  |false=>
   simp only[jF,if_false,kU,bD,rC,pJ] at h;obtain⟨⟨rfl,rfl⟩,rfl⟩:=h;refine .inl ⟨rfl,?_⟩;simp[G,stepG,Mr,Fm.fr,fx,Nx]
 case h_16 _ ops i rest k0=>
  have ze1:∀x,Act.eval ⟨tmps,d.ds⟩ x=Fm.eval {fn:=fn,tmps:=tmps,todo:=qY ops (i::rest)::k0,ret:=false} x:=λx=>by cases x<;>rfl
  have zqF:Act.eval ⟨tmps,d.ds⟩=Fm.eval {fn:=fn,tmps:=tmps,todo:=qY ops (i::rest)::k0,ret:=false}:=funext ze1;have zN:∀v,(d.base fn).at (Act.put ⟨tmps,d.ds⟩ ((ops[i]?).bind (·.dst)) v) (.inRegion ops rest::(k0++k))=fx k d (Fm.fin {fn:=fn,tmps:=tmps,todo:=qY ops (i::rest)::k0,ret:=false} ops i rest k0 v):=λv=>by
   unfold Fm.fin Act.put fx;cases(ops[i]?).bind (·.dst)<;>rfl
  have hb:(d.base fn).kind≠ .early:=d.ok;have U6:fx k d {fn:=fn,tmps:=tmps,todo:=qY ops (i::rest)::k0,ret:=false}=(d.base fn).at ⟨tmps,d.ds⟩ (.inRegion ops (i::rest)::(k0++k)):=rfl;rw[U6]
  cases ho:ops[i]? with
  |none=>
   rw[ho] at h;simp only[Option.map_none,Option.getD_none,jF,if_false,kU,bD,rC,pJ] at h;obtain⟨⟨rfl,rfl⟩,rfl⟩:=h;refine .inl ⟨rfl,?_⟩;rw[<-zN aA];have Dw:((d.base fn).at ⟨tmps,d.ds⟩ (.inRegion ops (i::rest)::(k0++k))).finish aA=(d.base fn).at (Act.put ⟨tmps,d.ds⟩ ((ops[i]?).bind (·.dst)) aA) (.inRegion ops rest::(k0++k)):=dH.finish_at _ _ _ _ _ _ _;rw[<-Dw];simp[G,stepG,Mr,Nx,ho,dH.at]
  |some o=>
   rw[ho] at h;simp only[ho,vC] at zN;simp only[Ac,zG] at h⊢;by_cases hw:dD o (dR ops tmps)=true
   .rw[if_pos hw] at h
    rw[if_pos hw];have zku:=rK p (aS (Fm.eval {fn:=fn,tmps:=tmps,todo:=qY ops (i::rest)::k0,ret:=false}) o) (qI p {fn:=fn,tmps:=tmps,todo:=qY ops (i::rest)::k0,ret:=false} ms ops i rest k0) w;have h':=zku.symm.trans h;have zoi:=Sk p (aS (Fm.eval {fn:=fn,tmps:=tmps,todo:=qY ops (i::rest)::k0,ret:=false}) o) (qI p {fn:=fn,tmps:=tmps,todo:=qY ops (i::rest)::k0,ret:=false} ms ops i rest k0) w #[]
    cases hx:(aS (Fm.eval {fn:=fn,tmps:=tmps,todo:=qY ops (i::rest)::k0,ret:=false}) o).run p w with
    |halt y w1=>rw[hx] at h';cases h'
    |ok n w1=>
     rw[hx] at h' zoi;have lP:(aS (Act.eval ⟨tmps,d.ds⟩) o).run p w=.ok n w1:=by rw[zqF];exact hx
     have hl:wL p fn ⟨tmps,d.ds⟩ o w=seen p fn ((aS (Fm.eval {fn:=fn,tmps:=tmps,todo:=qY ops (i::rest)::k0,ret:=false}) o).events p w #[]):=by unfold wL;rw[zqF]
     have h2:(qI p {fn:=fn,tmps:=tmps,todo:=qY ops (i::rest)::k0,ret:=false} ms ops i rest k0 n).run p w1=.ok (m',ms') w':=h'
     have zjX:∀(r:Fm×List Fm),qI p {fn:=fn,tmps:=tmps,todo:=qY ops (i::rest)::k0,ret:=false} ms ops i rest k0 n=kU r->
      (m',ms')=r/\w'=w1/\seen p fn ((do let n<-aS (Fm.eval {fn:=fn,tmps:=tmps,todo:=qY ops (i::rest)::k0,ret:=false}) o;qI p {fn:=fn,tmps:=tmps,todo:=qY ops (i::rest)::k0,ret:=false} ms ops i rest k0 n:cU (Fm×List Fm)).events p w #[])=wL p fn ⟨tmps,d.ds⟩ o w:=λr e=>by
      rw[e] at h2;simp only[kU,bD,rC] at h2;refine⟨h2.1.symm,h2.2.symm,?_⟩;rw[hl];congr 1;refine zoi.trans ?_;rw[Qx,e];rfl
     cases n with
     |value v=>
      obtain⟨e1,rfl,e3⟩:=zjX _ rfl;injection e1 with e1 e2;subst e1 e2;refine .inl ⟨rfl,?_⟩;rw[e3];have:=Conc.stepG_value (main:=main) (b:=d.base fn) (a:=⟨tmps,d.ds⟩) (rest:=rest) (k:=k0++k) (cs:=CS) ho hw hb lP;rw[zN] at this;exact this
     |skip=>
      obtain⟨e1,rfl,e3⟩:=zjX _ rfl;injection e1 with e1 e2;subst e1 e2;refine .inl ⟨rfl,?_⟩;rw[e3];have:=Conc.stepG_none (main:=main) (b:=d.base fn) (a:=⟨tmps,d.ds⟩) (rest:=rest) (k:=k0++k) (cs:=CS) ho hw hb lP;rw[zN] at this;exact this
     |enter f args=>
      have h3:=h2;simp only[qI] at h3
      cases hf:p.funcs[f]? with
      |none=>rw[hf] at h3;simp[stuck,bD] at h3
      |some fn2=>
       cases zbV:fn2.body with
       |none=>rw[hf] at h3;simp only[zbV] at h3;simp[stuck,bD] at h3
       |some c=>
        obtain⟨e1,rfl,e3⟩:=zjX _ (by simp only[qI,hf,zbV];rfl);injection e1 with e1 e2;subst e1 e2;refine .inr ⟨rfl,?_⟩;rw[e3];have:=Conc.stepG_enter (main:=main) (b:=d.base fn) (a:=⟨tmps,d.ds⟩) (rest:=rest) (k:=k0++k) (cs:=CS) ho hw hb lP;rw[Yt hf zbV] at this;exact this
     |_=>simp[qI,stuck,bD] at h2
   .rw[if_neg hw] at h
    rw[if_neg hw];simp only[kU,bD,rC,pJ] at h;obtain⟨⟨rfl,rfl⟩,rfl⟩:=h;refine .inl ⟨rfl,?_⟩;have:=Conc.stepG_unwanted (P:=p) (main:=main) (b:=d.base fn) (a:=⟨tmps,d.ds⟩) (rest:=rest) (k:=k0++k) (cs:=CS) (w:=w) ho (by simpa using hw);rw[zN] at this;rw[show seen p fn (wE p (kU (Fm.fin {fn:=fn,tmps:=tmps,todo:=qY ops (i::rest)::k0,ret:=false} ops i rest k0 aA,ms):cU (Fm×List Fm)) w #[])=#[] from Nx];exact this
def zk0 (h:(eZ p m ms).run p w=.ok (m',ms') w')(base:List dH):
 stepG p main (G m.fr (ms.map Fm.fr++base)) w=.go (G m'.fr (ms'.map Fm.fr++base)) w' (seen p m.fn ((eZ p m ms).events p w #[])):=by
 unfold eZ at h⊢;by_cases hr:m.ret=true
 .simp only[hr,if_true] at h⊢
  cases ms with
  |nil=>simp[zX,stuck,bD] at h
  |cons c rest=>
   obtain⟨ops,i,r,k,v,fn,hc,hf,hv,rfl,rfl⟩:=Uh h;rw[(Lj hc hf hv).2];have he:results fn m.tmps=oH fn.results.toList m.tmps:=zeI (zsS hv);rw[Fm.fr_ret hr,List.map_cons,S4];have zN:c.fr.finish v=(c.fin ops i r k v).fr:=zGa hc v;rw[<-zN];simp[G,stepG,unwind,doReturn,hf,he,hv,B7]
 .have vT:m.ret=false:=by simpa using hr
  simp only[vT,jF,if_false] at h⊢;rcases zmw (main:=main) vT (k:=[]) (λ_=>rfl) h .nil (ms.map Fm.fr++base) with⟨rfl,e⟩|⟨rfl,e⟩
  .simp only[F6] at e;exact e
  .simp only[F6] at e;exact e
end Go.Tt
namespace Go.Tt
def Ex (p:bS)(q:Cl):eE->Bool
 | .code c| .inLoop c| .inScope c=>oG p q c
 | .inBlock _=>true
 | .inRegion ops _=>ops.all λo=>rU p q o.op
 |_=>false
def Wait (m:Fm):Prop:=m.ret=false/\∃ops i r k,m.todo=.inRegion ops (i::r)::k
section
variable (P:dL)(fs:aO->Bool)(K R:Pr)
structure oT (m m':Fm):Prop where
 fn:m.fn=m'.fn
 todo:m.todo=m'.todo
 ret:m.ret=m'.ret
 tmps:bK (SF fs) K R m.tmps m'.tmps
 fit:∀i∈m.todo,Ex P.c (uC P fs m.fn) i=true
 infs:∃fn fn',P.g.funcs[m.fn]? =some fn/\P.c.funcs[m.fn]? =some fn'/\fn.results=fn'.results/\Cw fn.results.toList
inductive uG:List Fm->List Fm->Prop
 |nil:uG [] []
 |cons {m m':Fm} {ms ms':List Fm}:oT P fs K R m m'->Wait m->uG ms ms'->uG (m::ms) (m'::ms')
end
structure Fit2 (P:dL)(fs:aO->Bool):Prop extends Fit P fs where
 res:∀f,P.gs f=true->P.op f=false->∀fn,P.c.funcs[f]? =some fn->Cw fn.results.toList
 follows:P.g.follows .mixedOrders=P.c.follows .mixedOrders
section
variable {P:dL}{fs:aO->Bool}{K R R':Pr}
variable {m m':Fm}
def oT.mono (h:R.le R')(x:oT P fs K R m m'):oT P fs K R' m m':=⟨x.fn,x.todo,x.ret,x.tmps.mono h,x.fit,x.infs⟩
variable {ms ms':List Fm}
def uG.mono (h:R.le R')(x:uG P fs K R ms ms'):uG P fs K R' ms ms':=by
 induction x with
 |nil=>exact .nil
 |cons a b _ ih=>exact .cons (a.mono h) b ih
def xW {S:aO->Prop}:VR S K R aA undef:=.tuple rfl (λi v v' h=>by simp at h)
def oT.eval (x:oT P fs K R m m'):∀o,dP fs o=true->VR (SF fs) K R (m.eval o) (m'.eval o):=by
 intro o ho
 cases o with
 |tmp t=>exact x.tmps.getD t xW
 |const v=>exact zuw ho
 |global g=>cases ho
 |func f=>exact .func ho rfl (λi v v' h=>by simp at h) rfl (λi v v' h=>by simp at h)
def qU (p:bS)(f:aO)(xs:Array aF):Fm:=
 match p.funcs[f]? with
 |some fn=>(match fn.body with
  |some c=>⟨f,xs++nI (fn.ntmps-xs.size) aA,[.code c],false⟩
  |none=>⟨f,xs,[],false⟩)
 |none=>⟨f,xs,[],false⟩
structure OpR (P:dL)(fs:aO->Bool)(K R:Pr)(x y:Fm×List Fm):Prop where
 ex:∃f xs bY c c' rest L8,P.op f=true/\P.gs f=true/\bK (SF fs) K R xs bY/\x=(qU P.g f xs,c::rest)/\y=(qU P.c f bY,c'::L8)/\oT P fs K R c c'/\Wait c/\uG P fs K R rest L8/\P.lw c.fn=false
abbrev StA (P:dL)(fs:aO->Bool)(K:Pr)(l:Bool):Pr->(Fm×List Fm)->(Fm×List Fm)->Prop:=λR x y=>
 (oT P fs K R x.1 y.1/\uG P fs K R x.2 y.2/\(l=true->P.lw x.1.fn=true/\∀c∈x.2,P.lw c.fn=true))\/(l=false/\OpR P fs K R x y)
variable {ops:Array aZ}{i:Nat}{rest:List Nat}{k:List eE}
def oT.fin (x:oT P fs K R m m')(h:m.todo=.inRegion ops (i::rest)::k){v v':aF}(hv:VR (SF fs) K R v v'):
 oT P fs K R (m.fin ops i rest k v) (m'.fin ops i rest k v'):=by
 refine⟨x.fn,rfl,x.ret,?_,λj hj=>?_,x.infs⟩
 .unfold Fm.fin
  cases(ops[i]?).bind (·.dst) with
  |none=>exact x.tmps
  |some d=>exact x.tmps.set d hv
 .simp only[Fm.fin,jL] at hj
  rcases hj with rfl|hj
  .have:=x.fit (.inRegion ops (i::rest)) (by rw[h];simp)
   exact this
  .exact x.fit j (by rw[h];simp[hj])
abbrev LowS (P:dL)(l:Bool)(m:Fm)(ms:List Fm):Prop:=l=true->P.lw m.fn=true/\∀c∈ms,P.lw c.fn=true
variable {xs bY:Array aF}
def bK.pad (ha:bK (SF fs) K R xs bY)(n:Nat):bK (SF fs) K R (xs++nI (n-xs.size) aA) (bY++nI (n-bY.size) aA):=by
 rw[ha.1];refine ha.append ⟨aQ,λj v v' h1 h2=>?_⟩;rw[Array.getElem?_replicate] at h1 h2;split at h1
 .rename_i hj
  rw[if_pos hj] at h2;cases h1;cases h2;exact xW
 .cases h1
def zgM (F:Fit P fs)(g:aO):∀f,(uC P fs g).gs f=true->P.gs f=true:=λf h=>by
 unfold uC at h;split at h
 .exact(F.low f h).2
 .exact h
def zxH (F:Fit P fs)(g:aO):(uC P fs g).dy=true->∀f,fs f=true->(uC P fs g).gs f=true:=λh f hf=>by
 unfold uC at h⊢;split at h
 .cases h
 .next e=>rw[if_neg e];exact F.dyn h f hf
def sim_opS (F:Fit2 P fs){l:Bool}(hm:oT P fs K R m m')(jA:uG P fs K R ms ms')(nO:LowS P l m ms)(hr:m.ret=false)(h:m.todo=.inRegion ops (i::rest)::k){n n':Next}(hn:NxR (SF fs) (uC P fs m.fn).T K R n n'):
 aG P (SF fs) K (StA P fs K l) (qI P.g m ms ops i rest k n) R (qI P.c m' ms' ops i rest k n'):=by
 cases hn with
 |value hv=>exact aG.ret (.inl ⟨hm.fin h hv,jA,nO⟩)
 |skip=>exact aG.ret (.inl ⟨hm.fin h xW,jA,nO⟩)
 |enter hT ha=>
  rename_i f xs bY;have Rx:P.lw m.fn=true->P.lw f=true:=λe=>by
   unfold uC at hT;rw[if_pos e] at hT;exact hT
  have hf:P.gs f=true:=zgM F.toFit m.fn f hT
  cases ho:P.op f with
  |false=>
   obtain⟨fn,c,e1,e2,e3,e4,e5⟩:=F.fn f hf ho;simp only[qI,e1,e2,e4];refine aG.ret (.inl ⟨⟨rfl,rfl,rfl,ha.pad _,λj hj=>?_,⟨fn,fn,e1,e2,rfl,F.res f hf ho fn e2⟩⟩,.cons hm ⟨hr,ops,i,rest,k,h⟩ jA,λe=>⟨Rx (nO e).1,λc hc=>?_⟩⟩)
   .simp only[jL,lZ,or_false] at hj
    subst hj;exact e5
   .simp only[jL] at hc
    rcases hc with rfl|hc
    .exact(nO e).1
    .exact(nO e).2 c hc
  |true=>
   obtain⟨fn,fn',c,c',e1,e2,e3,e4,e5,e6⟩:=F.opq f hf ho;have zg5:P.lw m.fn=false:=by
    cases hq:P.lw m.fn with
    |false=>rfl
    |true=>have:=(F.low f (Rx hq)).1;rw[ho] at this;cases this
   have hl:l=false:=by
    cases l with
    |false=>rfl
    |true=>have:=(nO rfl).1;rw[zg5] at this;cases this
   simp only[qI,e1,e2,e5,e6];refine aG.ret (.inr ⟨hl,⟨f,xs,bY,m,m',ms,ms',ho,hf,ha,?_,?_,hm,⟨hr,ops,i,rest,k,h⟩,jA,zg5⟩⟩)
   .have:P.g.funcs[f]? =some fn:=e1
    simp only[qU,this,e5]
   .simp only[qU,e2,e6]
def L2 {S:aO->Prop}(h:bK S K R xs bY)(a:Pc):aG P S K (VA S K) (yY xs a) R (yY bY a):=by
 cases a with
 |tmp t=>exact aG.ret (h.getD t xW)
 |cell s ty=>
  refine aG.bnd (zwX (h.getD s xW)) ?_;intro R1 e1 a a' ha;exact zxx ty ha
def zkz {S:aO->Prop}(h:bK S K R xs bY):∀l:List Pc,aG P S K (VA S K) (oH l xs) R (oH l bY)
 |[]=>aG.ret (.tuple' bK.empty)
 |[a]=>L2 h a
 |[a,b]=>by
  refine aG.bnd (L2 h a) ?_;intro R1 e1 x x' hx;refine aG.bnd (L2 (h.mono e1.le) b) ?_;intro R2 e2 y y' hy;exact aG.ret (.tuple' ((bK.one (hx.mono e2.le)).push hy))
 |[a,b,c]=>by
  refine aG.bnd (L2 h a) ?_;intro R1 e1 x x' hx;refine aG.bnd (L2 (h.mono e1.le) b) ?_;intro R2 e2 y y' hy;refine aG.bnd (L2 ((h.mono e1.le).mono e2.le) c) ?_;intro R3 e3 z z' hz;exact aG.ret (.tuple' (((bK.one ((hx.mono e2.le).mono e3.le)).push (hy.mono e3.le)).push hz))
 |[a,b,c,d]=>by
  refine aG.bnd (L2 h a) ?_;intro R1 e1 x x' hx;refine aG.bnd (L2 (h.mono e1.le) b) ?_;intro R2 e2 y y' hy;refine aG.bnd (L2 ((h.mono e1.le).mono e2.le) c) ?_;intro R3 e3 z z' hz;refine aG.bnd (L2 (((h.mono e1.le).mono e2.le).mono e3.le) d) ?_;intro R4 e4 u u' hu;exact aG.ret (.tuple' ((((bK.one (((hx.mono e2.le).mono e3.le).mono e4.le)).push ((hy.mono e3.le).mono e4.le)).push (hz.mono e4.le)).push hu))
 |_::_::_::_::_::_=>.inl bO
def zik {S:aO->Prop}(ops:Array aZ)(h:bK S K R xs bY):dR ops xs=dR ops bY:=by
 funext j;unfold dR
 cases hd:(ops[j]?).bind (·.dst) with
 |none=>rfl
 |some d=>
  simp only[vC]
  cases hx:xs[d]? with
  |none=>rw[h.none hx]
  |some v=>
   obtain⟨v',e,hv⟩:=h.get hx;rw[e]
   cases hv with
   |junk hh=>cases v'<;>first|exact hh.elim|rfl
   |_=>rfl
def ziP {id:Nat}:∀{k k':List eE},exitTo id k=some k'->∀i∈k',i∈k
 |[],_,h,_,_=>by simp[exitTo] at h
 |x::k,k',h,i,hi=>by
  have tail:exitTo id k=some k'->i∈x::k:=λe=>by simp[ziP e i hi]
  cases x<;>simp only[exitTo] at h<;>first|exact tail h|skip
  split at h
  .cases h;simp[hi]
  .exact tail h
def zd9 (F:Fit2 P fs)(hR:tH P K R){l:Bool}(hm:oT P fs K R m m')(jA:uG P fs K R ms ms')(nO:LowS P l m ms)(Ym:m.ret=true->ms≠[]):
 aG P (SF fs) K (StA P fs K l) (eZ P.g m ms) R (eZ P.c m' ms'):=by
 unfold eZ;rw[<-hm.ret];by_cases hr:m.ret=true
 .simp only[hr,if_true]
  cases jA with
  |nil=>exact absurd rfl (Ym hr)
  |cons hc hw Rm=>
   rename_i c c' rest L8;obtain⟨_,ops,i,r,k,hk⟩:=hw;obtain⟨fn,fn',e1,e2,e3,e4⟩:=hm.infs;unfold zX;have cP:c'.todo=.inRegion ops (i::r)::k:=hc.todo.symm.trans hk;rw[<-hm.fn];simp only[hk,cP,e1,e2];rw[<-e3];refine aG.bnd (zkz hm.tmps fn.results.toList) ?_;intro R1 x1 v v' hv;exact aG.ret (.inl ⟨(hc.mono x1.le).fin hk hv,Rm.mono x1.le,λe=>⟨(nO e).2 c aQ,λx hx=>(nO e).2 x (by simp[hx])⟩⟩)
 .have Th:m.ret=false:=by simpa using hr
  simp only[Th,jF,if_false];have vT:m'.ret=false:=hm.ret.symm.trans Th;unfold rP;rw[<-hm.todo];have yO:∀{x y:Fm},oT P fs K R x y->x.fn=m.fn->aG P (SF fs) K (StA P fs K l) (kU (x,ms)) R (kU (y,ms')):=λh e=>aG.ret (.inl ⟨h,jA,λz=>by rw[e];exact nO z⟩);have keep:∀(l:List eE),(∀i∈l,Ex P.c (uC P fs m.fn) i=true)->oT P fs K R {m with todo:=l} {m' with todo:=l}:=λl hl=>⟨hm.fn,rfl,hm.ret,hm.tmps,hl,hm.infs⟩;have H9:=hm.fit;have zd6:=hm.fn
  cases p8:m.todo with
  |nil=>exact yO ⟨hm.fn,rfl,rfl,hm.tmps,λi hi=>(by simp at hi),hm.infs⟩ rfl
  |cons x k=>
   rw[p8] at H9;have hk:∀i∈k,Ex P.c (uC P fs m.fn) i=true:=λi hi=>H9 i (by simp[hi]);have hx:Ex P.c (uC P fs m.fn) x=true:=H9 x aQ;have two:∀(y z:eE),Ex P.c (uC P fs m.fn) y=true->Ex P.c (uC P fs m.fn) z=true->∀i∈y::z::k,Ex P.c (uC P fs m.fn) i=true:=λy z hy hz i hi=>by
    simp only[jL] at hi;rcases hi with rfl|rfl|hi
    .exact hy
    .exact hz
    .exact hk i hi
   have one:∀(y:eE),Ex P.c (uC P fs m.fn) y=true->∀i∈y::k,Ex P.c (uC P fs m.fn) i=true:=λy hy i hi=>by
    simp only[jL] at hi;rcases hi with rfl|hi
    .exact hy
    .exact hk i hi
   cases x with
   |code c=>
    cases c with
    |skip=>exact yO (keep k hk) rfl
    |label l=>exact yO (keep k hk) rfl
    |ret=>exact yO ⟨hm.fn,rfl,rfl,hm.tmps,H9,hm.infs⟩ rfl
    |seq a b=>
     simp only[Ex,oG,fV] at hx;exact yO (keep _ (two _ _ hx.1 hx.2)) rfl
    |cond c a b=>
     simp only[Ex,oG,fV] at hx;have hv:=hm.eval c (zla P fs m.fn▸hx.1.1);simp only;generalize m.eval c=v at hv⊢;generalize m'.eval c=v' at hv⊢
     cases hv with
     |bool t=>
      refine yO (keep _ (one _ ?_)) rfl;cases t
      .exact hx.2
      .exact hx.1.2
     |_=>exact .inl bO
    |block id body=>exact yO (keep _ (two _ _ hx rfl)) rfl
    |loop body=>exact yO (keep _ (two _ _ hx hx)) rfl
    |scope body=>exact yO (keep _ (two _ _ hx hx)) rfl
    |exit id=>
     simp only
     cases he:exitTo id k with
     |none=>exact .inl bO
     |some k'=>exact yO (keep _ λi hi=>hk i (ziP he i hi)) rfl
    |region id ops draw=>
     simp only
     cases draw with
     |true=>
      simp only[if_true];rw[<-zd6];refine aG.bnd (zfj _) ?_;rintro R1 h1 t _ rfl;rw[F.follows];exact aG.ret (.inl ⟨(by have y:=(keep (.inRegion ops (Un (P.c.follows .mixedOrders) ops t)::k) (one (.inRegion ops (Un (P.c.follows .mixedOrders) ops t)) hx)).mono h1.le;rw[<-zd6] at y;exact y),jA.mono h1.le,nO⟩)
     |false=>
      simp only[jF,if_false];exact yO (keep _ (one (.inRegion ops (gN ops.size)) hx)) rfl
    |_=>cases hx
   |inBlock id=>exact yO (keep k hk) rfl
   |inScope c=>exact yO (keep k hk) rfl
   |inLoop c=>exact yO (keep _ (two _ _ hx hx)) rfl
   |inRegion ops l=>
    cases l with
    |nil=>exact yO (keep k hk) rfl
    |cons i rest=>
     simp only;rw[<-zik ops hm.tmps];by_cases hw:((ops[i]?).map (dD · (dR ops m.tmps))).getD false=true
     .rw[if_pos hw,if_pos hw]
      cases ho:ops[i]? with
      |none=>exact .inl bO
      |some o=>
       simp only;have bV:rU P.c (uC P fs m.fn) o.op=true:=by
        have lP:=zjP.1 hx i (dO.1 ho).1
        rwa [(dO.1 ho).2] at lP
       refine aG.bnd (zh5 F.toFit hR hm.eval (λg=>rfl) (λg=>rfl) (λg=>rfl) (λg=>rfl) (λv=>rfl) (λv=>rfl) (zla P fs m.fn) (zgM F.toFit m.fn) (zxH F.toFit m.fn) bV) ?_;intro R1 h1 n n' hn;exact sim_opS F (hm.mono h1.le) (jA.mono h1.le) nO Th p8 hn
     .rw[if_neg hw,if_neg hw]
      exact yO (hm.fin p8 xW) rfl
   |_=>cases hx
end
end Go.Tt
namespace Go.Tt
open Go.Conc (G solo)
def nilD:Deferred:={target:=.nil,args:=#[]}
def pz:Frame:={(default:dH) with mode:=.panicking [],defers:=[nilD],kind:=.normal}
section
variable {P:dL}{fs:aO->Bool}{K R:Pr}{G':Gp}{St:Nat->Prop}
variable {w:aE}
def zAg (F:Fit2 P fs)(hG:G'=P.gp){W:aE}(hw:cT (SF fs) K R G' St w W)(ht:Tp w W){m m':Fm}{ms ms':List Fm}(hm:oT P fs K R m m')(jA:uG P fs K R ms ms')(Ym:m.ret=true->ms≠[])
 (dE:∀x w',(eZ P.g m ms).run P.g w≠ .ok x w') (base:List dH):
 (∃o w1 es,stepG P.g true (G m.fr (ms.map Fm.fr++base)) w=.ended o w1 es)\/
 ∃x w1 es,stepG P.g true (G m.fr (ms.map Fm.fr++base)) w=.go (G x (ms.map Fm.fr++base)) w1 es/\(∃c,x.mode=.panicking c)/\x.defers=[]:=by
 have hR:tH P K R:=by subst hG;exact⟨hw.inj,hw.inj',λa b h=>(hw.low a b h).1,hw.tb⟩
 unfold eZ at dE;by_cases hr:m.ret=true
 .simp only[hr,if_true] at dE
  cases jA with
  |nil=>exact absurd rfl (Ym hr)
  |cons hc cD Rm=>
   rename_i c c' rest L8;obtain⟨_,ops,i,r,k,hk⟩:=cD;obtain⟨fn,fn',e1,e2,e3,e4⟩:=hm.infs;have he:results fn m.tmps=oH fn.results.toList m.tmps:=zeI e4
   cases hx:(oH fn.results.toList m.tmps).run P.g w with
   |ok v w1=>exact absurd (Lj (rest:=rest) hk e1 hx).1 (dE _ _)
   |halt y w1=>
    refine .inl ?_;rw[Fm.fr_ret hr];cases y<;>exact⟨_,_,_,by simp only[G,stepG,unwind,e1,he,cU.runT_eq,hx,B7];rfl⟩
 .have Th:m.ret=false:=by simpa using hr
  simp only[Th,jF,if_false] at dE;have mH:m.fr.eval=m.eval:=m.eval_fr;have H9:=hm.fit;have zJe:=hm.tmps;have zeW:=hm.eval;obtain⟨fn,tmps,todo,ret⟩:=m;simp only at Th H9 zJe;subst Th;unfold rP at dE;simp only at dE
  cases todo with
  |nil=>exact absurd rfl (dE _ _)
  |cons x k=>
   have hx:Ex P.c (uC P fs fn) x=true:=H9 x aQ
   cases x with
   |code c=>
    cases c with
    |skip=>exact absurd rfl (dE _ _)
    |label l=>exact absurd rfl (dE _ _)
    |ret=>exact absurd rfl (dE _ _)
    |seq a b=>exact absurd rfl (dE _ _)
    |block id body=>exact absurd rfl (dE _ _)
    |loop body=>exact absurd rfl (dE _ _)
    |scope body=>exact absurd rfl (dE _ _)
    |cond c a b=>
     have hc:=congrFun mH c;simp only at dE
     cases hv:Fm.eval {fn:=fn,tmps:=tmps,todo:=M5 (Code.cond c a b)::k,ret:=false} c with
     |bool t=>rw[hv] at dE;exact absurd rfl (dE _ _)
     |_=>
      left;rw[hv] at hc;simp only[Fm.fr,jF,if_false] at hc⊢;simp only[G,stepG,Mr,hc];exact⟨_,_,_,rfl⟩
    |exit id=>
     simp only at dE
     cases he:exitTo id k with
     |some k'=>rw[he] at dE;exact absurd rfl (dE _ _)
     |none=>
      left;simp only[Fm.fr,jF,if_false];simp[G,stepG,Mr,he]
    |region id ops draw=>
     simp only at dE
     cases draw with
     |true=>exact absurd (by simp[choose,bD,zl8,zjU,bind,xU,pure];exact⟨rfl,rfl⟩) (dE _ _)
     |false=>exact absurd rfl (dE _ _)
    |_=>cases hx
   |inBlock id=>exact absurd rfl (dE _ _)
   |inScope c=>exact absurd rfl (dE _ _)
   |inLoop c=>exact absurd rfl (dE _ _)
   |inRegion ops l=>
    cases l with
    |nil=>exact absurd rfl (dE _ _)
    |cons i rest=>
     simp only at dE
     cases ho:ops[i]? with
     |none=>rw[ho] at dE;exact absurd rfl (dE _ _)
     |some o=>
      rw[ho] at dE;simp only[Ac,zG] at dE;by_cases qE:dD o (dR ops tmps)=true
      .rw[if_pos qE] at dE
       have bV:rU P.c (uC P fs fn) o.op=true:=by
        have lP:=zjP.1 hx i (dO.1 ho).1
        rwa [(dO.1 ho).2] at lP
       have zcy:=zh5 F.toFit hR zeW (λg=>rfl) (λg=>rfl) (λg=>rfl) (λg=>rfl) (λv=>rfl) (λv=>rfl) (zla P fs fn) (zgM F.toFit fn) (zxH F.toFit fn) bV;have zku:∀x w',((aS (Fm.eval {fn:=fn,tmps:=tmps,todo:=qY ops (i::rest)::k,ret:=false}) o).bind (qI P.g {fn:=fn,tmps:=tmps,todo:=qY ops (i::rest)::k,ret:=false} ms ops i rest k)).run P.g w≠ .ok x w':=dE;rcases aG.tame hG _ zcy hw ht with⟨n,w1,hn⟩|⟨h,w1,hn,hth⟩
       .have ze1:Act.eval ⟨tmps,[]⟩=Fm.eval {fn:=fn,tmps:=tmps,todo:=qY ops (i::rest)::k,ret:=false}:=funext λx=>by cases x<;>rfl
        obtain⟨R1,n',W1,ev,e1,e2,e3,e4,e5⟩:=aG.run hG _ zcy hw ht hn;have:=λx w'=>zku x w';simp only[rK,hn,uU] at this
        cases e2 with
        |value hv=>exact absurd rfl (this _ _)
        |skip=>exact absurd rfl (this _ _)
        |enter hT ha=>
         rename_i f xs bY;have hf:P.gs f=true:=zgM F.toFit fn f hT
         cases zaF:P.op f with
         |false=>
          obtain⟨fn',c,q1,q2,q3,q4,q5⟩:=F.fn f hf zaF;simp only[qI,q1,q4] at this;exact absurd rfl (this _ _)
         |true=>
          obtain⟨fn1,fn2,c1,c2,q1,q2,q3,q4,q5,q6⟩:=F.opq f hf zaF;simp only[qI,q1,q5] at this;exact absurd rfl (this _ _)
       .have ze1:Act.eval ⟨tmps,[]⟩=Fm.eval {fn:=fn,tmps:=tmps,todo:=qY ops (i::rest)::k,ret:=false}:=funext λx=>by cases x<;>rfl
        have hop:=Conc.stepG_oper (P:=P.g) (main:=true) (b:=J1 fn) (a:=⟨tmps,[]⟩) (k:=k) (cs:=List.map Fm.fr ms++base) (w:=w) (rest:=rest) ho qE;have fP:(Fm.fr {fn:=fn,tmps:=tmps,todo:=qY ops (i::rest)::k,ret:=false})=(J1 fn).at ⟨tmps,[]⟩ (.inRegion ops (i::rest)::k):=rfl;rw[fP,hop,ze1]
        cases h with
        |panic v=>
         right;simp[stepG.apply,hn,B7,G,zuW,dH.at]
        |stuck s=>left;simp[stepG.apply,hn,B7]
        |unsupported u=>
         left;cases u<;>first|exact hth.elim|simp[stepG.apply,hn,B7]
        |_=>exact hth.elim
      .rw[if_neg qE] at dE
       exact absurd rfl (dE _ _)
   |_=>cases hx
variable {p:bS}{w':aE}{o:Outcome}
def zcI {a:bC}{es:Array oO}(hs:a.status=.running)(h:stepG p true a w=.ended o w' es):step p (solo a w)=.ended o w':=by
 rw[step,Conc.stepT_solo hs,Conc.solo_eq_crowd,Conc.runT_many_ended (i:=0) rfl h]
variable {m:zbH}
def zcQ {m':zbH}(h:step p m=.next m')(n:Nat):runN p (n+1) m=runN p n m':=by simp[runN,h]
def ztL (h:step p m=.ended o w)(n:Nat):runN p (n+1) m=.ended o w:=by simp[runN,h]
def zhe {g g':bC}(h:solo g w=solo g' w'):g=g'/\w=w':=by
 injection h with h1 h2;injection h2 with h2;injection h2 with h2;exact⟨h2,h1⟩
def zhb {fr zoR:dH}{cs Xd:List dH}(h:G fr cs=G zoR Xd):fr=zoR/\cs=Xd:=by
 injection h with h1 h2;exact⟨h1,h2⟩
def zhG (x:dH):Prop:=∃c,x.mode=.panicking c
def zef (x:dH)(vs:List PanicEntry):zhG (x.raise vs)/\(x.raise vs).defers=x.defers:=by
 unfold zuW;split
 .exact⟨⟨_,rfl⟩,rfl⟩
 .exact⟨⟨_,rfl⟩,rfl⟩
variable {ds:List Deferred}
def zxQ {x:dH}(hd:x.defers=nilD::ds)(hm:zhG x)(cs:List dH)(w:aE):∃o w1 es,stepG p true (G x cs) w=.ended o w1 es:=by
 obtain⟨c,hc⟩:=hm;refine⟨.unsupported (.noEntry "machine/Return: a deferred call of a nil function value, made while the frame is unwinding") ({x with defers:=ds}.pos p),w,#[],?_⟩;simp[G,stepG,hc,unwind,hd,callDeferred,nilD]
def zzL (frT:dH)(wT:aE)(hT:frT.mode=.returning):∀(n:Nat) (x:dH) (ys:List dH) (w:aE),zhG x->x.defers=[]->(∀y∈ys,y.defers=[])->runN p n (solo (G x (ys++[pz])) w)≠ .next (solo (G frT [pz]) wT):=by
 intro n
 induction n with
 |zero=>
  intro x ys w ⟨c,hc⟩ _ _ e;simp only[runN,Vh] at e;have:=(zhb (zhe e).1).1;rw[this,hT] at hc;cases hc
 |succ n ih=>
  intro x ys w ⟨c,hc⟩ hd ztS e;have cG:(G x (ys++[pz])).status=.running:=rfl;by_cases zqQ:x.catches p=true
  .have aY:∃o w1 es,stepG p true (G x (ys++[pz])) w=.ended o w1 es:=by simp[G,stepG,hc,unwind,hd,zqQ]
   obtain⟨o,w1,es,aY⟩:=aY;have hs:=zcI cG aY;simp[runN,hs] at e
  .have zpw:x.catches p=false:=by simpa using zqQ
   cases ys with
   |nil=>
    have aY:stepG p true (G x [pz]) w=.go (G (pz.raise c) []) w:=by simp[G,stepG,hc,unwind,hd,zpw]
    have hs:=zaK cG aY;replace e:=(zcQ hs n).symm.trans e
    cases n with
    |zero=>
     simp only[runN,Vh] at e;have:=(zhb (zhe e).1).2;cases this
    |succ n=>
     obtain⟨o,w1,es,zlr⟩:=zxQ (p:=p) (x:=pz.raise c) (ds:=[]) ((zef pz c).2) (zef pz c).1 [] w;have Ax:=zcI rfl zlr;have:=(ztL Ax n).symm.trans e;cases this
   |cons y ys=>
    have aY:stepG p true (G x (y::(ys++[pz]))) w=.go (G (y.raise c) (ys++[pz])) w:=by simp[G,stepG,hc,unwind,hd,zpw]
    have hs:=zaK cG aY;replace e:=(zcQ hs n).symm.trans e;exact ih (y.raise c) ys w (zef y c).1 ((zef y c).2.trans (ztS y aQ)) (λz hz=>ztS z (by simp[hz])) e
def zES (frT:dH)(wT:aE){m:Fm}(hr:m.ret=true)(n:Nat):runN p (n+1) (solo (G m.fr [pz]) w)≠ .next (solo (G frT [pz]) wT):=by
 intro e;have cG:(G m.fr [pz]).status=.running:=rfl;have key:(∃o w1 es,stepG p true (G m.fr [pz]) w=.ended o w1 es)\/∃v w1 es,stepG p true (G m.fr [pz]) w=.go (G (pz.finish v) []) w1 es:=by
  rw[Fm.fr_ret hr]
  cases hf:p.funcs[m.fn]? with
  |none=>right;simp[G,stepG,unwind,doReturn,hf];exact⟨_,rfl⟩
  |some fn=>
   cases hx:(results fn m.tmps).run p w with
   |ok v w1=>right;simp[G,stepG,unwind,doReturn,hf,hx,B7];exact⟨_,rfl⟩
   |halt h w1=>left;cases h<;>simp[G,stepG,unwind,hf,hx,B7]
 rcases key with⟨o,w1,es,aY⟩|⟨v,w1,es,aY⟩
 .have hs:=zcI cG aY
  simp[runN,hs] at e
 .have hs:=zaK cG aY
  simp only[runN,hs] at e
  cases n with
  |zero=>
   simp only[runN,Vh] at e;have:=(zhb (zhe e).1).2;cases this
  |succ n=>
   have zBp:pz.finish v=pz:=rfl;rw[zBp] at e;obtain⟨o,w2,es,zlr⟩:=zxQ (p:=p) (x:=pz) (ds:=[]) rfl ⟨_,rfl⟩ [] w1;have Ax:=zcI rfl zlr;simp[runN,Ax] at e
end
inductive Ix (p:bS):Nat->Fm->List Fm->aE->Fm->aE->Prop
 |stop {m:Fm} {w:aE}:m.ret=true->Ix p 0 m [] w m w
 |step {n:Nat} {m m1 mT:Fm} {ms ms1:List Fm} {w w1 wT:aE}:(m.ret=true->ms≠[])->(eZ p m ms).run p w=.ok (m1,ms1) w1->Ix p n m1 ms1 w1 mT wT->Ix p (n+1) m ms w mT wT
structure vM (P:dL)(fs:aO->Bool):Prop extends Fit2 P fs where
 none:∀f,P.op f=false
section
variable (P:dL)(fs:aO->Bool)(K:Pr)(G':Gp)(St:Nat->Prop)
def vF (m:Fm)(ms:List Fm)(w:aE):Prop:=∃R W m' ms',cT (SF fs) K R G' St w W/\oT P fs K R m m'/\uG P fs K R ms ms'
variable {P fs K G' St}
variable {w W:aE}
def cT.tp {S:aO->Prop}{R:Pr}(h:cT S K R G' St w W)(T:jV)(e:Nat):cT S K R G' St (tp w T e) (tp W T e):=
 ⟨h.inj,h.inj',h.lt,h.low,h.gle,h.cont,h.rest,h.st,h.np,h.tb⟩
variable {T:jV}
def cT.untp {S:aO->Prop}{R:Pr}{e:Nat}(h:cT S K R G' St (Tt.tp w T e) W):cT S K R G' St w W:=
 ⟨h.inj,h.inj',h.lt,h.low,h.gle,h.cont,h.rest,h.st,h.np,h.tb⟩
def Tp.tp (w W:aE)(T:jV)(e:Nat):Tp (tp w T e) (tp W T e):=λ_ _=>rfl
def cT.relOk {S:aO->Prop}{R:Pr}(hG:G'=P.gp)(h:cT S K R G' St w W):tH P K R:=by subst hG;exact⟨h.inj,h.inj',λa b x=>(h.low a b x).1,h.tb⟩
variable {m:Fm}{ms:List Fm}
def vF.next (F:vM P fs)(hG:G'=P.gp){m1:Fm}{ms1:List Fm}{w1:aE}{e:Nat}(h:vF P fs K G' St m ms w)(hs:m.ret=true->ms≠[])
 (hr:(eZ P.g m ms).run P.g (tp w T e)=.ok (m1,ms1) w1):vF P fs K G' St m1 ms1 w1:=by
 obtain⟨R,W,m',ms',hw,hm,jA⟩:=h;obtain⟨R1,x',W1,ev,e1,e2,e3,e4,e5⟩:=aG.run hG _ (zd9 (l:=false) F.toFit2 (hw.relOk hG) hm jA (λe=>by cases e) hs) (hw.tp T e) (Tp.tp w W T e) hr;rcases e2 with e2|⟨_,⟨f,_,_,_,_,_,_,ho,_⟩⟩
 .exact⟨R1,W1,x'.1,x'.2,e3.rel,e2.1,e2.2.1⟩
 .rw[F.none] at ho;cases ho
def vF.locl (F:vM P fs)(hG:G'=P.gp)(h:vF P fs K G' St m ms w)(hs:m.ret=true->ms≠[])(T:jV)(e:Nat):N9 P.g (eZ P.g m ms) (tp w T e):=by
 obtain⟨R,W,m',ms',hw,hm,jA⟩:=h;exact aG.locl hG _ (zd9 (l:=false) F.toFit2 (hw.relOk hG) hm jA (λe=>by cases e) hs) (hw.tp T e) (Tp.tp w W T e)
def tp_self (h:w.tape=T):tp w T w.drawn=w:=by subst h;rfl
def Ix.alike (F:vM P fs)(hG:G'=P.gp):∀{n:Nat} {m mT:Fm} {ms:List Fm} {w wT:aE} {T1 T2:jV} {e1 e2:Nat},vF P fs K G' St m ms w->Ix P.g n m ms (tp w T1 e1) mT wT->(∀n q,T2 (e2+n) q=T1 (e1+n) q)->∃e3,Ix P.g n m ms (tp w T2 e2) mT (tp wT T2 e3):=by
 intro n
 induction n with
 |zero=>
  intro m mT ms w wT T1 T2 e1 e2 hR h ht
  cases h with
  |stop hr=>exact⟨e2,.stop hr⟩
 |succ n ih=>
  intro m mT ms w wT T1 T2 e1 e2 hR h ht
  cases h with
  |step hs hr hn=>
   rename_i m1 ms1 w1;obtain⟨h1,h2,h3⟩:=hR.locl F hG hs T1 e1 _ _ hr;have h4:=h3 T2 e2 (λk _ q=>ht k q);have zfM:w1=tp w1 T1 w1.drawn:=(tp_self h1).symm;rw[zfM] at hn
   obtain⟨e3,h5⟩:=ih (T2:=T2) (e2:=e2+(w1.drawn-e1)) (hR.next F hG hs hr) hn (λk q=>by
    have Pq:e1<=w1.drawn:=h2;rw[show e2+(w1.drawn-e1)+k=e2+((w1.drawn-e1)+k) by omega,ht,show e1+((w1.drawn-e1)+k)=w1.drawn+k by omega])
   exact⟨e3,.step hs h4 h5⟩
def Sb (F:vM P fs)(hG:G'=P.gp){frT:dH}{wT:aE}(hT:frT.mode=.returning):∀(n:Nat) {m:Fm} {ms:List Fm} {w:aE},vF P fs K G' St m ms w->
 runN P.g n (solo (G m.fr (ms.map Fm.fr++[pz])) w)=.next (solo (G frT [pz]) wT)->∃k mT,Ix P.g k m ms w mT wT/\mT.fr=frT:=by
 intro n
 induction n with
 |zero=>
  intro m ms w hR h;simp only[runN,Vh] at h;obtain⟨h1,rfl⟩:=zhe h;obtain⟨h2,h3⟩:=zhb h1;have jA:ms=[]:=by
   cases ms with
   |nil=>rfl
   |cons a b=>have:=congrArg Wm h3;simp at this
  subst jA;have hr:m.ret=true:=by
   rw[<-h2] at hT
   cases hm:m.ret with
   |true=>rfl
   |false=>rw[Fm.fr_run hm] at hT;cases hT
  exact⟨0,m,.stop hr,h2⟩
 |succ n ih=>
  intro m ms w hR h;by_cases Ym:m.ret=true/\ms=[]
  .obtain⟨hr,rfl⟩:=Ym
   exact absurd h (zES frT wT hr n)
  .have hs:m.ret=true->ms≠[]:=λa b=>Ym ⟨a,b⟩
   have zfM:tp w w.tape w.drawn=w:=rfl;by_cases bV:∃x w1,(eZ P.g m ms).run P.g w=.ok x w1
   .obtain⟨⟨m1,ms1⟩,w1,hr⟩:=bV
    have vN:step P.g (solo (G m.fr (ms.map Fm.fr++[pz])) w)=.next (solo (G m1.fr (ms1.map Fm.fr++[pz])) w1):=by
     exact zaK rfl (zk0 (main:=true) hr [pz])
    obtain⟨k,mT,h1,h2⟩:=ih (vF.next (T:=w.tape) (e:=w.drawn) F hG hR hs hr) ((zcQ vN n).symm.trans h);exact⟨k+1,mT,.step hs hr h1,h2⟩
   .exfalso
    obtain⟨R,W,m',ms',hw,hm,jA⟩:=hR;rcases zAg F.toFit2 hG (hw.tp w.tape w.drawn) (Tp.tp w W w.tape w.drawn) hm jA hs (λx w' e=>bV ⟨x,w',e⟩) [pz] with⟨o,w1,es,aY⟩|⟨x,w1,es,aY,hp,hd⟩
    .have vN:=zcI rfl aY
     have:=(ztL vN n).symm.trans h;cases this
    .have vN:=zaK rfl aY
     exact zzL frT wT hT n x (ms.map Fm.fr) w1 hp hd (λy hy=>by obtain⟨z,_,rfl⟩:=List.mem_map.1 hy;rfl) ((zcQ vN n).symm.trans h)
inductive LT (p:bS)(Q:Fm->aE->Prop):Fm->List Fm->aE->Prop
 |stop {m:Fm} {w:aE}:m.ret=true->Q m w->LT p Q m [] w
 |step {m:Fm} {ms:List Fm} {w:aE} (nx:jV->(Fm×List Fm)×aE):(m.ret=true->ms≠[])->(∀T,(eZ p m ms).run p (tp w T 0)=.ok (nx T).1 (nx T).2)->(∀T,LT p Q (nx T).1.1 (nx T).1.2 (nx T).2)->LT p Q m ms w
def Hyp (P:dL)(fs:aO->Bool)(K:Pr)(G':Gp)(St:Nat->Prop)(Q:Fm->aE->Prop)(s:Fm×List Fm×aE):Prop:=
 vF P fs K G' St s.1 s.2.1 s.2.2/\∀T,∃n mT wT,Ix P.g n s.1 s.2.1 (tp s.2.2 T 0) mT wT/\Q mT wT
def bar (F:vM P fs)(hG:G'=P.gp){Q:Fm->aE->Prop}(hQ:∀m w T e,Q m w->Q m (tp w T e))(h:Hyp P fs K G' St Q (m,ms,w)):LT P.g Q m ms w:=by
 refine yZ λdE=>?_
 let Bad:Fm×List Fm×aE->Prop:=λs=>Hyp P fs K G' St Q s/\¬LT P.g Q s.1 s.2.1 s.2.2
 have zmb:∀s,Bad s->s.1.ret=true->s.2.1≠[]:=by
  rintro⟨m,ms,w⟩ ⟨⟨hR,hI⟩,hn⟩ hr e;simp only at hr e hn hI;subst e;obtain⟨n,mT,wT,Rr,hq⟩:=hI w.tape
  cases Rr with
  |stop _=>exact hn (.stop hr (show Q m (tp (tp w w.tape 0) w.tape w.drawn) from hQ _ _ w.tape w.drawn hq))
  |step hs _ _=>exact hs hr rfl
 have next:∀s,Bad s->∃(T:jV) (s1:Fm×List Fm×aE),(eZ P.g s.1 s.2.1).run P.g (tp s.2.2 T 0)=.ok (s1.1,s1.2.1) s1.2.2/\Bad s1:=by
  rintro⟨m,ms,w⟩ hb;have hs:=zmb _ hb;obtain⟨⟨hR,hI⟩,hn⟩:=hb;simp only at hs hI hn hR⊢;have bV:∀T,∃x w1,(eZ P.g m ms).run P.g (tp w T 0)=.ok x w1:=λT=>by
   obtain⟨n,mT,wT,Rr,_⟩:=hI T
   cases Rr with
   |stop hr=>exact absurd rfl (hs hr)
   |step _ hr _=>exact⟨_,_,hr⟩
  refine yZ λzAo=>hn ?_
  let x:=λT=>(bV T).choose
  let w1:=λT=>(bV T).choose_spec.choose
  have hx:∀T,(eZ P.g m ms).run P.g (tp w T 0)=.ok (x T) (w1 T):=λT=>(bV T).choose_spec.choose_spec;refine .step (λT=>(x T,w1 T)) hs hx λT=>yZ λaN=>zAo ⟨T,((x T).1,(x T).2,w1 T),hx T,⟨?_,?_⟩,aN⟩
  .exact hR.next F hG hs (hx T)
  .intro T'
   obtain⟨h1,h2,h3⟩:=hR.locl F hG hs T 0 _ _ (hx T)
   let T2:Tape:=λn q=>if n<(w1 T).drawn then T n q else T' (n-(w1 T).drawn) q
   have h4:=h3 T2 0 (λn hn q=>by
    have sU:n<(w1 T).drawn:=by simpa[tp] using hn
    show(if 0+n<(w1 T).drawn then T (0+n) q else _)=_;rw[if_pos aC];rfl)
   obtain⟨n,mT,wT,Rr,hq⟩:=hI T2
   cases Rr with
   |stop hr=>exact absurd rfl (hs hr)
   |step Fu hr sU=>
    rename_i n' m1 ms1 w2;have Kk:(eZ P.g m ms).run P.g (tp w T2 0)=.ok (x T) (tp (w1 T) T2 (0+((w1 T).drawn-(tp w T 0).drawn))):=h4;rw[Kk] at hr;injection hr with e1 e2;have Et:m1=(x T).1:=by rw[e1]
    have Af:ms1=(x T).2:=by rw[e1]
    subst Et Af;rw[<-e2] at sU;have hd:0+((w1 T).drawn-(tp w T 0).drawn)=(w1 T).drawn:=by show 0+((w1 T).drawn-0)=_;omega
    rw[hd] at sU
    obtain⟨e3,h5⟩:=Ix.alike (T2:=T') (e2:=0) F hG (hR.next F hG hs (hx T)) sU (λk q=>by
     show _=(if(w1 T).drawn+k<(w1 T).drawn then _ else T' ((w1 T).drawn+k-(w1 T).drawn) q);rw[if_neg aC];congr 1;omega)
    exact⟨n',mT,_,h5,hQ _ _ _ _ hq⟩
 have hstart:Bad (m,ms,w):=⟨h,dE⟩
 let nT:=λs (hb:Bad s)=>(next s hb).choose
 let nS:=λs (hb:Bad s)=>(next s hb).choose_spec.choose
 have cG:∀s (hb:Bad s),(eZ P.g s.1 s.2.1).run P.g (tp s.2.2 (nT s hb) 0)=.ok ((nS s hb).1,(nS s hb).2.1) (nS s hb).2.2:=λs hb=>(next s hb).choose_spec.choose_spec.1;have Q6:∀s (hb:Bad s),Bad (nS s hb):=λs hb=>(next s hb).choose_spec.choose_spec.2
 let seq:Nat->{s:Fm×List Fm×aE//Bad s}:=λk=>Nat.rec ⟨(m,ms,w),hstart⟩ (λ_ s=>⟨nS s.1 s.2,Q6 s.1 s.2⟩) k
 let tps:Nat->Tape:=λk=>nT (seq k).1 (seq k).2
 let d:Nat->Nat:=λk=>(seq (k+1)).1.2.2.drawn
 let D:Nat->Nat:=λk=>Nat.rec 0 (λk x=>x+d k) k
 have hD:∀k,D (k+1)=D k+d k:=λk=>rfl;have zx1:∀i j,i<=j->D i<=D j:=λi j rD=>by
  induction rD with
  |refl=>exact aX _
  |step _ ih=>exact eG ih (by rw[hD];omega)
 classical
 let TS:Tape:=λN q=>if hh:∃k,D k<=N/\N<D (k+1) then tps hh.choose (N-D hh.choose) q else 0
 have zJL:∀k n q,n<d k->TS (D k+n) q=tps k n q:=by
  intro k n q hn;have hh:∃j,D j<=D k+n/\D k+n<D (j+1):=⟨k,aC,by rw[hD];omega⟩;have hc:=hh.choose_spec;have hk:hh.choose=k:=by
   rcases Nat.lt_trichotomy hh.choose k with x|x|x
   .have:=zx1 (hh.choose+1) k x;omega
   .exact x
   .have:=zx1 (k+1) hh.choose x;rw[hD] at this;omega
  show(if hh:∃j,D j<=D k+n/\D k+n<D (j+1) then _ else _)=_;rw[dif_pos hh,hk];congr 1;omega
 have vN:∀k,(eZ P.g (seq k).1.1 (seq k).1.2.1).run P.g (tp (seq k).1.2.2 TS (D k))=.ok ((seq (k+1)).1.1,(seq (k+1)).1.2.1) (tp (seq (k+1)).1.2.2 TS (D (k+1))):=by
  intro k;have hb:=(seq k).2;have hs:=zmb _ hb;have hr:=cG (seq k).1 (seq k).2;obtain⟨h1,h2,h3⟩:=hb.1.1.locl F hG hs (tps k) 0 _ _ hr;have h4:=h3 TS (D k) (λn hn q=>by
   have sU:n<d k:=by have:n<(nS (seq k).1 (seq k).2).2.2.drawn-0:=hn;simpa using this
   rw[zJL k n q sU];show _=tps k (0+n) q;rw[Nat.zero_add])
  have e1:D k+((nS (seq k).1 (seq k).2).2.2.drawn-(tp (seq k).1.2.2 (tps k) 0).drawn)=D (k+1):=by rw[hD];show D k+((seq (k+1)).1.2.2.drawn-0)=_;rfl
  rw[e1] at h4;exact h4
 obtain⟨n,mT,wT,Rr,_⟩:=h.2 TS;have key:∀(n k:Nat) (mT:Fm) (wT:aE),Ix P.g n (seq k).1.1 (seq k).1.2.1 (tp (seq k).1.2.2 TS (D k)) mT wT->False:=by
  intro n
  induction n with
  |zero=>
   intro k mT wT hi;have hs:=zmb _ (seq k).2;generalize jA:(seq k).1.2.1=ms0 at hi hs
   cases hi with
   |stop hr=>exact hs hr rfl
  |succ n ih=>
   intro k mT wT hi;have aY:=vN k;generalize jA:(seq k).1.2.1=ms0 at hi aY;generalize Oe:(seq k).1.1=m0 at hi aY;generalize jR:tp (seq k).1.2.2 TS (D k)=w0 at hi aY
   cases hi with
   |step Fu hr hn=>
    rename_i m1 ms1 w1;rw[aY] at hr;injection hr with e1 e2;injection e1 with e1 e3;subst e1 e2 e3;exact ih (k+1) mT wT hn
 exact key n 0 mT wT Rr
end
end Go.Tt
namespace Go.Tt
inductive LTs (p:bS)(N:Fm->Prop)(Stop:Fm->List Fm->aE->Prop):Fm->List Fm->aE->Prop
 |stop {m:Fm} {ms:List Fm} {w:aE}:Stop m ms w->LTs p N Stop m ms w
 |step {m:Fm} {ms:List Fm} {w:aE} (nx:jV->(Fm×List Fm)×aE):(m.ret=true->ms≠[])->(∀T,(eZ p m ms).run p (tp w T 0)=.ok (nx T).1 (nx T).2)->(∀T,N (nx T).1.1)->(∀T,LTs p N Stop (nx T).1.1 (nx T).1.2 (nx T).2)->LTs p N Stop m ms w
def Fm.app (m:Fm)(k:List eE):Fm:={m with todo:=m.todo++k}
def Fm.app_nil (m:Fm):m.app []=m:=by unfold Fm.app;simp
def xM (S:List Nat):Code->Bool
 | .skip| .ret| .exit _| .label _=>true
 | .region _ ops _=>ops.all λo=>match o.dst with|some s=>!S.contains s|none=>true
 | .seq a b=>xM S a&&xM S b
 | .cond _ a b=>xM S a&&xM S b
 | .block _ c| .loop c| .scope c=>xM S c
 |_=>false
def Bb (S:List Nat):eE->Bool
 | .code c| .inLoop c| .inScope c=>xM S c
 | .inBlock _=>true
 | .inRegion ops _=>ops.all λo=>match o.dst with|some s=>!S.contains s|none=>true
 |_=>false
def Qz:Fm->List Fm->Fm
 |m,[]=>m
 |_,c::cs=>Qz c cs
structure Kr (S:List Nat)(m m':Fm):Prop where
 no:∀i∈m'.todo,Bb S i=true
 at_:∀s∈S,m'.tmps.getD s aA=m.tmps.getD s aA
variable {S:List Nat}{k:List eE}
def zdM {m:Fm}{ops:Array aZ}{i:Nat}{rest:List Nat}(h:m.todo=.inRegion ops (i::rest)::k)(hn:∀i∈m.todo,Bb S i=true)(v:aF):Kr S m (m.fin ops i rest k v):=by
 have hx:=hn (.inRegion ops (i::rest)) (by rw[h];exact List.mem_cons_self ..);refine⟨λj hj=>?_,λs hs=>?_⟩
 .simp only[Fm.fin,jL] at hj
  rcases hj with rfl|hj
  .exact hx
  .exact hn j (by rw[h];exact Hd _ hj)
 .unfold Fm.fin
  simp only
  cases hd:(ops[i]?).bind (·.dst) with
  |none=>rfl
  |some q=>
   obtain⟨o,ho,hq⟩:=Option.bind_eq_some_iff.1 hd;simp only[Bb,Array.all_eq_true_iff_forall_mem] at hx;have h1:=hx o (Array.mem_of_getElem? ho);rw[hq] at h1;simp only[Bool.not_eq_true',List.contains_eq_mem,decide_eq_false_iff_not] at h1;have aT:q≠s:=λe=>h1 (e▸hs);simp only[Array.getD_eq_getD_getElem?,jQ aT]
def zzN {id:Nat}{k':List eE}(h:exitTo id k=some k')(hn:∀i∈k,Bb S i=true):∀i∈k',Bb S i=true:=λi hi=>hn i (ziP h i hi)
section
variable {p:bS}
def Fm.fin_app (m:Fm)(ops:Array aZ)(i:Nat)(rest:List Nat)(k0 k:List eE)(v:aF):(m.app k).fin ops i rest (k0++k) v=(m.fin ops i rest k0 v).app k:=by
 unfold Fm.fin Fm.app;simp
variable {m x:Fm}{ms ys ms':List Fm}{w w1:aE}
def zcA (k:List eE)(aT:m.todo≠[])(h:(rP p m ms).run p w=.ok (x,ys) w1):
 (ys=ms/\x.fn=m.fn/\(x.ret=true->m.ret=false->x.todo≠[])/\(∀S,(∀i∈m.todo,Bb S i=true)->Kr S m x)/\(rP p (m.app k) ms').run p w=.ok (x.app k,ms') w1)\/(ys=m::ms/\(rP p (m.app k) ms').run p w=.ok (x,m.app k::ms') w1):=by
 obtain⟨fn,tmps,todo,ret⟩:=m;simp only at aT;unfold rP at h⊢;simp only[Fm.app] at h⊢
 cases todo with
 |nil=>exact absurd rfl aT
 |cons it k0=>
  simp only[S4] at h⊢
  cases it with
  |code c=>
   cases c with
   |cond c a b=>
    simp only at h⊢;have he:Fm.eval {fn:=fn,tmps:=tmps,todo:=M5 (Code.cond c a b)::(k0++k),ret:=ret} c=Fm.eval {fn:=fn,tmps:=tmps,todo:=M5 (Code.cond c a b)::k0,ret:=ret} c:=by cases c<;>rfl
    rw[he]
    cases hv:Fm.eval {fn:=fn,tmps:=tmps,todo:=M5 (Code.cond c a b)::k0,ret:=ret} c with
    |bool t=>
     rw[hv] at h;simp only[kU,bD,rC,pJ] at h;obtain⟨⟨rfl,rfl⟩,rfl⟩:=h;refine .inl ⟨rfl,rfl,λa b=>K3 (b.symm.trans a),λS hn=>⟨?_,λ_ _=>rfl⟩,rfl⟩;simp only[jL,forall_eq_or_imp,Bb,xM,fV] at hn⊢;cases t<;>grind
    |_=>rw[hv] at h;simp[stuck,bD] at h
   |exit id=>
    simp only at h⊢
    cases he:exitTo id k0 with
    |some k'=>
     rw[he] at h;rw[zhK k he];simp only[kU,bD,rC,pJ] at h;obtain⟨⟨rfl,rfl⟩,rfl⟩:=h;exact .inl ⟨rfl,rfl,λa b=>K3 (b.symm.trans a),λS hn=>⟨zzN he λi hi=>hn i (Hd _ hi),λ_ _=>rfl⟩,rfl⟩
    |none=>rw[he] at h;simp[stuck,bD] at h
   |region id ops draw=>
    cases draw with
    |true=>
     simp only[if_true] at h⊢;have h2:=(rK p (choose (.order fn id)) _ w).symm.trans h;have h3:=λ(f:Nat->cU (Fm×List Fm))=>rK p (choose (.order fn id)) f w
     cases hc:(choose (.order fn id)).run p w with
     |ok t w2=>
      rw[hc] at h2 h3;simp only[uU] at h2 h3;simp only[kU,bD,rC,pJ] at h2;obtain⟨⟨rfl,rfl⟩,rfl⟩:=h2;exact .inl ⟨rfl,rfl,λa b=>K3 (b.symm.trans a),λS hn=>⟨by simp only[jL,forall_eq_or_imp,Bb,xM,fV] at hn⊢;grind,λ_ _=>rfl⟩,h3 _⟩
     |halt y w2=>rw[hc] at h2;cases h2
    |false=>
     simp only[jF,if_false,kU,bD,rC,pJ] at h;obtain⟨⟨rfl,rfl⟩,rfl⟩:=h;exact .inl ⟨rfl,rfl,by first|exact λa b=>K3 (b.symm.trans a)|exact λ_ _=>zff _ _,λS hn=>⟨by simp only[jL,forall_eq_or_imp,Bb,xM,fV] at hn⊢;grind,λ_ _=>rfl⟩,rfl⟩
   |_=>
    first
     |(simp[stuck,bD] at h;done)
     |(
      simp only[kU,bD,rC,pJ] at h;obtain⟨⟨rfl,rfl⟩,rfl⟩:=h;exact .inl ⟨rfl,rfl,by first|exact λa b=>K3 (b.symm.trans a)|exact λ_ _=>zff _ _,λS hn=>⟨by simp only[jL,forall_eq_or_imp,Bb,xM,fV] at hn⊢;grind,λ_ _=>rfl⟩,rfl⟩)
  |inRegion ops l=>
   cases l with
   |nil=>
    simp only[kU,bD,rC,pJ] at h;obtain⟨⟨rfl,rfl⟩,rfl⟩:=h;exact .inl ⟨rfl,rfl,by first|exact λa b=>K3 (b.symm.trans a)|exact λ_ _=>zff _ _,λS hn=>⟨by simp only[jL,forall_eq_or_imp,Bb,xM,fV] at hn⊢;grind,λ_ _=>rfl⟩,rfl⟩
   |cons i rest=>
    simp only at h⊢;have zN:∀v,Fm.fin {fn:=fn,tmps:=tmps,todo:=qY ops (i::rest)::(k0++k),ret:=ret} ops i rest (k0++k) v=(Fm.fin {fn:=fn,tmps:=tmps,todo:=qY ops (i::rest)::k0,ret:=ret} ops i rest k0 v).app k:=λv=>Fm.fin_app {fn:=fn,tmps:=tmps,todo:=qY ops (i::rest)::k0,ret:=ret} ops i rest k0 k v;by_cases hw:((ops[i]?).map (dD · (dR ops tmps))).getD false=true
    .rw[if_pos hw] at h
     simp only[hw,if_true]
     cases ho:ops[i]? with
     |none=>rw[ho] at h;simp[stuck,bD] at h
     |some o=>
      rw[ho] at h;simp only at h⊢;have mH:Fm.eval {fn:=fn,tmps:=tmps,todo:=qY ops (i::rest)::(k0++k),ret:=ret}=Fm.eval {fn:=fn,tmps:=tmps,todo:=qY ops (i::rest)::k0,ret:=ret}:=by funext y;cases y<;>rfl
      rw[mH];have h2:=(rK p _ _ w).symm.trans h;have h3:=λ(f:Next->cU (Fm×List Fm))=>rK p (aS (Fm.eval {fn:=fn,tmps:=tmps,todo:=qY ops (i::rest)::k0,ret:=ret}) o) f w
      cases hc:(aS (Fm.eval {fn:=fn,tmps:=tmps,todo:=qY ops (i::rest)::k0,ret:=ret}) o).run p w with
      |halt y w2=>rw[hc] at h2;cases h2
      |ok n w2=>
       rw[hc] at h2 h3;simp only[uU] at h2 h3
       cases n with
       |value v=>
        simp only[qI,kU,bD,rC,pJ] at h2;obtain⟨⟨rfl,rfl⟩,rfl⟩:=h2;refine .inl ⟨rfl,rfl,λa b=>K3 (b.symm.trans a),λS hn=>zdM rfl hn _,(h3 _).trans ?_⟩;simp only[qI,kU,bD,zN];rfl
       |skip=>
        simp only[qI,kU,bD,rC,pJ] at h2;obtain⟨⟨rfl,rfl⟩,rfl⟩:=h2;refine .inl ⟨rfl,rfl,λa b=>K3 (b.symm.trans a),λS hn=>zdM rfl hn _,(h3 _).trans ?_⟩;simp only[qI,kU,bD,zN];rfl
       |enter f args=>
        simp only[qI] at h2
        cases hf:p.funcs[f]? with
        |none=>rw[hf] at h2;simp[stuck,bD] at h2
        |some fn2=>
         cases hb:fn2.body with
         |none=>rw[hf] at h2;simp only[hb] at h2;simp[stuck,bD] at h2
         |some c=>
          rw[hf] at h2;simp only[hb,kU,bD,rC,pJ] at h2;obtain⟨⟨rfl,rfl⟩,rfl⟩:=h2;refine .inr ⟨rfl,(h3 _).trans ?_⟩;simp only[qI,hf,hb,kU,bD]
       |_=>simp[qI,stuck,bD] at h2
    .rw[if_neg hw] at h
     have qE:((ops[i]?).map (dD · (dR ops tmps))).getD false=false:=by simpa using hw
     simp only[qE,jF,if_false];simp only[kU,bD,rC,pJ] at h;obtain⟨⟨rfl,rfl⟩,rfl⟩:=h;refine .inl ⟨rfl,rfl,λa b=>K3 (b.symm.trans a),λS hn=>zdM rfl hn _,?_⟩;simp only[kU,bD,zN];rfl
  |_=>
   first
    |(simp[stuck,bD] at h;done)
    |(
     simp only[kU,bD,rC,pJ] at h;obtain⟨⟨rfl,rfl⟩,rfl⟩:=h;exact .inl ⟨rfl,rfl,by first|exact λa b=>K3 (b.symm.trans a)|exact λ_ _=>zff _ _,λS hn=>⟨by simp only[jL,forall_eq_or_imp,Bb,xM,fV] at hn⊢;grind,λ_ _=>rfl⟩,rfl⟩)
def zwW (h:(rP p m ms).run p w=.ok (x,ys) w1)(hx:x.ret=true)(hr:m.ret=false)(aT:m.todo≠[])(hy:ys=ms):x.todo≠[]:=by
 rcases zcA (ms':=[]) [] aT h with e|e
 .exact e.2.2.1 hx hr
 .have:=hy.symm.trans e.1
  exact absurd (congrArg Wm this) aQ
def zvk (h:(rP p m ms).run p w=.ok (x,ys) w1)(hm:m.todo=[]):x={m with ret:=true}/\ys=ms:=by
 unfold rP at h;rw[hm] at h;simp only[kU,bD,rC,pJ] at h;rw[hm];exact⟨h.1.1.symm,h.1.2.symm⟩
def zdL (h:(rP p m ms).run p w=.ok (x,ys) w1):(ys=ms/\x.fn=m.fn)\/ys=m::ms:=by
 by_cases hm:m.todo=[]
 .obtain⟨rfl,rfl⟩:=zvk h hm
  exact .inl ⟨rfl,rfl⟩
 .exact(zcA (ms':=[]) [] hm h).imp (λe=>⟨e.1,e.2.1⟩) And.left
def zDX {S:List Nat}{m':Fm}{w':aE}(hn:∀i∈m.todo,Bb S i=true)(h:(rP p m ms).run p w=.ok (m',ms') w'):(ms'=ms/\Kr S m m')\/ms'=m::ms:=by
 by_cases hm:m.todo=[]
 .obtain⟨rfl,rfl⟩:=zvk h hm
  exact .inl ⟨rfl,hn,λ_ _=>rfl⟩
 .exact(zcA (ms':=[]) [] hm h).imp (λe=>⟨e.1,e.2.2.2.1 S hn⟩) And.left
def zU (k:List eE)(b:List Fm):Fm->List Fm->Fm×List Fm
 |m,[]=>(m.app k,b)
 |m,c::cs=>(m,(zU k b c cs).1::(zU k b c cs).2)
variable {m1:Fm}{ms1:List Fm}
def zEk {k:List eE}{b:List Fm}(h:(eZ p m ms).run p w=.ok (m1,ms1) w1)(aT:ms=[]->m.ret=false->m.todo≠[]):
 (eZ p (zU k b m ms).1 (zU k b m ms).2).run p w=.ok (zU k b m1 ms1) w1:=by
 cases ms with
 |nil=>
  simp only[zU]
  cases hr:m.ret with
  |true=>simp[eZ,hr,zX,stuck,bD] at h
  |false=>
   have vT:(m.app k).ret=false:=hr;simp only[eZ,hr,jF,if_false] at h;simp only[eZ,vT,jF,if_false];rcases zcA (ms':=b) k (aT rfl hr) h with⟨rfl,_,_,_,e⟩|⟨rfl,e⟩
   .exact e
   .exact e
 |cons c cs=>
  simp only[zU]
  cases hr:m.ret with
  |true=>
   simp only[eZ,hr,if_true] at h⊢;obtain⟨ops,i,r,k0,v,fn,hc,hf,hv,rfl,rfl⟩:=Uh h
   cases ms1 with
   |nil=>
    simp only[zU];have kM:(c.app k).todo=.inRegion ops (i::r)::(k0++k):=by simp[Fm.app,hc]
    have:=(Lj (rest:=b) kM hf hv).1;rw[Fm.fin_app] at this;exact this
   |cons d ds=>exact(Lj hc hf hv).1
  |false=>
   simp only[eZ,hr,jF,if_false] at h⊢;by_cases p8:m.todo=[]
   .simp only[rP,p8,kU,bD,rC,pJ] at h⊢
    obtain⟨⟨rfl,rfl⟩,rfl⟩:=h;exact⟨rfl,rfl⟩
   .rcases zcA (ms':=(zU k b c cs).1::(zU k b c cs).2) [] p8 h with⟨rfl,_,_,_,e⟩|⟨rfl,e⟩
    .simp only[Fm.app_nil] at e
     exact e
    .simp only[Fm.app_nil] at e
     exact e
def Um:Fm->List Fm->aO
 |m,[]=>m.fn
 |_,c::cs=>Um c cs
def zvC (h:(eZ p m ms).run p w=.ok (m1,ms1) w1):Um m1 ms1=Um m ms:=by
 cases hr:m.ret with
 |true=>
  simp only[eZ,hr,if_true] at h
  cases ms with
  |nil=>simp[zX,stuck,bD] at h
  |cons c cs=>
   obtain⟨ops,i,r,k0,v,fn,hc,hf,hv,rfl,rfl⟩:=Uh h;cases ms1<;>rfl
 |false=>
  simp only[eZ,hr,jF,if_false] at h;rcases zdL h with⟨rfl,e⟩|rfl
  .cases ms1 with
   |nil=>exact e
   |cons c cs=>rfl
  .rfl
variable {Q:Fm->aE->Prop}
def LT.ret_inv (hr:m.ret=true)(h:LT p Q m [] w):Q m w:=by
 generalize jA:([]:List Fm)=ms at h
 cases h with
 |stop _ hq=>exact hq
 |step nx hs cG _=>subst jA;exact absurd rfl (hs hr)
variable {Stop:Fm->List Fm->aE->Prop}
def LT.app {P₁:dL}{Tq:aO->Bool}{K₁:Pr}{V9:Gp}{zdE:Nat->Prop}(zfb:vM P₁ Tq)(zdl:V9=P₁.gp){N:Fm->Prop}(k:List eE)(b:List Fm){fn0:aO}
 (hN:∀m R y,oT P₁ Tq K₁ R m y->N m) (zIB:∀m:Fm,m.fn=fn0->N m)
 (hn:∀(x:Fm) (w:aE),x.fn=fn0->x.ret=false->x.todo=[]->(∀T,Q {x with ret:=true} (tp w T 0))->Stop (x.app k) b w)
 (hr:∀(x:Fm) (w:aE),x.fn=fn0->x.ret=true->x.todo≠[]->Q x w->Stop (x.app k) b w)    (h:LT P₁.g Q m ms w):
 Um m ms=fn0->vF P₁ Tq K₁ V9 zdE m ms w->(ms=[]->m.ret=true->m.todo≠[])->LTs P₁.g N Stop (zU k b m ms).1 (zU k b m ms).2 w:=by
 induction h with
 |stop h1 h2=>intro hl _ hz;exact .stop (hr _ _ hl h1 (hz rfl h1) h2)
 |step nx hs cG aN ih=>
  rename_i m ms w;intro hl hrel hz;by_cases Ob:ms=[]/\m.ret=false/\m.todo=[]
  .obtain⟨rfl,h1,h2⟩:=Ob
   refine .stop (hn m w hl h1 h2 λT=>?_);have hT:=cG T;have e:(eZ P₁.g m []).run P₁.g (tp w T 0)=.ok ({m with ret:=true},[]) (tp w T 0):=by simp[eZ,h1,rP,h2,kU,bD]
   rw[e] at hT;injection hT with e1 e2;have hl:=aN T;rw[<-e1,<-e2] at hl;exact hl.ret_inv rfl
  .have aT:ms=[]->m.ret=false->m.todo≠[]:=λa b c=>Ob ⟨a,b,c⟩
   have Rx:∀T,Um (nx T).1.1 (nx T).1.2=fn0:=λT=>(zvC (m1:=(nx T).1.1) (ms1:=(nx T).1.2) (cG T)).trans hl;have tP:∀T,vF P₁ Tq K₁ V9 zdE (nx T).1.1 (nx T).1.2 (nx T).2:=λT=>vF.next (T:=T) (e:=0) zfb zdl hrel hs (cG T);refine .step (λT=>(zU k b (nx T).1.1 (nx T).1.2,(nx T).2)) (λe=>?_) (λT=>zEk (cG T) aT) (λT=>?_) (λT=>ih T (Rx T) (tP T) λe1 e2 e3=>?_)
   .cases ms with
    |nil=>exact absurd rfl (hs e)
    |cons c cs=>simp[zU]
   .
    show N (zU k b (nx T).1.1 (nx T).1.2).1
    cases jA:(nx T).1.2 with
    |nil=>exact zIB _ (by have:=Rx T;rw[jA] at this;exact this)
    |cons c cs=>
     obtain⟨R,W,m',ms',_,hm,_⟩:=tP T;exact hN _ R m' hm
   have hT:=cG T
   cases ms with
   |nil=>
    cases kC:m.ret with
    |true=>exact hs kC rfl
    |false=>
     simp only[eZ,kC,jF,if_false] at hT;exact zwW hT e2 kC (aT rfl kC) e1 e3
   |cons c cs=>
    cases kC:m.ret with
    |true=>
     simp only[eZ,kC,if_true] at hT;obtain⟨ops,i,r,k0,v,fn,hc,hf,hv,h1,h2⟩:=Uh (m1:=(nx T).1.1) (ms1:=(nx T).1.2) hT;rw[h1] at e3;simp[Fm.fin] at e3
    |false=>
     simp only[eZ,kC,jF,if_false] at hT;rcases zdL hT with⟨e,_⟩|e
     .rw[e1] at e;cases e
     .rw[e1] at e;cases e
end
end Go.Tt
