/-
  Part 2 of what stands behind the last text.
-/
import Derived.Conc.Token
import Derived.Conc.CompanyDraw
import Derived.Conc.LoneCalls
import Derived.Test.YtfcjiloojkjaeaaGreatDoorRunFPq1
set_option linter.all false
open Array renaming all_eq_true→zpg,empty_append→zia,ext'→Jb,forIn_toList→zrI,getElem?_eq_getElem→pK,getElem?_eq_some_iff→dR,getElem?_setIfInBounds_ne→sO,getElem?_setIfInBounds_self_of_lt→zox,mem_append→zo4,replicate→nK,size_append→zae,toList_inj→zbb,toList_map→zqA
open Array.mk renaming injEq→zhg
open Bool renaming and_eq_true→iT,false_eq_true→jG,noConfusion→Ko,or_eq_true→C4
open Classical renaming byContradiction→zT
open Go renaming Addr→bC,CommCase→zmi,CommShape→N8,Event→o5,Frame→dL,FuncId→aO,Goroutine→bF,HappensBefore→zek,Item→dI,Machine→zaJ,MemOp→Sa,Oper→aX,Operand→cJ,Program→bT,ResultVar→Qi,Sem→dA,Tape→kS,Trace→mF,TypeId→aN,Value→aF,World→aE,deafBehind→oR,execOp→aS,undef→aA,yielded→cS
open Go.CommCase.mk renaming injEq→zhC
open Go.CommShape.recv renaming injEq→zFB
open Go.Conc renaming Aside→K7,Deaf→iI,Deaf_other→Of,Knows→Nf,act?_old→zbo,aside_setCell→Vt,base→Lu,deafBehind_still→zqY,deaf_old→zg4,finishComm_recv→ziG,finishComm_send→zqT,g?_old→Uv,getElem?_stand→zpk,heard_old→zla,listed→xY,lt_of_act?→zgF,lt_size_of_getElem?→zcs,mem_of_getElem?→zm9,noRace_append→zxi,ofEvents_eq→Z6,offersAt_of_not_blocked→Ww,offersAt_parked_recv→znY,offersAt_parked_send→zlg,ph→zeQ,runT_crowd_go→Yr,served→pG,step_solo_go→zcH,touch_mute→zlm,touch_of→zfH,woken_quitsD→zkt
open Go.Conc.Aside renaming refl→Oi
open Go.ConcR renaming WgAt→fU,deafBehind_cons→zqu,mk→oX
open Go.ConcR.WgAt renaming setSm→zzj,setSt→zB1,unique→zdF
open Go.Conv renaming bytesToString→zbw,intToString→zjR,runesToString→zrj
open Go.Deferred renaming ofValue→Dh
open Go.Event renaming mute→zev
open Go.Frame renaming enter→Eu,raise→ztp
open Go.GStep renaming after→C2
open Go.GStep.comm renaming injEq→zxh
open Go.Goroutine renaming again→zgo,offers→zvo
open Go.Goroutine.mk renaming injEq→zw0
open Go.Instr renaming panic→zuB
open Go.Item renaming code→Ot,inRegion→sH
open Go.MemAct renaming low→Zk,low_mono→zsd,ofEvent→jI,touch?→rY
open Go.MemOp renaming ofEvents→wK
open Go.Mode renaming atomic→zhT,plain→zcK
open Go.Op renaming eqGuardIn→Sv,equal→Ad,equalIn→D3,maxDepth→Sl
open Go.Question renaming cut→zno,forced→zi9
open Go.Region renaming schedule→Md,wanted→cO
open Go.Result renaming andThen→uR
open Go.Result.ok renaming injEq→vC
open Go.Sem renaming bind→x3,run→bK,run_bind'→uG
open Go.Stepped.next renaming injEq→Yy
open Go.Trace renaming act?→ztI,g?→El
open Go.Value.chan renaming injEq→zt0
open Go.World renaming cell?→lU,farLoad→zM,farStore→Du,noCell→rK,setChan→K9
open Go.stepG renaming exec→Ow
open List renaming cons_append→Sd,cons_ne_nil→zgu,length_cons→wL,length_nil→zF,mem_cons→lV,mem_toArray→Kd,not_mem_nil→nM,range→fV,size_toArray→Ev
open List.cons renaming injEq→Vi
open Nat renaming le_refl→bL,le_trans→eG,lt_irrefl→Jk,lt_or_ge→rM,zero_le→mK
open Option renaming bind_some→uF,getD_some→vB,isNone_some→zr3,map_eq_some_iff→Aa,map_some→Bz
open Option.some renaming inj→cH,injEq→jS
open Prod.mk renaming injEq→oM
open Pure renaming pure→lR
open WellFounded renaming transGen→zIu
namespace Go
theorem Eb{P:Prop}(h:P:=by rw[hp];trivial):P:=h
theorem Pd{P:Prop}(h:P:=by rw[hr];exact .inr (.mk f k)):P:=h
theorem K4{P:Prop}(h:P:=by rw[mR];simp):P:=h
theorem Z1{P:Prop}(h:P:=by rw[hp];exact hB _ bX.refl):P:=h
theorem zbe{P:Prop}(h:P:=by rw[dN.step];exact aY):P:=h
theorem zpy{P:Prop}(h:P:=by have:=(h.st.bnd k c (.inl e)).2.2;rw[M5] at this;cases this):P:=h
theorem zqL{P:Prop}(h:P:=by have:=(h.st.bnd k c (.inr e)).2.2;rw[M5] at this;cases this):P:=h
theorem zco{P:Prop}(h:P:=by simpa using hj):P:=h
theorem zre{P:Prop}(h:P:=by rw[(M2 w _).size];exact h.st.grp.live.lt):P:=h
theorem zqF{P:Prop}(h:P:=by rw[upd_same,hr];exact .inr (.mk f k)):P:=h
theorem Kg{P:Prop}(h:P:=by rfl):P:=h
theorem zhh{P:Prop}(h:P:=by rw[hp];exact id):P:=h
theorem zfG{P:Prop}(h:P:=by rw[hp];exact hB):P:=h
theorem zct{P:Prop}(h:P:=by simp[hz]):P:=h
theorem zmz{P:Prop}(h:P:=by simpa using hg.1):P:=h
theorem zmg{P:Prop}(h:P:=by rw[hl];exact id):P:=h
end Go
namespace Go.Mt
open Go.Conc
open Go.ConcR (KK wgBlock WgAt stA smA rd wr mk)
inductive Rk:Type 1
 |mk (ι:Type) (f:ι->Rk)
inductive Rk.Child:Rk->Rk->Prop
 |mk {ι:Type} (f:ι->Rk) (i:ι):Rk.Child (f i) (.mk ι f)
theorem Rk.wf:WellFounded Rk.Child:=⟨λr=>by
 induction r with
 |mk ι f ih=>exact⟨_,λy h=>by cases h with|mk _ i=>exact ih i⟩⟩
structure cI where
 own:Nat->Prop
 still:Nat->Prop
 pass:Nat->Prop
def cI.grow (τ:cI)(w w':aE):cI:={τ with own:=λb=>τ.own b\/(w.heap.size<=b/\b<w'.heap.size)}
inductive Act (L:Type) where
 |send (c:Nat) (ok:aF->Prop) (pub:aF->List Nat) (nx:aF->L)
 |recv (c:Nat) (ok:aF->Prop) (nx:aF->L) (shut:L)
 |close (c:Nat) (nx:L)
 |add (nx:L)
 |spawn (pub:List Nat) (child nx:L)
 |done
 |wait
 |note (can:L->Prop)
inductive Ph (L:Type) where
 |gone
 |usr (l:L)
 |rel (l:L)
 |l1 (l:L)
 |l2 (l:L)
 |l3 (l:L)
 |quit (l:L)
 |w1 (b:Nat)
 |w2 (v:Nat)
 |w3
 |w4
 |w5
inductive Pj (L:Type) where
 |gone
 |run (l:L)
 |over (l:L)
 |waits
def Ph.proj {L:Type}:Ph L->Pj L
 | .gone=>.gone
 | .usr l=>.run l
 | .rel l| .l1 l| .l2 l| .l3 l| .quit l=>.over l
 | .w1 _| .w2 _| .w3| .w4| .w5=>.waits
abbrev rU:=Nat->Option Bool
def rU.opn (ch:rU)(l:List Nat):rU:=λc=>if c∈l then some false else ch c
structure jN (L:Type) where
 act:L->Act L
 dep:L->aE->Prop
 pend:L->Bool
 cl:L->Prop
 Inv:(Nat->Pj L)->rU->Prop
 got:L->aF->List Nat:=λ_ _=>[]
def jN.Blocked {L:Type}(A:jN L)(q:Nat->Pj L)(ch:rU)(l:L):Prop:=
 match A.act l with
 | .send c _ _ _=>¬∃j l' ok nx sh,q j=.run l'/\A.act l'=.recv c ok nx sh
 | .recv c _ _ _=>ch c=some false/\¬∃j l' ok pub nx,q j=.run l'/\A.act l'=.send c ok pub nx
 |_=>False
def Pj.c {L:Type}:Pj L->Nat
 | .gone=>0
 |_=>1
def num {L:Type}(q:Nat->Pj L):Nat->Nat
 |0=>0
 |n+1=>num q n+(q n).c
def bJ {α:Type _}(f:Nat->α)(i:Nat)(x:α):Nat->α:=λa=>if a=i then x else f a
structure jN.Ok {L:Type}(A:jN L):Prop where
 send1:∀q ch i j li lj c ok pub nx sM Xk p8,A.Inv q ch->q i=.run li->q j=.run lj->A.act li=.send c ok pub nx->A.act lj=.send c sM Xk p8->i=j
 recv1:∀q ch i j li lj c ok nx sh sM p8 xJ,A.Inv q ch->q i=.run li->q j=.run lj->A.act li=.recv c ok nx sh->A.act lj=.recv c sM p8 xJ->i=j
 sendC:∀q ch i l c ok pub nx,A.Inv q ch->q i=.run l->A.act l=.send c ok pub nx->ch c=some false
 recvC:∀q ch i l c ok nx sh,A.Inv q ch->q i=.run l->A.act l=.recv c ok nx sh->∃b,ch c=some b
 meet:∀q ch i j li lj c ok pub nx sM p8 sh v,A.Inv q ch->q i=.run li->q j=.run lj->A.act li=.send c ok pub nx->A.act lj=.recv c sM p8 sh->ok v->
  (∀a∈pub v,ch a=none)->sM v/\A.Inv (bJ (bJ q i (.run (nx v))) j (.run (p8 v))) (ch.opn (pub v))
 shut:∀q ch i l c ok nx sh,A.Inv q ch->q i=.run l->A.act l=.recv c ok nx sh->ch c=some true->A.cl l/\A.Inv (bJ q i (.run sh)) ch
 close:∀q ch i l c nx,A.Inv q ch->q i=.run l->A.act l=.close c nx->ch c=some false/\A.Inv (bJ q i (.run nx)) (bJ ch c (some true))
 add:∀q ch i l nx,A.Inv q ch->q i=.run l->A.act l=.add nx->i=0/\A.pend l=false/\A.pend nx=true/\A.Inv (bJ q i (.run nx)) ch
 spawn:∀q ch i l pub lc nx k,A.Inv q ch->q i=.run l->A.act l=.spawn pub lc nx->i=0/\A.pend l=true/\A.pend nx=false/\(q k=.gone->k≠0->(∀a∈pub,ch a=none)->A.Inv (bJ (bJ q i (.run nx)) k (.run lc)) (ch.opn pub))
 done:∀q ch i l,A.Inv q ch->q i=.run l->A.act l=.done->i≠0/\A.Inv (bJ q i (.over l)) ch
 note:∀q ch i l can l',A.Inv q ch->q i=.run l->A.act l=.note can->can l'->A.pend l'=A.pend l/\A.Inv (bJ q i (.run l')) ch
 wait:∀q ch i l,A.Inv q ch->q i=.run l->A.act l=.wait->i=0/\A.pend l=false/\A.Inv (bJ q i .waits) ch
 prog:∀q ch,A.Inv q ch->(∀i l,q i=.run l->A.Blocked q ch l)->q 0=.waits/\∀i l,q i≠ .run l
 pendC:∀l l' c v ok pub nx,A.act l=.send c ok pub nx->l'=nx v->A.pend l'=A.pend l
 pendR:∀l l' c v ok nx sh,A.act l=.recv c ok nx sh->(l'=nx v\/l'=sh)->A.pend l'=A.pend l
 pendX:∀l c nx,A.act l=.close c nx->A.pend nx=A.pend l
 few:∀q ch,A.Inv q ch->∀n,num q n<2000000000
 gotP:∀q ch i j li lj c ok pub nx sM p8 sh v,A.Inv q ch->q i=.run li->q j=.run lj->A.act li=.send c ok pub nx->A.act lj=.recv c sM p8 sh->ok v->∀a∈A.got lj v,a∈pub v
section
variable {L:Type}(P:bT)(ty:aN)(Wg:Nat)(A:jN L)(Fin:bF->aE->Prop)
def WgLive (w:aE):Prop:=∃st sm,fU ty Wg w st sm
structure bX (τ:cI)(w aJ:aE):Prop where
 tape:aJ.tape=w.tape
 os:aJ.os=w.os
 output:aJ.output=w.output
 size:w.heap.size<=aJ.heap.size
 keep:∀b,τ.own b\/τ.still b->aJ.heap[b]? =w.heap[b]?
 live:WgLive ty Wg w->WgLive ty Wg aJ
structure Aw (O:Nat->Prop)(w w':aE):Prop where
 tape:w'.tape=w.tape
 os:w'.os=w.os
 output:w'.output=w.output
 size:w.heap.size<=w'.heap.size
 keep:∀b,b<w.heap.size->¬O b->w'.heap[b]? =w.heap[b]?
def EvT (main:Bool)(O Z:Nat->Prop)(e:o5):Prop:=
 match e.loc with
 | .cell a=>O a.block\/(Z a.block/\e.write=false)
 | .obj r=>O r\/(Z r/\e.write=false)
 | .mark (.read a)| .mark (.write a)=>main=true/\a.block=Wg
 | .mark (.acquire _)| .mark (.release _)| .mark (.releaseMerge _)=>False
 | .mark _=>True
 |_=>False
variable (K:Bool->Ph L->Nat->cI->bF->aE->Prop)
def GoG (main:Bool)(ph:Ph L)(d:Nat)(τ:cI)(g:bF)(aJ:aE):Prop:=
 ∃g' w' es,stepG P main g aJ=.go g' w' es/\g'.status=.running/\Aw τ.own aJ w'/\(∀e∈es,EvT Wg main (τ.grow aJ w').own τ.still e)/\K main ph (oR d es) (τ.grow aJ w') g' w'
def OwnG (main:Bool)(ph:Ph L)(d:Nat)(τ:cI)(g:bF)(w:aE):Prop:=∀aJ,bX ty Wg τ w aJ->GoG P Wg K main ph d τ g aJ
def zb8 (main:Bool)(ph:Ph L)(d:Nat)(τ:cI)(g:bF)(w:aE):Prop:=
 ∀aJ,bX ty Wg τ w aJ->∃g' es,stepG P main g aJ=.go g' aJ es/\g'.status=.running/\(∀e∈es,zev e=true)/\K main ph (oR d es) τ g' aJ
def st (v wt:Nat):Value:=.int .u64 ((v:Int)*KK+wt)
def I8 (w:aE)(a:Nat):Prop:=w.heap[a]? =some (.chan 0 #[] false 0 0 false)
def nH (main:Bool)(l:L)(d:Nat)(τ:cI)(g:bF)(w:aE):Prop:=
 match A.act l with
 | .send c ok pub nx=>g.offers=none/\∃v z τ',(∀aJ,bX ty Wg τ w aJ->stepG P main g aJ=.comm g #[scase c v z] true .send aJ #[])/\ok v/\(∀b,τ'.own b->τ.own b)/\τ'.still=τ.still/\(∀b,τ'.pass b->τ.pass b\/τ.own b)/\
  (∀a∈pub v,τ.own a/\¬τ'.own a/\¬τ'.still a/\I8 w a)/\K main (.usr (nx v)) d τ' (pG g aA) w
 | .recv c ok nx sh=>g.offers=none/\∃z b,(∀aJ,bX ty Wg τ w aJ->stepG P main g aJ=.comm g #[rcase c z] true (.recv b) aJ #[])/\(∀v,ok v->∀aJ,bX ty Wg τ w aJ->(∀a∈A.got l v,a<aJ.heap.size/\¬τ.own a/\¬τ.still a)->K main (.usr (nx v)) d τ (pG g (recvd b v true)) aJ)/\(A.cl l->K main (.usr sh) d τ (pG g (recvd b z false)) w)
 | .close c nx=>mayWake P g=true/\τ.pass c/\∀aJ,bX ty Wg τ w aJ->∀s r,aJ.heap[c]? =some (.chan 0 #[] false s r false)->
  ∃g',stepG P main g aJ=.go g' (aJ.setChan c 0 #[] true s r false) (closeEvents c)/\g'.status=.running/\K main (.usr nx) d τ g' (aJ.setChan c 0 #[] true s r false)
 | .add nx=>∀aJ,bX ty Wg τ w aJ->∀v:Nat,v<2147483647->fU ty Wg aJ (v*KK) 0->
  ∃g',stepG P main g aJ=.go g' (aJ.setCell (stA Wg) (st (v+1) 0)) #[rd (stA Wg),wr (stA Wg)]/\g'.status=.running/\K main (.usr nx) d τ g' (aJ.setCell (stA Wg) (st (v+1) 0))
 | .spawn pub lc nx=>d=0/\∀aJ,bX ty Wg τ w aJ->∃g' child τm τc,stepG P main g aJ=.spawn g' child aJ #[]/\g'.status=.running/\child.status=.running/\
  (∀b,τm.own b\/τc.own b->τ.own b)/\(∀b,τm.still b\/τc.still b->τ.still b\/τ.own b)/\(∀b,τm.pass b\/τc.pass b->τ.pass b\/τ.own b\/τ.still b)/\
  (∀b,τm.own b->¬τc.own b/\¬τc.still b/\¬τc.pass b)/\(∀b,τc.own b->¬τm.still b/\¬τm.pass b)/\
  (∀a∈pub,τ.own a/\I8 aJ a/\¬τm.own a/\¬τm.still a/\¬τc.own a/\¬τc.still a)/\K main (.usr nx) 0 τm g' aJ/\K false (.usr lc) 0 τc child aJ
 | .done=>d=0/\main=false/\(∀aJ,bX ty Wg τ w aJ->A.dep l aJ)/\∀aJ,bX ty Wg τ w aJ->∃g',stepG P main g aJ=.go g' aJ #[mk (.releaseMerge (stA Wg))]/\g'.status=.running/\K main (.rel l) 0 τ g' aJ
 | .wait=>∀aJ,bX ty Wg τ w aJ->∀v:Nat,v<2147483648->fU ty Wg aJ (v*KK) 0->∃g',stepG P main g aJ=.go g' aJ #[rd (stA Wg)]/\g'.status=.running/\
  (v=0->K main .w5 d τ g' aJ)/\(v≠0->K main (.w2 v) d τ g' aJ)
 | .note can=>∃l',can l'/\K main (.usr l') d τ g w
def Ae (main:Bool)(ph:Ph L)(d:Nat)(τ:cI)(g:bF)(w:aE):Prop:=
 match ph with
 | .gone| .quit _=>False
 | .usr l=>nH P ty Wg A K main l d τ g w
 | .rel l=>∀aJ,bX ty Wg τ w aJ->∀v wt:Nat,wt<=1->v<2147483647->fU ty Wg aJ ((v+1:Nat)*KK+wt) 0->
  ∃g',stepG P main g aJ=.go g' (aJ.setCell (stA Wg) (st v wt)) #[rd (stA Wg),wr (stA Wg)]/\g'.status=.running/\0<d/\
   ((v=0/\wt=1)->K main (.l1 l) d τ g' (aJ.setCell (stA Wg) (st v wt)))/\(¬(v=0/\wt=1)->∃q,QuitsD P q d g')
 | .l1 l=>∀aJ,bX ty Wg τ w aJ->fU ty Wg aJ 1 0->∃g',stepG P main g aJ=.go g' aJ #[rd (stA Wg)]/\g'.status=.running/\0<d/\K main (.l2 l) d τ g' aJ
 | .l2 l=>∀aJ,bX ty Wg τ w aJ->fU ty Wg aJ 1 0->∃g',stepG P main g aJ=.go g' (aJ.setCell (stA Wg) (st 0 0)) #[wr (stA Wg)]/\g'.status=.running/\0<d/\K main (.l3 l) d τ g' (aJ.setCell (stA Wg) (st 0 0))
 | .l3 l=>mayWake P g=true/\∀aJ,bX ty Wg τ w aJ->fU ty Wg aJ 0 0->∃g',stepG P main g aJ=.go g' (aJ.setCell (smA Wg) (.int .u32 1)) (semEvents (smA Wg))/\g'.status=.running/\0<d/\∃q,QuitsD P q d g'
 | .w1 b=>∀aJ,bX ty Wg τ w aJ->∀v:Nat,v<b->v<2147483648->fU ty Wg aJ (v*KK) 0->∃g',stepG P main g aJ=.go g' aJ #[rd (stA Wg)]/\g'.status=.running/\
  (v=0->K main .w5 d τ g' aJ)/\(v≠0->K main (.w2 v) d τ g' aJ)
 | .w2 vs=>∀aJ,bX ty Wg τ w aJ->∀v:Nat,v<2147483648->fU ty Wg aJ (v*KK) 0->
  (v=vs->∃g',stepG P main g aJ=.go g' (aJ.setCell (stA Wg) (st v 1)) #[rd (stA Wg),wr (stA Wg)]/\g'.status=.running/\K main .w3 d τ g' (aJ.setCell (stA Wg) (st v 1)))/\
  (v<vs->∃g',stepG P main g aJ=.go g' aJ #[rd (stA Wg)]/\g'.status=.running/\K main (.w1 vs) d τ g' aJ)
 | .w3=>g.offers=none/\∀aJ,bX ty Wg τ w aJ->((∃x,fU ty Wg aJ x 0)->stepG P main g aJ=.go {g with status:=.blocked} aJ #[])/\
  (fU ty Wg aJ 0 1->∃g',stepG P main g aJ=.go g' (aJ.setCell (smA Wg) (.int .u32 0)) (semEvents (smA Wg))/\g'.status=.running/\K main .w4 d τ g' (aJ.setCell (smA Wg) (.int .u32 0)))
 | .w4=>∀aJ,bX ty Wg τ w aJ->fU ty Wg aJ 0 0->∃g',stepG P main g aJ=.go g' aJ #[rd (stA Wg)]/\g'.status=.running/\K main .w5 d τ g' aJ
 | .w5=>d=0/\∀aJ,bX ty Wg τ w aJ->(∃q ch,A.Inv q ch/\q 0=.waits/\(∀i l,q i≠ .run l)/\∀i l,q i=.over l->A.dep l aJ)->
  ∃g',stepG P main g aJ=.go g' aJ #[mk (.acquire (stA Wg))]/\g'.status=.running/\Fin g' aJ
def Nx (main:Bool)(ph:Ph L)(d:Nat)(τ:cI)(g:bF)(w:aE):Prop:=
 match ph with
 | .gone| .quit _=>False
 | .rel _| .l1 _| .l2 _| .l3 _=>zb8 P ty Wg K main ph d τ g w
 |_=>OwnG P ty Wg K main ph d τ g w
end
def pI {L:Type}(P:bT)(ty:aN)(Wg:Nat)(A:jN L)(Fin:bF->aE->Prop):Rk->Bool->Ph L->Nat->cI->bF->aE->Prop
 | .mk ι f,main,ph,d,τ,g,w=>g.status=.running/\
  (
   Nx P ty Wg (λm ph d τ g w=>∃i,pI P ty Wg A Fin (f i) m ph d τ g w) main ph d τ g w\/
   Ae P ty Wg A Fin (λm ph d τ g w=>∃i,pI P ty Wg A Fin (f i) m ph d τ g w) main ph d τ g w)
abbrev Cp:=Sum Nat Rk
def Cl:Cp->Cp->Prop:=Sum.Lex (·<·) Rk.Child
theorem Cl.wf:WellFounded Cl:=by
 have hl:∀n:Nat,Acc Cl (.inl n):=λn=>by
  induction n using Nat.strongRecOn with
  |_ n ih=>exact⟨_,λy h=>by cases h with|inl h=>exact ih _ h⟩
 refine⟨λx=>?_⟩
 cases x with
 |inl n=>exact hl n
 |inr r=>
  induction r using Rk.wf.induction with
  |_ r ih=>exact⟨_,λy h=>by cases h with|inr h=>exact ih _ h|sep=>exact hl _⟩
def Ze (n:Nat)(f' f:Nat->Cp):Prop:=∃i,i<=n/\Cl (f' i) (f i)/\∀j,j<i->f' j=f j
theorem Ze.wf:∀n,WellFounded (Ze n):=by
 intro n
 induction n with
 |zero=>
  have:∀c,Acc Cl c->∀f:Nat->Cp,f 0=c->Acc (Ze 0) f:=by
   intro c hc
   induction hc with
   |intro c _ ih=>
    intro f hf;refine⟨_,λf' h=>?_⟩;obtain⟨i,hi,hl,_⟩:=h
    grind
  exact⟨λf=>this _ (Cl.wf.apply _) f rfl⟩
 |succ n ih=>
  have:∀zeY,Acc (Ze n) zeY->∀c,Acc Cl c->∀f:Nat->Cp,(∀j,j<=n->f j=zeY j)->f (n+1)=c->Acc (Ze (n+1)) f:=by
   intro zeY zf0
   induction zf0 with
   |intro zeY _ zCx=>
    intro c hc
    induction hc with
    |intro c _ zLw=>
     intro f hf I9;refine⟨_,λf' h=>?_⟩;obtain⟨i,hi,hl,he⟩:=h;rcases rM n i with aU|Df
     .grind
     .refine zCx f' ⟨i,Df,(hf i Df)▸hl,λj hj=>(he j hj).trans (hf j aC)⟩ _ (Cl.wf.apply (f' (n+1))) f' (λj _=>rfl) rfl
  exact⟨λf=>this f (ih.apply f) _ (Cl.wf.apply _) f (λ_ _=>rfl) rfl⟩
abbrev Mu:=Nat×(Nat->Cp)
def Mu.lt (x y:Mu):Prop:=∃i,i<=y.1/\Cl (x.2 i) (y.2 i)/\(∀j,j<i->x.2 j=y.2 j)/\(i≠0->x.1=y.1)
theorem Mu.wf:WellFounded Mu.lt:=by
 have:∀c,Acc Cl c->∀n (f:Nat->Cp),f 0=c->Acc Mu.lt (n,f):=by
  intro c hc
  induction hc with
  |intro c _ ih=>
   intro n f
   induction f using(Ze.wf n).induction with
   |_ f zHQ=>
    intro hf;refine⟨_,λy h=>?_⟩;obtain⟨n',f'⟩:=y;obtain⟨i,hi,hl,he,hn⟩:=h;simp only at hi hl he hn;by_cases h0:i=0
    .grind
    .have:=hn h0
     subst this;exact zHQ f' ⟨i,hi,hl,he⟩ ((he 0 aC).trans hf)
 exact⟨λx=>this _ (Cl.wf.apply _) x.1 x.2 rfl⟩
theorem run_to {P:bT}{α:Type _}{r:α->α->Prop}(wf:WellFounded r)(Inv:α->zaJ->mF->Prop)(P7:zaJ->mF->Prop)
 (h:∀μ m t,Inv μ m t->∃m' ops,stepT P m=(.next m',ops)/\(P7 m' (t++ops)\/∃μ',r μ' μ/\Inv μ' m' (t++ops))):
 ∀μ m t,Inv μ m t->∃n m' t',runNT P n m t=(.next m',t')/\P7 m' t':=by
 intro μ
 induction μ using wf.induction with
 |_ μ ih=>
  intro m t hI;obtain⟨m',ops,hs,hg|⟨μ',hr,zjr⟩⟩:=h μ m t hI
  .exact⟨1,m',t++ops,by simp[runNT,hs],hg⟩
  .obtain⟨n,zGW,t',h1,h2⟩:=ih μ' hr m' (t++ops) zjr
   exact⟨n+1,zGW,t',by rw[runNT_succ_next hs];exact h1,h2⟩
section
variable {L:Type}{P:bT}{ty:aN}{Wg:Nat}{A:jN L}{Fin:bF->aE->Prop}
variable {τ τ':cI}{w aJ eR:aE}
def bX.refl:bX ty Wg τ w w:=⟨rfl,rfl,rfl,bL _,λ_ _=>rfl,id⟩
def bX.trans (h:bX ty Wg τ w aJ)(k:bX ty Wg τ aJ eR):bX ty Wg τ w eR:=
 ⟨k.tape.trans h.tape,k.os.trans h.os,k.output.trans h.output,eG h.size k.size,λb hb=>(k.keep b hb).trans (h.keep b hb),λx=>k.live (h.live x)⟩
def bX.mono (h:bX ty Wg τ w aJ)(hs:∀b,τ'.own b\/τ'.still b->τ.own b\/τ.still b):bX ty Wg τ' w aJ:=
 ⟨h.tape,h.os,h.output,h.size,λb hb=>h.keep b (hs b hb),h.live⟩
def zok (ty:aN)(Wg:Nat)(K:Bool->Ph L->Nat->cI->bF->aE->Prop):Prop:=
 ∀m ph d τ g w aJ,K m ph d τ g w->bX ty Wg τ w aJ->K m ph d τ g aJ
variable {K:Bool->Ph L->Nat->cI->bF->aE->Prop}
theorem nH.rely (hK:zok ty Wg K){main:Bool}{l:L}{d:Nat}{g:bF}(h:nH P ty Wg A K main l d τ g w)(s:bX ty Wg τ w aJ):nH P ty Wg A K main l d τ g aJ:=by
 unfold nH at*;split
 .rename_i c ok pub nx e
  simp only[e] at h;obtain⟨ho,v,z,τ',h1,h2,h3,h4,Lq,h5,h6⟩:=h
  exact⟨ho,v,z,τ',λeR mD=>h1 eR (s.trans mD),h2,h3,h4,Lq,λa ha=>⟨(h5 a ha).1,(h5 a ha).2.1,(h5 a ha).2.2.1,(s.keep a (.inl (h5 a ha).1)).trans (h5 a ha).2.2.2⟩,
   hK _ _ _ _ _ _ _ h6 (s.mono λb hb=>hb.imp (h3 b) (λx=>h4▸x))⟩
 .rename_i c ok nx sh e
  simp only[e] at h;obtain⟨ho,z,b,h1,h2,h3⟩:=h;exact⟨ho,z,b,λeR mD=>h1 eR (s.trans mD),λv hv eR mD hg=>h2 v hv eR (s.trans mD) hg,λx=>hK _ _ _ _ _ _ _ (h3 x) s⟩
 .rename_i c nx e
  simp only[e] at h;exact⟨h.1,h.2.1,λeR mD=>h.2.2 eR (s.trans mD)⟩
 .rename_i nx e
  simp only[e] at h;exact λeR mD=>h eR (s.trans mD)
 .rename_i pub lc nx e
  simp only[e] at h;exact⟨h.1,λeR mD=>h.2 eR (s.trans mD)⟩
 .rename_i e
  simp only[e] at h;exact⟨h.1,h.2.1,λeR mD=>h.2.2.1 eR (s.trans mD),λeR mD=>h.2.2.2 eR (s.trans mD)⟩
 .rename_i e
  simp only[e] at h;exact λeR mD=>h eR (s.trans mD)
 .rename_i can e
  simp only[e] at h;obtain⟨l',h1,h2⟩:=h;exact⟨l',h1,hK _ _ _ _ _ _ _ h2 s⟩
theorem Ae.rely (hK:zok ty Wg K){main:Bool}{ph:Ph L}{d:Nat}{g:bF}(h:Ae P ty Wg A Fin K main ph d τ g w)(s:bX ty Wg τ w aJ):Ae P ty Wg A Fin K main ph d τ g aJ:=by
 cases ph with
 |gone=>exact h
 |quit l=>exact h
 |usr l=>exact nH.rely hK h s
 |l3 l=>exact⟨h.1,λeR mD=>h.2 eR (s.trans mD)⟩
 |w3=>exact⟨h.1,λeR mD=>h.2 eR (s.trans mD)⟩
 |w5=>exact⟨h.1,λeR mD=>h.2 eR (s.trans mD)⟩
 |rel l=>exact λeR mD=>h eR (s.trans mD)
 |l1 l=>exact λeR mD=>h eR (s.trans mD)
 |l2 l=>exact λeR mD=>h eR (s.trans mD)
 |w1 b=>exact λeR mD=>h eR (s.trans mD)
 |w2 v=>exact λeR mD=>h eR (s.trans mD)
 |w4=>exact λeR mD=>h eR (s.trans mD)
theorem Nx.rely {main:Bool}{ph:Ph L}{d:Nat}{g:bF}(h:Nx P ty Wg K main ph d τ g w)(s:bX ty Wg τ w aJ):Nx P ty Wg K main ph d τ g aJ:=by
 cases ph<;>first|exact h|exact λeR mD=>h eR (s.trans mD)
theorem pI.rely:∀{r:Rk} {main:Bool} {ph:Ph L} {d:Nat} {τ:cI} {g:bF} {w aJ:aE},pI P ty Wg A Fin r main ph d τ g w->bX ty Wg τ w aJ->pI P ty Wg A Fin r main ph d τ g aJ:=by
 intro r
 induction r with
 |mk ι f ih=>
  intro main ph d τ g w aJ h s;refine⟨h.1,h.2.imp (λx=>x.rely s) λx=>x.rely (λm ph d τ g w aJ ⟨i,hi⟩ s=>⟨i,ih i hi s⟩) s⟩
end
def nY (l:Loc)(b:Nat):Prop:=match l with| .cell a=>a.block=b| .obj r=>r=b|_=>False
variable {l:Loc}{b:Nat}
theorem zaM (h:nY l b):l.isMemory=true:=by cases l<;>first|rfl|exact h.elim
theorem L9 {b':Nat}(h:nY l b)(h':nY l b'):b=b':=by cases l<;>first|exact h.symm.trans h'|exact h.elim
def Handed (Wg:Nat)(t:mF)(i:Nat):Prop:=∃r,t.act? r=some (.mark (.releaseMerge (stA Wg)))/\t.heard r/\Before t i r
variable {i:Nat}
theorem Handed.app {Wg:Nat}{t:mF}(u:mF)(h:Handed Wg t i):Handed Wg (t++u) i:=by
 obtain⟨r,h1,h2,h3⟩:=h;have hr:=zgF h1;exact⟨r,by rw[zbo hr];exact h1,(zla hr).2 h2,h3.app u⟩
structure TI (Wg n:Nat)(own pas:Nat->Nat->Prop)(live:Nat->Prop)(Shun:Loc->Prop)(B:Nat)(t:mF):Prop where
 clean:∀said,¬Race said t
 own:∀k b,live k->own k b->∀i a,touchAt t i=some a->nY a.loc b->Nf t k i
 pas:∀k b,live k->pas k b->∀i a,touchAt t i=some a->nY a.loc b->a.write=true->Nf t k i
 grp:∀i a,touchAt t i=some a->nY a.loc Wg->a.kind=.atomic\/(a.kind=.said/\t.g? i=some 0)
 all:∀i a,touchAt t i=some a->a.loc.isMemory=true->(∃k,live k/\Nf t k i)\/Handed Wg t i\/((Shun a.loc\/nY a.loc Wg)/\a.kind=.atomic)
 over:∀i g,t.g? i=some g->g≠0->t.counts i->(∃k,live k/\Nf t k i)\/Handed Wg t i\/∃j,t.g? j=some 0/\zek t i j
 norel:∀k,t.act? k≠some (.mark (.release (stA Wg)))
 low:∀op∈t,op.act.low B
 above:∀j,n<=j->iI t j=0
section
variable {Wg n:Nat}{own own' pas Xi:Nat->Nat->Prop}{live live':Nat->Prop}{Shun:Loc->Prop}{B B':Nat}{t:mF}
def zGD (t:mF)(y:Sa):touchAt (t++ #[y]) t.size=y.act.touch? :=touchAt_of aQ
variable {y:Sa}{a:Touch}
theorem H5 {t:mF}{i:Nat}(h:touchAt (t++ #[y]) i=some a):(i<t.size/\touchAt t i=some a)\/(i=t.size/\y.act.touch? =some a):=by
 obtain⟨op,ho,Lw⟩:=zfH h;rcases getElem?_append_cases ho with⟨hi,xL⟩|⟨hi,hu⟩
 .exact .inl ⟨hi,by rw[touchAt_of xL];exact Lw⟩
 grind
theorem zvH {B:Nat}{x:MemAct}{b:Nat}(h:x.low B)(ht:x.touch? =some a)(hb:nY a.loc b):b<B:=by
 cases x with
 |access e=>
  simp only[rY,jS] at ht;subst ht;obtain⟨loc,wr,sy⟩:=e;cases loc<;>first|exact hb▸h|exact hb.elim
 |mark m=>cases m<;>simp only[rY,jS,reduceCtorEq] at ht<;>(subst ht;exact hb▸h)
 |_=>simp[rY] at ht
theorem TI.lowB (h:TI Wg n own pas live Shun B t){i:Nat}{b:Nat}(ht:touchAt t i=some a)(hb:nY a.loc b):b<B:=by
 obtain⟨op,ho,Lw⟩:=zfH ht;exact zvH (h.low op (zm9 ho)) Lw hb
def TI.less (h:TI Wg n own pas live Shun B t)(ho:∀k b,live k->own' k b->own k b\/B<=b)(hp:∀k b,live k->Xi k b->pas k b\/own k b\/B<=b)(hB:B<=B'):TI Wg n own' Xi live Shun B' t:=
 ⟨
  h.clean,λk b hk hb i a ha hl=>(ho k b hk hb).elim (λx=>h.own k b hk x i a ha hl) (λx=>absurd (h.lowB ha hl) aC),
  λk b hk hb i a ha hl hw=>(hp k b hk hb).elim (λx=>h.pas k b hk x i a ha hl hw) (λx=>x.elim (λx=>h.own k b hk x i a ha hl) (λx=>absurd (h.lowB ha hl) aC)),
  h.grp,h.all,h.over,h.norel,λop hop=>zsd hB (h.low op hop),h.above⟩
def zeW {t:mF}{k:Nat}(hg:y.g=k):Nf (t++ #[y]) k t.size:=⟨t.size,y,aQ,hg,.inl rfl⟩
theorem zf2 {t:mF}{i g:Nat}(hg:(t++ #[y]).g? i=some g)(hc:(t++ #[y]).counts i):(i<t.size/\t.g? i=some g/\t.counts i)\/(i=t.size/\y.g=g):=by
 obtain⟨x,hx,tX⟩:=hc;have aU:i<(t++ #[y]).size:=by
  unfold El at hg;obtain⟨z,hz,_⟩:=Aa.1 hg;exact zcs hz
 simp only[zae,Ev,wL,zF] at aU;rcases rM i t.size with hi|hi
 .refine .inl ⟨hi,by rw[Uv hi] at hg;exact hg,x,?_,tX.1,tX.2.imp id λz=>(zla hi).1 z⟩
  rw[zbo hi] at hx;exact hx
 .have:i=t.size:=aC
  subst this;refine .inr ⟨rfl,?_⟩;simpa[El] using hg
theorem TI.push (h:TI Wg n own pas live Shun B t){k:Nat}(hk:live k)(tY:k<n)(hg:y.g=k)
 (ht:∀a,y.act.touch? =some a->(∃b,b≠Wg/\nY a.loc b/\(own k b\/(pas k b/\a.write=false))/\∀k',live k'->k'≠k->¬own k' b/\(a.write=true->¬pas k' b))\/(nY a.loc Wg/\(a.kind=.atomic\/(a.kind=.said/\k=0))/\∀k',live k'->¬own k' Wg/\¬pas k' Wg)\/a.loc.isMemory=false)
 (hr:y.act≠ .mark (.release (stA Wg))) (hl:y.act.low B):TI Wg n own pas live Shun B (t++ #[y]):=by
 refine⟨λsaid=>?_,λk' b cY hb i a ha lI=>?_,λk' b cY hb i a ha lI hw=>?_,λi a ha lI=>?_,λi a ha hm=>?_,λi g E0 aV hc=>?_,λi e=>?_,λop hop=>?_,λj hj=>?_⟩
 .refine zxi (g:=k) (h.clean said) (λop hop=>by simp_all) λi a ha op hop b hb hc=>?_
  have:op=y:=by simpa using hop
  subst this;obtain⟨zbn,zBJ,jU,gI⟩:=hc;rcases ht b hb with⟨bl,lQ,lI,zb6,_⟩|⟨lI,Sy,_⟩|Jf
  .rcases zb6 with zb6|⟨zb6,zE5⟩
   .exact h.own k bl hk zb6 i a ha (zbn▸lI)
   .exact h.pas k bl hk zb6 i a ha (zbn▸lI) (by simpa[zE5] using jU)
  .have Qd:=h.grp i a ha (zbn▸lI)
   rcases Sy with Sy|⟨Sy,l6⟩
   .rw[Sy] at gI
    rcases Qd with Qd|⟨Qd,_⟩<;>rw[Qd] at gI<;>simp at gI
   .rcases Qd with Qd|⟨Qd,So⟩
    .simp_all
    .obtain⟨zGx,zrt,_⟩:=zfH ha
     have:zGx.g=0:=by simpa[El,zrt] using So
     have:=knows_own zrt;simp_all
  simp_all
 .rcases H5 ha with⟨_,fX⟩|⟨rfl,fX⟩
  .exact(h.own k' b cY hb i a fX lI).app _
  .by_cases gI:k'=k
   .exact gI▸zeW hg
   .rcases ht a fX with⟨bl,lQ,D4,_,fM⟩|⟨D4,_,fM⟩|Jf
    .exact absurd (L9 lI D4▸hb) (fM k' cY gI).1
    .exact absurd (L9 lI D4▸hb) (fM k' cY).1
    .rw[zaM lI] at Jf;cases Jf
 .rcases H5 ha with⟨_,fX⟩|⟨rfl,fX⟩
  .exact(h.pas k' b cY hb i a fX lI hw).app _
  .by_cases gI:k'=k
   .exact gI▸zeW hg
   .rcases ht a fX with⟨bl,lQ,D4,_,fM⟩|⟨D4,_,fM⟩|Jf
    .exact absurd (L9 lI D4▸hb) ((fM k' cY gI).2 hw)
    .exact absurd (L9 lI D4▸hb) (fM k' cY).2
    .rw[zaM lI] at Jf;cases Jf
 .rcases H5 ha with⟨hi,fX⟩|⟨rfl,fX⟩
  .exact(h.grp i a fX lI).imp id λx=>⟨x.1,by rw[Uv hi];exact x.2⟩
  .rcases ht a fX with⟨bl,lQ,D4,_,fM⟩|⟨D4,Sy,_⟩|Jf
   .exact absurd (L9 D4 lI) lQ
   .exact Sy.imp id λx=>⟨x.1,by simp[El,hg,x.2]⟩
   .rw[zaM lI] at Jf;cases Jf
 .rcases H5 ha with⟨_,fX⟩|⟨rfl,fX⟩
  .rcases h.all i a fX hm with⟨k',cY,hkn'⟩|hh|hs
   .exact .inl ⟨k',cY,hkn'.app _⟩
   .exact .inr (.inl (hh.app _))
   .exact .inr (.inr hs)
  .exact .inl ⟨k,hk,zeW hg⟩
 .rcases zf2 E0 hc with⟨hi,hgi',kQ⟩|⟨rfl,hgi'⟩
  .rcases h.over i g hgi' aV kQ with⟨k',cY,hkn'⟩|hh|⟨j,hj,hb⟩
   .exact .inl ⟨k',cY,hkn'.app _⟩
   .exact .inr (.inl (hh.app _))
   .refine .inr (.inr ⟨j,?_,hb_app _ hb⟩)
    have uW:j<t.size:=by
     unfold El at hj;obtain⟨z,hz,_⟩:=Aa.1 hj;exact zcs hz
    rw[Uv uW];exact hj
  .exact .inl ⟨k,hk,zeW hg⟩
 .have aU:=zgF e
  simp only[zae,Ev,wL,zF] at aU;rcases rM i t.size with hi|hi
  .rw[zbo hi] at e;exact h.norel i e
  .have:i=t.size:=aC
   subst this;exact hr (by simpa[ztI] using e)
 .rcases zo4.1 hop with hop|hop
  .exact h.low op hop
  simp_all
 .rw[Of t (g':=k) aC _ (λop hop=>by simp at hop;rw[hop];exact hg)];exact h.above j hj
theorem TI.idle (h:TI Wg n own pas live Shun B t)(tY:y.g<n)
 (ht:∀a,y.act.touch? =some a->nY a.loc Wg/\a.kind=.atomic/\0<iI t y.g/\∀k',live k'->¬own k' Wg/\¬pas k' Wg)
 (hr:y.act≠ .mark (.release (stA Wg))) (hl:y.act.low B):TI Wg n own pas live Shun B (t++ #[y]):=by
 have zhz:∀a,y.act.touch? =some a->¬(t++ #[y]).heard t.size:=by
  rintro a ha ⟨g,hg,hd⟩;have:y.g=g:=by simpa[El] using hg
  rw[zg4 (bL _),<-this] at hd;have:=(ht a ha).2.2.1;unfold iI at this;omega
 refine⟨λsaid=>?_,λk' b cY hb i a ha lI=>?_,λk' b cY hb i a ha lI hw=>?_,λi a ha lI=>?_,λi a ha hm=>?_,λi g E0 aV hc=>?_,λi e=>?_,λop hop=>?_,λj hj=>?_⟩
 .refine zxi (g:=y.g) (h.clean said) (λop hop=>by simp at hop;rw[hop]) λi a ha op hop b hb hc=>?_
  have:op=y:=by simpa using hop
  subst this;obtain⟨zbn,zBJ,jU,gI⟩:=hc;obtain⟨lI,Sy,_,_⟩:=ht b hb;have Qd:=h.grp i a ha (zbn▸lI);simp_all
 .rcases H5 ha with⟨_,fX⟩|⟨rfl,fX⟩
  .exact(h.own k' b cY hb i a fX lI).app _
  .obtain⟨D4,_,_,fM⟩:=ht a fX
   exact absurd (L9 lI D4▸hb) (fM k' cY).1
 .rcases H5 ha with⟨_,fX⟩|⟨rfl,fX⟩
  .exact(h.pas k' b cY hb i a fX lI hw).app _
  .obtain⟨D4,_,_,fM⟩:=ht a fX
   exact absurd (L9 lI D4▸hb) (fM k' cY).2
 .rcases H5 ha with⟨hi,fX⟩|⟨rfl,fX⟩
  .exact(h.grp i a fX lI).imp id λx=>⟨x.1,by rw[Uv hi];exact x.2⟩
  simp_all
 .rcases H5 ha with⟨_,fX⟩|⟨rfl,fX⟩
  .rcases h.all i a fX hm with⟨k',cY,hkn'⟩|hh|hs
   .exact .inl ⟨k',cY,hkn'.app _⟩
   .exact .inr (.inl (hh.app _))
   .exact .inr (.inr hs)
  simp_all
 .obtain⟨x,hx,zfD,zLC⟩:=id hc
  rcases zf2 E0 hc with⟨hi,hgi',kQ⟩|⟨rfl,hgi'⟩
  .rcases h.over i g hgi' aV kQ with⟨k',cY,hkn'⟩|hh|⟨j,hj,hb⟩
   .exact .inl ⟨k',cY,hkn'.app _⟩
   .exact .inr (.inl (hh.app _))
   .refine .inr (.inr ⟨j,?_,hb_app _ hb⟩)
    have uW:j<t.size:=by
     unfold El at hj;obtain⟨z,hz,_⟩:=Aa.1 hj;exact zcs hz
    rw[Uv uW];exact hj
  .have hy:y.act.touch? =some x:=by rw[<-zGD t y];exact hx
   simp_all
 .have aU:=zgF e
  simp only[zae,Ev,wL,zF] at aU;rcases rM i t.size with hi|hi
  .rw[zbo hi] at e;exact h.norel i e
  .have:i=t.size:=aC
   subst this;exact hr (by simpa[ztI] using e)
 .rcases zo4.1 hop with hop|hop
  .exact h.low op hop
  simp_all
 .rw[Of t (g':=y.g) aC _ (λop hop=>by simp at hop;rw[hop])];exact h.above j hj
theorem TI.release (h:TI Wg n own pas live Shun B t){k:Nat}(tY:k<n)(hg:y.g=k)(hy:y.act=.mark (.releaseMerge (stA Wg)))(hd:iI t k=0)
 (zkc:Wg<B) (nU:∀j,live' j->live j) (Ji:∀j,live j->live' j\/j=k):TI Wg n own pas live' Shun B (t++ #[y]):=by
 have h1:=h.idle (y:=y) aC (λa ha=>by rw[hy] at ha;simp[rY] at ha) (by rw[hy];simp) (by rw[hy];exact zkc);have Er:(t++ #[y])[t.size]? =some y:=aQ;have Fa:∀i,Nf t k i->Handed Wg (t++ #[y]) i:=λi hi=>
  ⟨t.size,by rw[act?_of Er,hy],⟨k,by simp[El,hg],by rw[zg4 (bL _)];exact hd⟩,.inr (hi.hb_new (bL _) Er hg)⟩
 have zjA:Handed Wg (t++ #[y]) t.size:=⟨t.size,by rw[act?_of Er,hy],⟨k,by simp[El,hg],by rw[zg4 (bL _)];exact hd⟩,.inl rfl⟩;refine⟨h1.clean,λk' b cY=>h1.own k' b (nU k' cY),λk' b cY=>h1.pas k' b (nU k' cY),h1.grp,λi a ha hm=>?_,λi g E0 aV hc=>?_,h1.norel,h1.low,h1.above⟩
 .rcases H5 ha with⟨_,fX⟩|⟨rfl,fX⟩
  .rcases h.all i a fX hm with⟨k',cY,hkn'⟩|hh|hs
   .rcases Ji k' cY with x|rfl
    .exact .inl ⟨k',x,hkn'.app _⟩
    simp_all
   .exact .inr (.inl (hh.app _))
   .exact .inr (.inr hs)
  simp_all
 .rcases zf2 E0 hc with⟨hi,hgi',kQ⟩|⟨rfl,hgi'⟩
  .rcases h.over i g hgi' aV kQ with⟨k',cY,hkn'⟩|hh|⟨j,hj,hb⟩
   .rcases Ji k' cY with x|rfl
    .exact .inl ⟨k',x,hkn'.app _⟩
    simp_all
   .exact .inr (.inl (hh.app _))
   .refine .inr (.inr ⟨j,?_,hb_app _ hb⟩)
    have uW:j<t.size:=by
     unfold El at hj;obtain⟨z,hz,_⟩:=Aa.1 hj;exact zcs hz
    rw[Uv uW];exact hj
  simp_all
theorem TI.fork (h:TI Wg n own pas live Shun B t){x:Sa}(h0:live 0)(zI2:0<n)(hx:x.g=0/\x.act=.go n)(hy:y.g=n/\y.act=.start)(hd:iI t 0=0)
 (nU:∀j,live' j↔(live j\/j=n)) (y5:¬live n) (Af:∀k b,live k->k≠0->own' k b->own k b) (zCG:∀k b,live k->k≠0->Xi k b->pas k b)
 (ho:∀b,own' 0 b\/own' n b->own 0 b) (hp:∀b,Xi 0 b\/Xi n b->own 0 b\/pas 0 b):TI Wg (n+1) own' Xi live' Shun B (t++ #[x,y]):=by
 have zBs:=h.above n (bL _);have e2:t++ #[x,y]=(t++ #[x])++ #[y]:=by apply Jb;simp
 have hn:TI Wg (n+1) own pas live Shun B t:=⟨h.clean,h.own,h.pas,h.grp,h.all,h.over,h.norel,h.low,λj hj=>h.above j aC⟩;have h1:=hn.idle (y:=x) (by rw[hx.1];omega) (λa ha=>by rw[hx.2] at ha;simp[rY] at ha) (by rw[hx.2];simp) (by rw[hx.2];trivial);have h2:=h1.idle (y:=y) (by rw[hy.1];omega) (λa ha=>by rw[hy.2] at ha;simp[rY] at ha) (by rw[hy.2];simp) (by rw[hy.2];trivial);rw[<-e2] at h2;have old:∀{i:Nat} {a:Touch},touchAt (t++ #[x,y]) i=some a->touchAt t i=some a:=by
  intro i a ha;rw[e2] at ha;rcases H5 ha with⟨_,fX⟩|⟨_,fX⟩
  .rcases H5 fX with⟨_,ha''⟩|⟨_,ha''⟩
   .exact ha''
   .rw[hx.2] at ha'';simp[rY] at ha''
  .rw[hy.2] at fX;simp[rY] at fX
 have fk:∀{i:Nat},Nf t 0 i->Nf (t++ #[x,y]) n i:=λ{i} hi=>Go.ConcN.fork_knows hx hy hd zBs hi;refine⟨h2.clean,λk b hk hb i a ha lI=>?_,λk b hk hb i a ha lI hw=>?_,h2.grp,λi a ha hm=>?_,λi g E0 aV hc=>?_,h2.norel,h2.low,h2.above⟩
 .rcases(nU k).1 hk with cY|rfl
  .by_cases l6:k=0
   .subst l6;exact h2.own 0 b h0 (ho b (.inl hb)) i a ha lI
   .exact h2.own k b cY (Af k b cY l6 hb) i a ha lI
  .exact fk (h.own 0 b h0 (ho b (.inr hb)) i a (old ha) lI)
 .rcases(nU k).1 hk with cY|rfl
  .by_cases l6:k=0
   .subst l6
    exact(hp b (.inl hb)).elim (λz=>h2.own 0 b h0 z i a ha lI) (λz=>h2.pas 0 b h0 z i a ha lI hw)
   .exact h2.pas k b cY (zCG k b cY l6 hb) i a ha lI hw
  .exact(hp b (.inr hb)).elim (λz=>fk (h.own 0 b h0 z i a (old ha) lI)) (λz=>fk (h.pas 0 b h0 z i a (old ha) lI hw))
 .exact(h2.all i a ha hm).imp (λ⟨k,hk,tY⟩=>⟨k,(nU k).2 (.inl hk),tY⟩) id
 .exact(h2.over i g E0 aV hc).imp (λ⟨k,hk,tY⟩=>⟨k,(nU k).2 (.inl hk),tY⟩) id
theorem TI.acquire (h:TI Wg n own pas live Shun B t)(zI2:0<n)(hg:y.g=0)(hy:y.act=.mark (.acquire (stA Wg)))(hd:iI t 0=0)(zkc:Wg<B)(Ji:∀j,live j->j=0):
 Past (λl=>Shun l\/nY l Wg) B (t++ #[y])/\∀j,n<=j->iI (t++ #[y]) j=0:=by
 have h1:=h.idle (y:=y) aC (λa ha=>by rw[hy] at ha;simp[rY] at ha) (by rw[hy];simp) (by rw[hy];exact zkc);have Er:(t++ #[y])[t.size]? =some y:=aQ;have hh:(t++ #[y]).heard t.size:=⟨0,by simp[El,hg],by rw[zg4 (bL _)];exact hd⟩;have got:∀i,i<t.size->Handed Wg t i->zek (t++ #[y]) i t.size:=by
  rintro i hi ⟨r,kG,uJ,E8⟩;have Mx:=zgF kG;have zz8:zek (t++ #[y]) r t.size:=.single (.inr ⟨.marked Mx (.inr (by rw[zbo Mx];exact kG)) (by rw[act?_of Er,hy]) (λk rJ qZ=>h1.norel k),(zla Mx).2 uJ,hh⟩);exact(E8.app _).hb zz8
 have zJA:∀i,zek (t++ #[y]) i t.size->Nf (t++ #[y]) 0 i:=λi hb=>⟨t.size,y,Er,hg,.inr hb⟩;refine⟨⟨h1.clean,λi a ha hm=>?_,λi g E0 aV hc=>?_,?_,h1.low⟩,h1.above⟩
 .rcases H5 ha with⟨hi,fX⟩|⟨rfl,fX⟩
  .rcases h.all i a fX hm with⟨k,hk,tY⟩|hh|hs
   .have:=Ji k hk;subst this;exact .inl (tY.app _)
   .simp_all
   .exact .inr hs
  .rw[hy] at fX;simp[rY] at fX
 .rcases zf2 E0 hc with⟨hi,hgi',kQ⟩|⟨rfl,hgi'⟩
  .rcases h.over i g hgi' aV kQ with⟨k,hk,tY⟩|hh|⟨j,hj,hb⟩
   .have:=Ji k hk;subst this
    exact⟨t.size,by simp[El,hg],tY.hb_new (bL _) Er hg⟩
   .exact⟨t.size,by simp[El,hg],got i hi hh⟩
   .refine⟨j,?_,hb_app _ hb⟩
    have uW:j<t.size:=by
     unfold El at hj;obtain⟨z,hz,_⟩:=Aa.1 hj;exact zcs hz
    rw[Uv uW];exact hj
  omega
 .rw[Deaf_push];simp[deafStep,hy,hd]
theorem TI.begin (hP:Past Shun B t)(hB:B<=B')(zaG:∀j,n<=j->iI t j=0)(nU:∀j,live j↔j=0)(ho:∀b,own 0 b\/pas 0 b->∀l,nY l b->¬Shun l)
 (hW:B<=Wg):TI Wg n own pas live Shun B' t:=by
 have pB:∀{i:Nat} {a:Touch} {b:Nat},touchAt t i=some a->nY a.loc b->b<B:=λ{i a b} ha hb=>by
  obtain⟨op,ho,Lw⟩:=zfH ha;exact zvH (hP.seen op (zm9 ho)) Lw hb
 refine⟨hP.clean,λk b hk hb i a ha lI=>?_,λk b hk hb i a ha lI hw=>?_,λi a ha lI=>?_,λi a ha hm=>?_,λi g E0 aV hc=>.inr (.inr (hP.over i g E0 aV hc)),λk e=>?_,λop hop=>zsd hB (hP.seen op hop),zaG⟩
 .have:=(nU k).1 hk;subst this
  rcases hP.known i a ha (zaM lI) with x|⟨x,_⟩
  .exact x
  grind
 .have:=(nU k).1 hk;subst this
  rcases hP.known i a ha (zaM lI) with x|⟨x,_⟩
  .exact x
  .grind
 .have:=pB ha lI;omega
 .exact(hP.known i a ha hm).imp (λx=>⟨0,(nU 0).2 rfl,x⟩) λx=>.inr ⟨.inl x.1,x.2⟩
 .obtain⟨op,ho,Lw⟩:=Aa.1 e
  have:=hP.seen op (zm9 ho);rw[Lw] at this;simp only[Zk,stA] at this;omega
end
theorem upd_same {α:Type _}(f:Nat->α)(i:Nat)(x:α):bJ f i x i=x:=by simp[bJ]
theorem upd_ne {α:Type _}(f:Nat->α){j:Nat}(x:α)(h:j≠i):bJ f i x j=f j:=by simp[bJ,h]
section
variable {L:Type}
def Ph.live:Ph L->Prop| .usr _| .w1 _| .w2 _| .w3| .w4| .w5=>True|_=>False
def Ph.waits:Ph L->Prop| .w1 _| .w2 _| .w3| .w4| .w5=>True|_=>False
def Ph.pre:Ph L->Bool| .usr _| .rel _=>true|_=>false
def Ph.last:Ph L->Prop| .l1 _| .l2 _| .l3 _=>True|_=>False
structure Td (L:Type) where
 ph:Ph L
 r:Cp
 τ:cI
 g:bF
def pE (p:Nat->Ph L):Nat->Nat
 |0=>0
 |n+1=>pE p n+(if n≠0/\(p n).pre=true then 1 else 0)
def Ax (A:jN L)(p:Nat->Ph L):Nat:=match p 0 with| .usr l=>if A.pend l then 1 else 0|_=>0
def vv (A:jN L)(p:Nat->Ph L)(n:Nat):Nat:=pE p n+Ax A p
def gP (A:jN L)(ty:aN)(Wg:Nat)(p:Nat->Ph L)(n:Nat)(w:aE):Prop:=
 match p 0 with
 | .usr _=>fU ty Wg w (vv A p n*KK) 0/\∀i,¬(p i).last
 | .w1 b=>fU ty Wg w (vv A p n*KK) 0/\(∀i,¬(p i).last)/\vv A p n<b
 | .w2 vs=>fU ty Wg w (vv A p n*KK) 0/\(∀i,¬(p i).last)/\vv A p n<=vs/\0<vs
 | .w3=>(0<vv A p n/\fU ty Wg w (vv A p n*KK+1) 0/\∀i,¬(p i).last)\/
  (vv A p n=0/\∃i l,(∀j,(p j).last->j=i)/\(((p i=.l1 l\/p i=.l2 l)/\fU ty Wg w 1 0)\/(p i=.l3 l/\fU ty Wg w 0 0)))\/
  (vv A p n=0/\(∀i,¬(p i).last)/\fU ty Wg w 0 1)
 | .w4| .w5=>vv A p n=0/\(∀i,¬(p i).last)/\fU ty Wg w 0 0
 |_=>False
theorem zpj (p:Nat->Ph L){i n:Nat}(x:Ph L)(h:n<=i):pE (bJ p i x) n=pE p n:=by
 induction n with
 |zero=>rfl
 |succ n ih=>simp only[pE,ih aC,upd_ne p x (show n≠i by omega)]
theorem zhn (p:Nat->Ph L)(n:Nat)(x:Ph L):pE (bJ p 0 x) n=pE p n:=by
 induction n with
 |zero=>rfl
 |succ n ih=>
  simp only[pE,ih];by_cases h:n=0
  .simp[h]
  .rw[upd_ne p x h]
theorem zeb (p:Nat->Ph L){i n:Nat}(x:Ph L)(h:i<n)(h0:i≠0):pE (bJ p i x) n+(if(p i).pre=true then 1 else 0)=pE p n+(if x.pre=true then 1 else 0):=by
 induction n with
 |zero=>omega
 |succ n ih=>
  simp only[pE];by_cases hi:i=n
  .subst hi
   rw[zpj p x (bL _),upd_same]
   grind
  .have:=ih aC
   rw[upd_ne p x (show n≠i from λe=>hi e.symm)];omega
theorem pre_le (ph:Ph L)(q:Prop)[Decidable q]:(if q/\ph.pre=true then 1 else 0)<=ph.proj.c:=by
 cases ph<;>simp[Ph.pre,Ph.proj,Pj.c]
 all_goals(split<;>omega)
theorem zAa (A:jN L)(p:Nat->Ph L)(n:Nat)(h:0<n):vv A p n<=num (λi=>(p i).proj) n:=by
 have key:∀n,0<n->pE p n+(p 0).proj.c<=num (λi=>(p i).proj) n:=by
  intro n
  induction n with
  |zero=>omega
  |succ n ih=>
   intro _;by_cases hn:n=0
   .subst hn;simp[pE,num]
   .have:=ih aC
    have h2:=pre_le (p n) (n≠0);simp only[pE,num];omega
 have h1:=key n h;have h2:Ax A p<=(p 0).proj.c:=by
  unfold Ax;cases p 0<;>simp only[Ph.proj,Pj.c]<;>first|omega|(split<;>omega)
 unfold vv;omega
def mI (x g:bF):Prop:=x.status=.running/\x.frame=g.frame/\x.callers=g.callers/\x.dying=g.dying
def mI.self {g:bF}(h:g.status=.running):mI g g:=⟨h,rfl,rfl,rfl⟩
def mI.step {P:bT}{main:Bool}{x g:bF}(h:mI x g)(w:aE):stepG P main x w=stepG P main g w:=stepG_same h.2.1 h.2.2.1 h.2.2.2 w
variable (P:bT)(ty:aN)(Wg:Nat)(A:jN L)(Fin:bF->aE->Prop)
def zga (main:Bool)(T:Td L)(x:bF)(w:aE):Prop:=
 ∃l cs sh,T.ph=.usr l/\x=parked T.g cs sh/\(∀aJ,bX ty Wg T.τ w aJ->stepG P main T.g aJ=.comm T.g cs true sh aJ #[])/\
  ((∃c ok pub nx v z,A.act l=.send c ok pub nx/\cs=#[scase c v z]/\sh=.send)\/(∃c ok nx s z b,A.act l=.recv c ok nx s/\cs=#[rcase c z]/\sh=.recv b))
def zn7 (T:Td L)(x:bF):Prop:=T.ph=.w3/\x={T.g with status:=.blocked}/\T.g.offers=none
def Sits (i:Nat)(T:Td L)(d:Nat)(x:bF)(w:aE):Prop:=
 match T.ph with
 | .gone| .quit _=>∃q,T.r=.inl q/\QuitsD P q d x
 |_=>∃r,T.r=.inr r/\pI P ty Wg A Fin r (i==0) T.ph d T.τ T.g w/\(mI x T.g\/zga P ty Wg A (i==0) T x w\/zn7 T x)
def Ph.leaves:Ph L->Prop| .gone| .quit _=>True|_=>False
theorem Hf {P:bT}{ty:aN}{Wg:Nat}{A:jN L}{Fin:bF->aE->Prop}{i:Nat}{T:Td L}{d:Nat}{x:bF}{w:aE}(h:T.ph.leaves):
 Sits P ty Wg A Fin i T d x w↔∃q,T.r=.inl q/\QuitsD P q d x:=by
 obtain⟨ph,r,τ,g⟩:=T;cases ph<;>first|exact Iff.rfl|exact h.elim
theorem qC {P:bT}{ty:aN}{Wg:Nat}{A:jN L}{Fin:bF->aE->Prop}{i:Nat}{T:Td L}{d:Nat}{x:bF}{w:aE}(h:¬T.ph.leaves):
 Sits P ty Wg A Fin i T d x w↔∃r,T.r=.inr r/\pI P ty Wg A Fin r (i==0) T.ph d T.τ T.g w/\(mI x T.g\/zga P ty Wg A (i==0) T x w\/zn7 T x):=by
 obtain⟨ph,r,τ,g⟩:=T;cases ph<;>first|exact Iff.rfl|exact absurd trivial h
variable {P:bT}{ty:aN}{Wg:Nat}{A:jN L}{Fin:bF->aE->Prop}
theorem zs5 (a a' g:bF)(cs:Array zmi)(sh:N8)(w:aE):woken P a a' w (parked g cs sh)=parked g cs sh\/woken P a a' w (parked g cs sh)={parked g cs sh with status:=.running}:=by
 unfold woken;split
 .unfold zgo
  grind
 .exact .inl rfl
def woken_running {a a' x:bF}{w:aE}(h:x.status=.running):woken P a a' w x=x:=woken_run h
theorem Sits.other {i:Nat}{T:Td L}{d:Nat}{x:bF}{w w':aE}(h:Sits P ty Wg A Fin i T d x w)(s:bX ty Wg T.τ w w')(a a':bF):Sits P ty Wg A Fin i T d (woken P a a' w' x) w':=by
 by_cases hl:T.ph.leaves
 .rw[Hf hl] at h⊢
  obtain⟨q,hq,hQ⟩:=h;exact⟨q,hq,by rw[zkt hQ];exact hQ⟩
 .rw[qC hl] at h⊢
  obtain⟨r,hr,hB,hx⟩:=h;refine⟨r,hr,hB.rely s,?_⟩;rcases hx with hx|⟨l,cs,sh,h1,rfl,h3,h4⟩|⟨h1,rfl,h3⟩
  .rw[woken_running hx.1];exact .inl hx
  .rcases zs5 (P:=P) a a' T.g cs sh w' with e|e
   .rw[e];exact .inr (.inl ⟨l,cs,sh,h1,rfl,λaJ lO=>h3 aJ (s.trans lO),h4⟩)
   .rw[e];exact .inl ⟨rfl,rfl,rfl,rfl⟩
  .unfold woken
   split
   .left
    simp only[zgo,h3];exact⟨rfl,rfl,rfl,rfl⟩
   .exact .inr (.inr ⟨h1,rfl,h3⟩)
theorem Sits.rely {i:Nat}{T:Td L}{d:Nat}{x:bF}{w w':aE}(h:Sits P ty Wg A Fin i T d x w)(s:bX ty Wg T.τ w w'):Sits P ty Wg A Fin i T d x w':=by
 by_cases hl:T.ph.leaves
 .rw[Hf hl] at h⊢;exact h
 .rw[qC hl] at h⊢
  obtain⟨r,hr,hB,hx⟩:=h;refine⟨r,hr,hB.rely s,hx.imp id (Or.imp ?_ id)⟩;rintro⟨l,cs,sh,h1,h2,h3,h4⟩;exact⟨l,cs,sh,h1,h2,λaJ lO=>h3 aJ (s.trans lO),h4⟩
theorem Sits.status {i:Nat}{T:Td L}{d:Nat}{x:bF}{w:aE}(h:Sits P ty Wg A Fin i T d x w):x.status=.running\/x.status=.finished\/x.status=.blocked:=by
 by_cases hl:T.ph.leaves
 .rw[Hf hl] at h
  obtain⟨q,hq,hQ⟩:=h;exact hQ.status.imp id .inl
 .rw[qC hl] at h
  obtain⟨r,hr,hB,hx|⟨l,cs,sh,h1,rfl,h3,h4⟩|⟨h1,rfl,h3⟩⟩:=h
  .exact .inl hx.1
  .exact .inr (.inr rfl)
  simp_all
structure Stat (n:Nat)(w:aE)(T:Nat->Td L)(ch:rU):Prop where
 n0:0<n
 ou:∀i,n<=i->(T i).ph=.gone
 role0:(T 0).ph.live
 role:∀i,i≠0->¬(T i).ph.waits
 nil:∀i,(T i).ph=.gone->∀b,¬(T i).τ.own b/\¬(T i).τ.still b/\¬(T i).τ.pass b
 sep:∀i j b,i≠j->(T i).τ.own b->¬(T j).τ.own b/\¬(T j).τ.still b/\¬(T j).τ.pass b
 bnd:∀i b,(T i).τ.own b\/(T i).τ.still b->b<w.heap.size/\b≠Wg/\ch b=none
 pas:∀i b,(T i).τ.pass b->b<w.heap.size/\b≠Wg
 depo:∀i l,(T i).ph.proj=.over l->∀aJ,bX ty Wg (T i).τ w aJ->A.dep l aJ
 chan:∀c b,ch c=some b->c≠Wg/\∃s r,w.heap[c]? =some (.chan 0 #[] b s r false)
 grp:gP A ty Wg (λi=>(T i).ph) n w
 inv:A.Inv (λi=>(T i).ph.proj) ch
structure Ft (gs:Array bF)(w:aE)(t:mF)(T:Nat->Td L)(ch:rU)(Shun:Loc->Prop):Prop where
 sit:∀(i:Nat) (x:bF),gs[i]? =some x->Sits P ty Wg A Fin i (T i) (iI t i) x w
 slp:∀(i j:Nat) (gi gj:bF) (c:Nat) (v z z':aF) (sh xJ:N8),gs[i]? =some (parked gi #[scase c v z] sh)->gs[j]? =some (parked gj #[rcase c z'] xJ)->False
 slpC:∀(i:Nat) (gi:bF) (c:Nat) (z:aF) (sh:N8),gs[i]? =some (parked gi #[rcase c z] sh)->ch c≠some true
 slpW:∀(x:bF),gs[0]? =some x->(T 0).ph=.w3->x.status=.blocked->¬fU ty Wg w 0 1
 tr:TI Wg gs.size (λi=>(T i).τ.own) (λi b=>(T i).τ.still b\/(T i).τ.pass b) (λi=>(T i).ph.live) Shun w.heap.size t
def Mc (g:bF):Bool:=match g.status with| .running=>true|_=>false
def mu (gs:Array bF)(T:Nat->Td L):Mu:=(gs.size,λj=>if j<gs.size then(T j).r else .inl (gs.countP Mc))
end
section
variable {L:Type}{P:bT}{ty:aN}{Wg:Nat}{A:jN L}{Fin:bF->aE->Prop}
variable {fn:aO}{pos:String}{es:Array o5}
theorem zz3 {g:Nat}{op:Sa}(h:op∈wK g fn pos es):op.g=g:=by
 rw[Z6] at h
 grind
def OkL (Wg:Nat)(own pas:Nat->Prop)(k B:Nat)(e:o5):Prop:=
 (∀a,(jI e).touch? =some a->(∃b,b≠Wg/\nY a.loc b/\(own b\/(pas b/\a.write=false)))\/(nY a.loc Wg/\(a.kind=.atomic\/(a.kind=.said/\k=0)))\/a.loc.isMemory=false)/\
 jI e≠ .mark (.release (stA Wg))/\(jI e).low B
theorem TI.events {n:Nat}{own pas:Nat->Nat->Prop}{live:Nat->Prop}{Shun:Loc->Prop}{B:Nat}{k:Nat}(hk:live k)(tY:k<n)
 (hs:∀k' b,live k'->k'≠k->own k b->¬own k' b/\¬pas k' b) (hp:∀k' b,live k'->k'≠k->pas k b->¬own k' b) (hW:∀k',live k'->¬own k' Wg/\¬pas k' Wg)
 (fn:aO) (pos:String):∀(es:List o5) {t:mF},TI Wg n own pas live Shun B t->(∀e∈es,OkL Wg (own k) (pas k) k B e)->TI Wg n own pas live Shun B (t++wK k fn pos es.toArray)
 |[],t,h,_=>by simpa[wK] using h
 |e::es,t,h,yI=>by
  have e1:t++wK k fn pos (e::es).toArray=(t++ #[{g:=k,fn,pos,act:=.ofEvent e}])++wK k fn pos es.toArray:=by
   rw[Z6,Z6];apply Jb;simp
  rw[e1];obtain⟨h1,h2,h3⟩:=yI e aQ;refine TI.events hk tY hs hp hW fn pos es (h.push hk tY rfl (λa ha=>?_) h2 h3) λe' Np=>yI e' (by simp[Np])
  grind
variable {e:o5}
theorem okL_evT {own still pas:Nat->Prop}{k B:Nat}(h:EvT Wg (k==0) own still e)(It:∀b,still b->pas b)(hb:∀b,own b\/still b->b<B/\b≠Wg)(hW:Wg<B):OkL Wg own pas k B e:=by
 obtain⟨loc,w,sy⟩:=e
 cases loc with
 |cell a=>
  simp only[EvT] at h;refine⟨λx hx=>?_,by simp[jI],?_⟩
  .simp only[jI,rY,jS] at hx
   subst hx;exact .inl ⟨a.block,(hb _ (h.imp id (·.1))).2,rfl,h.imp id λx=>⟨It _ x.1,x.2⟩⟩
  .exact(hb _ (h.imp id (·.1))).1
 |obj r=>
  simp only[EvT] at h
  cases w<;>cases sy<;>refine⟨λx hx=>?_,by simp[jI],(hb _ (h.imp id (·.1))).1⟩<;>simp only[jI,rY,jS,reduceCtorEq] at hx<;>
   (subst hx;exact .inl ⟨r,(hb _ (h.imp id (·.1))).2,rfl,h.imp id λx=>⟨It _ x.1,x.2⟩⟩)
 |output=>exact h.elim
 |goroutines=>exact h.elim
 |mark m=>
  cases m<;>simp only[EvT] at h<;>try exact h.elim
  case read a=>
   refine⟨λx hx=>?_,by simp[jI],by simpa[jI,Zk,h.2] using hW⟩;simp only[jI,rY,jS] at hx;subst hx;exact .inr (.inl ⟨h.2,.inr ⟨rfl,by simpa using h.1⟩⟩)
  case write a=>
   refine⟨λx hx=>?_,by simp[jI],by simpa[jI,Zk,h.2] using hW⟩;simp only[jI,rY,jS] at hx;subst hx;exact .inr (.inl ⟨h.2,.inr ⟨rfl,by simpa using h.1⟩⟩)
  all_goals exact⟨λx hx=>by simp[jI,rY] at hx,by simp[jI],by simp[jI,Zk]⟩
theorem zf7 {own pas:Nat->Prop}{k B:Nat}{a:bC}{b:Bool}(ha:a.block=Wg)(hW:Wg<B):OkL Wg own pas k B ⟨.cell a,b,true⟩:=by
 refine⟨λx hx=>?_,by simp[jI],by simpa[jI,Zk,Loc.low,ha] using hW⟩;simp only[jI,rY,jS] at hx;subst hx;exact .inr (.inl ⟨ha,.inl rfl⟩)
theorem zgw {own pas:Nat->Prop}{k B:Nat}(h:e.mute=true):OkL Wg own pas k B e:=by
 refine⟨λx hx=>(by rw[zlm h] at hx;cases hx),?_,low_mute h B⟩;obtain⟨loc,w,sy⟩:=e;cases loc<;>simp_all [zev];rename_i m;cases m<;>simp_all [jI]
theorem TI.deafs {n:Nat}{own pas:Nat->Nat->Prop}{live:Nat->Prop}{Shun:Loc->Prop}{B:Nat}{k:Nat}(tY:k<n)(hW:∀k',live k'->¬own k' Wg/\¬pas k' Wg)
 (fn:aO) (pos:String):∀(es:List o5) {t:mF},TI Wg n own pas live Shun B t->
  (∀(l r:List o5) (e:o5),es=l++e::r->(∀a,(jI e).touch? =some a->nY a.loc Wg/\a.kind=.atomic/\0<oR (iI t k) l.toArray)/\jI e≠ .mark (.release (stA Wg))/\(jI e).low B)->
  TI Wg n own pas live Shun B (t++wK k fn pos es.toArray)
 |[],t,h,_=>by simpa[wK] using h
 |e::es,t,h,yI=>by
  have e1:t++wK k fn pos (e::es).toArray=(t++ #[{g:=k,fn,pos,act:=.ofEvent e}])++wK k fn pos es.toArray:=by
   rw[Z6,Z6];apply Jb;simp
  rw[e1];obtain⟨h1,h2,h3⟩:=yI [] es e rfl;refine TI.deafs tY hW fn pos es (h.idle tY (λa ha=>⟨(h1 a ha).1,(h1 a ha).2.1,(h1 a ha).2.2,hW⟩) h2 h3) λl r e' Np=>?_;have hd:iI (t++ #[({g:=k,fn,pos,act:=.ofEvent e}:Sa)]) k=oR (iI t k) #[e]:=by
   have:=Deaf_own t k fn pos #[e];rw[Z6] at this;simpa using this
  have:=yI (e::l) r e' (by rw[Np];rfl);rw[hd];refine⟨λa ha=>⟨(this.1 a ha).1,(this.1 a ha).2.1,?_⟩,this.2⟩;have h5:=(this.1 a ha).2.2
  rwa [zqu] at h5
variable {t:mF}
theorem TI.mutes {n:Nat}{own pas:Nat->Nat->Prop}{live:Nat->Prop}{Shun:Loc->Prop}{B:Nat}{k:Nat}(h:TI Wg n own pas live Shun B t)(tY:k<n)(hW:∀k',live k'->¬own k' Wg/\¬pas k' Wg)
 (fn:aO) (pos:String)  (yI:∀e∈es,zev e=true):TI Wg n own pas live Shun B (t++wK k fn pos es):=by
 obtain⟨l⟩:=es;refine h.deafs tY hW fn pos l λx r e he=>?_;have hm:=yI e (by simp[he]);have:=zgw (Wg:=Wg) (own:=own k) (pas:=pas k) (k:=k) (B:=B) hm;exact⟨λa ha=>(by rw[zlm hm] at ha;cases ha),this.2.1,this.2.2⟩
theorem Zp {gs gs':Array bF}{T T':Nat->Td L}{i:Nat}(hs:i≠0->gs'.size=gs.size)(h0:0<gs'.size)(hi:i<gs.size)(kN:i<gs'.size)(hc:Cl (T' i).r (T i).r)(he:∀j,j<i->(T' j).r=(T j).r):Mu.lt (mu gs' T') (mu gs T):=by
 refine⟨i,by simp only[mu];omega,?_,λj hj=>?_,λh=>by simpa[mu] using hs h⟩
 .simp only[mu,if_pos hi,if_pos kN];exact hc
 .simp only[mu,if_pos (show j<gs.size by omega),if_pos (show j<gs'.size by omega)];exact he j hj
theorem mu_dec' {gs gs':Array bF}{T:Nat->Td L}(hs:gs'.size=gs.size)(hc:gs'.countP Mc<gs.countP Mc):Mu.lt (mu gs' T) (mu gs T):=by
 refine⟨gs.size,by simp[mu],?_,λj hj=>?_,λh=>by simpa[mu] using hs⟩
 .simp only[mu,hs,Jk,if_false]
  exact .inl hc
 .simp only[mu,hs,if_pos hj]
theorem Ft.go {gs:Array bF}{w w':aE}{T:Nat->Td L}{ch wF:rU}{Shun:Loc->Prop}(h:Ft (P:=P) (ty:=ty) (Wg:=Wg) (A:=A) (Fin:=Fin) gs w t T ch Shun){i:Nat}{x g':bF}{Ti:Td L}
 (hi:gs[i]? =some x) (zkK:Sits P ty Wg A Fin i Ti (oR (iI t i) es) g' w') (oF:g'.status≠ .blocked) (zjz:∀j,j≠i->bX ty Wg (T j).τ w w')
 (hC:∀(j:Nat) (gj:bF) (c:Nat) (z:aF) (sh:N8),gs[j]? =some (parked gj #[rcase c z] sh)->woken P x g' w' (parked gj #[rcase c z] sh)=parked gj #[rcase c z] sh->wF c≠some true)
 (hW:i≠0->∀x0,gs[0]? =some x0->(T 0).ph=.w3->x0.status=.blocked->(woken P x g' w' x0).status=.blocked->¬fU ty Wg w' 0 1)
 (zlJ:TI Wg gs.size (λk=>(bJ T i Ti k).τ.own) (λk b=>(bJ T i Ti k).τ.still b\/(bJ T i Ti k).τ.pass b) (λk=>(bJ T i Ti k).ph.live) Shun w'.heap.size (t++wK i fn pos es)):
 Ft (P:=P) (ty:=ty) (Wg:=Wg) (A:=A) (Fin:=Fin) ((gs.map (woken P x g' w')).setIfInBounds i g') w' (t++wK i fn pos es) (bJ T i Ti) wF Shun:=by
 have aU:i<gs.size:=(dR.1 hi).1;have get:∀(j:Nat) (y:bF),((gs.map (woken P x g' w')).setIfInBounds i g')[j]? =some y->(j=i/\y=g')\/(j≠i/\∃y0,gs[j]? =some y0/\y=woken P x g' w' y0):=by
  intro j y hj;by_cases fF:i=j
  .simp_all
  .grind
 have back:∀(j:Nat) (gj:bF) (cs:Array zmi) (sh:N8),((gs.map (woken P x g' w')).setIfInBounds i g')[j]? =some (parked gj cs sh)->gs[j]? =some (parked gj cs sh)/\woken P x g' w' (parked gj cs sh)=parked gj cs sh:=by
  intro j gj cs sh hj;rcases get j _ hj with⟨_,e⟩|⟨aV,y0,h0,e⟩
  .exact absurd (by rw[<-e];rfl) oF
  .have hs:=h.sit j y0 h0
   by_cases hl:(T j).ph.leaves
   .rw[Hf hl] at hs
    obtain⟨q,_,hQ⟩:=hs;rw[zkt hQ] at e
    grind
   .rw[qC hl] at hs
    obtain⟨r,_,_,hx|⟨l,U2,xJ,_,rfl,_,_⟩|⟨_,rfl,ho⟩⟩:=hs
    .rw[woken_running hx.1] at e
     grind
    .rcases zs5 (P:=P) x g' (T j).g U2 xJ w' with e2|e2
     .simp_all
     .rw[e2] at e
      have:(parked gj cs sh).status=.running:=by rw[e]
      simp[parked] at this
    .have:(parked gj cs sh).offers=none:=by
      rw[e];unfold woken;split
      .simp[zgo,ho]
      .exact ho
     simp[parked] at this
 refine⟨λj y hj=>?_,λa b ga gb c v z z' sh xJ ha hb=>?_,λj gj c z sh hj=>?_,λy hy x7 aY=>?_,by simpa using zlJ⟩
 .rcases get j y hj with⟨rfl,rfl⟩|⟨aV,y0,h0,rfl⟩
  .rw[upd_same,Deaf_own];exact zkK
  .rw[upd_ne T Ti aV,Of t (g':=i) (λe=>aV e.symm) (wK i fn pos es) (λop hop=>zz3 hop)]
   exact(h.sit j y0 h0).other (zjz j aV) _ _
 .exact h.slp a b ga gb c v z z' sh xJ (back a ga _ _ ha).1 (back b gb _ _ hb).1
 .grind
 .rcases get 0 y hy with⟨e,rfl⟩|⟨aV,y0,h0,rfl⟩
  .exact absurd aY oF
  .rw[upd_ne T Ti aV] at x7
   have hb:y0.status=.blocked:=by
    rcases(h.sit 0 y0 h0).status with hs|hs|hs
    .rw[woken_running hs,hs] at aY;cases aY
    .unfold woken at aY
     split at aY
     .rw[again_running _ (.inr hs),hs] at aY;cases aY
     omega
    .exact hs
   grind
end
section
variable {L:Type}{P:bT}{ty:aN}{Wg:Nat}{A:jN L}{Fin:bF->aE->Prop}
theorem bX.of_aside {τ:cI}{c:Nat}{w w':aE}(h:K7 c w w')(hc:¬τ.own c/\¬τ.still c)(hl:WgLive ty Wg w->WgLive ty Wg w'):bX ty Wg τ w w':=
 ⟨h.tape,h.os,h.output,Nat.le_of_eq h.size.symm,λb hb=>h.block b (λe=>by subst e;exact hb.elim hc.1 hc.2),hl⟩
def Wy {c:Nat}{w w':aE}(h:K7 c w w')(hc:c≠Wg):WgLive ty Wg w->WgLive ty Wg w':=λ⟨a,b,x⟩=>⟨a,b,(h.block Wg (λe=>hc e.symm)).trans x⟩
theorem gP.live {p:Nat->Ph L}{n:Nat}{w:aE}(h:gP A ty Wg p n w):WgLive ty Wg w:=by
 unfold gP at h;split at h
 .exact⟨_,_,h.1⟩
 .exact⟨_,_,h.1⟩
 .exact⟨_,_,h.1⟩
 .rcases h with⟨_,h,_⟩|⟨_,_,_,_,⟨_,h⟩|⟨_,h⟩⟩|⟨_,_,h⟩<;>exact⟨_,_,h⟩
 .exact⟨_,_,h.2.2⟩
 .exact⟨_,_,h.2.2⟩
 .exact h.elim
theorem WgLive.lt {w:aE}(h:WgLive ty Wg w):Wg<w.heap.size:=by
 obtain⟨_,_,h⟩:=h;exact(dR.1 h).1
theorem gP.of_block {p:Nat->Ph L}{n:Nat}{w w':aE}(h:gP A ty Wg p n w)(e:w'.heap[Wg]? =w.heap[Wg]?):gP A ty Wg p n w':=by
 have key:∀a b,fU ty Wg w a b->fU ty Wg w' a b:=λa b x=>e.trans x;unfold gP at*;split
 all_goals(rename_i hp;simp only[hp] at h)
 .simp_all
 .simp_all
 .exact⟨key _ _ h.1,h.2⟩
 .exact h.imp (λx=>⟨x.1,key _ _ x.2.1,x.2.2⟩) (Or.imp (λ⟨a,i,l,b,c⟩=>⟨a,i,l,b,c.imp (λx=>⟨x.1,key _ _ x.2⟩) (λx=>⟨x.1,key _ _ x.2⟩)⟩) λx=>⟨x.1,x.2.1,key _ _ x.2.2⟩)
 .simp_all
 simp_all
theorem zad (T:Nat->Td L)(i:Nat)(Ti:Td L):(λj=>(bJ T i Ti j).ph.proj)=bJ (λj=>(T j).ph.proj) i Ti.ph.proj:=by
 funext j;by_cases h:j=i
 .subst h;simp[upd_same]
 .simp[upd_ne _ _ h]
theorem X8 (T:Nat->Td L)(i:Nat)(Ti:Td L):(λj=>(bJ T i Ti j).ph)=bJ (λj=>(T j).ph) i Ti.ph:=by
 funext j;by_cases h:j=i
 .subst h;simp[upd_same]
 .simp[upd_ne _ _ h]
theorem zeT {α:Type _}(f:Nat->α)(i:Nat):bJ f i (f i)=f:=by
 funext j;by_cases h:j=i
 .subst h;simp[upd_same]
 .simp[upd_ne _ _ h]
variable {ch:rU}
theorem Stat.same {n:Nat}{w:aE}{T T':Nat->Td L}(h:Stat (ty:=ty) (Wg:=Wg) (A:=A) n w T ch)(hp:∀j,(T' j).ph=(T j).ph)(ht:∀j,(T' j).τ=(T j).τ):Stat (ty:=ty) (Wg:=Wg) (A:=A) n w T' ch:=by
 have e1:(λj=>(T' j).ph)=λj=>(T j).ph:=funext hp;have e2:(λj=>(T' j).ph.proj)=λj=>(T j).ph.proj:=funext λj=>by rw[hp]
 refine⟨h.n0,λi hi=>(hp i).trans (h.ou i hi),by rw[hp];exact h.role0,λi hi=>by rw[hp];exact h.role i hi,λi hi=>by rw[ht];rw[hp] at hi;exact h.nil i hi,λi j b s7 hb=>by rw[ht] at hb⊢;exact h.sep i j b s7 hb,
  λi b hb=>by rw[ht] at hb;exact h.bnd i b hb,λi b hb=>by rw[ht] at hb;exact h.pas i b hb,λi l hi=>by rw[ht];rw[hp] at hi;exact h.depo i l hi,h.chan,by rw[e1];exact h.grp,by rw[e2];exact h.inv⟩
theorem Stat.suf {n:Nat}{w w':aE}{T:Nat->Td L}(h:Stat (ty:=ty) (Wg:=Wg) (A:=A) n w T ch){i:Nat}(g:Aw (T i).τ.own w w'){j:Nat}(hj:j≠i):bX ty Wg (T j).τ w w':=by
 have hl:WgLive ty Wg w->WgLive ty Wg w':=λx=>by
  obtain⟨a,b,hx⟩:=id x;exact⟨a,b,(g.keep Wg x.lt λe=>((h.bnd i Wg (.inl e)).2.1 rfl)).trans hx⟩
 refine⟨g.tape,g.os,g.output,g.size,λb hb=>g.keep b (h.bnd j b hb).1 λe=>?_,hl⟩;have:=h.sep i j b (λe=>hj e.symm) e;simp_all
theorem Stat.grow {n:Nat}{w w':aE}{T:Nat->Td L}(h:Stat (ty:=ty) (Wg:=Wg) (A:=A) n w T ch){i:Nat}(nU:(T i).ph.live)(g:Aw (T i).τ.own w w')(r:Cp)(g':bF):
 Stat (ty:=ty) (Wg:=Wg) (A:=A) n w' (bJ T i ⟨(T i).ph,r,(T i).τ.grow w w',g'⟩) ch:=by
 have hp:∀j,(bJ T i ⟨(T i).ph,r,(T i).τ.grow w w',g'⟩ j).ph=(T j).ph:=λj=>by
  by_cases hj:j=i
  .subst hj;simp[upd_same]
  .simp[upd_ne _ _ hj]
 have e1:(λj=>(bJ T i ⟨(T i).ph,r,(T i).τ.grow w w',g'⟩ j).ph)=λj=>(T j).ph:=funext hp;have e2:(λj=>(bJ T i ⟨(T i).ph,r,(T i).τ.grow w w',g'⟩ j).ph.proj)=λj=>(T j).ph.proj:=funext λj=>by rw[hp]
 have hs:=g.size;have zkV:w'.heap[Wg]? =w.heap[Wg]? :=g.keep Wg h.grp.live.lt λe=>((h.bnd i Wg (.inl e)).2.1 rfl);have zFU:∀c b,ch c=some b->c<w.heap.size:=λc b hc=>by
  obtain⟨_,s,r,hh⟩:=h.chan c b hc
  grind
 refine⟨h.n0,λj hj=>(hp j).trans (h.ou j hj),by rw[hp];exact h.role0,λj hj=>by rw[hp];exact h.role j hj,λj hj b=>?_,λa j b s7 hb=>?_,λj b hb=>?_,λj b hb=>?_,λj l hj=>?_,λc b hc=>?_,by rw[e1];exact h.grp.of_block zkV,by rw[e2];exact h.inv⟩
 .rw[hp] at hj
  by_cases fF:j=i
  .subst fF;rw[hj] at nU;exact nU.elim
  .rw[upd_ne _ _ fF];exact h.nil j hj b
 .by_cases Tw:a=i
  .subst Tw
   have fF:j≠a:=λe=>s7 e.symm;rw[upd_same] at hb;rw[upd_ne _ _ fF];rcases hb with hb|⟨hb,_⟩
   .exact h.sep a j b s7 hb
   .exact⟨λe=>by have:=(h.bnd j b (.inl e)).1;omega,λe=>by have:=(h.bnd j b (.inr e)).1;omega,λe=>by have:=(h.pas j b e).1;omega⟩
  .rw[upd_ne _ _ Tw] at hb
   by_cases fF:j=i
   .subst fF
    rw[upd_same];have:=h.sep a j b s7 hb;exact⟨λe=>e.elim this.1 λx=>by have:=(h.bnd a b (.inl hb)).1;omega,this.2⟩
   .rw[upd_ne _ _ fF];exact h.sep a j b s7 hb
 .by_cases fF:j=i
  .subst fF
   rw[upd_same] at hb;rcases hb with(hb|⟨hb,b9⟩)|hb
   .have:=h.bnd j b (.inl hb);grind
   .refine⟨b9,λe=>by simp_all,?_⟩
    cases hc:ch b with
    |none=>rfl
    |some x=>grind
   .have:=h.bnd j b (.inr hb);grind
  .rw[upd_ne _ _ fF] at hb
   have:=h.bnd j b hb;grind
 .by_cases fF:j=i
  .subst fF
   rw[upd_same] at hb;have:=h.pas j b hb;omega
  .rw[upd_ne _ _ fF] at hb
   have:=h.pas j b hb;omega
 .rw[hp] at hj
  by_cases fF:j=i
  .subst fF
   cases x7:(T j).ph<;>rw[x7] at hj nU<;>first|exact nU.elim|simp[Ph.proj] at hj
  .rw[upd_ne _ _ fF]
   exact λaJ lO=>h.depo j l hj aJ ((h.suf g fF).trans lO)
 .obtain⟨h1,s,r,h2⟩:=h.chan c b hc
  exact⟨h1,s,r,(g.keep c (zFU c b hc) λe=>by have:=(h.bnd i c (.inl e)).2.2;rw[hc] at this;cases this).trans h2⟩
theorem Stat.phase {n:Nat}{w w':aE}{T:Nat->Td L}(h:Stat (ty:=ty) (Wg:=Wg) (A:=A) n w T ch){i:Nat}(hg:(T i).ph≠ .gone)(oK:i<n)(a:K7 Wg w w')(ph':Ph L)(r:Cp)(g':bF)
 (x7:ph'≠ .gone) (h0:i=0->ph'.live) (h1:i≠0->¬ph'.waits) (hl:WgLive ty Wg w->WgLive ty Wg w')
 (hd:∀l,ph'.proj=.over l->(T i).ph.proj=.over l\/∀aJ,bX ty Wg (T i).τ w aJ->A.dep l aJ)
 (B8:gP A ty Wg (bJ (λj=>(T j).ph) i ph') n w') (hinv:A.Inv (bJ (λj=>(T j).ph.proj) i ph'.proj) ch):
 Stat (ty:=ty) (Wg:=Wg) (A:=A) n w' (bJ T i ⟨ph',r,(T i).τ,g'⟩) ch:=by
 have ht:∀j,(bJ T i ⟨ph',r,(T i).τ,g'⟩ j).τ=(T j).τ:=λj=>by
  by_cases hj:j=i
  .subst hj;simp[upd_same]
  .simp[upd_ne _ _ hj]
 have sf:∀j,bX ty Wg (T j).τ w w':=λj=>bX.of_aside a ⟨λe=>(h.bnd j Wg (.inl e)).2.1 rfl,λe=>(h.bnd j Wg (.inr e)).2.1 rfl⟩ hl;have cK:=a.size;refine⟨h.n0,λj hj=>?_,?_,λj hj=>?_,λj hj b=>?_,λx j b s7 hb=>?_,λj b hb=>?_,λj b hb=>?_,λj l hj=>?_,λc b hc=>?_,by rw[X8];exact B8,by rw[zad];exact hinv⟩
 .have:j≠i:=aC
  rw[upd_ne _ _ this];exact h.ou j hj
 .by_cases hi:i=0
  .subst hi;rw[upd_same];exact h0 rfl
  .rw[upd_ne _ _ (Ne.symm hi)];exact h.role0
 .by_cases fF:j=i
  .subst fF;rw[upd_same];exact h1 hj
  .rw[upd_ne _ _ fF];exact h.role j hj
 .rw[ht]
  by_cases fF:j=i
  .subst fF;rw[upd_same] at hj;exact absurd hj x7
  .rw[upd_ne _ _ fF] at hj;exact h.nil j hj b
 .rw[ht] at hb⊢;exact h.sep x j b s7 hb
 .rw[ht] at hb;have:=h.bnd j b hb;exact⟨aC,this.2⟩
 .rw[ht] at hb;have:=h.pas j b hb;exact⟨aC,this.2⟩
 .rw[ht]
  by_cases fF:j=i
  .subst fF
   rw[upd_same] at hj;rcases hd l hj with x|x
   .exact λaJ lO=>h.depo j l x aJ ((sf j).trans lO)
   .exact λaJ lO=>x aJ ((sf j).trans lO)
  .rw[upd_ne _ _ fF] at hj
   exact λaJ lO=>h.depo j l hj aJ ((sf j).trans lO)
 .obtain⟨h1,s,r,h2⟩:=h.chan c b hc
  exact⟨h1,s,r,(a.block c h1).trans h2⟩
theorem Stat.close {n:Nat}{w w':aE}{T:Nat->Td L}(h:Stat (ty:=ty) (Wg:=Wg) (A:=A) n w T ch){i:Nat}(oK:i<n){c:Nat}{x:Bool}(hc:ch c=some x)(a:K7 c w w'){l l':L}(hl:(T i).ph=.usr l)(r:Cp)(g':bF)
 (lX:∃s r,w'.heap[c]? =some (.chan 0 #[] true s r false)) (B8:gP A ty Wg (bJ (λj=>(T j).ph) i (.usr l')) n w) (hinv:A.Inv (bJ (λj=>(T j).ph.proj) i (.run l')) (bJ ch c (some true))):
 Stat (ty:=ty) (Wg:=Wg) (A:=A) n w' (bJ T i ⟨.usr l',r,(T i).τ,g'⟩) (bJ ch c (some true)):=by
 have ht:∀j,(bJ T i ⟨.usr l',r,(T i).τ,g'⟩ j).τ=(T j).τ:=λj=>by
  by_cases hj:j=i
  .subst hj;simp[upd_same]
  .simp[upd_ne _ _ hj]
 have Av:=(h.chan c x hc).1;have nc:∀j,¬(T j).τ.own c/\¬(T j).τ.still c:=λj=>⟨λe=>(by have:=(h.bnd j c (.inl e)).2.2;rw[hc] at this;cases this),λe=>(by have:=(h.bnd j c (.inr e)).2.2;rw[hc] at this;cases this)⟩;have sf:∀j,bX ty Wg (T j).τ w w':=λj=>bX.of_aside a (nc j) (Wy a Av);have cK:=a.size;refine⟨h.n0,λj hj=>?_,?_,λj hj=>?_,λj hj b=>?_,λx j b s7 hb=>?_,λj b hb=>?_,λj b hb=>?_,λj l hj=>?_,λc' b kQ=>?_,by rw[X8];exact B8.of_block (a.block Wg (Ne.symm Av)),by rw[zad];exact hinv⟩
 .have:j≠i:=aC
  rw[upd_ne _ _ this];exact h.ou j hj
 .by_cases hi:i=0
  .subst hi;rw[upd_same];trivial
  .rw[upd_ne _ _ (Ne.symm hi)];exact h.role0
 .by_cases fF:j=i
  .subst fF;rw[upd_same];exact id
  .rw[upd_ne _ _ fF];exact h.role j hj
 .rw[ht]
  by_cases fF:j=i
  .subst fF;rw[upd_same] at hj;cases hj
  .rw[upd_ne _ _ fF] at hj;exact h.nil j hj b
 .rw[ht] at hb⊢;exact h.sep x j b s7 hb
 .rw[ht] at hb
  have:=h.bnd j b hb;refine⟨aC,this.2.1,?_⟩;have aV:b≠c:=λe=>by subst e;exact hb.elim (nc j).1 (nc j).2
  rw[upd_ne _ _ aV];exact this.2.2
 .rw[ht] at hb;have:=h.pas j b hb;exact⟨aC,this.2⟩
 .rw[ht]
  by_cases fF:j=i
  .subst fF;rw[upd_same] at hj;simp[Ph.proj] at hj
  .rw[upd_ne _ _ fF] at hj
   exact λaJ lO=>h.depo j l hj aJ ((sf j).trans lO)
 .by_cases tX:c'=c
  .subst tX
   rw[upd_same] at kQ;obtain⟨s,r,hw⟩:=lX;exact⟨Av,s,r,by rw[hw,<-cH kQ]⟩
  .rw[upd_ne _ _ tX] at kQ
   obtain⟨h1,s,r,h2⟩:=h.chan c' b kQ;exact⟨h1,s,r,(a.block c' tX).trans h2⟩
end
section
variable {L:Type}{P:bT}{ty:aN}{Wg:Nat}{A:jN L}{Fin:bF->aE->Prop}
theorem gP.congr {p p':Nat->Ph L}{n n':Nat}{w:aE}(h:gP A ty Wg p n w)(h0:p' 0=p 0\/∃l l',p 0=.usr l/\p' 0=.usr l')(hv:vv A p' n'=vv A p n)(hl:∀j,(p j).last\/(p' j).last->p' j=p j):gP A ty Wg p' n' w:=by
 have nl:(∀i,¬(p i).last)->∀i,¬(p' i).last:=λx i e=>x i tL;unfold gP at*;rcases h0 with h0|⟨l,l',h0,zJ2⟩
 .rw[h0,hv]
  split
  all_goals(rename_i hp;simp only[hp] at h)
  .exact⟨h.1,nl h.2⟩
  .simp_all
  .simp_all
  .rcases h with⟨a,b,c⟩|⟨a,i,l,b,c⟩|⟨a,b,c⟩
   .exact .inl ⟨a,b,nl c⟩
   .have hi:(p i).last:=by rcases c with⟨c|c,_⟩|⟨c,_⟩<;>rw[c]<;>trivial
    have e:=hl i (.inl hi);refine .inr (.inl ⟨a,i,l,λj hj=>b j tL,?_⟩);rw[e];exact c
   simp_all
  .simp_all
  simp_all
 .simp_all
theorem zff (A:jN L)(p:Nat->Ph L){i:Nat}(h:i≠0)(x:Ph L):Ax A (bJ p i x)=Ax A p:=by
 unfold Ax;rw[upd_ne _ _ (Ne.symm h)]
theorem gP.usr {p:Nat->Ph L}{n:Nat}{w:aE}(h:gP A ty Wg p n w){i:Nat}{l l':L}(hi:p i=.usr l)(oK:i<n)(zng:A.pend l'=A.pend l):gP A ty Wg (bJ p i (.usr l')) n w:=by
 refine h.congr ?_ ?_ λj hj=>?_
 .by_cases h0:i=0
  .subst h0;exact .inr ⟨l,l',hi,upd_same _ _ _⟩
  .exact .inl (upd_ne _ _ (Ne.symm h0))
 .unfold vv
  by_cases h0:i=0
  .subst h0
   rw[zhn];unfold Ax;rw[upd_same,hi];simp only[zng]
  .rw[zff A p h0]
   have:=zeb p (i:=i) (n:=n) (.usr l') oK h0;rw[hi] at this;simp only[Ph.pre,if_true] at this;omega
 .by_cases fF:j=i
  .subst fF;rw[upd_same,hi] at hj;exact(hj.elim id id).elim
  .exact upd_ne _ _ fF
variable {ch:rU}
theorem ze7 {l:List Nat}{a:Nat}(h:a∈l):ch.opn l a=some false:=by simp[rU.opn,h]
theorem Zj {l:List Nat}{a:Nat}(h:a∉l):ch.opn l a=ch a:=by simp[rU.opn,h]
theorem Stat.meet {n:Nat}{w w':aE}{T:Nat->Td L}(h:Stat (ty:=ty) (Wg:=Wg) (A:=A) n w T ch){i j:Nat}(s7:i≠j)(oK:i<n)(Ru:j<n){c:Nat}(hc:ch c=some false)(a:K7 c w w'){li li' lj lj':L}
 (hi:(T i).ph=.usr li) (hj:(T j).ph=.usr lj) (ri rj:Cp) (gi gj:bF) (τ':cI) (pub:List Nat)
 (ho:∀b,τ'.own b->(T i).τ.own b) (aY:τ'.still=(T i).τ.still) (Su:∀b,τ'.pass b->(T i).τ.pass b\/(T i).τ.own b)
 (G5:∀a∈pub,(T i).τ.own a/\¬τ'.own a/\¬τ'.still a/\I8 w a) (lX:∃s r,w'.heap[c]? =some (.chan 0 #[] false s r false))
 (zal:A.pend li'=A.pend li) (Ll:A.pend lj'=A.pend lj) (hinv:A.Inv (bJ (bJ (λk=>(T k).ph.proj) i (.run li')) j (.run lj')) (ch.opn pub)):
 Stat (ty:=ty) (Wg:=Wg) (A:=A) n w' (bJ (bJ T i ⟨.usr li',ri,τ',gi⟩) j ⟨.usr lj',rj,(T j).τ,gj⟩) (ch.opn pub):=by
 have Av:=(h.chan c _ hc).1;have zkV:=a.block Wg (Ne.symm Av);have cK:=a.size;have nc:∀k,¬(T k).τ.own c/\¬(T k).τ.still c:=λk=>⟨λe=>(by have:=(h.bnd k c (.inl e)).2.2;rw[hc] at this;cases this),λe=>(by have:=(h.bnd k c (.inr e)).2.2;rw[hc] at this;cases this)⟩;have sf:∀k,bX ty Wg (T k).τ w w':=λk=>bX.of_aside a (nc k) (Wy a Av)
 let U:=bJ (bJ T i ⟨.usr li',ri,τ',gi⟩) j ⟨.usr lj',rj,(T j).τ,gj⟩
 have ui:U i=⟨.usr li',ri,τ',gi⟩:=by simp only[U];rw[upd_ne _ _ s7,upd_same]
 have uj:U j=⟨.usr lj',rj,(T j).τ,gj⟩:=by simp only[U];rw[upd_same]
 have uk:∀k,k≠i->k≠j->U k=T k:=λk h1 h2=>by simp only[U];rw[upd_ne _ _ h2,upd_ne _ _ h1]
 have own:∀k b,(U k).τ.own b->(T k).τ.own b:=λk b hb=>by
  by_cases k1:k=i
  .subst k1;rw[ui] at hb;exact ho b hb
  .by_cases k2:k=j
   .subst k2;rw[uj] at hb;exact hb
   .rw[uk k k1 k2] at hb;exact hb
 have still:∀k,(U k).τ.still=(T k).τ.still:=λk=>by
  by_cases k1:k=i
  .subst k1;rw[ui];exact aY
  .by_cases k2:k=j
   .subst k2;rw[uj]
   .rw[uk k k1 k2]
 have pass:∀k b,(U k).τ.pass b->(T k).τ.pass b\/(T k).τ.own b:=λk b hb=>by
  by_cases k1:k=i
  .subst k1;rw[ui] at hb;exact Su b hb
  .by_cases k2:k=j
   .subst k2;rw[uj] at hb;exact .inl hb
   .rw[uk k k1 k2] at hb;exact .inl hb
 have zlH:(λk=>(U k).ph)=bJ (bJ (λk=>(T k).ph) i (.usr li')) j (.usr lj'):=by simp only[U];rw[X8,X8]
 have ziz:(λk=>(U k).ph.proj)=bJ (bJ (λk=>(T k).ph.proj) i (.run li')) j (.run lj'):=by simp only[U];rw[zad,zad];rfl
 have hp:∀k,(U k).ph=(T k).ph\/(∃l,(U k).ph=.usr l):=λk=>by
  by_cases k1:k=i
  .subst k1;rw[ui];exact .inr ⟨_,rfl⟩
  .by_cases k2:k=j
   .subst k2;rw[uj];exact .inr ⟨_,rfl⟩
   .rw[uk k k1 k2];exact .inl rfl
 refine⟨h.n0,λk hk=>?_,?_,λk hk=>?_,λk hk b=>?_,λx k b fG hb=>?_,λk b hb=>?_,λk b hb=>?_,λk l hk=>?_,λc' b kQ=>?_,?_,?_⟩
 .show(U k).ph=_
  rw[uk k aC aC];exact h.ou k hk
 .rcases hp 0 with e|⟨l,e⟩
  .rw[show(bJ (bJ T i ⟨.usr li',ri,τ',gi⟩) j ⟨.usr lj',rj,(T j).τ,gj⟩ 0).ph=(T 0).ph from e];exact h.role0
  .rw[show(bJ (bJ T i ⟨.usr li',ri,τ',gi⟩) j ⟨.usr lj',rj,(T j).τ,gj⟩ 0).ph=.usr l from e];trivial
 .rcases hp k with e|⟨l,e⟩
  .rw[show(bJ (bJ T i ⟨.usr li',ri,τ',gi⟩) j ⟨.usr lj',rj,(T j).τ,gj⟩ k).ph=(T k).ph from e];exact h.role k hk
  .rw[show(bJ (bJ T i ⟨.usr li',ri,τ',gi⟩) j ⟨.usr lj',rj,(T j).τ,gj⟩ k).ph=.usr l from e];exact id
 .have k1:k≠i:=λe=>by subst e;rw[show(bJ (bJ T k ⟨.usr li',ri,τ',gi⟩) j ⟨.usr lj',rj,(T j).τ,gj⟩ k)=_ from ui] at hk;cases hk
  have k2:k≠j:=λe=>by subst e;rw[show(bJ (bJ T i ⟨.usr li',ri,τ',gi⟩) k ⟨.usr lj',rj,(T k).τ,gj⟩ k)=_ from uj] at hk;cases hk
  have e:=uk k k1 k2;show ¬(U k).τ.own b/\_;rw[show(bJ (bJ T i ⟨.usr li',ri,τ',gi⟩) j ⟨.usr lj',rj,(T j).τ,gj⟩ k)=T k from e] at hk⊢;rw[e];exact h.nil k hk b
 .have:=h.sep x k b fG (own x b hb)
  refine⟨λe=>this.1 (own k b e),λe=>this.2.1 (by have e':(U k).τ.still b:=e;rwa [still k] at e'),λe=>(pass k b e).elim this.2.2 this.1⟩
 .have b9:(T k).τ.own b\/(T k).τ.still b:=hb.imp (own k b) λe=>by have e':(U k).τ.still b:=e;rwa [still k] at e'
  have:=h.bnd k b b9;refine⟨aC,this.2.1,?_⟩;have zca:b∉pub:=λhp=>by
   obtain⟨h1,h2,h3,_⟩:=G5 b hp;by_cases k1:k=i
   .subst k1
    rcases hb with e|e
    .rw[show(bJ (bJ T k ⟨.usr li',ri,τ',gi⟩) j ⟨.usr lj',rj,(T j).τ,gj⟩ k)=_ from ui] at e;exact h2 e
    .rw[show(bJ (bJ T k ⟨.usr li',ri,τ',gi⟩) j ⟨.usr lj',rj,(T j).τ,gj⟩ k)=_ from ui] at e;exact h3 e
   .have s:=h.sep i k b (Ne.symm k1) h1
    exact b9.elim s.1 s.2.1
  rw[Zj zca];exact this.2.2
 .rcases pass k b hb with e|e
  .have:=h.pas k b e;exact⟨aC,this.2⟩
  .have:=h.bnd k b (.inl e);exact⟨aC,this.2.1⟩
 .by_cases k1:k=i
  .subst k1;rw[show(bJ (bJ T k ⟨.usr li',ri,τ',gi⟩) j ⟨.usr lj',rj,(T j).τ,gj⟩ k)=_ from ui] at hk;simp[Ph.proj] at hk
  .by_cases k2:k=j
   .subst k2;rw[show(bJ (bJ T i ⟨.usr li',ri,τ',gi⟩) k ⟨.usr lj',rj,(T k).τ,gj⟩ k)=_ from uj] at hk;simp[Ph.proj] at hk
   .rw[show(bJ (bJ T i ⟨.usr li',ri,τ',gi⟩) j ⟨.usr lj',rj,(T j).τ,gj⟩ k)=T k from uk k k1 k2] at hk⊢
    exact λaJ lO=>h.depo k l hk aJ ((sf k).trans lO)
 .by_cases nX:c'∈pub
  .obtain⟨h1,_,_,h4⟩:=G5 c' nX
   rw[ze7 nX] at kQ;have aV:c'≠c:=λe=>by subst e;exact(nc i).1 h1
   exact⟨(h.bnd i c' (.inl h1)).2.1,0,0,by rw[a.block c' aV,<-cH kQ];exact h4⟩
  .rw[Zj nX] at kQ
   by_cases tX:c'=c
   .subst tX
    rw[hc] at kQ;obtain⟨s,r,hw⟩:=lX;exact⟨Av,s,r,by rw[hw,<-cH kQ]⟩
   .obtain⟨h1,s,r,h2⟩:=h.chan c' b kQ
    exact⟨h1,s,r,(a.block c' tX).trans h2⟩
 .show gP A ty Wg (λk=>(U k).ph) n w'
  rw[zlH];refine gP.of_block (gP.usr (l:=lj) (gP.usr (l:=li) h.grp hi oK zal) ?_ Ru Ll) zkV;rw[upd_ne _ _ (Ne.symm s7)];exact hj
 .show A.Inv (λk=>(U k).ph.proj) _
  rw[ziz];exact hinv
theorem Stat.fork {n:Nat}{w:aE}{T:Nat->Td L}(h:Stat (ty:=ty) (Wg:=Wg) (A:=A) n w T ch){l lm lc:L}(hl:(T 0).ph=.usr l)(Om:A.pend l=true)(y3:A.pend lm=false)(rm rc:Cp)(gm gc:bF)(τm τc:cI)(pub:List Nat)
 (dF:∀b,τm.own b\/τc.own b->(T 0).τ.own b) (zKz:∀b,τm.still b\/τc.still b->(T 0).τ.still b\/(T 0).τ.own b) (zHT:∀b,τm.pass b\/τc.pass b->(T 0).τ.pass b\/(T 0).τ.own b\/(T 0).τ.still b)
 (yQ:∀b,τm.own b->¬τc.own b/\¬τc.still b/\¬τc.pass b) (Ai:∀b,τc.own b->¬τm.still b/\¬τm.pass b)
 (G5:∀a∈pub,(T 0).τ.own a/\I8 w a/\¬τm.own a/\¬τm.still a/\¬τc.own a/\¬τc.still a) (hinv:A.Inv (bJ (bJ (λk=>(T k).ph.proj) 0 (.run lm)) n (.run lc)) (ch.opn pub)):
 Stat (ty:=ty) (Wg:=Wg) (A:=A) (n+1) w (bJ (bJ T 0 ⟨.usr lm,rm,τm,gm⟩) n ⟨.usr lc,rc,τc,gc⟩) (ch.opn pub):=by
 have hn:=h.n0;have zb5:(T n).ph=.gone:=h.ou n (bL _);have nn:=h.nil n zb5;generalize hU:bJ (bJ T 0 ⟨.usr lm,rm,τm,gm⟩) n ⟨.usr lc,rc,τc,gc⟩=U;have u0:U 0=⟨.usr lm,rm,τm,gm⟩:=by rw[<-hU,upd_ne _ _ aC,upd_same]
 have un:U n=⟨.usr lc,rc,τc,gc⟩:=by rw[<-hU,upd_same]
 have uk:∀k,k≠0->k≠n->U k=T k:=λk h1 h2=>by rw[<-hU,upd_ne _ _ h2,upd_ne _ _ h1]
 have own:∀k b,(U k).τ.own b->(T k).τ.own b\/(k=n/\(T 0).τ.own b):=λk b hb=>by grind
 have zlH:(λk=>(U k).ph)=bJ (bJ (λk=>(T k).ph) 0 (.usr lm)) n (.usr lc):=by rw[<-hU,X8,X8]
 have ziz:(λk=>(U k).ph.proj)=bJ (bJ (λk=>(T k).ph.proj) 0 (.run lm)) n (.run lc):=by rw[<-hU,zad,zad];rfl
 have sub:∀k b,(U k).τ.own b\/(U k).τ.still b\/(U k).τ.pass b->k=0\/k=n\/(k≠0/\k≠n):=λk b _=>by omega
 refine⟨aC,λk hk=>?_,by rw[u0];trivial,λk hk=>?_,λk hk b=>?_,λx k b fG hb=>?_,λk b hb=>?_,λk b hb=>?_,λk l' hk=>?_,λc' b kQ=>?_,?_,by rw[ziz];exact hinv⟩
 .rw[uk k aC aC];exact h.ou k aC
 .by_cases k2:k=n
  .subst k2;rw[un];exact id
  .rw[uk k hk k2];exact h.role k hk
 .have k1:k≠0:=λe=>by simp_all
  have k2:k≠n:=λe=>by simp_all
  rw[uk k k1 k2] at hk⊢;exact h.nil k hk b
 .by_cases x1:x=0
  .subst x1
   rw[u0] at hb;have ho:=dF b (.inl hb);by_cases k2:k=n
   .simp_all
   .rw[uk k (Ne.symm fG) k2];exact h.sep 0 k b fG ho
  .by_cases x2:x=n
   .subst x2
    rw[un] at hb;have ho:=dF b (.inr hb);by_cases k1:k=0
    .grind
    .rw[uk k k1 (Ne.symm fG)];exact h.sep 0 k b (Ne.symm k1) ho
   .rw[uk x x1 x2] at hb
    have s0:=h.sep x 0 b x1 hb;by_cases k1:k=0
    .grind
    .by_cases k2:k=n
     .grind
     .rw[uk k k1 k2];exact h.sep x k b fG hb
 .have key:(∃j,(T j).τ.own b\/(T j).τ.still b)/\b∉pub:=by
   by_cases k1:k=0
   .grind
   .by_cases k2:k=n
    .grind
    .rw[uk k k1 k2] at hb
     refine⟨⟨k,hb⟩,λhp=>?_⟩;have:=h.sep 0 k b (Ne.symm k1) (G5 b hp).1;simp_all
  obtain⟨⟨j,hj⟩,zca⟩:=key;have:=h.bnd j b hj;exact⟨this.1,this.2.1,by rw[Zj zca];exact this.2.2⟩
 .have key:∃j,(T j).τ.pass b\/(T j).τ.own b\/(T j).τ.still b:=by
   by_cases k1:k=0
   .subst k1;rw[u0] at hb;exact⟨0,zHT b (.inl hb)⟩
   .grind
  obtain⟨j,hj|hj⟩:=key
  .exact h.pas j b hj
  .have:=h.bnd j b hj;omega
 .have k1:k≠0:=λe=>by subst e;rw[u0] at hk;simp[Ph.proj] at hk
  have k2:k≠n:=λe=>by subst e;rw[un] at hk;simp[Ph.proj] at hk
  rw[uk k k1 k2] at hk⊢;exact h.depo k l' hk
 .by_cases nX:c'∈pub
  .rw[ze7 nX] at kQ
   obtain⟨h1,h2,_⟩:=G5 c' nX;exact⟨(h.bnd 0 c' (.inl h1)).2.1,0,0,by rw[<-cH kQ];exact h2⟩
  .rw[Zj nX] at kQ;exact h.chan c' b kQ
 .rw[zlH]
  refine h.grp.congr (.inr ⟨l,lm,hl,by grind⟩) ?_ λj hj=>?_
  .unfold vv
   have e1:pE (bJ (bJ (λk=>(T k).ph) 0 (.usr lm)) n (.usr lc)) (n+1)=pE (λk=>(T k).ph) n+1:=by
    simp only[pE];rw[zpj _ _ (bL n),zhn,upd_same];simp[Ph.pre];omega
   have e2:Ax A (bJ (bJ (λk=>(T k).ph) 0 (.usr lm)) n (.usr lc))=0:=by
    unfold Ax;rw[upd_ne _ _ aC,upd_same];simp[y3]
   have e3:Ax A (λk=>(T k).ph)=1:=by
    unfold Ax;simp only[hl,Om,if_true]
   omega
  .by_cases j1:j=0
   .subst j1;rw[upd_ne _ _ aC,upd_same] at hj
    have:((T 0).ph).last\/False:=hj;rw[hl] at this;exact(this.elim id id).elim
   .by_cases j2:j=n
    .subst j2;rw[upd_same] at hj
     have:((T j).ph).last\/False:=hj;rw[zb5] at this;exact(this.elim id id).elim
    grind
end
section
variable {L:Type}(P:bT)(ty:aN)(Wg:Nat)(A:jN L)(Fin:bF->aE->Prop)(Shun:Loc->Prop)
structure Inv (gs:Array bF)(w:aE)(t:mF)(T:Nat->Td L)(ch:rU):Prop where
 st:Stat (ty:=ty) (Wg:=Wg) (A:=A) gs.size w T ch
 dy:Ft (P:=P) (ty:=ty) (Wg:=Wg) (A:=A) (Fin:=Fin) gs w t T ch Shun
def P7 (m:zaJ)(t:mF):Prop:=
 ∃gs a w sl q,m=crowd gs w sl/\gs[0]? =some a/\a.status=.running/\Fin a w/\Leavers P t gs q/\Past (λl=>Shun l\/nY l Wg) w.heap.size t
def wC (gs:Array bF)(w:aE)(t:mF)(T:Nat->Td L)(sl:Option (Nat×Nat))(i:Nat):Prop:=
 ∃m' ops,runT P (crowd gs w sl) i=(.next m',ops)/\
  (P7 P Wg Fin Shun m' (t++ops)\/∃gs' w' Ls T' wF,m'=crowd gs' w' Ls/\Inv P ty Wg A Fin Shun gs' w' (t++ops) T' wF/\Mu.lt (mu gs' T') (mu gs T))
end
section
variable {L:Type}{P:bT}{ty:aN}{Wg:Nat}{A:jN L}{Fin:bF->aE->Prop}{Shun:Loc->Prop}
variable {gs:Array bF}{w w':aE}{t:mF}{T:Nat->Td L}{ch wF:rU}{sl:Option (Nat×Nat)}{i j:Nat}{x g':bF}{es:Array o5}
def zw1 (τ:cI)(w:aE)(d:Nat):bX ty Wg τ w (w.at d):=⟨rfl,rfl,rfl,bL _,λ_ _=>rfl,id⟩
def Inv.at (h:Inv P ty Wg A Fin Shun gs w t T ch)(d:Nat):Inv P ty Wg A Fin Shun gs (w.at d) t T ch:=
 ⟨
  ⟨h.st.n0,h.st.ou,h.st.role0,h.st.role,h.st.nil,h.st.sep,h.st.bnd,h.st.pas,λi l hi aJ s=>h.st.depo i l hi aJ ((zw1 _ w d).trans s),h.st.chan,h.st.grp.of_block rfl,h.st.inv⟩,
  ⟨λi x hi=>(h.dy.sit i x hi).rely (zw1 _ w d),h.dy.slp,h.dy.slpC,h.dy.slpW,h.dy.tr⟩⟩
theorem zmJ {p:Nat->Ph L}(h:∀j,j≠0->(p j).pre=false):∀n,pE p n=0
 |0=>rfl
 |n+1=>by
  simp only[pE,zmJ h n];simp_all
theorem Inv.some1 (hA:A.Ok)(h:Inv P ty Wg A Fin Shun gs w t T ch):∃(i:Nat) (g:bF),gs[i]? =some g/\g.status=.running:=by
 refine zT λfQ=>?_;have hn:∀(i:Nat) (g:bF),gs[i]? =some g->g.status≠ .running:=λi g hg e=>fQ ⟨i,g,hg,e⟩;have znk:∀i l,(T i).ph=.usr l->∃g,gs[i]? =some g/\zga P ty Wg A (i==0) (T i) g w:=by
  intro i l hl;have aU:i<gs.size:=by
   rcases rM i gs.size with x|x
   .exact x
   .have:=h.st.ou i x;simp_all
  refine⟨gs[i],pK aU,?_⟩;have hs:=h.dy.sit i _ (pK aU);rw[qC zmg] at hs;obtain⟨r,_,_,hx|hx|hx⟩:=hs
  .exact absurd hx.1 (hn i _ (pK aU))
  .exact hx
  .have:=hx.1;simp_all
 have Ll:∀i l,(T i).ph.proj=.run l->(T i).ph=.usr l:=by
  intro i l hi;cases x7:(T i).ph<;>rw[x7] at hi<;>simp[Ph.proj] at hi;rw[hi]
 have zGC:∀i l c ok pub nx,(T i).ph=.usr l->A.act l=.send c ok pub nx->∃g v z sh,gs[i]? =some (parked g #[scase c v z] sh):=by
  intro i l c ok pub nx hl ha;obtain⟨g,hg,l',cs,sh,h1,rfl,_,h4|h4⟩:=znk i l hl
  .grind
  .simp_all
 have zHu:∀i l c ok nx s,(T i).ph=.usr l->A.act l=.recv c ok nx s->∃g z sh,gs[i]? =some (parked g #[rcase c z] sh):=by
  intro i l c ok nx s hl ha;obtain⟨g,hg,l',cs,sh,h1,rfl,_,h4|h4⟩:=znk i l hl
  .simp_all
  .grind
 have hb:∀i l,(T i).ph.proj=.run l->A.Blocked (λi=>(T i).ph.proj) ch l:=by
  intro i l hi;have hl:=Ll i l hi;obtain⟨g,hg,l',cs,sh,h1,rfl,_,h4⟩:=znk i l hl;rw[hl] at h1;injection h1 with h1;subst h1;unfold jN.Blocked;rcases h4 with⟨c,ok,pub,nx,v,z,h5,h6,_⟩|⟨c,ok,nx,s,z,b,h5,h6,_⟩
  .rw[h5]
   rintro⟨j,l',sM,p8,xJ,hj,rG⟩;obtain⟨gj,zj,zIk,zcy⟩:=zHu j l' c sM p8 xJ (Ll j l' hj) rG;subst h6;exact h.dy.slp i j _ _ _ _ _ _ _ _ hg zcy
  .rw[h5]
   subst h6;refine⟨?_,?_⟩
   .obtain⟨b',b9⟩:=hA.recvC _ ch i l c ok nx s h.st.inv hi h5
    cases b'
    .exact b9
    .exact absurd b9 (h.dy.slpC i _ _ _ _ hg)
   .rintro⟨j,l',sM,Xk,p8,hj,rG⟩
    obtain⟨gj,vj,zj,zIk,zcy⟩:=zGC j l' c sM Xk p8 (Ll j l' hj) rG;exact h.dy.slp j i _ _ _ _ _ _ _ _ zcy hg
 obtain⟨H0,Co⟩:=hA.prog _ ch h.st.inv hb;have hq:∀j,j≠0->(T j).ph.leaves:=by
  intro j hj;refine zT λhl=>?_;have aU:j<gs.size:=by
   rcases rM j gs.size with x|x
   .exact x
   .exact absurd (by rw[h.st.ou j x];trivial) hl
  have hs:=h.dy.sit j _ (pK aU);rw[qC hl] at hs;obtain⟨r,_,_,hx|hx|hx⟩:=hs
  .exact hn j _ (pK aU) hx.1
  .obtain⟨l,_,_,h1,_⟩:=hx
   exact Co j l (by show(T j).ph.proj=_;rw[h1];rfl)
  .have:=h.st.role j hj;rw[hx.1] at this;exact this trivial
 have h0:=h.dy.sit 0 _ (pK h.st.n0);have zlF:¬(T 0).ph.leaves:=λe=>by
  have:=h.st.role0;cases hp:(T 0).ph<;>rw[hp] at e this<;>first|exact e.elim|exact this.elim
 rw[qC zlF] at h0;obtain⟨r,_,_,hx|hx|hx⟩:=h0
 .exact hn 0 _ (pK h.st.n0) hx.1
 .obtain⟨l,_,_,h1,_⟩:=hx
  have:(T 0).ph.proj=.waits:=H0;rw[h1] at this;cases this
 .have hg:=h.st.grp
  unfold gP at hg;simp only[hx.1] at hg;have zGy:∀i,¬(T i).ph.last:=λi e=>by
   by_cases hi:i=0
   .subst hi;rw[hx.1] at e;exact e
   .have:=hq i hi
    cases hp:(T i).ph<;>rw[hp] at e this<;>first|exact e.elim|exact this.elim
  have hv:vv A (λi=>(T i).ph) gs.size=0:=by
   unfold vv Ax;simp only[hx.1,Nat.add_zero];refine zmJ (λj hj=>?_) _;have:=hq j hj;cases hp:(T j).ph<;>rw[hp] at this<;>first|exact this.elim|rfl
  rcases hg with⟨a,_⟩|⟨_,i,l,_,hc⟩|⟨_,_,hc⟩
  .omega
  .refine zGy i ?_
   rcases hc with⟨c|c,_⟩|⟨c,_⟩<;>rw[c]<;>trivial
  .exact h.dy.slpW _ (pK h.st.n0) hx.1 (by rw[hx.2.1]) hc
theorem Inv.awake (h:Inv P ty Wg A Fin Shun gs w t T ch):∀g∈gs,Conc.awake g:=by
 intro g hg;obtain⟨i,hi,rfl⟩:=Array.mem_iff_getElem.1 hg;have:=(h.dy.sit i _ (pK hi)).status;intro t e;simp_all
theorem Zr (hi:gs[i]? =some x)(hn:0<gs.size){Ti:Td L}(vS:stepG P (i==0) x w=.go g' w' es)(hr:Cl Ti.r (T i).r)
 (hS:Stat (ty:=ty) (Wg:=Wg) (A:=A) gs.size w' (bJ T i Ti) wF)
 (hD:Ft (P:=P) (ty:=ty) (Wg:=Wg) (A:=A) (Fin:=Fin) ((gs.map (woken P x g' w')).setIfInBounds i g') w' (t++wK i x.frame.fn x.frame.place es) (bJ T i Ti) wF Shun):wC P ty Wg A Fin Shun gs w t T sl i:=by
 have aU:=(dR.1 hi).1;have cK:((gs.map (woken P x g' w')).setIfInBounds i g').size=gs.size:=aQ;refine⟨_,_,Yr hi vS,.inr ⟨_,_,sl,bJ T i Ti,wF,rfl,⟨by rw[cK];exact hS,hD⟩,Zp (i:=i) (λ_=>cK) aC aU aC (by rw[upd_same];exact hr) λj hj=>by rw[upd_ne _ _ aC]⟩⟩
theorem Stat.tiEvents {n:Nat}(hS:Stat (ty:=ty) (Wg:=Wg) (A:=A) n w T ch)(oK:i<n)(hl:(T i).ph.live)(fn:aO)(pos:String)
 (h:TI Wg n (λk=>(T k).τ.own) (λk b=>(T k).τ.still b\/(T k).τ.pass b) (λk=>(T k).ph.live) Shun w.heap.size t)
 (yI:∀e∈es,OkL Wg (T i).τ.own (λb=>(T i).τ.still b\/(T i).τ.pass b) i w.heap.size e):
 TI Wg n (λk=>(T k).τ.own) (λk b=>(T k).τ.still b\/(T k).τ.pass b) (λk=>(T k).ph.live) Shun w.heap.size (t++wK i fn pos es):=by
 obtain⟨l⟩:=es;refine TI.events (live:=λk=>(T k).ph.live) (k:=i) hl oK (λk' b _ aV hb=>?_) (λk' b _ aV hb ho=>?_) (λk' _=>⟨λe=>(hS.bnd k' Wg (.inl e)).2.1 rfl,λe=>e.elim (λe=>(hS.bnd k' Wg (.inr e)).2.1 rfl) λe=>(hS.pas k' Wg e).2 rfl⟩) fn pos l h λe he=>yI e (by simpa using he)
 .have:=hS.sep i k' b (Ne.symm aV) hb
  simp_all
 .have:=hS.sep k' i b aV ho
  simp_all
def Stat.noWg {n:Nat}(hS:Stat (ty:=ty) (Wg:=Wg) (A:=A) n w T ch):∀k',(T k').ph.live->¬(T k').τ.own Wg/\¬((T k').τ.still Wg\/(T k').τ.pass Wg):=
 λk' _=>⟨λe=>(hS.bnd k' Wg (.inl e)).2.1 rfl,λe=>e.elim (λe=>(hS.bnd k' Wg (.inr e)).2.1 rfl) λe=>(hS.pas k' Wg e).2 rfl⟩
def Ft.keepC (h:Ft (P:=P) (ty:=ty) (Wg:=Wg) (A:=A) (Fin:=Fin) gs w t T ch Shun):∀(j:Nat) (gj:bF) (c:Nat) (z:aF) (sh:N8),gs[j]? =some (parked gj #[rcase c z] sh)->woken P x g' w' (parked gj #[rcase c z] sh)=parked gj #[rcase c z] sh->ch c≠some true:=
 λj gj c z sh hj _=>h.slpC j gj c z sh hj
def Ft.keepW (h:Ft (P:=P) (ty:=ty) (Wg:=Wg) (A:=A) (Fin:=Fin) gs w t T ch Shun)(e:fU ty Wg w' 0 1->fU ty Wg w 0 1):i≠0->∀x0,gs[0]? =some x0->(T 0).ph=.w3->x0.status=.blocked->(woken P x g' w' x0).status=.blocked->¬fU ty Wg w' 0 1:=
 λ_ x0 h0 h1 h2 _ h4=>h.slpW x0 h0 h1 h2 (e h4)
theorem Inv.leaver (h:Inv P ty Wg A Fin Shun gs w t T ch)(hi:gs[i]? =some x)(cP:x.status=.running)(hl:(T i).ph.leaves):wC P ty Wg A Fin Shun gs w t T sl i:=by
 have hs:=h.dy.sit i x hi;rw[Hf hl] at hs;obtain⟨q,hq,hQ⟩:=hs;have fN:i≠0:=λe=>by
  subst e;have:=h.st.role0;cases hp:(T 0).ph<;>rw[hp] at hl this<;>first|exact hl.elim|exact this.elim
 have aU:i<gs.size:=(dR.1 hi).1
 cases q with
 |zero=>rw[hQ.1] at cP;cases cP
 |succ k=>
  rcases hQ with⟨hf,_⟩|⟨_,g',es,hm,aY,hQ'⟩
  .simp_all
  have vS:stepG P (i==0) x w=.go g' w es:=by
   have:(i==0)=false:=by simpa using fN
   rw[this];exact aY w
  have hp:∀j,(bJ T i ⟨(T i).ph,.inl k,(T i).τ,g'⟩ j).ph=(T j).ph:=λj=>by
   by_cases hj:j=i
   .subst hj;simp[upd_same]
   .simp[upd_ne _ _ hj]
  have ht:∀j,(bJ T i ⟨(T i).ph,.inl k,(T i).τ,g'⟩ j).τ=(T j).τ:=λj=>by
   by_cases hj:j=i
   .subst hj;simp[upd_same]
   .simp[upd_ne _ _ hj]
  refine Zr hi h.st.n0 (Ti:=⟨(T i).ph,.inl k,(T i).τ,g'⟩) vS (by rw[hq];exact .inl (Nat.lt_succ_self k)) (h.st.same hp ht) ?_;refine h.dy.go hi ((Hf (T:=⟨(T i).ph,.inl k,(T i).τ,g'⟩) hl).2 ⟨k,rfl,hQ'⟩) (by rcases hQ'.status with e|e<;>rw[e]<;>simp) (λj _=>bX.refl) h.dy.keepC (h.dy.keepW id) ?_;have e1:(λk'=>(bJ T i ⟨(T i).ph,.inl k,(T i).τ,g'⟩ k').τ.own)=λk'=>(T k').τ.own:=funext λj=>by rw[ht]
  have e2:(λk' b=>(bJ T i ⟨(T i).ph,.inl k,(T i).τ,g'⟩ k').τ.still b\/(bJ T i ⟨(T i).ph,.inl k,(T i).τ,g'⟩ k').τ.pass b)=λk' b=>(T k').τ.still b\/(T k').τ.pass b:=funext λj=>by rw[ht]
  have e3:(λk'=>(bJ T i ⟨(T i).ph,.inl k,(T i).τ,g'⟩ k').ph.live)=λk'=>(T k').ph.live:=funext λj=>by rw[hp]
  rw[e1,e2,e3];exact h.dy.tr.mutes aU h.st.noWg _ _ hm
theorem Inv.ownG {K:Bool->Ph L->Nat->cI->bF->aE->Prop}(h:Inv P ty Wg A Fin Shun gs w t T ch)(hi:gs[i]? =some x)(dN:mI x (T i).g)(hl:(T i).ph.live){ι:Type}{f:ι->Rk}(hr:(T i).r=.inr (.mk ι f))
 (hK:∀m ph d τ g w,K m ph d τ g w->∃k,pI P ty Wg A Fin (f k) m ph d τ g w) (ho:GoG P Wg K (i==0) (T i).ph (iI t i) (T i).τ (T i).g w):wC P ty Wg A Fin Shun gs w t T sl i:=by
 have aU:i<gs.size:=(dR.1 hi).1;obtain⟨g',w',es,aY,mR,hg,yI,hk⟩:=ho;obtain⟨k,hB⟩:=hK _ _ _ _ _ _ hk;have pP:¬(T i).ph.leaves:=λe=>by cases hp:(T i).ph<;>rw[hp] at e hl<;>first|exact e.elim|exact hl.elim
 have hS:=h.st.grow hl hg (.inr (f k)) g';refine Zr hi h.st.n0 (Ti:=⟨(T i).ph,.inr (f k),(T i).τ.grow w w',g'⟩) zbe Pd hS ?_
 refine h.dy.go hi ((qC (T:=⟨(T i).ph,.inr (f k),(T i).τ.grow w w',g'⟩) pP).2 ⟨f k,rfl,hB,.inl (mI.self mR)⟩) K4 (λj hj=>h.st.suf hg hj) h.dy.keepC
  (h.dy.keepW λe=>(hg.keep Wg h.st.grp.live.lt λe=>((h.st.bnd i Wg (.inl e)).2.1 rfl)).symm.trans e) ?_
 have hp:∀j,(bJ T i ⟨(T i).ph,.inr (f k),(T i).τ.grow w w',g'⟩ j).ph=(T j).ph:=λj=>by
  by_cases hj:j=i
  .subst hj;simp[upd_same]
  .simp[upd_ne _ _ hj]
 have Q3:bJ T i ⟨(T i).ph,.inr (f k),(T i).τ.grow w w',g'⟩ i=⟨(T i).ph,.inr (f k),(T i).τ.grow w w',g'⟩:=upd_same _ _ _;refine hS.tiEvents aU (by rw[hp];exact hl) _ _ ?_ λe he=>?_
 .have e3:(λk'=>(bJ T i ⟨(T i).ph,.inr (f k),(T i).τ.grow w w',g'⟩ k').ph.live)=λk'=>(T k').ph.live:=funext λj=>by rw[hp]
  rw[e3];refine h.dy.tr.less (λk' b _ hb=>?_) (λk' b _ hb=>?_) hg.size
  .by_cases hj:k'=i
   .subst hj;rw[upd_same] at hb;exact hb.imp id (·.1)
   .rw[upd_ne _ _ hj] at hb;exact .inl hb
  .by_cases hj:k'=i
   .subst hj;rw[upd_same] at hb;exact .inl hb
   .rw[upd_ne _ _ hj] at hb;exact .inl hb
 .rw[Q3]
  refine okL_evT (yI e he) (λb hb=>.inl hb) (λb hb=>?_) (by have:=h.st.grp.live.lt;have:=hg.size;omega);have:=hS.bnd i b (by rw[Q3];exact hb);omega
end
section
variable {L:Type}{P:bT}{ty:aN}{Wg:Nat}{A:jN L}{Fin:bF->aE->Prop}{Shun:Loc->Prop}
variable {gs:Array bF}{w w':aE}{t:mF}{T:Nat->Td L}{ch wF:rU}{sl:Option (Nat×Nat)}{i j:Nat}{x g':bF}{es:Array o5}
theorem zhv (T:Nat->Td L)(i:Nat)(ph':Ph L)(r:Cp)(g':bF)(j:Nat):(bJ T i ⟨ph',r,(T i).τ,g'⟩ j).τ=(T j).τ:=by
 by_cases hj:j=i
 .subst hj;simp[upd_same]
 .simp[upd_ne _ _ hj]
theorem zDw (T:Nat->Td L)(i:Nat){ph':Ph L}(r:Cp)(τ:cI)(g':bF)(h:ph'.live↔(T i).ph.live):(λk=>(bJ T i ⟨ph',r,τ,g'⟩ k).ph.live)=λk=>(T k).ph.live:=by
 funext j;by_cases hj:j=i
 .subst hj;simp[upd_same,h]
 .simp[upd_ne _ _ hj]
theorem TI.phase {n B:Nat}{ph':Ph L}(r:Cp)(g':bF)(h:TI Wg n (λk=>(T k).τ.own) (λk b=>(T k).τ.still b\/(T k).τ.pass b) (λk=>(T k).ph.live) Shun B t)(hl:ph'.live↔(T i).ph.live):
 TI Wg n (λk=>(bJ T i ⟨ph',r,(T i).τ,g'⟩ k).τ.own) (λk b=>(bJ T i ⟨ph',r,(T i).τ,g'⟩ k).τ.still b\/(bJ T i ⟨ph',r,(T i).τ,g'⟩ k).τ.pass b) (λk=>(bJ T i ⟨ph',r,(T i).τ,g'⟩ k).ph.live) Shun B t:=by
 have e1:(λk'=>(bJ T i ⟨ph',r,(T i).τ,g'⟩ k').τ.own)=λk'=>(T k').τ.own:=funext λj=>by rw[zhv]
 have e2:(λk' b=>(bJ T i ⟨ph',r,(T i).τ,g'⟩ k').τ.still b\/(bJ T i ⟨ph',r,(T i).τ,g'⟩ k').τ.pass b)=λk' b=>(T k').τ.still b\/(T k').τ.pass b:=funext λj=>by rw[zhv]
 rw[e1,e2,zDw T i r _ g' hl];exact h
theorem Inv.alive (h:Inv P ty Wg A Fin Shun gs w t T ch)(hi:gs[i]? =some x)(dN:mI x (T i).g)(aY:stepG P (i==0) (T i).g w=.go g' w' es)(mR:g'.status=.running){ι:Type}{f:ι->Rk}(hr:(T i).r=.inr (.mk ι f))
 (hl:(T i).ph.live) {ph':Ph L} (zY:ph'.live) (a:K7 Wg w w') (Ly:WgLive ty Wg w->WgLive ty Wg w')
 (hK:∃k,pI P ty Wg A Fin (f k) (i==0) ph' (oR (iI t i) es) (T i).τ g' w') (h1:i≠0->¬ph'.waits)
 (B8:gP A ty Wg (bJ (λj=>(T j).ph) i ph') gs.size w') (hinv:A.Inv (bJ (λj=>(T j).ph.proj) i ph'.proj) ch) (hW:fU ty Wg w' 0 1->fU ty Wg w 0 1)
 (yI:∀e∈es,OkL Wg (T i).τ.own (λb=>(T i).τ.still b\/(T i).τ.pass b) i w'.heap.size e):wC P ty Wg A Fin Shun gs w t T sl i:=by
 have aU:i<gs.size:=(dR.1 hi).1;obtain⟨k,hB⟩:=hK;have pP:¬ph'.leaves:=λe=>by cases ph'<;>first|exact e.elim|exact zY.elim
 have Bx:(T i).ph≠ .gone:=λe=>by rw[e] at hl;exact hl
 have hS:=h.st.phase (r:=.inr (f k)) (g':=g') Bx aU a ph' (λe=>by rw[e] at zY;exact zY) (λ_=>zY) h1 Ly (λl e=>by cases ph'<;>simp_all [Ph.proj,Ph.live]) B8 hinv;have Q3:bJ T i ⟨ph',.inr (f k),(T i).τ,g'⟩ i=⟨ph',.inr (f k),(T i).τ,g'⟩:=upd_same _ _ _;refine Zr hi h.st.n0 (Ti:=⟨ph',.inr (f k),(T i).τ,g'⟩) zbe Pd hS ?_
 refine h.dy.go hi ((qC (T:=⟨ph',.inr (f k),(T i).τ,g'⟩) pP).2 ⟨f k,rfl,hB,.inl (mI.self mR)⟩) K4
  (λj _=>bX.of_aside a ⟨λe=>(h.st.bnd j Wg (.inl e)).2.1 rfl,λe=>(h.st.bnd j Wg (.inr e)).2.1 rfl⟩ Ly) h.dy.keepC (h.dy.keepW hW) ?_
 refine hS.tiEvents aU (by rw[Q3];exact zY) _ _ ?_ λe he=>?_
 .have:=h.dy.tr.phase (i:=i) (ph':=ph') (.inr (f k)) g' ⟨λ_=>hl,λ_=>zY⟩
  rwa [a.size]
 .rw[Q3];exact yI e he
theorem Inv.dead (h:Inv P ty Wg A Fin Shun gs w t T ch)(hi:gs[i]? =some x)(dN:mI x (T i).g)(aY:stepG P (i==0) (T i).g w=.go g' w' es)(oF:g'.status≠ .blocked){Ti:Td L}(hr:Cl Ti.r (T i).r)(hτ:Ti.τ=(T i).τ)
 (hl:¬(T i).ph.live) (hg:(T i).ph≠ .gone) (h0:i≠0) (zY:¬Ti.ph.live) (yE:Ti.ph≠ .gone) (a:K7 Wg w w') (Ly:WgLive ty Wg w->WgLive ty Wg w')
 (zkK:Sits P ty Wg A Fin i Ti (oR (iI t i) es) g' w') (zcE:Ti.ph.proj=(T i).ph.proj)
 (B8:gP A ty Wg (bJ (λj=>(T j).ph) i Ti.ph) gs.size w') (hW:(mayWake P (T i).g=true/\g'.status=.running)\/(fU ty Wg w' 0 1->fU ty Wg w 0 1))
 (yI:∀(l r:List o5) (e:o5),es.toList=l++e::r->(∀a,(jI e).touch? =some a->nY a.loc Wg/\a.kind=.atomic/\0<oR (iI t i) l.toArray)/\jI e≠ .mark (.release (stA Wg))/\(jI e).low w'.heap.size):wC P ty Wg A Fin Shun gs w t T sl i:=by
 have aU:=(dR.1 hi).1;obtain⟨ph',r',τ',Ua⟩:=Ti;simp only at hτ zY yE zcE B8 hr;subst hτ;have Ll:bJ (λj=>(T j).ph.proj) i ph'.proj=λj=>(T j).ph.proj:=by rw[zcE];exact zeT (λj=>(T j).ph.proj) i
 have hS:=h.st.phase (r:=r') (g':=Ua) hg aU a ph' yE (λe=>absurd e h0) (λ_ e=>by cases ph'<;>first|exact e.elim|exact zY e) Ly (λl e=>.inl (by rw[<-zcE];exact e)) B8 (by rw[Ll];exact h.st.inv);refine Zr hi h.st.n0 (Ti:=⟨ph',r',(T i).τ,Ua⟩) zbe hr hS ?_
 refine h.dy.go hi zkK oF
  (λj _=>bX.of_aside a ⟨λe=>(h.st.bnd j Wg (.inl e)).2.1 rfl,λe=>(h.st.bnd j Wg (.inr e)).2.1 rfl⟩ Ly) h.dy.keepC ?_ ?_
 .intro fN x0 tM x7 hb cU
  rcases hW with⟨hm,zL⟩|hW
  .exfalso
   have hs:=h.dy.sit 0 x0 tM;rw[qC (by rw[x7];exact id)] at hs;obtain⟨_,_,_,hx|⟨_,_,_,hx,_⟩|⟨_,hx,ho⟩⟩:=hs
   .rw[hx.1] at hb;cases hb
   .rw[x7] at hx;cases hx
   .have zfD:mayWake P x=true:=by
     rw[<-hm];unfold mayWake;rw[dN.2.1]
    rw[hx] at cU;unfold woken at cU;rw[zfD,zL] at cU;simp[zgo,ho] at cU
  .exact h.dy.slpW x0 tM x7 hb∘hW
 .have h1:=h.dy.tr.phase (i:=i) (ph':=ph') r' Ua ⟨λe=>absurd e zY,λe=>absurd e hl⟩
  have h2:TI Wg gs.size (λk=>(bJ T i ⟨ph',r',(T i).τ,Ua⟩ k).τ.own) (λk b=>(bJ T i ⟨ph',r',(T i).τ,Ua⟩ k).τ.still b\/(bJ T i ⟨ph',r',(T i).τ,Ua⟩ k).τ.pass b) (λk=>(bJ T i ⟨ph',r',(T i).τ,Ua⟩ k).ph.live) Shun w'.heap.size t:=by rwa [a.size]
  have:=h2.deafs (k:=i) aU hS.noWg x.frame.fn x.frame.place es.toList yI;simpa using this
theorem zvM {n B d:Nat}{es:Array o5}(hm:∀e∈es,zev e=true):∀(l r:List o5) (e:o5),es.toList=l++e::r->(∀a,(jI e).touch? =some a->nY a.loc Wg/\a.kind=.atomic/\0<oR d l.toArray)/\jI e≠ .mark (.release (stA Wg))/\(jI e).low B:=by
 intro l r e he;have zhB:=hm e (by rw[<-Array.mem_toList_iff,he];simp);have:=zgw (Wg:=Wg) (own:=λ_=>False) (pas:=λ_=>False) (k:=0) (B:=B) zhB;exact⟨λa ha=>(by rw[zlm zhB] at ha;cases ha),this.2.1,this.2.2⟩
theorem Inv.idle1 {K:Bool->Ph L->Nat->cI->bF->aE->Prop}(h:Inv P ty Wg A Fin Shun gs w t T ch)(hi:gs[i]? =some x)(dN:mI x (T i).g)(hl:¬(T i).ph.live)(pP:¬(T i).ph.leaves){ι:Type}{f:ι->Rk}(hr:(T i).r=.inr (.mk ι f))
 (hK:∀m ph d τ g w,K m ph d τ g w->∃k,pI P ty Wg A Fin (f k) m ph d τ g w) (ho:zb8 P ty Wg K (i==0) (T i).ph (iI t i) (T i).τ (T i).g w):wC P ty Wg A Fin Shun gs w t T sl i:=by
 obtain⟨g',es,aY,mR,hm,hk⟩:=ho w bX.refl;obtain⟨k,hB⟩:=hK _ _ _ _ _ _ hk;have h0:i≠0:=λe=>by subst e;exact hl h.st.role0
 have Bx:(T i).ph≠ .gone:=λe=>by rw[e] at pP;exact pP trivial
 have eu:=zeT (λj=>(T j).ph) i
 exact h.dead hi dN aY K4 (Ti:=⟨(T i).ph,.inr (f k),(T i).τ,g'⟩) Pd rfl hl Bx h0 hl Bx (Oi _ _) id
  ((qC (T:=⟨(T i).ph,.inr (f k),(T i).τ,g'⟩) pP).2 ⟨f k,rfl,hB,.inl (mI.self mR)⟩) rfl (by rw[eu];exact h.st.grp) (.inr id) (zvM (n:=0) hm)
theorem Inv.release (hA:A.Ok)(h:Inv P ty Wg A Fin Shun gs w t T ch)(hi:gs[i]? =some x)(dN:mI x (T i).g)(aY:stepG P (i==0) (T i).g w=.go g' w #[oX (.releaseMerge (stA Wg))])(mR:g'.status=.running){ι:Type}{f:ι->Rk}(hr:(T i).r=.inr (.mk ι f))
 {l:L} (hl:(T i).ph=.usr l) (rH:A.act l=.done) (hd:iI t i=0) (sX:∀aJ,bX ty Wg (T i).τ w aJ->A.dep l aJ)
 (hK:∃k,pI P ty Wg A Fin (f k) (i==0) (.rel l) 0 (T i).τ g' w):wC P ty Wg A Fin Shun gs w t T sl i:=by
 have aU:=(dR.1 hi).1;obtain⟨k,hB⟩:=hK;obtain⟨h0,hinv⟩:=hA.done _ ch i l h.st.inv (by show(T i).ph.proj=_;rw[hl];rfl) rH;have B8:gP A ty Wg (bJ (λj=>(T j).ph) i (.rel l)) gs.size w:=by
  refine h.st.grp.congr (.inl (upd_ne _ _ (Ne.symm h0))) ?_ λj hj=>?_
  .unfold vv
   rw[zff A _ h0];have:=zeb (λj=>(T j).ph) (i:=i) (n:=gs.size) (.rel l) aU h0;simp only[hl,Ph.pre,if_true] at this;omega
  .by_cases fF:j=i
   .subst fF;rw[upd_same] at hj
    have:=hj;rw[hl] at this;exact(this.elim id id).elim
   .exact upd_ne _ _ fF
 have hS:=h.st.phase (r:=.inr (f k)) (g':=g') (by rw[hl];simp) aU (Oi _ _) (.rel l) aQ (λe=>absurd e h0) (λ_ e=>e) id (λl' e=>.inr (by
  simp only[Ph.proj,Pj.over.injEq] at e;subst e;exact sX)) B8 hinv
 refine Zr hi h.st.n0 (Ti:=⟨.rel l,.inr (f k),(T i).τ,g'⟩) zbe Pd hS ?_;refine h.dy.go hi ((qC (T:=⟨.rel l,.inr (f k),(T i).τ,g'⟩) (by exact id)).2 ⟨f k,rfl,?_,.inl (mI.self mR)⟩) K4 (λj _=>bX.refl) h.dy.keepC (h.dy.keepW id) ?_
 .have:oR (iI t i) #[oX (.releaseMerge (stA Wg))]=0:=by rw[hd];rfl
  rw[this];exact hB
 .have e1:(λk'=>(bJ T i ⟨.rel l,.inr (f k),(T i).τ,g'⟩ k').τ.own)=λk'=>(T k').τ.own:=funext λj=>by rw[zhv]
  have e2:(λk' b=>(bJ T i ⟨.rel l,.inr (f k),(T i).τ,g'⟩ k').τ.still b\/(bJ T i ⟨.rel l,.inr (f k),(T i).τ,g'⟩ k').τ.pass b)=λk' b=>(T k').τ.still b\/(T k').τ.pass b:=funext λj=>by rw[zhv]
  rw[e1,e2];have l9:wK i x.frame.fn x.frame.place #[oX (.releaseMerge (stA Wg))]=#[{g:=i,fn:=x.frame.fn,pos:=x.frame.place,act:=.mark (.releaseMerge (stA Wg))}]:=by simp[wK,oX,jI]
  rw[l9];refine h.dy.tr.release aU rfl rfl hd h.st.grp.live.lt (λj hj=>?_) λj hj=>?_
  .by_cases fF:j=i
   .subst fF;rw[upd_same] at hj;exact hj.elim
   .rw[upd_ne _ _ fF] at hj;exact hj
  .by_cases fF:j=i
   .exact .inr fF
   .left;rw[upd_ne _ _ fF];exact hj
theorem Inv.acquire (h:Inv P ty Wg A Fin Shun gs w t T ch)(hi:gs[0]? =some x)(dN:mI x (T 0).g)(aY:stepG P true (T 0).g w=.go g' w #[oX (.acquire (stA Wg))])(mR:g'.status=.running)(hd:iI t 0=0)
 (hq:∀j,j≠0->(T j).ph.leaves) (hF:Fin g' w):wC P ty Wg A Fin Shun gs w t T sl 0:=by
 have aU:0<gs.size:=h.st.n0;have Nb:stepG P (0==0) x w=.go g' w #[oX (.acquire (stA Wg))]:=by rw[show((0:Nat)==0)=true from rfl,dN.step];exact aY
 refine⟨_,_,Yr hi Nb,.inl ⟨_,g',w,sl,λj=>match(T j).r with| .inl q=>q|_=>0,rfl,by simp[aU],mR,hF,?_⟩⟩;have l9:wK 0 x.frame.fn x.frame.place #[oX (.acquire (stA Wg))]=#[{g:=0,fn:=x.frame.fn,pos:=x.frame.place,act:=.mark (.acquire (stA Wg))}]:=by simp[wK,oX,jI]
 rw[l9]
 obtain⟨hP,qV⟩:=h.dy.tr.acquire (y:={g:=0,fn:=x.frame.fn,pos:=x.frame.place,act:=.mark (.acquire (stA Wg))}) aU rfl rfl hd h.st.grp.live.lt (λj hj=>by
  refine zT λaV=>?_;have:=hq j aV;have rG:(T j).ph.live:=hj;cases hp:(T j).ph<;>rw[hp] at this rG<;>first|exact this.elim|exact rG.elim)
 refine⟨⟨λj y hj hy=>?_,λj hj=>qV j zco⟩,hP⟩;have aV:0≠j:=aC;rw[sO aV,Array.getElem?_map] at hy;obtain⟨y0,zc4,rfl⟩:=Aa.1 hy;have hs:=h.dy.sit j y0 zc4;rw[Hf (hq j aC)] at hs;obtain⟨q,Ni,hQ⟩:=hs;rw[zkt hQ,Of t (g:=j) (g':=0) aV _ (λop hop=>by simp at hop;rw[hop])];simp_all
end
end Go.Mt
namespace Go.Mt
open Go.Conc
open Go.ConcR (KK wgBlock WgAt stA smA rd wr)
section
variable {L:Type}{P:bT}{ty:aN}{Wg:Nat}{A:jN L}{Fin:bF->aE->Prop}{Shun:Loc->Prop}
variable {gs gs':Array bF}{w w':aE}{t t':mF}{T T':Nat->Td L}{ch wF:rU}{sl:Option (Nat×Nat)}{i j:Nat}{x g':bF}{es:Array o5}
theorem Ft.gen (h:Ft (P:=P) (ty:=ty) (Wg:=Wg) (A:=A) (Fin:=Fin) gs w t T ch Shun)(M:Nat->Prop)(zra:∀j,¬M j->gs'[j]? =gs[j]? /\T' j=T j)
 (zCe:∀j y,M j->gs'[j]? =some y->y.status≠ .blocked/\Sits P ty Wg A Fin j (T' j) (iI t' j) y w') (zjz:∀j,¬M j->bX ty Wg (T j).τ w w') (zIo:∀j,¬M j->iI t' j=iI t j)
 (sG:∀c,wF c=some true->ch c=some true) (hW:fU ty Wg w' 0 1->fU ty Wg w 0 1)
 (zlJ:TI Wg gs'.size (λk=>(T' k).τ.own) (λk b=>(T' k).τ.still b\/(T' k).τ.pass b) (λk=>(T' k).ph.live) Shun w'.heap.size t'):
 Ft (P:=P) (ty:=ty) (Wg:=Wg) (A:=A) (Fin:=Fin) gs' w' t' T' wF Shun:=by
 have old:∀(j:Nat) (g:bF) (cs:Array zmi) (sh:N8),gs'[j]? =some (parked g cs sh)->gs[j]? =some (parked g cs sh):=by
  intro j g cs sh hj;by_cases hm:M j
  .exact absurd rfl (zCe j _ hm hj).1
  .simp_all
 refine⟨λj y hj=>?_,λa b ga gb c v z z' sh xJ ha hb=>h.slp a b ga gb c v z z' sh xJ (old _ _ _ _ ha) (old _ _ _ _ hb),λj g c z sh hj hc=>h.slpC j g c z sh (old _ _ _ _ hj) (sG c hc),λy hy x7 hb=>?_,zlJ⟩
 .by_cases hm:M j
  .simp_all
  .obtain⟨h1,h2⟩:=zra j hm
   rw[h2,zIo j hm];rw[h1] at hj;exact(h.sit j y hj).rely (zjz j hm)
 .by_cases hm:M 0
  .grind
  .obtain⟨h1,h2⟩:=zra 0 hm
   rw[h1] at hy;rw[h2] at x7;exact λe=>h.slpW y hy x7 hb (hW e)
theorem zkq (t:mF)(g:Nat)(u:mF)(hu:∀op∈u,op.act≠ .mark .disable/\op.act≠ .mark .enable):iI (t++u) g=iI t g:=by
 obtain⟨l⟩:=u;rw[Deaf_append];have key:∀(l:List Sa) (d:Nat),(∀op∈l,op.act≠ .mark .disable/\op.act≠ .mark .enable)->l.foldl (deafStep g) d=d:=by
  intro l
  induction l with
  |nil=>intro d _;rfl
  |cons y l ih=>
   intro d hl;have e:deafStep g d y=d:=by
    have:=hl y aQ;unfold deafStep;split<;>simp_all
   simp_all
 simp_all
theorem TI.idles {n B:Nat}{own pas:Nat->Nat->Prop}{live:Nat->Prop}:∀(u:List Sa) {t:mF},TI Wg n own pas live Shun B t->(∀op∈u,op.g<n/\op.act.touch? =none/\op.act≠ .mark (.release (stA Wg))/\op.act.low B)->TI Wg n own pas live Shun B (t++u.toArray)
 |[],t,h,_=>by simpa using h
 |y::u,t,h,hu=>by
  have e1:t++(y::u).toArray=(t++ #[y])++u.toArray:=by apply Jb;simp
  rw[e1];obtain⟨h1,h2,h3,h4⟩:=hu y aQ;exact TI.idles u (h.idle h1 (λa ha=>by rw[h2] at ha;cases ha) h3 h4) λop hop=>hu op (by simp[hop])
theorem Inv.offerR (h:Inv P ty Wg A Fin Shun gs w t T ch){k c:Nat}{y:bF}(hk:gs[k]? =some y)(aV:offersAt y c false≠[]):
 ∃l ok nx s z b,(T k).ph=.usr l/\A.act l=.recv c ok nx s/\y=parked (T k).g #[rcase c z] (.recv b)/\(∀aJ,bX ty Wg (T k).τ w aJ->stepG P (k==0) (T k).g aJ=.comm (T k).g #[rcase c z] true (.recv b) aJ #[]):=by
 have hs:=h.dy.sit k y hk;by_cases hl:(T k).ph.leaves
 .rw[Hf hl] at hs
  obtain⟨q,_,hQ⟩:=hs;refine absurd (Ww ?_ c false) aV;rcases hQ.status with e|e<;>rw[e]<;>simp
 .rw[qC hl] at hs
  obtain⟨r,_,_,hx|⟨l,cs,sh,h1,rfl,h3,h4⟩|⟨_,rfl,ho⟩⟩:=hs
  .exact absurd (Ww (by rw[hx.1];simp) c false) aV
  .rcases h4 with⟨c',ok,pub,nx,v,z,h5,rfl,rfl⟩|⟨c',ok,nx,s,z,b,h5,rfl,rfl⟩
   .exact absurd (offersAt_parked_send' _ _ _ _ _ _) aV
   .rw[znY] at aV
    grind
  .refine absurd ?_ aV
   simp[offersAt,ho]
theorem Inv.offerS (h:Inv P ty Wg A Fin Shun gs w t T ch){k c:Nat}{y:bF}(hk:gs[k]? =some y)(aV:offersAt y c true≠[]):
 ∃l ok pub nx v z,(T k).ph=.usr l/\A.act l=.send c ok pub nx/\y=parked (T k).g #[scase c v z] .send/\(∀aJ,bX ty Wg (T k).τ w aJ->stepG P (k==0) (T k).g aJ=.comm (T k).g #[scase c v z] true .send aJ #[]):=by
 have hs:=h.dy.sit k y hk;by_cases hl:(T k).ph.leaves
 .rw[Hf hl] at hs
  obtain⟨q,_,hQ⟩:=hs;refine absurd (Ww ?_ c true) aV;rcases hQ.status with e|e<;>rw[e]<;>simp
 .rw[qC hl] at hs
  obtain⟨r,_,_,hx|⟨l,cs,sh,h1,rfl,h3,h4⟩|⟨_,rfl,ho⟩⟩:=hs
  .exact absurd (Ww (by rw[hx.1];simp) c true) aV
  .rcases h4 with⟨c',ok,pub,nx,v,z,h5,rfl,rfl⟩|⟨c',ok,nx,s,z,b,h5,rfl,rfl⟩
   .rw[zlg] at aV
    grind
   .exact absurd (offersAt_parked_recv' _ _ _ _ _) aV
  .refine absurd ?_ aV
   simp[offersAt,ho]
theorem setChan_at (w:aE)(c cap:Nat)(L5:Array aF)(cl:Bool)(s r:Nat)(tm:Bool)(h:c<w.heap.size):(w.setChan c cap L5 cl s r tm).heap[c]? =some (.chan cap L5 cl s r tm):=by
 simp[K9,h]
theorem zyD (w:aE)(c cap:Nat)(L5:Array aF)(cl:Bool)(s r:Nat)(tm:Bool):K7 c w (w.setChan c cap L5 cl s r tm):=
 ⟨rfl,rfl,rfl,by simp[K9],λk hk=>by simp only[K9];rw[sO (Ne.symm hk)]⟩
theorem Inv.meet (hA:A.Ok)(h:Inv P ty Wg A Fin Shun gs w t T ch)(s7:i≠j)(oK:i<gs.size)(Ru:j<gs.size){c:Nat}{li lj:L}{ok sM:aF->Prop}{pub:aF->List Nat}{nx p8:aF->L}{sh:L}
 (znR:(T i).ph=.usr li) (Tw:A.act li=.send c ok pub nx) (zlf:(T j).ph=.usr lj) (zjj:A.act lj=.recv c sM p8 sh) {ιi ιj:Type} {fi:ιi->Rk} {fj:ιj->Rk} (zzq:(T i).r=.inr (.mk ιi fi)) (zam:(T j).r=.inr (.mk ιj fj))
 {v:aF} {τ':cI} {b:Bool} (bM:ok v) (ho:∀b,τ'.own b->(T i).τ.own b) (aY:τ'.still=(T i).τ.still) (Su:∀b,τ'.pass b->(T i).τ.pass b\/(T i).τ.own b)
 (G5:∀a∈pub v,(T i).τ.own a/\¬τ'.own a/\¬τ'.still a/\I8 w a)
 (zGi:∃k,pI P ty Wg A Fin (fi k) (i==0) (.usr (nx v)) (iI t i) τ' (pG (T i).g aA) w)
 (zCV:sM v->(∀a∈A.got lj v,a<w.heap.size/\¬(T j).τ.own a/\¬(T j).τ.still a)->∃k,pI P ty Wg A Fin (fj k) (j==0) (.usr (p8 v)) (iI t j) (T j).τ (pG (T j).g (recvd b v true)) w)
 {s r:Nat} (hc:w.heap[c]? =some (.chan 0 #[] false s r false)) (cK:gs'.size=gs.size) (E0:gs'[i]? =some (pG (T i).g aA)) (zcy:gs'[j]? =some (pG (T j).g (recvd b v true)))
 (zHC:∀k,k≠i->k≠j->gs'[k]? =gs[k]?) {u:mF} (hu:∀op∈u,op.g<gs.size/\op.act.touch? =none/\op.act≠ .mark (.release (stA Wg))/\op.act.low w.heap.size/\op.act≠ .mark .disable/\op.act≠ .mark .enable):
 ∃T' wF,Inv P ty Wg A Fin Shun gs' (w.setChan c 0 #[] false (s+1) (r+1) false) (t++u) T' wF/\Mu.lt (mu gs' T') (mu gs T):=by
 have zal:(λk=>(T k).ph.proj) i=.run li:=by show(T i).ph.proj=_;rw[znR];rfl
 have Ll:(λk=>(T k).ph.proj) j=.run lj:=by show(T j).ph.proj=_;rw[zlf];rfl
 have M5:ch c=some false:=hA.sendC _ ch i li c ok pub nx h.st.inv zal Tw;obtain⟨zDl,hinv⟩:=hA.meet _ ch i j li lj c ok pub nx sM p8 sh v h.st.inv zal Ll Tw zjj bM λa ha=>(h.st.bnd i a (.inl (G5 a ha).1)).2.2;obtain⟨ki,zEC⟩:=zGi
 obtain⟨kj,zGF⟩:=zCV zDl λa ha=>by
  obtain⟨p1,_,_,p4⟩:=G5 a (hA.gotP _ ch i j li lj c ok pub nx sM p8 sh v h.st.inv zal Ll Tw zjj bM a ha);obtain⟨q1,q2,_⟩:=h.st.sep i j a s7 p1;exact⟨(dR.1 p4).1,q1,q2⟩
 have Iv:c<w.heap.size:=(dR.1 hc).1;have a:=zyD w c 0 #[] false (s+1) (r+1) false;have Av:=(h.st.chan c _ M5).1
 have hS:=h.st.meet s7 oK Ru M5 a znR zlf (.inr (fi ki)) (.inr (fj kj)) (pG (T i).g aA) (pG (T j).g (recvd b v true)) τ' (pub v) ho aY Su G5
  ⟨s+1,r+1,setChan_at w c 0 #[] false (s+1) (r+1) false Iv⟩ (li':=nx v) (lj':=p8 v) (hA.pendC li _ c v ok pub nx Tw rfl) (hA.pendR lj _ c v sM p8 sh zjj (.inl rfl)) hinv
 have nc:∀k,¬(T k).τ.own c/\¬(T k).τ.still c:=λk=>⟨λe=>zpy,λe=>zqL⟩;have Ki:∀k,iI (t++u) k=iI t k:=λk=>zkq t k u λop hop=>⟨(hu op hop).2.2.2.2.1,(hu op hop).2.2.2.2.2⟩;generalize hU:bJ (bJ T i ⟨.usr (nx v),.inr (fi ki),τ',pG (T i).g aA⟩) j ⟨.usr (p8 v),.inr (fj kj),(T j).τ,pG (T j).g (recvd b v true)⟩=U at hS;have ui:U i=⟨.usr (nx v),.inr (fi ki),τ',pG (T i).g aA⟩:=by rw[<-hU,upd_ne _ _ s7,upd_same]
 have uj:U j=⟨.usr (p8 v),.inr (fj kj),(T j).τ,pG (T j).g (recvd b v true)⟩:=by rw[<-hU,upd_same]
 have uk:∀k,k≠i->k≠j->U k=T k:=λk h1 h2=>by rw[<-hU,upd_ne _ _ h2,upd_ne _ _ h1]
 refine⟨U,ch.opn (pub v),⟨by rw[cK];exact hS,h.dy.gen (λk=>k=i\/k=j) (λk hk=>⟨zHC k (λe=>hk (.inl e)) (λe=>hk (.inr e)),uk k (λe=>hk (.inl e)) (λe=>hk (.inr e))⟩) (λk y hk hy=>?_)
  (λk _=>bX.of_aside a (nc k) (Wy a Av)) (λk _=>Ki k) (λc' kQ=>?_) (λe=>(a.block Wg (Ne.symm Av)).symm.trans e) ?_⟩,?_⟩
 .rcases hk with rfl|rfl
  .rw[E0] at hy;cases hy
   refine⟨by simp[pG],?_⟩;rw[ui,Ki];refine(qC (T:=⟨.usr (nx v),.inr (fi ki),τ',pG (T k).g aA⟩) id).2 ⟨fi ki,rfl,zEC.rely (bX.of_aside a ⟨λe=>(nc k).1 (ho c e),λe=>(nc k).2 (aY▸e)⟩ (Wy a Av)),.inl (mI.self rfl)⟩
  .rw[zcy] at hy;cases hy
   refine⟨by simp[pG],?_⟩;rw[uj,Ki];exact(qC (T:=⟨.usr (p8 v),.inr (fj kj),(T k).τ,pG (T k).g (recvd b v true)⟩) id).2 ⟨fj kj,rfl,zGF.rely (bX.of_aside a (nc k) (Wy a Av)),.inl (mI.self rfl)⟩
 .by_cases hp:c'∈pub v
  .rw[ze7 hp] at kQ;cases kQ
  .rw[Zj hp] at kQ;exact kQ
 .rw[cK,a.size]
  have h1:=h.dy.tr.idles u.toList (λop hop=>by simp_all);have e0:u.toList.toArray=u:=aQ;rw[e0] at h1;have e3:(λk=>(U k).ph.live)=λk=>(T k).ph.live:=funext λk=>by
   by_cases k1:k=i
   .subst k1;rw[ui,znR];rfl
   .by_cases k2:k=j
    .subst k2;rw[uj,zlf];rfl
    .rw[uk k k1 k2]
  rw[e3];refine h1.less (λk b _ hb=>?_) (λk b _ hb=>?_) (bL _)
  .grind
  grind
 .rcases rM i j with aU|Df
  .exact Zp (i:=i) (λ_=>cK) aC oK aC (by rw[ui,zzq];exact .inr (.mk fi ki)) λk hk=>by grind
  .exact Zp (i:=j) (λ_=>cK) aC Ru aC (by rw[uj,zam];exact .inr (.mk fj kj)) λk hk=>by grind
theorem zGh {xs:Array bF}{i:Nat}{y z:bF}(h:xs[i]? =some y)(hy:Mc y=true)(hz:Mc z=false):(xs.setIfInBounds i z).countP Mc<xs.countP Mc:=by
 obtain⟨aU,rfl⟩:=dR.1 h;have e:xs.setIfInBounds i z=xs.set i z:=by simp[Array.setIfInBounds,aU]
 rw[e,Array.countP_set aU];have:0<xs.countP Mc:=Array.countP_pos_iff.2 ⟨xs[i],Array.getElem_mem aU,hy⟩
 grind
theorem Inv.park (h:Inv P ty Wg A Fin Shun gs w t T ch)(hi:gs[i]? =some x)(cP:x.status=.running)(pP:¬(T i).ph.leaves){y:bF}(hy:y.status=.blocked)
 (hP:zga P ty Wg A (i==0) (T i) y w\/zn7 (T i) y) (hW:i=0->(T 0).ph=.w3->¬fU ty Wg w 0 1)
 (hR:∀(c:Nat) (v z:aF) (sh:N8) (g:bF),y=parked g #[scase c v z] sh->∀(k:Nat) (yk:bF),gs[k]? =some yk->offersAt yk c false=[]) (hS:∀(c:Nat) (z:aF) (sh:N8) (g:bF),y=parked g #[rcase c z] sh->ch c≠some true/\∀(k:Nat) (yk:bF),gs[k]? =some yk->offersAt yk c true=[]):
 Inv P ty Wg A Fin Shun (gs.setIfInBounds i y) w (t++ #[]) T ch/\Mu.lt (mu (gs.setIfInBounds i y) T) (mu gs T):=by
 have aU:i<gs.size:=(dR.1 hi).1;have cK:(gs.setIfInBounds i y).size=gs.size:=aQ;have get:∀(k:Nat) (z:bF),(gs.setIfInBounds i y)[k]? =some z->(k=i/\z=y)\/(k≠i/\gs[k]? =some z):=by
  intro k z hk;by_cases Je:i=k
  .simp_all
  .grind
 have et:t++ #[]=t:=aQ;refine⟨⟨by rw[cK];exact h.st,?_⟩,mu_dec' cK (zGh hi (by simp[Mc,cP]) (by simp[Mc,hy]))⟩;rw[et];refine⟨λk z hk=>?_,λa b ga gb c v z z' sh xJ ha hb=>?_,λk g c z sh hk=>?_,λz hz x7 hb=>?_,by rw[cK];exact h.dy.tr⟩
 .rcases get k z hk with⟨rfl,rfl⟩|⟨aV,cY⟩
  .have hs:=h.dy.sit k x hi
   rw[qC pP] at hs⊢
   grind
  .exact h.dy.sit k z cY
 .rcases get a _ ha with⟨ea,fX⟩|⟨Rj,fX⟩
  .rcases get b _ hb with⟨eb,b9⟩|⟨oF,b9⟩
   .rw[<-fX] at b9
    simp[parked,rcase,scase] at b9
   .have:=hR c v z sh ga fX.symm b _ b9
    rw[znY] at this;simp at this
  .rcases get b _ hb with⟨eb,b9⟩|⟨oF,b9⟩
   .have:=(hS c z' xJ gb b9.symm).2 a _ fX
    rw[zlg] at this;simp at this
   .exact h.dy.slp a b ga gb c v z z' sh xJ fX b9
 .rcases get k _ hk with⟨_,e⟩|⟨_,cY⟩
  .grind
  .exact h.dy.slpC k g c z sh cY
 .rcases get 0 z hz with⟨e,_⟩|⟨_,cY⟩
  .exact hW e.symm x7
  .exact h.dy.slpW z cY x7 hb
end
section
variable {L:Type}{P:bT}{ty:aN}{Wg:Nat}{A:jN L}{Fin:bF->aE->Prop}{Shun:Loc->Prop}
variable {gs gs':Array bF}{w w':aE}{t t':mF}{T T':Nat->Td L}{ch wF:rU}{sl:Option (Nat×Nat)}{i j:Nat}{x g':bF}{es:Array o5}
def zf3 (i:Nat)(fn:aO)(pos:String):wK i fn pos #[]=#[]:=rfl
variable {b:Bool}
theorem zni {c:Nat}(h:∀(k:Nat) (y:bF),gs[k]? =some y->offersAt y c b=[]):partners (gs.setIfInBounds i zeQ) c b=[]:=by
 refine partners_nil λk y hk=>?_;rcases zpk gs i k y hk with⟨_,rfl⟩|⟨_,cY⟩
 .rfl
 .exact h k y cY
theorem zxT {c k:Nat}{y:bF}(Je:k≠i)(hk:gs[k]? =some y)(ho:offersAt y c b=[0])(h:∀(m:Nat) (z:bF),m≠k->gs[m]? =some z->offersAt z c b=[]):partners (gs.setIfInBounds i zeQ) c b=[(k,0)]:=by
 rw[partners_one (stand_get Je hk) λm z hm hz=>?_,ho]
 .rfl
 .rcases zpk gs i m z hz with⟨_,rfl⟩|⟨_,Is⟩
  .rfl
  .exact h m z hm Is
theorem Inv.send (hA:A.Ok)(h:Inv P ty Wg A Fin Shun gs w t T ch)(hi:gs[i]? =some x)(dN:mI x (T i).g){ι:Type}{f:ι->Rk}(hr:(T i).r=.inr (.mk ι f)){l:L}(hl:(T i).ph=.usr l){c:Nat}{ok:aF->Prop}{pub:aF->List Nat}{nx:aF->L}
 (ha:A.act l=.send c ok pub nx) (hB:nH P ty Wg A (λm ph d τ g w=>∃k,pI P ty Wg A Fin (f k) m ph d τ g w) (i==0) l (iI t i) (T i).τ (T i).g w):wC P ty Wg A Fin Shun gs w t T sl i:=by
 have aU:i<gs.size:=(dR.1 hi).1;unfold nH at hB;rw[ha] at hB;obtain⟨Ge,v,z,τ',h1,h2,h3,h4,Lq,h5,h6⟩:=hB;have hp:(λk=>(T k).ph.proj) i=.run l:=by show(T i).ph.proj=_;rw[hl];rfl
 have M5:=hA.sendC _ ch i l c ok pub nx h.st.inv hp ha;obtain⟨_,s,r,hc⟩:=h.st.chan c _ M5;have vS:stepG P (i==0) x w=.comm (T i).g #[scase c v z] true .send w #[]:=by rw[dN.step];exact h1 w bX.refl
 by_cases hk:∃(k:Nat) (y:bF),gs[k]? =some y/\offersAt y c false≠[]
 .obtain⟨k,y,hk,aV⟩:=hk
  have Je:k≠i:=λe=>by
   subst e;rw[hi] at hk;cases hk;exact aV (Ww (by rw[dN.1];simp) c false)
  have zdt:k<gs.size:=(dR.1 hk).1;obtain⟨lk,sM,p8,sh,zk,b,xS,Oo,rfl,zcU⟩:=h.offerR hk aV;have znL:(λk=>(T k).ph.proj) k=.run lk:=by show(T k).ph.proj=_;rw[xS];rfl
  have zkR:partners (gs.setIfInBounds i zeQ) c false=[(k,0)]:=by
   refine zxT Je hk (by rw[znY];simp) λm y' hm znh=>zT λhn=>?_;obtain⟨lm,zh2,zj5,sm,_,_,Yn,zjJ,_⟩:=h.offerR znh hn;exact hm (hA.recv1 _ ch m k lm lk c zh2 zj5 sm sM p8 sh h.st.inv (by show(T m).ph.proj=_;rw[Yn];rfl) znL zjJ Oo)
  have zaz:=crowd_send_meets (P:=P) (sl:=sl) hi vS hc Je hk zkR;have hs:=h.dy.sit k _ hk;rw[qC (by rw[xS];exact id)] at hs;obtain⟨rk,zjs,yM,_⟩:=hs
  cases rk with
  |mk ιk fk=>
   obtain⟨_,yM⟩:=yM;rw[xS] at yM;rcases yM with yM|yM
   .obtain⟨g',w',es,aY,_⟩:=yM w bX.refl
    rw[zcU w bX.refl] at aY;cases aY
   .simp only[Ae,nH,Oo] at yM
    obtain⟨_,z',b',rJ,qZ,J5⟩:=yM;have e:=(rJ w bX.refl).symm.trans (zcU w bX.refl);simp only[zxh,rcase,zhg,Vi,zhC,zFB,true_and,and_true] at e;obtain⟨_,eb⟩:=e;subst eb
    obtain⟨T',wF,hI,Qw⟩:=h.meet hA (Ne.symm Je) aU zdt hl ha xS Oo hr zjs (v:=v) (τ':=τ') (b:=b') h2 h3 h4 Lq h5 h6 (λhv hg=>qZ v hv w bX.refl hg) hc
     (gs':=(gs.setIfInBounds k (pG (T k).g (recvd b' v true))).setIfInBounds i (pG (T i).g aA)) aQ (by simp[aU]) tL
     (λm h1 h2=>by grind)
     (u:=#[{g:=i,fn:=(T i).g.frame.fn,pos:=(T i).g.frame.place,act:=.send c s},{g:=k,fn:=(T k).g.frame.fn,pos:=(T k).g.frame.place,act:=.recv c r 0},{g:=i,fn:=(T i).g.frame.fn,pos:=(T i).g.frame.place,act:=.sendDone c s},{g:=k,fn:=(T k).g.frame.fn,pos:=(T k).g.frame.place,act:=.recvDone c r}])
     (λop hop=>by
      have Iv:c<w.heap.size:=(dR.1 hc).1;simp only[Kd,lV,nM,or_false] at hop;rcases hop with rfl|rfl|rfl|rfl<;>exact⟨aC,rfl,aQ,Iv,aQ,aQ⟩)
    rw[ziG,zqT,zf3,zia] at zaz;exact⟨_,_,zaz,.inr ⟨_,_,sl,T',wF,rfl,hI,Qw⟩⟩
 .have fQ:∀(k:Nat) (y:bF),gs[k]? =some y->offersAt y c false=[]:=λk y zcQ=>zT λhn=>hk ⟨k,y,zcQ,hn⟩
  have wY:=crowd_waits (P:=P) (sl:=sl) hi vS (λcc tX=>by
   simp only[Kd,lV,nM,or_false] at tX;subst tX;exact ways_send_none hc (mK _) (zni fQ))
  have hp:=h.park hi dN.1 zmg (y:=parked (T i).g #[scase c v z] .send) rfl (.inl ⟨l,_,_,hl,rfl,h1,.inl ⟨c,ok,pub,nx,v,z,ha,rfl,rfl⟩⟩) (λe e2=>by subst e;rw[hl] at e2;cases e2)
   (λc' v' z' xJ g' e=>by
    simp only[parked,zw0,jS,oM,zhg,Vi,scase,zhC,zt0,and_true,true_and] at e;obtain⟨_,_,_,⟨e,_⟩,_⟩:=e;subst e;exact fQ)
   (λc' z' xJ g' e=>by simp[parked,scase,rcase] at e)
  exact⟨_,_,wY,.inr ⟨_,_,sl,T,ch,rfl,hp.1,hp.2⟩⟩
theorem Inv.recv (hA:A.Ok)(h:Inv P ty Wg A Fin Shun gs w t T ch)(hi:gs[i]? =some x)(dN:mI x (T i).g){ι:Type}{f:ι->Rk}(hr:(T i).r=.inr (.mk ι f)){l:L}(hl:(T i).ph=.usr l){c:Nat}{ok:aF->Prop}{nx:aF->L}{sh:L}
 (ha:A.act l=.recv c ok nx sh) (hB:nH P ty Wg A (λm ph d τ g w=>∃k,pI P ty Wg A Fin (f k) m ph d τ g w) (i==0) l (iI t i) (T i).τ (T i).g w):wC P ty Wg A Fin Shun gs w t T sl i:=by
 have aU:i<gs.size:=(dR.1 hi).1;unfold nH at hB;rw[ha] at hB;obtain⟨Ge,z,b,h1,h2,h3⟩:=hB;have hp:(λk=>(T k).ph.proj) i=.run l:=by show(T i).ph.proj=_;rw[hl];rfl
 obtain⟨cl,nE⟩:=hA.recvC _ ch i l c ok nx sh h.st.inv hp ha;obtain⟨Av,s,r,hc⟩:=h.st.chan c _ nE;have Iv:c<w.heap.size:=(dR.1 hc).1;have vS:stepG P (i==0) x w=.comm (T i).g #[rcase c z] true (.recv b) w #[]:=by rw[dN.step];exact h1 w bX.refl
 cases cl with
 |true=>
  have fQ:∀(k:Nat) (y:bF),gs[k]? =some y->offersAt y c true=[]:=λk y zcQ=>zT λhn=>by
   obtain⟨lk,zHR,zze,zCP,_,_,xS,Oo,_⟩:=h.offerS zcQ hn;have:=hA.sendC _ ch k lk c zHR zze zCP h.st.inv (by show(T k).ph.proj=_;rw[xS];rfl) Oo;rw[nE] at this;cases this
  have cP:=crowd_recv_closed (P:=P) (sl:=sl) hi vS hc (zni fQ);rw[ziG,zf3,zia] at cP;obtain⟨zAN,hinv⟩:=hA.shut _ ch i l c ok nx sh h.st.inv hp ha nE;obtain⟨k,hk⟩:=h3 zAN;have B8:=gP.usr (l:=l) h.st.grp hl aU (hA.pendR l sh c aA ok nx sh ha (.inr rfl));have hS:=h.st.phase (r:=.inr (f k)) (g':=pG (T i).g (recvd b z false)) (by rw[hl];simp) aU (Oi _ _) (.usr sh) aQ (λ_=>trivial) (λ_ e=>e) id (λl' e=>by simp[Ph.proj] at e) B8 hinv;have cK:(gs.setIfInBounds i (pG (T i).g (recvd b z false))).size=gs.size:=aQ;have Ki:∀k,iI (t++(#[{g:=i,fn:=(T i).g.frame.fn,pos:=(T i).g.frame.place,act:=.recvClosed c}]:mF)) k=iI t k:=λk=>zkq t k _ λop hop=>by
   simp only[Kd,lV,nM,or_false] at hop;subst hop;exact⟨aQ,aQ⟩
  refine⟨_,_,cP,.inr ⟨gs.setIfInBounds i (pG (T i).g (recvd b z false)),w,sl,bJ T i ⟨.usr sh,.inr (f k),(T i).τ,pG (T i).g (recvd b z false)⟩,ch,rfl,⟨by rw[cK];exact hS,?_⟩,?_⟩⟩
  .show Ft _ _ (t++(#[{g:=i,fn:=(T i).g.frame.fn,pos:=(T i).g.frame.place,act:=.recvClosed c}]:mF)) _ _ _
   refine h.dy.gen (λk'=>k'=i) (λk' cY=>⟨by rw[sO (Ne.symm cY)],upd_ne _ _ cY⟩) (λk' y cY hy=>?_) (λ_ _=>bX.refl) (λk' _=>Ki k') (λ_ e=>e) id ?_
   .subst cY
    rw[zox aU] at hy;cases hy;refine⟨by simp[pG],?_⟩;rw[upd_same,Ki];exact(qC (T:=⟨.usr sh,.inr (f k),(T k').τ,pG (T k').g (recvd b z false)⟩) id).2 ⟨f k,rfl,hk,.inl (mI.self rfl)⟩
   .rw[cK]
    have h0:=h.dy.tr.phase (i:=i) (ph':=.usr sh) (.inr (f k)) (pG (T i).g (recvd b z false)) ⟨λ_=>by rw[hl];trivial,λ_=>trivial⟩;exact h0.idles [{g:=i,fn:=(T i).g.frame.fn,pos:=(T i).g.frame.place,act:=.recvClosed c}] λop hop=>by
     simp only[lV,nM,or_false] at hop;subst hop;exact⟨aU,rfl,aQ,Iv⟩
  .exact Zp (i:=i) (λ_=>cK) aC aU aC zqF λk' cY=>by rw[upd_ne _ _ aC]
 |false=>
  by_cases hk:∃(k:Nat) (y:bF),gs[k]? =some y/\offersAt y c true≠[]
  .obtain⟨k,y,hk,aV⟩:=hk
   have Je:k≠i:=λe=>by
    subst e;rw[hi] at hk;cases hk;exact aV (Ww (by rw[dN.1];simp) c true)
   have zdt:k<gs.size:=(dR.1 hk).1;obtain⟨lk,sM,Xk,p8,v,zk,xS,Oo,rfl,zcU⟩:=h.offerS hk aV;have znL:(λk=>(T k).ph.proj) k=.run lk:=by show(T k).ph.proj=_;rw[xS];rfl
   have zkR:partners (gs.setIfInBounds i zeQ) c true=[(k,0)]:=by
    refine zxT Je hk (by rw[zlg];simp) λm y' hm znh=>zT λhn=>?_;obtain⟨lm,zh2,zIZ,zj5,_,_,Yn,zjJ,_⟩:=h.offerS znh hn;exact hm (hA.send1 _ ch m k lm lk c zh2 zIZ zj5 sM Xk p8 h.st.inv (by show(T m).ph.proj=_;rw[Yn];rfl) znL zjJ Oo)
   have zaz:=crowd_recv_meets (P:=P) (sl:=sl) hi vS hc Je hk zkR;have hs:=h.dy.sit k _ hk;rw[qC (by rw[xS];exact id)] at hs;obtain⟨rk,zjs,yM,_⟩:=hs
   cases rk with
   |mk ιk fk=>
    obtain⟨_,yM⟩:=yM;rw[xS] at yM;rcases yM with yM|yM
    .obtain⟨g',w',es,aY,_⟩:=yM w bX.refl
     rw[zcU w bX.refl] at aY;cases aY
    .simp only[Ae,nH,Oo] at yM
     obtain⟨_,v',z',τ',rJ,qZ,J5,znF,zBN,zAS,zyQ⟩:=yM;have e:=(rJ w bX.refl).symm.trans (zcU w bX.refl);simp only[zxh,scase,zhg,Vi,zhC,jS,true_and,and_true] at e;obtain⟨ev,_⟩:=e;subst ev
     obtain⟨T',wF,hI,Qw⟩:=h.meet hA Je zdt aU xS Oo hl ha zjs hr (v:=v') (τ':=τ') (b:=b) qZ J5 znF zBN zAS zyQ (λhv hg=>h2 v' hv w bX.refl hg) hc
      (gs':=(gs.setIfInBounds k (pG (T k).g aA)).setIfInBounds i (pG (T i).g (recvd b v' true))) aQ (by rw[sO (Ne.symm Je)];simp[zdt]) (by simp[aU])
      (λm h1 h2=>by rw[sO (Ne.symm h2),sO (Ne.symm h1)])
      (u:=#[{g:=k,fn:=(T k).g.frame.fn,pos:=(T k).g.frame.place,act:=.send c s},{g:=i,fn:=(T i).g.frame.fn,pos:=(T i).g.frame.place,act:=.recv c r 0},{g:=k,fn:=(T k).g.frame.fn,pos:=(T k).g.frame.place,act:=.sendDone c s},{g:=i,fn:=(T i).g.frame.fn,pos:=(T i).g.frame.place,act:=.recvDone c r}])
      (λop hop=>by
       simp only[Kd,lV,nM,or_false] at hop;rcases hop with rfl|rfl|rfl|rfl<;>exact⟨by first|exact aU|exact zdt,rfl,aQ,Iv,aQ,aQ⟩)
     rw[ziG,zqT,zf3,zia] at zaz;exact⟨_,_,zaz,.inr ⟨_,_,sl,T',wF,rfl,hI,Qw⟩⟩
  .have fQ:∀(k:Nat) (y:bF),gs[k]? =some y->offersAt y c true=[]:=λk y zcQ=>zT λhn=>hk ⟨k,y,zcQ,hn⟩
   have wY:=crowd_waits (P:=P) (sl:=sl) hi vS (λcc tX=>by
    simp only[Kd,lV,nM,or_false] at tX;subst tX;exact ways_recv_none hc (zni fQ))
   have hp:=h.park hi dN.1 zmg (y:=parked (T i).g #[rcase c z] (.recv b)) rfl (.inl ⟨l,_,_,hl,rfl,h1,.inr ⟨c,ok,nx,sh,z,b,ha,rfl,rfl⟩⟩) (λe e2=>by subst e;rw[hl] at e2;cases e2)
    (λc' v' z' xJ g' e=>by simp[parked,scase,rcase] at e)
    (λc' z' xJ g' e=>by
     simp only[parked,zw0,jS,oM,zhg,Vi,rcase,zhC,zt0,and_true,true_and] at e;obtain⟨_,_,_,⟨e,_⟩,_⟩:=e;subst e;exact⟨(by rw[nE];simp),fQ⟩)
   exact⟨_,_,wY,.inr ⟨_,_,sl,T,ch,rfl,hp.1,hp.2⟩⟩
theorem Inv.close (hA:A.Ok)(h:Inv P ty Wg A Fin Shun gs w t T ch)(hi:gs[i]? =some x)(dN:mI x (T i).g){ι:Type}{f:ι->Rk}(hr:(T i).r=.inr (.mk ι f)){l:L}(hl:(T i).ph=.usr l){c:Nat}{nx:L}
 (ha:A.act l=.close c nx) (hB:nH P ty Wg A (λm ph d τ g w=>∃k,pI P ty Wg A Fin (f k) m ph d τ g w) (i==0) l (iI t i) (T i).τ (T i).g w):wC P ty Wg A Fin Shun gs w t T sl i:=by
 have aU:i<gs.size:=(dR.1 hi).1;unfold nH at hB;rw[ha] at hB;obtain⟨zcz,zDV,h1⟩:=hB;have hp:(λk=>(T k).ph.proj) i=.run l:=by show(T i).ph.proj=_;rw[hl];rfl
 obtain⟨M5,hinv⟩:=hA.close _ ch i l c nx h.st.inv hp ha;obtain⟨Av,s,r,hc⟩:=h.st.chan c _ M5;have Iv:c<w.heap.size:=(dR.1 hc).1;obtain⟨g',aY,mR,k,hk⟩:=h1 w bX.refl s r hc;have a:=zyD w c 0 #[] true s r false;have hS:=h.st.close aU M5 a hl (.inr (f k)) g' (l':=nx) ⟨s,r,setChan_at w c 0 #[] true s r false Iv⟩ (gP.usr (l:=l) h.st.grp hl aU (hA.pendX l c nx ha)) hinv;have nc:∀k,¬(T k).τ.own c/\¬(T k).τ.still c:=λk=>⟨λe=>zpy,λe=>zqL⟩;have hd:oR (iI t i) (closeEvents c)=iI t i:=zqY (λe he=>by
  simp only[closeEvents,Kd,lV,nM,or_false] at he;rcases he with rfl|rfl<;>exact⟨aQ,aQ⟩) _
 have zfD:mayWake P x=true:=by rw[<-zcz];unfold mayWake;rw[dN.2.1]
 have Q3:bJ T i ⟨.usr nx,.inr (f k),(T i).τ,g'⟩ i=⟨.usr nx,.inr (f k),(T i).τ,g'⟩:=upd_same _ _ _;refine Zr hi h.st.n0 (Ti:=⟨.usr nx,.inr (f k),(T i).τ,g'⟩) zbe Pd hS ?_
 refine h.dy.go hi (by rw[hd];exact(qC (T:=⟨.usr nx,.inr (f k),(T i).τ,g'⟩) id).2 ⟨f k,rfl,hk,.inl (mI.self mR)⟩) K4 (λj _=>bX.of_aside a (nc j) (Wy a Av)) ?_
  (h.dy.keepW λe=>(a.block Wg (Ne.symm Av)).symm.trans e) ?_
 .intro j gj c' z sh hj cU e
  by_cases tX:c'=c
  .subst tX
   unfold woken at cU;rw[zfD,mR] at cU;have:=again_recv_closed (g:=gj) (z:=z) (sh:=sh) (setChan_at w c' 0 #[] true s r false Iv);simp only[Bool.true_and] at cU;rw[if_pos Kg,this] at cU;have:(GoStatus.running:GoStatus)=.blocked:=by
    have h2:=congrArg bF.status cU;simp[parked] at h2
   cases this
  .rw[upd_ne _ _ tX] at e
   exact h.dy.slpC j gj c' z sh hj e
 .refine hS.tiEvents aU (by rw[Q3];trivial) _ _ ?_ λe he=>?_
  .have:=h.dy.tr.phase (i:=i) (ph':=.usr nx) (.inr (f k)) g' ⟨λ_=>by rw[hl];trivial,λ_=>trivial⟩
   rwa [a.size]
  .rw[Q3]
   simp only[closeEvents,Kd,lV,nM,or_false] at he;rw[a.size];rcases he with rfl|rfl
   .refine⟨λy hy=>?_,by simp[jI],Iv⟩
    simp only[jI,rY,jS] at hy;subst hy;exact .inl ⟨c,Av,rfl,.inr ⟨.inr zDV,rfl⟩⟩
   .exact⟨λy hy=>by simp[jI,rY] at hy,by simp[jI],Iv⟩
theorem Inv.spawn (hA:A.Ok)(h:Inv P ty Wg A Fin Shun gs w t T ch)(hi:gs[i]? =some x)(dN:mI x (T i).g){ι:Type}{f:ι->Rk}(hr:(T i).r=.inr (.mk ι f)){l:L}(hl:(T i).ph=.usr l){pub:List Nat}{lc nx:L}
 (ha:A.act l=.spawn pub lc nx) (hB:nH P ty Wg A (λm ph d τ g w=>∃k,pI P ty Wg A Fin (f k) m ph d τ g w) (i==0) l (iI t i) (T i).τ (T i).g w):wC P ty Wg A Fin Shun gs w t T sl i:=by
 unfold nH at hB;rw[ha] at hB;obtain⟨hd,h1⟩:=hB;have hp:(λk=>(T k).ph.proj) i=.run l:=by show(T i).ph.proj=_;rw[hl];rfl
 obtain⟨rfl,Om,y3,hinv⟩:=hA.spawn _ ch i l pub lc nx gs.size h.st.inv hp ha;obtain⟨g',child,τm,τc,aY,zos,zoY,ho,hs,qP,yQ,Ai,G5,⟨km,zJc⟩,⟨kc,Kc⟩⟩:=h1 w bX.refl;have hn:=h.st.n0;have zGp:=hinv (by show(T gs.size).ph.proj=_;rw[h.st.ou _ (bL _)];rfl) aC λa Su=>(h.st.bnd 0 a (.inl (G5 a Su).1)).2.2;have hS:=h.st.fork hl Om y3 (.inr (f km)) (.inr (f kc)) g' child τm τc pub ho hs qP yQ Ai G5 zGp;have cP:=runT_crowd_spawn (P:=P) (sl:=sl) hi (show stepG P (0==0) x w=_ by rw[dN.step];exact aY);have cK:((gs.setIfInBounds 0 g').push child).size=gs.size+1:=aQ;generalize hU:bJ (bJ T 0 ⟨.usr nx,.inr (f km),τm,g'⟩) gs.size ⟨.usr lc,.inr (f kc),τc,child⟩=U at hS;have u0:U 0=⟨.usr nx,.inr (f km),τm,g'⟩:=by rw[<-hU,upd_ne _ _ aC,upd_same]
 have un:U gs.size=⟨.usr lc,.inr (f kc),τc,child⟩:=by rw[<-hU,upd_same]
 have uk:∀k,k≠0->k≠gs.size->U k=T k:=λk h1 h2=>by rw[<-hU,upd_ne _ _ h2,upd_ne _ _ h1]
 have zm2:((wK 0 x.frame.fn x.frame.place #[]).push {g:=0,fn:=x.frame.fn,pos:=x.frame.place,act:=.go gs.size}|>.push {g:=gs.size,fn:=child.frame.fn,pos:=x.frame.place,act:=.start})
  =#[{g:=0,fn:=x.frame.fn,pos:=x.frame.place,act:=.go gs.size},{g:=gs.size,fn:=child.frame.fn,pos:=x.frame.place,act:=.start}]:=rfl
 rw[zm2] at cP;have Ki:∀k,iI (t++(#[{g:=0,fn:=x.frame.fn,pos:=x.frame.place,act:=.go gs.size},{g:=gs.size,fn:=child.frame.fn,pos:=x.frame.place,act:=.start}]:mF)) k=iI t k:=λk=>zkq t k _ λop hop=>by grind
 refine⟨_,_,cP,.inr ⟨(gs.setIfInBounds 0 g').push child,w,sl,U,ch.opn pub,rfl,⟨by rw[cK];exact hS,h.dy.gen (λk=>k=0\/gs.size<=k) (λk hk=>?_) (λk y hk hy=>?_) (λ_ _=>bX.refl) (λk _=>Ki k) (λc hc=>?_) id ?_⟩,?_⟩⟩
 .grind
 .rw[Array.getElem?_push,Array.size_setIfInBounds] at hy
  rcases hk with rfl|hk
  .rw[if_neg aC,zox hn] at hy
   cases hy;refine⟨by rw[zos];simp,?_⟩;rw[u0,Ki,hd];exact(qC (T:=⟨.usr nx,.inr (f km),τm,g'⟩) id).2 ⟨f km,rfl,zJc,.inl (mI.self zos)⟩
  .by_cases cY:k=gs.size
   .subst cY
    rw[if_pos rfl] at hy;cases hy;refine⟨by rw[zoY];simp,?_⟩;rw[un,Ki,h.dy.tr.above _ (bL _)];have e0:(gs.size==0)=false:=beq_eq_false_iff_ne.2 aC;exact(qC (T:=⟨.usr lc,.inr (f kc),τc,child⟩) id).2 ⟨f kc,rfl,by rw[e0];exact Kc,.inl (mI.self zoY)⟩
   .simp_all
 .by_cases nX:c∈pub
  .rw[ze7 nX] at hc;cases hc
  .rw[Zj nX] at hc;exact hc
 .rw[cK]
  refine h.dy.tr.fork (live':=λk=>(U k).ph.live) (by show(T 0).ph.live;rw[hl];trivial) hn ⟨rfl,rfl⟩ ⟨rfl,rfl⟩ hd (λk=>?_) (by show ¬(T gs.size).ph.live;rw[h.st.ou _ (bL _)];exact id) (λk b hk l6 hb=>?_) (λk b hk l6 hb=>?_) (λb hb=>?_) λb hb=>?_
  .show(U k).ph.live↔(T k).ph.live\/k=gs.size
   by_cases k1:k=0
   .subst k1;rw[u0,hl];exact⟨λ_=>.inl trivial,λ_=>trivial⟩
   .by_cases k2:k=gs.size
    .subst k2;rw[un];exact⟨λ_=>.inr rfl,λ_=>trivial⟩
    simp_all
  .have qZ:k≠gs.size:=λe=>by
    subst e;have:(T gs.size).ph.live:=hk;rw[h.st.ou _ (bL _)] at this;exact this
   simp_all
  .have qZ:k≠gs.size:=λe=>by
    subst e;have:(T gs.size).ph.live:=hk;rw[h.st.ou _ (bL _)] at this;exact this
   simp_all
  .simp_all
  grind
 .exact Zp (i:=0) (λe=>absurd rfl e) (by rw[cK];omega) hn (by rw[cK];omega) (by rw[u0,hr];exact .inr (.mk f km)) λk hk=>by omega
end
section
variable {L:Type}{P:bT}{ty:aN}{Wg:Nat}{A:jN L}{Fin:bF->aE->Prop}{Shun:Loc->Prop}
variable {gs gs':Array bF}{w w':aE}{t t':mF}{T T':Nat->Td L}{ch wF:rU}{sl:Option (Nat×Nat)}{i j:Nat}{x g':bF}{es:Array o5}
def zmP (Wg B:Nat):Nat->List o5->Prop
 |_,[]=>True
 |d,e::es=>((e.mute=true\/(∃a b,e=⟨.cell a,b,true⟩/\a.block=Wg/\0<d))/\Wg<B)/\zmP Wg B (oR d #[e]) es
theorem Zi {B:Nat}:∀{es:List o5} {d:Nat},zmP Wg B d es->∀(l r:List o5) (e:o5),es=l++e::r->(∀a,(jI e).touch? =some a->nY a.loc Wg/\a.kind=.atomic/\0<oR d l.toArray)/\jI e≠ .mark (.release (stA Wg))/\(jI e).low B
 |[],d,_,l,r,e,he=>by simp at he
 |y::es,d,h,[],r,e,he=>by
  simp only[List.nil_append,Vi] at he;obtain⟨rfl,rfl⟩:=he;obtain⟨⟨hm|⟨a,b,rfl,ha,hd⟩,hW⟩,_⟩:=h
  .exact zvM (n:=0) (d:=d) (es:=#[y]) (λe he=>by simp_all) [] [] y rfl
  .refine⟨λz hz=>?_,by simp[jI],by simpa[jI,Zk,Loc.low,ha] using hW⟩
   simp only[jI,rY,jS] at hz;subst hz;exact⟨ha,rfl,hd⟩
 |y::es,d,h,z::l,r,e,he=>by
  simp only[Sd,Vi] at he;obtain⟨rfl,he⟩:=he;have:=Zi h.2 l r e he;refine⟨λa ha=>?_,this.2⟩;rw[zqu];exact this.1 a ha
def M9 {v wt:Nat}{a b:Int}(h:fU ty Wg w a b):fU ty Wg (w.setCell (stA Wg) (st v wt)) ((v:Int)*KK+wt) b:=zB1 h _
def zrX {a b:Int}(h:fU ty Wg w a b)(c:Int):fU ty Wg (w.setCell (smA Wg) (.int .u32 c)) a c:=zzj h c
def M2 (w:aE)(v:aF):K7 Wg w (w.setCell (stA Wg) v):=Vt w (stA Wg) v
def zhE (w:aE)(v:aF):K7 Wg w (w.setCell (smA Wg) v):=Vt w (smA Wg) v
def zlQ (d:Nat){es:Array o5}(h:∀e∈es,e.loc≠ .mark .disable/\e.loc≠ .mark .enable):oR d es=d:=zqY h d
theorem Wu (d:Nat)(a:bC):oR d #[rd a]=d:=zlQ d (λe he=>by simp at he;subst he;exact⟨by simp[rd],by simp[rd]⟩)
theorem deaf_wr (d:Nat)(a:bC):oR d #[wr a]=d:=zlQ d (λe he=>by simp at he;subst he;exact⟨by simp[wr],by simp[wr]⟩)
theorem zfW (d:Nat)(a:bC):oR d #[rd a,wr a]=d:=zlQ d (λe he=>by
 simp only[Kd,lV,nM,or_false] at he;rcases he with rfl|rfl<;>exact⟨by simp[rd,wr],by simp[rd,wr]⟩)
theorem zw4 (d:Nat)(a:bC):oR d (semEvents a)=d:=by
 simp[oR,semEvents]
theorem Ks (p:Nat->Ph L)(n:Nat)(ph':Ph L)(h:ph'.waits):vv A (bJ p 0 ph') n=pE p n:=by
 unfold vv Ax;rw[zhn,upd_same];cases ph'<;>first|exact h.elim|rfl
theorem zcO (p:Nat->Ph L)(n:Nat)(h:(p 0).waits):vv A p n=pE p n:=by
 have:=Ks (A:=A) p n (p 0) h
 rwa [zeT] at this
theorem Uw {p:Nat->Ph L}{ph':Ph L}(h:∀i,¬(p i).last)(h':¬ph'.last):∀i,¬(bJ p 0 ph' i).last:=λi=>by
 by_cases hi:i=0
 .subst hi;rw[upd_same];exact h'
 .rw[upd_ne _ _ hi];exact h i
theorem zxy {p:Nat->Ph L}:∀{n:Nat},pE p n=0->∀j,j<n->j≠0->(p j).pre=false
 |n+1,h,j,hj,h0=>by
  simp only[pE] at h;by_cases Ru:j=n
  .simp_all
  .exact zxy (n:=n) aC j aC h0
def Inv.vlt (hA:A.Ok)(h:Inv P ty Wg A Fin Shun gs w t T ch):vv A (λj=>(T j).ph) gs.size<2000000000:=
 Nat.lt_of_le_of_lt (zAa A _ _ h.st.n0) (hA.few _ ch h.st.inv _)
variable {a:bC}
theorem okRW {own pas:Nat->Prop}{k B:Nat}(hW:Wg<B)(ha:a.block=Wg):∀e∈(#[rd a,wr a]:Array o5),OkL Wg own pas k B e:=by
 intro e he;simp only[Kd,lV,nM,or_false] at he;rcases he with rfl|rfl<;>exact zf7 ha hW
theorem okR {own pas:Nat->Prop}{k B:Nat}(hW:Wg<B)(ha:a.block=Wg):∀e∈(#[rd a]:Array o5),OkL Wg own pas k B e:=by
 intro e he;simp only[Kd,lV,nM,or_false] at he;subst he;exact zf7 ha hW
theorem okSem {own pas:Nat->Prop}{k B:Nat}(hW:Wg<B)(ha:a.block=Wg):∀e∈semEvents a,OkL Wg own pas k B e:=by
 intro e he;simp only[semEvents,Kd,lV,nM,or_false] at he;rcases he with rfl|rfl|rfl|rfl
 .exact zgw rfl
 .exact zf7 ha hW
 .exact zf7 ha hW
 .exact zgw rfl
theorem ztJ (T:Nat->Td L){ph':Ph L}(h:ph'.proj=(T i).ph.proj):bJ (λj=>(T j).ph.proj) i ph'.proj=λj=>(T j).ph.proj:=by rw[h];exact zeT (λj=>(T j).ph.proj) i
theorem Inv.add (hA:A.Ok)(h:Inv P ty Wg A Fin Shun gs w t T ch)(hi:gs[i]? =some x)(dN:mI x (T i).g){ι:Type}{f:ι->Rk}(hr:(T i).r=.inr (.mk ι f)){l:L}(hl:(T i).ph=.usr l){nx:L}
 (ha:A.act l=.add nx) (hB:nH P ty Wg A (λm ph d τ g w=>∃k,pI P ty Wg A Fin (f k) m ph d τ g w) (i==0) l (iI t i) (T i).τ (T i).g w):wC P ty Wg A Fin Shun gs w t T sl i:=by
 unfold nH at hB;rw[ha] at hB;have hp:(λk=>(T k).ph.proj) i=.run l:=by show(T i).ph.proj=_;rw[hl];rfl
 obtain⟨rfl,Om,y3,hinv⟩:=hA.add _ ch i l nx h.st.inv hp ha;have hg:=h.st.grp;unfold gP at hg;simp only[hl] at hg;have hv:=h.vlt hA;obtain⟨g',aY,mR,k,hk⟩:=hB w bX.refl _ aC hg.1;have gU:vv A (λj=>(T j).ph) gs.size=pE (λj=>(T j).ph) gs.size:=by unfold vv Ax;simp only[hl,Om];rfl
 have qF:vv A (bJ (λj=>(T j).ph) 0 (.usr nx)) gs.size=pE (λj=>(T j).ph) gs.size+1:=by unfold vv Ax;rw[zhn,upd_same];simp[y3]
 have cV:=M9 (v:=vv A (λj=>(T j).ph) gs.size+1) (wt:=0) hg.1;refine h.alive hi dN aY mR hr (by rw[hl];trivial) (ph':=.usr nx) trivial (M2 _ _) (λ_=>⟨_,_,cV⟩) ⟨k,by rw[zfW];exact hk⟩ (λe=>absurd rfl e) ?_ hinv (λe=>by have:=(zdF e cV).2;omega) (okRW zre rfl);unfold gP;rw[upd_same];refine⟨?_,Uw hg.2 id⟩;rw[qF,<-gU];simpa using cV
theorem Inv.look (hA:A.Ok)(h:Inv P ty Wg A Fin Shun gs w t T ch)(hi:gs[0]? =some x)(dN:mI x (T 0).g){ι:Type}{f:ι->Rk}(hr:(T 0).r=.inr (.mk ι f))(nG:(∃b,(T 0).ph=.w1 b)\/∃l,(T 0).ph=.usr l/\A.act l=.wait)
 (hB:∀aJ,bX ty Wg (T 0).τ w aJ->∀v:Nat,(∀b,(T 0).ph=.w1 b->v<b)->v<2147483648->fU ty Wg aJ (v*KK) 0->∃g',stepG P true (T 0).g aJ=.go g' aJ #[rd (stA Wg)]/\g'.status=.running/\
  (v=0->∃k,pI P ty Wg A Fin (f k) true .w5 (iI t 0) (T 0).τ g' aJ)/\(v≠0->∃k,pI P ty Wg A Fin (f k) true (.w2 v) (iI t 0) (T 0).τ g' aJ)):wC P ty Wg A Fin Shun gs w t T sl 0:=by
 have hv:=h.vlt hA;have hg:fU ty Wg w (vv A (λj=>(T j).ph) gs.size*KK) 0/\∀i,¬(T i).ph.last:=by
  have hg:=h.st.grp;unfold gP at hg;rcases nG with⟨b,e⟩|⟨l,e,_⟩<;>simp only[e] at hg
  .exact⟨hg.1,hg.2.1⟩
  .exact hg
 have eU:∀b,(T 0).ph=.w1 b->vv A (λj=>(T j).ph) gs.size<b:=λb e=>by
  have hg:=h.st.grp;unfold gP at hg;simp only[e] at hg;exact hg.2.2
 have nU:(T 0).ph.live:=h.st.role0;have D9:vv A (λj=>(T j).ph) gs.size=pE (λj=>(T j).ph) gs.size:=by
  rcases nG with⟨b,e⟩|⟨l,e,ha⟩
  .exact zcO _ _ (by show(T 0).ph.waits;rw[e];trivial)
  .have:=(hA.wait _ ch 0 l h.st.inv (by show(T 0).ph.proj=_;rw[e];rfl) ha).2.1
   unfold vv Ax;simp only[e,this];rfl
 have hinv:A.Inv (bJ (λj=>(T j).ph.proj) 0 .waits) ch:=by
  rcases nG with⟨b,e⟩|⟨l,e,ha⟩
  .have:=ztJ T (i:=0) (ph':=.w1 b) (by rw[e])
   rw[show(Ph.w1 b:Ph L).proj=.waits from rfl] at this;rw[this];exact h.st.inv
  .exact(hA.wait _ ch 0 l h.st.inv (by show(T 0).ph.proj=_;rw[e];rfl) ha).2.2
 obtain⟨g',aY,mR,h0,h1⟩:=hB w bX.refl _ eU aC hg.1;by_cases hz:vv A (λj=>(T j).ph) gs.size=0
 .obtain⟨k,hk⟩:=h0 hz
  refine h.alive hi dN aY mR hr nU (ph':=.w5) trivial (Oi _ _) id ⟨k,by rw[Wu];exact hk⟩ (λe=>absurd rfl e) ?_ hinv id (okR h.st.grp.live.lt rfl);unfold gP;rw[upd_same];refine⟨by rw[Ks _ _ .w5 trivial,<-D9];exact hz,Uw hg.2 id,?_⟩;have:=hg.1;rw[hz] at this;simpa using this
 .obtain⟨k,hk⟩:=h1 hz
  refine h.alive hi dN aY mR hr nU (ph':=.w2 (vv A (λj=>(T j).ph) gs.size)) trivial (Oi _ _) id ⟨k,by rw[Wu];exact hk⟩ (λe=>absurd rfl e) ?_ hinv id (okR h.st.grp.live.lt rfl);unfold gP;rw[upd_same];refine⟨?_,Uw hg.2 id,?_,Nat.pos_of_ne_zero hz⟩
  .rw[Ks _ _ (.w2 _) trivial,<-D9];exact hg.1
  .rw[Ks _ _ (.w2 _) trivial,<-D9];exact bL _
theorem invW (h:Inv P ty Wg A Fin Shun gs w t T ch){ph':Ph L}(hw:(T 0).ph.waits)(lX:ph'.waits):A.Inv (bJ (λj=>(T j).ph.proj) 0 ph'.proj) ch:=by
 rw[ztJ T]
 .exact h.st.inv
 .cases hp:(T 0).ph<;>rw[hp] at hw<;>first|exact hw.elim|(cases ph'<;>first|exact lX.elim|rfl)
theorem Inv.cas (hA:A.Ok)(h:Inv P ty Wg A Fin Shun gs w t T ch)(hi:gs[0]? =some x)(dN:mI x (T 0).g){ι:Type}{f:ι->Rk}(hr:(T 0).r=.inr (.mk ι f)){vs:Nat}(nG:(T 0).ph=.w2 vs)
 (hB:Ae P ty Wg A Fin (λm ph d τ g w=>∃k,pI P ty Wg A Fin (f k) m ph d τ g w) true (.w2 vs) (iI t 0) (T 0).τ (T 0).g w):wC P ty Wg A Fin Shun gs w t T sl 0:=by
 have hv:=h.vlt hA;have hg:=h.st.grp;unfold gP at hg;simp only[nG] at hg;obtain⟨h1,h2,h3,h4⟩:=hg;have cF:(T 0).ph.waits:=by rw[nG];trivial
 have D9:vv A (λj=>(T j).ph) gs.size=pE (λj=>(T j).ph) gs.size:=zcO _ _ cF;have nU:(T 0).ph.live:=h.st.role0;obtain⟨ha,hb⟩:=hB w bX.refl _ aC h1;rcases rM (vv A (λj=>(T j).ph) gs.size) vs with aU|Df
 .obtain⟨g',aY,mR,k,hk⟩:=hb aU
  refine h.alive hi dN aY mR hr nU (ph':=.w1 vs) trivial (Oi _ _) id ⟨k,by rw[Wu];exact hk⟩ (λe=>absurd rfl e) ?_ (invW h cF trivial) id (okR h.st.grp.live.lt rfl);unfold gP;rw[upd_same];exact⟨by rw[Ks _ _ (.w1 vs) trivial,<-D9];exact h1,Uw h2 id,by rw[Ks _ _ (.w1 vs) trivial,<-D9];exact aU⟩
 .obtain⟨g',aY,mR,k,hk⟩:=ha aC
  have cV:=M9 (v:=vv A (λj=>(T j).ph) gs.size) (wt:=1) h1;refine h.alive hi dN aY mR hr nU (ph':=.w3) trivial (M2 _ _) (λ_=>⟨_,_,cV⟩) ⟨k,by rw[zfW];exact hk⟩ (λe=>absurd rfl e) ?_ (invW h cF trivial) (λe=>by have:=(zdF e cV).2;omega) (okRW zre rfl);unfold gP;rw[upd_same];refine .inl ⟨?_,?_,Uw h2 id⟩
  .rw[Ks _ _ .w3 trivial,<-D9];omega
  .rw[Ks _ _ .w3 trivial,<-D9];exact cV
theorem Inv.sleep (hA:A.Ok)(h:Inv P ty Wg A Fin Shun gs w t T ch)(hi:gs[0]? =some x)(dN:mI x (T 0).g){ι:Type}{f:ι->Rk}(hr:(T 0).r=.inr (.mk ι f))(nG:(T 0).ph=.w3)
 (hB:Ae P ty Wg A Fin (λm ph d τ g w=>∃k,pI P ty Wg A Fin (f k) m ph d τ g w) true .w3 (iI t 0) (T 0).τ (T 0).g w):wC P ty Wg A Fin Shun gs w t T sl 0:=by
 have hg:=h.st.grp;unfold gP at hg;simp only[nG] at hg;have cF:(T 0).ph.waits:=by rw[nG];trivial
 have D9:vv A (λj=>(T j).ph) gs.size=pE (λj=>(T j).ph) gs.size:=zcO _ _ cF;have nU:(T 0).ph.live:=h.st.role0;obtain⟨ho,hB⟩:=hB;obtain⟨ha,hb⟩:=hB w bX.refl;have zFD:(∃x,fU ty Wg w x 0)\/(vv A (λj=>(T j).ph) gs.size=0/\(∀i,¬(T i).ph.last)/\fU ty Wg w 0 1):=by
  rcases hg with⟨_,h1,_⟩|⟨_,_,_,_,⟨_,h1⟩|⟨_,h1⟩⟩|h1
  .exact .inl ⟨_,h1⟩
  .exact .inl ⟨_,h1⟩
  .exact .inl ⟨_,h1⟩
  .exact .inr h1
 rcases zFD with h0|⟨h1,h2,h3⟩
 .have aY:=ha h0
  have vS:stepG P (0==0) x w=.go {(T 0).g with status:=.blocked} w #[]:=by rw[show((0:Nat)==0)=true from rfl,dN.step];exact aY
  have cP:=Yr (sl:=sl) hi vS;have ew:woken P x {(T 0).g with status:=.blocked} w=id:=by
   funext o;simp[woken]
  rw[ew,Array.map_id,zf3] at cP;obtain⟨y,hy⟩:=h0
  have hp:=h.park hi dN.1 (by rw[nG];exact id) (y:={(T 0).g with status:=.blocked}) rfl (.inr ⟨nG,rfl,ho⟩) (λ_ _ e=>by grind)
   (λc v z sh g e=>by
    have:=congrArg zvo e;simp[parked,ho] at this)
   (λc z sh g e=>by
    have:=congrArg zvo e;simp[parked,ho] at this)
  exact⟨_,_,cP,.inr ⟨_,_,sl,T,ch,rfl,hp.1,hp.2⟩⟩
 .obtain⟨g',aY,mR,k,hk⟩:=hb h3
  have cV:=zrX h3 0;refine h.alive hi dN aY mR hr nU (ph':=.w4) trivial (zhE _ _) (λ_=>⟨_,_,cV⟩) ⟨k,by rw[zw4];exact hk⟩ (λe=>absurd rfl e) ?_ (invW h cF trivial) (λe=>by omega) (okSem (by rw[(zhE w _).size];exact h.st.grp.live.lt) rfl);unfold gP;rw[upd_same];exact⟨by rw[Ks _ _ .w4 trivial,<-D9];exact h1,Uw h2 id,cV⟩
theorem Inv.woke (hA:A.Ok)(h:Inv P ty Wg A Fin Shun gs w t T ch)(hi:gs[0]? =some x)(dN:mI x (T 0).g){ι:Type}{f:ι->Rk}(hr:(T 0).r=.inr (.mk ι f))(nG:(T 0).ph=.w4)
 (hB:Ae P ty Wg A Fin (λm ph d τ g w=>∃k,pI P ty Wg A Fin (f k) m ph d τ g w) true .w4 (iI t 0) (T 0).τ (T 0).g w):wC P ty Wg A Fin Shun gs w t T sl 0:=by
 have hg:=h.st.grp;unfold gP at hg;simp only[nG] at hg;have cF:(T 0).ph.waits:=by rw[nG];trivial
 have D9:vv A (λj=>(T j).ph) gs.size=pE (λj=>(T j).ph) gs.size:=zcO _ _ cF;obtain⟨g',aY,mR,k,hk⟩:=hB w bX.refl hg.2.2;refine h.alive hi dN aY mR hr h.st.role0 (ph':=.w5) trivial (Oi _ _) id ⟨k,by rw[Wu];exact hk⟩ (λe=>absurd rfl e) ?_ (invW h cF trivial) id (okR h.st.grp.live.lt rfl);unfold gP;rw[upd_same];exact⟨by rw[Ks _ _ .w5 trivial,<-D9];exact hg.1,Uw hg.2.1 id,hg.2.2⟩
theorem Inv.fin (hA:A.Ok)(h:Inv P ty Wg A Fin Shun gs w t T ch)(hi:gs[0]? =some x)(dN:mI x (T 0).g){ι:Type}{f:ι->Rk}(hr:(T 0).r=.inr (.mk ι f))(nG:(T 0).ph=.w5)
 (hB:Ae P ty Wg A Fin (λm ph d τ g w=>∃k,pI P ty Wg A Fin (f k) m ph d τ g w) true .w5 (iI t 0) (T 0).τ (T 0).g w):wC P ty Wg A Fin Shun gs w t T sl 0:=by
 have hg:=h.st.grp;unfold gP at hg;simp only[nG] at hg;obtain⟨h1,h2,h3⟩:=hg;have D9:vv A (λj=>(T j).ph) gs.size=pE (λj=>(T j).ph) gs.size:=zcO _ _ (by show(T 0).ph.waits;rw[nG];trivial);have Ly:∀j,j≠0->(T j).ph.leaves:=by
  intro j hj;rcases rM j gs.size with aU|Df
  .have e1:=zxy (p:=λj=>(T j).ph) (by rw[<-D9];exact h1) j aU hj
   have e2:=h2 j;have e3:=h.st.role j hj;cases hp:(T j).ph<;>simp only[hp] at e1 e2 e3<;>first|trivial|(simp[Ph.pre] at e1;done)|exact absurd trivial e2|exact absurd trivial e3
  .rw[h.st.ou j Df];trivial
 obtain⟨hd,hB⟩:=hB;have H0:(λj=>(T j).ph.proj) 0=.waits:=by show(T 0).ph.proj=_;rw[nG];rfl
 have Co:∀(j:Nat) (l:L),(λj=>(T j).ph.proj) j≠ .run l:=λj l e=>by
  have e':(T j).ph.proj=.run l:=e;by_cases hj:j=0
  .simp_all
  .have:=Ly j hj
   cases hp:(T j).ph<;>rw[hp] at e' this<;>first|exact this.elim|cases e'
 obtain⟨g',aY,mR,hF⟩:=hB w bX.refl ⟨λj=>(T j).ph.proj,ch,h.st.inv,H0,Co,λj l e=>h.st.depo j l e w bX.refl⟩;exact h.acquire hi dN aY mR hd Ly hF
theorem Inv.dec (hA:A.Ok)(h:Inv P ty Wg A Fin Shun gs w t T ch)(hi:gs[i]? =some x)(dN:mI x (T i).g){ι:Type}{f:ι->Rk}(hr:(T i).r=.inr (.mk ι f)){l:L}(nG:(T i).ph=.rel l)
 (hB:Ae P ty Wg A Fin (λm ph d τ g w=>∃k,pI P ty Wg A Fin (f k) m ph d τ g w) (i==0) (.rel l) (iI t i) (T i).τ (T i).g w):wC P ty Wg A Fin Shun gs w t T sl i:=by
 have aU:i<gs.size:=(dR.1 hi).1;have hv:=h.vlt hA;have h0:i≠0:=λe=>by subst e;have:=h.st.role0;rw[nG] at this;exact this
 have pP:¬(T i).ph.live:=by rw[nG];exact id
 have Bx:(T i).ph≠ .gone:=by rw[nG];simp
 have Yk:Wg<w.heap.size:=h.st.grp.live.lt;have key:∀ph':Ph L,ph'.pre=false->vv A (bJ (λj=>(T j).ph) i ph') gs.size+1=vv A (λj=>(T j).ph) gs.size:=by
  intro ph' hp;have:=zeb (λj=>(T j).ph) (i:=i) (n:=gs.size) ph' aU h0;unfold vv;rw[zff A _ h0];rw[hp] at this;simp only[nG,Ph.pre,if_true,jG,if_false] at this;omega
 have k1:=key (.quit l) rfl;have k2:=key (.l1 l) rfl;have zgY:(∀j,¬(T j).ph.last)->∀j,¬(bJ (λj=>(T j).ph) i (.quit l) j).last:=λhn j=>by
  by_cases hj:j=i
  .subst hj;rw[upd_same];exact id
  .rw[upd_ne _ _ hj];exact hn j
 have oJ:∀e:0<iI t i,∀B,Wg<B->zmP Wg B (iI t i) [rd (stA Wg),wr (stA Wg)]:=λe B hB=>
  ⟨⟨.inr ⟨stA Wg,false,rfl,rfl,e⟩,hB⟩,⟨.inr ⟨stA Wg,true,rfl,rfl,by rw[Wu];exact e⟩,hB⟩,trivial⟩
 have u0:bJ (λj=>(T j).ph) i (.quit l) 0=(T 0).ph:=upd_ne _ _ (Ne.symm h0);have u1:bJ (λj=>(T j).ph) i (.l1 l) 0=(T 0).ph:=upd_ne _ _ (Ne.symm h0)
 have quit:∀(v wt:Nat),wt<=1->fU ty Wg w ((v+1:Nat)*KK+wt) 0->vv A (λj=>(T j).ph) gs.size=v+1->¬(v=0/\wt=1)->
  gP A ty Wg (bJ (λj=>(T j).ph) i (.quit l)) gs.size (w.setCell (stA Wg) (Mt.st v wt))->wC P ty Wg A Fin Shun gs w t T sl i:=by
  intro v wt cF hW wI aV B8;obtain⟨g',aY,mR,hd,_,hq⟩:=hB w bX.refl v wt cF aC hW;obtain⟨q,hQ⟩:=hq aV;have cV:=M9 (v:=v) (wt:=wt) hW
  exact h.dead hi dN aY K4 (Ti:=⟨.quit l,.inl q,(T i).τ,g'⟩) (by rw[hr];exact .sep _ _) rfl pP Bx h0 id aQ (M2 _ _) (λ_=>⟨_,_,cV⟩)
   ((Hf (T:=⟨.quit l,.inl q,(T i).τ,g'⟩) trivial).2 ⟨q,rfl,by rw[zfW];exact hQ⟩) (by rw[nG];rfl) B8 (.inr λe=>by have:=(zdF e cV).2;omega) (Zi (oJ hd _ (by rw[(M2 w _).size];exact Yk)))
 have hg:=h.st.grp;unfold gP at hg;have norm:∀v:Nat,((v:Int)*KK)=((v:Nat):Int)*KK+((0:Nat):Int):=λv=>by simp
 have pos:0<vv A (λj=>(T j).ph) gs.size:=aC;obtain⟨v,wI⟩:∃v,vv A (λj=>(T j).ph) gs.size=v+1:=⟨_,(Nat.succ_pred_eq_of_pos pos).symm⟩;have e1:vv A (bJ (λj=>(T j).ph) i (.quit l)) gs.size=v:=aC;have e2:vv A (bJ (λj=>(T j).ph) i (.l1 l)) gs.size=v:=aC
 cases yT:(T 0).ph with
 |gone=>have:=h.st.role0;rw[yT] at this;exact this.elim
 |rel _=>have:=h.st.role0;rw[yT] at this;exact this.elim
 |l1 _=>have:=h.st.role0;rw[yT] at this;exact this.elim
 |l2 _=>have:=h.st.role0;rw[yT] at this;exact this.elim
 |l3 _=>have:=h.st.role0;rw[yT] at this;exact this.elim
 |quit _=>have:=h.st.role0;rw[yT] at this;exact this.elim
 |usr l0=>
  simp only[yT] at hg;rw[wI] at hg;refine quit v 0 aC zmz wI aC ?_;unfold gP;rw[u0,yT];simp only;exact⟨by rw[e1];simpa using M9 (v:=v) (wt:=0) hg.1,zgY hg.2⟩
 |w1 b=>
  simp only[yT] at hg;rw[wI] at hg;refine quit v 0 aC zmz wI aC ?_;unfold gP;rw[u0,yT];simp only;exact⟨by rw[e1];simpa using M9 (v:=v) (wt:=0) hg.1,zgY hg.2.1,aC⟩
 |w2 vs=>
  simp only[yT] at hg;rw[wI] at hg;refine quit v 0 aC zmz wI aC ?_;unfold gP;rw[u0,yT];simp only;exact⟨by rw[e1];simpa using M9 (v:=v) (wt:=0) hg.1,zgY hg.2.1,aC,hg.2.2.2⟩
 |w4=>simp only[yT] at hg;omega
 |w5=>simp only[yT] at hg;omega
 |w3=>
  simp only[yT] at hg;rcases hg with⟨_,hW,hn⟩|⟨hz,_⟩|⟨hz,_⟩
  .rw[wI] at hW
   have Yg:fU ty Wg w ((v+1:Nat)*KK+(1:Nat)) 0:=by simpa using hW
   by_cases gU:v=0
   .obtain⟨g',aY,mR,hd,hk,_⟩:=hB w bX.refl v 1 aC aC Yg
    obtain⟨k,hk⟩:=hk ⟨gU,rfl⟩;have cV:=M9 (v:=v) (wt:=1) Yg
    refine h.dead hi dN aY K4 (Ti:=⟨.l1 l,.inr (f k),(T i).τ,g'⟩) Pd rfl pP Bx h0 id aQ (M2 _ _) (λ_=>⟨_,_,cV⟩)
     ((qC (T:=⟨.l1 l,.inr (f k),(T i).τ,g'⟩) id).2 ⟨f k,rfl,by rw[zfW];exact hk,.inl (mI.self mR)⟩) (by rw[nG];rfl) ?_ (.inr λe=>by have:=(zdF e cV).2;omega) (Zi (oJ hd _ (by rw[(M2 w _).size];exact Yk)))
    unfold gP;rw[u1,yT];simp only;refine .inr (.inl ⟨aC,i,l,λj hj=>?_,.inl ⟨.inl (upd_same _ _ _),?_⟩⟩)
    .by_cases fF:j=i
     .exact fF
     .rw[upd_ne _ _ fF] at hj;exact absurd hj (hn j)
    .subst gU;simpa using cV
   .refine quit v 1 aC Yg wI aC ?_
    unfold gP;rw[u0,yT];simp only;exact .inl ⟨aC,by rw[e1];simpa using M9 (v:=v) (wt:=1) Yg,zgY hn⟩
  .omega
  .omega
theorem Inv.lastGrp (h:Inv P ty Wg A Fin Shun gs w t T ch)(hl:(T i).ph.last):(T 0).ph=.w3/\vv A (λj=>(T j).ph) gs.size=0/\(∀j,(T j).ph.last->j=i)/\((∃l,((T i).ph=.l1 l\/(T i).ph=.l2 l))/\fU ty Wg w 1 0\/(∃l,(T i).ph=.l3 l)/\fU ty Wg w 0 0):=by
 have hg:=h.st.grp;unfold gP at hg
 grind
theorem Inv.last (hA:A.Ok)(h:Inv P ty Wg A Fin Shun gs w t T ch)(hi:gs[i]? =some x)(dN:mI x (T i).g){ι:Type}{f:ι->Rk}(hr:(T i).r=.inr (.mk ι f))(hl:(T i).ph.last)
 (hB:Ae P ty Wg A Fin (λm ph d τ g w=>∃k,pI P ty Wg A Fin (f k) m ph d τ g w) (i==0) (T i).ph (iI t i) (T i).τ (T i).g w):wC P ty Wg A Fin Shun gs w t T sl i:=by
 have aU:=(dR.1 hi).1;obtain⟨h3,hz,hu,hc⟩:=h.lastGrp hl;have h0:i≠0:=λe=>by subst e;rw[h3] at hl;exact hl
 have pP:¬(T i).ph.live:=λe=>by cases hp:(T i).ph<;>rw[hp] at hl e<;>first|exact hl.elim|exact e.elim
 have Bx:(T i).ph≠ .gone:=λe=>by rw[e] at hl;exact hl
 have Yk:=h.st.grp.live.lt;have zmm:(T i).ph.pre=false:=by cases hp:(T i).ph<;>rw[hp] at hl<;>first|exact hl.elim|rfl
 have key:∀ph':Ph L,ph'.pre=false->vv A (bJ (λj=>(T j).ph) i ph') gs.size=0:=by
  intro ph' hp;have:=zeb (λj=>(T j).ph) (i:=i) (n:=gs.size) ph' aU h0;rw[hp,zmm] at this;unfold vv at hz⊢;rw[zff A _ h0];simp only[jG,if_false] at this;omega
 have zcJ:∀ph':Ph L,∀j,(bJ (λj=>(T j).ph) i ph' j).last->j=i:=λph' j hj=>by
  by_cases fF:j=i
  .exact fF
  .rw[upd_ne _ _ fF] at hj;exact hu j hj
 have u0:∀ph':Ph L,bJ (λj=>(T j).ph) i ph' 0=.w3:=λph'=>(upd_ne _ _ (Ne.symm h0)).trans h3;rcases hc with⟨⟨l,hp|hp⟩,hW⟩|⟨⟨l,hp⟩,hW⟩
 .simp only[hp] at hB
  obtain⟨g',aY,mR,hd,k,hk⟩:=hB w bX.refl hW
  refine h.dead hi dN aY K4 (Ti:=⟨.l2 l,.inr (f k),(T i).τ,g'⟩) Pd rfl pP Bx h0 id aQ (Oi _ _) id
   ((qC (T:=⟨.l2 l,.inr (f k),(T i).τ,g'⟩) id).2 ⟨f k,rfl,by rw[Wu];exact hk,.inl (mI.self mR)⟩) (by rw[hp];rfl) ?_ (.inr id) (Zi (es:=[rd (stA Wg)]) ⟨⟨.inr ⟨stA Wg,false,rfl,rfl,hd⟩,Yk⟩,trivial⟩)
  unfold gP;rw[u0];exact .inr (.inl ⟨key _ rfl,i,l,zcJ _,.inl ⟨.inr (upd_same _ _ _),hW⟩⟩)
 .simp only[hp] at hB
  obtain⟨g',aY,mR,hd,k,hk⟩:=hB w bX.refl hW;have cV:=M9 (v:=0) (wt:=0) hW;have oE:fU ty Wg (w.setCell (stA Wg) (Mt.st 0 0)) 0 0:=by simpa using cV
  refine h.dead hi dN aY K4 (Ti:=⟨.l3 l,.inr (f k),(T i).τ,g'⟩) Pd rfl pP Bx h0 id aQ (M2 _ _) (λ_=>⟨_,_,oE⟩)
   ((qC (T:=⟨.l3 l,.inr (f k),(T i).τ,g'⟩) id).2 ⟨f k,rfl,by rw[deaf_wr];exact hk,.inl (mI.self mR)⟩) (by rw[hp];rfl) ?_ (.inr λe=>by have:=(zdF e oE).2;omega)
   (Zi (es:=[wr (stA Wg)]) ⟨⟨.inr ⟨stA Wg,true,rfl,rfl,hd⟩,by rw[(M2 w _).size];exact Yk⟩,trivial⟩)
  unfold gP;rw[u0];exact .inr (.inl ⟨key _ rfl,i,l,zcJ _,.inr ⟨upd_same _ _ _,oE⟩⟩)
 .simp only[hp] at hB
  obtain⟨zcz,hB⟩:=hB;obtain⟨g',aY,mR,hd,q,hQ⟩:=hB w bX.refl hW;have cV:=zrX hW 1;have zeH:Wg<(w.setCell (smA Wg) (.int .u32 1)).heap.size:=by rw[(zhE w _).size];exact Yk
  refine h.dead hi dN aY K4 (Ti:=⟨.quit l,.inl q,(T i).τ,g'⟩) (by rw[hr];exact .sep _ _) rfl pP Bx h0 id aQ (zhE _ _) (λ_=>⟨_,_,cV⟩)
   ((Hf (T:=⟨.quit l,.inl q,(T i).τ,g'⟩) trivial).2 ⟨q,rfl,by rw[zw4];exact hQ⟩) (by rw[hp];rfl) ?_ (.inl ⟨zcz,mR⟩)
   (Zi (es:=[⟨.mark .disable,false,true⟩,⟨.cell (smA Wg),false,true⟩,⟨.cell (smA Wg),true,true⟩,⟨.mark .enable,false,true⟩]) ⟨⟨.inl rfl,zeH⟩,⟨.inr ⟨_,_,rfl,rfl,by simp[oR]⟩,zeH⟩,⟨.inr ⟨_,_,rfl,rfl,by simp[oR]⟩,zeH⟩,⟨.inl rfl,zeH⟩,trivial⟩)
  unfold gP;rw[u0];refine .inr (.inr ⟨key _ rfl,λj hj=>?_,cV⟩);have:=zcJ _ j hj;subst this;rw[upd_same] at hj;exact hj
theorem Inv.note (hA:A.Ok)(h:Inv P ty Wg A Fin Shun gs w t T ch)(hi:gs[i]? =some x)(dN:mI x (T i).g){ι:Type}{f:ι->Rk}(hr:(T i).r=.inr (.mk ι f)){l l':L}(hl:(T i).ph=.usr l){can:L->Prop}(ha:A.act l=.note can)(hc:can l')
 {k:ι} (hk:pI P ty Wg A Fin (f k) (i==0) (.usr l') (iI t i) (T i).τ (T i).g w):Inv P ty Wg A Fin Shun gs w t (bJ T i ⟨.usr l',.inr (f k),(T i).τ,(T i).g⟩) ch/\Mu.lt (mu gs (bJ T i ⟨.usr l',.inr (f k),(T i).τ,(T i).g⟩)) (mu gs T):=by
 have aU:=(dR.1 hi).1;have hp:(λk=>(T k).ph.proj) i=.run l:=by show(T i).ph.proj=_;rw[hl];rfl
 obtain⟨zng,hinv⟩:=hA.note _ ch i l can l' h.st.inv hp ha hc;have B8:=gP.usr (l:=l) h.st.grp hl aU zng;have hS:=h.st.phase (r:=.inr (f k)) (g':=(T i).g) (by rw[hl];simp) aU (Oi _ _) (.usr l') aQ (λ_=>trivial) (λ_ e=>e) id (λl' e=>by simp[Ph.proj] at e) B8 hinv;refine⟨⟨hS,?_⟩,?_⟩
 .refine h.dy.gen (λk'=>k'=i) (λk' cY=>⟨rfl,upd_ne _ _ cY⟩) (λk' y cY hy=>?_) (λ_ _=>bX.refl) (λk' _=>rfl) (λ_ e=>e) id ?_
  .subst cY
   rw[hi] at hy;cases hy;refine⟨by rw[dN.1];simp,?_⟩;rw[upd_same];exact(qC (T:=⟨.usr l',.inr (f k),(T k').τ,(T k').g⟩) id).2 ⟨f k,rfl,hk,.inl dN⟩
  .exact h.dy.tr.phase (i:=i) (ph':=.usr l') (.inr (f k)) (T i).g ⟨λ_=>by rw[hl];trivial,λ_=>trivial⟩
 .exact Zp (i:=i) (λ_=>rfl) aC aU aU zqF λk' cY=>by rw[upd_ne _ _ aC]
def ResT (P:bT)(ty:aN)(Wg:Nat)(A:jN L)(Fin:bF->aE->Prop)(Shun:Loc->Prop)(gs:Array bF)(w:aE)(t:mF)(T:Nat->Td L)(sl:Option (Nat×Nat))(i:Nat):Prop:=
 ∃m' ops,runT P (crowd gs w sl) i=(.next m',ops)/\
  (P7 P Wg Fin Shun m' (t++ops)\/∃gs' w' Ls T' wF,m'=crowd gs' w' Ls/\Inv P ty Wg A Fin Shun gs' w' (t++ops) T' wF/\Relation.TransGen Mu.lt (mu gs' T') (mu gs T))
theorem q9 (h:wC P ty Wg A Fin Shun gs w t T sl i):ResT P ty Wg A Fin Shun gs w t T sl i:=by
 obtain⟨m',ops,h1,h2⟩:=h;refine⟨m',ops,h1,h2.imp id ?_⟩;rintro⟨a,b,c,d,e,h3,h4,h5⟩;exact⟨a,b,c,d,e,h3,h4,.single h5⟩
theorem Inv.stepR (hA:A.Ok)(hi:gs[i]? =some x)(cP:x.status=.running):∀(r:Rk) {T:Nat->Td L},Inv P ty Wg A Fin Shun gs w t T ch->(T i).r=.inr r->ResT P ty Wg A Fin Shun gs w t T sl i:=by
 intro r
 induction r with
 |mk ι f ih=>
  intro T h hr;by_cases hl:(T i).ph.leaves
  .exact q9 (h.leaver hi cP hl)
  have hs:=h.dy.sit i x hi;rw[qC hl] at hs;obtain⟨r',zL,hB,hx⟩:=hs;obtain rfl:r'=.mk ι f:=by simp_all
  have dN:mI x (T i).g:=by
   rcases hx with hx|⟨_,_,_,_,rfl,_⟩|⟨_,rfl,_⟩
   .exact hx
   .cases cP
   .cases cP
  obtain⟨_,hB⟩:=hB;have hK:∀m ph d τ g w,(λm ph d τ g w=>∃k,pI P ty Wg A Fin (f k) m ph d τ g w) m ph d τ g w->∃k,pI P ty Wg A Fin (f k) m ph d τ g w:=λ_ _ _ _ _ _ e=>e;have main:(T i).ph.waits->i=0:=λe=>zT λh0=>h.st.role i h0 e;rcases hB with hB|hB
  .cases hp:(T i).ph<;>rw[hp] at hB<;>first|exact hB.elim|skip
   .exact q9 (h.ownG hi dN Eb hr hK Z1)
   .exact q9 (h.idle1 hi dN zhh hl hr hK zfG)
   .exact q9 (h.idle1 hi dN zhh hl hr hK zfG)
   .exact q9 (h.idle1 hi dN zhh hl hr hK zfG)
   .exact q9 (h.idle1 hi dN zhh hl hr hK zfG)
   .exact q9 (h.ownG hi dN Eb hr hK Z1)
   .exact q9 (h.ownG hi dN Eb hr hK Z1)
   .exact q9 (h.ownG hi dN Eb hr hK Z1)
   .exact q9 (h.ownG hi dN Eb hr hK Z1)
   .exact q9 (h.ownG hi dN Eb hr hK Z1)
  .cases hp:(T i).ph with
   |gone=>rw[hp] at hB;exact hB.elim
   |quit l=>rw[hp] at hB;exact hB.elim
   |rel l=>rw[hp] at hB;exact q9 (h.dec hA hi dN hr hp hB)
   |l1 l=>exact q9 (h.last hA hi dN hr Eb hB)
   |l2 l=>exact q9 (h.last hA hi dN hr Eb hB)
   |l3 l=>exact q9 (h.last hA hi dN hr Eb hB)
   |w1 b=>
    obtain rfl:=main Eb;rw[hp] at hB;exact q9 (h.look hA hi dN hr (.inl ⟨b,hp⟩) λaJ lO v hv=>hB aJ lO v (hv b hp))
   |w2 v=>
    obtain rfl:=main Eb;rw[hp] at hB;exact q9 (h.cas hA hi dN hr hp hB)
   |w3=>
    obtain rfl:=main Eb;rw[hp] at hB;exact q9 (h.sleep hA hi dN hr hp hB)
   |w4=>
    obtain rfl:=main Eb;rw[hp] at hB;exact q9 (h.woke hA hi dN hr hp hB)
   |w5=>
    obtain rfl:=main Eb;rw[hp] at hB;exact q9 (h.fin hA hi dN hr hp hB)
   |usr l=>
    rw[hp] at hB;simp only[Ae] at hB
    cases ha:A.act l with
    |send c ok pub nx=>exact q9 (h.send hA hi dN hr hp ha hB)
    |recv c ok nx sh=>exact q9 (h.recv hA hi dN hr hp ha hB)
    |close c nx=>exact q9 (h.close hA hi dN hr hp ha hB)
    |add nx=>exact q9 (h.add hA hi dN hr hp ha hB)
    |spawn pub lc nx=>exact q9 (h.spawn hA hi dN hr hp ha hB)
    |done=>
     unfold nH at hB;rw[ha] at hB;obtain⟨hd,_,sX,h1⟩:=hB;obtain⟨g',aY,mR,hk⟩:=h1 w bX.refl;exact q9 (h.release hA hi dN aY mR hr hp ha hd sX hk)
    |note can=>
     unfold nH at hB;rw[ha] at hB;obtain⟨l',hc,k,hk⟩:=hB;obtain⟨hI,hm⟩:=h.note hA hi dN hr hp ha hc hk;obtain⟨m',ops,h1,h2⟩:=ih k hI (by rw[upd_same]);refine⟨m',ops,h1,h2.imp id ?_⟩;rintro⟨a,b,c,d,e,h3,h4,h5⟩;exact⟨a,b,c,d,e,h3,h4,.tail h5 hm⟩
    |wait=>
     have h0:=(hA.wait _ ch i l h.st.inv (by show(T i).ph.proj=_;rw[hp];rfl) ha).1;subst h0;unfold nH at hB;rw[ha] at hB;exact q9 (h.look hA hi dN hr (.inr ⟨l,hp,ha⟩) λaJ lO v _=>hB aJ lO v)
theorem Inv.step (hA:A.Ok)(h:Inv P ty Wg A Fin Shun gs w t T ch)(hi:gs[i]? =some x)(cP:x.status=.running):ResT P ty Wg A Fin Shun gs w t T sl i:=by
 by_cases hl:(T i).ph.leaves
 .exact q9 (h.leaver hi cP hl)
 have hs:=h.dy.sit i x hi;rw[qC hl] at hs;obtain⟨r,hr,_,_⟩:=hs;exact Inv.stepR hA hi cP r h hr
theorem zGk (hA:A.Ok)(h:Inv P ty Wg A Fin Shun gs w t T ch)(sl:Option (Nat×Nat)):∃N m' t',runNT P N (crowd gs w sl) t=(.next m',t')/\P7 P Wg Fin Shun m' t':=by
 refine run_to (zIu Mu.wf) (λμ m t=>∃gs w sl T ch,m=crowd gs w sl/\Inv P ty Wg A Fin Shun gs w t T ch/\μ=mu gs T) (P7 P Wg Fin Shun) ?_ _ _ _ ⟨gs,w,sl,T,ch,rfl,h,rfl⟩;rintro μ m t ⟨gs,w,sl,T,ch,rfl,h,rfl⟩;obtain⟨i,g,d,Ls,hi,hg,aY⟩:=crowd_pick (P:=P) (w:=w) (sl:=sl) h.awake (h.some1 hA);obtain⟨m',ops,cP,zh0⟩:=(h.at d).step hA hi hg (sl:=Ls)
 grind
end
end Go.Mt
namespace Go.Tt
section
variable {P:dM}{S:aO->Prop}{K:Pr}{R:Pr}
variable {f:aF->ByteArray->dA (ForInStep ByteArray)}
theorem zsE (hf:∀(R:Pr) c c' s,VR S K R c c'->aG P S K mE (f c s) R (f c' s)):∀(l l':List aF) {R:Pr} (s:ByteArray),yU S K R l l'->
 aG P S K mE (forIn (m:=dA) l s f) R (forIn (m:=dA) l' s f)
 |[],[],R,s,_=>aG.ret rfl
 |[],_::_,_,_,h=>by have:=h.1;simp at this
 |_::_,[],_,_,h=>by have:=h.1;simp at this
 |a::l,a'::l',R,s,h=>by
  obtain⟨h1,h2⟩:=h.cons;simp only[List.forIn_cons];refine aG.bnd (hf R a a' s h1) ?_;rintro R1 e1 x _ rfl
  cases x with
  |done b=>exact aG.ret rfl
  |yield b=>exact zsE hf l l' b (h2.mono e1.le)
variable {x':aF}
theorem zHM {x:aF}(h:VR S K R x x'):aG P S K (VA S K) (zbw x) R (zbw x'):=by
 unfold zbw
 cases h with
 |slice ha=>
  cases ha with
  |none=>exact aG.ret (.string _)
  |some ha=>
   refine aG.bnd (znv ha _) ?_;intro R1 e1 xs bZ hx;simp only;rw[<-zrI,<-zrI];refine aG.bnd (zsE (λR c c' s hc=>?_) _ _ _ hx.toList) ?_
   .cases hc with
    |int k n=>cases k<;>first|exact aG.ret rfl|exact .inl (bQ.bnd _)|exact .inl bQ
    |_=>first|exact .inl (bQ.bnd _)|exact .inl bQ
   rintro R2 e2 s _ rfl;exact aG.ret (.string _)
 |_=>exact .inl bQ
def zms (v:aF):dA Next:=
 match v with
 | .pointer none| .nilIface| .nilFunc=>runtimePanic .nilDeref
 | .func (.method name) first captured=>
  match(first[0]? :Option aF) with
  |some .nilIface=>runtimePanic .nilDeref
  |some (.iface t w)=>do
   if(<-nilAhead ((<-program).types.size+Made.depth) t w name) !=some false then
    unsupported (.noEntry "op/nilCheck.the method's receiver behind this interface value is a nil pointer, or cannot be seen to be none, and the arguments act or may panic (ledger 612)")
   pure (.value (.func (.method name) first captured))
  |_=>pure (.value (.func (.method name) first captured))
 |x=>pure (.value x)
theorem zFn {x:aF}(h:VR S K R x x'):aG P S K (λR a b=>∃v v',a=.value v/\b=.value v'/\VR S K R v v') (zms x) R (zms x'):=by
 unfold zms;have h0:=h
 cases h with
 |pointer h=>cases h with
  |none=>exact .inl vW
  |some h=>exact aG.ret ⟨_,_,rfl,rfl,h0⟩
 |nilIface=>exact .inl vW
 |nilFunc=>exact .inl vW
 |junk h=>exact .inl vW
 |_=>exact aG.ret ⟨_,_,rfl,rfl,h0⟩
end
end Go.Tt
namespace Go.Tt
open Go.Conc
end Go.Tt
namespace Go.Tt
def zaE (p:bT)(t:aN):Bool:=
 match p.underlying t with
 |some (.int _)=>(match p.info? t with|some i=>(match i.desc with| .named "sync.copyChecker" _=>false|_=>true)|none=>true)
 |some d=>zao d
 |none=>false
def zry:aF->Bool
 | .bool _| .int _ _| .string _| .nilFunc| .nilIface| .pointer none| .slice none _ _| .map none| .chan none=>true
 |_=>false
def Za (p:bT)(t:aN):Bool:=match p.underlying t with|some (.map k _)=>zaE p k|_=>true
def zdb (p:bT)(t:aN):Bool:=match p.underlying t with|some (.int _)=>true|_=>false
def dP (fs:aO->Bool):cJ->Bool
 | .tmp _=>true
 | .const v=>zry v
 | .global _=>false
 | .func f=>fs f
def okTab (p:bT):cJ->Bool
 | .global g=>Ba p g
 |_=>false
structure Cl where
 fs:aO->Bool
 gs:aO->Bool
 dy:Bool
abbrev Cl.T (c:Cl)(f:aO):Prop:=c.gs f=true
def zgf (p:bT)(t:aN):Bool:=match p.underlying t with|some (.slice e)=>(match p.underlying e with|some (.int .u8)=>true|_=>false)|_=>false
def zfP (p:bT)(t:aN):Bool:=match p.underlying t with|some .string=>true|_=>false
def zfy (p:bT)(t:aN):cJ->Bool
 | .const (.pointer none)=>(match p.underlying t with|some (.pointer _)=>true|_=>false)
 |_=>false
def zqp (c:Cl):cJ->Bool
 | .func g=>c.gs g
 |x=>dP c.fs x&&c.dy
def s9 (p:bT)(c:Cl):Op->Bool
 | .move x| .assign x| .nilCheck x=>dP c.fs x
 | .pick q a b=>dP c.fs q&&dP c.fs a&&dP c.fs b
 | .alloc _=>true
 | .box _ x=>dP c.fs x
 | .build _ ps=>ps.all λx=>dP c.fs x.2
 | .buildSlice _ _ ps=>ps.all λx=>dP c.fs x.2
 | .load _ a=>dP c.fs a
 | .store _ a x=>dP c.fs a&&dP c.fs x
 | .binOp op t x y _=>dP c.fs x&&dP c.fs y&&(if op matches .eql| .neq then(zaE p t||zfy p t y)&& !(p.eqGuardType p.depth t) else true)
 | .unOp _ _ x=>dP c.fs x
 | .convert s d x=>dP c.fs x&&((zdb p s&&zdb p d)||(zgf p s&&zfP p d))
 | .makeFunc (.func f) a b=>c.fs f&&a.all (dP c.fs)&&b.all (dP c.fs)
 | .makeMap _ r=>(match r with|some x=>dP c.fs x|none=>true)
 | .makeSlice _ l q=>dP c.fs l&&dP c.fs q
 | .makeChan _ l=>dP c.fs l
 | .slice _ x lo hi mx=>dP c.fs x&&(match lo with|some x=>dP c.fs x|none=>true)&&(match hi with|some x=>dP c.fs x|none=>true)&&(match mx with|some x=>dP c.fs x|none=>true)
 | .fieldAddr _ x _| .extract x _=>dP c.fs x
 | .indexAddr _ x i=>(dP c.fs x||okTab p x)&&dP c.fs i
 | .index _ x i=>dP c.fs x&&dP c.fs i
 | .makeInterface _ x| .panic x=>dP c.fs x
 | .lookup t x i _=>dP c.fs x&&dP c.fs i&&Za p t
 | .mapUpdate t m k x=>dP c.fs m&&dP c.fs k&&dP c.fs x&&Za p t
 | .call {callee:=.value f,args,..}=>zqp c f&&args.all (dP c.fs)
 | .call {callee:=.builtin .len,args,..}| .call {callee:=.builtin .cap,args,..}| .call {callee:=.builtin .copy,args,..}| .call {callee:=.builtin .append,args,..}| .call {callee:=.builtin .clear,args,..}=>args.all (dP c.fs)
 | .call {callee:=.builtin .delete,args,argTypes}=>args.all (dP c.fs)&&(match argTypes[0]? with|some t=>Za p t|none=>true)
 |_=>false
section
variable {P:dM}{fs:aO->Bool}{K R:Pr}
abbrev SF (fs:aO->Bool):aO->Prop:=λf=>fs f=true
variable {t:aN}
theorem zfF (h:zaE P.c t=true):Mp P t:=by
 unfold zaE at h;have hu:∀d,P.c.underlying t=some d->P.underlying t=some d:=λd e=>e;split at h
 .next k e=>
  refine⟨⟨_,e,rfl⟩,λk' _ i x hi hd=>?_⟩;simp_all
 .next d aV e=>
  exact⟨⟨d,e,h⟩,λk hk=>absurd (e.symm.trans hk) tL⟩
 .cases h
theorem zya {v:aF}(h:zry v=true):VR (SF fs) K R v v:=by
 cases v with
 |bool b=>exact .bool b
 |int k n=>exact .int k n
 |string s=>exact .string s
 |nilFunc=>exact .nilFunc
 |nilIface=>exact .nilIface
 |pointer a=>cases a with|none=>exact .pointer .none|some a=>cases h
 |slice a n c=>cases a with|none=>exact .slice .none|some a=>cases h
 |map a=>cases a with|none=>exact .map .none|some a=>cases h
 |chan a=>cases a with|none=>exact .chan .none|some a=>cases h
 |_=>cases h
inductive NxR (S:aO->Prop)(T:aO->Prop)(K R:Pr):Next->Next->Prop
 |value {v v':aF}:VR S K R v v'->NxR S T K R (.value v) (.value v')
 |skip:NxR S T K R .skip .skip
 |enter {f:aO} {xs bZ:Array aF}:T f->bO S K R xs bZ->NxR S T K R (.enter f xs) (.enter f bZ)
abbrev NA (S:aO->Prop)(T:aO->Prop)(K:Pr):Pr->Next->Next->Prop:=λR n n'=>NxR S T K R n n'
def qN {S T:aO->Prop}{s s':dA aF}(h:aG P S K (VA S K) s R s'):aG P S K (NA S T K) (do pure (.value (<-s))) R (do pure (.value (<-s'))):=
 aG.bnd h λ_ _ _ _ hv=>aG.ret (.value hv)
variable {α:Type}
def sim_u {S T:aO->Prop}{s s':dA α}(h:aG P S K mE s R s'):aG P S K (NA S T K) (do let _<-s;pure .skip) R (do let _<-s';pure .skip):=
 aG.bnd h λ_ _ _ _ _=>aG.ret .skip
variable {ρ ρ':cJ->aF}
theorem bO.maps {S:aO->Prop}{ok:cJ->Bool}(h:∀x,ok x=true->VR S K R (ρ x) (ρ' x)){xs:Array cJ}(hx:xs.all ok=true):bO S K R (xs.map ρ) (xs.map ρ'):=by
 refine⟨aQ,λi v v' h1 h2=>?_⟩
 grind
theorem zzv {S:aO->Prop}(op:BinOp)(t:aN)(x y:cJ){a a' b b':aF}(ha:VR S K R a a')(hb:VR S K R b b')(h:P.c.eqGuardType P.c.depth t=false)(h':P.g.eqGuardType P.g.depth t=false):
 aG P S K mE (eqGuard op t x y a b) R (eqGuard op t x y a' b'):=by
 have rest:aG P S K mE (do
  match a,b with
  | .nilIface,.nilIface=>
   if(x matches .const _)||(y matches .const _) then return
   if<-Sv Sl t a b then unsupported (.noEntry "binop/eql: two nil values of an interface type with methods, neither of them the literal nil")
  | .agg _,.agg _=>
   if !(<-program).eqGuardType (<-program).depth t then return
   if<-Sv Sl t a b then unsupported (.noEntry "binop/eql: two nil values of an interface type with methods, in a part of a struct or an array")
  |_,_=>pure ()) R (do
  match a',b' with
  | .nilIface,.nilIface=>
   if(x matches .const _)||(y matches .const _) then return
   if<-Sv Sl t a' b' then unsupported (.noEntry "binop/eql: two nil values of an interface type with methods, neither of them the literal nil")
  | .agg _,.agg _=>
   if !(<-program).eqGuardType (<-program).depth t then return
   if<-Sv Sl t a' b' then unsupported (.noEntry "binop/eql: two nil values of an interface type with methods, in a part of a struct or an array")
  |_,_=>pure ()):=by
  cases ha with
  |nilIface=>
   cases hb with
   |nilIface=>
    simp only;by_cases hc:((x matches .const _)||(y matches .const _))=true
    .rw[if_pos hc]
     exact aG.ret rfl
    .rw[if_neg hc]
     refine aG.bnd (A:=mE) ?_ λR1 h1 c _ e=>?_
     .show aG P S K mE (Sv (9999+1) t .nilIface .nilIface) R (Sv (9999+1) t .nilIface .nilIface)
      unfold Sv;refine aG.bnd (nC t) ?_;rintro R1 h1 d _ ⟨rfl,_⟩;cases d<;>exact aG.ret rfl
     .subst e
      cases c
      .exact aG.ret rfl
      .exact .inl lS
   |junk hh=>cases b'<;>first|exact hh.elim|exact aG.ret rfl
   |_=>exact aG.ret rfl
  |agg e1 e2=>
   cases hb with
   |agg e3 e4=>
    simp only;refine aG.bnd Vg ?_;rintro R1 h1 p q ⟨rfl,rfl⟩;refine aG.bnd Vg ?_;rintro R2 h2 p q ⟨rfl,rfl⟩;rw[h,h'];exact aG.ret rfl
   |junk hh=>cases b'<;>first|exact hh.elim|exact aG.ret rfl
   |_=>exact aG.ret rfl
  |junk hh=>cases a'<;>first|exact hh.elim|exact aG.ret rfl
  |_=>exact aG.ret rfl
 unfold eqGuard;cases op<;>first|exact aG.ret rfl|exact rest
variable {x x':aF}
theorem sim_cmp (op:BinOp)(ho:op=.eql\/op=.neq)(he:Mp P t)(hR:uM P K R){y y':aF}(hx:VR (SF fs) K R x x')(hy:VR (SF fs) K R y y'):
 aG P (SF fs) K (VA (SF fs) K) (binOp op t x y) R (binOp op t x' y'):=by
 have k1:aG P (SF fs) K (VA (SF fs) K) (do pure (.bool (<-Ad t x y))) R (do pure (.bool (<-Ad t x' y'))):=
  aG.bnd (zmt he hR hx hy) λR1 _ b _ e=>by subst e;exact aG.ret (.bool _)
 have k2:aG P (SF fs) K (VA (SF fs) K) (do pure (.bool (!(<-Ad t x y)))) R (do pure (.bool (!(<-Ad t x' y')))):=
  aG.bnd (zmt he hR hx hy) λR1 _ b _ e=>by subst e;exact aG.ret (.bool _)
 by_cases hf:Flat x/\Flat y
 rotate_left
 .obtain⟨d,hd,ok⟩:=he.ex
  have hn:=zk2 hd ok hf;refine .inl ?_
  rcases ho with rfl|rfl<;>cases x<;>cases y<;>first
   |exact(hf ⟨True.intro,True.intro⟩).elim
   |exact hn.bnd _
 rcases ho with rfl|rfl
 .cases hx with
  |int k a=>
   cases hy with
   |int k' b=>
    by_cases hk:k=k'
    .subst hk;simp only[binOp,ne_eq,not_true_eq_false,if_false];exact zjO _ _ _
    .simp only[binOp,ne_eq,hk,not_false_eq_true,if_true];exact .inl bQ
   |junk hh=>exact hf.2.elim
   |_=>exact k1
  |string a=>
   cases hy with
   |string b=>exact zm8 .eql a b
   |junk hh=>exact hf.2.elim
   |_=>exact k1
  |junk hh=>exact hf.1.elim
  |_=>cases hy<;>first|exact k1|exact hf.2.elim
 .cases hx with
  |int k a=>
   cases hy with
   |int k' b=>
    by_cases hk:k=k'
    .subst hk;simp only[binOp,ne_eq,not_true_eq_false,if_false];exact zjO _ _ _
    .simp only[binOp,ne_eq,hk,not_false_eq_true,if_true];exact .inl bQ
   |junk hh=>exact hf.2.elim
   |_=>exact k2
  |string a=>
   cases hy with
   |string b=>exact zm8 .neq a b
   |junk hh=>exact hf.2.elim
   |_=>exact k2
  |junk hh=>exact hf.1.elim
  |_=>cases hy<;>first|exact k2|exact hf.2.elim
theorem zee {d:TypeDesc}(hd:P.c.underlying t=some d){β:Type}{f:TypeDesc->dA β}(hf:eY P (f d)):eY P (underlying t>>=f):=λw hw=>by
 obtain⟨h1,w1,h2,h3⟩:=hf w hw;refine⟨h1,w1,?_,h3⟩;have hg:P.g.underlying t=some d:=hd;have hu:(underlying t).run P.g w=.ok d w:=by simp[underlying,program,bK,bind,x3,pure,hg]
 simp_all
variable {p:bT}
theorem zGe {y:cJ}(h:zfy p t y=true):∃el,p.underlying t=some (.pointer el)/\y=.const (.pointer none):=by
 unfold zfy at h
 grind
theorem zCr {el:aN}(op:BinOp)(ho:op=.eql\/op=.neq)(he:P.c.underlying t=some (.pointer el))(hx:VR (SF fs) K R x x'):
 aG P (SF fs) K (VA (SF fs) K) (binOp op t x (.pointer none)) R (binOp op t x' (.pointer none)):=by
 have key:aG P (SF fs) K mE (D3 (9999+1) t x (.pointer none)) R (D3 (9999+1) t x' (.pointer none)):=by
  unfold D3;refine aG.bnd (nC t) ?_;rintro R1 h1 d _ ⟨rfl,hd⟩;obtain rfl:d=.pointer el:=cH ((hd).symm.trans he)
  cases hx with
  |pointer hp=>
   cases hp with
   |none=>exact aG.ret rfl
   |some _=>exact aG.ret rfl
  |_=>exact .inl zh6
 have k1:aG P (SF fs) K (VA (SF fs) K) (do pure (.bool (<-Ad t x (.pointer none)))) R (do pure (.bool (<-Ad t x' (.pointer none)))):=
  aG.bnd key λR1 _ b _ e=>by subst e;exact aG.ret (.bool _)
 have k2:aG P (SF fs) K (VA (SF fs) K) (do pure (.bool (!(<-Ad t x (.pointer none))))) R (do pure (.bool (!(<-Ad t x' (.pointer none))))):=
  aG.bnd key λR1 _ b _ e=>by subst e;exact aG.ret (.bool _)
 by_cases hj:x=.nilFunc
 .subst hj
  refine .inl ?_;have hn:eY P (Ad t .nilFunc (.pointer none)):=by
   show eY P (D3 (9999+1) t .nilFunc (.pointer none));unfold D3;exact zee he zh6
  rcases ho with rfl|rfl<;>exact hn.bnd _
 rcases ho with rfl|rfl
 .cases hx with
  |junk _=>exact absurd rfl hj
  |_=>exact k1
 .cases hx with
  |junk _=>exact absurd rfl hj
  |_=>exact k2
variable {s:aN}
theorem zF5 {d:aN}(hs:zdb P.c s=true)(hd:zdb P.c d=true){S:aO->Prop}(hx:VR S K R x x'):aG P S K (VA S K) (convert s d x) R (convert s d x'):=by
 unfold convert;refine aG.bnd (nC s) ?_;rintro R1 h1 a _ ⟨rfl,ha⟩;refine aG.bnd (nC d) ?_;rintro R2 h2 b _ ⟨rfl,hb⟩;have fX:P.c.underlying s=some a:=ha;have b9:P.c.underlying d=some b:=hb;unfold zdb at hs hd;rw[fX] at hs;rw[b9] at hd;cases a<;>simp only[jG] at hs;cases b<;>simp only[jG] at hd
 cases hx with
 |int k n=>exact aG.ret (.int _ _)
 |pointer h=>cases h<;>exact .inl lS
 |_=>exact .inl lS
theorem zBr (h:zgf p s=true):∃e,p.underlying s=some (.slice e)/\p.underlying e=some (.int .u8):=by
 unfold zgf at h
 grind
theorem zz1 (h:zfP p s=true):p.underlying s=some .string:=by
 unfold zfP at h
 grind
theorem zEb {S:aO->Prop}(n:Int):aG P S K (VA S K) (zjR n) R (zjR n):=by
 unfold zjR
 first|exact aG.ret (.string _)|(split<;>exact aG.ret (.string _))
theorem zGN {d:aN}(hs:zgf P.c s=true)(hd:zfP P.c d=true){S:aO->Prop}(hx:VR S K R x x'):aG P S K (VA S K) (convert s d x) R (convert s d x'):=by
 obtain⟨e,yQ,Ai⟩:=zBr hs;have Tj:=zz1 hd;by_cases hj:x=.nilFunc
 .subst hj
  refine .inl ?_;unfold convert;exact zee yQ (zee Tj (zee Ai bQ))
 unfold convert;refine aG.bnd (nC s) ?_;rintro R1 h1 a _ ⟨rfl,ha⟩;refine aG.bnd (nC d) ?_;rintro R2 h2 b _ ⟨rfl,hb⟩;obtain rfl:a=.slice e:=cH ((ha).symm.trans yQ);obtain rfl:b=.string:=cH ((hb).symm.trans Tj)
 have tail:∀{x x':aF},VR S K R2 x x'->aG P S K (VA S K) (do match<-underlying e with| .int .u8=>zbw x| .int .i32=>zrj x|_=>stuck "Convert: a slice of what to string?") R2
  (do match<-underlying e with| .int .u8=>zbw x'| .int .i32=>zrj x'|_=>stuck "Convert: a slice of what to string?"):=by
  intro x x' hx;refine aG.bnd (nC e) ?_;rintro R3 h3 c _ ⟨rfl,hc⟩;obtain rfl:c=.int .u8:=cH ((hc).symm.trans Ai);exact zHM (hx.mono h3.le)
 have zW:=(hx.mono h1.le).mono h2.le
 cases hx with
 |int k n=>exact zEb n
 |string s=>exact aG.ret (.string s)
 |nilFunc=>exact absurd rfl hj
 |junk _=>exact absurd rfl hj
 |slice h=>cases h<;>exact tail zW
 |_=>exact tail zW
def qG (p:bT)(q:Cl):Code->Bool
 | .skip| .ret| .exit _| .label _=>true
 | .region _ ops _=>ops.all λo=>s9 p q o.op
 | .seq a b=>qG p q a&&qG p q b
 | .cond c a b=>dP q.fs c&&qG p q a&&qG p q b
 | .block _ c| .loop c| .scope c=>qG p q c
 |_=>false
def uC (P:dM)(fs:aO->Bool)(f:aO):Cl:=if P.lw f then⟨fs,P.lw,false⟩ else⟨fs,P.gs,P.dy⟩
theorem zin (P:dM)(fs:aO->Bool)(f:aO):(uC P fs f).fs=fs:=by unfold uC;split<;>rfl
structure Fit (P:dM)(fs:aO->Bool):Prop where
 zero:Kf P (SF fs)
 fn:∀f,P.gs f=true->P.op f=false->∃fn c,P.g.funcs[f]? =some fn/\P.c.funcs[f]? =some fn/\(fn.name== "runtime.NumGoroutine")=false/\fn.body=some c/\qG P.c (uC P fs f) c=true
 opq:∀f,P.gs f=true->P.op f=true->∃fn fn' c c',P.g.funcs[f]? =some fn/\P.c.funcs[f]? =some fn'/\(fn.name== "runtime.NumGoroutine")=false/\(fn'.name== "runtime.NumGoroutine")=false/\fn.body=some c/\fn'.body=some c'
 low:∀f,P.lw f=true->P.op f=false/\P.gs f=true
 dyn:P.dy=true->∀f,fs f=true->P.gs f=true
 guard:∀t,P.g.eqGuardType P.g.depth t=P.c.eqGuardType P.c.depth t
theorem zxj (F:Fit P fs){T:aO->Prop}{f:aO}(hf:P.gs f=true)(hT:T f){xs bZ:Array aF}(h:bO (SF fs) K R xs bZ):aG P (SF fs) K (NA (SF fs) T K) (callFunc f xs) R (callFunc f bZ):=by
 unfold callFunc;refine aG.bnd Vg ?_;rintro R1 h1 p q ⟨rfl,rfl⟩
 cases ho:P.op f with
 |false=>
  obtain⟨fn,c,e1,e2,e3,e4,_⟩:=F.fn f hf ho;simp only[e1,e2,e3,e4,zr3,jG,if_false];exact aG.ret (.enter hT (h.mono h1.le))
 |true=>
  obtain⟨fn,fn',c,c',e1,e2,e3,e4,e5,e6⟩:=F.opq f hf ho;simp only[e1,e2,e3,e4,e5,e6,zr3,jG,if_false];exact aG.ret (.enter hT (h.mono h1.le))
theorem zd1 {S:aO->Prop}(hρ:∀x,dP fs x=true->VR S K R (ρ x) (ρ' x)){r:Option cJ}(h:(match r with|some x=>dP fs x|none=>true)=true):Ag S K R (r.map ρ) (r.map ρ'):=by
 cases r with
 |none=>exact .none
 |some x=>exact .some (hρ x h)
variable {ps:Array (Nat×cJ)}
theorem zoL {S:aO->Prop}(hρ:∀x,dP fs x=true->VR S K R (ρ x) (ρ' x))(h:(ps.all λx=>dP fs x.2)=true):PsR S K R (ps.map λ(i,x)=>(i,ρ x)).toList (ps.map λ(i,x)=>(i,ρ' x)).toList:=by
 rw[zqA,zqA];have h':∀x∈ps.toList,dP fs x.2=true:=λx hx=>by
  rw[Array.all_eq_true'] at h;exact h x (by simpa using hx)
 generalize ps.toList=l at h'⊢
 induction l with
 |nil=>exact .nil
 |cons a l ih=>
  obtain⟨i,x⟩:=a;exact .cons (hρ x (h' (i,x) aQ)) (ih λy hy=>h' y (by simp[hy]))
theorem zEy (q:Ask α):∀w:aE,(w.ask q).2.heap=w.heap:=by
 induction q with
 |done a=>intro w;rfl
 |ask zJY range k ih=>
  intro w;unfold aE.ask
  grind
theorem zDU (c:Sys):n8 P (sys c):=λw hw=>.inl ⟨(w.sys c).1,(w.sys c).2,rfl,λb cc e=>by
 have:(w.sys c).2.heap=w.heap:=by
  have h:=zEy (Kernel.perform c w.os) w;unfold aE.sys;split
  .rfl
  .simp_all
 rw[this];exact hw b cc e⟩
theorem zCL :eY P (zuB x):=by
 unfold zuB;cases x<;>first|exact ze1|exact bQ|skip
 refine eY.then ?_ λn=>?_
 .unfold Instr.panicnil
  refine(zDU _).bnd λr=>?_;cases r<;>first|exact .never bQ|exact zmB.bnd λ_=>n8.ret _
 .split
  .exact ze1
  .exact vW
theorem zir (F:Fit P fs)(hR:uM P K R)(hρ:∀x,dP fs x=true->VR (SF fs) K R (ρ x) (ρ' x))(Dv:∀g,ρ (.func g)=.func (.func g) #[] #[])(zEB:∀g,ρ' (.func g)=.func (.func g) #[] #[])(zmv:∀g,ρ (.global g)=.pointer (some ⟨g,0,none⟩))(zI9:∀g,ρ' (.global g)=.pointer (some ⟨g,0,none⟩))(tX:∀v,ρ (.const v)=v)(zAd:∀v,ρ' (.const v)=v){q:Cl}(hq:q.fs=fs)(zyF:∀f,q.gs f=true->P.gs f=true)(zpw:q.dy=true->∀f,fs f=true->q.gs f=true){o:aX}(ok:s9 P.c q o.op=true):
 aG P (SF fs) K (NA (SF fs) q.T K) (aS ρ o) R (aS ρ' o):=by
 obtain⟨dst,op,type,pos,after,guard⟩:=o;subst hq;simp only at ok;unfold aS
 cases op with
 |move x=>exact aG.ret (.value (hρ x ok))
 |assign x=>exact aG.ret (.value (hρ x ok))
 |pick c a b=>
  simp only[s9,iT] at ok;refine aG.bnd (zDy (hρ c ok.1.1)) ?_;rintro R1 h1 x _ rfl;cases x
  .exact aG.ret (.value ((hρ b ok.2).mono h1.le))
  .exact aG.ret (.value ((hρ a ok.1.2).mono h1.le))
 |alloc t=>exact qN (zB7 F.zero t)
 |box t x=>exact qN (sim_box t (hρ x ok))
 |load t a=>exact qN (zy3 t (hρ a ok))
 |store t a x=>
  simp only[s9,iT] at ok;exact sim_u (zDs t (hρ a ok.1) (hρ x ok.2))
 |binOp op t x y t'=>
  simp only[s9,iT] at ok;obtain⟨⟨hx,hy⟩,hk⟩:=ok;by_cases ho:op=.eql\/op=.neq
  .have cY:(zaE P.c t=true\/zfy P.c t y=true)/\P.c.eqGuardType P.c.depth t=false:=by grind
   refine qN ?_;refine aG.bnd (zzv op t x y (hρ x hx) (hρ y hy) cY.2 (by rw[F.guard];exact cY.2)) ?_;rintro R1 h1 _ _ _;rcases cY.1 with rJ|rJ
   .exact sim_cmp op ho (zfF rJ) (h1.ok hR) ((hρ x hx).mono h1.le) ((hρ y hy).mono h1.le)
   .obtain⟨el,e1,e2⟩:=zGe rJ
    subst e2;rw[tX,zAd];exact zCr op ho e1 ((hρ x hx).mono h1.le)
  .have xL:op≠ .eql/\op≠ .neq:=⟨λe=>ho (.inl e),λe=>ho (.inr e)⟩
   refine qN ?_;have hg:∀a b,eqGuard op t x y a b=lR ():=λa b=>by
    unfold eqGuard;simp_all
   rw[hg,hg];refine aG.bnd (A:=mE) (aG.ret rfl) ?_;rintro R1 h1 _ _ _;exact zHq op t xL (h1.ok hR) ((hρ x hx).mono h1.le) ((hρ y hy).mono h1.le)
 |unOp op t x=>exact qN (zDk op (hρ x ok))
 |convert s d x=>
  simp only[s9,iT,C4] at ok;rcases ok.2 with h|h
  .exact qN (zF5 h.1 h.2 (hρ x ok.1))
  .exact qN (zGN h.1 h.2 (hρ x ok.1))
 |nilCheck x=>
  have:=zFn (P:=P) (hρ x ok);exact this.mono λR' _ a b h=>by
   obtain⟨v,v',rfl,rfl,h⟩:=h;exact .value h
 |build t ps=>exact qN (zHj F.zero t (zoL hρ ok))
 |buildSlice t n ps=>exact qN (zC1 F.zero t n (zoL hρ ok))
 |makeFunc fn a b=>
  cases fn with
  |func f=>
   simp only[s9,iT] at ok;have ha:=bO.maps hρ ok.1.2;have hb:=bO.maps hρ ok.2;exact qN (aG.ret (.func ok.1.1 ha.1 ha.2 hb.1 hb.2))
  |_=>cases ok
 |makeMap t r=>exact qN (zC7 t (zd1 hρ ok))
 |makeSlice t l c=>
  simp only[s9,iT] at ok;exact qN (zAQ F.zero t (hρ l ok.1) (hρ c ok.2))
 |makeChan t l=>exact qN (zCq t (hρ l ok))
 |slice t x lo hi mx=>
  simp only[s9,iT] at ok;exact qN (zFJ t (hρ x ok.1.1.1) (zd1 hρ ok.1.1.2) (zd1 hρ ok.1.2) (zd1 hρ ok.2))
 |fieldAddr t x f=>exact qN (zJa t (hρ x ok) f)
 |extract x i=>exact qN (zF1 (hρ x ok) i)
 |indexAddr t x i=>
  simp only[s9,iT,C4] at ok;have hx:VR (SF q.fs) K R (ρ x) (ρ' x):=by
   rcases ok.1 with h|h
   .exact hρ x h
   .cases x with
    |global g=>rw[zmv,zI9];exact .pointer (.some (.mk (hR.tb g h)))
    |_=>cases h
  exact qN (zI8 t hx (hρ i ok.2))
 |makeInterface t x=>exact qN (zHy t (hρ x ok))
 |panic x=>exact qN (.inl zCL)
 |index t x i=>
  simp only[s9,iT] at ok;exact qN (zBy t (hρ x ok.1) (hρ i ok.2))
 |lookup t x i c=>
  simp only[s9,iT] at ok;refine qN (zId F.zero (λk e he=>?_) hR (hρ x ok.1.1) (hρ i ok.1.2) c);have hm:=ok.2;unfold Za at hm;rw[show P.c.underlying t=some (.map k e) from he] at hm;exact zfF hm
 |mapUpdate t m k x=>
  simp only[s9,iT] at ok;refine sim_u (zFo (λk e he=>?_) hR (hρ m ok.1.1.1) (hρ k ok.1.1.2) (hρ x ok.1.2));have hm:=ok.2;unfold Za at hm;rw[show P.c.underlying t=some (.map k e) from he] at hm;exact zfF hm
 |call c=>
  obtain⟨callee,args,jM⟩:=c
  cases callee with
  |value f=>
   simp only[s9,iT] at ok;have ha:=bO.maps hρ ok.2;have key:(∀g,f≠ .func g)->aG P (SF q.fs) K (NA (SF q.fs) q.T K) (aS ρ ⟨dst,.call ⟨.value f,args,jM⟩,type,pos,after,guard⟩) R (aS ρ' ⟨dst,.call ⟨.value f,args,jM⟩,type,pos,after,guard⟩):=by
    intro aV;have h1:dP q.fs f=true/\q.dy=true:=by
     have:=ok.1;unfold zqp at this
     cases f with
     |func g=>simp_all
     |_=>simpa using this
    have hf:=hρ f h1.1;unfold aS;simp only[resolve];unfold Dh;generalize ρ f=vf at hf⊢;generalize ρ' f=vf' at hf⊢
    cases hf with
    |nilFunc=>
     refine .inl ?_;intro w hw;exact(vW (P:=P) (α:=Next) (e:=.nilDeref)) w hw
    |junk _=>
     refine .inl ?_;intro w hw;exact(vW (P:=P) (α:=Next) (e:=.nilDeref)) w hw
    |func hs e1 At e2 h2=>
     show aG P _ K _ (callFunc _ _) R (callFunc _ _);exact zxj F (zyF _ (zpw h1.2 _ hs)) (zpw h1.2 _ hs) (bO.append (bO.append ⟨e1,At⟩ ha) ⟨e2,h2⟩)
    |_=>exact .inl (eY.bnd bQ _)
   cases f with
   |func g=>
    have hg:q.gs g=true:=ok.1;simp only[resolve];unfold Dh;rw[Dv,zEB];show aG P _ K _ (callFunc _ _) R (callFunc _ _);exact zxj F (zyF _ hg) hg (bO.append (bO.append bO.empty ha) bO.empty)
   |_=>exact key (λg e=>by cases e)
  |builtin b=>
   cases b with
   |len=>exact qN (sim_len jM type (bO.maps hρ ok))
   |cap=>exact qN (sim_cap jM type (bO.maps hρ ok))
   |copy=>exact qN (zHB jM type (bO.maps hρ ok))
   |clear=>exact qN (zFE F.zero jM type (bO.maps hρ ok))
   |append=>
    by_cases hi:∃xt k,jM[1]? =some xt/\P.underlying xt=some (.int k)
    .obtain⟨xt,k,e1,e2⟩:=hi
     exact qN (zD4 F.zero type e1 e2 (bO.maps hρ ok))
    .refine qN (zF6 F.zero type (λxt d he hd k hk=>?_) (bO.maps hρ ok))
     simp_all
   |delete=>
    simp only[s9,iT] at ok;refine qN (zII type (λmt k e he hd=>?_) hR (bO.maps hρ ok.1));have h2:=ok.2;rw[he] at h2;simp only at h2;unfold Za at h2;rw[show P.c.underlying mt=some (.map k e) from hd] at h2;exact zfF h2
   |_=>cases ok
  |invoke x y=>cases ok
 |_=>cases ok
end
def tp (w:aE)(T:kS)(e:Nat):World:={w with tape:=T,drawn:=e}
def Ol {α:Type}(p:bT)(s:dA α)(w:aE):Prop:=
 ∀x w',s.run p w=.ok x w'->w'.tape=w.tape/\w.drawn<=w'.drawn/\∀T e,(∀n,n<w'.drawn-w.drawn->∀q,T (e+n) q=w.tape (w.drawn+n) q)->s.run p (tp w T e)=.ok x (tp w' T (e+(w'.drawn-w.drawn)))
variable {α:Type}{p:bT}{w:aE}
def Ol.no {s:dA α}(h:∀x w',s.run p w≠ .ok x w'):Ol p s w:=λx w' e=>absurd e (h x w')
theorem Ol.after {s lO:dA α}{aJ:aE}(h:Ol p lO aJ)(hr:s.run p w=lO.run p aJ)(ht:aJ.tape=w.tape)(hd:aJ.drawn=w.drawn)(zL:∀T e,s.run p (tp w T e)=lO.run p (tp aJ T e)):Ol p s w:=by
 intro x w' e;rw[hr] at e;obtain⟨h1,h2,h3⟩:=h x w' e;simp_all
theorem aG.locl {P:dM}{S:aO->Prop}{β:Type}{K:Pr}{A:Pr->α->β->Prop}{G:Gp}{St:Nat->Prop}(hG:G=P.gp)(s:dA α):
 ∀{R:Pr} {w W:aE} {s':dA β},aG P S K A s R s'->dB S K R G St w W->Tp w W->Ol P.g s w:=by
 induction s with
 |pure a=>
  rintro R w W s' _ hw ht x w' e;simp only[bK,vC] at e;obtain⟨rfl,rfl⟩:=e;exact⟨rfl,bL _,λT e _=>by simp[bK]⟩
 |load m a k ih=>
  rintro R w W s' (hn|⟨rfl,a',k',rfl,ha,hk⟩) hw ht
  .exact .no (hn.no hw.np)
  obtain⟨qV⟩:=ha;rename_i b b' o sp;obtain⟨ob,Dm,h1,h2,h3⟩:=hw.cont b b' qV
  cases h3 with
  |cells hc hz=>
   rename_i c c' T fz J7
   cases sp with
   |some sp=>exact .no λx w'=>by simp[bK,lU,h1,zM,rK]
   |none=>
    cases hv:c[o]? with
    |none=>exact .no λx w'=>by simp[bK,lU,h1,zM,rK,hv]
    |some v=>
     obtain⟨v',Me,wI⟩:=hc.get hv;have e1:w.cell? ⟨b,o,none⟩=some v:=by simp[lU,h1,hv]
     refine(ih v (hk v v' wI) hw ht).after (by rw[bK,e1]) rfl rfl λT e=>?_;rw[bK,show(tp w T e).cell? ⟨b,o,none⟩=some v from e1]
  |_=>exact .no λx w'=>by simp[bK,lU,h1,zM,rK]
 |store m a v k ih=>
  rintro R w W s' (hn|⟨rfl,a',v',k',rfl,ha,hv,hk⟩) hw ht
  .exact .no (hn.no hw.np)
  obtain⟨qV⟩:=ha;rename_i b b' o sp;by_cases Rj:∃cs,v=.agg cs
  .obtain⟨cs,rfl⟩:=Rj;exact .no λx w'=>by simp[bK]
  by_cases Fw:∃cs,v=.tuple cs
  .obtain⟨cs,rfl⟩:=Fw;exact .no λx w'=>by simp[bK]
  have cP:∀w:aE,(dA.store .plain ⟨b,o,sp⟩ v k).run P.g w=(match w.cell? ⟨b,o,sp⟩ with
   |some _=>if w.frozen? ⟨b,o,sp⟩ then .halt (.unsupported (.unsafePointer "a write to bytes that a string shares")) w else k.run P.g (w.setCell ⟨b,o,sp⟩ v)
   |none=>match w.farStore P.g ⟨b,o,sp⟩ v (zcK== .atomic) with
    | .ok (w,_)=>k.run P.g w
    | .error h=>.halt h w):=λw=>by
   rw[bK]
   .rfl
   .simp_all
   simp_all
  obtain⟨ob,Dm,h1,h2,h3⟩:=hw.cont b b' qV
  cases h3 with
  |cells hc hz=>
   rename_i c c' T fz J7
   cases sp with
   |some sp=>exact .no λx w'=>by rw[cP];simp[lU,h1,Du,rK]
   |none=>
    cases gU:c[o]? with
    |none=>exact .no λx w'=>by rw[cP];simp[lU,h1,Du,rK,gU]
    |some v0=>
     have e1:w.cell? ⟨b,o,none⟩=some v0:=by simp[lU,h1,gU]
     cases oH:w.frozen? ⟨b,o,none⟩ with
     |true=>exact .no λx w'=>by simp_all
     |false=>
      have Vo:¬Lf fz o:=by
       intro⟨z1,z2⟩;simp[aE.frozen?,h1,z1,z2] at oH
      have Ap:¬St b:=by
       intro hs;obtain⟨_,c2,T2,hi,g1,g2⟩:=hw.st b hs;rw[h1] at g1;injection g1 with g1;injection g1 with g1 _ g3;subst g1 g3;exact Vo ⟨mK _,Nat.lt_of_lt_of_le (dR.1 gU).1 g2⟩
      have st:=nQ.upd hw qV Ap (o7.cells (T:=T) (hc.set o hv) hz);refine(ih hk st.rel (ht.step st)).after (by rw[cP,e1];simp only[oH,jG,if_false];rw[Xp h1]) rfl rfl λT' e=>?_;rw[cP,show(tp w T' e).cell? ⟨b,o,none⟩=some v0 from e1];simp only[show(tp w T' e).frozen? ⟨b,o,none⟩=false from oH,jG,if_false];rw[Xp (w:=tp w T' e) h1];rfl
  |_=>exact .no λx w'=>by rw[cP];simp[lU,h1,Du,rK]
 |new o k ih=>
  rintro R w W s' (hn|⟨o',k',rfl,ho,hk⟩) hw ht
  .exact .no (hn.no hw.np)
  have st:=nQ.push hw ho;exact(ih _ (hk _ _ ⟨λb hb=>absurd (hw.lt _ _ hb).1 (Jk _),λa ha=>absurd (hw.lt _ _ ha).2 (Jk _),by subst hG;exact hw.gle⟩) st.rel (ht.step st)).after My rfl rfl λT e=>by rw[bK];rfl
 |shape r k ih=>
  rintro R w W s' (hn|⟨r',k',rfl,tV,hk⟩) hw ht
  .exact .no (hn.no hw.np)
  exact(ih _ (hk _) hw ht).after My rfl rfl λT e=>by rw[bK];rfl
 |freeze a n k ih=>
  rintro R w W s' (hn|h) hw ht
  .exact .no (hn.no hw.np)
  .exact h.elim
 |frozen a k ih=>
  rintro R w W s' (hn|⟨r',k',rfl,hk⟩) hw ht
  .exact .no (hn.no hw.np)
  exact(ih _ (hk _ true) hw ht).after My rfl rfl λT e=>by rw[bK];rfl
 |getObj r k ih=>
  rintro R w W s' (hn|⟨r',k',rfl,tV,hk⟩) hw ht
  .exact .no (hn.no hw.np)
  rcases hw.orR tV with y|y
  .obtain⟨ob,Dm,h1,h2,h3⟩:=hw.cont r r' y
   have go:(∀c T fz,ob≠ .cells c T fz)->Ol P.g (.getObj r k) w:=λn1=>by
    refine(ih ob (hk _ _ h3) hw ht).after ?_ rfl rfl λT e=>?_
    .rw[bK,h1];simp_all
    .rw[bK,show(tp w T e).heap[r]? =some ob from h1];simp_all
   cases h3 with
   |cells _ _=>exact .no λx w'=>by rw[bK,h1];simp
   |_=>exact go aQ
  .exact .no λx w'=>by rw[bK,y];simp[pN]
 |setObj r o k ih=>
  rintro R w W s' (hn|⟨r',o',k',rfl,tV,ho,hk⟩) hw ht
  .exact .no (hn.no hw.np)
  rcases hw.orR tV with y|y
  .obtain⟨ob,Dm,h1,h2,h3⟩:=hw.cont r r' y
   have go:(∀c T fz,ob≠ .cells c T fz)->Ol P.g (.setObj r o k) w:=λn1=>by
    have Ap:¬St r:=by
     intro hs;obtain⟨_,c2,T2,hi,g1,g2⟩:=hw.st r hs;rw[h1] at g1;injection g1 with g1;exact n1 _ _ _ g1
    have st:=nQ.upd hw y Ap ho;refine(ih hk st.rel (ht.step st)).after ?_ rfl rfl λT e=>?_
    .rw[bK,h1];simp_all
    .rw[bK,show(tp w T e).heap[r]? =some ob from h1];cases ob<;>first|rfl|exact absurd rfl (n1 _ _ _)
   cases h3 with
   |cells _ _=>exact .no λx w'=>by rw[bK,h1];simp
   |_=>exact go aQ
  .exact .no λx w'=>by rw[bK,y];simp[pN]
 |choose q k ih=>
  rintro R w W s' (hn|⟨k',rfl,hk⟩) hw ht
  .exact .no (hn.no hw.np)
  cases hq:q.forced with
  |true=>exact(ih 0 (hk 0) hw ht).after (by rw[bK,hq];rfl) rfl rfl λT e=>by rw[bK,hq];rfl
  |false=>
   have st:=nQ.draw hw;intro x w' e;rw[bK,hq] at e;simp only[jG,if_false] at e;obtain⟨h1,h2,h3⟩:=ih _ (hk _) st.rel (ht.step st) x w' e;simp only at h1 h2 h3;refine⟨h1,aC,λT e' ha=>?_⟩;rw[bK,hq];simp only[jG,if_false];have ea:T e' q=w.tape w.drawn q:=ha 0 aC q;have:=h3 T (e'+1) (λn hn q'=>by rw[show e'+1+n=e'+(n+1) by omega,show w.drawn+1+n=w.drawn+(n+1) by omega];exact ha (n+1) aC q');show bK P.g (k (q.cut (T e' q))) (tp w T (e'+1))=_;rw[ea];rw[show tp w T (e'+1)=tp {w with drawn:=w.drawn+1} T (e'+1) from rfl,this];congr 2;omega
 |sys c k ih=>
  rintro R w W s' (hn|h) hw ht
  .exact .no (hn.no hw.np)
  .exact h.elim
 |program k ih=>
  rintro R w W s' (hn|⟨k',rfl,hk⟩) hw ht
  .exact .no (hn.no hw.np)
  exact(ih _ hk hw ht).after My rfl rfl λT e=>by rw[bK]
 |mark m k ih=>
  rintro R w W s' (hn|⟨rfl,k',rfl,hk⟩) hw ht
  .exact .no (hn.no hw.np)
  exact(ih hk hw ht).after My rfl rfl λT e=>by rw[bK]
 |halt h=>
  rintro R w W s' _ hw ht;exact .no λx w'=>by simp[bK]
end Go.Tt
namespace Go.Tt
open Go.Conc (G)
structure Fm where
 fn:aO
 tmps:Array aF
 todo:List dI
 ret:Bool
def Fm.fr (m:Fm):Frame:={fn:=m.fn,tmps:=m.tmps,todo:=m.todo,defers:=[],mode:=if m.ret then .returning else .run,kind:=.normal}
def Fm.eval (m:Fm):cJ->aF
 | .tmp t=>m.tmps.getD t aA
 | .const v=>v
 | .global g=>.pointer (some ⟨g,0,none⟩)
 | .func f=>.func (.func f) #[] #[]
def Fm.fin (m:Fm)(ops:Array aX)(i:Nat)(rest:List Nat)(k:List dI)(v:aF):Fm:=
 {m with tmps:=match(ops[i]?).bind (·.dst) with|some d=>m.tmps.setIfInBounds d v|none=>m.tmps,todo:=.inRegion ops rest::k}
def yK (t:Array aF):Qi->dA aF
 | .tmp s=>pure (t.getD s aA)
 | .cell s ty=>do loadVar ty (<-asAddr (t.getD s aA))
def oC:List Qi->Array aF->dA aF
 |[],_=>pure (.tuple #[])
 |[a],t=>yK t a
 |[a,b],t=>do
  let x<-yK t a
  let y<-yK t b
  pure (.tuple #[x,y])
 |[a,b,c],t=>do
  let x<-yK t a
  let y<-yK t b
  let z<-yK t c
  pure (.tuple #[x,y,z])
 |[a,b,c,d],t=>do
  let x<-yK t a
  let y<-yK t b
  let z<-yK t c
  let u<-yK t d
  pure (.tuple #[x,y,z,u])
 |_,_=>stuck ""
def Dq (l:List Qi):Prop:=l=[]\/(∃a,l=[a])\/(∃a b,l=[a,b])\/(∃a b c,l=[a,b,c])\/∃a b c d,l=[a,b,c,d]
variable {fn:Func}
theorem zdQ {tmps:Array aF}(h:Dq fn.results.toList):results fn tmps=oC fn.results.toList tmps:=by
 rcases h with e|⟨a,e⟩|⟨a,b,e⟩|⟨a,b,c,e⟩|⟨a,b,c,d,e⟩
 .have e':=zbb.1 e
  simp[results,e',oC]
 .have e':=zbb.1 e
  rw[e];cases a<;>simp[results,e',oC,yK]
 .have e':=zbb.1 e
  rw[e];cases a<;>cases b<;>simp[results,e',oC,yK]
 .have e':=zbb.1 e
  rw[e];cases a<;>cases b<;>cases c<;>simp[results,e',oC,yK]
 .have e':=zbb.1 e
  rw[e];cases a<;>cases b<;>cases c<;>cases d<;>simp[results,e',oC,yK]
def TF {α:Type}(p:bT)(s:dA α):Prop:=∀w x w',s.run p w=.ok x w'->w'=w/\∀T e,s.run p (tp w T e)=.ok x (tp w T e)
variable {α:Type}{p:bT}
theorem TF.ret (a:α):TF p (lR a:dA α):=λw x w' h=>by simp_all
theorem TF.bnd {β:Type}{s:dA α}{f:α->dA β}(hs:TF p s)(hf:∀a,TF p (f a)):TF p (s>>=f):=λw x w' h=>by
 have h2:=(uG p s f w).symm.trans h
 cases hx:s.run p w with
 |halt y w2=>rw[hx] at h2;cases h2
 |ok a w1=>
  rw[hx] at h2;obtain⟨rfl,h3⟩:=hs w a w1 hx;obtain⟨rfl,h4⟩:=hf a w1 x w' h2;refine⟨rfl,λT e=>(uG p s f _).trans ?_⟩;rw[h3 T e];exact h4 T e
def TF.halt {s:dA α}(h:∀w x w',s.run p w≠ .ok x w'):TF p s:=λw x w' e=>absurd e (h w x w')
theorem zhI {Ry:String}:TF p (stuck Ry:dA α):=TF.halt λw x w' e=>by simp_all
theorem zsH :TF p program:=λw x w' h=>by simp_all
theorem zxm (a:bC):TF p (load a):=λw x w' h=>by
 unfold load at h⊢;simp only[bK] at h⊢
 cases hc:w.cell? a with
 |none=>
  rw[hc] at h;simp only at h
  cases hf:zM p w a (zcK==zhT) with
  |error y=>rw[hf] at h;cases h
  |ok v=>
   rw[hf] at h;simp only[vC] at h;refine⟨h.2.symm,λT e=>?_⟩;have e1:(tp w T e).cell? a=none:=hc;have e2:zM p (tp w T e) a (zcK==zhT)=.ok v:=(show zM p (tp w T e) a (zcK==zhT)=zM p w a (zcK==zhT) from rfl).trans hf;simp_all
 |some v=>
  rw[hc] at h;simp only[vC] at h;refine⟨h.2.symm,λT e=>?_⟩;have:(tp w T e).cell? a=some v:=hc;rw[this,h.1]
theorem zDj (t:aN):TF p (underlying t):=by
 unfold underlying;refine zsH.bnd λq=>?_;split
 .exact .ret _
 .exact zhI
theorem zCy (t:aN):TF p (isAgg t):=by
 unfold isAgg;refine(zDj t).bnd λq=>?_;split<;>exact .ret _
theorem zHH (t:aN):TF p (sizeOf t):=by
 unfold sizeOf typeInfo;refine TF.bnd (zsH.bnd λq=>?_) λi=>.ret _;split
 .exact .ret _
 .exact zhI
def zsM (a:bC):∀(n i:Nat) (acc:Array aF),TF p (loadCellsFrom a i n acc)
 |0,i,acc=>.ret _
 |n+1,i,acc=>(zxm _).bnd λv=>zsM a n (i+1) (acc.push v)
theorem zzV (t:aN)(a:bC):TF p (loadVar t a):=by
 unfold loadVar;refine(zCy t).bnd λb=>?_;split
 .exact(zHH t).bnd λn=>(zsM a n 0 #[]).bnd λx=>.ret _
 .exact zxm a
theorem L8 (t:Array aF)(r:Qi):TF p (yK t r):=by
 cases r with
 |tmp s=>exact .ret _
 |cell s ty=>
  refine TF.bnd ?_ λa=>zzV ty a;unfold asAddr;split
  .exact .ret _
  .exact TF.halt λw x w' e=>by simp[runtimePanic,goPanic,bK,bind,x3,program] at e
  .exact zhI
def Py (t:Array aF):∀l:List Qi,TF p (oC l t)
 |[]=>.ret _
 |[a]=>L8 t a
 |[a,b]=>(L8 t a).bnd λx=>(L8 t b).bnd λy=>.ret _
 |[a,b,c]=>(L8 t a).bnd λx=>(L8 t b).bnd λy=>(L8 t c).bnd λz=>.ret _
 |[a,b,c,d]=>(L8 t a).bnd λx=>(L8 t b).bnd λy=>(L8 t c).bnd λz=>(L8 t d).bnd λu=>.ret _
 |_::_::_::_::_::_=>zhI
variable {w w':aE}{v:aF}
theorem zpf {l:List Qi}{t:Array aF}(h:(oC l t).run p w=.ok v w'):Dq l:=by
 match l,h with
 |[],_=>exact .inl rfl
 |[a],_=>exact .inr (.inl ⟨a,rfl⟩)
 |[a,b],_=>exact .inr (.inr (.inl ⟨a,b,rfl⟩))
 |[a,b,c],_=>exact .inr (.inr (.inr (.inl ⟨a,b,c,rfl⟩)))
 |[a,b,c,d],_=>exact .inr (.inr (.inr (.inr ⟨a,b,c,d,rfl⟩)))
 |a::b::c::d::e::l,h=>simp[oC,stuck,bK] at h
def qK (p:bT)(m:Fm)(ms:List Fm)(ops:Array aX)(i:Nat)(rest:List Nat)(k:List dI):Next->dA (Fm×List Fm)
 | .value v=>pure (m.fin ops i rest k v,ms)
 | .skip=>pure (m.fin ops i rest k aA,ms)
 | .enter f args=>
  match p.funcs[f]? with
  |some fn=>(match fn.body with
   |some c=>pure (⟨f,args++nK (fn.ntmps-args.size) aA,[.code c],false⟩,m::ms)
   |none=>stuck "")
  |none=>stuck ""
 |_=>stuck ""
def zR (p:bT)(m:Fm):List Fm->dA (Fm×List Fm)
 |[]=>stuck ""
 |c::rest=>
  match c.todo,p.funcs[m.fn]? with
  | .inRegion ops (i::r)::k,some fn=>do
   let v<-oC fn.results.toList m.tmps
   pure (c.fin ops i r k v,rest)
  |_,_=>stuck ""
variable {m:Fm}{rest:List Fm}{w1:aE}
theorem Ue {c m1:Fm}{ms1:List Fm}(h:(zR p m (c::rest)).run p w=.ok (m1,ms1) w1):
 ∃ops i r k v fn,c.todo=.inRegion ops (i::r)::k/\p.funcs[m.fn]? =some fn/\(oC fn.results.toList m.tmps).run p w=.ok v w1/\m1=c.fin ops i r k v/\ms1=rest:=by
 unfold zR at h;simp only at h;split at h
 .next ops i r k fn hc hf=>
  have h2:=(uG p _ _ w).symm.trans h
  cases hx:(oC fn.results.toList m.tmps).run p w with
  |halt y w2=>rw[hx] at h2;cases h2
  |ok v w2=>
   rw[hx] at h2;simp only[uR,lR,bK,vC,oM] at h2;obtain⟨⟨rfl,rfl⟩,rfl⟩:=h2;exact⟨ops,i,r,k,v,fn,hc,hf,hx,rfl,rfl⟩
 .simp[stuck,bK] at h
variable {ops:Array aX}{i:Nat}{k:List dI}
theorem Mq {c:Fm}{r:List Nat}(hc:c.todo=.inRegion ops (i::r)::k)(hf:p.funcs[m.fn]? =some fn)(hv:(oC fn.results.toList m.tmps).run p w=.ok v w1):
 (zR p m (c::rest)).run p w=.ok (c.fin ops i r k v,rest) w1/\∀es,(zR p m (c::rest)).events p w es=(oC fn.results.toList m.tmps).events p w es:=by
 unfold zR;simp_all
def q8 (p:bT)(m:Fm)(ms:List Fm):dA (Fm×List Fm):=
 match m.todo with
 |[]=>pure ({m with ret:=true},ms)
 | .code .ret::_=>pure ({m with ret:=true},ms)
 | .code .skip::k=>pure ({m with todo:=k},ms)
 | .code (.label _)::k=>pure ({m with todo:=k},ms)
 | .inBlock _::k=>pure ({m with todo:=k},ms)
 | .inScope _::k=>pure ({m with todo:=k},ms)
 | .code (.seq a b)::k=>pure ({m with todo:=.code a:: .code b::k},ms)
 | .code (.cond c a b)::k=>(match m.eval c with
  | .bool t=>pure ({m with todo:=.code (if t then a else b)::k},ms)
  |_=>stuck "")
 | .code (.block id body)::k=>pure ({m with todo:=.code body:: .inBlock id::k},ms)
 | .code (.loop body)::k=>pure ({m with todo:=.code body:: .inLoop body::k},ms)
 | .inLoop body::k=>pure ({m with todo:=.code body:: .inLoop body::k},ms)
 | .code (.scope body)::k=>pure ({m with todo:=.code body:: .inScope body::k},ms)
 | .code (.exit id)::k=>(match exitTo id k with
  |some k'=>pure ({m with todo:=k'},ms)
  |none=>stuck "")
 | .code (.region id ops draw)::k=>
  if draw then do
   let t<-choose (.order m.fn id)
   pure ({m with todo:=.inRegion ops (Md (p.follows .mixedOrders) ops t)::k},ms)
  else pure ({m with todo:=.inRegion ops (fV ops.size)::k},ms)
 | .inRegion _ []::k=>pure ({m with todo:=k},ms)
 | .inRegion ops (i::rest)::k=>
  if((ops[i]?).map (cO · (cS ops m.tmps))).getD false then
   match ops[i]? with
   |some o=>do
    let n<-aS m.eval o
    qK p m ms ops i rest k n
   |none=>stuck ""
  else pure (m.fin ops i rest k aA,ms)
 |_=>stuck ""
def eK (p:bT)(m:Fm)(ms:List Fm):dA (Fm×List Fm):=if m.ret then zR p m ms else q8 p m ms
theorem Fm.eval_fr (m:Fm):m.fr.eval=m.eval:=by funext x;cases x<;>rfl
theorem Fm.fr_run (h:m.ret=false):m.fr={fn:=m.fn,tmps:=m.tmps,todo:=m.todo,defers:=[],mode:=.run,kind:=.normal}:=by simp[Fm.fr,h]
theorem Fm.fr_ret (h:m.ret=true):m.fr={fn:=m.fn,tmps:=m.tmps,todo:=m.todo,defers:=[],mode:=.returning,kind:=.normal}:=by simp[Fm.fr,h]
theorem zFs {rest:List Nat}(h:m.todo=.inRegion ops (i::rest)::k)(v:aF):m.fr.finish v=(m.fin ops i rest k v).fr:=by
 simp only[dL.finish,Fm.fr,Fm.fin,h]
 grind
theorem Wm {f:aO}{c:Code}{args:Array aF}(hf:p.funcs[f]? =some fn)(hb:fn.body=some c):
 Eu p f args .normal=(⟨f,args++nK (fn.ntmps-args.size) aA,[.code c],false⟩:Fm).fr:=by
 simp[Eu,Fm.fr,hf,hb]
theorem zmS {id:Nat}:∀{l l':List dI} (k:List dI),exitTo id l=some l'->exitTo id (l++k)=some (l'++k)
 |[],_,_,h=>by simp[exitTo] at h
 |x::l,l',k,h=>by
  have tail:exitTo id l=some l'->exitTo id (l++k)=some (l'++k):=zmS k;cases x<;>simp only[exitTo,Sd] at h⊢<;>first|exact tail h|skip
  grind
open Conc in
structure Dk where
 ds:List Deferred
 kd:CallKind
 ok:kd≠ .early
abbrev Dk.nil:Dk:=⟨[],.normal,aQ⟩
def Dk.base (d:Dk)(fn:aO):Frame:={(default:dL) with fn:=fn,kind:=d.kd}
def fx (k:List dI)(d:Dk)(m:Fm):Frame:={m.fr with todo:=m.todo++k,defers:=d.ds,kind:=d.kd}
theorem H4 (m:Fm):fx [] .nil m=m.fr:=by unfold fx;simp[Fm.fr]
variable {main:Bool}{m':Fm}{ms ms':List Fm}
theorem zn8 (hr:m.ret=false)(aV:m.todo=[]->k=[])(h:(q8 p m ms).run p w=.ok (m',ms') w')(d:Dk)(CS:List dL):
 (ms'=ms/\stepG p main (G (fx k d m) CS) w=.go (G (fx k d m') CS) w' (seen p m.fn ((q8 p m ms).events p w #[])))\/
 (ms'=m::ms/\stepG p main (G (fx k d m) CS) w=.go (G m'.fr (fx k d m::CS)) w' (seen p m.fn ((q8 p m ms).events p w #[]))):=by
 have Qj:seen p m.fn #[]=#[]:=Conc.seen_none p _;obtain⟨fn,tmps,todo,ret⟩:=m;simp only at hr Qj aV⊢;subst hr;unfold q8 at h⊢;simp only at h⊢;split at h
 all_goals first
  |(simp[stuck,bK] at h;done)
  |(
   obtain rfl:=aV rfl;simp only[lR,bK,vC,oM] at h;obtain⟨⟨rfl,rfl⟩,rfl⟩:=h;refine .inl ⟨rfl,?_⟩;simp[G,stepG,Ow,Fm.fr,fx,Qj,C2]
   done)
  |(
   simp only[lR,bK,vC,oM] at h;obtain⟨⟨rfl,rfl⟩,rfl⟩:=h;refine .inl ⟨rfl,?_⟩;simp[G,stepG,Ow,Fm.fr,fx,Qj,C2]
   done)
  |skip
 case h_8 _ c a b k0=>
  generalize hv:Fm.eval {fn:=fn,tmps:=tmps,todo:=Ot (Code.cond c a b)::k0,ret:=false} c=v at h⊢;have hc:dL.eval {fn:=fn,tmps:=tmps,todo:=Ot (Code.cond c a b)::(k0++k),defers:=d.ds,mode:=.run,kind:=d.kd} c=v:=by rw[<-hv];cases c<;>rfl
  cases v with
  |bool t=>
   simp only[lR,bK,vC,oM] at h;obtain⟨⟨rfl,rfl⟩,rfl⟩:=h;refine .inl ⟨rfl,?_⟩;simp[G,stepG,Ow,Fm.fr,fx,Qj,hc]
  |_=>simp_all
 case h_13 _ id k0=>
  cases he:exitTo id k0 with
  |some k'=>
   rw[he] at h;simp only[lR,bK,vC,oM] at h;obtain⟨⟨rfl,rfl⟩,rfl⟩:=h;refine .inl ⟨rfl,?_⟩;simp[G,stepG,Ow,Fm.fr,fx,Qj,zmS k he]
  |none=>simp_all
 case h_14 _ id ops draw k0=>
  cases draw with
  |true=>
   simp[choose,bK,zi9,zno,bind,x3,pure] at h;obtain⟨⟨rfl,rfl⟩,rfl⟩:=h;refine .inl ⟨rfl,?_⟩;simp[G,stepG,Ow,Fm.fr,fx,Qj,choose,bK,zi9,zno,dA.events,dA.runT,bind,x3,pure]
  |false=>
   simp only[jG,if_false,lR,bK,vC,oM] at h;obtain⟨⟨rfl,rfl⟩,rfl⟩:=h;refine .inl ⟨rfl,?_⟩;simp[G,stepG,Ow,Fm.fr,fx,Qj]
 case h_16 _ ops i rest k0=>
  have zhF:∀x,Act.eval ⟨tmps,d.ds⟩ x=Fm.eval {fn:=fn,tmps:=tmps,todo:=sH ops (i::rest)::k0,ret:=false} x:=λx=>by cases x<;>rfl
  have zv6:Act.eval ⟨tmps,d.ds⟩=Fm.eval {fn:=fn,tmps:=tmps,todo:=sH ops (i::rest)::k0,ret:=false}:=funext zhF;have Bj:∀v,(d.base fn).at (Act.put ⟨tmps,d.ds⟩ ((ops[i]?).bind (·.dst)) v) (.inRegion ops rest::(k0++k))=fx k d (Fm.fin {fn:=fn,tmps:=tmps,todo:=sH ops (i::rest)::k0,ret:=false} ops i rest k0 v):=λv=>by
   unfold Fm.fin Act.put fx;cases(ops[i]?).bind (·.dst)<;>rfl
  have hb:(d.base fn).kind≠ .early:=d.ok;have Uq:fx k d {fn:=fn,tmps:=tmps,todo:=sH ops (i::rest)::k0,ret:=false}=(d.base fn).at ⟨tmps,d.ds⟩ (.inRegion ops (i::rest)::(k0++k)):=rfl;rw[Uq]
  cases ho:ops[i]? with
  |none=>
   rw[ho] at h;simp only[Option.map_none,Option.getD_none,jG,if_false,lR,bK,vC,oM] at h;obtain⟨⟨rfl,rfl⟩,rfl⟩:=h;refine .inl ⟨rfl,?_⟩;rw[<-Bj aA];have Dv:((d.base fn).at ⟨tmps,d.ds⟩ (.inRegion ops (i::rest)::(k0++k))).finish aA=(d.base fn).at (Act.put ⟨tmps,d.ds⟩ ((ops[i]?).bind (·.dst)) aA) (.inRegion ops rest::(k0++k)):=dL.finish_at _ _ _ _ _ _ _;rw[<-Dv];simp[G,stepG,Ow,Qj,ho,dL.at]
  |some o=>
   rw[ho] at h;simp only[ho,uF] at Bj;simp only[Bz,vB] at h⊢;by_cases hw:cO o (cS ops tmps)=true
   .rw[if_pos hw] at h
    rw[if_pos hw];have tZ:=uG p (aS (Fm.eval {fn:=fn,tmps:=tmps,todo:=sH ops (i::rest)::k0,ret:=false}) o) (qK p {fn:=fn,tmps:=tmps,todo:=sH ops (i::rest)::k0,ret:=false} ms ops i rest k0) w;have h':=tZ.symm.trans h;have zAo:=dA.events_bind' p (aS (Fm.eval {fn:=fn,tmps:=tmps,todo:=sH ops (i::rest)::k0,ret:=false}) o) (qK p {fn:=fn,tmps:=tmps,todo:=sH ops (i::rest)::k0,ret:=false} ms ops i rest k0) w #[]
    cases hx:(aS (Fm.eval {fn:=fn,tmps:=tmps,todo:=sH ops (i::rest)::k0,ret:=false}) o).run p w with
    |halt y w1=>rw[hx] at h';cases h'
    |ok n w1=>
     rw[hx] at h' zAo;have lZ:(aS (Act.eval ⟨tmps,d.ds⟩) o).run p w=.ok n w1:=by rw[zv6];exact hx
     have hl:xY p fn ⟨tmps,d.ds⟩ o w=seen p fn ((aS (Fm.eval {fn:=fn,tmps:=tmps,todo:=sH ops (i::rest)::k0,ret:=false}) o).events p w #[]):=by unfold xY;rw[zv6]
     have h2:(qK p {fn:=fn,tmps:=tmps,todo:=sH ops (i::rest)::k0,ret:=false} ms ops i rest k0 n).run p w1=.ok (m',ms') w':=h'
     have zib:∀(r:Fm×List Fm),qK p {fn:=fn,tmps:=tmps,todo:=sH ops (i::rest)::k0,ret:=false} ms ops i rest k0 n=lR r->
      (m',ms')=r/\w'=w1/\seen p fn ((do let n<-aS (Fm.eval {fn:=fn,tmps:=tmps,todo:=sH ops (i::rest)::k0,ret:=false}) o;qK p {fn:=fn,tmps:=tmps,todo:=sH ops (i::rest)::k0,ret:=false} ms ops i rest k0 n:dA (Fm×List Fm)).events p w #[])=xY p fn ⟨tmps,d.ds⟩ o w:=λr e=>by simp_all
     cases n with
     |value v=>
      obtain⟨e1,rfl,e3⟩:=zib _ rfl;injection e1 with e1 e2;subst e1 e2;refine .inl ⟨rfl,?_⟩;rw[e3];have:=Conc.stepG_value (main:=main) (b:=d.base fn) (a:=⟨tmps,d.ds⟩) (rest:=rest) (k:=k0++k) (cs:=CS) ho hw hb lZ;rw[Bj] at this;exact this
     |skip=>
      obtain⟨e1,rfl,e3⟩:=zib _ rfl;injection e1 with e1 e2;subst e1 e2;refine .inl ⟨rfl,?_⟩;rw[e3];have:=Conc.stepG_none (main:=main) (b:=d.base fn) (a:=⟨tmps,d.ds⟩) (rest:=rest) (k:=k0++k) (cs:=CS) ho hw hb lZ;rw[Bj] at this;exact this
     |enter f args=>
      have h3:=h2;simp only[qK] at h3
      cases hf:p.funcs[f]? with
      |none=>simp_all
      |some fn2=>
       cases zhW:fn2.body with
       |none=>simp_all
       |some c=>
        obtain⟨e1,rfl,e3⟩:=zib _ (by simp only[qK,hf,zhW];rfl);injection e1 with e1 e2;subst e1 e2;refine .inr ⟨rfl,?_⟩;rw[e3];have:=Conc.stepG_enter (main:=main) (b:=d.base fn) (a:=⟨tmps,d.ds⟩) (rest:=rest) (k:=k0++k) (cs:=CS) ho hw hb lZ;rw[Wm hf zhW] at this;exact this
     |_=>simp[qK,stuck,bK] at h2
   .rw[if_neg hw] at h
    rw[if_neg hw];simp only[lR,bK,vC,oM] at h;obtain⟨⟨rfl,rfl⟩,rfl⟩:=h;refine .inl ⟨rfl,?_⟩;have:=Conc.stepG_unwanted (P:=p) (main:=main) (b:=d.base fn) (a:=⟨tmps,d.ds⟩) (rest:=rest) (k:=k0++k) (cs:=CS) (w:=w) ho (by simpa using hw);simp_all
theorem zij (h:(eK p m ms).run p w=.ok (m',ms') w')(base:List dL):
 stepG p main (G m.fr (ms.map Fm.fr++base)) w=.go (G m'.fr (ms'.map Fm.fr++base)) w' (seen p m.fn ((eK p m ms).events p w #[])):=by
 unfold eK at h⊢;by_cases hr:m.ret=true
 .simp only[hr,if_true] at h⊢
  cases ms with
  |nil=>simp[zR,stuck,bK] at h
  |cons c rest=>
   obtain⟨ops,i,r,k,v,fn,hc,hf,hv,rfl,rfl⟩:=Ue h;rw[(Mq hc hf hv).2];have he:results fn m.tmps=oC fn.results.toList m.tmps:=zdQ (zpf hv);rw[Fm.fr_ret hr,List.map_cons,Sd];have Bj:c.fr.finish v=(c.fin ops i r k v).fr:=zFs hc v;rw[<-Bj];simp[G,stepG,unwind,doReturn,hf,he,hv,C2]
 .have zL:m.ret=false:=by simpa using hr
  simp only[zL,jG,if_false] at h⊢;rcases zn8 (main:=main) zL (k:=[]) (λ_=>rfl) h .nil (ms.map Fm.fr++base) with⟨rfl,e⟩|⟨rfl,e⟩
  .simp only[H4] at e;exact e
  .simp only[H4] at e;exact e
end Go.Tt
namespace Go.Tt
def Gc (p:bT)(q:Cl):dI->Bool
 | .code c| .inLoop c| .inScope c=>qG p q c
 | .inBlock _=>true
 | .inRegion ops _=>ops.all λo=>s9 p q o.op
 |_=>false
def Wait (m:Fm):Prop:=m.ret=false/\∃ops i r k,m.todo=.inRegion ops (i::r)::k
section
variable (P:dM)(fs:aO->Bool)(K R:Pr)
structure pL (m m':Fm):Prop where
 fn:m.fn=m'.fn
 todo:m.todo=m'.todo
 ret:m.ret=m'.ret
 tmps:bO (SF fs) K R m.tmps m'.tmps
 fit:∀i∈m.todo,Gc P.c (uC P fs m.fn) i=true
 infs:∃fn fn',P.g.funcs[m.fn]? =some fn/\P.c.funcs[m.fn]? =some fn'/\fn.results=fn'.results/\Dq fn.results.toList
inductive vF:List Fm->List Fm->Prop
 |nil:vF [] []
 |cons {m m':Fm} {ms ms':List Fm}:pL P fs K R m m'->Wait m->vF ms ms'->vF (m::ms) (m'::ms')
end
structure Fit2 (P:dM)(fs:aO->Bool):Prop extends Fit P fs where
 res:∀f,P.gs f=true->P.op f=false->∀fn,P.c.funcs[f]? =some fn->Dq fn.results.toList
 follows:P.g.follows .mixedOrders=P.c.follows .mixedOrders
section
variable {P:dM}{fs:aO->Bool}{K R R':Pr}
variable {m m':Fm}
def pL.mono (h:R.le R')(x:pL P fs K R m m'):pL P fs K R' m m':=⟨x.fn,x.todo,x.ret,x.tmps.mono h,x.fit,x.infs⟩
variable {ms ms':List Fm}
theorem vF.mono (h:R.le R')(x:vF P fs K R ms ms'):vF P fs K R' ms ms':=by
 induction x with
 |nil=>exact .nil
 |cons a b _ ih=>exact .cons (a.mono h) b ih
theorem yA {S:aO->Prop}:VR S K R aA undef:=.tuple rfl (λi v v' h=>by simp at h)
theorem pL.eval (x:pL P fs K R m m'):∀o,dP fs o=true->VR (SF fs) K R (m.eval o) (m'.eval o):=by
 intro o ho
 cases o with
 |tmp t=>exact x.tmps.getD t yA
 |const v=>exact zya ho
 |global g=>cases ho
 |func f=>exact .func ho rfl (λi v v' h=>by simp at h) rfl (λi v v' h=>by simp at h)
def rV (p:bT)(f:aO)(xs:Array aF):Fm:=
 match p.funcs[f]? with
 |some fn=>(match fn.body with
  |some c=>⟨f,xs++nK (fn.ntmps-xs.size) aA,[.code c],false⟩
  |none=>⟨f,xs,[],false⟩)
 |none=>⟨f,xs,[],false⟩
structure OpR (P:dM)(fs:aO->Bool)(K R:Pr)(x y:Fm×List Fm):Prop where
 ex:∃f xs bZ c c' rest E5,P.op f=true/\P.gs f=true/\bO (SF fs) K R xs bZ/\x=(rV P.g f xs,c::rest)/\y=(rV P.c f bZ,c'::E5)/\pL P fs K R c c'/\Wait c/\vF P fs K R rest E5/\P.lw c.fn=false
abbrev StA (P:dM)(fs:aO->Bool)(K:Pr)(l:Bool):Pr->(Fm×List Fm)->(Fm×List Fm)->Prop:=λR x y=>
 (pL P fs K R x.1 y.1/\vF P fs K R x.2 y.2/\(l=true->P.lw x.1.fn=true/\∀c∈x.2,P.lw c.fn=true))\/(l=false/\OpR P fs K R x y)
variable {ops:Array aX}{i:Nat}{rest:List Nat}{k:List dI}
theorem pL.fin (x:pL P fs K R m m')(h:m.todo=.inRegion ops (i::rest)::k){v v':aF}(hv:VR (SF fs) K R v v'):
 pL P fs K R (m.fin ops i rest k v) (m'.fin ops i rest k v'):=by
 refine⟨x.fn,rfl,x.ret,?_,λj hj=>?_,x.infs⟩
 .unfold Fm.fin
  cases(ops[i]?).bind (·.dst) with
  |none=>exact x.tmps
  |some d=>exact x.tmps.set d hv
 .simp only[Fm.fin,lV] at hj
  rcases hj with rfl|hj
  .have:=x.fit (.inRegion ops (i::rest)) (by rw[h];simp)
   exact this
  .exact x.fit j (by rw[h];simp[hj])
abbrev LowS (P:dM)(l:Bool)(m:Fm)(ms:List Fm):Prop:=l=true->P.lw m.fn=true/\∀c∈ms,P.lw c.fn=true
variable {xs bZ:Array aF}
theorem bO.pad (ha:bO (SF fs) K R xs bZ)(n:Nat):bO (SF fs) K R (xs++nK (n-xs.size) aA) (bZ++nK (n-bZ.size) aA):=by
 rw[ha.1];refine ha.append ⟨aQ,λj v v' h1 h2=>?_⟩;rw[Array.getElem?_replicate] at h1 h2;split at h1
 .rename_i hj
  rw[if_pos hj] at h2;cases h1;cases h2;exact yA
 .cases h1
theorem zgM (F:Fit P fs)(g:aO):∀f,(uC P fs g).gs f=true->P.gs f=true:=λf h=>by
 unfold uC at h;split at h
 .exact(F.low f h).2
 .exact h
theorem zqq (F:Fit P fs)(g:aO):(uC P fs g).dy=true->∀f,fs f=true->(uC P fs g).gs f=true:=λh f hf=>by
 unfold uC at h⊢;split at h
 .cases h
 .next e=>rw[if_neg e];exact F.dyn h f hf
theorem sim_opS (F:Fit2 P fs){l:Bool}(hm:pL P fs K R m m')(jR:vF P fs K R ms ms')(pB:LowS P l m ms)(hr:m.ret=false)(h:m.todo=.inRegion ops (i::rest)::k){n n':Next}(hn:NxR (SF fs) (uC P fs m.fn).T K R n n'):
 aG P (SF fs) K (StA P fs K l) (qK P.g m ms ops i rest k n) R (qK P.c m' ms' ops i rest k n'):=by
 cases hn with
 |value hv=>exact aG.ret (.inl ⟨hm.fin h hv,jR,pB⟩)
 |skip=>exact aG.ret (.inl ⟨hm.fin h yA,jR,pB⟩)
 |enter hT ha=>
  rename_i f xs bZ;have Ul:P.lw m.fn=true->P.lw f=true:=λe=>by
   unfold uC at hT
   grind
  have hf:P.gs f=true:=zgM F.toFit m.fn f hT
  cases ho:P.op f with
  |false=>
   obtain⟨fn,c,e1,e2,e3,e4,e5⟩:=F.fn f hf ho;simp only[qK,e1,e2,e4];refine aG.ret (.inl ⟨⟨rfl,rfl,rfl,ha.pad _,λj hj=>?_,⟨fn,fn,e1,e2,rfl,F.res f hf ho fn e2⟩⟩,.cons hm ⟨hr,ops,i,rest,k,h⟩ jR,λe=>⟨Ul (pB e).1,λc hc=>?_⟩⟩)
   .simp only[lV,nM,or_false] at hj
    subst hj;exact e5
   grind
  |true=>
   obtain⟨fn,fn',c,c',e1,e2,e3,e4,e5,e6⟩:=F.opq f hf ho;have zlF:P.lw m.fn=false:=by
    cases hq:P.lw m.fn with
    |false=>rfl
    |true=>have:=(F.low f (Ul hq)).1;simp_all
   have hl:l=false:=by
    cases l with
    |false=>rfl
    |true=>simp_all
   simp only[qK,e1,e2,e5,e6];refine aG.ret (.inr ⟨hl,⟨f,xs,bZ,m,m',ms,ms',ho,hf,ha,?_,?_,hm,⟨hr,ops,i,rest,k,h⟩,jR,zlF⟩⟩)
   .have:P.g.funcs[f]? =some fn:=e1
    simp only[rV,this,e5]
   .simp only[rV,e2,e6]
theorem L1 {S:aO->Prop}(h:bO S K R xs bZ)(a:Qi):aG P S K (VA S K) (yK xs a) R (yK bZ a):=by
 cases a with
 |tmp t=>exact aG.ret (h.getD t yA)
 |cell s ty=>
  refine aG.bnd (zqH (h.getD s yA)) ?_;intro R1 e1 a a' ha;exact zp5 ty ha
theorem ziU {S:aO->Prop}(h:bO S K R xs bZ):∀l:List Qi,aG P S K (VA S K) (oC l xs) R (oC l bZ)
 |[]=>aG.ret (.tuple' bO.empty)
 |[a]=>L1 h a
 |[a,b]=>by
  refine aG.bnd (L1 h a) ?_;intro R1 e1 x x' hx;refine aG.bnd (L1 (h.mono e1.le) b) ?_;intro R2 e2 y y' hy;exact aG.ret (.tuple' ((bO.one (hx.mono e2.le)).push hy))
 |[a,b,c]=>by
  refine aG.bnd (L1 h a) ?_;intro R1 e1 x x' hx;refine aG.bnd (L1 (h.mono e1.le) b) ?_;intro R2 e2 y y' hy;refine aG.bnd (L1 ((h.mono e1.le).mono e2.le) c) ?_;intro R3 e3 z z' hz;exact aG.ret (.tuple' (((bO.one ((hx.mono e2.le).mono e3.le)).push (hy.mono e3.le)).push hz))
 |[a,b,c,d]=>by
  refine aG.bnd (L1 h a) ?_;intro R1 e1 x x' hx;refine aG.bnd (L1 (h.mono e1.le) b) ?_;intro R2 e2 y y' hy;refine aG.bnd (L1 ((h.mono e1.le).mono e2.le) c) ?_;intro R3 e3 z z' hz;refine aG.bnd (L1 (((h.mono e1.le).mono e2.le).mono e3.le) d) ?_;intro R4 e4 u u' hu;exact aG.ret (.tuple' ((((bO.one (((hx.mono e2.le).mono e3.le).mono e4.le)).push ((hy.mono e3.le).mono e4.le)).push (hz.mono e4.le)).push hu))
 |_::_::_::_::_::_=>.inl bQ
theorem zhZ {S:aO->Prop}(ops:Array aX)(h:bO S K R xs bZ):cS ops xs=cS ops bZ:=by
 funext j;unfold cS
 cases hd:(ops[j]?).bind (·.dst) with
 |none=>rfl
 |some d=>
  simp only[uF]
  cases hx:xs[d]? with
  |none=>rw[h.none hx]
  |some v=>
   obtain⟨v',e,hv⟩:=h.get hx;rw[e]
   cases hv with
   |junk hh=>cases v'<;>first|exact hh.elim|rfl
   |_=>rfl
theorem zjM {id:Nat}:∀{k k':List dI},exitTo id k=some k'->∀i∈k',i∈k
 |[],_,h,_,_=>by simp[exitTo] at h
 |x::k,k',h,i,hi=>by
  have tail:exitTo id k=some k'->i∈x::k:=λe=>by simp[zjM e i hi]
  cases x<;>simp only[exitTo] at h<;>first|exact tail h|skip
  grind
theorem zhj (F:Fit2 P fs)(hR:uM P K R){l:Bool}(hm:pL P fs K R m m')(jR:vF P fs K R ms ms')(pB:LowS P l m ms)(zeh:m.ret=true->ms≠[]):
 aG P (SF fs) K (StA P fs K l) (eK P.g m ms) R (eK P.c m' ms'):=by
 unfold eK;rw[<-hm.ret];by_cases hr:m.ret=true
 .simp only[hr,if_true]
  cases jR with
  |nil=>simp_all
  |cons hc hw Um=>
   rename_i c c' rest E5;obtain⟨_,ops,i,r,k,hk⟩:=hw;obtain⟨fn,fn',e1,e2,e3,e4⟩:=hm.infs;unfold zR;have cY:c'.todo=.inRegion ops (i::r)::k:=hc.todo.symm.trans hk;rw[<-hm.fn];simp only[hk,cY,e1,e2];rw[<-e3];refine aG.bnd (ziU hm.tmps fn.results.toList) ?_;intro R1 x1 v v' hv;exact aG.ret (.inl ⟨(hc.mono x1.le).fin hk hv,Um.mono x1.le,λe=>⟨(pB e).2 c aQ,λx hx=>(pB e).2 x (by simp[hx])⟩⟩)
 .have Ri:m.ret=false:=by simpa using hr
  simp only[Ri,jG,if_false];have zL:m'.ret=false:=hm.ret.symm.trans Ri;unfold q8;rw[<-hm.todo];have Gt:∀{x y:Fm},pL P fs K R x y->x.fn=m.fn->aG P (SF fs) K (StA P fs K l) (lR (x,ms)) R (lR (y,ms')):=λh e=>aG.ret (.inl ⟨h,jR,λz=>by rw[e];exact pB z⟩);have keep:∀(l:List dI),(∀i∈l,Gc P.c (uC P fs m.fn) i=true)->pL P fs K R {m with todo:=l} {m' with todo:=l}:=λl hl=>⟨hm.fn,rfl,hm.ret,hm.tmps,hl,hm.infs⟩;have Ir:=hm.fit;have Yz:=hm.fn
  cases pS:m.todo with
  |nil=>exact Gt ⟨hm.fn,rfl,rfl,hm.tmps,λi hi=>(by simp at hi),hm.infs⟩ rfl
  |cons x k=>
   rw[pS] at Ir;have hk:∀i∈k,Gc P.c (uC P fs m.fn) i=true:=λi hi=>Ir i (by simp[hi]);have hx:Gc P.c (uC P fs m.fn) x=true:=Ir x aQ;have two:∀(y z:dI),Gc P.c (uC P fs m.fn) y=true->Gc P.c (uC P fs m.fn) z=true->∀i∈y::z::k,Gc P.c (uC P fs m.fn) i=true:=λy z hy hz i hi=>by grind
   have one:∀(y:dI),Gc P.c (uC P fs m.fn) y=true->∀i∈y::k,Gc P.c (uC P fs m.fn) i=true:=λy hy i hi=>by grind
   cases x with
   |code c=>
    cases c with
    |skip=>grind
    |label l=>grind
    |ret=>exact Gt ⟨hm.fn,rfl,rfl,hm.tmps,Ir,hm.infs⟩ rfl
    |seq a b=>
     simp only[Gc,qG,iT] at hx;exact Gt (keep _ (two _ _ hx.1 hx.2)) rfl
    |cond c a b=>
     simp only[Gc,qG,iT] at hx;have hv:=hm.eval c (zin P fs m.fn▸hx.1.1);simp only;generalize m.eval c=v at hv⊢;generalize m'.eval c=v' at hv⊢
     cases hv with
     |bool t=>
      refine Gt (keep _ (one _ ?_)) rfl;cases t
      .exact hx.2
      .exact hx.1.2
     |_=>exact .inl bQ
    |block id body=>exact Gt (keep _ (two _ _ hx rfl)) rfl
    |loop body=>exact Gt (keep _ (two _ _ hx hx)) rfl
    |scope body=>exact Gt (keep _ (two _ _ hx hx)) rfl
    |exit id=>
     simp only
     cases he:exitTo id k with
     |none=>exact .inl bQ
     |some k'=>exact Gt (keep _ λi hi=>hk i (zjM he i hi)) rfl
    |region id ops draw=>
     simp only
     cases draw with
     |true=>
      simp only[if_true];rw[<-Yz];refine aG.bnd (ze6 _) ?_;rintro R1 h1 t _ rfl;rw[F.follows];exact aG.ret (.inl ⟨(by have y:=(keep (.inRegion ops (Md (P.c.follows .mixedOrders) ops t)::k) (one (.inRegion ops (Md (P.c.follows .mixedOrders) ops t)) hx)).mono h1.le;rw[<-Yz] at y;exact y),jR.mono h1.le,pB⟩)
     |false=>
      simp only[jG,if_false];exact Gt (keep _ (one (.inRegion ops (fV ops.size)) hx)) rfl
    |_=>cases hx
   |inBlock id=>grind
   |inScope c=>grind
   |inLoop c=>exact Gt (keep _ (two _ _ hx hx)) rfl
   |inRegion ops l=>
    cases l with
    |nil=>grind
    |cons i rest=>
     simp only;rw[<-zhZ ops hm.tmps];by_cases hw:((ops[i]?).map (cO · (cS ops m.tmps))).getD false=true
     .rw[if_pos hw,if_pos hw]
      cases ho:ops[i]? with
      |none=>exact .inl bQ
      |some o=>
       simp only;have bM:s9 P.c (uC P fs m.fn) o.op=true:=by
        have lZ:=zpg.1 hx i (dR.1 ho).1
        rwa [(dR.1 ho).2] at lZ
       refine aG.bnd (zir F.toFit hR hm.eval (λg=>rfl) (λg=>rfl) (λg=>rfl) (λg=>rfl) (λv=>rfl) (λv=>rfl) (zin P fs m.fn) (zgM F.toFit m.fn) (zqq F.toFit m.fn) bM) ?_;intro R1 h1 n n' hn;exact sim_opS F (hm.mono h1.le) (jR.mono h1.le) pB Ri pS hn
     .rw[if_neg hw,if_neg hw]
      exact Gt (hm.fin pS yA) rfl
   |_=>cases hx
end
end Go.Tt
namespace Go.Tt
open Go.Conc (G solo)
def nilD:Deferred:={target:=.nil,args:=#[]}
def pz:Frame:={(default:dL) with mode:=.panicking [],defers:=[nilD],kind:=.normal}
section
variable {P:dM}{fs:aO->Bool}{K R:Pr}{G':Gp}{St:Nat->Prop}
variable {w:aE}
theorem zBj (F:Fit2 P fs)(hG:G'=P.gp){W:aE}(hw:dB (SF fs) K R G' St w W)(ht:Tp w W){m m':Fm}{ms ms':List Fm}(hm:pL P fs K R m m')(jR:vF P fs K R ms ms')(zeh:m.ret=true->ms≠[])
 (fQ:∀x w',(eK P.g m ms).run P.g w≠ .ok x w') (base:List dL):
 (∃o w1 es,stepG P.g true (G m.fr (ms.map Fm.fr++base)) w=.ended o w1 es)\/
 ∃x w1 es,stepG P.g true (G m.fr (ms.map Fm.fr++base)) w=.go (G x (ms.map Fm.fr++base)) w1 es/\(∃c,x.mode=.panicking c)/\x.defers=[]:=by
 have hR:uM P K R:=by subst hG;exact⟨hw.inj,hw.inj',λa b h=>(hw.low a b h).1,hw.tb⟩
 unfold eK at fQ;by_cases hr:m.ret=true
 .simp only[hr,if_true] at fQ
  cases jR with
  |nil=>simp_all
  |cons hc cF Um=>
   rename_i c c' rest E5;obtain⟨_,ops,i,r,k,hk⟩:=cF;obtain⟨fn,fn',e1,e2,e3,e4⟩:=hm.infs;have he:results fn m.tmps=oC fn.results.toList m.tmps:=zdQ e4
   cases hx:(oC fn.results.toList m.tmps).run P.g w with
   |ok v w1=>exact absurd (Mq (rest:=rest) hk e1 hx).1 (fQ _ _)
   |halt y w1=>
    refine .inl ?_;rw[Fm.fr_ret hr];cases y<;>exact⟨_,_,_,by simp only[G,stepG,unwind,e1,he,dA.runT_eq,hx,C2];rfl⟩
 .have Ri:m.ret=false:=by simpa using hr
  simp only[Ri,jG,if_false] at fQ;have l9:m.fr.eval=m.eval:=m.eval_fr;have Ir:=hm.fit;have zE2:=hm.tmps;have zhB:=hm.eval;obtain⟨fn,tmps,todo,ret⟩:=m;simp only at Ri Ir zE2;subst Ri;unfold q8 at fQ;simp only at fQ
  cases todo with
  |nil=>simp_all
  |cons x k=>
   have hx:Gc P.c (uC P fs fn) x=true:=Ir x aQ
   cases x with
   |code c=>
    cases c with
    |skip=>simp_all
    |label l=>simp_all
    |ret=>simp_all
    |seq a b=>simp_all
    |block id body=>simp_all
    |loop body=>simp_all
    |scope body=>simp_all
    |cond c a b=>
     have hc:=congrFun l9 c;simp only at fQ
     cases hv:Fm.eval {fn:=fn,tmps:=tmps,todo:=Ot (Code.cond c a b)::k,ret:=false} c with
     |bool t=>simp_all
     |_=>
      left;rw[hv] at hc;simp only[Fm.fr,jG,if_false] at hc⊢;simp only[G,stepG,Ow,hc];simp_all
    |exit id=>
     simp only at fQ
     cases he:exitTo id k with
     |some k'=>simp_all
     |none=>
      left;simp only[Fm.fr,jG,if_false];simp[G,stepG,Ow,he]
    |region id ops draw=>
     simp only at fQ
     cases draw with
     |true=>exact absurd (by simp[choose,bK,zi9,zno,bind,x3,pure];exact⟨rfl,rfl⟩) (fQ _ _)
     |false=>simp_all
    |_=>cases hx
   |inBlock id=>simp_all
   |inScope c=>simp_all
   |inLoop c=>simp_all
   |inRegion ops l=>
    cases l with
    |nil=>simp_all
    |cons i rest=>
     simp only at fQ
     cases ho:ops[i]? with
     |none=>simp_all
     |some o=>
      rw[ho] at fQ;simp only[Bz,vB] at fQ;by_cases lX:cO o (cS ops tmps)=true
      .rw[if_pos lX] at fQ
       have bM:s9 P.c (uC P fs fn) o.op=true:=by
        have lZ:=zpg.1 hx i (dR.1 ho).1
        rwa [(dR.1 ho).2] at lZ
       have zbq:=zir F.toFit hR zhB (λg=>rfl) (λg=>rfl) (λg=>rfl) (λg=>rfl) (λv=>rfl) (λv=>rfl) (zin P fs fn) (zgM F.toFit fn) (zqq F.toFit fn) bM;have tZ:∀x w',((aS (Fm.eval {fn:=fn,tmps:=tmps,todo:=sH ops (i::rest)::k,ret:=false}) o).bind (qK P.g {fn:=fn,tmps:=tmps,todo:=sH ops (i::rest)::k,ret:=false} ms ops i rest k)).run P.g w≠ .ok x w':=fQ;rcases aG.tame hG _ zbq hw ht with⟨n,w1,hn⟩|⟨h,w1,hn,hth⟩
       .have zhF:Act.eval ⟨tmps,[]⟩=Fm.eval {fn:=fn,tmps:=tmps,todo:=sH ops (i::rest)::k,ret:=false}:=funext λx=>by cases x<;>rfl
        obtain⟨R1,n',W1,ev,e1,e2,e3,e4,e5⟩:=aG.run hG _ zbq hw ht hn;have:=λx w'=>tZ x w';simp only[uG,hn,uR] at this
        cases e2 with
        |value hv=>exact absurd rfl (this _ _)
        |skip=>exact absurd rfl (this _ _)
        |enter hT ha=>
         rename_i f xs bZ;have hf:P.gs f=true:=zgM F.toFit fn f hT
         cases zdm:P.op f with
         |false=>
          obtain⟨fn',c,q1,q2,q3,q4,q5⟩:=F.fn f hf zdm;simp only[qK,q1,q4] at this;simp_all
         |true=>
          obtain⟨fn1,fn2,c1,c2,q1,q2,q3,q4,q5,q6⟩:=F.opq f hf zdm;simp only[qK,q1,q5] at this;simp_all
       .have zhF:Act.eval ⟨tmps,[]⟩=Fm.eval {fn:=fn,tmps:=tmps,todo:=sH ops (i::rest)::k,ret:=false}:=funext λx=>by cases x<;>rfl
        have hop:=Conc.stepG_oper (P:=P.g) (main:=true) (b:=Lu fn) (a:=⟨tmps,[]⟩) (k:=k) (cs:=List.map Fm.fr ms++base) (w:=w) (rest:=rest) ho lX;have fL:(Fm.fr {fn:=fn,tmps:=tmps,todo:=sH ops (i::rest)::k,ret:=false})=(Lu fn).at ⟨tmps,[]⟩ (.inRegion ops (i::rest)::k):=rfl;rw[fL,hop,zhF]
        cases h with
        |panic v=>
         right;simp[stepG.apply,hn,C2,G,ztp,dL.at]
        |stuck s=>left;simp[stepG.apply,hn,C2]
        |unsupported u=>
         left;cases u<;>first|exact hth.elim|simp[stepG.apply,hn,C2]
        |_=>exact hth.elim
      simp_all
   |_=>cases hx
variable {p:bT}{w':aE}{o:Outcome}
theorem zc9 {a:bF}{es:Array o5}(hs:a.status=.running)(h:stepG p true a w=.ended o w' es):step p (solo a w)=.ended o w':=by
 rw[step,Conc.stepT_solo hs,Conc.solo_eq_crowd,Conc.runT_many_ended (i:=0) rfl h]
variable {m:zaJ}
theorem zaV {m':zaJ}(h:step p m=.next m')(n:Nat):runN p (n+1) m=runN p n m':=by simp[runN,h]
theorem zuv (h:step p m=.ended o w)(n:Nat):runN p (n+1) m=.ended o w:=by simp[runN,h]
theorem zfl {g g':bF}(h:solo g w=solo g' w'):g=g'/\w=w':=by
 injection h with h1 h2;simp_all
theorem zeC {fr zpl:dL}{cs U2:List dL}(h:G fr cs=G zpl U2):fr=zpl/\cs=U2:=by
 injection h with h1 h2;exact⟨h1,h2⟩
def zmu (x:dL):Prop:=∃c,x.mode=.panicking c
theorem zgy (x:dL)(vs:List PanicEntry):zmu (x.raise vs)/\(x.raise vs).defers=x.defers:=by
 unfold ztp;split
 .exact⟨⟨_,rfl⟩,rfl⟩
 .exact⟨⟨_,rfl⟩,rfl⟩
variable {ds:List Deferred}
theorem zp4 {x:dL}(hd:x.defers=nilD::ds)(hm:zmu x)(cs:List dL)(w:aE):∃o w1 es,stepG p true (G x cs) w=.ended o w1 es:=by
 obtain⟨c,hc⟩:=hm;refine⟨.unsupported (.noEntry "machine/Return: a deferred call of a nil function value, made while the frame is unwinding") ({x with defers:=ds}.pos p),w,#[],?_⟩;simp[G,stepG,hc,unwind,hd,callDeferred,nilD]
theorem zzD (frT:dL)(wT:aE)(hT:frT.mode=.returning):∀(n:Nat) (x:dL) (ys:List dL) (w:aE),zmu x->x.defers=[]->(∀y∈ys,y.defers=[])->runN p n (solo (G x (ys++[pz])) w)≠ .next (solo (G frT [pz]) wT):=by
 intro n
 induction n with
 |zero=>
  intro x ys w ⟨c,hc⟩ _ _ e;simp only[runN,Yy] at e;have:=(zeC (zfl e).1).1;simp_all
 |succ n ih=>
  intro x ys w ⟨c,hc⟩ hd zs4 e;have cP:(G x (ys++[pz])).status=.running:=rfl;by_cases zuG:x.catches p=true
  .have aY:∃o w1 es,stepG p true (G x (ys++[pz])) w=.ended o w1 es:=by simp[G,stepG,hc,unwind,hd,zuG]
   obtain⟨o,w1,es,aY⟩:=aY;have hs:=zc9 cP aY;simp[runN,hs] at e
  .have zwY:x.catches p=false:=by simpa using zuG
   cases ys with
   |nil=>
    have aY:stepG p true (G x [pz]) w=.go (G (pz.raise c) []) w:=by simp[G,stepG,hc,unwind,hd,zwY]
    have hs:=zcH cP aY;replace e:=(zaV hs n).symm.trans e
    cases n with
    |zero=>
     simp only[runN,Yy] at e;have:=(zeC (zfl e).1).2;cases this
    |succ n=>
     obtain⟨o,w1,es,zmO⟩:=zp4 (p:=p) (x:=pz.raise c) (ds:=[]) ((zgy pz c).2) (zgy pz c).1 [] w;have Ai:=zc9 rfl zmO;have:=(zuv Ai n).symm.trans e;cases this
   |cons y ys=>
    have aY:stepG p true (G x (y::(ys++[pz]))) w=.go (G (y.raise c) (ys++[pz])) w:=by simp[G,stepG,hc,unwind,hd,zwY]
    have hs:=zcH cP aY;replace e:=(zaV hs n).symm.trans e;exact ih (y.raise c) ys w (zgy y c).1 ((zgy y c).2.trans (zs4 y aQ)) (λz hz=>zs4 z zct) e
theorem zIx (frT:dL)(wT:aE){m:Fm}(hr:m.ret=true)(n:Nat):runN p (n+1) (solo (G m.fr [pz]) w)≠ .next (solo (G frT [pz]) wT):=by
 intro e;have cP:(G m.fr [pz]).status=.running:=rfl;have key:(∃o w1 es,stepG p true (G m.fr [pz]) w=.ended o w1 es)\/∃v w1 es,stepG p true (G m.fr [pz]) w=.go (G (pz.finish v) []) w1 es:=by
  rw[Fm.fr_ret hr]
  cases hf:p.funcs[m.fn]? with
  |none=>right;simp[G,stepG,unwind,doReturn,hf];exact⟨_,rfl⟩
  |some fn=>
   cases hx:(results fn m.tmps).run p w with
   |ok v w1=>right;simp[G,stepG,unwind,doReturn,hf,hx,C2];exact⟨_,rfl⟩
   |halt h w1=>left;cases h<;>simp[G,stepG,unwind,hf,hx,C2]
 rcases key with⟨o,w1,es,aY⟩|⟨v,w1,es,aY⟩
 .have hs:=zc9 cP aY
  simp[runN,hs] at e
 .have hs:=zcH cP aY
  simp only[runN,hs] at e
  cases n with
  |zero=>
   simp only[runN,Yy] at e;have:=(zeC (zfl e).1).2;cases this
  |succ n=>
   have zAC:pz.finish v=pz:=rfl;rw[zAC] at e;obtain⟨o,w2,es,zmO⟩:=zp4 (p:=p) (x:=pz) (ds:=[]) rfl ⟨_,rfl⟩ [] w1;have Ai:=zc9 rfl zmO;simp[runN,Ai] at e
end
inductive Jn (p:bT):Nat->Fm->List Fm->aE->Fm->aE->Prop
 |stop {m:Fm} {w:aE}:m.ret=true->Jn p 0 m [] w m w
 |step {n:Nat} {m m1 mT:Fm} {ms ms1:List Fm} {w w1 wT:aE}:(m.ret=true->ms≠[])->(eK p m ms).run p w=.ok (m1,ms1) w1->Jn p n m1 ms1 w1 mT wT->Jn p (n+1) m ms w mT wT
structure vZ (P:dM)(fs:aO->Bool):Prop extends Fit2 P fs where
 none:∀f,P.op f=false
section
variable (P:dM)(fs:aO->Bool)(K:Pr)(G':Gp)(St:Nat->Prop)
def vR (m:Fm)(ms:List Fm)(w:aE):Prop:=∃R W m' ms',dB (SF fs) K R G' St w W/\pL P fs K R m m'/\vF P fs K R ms ms'
variable {P fs K G' St}
variable {w W:aE}
def dB.tp {S:aO->Prop}{R:Pr}(h:dB S K R G' St w W)(T:kS)(e:Nat):dB S K R G' St (tp w T e) (tp W T e):=
 ⟨h.inj,h.inj',h.lt,h.low,h.gle,h.cont,h.rest,h.st,h.np,h.tb⟩
variable {T:kS}
def dB.untp {S:aO->Prop}{R:Pr}{e:Nat}(h:dB S K R G' St (Tt.tp w T e) W):dB S K R G' St w W:=
 ⟨h.inj,h.inj',h.lt,h.low,h.gle,h.cont,h.rest,h.st,h.np,h.tb⟩
def Tp.tp (w W:aE)(T:kS)(e:Nat):Tp (tp w T e) (tp W T e):=λ_ _=>rfl
theorem dB.relOk {S:aO->Prop}{R:Pr}(hG:G'=P.gp)(h:dB S K R G' St w W):uM P K R:=by subst hG;exact⟨h.inj,h.inj',λa b x=>(h.low a b x).1,h.tb⟩
variable {m:Fm}{ms:List Fm}
theorem vR.next (F:vZ P fs)(hG:G'=P.gp){m1:Fm}{ms1:List Fm}{w1:aE}{e:Nat}(h:vR P fs K G' St m ms w)(hs:m.ret=true->ms≠[])
 (hr:(eK P.g m ms).run P.g (tp w T e)=.ok (m1,ms1) w1):vR P fs K G' St m1 ms1 w1:=by
 obtain⟨R,W,m',ms',hw,hm,jR⟩:=h;obtain⟨R1,x',W1,ev,e1,e2,e3,e4,e5⟩:=aG.run hG _ (zhj (l:=false) F.toFit2 (hw.relOk hG) hm jR (λe=>by cases e) hs) (hw.tp T e) (Tp.tp w W T e) hr;rcases e2 with e2|⟨_,⟨f,_,_,_,_,_,_,ho,_⟩⟩
 .exact⟨R1,W1,x'.1,x'.2,e3.rel,e2.1,e2.2.1⟩
 .rw[F.none] at ho;cases ho
theorem vR.locl (F:vZ P fs)(hG:G'=P.gp)(h:vR P fs K G' St m ms w)(hs:m.ret=true->ms≠[])(T:kS)(e:Nat):Ol P.g (eK P.g m ms) (tp w T e):=by
 obtain⟨R,W,m',ms',hw,hm,jR⟩:=h;exact aG.locl hG _ (zhj (l:=false) F.toFit2 (hw.relOk hG) hm jR (λe=>by cases e) hs) (hw.tp T e) (Tp.tp w W T e)
theorem tp_self (h:w.tape=T):tp w T w.drawn=w:=by subst h;rfl
theorem Jn.alike (F:vZ P fs)(hG:G'=P.gp):∀{n:Nat} {m mT:Fm} {ms:List Fm} {w wT:aE} {T1 T2:kS} {e1 e2:Nat},vR P fs K G' St m ms w->Jn P.g n m ms (tp w T1 e1) mT wT->(∀n q,T2 (e2+n) q=T1 (e1+n) q)->∃e3,Jn P.g n m ms (tp w T2 e2) mT (tp wT T2 e3):=by
 intro n
 induction n with
 |zero=>
  intro m mT ms w wT T1 T2 e1 e2 hR h ht
  cases h with
  |stop hr=>exact⟨e2,.stop hr⟩
 |succ n ih=>
  intro m mT ms w wT T1 T2 e1 e2 hR h ht
  cases h with
  |step hs hr hn=>
   rename_i m1 ms1 w1;obtain⟨h1,h2,h3⟩:=hR.locl F hG hs T1 e1 _ _ hr;have h4:=h3 T2 e2 (λk _ q=>ht k q);have zjA:w1=tp w1 T1 w1.drawn:=(tp_self h1).symm;rw[zjA] at hn
   obtain⟨e3,h5⟩:=ih (T2:=T2) (e2:=e2+(w1.drawn-e1)) (hR.next F hG hs hr) hn (λk q=>by
    have Qh:e1<=w1.drawn:=h2;rw[show e2+(w1.drawn-e1)+k=e2+((w1.drawn-e1)+k) by omega,ht,show e1+((w1.drawn-e1)+k)=w1.drawn+k by omega])
   exact⟨e3,.step hs h4 h5⟩
theorem Ov (F:vZ P fs)(hG:G'=P.gp){frT:dL}{wT:aE}(hT:frT.mode=.returning):∀(n:Nat) {m:Fm} {ms:List Fm} {w:aE},vR P fs K G' St m ms w->
 runN P.g n (solo (G m.fr (ms.map Fm.fr++[pz])) w)=.next (solo (G frT [pz]) wT)->∃k mT,Jn P.g k m ms w mT wT/\mT.fr=frT:=by
 intro n
 induction n with
 |zero=>
  intro m ms w hR h;simp only[runN,Yy] at h;obtain⟨h1,rfl⟩:=zfl h;obtain⟨h2,h3⟩:=zeC h1;have jR:ms=[]:=by
   cases ms with
   |nil=>rfl
   |cons a b=>simp_all
  subst jR;have hr:m.ret=true:=by
   rw[<-h2] at hT
   cases hm:m.ret with
   |true=>rfl
   |false=>rw[Fm.fr_run hm] at hT;cases hT
  exact⟨0,m,.stop hr,h2⟩
 |succ n ih=>
  intro m ms w hR h;by_cases zeh:m.ret=true/\ms=[]
  .obtain⟨hr,rfl⟩:=zeh
   exact absurd h (zIx frT wT hr n)
  .have hs:m.ret=true->ms≠[]:=λa b=>zeh ⟨a,b⟩
   have zjA:tp w w.tape w.drawn=w:=rfl;by_cases bM:∃x w1,(eK P.g m ms).run P.g w=.ok x w1
   .obtain⟨⟨m1,ms1⟩,w1,hr⟩:=bM
    have vS:step P.g (solo (G m.fr (ms.map Fm.fr++[pz])) w)=.next (solo (G m1.fr (ms1.map Fm.fr++[pz])) w1):=by
     exact zcH rfl (zij (main:=true) hr [pz])
    obtain⟨k,mT,h1,h2⟩:=ih (vR.next (T:=w.tape) (e:=w.drawn) F hG hR hs hr) ((zaV vS n).symm.trans h);exact⟨k+1,mT,.step hs hr h1,h2⟩
   .exfalso
    obtain⟨R,W,m',ms',hw,hm,jR⟩:=hR;rcases zBj F.toFit2 hG (hw.tp w.tape w.drawn) (Tp.tp w W w.tape w.drawn) hm jR hs (λx w' e=>bM ⟨x,w',e⟩) [pz] with⟨o,w1,es,aY⟩|⟨x,w1,es,aY,hp,hd⟩
    .have vS:=zc9 rfl aY
     have:=(zuv vS n).symm.trans h;cases this
    .have vS:=zcH rfl aY
     exact zzD frT wT hT n x (ms.map Fm.fr) w1 hp hd (λy hy=>by obtain⟨z,_,rfl⟩:=List.mem_map.1 hy;rfl) ((zaV vS n).symm.trans h)
inductive LT (p:bT)(Q:Fm->aE->Prop):Fm->List Fm->aE->Prop
 |stop {m:Fm} {w:aE}:m.ret=true->Q m w->LT p Q m [] w
 |step {m:Fm} {ms:List Fm} {w:aE} (nx:kS->(Fm×List Fm)×aE):(m.ret=true->ms≠[])->(∀T,(eK p m ms).run p (tp w T 0)=.ok (nx T).1 (nx T).2)->(∀T,LT p Q (nx T).1.1 (nx T).1.2 (nx T).2)->LT p Q m ms w
def Hyp (P:dM)(fs:aO->Bool)(K:Pr)(G':Gp)(St:Nat->Prop)(Q:Fm->aE->Prop)(s:Fm×List Fm×aE):Prop:=
 vR P fs K G' St s.1 s.2.1 s.2.2/\∀T,∃n mT wT,Jn P.g n s.1 s.2.1 (tp s.2.2 T 0) mT wT/\Q mT wT
theorem bar (F:vZ P fs)(hG:G'=P.gp){Q:Fm->aE->Prop}(hQ:∀m w T e,Q m w->Q m (tp w T e))(h:Hyp P fs K G' St Q (m,ms,w)):LT P.g Q m ms w:=by
 refine zT λfQ=>?_
 let Bad:Fm×List Fm×aE->Prop:=λs=>Hyp P fs K G' St Q s/\¬LT P.g Q s.1 s.2.1 s.2.2
 have zky:∀s,Bad s->s.1.ret=true->s.2.1≠[]:=by
  rintro⟨m,ms,w⟩ ⟨⟨hR,hI⟩,hn⟩ hr e;simp only at hr e hn hI;subst e;obtain⟨n,mT,wT,Vd,hq⟩:=hI w.tape
  cases Vd with
  |stop _=>exact hn (.stop hr (show Q m (tp (tp w w.tape 0) w.tape w.drawn) from hQ _ _ w.tape w.drawn hq))
  |step hs _ _=>exact hs hr rfl
 have next:∀s,Bad s->∃(T:kS) (s1:Fm×List Fm×aE),(eK P.g s.1 s.2.1).run P.g (tp s.2.2 T 0)=.ok (s1.1,s1.2.1) s1.2.2/\Bad s1:=by
  rintro⟨m,ms,w⟩ hb;have hs:=zky _ hb;obtain⟨⟨hR,hI⟩,hn⟩:=hb;simp only at hs hI hn hR⊢;have bM:∀T,∃x w1,(eK P.g m ms).run P.g (tp w T 0)=.ok x w1:=λT=>by
   obtain⟨n,mT,wT,Vd,_⟩:=hI T
   cases Vd with
   |stop hr=>exact absurd rfl (hs hr)
   |step _ hr _=>exact⟨_,_,hr⟩
  refine zT λzEs=>hn ?_
  let x:=λT=>(bM T).choose
  let w1:=λT=>(bM T).choose_spec.choose
  have hx:∀T,(eK P.g m ms).run P.g (tp w T 0)=.ok (x T) (w1 T):=λT=>(bM T).choose_spec.choose_spec;refine .step (λT=>(x T,w1 T)) hs hx λT=>zT λaU=>zEs ⟨T,((x T).1,(x T).2,w1 T),hx T,⟨?_,?_⟩,aU⟩
  .exact hR.next F hG hs (hx T)
  .intro T'
   obtain⟨h1,h2,h3⟩:=hR.locl F hG hs T 0 _ _ (hx T)
   let T2:Tape:=λn q=>if n<(w1 T).drawn then T n q else T' (n-(w1 T).drawn) q
   have h4:=h3 T2 0 (λn hn q=>by
    have wD:n<(w1 T).drawn:=by simpa[tp] using hn
    show(if 0+n<(w1 T).drawn then T (0+n) q else _)=_;rw[if_pos aC];rfl)
   obtain⟨n,mT,wT,Vd,hq⟩:=hI T2
   cases Vd with
   |stop hr=>exact absurd rfl (hs hr)
   |step Ia hr wD=>
    rename_i n' m1 ms1 w2;have Lq:(eK P.g m ms).run P.g (tp w T2 0)=.ok (x T) (tp (w1 T) T2 (0+((w1 T).drawn-(tp w T 0).drawn))):=h4;rw[Lq] at hr;injection hr with e1 e2;have Oh:m1=(x T).1:=by rw[e1]
    have zW:ms1=(x T).2:=by rw[e1]
    subst Oh zW;rw[<-e2] at wD;have hd:0+((w1 T).drawn-(tp w T 0).drawn)=(w1 T).drawn:=by show 0+((w1 T).drawn-0)=_;omega
    rw[hd] at wD
    obtain⟨e3,h5⟩:=Jn.alike (T2:=T') (e2:=0) F hG (hR.next F hG hs (hx T)) wD (λk q=>by
     show _=(if(w1 T).drawn+k<(w1 T).drawn then _ else T' ((w1 T).drawn+k-(w1 T).drawn) q);rw[if_neg aC];congr 1;omega)
    exact⟨n',mT,_,h5,hQ _ _ _ _ hq⟩
 have hstart:Bad (m,ms,w):=⟨h,fQ⟩
 let nT:=λs (hb:Bad s)=>(next s hb).choose
 let nS:=λs (hb:Bad s)=>(next s hb).choose_spec.choose
 have cP:∀s (hb:Bad s),(eK P.g s.1 s.2.1).run P.g (tp s.2.2 (nT s hb) 0)=.ok ((nS s hb).1,(nS s hb).2.1) (nS s hb).2.2:=λs hb=>(next s hb).choose_spec.choose_spec.1;have S6:∀s (hb:Bad s),Bad (nS s hb):=λs hb=>(next s hb).choose_spec.choose_spec.2
 let seq:Nat->{s:Fm×List Fm×aE//Bad s}:=λk=>Nat.rec ⟨(m,ms,w),hstart⟩ (λ_ s=>⟨nS s.1 s.2,S6 s.1 s.2⟩) k
 let tps:Nat->Tape:=λk=>nT (seq k).1 (seq k).2
 let d:Nat->Nat:=λk=>(seq (k+1)).1.2.2.drawn
 let D:Nat->Nat:=λk=>Nat.rec 0 (λk x=>x+d k) k
 have hD:∀k,D (k+1)=D k+d k:=λk=>rfl;have zv3:∀i j,i<=j->D i<=D j:=λi j s7=>by
  induction s7 with
  |refl=>exact bL _
  |step _ ih=>exact eG ih (by rw[hD];omega)
 classical
 let TS:Tape:=λN q=>if hh:∃k,D k<=N/\N<D (k+1) then tps hh.choose (N-D hh.choose) q else 0
 have zzY:∀k n q,n<d k->TS (D k+n) q=tps k n q:=by
  intro k n q hn;have hh:∃j,D j<=D k+n/\D k+n<D (j+1):=⟨k,aC,by rw[hD];omega⟩;have hc:=hh.choose_spec;have hk:hh.choose=k:=by
   rcases Nat.lt_trichotomy hh.choose k with x|x|x
   .have:=zv3 (hh.choose+1) k x;omega
   .exact x
   .have:=zv3 (k+1) hh.choose x;rw[hD] at this;omega
  show(if hh:∃j,D j<=D k+n/\D k+n<D (j+1) then _ else _)=_;rw[dif_pos hh,hk];congr 1;omega
 have vS:∀k,(eK P.g (seq k).1.1 (seq k).1.2.1).run P.g (tp (seq k).1.2.2 TS (D k))=.ok ((seq (k+1)).1.1,(seq (k+1)).1.2.1) (tp (seq (k+1)).1.2.2 TS (D (k+1))):=by
  intro k;have hb:=(seq k).2;have hs:=zky _ hb;have hr:=cP (seq k).1 (seq k).2;obtain⟨h1,h2,h3⟩:=hb.1.1.locl F hG hs (tps k) 0 _ _ hr;have h4:=h3 TS (D k) (λn hn q=>by
   have wD:n<d k:=by have:n<(nS (seq k).1 (seq k).2).2.2.drawn-0:=hn;simpa using this
   rw[zzY k n q wD];show _=tps k (0+n) q;rw[Nat.zero_add])
  have e1:D k+((nS (seq k).1 (seq k).2).2.2.drawn-(tp (seq k).1.2.2 (tps k) 0).drawn)=D (k+1):=by rw[hD];show D k+((seq (k+1)).1.2.2.drawn-0)=_;rfl
  rw[e1] at h4;exact h4
 obtain⟨n,mT,wT,Vd,_⟩:=h.2 TS;have key:∀(n k:Nat) (mT:Fm) (wT:aE),Jn P.g n (seq k).1.1 (seq k).1.2.1 (tp (seq k).1.2.2 TS (D k)) mT wT->False:=by
  intro n
  induction n with
  |zero=>
   intro k mT wT hi;have hs:=zky _ (seq k).2;generalize jR:(seq k).1.2.1=ms0 at hi hs
   cases hi with
   |stop hr=>exact hs hr rfl
  |succ n ih=>
   intro k mT wT hi;have aY:=vS k;generalize jR:(seq k).1.2.1=ms0 at hi aY;generalize zay:(seq k).1.1=m0 at hi aY;generalize jU:tp (seq k).1.2.2 TS (D k)=w0 at hi aY
   cases hi with
   |step Ia hr hn=>
    rename_i m1 ms1 w1;rw[aY] at hr;injection hr with e1 e2;injection e1 with e1 e3;subst e1 e2 e3;exact ih (k+1) mT wT hn
 exact key n 0 mT wT Vd
end
end Go.Tt
namespace Go.Tt
inductive LTs (p:bT)(N:Fm->Prop)(Stop:Fm->List Fm->aE->Prop):Fm->List Fm->aE->Prop
 |stop {m:Fm} {ms:List Fm} {w:aE}:Stop m ms w->LTs p N Stop m ms w
 |step {m:Fm} {ms:List Fm} {w:aE} (nx:kS->(Fm×List Fm)×aE):(m.ret=true->ms≠[])->(∀T,(eK p m ms).run p (tp w T 0)=.ok (nx T).1 (nx T).2)->(∀T,N (nx T).1.1)->(∀T,LTs p N Stop (nx T).1.1 (nx T).1.2 (nx T).2)->LTs p N Stop m ms w
def Fm.app (m:Fm)(k:List dI):Fm:={m with todo:=m.todo++k}
theorem Fm.app_nil (m:Fm):m.app []=m:=by unfold Fm.app;simp
def yH (S:List Nat):Code->Bool
 | .skip| .ret| .exit _| .label _=>true
 | .region _ ops _=>ops.all λo=>match o.dst with|some s=>!S.contains s|none=>true
 | .seq a b=>yH S a&&yH S b
 | .cond _ a b=>yH S a&&yH S b
 | .block _ c| .loop c| .scope c=>yH S c
 |_=>false
def Bm (S:List Nat):dI->Bool
 | .code c| .inLoop c| .inScope c=>yH S c
 | .inBlock _=>true
 | .inRegion ops _=>ops.all λo=>match o.dst with|some s=>!S.contains s|none=>true
 |_=>false
def Sz:Fm->List Fm->Fm
 |m,[]=>m
 |_,c::cs=>Sz c cs
structure Lz (S:List Nat)(m m':Fm):Prop where
 no:∀i∈m'.todo,Bm S i=true
 at_:∀s∈S,m'.tmps.getD s aA=m.tmps.getD s aA
variable {S:List Nat}{k:List dI}
theorem zfk {m:Fm}{ops:Array aX}{i:Nat}{rest:List Nat}(h:m.todo=.inRegion ops (i::rest)::k)(hn:∀i∈m.todo,Bm S i=true)(v:aF):Lz S m (m.fin ops i rest k v):=by
 have hx:=hn (.inRegion ops (i::rest)) uU;refine⟨λj hj=>?_,λs hs=>?_⟩
 .simp only[Fm.fin,lV] at hj
  rcases hj with rfl|hj
  .exact hx
  simp_all
 .unfold Fm.fin
  simp only
  cases hd:(ops[i]?).bind (·.dst) with
  |none=>rfl
  |some q=>
   obtain⟨o,ho,hq⟩:=Option.bind_eq_some_iff.1 hd;simp only[Bm,Array.all_eq_true_iff_forall_mem] at hx;have h1:=hx o (Array.mem_of_getElem? ho);rw[hq] at h1;simp only[Bool.not_eq_true',List.contains_eq_mem,decide_eq_false_iff_not] at h1;have aV:q≠s:=λe=>h1 (e▸hs);simp_all
def zH9 {id:Nat}{k':List dI}(h:exitTo id k=some k')(hn:∀i∈k,Bm S i=true):∀i∈k',Bm S i=true:=λi hi=>hn i (zjM h i hi)
section
variable {p:bT}
theorem Fm.fin_app (m:Fm)(ops:Array aX)(i:Nat)(rest:List Nat)(k0 k:List dI)(v:aF):(m.app k).fin ops i rest (k0++k) v=(m.fin ops i rest k0 v).app k:=by
 unfold Fm.fin Fm.app;simp
variable {m x:Fm}{ms ys ms':List Fm}{w w1:aE}
theorem zbF (k:List dI)(aV:m.todo≠[])(h:(q8 p m ms).run p w=.ok (x,ys) w1):
 (ys=ms/\x.fn=m.fn/\(x.ret=true->m.ret=false->x.todo≠[])/\(∀S,(∀i∈m.todo,Bm S i=true)->Lz S m x)/\(q8 p (m.app k) ms').run p w=.ok (x.app k,ms') w1)\/(ys=m::ms/\(q8 p (m.app k) ms').run p w=.ok (x,m.app k::ms') w1):=by
 obtain⟨fn,tmps,todo,ret⟩:=m;simp only at aV;unfold q8 at h⊢;simp only[Fm.app] at h⊢
 cases todo with
 |nil=>exact absurd rfl aV
 |cons it k0=>
  simp only[Sd] at h⊢
  cases it with
  |code c=>
   cases c with
   |cond c a b=>
    simp only at h⊢;have he:Fm.eval {fn:=fn,tmps:=tmps,todo:=Ot (Code.cond c a b)::(k0++k),ret:=ret} c=Fm.eval {fn:=fn,tmps:=tmps,todo:=Ot (Code.cond c a b)::k0,ret:=ret} c:=by cases c<;>rfl
    rw[he]
    cases hv:Fm.eval {fn:=fn,tmps:=tmps,todo:=Ot (Code.cond c a b)::k0,ret:=ret} c with
    |bool t=>
     rw[hv] at h;simp only[lR,bK,vC,oM] at h;obtain⟨⟨rfl,rfl⟩,rfl⟩:=h;refine .inl ⟨rfl,rfl,λa b=>Ko (b.symm.trans a),λS hn=>⟨?_,λ_ _=>rfl⟩,rfl⟩;simp only[lV,forall_eq_or_imp,Bm,yH,iT] at hn⊢;cases t<;>grind
    |_=>rw[hv] at h;simp[stuck,bK] at h
   |exit id=>
    simp only at h⊢
    cases he:exitTo id k0 with
    |some k'=>
     rw[he] at h;rw[zmS k he];simp only[lR,bK,vC,oM] at h;obtain⟨⟨rfl,rfl⟩,rfl⟩:=h;exact .inl ⟨rfl,rfl,λa b=>Ko (b.symm.trans a),λS hn=>⟨zH9 he λi hi=>hn i (List.mem_cons_of_mem _ hi),λ_ _=>rfl⟩,rfl⟩
    |none=>rw[he] at h;simp[stuck,bK] at h
   |region id ops draw=>
    cases draw with
    |true=>
     simp only[if_true] at h⊢;have h2:=(uG p (choose (.order fn id)) _ w).symm.trans h;have h3:=λ(f:Nat->dA (Fm×List Fm))=>uG p (choose (.order fn id)) f w
     cases hc:(choose (.order fn id)).run p w with
     |ok t w2=>
      rw[hc] at h2 h3;simp only[uR] at h2 h3;simp only[lR,bK,vC,oM] at h2;obtain⟨⟨rfl,rfl⟩,rfl⟩:=h2;exact .inl ⟨rfl,rfl,λa b=>Ko (b.symm.trans a),λS hn=>⟨by simp only[lV,forall_eq_or_imp,Bm,yH,iT] at hn⊢;grind,λ_ _=>rfl⟩,h3 _⟩
     |halt y w2=>rw[hc] at h2;cases h2
    |false=>
     simp only[jG,if_false,lR,bK,vC,oM] at h;obtain⟨⟨rfl,rfl⟩,rfl⟩:=h;exact .inl ⟨rfl,rfl,by first|exact λa b=>Ko (b.symm.trans a)|exact λ_ _=>zgu _ _,λS hn=>⟨by simp only[lV,forall_eq_or_imp,Bm,yH,iT] at hn⊢;grind,λ_ _=>rfl⟩,rfl⟩
   |_=>
    first
     |(simp[stuck,bK] at h;done)
     |(
      simp only[lR,bK,vC,oM] at h;obtain⟨⟨rfl,rfl⟩,rfl⟩:=h;exact .inl ⟨rfl,rfl,by first|exact λa b=>Ko (b.symm.trans a)|exact λ_ _=>zgu _ _,λS hn=>⟨by simp only[lV,forall_eq_or_imp,Bm,yH,iT] at hn⊢;grind,λ_ _=>rfl⟩,rfl⟩)
  |inRegion ops l=>
   cases l with
   |nil=>
    simp only[lR,bK,vC,oM] at h;obtain⟨⟨rfl,rfl⟩,rfl⟩:=h;exact .inl ⟨rfl,rfl,by first|exact λa b=>Ko (b.symm.trans a)|exact λ_ _=>zgu _ _,λS hn=>⟨by simp only[lV,forall_eq_or_imp,Bm,yH,iT] at hn⊢;grind,λ_ _=>rfl⟩,rfl⟩
   |cons i rest=>
    simp only at h⊢;have Bj:∀v,Fm.fin {fn:=fn,tmps:=tmps,todo:=sH ops (i::rest)::(k0++k),ret:=ret} ops i rest (k0++k) v=(Fm.fin {fn:=fn,tmps:=tmps,todo:=sH ops (i::rest)::k0,ret:=ret} ops i rest k0 v).app k:=λv=>Fm.fin_app {fn:=fn,tmps:=tmps,todo:=sH ops (i::rest)::k0,ret:=ret} ops i rest k0 k v;by_cases hw:((ops[i]?).map (cO · (cS ops tmps))).getD false=true
    .rw[if_pos hw] at h
     simp only[hw,if_true]
     cases ho:ops[i]? with
     |none=>rw[ho] at h;simp[stuck,bK] at h
     |some o=>
      rw[ho] at h;simp only at h⊢;have l9:Fm.eval {fn:=fn,tmps:=tmps,todo:=sH ops (i::rest)::(k0++k),ret:=ret}=Fm.eval {fn:=fn,tmps:=tmps,todo:=sH ops (i::rest)::k0,ret:=ret}:=by funext y;cases y<;>rfl
      rw[l9];have h2:=(uG p _ _ w).symm.trans h;have h3:=λ(f:Next->dA (Fm×List Fm))=>uG p (aS (Fm.eval {fn:=fn,tmps:=tmps,todo:=sH ops (i::rest)::k0,ret:=ret}) o) f w
      cases hc:(aS (Fm.eval {fn:=fn,tmps:=tmps,todo:=sH ops (i::rest)::k0,ret:=ret}) o).run p w with
      |halt y w2=>rw[hc] at h2;cases h2
      |ok n w2=>
       rw[hc] at h2 h3;simp only[uR] at h2 h3
       cases n with
       |value v=>
        simp only[qK,lR,bK,vC,oM] at h2;obtain⟨⟨rfl,rfl⟩,rfl⟩:=h2;refine .inl ⟨rfl,rfl,λa b=>Ko (b.symm.trans a),λS hn=>zfk rfl hn _,(h3 _).trans ?_⟩;simp only[qK,lR,bK,Bj];rfl
       |skip=>
        simp only[qK,lR,bK,vC,oM] at h2;obtain⟨⟨rfl,rfl⟩,rfl⟩:=h2;refine .inl ⟨rfl,rfl,λa b=>Ko (b.symm.trans a),λS hn=>zfk rfl hn _,(h3 _).trans ?_⟩;simp only[qK,lR,bK,Bj];rfl
       |enter f args=>
        simp only[qK] at h2
        cases hf:p.funcs[f]? with
        |none=>rw[hf] at h2;simp[stuck,bK] at h2
        |some fn2=>
         cases hb:fn2.body with
         |none=>rw[hf] at h2;simp only[hb] at h2;simp[stuck,bK] at h2
         |some c=>
          rw[hf] at h2;simp only[hb,lR,bK,vC,oM] at h2;obtain⟨⟨rfl,rfl⟩,rfl⟩:=h2;refine .inr ⟨rfl,(h3 _).trans ?_⟩;simp only[qK,hf,hb,lR,bK]
       |_=>simp[qK,stuck,bK] at h2
    .rw[if_neg hw] at h
     have lX:((ops[i]?).map (cO · (cS ops tmps))).getD false=false:=by simpa using hw
     simp only[lX,jG,if_false];simp only[lR,bK,vC,oM] at h;obtain⟨⟨rfl,rfl⟩,rfl⟩:=h;refine .inl ⟨rfl,rfl,λa b=>Ko (b.symm.trans a),λS hn=>zfk rfl hn _,?_⟩;simp only[lR,bK,Bj];rfl
  |_=>
   first
    |(simp[stuck,bK] at h;done)
    |(
     simp only[lR,bK,vC,oM] at h;obtain⟨⟨rfl,rfl⟩,rfl⟩:=h;exact .inl ⟨rfl,rfl,by first|exact λa b=>Ko (b.symm.trans a)|exact λ_ _=>zgu _ _,λS hn=>⟨by simp only[lV,forall_eq_or_imp,Bm,yH,iT] at hn⊢;grind,λ_ _=>rfl⟩,rfl⟩)
theorem zxq (h:(q8 p m ms).run p w=.ok (x,ys) w1)(hx:x.ret=true)(hr:m.ret=false)(aV:m.todo≠[])(hy:ys=ms):x.todo≠[]:=by
 rcases zbF (ms':=[]) [] aV h with e|e
 .exact e.2.2.1 hx hr
 simp_all
theorem zwk (h:(q8 p m ms).run p w=.ok (x,ys) w1)(hm:m.todo=[]):x={m with ret:=true}/\ys=ms:=by
 unfold q8 at h;simp_all
theorem zfd (h:(q8 p m ms).run p w=.ok (x,ys) w1):(ys=ms/\x.fn=m.fn)\/ys=m::ms:=by
 by_cases hm:m.todo=[]
 .obtain⟨rfl,rfl⟩:=zwk h hm
  simp_all
 .exact(zbF (ms':=[]) [] hm h).imp (λe=>⟨e.1,e.2.1⟩) And.left
theorem zFh {S:List Nat}{m':Fm}{w':aE}(hn:∀i∈m.todo,Bm S i=true)(h:(q8 p m ms).run p w=.ok (m',ms') w'):(ms'=ms/\Lz S m m')\/ms'=m::ms:=by
 by_cases hm:m.todo=[]
 .obtain⟨rfl,rfl⟩:=zwk h hm
  exact .inl ⟨rfl,hn,λ_ _=>rfl⟩
 .exact(zbF (ms':=[]) [] hm h).imp (λe=>⟨e.1,e.2.2.2.1 S hn⟩) And.left
def Au (k:List dI)(b:List Fm):Fm->List Fm->Fm×List Fm
 |m,[]=>(m.app k,b)
 |m,c::cs=>(m,(Au k b c cs).1::(Au k b c cs).2)
variable {m1:Fm}{ms1:List Fm}
theorem zCO {k:List dI}{b:List Fm}(h:(eK p m ms).run p w=.ok (m1,ms1) w1)(aV:ms=[]->m.ret=false->m.todo≠[]):
 (eK p (Au k b m ms).1 (Au k b m ms).2).run p w=.ok (Au k b m1 ms1) w1:=by
 cases ms with
 |nil=>
  simp only[Au]
  cases hr:m.ret with
  |true=>simp[eK,hr,zR,stuck,bK] at h
  |false=>
   have zL:(m.app k).ret=false:=hr;simp only[eK,hr,jG,if_false] at h;simp only[eK,zL,jG,if_false];rcases zbF (ms':=b) k (aV rfl hr) h with⟨rfl,_,_,_,e⟩|⟨rfl,e⟩
   .exact e
   .exact e
 |cons c cs=>
  simp only[Au]
  cases hr:m.ret with
  |true=>
   simp only[eK,hr,if_true] at h⊢;obtain⟨ops,i,r,k0,v,fn,hc,hf,hv,rfl,rfl⟩:=Ue h
   cases ms1 with
   |nil=>
    simp only[Au];have kQ:(c.app k).todo=.inRegion ops (i::r)::(k0++k):=by simp[Fm.app,hc]
    have:=(Mq (rest:=b) kQ hf hv).1;rw[Fm.fin_app] at this;exact this
   |cons d ds=>exact(Mq hc hf hv).1
  |false=>
   simp only[eK,hr,jG,if_false] at h⊢;by_cases pS:m.todo=[]
   .simp only[q8,pS,lR,bK,vC,oM] at h⊢
    obtain⟨⟨rfl,rfl⟩,rfl⟩:=h;exact⟨rfl,rfl⟩
   .rcases zbF (ms':=(Au k b c cs).1::(Au k b c cs).2) [] pS h with⟨rfl,_,_,_,e⟩|⟨rfl,e⟩
    .simp only[Fm.app_nil] at e
     exact e
    .simp only[Fm.app_nil] at e
     exact e
def Ui:Fm->List Fm->aO
 |m,[]=>m.fn
 |_,c::cs=>Ui c cs
theorem zvs (h:(eK p m ms).run p w=.ok (m1,ms1) w1):Ui m1 ms1=Ui m ms:=by
 cases hr:m.ret with
 |true=>
  simp only[eK,hr,if_true] at h
  cases ms with
  |nil=>simp[zR,stuck,bK] at h
  |cons c cs=>
   obtain⟨ops,i,r,k0,v,fn,hc,hf,hv,rfl,rfl⟩:=Ue h;cases ms1<;>rfl
 |false=>
  simp only[eK,hr,jG,if_false] at h;rcases zfd h with⟨rfl,e⟩|rfl
  .cases ms1 with
   |nil=>exact e
   |cons c cs=>rfl
  .rfl
variable {Q:Fm->aE->Prop}
theorem LT.ret_inv (hr:m.ret=true)(h:LT p Q m [] w):Q m w:=by
 generalize jR:([]:List Fm)=ms at h
 cases h with
 |stop _ hq=>exact hq
 |step nx hs cP _=>simp_all
variable {Stop:Fm->List Fm->aE->Prop}
theorem LT.app {P₁:dM}{Ug:aO->Bool}{K₁:Pr}{V4:Gp}{zd6:Nat->Prop}(zfx:vZ P₁ Ug)(zed:V4=P₁.gp){N:Fm->Prop}(k:List dI)(b:List Fm){fn0:aO}
 (hN:∀m R y,pL P₁ Ug K₁ R m y->N m) (zIy:∀m:Fm,m.fn=fn0->N m)
 (hn:∀(x:Fm) (w:aE),x.fn=fn0->x.ret=false->x.todo=[]->(∀T,Q {x with ret:=true} (tp w T 0))->Stop (x.app k) b w)
 (hr:∀(x:Fm) (w:aE),x.fn=fn0->x.ret=true->x.todo≠[]->Q x w->Stop (x.app k) b w)    (h:LT P₁.g Q m ms w):
 Ui m ms=fn0->vR P₁ Ug K₁ V4 zd6 m ms w->(ms=[]->m.ret=true->m.todo≠[])->LTs P₁.g N Stop (Au k b m ms).1 (Au k b m ms).2 w:=by
 induction h with
 |stop h1 h2=>intro hl _ hz;exact .stop (hr _ _ hl h1 (hz rfl h1) h2)
 |step nx hs cP aU ih=>
  rename_i m ms w;intro hl hrel hz;by_cases Il:ms=[]/\m.ret=false/\m.todo=[]
  .obtain⟨rfl,h1,h2⟩:=Il
   refine .stop (hn m w hl h1 h2 λT=>?_);have hT:=cP T;have e:(eK P₁.g m []).run P₁.g (tp w T 0)=.ok ({m with ret:=true},[]) (tp w T 0):=by simp[eK,h1,q8,h2,lR,bK]
   rw[e] at hT;injection hT with e1 e2;have hl:=aU T;rw[<-e1,<-e2] at hl;exact hl.ret_inv rfl
  .have aV:ms=[]->m.ret=false->m.todo≠[]:=λa b c=>Il ⟨a,b,c⟩
   have Ul:∀T,Ui (nx T).1.1 (nx T).1.2=fn0:=λT=>(zvs (m1:=(nx T).1.1) (ms1:=(nx T).1.2) (cP T)).trans hl;have sG:∀T,vR P₁ Ug K₁ V4 zd6 (nx T).1.1 (nx T).1.2 (nx T).2:=λT=>vR.next (T:=T) (e:=0) zfx zed hrel hs (cP T);refine .step (λT=>(Au k b (nx T).1.1 (nx T).1.2,(nx T).2)) (λe=>?_) (λT=>zCO (cP T) aV) (λT=>?_) (λT=>ih T (Ul T) (sG T) λe1 e2 e3=>?_)
   .cases ms with
    |nil=>exact absurd rfl (hs e)
    |cons c cs=>simp[Au]
   .
    show N (Au k b (nx T).1.1 (nx T).1.2).1
    cases jR:(nx T).1.2 with
    |nil=>exact zIy _ (by have:=Ul T;rw[jR] at this;exact this)
    |cons c cs=>
     obtain⟨R,W,m',ms',_,hm,_⟩:=sG T;exact hN _ R m' hm
   have hT:=cP T
   cases ms with
   |nil=>
    cases kG:m.ret with
    |true=>exact hs kG rfl
    |false=>
     simp only[eK,kG,jG,if_false] at hT;exact zxq hT e2 kG (aV rfl kG) e1 e3
   |cons c cs=>
    cases kG:m.ret with
    |true=>
     simp only[eK,kG,if_true] at hT;obtain⟨ops,i,r,k0,v,fn,hc,hf,hv,h1,h2⟩:=Ue (m1:=(nx T).1.1) (ms1:=(nx T).1.2) hT;rw[h1] at e3;simp[Fm.fin] at e3
    |false=>
     simp only[eK,kG,jG,if_false] at hT;rcases zfd hT with⟨e,_⟩|e
     .rw[e1] at e;cases e
     .rw[e1] at e;cases e
end
end Go.Tt
