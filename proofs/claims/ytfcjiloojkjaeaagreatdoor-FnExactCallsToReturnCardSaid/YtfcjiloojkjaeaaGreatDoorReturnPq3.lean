/-
  Part 3 of what stands behind the last text.
-/
import Derived.Conc.WgGenN3
import Derived.Conc.TokenWalk
import Derived.Test.YtfcjiloojkjaeaaGreatDoorReturnPq2
set_option linter.all false
set_option maxHeartbeats 16000000
set_option maxRecDepth 100000
open Array renaming all_eq_true_iff_forall_mem→zkd,any_eq_true→U3,ext_getElem?→zha,getD_eq_getD_getElem?→tJ,getElem?_eq_getElem→mD,getElem?_eq_none→Hj,getElem?_eq_some_iff→dQ,getElem?_map→xL,getElem?_mapIdx→M3,getElem?_setIfInBounds→zp2,getElem?_setIfInBounds_ne→jP,getElem?_toList→Ai,getElem_mem→zlo,mem_iff_getElem→ztR,mem_of_getElem?→Uq,mem_singleton→zrp,range→Ma,replicate→nL
open Bool renaming and_eq_true→fT,eq_iff_iff→Ns,false_eq_true→jE,false_or→zsb,not_eq_true'→ze8,or_eq_true→Er
open Classical renaming byContradiction→zC
open False renaming elim→zuW
open Go renaming Act→tP,Calls→fH,Deferred→Ee,Event→oL,Frame→dJ,Func→Um,FuncId→aO,Goroutine→bC,Item→eF,Oper→aZ,Operand→cN,Program→bR,Trace→lT,TypeId→aM,TypeInfo→wY,Value→aF,World→aE,bodyPost_ret→qY,deafBehind→n6,execOp→aS,getD_set_ne→Qa,heap_alloc_new→lP,info_parts→y3,mem_ready→zjr,undef→aA,yielded→dR
open Go.Act renaming eval→wA,mk→bJ,put→cC
open Go.Builtin renaming append_→wL
open Go.Code renaming region→E6
open Go.Conc renaming Deaf_other→Nv,aside_setCell→Ws,goes_elim→zjG,listed→xA,mem_ofEvents→zdn,mem_seen→zav,past_nil→zkU,runT_crowd_go→Wh,seen_none→Ce,served→oS,stepG_add_atomic→Xb,stepG_block→zeO,stepG_end→zd2,stepG_inBlock→zmq,stepG_inLoop→zkB,stepG_load_atomic→zhl,stepG_loop→zkx,stepG_mark0→zbd,stepG_markAt→zae,stepG_region_end→dF,stepG_ret'→wW,stepG_seq→dU,stepG_skip→pI,stepG_unwind_entry→zta
open Go.Conc.Goes renaming stop→qD
open Go.Conc.Lib renaming WgLib→Y3,WgLink→zgr
open Go.Conc.QuitsD renaming ctl→zwN
open Go.ConcN renaming upd→ziy
open Go.ConcR renaming Payload→zho,WgAt→gD,mk→oA
open Go.ConcR.Gen renaming body_add→Mi,body_wait→zjt,nm_uLoad→zj1,x_addU64_b→Zm,x_addU64_f→Zo,x_addU64_n→Vg,x_addU64_x→Xj,x_disable_b→zkS,x_disable_f→znB,x_disable_n→zke,x_disable_x→zlY,x_enable_b→zfj,x_enable_f→zeR,x_enable_n→zfe,x_enable_x→zeg,x_loadU64_b→zgh,x_loadU64_f→zgk,x_loadU64_n→zgt,x_loadU64_x→zgR,x_semacquire_b→zpv,x_semacquire_f→zsB,x_semacquire_n→zrZ,x_semacquire_x→zx1,x_semrelease_b→ztu
open Go.Deferred renaming ofValue→Co
open Go.Extern.Race renaming none_→zrx
open Go.Frame renaming enter→Fq,finish_at→zpE,tmps→zt1
open Go.GStep renaming after→Bf
open Go.IntKind renaming i32→zw7,u64→Sa,wrap_i32→zrH,wrap_u64→zeS
open Go.Lib renaming itoa→Kq,itoa_nonneg→Vy
open Go.Made renaming infoAt→zv2,reckon→zxH,reckonStruct→zw4,word→ztz
open Go.MemAct renaming ofEvent→jJ,touch?→qG
open Go.Proofs.Tryz renaming checked→vL,prog→aK,results51→zbY,results63→zgq,results64→zh9,results65→zen,results66→zeI,underlying45→zyo,underlying57→K9
open Go.Region renaming binds→Fo,ready→Gx,wanted→dD
open Go.Result renaming andThen→uD,evThen_ok→Uk,ok→wD
open Go.RowKit renaming Below→bU
open Go.RowKit.Below renaming heap_alloc→rA,heap_setCell→eJ,refl→eG
open Go.Sem renaming bind→xR,events→vV,events_bind'→U1,run→bD,runT→y7,run_bind'→r9
open Go.Stepped.next renaming injEq→Ve
open Go.Tables renaming info?→zmH
open Go.World renaming alloc→zif,cell?→lF,news_of_block→E7,size_setCell→sU
open Int renaming le_refl→zuR
open List renaming all_eq_true→tU,any_append→zyk,any_eq_true→Uf,append_nil→N0,foldl_append→zkh,foldl_cons→Qn,getD_cons_succ→Cy,getD_cons_zero→C2,getElem?_eq_getElem→lV,getElem?_eq_some_iff→jX,getElem?_modify→zS,getElem?_of_mem→zxJ,getElem_map→zva,length_append→gM,length_cons→pX,length_filter_le→zaE,length_map→Xt,length_modify→Gj,length_nil→r8,map_cons→fL,mem_append→E5,mem_cons→jH,mem_filter→Ia,mem_iff_getElem→L9,mem_iff_getElem?→Gq,mem_map→Jr,mem_map_of_mem→Vj,mem_of_getElem?→dX,mem_range→Bh,modify→zln,not_mem_nil→l8,range→gN,set_cons_succ→dS,set_cons_zero→dW,take_add_one→N3,take_of_length_le→zZ
open List.Nodup renaming sublist→zzR
open List.Sublist renaming map→zGB
open Nat renaming eq_zero_or_pos→Pv,le_refl→aV,le_trans→eM,lt_of_lt_of_le→lE,lt_or_ge→mY,lt_succ_of_lt→zrs,lt_succ_self→xD,ne_of_lt→zxd,strongRecOn→zj7,zero_add→qX,zero_le→jO,zero_mul→zbf
open Option renaming bind_eq_some_iff→Di,bind_some→vN,getD_some→y6,isSome_iff_exists→zlA,map_eq_some_iff→xB,map_some→Ak
open Option.some renaming inj→cE,injEq→fY
open Prod.mk renaming injEq→pP
open Pure renaming pure→kW
open SizeOf renaming sizeOf→N1
noncomputable section
namespace Go
def Jk{P:Prop}(h:P:=by rw[hz];exact zGm (by kernel_rfl)):P:=h
def zlf{P:Prop}(h:P:=by intro u hu;simp[bS.cells] at hu;rcases hu with rfl|rfl|rfl|rfl|rfl|rfl|rfl<;>rfl):P:=h
def qZ{P:Prop}(h:P:=by k_ne):P:=h
def zsp{P:Prop}(h:P:=by intro k hk aT;have cO:k=0\/k=1\/k=3\/k=4\/k=5\/k=6:=(by omega);rcases cO with rfl|rfl|rfl|rfl|rfl|rfl<;>rfl):P:=h
def zpZ{P:Prop}(h:P:=by intro k hk aT;have cO:k=0\/k=1\/k=2\/k=3\/k=5\/k=6:=(by omega);rcases cO with rfl|rfl|rfl|rfl|rfl|rfl<;>rfl):P:=h
def Hm{P:Prop}(h:P:=by decide+kernel):P:=h
def zfS{P:Prop}(h:P:=by intro e2;rw[e2] at h0;exact absurd h0 (by decide)):P:=h
def Tj{P:Prop}(h:P:=by show gb+1≠gb;omega):P:=h
def znf{P:Prop}(h:P:=by intro e2;rw[e2] at h1;exact absurd h1 (by decide)):P:=h
def Ya{P:Prop}(h:P:=by unfold maxLen;omega):P:=h
def Xw{P:Prop}(h:P:=by exact True.intro):P:=h
def zxc{P:Prop}(h:P:=by intro e2;rw[e2] at h2;exact absurd h2 (by decide)):P:=h
def U7{P:Prop}(h:P:=by rw[cD];simp):P:=h
def zfR{P:Prop}(h:P:=by show gb+2≠gb;omega):P:=h
def Y6{P:Prop}(h:P:=by rw[hf];simp):P:=h
def zcO{P:Prop}(h:P:=by rw[uX];simp):P:=h
def zhg{P:Prop}(h:P:=by simpa using hi):P:=h
def zqf{P:Prop}(h:P:=by have:=eZ.o.lob;have:=o9.o;omega):P:=h
def zkA{P:Prop}(h:P:=by simp[Act.eval,stA]):P:=h
def zje{P:Prop}(h:P:=by simp[Act.eval,smA]):P:=h
def znM{P:Prop}(h:P:=by show gf≠gb;omega):P:=h
end Go
namespace Go.Mt
open Go.Conc
open Go.ConcR (KK wgBlock WgAt stA smA rd wr)
section
variable {L:Type}{P:bR}{ty:aM}{Wg:Nat}{A:jU L}{Fin:bC->aE->Prop}
variable {K K':Bool->Ph L->Nat->cF->bC->aE->Prop}
def Nt.mono (hK:∀m ph d τ g w,K m ph d τ g w->K' m ph d τ g w){main:Bool}{ph:Ph L}{d:Nat}{τ:cF}{g:bC}{w:aE}(h:Nt P ty Wg K main ph d τ g w):Nt P ty Wg K' main ph d τ g w:=by
 have own:∀{ph:Ph L},zdA P ty Wg K main ph d τ g w->zdA P ty Wg K' main ph d τ g w:=λh aI s=>by
  obtain⟨g',w',es,h1,h2,h3,h4,h5⟩:=h aI s;exact⟨g',w',es,h1,h2,h3,h4,hK _ _ _ _ _ _ h5⟩
 have idle:∀{ph:Ph L},zaq P ty Wg K main ph d τ g w->zaq P ty Wg K' main ph d τ g w:=λh aI s=>by
  obtain⟨g',es,h1,h2,h3,h4⟩:=h aI s;exact⟨g',es,h1,h2,h3,hK _ _ _ _ _ _ h4⟩
 cases ph<;>first|exact h|exact own h|exact idle h
def mE.mono (hK:∀m ph d τ g w,K m ph d τ g w->K' m ph d τ g w){main:Bool}{l:L}{d:Nat}{τ:cF}{g:bC}{w:aE}(h:mE P ty Wg A K main l d τ g w):mE P ty Wg A K' main l d τ g w:=by
 unfold mE at*;split
 all_goals(rename_i e;simp only[e] at h)
 .obtain⟨ho,v,z,τ',h1,h2,h3,h4,L8,h5,h6⟩:=h
  exact⟨ho,v,z,τ',h1,h2,h3,h4,L8,h5,hK _ _ _ _ _ _ h6⟩
 .obtain⟨ho,z,b,h1,h2,h3⟩:=h
  exact⟨ho,z,b,h1,λv hv aI s hg=>hK _ _ _ _ _ _ (h2 v hv aI s hg),λx=>hK _ _ _ _ _ _ (h3 x)⟩
 .refine⟨h.1,h.2.1,λaI jA s r hc=>?_⟩
  obtain⟨g',h1,h2,h3⟩:=h.2.2 aI jA s r hc;exact⟨g',h1,h2,hK _ _ _ _ _ _ h3⟩
 .intro aI jA v hv hw
  obtain⟨g',h1,h2,h3⟩:=h aI jA v hv hw;exact⟨g',h1,h2,hK _ _ _ _ _ _ h3⟩
 .refine⟨h.1,λaI jA=>?_⟩
  obtain⟨g',child,τm,τc,h1,h2,h3,h4,h5,h6,h7,h8,h9,He,Ru⟩:=h.2 aI jA;exact⟨g',child,τm,τc,h1,h2,h3,h4,h5,h6,h7,h8,h9,hK _ _ _ _ _ _ He,hK _ _ _ _ _ _ Ru⟩
 .refine⟨h.1,h.2.1,h.2.2.1,λaI jA=>?_⟩
  obtain⟨g',h1,h2,h3⟩:=h.2.2.2 aI jA;exact⟨g',h1,h2,hK _ _ _ _ _ _ h3⟩
 .intro aI jA v hv hw
  obtain⟨g',h1,h2,h3,h4⟩:=h aI jA v hv hw;exact⟨g',h1,h2,λx=>hK _ _ _ _ _ _ (h3 x),λx=>hK _ _ _ _ _ _ (h4 x)⟩
 .obtain⟨l',h1,h2⟩:=h
  exact⟨l',h1,hK _ _ _ _ _ _ h2⟩
def zQ.mono (hK:∀m ph d τ g w,K m ph d τ g w->K' m ph d τ g w){main:Bool}{ph:Ph L}{d:Nat}{τ:cF}{g:bC}{w:aE}(h:zQ P ty Wg A Fin K main ph d τ g w):zQ P ty Wg A Fin K' main ph d τ g w:=by
 cases ph with
 |gone=>exact h
 |quit l=>exact h
 |usr l=>exact mE.mono hK h
 |rel l=>
  intro aI jA v wt a b c;obtain⟨g',h1,h2,h3,h4,h5⟩:=h aI jA v wt a b c;exact⟨g',h1,h2,h3,λx=>hK _ _ _ _ _ _ (h4 x),h5⟩
 |l1 l=>
  intro aI jA a;obtain⟨g',h1,h2,h3,h4⟩:=h aI jA a;exact⟨g',h1,h2,h3,hK _ _ _ _ _ _ h4⟩
 |l2 l=>
  intro aI jA a;obtain⟨g',h1,h2,h3,h4⟩:=h aI jA a;exact⟨g',h1,h2,h3,hK _ _ _ _ _ _ h4⟩
 |l3 l=>exact h
 |w1 b=>
  intro aI jA v zzx hv hw;obtain⟨g',h1,h2,h3,h4⟩:=h aI jA v zzx hv hw;exact⟨g',h1,h2,λx=>hK _ _ _ _ _ _ (h3 x),λx=>hK _ _ _ _ _ _ (h4 x)⟩
 |w2 vs=>
  intro aI jA v hv hw;obtain⟨h1,h2⟩:=h aI jA v hv hw;exact⟨λe=>let⟨g',a,b,c⟩:=h1 e;⟨g',a,b,hK _ _ _ _ _ _ c⟩,λe=>let⟨g',a,b,c⟩:=h2 e;⟨g',a,b,hK _ _ _ _ _ _ c⟩⟩
 |w3=>
  refine⟨h.1,λaI jA=>⟨(h.2 aI jA).1,λe=>?_⟩⟩;obtain⟨g',a,b,c⟩:=(h.2 aI jA).2 e;exact⟨g',a,b,hK _ _ _ _ _ _ c⟩
 |w4=>
  intro aI jA a;obtain⟨g',h1,h2,h3⟩:=h aI jA a;exact⟨g',h1,h2,hK _ _ _ _ _ _ h3⟩
 |w5=>exact h
def bY (P:bR)(ty:aM)(Wg:Nat)(A:jU L)(Fin:bC->aE->Prop)(main:Bool)(ph:Ph L)(d:Nat)(τ:cF)(g:bC)(w:aE):Prop:=∃r,o8 P ty Wg A Fin r main ph d τ g w
variable {main:Bool}{ph:Ph L}{d:Nat}{τ:cF}{g:bC}{w aI:aE}
def bY.mk (cH:g.status=.running)(h:Nt P ty Wg (bY P ty Wg A Fin) main ph d τ g w\/zQ P ty Wg A Fin (bY P ty Wg A Fin) main ph d τ g w):bY P ty Wg A Fin main ph d τ g w:=by
 let ι:={x:Bool×Ph L×Nat×cF×bC×aE//bY P ty Wg A Fin x.1 x.2.1 x.2.2.1 x.2.2.2.1 x.2.2.2.2.1 x.2.2.2.2.2}
 let f:ι->Rk:=λx=>x.2.choose
 have hK:∀m ph d τ g w,bY P ty Wg A Fin m ph d τ g w->∃i,o8 P ty Wg A Fin (f i) m ph d τ g w:=λm ph d τ g w hb=>⟨⟨(m,ph,d,τ,g,w),hb⟩,hb.choose_spec⟩;exact⟨.mk ι f,cH,h.imp (λx=>x.mono hK) λx=>x.mono hK⟩
def bY.own (cH:g.status=.running)(hl:ph.live)(h:zdA P ty Wg (bY P ty Wg A Fin) main ph d τ g w):bY P ty Wg A Fin main ph d τ g w:=
 .mk cH (.inl (by cases ph<;>first|exact h|exact hl.elim))
def bY.usr {l:L}(cH:g.status=.running)(h:mE P ty Wg A (bY P ty Wg A Fin) main l d τ g w):bY P ty Wg A Fin main (.usr l) d τ g w:=.mk cH (.inr h)
structure Start (P:bR)(ty:aM)(Wg:Nat)(A:jU L)(Fin:bC->aE->Prop)(Shun:Loc->Prop)(gs:Array bC)(w:aE)(t:lT)(q:Nat->Nat)(l:L)(τ:cF)(a:bC)(B:Nat):Prop where
 main:gs[0]? =some a
 leave:Leavers P t gs q
 past:Past Shun B t
 beh:bY P ty Wg A Fin true (.usr l) 0 τ a w
 grp:gD ty Wg w 0 0
 low:B<=Wg/\B<=w.heap.size
 bnd:∀b,τ.own b\/τ.still b\/τ.pass b->b<w.heap.size/\b≠Wg/\∀l,nD l b->¬Shun l
 pend:A.pend l=false
 inv:A.Inv (λi=>if i=0 then .run l else .gone) (λ_=>none)
def phase (hA:A.Ok){Shun:Loc->Prop}{gs:Array bC}{t:lT}{q:Nat->Nat}{l:L}{a:bC}{B:Nat}(S:Start P ty Wg A Fin Shun gs w t q l τ a B)(sl:Option (Nat×Nat)):
 ∃N m' t',runNT P N (crowd gs w sl) t=(.next m',t')/\Qb P Wg Fin Shun m' t':=by
 obtain⟨r,hr⟩:=S.beh;have h0:0<gs.size:=(dQ.1 S.main).1
 let none':cF:=⟨λ_=>False,λ_=>False,λ_=>False⟩
 let T:Nat->Td L:=λi=>if i=0 then⟨.usr l,.inr r,τ,a⟩ else⟨.gone,.inl (q i),none',default⟩
 have t0:T 0=⟨.usr l,.inr r,τ,a⟩:=by simp[T]
 have tn:∀i,i≠0->T i=⟨.gone,.inl (q i),none',default⟩:=λi hi=>by simp[T,hi]
 have cH:a.status=.running:=by cases r with|mk ι f=>exact hr.1
 have Wi:oT (λi=>(T i).ph) gs.size=0:=zne (λj hj=>by simp only[tn j hj,Ph.pre]) _;have qF:vv A (λi=>(T i).ph) gs.size=0:=by
  unfold vv zY;rw[Wi];simp only[t0,S.pend];rfl
 have zbs:(λi=>(T i).ph.proj)=λi=>if i=0 then .run l else .gone:=by
  funext i;by_cases hi:i=0
  .subst hi;rw[t0];rfl
  .rw[tn i hi,if_neg hi];rfl
 refine zDi (ty:=ty) hA (T:=T) (ch:=λ_=>none) (Shun:=Shun) ⟨⟨h0,λi hi=>(by rw[tn i aC]),(by rw[t0];trivial),λi hi=>(by rw[tn i hi];exact id),λi hi b=>?_,λi j b rH hb=>?_,λi b hb=>?_,λi b hb=>?_,λi l' hi=>?_,λc b hc=>(by cases hc),?_,(by rw[zbs];exact S.inv)⟩,
  ⟨λi x hi=>?_,λi j gi gj c v z z' sh wZ hi hj=>?_,λi gi c z sh hi e=>(by cases e),λx hx hp=>(by rw[t0] at hp;cases hp),?_⟩⟩ sl
 .by_cases h:i=0
  .subst h;rw[t0] at hi;cases hi
  .rw[tn i h];exact⟨id,id,id⟩
 .by_cases h:i=0
  .subst h
   rw[tn j (Ne.symm rH)];exact⟨id,id,id⟩
  .rw[tn i h] at hb;exact hb.elim
 .by_cases h:i=0
  .subst h
   rw[t0] at hb;have:=S.bnd b (hb.imp id .inl);exact⟨this.1,this.2.1,rfl⟩
  .rw[tn i h] at hb;exact hb.elim zuW zuW
 .by_cases h:i=0
  .subst h
   rw[t0] at hb;have:=S.bnd b (.inr (.inr hb));exact⟨this.1,this.2.1⟩
  .rw[tn i h] at hb;exact hb.elim
 .by_cases h:i=0
  .subst h;rw[t0] at hi;cases hi
  .rw[tn i h] at hi;cases hi
 .unfold gQ
  simp only[t0];refine⟨by rw[qF];simpa using S.grp,λi e=>?_⟩;by_cases h:i=0
  .subst h;rw[t0] at e;exact e
  .rw[tn i h] at e;exact e
 .by_cases h:i=0
  .subst h
   rw[S.main] at hi;cases hi;refine(pL (by rw[t0];exact id)).2 ⟨r,by rw[t0],?_,.inl (by rw[t0];exact lS.self cH)⟩;have hd:Deaf t 0=0:=S.past.hears;rw[t0,hd];exact hr
  .refine(G4 (by rw[tn i h];trivial)).2 ⟨q i,by rw[tn i h],S.leave.old i x aC hi⟩
 .exfalso
  by_cases h:i=0
  .subst h
   rw[S.main] at hi;cases hi;simp[parked] at cH
  .have:=(S.leave.old i _ aC hi).status
   simp[parked] at this
 .refine TI.begin S.past S.low.2 S.leave.above (λj=>?_) (λb hb=>?_) S.low.1
  .by_cases h:j=0
   .subst h;rw[t0];exact⟨λ_=>rfl,λ_=>trivial⟩
   .rw[tn j h];exact⟨λe=>e.elim,λe=>absurd e h⟩
  .rw[t0] at hb
   exact(S.bnd b hb).2.2
end
end Go.Mt
namespace Go.Mt
open Go.Conc Go.Tt
open Go.ConcR (KK wgBlock WgAt stA smA rd wr)
def vO (τ:cF)(R:Pr)(St:Nat->Prop):Prop:=∀a b,R a b->(St a->τ.still b)/\(¬St a->τ.own b)
section
variable {L:Type}{P:dL}{fs:aO->Bool}{K:Pr}{G':Gp}{St:Nat->Prop}{ty:aM}{Wg:Nat}{A:jU L}{Fin:bC->aE->Prop}
def zlZ {S:aO->Prop}{R:Pr}{w W aX:aE}{τ:cF}(h:cV S K R G' St w W)(ht:vO τ R St)(hK:∀a b,K a b->b<W.heap.size)(s:bT ty Wg τ W aX):cV S K R G' St w aX:=by
 refine⟨h.inj,h.inj',λa b x=>⟨(h.lt a b x).1,lE (h.lt a b x).2 s.size⟩,h.low,⟨h.gle.1,eM h.gle.2 s.size⟩,λa b x=>?_,h.rest,h.st,h.np,h.tb⟩;obtain⟨o,o',h1,h2,h3⟩:=h.cont a b x;refine⟨o,o',h1,?_,h3⟩;rw[s.keep b ?_];exact h2;by_cases hs:St a
 .exact .inr ((ht a b x).1 hs)
 .exact .inl ((ht a b x).2 hs)
end
end Go.Mt
namespace Go.Mt
open Go.Conc Go.Tt
open Go.ConcN (sumTo sumTo_upd upd_ne upd_same)
open Go.ConcR (KK wgBlock WgAt stA smA rd wr)
def Ends (P:bR)(Post:aF->aE->Prop)(m:Machine)(t:lT):Prop:=
 ∃M last o w' t',runNT P (M+1) m t=(.ended o w',t')/\runN P M m=.next last/\step P last=.ended o w'/\Conc.Good P Post last o w' t'
section
variable {P:bR}{Post:aF->aE->Prop}
variable {ops:Array MemOp}
def Ends.step {m m':Machine}{t:lT}(h:stepT P m=(.next m',ops))(he:Ends P Post m' (t++ops)):Ends P Post m t:=by
 obtain⟨M,last,o,w',t',h1,h2,h3,h4⟩:=he;refine⟨M+1,last,o,w',t',?_,?_,h3,h4⟩
 .rw[runNT,h];exact h1
 .have:Go.step P m=.next m':=by rw[Go.step,h]
  rw[zbb this];exact h2
def Ends.run:∀(N:Nat) {m m':Machine} {t t':lT},runNT P N m t=(.next m',t')->Ends P Post m' t'->Ends P Post m t:=by
 intro N
 induction N with
 |zero=>
  intro m m' t t' h he;simp only[runNT,pP,Ve] at h;obtain⟨rfl,rfl⟩:=h;exact he
 |succ N ih=>
  intro m m' t t' h he;rw[runNT] at h;generalize hs:stepT P m=s at h;obtain⟨s,ops⟩:=s
  cases s with
  |next m1=>exact Ends.step hs (ih h he)
  |ended o w=>simp at h
variable (P Post)
def J (Shun:Loc->Prop)(B:Nat)(g:bC)(w:aE):Prop:=
 ∀(gs:Array bC) (t:lT) (sl:Option (Nat×Nat)) (q:Nat->Nat),gs[0]? =some g->Leavers P t gs q->Past Shun B t->Ends P Post (crowd gs w sl) t
variable {P Post}
variable {B:Nat}{g:bC}
def J.own {Shun:Loc->Prop}{w:aE}(cH:g.status=.running)
 (h:∀d,∃g' w' es B',stepG P true g (w.at d)=.go g' w' es/\(∀e∈es,EvL Shun B' e)/\B<=B'/\J P Post Shun B' g' w'):J P Post Shun B g w:=by
 have key:∀(M:Nat) (d:Nat) (gs:Array bC) (t:lT) (sl:Option (Nat×Nat)) (q:Nat->Nat),sumTo gs.size q=M->gs[0]? =some g->Leavers P t gs q->Past Shun B t->Ends P Post (crowd gs (w.at d) sl) t:=by
  intro M
  induction M using zj7 with
  |ind M ih=>
  intro d gs t sl q hM h0 hL hP;have dN:∀x∈gs,awake x:=by
   intro x hx;obtain⟨i,hi,rfl⟩:=ztR.1 hx;rcases Pv i with rfl|Bs
   .have:gs[0]=g:=by simpa[mD hi] using h0
    rw[this];exact awake_of (.inl cH)
   .exact awake_of ((hL.old i _ Bs (mD hi)).status.elim .inl λx=>.inr (.inr x))
  obtain⟨i,x,d',Kf,hi,hx,aY⟩:=crowd_pick (P:=P) (w:=w.at d) (sl:=sl) dN ⟨0,g,h0,cH⟩;rw[show(w.at d).at d'=w.at d' from rfl] at aY;rcases Pv i with rfl|Bs
  .obtain rfl:x=g:=by rw[h0] at hi;exact(cE hi).symm
   obtain⟨g',w',es,B',hgo,xM,cG,hJ⟩:=h d';have zkC:=Wh (P:=P) (sl:=Kf) (i:=0) hi (show stepG P (0==0) x (w.at d')=_ from hgo);have aN:0<gs.size:=(dQ.1 h0).1;refine Ends.step (aY.trans zkC) (hJ _ _ _ q (by simp[aN]) ⟨λj y hj hy=>?_,λj hj=>?_⟩ ((hP.mono cG).own xM))
   .have aT:0≠j:=aC
    rw[jP aT,xL] at hy;obtain⟨z,hz,rfl⟩:=xB.1 hy;have hq:=hL.old j z hj hz;rw[woken_quitsD hq,Nv t aC _ (λop hop=>by obtain⟨e,_,rfl⟩:=zdn hop;rfl)];exact hq
   .rw[Nv t (g':=0) (by simp at hj;omega) _ (λop hop=>by obtain⟨e,_,rfl⟩:=zdn hop;rfl)]
    exact hL.above j zbD
  .have hq:=hL.old i x Bs hi
   have eY:(i==0)=false:=qR;have aN:i<gs.size:=(dQ.1 hi).1
   cases zmm:q i with
   |zero=>rw[zmm] at hq;rw[hq.1] at hx;cases hx
   |succ k=>
    rw[zmm] at hq;rcases hq with⟨hf,_⟩|⟨_,g',es,hm,zby,Qo⟩
    .rw[hf] at hx;cases hx
    have zkC:=Wh (P:=P) (sl:=Kf) (i:=i) hi (by rw[eY];exact zby (w.at d'));have cG:((gs.map (woken P x g' (w.at d'))).setIfInBounds i g').size=gs.size:=aP;have zKP:sumTo gs.size (ziy q i k)+(k+1)=sumTo gs.size q+k:=by
     have:=sumTo_upd q k id aN;simp only[zmm,id] at this;exact this
    refine Ends.step (aY.trans zkC) (ih (sumTo gs.size (ziy q i k)) aC d' _ _ _ (ziy q i k) (by rw[cG]) ?_ ⟨λj y hj hy=>?_,λj hj=>?_⟩ (hP.mute aC hm))
    .have aT:i≠0:=aC
     rw[jP aT,xL,h0];simp[woken_run cH]
    .by_cases eT:i=j
     .subst eT
      rw[Array.getElem?_setIfInBounds_self_of_lt (by simpa using aN)] at hy;obtain rfl:=cE hy;rw[ConcN.upd_same,Deaf_own];exact Qo
     .rw[jP eT,xL] at hy
      obtain⟨z,hz,rfl⟩:=xB.1 hy;have zvh:=hL.old j z hj hz;rw[woken_quitsD zvh,ConcN.upd_ne q k (Ne.symm eT),Nv t eT _ (λop hop=>by obtain⟨e,_,rfl⟩:=zdn hop;rfl)];exact zvh
    .rw[Nv t (g':=i) (by simp at hj;omega) _ (λop hop=>by obtain⟨e,_,rfl⟩:=zdn hop;rfl)]
     exact hL.above j zbD
 intro gs t sl q h0 hL hP;have:=key _ w.drawn gs t sl q rfl h0 hL hP;exact this
def J.done {Shun:Loc->Prop}{w:aE}(cH:g.status=.running)
 (h:∀d,∃v es,stepG P true g (w.at d)=.ended (.done v) (w.at d) es/\(∀e∈es,EvL Shun B e)/\Post v (w.at d)):J P Post Shun B g w:=by
 intro gs t sl q h0 hL hP;exact beside_ends (B:=B) (D:=λ_ _ es=>∀e∈es,EvL Shun B e) (n:=0) (λ_ _ _ hd=>hd) h0 hL hP (λaI ⟨d,hd⟩=>by subst hd;exact⟨cH,h d⟩)
def J.phase {L:Type}{ty:aM}{Wg:Nat}{A:jU L}(hA:A.Ok){Shun:Loc->Prop}{a:bC}{w:aE}{l:L}{τ:cF}
 (hb:bY P ty Wg A (λg w'=>J P Post (λl=>Shun l\/nD l Wg) w'.heap.size g w') true (.usr l) 0 τ a w) (hg:gD ty Wg w 0 0) (hB:B<=Wg/\B<=w.heap.size)
 (bnd:∀b,τ.own b\/τ.still b\/τ.pass b->b<w.heap.size/\b≠Wg/\∀l,nD l b->¬Shun l) (pend:A.pend l=false)
 (inv:A.Inv (λi=>if i=0 then .run l else .gone) (λ_=>none)):J P Post Shun B a w:=by
 intro gs t sl q h0 hL hP;obtain⟨N,m',t',h1,gs',a',w',Kf,q',rfl,h2,h3,h4,h5,h6⟩:=Mt.phase hA (S:=⟨h0,hL,hP,hb,hg,hB,bnd,pend,inv⟩) sl;exact Ends.run N h1 (h4 gs' t' Kf q' h2 h5 h6)
end
end Go.Mt
namespace Go.Mt
open Go.Conc Go.Tt
open Go.ConcR (KK wgBlock WgAt stA smA rd wr)
abbrev K0:Pr:=λ_ _=>False
structure Sh (n:Nat)(Shun:Loc->Prop)(R:Pr)(W:aE):Prop where
 old:∀l b,nD l b->b<n->¬Shun l
 rel:∀a b,R a b->∀l,nD l b->¬Shun l
 new:∀l b,nD l b->W.heap.size<=b->¬Shun l
structure Kp (W0:aE)(R:Pr)(St:Nat->Prop)(W:aE):Prop where
 os:W.os=W0.os
 tape:W.tape=W0.tape
 output:W.output=W0.output
 size:W0.heap.size<=W.heap.size
 block:∀b,b<W0.heap.size->W.heap[b]? =W0.heap[b]?
 old:∀a b,R a b->b<W0.heap.size->St a
def Kp.below {W0 W:aE}{R:Pr}{St:Nat->Prop}(h:Kp W0 R St W):bU W0.heap.size W0 W:=⟨h.os,h.tape,h.output,h.size,h.block⟩
section
variable (P:dL)(fs:aO->Bool)(G':Gp)(St:Nat->Prop)(W0:aE)(Post:aF->aE->Prop)
def JO (m:Fm)(ms:List Fm)(w:aE):Prop:=
 ∀(K R:Pr) (W:aE) (m':Fm) (ms':List Fm) (Shun:Loc->Prop),cV (SF fs) K R G' St w W->pA P fs K R m m'->uL P fs K R ms ms'->Sh W0.heap.size Shun R W->Kp W0 R St W->
  J P.c Post Shun W.heap.size (G m'.fr (ms'.map Fm.fr)) W
variable {P fs G' St W0 Post}
variable {m:Fm}{ms:List Fm}
def JO.tape {w:aE}(h:JO P fs G' St W0 Post m ms w)(T:Tape)(e:Nat):JO P fs G' St W0 Post m ms (Tt.tp w T e):=
 λK R W m' ms' Shun a b c d k=>h K R W m' ms' Shun a.untp b c d k
variable {R:Pr}
def zHG {Shun:Loc->Prop}{W:aE}{St:Nat->Prop}{e:oL}(h:Ga R St e){n:Nat}(hs:Sh n Shun R W)(aN:∀a b,R a b->b<W.heap.size):EvL Shun W.heap.size e:=by
 rcases h with rfl|⟨b,a,h1,h2,h3⟩
 .exact⟨λx hx=>by simp[jJ,qG] at hx,aP,aP,trivial⟩
 .obtain⟨loc,wr,sy⟩:=e
  cases loc with
  |cell x=>
   simp only[Fy,fY] at h1;refine⟨λy hy lL=>?_,aP,aP,?_⟩
   .simp only[jJ,qG,fY] at hy
    subst hy;exact absurd lL (hs.rel a b h2 _ h1)
   .show x.block<W.heap.size
    rw[h1];exact aN a b h2
  |obj r=>
   simp only[Fy,fY] at h1;have hr:r<W.heap.size:=by rw[h1];exact aN a b h2
   refine⟨λy hy lL=>?_,aP,aP,?_⟩
   .have Zc:y.loc=.obj r:=by
     cases wr<;>cases sy<;>simp only[jJ,qG,fY] at hy<;>first|(subst hy;rfl)|(cases hy;done)
    exact absurd (Zc▸lL) (hs.rel a b h2 (.obj r) h1)
   .cases wr<;>cases sy<;>exact hr
  |_=>simp[Fy] at h1
def cV.at {S:aO->Prop}{K:Pr}{G':Gp}{w W:aE}(h:cV S K R G' St w W)(d:Nat):cV S K R G' St w (W.at d):=
 ⟨h.inj,h.inj',h.lt,h.low,h.gle,h.cont,h.rest,h.st,h.np,h.tb⟩
def JO.one (F:Fit2 P fs)(hG:G'=P.gp){w:aE}(hs:m.ret=true->ms≠[])(nx:Tape->(Fm×List Fm)×aE)(cH:∀T,(fD P.g m ms).run P.g (Tt.tp w T 0)=.ok (nx T).1 (nx T).2)
 (dB:∀T K R y,¬OpR P fs K R (nx T).1 y) (hJ:∀T,JO P fs G' St W0 Post (nx T).1.1 (nx T).1.2 (nx T).2):JO P fs G' St W0 Post m ms w:=by
 intro K R W m' ms' Shun hw hm iZ lL hk;refine J.own rfl λd=>?_;have dI:=cV.at hw d
 let aX:=W.at d
 let T:Tape:=λn q=>aX.tape (aX.drawn+n) q
 have yF:cV (SF fs) K R G' St (Tt.tp w T 0) aX:=⟨dI.inj,dI.inj',dI.lt,dI.low,dI.gle,dI.cont,dI.rest,dI.st,dI.np,dI.tb⟩;have L0:Tp (Tt.tp w T 0) aX:=λn q=>by show aX.tape (aX.drawn+(0+n)) q=_;rw[qX]
 obtain⟨R1,x',W1,ev,e1,e2,e3,e4,e5⟩:=aG.run hG _ (zdQ (l:=false) F (yF.relOk hG) hm iZ (λe=>by cases e) hs) yF L0 (cH T);replace e2:=e2.resolve_right λx=>dB T K R1 x' x.2;have mP:(fD P.c m' ms').events P.c aX #[]=ev:=by rw[e4];simp
 have cG:W.heap.size<=W1.heap.size:=e3.size.2;have ztr:Sh W0.heap.size Shun R1 W1:=⟨lL.old,λa b x l hl=>by
  rcases e3.new a b x with y|⟨_,y⟩
  .exact lL.rel a b y l hl
  .exact lL.new l b hl y,λl b hl hb=>lL.new l b hl (eM cG hb)⟩
 have n9:Kp W0 R1 St W1:=by
  refine⟨e3.os.2.trans hk.os,e3.tape.2.trans hk.tape,e3.ou.2.trans hk.output,eM hk.size cG,λb hb=>?_,λa b x hb=>?_⟩
  .have zC8:b<W.heap.size:=lE hb hk.size
   rw[e3.keep b zC8 (λa x=>hk.old a b x hb)];exact hk.block b hb
  .rcases e3.new a b x with y|⟨_,y⟩
   .exact hk.old a b y hb
   .have h9:W.heap.size<=b:=y
    have:=hk.size;omega
 have goal:=hJ T K R1 W1 x'.1 x'.2 Shun e3.rel e2.1 e2.2.1 ztr n9;have aY:=zjL (main:=true) e1 [];simp only[N0] at aY;rw[mP] at aY;exact⟨_,W1,_,W1.heap.size,aY,λe he=>zHG (e5 e (zav he)) ztr (λa b x=>(e3.rel.ltR a b x).2),cG,goal⟩
def LTs.jo (F:Fit2 P fs)(hG:G'=P.gp){N:Fm->Prop}(hop:∀f xs,P.op f=true->¬N (rB P.g f xs)){Stop:Fm->List Fm->aE->Prop}(hS:∀m ms w,Stop m ms w->JO P fs G' St W0 Post m ms w){w:aE}(h:LTs P.g N Stop m ms w):
 JO P fs G' St W0 Post m ms w:=by
 induction h with
 |stop hs=>exact hS _ _ _ hs
 |step nx hs cH hN aN ih=>
  rename_i m ms w;refine JO.one F hG hs nx cH (λT K R y ho=>?_) ih;obtain⟨f,xs,bX,c,c',rest,Lj,h1,h2,h3,h4,_⟩:=ho.ex;have zti:=hN T;rw[h4] at zti;exact hop f xs h1 zti
end
abbrev PL (p:bR)(op gs:aO->Bool):dL:=⟨p,p.funcs,op,λ_=>false,gs,true⟩
abbrev PS (p:bR)(gs:aO->Bool):dL:=⟨p,p.funcs,λ_=>false,λ_=>false,gs,true⟩
structure Lv (p:bR)(op gs gs₁ fs:aO->Bool):Prop where
 fit:Fit2 (PL p op gs) fs
 fit₁:vD (PS p gs₁) fs
 nofit:∀f,op f=true->∃fn c,p.funcs[f]? =some fn/\fn.body=some c/\(fn.name== "runtime.NumGoroutine")=false/\oC p ⟨fs,gs₁,true⟩ c=false
section
variable {p:bR}{op gs gs₁ fs:aO->Bool}{St:Nat->Prop}{W0:aE}{Post:aF->aE->Prop}
abbrev JL (p:bR)(op gs fs:aO->Bool)(St:Nat->Prop)(W0:aE)(Post:aF->aE->Prop)(m:Fm)(ms:List Fm)(w:aE):Prop:=JO (PL p op gs) fs (o5 p) St W0 Post m ms w
def Ht (p:bR)(f:aO)(xs:Array aF):(rB p f xs).fn=f:=by
 unfold rB;split
 .split<;>rfl
 .rfl
variable {P:dL}{G':Gp}{m:Fm}{ms:List Fm}
def JO.untape {fs:aO->Bool}{w:aE}{T:Tape}{e:Nat}(h:JO P fs G' St W0 Post m ms (Tt.tp w T e)):JO P fs G' St W0 Post m ms w:=
 λK R W m' ms' Shun a b c d k=>h K R W m' ms' Shun ⟨a.inj,a.inj',a.lt,a.low,a.gle,a.cont,a.rest,a.st,a.np,a.tb⟩ b c d k
variable {K:Pr}
def vA.tape {fs:aO->Bool}{w:aE}(h:vA P fs K G' St m ms w)(T:Tape)(e:Nat):vA P fs K G' St m ms (Tt.tp w T e):=by
 obtain⟨R,W,m',ms',a,b,c⟩:=h;exact⟨R,W,m',ms',⟨a.inj,a.inj',a.lt,a.low,a.gle,a.cont,a.rest,a.st,a.np,a.tb⟩,b,c⟩
variable {K₁:Pr}{c:Code}
def zlT {P₁:dL}{Qy:aO->Bool}{Zx:Gp}{zeW:Nat->Prop}(zdt:vD P₁ Qy)(zfQ:Zx=P₁.gp){fn:aO}{tmps:Array aF}{w:aE}{Q:Exit->tP->aE->Prop}
 (hrel:vA P₁ Qy K₁ Zx zeW ⟨fn,tmps,[.code c],false⟩ [] w) (rI:∀T,Code.wp P₁.g c Q ⟨tmps,[]⟩ (Tt.tp w T 0)) (hx:∀e a w,Q e a w->e=.normal\/e=.ret) (V7:∀e a w T k,Q e a w->Q e a (Tt.tp w T k)):
 Tt.LT P₁.g (λmT wT=>mT.ret=true/\((mT.todo=[]/\Q .normal ⟨mT.tmps,[]⟩ wT)\/Q .ret ⟨mT.tmps,[]⟩ wT)) ⟨fn,tmps,[.code c],false⟩ [] w:=by
 refine bar zdt zfQ (λm w T e h=>⟨h.1,h.2.imp (λx=>⟨x.1,V7 _ _ _ _ _ x.2⟩) (V7 _ _ _ _ _)⟩) ⟨hrel,λT=>?_⟩
 let b:Frame:={(default:dJ) with fn:=fn,kind:=.normal}
 obtain⟨e,a',w',hq,zxh⟩:=rI T b [] [pz];have zyB:=vA.tape hrel T 0
 have fin:∀todo,Steps P₁.g (lone (b.at ⟨tmps,[]⟩ [.code c]) [pz] (Tt.tp w T 0)) (lone {b.at a' todo with mode:=.returning} [pz] w')->((todo=[]/\Q .normal a' w')\/Q .ret a' w')->
  ∃n mT wT,Ib P₁.g n ⟨fn,tmps,[.code c],false⟩ [] (Tt.tp w T 0) mT wT/\mT.ret=true/\((mT.todo=[]/\Q .normal ⟨mT.tmps,[]⟩ wT)\/Q .ret ⟨mT.tmps,[]⟩ wT):=by
  intro todo hs ziT;obtain⟨n,hn⟩:=hs;obtain⟨k,mT,hi,fQ⟩:=Tq zdt zfQ (frT:={b.at a' todo with mode:=.returning}) rfl n zyB hn;have h1:mT.tmps=a'.tmps:=congrArg zt1 fQ;have h2:a'.defers=[]:=(congrArg dJ.defers fQ).symm;have h3:mT.todo=todo:=congrArg dJ.todo fQ;have h4:mT.ret=true:=by
   cases hr:mT.ret with
   |true=>rfl
   |false=>have:=congrArg dJ.mode fQ;rw[Fm.fr_run hr] at this;cases this
  have h5:(⟨mT.tmps,[]⟩:tP)=a':=by rw[h1,<-h2]
  exact⟨k,mT,w',hi,h4,by rw[h5,h3];exact ziT⟩
 rcases hx e a' w' hq with rfl|rfl
 .exact fin [] (Steps.trans zxh (Steps.one step_end)) (.inl ⟨rfl,hq⟩)
 .obtain⟨todo,hs⟩:=zxh
  exact fin todo hs (.inr hq)
def zac (p:bR)(op:aO->Bool)(m:Fm):Prop:=∀f xs,op f=true->m≠rB p f xs
def Lv.hop (L:Lv p op gs gs₁ fs):∀f xs,(PL p op gs).op f=true->¬zac p op (rB (PL p op gs).g f xs):=λf xs h hn=>hn f xs h rfl
def Lv.hN (L:Lv p op gs gs₁ fs):∀m R y,pA (PS p gs₁) fs K₁ R m y->zac p op m:=by
 rintro m R y hm f xs ho rfl;obtain⟨fn,c,h1,h2,_,h4⟩:=L.nofit f ho;have h5:rB p f xs=⟨f,xs++nL (fn.ntmps-xs.size) aA,[.code c],false⟩:=by simp[rB,h1,h2]
 have hf:=hm.fit;rw[h5] at hf;have:=hf (.code c) aP;have h6:uA (PS p gs₁) fs f=⟨fs,gs₁,true⟩:=rfl;simp only[Eg,h6,h4] at this;cases this
variable {k:List eF}
def zo9 {R:Pr}{fn:aO}{tmps:Array aF}{w W:aE}{m':Fm}(hc:oC p ⟨fs,gs₁,true⟩ c=true)
 (hw:cV (SF fs) K R (o5 p) St w W) (hm:pA (PL p op gs) fs K R ⟨fn,tmps,.code c::k,false⟩ m'):vA (PS p gs₁) fs K (o5 p) St ⟨fn,tmps,[.code c],false⟩ [] w:=by
 refine⟨R,W,{m' with todo:=[.code c]},[],hw,⟨hm.fn,rfl,hm.ret,hm.tmps,λi hi=>?_,hm.infs⟩,.nil⟩;simp only[jH,l8,or_false] at hi;subst hi;exact hc
variable {b:List Fm}
def JO.piece (L:Lv p op gs gs₁ fs){fn:aO}{tmps:Array aF}{w:aE}(hc:oC p ⟨fs,gs₁,true⟩ c=true)(wM:op fn=false)
 (rI:∀T,Code.wp p c (λe a' w'=>e=.normal/\JL p op gs fs St W0 Post ⟨fn,a'.tmps,k,false⟩ b w') ⟨tmps,[]⟩ (Tt.tp w T 0)):JL p op gs fs St W0 Post ⟨fn,tmps,.code c::k,false⟩ b w:=by
 intro K R W m' ms' Shun hw hm iZ lL hk;have hrel:=zo9 (gs₁:=gs₁) hc hw hm;have tree:=zlT L.fit₁ rfl hrel rI (λe a w h=>.inl h.1) (λe a w T k h=>⟨h.1,h.2.tape T k⟩)
 have zch:=LT.app L.fit₁ rfl (N:=zac p op) (Stop:=λm ms w=>JL p op gs fs St W0 Post m ms w) k b (fn0:=fn) (L.hN (K₁:=K)) (λm e f xs ho e2=>by rw[e2,Ht] at e;rw[e,wM] at ho;cases ho)
  (λx w e1 e2 e3 hq=>by
   have h1:=hq w.tape;rcases h1.2 with h|h
   .have h2:=JO.untape h.2.2
    obtain⟨xf,xt,xd,xr⟩:=x;simp only at e1 e2 e3 h2;subst e1 e2 e3;exact h2
   .cases h.1)
  (λx w e1 e2 e3 hq=>by
   rcases hq.2 with h|h
   .exact absurd h.1 e3
   .cases h.1) tree rfl hrel (λ_ e=>by cases e)
 exact LTs.jo L.fit rfl L.hop (λm ms w h=>h) zch K R W m' ms' Shun hw hm iZ lL hk
def JO.ctl (L:Lv p op gs gs₁ fs){m1:Fm}{w:aE}(hr:m.ret=false)(hf:op m1.fn=false)(cH:∀w,(sC p m ms).run p w=.ok (m1,ms) w)(hJ:JL p op gs fs St W0 Post m1 ms w):JL p op gs fs St W0 Post m ms w:=by
 refine JO.one L.fit rfl (λe=>by rw[hr] at e;cases e) (λT=>((m1,ms),Tt.tp w T 0)) (λT=>?_) (λT K R y ho=>?_) λT=>hJ.tape T 0
 .show(fD p m ms).run p _=_
  simp only[fD,hr,jE,if_false];exact cH _
 .obtain⟨f,xs,bX,c,c',rest,Lj,h1,h2,h3,h4,_⟩:=ho.ex
  simp only[pP] at h4;have h5:=h4.1;rw[h5,Ht] at hf;have h6:op f=true:=h1;rw[hf] at h6;cases h6
variable {a:Code}
def JO.seq (L:Lv p op gs gs₁ fs){fn:aO}{tmps:Array aF}{b:Code}{w:aE}(hf:op fn=false)(h:JL p op gs fs St W0 Post ⟨fn,tmps,.code a:: .code b::k,false⟩ ms w):JL p op gs fs St W0 Post ⟨fn,tmps,.code (.seq a b)::k,false⟩ ms w:=
 JO.ctl L rfl hf (λw=>rfl) h
def JO.cond (L:Lv p op gs gs₁ fs){fn:aO}{tmps:Array aF}{c:cN}{b:Code}{w:aE}{t:Bool}(hf:op fn=false)(hc:(bJ tmps []).eval c=.bool t)(h:JL p op gs fs St W0 Post ⟨fn,tmps,.code (if t then a else b)::k,false⟩ ms w):JL p op gs fs St W0 Post ⟨fn,tmps,.code (.cond c a b)::k,false⟩ ms w:=by
 refine JO.ctl L rfl hf (λw=>?_) h;have he:Fm.eval ⟨fn,tmps,.code (.cond c a b)::k,false⟩ c=.bool t:=by rw[<-hc];cases c<;>rfl
 simp only[sC,he,kW,bD]
def JO.skip (L:Lv p op gs gs₁ fs){fn:aO}{tmps:Array aF}{w:aE}(hf:op fn=false)(h:JL p op gs fs St W0 Post ⟨fn,tmps,k,false⟩ ms w):JL p op gs fs St W0 Post ⟨fn,tmps,.code .skip::k,false⟩ ms w:=JO.ctl L rfl hf (λw=>rfl) h
def JO.ret (L:Lv p op gs gs₁ fs){fn:aO}{tmps:Array aF}{w:aE}(hf:op fn=false)(h:JL p op gs fs St W0 Post ⟨fn,tmps,.code .ret::k,true⟩ ms w):JL p op gs fs St W0 Post ⟨fn,tmps,.code .ret::k,false⟩ ms w:=JO.ctl L rfl hf (λw=>rfl) h
def JO.fall (L:Lv p op gs gs₁ fs){fn:aO}{tmps:Array aF}{w:aE}(hf:op fn=false)(h:JL p op gs fs St W0 Post ⟨fn,tmps,[],true⟩ ms w):JL p op gs fs St W0 Post ⟨fn,tmps,[],false⟩ ms w:=JO.ctl L rfl hf (λw=>rfl) h
variable {ops:Array aZ}
def JO.reg (L:Lv p op gs gs₁ fs){fn:aO}{tmps:Array aF}{id:Nat}{w:aE}(hf:op fn=false)(h:JL p op gs fs St W0 Post ⟨fn,tmps,.inRegion ops (gN ops.size)::k,false⟩ ms w):JL p op gs fs St W0 Post ⟨fn,tmps,.code (.region id ops false)::k,false⟩ ms w:=JO.ctl L rfl hf (λw=>rfl) h
def JO.regEnd (L:Lv p op gs gs₁ fs){fn:aO}{tmps:Array aF}{w:aE}(hf:op fn=false)(h:JL p op gs fs St W0 Post ⟨fn,tmps,k,false⟩ ms w):JL p op gs fs St W0 Post ⟨fn,tmps,.inRegion ops []::k,false⟩ ms w:=JO.ctl L rfl hf (λw=>rfl) h
variable {o:aZ}
def JO.opv (L:Lv p op gs gs₁ fs){fn:aO}{tmps:Array aF}{i:Nat}{rest:List Nat}{w:aE}{v:aF}(hf:op fn=false)(ho:ops[i]? =some o)(cD:dD o (dR ops tmps)=true)
 (hx:∀T e,(aS (bJ tmps []).eval o).run p (Tt.tp w T e)=.ok (.value v) (Tt.tp w T e)) (h:JL p op gs fs St W0 Post ⟨fn,(cC ⟨tmps,[]⟩ o.dst v).tmps,.inRegion ops rest::k,false⟩ ms w):JL p op gs fs St W0 Post ⟨fn,tmps,.inRegion ops (i::rest)::k,false⟩ ms w:=by
 refine JO.one L.fit rfl (λe=>by cases e) (λT=>((⟨fn,(cC ⟨tmps,[]⟩ o.dst v).tmps,.inRegion ops rest::k,false⟩,ms),Tt.tp w T 0)) (λT=>?_) (λT K R y My=>?_) λT=>h.tape T 0
 .show(fD p _ ms).run p _=_
  simp only[fD,jE,if_false,sC,ho,Ak,y6,cD,if_true];have he:Fm.eval ⟨fn,tmps,.inRegion ops (i::rest)::k,false⟩=(bJ tmps []).eval:=by funext x;cases x<;>rfl
  rw[he];refine(r9 p _ _ _).trans ?_;rw[hx];simp only[uD,qQ,kW,bD,Fm.fin,ho,vN,cC];cases o.dst<;>rfl
 .obtain⟨f,xs,bX,c,c',rest,Lj,h1,h2,h3,h4,_⟩:=My.ex
  simp only[pP] at h4;have h5:=congrArg Fm.fn h4.1;rw[Ht] at h5;have h6:op f=true:=h1;simp only at h5;rw[<-h5,hf] at h6;cases h6
variable {x:Fm}
def JO.back (L:Lv p op gs gs₁ fs){w:aE}{i:Nat}{rest:List Nat}{v:aF}(hr:x.ret=true)(pT:m.todo=.inRegion ops (i::rest)::k){fnx:Um}(Qt:p.funcs[x.fn]? =some fnx)(hv:(oN fnx.results.toList x.tmps).run p w=.ok v w)(hf:op m.fn=false)
 (h:JL p op gs fs St W0 Post (m.fin ops i rest k v) ms w):JL p op gs fs St W0 Post x (m::ms) w:=by
 refine JO.one L.fit rfl (λ_=>by simp) (λT=>((m.fin ops i rest k v,ms),Tt.tp w T 0)) (λT=>?_) (λT K R y My=>?_) λT=>h.tape T 0
 .show(fD p x (m::ms)).run p _=_
  simp only[fD,hr,if_true];exact(Md pT Qt ((Oi _ _ w v w hv).2 T 0)).1
 .obtain⟨f,xs,bX,c,c',rest,Lj,h1,h2,h3,h4,_⟩:=My.ex
  simp only[pP] at h4;have h5:=congrArg Fm.fn h4.1;rw[Ht] at h5;have h6:op f=true:=h1;have h7:m.fn=f:=h5;rw[<-h7,hf] at h6;cases h6
def JO.tail (L:Lv p op gs gs₁ fs){fn:aO}{tmps:Array aF}{w:aE}(hc:oC p ⟨fs,gs₁,true⟩ c=true)(wM:op fn=false)
 (rI:∀T,Code.wp p c (λe a' w'=>(e=.normal\/e=.ret)/\∀todo,JL p op gs fs St W0 Post ⟨fn,a'.tmps,todo,true⟩ b w') ⟨tmps,[]⟩ (Tt.tp w T 0)):JL p op gs fs St W0 Post ⟨fn,tmps,[.code c],false⟩ b w:=by
 intro K R W m' ms' Shun hw hm iZ lL hk;have hrel:=zo9 (gs₁:=gs₁) hc hw hm;have tree:=zlT L.fit₁ rfl hrel rI (λe a w h=>h.1) (λe a w T k h=>⟨h.1,λtodo=>(h.2 todo).tape T k⟩)
 have zch:=LT.app L.fit₁ rfl (N:=zac p op) (Stop:=λm ms w=>JL p op gs fs St W0 Post m ms w) [] b (fn0:=fn) (L.hN (K₁:=K)) (λm e f xs ho e2=>by rw[e2,Ht] at e;rw[e,wM] at ho;cases ho)
  (λx w e1 e2 e3 hq=>by
   have h1:=hq w.tape;have h2:JL p op gs fs St W0 Post ⟨fn,x.tmps,[],true⟩ b w:=by
    rcases h1.2 with h|h
    .exact JO.untape (h.2.2 [])
    .exact JO.untape (h.2 [])
   obtain⟨xf,xt,xd,xr⟩:=x;simp only at e1 e2 e3 h2;subst e1 e2 e3;exact JO.fall L wM h2)
  (λx w e1 e2 e3 hq=>by
   have h2:JL p op gs fs St W0 Post ⟨fn,x.tmps,x.todo,true⟩ b w:=by
    rcases hq.2 with h|h
    .exact h.2.2 _
    .exact h.2 _
   obtain⟨xf,xt,xd,xr⟩:=x;simp only at e1 e2 e3 h2;subst e1 e2;rw[Fm.app_nil];exact h2) tree rfl hrel (λ_ e=>by cases e)
 exact LTs.jo L.fit rfl L.hop (λm ms w h=>h) zch K R W m' ms' Shun hw hm iZ lL hk
def Lv.noOp (L:Lv p op gs gs₁ fs){f:aO}(hg:gs₁ f=true):op f=false:=by
 cases ho:op f with
 |false=>rfl
 |true=>
  obtain⟨fn,c,h1,h2,_,h4⟩:=L.nofit f ho;obtain⟨fn',c',g1,g2,g3,g4,g5⟩:=L.fit₁.fn f hg rfl;have zG:=h1;rw[g2] at zG;obtain rfl:=cE zG;rw[h2] at g4;obtain rfl:=cE g4;have h6:uA (PS p gs₁) fs f=⟨fs,gs₁,true⟩:=rfl;rw[h6] at g5;have zsN:=g5;rw[h4] at zsN;cases zsN
variable {fn:Um}
def zG9 {p:bR}(hp:Du fn.results.toList){tmps:Array aF}{v:aF}{w w':aE}(h:(results fn tmps).run p w=.ok v w'):(oN fn.results.toList tmps).run p w=.ok v w:=by
 rw[zhc hp] at h;obtain⟨rfl,_⟩:=Oi _ _ w v w' h;exact h
variable {args:Array cN}{kT:Array aM}
def zbP {p:bR}{f:aO}(hop:o.op=.call ⟨.value (.func f),args,kT⟩){ρ:cN->aF}(hρ:∀g,ρ (.func g)=.func (.func g) #[] #[])(hf:p.funcs[f]? =some fn)
 (hn:(fn.name== "runtime.NumGoroutine")=false) (hb:fn.body=some c) (w:aE):(aS ρ o).run p w=.ok (.enter f (args.map ρ)) w/\(aS ρ o).events p w #[]=#[]:=by
 obtain⟨dst,yW,type,pos,after,guard⟩:=o;simp only at hop;subst hop;have sG:¬fn.name= "runtime.NumGoroutine" :=by simpa using hn
 constructor
 .simp[aS,resolve,Co,hρ,invoke,callFunc,program,bind,xR,pure,bD,hf,sG,hb]
 .simp[aS,resolve,Co,hρ,invoke,callFunc,program,bind,xR,pure,bD,vV,y7,hf,sG,hb]
def JO.callL (L:Lv p op gs gs₁ fs){w:aE}{i:Nat}{rest:List Nat}{f:aO}(hr:m.ret=false)(pT:m.todo=.inRegion ops (i::rest)::k)
 (ho:ops[i]? =some o) (cD:dD o (dR ops m.tmps)=true) (hop:o.op=.call ⟨.value (.func f),args,kT⟩) (hg:gs₁ f=true) (wM:op m.fn=false) (tD:args.all (dP fs)=true)
 {Q:aF->aE->Prop} (V7:∀v w T e,Q v w->Q v (Tt.tp w T e)) (hc:∀T,fH p f (args.map m.eval) (Tt.tp w T 0) (λe w'=>∃v,e=.returned v/\Q v w'))
 (hJ:∀v w',Q v w'->JL p op gs fs St W0 Post (m.fin ops i rest k v) ms w'):JL p op gs fs St W0 Post m ms w:=by
 have C0:=L.noOp hg;obtain⟨fn,c,g1,g2,g3,g4,g5⟩:=L.fit₁.fn f hg rfl;have Bo:p.funcs[f]? =some fn:=g2;have l6:Du fn.results.toList:=L.fit₁.res f hg rfl fn g2;have Ch:rB p f (args.map m.eval)=⟨f,args.map m.eval++nL (fn.ntmps-(args.map m.eval).size) aA,[.code c],false⟩:=by simp[rB,Bo,g4]
 have zcK:∀(x:Fm) (wx:aE),x.ret=true->x.fn=f->(∃v,(oN fn.results.toList x.tmps).run p wx=.ok v wx/\Q v wx)->JL p op gs fs St W0 Post x (m::ms) wx:=by
  intro x wx h1 h2 ⟨v,h3,h4⟩;exact JO.back L h1 pT (v:=v) (fnx:=fn) (by rw[h2];exact Bo) h3 wM (hJ v wx h4)
 intro K R W m' ms' Shun hw hm iZ lL hk;have Cj:bK (SF fs) K R (args.map m.eval) (args.map m'.eval):=bK.maps hm.eval tD;have ze9:pA (PS p gs₁) fs K R (rB p f (args.map m.eval)) (rB p f (args.map m'.eval)):=by
  have zAp:rB p f (args.map m'.eval)=⟨f,args.map m'.eval++nL (fn.ntmps-(args.map m'.eval).size) aA,[.code c],false⟩:=by simp[rB,Bo,g4]
  rw[Ch,zAp];refine⟨rfl,rfl,rfl,Cj.pad _,λj hj=>?_,⟨fn,fn,g1,g2,rfl,l6⟩⟩;simp only[jH,l8,or_false] at hj;subst hj;exact g5
 have hrel:vA (PS p gs₁) fs K (o5 p) St (rB p f (args.map m.eval)) [] w:=⟨R,W,_,[],hw,ze9,.nil⟩;have tree:Tt.LT p (λmT wT=>mT.ret=true/\mT.fn=f/\∃v,(oN fn.results.toList mT.tmps).run p wT=.ok v wT/\Q v wT) (rB p f (args.map m.eval)) [] w:=by
  refine bar (P:=PS p gs₁) L.fit₁ rfl (λm w T e h=>⟨h.1,h.2.1,let⟨v,a,b⟩:=h.2.2;⟨v,(Oi _ _ w v w a).2 T e,V7 _ _ _ _ b⟩⟩) ⟨hrel,λT=>?_⟩;obtain⟨e,w',fr,⟨v,rfl,hq⟩,sD,De,Jt⟩:=hc T [pz];obtain⟨zmK,zKE,zMM,fn',Wb,zhp⟩:=Jt;obtain⟨n,hn⟩:=sD;have zHj:Fq p f (args.map m.eval) .normal=(rB p f (args.map m.eval)).fr:=by rw[Ch];exact Yb Bo g4
  rw[zHj] at hn;obtain⟨k2,mT,hi,fQ⟩:=Tq (P:=PS p gs₁) L.fit₁ rfl zmK n (vA.tape hrel T 0) hn;have h1:mT.tmps=fr.tmps:=congrArg zt1 fQ;have h2:mT.fn=f:=(congrArg dJ.fn fQ).trans De;have h4:mT.ret=true:=by
   cases hr:mT.ret with
   |true=>rfl
   |false=>rw[<-fQ,Fm.fr_run hr] at zmK;cases zmK
  rw[De,Bo] at Wb;obtain rfl:=cE Wb;exact⟨k2,mT,w',hi,h4,h2,v,by rw[h1];exact zG9 l6 zhp,hq⟩
 have zch:=LT.app (P₁:=PS p gs₁) L.fit₁ rfl (N:=zac p op) (Stop:=λm ms w=>JL p op gs fs St W0 Post m ms w) [] (m::ms) (fn0:=f) (L.hN (K₁:=K)) (λx e f' xs vG e2=>by rw[e2,Ht] at e;rw[e,C0] at vG;cases vG)
  (λx w e1 e2 e3 hq=>by
   obtain⟨_,_,v,h5,h6⟩:=hq w.tape;have h7:JL p op gs fs St W0 Post {x with ret:=true} (m::ms) w:=JO.untape (T:=w.tape) (e:=0) (zcK _ _ rfl e1 ⟨v,h5,h6⟩);obtain⟨xf,xt,xd,xr⟩:=x;simp only at e1 e2 e3 h7;subst e1 e2 e3;exact JO.fall L C0 h7)
  (λx w e1 e2 e3 hq=>by
   rw[Fm.app_nil];exact zcK _ _ e2 e1 hq.2.2) tree (Ht _ _ _) hrel (λ_ e=>by rw[Ch] at e;cases e)
 have zJu:JL p op gs fs St W0 Post (rB p f (args.map m.eval)) (m::ms) w:=by
  have:=LTs.jo L.fit rfl L.hop (λm ms w h=>h) zch
  rwa [show zE [] (m::ms) (rB p f (args.map m.eval)) []=(rB p f (args.map m.eval),m::ms) from by simp[zE,Fm.app_nil]] at this
 refine JO.one L.fit rfl (λe=>by rw[hr] at e;cases e) (λT=>((rB p f (args.map m.eval),m::ms),Tt.tp w T 0)) (λT=>?_) (λT K R y My=>?_) (λT=>zJu.tape T 0) K R W m' ms' Shun hw hm iZ lL hk
 .show(fD p m ms).run p _=_
  simp only[fD,hr,jE,if_false,sC,pT,ho,Ak,y6,cD,if_true];refine(r9 p _ _ _).trans ?_;rw[(zbP hop (λg=>rfl) Bo g3 g4 (Tt.tp w T 0)).1];simp only[uD,qQ,Bo,g4,kW,bD,Ch]
 .obtain⟨f',xs,bX,c,c',rest,Lj,h1,h2,h3,h4,_⟩:=My.ex
  simp only[pP] at h4;have h5:=congrArg Fm.fn h4.1;rw[Ht,Ht] at h5;have h6:op f'=true:=h1;rw[<-h5,C0] at h6;cases h6
def JO.callF (L:Lv p op gs gs₁ fs){w:aE}{i:Nat}{rest:List Nat}{f:aO}(hr:m.ret=false)(pT:m.todo=.inRegion ops (i::rest)::k)
 (ho:ops[i]? =some o) (cD:dD o (dR ops m.tmps)=true) (hop:o.op=.call ⟨.value (.func f),args,kT⟩) (hg:op f=true) (tD:args.all (dP fs)=true)
 (hF:∀(K R:Pr) (W:aE) (m':Fm) (ms':List Fm) (Shun:Loc->Prop) (bX:Array aF),cV (SF fs) K R (o5 p) St w W->pA (PL p op gs) fs K R m m'->uL (PL p op gs) fs K R ms ms'->Sh W0.heap.size Shun R W->Kp W0 R St W->bK (SF fs) K R (args.map m.eval) bX->
  J p Post Shun W.heap.size (G (Fq p f bX .normal) (m'.fr::ms'.map Fm.fr)) W):JL p op gs fs St W0 Post m ms w:=by
 obtain⟨fn,c,Bo,g4,g3,_⟩:=L.nofit f hg;intro K R W m' ms' Shun hw hm iZ lL hk;refine J.own rfl λd=>?_;have Cj:bK (SF fs) K R (args.map m.eval) (args.map m'.eval):=bK.maps hm.eval tD;have vX:m'.ret=false:=hm.ret.symm.trans hr;have O3:m'.todo=.inRegion ops (i::rest)::k:=hm.todo.symm.trans pT;have uO:dD o (dR ops m'.tmps)=true:=by rw[<-zlW ops hm.tmps];exact cD
 have Ch:Fq p f (args.map m'.eval) .normal=(⟨f,args.map m'.eval++nL (fn.ntmps-(args.map m'.eval).size) aA,[.code c],false⟩:Fm).fr:=Yb Bo g4;obtain⟨x1,x2⟩:=zbP hop (ρ:=m'.eval) (λg=>rfl) Bo g3 g4 (W.at d);have hs:(fD p m' ms').run p (W.at d)=.ok (⟨f,args.map m'.eval++nL (fn.ntmps-(args.map m'.eval).size) aA,[.code c],false⟩,m'::ms') (W.at d):=by
  simp only[fD,vX,jE,if_false,sC,O3,ho,Ak,y6,uO,if_true];refine(r9 p _ _ _).trans ?_;rw[x1];simp only[uD,qQ,Bo,g4,kW,bD]
 have aY:=zjL (main:=true) hs [];simp only[N0] at aY;have he:(fD p m' ms').events p (W.at d) #[]=#[]:=by
  simp only[fD,vX,jE,if_false,sC,O3,ho,Ak,y6,uO,if_true];refine(U1 p _ _ _ #[]).trans ?_;rw[x1,Uk,x2];simp only[qQ,Bo,g4];rfl
 rw[he,Ce] at aY;refine⟨_,W.at d,#[],W.heap.size,aY,λe he=>by simp at he,aV _,?_⟩;rw[<-Ch];exact hF K R (W.at d) m' ms' Shun (args.map m'.eval) (cV.at hw d) hm iZ ⟨lL.old,lL.rel,lL.new⟩ ⟨hk.os,hk.tape,hk.output,hk.size,hk.block,hk.old⟩ Cj
def JO.fin (L:Lv p op gs gs₁ fs){w:aE}{t:Tmp}(hr:x.ret=true)(hf:p.funcs[x.fn]? =some fn)(ht:fn.results=#[.tmp t])(hi:p.inits.idxOf? x.fn=none)(hP:∀K R W v',VR (SF fs) K R (x.tmps.getD t aA) v'->Kp W0 R St W->Post v' W):JL p op gs fs St W0 Post x [] w:=by
 intro K R W m' ms' Shun hw hm iZ lL hk;cases iZ;refine J.done rfl λd=>?_;have vX:=hm.ret.symm.trans hr;have Wb:p.funcs[m'.fn]? =some fn:=by rw[<-hm.fn];exact hf
 have gT:p.inits.idxOf? m'.fn=none:=by rw[<-hm.fn];exact hi
 refine⟨m'.tmps.getD t aA,#[],?_,λe he=>by simp at he,hP K R (W.at d) _ (hm.tmps.getD t xO) ⟨hk.os,hk.tape,hk.output,hk.size,hk.block,hk.old⟩⟩;have r1:=results_tmp ht m'.tmps p (W.at d);have r2:=Conc.events_results_tmp (P:=p) (w:=W.at d) ht m'.tmps #[];rw[Fm.fr_ret vX];simp[G,stepG,unwind,doReturn,Wb,r1,r2,Ce,Bf,gT]
end
end Go.Mt
namespace Go.Mt
open Go.Conc Go.Tt
variable {p:bR}{main:Bool}{m m':Fm}{ms':List Fm}{w w':aE}
def zgf {c:Fm}{rest:List Fm}(hr:m.ret=true)(hc:c.ret=false)(h:(zJ p m (c::rest)).run p w=.ok (m',ms') w')(k:List eF)(d:Dk)(CS:List dJ):
 ms'=rest/\w'=w/\(∃ops i r k0 v,c.todo=.inRegion ops (i::r)::k0/\m'=c.fin ops i r k0 v)/\stepG p main (G m.fr (fx k d c::CS)) w=.go (G (fx k d m') CS) w' (seen p m.fn ((zJ p m (c::rest)).events p w #[])):=by
 obtain⟨ops,i,r,k0,v,fn,Ep,hf,hv,rfl,rfl⟩:=Us h;obtain⟨rfl,_⟩:=Oi _ _ w v w' hv;refine⟨rfl,rfl,⟨ops,i,r,k0,v,Ep,rfl⟩,?_⟩;rw[(Md Ep hf hv).2];have he:results fn m.tmps=oN fn.results.toList m.tmps:=zhc (zsL hv);have zR:(fx k d c).finish v=fx k d (c.fin ops i r k0 v):=by
  simp only[dJ.finish,fx,Fm.fr,Fm.fin,Ep,List.cons_append];cases(ops[i]?).bind (·.dst)<;>rfl
 rw[Fm.fr_ret hr,<-zR];simp[G,stepG,unwind,doReturn,hf,he,hv,Bf]
def low (k:List eF)(d:Dk):Fm->List Fm->List dJ
 |c,[]=>[fx k d c]
 |c,e::cs=>c.fr::low k d e cs
def stk (k:List eF)(d:Dk)(base:List dJ)(m:Fm):List Fm->bC
 |[]=>G (fx k d m) base
 |c::cs=>G m.fr (low k d c cs++base)
def zrY (k:List eF)(d:Dk)(base:List dJ)(m:Fm)(ms:List Fm):(stk k d base m ms).status=.running:=by cases ms<;>rfl
variable {ms:List Fm}
def zEe {k:List eF}{d:Dk}{base:List dJ}(hs:m.ret=true->ms≠[])(aT:ms=[]->m.ret=false->m.todo≠[])(hw:∀c∈ms,c.ret=false)
 (h:(fD p m ms).run p w=.ok (m',ms') w'):∃es,stepG p main (stk k d base m ms) w=.go (stk k d base m' ms') w' es/\∀e∈es,e∈seen p m.fn ((fD p m ms).events p w #[]):=by
 cases hr:m.ret with
 |false=>
  simp only[fD,hr,jE,if_false] at h⊢
  cases ms with
  |nil=>
   rcases zjE (main:=main) hr (k:=k) (λe=>absurd e (aT rfl hr)) h d base with⟨rfl,e⟩|⟨rfl,e⟩
   .exact⟨_,e,λ_ x=>x⟩
   .exact⟨_,e,λ_ x=>x⟩
  |cons c cs=>
   rcases zjE (main:=main) hr (k:=[]) (λ_=>rfl) h .nil (low k d c cs++base) with⟨rfl,e⟩|⟨rfl,e⟩
   .simp only[Hk] at e
    exact⟨_,e,λ_ x=>x⟩
   .simp only[Hk] at e
    exact⟨_,e,λ_ x=>x⟩
 |true=>
  simp only[fD,hr,if_true] at h⊢
  cases ms with
  |nil=>exact absurd rfl (hs hr)
  |cons c cs=>
   have zsd:=hw c (List.mem_cons_self ..)
   cases cs with
   |nil=>
    obtain⟨rfl,rfl,_,e⟩:=zgf (main:=main) hr zsd h k d base;exact⟨_,e,λ_ x=>x⟩
   |cons c2 cs=>
    obtain⟨rfl,rfl,_,e⟩:=zgf (main:=main) hr zsd h [] .nil (low k d c2 cs++base);simp only[Hk] at e;exact⟨_,e,λ_ x=>x⟩
variable {S:List Nat}
def K4.refl (h:∀i∈m.todo,At S i=true):K4 S m m:=⟨h,λ_ _=>rfl⟩
def zEh (hn:∀i∈(Sk m ms).todo,At S i=true)(h:(fD p m ms).run p w=.ok (m',ms') w'):K4 S (Sk m ms) (Sk m' ms'):=by
 cases hr:m.ret with
 |false=>
  simp only[fD,hr,jE,if_false] at h
  cases ms with
  |nil=>
   rcases zyD (S:=S) hn h with⟨rfl,e⟩|rfl
   .exact e
   .exact K4.refl hn
  |cons c cs=>
   rcases zdG h with⟨rfl,_⟩|rfl
   .exact K4.refl hn
   .exact K4.refl hn
 |true=>
  simp only[fD,hr,if_true] at h
  cases ms with
  |nil=>simp[zJ,stuck,bD] at h
  |cons c cs=>
   obtain⟨ops,i,r,k0,v,fn,Ep,hf,hv,rfl,rfl⟩:=Us h
   cases ms' with
   |nil=>exact zge Ep hn v
   |cons d ds=>exact K4.refl hn
end Go.Mt
namespace Go.Mt
open Go.Conc Go.Tt
open Go.ConcR (KK wgBlock WgAt stA smA rd wr)
def EvQ (O Z:Nat->Prop)(e:oL):Prop:=e=⟨.mark .noRoom,false,true⟩\/∃b,Fy e=some b/\(O b\/(Z b/\e.write=false))
variable {O Z:Nat->Prop}{e:oL}
def zH5 {Wg:Nat}{main:Bool}(h:EvQ O Z e):EvT Wg main O Z e:=by
 rcases h with rfl|⟨b,h1,h2⟩
 .trivial
 .obtain⟨loc,wr,sy⟩:=e
  cases loc with
  |cell x=>simp only[Fy,fY] at h1;subst h1;exact h2
  |obj r=>simp only[Fy,fY] at h1;subst h1;exact h2
  |_=>simp[Fy] at h1
def zyx (h:EvQ O Z e):e.loc≠ .mark .disable/\e.loc≠ .mark .enable:=by
 rcases h with rfl|⟨b,h1,_⟩
 .exact⟨aP,aP⟩
 .obtain⟨loc,wr,sy⟩:=e
  cases loc<;>simp[Fy] at h1⊢
variable {τ:cF}
def zdR {St:Nat->Prop}{R:Pr}(h:Ga R St e)(ht:vO τ R St):EvQ τ.own τ.still e:=by
 rcases h with rfl|⟨b,a,h1,h2,h3⟩
 .exact .inl rfl
 .refine .inr ⟨b,h1,?_⟩
  by_cases hs:St a
  .refine .inr ⟨(ht a b h2).1 hs,?_⟩
   cases hw:e.write
   .rfl
   .exact absurd hs (h3 hw)
  .exact .inl ((ht a b h2).2 hs)
def OwnQ (p:bR)(ty:aM)(Wg:Nat)(main:Bool)(B:cF->bC->aE->Prop)(τ:cF)(g:bC)(w:aE):Prop:=
 ∀aI,bT ty Wg τ w aI->∃g' w' es,stepG p main g aI=.go g' w' es/\g'.status=.running/\zW τ.own aI w'/\(∀e∈es,EvQ (τ.grow aI w').own τ.still e)/\B (τ.grow aI w') g' w'
structure Cx (L:Type) where
 p:bR
 gs:aO->Bool
 fs:aO->Bool
 ty:aM
 Wg:Nat
 A:jU L
 Fin:bC->aE->Prop
 main:Bool
 base:List dJ
 ds:Dk
 K:Pr
 St:Nat->Prop
 I:Pr->cF->aE->Prop
 pin:List (Nat×aF)
 alone:Option (cF->bC->aE->Prop):=none
 aok:∀B,alone=some B->∀τ g w,g.status=.running->OwnQ p ty Wg main B τ g w->B τ g w:=by intro _ h;cases h
variable {L:Type}
abbrev Cx.P (C:Cx L):dL:=PS C.p C.gs
abbrev Cx.Rel (C:Cx L)(R:Pr)(w W:aE):Prop:=cV (SF C.fs) C.K R (o5 C.p) C.St w W
def Cx.B (C:Cx L)(l:L)(τ:cF)(g:bC)(w:aE):Prop:=
 match C.alone with
 |none=>bY C.p C.ty C.Wg C.A C.Fin C.main (.usr l) 0 τ g w
 |some B=>B τ g w
def Cx.B_none {C:Cx L}(h:C.alone=none)(l:L)(τ:cF)(g:bC)(w:aE):C.B l τ g w=bY C.p C.ty C.Wg C.A C.Fin C.main (.usr l) 0 τ g w:=by unfold Cx.B;rw[h]
variable {B:cF->bC->aE->Prop}
def Cx.B_some {C:Cx L}(h:C.alone=some B)(l:L)(τ:cF)(g:bC)(w:aE):C.B l τ g w=B τ g w:=by unfold Cx.B;rw[h]
def Cx.ownQ {C:Cx L}{l:L}{g:bC}{w:aE}(cH:g.status=.running)(h:OwnQ C.p C.ty C.Wg C.main (C.B l) τ g w):C.B l τ g w:=by
 cases ha:C.alone with
 |none=>
  rw[Cx.B_none ha];have hB:∀τ g w,C.B l τ g w->bY C.p C.ty C.Wg C.A C.Fin C.main (.usr l) 0 τ g w:=λτ g w x=>by rw[Cx.B_none ha] at x;exact x
  refine bY.own cH trivial λaI s=>?_;obtain⟨g',w',es,h1,h2,h3,h4,h5⟩:=h aI s;refine⟨g',w',es,h1,h2,h3,λe he=>zH5 (h4 e he),?_⟩;rw[deafBehind_still (λe he=>zyx (h4 e he))];exact hB _ _ _ h5
 |some B=>
  rw[Cx.B_some ha];refine C.aok B ha τ g w cH λaI s=>?_;have e:∀τ g w,C.B l τ g w->B τ g w:=λτ g w x=>by rw[Cx.B_some ha] at x;exact x
  obtain⟨g',w',es,h1,h2,h3,h4,h5⟩:=h aI s;exact⟨g',w',es,h1,h2,h3,h4,e _ _ _ h5⟩
abbrev Cx.S (C:Cx L):List Nat:=C.pin.map (·.1)
structure FmW (C:Cx L)(R:Pr)(m m':Fm):Prop where
 fn:m.fn=m'.fn
 todo:m.todo=m'.todo
 ret:m.ret=m'.ret
 tmps:bK (SF C.fs) C.K R m.tmps m'.tmps
 pins:∀x∈C.pin,m'.tmps.getD x.1 aA=x.2
structure Rs (St:Nat->Prop)(R:Pr)(W:aE)(R1:Pr)(W1:aE):Prop where
 le:R.le R1
 tape:W1.tape=W.tape
 os:W1.os=W.os
 output:W1.output=W.output
 size:W.heap.size<=W1.heap.size
 new:∀a b,R1 a b->R a b\/(W.heap.size<=b/\b<W1.heap.size)
 keep:∀b,b<W.heap.size->(∀a,R a b->St a)->W1.heap[b]? =W.heap[b]?
structure fF (C:Cx L):Prop where
 suf:∀R τ W aX,C.I R τ W->bT C.ty C.Wg τ W aX->C.I R τ aX
 step:∀R τ W R1 W1,C.I R τ W->vO τ R C.St->Rs C.St R W R1 W1->C.I R1 (τ.grow W W1) W1
def BO (C:Cx L)(l:L)(m:Fm)(w:aE):Prop:=
 ∀(R:Pr) (W:aE) (m':Fm) (τ:cF),C.Rel R w W->FmW C R m m'->vO τ R C.St->C.I R τ W->C.B l τ (G (fx [] C.ds m') C.base) W
section
variable {C:Cx L}{l:L}
variable {m:Fm}{w:aE}
def BO.tape (h:BO C l m w)(T:Tape)(e:Nat):BO C l m (Tt.tp w T e):=
 λR W m' τ a b c d=>h R W m' τ a.untp b c d
def BO.untape {T:Tape}{e:Nat}(h:BO C l m (Tt.tp w T e)):BO C l m w:=
 λR W m' τ a b c d=>h R W m' τ ⟨a.inj,a.inj',a.lt,a.low,a.gle,a.cont,a.rest,a.st,a.np,a.tb⟩ b c d
variable {ms:List Fm}
def uL.wait {P:dL}{fs:aO->Bool}{K R:Pr}{ms':List Fm}(h:uL P fs K R ms ms'):∀c∈ms',c.ret=false:=by
 induction h with
 |nil=>intro c hc;cases hc
 |cons a b _ ih=>
  intro c hc;rcases jH.1 hc with rfl|hc
  .exact a.ret.symm.trans b.1
  .exact ih c hc
variable {Q:Fm->aE->Prop}
def zFJ (F:vD C.P C.fs)(hI:fF C){k:List eF}{fn0:aO}(h:Tt.LT C.p Q m ms w)
 (hn:∀(x:Fm) (wT:aE),x.fn=fn0->x.ret=false->x.todo=[]->(∀T,Q {x with ret:=true} (Tt.tp wT T 0))->BO C l ⟨fn0,x.tmps,k,false⟩ wT)
 (hr:∀(x:Fm) (wT:aE),x.fn=fn0->x.ret=true->x.todo≠[]->Q x wT->BO C l ⟨fn0,x.tmps,x.todo++k,true⟩ wT):
 ∀(R:Pr) (W:aE) (m':Fm) (ms':List Fm) (τ:cF),Q2 m ms=fn0->(ms=[]->m.ret=true->m.todo≠[])->C.Rel R w W->pA C.P C.fs C.K R m m'->uL C.P C.fs C.K R ms ms'->vO τ R C.St->C.I R τ W->
  (∀x∈C.pin,(Sk m' ms').tmps.getD x.1 aA=x.2)->(∀i∈(Sk m' ms').todo,At C.S i=true)->C.B l τ (stk k C.ds C.base m' ms') W:=by
 induction h with
 |stop h1 h2=>
  rename_i m w;intro R W m' ms' τ hl hz hw hm iZ ht hi Dm dB;cases iZ;have hB:=hr m w hl h1 (hz rfl h1) h2 R W {m' with todo:=m'.todo++k} τ hw ⟨(hl.symm.trans hm.fn:_),by show m.todo++k=_;rw[hm.todo],h1.symm.trans hm.ret,hm.tmps,Dm⟩ ht hi;have:fx [] C.ds {m' with todo:=m'.todo++k}=fx k C.ds m':=by unfold fx;simp[Fm.fr]
  rw[this] at hB;exact hB
 |step nx hs cH aN ih=>
  rename_i m ms w;intro R W m' ms' τ hl hz hw hm iZ ht hi Dm dB;by_cases Oa:ms=[]/\m.ret=false/\m.todo=[]
  .obtain⟨rfl,h1,h2⟩:=Oa
   cases iZ;have hQ:∀T,Q {m with ret:=true} (Tt.tp w T 0):=λT=>by
    have hT:=cH T;have e:(fD C.p m []).run C.p (Tt.tp w T 0)=.ok ({m with ret:=true},[]) (Tt.tp w T 0):=by simp[fD,h1,sC,h2,kW,bD]
    rw[e] at hT;injection hT with e1 e2;have hl:=aN T;rw[<-e1,<-e2] at hl;exact hl.ret_inv rfl
   have hB:=hn m w hl h1 h2 hQ R W {m' with todo:=m'.todo++k} τ hw ⟨(hl.symm.trans hm.fn:_),by show k=m'.todo++k;rw[<-hm.todo,h2];rfl,h1.symm.trans hm.ret,hm.tmps,Dm⟩ ht hi;have:fx [] C.ds {m' with todo:=m'.todo++k}=fx k C.ds m':=by unfold fx;simp[Fm.fr]
   rw[this] at hB;exact hB
  .refine Cx.ownQ (zrY ..) λaX s=>?_
   have dI:=zlZ hw ht (λa b x=>(hw.lt a b (.inr x)).2) s;have yU:=hI.suf _ _ _ _ hi s
   let T:Tape:=λn q=>aX.tape (aX.drawn+n) q
   have yF:C.Rel R (Tt.tp w T 0) aX:=⟨dI.inj,dI.inj',dI.lt,dI.low,dI.gle,dI.cont,dI.rest,dI.st,dI.np,dI.tb⟩;have L0:Tp (Tt.tp w T 0) aX:=λn q=>by show aX.tape (aX.drawn+(0+n)) q=_;rw[qX]
   have hrel:vA C.P C.fs C.K (o5 C.p) C.St m ms (Tt.tp w T 0):=⟨R,aX,m',ms',yF,hm,iZ⟩;obtain⟨R1,x',W1,ev,e1,e2,e3,e4,e5⟩:=aG.run rfl _ (zdQ (l:=false) F.toFit2 (yF.relOk rfl) hm iZ (λe=>by cases e) hs) yF L0 (cH T);replace e2:=e2.resolve_right λx=>by
    obtain⟨f,_,_,_,_,_,_,ho,_⟩:=x.2;rw[F.none] at ho;cases ho
   obtain⟨zqK,zoO⟩:=x';have F6:m'.ret=true->ms'≠[]:=λe e2=>hs (hm.ret.trans e) (by cases iZ with|nil=>rfl|cons _ _ _=>cases e2);have Wx:ms'=[]->m'.ret=false->m'.todo≠[]:=λa b c=>Oa ⟨(by cases iZ with|nil=>rfl|cons _ _ _=>cases a),hm.ret.trans b,hm.todo.trans c⟩;have zmP:=zEh (S:=C.S) dB e1;have mP:(fD C.p m' ms').events C.p aX #[]=ev:=by rw[e4];simp
   have cG:aX.heap.size<=W1.heap.size:=e3.size.2;have Cf:∀a b,R1 a b->R a b\/(aX.heap.size<=b/\b<W1.heap.size):=λa b x=>by
    rcases e3.new a b x with y|⟨_,y⟩
    .exact .inl y
    .exact .inr ⟨y,(e3.rel.ltR a b x).2⟩
   have Gb:vO (τ.grow aX W1) R1 C.St:=λa b x=>by
    rcases e3.new a b x with y|⟨y1,y2⟩
    .exact⟨(ht a b y).1,λz=>.inl ((ht a b y).2 z)⟩
    .refine⟨λz=>?_,λ_=>.inr ⟨y2,(e3.rel.ltR a b x).2⟩⟩
     obtain⟨⟨b',bZ⟩,_⟩:=yF.st a z;have:=(yF.ltR a b' bZ).1;omega
   have hg:zW τ.own aX W1:=⟨e3.tape.2,e3.os.2,e3.ou.2,cG,λb hb dB=>e3.keep b hb λa x=>zC λz=>dB ((ht a b x).2 z)⟩;have zT:=hI.step R τ aX R1 W1 yU ht ⟨e3.le,e3.tape.2,e3.os.2,e3.ou.2,cG,Cf,e3.keep⟩;have Sv:Q2 (nx T).1.1 (nx T).1.2=fn0:=(zrh (m1:=(nx T).1.1) (ms1:=(nx T).1.2) (cH T)).trans hl;have goal:C.B l (τ.grow aX W1) (stk k C.ds C.base zqK zoO) W1:=by
    refine ih T R1 W1 zqK zoO (τ.grow aX W1) Sv (λa b c=>?_) e3.rel e2.1 e2.2.1 Gb zT (λx hx=>(zmP.at_ x.1 (Vj hx)).trans (Dm x hx)) zmP.no;have hT:=cH T
    cases ms with
    |nil=>
     cases kG:m.ret with
     |true=>exact hs kG rfl
     |false=>
      simp only[fD,kG,jE,if_false] at hT;exact zxB hT b kG (λe=>Oa ⟨rfl,kG,e⟩) a c
    |cons c0 cs=>
     cases kG:m.ret with
     |true=>
      simp only[fD,kG,if_true] at hT;obtain⟨ops,i,r,k0,v,fn,hc,hf,hv,h1,h2⟩:=Us (m1:=(nx T).1.1) (ms1:=(nx T).1.2) hT;rw[h1] at c;simp[Fm.fin] at c
     |false=>
      simp only[fD,kG,jE,if_false] at hT;rcases zdG hT with⟨e,_⟩|e
      .rw[a] at e;cases e
      .rw[a] at e;cases e
   obtain⟨es,aY,xM⟩:=zEe (main:=C.main) (k:=k) (d:=C.ds) (base:=C.base) F6 Wx (uL.wait iZ) e1;have Ry:∀e∈es,Ga R1 C.St e:=λe he=>by
    have:=xM e he;rw[mP] at this;exact e5 e (zav this)
   exact⟨_,W1,_,aY,zrY ..,hg,λe he=>zdR (Ry e he) Gb,goal⟩
end
end Go.Mt
namespace Go.Mt
open Go.Conc Go.Tt
open Go.ConcR (KK wgBlock WgAt stA smA rd wr)
section
variable {L:Type}{C:Cx L}{l:L}
def mH (d:Dk)(fn:aO)(tmps:Array aF)(todo:List eF):fx [] d ⟨fn,tmps,todo,false⟩=(d.base fn).at ⟨tmps,d.ds⟩ todo:=by
 unfold fx;simp[Fm.fr,Dk.base,dJ.at]
def zk4 (d:Dk)(fn:aO)(tmps:Array aF)(todo:List eF):fx [] d ⟨fn,tmps,todo,true⟩={(d.base fn).at ⟨tmps,d.ds⟩ todo with mode:=.returning}:=by
 unfold fx;simp[Fm.fr,Dk.base,dJ.at]
def cF.grow_id (τ:cF)(w:aE):τ.grow w w=τ:=by
 obtain⟨a,b,c⟩:=τ;simp only[cF.grow,cF.mk.injEq,and_true];funext x;exact propext ⟨λh=>h.elim id λh=>by omega,.inl⟩
def zW.id (O:Nat->Prop)(w:aE):zW O w w:=⟨rfl,rfl,rfl,aV _,λ_ _ _=>rfl⟩
variable {R:Pr}{w W:aE}{τ:cF}
def Cx.Rel.suf {aX:aE}(hw:C.Rel R w W)(ht:vO τ R C.St)(s:bT C.ty C.Wg τ W aX):C.Rel R w aX:=zlZ hw ht (λa b x=>(hw.lt a b (.inr x)).2) s
variable {g':bC}
def Nx {main:Bool}{g:bC}{p:bR}{ty:aM}{Wg:Nat}{A:jU L}{Fin:bC->aE->Prop}(hg:g.status=.running)(xE:g'.status=.running)(aY:∀aX,bT ty Wg τ W aX->stepG p main g aX=.go g' aX #[])
 (h:∀aX,bT ty Wg τ W aX->bY p ty Wg A Fin main (.usr l) 0 τ g' aX):bY p ty Wg A Fin main (.usr l) 0 τ g W:=by
 refine bY.own hg trivial λaX s=>⟨g',aX,#[],aY aX s,xE,zW.id _ _,λe he=>by simp at he,?_⟩;rw[cF.grow_id];exact h aX s
def Cx.silent {g:bC}(hg:g.status=.running)(xE:g'.status=.running)(aY:∀aX,bT C.ty C.Wg τ W aX->stepG C.p C.main g aX=.go g' aX #[])(h:∀aX,bT C.ty C.Wg τ W aX->C.B l τ g' aX):C.B l τ g W:=by
 refine Cx.ownQ hg λaX s=>⟨g',aX,#[],aY aX s,xE,zW.id _ _,λe he=>by simp at he,?_⟩;rw[cF.grow_id];exact h aX s
variable {fn:aO}{tmps:Array aF}
def BO.silent (hI:fF C){todo zh7:List eF}{zhF:Bool}(aY:∀R bQ W,bK (SF C.fs) C.K R tmps bQ->stepG C.p C.main (G ((C.ds.base fn).at ⟨bQ,C.ds.ds⟩ todo) C.base) W=.go (G (fx [] C.ds ⟨fn,bQ,zh7,zhF⟩) C.base) W #[])
 (h:BO C l ⟨fn,tmps,zh7,zhF⟩ w):BO C l ⟨fn,tmps,todo,false⟩ w:=by
 intro R W m' τ hw hm ht hi;obtain⟨fn',bQ,yJ,yB⟩:=m';obtain rfl:=hm.fn;obtain rfl:=hm.todo;obtain rfl:=hm.ret;refine Cx.silent rfl rfl (λaX s=>by rw[mH];exact aY R bQ aX hm.tmps) λaX s=>?_;exact h R aX ⟨fn,bQ,zh7,zhF⟩ τ (hw.suf ht s) ⟨rfl,rfl,rfl,hm.tmps,hm.pins⟩ ht (hI.suf _ _ _ _ hi s)
section ctl
variable {fn:aO}{tmps:Array aF}{k:List eF}{w:aE}
variable {a b:Code}
def BO.seq (hI:fF C)(h:BO C l ⟨fn,tmps,.code a:: .code b::k,false⟩ w):BO C l ⟨fn,tmps,.code (.seq a b)::k,false⟩ w:=BO.silent hI (λR t W _=>by rw[mH];exact dU) h
def BO.skip (hI:fF C)(h:BO C l ⟨fn,tmps,k,false⟩ w):BO C l ⟨fn,tmps,.code .skip::k,false⟩ w:=BO.silent hI (λR t W _=>by rw[mH];exact pI) h
variable {c:Code}
def BO.block (hI:fF C){id:Nat}(h:BO C l ⟨fn,tmps,.code c:: .inBlock id::k,false⟩ w):BO C l ⟨fn,tmps,.code (.block id c)::k,false⟩ w:=BO.silent hI (λR t W _=>by rw[mH];exact zeO) h
def BO.loop (hI:fF C)(h:BO C l ⟨fn,tmps,.code c:: .inLoop c::k,false⟩ w):BO C l ⟨fn,tmps,.code (.loop c)::k,false⟩ w:=BO.silent hI (λR t W _=>by rw[mH];exact zkx) h
def BO.inLoop (hI:fF C)(h:BO C l ⟨fn,tmps,.code c:: .inLoop c::k,false⟩ w):BO C l ⟨fn,tmps,.inLoop c::k,false⟩ w:=BO.silent hI (λR t W _=>by rw[mH];exact zkB) h
def BO.inBlock (hI:fF C){id:Nat}(h:BO C l ⟨fn,tmps,k,false⟩ w):BO C l ⟨fn,tmps,.inBlock id::k,false⟩ w:=BO.silent hI (λR t W _=>by rw[mH];exact zmq) h
def BO.exit (hI:fF C){id:Nat}{k':List eF}(he:exitTo id k=some k')(h:BO C l ⟨fn,tmps,k',false⟩ w):BO C l ⟨fn,tmps,.code (.exit id)::k,false⟩ w:=BO.silent hI (λR t W _=>by rw[mH];exact stepG_exit he) h
def BO.reg (hI:fF C){id:Nat}{ops:Array aZ}(h:BO C l ⟨fn,tmps,.inRegion ops (gN ops.size)::k,false⟩ w):BO C l ⟨fn,tmps,.code (.region id ops false)::k,false⟩ w:=BO.silent hI (λR t W _=>by rw[mH];exact stepG_region) h
def BO.regEnd (hI:fF C){ops:Array aZ}(h:BO C l ⟨fn,tmps,k,false⟩ w):BO C l ⟨fn,tmps,.inRegion ops []::k,false⟩ w:=BO.silent hI (λR t W _=>by rw[mH];exact dF) h
def BO.fall (hI:fF C)(h:BO C l ⟨fn,tmps,[],true⟩ w):BO C l ⟨fn,tmps,[],false⟩ w:=BO.silent hI (λR t W _=>by rw[zk4];exact zd2) h
def BO.ret (hI:fF C)(h:BO C l ⟨fn,tmps,.code .ret::k,true⟩ w):BO C l ⟨fn,tmps,.code .ret::k,false⟩ w:=BO.silent hI (λR t W _=>by rw[zk4];exact wW) h
def Gg {R:Pr}{t t':Array aF}{d:List Ee}(h:bK (SF C.fs) C.K R t t'){x:cN}(hx:dP C.fs x=true):VR (SF C.fs) C.K R ((bJ t []).eval x) ((bJ t' d).eval x):=by
 cases x with
 |tmp t=>exact h.getD t xO
 |const v=>exact zph hx
 |global g=>cases hx
 |func f=>exact .func hx rfl (λi v v' h=>by simp at h) rfl (λi v v' h=>by simp at h)
def BO.cond (hI:fF C){c:cN}{t:Bool}(hx:dP C.fs c=true)(hc:(bJ tmps []).eval c=.bool t)(h:BO C l ⟨fn,tmps,.code (if t then a else b)::k,false⟩ w):BO C l ⟨fn,tmps,.code (.cond c a b)::k,false⟩ w:=
 BO.silent hI (λR t' W ha=>by
  rw[mH];have h1:=Gg (C:=C) (d:=C.ds.ds) ha hx;rw[hc] at h1;have h2:(bJ t' C.ds.ds).eval c=.bool t:=by
   generalize(bJ t' C.ds.ds).eval c=v' at h1;cases h1;rfl
  exact stepG_cond h2) h
end ctl
structure vR (p:bR)(fn:aO):Prop where
 res:∃f,p.funcs[fn]? =some f/\Du f.results.toList
variable {bQ:Array aF}{c:Code}
def zzX (hc:oC C.p ⟨C.fs,C.gs,true⟩ c=true)(hf:vR C.p fn)(ha:bK (SF C.fs) C.K R tmps bQ):pA C.P C.fs C.K R ⟨fn,tmps,[.code c],false⟩ ⟨fn,bQ,[.code c],false⟩:=by
 obtain⟨f,h1,h2⟩:=hf.res;refine⟨rfl,rfl,rfl,ha,λi hi=>?_,⟨f,f,h1,h1,rfl,h2⟩⟩;simp only[jH,l8,or_false] at hi;subst hi;exact hc
variable {k:List eF}
def BO.piece (F:vD C.P C.fs)(hI:fF C)(hc:oC C.p ⟨C.fs,C.gs,true⟩ c=true)(hf:vR C.p fn)(dB:x3 C.S c=true)
 (rI:∀T,Code.wp C.p c (λe a' w'=>e=.normal/\BO C l ⟨fn,a'.tmps,k,false⟩ w') ⟨tmps,[]⟩ (Tt.tp w T 0)):BO C l ⟨fn,tmps,.code c::k,false⟩ w:=by
 intro R W m' τ hw hm ht hi;obtain⟨fn',bQ,yJ,yB⟩:=m';obtain rfl:=hm.fn;obtain rfl:=hm.todo;obtain rfl:=hm.ret;have ze9:=zzX (R:=R) hc hf hm.tmps;have hrel:vA C.P C.fs C.K (o5 C.p) C.St ⟨fn,tmps,[.code c],false⟩ [] w:=⟨R,W,_,[],hw,ze9,.nil⟩;have tree:=zlT F rfl hrel rI (λe a w h=>.inl h.1) (λe a w T k h=>⟨h.1,h.2.tape T k⟩);have:=zFJ (l:=l) F hI (k:=k) (fn0:=fn) tree (λx wT e1 e2 e3 hq=>by
  rcases(hq wT.tape).2 with h|h
  .exact BO.untape h.2.2
  .cases h.1)
  (λx wT e1 e2 e3 hq=>by
   rcases hq.2 with h|h
   .exact absurd h.1 e3
   .cases h.1) R W ⟨fn,bQ,[.code c],false⟩ [] τ rfl (λ_ e=>by cases e) hw ze9 .nil ht hi hm.pins (λi hi=>by
   simp only[Sk,jH,l8,or_false] at hi;subst hi;exact dB)
 have e:fx k C.ds ⟨fn,bQ,[.code c],false⟩=fx [] C.ds ⟨fn,bQ,.code c::k,false⟩:=by unfold fx;simp[Fm.fr]
 unfold stk at this;rw[e] at this;exact this
variable {dst:Option Nat}{v:aF}{d:List Ee}
def Ix (hp:∀x∈C.pin,bQ.getD x.1 aA=x.2)(hn:∀s,dst=some s->s∉C.S):∀x∈C.pin,(cC ⟨bQ,d⟩ dst v).tmps.getD x.1 aA=x.2:=by
 intro x hx
 cases dst with
 |none=>exact hp x hx
 |some s=>
  have aT:s≠x.1:=λe=>hn s rfl (e▸Vj hx);rw[<-hp x hx];simp only[cC,tJ,jP aT]
variable {t t':Array aF}
def Jj {d':List Ee}(h:bK (SF C.fs) C.K R t t'){v':aF}(hv:VR (SF C.fs) C.K R v v'):bK (SF C.fs) C.K R (cC ⟨t,d⟩ dst v).tmps (cC ⟨t',d'⟩ dst v').tmps:=by
 cases dst with
 |none=>exact h
 |some s=>exact h.set s hv
variable {o:aZ}{ops:Array aZ}
def Ip (h:bK (SF C.fs) C.K R t t')(hw:dD o (dR ops t)=true):dD o (dR ops t')=true:=by
 rw[<-zlW ops h];exact hw
def BO.op (F:vD C.P C.fs)(hI:fF C){i:Nat}{rest:List Nat}(ho:ops[i]? =some o)(cD:dD o (dR ops tmps)=true)
 (bV:rL C.p ⟨C.fs,C.gs,true⟩ o.op=true) (lH:∀s,o.dst=some s->s∉C.S)
 (hx:∀T,∃v w',((aS (bJ tmps []).eval o).run C.p (Tt.tp w T 0)=.ok (.value v) w'\/((aS (bJ tmps []).eval o).run C.p (Tt.tp w T 0)=.ok .skip w'/\v=aA))/\BO C l ⟨fn,(cC ⟨tmps,[]⟩ o.dst v).tmps,.inRegion ops rest::k,false⟩ w'):
 BO C l ⟨fn,tmps,.inRegion ops (i::rest)::k,false⟩ w:=by
 intro R W m' τ hw hm ht hi;obtain⟨fn',bQ,yJ,yB⟩:=m';obtain rfl:=hm.fn;obtain rfl:=hm.todo;obtain rfl:=hm.ret;rw[mH];refine Cx.ownQ rfl λaX s=>?_;have dI:=hw.suf ht s;have yU:=hI.suf _ _ _ _ hi s
 let T:Tape:=λn q=>aX.tape (aX.drawn+n) q
 have yF:C.Rel R (Tt.tp w T 0) aX:=⟨dI.inj,dI.inj',dI.lt,dI.low,dI.gle,dI.cont,dI.rest,dI.st,dI.np,dI.tb⟩;have L0:Tp (Tt.tp w T 0) aX:=λn q=>by show aX.tape (aX.drawn+(0+n)) q=_;rw[qX]
 obtain⟨v,w',cH,hB⟩:=hx T;have zbG:=zjF (P:=C.P) (q:=⟨C.fs,C.gs,true⟩) (o:=o) (ρ:=(bJ tmps []).eval) (ρ':=(bJ bQ C.ds.ds).eval) F.toFit2.toFit (yF.relOk rfl) (λx hx=>Gg hm.tmps hx) (λg=>rfl) (λg=>rfl) (λg=>rfl) (λg=>rfl) (λv=>rfl) (λv=>rfl) rfl (λf h=>h) (λ_ f hf=>F.toFit2.toFit.dyn rfl f hf) bV
 have key:∃R1 v' W1 ev,((aS (bJ bQ C.ds.ds).eval o).run C.p aX=.ok (.value v') W1\/((aS (bJ bQ C.ds.ds).eval o).run C.p aX=.ok .skip W1/\v'=aA))/\VR (SF C.fs) C.K R1 v v'/\mV (SF C.fs) C.K R (o5 C.p) C.St (Tt.tp w T 0) aX R1 w' W1/\
  (∀es,(aS (bJ bQ C.ds.ds).eval o).events C.p aX es=es++ev)/\∀e∈ev,Ga R1 C.St e:=by
  rcases cH with cH|⟨cH,rfl⟩
  .obtain⟨R1,x',W1,ev,e1,e2,e3,e4,e5⟩:=aG.run rfl _ zbG yF L0 cH
   cases e2 with
   |value hv=>exact⟨R1,_,W1,ev,.inl e1,hv,e3,e4,e5⟩
  .obtain⟨R1,x',W1,ev,e1,e2,e3,e4,e5⟩:=aG.run rfl _ zbG yF L0 cH
   cases e2 with
   |skip=>exact⟨R1,aA,W1,ev,.inr ⟨e1,rfl⟩,xO,e3,e4,e5⟩
 obtain⟨R1,v',W1,ev,e1,hv,e3,e4,e5⟩:=key;have hb:(C.ds.base fn).kind≠ .early:=C.ds.ok;have uO:=Ip (C:=C) hm.tmps cD;have aY:stepG C.p C.main (G ((C.ds.base fn).at ⟨bQ,C.ds.ds⟩ (.inRegion ops (i::rest)::k)) C.base) aX=.go (G ((C.ds.base fn).at (cC ⟨bQ,C.ds.ds⟩ o.dst v') (.inRegion ops rest::k)) C.base) W1 (xA C.p (C.ds.base fn).fn ⟨bQ,C.ds.ds⟩ o aX):=by
  rcases e1 with e1|⟨e1,rfl⟩
  .exact stepG_value ho uO hb e1
  .exact stepG_none ho uO hb e1
 have D7:cC ⟨bQ,C.ds.ds⟩ o.dst v'=⟨(cC ⟨bQ,C.ds.ds⟩ o.dst v').tmps,C.ds.ds⟩:=by cases o.dst<;>rfl
 have Ry:∀e∈xA C.p (C.ds.base fn).fn ⟨bQ,C.ds.ds⟩ o aX,Ga R1 C.St e:=λe he=>by
  unfold xA at he;rw[e4] at he;exact e5 e (by simpa using zav he)
 have cG:aX.heap.size<=W1.heap.size:=e3.size.2;have Cf:∀a b,R1 a b->R a b\/(aX.heap.size<=b/\b<W1.heap.size):=λa b x=>by
  rcases e3.new a b x with y|⟨_,y⟩
  .exact .inl y
  .exact .inr ⟨y,(e3.rel.ltR a b x).2⟩
 have Gb:vO (τ.grow aX W1) R1 C.St:=λa b x=>by
  rcases e3.new a b x with y|⟨y1,y2⟩
  .exact⟨(ht a b y).1,λz=>.inl ((ht a b y).2 z)⟩
  .refine⟨λz=>?_,λ_=>.inr ⟨y2,(e3.rel.ltR a b x).2⟩⟩
   obtain⟨⟨b',bZ⟩,_⟩:=yF.st a z;have:=(yF.ltR a b' bZ).1;omega
 have hg:zW τ.own aX W1:=⟨e3.tape.2,e3.os.2,e3.ou.2,cG,λb hb dB=>e3.keep b hb λa x=>zC λz=>dB ((ht a b x).2 z)⟩;have zT:=hI.step R τ aX R1 W1 yU ht ⟨e3.le,e3.tape.2,e3.os.2,e3.ou.2,cG,Cf,e3.keep⟩;refine⟨_,W1,_,aY,rfl,hg,λe he=>zdR (Ry e he) Gb,?_⟩;rw[D7,<-mH];exact hB R1 W1 ⟨fn,_,_,false⟩ _ e3.rel ⟨rfl,rfl,rfl,Jj (C:=C) (hm.tmps.mono e3.le) hv,Ix (C:=C) hm.pins lH⟩ Gb zT
end
section
variable {L:Type}{C:Cx L}{l:L}
variable {p:bR}
def zFI {q:Tt.Cl}:∀c:Code,oC p q c=true->x3 [] c=true:=by
 intro c
 induction c with
 |region id ops dr=>
  intro _;simp only[x3,zkd];intro o _;cases o.dst<;>rfl
 |seq a b zhD zna=>intro h;simp only[oC,fT] at h;simp only[x3,fT];exact⟨zhD h.1,zna h.2⟩
 |cond c a b zhD zna=>intro h;simp only[oC,fT] at h;simp only[x3,fT];exact⟨zhD h.1.2,zna h.2⟩
 |block id c ih=>intro h;exact ih h
 |loop c ih=>intro h;exact ih h
 |scope c ih=>intro h;exact ih h
 |skip=>intro _;rfl
 |ret=>intro _;rfl
 |exit _=>intro _;rfl
 |label _=>intro _;rfl
 |_=>intro h;simp[oC] at h
def Cx.sub (C:Cx L)(m':Fm)(n7:Pr):Cx L:={C with base:=fx [] C.ds m'::C.base,ds:=.nil,I:=λR τ W=>C.I R τ W/\n7.le R,pin:=[]}
variable {o:aZ}{x:cN}{f:aO}{args:Array cN}{kT:Array aM}{first cap:Array aF}{ρ:cN->aF}
def zF3 (hop:o.op=.call ⟨.value x,args,kT⟩)(hρ:ρ x=.func (.func f) first cap){fn:Um}{c:Code}(hf:p.funcs[f]? =some fn)
 (hn:(fn.name== "runtime.NumGoroutine")=false) (hb:fn.body=some c) (w:aE):(aS ρ o).run p w=.ok (.enter f (first++args.map ρ++cap)) w/\(aS ρ o).events p w #[]=#[]:=by
 obtain⟨dst,yW,type,pos,after,guard⟩:=o;simp only at hop;subst hop;have sG:¬fn.name= "runtime.NumGoroutine" :=by simpa using hn
 constructor
 .simp[aS,resolve,Co,hρ,invoke,callFunc,program,bind,xR,pure,bD,hf,sG,hb]
 .simp[aS,resolve,Co,hρ,invoke,callFunc,program,bind,xR,pure,bD,vV,y7,hf,sG,hb]
structure Callee (C:Cx L)(tmps:Array aF)(x:cN)(f:aO)(first cap:Array aF):Prop where
 here:(bJ tmps []).eval x=.func (.func f) first cap
 there:∀R bQ d,bK (SF C.fs) C.K R tmps bQ->∃Ss Oz,(bJ bQ d).eval x=.func (.func f) Ss Oz/\bK (SF C.fs) C.K R first Ss/\bK (SF C.fs) C.K R cap Oz
def Callee.static (tmps:Array aF)(f:aO):Callee C tmps (.func f) f #[] #[]:=⟨rfl,λR bQ d _=>⟨#[],#[],rfl,.empty,.empty⟩⟩
variable {fn:aO}{tmps:Array aF}{ops:Array aZ}{i:Nat}{rest:List Nat}{k:List eF}{w:aE}{fnf:Um}
def BO.callN (hI:fF C)(ho:ops[i]? =some o)(cD:dD o (dR ops tmps)=true)
 (hop:o.op=.call ⟨.value x,args,kT⟩) (hx:Callee C tmps x f first cap) (tD:args.all (dP C.fs)=true)  {cf:Code} (hf:C.p.funcs[f]? =some fnf) (Hd:(fnf.name== "runtime.NumGoroutine")=false) (hb:fnf.body=some cf) (zhp:Du fnf.results.toList)
 (hB:∀(n7:Pr) (m':Fm),FmW C n7 ⟨fn,tmps,.inRegion ops (i::rest)::k,false⟩ m'->BO (C.sub m' n7) l ⟨f,(first++args.map (bJ tmps []).eval++cap)++nL (fnf.ntmps-(first++args.map (bJ tmps []).eval++cap).size) aA,[.code cf],false⟩ w):
 BO C l ⟨fn,tmps,.inRegion ops (i::rest)::k,false⟩ w:=by
 intro R W m' τ hw hm ht hi;have zws:=hm;obtain⟨fn',bQ,yJ,yB⟩:=m';obtain rfl:=hm.fn;obtain rfl:=hm.todo;obtain rfl:=hm.ret;obtain⟨Ss,Oz,lK,uH,pY⟩:=hx.there R bQ C.ds.ds hm.tmps;have bZ:(C.ds.base fn).kind≠ .early:=C.ds.ok;have uO:=Ip (C:=C) hm.tmps cD;rw[mH];refine Cx.silent rfl rfl (g':=G (Fq C.p f (Ss++args.map (bJ bQ C.ds.ds).eval++Oz) .normal) (fx [] C.ds ⟨fn,bQ,.inRegion ops (i::rest)::k,false⟩::C.base)) (λaX s=>?_) λaX s=>?_
 rotate_right
 .have Cj:bK (SF C.fs) C.K R (first++args.map (bJ tmps []).eval++cap) (Ss++args.map (bJ bQ C.ds.ds).eval++Oz):=(uH.append (bK.maps (λx hx=>Gg (C:=C) hm.tmps hx) tD)).append pY
  have:=hB R _ zws R aX ⟨f,(Ss++args.map (bJ bQ C.ds.ds).eval++Oz)++nL (fnf.ntmps-(Ss++args.map (bJ bQ C.ds.ds).eval++Oz).size) aA,[.code cf],false⟩ τ (hw.suf ht s) ⟨rfl,rfl,rfl,Cj.pad fnf.ntmps,λx hx=>by cases hx⟩ ht ⟨hI.suf _ _ _ _ hi s,.refl R⟩;rw[Yb hf hb,<-Hk];exact this
 .obtain⟨x1,x2⟩:=zF3 (p:=C.p) hop (ρ:=(bJ bQ C.ds.ds).eval) lK hf Hd hb aX
  have aY:=stepG_enter (main:=C.main) (b:=C.ds.base fn) (rest:=rest) (cs:=C.base) (k:=k) ho uO bZ x1;rw[aY];unfold xA;rw[x2,Ce,mH]
variable {v:aF}
def BO.retN (hI:fF C){n7:Pr}{m m':Fm}(hm:FmW C n7 m m')(hr:m.ret=false)(pT:m.todo=.inRegion ops (i::rest)::k)(lH:∀s,(ops[i]?).bind (·.dst)=some s->s∉C.S)
   {todo:List eF}    (hf:C.p.funcs[f]? =some fnf) (hv:(oN fnf.results.toList tmps).run C.p w=.ok v w) (h:BO C l (m.fin ops i rest k v) w):BO (C.sub m' n7) l ⟨f,tmps,todo,true⟩ w:=by
 intro R W x' τ hw hx ht hi;obtain⟨f',bQ,yJ,yB⟩:=x';obtain rfl:=hx.fn;obtain rfl:=hx.todo;obtain rfl:=hx.ret;have vX:m'.ret=false:=hm.ret.symm.trans hr;have O3:m'.todo=.inRegion ops (i::rest)::k:=hm.todo.symm.trans pT;refine Cx.ownQ rfl λaX s=>?_;have dI:C.Rel R w aX:=Cx.Rel.suf (C:=C) hw ht s;have yU:=hI.suf _ _ _ _ hi.1 s
 let T:Tape:=λn q=>aX.tape (aX.drawn+n) q
 have yF:C.Rel R (Tt.tp w T 0) aX:=⟨dI.inj,dI.inj',dI.lt,dI.low,dI.gle,dI.cont,dI.rest,dI.st,dI.np,dI.tb⟩;have L0:Tp (Tt.tp w T 0) aX:=λn q=>by show aX.tape (aX.drawn+(0+n)) q=_;rw[qX]
 have cH:=(Oi _ _ w v w hv).2 T 0;obtain⟨R1,v',W1,ev,e1,g3,e3,e4,e5⟩:=aG.run (P:=C.P) rfl _ (zis hx.tmps fnf.results.toList) yF L0 cH;obtain⟨zeG,_⟩:=Oi _ _ aX v' W1 e1;subst zeG;have Pn:(zJ C.p ⟨f,bQ,todo,true⟩ [m']).run C.p W1=.ok (m'.fin ops i rest k v',[]) W1:=(Md O3 hf e1).1;obtain⟨_,_,_,e⟩:=zgf (main:=C.main) rfl vX Pn [] C.ds C.base;have Qt:fx [] (C.sub m' n7).ds ⟨f,bQ,todo,true⟩=(⟨f,bQ,todo,true⟩:Fm).fr:=Hk _;rw[Qt];have Ry:∀e∈seen C.p f ((zJ C.p ⟨f,bQ,todo,true⟩ [m']).events C.p W1 #[]),Ga R1 C.St e:=λe he=>by
  rw[(Md O3 hf e1).2,e4] at he;exact e5 e (by simpa using zav he)
 have Cf:∀a b,R1 a b->R a b\/(W1.heap.size<=b/\b<W1.heap.size):=λa b x=>by
  rcases e3.new a b x with y|⟨_,y⟩
  .exact .inl y
  .exact .inr ⟨y,(e3.rel.ltR a b x).2⟩
 have Gb:vO (τ.grow W1 W1) R1 C.St:=λa b x=>by
  rcases e3.new a b x with y|⟨y1,y2⟩
  .exact⟨(ht a b y).1,λz=>.inl ((ht a b y).2 z)⟩
  .have:=(e3.rel.ltR a b x).2;omega
 have zT:=hI.step R τ W1 R1 W1 yU ht ⟨e3.le,rfl,rfl,rfl,aV _,Cf,λ_ _ _=>rfl⟩;refine⟨_,W1,_,e,rfl,zW.id _ _,λe he=>zdR (Ry e he) Gb,?_⟩;have Rv:C.Rel R1 w W1:=⟨e3.rel.inj,e3.rel.inj',e3.rel.lt,e3.rel.low,e3.rel.gle,e3.rel.cont,e3.rel.rest,e3.rel.st,e3.rel.np,e3.rel.tb⟩;refine h R1 W1 _ _ Rv ⟨hm.fn,rfl,hm.ret,?_,?_⟩ Gb zT
 .have:=Jj (C:=C) (d:=[]) (d':=[]) (hm.tmps.mono (hi.2.trans e3.le)) (dst:=(ops[i]?).bind (·.dst)) g3
  unfold Fm.fin;simp only;unfold cC at this
  cases hd:(ops[i]?).bind (·.dst) with
  |none=>rw[hd] at this;exact this
  |some s=>rw[hd] at this;exact this
 .have:=Ix (C:=C) (d:=[]) (v:=v') hm.pins lH
  unfold Fm.fin;simp only;unfold cC at this
  cases hd:(ops[i]?).bind (·.dst) with
  |none=>rw[hd] at this;exact this
  |some s=>rw[hd] at this;exact this
variable {c:Nat}{ct e:aM}{ok:Bool}{z:aF}{dir:ChanDir}{ie:wY}
def zul (hop:o.op=.recv ct x ok)(Ep:p.underlying ct=some (.chan dir e))(jY:p.info? e=some ie)(hz:ie.zero=some z)(hx:ρ x=.chan (some c))(w:aE):
 (aS ρ o).run p w=.ok (.comm #[rcase c z] true (.recv ok)) w/\(aS ρ o).events p w #[]=#[]:=by
 obtain⟨dst,yW,type,pos,after,guard⟩:=o;simp only at hop;subst hop;have hu:∀w,(underlying ct).run p w=.ok (.chan dir e) w:=λw=>by simp[underlying,program,bind,xR,bD,Ep,pure]
 have pD:∀w,(zeroValue e).run p w=.ok z w:=λw=>by simp[zeroValue,typeInfo,program,bind,xR,bD,jY,hz,pure]
 have he:aS ρ ⟨dst,.recv ct x ok,type,pos,after,guard⟩=(underlying ct).bind (λd=>match d with| .chan _ elem=>(zeroValue elem).bind (λz=>.pure (.comm #[{chan:=ρ x,send:=none,zero:=z}] true (.recv ok)))|_=>stuck "receive: channel type expected"):=by
  simp only[aS];show xR _ _=xR _ _;congr 1
 rw[he];constructor
 .rw[r9,hu]
  simp only[uD];rw[r9,pD];simp only[uD,hx];rfl
 .rw[U1,hu,Uk,events_underlying]
  simp only;rw[U1,pD,Uk,events_zeroValue];rfl
def zsU {y:cN}(hop:o.op=.send x y)(hx:ρ x=.chan (some c))(hy:ρ y=v)(w:aE):
 (aS ρ o).run p w=.ok (.comm #[scase c v (.tuple #[])] true .send) w/\(aS ρ o).events p w #[]=#[]:=by
 obtain⟨dst,yW,type,pos,after,guard⟩:=o;simp only at hop;subst hop;constructor
 .simp[aS,hx,hy,scase,pure,bD]
 .simp[aS,hx,hy,scase,pure,bD,vV,y7]
variable {g:Nat}
def V5 {R:Pr}{W:aE}(hw:C.Rel R w W){v':aF}(hK:C.K g c)(h:VR (SF C.fs) C.K R (.chan (some g)) v'):v'=.chan (some c):=by
 cases h with
 |chan h=>
  cases h with
  |some h=>rw[hw.inj g _ c h (.inr hK)]
def zaT (ho:ops[i]? =some o)(v:aF):oS (G ((C.ds.base fn).at ⟨tmps,C.ds.ds⟩ (.inRegion ops (i::rest)::k)) C.base) v=G (fx [] C.ds ⟨fn,(cC ⟨tmps,[]⟩ o.dst v).tmps,.inRegion ops rest::k,false⟩) C.base:=by
 rw[mH];have D7:cC ⟨tmps,C.ds.ds⟩ o.dst v=⟨(cC ⟨tmps,[]⟩ o.dst v).tmps,C.ds.ds⟩:=by cases o.dst<;>rfl
 have zR:((C.ds.base fn).at ⟨tmps,C.ds.ds⟩ (.inRegion ops (i::rest)::k)).finish v=(C.ds.base fn).at (cC ⟨tmps,C.ds.ds⟩ o.dst v) (.inRegion ops rest::k):=by rw[zpE,ho];rfl
 rw[<-D7,<-zR];rfl
variable {okv:aF->Prop}
def BO.recv (ha:C.alone=none)(hI:fF C){nx:aF->L}{sh:L}
 (ho:ops[i]? =some o) (cD:dD o (dR ops tmps)=true) (hop:o.op=.recv ct x ok) (Ep:C.p.underlying ct=some (.chan dir e)) (jY:C.p.info? e=some ie) (hz:ie.zero=some z) (znq:∀R,VR (SF C.fs) C.K R z z)
 (rW:dP C.fs x=true) (hx:(bJ tmps []).eval x=.chan (some g)) (hK:C.K g c) (lH:∀s,o.dst=some s->s∉C.S) (pS:C.A.act l=.recv c okv nx sh)
 (h1:∀v,okv v->∃vg,(∀R,VR (SF C.fs) C.K R vg v)/\BO C (nx v) ⟨fn,(cC ⟨tmps,[]⟩ o.dst (recvd ok vg true)).tmps,.inRegion ops rest::k,false⟩ w)
 (h2:C.A.cl l->BO C sh ⟨fn,(cC ⟨tmps,[]⟩ o.dst (recvd ok z false)).tmps,.inRegion ops rest::k,false⟩ w):BO C l ⟨fn,tmps,.inRegion ops (i::rest)::k,false⟩ w:=by
 intro R W m' τ hw hm ht hi;obtain⟨fn',bQ,yJ,yB⟩:=m';obtain rfl:=hm.fn;obtain rfl:=hm.todo;obtain rfl:=hm.ret;have lK:(bJ bQ C.ds.ds).eval x=.chan (some c):=V5 hw hK (hx▸Gg (C:=C) hm.tmps rW);have uO:=Ip (C:=C) hm.tmps cD;have hb:(C.ds.base fn).kind≠ .early:=C.ds.ok;have zde:∀vg v' b,VR (SF C.fs) C.K R vg v'->VR (SF C.fs) C.K R (recvd ok vg b) (recvd ok v' b):=λvg v' b h=>by
  unfold recvd
  cases ok with
  |false=>exact h
  |true=>
   simp only[if_true];exact VR.tuple' (by
    have:=bK.empty (S:=SF C.fs) (K:=C.K) (R:=R);exact(this.push h).push (.bool b))
 have goon:∀{l':L} {vg v':aF} {aX:aE},bT C.ty C.Wg τ W aX->VR (SF C.fs) C.K R vg v'->BO C l' ⟨fn,(cC ⟨tmps,[]⟩ o.dst vg).tmps,.inRegion ops rest::k,false⟩ w->
  C.B l' τ (oS (G ((C.ds.base fn).at ⟨bQ,C.ds.ds⟩ (.inRegion ops (i::rest)::k)) C.base) v') aX:=λ{l' vg v' aX} s hv hB=>by
  rw[zaT ho];exact hB R aX _ τ (Cx.Rel.suf (C:=C) hw ht s) ⟨rfl,rfl,rfl,Jj (C:=C) hm.tmps hv,Ix (C:=C) hm.pins lH⟩ ht (hI.suf _ _ _ _ hi s)
 rw[mH,Cx.B_none ha];refine bY.usr rfl ?_;unfold mE;rw[pS];refine⟨rfl,z,ok,λaI s=>?_,λv hv aI s _=>?_,λmG=>?_⟩
 .obtain⟨e1,e2⟩:=zul (p:=C.p) (ρ:=(bJ bQ C.ds.ds).eval) hop Ep jY hz lK aI
  rw[stepG_comm ho uO hb e1];unfold xA;rw[e2,Ce]
 .obtain⟨vg,zkD,hB⟩:=h1 v hv
  have:=goon s (zde _ _ _ (zkD R)) hB;rw[Cx.B_none ha] at this;exact this
 .have:=goon bT.refl (zde _ _ _ (znq R)) (h2 mG)
  rw[Cx.B_none ha] at this;exact this
variable {pub:aF->List Nat}
def BO.send (ha:C.alone=none)(hI:fF C){y:cN}{nx:aF->L}{l':L}
 (ho:ops[i]? =some o) (cD:dD o (dR ops tmps)=true) (hop:o.op=.send x y)
 (rW:dP C.fs x=true) (hx:(bJ tmps []).eval x=.chan (some g)) (hK:C.K g c) (Dl:dP C.fs y=true) (lH:∀s,o.dst=some s->s∉C.S) (pS:C.A.act l=.send c okv pub nx)
 (hv:∀R v',VR (SF C.fs) C.K R ((bJ tmps []).eval y) v'->okv v'/\pub v'=[]/\nx v'=l')
 (h1:BO C l' ⟨fn,(cC ⟨tmps,[]⟩ o.dst aA).tmps,.inRegion ops rest::k,false⟩ w):BO C l ⟨fn,tmps,.inRegion ops (i::rest)::k,false⟩ w:=by
 intro R W m' τ hw hm ht hi;obtain⟨fn',bQ,yJ,yB⟩:=m';obtain rfl:=hm.fn;obtain rfl:=hm.todo;obtain rfl:=hm.ret;have lK:(bJ bQ C.ds.ds).eval x=.chan (some c):=V5 hw hK (hx▸Gg (C:=C) hm.tmps rW);have uO:=Ip (C:=C) hm.tmps cD;have hb:(C.ds.base fn).kind≠ .early:=C.ds.ok;obtain⟨k1,k2,k3⟩:=hv R _ (Gg (C:=C) (d:=C.ds.ds) hm.tmps Dl);rw[mH,Cx.B_none ha];refine bY.usr rfl ?_;unfold mE;rw[pS];refine⟨rfl,_,.tuple #[],τ,λaI s=>?_,k1,λb h=>h,rfl,λb h=>.inl h,(λa ha=>by rw[k2] at ha;cases ha),?_⟩
 .obtain⟨e1,e2⟩:=zsU (p:=C.p) (ρ:=(bJ bQ C.ds.ds).eval) hop lK rfl aI
  rw[stepG_comm ho uO hb e1];unfold xA;rw[e2,Ce]
 .rw[k3,zaT ho]
  rw[<-Cx.B_none ha];exact h1 R W _ τ hw ⟨rfl,rfl,rfl,Jj (C:=C) hm.tmps xO,Ix (C:=C) hm.pins lH⟩ ht hi
end
end Go.Mt
namespace Go.Mt
open Go.Conc
inductive PpL where
 |m0|m1|rv (k:Nat)|wt|sd (k:Nat)|dn
end Go.Mt
namespace Go.Mt
open Go.Conc Go.RowKit Go.Conc.Lib Go.ConcR.Gen
open Go.ConcR (KK wgBlock WgAt stA smA rd wr mk Payload DC0)
section
variable {zB:Type}{P:bR}{ty:aM}{Wg:Nat}{A:jU zB}{Fin:bC->aE->Prop}
def cF.grow_self (τ:cF)(w:aE):τ.grow w w=τ:=by
 obtain⟨a,b,c⟩:=τ;simp only[cF.grow,cF.mk.injEq,and_true];funext x;exact propext ⟨λh=>h.elim id λh=>by omega,.inl⟩
def zW.refl (O:Nat->Prop)(w:aE):zW O w w:=⟨rfl,rfl,rfl,aV _,λ_ _ _=>rfl⟩
variable {main:Bool}{τ:cF}
def bY.running {ph:Ph zB}{d:Nat}{g:bC}{w:aE}(h:bY P ty Wg A Fin main ph d τ g w):g.status=.running:=by
 obtain⟨r,hr⟩:=h;cases r with|mk ι f=>exact hr.1
def bY.goes {ph:Ph zB}{d:Nat}(hl:ph.live):∀(n:Nat) {g:bC} {w:aE},Goes P main (bT ty Wg τ) DC0 (bY P ty Wg A Fin main ph d τ) n g w->bY P ty Wg A Fin main ph d τ g w:=by
 intro n
 induction n with
 |zero=>exact λ{g w} h=>h w (bT.refl)
 |succ n ih=>
  intro g w h;rcases h with h|⟨hs,h⟩
  .exact h w (bT.refl)
  .refine bY.own hs hl λaI s=>?_
   obtain⟨zc6,w',es,hgo,⟨e1,e2⟩,hg⟩:=zjG (h aI s);subst e1 e2;have hb:=ih hg;refine⟨zc6,w',#[],hgo,hb.running,zW.refl _ _,λe he=>by simp at he,?_⟩;rw[cF.grow_self];exact hb
def bY.idles {ph:Ph zB}{d:Nat}(hl:∀{g w},zaq P ty Wg (bY P ty Wg A Fin) main ph d τ g w->Nt P ty Wg (bY P ty Wg A Fin) main ph d τ g w):∀(n:Nat) {g:bC} {w:aE},Goes P main (bT ty Wg τ) DC0 (bY P ty Wg A Fin main ph d τ) n g w->bY P ty Wg A Fin main ph d τ g w:=by
 intro n
 induction n with
 |zero=>exact λ{g w} h=>h w (bT.refl)
 |succ n ih=>
  intro g w h;rcases h with h|⟨hs,h⟩
  .exact h w (bT.refl)
  .refine bY.mk hs (.inl (hl λaI s=>?_))
   obtain⟨zc6,w',es,hgo,⟨e1,e2⟩,hg⟩:=zjG (h aI s);subst e1 e2;have hb:=ih hg;exact⟨zc6,#[],hgo,hb.running,λe he=>by simp at he,hb⟩
variable {m:Mark}
def bY.mark {ph:Ph zB}{d:Nat}(hl:ph.live){g:bC}{w:aE}(hs:g.status=.running){g':bC}(hgo:∀aI,bT ty Wg τ w aI->stepG P main g aI=.go g' aI #[oA m])
 (hm:EvT Wg main τ.own τ.still (oA m)) (hb:∀aI,bT ty Wg τ w aI->bY P ty Wg A Fin main ph (n6 d #[oA m]) τ g' aI):bY P ty Wg A Fin main ph d τ g w:=by
 refine bY.own hs hl λaI s=>⟨g',aI,#[oA m],hgo aI s,(hb aI s).running,zW.refl _ _,λe he=>?_,?_⟩
 .rw[zrp] at he
  subst he;rw[cF.grow_self];exact hm
 .rw[cF.grow_self];exact hb aI s
def bY.imark {l:zB}{d:Nat}{g:bC}{w:aE}(hs:g.status=.running){g':bC}(hgo:∀aI,bT ty Wg τ w aI->stepG P main g aI=.go g' aI #[oA m])
 (hm:oL.mute (oA m)=true) (hb:∀aI,bT ty Wg τ w aI->bY P ty Wg A Fin main (.rel l) (n6 d #[oA m]) τ g' aI):bY P ty Wg A Fin main (.rel l) d τ g w:=by
 refine bY.mk hs (.inl λaI s=>⟨g',#[oA m],hgo aI s,(hb aI s).running,λe he=>?_,hb aI s⟩);rw[zrp] at he;subst he;exact hm
def WgLive.cell0 {w:aE}(h:WgLive ty Wg w):∃v,w.cell? ⟨Wg,0,none⟩=some v:=let⟨_,_,x⟩:=h;⟨_,x.cellSt⟩
def WgLive.cell1 {w:aE}(h:WgLive ty Wg w):∃v,w.cell? ⟨Wg,1,none⟩=some v:=let⟨_,_,x⟩:=h;⟨_,x.cellSm⟩
structure Gs (ty:aM)(Wg:Nat)(τ:cF)(F:aE->Prop):Prop where
 suf:∀w aI,bT ty Wg τ w aI->F w->F aI
 wg:∀w a v,a.block=Wg->F w->F (w.setCell a v)
def Gs.rely {F:aE->Prop}(k:Gs ty Wg τ F){w aI:aE}(h:F w/\WgLive ty Wg w)(s:bT ty Wg τ w aI):F aI/\WgLive ty Wg aI:=⟨k.suf _ _ s h.1,s.live h.2⟩
end
end Go.Mt
namespace Go.Mt
open Go.Conc Go.RowKit Go.Conc.Lib Go.ConcR.Gen
open Go.ConcN.Gen (WgLive.cell0 WgLive.cell1)
open Go.ConcN (st_flag st_waiters)
open Go.ConcR (KK wgBlock WgAt stA smA rd wr mk Payload DC0)
variable [zho]{L:zgr}
section
variable {zB:Type}{P:bR}{Wg:Nat}{A:jU zB}{Fin:bC->aE->Prop}{F:aE->Prop}
 {b₀:dJ} {a₀:tP} {ops₀:Array aZ} {i₀:Nat} {rest₀:List Nat} {k₀:List eF} {cs:List dJ} {τ:cF} {l nx:zB}
def addW (H:Y3 P L)(pS:A.act l=.add nx)(kf:Gs L.tWg Wg τ F)
 (hT:∀w,F w->WgLive L.tWg Wg w->bY P L.tWg Wg A Fin true (.usr nx) 0 τ (G (b₀.at (a₀.put ((ops₀[i₀]?).bind (·.dst)) (.tuple #[])) (.inRegion ops₀ rest₀::k₀)) cs) w)
 (w:aE) (hF:F w/\WgLive L.tWg Wg w):
 bY P L.tWg Wg A Fin true (.usr l) 0 τ (G ((base L.add).at ⟨#[.pointer (some ⟨Wg,0,none⟩),.int .i64 1,aA,aA,aA,aA,aA,aA,aA,aA,aA,aA,aA,aA,aA,aA,aA,aA,aA,aA,aA,aA,aA,aA,aA,aA,aA,aA,aA,aA,aA,aA,aA,aA,aA,aA,aA,aA,aA,aA,aA,aA,aA,aA,aA,aA,aA,aA,aA,aA,aA,aA,aA,aA,aA,aA,aA,aA,aA,aA,aA,aA,aA,aA,aA,aA,aA,aA,aA,aA,aA,aA,aA,aA,aA,aA,aA,aA,aA,aA,aA,aA,aA,aA,aA,aA,aA,aA,aA,aA,aA,aA,aA,aA,aA,aA,aA,aA,aA,aA,aA,aA,aA,aA,aA,aA,aA,aA,aA,aA,aA,aA,aA,aA,aA,aA,aA],[]⟩ [.code (Mi L)]) (b₀.at a₀ (.inRegion ops₀ (i₀::rest₀)::k₀)::cs)) w:=by
 lib_facts
 simp only[Mi,addFn,y6];refine bY.goes (ph:=.usr l) trivial 30 ?_
 iterate 12 (first|u_c dF kf.rely hF|u_c dU kf.rely hF|u_reg kf.rely hF|u_c pI kf.rely hF|u_cond false kf.rely hF|u_cond true kf.rely hF|u_op kf.rely hF)
 refine qD (λaI wI=>?_);replace hF:=kf.rely hF wI;clear wI;refine bY.mark (ph:=.usr l) trivial rfl (λeW s=>zbd .disable aP rfl rfl qZ rfl H.f_disable (zke L) (zkS L) (zlY L) (znB L)) trivial (λeW s=>?_);replace hF:=kf.rely hF s;clear s;rw[show n6 0 #[oA .disable]=1 from rfl]
 walk_nrm
 refine bY.goes (ph:=.usr l) trivial 60 ?_;u_c dF kf.rely hF;u_reg kf.rely hF
 u_defer kf.rely hF
 iterate 8 (first|u_c dF kf.rely hF|u_c dU kf.rely hF|u_reg kf.rely hF|u_op kf.rely hF)
 u_bub kf.rely hF
 iterate 11 (first|u_c dF kf.rely hF|u_c dU kf.rely hF|u_reg kf.rely hF|u_c pI kf.rely hF|u_cond false kf.rely hF|u_op kf.rely hF)
 u_call H.f_uAdd (nm_uAdd L) uAddFn kf.rely hF
 iterate 10 (first|u_c dF kf.rely hF|u_c dU kf.rely hF|u_reg kf.rely hF|u_op kf.rely hF)
 refine qD (λaI wI=>?_);replace hF:=kf.rely hF wI;clear wI;refine bY.usr rfl ?_;unfold mE;rw[pS];intro eW lR v hv hw;replace hF:=kf.rely hF lR;clear lR;rcases Pv v with rfl|zaz
 .replace hw:gD L.tWg Wg eW 0 0:=by simpa using hw
  have z:st (0+1) 0=.int .u64 KK:=by simp[st]
  rw[z];have e0:Sa.wrap (0+4294967296)=KK:=aH;refine⟨_,(Xb rfl rfl qZ rfl H.f_addU64 (Vg L) (Zm L) (Xj L) .u64 (Zo L) rfl rfl hw.cellSt (hw.thaw 0)).trans (by rw[e0];rfl),rfl,?_⟩;replace hF:F (eW.setCell (stA Wg) (.int .u64 KK))/\WgLive L.tWg Wg (eW.setCell (stA Wg) (.int .u64 KK)):=⟨kf.wg _ _ _ rfl hF.1,⟨_,_,hw.setSt _⟩⟩;clear hw;simp only[KK] at hF⊢
  walk_nrm
  refine bY.goes (ph:=.usr nx) trivial 110 ?_
  iterate 3 (first|u_c dF kf.rely hF|u_c wW kf.rely hF|u_op kf.rely hF)
  u_leave1 H.f_uAdd kf.rely hF
  iterate 48 (first|u_c dF kf.rely hF|u_c dU kf.rely hF|u_reg kf.rely hF|u_c pI kf.rely hF|u_cond false kf.rely hF|u_cond true kf.rely hF|u_op kf.rely hF|u_skip kf.rely hF)
  u_conv H.underlying_tPU32 H.room_tU32 (WgLive.cell1 hF.2).choose_spec kf.rely hF
  refine qD (λJl Al=>?_);replace hF:=kf.rely hF Al;clear Al;refine bY.mark (ph:=.usr nx) trivial rfl (λUo s=>zae .read aP rfl rfl qZ rfl H.f_raceRead (x_raceRead_n L) (x_raceRead_b L) (x_raceRead_x L) (x_raceRead_f L) (ad:=⟨Wg,1,none⟩) (by simp[wA])) ⟨rfl,rfl⟩ (λUo s=>?_);replace hF:=kf.rely hF s;clear s;rw[show n6 1 #[oA (.read ⟨Wg,1,none⟩)]=1 from rfl]
  walk_nrm
  refine bY.goes (ph:=.usr nx) trivial 110 ?_
  iterate 39 (first|u_c dF kf.rely hF|u_c dU kf.rely hF|u_reg kf.rely hF|u_c pI kf.rely hF|u_cond false kf.rely hF|u_cond true kf.rely hF|u_c wW kf.rely hF|u_op kf.rely hF|u_skip kf.rely hF)
  refine qD (λJl Al=>?_);replace hF:=kf.rely hF Al;clear Al;refine bY.mark (ph:=.usr nx) trivial rfl (λUo s=>zta (v:=.tuple #[]) (evs:=#[oA .enable]) rfl H.f_enable (zfe L) (zfj L) (zeg L) (zeR L) (by simp[zrx]) (by simp[oA]) (by simp[oA])) trivial (λUo s=>?_);replace hF:=kf.rely hF s;clear s;rw[show n6 1 #[oA .enable]=0 from rfl];refine bY.goes (ph:=.usr nx) trivial 2 ?_
  u_leave0 H.f_add kf.rely hF
  exact qD (λzaL Ho=>hT zaL (kf.rely hF Ho).1 (kf.rely hF Ho).2)
 .obtain⟨V,hV⟩:=aU ((v:Int)+1:Int)
  obtain⟨S,hS⟩:=aU (V*KK:Int);have eS:Sa.wrap ((v:Int)*KK+4294967296)=S:=by rw[zeS,hS,hV];simp only[KK];omega
  have z:st (v+1) 0=.int .u64 S:=by simp[st,hS,hV]
  rw[z];have a1:S/4294967296=V:=by rw[hS];simp only[KK];omega
  have b1:bits .and .u64 S 2147483648=0:=by rw[hS,hV];have:=st_flag (v+1) 0 aC aC;simpa[KK] using this
  have b2:bits .and .u64 S 2147483647=0:=by rw[hS,hV];have:=st_waiters (v+1) 0 aC aC;simpa[KK] using this
  have c1:zw7.wrap V=V:=by rw[zrH];omega
  have zkl:1<V:=aC;have zxA:V<2147483648:=aC;have q1:(V==1)=false:=qR;have q2:decide (V=1)=false:=decide_eq_false aC;have q3:decide (V<0)=false:=decide_eq_false aC;have q4:decide (0<V)=true:=decide_eq_true aC;have q5:(V==0)=false:=qR;have q6:decide (V=0)=false:=decide_eq_false aC;refine⟨_,(Xb rfl rfl qZ rfl H.f_addU64 (Vg L) (Zm L) (Xj L) .u64 (Zo L) rfl rfl hw.cellSt (hw.thaw 0)).trans (by rw[eS];rfl),rfl,?_⟩;replace hF:F (eW.setCell (stA Wg) (.int .u64 S))/\WgLive L.tWg Wg (eW.setCell (stA Wg) (.int .u64 S)):=⟨kf.wg _ _ _ rfl hF.1,⟨_,_,hw.setSt _⟩⟩;clear hw hS hV eS z
  walk_nrm
  refine bY.goes (ph:=.usr nx) trivial 130 ?_
  iterate 3 (first|u_c dF kf.rely hF|u_c wW kf.rely hF|u_op kf.rely hF)
  u_leave1 H.f_uAdd kf.rely hF
  iterate 13 (first|u_c dF kf.rely hF|u_c dU kf.rely hF|u_reg kf.rely hF|u_op kf.rely hF|u_skip kf.rely hF)
  u_cnd false kf.rely hF
  iterate 29 (first|u_c dF kf.rely hF|u_c dU kf.rely hF|u_reg kf.rely hF|u_c pI kf.rely hF|u_op kf.rely hF)
  u_cnd false kf.rely hF
  iterate 7 (first|u_c dF kf.rely hF|u_c dU kf.rely hF|u_reg kf.rely hF|u_c pI kf.rely hF|u_op kf.rely hF)
  u_cnd false kf.rely hF
  iterate 17 (first|u_c dF kf.rely hF|u_c dU kf.rely hF|u_reg kf.rely hF|u_c pI kf.rely hF|u_op kf.rely hF|u_skip kf.rely hF)
  u_cnd false kf.rely hF
  iterate 11 (first|u_c dF kf.rely hF|u_c dU kf.rely hF|u_reg kf.rely hF|u_c pI kf.rely hF|u_op kf.rely hF|u_skip kf.rely hF)
  u_cnd true kf.rely hF
  u_c wW kf.rely hF;refine qD (λJl Al=>?_);replace hF:=kf.rely hF Al;clear Al;refine bY.mark (ph:=.usr nx) trivial rfl (λUo s=>zta (v:=.tuple #[]) (evs:=#[oA .enable]) rfl H.f_enable (zfe L) (zfj L) (zeg L) (zeR L) (by simp[zrx]) (by simp[oA]) (by simp[oA])) trivial (λUo s=>?_);replace hF:=kf.rely hF s;clear s;rw[show n6 1 #[oA .enable]=0 from rfl];refine bY.goes (ph:=.usr nx) trivial 2 ?_
  u_leave0 H.f_add kf.rely hF
  exact qD (λzaL Ho=>hT zaL (kf.rely hF Ho).1 (kf.rely hF Ho).2)
end
end Go.Mt
namespace Go.Mt
open Go.Conc Go.RowKit Go.Conc.Lib Go.ConcR.Gen
open Go.ConcN.Gen (WgLive.cell0 WgLive.cell1)
open Go.ConcN (st_flag st_waiters)
open Go.ConcR (KK wgBlock WgAt stA smA rd wr mk Payload DC0)
variable [zho]{L:zgr}
section
variable {zB:Type}{P:bR}{Wg:Nat}{A:jU zB}{Fin:bC->aE->Prop}{F:aE->Prop}
 {b₀:dJ} {a₀:tP} {ops₀:Array aZ} {i₀:Nat} {rest₀:List Nat} {k₀:List eF} {cs:List dJ} {τ:cF} {l nx:zB}
theorem addNegW (H:Y3 P L)(pS:A.act l=.done)(kf:Gs L.tWg Wg τ F)(tZ:∀w,F w->A.dep l w){qt:Nat}
 (hT:QuitsD P qt 0 (G (b₀.at (a₀.put ((ops₀[i₀]?).bind (·.dst)) (.tuple #[])) (.inRegion ops₀ rest₀::k₀)) cs)) (w:aE) (hF:F w/\WgLive L.tWg Wg w):
 bY P L.tWg Wg A Fin false (.usr l) 0 τ (G ((base L.add).at ⟨#[.pointer (some ⟨Wg,0,none⟩),.int .i64 (-1),aA,aA,aA,aA,aA,aA,aA,aA,aA,aA,aA,aA,aA,aA,aA,aA,aA,aA,aA,aA,aA,aA,aA,aA,aA,aA,aA,aA,aA,aA,aA,aA,aA,aA,aA,aA,aA,aA,aA,aA,aA,aA,aA,aA,aA,aA,aA,aA,aA,aA,aA,aA,aA,aA,aA,aA,aA,aA,aA,aA,aA,aA,aA,aA,aA,aA,aA,aA,aA,aA,aA,aA,aA,aA,aA,aA,aA,aA,aA,aA,aA,aA,aA,aA,aA,aA,aA,aA,aA,aA,aA,aA,aA,aA,aA,aA,aA,aA,aA,aA,aA,aA,aA,aA,aA,aA,aA,aA,aA,aA,aA,aA,aA,aA,aA],[]⟩ [.code (Mi L)]) (b₀.at a₀ (.inRegion ops₀ (i₀::rest₀)::k₀)::cs)) w:=by
 lib_facts
 simp only[Mi,addFn,y6];refine bY.goes (ph:=.usr l) trivial 20 ?_
 iterate 11 (first|u_c dF kf.rely hF|u_c dU kf.rely hF|u_reg kf.rely hF|u_cond true kf.rely hF|u_op kf.rely hF)
 u_conv H.underlying_tWgP H.room_tWg (WgLive.cell0 hF.2).choose_spec kf.rely hF
 refine qD (λaI wI=>?_);replace hF:=kf.rely hF wI;clear wI;refine bY.usr rfl ?_;unfold mE;rw[pS];refine⟨rfl,rfl,λeW s=>tZ _ (kf.rely hF s).1,λeW s=>?_⟩;replace hF:=kf.rely hF s;clear s;refine⟨_,zae .releaseMerge aP rfl rfl qZ rfl H.f_relMerge (x_relMerge_n L) (x_relMerge_b L) (x_relMerge_x L) (x_relMerge_f L) zkA,rfl,?_⟩;refine bY.idles (ph:=.rel l) id 10 ?_
 walk_nrm
 iterate 3 (first|u_c dF kf.rely hF|u_c dU kf.rely hF|u_reg kf.rely hF)
 refine qD (λaI wI=>?_);replace hF:=kf.rely hF wI;clear wI;refine bY.imark rfl (λeW s=>zbd .disable aP rfl rfl qZ rfl H.f_disable (zke L) (zkS L) (zlY L) (znB L)) rfl (λeW s=>?_);replace hF:=kf.rely hF s;clear s;rw[show n6 0 #[oA .disable]=1 from rfl];refine bY.idles (ph:=.rel l) id 50 ?_
 walk_nrm
 u_c dF kf.rely hF;u_reg kf.rely hF
 u_defer kf.rely hF
 iterate 8 (first|u_c dF kf.rely hF|u_c dU kf.rely hF|u_reg kf.rely hF|u_op kf.rely hF)
 u_bub kf.rely hF
 iterate 11 (first|u_c dF kf.rely hF|u_c dU kf.rely hF|u_reg kf.rely hF|u_c pI kf.rely hF|u_cond false kf.rely hF|u_op kf.rely hF)
 u_call H.f_uAdd (nm_uAdd L) uAddFn kf.rely hF
 iterate 10 (first|u_c dF kf.rely hF|u_c dU kf.rely hF|u_reg kf.rely hF|u_op kf.rely hF)
 refine qD (λzef zg7=>?_);replace hF:=kf.rely hF zg7;clear zg7;refine bY.mk rfl (.inr ?_);intro aI jA v wt cD hv hw;replace hF:=kf.rely hF jA;clear jA;have e0:Sa.wrap (KK+18446744069414584320)=0:=aH;have e1:Sa.wrap (KK+1+18446744069414584320)=1:=aH;rcases Pv v with rfl|zaz<;>(obtain rfl|rfl:wt=0\/wt=1:=by omega)
 .
  replace hw:gD L.tWg Wg aI KK 0:=by simpa using hw
  have z:Mt.st 0 0=.int .u64 0:=by simp[Mt.st]
  rw[z];refine⟨_,(Xb rfl rfl qZ rfl H.f_addU64 (Vg L) (Zm L) (Xj L) .u64 (Zo L) rfl rfl hw.cellSt (hw.thaw 0)).trans (by rw[e0];rfl),rfl,aH,λhl=>absurd hl.2 aH,λ_=>⟨qt+89,?_⟩⟩;clear hw
  walk_nrm
  q_val (.int .u64 0)
  q_c dF
  q_c wW
  q_leave1 H.f_uAdd
  q_val (.int .u64 0)
  q_c dF
  q_c dU
  q_c dU
  q_reg
  q_val (.int .u64 0)
  q_val (.int .u64 0)
  q_val (.bool false)
  q_val (.bool false)
  q_skip
  q_skip
  q_val (.bool false)
  q_c dF
  q_cond false
  q_c pI
  q_c dU
  q_reg
  q_val (.int .u64 0)
  q_val (.int .u64 0)
  q_val (.int .i32 0)
  q_val (.int .i32 0)
  q_c dF
  q_c dU
  q_reg
  q_val (.int .u64 0)
  q_val (.int .u64 0)
  q_val (.int .u32 0)
  q_val (.int .u32 0)
  q_c dF
  q_c dU
  q_c dU
  q_reg
  q_val (.bool true)
  q_val (.int .i64 (-1))
  q_val (.bool false)
  q_val (.bool false)
  q_val (.bool false)
  q_skip
  q_skip
  q_skip
  q_skip
  q_val (.bool false)
  q_c dF
  q_cond false
  q_c pI
  q_c dU
  q_c dU
  q_reg
  q_val (.int .i32 0)
  q_val (.bool false)
  q_c dF
  q_cond false
  q_c pI
  q_c dU
  q_c dU
  q_reg
  q_val (.int .u32 0)
  q_val (.bool false)
  q_val (.bool false)
  q_skip
  q_skip
  q_val (.bool false)
  q_val (.bool false)
  q_skip
  q_skip
  q_skip
  q_skip
  q_val (.bool false)
  q_c dF
  q_cond false
  q_c pI
  q_c dU
  q_c dU
  q_reg
  q_val (.int .i32 0)
  q_val (.bool false)
  q_val (.bool false)
  q_val (.int .u32 0)
  q_val (.bool true)
  q_val (.bool true)
  q_c dF
  q_cond true
  q_c wW
  q_enable
  q_leave0 H.f_add
  exact hT
 .
  replace hw:gD L.tWg Wg aI (KK+1) 0:=by simpa using hw
  have z:Mt.st 0 1=.int .u64 1:=by simp[Mt.st]
  rw[z];refine⟨_,(Xb rfl rfl qZ rfl H.f_addU64 (Vg L) (Zm L) (Xj L) .u64 (Zo L) rfl rfl hw.cellSt (hw.thaw 0)).trans (by rw[e1];rfl),rfl,aH,λ_=>?_,λhl=>absurd ⟨rfl,rfl⟩ hl⟩;replace hF:F (aI.setCell (stA Wg) (.int .u64 1))/\WgLive L.tWg Wg (aI.setCell (stA Wg) (.int .u64 1)):=⟨kf.wg _ _ _ rfl hF.1,⟨_,_,hw.setSt 1⟩⟩;clear hw;refine bY.idles (ph:=.l1 l) id 120 ?_
  walk_nrm
  iterate 3 (first|u_c dF kf.rely hF|u_c wW kf.rely hF|u_op kf.rely hF)
  u_leave1 H.f_uAdd kf.rely hF
  iterate 89 (first|u_c dF kf.rely hF|u_c dU kf.rely hF|u_reg kf.rely hF|u_c pI kf.rely hF|u_cond false kf.rely hF|u_op kf.rely hF|u_skip kf.rely hF)
  u_call H.f_uLoad (zj1 L) uLoadFn kf.rely hF
  iterate 9 (first|u_c dF kf.rely hF|u_c dU kf.rely hF|u_reg kf.rely hF|u_op kf.rely hF)
  refine qD (λeW Ud=>?_);replace hF:=kf.rely hF Ud;clear Ud;refine bY.mk rfl (.inr ?_);intro Jl s hw;replace hF:=kf.rely hF s;clear s;refine⟨_,zhl rfl rfl qZ rfl H.f_loadU64 (zgt L) (zgh L) (zgR L) .u64 (zgk L) rfl hw.cellSt,rfl,aH,?_⟩;clear hw;refine bY.idles (ph:=.l2 l) id 40 ?_
  walk_nrm
  iterate 3 (first|u_c dF kf.rely hF|u_c wW kf.rely hF|u_op kf.rely hF)
  u_leave1 H.f_uLoad kf.rely hF
  iterate 10 (first|u_c dF kf.rely hF|u_c dU kf.rely hF|u_reg kf.rely hF|u_c pI kf.rely hF|u_cond false kf.rely hF|u_op kf.rely hF)
  u_call H.f_uStore (nm_uStore L) uStoreFn kf.rely hF
  iterate 5 (first|u_reg kf.rely hF|u_op kf.rely hF)
  refine qD (λeW Al=>?_);replace hF:=kf.rely hF Al;clear Al;refine bY.mk rfl (.inr ?_);intro Jl s hw;replace hF:=kf.rely hF s;clear s;have z0:Mt.st 0 0=.int .u64 0:=by simp[Mt.st]
  rw[z0];refine⟨_,stepG_store_atomic rfl rfl qZ rfl H.f_storeU64 (x_storeU64_n L) (x_storeU64_b L) (x_storeU64_x L) (x_storeU64_f L) rfl rfl hw.cellSt (hw.thaw 0),rfl,aH,?_⟩;replace hF:F (Jl.setCell (stA Wg) (.int .u64 0))/\WgLive L.tWg Wg (Jl.setCell (stA Wg) (.int .u64 0)):=⟨kf.wg _ _ _ rfl hF.1,⟨_,_,hw.setSt 0⟩⟩;clear hw z0;refine bY.idles (ph:=.l3 l) id 50 ?_
  walk_nrm
  u_c dF kf.rely hF;u_c zd2 kf.rely hF
  u_leave0 H.f_uStore kf.rely hF
  iterate 24 (first|u_c dF kf.rely hF|u_c dU kf.rely hF|u_reg kf.rely hF|u_c pI kf.rely hF|u_cond false kf.rely hF|u_cond true kf.rely hF|u_c zeO kf.rely hF|u_c zkx kf.rely hF|u_op kf.rely hF)
  refine qD (λeW ze5=>?_);clear ze5 hF;refine bY.mk rfl (.inr ⟨mayWake_entry rfl rfl H.f_semrelease (ztu L),λUo s hw=>?_⟩);clear s;refine⟨_,(stepG_semrelease rfl rfl qZ rfl H.f_semrelease (x_semrelease_n L) (ztu L) (x_semrelease_x L) (x_semrelease_f L) zje hw.cellSm (hw.thaw 1)).trans Ks,rfl,aH,qt+19,?_⟩;clear hw
  walk_nrm
  q_c dF
  q_c zmq
  q_reg
  q_val (.int .u32 1)
  q_val (.int .u32 0)
  q_val (.int .u32 0)
  q_c dF
  q_c zkB
  q_c dU
  q_c dU
  q_reg
  q_val (.int .u32 0)
  q_val (.bool false)
  q_c dF
  q_cond false
  q_exit
  q_c zd2
  q_enable
  q_leave0 H.f_add
  exact hT
 .
  replace hw:gD L.tWg Wg aI (((v:Nat)+1)*KK+0) 0:=by simpa using hw
  have z:Mt.st v 0=.int .u64 ((v:Int)*KK+0):=by simp[Mt.st]
  rw[z];have fI:0<v:=aC;have eS:Sa.wrap (((v:Nat)+1)*KK+0+18446744069414584320)=(v:Int)*KK+0:=by rw[zeS];simp only[KK];omega
  obtain⟨S,hS⟩:=aU ((v:Int)*KK+0:Int);rw[<-hS] at eS⊢;have a1:S/4294967296=(v:Int):=by rw[hS];simp only[KK];omega
  have a2:0<=S/\S<9223372036854775808:=by rw[hS];simp only[KK];omega
  have b1:bits .and .u64 S 2147483648=0:=by rw[hS];have:=st_flag v 0 aC aC;simpa[KK] using this
  have b2:bits .and .u64 S 2147483647=0:=by rw[hS];have:=st_waiters v 0 aC aC;simpa[KK] using this
  clear hS z;refine⟨_,(Xb rfl rfl qZ rfl H.f_addU64 (Vg L) (Zm L) (Xj L) .u64 (Zo L) rfl rfl hw.cellSt (hw.thaw 0)).trans (by rw[eS];rfl),rfl,aH,λhl=>absurd hl.1 aC,λ_=>⟨qt+89,?_⟩⟩;clear hw
  walk_nrm
  q_vn (.int .u64 S)
  q_c dF
  q_c wW
  q_leave1 H.f_uAdd
  q_vn (.int .u64 S)
  q_c dF
  q_c dU
  q_c dU
  q_reg
  q_vn (.int .u64 S)
  q_vn (.int .u64 0)
  q_vn (.bool false)
  q_vn (.bool false)
  q_skip
  q_skip
  q_vn (.bool false)
  q_c dF
  q_cond false
  q_c pI
  q_c dU
  q_reg
  q_vn (.int .u64 S)
  q_vn (.int .u64 (v:Int))
  q_vn (.int .i32 (v:Int))
  q_vn (.int .i32 (v:Int))
  q_c dF
  q_c dU
  q_reg
  q_vn (.int .u64 S)
  q_vn (.int .u64 0)
  q_vn (.int .u32 0)
  q_vn (.int .u32 0)
  q_c dF
  q_c dU
  q_c dU
  q_reg
  q_vn (.bool true)
  q_vn (.int .i64 (-1))
  q_vn (.bool false)
  q_vn (.bool false)
  q_vn (.bool false)
  q_skip
  q_skip
  q_skip
  q_skip
  q_vn (.bool false)
  q_c dF
  q_cond false
  q_c pI
  q_c dU
  q_c dU
  q_reg
  q_vn (.int .i32 (v:Int))
  q_vn (.bool false)
  q_c dF
  q_cond false
  q_c pI
  q_c dU
  q_c dU
  q_reg
  q_vn (.int .u32 0)
  q_vn (.bool false)
  q_vn (.bool false)
  q_skip
  q_skip
  q_vn (.bool false)
  q_vn (.bool false)
  q_skip
  q_skip
  q_skip
  q_skip
  q_vn (.bool false)
  q_c dF
  q_cond false
  q_c pI
  q_c dU
  q_c dU
  q_reg
  q_vn (.int .i32 (v:Int))
  q_vn (.bool true)
  q_vn (.bool true)
  q_skip
  q_skip
  q_vn (.bool true)
  q_c dF
  q_cond true
  q_c wW
  q_enable
  q_leave0 H.f_add
  exact hT
 .
  replace hw:gD L.tWg Wg aI (((v:Nat)+1)*KK+1) 0:=by simpa using hw
  have z:Mt.st v 1=.int .u64 ((v:Int)*KK+1):=by simp[Mt.st]
  rw[z];have fI:0<v:=aC;have eS:Sa.wrap (((v:Nat)+1)*KK+1+18446744069414584320)=(v:Int)*KK+1:=by rw[zeS];simp only[KK];omega
  obtain⟨S,hS⟩:=aU ((v:Int)*KK+1:Int);rw[<-hS] at eS⊢;have a1:S/4294967296=(v:Int):=by rw[hS];simp only[KK];omega
  have a2:0<=S/\S<9223372036854775808:=by rw[hS];simp only[KK];omega
  have b1:bits .and .u64 S 2147483648=0:=by rw[hS];have:=st_flag v 1 aC aC;simpa[KK] using this
  have b2:bits .and .u64 S 2147483647=1:=by rw[hS];have:=st_waiters v 1 aC aC;simpa[KK] using this
  clear hS z;refine⟨_,(Xb rfl rfl qZ rfl H.f_addU64 (Vg L) (Zm L) (Xj L) .u64 (Zo L) rfl rfl hw.cellSt (hw.thaw 0)).trans (by rw[eS];rfl),rfl,aH,λhl=>absurd hl.1 aC,λ_=>⟨qt+89,?_⟩⟩;clear hw
  walk_nrm
  q_vn (.int .u64 S)
  q_c dF
  q_c wW
  q_leave1 H.f_uAdd
  q_vn (.int .u64 S)
  q_c dF
  q_c dU
  q_c dU
  q_reg
  q_vn (.int .u64 S)
  q_vn (.int .u64 0)
  q_vn (.bool false)
  q_vn (.bool false)
  q_skip
  q_skip
  q_vn (.bool false)
  q_c dF
  q_cond false
  q_c pI
  q_c dU
  q_reg
  q_vn (.int .u64 S)
  q_vn (.int .u64 (v:Int))
  q_vn (.int .i32 (v:Int))
  q_vn (.int .i32 (v:Int))
  q_c dF
  q_c dU
  q_reg
  q_vn (.int .u64 S)
  q_vn (.int .u64 1)
  q_vn (.int .u32 1)
  q_vn (.int .u32 1)
  q_c dF
  q_c dU
  q_c dU
  q_reg
  q_vn (.bool true)
  q_vn (.int .i64 (-1))
  q_vn (.bool false)
  q_vn (.bool false)
  q_vn (.bool false)
  q_skip
  q_skip
  q_skip
  q_skip
  q_vn (.bool false)
  q_c dF
  q_cond false
  q_c pI
  q_c dU
  q_c dU
  q_reg
  q_vn (.int .i32 (v:Int))
  q_vn (.bool false)
  q_c dF
  q_cond false
  q_c pI
  q_c dU
  q_c dU
  q_reg
  q_vn (.int .u32 1)
  q_vn (.bool true)
  q_vn (.bool true)
  q_vn (.int .i64 (-1))
  q_vn (.bool false)
  q_vn (.bool false)
  q_vn (.bool false)
  q_skip
  q_skip
  q_skip
  q_skip
  q_vn (.bool false)
  q_c dF
  q_cond false
  q_c pI
  q_c dU
  q_c dU
  q_reg
  q_vn (.int .i32 (v:Int))
  q_vn (.bool true)
  q_vn (.bool true)
  q_skip
  q_skip
  q_vn (.bool true)
  q_c dF
  q_cond true
  q_c wW
  q_enable
  q_leave0 H.f_add
  exact hT
def doneW (H:Y3 P L)(pS:A.act l=.done)(kf:Gs L.tWg Wg τ F)(tZ:∀w,F w->A.dep l w){c:dJ}{cs:List dJ}{qt:Nat}
 (sD:c.mode=.returning) (hT:QuitsD P qt 0 (G c cs)) (w:aE) (hF:F w/\WgLive L.tWg Wg w):
 bY P L.tWg Wg A Fin false (.usr l) 0 τ (G ((baseD L.done).at ⟨#[.pointer (some ⟨Wg,0,none⟩),aA,aA,aA],[]⟩ [.code (body_done L)]) (c::cs)) w:=by
 lib_facts
 have hA:=@addNegW _ L _ P Wg A Fin F;simp only[body_done,Mi,doneFn,addFn,y6] at hA⊢;refine bY.goes (ph:=.usr l) trivial 23 ?_;u_reg kf.rely hF;u_op kf.rely hF
 u_in kf.rely hF
 refine goes_call rfl rfl qZ rfl H.f_add (nm_add L) rfl ⟨by u_nil,?_⟩
 walk_nrmf addFn
 refine qD (λaI wI=>?_);refine hA H pS kf tZ (qt:=qt+3) ?_ _ (kf.rely hF wI)
 q_c dF
 q_c zd2
 exact QuitsD.leaveD rfl rfl H.f_done rfl sD hT
end
end Go.Mt
namespace Go.Mt
open Go.Conc Go.RowKit Go.Conc.Lib Go.ConcR.Gen
open Go.ConcN.Gen (WgLive.cell0 WgLive.cell1 AnchWN)
open Go.ConcN (st_flag st_waiters)
open Go.ConcR (KK wgBlock WgAt stA smA rd wr mk Payload DC0)
variable [zho]{L:zgr}
section
variable {zB:Type}{P:bR}{Wg:Nat}{A:jU zB}{Fin:bC->aE->Prop}{F:aE->Prop}
 {b₀:dJ} {a₀:tP} {ops₀:Array aZ} {i₀:Nat} {rest₀:List Nat} {k₀:List eF} {cs:List dJ} {τ:cF} {l nx:zB}
def AtX (W w:aE):Prop:=∃d,w=W.at d
def x5 {W w aI:aE}(h:AtX W w)(r:AtRel w aI):AtX W aI:=by
 obtain⟨d,rfl⟩:=h;obtain⟨d',rfl⟩:=r;exact⟨d',rfl⟩
def zat (A:jU zB)(w:aE):Prop:=∃q ch,A.Inv q ch/\q 0=.waits/\(∀i l,q i≠ .run l)/\∀i l,q i=.over l->A.dep l w
def zo4 (H:Y3 P L)(kf:Gs L.tWg Wg τ F)(Mp:∀(n:Nat) g w,Goes P true AtRel DC0 Fin n g w->Fin g w)
 (hT:∀w,F w->WgLive L.tWg Wg w->zat A w->∀d,Fin (G (b₀.at (a₀.put ((ops₀[i₀]?).bind (·.dst)) (.tuple #[])) (.inRegion ops₀ rest₀::k₀)) cs) (w.at d))
 {ok:Nat->Prop} {ph:Ph zB} (hl:ph.live)
 (xG:∀g w,g.status=.running->(∀aI,bT L.tWg Wg τ w aI->∀v:Nat,ok v->v<2147483648->gD L.tWg Wg aI (v*KK) 0->∃g',stepG P true g aI=.go g' aI #[rd (stA Wg)]/\g'.status=.running/\
  (v=0->bY P L.tWg Wg A Fin true .w5 1 τ g' aI)/\(v≠0->bY P L.tWg Wg A Fin true (.w2 v) 1 τ g' aI))->bY P L.tWg Wg A Fin true ph 1 τ g w)
 (hC:∀v,ok v->∀g w,AnchWN L F Wg (b₀.at a₀ (.inRegion ops₀ (i₀::rest₀)::k₀)) cs g w->bY P L.tWg Wg A Fin true (.w1 v) 1 τ g w)
 (g:bC) (w:aE) (h:AnchWN L F Wg (b₀.at a₀ (.inRegion ops₀ (i₀::rest₀)::k₀)) cs g w):bY P L.tWg Wg A Fin true ph 1 τ g w:=by
 lib_facts
 obtain⟨T,rfl,zGy,t0,hF⟩:=h;obtain⟨v0,v1,v2,v3,v4,v5,v6,v7,v8,v9,v10,v11,v12,zMm,zLs,zLZ,zMc,zK7,zMt,zLG,v20,v21,zMP,zLI,v24,zJO,zKt,zKf,v28,zMG,v30,v31,zLA,zMp,zM1,zMB,zLo,v37,zJ2,zMy,v40,zMJ,zKp,zLm,zK9,zKB,v46,zJ1,zL6,v49,zMU,v51,zMN,v53,zKY,zMk,zLT,zKW,zMu,v59,zL8,zKn,zMj,zMi,zMv,zMb,zJP,zKN,zJ8,zL4,v70,zLn,v72,zL9,zLJ,v75,v76,zKw,zMg,zLt,v80,zKT,zMW,zKy,rfl⟩:=array84 T zGy;simp only[List.getElem?_toArray,List.getElem?_cons_zero,fY] at t0;subst t0;refine bY.goes hl 30 ?_;simp only[L7,zjt,waitFn,y6]
 iterate 6 (first|u_c dU kf.rely hF|u_reg kf.rely hF|u_c zeO kf.rely hF|u_op kf.rely hF)
 u_call H.f_uLoad (zj1 L) uLoadFn kf.rely hF
 iterate 9 (first|u_c dF kf.rely hF|u_c dU kf.rely hF|u_reg kf.rely hF|u_op kf.rely hF)
 refine qD (λzef wI=>?_);replace hF:=kf.rely hF wI;clear wI;refine xG _ _ rfl ?_;intro aI s v bV hv hw;replace hF:=kf.rely hF s;clear s;rcases Pv v with rfl|zaz
 .
  replace hw:gD L.tWg Wg aI 0 0:=by simpa using hw
  refine⟨_,zhl (v:=0) rfl rfl qZ rfl H.f_loadU64 (zgt L) (zgh L) (zgR L) .u64 (zgk L) rfl hw.cellSt,rfl,λ_=>?_,λh=>absurd rfl h⟩;clear hw;refine bY.goes (ph:=.w5) trivial 60 ?_
  walk_nrm
  iterate 3 (first|u_c dF kf.rely hF|u_c wW kf.rely hF|u_op kf.rely hF)
  u_leave1 H.f_uLoad kf.rely hF
  iterate 27 (first|u_c dF kf.rely hF|u_c dU kf.rely hF|u_reg kf.rely hF|u_cond true kf.rely hF|u_op kf.rely hF)
  refine qD (λzaL Ho=>?_);replace hF:=kf.rely hF Ho;clear Ho;refine bY.mark (ph:=.w5) trivial rfl (λeW s=>zbd .enable aP rfl rfl qZ rfl H.f_enable (zfe L) (zfj L) (zeg L) (zeR L)) trivial (λeW s=>?_);replace hF:=kf.rely hF s;clear s;rw[show n6 1 #[oA .enable]=0 from rfl];refine bY.goes (ph:=.w5) trivial 30 ?_
  walk_nrm
  iterate 3 (first|u_c dF kf.rely hF|u_reg kf.rely hF|u_op kf.rely hF)
  u_conv H.underlying_tWgP H.room_tWg (WgLive.cell0 hF.2).choose_spec kf.rely hF
  refine qD (λzy9 zdk=>?_);replace hF:=kf.rely hF zdk;clear zdk;refine bY.mk rfl (.inr ⟨rfl,λSz s hD=>?_⟩);replace hF:=kf.rely hF s;clear s;have hX:AtX Sz Sz:=⟨Sz.drawn,rfl⟩;refine⟨_,zae .acquire aP rfl rfl qZ rfl H.f_acquire (x_acquire_n L) (x_acquire_b L) (x_acquire_x L) (x_acquire_f L) zkA,rfl,?_⟩;refine Mp 30 _ _ ?_
  walk_nrm
  iterate 19 (first|u_c dF x5 hX|u_c dU x5 hX|u_reg x5 hX|u_c pI x5 hX|u_cond false x5 hX|u_c wW x5 hX|u_op x5 hX|u_skip x5 hX)
  u_leave0 H.f_wait x5 hX
  exact qD (λzEJ h=>by obtain⟨znk,rfl⟩:=x5 hX h;exact hT _ hF.1 hF.2 hD znk)
 .
  obtain⟨S,hS⟩:∃S:Int,(v:Int)*KK=S:=⟨_,rfl⟩;have a1:S/4294967296=(v:Int):=by rw[<-hS];simp only[KK];omega
  have b1:bits .and .u64 S 2147483648=0:=by rw[<-hS];have:=st_flag v 0 aC aC;simpa[KK] using this
  have b2:bits .and .u64 S 2147483647=0:=by rw[<-hS];have:=st_waiters v 0 aC aC;simpa[KK] using this
  have c1:zw7.wrap (v:Int)=(v:Int):=by rw[zrH];omega
  have w1:Sa.wrap (S+1)=S+1:=by rw[zeS,<-hS];simp only[KK];omega
  have q3:decide ((v:Int)<0)=false:=decide_eq_false aC;have q4:decide (0<(v:Int))=true:=decide_eq_true aC;have q5:((v:Int)==0)=false:=qR;have q6:decide ((v:Int)=0)=false:=decide_eq_false aC;rw[hS] at hw;refine⟨_,zhl (v:=S) rfl rfl qZ rfl H.f_loadU64 (zgt L) (zgh L) (zgR L) .u64 (zgk L) rfl hw.cellSt,rfl,λh0=>absurd h0 aC,λ_=>?_⟩;clear hw;refine bY.goes (ph:=.w2 v) trivial 60 ?_
  walk_nrm
  iterate 3 (first|u_c dF kf.rely hF|u_c wW kf.rely hF|u_op kf.rely hF)
  u_leave1 H.f_uLoad kf.rely hF
  iterate 22 (first|u_c dF kf.rely hF|u_c dU kf.rely hF|u_reg kf.rely hF|u_op kf.rely hF)
  u_cnd false kf.rely hF
  iterate 9 (first|u_c dU kf.rely hF|u_reg kf.rely hF|u_c pI kf.rely hF|u_op kf.rely hF)
  u_call H.f_uCas (nm_uCas L) uCasFn kf.rely hF
  iterate 11 (first|u_c dF kf.rely hF|u_c dU kf.rely hF|u_reg kf.rely hF|u_op kf.rely hF)
  refine qD (λzef Ud=>?_);replace hF:=kf.rely hF Ud;clear Ud;refine bY.mk rfl (.inr ?_);intro eW s v' J2 hw;replace hF:=kf.rely hF s;clear s;refine⟨λe=>?_,λe=>?_⟩
  .
   subst e;have z:Mt.st v' 1=.int .u64 (S+1):=by simp[Mt.st,hS]
   rw[hS] at hw;rw[z];refine⟨_,(stepG_cas_hit (v:=S) (n:=S+1) rfl rfl qZ rfl H.f_casU64 (x_casU64_n L) (x_casU64_b L) (x_casU64_x L) .u64 (x_casU64_f L) rfl rfl rfl hw.cellSt (hw.thaw 0)).trans Ks,rfl,?_⟩;refine bY.goes (ph:=.w3) trivial 70 ?_;replace hF:F (eW.setCell (stA Wg) (.int .u64 (S+1)))/\WgLive L.tWg Wg (eW.setCell (stA Wg) (.int .u64 (S+1))):=⟨kf.wg _ _ _ rfl hF.1,⟨_,_,hw.setSt _⟩⟩;clear hw
   walk_nrm
   iterate 3 (first|u_c dF kf.rely hF|u_c wW kf.rely hF|u_op kf.rely hF)
   u_leave1 H.f_uCas kf.rely hF
   iterate 15 (first|u_c dF kf.rely hF|u_c dU kf.rely hF|u_reg kf.rely hF|u_cond true kf.rely hF|u_op kf.rely hF)
   u_conv H.underlying_tPU32 H.room_tU32 (WgLive.cell1 hF.2).choose_spec kf.rely hF
   refine qD (λzK0 zsj=>?_);replace hF:=kf.rely hF zsj;clear zsj;refine bY.mark (ph:=.w3) trivial rfl (λeW s=>zae .write aP rfl rfl qZ rfl H.f_raceWrite (x_raceWrite_n L) (x_raceWrite_b L) (x_raceWrite_x L) (x_raceWrite_f L) (ad:=⟨Wg,1,none⟩) (by simp[wA])) ⟨rfl,rfl⟩ (λeW s=>?_);replace hF:=kf.rely hF s;clear s;rw[show n6 1 #[oA (.write ⟨Wg,1,none⟩)]=1 from rfl]
   walk_nrm
   refine bY.goes (ph:=.w3) trivial 70 ?_
   iterate 23 (first|u_c dF kf.rely hF|u_c dU kf.rely hF|u_reg kf.rely hF|u_c pI kf.rely hF|u_cond false kf.rely hF|u_op kf.rely hF|u_skip kf.rely hF)
   refine qD (λzef Al=>?_);replace hF:=kf.rely hF Al;clear Al;refine bY.mk rfl (.inr ⟨rfl,λJl s=>?_⟩);replace hF:=kf.rely hF s;clear s;refine⟨λ⟨st,hw⟩=>stepG_semacquire_wait rfl rfl rfl H.f_semacquire (zrZ L) (zpv L) (zx1 L) (zsB L) zje hw.cellSm,λhf=>?_⟩;refine⟨_,(stepG_semacquire (n:=1) rfl rfl qZ rfl H.f_semacquire (zrZ L) (zpv L) (zx1 L) (zsB L) zje hf.cellSm qZ (hf.thaw 1)).trans Ks,rfl,?_⟩;refine bY.goes (ph:=.w4) trivial 60 ?_;replace hF:F (Jl.setCell (smA Wg) (.int .u32 0))/\WgLive L.tWg Wg (Jl.setCell (smA Wg) (.int .u32 0)):=⟨kf.wg _ _ _ rfl hF.1,⟨_,_,hf.setSm 0⟩⟩;clear hf
   walk_nrm
   iterate 6 (first|u_c dF kf.rely hF|u_c dU kf.rely hF|u_reg kf.rely hF|u_op kf.rely hF)
   u_call H.f_uLoad (zj1 L) uLoadFn kf.rely hF
   iterate 9 (first|u_c dF kf.rely hF|u_c dU kf.rely hF|u_reg kf.rely hF|u_op kf.rely hF)
   refine qD (λzef ze5=>?_);replace hF:=kf.rely hF ze5;clear ze5;refine bY.mk rfl (.inr λUo s hw=>?_);replace hF:=kf.rely hF s;clear s;refine⟨_,zhl (v:=0) rfl rfl qZ rfl H.f_loadU64 (zgt L) (zgh L) (zgR L) .u64 (zgk L) rfl hw.cellSt,rfl,?_⟩;clear hw;refine bY.goes (ph:=.w5) trivial 60 ?_
   walk_nrm
   iterate 3 (first|u_c dF kf.rely hF|u_c wW kf.rely hF|u_op kf.rely hF)
   u_leave1 H.f_uLoad kf.rely hF
   iterate 7 (first|u_c dF kf.rely hF|u_c dU kf.rely hF|u_reg kf.rely hF|u_cond true kf.rely hF|u_op kf.rely hF)
   refine qD (λzaL Ho=>?_);replace hF:=kf.rely hF Ho;clear Ho;refine bY.mark (ph:=.w5) trivial rfl (λeW s=>zbd .enable aP rfl rfl qZ rfl H.f_enable (zfe L) (zfj L) (zeg L) (zeR L)) trivial (λeW s=>?_);replace hF:=kf.rely hF s;clear s;rw[show n6 1 #[oA .enable]=0 from rfl];refine bY.goes (ph:=.w5) trivial 30 ?_
   walk_nrm
   iterate 3 (first|u_c dF kf.rely hF|u_reg kf.rely hF|u_op kf.rely hF)
   u_conv H.underlying_tWgP H.room_tWg (WgLive.cell0 hF.2).choose_spec kf.rely hF
   refine qD (λzy9 zdk=>?_);replace hF:=kf.rely hF zdk;clear zdk;refine bY.mk rfl (.inr ⟨rfl,λSz s hD=>?_⟩);replace hF:=kf.rely hF s;clear s;have hX:AtX Sz Sz:=⟨Sz.drawn,rfl⟩;refine⟨_,zae .acquire aP rfl rfl qZ rfl H.f_acquire (x_acquire_n L) (x_acquire_b L) (x_acquire_x L) (x_acquire_f L) zkA,rfl,?_⟩;refine Mp 30 _ _ ?_
   walk_nrm
   iterate 9 (first|u_c dF x5 hX|u_c dU x5 hX|u_reg x5 hX|u_c pI x5 hX|u_cond false x5 hX|u_c wW x5 hX|u_op x5 hX)
   u_leave0 H.f_wait x5 hX
   exact qD (λzEJ h=>by obtain⟨znk,rfl⟩:=x5 hX h;exact hT _ hF.1 hF.2 hD znk)
  .
   refine⟨_,stepG_cas_miss (v:=(v':Int)*KK) (old:=S) (n:=S+1) rfl rfl qZ rfl H.f_casU64 (x_casU64_n L) (x_casU64_b L) (x_casU64_x L) .u64 (x_casU64_f L) rfl rfl rfl hw.cellSt (hw.thaw 0) (by rw[<-hS];simp only[KK];omega),rfl,?_⟩;clear hw;refine bY.goes (ph:=.w1 v) trivial 20 ?_
   walk_nrm
   iterate 3 (first|u_c dF kf.rely hF|u_c wW kf.rely hF|u_op kf.rely hF)
   u_leave1 H.f_uCas kf.rely hF
   iterate 5 (first|u_c dF kf.rely hF|u_c pI kf.rely hF|u_cond false kf.rely hF|u_c zkB kf.rely hF|u_c zmq kf.rely hF)
   exact qD (λJl Al=>hC v bV _ _ ⟨_,rfl,aP,aP,kf.rely hF Al⟩)
def zEy (H:Y3 P L)(kf:Gs L.tWg Wg τ F)(Mp:∀(n:Nat) g w,Goes P true AtRel DC0 Fin n g w->Fin g w)
 (hT:∀w,F w->WgLive L.tWg Wg w->zat A w->∀d,Fin (G (b₀.at (a₀.put ((ops₀[i₀]?).bind (·.dst)) (.tuple #[])) (.inRegion ops₀ rest₀::k₀)) cs) (w.at d)):
 ∀b g w,AnchWN L F Wg (b₀.at a₀ (.inRegion ops₀ (i₀::rest₀)::k₀)) cs g w->bY P L.tWg Wg A Fin true (.w1 b) 1 τ g w:=by
 intro b
 induction b using zj7 with
 |ind b ih=>exact zo4 H kf Mp hT (ok:=λv=>v<b) trivial (λg w hr h=>bY.mk hr (.inr h)) ih
def zbF (H:Y3 P L)(pS:A.act l=.wait)(kf:Gs L.tWg Wg τ F)(Mp:∀(n:Nat) g w,Goes P true AtRel DC0 Fin n g w->Fin g w)
 (hT:∀w,F w->WgLive L.tWg Wg w->zat A w->∀d,Fin (G (b₀.at (a₀.put ((ops₀[i₀]?).bind (·.dst)) (.tuple #[])) (.inRegion ops₀ rest₀::k₀)) cs) (w.at d))
 (w:aE) (hF:F w/\WgLive L.tWg Wg w):bY P L.tWg Wg A Fin true (.usr l) 0 τ (G ((base L.wait).at ⟨#[.pointer (some ⟨Wg,0,none⟩),aA,aA,aA,aA,aA,aA,aA,aA,aA,aA,aA,aA,aA,aA,aA,aA,aA,aA,aA,aA,aA,aA,aA,aA,aA,aA,aA,aA,aA,aA,aA,aA,aA,aA,aA,aA,aA,aA,aA,aA,aA,aA,aA,aA,aA,aA,aA,aA,aA,aA,aA,aA,aA,aA,aA,aA,aA,aA,aA,aA,aA,aA,aA,aA,aA,aA,aA,aA,aA,aA,aA,aA,aA,aA,aA,aA,aA,aA,aA,aA,aA,aA,aA],[]⟩ [.code (zjt L)]) (b₀.at a₀ (.inRegion ops₀ (i₀::rest₀)::k₀)::cs)) w:=by
 have aY:∀g w,AnchWN L F Wg (b₀.at a₀ (.inRegion ops₀ (i₀::rest₀)::k₀)) cs g w->bY P L.tWg Wg A Fin true (.usr l) 1 τ g w:=λg w h=>by
  refine zo4 H kf Mp hT (ok:=λ_=>True) (ph:=.usr l) trivial (λg w hr h=>bY.usr hr ?_) (λv _=>zEy H kf Mp hT v) g w h;unfold mE;rw[pS];exact λaI s v hv hw=>h aI s v trivial hv hw
 lib_facts
 simp only[zjt,waitFn,y6];refine bY.goes (ph:=.usr l) trivial 3 ?_
 iterate 3 (first|u_c dU kf.rely hF|u_reg kf.rely hF|u_cond true kf.rely hF)
 refine qD (λaI wI=>?_);replace hF:=kf.rely hF wI;clear wI;refine bY.mark (ph:=.usr l) trivial rfl (λeW s=>zbd .disable aP rfl rfl qZ rfl H.f_disable (zke L) (zkS L) (zlY L) (znB L)) trivial (λeW s=>?_);replace hF:=kf.rely hF s;clear s;rw[show n6 0 #[oA .disable]=1 from rfl]
 walk_nrm
 refine bY.goes (ph:=.usr l) trivial 3 ?_
 iterate 3 (first|u_c dF kf.rely hF|u_c zeO kf.rely hF|u_c zkx kf.rely hF)
 exact qD (λJl Ud=>aY _ _ ⟨_,rfl,aP,aP,kf.rely hF Ud⟩)
end
end Go.Mt
namespace Go.Mt
open Go.Conc Go.Tt
def Iz:Nat->aF->Bool
 |0,_=>false
 |n+1,v=>match v with
  | .bool _| .int _ _| .string _| .nilFunc| .nilIface| .pointer none| .slice none _ _| .map none| .chan none=>true
  | .agg xs| .tuple xs=>xs.all (Iz n)
  |_=>false
variable {S:aO->Prop}
def zB9 {K R:Pr}:∀(n:Nat) (v:aF),Iz n v=true->VR S K R v v:=by
 intro n
 induction n with
 |zero=>intro v h;cases h
 |succ n ih=>
  intro v h;have arr:∀xs:Array aF,xs.all (Iz n)=true->bK S K R xs xs:=λxs hx=>⟨rfl,λi a b h1 h2=>by
   rw[h1] at h2;obtain rfl:=cE h2;rw[zkd] at hx;exact ih a (hx a (Uq h1))⟩
  cases v with
  |bool b=>exact .bool b
  |int k m=>exact .int k m
  |string s=>exact .string s
  |nilFunc=>exact .nilFunc
  |nilIface=>exact .nilIface
  |pointer a=>cases a with|none=>exact .pointer .none|some a=>simp[Iz] at h
  |slice a m c=>cases a with|none=>exact .slice .none|some a=>simp[Iz] at h
  |map a=>cases a with|none=>exact .map .none|some a=>simp[Iz] at h
  |chan a=>cases a with|none=>exact .chan .none|some a=>simp[Iz] at h
  |agg xs=>exact .agg rfl (arr xs (by simpa[Iz] using h)).2
  |tuple xs=>exact .tuple rfl (arr xs (by simpa[Iz] using h)).2
  |_=>simp[Iz] at h
def uI (v:aF):Prop:=∀(S:aO->Prop) (K R:Pr),VR S K R v v
variable {z:aF}
def uI.cells (h:uI z):∀x∈z.cells,uI x:=λx hx S K R=>by
 obtain⟨i,hi,rfl⟩:=ztR.1 hx;exact(h S K R).cells.2 i _ _ (mD hi) (mD hi)
def uI.agg {xs:Array aF}(h:∀x∈xs,uI x):uI (.agg xs):=λS K R=>.agg rfl λi v v' h1 h2=>by
 rw[h1] at h2;obtain rfl:=cE h2;exact h v (Uq h1) S K R
def zkp (info:aM->Option wY):Prop:=∀t i z,info t=some i->i.zero=some z->uI z
def zHe {α β:Type}{P:β->Prop}{f:α->β->Option (ForInStep β)}(hf:∀a b r,P b->f a b=some r->P (match r with| .yield b=>b| .done b=>b)):∀(l:List α) (b b':β),P b->forIn l b f=some b'->P b':=by
 intro l
 induction l with
 |nil=>intro b b' hb h;simp only[List.forIn_nil,pure,fY] at h;exact h▸hb
 |cons a l ih=>
  intro b b' hb h;simp only[List.forIn_cons,bind,Di] at h;obtain⟨r,h1,h2⟩:=h;have:=hf a b r hb h1
  cases r with
  |yield c=>exact ih c b' this h2
  |done c=>simp only[pure,fY] at h2;exact h2▸this
variable {info:aM->Option wY}{fs:Array Field}{i:wY}
def zCf (hI:zkp info)(h:zw4 info fs=some i)(hz:i.zero=some z):uI z:=by
 unfold zw4 at h;simp only[bind,pure,Di] at h;obtain⟨a,h1,h2⟩:=h;rw[<-Array.forIn_toList] at h1;have key:∀xs,a.2.2.2.2.2.2.2.1=some xs->∀x∈xs,uI x:=by
  refine zHe (P:=λs=>∀xs,s.2.2.2.2.2.2.2.1=some xs->∀x∈xs,uI x) (λf s r hP h=>?_) _ _ _ (λxs hx=>by simp only[fY] at hx;subst hx;simp) h1;simp only[Di] at h;obtain⟨j,hj,h⟩:=h;have key:∀xs,(s.2.2.2.2.2.2.2.1.bind λa=>j.zero.bind λb=>some (a++b.cells))=some xs->∀x∈xs,uI x:=by
   intro xs hx;simp only[Di,fY] at hx;obtain⟨u,h3,v,h4,rfl⟩:=hx;intro x hm;rcases Array.mem_append.1 hm with hm|hm
   .exact hP u h3 x hm
   .exact(hI _ j v hj h4).cells x hm
  repeat' (first|split at h|(simp only[Di] at h;obtain⟨_,h0,h⟩:=h))
  all_goals first
   |(cases h0;done)
   |(simp only[fY] at h;subst h;exact key)
   |(simp only[fY] at h;subst h;intro xs hx;cases hx)
 split at h2<;>(simp only[fY] at h2;subst h2;simp only at hz;obtain⟨xs,h3,rfl⟩:=xB.1 hz;exact uI.agg (key xs h3))
def zIH (hI:zkp info){d:TypeDesc}(h:zxH info d=some i)(hz:i.zero=some z):uI z:=by
 have hw:∀(d:TypeDesc) (s:String) (v:aF) (b:Bool) (n:Nat),uI v->∀z,(ztz d s v b n).zero=some z->uI z:=λd s v b n hv z hz=>by
  simp only[ztz,fY] at hz;exact hz▸hv
 have p0:uI (.pointer none):=λ_ _ _=>.pointer .none;have s0:uI (.slice none 0 0):=λ_ _ _=>.slice .none;have m0:uI (.map none):=λ_ _ _=>.map .none;have c0:uI (.chan none):=λ_ _ _=>.chan .none;have f0:uI .nilFunc:=λ_ _ _=>.nilFunc;unfold zxH at h
 cases d with
 |pointer e=>
  simp only[bind,pure,Di] at h;obtain⟨j,_,h⟩:=h;split at h
  .cases h
  .split at h
   .cases h
   .simp only[Di,fY] at h
    obtain⟨_,_,rfl⟩:=h;exact hw _ _ _ _ _ p0 z hz
  .simp only[Di,fY] at h
   obtain⟨_,_,rfl⟩:=h;exact hw _ _ _ _ _ p0 z hz
 |slice e=>
  simp only[bind,pure,Di,fY] at h;obtain⟨_,_,_,_,rfl⟩:=h;exact hw _ _ _ _ _ s0 z hz
 |map k e=>
  simp only[bind,pure,Di,fY] at h;obtain⟨_,_,_,_,_,_,_,_,rfl⟩:=h;exact hw _ _ _ _ _ m0 z hz
 |chan dir e=>
  simp only[bind,pure,Di,fY] at h;obtain⟨_,_,_,_,rfl⟩:=h;exact hw _ _ _ _ _ c0 z hz
 |func ps rs v=>
  simp only[bind,pure,Di,fY] at h;obtain⟨_,_,rfl⟩:=h;exact hw _ _ _ _ _ f0 z hz
 |array n e=>
  simp only[bind,pure,Di,fY] at h;obtain⟨j,hj,_,_,rfl⟩:=h;simp only at hz;split at hz
  .cases hz
  .split at hz
   .simp only[fY] at hz;subst hz;exact uI.agg aP
   .obtain⟨u,hu,rfl⟩:=xB.1 hz
    refine uI.agg λx hx=>?_;simp only[Array.mem_flatten,Array.mem_replicate] at hx;obtain⟨xs,⟨_,rfl⟩,hx⟩:=hx;exact(hI _ j u hj hu).cells x hx
 |struct fs=>exact zCf hI h hz
 |_=>cases h
def Uu (p:bR):Bool:=(gN p.types.size).all λt=>match p.info? t with|some i=>(match i.zero with|some z=>Iz 12 z|none=>true)|none=>true
def zhN:List ResultVar->Bool
 |[]=>true
 |[_]=>true
 |[_,_]=>true
 |[_,_,_]=>true
 |[_,_,_,_]=>true
 |_=>false
variable {l:List ResultVar}
def zHR (h:zhN l=true):Du l:=by
 unfold zhN at h;split at h
 .exact .inl rfl
 .exact .inr (.inl ⟨_,rfl⟩)
 .exact .inr (.inr (.inl ⟨_,_,rfl⟩))
 .exact .inr (.inr (.inr (.inl ⟨_,_,_,rfl⟩)))
 .exact .inr (.inr (.inr (.inr ⟨_,_,_,_,rfl⟩)))
 .cases h
def fnFit (p:bR)(fs gs:aO->Bool)(f:aO):Bool:=
 match p.funcs[f]? with
 |some fn=>!(fn.name== "runtime.NumGoroutine")&&zhN fn.results.toList&&(match fn.body with|some c=>oC p ⟨fs,gs,true⟩ c|none=>false)
 |none=>false
variable {p:bR}{f:aO}
theorem fnFit_ok {fs gs:aO->Bool}(h:fnFit p fs gs f=true):∃fn c,p.funcs[f]? =some fn/\(fn.name== "runtime.NumGoroutine")=false/\fn.body=some c/\oC p ⟨fs,gs,true⟩ c=true/\Du fn.results.toList:=by
 unfold fnFit at h
 cases hf:p.funcs[f]? with
 |none=>rw[hf] at h;cases h
 |some fn=>
  rw[hf] at h;simp only[fT,ze8] at h
  cases hb:fn.body with
  |none=>rw[hb] at h;cases h.2
  |some c=>rw[hb] at h;exact⟨fn,c,rfl,h.1.1,hb,h.2,zHR h.1.2⟩
variable {t:aM}
def zrS (h:Uu p=true)(ht:t<p.types.size)(hi:p.types[t]? =some i)(hz:i.zero=some z):uI z:=by
 unfold Uu at h;rw[tU] at h;have:=h t (Bh.2 ht);have e:p.info? t=some i:=by show zmH p.toTables t=some i;unfold zmH;rw[if_pos ht];exact hi
 rw[e] at this;simp only[hz] at this;exact λS K R=>zB9 12 z this
def zzk (h:Uu p=true):∀n,zkp (zv2 p.toTables n):=by
 intro n
 induction n with
 |zero=>intro t i z hi;cases hi
 |succ n ih=>
  intro t i z hi hz;unfold zv2 at hi;split at hi
  .next ht=>exact zrS h ht hi hz
  .obtain⟨d,_,hd⟩:=Di.1 hi
   exact zIH ih hd hz
def zoE (h:Uu p=true){K R:Pr}(hi:p.info? t=some i)(hz:i.zero=some z):VR S K R z z:=by
 have gT:=hi;unfold zmH at gT;split at gT
 .next ht=>exact zrS h ht gT hz S K R
 .exact zzk h Made.depth t i z gT hz S K R
def oZ (l:List Nat)(f:aO):Bool:=l.contains f
def Oq {l:List Nat}(h:oZ l f=true):f∈l:=by simpa[oZ] using h
def zv9 {gl fl:List Nat}(hz:Uu p=true)(h:gl.all (fnFit p (oZ fl) (oZ gl))=true)(hd:fl.all (λf=>gl.contains f)=true):vD (PS p (oZ gl)) (oZ fl) where
 zero:=λK R t i z hi Hi=>zoE hz hi Hi
 fn:=λf hf _=>by
  obtain⟨fn,c,h1,h2,h3,h4,_⟩:=fnFit_ok (tU.1 h f (Oq hf));exact⟨fn,c,h1,h1,h2,h3,h4⟩
 opq:=λf _ ho=>by cases ho
 low:=λf ho=>by cases ho
 dyn:=λ_ f hf=>tU.1 hd f (Oq hf)
 guard:=λt=>rfl
 res:=λf hf _ fn wM=>by
  obtain⟨fn',c,h1,h2,h3,h4,h5⟩:=fnFit_ok (tU.1 h f (Oq hf));have zG:=h1;rw[zG] at wM;obtain rfl:=cE wM;exact h5
 follows:=rfl
 none:=λ_=>rfl
def zgi (p:bR)(fs gs:aO->Bool)(f:aO):Bool:=
 match p.funcs[f]? with
 |some fn=>!(fn.name== "runtime.NumGoroutine")&&(match fn.body with|some c=>!(oC p ⟨fs,gs,true⟩ c)|none=>false)
 |none=>false
def lv_of {ol al gl fl:List Nat}(hz:Uu p=true)(h1:gl.all (fnFit p (oZ fl) (oZ gl))=true)(h2:al.all (λf=>ol.contains f||fnFit p (oZ fl) (oZ al) f)=true)(h3:ol.all (zgi p (oZ fl) (oZ gl))=true)(h4:ol.all (zgi p (oZ fl) (oZ al))=true)(hd:fl.all (λf=>gl.contains f)=true)(Ah:fl.all (λf=>al.contains f)=true):
 Lv p (oZ ol) (oZ al) (oZ gl) (oZ fl) where
 fit:={
  zero:=λK R t i z hi Hi=>zoE hz hi Hi
  fn:=λf hf ho=>by
   have:=tU.1 h2 f (Oq hf);have vG:ol.contains f=false:=ho;rw[vG,zsb] at this;obtain⟨fn,c,h1,h2,h3,h4,_⟩:=fnFit_ok this;exact⟨fn,c,h1,h1,h2,h3,h4⟩
  opq:=λf _ ho=>by
   have:=tU.1 h4 f (Oq ho);unfold zgi at this
   cases hf:p.funcs[f]? with
   |none=>rw[hf] at this;cases this
   |some fn=>
    rw[hf] at this;simp only[fT,ze8] at this
    cases hb:fn.body with
    |none=>rw[hb] at this;cases this.2
    |some c=>exact⟨fn,fn,c,c,rfl,rfl,this.1,this.1,hb,hb⟩
  low:=λf ho=>by cases ho
  dyn:=λ_ f hf=>tU.1 Ah f (Oq hf)
  guard:=λt=>rfl
  res:=λf hf ho fn wM=>by
   have:=tU.1 h2 f (Oq hf);have vG:ol.contains f=false:=ho;rw[vG,zsb] at this;obtain⟨fn',c,h1,h2,h3,h4,h5⟩:=fnFit_ok this;have zG:(PL p (oZ ol) (oZ al)).c.funcs[f]? =some fn':=h1;rw[zG] at wM;obtain rfl:=cE wM;exact h5
  follows:=rfl}
 fit₁:=zv9 hz h1 hd
 nofit:=λf ho=>by
  have:=tU.1 h3 f (Oq ho);unfold zgi at this
  cases hf:p.funcs[f]? with
  |none=>rw[hf] at this;cases this
  |some fn=>
   rw[hf] at this;simp only[fT,ze8] at this
   cases hb:fn.body with
   |none=>rw[hb] at this;cases this.2
   |some c=>rw[hb] at this;exact⟨fn,c,rfl,hb,this.1,by simpa using this.2⟩
end Go.Mt
namespace Go.Mt
open Go.Conc Go.Tt
open Go.ConcR (KK wgBlock WgAt stA smA rd wr DC0)
section
variable {p:bR}
def vW (p:bR):Frame:={(default:dJ) with fn:=p.funcs.size,defers:=[],mode:=.panicking [goexitEntry]}
variable {f:aO}{fn:Um}
def zt5 {c:Code}{cap args:Array aF}(hf:p.funcs[f]? =some fn)(hn:(fn.name== "runtime.NumGoroutine")=false)(hb:fn.body=some c)(w:aE):
 stepG p false (born p {target:=.fn (.func f) cap,args:=args}) w=.go (G ((baseD f).at ⟨(args++cap)++nL (fn.ntmps-(args++cap).size) aA,[]⟩ [.code c]) [vW p]) w #[]:=by
 have sG:¬fn.name= "runtime.NumGoroutine" :=by simpa using hn
 simp[born,stepG,unwind,callDeferred,invoke,callFunc,hf,sG,hb,seen,Bf,G,Fq,dJ.at,baseD,vW]
def zDE (hf:p.funcs[f]? =some fn)(hr:fn.results=#[])(T:Array aF)(todo:List eF):QuitsD p 2 0 (G {(baseD f).at ⟨T,[]⟩ todo with mode:=.returning} [vW p]):=by
 refine zwN (g':=G (vW p) []) rfl (λw=>?_) ?_
 .simp[G,stepG,unwind,doReturn,results,dJ.at,baseD,vW,hf,hr,seen,Bf,goexitEntry]
 refine zwN (g':={G (vW p) [] with status:=.finished}) rfl (λw=>?_) ⟨rfl,rfl⟩;simp[G,stepG,unwind,vW,goexitEntry,dJ.catches];rfl
end
section
variable [zho]{Lk:zgr}
open Go.Conc.Lib Go.ConcR.Gen
def Gs.triv (ty:aM)(Wg:Nat)(τ:cF):Gs ty Wg τ (λ_=>True):=⟨λ_ _ _ _=>trivial,λ_ _ _ _ _=>trivial⟩
end
end Go.Mt
namespace Go.Mt
open Go.Conc Go.Tt
open Go.ConcR (KK wgBlock WgAt stA smA rd wr)
section
variable {S:aO->Prop}{K K' R R':Pr}{G:Gp}{St St':Nat->Prop}{w W:aE}
def Pr.or_le {K K' R R':Pr}(hK:K.le K')(hR:R.le R'):(R.or K).le (R'.or K'):=λa b x=>x.imp (hR a b) (hK a b)
def znx (hK:K.le K'){v v':aF}(x:VR S K R v v'):VR S K' R v v':=by
 induction x with
 |bool b=>exact .bool b
 |int k n=>exact .int k n
 |string s=>exact .string s
 |nilFunc=>exact .nilFunc
 |nilIface=>exact .nilIface
 |pointer x=>exact .pointer x
 |slice x=>exact .slice x
 |map x=>exact .map x
 |chan x=>exact .chan (x.mono (Pr.or_le hK (.refl _)))
 |func s e1 _ e2 _ i1 i2=>exact .func s e1 i1 e2 i2
 |iface _ ih=>exact .iface ih
 |agg e _ ih=>exact .agg e ih
 |tuple e _ ih=>exact .tuple e ih
 |junk h=>exact .junk h
def bK.monoK (hK:K.le K'){xs bX:Array aF}(x:bK S K R xs bX):bK S K' R xs bX:=⟨x.1,λi v v' h1 h2=>znx hK (x.2 i v v' h1 h2)⟩
def Bz.monoK (hK:K.le K'){e e':MapEntry}(x:Bz S K R e e'):Bz S K' R e e':=by cases x with|mk a b=>exact .mk (znx hK a) (znx hK b)
variable {o:Obj}
def oH.monoK (hK:K.le K'){o':Obj}(x:oH S K R o o'):oH S K' R o o':=by
 cases x with
 |cells a b=>exact .cells (bK.monoK hK a) b
 |map a=>exact .map ⟨a.1,λi e e' h1 h2=>Bz.monoK hK (a.2 i e e' h1 h2)⟩
 |chan a=>exact .chan (bK.monoK hK a)
 |stringIter s p=>exact .stringIter s p
 |number a=>exact .number a
 |mapIter a=>exact .mapIter a
variable {P:dL}
def pA.monoK {fs:aO->Bool}(hK:K.le K'){m m':Fm}(x:pA P fs K R m m'):pA P fs K' R m m':=⟨x.fn,x.todo,x.ret,bK.monoK hK x.tmps,x.fit,x.infs⟩
def uL.monoK {fs:aO->Bool}(hK:K.le K'){ms ms':List Fm}(x:uL P fs K R ms ms'):uL P fs K' R ms ms':=by
 induction x with
 |nil=>exact .nil
 |cons a b _ ih=>exact .cons (pA.monoK hK a) b ih
def cV.real {W':aE}(h:cV S K R G St w W)(hk:∀a b,R a b->W'.heap[b]? =W.heap[b]?)(hs:W.heap.size<=W'.heap.size):cV S K R G St w W':=by
 refine⟨h.inj,h.inj',λa b x=>⟨(h.lt a b x).1,lE (h.lt a b x).2 hs⟩,h.low,⟨h.gle.1,eM h.gle.2 hs⟩,λa b x=>?_,h.rest,h.st,h.np,h.tb⟩;obtain⟨o,o',h1,h2,h3⟩:=h.cont a b x;exact⟨o,o',h1,(hk a b x).trans h2,h3⟩
def put (w:aE)(b:Nat)(o:Obj):World:={w with heap:=w.heap.setIfInBounds b o}
def Ef (w:aE)(o:Obj):(w.alloc o).heap[w.heap.size]? =some o:=by unfold zif;simp
def Fb {w:aE}{a:Nat}(h:a<w.heap.size):(w.alloc o).heap[a]? =w.heap[a]? :=by unfold zif;simp[Array.getElem?_push,zxd h]
def rF (w:aE)(o:Obj):(w.alloc o).heap.size=w.heap.size+1:=by unfold zif;simp
def cV.pushK (h:cV S K R G St w W){N:Nat}(hN:N<W.heap.size)(hf:∀a,¬(R.or K) a N):cV S (K.add w.heap.size N) R G St (w.alloc oR) W:=by
 have aN:∀a b,R.or K a b->a≠w.heap.size:=λa b x=>zxd (h.lt a b x).1;have lift:∀a,(∃b,R.or K a b)->(w.alloc oR).heap[a]? =w.heap[a]? :=λa ⟨b,x⟩=>Fb (h.lt a b x).1;refine⟨?_,?_,?_,h.low,⟨by rw[rF];exact Nat.le_succ_of_le h.gle.1,h.gle.2⟩,λa b x=>?_,?_,λa x=>?_,h.np.push (by unfold oR;simp),h.tb⟩
 .rintro a b c (x|x|⟨rfl,rfl⟩) (y|y|⟨e,rfl⟩)
  .exact h.inj a b c (.inl x) (.inl y)
  .exact h.inj a b c (.inl x) (.inr y)
  .exact absurd e (aN a b (.inl x))
  .exact h.inj a b c (.inr x) (.inl y)
  .exact h.inj a b c (.inr x) (.inr y)
  .exact absurd e (aN a b (.inr x))
  .exact absurd rfl (aN _ c (.inl y))
  .exact absurd rfl (aN _ c (.inr y))
  .rfl
 .rintro a b c (x|x|⟨rfl,rfl⟩) (y|y|⟨rfl,e⟩)
  .exact h.inj' a b c (.inl x) (.inl y)
  .exact h.inj' a b c (.inl x) (.inr y)
  .exact absurd (e▸ .inl x) (hf a)
  .exact h.inj' a b c (.inr x) (.inl y)
  .exact h.inj' a b c (.inr x) (.inr y)
  .exact absurd (e▸ .inr x) (hf a)
  .exact absurd (.inl y) (hf b)
  .exact absurd (.inr y) (hf b)
  .rfl
 .rintro a b (x|x|⟨rfl,rfl⟩)
  .exact⟨by rw[rF];exact zrs (h.lt a b (.inl x)).1,(h.lt a b (.inl x)).2⟩
  .exact⟨by rw[rF];exact zrs (h.lt a b (.inr x)).1,(h.lt a b (.inr x)).2⟩
  .exact⟨by rw[rF];omega,hN⟩
 .obtain⟨o,o',h1,h2,h3⟩:=h.cont a b x
  exact⟨o,o',(lift a ⟨b,.inl x⟩).trans h1,h2,oH.monoK (Pr.le_add _ _ _) h3⟩
 .rintro a b (x|⟨rfl,rfl⟩) hn
  .exact(lift a ⟨b,.inr x⟩).trans (h.rest a b x hn)
  .exact Ef w oR
 .obtain⟨⟨b,y⟩,c,T,hi,h1,h2⟩:=h.st a x
  exact⟨⟨b,y⟩,c,T,hi,(lift a ⟨b,.inl y⟩).trans h1,h2⟩
end
structure IM (W0:aE)(St:Nat->Prop)(Shun:Loc->Prop)(Wg:Nat)(SS:Nat->Prop)(R:Pr)(τ:cF)(W:aE):Prop where
 kp:Kp W0 R St W
 sh:Sh W0.heap.size Shun R W
 still:τ.still=SS
 wg:Wg<W.heap.size
 own:∀b,τ.own b->b≠Wg
 rel:∀a b,R a b->b≠Wg
section
variable {L:Type}{C:Cx L}{W0:aE}{St:Nat->Prop}{Shun:Loc->Prop}{SS:Nat->Prop}
def im_ok (hC:C.I=IM W0 St Shun C.Wg SS)(aY:∀a,St a->C.St a)(vJ:∀b,b<W0.heap.size->SS b):fF C:=by
 refine⟨λR τ W aX h s=>?_,λR τ W R1 W1 h ht hs=>?_⟩<;>rw[hC] at*
 .refine⟨⟨s.os.trans h.kp.os,s.tape.trans h.kp.tape,s.output.trans h.kp.output,eM h.kp.size s.size,λb hb=>(s.keep b (.inr (by rw[h.still];exact vJ b hb))).trans (h.kp.block b hb),h.kp.old⟩,⟨h.sh.old,h.sh.rel,λl b hl hb=>h.sh.new l b hl (eM s.size hb)⟩,h.still,lE h.wg s.size,h.own,h.rel⟩
 .refine⟨⟨hs.os.trans h.kp.os,hs.tape.trans h.kp.tape,hs.output.trans h.kp.output,eM h.kp.size hs.size,λb hb=>?_,λa b x hb=>?_⟩,⟨h.sh.old,λa b x l hl=>?_,λl b hl hb=>h.sh.new l b hl (eM hs.size hb)⟩,h.still,lE h.wg hs.size,λb hb=>?_,λa b x=>?_⟩
  .rw[hs.keep b (lE hb h.kp.size) (λa x=>aY a (h.kp.old a b x hb))]
   exact h.kp.block b hb
  .rcases hs.new a b x with y|⟨y,_⟩
   .exact h.kp.old a b y hb
   .have:=h.kp.size;omega
  .rcases hs.new a b x with y|⟨y,_⟩
   .exact h.sh.rel a b y l hl
   .exact h.sh.new l b hl y
  .rcases hb with hb|⟨hb,_⟩
   .exact h.own b hb
   .have:=h.wg;omega
  .rcases hs.new a b x with y|⟨y,_⟩
   .exact h.rel a b y
   .have:=h.wg;omega
def za8 (W:aE)(a:Addr)(v:aF){b:Nat}(h:b≠a.block):(W.setCell a v).heap[b]? =W.heap[b]? :=(Ws W a v).block b h
def H5 (W:aE)(a:Addr)(v:aF):(W.setCell a v).heap.size=W.heap.size:=(Ws W a v).size
def IM.cell {R:Pr}{τ:cF}{W:aE}{Wg:Nat}(h:IM W0 St Shun Wg SS R τ W)(hW:W0.heap.size<=Wg){a:Addr}(ha:a.block=Wg)(v:aF):IM W0 St Shun Wg SS R τ (W.setCell a v):=by
 have hA:=Ws W a v;refine⟨⟨hA.os.trans h.kp.os,hA.tape.trans h.kp.tape,hA.output.trans h.kp.output,by rw[H5];exact h.kp.size,λb hb=>(za8 W a v aC).trans (h.kp.block b hb),h.kp.old⟩,⟨h.sh.old,h.sh.rel,λl b hl hb=>h.sh.new l b hl (by rw[H5] at hb;exact hb)⟩,h.still,by rw[H5];exact h.wg,h.own,h.rel⟩
end
end Go.Mt
namespace Go.Mt
open Go.Conc Go.Tt
open Go.ConcR (KK wgBlock WgAt stA smA rd wr DC0)
section
variable {L:Type}{C:Cx L}{l:L}
variable {fn:aO}{tmps:Array aF}{k:List eF}{w:aE}{ops:Array aZ}
def BO.regs (hI:fF C){id:Nat}(is:List Nat)(hr:gN ops.size=is)(h:BO C l ⟨fn,tmps,.inRegion ops is::k,false⟩ w):BO C l ⟨fn,tmps,.code (.region id ops false)::k,false⟩ w:=BO.reg hI (by rw[hr];exact h)
def Cx.dfr (C:Cx L)(d:Ee):Cx L:={C with ds:=⟨d::C.ds.ds,C.ds.kd,C.ds.ok⟩}
def fF.dfr (hI:fF C)(d:Ee):fF (C.dfr d):=⟨hI.suf,hI.step⟩
variable {p:bR}{i:Nat}{rest:List Nat}{o:aZ}{d:Ee}
def zzL {main:Bool}{b:dJ}{a:tP}{cs:List dJ}(ho:ops[i]? =some o)(hw:dD o (dR ops a.tmps)=true)(hk:b.kind≠ .early)(zjw:o.dst=none)
 (hr:(aS a.eval o).run p w=.ok (.defer d) w) (he:(aS a.eval o).events p w #[]=#[]):
 stepG p main (G (b.at a (.inRegion ops (i::rest)::k)) cs) w=.go (G (b.at ⟨a.tmps,d::a.defers⟩ (.inRegion ops rest::k)) cs) w #[]:=by
 have zR:(b.at ⟨a.tmps,d::a.defers⟩ (.inRegion ops (i::rest)::k)).finish aA=b.at ⟨a.tmps,d::a.defers⟩ (.inRegion ops rest::k):=by rw[zpE,ho];simp[zjw,cC]
 have cO:(b.kind==CallKind.early)=false:=by simpa using hk
 rw[stepG_oper ho hw,<-zR];simp[stepG.apply,hr,he,G,dJ.at,cO,Bf,Ce]
def BO.defer (hI:fF C)(ho:ops[i]? =some o)(cD:dD o (dR ops tmps)=true)(zjw:o.dst=none)
 (hx:∀R w W bQ,C.Rel R w W->bK (SF C.fs) C.K R tmps bQ->(∀x∈C.pin,bQ.getD x.1 aA=x.2)->∀aX,(aS (bJ bQ C.ds.ds).eval o).run C.p aX=.ok (.defer d) aX/\(aS (bJ bQ C.ds.ds).eval o).events C.p aX #[]=#[])
 (h:BO (C.dfr d) l ⟨fn,tmps,.inRegion ops rest::k,false⟩ w):BO C l ⟨fn,tmps,.inRegion ops (i::rest)::k,false⟩ w:=by
 intro R W m' τ hw hm ht hi;obtain⟨fn',bQ,yJ,yB⟩:=m';obtain rfl:=hm.fn;obtain rfl:=hm.todo;obtain rfl:=hm.ret;rw[mH];refine Cx.silent rfl rfl (g':=G ((C.ds.base fn).at ⟨bQ,d::C.ds.ds⟩ (.inRegion ops rest::k)) C.base) (λaX s=>?_) λaX s=>?_
 .obtain⟨h1,h2⟩:=hx R w W bQ hw hm.tmps hm.pins aX
  exact zzL ho (Ip (C:=C) hm.tmps cD) C.ds.ok zjw h1 h2
 .have:=h R aX ⟨fn,bQ,.inRegion ops rest::k,false⟩ τ (Cx.Rel.suf (C:=C) hw ht s) ⟨rfl,rfl,rfl,hm.tmps,hm.pins⟩ ht (hI.suf _ _ _ _ hi s)
  rw[mH] at this;exact this
variable {ρ:cN->aF}
def zwg {f:aO}{zwl:Array cN}{kT:Array aM}(hop:o.op=.defer {callee:=.value (.func f),args:=zwl,argTypes:=kT})(hρ:ρ (.func f)=.func (.func f) #[] #[])(w:aE):
 (aS ρ o).run p w=.ok (.defer (dcall f (zwl.map ρ))) w/\(aS ρ o).events p w #[]=#[]:=by
 obtain⟨dst,yW,type,pos,after,guard⟩:=o;simp only at hop;subst hop;constructor
 .simp[aS,resolve,Co,hρ,dcall,bind,xR,pure,bD]
 .simp[aS,resolve,Co,hρ,dcall,bind,xR,pure,bD,vV,y7]
variable {Post:aF->aE->Prop}
def zBT {Shun:Loc->Prop}:∀(n:Nat) (g:bC) (w:aE),Goes p true AtRel DC0 (λg w=>J p Post Shun w.heap.size g w) n g w->J p Post Shun w.heap.size g w:=by
 intro n
 induction n with
 |zero=>exact λg w h=>by have:=h w ⟨w.drawn,rfl⟩;exact this
 |succ n ih=>
  intro g w h;rcases h with h|⟨hs,h⟩
  .have:=h w ⟨w.drawn,rfl⟩;exact this
  .refine J.own hs λd=>?_
   obtain⟨zc6,w',es,hgo,⟨e1,e2⟩,hg⟩:=zjG (h (w.at d) ⟨d,rfl⟩);subst e1 e2;exact⟨zc6,_,#[],_,hgo,λe he=>by simp at he,aV _,ih _ _ hg⟩
def zbK {t:aM}{x:cN}{a:Addr}{v:aF}(hop:o.op=.load t x)(hx:ρ x=.pointer (some a))(zzo:(isAgg t).run p w=.ok false w)(hc:w.cell? a=some v):(aS ρ o).run p w=.ok (.value v) w:=by
 obtain⟨dst,yW,type,pos,after,guard⟩:=o;simp only at hop;subst hop;simp[aS,Instr.loadAt,hx,go_sem,loadVar,zzo,hc]
end
variable {p:bR}{s:Sem aF}{w':aE}{v:aF}
def run_bv {w:aE}(h:s.run p w=.ok v w'):bD p (xR s (λv=>Sem.pure (Next.value v))) w=.ok (.value v) w':=by rw[r9,h];rfl
def ev_bv {w:aE}{es fC:Array oL}(h:s.run p w=.ok v w')(he:s.events p w es=fC):vV p (xR s (λv=>Sem.pure (Next.value v))) w es=fC:=by rw[U1,h,Uk,he];rfl
section
variable {p:bR}{Post:aF->aE->Prop}{Shun:Loc->Prop}
variable {B:Nat}
def J.sil {g g':bC}{w:aE}(hg:g.status=.running)(aY:∀w,stepG p true g w=.go g' w #[])(h:∀d,J p Post Shun B g' (w.at d)):∀d,J p Post Shun B g (w.at d):=λd=>
 J.own hg λd'=>⟨g',w.at d',#[],B,aY _,λe he=>by simp at he,aV _,h d'⟩
def J.opq {b:dJ}{a:tP}{ops:Array aZ}{i:Nat}{rest:List Nat}{k:List eF}{cs:List dJ}{w w':aE}{o:aZ}{v:aF}(ho:ops[i]? =some o)(hw:dD o (dR ops a.tmps)=true)(hk:b.kind≠ .early)
 (hr:∀d,(aS a.eval o).run p (w.at d)=.ok (.value v) (w'.at d)) (he:∀d,∀e∈(aS a.eval o).events p (w.at d) #[],False)
 (h:∀d,J p Post Shun B (G (b.at (a.put o.dst v) (.inRegion ops rest::k)) cs) (w'.at d)):∀d,J p Post Shun B (G (b.at a (.inRegion ops (i::rest)::k)) cs) (w.at d):=λd=>
 J.own rfl λd'=>⟨_,w'.at d',xA p b.fn a o (w.at d'),B,stepG_value ho hw hk (hr d'),λe hx=>(he d' e (zav hx)).elim,aV _,h d'⟩
end
end Go.Mt
namespace Go.Mt
open Go.Conc Go.Tt
structure Blk where
 rb:Nat
 off:Nat
 cs:Array aF
 T:aM
 fz:Nat×Nat
def M2 (v:aF):Prop:=(∃k n,v=.int k n)\/(∃s,v=.string s)\/∃b,v=.bool b
inductive wE:aF->Prop
 |bool (b:Bool):wE (.bool b)
 |int (k:IntKind) (n:Int):wE (.int k n)
 |string (s:ByteArray):wE (.string s)
 |nilFunc:wE .nilFunc
 |nilIface:wE .nilIface
 |agg {xs:Array aF}:(∀(i:Nat) (v:aF),xs[i]? =some v->wE v)->wE (.agg xs)
 |tuple {xs:Array aF}:(∀(i:Nat) (v:aF),xs[i]? =some v->wE v)->wE (.tuple xs)
def thaw (w:aE):Option Blk->aE
 |none=>w
 |some b=>put w b.rb (.cells b.cs b.T b.fz)
section
variable {S:aO->Prop}{K R:Pr}{G:Gp}{St:Nat->Prop}{w W W4:aE}{A:Option Addr}{src:Option Blk}
abbrev P0:Pr:=λ_ _=>False
def stC (w:aE)(a:Nat):Prop:=a=w.heap.size+1\/a=w.heap.size+2\/a=w.heap.size+3
end
section
variable {L:Type}{C:Cx L}{W0:aE}{St:Nat->Prop}{Shun:Loc->Prop}{SS:Nat->Prop}
structure IMX (W0:aE)(St:Nat->Prop)(Shun:Loc->Prop)(Wg:Nat)(SS:Nat->Prop)(R0:Pr)(Fz:Nat->Prop)(Wf:aE)(R:Pr)(τ:cF)(W:aE):Prop where
 im:IM W0 St Shun Wg SS R τ W
 le:R0.le R
 fz:∀b,Fz b->b<W.heap.size/\W.heap[b]? =Wf.heap[b]? /\¬τ.own b/\b≠Wg
structure IX (ty:aM)(Wg:Nat)(I:Pr->cF->aE->Prop):Prop where
 suf:∀R τ W aX,I R τ W->bT ty Wg τ W aX->I R τ aX
 cell:∀R τ W a v,I R τ W->a.block=Wg->I R τ (W.setCell a v)
 at_:∀R τ W d,I R τ W->I R τ (W.at d)
 rel:∀R τ W,I R τ W->∀a b,R a b->b≠Wg
def yI (ty:aM)(Wg:Nat)(I:Pr->cF->aE->Prop):Pr->cF->aE->Prop:=λR τ W=>I R τ W/\WgLive ty Wg W
variable {R0:Pr}
def zo2 {ty:aM}{W0:aE}{St:Nat->Prop}{Shun:Loc->Prop}{Wg:Nat}{SS:Nat->Prop}{Fz:Nat->Prop}{Wf:aE}(vJ:∀b,b<W0.heap.size->SS b)(hF:∀b,Fz b->SS b)(nX:W0.heap.size<=Wg):IX ty Wg (IMX W0 St Shun Wg SS R0 Fz Wf):=by
 refine⟨λR τ W aX h s=>?_,λR τ W a v h ha=>?_,λR τ W d h=>?_,λR τ W h=>h.im.rel⟩
 .have h0:fF (L:=Unit) ⟨default,λ_=>false,λ_=>false,ty,Wg,⟨λ_=>.wait,λ_ _=>True,λ_=>false,λ_=>True,λ_ _=>True,λ_ _=>[]⟩,λ_ _=>True,true,[],.nil,λ_ _=>False,λ_=>True,IM W0 St Shun Wg SS,[],none,λ_ h=>by cases h⟩:=im_ok rfl (λ_ _=>trivial) vJ
  refine⟨h0.suf R τ W aX h.im s,h.le,λb hb=>?_⟩;obtain⟨f1,f2,f3,f4⟩:=h.fz b hb;exact⟨lE f1 s.size,(s.keep b (.inr (by rw[h.im.still];exact hF b hb))).trans f2,f3,f4⟩
 .refine⟨IM.cell h.im nX ha v,h.le,λb hb=>?_⟩
  obtain⟨f1,f2,f3,f4⟩:=h.fz b hb;exact⟨by rw[H5];exact f1,(za8 W a v (by rw[ha];exact f4)).trans f2,f3,f4⟩
 .exact⟨⟨⟨h.im.kp.os,h.im.kp.tape,h.im.kp.output,h.im.kp.size,h.im.kp.block,h.im.kp.old⟩,⟨h.im.sh.old,h.im.sh.rel,h.im.sh.new⟩,h.im.still,h.im.wg,h.im.own,h.im.rel⟩,h.le,h.fz⟩
def imx_ok {Fz:Nat->Prop}{Wf:aE}(hC:C.I=yI C.ty C.Wg (IMX W0 St Shun C.Wg SS R0 Fz Wf))(aY:∀a,St a->C.St a)(vJ:∀b,b<W0.heap.size->SS b)(hF:∀b,Fz b->SS b)(nX:W0.heap.size<=C.Wg):fF C:=by
 have h0:=im_ok (C:={C with I:=IM W0 St Shun C.Wg SS}) rfl aY vJ;have hx:=zo2 (ty:=C.ty) (St:=St) (Shun:=Shun) (R0:=R0) (Wf:=Wf) vJ hF nX;refine⟨λR τ W aX h s=>?_,λR τ W R1 W1 h ht hs=>?_⟩<;>rw[hC] at*
 .exact⟨hx.suf R τ W aX h.1 s,s.live h.2⟩
 .refine⟨⟨h0.step R τ W R1 W1 h.1.im ht hs,h.1.le.trans hs.le,λb hb=>?_⟩,?_⟩
  .obtain⟨f1,f2,f3,f4⟩:=h.1.fz b hb
   refine⟨lE f1 hs.size,(hs.keep b f1 λa x=>zC λz=>f3 ((ht a _ x).2 z)).trans f2,λe=>e.elim f3 λx=>?_,f4⟩;omega
  .obtain⟨a,b,hl⟩:=h.2
   exact⟨a,b,(hs.keep C.Wg h.1.im.wg λa x=>zC λz=>h.1.im.own _ ((ht a _ x).2 z) rfl).trans hl⟩
end
section
variable {p:bR}{op gs gs₁ fs:aO->Bool}{St:Nat->Prop}{W0:aE}{Post:aF->aE->Prop}
def JO.callN (L:Lv p op gs gs₁ fs){m:Fm}{ms:List Fm}{w:aE}{ops:Array aZ}{i:Nat}{rest:List Nat}{k:List eF}{o:aZ}{f:aO}{args:Array cN}{kT:Array aM}{fn:Um}{c:Code}(hr:m.ret=false)(pT:m.todo=.inRegion ops (i::rest)::k)
 (ho:ops[i]? =some o) (cD:dD o (dR ops m.tmps)=true) (hop:o.op=.call ⟨.value (.func f),args,kT⟩) (C0:op f=false) (hf:p.funcs[f]? =some fn) (hn:(fn.name== "runtime.NumGoroutine")=false) (hb:fn.body=some c)
 (hJ:JL p op gs fs St W0 Post ⟨f,args.map m.eval++nL (fn.ntmps-(args.map m.eval).size) aA,[.code c],false⟩ (m::ms) w):JL p op gs fs St W0 Post m ms w:=by
 have Ch:rB p f (args.map m.eval)=⟨f,args.map m.eval++nL (fn.ntmps-(args.map m.eval).size) aA,[.code c],false⟩:=by simp[rB,hf,hb]
 rw[<-Ch] at hJ;refine JO.one L.fit rfl (λe=>by rw[hr] at e;cases e) (λT=>((rB p f (args.map m.eval),m::ms),Tt.tp w T 0)) (λT=>?_) (λT K R y My=>?_) (λT=>hJ.tape T 0)
 .show(fD p m ms).run p _=_
  simp only[fD,hr,jE,if_false,sC,pT,ho,Ak,y6,cD,if_true];refine(r9 p _ _ _).trans ?_;rw[(zbP hop (λg=>rfl) hf hn hb (Tt.tp w T 0)).1];simp only[uD,qQ,hf,hb,kW,bD,Ch]
 .obtain⟨f',xs,bX,c,c',rest,Lj,h1,h2,h3,h4,_⟩:=My.ex
  simp only[pP] at h4;have h5:=congrArg Fm.fn h4.1;rw[Ht,Ht] at h5;have h6:op f'=true:=h1;rw[<-h5,C0] at h6;cases h6
end
def zwq {S:aO->Prop}:∀(n:Nat) (v:aF),N1 v<n->∃u,wE u/\(∀K R,VR S K R u v)/\(M2 v->u=v):=by
 intro n
 induction n with
 |zero=>intro v h;omega
 |succ n ih=>
  intro v hv;have hj:∀{v:aF},HidV v->(∀k m,v≠ .int k m)->(∀s,v≠ .string s)->(∀b,v≠ .bool b)->∃u,wE u/\(∀K R,VR S K R u v)/\(M2 v->u=v):=λh h1 h2 h3=>
   ⟨.nilFunc,.nilFunc,λK R=>.junk h,λx=>by
    rcases x with⟨k,m,e⟩|⟨s,e⟩|⟨b,e⟩
    .exact absurd e (h1 _ _)
    .exact absurd e (h2 _)
    .exact absurd e (h3 _)⟩
  have rows:∀xs:Array aF,N1 xs<n->∃us:Array aF,us.size=xs.size/\(∀(i:Nat) (u:aF),us[i]? =some u->wE u)/\∀K R,∀(i:Nat) (u v:aF),us[i]? =some u->xs[i]? =some v->VR S K R u v:=λxs hx=>by
   have hex:∀x,∃u,x∈xs->wE u/\∀K R,VR S K R u x:=λx=>by
    by_cases hm:x∈xs
    .obtain⟨u,h1,h2,_⟩:=ih x (Nat.lt_trans (Array.sizeOf_lt_of_mem hm) hx)
     exact⟨u,λ_=>⟨h1,h2⟩⟩
    .exact⟨x,λh=>absurd h hm⟩
   refine⟨xs.map λx=>(hex x).choose,aP,λi u h1=>?_,λK R i u v h1 h2=>?_⟩
   .rw[xL] at h1
    cases h2:xs[i]? with
    |none=>rw[h2] at h1;cases h1
    |some v=>
     rw[h2] at h1;simp only[Ak,fY] at h1;subst h1;exact((hex v).choose_spec (Uq h2)).1
   .rw[xL,h2] at h1
    simp only[Ak,fY] at h1;subst h1;exact((hex v).choose_spec (Uq h2)).2 K R
  cases v with
  |bool b=>exact⟨_,.bool b,λK R=>.bool b,λ_=>rfl⟩
  |int k m=>exact⟨_,.int k m,λK R=>.int k m,λ_=>rfl⟩
  |string s=>exact⟨_,.string s,λK R=>.string s,λ_=>rfl⟩
  |nilIface=>exact⟨_,.nilIface,λK R=>.nilIface,λ_=>rfl⟩
  |agg xs=>
   obtain⟨us,h1,h3,h2⟩:=rows xs (by simp at hv;omega);exact⟨.agg us,.agg h3,λK R=>.agg h1 (h2 K R),λx=>by rcases x with⟨_,_,e⟩|⟨_,e⟩|⟨_,e⟩<;>cases e⟩
  |tuple xs=>
   obtain⟨us,h1,h3,h2⟩:=rows xs (by simp at hv;omega);exact⟨.tuple us,.tuple h3,λK R=>.tuple h1 (h2 K R),λx=>by rcases x with⟨_,_,e⟩|⟨_,e⟩|⟨_,e⟩<;>cases e⟩
  |_=>exact hj Xw (λ_ _ h=>by cases h) (λ_ h=>by cases h) (λ_ h=>by cases h)
def gv (S:aO->Prop)(v:aF):Value:=(zwq (S:=S) (N1 v+1) v (xD _)).choose
def zgp (S:aO->Prop)(v:aF):wE (gv S v)/\(∀K R,VR S K R (gv S v) v)/\(M2 v->gv S v=v):=(zwq (S:=S) (N1 v+1) v (xD _)).choose_spec
def gObj (S:aO->Prop):Obj->Obj
 | .cells c T fz=>.cells (c.map (gv S)) T (0,max c.size fz.2)
 |_=>oR
def Bj (S:aO->Prop)(X:Nat->Bool)(W:aE):World:={W with heap:=W.heap.mapIdx λi o=>if X i=true then gObj S o else oR}
def R0 (X:Nat->Bool):Pr:=λa b=>a=b/\X a=true
def St0 (X:Nat->Bool):Nat->Prop:=λa=>X a=true
section
variable {S:aO->Prop}{X:Nat->Bool}{W:aE}
def zfb:(Bj S X W).heap.size=W.heap.size:=by simp[Bj]
def zay {b:Nat}{c:Array aF}{T:aM}{fz:Nat×Nat}(hb:W.heap[b]? =some (.cells c T fz))(hx:X b=true):(Bj S X W).heap[b]? =some (.cells (c.map (gv S)) T (0,max c.size fz.2)):=by
 simp[Bj,M3,hb,hx,gObj]
def zFm:Bp (Bj S X W):=by
 intro b c e h;simp only[Bj,M3,xB] at h;obtain⟨o,_,h⟩:=h;split at h
 .cases o<;>simp[gObj,oR] at h
 .simp[oR] at h
def zAQ {G:Gp}(hX:∀b,X b=true->∃c T fz,W.heap[b]? =some (.cells c T fz))(hT:∀g,G.tab g=true->X g=true)(hG:G.n<=W.heap.size):cV S P0 (R0 X) G (St0 X) (Bj S X W) W:=by
 refine⟨?_,?_,?_,?_,⟨by rw[zfb];exact hG,hG⟩,?_,λa b x=>x.elim,?_,zFm,λg hg=>⟨rfl,hT g hg⟩⟩
 .rintro a b c (⟨rfl,_⟩|x) (⟨h1,_⟩|y)
  .exact h1
  .exact y.elim
  .exact x.elim
  .exact x.elim
 .rintro a b c (⟨rfl,_⟩|x) (⟨h1,_⟩|y)
  .exact h1.symm
  .exact y.elim
  .exact x.elim
  .exact x.elim
 .rintro a b (⟨rfl,h⟩|x)
  .obtain⟨c,T,fz,h1⟩:=hX a h
   have:=(dQ.1 h1).1;exact⟨by rw[zfb];exact this,this⟩
  .exact x.elim
 .rintro a b ⟨rfl,_⟩
  exact⟨Iff.rfl,λ_=>rfl⟩
 .rintro a b ⟨rfl,h⟩
  obtain⟨c,T,fz,h1⟩:=hX a h;refine⟨_,_,zay h1 h,h1,.cells ⟨aP,λi u v h2 h3=>?_⟩ λo ho=>?_⟩
  .rw[xL,h3] at h2
   simp only[Ak,fY] at h2;subst h2;exact(zgp S v).2.1 _ _
  .unfold Ln at ho⊢
   simp only;omega
 .intro a h
  obtain⟨c,T,fz,h1⟩:=hX a h;exact⟨⟨a,rfl,h⟩,_,T,_,zay h1 h,by rw[Array.size_map];exact Nat.le_max_left ..⟩
def zGi {b o:Nat}{v:aF}(hX:∀b,X b=true->∃c T fz,W.heap[b]? =some (.cells c T fz))(hx:X b=true)(hv:W.cell? ⟨b,o,none⟩=some v)(hp:M2 v):(Bj S X W).cell? ⟨b,o,none⟩=some v:=by
 obtain⟨c,T,fz,h1⟩:=hX b hx;have h2:c[o]? =some v:=by
  have:W.cell? ⟨b,o,none⟩=c[o]? :=by simp[lF,h1]
  rw[<-this];exact hv
 have h3:(Bj S X W).cell? ⟨b,o,none⟩=(c.map (gv S))[o]? :=by
  simp only[lF];rw[zay h1 hx];rfl
 rw[h3,xL,h2];simp only[Ak,fY];exact(zgp S v).2.2 hp
end
def zBM {Shun:Loc->Prop}{B:Nat}:Past Shun B #[]:=
 ⟨zkU.clean,λi a h=>by simp[touchAt,lT.act?] at h,zkU.over,zkU.hears,λop h=>by simp at h⟩
variable {Post:aF->aE->Prop}
def J.start {p:bR}{op gs gs₁ fs:aO->Bool}(L:Lv p op gs gs₁ fs){f:aO}{fn:Um}{c:Code}(hg:gs f=true)(C0:op f=false)(hf:p.funcs[f]? =some fn)(hb:fn.body=some c){W:aE}{X:Nat->Bool}{xs args:Array aF}
 (hX:∀b,X b=true->∃c T fz,W.heap[b]? =some (.cells c T fz)) (hT:∀g,Bc p g=true->X g=true) (hG:p.globals.size<=W.heap.size) (Cj:bK (SF fs) P0 (R0 X) xs args)
 (h:JL p op gs fs (St0 X) W Post ⟨f,xs++nL (fn.ntmps-xs.size) aA,[.code c],false⟩ [] (Bj (SF fs) X W)):Ends p Post (solo (G (Fq p f args .normal) []) W) #[]:=by
 obtain⟨fn',c',g1,g2,g3,g4,g5⟩:=L.fit.fn f hg C0;have Bo:=g2;rw[hf] at Bo;obtain rfl:=cE Bo;rw[hb] at g4;obtain rfl:=cE g4;have hJ:J p Post (λ_=>False) W.heap.size (G (Fq p f args .normal) []) W:=by
  rw[Yb hf hb];refine h P0 (R0 X) W ⟨f,args++nL (fn.ntmps-args.size) aA,[.code c],false⟩ [] (λ_=>False) (zAQ hX hT hG) ⟨rfl,rfl,rfl,Cj.pad fn.ntmps,λj hj=>?_,⟨fn,fn,hf,hf,rfl,L.fit.res f hg C0 fn hf⟩⟩ .nil ⟨λ_ _ _ _=>id,λ_ _ _ _ _=>id,λ_ _ _ _=>id⟩ ⟨rfl,rfl,rfl,aV _,λ_ _=>rfl,?_⟩
  .simp only[jH,l8,or_false] at hj
   subst hj;exact g5
  .rintro a b ⟨rfl,h⟩ _
   exact h
 rw[solo_eq_crowd];exact hJ #[_] #[] none (λ_=>0) rfl ⟨λi g hi h=>by
  have:=(dQ.1 h).1;simp at this;omega,λj _=>rfl⟩ zBM
def Iq (ops:Array aZ):Bool:=
 ((
  gN ops.size).all λi=>match ops[i]? with
  |some oi=>(oi.after.all λe=>!Fo .any e||decide (e.on<i))&&(match oi.op with| .select .. =>false|_=>true)&&
   ((
    gN ops.size).all λj=>match ops[j]? with
    |some oj=>(match oj.dst with
     |some d=>(!(oi.looksAt ops).contains d||oi.after.any λe=>Fo .any e&&e.on==j)&&(i==j||oi.dst !=some d)
     |none=>true)
    |none=>true)
  |none=>true)
structure Mb (ops:Array aZ):Prop where
 bk:∀(i:Nat) (oi:aZ),ops[i]? =some oi->∀e∈oi.after,Fo .any e=true->e.on<i
 sel:∀(i:Nat) (oi:aZ),ops[i]? =some oi->∀cs b,oi.op≠ .select cs b
 rd:∀(i j:Nat) (oi oj:aZ) (d:Tmp),ops[i]? =some oi->ops[j]? =some oj->oj.dst=some d->d∈oi.looksAt ops->∃e∈oi.after,Fo .any e=true/\e.on=j
 dst:∀(i j:Nat) (oi oj:aZ) (d:Tmp),ops[i]? =some oi->ops[j]? =some oj->oi.dst=some d->oj.dst=some d->i=j
variable {ops:Array aZ}
def Tn (h:Iq ops=true):Mb ops:=by
 unfold Iq at h;rw[tU] at h;have lt:∀{i:Nat} {oi:aZ},ops[i]? =some oi->i<ops.size:=λh=>(dQ.1 h).1
 have h1:∀(i:Nat) (oi:aZ),ops[i]? =some oi->(oi.after.all λe=>!Fo .any e||decide (e.on<i))=true/\(match oi.op with| .select .. =>false|_=>true)=true/\
  ∀(j:Nat) (oj:aZ),ops[j]? =some oj->∀d,oj.dst=some d->((oi.looksAt ops).contains d=false\/(oi.after.any λe=>Fo .any e&&e.on==j)=true)/\(i=j\/oi.dst≠some d):=by
  intro i oi hi;have:=h i (Bh.2 (lt hi));rw[hi] at this;simp only[fT] at this;refine⟨this.1.1,this.1.2,λj oj hj d hd=>?_⟩;have h2:=(tU.1 this.2) j (Bh.2 (lt hj));rw[hj] at h2;simp only[hd,fT,Er,ze8,beq_iff_eq,bne_iff_ne] at h2;exact h2
 refine⟨λi oi hi e he hb=>?_,λi oi hi cs b e=>?_,λi j oi oj d hi hj hd hl=>?_,λi j oi oj d hi hj h2 h3=>?_⟩
 .have:=(h1 i oi hi).1
  rw[zkd] at this;have:=this e he;simp[hb] at this;exact this
 .have:=(h1 i oi hi).2.1
  rw[e] at this;cases this
 .have h2:=((h1 i oi hi).2.2 j oj hj d hd).1
  rcases h2 with h2|h2
  .have:=List.contains_iff_mem.2 hl
   rw[h2] at this;cases this
  .rw[U3] at h2
   obtain⟨x,hx,h3⟩:=h2;simp only[fT,beq_iff_eq] at h3;exact⟨_,zlo hx,h3.1,h3.2⟩
 .rcases((h1 i oi hi).2.2 j oj hj d h3).2 with h4|h4
  .exact h4
  .exact absurd h2 h4
def dC (ops:Array aZ)(vals:Nat->aF)(t0:Array aF):Array Value:=
 (gN ops.size).foldl (λt i=>match(ops[i]?).bind (·.dst) with|some d=>t.setIfInBounds d (vals i)|none=>t) t0
section
variable {ops:Array aZ}{vals:Nat->aF}{t0:Array aF}
structure rV (ops:Array aZ)(vals:Nat->aF)(t0:Array aF)(bO:Array Bool)(t:Array aF):Prop where
 size:t.size=t0.size
 got:∀(i:Nat) (o:aZ) (d:Tmp),ops[i]? =some o->o.dst=some d->d<t0.size->bO.getD i false=true->t[d]? =some (vals i)
 old:∀s:Nat,(∀(i:Nat) (o:aZ),ops[i]? =some o->bO.getD i false=true->o.dst≠some s)->t[s]? =t0[s]?
def rV.start (bO:Array Bool)(h:∀i,bO.getD i false=false):rV ops vals t0 bO t0:=
 ⟨rfl,λi o d _ _ _ hl=>(by rw[h i] at hl;cases hl),λs _=>rfl⟩
def rV.step (K:Mb ops){bO:Array Bool}{t:Array aF}(h:rV ops vals t0 bO t){i:Nat}{o:aZ}(hi:ops[i]? =some o)(hz:bO.size=ops.size)(hu:bO.getD i true=false):
 rV ops vals t0 (bO.setIfInBounds i true) (match o.dst with|some d=>t.setIfInBounds d (vals i)|none=>t):=by
 have Be:i<bO.size:=by rw[hz];exact(dQ.1 hi).1
 have K7:∀j,(bO.setIfInBounds i true).getD j false=if j=i then true else bO.getD j false:=by
  intro j;by_cases e:j=i
  .subst e;simp[Be]
  .rw[if_neg e];exact Qa false (Ne.symm e)
 cases hd:o.dst with
 |none=>
  refine⟨h.size,λj oj d hj Pm zfy hl=>?_,λs hs=>h.old s λj oj hj hl=>hs j oj hj ?_⟩
  .rw[K7] at hl
   split at hl
   .next e=>subst e;rw[hi] at hj;obtain rfl:=cE hj;rw[hd] at Pm;cases Pm
   .exact h.got j oj d hj Pm zfy hl
  .rw[K7];split<;>first|rfl|exact hl
 |some d=>
  refine⟨by simp[h.size],λj oj d' hj Pm zfy hl=>?_,λs hs=>?_⟩
  .rw[K7] at hl
   split at hl
   .next e=>
    subst e;rw[hi] at hj;obtain rfl:=cE hj;rw[hd] at Pm;obtain rfl:=cE Pm;simp[zp2,h.size,zfy]
   .next e=>
    have aT:d≠d':=λe2=>e (K.dst j i oj o d' hj hi Pm (by rw[hd,e2]));simp only[jP aT];exact h.got j oj d' hj Pm zfy hl
  .have aT:d≠s:=λe2=>hs i o hi (by rw[K7,if_pos rfl]) (by rw[hd,e2])
   simp only[jP aT];exact h.old s λj oj hj hl=>hs j oj hj (by rw[K7];split<;>first|rfl|exact hl)
def rV.unique {bO:Array Bool}{t t':Array aF}(h:rV ops vals t0 bO t)(h':rV ops vals t0 bO t'):t=t':=by
 apply zha;intro s;by_cases hex:∃(i:Nat) (o:aZ),ops[i]? =some o/\bO.getD i false=true/\o.dst=some s
 .obtain⟨i,o,h1,h2,h3⟩:=hex
  by_cases hs:s<t0.size
  .rw[h.got i o s h1 h3 hs h2,h'.got i o s h1 h3 hs h2]
  .rw[Hj (by rw[h.size];omega),Hj (by rw[h'.size];omega)]
 .have hn:∀(i:Nat) (o:aZ),ops[i]? =some o->bO.getD i false=true->o.dst≠some s:=λi o h1 h2 h3=>hex ⟨i,o,h1,h2,h3⟩
  rw[h.old s hn,h'.old s hn]
def Sm (K:Mb ops):rV ops vals t0 (nL ops.size true) (dC ops vals t0):=by
 have key:∀n,n<=ops.size->rV ops vals t0 ((Ma ops.size).map (λi=>decide (i<n))) ((gN n).foldl (λt i=>match(ops[i]?).bind (·.dst) with|some d=>t.setIfInBounds d (vals i)|none=>t) t0):=by
  intro n
  induction n with
  |zero=>intro _;exact rV.start _ λi=>by simp;cases h:(Ma ops.size)[i]? <;>simp
  |succ n ih=>
   intro hn;have h:=ih aC;obtain⟨o,ho⟩:∃o,ops[n]? =some o:=⟨ops[n],mD aC⟩;have hs:=rV.step K h ho aP (by simp[Array.getElem?_range,show n<ops.size by omega]);rw[List.range_succ,zkh];simp only[Qn,List.foldl_nil,ho,vN];have e:((Ma ops.size).map (λi=>decide (i<n))).setIfInBounds n true=(Ma ops.size).map (λi=>decide (i<n+1)):=by
    apply zha;intro j;rw[zp2];by_cases hj:j<ops.size
    .by_cases e:n=j
     .subst e;simp[hj]
     .simp[hj,e];omega
    .have:¬n=j:=aC
     simp[hj,this]
   rw[e] at hs;exact hs
 have:=key ops.size (aV _);have e:(Ma ops.size).map (λi=>decide (i<ops.size))=nL ops.size true:=by
  apply zha;intro j;by_cases hj:j<ops.size<;>simp[hj]
 rw[e] at this;exact this
def rV.sees (K:Mb ops){bO:Array Bool}{t Tf:Array aF}(h:rV ops vals t0 bO t)(hf:rV ops vals t0 (nL ops.size true) Tf){i:Nat}{o:aZ}(hi:ops[i]? =some o)(tZ:∀e∈o.after,Fo .any e=true->bO.getD e.on false=true):
 ∀s∈o.looksAt ops,t[s]? =Tf[s]? :=by
 intro s hs;by_cases hex:∃(j:Nat) (oj:aZ),ops[j]? =some oj/\oj.dst=some s
 .obtain⟨j,oj,hj,hd⟩:=hex
  obtain⟨e,he,hb,rfl⟩:=K.rd i j o oj s hi hj hd hs;have hl:=tZ e he hb;have tY:e.on<ops.size:=(dQ.1 hj).1;by_cases hz:s<t0.size
  .rw[h.got _ oj s hj hd hz hl,hf.got _ oj s hj hd hz (by simp[tY])]
  .have Hi:t0.size<=s:=Nat.le_of_not_lt hz
   rw[Hj (by rw[h.size];exact Hi),Hj (by rw[hf.size];exact Hi)]
 .have hn:∀(j:Nat) (oj:aZ),ops[j]? =some oj->oj.dst≠some s:=λj oj hj hd=>hex ⟨j,oj,hj,hd⟩
  rw[h.old s (λj oj hj _=>hn j oj hj),hf.old s (λj oj hj _=>hn j oj hj)]
end
variable {t t':Array aF}
def zCF {x:cN}(h:∀s,x=.tmp s->t[s]? =t'[s]?):(bJ t []).eval x=(bJ t' []).eval x:=by
 cases x with
 |tmp s=>
  have:=h s rfl;show t.getD s aA=t'.getD s aA;simp only[tJ,this]
 |_=>rfl
variable {o:aZ}
def D9 (hs:∀cs b,o.op≠ .select cs b)(h:∀s∈o.looksAt ops,t[s]? =t'[s]?):aS (bJ t []).eval o=aS (bJ t' []).eval o:=
 execOp_congr o hs λx hx=>zCF λs e=>h s (by
  subst e;exact List.mem_append_left _ (List.mem_filterMap.2 ⟨.tmp s,by simpa using hx,rfl⟩))
def Zt (h:∀s∈o.looksAt ops,t[s]? =t'[s]?):dD o (dR ops t)=dD o (dR ops t'):=by
 unfold dD
 cases hg:o.guard with
 |none=>rfl
 |some gw=>
  obtain⟨g,want⟩:=gw;have hy:dR ops t g=dR ops t' g:=by
   unfold dR
   cases ht:(ops[g]?).bind (·.dst) with
   |none=>rfl
   |some s=>
    have:=h s (by simp[aZ.looksAt,hg,ht]);simp only[vN,this]
  simp only[hy]
section
variable {p:bR}{op gs gs₁ fs:aO->Bool}{St:Nat->Prop}{W0:aE}{Post:aF->aE->Prop}
def zt7 {ops:Array aZ}(K:Mb ops){bO:Array Bool}(hz:bO.size=ops.size)(h:Gx .any ops bO=[]):∀i,i<ops.size->bO.getD i false=true:=by
 intro i
 induction i using zj7 with
 |ind i ih=>
  intro hi;obtain⟨o,ho⟩:∃o,ops[i]? =some o:=⟨ops[i],mD hi⟩
  cases hl:bO.getD i false with
  |true=>rfl
  |false=>
   have hm:i∈Gx .any ops bO:=zjr.2 ⟨by
    have Be:i<bO.size:=aC;simp[Be] at hl⊢;exact hl,o,ho,λe he hb=>ih e.on (K.bk i o ho e he hb) (by have:=K.bk i o ho e he hb;omega)⟩
   rw[h] at hm;cases hm
end
abbrev wR (Tf:Array aF)(V:Nat->aF):Prop:=∀s,Tf.getD s aA=V s
def Hg (ops:Array aZ)(s:Nat):Bool:=ops.any λo=>o.dst==some s
def X1 (V:Nat->aF)(o:aZ):Value:=match o.dst with|some d=>V d|none=>aA
def zlh {i:Nat}{d:Tmp}(h:ops[i]? =some o)(hd:o.dst=some d):Hg ops d=true:=by
 unfold Hg;rw[U3];obtain⟨hi,e⟩:=dQ.1 h;exact⟨i,hi,by rw[e,hd];simp⟩
section
variable {ops:Array aZ}{Tf:Array aF}{V:Nat->aF}{o og:aZ}{j d:Nat}{want b:Bool}
def eD (h:o.guard=none){y:Nat->Option Bool}:dD o y=true:=by unfold dD;rw[h]
end
def zGm {n:Nat}(h2:(ops.all λo=>match o.dst with|some d=>decide (d<n)|none=>true)=true):∀s,Hg ops s=true->s<n:=by
 intro s hs;unfold Hg at hs;rw[U3] at hs;obtain⟨i,hi,e⟩:=hs;have h3:=Array.all_eq_true.1 h2 i hi;have e2:ops[i].dst=some s:=by simpa using e
 rw[e2] at h3;simpa using h3
def nU {Tf:Array aF}{V:Nat->aF}(hT:wR Tf V){s:Nat}{v:aF}(hv:V s=v):(bJ Tf []).eval (.tmp s)=v:=((hT s).trans hv)
section
variable {p:bR}{ρ:cN->aF}{o:aZ}{w:aE}
variable {A:Option Addr}{t:aM}
def zri {x:cN}{n c:Nat}{e:aM}(ho:o.op=.call ⟨.builtin .len,#[x],#[t]⟩)(hu:p.underlying t=some (.slice e))(hx:ρ x=.slice A n c):(aS ρ o).run p w=.ok (.value (.int .i64 n)) w:=by
 have M5:∀w,(underlying t).run p w=.ok (.slice e) w:=λw=>by simp[underlying,program,bD,bind,xR,pure,hu]
 unfold aS;rw[ho];simp[go_sem,hx,M5,Builtin.len_,uD]
def zc7 {s x:cN}{a b v:aF}{w':aE}(ho:o.op=.call ⟨.builtin .append,#[s,x],#[t,t]⟩)(hs:ρ s=a)(hx:ρ x=b)(hr:(wL #[t,t] o.type #[a,b]).run p w=.ok v w'):(aS ρ o).run p w=.ok (.value v) w':=by
 unfold aS;simp only[ho,resolve,invoke,builtin,Sem.run_bind,Sem.run_pure,Result.andThen_ok,List.map_toArray,fL,List.map_nil,hs,hx,hr]
end
def AllL (Q:Nat->aZ->Prop):Nat->List aZ->Prop
 |_,[]=>True
 |i,o::l=>Q i o/\AllL Q (i+1) l
variable {Q:Nat->aZ->Prop}
def zpe :∀(l:List aZ) (k:Nat),AllL Q k l->∀(i:Nat) (o:aZ),l[i]? =some o->Q (k+i) o
 |[],k,h,i,o,e=>by simp at e
 |x::l,k,h,0,o,e=>by simp at e;subst e;exact h.1
 |x::l,k,h,i+1,o,e=>by
  have:=zpe l (k+1) h.2 i o (by simpa using e);rw[show k+(i+1)=k+1+i by omega];exact this
def I2 {l:List aZ}(hl:ops.toList=l)(h:AllL Q 0 l):∀(i:Nat) (o:aZ),ops[i]? =some o->Q i o:=λi o e=>by
 have:=zpe l 0 h i o (by rw[<-hl,Ai];exact e)
 rwa [qX] at this
def wN (vals:Nat->aF):List (Option Tmp)->Nat->List aF->List aF
 |[],_,t=>t
 |none::l,i,t=>wN vals l (i+1) t
 |some d::l,i,t=>wN vals l (i+1) (t.set d (vals i))
def Ac (ops:Array aZ)(vals:Nat->aF)(t0:List aF):dC ops vals t0.toArray=(wN vals (ops.toList.map (·.dst)) 0 t0).toArray:=by
 have key:∀(l:List aZ) (k:Nat) (t:List aF),(∀i,l[i]? =ops[k+i]?)->
  (List.range' k l.length).foldl (λt i=>match(ops[i]?).bind (·.dst) with|some d=>t.setIfInBounds d (vals i)|none=>t) t.toArray=(wN vals (l.map (·.dst)) k t).toArray:=by
  intro l
  induction l with
  |nil=>intro k t _;rfl
  |cons o l ih=>
   intro k t h;have h0:=h 0;simp at h0;rw[pX,List.range'_succ,Qn,<-h0];simp only[vN,fL];have h1:∀i,l[i]? =ops[k+1+i]? :=λi=>by have:=h (i+1);simp at this;rw[this];congr 1;omega
   cases hd:o.dst with
   |none=>exact ih (k+1) t h1
   |some d=>
    simp only[List.setIfInBounds_toArray];exact ih (k+1) _ h1
 have:=key ops.toList 0 t0 (λi=>by simp);unfold dC;rw[List.range_eq_range',<-Array.length_toList];exact this
def Fj (o:aZ)(j:Nat):Bool:=o.after.any λe=>Fo .any e&&e.on==j
def Ii (ops:Array aZ):List Nat->Bool
 |a::b::l=>(match ops[b]? with|some o=>Fj o a|none=>false)&&Ii ops (b::l)
 |[a]=>decide (a<ops.size)
 |[]=>true
def zaC (ops:Array aZ):Nat->aZ->Nat->Bool
 |0,o,j=>Fj o j
 |n+1,o,j=>Fj o j||o.after.any λe=>Fo .any e&&(match ops[e.on]? with|some o'=>zaC ops n o' j|none=>false)
def zcM (ops:Array aZ)(ws:List Nat)(i k:Nat):Bool:=
 (ws.take k).all (λj=>match ops[j]? with|some o=>!zaC ops 5 o i|none=>true)&&(ws.drop k).all (λj=>match ops[i]? with|some o=>!Fj o j|none=>true)
inductive bP (P:bR)(ops:Array aZ)(ws:List Nat)(Wd:Nat->aE)(Tf:Array aF)(i:Nat)(o:aZ)(v:aF):Prop
 |no (hn:i∉ws) (h:dD o (dR ops Tf)=false) (hv:v=aA)
 |val (hn:i∉ws) (h:dD o (dR ops Tf)=true) (hx:∀k,k<=ws.length->zcM ops ws i k=true->(aS (bJ Tf []).eval o).run P (Wd k)=.ok (.value v) (Wd k))
 |act (k:Nat) (hk:ws[k]? =some i) (h:dD o (dR ops Tf)=true) (hx:(aS (bJ Tf []).eval o).run P (Wd k)=.ok (.value v) (Wd (k+1)))
 |skp (k:Nat) (hk:ws[k]? =some i) (h:dD o (dR ops Tf)=true) (hv:v=aA) (hx:(aS (bJ Tf []).eval o).run P (Wd k)=.ok .skip (Wd (k+1)))
 |actn (k:Nat) (hk:ws[k]? =some i) (h:dD o (dR ops Tf)=true) (hd:o.dst=none) (u:aF) (hx:(aS (bJ Tf []).eval o).run P (Wd k)=.ok (.value u) (Wd (k+1)))
section
variable {P:bR}{ops:Array aZ}{ws:List Nat}{Wd:Nat->aE}{Q:Exit->tP->aE->Prop}{t0 Tf:Array aF}{vals:Nat->aF}
structure Jh (ops:Array aZ)(ws:List Nat)(bO:Array Bool)(k:Nat):Prop where
 closed:∀(i:Nat) (o:aZ),ops[i]? =some o->bO.getD i false=true->∀j,Fj o j=true->bO.getD j false=true
 le:k<=ws.length
 pre:∀(n i:Nat),ws[n]? =some i->(bO.getD i false=true↔n<k)
def Jh.closedT {bO:Array Bool}{k:Nat}(h:Jh ops ws bO k):∀(n:Nat) (i:Nat) (o:aZ),ops[i]? =some o->bO.getD i false=true->∀j,zaC ops n o j=true->bO.getD j false=true
 |0,i,o,hi,hl,j,hj=>h.closed i o hi hl j hj
 |n+1,i,o,hi,hl,j,hj=>by
  simp only[zaC,Er] at hj;rcases hj with hj|hj
  .exact h.closed i o hi hl j hj
  .rw[U3] at hj
   obtain⟨x,hx,h3⟩:=hj;simp only[fT] at h3;obtain⟨h4,h5⟩:=h3;split at h5
   .next o' vG=>
    refine h.closedT n _ o' vG (h.closed i o hi hl _ ?_) j h5;unfold Fj;rw[U3];exact⟨x,hx,by simp[h4]⟩
   .cases h5
def zk9:∀{ws:List Nat},Ii ops ws=true->∀(n a b:Nat),ws[n]? =some a->ws[n+1]? =some b->∃o,ops[b]? =some o/\Fj o a=true
 |[],_,n,a,b,h,_=>by simp at h
 |[x],_,n,a,b,h,h'=>by simp at h'
 |x::y::l,hc,0,a,b,h,h'=>by
  simp at h h';subst h h';simp only[Ii,fT] at hc;have:=hc.1;split at this
  .next o e=>exact⟨o,e,this⟩
  .cases this
 |x::y::l,hc,n+1,a,b,h,h'=>by
  simp only[Ii,fT] at hc;exact zk9 hc.2 n a b zeM (by simpa using h')
def zt2 {l:Array Bool}{i:Nat}(h:l.getD i true=false):l.getD i false=false:=by
 rw[tJ] at h⊢
 cases e:l[i]? with
 |none=>rfl
 |some x=>rw[e] at h;exact h
def Jh.keep {bO:Array Bool}{k i:Nat}{o:aZ}(h:Jh ops ws bO k)(hi:ops[i]? =some o)(hn:i∉ws)(hd:∀j,Fj o j=true->bO.getD j false=true):Jh ops ws (bO.setIfInBounds i true) k:=by
 have mono:∀j,bO.getD j false=true->(bO.setIfInBounds i true).getD j false=true:=λj hj=>by
  by_cases e:j=i
  .subst e
   rw[tJ] at hj⊢
   cases e2:bO[j]? with
   |none=>rw[e2] at hj;cases hj
   |some x=>have:j<bO.size:=(dQ.1 e2).1;simp[this]
  .rw[Qa false (Ne.symm e)];exact hj
 refine⟨λa oa ha hl j hj=>?_,h.le,λn a ha=>?_⟩
 .by_cases e:a=i
  .subst e
   rw[hi] at ha;obtain rfl:=cE ha;exact mono j (hd j hj)
  .rw[Qa false (Ne.symm e)] at hl
   exact mono j (h.closed a oa ha hl j hj)
 .have e:a≠i:=λe=>hn (e▸dX ha)
  rw[Qa false (Ne.symm e)];exact h.pre n a ha
def Jh.next {bO:Array Bool}{k n i:Nat}{o:aZ}(lH:ws.Nodup)(hc:Ii ops ws=true)(h:Jh ops ws bO k)(hi:ops[i]? =some o)(hz:i<bO.size)(hn:ws[n]? =some i)(hu:bO.getD i false=false)(hd:∀j,Fj o j=true->bO.getD j false=true):
 n=k/\Jh ops ws (bO.setIfInBounds i true) (k+1):=by
 have oU:n<ws.length:=(jX.1 hn).1;have hk:n=k:=by
  have h1:¬n<k:=λx=>by have:=(h.pre n i hn).2 x;rw[hu] at this;cases this
  rcases mY k n with x|x
  .exfalso
   obtain⟨m,rfl⟩:∃m,n=m+1:=⟨n-1,aC⟩;obtain⟨a,ha⟩:∃a,ws[m]? =some a:=⟨ws[m],lV aC⟩;obtain⟨o',vG,hw⟩:=zk9 hc m a i ha hn;rw[hi] at vG;obtain rfl:=cE vG;have:=(h.pre m a ha).1 (hd a hw);omega
  .omega
 subst hk;have mono:∀j,bO.getD j false=true->(bO.setIfInBounds i true).getD j false=true:=λj hj=>by
  by_cases e:j=i
  .subst e;simp[hz]
  .rw[Qa false (Ne.symm e)];exact hj
 refine⟨rfl,λa oa ha hl j hj=>?_,aC,λm a ha=>?_⟩
 .by_cases e:a=i
  .subst e
   rw[hi] at ha;obtain rfl:=cE ha;exact mono j (hd j hj)
  .rw[Qa false (Ne.symm e)] at hl
   exact mono j (h.closed a oa ha hl j hj)
 .by_cases e:a=i
  .subst e
   have hm:m=n:=by
    have h1:m<ws.length:=(jX.1 ha).1;have e1:=(jX.1 ha).2;have e2:=(jX.1 hn).2;exact(List.getElem_inj lH).1 (e1.trans e2.symm)
   subst hm;simp[hz]
  .have hm:m≠n:=λx=>e (by subst x;rw[hn] at ha;exact(cE ha).symm)
   rw[Qa false (Ne.symm e),h.pre m a ha];omega
def zDz (t:Array aF)(d:List Ee):(bJ t d).eval=(bJ t []).eval:=by funext x;cases x<;>rfl
def zqJ (K:Mb ops):∀{ws:List Nat},Ii ops ws=true->∀(n i:Nat),ws[n]? =some i->i<ops.size
 |[],_,n,i,hi=>by simp at hi
 |[a],hc,0,i,hi=>by simp at hi;subst hi;simpa[Ii] using hc
 |[a],hc,n+1,i,hi=>by simp at hi
 |a::b::l,hc,0,i,hi=>by
  simp at hi;subst hi;obtain⟨o,h1,h2⟩:=zk9 hc 0 a b rfl rfl;unfold Fj at h2;rw[U3] at h2;obtain⟨x,hx,h3⟩:=h2;simp only[fT,beq_iff_eq] at h3;have:=K.bk b o h1 _ (zlo hx) h3.1;have hb:=(dQ.1 h1).1;omega
 |a::b::l,hc,n+1,i,hi=>by
  simp only[Ii,fT] at hc;exact zqJ K hc.2 n i zhg
def zCa (K:Mb ops)(lH:ws.Nodup)(hc:Ii ops ws=true)(hT:rV ops vals t0 (nL ops.size true) Tf){d:List Ee}
 (hop:∀(i:Nat) (o:aZ),ops[i]? =some o->bP P ops ws Wd Tf i o (vals i)) (hk:Q .normal ⟨Tf,d⟩ (Wd ws.length)):
 ∀(fuel:Nat) (bO:Array Bool) (t:Array aF) (k:Nat),bO.size=ops.size->((gN ops.size).filter λi=>!bO.getD i false).length<=fuel->rV ops vals t0 bO t->Jh ops ws bO k->
  wpAny P .any ops Q fuel bO ⟨t,d⟩ (Wd k):=by
 have zIl:=zqJ K hc;have fin:∀(bO:Array Bool) (t:Array aF) (k:Nat),bO.size=ops.size->(∀i,i<ops.size->bO.getD i false=true)->rV ops vals t0 bO t->Jh ops ws bO k->Q .normal ⟨t,d⟩ (Wd k):=by
  intro bO t k hz sX hm aY;have e:bO=nL ops.size true:=by
   apply zha;intro j;by_cases hj:j<ops.size
   .have:=sX j hj
    have tY:j<bO.size:=aC;simp[tY] at this;simp[hj,tY,this]
   .rw[Hj aC,Hj qR]
  subst e;have e2:=hm.unique hT;subst e2;have e3:k=ws.length:=by
   rcases mY k ws.length with x|x
   .have h1:ws[k]? =some ws[k]:=lV x
    have:=(aY.pre k _ h1).1 (sX _ (zIl k _ h1));omega
   .have:=aY.le;omega
  rw[e3];exact hk
 intro fuel
 induction fuel with
 |zero=>
  intro bO t k hz Wi hm aY;have sX:∀i,i<ops.size->bO.getD i false=true:=λi hi=>by
   cases hl:bO.getD i false with
   |true=>rfl
   |false=>
    have:i∈(gN ops.size).filter λi=>!bO.getD i false:=Ia.2 ⟨Bh.2 hi,by rw[hl];rfl⟩;have:=List.length_pos_of_mem this;omega
  refine⟨?_,fin bO t k hz sX hm aY⟩;apply List.eq_nil_iff_forall_not_mem.2;intro i hi;obtain⟨hu,o,ho,_⟩:=zjr.1 hi;have:=sX i (dQ.1 ho).1;rw[zt2 hu] at this;cases this
 |succ fuel ih=>
  intro bO t k hz Wi hm aY;refine⟨λhr=>fin bO t k hz (zt7 K hz hr) hm aY,λi hi=>?_⟩;obtain⟨hu,o,ho,tZ⟩:=zjr.1 hi;have M5:=zt2 hu;have lY:=hm.sees K hT ho tZ;have Wu:=hm.step K ho hz hu;have Be:i<ops.size:=(dQ.1 ho).1;have hw:∀j,Fj o j=true->bO.getD j false=true:=λj hj=>by
   unfold Fj at hj;rw[U3] at hj;obtain⟨x,hx,h3⟩:=hj;simp only[fT,beq_iff_eq] at h3;have:=tZ _ (zlo hx) h3.1
   rwa [h3.2] at this
  have zBC:((gN ops.size).filter λj=>!(bO.setIfInBounds i true).getD j false).length<=fuel:=by
   have aN:((gN ops.size).filter λj=>!(bO.setIfInBounds i true).getD j false).length<((gN ops.size).filter λj=>!bO.getD j false).length:=by
    have e:((gN ops.size).filter λj=>!(bO.setIfInBounds i true).getD j false)=((gN ops.size).filter λj=>!bO.getD j false).filter (λj=>j !=i):=by
     rw[List.filter_filter];apply List.filter_congr;intro j hj;by_cases e:j=i
     .subst e
      have:j<bO.size:=aC;simp[this]
     .rw[Qa false (Ne.symm e)]
      simp[e]
    rw[e];refine List.length_filter_lt_length_iff_exists.2 ⟨i,Ia.2 ⟨Bh.2 Be,?_⟩,aP⟩;rw[M5];rfl
   omega
  have put_eq:∀v,(cC ⟨t,d⟩ o.dst v)=⟨(match o.dst with|some s=>t.setIfInBounds s v|none=>t),d⟩:=λv=>by
   unfold cC;cases o.dst<;>rfl
  have goon:∀k',Jh ops ws (bO.setIfInBounds i true) k'->wpAny P .any ops Q fuel (bO.setIfInBounds i true) (cC ⟨t,d⟩ o.dst (vals i)) (Wd k'):=λk' Nn=>by
   rw[put_eq];exact ih _ _ k' (by simp[hz]) zBC Wu Nn
  have mP:(bJ t d).eval=(bJ t []).eval:=zDz t d;unfold wpOp;simp only[ho];rcases hop i o ho with⟨hn,h1,h2⟩|⟨hn,h1,h2⟩|⟨n,hn,h1,h2⟩|⟨n,hn,h1,hv,h2⟩|⟨n,hn,h1,hd,u,h2⟩
  .rw[if_neg (by rw[(Zt lY).trans h1];simp),<-h2]
   exact goon k (aY.keep ho hn hw)
  .rw[if_pos ((Zt lY).trans h1)]
   refine .inl ?_;have zCS:zcM ops ws i k=true:=by
    unfold zcM;rw[fT,tU,tU];refine⟨λj hj=>?_,λj hj=>?_⟩
    .obtain⟨m,Hb⟩:=zxJ hj
     rw[List.getElem?_take] at Hb;split at Hb
     .next zfO=>
      split
      .next oj hoj=>
       cases hq:zaC ops 5 oj i with
       |false=>rfl
       |true=>
        have:=aY.closedT 5 j oj hoj ((aY.pre m j Hb).2 zfO) i hq;rw[M5] at this;cases this
      .rfl
     .cases Hb
    .obtain⟨m,Hb⟩:=zxJ hj
     rw[List.getElem?_drop] at Hb;simp only[ho]
     cases hq:Fj o j with
     |false=>rfl
     |true=>
      have:=(aY.pre (k+m) j Hb).1 (hw j hq);omega
   show o.upon P ⟨t,d⟩ _ Q ((aS (bJ t d).eval o).run P (Wd k));rw[mP,D9 (K.sel i o ho) lY,h2 k aY.le zCS];exact goon k (aY.keep ho hn hw)
  .rw[if_pos ((Zt lY).trans h1)]
   refine .inl ?_;obtain⟨rfl,Nn⟩:=aY.next lH hc ho aC hn M5 hw;show o.upon P ⟨t,d⟩ _ Q ((aS (bJ t d).eval o).run P (Wd n));rw[mP,D9 (K.sel i o ho) lY,h2];exact goon _ Nn
  .rw[if_pos ((Zt lY).trans h1)]
   refine .inl ?_;obtain⟨rfl,Nn⟩:=aY.next lH hc ho aC hn M5 hw;show o.upon P ⟨t,d⟩ _ Q ((aS (bJ t d).eval o).run P (Wd n));rw[mP,D9 (K.sel i o ho) lY,h2];have:=goon _ Nn;rw[hv] at this;exact this
  .rw[if_pos ((Zt lY).trans h1)]
   refine .inl ?_;obtain⟨rfl,Nn⟩:=aY.next lH hc ho aC hn M5 hw;show o.upon P ⟨t,d⟩ _ Q ((aS (bJ t d).eval o).run P (Wd n));rw[mP,D9 (K.sel i o ho) lY,h2];have:=goon _ Nn;have e:∀x y,cC ⟨t,d⟩ o.dst x=cC ⟨t,d⟩ o.dst y:=λx y=>by rw[hd];rfl
   rw[e _ u] at this;exact this
def zAX {id:Nat}{w:aE}{d:List Ee}(hm:P.follows .mixedOrders=true)(bV:Iq ops=true)(lH:ws.Nodup)(hc:Ii ops ws=true)(h0:Wd 0={w with drawn:=w.drawn+1})(hT:dC ops vals t0=Tf)
 (hop:∀(i:Nat) (o:aZ),ops[i]? =some o->bP P ops ws Wd Tf i o (vals i)) (hk:Q .normal ⟨Tf,d⟩ (Wd ws.length)):(Code.region id ops true).wp P Q ⟨t0,d⟩ w:=by
 refine wp_region_any hm ?_;have K:=Tn bV;subst hT;rw[<-h0];refine zCa K lH hc (Sm K) hop hk ops.size _ t0 0 aP (eM (zaE _ _) aP) (rV.start _ λi=>by by_cases hi:i<ops.size<;>simp[hi]) ⟨λi o _ hl=>?_,jO _,λn i hn=>?_⟩
 .exfalso
  by_cases hi:i<ops.size<;>simp[hi] at hl
 .constructor
  .intro hl
   exfalso;by_cases hi:i<ops.size<;>simp[hi] at hl
  .intro x;omega
def Iy {id:Nat}{w:aE}{d:List Ee}(hm:P.follows .mixedOrders=true)(bV:Iq ops=true)(lH:ws.Nodup)(hc:Ii ops ws=true)(h0:Wd 0={w with drawn:=w.drawn+1})(cG:∀s,Hg ops s=true->s<t0.size)
 (h:∀V:Nat->aF,(∀(i:Nat) (o:aZ) (d:Tmp),ops[i]? =some o->o.dst=some d->V d=vals i)->(∀s,Hg ops s=false->V s=t0.getD s aA)->
  ∀Tf,wR Tf V->∀(i:Nat) (o:aZ),ops[i]? =some o->bP P ops ws Wd Tf i o (X1 V o)) (hk:Q .normal ⟨dC ops vals t0,d⟩ (Wd ws.length)):(Code.region id ops true).wp P Q ⟨t0,d⟩ w:=by
 have K:=Tn bV;have M:=Sm (vals:=vals) (t0:=t0) K
 let Tf:=dC ops vals t0
 have zkl:∀(i:Nat) (o:aZ) (d:Tmp),ops[i]? =some o->o.dst=some d->Tf.getD d aA=vals i:=λi o d h1 h2=>by
  have Be:=(dQ.1 h1).1;rw[tJ,M.got i o d h1 h2 (cG d (zlh h1 h2)) (by simp[Be])];rfl
 have zxA:∀s,Hg ops s=false->Tf.getD s aA=t0.getD s undef:=λs hs=>by
  rw[tJ,M.old s (λi o h1 _ h2=>by rw[zlh h1 h2] at hs;cases hs),tJ]
 have hop:=h (λs=>Tf.getD s aA) zkl zxA Tf (λs=>rfl)
 let Vn:Nat->Value:=λi=>match ops[i]? with|some o=>X1 (λs=>Tf.getD s aA) o|none=>aA
 have e:dC ops Vn t0=dC ops vals t0:=by
  refine(Sm (vals:=Vn) K).unique ⟨M.size,λi o d h1 h2 h3 h4=>?_,M.old⟩;rw[M.got i o d h1 h2 h3 h4];show some (vals i)=some (match ops[i]? with|some o=>X1 (λs=>Tf.getD s aA) o|none=>aA);rw[h1];simp only[X1,h2];rw[zkl i o d h1 h2]
 refine zAX hm bV lH hc h0 e (λi o h1=>?_) hk;have e2:Vn i=X1 (λs=>Tf.getD s aA) o:=by
  show(match ops[i]? with|some o=>X1 (λs=>Tf.getD s aA) o|none=>aA)=_;rw[h1]
 rw[e2];exact hop i o h1
end
end Go.Mt
namespace Go.Mt
open Go.Conc Go.Tt Go.RowKit
section
variable {P:bR}{ops:Array aZ}{ws:List Nat}{Wd:Nat->aE}{Tf:Array aF}{V:Nat->aF}{i d:Nat}{o:aZ}{v:aF}
def bP.pv (hn:i∉ws:=by decide)(h:dD o (dR ops Tf)=true:=by exact eD rfl)(hv:V d=v:=by assumption)
 (hx:∀w,(aS (bJ Tf []).eval o).run P w=.ok (.value v) w:=by intro w;unfold execOp;go_simp):bP P ops ws Wd Tf i o (V d):=hv▸ .val hn h λ_ _ _=>hx _
def early (ops:Array aZ)(ws:List Nat)(i:Nat):Bool:=(gN ws.length).all λk=>!zcM ops ws i (k+1)
def bP.ld {w0:aE}(h0:Wd 0=w0:=by assumption)(hn:i∉ws:=by decide)(h:dD o (dR ops Tf)=true:=by exact eD rfl)(hv:V d=v:=by assumption)(hm:early ops ws i=true:=by decide+kernel)
 (hx:(aS (bJ Tf []).eval o).run P w0=.ok (.value v) w0:=by unfold execOp;go_simp):bP P ops ws Wd Tf i o (V d):=hv▸ .val hn h λk hk zfO=>by
 rcases k with _|k
 .rw[h0];exact hx
 .have:=tU.1 hm k (Bh.2 aC)
  rw[zfO] at this;cases this
def bP.any (hx:∀k,k<=ws.length->zcM ops ws i k=true->(aS (bJ Tf []).eval o).run P (Wd k)=.ok (.value v) (Wd k))(hn:i∉ws:=by decide)(h:dD o (dR ops Tf)=true:=by exact eD rfl)(hv:V d=v:=by assumption):bP P ops ws Wd Tf i o (V d):=
 hv▸ .val hn h hx
def zipV (V:Nat->aF):List (Option Nat)->List aF->Prop
 |some d::D,v::l=>V d=v/\zipV V D l
 |none::D,_::l=>zipV V D l
 |_,_=>True
def zii:∀(D:List (Option Nat)) (l:List aF),(∀(i:Nat) (d:Nat),D[i]? =some (some d)->i<l.length->V d=l.getD i aA)->zipV V D l
 |some d::D,v::l,h=>⟨h 0 d rfl aP,zii D l λi d' e hi=>by simpa using h (i+1) d' (by simpa using e) zhg⟩
 |none::D,_::l,h=>zii D l λi d' e hi=>by simpa using h (i+1) d' (by simpa using e) zhg
 |[],_,_=>trivial
 |some _::_,[],_=>trivial
 |none::_,[],_=>trivial
def Ig {l:List aF}{D:List (Option Nat)}(hD:ops.toList.map (·.dst)=D)(hU:∀(i:Nat) (o:aZ) (d:Tmp),ops[i]? =some o->o.dst=some d->V d=l.getD i aA):zipV V D l:=
 zii D l λi d e _=>by
  rw[<-hD,List.getElem?_map] at e;obtain⟨o,h1,h2⟩:=xB.1 e;exact hU i o d (by rw[<-Ai];exact h1) h2
end
end Go.Mt
namespace Go.Proofs.YtfcjiloojkjaeaaGreatDoor
open Go.RowKit Go.Mt Go.Conc Go.Tt Go.Maps
def bodyRG:Go.Code:=(Tryz.f63.body).getD .skip
def rRG7:Go.Code:=match bodyRG with| .seq _ (.seq _ (.seq _ (.seq (a) _)))=>a|_=>.skip
def zeL:Array Oper:=match rRG7 with| .region _ ops _=>ops|_=>#[]
def zwh:zeL.toList=[⟨some 36,.fieldAddr 59 (.tmp 2) 2,0,"l6_office.go:151",#[],none⟩,⟨some 37,.load 45 (.tmp 36),45,"l6_office.go:151",#[⟨0,.data⟩],none⟩,⟨some 38,.fieldAddr 100 (.tmp 3) 0,0,"l6_office.go:151",#[],none⟩,⟨some 39,.load 3 (.tmp 38),3,"l6_office.go:151",#[⟨2,.data⟩],none⟩,⟨some 40,.move (.tmp 6),38,"l6_office.go:151",#[],none⟩,⟨some 41,.indexAddr 38 (.tmp 40) (.const (.int .i64 0)),0,"l6_office.go:151",#[⟨4,.data⟩],none⟩,⟨some 42,.load 3 (.tmp 41),3,"l6_office.go:151",#[⟨5,.data⟩],none⟩,⟨some 43,.fieldAddr 59 (.tmp 2) 1,0,"l6_office.go:151",#[],none⟩,⟨some 44,.load 3 (.tmp 43),3,"l6_office.go:151",#[⟨7,.data⟩],none⟩,⟨some 45,.build 50 #[(0,.tmp 39),(1,.tmp 42),(3,.tmp 44),(4,.const (.int .i64 (-1))),(5,.const (.int .i64 (-1))),(6,.const (.string {data:=#[111,112,101,110]}))],50,"l6_office.go:151",#[⟨3,.data⟩,⟨6,.data⟩,⟨8,.data⟩],none⟩,⟨some 46,.buildSlice 45 1 #[(0,.tmp 45)],45,"l6_office.go:151",#[⟨9,.data⟩],none⟩,⟨some 47,.call ⟨.builtin .append,#[.tmp 37,.tmp 46],#[45,45]⟩,45,"l6_office.go:151",#[⟨1,.data⟩,⟨10,.data⟩],none⟩,⟨some 48,.fieldAddr 59 (.tmp 2) 2,0,"l6_office.go:151",#[⟨0,.phase⟩,⟨1,.phase⟩,⟨2,.phase⟩,⟨3,.phase⟩,⟨4,.phase⟩,⟨5,.phase⟩,⟨6,.phase⟩,⟨7,.phase⟩,⟨8,.phase⟩,⟨9,.phase⟩,⟨10,.phase⟩,⟨11,.phase⟩],none⟩,⟨none,.store 45 (.tmp 48) (.tmp 47),0,"l6_office.go:151",#[⟨12,.data⟩,⟨11,.data⟩,⟨11,.chain⟩,⟨0,.phase⟩,⟨1,.phase⟩,⟨2,.phase⟩,⟨3,.phase⟩,⟨4,.phase⟩,⟨5,.phase⟩,⟨6,.phase⟩,⟨7,.phase⟩,⟨8,.phase⟩,⟨9,.phase⟩,⟨10,.phase⟩,⟨11,.phase⟩],none⟩]:=rfl
def WRG7 (w w3:aE)(gb gf gR nR cR g1 c1 nf cf:Nat)(cc l clk:Int):Nat->aE
 |0=>w.drew
 |1=>(w.alloc (.cells #[.int .i64 cc,.int .i64 l,.int .i64 0,.int .i64 clk,.int .i64 (-1),.int .i64 (-1),.string eO] 50)).drew
 |2=>w3
 |_=>w3.setCell ⟨gb,4,none⟩ (.slice (some ⟨g1,0,none⟩) (nR+1) c1)
def zs9:zeL.toList.map (·.dst)=[some 36,some 37,some 38,some 39,some 40,some 41,some 42,some 43,some 44,some 45,some 46,some 47,some 48,none]:=by rw[zwh];rfl
def lRG7 (w w3:aE)(gb gf gR nR cR g1 c1 nf cf:Nat)(cc l clk:Int):List Value:=[.pointer (some ⟨gb,4,none⟩),.slice (some ⟨gR,0,none⟩) nR cR,.pointer (some ⟨gb+1,0,none⟩),.int .i64 (cc),.slice (some ⟨gf,0,none⟩) nf cf,.pointer (some ⟨gf,0,none⟩),.int .i64 (l),.pointer (some ⟨gb,3,none⟩),.int .i64 (clk),.agg #[.int .i64 cc,.int .i64 l,.int .i64 0,.int .i64 clk,.int .i64 (-1),.int .i64 (-1),.string eO],.slice (some ⟨w.heap.size,0,none⟩) 1 1,.slice (some ⟨g1,0,none⟩) (nR+1) c1,.pointer (some ⟨gb,4,none⟩),aA]
def fRG7 (w w3:aE)(gb gf gR nR cR g1 c1 nf cf:Nat)(cc l clk:Int)(i:Nat):Value:=(lRG7 w w3 gb gf gR nR cR g1 c1 nf cf cc l clk).getD i aA
variable {Q:Exit->tP->aE->Prop}{d:List Ee}{t0:Array aF}
def wp_RG7 (w w3:aE)(gb gf gR nR cR g1 c1 nf cf:Nat)(cc l clk:Int)(hz:t0.size=60)(Sn:t0.getD 2 aA=.pointer (some ⟨gb,0,none⟩))(zkq:t0.getD 3 aA=.pointer (some ⟨gb+1,0,none⟩))(zaf:t0.getD 6 aA=.slice (some ⟨gf,0,none⟩) nf cf)(h3:w.cell? ⟨gb,3,none⟩=some (.int .i64 clk))(h4:w.cell? ⟨gb,4,none⟩=some (.slice (some ⟨gR,0,none⟩) nR cR))(hq:w.cell? ⟨gb+1,0,none⟩=some (.int .i64 cc))(hf:w.cell? ⟨gf,0,none⟩=some (.int .i64 l))(D5:0<nf)(fP:(wL #[45,45] 45 #[.slice (some ⟨gR,0,none⟩) nR cR,.slice (some ⟨w.heap.size,0,none⟩) 1 1]).run aK ((w.alloc (.cells #[.int .i64 cc,.int .i64 l,.int .i64 0,.int .i64 clk,.int .i64 (-1),.int .i64 (-1),.string eO] 50)).drew)=.ok (.slice (some ⟨g1,0,none⟩) (nR+1) c1) w3)(aY:w3.cell? ⟨gb,4,none⟩=some (.slice (some ⟨gR,0,none⟩) nR cR))(mR:w3.frozen? ⟨gb,4,none⟩=false)(h0:WRG7 w w3 gb gf gR nR cR g1 c1 nf cf cc l clk 0=w.drew)(hk:Q .normal ⟨dC zeL (fRG7 w w3 gb gf gR nR cR g1 c1 nf cf cc l clk) t0,d⟩ (w3.setCell ⟨gb,4,none⟩ (.slice (some ⟨g1,0,none⟩) (nR+1) c1))):
 (E6 7 zeL true).wp aK Q ⟨t0,d⟩ w:=by
 refine Iy (ws:=[10,11,13]) (Wd:=WRG7 w w3 gb gf gR nR cR g1 c1 nf cf cc l clk) (vals:=fRG7 w w3 gb gf gR nR cR g1 c1 nf cf cc l clk) vL.mixed aQ aH aQ h0 Jk (λV hU hV=>?_) hk;obtain⟨zDt,zrJ,zyc,zlX,zlx,zut,zre,zhJ,zxW,zli,Yd,zbZ,ziK,-⟩:=Ig zs9 hU;have e2:=(hV 2 aQ).trans Sn;have e3:=(hV 3 aQ).trans zkq;have e6:=(hV 6 aQ).trans zaf;have zgY:=h3;have L8:=h4;have Qo:=hq;have Ag:=hf;refine λTf hT=>I2 zwh ⟨bP.pv,bP.any (λkk fR hm=>?_),bP.pv,bP.ld,bP.pv,bP.any (λkk fR hm=>?_),bP.ld,bP.pv,bP.ld,bP.any (λkk fR hm=>?_),bP.act (v:=V 46) 0 rfl (eD rfl) ?_,bP.act (v:=V 47) 1 rfl (eD rfl) ?_,bP.pv,.skp 2 rfl (eD rfl) rfl ?_,trivial⟩
 .rcases kk with _|_|_|_|kk
  .show(aS _ _).run _ (w.drew)=wD _ (w.drew);have hh:=h4;unfold aS;go_simp
  .show(aS _ _).run _ ((w.alloc (.cells #[.int .i64 cc,.int .i64 l,.int .i64 0,.int .i64 clk,.int .i64 (-1),.int .i64 (-1),.string eO] 50)).drew)=wD _ ((w.alloc (.cells #[.int .i64 cc,.int .i64 l,.int .i64 0,.int .i64 clk,.int .i64 (-1),.int .i64 (-1),.string eO] 50)).drew);have hh:=Ax h4 (.cells #[.int .i64 cc,.int .i64 l,.int .i64 0,.int .i64 clk,.int .i64 (-1),.int .i64 (-1),.string eO] 50);unfold aS;go_simp
  .exact absurd hm Hm
  .exact absurd hm Hm
  .simp at fR
 .have aT:nf≠0:=by have:=D5;omega
  unfold aS;go_simp
 .unfold aS;go_simp;rfl
 .rw[Yd];show(aS _ _).run _ (w.drew)=wD _ ((w.alloc (.cells #[.int .i64 cc,.int .i64 l,.int .i64 0,.int .i64 clk,.int .i64 (-1),.int .i64 (-1),.string eO] 50)).drew);unfold aS;go_simp
 .rw[zbZ];exact zc7 rfl (nU hT zrJ) (nU hT Yd) fP
 .have hs:=aY;have hf:=mR;show(aS _ _).run _ (w3)=wD _ (w3.setCell ⟨gb,4,none⟩ (.slice (some ⟨g1,0,none⟩) (nR+1) c1));unfold aS;go_simp
def bodyRU:Go.Code:=(Tryz.f65.body).getD .skip
def rRU10:Go.Code:=match bodyRU with| .seq _ (.seq _ (.seq _ (.seq _ (.seq _ (.seq (a) _)))))=>a|_=>.skip
def zf5:Array Oper:=match rRU10 with| .region _ ops _=>ops|_=>#[]
def zvt:zf5.toList=[⟨some 38,.fieldAddr 59 (.tmp 2) 2,0,"l6_office.go:185",#[],none⟩,⟨some 39,.load 45 (.tmp 38),45,"l6_office.go:185",#[⟨0,.data⟩],none⟩,⟨some 40,.fieldAddr 100 (.tmp 7) 0,0,"l6_office.go:185",#[],none⟩,⟨some 41,.load 3 (.tmp 40),3,"l6_office.go:185",#[⟨2,.data⟩],none⟩,⟨some 42,.move (.tmp 6),38,"l6_office.go:185",#[],none⟩,⟨some 43,.indexAddr 38 (.tmp 42) (.const (.int .i64 0)),0,"l6_office.go:185",#[⟨4,.data⟩],none⟩,⟨some 44,.load 3 (.tmp 43),3,"l6_office.go:185",#[⟨5,.data⟩],none⟩,⟨some 45,.move (.tmp 1),3,"l6_office.go:185",#[],none⟩,⟨some 46,.fieldAddr 59 (.tmp 2) 1,0,"l6_office.go:185",#[],none⟩,⟨some 47,.load 3 (.tmp 46),3,"l6_office.go:185",#[⟨8,.data⟩],none⟩,⟨some 48,.fieldAddr 59 (.tmp 2) 1,0,"l6_office.go:185",#[],none⟩,⟨some 49,.load 3 (.tmp 48),3,"l6_office.go:185",#[⟨10,.data⟩],none⟩,⟨some 50,.build 50 #[(0,.tmp 41),(1,.tmp 44),(2,.tmp 45),(3,.tmp 47),(4,.tmp 49),(5,.const (.int .i64 (-1))),(6,.const (.string {data:=#[111,112,101,110]}))],50,"l6_office.go:185",#[⟨3,.data⟩,⟨6,.data⟩,⟨7,.data⟩,⟨9,.data⟩,⟨11,.data⟩],none⟩,⟨some 51,.buildSlice 45 1 #[(0,.tmp 50)],45,"l6_office.go:185",#[⟨12,.data⟩],none⟩,⟨some 52,.call ⟨.builtin .append,#[.tmp 39,.tmp 51],#[45,45]⟩,45,"l6_office.go:185",#[⟨1,.data⟩,⟨13,.data⟩],none⟩,⟨some 53,.fieldAddr 59 (.tmp 2) 2,0,"l6_office.go:185",#[⟨0,.phase⟩,⟨1,.phase⟩,⟨2,.phase⟩,⟨3,.phase⟩,⟨4,.phase⟩,⟨5,.phase⟩,⟨6,.phase⟩,⟨7,.phase⟩,⟨8,.phase⟩,⟨9,.phase⟩,⟨10,.phase⟩,⟨11,.phase⟩,⟨12,.phase⟩,⟨13,.phase⟩,⟨14,.phase⟩],none⟩,⟨none,.store 45 (.tmp 53) (.tmp 52),0,"l6_office.go:185",#[⟨15,.data⟩,⟨14,.data⟩,⟨14,.chain⟩,⟨0,.phase⟩,⟨1,.phase⟩,⟨2,.phase⟩,⟨3,.phase⟩,⟨4,.phase⟩,⟨5,.phase⟩,⟨6,.phase⟩,⟨7,.phase⟩,⟨8,.phase⟩,⟨9,.phase⟩,⟨10,.phase⟩,⟨11,.phase⟩,⟨12,.phase⟩,⟨13,.phase⟩,⟨14,.phase⟩],none⟩]:=rfl
def WRU10 (w w3:aE)(gb gc gf gR nR cR g1 c1 nf cf:Nat)(cc l op clk:Int):Nat->aE
 |0=>w.drew
 |1=>(w.alloc (.cells #[.int .i64 cc,.int .i64 l,.int .i64 op,.int .i64 clk,.int .i64 clk,.int .i64 (-1),.string eO] 50)).drew
 |2=>w3
 |_=>w3.setCell ⟨gb,4,none⟩ (.slice (some ⟨g1,0,none⟩) (nR+1) c1)
def zoQ:zf5.toList.map (·.dst)=[some 38,some 39,some 40,some 41,some 42,some 43,some 44,some 45,some 46,some 47,some 48,some 49,some 50,some 51,some 52,some 53,none]:=by rw[zvt];rfl
def lRU10 (w w3:aE)(gb gc gf gR nR cR g1 c1 nf cf:Nat)(cc l op clk:Int):List Value:=[.pointer (some ⟨gb,4,none⟩),.slice (some ⟨gR,0,none⟩) nR cR,.pointer (some ⟨gc,0,none⟩),.int .i64 (cc),.slice (some ⟨gf,0,none⟩) nf cf,.pointer (some ⟨gf,0,none⟩),.int .i64 (l),.int .i64 (op),.pointer (some ⟨gb,3,none⟩),.int .i64 (clk),.pointer (some ⟨gb,3,none⟩),.int .i64 (clk),.agg #[.int .i64 cc,.int .i64 l,.int .i64 op,.int .i64 clk,.int .i64 clk,.int .i64 (-1),.string eO],.slice (some ⟨w.heap.size,0,none⟩) 1 1,.slice (some ⟨g1,0,none⟩) (nR+1) c1,.pointer (some ⟨gb,4,none⟩),aA]
def zlO (w w3:aE)(gb gc gf gR nR cR g1 c1 nf cf:Nat)(cc l op clk:Int)(i:Nat):Value:=(lRU10 w w3 gb gc gf gR nR cR g1 c1 nf cf cc l op clk).getD i aA
def wp_RU10 (w w3:aE)(gb gc gf gR nR cR g1 c1 nf cf:Nat)(cc l op clk:Int)(hz:t0.size=59)(Ey:t0.getD 1 aA=.int .i64 (op))(Sn:t0.getD 2 aA=.pointer (some ⟨gb,0,none⟩))(zaf:t0.getD 6 aA=.slice (some ⟨gf,0,none⟩) nf cf)(Em:t0.getD 7 aA=.pointer (some ⟨gc,0,none⟩))(h3:w.cell? ⟨gb,3,none⟩=some (.int .i64 clk))(h4:w.cell? ⟨gb,4,none⟩=some (.slice (some ⟨gR,0,none⟩) nR cR))(hq:w.cell? ⟨gc,0,none⟩=some (.int .i64 cc))(hf:w.cell? ⟨gf,0,none⟩=some (.int .i64 l))(D5:0<nf)(fP:(wL #[45,45] 45 #[.slice (some ⟨gR,0,none⟩) nR cR,.slice (some ⟨w.heap.size,0,none⟩) 1 1]).run aK ((w.alloc (.cells #[.int .i64 cc,.int .i64 l,.int .i64 op,.int .i64 clk,.int .i64 clk,.int .i64 (-1),.string eO] 50)).drew)=.ok (.slice (some ⟨g1,0,none⟩) (nR+1) c1) w3)(aY:w3.cell? ⟨gb,4,none⟩=some (.slice (some ⟨gR,0,none⟩) nR cR))(mR:w3.frozen? ⟨gb,4,none⟩=false)(h0:WRU10 w w3 gb gc gf gR nR cR g1 c1 nf cf cc l op clk 0=w.drew)(hk:Q .normal ⟨dC zf5 (zlO w w3 gb gc gf gR nR cR g1 c1 nf cf cc l op clk) t0,d⟩ (w3.setCell ⟨gb,4,none⟩ (.slice (some ⟨g1,0,none⟩) (nR+1) c1))):
 (E6 10 zf5 true).wp aK Q ⟨t0,d⟩ w:=by
 refine Iy (ws:=[13,14,16]) (Wd:=WRU10 w w3 gb gc gf gR nR cR g1 c1 nf cf cc l op clk) (vals:=zlO w w3 gb gc gf gR nR cR g1 c1 nf cf cc l op clk) vL.mixed aQ aH aQ h0 Jk (λV hU hV=>?_) hk;obtain⟨zyc,zlX,zlx,zut,zre,zhJ,zxW,zli,Yd,zbZ,ziK,V4,zgx,Yf,Xy,zk1,-⟩:=Ig zoQ hU;have e1:=(hV 1 aQ).trans Ey;have e2:=(hV 2 aQ).trans Sn;have e6:=(hV 6 aQ).trans zaf;have e7:=(hV 7 aQ).trans Em;have zgY:=h3;have L8:=h4;have Qo:=hq;have Ag:=hf;refine λTf hT=>I2 zvt ⟨bP.pv,bP.any (λkk fR hm=>?_),bP.pv,bP.ld,bP.pv,bP.any (λkk fR hm=>?_),bP.ld,bP.pv,bP.pv,bP.ld,bP.pv,bP.ld,bP.any (λkk fR hm=>?_),bP.act (v:=V 51) 0 rfl (eD rfl) ?_,bP.act (v:=V 52) 1 rfl (eD rfl) ?_,bP.pv,.skp 2 rfl (eD rfl) rfl ?_,trivial⟩
 .rcases kk with _|_|_|_|kk
  .show(aS _ _).run _ (w.drew)=wD _ (w.drew);have hh:=h4;unfold aS;go_simp
  .show(aS _ _).run _ ((w.alloc (.cells #[.int .i64 cc,.int .i64 l,.int .i64 op,.int .i64 clk,.int .i64 clk,.int .i64 (-1),.string eO] 50)).drew)=wD _ ((w.alloc (.cells #[.int .i64 cc,.int .i64 l,.int .i64 op,.int .i64 clk,.int .i64 clk,.int .i64 (-1),.string eO] 50)).drew);have hh:=Ax h4 (.cells #[.int .i64 cc,.int .i64 l,.int .i64 op,.int .i64 clk,.int .i64 clk,.int .i64 (-1),.string eO] 50);unfold aS;go_simp
  .exact absurd hm Hm
  .exact absurd hm Hm
  .simp at fR
 .have aT:nf≠0:=by have:=D5;omega
  unfold aS;go_simp
 .unfold aS;go_simp;rfl
 .rw[Yf];show(aS _ _).run _ (w.drew)=wD _ ((w.alloc (.cells #[.int .i64 cc,.int .i64 l,.int .i64 op,.int .i64 clk,.int .i64 clk,.int .i64 (-1),.string eO] 50)).drew);unfold aS;go_simp
 .rw[Xy];exact zc7 rfl (nU hT zlX) (nU hT Yf) fP
 .have hs:=aY;have hf:=mR;show(aS _ _).run _ (w3)=wD _ (w3.setCell ⟨gb,4,none⟩ (.slice (some ⟨g1,0,none⟩) (nR+1) c1));unfold aS;go_simp
def bodyWT:Go.Code:=(Tryz.f67.body).getD .skip
def rWT10:Go.Code:=match bodyWT with| .seq _ (.seq _ (.seq _ (.seq _ (.seq (.seq _ (.block _ (.loop (.seq _ (.seq (.block _ (.seq _ (.seq _ (.cond _ (.seq _ (.seq (a) _)) _)))) _))))) _))))=>a|_=>.skip
def zg0:Array Oper:=match rWT10 with| .region _ ops _=>ops|_=>#[]
def zxO:zg0.toList=[⟨some 51,.fieldAddr 59 (.tmp 2) 4,0,"l6_office.go:213",#[],none⟩,⟨some 52,.load 57 (.tmp 51),57,"l6_office.go:213",#[⟨0,.data⟩],none⟩,⟨some 53,.move (.tmp 7),57,"l6_office.go:213",#[],none⟩,⟨some 54,.move (.tmp 8),3,"l6_office.go:213",#[],none⟩,⟨some 55,.indexAddr 57 (.tmp 53) (.tmp 54),0,"l6_office.go:213",#[⟨2,.data⟩,⟨3,.data⟩],none⟩,⟨some 56,.load 100 (.tmp 55),100,"l6_office.go:213",#[⟨4,.data⟩],none⟩,⟨some 57,.buildSlice 57 1 #[(0,.tmp 56)],57,"l6_office.go:213",#[⟨5,.data⟩],none⟩,⟨some 58,.call ⟨.builtin .append,#[.tmp 52,.tmp 57],#[57,57]⟩,57,"l6_office.go:213",#[⟨1,.data⟩,⟨6,.data⟩],none⟩,⟨some 59,.fieldAddr 59 (.tmp 2) 4,0,"l6_office.go:213",#[⟨0,.phase⟩,⟨1,.phase⟩,⟨2,.phase⟩,⟨3,.phase⟩,⟨4,.phase⟩,⟨5,.phase⟩,⟨6,.phase⟩,⟨7,.phase⟩],none⟩,⟨none,.store 57 (.tmp 59) (.tmp 58),0,"l6_office.go:213",#[⟨8,.data⟩,⟨7,.data⟩,⟨7,.chain⟩,⟨0,.phase⟩,⟨1,.phase⟩,⟨2,.phase⟩,⟨3,.phase⟩,⟨4,.phase⟩,⟨5,.phase⟩,⟨6,.phase⟩,⟨7,.phase⟩],none⟩]:=rfl
def WWT10 (w w3:aE)(gb gW nW cW gB nB cB g1 c1 k:Nat)(xc xp:Int):Nat->aE
 |0=>w.drew
 |1=>(w.alloc (.cells #[.int .i64 xc,.int .i64 xp] 100)).drew
 |2=>w3
 |_=>w3.setCell ⟨gb,6,none⟩ (.slice (some ⟨g1,0,none⟩) (nB+1) c1)
def zq8:zg0.toList.map (·.dst)=[some 51,some 52,some 53,some 54,some 55,some 56,some 57,some 58,some 59,none]:=by rw[zxO];rfl
def lWT10 (w w3:aE)(gb gW nW cW gB nB cB g1 c1 k:Nat)(xc xp:Int):List Value:=[.pointer (some ⟨gb,6,none⟩),.slice (some ⟨gB,0,none⟩) nB cB,.slice (some ⟨gW,0,none⟩) nW cW,.int .i64 (k:Int),.pointer (some ⟨gW,k*2,none⟩),.agg #[.int .i64 xc,.int .i64 xp],.slice (some ⟨w.heap.size,0,none⟩) 1 1,.slice (some ⟨g1,0,none⟩) (nB+1) c1,.pointer (some ⟨gb,6,none⟩),aA]
def ziw (w w3:aE)(gb gW nW cW gB nB cB g1 c1 k:Nat)(xc xp:Int)(i:Nat):Value:=(lWT10 w w3 gb gW nW cW gB nB cB g1 c1 k xc xp).getD i aA
def wp_WT10 (w w3:aE)(gb gW nW cW gB nB cB g1 c1 k:Nat)(xc xp:Int)(hz:t0.size=71)(Sn:t0.getD 2 aA=.pointer (some ⟨gb,0,none⟩))(Em:t0.getD 7 aA=.slice (some ⟨gW,0,none⟩) nW cW)(ziu:t0.getD 8 aA=.int .i64 (k:Int))(h6:w.cell? ⟨gb,6,none⟩=some (.slice (some ⟨gB,0,none⟩) nB cB))(sY:w.cell? ⟨gW,k*2,none⟩=some (.int .i64 xc))(Fs:w.cell? ⟨gW,k*2+1,none⟩=some (.int .i64 xp))(sV:k<nW)(fP:(wL #[57,57] 57 #[.slice (some ⟨gB,0,none⟩) nB cB,.slice (some ⟨w.heap.size,0,none⟩) 1 1]).run aK ((w.alloc (.cells #[.int .i64 xc,.int .i64 xp] 100)).drew)=.ok (.slice (some ⟨g1,0,none⟩) (nB+1) c1) w3)(aY:w3.cell? ⟨gb,6,none⟩=some (.slice (some ⟨gB,0,none⟩) nB cB))(mR:w3.frozen? ⟨gb,6,none⟩=false)(h0:WWT10 w w3 gb gW nW cW gB nB cB g1 c1 k xc xp 0=w.drew)(hk:Q .normal ⟨dC zg0 (ziw w w3 gb gW nW cW gB nB cB g1 c1 k xc xp) t0,d⟩ (w3.setCell ⟨gb,6,none⟩ (.slice (some ⟨g1,0,none⟩) (nB+1) c1))):
 (E6 10 zg0 true).wp aK Q ⟨t0,d⟩ w:=by
 refine Iy (ws:=[6,7,9]) (Wd:=WWT10 w w3 gb gW nW cW gB nB cB g1 c1 k xc xp) (vals:=ziw w w3 gb gW nW cW gB nB cB g1 c1 k xc xp) vL.mixed aQ aH aQ h0 Jk (λV hU hV=>?_) hk;obtain⟨Yf,Xy,zk1,zxj,zKA,zKH,zov,zuP,zAh,-⟩:=Ig zq8 hU;have e2:=(hV 2 aQ).trans Sn;have e7:=(hV 7 aQ).trans Em;have e8:=(hV 8 aQ).trans ziu;have zMd:=h6;have zM7:=sY;have zJ9:=Fs;refine λTf hT=>I2 zxO ⟨bP.pv,bP.any (λkk fR hm=>?_),bP.pv,bP.pv,bP.any (λkk fR hm=>?_),bP.ld,bP.act (v:=V 57) 0 rfl (eD rfl) ?_,bP.act (v:=V 58) 1 rfl (eD rfl) ?_,bP.pv,.skp 2 rfl (eD rfl) rfl ?_,trivial⟩
 .rcases kk with _|_|_|_|kk
  .show(aS _ _).run _ (w.drew)=wD _ (w.drew);have hh:=h6;unfold aS;go_simp
  .show(aS _ _).run _ ((w.alloc (.cells #[.int .i64 xc,.int .i64 xp] 100)).drew)=wD _ ((w.alloc (.cells #[.int .i64 xc,.int .i64 xp] 100)).drew);have hh:=Ax h6 (.cells #[.int .i64 xc,.int .i64 xp] 100);unfold aS;go_simp
  .exact absurd hm Hm
  .exact absurd hm Hm
  .simp at fR
 .have i0:(0:Int)<=(k:Int):=aC
  have i1:(k:Int)<(nW:Int):=by have:=sV;omega
  unfold aS;go_simp
 .rw[zov];show(aS _ _).run _ (w.drew)=wD _ ((w.alloc (.cells #[.int .i64 xc,.int .i64 xp] 100)).drew);unfold aS;go_simp
 .rw[zuP];exact zc7 rfl (nU hT Xy) (nU hT zov) fP
 .have hs:=aY;have hf:=mR;show(aS _ _).run _ (w3)=wD _ (w3.setCell ⟨gb,6,none⟩ (.slice (some ⟨g1,0,none⟩) (nB+1) c1));unfold aS;go_simp
end Go.Proofs.YtfcjiloojkjaeaaGreatDoor
namespace Go.Proofs.YtfcjiloojkjaeaaGreatDoor
open Go.RowKit
def Vh (lo:Nat)(v:fM)(w:aE)(bt:b6×List UInt8)(x:Ending)(w':aE):Prop:=
 ∃v',x=.returned (.tuple #[.agg (fU v' bt.1),.string ⟨bt.2.toArray⟩])/\eA w' lo v' bt.1/\oG v w w'/\xH w.heap.size v v'
structure Q9 (r:b6):Prop where
 off:sE r.o=true
 nr:r.recs.length<=1000
 nw:r.wait.length<=1000
 nb:r.back.length<=5000
 nl:r.log.length<=1000
 clk:0<=r.clk/\r.clk<=100000
abbrev Gm (c:bE):Obj:=.cells #[.int .i64 c.c,.int .i64 c.p] 100
variable {o:Option Nat}{i:Nat}
def Vu (h:o=some i):G5 o=(i:Int):=by rw[h];rfl
def zfk (h:o=none):G5 o= -1:=by rw[h];rfl
variable {o:jN}{rs:List bS}{l:Int}
def zet (h:l∈oE o rs):1<=l/\l<=o.ln:=by
 unfold oE xU at h;rw[Ia,Jr] at h;obtain⟨⟨i,hi,rfl⟩,_⟩:=h;rw[Bh] at hi;omega
variable {b:b6}
def zq5 {c:bE}(h:(jI b.recs c.c).isSome=true\/(vP b.back c.c).isSome=true):qB b c=(b,[107,110,111,119,110]):=by
 unfold qB;rw[if_pos (by rcases h with h|h<;>simp[h])]
def zH0 (lo:Nat)(v:fM)(r:b6)(c:bE)(w:aE)(h:eA w lo v r)(hs:Q9 r)(dV:lo<=w.heap.size):
 fH aK 63 #[.agg (fU v r),.agg #[.int .i64 c.c,.int .i64 c.p]] w (Vh lo v w (qB r c)):=by
 obtain⟨gb,eV⟩:=aU w.heap.size;have hl:=h.lts;obtain⟨O,hO⟩:=aU (.cells (fU v r) 59:Obj);obtain⟨C,hC⟩:=aU (.cells #[.int .i64 c.c,.int .i64 c.p] 100:Obj);obtain⟨Z,hZ⟩:=aU (jV:Obj);have iR:(((w.alloc O).alloc C).alloc Z).heap[gb]? =some (Gy v r):=by rw[hO,eV];exact dH (dH (lP _ _) _) _
 have n9:(((w.alloc O).alloc C).alloc Z).heap[gb+1]? =some (Gm c):=by rw[hC,eV];exact dH (mI _ _ aP) _
 have vI:(((w.alloc O).alloc C).alloc Z).heap[gb+2]? =some jV:=by rw[<-hZ];exact mI _ _ Y4
 have lO:=aD (((h.alloc O).alloc C).alloc Z);have Ed:=aD (oG.of_below v (dO (dO (dO (eG w.heap.size w) O) C) Z));have o9:=aD (show(((w.alloc O).alloc C).alloc Z).heap.size=gb+3 by rw[eV];simp);have Bw:=aD iR;have zaR:=aD n9;have zvi:=aD vI;have HO:=aD hO;have HC:=aD hC;have HZ:=aD (show Z=.cells #[.int .i64 0,.int .i64 0,.int .i64 0,.int .i64 0,.slice none 0 0,.slice none 0 0,.slice none 0 0,.slice none 0 0] 59 from hZ);have fS:=aD eV;have HL:=aD hl;clear hO hC hZ eV iR n9 vI h hl
 go_enter Tryz.func63,Tryz.ntmps63
 go_upto_region 1 with fail
 rw[<-HO.o,<-HC.o,<-HZ.o,<-fS.o];obtain⟨W1,dE⟩:=aU (((w.alloc O).alloc C).alloc Z);rw[<-dE] at Bw zaR zvi lO Ed o9⊢;clear dE;have k:=aJ Bw.o;obtain⟨k0,k1,k2,k3,k4,k5,k6,k7⟩:=eR k;clear k;have P8:=hs.nr
 go_upto_region 2 with(go_at_call 90;refine(zx2 lo v r W1 lO.o aC hs.off).mono ?_;rintro x w2 ⟨_,rfl,gf,cf,rfl,cP,b2⟩;have Ug:=aD cP;have rN:=aD b2;clear cP b2)
 have lI:=aD (lO.o.below rN.o);have Ut:=aD (Ed.o.same (oG.of_below v rN.o));have Gi:=(eI rN.o Bw.o).1;have H3:=(eI rN.o zaR.o).1;have jS:=aD (eI rN.o zvi.o).1;have zmB:=aD Gi;have zkM:=aD H3;have zfa:=aD (show gb+3<=w2.heap.size by have:=rN.o.size;have:=o9.o;omega);have zcS:=aD (Ug.o.lt gf rfl);clear k0 k1 k2 k3 k4 k5 k6 k7;have k:=aJ Gi;obtain⟨k0,k1,k2,k3,k4,k5,k6,k7⟩:=eR k;have q:=aJ H3;have q0:=q 0;have q1:=q 1;have r0:=eK jS.o;have z:=aJ jS.o;obtain⟨z0,z1,z2,z3,z4,z5,z6,z7⟩:=eR z;have vB:=aD lI.o.slcR;have D8:=aD lI.o.slcB;have nJ:=hs.nb;clear k q z Gi H3;rcases hop:jI r.recs c.c with _|i
 .have zbQ:=aD (zfk hop)
  rcases uH:vP r.back c.c with _|j
  .have Po:=aD (zfk uH)
   have eZ:=aD (show gP w w2 lo gb 3 v v r from⟨lI.o,Ut.o,xH.refl _ _,fS.o,zmB.o,zfa.o,aC,by have:=HL.o;have:=fS.o;omega,by have:=HL.o;have:=fS.o;omega,by have:=HL.o;have:=fS.o;omega,by have:=HL.o;have:=fS.o;omega,by rw[fS.o];exact dV⟩);rcases fQ:oE r.o r.recs with _|⟨l,fs⟩
   .have fK:=aD (show qB r c=({r with back:=r.back++[c]},[98,117,115,121]) by unfold qB;rw[if_neg (by simp[hop,uH]),fQ])
    simp only[r8];clear hop uH fQ;obtain⟨i0,eY,gX,dZ,jW⟩:=y3 zdI;have HI:=aD eY;clear eY
    go_upto_region 6 with(first
     |(go_at_call 91;refine(Js lo w2.heap.size r.recs.length v.cR (some ⟨v.gR,0,none⟩) r.recs c.c w2 vB.o aC).mono ?_;rintro x w' ⟨rfl,jT⟩;obtain rfl:=jT.symm;rw[zbQ.o])
     |(go_at_call 92;refine(zbr lo w2.heap.size r.back.length v.cB (some ⟨v.gB,0,none⟩) r.back c.c w2 D8.o aC).mono ?_;rintro x w' ⟨rfl,jT⟩;obtain rfl:=jT.symm;rw[Po.o])
     |(at_builtin;refine zlK _ rfl (.tmp 30) (.tmp 32) 57 rfl lo 100 i0 (.agg #[.int .i64 0,.int .i64 0]) 2 16 K9 HI.o gX dZ jW rfl aH v.gB v.cB r.back.length (bG r.back) rfl ((lI.o.alloc _).bk) ⟨_,0,none⟩ 1 1 c.cells rfl rfl ?c2 Sb ?c5 ?c6 ?c7 ?_;(case c2=>exact E7 (cs:=c.cells.toArray) (lP _ _));(case c5=>unfold maxLen;omega);(case c6=>omega);(case c7=>(have:=eZ.o.lob;have:=zfa.o;simp;omega));intro g1 c1 w3 qE qM B1 Hw;have Cm:=aD ((eZ.o.alloc _).appB qM qE rfl Hw);have zBe:=aD (zD qM (dH jS.o _) (by have:=eZ.o.aB;omega));have kx:=(zD qM (dH zmB.o _) (by have:=eZ.o.aB;omega)).1;have Pt:=aJ kx 6;have wU:=eK kx;clear qE qM B1 Hw kx))
    obtain⟨W4,sO⟩:=aU (w3.setCell ⟨gb,6,none⟩ (.slice (some ⟨g1,0,none⟩) (r.back.length+1) c1));rw[<-sO] at Cm⊢;have zyN:=aD (show W4.heap[gb+2]? =some jV by rw[sO];exact(eJ w3 _ _ (gb+2) zfR).trans zBe.o.1);clear sO Pt wU;obtain⟨v4,Li⟩:=aU ({v with gB:=g1,cB:=c1}:fM);obtain⟨r4,zlc⟩:=aU ({r with back:=r.back++[c]}:b6);rw[<-Li,<-zlc] at Cm;rw[<-zlc] at fK;clear Li zlc;have k:=aJ Cm.o.blk;obtain⟨k0,k1,k2,k3,k4,k5,k6,k7⟩:=eR k;have jS:=zyN;have z:=aJ jS.o;obtain⟨z0,z1,z2,z3,z4,z5,z6,z7⟩:=eR z;have r0:=eK jS.o;clear k z
    go_wp2_with fail
    have er:=aJ (sZ v4 r4 jS.o);refine qY (v:=.tuple #[.agg (fU (v4) (r4)),.string ⟨([98,117,115,121]:List UInt8).toArray⟩]) ?_ rfl ?_
    .unfold gV at er
     simp[results,zgq,go_sem,er]
    .rw[fK.o]
     obtain⟨d1,d2,d3⟩:=Cm.o.done (b:=gb+2) aC;exact⟨v4,rfl,d1,d2,d3⟩
   .obtain⟨nf,D5⟩:=aU ((l::fs).length)
    have yX:=zjk r.recs r.o.ln.toNat;have zl0:=(Cd hs.off).2.1;have De:(oE r.o r.recs).length=nf:=by rw[fQ,D5]
    have zAM:nf<=6:=by unfold oE at De;omega
    have zkz:0<nf:=by rw[D5];simp
    have Wp:=zet (o:=r.o) (rs:=r.recs) (l:=l) (by rw[fQ];simp);have Qi:=aD (show w2.ownsRow W1.heap.size 3 1 (.slice (some ⟨gf,0,none⟩) nf cf) nf (eH (l::fs)) by have:=Ug.o;rw[De,fQ] at this;exact this);have Lg:w2.cell? ⟨gf,0,none⟩=some (.int .i64 l):=Qi.o.cellAt 0 aC;rw[<-D5];have fK:=aD (show qB r c=({r with recs:=r.recs++[⟨c.c,l,0,r.clk,-1,-1,eO⟩],wait:=tH r.wait c},[108,105,110,101,32]++jM l) by unfold qB;rw[if_neg (by simp[hop,uH]),fQ]);have zqc:=aD Wp;have mR:((nf:Int)==0)=false:=qR;have zHq:(0:Int)<(nf:Int):=aC;clear hop uH fQ D5 yX zl0 De Wp
    go_upto_region 7 with(first
     |(go_at_call 91;refine(Js lo w2.heap.size r.recs.length v.cR (some ⟨v.gR,0,none⟩) r.recs c.c w2 vB.o aC).mono ?_;rintro x w' ⟨rfl,jT⟩;obtain rfl:=jT.symm;rw[zbQ.o])
     |(go_at_call 92;refine(zbr lo w2.heap.size r.back.length v.cB (some ⟨v.gB,0,none⟩) r.back c.c w2 D8.o aC).mono ?_;rintro x w' ⟨rfl,jT⟩;obtain rfl:=jT.symm;rw[Po.o]))
    go_cut [] from 36 to 48 (λwx=>∃g1 c1,gP w wx lo gb 3 v {v with gR:=g1,cR:=c1} {r with recs:=r.recs++[⟨c.c,l,0,r.clk,-1,-1,eO⟩]}/\wx.heap[gb+1]? =some (Gm c)/\wx.heap[gb+2]? =some jV/\wx.ownsRow W1.heap.size 3 1 (.slice (some ⟨gf,0,none⟩) nf cf) nf (eH (l::fs)))
    case first=>
     obtain⟨i0,eY,gX,dZ,jW⟩:=y3 zxq;have HI:=aD eY;clear eY;have zKX:=zcS.o;have zKL:gb+3<=W1.heap.size:=by have:=o9.o;omega
     have zjy:v.gR<gb:=by have:=HL.o;have:=fS.o;omega
     have kB:∀o:Obj,(w2.alloc o).cell? ⟨gb,4,none⟩=some (v.sR r):=λo=>Ax k4 o;have zmE:gb<w2.heap.size:=by have:=zfa.o;omega
     have S0:w2.cell? ⟨gb,3,none⟩=some (.int .i64 r.clk)/\w2.cell? ⟨gb+1,0,none⟩=some (.int .i64 c.c)/\w2.cell? ⟨gf,0,none⟩=some (.int .i64 l):=⟨k3,q0,Lg⟩;have Df:=aD S0;have zKl:gf≠gb:=aC;clear S0;obtain⟨g1,c1,w3,fP,qE,qM,B1,Hw⟩:=zdJ (P:=aK) (w2.alloc (.cells #[.int .i64 c.c,.int .i64 l,.int .i64 0,.int .i64 r.clk,.int .i64 (-1),.int .i64 (-1),.string eO] 50)).drew 45 45 lo 50 i0 (.agg #[.int .i64 0,.int .i64 0,.int .i64 0,.int .i64 0,.int .i64 0,.int .i64 0,.string ⟨#[]⟩]) 7 64 zyo HI.o gX dZ jW rfl aH v.gR v.cR r.recs.length (recs r.recs) (zX lI.o.rc (λb hb=>rA _ _ b hb)) ⟨w2.heap.size,0,none⟩ 1 1 (bS.cells ⟨c.c,l,0,r.clk,-1,-1,eO⟩) rfl (E7 (cs:=(bS.cells ⟨c.c,l,0,r.clk,-1,-1,eO⟩).toArray) (lP _ _)) zlf Ya aC (by have:=eZ.o.lob;have:=zfa.o;simp;omega);have sS:=aD qM;have zaK:=aD qE;have zcY:=aD Hw;have kx:=(zD qM (dH zmB.o _) aC).1;have zcU:=aJ kx 4;have wU:=eK kx;clear qE qM B1 Hw kx;refine wp_RG7 w2 w3 gb gf v.gR r.recs.length v.cR g1 c1 nf cf c.c l r.clk rfl rfl rfl rfl k3 k4 q0 Lg aC fP zcU (wU _) rfl ?_;clear fP zcU wU;rw[Go.Mt.Ac,zs9];simp only[Go.Mt.wN,dW,dS,fRG7,lRG7,C2,Cy]
     go_wp2_with fail
     go_meet
     have zzZ:gf≠v.gR:=aC;refine⟨g1,c1,((eZ.o.alloc _).drew).appR sS.o zaK.o rfl zcY.o,?_,?_,?_⟩
     .exact(eJ w3 _ _ (gb+1) Tj).trans (zD sS.o (J6 (dH zkM.o _)) aC).1
     .exact(eJ w3 _ _ (gb+2) zfR).trans (zD sS.o (J6 (dH jS.o _)) aC).1
     .exact Bi Qi.o ((eJ w3 _ _ gf znM).trans ((sS.o.block gf qR (by simp;exact zzZ)).trans (rA _ _ gf aC)))
    case rest=>
     obtain⟨g1,c1,Ar,H3,Gi,fQ⟩:=hcut;clear k0 k1 k2 k3 k4 k5 k6 k7 q0 q1 z0 z1 z2 z3 z4 z5 z6 z7 r0 Lg;have X3:=aD Ar;have zkM:=aD H3;have jS:=aD Gi;have Qi:=aD fQ;obtain⟨v1,oV⟩:=aU ({v with gR:=g1,cR:=c1}:fM);obtain⟨r1,kG⟩:=aU ({r with recs:=r.recs++[⟨c.c,l,0,r.clk,-1,-1,eO⟩]}:b6);have zMw:=aD (show r1.wait=r.wait by rw[kG]);have zCI:r1.wait.length<=1000:=by rw[kG];exact hs.nw
     rw[<-oV,<-kG] at X3;replace fK:=aD (show qB r c=({r1 with wait:=tH r1.wait c},[108,105,110,101,32]++jM l) by rw[fK.o,kG]);clear oV kG Ar H3 Gi fQ;have k:=aJ X3.o.blk;have k5:=k 5;have kf:=eK X3.o.blk;have q:=aJ zkM.o;have q0:=q 0;have q1:=q 1;clear k q
     go_upto_region 9 with(go_at_call 93;refine(zBo lo wc.heap.size r1.wait.length v1.cW v1.gW r1.wait c wc X3.o.ok.slcW aC).mono ?_;rintro x w4 ⟨_,rfl,g4,c4,rfl,cP,b4⟩;have Yz:=aD cP;have zbu:=aD b4;have kx:=(eI b4 X3.o.blk).1;have znh:=aJ kx 5;have wU:=eK kx;clear cP b4 kx)
     obtain⟨W5,zU⟩:=aU (w4.setCell ⟨gb,5,none⟩ (.slice (some ⟨g4,0,none⟩) (tH r1.wait c).length c4));have C8:=aD (show gP w W5 lo gb 3 v {v1 with gW:=g4,cW:=c4} {r1 with wait:=tH r1.wait c} by rw[zU];exact X3.o.setW zbu.o Yz.o rfl);have tE:=aD (show W5.heap[gb+2]? =some jV by rw[zU];exact(eJ w4 _ _ (gb+2) zfR).trans (eI zbu.o jS.o).1);have zvz:W5.ownsRow W1.heap.size 3 1 (.slice (some ⟨gf,0,none⟩) nf cf) nf (eH (l::fs)):=by
      rw[zU];have:=zcS.o;have:=o9.o;exact Bi Qi.o ((eJ w4 _ _ gf znM).trans (zbu.o.block gf (Qi.o.lt gf rfl).2))
     have Lg:W5.cell? ⟨gf,0,none⟩=some (.int .i64 l):=zvz.cellAt 0 aC;rw[<-zU];clear zU znh wU k5 kf q0 q1 zvz;obtain⟨v5,nO⟩:=aU ({v1 with gW:=g4,cW:=c4}:fM);obtain⟨r5,fG⟩:=aU ({r1 with wait:=tH r1.wait c}:b6);rw[<-nO,<-fG] at C8;rw[<-fG] at fK;clear nO fG;obtain⟨m,hm⟩:∃m:Nat,l=(m:Int):=⟨l.toNat,by have:=zqc.o;omega⟩;have Z7:m<=100000000:=by have:=zqc.o;have:=(Cd hs.off).2.1;omega
     have Fl:(Kq (m:Int)).length<=20:=by rw[Vy];exact Nb aC
     rw[hm] at Lg fK;clear hm;have k:=aJ C8.o.blk;obtain⟨k0,k1,k2,k3,k4,k5,k6,k7⟩:=eR k;clear k
     go_wp2_with fail
     go_region_with (go_at_call 94;refine(zbe m Z7 _).mono ?_;rintro x w6 ⟨rfl,tX⟩;have zV:bU W5.heap.size W5 w6:=⟨tX.os,tX.tape,tX.output,tX.size,tX.block⟩;have Kt:=aD zV;have k:=aJ (eI zV C8.o.blk).1;have r0:=eK (eI zV tE.o).1;have z:=aJ (eI zV tE.o).1;obtain⟨k0,k1,k2,k3,k4,k5,k6,k7⟩:=eR k;obtain⟨z0,z1,z2,z3,z4,z5,z6,z7⟩:=eR z;clear k z tX zV)
     all_goals
      go_wp2_with fail
      have Ew:=C8.o.keep Kt.o;have Se:=(eI Kt.o tE.o).1;have er:=aJ (sZ v5 r5 Se);refine qY (v:=.tuple #[.agg (fU v5 r5),.string ⟨([108,105,110,101,32]++jM (m:Int):List UInt8).toArray⟩]) ?_ rfl ?_
      .unfold gV at er
       simp[results,zgq,go_sem,er,jM,Hx]
       done
      .rw[fK.o]
       obtain⟨d1,d2,d3⟩:=Ew.done (b:=gb+2) aC;exact⟨v5,rfl,d1,d2,d3⟩
  .have Po:=aD (Vu uH)
   have zi0:(0:Int)<=(j:Int):=aC;have fK:=aD (zq5 (b:=r) (c:=c) (.inr (by rw[uH];rfl)));clear hop uH
   go_wp2_with (first
    |(go_at_call 91;refine(Js lo w2.heap.size r.recs.length v.cR (some ⟨v.gR,0,none⟩) r.recs c.c w2 vB.o aC).mono ?_;rintro x w' ⟨rfl,jT⟩;obtain rfl:=jT.symm;rw[zbQ.o])
    |(go_at_call 92;refine(zbr lo w2.heap.size r.back.length v.cB (some ⟨v.gB,0,none⟩) r.back c.c w2 D8.o aC).mono ?_;rintro x w' ⟨rfl,jT⟩;obtain rfl:=jT.symm;rw[Po.o]))
   have er:=aJ (sZ v r jS.o);refine qY (v:=.tuple #[.agg (fU (v) (r)),.string ⟨([107,110,111,119,110]:List UInt8).toArray⟩]) ?_ rfl ?_
   .unfold gV at er
    simp[results,zgq,go_sem,er]
   .rw[fK.o]
    have l:=HL.o;have gg:=fS.o;have l2:=lI.o.lts;exact⟨v,rfl,lI.o.set8 aC,Ut.o.set8 aC,xH.refl _ _⟩
 .have zbQ:=aD (Vu hop)
  have eY:(0:Int)<=(i:Int):=aC;have fK:=aD (zq5 (b:=r) (c:=c) (.inl (by rw[hop];rfl)));clear hop
  go_wp2_with (go_at_call 91;refine(Js lo w2.heap.size r.recs.length v.cR (some ⟨v.gR,0,none⟩) r.recs c.c w2 vB.o aC).mono ?_;rintro x w' ⟨rfl,jT⟩;obtain rfl:=jT.symm;rw[zbQ.o])
  have er:=aJ (sZ v r jS.o);refine qY (v:=.tuple #[.agg (fU (v) (r)),.string ⟨([107,110,111,119,110]:List UInt8).toArray⟩]) ?_ rfl ?_
  .unfold gV at er
   simp[results,zgq,go_sem,er]
  .rw[fK.o]
   have l:=HL.o;have gg:=fS.o;have l2:=lI.o.lts;exact⟨v,rfl,lI.o.set8 aC,Ut.o.set8 aC,xH.refl _ _⟩
structure zgv (r:b6):Prop where
 has:∀x∈r.wait,(jI r.recs x.c).isSome=true
 num:∀x∈r.wait,1<=x.c/\x.c<=99
variable {c:Int}
def Cg (h:jI rs c=some i):∃d,rs[i]? =some d/\d.c=c/\eL d=true:=by
 unfold jI at h;rw[List.findIdx?_eq_some_iff_getElem] at h;obtain⟨hi,hp,_⟩:=h;refine⟨rs[i],lV hi,?_⟩;unfold As at hp;simp at hp;exact hp
variable {w:aE}{r:b6}
def gP.widen {w0:aE}{lo gb:Nat}{v0 v:fM}(h:gP w0 w lo gb 2 v0 v r)(hg:v.gR<gb/\v.gW<gb/\v.gB<gb/\v.gL<gb)(hz:gb+3<=w.heap.size):gP w0 w lo gb 3 v0 v r:=
 ⟨h.ok,h.turn,h.moved,h.base,h.blk,hz,aC,.inl hg.1,.inl hg.2.1,.inl hg.2.2.1,.inl hg.2.2.2,h.lob⟩
def zBh (lo:Nat)(v:fM)(r:b6)(op:Int)(w:aE)(h:eA w lo v r)(hs:Q9 r)(dV:lo<=w.heap.size)(hq:zgv r):
 fH aK 64 #[.agg (fU v r),.int .i64 op] w (Vh lo v w (nH r op)):=by
 obtain⟨gb,O,Z,fS,HO,HZ,eZ,jS,o9,HL⟩:=ze2 h dV;clear h
 go_enter Tryz.func64,Tryz.ntmps64
 go_upto_region 1 with fail
 rw[<-HO.o,<-HZ.o,<-fS.o];obtain⟨W1,dE⟩:=aU ((w.alloc O).alloc Z);rw[<-dE] at eZ jS o9⊢;clear dE;have k:=aJ eZ.o.blk;obtain⟨k0,k1,k2,k3,k4,k5,k6,k7⟩:=eR k;clear k;have P8:=hs.nr;have vB:=aD eZ.o.ok.slcR;by_cases lN:0<dK r.recs op
 .have fK:=aD (show nH r op=(r,[116,97,108,107,115]) by unfold nH;rw[if_pos lN])
  go_upto_region 2 with(go_at_call 45;refine(Qu lo W1.heap.size r.recs.length v.cR (some ⟨v.gR,0,none⟩) r.recs op W1 vB.o aC).mono ?_;rintro x w2 ⟨rfl,jT⟩;obtain rfl:=jT.symm)
  clear k0 k1 k2 k3 k4 k5 k6 k7 lN;have k:=aJ eZ.o.blk;obtain⟨k0,k1,k2,k3,k4,k5,k6,k7⟩:=eR k;clear k;have z:=aJ jS.o;obtain⟨z0,z1,z2,z3,z4,z5,z6,z7⟩:=eR z;clear z;have r0:=eK jS.o
  go_wp2_with fail
  have er:=aJ (sZ v r jS.o);refine qY (v:=.tuple #[.agg (fU (v) (r)),.string ⟨([116,97,108,107,115]:List UInt8).toArray⟩]) ?_ rfl ?_
  .unfold gV at er
   simp[results,zh9,go_sem,er]
  .rw[fK.o]
   obtain⟨d1,d2,d3⟩:=eZ.o.done (b:=gb+1) aC;exact⟨v,rfl,d1,d2,d3⟩
 .rcases cD:r.wait with _|⟨c,cs⟩
  .have fK:=aD (show nH r op=(r,[110,111,110,101]) by unfold nH;rw[if_neg lN,cD])
   have Ev:r.wait.length=0:=by rw[cD];rfl
   have zk3:=aD (show v.sW r=.slice (some ⟨v.gW,0,none⟩) 0 v.cW by unfold fM.sW;rw[Ev]);have zvw:W1.cell? ⟨gb,5,none⟩=some (.slice (some ⟨v.gW,0,none⟩) 0 v.cW):=by rw[k5,<-zk3.o];rfl
   clear k5 Ev cD
   go_upto_region 4 with(go_at_call 45;refine(Qu lo W1.heap.size r.recs.length v.cR (some ⟨v.gR,0,none⟩) r.recs op W1 vB.o aC).mono ?_;rintro x w2 ⟨rfl,jT⟩;obtain rfl:=jT.symm)
   clear k0 k1 k2 k3 k4 zvw k6 k7 lN;have k:=aJ eZ.o.blk;obtain⟨k0,k1,k2,k3,k4,k5,k6,k7⟩:=eR k;clear k;have z:=aJ jS.o;obtain⟨z0,z1,z2,z3,z4,z5,z6,z7⟩:=eR z;clear z;have r0:=eK jS.o
   go_wp2_with fail
   have er:=aJ (sZ v r jS.o);refine qY (v:=.tuple #[.agg (fU (v) (r)),.string ⟨([110,111,110,101]:List UInt8).toArray⟩]) ?_ rfl ?_
   .unfold gV at er
    simp[results,zh9,go_sem,er]
   .rw[fK.o]
    obtain⟨d1,d2,d3⟩:=eZ.o.done (b:=gb+1) aC;exact⟨v,rfl,d1,d2,d3⟩
  .have hc:=hq.num c U7
   obtain⟨i,wH⟩:=zlA.1 (hq.has c U7);obtain⟨d,hd,zax,-⟩:=Cg wH;have fK:=aD (show nH r op=({r with recs:=r.recs.modify i λd=>{d with o:=op,h:=r.clk},wait:=dY r.wait c.c},[99,97,108,108,32]++jM c.c) by unfold nH;rw[if_neg lN,cD];simp only[wH]);have Ev:0<r.wait.length:=by rw[cD];simp
   have zig:=aD (show r.wait[0]? =some c by rw[cD];rfl);have Zp:=eZ.o.ok.slcW;have Qz:=aD Zp;obtain⟨b0,zAb,d0,Lb,-,-,-,sY,e0,e1⟩:=Zp.callsAt (k:=0) Ev;rw[zig.o] at sY;injection sY with sY;injection Lb with Lb;injection Lb with y8 y4;subst y8 y4 sY;simp only[qX,zbf] at e0 e1;have zGV:(((r.wait.length:Nat):Int)==0)=false:=by simp;intro e;rw[e] at Ev;simp at Ev
   have i0:(0:Int)<(r.wait.length:Int):=aC;have Mk:=aD (Vu wH);have HD:=aD hd;clear wH hd zax cD Zp
   go_upto_region 5 with(go_at_call 45;refine(Qu lo W1.heap.size r.recs.length v.cR (some ⟨v.gR,0,none⟩) r.recs op W1 vB.o aC).mono ?_;rintro x w2 ⟨rfl,jT⟩;obtain rfl:=jT.symm)
   clear k0 k1 k2 k3 k4 k6 k7 lN
   go_upto_region 6 with fail
   rw[o9.o];obtain⟨W2,qH⟩:=aU (W1.alloc (Gm c));rw[<-qH];have zc0:=aD (show gP w W2 lo gb 3 v v r by rw[qH];exact(eZ.o.alloc _).widen HL.o (by have:=o9.o;simp;omega));have C7:=aD (show W2.heap[gb+1]? =some jV by rw[qH];exact dH jS.o _);have zrf:=aD (show W2.heap[gb+2]? =some (Gm c) by rw[qH];exact mI _ _ o9.o.symm);clear qH e0 e1 k5;have zC6:=aD zc0.o.ok.slcR;have k:=aJ zc0.o.blk;obtain⟨k0,k1,k2,k3,k4,k5,k6,k7⟩:=eR k;clear k;have q:=aJ zrf.o;have q0:=q 0;have q1:=q 1;clear q
   go_upto_region 7 with(go_at_call 91;refine(Js lo W2.heap.size r.recs.length v.cR (some ⟨v.gR,0,none⟩) r.recs c.c W2 zC6.o aC).mono ?_;rintro x w2 ⟨rfl,jT⟩;obtain rfl:=jT.symm;rw[Mk.o])
   have hi:=(jX.1 HD.o).1;have eY:(0:Int)<=(i:Int):=aC;have zT:(i:Int)<(r.recs.length:Int):=aC;obtain⟨c0,c1,c2,c3,c4,c5,c6⟩:=zc0.o.ok.recAt HD.o;have fz:=λj=>zc0.o.ok.rc.frozenAt j;have S1:=zc0.o.setR (λd=>{d with o:=op}) HD.o (j:=2) (u:=.int .i64 op) aH zsp rfl;have l5:=aD S1;have Qd:gb+1≠v.gR:=by have:=HL.o;omega
   have zwe:gb+2≠v.gR:=by have:=HL.o;omega
   clear S1
   go_upto_region 8 with fail
   obtain⟨W3,rZ⟩:=aU (W2.setCell ⟨v.gR,i*7+2,none⟩ (.int .i64 op));rw[<-rZ] at l5⊢;have zan:=aD (show W3.heap[gb+1]? =some jV by rw[rZ];exact(eJ _ _ _ (gb+1) Qd).trans C7.o);have zeX:=aD (show W3.heap[gb+2]? =some (Gm c) by rw[rZ];exact(eJ _ _ _ (gb+2) zwe).trans zrf.o);have Ah:(r.recs.modify i λd=>{d with o:=op})[i]? =some {d with o:=op}:=by rw[zS];simp[HD.o]
   have zgQ:=aD Ah;clear rZ c0 c1 c2 c3 c4 c5 c6 fz k0 k1 k2 k3 k4 k5 k6 k7 q0 q1 Ah;obtain⟨r1,kG⟩:=aU ({r with recs:=r.recs.modify i λd=>{d with o:=op}}:b6);rw[<-kG] at l5;have lO:=aD kG;have Nl:r1.recs.length=r.recs.length:=by rw[kG];exact Gj _ _ _
   have zqd:=aD (show r1.recs[i]? =some {d with o:=op} by rw[kG];exact zgQ.o);have J0:(i:Int)<(r1.recs.length:Int):=by rw[Nl];exact zT
   clear kG Nl;have k:=aJ l5.o.blk;obtain⟨k0,k1,k2,k3,k4,k5,k6,k7⟩:=eR k;clear k;obtain⟨c0,c1,c2,c3,c4,c5,c6⟩:=l5.o.ok.recAt zqd.o;have fz:=λj=>l5.o.ok.rc.frozenAt j;have S2:=l5.o.setR (λd=>{d with h:=r1.clk}) zqd.o (j:=4) (u:=.int .i64 r1.clk) aH zpZ rfl;have sP:=aD S2;clear S2
   go_upto_region 9 with fail
   obtain⟨W4,sO⟩:=aU (W3.setCell ⟨v.gR,i*7+4,none⟩ (.int .i64 r1.clk));rw[<-sO] at sP⊢;have Tz:=aD (show W4.heap[gb+1]? =some jV by rw[sO];exact(eJ _ _ _ (gb+1) Qd).trans zan.o);have X6:=aD (show W4.heap[gb+2]? =some (Gm c) by rw[sO];exact(eJ _ _ _ (gb+2) zwe).trans zeX.o);clear sO c0 c1 c2 c3 c4 c5 c6 fz k0 k1 k2 k3 k4 k5 k6 k7;obtain⟨r2,Wy⟩:=aU ({r1 with recs:=r1.recs.modify i λd=>{d with h:=r1.clk}}:b6);rw[<-Wy] at sP;have zM8:r2.wait.length<=1000:=by rw[Wy,lO.o];exact hs.nw
   replace fK:=aD (show nH r op=({r2 with wait:=dY r2.wait c.c},[99,97,108,108,32]++jM c.c) by rw[fK.o,Wy,lO.o];simp only[zdl]);clear Wy;have zHV:=aD sP.o.ok.slcW;have k:=aJ sP.o.blk;obtain⟨k0,k1,k2,k3,k4,k5,k6,k7⟩:=eR k;clear k;have q:=aJ X6.o;have q0:=q 0;have q1:=q 1;clear q;have kf:=eK sP.o.blk
   go_upto_region 10 with(go_at_call 95;refine(zf0 lo W4.heap.size r2.wait.length v.cW (some ⟨v.gW,0,none⟩) r2.wait c.c W4 zHV.o aC).mono ?_;rintro x w5 ⟨_,rfl,g5,c5,rfl,cP,b5⟩;have zcI:=aD cP;have C9:=aD b5;have kx:=(eI b5 sP.o.blk).1;have znh:=aJ kx 5;have wU:=eK kx;clear cP b5 kx)
   obtain⟨W5,zU⟩:=aU (w5.setCell ⟨gb,5,none⟩ (.slice (some ⟨g5,0,none⟩) (dY r2.wait c.c).length c5));have C8:=aD (show gP w W5 lo gb 3 v {v with gW:=g5,cW:=c5} {r2 with wait:=dY r2.wait c.c} by rw[zU];exact sP.o.setW C9.o zcI.o rfl);have tE:=aD (show W5.heap[gb+1]? =some jV by rw[zU];exact(eJ w5 _ _ (gb+1) Tj).trans (eI C9.o Tz.o).1);have zlU:=aD (show W5.heap[gb+2]? =some (Gm c) by rw[zU];exact(eJ w5 _ _ (gb+2) zfR).trans (eI C9.o X6.o).1);rw[<-zU];clear zU znh wU kf q0 q1 k0 k1 k2 k3 k4 k5 k6 k7;obtain⟨v5,nO⟩:=aU ({v with gW:=g5,cW:=c5}:fM);obtain⟨r5,fG⟩:=aU ({r2 with wait:=dY r2.wait c.c}:b6);rw[<-nO,<-fG] at C8;rw[<-fG] at fK;clear nO fG;obtain⟨m,hm⟩:∃m:Nat,c.c=(m:Int):=⟨c.c.toNat,aC⟩;have Z7:m<=100000000:=aC;have Fl:(Kq (m:Int)).length<=20:=by rw[Vy];exact Nb aC
   have k:=aJ C8.o.blk;obtain⟨k0,k1,k2,k3,k4,k5,k6,k7⟩:=eR k;clear k;have q0:=aJ zlU.o 0;rw[hm] at q0 fK;clear hm
   go_wp2_with fail
   go_region_with (go_at_call 94;refine(zbe m Z7 _).mono ?_;rintro x w6 ⟨rfl,tX⟩;have zV:bU W5.heap.size W5 w6:=⟨tX.os,tX.tape,tX.output,tX.size,tX.block⟩;have Kt:=aD zV;have k:=aJ (eI zV C8.o.blk).1;have r0:=eK (eI zV tE.o).1;have z:=aJ (eI zV tE.o).1;obtain⟨k0,k1,k2,k3,k4,k5,k6,k7⟩:=eR k;obtain⟨z0,z1,z2,z3,z4,z5,z6,z7⟩:=eR z;clear k z tX zV)
   all_goals
    go_wp2_with fail
    have Ew:=C8.o.keep Kt.o;have Se:=(eI Kt.o tE.o).1;have er:=aJ (sZ v5 r5 Se);refine qY (v:=.tuple #[.agg (fU (v5) (r5)),.string ⟨([99,97,108,108,32]++jM (m:Int):List UInt8).toArray⟩]) ?_ rfl ?_
    .unfold gV at er
     simp[results,zh9,go_sem,er,jM,Hx]
    .rw[fK.o]
     obtain⟨d1,d2,d3⟩:=Ew.done (b:=gb+1) aC;exact⟨v5,rfl,d1,d2,d3⟩
def zA7 (lo:Nat)(v:fM)(r:b6)(op:Int)(w:aE)(h:eA w lo v r)(hs:Q9 r)(dV:lo<=w.heap.size)(hq:∀x∈r.back,1<=x.c/\x.c<=99):
 fH aK 65 #[.agg (fU v r),.int .i64 op] w (Vh lo v w (lZ r op)):=by
 obtain⟨gb,O,Z,fS,HO,HZ,eZ,jS,o9,HL⟩:=ze2 h dV;clear h
 go_enter Tryz.func65,Tryz.ntmps65
 go_upto_region 1 with fail
 rw[<-HO.o,<-HZ.o,<-fS.o];obtain⟨W1,dE⟩:=aU ((w.alloc O).alloc Z);rw[<-dE] at eZ jS o9⊢;clear dE;have k:=aJ eZ.o.blk;obtain⟨k0,k1,k2,k3,k4,k5,k6,k7⟩:=eR k;clear k;have P8:=hs.nr
 go_upto_region 2 with(go_at_call 90;refine(zx2 lo v r W1 eZ.o.ok aC hs.off).mono ?_;rintro x w2 ⟨_,rfl,gf,cf,rfl,cP,b2⟩;have Ug:=aD cP;have rN:=aD b2;clear cP b2)
 have nI:=aD (eZ.o.keep rN.o);have C7:=aD (eI rN.o jS.o).1;have zcS:=aD (Ug.o.lt gf rfl);clear k0 k1 k2 k3 k4 k5 k6 k7;have k:=aJ nI.o.blk;obtain⟨k0,k1,k2,k3,k4,k5,k6,k7⟩:=eR k;clear k;have vB:=aD nI.o.ok.slcR;by_cases lN:0<dK r.recs op
 .have fK:=aD (show lZ r op=(r,[116,97,108,107,115]) by unfold lZ;rw[if_pos lN])
  go_upto_region 3 with(go_at_call 45;refine(Qu lo w2.heap.size r.recs.length v.cR (some ⟨v.gR,0,none⟩) r.recs op w2 vB.o aC).mono ?_;rintro x w9 ⟨rfl,jT⟩;obtain rfl:=jT.symm)
  clear k0 k1 k2 k3 k4 k5 k6 k7 lN;have k:=aJ nI.o.blk;obtain⟨k0,k1,k2,k3,k4,k5,k6,k7⟩:=eR k;clear k;have z:=aJ C7.o;obtain⟨z0,z1,z2,z3,z4,z5,z6,z7⟩:=eR z;clear z;have r0:=eK C7.o
  go_wp2_with fail
  have er:=aJ (sZ v r C7.o);refine qY (v:=.tuple #[.agg (fU (v) (r)),.string ⟨([116,97,108,107,115]:List UInt8).toArray⟩]) ?_ rfl ?_
  .unfold gV at er
   simp[results,zen,go_sem,er]
  .rw[fK.o]
   obtain⟨d1,d2,d3⟩:=nI.o.done (b:=gb+1) aC;exact⟨v,rfl,d1,d2,d3⟩
 .rcases uX:r.back with _|⟨c,cs⟩
  .have fK:=aD (show lZ r op=(r,[110,111,110,101]) by unfold lZ;rw[if_neg lN,uX])
   have Ev:r.back.length=0:=by rw[uX];rfl
   have zk3:=aD (show v.sB r=.slice (some ⟨v.gB,0,none⟩) 0 v.cB by unfold fM.sB;rw[Ev]);have zgM:w2.cell? ⟨gb,6,none⟩=some (.slice (some ⟨v.gB,0,none⟩) 0 v.cB):=by rw[k6,<-zk3.o];rfl
   clear k6 Ev uX
   go_upto_region 5 with(go_at_call 45;refine(Qu lo w2.heap.size r.recs.length v.cR (some ⟨v.gR,0,none⟩) r.recs op w2 vB.o aC).mono ?_;rintro x w9 ⟨rfl,jT⟩;obtain rfl:=jT.symm)
   clear k0 k1 k2 k3 k4 k5 zgM k7 lN;have k:=aJ nI.o.blk;obtain⟨k0,k1,k2,k3,k4,k5,k6,k7⟩:=eR k;clear k;have z:=aJ C7.o;obtain⟨z0,z1,z2,z3,z4,z5,z6,z7⟩:=eR z;clear z;have r0:=eK C7.o
   go_wp2_with fail
   have er:=aJ (sZ v r C7.o);refine qY (v:=.tuple #[.agg (fU (v) (r)),.string ⟨([110,111,110,101]:List UInt8).toArray⟩]) ?_ rfl ?_
   .unfold gV at er
    simp[results,zen,go_sem,er]
   .rw[fK.o]
    obtain⟨d1,d2,d3⟩:=nI.o.done (b:=gb+1) aC;exact⟨v,rfl,d1,d2,d3⟩
  .have hc:=hq c zcO
   have Ev:0<r.back.length:=by rw[uX];simp
   have zig:=aD (show r.back[0]? =some c by rw[uX];rfl);have zGV:(((r.back.length:Nat):Int)==0)=false:=by simp;intro e;rw[e] at Ev;simp at Ev
   rcases fQ:oE r.o r.recs with _|⟨l,fs⟩
   .have fK:=aD (show lZ r op=(r,[98,117,115,121]) by unfold lZ;rw[if_neg lN,uX,fQ])
    simp only[r8];clear uX fQ
    go_upto_region 7 with(go_at_call 45;refine(Qu lo w2.heap.size r.recs.length v.cR (some ⟨v.gR,0,none⟩) r.recs op w2 vB.o aC).mono ?_;rintro x w9 ⟨rfl,jT⟩;obtain rfl:=jT.symm)
    clear k0 k1 k2 k3 k4 k5 k6 k7 lN;have k:=aJ nI.o.blk;obtain⟨k0,k1,k2,k3,k4,k5,k6,k7⟩:=eR k;clear k;have z:=aJ C7.o;obtain⟨z0,z1,z2,z3,z4,z5,z6,z7⟩:=eR z;clear z;have r0:=eK C7.o
    go_wp2_with fail
    have er:=aJ (sZ v r C7.o);refine qY (v:=.tuple #[.agg (fU (v) (r)),.string ⟨([98,117,115,121]:List UInt8).toArray⟩]) ?_ rfl ?_
    .unfold gV at er
     simp[results,zen,go_sem,er]
    .rw[fK.o]
     obtain⟨d1,d2,d3⟩:=nI.o.done (b:=gb+1) aC;exact⟨v,rfl,d1,d2,d3⟩
   .have fK:=aD (show lZ r op=({r with back:=dY r.back c.c,recs:=r.recs++[⟨c.c,l,op,r.clk,r.clk,-1,eO⟩]},[99,97,108,108,32]++jM c.c) by unfold lZ;rw[if_neg lN,uX,fQ])
    obtain⟨nf,D5⟩:=aU ((l::fs).length);have yX:=zjk r.recs r.o.ln.toNat;have zl0:=(Cd hs.off).2.1;have De:(oE r.o r.recs).length=nf:=by rw[fQ,D5]
    have zAM:nf<=6:=by unfold oE at De;omega
    have zkz:0<nf:=by rw[D5];simp
    have Qi:=aD (show w2.ownsRow W1.heap.size 3 1 (.slice (some ⟨gf,0,none⟩) nf cf) nf (eH (l::fs)) by have:=Ug.o;rw[De,fQ] at this;exact this);rw[<-D5];have mR:((nf:Int)==0)=false:=qR;have zHq:(0:Int)<(nf:Int):=aC;have i0:(0:Int)<(r.back.length:Int):=aC;have Db:=nI.o.ok.slcB;obtain⟨b0,zAb,d0,Lb,-,-,-,sY,e0,e1⟩:=Db.callsAt (k:=0) Ev;rw[zig.o] at sY;injection sY with sY;injection Lb with Lb;injection Lb with y8 y4;subst y8 y4 sY;simp only[qX,zbf] at e0 e1;clear uX fQ D5 yX zl0 De Db
    go_upto_region 8 with(go_at_call 45;refine(Qu lo w2.heap.size r.recs.length v.cR (some ⟨v.gR,0,none⟩) r.recs op w2 vB.o aC).mono ?_;rintro x w9 ⟨rfl,jT⟩;obtain rfl:=jT.symm)
    clear k0 k1 k2 k3 k4 k5 k7 lN
    go_upto_region 9 with fail
    obtain⟨gc,Tx⟩:=aU w2.heap.size;have zDr:=aD Tx;rw[<-Tx];obtain⟨W3,rZ⟩:=aU (w2.alloc (Gm c));rw[<-rZ];have zc3:=aD (show gP w W3 lo gb 2 v v r by rw[rZ];exact nI.o.alloc _);have zan:=aD (show W3.heap[gb+1]? =some jV by rw[rZ];exact dH C7.o _);have zeX:=aD (show W3.heap[gc]? =some (Gm c) by rw[rZ];exact mI _ _ Tx);have znY:=aD (show W3.ownsRow W1.heap.size 3 1 (.slice (some ⟨gf,0,none⟩) nf cf) nf (eH (l::fs)) by rw[rZ];exact zX Qi.o (λb hb=>rA _ _ b hb));clear rZ e0 e1 k6 Tx;have aN:=HL.o;have zLi:gb+2<=gf:=by have:=zcS.o;have:=o9.o;omega
    have zMz:gf<gc:=by have:=zcS.o;have:=zDr.o;omega
    have zEL:=aD zc3.o.ok.slcB;have nJ:=hs.nb;have k:=aJ zc3.o.blk;obtain⟨k0,k1,k2,k3,k4,k5,k6,k7⟩:=eR k;clear k;have q:=aJ zeX.o;have q0:=q 0;have q1:=q 1;clear q;have kf:=eK zc3.o.blk
    go_upto_region 10 with(go_at_call 95;refine(zf0 lo W3.heap.size r.back.length v.cB (some ⟨v.gB,0,none⟩) r.back c.c W3 zEL.o aC).mono ?_;rintro x w5 ⟨_,rfl,g5,c5,rfl,cP,b5⟩;have zcI:=aD cP;have C9:=aD b5;have kx:=(eI b5 zc3.o.blk).1;have Pt:=aJ kx 6;have wU:=eK kx;clear cP b5 kx)
    obtain⟨W4,sO⟩:=aU (w5.setCell ⟨gb,6,none⟩ (.slice (some ⟨g5,0,none⟩) (dY r.back c.c).length c5));have Cm:=aD (show gP w W4 lo gb 2 v {v with gB:=g5,cB:=c5} {r with back:=dY r.back c.c} by rw[sO];exact zc3.o.setB C9.o zcI.o rfl);have Tz:=aD (show W4.heap[gb+1]? =some jV by rw[sO];exact(eJ w5 _ _ (gb+1) Tj).trans (eI C9.o zan.o).1);have X6:=aD (show W4.heap[gc]? =some (Gm c) by rw[sO];exact(eJ w5 _ _ gc (by show gc≠gb;omega)).trans (eI C9.o zeX.o).1);have zEY:=aD (show W4.ownsRow W1.heap.size 3 1 (.slice (some ⟨gf,0,none⟩) nf cf) nf (eH (l::fs)) by rw[sO];exact Bi znY.o ((eJ w5 _ _ gf znM).trans (C9.o.block gf (znY.o.lt gf rfl).2)));rw[<-sO];clear sO Pt wU kf q0 q1 k0 k1 k2 k3 k4 k5 k6 k7;obtain⟨v1,oV⟩:=aU ({v with gB:=g5,cB:=c5}:fM);obtain⟨r1,kG⟩:=aU ({r with back:=dY r.back c.c}:b6);have zjy:v1.gR=v.gR:=by rw[oV]
    have zLK:v1.gR<gb:=by rw[zjy];exact aN.1
    have zJT:r1.recs.length<=1000:=by rw[kG];exact hs.nr
    rw[<-oV,<-kG] at Cm;replace fK:=aD (show lZ r op=({r1 with recs:=r1.recs++[⟨c.c,l,op,r1.clk,r1.clk,-1,eO⟩]},[99,97,108,108,32]++jM c.c) by rw[fK.o,kG]);clear oV kG zjy;have k:=aJ Cm.o.blk;obtain⟨k0,k1,k2,k3,k4,k5,k6,k7⟩:=eR k;clear k;have q0:=aJ X6.o 0;have Lg:W4.cell? ⟨gf,0,none⟩=some (.int .i64 l):=zEY.o.cellAt 0 aC;have zIu:gc<W4.heap.size:=gA X6.o
    go_cut [] from 38 to 53 (λwx=>∃g1 c1,gP w wx lo gb 2 v {v1 with gR:=g1,cR:=c1} {r1 with recs:=r1.recs++[⟨c.c,l,op,r1.clk,r1.clk,-1,eO⟩]}/\wx.heap[gc]? =some (Gm c)/\wx.heap[gb+1]? =some jV)
    case first=>
     obtain⟨i0,eY,gX,dZ,jW⟩:=y3 zxq;have HI:=aD eY;clear eY;have kB:∀o:Obj,(W4.alloc o).cell? ⟨gb,4,none⟩=some (v1.sR r1):=λo=>Ax k4 o;have zmE:gb<W4.heap.size:=aC;have S0:W4.cell? ⟨gb,3,none⟩=some (.int .i64 r1.clk)/\W4.cell? ⟨gc,0,none⟩=some (.int .i64 c.c)/\W4.cell? ⟨gf,0,none⟩=some (.int .i64 l):=⟨k3,q0,Lg⟩;have Df:=aD S0;clear S0;obtain⟨g1,c1,w3,fP,qE,qM,B1,Hw⟩:=zdJ (P:=aK) (W4.alloc (.cells #[.int .i64 c.c,.int .i64 l,.int .i64 op,.int .i64 r1.clk,.int .i64 r1.clk,.int .i64 (-1),.string eO] 50)).drew 45 45 lo 50 i0 (.agg #[.int .i64 0,.int .i64 0,.int .i64 0,.int .i64 0,.int .i64 0,.int .i64 0,.string ⟨#[]⟩]) 7 64 zyo HI.o gX dZ jW rfl aH v1.gR v1.cR r1.recs.length (recs r1.recs) (zX Cm.o.ok.rc (λb hb=>rA _ _ b hb)) ⟨W4.heap.size,0,none⟩ 1 1 (bS.cells ⟨c.c,l,op,r1.clk,r1.clk,-1,eO⟩) rfl (E7 (cs:=(bS.cells ⟨c.c,l,op,r1.clk,r1.clk,-1,eO⟩).toArray) (lP _ _)) zlf Ya aC (by have:=Cm.o.lob;simp;omega);have sS:=aD qM;have zaK:=aD qE;have zcY:=aD Hw;have kx:=(zD qM (dH Cm.o.blk _) aC).1;have zcU:=aJ kx 4;have wU:=eK kx;clear qE qM B1 Hw kx;refine wp_RU10 W4 w3 gb gc gf v1.gR r1.recs.length v1.cR g1 c1 _ _ c.c l op r1.clk rfl rfl rfl rfl rfl k3 k4 q0 Lg aC fP zcU (wU _) rfl ?_;clear fP zcU wU;rw[Go.Mt.Ac,zoQ];simp only[Go.Mt.wN,dW,dS,zlO,lRU10,C2,Cy]
     go_wp2_with fail
     go_meet
     refine⟨g1,c1,((Cm.o.alloc _).drew).appR sS.o zaK.o rfl zcY.o,?_,?_⟩
     .exact(eJ w3 _ _ gc (by show gc≠gb;omega)).trans (zD sS.o (J6 (dH X6.o _)) aC).1
     .exact(eJ w3 _ _ (gb+1) Tj).trans (zD sS.o (J6 (dH Tz.o _)) aC).1
    case rest=>
     obtain⟨g1,c1,Ar,H3,Gi⟩:=hcut;clear k0 k1 k2 k3 k4 k5 k6 k7 q0 Lg zIu;obtain⟨W5,zU⟩:=aU wc;have zlU:=aD (show W5.heap[gc]? =some (Gm c) by rw[zU];exact H3);have tE:=aD (show W5.heap[gb+1]? =some jV by rw[zU];exact Gi);have C8:=aD (show gP w W5 lo gb 2 v {v1 with gR:=g1,cR:=c1} {r1 with recs:=r1.recs++[⟨c.c,l,op,r1.clk,r1.clk,-1,eO⟩]} by rw[zU];exact Ar);clear Ar H3 Gi;rw[<-zU];clear zU;obtain⟨v5,nO⟩:=aU ({v1 with gR:=g1,cR:=c1}:fM);obtain⟨r5,fG⟩:=aU ({r1 with recs:=r1.recs++[⟨c.c,l,op,r1.clk,r1.clk,-1,eO⟩]}:b6);rw[<-nO,<-fG] at C8;rw[<-fG] at fK;clear nO fG;obtain⟨m,hm⟩:∃m:Nat,c.c=(m:Int):=⟨c.c.toNat,aC⟩;have Z7:m<=100000000:=aC;have Fl:(Kq (m:Int)).length<=20:=by rw[Vy];exact Nb aC
     have k:=aJ C8.o.blk;obtain⟨k0,k1,k2,k3,k4,k5,k6,k7⟩:=eR k;clear k;have q0:=aJ zlU.o 0;rw[hm] at q0 fK;clear hm
     go_wp2_with fail
     go_region_with (go_at_call 94;refine(zbe m Z7 _).mono ?_;rintro x w6 ⟨rfl,tX⟩;have zV:bU W5.heap.size W5 w6:=⟨tX.os,tX.tape,tX.output,tX.size,tX.block⟩;have Kt:=aD zV;have k:=aJ (eI zV C8.o.blk).1;have r0:=eK (eI zV tE.o).1;have z:=aJ (eI zV tE.o).1;obtain⟨k0,k1,k2,k3,k4,k5,k6,k7⟩:=eR k;obtain⟨z0,z1,z2,z3,z4,z5,z6,z7⟩:=eR z;clear k z tX zV)
     all_goals
      go_wp2_with fail
      have Ew:=C8.o.keep Kt.o;have Se:=(eI Kt.o tE.o).1;have er:=aJ (sZ v5 r5 Se);refine qY (v:=.tuple #[.agg (fU (v5) (r5)),.string ⟨([99,97,108,108,32]++jM (m:Int):List UInt8).toArray⟩]) ?_ rfl ?_
      .unfold gV at er
       simp[results,zen,go_sem,er,jM,Hx]
      .rw[fK.o]
       obtain⟨d1,d2,d3⟩:=Ew.done (b:=gb+1) aC;exact⟨v5,rfl,d1,d2,d3⟩
def zFR (lo:Nat)(v:fM)(r:b6)(call:Int)(w:aE)(h:eA w lo v r)(hs:Q9 r)(dV:lo<=w.heap.size):
 fH aK 66 #[.agg (fU v r),.int .i64 call] w (Vh lo v w (mJ r call)):=by
 obtain⟨gb,O,Z,fS,HO,HZ,eZ,jS,o9,HL⟩:=ze2 h dV;clear h
 go_enter Tryz.func66,Tryz.ntmps66
 go_upto_region 1 with fail
 rw[<-HO.o,<-HZ.o,<-fS.o];obtain⟨W1,dE⟩:=aU ((w.alloc O).alloc Z);rw[<-dE] at eZ jS o9⊢;clear dE;have k:=aJ eZ.o.blk;obtain⟨k0,k1,k2,k3,k4,k5,k6,k7⟩:=eR k;clear k;have P8:=hs.nr;have Jw:=hs.nw;have nJ:=hs.nb;have vB:=aD eZ.o.ok.slcR;have D8:=aD eZ.o.ok.slcB;have Qd:gb+1≠v.gR:=by have:=HL.o;omega
 have zab:gb+1≠v.gB:=by have:=HL.o;omega
 have z:=aJ jS.o;obtain⟨z0,z1,z2,z3,z4,z5,z6,z7⟩:=eR z;clear z;have r0:=eK jS.o;rcases wH:jI r.recs call with _|i
 .have Mk:=aD (zfk wH)
  rcases uH:vP r.back call with _|j
  .have Po:=aD (zfk uH)
   have fK:=aD (show mJ r call=(r,[103,111,110,101]) by unfold mJ;rw[wH];simp[uH]);clear wH uH
   go_upto_region 9 with(first|(go_at_call 91;refine(Js lo W1.heap.size r.recs.length v.cR (some ⟨v.gR,0,none⟩) r.recs call W1 vB.o aC).mono ?_;rintro x w9 ⟨rfl,jT⟩;obtain rfl:=jT.symm;rw[Mk.o])|(go_at_call 92;refine(zbr lo W1.heap.size r.back.length v.cB (some ⟨v.gB,0,none⟩) r.back call W1 D8.o aC).mono ?_;rintro x w9 ⟨rfl,jT⟩;obtain rfl:=jT.symm;rw[Po.o]))
   clear k0 k1 k2 k3 k4 k5 k6 k7 z0 z1 z2 z3 z4 z5 z6 z7 r0;have k:=aJ eZ.o.blk;obtain⟨k0,k1,k2,k3,k4,k5,k6,k7⟩:=eR k;clear k;have z:=aJ jS.o;obtain⟨z0,z1,z2,z3,z4,z5,z6,z7⟩:=eR z;clear z;have r0:=eK jS.o
   go_wp2_with fail
   have er:=aJ (sZ v r jS.o);refine qY (v:=.tuple #[.agg (fU (v) (r)),.string ⟨([103,111,110,101]:List UInt8).toArray⟩]) ?_ rfl ?_
   .unfold gV at er
    simp[results,zeI,go_sem,er]
   .rw[fK.o]
    obtain⟨d1,d2,d3⟩:=eZ.o.done (b:=gb+1) aC;exact⟨v,rfl,d1,d2,d3⟩
  .have Po:=aD (Vu uH)
   have zi0:(0:Int)<=(j:Int):=aC;have fK:=aD (show mJ r call=({r with back:=dY r.back call},[111,102,102]) by unfold mJ;rw[wH];simp[uH]);clear wH uH
   go_upto_region 7 with(first|(go_at_call 91;refine(Js lo W1.heap.size r.recs.length v.cR (some ⟨v.gR,0,none⟩) r.recs call W1 vB.o aC).mono ?_;rintro x w9 ⟨rfl,jT⟩;obtain rfl:=jT.symm;rw[Mk.o])|(go_at_call 92;refine(zbr lo W1.heap.size r.back.length v.cB (some ⟨v.gB,0,none⟩) r.back call W1 D8.o aC).mono ?_;rintro x w9 ⟨rfl,jT⟩;obtain rfl:=jT.symm;rw[Po.o]))
   have kf:=eK eZ.o.blk
   go_upto_region 8 with(go_at_call 95;refine(zf0 lo W1.heap.size r.back.length v.cB (some ⟨v.gB,0,none⟩) r.back call W1 D8.o aC).mono ?_;rintro x w5 ⟨_,rfl,g5,c5,rfl,cP,b5⟩;have zcI:=aD cP;have C9:=aD b5;have kx:=(eI b5 eZ.o.blk).1;have Pt:=aJ kx 6;have wU:=eK kx;clear cP b5 kx)
   obtain⟨W4,sO⟩:=aU (w5.setCell ⟨gb,6,none⟩ (.slice (some ⟨g5,0,none⟩) (dY r.back call).length c5));have Cm:=aD (show gP w W4 lo gb 2 v {v with gB:=g5,cB:=c5} {r with back:=dY r.back call} by rw[sO];exact eZ.o.setB C9.o zcI.o rfl);have Tz:=aD (show W4.heap[gb+1]? =some jV by rw[sO];exact(eJ w5 _ _ (gb+1) Tj).trans (eI C9.o jS.o).1);rw[<-sO];clear sO Pt wU kf k0 k1 k2 k3 k4 k5 k6 k7 z0 z1 z2 z3 z4 z5 z6 z7 r0;obtain⟨v5,nO⟩:=aU ({v with gB:=g5,cB:=c5}:fM);obtain⟨r5,fG⟩:=aU ({r with back:=dY r.back call}:b6);rw[<-nO,<-fG] at Cm;rw[<-fG] at fK;clear nO fG;have k:=aJ Cm.o.blk;obtain⟨k0,k1,k2,k3,k4,k5,k6,k7⟩:=eR k;clear k;have z:=aJ Tz.o;obtain⟨z0,z1,z2,z3,z4,z5,z6,z7⟩:=eR z;clear z;have r0:=eK Tz.o
   go_wp2_with fail
   have er:=aJ (sZ v5 r5 Tz.o);refine qY (v:=.tuple #[.agg (fU (v5) (r5)),.string ⟨([111,102,102]:List UInt8).toArray⟩]) ?_ rfl ?_
   .unfold gV at er
    simp[results,zeI,go_sem,er]
   .rw[fK.o]
    obtain⟨d1,d2,d3⟩:=Cm.o.done (b:=gb+1) aC;exact⟨v5,rfl,d1,d2,d3⟩
 .have Mk:=aD (Vu wH)
  obtain⟨d,hd,-,-⟩:=Cg wH;have hi:=(jX.1 hd).1;have eY:(0:Int)<=(i:Int):=aC;have zT:(i:Int)<(r.recs.length:Int):=aC;have hop:opAt r.recs i=d.o:=by unfold opAt;rw[hd]
  obtain⟨c0,c1,c2,c3,c4,c5,c6⟩:=eZ.o.ok.recAt hd;have HD:=aD hd;by_cases zym:0<d.o
  .have fK:=aD (show mJ r call=(lD r i F5,[100,111,110,101]) by unfold mJ;rw[wH];simp only;rw[if_pos (by rw[hop];exact zym)])
   clear wH hd hop
   go_upto_region 3 with(go_at_call 91;refine(Js lo W1.heap.size r.recs.length v.cR (some ⟨v.gR,0,none⟩) r.recs call W1 vB.o aC).mono ?_;rintro x w9 ⟨rfl,jT⟩;obtain rfl:=jT.symm;rw[Mk.o])
   clear c0 c1 c2 c3 c4 c5 c6 z0 z1 z2 z3 z4 z5 z6 z7 r0
   go_wp2_with (go_at_call 96;refine(zkn lo i v r d F5 W1 eZ.o.ok HD.o aC aC zqf).mono ?_;rintro x w5 ⟨g5,c5,rfl,bV,jQ,Kk⟩;obtain⟨v5,nO⟩:=aU ({v with gW:=g5,cW:=c5}:fM);obtain⟨r5,fG⟩:=aU (lD r i F5:b6);rw[<-nO,<-fG] at bV⊢;have Xn:=aD nO;have o7:=aD fG;have wG:=aD bV;have uG:=aD jQ;have zin:=aD Kk;have kr:=jQ.blk jS.o Qd zab;have tE:=aD kr;have z:=aJ kr;have r0:=eK kr;obtain⟨z0,z1,z2,z3,z4,z5,z6,z7⟩:=eR z;clear bV jQ Kk kr z nO fG)
   have nO:=Xn.o;have fG:=o7.o;rw[<-fG] at fK;have er:=aJ (sZ v5 r5 tE.o);refine qY (v:=.tuple #[.agg (fU (v5) (r5)),.string ⟨([100,111,110,101]:List UInt8).toArray⟩]) ?_ rfl ?_
   .unfold gV at er
    simp[results,zeI,go_sem,er]
   .rw[fK.o]
    have hl:=HL.o;have hz:=o9.o;have hg:=zin.o;have eV:=fS.o;exact⟨v5,rfl,wG.o.set8 (by rw[nO];simp only;omega),(eZ.o.turn.same uG.o).set8 aC,by rw[nO];exact⟨.inl rfl,.inr Ku,.inl rfl,rfl⟩⟩
  .have fK:=aD (show mJ r call=(lD r i Bv,[108,101,102,116]) by unfold mJ;rw[wH];simp only;rw[if_neg (by rw[hop];exact zym)])
   clear wH hd hop
   go_upto_region 5 with(go_at_call 91;refine(Js lo W1.heap.size r.recs.length v.cR (some ⟨v.gR,0,none⟩) r.recs call W1 vB.o aC).mono ?_;rintro x w9 ⟨rfl,jT⟩;obtain rfl:=jT.symm;rw[Mk.o])
   clear c0 c1 c2 c3 c4 c5 c6 z0 z1 z2 z3 z4 z5 z6 z7 r0
   go_wp2_with (go_at_call 96;refine(zkn lo i v r d Bv W1 eZ.o.ok HD.o aC aC zqf).mono ?_;rintro x w5 ⟨g5,c5,rfl,bV,jQ,Kk⟩;obtain⟨v5,nO⟩:=aU ({v with gW:=g5,cW:=c5}:fM);obtain⟨r5,fG⟩:=aU (lD r i Bv:b6);rw[<-nO,<-fG] at bV⊢;have Xn:=aD nO;have o7:=aD fG;have wG:=aD bV;have uG:=aD jQ;have zin:=aD Kk;have kr:=jQ.blk jS.o Qd zab;have tE:=aD kr;have z:=aJ kr;have r0:=eK kr;obtain⟨z0,z1,z2,z3,z4,z5,z6,z7⟩:=eR z;clear bV jQ Kk kr z nO fG)
   have nO:=Xn.o;have fG:=o7.o;rw[<-fG] at fK;have er:=aJ (sZ v5 r5 tE.o);refine qY (v:=.tuple #[.agg (fU (v5) (r5)),.string ⟨([108,101,102,116]:List UInt8).toArray⟩]) ?_ rfl ?_
   .unfold gV at er
    simp[results,zeI,go_sem,er]
   .rw[fK.o]
    have hl:=HL.o;have hz:=o9.o;have hg:=zin.o;have eV:=fS.o;exact⟨v5,rfl,wG.o.set8 (by rw[nO];simp only;omega),(eZ.o.turn.same uG.o).set8 aC,by rw[nO];exact⟨.inl rfl,.inr Ku,.inl rfl,rfl⟩⟩
def cZ (r:b6)(m:Int)(k:Nat):b6×List UInt8:=(r.wait.take k).foldl l9 ({r with clk:=r.clk+m},[97,116,32]++jM (r.clk+m))
variable {m:Int}{k:Nat}{x:bE}
def zgP (h:r.wait[k]? =some x):cZ r m (k+1)=l9 (cZ r m k) x:=by
 unfold cZ;rw[N3,h,zkh];rfl
def zaW (r:b6)(m:Int):cZ r m r.wait.length=uJ r m:=by
 unfold cZ uJ;rw[zZ (aV _)]
def zbM (rs:List bS)(c:Int):(jI rs c).isSome=rs.any (As c):=by unfold jI;exact List.findIdx?_isSome
variable {d:bS}{f:bS->bS}
def zrz (hd:rs[i]? =some d)(hc:d.c≠c)(h:(jI rs c).isSome=true):(jI (rs.modify i f) c).isSome=true:=by
 rw[zbM,Uf] at*;obtain⟨x,hx,hp⟩:=h;obtain⟨j,hj,e⟩:=L9.1 hx;have eT:i≠j:=by
  intro e2;subst e2;rw[lV hj,e] at hd;injection hd with hd;unfold As at hp;simp at hp;exact hc (hd▸hp.1)
 refine⟨x,?_,hp⟩;refine Gq.2 ⟨j,?_⟩;rw[zS,lV hj,e];simp[eT]
structure TiredOk (r:b6)(m:Int)(k:Nat):Prop where
 nrec:(cZ r m k).1.recs.length=r.recs.length
 off:(cZ r m k).1.o=r.o
 clk:(cZ r m k).1.clk=r.clk+m
 nb:(cZ r m k).1.back.length<=r.back.length+k
 nw:(cZ r m k).1.wait.length<=r.wait.length
 txt:(cZ r m k).2.length<=30+30*k
 has:∀j x,k<=j->r.wait[j]? =some x->(jI (cZ r m k).1.recs x.c).isSome=true
 fr:∀d∈(cZ r m k).1.recs,0<=d.f/\d.f<=100000
def Xp (xs:List bE)(q:Int):(dY xs q).length<=xs.length:=zaE _ _
def P3 (h0:0<=c)(h1:c<=1000000):(jM c).length<=20:=by
 obtain⟨n,rfl⟩:∃n:Nat,c=(n:Int):=⟨c.toNat,aC⟩;unfold jM;rw[Vy];exact Nb aC
variable {bt:b6×List UInt8}
def zal (hi:jI bt.1.recs x.c=some i)(hd:bt.1.recs[i]? =some d):
 l9 bt x=if bt.1.o.pt<=bt.1.clk-d.f then({lD bt.1 i Dx with back:=bt.1.back++[x]},bt.2++[32]++jM x.c) else bt:=by
 unfold l9;rw[hi];simp only;rw[show Ys bt.1.recs i=d.f by unfold Ys;rw[hd]]
def zkr (hq:zgv r)(hn:(r.wait.map bE.c).Nodup)(hf:∀d∈r.recs,0<=d.f/\d.f<=100000)(hc:0<=r.clk+m/\r.clk+m<=1000000):∀k,k<=r.wait.length->TiredOk r m k
 |0,_=>⟨rfl,rfl,rfl,aV _,aV _,by
  have:=P3 hc.1 hc.2;show([97,116,32]++jM (r.clk+m)).length<=_;rw[gM];simp only[pX,r8];omega,λj x _ hx=>hq.has x (dX hx),hf⟩
 |k+1,hk=>by
  have T:=zkr hq hn hf hc k aC;obtain⟨x,hx⟩:∃x,r.wait[k]? =some x:=⟨r.wait[k],lV aC⟩;obtain⟨i,hi⟩:=zlA.1 (T.has k x (aV _) hx);obtain⟨d,hd,zax,-⟩:=Cg hi;have e:=zal (bt:=cZ r m k) hi hd;have e1:=zgP (m:=m) hx;rw[e] at e1;have zEw:=hq.num x (dX hx);have Bg:=P3 (c:=x.c) aC aC;by_cases hp:(cZ r m k).1.o.pt<=(cZ r m k).1.clk-d.f
  .rw[if_pos hp] at e1
   refine⟨?_,?_,?_,?_,?_,?_,?_,?_⟩<;>rw[e1]
   .show(zln _ _ _).length=_
    rw[Gj];exact T.nrec
   .exact T.off
   .exact T.clk
   .have:=T.nb
    simp only[gM,pX,r8];omega
   .exact eM (Xp _ _) T.nw
   .have:=T.txt
    simp only[gM,pX,r8];omega
   .intro j y hj hy
    have zkJ:d.c≠y.c:=by
     intro e2;rw[zax] at e2;have tY:=(jX.1 hy).1;have Wc:=(jX.1 hx).1;have aT:=(List.pairwise_iff_getElem.1 hn) k j (by rw[Xt];exact Wc) (by rw[Xt];exact tY) aC;apply aT;rw[zva,zva];rw[lV Wc] at hx;rw[lV tY] at hy;injection hx with hx;injection hy with hy;rw[hx,hy,e2]
    exact zrz hd zkJ (T.has j y aC hy)
   .intro z hz
    obtain⟨j,hj⟩:=Gq.1 hz;have oP:(zln (cZ r m k).1.recs i λd=>{d with t:=(cZ r m k).1.clk,e:=Dx})[j]? =some z:=hj;rw[zS] at oP;rcases Ml:(cZ r m k).1.recs[j]? with _|y
    .rw[Ml] at oP;split at oP<;>cases oP
    .rw[Ml] at oP
     have hy:=T.fr y (dX Ml);split at oP<;>(simp at oP;subst oP;exact hy)
  .rw[if_neg hp] at e1
   exact⟨by rw[e1];exact T.nrec,by rw[e1];exact T.off,by rw[e1];exact T.clk,by rw[e1];have:=T.nb;omega,by rw[e1];exact T.nw,by rw[e1];have:=T.txt;omega,by rw[e1];exact λj y hj hy=>T.has j y aC hy,by rw[e1];exact T.fr⟩
section
variable {w0 w w':aE}{lo gb k:Nat}{v0 v v':fM}{r r':b6}
def gP.setClk {c:Int}(h:gP w0 w lo gb k v0 v r):gP w0 (w.setCell ⟨gb,3,none⟩ (.int .i64 c)) lo gb k v0 v {r with clk:=c}:=by
 have aR:=h.aR;have aW:=h.aW;have aB:=h.aB;have aL:=h.aL;have Oe:=h.base;have t:=h.turn;have kp:=h.kpos;refine⟨(h.ok.setCell aC).clock c,⟨t.os,t.tape,t.output,by rw[sU];exact t.size,λy hy e1 e2=>(eJ w _ _ y zhx).trans (t.block y hy e1 e2)⟩,h.moved,h.base,?_,by rw[sU];exact h.size,h.kpos,aR,aW,aB,aL,h.lob⟩;rw[nQ h.blk];rfl
def gP.whole {n:Nat}(h:gP w0 w lo gb k v0 v r)(ho:eA w' lo v' r')(t:oG v w w')(m:xH n v v')(hn:n=w.heap.size):
 gP w0 (gV w' gb (.int .i64 r'.o.ln) (.int .i64 r'.o.op) (.int .i64 r'.o.pt) (.int .i64 r'.clk) (v'.sR r') (v'.sW r') (v'.sB r') (v'.sL r')) lo gb k v0 v' r':=by
 obtain⟨_,t2,m2,hb⟩:=h.turned ho t m hn;have aR:=h.aR;have aW:=h.aW;have aB:=h.aB;have aL:=h.aL;have mr:=m.r;have mw:=m.w;have mb:=m.b;have ml:=m.l;have sz:=h.size;have kp:=h.kpos;have Oe:=h.base;have tz:=t.size;refine⟨ho.set8 aC,t2.set8 aC,m2,h.base,zb4 hb,by rw[zmN];omega,h.kpos,aC,aC,aC,aC,h.lob⟩
end
def zDU {b x:Nat}{o:Obj}{a0 a1 a2 a3 a4 a5 a6 a7:aF}(h:w.heap[x]? =some o)(hx:x≠b):(gV w b a0 a1 a2 a3 a4 a5 a6 a7).heap[x]? =some o:=(Hc hx).trans h
def zGE (lo:Nat)(v:fM)(r:b6)(m:Int)(w:aE)(h:eA w lo v r)(hs:Q9 r)(dV:lo<=w.heap.size)(hq:zgv r)(lH:(r.wait.map bE.c).Nodup)(fQ:∀d∈r.recs,0<=d.f/\d.f<=100000)(zws:0<=m)(zhh:m<=100000):
 fH aK 67 #[.agg (fU v r),.int .i64 m] w (Vh lo v w (uJ r m)):=by
 have fP:=h.ap;have zjA:=aD (zkr (m:=m) hq lH fQ (by have:=hs.clk;omega));have zAu:=aD hq.num;have zq0:=(Cd hs.off).2.2.2.2;clear lH fQ hq;obtain⟨gb,O,Z,fS,HO,HZ,eZ,jS,o9,HL⟩:=ze2 h dV;clear h
 go_enter Tryz.func67,Tryz.ntmps67
 go_upto_region 1 with fail
 rw[<-HO.o,<-HZ.o,<-fS.o];obtain⟨W1,dE⟩:=aU ((w.alloc O).alloc Z);rw[<-dE] at eZ jS o9⊢;clear dE;obtain⟨n,hn⟩:=aU r.wait.length;have nJ:=hs.nb;have Cb:=hs.nr;have Jw:n<=1000:=by rw[hn];exact hs.nw
 have Uh:=aD hn;have Dz:=hs.clk;obtain⟨zhC,zzw⟩:=Dz;obtain⟨ck,Dz⟩:=aU r.clk;have G2:=aD Dz;rw[<-Dz] at zhC zzw;have k:=aJ eZ.o.blk;obtain⟨k0,k1,k2,k3,k4,k5,k6,k7⟩:=eR k;clear k;have Xr:W1.cell? ⟨gb,3,none⟩=some (.int .i64 ck):=by rw[k3,G2.o];rfl
 have kf:=eK eZ.o.blk;clear k3 Dz hn;have nI:=aD (show gP w (W1.setCell ⟨gb,3,none⟩ (.int .i64 (ck+m))) lo gb 2 v v {r with clk:=ck+m} from eZ.o.setClk)
 go_upto_region 2 with fail
 obtain⟨W2,qH⟩:=aU (W1.setCell ⟨gb,3,none⟩ (.int .i64 (ck+m)));rw[<-qH] at nI⊢;have C7:=aD (show W2.heap[gb+1]? =some jV by rw[qH];exact(eJ W1 _ _ (gb+1) Tj).trans jS.o);clear k0 k1 k2 Xr k4 k5 k6 k7 kf qH;obtain⟨c2,nM⟩:∃c2:Nat,ck+m=(c2:Int):=⟨(ck+m).toNat,aC⟩;have zAq:c2<=100000000:=aC;have Fl:(Kq (c2:Int)).length<=20:=by rw[Vy];exact Nb aC
 have Rr:=aD nM;have k3:=aJ nI.o.blk 3;have Xr:W2.cell? ⟨gb,3,none⟩=some (.int .i64 (c2:Int)):=by rw[<-nM];exact k3
 clear k3 nM
 go_upto_region 3 with(go_at_call 94;refine(zbe c2 zAq _).mono ?_;rintro x w3 ⟨rfl,Va⟩;have zaQ:=aD Va;clear Va)
 have zmM:=aD (nI.o.keep zaQ.o);have zan:=aD (eI zaQ.o C7.o).1;have k5:=aJ zmM.o.blk 5;have zvw:w3.cell? ⟨gb,5,none⟩=some (.slice (some ⟨v.gW,0,none⟩) n v.cW):=by rw[k5,Uh.o];rfl
 clear k5 Xr;have zkK:=aD (show(⟨([97,116,32]++Kq (c2:Int):List UInt8).toArray⟩:ByteArray)=⟨(cZ r m 0).2.toArray⟩ by show _=(⟨([97,116,32]++jM (r.clk+m):List UInt8).toArray⟩:ByteArray);rw[<-G2.o,Rr.o];rfl);have zNc:=HL.o
 go_wp2_with fail
 go_loopw [6,8] (λt i wr=>∃(k:Nat) (v1:fM),k<=n/\i=.int .i64 k/\t=.string ⟨(cZ r m k).2.toArray⟩/\gP w wr lo gb 2 v v1 (cZ r m k).1/\wr.heap[gb+1]? =some jV/\wr.ownsRow lo 100 2 (.slice (some ⟨v.gW,0,none⟩) n v.cW) n (bG r.wait)) (λ_ i _=>n-(intOf i).toNat)
 case atStart=>
  refine⟨0,v,jO _,rfl,?_,?_,zan.o,?_⟩
  .rw[<-zkK.o];congr 1
  .have e:(cZ r m 0).1={r with clk:=ck+m}:=by rw[G2.o];rfl
   rw[e];exact zmM.o
  .have:=zmM.o.ok.wt
   rw[Uh.o];exact this
 case round=>
  obtain⟨k,v1,hk,rfl,rfl,fA,Gi,cD⟩:=hrel;have T:=zjA.o k (by have:=Uh.o;omega);obtain⟨r1,kG⟩:=aU ((cZ r m k).1);obtain⟨tx,zdW⟩:=aU ((cZ r m k).2);have zv8:=T.nrec;have zv6:=T.nb;have zwx:=T.nw;have zpS:=T.txt;have zlI:=T.clk;have zj4:=T.off;have zsy:=aD T.fr;have zs4:=aD T.has;rw[<-kG] at fA zv8 zv6 zwx zlI zj4 zsy zs4;rw[<-zdW] at zpS⊢;have lO:=aD kG;have zm3:=aD zdW;have uQ:=aD fA;have zgU:=aD Gi;have Qm:=aD cD;have zMa:r1.recs.length<=1000:=aC;have zFz:r1.back.length<=6000:=aC;have zCI:r1.wait.length<=1000:=by have:=hs.nw;omega
  have zMD:tx.length<=40000:=aC;have zmE:gb+2<=wr.heap.size:=fA.size;have zDW:=fA.moved.r;have zyG:=fA.moved.b;have zvQ:=aD zlI;have z8:=aD zj4;clear T kG zdW fA Gi cD zv8 zv6 zwx zpS zlI zj4;by_cases aN:k<n
  .obtain⟨bx,ox,x,hA,-,-,zI3,eE,e0,e1⟩:=(y9 Qm.o aH).callsAt aN
   injection hA with hA;injection hA with y8 y4;subst y8 y4;simp only[qX] at e0 e1;obtain⟨i,wH⟩:=zlA.1 (zs4.o k x (aV _) eE);obtain⟨d,hd,zax,-⟩:=Cg wH;have zEw:=zAu.o x (dX eE);have hi:=(jX.1 hd).1;have eY:(0:Int)<=(i:Int):=aC;have zT:(i:Int)<(r1.recs.length:Int):=aC;have i0:(0:Int)<=(k:Int):=aC;have i1:(k:Int)<(n:Int):=aC;obtain⟨zJ4,zLY⟩:=zsy.o d (dX hd);have uT:=aD (show cZ r m (k+1)=if r1.o.pt<=r1.clk-d.f then({lD r1 i Dx with back:=r1.back++[x]},tx++[32]++jM x.c) else(r1,tx) by
    rw[zgP eE,zal (i:=i) (d:=d) (by rw[<-lO.o];exact wH) (by rw[<-lO.o];exact hd),<-lO.o,<-zm3.o];congr 1;rw[lO.o,zm3.o])
   have Mk:=aD (Vu wH);have HD:=aD hd;have zim:=aD eE;obtain⟨q,ziT⟩:=aU x.c;have HE:=aD (λnq:Nat=>fH.quiet_of (w:=wr) (n:=nq) ((Js lo wr.heap.size r1.recs.length v1.cR (some ⟨v1.gR,0,none⟩) r1.recs x.c (wr.drewN nq) (have hs:=uQ.o.ok.slcR;⟨hs.len,hs.le,hs.cap,hs.at_⟩) aC).mono λe w' hh=>by rw[Mk.o] at hh;exact⟨hh.1,0,hh.2⟩));obtain⟨c0,c1,zl1,c3,c4,c5,c6⟩:=uQ.o.ok.recAt hd;clear wH hd zax eE ziT;have k:=aJ uQ.o.blk;obtain⟨k0,k1,k2,k3,k4,k5,k6,k7⟩:=eR k;clear k
   go_wp2_with fail
   go_quiet ((go_at_call 91;exact HE.o _))
   go_wp2_with fail
   obtain⟨wq,rD⟩:=aU (wr.drewN nq);rw[<-rD];have zfp:=aD (show gP w wq lo gb 2 v v1 r1 by rw[rD];exact uQ.o.keep ⟨rfl,rfl,rfl,aV _,λ_ _=>rfl⟩);have zvm:=aD (show wq.heap[gb+1]? =some jV by rw[rD];exact zgU.o);have zwo:=aD (show wq.ownsRow lo 100 2 (.slice (some ⟨v.gW,0,none⟩) n v.cW) n (bG r.wait) by rw[rD];exact zX Qm.o (λ_ _=>rfl));replace e0:wq.cell? ⟨v.gW,k*2,none⟩=some (.int .i64 x.c):=by rw[rD];exact e0
   replace e1:wq.cell? ⟨v.gW,k*2+1,none⟩=some (.int .i64 x.p):=by rw[rD];exact e1
   have zFS:v.gW<wq.heap.size:=by rw[rD];exact zI3
   have Bd:gb+2<=wq.heap.size:=by rw[rD];exact zmE
   clear c0 c1 zl1 c3 c4 c5 c6 k0 k1 k2 k3 k4 k5 k6 k7 rD;obtain⟨c0,c1,zl1,c3,c4,c5,c6⟩:=zfp.o.ok.recAt HD.o;have k:=aJ zfp.o.blk;obtain⟨k0,k1,k2,k3,k4,k5,k6,k7⟩:=eR k;clear k;have Hl:0<=r1.clk:=by have:=zvQ.o;have:=G2.o;omega
   have uN:r1.clk<=200000:=by have:=zvQ.o;have:=G2.o;omega
   have qW:1<=r1.o.pt:=by rw[z8.o];exact zq0.1
   have Va:r1.o.pt<=60:=by rw[z8.o];exact zq0.2
   by_cases hp:r1.o.pt<=r1.clk-d.f
   .replace uT:=aD (show cZ r m (k+1)=({lD r1 i Dx with back:=r1.back++[x]},tx++[32]++jM x.c) by rw[uT.o,if_pos hp])
    go_quiet (fail)
    go_upto_region 9 with fail
    obtain⟨wz,uY⟩:=aU (wq.drewN nq);rw[<-uY];have Pd:=aD (show gP w wz lo gb 2 v v1 r1 by rw[uY];exact zfp.o.keep ⟨rfl,rfl,rfl,aV _,λ_ _=>rfl⟩);have zDo:=aD (show wz.heap[gb+1]? =some jV by rw[uY];exact zvm.o);have zFG:=aD (show wz.ownsRow lo 100 2 (.slice (some ⟨v.gW,0,none⟩) n v.cW) n (bG r.wait) by rw[uY];exact zX zwo.o (λ_ _=>rfl));have zB2:v.gW<wz.heap.size:=by rw[uY];exact zFS
    have zKr:gb+2<=wz.heap.size:=by rw[uY];exact Bd
    clear c0 c1 zl1 c3 c4 c5 c6 k0 k1 k2 k3 k4 k5 k6 k7 e0 e1 uY;have k:=aJ Pd.o.blk;obtain⟨k0,k1,k2,k3,k4,k5,k6,k7⟩:=eR k;clear k;have kf:=eK Pd.o.blk;have zJi:v.gW≠v1.gR:=by rcases zDW with e|e<;>omega
    have zs8:v.gW≠v1.gB:=by rcases zyG with e|e<;>omega
    have aR:=Pd.o.aR;have aB:=Pd.o.aB;have zD8:gb+1≠v1.gR:=aC;have zsf:gb+1≠v1.gB:=aC;have Kj:gb≠v1.gR:=aC;have zM:gb≠v1.gB:=aC;have zKo:=aD aR;have yZ:=aD aB;have Q3:lo<=wz.heap.size:=by have:=Pd.o.lob;omega
    clear aR aB
    go_upto_region 10 with(go_at_call 96;refine(zkn lo i v1 r1 d Dx wz Pd.o.ok HD.o aC aC Q3).mono ?_;rintro y w5 ⟨g5,c5,rfl,bV,jQ,Kk⟩;obtain⟨v5,nO⟩:=aU ({v1 with gW:=g5,cW:=c5}:fM);obtain⟨r5,fG⟩:=aU (lD r1 i Dx:b6);have kr:=jQ.blk Pd.o.blk Kj zM;have zJU:=aD kr;have zuL:xH wz.heap.size v1 v5:=(by rw[nO];exact⟨.inl rfl,.inr Kk,.inl rfl,rfl⟩);rw[<-nO,<-fG] at bV⊢;have Xn:=aD nO;have o7:=aD fG;have uG:=aD jQ;have Ew:=aD (Pd.o.whole bV jQ zuL rfl);have z:=aJ kr;have r0:=eK kr;obtain⟨z0,z1,z2,z3,z4,z5,z6,z7⟩:=eR z;clear bV jQ Kk kr z nO fG zuL)
    obtain⟨W6,rK⟩:=aU (gV w5 gb (.int .i64 r5.o.ln) (.int .i64 r5.o.op) (.int .i64 r5.o.pt) (.int .i64 r5.clk) (v5.sR r5) (v5.sW r5) (v5.sB r5) (v5.sL r5));have Se:=aD (show W6.heap[gb+1]? =some jV by rw[rK];exact zDU (uG.o.blk zDo.o zD8 zsf) aC);have zpC:=aD (show W6.ownsRow lo 100 2 (.slice (some ⟨v.gW,0,none⟩) n v.cW) n (bG r.wait) by rw[rK];exact Bi zFG.o ((Hc aC).trans (uG.o.block v.gW zB2 zJi zs8)));rw[<-rK] at Ew;unfold gV at rK;rw[<-rK];have zyP:v5.gR=v1.gR:=by rw[Xn.o]
    have zbv:v5.gB=v1.gB:=by rw[Xn.o]
    have zjJ:r5.back=r1.back:=by rw[o7.o];rfl
    have zLR:r5.back.length<=6000:=by rw[zjJ];exact zFz
    have Kt:=aD zjJ;clear rK z0 z1 z2 z3 z4 z5 z6 z7 r0 k0 k1 k2 k3 k4 k5 k6 k7 kf zjJ;obtain⟨bx,ox,x',hA,-,-,zur,B7,e0,e1⟩:=(y9 zpC.o aH).callsAt aN;injection hA with hA;injection hA with y8 y4;subst y8 y4;rw[zim.o] at B7;injection B7 with B7;subst B7;simp only[qX] at e0 e1;have k6:=aJ Ew.o.blk 6;have zJS:gb+2<=W6.heap.size:=Ew.o.size;have Df:=aD (show W6.cell? ⟨v.gW,k*2,none⟩=some (.int .i64 x.c)/\W6.cell? ⟨v.gW,k*2+1,none⟩=some (.int .i64 x.p) from⟨e0,e1⟩);have kB:∀o:Obj,(W6.alloc o).cell? ⟨gb,6,none⟩=some (v5.sB r5):=λo=>Ax k6 o;have zLr:=aD zbv;have zIj:v5.gB≠gb:=by rw[zbv];exact Ne.symm zM
    have zHy:v5.gB≠gb+1:=by rw[zbv];exact Ne.symm zsf
    have zKv:v5.gB≠v.gW:=by rw[zbv];exact Ne.symm zs8
    have zLh:v.gW≠gb:=aC;obtain⟨ii,Ql,gX,dZ,jW⟩:=y3 zdI;have zbV:=aD Ql;clear Ql zyP zbv e0 e1;obtain⟨g1,c1,w7,fP,qE,qM,B1,Hw⟩:=zdJ (P:=aK) (W6.alloc (.cells #[.int .i64 x.c,.int .i64 x.p] 100)).drew 57 57 lo 100 ii (.agg #[.int .i64 0,.int .i64 0]) 2 16 K9 zbV.o gX dZ jW rfl aH v5.gB v5.cB r5.back.length (bG r5.back) (zX Ew.o.ok.bk (λb hb=>rA _ _ b hb)) ⟨W6.heap.size,0,none⟩ 1 1 x.cells rfl (E7 (cs:=x.cells.toArray) (lP _ _)) Sb Ya aC (by have:=Ew.o.lob;simp;omega);have sS:=aD qM;have zaK:=aD qE;have zcY:=aD Hw;have kx:=(zD qM (dH Ew.o.blk _) (Ne.symm zIj)).1;have Pt:=aJ kx 6;have wU:=eK kx;clear qE qM B1 Hw kx;refine wp_WT10 W6 w7 gb v.gW _ _ v5.gB r5.back.length v5.cB g1 c1 k x.c x.p rfl rfl rfl rfl k6 Df.o.1 Df.o.2 aC fP Pt (wU _) rfl ?_;clear fP;rw[Go.Mt.Ac,zq8];simp only[Go.Mt.wN,dW,dS,ziw,lWT10,C2,Cy]
    go_upto_region 11 with fail
    have zyf:=aD (((Ew.o.alloc _).drew).appB (x:=x) sS.o zaK.o rfl zcY.o);have zuw:=aD ((eJ w7 ⟨gb,6,none⟩ (.slice (some ⟨g1,0,none⟩) (r5.back.length+1) c1) (gb+1) Tj).trans (zD sS.o (J6 (dH Se.o _)) (Ne.symm zHy)).1);have znz:=aD (Bi zpC.o ((eJ w7 ⟨gb,6,none⟩ (.slice (some ⟨g1,0,none⟩) (r5.back.length+1) c1) v.gW (by show v.gW≠gb;omega)).trans ((sS.o.block v.gW zer zer).trans (rA _ _ v.gW aC))));obtain⟨W7,Ci⟩:=aU (w7.setCell ⟨gb,6,none⟩ (.slice (some ⟨g1,0,none⟩) (r5.back.length+1) c1));rw[<-Ci] at zyf zuw znz⊢;clear Ci Pt wU k6 kB;obtain⟨bx,ox,x',hA,-,-,zK4,B7,e0,e1⟩:=(y9 znz.o aH).callsAt aN;injection hA with hA;injection hA with y8 y4;subst y8 y4;rw[zim.o] at B7;injection B7 with B7;subst B7;simp only[qX] at e0 e1;obtain⟨p,ziq⟩:∃p:Nat,x.c=(p:Int):=⟨x.c.toNat,aC⟩;have zmz:p<=100000000:=aC;have zLb:(Kq (p:Int)).length<=20:=by rw[Vy];exact Nb aC
    rw[ziq] at e0;have zAJ:=aD ziq;clear ziq e1
    go_wp2_with (go_at_call 94;refine(zbe p zmz _).mono ?_;rintro y w8 ⟨rfl,Lo⟩;have zma:=aD Lo;clear Lo)
    go_roundw
    case rel=>
     refine⟨k+1,{v5 with gB:=g1,cB:=c1},aC,nC,?_,?_,(eI zma.o zuw.o).1,zu3 znz.o zma.o⟩
     .rw[uT.o];simp[Hx,jM,zAJ.o]
     .rw[uT.o]
      have:=zyf.o.keep zma.o;rw[Kt.o,o7.o] at this;exact this
    case measure=>simp[intOf];omega
   .replace uT:=aD (show cZ r m (k+1)=(r1,tx) by rw[uT.o,if_neg hp])
    go_quiet (fail)
    go_wp2;go_roundw
    case rel=>exact⟨k+1,v1,aC,nC,by rw[uT.o],by rw[uT.o];exact zfp.o.keep ⟨rfl,rfl,rfl,aV _,λ_ _=>rfl⟩,zvm.o,zX zwo.o (λ_ _=>rfl)⟩
    case measure=>simp[intOf];omega
  .have e:k=n:=aC
   subst e;have ze6:=aD (show uJ r m=(r1,tx) by rw[<-zaW,<-Uh.o,lO.o,zm3.o]);have k:=aJ uQ.o.blk;obtain⟨k0,k1,k2,k3,k4,k5,k6,k7⟩:=eR k;clear k;have z:=aJ zgU.o;obtain⟨z0,z1,z2,z3,z4,z5,z6,z7⟩:=eR z;clear z;have r0:=eK zgU.o
   go_wp2_with fail
   have er:=aJ (sZ v1 r1 zgU.o);refine qY (v:=.tuple #[.agg (fU (v1) (r1)),.string ⟨(tx:List UInt8).toArray⟩]) ?_ rfl ?_
   .unfold gV at er
    simp[results,Tryz.results67,go_sem,er]
   .rw[ze6.o]
    obtain⟨d1,d2,d3⟩:=uQ.o.done (b:=gb+1) aC;exact⟨v1,rfl,d1,d2,d3⟩
structure zps (r:b6):Prop where
 small:Q9 r
 waits:zgv r
 nodup:(r.wait.map bE.c).Nodup
 backs:∀x∈r.back,1<=x.c/\x.c<=99
 froms:∀d∈r.recs,0<=d.f/\d.f<=100000
variable {ops:Int}{e:dG}
def event_a (h:sN ops e=true)(ho:ops<=4):0<=e.a/\e.a<=100000:=by
 have h:=of_decide_eq_true h;unfold Kc at h;omega
abbrev zpH (e:dG):Obj:=.cells #[.string e.k,.int .i64 e.a,.int .i64 e.b] 54
def zrX (lo:Nat)(v:fM)(r:b6)(e:dG)(w:aE)(h:eA w lo v r)(hs:zps r)(dV:lo<=w.heap.size)(he:sN r.o.op e=true):
 fH aK 51 #[.agg (fU v r),.agg #[.string e.k,.int .i64 e.a,.int .i64 e.b]] w (Vh lo v w (eU r e)):=by
 obtain⟨O4,Ar⟩:=event_a he (Cd hs.small.off).2.2.2.1;obtain⟨gb,eV⟩:=aU w.heap.size;have hl:=h.lts;obtain⟨O,hO⟩:=aU (.cells (fU v r) 59:Obj);obtain⟨C,hC⟩:=aU (zpH e:Obj);obtain⟨Z,hZ⟩:=aU (jV:Obj);have iR:(((w.alloc O).alloc C).alloc Z).heap[gb]? =some (Gy v r):=by rw[hO,eV];exact dH (dH (lP _ _) _) _
 have yY:(((w.alloc O).alloc C).alloc Z).heap[gb+1]? =some (zpH e):=by rw[hC,eV];exact dH (mI _ _ aP) _
 have n9:(((w.alloc O).alloc C).alloc Z).heap[gb+2]? =some jV:=by rw[<-hZ];exact mI _ _ Y4
 have dZ:(((w.alloc O).alloc C).alloc Z).heap.size=gb+3:=by rw[eV];simp
 have eZ:=aD (show gP w (((w.alloc O).alloc C).alloc Z) lo gb 3 v v r from⟨((h.alloc O).alloc C).alloc Z,oG.of_below v (dO (dO (dO (eG _ _) _) _) _),xH.refl _ _,eV,iR,by rw[dZ];exact aV _,aC,.inl aC,.inl aC,.inl aC,.inl aC,aC⟩);have o9:=aD dZ;have jS:=aD n9;have lU:=aD yY;have HO:=aD hO;have HC:=aD (show C=.cells #[.string e.k,.int .i64 e.a,.int .i64 e.b] 54 from hC);have HZ:=aD (show Z=.cells #[.int .i64 0,.int .i64 0,.int .i64 0,.int .i64 0,.slice none 0 0,.slice none 0 0,.slice none 0 0,.slice none 0 0] 59 from hZ);have fS:=aD eV;have HL:=aD (show v.gR<gb/\v.gW<gb/\v.gB<gb/\v.gL<gb by omega);clear hO hC hZ eV iR n9 yY dZ h hl
 go_enter Tryz.func51,Tryz.ntmps51
 go_upto_region 1 with fail
 rw[<-HO.o,<-HC.o,<-HZ.o,<-fS.o];obtain⟨W1,dE⟩:=aU (((w.alloc O).alloc C).alloc Z);rw[<-dE] at eZ jS lU o9⊢;clear dE;have k:=aJ eZ.o.blk;obtain⟨k0,k1,k2,k3,k4,k5,k6,k7⟩:=eR k;clear k;have q:=aJ lU.o;obtain⟨q0,q1,q2⟩:=znS q;clear q;have hl:=HL.o;have Kj:gb+2≠v.gR:=aC;have zM:gb+2≠v.gB:=aC;have Q3:lo<=W1.heap.size:=by have:=eZ.o.lob;have:=o9.o;omega
 clear hl;cases h0:(e.k.toList==[114,105,110,103])
 case true=>
  have uT:=aD (show eU r e=qB r ⟨e.a,e.b⟩ by unfold eU;rw[if_pos (show e.k.toList=Jq from eq_of_beq h0)])
  go_wp2_with (go_at_call 63;refine(zH0 lo v r ⟨e.a,e.b⟩ W1 eZ.o.ok hs.small Q3).mono ?_;rintro y w5 ⟨v5,rfl,bV,jQ,xK⟩;obtain⟨r5,fG⟩:=aU ((qB r ⟨e.a,e.b⟩).1:b6);obtain⟨t5,oY⟩:=aU ((qB r ⟨e.a,e.b⟩).2:List UInt8);rw[<-fG] at bV⊢;rw[<-oY];have o7:=aD fG;have Cu:=aD oY;have wG:=aD bV;have uG:=aD jQ;have oK:=aD xK;have kr:=jQ.blk jS.o Kj zM;have tE:=aD kr;have z:=aJ kr;have r0:=eK kr;obtain⟨z0,z1,z2,z3,z4,z5,z6,z7⟩:=eR z;clear fG oY bV jQ xK kr z)
  have er:=aJ (sZ v5 r5 tE.o);refine qY (v:=.tuple #[.agg (fU (v5) (r5)),.string ⟨(t5:List UInt8).toArray⟩]) ?_ rfl ?_
  .unfold gV at er
   simp[results,zbY,go_sem,er]
  .rw[uT.o]
   have hl:=HL.o;have hz:=o9.o;have eV:=fS.o;have mr:=oK.o.r;have mw:=oK.o.w;have mb:=oK.o.b;have ml:=oK.o.l;refine⟨v5,by rw[o7.o,Cu.o],by rw[<-o7.o];exact wG.o.set8 aC,(eZ.o.turn.same uG.o).set8 aC,⟨mr.imp id (λx=>by omega),mw.imp id (λx=>by omega),mb.imp id (λx=>by omega),ml⟩⟩
 case false=>
  cases h1:(e.k.toList==[97,110,115,119,101,114])
  case true=>
   have uT:=aD (show eU r e=nH r e.a by unfold eU;rw[if_neg zfS];rw[if_pos (show e.k.toList=Jb from eq_of_beq h1)])
   go_wp2_with (go_at_call 64;refine(zBh lo v r e.a W1 eZ.o.ok hs.small Q3 hs.waits).mono ?_;rintro y w5 ⟨v5,rfl,bV,jQ,xK⟩;obtain⟨r5,fG⟩:=aU ((nH r e.a).1:b6);obtain⟨t5,oY⟩:=aU ((nH r e.a).2:List UInt8);rw[<-fG] at bV⊢;rw[<-oY];have o7:=aD fG;have Cu:=aD oY;have wG:=aD bV;have uG:=aD jQ;have oK:=aD xK;have kr:=jQ.blk jS.o Kj zM;have tE:=aD kr;have z:=aJ kr;have r0:=eK kr;obtain⟨z0,z1,z2,z3,z4,z5,z6,z7⟩:=eR z;clear fG oY bV jQ xK kr z)
   have er:=aJ (sZ v5 r5 tE.o);refine qY (v:=.tuple #[.agg (fU (v5) (r5)),.string ⟨(t5:List UInt8).toArray⟩]) ?_ rfl ?_
   .unfold gV at er
    simp[results,zbY,go_sem,er]
   .rw[uT.o]
    have hl:=HL.o;have hz:=o9.o;have eV:=fS.o;have mr:=oK.o.r;have mw:=oK.o.w;have mb:=oK.o.b;have ml:=oK.o.l;refine⟨v5,by rw[o7.o,Cu.o],by rw[<-o7.o];exact wG.o.set8 aC,(eZ.o.turn.same uG.o).set8 aC,⟨mr.imp id (λx=>by omega),mw.imp id (λx=>by omega),mb.imp id (λx=>by omega),ml⟩⟩
  case false=>
   cases h2:(e.k.toList==[114,101,116,117,114,110])
   case true=>
    have uT:=aD (show eU r e=lZ r e.a by unfold eU;rw[if_neg zfS];rw[if_neg znf];rw[if_pos (show e.k.toList=H0 from eq_of_beq h2)])
    go_wp2_with (go_at_call 65;refine(zA7 lo v r e.a W1 eZ.o.ok hs.small Q3 hs.backs).mono ?_;rintro y w5 ⟨v5,rfl,bV,jQ,xK⟩;obtain⟨r5,fG⟩:=aU ((lZ r e.a).1:b6);obtain⟨t5,oY⟩:=aU ((lZ r e.a).2:List UInt8);rw[<-fG] at bV⊢;rw[<-oY];have o7:=aD fG;have Cu:=aD oY;have wG:=aD bV;have uG:=aD jQ;have oK:=aD xK;have kr:=jQ.blk jS.o Kj zM;have tE:=aD kr;have z:=aJ kr;have r0:=eK kr;obtain⟨z0,z1,z2,z3,z4,z5,z6,z7⟩:=eR z;clear fG oY bV jQ xK kr z)
    have er:=aJ (sZ v5 r5 tE.o);refine qY (v:=.tuple #[.agg (fU (v5) (r5)),.string ⟨(t5:List UInt8).toArray⟩]) ?_ rfl ?_
    .unfold gV at er
     simp[results,zbY,go_sem,er]
    .rw[uT.o]
     have hl:=HL.o;have hz:=o9.o;have eV:=fS.o;have mr:=oK.o.r;have mw:=oK.o.w;have mb:=oK.o.b;have ml:=oK.o.l;refine⟨v5,by rw[o7.o,Cu.o],by rw[<-o7.o];exact wG.o.set8 aC,(eZ.o.turn.same uG.o).set8 aC,⟨mr.imp id (λx=>by omega),mw.imp id (λx=>by omega),mb.imp id (λx=>by omega),ml⟩⟩
   case false=>
    cases h3:(e.k.toList==[104,97,110,103])
    case true=>
     have uT:=aD (show eU r e=mJ r e.a by unfold eU;rw[if_neg zfS];rw[if_neg znf];rw[if_neg zxc];rw[if_pos (show e.k.toList=L5 from eq_of_beq h3)])
     go_wp2_with (go_at_call 66;refine(zFR lo v r e.a W1 eZ.o.ok hs.small Q3).mono ?_;rintro y w5 ⟨v5,rfl,bV,jQ,xK⟩;obtain⟨r5,fG⟩:=aU ((mJ r e.a).1:b6);obtain⟨t5,oY⟩:=aU ((mJ r e.a).2:List UInt8);rw[<-fG] at bV⊢;rw[<-oY];have o7:=aD fG;have Cu:=aD oY;have wG:=aD bV;have uG:=aD jQ;have oK:=aD xK;have kr:=jQ.blk jS.o Kj zM;have tE:=aD kr;have z:=aJ kr;have r0:=eK kr;obtain⟨z0,z1,z2,z3,z4,z5,z6,z7⟩:=eR z;clear fG oY bV jQ xK kr z)
     have er:=aJ (sZ v5 r5 tE.o);refine qY (v:=.tuple #[.agg (fU (v5) (r5)),.string ⟨(t5:List UInt8).toArray⟩]) ?_ rfl ?_
     .unfold gV at er
      simp[results,zbY,go_sem,er]
     .rw[uT.o]
      have hl:=HL.o;have hz:=o9.o;have eV:=fS.o;have mr:=oK.o.r;have mw:=oK.o.w;have mb:=oK.o.b;have ml:=oK.o.l;refine⟨v5,by rw[o7.o,Cu.o],by rw[<-o7.o];exact wG.o.set8 aC,(eZ.o.turn.same uG.o).set8 aC,⟨mr.imp id (λx=>by omega),mw.imp id (λx=>by omega),mb.imp id (λx=>by omega),ml⟩⟩
    case false=>
     have uT:=aD (show eU r e=uJ r e.a by unfold eU;rw[if_neg zfS];rw[if_neg znf];rw[if_neg zxc];rw[if_neg (by intro e2;rw[e2] at h3;exact absurd h3 aH)])
     go_wp2_with (go_at_call 67;refine(zGE lo v r e.a W1 eZ.o.ok hs.small Q3 hs.waits hs.nodup hs.froms O4 Ar).mono ?_;rintro y w5 ⟨v5,rfl,bV,jQ,xK⟩;obtain⟨r5,fG⟩:=aU ((uJ r e.a).1:b6);obtain⟨t5,oY⟩:=aU ((uJ r e.a).2:List UInt8);rw[<-fG] at bV⊢;rw[<-oY];have o7:=aD fG;have Cu:=aD oY;have wG:=aD bV;have uG:=aD jQ;have oK:=aD xK;have kr:=jQ.blk jS.o Kj zM;have tE:=aD kr;have z:=aJ kr;have r0:=eK kr;obtain⟨z0,z1,z2,z3,z4,z5,z6,z7⟩:=eR z;clear fG oY bV jQ xK kr z)
     have er:=aJ (sZ v5 r5 tE.o);refine qY (v:=.tuple #[.agg (fU (v5) (r5)),.string ⟨(t5:List UInt8).toArray⟩]) ?_ rfl ?_
     .unfold gV at er
      simp[results,zbY,go_sem,er]
     .rw[uT.o]
      have hl:=HL.o;have hz:=o9.o;have eV:=fS.o;have mr:=oK.o.r;have mw:=oK.o.w;have mb:=oK.o.b;have ml:=oK.o.l;refine⟨v5,by rw[o7.o,Cu.o],by rw[<-o7.o];exact wG.o.set8 aC,(eZ.o.turn.same uG.o).set8 aC,⟨mr.imp id (λx=>by omega),mw.imp id (λx=>by omega),mb.imp id (λx=>by omega),ml⟩⟩
structure RInv (b:b6):Prop where
 off:sE b.o=true
 clk:0<=b.clk
 nodup:(b.wait.map bE.c).Nodup
 hasrec:∀x∈b.wait,(jI b.recs x.c).isSome=true
 recB:∀d∈b.recs,1<=d.c/\d.c<=99/\1<=d.l/\d.l<=6/\0<=d.o/\d.o<=4/\0<=d.f/\d.f<=b.clk
 waitB:∀x∈b.wait,1<=x.c/\x.c<=99
 backB:∀x∈b.back,1<=x.c/\x.c<=99
structure Ju (b:b6)(k:Nat):Prop where
 clk:b.clk<=60*k
 nrec:b.recs.length<=k
 nw:b.wait.length<=k
 nb:b.back.length<=60*k
 nl:b.log.length=k
def RInv.good (h:RInv b)(c:Ju b k)(hk:k<=60):zps b:=
 ⟨
  ⟨h.off,by have:=c.nrec;omega,by have:=c.nw;omega,by have:=c.nb;omega,by have:=c.nl;omega,⟨h.clk,by have:=c.clk;omega⟩⟩,⟨h.hasrec,h.waitB⟩,h.nodup,h.backB,
  λd hd=>by have:=h.recB d hd;have:=c.clk;omega⟩
def RInv.zero (h:sE o=true):RInv (lW o):=⟨h,zuR _,List.nodup_nil,λx hx=>(by cases hx),λd hd=>(by cases hd),λx hx=>(by cases hx),λx hx=>(by cases hx)⟩
def Ju.zero (o:jN):Ju (lW o) 0:=⟨zuR _,aV _,aV _,aV _,rfl⟩
variable {xs:List bE}{q:Int}
def Dt (h:x∈dY xs q):x∈xs/\x.c≠q:=by
 unfold dY at h;rw[Ia] at h;exact⟨h.1,by simpa using h.2⟩
def zeq (h:(xs.map bE.c).Nodup):((dY xs q).map bE.c).Nodup:=
 zzR (zGB _ List.filter_sublist) h
def Ui {z:bS}(h:z∈rs.modify i f):∃d∈rs,z=d\/z=f d:=by
 obtain⟨j,hj⟩:=Gq.1 h;rw[zS] at hj;rcases Ml:rs[j]? with _|y
 .rw[Ml] at hj;cases hj
 .rw[Ml] at hj
  refine⟨y,dX Ml,?_⟩;simp at hj;split at hj
  .exact .inr hj.symm
  .exact .inl hj.symm
def zoM {qs:List bS}(h:(jI rs c).isSome=true):(jI (rs++qs) c).isSome=true:=by
 rw[zbM] at*;rw[zyk,h];rfl
def zFy (hf:∀d,(f d).c=d.c/\(f d).e=d.e)(h:(jI rs c).isSome=true):(jI (rs.modify i f) c).isSome=true:=by
 rw[zbM,Uf] at*;obtain⟨x,hx,hp⟩:=h;obtain⟨j,hj,e⟩:=L9.1 hx;have yQ:As c (f x)=true:=by unfold As eL at*;rw[(hf x).1,(hf x).2];exact hp
 by_cases eT:i=j
 .refine⟨f x,Gq.2 ⟨j,?_⟩,yQ⟩
  rw[zS,lV hj,e];simp[eT]
 .refine⟨x,Gq.2 ⟨j,?_⟩,hp⟩
  rw[zS,lV hj,e];simp[eT]
def RInv.ends (h:RInv b)(hd:b.recs[i]? =some d)(e:ByteArray):RInv (lD b i e):=by
 refine⟨h.off,h.clk,zeq h.nodup,?_,?_,λx hx=>h.waitB x (Dt hx).1,h.backB⟩
 .intro x hx
  have hx:x∈dY b.wait (F8 b.recs i):=hx;rw[S3 hd] at hx;obtain⟨h1,h2⟩:=Dt hx;exact zrz hd (Ne.symm h2) (h.hasrec x h1)
 .intro z hz
  obtain⟨y,hy,e1|e1⟩:=Ui hz
  .subst e1;exact h.recB _ hy
  .subst e1;exact h.recB y hy
def RInv.tire {t:List UInt8}(h:RInv b)(hx:1<=x.c/\x.c<=99):RInv (l9 (b,t) x).1:=by
 rcases ho:jI b.recs x.c with _|i
 .have:l9 (b,t) x=(b,t):=by unfold l9;simp only[ho]
  rw[this];exact h
 .obtain⟨d,hd,-,-⟩:=Cg ho
  rw[zal (bt:=(b,t)) ho hd];split
  .have e:=h.ends hd Dx
   exact⟨e.off,e.clk,e.nodup,e.hasrec,e.recB,e.waitB,λy hy=>by
    rw[E5] at hy;rcases hy with hy|hy
    .exact h.backB y hy
    .simp at hy;subst hy;exact hx⟩
  .exact h
def RInv.tires:∀(xs:List bE) (b:b6) (t:List UInt8),RInv b->(∀x∈xs,1<=x.c/\x.c<=99)->RInv (xs.foldl l9 (b,t)).1
 |[],b,t,h,_=>h
 |x::xs,b,t,h,hx=>by
  rw[Qn];have h1:=h.tire (t:=t) (hx x aP);obtain⟨b',t',e⟩:∃b' t',l9 (b,t) x=(b',t'):=⟨_,_,rfl⟩;rw[e] at h1⊢;exact RInv.tires xs b' t' h1 (λy hy=>hx y (by simp[hy]))
def ze7 (ho:sE o=true)(h:l∈oE o rs):1<=l/\l<=6:=by
 have:=zet h;have:=(Cd ho).2.1;omega
def zcR (xs:List bE)(c:bE):(tH xs c).Perm (c::xs):=by
 unfold tH;refine(List.perm_middle).trans ?_;rw[List.takeWhile_append_dropWhile]
def zyp (xs:List bE)(c:bE):(tH xs c).length=xs.length+1:=by rw[(zcR xs c).length_eq];rfl
def zFc (h:sN ops e=true)(he:e.k.toList=Jq):1<=e.a/\e.a<=99:=by
 have h:=of_decide_eq_true h;unfold Kc at h;rcases h with h|h|⟨h|h,_⟩|h
 .omega
 all_goals(first|(rw[h.1] at he;exact absurd he aH)|(rw[h] at he;exact absurd he aH))
def zfi (h:sN ops e=true)(he:e.k.toList=Jb\/e.k.toList=H0):1<=e.a/\e.a<=ops:=by
 have h:=of_decide_eq_true h;unfold Kc at h;rcases h with h|h|h|h
 .rw[h.1] at he;exact absurd he aH
 .rw[h.1] at he;exact absurd he aH
 .exact⟨h.2.1,h.2.2.1⟩
 .rw[h.1] at he;exact absurd he aH
def zDl (h:sN ops e=true)(h1:e.k.toList≠Jq)(h2:e.k.toList≠Jb)(h3:e.k.toList≠H0)(h4:e.k.toList≠L5):1<=e.a/\e.a<=60:=by
 have h:=of_decide_eq_true h;unfold Kc at h;rcases h with h|h|⟨h|h,_⟩|h
 .exact absurd h.1 h1
 .exact absurd h.1 h4
 .exact absurd h h2
 .exact absurd h h3
 .exact⟨h.2.1,h.2.2.1⟩
def zdN:eO.toList=[111,112,101,110]:=by decide+kernel
def RInv.step (h:RInv b)(hc:Ju b k)(he:sN b.o.op e=true)(hk:k<=60):RInv (eU b e).1/\Ju (Ei (eU b e)) (k+1)/\(eU b e).1.o=b.o/\(eU b e).1.log=b.log:=by
 have zME:=Cd h.off;have c1:=hc.clk;have c2:=hc.nrec;have c3:=hc.nw;have c4:=hc.nb;have c5:=hc.nl;have key:∀bt:b6×List UInt8,RInv bt.1->bt.1.o=b.o->bt.1.log=b.log->bt.1.clk<=b.clk+60->bt.1.recs.length<=b.recs.length+1->bt.1.wait.length<=b.wait.length+1->bt.1.back.length<=b.back.length+60->RInv bt.1/\Ju (Ei bt) (k+1)/\bt.1.o=b.o/\bt.1.log=b.log:=by
  intro bt hi ho hl zMr hr hw uX;refine⟨hi,⟨by show bt.1.clk<=_;omega,by show bt.1.recs.length<=_;omega,by show bt.1.wait.length<=_;omega,by show bt.1.back.length<=_;omega,?_⟩,ho,hl⟩;show(bt.1.log++[bt.2]).length=_;rw[gM,hl,c5];rfl
 have same:∀t,RInv (b,t).1/\Ju (Ei (b,t)) (k+1)/\(b,t).1.o=b.o/\(b,t).1.log=b.log:=λt=>key (b,t) h rfl rfl (by show b.clk<=_;omega) (by show b.recs.length<=_;omega) (by show b.wait.length<=_;omega) (by show b.back.length<=_;omega);unfold eU;by_cases e1:e.k.toList=Jq
 .rw[if_pos e1]
  obtain⟨a1,a2⟩:=zFc he e1;unfold qB;split
  .exact same _
  .rename_i dB
   rw[Er,not_or] at dB;rcases hf:oE b.o b.recs with _|⟨l,fs⟩
   .refine key (_,_) ⟨h.off,h.clk,h.nodup,h.hasrec,h.recB,h.waitB,λx hx=>?_⟩ rfl rfl ?_ ?_ ?_ ?_
    .rw[E5] at hx
     rcases hx with hx|hx
     .exact h.backB x hx
     .simp at hx;subst hx;exact⟨a1,a2⟩
    all_goals simp only[gM,pX,r8]
    all_goals omega
   .have Wp:=ze7 h.off (l:=l) Y6
    refine key (_,_) ⟨h.off,h.clk,?_,?_,?_,?_,h.backB⟩ rfl rfl ?_ ?_ ?_ ?_
    .show((tH b.wait ⟨e.a,e.b⟩).map bE.c).Nodup
     refine((zcR b.wait ⟨e.a,e.b⟩).map bE.c).nodup_iff.2 ?_;rw[fL,List.nodup_cons];refine⟨λhm=>?_,h.nodup⟩;obtain⟨x,hx,zGn⟩:=Jr.1 hm;have:=h.hasrec x hx;rw[zGn] at this;exact dB.1 this
    .intro x hx
     have hx:=(zcR b.wait ⟨e.a,e.b⟩).mem_iff.1 hx;rcases jH.1 hx with rfl|hx
     .show(jI (b.recs++_) e.a).isSome=true
      rw[zbM,zyk];have:As e.a ⟨e.a,l,0,b.clk,-1,-1,eO⟩=true:=by unfold As eL;simp;exact zdN
      simp[this]
     .exact zoM (h.hasrec x hx)
    .intro d hd
     rcases E5.1 hd with hd|hd
     .exact h.recB d hd
     .simp at hd;subst hd
      have:=h.clk;simp only;omega
    .intro x hx
     have hx:=(zcR b.wait ⟨e.a,e.b⟩).mem_iff.1 hx;rcases jH.1 hx with rfl|hx
     .exact⟨a1,a2⟩
     .exact h.waitB x hx
    all_goals simp only[gM,pX,r8,zyp]
    all_goals omega
 rw[if_neg e1];by_cases e2:e.k.toList=Jb
 .rw[if_pos e2]
  obtain⟨a1,a2⟩:=zfi he (.inl e2);by_cases lN:0<dK b.recs e.a
  .have e9:nH b e.a=(b,[116,97,108,107,115]):=by unfold nH;rw[if_pos lN]
   rw[e9];exact same _
  .rcases hw:b.wait with _|⟨c,cs⟩
   .have e9:nH b e.a=(b,[110,111,110,101]):=by unfold nH;rw[if_neg lN,hw]
    rw[e9];exact same _
   .rcases ho:jI b.recs c.c with _|i
    .have e9:nH b e.a=(b,[]):=by unfold nH;rw[if_neg lN,hw];simp only[ho]
     rw[e9];exact same _
    .have e9:nH b e.a=({b with recs:=b.recs.modify i λd=>{d with o:=e.a,h:=b.clk},wait:=dY b.wait c.c},[99,97,108,108,32]++jM c.c):=by unfold nH;rw[if_neg lN,hw];simp only[ho]
     rw[e9];refine key (_,_) ⟨h.off,h.clk,zeq h.nodup,?_,?_,?_,h.backB⟩ rfl rfl ?_ ?_ ?_ ?_
     .intro x hx
      exact zFy (λd=>⟨rfl,rfl⟩) (h.hasrec x (Dt hx).1)
     .intro z hz
      obtain⟨y,hy,q|q⟩:=Ui hz
      .subst q;exact h.recB _ hy
      .subst q
       have:=h.recB y hy;simp only;omega
     .intro x hx
      exact h.waitB x (Dt hx).1
     all_goals simp only[Gj]
     .omega
     .omega
     .have:=Xp b.wait c.c;omega
     .omega
 rw[if_neg e2];by_cases e3:e.k.toList=H0
 .rw[if_pos e3]
  obtain⟨a1,a2⟩:=zfi he (.inr e3);by_cases lN:0<dK b.recs e.a
  .have e9:lZ b e.a=(b,[116,97,108,107,115]):=by unfold lZ;rw[if_pos lN]
   rw[e9];exact same _
  .rcases hw:b.back with _|⟨c,cs⟩
   .have e9:lZ b e.a=(b,[110,111,110,101]):=by unfold lZ;rw[if_neg lN,hw]
    rw[e9];exact same _
   .rcases hf:oE b.o b.recs with _|⟨l,fs⟩
    .have e9:lZ b e.a=(b,[98,117,115,121]):=by unfold lZ;rw[if_neg lN,hw];simp only[hf]
     rw[e9];exact same _
    .have e9:lZ b e.a=({b with back:=dY b.back c.c,recs:=b.recs++[⟨c.c,l,e.a,b.clk,b.clk,-1,eO⟩]},[99,97,108,108,32]++jM c.c):=by unfold lZ;rw[if_neg lN,hw];simp only[hf]
     rw[e9];have Wp:=ze7 h.off (l:=l) Y6;have I6:=h.backB c (by rw[hw];simp);refine key (_,_) ⟨h.off,h.clk,h.nodup,λx hx=>zoM (h.hasrec x hx),?_,h.waitB,?_⟩ rfl rfl ?_ ?_ ?_ ?_
     .intro d hd
      rcases E5.1 hd with hd|hd
      .exact h.recB d hd
      .simp at hd;subst hd
       have:=h.clk;simp only;omega
     .intro x hx
      exact h.backB x (Dt hx).1
     all_goals simp only[gM,pX,r8]
     .omega
     .omega
     .omega
     .have:=Xp b.back c.c;omega
 rw[if_neg e3];by_cases e4:e.k.toList=L5
 .rw[if_pos e4]
  rcases ho:jI b.recs e.a with _|i
  .by_cases hf:(vP b.back e.a).isSome=true
   .have e9:mJ b e.a=({b with back:=dY b.back e.a},[111,102,102]):=by unfold mJ;simp only[ho];rw[if_pos hf]
    rw[e9];refine key (_,_) ⟨h.off,h.clk,h.nodup,h.hasrec,h.recB,h.waitB,λx hx=>h.backB x (Dt hx).1⟩ rfl rfl ?_ ?_ ?_ ?_
    all_goals simp only
    .omega
    .omega
    .omega
    .have:=Xp b.back e.a;omega
   .have e9:mJ b e.a=(b,[103,111,110,101]):=by unfold mJ;simp only[ho];rw[if_neg hf]
    rw[e9];exact same _
  .obtain⟨d,hd,-,-⟩:=Cg ho
   have hw:=Xp b.wait (F8 b.recs i);have end1:∀(E:ByteArray) (t:List UInt8),RInv (lD b i E,t).1/\Ju (Ei (lD b i E,t)) (k+1)/\(lD b i E,t).1.o=b.o/\(lD b i E,t).1.log=b.log:=λE t=>by
    refine key (_,_) (h.ends hd _) rfl rfl ?_ ?_ ?_ ?_
    .show b.clk<=_;omega
    .show(zln _ _ _).length<=_;rw[Gj];omega
    .show(dY b.wait (F8 b.recs i)).length<=_;omega
    .show b.back.length<=_;omega
   by_cases hp:0<opAt b.recs i
   .have e9:mJ b e.a=(lD b i F5,[100,111,110,101]):=by unfold mJ;simp only[ho];rw[if_pos hp]
    rw[e9];exact end1 _ _
   .have e9:mJ b e.a=(lD b i Bv,[108,101,102,116]):=by unfold mJ;simp only[ho];rw[if_neg hp]
    rw[e9];exact end1 _ _
 rw[if_neg e4];obtain⟨a1,a2⟩:=zDl he e1 e2 e3 e4;have mG:=h.clk;have T:=zkr (r:=b) (m:=e.a) ⟨h.hasrec,h.waitB⟩ h.nodup (λd hd=>by have:=h.recB d hd;omega) aC b.wait.length (aV _);have t1:=T.nrec;have t2:=T.off;have t3:=T.clk;have t4:=T.nb;have t5:=T.nw;rw[zaW] at t1 t2 t3 t4 t5;have zkb:∀(xs:List bE) (bt:b6×List UInt8),(xs.foldl l9 bt).1.log=bt.1.log:=by
  intro xs
  induction xs with
  |nil=>intro bt;rfl
  |cons x xs ih=>
   intro bt;rw[Qn,ih];unfold l9;split
   .rfl
   .split<;>rfl
 refine key (uJ b e.a) ?_ t2 (zkb _ _) ?_ ?_ ?_ ?_
 .unfold uJ
  refine RInv.tires _ _ _ ⟨h.off,by show 0<=b.clk+e.a;omega,h.nodup,h.hasrec,λd hd=>?_,h.waitB,h.backB⟩ h.waitB;have:=h.recB d hd;show _/\_/\_/\_/\_/\_/\_/\d.f<=b.clk+e.a;omega
 .omega
 .omega
 .omega
 .omega
def mK (o:jN)(es:List dG)(k:Nat):b6:=(es.take k).foldl (λb e=>Ei (eU b e)) (lW o)
variable {es:List dG}
def Vq (h:es[k]? =some e):mK o es (k+1)=Ei (eU (mK o es k) e):=by
 unfold mK;rw[N3,h,zkh];rfl
def zc4 (o:jN)(es:List dG):mK o es es.length=H9 o es:=by unfold mK H9;rw[zZ (aV _)]
def N9 (h:j9 o es=true):∀k,k<=es.length->RInv (mK o es k)/\Ju (mK o es k) k/\(mK o es k).o=o
 |0,_=>by
  have h1:sE o=true:=by unfold j9 at h;simp at h;exact h.1.1
  exact⟨RInv.zero h1,Ju.zero o,rfl⟩
 |k+1,hk=>by
  obtain⟨i1,i2,i3⟩:=N9 h k aC;obtain⟨e,he⟩:∃e,es[k]? =some e:=⟨es[k],lV aC⟩;have hv:sN o.op e=true:=by
   unfold j9 at h;simp only[fT,tU] at h;exact h.2 e (dX he)
  have hl:es.length<=60:=by unfold j9 at h;simp at h;exact h.1.2
  obtain⟨j1,j2,j3,j4⟩:=i1.step i2 (e:=e) (by rw[i3];exact hv) aC;rw[Vq he];exact⟨⟨j1.off,j1.clk,j1.nodup,j1.hasrec,j1.recB,j1.waitB,j1.backB⟩,j2,by show(eU _ e).1.o=o;rw[j3,i3]⟩
def zhS (o:jN)(w:aE):
 fH aK 34 #[.agg #[.int .i64 o.ln,.int .i64 o.op,.int .i64 o.pt]] w λx w'=>x=.returned (.bool (sE o))/\bU w.heap.size w w':=by
 go_enter Tryz.func34,Tryz.ntmps34
 go_wp2_with ((go_at_call 49;refine(zpw _ _ _ _).mono ?_;rintro e w' ⟨rfl,rfl⟩))
 all_goals go_ret
 all_goals refine⟨En ?_,((eG _ _).alloc (aV _) _)⟩
 all_goals rw[Ns]
 all_goals simp[sE,inB] at*
 all_goals grind
def zDs (e:dG)(ops:Int)(w:aE):
 fH aK 50 #[.agg #[.string e.k,.int .i64 e.a,.int .i64 e.b],.int .i64 ops] w λx w'=>x=.returned (.bool (sN ops e))/\bU w.heap.size w w':=by
 go_enter Tryz.func50,Tryz.ntmps50
 go_wp2_with ((go_at_call 49;refine(zpw _ _ _ _).mono ?_;rintro e w' ⟨rfl,rfl⟩))
 all_goals go_ret
 all_goals refine⟨En ?_,((eG _ _).alloc (aV _) _)⟩
 all_goals rw[Ns]
 all_goals simp[sN,Kc,inB,Jq,L5,Jb,H0,zbF] at*
 all_goals grind
end Go.Proofs.YtfcjiloojkjaeaaGreatDoor
