/-
  Part 3 of what stands behind the last text.
-/
import Derived.Conc.WgGenN3
import Derived.Conc.TokenWalk
import Derived.Test.YtfcjiloojkjaeaaGreatDoorTalkCPq2
set_option linter.all false
set_option maxHeartbeats 16000000
set_option maxRecDepth 100000
open Array renaming all_eq_true_iff_forall_mem→zl3,any_eq_true→Ub,ext_getElem?→ze3,getD_eq_getD_getElem?→tJ,getElem?_eq_getElem→mE,getElem?_eq_none→F7,getElem?_eq_some_iff→dP,getElem?_map→yB,getElem?_mapIdx→Nv,getElem?_setIfInBounds→zo5,getElem?_setIfInBounds_ne→jV,getElem?_toList→Aw,getElem_mem→zj9,mem_iff_getElem→zpT,mem_of_getElem?→Sm,mem_singleton→zrl,range→Lb,replicate→nU
open Bool renaming and_eq_true→fU,eq_iff_iff→M9,false_eq_true→jE,false_or→zsi,not_eq_true'→zds,or_eq_true→Ey
open Classical renaming byContradiction→zY
open False renaming elim→zur
open Go renaming Act→tK,Calls→fN,Deferred→Ew,Event→oC,Frame→dK,Func→Ut,FuncId→aP,Goroutine→bC,Item→eE,Oper→aZ,Operand→cM,Program→bS,Trace→lU,TypeId→aM,TypeInfo→wW,Value→aF,World→aE,bodyPost_ret→rM,deafBehind→n9,execOp→aS,getD_set_ne→Qk,heap_alloc_new→lF,info_parts→y8,mem_ready→zlr,undef→aA,yielded→dR
open Go.Act renaming eval→wF,mk→bH,put→cC
open Go.Builtin renaming append_→xG
open Go.Code renaming region→Ep
open Go.Conc renaming Deaf_other→Nl,aside_setCell→Yl,goes_elim→zkW,listed→wJ,mem_ofEvents→zgT,mem_seen→zbZ,past_nil→zmD,runT_crowd_go→Y1,seen_none→Ct,served→o9,stepG_add_atomic→Zz,stepG_block→zfR,stepG_end→zhl,stepG_inBlock→zmJ,stepG_inLoop→zjo,stepG_load_atomic→zgB,stepG_loop→zlw,stepG_mark0→zaK,stepG_markAt→zcT,stepG_region_end→dI,stepG_ret'→xF,stepG_seq→dS,stepG_skip→pJ,stepG_unwind_entry→zsZ
open Go.Conc.Goes renaming stop→qN
open Go.Conc.Lib renaming WgLib→Xs,WgLink→zex
open Go.Conc.QuitsD renaming ctl→zsR
open Go.ConcN renaming upd→znz
open Go.ConcR renaming Payload→zeM,WgAt→gD,mk→oE
open Go.ConcR.Gen renaming body_add→M2,body_wait→zne,nm_uLoad→zl8,x_addU64_b→V3,x_addU64_f→Yy,x_addU64_n→Yh,x_addU64_x→Zg,x_disable_b→zmm,x_disable_f→zkw,x_disable_n→zik,x_disable_x→zkl,x_enable_b→zfa,x_enable_f→zd0,x_enable_n→zfU,x_enable_x→zhb,x_loadU64_b→zfN,x_loadU64_f→zdt,x_loadU64_n→zdJ,x_loadU64_x→zf5,x_semacquire_b→zpa,x_semacquire_f→zwZ,x_semacquire_n→zoB,x_semacquire_x→zqX,x_semrelease_b→zr0
open Go.Deferred renaming ofValue→Bu
open Go.Extern.Race renaming none_→zxa
open Go.Frame renaming enter→E0,finish_at→zr3,tmps→zpM
open Go.GStep renaming after→Bt
open Go.IntKind renaming i32→zsF,u64→Rz,wrap_i32→zyp,wrap_u64→zf6
open Go.Lib renaming itoa→J9,itoa_nonneg→Yc
open Go.Made renaming infoAt→zwQ,reckon→zrh,reckonStruct→zul,word→ztW
open Go.MemAct renaming ofEvent→jN,touch?→qQ
open Go.Proofs.Tryz renaming checked→vK,prog→aK,results51→zaJ,results63→zgG,results64→zh7,results65→zdC,results66→zfr,underlying45→ztG,underlying57→J6
open Go.Region renaming binds→Dz,ready→Hj,wanted→dF
open Go.Result renaming andThen→uV,evThen_ok→Rm,ok→vZ
open Go.RowKit renaming Below→bV
open Go.RowKit.Below renaming heap_alloc→qO,heap_setCell→eH,refl→eF
open Go.Sem renaming bind→x7,events→vY,events_bind'→Tx,run→bD,runT→zO,run_bind'→sE
open Go.Stepped.next renaming injEq→Xj
open Go.Tables renaming info?→zln
open Go.World renaming alloc→zlx,cell?→lI,news_of_block→Fo,size_setCell→tD
open Int renaming le_refl→zoG
open List renaming all_eq_true→tY,any_append→zov,any_eq_true→Sx,append_nil→N1,foldl_append→zjC,foldl_cons→Qd,getD_cons_succ→C9,getD_cons_zero→Dn,getElem?_eq_getElem→lX,getElem?_eq_some_iff→kD,getElem?_modify→zM,getElem?_of_mem→zrG,getElem_map→zrF,length_append→gN,length_cons→pT,length_filter_le→zb5,length_map→zoS,length_modify→F6,length_nil→rR,map_cons→fO,mem_append→Ee,mem_cons→jJ,mem_filter→Jd,mem_iff_getElem→L9,mem_iff_getElem?→G5,mem_map→Ia,mem_map_of_mem→Z5,mem_of_getElem?→dZ,mem_range→Bz,modify→zij,not_mem_nil→lZ,range→gF,set_cons_succ→dV,set_cons_zero→dU,take_add_one→Nf,take_of_length_le→zB
open List.Nodup renaming sublist→zJg
open List.Sublist renaming map→zFN
open Nat renaming eq_zero_or_pos→Qa,le_refl→aX,le_trans→eG,lt_of_lt_of_le→lD,lt_or_ge→nC,lt_succ_of_lt→zq5,lt_succ_self→xH,ne_of_lt→zp7,strongRecOn→zlB,zero_add→qY,zero_le→jT,zero_mul→zbX
open Option renaming bind_eq_some_iff→Dy,bind_some→vD,getD_some→y4,isSome_iff_exists→zi0,map_eq_some_iff→xK,map_some→Ao
open Option.some renaming inj→cE,injEq→gA
open Prod.mk renaming injEq→pK
open Pure renaming pure→kN
open SizeOf renaming sizeOf→N2
noncomputable section
namespace Go
def Hv{P:Prop}(h:P:=by rw[hz];exact zzd (by kernel_rfl)):P:=h
def zil{P:Prop}(h:P:=by intro u hu;simp[bR.cells] at hu;rcases hu with rfl|rfl|rfl|rfl|rfl|rfl|rfl<;>rfl):P:=h
def qW{P:Prop}(h:P:=by k_ne):P:=h
def zuU{P:Prop}(h:P:=by intro k hk aT;have cO:k=0\/k=1\/k=3\/k=4\/k=5\/k=6:=(by omega);rcases cO with rfl|rfl|rfl|rfl|rfl|rfl<;>rfl):P:=h
def zpv{P:Prop}(h:P:=by intro k hk aT;have cO:k=0\/k=1\/k=2\/k=3\/k=5\/k=6:=(by omega);rcases cO with rfl|rfl|rfl|rfl|rfl|rfl<;>rfl):P:=h
def Gv{P:Prop}(h:P:=by decide+kernel):P:=h
def zfI{P:Prop}(h:P:=by intro e2;rw[e2] at h0;exact absurd h0 (by decide)):P:=h
def S9{P:Prop}(h:P:=by show gb+1≠gb;omega):P:=h
def zjt{P:Prop}(h:P:=by intro e2;rw[e2] at h1;exact absurd h1 (by decide)):P:=h
def X2{P:Prop}(h:P:=by unfold maxLen;omega):P:=h
def Vo{P:Prop}(h:P:=by exact True.intro):P:=h
def zq1{P:Prop}(h:P:=by intro e2;rw[e2] at h2;exact absurd h2 (by decide)):P:=h
def Xc{P:Prop}(h:P:=by rw[cD];simp):P:=h
def zdL{P:Prop}(h:P:=by show gb+2≠gb;omega):P:=h
def Vp{P:Prop}(h:P:=by rw[hf];simp):P:=h
def zba{P:Prop}(h:P:=by rw[wX];simp):P:=h
def zhe{P:Prop}(h:P:=by simpa using hi):P:=h
def zxD{P:Prop}(h:P:=by have:=eZ.o.lob;have:=oS.o;omega):P:=h
def zla{P:Prop}(h:P:=by simp[Act.eval,stA]):P:=h
def zk0{P:Prop}(h:P:=by simp[Act.eval,smA]):P:=h
def zmq{P:Prop}(h:P:=by show gf≠gb;omega):P:=h
end Go
namespace Go.Mt
open Go.Conc
open Go.ConcR (KK wgBlock WgAt stA smA rd wr)
section
variable {L:Type}{P:bS}{ty:aM}{Wg:Nat}{A:jU L}{Fin:bC->aE->Prop}
variable {K K':Bool->Ph L->Nat->cF->bC->aE->Prop}
def Nq.mono (hK:∀m ph d τ g w,K m ph d τ g w->K' m ph d τ g w){main:Bool}{ph:Ph L}{d:Nat}{τ:cF}{g:bC}{w:aE}(h:Nq P ty Wg K main ph d τ g w):Nq P ty Wg K' main ph d τ g w:=by
 have own:∀{ph:Ph L},zei P ty Wg K main ph d τ g w->zei P ty Wg K' main ph d τ g w:=λh aI s=>by
  obtain⟨g',w',es,h1,h2,h3,h4,h5⟩:=h aI s;exact⟨g',w',es,h1,h2,h3,h4,hK _ _ _ _ _ _ h5⟩
 have idle:∀{ph:Ph L},zaP P ty Wg K main ph d τ g w->zaP P ty Wg K' main ph d τ g w:=λh aI s=>by
  obtain⟨g',es,h1,h2,h3,h4⟩:=h aI s;exact⟨g',es,h1,h2,h3,hK _ _ _ _ _ _ h4⟩
 cases ph<;>first|exact h|exact own h|exact idle h
def mF.mono (hK:∀m ph d τ g w,K m ph d τ g w->K' m ph d τ g w){main:Bool}{l:L}{d:Nat}{τ:cF}{g:bC}{w:aE}(h:mF P ty Wg A K main l d τ g w):mF P ty Wg A K' main l d τ g w:=by
 unfold mF at*;split
 all_goals(rename_i e;simp only[e] at h)
 .obtain⟨ho,v,z,τ',h1,h2,h3,h4,K8,h5,h6⟩:=h
  exact⟨ho,v,z,τ',h1,h2,h3,h4,K8,h5,hK _ _ _ _ _ _ h6⟩
 .obtain⟨ho,z,b,h1,h2,h3⟩:=h
  exact⟨ho,z,b,h1,λv hv aI s hg=>hK _ _ _ _ _ _ (h2 v hv aI s hg),λx=>hK _ _ _ _ _ _ (h3 x)⟩
 .refine⟨h.1,h.2.1,λaI iS s r hc=>?_⟩
  obtain⟨g',h1,h2,h3⟩:=h.2.2 aI iS s r hc;exact⟨g',h1,h2,hK _ _ _ _ _ _ h3⟩
 .intro aI iS v hv hw
  obtain⟨g',h1,h2,h3⟩:=h aI iS v hv hw;exact⟨g',h1,h2,hK _ _ _ _ _ _ h3⟩
 .refine⟨h.1,λaI iS=>?_⟩
  obtain⟨g',child,τm,τc,h1,h2,h3,h4,h5,h6,h7,h8,h9,G7,Q5⟩:=h.2 aI iS;exact⟨g',child,τm,τc,h1,h2,h3,h4,h5,h6,h7,h8,h9,hK _ _ _ _ _ _ G7,hK _ _ _ _ _ _ Q5⟩
 .refine⟨h.1,h.2.1,h.2.2.1,λaI iS=>?_⟩
  obtain⟨g',h1,h2,h3⟩:=h.2.2.2 aI iS;exact⟨g',h1,h2,hK _ _ _ _ _ _ h3⟩
 .intro aI iS v hv hw
  obtain⟨g',h1,h2,h3,h4⟩:=h aI iS v hv hw;exact⟨g',h1,h2,λx=>hK _ _ _ _ _ _ (h3 x),λx=>hK _ _ _ _ _ _ (h4 x)⟩
 .obtain⟨l',h1,h2⟩:=h
  exact⟨l',h1,hK _ _ _ _ _ _ h2⟩
def zN.mono (hK:∀m ph d τ g w,K m ph d τ g w->K' m ph d τ g w){main:Bool}{ph:Ph L}{d:Nat}{τ:cF}{g:bC}{w:aE}(h:zN P ty Wg A Fin K main ph d τ g w):zN P ty Wg A Fin K' main ph d τ g w:=by
 cases ph with
 |gone=>exact h
 |quit l=>exact h
 |usr l=>exact mF.mono hK h
 |rel l=>
  intro aI iS v wt a b c;obtain⟨g',h1,h2,h3,h4,h5⟩:=h aI iS v wt a b c;exact⟨g',h1,h2,h3,λx=>hK _ _ _ _ _ _ (h4 x),h5⟩
 |l1 l=>
  intro aI iS a;obtain⟨g',h1,h2,h3,h4⟩:=h aI iS a;exact⟨g',h1,h2,h3,hK _ _ _ _ _ _ h4⟩
 |l2 l=>
  intro aI iS a;obtain⟨g',h1,h2,h3,h4⟩:=h aI iS a;exact⟨g',h1,h2,h3,hK _ _ _ _ _ _ h4⟩
 |l3 l=>exact h
 |w1 b=>
  intro aI iS v zyB hv hw;obtain⟨g',h1,h2,h3,h4⟩:=h aI iS v zyB hv hw;exact⟨g',h1,h2,λx=>hK _ _ _ _ _ _ (h3 x),λx=>hK _ _ _ _ _ _ (h4 x)⟩
 |w2 vs=>
  intro aI iS v hv hw;obtain⟨h1,h2⟩:=h aI iS v hv hw;exact⟨λe=>let⟨g',a,b,c⟩:=h1 e;⟨g',a,b,hK _ _ _ _ _ _ c⟩,λe=>let⟨g',a,b,c⟩:=h2 e;⟨g',a,b,hK _ _ _ _ _ _ c⟩⟩
 |w3=>
  refine⟨h.1,λaI iS=>⟨(h.2 aI iS).1,λe=>?_⟩⟩;obtain⟨g',a,b,c⟩:=(h.2 aI iS).2 e;exact⟨g',a,b,hK _ _ _ _ _ _ c⟩
 |w4=>
  intro aI iS a;obtain⟨g',h1,h2,h3⟩:=h aI iS a;exact⟨g',h1,h2,hK _ _ _ _ _ _ h3⟩
 |w5=>exact h
def bZ (P:bS)(ty:aM)(Wg:Nat)(A:jU L)(Fin:bC->aE->Prop)(main:Bool)(ph:Ph L)(d:Nat)(τ:cF)(g:bC)(w:aE):Prop:=∃r,o7 P ty Wg A Fin r main ph d τ g w
variable {main:Bool}{ph:Ph L}{d:Nat}{τ:cF}{g:bC}{w aI:aE}
def bZ.mk (cH:g.status=.running)(h:Nq P ty Wg (bZ P ty Wg A Fin) main ph d τ g w\/zN P ty Wg A Fin (bZ P ty Wg A Fin) main ph d τ g w):bZ P ty Wg A Fin main ph d τ g w:=by
 let ι:={x:Bool×Ph L×Nat×cF×bC×aE//bZ P ty Wg A Fin x.1 x.2.1 x.2.2.1 x.2.2.2.1 x.2.2.2.2.1 x.2.2.2.2.2}
 let f:ι->Rk:=λx=>x.2.choose
 have hK:∀m ph d τ g w,bZ P ty Wg A Fin m ph d τ g w->∃i,o7 P ty Wg A Fin (f i) m ph d τ g w:=λm ph d τ g w hb=>⟨⟨(m,ph,d,τ,g,w),hb⟩,hb.choose_spec⟩;exact⟨.mk ι f,cH,h.imp (λx=>x.mono hK) λx=>x.mono hK⟩
def bZ.own (cH:g.status=.running)(hl:ph.live)(h:zei P ty Wg (bZ P ty Wg A Fin) main ph d τ g w):bZ P ty Wg A Fin main ph d τ g w:=
 .mk cH (.inl (by cases ph<;>first|exact h|exact hl.elim))
def bZ.usr {l:L}(cH:g.status=.running)(h:mF P ty Wg A (bZ P ty Wg A Fin) main l d τ g w):bZ P ty Wg A Fin main (.usr l) d τ g w:=.mk cH (.inr h)
structure Start (P:bS)(ty:aM)(Wg:Nat)(A:jU L)(Fin:bC->aE->Prop)(Shun:Loc->Prop)(gs:Array bC)(w:aE)(t:lU)(q:Nat->Nat)(l:L)(τ:cF)(a:bC)(B:Nat):Prop where
 main:gs[0]? =some a
 leave:Leavers P t gs q
 past:Past Shun B t
 beh:bZ P ty Wg A Fin true (.usr l) 0 τ a w
 grp:gD ty Wg w 0 0
 low:B<=Wg/\B<=w.heap.size
 bnd:∀b,τ.own b\/τ.still b\/τ.pass b->b<w.heap.size/\b≠Wg/\∀l,nE l b->¬Shun l
 pend:A.pend l=false
 inv:A.Inv (λi=>if i=0 then .run l else .gone) (λ_=>none)
def phase (hA:A.Ok){Shun:Loc->Prop}{gs:Array bC}{t:lU}{q:Nat->Nat}{l:L}{a:bC}{B:Nat}(S:Start P ty Wg A Fin Shun gs w t q l τ a B)(sl:Option (Nat×Nat)):
 ∃N m' t',runNT P N (crowd gs w sl) t=(.next m',t')/\O4 P Wg Fin Shun m' t':=by
 obtain⟨r,hr⟩:=S.beh;have h0:0<gs.size:=(dP.1 S.main).1
 let none':cF:=⟨λ_=>False,λ_=>False,λ_=>False⟩
 let T:Nat->Td L:=λi=>if i=0 then⟨.usr l,.inr r,τ,a⟩ else⟨.gone,.inl (q i),none',default⟩
 have t0:T 0=⟨.usr l,.inr r,τ,a⟩:=by simp[T]
 have tn:∀i,i≠0->T i=⟨.gone,.inl (q i),none',default⟩:=λi hi=>by simp[T,hi]
 have cH:a.status=.running:=by cases r with|mk ι f=>exact hr.1
 have Zx:o8 (λi=>(T i).ph) gs.size=0:=zkN (λj hj=>by simp only[tn j hj,Ph.pre]) _;have qS:vv A (λi=>(T i).ph) gs.size=0:=by
  unfold vv zD;rw[Zx];simp only[t0,S.pend];rfl
 have zdf:(λi=>(T i).ph.proj)=λi=>if i=0 then .run l else .gone:=by
  funext i;by_cases hi:i=0
  .subst hi;rw[t0];rfl
  .rw[tn i hi,if_neg hi];rfl
 refine zDp (ty:=ty) hA (T:=T) (ch:=λ_=>none) (Shun:=Shun) ⟨⟨h0,λi hi=>(by rw[tn i aC]),(by rw[t0];trivial),λi hi=>(by rw[tn i hi];exact id),λi hi b=>?_,λi j b q9 hb=>?_,λi b hb=>?_,λi b hb=>?_,λi l' hi=>?_,λc b hc=>(by cases hc),?_,(by rw[zdf];exact S.inv)⟩,
  ⟨λi x hi=>?_,λi j gi gj c v z z' sh xD hi hj=>?_,λi gi c z sh hi e=>(by cases e),λx hx hp=>(by rw[t0] at hp;cases hp),?_⟩⟩ sl
 .by_cases h:i=0
  .subst h;rw[t0] at hi;cases hi
  .rw[tn i h];exact⟨id,id,id⟩
 .by_cases h:i=0
  .subst h
   rw[tn j (Ne.symm q9)];exact⟨id,id,id⟩
  .rw[tn i h] at hb;exact hb.elim
 .by_cases h:i=0
  .subst h
   rw[t0] at hb;have:=S.bnd b (hb.imp id .inl);exact⟨this.1,this.2.1,rfl⟩
  .rw[tn i h] at hb;exact hb.elim zur zur
 .by_cases h:i=0
  .subst h
   rw[t0] at hb;have:=S.bnd b (.inr (.inr hb));exact⟨this.1,this.2.1⟩
  .rw[tn i h] at hb;exact hb.elim
 .by_cases h:i=0
  .subst h;rw[t0] at hi;cases hi
  .rw[tn i h] at hi;cases hi
 .unfold gP
  simp only[t0];refine⟨by rw[qS];simpa using S.grp,λi e=>?_⟩;by_cases h:i=0
  .subst h;rw[t0] at e;exact e
  .rw[tn i h] at e;exact e
 .by_cases h:i=0
  .subst h
   rw[S.main] at hi;cases hi;refine(pF (by rw[t0];exact id)).2 ⟨r,by rw[t0],?_,.inl (by rw[t0];exact lQ.self cH)⟩;have hd:Deaf t 0=0:=S.past.hears;rw[t0,hd];exact hr
  .refine(Hc (by rw[tn i h];trivial)).2 ⟨q i,by rw[tn i h],S.leave.old i x aC hi⟩
 .exfalso
  by_cases h:i=0
  .subst h
   rw[S.main] at hi;cases hi;simp[parked] at cH
  .have:=(S.leave.old i _ aC hi).status
   simp[parked] at this
 .refine TI.begin S.past S.low.2 S.leave.above (λj=>?_) (λb hb=>?_) S.low.1
  .by_cases h:j=0
   .subst h;rw[t0];exact⟨λ_=>rfl,λ_=>trivial⟩
   .rw[tn j h];exact⟨λe=>e.elim,λe=>absurd e h⟩
  .rw[t0] at hb
   exact(S.bnd b hb).2.2
end
end Go.Mt
namespace Go.Mt
open Go.Conc Go.Tt
open Go.ConcR (KK wgBlock WgAt stA smA rd wr)
def vF (τ:cF)(R:Pr)(St:Nat->Prop):Prop:=∀a b,R a b->(St a->τ.still b)/\(¬St a->τ.own b)
section
variable {L:Type}{P:dM}{fs:aP->Bool}{K:Pr}{G':Gp}{St:Nat->Prop}{ty:aM}{Wg:Nat}{A:jU L}{Fin:bC->aE->Prop}
def zjq {S:aP->Prop}{R:Pr}{w W aV:aE}{τ:cF}(h:cV S K R G' St w W)(ht:vF τ R St)(hK:∀a b,K a b->b<W.heap.size)(s:bT ty Wg τ W aV):cV S K R G' St w aV:=by
 refine⟨h.inj,h.inj',λa b x=>⟨(h.lt a b x).1,lD (h.lt a b x).2 s.size⟩,h.low,⟨h.gle.1,eG h.gle.2 s.size⟩,λa b x=>?_,h.rest,h.st,h.np,h.tb⟩;obtain⟨o,o',h1,h2,h3⟩:=h.cont a b x;refine⟨o,o',h1,?_,h3⟩;rw[s.keep b ?_];exact h2;by_cases hs:St a
 .exact .inr ((ht a b x).1 hs)
 .exact .inl ((ht a b x).2 hs)
end
end Go.Mt
namespace Go.Mt
open Go.Conc Go.Tt
open Go.ConcN (sumTo sumTo_upd upd_ne upd_same)
open Go.ConcR (KK wgBlock WgAt stA smA rd wr)
def Ends (P:bS)(Post:aF->aE->Prop)(m:Machine)(t:lU):Prop:=
 ∃M last o w' t',runNT P (M+1) m t=(.ended o w',t')/\runN P M m=.next last/\step P last=.ended o w'/\Conc.Good P Post last o w' t'
section
variable {P:bS}{Post:aF->aE->Prop}
variable {ops:Array MemOp}
def Ends.step {m m':Machine}{t:lU}(h:stepT P m=(.next m',ops))(he:Ends P Post m' (t++ops)):Ends P Post m t:=by
 obtain⟨M,last,o,w',t',h1,h2,h3,h4⟩:=he;refine⟨M+1,last,o,w',t',?_,?_,h3,h4⟩
 .rw[runNT,h];exact h1
 .have:Go.step P m=.next m':=by rw[Go.step,h]
  rw[zcN this];exact h2
def Ends.run:∀(N:Nat) {m m':Machine} {t t':lU},runNT P N m t=(.next m',t')->Ends P Post m' t'->Ends P Post m t:=by
 intro N
 induction N with
 |zero=>
  intro m m' t t' h he;simp only[runNT,pK,Xj] at h;obtain⟨rfl,rfl⟩:=h;exact he
 |succ N ih=>
  intro m m' t t' h he;rw[runNT] at h;generalize hs:stepT P m=s at h;obtain⟨s,ops⟩:=s
  cases s with
  |next m1=>exact Ends.step hs (ih h he)
  |ended o w=>simp at h
variable (P Post)
def J (Shun:Loc->Prop)(B:Nat)(g:bC)(w:aE):Prop:=
 ∀(gs:Array bC) (t:lU) (sl:Option (Nat×Nat)) (q:Nat->Nat),gs[0]? =some g->Leavers P t gs q->Past Shun B t->Ends P Post (crowd gs w sl) t
variable {P Post}
variable {B:Nat}{g:bC}
def J.own {Shun:Loc->Prop}{w:aE}(cH:g.status=.running)
 (h:∀d,∃g' w' es B',stepG P true g (w.at d)=.go g' w' es/\(∀e∈es,EvL Shun B' e)/\B<=B'/\J P Post Shun B' g' w'):J P Post Shun B g w:=by
 have key:∀(M:Nat) (d:Nat) (gs:Array bC) (t:lU) (sl:Option (Nat×Nat)) (q:Nat->Nat),sumTo gs.size q=M->gs[0]? =some g->Leavers P t gs q->Past Shun B t->Ends P Post (crowd gs (w.at d) sl) t:=by
  intro M
  induction M using zlB with
  |ind M ih=>
  intro d gs t sl q hM h0 hL hP;have dL:∀x∈gs,awake x:=by
   intro x hx;obtain⟨i,hi,rfl⟩:=zpT.1 hx;rcases Qa i with rfl|Cd
   .have:gs[0]=g:=by simpa[mE hi] using h0
    rw[this];exact awake_of (.inl cH)
   .exact awake_of ((hL.old i _ Cd (mE hi)).status.elim .inl λx=>.inr (.inr x))
  obtain⟨i,x,d',J7,hi,hx,aY⟩:=crowd_pick (P:=P) (w:=w.at d) (sl:=sl) dL ⟨0,g,h0,cH⟩;rw[show(w.at d).at d'=w.at d' from rfl] at aY;rcases Qa i with rfl|Cd
  .obtain rfl:x=g:=by rw[h0] at hi;exact(cE hi).symm
   obtain⟨g',w',es,B',hgo,xZ,cG,hJ⟩:=h d';have zkt:=Y1 (P:=P) (sl:=J7) (i:=0) hi (show stepG P (0==0) x (w.at d')=_ from hgo);have aN:0<gs.size:=(dP.1 h0).1;refine Ends.step (aY.trans zkt) (hJ _ _ _ q (by simp[aN]) ⟨λj y hj hy=>?_,λj hj=>?_⟩ ((hP.mono cG).own xZ))
   .have aT:0≠j:=aC
    rw[jV aT,yB] at hy;obtain⟨z,hz,rfl⟩:=xK.1 hy;have hq:=hL.old j z hj hz;rw[woken_quitsD hq,Nl t aC _ (λop hop=>by obtain⟨e,_,rfl⟩:=zgT hop;rfl)];exact hq
   .rw[Nl t (g':=0) (by simp at hj;omega) _ (λop hop=>by obtain⟨e,_,rfl⟩:=zgT hop;rfl)]
    exact hL.above j zcC
  .have hq:=hL.old i x Cd hi
   have eV:(i==0)=false:=q8;have aN:i<gs.size:=(dP.1 hi).1
   cases zmh:q i with
   |zero=>rw[zmh] at hq;rw[hq.1] at hx;cases hx
   |succ k=>
    rw[zmh] at hq;rcases hq with⟨hf,_⟩|⟨_,g',es,hm,zcv,Pp⟩
    .rw[hf] at hx;cases hx
    have zkt:=Y1 (P:=P) (sl:=J7) (i:=i) hi (by rw[eV];exact zcv (w.at d'));have cG:((gs.map (woken P x g' (w.at d'))).setIfInBounds i g').size=gs.size:=aO;have zMy:sumTo gs.size (znz q i k)+(k+1)=sumTo gs.size q+k:=by
     have:=sumTo_upd q k id aN;simp only[zmh,id] at this;exact this
    refine Ends.step (aY.trans zkt) (ih (sumTo gs.size (znz q i k)) aC d' _ _ _ (znz q i k) (by rw[cG]) ?_ ⟨λj y hj hy=>?_,λj hj=>?_⟩ (hP.mute aC hm))
    .have aT:i≠0:=aC
     rw[jV aT,yB,h0];simp[woken_run cH]
    .by_cases eR:i=j
     .subst eR
      rw[Array.getElem?_setIfInBounds_self_of_lt (by simpa using aN)] at hy;obtain rfl:=cE hy;rw[ConcN.upd_same,Deaf_own];exact Pp
     .rw[jV eR,yB] at hy
      obtain⟨z,hz,rfl⟩:=xK.1 hy;have zo4:=hL.old j z hj hz;rw[woken_quitsD zo4,ConcN.upd_ne q k (Ne.symm eR),Nl t eR _ (λop hop=>by obtain⟨e,_,rfl⟩:=zgT hop;rfl)];exact zo4
    .rw[Nl t (g':=i) (by simp at hj;omega) _ (λop hop=>by obtain⟨e,_,rfl⟩:=zgT hop;rfl)]
     exact hL.above j zcC
 intro gs t sl q h0 hL hP;have:=key _ w.drawn gs t sl q rfl h0 hL hP;exact this
def J.done {Shun:Loc->Prop}{w:aE}(cH:g.status=.running)
 (h:∀d,∃v es,stepG P true g (w.at d)=.ended (.done v) (w.at d) es/\(∀e∈es,EvL Shun B e)/\Post v (w.at d)):J P Post Shun B g w:=by
 intro gs t sl q h0 hL hP;exact beside_ends (B:=B) (D:=λ_ _ es=>∀e∈es,EvL Shun B e) (n:=0) (λ_ _ _ hd=>hd) h0 hL hP (λaI ⟨d,hd⟩=>by subst hd;exact⟨cH,h d⟩)
def J.phase {L:Type}{ty:aM}{Wg:Nat}{A:jU L}(hA:A.Ok){Shun:Loc->Prop}{a:bC}{w:aE}{l:L}{τ:cF}
 (hb:bZ P ty Wg A (λg w'=>J P Post (λl=>Shun l\/nE l Wg) w'.heap.size g w') true (.usr l) 0 τ a w) (hg:gD ty Wg w 0 0) (hB:B<=Wg/\B<=w.heap.size)
 (bnd:∀b,τ.own b\/τ.still b\/τ.pass b->b<w.heap.size/\b≠Wg/\∀l,nE l b->¬Shun l) (pend:A.pend l=false)
 (inv:A.Inv (λi=>if i=0 then .run l else .gone) (λ_=>none)):J P Post Shun B a w:=by
 intro gs t sl q h0 hL hP;obtain⟨N,m',t',h1,gs',a',w',J7,q',rfl,h2,h3,h4,h5,h6⟩:=Mt.phase hA (S:=⟨h0,hL,hP,hb,hg,hB,bnd,pend,inv⟩) sl;exact Ends.run N h1 (h4 gs' t' J7 q' h2 h5 h6)
end
end Go.Mt
namespace Go.Mt
open Go.Conc Go.Tt
open Go.ConcR (KK wgBlock WgAt stA smA rd wr)
abbrev K0:Pr:=λ_ _=>False
structure Sh (n:Nat)(Shun:Loc->Prop)(R:Pr)(W:aE):Prop where
 old:∀l b,nE l b->b<n->¬Shun l
 rel:∀a b,R a b->∀l,nE l b->¬Shun l
 new:∀l b,nE l b->W.heap.size<=b->¬Shun l
structure Kp (W0:aE)(R:Pr)(St:Nat->Prop)(W:aE):Prop where
 os:W.os=W0.os
 tape:W.tape=W0.tape
 output:W.output=W0.output
 size:W0.heap.size<=W.heap.size
 block:∀b,b<W0.heap.size->W.heap[b]? =W0.heap[b]?
 old:∀a b,R a b->b<W0.heap.size->St a
def Kp.below {W0 W:aE}{R:Pr}{St:Nat->Prop}(h:Kp W0 R St W):bV W0.heap.size W0 W:=⟨h.os,h.tape,h.output,h.size,h.block⟩
section
variable (P:dM)(fs:aP->Bool)(G':Gp)(St:Nat->Prop)(W0:aE)(Post:aF->aE->Prop)
def JO (m:Fm)(ms:List Fm)(w:aE):Prop:=
 ∀(K R:Pr) (W:aE) (m':Fm) (ms':List Fm) (Shun:Loc->Prop),cV (SF fs) K R G' St w W->oU P fs K R m m'->uS P fs K R ms ms'->Sh W0.heap.size Shun R W->Kp W0 R St W->
  J P.c Post Shun W.heap.size (G m'.fr (ms'.map Fm.fr)) W
variable {P fs G' St W0 Post}
variable {m:Fm}{ms:List Fm}
def JO.tape {w:aE}(h:JO P fs G' St W0 Post m ms w)(T:Tape)(e:Nat):JO P fs G' St W0 Post m ms (Tt.tp w T e):=
 λK R W m' ms' Shun a b c d k=>h K R W m' ms' Shun a.untp b c d k
variable {R:Pr}
def zCY {Shun:Loc->Prop}{W:aE}{St:Nat->Prop}{e:oC}(h:Hf R St e){n:Nat}(hs:Sh n Shun R W)(aN:∀a b,R a b->b<W.heap.size):EvL Shun W.heap.size e:=by
 rcases h with rfl|⟨b,a,h1,h2,h3⟩
 .exact⟨λx hx=>by simp[jN,qQ] at hx,aO,aO,trivial⟩
 .obtain⟨loc,wr,sy⟩:=e
  cases loc with
  |cell x=>
   simp only[Ge,gA] at h1;refine⟨λy hy lL=>?_,aO,aO,?_⟩
   .simp only[jN,qQ,gA] at hy
    subst hy;exact absurd lL (hs.rel a b h2 _ h1)
   .show x.block<W.heap.size
    rw[h1];exact aN a b h2
  |obj r=>
   simp only[Ge,gA] at h1;have hr:r<W.heap.size:=by rw[h1];exact aN a b h2
   refine⟨λy hy lL=>?_,aO,aO,?_⟩
   .have Vz:y.loc=.obj r:=by
     cases wr<;>cases sy<;>simp only[jN,qQ,gA] at hy<;>first|(subst hy;rfl)|(cases hy;done)
    exact absurd (Vz▸lL) (hs.rel a b h2 (.obj r) h1)
   .cases wr<;>cases sy<;>exact hr
  |_=>simp[Ge] at h1
def cV.at {S:aP->Prop}{K:Pr}{G':Gp}{w W:aE}(h:cV S K R G' St w W)(d:Nat):cV S K R G' St w (W.at d):=
 ⟨h.inj,h.inj',h.lt,h.low,h.gle,h.cont,h.rest,h.st,h.np,h.tb⟩
def JO.one (F:Fit2 P fs)(hG:G'=P.gp){w:aE}(hs:m.ret=true->ms≠[])(nx:Tape->(Fm×List Fm)×aE)(cH:∀T,(fD P.g m ms).run P.g (Tt.tp w T 0)=.ok (nx T).1 (nx T).2)
 (dG:∀T K R y,¬OpR P fs K R (nx T).1 y) (hJ:∀T,JO P fs G' St W0 Post (nx T).1.1 (nx T).1.2 (nx T).2):JO P fs G' St W0 Post m ms w:=by
 intro K R W m' ms' Shun hw hm iP lL hk;refine J.own rfl λd=>?_;have dJ:=cV.at hw d
 let aV:=W.at d
 let T:Tape:=λn q=>aV.tape (aV.drawn+n) q
 have yE:cV (SF fs) K R G' St (Tt.tp w T 0) aV:=⟨dJ.inj,dJ.inj',dJ.lt,dJ.low,dJ.gle,dJ.cont,dJ.rest,dJ.st,dJ.np,dJ.tb⟩;have Lq:Tp (Tt.tp w T 0) aV:=λn q=>by show aV.tape (aV.drawn+(0+n)) q=_;rw[qY]
 obtain⟨R1,x',W1,ev,e1,e2,e3,e4,e5⟩:=aG.run hG _ (zdO (l:=false) F (yE.relOk hG) hm iP (λe=>by cases e) hs) yE Lq (cH T);replace e2:=e2.resolve_right λx=>dG T K R1 x' x.2;have mJ:(fD P.c m' ms').events P.c aV #[]=ev:=by rw[e4];simp
 have cG:W.heap.size<=W1.heap.size:=e3.size.2;have zs5:Sh W0.heap.size Shun R1 W1:=⟨lL.old,λa b x l hl=>by
  rcases e3.new a b x with y|⟨_,y⟩
  .exact lL.rel a b y l hl
  .exact lL.new l b hl y,λl b hl hb=>lL.new l b hl (eG cG hb)⟩
 have nZ:Kp W0 R1 St W1:=by
  refine⟨e3.os.2.trans hk.os,e3.tape.2.trans hk.tape,e3.ou.2.trans hk.output,eG hk.size cG,λb hb=>?_,λa b x hb=>?_⟩
  .have zBM:b<W.heap.size:=lD hb hk.size
   rw[e3.keep b zBM (λa x=>hk.old a b x hb)];exact hk.block b hb
  .rcases e3.new a b x with y|⟨_,y⟩
   .exact hk.old a b y hb
   .have h9:W.heap.size<=b:=y
    have:=hk.size;omega
 have goal:=hJ T K R1 W1 x'.1 x'.2 Shun e3.rel e2.1 e2.2.1 zs5 nZ;have aY:=ziA (main:=true) e1 [];simp only[N1] at aY;rw[mJ] at aY;exact⟨_,W1,_,W1.heap.size,aY,λe he=>zCY (e5 e (zbZ he)) zs5 (λa b x=>(e3.rel.ltR a b x).2),cG,goal⟩
def LTs.jo (F:Fit2 P fs)(hG:G'=P.gp){N:Fm->Prop}(hop:∀f xs,P.op f=true->¬N (rA P.g f xs)){Stop:Fm->List Fm->aE->Prop}(hS:∀m ms w,Stop m ms w->JO P fs G' St W0 Post m ms w){w:aE}(h:LTs P.g N Stop m ms w):
 JO P fs G' St W0 Post m ms w:=by
 induction h with
 |stop hs=>exact hS _ _ _ hs
 |step nx hs cH hN aN ih=>
  rename_i m ms w;refine JO.one F hG hs nx cH (λT K R y ho=>?_) ih;obtain⟨f,xs,bY,c,c',rest,L4,h1,h2,h3,h4,_⟩:=ho.ex;have zsN:=hN T;rw[h4] at zsN;exact hop f xs h1 zsN
end
abbrev PL (p:bS)(op gs:aP->Bool):dM:=⟨p,p.funcs,op,λ_=>false,gs,true⟩
abbrev PS (p:bS)(gs:aP->Bool):dM:=⟨p,p.funcs,λ_=>false,λ_=>false,gs,true⟩
structure Lv (p:bS)(op gs gs₁ fs:aP->Bool):Prop where
 fit:Fit2 (PL p op gs) fs
 fit₁:vN (PS p gs₁) fs
 nofit:∀f,op f=true->∃fn c,p.funcs[f]? =some fn/\fn.body=some c/\(fn.name== "runtime.NumGoroutine")=false/\oI p ⟨fs,gs₁,true⟩ c=false
section
variable {p:bS}{op gs gs₁ fs:aP->Bool}{St:Nat->Prop}{W0:aE}{Post:aF->aE->Prop}
abbrev JL (p:bS)(op gs fs:aP->Bool)(St:Nat->Prop)(W0:aE)(Post:aF->aE->Prop)(m:Fm)(ms:List Fm)(w:aE):Prop:=JO (PL p op gs) fs (o6 p) St W0 Post m ms w
def Ju (p:bS)(f:aP)(xs:Array aF):(rA p f xs).fn=f:=by
 unfold rA;split
 .split<;>rfl
 .rfl
variable {P:dM}{G':Gp}{m:Fm}{ms:List Fm}
def JO.untape {fs:aP->Bool}{w:aE}{T:Tape}{e:Nat}(h:JO P fs G' St W0 Post m ms (Tt.tp w T e)):JO P fs G' St W0 Post m ms w:=
 λK R W m' ms' Shun a b c d k=>h K R W m' ms' Shun ⟨a.inj,a.inj',a.lt,a.low,a.gle,a.cont,a.rest,a.st,a.np,a.tb⟩ b c d k
variable {K:Pr}
def vO.tape {fs:aP->Bool}{w:aE}(h:vO P fs K G' St m ms w)(T:Tape)(e:Nat):vO P fs K G' St m ms (Tt.tp w T e):=by
 obtain⟨R,W,m',ms',a,b,c⟩:=h;exact⟨R,W,m',ms',⟨a.inj,a.inj',a.lt,a.low,a.gle,a.cont,a.rest,a.st,a.np,a.tb⟩,b,c⟩
variable {K₁:Pr}{c:Code}
def zm5 {P₁:dM}{U4:aP->Bool}{Wy:Gp}{zdQ:Nat->Prop}(zgn:vN P₁ U4)(zdA:Wy=P₁.gp){fn:aP}{tmps:Array aF}{w:aE}{Q:Exit->tK->aE->Prop}
 (hrel:vO P₁ U4 K₁ Wy zdQ ⟨fn,tmps,[.code c],false⟩ [] w) (rL:∀T,Code.wp P₁.g c Q ⟨tmps,[]⟩ (Tt.tp w T 0)) (hx:∀e a w,Q e a w->e=.normal\/e=.ret) (X4:∀e a w T k,Q e a w->Q e a (Tt.tp w T k)):
 Tt.LT P₁.g (λmT wT=>mT.ret=true/\((mT.todo=[]/\Q .normal ⟨mT.tmps,[]⟩ wT)\/Q .ret ⟨mT.tmps,[]⟩ wT)) ⟨fn,tmps,[.code c],false⟩ [] w:=by
 refine bar zgn zdA (λm w T e h=>⟨h.1,h.2.imp (λx=>⟨x.1,X4 _ _ _ _ _ x.2⟩) (X4 _ _ _ _ _)⟩) ⟨hrel,λT=>?_⟩
 let b:Frame:={(default:dK) with fn:=fn,kind:=.normal}
 obtain⟨e,a',w',hq,zoj⟩:=rL T b [] [pz];have zDS:=vO.tape hrel T 0
 have fin:∀todo,Steps P₁.g (lone (b.at ⟨tmps,[]⟩ [.code c]) [pz] (Tt.tp w T 0)) (lone {b.at a' todo with mode:=.returning} [pz] w')->((todo=[]/\Q .normal a' w')\/Q .ret a' w')->
  ∃n mT wT,Ir P₁.g n ⟨fn,tmps,[.code c],false⟩ [] (Tt.tp w T 0) mT wT/\mT.ret=true/\((mT.todo=[]/\Q .normal ⟨mT.tmps,[]⟩ wT)\/Q .ret ⟨mT.tmps,[]⟩ wT):=by
  intro todo hs zhY;obtain⟨n,hn⟩:=hs;obtain⟨k,mT,hi,fQ⟩:=Rv zgn zdA (frT:={b.at a' todo with mode:=.returning}) rfl n zDS hn;have h1:mT.tmps=a'.tmps:=congrArg zpM fQ;have h2:a'.defers=[]:=(congrArg dK.defers fQ).symm;have h3:mT.todo=todo:=congrArg dK.todo fQ;have h4:mT.ret=true:=by
   cases hr:mT.ret with
   |true=>rfl
   |false=>have:=congrArg dK.mode fQ;rw[Fm.fr_run hr] at this;cases this
  have h5:(⟨mT.tmps,[]⟩:tK)=a':=by rw[h1,<-h2]
  exact⟨k,mT,w',hi,h4,by rw[h5,h3];exact zhY⟩
 rcases hx e a' w' hq with rfl|rfl
 .exact fin [] (Steps.trans zoj (Steps.one step_end)) (.inl ⟨rfl,hq⟩)
 .obtain⟨todo,hs⟩:=zoj
  exact fin todo hs (.inr hq)
def zch (p:bS)(op:aP->Bool)(m:Fm):Prop:=∀f xs,op f=true->m≠rA p f xs
def Lv.hop (L:Lv p op gs gs₁ fs):∀f xs,(PL p op gs).op f=true->¬zch p op (rA (PL p op gs).g f xs):=λf xs h hn=>hn f xs h rfl
def Lv.hN (L:Lv p op gs gs₁ fs):∀m R y,oU (PS p gs₁) fs K₁ R m y->zch p op m:=by
 rintro m R y hm f xs ho rfl;obtain⟨fn,c,h1,h2,_,h4⟩:=L.nofit f ho;have h5:rA p f xs=⟨f,xs++nU (fn.ntmps-xs.size) aA,[.code c],false⟩:=by simp[rA,h1,h2]
 have hf:=hm.fit;rw[h5] at hf;have:=hf (.code c) aO;have h6:tU (PS p gs₁) fs f=⟨fs,gs₁,true⟩:=rfl;simp only[Ea,h6,h4] at this;cases this
variable {k:List eE}
def zpD {R:Pr}{fn:aP}{tmps:Array aF}{w W:aE}{m':Fm}(hc:oI p ⟨fs,gs₁,true⟩ c=true)
 (hw:cV (SF fs) K R (o6 p) St w W) (hm:oU (PL p op gs) fs K R ⟨fn,tmps,.code c::k,false⟩ m'):vO (PS p gs₁) fs K (o6 p) St ⟨fn,tmps,[.code c],false⟩ [] w:=by
 refine⟨R,W,{m' with todo:=[.code c]},[],hw,⟨hm.fn,rfl,hm.ret,hm.tmps,λi hi=>?_,hm.infs⟩,.nil⟩;simp only[jJ,lZ,or_false] at hi;subst hi;exact hc
variable {b:List Fm}
def JO.piece (L:Lv p op gs gs₁ fs){fn:aP}{tmps:Array aF}{w:aE}(hc:oI p ⟨fs,gs₁,true⟩ c=true)(xB:op fn=false)
 (rL:∀T,Code.wp p c (λe a' w'=>e=.normal/\JL p op gs fs St W0 Post ⟨fn,a'.tmps,k,false⟩ b w') ⟨tmps,[]⟩ (Tt.tp w T 0)):JL p op gs fs St W0 Post ⟨fn,tmps,.code c::k,false⟩ b w:=by
 intro K R W m' ms' Shun hw hm iP lL hk;have hrel:=zpD (gs₁:=gs₁) hc hw hm;have tree:=zm5 L.fit₁ rfl hrel rL (λe a w h=>.inl h.1) (λe a w T k h=>⟨h.1,h.2.tape T k⟩)
 have zaY:=LT.app L.fit₁ rfl (N:=zch p op) (Stop:=λm ms w=>JL p op gs fs St W0 Post m ms w) k b (fn0:=fn) (L.hN (K₁:=K)) (λm e f xs ho e2=>by rw[e2,Ju] at e;rw[e,xB] at ho;cases ho)
  (λx w e1 e2 e3 hq=>by
   have h1:=hq w.tape;rcases h1.2 with h|h
   .have h2:=JO.untape h.2.2
    obtain⟨xf,xt,xd,xr⟩:=x;simp only at e1 e2 e3 h2;subst e1 e2 e3;exact h2
   .cases h.1)
  (λx w e1 e2 e3 hq=>by
   rcases hq.2 with h|h
   .exact absurd h.1 e3
   .cases h.1) tree rfl hrel (λ_ e=>by cases e)
 exact LTs.jo L.fit rfl L.hop (λm ms w h=>h) zaY K R W m' ms' Shun hw hm iP lL hk
def JO.ctl (L:Lv p op gs gs₁ fs){m1:Fm}{w:aE}(hr:m.ret=false)(hf:op m1.fn=false)(cH:∀w,(rU p m ms).run p w=.ok (m1,ms) w)(hJ:JL p op gs fs St W0 Post m1 ms w):JL p op gs fs St W0 Post m ms w:=by
 refine JO.one L.fit rfl (λe=>by rw[hr] at e;cases e) (λT=>((m1,ms),Tt.tp w T 0)) (λT=>?_) (λT K R y ho=>?_) λT=>hJ.tape T 0
 .show(fD p m ms).run p _=_
  simp only[fD,hr,jE,if_false];exact cH _
 .obtain⟨f,xs,bY,c,c',rest,L4,h1,h2,h3,h4,_⟩:=ho.ex
  simp only[pK] at h4;have h5:=h4.1;rw[h5,Ju] at hf;have h6:op f=true:=h1;rw[hf] at h6;cases h6
variable {a:Code}
def JO.seq (L:Lv p op gs gs₁ fs){fn:aP}{tmps:Array aF}{b:Code}{w:aE}(hf:op fn=false)(h:JL p op gs fs St W0 Post ⟨fn,tmps,.code a:: .code b::k,false⟩ ms w):JL p op gs fs St W0 Post ⟨fn,tmps,.code (.seq a b)::k,false⟩ ms w:=
 JO.ctl L rfl hf (λw=>rfl) h
def JO.cond (L:Lv p op gs gs₁ fs){fn:aP}{tmps:Array aF}{c:cM}{b:Code}{w:aE}{t:Bool}(hf:op fn=false)(hc:(bH tmps []).eval c=.bool t)(h:JL p op gs fs St W0 Post ⟨fn,tmps,.code (if t then a else b)::k,false⟩ ms w):JL p op gs fs St W0 Post ⟨fn,tmps,.code (.cond c a b)::k,false⟩ ms w:=by
 refine JO.ctl L rfl hf (λw=>?_) h;have he:Fm.eval ⟨fn,tmps,.code (.cond c a b)::k,false⟩ c=.bool t:=by rw[<-hc];cases c<;>rfl
 simp only[rU,he,kN,bD]
def JO.skip (L:Lv p op gs gs₁ fs){fn:aP}{tmps:Array aF}{w:aE}(hf:op fn=false)(h:JL p op gs fs St W0 Post ⟨fn,tmps,k,false⟩ ms w):JL p op gs fs St W0 Post ⟨fn,tmps,.code .skip::k,false⟩ ms w:=JO.ctl L rfl hf (λw=>rfl) h
def JO.ret (L:Lv p op gs gs₁ fs){fn:aP}{tmps:Array aF}{w:aE}(hf:op fn=false)(h:JL p op gs fs St W0 Post ⟨fn,tmps,.code .ret::k,true⟩ ms w):JL p op gs fs St W0 Post ⟨fn,tmps,.code .ret::k,false⟩ ms w:=JO.ctl L rfl hf (λw=>rfl) h
def JO.fall (L:Lv p op gs gs₁ fs){fn:aP}{tmps:Array aF}{w:aE}(hf:op fn=false)(h:JL p op gs fs St W0 Post ⟨fn,tmps,[],true⟩ ms w):JL p op gs fs St W0 Post ⟨fn,tmps,[],false⟩ ms w:=JO.ctl L rfl hf (λw=>rfl) h
variable {ops:Array aZ}
def JO.reg (L:Lv p op gs gs₁ fs){fn:aP}{tmps:Array aF}{id:Nat}{w:aE}(hf:op fn=false)(h:JL p op gs fs St W0 Post ⟨fn,tmps,.inRegion ops (gF ops.size)::k,false⟩ ms w):JL p op gs fs St W0 Post ⟨fn,tmps,.code (.region id ops false)::k,false⟩ ms w:=JO.ctl L rfl hf (λw=>rfl) h
def JO.regEnd (L:Lv p op gs gs₁ fs){fn:aP}{tmps:Array aF}{w:aE}(hf:op fn=false)(h:JL p op gs fs St W0 Post ⟨fn,tmps,k,false⟩ ms w):JL p op gs fs St W0 Post ⟨fn,tmps,.inRegion ops []::k,false⟩ ms w:=JO.ctl L rfl hf (λw=>rfl) h
variable {o:aZ}
def JO.opv (L:Lv p op gs gs₁ fs){fn:aP}{tmps:Array aF}{i:Nat}{rest:List Nat}{w:aE}{v:aF}(hf:op fn=false)(ho:ops[i]? =some o)(cD:dF o (dR ops tmps)=true)
 (hx:∀T e,(aS (bH tmps []).eval o).run p (Tt.tp w T e)=.ok (.value v) (Tt.tp w T e)) (h:JL p op gs fs St W0 Post ⟨fn,(cC ⟨tmps,[]⟩ o.dst v).tmps,.inRegion ops rest::k,false⟩ ms w):JL p op gs fs St W0 Post ⟨fn,tmps,.inRegion ops (i::rest)::k,false⟩ ms w:=by
 refine JO.one L.fit rfl (λe=>by cases e) (λT=>((⟨fn,(cC ⟨tmps,[]⟩ o.dst v).tmps,.inRegion ops rest::k,false⟩,ms),Tt.tp w T 0)) (λT=>?_) (λT K R y Nh=>?_) λT=>h.tape T 0
 .show(fD p _ ms).run p _=_
  simp only[fD,jE,if_false,rU,ho,Ao,y4,cD,if_true];have he:Fm.eval ⟨fn,tmps,.inRegion ops (i::rest)::k,false⟩=(bH tmps []).eval:=by funext x;cases x<;>rfl
  rw[he];refine(sE p _ _ _).trans ?_;rw[hx];simp only[uV,qT,kN,bD,Fm.fin,ho,vD,cC];cases o.dst<;>rfl
 .obtain⟨f,xs,bY,c,c',rest,L4,h1,h2,h3,h4,_⟩:=Nh.ex
  simp only[pK] at h4;have h5:=congrArg Fm.fn h4.1;rw[Ju] at h5;have h6:op f=true:=h1;simp only at h5;rw[<-h5,hf] at h6;cases h6
variable {x:Fm}
def JO.back (L:Lv p op gs gs₁ fs){w:aE}{i:Nat}{rest:List Nat}{v:aF}(hr:x.ret=true)(pS:m.todo=.inRegion ops (i::rest)::k){fnx:Ut}(Sk:p.funcs[x.fn]? =some fnx)(hv:(oK fnx.results.toList x.tmps).run p w=.ok v w)(hf:op m.fn=false)
 (h:JL p op gs fs St W0 Post (m.fin ops i rest k v) ms w):JL p op gs fs St W0 Post x (m::ms) w:=by
 refine JO.one L.fit rfl (λ_=>by simp) (λT=>((m.fin ops i rest k v,ms),Tt.tp w T 0)) (λT=>?_) (λT K R y Nh=>?_) λT=>h.tape T 0
 .show(fD p x (m::ms)).run p _=_
  simp only[fD,hr,if_true];exact(Mi pS Sk ((Py _ _ w v w hv).2 T 0)).1
 .obtain⟨f,xs,bY,c,c',rest,L4,h1,h2,h3,h4,_⟩:=Nh.ex
  simp only[pK] at h4;have h5:=congrArg Fm.fn h4.1;rw[Ju] at h5;have h6:op f=true:=h1;have h7:m.fn=f:=h5;rw[<-h7,hf] at h6;cases h6
def JO.tail (L:Lv p op gs gs₁ fs){fn:aP}{tmps:Array aF}{w:aE}(hc:oI p ⟨fs,gs₁,true⟩ c=true)(xB:op fn=false)
 (rL:∀T,Code.wp p c (λe a' w'=>(e=.normal\/e=.ret)/\∀todo,JL p op gs fs St W0 Post ⟨fn,a'.tmps,todo,true⟩ b w') ⟨tmps,[]⟩ (Tt.tp w T 0)):JL p op gs fs St W0 Post ⟨fn,tmps,[.code c],false⟩ b w:=by
 intro K R W m' ms' Shun hw hm iP lL hk;have hrel:=zpD (gs₁:=gs₁) hc hw hm;have tree:=zm5 L.fit₁ rfl hrel rL (λe a w h=>h.1) (λe a w T k h=>⟨h.1,λtodo=>(h.2 todo).tape T k⟩)
 have zaY:=LT.app L.fit₁ rfl (N:=zch p op) (Stop:=λm ms w=>JL p op gs fs St W0 Post m ms w) [] b (fn0:=fn) (L.hN (K₁:=K)) (λm e f xs ho e2=>by rw[e2,Ju] at e;rw[e,xB] at ho;cases ho)
  (λx w e1 e2 e3 hq=>by
   have h1:=hq w.tape;have h2:JL p op gs fs St W0 Post ⟨fn,x.tmps,[],true⟩ b w:=by
    rcases h1.2 with h|h
    .exact JO.untape (h.2.2 [])
    .exact JO.untape (h.2 [])
   obtain⟨xf,xt,xd,xr⟩:=x;simp only at e1 e2 e3 h2;subst e1 e2 e3;exact JO.fall L xB h2)
  (λx w e1 e2 e3 hq=>by
   have h2:JL p op gs fs St W0 Post ⟨fn,x.tmps,x.todo,true⟩ b w:=by
    rcases hq.2 with h|h
    .exact h.2.2 _
    .exact h.2 _
   obtain⟨xf,xt,xd,xr⟩:=x;simp only at e1 e2 e3 h2;subst e1 e2;rw[Fm.app_nil];exact h2) tree rfl hrel (λ_ e=>by cases e)
 exact LTs.jo L.fit rfl L.hop (λm ms w h=>h) zaY K R W m' ms' Shun hw hm iP lL hk
def Lv.noOp (L:Lv p op gs gs₁ fs){f:aP}(hg:gs₁ f=true):op f=false:=by
 cases ho:op f with
 |false=>rfl
 |true=>
  obtain⟨fn,c,h1,h2,_,h4⟩:=L.nofit f ho;obtain⟨fn',c',g1,g2,g3,g4,g5⟩:=L.fit₁.fn f hg rfl;have zR:=h1;rw[g2] at zR;obtain rfl:=cE zR;rw[h2] at g4;obtain rfl:=cE g4;have h6:tU (PS p gs₁) fs f=⟨fs,gs₁,true⟩:=rfl;rw[h6] at g5;have zyu:=g5;rw[h4] at zyu;cases zyu
variable {fn:Ut}
def zCa {p:bS}(hp:C3 fn.results.toList){tmps:Array aF}{v:aF}{w w':aE}(h:(results fn tmps).run p w=.ok v w'):(oK fn.results.toList tmps).run p w=.ok v w:=by
 rw[zfe hp] at h;obtain⟨rfl,_⟩:=Py _ _ w v w' h;exact h
variable {args:Array cM}{kH:Array aM}
def zcK {p:bS}{f:aP}(hop:o.op=.call ⟨.value (.func f),args,kH⟩){ρ:cM->aF}(hρ:∀g,ρ (.func g)=.func (.func g) #[] #[])(hf:p.funcs[f]? =some fn)
 (hn:(fn.name== "runtime.NumGoroutine")=false) (hb:fn.body=some c) (w:aE):(aS ρ o).run p w=.ok (.enter f (args.map ρ)) w/\(aS ρ o).events p w #[]=#[]:=by
 obtain⟨dst,yJ,type,pos,after,guard⟩:=o;simp only at hop;subst hop;have sV:¬fn.name= "runtime.NumGoroutine" :=by simpa using hn
 constructor
 .simp[aS,resolve,Bu,hρ,invoke,callFunc,program,bind,x7,pure,bD,hf,sV,hb]
 .simp[aS,resolve,Bu,hρ,invoke,callFunc,program,bind,x7,pure,bD,vY,zO,hf,sV,hb]
def JO.callL (L:Lv p op gs gs₁ fs){w:aE}{i:Nat}{rest:List Nat}{f:aP}(hr:m.ret=false)(pS:m.todo=.inRegion ops (i::rest)::k)
 (ho:ops[i]? =some o) (cD:dF o (dR ops m.tmps)=true) (hop:o.op=.call ⟨.value (.func f),args,kH⟩) (hg:gs₁ f=true) (xB:op m.fn=false) (sH:args.all (dQ fs)=true)
 {Q:aF->aE->Prop} (X4:∀v w T e,Q v w->Q v (Tt.tp w T e)) (hc:∀T,fN p f (args.map m.eval) (Tt.tp w T 0) (λe w'=>∃v,e=.returned v/\Q v w'))
 (hJ:∀v w',Q v w'->JL p op gs fs St W0 Post (m.fin ops i rest k v) ms w'):JL p op gs fs St W0 Post m ms w:=by
 have Dl:=L.noOp hg;obtain⟨fn,c,g1,g2,g3,g4,g5⟩:=L.fit₁.fn f hg rfl;have Bs:p.funcs[f]? =some fn:=g2;have lY:C3 fn.results.toList:=L.fit₁.res f hg rfl fn g2;have Cn:rA p f (args.map m.eval)=⟨f,args.map m.eval++nU (fn.ntmps-(args.map m.eval).size) aA,[.code c],false⟩:=by simp[rA,Bs,g4]
 have zc2:∀(x:Fm) (wx:aE),x.ret=true->x.fn=f->(∃v,(oK fn.results.toList x.tmps).run p wx=.ok v wx/\Q v wx)->JL p op gs fs St W0 Post x (m::ms) wx:=by
  intro x wx h1 h2 ⟨v,h3,h4⟩;exact JO.back L h1 pS (v:=v) (fnx:=fn) (by rw[h2];exact Bs) h3 xB (hJ v wx h4)
 intro K R W m' ms' Shun hw hm iP lL hk;have Bx:bK (SF fs) K R (args.map m.eval) (args.map m'.eval):=bK.maps hm.eval sH;have zfQ:oU (PS p gs₁) fs K R (rA p f (args.map m.eval)) (rA p f (args.map m'.eval)):=by
  have zFa:rA p f (args.map m'.eval)=⟨f,args.map m'.eval++nU (fn.ntmps-(args.map m'.eval).size) aA,[.code c],false⟩:=by simp[rA,Bs,g4]
  rw[Cn,zFa];refine⟨rfl,rfl,rfl,Bx.pad _,λj hj=>?_,⟨fn,fn,g1,g2,rfl,lY⟩⟩;simp only[jJ,lZ,or_false] at hj;subst hj;exact g5
 have hrel:vO (PS p gs₁) fs K (o6 p) St (rA p f (args.map m.eval)) [] w:=⟨R,W,_,[],hw,zfQ,.nil⟩;have tree:Tt.LT p (λmT wT=>mT.ret=true/\mT.fn=f/\∃v,(oK fn.results.toList mT.tmps).run p wT=.ok v wT/\Q v wT) (rA p f (args.map m.eval)) [] w:=by
  refine bar (P:=PS p gs₁) L.fit₁ rfl (λm w T e h=>⟨h.1,h.2.1,let⟨v,a,b⟩:=h.2.2;⟨v,(Py _ _ w v w a).2 T e,X4 _ _ _ _ b⟩⟩) ⟨hrel,λT=>?_⟩;obtain⟨e,w',fr,⟨v,rfl,hq⟩,r9,Cz,Kv⟩:=hc T [pz];obtain⟨zhG,zLk,zLK,fn',X9,zdl⟩:=Kv;obtain⟨n,hn⟩:=r9;have zzG:E0 p f (args.map m.eval) .normal=(rA p f (args.map m.eval)).fr:=by rw[Cn];exact Ve Bs g4
  rw[zzG] at hn;obtain⟨k2,mT,hi,fQ⟩:=Rv (P:=PS p gs₁) L.fit₁ rfl zhG n (vO.tape hrel T 0) hn;have h1:mT.tmps=fr.tmps:=congrArg zpM fQ;have h2:mT.fn=f:=(congrArg dK.fn fQ).trans Cz;have h4:mT.ret=true:=by
   cases hr:mT.ret with
   |true=>rfl
   |false=>rw[<-fQ,Fm.fr_run hr] at zhG;cases zhG
  rw[Cz,Bs] at X9;obtain rfl:=cE X9;exact⟨k2,mT,w',hi,h4,h2,v,by rw[h1];exact zCa lY zdl,hq⟩
 have zaY:=LT.app (P₁:=PS p gs₁) L.fit₁ rfl (N:=zch p op) (Stop:=λm ms w=>JL p op gs fs St W0 Post m ms w) [] (m::ms) (fn0:=f) (L.hN (K₁:=K)) (λx e f' xs vH e2=>by rw[e2,Ju] at e;rw[e,Dl] at vH;cases vH)
  (λx w e1 e2 e3 hq=>by
   obtain⟨_,_,v,h5,h6⟩:=hq w.tape;have h7:JL p op gs fs St W0 Post {x with ret:=true} (m::ms) w:=JO.untape (T:=w.tape) (e:=0) (zc2 _ _ rfl e1 ⟨v,h5,h6⟩);obtain⟨xf,xt,xd,xr⟩:=x;simp only at e1 e2 e3 h7;subst e1 e2 e3;exact JO.fall L Dl h7)
  (λx w e1 e2 e3 hq=>by
   rw[Fm.app_nil];exact zc2 _ _ e2 e1 hq.2.2) tree (Ju _ _ _) hrel (λ_ e=>by rw[Cn] at e;cases e)
 have zEe:JL p op gs fs St W0 Post (rA p f (args.map m.eval)) (m::ms) w:=by
  have:=LTs.jo L.fit rfl L.hop (λm ms w h=>h) zaY
  rwa [show zF [] (m::ms) (rA p f (args.map m.eval)) []=(rA p f (args.map m.eval),m::ms) from by simp[zF,Fm.app_nil]] at this
 refine JO.one L.fit rfl (λe=>by rw[hr] at e;cases e) (λT=>((rA p f (args.map m.eval),m::ms),Tt.tp w T 0)) (λT=>?_) (λT K R y Nh=>?_) (λT=>zEe.tape T 0) K R W m' ms' Shun hw hm iP lL hk
 .show(fD p m ms).run p _=_
  simp only[fD,hr,jE,if_false,rU,pS,ho,Ao,y4,cD,if_true];refine(sE p _ _ _).trans ?_;rw[(zcK hop (λg=>rfl) Bs g3 g4 (Tt.tp w T 0)).1];simp only[uV,qT,Bs,g4,kN,bD,Cn]
 .obtain⟨f',xs,bY,c,c',rest,L4,h1,h2,h3,h4,_⟩:=Nh.ex
  simp only[pK] at h4;have h5:=congrArg Fm.fn h4.1;rw[Ju,Ju] at h5;have h6:op f'=true:=h1;rw[<-h5,Dl] at h6;cases h6
def JO.callF (L:Lv p op gs gs₁ fs){w:aE}{i:Nat}{rest:List Nat}{f:aP}(hr:m.ret=false)(pS:m.todo=.inRegion ops (i::rest)::k)
 (ho:ops[i]? =some o) (cD:dF o (dR ops m.tmps)=true) (hop:o.op=.call ⟨.value (.func f),args,kH⟩) (hg:op f=true) (sH:args.all (dQ fs)=true)
 (hF:∀(K R:Pr) (W:aE) (m':Fm) (ms':List Fm) (Shun:Loc->Prop) (bY:Array aF),cV (SF fs) K R (o6 p) St w W->oU (PL p op gs) fs K R m m'->uS (PL p op gs) fs K R ms ms'->Sh W0.heap.size Shun R W->Kp W0 R St W->bK (SF fs) K R (args.map m.eval) bY->
  J p Post Shun W.heap.size (G (E0 p f bY .normal) (m'.fr::ms'.map Fm.fr)) W):JL p op gs fs St W0 Post m ms w:=by
 obtain⟨fn,c,Bs,g4,g3,_⟩:=L.nofit f hg;intro K R W m' ms' Shun hw hm iP lL hk;refine J.own rfl λd=>?_;have Bx:bK (SF fs) K R (args.map m.eval) (args.map m'.eval):=bK.maps hm.eval sH;have wE:m'.ret=false:=hm.ret.symm.trans hr;have Qi:m'.todo=.inRegion ops (i::rest)::k:=hm.todo.symm.trans pS;have uD:dF o (dR ops m'.tmps)=true:=by rw[<-zmk ops hm.tmps];exact cD
 have Cn:E0 p f (args.map m'.eval) .normal=(⟨f,args.map m'.eval++nU (fn.ntmps-(args.map m'.eval).size) aA,[.code c],false⟩:Fm).fr:=Ve Bs g4;obtain⟨x1,x2⟩:=zcK hop (ρ:=m'.eval) (λg=>rfl) Bs g3 g4 (W.at d);have hs:(fD p m' ms').run p (W.at d)=.ok (⟨f,args.map m'.eval++nU (fn.ntmps-(args.map m'.eval).size) aA,[.code c],false⟩,m'::ms') (W.at d):=by
  simp only[fD,wE,jE,if_false,rU,Qi,ho,Ao,y4,uD,if_true];refine(sE p _ _ _).trans ?_;rw[x1];simp only[uV,qT,Bs,g4,kN,bD]
 have aY:=ziA (main:=true) hs [];simp only[N1] at aY;have he:(fD p m' ms').events p (W.at d) #[]=#[]:=by
  simp only[fD,wE,jE,if_false,rU,Qi,ho,Ao,y4,uD,if_true];refine(Tx p _ _ _ #[]).trans ?_;rw[x1,Rm,x2];simp only[qT,Bs,g4];rfl
 rw[he,Ct] at aY;refine⟨_,W.at d,#[],W.heap.size,aY,λe he=>by simp at he,aX _,?_⟩;rw[<-Cn];exact hF K R (W.at d) m' ms' Shun (args.map m'.eval) (cV.at hw d) hm iP ⟨lL.old,lL.rel,lL.new⟩ ⟨hk.os,hk.tape,hk.output,hk.size,hk.block,hk.old⟩ Bx
def JO.fin (L:Lv p op gs gs₁ fs){w:aE}{t:Tmp}(hr:x.ret=true)(hf:p.funcs[x.fn]? =some fn)(ht:fn.results=#[.tmp t])(hi:p.inits.idxOf? x.fn=none)(hP:∀K R W v',VR (SF fs) K R (x.tmps.getD t aA) v'->Kp W0 R St W->Post v' W):JL p op gs fs St W0 Post x [] w:=by
 intro K R W m' ms' Shun hw hm iP lL hk;cases iP;refine J.done rfl λd=>?_;have wE:=hm.ret.symm.trans hr;have X9:p.funcs[m'.fn]? =some fn:=by rw[<-hm.fn];exact hf
 have gV:p.inits.idxOf? m'.fn=none:=by rw[<-hm.fn];exact hi
 refine⟨m'.tmps.getD t aA,#[],?_,λe he=>by simp at he,hP K R (W.at d) _ (hm.tmps.getD t xN) ⟨hk.os,hk.tape,hk.output,hk.size,hk.block,hk.old⟩⟩;have r1:=results_tmp ht m'.tmps p (W.at d);have r2:=Conc.events_results_tmp (P:=p) (w:=W.at d) ht m'.tmps #[];rw[Fm.fr_ret wE];simp[G,stepG,unwind,doReturn,X9,r1,r2,Ct,Bt,gV]
end
end Go.Mt
namespace Go.Mt
open Go.Conc Go.Tt
variable {p:bS}{main:Bool}{m m':Fm}{ms':List Fm}{w w':aE}
def zfl {c:Fm}{rest:List Fm}(hr:m.ret=true)(hc:c.ret=false)(h:(zX p m (c::rest)).run p w=.ok (m',ms') w')(k:List eE)(d:Dk)(CS:List dK):
 ms'=rest/\w'=w/\(∃ops i r k0 v,c.todo=.inRegion ops (i::r)::k0/\m'=c.fin ops i r k0 v)/\stepG p main (G m.fr (fx k d c::CS)) w=.go (G (fx k d m') CS) w' (seen p m.fn ((zX p m (c::rest)).events p w #[])):=by
 obtain⟨ops,i,r,k0,v,fn,D6,hf,hv,rfl,rfl⟩:=Uj h;obtain⟨rfl,_⟩:=Py _ _ w v w' hv;refine⟨rfl,rfl,⟨ops,i,r,k0,v,D6,rfl⟩,?_⟩;rw[(Mi D6 hf hv).2];have he:results fn m.tmps=oK fn.results.toList m.tmps:=zfe (zoq hv);have zJ:(fx k d c).finish v=fx k d (c.fin ops i r k0 v):=by
  simp only[dK.finish,fx,Fm.fr,Fm.fin,D6,List.cons_append];cases(ops[i]?).bind (·.dst)<;>rfl
 rw[Fm.fr_ret hr,<-zJ];simp[G,stepG,unwind,doReturn,hf,he,hv,Bt]
def low (k:List eE)(d:Dk):Fm->List Fm->List dK
 |c,[]=>[fx k d c]
 |c,e::cs=>c.fr::low k d e cs
def stk (k:List eE)(d:Dk)(base:List dK)(m:Fm):List Fm->bC
 |[]=>G (fx k d m) base
 |c::cs=>G m.fr (low k d c cs++base)
def zxJ (k:List eE)(d:Dk)(base:List dK)(m:Fm)(ms:List Fm):(stk k d base m ms).status=.running:=by cases ms<;>rfl
variable {ms:List Fm}
def zG1 {k:List eE}{d:Dk}{base:List dK}(hs:m.ret=true->ms≠[])(aT:ms=[]->m.ret=false->m.todo≠[])(hw:∀c∈ms,c.ret=false)
 (h:(fD p m ms).run p w=.ok (m',ms') w'):∃es,stepG p main (stk k d base m ms) w=.go (stk k d base m' ms') w' es/\∀e∈es,e∈seen p m.fn ((fD p m ms).events p w #[]):=by
 cases hr:m.ret with
 |false=>
  simp only[fD,hr,jE,if_false] at h⊢
  cases ms with
  |nil=>
   rcases zjp (main:=main) hr (k:=k) (λe=>absurd e (aT rfl hr)) h d base with⟨rfl,e⟩|⟨rfl,e⟩
   .exact⟨_,e,λ_ x=>x⟩
   .exact⟨_,e,λ_ x=>x⟩
  |cons c cs=>
   rcases zjp (main:=main) hr (k:=[]) (λ_=>rfl) h .nil (low k d c cs++base) with⟨rfl,e⟩|⟨rfl,e⟩
   .simp only[G9] at e
    exact⟨_,e,λ_ x=>x⟩
   .simp only[G9] at e
    exact⟨_,e,λ_ x=>x⟩
 |true=>
  simp only[fD,hr,if_true] at h⊢
  cases ms with
  |nil=>exact absurd rfl (hs hr)
  |cons c cs=>
   have zuh:=hw c (List.mem_cons_self ..)
   cases cs with
   |nil=>
    obtain⟨rfl,rfl,_,e⟩:=zfl (main:=main) hr zuh h k d base;exact⟨_,e,λ_ x=>x⟩
   |cons c2 cs=>
    obtain⟨rfl,rfl,_,e⟩:=zfl (main:=main) hr zuh h [] .nil (low k d c2 cs++base);simp only[G9] at e;exact⟨_,e,λ_ x=>x⟩
variable {S:List Nat}
def Kn.refl (h:∀i∈m.todo,Bh S i=true):Kn S m m:=⟨h,λ_ _=>rfl⟩
def zCf (hn:∀i∈(Sa m ms).todo,Bh S i=true)(h:(fD p m ms).run p w=.ok (m',ms') w'):Kn S (Sa m ms) (Sa m' ms'):=by
 cases hr:m.ret with
 |false=>
  simp only[fD,hr,jE,if_false] at h
  cases ms with
  |nil=>
   rcases zIG (S:=S) hn h with⟨rfl,e⟩|rfl
   .exact e
   .exact Kn.refl hn
  |cons c cs=>
   rcases zet h with⟨rfl,_⟩|rfl
   .exact Kn.refl hn
   .exact Kn.refl hn
 |true=>
  simp only[fD,hr,if_true] at h
  cases ms with
  |nil=>simp[zX,stuck,bD] at h
  |cons c cs=>
   obtain⟨ops,i,r,k0,v,fn,D6,hf,hv,rfl,rfl⟩:=Uj h
   cases ms' with
   |nil=>exact zfz D6 hn v
   |cons d ds=>exact Kn.refl hn
end Go.Mt
namespace Go.Mt
open Go.Conc Go.Tt
open Go.ConcR (KK wgBlock WgAt stA smA rd wr)
def EvQ (O Z:Nat->Prop)(e:oC):Prop:=e=⟨.mark .noRoom,false,true⟩\/∃b,Ge e=some b/\(O b\/(Z b/\e.write=false))
variable {O Z:Nat->Prop}{e:oC}
def zD2 {Wg:Nat}{main:Bool}(h:EvQ O Z e):EvT Wg main O Z e:=by
 rcases h with rfl|⟨b,h1,h2⟩
 .trivial
 .obtain⟨loc,wr,sy⟩:=e
  cases loc with
  |cell x=>simp only[Ge,gA] at h1;subst h1;exact h2
  |obj r=>simp only[Ge,gA] at h1;subst h1;exact h2
  |_=>simp[Ge] at h1
def zIx (h:EvQ O Z e):e.loc≠ .mark .disable/\e.loc≠ .mark .enable:=by
 rcases h with rfl|⟨b,h1,_⟩
 .exact⟨aO,aO⟩
 .obtain⟨loc,wr,sy⟩:=e
  cases loc<;>simp[Ge] at h1⊢
variable {τ:cF}
def zg6 {St:Nat->Prop}{R:Pr}(h:Hf R St e)(ht:vF τ R St):EvQ τ.own τ.still e:=by
 rcases h with rfl|⟨b,a,h1,h2,h3⟩
 .exact .inl rfl
 .refine .inr ⟨b,h1,?_⟩
  by_cases hs:St a
  .refine .inr ⟨(ht a b h2).1 hs,?_⟩
   cases hw:e.write
   .rfl
   .exact absurd hs (h3 hw)
  .exact .inl ((ht a b h2).2 hs)
def OwnQ (p:bS)(ty:aM)(Wg:Nat)(main:Bool)(B:cF->bC->aE->Prop)(τ:cF)(g:bC)(w:aE):Prop:=
 ∀aI,bT ty Wg τ w aI->∃g' w' es,stepG p main g aI=.go g' w' es/\g'.status=.running/\zP τ.own aI w'/\(∀e∈es,EvQ (τ.grow aI w').own τ.still e)/\B (τ.grow aI w') g' w'
structure Cx (L:Type) where
 p:bS
 gs:aP->Bool
 fs:aP->Bool
 ty:aM
 Wg:Nat
 A:jU L
 Fin:bC->aE->Prop
 main:Bool
 base:List dK
 ds:Dk
 K:Pr
 St:Nat->Prop
 I:Pr->cF->aE->Prop
 pin:List (Nat×aF)
 alone:Option (cF->bC->aE->Prop):=none
 aok:∀B,alone=some B->∀τ g w,g.status=.running->OwnQ p ty Wg main B τ g w->B τ g w:=by intro _ h;cases h
variable {L:Type}
abbrev Cx.P (C:Cx L):dM:=PS C.p C.gs
abbrev Cx.Rel (C:Cx L)(R:Pr)(w W:aE):Prop:=cV (SF C.fs) C.K R (o6 C.p) C.St w W
def Cx.B (C:Cx L)(l:L)(τ:cF)(g:bC)(w:aE):Prop:=
 match C.alone with
 |none=>bZ C.p C.ty C.Wg C.A C.Fin C.main (.usr l) 0 τ g w
 |some B=>B τ g w
def Cx.B_none {C:Cx L}(h:C.alone=none)(l:L)(τ:cF)(g:bC)(w:aE):C.B l τ g w=bZ C.p C.ty C.Wg C.A C.Fin C.main (.usr l) 0 τ g w:=by unfold Cx.B;rw[h]
variable {B:cF->bC->aE->Prop}
def Cx.B_some {C:Cx L}(h:C.alone=some B)(l:L)(τ:cF)(g:bC)(w:aE):C.B l τ g w=B τ g w:=by unfold Cx.B;rw[h]
def Cx.ownQ {C:Cx L}{l:L}{g:bC}{w:aE}(cH:g.status=.running)(h:OwnQ C.p C.ty C.Wg C.main (C.B l) τ g w):C.B l τ g w:=by
 cases ha:C.alone with
 |none=>
  rw[Cx.B_none ha];have hB:∀τ g w,C.B l τ g w->bZ C.p C.ty C.Wg C.A C.Fin C.main (.usr l) 0 τ g w:=λτ g w x=>by rw[Cx.B_none ha] at x;exact x
  refine bZ.own cH trivial λaI s=>?_;obtain⟨g',w',es,h1,h2,h3,h4,h5⟩:=h aI s;refine⟨g',w',es,h1,h2,h3,λe he=>zD2 (h4 e he),?_⟩;rw[deafBehind_still (λe he=>zIx (h4 e he))];exact hB _ _ _ h5
 |some B=>
  rw[Cx.B_some ha];refine C.aok B ha τ g w cH λaI s=>?_;have e:∀τ g w,C.B l τ g w->B τ g w:=λτ g w x=>by rw[Cx.B_some ha] at x;exact x
  obtain⟨g',w',es,h1,h2,h3,h4,h5⟩:=h aI s;exact⟨g',w',es,h1,h2,h3,h4,e _ _ _ h5⟩
abbrev Cx.S (C:Cx L):List Nat:=C.pin.map (·.1)
structure FmW (C:Cx L)(R:Pr)(m m':Fm):Prop where
 fn:m.fn=m'.fn
 todo:m.todo=m'.todo
 ret:m.ret=m'.ret
 tmps:bK (SF C.fs) C.K R m.tmps m'.tmps
 pins:∀x∈C.pin,m'.tmps.getD x.1 aA=x.2
structure Rs (St:Nat->Prop)(R:Pr)(W:aE)(R1:Pr)(W1:aE):Prop where
 le:R.le R1
 tape:W1.tape=W.tape
 os:W1.os=W.os
 output:W1.output=W.output
 size:W.heap.size<=W1.heap.size
 new:∀a b,R1 a b->R a b\/(W.heap.size<=b/\b<W1.heap.size)
 keep:∀b,b<W.heap.size->(∀a,R a b->St a)->W1.heap[b]? =W.heap[b]?
structure fG (C:Cx L):Prop where
 suf:∀R τ W aV,C.I R τ W->bT C.ty C.Wg τ W aV->C.I R τ aV
 step:∀R τ W R1 W1,C.I R τ W->vF τ R C.St->Rs C.St R W R1 W1->C.I R1 (τ.grow W W1) W1
def BO (C:Cx L)(l:L)(m:Fm)(w:aE):Prop:=
 ∀(R:Pr) (W:aE) (m':Fm) (τ:cF),C.Rel R w W->FmW C R m m'->vF τ R C.St->C.I R τ W->C.B l τ (G (fx [] C.ds m') C.base) W
section
variable {C:Cx L}{l:L}
variable {m:Fm}{w:aE}
def BO.tape (h:BO C l m w)(T:Tape)(e:Nat):BO C l m (Tt.tp w T e):=
 λR W m' τ a b c d=>h R W m' τ a.untp b c d
def BO.untape {T:Tape}{e:Nat}(h:BO C l m (Tt.tp w T e)):BO C l m w:=
 λR W m' τ a b c d=>h R W m' τ ⟨a.inj,a.inj',a.lt,a.low,a.gle,a.cont,a.rest,a.st,a.np,a.tb⟩ b c d
variable {ms:List Fm}
def uS.wait {P:dM}{fs:aP->Bool}{K R:Pr}{ms':List Fm}(h:uS P fs K R ms ms'):∀c∈ms',c.ret=false:=by
 induction h with
 |nil=>intro c hc;cases hc
 |cons a b _ ih=>
  intro c hc;rcases jJ.1 hc with rfl|hc
  .exact a.ret.symm.trans b.1
  .exact ih c hc
variable {Q:Fm->aE->Prop}
def zGi (F:vN C.P C.fs)(hI:fG C){k:List eE}{fn0:aP}(h:Tt.LT C.p Q m ms w)
 (hn:∀(x:Fm) (wT:aE),x.fn=fn0->x.ret=false->x.todo=[]->(∀T,Q {x with ret:=true} (Tt.tp wT T 0))->BO C l ⟨fn0,x.tmps,k,false⟩ wT)
 (hr:∀(x:Fm) (wT:aE),x.fn=fn0->x.ret=true->x.todo≠[]->Q x wT->BO C l ⟨fn0,x.tmps,x.todo++k,true⟩ wT):
 ∀(R:Pr) (W:aE) (m':Fm) (ms':List Fm) (τ:cF),Rp m ms=fn0->(ms=[]->m.ret=true->m.todo≠[])->C.Rel R w W->oU C.P C.fs C.K R m m'->uS C.P C.fs C.K R ms ms'->vF τ R C.St->C.I R τ W->
  (∀x∈C.pin,(Sa m' ms').tmps.getD x.1 aA=x.2)->(∀i∈(Sa m' ms').todo,Bh C.S i=true)->C.B l τ (stk k C.ds C.base m' ms') W:=by
 induction h with
 |stop h1 h2=>
  rename_i m w;intro R W m' ms' τ hl hz hw hm iP ht hi Dp dG;cases iP;have hB:=hr m w hl h1 (hz rfl h1) h2 R W {m' with todo:=m'.todo++k} τ hw ⟨(hl.symm.trans hm.fn:_),by show m.todo++k=_;rw[hm.todo],h1.symm.trans hm.ret,hm.tmps,Dp⟩ ht hi;have:fx [] C.ds {m' with todo:=m'.todo++k}=fx k C.ds m':=by unfold fx;simp[Fm.fr]
  rw[this] at hB;exact hB
 |step nx hs cH aN ih=>
  rename_i m ms w;intro R W m' ms' τ hl hz hw hm iP ht hi Dp dG;by_cases Ns:ms=[]/\m.ret=false/\m.todo=[]
  .obtain⟨rfl,h1,h2⟩:=Ns
   cases iP;have hQ:∀T,Q {m with ret:=true} (Tt.tp w T 0):=λT=>by
    have hT:=cH T;have e:(fD C.p m []).run C.p (Tt.tp w T 0)=.ok ({m with ret:=true},[]) (Tt.tp w T 0):=by simp[fD,h1,rU,h2,kN,bD]
    rw[e] at hT;injection hT with e1 e2;have hl:=aN T;rw[<-e1,<-e2] at hl;exact hl.ret_inv rfl
   have hB:=hn m w hl h1 h2 hQ R W {m' with todo:=m'.todo++k} τ hw ⟨(hl.symm.trans hm.fn:_),by show k=m'.todo++k;rw[<-hm.todo,h2];rfl,h1.symm.trans hm.ret,hm.tmps,Dp⟩ ht hi;have:fx [] C.ds {m' with todo:=m'.todo++k}=fx k C.ds m':=by unfold fx;simp[Fm.fr]
   rw[this] at hB;exact hB
  .refine Cx.ownQ (zxJ ..) λaV s=>?_
   have dJ:=zjq hw ht (λa b x=>(hw.lt a b (.inr x)).2) s;have yI:=hI.suf _ _ _ _ hi s
   let T:Tape:=λn q=>aV.tape (aV.drawn+n) q
   have yE:C.Rel R (Tt.tp w T 0) aV:=⟨dJ.inj,dJ.inj',dJ.lt,dJ.low,dJ.gle,dJ.cont,dJ.rest,dJ.st,dJ.np,dJ.tb⟩;have Lq:Tp (Tt.tp w T 0) aV:=λn q=>by show aV.tape (aV.drawn+(0+n)) q=_;rw[qY]
   have hrel:vO C.P C.fs C.K (o6 C.p) C.St m ms (Tt.tp w T 0):=⟨R,aV,m',ms',yE,hm,iP⟩;obtain⟨R1,x',W1,ev,e1,e2,e3,e4,e5⟩:=aG.run rfl _ (zdO (l:=false) F.toFit2 (yE.relOk rfl) hm iP (λe=>by cases e) hs) yE Lq (cH T);replace e2:=e2.resolve_right λx=>by
    obtain⟨f,_,_,_,_,_,_,ho,_⟩:=x.2;rw[F.none] at ho;cases ho
   obtain⟨zoW,zrs⟩:=x';have Gk:m'.ret=true->ms'≠[]:=λe e2=>hs (hm.ret.trans e) (by cases iP with|nil=>rfl|cons _ _ _=>cases e2);have Vl:ms'=[]->m'.ret=false->m'.todo≠[]:=λa b c=>Ns ⟨(by cases iP with|nil=>rfl|cons _ _ _=>cases a),hm.ret.trans b,hm.todo.trans c⟩;have zhw:=zCf (S:=C.S) dG e1;have mJ:(fD C.p m' ms').events C.p aV #[]=ev:=by rw[e4];simp
   have cG:aV.heap.size<=W1.heap.size:=e3.size.2;have Ci:∀a b,R1 a b->R a b\/(aV.heap.size<=b/\b<W1.heap.size):=λa b x=>by
    rcases e3.new a b x with y|⟨_,y⟩
    .exact .inl y
    .exact .inr ⟨y,(e3.rel.ltR a b x).2⟩
   have Gq:vF (τ.grow aV W1) R1 C.St:=λa b x=>by
    rcases e3.new a b x with y|⟨y1,y2⟩
    .exact⟨(ht a b y).1,λz=>.inl ((ht a b y).2 z)⟩
    .refine⟨λz=>?_,λ_=>.inr ⟨y2,(e3.rel.ltR a b x).2⟩⟩
     obtain⟨⟨b',b6⟩,_⟩:=yE.st a z;have:=(yE.ltR a b' b6).1;omega
   have hg:zP τ.own aV W1:=⟨e3.tape.2,e3.os.2,e3.ou.2,cG,λb hb dG=>e3.keep b hb λa x=>zY λz=>dG ((ht a b x).2 z)⟩;have zU:=hI.step R τ aV R1 W1 yI ht ⟨e3.le,e3.tape.2,e3.os.2,e3.ou.2,cG,Ci,e3.keep⟩;have Q6:Rp (nx T).1.1 (nx T).1.2=fn0:=(zqs (m1:=(nx T).1.1) (ms1:=(nx T).1.2) (cH T)).trans hl;have goal:C.B l (τ.grow aV W1) (stk k C.ds C.base zoW zrs) W1:=by
    refine ih T R1 W1 zoW zrs (τ.grow aV W1) Q6 (λa b c=>?_) e3.rel e2.1 e2.2.1 Gq zU (λx hx=>(zhw.at_ x.1 (Z5 hx)).trans (Dp x hx)) zhw.no;have hT:=cH T
    cases ms with
    |nil=>
     cases j8:m.ret with
     |true=>exact hs j8 rfl
     |false=>
      simp only[fD,j8,jE,if_false] at hT;exact zxd hT b j8 (λe=>Ns ⟨rfl,j8,e⟩) a c
    |cons c0 cs=>
     cases j8:m.ret with
     |true=>
      simp only[fD,j8,if_true] at hT;obtain⟨ops,i,r,k0,v,fn,hc,hf,hv,h1,h2⟩:=Uj (m1:=(nx T).1.1) (ms1:=(nx T).1.2) hT;rw[h1] at c;simp[Fm.fin] at c
     |false=>
      simp only[fD,j8,jE,if_false] at hT;rcases zet hT with⟨e,_⟩|e
      .rw[a] at e;cases e
      .rw[a] at e;cases e
   obtain⟨es,aY,xZ⟩:=zG1 (main:=C.main) (k:=k) (d:=C.ds) (base:=C.base) Gk Vl (uS.wait iP) e1;have Ss:∀e∈es,Hf R1 C.St e:=λe he=>by
    have:=xZ e he;rw[mJ] at this;exact e5 e (zbZ this)
   exact⟨_,W1,_,aY,zxJ ..,hg,λe he=>zg6 (Ss e he) Gq,goal⟩
end
end Go.Mt
namespace Go.Mt
open Go.Conc Go.Tt
open Go.ConcR (KK wgBlock WgAt stA smA rd wr)
section
variable {L:Type}{C:Cx L}{l:L}
def mG (d:Dk)(fn:aP)(tmps:Array aF)(todo:List eE):fx [] d ⟨fn,tmps,todo,false⟩=(d.base fn).at ⟨tmps,d.ds⟩ todo:=by
 unfold fx;simp[Fm.fr,Dk.base,dK.at]
def znj (d:Dk)(fn:aP)(tmps:Array aF)(todo:List eE):fx [] d ⟨fn,tmps,todo,true⟩={(d.base fn).at ⟨tmps,d.ds⟩ todo with mode:=.returning}:=by
 unfold fx;simp[Fm.fr,Dk.base,dK.at]
def cF.grow_id (τ:cF)(w:aE):τ.grow w w=τ:=by
 obtain⟨a,b,c⟩:=τ;simp only[cF.grow,cF.mk.injEq,and_true];funext x;exact propext ⟨λh=>h.elim id λh=>by omega,.inl⟩
def zP.id (O:Nat->Prop)(w:aE):zP O w w:=⟨rfl,rfl,rfl,aX _,λ_ _ _=>rfl⟩
variable {R:Pr}{w W:aE}{τ:cF}
def Cx.Rel.suf {aV:aE}(hw:C.Rel R w W)(ht:vF τ R C.St)(s:bT C.ty C.Wg τ W aV):C.Rel R w aV:=zjq hw ht (λa b x=>(hw.lt a b (.inr x)).2) s
variable {g':bC}
def M3 {main:Bool}{g:bC}{p:bS}{ty:aM}{Wg:Nat}{A:jU L}{Fin:bC->aE->Prop}(hg:g.status=.running)(wY:g'.status=.running)(aY:∀aV,bT ty Wg τ W aV->stepG p main g aV=.go g' aV #[])
 (h:∀aV,bT ty Wg τ W aV->bZ p ty Wg A Fin main (.usr l) 0 τ g' aV):bZ p ty Wg A Fin main (.usr l) 0 τ g W:=by
 refine bZ.own hg trivial λaV s=>⟨g',aV,#[],aY aV s,wY,zP.id _ _,λe he=>by simp at he,?_⟩;rw[cF.grow_id];exact h aV s
def Cx.silent {g:bC}(hg:g.status=.running)(wY:g'.status=.running)(aY:∀aV,bT C.ty C.Wg τ W aV->stepG C.p C.main g aV=.go g' aV #[])(h:∀aV,bT C.ty C.Wg τ W aV->C.B l τ g' aV):C.B l τ g W:=by
 refine Cx.ownQ hg λaV s=>⟨g',aV,#[],aY aV s,wY,zP.id _ _,λe he=>by simp at he,?_⟩;rw[cF.grow_id];exact h aV s
variable {fn:aP}{tmps:Array aF}
def BO.silent (hI:fG C){todo zlE:List eE}{zmN:Bool}(aY:∀R bQ W,bK (SF C.fs) C.K R tmps bQ->stepG C.p C.main (G ((C.ds.base fn).at ⟨bQ,C.ds.ds⟩ todo) C.base) W=.go (G (fx [] C.ds ⟨fn,bQ,zlE,zmN⟩) C.base) W #[])
 (h:BO C l ⟨fn,tmps,zlE,zmN⟩ w):BO C l ⟨fn,tmps,todo,false⟩ w:=by
 intro R W m' τ hw hm ht hi;obtain⟨fn',bQ,yQ,y3⟩:=m';obtain rfl:=hm.fn;obtain rfl:=hm.todo;obtain rfl:=hm.ret;refine Cx.silent rfl rfl (λaV s=>by rw[mG];exact aY R bQ aV hm.tmps) λaV s=>?_;exact h R aV ⟨fn,bQ,zlE,zmN⟩ τ (hw.suf ht s) ⟨rfl,rfl,rfl,hm.tmps,hm.pins⟩ ht (hI.suf _ _ _ _ hi s)
section ctl
variable {fn:aP}{tmps:Array aF}{k:List eE}{w:aE}
variable {a b:Code}
def BO.seq (hI:fG C)(h:BO C l ⟨fn,tmps,.code a:: .code b::k,false⟩ w):BO C l ⟨fn,tmps,.code (.seq a b)::k,false⟩ w:=BO.silent hI (λR t W _=>by rw[mG];exact dS) h
def BO.skip (hI:fG C)(h:BO C l ⟨fn,tmps,k,false⟩ w):BO C l ⟨fn,tmps,.code .skip::k,false⟩ w:=BO.silent hI (λR t W _=>by rw[mG];exact pJ) h
variable {c:Code}
def BO.block (hI:fG C){id:Nat}(h:BO C l ⟨fn,tmps,.code c:: .inBlock id::k,false⟩ w):BO C l ⟨fn,tmps,.code (.block id c)::k,false⟩ w:=BO.silent hI (λR t W _=>by rw[mG];exact zfR) h
def BO.loop (hI:fG C)(h:BO C l ⟨fn,tmps,.code c:: .inLoop c::k,false⟩ w):BO C l ⟨fn,tmps,.code (.loop c)::k,false⟩ w:=BO.silent hI (λR t W _=>by rw[mG];exact zlw) h
def BO.inLoop (hI:fG C)(h:BO C l ⟨fn,tmps,.code c:: .inLoop c::k,false⟩ w):BO C l ⟨fn,tmps,.inLoop c::k,false⟩ w:=BO.silent hI (λR t W _=>by rw[mG];exact zjo) h
def BO.inBlock (hI:fG C){id:Nat}(h:BO C l ⟨fn,tmps,k,false⟩ w):BO C l ⟨fn,tmps,.inBlock id::k,false⟩ w:=BO.silent hI (λR t W _=>by rw[mG];exact zmJ) h
def BO.exit (hI:fG C){id:Nat}{k':List eE}(he:exitTo id k=some k')(h:BO C l ⟨fn,tmps,k',false⟩ w):BO C l ⟨fn,tmps,.code (.exit id)::k,false⟩ w:=BO.silent hI (λR t W _=>by rw[mG];exact stepG_exit he) h
def BO.reg (hI:fG C){id:Nat}{ops:Array aZ}(h:BO C l ⟨fn,tmps,.inRegion ops (gF ops.size)::k,false⟩ w):BO C l ⟨fn,tmps,.code (.region id ops false)::k,false⟩ w:=BO.silent hI (λR t W _=>by rw[mG];exact stepG_region) h
def BO.regEnd (hI:fG C){ops:Array aZ}(h:BO C l ⟨fn,tmps,k,false⟩ w):BO C l ⟨fn,tmps,.inRegion ops []::k,false⟩ w:=BO.silent hI (λR t W _=>by rw[mG];exact dI) h
def BO.fall (hI:fG C)(h:BO C l ⟨fn,tmps,[],true⟩ w):BO C l ⟨fn,tmps,[],false⟩ w:=BO.silent hI (λR t W _=>by rw[znj];exact zhl) h
def BO.ret (hI:fG C)(h:BO C l ⟨fn,tmps,.code .ret::k,true⟩ w):BO C l ⟨fn,tmps,.code .ret::k,false⟩ w:=BO.silent hI (λR t W _=>by rw[znj];exact xF) h
def Hq {R:Pr}{t t':Array aF}{d:List Ew}(h:bK (SF C.fs) C.K R t t'){x:cM}(hx:dQ C.fs x=true):VR (SF C.fs) C.K R ((bH t []).eval x) ((bH t' d).eval x):=by
 cases x with
 |tmp t=>exact h.getD t xN
 |const v=>exact zvd hx
 |global g=>cases hx
 |func f=>exact .func hx rfl (λi v v' h=>by simp at h) rfl (λi v v' h=>by simp at h)
def BO.cond (hI:fG C){c:cM}{t:Bool}(hx:dQ C.fs c=true)(hc:(bH tmps []).eval c=.bool t)(h:BO C l ⟨fn,tmps,.code (if t then a else b)::k,false⟩ w):BO C l ⟨fn,tmps,.code (.cond c a b)::k,false⟩ w:=
 BO.silent hI (λR t' W ha=>by
  rw[mG];have h1:=Hq (C:=C) (d:=C.ds.ds) ha hx;rw[hc] at h1;have h2:(bH t' C.ds.ds).eval c=.bool t:=by
   generalize(bH t' C.ds.ds).eval c=v' at h1;cases h1;rfl
  exact stepG_cond h2) h
end ctl
structure wC (p:bS)(fn:aP):Prop where
 res:∃f,p.funcs[fn]? =some f/\C3 f.results.toList
variable {bQ:Array aF}{c:Code}
def zyC (hc:oI C.p ⟨C.fs,C.gs,true⟩ c=true)(hf:wC C.p fn)(ha:bK (SF C.fs) C.K R tmps bQ):oU C.P C.fs C.K R ⟨fn,tmps,[.code c],false⟩ ⟨fn,bQ,[.code c],false⟩:=by
 obtain⟨f,h1,h2⟩:=hf.res;refine⟨rfl,rfl,rfl,ha,λi hi=>?_,⟨f,f,h1,h1,rfl,h2⟩⟩;simp only[jJ,lZ,or_false] at hi;subst hi;exact hc
variable {k:List eE}
def BO.piece (F:vN C.P C.fs)(hI:fG C)(hc:oI C.p ⟨C.fs,C.gs,true⟩ c=true)(hf:wC C.p fn)(dG:x5 C.S c=true)
 (rL:∀T,Code.wp C.p c (λe a' w'=>e=.normal/\BO C l ⟨fn,a'.tmps,k,false⟩ w') ⟨tmps,[]⟩ (Tt.tp w T 0)):BO C l ⟨fn,tmps,.code c::k,false⟩ w:=by
 intro R W m' τ hw hm ht hi;obtain⟨fn',bQ,yQ,y3⟩:=m';obtain rfl:=hm.fn;obtain rfl:=hm.todo;obtain rfl:=hm.ret;have zfQ:=zyC (R:=R) hc hf hm.tmps;have hrel:vO C.P C.fs C.K (o6 C.p) C.St ⟨fn,tmps,[.code c],false⟩ [] w:=⟨R,W,_,[],hw,zfQ,.nil⟩;have tree:=zm5 F rfl hrel rL (λe a w h=>.inl h.1) (λe a w T k h=>⟨h.1,h.2.tape T k⟩);have:=zGi (l:=l) F hI (k:=k) (fn0:=fn) tree (λx wT e1 e2 e3 hq=>by
  rcases(hq wT.tape).2 with h|h
  .exact BO.untape h.2.2
  .cases h.1)
  (λx wT e1 e2 e3 hq=>by
   rcases hq.2 with h|h
   .exact absurd h.1 e3
   .cases h.1) R W ⟨fn,bQ,[.code c],false⟩ [] τ rfl (λ_ e=>by cases e) hw zfQ .nil ht hi hm.pins (λi hi=>by
   simp only[Sa,jJ,lZ,or_false] at hi;subst hi;exact dG)
 have e:fx k C.ds ⟨fn,bQ,[.code c],false⟩=fx [] C.ds ⟨fn,bQ,.code c::k,false⟩:=by unfold fx;simp[Fm.fr]
 unfold stk at this;rw[e] at this;exact this
variable {dst:Option Nat}{v:aF}{d:List Ew}
def Jn (hp:∀x∈C.pin,bQ.getD x.1 aA=x.2)(hn:∀s,dst=some s->s∉C.S):∀x∈C.pin,(cC ⟨bQ,d⟩ dst v).tmps.getD x.1 aA=x.2:=by
 intro x hx
 cases dst with
 |none=>exact hp x hx
 |some s=>
  have aT:s≠x.1:=λe=>hn s rfl (e▸Z5 hx);rw[<-hp x hx];simp only[cC,tJ,jV aT]
variable {t t':Array aF}
def Jf {d':List Ew}(h:bK (SF C.fs) C.K R t t'){v':aF}(hv:VR (SF C.fs) C.K R v v'):bK (SF C.fs) C.K R (cC ⟨t,d⟩ dst v).tmps (cC ⟨t',d'⟩ dst v').tmps:=by
 cases dst with
 |none=>exact h
 |some s=>exact h.set s hv
variable {o:aZ}{ops:Array aZ}
def Hu (h:bK (SF C.fs) C.K R t t')(hw:dF o (dR ops t)=true):dF o (dR ops t')=true:=by
 rw[<-zmk ops h];exact hw
def BO.op (F:vN C.P C.fs)(hI:fG C){i:Nat}{rest:List Nat}(ho:ops[i]? =some o)(cD:dF o (dR ops tmps)=true)
 (bU:sG C.p ⟨C.fs,C.gs,true⟩ o.op=true) (lH:∀s,o.dst=some s->s∉C.S)
 (hx:∀T,∃v w',((aS (bH tmps []).eval o).run C.p (Tt.tp w T 0)=.ok (.value v) w'\/((aS (bH tmps []).eval o).run C.p (Tt.tp w T 0)=.ok .skip w'/\v=aA))/\BO C l ⟨fn,(cC ⟨tmps,[]⟩ o.dst v).tmps,.inRegion ops rest::k,false⟩ w'):
 BO C l ⟨fn,tmps,.inRegion ops (i::rest)::k,false⟩ w:=by
 intro R W m' τ hw hm ht hi;obtain⟨fn',bQ,yQ,y3⟩:=m';obtain rfl:=hm.fn;obtain rfl:=hm.todo;obtain rfl:=hm.ret;rw[mG];refine Cx.ownQ rfl λaV s=>?_;have dJ:=hw.suf ht s;have yI:=hI.suf _ _ _ _ hi s
 let T:Tape:=λn q=>aV.tape (aV.drawn+n) q
 have yE:C.Rel R (Tt.tp w T 0) aV:=⟨dJ.inj,dJ.inj',dJ.lt,dJ.low,dJ.gle,dJ.cont,dJ.rest,dJ.st,dJ.np,dJ.tb⟩;have Lq:Tp (Tt.tp w T 0) aV:=λn q=>by show aV.tape (aV.drawn+(0+n)) q=_;rw[qY]
 obtain⟨v,w',cH,hB⟩:=hx T;have zaI:=zno (P:=C.P) (q:=⟨C.fs,C.gs,true⟩) (o:=o) (ρ:=(bH tmps []).eval) (ρ':=(bH bQ C.ds.ds).eval) F.toFit2.toFit (yE.relOk rfl) (λx hx=>Hq hm.tmps hx) (λg=>rfl) (λg=>rfl) (λg=>rfl) (λg=>rfl) (λv=>rfl) (λv=>rfl) rfl (λf h=>h) (λ_ f hf=>F.toFit2.toFit.dyn rfl f hf) bU
 have key:∃R1 v' W1 ev,((aS (bH bQ C.ds.ds).eval o).run C.p aV=.ok (.value v') W1\/((aS (bH bQ C.ds.ds).eval o).run C.p aV=.ok .skip W1/\v'=aA))/\VR (SF C.fs) C.K R1 v v'/\nA (SF C.fs) C.K R (o6 C.p) C.St (Tt.tp w T 0) aV R1 w' W1/\
  (∀es,(aS (bH bQ C.ds.ds).eval o).events C.p aV es=es++ev)/\∀e∈ev,Hf R1 C.St e:=by
  rcases cH with cH|⟨cH,rfl⟩
  .obtain⟨R1,x',W1,ev,e1,e2,e3,e4,e5⟩:=aG.run rfl _ zaI yE Lq cH
   cases e2 with
   |value hv=>exact⟨R1,_,W1,ev,.inl e1,hv,e3,e4,e5⟩
  .obtain⟨R1,x',W1,ev,e1,e2,e3,e4,e5⟩:=aG.run rfl _ zaI yE Lq cH
   cases e2 with
   |skip=>exact⟨R1,aA,W1,ev,.inr ⟨e1,rfl⟩,xN,e3,e4,e5⟩
 obtain⟨R1,v',W1,ev,e1,hv,e3,e4,e5⟩:=key;have hb:(C.ds.base fn).kind≠ .early:=C.ds.ok;have uD:=Hu (C:=C) hm.tmps cD;have aY:stepG C.p C.main (G ((C.ds.base fn).at ⟨bQ,C.ds.ds⟩ (.inRegion ops (i::rest)::k)) C.base) aV=.go (G ((C.ds.base fn).at (cC ⟨bQ,C.ds.ds⟩ o.dst v') (.inRegion ops rest::k)) C.base) W1 (wJ C.p (C.ds.base fn).fn ⟨bQ,C.ds.ds⟩ o aV):=by
  rcases e1 with e1|⟨e1,rfl⟩
  .exact stepG_value ho uD hb e1
  .exact stepG_none ho uD hb e1
 have Fw:cC ⟨bQ,C.ds.ds⟩ o.dst v'=⟨(cC ⟨bQ,C.ds.ds⟩ o.dst v').tmps,C.ds.ds⟩:=by cases o.dst<;>rfl
 have Ss:∀e∈wJ C.p (C.ds.base fn).fn ⟨bQ,C.ds.ds⟩ o aV,Hf R1 C.St e:=λe he=>by
  unfold wJ at he;rw[e4] at he;exact e5 e (by simpa using zbZ he)
 have cG:aV.heap.size<=W1.heap.size:=e3.size.2;have Ci:∀a b,R1 a b->R a b\/(aV.heap.size<=b/\b<W1.heap.size):=λa b x=>by
  rcases e3.new a b x with y|⟨_,y⟩
  .exact .inl y
  .exact .inr ⟨y,(e3.rel.ltR a b x).2⟩
 have Gq:vF (τ.grow aV W1) R1 C.St:=λa b x=>by
  rcases e3.new a b x with y|⟨y1,y2⟩
  .exact⟨(ht a b y).1,λz=>.inl ((ht a b y).2 z)⟩
  .refine⟨λz=>?_,λ_=>.inr ⟨y2,(e3.rel.ltR a b x).2⟩⟩
   obtain⟨⟨b',b6⟩,_⟩:=yE.st a z;have:=(yE.ltR a b' b6).1;omega
 have hg:zP τ.own aV W1:=⟨e3.tape.2,e3.os.2,e3.ou.2,cG,λb hb dG=>e3.keep b hb λa x=>zY λz=>dG ((ht a b x).2 z)⟩;have zU:=hI.step R τ aV R1 W1 yI ht ⟨e3.le,e3.tape.2,e3.os.2,e3.ou.2,cG,Ci,e3.keep⟩;refine⟨_,W1,_,aY,rfl,hg,λe he=>zg6 (Ss e he) Gq,?_⟩;rw[Fw,<-mG];exact hB R1 W1 ⟨fn,_,_,false⟩ _ e3.rel ⟨rfl,rfl,rfl,Jf (C:=C) (hm.tmps.mono e3.le) hv,Jn (C:=C) hm.pins lH⟩ Gq zU
end
section
variable {L:Type}{C:Cx L}{l:L}
variable {p:bS}
def zFF {q:Tt.Cl}:∀c:Code,oI p q c=true->x5 [] c=true:=by
 intro c
 induction c with
 |region id ops dr=>
  intro _;simp only[x5,zl3];intro o _;cases o.dst<;>rfl
 |seq a b zmH znK=>intro h;simp only[oI,fU] at h;simp only[x5,fU];exact⟨zmH h.1,znK h.2⟩
 |cond c a b zmH znK=>intro h;simp only[oI,fU] at h;simp only[x5,fU];exact⟨zmH h.1.2,znK h.2⟩
 |block id c ih=>intro h;exact ih h
 |loop c ih=>intro h;exact ih h
 |scope c ih=>intro h;exact ih h
 |skip=>intro _;rfl
 |ret=>intro _;rfl
 |exit _=>intro _;rfl
 |label _=>intro _;rfl
 |_=>intro h;simp[oI] at h
def Cx.sub (C:Cx L)(m':Fm)(n6:Pr):Cx L:={C with base:=fx [] C.ds m'::C.base,ds:=.nil,I:=λR τ W=>C.I R τ W/\n6.le R,pin:=[]}
variable {o:aZ}{x:cM}{f:aP}{args:Array cM}{kH:Array aM}{first cap:Array aF}{ρ:cM->aF}
def zG9 (hop:o.op=.call ⟨.value x,args,kH⟩)(hρ:ρ x=.func (.func f) first cap){fn:Ut}{c:Code}(hf:p.funcs[f]? =some fn)
 (hn:(fn.name== "runtime.NumGoroutine")=false) (hb:fn.body=some c) (w:aE):(aS ρ o).run p w=.ok (.enter f (first++args.map ρ++cap)) w/\(aS ρ o).events p w #[]=#[]:=by
 obtain⟨dst,yJ,type,pos,after,guard⟩:=o;simp only at hop;subst hop;have sV:¬fn.name= "runtime.NumGoroutine" :=by simpa using hn
 constructor
 .simp[aS,resolve,Bu,hρ,invoke,callFunc,program,bind,x7,pure,bD,hf,sV,hb]
 .simp[aS,resolve,Bu,hρ,invoke,callFunc,program,bind,x7,pure,bD,vY,zO,hf,sV,hb]
structure Callee (C:Cx L)(tmps:Array aF)(x:cM)(f:aP)(first cap:Array aF):Prop where
 here:(bH tmps []).eval x=.func (.func f) first cap
 there:∀R bQ d,bK (SF C.fs) C.K R tmps bQ->∃Rr O3,(bH bQ d).eval x=.func (.func f) Rr O3/\bK (SF C.fs) C.K R first Rr/\bK (SF C.fs) C.K R cap O3
def Callee.static (tmps:Array aF)(f:aP):Callee C tmps (.func f) f #[] #[]:=⟨rfl,λR bQ d _=>⟨#[],#[],rfl,.empty,.empty⟩⟩
variable {fn:aP}{tmps:Array aF}{ops:Array aZ}{i:Nat}{rest:List Nat}{k:List eE}{w:aE}{fnf:Ut}
def BO.callN (hI:fG C)(ho:ops[i]? =some o)(cD:dF o (dR ops tmps)=true)
 (hop:o.op=.call ⟨.value x,args,kH⟩) (hx:Callee C tmps x f first cap) (sH:args.all (dQ C.fs)=true)  {cf:Code} (hf:C.p.funcs[f]? =some fnf) (Hn:(fnf.name== "runtime.NumGoroutine")=false) (hb:fnf.body=some cf) (zdl:C3 fnf.results.toList)
 (hB:∀(n6:Pr) (m':Fm),FmW C n6 ⟨fn,tmps,.inRegion ops (i::rest)::k,false⟩ m'->BO (C.sub m' n6) l ⟨f,(first++args.map (bH tmps []).eval++cap)++nU (fnf.ntmps-(first++args.map (bH tmps []).eval++cap).size) aA,[.code cf],false⟩ w):
 BO C l ⟨fn,tmps,.inRegion ops (i::rest)::k,false⟩ w:=by
 intro R W m' τ hw hm ht hi;have zuE:=hm;obtain⟨fn',bQ,yQ,y3⟩:=m';obtain rfl:=hm.fn;obtain rfl:=hm.todo;obtain rfl:=hm.ret;obtain⟨Rr,O3,lK,uH,pR⟩:=hx.there R bQ C.ds.ds hm.tmps;have b6:(C.ds.base fn).kind≠ .early:=C.ds.ok;have uD:=Hu (C:=C) hm.tmps cD;rw[mG];refine Cx.silent rfl rfl (g':=G (E0 C.p f (Rr++args.map (bH bQ C.ds.ds).eval++O3) .normal) (fx [] C.ds ⟨fn,bQ,.inRegion ops (i::rest)::k,false⟩::C.base)) (λaV s=>?_) λaV s=>?_
 rotate_right
 .have Bx:bK (SF C.fs) C.K R (first++args.map (bH tmps []).eval++cap) (Rr++args.map (bH bQ C.ds.ds).eval++O3):=(uH.append (bK.maps (λx hx=>Hq (C:=C) hm.tmps hx) sH)).append pR
  have:=hB R _ zuE R aV ⟨f,(Rr++args.map (bH bQ C.ds.ds).eval++O3)++nU (fnf.ntmps-(Rr++args.map (bH bQ C.ds.ds).eval++O3).size) aA,[.code cf],false⟩ τ (hw.suf ht s) ⟨rfl,rfl,rfl,Bx.pad fnf.ntmps,λx hx=>by cases hx⟩ ht ⟨hI.suf _ _ _ _ hi s,.refl R⟩;rw[Ve hf hb,<-G9];exact this
 .obtain⟨x1,x2⟩:=zG9 (p:=C.p) hop (ρ:=(bH bQ C.ds.ds).eval) lK hf Hn hb aV
  have aY:=stepG_enter (main:=C.main) (b:=C.ds.base fn) (rest:=rest) (cs:=C.base) (k:=k) ho uD b6 x1;rw[aY];unfold wJ;rw[x2,Ct,mG]
variable {v:aF}
def BO.retN (hI:fG C){n6:Pr}{m m':Fm}(hm:FmW C n6 m m')(hr:m.ret=false)(pS:m.todo=.inRegion ops (i::rest)::k)(lH:∀s,(ops[i]?).bind (·.dst)=some s->s∉C.S)
   {todo:List eE}    (hf:C.p.funcs[f]? =some fnf) (hv:(oK fnf.results.toList tmps).run C.p w=.ok v w) (h:BO C l (m.fin ops i rest k v) w):BO (C.sub m' n6) l ⟨f,tmps,todo,true⟩ w:=by
 intro R W x' τ hw hx ht hi;obtain⟨f',bQ,yQ,y3⟩:=x';obtain rfl:=hx.fn;obtain rfl:=hx.todo;obtain rfl:=hx.ret;have wE:m'.ret=false:=hm.ret.symm.trans hr;have Qi:m'.todo=.inRegion ops (i::rest)::k:=hm.todo.symm.trans pS;refine Cx.ownQ rfl λaV s=>?_;have dJ:C.Rel R w aV:=Cx.Rel.suf (C:=C) hw ht s;have yI:=hI.suf _ _ _ _ hi.1 s
 let T:Tape:=λn q=>aV.tape (aV.drawn+n) q
 have yE:C.Rel R (Tt.tp w T 0) aV:=⟨dJ.inj,dJ.inj',dJ.lt,dJ.low,dJ.gle,dJ.cont,dJ.rest,dJ.st,dJ.np,dJ.tb⟩;have Lq:Tp (Tt.tp w T 0) aV:=λn q=>by show aV.tape (aV.drawn+(0+n)) q=_;rw[qY]
 have cH:=(Py _ _ w v w hv).2 T 0;obtain⟨R1,v',W1,ev,e1,g3,e3,e4,e5⟩:=aG.run (P:=C.P) rfl _ (znb hx.tmps fnf.results.toList) yE Lq cH;obtain⟨ze9,_⟩:=Py _ _ aV v' W1 e1;subst ze9;have Pg:(zX C.p ⟨f,bQ,todo,true⟩ [m']).run C.p W1=.ok (m'.fin ops i rest k v',[]) W1:=(Mi Qi hf e1).1;obtain⟨_,_,_,e⟩:=zfl (main:=C.main) rfl wE Pg [] C.ds C.base;have Sk:fx [] (C.sub m' n6).ds ⟨f,bQ,todo,true⟩=(⟨f,bQ,todo,true⟩:Fm).fr:=G9 _;rw[Sk];have Ss:∀e∈seen C.p f ((zX C.p ⟨f,bQ,todo,true⟩ [m']).events C.p W1 #[]),Hf R1 C.St e:=λe he=>by
  rw[(Mi Qi hf e1).2,e4] at he;exact e5 e (by simpa using zbZ he)
 have Ci:∀a b,R1 a b->R a b\/(W1.heap.size<=b/\b<W1.heap.size):=λa b x=>by
  rcases e3.new a b x with y|⟨_,y⟩
  .exact .inl y
  .exact .inr ⟨y,(e3.rel.ltR a b x).2⟩
 have Gq:vF (τ.grow W1 W1) R1 C.St:=λa b x=>by
  rcases e3.new a b x with y|⟨y1,y2⟩
  .exact⟨(ht a b y).1,λz=>.inl ((ht a b y).2 z)⟩
  .have:=(e3.rel.ltR a b x).2;omega
 have zU:=hI.step R τ W1 R1 W1 yI ht ⟨e3.le,rfl,rfl,rfl,aX _,Ci,λ_ _ _=>rfl⟩;refine⟨_,W1,_,e,rfl,zP.id _ _,λe he=>zg6 (Ss e he) Gq,?_⟩;have U9:C.Rel R1 w W1:=⟨e3.rel.inj,e3.rel.inj',e3.rel.lt,e3.rel.low,e3.rel.gle,e3.rel.cont,e3.rel.rest,e3.rel.st,e3.rel.np,e3.rel.tb⟩;refine h R1 W1 _ _ U9 ⟨hm.fn,rfl,hm.ret,?_,?_⟩ Gq zU
 .have:=Jf (C:=C) (d:=[]) (d':=[]) (hm.tmps.mono (hi.2.trans e3.le)) (dst:=(ops[i]?).bind (·.dst)) g3
  unfold Fm.fin;simp only;unfold cC at this
  cases hd:(ops[i]?).bind (·.dst) with
  |none=>rw[hd] at this;exact this
  |some s=>rw[hd] at this;exact this
 .have:=Jn (C:=C) (d:=[]) (v:=v') hm.pins lH
  unfold Fm.fin;simp only;unfold cC at this
  cases hd:(ops[i]?).bind (·.dst) with
  |none=>rw[hd] at this;exact this
  |some s=>rw[hd] at this;exact this
variable {c:Nat}{ct e:aM}{ok:Bool}{z:aF}{dir:ChanDir}{ie:wW}
def zoL (hop:o.op=.recv ct x ok)(D6:p.underlying ct=some (.chan dir e))(jY:p.info? e=some ie)(hz:ie.zero=some z)(hx:ρ x=.chan (some c))(w:aE):
 (aS ρ o).run p w=.ok (.comm #[rcase c z] true (.recv ok)) w/\(aS ρ o).events p w #[]=#[]:=by
 obtain⟨dst,yJ,type,pos,after,guard⟩:=o;simp only at hop;subst hop;have hu:∀w,(underlying ct).run p w=.ok (.chan dir e) w:=λw=>by simp[underlying,program,bind,x7,bD,D6,pure]
 have pA:∀w,(zeroValue e).run p w=.ok z w:=λw=>by simp[zeroValue,typeInfo,program,bind,x7,bD,jY,hz,pure]
 have he:aS ρ ⟨dst,.recv ct x ok,type,pos,after,guard⟩=(underlying ct).bind (λd=>match d with| .chan _ elem=>(zeroValue elem).bind (λz=>.pure (.comm #[{chan:=ρ x,send:=none,zero:=z}] true (.recv ok)))|_=>stuck "receive: channel type expected"):=by
  simp only[aS];show x7 _ _=x7 _ _;congr 1
 rw[he];constructor
 .rw[sE,hu]
  simp only[uV];rw[sE,pA];simp only[uV,hx];rfl
 .rw[Tx,hu,Rm,events_underlying]
  simp only;rw[Tx,pA,Rm,events_zeroValue];rfl
def zol {y:cM}(hop:o.op=.send x y)(hx:ρ x=.chan (some c))(hy:ρ y=v)(w:aE):
 (aS ρ o).run p w=.ok (.comm #[scase c v (.tuple #[])] true .send) w/\(aS ρ o).events p w #[]=#[]:=by
 obtain⟨dst,yJ,type,pos,after,guard⟩:=o;simp only at hop;subst hop;constructor
 .simp[aS,hx,hy,scase,pure,bD]
 .simp[aS,hx,hy,scase,pure,bD,vY,zO]
variable {g:Nat}
def Vh {R:Pr}{W:aE}(hw:C.Rel R w W){v':aF}(hK:C.K g c)(h:VR (SF C.fs) C.K R (.chan (some g)) v'):v'=.chan (some c):=by
 cases h with
 |chan h=>
  cases h with
  |some h=>rw[hw.inj g _ c h (.inr hK)]
def zbe (ho:ops[i]? =some o)(v:aF):o9 (G ((C.ds.base fn).at ⟨tmps,C.ds.ds⟩ (.inRegion ops (i::rest)::k)) C.base) v=G (fx [] C.ds ⟨fn,(cC ⟨tmps,[]⟩ o.dst v).tmps,.inRegion ops rest::k,false⟩) C.base:=by
 rw[mG];have Fw:cC ⟨tmps,C.ds.ds⟩ o.dst v=⟨(cC ⟨tmps,[]⟩ o.dst v).tmps,C.ds.ds⟩:=by cases o.dst<;>rfl
 have zJ:((C.ds.base fn).at ⟨tmps,C.ds.ds⟩ (.inRegion ops (i::rest)::k)).finish v=(C.ds.base fn).at (cC ⟨tmps,C.ds.ds⟩ o.dst v) (.inRegion ops rest::k):=by rw[zr3,ho];rfl
 rw[<-Fw,<-zJ];rfl
variable {okv:aF->Prop}
def BO.recv (ha:C.alone=none)(hI:fG C){nx:aF->L}{sh:L}
 (ho:ops[i]? =some o) (cD:dF o (dR ops tmps)=true) (hop:o.op=.recv ct x ok) (D6:C.p.underlying ct=some (.chan dir e)) (jY:C.p.info? e=some ie) (hz:ie.zero=some z) (ziu:∀R,VR (SF C.fs) C.K R z z)
 (sC:dQ C.fs x=true) (hx:(bH tmps []).eval x=.chan (some g)) (hK:C.K g c) (lH:∀s,o.dst=some s->s∉C.S) (p8:C.A.act l=.recv c okv nx sh)
 (h1:∀v,okv v->∃vg,(∀R,VR (SF C.fs) C.K R vg v)/\BO C (nx v) ⟨fn,(cC ⟨tmps,[]⟩ o.dst (recvd ok vg true)).tmps,.inRegion ops rest::k,false⟩ w)
 (h2:C.A.cl l->BO C sh ⟨fn,(cC ⟨tmps,[]⟩ o.dst (recvd ok z false)).tmps,.inRegion ops rest::k,false⟩ w):BO C l ⟨fn,tmps,.inRegion ops (i::rest)::k,false⟩ w:=by
 intro R W m' τ hw hm ht hi;obtain⟨fn',bQ,yQ,y3⟩:=m';obtain rfl:=hm.fn;obtain rfl:=hm.todo;obtain rfl:=hm.ret;have lK:(bH bQ C.ds.ds).eval x=.chan (some c):=Vh hw hK (hx▸Hq (C:=C) hm.tmps sC);have uD:=Hu (C:=C) hm.tmps cD;have hb:(C.ds.base fn).kind≠ .early:=C.ds.ok;have za0:∀vg v' b,VR (SF C.fs) C.K R vg v'->VR (SF C.fs) C.K R (recvd ok vg b) (recvd ok v' b):=λvg v' b h=>by
  unfold recvd
  cases ok with
  |false=>exact h
  |true=>
   simp only[if_true];exact VR.tuple' (by
    have:=bK.empty (S:=SF C.fs) (K:=C.K) (R:=R);exact(this.push h).push (.bool b))
 have goon:∀{l':L} {vg v':aF} {aV:aE},bT C.ty C.Wg τ W aV->VR (SF C.fs) C.K R vg v'->BO C l' ⟨fn,(cC ⟨tmps,[]⟩ o.dst vg).tmps,.inRegion ops rest::k,false⟩ w->
  C.B l' τ (o9 (G ((C.ds.base fn).at ⟨bQ,C.ds.ds⟩ (.inRegion ops (i::rest)::k)) C.base) v') aV:=λ{l' vg v' aV} s hv hB=>by
  rw[zbe ho];exact hB R aV _ τ (Cx.Rel.suf (C:=C) hw ht s) ⟨rfl,rfl,rfl,Jf (C:=C) hm.tmps hv,Jn (C:=C) hm.pins lH⟩ ht (hI.suf _ _ _ _ hi s)
 rw[mG,Cx.B_none ha];refine bZ.usr rfl ?_;unfold mF;rw[p8];refine⟨rfl,z,ok,λaI s=>?_,λv hv aI s _=>?_,λmK=>?_⟩
 .obtain⟨e1,e2⟩:=zoL (p:=C.p) (ρ:=(bH bQ C.ds.ds).eval) hop D6 jY hz lK aI
  rw[stepG_comm ho uD hb e1];unfold wJ;rw[e2,Ct]
 .obtain⟨vg,znm,hB⟩:=h1 v hv
  have:=goon s (za0 _ _ _ (znm R)) hB;rw[Cx.B_none ha] at this;exact this
 .have:=goon bT.refl (za0 _ _ _ (ziu R)) (h2 mK)
  rw[Cx.B_none ha] at this;exact this
variable {pub:aF->List Nat}
def BO.send (ha:C.alone=none)(hI:fG C){y:cM}{nx:aF->L}{l':L}
 (ho:ops[i]? =some o) (cD:dF o (dR ops tmps)=true) (hop:o.op=.send x y)
 (sC:dQ C.fs x=true) (hx:(bH tmps []).eval x=.chan (some g)) (hK:C.K g c) (Dr:dQ C.fs y=true) (lH:∀s,o.dst=some s->s∉C.S) (p8:C.A.act l=.send c okv pub nx)
 (hv:∀R v',VR (SF C.fs) C.K R ((bH tmps []).eval y) v'->okv v'/\pub v'=[]/\nx v'=l')
 (h1:BO C l' ⟨fn,(cC ⟨tmps,[]⟩ o.dst aA).tmps,.inRegion ops rest::k,false⟩ w):BO C l ⟨fn,tmps,.inRegion ops (i::rest)::k,false⟩ w:=by
 intro R W m' τ hw hm ht hi;obtain⟨fn',bQ,yQ,y3⟩:=m';obtain rfl:=hm.fn;obtain rfl:=hm.todo;obtain rfl:=hm.ret;have lK:(bH bQ C.ds.ds).eval x=.chan (some c):=Vh hw hK (hx▸Hq (C:=C) hm.tmps sC);have uD:=Hu (C:=C) hm.tmps cD;have hb:(C.ds.base fn).kind≠ .early:=C.ds.ok;obtain⟨k1,k2,k3⟩:=hv R _ (Hq (C:=C) (d:=C.ds.ds) hm.tmps Dr);rw[mG,Cx.B_none ha];refine bZ.usr rfl ?_;unfold mF;rw[p8];refine⟨rfl,_,.tuple #[],τ,λaI s=>?_,k1,λb h=>h,rfl,λb h=>.inl h,(λa ha=>by rw[k2] at ha;cases ha),?_⟩
 .obtain⟨e1,e2⟩:=zol (p:=C.p) (ρ:=(bH bQ C.ds.ds).eval) hop lK rfl aI
  rw[stepG_comm ho uD hb e1];unfold wJ;rw[e2,Ct]
 .rw[k3,zbe ho]
  rw[<-Cx.B_none ha];exact h1 R W _ τ hw ⟨rfl,rfl,rfl,Jf (C:=C) hm.tmps xN,Jn (C:=C) hm.pins lH⟩ ht hi
end
end Go.Mt
namespace Go.Mt
open Go.Conc
inductive PpL where
 |m0|m1|rv (k:Nat)|wt|sd (k:Nat)|dn
end Go.Mt
namespace Go.Mt
open Go.Conc Go.RowKit Go.Conc.Lib Go.ConcR.Gen
open Go.ConcR (KK wgBlock WgAt stA smA rd wr mk Payload DC0)
section
variable {zQ:Type}{P:bS}{ty:aM}{Wg:Nat}{A:jU zQ}{Fin:bC->aE->Prop}
def cF.grow_self (τ:cF)(w:aE):τ.grow w w=τ:=by
 obtain⟨a,b,c⟩:=τ;simp only[cF.grow,cF.mk.injEq,and_true];funext x;exact propext ⟨λh=>h.elim id λh=>by omega,.inl⟩
def zP.refl (O:Nat->Prop)(w:aE):zP O w w:=⟨rfl,rfl,rfl,aX _,λ_ _ _=>rfl⟩
variable {main:Bool}{τ:cF}
def bZ.running {ph:Ph zQ}{d:Nat}{g:bC}{w:aE}(h:bZ P ty Wg A Fin main ph d τ g w):g.status=.running:=by
 obtain⟨r,hr⟩:=h;cases r with|mk ι f=>exact hr.1
def bZ.goes {ph:Ph zQ}{d:Nat}(hl:ph.live):∀(n:Nat) {g:bC} {w:aE},Goes P main (bT ty Wg τ) DC0 (bZ P ty Wg A Fin main ph d τ) n g w->bZ P ty Wg A Fin main ph d τ g w:=by
 intro n
 induction n with
 |zero=>exact λ{g w} h=>h w (bT.refl)
 |succ n ih=>
  intro g w h;rcases h with h|⟨hs,h⟩
  .exact h w (bT.refl)
  .refine bZ.own hs hl λaI s=>?_
   obtain⟨zaF,w',es,hgo,⟨e1,e2⟩,hg⟩:=zkW (h aI s);subst e1 e2;have hb:=ih hg;refine⟨zaF,w',#[],hgo,hb.running,zP.refl _ _,λe he=>by simp at he,?_⟩;rw[cF.grow_self];exact hb
def bZ.idles {ph:Ph zQ}{d:Nat}(hl:∀{g w},zaP P ty Wg (bZ P ty Wg A Fin) main ph d τ g w->Nq P ty Wg (bZ P ty Wg A Fin) main ph d τ g w):∀(n:Nat) {g:bC} {w:aE},Goes P main (bT ty Wg τ) DC0 (bZ P ty Wg A Fin main ph d τ) n g w->bZ P ty Wg A Fin main ph d τ g w:=by
 intro n
 induction n with
 |zero=>exact λ{g w} h=>h w (bT.refl)
 |succ n ih=>
  intro g w h;rcases h with h|⟨hs,h⟩
  .exact h w (bT.refl)
  .refine bZ.mk hs (.inl (hl λaI s=>?_))
   obtain⟨zaF,w',es,hgo,⟨e1,e2⟩,hg⟩:=zkW (h aI s);subst e1 e2;have hb:=ih hg;exact⟨zaF,#[],hgo,hb.running,λe he=>by simp at he,hb⟩
variable {m:Mark}
def bZ.mark {ph:Ph zQ}{d:Nat}(hl:ph.live){g:bC}{w:aE}(hs:g.status=.running){g':bC}(hgo:∀aI,bT ty Wg τ w aI->stepG P main g aI=.go g' aI #[oE m])
 (hm:EvT Wg main τ.own τ.still (oE m)) (hb:∀aI,bT ty Wg τ w aI->bZ P ty Wg A Fin main ph (n9 d #[oE m]) τ g' aI):bZ P ty Wg A Fin main ph d τ g w:=by
 refine bZ.own hs hl λaI s=>⟨g',aI,#[oE m],hgo aI s,(hb aI s).running,zP.refl _ _,λe he=>?_,?_⟩
 .rw[zrl] at he
  subst he;rw[cF.grow_self];exact hm
 .rw[cF.grow_self];exact hb aI s
def bZ.imark {l:zQ}{d:Nat}{g:bC}{w:aE}(hs:g.status=.running){g':bC}(hgo:∀aI,bT ty Wg τ w aI->stepG P main g aI=.go g' aI #[oE m])
 (hm:oC.mute (oE m)=true) (hb:∀aI,bT ty Wg τ w aI->bZ P ty Wg A Fin main (.rel l) (n9 d #[oE m]) τ g' aI):bZ P ty Wg A Fin main (.rel l) d τ g w:=by
 refine bZ.mk hs (.inl λaI s=>⟨g',#[oE m],hgo aI s,(hb aI s).running,λe he=>?_,hb aI s⟩);rw[zrl] at he;subst he;exact hm
def WgLive.cell0 {w:aE}(h:WgLive ty Wg w):∃v,w.cell? ⟨Wg,0,none⟩=some v:=let⟨_,_,x⟩:=h;⟨_,x.cellSt⟩
def WgLive.cell1 {w:aE}(h:WgLive ty Wg w):∃v,w.cell? ⟨Wg,1,none⟩=some v:=let⟨_,_,x⟩:=h;⟨_,x.cellSm⟩
structure Gt (ty:aM)(Wg:Nat)(τ:cF)(F:aE->Prop):Prop where
 suf:∀w aI,bT ty Wg τ w aI->F w->F aI
 wg:∀w a v,a.block=Wg->F w->F (w.setCell a v)
def Gt.rely {F:aE->Prop}(k:Gt ty Wg τ F){w aI:aE}(h:F w/\WgLive ty Wg w)(s:bT ty Wg τ w aI):F aI/\WgLive ty Wg aI:=⟨k.suf _ _ s h.1,s.live h.2⟩
end
end Go.Mt
namespace Go.Mt
open Go.Conc Go.RowKit Go.Conc.Lib Go.ConcR.Gen
open Go.ConcN.Gen (WgLive.cell0 WgLive.cell1)
open Go.ConcN (st_flag st_waiters)
open Go.ConcR (KK wgBlock WgAt stA smA rd wr mk Payload DC0)
variable [zeM]{L:zex}
section
variable {zQ:Type}{P:bS}{Wg:Nat}{A:jU zQ}{Fin:bC->aE->Prop}{F:aE->Prop}
 {b₀:dK} {a₀:tK} {ops₀:Array aZ} {i₀:Nat} {rest₀:List Nat} {k₀:List eE} {cs:List dK} {τ:cF} {l nx:zQ}
def addW (H:Xs P L)(p8:A.act l=.add nx)(kf:Gt L.tWg Wg τ F)
 (hT:∀w,F w->WgLive L.tWg Wg w->bZ P L.tWg Wg A Fin true (.usr nx) 0 τ (G (b₀.at (a₀.put ((ops₀[i₀]?).bind (·.dst)) (.tuple #[])) (.inRegion ops₀ rest₀::k₀)) cs) w)
 (w:aE) (hF:F w/\WgLive L.tWg Wg w):
 bZ P L.tWg Wg A Fin true (.usr l) 0 τ (G ((base L.add).at ⟨#[.pointer (some ⟨Wg,0,none⟩),.int .i64 1,aA,aA,aA,aA,aA,aA,aA,aA,aA,aA,aA,aA,aA,aA,aA,aA,aA,aA,aA,aA,aA,aA,aA,aA,aA,aA,aA,aA,aA,aA,aA,aA,aA,aA,aA,aA,aA,aA,aA,aA,aA,aA,aA,aA,aA,aA,aA,aA,aA,aA,aA,aA,aA,aA,aA,aA,aA,aA,aA,aA,aA,aA,aA,aA,aA,aA,aA,aA,aA,aA,aA,aA,aA,aA,aA,aA,aA,aA,aA,aA,aA,aA,aA,aA,aA,aA,aA,aA,aA,aA,aA,aA,aA,aA,aA,aA,aA,aA,aA,aA,aA,aA,aA,aA,aA,aA,aA,aA,aA,aA,aA,aA,aA,aA,aA],[]⟩ [.code (M2 L)]) (b₀.at a₀ (.inRegion ops₀ (i₀::rest₀)::k₀)::cs)) w:=by
 lib_facts
 simp only[M2,addFn,y4];refine bZ.goes (ph:=.usr l) trivial 30 ?_
 iterate 12 (first|u_c dI kf.rely hF|u_c dS kf.rely hF|u_reg kf.rely hF|u_c pJ kf.rely hF|u_cond false kf.rely hF|u_cond true kf.rely hF|u_op kf.rely hF)
 refine qN (λaI vV=>?_);replace hF:=kf.rely hF vV;clear vV;refine bZ.mark (ph:=.usr l) trivial rfl (λeW s=>zaK .disable aO rfl rfl qW rfl H.f_disable (zik L) (zmm L) (zkl L) (zkw L)) trivial (λeW s=>?_);replace hF:=kf.rely hF s;clear s;rw[show n9 0 #[oE .disable]=1 from rfl]
 walk_nrm
 refine bZ.goes (ph:=.usr l) trivial 60 ?_;u_c dI kf.rely hF;u_reg kf.rely hF
 u_defer kf.rely hF
 iterate 8 (first|u_c dI kf.rely hF|u_c dS kf.rely hF|u_reg kf.rely hF|u_op kf.rely hF)
 u_bub kf.rely hF
 iterate 11 (first|u_c dI kf.rely hF|u_c dS kf.rely hF|u_reg kf.rely hF|u_c pJ kf.rely hF|u_cond false kf.rely hF|u_op kf.rely hF)
 u_call H.f_uAdd (nm_uAdd L) uAddFn kf.rely hF
 iterate 10 (first|u_c dI kf.rely hF|u_c dS kf.rely hF|u_reg kf.rely hF|u_op kf.rely hF)
 refine qN (λaI vV=>?_);replace hF:=kf.rely hF vV;clear vV;refine bZ.usr rfl ?_;unfold mF;rw[p8];intro eW lT v hv hw;replace hF:=kf.rely hF lT;clear lT;rcases Qa v with rfl|zb9
 .replace hw:gD L.tWg Wg eW 0 0:=by simpa using hw
  have z:st (0+1) 0=.int .u64 KK:=by simp[st]
  rw[z];have e0:Rz.wrap (0+4294967296)=KK:=aH;refine⟨_,(Zz rfl rfl qW rfl H.f_addU64 (Yh L) (V3 L) (Zg L) .u64 (Yy L) rfl rfl hw.cellSt (hw.thaw 0)).trans (by rw[e0];rfl),rfl,?_⟩;replace hF:F (eW.setCell (stA Wg) (.int .u64 KK))/\WgLive L.tWg Wg (eW.setCell (stA Wg) (.int .u64 KK)):=⟨kf.wg _ _ _ rfl hF.1,⟨_,_,hw.setSt _⟩⟩;clear hw;simp only[KK] at hF⊢
  walk_nrm
  refine bZ.goes (ph:=.usr nx) trivial 110 ?_
  iterate 3 (first|u_c dI kf.rely hF|u_c xF kf.rely hF|u_op kf.rely hF)
  u_leave1 H.f_uAdd kf.rely hF
  iterate 48 (first|u_c dI kf.rely hF|u_c dS kf.rely hF|u_reg kf.rely hF|u_c pJ kf.rely hF|u_cond false kf.rely hF|u_cond true kf.rely hF|u_op kf.rely hF|u_skip kf.rely hF)
  u_conv H.underlying_tPU32 H.room_tU32 (WgLive.cell1 hF.2).choose_spec kf.rely hF
  refine qN (λIl Ax=>?_);replace hF:=kf.rely hF Ax;clear Ax;refine bZ.mark (ph:=.usr nx) trivial rfl (λUx s=>zcT .read aO rfl rfl qW rfl H.f_raceRead (x_raceRead_n L) (x_raceRead_b L) (x_raceRead_x L) (x_raceRead_f L) (ad:=⟨Wg,1,none⟩) (by simp[wF])) ⟨rfl,rfl⟩ (λUx s=>?_);replace hF:=kf.rely hF s;clear s;rw[show n9 1 #[oE (.read ⟨Wg,1,none⟩)]=1 from rfl]
  walk_nrm
  refine bZ.goes (ph:=.usr nx) trivial 110 ?_
  iterate 39 (first|u_c dI kf.rely hF|u_c dS kf.rely hF|u_reg kf.rely hF|u_c pJ kf.rely hF|u_cond false kf.rely hF|u_cond true kf.rely hF|u_c xF kf.rely hF|u_op kf.rely hF|u_skip kf.rely hF)
  refine qN (λIl Ax=>?_);replace hF:=kf.rely hF Ax;clear Ax;refine bZ.mark (ph:=.usr nx) trivial rfl (λUx s=>zsZ (v:=.tuple #[]) (evs:=#[oE .enable]) rfl H.f_enable (zfU L) (zfa L) (zhb L) (zd0 L) (by simp[zxa]) (by simp[oE]) (by simp[oE])) trivial (λUx s=>?_);replace hF:=kf.rely hF s;clear s;rw[show n9 1 #[oE .enable]=0 from rfl];refine bZ.goes (ph:=.usr nx) trivial 2 ?_
  u_leave0 H.f_add kf.rely hF
  exact qN (λzaR H9=>hT zaR (kf.rely hF H9).1 (kf.rely hF H9).2)
 .obtain⟨V,hV⟩:=aU ((v:Int)+1:Int)
  obtain⟨S,hS⟩:=aU (V*KK:Int);have eS:Rz.wrap ((v:Int)*KK+4294967296)=S:=by rw[zf6,hS,hV];simp only[KK];omega
  have z:st (v+1) 0=.int .u64 S:=by simp[st,hS,hV]
  rw[z];have a1:S/4294967296=V:=by rw[hS];simp only[KK];omega
  have b1:bits .and .u64 S 2147483648=0:=by rw[hS,hV];have:=st_flag (v+1) 0 aC aC;simpa[KK] using this
  have b2:bits .and .u64 S 2147483647=0:=by rw[hS,hV];have:=st_waiters (v+1) 0 aC aC;simpa[KK] using this
  have c1:zsF.wrap V=V:=by rw[zyp];omega
  have zjK:1<V:=aC;have zuw:V<2147483648:=aC;have q1:(V==1)=false:=q8;have q2:decide (V=1)=false:=decide_eq_false aC;have q3:decide (V<0)=false:=decide_eq_false aC;have q4:decide (0<V)=true:=decide_eq_true aC;have q5:(V==0)=false:=q8;have q6:decide (V=0)=false:=decide_eq_false aC;refine⟨_,(Zz rfl rfl qW rfl H.f_addU64 (Yh L) (V3 L) (Zg L) .u64 (Yy L) rfl rfl hw.cellSt (hw.thaw 0)).trans (by rw[eS];rfl),rfl,?_⟩;replace hF:F (eW.setCell (stA Wg) (.int .u64 S))/\WgLive L.tWg Wg (eW.setCell (stA Wg) (.int .u64 S)):=⟨kf.wg _ _ _ rfl hF.1,⟨_,_,hw.setSt _⟩⟩;clear hw hS hV eS z
  walk_nrm
  refine bZ.goes (ph:=.usr nx) trivial 130 ?_
  iterate 3 (first|u_c dI kf.rely hF|u_c xF kf.rely hF|u_op kf.rely hF)
  u_leave1 H.f_uAdd kf.rely hF
  iterate 13 (first|u_c dI kf.rely hF|u_c dS kf.rely hF|u_reg kf.rely hF|u_op kf.rely hF|u_skip kf.rely hF)
  u_cnd false kf.rely hF
  iterate 29 (first|u_c dI kf.rely hF|u_c dS kf.rely hF|u_reg kf.rely hF|u_c pJ kf.rely hF|u_op kf.rely hF)
  u_cnd false kf.rely hF
  iterate 7 (first|u_c dI kf.rely hF|u_c dS kf.rely hF|u_reg kf.rely hF|u_c pJ kf.rely hF|u_op kf.rely hF)
  u_cnd false kf.rely hF
  iterate 17 (first|u_c dI kf.rely hF|u_c dS kf.rely hF|u_reg kf.rely hF|u_c pJ kf.rely hF|u_op kf.rely hF|u_skip kf.rely hF)
  u_cnd false kf.rely hF
  iterate 11 (first|u_c dI kf.rely hF|u_c dS kf.rely hF|u_reg kf.rely hF|u_c pJ kf.rely hF|u_op kf.rely hF|u_skip kf.rely hF)
  u_cnd true kf.rely hF
  u_c xF kf.rely hF;refine qN (λIl Ax=>?_);replace hF:=kf.rely hF Ax;clear Ax;refine bZ.mark (ph:=.usr nx) trivial rfl (λUx s=>zsZ (v:=.tuple #[]) (evs:=#[oE .enable]) rfl H.f_enable (zfU L) (zfa L) (zhb L) (zd0 L) (by simp[zxa]) (by simp[oE]) (by simp[oE])) trivial (λUx s=>?_);replace hF:=kf.rely hF s;clear s;rw[show n9 1 #[oE .enable]=0 from rfl];refine bZ.goes (ph:=.usr nx) trivial 2 ?_
  u_leave0 H.f_add kf.rely hF
  exact qN (λzaR H9=>hT zaR (kf.rely hF H9).1 (kf.rely hF H9).2)
end
end Go.Mt
namespace Go.Mt
open Go.Conc Go.RowKit Go.Conc.Lib Go.ConcR.Gen
open Go.ConcN.Gen (WgLive.cell0 WgLive.cell1)
open Go.ConcN (st_flag st_waiters)
open Go.ConcR (KK wgBlock WgAt stA smA rd wr mk Payload DC0)
variable [zeM]{L:zex}
section
variable {zQ:Type}{P:bS}{Wg:Nat}{A:jU zQ}{Fin:bC->aE->Prop}{F:aE->Prop}
 {b₀:dK} {a₀:tK} {ops₀:Array aZ} {i₀:Nat} {rest₀:List Nat} {k₀:List eE} {cs:List dK} {τ:cF} {l nx:zQ}
theorem addNegW (H:Xs P L)(p8:A.act l=.done)(kf:Gt L.tWg Wg τ F)(tV:∀w,F w->A.dep l w){qt:Nat}
 (hT:QuitsD P qt 0 (G (b₀.at (a₀.put ((ops₀[i₀]?).bind (·.dst)) (.tuple #[])) (.inRegion ops₀ rest₀::k₀)) cs)) (w:aE) (hF:F w/\WgLive L.tWg Wg w):
 bZ P L.tWg Wg A Fin false (.usr l) 0 τ (G ((base L.add).at ⟨#[.pointer (some ⟨Wg,0,none⟩),.int .i64 (-1),aA,aA,aA,aA,aA,aA,aA,aA,aA,aA,aA,aA,aA,aA,aA,aA,aA,aA,aA,aA,aA,aA,aA,aA,aA,aA,aA,aA,aA,aA,aA,aA,aA,aA,aA,aA,aA,aA,aA,aA,aA,aA,aA,aA,aA,aA,aA,aA,aA,aA,aA,aA,aA,aA,aA,aA,aA,aA,aA,aA,aA,aA,aA,aA,aA,aA,aA,aA,aA,aA,aA,aA,aA,aA,aA,aA,aA,aA,aA,aA,aA,aA,aA,aA,aA,aA,aA,aA,aA,aA,aA,aA,aA,aA,aA,aA,aA,aA,aA,aA,aA,aA,aA,aA,aA,aA,aA,aA,aA,aA,aA,aA,aA,aA,aA],[]⟩ [.code (M2 L)]) (b₀.at a₀ (.inRegion ops₀ (i₀::rest₀)::k₀)::cs)) w:=by
 lib_facts
 simp only[M2,addFn,y4];refine bZ.goes (ph:=.usr l) trivial 20 ?_
 iterate 11 (first|u_c dI kf.rely hF|u_c dS kf.rely hF|u_reg kf.rely hF|u_cond true kf.rely hF|u_op kf.rely hF)
 u_conv H.underlying_tWgP H.room_tWg (WgLive.cell0 hF.2).choose_spec kf.rely hF
 refine qN (λaI vV=>?_);replace hF:=kf.rely hF vV;clear vV;refine bZ.usr rfl ?_;unfold mF;rw[p8];refine⟨rfl,rfl,λeW s=>tV _ (kf.rely hF s).1,λeW s=>?_⟩;replace hF:=kf.rely hF s;clear s;refine⟨_,zcT .releaseMerge aO rfl rfl qW rfl H.f_relMerge (x_relMerge_n L) (x_relMerge_b L) (x_relMerge_x L) (x_relMerge_f L) zla,rfl,?_⟩;refine bZ.idles (ph:=.rel l) id 10 ?_
 walk_nrm
 iterate 3 (first|u_c dI kf.rely hF|u_c dS kf.rely hF|u_reg kf.rely hF)
 refine qN (λaI vV=>?_);replace hF:=kf.rely hF vV;clear vV;refine bZ.imark rfl (λeW s=>zaK .disable aO rfl rfl qW rfl H.f_disable (zik L) (zmm L) (zkl L) (zkw L)) rfl (λeW s=>?_);replace hF:=kf.rely hF s;clear s;rw[show n9 0 #[oE .disable]=1 from rfl];refine bZ.idles (ph:=.rel l) id 50 ?_
 walk_nrm
 u_c dI kf.rely hF;u_reg kf.rely hF
 u_defer kf.rely hF
 iterate 8 (first|u_c dI kf.rely hF|u_c dS kf.rely hF|u_reg kf.rely hF|u_op kf.rely hF)
 u_bub kf.rely hF
 iterate 11 (first|u_c dI kf.rely hF|u_c dS kf.rely hF|u_reg kf.rely hF|u_c pJ kf.rely hF|u_cond false kf.rely hF|u_op kf.rely hF)
 u_call H.f_uAdd (nm_uAdd L) uAddFn kf.rely hF
 iterate 10 (first|u_c dI kf.rely hF|u_c dS kf.rely hF|u_reg kf.rely hF|u_op kf.rely hF)
 refine qN (λzdU zdp=>?_);replace hF:=kf.rely hF zdp;clear zdp;refine bZ.mk rfl (.inr ?_);intro aI iS v wt cD hv hw;replace hF:=kf.rely hF iS;clear iS;have e0:Rz.wrap (KK+18446744069414584320)=0:=aH;have e1:Rz.wrap (KK+1+18446744069414584320)=1:=aH;rcases Qa v with rfl|zb9<;>(obtain rfl|rfl:wt=0\/wt=1:=by omega)
 .
  replace hw:gD L.tWg Wg aI KK 0:=by simpa using hw
  have z:Mt.st 0 0=.int .u64 0:=by simp[Mt.st]
  rw[z];refine⟨_,(Zz rfl rfl qW rfl H.f_addU64 (Yh L) (V3 L) (Zg L) .u64 (Yy L) rfl rfl hw.cellSt (hw.thaw 0)).trans (by rw[e0];rfl),rfl,aH,λhl=>absurd hl.2 aH,λ_=>⟨qt+89,?_⟩⟩;clear hw
  walk_nrm
  q_val (.int .u64 0)
  q_c dI
  q_c xF
  q_leave1 H.f_uAdd
  q_val (.int .u64 0)
  q_c dI
  q_c dS
  q_c dS
  q_reg
  q_val (.int .u64 0)
  q_val (.int .u64 0)
  q_val (.bool false)
  q_val (.bool false)
  q_skip
  q_skip
  q_val (.bool false)
  q_c dI
  q_cond false
  q_c pJ
  q_c dS
  q_reg
  q_val (.int .u64 0)
  q_val (.int .u64 0)
  q_val (.int .i32 0)
  q_val (.int .i32 0)
  q_c dI
  q_c dS
  q_reg
  q_val (.int .u64 0)
  q_val (.int .u64 0)
  q_val (.int .u32 0)
  q_val (.int .u32 0)
  q_c dI
  q_c dS
  q_c dS
  q_reg
  q_val (.bool true)
  q_val (.int .i64 (-1))
  q_val (.bool false)
  q_val (.bool false)
  q_val (.bool false)
  q_skip
  q_skip
  q_skip
  q_skip
  q_val (.bool false)
  q_c dI
  q_cond false
  q_c pJ
  q_c dS
  q_c dS
  q_reg
  q_val (.int .i32 0)
  q_val (.bool false)
  q_c dI
  q_cond false
  q_c pJ
  q_c dS
  q_c dS
  q_reg
  q_val (.int .u32 0)
  q_val (.bool false)
  q_val (.bool false)
  q_skip
  q_skip
  q_val (.bool false)
  q_val (.bool false)
  q_skip
  q_skip
  q_skip
  q_skip
  q_val (.bool false)
  q_c dI
  q_cond false
  q_c pJ
  q_c dS
  q_c dS
  q_reg
  q_val (.int .i32 0)
  q_val (.bool false)
  q_val (.bool false)
  q_val (.int .u32 0)
  q_val (.bool true)
  q_val (.bool true)
  q_c dI
  q_cond true
  q_c xF
  q_enable
  q_leave0 H.f_add
  exact hT
 .
  replace hw:gD L.tWg Wg aI (KK+1) 0:=by simpa using hw
  have z:Mt.st 0 1=.int .u64 1:=by simp[Mt.st]
  rw[z];refine⟨_,(Zz rfl rfl qW rfl H.f_addU64 (Yh L) (V3 L) (Zg L) .u64 (Yy L) rfl rfl hw.cellSt (hw.thaw 0)).trans (by rw[e1];rfl),rfl,aH,λ_=>?_,λhl=>absurd ⟨rfl,rfl⟩ hl⟩;replace hF:F (aI.setCell (stA Wg) (.int .u64 1))/\WgLive L.tWg Wg (aI.setCell (stA Wg) (.int .u64 1)):=⟨kf.wg _ _ _ rfl hF.1,⟨_,_,hw.setSt 1⟩⟩;clear hw;refine bZ.idles (ph:=.l1 l) id 120 ?_
  walk_nrm
  iterate 3 (first|u_c dI kf.rely hF|u_c xF kf.rely hF|u_op kf.rely hF)
  u_leave1 H.f_uAdd kf.rely hF
  iterate 89 (first|u_c dI kf.rely hF|u_c dS kf.rely hF|u_reg kf.rely hF|u_c pJ kf.rely hF|u_cond false kf.rely hF|u_op kf.rely hF|u_skip kf.rely hF)
  u_call H.f_uLoad (zl8 L) uLoadFn kf.rely hF
  iterate 9 (first|u_c dI kf.rely hF|u_c dS kf.rely hF|u_reg kf.rely hF|u_op kf.rely hF)
  refine qN (λeW Uk=>?_);replace hF:=kf.rely hF Uk;clear Uk;refine bZ.mk rfl (.inr ?_);intro Il s hw;replace hF:=kf.rely hF s;clear s;refine⟨_,zgB rfl rfl qW rfl H.f_loadU64 (zdJ L) (zfN L) (zf5 L) .u64 (zdt L) rfl hw.cellSt,rfl,aH,?_⟩;clear hw;refine bZ.idles (ph:=.l2 l) id 40 ?_
  walk_nrm
  iterate 3 (first|u_c dI kf.rely hF|u_c xF kf.rely hF|u_op kf.rely hF)
  u_leave1 H.f_uLoad kf.rely hF
  iterate 10 (first|u_c dI kf.rely hF|u_c dS kf.rely hF|u_reg kf.rely hF|u_c pJ kf.rely hF|u_cond false kf.rely hF|u_op kf.rely hF)
  u_call H.f_uStore (nm_uStore L) uStoreFn kf.rely hF
  iterate 5 (first|u_reg kf.rely hF|u_op kf.rely hF)
  refine qN (λeW Ax=>?_);replace hF:=kf.rely hF Ax;clear Ax;refine bZ.mk rfl (.inr ?_);intro Il s hw;replace hF:=kf.rely hF s;clear s;have z0:Mt.st 0 0=.int .u64 0:=by simp[Mt.st]
  rw[z0];refine⟨_,stepG_store_atomic rfl rfl qW rfl H.f_storeU64 (x_storeU64_n L) (x_storeU64_b L) (x_storeU64_x L) (x_storeU64_f L) rfl rfl hw.cellSt (hw.thaw 0),rfl,aH,?_⟩;replace hF:F (Il.setCell (stA Wg) (.int .u64 0))/\WgLive L.tWg Wg (Il.setCell (stA Wg) (.int .u64 0)):=⟨kf.wg _ _ _ rfl hF.1,⟨_,_,hw.setSt 0⟩⟩;clear hw z0;refine bZ.idles (ph:=.l3 l) id 50 ?_
  walk_nrm
  u_c dI kf.rely hF;u_c zhl kf.rely hF
  u_leave0 H.f_uStore kf.rely hF
  iterate 24 (first|u_c dI kf.rely hF|u_c dS kf.rely hF|u_reg kf.rely hF|u_c pJ kf.rely hF|u_cond false kf.rely hF|u_cond true kf.rely hF|u_c zfR kf.rely hF|u_c zlw kf.rely hF|u_op kf.rely hF)
  refine qN (λeW zdT=>?_);clear zdT hF;refine bZ.mk rfl (.inr ⟨mayWake_entry rfl rfl H.f_semrelease (zr0 L),λUx s hw=>?_⟩);clear s;refine⟨_,(stepG_semrelease rfl rfl qW rfl H.f_semrelease (x_semrelease_n L) (zr0 L) (x_semrelease_x L) (x_semrelease_f L) zk0 hw.cellSm (hw.thaw 1)).trans Mk,rfl,aH,qt+19,?_⟩;clear hw
  walk_nrm
  q_c dI
  q_c zmJ
  q_reg
  q_val (.int .u32 1)
  q_val (.int .u32 0)
  q_val (.int .u32 0)
  q_c dI
  q_c zjo
  q_c dS
  q_c dS
  q_reg
  q_val (.int .u32 0)
  q_val (.bool false)
  q_c dI
  q_cond false
  q_exit
  q_c zhl
  q_enable
  q_leave0 H.f_add
  exact hT
 .
  replace hw:gD L.tWg Wg aI (((v:Nat)+1)*KK+0) 0:=by simpa using hw
  have z:Mt.st v 0=.int .u64 ((v:Int)*KK+0):=by simp[Mt.st]
  rw[z];have fK:0<v:=aC;have eS:Rz.wrap (((v:Nat)+1)*KK+0+18446744069414584320)=(v:Int)*KK+0:=by rw[zf6];simp only[KK];omega
  obtain⟨S,hS⟩:=aU ((v:Int)*KK+0:Int);rw[<-hS] at eS⊢;have a1:S/4294967296=(v:Int):=by rw[hS];simp only[KK];omega
  have a2:0<=S/\S<9223372036854775808:=by rw[hS];simp only[KK];omega
  have b1:bits .and .u64 S 2147483648=0:=by rw[hS];have:=st_flag v 0 aC aC;simpa[KK] using this
  have b2:bits .and .u64 S 2147483647=0:=by rw[hS];have:=st_waiters v 0 aC aC;simpa[KK] using this
  clear hS z;refine⟨_,(Zz rfl rfl qW rfl H.f_addU64 (Yh L) (V3 L) (Zg L) .u64 (Yy L) rfl rfl hw.cellSt (hw.thaw 0)).trans (by rw[eS];rfl),rfl,aH,λhl=>absurd hl.1 aC,λ_=>⟨qt+89,?_⟩⟩;clear hw
  walk_nrm
  q_vn (.int .u64 S)
  q_c dI
  q_c xF
  q_leave1 H.f_uAdd
  q_vn (.int .u64 S)
  q_c dI
  q_c dS
  q_c dS
  q_reg
  q_vn (.int .u64 S)
  q_vn (.int .u64 0)
  q_vn (.bool false)
  q_vn (.bool false)
  q_skip
  q_skip
  q_vn (.bool false)
  q_c dI
  q_cond false
  q_c pJ
  q_c dS
  q_reg
  q_vn (.int .u64 S)
  q_vn (.int .u64 (v:Int))
  q_vn (.int .i32 (v:Int))
  q_vn (.int .i32 (v:Int))
  q_c dI
  q_c dS
  q_reg
  q_vn (.int .u64 S)
  q_vn (.int .u64 0)
  q_vn (.int .u32 0)
  q_vn (.int .u32 0)
  q_c dI
  q_c dS
  q_c dS
  q_reg
  q_vn (.bool true)
  q_vn (.int .i64 (-1))
  q_vn (.bool false)
  q_vn (.bool false)
  q_vn (.bool false)
  q_skip
  q_skip
  q_skip
  q_skip
  q_vn (.bool false)
  q_c dI
  q_cond false
  q_c pJ
  q_c dS
  q_c dS
  q_reg
  q_vn (.int .i32 (v:Int))
  q_vn (.bool false)
  q_c dI
  q_cond false
  q_c pJ
  q_c dS
  q_c dS
  q_reg
  q_vn (.int .u32 0)
  q_vn (.bool false)
  q_vn (.bool false)
  q_skip
  q_skip
  q_vn (.bool false)
  q_vn (.bool false)
  q_skip
  q_skip
  q_skip
  q_skip
  q_vn (.bool false)
  q_c dI
  q_cond false
  q_c pJ
  q_c dS
  q_c dS
  q_reg
  q_vn (.int .i32 (v:Int))
  q_vn (.bool true)
  q_vn (.bool true)
  q_skip
  q_skip
  q_vn (.bool true)
  q_c dI
  q_cond true
  q_c xF
  q_enable
  q_leave0 H.f_add
  exact hT
 .
  replace hw:gD L.tWg Wg aI (((v:Nat)+1)*KK+1) 0:=by simpa using hw
  have z:Mt.st v 1=.int .u64 ((v:Int)*KK+1):=by simp[Mt.st]
  rw[z];have fK:0<v:=aC;have eS:Rz.wrap (((v:Nat)+1)*KK+1+18446744069414584320)=(v:Int)*KK+1:=by rw[zf6];simp only[KK];omega
  obtain⟨S,hS⟩:=aU ((v:Int)*KK+1:Int);rw[<-hS] at eS⊢;have a1:S/4294967296=(v:Int):=by rw[hS];simp only[KK];omega
  have a2:0<=S/\S<9223372036854775808:=by rw[hS];simp only[KK];omega
  have b1:bits .and .u64 S 2147483648=0:=by rw[hS];have:=st_flag v 1 aC aC;simpa[KK] using this
  have b2:bits .and .u64 S 2147483647=1:=by rw[hS];have:=st_waiters v 1 aC aC;simpa[KK] using this
  clear hS z;refine⟨_,(Zz rfl rfl qW rfl H.f_addU64 (Yh L) (V3 L) (Zg L) .u64 (Yy L) rfl rfl hw.cellSt (hw.thaw 0)).trans (by rw[eS];rfl),rfl,aH,λhl=>absurd hl.1 aC,λ_=>⟨qt+89,?_⟩⟩;clear hw
  walk_nrm
  q_vn (.int .u64 S)
  q_c dI
  q_c xF
  q_leave1 H.f_uAdd
  q_vn (.int .u64 S)
  q_c dI
  q_c dS
  q_c dS
  q_reg
  q_vn (.int .u64 S)
  q_vn (.int .u64 0)
  q_vn (.bool false)
  q_vn (.bool false)
  q_skip
  q_skip
  q_vn (.bool false)
  q_c dI
  q_cond false
  q_c pJ
  q_c dS
  q_reg
  q_vn (.int .u64 S)
  q_vn (.int .u64 (v:Int))
  q_vn (.int .i32 (v:Int))
  q_vn (.int .i32 (v:Int))
  q_c dI
  q_c dS
  q_reg
  q_vn (.int .u64 S)
  q_vn (.int .u64 1)
  q_vn (.int .u32 1)
  q_vn (.int .u32 1)
  q_c dI
  q_c dS
  q_c dS
  q_reg
  q_vn (.bool true)
  q_vn (.int .i64 (-1))
  q_vn (.bool false)
  q_vn (.bool false)
  q_vn (.bool false)
  q_skip
  q_skip
  q_skip
  q_skip
  q_vn (.bool false)
  q_c dI
  q_cond false
  q_c pJ
  q_c dS
  q_c dS
  q_reg
  q_vn (.int .i32 (v:Int))
  q_vn (.bool false)
  q_c dI
  q_cond false
  q_c pJ
  q_c dS
  q_c dS
  q_reg
  q_vn (.int .u32 1)
  q_vn (.bool true)
  q_vn (.bool true)
  q_vn (.int .i64 (-1))
  q_vn (.bool false)
  q_vn (.bool false)
  q_vn (.bool false)
  q_skip
  q_skip
  q_skip
  q_skip
  q_vn (.bool false)
  q_c dI
  q_cond false
  q_c pJ
  q_c dS
  q_c dS
  q_reg
  q_vn (.int .i32 (v:Int))
  q_vn (.bool true)
  q_vn (.bool true)
  q_skip
  q_skip
  q_vn (.bool true)
  q_c dI
  q_cond true
  q_c xF
  q_enable
  q_leave0 H.f_add
  exact hT
def doneW (H:Xs P L)(p8:A.act l=.done)(kf:Gt L.tWg Wg τ F)(tV:∀w,F w->A.dep l w){c:dK}{cs:List dK}{qt:Nat}
 (r9:c.mode=.returning) (hT:QuitsD P qt 0 (G c cs)) (w:aE) (hF:F w/\WgLive L.tWg Wg w):
 bZ P L.tWg Wg A Fin false (.usr l) 0 τ (G ((baseD L.done).at ⟨#[.pointer (some ⟨Wg,0,none⟩),aA,aA,aA],[]⟩ [.code (body_done L)]) (c::cs)) w:=by
 lib_facts
 have hA:=@addNegW _ L _ P Wg A Fin F;simp only[body_done,M2,doneFn,addFn,y4] at hA⊢;refine bZ.goes (ph:=.usr l) trivial 23 ?_;u_reg kf.rely hF;u_op kf.rely hF
 u_in kf.rely hF
 refine goes_call rfl rfl qW rfl H.f_add (nm_add L) rfl ⟨by u_nil,?_⟩
 walk_nrmf addFn
 refine qN (λaI vV=>?_);refine hA H p8 kf tV (qt:=qt+3) ?_ _ (kf.rely hF vV)
 q_c dI
 q_c zhl
 exact QuitsD.leaveD rfl rfl H.f_done rfl r9 hT
end
end Go.Mt
namespace Go.Mt
open Go.Conc Go.RowKit Go.Conc.Lib Go.ConcR.Gen
open Go.ConcN.Gen (WgLive.cell0 WgLive.cell1 AnchWN)
open Go.ConcN (st_flag st_waiters)
open Go.ConcR (KK wgBlock WgAt stA smA rd wr mk Payload DC0)
variable [zeM]{L:zex}
section
variable {zQ:Type}{P:bS}{Wg:Nat}{A:jU zQ}{Fin:bC->aE->Prop}{F:aE->Prop}
 {b₀:dK} {a₀:tK} {ops₀:Array aZ} {i₀:Nat} {rest₀:List Nat} {k₀:List eE} {cs:List dK} {τ:cF} {l nx:zQ}
def AtX (W w:aE):Prop:=∃d,w=W.at d
def xR {W w aI:aE}(h:AtX W w)(r:AtRel w aI):AtX W aI:=by
 obtain⟨d,rfl⟩:=h;obtain⟨d',rfl⟩:=r;exact⟨d',rfl⟩
def Z8 (A:jU zQ)(w:aE):Prop:=∃q ch,A.Inv q ch/\q 0=.waits/\(∀i l,q i≠ .run l)/\∀i l,q i=.over l->A.dep l w
def zsQ (H:Xs P L)(kf:Gt L.tWg Wg τ F)(N8:∀(n:Nat) g w,Goes P true AtRel DC0 Fin n g w->Fin g w)
 (hT:∀w,F w->WgLive L.tWg Wg w->Z8 A w->∀d,Fin (G (b₀.at (a₀.put ((ops₀[i₀]?).bind (·.dst)) (.tuple #[])) (.inRegion ops₀ rest₀::k₀)) cs) (w.at d))
 {ok:Nat->Prop} {ph:Ph zQ} (hl:ph.live)
 (xC:∀g w,g.status=.running->(∀aI,bT L.tWg Wg τ w aI->∀v:Nat,ok v->v<2147483648->gD L.tWg Wg aI (v*KK) 0->∃g',stepG P true g aI=.go g' aI #[rd (stA Wg)]/\g'.status=.running/\
  (v=0->bZ P L.tWg Wg A Fin true .w5 1 τ g' aI)/\(v≠0->bZ P L.tWg Wg A Fin true (.w2 v) 1 τ g' aI))->bZ P L.tWg Wg A Fin true ph 1 τ g w)
 (hC:∀v,ok v->∀g w,AnchWN L F Wg (b₀.at a₀ (.inRegion ops₀ (i₀::rest₀)::k₀)) cs g w->bZ P L.tWg Wg A Fin true (.w1 v) 1 τ g w)
 (g:bC) (w:aE) (h:AnchWN L F Wg (b₀.at a₀ (.inRegion ops₀ (i₀::rest₀)::k₀)) cs g w):bZ P L.tWg Wg A Fin true ph 1 τ g w:=by
 lib_facts
 obtain⟨T,rfl,zyy,t0,hF⟩:=h;obtain⟨v0,v1,v2,v3,v4,v5,v6,v7,v8,v9,v10,v11,v12,zLX,zKN,zKB,zJZ,zLM,zLp,zLg,v20,v21,zMG,zLs,v24,zNf,zKe,zLh,v28,zNb,v30,v31,zLR,zMY,zMZ,zKL,zJ0,v37,zLE,zL7,v40,zMj,zME,zKm,zL6,zKM,v46,zKD,zLv,v49,zNd,v51,zNe,v53,zKP,zMl,zLe,zKp,zLy,v59,zLH,zMU,zMx,zMu,zJ9,zK7,zK6,zM8,zMe,zL0,v70,zMW,v72,zMI,zMt,v75,v76,zKg,zMC,zLi,v80,zLu,zLI,zLl,rfl⟩:=array84 T zyy;simp only[List.getElem?_toArray,List.getElem?_cons_zero,gA] at t0;subst t0;refine bZ.goes hl 30 ?_;simp only[L7,zne,waitFn,y4]
 iterate 6 (first|u_c dS kf.rely hF|u_reg kf.rely hF|u_c zfR kf.rely hF|u_op kf.rely hF)
 u_call H.f_uLoad (zl8 L) uLoadFn kf.rely hF
 iterate 9 (first|u_c dI kf.rely hF|u_c dS kf.rely hF|u_reg kf.rely hF|u_op kf.rely hF)
 refine qN (λzdU vV=>?_);replace hF:=kf.rely hF vV;clear vV;refine xC _ _ rfl ?_;intro aI s v bU hv hw;replace hF:=kf.rely hF s;clear s;rcases Qa v with rfl|zb9
 .
  replace hw:gD L.tWg Wg aI 0 0:=by simpa using hw
  refine⟨_,zgB (v:=0) rfl rfl qW rfl H.f_loadU64 (zdJ L) (zfN L) (zf5 L) .u64 (zdt L) rfl hw.cellSt,rfl,λ_=>?_,λh=>absurd rfl h⟩;clear hw;refine bZ.goes (ph:=.w5) trivial 60 ?_
  walk_nrm
  iterate 3 (first|u_c dI kf.rely hF|u_c xF kf.rely hF|u_op kf.rely hF)
  u_leave1 H.f_uLoad kf.rely hF
  iterate 27 (first|u_c dI kf.rely hF|u_c dS kf.rely hF|u_reg kf.rely hF|u_cond true kf.rely hF|u_op kf.rely hF)
  refine qN (λzaR H9=>?_);replace hF:=kf.rely hF H9;clear H9;refine bZ.mark (ph:=.w5) trivial rfl (λeW s=>zaK .enable aO rfl rfl qW rfl H.f_enable (zfU L) (zfa L) (zhb L) (zd0 L)) trivial (λeW s=>?_);replace hF:=kf.rely hF s;clear s;rw[show n9 1 #[oE .enable]=0 from rfl];refine bZ.goes (ph:=.w5) trivial 30 ?_
  walk_nrm
  iterate 3 (first|u_c dI kf.rely hF|u_reg kf.rely hF|u_op kf.rely hF)
  u_conv H.underlying_tWgP H.room_tWg (WgLive.cell0 hF.2).choose_spec kf.rely hF
  refine qN (λzIs zcr=>?_);replace hF:=kf.rely hF zcr;clear zcr;refine bZ.mk rfl (.inr ⟨rfl,λUi s hD=>?_⟩);replace hF:=kf.rely hF s;clear s;have hX:AtX Ui Ui:=⟨Ui.drawn,rfl⟩;refine⟨_,zcT .acquire aO rfl rfl qW rfl H.f_acquire (x_acquire_n L) (x_acquire_b L) (x_acquire_x L) (x_acquire_f L) zla,rfl,?_⟩;refine N8 30 _ _ ?_
  walk_nrm
  iterate 19 (first|u_c dI xR hX|u_c dS xR hX|u_reg xR hX|u_c pJ xR hX|u_cond false xR hX|u_c xF xR hX|u_op xR hX|u_skip xR hX)
  u_leave0 H.f_wait xR hX
  exact qN (λzFp h=>by obtain⟨zjn,rfl⟩:=xR hX h;exact hT _ hF.1 hF.2 hD zjn)
 .
  obtain⟨S,hS⟩:∃S:Int,(v:Int)*KK=S:=⟨_,rfl⟩;have a1:S/4294967296=(v:Int):=by rw[<-hS];simp only[KK];omega
  have b1:bits .and .u64 S 2147483648=0:=by rw[<-hS];have:=st_flag v 0 aC aC;simpa[KK] using this
  have b2:bits .and .u64 S 2147483647=0:=by rw[<-hS];have:=st_waiters v 0 aC aC;simpa[KK] using this
  have c1:zsF.wrap (v:Int)=(v:Int):=by rw[zyp];omega
  have w1:Rz.wrap (S+1)=S+1:=by rw[zf6,<-hS];simp only[KK];omega
  have q3:decide ((v:Int)<0)=false:=decide_eq_false aC;have q4:decide (0<(v:Int))=true:=decide_eq_true aC;have q5:((v:Int)==0)=false:=q8;have q6:decide ((v:Int)=0)=false:=decide_eq_false aC;rw[hS] at hw;refine⟨_,zgB (v:=S) rfl rfl qW rfl H.f_loadU64 (zdJ L) (zfN L) (zf5 L) .u64 (zdt L) rfl hw.cellSt,rfl,λh0=>absurd h0 aC,λ_=>?_⟩;clear hw;refine bZ.goes (ph:=.w2 v) trivial 60 ?_
  walk_nrm
  iterate 3 (first|u_c dI kf.rely hF|u_c xF kf.rely hF|u_op kf.rely hF)
  u_leave1 H.f_uLoad kf.rely hF
  iterate 22 (first|u_c dI kf.rely hF|u_c dS kf.rely hF|u_reg kf.rely hF|u_op kf.rely hF)
  u_cnd false kf.rely hF
  iterate 9 (first|u_c dS kf.rely hF|u_reg kf.rely hF|u_c pJ kf.rely hF|u_op kf.rely hF)
  u_call H.f_uCas (nm_uCas L) uCasFn kf.rely hF
  iterate 11 (first|u_c dI kf.rely hF|u_c dS kf.rely hF|u_reg kf.rely hF|u_op kf.rely hF)
  refine qN (λzdU Uk=>?_);replace hF:=kf.rely hF Uk;clear Uk;refine bZ.mk rfl (.inr ?_);intro eW s v' Ke hw;replace hF:=kf.rely hF s;clear s;refine⟨λe=>?_,λe=>?_⟩
  .
   subst e;have z:Mt.st v' 1=.int .u64 (S+1):=by simp[Mt.st,hS]
   rw[hS] at hw;rw[z];refine⟨_,(stepG_cas_hit (v:=S) (n:=S+1) rfl rfl qW rfl H.f_casU64 (x_casU64_n L) (x_casU64_b L) (x_casU64_x L) .u64 (x_casU64_f L) rfl rfl rfl hw.cellSt (hw.thaw 0)).trans Mk,rfl,?_⟩;refine bZ.goes (ph:=.w3) trivial 70 ?_;replace hF:F (eW.setCell (stA Wg) (.int .u64 (S+1)))/\WgLive L.tWg Wg (eW.setCell (stA Wg) (.int .u64 (S+1))):=⟨kf.wg _ _ _ rfl hF.1,⟨_,_,hw.setSt _⟩⟩;clear hw
   walk_nrm
   iterate 3 (first|u_c dI kf.rely hF|u_c xF kf.rely hF|u_op kf.rely hF)
   u_leave1 H.f_uCas kf.rely hF
   iterate 15 (first|u_c dI kf.rely hF|u_c dS kf.rely hF|u_reg kf.rely hF|u_cond true kf.rely hF|u_op kf.rely hF)
   u_conv H.underlying_tPU32 H.room_tU32 (WgLive.cell1 hF.2).choose_spec kf.rely hF
   refine qN (λzM4 zsX=>?_);replace hF:=kf.rely hF zsX;clear zsX;refine bZ.mark (ph:=.w3) trivial rfl (λeW s=>zcT .write aO rfl rfl qW rfl H.f_raceWrite (x_raceWrite_n L) (x_raceWrite_b L) (x_raceWrite_x L) (x_raceWrite_f L) (ad:=⟨Wg,1,none⟩) (by simp[wF])) ⟨rfl,rfl⟩ (λeW s=>?_);replace hF:=kf.rely hF s;clear s;rw[show n9 1 #[oE (.write ⟨Wg,1,none⟩)]=1 from rfl]
   walk_nrm
   refine bZ.goes (ph:=.w3) trivial 70 ?_
   iterate 23 (first|u_c dI kf.rely hF|u_c dS kf.rely hF|u_reg kf.rely hF|u_c pJ kf.rely hF|u_cond false kf.rely hF|u_op kf.rely hF|u_skip kf.rely hF)
   refine qN (λzdU Ax=>?_);replace hF:=kf.rely hF Ax;clear Ax;refine bZ.mk rfl (.inr ⟨rfl,λIl s=>?_⟩);replace hF:=kf.rely hF s;clear s;refine⟨λ⟨st,hw⟩=>stepG_semacquire_wait rfl rfl rfl H.f_semacquire (zoB L) (zpa L) (zqX L) (zwZ L) zk0 hw.cellSm,λhf=>?_⟩;refine⟨_,(stepG_semacquire (n:=1) rfl rfl qW rfl H.f_semacquire (zoB L) (zpa L) (zqX L) (zwZ L) zk0 hf.cellSm qW (hf.thaw 1)).trans Mk,rfl,?_⟩;refine bZ.goes (ph:=.w4) trivial 60 ?_;replace hF:F (Il.setCell (smA Wg) (.int .u32 0))/\WgLive L.tWg Wg (Il.setCell (smA Wg) (.int .u32 0)):=⟨kf.wg _ _ _ rfl hF.1,⟨_,_,hf.setSm 0⟩⟩;clear hf
   walk_nrm
   iterate 6 (first|u_c dI kf.rely hF|u_c dS kf.rely hF|u_reg kf.rely hF|u_op kf.rely hF)
   u_call H.f_uLoad (zl8 L) uLoadFn kf.rely hF
   iterate 9 (first|u_c dI kf.rely hF|u_c dS kf.rely hF|u_reg kf.rely hF|u_op kf.rely hF)
   refine qN (λzdU zdT=>?_);replace hF:=kf.rely hF zdT;clear zdT;refine bZ.mk rfl (.inr λUx s hw=>?_);replace hF:=kf.rely hF s;clear s;refine⟨_,zgB (v:=0) rfl rfl qW rfl H.f_loadU64 (zdJ L) (zfN L) (zf5 L) .u64 (zdt L) rfl hw.cellSt,rfl,?_⟩;clear hw;refine bZ.goes (ph:=.w5) trivial 60 ?_
   walk_nrm
   iterate 3 (first|u_c dI kf.rely hF|u_c xF kf.rely hF|u_op kf.rely hF)
   u_leave1 H.f_uLoad kf.rely hF
   iterate 7 (first|u_c dI kf.rely hF|u_c dS kf.rely hF|u_reg kf.rely hF|u_cond true kf.rely hF|u_op kf.rely hF)
   refine qN (λzaR H9=>?_);replace hF:=kf.rely hF H9;clear H9;refine bZ.mark (ph:=.w5) trivial rfl (λeW s=>zaK .enable aO rfl rfl qW rfl H.f_enable (zfU L) (zfa L) (zhb L) (zd0 L)) trivial (λeW s=>?_);replace hF:=kf.rely hF s;clear s;rw[show n9 1 #[oE .enable]=0 from rfl];refine bZ.goes (ph:=.w5) trivial 30 ?_
   walk_nrm
   iterate 3 (first|u_c dI kf.rely hF|u_reg kf.rely hF|u_op kf.rely hF)
   u_conv H.underlying_tWgP H.room_tWg (WgLive.cell0 hF.2).choose_spec kf.rely hF
   refine qN (λzIs zcr=>?_);replace hF:=kf.rely hF zcr;clear zcr;refine bZ.mk rfl (.inr ⟨rfl,λUi s hD=>?_⟩);replace hF:=kf.rely hF s;clear s;have hX:AtX Ui Ui:=⟨Ui.drawn,rfl⟩;refine⟨_,zcT .acquire aO rfl rfl qW rfl H.f_acquire (x_acquire_n L) (x_acquire_b L) (x_acquire_x L) (x_acquire_f L) zla,rfl,?_⟩;refine N8 30 _ _ ?_
   walk_nrm
   iterate 9 (first|u_c dI xR hX|u_c dS xR hX|u_reg xR hX|u_c pJ xR hX|u_cond false xR hX|u_c xF xR hX|u_op xR hX)
   u_leave0 H.f_wait xR hX
   exact qN (λzFp h=>by obtain⟨zjn,rfl⟩:=xR hX h;exact hT _ hF.1 hF.2 hD zjn)
  .
   refine⟨_,stepG_cas_miss (v:=(v':Int)*KK) (old:=S) (n:=S+1) rfl rfl qW rfl H.f_casU64 (x_casU64_n L) (x_casU64_b L) (x_casU64_x L) .u64 (x_casU64_f L) rfl rfl rfl hw.cellSt (hw.thaw 0) (by rw[<-hS];simp only[KK];omega),rfl,?_⟩;clear hw;refine bZ.goes (ph:=.w1 v) trivial 20 ?_
   walk_nrm
   iterate 3 (first|u_c dI kf.rely hF|u_c xF kf.rely hF|u_op kf.rely hF)
   u_leave1 H.f_uCas kf.rely hF
   iterate 5 (first|u_c dI kf.rely hF|u_c pJ kf.rely hF|u_cond false kf.rely hF|u_c zjo kf.rely hF|u_c zmJ kf.rely hF)
   exact qN (λIl Ax=>hC v bU _ _ ⟨_,rfl,aO,aO,kf.rely hF Ax⟩)
def zAS (H:Xs P L)(kf:Gt L.tWg Wg τ F)(N8:∀(n:Nat) g w,Goes P true AtRel DC0 Fin n g w->Fin g w)
 (hT:∀w,F w->WgLive L.tWg Wg w->Z8 A w->∀d,Fin (G (b₀.at (a₀.put ((ops₀[i₀]?).bind (·.dst)) (.tuple #[])) (.inRegion ops₀ rest₀::k₀)) cs) (w.at d)):
 ∀b g w,AnchWN L F Wg (b₀.at a₀ (.inRegion ops₀ (i₀::rest₀)::k₀)) cs g w->bZ P L.tWg Wg A Fin true (.w1 b) 1 τ g w:=by
 intro b
 induction b using zlB with
 |ind b ih=>exact zsQ H kf N8 hT (ok:=λv=>v<b) trivial (λg w hr h=>bZ.mk hr (.inr h)) ih
def zcM (H:Xs P L)(p8:A.act l=.wait)(kf:Gt L.tWg Wg τ F)(N8:∀(n:Nat) g w,Goes P true AtRel DC0 Fin n g w->Fin g w)
 (hT:∀w,F w->WgLive L.tWg Wg w->Z8 A w->∀d,Fin (G (b₀.at (a₀.put ((ops₀[i₀]?).bind (·.dst)) (.tuple #[])) (.inRegion ops₀ rest₀::k₀)) cs) (w.at d))
 (w:aE) (hF:F w/\WgLive L.tWg Wg w):bZ P L.tWg Wg A Fin true (.usr l) 0 τ (G ((base L.wait).at ⟨#[.pointer (some ⟨Wg,0,none⟩),aA,aA,aA,aA,aA,aA,aA,aA,aA,aA,aA,aA,aA,aA,aA,aA,aA,aA,aA,aA,aA,aA,aA,aA,aA,aA,aA,aA,aA,aA,aA,aA,aA,aA,aA,aA,aA,aA,aA,aA,aA,aA,aA,aA,aA,aA,aA,aA,aA,aA,aA,aA,aA,aA,aA,aA,aA,aA,aA,aA,aA,aA,aA,aA,aA,aA,aA,aA,aA,aA,aA,aA,aA,aA,aA,aA,aA,aA,aA,aA,aA,aA,aA],[]⟩ [.code (zne L)]) (b₀.at a₀ (.inRegion ops₀ (i₀::rest₀)::k₀)::cs)) w:=by
 have aY:∀g w,AnchWN L F Wg (b₀.at a₀ (.inRegion ops₀ (i₀::rest₀)::k₀)) cs g w->bZ P L.tWg Wg A Fin true (.usr l) 1 τ g w:=λg w h=>by
  refine zsQ H kf N8 hT (ok:=λ_=>True) (ph:=.usr l) trivial (λg w hr h=>bZ.usr hr ?_) (λv _=>zAS H kf N8 hT v) g w h;unfold mF;rw[p8];exact λaI s v hv hw=>h aI s v trivial hv hw
 lib_facts
 simp only[zne,waitFn,y4];refine bZ.goes (ph:=.usr l) trivial 3 ?_
 iterate 3 (first|u_c dS kf.rely hF|u_reg kf.rely hF|u_cond true kf.rely hF)
 refine qN (λaI vV=>?_);replace hF:=kf.rely hF vV;clear vV;refine bZ.mark (ph:=.usr l) trivial rfl (λeW s=>zaK .disable aO rfl rfl qW rfl H.f_disable (zik L) (zmm L) (zkl L) (zkw L)) trivial (λeW s=>?_);replace hF:=kf.rely hF s;clear s;rw[show n9 0 #[oE .disable]=1 from rfl]
 walk_nrm
 refine bZ.goes (ph:=.usr l) trivial 3 ?_
 iterate 3 (first|u_c dI kf.rely hF|u_c zfR kf.rely hF|u_c zlw kf.rely hF)
 exact qN (λIl Uk=>aY _ _ ⟨_,rfl,aO,aO,kf.rely hF Uk⟩)
end
end Go.Mt
namespace Go.Mt
open Go.Conc Go.Tt
def Jr:Nat->aF->Bool
 |0,_=>false
 |n+1,v=>match v with
  | .bool _| .int _ _| .string _| .nilFunc| .nilIface| .pointer none| .slice none _ _| .map none| .chan none=>true
  | .agg xs| .tuple xs=>xs.all (Jr n)
  |_=>false
variable {S:aP->Prop}
def zAt {K R:Pr}:∀(n:Nat) (v:aF),Jr n v=true->VR S K R v v:=by
 intro n
 induction n with
 |zero=>intro v h;cases h
 |succ n ih=>
  intro v h;have arr:∀xs:Array aF,xs.all (Jr n)=true->bK S K R xs xs:=λxs hx=>⟨rfl,λi a b h1 h2=>by
   rw[h1] at h2;obtain rfl:=cE h2;rw[zl3] at hx;exact ih a (hx a (Sm h1))⟩
  cases v with
  |bool b=>exact .bool b
  |int k m=>exact .int k m
  |string s=>exact .string s
  |nilFunc=>exact .nilFunc
  |nilIface=>exact .nilIface
  |pointer a=>cases a with|none=>exact .pointer .none|some a=>simp[Jr] at h
  |slice a m c=>cases a with|none=>exact .slice .none|some a=>simp[Jr] at h
  |map a=>cases a with|none=>exact .map .none|some a=>simp[Jr] at h
  |chan a=>cases a with|none=>exact .chan .none|some a=>simp[Jr] at h
  |agg xs=>exact .agg rfl (arr xs (by simpa[Jr] using h)).2
  |tuple xs=>exact .tuple rfl (arr xs (by simpa[Jr] using h)).2
  |_=>simp[Jr] at h
def uN (v:aF):Prop:=∀(S:aP->Prop) (K R:Pr),VR S K R v v
variable {z:aF}
def uN.cells (h:uN z):∀x∈z.cells,uN x:=λx hx S K R=>by
 obtain⟨i,hi,rfl⟩:=zpT.1 hx;exact(h S K R).cells.2 i _ _ (mE hi) (mE hi)
def uN.agg {xs:Array aF}(h:∀x∈xs,uN x):uN (.agg xs):=λS K R=>.agg rfl λi v v' h1 h2=>by
 rw[h1] at h2;obtain rfl:=cE h2;exact h v (Sm h1) S K R
def zka (info:aM->Option wW):Prop:=∀t i z,info t=some i->i.zero=some z->uN z
def zzU {α β:Type}{P:β->Prop}{f:α->β->Option (ForInStep β)}(hf:∀a b r,P b->f a b=some r->P (match r with| .yield b=>b| .done b=>b)):∀(l:List α) (b b':β),P b->forIn l b f=some b'->P b':=by
 intro l
 induction l with
 |nil=>intro b b' hb h;simp only[List.forIn_nil,pure,gA] at h;exact h▸hb
 |cons a l ih=>
  intro b b' hb h;simp only[List.forIn_cons,bind,Dy] at h;obtain⟨r,h1,h2⟩:=h;have:=hf a b r hb h1
  cases r with
  |yield c=>exact ih c b' this h2
  |done c=>simp only[pure,gA] at h2;exact h2▸this
variable {info:aM->Option wW}{fs:Array Field}{i:wW}
def zyP (hI:zka info)(h:zul info fs=some i)(hz:i.zero=some z):uN z:=by
 unfold zul at h;simp only[bind,pure,Dy] at h;obtain⟨a,h1,h2⟩:=h;rw[<-Array.forIn_toList] at h1;have key:∀xs,a.2.2.2.2.2.2.2.1=some xs->∀x∈xs,uN x:=by
  refine zzU (P:=λs=>∀xs,s.2.2.2.2.2.2.2.1=some xs->∀x∈xs,uN x) (λf s r hP h=>?_) _ _ _ (λxs hx=>by simp only[gA] at hx;subst hx;simp) h1;simp only[Dy] at h;obtain⟨j,hj,h⟩:=h;have key:∀xs,(s.2.2.2.2.2.2.2.1.bind λa=>j.zero.bind λb=>some (a++b.cells))=some xs->∀x∈xs,uN x:=by
   intro xs hx;simp only[Dy,gA] at hx;obtain⟨u,h3,v,h4,rfl⟩:=hx;intro x hm;rcases Array.mem_append.1 hm with hm|hm
   .exact hP u h3 x hm
   .exact(hI _ j v hj h4).cells x hm
  repeat' (first|split at h|(simp only[Dy] at h;obtain⟨_,h0,h⟩:=h))
  all_goals first
   |(cases h0;done)
   |(simp only[gA] at h;subst h;exact key)
   |(simp only[gA] at h;subst h;intro xs hx;cases hx)
 split at h2<;>(simp only[gA] at h2;subst h2;simp only at hz;obtain⟨xs,h3,rfl⟩:=xK.1 hz;exact uN.agg (key xs h3))
def zCD (hI:zka info){d:TypeDesc}(h:zrh info d=some i)(hz:i.zero=some z):uN z:=by
 have hw:∀(d:TypeDesc) (s:String) (v:aF) (b:Bool) (n:Nat),uN v->∀z,(ztW d s v b n).zero=some z->uN z:=λd s v b n hv z hz=>by
  simp only[ztW,gA] at hz;exact hz▸hv
 have p0:uN (.pointer none):=λ_ _ _=>.pointer .none;have s0:uN (.slice none 0 0):=λ_ _ _=>.slice .none;have m0:uN (.map none):=λ_ _ _=>.map .none;have c0:uN (.chan none):=λ_ _ _=>.chan .none;have f0:uN .nilFunc:=λ_ _ _=>.nilFunc;unfold zrh at h
 cases d with
 |pointer e=>
  simp only[bind,pure,Dy] at h;obtain⟨j,_,h⟩:=h;split at h
  .cases h
  .split at h
   .cases h
   .simp only[Dy,gA] at h
    obtain⟨_,_,rfl⟩:=h;exact hw _ _ _ _ _ p0 z hz
  .simp only[Dy,gA] at h
   obtain⟨_,_,rfl⟩:=h;exact hw _ _ _ _ _ p0 z hz
 |slice e=>
  simp only[bind,pure,Dy,gA] at h;obtain⟨_,_,_,_,rfl⟩:=h;exact hw _ _ _ _ _ s0 z hz
 |map k e=>
  simp only[bind,pure,Dy,gA] at h;obtain⟨_,_,_,_,_,_,_,_,rfl⟩:=h;exact hw _ _ _ _ _ m0 z hz
 |chan dir e=>
  simp only[bind,pure,Dy,gA] at h;obtain⟨_,_,_,_,rfl⟩:=h;exact hw _ _ _ _ _ c0 z hz
 |func ps rs v=>
  simp only[bind,pure,Dy,gA] at h;obtain⟨_,_,rfl⟩:=h;exact hw _ _ _ _ _ f0 z hz
 |array n e=>
  simp only[bind,pure,Dy,gA] at h;obtain⟨j,hj,_,_,rfl⟩:=h;simp only at hz;split at hz
  .cases hz
  .split at hz
   .simp only[gA] at hz;subst hz;exact uN.agg aO
   .obtain⟨u,hu,rfl⟩:=xK.1 hz
    refine uN.agg λx hx=>?_;simp only[Array.mem_flatten,Array.mem_replicate] at hx;obtain⟨xs,⟨_,rfl⟩,hx⟩:=hx;exact(hI _ j u hj hu).cells x hx
 |struct fs=>exact zyP hI h hz
 |_=>cases h
def Rg (p:bS):Bool:=(gF p.types.size).all λt=>match p.info? t with|some i=>(match i.zero with|some z=>Jr 12 z|none=>true)|none=>true
def zjI:List ResultVar->Bool
 |[]=>true
 |[_]=>true
 |[_,_]=>true
 |[_,_,_]=>true
 |[_,_,_,_]=>true
 |_=>false
variable {l:List ResultVar}
def zyY (h:zjI l=true):C3 l:=by
 unfold zjI at h;split at h
 .exact .inl rfl
 .exact .inr (.inl ⟨_,rfl⟩)
 .exact .inr (.inr (.inl ⟨_,_,rfl⟩))
 .exact .inr (.inr (.inr (.inl ⟨_,_,_,rfl⟩)))
 .exact .inr (.inr (.inr (.inr ⟨_,_,_,_,rfl⟩)))
 .cases h
def fnFit (p:bS)(fs gs:aP->Bool)(f:aP):Bool:=
 match p.funcs[f]? with
 |some fn=>!(fn.name== "runtime.NumGoroutine")&&zjI fn.results.toList&&(match fn.body with|some c=>oI p ⟨fs,gs,true⟩ c|none=>false)
 |none=>false
variable {p:bS}{f:aP}
theorem fnFit_ok {fs gs:aP->Bool}(h:fnFit p fs gs f=true):∃fn c,p.funcs[f]? =some fn/\(fn.name== "runtime.NumGoroutine")=false/\fn.body=some c/\oI p ⟨fs,gs,true⟩ c=true/\C3 fn.results.toList:=by
 unfold fnFit at h
 cases hf:p.funcs[f]? with
 |none=>rw[hf] at h;cases h
 |some fn=>
  rw[hf] at h;simp only[fU,zds] at h
  cases hb:fn.body with
  |none=>rw[hb] at h;cases h.2
  |some c=>rw[hb] at h;exact⟨fn,c,rfl,h.1.1,hb,h.2,zyY h.1.2⟩
variable {t:aM}
def zwy (h:Rg p=true)(ht:t<p.types.size)(hi:p.types[t]? =some i)(hz:i.zero=some z):uN z:=by
 unfold Rg at h;rw[tY] at h;have:=h t (Bz.2 ht);have e:p.info? t=some i:=by show zln p.toTables t=some i;unfold zln;rw[if_pos ht];exact hi
 rw[e] at this;simp only[hz] at this;exact λS K R=>zAt 12 z this
def zCu (h:Rg p=true):∀n,zka (zwQ p.toTables n):=by
 intro n
 induction n with
 |zero=>intro t i z hi;cases hi
 |succ n ih=>
  intro t i z hi hz;unfold zwQ at hi;split at hi
  .next ht=>exact zwy h ht hi hz
  .obtain⟨d,_,hd⟩:=Dy.1 hi
   exact zCD ih hd hz
def zyf (h:Rg p=true){K R:Pr}(hi:p.info? t=some i)(hz:i.zero=some z):VR S K R z z:=by
 have gV:=hi;unfold zln at gV;split at gV
 .next ht=>exact zwy h ht gV hz S K R
 .exact zCu h Made.depth t i z gV hz S K R
def oV (l:List Nat)(f:aP):Bool:=l.contains f
def Qo {l:List Nat}(h:oV l f=true):f∈l:=by simpa[oV] using h
def zqt {gl fl:List Nat}(hz:Rg p=true)(h:gl.all (fnFit p (oV fl) (oV gl))=true)(hd:fl.all (λf=>gl.contains f)=true):vN (PS p (oV gl)) (oV fl) where
 zero:=λK R t i z hi G0=>zyf hz hi G0
 fn:=λf hf _=>by
  obtain⟨fn,c,h1,h2,h3,h4,_⟩:=fnFit_ok (tY.1 h f (Qo hf));exact⟨fn,c,h1,h1,h2,h3,h4⟩
 opq:=λf _ ho=>by cases ho
 low:=λf ho=>by cases ho
 dyn:=λ_ f hf=>tY.1 hd f (Qo hf)
 guard:=λt=>rfl
 res:=λf hf _ fn xB=>by
  obtain⟨fn',c,h1,h2,h3,h4,h5⟩:=fnFit_ok (tY.1 h f (Qo hf));have zR:=h1;rw[zR] at xB;obtain rfl:=cE xB;exact h5
 follows:=rfl
 none:=λ_=>rfl
def zeD (p:bS)(fs gs:aP->Bool)(f:aP):Bool:=
 match p.funcs[f]? with
 |some fn=>!(fn.name== "runtime.NumGoroutine")&&(match fn.body with|some c=>!(oI p ⟨fs,gs,true⟩ c)|none=>false)
 |none=>false
def lv_of {ol al gl fl:List Nat}(hz:Rg p=true)(h1:gl.all (fnFit p (oV fl) (oV gl))=true)(h2:al.all (λf=>ol.contains f||fnFit p (oV fl) (oV al) f)=true)(h3:ol.all (zeD p (oV fl) (oV gl))=true)(h4:ol.all (zeD p (oV fl) (oV al))=true)(hd:fl.all (λf=>gl.contains f)=true)(Ag:fl.all (λf=>al.contains f)=true):
 Lv p (oV ol) (oV al) (oV gl) (oV fl) where
 fit:={
  zero:=λK R t i z hi G0=>zyf hz hi G0
  fn:=λf hf ho=>by
   have:=tY.1 h2 f (Qo hf);have vH:ol.contains f=false:=ho;rw[vH,zsi] at this;obtain⟨fn,c,h1,h2,h3,h4,_⟩:=fnFit_ok this;exact⟨fn,c,h1,h1,h2,h3,h4⟩
  opq:=λf _ ho=>by
   have:=tY.1 h4 f (Qo ho);unfold zeD at this
   cases hf:p.funcs[f]? with
   |none=>rw[hf] at this;cases this
   |some fn=>
    rw[hf] at this;simp only[fU,zds] at this
    cases hb:fn.body with
    |none=>rw[hb] at this;cases this.2
    |some c=>exact⟨fn,fn,c,c,rfl,rfl,this.1,this.1,hb,hb⟩
  low:=λf ho=>by cases ho
  dyn:=λ_ f hf=>tY.1 Ag f (Qo hf)
  guard:=λt=>rfl
  res:=λf hf ho fn xB=>by
   have:=tY.1 h2 f (Qo hf);have vH:ol.contains f=false:=ho;rw[vH,zsi] at this;obtain⟨fn',c,h1,h2,h3,h4,h5⟩:=fnFit_ok this;have zR:(PL p (oV ol) (oV al)).c.funcs[f]? =some fn':=h1;rw[zR] at xB;obtain rfl:=cE xB;exact h5
  follows:=rfl}
 fit₁:=zqt hz h1 hd
 nofit:=λf ho=>by
  have:=tY.1 h3 f (Qo ho);unfold zeD at this
  cases hf:p.funcs[f]? with
  |none=>rw[hf] at this;cases this
  |some fn=>
   rw[hf] at this;simp only[fU,zds] at this
   cases hb:fn.body with
   |none=>rw[hb] at this;cases this.2
   |some c=>rw[hb] at this;exact⟨fn,c,rfl,hb,this.1,by simpa using this.2⟩
end Go.Mt
namespace Go.Mt
open Go.Conc Go.Tt
open Go.ConcR (KK wgBlock WgAt stA smA rd wr DC0)
section
variable {p:bS}
def wI (p:bS):Frame:={(default:dK) with fn:=p.funcs.size,defers:=[],mode:=.panicking [goexitEntry]}
variable {f:aP}{fn:Ut}
def ztX {c:Code}{cap args:Array aF}(hf:p.funcs[f]? =some fn)(hn:(fn.name== "runtime.NumGoroutine")=false)(hb:fn.body=some c)(w:aE):
 stepG p false (born p {target:=.fn (.func f) cap,args:=args}) w=.go (G ((baseD f).at ⟨(args++cap)++nU (fn.ntmps-(args++cap).size) aA,[]⟩ [.code c]) [wI p]) w #[]:=by
 have sV:¬fn.name= "runtime.NumGoroutine" :=by simpa using hn
 simp[born,stepG,unwind,callDeferred,invoke,callFunc,hf,sV,hb,seen,Bt,G,E0,dK.at,baseD,wI]
def zB7 (hf:p.funcs[f]? =some fn)(hr:fn.results=#[])(T:Array aF)(todo:List eE):QuitsD p 2 0 (G {(baseD f).at ⟨T,[]⟩ todo with mode:=.returning} [wI p]):=by
 refine zsR (g':=G (wI p) []) rfl (λw=>?_) ?_
 .simp[G,stepG,unwind,doReturn,results,dK.at,baseD,wI,hf,hr,seen,Bt,goexitEntry]
 refine zsR (g':={G (wI p) [] with status:=.finished}) rfl (λw=>?_) ⟨rfl,rfl⟩;simp[G,stepG,unwind,wI,goexitEntry,dK.catches];rfl
end
section
variable [zeM]{Lk:zex}
open Go.Conc.Lib Go.ConcR.Gen
def Gt.triv (ty:aM)(Wg:Nat)(τ:cF):Gt ty Wg τ (λ_=>True):=⟨λ_ _ _ _=>trivial,λ_ _ _ _ _=>trivial⟩
end
end Go.Mt
namespace Go.Mt
open Go.Conc Go.Tt
open Go.ConcR (KK wgBlock WgAt stA smA rd wr)
section
variable {S:aP->Prop}{K K' R R':Pr}{G:Gp}{St St':Nat->Prop}{w W:aE}
def Pr.or_le {K K' R R':Pr}(hK:K.le K')(hR:R.le R'):(R.or K).le (R'.or K'):=λa b x=>x.imp (hR a b) (hK a b)
def zk4 (hK:K.le K'){v v':aF}(x:VR S K R v v'):VR S K' R v v':=by
 induction x with
 |bool b=>exact .bool b
 |int k n=>exact .int k n
 |string s=>exact .string s
 |nilFunc=>exact .nilFunc
 |nilIface=>exact .nilIface
 |pointer x=>exact .pointer x
 |slice x=>exact .slice x
 |map x=>exact .map x
 |chan x=>exact .chan (x.mono (Pr.or_le hK (.refl _)))
 |func s e1 _ e2 _ i1 i2=>exact .func s e1 i1 e2 i2
 |iface _ ih=>exact .iface ih
 |agg e _ ih=>exact .agg e ih
 |tuple e _ ih=>exact .tuple e ih
 |junk h=>exact .junk h
def bK.monoK (hK:K.le K'){xs bY:Array aF}(x:bK S K R xs bY):bK S K' R xs bY:=⟨x.1,λi v v' h1 h2=>zk4 hK (x.2 i v v' h1 h2)⟩
def B8.monoK (hK:K.le K'){e e':MapEntry}(x:B8 S K R e e'):B8 S K' R e e':=by cases x with|mk a b=>exact .mk (zk4 hK a) (zk4 hK b)
variable {o:Obj}
def oO.monoK (hK:K.le K'){o':Obj}(x:oO S K R o o'):oO S K' R o o':=by
 cases x with
 |cells a b=>exact .cells (bK.monoK hK a) b
 |map a=>exact .map ⟨a.1,λi e e' h1 h2=>B8.monoK hK (a.2 i e e' h1 h2)⟩
 |chan a=>exact .chan (bK.monoK hK a)
 |stringIter s p=>exact .stringIter s p
 |number a=>exact .number a
 |mapIter a=>exact .mapIter a
variable {P:dM}
def oU.monoK {fs:aP->Bool}(hK:K.le K'){m m':Fm}(x:oU P fs K R m m'):oU P fs K' R m m':=⟨x.fn,x.todo,x.ret,bK.monoK hK x.tmps,x.fit,x.infs⟩
def uS.monoK {fs:aP->Bool}(hK:K.le K'){ms ms':List Fm}(x:uS P fs K R ms ms'):uS P fs K' R ms ms':=by
 induction x with
 |nil=>exact .nil
 |cons a b _ ih=>exact .cons (oU.monoK hK a) b ih
def cV.real {W':aE}(h:cV S K R G St w W)(hk:∀a b,R a b->W'.heap[b]? =W.heap[b]?)(hs:W.heap.size<=W'.heap.size):cV S K R G St w W':=by
 refine⟨h.inj,h.inj',λa b x=>⟨(h.lt a b x).1,lD (h.lt a b x).2 hs⟩,h.low,⟨h.gle.1,eG h.gle.2 hs⟩,λa b x=>?_,h.rest,h.st,h.np,h.tb⟩;obtain⟨o,o',h1,h2,h3⟩:=h.cont a b x;exact⟨o,o',h1,(hk a b x).trans h2,h3⟩
def put (w:aE)(b:Nat)(o:Obj):World:={w with heap:=w.heap.setIfInBounds b o}
def Ex (w:aE)(o:Obj):(w.alloc o).heap[w.heap.size]? =some o:=by unfold zlx;simp
def Fs {w:aE}{a:Nat}(h:a<w.heap.size):(w.alloc o).heap[a]? =w.heap[a]? :=by unfold zlx;simp[Array.getElem?_push,zp7 h]
def rE (w:aE)(o:Obj):(w.alloc o).heap.size=w.heap.size+1:=by unfold zlx;simp
def cV.pushK (h:cV S K R G St w W){N:Nat}(hN:N<W.heap.size)(hf:∀a,¬(R.or K) a N):cV S (K.add w.heap.size N) R G St (w.alloc oY) W:=by
 have aN:∀a b,R.or K a b->a≠w.heap.size:=λa b x=>zp7 (h.lt a b x).1;have lift:∀a,(∃b,R.or K a b)->(w.alloc oY).heap[a]? =w.heap[a]? :=λa ⟨b,x⟩=>Fs (h.lt a b x).1;refine⟨?_,?_,?_,h.low,⟨by rw[rE];exact Nat.le_succ_of_le h.gle.1,h.gle.2⟩,λa b x=>?_,?_,λa x=>?_,h.np.push (by unfold oY;simp),h.tb⟩
 .rintro a b c (x|x|⟨rfl,rfl⟩) (y|y|⟨e,rfl⟩)
  .exact h.inj a b c (.inl x) (.inl y)
  .exact h.inj a b c (.inl x) (.inr y)
  .exact absurd e (aN a b (.inl x))
  .exact h.inj a b c (.inr x) (.inl y)
  .exact h.inj a b c (.inr x) (.inr y)
  .exact absurd e (aN a b (.inr x))
  .exact absurd rfl (aN _ c (.inl y))
  .exact absurd rfl (aN _ c (.inr y))
  .rfl
 .rintro a b c (x|x|⟨rfl,rfl⟩) (y|y|⟨rfl,e⟩)
  .exact h.inj' a b c (.inl x) (.inl y)
  .exact h.inj' a b c (.inl x) (.inr y)
  .exact absurd (e▸ .inl x) (hf a)
  .exact h.inj' a b c (.inr x) (.inl y)
  .exact h.inj' a b c (.inr x) (.inr y)
  .exact absurd (e▸ .inr x) (hf a)
  .exact absurd (.inl y) (hf b)
  .exact absurd (.inr y) (hf b)
  .rfl
 .rintro a b (x|x|⟨rfl,rfl⟩)
  .exact⟨by rw[rE];exact zq5 (h.lt a b (.inl x)).1,(h.lt a b (.inl x)).2⟩
  .exact⟨by rw[rE];exact zq5 (h.lt a b (.inr x)).1,(h.lt a b (.inr x)).2⟩
  .exact⟨by rw[rE];omega,hN⟩
 .obtain⟨o,o',h1,h2,h3⟩:=h.cont a b x
  exact⟨o,o',(lift a ⟨b,.inl x⟩).trans h1,h2,oO.monoK (Pr.le_add _ _ _) h3⟩
 .rintro a b (x|⟨rfl,rfl⟩) hn
  .exact(lift a ⟨b,.inr x⟩).trans (h.rest a b x hn)
  .exact Ex w oY
 .obtain⟨⟨b,y⟩,c,T,hi,h1,h2⟩:=h.st a x
  exact⟨⟨b,y⟩,c,T,hi,(lift a ⟨b,.inl y⟩).trans h1,h2⟩
end
structure IM (W0:aE)(St:Nat->Prop)(Shun:Loc->Prop)(Wg:Nat)(SS:Nat->Prop)(R:Pr)(τ:cF)(W:aE):Prop where
 kp:Kp W0 R St W
 sh:Sh W0.heap.size Shun R W
 still:τ.still=SS
 wg:Wg<W.heap.size
 own:∀b,τ.own b->b≠Wg
 rel:∀a b,R a b->b≠Wg
section
variable {L:Type}{C:Cx L}{W0:aE}{St:Nat->Prop}{Shun:Loc->Prop}{SS:Nat->Prop}
def im_ok (hC:C.I=IM W0 St Shun C.Wg SS)(aY:∀a,St a->C.St a)(vM:∀b,b<W0.heap.size->SS b):fG C:=by
 refine⟨λR τ W aV h s=>?_,λR τ W R1 W1 h ht hs=>?_⟩<;>rw[hC] at*
 .refine⟨⟨s.os.trans h.kp.os,s.tape.trans h.kp.tape,s.output.trans h.kp.output,eG h.kp.size s.size,λb hb=>(s.keep b (.inr (by rw[h.still];exact vM b hb))).trans (h.kp.block b hb),h.kp.old⟩,⟨h.sh.old,h.sh.rel,λl b hl hb=>h.sh.new l b hl (eG s.size hb)⟩,h.still,lD h.wg s.size,h.own,h.rel⟩
 .refine⟨⟨hs.os.trans h.kp.os,hs.tape.trans h.kp.tape,hs.output.trans h.kp.output,eG h.kp.size hs.size,λb hb=>?_,λa b x hb=>?_⟩,⟨h.sh.old,λa b x l hl=>?_,λl b hl hb=>h.sh.new l b hl (eG hs.size hb)⟩,h.still,lD h.wg hs.size,λb hb=>?_,λa b x=>?_⟩
  .rw[hs.keep b (lD hb h.kp.size) (λa x=>aY a (h.kp.old a b x hb))]
   exact h.kp.block b hb
  .rcases hs.new a b x with y|⟨y,_⟩
   .exact h.kp.old a b y hb
   .have:=h.kp.size;omega
  .rcases hs.new a b x with y|⟨y,_⟩
   .exact h.sh.rel a b y l hl
   .exact h.sh.new l b hl y
  .rcases hb with hb|⟨hb,_⟩
   .exact h.own b hb
   .have:=h.wg;omega
  .rcases hs.new a b x with y|⟨y,_⟩
   .exact h.rel a b y
   .have:=h.wg;omega
def zaw (W:aE)(a:Addr)(v:aF){b:Nat}(h:b≠a.block):(W.setCell a v).heap[b]? =W.heap[b]? :=(Yl W a v).block b h
def Jo (W:aE)(a:Addr)(v:aF):(W.setCell a v).heap.size=W.heap.size:=(Yl W a v).size
def IM.cell {R:Pr}{τ:cF}{W:aE}{Wg:Nat}(h:IM W0 St Shun Wg SS R τ W)(hW:W0.heap.size<=Wg){a:Addr}(ha:a.block=Wg)(v:aF):IM W0 St Shun Wg SS R τ (W.setCell a v):=by
 have hA:=Yl W a v;refine⟨⟨hA.os.trans h.kp.os,hA.tape.trans h.kp.tape,hA.output.trans h.kp.output,by rw[Jo];exact h.kp.size,λb hb=>(zaw W a v aC).trans (h.kp.block b hb),h.kp.old⟩,⟨h.sh.old,h.sh.rel,λl b hl hb=>h.sh.new l b hl (by rw[Jo] at hb;exact hb)⟩,h.still,by rw[Jo];exact h.wg,h.own,h.rel⟩
end
end Go.Mt
namespace Go.Mt
open Go.Conc Go.Tt
open Go.ConcR (KK wgBlock WgAt stA smA rd wr DC0)
section
variable {L:Type}{C:Cx L}{l:L}
variable {fn:aP}{tmps:Array aF}{k:List eE}{w:aE}{ops:Array aZ}
def BO.regs (hI:fG C){id:Nat}(is:List Nat)(hr:gF ops.size=is)(h:BO C l ⟨fn,tmps,.inRegion ops is::k,false⟩ w):BO C l ⟨fn,tmps,.code (.region id ops false)::k,false⟩ w:=BO.reg hI (by rw[hr];exact h)
def Cx.dfr (C:Cx L)(d:Ew):Cx L:={C with ds:=⟨d::C.ds.ds,C.ds.kd,C.ds.ok⟩}
def fG.dfr (hI:fG C)(d:Ew):fG (C.dfr d):=⟨hI.suf,hI.step⟩
variable {p:bS}{i:Nat}{rest:List Nat}{o:aZ}{d:Ew}
def zDG {main:Bool}{b:dK}{a:tK}{cs:List dK}(ho:ops[i]? =some o)(hw:dF o (dR ops a.tmps)=true)(hk:b.kind≠ .early)(zjP:o.dst=none)
 (hr:(aS a.eval o).run p w=.ok (.defer d) w) (he:(aS a.eval o).events p w #[]=#[]):
 stepG p main (G (b.at a (.inRegion ops (i::rest)::k)) cs) w=.go (G (b.at ⟨a.tmps,d::a.defers⟩ (.inRegion ops rest::k)) cs) w #[]:=by
 have zJ:(b.at ⟨a.tmps,d::a.defers⟩ (.inRegion ops (i::rest)::k)).finish aA=b.at ⟨a.tmps,d::a.defers⟩ (.inRegion ops rest::k):=by rw[zr3,ho];simp[zjP,cC]
 have cO:(b.kind==CallKind.early)=false:=by simpa using hk
 rw[stepG_oper ho hw,<-zJ];simp[stepG.apply,hr,he,G,dK.at,cO,Bt,Ct]
def BO.defer (hI:fG C)(ho:ops[i]? =some o)(cD:dF o (dR ops tmps)=true)(zjP:o.dst=none)
 (hx:∀R w W bQ,C.Rel R w W->bK (SF C.fs) C.K R tmps bQ->(∀x∈C.pin,bQ.getD x.1 aA=x.2)->∀aV,(aS (bH bQ C.ds.ds).eval o).run C.p aV=.ok (.defer d) aV/\(aS (bH bQ C.ds.ds).eval o).events C.p aV #[]=#[])
 (h:BO (C.dfr d) l ⟨fn,tmps,.inRegion ops rest::k,false⟩ w):BO C l ⟨fn,tmps,.inRegion ops (i::rest)::k,false⟩ w:=by
 intro R W m' τ hw hm ht hi;obtain⟨fn',bQ,yQ,y3⟩:=m';obtain rfl:=hm.fn;obtain rfl:=hm.todo;obtain rfl:=hm.ret;rw[mG];refine Cx.silent rfl rfl (g':=G ((C.ds.base fn).at ⟨bQ,d::C.ds.ds⟩ (.inRegion ops rest::k)) C.base) (λaV s=>?_) λaV s=>?_
 .obtain⟨h1,h2⟩:=hx R w W bQ hw hm.tmps hm.pins aV
  exact zDG ho (Hu (C:=C) hm.tmps cD) C.ds.ok zjP h1 h2
 .have:=h R aV ⟨fn,bQ,.inRegion ops rest::k,false⟩ τ (Cx.Rel.suf (C:=C) hw ht s) ⟨rfl,rfl,rfl,hm.tmps,hm.pins⟩ ht (hI.suf _ _ _ _ hi s)
  rw[mG] at this;exact this
variable {ρ:cM->aF}
def zqq {f:aP}{zuq:Array cM}{kH:Array aM}(hop:o.op=.defer {callee:=.value (.func f),args:=zuq,argTypes:=kH})(hρ:ρ (.func f)=.func (.func f) #[] #[])(w:aE):
 (aS ρ o).run p w=.ok (.defer (dcall f (zuq.map ρ))) w/\(aS ρ o).events p w #[]=#[]:=by
 obtain⟨dst,yJ,type,pos,after,guard⟩:=o;simp only at hop;subst hop;constructor
 .simp[aS,resolve,Bu,hρ,dcall,bind,x7,pure,bD]
 .simp[aS,resolve,Bu,hρ,dcall,bind,x7,pure,bD,vY,zO]
variable {Post:aF->aE->Prop}
def zBd {Shun:Loc->Prop}:∀(n:Nat) (g:bC) (w:aE),Goes p true AtRel DC0 (λg w=>J p Post Shun w.heap.size g w) n g w->J p Post Shun w.heap.size g w:=by
 intro n
 induction n with
 |zero=>exact λg w h=>by have:=h w ⟨w.drawn,rfl⟩;exact this
 |succ n ih=>
  intro g w h;rcases h with h|⟨hs,h⟩
  .have:=h w ⟨w.drawn,rfl⟩;exact this
  .refine J.own hs λd=>?_
   obtain⟨zaF,w',es,hgo,⟨e1,e2⟩,hg⟩:=zkW (h (w.at d) ⟨d,rfl⟩);subst e1 e2;exact⟨zaF,_,#[],_,hgo,λe he=>by simp at he,aX _,ih _ _ hg⟩
def zbr {t:aM}{x:cM}{a:Addr}{v:aF}(hop:o.op=.load t x)(hx:ρ x=.pointer (some a))(zBF:(isAgg t).run p w=.ok false w)(hc:w.cell? a=some v):(aS ρ o).run p w=.ok (.value v) w:=by
 obtain⟨dst,yJ,type,pos,after,guard⟩:=o;simp only at hop;subst hop;simp[aS,Instr.loadAt,hx,go_sem,loadVar,zBF,hc]
end
variable {p:bS}{s:Sem aF}{w':aE}{v:aF}
def run_bv {w:aE}(h:s.run p w=.ok v w'):bD p (x7 s (λv=>Sem.pure (Next.value v))) w=.ok (.value v) w':=by rw[sE,h];rfl
def ev_bv {w:aE}{es fE:Array oC}(h:s.run p w=.ok v w')(he:s.events p w es=fE):vY p (x7 s (λv=>Sem.pure (Next.value v))) w es=fE:=by rw[Tx,h,Rm,he];rfl
section
variable {p:bS}{Post:aF->aE->Prop}{Shun:Loc->Prop}
variable {B:Nat}
def J.sil {g g':bC}{w:aE}(hg:g.status=.running)(aY:∀w,stepG p true g w=.go g' w #[])(h:∀d,J p Post Shun B g' (w.at d)):∀d,J p Post Shun B g (w.at d):=λd=>
 J.own hg λd'=>⟨g',w.at d',#[],B,aY _,λe he=>by simp at he,aX _,h d'⟩
def J.opq {b:dK}{a:tK}{ops:Array aZ}{i:Nat}{rest:List Nat}{k:List eE}{cs:List dK}{w w':aE}{o:aZ}{v:aF}(ho:ops[i]? =some o)(hw:dF o (dR ops a.tmps)=true)(hk:b.kind≠ .early)
 (hr:∀d,(aS a.eval o).run p (w.at d)=.ok (.value v) (w'.at d)) (he:∀d,∀e∈(aS a.eval o).events p (w.at d) #[],False)
 (h:∀d,J p Post Shun B (G (b.at (a.put o.dst v) (.inRegion ops rest::k)) cs) (w'.at d)):∀d,J p Post Shun B (G (b.at a (.inRegion ops (i::rest)::k)) cs) (w.at d):=λd=>
 J.own rfl λd'=>⟨_,w'.at d',wJ p b.fn a o (w.at d'),B,stepG_value ho hw hk (hr d'),λe hx=>(he d' e (zbZ hx)).elim,aX _,h d'⟩
end
end Go.Mt
namespace Go.Mt
open Go.Conc Go.Tt
structure Blk where
 rb:Nat
 off:Nat
 cs:Array aF
 T:aM
 fz:Nat×Nat
def Oa (v:aF):Prop:=(∃k n,v=.int k n)\/(∃s,v=.string s)\/∃b,v=.bool b
inductive vR:aF->Prop
 |bool (b:Bool):vR (.bool b)
 |int (k:IntKind) (n:Int):vR (.int k n)
 |string (s:ByteArray):vR (.string s)
 |nilFunc:vR .nilFunc
 |nilIface:vR .nilIface
 |agg {xs:Array aF}:(∀(i:Nat) (v:aF),xs[i]? =some v->vR v)->vR (.agg xs)
 |tuple {xs:Array aF}:(∀(i:Nat) (v:aF),xs[i]? =some v->vR v)->vR (.tuple xs)
def thaw (w:aE):Option Blk->aE
 |none=>w
 |some b=>put w b.rb (.cells b.cs b.T b.fz)
section
variable {S:aP->Prop}{K R:Pr}{G:Gp}{St:Nat->Prop}{w W W4:aE}{A:Option Addr}{src:Option Blk}
abbrev P0:Pr:=λ_ _=>False
def stC (w:aE)(a:Nat):Prop:=a=w.heap.size+1\/a=w.heap.size+2\/a=w.heap.size+3
end
section
variable {L:Type}{C:Cx L}{W0:aE}{St:Nat->Prop}{Shun:Loc->Prop}{SS:Nat->Prop}
structure IMX (W0:aE)(St:Nat->Prop)(Shun:Loc->Prop)(Wg:Nat)(SS:Nat->Prop)(R0:Pr)(Fz:Nat->Prop)(Wf:aE)(R:Pr)(τ:cF)(W:aE):Prop where
 im:IM W0 St Shun Wg SS R τ W
 le:R0.le R
 fz:∀b,Fz b->b<W.heap.size/\W.heap[b]? =Wf.heap[b]? /\¬τ.own b/\b≠Wg
structure IX (ty:aM)(Wg:Nat)(I:Pr->cF->aE->Prop):Prop where
 suf:∀R τ W aV,I R τ W->bT ty Wg τ W aV->I R τ aV
 cell:∀R τ W a v,I R τ W->a.block=Wg->I R τ (W.setCell a v)
 at_:∀R τ W d,I R τ W->I R τ (W.at d)
 rel:∀R τ W,I R τ W->∀a b,R a b->b≠Wg
def yZ (ty:aM)(Wg:Nat)(I:Pr->cF->aE->Prop):Pr->cF->aE->Prop:=λR τ W=>I R τ W/\WgLive ty Wg W
variable {R0:Pr}
def zrv {ty:aM}{W0:aE}{St:Nat->Prop}{Shun:Loc->Prop}{Wg:Nat}{SS:Nat->Prop}{Fz:Nat->Prop}{Wf:aE}(vM:∀b,b<W0.heap.size->SS b)(hF:∀b,Fz b->SS b)(nI:W0.heap.size<=Wg):IX ty Wg (IMX W0 St Shun Wg SS R0 Fz Wf):=by
 refine⟨λR τ W aV h s=>?_,λR τ W a v h ha=>?_,λR τ W d h=>?_,λR τ W h=>h.im.rel⟩
 .have h0:fG (L:=Unit) ⟨default,λ_=>false,λ_=>false,ty,Wg,⟨λ_=>.wait,λ_ _=>True,λ_=>false,λ_=>True,λ_ _=>True,λ_ _=>[]⟩,λ_ _=>True,true,[],.nil,λ_ _=>False,λ_=>True,IM W0 St Shun Wg SS,[],none,λ_ h=>by cases h⟩:=im_ok rfl (λ_ _=>trivial) vM
  refine⟨h0.suf R τ W aV h.im s,h.le,λb hb=>?_⟩;obtain⟨f1,f2,f3,f4⟩:=h.fz b hb;exact⟨lD f1 s.size,(s.keep b (.inr (by rw[h.im.still];exact hF b hb))).trans f2,f3,f4⟩
 .refine⟨IM.cell h.im nI ha v,h.le,λb hb=>?_⟩
  obtain⟨f1,f2,f3,f4⟩:=h.fz b hb;exact⟨by rw[Jo];exact f1,(zaw W a v (by rw[ha];exact f4)).trans f2,f3,f4⟩
 .exact⟨⟨⟨h.im.kp.os,h.im.kp.tape,h.im.kp.output,h.im.kp.size,h.im.kp.block,h.im.kp.old⟩,⟨h.im.sh.old,h.im.sh.rel,h.im.sh.new⟩,h.im.still,h.im.wg,h.im.own,h.im.rel⟩,h.le,h.fz⟩
def imx_ok {Fz:Nat->Prop}{Wf:aE}(hC:C.I=yZ C.ty C.Wg (IMX W0 St Shun C.Wg SS R0 Fz Wf))(aY:∀a,St a->C.St a)(vM:∀b,b<W0.heap.size->SS b)(hF:∀b,Fz b->SS b)(nI:W0.heap.size<=C.Wg):fG C:=by
 have h0:=im_ok (C:={C with I:=IM W0 St Shun C.Wg SS}) rfl aY vM;have hx:=zrv (ty:=C.ty) (St:=St) (Shun:=Shun) (R0:=R0) (Wf:=Wf) vM hF nI;refine⟨λR τ W aV h s=>?_,λR τ W R1 W1 h ht hs=>?_⟩<;>rw[hC] at*
 .exact⟨hx.suf R τ W aV h.1 s,s.live h.2⟩
 .refine⟨⟨h0.step R τ W R1 W1 h.1.im ht hs,h.1.le.trans hs.le,λb hb=>?_⟩,?_⟩
  .obtain⟨f1,f2,f3,f4⟩:=h.1.fz b hb
   refine⟨lD f1 hs.size,(hs.keep b f1 λa x=>zY λz=>f3 ((ht a _ x).2 z)).trans f2,λe=>e.elim f3 λx=>?_,f4⟩;omega
  .obtain⟨a,b,hl⟩:=h.2
   exact⟨a,b,(hs.keep C.Wg h.1.im.wg λa x=>zY λz=>h.1.im.own _ ((ht a _ x).2 z) rfl).trans hl⟩
end
section
variable {p:bS}{op gs gs₁ fs:aP->Bool}{St:Nat->Prop}{W0:aE}{Post:aF->aE->Prop}
def JO.callN (L:Lv p op gs gs₁ fs){m:Fm}{ms:List Fm}{w:aE}{ops:Array aZ}{i:Nat}{rest:List Nat}{k:List eE}{o:aZ}{f:aP}{args:Array cM}{kH:Array aM}{fn:Ut}{c:Code}(hr:m.ret=false)(pS:m.todo=.inRegion ops (i::rest)::k)
 (ho:ops[i]? =some o) (cD:dF o (dR ops m.tmps)=true) (hop:o.op=.call ⟨.value (.func f),args,kH⟩) (Dl:op f=false) (hf:p.funcs[f]? =some fn) (hn:(fn.name== "runtime.NumGoroutine")=false) (hb:fn.body=some c)
 (hJ:JL p op gs fs St W0 Post ⟨f,args.map m.eval++nU (fn.ntmps-(args.map m.eval).size) aA,[.code c],false⟩ (m::ms) w):JL p op gs fs St W0 Post m ms w:=by
 have Cn:rA p f (args.map m.eval)=⟨f,args.map m.eval++nU (fn.ntmps-(args.map m.eval).size) aA,[.code c],false⟩:=by simp[rA,hf,hb]
 rw[<-Cn] at hJ;refine JO.one L.fit rfl (λe=>by rw[hr] at e;cases e) (λT=>((rA p f (args.map m.eval),m::ms),Tt.tp w T 0)) (λT=>?_) (λT K R y Nh=>?_) (λT=>hJ.tape T 0)
 .show(fD p m ms).run p _=_
  simp only[fD,hr,jE,if_false,rU,pS,ho,Ao,y4,cD,if_true];refine(sE p _ _ _).trans ?_;rw[(zcK hop (λg=>rfl) hf hn hb (Tt.tp w T 0)).1];simp only[uV,qT,hf,hb,kN,bD,Cn]
 .obtain⟨f',xs,bY,c,c',rest,L4,h1,h2,h3,h4,_⟩:=Nh.ex
  simp only[pK] at h4;have h5:=congrArg Fm.fn h4.1;rw[Ju,Ju] at h5;have h6:op f'=true:=h1;rw[<-h5,Dl] at h6;cases h6
end
def zpn {S:aP->Prop}:∀(n:Nat) (v:aF),N2 v<n->∃u,vR u/\(∀K R,VR S K R u v)/\(Oa v->u=v):=by
 intro n
 induction n with
 |zero=>intro v h;omega
 |succ n ih=>
  intro v hv;have hj:∀{v:aF},HidV v->(∀k m,v≠ .int k m)->(∀s,v≠ .string s)->(∀b,v≠ .bool b)->∃u,vR u/\(∀K R,VR S K R u v)/\(Oa v->u=v):=λh h1 h2 h3=>
   ⟨.nilFunc,.nilFunc,λK R=>.junk h,λx=>by
    rcases x with⟨k,m,e⟩|⟨s,e⟩|⟨b,e⟩
    .exact absurd e (h1 _ _)
    .exact absurd e (h2 _)
    .exact absurd e (h3 _)⟩
  have rows:∀xs:Array aF,N2 xs<n->∃us:Array aF,us.size=xs.size/\(∀(i:Nat) (u:aF),us[i]? =some u->vR u)/\∀K R,∀(i:Nat) (u v:aF),us[i]? =some u->xs[i]? =some v->VR S K R u v:=λxs hx=>by
   have hex:∀x,∃u,x∈xs->vR u/\∀K R,VR S K R u x:=λx=>by
    by_cases hm:x∈xs
    .obtain⟨u,h1,h2,_⟩:=ih x (Nat.lt_trans (Array.sizeOf_lt_of_mem hm) hx)
     exact⟨u,λ_=>⟨h1,h2⟩⟩
    .exact⟨x,λh=>absurd h hm⟩
   refine⟨xs.map λx=>(hex x).choose,aO,λi u h1=>?_,λK R i u v h1 h2=>?_⟩
   .rw[yB] at h1
    cases h2:xs[i]? with
    |none=>rw[h2] at h1;cases h1
    |some v=>
     rw[h2] at h1;simp only[Ao,gA] at h1;subst h1;exact((hex v).choose_spec (Sm h2)).1
   .rw[yB,h2] at h1
    simp only[Ao,gA] at h1;subst h1;exact((hex v).choose_spec (Sm h2)).2 K R
  cases v with
  |bool b=>exact⟨_,.bool b,λK R=>.bool b,λ_=>rfl⟩
  |int k m=>exact⟨_,.int k m,λK R=>.int k m,λ_=>rfl⟩
  |string s=>exact⟨_,.string s,λK R=>.string s,λ_=>rfl⟩
  |nilIface=>exact⟨_,.nilIface,λK R=>.nilIface,λ_=>rfl⟩
  |agg xs=>
   obtain⟨us,h1,h3,h2⟩:=rows xs (by simp at hv;omega);exact⟨.agg us,.agg h3,λK R=>.agg h1 (h2 K R),λx=>by rcases x with⟨_,_,e⟩|⟨_,e⟩|⟨_,e⟩<;>cases e⟩
  |tuple xs=>
   obtain⟨us,h1,h3,h2⟩:=rows xs (by simp at hv;omega);exact⟨.tuple us,.tuple h3,λK R=>.tuple h1 (h2 K R),λx=>by rcases x with⟨_,_,e⟩|⟨_,e⟩|⟨_,e⟩<;>cases e⟩
  |_=>exact hj Vo (λ_ _ h=>by cases h) (λ_ h=>by cases h) (λ_ h=>by cases h)
def gv (S:aP->Prop)(v:aF):Value:=(zpn (S:=S) (N2 v+1) v (xH _)).choose
def zgN (S:aP->Prop)(v:aF):vR (gv S v)/\(∀K R,VR S K R (gv S v) v)/\(Oa v->gv S v=v):=(zpn (S:=S) (N2 v+1) v (xH _)).choose_spec
def gObj (S:aP->Prop):Obj->Obj
 | .cells c T fz=>.cells (c.map (gv S)) T (0,max c.size fz.2)
 |_=>oY
def Cs (S:aP->Prop)(X:Nat->Bool)(W:aE):World:={W with heap:=W.heap.mapIdx λi o=>if X i=true then gObj S o else oY}
def R0 (X:Nat->Bool):Pr:=λa b=>a=b/\X a=true
def St0 (X:Nat->Bool):Nat->Prop:=λa=>X a=true
section
variable {S:aP->Prop}{X:Nat->Bool}{W:aE}
def zfb:(Cs S X W).heap.size=W.heap.size:=by simp[Cs]
def zam {b:Nat}{c:Array aF}{T:aM}{fz:Nat×Nat}(hb:W.heap[b]? =some (.cells c T fz))(hx:X b=true):(Cs S X W).heap[b]? =some (.cells (c.map (gv S)) T (0,max c.size fz.2)):=by
 simp[Cs,Nv,hb,hx,gObj]
def zCX:Br (Cs S X W):=by
 intro b c e h;simp only[Cs,Nv,xK] at h;obtain⟨o,_,h⟩:=h;split at h
 .cases o<;>simp[gObj,oY] at h
 .simp[oY] at h
def zHk {G:Gp}(hX:∀b,X b=true->∃c T fz,W.heap[b]? =some (.cells c T fz))(hT:∀g,G.tab g=true->X g=true)(hG:G.n<=W.heap.size):cV S P0 (R0 X) G (St0 X) (Cs S X W) W:=by
 refine⟨?_,?_,?_,?_,⟨by rw[zfb];exact hG,hG⟩,?_,λa b x=>x.elim,?_,zCX,λg hg=>⟨rfl,hT g hg⟩⟩
 .rintro a b c (⟨rfl,_⟩|x) (⟨h1,_⟩|y)
  .exact h1
  .exact y.elim
  .exact x.elim
  .exact x.elim
 .rintro a b c (⟨rfl,_⟩|x) (⟨h1,_⟩|y)
  .exact h1.symm
  .exact y.elim
  .exact x.elim
  .exact x.elim
 .rintro a b (⟨rfl,h⟩|x)
  .obtain⟨c,T,fz,h1⟩:=hX a h
   have:=(dP.1 h1).1;exact⟨by rw[zfb];exact this,this⟩
  .exact x.elim
 .rintro a b ⟨rfl,_⟩
  exact⟨Iff.rfl,λ_=>rfl⟩
 .rintro a b ⟨rfl,h⟩
  obtain⟨c,T,fz,h1⟩:=hX a h;refine⟨_,_,zam h1 h,h1,.cells ⟨aO,λi u v h2 h3=>?_⟩ λo ho=>?_⟩
  .rw[yB,h3] at h2
   simp only[Ao,gA] at h2;subst h2;exact(zgN S v).2.1 _ _
  .unfold Lr at ho⊢
   simp only;omega
 .intro a h
  obtain⟨c,T,fz,h1⟩:=hX a h;exact⟨⟨a,rfl,h⟩,_,T,_,zam h1 h,by rw[Array.size_map];exact Nat.le_max_left ..⟩
def zBJ {b o:Nat}{v:aF}(hX:∀b,X b=true->∃c T fz,W.heap[b]? =some (.cells c T fz))(hx:X b=true)(hv:W.cell? ⟨b,o,none⟩=some v)(hp:Oa v):(Cs S X W).cell? ⟨b,o,none⟩=some v:=by
 obtain⟨c,T,fz,h1⟩:=hX b hx;have h2:c[o]? =some v:=by
  have:W.cell? ⟨b,o,none⟩=c[o]? :=by simp[lI,h1]
  rw[<-this];exact hv
 have h3:(Cs S X W).cell? ⟨b,o,none⟩=(c.map (gv S))[o]? :=by
  simp only[lI];rw[zam h1 hx];rfl
 rw[h3,yB,h2];simp only[Ao,gA];exact(zgN S v).2.2 hp
end
def zEn {Shun:Loc->Prop}{B:Nat}:Past Shun B #[]:=
 ⟨zmD.clean,λi a h=>by simp[touchAt,lU.act?] at h,zmD.over,zmD.hears,λop h=>by simp at h⟩
variable {Post:aF->aE->Prop}
def J.start {p:bS}{op gs gs₁ fs:aP->Bool}(L:Lv p op gs gs₁ fs){f:aP}{fn:Ut}{c:Code}(hg:gs f=true)(Dl:op f=false)(hf:p.funcs[f]? =some fn)(hb:fn.body=some c){W:aE}{X:Nat->Bool}{xs args:Array aF}
 (hX:∀b,X b=true->∃c T fz,W.heap[b]? =some (.cells c T fz)) (hT:∀g,Ap p g=true->X g=true) (hG:p.globals.size<=W.heap.size) (Bx:bK (SF fs) P0 (R0 X) xs args)
 (h:JL p op gs fs (St0 X) W Post ⟨f,xs++nU (fn.ntmps-xs.size) aA,[.code c],false⟩ [] (Cs (SF fs) X W)):Ends p Post (solo (G (E0 p f args .normal) []) W) #[]:=by
 obtain⟨fn',c',g1,g2,g3,g4,g5⟩:=L.fit.fn f hg Dl;have Bs:=g2;rw[hf] at Bs;obtain rfl:=cE Bs;rw[hb] at g4;obtain rfl:=cE g4;have hJ:J p Post (λ_=>False) W.heap.size (G (E0 p f args .normal) []) W:=by
  rw[Ve hf hb];refine h P0 (R0 X) W ⟨f,args++nU (fn.ntmps-args.size) aA,[.code c],false⟩ [] (λ_=>False) (zHk hX hT hG) ⟨rfl,rfl,rfl,Bx.pad fn.ntmps,λj hj=>?_,⟨fn,fn,hf,hf,rfl,L.fit.res f hg Dl fn hf⟩⟩ .nil ⟨λ_ _ _ _=>id,λ_ _ _ _ _=>id,λ_ _ _ _=>id⟩ ⟨rfl,rfl,rfl,aX _,λ_ _=>rfl,?_⟩
  .simp only[jJ,lZ,or_false] at hj
   subst hj;exact g5
  .rintro a b ⟨rfl,h⟩ _
   exact h
 rw[solo_eq_crowd];exact hJ #[_] #[] none (λ_=>0) rfl ⟨λi g hi h=>by
  have:=(dP.1 h).1;simp at this;omega,λj _=>rfl⟩ zEn
def I5 (ops:Array aZ):Bool:=
 ((
  gF ops.size).all λi=>match ops[i]? with
  |some oi=>(oi.after.all λe=>!Dz .any e||decide (e.on<i))&&(match oi.op with| .select .. =>false|_=>true)&&
   ((
    gF ops.size).all λj=>match ops[j]? with
    |some oj=>(match oj.dst with
     |some d=>(!(oi.looksAt ops).contains d||oi.after.any λe=>Dz .any e&&e.on==j)&&(i==j||oi.dst !=some d)
     |none=>true)
    |none=>true)
  |none=>true)
structure Jx (ops:Array aZ):Prop where
 bk:∀(i:Nat) (oi:aZ),ops[i]? =some oi->∀e∈oi.after,Dz .any e=true->e.on<i
 sel:∀(i:Nat) (oi:aZ),ops[i]? =some oi->∀cs b,oi.op≠ .select cs b
 rd:∀(i j:Nat) (oi oj:aZ) (d:Tmp),ops[i]? =some oi->ops[j]? =some oj->oj.dst=some d->d∈oi.looksAt ops->∃e∈oi.after,Dz .any e=true/\e.on=j
 dst:∀(i j:Nat) (oi oj:aZ) (d:Tmp),ops[i]? =some oi->ops[j]? =some oj->oi.dst=some d->oj.dst=some d->i=j
variable {ops:Array aZ}
def Uv (h:I5 ops=true):Jx ops:=by
 unfold I5 at h;rw[tY] at h;have lt:∀{i:Nat} {oi:aZ},ops[i]? =some oi->i<ops.size:=λh=>(dP.1 h).1
 have h1:∀(i:Nat) (oi:aZ),ops[i]? =some oi->(oi.after.all λe=>!Dz .any e||decide (e.on<i))=true/\(match oi.op with| .select .. =>false|_=>true)=true/\
  ∀(j:Nat) (oj:aZ),ops[j]? =some oj->∀d,oj.dst=some d->((oi.looksAt ops).contains d=false\/(oi.after.any λe=>Dz .any e&&e.on==j)=true)/\(i=j\/oi.dst≠some d):=by
  intro i oi hi;have:=h i (Bz.2 (lt hi));rw[hi] at this;simp only[fU] at this;refine⟨this.1.1,this.1.2,λj oj hj d hd=>?_⟩;have h2:=(tY.1 this.2) j (Bz.2 (lt hj));rw[hj] at h2;simp only[hd,fU,Ey,zds,beq_iff_eq,bne_iff_ne] at h2;exact h2
 refine⟨λi oi hi e he hb=>?_,λi oi hi cs b e=>?_,λi j oi oj d hi hj hd hl=>?_,λi j oi oj d hi hj h2 h3=>?_⟩
 .have:=(h1 i oi hi).1
  rw[zl3] at this;have:=this e he;simp[hb] at this;exact this
 .have:=(h1 i oi hi).2.1
  rw[e] at this;cases this
 .have h2:=((h1 i oi hi).2.2 j oj hj d hd).1
  rcases h2 with h2|h2
  .have:=List.contains_iff_mem.2 hl
   rw[h2] at this;cases this
  .rw[Ub] at h2
   obtain⟨x,hx,h3⟩:=h2;simp only[fU,beq_iff_eq] at h3;exact⟨_,zj9 hx,h3.1,h3.2⟩
 .rcases((h1 i oi hi).2.2 j oj hj d h3).2 with h4|h4
  .exact h4
  .exact absurd h2 h4
def dE (ops:Array aZ)(vals:Nat->aF)(t0:Array aF):Array Value:=
 (gF ops.size).foldl (λt i=>match(ops[i]?).bind (·.dst) with|some d=>t.setIfInBounds d (vals i)|none=>t) t0
section
variable {ops:Array aZ}{vals:Nat->aF}{t0:Array aF}
structure r8 (ops:Array aZ)(vals:Nat->aF)(t0:Array aF)(bO:Array Bool)(t:Array aF):Prop where
 size:t.size=t0.size
 got:∀(i:Nat) (o:aZ) (d:Tmp),ops[i]? =some o->o.dst=some d->d<t0.size->bO.getD i false=true->t[d]? =some (vals i)
 old:∀s:Nat,(∀(i:Nat) (o:aZ),ops[i]? =some o->bO.getD i false=true->o.dst≠some s)->t[s]? =t0[s]?
def r8.start (bO:Array Bool)(h:∀i,bO.getD i false=false):r8 ops vals t0 bO t0:=
 ⟨rfl,λi o d _ _ _ hl=>(by rw[h i] at hl;cases hl),λs _=>rfl⟩
def r8.step (K:Jx ops){bO:Array Bool}{t:Array aF}(h:r8 ops vals t0 bO t){i:Nat}{o:aZ}(hi:ops[i]? =some o)(hz:bO.size=ops.size)(hu:bO.getD i true=false):
 r8 ops vals t0 (bO.setIfInBounds i true) (match o.dst with|some d=>t.setIfInBounds d (vals i)|none=>t):=by
 have Bw:i<bO.size:=by rw[hz];exact(dP.1 hi).1
 have Ka:∀j,(bO.setIfInBounds i true).getD j false=if j=i then true else bO.getD j false:=by
  intro j;by_cases e:j=i
  .subst e;simp[Bw]
  .rw[if_neg e];exact Qk false (Ne.symm e)
 cases hd:o.dst with
 |none=>
  refine⟨h.size,λj oj d hj O9 zdW hl=>?_,λs hs=>h.old s λj oj hj hl=>hs j oj hj ?_⟩
  .rw[Ka] at hl
   split at hl
   .next e=>subst e;rw[hi] at hj;obtain rfl:=cE hj;rw[hd] at O9;cases O9
   .exact h.got j oj d hj O9 zdW hl
  .rw[Ka];split<;>first|rfl|exact hl
 |some d=>
  refine⟨by simp[h.size],λj oj d' hj O9 zdW hl=>?_,λs hs=>?_⟩
  .rw[Ka] at hl
   split at hl
   .next e=>
    subst e;rw[hi] at hj;obtain rfl:=cE hj;rw[hd] at O9;obtain rfl:=cE O9;simp[zo5,h.size,zdW]
   .next e=>
    have aT:d≠d':=λe2=>e (K.dst j i oj o d' hj hi O9 (by rw[hd,e2]));simp only[jV aT];exact h.got j oj d' hj O9 zdW hl
  .have aT:d≠s:=λe2=>hs i o hi (by rw[Ka,if_pos rfl]) (by rw[hd,e2])
   simp only[jV aT];exact h.old s λj oj hj hl=>hs j oj hj (by rw[Ka];split<;>first|rfl|exact hl)
def r8.unique {bO:Array Bool}{t t':Array aF}(h:r8 ops vals t0 bO t)(h':r8 ops vals t0 bO t'):t=t':=by
 apply ze3;intro s;by_cases hex:∃(i:Nat) (o:aZ),ops[i]? =some o/\bO.getD i false=true/\o.dst=some s
 .obtain⟨i,o,h1,h2,h3⟩:=hex
  by_cases hs:s<t0.size
  .rw[h.got i o s h1 h3 hs h2,h'.got i o s h1 h3 hs h2]
  .rw[F7 (by rw[h.size];omega),F7 (by rw[h'.size];omega)]
 .have hn:∀(i:Nat) (o:aZ),ops[i]? =some o->bO.getD i false=true->o.dst≠some s:=λi o h1 h2 h3=>hex ⟨i,o,h1,h2,h3⟩
  rw[h.old s hn,h'.old s hn]
def Sz (K:Jx ops):r8 ops vals t0 (nU ops.size true) (dE ops vals t0):=by
 have key:∀n,n<=ops.size->r8 ops vals t0 ((Lb ops.size).map (λi=>decide (i<n))) ((gF n).foldl (λt i=>match(ops[i]?).bind (·.dst) with|some d=>t.setIfInBounds d (vals i)|none=>t) t0):=by
  intro n
  induction n with
  |zero=>intro _;exact r8.start _ λi=>by simp;cases h:(Lb ops.size)[i]? <;>simp
  |succ n ih=>
   intro hn;have h:=ih aC;obtain⟨o,ho⟩:∃o,ops[n]? =some o:=⟨ops[n],mE aC⟩;have hs:=r8.step K h ho aO (by simp[Array.getElem?_range,show n<ops.size by omega]);rw[List.range_succ,zjC];simp only[Qd,List.foldl_nil,ho,vD];have e:((Lb ops.size).map (λi=>decide (i<n))).setIfInBounds n true=(Lb ops.size).map (λi=>decide (i<n+1)):=by
    apply ze3;intro j;rw[zo5];by_cases hj:j<ops.size
    .by_cases e:n=j
     .subst e;simp[hj]
     .simp[hj,e];omega
    .have:¬n=j:=aC
     simp[hj,this]
   rw[e] at hs;exact hs
 have:=key ops.size (aX _);have e:(Lb ops.size).map (λi=>decide (i<ops.size))=nU ops.size true:=by
  apply ze3;intro j;by_cases hj:j<ops.size<;>simp[hj]
 rw[e] at this;exact this
def r8.sees (K:Jx ops){bO:Array Bool}{t Tf:Array aF}(h:r8 ops vals t0 bO t)(hf:r8 ops vals t0 (nU ops.size true) Tf){i:Nat}{o:aZ}(hi:ops[i]? =some o)(tV:∀e∈o.after,Dz .any e=true->bO.getD e.on false=true):
 ∀s∈o.looksAt ops,t[s]? =Tf[s]? :=by
 intro s hs;by_cases hex:∃(j:Nat) (oj:aZ),ops[j]? =some oj/\oj.dst=some s
 .obtain⟨j,oj,hj,hd⟩:=hex
  obtain⟨e,he,hb,rfl⟩:=K.rd i j o oj s hi hj hd hs;have hl:=tV e he hb;have uC:e.on<ops.size:=(dP.1 hj).1;by_cases hz:s<t0.size
  .rw[h.got _ oj s hj hd hz hl,hf.got _ oj s hj hd hz (by simp[uC])]
  .have G0:t0.size<=s:=Nat.le_of_not_lt hz
   rw[F7 (by rw[h.size];exact G0),F7 (by rw[hf.size];exact G0)]
 .have hn:∀(j:Nat) (oj:aZ),ops[j]? =some oj->oj.dst≠some s:=λj oj hj hd=>hex ⟨j,oj,hj,hd⟩
  rw[h.old s (λj oj hj _=>hn j oj hj),hf.old s (λj oj hj _=>hn j oj hj)]
end
variable {t t':Array aF}
def zJu {x:cM}(h:∀s,x=.tmp s->t[s]? =t'[s]?):(bH t []).eval x=(bH t' []).eval x:=by
 cases x with
 |tmp s=>
  have:=h s rfl;show t.getD s aA=t'.getD s aA;simp only[tJ,this]
 |_=>rfl
variable {o:aZ}
def El (hs:∀cs b,o.op≠ .select cs b)(h:∀s∈o.looksAt ops,t[s]? =t'[s]?):aS (bH t []).eval o=aS (bH t' []).eval o:=
 execOp_congr o hs λx hx=>zJu λs e=>h s (by
  subst e;exact List.mem_append_left _ (List.mem_filterMap.2 ⟨.tmp s,by simpa using hx,rfl⟩))
def Vv (h:∀s∈o.looksAt ops,t[s]? =t'[s]?):dF o (dR ops t)=dF o (dR ops t'):=by
 unfold dF
 cases hg:o.guard with
 |none=>rfl
 |some gw=>
  obtain⟨g,want⟩:=gw;have hy:dR ops t g=dR ops t' g:=by
   unfold dR
   cases ht:(ops[g]?).bind (·.dst) with
   |none=>rfl
   |some s=>
    have:=h s (by simp[aZ.looksAt,hg,ht]);simp only[vD,this]
  simp only[hy]
section
variable {p:bS}{op gs gs₁ fs:aP->Bool}{St:Nat->Prop}{W0:aE}{Post:aF->aE->Prop}
def zpC {ops:Array aZ}(K:Jx ops){bO:Array Bool}(hz:bO.size=ops.size)(h:Hj .any ops bO=[]):∀i,i<ops.size->bO.getD i false=true:=by
 intro i
 induction i using zlB with
 |ind i ih=>
  intro hi;obtain⟨o,ho⟩:∃o,ops[i]? =some o:=⟨ops[i],mE hi⟩
  cases hl:bO.getD i false with
  |true=>rfl
  |false=>
   have hm:i∈Hj .any ops bO:=zlr.2 ⟨by
    have Bw:i<bO.size:=aC;simp[Bw] at hl⊢;exact hl,o,ho,λe he hb=>ih e.on (K.bk i o ho e he hb) (by have:=K.bk i o ho e he hb;omega)⟩
   rw[h] at hm;cases hm
end
abbrev xI (Tf:Array aF)(V:Nat->aF):Prop:=∀s,Tf.getD s aA=V s
def Hg (ops:Array aZ)(s:Nat):Bool:=ops.any λo=>o.dst==some s
def X7 (V:Nat->aF)(o:aZ):Value:=match o.dst with|some d=>V d|none=>aA
def zhu {i:Nat}{d:Tmp}(h:ops[i]? =some o)(hd:o.dst=some d):Hg ops d=true:=by
 unfold Hg;rw[Ub];obtain⟨hi,e⟩:=dP.1 h;exact⟨i,hi,by rw[e,hd];simp⟩
section
variable {ops:Array aZ}{Tf:Array aF}{V:Nat->aF}{o og:aZ}{j d:Nat}{want b:Bool}
def eD (h:o.guard=none){y:Nat->Option Bool}:dF o y=true:=by unfold dF;rw[h]
end
def zzd {n:Nat}(h2:(ops.all λo=>match o.dst with|some d=>decide (d<n)|none=>true)=true):∀s,Hg ops s=true->s<n:=by
 intro s hs;unfold Hg at hs;rw[Ub] at hs;obtain⟨i,hi,e⟩:=hs;have h3:=Array.all_eq_true.1 h2 i hi;have e2:ops[i].dst=some s:=by simpa using e
 rw[e2] at h3;simpa using h3
def nN {Tf:Array aF}{V:Nat->aF}(hT:xI Tf V){s:Nat}{v:aF}(hv:V s=v):(bH Tf []).eval (.tmp s)=v:=((hT s).trans hv)
section
variable {p:bS}{ρ:cM->aF}{o:aZ}{w:aE}
variable {A:Option Addr}{t:aM}
def zqJ {x:cM}{n c:Nat}{e:aM}(ho:o.op=.call ⟨.builtin .len,#[x],#[t]⟩)(hu:p.underlying t=some (.slice e))(hx:ρ x=.slice A n c):(aS ρ o).run p w=.ok (.value (.int .i64 n)) w:=by
 have Ni:∀w,(underlying t).run p w=.ok (.slice e) w:=λw=>by simp[underlying,program,bD,bind,x7,pure,hu]
 unfold aS;rw[ho];simp[go_sem,hx,Ni,Builtin.len_,uV]
def zbB {s x:cM}{a b v:aF}{w':aE}(ho:o.op=.call ⟨.builtin .append,#[s,x],#[t,t]⟩)(hs:ρ s=a)(hx:ρ x=b)(hr:(xG #[t,t] o.type #[a,b]).run p w=.ok v w'):(aS ρ o).run p w=.ok (.value v) w':=by
 unfold aS;simp only[ho,resolve,invoke,builtin,Sem.run_bind,Sem.run_pure,Result.andThen_ok,List.map_toArray,fO,List.map_nil,hs,hx,hr]
end
def AllL (Q:Nat->aZ->Prop):Nat->List aZ->Prop
 |_,[]=>True
 |i,o::l=>Q i o/\AllL Q (i+1) l
variable {Q:Nat->aZ->Prop}
def zoe :∀(l:List aZ) (k:Nat),AllL Q k l->∀(i:Nat) (o:aZ),l[i]? =some o->Q (k+i) o
 |[],k,h,i,o,e=>by simp at e
 |x::l,k,h,0,o,e=>by simp at e;subst e;exact h.1
 |x::l,k,h,i+1,o,e=>by
  have:=zoe l (k+1) h.2 i o (by simpa using e);rw[show k+(i+1)=k+1+i by omega];exact this
def Ht {l:List aZ}(hl:ops.toList=l)(h:AllL Q 0 l):∀(i:Nat) (o:aZ),ops[i]? =some o->Q i o:=λi o e=>by
 have:=zoe l 0 h i o (by rw[<-hl,Aw];exact e)
 rwa [qY] at this
def wL (vals:Nat->aF):List (Option Tmp)->Nat->List aF->List aF
 |[],_,t=>t
 |none::l,i,t=>wL vals l (i+1) t
 |some d::l,i,t=>wL vals l (i+1) (t.set d (vals i))
def Al (ops:Array aZ)(vals:Nat->aF)(t0:List aF):dE ops vals t0.toArray=(wL vals (ops.toList.map (·.dst)) 0 t0).toArray:=by
 have key:∀(l:List aZ) (k:Nat) (t:List aF),(∀i,l[i]? =ops[k+i]?)->
  (List.range' k l.length).foldl (λt i=>match(ops[i]?).bind (·.dst) with|some d=>t.setIfInBounds d (vals i)|none=>t) t.toArray=(wL vals (l.map (·.dst)) k t).toArray:=by
  intro l
  induction l with
  |nil=>intro k t _;rfl
  |cons o l ih=>
   intro k t h;have h0:=h 0;simp at h0;rw[pT,List.range'_succ,Qd,<-h0];simp only[vD,fO];have h1:∀i,l[i]? =ops[k+1+i]? :=λi=>by have:=h (i+1);simp at this;rw[this];congr 1;omega
   cases hd:o.dst with
   |none=>exact ih (k+1) t h1
   |some d=>
    simp only[List.setIfInBounds_toArray];exact ih (k+1) _ h1
 have:=key ops.toList 0 t0 (λi=>by simp);unfold dE;rw[List.range_eq_range',<-Array.length_toList];exact this
def Eo (o:aZ)(j:Nat):Bool:=o.after.any λe=>Dz .any e&&e.on==j
def Iy (ops:Array aZ):List Nat->Bool
 |a::b::l=>(match ops[b]? with|some o=>Eo o a|none=>false)&&Iy ops (b::l)
 |[a]=>decide (a<ops.size)
 |[]=>true
def zaO (ops:Array aZ):Nat->aZ->Nat->Bool
 |0,o,j=>Eo o j
 |n+1,o,j=>Eo o j||o.after.any λe=>Dz .any e&&(match ops[e.on]? with|some o'=>zaO ops n o' j|none=>false)
def zax (ops:Array aZ)(ws:List Nat)(i k:Nat):Bool:=
 (ws.take k).all (λj=>match ops[j]? with|some o=>!zaO ops 5 o i|none=>true)&&(ws.drop k).all (λj=>match ops[i]? with|some o=>!Eo o j|none=>true)
inductive bP (P:bS)(ops:Array aZ)(ws:List Nat)(Wd:Nat->aE)(Tf:Array aF)(i:Nat)(o:aZ)(v:aF):Prop
 |no (hn:i∉ws) (h:dF o (dR ops Tf)=false) (hv:v=aA)
 |val (hn:i∉ws) (h:dF o (dR ops Tf)=true) (hx:∀k,k<=ws.length->zax ops ws i k=true->(aS (bH Tf []).eval o).run P (Wd k)=.ok (.value v) (Wd k))
 |act (k:Nat) (hk:ws[k]? =some i) (h:dF o (dR ops Tf)=true) (hx:(aS (bH Tf []).eval o).run P (Wd k)=.ok (.value v) (Wd (k+1)))
 |skp (k:Nat) (hk:ws[k]? =some i) (h:dF o (dR ops Tf)=true) (hv:v=aA) (hx:(aS (bH Tf []).eval o).run P (Wd k)=.ok .skip (Wd (k+1)))
 |actn (k:Nat) (hk:ws[k]? =some i) (h:dF o (dR ops Tf)=true) (hd:o.dst=none) (u:aF) (hx:(aS (bH Tf []).eval o).run P (Wd k)=.ok (.value u) (Wd (k+1)))
section
variable {P:bS}{ops:Array aZ}{ws:List Nat}{Wd:Nat->aE}{Q:Exit->tK->aE->Prop}{t0 Tf:Array aF}{vals:Nat->aF}
structure Js (ops:Array aZ)(ws:List Nat)(bO:Array Bool)(k:Nat):Prop where
 closed:∀(i:Nat) (o:aZ),ops[i]? =some o->bO.getD i false=true->∀j,Eo o j=true->bO.getD j false=true
 le:k<=ws.length
 pre:∀(n i:Nat),ws[n]? =some i->(bO.getD i false=true↔n<k)
def Js.closedT {bO:Array Bool}{k:Nat}(h:Js ops ws bO k):∀(n:Nat) (i:Nat) (o:aZ),ops[i]? =some o->bO.getD i false=true->∀j,zaO ops n o j=true->bO.getD j false=true
 |0,i,o,hi,hl,j,hj=>h.closed i o hi hl j hj
 |n+1,i,o,hi,hl,j,hj=>by
  simp only[zaO,Ey] at hj;rcases hj with hj|hj
  .exact h.closed i o hi hl j hj
  .rw[Ub] at hj
   obtain⟨x,hx,h3⟩:=hj;simp only[fU] at h3;obtain⟨h4,h5⟩:=h3;split at h5
   .next o' vH=>
    refine h.closedT n _ o' vH (h.closed i o hi hl _ ?_) j h5;unfold Eo;rw[Ub];exact⟨x,hx,by simp[h4]⟩
   .cases h5
def zkI:∀{ws:List Nat},Iy ops ws=true->∀(n a b:Nat),ws[n]? =some a->ws[n+1]? =some b->∃o,ops[b]? =some o/\Eo o a=true
 |[],_,n,a,b,h,_=>by simp at h
 |[x],_,n,a,b,h,h'=>by simp at h'
 |x::y::l,hc,0,a,b,h,h'=>by
  simp at h h';subst h h';simp only[Iy,fU] at hc;have:=hc.1;split at this
  .next o e=>exact⟨o,e,this⟩
  .cases this
 |x::y::l,hc,n+1,a,b,h,h'=>by
  simp only[Iy,fU] at hc;exact zkI hc.2 n a b zgM (by simpa using h')
def zpV {l:Array Bool}{i:Nat}(h:l.getD i true=false):l.getD i false=false:=by
 rw[tJ] at h⊢
 cases e:l[i]? with
 |none=>rfl
 |some x=>rw[e] at h;exact h
def Js.keep {bO:Array Bool}{k i:Nat}{o:aZ}(h:Js ops ws bO k)(hi:ops[i]? =some o)(hn:i∉ws)(hd:∀j,Eo o j=true->bO.getD j false=true):Js ops ws (bO.setIfInBounds i true) k:=by
 have mono:∀j,bO.getD j false=true->(bO.setIfInBounds i true).getD j false=true:=λj hj=>by
  by_cases e:j=i
  .subst e
   rw[tJ] at hj⊢
   cases e2:bO[j]? with
   |none=>rw[e2] at hj;cases hj
   |some x=>have:j<bO.size:=(dP.1 e2).1;simp[this]
  .rw[Qk false (Ne.symm e)];exact hj
 refine⟨λa oa ha hl j hj=>?_,h.le,λn a ha=>?_⟩
 .by_cases e:a=i
  .subst e
   rw[hi] at ha;obtain rfl:=cE ha;exact mono j (hd j hj)
  .rw[Qk false (Ne.symm e)] at hl
   exact mono j (h.closed a oa ha hl j hj)
 .have e:a≠i:=λe=>hn (e▸dZ ha)
  rw[Qk false (Ne.symm e)];exact h.pre n a ha
def Js.next {bO:Array Bool}{k n i:Nat}{o:aZ}(lH:ws.Nodup)(hc:Iy ops ws=true)(h:Js ops ws bO k)(hi:ops[i]? =some o)(hz:i<bO.size)(hn:ws[n]? =some i)(hu:bO.getD i false=false)(hd:∀j,Eo o j=true->bO.getD j false=true):
 n=k/\Js ops ws (bO.setIfInBounds i true) (k+1):=by
 have oX:n<ws.length:=(kD.1 hn).1;have hk:n=k:=by
  have h1:¬n<k:=λx=>by have:=(h.pre n i hn).2 x;rw[hu] at this;cases this
  rcases nC k n with x|x
  .exfalso
   obtain⟨m,rfl⟩:∃m,n=m+1:=⟨n-1,aC⟩;obtain⟨a,ha⟩:∃a,ws[m]? =some a:=⟨ws[m],lX aC⟩;obtain⟨o',vH,hw⟩:=zkI hc m a i ha hn;rw[hi] at vH;obtain rfl:=cE vH;have:=(h.pre m a ha).1 (hd a hw);omega
  .omega
 subst hk;have mono:∀j,bO.getD j false=true->(bO.setIfInBounds i true).getD j false=true:=λj hj=>by
  by_cases e:j=i
  .subst e;simp[hz]
  .rw[Qk false (Ne.symm e)];exact hj
 refine⟨rfl,λa oa ha hl j hj=>?_,aC,λm a ha=>?_⟩
 .by_cases e:a=i
  .subst e
   rw[hi] at ha;obtain rfl:=cE ha;exact mono j (hd j hj)
  .rw[Qk false (Ne.symm e)] at hl
   exact mono j (h.closed a oa ha hl j hj)
 .by_cases e:a=i
  .subst e
   have hm:m=n:=by
    have h1:m<ws.length:=(kD.1 ha).1;have e1:=(kD.1 ha).2;have e2:=(kD.1 hn).2;exact(List.getElem_inj lH).1 (e1.trans e2.symm)
   subst hm;simp[hz]
  .have hm:m≠n:=λx=>e (by subst x;rw[hn] at ha;exact(cE ha).symm)
   rw[Qk false (Ne.symm e),h.pre m a ha];omega
def zAd (t:Array aF)(d:List Ew):(bH t d).eval=(bH t []).eval:=by funext x;cases x<;>rfl
def znV (K:Jx ops):∀{ws:List Nat},Iy ops ws=true->∀(n i:Nat),ws[n]? =some i->i<ops.size
 |[],_,n,i,hi=>by simp at hi
 |[a],hc,0,i,hi=>by simp at hi;subst hi;simpa[Iy] using hc
 |[a],hc,n+1,i,hi=>by simp at hi
 |a::b::l,hc,0,i,hi=>by
  simp at hi;subst hi;obtain⟨o,h1,h2⟩:=zkI hc 0 a b rfl rfl;unfold Eo at h2;rw[Ub] at h2;obtain⟨x,hx,h3⟩:=h2;simp only[fU,beq_iff_eq] at h3;have:=K.bk b o h1 _ (zj9 hx) h3.1;have hb:=(dP.1 h1).1;omega
 |a::b::l,hc,n+1,i,hi=>by
  simp only[Iy,fU] at hc;exact znV K hc.2 n i zhe
def zBQ (K:Jx ops)(lH:ws.Nodup)(hc:Iy ops ws=true)(hT:r8 ops vals t0 (nU ops.size true) Tf){d:List Ew}
 (hop:∀(i:Nat) (o:aZ),ops[i]? =some o->bP P ops ws Wd Tf i o (vals i)) (hk:Q .normal ⟨Tf,d⟩ (Wd ws.length)):
 ∀(fuel:Nat) (bO:Array Bool) (t:Array aF) (k:Nat),bO.size=ops.size->((gF ops.size).filter λi=>!bO.getD i false).length<=fuel->r8 ops vals t0 bO t->Js ops ws bO k->
  wpAny P .any ops Q fuel bO ⟨t,d⟩ (Wd k):=by
 have zDm:=znV K hc;have fin:∀(bO:Array Bool) (t:Array aF) (k:Nat),bO.size=ops.size->(∀i,i<ops.size->bO.getD i false=true)->r8 ops vals t0 bO t->Js ops ws bO k->Q .normal ⟨t,d⟩ (Wd k):=by
  intro bO t k hz tF hm aY;have e:bO=nU ops.size true:=by
   apply ze3;intro j;by_cases hj:j<ops.size
   .have:=tF j hj
    have uC:j<bO.size:=aC;simp[uC] at this;simp[hj,uC,this]
   .rw[F7 aC,F7 q8]
  subst e;have e2:=hm.unique hT;subst e2;have e3:k=ws.length:=by
   rcases nC k ws.length with x|x
   .have h1:ws[k]? =some ws[k]:=lX x
    have:=(aY.pre k _ h1).1 (tF _ (zDm k _ h1));omega
   .have:=aY.le;omega
  rw[e3];exact hk
 intro fuel
 induction fuel with
 |zero=>
  intro bO t k hz Zx hm aY;have tF:∀i,i<ops.size->bO.getD i false=true:=λi hi=>by
   cases hl:bO.getD i false with
   |true=>rfl
   |false=>
    have:i∈(gF ops.size).filter λi=>!bO.getD i false:=Jd.2 ⟨Bz.2 hi,by rw[hl];rfl⟩;have:=List.length_pos_of_mem this;omega
  refine⟨?_,fin bO t k hz tF hm aY⟩;apply List.eq_nil_iff_forall_not_mem.2;intro i hi;obtain⟨hu,o,ho,_⟩:=zlr.1 hi;have:=tF i (dP.1 ho).1;rw[zpV hu] at this;cases this
 |succ fuel ih=>
  intro bO t k hz Zx hm aY;refine⟨λhr=>fin bO t k hz (zpC K hz hr) hm aY,λi hi=>?_⟩;obtain⟨hu,o,ho,tV⟩:=zlr.1 hi;have Ni:=zpV hu;have lV:=hm.sees K hT ho tV;have Wl:=hm.step K ho hz hu;have Bw:i<ops.size:=(dP.1 ho).1;have hw:∀j,Eo o j=true->bO.getD j false=true:=λj hj=>by
   unfold Eo at hj;rw[Ub] at hj;obtain⟨x,hx,h3⟩:=hj;simp only[fU,beq_iff_eq] at h3;have:=tV _ (zj9 hx) h3.1
   rwa [h3.2] at this
  have zI4:((gF ops.size).filter λj=>!(bO.setIfInBounds i true).getD j false).length<=fuel:=by
   have aN:((gF ops.size).filter λj=>!(bO.setIfInBounds i true).getD j false).length<((gF ops.size).filter λj=>!bO.getD j false).length:=by
    have e:((gF ops.size).filter λj=>!(bO.setIfInBounds i true).getD j false)=((gF ops.size).filter λj=>!bO.getD j false).filter (λj=>j !=i):=by
     rw[List.filter_filter];apply List.filter_congr;intro j hj;by_cases e:j=i
     .subst e
      have:j<bO.size:=aC;simp[this]
     .rw[Qk false (Ne.symm e)]
      simp[e]
    rw[e];refine List.length_filter_lt_length_iff_exists.2 ⟨i,Jd.2 ⟨Bz.2 Bw,?_⟩,aO⟩;rw[Ni];rfl
   omega
  have put_eq:∀v,(cC ⟨t,d⟩ o.dst v)=⟨(match o.dst with|some s=>t.setIfInBounds s v|none=>t),d⟩:=λv=>by
   unfold cC;cases o.dst<;>rfl
  have goon:∀k',Js ops ws (bO.setIfInBounds i true) k'->wpAny P .any ops Q fuel (bO.setIfInBounds i true) (cC ⟨t,d⟩ o.dst (vals i)) (Wd k'):=λk' Mz=>by
   rw[put_eq];exact ih _ _ k' (by simp[hz]) zI4 Wl Mz
  have mJ:(bH t d).eval=(bH t []).eval:=zAd t d;unfold wpOp;simp only[ho];rcases hop i o ho with⟨hn,h1,h2⟩|⟨hn,h1,h2⟩|⟨n,hn,h1,h2⟩|⟨n,hn,h1,hv,h2⟩|⟨n,hn,h1,hd,u,h2⟩
  .rw[if_neg (by rw[(Vv lV).trans h1];simp),<-h2]
   exact goon k (aY.keep ho hn hw)
  .rw[if_pos ((Vv lV).trans h1)]
   refine .inl ?_;have zHW:zax ops ws i k=true:=by
    unfold zax;rw[fU,tY,tY];refine⟨λj hj=>?_,λj hj=>?_⟩
    .obtain⟨m,yK⟩:=zrG hj
     rw[List.getElem?_take] at yK;split at yK
     .next zee=>
      split
      .next oj hoj=>
       cases hq:zaO ops 5 oj i with
       |false=>rfl
       |true=>
        have:=aY.closedT 5 j oj hoj ((aY.pre m j yK).2 zee) i hq;rw[Ni] at this;cases this
      .rfl
     .cases yK
    .obtain⟨m,yK⟩:=zrG hj
     rw[List.getElem?_drop] at yK;simp only[ho]
     cases hq:Eo o j with
     |false=>rfl
     |true=>
      have:=(aY.pre (k+m) j yK).1 (hw j hq);omega
   show o.upon P ⟨t,d⟩ _ Q ((aS (bH t d).eval o).run P (Wd k));rw[mJ,El (K.sel i o ho) lV,h2 k aY.le zHW];exact goon k (aY.keep ho hn hw)
  .rw[if_pos ((Vv lV).trans h1)]
   refine .inl ?_;obtain⟨rfl,Mz⟩:=aY.next lH hc ho aC hn Ni hw;show o.upon P ⟨t,d⟩ _ Q ((aS (bH t d).eval o).run P (Wd n));rw[mJ,El (K.sel i o ho) lV,h2];exact goon _ Mz
  .rw[if_pos ((Vv lV).trans h1)]
   refine .inl ?_;obtain⟨rfl,Mz⟩:=aY.next lH hc ho aC hn Ni hw;show o.upon P ⟨t,d⟩ _ Q ((aS (bH t d).eval o).run P (Wd n));rw[mJ,El (K.sel i o ho) lV,h2];have:=goon _ Mz;rw[hv] at this;exact this
  .rw[if_pos ((Vv lV).trans h1)]
   refine .inl ?_;obtain⟨rfl,Mz⟩:=aY.next lH hc ho aC hn Ni hw;show o.upon P ⟨t,d⟩ _ Q ((aS (bH t d).eval o).run P (Wd n));rw[mJ,El (K.sel i o ho) lV,h2];have:=goon _ Mz;have e:∀x y,cC ⟨t,d⟩ o.dst x=cC ⟨t,d⟩ o.dst y:=λx y=>by rw[hd];rfl
   rw[e _ u] at this;exact this
def zF7 {id:Nat}{w:aE}{d:List Ew}(hm:P.follows .mixedOrders=true)(bU:I5 ops=true)(lH:ws.Nodup)(hc:Iy ops ws=true)(h0:Wd 0={w with drawn:=w.drawn+1})(hT:dE ops vals t0=Tf)
 (hop:∀(i:Nat) (o:aZ),ops[i]? =some o->bP P ops ws Wd Tf i o (vals i)) (hk:Q .normal ⟨Tf,d⟩ (Wd ws.length)):(Code.region id ops true).wp P Q ⟨t0,d⟩ w:=by
 refine wp_region_any hm ?_;have K:=Uv bU;subst hT;rw[<-h0];refine zBQ K lH hc (Sz K) hop hk ops.size _ t0 0 aO (eG (zb5 _ _) aO) (r8.start _ λi=>by by_cases hi:i<ops.size<;>simp[hi]) ⟨λi o _ hl=>?_,jT _,λn i hn=>?_⟩
 .exfalso
  by_cases hi:i<ops.size<;>simp[hi] at hl
 .constructor
  .intro hl
   exfalso;by_cases hi:i<ops.size<;>simp[hi] at hl
  .intro x;omega
def H8 {id:Nat}{w:aE}{d:List Ew}(hm:P.follows .mixedOrders=true)(bU:I5 ops=true)(lH:ws.Nodup)(hc:Iy ops ws=true)(h0:Wd 0={w with drawn:=w.drawn+1})(cG:∀s,Hg ops s=true->s<t0.size)
 (h:∀V:Nat->aF,(∀(i:Nat) (o:aZ) (d:Tmp),ops[i]? =some o->o.dst=some d->V d=vals i)->(∀s,Hg ops s=false->V s=t0.getD s aA)->
  ∀Tf,xI Tf V->∀(i:Nat) (o:aZ),ops[i]? =some o->bP P ops ws Wd Tf i o (X7 V o)) (hk:Q .normal ⟨dE ops vals t0,d⟩ (Wd ws.length)):(Code.region id ops true).wp P Q ⟨t0,d⟩ w:=by
 have K:=Uv bU;have M:=Sz (vals:=vals) (t0:=t0) K
 let Tf:=dE ops vals t0
 have zjK:∀(i:Nat) (o:aZ) (d:Tmp),ops[i]? =some o->o.dst=some d->Tf.getD d aA=vals i:=λi o d h1 h2=>by
  have Bw:=(dP.1 h1).1;rw[tJ,M.got i o d h1 h2 (cG d (zhu h1 h2)) (by simp[Bw])];rfl
 have zuw:∀s,Hg ops s=false->Tf.getD s aA=t0.getD s undef:=λs hs=>by
  rw[tJ,M.old s (λi o h1 _ h2=>by rw[zhu h1 h2] at hs;cases hs),tJ]
 have hop:=h (λs=>Tf.getD s aA) zjK zuw Tf (λs=>rfl)
 let Y9:Nat->Value:=λi=>match ops[i]? with|some o=>X7 (λs=>Tf.getD s aA) o|none=>aA
 have e:dE ops Y9 t0=dE ops vals t0:=by
  refine(Sz (vals:=Y9) K).unique ⟨M.size,λi o d h1 h2 h3 h4=>?_,M.old⟩;rw[M.got i o d h1 h2 h3 h4];show some (vals i)=some (match ops[i]? with|some o=>X7 (λs=>Tf.getD s aA) o|none=>aA);rw[h1];simp only[X7,h2];rw[zjK i o d h1 h2]
 refine zF7 hm bU lH hc h0 e (λi o h1=>?_) hk;have e2:Y9 i=X7 (λs=>Tf.getD s aA) o:=by
  show(match ops[i]? with|some o=>X7 (λs=>Tf.getD s aA) o|none=>aA)=_;rw[h1]
 rw[e2];exact hop i o h1
end
end Go.Mt
namespace Go.Mt
open Go.Conc Go.Tt Go.RowKit
section
variable {P:bS}{ops:Array aZ}{ws:List Nat}{Wd:Nat->aE}{Tf:Array aF}{V:Nat->aF}{i d:Nat}{o:aZ}{v:aF}
def bP.pv (hn:i∉ws:=by decide)(h:dF o (dR ops Tf)=true:=by exact eD rfl)(hv:V d=v:=by assumption)
 (hx:∀w,(aS (bH Tf []).eval o).run P w=.ok (.value v) w:=by intro w;unfold execOp;go_simp):bP P ops ws Wd Tf i o (V d):=hv▸ .val hn h λ_ _ _=>hx _
def early (ops:Array aZ)(ws:List Nat)(i:Nat):Bool:=(gF ws.length).all λk=>!zax ops ws i (k+1)
def bP.ld {w0:aE}(h0:Wd 0=w0:=by assumption)(hn:i∉ws:=by decide)(h:dF o (dR ops Tf)=true:=by exact eD rfl)(hv:V d=v:=by assumption)(hm:early ops ws i=true:=by decide+kernel)
 (hx:(aS (bH Tf []).eval o).run P w0=.ok (.value v) w0:=by unfold execOp;go_simp):bP P ops ws Wd Tf i o (V d):=hv▸ .val hn h λk hk zee=>by
 rcases k with _|k
 .rw[h0];exact hx
 .have:=tY.1 hm k (Bz.2 aC)
  rw[zee] at this;cases this
def bP.any (hx:∀k,k<=ws.length->zax ops ws i k=true->(aS (bH Tf []).eval o).run P (Wd k)=.ok (.value v) (Wd k))(hn:i∉ws:=by decide)(h:dF o (dR ops Tf)=true:=by exact eD rfl)(hv:V d=v:=by assumption):bP P ops ws Wd Tf i o (V d):=
 hv▸ .val hn h hx
def zipV (V:Nat->aF):List (Option Nat)->List aF->Prop
 |some d::D,v::l=>V d=v/\zipV V D l
 |none::D,_::l=>zipV V D l
 |_,_=>True
def zmE:∀(D:List (Option Nat)) (l:List aF),(∀(i:Nat) (d:Nat),D[i]? =some (some d)->i<l.length->V d=l.getD i aA)->zipV V D l
 |some d::D,v::l,h=>⟨h 0 d rfl aO,zmE D l λi d' e hi=>by simpa using h (i+1) d' (by simpa using e) zhe⟩
 |none::D,_::l,h=>zmE D l λi d' e hi=>by simpa using h (i+1) d' (by simpa using e) zhe
 |[],_,_=>trivial
 |some _::_,[],_=>trivial
 |none::_,[],_=>trivial
def Ib {l:List aF}{D:List (Option Nat)}(hD:ops.toList.map (·.dst)=D)(hU:∀(i:Nat) (o:aZ) (d:Tmp),ops[i]? =some o->o.dst=some d->V d=l.getD i aA):zipV V D l:=
 zmE D l λi d e _=>by
  rw[<-hD,List.getElem?_map] at e;obtain⟨o,h1,h2⟩:=xK.1 e;exact hU i o d (by rw[<-Aw];exact h1) h2
end
end Go.Mt
namespace Go.Proofs.YtfcjiloojkjaeaaGreatDoor
open Go.RowKit Go.Mt Go.Conc Go.Tt Go.Maps
def bodyRG:Go.Code:=(Tryz.f63.body).getD .skip
def rRG7:Go.Code:=match bodyRG with| .seq _ (.seq _ (.seq _ (.seq (a) _)))=>a|_=>.skip
def zfF:Array Oper:=match rRG7 with| .region _ ops _=>ops|_=>#[]
def zx4:zfF.toList=[⟨some 36,.fieldAddr 59 (.tmp 2) 2,0,"l6_office.go:151",#[],none⟩,⟨some 37,.load 45 (.tmp 36),45,"l6_office.go:151",#[⟨0,.data⟩],none⟩,⟨some 38,.fieldAddr 100 (.tmp 3) 0,0,"l6_office.go:151",#[],none⟩,⟨some 39,.load 3 (.tmp 38),3,"l6_office.go:151",#[⟨2,.data⟩],none⟩,⟨some 40,.move (.tmp 6),38,"l6_office.go:151",#[],none⟩,⟨some 41,.indexAddr 38 (.tmp 40) (.const (.int .i64 0)),0,"l6_office.go:151",#[⟨4,.data⟩],none⟩,⟨some 42,.load 3 (.tmp 41),3,"l6_office.go:151",#[⟨5,.data⟩],none⟩,⟨some 43,.fieldAddr 59 (.tmp 2) 1,0,"l6_office.go:151",#[],none⟩,⟨some 44,.load 3 (.tmp 43),3,"l6_office.go:151",#[⟨7,.data⟩],none⟩,⟨some 45,.build 50 #[(0,.tmp 39),(1,.tmp 42),(3,.tmp 44),(4,.const (.int .i64 (-1))),(5,.const (.int .i64 (-1))),(6,.const (.string {data:=#[111,112,101,110]}))],50,"l6_office.go:151",#[⟨3,.data⟩,⟨6,.data⟩,⟨8,.data⟩],none⟩,⟨some 46,.buildSlice 45 1 #[(0,.tmp 45)],45,"l6_office.go:151",#[⟨9,.data⟩],none⟩,⟨some 47,.call ⟨.builtin .append,#[.tmp 37,.tmp 46],#[45,45]⟩,45,"l6_office.go:151",#[⟨1,.data⟩,⟨10,.data⟩],none⟩,⟨some 48,.fieldAddr 59 (.tmp 2) 2,0,"l6_office.go:151",#[⟨0,.phase⟩,⟨1,.phase⟩,⟨2,.phase⟩,⟨3,.phase⟩,⟨4,.phase⟩,⟨5,.phase⟩,⟨6,.phase⟩,⟨7,.phase⟩,⟨8,.phase⟩,⟨9,.phase⟩,⟨10,.phase⟩,⟨11,.phase⟩],none⟩,⟨none,.store 45 (.tmp 48) (.tmp 47),0,"l6_office.go:151",#[⟨12,.data⟩,⟨11,.data⟩,⟨11,.chain⟩,⟨0,.phase⟩,⟨1,.phase⟩,⟨2,.phase⟩,⟨3,.phase⟩,⟨4,.phase⟩,⟨5,.phase⟩,⟨6,.phase⟩,⟨7,.phase⟩,⟨8,.phase⟩,⟨9,.phase⟩,⟨10,.phase⟩,⟨11,.phase⟩],none⟩]:=rfl
def WRG7 (w w3:aE)(gb gf gR nR cR g1 c1 nf cf:Nat)(cc l clk:Int):Nat->aE
 |0=>w.drew
 |1=>(w.alloc (.cells #[.int .i64 cc,.int .i64 l,.int .i64 0,.int .i64 clk,.int .i64 (-1),.int .i64 (-1),.string eU] 50)).drew
 |2=>w3
 |_=>w3.setCell ⟨gb,4,none⟩ (.slice (some ⟨g1,0,none⟩) (nR+1) c1)
def zqg:zfF.toList.map (·.dst)=[some 36,some 37,some 38,some 39,some 40,some 41,some 42,some 43,some 44,some 45,some 46,some 47,some 48,none]:=by rw[zx4];rfl
def lRG7 (w w3:aE)(gb gf gR nR cR g1 c1 nf cf:Nat)(cc l clk:Int):List Value:=[.pointer (some ⟨gb,4,none⟩),.slice (some ⟨gR,0,none⟩) nR cR,.pointer (some ⟨gb+1,0,none⟩),.int .i64 (cc),.slice (some ⟨gf,0,none⟩) nf cf,.pointer (some ⟨gf,0,none⟩),.int .i64 (l),.pointer (some ⟨gb,3,none⟩),.int .i64 (clk),.agg #[.int .i64 cc,.int .i64 l,.int .i64 0,.int .i64 clk,.int .i64 (-1),.int .i64 (-1),.string eU],.slice (some ⟨w.heap.size,0,none⟩) 1 1,.slice (some ⟨g1,0,none⟩) (nR+1) c1,.pointer (some ⟨gb,4,none⟩),aA]
def fRG7 (w w3:aE)(gb gf gR nR cR g1 c1 nf cf:Nat)(cc l clk:Int)(i:Nat):Value:=(lRG7 w w3 gb gf gR nR cR g1 c1 nf cf cc l clk).getD i aA
variable {Q:Exit->tK->aE->Prop}{d:List Ew}{t0:Array aF}
def wp_RG7 (w w3:aE)(gb gf gR nR cR g1 c1 nf cf:Nat)(cc l clk:Int)(hz:t0.size=60)(U7:t0.getD 2 aA=.pointer (some ⟨gb,0,none⟩))(zhN:t0.getD 3 aA=.pointer (some ⟨gb+1,0,none⟩))(zb1:t0.getD 6 aA=.slice (some ⟨gf,0,none⟩) nf cf)(h3:w.cell? ⟨gb,3,none⟩=some (.int .i64 clk))(h4:w.cell? ⟨gb,4,none⟩=some (.slice (some ⟨gR,0,none⟩) nR cR))(hq:w.cell? ⟨gb+1,0,none⟩=some (.int .i64 cc))(hf:w.cell? ⟨gf,0,none⟩=some (.int .i64 l))(Fh:0<nf)(fR:(xG #[45,45] 45 #[.slice (some ⟨gR,0,none⟩) nR cR,.slice (some ⟨w.heap.size,0,none⟩) 1 1]).run aK ((w.alloc (.cells #[.int .i64 cc,.int .i64 l,.int .i64 0,.int .i64 clk,.int .i64 (-1),.int .i64 (-1),.string eU] 50)).drew)=.ok (.slice (some ⟨g1,0,none⟩) (nR+1) c1) w3)(aY:w3.cell? ⟨gb,4,none⟩=some (.slice (some ⟨gR,0,none⟩) nR cR))(mY:w3.frozen? ⟨gb,4,none⟩=false)(h0:WRG7 w w3 gb gf gR nR cR g1 c1 nf cf cc l clk 0=w.drew)(hk:Q .normal ⟨dE zfF (fRG7 w w3 gb gf gR nR cR g1 c1 nf cf cc l clk) t0,d⟩ (w3.setCell ⟨gb,4,none⟩ (.slice (some ⟨g1,0,none⟩) (nR+1) c1))):
 (Ep 7 zfF true).wp aK Q ⟨t0,d⟩ w:=by
 refine H8 (ws:=[10,11,13]) (Wd:=WRG7 w w3 gb gf gR nR cR g1 c1 nf cf cc l clk) (vals:=fRG7 w w3 gb gf gR nR cR g1 c1 nf cf cc l clk) vK.mixed aQ aH aQ h0 Hv (λV hU hV=>?_) hk;obtain⟨zBp,zwq,zxE,zhz,zlJ,zxs,zs7,zhQ,zp3,zkY,X8,zbQ,znE,-⟩:=Ib zqg hU;have e2:=(hV 2 aQ).trans U7;have e3:=(hV 3 aQ).trans zhN;have e6:=(hV 6 aQ).trans zb1;have zgW:=h3;have K8:=h4;have Pp:=hq;have Az:=hf;refine λTf hT=>Ht zx4 ⟨bP.pv,bP.any (λkk fS hm=>?_),bP.pv,bP.ld,bP.pv,bP.any (λkk fS hm=>?_),bP.ld,bP.pv,bP.ld,bP.any (λkk fS hm=>?_),bP.act (v:=V 46) 0 rfl (eD rfl) ?_,bP.act (v:=V 47) 1 rfl (eD rfl) ?_,bP.pv,.skp 2 rfl (eD rfl) rfl ?_,trivial⟩
 .rcases kk with _|_|_|_|kk
  .show(aS _ _).run _ (w.drew)=vZ _ (w.drew);have hh:=h4;unfold aS;go_simp
  .show(aS _ _).run _ ((w.alloc (.cells #[.int .i64 cc,.int .i64 l,.int .i64 0,.int .i64 clk,.int .i64 (-1),.int .i64 (-1),.string eU] 50)).drew)=vZ _ ((w.alloc (.cells #[.int .i64 cc,.int .i64 l,.int .i64 0,.int .i64 clk,.int .i64 (-1),.int .i64 (-1),.string eU] 50)).drew);have hh:=Ae h4 (.cells #[.int .i64 cc,.int .i64 l,.int .i64 0,.int .i64 clk,.int .i64 (-1),.int .i64 (-1),.string eU] 50);unfold aS;go_simp
  .exact absurd hm Gv
  .exact absurd hm Gv
  .simp at fS
 .have aT:nf≠0:=by have:=Fh;omega
  unfold aS;go_simp
 .unfold aS;go_simp;rfl
 .rw[X8];show(aS _ _).run _ (w.drew)=vZ _ ((w.alloc (.cells #[.int .i64 cc,.int .i64 l,.int .i64 0,.int .i64 clk,.int .i64 (-1),.int .i64 (-1),.string eU] 50)).drew);unfold aS;go_simp
 .rw[zbQ];exact zbB rfl (nN hT zwq) (nN hT X8) fR
 .have hs:=aY;have hf:=mY;show(aS _ _).run _ (w3)=vZ _ (w3.setCell ⟨gb,4,none⟩ (.slice (some ⟨g1,0,none⟩) (nR+1) c1));unfold aS;go_simp
def bodyRU:Go.Code:=(Tryz.f65.body).getD .skip
def rRU10:Go.Code:=match bodyRU with| .seq _ (.seq _ (.seq _ (.seq _ (.seq _ (.seq (a) _)))))=>a|_=>.skip
def zhi:Array Oper:=match rRU10 with| .region _ ops _=>ops|_=>#[]
def zub:zhi.toList=[⟨some 38,.fieldAddr 59 (.tmp 2) 2,0,"l6_office.go:185",#[],none⟩,⟨some 39,.load 45 (.tmp 38),45,"l6_office.go:185",#[⟨0,.data⟩],none⟩,⟨some 40,.fieldAddr 100 (.tmp 7) 0,0,"l6_office.go:185",#[],none⟩,⟨some 41,.load 3 (.tmp 40),3,"l6_office.go:185",#[⟨2,.data⟩],none⟩,⟨some 42,.move (.tmp 6),38,"l6_office.go:185",#[],none⟩,⟨some 43,.indexAddr 38 (.tmp 42) (.const (.int .i64 0)),0,"l6_office.go:185",#[⟨4,.data⟩],none⟩,⟨some 44,.load 3 (.tmp 43),3,"l6_office.go:185",#[⟨5,.data⟩],none⟩,⟨some 45,.move (.tmp 1),3,"l6_office.go:185",#[],none⟩,⟨some 46,.fieldAddr 59 (.tmp 2) 1,0,"l6_office.go:185",#[],none⟩,⟨some 47,.load 3 (.tmp 46),3,"l6_office.go:185",#[⟨8,.data⟩],none⟩,⟨some 48,.fieldAddr 59 (.tmp 2) 1,0,"l6_office.go:185",#[],none⟩,⟨some 49,.load 3 (.tmp 48),3,"l6_office.go:185",#[⟨10,.data⟩],none⟩,⟨some 50,.build 50 #[(0,.tmp 41),(1,.tmp 44),(2,.tmp 45),(3,.tmp 47),(4,.tmp 49),(5,.const (.int .i64 (-1))),(6,.const (.string {data:=#[111,112,101,110]}))],50,"l6_office.go:185",#[⟨3,.data⟩,⟨6,.data⟩,⟨7,.data⟩,⟨9,.data⟩,⟨11,.data⟩],none⟩,⟨some 51,.buildSlice 45 1 #[(0,.tmp 50)],45,"l6_office.go:185",#[⟨12,.data⟩],none⟩,⟨some 52,.call ⟨.builtin .append,#[.tmp 39,.tmp 51],#[45,45]⟩,45,"l6_office.go:185",#[⟨1,.data⟩,⟨13,.data⟩],none⟩,⟨some 53,.fieldAddr 59 (.tmp 2) 2,0,"l6_office.go:185",#[⟨0,.phase⟩,⟨1,.phase⟩,⟨2,.phase⟩,⟨3,.phase⟩,⟨4,.phase⟩,⟨5,.phase⟩,⟨6,.phase⟩,⟨7,.phase⟩,⟨8,.phase⟩,⟨9,.phase⟩,⟨10,.phase⟩,⟨11,.phase⟩,⟨12,.phase⟩,⟨13,.phase⟩,⟨14,.phase⟩],none⟩,⟨none,.store 45 (.tmp 53) (.tmp 52),0,"l6_office.go:185",#[⟨15,.data⟩,⟨14,.data⟩,⟨14,.chain⟩,⟨0,.phase⟩,⟨1,.phase⟩,⟨2,.phase⟩,⟨3,.phase⟩,⟨4,.phase⟩,⟨5,.phase⟩,⟨6,.phase⟩,⟨7,.phase⟩,⟨8,.phase⟩,⟨9,.phase⟩,⟨10,.phase⟩,⟨11,.phase⟩,⟨12,.phase⟩,⟨13,.phase⟩,⟨14,.phase⟩],none⟩]:=rfl
def WRU10 (w w3:aE)(gb gc gf gR nR cR g1 c1 nf cf:Nat)(cc l op clk:Int):Nat->aE
 |0=>w.drew
 |1=>(w.alloc (.cells #[.int .i64 cc,.int .i64 l,.int .i64 op,.int .i64 clk,.int .i64 clk,.int .i64 (-1),.string eU] 50)).drew
 |2=>w3
 |_=>w3.setCell ⟨gb,4,none⟩ (.slice (some ⟨g1,0,none⟩) (nR+1) c1)
def zxT:zhi.toList.map (·.dst)=[some 38,some 39,some 40,some 41,some 42,some 43,some 44,some 45,some 46,some 47,some 48,some 49,some 50,some 51,some 52,some 53,none]:=by rw[zub];rfl
def lRU10 (w w3:aE)(gb gc gf gR nR cR g1 c1 nf cf:Nat)(cc l op clk:Int):List Value:=[.pointer (some ⟨gb,4,none⟩),.slice (some ⟨gR,0,none⟩) nR cR,.pointer (some ⟨gc,0,none⟩),.int .i64 (cc),.slice (some ⟨gf,0,none⟩) nf cf,.pointer (some ⟨gf,0,none⟩),.int .i64 (l),.int .i64 (op),.pointer (some ⟨gb,3,none⟩),.int .i64 (clk),.pointer (some ⟨gb,3,none⟩),.int .i64 (clk),.agg #[.int .i64 cc,.int .i64 l,.int .i64 op,.int .i64 clk,.int .i64 clk,.int .i64 (-1),.string eU],.slice (some ⟨w.heap.size,0,none⟩) 1 1,.slice (some ⟨g1,0,none⟩) (nR+1) c1,.pointer (some ⟨gb,4,none⟩),aA]
def zk5 (w w3:aE)(gb gc gf gR nR cR g1 c1 nf cf:Nat)(cc l op clk:Int)(i:Nat):Value:=(lRU10 w w3 gb gc gf gR nR cR g1 c1 nf cf cc l op clk).getD i aA
def wp_RU10 (w w3:aE)(gb gc gf gR nR cR g1 c1 nf cf:Nat)(cc l op clk:Int)(hz:t0.size=59)(Ei:t0.getD 1 aA=.int .i64 (op))(U7:t0.getD 2 aA=.pointer (some ⟨gb,0,none⟩))(zb1:t0.getD 6 aA=.slice (some ⟨gf,0,none⟩) nf cf)(Es:t0.getD 7 aA=.pointer (some ⟨gc,0,none⟩))(h3:w.cell? ⟨gb,3,none⟩=some (.int .i64 clk))(h4:w.cell? ⟨gb,4,none⟩=some (.slice (some ⟨gR,0,none⟩) nR cR))(hq:w.cell? ⟨gc,0,none⟩=some (.int .i64 cc))(hf:w.cell? ⟨gf,0,none⟩=some (.int .i64 l))(Fh:0<nf)(fR:(xG #[45,45] 45 #[.slice (some ⟨gR,0,none⟩) nR cR,.slice (some ⟨w.heap.size,0,none⟩) 1 1]).run aK ((w.alloc (.cells #[.int .i64 cc,.int .i64 l,.int .i64 op,.int .i64 clk,.int .i64 clk,.int .i64 (-1),.string eU] 50)).drew)=.ok (.slice (some ⟨g1,0,none⟩) (nR+1) c1) w3)(aY:w3.cell? ⟨gb,4,none⟩=some (.slice (some ⟨gR,0,none⟩) nR cR))(mY:w3.frozen? ⟨gb,4,none⟩=false)(h0:WRU10 w w3 gb gc gf gR nR cR g1 c1 nf cf cc l op clk 0=w.drew)(hk:Q .normal ⟨dE zhi (zk5 w w3 gb gc gf gR nR cR g1 c1 nf cf cc l op clk) t0,d⟩ (w3.setCell ⟨gb,4,none⟩ (.slice (some ⟨g1,0,none⟩) (nR+1) c1))):
 (Ep 10 zhi true).wp aK Q ⟨t0,d⟩ w:=by
 refine H8 (ws:=[13,14,16]) (Wd:=WRU10 w w3 gb gc gf gR nR cR g1 c1 nf cf cc l op clk) (vals:=zk5 w w3 gb gc gf gR nR cR g1 c1 nf cf cc l op clk) vK.mixed aQ aH aQ h0 Hv (λV hU hV=>?_) hk;obtain⟨zxE,zhz,zlJ,zxs,zs7,zhQ,zp3,zkY,X8,zbQ,znE,Xm,zfP,Vn,Vt,zki,-⟩:=Ib zxT hU;have e1:=(hV 1 aQ).trans Ei;have e2:=(hV 2 aQ).trans U7;have e6:=(hV 6 aQ).trans zb1;have e7:=(hV 7 aQ).trans Es;have zgW:=h3;have K8:=h4;have Pp:=hq;have Az:=hf;refine λTf hT=>Ht zub ⟨bP.pv,bP.any (λkk fS hm=>?_),bP.pv,bP.ld,bP.pv,bP.any (λkk fS hm=>?_),bP.ld,bP.pv,bP.pv,bP.ld,bP.pv,bP.ld,bP.any (λkk fS hm=>?_),bP.act (v:=V 51) 0 rfl (eD rfl) ?_,bP.act (v:=V 52) 1 rfl (eD rfl) ?_,bP.pv,.skp 2 rfl (eD rfl) rfl ?_,trivial⟩
 .rcases kk with _|_|_|_|kk
  .show(aS _ _).run _ (w.drew)=vZ _ (w.drew);have hh:=h4;unfold aS;go_simp
  .show(aS _ _).run _ ((w.alloc (.cells #[.int .i64 cc,.int .i64 l,.int .i64 op,.int .i64 clk,.int .i64 clk,.int .i64 (-1),.string eU] 50)).drew)=vZ _ ((w.alloc (.cells #[.int .i64 cc,.int .i64 l,.int .i64 op,.int .i64 clk,.int .i64 clk,.int .i64 (-1),.string eU] 50)).drew);have hh:=Ae h4 (.cells #[.int .i64 cc,.int .i64 l,.int .i64 op,.int .i64 clk,.int .i64 clk,.int .i64 (-1),.string eU] 50);unfold aS;go_simp
  .exact absurd hm Gv
  .exact absurd hm Gv
  .simp at fS
 .have aT:nf≠0:=by have:=Fh;omega
  unfold aS;go_simp
 .unfold aS;go_simp;rfl
 .rw[Vn];show(aS _ _).run _ (w.drew)=vZ _ ((w.alloc (.cells #[.int .i64 cc,.int .i64 l,.int .i64 op,.int .i64 clk,.int .i64 clk,.int .i64 (-1),.string eU] 50)).drew);unfold aS;go_simp
 .rw[Vt];exact zbB rfl (nN hT zhz) (nN hT Vn) fR
 .have hs:=aY;have hf:=mY;show(aS _ _).run _ (w3)=vZ _ (w3.setCell ⟨gb,4,none⟩ (.slice (some ⟨g1,0,none⟩) (nR+1) c1));unfold aS;go_simp
def bodyWT:Go.Code:=(Tryz.f67.body).getD .skip
def rWT10:Go.Code:=match bodyWT with| .seq _ (.seq _ (.seq _ (.seq _ (.seq (.seq _ (.block _ (.loop (.seq _ (.seq (.block _ (.seq _ (.seq _ (.cond _ (.seq _ (.seq (a) _)) _)))) _))))) _))))=>a|_=>.skip
def zeU:Array Oper:=match rWT10 with| .region _ ops _=>ops|_=>#[]
def zsC:zeU.toList=[⟨some 51,.fieldAddr 59 (.tmp 2) 4,0,"l6_office.go:213",#[],none⟩,⟨some 52,.load 57 (.tmp 51),57,"l6_office.go:213",#[⟨0,.data⟩],none⟩,⟨some 53,.move (.tmp 7),57,"l6_office.go:213",#[],none⟩,⟨some 54,.move (.tmp 8),3,"l6_office.go:213",#[],none⟩,⟨some 55,.indexAddr 57 (.tmp 53) (.tmp 54),0,"l6_office.go:213",#[⟨2,.data⟩,⟨3,.data⟩],none⟩,⟨some 56,.load 100 (.tmp 55),100,"l6_office.go:213",#[⟨4,.data⟩],none⟩,⟨some 57,.buildSlice 57 1 #[(0,.tmp 56)],57,"l6_office.go:213",#[⟨5,.data⟩],none⟩,⟨some 58,.call ⟨.builtin .append,#[.tmp 52,.tmp 57],#[57,57]⟩,57,"l6_office.go:213",#[⟨1,.data⟩,⟨6,.data⟩],none⟩,⟨some 59,.fieldAddr 59 (.tmp 2) 4,0,"l6_office.go:213",#[⟨0,.phase⟩,⟨1,.phase⟩,⟨2,.phase⟩,⟨3,.phase⟩,⟨4,.phase⟩,⟨5,.phase⟩,⟨6,.phase⟩,⟨7,.phase⟩],none⟩,⟨none,.store 57 (.tmp 59) (.tmp 58),0,"l6_office.go:213",#[⟨8,.data⟩,⟨7,.data⟩,⟨7,.chain⟩,⟨0,.phase⟩,⟨1,.phase⟩,⟨2,.phase⟩,⟨3,.phase⟩,⟨4,.phase⟩,⟨5,.phase⟩,⟨6,.phase⟩,⟨7,.phase⟩],none⟩]:=rfl
def WWT10 (w w3:aE)(gb gW nW cW gB nB cB g1 c1 k:Nat)(xc xp:Int):Nat->aE
 |0=>w.drew
 |1=>(w.alloc (.cells #[.int .i64 xc,.int .i64 xp] 100)).drew
 |2=>w3
 |_=>w3.setCell ⟨gb,6,none⟩ (.slice (some ⟨g1,0,none⟩) (nB+1) c1)
def zql:zeU.toList.map (·.dst)=[some 51,some 52,some 53,some 54,some 55,some 56,some 57,some 58,some 59,none]:=by rw[zsC];rfl
def lWT10 (w w3:aE)(gb gW nW cW gB nB cB g1 c1 k:Nat)(xc xp:Int):List Value:=[.pointer (some ⟨gb,6,none⟩),.slice (some ⟨gB,0,none⟩) nB cB,.slice (some ⟨gW,0,none⟩) nW cW,.int .i64 (k:Int),.pointer (some ⟨gW,k*2,none⟩),.agg #[.int .i64 xc,.int .i64 xp],.slice (some ⟨w.heap.size,0,none⟩) 1 1,.slice (some ⟨g1,0,none⟩) (nB+1) c1,.pointer (some ⟨gb,6,none⟩),aA]
def zhU (w w3:aE)(gb gW nW cW gB nB cB g1 c1 k:Nat)(xc xp:Int)(i:Nat):Value:=(lWT10 w w3 gb gW nW cW gB nB cB g1 c1 k xc xp).getD i aA
def wp_WT10 (w w3:aE)(gb gW nW cW gB nB cB g1 c1 k:Nat)(xc xp:Int)(hz:t0.size=71)(U7:t0.getD 2 aA=.pointer (some ⟨gb,0,none⟩))(Es:t0.getD 7 aA=.slice (some ⟨gW,0,none⟩) nW cW)(zkg:t0.getD 8 aA=.int .i64 (k:Int))(h6:w.cell? ⟨gb,6,none⟩=some (.slice (some ⟨gB,0,none⟩) nB cB))(tE:w.cell? ⟨gW,k*2,none⟩=some (.int .i64 xc))(D5:w.cell? ⟨gW,k*2+1,none⟩=some (.int .i64 xp))(sX:k<nW)(fR:(xG #[57,57] 57 #[.slice (some ⟨gB,0,none⟩) nB cB,.slice (some ⟨w.heap.size,0,none⟩) 1 1]).run aK ((w.alloc (.cells #[.int .i64 xc,.int .i64 xp] 100)).drew)=.ok (.slice (some ⟨g1,0,none⟩) (nB+1) c1) w3)(aY:w3.cell? ⟨gb,6,none⟩=some (.slice (some ⟨gB,0,none⟩) nB cB))(mY:w3.frozen? ⟨gb,6,none⟩=false)(h0:WWT10 w w3 gb gW nW cW gB nB cB g1 c1 k xc xp 0=w.drew)(hk:Q .normal ⟨dE zeU (zhU w w3 gb gW nW cW gB nB cB g1 c1 k xc xp) t0,d⟩ (w3.setCell ⟨gb,6,none⟩ (.slice (some ⟨g1,0,none⟩) (nB+1) c1))):
 (Ep 10 zeU true).wp aK Q ⟨t0,d⟩ w:=by
 refine H8 (ws:=[6,7,9]) (Wd:=WWT10 w w3 gb gW nW cW gB nB cB g1 c1 k xc xp) (vals:=zhU w w3 gb gW nW cW gB nB cB g1 c1 k xc xp) vK.mixed aQ aH aQ h0 Hv (λV hU hV=>?_) hk;obtain⟨Vn,Vt,zki,zro,zK0,zMS,zt2,zw3,zEk,-⟩:=Ib zql hU;have e2:=(hV 2 aQ).trans U7;have e7:=(hV 7 aQ).trans Es;have e8:=(hV 8 aQ).trans zkg;have zKC:=h6;have zLS:=tE;have zLb:=D5;refine λTf hT=>Ht zsC ⟨bP.pv,bP.any (λkk fS hm=>?_),bP.pv,bP.pv,bP.any (λkk fS hm=>?_),bP.ld,bP.act (v:=V 57) 0 rfl (eD rfl) ?_,bP.act (v:=V 58) 1 rfl (eD rfl) ?_,bP.pv,.skp 2 rfl (eD rfl) rfl ?_,trivial⟩
 .rcases kk with _|_|_|_|kk
  .show(aS _ _).run _ (w.drew)=vZ _ (w.drew);have hh:=h6;unfold aS;go_simp
  .show(aS _ _).run _ ((w.alloc (.cells #[.int .i64 xc,.int .i64 xp] 100)).drew)=vZ _ ((w.alloc (.cells #[.int .i64 xc,.int .i64 xp] 100)).drew);have hh:=Ae h6 (.cells #[.int .i64 xc,.int .i64 xp] 100);unfold aS;go_simp
  .exact absurd hm Gv
  .exact absurd hm Gv
  .simp at fS
 .have i0:(0:Int)<=(k:Int):=aC
  have i1:(k:Int)<(nW:Int):=by have:=sX;omega
  unfold aS;go_simp
 .rw[zt2];show(aS _ _).run _ (w.drew)=vZ _ ((w.alloc (.cells #[.int .i64 xc,.int .i64 xp] 100)).drew);unfold aS;go_simp
 .rw[zw3];exact zbB rfl (nN hT Vt) (nN hT zt2) fR
 .have hs:=aY;have hf:=mY;show(aS _ _).run _ (w3)=vZ _ (w3.setCell ⟨gb,6,none⟩ (.slice (some ⟨g1,0,none⟩) (nB+1) c1));unfold aS;go_simp
end Go.Proofs.YtfcjiloojkjaeaaGreatDoor
namespace Go.Proofs.YtfcjiloojkjaeaaGreatDoor
open Go.RowKit
def Ya (lo:Nat)(v:fL)(w:aE)(bt:bX×List UInt8)(x:Ending)(w':aE):Prop:=
 ∃v',x=.returned (.tuple #[.agg (fW v' bt.1),.string ⟨bt.2.toArray⟩])/\eA w' lo v' bt.1/\oF v w w'/\wS w.heap.size v v'
structure Ud (r:bX):Prop where
 off:qJ r.o=true
 nr:r.recs.length<=1000
 nw:r.wait.length<=1000
 nb:r.back.length<=5000
 nl:r.log.length<=1000
 clk:0<=r.clk/\r.clk<=100000
abbrev F5 (c:bJ):Obj:=.cells #[.int .i64 c.c,.int .i64 c.p] 100
variable {o:Option Nat}{i:Nat}
def Xk (h:o=some i):Gu o=(i:Int):=by rw[h];rfl
def zej (h:o=none):Gu o= -1:=by rw[h];rfl
variable {o:jG}{rs:List bR}{l:Int}
def zeI (h:l∈oJ o rs):1<=l/\l<=o.ln:=by
 unfold oJ xO at h;rw[Jd,Ia] at h;obtain⟨⟨i,hi,rfl⟩,_⟩:=h;rw[Bz] at hi;omega
variable {b:bX}
def zwU {c:bJ}(h:(jL b.recs c.c).isSome=true\/(vC b.back c.c).isSome=true):qB b c=(b,[107,110,111,119,110]):=by
 unfold qB;rw[if_pos (by rcases h with h|h<;>simp[h])]
def zDR (lo:Nat)(v:fL)(r:bX)(c:bJ)(w:aE)(h:eA w lo v r)(hs:Ud r)(dW:lo<=w.heap.size):
 fN aK 63 #[.agg (fW v r),.agg #[.int .i64 c.c,.int .i64 c.p]] w (Ya lo v w (qB r c)):=by
 obtain⟨gb,eY⟩:=aU w.heap.size;have hl:=h.lts;obtain⟨O,hO⟩:=aU (.cells (fW v r) 59:Obj);obtain⟨C,hC⟩:=aU (.cells #[.int .i64 c.c,.int .i64 c.p] 100:Obj);obtain⟨Z,hZ⟩:=aU (jX:Obj);have jC:(((w.alloc O).alloc C).alloc Z).heap[gb]? =some (yA v r):=by rw[hO,eY];exact dB (dB (lF _ _) _) _
 have nZ:(((w.alloc O).alloc C).alloc Z).heap[gb+1]? =some (F5 c):=by rw[hC,eY];exact dB (mI _ _ aO) _
 have vA:(((w.alloc O).alloc C).alloc Z).heap[gb+2]? =some jX:=by rw[<-hZ];exact mI _ _ Vy
 have lO:=aD (((h.alloc O).alloc C).alloc Z);have Fe:=aD (oF.of_below v (dN (dN (dN (eF w.heap.size w) O) C) Z));have oS:=aD (show(((w.alloc O).alloc C).alloc Z).heap.size=gb+3 by rw[eY];simp);have Ce:=aD jC;have zda:=aD nZ;have zqI:=aD vA;have HO:=aD hO;have HC:=aD hC;have HZ:=aD (show Z=.cells #[.int .i64 0,.int .i64 0,.int .i64 0,.int .i64 0,.slice none 0 0,.slice none 0 0,.slice none 0 0,.slice none 0 0] 59 from hZ);have fT:=aD eY;have HL:=aD hl;clear hO hC hZ eY jC nZ vA h hl
 go_enter Tryz.func63,Tryz.ntmps63
 go_upto_region 1 with fail
 rw[<-HO.o,<-HC.o,<-HZ.o,<-fT.o];obtain⟨W1,dH⟩:=aU (((w.alloc O).alloc C).alloc Z);rw[<-dH] at Ce zda zqI lO Fe oS⊢;clear dH;have k:=aJ Ce.o;obtain⟨k0,k1,k2,k3,k4,k5,k6,k7⟩:=eP k;clear k;have Pa:=hs.nr
 go_upto_region 2 with(go_at_call 90;refine(zqv lo v r W1 lO.o aC hs.off).mono ?_;rintro x w2 ⟨_,rfl,gf,cf,rfl,cP,b2⟩;have Tb:=aD cP;have pZ:=aD b2;clear cP b2)
 have lG:=aD (lO.o.below pZ.o);have Sy:=aD (Fe.o.same (oF.of_below v pZ.o));have He:=(eI pZ.o Ce.o).1;have I6:=(eI pZ.o zda.o).1;have jS:=aD (eI pZ.o zqI.o).1;have zmv:=aD He;have zis:=aD I6;have zgA:=aD (show gb+3<=w2.heap.size by have:=pZ.o.size;have:=oS.o;omega);have zbf:=aD (Tb.o.lt gf rfl);clear k0 k1 k2 k3 k4 k5 k6 k7;have k:=aJ He;obtain⟨k0,k1,k2,k3,k4,k5,k6,k7⟩:=eP k;have q:=aJ I6;have q0:=q 0;have q1:=q 1;have r0:=eL jS.o;have z:=aJ jS.o;obtain⟨z0,z1,z2,z3,z4,z5,z6,z7⟩:=eP z;have tP:=aD lG.o.slcR;have Ej:=aD lG.o.slcB;have nL:=hs.nb;clear k q z He I6;rcases hop:jL r.recs c.c with _|i
 .have Ol:=aD (zej hop)
  rcases uH:vC r.back c.c with _|j
  .have Pf:=aD (zej uH)
   have eZ:=aD (show gQ w w2 lo gb 3 v v r from⟨lG.o,Sy.o,wS.refl _ _,fT.o,zmv.o,zgA.o,aC,by have:=HL.o;have:=fT.o;omega,by have:=HL.o;have:=fT.o;omega,by have:=HL.o;have:=fT.o;omega,by have:=HL.o;have:=fT.o;omega,by rw[fT.o];exact dW⟩);rcases fQ:oJ r.o r.recs with _|⟨l,fs⟩
   .have fI:=aD (show qB r c=({r with back:=r.back++[c]},[98,117,115,121]) by unfold qB;rw[if_neg (by simp[hop,uH]),fQ])
    simp only[rR];clear hop uH fQ;obtain⟨i0,eV,gX,eB,jZ⟩:=y8 zf1;have HI:=aD eV;clear eV
    go_upto_region 6 with(first
     |(go_at_call 91;refine(Le lo w2.heap.size r.recs.length v.cR (some ⟨v.gR,0,none⟩) r.recs c.c w2 tP.o aC).mono ?_;rintro x w' ⟨rfl,jH⟩;obtain rfl:=jH.symm;rw[Ol.o])
     |(go_at_call 92;refine(zci lo w2.heap.size r.back.length v.cB (some ⟨v.gB,0,none⟩) r.back c.c w2 Ej.o aC).mono ?_;rintro x w' ⟨rfl,jH⟩;obtain rfl:=jH.symm;rw[Pf.o])
     |(at_builtin;refine znJ _ rfl (.tmp 30) (.tmp 32) 57 rfl lo 100 i0 (.agg #[.int .i64 0,.int .i64 0]) 2 16 J6 HI.o gX eB jZ rfl aH v.gB v.cB r.back.length (bF r.back) rfl ((lG.o.alloc _).bk) ⟨_,0,none⟩ 1 1 c.cells rfl rfl ?c2 Uu ?c5 ?c6 ?c7 ?_;(case c2=>exact Fo (cs:=c.cells.toArray) (lF _ _));(case c5=>unfold maxLen;omega);(case c6=>omega);(case c7=>(have:=eZ.o.lob;have:=zgA.o;simp;omega));intro g1 c1 w3 qE pU B1 Jm;have Bn:=aD ((eZ.o.alloc _).appB pU qE rfl Jm);have zEq:=aD (zG pU (dB jS.o _) (by have:=eZ.o.aB;omega));have kx:=(zG pU (dB zmv.o _) (by have:=eZ.o.aB;omega)).1;have Ow:=aJ kx 6;have wO:=eL kx;clear qE pU B1 Jm kx))
    obtain⟨W4,sP⟩:=aU (w3.setCell ⟨gb,6,none⟩ (.slice (some ⟨g1,0,none⟩) (r.back.length+1) c1));rw[<-sP] at Bn⊢;have zGl:=aD (show W4.heap[gb+2]? =some jX by rw[sP];exact(eH w3 _ _ (gb+2) zdL).trans zEq.o.1);clear sP Ow wO;obtain⟨v4,Kt⟩:=aU ({v with gB:=g1,cB:=c1}:fL);obtain⟨r4,zm7⟩:=aU ({r with back:=r.back++[c]}:bX);rw[<-Kt,<-zm7] at Bn;rw[<-zm7] at fI;clear Kt zm7;have k:=aJ Bn.o.blk;obtain⟨k0,k1,k2,k3,k4,k5,k6,k7⟩:=eP k;have jS:=zGl;have z:=aJ jS.o;obtain⟨z0,z1,z2,z3,z4,z5,z6,z7⟩:=eP z;have r0:=eL jS.o;clear k z
    go_wp2_with fail
    have er:=aJ (sU v4 r4 jS.o);refine rM (v:=.tuple #[.agg (fW (v4) (r4)),.string ⟨([98,117,115,121]:List UInt8).toArray⟩]) ?_ rfl ?_
    .unfold gT at er
     simp[results,zgG,go_sem,er]
    .rw[fI.o]
     obtain⟨d1,d2,d3⟩:=Bn.o.done (b:=gb+2) aC;exact⟨v4,rfl,d1,d2,d3⟩
   .obtain⟨nf,Fh⟩:=aU ((l::fs).length)
    have yU:=zjL r.recs r.o.ln.toNat;have zjd:=(Ad hs.off).2.1;have Cz:(oJ r.o r.recs).length=nf:=by rw[fQ,Fh]
    have zAI:nf<=6:=by unfold oJ at Cz;omega
    have zlM:0<nf:=by rw[Fh];simp
    have Ws:=zeI (o:=r.o) (rs:=r.recs) (l:=l) (by rw[fQ];simp);have Ot:=aD (show w2.ownsRow W1.heap.size 3 1 (.slice (some ⟨gf,0,none⟩) nf cf) nf (eJ (l::fs)) by have:=Tb.o;rw[Cz,fQ] at this;exact this);have Kq:w2.cell? ⟨gf,0,none⟩=some (.int .i64 l):=Ot.o.cellAt 0 aC;rw[<-Fh];have fI:=aD (show qB r c=({r with recs:=r.recs++[⟨c.c,l,0,r.clk,-1,-1,eU⟩],wait:=uB r.wait c},[108,105,110,101,32]++jK l) by unfold qB;rw[if_neg (by simp[hop,uH]),fQ]);have zya:=aD Ws;have mY:((nf:Int)==0)=false:=q8;have zCV:(0:Int)<(nf:Int):=aC;clear hop uH fQ Fh yU zjd Cz Ws
    go_upto_region 7 with(first
     |(go_at_call 91;refine(Le lo w2.heap.size r.recs.length v.cR (some ⟨v.gR,0,none⟩) r.recs c.c w2 tP.o aC).mono ?_;rintro x w' ⟨rfl,jH⟩;obtain rfl:=jH.symm;rw[Ol.o])
     |(go_at_call 92;refine(zci lo w2.heap.size r.back.length v.cB (some ⟨v.gB,0,none⟩) r.back c.c w2 Ej.o aC).mono ?_;rintro x w' ⟨rfl,jH⟩;obtain rfl:=jH.symm;rw[Pf.o]))
    go_cut [] from 36 to 48 (λwx=>∃g1 c1,gQ w wx lo gb 3 v {v with gR:=g1,cR:=c1} {r with recs:=r.recs++[⟨c.c,l,0,r.clk,-1,-1,eU⟩]}/\wx.heap[gb+1]? =some (F5 c)/\wx.heap[gb+2]? =some jX/\wx.ownsRow W1.heap.size 3 1 (.slice (some ⟨gf,0,none⟩) nf cf) nf (eJ (l::fs)))
    case first=>
     obtain⟨i0,eV,gX,eB,jZ⟩:=y8 zra;have HI:=aD eV;clear eV;have zMz:=zbf.o;have zMm:gb+3<=W1.heap.size:=by have:=oS.o;omega
     have znF:v.gR<gb:=by have:=HL.o;have:=fT.o;omega
     have kB:∀o:Obj,(w2.alloc o).cell? ⟨gb,4,none⟩=some (v.sR r):=λo=>Ae k4 o;have zjS:gb<w2.heap.size:=by have:=zgA.o;omega
     have S0:w2.cell? ⟨gb,3,none⟩=some (.int .i64 r.clk)/\w2.cell? ⟨gb+1,0,none⟩=some (.int .i64 c.c)/\w2.cell? ⟨gf,0,none⟩=some (.int .i64 l):=⟨k3,q0,Kq⟩;have Dt:=aD S0;have zKa:gf≠gb:=aC;clear S0;obtain⟨g1,c1,w3,fR,qE,pU,B1,Jm⟩:=zeF (P:=aK) (w2.alloc (.cells #[.int .i64 c.c,.int .i64 l,.int .i64 0,.int .i64 r.clk,.int .i64 (-1),.int .i64 (-1),.string eU] 50)).drew 45 45 lo 50 i0 (.agg #[.int .i64 0,.int .i64 0,.int .i64 0,.int .i64 0,.int .i64 0,.int .i64 0,.string ⟨#[]⟩]) 7 64 ztG HI.o gX eB jZ rfl aH v.gR v.cR r.recs.length (recs r.recs) (zH lG.o.rc (λb hb=>qO _ _ b hb)) ⟨w2.heap.size,0,none⟩ 1 1 (bR.cells ⟨c.c,l,0,r.clk,-1,-1,eU⟩) rfl (Fo (cs:=(bR.cells ⟨c.c,l,0,r.clk,-1,-1,eU⟩).toArray) (lF _ _)) zil X2 aC (by have:=eZ.o.lob;have:=zgA.o;simp;omega);have sM:=aD pU;have zbI:=aD qE;have zbm:=aD Jm;have kx:=(zG pU (dB zmv.o _) aC).1;have zcB:=aJ kx 4;have wO:=eL kx;clear qE pU B1 Jm kx;refine wp_RG7 w2 w3 gb gf v.gR r.recs.length v.cR g1 c1 nf cf c.c l r.clk rfl rfl rfl rfl k3 k4 q0 Kq aC fR zcB (wO _) rfl ?_;clear fR zcB wO;rw[Go.Mt.Al,zqg];simp only[Go.Mt.wL,dU,dV,fRG7,lRG7,Dn,C9]
     go_wp2_with fail
     go_meet
     have zCI:gf≠v.gR:=aC;refine⟨g1,c1,((eZ.o.alloc _).drew).appR sM.o zbI.o rfl zbm.o,?_,?_,?_⟩
     .exact(eH w3 _ _ (gb+1) S9).trans (zG sM.o (L3 (dB zis.o _)) aC).1
     .exact(eH w3 _ _ (gb+2) zdL).trans (zG sM.o (L3 (dB jS.o _)) aC).1
     .exact Bi Ot.o ((eH w3 _ _ gf zmq).trans ((sM.o.block gf q8 (by simp;exact zCI)).trans (qO _ _ gf aC)))
    case rest=>
     obtain⟨g1,c1,Bf,I6,He,fQ⟩:=hcut;clear k0 k1 k2 k3 k4 k5 k6 k7 q0 q1 z0 z1 z2 z3 z4 z5 z6 z7 r0 Kq;have Va:=aD Bf;have zis:=aD I6;have jS:=aD He;have Ot:=aD fQ;obtain⟨v1,pD⟩:=aU ({v with gR:=g1,cR:=c1}:fL);obtain⟨r1,j8⟩:=aU ({r with recs:=r.recs++[⟨c.c,l,0,r.clk,-1,-1,eU⟩]}:bX);have zMa:=aD (show r1.wait=r.wait by rw[j8]);have zzl:r1.wait.length<=1000:=by rw[j8];exact hs.nw
     rw[<-pD,<-j8] at Va;replace fI:=aD (show qB r c=({r1 with wait:=uB r1.wait c},[108,105,110,101,32]++jK l) by rw[fI.o,j8]);clear pD j8 Bf I6 He fQ;have k:=aJ Va.o.blk;have k5:=k 5;have kf:=eL Va.o.blk;have q:=aJ zis.o;have q0:=q 0;have q1:=q 1;clear k q
     go_upto_region 9 with(go_at_call 93;refine(zEJ lo wc.heap.size r1.wait.length v1.cW v1.gW r1.wait c wc Va.o.ok.slcW aC).mono ?_;rintro x w4 ⟨_,rfl,g4,c4,rfl,cP,b4⟩;have zg8:=aD cP;have ziH:=aD b4;have kx:=(eI b4 Va.o.blk).1;have zlo:=aJ kx 5;have wO:=eL kx;clear cP b4 kx)
     obtain⟨W5,zL⟩:=aU (w4.setCell ⟨gb,5,none⟩ (.slice (some ⟨g4,0,none⟩) (uB r1.wait c).length c4));have Dw:=aD (show gQ w W5 lo gb 3 v {v1 with gW:=g4,cW:=c4} {r1 with wait:=uB r1.wait c} by rw[zL];exact Va.o.setW ziH.o zg8.o rfl);have sS:=aD (show W5.heap[gb+2]? =some jX by rw[zL];exact(eH w4 _ _ (gb+2) zdL).trans (eI ziH.o jS.o).1);have zoo:W5.ownsRow W1.heap.size 3 1 (.slice (some ⟨gf,0,none⟩) nf cf) nf (eJ (l::fs)):=by
      rw[zL];have:=zbf.o;have:=oS.o;exact Bi Ot.o ((eH w4 _ _ gf zmq).trans (ziH.o.block gf (Ot.o.lt gf rfl).2))
     have Kq:W5.cell? ⟨gf,0,none⟩=some (.int .i64 l):=zoo.cellAt 0 aC;rw[<-zL];clear zL zlo wO k5 kf q0 q1 zoo;obtain⟨v5,nJ⟩:=aU ({v1 with gW:=g4,cW:=c4}:fL);obtain⟨r5,fF⟩:=aU ({r1 with wait:=uB r1.wait c}:bX);rw[<-nJ,<-fF] at Dw;rw[<-fF] at fI;clear nJ fF;obtain⟨m,hm⟩:∃m:Nat,l=(m:Int):=⟨l.toNat,by have:=zya.o;omega⟩;have zbl:m<=100000000:=by have:=zya.o;have:=(Ad hs.off).2.1;omega
     have E6:(J9 (m:Int)).length<=20:=by rw[Yc];exact Nk aC
     rw[hm] at Kq fI;clear hm;have k:=aJ Dw.o.blk;obtain⟨k0,k1,k2,k3,k4,k5,k6,k7⟩:=eP k;clear k
     go_wp2_with fail
     go_region_with (go_at_call 94;refine(zbj m zbl _).mono ?_;rintro x w6 ⟨rfl,tL⟩;have zW:bV W5.heap.size W5 w6:=⟨tL.os,tL.tape,tL.output,tL.size,tL.block⟩;have J1:=aD zW;have k:=aJ (eI zW Dw.o.blk).1;have r0:=eL (eI zW sS.o).1;have z:=aJ (eI zW sS.o).1;obtain⟨k0,k1,k2,k3,k4,k5,k6,k7⟩:=eP k;obtain⟨z0,z1,z2,z3,z4,z5,z6,z7⟩:=eP z;clear k z tL zW)
     all_goals
      go_wp2_with fail
      have Eb:=Dw.o.keep J1.o;have Ul:=(eI J1.o sS.o).1;have er:=aJ (sU v5 r5 Ul);refine rM (v:=.tuple #[.agg (fW v5 r5),.string ⟨([108,105,110,101,32]++jK (m:Int):List UInt8).toArray⟩]) ?_ rfl ?_
      .unfold gT at er
       simp[results,zgG,go_sem,er,jK,I9]
       done
      .rw[fI.o]
       obtain⟨d1,d2,d3⟩:=Eb.done (b:=gb+2) aC;exact⟨v5,rfl,d1,d2,d3⟩
  .have Pf:=aD (Xk uH)
   have znS:(0:Int)<=(j:Int):=aC;have fI:=aD (zwU (b:=r) (c:=c) (.inr (by rw[uH];rfl)));clear hop uH
   go_wp2_with (first
    |(go_at_call 91;refine(Le lo w2.heap.size r.recs.length v.cR (some ⟨v.gR,0,none⟩) r.recs c.c w2 tP.o aC).mono ?_;rintro x w' ⟨rfl,jH⟩;obtain rfl:=jH.symm;rw[Ol.o])
    |(go_at_call 92;refine(zci lo w2.heap.size r.back.length v.cB (some ⟨v.gB,0,none⟩) r.back c.c w2 Ej.o aC).mono ?_;rintro x w' ⟨rfl,jH⟩;obtain rfl:=jH.symm;rw[Pf.o]))
   have er:=aJ (sU v r jS.o);refine rM (v:=.tuple #[.agg (fW (v) (r)),.string ⟨([107,110,111,119,110]:List UInt8).toArray⟩]) ?_ rfl ?_
   .unfold gT at er
    simp[results,zgG,go_sem,er]
   .rw[fI.o]
    have l:=HL.o;have gg:=fT.o;have l2:=lG.o.lts;exact⟨v,rfl,lG.o.set8 aC,Sy.o.set8 aC,wS.refl _ _⟩
 .have Ol:=aD (Xk hop)
  have eV:(0:Int)<=(i:Int):=aC;have fI:=aD (zwU (b:=r) (c:=c) (.inl (by rw[hop];rfl)));clear hop
  go_wp2_with (go_at_call 91;refine(Le lo w2.heap.size r.recs.length v.cR (some ⟨v.gR,0,none⟩) r.recs c.c w2 tP.o aC).mono ?_;rintro x w' ⟨rfl,jH⟩;obtain rfl:=jH.symm;rw[Ol.o])
  have er:=aJ (sU v r jS.o);refine rM (v:=.tuple #[.agg (fW (v) (r)),.string ⟨([107,110,111,119,110]:List UInt8).toArray⟩]) ?_ rfl ?_
  .unfold gT at er
   simp[results,zgG,go_sem,er]
  .rw[fI.o]
   have l:=HL.o;have gg:=fT.o;have l2:=lG.o.lts;exact⟨v,rfl,lG.o.set8 aC,Sy.o.set8 aC,wS.refl _ _⟩
structure zf4 (r:bX):Prop where
 has:∀x∈r.wait,(jL r.recs x.c).isSome=true
 num:∀x∈r.wait,1<=x.c/\x.c<=99
variable {c:Int}
def B4 (h:jL rs c=some i):∃d,rs[i]? =some d/\d.c=c/\eK d=true:=by
 unfold jL at h;rw[List.findIdx?_eq_some_iff_getElem] at h;obtain⟨hi,hp,_⟩:=h;refine⟨rs[i],lX hi,?_⟩;unfold Au at hp;simp at hp;exact hp
variable {w:aE}{r:bX}
def gQ.widen {w0:aE}{lo gb:Nat}{v0 v:fL}(h:gQ w0 w lo gb 2 v0 v r)(hg:v.gR<gb/\v.gW<gb/\v.gB<gb/\v.gL<gb)(hz:gb+3<=w.heap.size):gQ w0 w lo gb 3 v0 v r:=
 ⟨h.ok,h.turn,h.moved,h.base,h.blk,hz,aC,.inl hg.1,.inl hg.2.1,.inl hg.2.2.1,.inl hg.2.2.2,h.lob⟩
def zy6 (lo:Nat)(v:fL)(r:bX)(op:Int)(w:aE)(h:eA w lo v r)(hs:Ud r)(dW:lo<=w.heap.size)(hq:zf4 r):
 fN aK 64 #[.agg (fW v r),.int .i64 op] w (Ya lo v w (nO r op)):=by
 obtain⟨gb,O,Z,fT,HO,HZ,eZ,jS,oS,HL⟩:=zgF h dW;clear h
 go_enter Tryz.func64,Tryz.ntmps64
 go_upto_region 1 with fail
 rw[<-HO.o,<-HZ.o,<-fT.o];obtain⟨W1,dH⟩:=aU ((w.alloc O).alloc Z);rw[<-dH] at eZ jS oS⊢;clear dH;have k:=aJ eZ.o.blk;obtain⟨k0,k1,k2,k3,k4,k5,k6,k7⟩:=eP k;clear k;have Pa:=hs.nr;have tP:=aD eZ.o.ok.slcR;by_cases lP:0<dA r.recs op
 .have fI:=aD (show nO r op=(r,[116,97,108,107,115]) by unfold nO;rw[if_pos lP])
  go_upto_region 2 with(go_at_call 45;refine(On lo W1.heap.size r.recs.length v.cR (some ⟨v.gR,0,none⟩) r.recs op W1 tP.o aC).mono ?_;rintro x w2 ⟨rfl,jH⟩;obtain rfl:=jH.symm)
  clear k0 k1 k2 k3 k4 k5 k6 k7 lP;have k:=aJ eZ.o.blk;obtain⟨k0,k1,k2,k3,k4,k5,k6,k7⟩:=eP k;clear k;have z:=aJ jS.o;obtain⟨z0,z1,z2,z3,z4,z5,z6,z7⟩:=eP z;clear z;have r0:=eL jS.o
  go_wp2_with fail
  have er:=aJ (sU v r jS.o);refine rM (v:=.tuple #[.agg (fW (v) (r)),.string ⟨([116,97,108,107,115]:List UInt8).toArray⟩]) ?_ rfl ?_
  .unfold gT at er
   simp[results,zh7,go_sem,er]
  .rw[fI.o]
   obtain⟨d1,d2,d3⟩:=eZ.o.done (b:=gb+1) aC;exact⟨v,rfl,d1,d2,d3⟩
 .rcases cD:r.wait with _|⟨c,cs⟩
  .have fI:=aD (show nO r op=(r,[110,111,110,101]) by unfold nO;rw[if_neg lP,cD])
   have Fg:r.wait.length=0:=by rw[cD];rfl
   have zkK:=aD (show v.sW r=.slice (some ⟨v.gW,0,none⟩) 0 v.cW by unfold fL.sW;rw[Fg]);have ztk:W1.cell? ⟨gb,5,none⟩=some (.slice (some ⟨v.gW,0,none⟩) 0 v.cW):=by rw[k5,<-zkK.o];rfl
   clear k5 Fg cD
   go_upto_region 4 with(go_at_call 45;refine(On lo W1.heap.size r.recs.length v.cR (some ⟨v.gR,0,none⟩) r.recs op W1 tP.o aC).mono ?_;rintro x w2 ⟨rfl,jH⟩;obtain rfl:=jH.symm)
   clear k0 k1 k2 k3 k4 ztk k6 k7 lP;have k:=aJ eZ.o.blk;obtain⟨k0,k1,k2,k3,k4,k5,k6,k7⟩:=eP k;clear k;have z:=aJ jS.o;obtain⟨z0,z1,z2,z3,z4,z5,z6,z7⟩:=eP z;clear z;have r0:=eL jS.o
   go_wp2_with fail
   have er:=aJ (sU v r jS.o);refine rM (v:=.tuple #[.agg (fW (v) (r)),.string ⟨([110,111,110,101]:List UInt8).toArray⟩]) ?_ rfl ?_
   .unfold gT at er
    simp[results,zh7,go_sem,er]
   .rw[fI.o]
    obtain⟨d1,d2,d3⟩:=eZ.o.done (b:=gb+1) aC;exact⟨v,rfl,d1,d2,d3⟩
  .have hc:=hq.num c Xc
   obtain⟨i,wA⟩:=zi0.1 (hq.has c Xc);obtain⟨d,hd,zbn,-⟩:=B4 wA;have fI:=aD (show nO r op=({r with recs:=r.recs.modify i λd=>{d with o:=op,h:=r.clk},wait:=dX r.wait c.c},[99,97,108,108,32]++jK c.c) by unfold nO;rw[if_neg lP,cD];simp only[wA]);have Fg:0<r.wait.length:=by rw[cD];simp
   have zkH:=aD (show r.wait[0]? =some c by rw[cD];rfl);have Zy:=eZ.o.ok.slcW;have Sg:=aD Zy;obtain⟨b0,zIl,d0,Mb,-,-,-,tE,e0,e1⟩:=Zy.callsAt (k:=0) Fg;rw[zkH.o] at tE;injection tE with tE;injection Mb with Mb;injection Mb with zV zE;subst zV zE tE;simp only[qY,zbX] at e0 e1;have zEY:(((r.wait.length:Nat):Int)==0)=false:=by simp;intro e;rw[e] at Fg;simp at Fg
   have i0:(0:Int)<(r.wait.length:Int):=aC;have Mn:=aD (Xk wA);have HD:=aD hd;clear wA hd zbn cD Zy
   go_upto_region 5 with(go_at_call 45;refine(On lo W1.heap.size r.recs.length v.cR (some ⟨v.gR,0,none⟩) r.recs op W1 tP.o aC).mono ?_;rintro x w2 ⟨rfl,jH⟩;obtain rfl:=jH.symm)
   clear k0 k1 k2 k3 k4 k6 k7 lP
   go_upto_region 6 with fail
   rw[oS.o];obtain⟨W2,qV⟩:=aU (W1.alloc (F5 c));rw[<-qV];have zaE:=aD (show gQ w W2 lo gb 3 v v r by rw[qV];exact(eZ.o.alloc _).widen HL.o (by have:=oS.o;simp;omega));have Cy:=aD (show W2.heap[gb+1]? =some jX by rw[qV];exact dB jS.o _);have zxq:=aD (show W2.heap[gb+2]? =some (F5 c) by rw[qV];exact mI _ _ oS.o.symm);clear qV e0 e1 k5;have zHm:=aD zaE.o.ok.slcR;have k:=aJ zaE.o.blk;obtain⟨k0,k1,k2,k3,k4,k5,k6,k7⟩:=eP k;clear k;have q:=aJ zxq.o;have q0:=q 0;have q1:=q 1;clear q
   go_upto_region 7 with(go_at_call 91;refine(Le lo W2.heap.size r.recs.length v.cR (some ⟨v.gR,0,none⟩) r.recs c.c W2 zHm.o aC).mono ?_;rintro x w2 ⟨rfl,jH⟩;obtain rfl:=jH.symm;rw[Mn.o])
   have hi:=(kD.1 HD.o).1;have eV:(0:Int)<=(i:Int):=aC;have zU:(i:Int)<(r.recs.length:Int):=aC;obtain⟨c0,c1,c2,c3,c4,c5,c6⟩:=zaE.o.ok.recAt HD.o;have fz:=λj=>zaE.o.ok.rc.frozenAt j;have S1:=zaE.o.setR (λd=>{d with o:=op}) HD.o (j:=2) (u:=.int .i64 op) aH zuU rfl;have l5:=aD S1;have Qe:gb+1≠v.gR:=by have:=HL.o;omega
   have zq4:gb+2≠v.gR:=by have:=HL.o;omega
   clear S1
   go_upto_region 8 with fail
   obtain⟨W3,pY⟩:=aU (W2.setCell ⟨v.gR,i*7+2,none⟩ (.int .i64 op));rw[<-pY] at l5⊢;have zdd:=aD (show W3.heap[gb+1]? =some jX by rw[pY];exact(eH _ _ _ (gb+1) Qe).trans Cy.o);have zg2:=aD (show W3.heap[gb+2]? =some (F5 c) by rw[pY];exact(eH _ _ _ (gb+2) zq4).trans zxq.o);have Ag:(r.recs.modify i λd=>{d with o:=op})[i]? =some {d with o:=op}:=by rw[zM];simp[HD.o]
   have zhm:=aD Ag;clear pY c0 c1 c2 c3 c4 c5 c6 fz k0 k1 k2 k3 k4 k5 k6 k7 q0 q1 Ag;obtain⟨r1,j8⟩:=aU ({r with recs:=r.recs.modify i λd=>{d with o:=op}}:bX);rw[<-j8] at l5;have lO:=aD j8;have Iq:r1.recs.length=r.recs.length:=by rw[j8];exact F6 _ _ _
   have zt9:=aD (show r1.recs[i]? =some {d with o:=op} by rw[j8];exact zhm.o);have L2:(i:Int)<(r1.recs.length:Int):=by rw[Iq];exact zU
   clear j8 Iq;have k:=aJ l5.o.blk;obtain⟨k0,k1,k2,k3,k4,k5,k6,k7⟩:=eP k;clear k;obtain⟨c0,c1,c2,c3,c4,c5,c6⟩:=l5.o.ok.recAt zt9.o;have fz:=λj=>l5.o.ok.rc.frozenAt j;have S2:=l5.o.setR (λd=>{d with h:=r1.clk}) zt9.o (j:=4) (u:=.int .i64 r1.clk) aH zpv rfl;have sJ:=aD S2;clear S2
   go_upto_region 9 with fail
   obtain⟨W4,sP⟩:=aU (W3.setCell ⟨v.gR,i*7+4,none⟩ (.int .i64 r1.clk));rw[<-sP] at sJ⊢;have Rw:=aD (show W4.heap[gb+1]? =some jX by rw[sP];exact(eH _ _ _ (gb+1) Qe).trans zdd.o);have Yj:=aD (show W4.heap[gb+2]? =some (F5 c) by rw[sP];exact(eH _ _ _ (gb+2) zq4).trans zg2.o);clear sP c0 c1 c2 c3 c4 c5 c6 fz k0 k1 k2 k3 k4 k5 k6 k7;obtain⟨r2,Vs⟩:=aU ({r1 with recs:=r1.recs.modify i λd=>{d with h:=r1.clk}}:bX);rw[<-Vs] at sJ;have zKA:r2.wait.length<=1000:=by rw[Vs,lO.o];exact hs.nw
   replace fI:=aD (show nO r op=({r2 with wait:=dX r2.wait c.c},[99,97,108,108,32]++jK c.c) by rw[fI.o,Vs,lO.o];simp only[zgt]);clear Vs;have zG0:=aD sJ.o.ok.slcW;have k:=aJ sJ.o.blk;obtain⟨k0,k1,k2,k3,k4,k5,k6,k7⟩:=eP k;clear k;have q:=aJ Yj.o;have q0:=q 0;have q1:=q 1;clear q;have kf:=eL sJ.o.blk
   go_upto_region 10 with(go_at_call 95;refine(zd9 lo W4.heap.size r2.wait.length v.cW (some ⟨v.gW,0,none⟩) r2.wait c.c W4 zG0.o aC).mono ?_;rintro x w5 ⟨_,rfl,g5,c5,rfl,cP,b5⟩;have zdb:=aD cP;have Dx:=aD b5;have kx:=(eI b5 sJ.o.blk).1;have zlo:=aJ kx 5;have wO:=eL kx;clear cP b5 kx)
   obtain⟨W5,zL⟩:=aU (w5.setCell ⟨gb,5,none⟩ (.slice (some ⟨g5,0,none⟩) (dX r2.wait c.c).length c5));have Dw:=aD (show gQ w W5 lo gb 3 v {v with gW:=g5,cW:=c5} {r2 with wait:=dX r2.wait c.c} by rw[zL];exact sJ.o.setW Dx.o zdb.o rfl);have sS:=aD (show W5.heap[gb+1]? =some jX by rw[zL];exact(eH w5 _ _ (gb+1) S9).trans (eI Dx.o Rw.o).1);have znR:=aD (show W5.heap[gb+2]? =some (F5 c) by rw[zL];exact(eH w5 _ _ (gb+2) zdL).trans (eI Dx.o Yj.o).1);rw[<-zL];clear zL zlo wO kf q0 q1 k0 k1 k2 k3 k4 k5 k6 k7;obtain⟨v5,nJ⟩:=aU ({v with gW:=g5,cW:=c5}:fL);obtain⟨r5,fF⟩:=aU ({r2 with wait:=dX r2.wait c.c}:bX);rw[<-nJ,<-fF] at Dw;rw[<-fF] at fI;clear nJ fF;obtain⟨m,hm⟩:∃m:Nat,c.c=(m:Int):=⟨c.c.toNat,aC⟩;have zbl:m<=100000000:=aC;have E6:(J9 (m:Int)).length<=20:=by rw[Yc];exact Nk aC
   have k:=aJ Dw.o.blk;obtain⟨k0,k1,k2,k3,k4,k5,k6,k7⟩:=eP k;clear k;have q0:=aJ znR.o 0;rw[hm] at q0 fI;clear hm
   go_wp2_with fail
   go_region_with (go_at_call 94;refine(zbj m zbl _).mono ?_;rintro x w6 ⟨rfl,tL⟩;have zW:bV W5.heap.size W5 w6:=⟨tL.os,tL.tape,tL.output,tL.size,tL.block⟩;have J1:=aD zW;have k:=aJ (eI zW Dw.o.blk).1;have r0:=eL (eI zW sS.o).1;have z:=aJ (eI zW sS.o).1;obtain⟨k0,k1,k2,k3,k4,k5,k6,k7⟩:=eP k;obtain⟨z0,z1,z2,z3,z4,z5,z6,z7⟩:=eP z;clear k z tL zW)
   all_goals
    go_wp2_with fail
    have Eb:=Dw.o.keep J1.o;have Ul:=(eI J1.o sS.o).1;have er:=aJ (sU v5 r5 Ul);refine rM (v:=.tuple #[.agg (fW (v5) (r5)),.string ⟨([99,97,108,108,32]++jK (m:Int):List UInt8).toArray⟩]) ?_ rfl ?_
    .unfold gT at er
     simp[results,zh7,go_sem,er,jK,I9]
    .rw[fI.o]
     obtain⟨d1,d2,d3⟩:=Eb.done (b:=gb+1) aC;exact⟨v5,rfl,d1,d2,d3⟩
def zyV (lo:Nat)(v:fL)(r:bX)(op:Int)(w:aE)(h:eA w lo v r)(hs:Ud r)(dW:lo<=w.heap.size)(hq:∀x∈r.back,1<=x.c/\x.c<=99):
 fN aK 65 #[.agg (fW v r),.int .i64 op] w (Ya lo v w (l6 r op)):=by
 obtain⟨gb,O,Z,fT,HO,HZ,eZ,jS,oS,HL⟩:=zgF h dW;clear h
 go_enter Tryz.func65,Tryz.ntmps65
 go_upto_region 1 with fail
 rw[<-HO.o,<-HZ.o,<-fT.o];obtain⟨W1,dH⟩:=aU ((w.alloc O).alloc Z);rw[<-dH] at eZ jS oS⊢;clear dH;have k:=aJ eZ.o.blk;obtain⟨k0,k1,k2,k3,k4,k5,k6,k7⟩:=eP k;clear k;have Pa:=hs.nr
 go_upto_region 2 with(go_at_call 90;refine(zqv lo v r W1 eZ.o.ok aC hs.off).mono ?_;rintro x w2 ⟨_,rfl,gf,cf,rfl,cP,b2⟩;have Tb:=aD cP;have pZ:=aD b2;clear cP b2)
 have nV:=aD (eZ.o.keep pZ.o);have Cy:=aD (eI pZ.o jS.o).1;have zbf:=aD (Tb.o.lt gf rfl);clear k0 k1 k2 k3 k4 k5 k6 k7;have k:=aJ nV.o.blk;obtain⟨k0,k1,k2,k3,k4,k5,k6,k7⟩:=eP k;clear k;have tP:=aD nV.o.ok.slcR;by_cases lP:0<dA r.recs op
 .have fI:=aD (show l6 r op=(r,[116,97,108,107,115]) by unfold l6;rw[if_pos lP])
  go_upto_region 3 with(go_at_call 45;refine(On lo w2.heap.size r.recs.length v.cR (some ⟨v.gR,0,none⟩) r.recs op w2 tP.o aC).mono ?_;rintro x w9 ⟨rfl,jH⟩;obtain rfl:=jH.symm)
  clear k0 k1 k2 k3 k4 k5 k6 k7 lP;have k:=aJ nV.o.blk;obtain⟨k0,k1,k2,k3,k4,k5,k6,k7⟩:=eP k;clear k;have z:=aJ Cy.o;obtain⟨z0,z1,z2,z3,z4,z5,z6,z7⟩:=eP z;clear z;have r0:=eL Cy.o
  go_wp2_with fail
  have er:=aJ (sU v r Cy.o);refine rM (v:=.tuple #[.agg (fW (v) (r)),.string ⟨([116,97,108,107,115]:List UInt8).toArray⟩]) ?_ rfl ?_
  .unfold gT at er
   simp[results,zdC,go_sem,er]
  .rw[fI.o]
   obtain⟨d1,d2,d3⟩:=nV.o.done (b:=gb+1) aC;exact⟨v,rfl,d1,d2,d3⟩
 .rcases wX:r.back with _|⟨c,cs⟩
  .have fI:=aD (show l6 r op=(r,[110,111,110,101]) by unfold l6;rw[if_neg lP,wX])
   have Fg:r.back.length=0:=by rw[wX];rfl
   have zkK:=aD (show v.sB r=.slice (some ⟨v.gB,0,none⟩) 0 v.cB by unfold fL.sB;rw[Fg]);have zgi:w2.cell? ⟨gb,6,none⟩=some (.slice (some ⟨v.gB,0,none⟩) 0 v.cB):=by rw[k6,<-zkK.o];rfl
   clear k6 Fg wX
   go_upto_region 5 with(go_at_call 45;refine(On lo w2.heap.size r.recs.length v.cR (some ⟨v.gR,0,none⟩) r.recs op w2 tP.o aC).mono ?_;rintro x w9 ⟨rfl,jH⟩;obtain rfl:=jH.symm)
   clear k0 k1 k2 k3 k4 k5 zgi k7 lP;have k:=aJ nV.o.blk;obtain⟨k0,k1,k2,k3,k4,k5,k6,k7⟩:=eP k;clear k;have z:=aJ Cy.o;obtain⟨z0,z1,z2,z3,z4,z5,z6,z7⟩:=eP z;clear z;have r0:=eL Cy.o
   go_wp2_with fail
   have er:=aJ (sU v r Cy.o);refine rM (v:=.tuple #[.agg (fW (v) (r)),.string ⟨([110,111,110,101]:List UInt8).toArray⟩]) ?_ rfl ?_
   .unfold gT at er
    simp[results,zdC,go_sem,er]
   .rw[fI.o]
    obtain⟨d1,d2,d3⟩:=nV.o.done (b:=gb+1) aC;exact⟨v,rfl,d1,d2,d3⟩
  .have hc:=hq c zba
   have Fg:0<r.back.length:=by rw[wX];simp
   have zkH:=aD (show r.back[0]? =some c by rw[wX];rfl);have zEY:(((r.back.length:Nat):Int)==0)=false:=by simp;intro e;rw[e] at Fg;simp at Fg
   rcases fQ:oJ r.o r.recs with _|⟨l,fs⟩
   .have fI:=aD (show l6 r op=(r,[98,117,115,121]) by unfold l6;rw[if_neg lP,wX,fQ])
    simp only[rR];clear wX fQ
    go_upto_region 7 with(go_at_call 45;refine(On lo w2.heap.size r.recs.length v.cR (some ⟨v.gR,0,none⟩) r.recs op w2 tP.o aC).mono ?_;rintro x w9 ⟨rfl,jH⟩;obtain rfl:=jH.symm)
    clear k0 k1 k2 k3 k4 k5 k6 k7 lP;have k:=aJ nV.o.blk;obtain⟨k0,k1,k2,k3,k4,k5,k6,k7⟩:=eP k;clear k;have z:=aJ Cy.o;obtain⟨z0,z1,z2,z3,z4,z5,z6,z7⟩:=eP z;clear z;have r0:=eL Cy.o
    go_wp2_with fail
    have er:=aJ (sU v r Cy.o);refine rM (v:=.tuple #[.agg (fW (v) (r)),.string ⟨([98,117,115,121]:List UInt8).toArray⟩]) ?_ rfl ?_
    .unfold gT at er
     simp[results,zdC,go_sem,er]
    .rw[fI.o]
     obtain⟨d1,d2,d3⟩:=nV.o.done (b:=gb+1) aC;exact⟨v,rfl,d1,d2,d3⟩
   .have fI:=aD (show l6 r op=({r with back:=dX r.back c.c,recs:=r.recs++[⟨c.c,l,op,r.clk,r.clk,-1,eU⟩]},[99,97,108,108,32]++jK c.c) by unfold l6;rw[if_neg lP,wX,fQ])
    obtain⟨nf,Fh⟩:=aU ((l::fs).length);have yU:=zjL r.recs r.o.ln.toNat;have zjd:=(Ad hs.off).2.1;have Cz:(oJ r.o r.recs).length=nf:=by rw[fQ,Fh]
    have zAI:nf<=6:=by unfold oJ at Cz;omega
    have zlM:0<nf:=by rw[Fh];simp
    have Ot:=aD (show w2.ownsRow W1.heap.size 3 1 (.slice (some ⟨gf,0,none⟩) nf cf) nf (eJ (l::fs)) by have:=Tb.o;rw[Cz,fQ] at this;exact this);rw[<-Fh];have mY:((nf:Int)==0)=false:=q8;have zCV:(0:Int)<(nf:Int):=aC;have i0:(0:Int)<(r.back.length:Int):=aC;have Dj:=nV.o.ok.slcB;obtain⟨b0,zIl,d0,Mb,-,-,-,tE,e0,e1⟩:=Dj.callsAt (k:=0) Fg;rw[zkH.o] at tE;injection tE with tE;injection Mb with Mb;injection Mb with zV zE;subst zV zE tE;simp only[qY,zbX] at e0 e1;clear wX fQ Fh yU zjd Cz Dj
    go_upto_region 8 with(go_at_call 45;refine(On lo w2.heap.size r.recs.length v.cR (some ⟨v.gR,0,none⟩) r.recs op w2 tP.o aC).mono ?_;rintro x w9 ⟨rfl,jH⟩;obtain rfl:=jH.symm)
    clear k0 k1 k2 k3 k4 k5 k7 lP
    go_upto_region 9 with fail
    obtain⟨gc,Tu⟩:=aU w2.heap.size;have zHj:=aD Tu;rw[<-Tu];obtain⟨W3,pY⟩:=aU (w2.alloc (F5 c));rw[<-pY];have zbC:=aD (show gQ w W3 lo gb 2 v v r by rw[pY];exact nV.o.alloc _);have zdd:=aD (show W3.heap[gb+1]? =some jX by rw[pY];exact dB Cy.o _);have zg2:=aD (show W3.heap[gc]? =some (F5 c) by rw[pY];exact mI _ _ Tu);have zuX:=aD (show W3.ownsRow W1.heap.size 3 1 (.slice (some ⟨gf,0,none⟩) nf cf) nf (eJ (l::fs)) by rw[pY];exact zH Ot.o (λb hb=>qO _ _ b hb));clear pY e0 e1 k6 Tu;have aN:=HL.o;have zKG:gb+2<=gf:=by have:=zbf.o;have:=oS.o;omega
    have zNc:gf<gc:=by have:=zbf.o;have:=zHj.o;omega
    have zAT:=aD zbC.o.ok.slcB;have nL:=hs.nb;have k:=aJ zbC.o.blk;obtain⟨k0,k1,k2,k3,k4,k5,k6,k7⟩:=eP k;clear k;have q:=aJ zg2.o;have q0:=q 0;have q1:=q 1;clear q;have kf:=eL zbC.o.blk
    go_upto_region 10 with(go_at_call 95;refine(zd9 lo W3.heap.size r.back.length v.cB (some ⟨v.gB,0,none⟩) r.back c.c W3 zAT.o aC).mono ?_;rintro x w5 ⟨_,rfl,g5,c5,rfl,cP,b5⟩;have zdb:=aD cP;have Dx:=aD b5;have kx:=(eI b5 zbC.o.blk).1;have Ow:=aJ kx 6;have wO:=eL kx;clear cP b5 kx)
    obtain⟨W4,sP⟩:=aU (w5.setCell ⟨gb,6,none⟩ (.slice (some ⟨g5,0,none⟩) (dX r.back c.c).length c5));have Bn:=aD (show gQ w W4 lo gb 2 v {v with gB:=g5,cB:=c5} {r with back:=dX r.back c.c} by rw[sP];exact zbC.o.setB Dx.o zdb.o rfl);have Rw:=aD (show W4.heap[gb+1]? =some jX by rw[sP];exact(eH w5 _ _ (gb+1) S9).trans (eI Dx.o zdd.o).1);have Yj:=aD (show W4.heap[gc]? =some (F5 c) by rw[sP];exact(eH w5 _ _ gc (by show gc≠gb;omega)).trans (eI Dx.o zg2.o).1);have zGf:=aD (show W4.ownsRow W1.heap.size 3 1 (.slice (some ⟨gf,0,none⟩) nf cf) nf (eJ (l::fs)) by rw[sP];exact Bi zuX.o ((eH w5 _ _ gf zmq).trans (Dx.o.block gf (zuX.o.lt gf rfl).2)));rw[<-sP];clear sP Ow wO kf q0 q1 k0 k1 k2 k3 k4 k5 k6 k7;obtain⟨v1,pD⟩:=aU ({v with gB:=g5,cB:=c5}:fL);obtain⟨r1,j8⟩:=aU ({r with back:=dX r.back c.c}:bX);have znF:v1.gR=v.gR:=by rw[pD]
    have zK8:v1.gR<gb:=by rw[znF];exact aN.1
    have zMR:r1.recs.length<=1000:=by rw[j8];exact hs.nr
    rw[<-pD,<-j8] at Bn;replace fI:=aD (show l6 r op=({r1 with recs:=r1.recs++[⟨c.c,l,op,r1.clk,r1.clk,-1,eU⟩]},[99,97,108,108,32]++jK c.c) by rw[fI.o,j8]);clear pD j8 znF;have k:=aJ Bn.o.blk;obtain⟨k0,k1,k2,k3,k4,k5,k6,k7⟩:=eP k;clear k;have q0:=aJ Yj.o 0;have Kq:W4.cell? ⟨gf,0,none⟩=some (.int .i64 l):=zGf.o.cellAt 0 aC;have zzD:gc<W4.heap.size:=fP Yj.o
    go_cut [] from 38 to 53 (λwx=>∃g1 c1,gQ w wx lo gb 2 v {v1 with gR:=g1,cR:=c1} {r1 with recs:=r1.recs++[⟨c.c,l,op,r1.clk,r1.clk,-1,eU⟩]}/\wx.heap[gc]? =some (F5 c)/\wx.heap[gb+1]? =some jX)
    case first=>
     obtain⟨i0,eV,gX,eB,jZ⟩:=y8 zra;have HI:=aD eV;clear eV;have kB:∀o:Obj,(W4.alloc o).cell? ⟨gb,4,none⟩=some (v1.sR r1):=λo=>Ae k4 o;have zjS:gb<W4.heap.size:=aC;have S0:W4.cell? ⟨gb,3,none⟩=some (.int .i64 r1.clk)/\W4.cell? ⟨gc,0,none⟩=some (.int .i64 c.c)/\W4.cell? ⟨gf,0,none⟩=some (.int .i64 l):=⟨k3,q0,Kq⟩;have Dt:=aD S0;clear S0;obtain⟨g1,c1,w3,fR,qE,pU,B1,Jm⟩:=zeF (P:=aK) (W4.alloc (.cells #[.int .i64 c.c,.int .i64 l,.int .i64 op,.int .i64 r1.clk,.int .i64 r1.clk,.int .i64 (-1),.string eU] 50)).drew 45 45 lo 50 i0 (.agg #[.int .i64 0,.int .i64 0,.int .i64 0,.int .i64 0,.int .i64 0,.int .i64 0,.string ⟨#[]⟩]) 7 64 ztG HI.o gX eB jZ rfl aH v1.gR v1.cR r1.recs.length (recs r1.recs) (zH Bn.o.ok.rc (λb hb=>qO _ _ b hb)) ⟨W4.heap.size,0,none⟩ 1 1 (bR.cells ⟨c.c,l,op,r1.clk,r1.clk,-1,eU⟩) rfl (Fo (cs:=(bR.cells ⟨c.c,l,op,r1.clk,r1.clk,-1,eU⟩).toArray) (lF _ _)) zil X2 aC (by have:=Bn.o.lob;simp;omega);have sM:=aD pU;have zbI:=aD qE;have zbm:=aD Jm;have kx:=(zG pU (dB Bn.o.blk _) aC).1;have zcB:=aJ kx 4;have wO:=eL kx;clear qE pU B1 Jm kx;refine wp_RU10 W4 w3 gb gc gf v1.gR r1.recs.length v1.cR g1 c1 _ _ c.c l op r1.clk rfl rfl rfl rfl rfl k3 k4 q0 Kq aC fR zcB (wO _) rfl ?_;clear fR zcB wO;rw[Go.Mt.Al,zxT];simp only[Go.Mt.wL,dU,dV,zk5,lRU10,Dn,C9]
     go_wp2_with fail
     go_meet
     refine⟨g1,c1,((Bn.o.alloc _).drew).appR sM.o zbI.o rfl zbm.o,?_,?_⟩
     .exact(eH w3 _ _ gc (by show gc≠gb;omega)).trans (zG sM.o (L3 (dB Yj.o _)) aC).1
     .exact(eH w3 _ _ (gb+1) S9).trans (zG sM.o (L3 (dB Rw.o _)) aC).1
    case rest=>
     obtain⟨g1,c1,Bf,I6,He⟩:=hcut;clear k0 k1 k2 k3 k4 k5 k6 k7 q0 Kq zzD;obtain⟨W5,zL⟩:=aU wc;have znR:=aD (show W5.heap[gc]? =some (F5 c) by rw[zL];exact I6);have sS:=aD (show W5.heap[gb+1]? =some jX by rw[zL];exact He);have Dw:=aD (show gQ w W5 lo gb 2 v {v1 with gR:=g1,cR:=c1} {r1 with recs:=r1.recs++[⟨c.c,l,op,r1.clk,r1.clk,-1,eU⟩]} by rw[zL];exact Bf);clear Bf I6 He;rw[<-zL];clear zL;obtain⟨v5,nJ⟩:=aU ({v1 with gR:=g1,cR:=c1}:fL);obtain⟨r5,fF⟩:=aU ({r1 with recs:=r1.recs++[⟨c.c,l,op,r1.clk,r1.clk,-1,eU⟩]}:bX);rw[<-nJ,<-fF] at Dw;rw[<-fF] at fI;clear nJ fF;obtain⟨m,hm⟩:∃m:Nat,c.c=(m:Int):=⟨c.c.toNat,aC⟩;have zbl:m<=100000000:=aC;have E6:(J9 (m:Int)).length<=20:=by rw[Yc];exact Nk aC
     have k:=aJ Dw.o.blk;obtain⟨k0,k1,k2,k3,k4,k5,k6,k7⟩:=eP k;clear k;have q0:=aJ znR.o 0;rw[hm] at q0 fI;clear hm
     go_wp2_with fail
     go_region_with (go_at_call 94;refine(zbj m zbl _).mono ?_;rintro x w6 ⟨rfl,tL⟩;have zW:bV W5.heap.size W5 w6:=⟨tL.os,tL.tape,tL.output,tL.size,tL.block⟩;have J1:=aD zW;have k:=aJ (eI zW Dw.o.blk).1;have r0:=eL (eI zW sS.o).1;have z:=aJ (eI zW sS.o).1;obtain⟨k0,k1,k2,k3,k4,k5,k6,k7⟩:=eP k;obtain⟨z0,z1,z2,z3,z4,z5,z6,z7⟩:=eP z;clear k z tL zW)
     all_goals
      go_wp2_with fail
      have Eb:=Dw.o.keep J1.o;have Ul:=(eI J1.o sS.o).1;have er:=aJ (sU v5 r5 Ul);refine rM (v:=.tuple #[.agg (fW (v5) (r5)),.string ⟨([99,97,108,108,32]++jK (m:Int):List UInt8).toArray⟩]) ?_ rfl ?_
      .unfold gT at er
       simp[results,zdC,go_sem,er,jK,I9]
      .rw[fI.o]
       obtain⟨d1,d2,d3⟩:=Eb.done (b:=gb+1) aC;exact⟨v5,rfl,d1,d2,d3⟩
def zIE (lo:Nat)(v:fL)(r:bX)(call:Int)(w:aE)(h:eA w lo v r)(hs:Ud r)(dW:lo<=w.heap.size):
 fN aK 66 #[.agg (fW v r),.int .i64 call] w (Ya lo v w (mB r call)):=by
 obtain⟨gb,O,Z,fT,HO,HZ,eZ,jS,oS,HL⟩:=zgF h dW;clear h
 go_enter Tryz.func66,Tryz.ntmps66
 go_upto_region 1 with fail
 rw[<-HO.o,<-HZ.o,<-fT.o];obtain⟨W1,dH⟩:=aU ((w.alloc O).alloc Z);rw[<-dH] at eZ jS oS⊢;clear dH;have k:=aJ eZ.o.blk;obtain⟨k0,k1,k2,k3,k4,k5,k6,k7⟩:=eP k;clear k;have Pa:=hs.nr;have K6:=hs.nw;have nL:=hs.nb;have tP:=aD eZ.o.ok.slcR;have Ej:=aD eZ.o.ok.slcB;have Qe:gb+1≠v.gR:=by have:=HL.o;omega
 have zcW:gb+1≠v.gB:=by have:=HL.o;omega
 have z:=aJ jS.o;obtain⟨z0,z1,z2,z3,z4,z5,z6,z7⟩:=eP z;clear z;have r0:=eL jS.o;rcases wA:jL r.recs call with _|i
 .have Mn:=aD (zej wA)
  rcases uH:vC r.back call with _|j
  .have Pf:=aD (zej uH)
   have fI:=aD (show mB r call=(r,[103,111,110,101]) by unfold mB;rw[wA];simp[uH]);clear wA uH
   go_upto_region 9 with(first|(go_at_call 91;refine(Le lo W1.heap.size r.recs.length v.cR (some ⟨v.gR,0,none⟩) r.recs call W1 tP.o aC).mono ?_;rintro x w9 ⟨rfl,jH⟩;obtain rfl:=jH.symm;rw[Mn.o])|(go_at_call 92;refine(zci lo W1.heap.size r.back.length v.cB (some ⟨v.gB,0,none⟩) r.back call W1 Ej.o aC).mono ?_;rintro x w9 ⟨rfl,jH⟩;obtain rfl:=jH.symm;rw[Pf.o]))
   clear k0 k1 k2 k3 k4 k5 k6 k7 z0 z1 z2 z3 z4 z5 z6 z7 r0;have k:=aJ eZ.o.blk;obtain⟨k0,k1,k2,k3,k4,k5,k6,k7⟩:=eP k;clear k;have z:=aJ jS.o;obtain⟨z0,z1,z2,z3,z4,z5,z6,z7⟩:=eP z;clear z;have r0:=eL jS.o
   go_wp2_with fail
   have er:=aJ (sU v r jS.o);refine rM (v:=.tuple #[.agg (fW (v) (r)),.string ⟨([103,111,110,101]:List UInt8).toArray⟩]) ?_ rfl ?_
   .unfold gT at er
    simp[results,zfr,go_sem,er]
   .rw[fI.o]
    obtain⟨d1,d2,d3⟩:=eZ.o.done (b:=gb+1) aC;exact⟨v,rfl,d1,d2,d3⟩
  .have Pf:=aD (Xk uH)
   have znS:(0:Int)<=(j:Int):=aC;have fI:=aD (show mB r call=({r with back:=dX r.back call},[111,102,102]) by unfold mB;rw[wA];simp[uH]);clear wA uH
   go_upto_region 7 with(first|(go_at_call 91;refine(Le lo W1.heap.size r.recs.length v.cR (some ⟨v.gR,0,none⟩) r.recs call W1 tP.o aC).mono ?_;rintro x w9 ⟨rfl,jH⟩;obtain rfl:=jH.symm;rw[Mn.o])|(go_at_call 92;refine(zci lo W1.heap.size r.back.length v.cB (some ⟨v.gB,0,none⟩) r.back call W1 Ej.o aC).mono ?_;rintro x w9 ⟨rfl,jH⟩;obtain rfl:=jH.symm;rw[Pf.o]))
   have kf:=eL eZ.o.blk
   go_upto_region 8 with(go_at_call 95;refine(zd9 lo W1.heap.size r.back.length v.cB (some ⟨v.gB,0,none⟩) r.back call W1 Ej.o aC).mono ?_;rintro x w5 ⟨_,rfl,g5,c5,rfl,cP,b5⟩;have zdb:=aD cP;have Dx:=aD b5;have kx:=(eI b5 eZ.o.blk).1;have Ow:=aJ kx 6;have wO:=eL kx;clear cP b5 kx)
   obtain⟨W4,sP⟩:=aU (w5.setCell ⟨gb,6,none⟩ (.slice (some ⟨g5,0,none⟩) (dX r.back call).length c5));have Bn:=aD (show gQ w W4 lo gb 2 v {v with gB:=g5,cB:=c5} {r with back:=dX r.back call} by rw[sP];exact eZ.o.setB Dx.o zdb.o rfl);have Rw:=aD (show W4.heap[gb+1]? =some jX by rw[sP];exact(eH w5 _ _ (gb+1) S9).trans (eI Dx.o jS.o).1);rw[<-sP];clear sP Ow wO kf k0 k1 k2 k3 k4 k5 k6 k7 z0 z1 z2 z3 z4 z5 z6 z7 r0;obtain⟨v5,nJ⟩:=aU ({v with gB:=g5,cB:=c5}:fL);obtain⟨r5,fF⟩:=aU ({r with back:=dX r.back call}:bX);rw[<-nJ,<-fF] at Bn;rw[<-fF] at fI;clear nJ fF;have k:=aJ Bn.o.blk;obtain⟨k0,k1,k2,k3,k4,k5,k6,k7⟩:=eP k;clear k;have z:=aJ Rw.o;obtain⟨z0,z1,z2,z3,z4,z5,z6,z7⟩:=eP z;clear z;have r0:=eL Rw.o
   go_wp2_with fail
   have er:=aJ (sU v5 r5 Rw.o);refine rM (v:=.tuple #[.agg (fW (v5) (r5)),.string ⟨([111,102,102]:List UInt8).toArray⟩]) ?_ rfl ?_
   .unfold gT at er
    simp[results,zfr,go_sem,er]
   .rw[fI.o]
    obtain⟨d1,d2,d3⟩:=Bn.o.done (b:=gb+1) aC;exact⟨v5,rfl,d1,d2,d3⟩
 .have Mn:=aD (Xk wA)
  obtain⟨d,hd,-,-⟩:=B4 wA;have hi:=(kD.1 hd).1;have eV:(0:Int)<=(i:Int):=aC;have zU:(i:Int)<(r.recs.length:Int):=aC;have hop:opAt r.recs i=d.o:=by unfold opAt;rw[hd]
  obtain⟨c0,c1,c2,c3,c4,c5,c6⟩:=eZ.o.ok.recAt hd;have HD:=aD hd;by_cases zoX:0<d.o
  .have fI:=aD (show mB r call=(lE r i Gj,[100,111,110,101]) by unfold mB;rw[wA];simp only;rw[if_pos (by rw[hop];exact zoX)])
   clear wA hd hop
   go_upto_region 3 with(go_at_call 91;refine(Le lo W1.heap.size r.recs.length v.cR (some ⟨v.gR,0,none⟩) r.recs call W1 tP.o aC).mono ?_;rintro x w9 ⟨rfl,jH⟩;obtain rfl:=jH.symm;rw[Mn.o])
   clear c0 c1 c2 c3 c4 c5 c6 z0 z1 z2 z3 z4 z5 z6 z7 r0
   go_wp2_with (go_at_call 96;refine(zll lo i v r d Gj W1 eZ.o.ok HD.o aC aC zxD).mono ?_;rintro x w5 ⟨g5,c5,rfl,bU,jQ,J4⟩;obtain⟨v5,nJ⟩:=aU ({v with gW:=g5,cW:=c5}:fL);obtain⟨r5,fF⟩:=aU (lE r i Gj:bX);rw[<-nJ,<-fF] at bU⊢;have Zo:=aD nJ;have pL:=aD fF;have vP:=aD bU;have uU:=aD jQ;have zms:=aD J4;have kr:=jQ.blk jS.o Qe zcW;have sS:=aD kr;have z:=aJ kr;have r0:=eL kr;obtain⟨z0,z1,z2,z3,z4,z5,z6,z7⟩:=eP z;clear bU jQ J4 kr z nJ fF)
   have nJ:=Zo.o;have fF:=pL.o;rw[<-fF] at fI;have er:=aJ (sU v5 r5 sS.o);refine rM (v:=.tuple #[.agg (fW (v5) (r5)),.string ⟨([100,111,110,101]:List UInt8).toArray⟩]) ?_ rfl ?_
   .unfold gT at er
    simp[results,zfr,go_sem,er]
   .rw[fI.o]
    have hl:=HL.o;have hz:=oS.o;have hg:=zms.o;have eY:=fT.o;exact⟨v5,rfl,vP.o.set8 (by rw[nJ];simp only;omega),(eZ.o.turn.same uU.o).set8 aC,by rw[nJ];exact⟨.inl rfl,.inr Lt,.inl rfl,rfl⟩⟩
  .have fI:=aD (show mB r call=(lE r i Cc,[108,101,102,116]) by unfold mB;rw[wA];simp only;rw[if_neg (by rw[hop];exact zoX)])
   clear wA hd hop
   go_upto_region 5 with(go_at_call 91;refine(Le lo W1.heap.size r.recs.length v.cR (some ⟨v.gR,0,none⟩) r.recs call W1 tP.o aC).mono ?_;rintro x w9 ⟨rfl,jH⟩;obtain rfl:=jH.symm;rw[Mn.o])
   clear c0 c1 c2 c3 c4 c5 c6 z0 z1 z2 z3 z4 z5 z6 z7 r0
   go_wp2_with (go_at_call 96;refine(zll lo i v r d Cc W1 eZ.o.ok HD.o aC aC zxD).mono ?_;rintro x w5 ⟨g5,c5,rfl,bU,jQ,J4⟩;obtain⟨v5,nJ⟩:=aU ({v with gW:=g5,cW:=c5}:fL);obtain⟨r5,fF⟩:=aU (lE r i Cc:bX);rw[<-nJ,<-fF] at bU⊢;have Zo:=aD nJ;have pL:=aD fF;have vP:=aD bU;have uU:=aD jQ;have zms:=aD J4;have kr:=jQ.blk jS.o Qe zcW;have sS:=aD kr;have z:=aJ kr;have r0:=eL kr;obtain⟨z0,z1,z2,z3,z4,z5,z6,z7⟩:=eP z;clear bU jQ J4 kr z nJ fF)
   have nJ:=Zo.o;have fF:=pL.o;rw[<-fF] at fI;have er:=aJ (sU v5 r5 sS.o);refine rM (v:=.tuple #[.agg (fW (v5) (r5)),.string ⟨([108,101,102,116]:List UInt8).toArray⟩]) ?_ rfl ?_
   .unfold gT at er
    simp[results,zfr,go_sem,er]
   .rw[fI.o]
    have hl:=HL.o;have hz:=oS.o;have hg:=zms.o;have eY:=fT.o;exact⟨v5,rfl,vP.o.set8 (by rw[nJ];simp only;omega),(eZ.o.turn.same uU.o).set8 aC,by rw[nJ];exact⟨.inl rfl,.inr Lt,.inl rfl,rfl⟩⟩
def cY (r:bX)(m:Int)(k:Nat):bX×List UInt8:=(r.wait.take k).foldl l7 ({r with clk:=r.clk+m},[97,116,32]++jK (r.clk+m))
variable {m:Int}{k:Nat}{x:bJ}
def zd1 (h:r.wait[k]? =some x):cY r m (k+1)=l7 (cY r m k) x:=by
 unfold cY;rw[Nf,h,zjC];rfl
def zbz (r:bX)(m:Int):cY r m r.wait.length=uR r m:=by
 unfold cY uR;rw[zB (aX _)]
def za2 (rs:List bR)(c:Int):(jL rs c).isSome=rs.any (Au c):=by unfold jL;exact List.findIdx?_isSome
variable {d:bR}{f:bR->bR}
def zrN (hd:rs[i]? =some d)(hc:d.c≠c)(h:(jL rs c).isSome=true):(jL (rs.modify i f) c).isSome=true:=by
 rw[za2,Sx] at*;obtain⟨x,hx,hp⟩:=h;obtain⟨j,hj,e⟩:=L9.1 hx;have eR:i≠j:=by
  intro e2;subst e2;rw[lX hj,e] at hd;injection hd with hd;unfold Au at hp;simp at hp;exact hc (hd▸hp.1)
 refine⟨x,?_,hp⟩;refine G5.2 ⟨j,?_⟩;rw[zM,lX hj,e];simp[eR]
structure TiredOk (r:bX)(m:Int)(k:Nat):Prop where
 nrec:(cY r m k).1.recs.length=r.recs.length
 off:(cY r m k).1.o=r.o
 clk:(cY r m k).1.clk=r.clk+m
 nb:(cY r m k).1.back.length<=r.back.length+k
 nw:(cY r m k).1.wait.length<=r.wait.length
 txt:(cY r m k).2.length<=30+30*k
 has:∀j x,k<=j->r.wait[j]? =some x->(jL (cY r m k).1.recs x.c).isSome=true
 fr:∀d∈(cY r m k).1.recs,0<=d.f/\d.f<=100000
def Zp (xs:List bJ)(q:Int):(dX xs q).length<=xs.length:=zb5 _ _
def Qn (h0:0<=c)(h1:c<=1000000):(jK c).length<=20:=by
 obtain⟨n,rfl⟩:∃n:Nat,c=(n:Int):=⟨c.toNat,aC⟩;unfold jK;rw[Yc];exact Nk aC
variable {bt:bX×List UInt8}
def zcf (hi:jL bt.1.recs x.c=some i)(hd:bt.1.recs[i]? =some d):
 l7 bt x=if bt.1.o.pt<=bt.1.clk-d.f then({lE bt.1 i Fc with back:=bt.1.back++[x]},bt.2++[32]++jK x.c) else bt:=by
 unfold l7;rw[hi];simp only;rw[show We bt.1.recs i=d.f by unfold We;rw[hd]]
def zku (hq:zf4 r)(hn:(r.wait.map bJ.c).Nodup)(hf:∀d∈r.recs,0<=d.f/\d.f<=100000)(hc:0<=r.clk+m/\r.clk+m<=1000000):∀k,k<=r.wait.length->TiredOk r m k
 |0,_=>⟨rfl,rfl,rfl,aX _,aX _,by
  have:=Qn hc.1 hc.2;show([97,116,32]++jK (r.clk+m)).length<=_;rw[gN];simp only[pT,rR];omega,λj x _ hx=>hq.has x (dZ hx),hf⟩
 |k+1,hk=>by
  have T:=zku hq hn hf hc k aC;obtain⟨x,hx⟩:∃x,r.wait[k]? =some x:=⟨r.wait[k],lX aC⟩;obtain⟨i,hi⟩:=zi0.1 (T.has k x (aX _) hx);obtain⟨d,hd,zbn,-⟩:=B4 hi;have e:=zcf (bt:=cY r m k) hi hd;have e1:=zd1 (m:=m) hx;rw[e] at e1;have zBy:=hq.num x (dZ hx);have Bp:=Qn (c:=x.c) aC aC;by_cases hp:(cY r m k).1.o.pt<=(cY r m k).1.clk-d.f
  .rw[if_pos hp] at e1
   refine⟨?_,?_,?_,?_,?_,?_,?_,?_⟩<;>rw[e1]
   .show(zij _ _ _).length=_
    rw[F6];exact T.nrec
   .exact T.off
   .exact T.clk
   .have:=T.nb
    simp only[gN,pT,rR];omega
   .exact eG (Zp _ _) T.nw
   .have:=T.txt
    simp only[gN,pT,rR];omega
   .intro j y hj hy
    have zmC:d.c≠y.c:=by
     intro e2;rw[zbn] at e2;have uC:=(kD.1 hy).1;have zfm:=(kD.1 hx).1;have aT:=(List.pairwise_iff_getElem.1 hn) k j (by rw[zoS];exact zfm) (by rw[zoS];exact uC) aC;apply aT;rw[zrF,zrF];rw[lX zfm] at hx;rw[lX uC] at hy;injection hx with hx;injection hy with hy;rw[hx,hy,e2]
    exact zrN hd zmC (T.has j y aC hy)
   .intro z hz
    obtain⟨j,hj⟩:=G5.1 hz;have oZ:(zij (cY r m k).1.recs i λd=>{d with t:=(cY r m k).1.clk,e:=Fc})[j]? =some z:=hj;rw[zM] at oZ;rcases My:(cY r m k).1.recs[j]? with _|y
    .rw[My] at oZ;split at oZ<;>cases oZ
    .rw[My] at oZ
     have hy:=T.fr y (dZ My);split at oZ<;>(simp at oZ;subst oZ;exact hy)
  .rw[if_neg hp] at e1
   exact⟨by rw[e1];exact T.nrec,by rw[e1];exact T.off,by rw[e1];exact T.clk,by rw[e1];have:=T.nb;omega,by rw[e1];exact T.nw,by rw[e1];have:=T.txt;omega,by rw[e1];exact λj y hj hy=>T.has j y aC hy,by rw[e1];exact T.fr⟩
section
variable {w0 w w':aE}{lo gb k:Nat}{v0 v v':fL}{r r':bX}
def gQ.setClk {c:Int}(h:gQ w0 w lo gb k v0 v r):gQ w0 (w.setCell ⟨gb,3,none⟩ (.int .i64 c)) lo gb k v0 v {r with clk:=c}:=by
 have aR:=h.aR;have aW:=h.aW;have aB:=h.aB;have aL:=h.aL;have Mv:=h.base;have t:=h.turn;have kp:=h.kpos;refine⟨(h.ok.setCell aC).clock c,⟨t.os,t.tape,t.output,by rw[tD];exact t.size,λy hy e1 e2=>(eH w _ _ y zj0).trans (t.block y hy e1 e2)⟩,h.moved,h.base,?_,by rw[tD];exact h.size,h.kpos,aR,aW,aB,aL,h.lob⟩;rw[nH h.blk];rfl
def gQ.whole {n:Nat}(h:gQ w0 w lo gb k v0 v r)(ho:eA w' lo v' r')(t:oF v w w')(m:wS n v v')(hn:n=w.heap.size):
 gQ w0 (gT w' gb (.int .i64 r'.o.ln) (.int .i64 r'.o.op) (.int .i64 r'.o.pt) (.int .i64 r'.clk) (v'.sR r') (v'.sW r') (v'.sB r') (v'.sL r')) lo gb k v0 v' r':=by
 obtain⟨_,t2,m2,hb⟩:=h.turned ho t m hn;have aR:=h.aR;have aW:=h.aW;have aB:=h.aB;have aL:=h.aL;have mr:=m.r;have mw:=m.w;have mb:=m.b;have ml:=m.l;have sz:=h.size;have kp:=h.kpos;have Mv:=h.base;have tz:=t.size;refine⟨ho.set8 aC,t2.set8 aC,m2,h.base,zbq hb,by rw[zmL];omega,h.kpos,aC,aC,aC,aC,h.lob⟩
end
def zAZ {b x:Nat}{o:Obj}{a0 a1 a2 a3 a4 a5 a6 a7:aF}(h:w.heap[x]? =some o)(hx:x≠b):(gT w b a0 a1 a2 a3 a4 a5 a6 a7).heap[x]? =some o:=(Hl hx).trans h
def zGc (lo:Nat)(v:fL)(r:bX)(m:Int)(w:aE)(h:eA w lo v r)(hs:Ud r)(dW:lo<=w.heap.size)(hq:zf4 r)(lH:(r.wait.map bJ.c).Nodup)(fQ:∀d∈r.recs,0<=d.f/\d.f<=100000)(zuE:0<=m)(zfV:m<=100000):
 fN aK 67 #[.agg (fW v r),.int .i64 m] w (Ya lo v w (uR r m)):=by
 have fR:=h.ap;have zi3:=aD (zku (m:=m) hq lH fQ (by have:=hs.clk;omega));have zzK:=aD hq.num;have zpc:=(Ad hs.off).2.2.2.2;clear lH fQ hq;obtain⟨gb,O,Z,fT,HO,HZ,eZ,jS,oS,HL⟩:=zgF h dW;clear h
 go_enter Tryz.func67,Tryz.ntmps67
 go_upto_region 1 with fail
 rw[<-HO.o,<-HZ.o,<-fT.o];obtain⟨W1,dH⟩:=aU ((w.alloc O).alloc Z);rw[<-dH] at eZ jS oS⊢;clear dH;obtain⟨n,hn⟩:=aU r.wait.length;have nL:=hs.nb;have Bv:=hs.nr;have K6:n<=1000:=by rw[hn];exact hs.nw
 have Re:=aD hn;have D3:=hs.clk;obtain⟨zit,zyL⟩:=D3;obtain⟨ck,D3⟩:=aU r.clk;have F8:=aD D3;rw[<-D3] at zit zyL;have k:=aJ eZ.o.blk;obtain⟨k0,k1,k2,k3,k4,k5,k6,k7⟩:=eP k;clear k;have Wu:W1.cell? ⟨gb,3,none⟩=some (.int .i64 ck):=by rw[k3,F8.o];rfl
 have kf:=eL eZ.o.blk;clear k3 D3 hn;have nV:=aD (show gQ w (W1.setCell ⟨gb,3,none⟩ (.int .i64 (ck+m))) lo gb 2 v v {r with clk:=ck+m} from eZ.o.setClk)
 go_upto_region 2 with fail
 obtain⟨W2,qV⟩:=aU (W1.setCell ⟨gb,3,none⟩ (.int .i64 (ck+m)));rw[<-qV] at nV⊢;have Cy:=aD (show W2.heap[gb+1]? =some jX by rw[qV];exact(eH W1 _ _ (gb+1) S9).trans jS.o);clear k0 k1 k2 Wu k4 k5 k6 k7 kf qV;obtain⟨c2,nK⟩:∃c2:Nat,ck+m=(c2:Int):=⟨(ck+m).toNat,aC⟩;have zCx:c2<=100000000:=aC;have E6:(J9 (c2:Int)).length<=20:=by rw[Yc];exact Nk aC
 have S6:=aD nK;have k3:=aJ nV.o.blk 3;have Wu:W2.cell? ⟨gb,3,none⟩=some (.int .i64 (c2:Int)):=by rw[<-nK];exact k3
 clear k3 nK
 go_upto_region 3 with(go_at_call 94;refine(zbj c2 zCx _).mono ?_;rintro x w3 ⟨rfl,Wb⟩;have zcQ:=aD Wb;clear Wb)
 have zny:=aD (nV.o.keep zcQ.o);have zdd:=aD (eI zcQ.o Cy.o).1;have k5:=aJ zny.o.blk 5;have ztk:w3.cell? ⟨gb,5,none⟩=some (.slice (some ⟨v.gW,0,none⟩) n v.cW):=by rw[k5,Re.o];rfl
 clear k5 Wu;have zmt:=aD (show(⟨([97,116,32]++J9 (c2:Int):List UInt8).toArray⟩:ByteArray)=⟨(cY r m 0).2.toArray⟩ by show _=(⟨([97,116,32]++jK (r.clk+m):List UInt8).toArray⟩:ByteArray);rw[<-F8.o,S6.o];rfl);have zMn:=HL.o
 go_wp2_with fail
 go_loopw [6,8] (λt i wr=>∃(k:Nat) (v1:fL),k<=n/\i=.int .i64 k/\t=.string ⟨(cY r m k).2.toArray⟩/\gQ w wr lo gb 2 v v1 (cY r m k).1/\wr.heap[gb+1]? =some jX/\wr.ownsRow lo 100 2 (.slice (some ⟨v.gW,0,none⟩) n v.cW) n (bF r.wait)) (λ_ i _=>n-(intOf i).toNat)
 case atStart=>
  refine⟨0,v,jT _,rfl,?_,?_,zdd.o,?_⟩
  .rw[<-zmt.o];congr 1
  .have e:(cY r m 0).1={r with clk:=ck+m}:=by rw[F8.o];rfl
   rw[e];exact zny.o
  .have:=zny.o.ok.wt
   rw[Re.o];exact this
 case round=>
  obtain⟨k,v1,hk,rfl,rfl,fB,He,cD⟩:=hrel;have T:=zi3.o k (by have:=Re.o;omega);obtain⟨r1,j8⟩:=aU ((cY r m k).1);obtain⟨tx,zdS⟩:=aU ((cY r m k).2);have zun:=T.nrec;have zuy:=T.nb;have zx7:=T.nw;have zxz:=T.txt;have znd:=T.clk;have zlS:=T.off;have ztP:=aD T.fr;have zqF:=aD T.has;rw[<-j8] at fB zun zuy zx7 znd zlS ztP zqF;rw[<-zdS] at zxz⊢;have lO:=aD j8;have zht:=aD zdS;have uZ:=aD fB;have zeB:=aD He;have Pm:=aD cD;have zKY:r1.recs.length<=1000:=aC;have zIj:r1.back.length<=6000:=aC;have zzl:r1.wait.length<=1000:=by have:=hs.nw;omega
  have zKw:tx.length<=40000:=aC;have zjS:gb+2<=wr.heap.size:=fB.size;have zBT:=fB.moved.r;have zDL:=fB.moved.b;have zts:=aD znd;have y9:=aD zlS;clear T j8 zdS fB He cD zun zuy zx7 zxz znd zlS;by_cases aN:k<n
  .obtain⟨bx,ox,x,hA,-,-,zAb,eM,e0,e1⟩:=(zZ Pm.o aH).callsAt aN
   injection hA with hA;injection hA with zV zE;subst zV zE;simp only[qY] at e0 e1;obtain⟨i,wA⟩:=zi0.1 (zqF.o k x (aX _) eM);obtain⟨d,hd,zbn,-⟩:=B4 wA;have zBy:=zzK.o x (dZ eM);have hi:=(kD.1 hd).1;have eV:(0:Int)<=(i:Int):=aC;have zU:(i:Int)<(r1.recs.length:Int):=aC;have i0:(0:Int)<=(k:Int):=aC;have i1:(k:Int)<(n:Int):=aC;obtain⟨zKH,zJ2⟩:=ztP.o d (dZ hd);have uJ:=aD (show cY r m (k+1)=if r1.o.pt<=r1.clk-d.f then({lE r1 i Fc with back:=r1.back++[x]},tx++[32]++jK x.c) else(r1,tx) by
    rw[zd1 eM,zcf (i:=i) (d:=d) (by rw[<-lO.o];exact wA) (by rw[<-lO.o];exact hd),<-lO.o,<-zht.o];congr 1;rw[lO.o,zht.o])
   have Mn:=aD (Xk wA);have HD:=aD hd;have zk7:=aD eM;obtain⟨q,zhY⟩:=aU x.c;have HE:=aD (λnq:Nat=>fN.quiet_of (w:=wr) (n:=nq) ((Le lo wr.heap.size r1.recs.length v1.cR (some ⟨v1.gR,0,none⟩) r1.recs x.c (wr.drewN nq) (have hs:=uZ.o.ok.slcR;⟨hs.len,hs.le,hs.cap,hs.at_⟩) aC).mono λe w' hh=>by rw[Mn.o] at hh;exact⟨hh.1,0,hh.2⟩));obtain⟨c0,c1,zjQ,c3,c4,c5,c6⟩:=uZ.o.ok.recAt hd;clear wA hd zbn eM zhY;have k:=aJ uZ.o.blk;obtain⟨k0,k1,k2,k3,k4,k5,k6,k7⟩:=eP k;clear k
   go_wp2_with fail
   go_quiet ((go_at_call 91;exact HE.o _))
   go_wp2_with fail
   obtain⟨wq,rK⟩:=aU (wr.drewN nq);rw[<-rK];have zeo:=aD (show gQ w wq lo gb 2 v v1 r1 by rw[rK];exact uZ.o.keep ⟨rfl,rfl,rfl,aX _,λ_ _=>rfl⟩);have zpL:=aD (show wq.heap[gb+1]? =some jX by rw[rK];exact zeB.o);have zof:=aD (show wq.ownsRow lo 100 2 (.slice (some ⟨v.gW,0,none⟩) n v.cW) n (bF r.wait) by rw[rK];exact zH Pm.o (λ_ _=>rfl));replace e0:wq.cell? ⟨v.gW,k*2,none⟩=some (.int .i64 x.c):=by rw[rK];exact e0
   replace e1:wq.cell? ⟨v.gW,k*2+1,none⟩=some (.int .i64 x.p):=by rw[rK];exact e1
   have zGy:v.gW<wq.heap.size:=by rw[rK];exact zAb
   have Bd:gb+2<=wq.heap.size:=by rw[rK];exact zjS
   clear c0 c1 zjQ c3 c4 c5 c6 k0 k1 k2 k3 k4 k5 k6 k7 rK;obtain⟨c0,c1,zjQ,c3,c4,c5,c6⟩:=zeo.o.ok.recAt HD.o;have k:=aJ zeo.o.blk;obtain⟨k0,k1,k2,k3,k4,k5,k6,k7⟩:=eP k;clear k;have G6:0<=r1.clk:=by have:=zts.o;have:=F8.o;omega
   have uL:r1.clk<=200000:=by have:=zts.o;have:=F8.o;omega
   have rG:1<=r1.o.pt:=by rw[y9.o];exact zpc.1
   have Wb:r1.o.pt<=60:=by rw[y9.o];exact zpc.2
   by_cases hp:r1.o.pt<=r1.clk-d.f
   .replace uJ:=aD (show cY r m (k+1)=({lE r1 i Fc with back:=r1.back++[x]},tx++[32]++jK x.c) by rw[uJ.o,if_pos hp])
    go_quiet (fail)
    go_upto_region 9 with fail
    obtain⟨wz,uX⟩:=aU (wq.drewN nq);rw[<-uX];have Qm:=aD (show gQ w wz lo gb 2 v v1 r1 by rw[uX];exact zeo.o.keep ⟨rfl,rfl,rfl,aX _,λ_ _=>rfl⟩);have zAl:=aD (show wz.heap[gb+1]? =some jX by rw[uX];exact zpL.o);have zJs:=aD (show wz.ownsRow lo 100 2 (.slice (some ⟨v.gW,0,none⟩) n v.cW) n (bF r.wait) by rw[uX];exact zH zof.o (λ_ _=>rfl));have zDK:v.gW<wz.heap.size:=by rw[uX];exact zGy
    have zLr:gb+2<=wz.heap.size:=by rw[uX];exact Bd
    clear c0 c1 zjQ c3 c4 c5 c6 k0 k1 k2 k3 k4 k5 k6 k7 e0 e1 uX;have k:=aJ Qm.o.blk;obtain⟨k0,k1,k2,k3,k4,k5,k6,k7⟩:=eP k;clear k;have kf:=eL Qm.o.blk;have zCM:v.gW≠v1.gR:=by rcases zBT with e|e<;>omega
    have zyg:v.gW≠v1.gB:=by rcases zDL with e|e<;>omega
    have aR:=Qm.o.aR;have aB:=Qm.o.aB;have zHi:gb+1≠v1.gR:=aC;have zso:gb+1≠v1.gB:=aC;have L1:gb≠v1.gR:=aC;have zC:gb≠v1.gB:=aC;have zJS:=aD aR;have z8:=aD aB;have Um:lo<=wz.heap.size:=by have:=Qm.o.lob;omega
    clear aR aB
    go_upto_region 10 with(go_at_call 96;refine(zll lo i v1 r1 d Fc wz Qm.o.ok HD.o aC aC Um).mono ?_;rintro y w5 ⟨g5,c5,rfl,bU,jQ,J4⟩;obtain⟨v5,nJ⟩:=aU ({v1 with gW:=g5,cW:=c5}:fL);obtain⟨r5,fF⟩:=aU (lE r1 i Fc:bX);have kr:=jQ.blk Qm.o.blk L1 zC;have zJT:=aD kr;have zoE:wS wz.heap.size v1 v5:=(by rw[nJ];exact⟨.inl rfl,.inr J4,.inl rfl,rfl⟩);rw[<-nJ,<-fF] at bU⊢;have Zo:=aD nJ;have pL:=aD fF;have uU:=aD jQ;have Eb:=aD (Qm.o.whole bU jQ zoE rfl);have z:=aJ kr;have r0:=eL kr;obtain⟨z0,z1,z2,z3,z4,z5,z6,z7⟩:=eP z;clear bU jQ J4 kr z nJ fF zoE)
    obtain⟨W6,rN⟩:=aU (gT w5 gb (.int .i64 r5.o.ln) (.int .i64 r5.o.op) (.int .i64 r5.o.pt) (.int .i64 r5.clk) (v5.sR r5) (v5.sW r5) (v5.sB r5) (v5.sL r5));have Ul:=aD (show W6.heap[gb+1]? =some jX by rw[rN];exact zAZ (uU.o.blk zAl.o zHi zso) aC);have zuK:=aD (show W6.ownsRow lo 100 2 (.slice (some ⟨v.gW,0,none⟩) n v.cW) n (bF r.wait) by rw[rN];exact Bi zJs.o ((Hl aC).trans (uU.o.block v.gW zDK zCM zyg)));rw[<-rN] at Eb;unfold gT at rN;rw[<-rN];have zFj:v5.gR=v1.gR:=by rw[Zo.o]
    have zaS:v5.gB=v1.gB:=by rw[Zo.o]
    have zmK:r5.back=r1.back:=by rw[pL.o];rfl
    have zJ5:r5.back.length<=6000:=by rw[zmK];exact zIj
    have J1:=aD zmK;clear rN z0 z1 z2 z3 z4 z5 z6 z7 r0 k0 k1 k2 k3 k4 k5 k6 k7 kf zmK;obtain⟨bx,ox,x',hA,-,-,zrT,Co,e0,e1⟩:=(zZ zuK.o aH).callsAt aN;injection hA with hA;injection hA with zV zE;subst zV zE;rw[zk7.o] at Co;injection Co with Co;subst Co;simp only[qY] at e0 e1;have k6:=aJ Eb.o.blk 6;have zM3:gb+2<=W6.heap.size:=Eb.o.size;have Dt:=aD (show W6.cell? ⟨v.gW,k*2,none⟩=some (.int .i64 x.c)/\W6.cell? ⟨v.gW,k*2+1,none⟩=some (.int .i64 x.p) from⟨e0,e1⟩);have kB:∀o:Obj,(W6.alloc o).cell? ⟨gb,6,none⟩=some (v5.sB r5):=λo=>Ae k6 o;have zJ7:=aD zaS;have zz7:v5.gB≠gb:=by rw[zaS];exact Ne.symm zC
    have zBH:v5.gB≠gb+1:=by rw[zaS];exact Ne.symm zso
    have zKQ:v5.gB≠v.gW:=by rw[zaS];exact Ne.symm zyg
    have zMq:v.gW≠gb:=aC;obtain⟨ii,Oo,gX,eB,jZ⟩:=y8 zf1;have zaL:=aD Oo;clear Oo zFj zaS e0 e1;obtain⟨g1,c1,w7,fR,qE,pU,B1,Jm⟩:=zeF (P:=aK) (W6.alloc (.cells #[.int .i64 x.c,.int .i64 x.p] 100)).drew 57 57 lo 100 ii (.agg #[.int .i64 0,.int .i64 0]) 2 16 J6 zaL.o gX eB jZ rfl aH v5.gB v5.cB r5.back.length (bF r5.back) (zH Eb.o.ok.bk (λb hb=>qO _ _ b hb)) ⟨W6.heap.size,0,none⟩ 1 1 x.cells rfl (Fo (cs:=x.cells.toArray) (lF _ _)) Uu X2 aC (by have:=Eb.o.lob;simp;omega);have sM:=aD pU;have zbI:=aD qE;have zbm:=aD Jm;have kx:=(zG pU (dB Eb.o.blk _) (Ne.symm zz7)).1;have Ow:=aJ kx 6;have wO:=eL kx;clear qE pU B1 Jm kx;refine wp_WT10 W6 w7 gb v.gW _ _ v5.gB r5.back.length v5.cB g1 c1 k x.c x.p rfl rfl rfl rfl k6 Dt.o.1 Dt.o.2 aC fR Ow (wO _) rfl ?_;clear fR;rw[Go.Mt.Al,zql];simp only[Go.Mt.wL,dU,dV,zhU,lWT10,Dn,C9]
    go_upto_region 11 with fail
    have zvU:=aD (((Eb.o.alloc _).drew).appB (x:=x) sM.o zbI.o rfl zbm.o);have zwV:=aD ((eH w7 ⟨gb,6,none⟩ (.slice (some ⟨g1,0,none⟩) (r5.back.length+1) c1) (gb+1) S9).trans (zG sM.o (L3 (dB Ul.o _)) (Ne.symm zBH)).1);have zlW:=aD (Bi zuK.o ((eH w7 ⟨gb,6,none⟩ (.slice (some ⟨g1,0,none⟩) (r5.back.length+1) c1) v.gW (by show v.gW≠gb;omega)).trans ((sM.o.block v.gW zgV zgV).trans (qO _ _ v.gW aC))));obtain⟨W7,Cb⟩:=aU (w7.setCell ⟨gb,6,none⟩ (.slice (some ⟨g1,0,none⟩) (r5.back.length+1) c1));rw[<-Cb] at zvU zwV zlW⊢;clear Cb Ow wO k6 kB;obtain⟨bx,ox,x',hA,-,-,zKS,Co,e0,e1⟩:=(zZ zlW.o aH).callsAt aN;injection hA with hA;injection hA with zV zE;subst zV zE;rw[zk7.o] at Co;injection Co with Co;subst Co;simp only[qY] at e0 e1;obtain⟨p,zl5⟩:∃p:Nat,x.c=(p:Int):=⟨x.c.toNat,aC⟩;have zl1:p<=100000000:=aC;have zMH:(J9 (p:Int)).length<=20:=by rw[Yc];exact Nk aC
    rw[zl5] at e0;have zGY:=aD zl5;clear zl5 e1
    go_wp2_with (go_at_call 94;refine(zbj p zl1 _).mono ?_;rintro y w8 ⟨rfl,K4⟩;have zkk:=aD K4;clear K4)
    go_roundw
    case rel=>
     refine⟨k+1,{v5 with gB:=g1,cB:=c1},aC,mV,?_,?_,(eI zkk.o zwV.o).1,zvm zlW.o zkk.o⟩
     .rw[uJ.o];simp[I9,jK,zGY.o]
     .rw[uJ.o]
      have:=zvU.o.keep zkk.o;rw[J1.o,pL.o] at this;exact this
    case measure=>simp[intOf];omega
   .replace uJ:=aD (show cY r m (k+1)=(r1,tx) by rw[uJ.o,if_neg hp])
    go_quiet (fail)
    go_wp2;go_roundw
    case rel=>exact⟨k+1,v1,aC,mV,by rw[uJ.o],by rw[uJ.o];exact zeo.o.keep ⟨rfl,rfl,rfl,aX _,λ_ _=>rfl⟩,zpL.o,zH zof.o (λ_ _=>rfl)⟩
    case measure=>simp[intOf];omega
  .have e:k=n:=aC
   subst e;have zgS:=aD (show uR r m=(r1,tx) by rw[<-zbz,<-Re.o,lO.o,zht.o]);have k:=aJ uZ.o.blk;obtain⟨k0,k1,k2,k3,k4,k5,k6,k7⟩:=eP k;clear k;have z:=aJ zeB.o;obtain⟨z0,z1,z2,z3,z4,z5,z6,z7⟩:=eP z;clear z;have r0:=eL zeB.o
   go_wp2_with fail
   have er:=aJ (sU v1 r1 zeB.o);refine rM (v:=.tuple #[.agg (fW (v1) (r1)),.string ⟨(tx:List UInt8).toArray⟩]) ?_ rfl ?_
   .unfold gT at er
    simp[results,Tryz.results67,go_sem,er]
   .rw[zgS.o]
    obtain⟨d1,d2,d3⟩:=uZ.o.done (b:=gb+1) aC;exact⟨v1,rfl,d1,d2,d3⟩
structure zw8 (r:bX):Prop where
 small:Ud r
 waits:zf4 r
 nodup:(r.wait.map bJ.c).Nodup
 backs:∀x∈r.back,1<=x.c/\x.c<=99
 froms:∀d∈r.recs,0<=d.f/\d.f<=100000
variable {ops:Int}{e:dD}
def event_a (h:sO ops e=true)(ho:ops<=4):0<=e.a/\e.a<=100000:=by
 have h:=of_decide_eq_true h;unfold L8 at h;omega
abbrev zwj (e:dD):Obj:=.cells #[.string e.k,.int .i64 e.a,.int .i64 e.b] 54
def zv3 (lo:Nat)(v:fL)(r:bX)(e:dD)(w:aE)(h:eA w lo v r)(hs:zw8 r)(dW:lo<=w.heap.size)(he:sO r.o.op e=true):
 fN aK 51 #[.agg (fW v r),.agg #[.string e.k,.int .i64 e.a,.int .i64 e.b]] w (Ya lo v w (eN r e)):=by
 obtain⟨Ou,Bf⟩:=event_a he (Ad hs.small.off).2.2.2.1;obtain⟨gb,eY⟩:=aU w.heap.size;have hl:=h.lts;obtain⟨O,hO⟩:=aU (.cells (fW v r) 59:Obj);obtain⟨C,hC⟩:=aU (zwj e:Obj);obtain⟨Z,hZ⟩:=aU (jX:Obj);have jC:(((w.alloc O).alloc C).alloc Z).heap[gb]? =some (yA v r):=by rw[hO,eY];exact dB (dB (lF _ _) _) _
 have y6:(((w.alloc O).alloc C).alloc Z).heap[gb+1]? =some (zwj e):=by rw[hC,eY];exact dB (mI _ _ aO) _
 have nZ:(((w.alloc O).alloc C).alloc Z).heap[gb+2]? =some jX:=by rw[<-hZ];exact mI _ _ Vy
 have eB:(((w.alloc O).alloc C).alloc Z).heap.size=gb+3:=by rw[eY];simp
 have eZ:=aD (show gQ w (((w.alloc O).alloc C).alloc Z) lo gb 3 v v r from⟨((h.alloc O).alloc C).alloc Z,oF.of_below v (dN (dN (dN (eF _ _) _) _) _),wS.refl _ _,eY,jC,by rw[eB];exact aX _,aC,.inl aC,.inl aC,.inl aC,.inl aC,aC⟩);have oS:=aD eB;have jS:=aD nZ;have lS:=aD y6;have HO:=aD hO;have HC:=aD (show C=.cells #[.string e.k,.int .i64 e.a,.int .i64 e.b] 54 from hC);have HZ:=aD (show Z=.cells #[.int .i64 0,.int .i64 0,.int .i64 0,.int .i64 0,.slice none 0 0,.slice none 0 0,.slice none 0 0,.slice none 0 0] 59 from hZ);have fT:=aD eY;have HL:=aD (show v.gR<gb/\v.gW<gb/\v.gB<gb/\v.gL<gb by omega);clear hO hC hZ eY jC nZ y6 eB h hl
 go_enter Tryz.func51,Tryz.ntmps51
 go_upto_region 1 with fail
 rw[<-HO.o,<-HC.o,<-HZ.o,<-fT.o];obtain⟨W1,dH⟩:=aU (((w.alloc O).alloc C).alloc Z);rw[<-dH] at eZ jS lS oS⊢;clear dH;have k:=aJ eZ.o.blk;obtain⟨k0,k1,k2,k3,k4,k5,k6,k7⟩:=eP k;clear k;have q:=aJ lS.o;obtain⟨q0,q1,q2⟩:=zyd q;clear q;have hl:=HL.o;have L1:gb+2≠v.gR:=aC;have zC:gb+2≠v.gB:=aC;have Um:lo<=W1.heap.size:=by have:=eZ.o.lob;have:=oS.o;omega
 clear hl;cases h0:(e.k.toList==[114,105,110,103])
 case true=>
  have uJ:=aD (show eN r e=qB r ⟨e.a,e.b⟩ by unfold eN;rw[if_pos (show e.k.toList=Hz from eq_of_beq h0)])
  go_wp2_with (go_at_call 63;refine(zDR lo v r ⟨e.a,e.b⟩ W1 eZ.o.ok hs.small Um).mono ?_;rintro y w5 ⟨v5,rfl,bU,jQ,wZ⟩;obtain⟨r5,fF⟩:=aU ((qB r ⟨e.a,e.b⟩).1:bX);obtain⟨t5,oQ⟩:=aU ((qB r ⟨e.a,e.b⟩).2:List UInt8);rw[<-fF] at bU⊢;rw[<-oQ];have pL:=aD fF;have xL:=aD oQ;have vP:=aD bU;have uU:=aD jQ;have oH:=aD wZ;have kr:=jQ.blk jS.o L1 zC;have sS:=aD kr;have z:=aJ kr;have r0:=eL kr;obtain⟨z0,z1,z2,z3,z4,z5,z6,z7⟩:=eP z;clear fF oQ bU jQ wZ kr z)
  have er:=aJ (sU v5 r5 sS.o);refine rM (v:=.tuple #[.agg (fW (v5) (r5)),.string ⟨(t5:List UInt8).toArray⟩]) ?_ rfl ?_
  .unfold gT at er
   simp[results,zaJ,go_sem,er]
  .rw[uJ.o]
   have hl:=HL.o;have hz:=oS.o;have eY:=fT.o;have mr:=oH.o.r;have mw:=oH.o.w;have mb:=oH.o.b;have ml:=oH.o.l;refine⟨v5,by rw[pL.o,xL.o],by rw[<-pL.o];exact vP.o.set8 aC,(eZ.o.turn.same uU.o).set8 aC,⟨mr.imp id (λx=>by omega),mw.imp id (λx=>by omega),mb.imp id (λx=>by omega),ml⟩⟩
 case false=>
  cases h1:(e.k.toList==[97,110,115,119,101,114])
  case true=>
   have uJ:=aD (show eN r e=nO r e.a by unfold eN;rw[if_neg zfI];rw[if_pos (show e.k.toList=Ii from eq_of_beq h1)])
   go_wp2_with (go_at_call 64;refine(zy6 lo v r e.a W1 eZ.o.ok hs.small Um hs.waits).mono ?_;rintro y w5 ⟨v5,rfl,bU,jQ,wZ⟩;obtain⟨r5,fF⟩:=aU ((nO r e.a).1:bX);obtain⟨t5,oQ⟩:=aU ((nO r e.a).2:List UInt8);rw[<-fF] at bU⊢;rw[<-oQ];have pL:=aD fF;have xL:=aD oQ;have vP:=aD bU;have uU:=aD jQ;have oH:=aD wZ;have kr:=jQ.blk jS.o L1 zC;have sS:=aD kr;have z:=aJ kr;have r0:=eL kr;obtain⟨z0,z1,z2,z3,z4,z5,z6,z7⟩:=eP z;clear fF oQ bU jQ wZ kr z)
   have er:=aJ (sU v5 r5 sS.o);refine rM (v:=.tuple #[.agg (fW (v5) (r5)),.string ⟨(t5:List UInt8).toArray⟩]) ?_ rfl ?_
   .unfold gT at er
    simp[results,zaJ,go_sem,er]
   .rw[uJ.o]
    have hl:=HL.o;have hz:=oS.o;have eY:=fT.o;have mr:=oH.o.r;have mw:=oH.o.w;have mb:=oH.o.b;have ml:=oH.o.l;refine⟨v5,by rw[pL.o,xL.o],by rw[<-pL.o];exact vP.o.set8 aC,(eZ.o.turn.same uU.o).set8 aC,⟨mr.imp id (λx=>by omega),mw.imp id (λx=>by omega),mb.imp id (λx=>by omega),ml⟩⟩
  case false=>
   cases h2:(e.k.toList==[114,101,116,117,114,110])
   case true=>
    have uJ:=aD (show eN r e=l6 r e.a by unfold eN;rw[if_neg zfI];rw[if_neg zjt];rw[if_pos (show e.k.toList=Hw from eq_of_beq h2)])
    go_wp2_with (go_at_call 65;refine(zyV lo v r e.a W1 eZ.o.ok hs.small Um hs.backs).mono ?_;rintro y w5 ⟨v5,rfl,bU,jQ,wZ⟩;obtain⟨r5,fF⟩:=aU ((l6 r e.a).1:bX);obtain⟨t5,oQ⟩:=aU ((l6 r e.a).2:List UInt8);rw[<-fF] at bU⊢;rw[<-oQ];have pL:=aD fF;have xL:=aD oQ;have vP:=aD bU;have uU:=aD jQ;have oH:=aD wZ;have kr:=jQ.blk jS.o L1 zC;have sS:=aD kr;have z:=aJ kr;have r0:=eL kr;obtain⟨z0,z1,z2,z3,z4,z5,z6,z7⟩:=eP z;clear fF oQ bU jQ wZ kr z)
    have er:=aJ (sU v5 r5 sS.o);refine rM (v:=.tuple #[.agg (fW (v5) (r5)),.string ⟨(t5:List UInt8).toArray⟩]) ?_ rfl ?_
    .unfold gT at er
     simp[results,zaJ,go_sem,er]
    .rw[uJ.o]
     have hl:=HL.o;have hz:=oS.o;have eY:=fT.o;have mr:=oH.o.r;have mw:=oH.o.w;have mb:=oH.o.b;have ml:=oH.o.l;refine⟨v5,by rw[pL.o,xL.o],by rw[<-pL.o];exact vP.o.set8 aC,(eZ.o.turn.same uU.o).set8 aC,⟨mr.imp id (λx=>by omega),mw.imp id (λx=>by omega),mb.imp id (λx=>by omega),ml⟩⟩
   case false=>
    cases h3:(e.k.toList==[104,97,110,103])
    case true=>
     have uJ:=aD (show eN r e=mB r e.a by unfold eN;rw[if_neg zfI];rw[if_neg zjt];rw[if_neg zq1];rw[if_pos (show e.k.toList=Kf from eq_of_beq h3)])
     go_wp2_with (go_at_call 66;refine(zIE lo v r e.a W1 eZ.o.ok hs.small Um).mono ?_;rintro y w5 ⟨v5,rfl,bU,jQ,wZ⟩;obtain⟨r5,fF⟩:=aU ((mB r e.a).1:bX);obtain⟨t5,oQ⟩:=aU ((mB r e.a).2:List UInt8);rw[<-fF] at bU⊢;rw[<-oQ];have pL:=aD fF;have xL:=aD oQ;have vP:=aD bU;have uU:=aD jQ;have oH:=aD wZ;have kr:=jQ.blk jS.o L1 zC;have sS:=aD kr;have z:=aJ kr;have r0:=eL kr;obtain⟨z0,z1,z2,z3,z4,z5,z6,z7⟩:=eP z;clear fF oQ bU jQ wZ kr z)
     have er:=aJ (sU v5 r5 sS.o);refine rM (v:=.tuple #[.agg (fW (v5) (r5)),.string ⟨(t5:List UInt8).toArray⟩]) ?_ rfl ?_
     .unfold gT at er
      simp[results,zaJ,go_sem,er]
     .rw[uJ.o]
      have hl:=HL.o;have hz:=oS.o;have eY:=fT.o;have mr:=oH.o.r;have mw:=oH.o.w;have mb:=oH.o.b;have ml:=oH.o.l;refine⟨v5,by rw[pL.o,xL.o],by rw[<-pL.o];exact vP.o.set8 aC,(eZ.o.turn.same uU.o).set8 aC,⟨mr.imp id (λx=>by omega),mw.imp id (λx=>by omega),mb.imp id (λx=>by omega),ml⟩⟩
    case false=>
     have uJ:=aD (show eN r e=uR r e.a by unfold eN;rw[if_neg zfI];rw[if_neg zjt];rw[if_neg zq1];rw[if_neg (by intro e2;rw[e2] at h3;exact absurd h3 aH)])
     go_wp2_with (go_at_call 67;refine(zGc lo v r e.a W1 eZ.o.ok hs.small Um hs.waits hs.nodup hs.froms Ou Bf).mono ?_;rintro y w5 ⟨v5,rfl,bU,jQ,wZ⟩;obtain⟨r5,fF⟩:=aU ((uR r e.a).1:bX);obtain⟨t5,oQ⟩:=aU ((uR r e.a).2:List UInt8);rw[<-fF] at bU⊢;rw[<-oQ];have pL:=aD fF;have xL:=aD oQ;have vP:=aD bU;have uU:=aD jQ;have oH:=aD wZ;have kr:=jQ.blk jS.o L1 zC;have sS:=aD kr;have z:=aJ kr;have r0:=eL kr;obtain⟨z0,z1,z2,z3,z4,z5,z6,z7⟩:=eP z;clear fF oQ bU jQ wZ kr z)
     have er:=aJ (sU v5 r5 sS.o);refine rM (v:=.tuple #[.agg (fW (v5) (r5)),.string ⟨(t5:List UInt8).toArray⟩]) ?_ rfl ?_
     .unfold gT at er
      simp[results,zaJ,go_sem,er]
     .rw[uJ.o]
      have hl:=HL.o;have hz:=oS.o;have eY:=fT.o;have mr:=oH.o.r;have mw:=oH.o.w;have mb:=oH.o.b;have ml:=oH.o.l;refine⟨v5,by rw[pL.o,xL.o],by rw[<-pL.o];exact vP.o.set8 aC,(eZ.o.turn.same uU.o).set8 aC,⟨mr.imp id (λx=>by omega),mw.imp id (λx=>by omega),mb.imp id (λx=>by omega),ml⟩⟩
structure RInv (b:bX):Prop where
 off:qJ b.o=true
 clk:0<=b.clk
 nodup:(b.wait.map bJ.c).Nodup
 hasrec:∀x∈b.wait,(jL b.recs x.c).isSome=true
 recB:∀d∈b.recs,1<=d.c/\d.c<=99/\1<=d.l/\d.l<=6/\0<=d.o/\d.o<=4/\0<=d.f/\d.f<=b.clk
 waitB:∀x∈b.wait,1<=x.c/\x.c<=99
 backB:∀x∈b.back,1<=x.c/\x.c<=99
structure Kx (b:bX)(k:Nat):Prop where
 clk:b.clk<=60*k
 nrec:b.recs.length<=k
 nw:b.wait.length<=k
 nb:b.back.length<=60*k
 nl:b.log.length=k
def RInv.good (h:RInv b)(c:Kx b k)(hk:k<=60):zw8 b:=
 ⟨
  ⟨h.off,by have:=c.nrec;omega,by have:=c.nw;omega,by have:=c.nb;omega,by have:=c.nl;omega,⟨h.clk,by have:=c.clk;omega⟩⟩,⟨h.hasrec,h.waitB⟩,h.nodup,h.backB,
  λd hd=>by have:=h.recB d hd;have:=c.clk;omega⟩
def RInv.zero (h:qJ o=true):RInv (mP o):=⟨h,zoG _,List.nodup_nil,λx hx=>(by cases hx),λd hd=>(by cases hd),λx hx=>(by cases hx),λx hx=>(by cases hx)⟩
def Kx.zero (o:jG):Kx (mP o) 0:=⟨zoG _,aX _,aX _,aX _,rfl⟩
variable {xs:List bJ}{q:Int}
def Dg (h:x∈dX xs q):x∈xs/\x.c≠q:=by
 unfold dX at h;rw[Jd] at h;exact⟨h.1,by simpa using h.2⟩
def zdZ (h:(xs.map bJ.c).Nodup):((dX xs q).map bJ.c).Nodup:=
 zJg (zFN _ List.filter_sublist) h
def Uo {z:bR}(h:z∈rs.modify i f):∃d∈rs,z=d\/z=f d:=by
 obtain⟨j,hj⟩:=G5.1 h;rw[zM] at hj;rcases My:rs[j]? with _|y
 .rw[My] at hj;cases hj
 .rw[My] at hj
  refine⟨y,dZ My,?_⟩;simp at hj;split at hj
  .exact .inr hj.symm
  .exact .inl hj.symm
def zsT {qs:List bR}(h:(jL rs c).isSome=true):(jL (rs++qs) c).isSome=true:=by
 rw[za2] at*;rw[zov,h];rfl
def zBE (hf:∀d,(f d).c=d.c/\(f d).e=d.e)(h:(jL rs c).isSome=true):(jL (rs.modify i f) c).isSome=true:=by
 rw[za2,Sx] at*;obtain⟨x,hx,hp⟩:=h;obtain⟨j,hj,e⟩:=L9.1 hx;have yR:Au c (f x)=true:=by unfold Au eK at*;rw[(hf x).1,(hf x).2];exact hp
 by_cases eR:i=j
 .refine⟨f x,G5.2 ⟨j,?_⟩,yR⟩
  rw[zM,lX hj,e];simp[eR]
 .refine⟨x,G5.2 ⟨j,?_⟩,hp⟩
  rw[zM,lX hj,e];simp[eR]
def RInv.ends (h:RInv b)(hd:b.recs[i]? =some d)(e:ByteArray):RInv (lE b i e):=by
 refine⟨h.off,h.clk,zdZ h.nodup,?_,?_,λx hx=>h.waitB x (Dg hx).1,h.backB⟩
 .intro x hx
  have hx:x∈dX b.wait (Gz b.recs i):=hx;rw[Tc hd] at hx;obtain⟨h1,h2⟩:=Dg hx;exact zrN hd (Ne.symm h2) (h.hasrec x h1)
 .intro z hz
  obtain⟨y,hy,e1|e1⟩:=Uo hz
  .subst e1;exact h.recB _ hy
  .subst e1;exact h.recB y hy
def RInv.tire {t:List UInt8}(h:RInv b)(hx:1<=x.c/\x.c<=99):RInv (l7 (b,t) x).1:=by
 rcases ho:jL b.recs x.c with _|i
 .have:l7 (b,t) x=(b,t):=by unfold l7;simp only[ho]
  rw[this];exact h
 .obtain⟨d,hd,-,-⟩:=B4 ho
  rw[zcf (bt:=(b,t)) ho hd];split
  .have e:=h.ends hd Fc
   exact⟨e.off,e.clk,e.nodup,e.hasrec,e.recB,e.waitB,λy hy=>by
    rw[Ee] at hy;rcases hy with hy|hy
    .exact h.backB y hy
    .simp at hy;subst hy;exact hx⟩
  .exact h
def RInv.tires:∀(xs:List bJ) (b:bX) (t:List UInt8),RInv b->(∀x∈xs,1<=x.c/\x.c<=99)->RInv (xs.foldl l7 (b,t)).1
 |[],b,t,h,_=>h
 |x::xs,b,t,h,hx=>by
  rw[Qd];have h1:=h.tire (t:=t) (hx x aO);obtain⟨b',t',e⟩:∃b' t',l7 (b,t) x=(b',t'):=⟨_,_,rfl⟩;rw[e] at h1⊢;exact RInv.tires xs b' t' h1 (λy hy=>hx y (by simp[hy]))
def zhc (ho:qJ o=true)(h:l∈oJ o rs):1<=l/\l<=6:=by
 have:=zeI h;have:=(Ad ho).2.1;omega
def Z7 (xs:List bJ)(c:bJ):(uB xs c).Perm (c::xs):=by
 unfold uB;refine(List.perm_middle).trans ?_;rw[List.takeWhile_append_dropWhile]
def zEw (xs:List bJ)(c:bJ):(uB xs c).length=xs.length+1:=by rw[(Z7 xs c).length_eq];rfl
def zI6 (h:sO ops e=true)(he:e.k.toList=Hz):1<=e.a/\e.a<=99:=by
 have h:=of_decide_eq_true h;unfold L8 at h;rcases h with h|h|⟨h|h,_⟩|h
 .omega
 all_goals(first|(rw[h.1] at he;exact absurd he aH)|(rw[h] at he;exact absurd he aH))
def zfp (h:sO ops e=true)(he:e.k.toList=Ii\/e.k.toList=Hw):1<=e.a/\e.a<=ops:=by
 have h:=of_decide_eq_true h;unfold L8 at h;rcases h with h|h|h|h
 .rw[h.1] at he;exact absurd he aH
 .rw[h.1] at he;exact absurd he aH
 .exact⟨h.2.1,h.2.2.1⟩
 .rw[h.1] at he;exact absurd he aH
def zGE (h:sO ops e=true)(h1:e.k.toList≠Hz)(h2:e.k.toList≠Ii)(h3:e.k.toList≠Hw)(h4:e.k.toList≠Kf):1<=e.a/\e.a<=60:=by
 have h:=of_decide_eq_true h;unfold L8 at h;rcases h with h|h|⟨h|h,_⟩|h
 .exact absurd h.1 h1
 .exact absurd h.1 h4
 .exact absurd h h2
 .exact absurd h h3
 .exact⟨h.2.1,h.2.2.1⟩
def zfd:eU.toList=[111,112,101,110]:=by decide+kernel
def RInv.step (h:RInv b)(hc:Kx b k)(he:sO b.o.op e=true)(hk:k<=60):RInv (eN b e).1/\Kx (Ed (eN b e)) (k+1)/\(eN b e).1.o=b.o/\(eN b e).1.log=b.log:=by
 have zJX:=Ad h.off;have c1:=hc.clk;have c2:=hc.nrec;have c3:=hc.nw;have c4:=hc.nb;have c5:=hc.nl;have key:∀bt:bX×List UInt8,RInv bt.1->bt.1.o=b.o->bt.1.log=b.log->bt.1.clk<=b.clk+60->bt.1.recs.length<=b.recs.length+1->bt.1.wait.length<=b.wait.length+1->bt.1.back.length<=b.back.length+60->RInv bt.1/\Kx (Ed bt) (k+1)/\bt.1.o=b.o/\bt.1.log=b.log:=by
  intro bt hi ho hl zJU hr hw wX;refine⟨hi,⟨by show bt.1.clk<=_;omega,by show bt.1.recs.length<=_;omega,by show bt.1.wait.length<=_;omega,by show bt.1.back.length<=_;omega,?_⟩,ho,hl⟩;show(bt.1.log++[bt.2]).length=_;rw[gN,hl,c5];rfl
 have same:∀t,RInv (b,t).1/\Kx (Ed (b,t)) (k+1)/\(b,t).1.o=b.o/\(b,t).1.log=b.log:=λt=>key (b,t) h rfl rfl (by show b.clk<=_;omega) (by show b.recs.length<=_;omega) (by show b.wait.length<=_;omega) (by show b.back.length<=_;omega);unfold eN;by_cases e1:e.k.toList=Hz
 .rw[if_pos e1]
  obtain⟨a1,a2⟩:=zI6 he e1;unfold qB;split
  .exact same _
  .rename_i dG
   rw[Ey,not_or] at dG;rcases hf:oJ b.o b.recs with _|⟨l,fs⟩
   .refine key (_,_) ⟨h.off,h.clk,h.nodup,h.hasrec,h.recB,h.waitB,λx hx=>?_⟩ rfl rfl ?_ ?_ ?_ ?_
    .rw[Ee] at hx
     rcases hx with hx|hx
     .exact h.backB x hx
     .simp at hx;subst hx;exact⟨a1,a2⟩
    all_goals simp only[gN,pT,rR]
    all_goals omega
   .have Ws:=zhc h.off (l:=l) Vp
    refine key (_,_) ⟨h.off,h.clk,?_,?_,?_,?_,h.backB⟩ rfl rfl ?_ ?_ ?_ ?_
    .show((uB b.wait ⟨e.a,e.b⟩).map bJ.c).Nodup
     refine((Z7 b.wait ⟨e.a,e.b⟩).map bJ.c).nodup_iff.2 ?_;rw[fO,List.nodup_cons];refine⟨λhm=>?_,h.nodup⟩;obtain⟨x,hx,zzF⟩:=Ia.1 hm;have:=h.hasrec x hx;rw[zzF] at this;exact dG.1 this
    .intro x hx
     have hx:=(Z7 b.wait ⟨e.a,e.b⟩).mem_iff.1 hx;rcases jJ.1 hx with rfl|hx
     .show(jL (b.recs++_) e.a).isSome=true
      rw[za2,zov];have:Au e.a ⟨e.a,l,0,b.clk,-1,-1,eU⟩=true:=by unfold Au eK;simp;exact zfd
      simp[this]
     .exact zsT (h.hasrec x hx)
    .intro d hd
     rcases Ee.1 hd with hd|hd
     .exact h.recB d hd
     .simp at hd;subst hd
      have:=h.clk;simp only;omega
    .intro x hx
     have hx:=(Z7 b.wait ⟨e.a,e.b⟩).mem_iff.1 hx;rcases jJ.1 hx with rfl|hx
     .exact⟨a1,a2⟩
     .exact h.waitB x hx
    all_goals simp only[gN,pT,rR,zEw]
    all_goals omega
 rw[if_neg e1];by_cases e2:e.k.toList=Ii
 .rw[if_pos e2]
  obtain⟨a1,a2⟩:=zfp he (.inl e2);by_cases lP:0<dA b.recs e.a
  .have e9:nO b e.a=(b,[116,97,108,107,115]):=by unfold nO;rw[if_pos lP]
   rw[e9];exact same _
  .rcases hw:b.wait with _|⟨c,cs⟩
   .have e9:nO b e.a=(b,[110,111,110,101]):=by unfold nO;rw[if_neg lP,hw]
    rw[e9];exact same _
   .rcases ho:jL b.recs c.c with _|i
    .have e9:nO b e.a=(b,[]):=by unfold nO;rw[if_neg lP,hw];simp only[ho]
     rw[e9];exact same _
    .have e9:nO b e.a=({b with recs:=b.recs.modify i λd=>{d with o:=e.a,h:=b.clk},wait:=dX b.wait c.c},[99,97,108,108,32]++jK c.c):=by unfold nO;rw[if_neg lP,hw];simp only[ho]
     rw[e9];refine key (_,_) ⟨h.off,h.clk,zdZ h.nodup,?_,?_,?_,h.backB⟩ rfl rfl ?_ ?_ ?_ ?_
     .intro x hx
      exact zBE (λd=>⟨rfl,rfl⟩) (h.hasrec x (Dg hx).1)
     .intro z hz
      obtain⟨y,hy,q|q⟩:=Uo hz
      .subst q;exact h.recB _ hy
      .subst q
       have:=h.recB y hy;simp only;omega
     .intro x hx
      exact h.waitB x (Dg hx).1
     all_goals simp only[F6]
     .omega
     .omega
     .have:=Zp b.wait c.c;omega
     .omega
 rw[if_neg e2];by_cases e3:e.k.toList=Hw
 .rw[if_pos e3]
  obtain⟨a1,a2⟩:=zfp he (.inr e3);by_cases lP:0<dA b.recs e.a
  .have e9:l6 b e.a=(b,[116,97,108,107,115]):=by unfold l6;rw[if_pos lP]
   rw[e9];exact same _
  .rcases hw:b.back with _|⟨c,cs⟩
   .have e9:l6 b e.a=(b,[110,111,110,101]):=by unfold l6;rw[if_neg lP,hw]
    rw[e9];exact same _
   .rcases hf:oJ b.o b.recs with _|⟨l,fs⟩
    .have e9:l6 b e.a=(b,[98,117,115,121]):=by unfold l6;rw[if_neg lP,hw];simp only[hf]
     rw[e9];exact same _
    .have e9:l6 b e.a=({b with back:=dX b.back c.c,recs:=b.recs++[⟨c.c,l,e.a,b.clk,b.clk,-1,eU⟩]},[99,97,108,108,32]++jK c.c):=by unfold l6;rw[if_neg lP,hw];simp only[hf]
     rw[e9];have Ws:=zhc h.off (l:=l) Vp;have Jk:=h.backB c (by rw[hw];simp);refine key (_,_) ⟨h.off,h.clk,h.nodup,λx hx=>zsT (h.hasrec x hx),?_,h.waitB,?_⟩ rfl rfl ?_ ?_ ?_ ?_
     .intro d hd
      rcases Ee.1 hd with hd|hd
      .exact h.recB d hd
      .simp at hd;subst hd
       have:=h.clk;simp only;omega
     .intro x hx
      exact h.backB x (Dg hx).1
     all_goals simp only[gN,pT,rR]
     .omega
     .omega
     .omega
     .have:=Zp b.back c.c;omega
 rw[if_neg e3];by_cases e4:e.k.toList=Kf
 .rw[if_pos e4]
  rcases ho:jL b.recs e.a with _|i
  .by_cases hf:(vC b.back e.a).isSome=true
   .have e9:mB b e.a=({b with back:=dX b.back e.a},[111,102,102]):=by unfold mB;simp only[ho];rw[if_pos hf]
    rw[e9];refine key (_,_) ⟨h.off,h.clk,h.nodup,h.hasrec,h.recB,h.waitB,λx hx=>h.backB x (Dg hx).1⟩ rfl rfl ?_ ?_ ?_ ?_
    all_goals simp only
    .omega
    .omega
    .omega
    .have:=Zp b.back e.a;omega
   .have e9:mB b e.a=(b,[103,111,110,101]):=by unfold mB;simp only[ho];rw[if_neg hf]
    rw[e9];exact same _
  .obtain⟨d,hd,-,-⟩:=B4 ho
   have hw:=Zp b.wait (Gz b.recs i);have end1:∀(E:ByteArray) (t:List UInt8),RInv (lE b i E,t).1/\Kx (Ed (lE b i E,t)) (k+1)/\(lE b i E,t).1.o=b.o/\(lE b i E,t).1.log=b.log:=λE t=>by
    refine key (_,_) (h.ends hd _) rfl rfl ?_ ?_ ?_ ?_
    .show b.clk<=_;omega
    .show(zij _ _ _).length<=_;rw[F6];omega
    .show(dX b.wait (Gz b.recs i)).length<=_;omega
    .show b.back.length<=_;omega
   by_cases hp:0<opAt b.recs i
   .have e9:mB b e.a=(lE b i Gj,[100,111,110,101]):=by unfold mB;simp only[ho];rw[if_pos hp]
    rw[e9];exact end1 _ _
   .have e9:mB b e.a=(lE b i Cc,[108,101,102,116]):=by unfold mB;simp only[ho];rw[if_neg hp]
    rw[e9];exact end1 _ _
 rw[if_neg e4];obtain⟨a1,a2⟩:=zGE he e1 e2 e3 e4;have mK:=h.clk;have T:=zku (r:=b) (m:=e.a) ⟨h.hasrec,h.waitB⟩ h.nodup (λd hd=>by have:=h.recB d hd;omega) aC b.wait.length (aX _);have t1:=T.nrec;have t2:=T.off;have t3:=T.clk;have t4:=T.nb;have t5:=T.nw;rw[zbz] at t1 t2 t3 t4 t5;have zj4:∀(xs:List bJ) (bt:bX×List UInt8),(xs.foldl l7 bt).1.log=bt.1.log:=by
  intro xs
  induction xs with
  |nil=>intro bt;rfl
  |cons x xs ih=>
   intro bt;rw[Qd,ih];unfold l7;split
   .rfl
   .split<;>rfl
 refine key (uR b e.a) ?_ t2 (zj4 _ _) ?_ ?_ ?_ ?_
 .unfold uR
  refine RInv.tires _ _ _ ⟨h.off,by show 0<=b.clk+e.a;omega,h.nodup,h.hasrec,λd hd=>?_,h.waitB,h.backB⟩ h.waitB;have:=h.recB d hd;show _/\_/\_/\_/\_/\_/\_/\d.f<=b.clk+e.a;omega
 .omega
 .omega
 .omega
 .omega
def mH (o:jG)(es:List dD)(k:Nat):bX:=(es.take k).foldl (λb e=>Ed (eN b e)) (mP o)
variable {es:List dD}
def Wj (h:es[k]? =some e):mH o es (k+1)=Ed (eN (mH o es k) e):=by
 unfold mH;rw[Nf,h,zjC];rfl
def zg1 (o:jG)(es:List dD):mH o es es.length=Eu o es:=by unfold mH Eu;rw[zB (aX _)]
def P7 (h:jP o es=true):∀k,k<=es.length->RInv (mH o es k)/\Kx (mH o es k) k/\(mH o es k).o=o
 |0,_=>by
  have h1:qJ o=true:=by unfold jP at h;simp at h;exact h.1.1
  exact⟨RInv.zero h1,Kx.zero o,rfl⟩
 |k+1,hk=>by
  obtain⟨i1,i2,i3⟩:=P7 h k aC;obtain⟨e,he⟩:∃e,es[k]? =some e:=⟨es[k],lX aC⟩;have hv:sO o.op e=true:=by
   unfold jP at h;simp only[fU,tY] at h;exact h.2 e (dZ he)
  have hl:es.length<=60:=by unfold jP at h;simp at h;exact h.1.2
  obtain⟨j1,j2,j3,j4⟩:=i1.step i2 (e:=e) (by rw[i3];exact hv) aC;rw[Wj he];exact⟨⟨j1.off,j1.clk,j1.nodup,j1.hasrec,j1.recB,j1.waitB,j1.backB⟩,j2,by show(eN _ e).1.o=o;rw[j3,i3]⟩
def zhZ (o:jG)(w:aE):
 fN aK 34 #[.agg #[.int .i64 o.ln,.int .i64 o.op,.int .i64 o.pt]] w λx w'=>x=.returned (.bool (qJ o))/\bV w.heap.size w w':=by
 go_enter Tryz.func34,Tryz.ntmps34
 go_wp2_with ((go_at_call 49;refine(zpZ _ _ _ _).mono ?_;rintro e w' ⟨rfl,rfl⟩))
 all_goals go_ret
 all_goals refine⟨D4 ?_,((eF _ _).alloc (aX _) _)⟩
 all_goals rw[M9]
 all_goals simp[qJ,inB] at*
 all_goals grind
def zDk (e:dD)(ops:Int)(w:aE):
 fN aK 50 #[.agg #[.string e.k,.int .i64 e.a,.int .i64 e.b],.int .i64 ops] w λx w'=>x=.returned (.bool (sO ops e))/\bV w.heap.size w w':=by
 go_enter Tryz.func50,Tryz.ntmps50
 go_wp2_with ((go_at_call 49;refine(zpZ _ _ _ _).mono ?_;rintro e w' ⟨rfl,rfl⟩))
 all_goals go_ret
 all_goals refine⟨D4 ?_,((eF _ _).alloc (aX _) _)⟩
 all_goals rw[M9]
 all_goals simp[sO,L8,inB,Hz,Kf,Ii,Hw,zcM] at*
 all_goals grind
end Go.Proofs.YtfcjiloojkjaeaaGreatDoor
