/-
  Part 3 of what stands behind the last text.
-/
import Derived.Conc.WgGenN3
import Derived.Conc.TokenWalk
import Derived.Test.YtfcjiloojkjaeaaGreatDoorRunOffPq2
set_option linter.all false
set_option maxHeartbeats 16000000
set_option maxRecDepth 100000
open Array renaming all_eq_true_iff_forall_mem→zkf,any_eq_true→Sz,ext_getElem?→zdr,getD_eq_getD_getElem?→tZ,getElem?_eq_getElem→mK,getElem?_eq_none→Gr,getElem?_eq_some_iff→dO,getElem?_map→x7,getElem?_mapIdx→Mk,getElem?_setIfInBounds→zqf,getElem?_setIfInBounds_ne→jQ,getElem?_toList→Ap,getElem_mem→zkN,mem_iff_getElem→ztG,mem_of_getElem?→Uo,mem_singleton→zrU,range→Lx,replicate→nI
open Bool renaming and_eq_true→fV,eq_iff_iff→Ns,false_eq_true→jF,false_or→zrZ,not_eq_true'→zfl,or_eq_true→Eo
open Classical renaming byContradiction→yZ
open False renaming elim→zsb
open Go renaming Act→uA,Calls→fH,Deferred→E8,Event→oO,Frame→dH,Func→Ub,FuncId→aO,Goroutine→bC,Item→eE,Oper→aZ,Operand→cN,Program→bS,Trace→lS,TypeId→aM,TypeInfo→wW,Value→aF,World→aE,bodyPost_ret→qW,deafBehind→n7,execOp→aS,getD_set_ne→Qp,heap_alloc_new→lQ,info_parts→zI,mem_ready→zk5,undef→aA,yielded→dR
open Go.Act renaming eval→wH,mk→bH,put→cC
open Go.Builtin renaming append_→xF
open Go.Code renaming region→E7
open Go.Conc renaming Deaf_other→Mj,aside_setCell→Y9,goes_elim→zkQ,listed→wL,mem_ofEvents→zg4,mem_seen→zce,past_nil→zmT,runT_crowd_go→Yq,seen_none→Bg,served→oU,stepG_add_atomic→Zo,stepG_block→zea,stepG_end→ze0,stepG_inBlock→znk,stepG_inLoop→ziD,stepG_load_atomic→zfI,stepG_loop→zhO,stepG_mark0→zcw,stepG_markAt→zdf,stepG_region_end→dF,stepG_ret'→xC,stepG_seq→dU,stepG_skip→pG,stepG_unwind_entry→zwf
open Go.Conc.Goes renaming stop→qJ
open Go.Conc.Lib renaming WgLib→Zc,WgLink→zfX
open Go.Conc.QuitsD renaming ctl→zux
open Go.ConcN renaming upd→znd
open Go.ConcR renaming Payload→zfR,WgAt→gA,mk→oL
open Go.ConcR.Gen renaming body_add→Nn,body_wait→znq,nm_uLoad→ziH,x_addU64_b→Wu,x_addU64_f→Vf,x_addU64_n→Xe,x_addU64_x→Vr,x_disable_b→zhM,x_disable_f→zlC,x_disable_n→zmZ,x_disable_x→zmY,x_enable_b→zhg,x_enable_f→zgn,x_enable_n→zgG,x_enable_x→zfo,x_loadU64_b→zey,x_loadU64_f→zd2,x_loadU64_n→zdA,x_loadU64_x→zfC,x_semacquire_b→zwk,x_semacquire_f→zyt,x_semacquire_n→zpd,x_semacquire_x→zwU,x_semrelease_b→zr7
open Go.Deferred renaming ofValue→Bt
open Go.Extern.Race renaming none_→zya
open Go.Frame renaming enter→Eg,finish_at→zvV,tmps→zrY
open Go.GStep renaming after→B7
open Go.IntKind renaming i32→zqg,u64→Ri,wrap_i32→zpB,wrap_u64→zf9
open Go.Lib renaming itoa→K7,itoa_nonneg→X3
open Go.Made renaming infoAt→zuq,reckon→zp6,reckonStruct→zt8,word→zom
open Go.MemAct renaming ofEvent→jK,touch?→qO
open Go.Proofs.Tryz renaming checked→vE,prog→aK,results51→zaz,results63→zee,results64→zjh,results65→zek,results66→zeD,underlying45→zs2,underlying57→Ln
open Go.Region renaming binds→Em,ready→Gt,wanted→dD
open Go.Result renaming andThen→uU,evThen_ok→Qx,ok→vU
open Go.RowKit renaming Below→bR
open Go.RowKit.Below renaming heap_alloc→uB,heap_setCell→eH,refl→eF
open Go.Sem renaming bind→xU,events→wE,events_bind'→Sk,run→bD,runT→zQ,run_bind'→rK
open Go.Stepped.next renaming injEq→Vh
open Go.Tables renaming info?→zhZ
open Go.World renaming alloc→zi6,cell?→lI,news_of_block→E0,size_setCell→sN
open Int renaming le_refl→zru
open List renaming all_eq_true→tK,any_append→zx5,any_eq_true→Ue,append_nil→N4,foldl_append→zln,foldl_cons→Pz,getD_cons_succ→C7,getD_cons_zero→Ds,getElem?_eq_getElem→lO,getElem?_eq_some_iff→kE,getElem?_modify→zD,getElem?_of_mem→zxz,getElem_map→zs3,length_append→gM,length_cons→qA,length_filter_le→zc2,length_map→zpy,length_modify→Hk,length_nil→rY,map_cons→fK,mem_append→Er,mem_cons→jL,mem_filter→Iy,mem_iff_getElem→Kj,mem_iff_getElem?→F9,mem_map→Ir,mem_map_of_mem→Vv,mem_of_getElem?→dX,mem_range→Bd,modify→znI,not_mem_nil→lZ,range→gN,set_cons_succ→dW,set_cons_zero→dV,take_add_one→Nb,take_of_length_le→zP
open List.Nodup renaming sublist→zIa
open List.Sublist renaming map→zz4
open Nat renaming eq_zero_or_pos→Po,le_refl→aX,le_trans→eG,lt_of_lt_of_le→lC,lt_or_ge→mX,lt_succ_of_lt→ztf,lt_succ_self→wR,ne_of_lt→zuU,strongRecOn→zh7,zero_add→qZ,zero_le→jY,zero_mul→zcb
open Option renaming bind_eq_some_iff→Df,bind_some→vC,getD_some→zG,isSome_iff_exists→znn,map_eq_some_iff→xK,map_some→Ac
open Option.some renaming inj→cE,injEq→fT
open Prod.mk renaming injEq→pJ
open Pure renaming pure→kU
open SizeOf renaming sizeOf→Of
noncomputable section
namespace Go
def Jf{P:Prop}(h:P:=by rw[hz];exact zI7 (by kernel_rfl)):P:=h
def znw{P:Prop}(h:P:=by intro u hu;simp[bT.cells] at hu;rcases hu with rfl|rfl|rfl|rfl|rfl|rfl|rfl<;>rfl):P:=h
def rA{P:Prop}(h:P:=by k_ne):P:=h
def zw6{P:Prop}(h:P:=by intro k hk aT;have cP:k=0\/k=1\/k=3\/k=4\/k=5\/k=6:=(by omega);rcases cP with rfl|rfl|rfl|rfl|rfl|rfl<;>rfl):P:=h
def zws{P:Prop}(h:P:=by intro k hk aT;have cP:k=0\/k=1\/k=2\/k=3\/k=5\/k=6:=(by omega);rcases cP with rfl|rfl|rfl|rfl|rfl|rfl<;>rfl):P:=h
def G7{P:Prop}(h:P:=by decide+kernel):P:=h
def zfJ{P:Prop}(h:P:=by intro e2;rw[e2] at h0;exact absurd h0 (by decide)):P:=h
def Re{P:Prop}(h:P:=by show gb+1≠gb;omega):P:=h
def znf{P:Prop}(h:P:=by intro e2;rw[e2] at h1;exact absurd h1 (by decide)):P:=h
def X2{P:Prop}(h:P:=by unfold maxLen;omega):P:=h
def Zg{P:Prop}(h:P:=by exact True.intro):P:=h
def zqB{P:Prop}(h:P:=by intro e2;rw[e2] at h2;exact absurd h2 (by decide)):P:=h
def Zv{P:Prop}(h:P:=by rw[cD];simp):P:=h
def zeb{P:Prop}(h:P:=by show gb+2≠gb;omega):P:=h
def Wt{P:Prop}(h:P:=by rw[hf];simp):P:=h
def zaR{P:Prop}(h:P:=by rw[wM];simp):P:=h
def zgI{P:Prop}(h:P:=by simpa using hi):P:=h
def zrM{P:Prop}(h:P:=by have:=eW.o.lob;have:=oY.o;omega):P:=h
def zlU{P:Prop}(h:P:=by simp[Act.eval,stA]):P:=h
def zlX{P:Prop}(h:P:=by simp[Act.eval,smA]):P:=h
def ziL{P:Prop}(h:P:=by show gf≠gb;omega):P:=h
end Go
namespace Go.Mt
open Go.Conc
open Go.ConcR (KK wgBlock WgAt stA smA rd wr)
section
variable {L:Type}{P:bS}{ty:aM}{Wg:Nat}{A:jP L}{Fin:bC->aE->Prop}
variable {K K':Bool->Ph L->Nat->cF->bC->aE->Prop}
def Oc.mono (hK:∀m ph d τ g w,K m ph d τ g w->K' m ph d τ g w){main:Bool}{ph:Ph L}{d:Nat}{τ:cF}{g:bC}{w:aE}(h:Oc P ty Wg K main ph d τ g w):Oc P ty Wg K' main ph d τ g w:=by
 have own:∀{ph:Ph L},zez P ty Wg K main ph d τ g w->zez P ty Wg K' main ph d τ g w:=λh aI s=>by
  obtain⟨g',w',es,h1,h2,h3,h4,h5⟩:=h aI s;exact⟨g',w',es,h1,h2,h3,h4,hK _ _ _ _ _ _ h5⟩
 have idle:∀{ph:Ph L},za2 P ty Wg K main ph d τ g w->za2 P ty Wg K' main ph d τ g w:=λh aI s=>by
  obtain⟨g',es,h1,h2,h3,h4⟩:=h aI s;exact⟨g',es,h1,h2,h3,hK _ _ _ _ _ _ h4⟩
 cases ph<;>first|exact h|exact own h|exact idle h
def mF.mono (hK:∀m ph d τ g w,K m ph d τ g w->K' m ph d τ g w){main:Bool}{l:L}{d:Nat}{τ:cF}{g:bC}{w:aE}(h:mF P ty Wg A K main l d τ g w):mF P ty Wg A K' main l d τ g w:=by
 unfold mF at*;split
 all_goals(rename_i e;simp only[e] at h)
 .obtain⟨ho,v,z,τ',h1,h2,h3,h4,Kk,h5,h6⟩:=h
  exact⟨ho,v,z,τ',h1,h2,h3,h4,Kk,h5,hK _ _ _ _ _ _ h6⟩
 .obtain⟨ho,z,b,h1,h2,h3⟩:=h
  exact⟨ho,z,b,h1,λv hv aI s hg=>hK _ _ _ _ _ _ (h2 v hv aI s hg),λx=>hK _ _ _ _ _ _ (h3 x)⟩
 .refine⟨h.1,h.2.1,λaI iQ s r hc=>?_⟩
  obtain⟨g',h1,h2,h3⟩:=h.2.2 aI iQ s r hc;exact⟨g',h1,h2,hK _ _ _ _ _ _ h3⟩
 .intro aI iQ v hv hw
  obtain⟨g',h1,h2,h3⟩:=h aI iQ v hv hw;exact⟨g',h1,h2,hK _ _ _ _ _ _ h3⟩
 .refine⟨h.1,λaI iQ=>?_⟩
  obtain⟨g',child,τm,τc,h1,h2,h3,h4,h5,h6,h7,h8,h9,Hg,S6⟩:=h.2 aI iQ;exact⟨g',child,τm,τc,h1,h2,h3,h4,h5,h6,h7,h8,h9,hK _ _ _ _ _ _ Hg,hK _ _ _ _ _ _ S6⟩
 .refine⟨h.1,h.2.1,h.2.2.1,λaI iQ=>?_⟩
  obtain⟨g',h1,h2,h3⟩:=h.2.2.2 aI iQ;exact⟨g',h1,h2,hK _ _ _ _ _ _ h3⟩
 .intro aI iQ v hv hw
  obtain⟨g',h1,h2,h3,h4⟩:=h aI iQ v hv hw;exact⟨g',h1,h2,λx=>hK _ _ _ _ _ _ (h3 x),λx=>hK _ _ _ _ _ _ (h4 x)⟩
 .obtain⟨l',h1,h2⟩:=h
  exact⟨l',h1,hK _ _ _ _ _ _ h2⟩
def zR.mono (hK:∀m ph d τ g w,K m ph d τ g w->K' m ph d τ g w){main:Bool}{ph:Ph L}{d:Nat}{τ:cF}{g:bC}{w:aE}(h:zR P ty Wg A Fin K main ph d τ g w):zR P ty Wg A Fin K' main ph d τ g w:=by
 cases ph with
 |gone=>exact h
 |quit l=>exact h
 |usr l=>exact mF.mono hK h
 |rel l=>
  intro aI iQ v wt a b c;obtain⟨g',h1,h2,h3,h4,h5⟩:=h aI iQ v wt a b c;exact⟨g',h1,h2,h3,λx=>hK _ _ _ _ _ _ (h4 x),h5⟩
 |l1 l=>
  intro aI iQ a;obtain⟨g',h1,h2,h3,h4⟩:=h aI iQ a;exact⟨g',h1,h2,h3,hK _ _ _ _ _ _ h4⟩
 |l2 l=>
  intro aI iQ a;obtain⟨g',h1,h2,h3,h4⟩:=h aI iQ a;exact⟨g',h1,h2,h3,hK _ _ _ _ _ _ h4⟩
 |l3 l=>exact h
 |w1 b=>
  intro aI iQ v zF5 hv hw;obtain⟨g',h1,h2,h3,h4⟩:=h aI iQ v zF5 hv hw;exact⟨g',h1,h2,λx=>hK _ _ _ _ _ _ (h3 x),λx=>hK _ _ _ _ _ _ (h4 x)⟩
 |w2 vs=>
  intro aI iQ v hv hw;obtain⟨h1,h2⟩:=h aI iQ v hv hw;exact⟨λe=>let⟨g',a,b,c⟩:=h1 e;⟨g',a,b,hK _ _ _ _ _ _ c⟩,λe=>let⟨g',a,b,c⟩:=h2 e;⟨g',a,b,hK _ _ _ _ _ _ c⟩⟩
 |w3=>
  refine⟨h.1,λaI iQ=>⟨(h.2 aI iQ).1,λe=>?_⟩⟩;obtain⟨g',a,b,c⟩:=(h.2 aI iQ).2 e;exact⟨g',a,b,hK _ _ _ _ _ _ c⟩
 |w4=>
  intro aI iQ a;obtain⟨g',h1,h2,h3⟩:=h aI iQ a;exact⟨g',h1,h2,hK _ _ _ _ _ _ h3⟩
 |w5=>exact h
def b6 (P:bS)(ty:aM)(Wg:Nat)(A:jP L)(Fin:bC->aE->Prop)(main:Bool)(ph:Ph L)(d:Nat)(τ:cF)(g:bC)(w:aE):Prop:=∃r,oX P ty Wg A Fin r main ph d τ g w
variable {main:Bool}{ph:Ph L}{d:Nat}{τ:cF}{g:bC}{w aI:aE}
def b6.mk (cG:g.status=.running)(h:Oc P ty Wg (b6 P ty Wg A Fin) main ph d τ g w\/zR P ty Wg A Fin (b6 P ty Wg A Fin) main ph d τ g w):b6 P ty Wg A Fin main ph d τ g w:=by
 let ι:={x:Bool×Ph L×Nat×cF×bC×aE//b6 P ty Wg A Fin x.1 x.2.1 x.2.2.1 x.2.2.2.1 x.2.2.2.2.1 x.2.2.2.2.2}
 let f:ι->Rk:=λx=>x.2.choose
 have hK:∀m ph d τ g w,b6 P ty Wg A Fin m ph d τ g w->∃i,oX P ty Wg A Fin (f i) m ph d τ g w:=λm ph d τ g w hb=>⟨⟨(m,ph,d,τ,g,w),hb⟩,hb.choose_spec⟩;exact⟨.mk ι f,cG,h.imp (λx=>x.mono hK) λx=>x.mono hK⟩
def b6.own (cG:g.status=.running)(hl:ph.live)(h:zez P ty Wg (b6 P ty Wg A Fin) main ph d τ g w):b6 P ty Wg A Fin main ph d τ g w:=
 .mk cG (.inl (by cases ph<;>first|exact h|exact hl.elim))
def b6.usr {l:L}(cG:g.status=.running)(h:mF P ty Wg A (b6 P ty Wg A Fin) main l d τ g w):b6 P ty Wg A Fin main (.usr l) d τ g w:=.mk cG (.inr h)
structure Start (P:bS)(ty:aM)(Wg:Nat)(A:jP L)(Fin:bC->aE->Prop)(Shun:Loc->Prop)(gs:Array bC)(w:aE)(t:lS)(q:Nat->Nat)(l:L)(τ:cF)(a:bC)(B:Nat):Prop where
 main:gs[0]? =some a
 leave:Leavers P t gs q
 past:Past Shun B t
 beh:b6 P ty Wg A Fin true (.usr l) 0 τ a w
 grp:gA ty Wg w 0 0
 low:B<=Wg/\B<=w.heap.size
 bnd:∀b,τ.own b\/τ.still b\/τ.pass b->b<w.heap.size/\b≠Wg/\∀l,nF l b->¬Shun l
 pend:A.pend l=false
 inv:A.Inv (λi=>if i=0 then .run l else .gone) (λ_=>none)
def phase (hA:A.Ok){Shun:Loc->Prop}{gs:Array bC}{t:lS}{q:Nat->Nat}{l:L}{a:bC}{B:Nat}(S:Start P ty Wg A Fin Shun gs w t q l τ a B)(sl:Option (Nat×Nat)):
 ∃N m' t',runNT P N (crowd gs w sl) t=(.next m',t')/\Ps P Wg Fin Shun m' t':=by
 obtain⟨r,hr⟩:=S.beh;have h0:0<gs.size:=(dO.1 S.main).1
 let none':cF:=⟨λ_=>False,λ_=>False,λ_=>False⟩
 let T:Nat->Td L:=λi=>if i=0 then⟨.usr l,.inr r,τ,a⟩ else⟨.gone,.inl (q i),none',default⟩
 have t0:T 0=⟨.usr l,.inr r,τ,a⟩:=by simp[T]
 have tn:∀i,i≠0->T i=⟨.gone,.inl (q i),none',default⟩:=λi hi=>by simp[T,hi]
 have cG:a.status=.running:=by cases r with|mk ι f=>exact hr.1
 have Yd:oV (λi=>(T i).ph) gs.size=0:=zkG (λj hj=>by simp only[tn j hj,Ph.pre]) _;have wI:vv A (λi=>(T i).ph) gs.size=0:=by
  unfold vv zV;rw[Yd];simp only[t0,S.pend];rfl
 have zan:(λi=>(T i).ph.proj)=λi=>if i=0 then .run l else .gone:=by
  funext i;by_cases hi:i=0
  .subst hi;rw[t0];rfl
  .rw[tn i hi,if_neg hi];rfl
 refine zGH (ty:=ty) hA (T:=T) (ch:=λ_=>none) (Shun:=Shun) ⟨⟨h0,λi hi=>(by rw[tn i aC]),(by rw[t0];trivial),λi hi=>(by rw[tn i hi];exact id),λi hi b=>?_,λi j b rD hb=>?_,λi b hb=>?_,λi b hb=>?_,λi l' hi=>?_,λc b hc=>(by cases hc),?_,(by rw[zan];exact S.inv)⟩,
  ⟨λi x hi=>?_,λi j gi gj c v z z' sh wV hi hj=>?_,λi gi c z sh hi e=>(by cases e),λx hx hp=>(by rw[t0] at hp;cases hp),?_⟩⟩ sl
 .by_cases h:i=0
  .subst h;rw[t0] at hi;cases hi
  .rw[tn i h];exact⟨id,id,id⟩
 .by_cases h:i=0
  .subst h
   rw[tn j (Ne.symm rD)];exact⟨id,id,id⟩
  .rw[tn i h] at hb;exact hb.elim
 .by_cases h:i=0
  .subst h
   rw[t0] at hb;have:=S.bnd b (hb.imp id .inl);exact⟨this.1,this.2.1,rfl⟩
  .rw[tn i h] at hb;exact hb.elim zsb zsb
 .by_cases h:i=0
  .subst h
   rw[t0] at hb;have:=S.bnd b (.inr (.inr hb));exact⟨this.1,this.2.1⟩
  .rw[tn i h] at hb;exact hb.elim
 .by_cases h:i=0
  .subst h;rw[t0] at hi;cases hi
  .rw[tn i h] at hi;cases hi
 .unfold gS
  simp only[t0];refine⟨by rw[wI];simpa using S.grp,λi e=>?_⟩;by_cases h:i=0
  .subst h;rw[t0] at e;exact e
  .rw[tn i h] at e;exact e
 .by_cases h:i=0
  .subst h
   rw[S.main] at hi;cases hi;refine(pF (by rw[t0];exact id)).2 ⟨r,by rw[t0],?_,.inl (by rw[t0];exact lV.self cG)⟩;have hd:Deaf t 0=0:=S.past.hears;rw[t0,hd];exact hr
  .refine(Gm (by rw[tn i h];trivial)).2 ⟨q i,by rw[tn i h],S.leave.old i x aC hi⟩
 .exfalso
  by_cases h:i=0
  .subst h
   rw[S.main] at hi;cases hi;simp[parked] at cG
  .have:=(S.leave.old i _ aC hi).status
   simp[parked] at this
 .refine TI.begin S.past S.low.2 S.leave.above (λj=>?_) (λb hb=>?_) S.low.1
  .by_cases h:j=0
   .subst h;rw[t0];exact⟨λ_=>rfl,λ_=>trivial⟩
   .rw[tn j h];exact⟨λe=>e.elim,λe=>absurd e h⟩
  .rw[t0] at hb
   exact(S.bnd b hb).2.2
end
end Go.Mt
namespace Go.Mt
open Go.Conc Go.Tt
open Go.ConcR (KK wgBlock WgAt stA smA rd wr)
def vH (τ:cF)(R:Pr)(St:Nat->Prop):Prop:=∀a b,R a b->(St a->τ.still b)/\(¬St a->τ.own b)
section
variable {L:Type}{P:dL}{fs:aO->Bool}{K:Pr}{G':Gp}{St:Nat->Prop}{ty:aM}{Wg:Nat}{A:jP L}{Fin:bC->aE->Prop}
def zjN {S:aO->Prop}{R:Pr}{w W aV:aE}{τ:cF}(h:cT S K R G' St w W)(ht:vH τ R St)(hK:∀a b,K a b->b<W.heap.size)(s:bU ty Wg τ W aV):cT S K R G' St w aV:=by
 refine⟨h.inj,h.inj',λa b x=>⟨(h.lt a b x).1,lC (h.lt a b x).2 s.size⟩,h.low,⟨h.gle.1,eG h.gle.2 s.size⟩,λa b x=>?_,h.rest,h.st,h.np,h.tb⟩;obtain⟨o,o',h1,h2,h3⟩:=h.cont a b x;refine⟨o,o',h1,?_,h3⟩;rw[s.keep b ?_];exact h2;by_cases hs:St a
 .exact .inr ((ht a b x).1 hs)
 .exact .inl ((ht a b x).2 hs)
end
end Go.Mt
namespace Go.Mt
open Go.Conc Go.Tt
open Go.ConcN (sumTo sumTo_upd upd_ne upd_same)
open Go.ConcR (KK wgBlock WgAt stA smA rd wr)
def Ends (P:bS)(Post:aF->aE->Prop)(m:Machine)(t:lS):Prop:=
 ∃M last o w' t',runNT P (M+1) m t=(.ended o w',t')/\runN P M m=.next last/\step P last=.ended o w'/\Conc.Good P Post last o w' t'
section
variable {P:bS}{Post:aF->aE->Prop}
variable {ops:Array MemOp}
def Ends.step {m m':Machine}{t:lS}(h:stepT P m=(.next m',ops))(he:Ends P Post m' (t++ops)):Ends P Post m t:=by
 obtain⟨M,last,o,w',t',h1,h2,h3,h4⟩:=he;refine⟨M+1,last,o,w',t',?_,?_,h3,h4⟩
 .rw[runNT,h];exact h1
 .have:Go.step P m=.next m':=by rw[Go.step,h]
  rw[zcQ this];exact h2
def Ends.run:∀(N:Nat) {m m':Machine} {t t':lS},runNT P N m t=(.next m',t')->Ends P Post m' t'->Ends P Post m t:=by
 intro N
 induction N with
 |zero=>
  intro m m' t t' h he;simp only[runNT,pJ,Vh] at h;obtain⟨rfl,rfl⟩:=h;exact he
 |succ N ih=>
  intro m m' t t' h he;rw[runNT] at h;generalize hs:stepT P m=s at h;obtain⟨s,ops⟩:=s
  cases s with
  |next m1=>exact Ends.step hs (ih h he)
  |ended o w=>simp at h
variable (P Post)
def J (Shun:Loc->Prop)(B:Nat)(g:bC)(w:aE):Prop:=
 ∀(gs:Array bC) (t:lS) (sl:Option (Nat×Nat)) (q:Nat->Nat),gs[0]? =some g->Leavers P t gs q->Past Shun B t->Ends P Post (crowd gs w sl) t
variable {P Post}
variable {B:Nat}{g:bC}
def J.own {Shun:Loc->Prop}{w:aE}(cG:g.status=.running)
 (h:∀d,∃g' w' es B',stepG P true g (w.at d)=.go g' w' es/\(∀e∈es,EvL Shun B' e)/\B<=B'/\J P Post Shun B' g' w'):J P Post Shun B g w:=by
 have key:∀(M:Nat) (d:Nat) (gs:Array bC) (t:lS) (sl:Option (Nat×Nat)) (q:Nat->Nat),sumTo gs.size q=M->gs[0]? =some g->Leavers P t gs q->Past Shun B t->Ends P Post (crowd gs (w.at d) sl) t:=by
  intro M
  induction M using zh7 with
  |ind M ih=>
  intro d gs t sl q hM h0 hL hP;have dM:∀x∈gs,awake x:=by
   intro x hx;obtain⟨i,hi,rfl⟩:=ztG.1 hx;rcases Po i with rfl|B4
   .have:gs[0]=g:=by simpa[mK hi] using h0
    rw[this];exact awake_of (.inl cG)
   .exact awake_of ((hL.old i _ B4 (mK hi)).status.elim .inl λx=>.inr (.inr x))
  obtain⟨i,x,d',K4,hi,hx,aY⟩:=crowd_pick (P:=P) (w:=w.at d) (sl:=sl) dM ⟨0,g,h0,cG⟩;rw[show(w.at d).at d'=w.at d' from rfl] at aY;rcases Po i with rfl|B4
  .obtain rfl:x=g:=by rw[h0] at hi;exact(cE hi).symm
   obtain⟨g',w',es,B',hgo,x3,cJ,hJ⟩:=h d';have zmE:=Yq (P:=P) (sl:=K4) (i:=0) hi (show stepG P (0==0) x (w.at d')=_ from hgo);have aN:0<gs.size:=(dO.1 h0).1;refine Ends.step (aY.trans zmE) (hJ _ _ _ q (by simp[aN]) ⟨λj y hj hy=>?_,λj hj=>?_⟩ ((hP.mono cJ).own x3))
   .have aT:0≠j:=aC
    rw[jQ aT,x7] at hy;obtain⟨z,hz,rfl⟩:=xK.1 hy;have hq:=hL.old j z hj hz;rw[woken_quitsD hq,Mj t aC _ (λop hop=>by obtain⟨e,_,rfl⟩:=zg4 hop;rfl)];exact hq
   .rw[Mj t (g':=0) (by simp at hj;omega) _ (λop hop=>by obtain⟨e,_,rfl⟩:=zg4 hop;rfl)]
    exact hL.above j zax
  .have hq:=hL.old i x B4 hi
   have fR:(i==0)=false:=r9;have aN:i<gs.size:=(dO.1 hi).1
   cases zju:q i with
   |zero=>rw[zju] at hq;rw[hq.1] at hx;cases hx
   |succ k=>
    rw[zju] at hq;rcases hq with⟨hf,_⟩|⟨_,g',es,hm,zbc,Ol⟩
    .rw[hf] at hx;cases hx
    have zmE:=Yq (P:=P) (sl:=K4) (i:=i) hi (by rw[fR];exact zbc (w.at d'));have cJ:((gs.map (woken P x g' (w.at d'))).setIfInBounds i g').size=gs.size:=aQ;have zLS:sumTo gs.size (znd q i k)+(k+1)=sumTo gs.size q+k:=by
     have:=sumTo_upd q k id aN;simp only[zju,id] at this;exact this
    refine Ends.step (aY.trans zmE) (ih (sumTo gs.size (znd q i k)) aC d' _ _ _ (znd q i k) (by rw[cJ]) ?_ ⟨λj y hj hy=>?_,λj hj=>?_⟩ (hP.mute aC hm))
    .have aT:i≠0:=aC
     rw[jQ aT,x7,h0];simp[woken_run cG]
    .by_cases eO:i=j
     .subst eO
      rw[Array.getElem?_setIfInBounds_self_of_lt (by simpa using aN)] at hy;obtain rfl:=cE hy;rw[ConcN.upd_same,Deaf_own];exact Ol
     .rw[jQ eO,x7] at hy
      obtain⟨z,hz,rfl⟩:=xK.1 hy;have zqp:=hL.old j z hj hz;rw[woken_quitsD zqp,ConcN.upd_ne q k (Ne.symm eO),Mj t eO _ (λop hop=>by obtain⟨e,_,rfl⟩:=zg4 hop;rfl)];exact zqp
    .rw[Mj t (g':=i) (by simp at hj;omega) _ (λop hop=>by obtain⟨e,_,rfl⟩:=zg4 hop;rfl)]
     exact hL.above j zax
 intro gs t sl q h0 hL hP;have:=key _ w.drawn gs t sl q rfl h0 hL hP;exact this
def J.done {Shun:Loc->Prop}{w:aE}(cG:g.status=.running)
 (h:∀d,∃v es,stepG P true g (w.at d)=.ended (.done v) (w.at d) es/\(∀e∈es,EvL Shun B e)/\Post v (w.at d)):J P Post Shun B g w:=by
 intro gs t sl q h0 hL hP;exact beside_ends (B:=B) (D:=λ_ _ es=>∀e∈es,EvL Shun B e) (n:=0) (λ_ _ _ hd=>hd) h0 hL hP (λaI ⟨d,hd⟩=>by subst hd;exact⟨cG,h d⟩)
def J.phase {L:Type}{ty:aM}{Wg:Nat}{A:jP L}(hA:A.Ok){Shun:Loc->Prop}{a:bC}{w:aE}{l:L}{τ:cF}
 (hb:b6 P ty Wg A (λg w'=>J P Post (λl=>Shun l\/nF l Wg) w'.heap.size g w') true (.usr l) 0 τ a w) (hg:gA ty Wg w 0 0) (hB:B<=Wg/\B<=w.heap.size)
 (bnd:∀b,τ.own b\/τ.still b\/τ.pass b->b<w.heap.size/\b≠Wg/\∀l,nF l b->¬Shun l) (pend:A.pend l=false)
 (inv:A.Inv (λi=>if i=0 then .run l else .gone) (λ_=>none)):J P Post Shun B a w:=by
 intro gs t sl q h0 hL hP;obtain⟨N,m',t',h1,gs',a',w',K4,q',rfl,h2,h3,h4,h5,h6⟩:=Mt.phase hA (S:=⟨h0,hL,hP,hb,hg,hB,bnd,pend,inv⟩) sl;exact Ends.run N h1 (h4 gs' t' K4 q' h2 h5 h6)
end
end Go.Mt
namespace Go.Mt
open Go.Conc Go.Tt
open Go.ConcR (KK wgBlock WgAt stA smA rd wr)
abbrev K0:Pr:=λ_ _=>False
structure Sh (n:Nat)(Shun:Loc->Prop)(R:Pr)(W:aE):Prop where
 old:∀l b,nF l b->b<n->¬Shun l
 rel:∀a b,R a b->∀l,nF l b->¬Shun l
 new:∀l b,nF l b->W.heap.size<=b->¬Shun l
structure Kp (W0:aE)(R:Pr)(St:Nat->Prop)(W:aE):Prop where
 os:W.os=W0.os
 tape:W.tape=W0.tape
 output:W.output=W0.output
 size:W0.heap.size<=W.heap.size
 block:∀b,b<W0.heap.size->W.heap[b]? =W0.heap[b]?
 old:∀a b,R a b->b<W0.heap.size->St a
def Kp.below {W0 W:aE}{R:Pr}{St:Nat->Prop}(h:Kp W0 R St W):bR W0.heap.size W0 W:=⟨h.os,h.tape,h.output,h.size,h.block⟩
section
variable (P:dL)(fs:aO->Bool)(G':Gp)(St:Nat->Prop)(W0:aE)(Post:aF->aE->Prop)
def JO (m:Fm)(ms:List Fm)(w:aE):Prop:=
 ∀(K R:Pr) (W:aE) (m':Fm) (ms':List Fm) (Shun:Loc->Prop),cT (SF fs) K R G' St w W->oT P fs K R m m'->uG P fs K R ms ms'->Sh W0.heap.size Shun R W->Kp W0 R St W->
  J P.c Post Shun W.heap.size (G m'.fr (ms'.map Fm.fr)) W
variable {P fs G' St W0 Post}
variable {m:Fm}{ms:List Fm}
def JO.tape {w:aE}(h:JO P fs G' St W0 Post m ms w)(T:Tape)(e:Nat):JO P fs G' St W0 Post m ms (Tt.tp w T e):=
 λK R W m' ms' Shun a b c d k=>h K R W m' ms' Shun a.untp b c d k
variable {R:Pr}
def zAp {Shun:Loc->Prop}{W:aE}{St:Nat->Prop}{e:oO}(h:Fs R St e){n:Nat}(hs:Sh n Shun R W)(aN:∀a b,R a b->b<W.heap.size):EvL Shun W.heap.size e:=by
 rcases h with rfl|⟨b,a,h1,h2,h3⟩
 .exact⟨λx hx=>by simp[jK,qO] at hx,aQ,aQ,trivial⟩
 .obtain⟨loc,wr,sy⟩:=e
  cases loc with
  |cell x=>
   simp only[Gb,fT] at h1;refine⟨λy hy lK=>?_,aQ,aQ,?_⟩
   .simp only[jK,qO,fT] at hy
    subst hy;exact absurd lK (hs.rel a b h2 _ h1)
   .show x.block<W.heap.size
    rw[h1];exact aN a b h2
  |obj r=>
   simp only[Gb,fT] at h1;have hr:r<W.heap.size:=by rw[h1];exact aN a b h2
   refine⟨λy hy lK=>?_,aQ,aQ,?_⟩
   .have Wv:y.loc=.obj r:=by
     cases wr<;>cases sy<;>simp only[jK,qO,fT] at hy<;>first|(subst hy;rfl)|(cases hy;done)
    exact absurd (Wv▸lK) (hs.rel a b h2 (.obj r) h1)
   .cases wr<;>cases sy<;>exact hr
  |_=>simp[Gb] at h1
def cT.at {S:aO->Prop}{K:Pr}{G':Gp}{w W:aE}(h:cT S K R G' St w W)(d:Nat):cT S K R G' St w (W.at d):=
 ⟨h.inj,h.inj',h.lt,h.low,h.gle,h.cont,h.rest,h.st,h.np,h.tb⟩
def JO.one (F:Fit2 P fs)(hG:G'=P.gp){w:aE}(hs:m.ret=true->ms≠[])(nx:Tape->(Fm×List Fm)×aE)(cG:∀T,(eZ P.g m ms).run P.g (Tt.tp w T 0)=.ok (nx T).1 (nx T).2)
 (dE:∀T K R y,¬OpR P fs K R (nx T).1 y) (hJ:∀T,JO P fs G' St W0 Post (nx T).1.1 (nx T).1.2 (nx T).2):JO P fs G' St W0 Post m ms w:=by
 intro K R W m' ms' Shun hw hm jA lK hk;refine J.own rfl λd=>?_;have dI:=cT.at hw d
 let aV:=W.at d
 let T:Tape:=λn q=>aV.tape (aV.drawn+n) q
 have yN:cT (SF fs) K R G' St (Tt.tp w T 0) aV:=⟨dI.inj,dI.inj',dI.lt,dI.low,dI.gle,dI.cont,dI.rest,dI.st,dI.np,dI.tb⟩;have Lb:Tp (Tt.tp w T 0) aV:=λn q=>by show aV.tape (aV.drawn+(0+n)) q=_;rw[qZ]
 obtain⟨R1,x',W1,ev,e1,e2,e3,e4,e5⟩:=aG.run hG _ (zd9 (l:=false) F (yN.relOk hG) hm jA (λe=>by cases e) hs) yN Lb (cG T);replace e2:=e2.resolve_right λx=>dE T K R1 x' x.2;have mH:(eZ P.c m' ms').events P.c aV #[]=ev:=by rw[e4];simp
 have cJ:W.heap.size<=W1.heap.size:=e3.size.2;have zrp:Sh W0.heap.size Shun R1 W1:=⟨lK.old,λa b x l hl=>by
  rcases e3.new a b x with y|⟨_,y⟩
  .exact lK.rel a b y l hl
  .exact lK.new l b hl y,λl b hl hb=>lK.new l b hl (eG cJ hb)⟩
 have o5:Kp W0 R1 St W1:=by
  refine⟨e3.os.2.trans hk.os,e3.tape.2.trans hk.tape,e3.ou.2.trans hk.output,eG hk.size cJ,λb hb=>?_,λa b x hb=>?_⟩
  .have zHp:b<W.heap.size:=lC hb hk.size
   rw[e3.keep b zHp (λa x=>hk.old a b x hb)];exact hk.block b hb
  .rcases e3.new a b x with y|⟨_,y⟩
   .exact hk.old a b y hb
   .have h9:W.heap.size<=b:=y
    have:=hk.size;omega
 have goal:=hJ T K R1 W1 x'.1 x'.2 Shun e3.rel e2.1 e2.2.1 zrp o5;have aY:=zk0 (main:=true) e1 [];simp only[N4] at aY;rw[mH] at aY;exact⟨_,W1,_,W1.heap.size,aY,λe he=>zAp (e5 e (zce he)) zrp (λa b x=>(e3.rel.ltR a b x).2),cJ,goal⟩
def LTs.jo (F:Fit2 P fs)(hG:G'=P.gp){N:Fm->Prop}(hop:∀f xs,P.op f=true->¬N (qU P.g f xs)){Stop:Fm->List Fm->aE->Prop}(hS:∀m ms w,Stop m ms w->JO P fs G' St W0 Post m ms w){w:aE}(h:LTs P.g N Stop m ms w):
 JO P fs G' St W0 Post m ms w:=by
 induction h with
 |stop hs=>exact hS _ _ _ hs
 |step nx hs cG hN aN ih=>
  rename_i m ms w;refine JO.one F hG hs nx cG (λT K R y ho=>?_) ih;obtain⟨f,xs,bY,c,c',rest,L8,h1,h2,h3,h4,_⟩:=ho.ex;have zof:=hN T;rw[h4] at zof;exact hop f xs h1 zof
end
abbrev PL (p:bS)(op gs:aO->Bool):dL:=⟨p,p.funcs,op,λ_=>false,gs,true⟩
abbrev PS (p:bS)(gs:aO->Bool):dL:=⟨p,p.funcs,λ_=>false,λ_=>false,gs,true⟩
structure Lv (p:bS)(op gs gs₁ fs:aO->Bool):Prop where
 fit:Fit2 (PL p op gs) fs
 fit₁:vM (PS p gs₁) fs
 nofit:∀f,op f=true->∃fn c,p.funcs[f]? =some fn/\fn.body=some c/\(fn.name== "runtime.NumGoroutine")=false/\oG p ⟨fs,gs₁,true⟩ c=false
section
variable {p:bS}{op gs gs₁ fs:aO->Bool}{St:Nat->Prop}{W0:aE}{Post:aF->aE->Prop}
abbrev JL (p:bS)(op gs fs:aO->Bool)(St:Nat->Prop)(W0:aE)(Post:aF->aE->Prop)(m:Fm)(ms:List Fm)(w:aE):Prop:=JO (PL p op gs) fs (oZ p) St W0 Post m ms w
def Iv (p:bS)(f:aO)(xs:Array aF):(qU p f xs).fn=f:=by
 unfold qU;split
 .split<;>rfl
 .rfl
variable {P:dL}{G':Gp}{m:Fm}{ms:List Fm}
def JO.untape {fs:aO->Bool}{w:aE}{T:Tape}{e:Nat}(h:JO P fs G' St W0 Post m ms (Tt.tp w T e)):JO P fs G' St W0 Post m ms w:=
 λK R W m' ms' Shun a b c d k=>h K R W m' ms' Shun ⟨a.inj,a.inj',a.lt,a.low,a.gle,a.cont,a.rest,a.st,a.np,a.tb⟩ b c d k
variable {K:Pr}
def vF.tape {fs:aO->Bool}{w:aE}(h:vF P fs K G' St m ms w)(T:Tape)(e:Nat):vF P fs K G' St m ms (Tt.tp w T e):=by
 obtain⟨R,W,m',ms',a,b,c⟩:=h;exact⟨R,W,m',ms',⟨a.inj,a.inj',a.lt,a.low,a.gle,a.cont,a.rest,a.st,a.np,a.tb⟩,b,c⟩
variable {K₁:Pr}{c:Code}
def zna {P₁:dL}{Tq:aO->Bool}{V9:Gp}{zdE:Nat->Prop}(zfb:vM P₁ Tq)(zdl:V9=P₁.gp){fn:aO}{tmps:Array aF}{w:aE}{Q:Exit->uA->aE->Prop}
 (hrel:vF P₁ Tq K₁ V9 zdE ⟨fn,tmps,[.code c],false⟩ [] w) (qX:∀T,Code.wp P₁.g c Q ⟨tmps,[]⟩ (Tt.tp w T 0)) (hx:∀e a w,Q e a w->e=.normal\/e=.ret) (Xg:∀e a w T k,Q e a w->Q e a (Tt.tp w T k)):
 Tt.LT P₁.g (λmT wT=>mT.ret=true/\((mT.todo=[]/\Q .normal ⟨mT.tmps,[]⟩ wT)\/Q .ret ⟨mT.tmps,[]⟩ wT)) ⟨fn,tmps,[.code c],false⟩ [] w:=by
 refine bar zfb zdl (λm w T e h=>⟨h.1,h.2.imp (λx=>⟨x.1,Xg _ _ _ _ _ x.2⟩) (Xg _ _ _ _ _)⟩) ⟨hrel,λT=>?_⟩
 let b:Frame:={(default:dH) with fn:=fn,kind:=.normal}
 obtain⟨e,a',w',hq,zuk⟩:=qX T b [] [pz];have zIv:=vF.tape hrel T 0
 have fin:∀todo,Steps P₁.g (lone (b.at ⟨tmps,[]⟩ [.code c]) [pz] (Tt.tp w T 0)) (lone {b.at a' todo with mode:=.returning} [pz] w')->((todo=[]/\Q .normal a' w')\/Q .ret a' w')->
  ∃n mT wT,Ix P₁.g n ⟨fn,tmps,[.code c],false⟩ [] (Tt.tp w T 0) mT wT/\mT.ret=true/\((mT.todo=[]/\Q .normal ⟨mT.tmps,[]⟩ wT)\/Q .ret ⟨mT.tmps,[]⟩ wT):=by
  intro todo hs zmA;obtain⟨n,hn⟩:=hs;obtain⟨k,mT,hi,fP⟩:=Sb zfb zdl (frT:={b.at a' todo with mode:=.returning}) rfl n zIv hn;have h1:mT.tmps=a'.tmps:=congrArg zrY fP;have h2:a'.defers=[]:=(congrArg dH.defers fP).symm;have h3:mT.todo=todo:=congrArg dH.todo fP;have h4:mT.ret=true:=by
   cases hr:mT.ret with
   |true=>rfl
   |false=>have:=congrArg dH.mode fP;rw[Fm.fr_run hr] at this;cases this
  have h5:(⟨mT.tmps,[]⟩:uA)=a':=by rw[h1,<-h2]
  exact⟨k,mT,w',hi,h4,by rw[h5,h3];exact zmA⟩
 rcases hx e a' w' hq with rfl|rfl
 .exact fin [] (Steps.trans zuk (Steps.one step_end)) (.inl ⟨rfl,hq⟩)
 .obtain⟨todo,hs⟩:=zuk
  exact fin todo hs (.inr hq)
def zaN (p:bS)(op:aO->Bool)(m:Fm):Prop:=∀f xs,op f=true->m≠qU p f xs
def Lv.hop (L:Lv p op gs gs₁ fs):∀f xs,(PL p op gs).op f=true->¬zaN p op (qU (PL p op gs).g f xs):=λf xs h hn=>hn f xs h rfl
def Lv.hN (L:Lv p op gs gs₁ fs):∀m R y,oT (PS p gs₁) fs K₁ R m y->zaN p op m:=by
 rintro m R y hm f xs ho rfl;obtain⟨fn,c,h1,h2,_,h4⟩:=L.nofit f ho;have h5:qU p f xs=⟨f,xs++nI (fn.ntmps-xs.size) aA,[.code c],false⟩:=by simp[qU,h1,h2]
 have hf:=hm.fit;rw[h5] at hf;have:=hf (.code c) aQ;have h6:uC (PS p gs₁) fs f=⟨fs,gs₁,true⟩:=rfl;simp only[Ex,h6,h4] at this;cases this
variable {k:List eE}
def zvh {R:Pr}{fn:aO}{tmps:Array aF}{w W:aE}{m':Fm}(hc:oG p ⟨fs,gs₁,true⟩ c=true)
 (hw:cT (SF fs) K R (oZ p) St w W) (hm:oT (PL p op gs) fs K R ⟨fn,tmps,.code c::k,false⟩ m'):vF (PS p gs₁) fs K (oZ p) St ⟨fn,tmps,[.code c],false⟩ [] w:=by
 refine⟨R,W,{m' with todo:=[.code c]},[],hw,⟨hm.fn,rfl,hm.ret,hm.tmps,λi hi=>?_,hm.infs⟩,.nil⟩;simp only[jL,lZ,or_false] at hi;subst hi;exact hc
variable {b:List Fm}
def JO.piece (L:Lv p op gs gs₁ fs){fn:aO}{tmps:Array aF}{w:aE}(hc:oG p ⟨fs,gs₁,true⟩ c=true)(xD:op fn=false)
 (qX:∀T,Code.wp p c (λe a' w'=>e=.normal/\JL p op gs fs St W0 Post ⟨fn,a'.tmps,k,false⟩ b w') ⟨tmps,[]⟩ (Tt.tp w T 0)):JL p op gs fs St W0 Post ⟨fn,tmps,.code c::k,false⟩ b w:=by
 intro K R W m' ms' Shun hw hm jA lK hk;have hrel:=zvh (gs₁:=gs₁) hc hw hm;have tree:=zna L.fit₁ rfl hrel qX (λe a w h=>.inl h.1) (λe a w T k h=>⟨h.1,h.2.tape T k⟩)
 have zbp:=LT.app L.fit₁ rfl (N:=zaN p op) (Stop:=λm ms w=>JL p op gs fs St W0 Post m ms w) k b (fn0:=fn) (L.hN (K₁:=K)) (λm e f xs ho e2=>by rw[e2,Iv] at e;rw[e,xD] at ho;cases ho)
  (λx w e1 e2 e3 hq=>by
   have h1:=hq w.tape;rcases h1.2 with h|h
   .have h2:=JO.untape h.2.2
    obtain⟨xf,xt,xd,xr⟩:=x;simp only at e1 e2 e3 h2;subst e1 e2 e3;exact h2
   .cases h.1)
  (λx w e1 e2 e3 hq=>by
   rcases hq.2 with h|h
   .exact absurd h.1 e3
   .cases h.1) tree rfl hrel (λ_ e=>by cases e)
 exact LTs.jo L.fit rfl L.hop (λm ms w h=>h) zbp K R W m' ms' Shun hw hm jA lK hk
def JO.ctl (L:Lv p op gs gs₁ fs){m1:Fm}{w:aE}(hr:m.ret=false)(hf:op m1.fn=false)(cG:∀w,(rP p m ms).run p w=.ok (m1,ms) w)(hJ:JL p op gs fs St W0 Post m1 ms w):JL p op gs fs St W0 Post m ms w:=by
 refine JO.one L.fit rfl (λe=>by rw[hr] at e;cases e) (λT=>((m1,ms),Tt.tp w T 0)) (λT=>?_) (λT K R y ho=>?_) λT=>hJ.tape T 0
 .show(eZ p m ms).run p _=_
  simp only[eZ,hr,jF,if_false];exact cG _
 .obtain⟨f,xs,bY,c,c',rest,L8,h1,h2,h3,h4,_⟩:=ho.ex
  simp only[pJ] at h4;have h5:=h4.1;rw[h5,Iv] at hf;have h6:op f=true:=h1;rw[hf] at h6;cases h6
variable {a:Code}
def JO.seq (L:Lv p op gs gs₁ fs){fn:aO}{tmps:Array aF}{b:Code}{w:aE}(hf:op fn=false)(h:JL p op gs fs St W0 Post ⟨fn,tmps,.code a:: .code b::k,false⟩ ms w):JL p op gs fs St W0 Post ⟨fn,tmps,.code (.seq a b)::k,false⟩ ms w:=
 JO.ctl L rfl hf (λw=>rfl) h
def JO.cond (L:Lv p op gs gs₁ fs){fn:aO}{tmps:Array aF}{c:cN}{b:Code}{w:aE}{t:Bool}(hf:op fn=false)(hc:(bH tmps []).eval c=.bool t)(h:JL p op gs fs St W0 Post ⟨fn,tmps,.code (if t then a else b)::k,false⟩ ms w):JL p op gs fs St W0 Post ⟨fn,tmps,.code (.cond c a b)::k,false⟩ ms w:=by
 refine JO.ctl L rfl hf (λw=>?_) h;have he:Fm.eval ⟨fn,tmps,.code (.cond c a b)::k,false⟩ c=.bool t:=by rw[<-hc];cases c<;>rfl
 simp only[rP,he,kU,bD]
def JO.skip (L:Lv p op gs gs₁ fs){fn:aO}{tmps:Array aF}{w:aE}(hf:op fn=false)(h:JL p op gs fs St W0 Post ⟨fn,tmps,k,false⟩ ms w):JL p op gs fs St W0 Post ⟨fn,tmps,.code .skip::k,false⟩ ms w:=JO.ctl L rfl hf (λw=>rfl) h
def JO.ret (L:Lv p op gs gs₁ fs){fn:aO}{tmps:Array aF}{w:aE}(hf:op fn=false)(h:JL p op gs fs St W0 Post ⟨fn,tmps,.code .ret::k,true⟩ ms w):JL p op gs fs St W0 Post ⟨fn,tmps,.code .ret::k,false⟩ ms w:=JO.ctl L rfl hf (λw=>rfl) h
def JO.fall (L:Lv p op gs gs₁ fs){fn:aO}{tmps:Array aF}{w:aE}(hf:op fn=false)(h:JL p op gs fs St W0 Post ⟨fn,tmps,[],true⟩ ms w):JL p op gs fs St W0 Post ⟨fn,tmps,[],false⟩ ms w:=JO.ctl L rfl hf (λw=>rfl) h
variable {ops:Array aZ}
def JO.reg (L:Lv p op gs gs₁ fs){fn:aO}{tmps:Array aF}{id:Nat}{w:aE}(hf:op fn=false)(h:JL p op gs fs St W0 Post ⟨fn,tmps,.inRegion ops (gN ops.size)::k,false⟩ ms w):JL p op gs fs St W0 Post ⟨fn,tmps,.code (.region id ops false)::k,false⟩ ms w:=JO.ctl L rfl hf (λw=>rfl) h
def JO.regEnd (L:Lv p op gs gs₁ fs){fn:aO}{tmps:Array aF}{w:aE}(hf:op fn=false)(h:JL p op gs fs St W0 Post ⟨fn,tmps,k,false⟩ ms w):JL p op gs fs St W0 Post ⟨fn,tmps,.inRegion ops []::k,false⟩ ms w:=JO.ctl L rfl hf (λw=>rfl) h
variable {o:aZ}
def JO.opv (L:Lv p op gs gs₁ fs){fn:aO}{tmps:Array aF}{i:Nat}{rest:List Nat}{w:aE}{v:aF}(hf:op fn=false)(ho:ops[i]? =some o)(cD:dD o (dR ops tmps)=true)
 (hx:∀T e,(aS (bH tmps []).eval o).run p (Tt.tp w T e)=.ok (.value v) (Tt.tp w T e)) (h:JL p op gs fs St W0 Post ⟨fn,(cC ⟨tmps,[]⟩ o.dst v).tmps,.inRegion ops rest::k,false⟩ ms w):JL p op gs fs St W0 Post ⟨fn,tmps,.inRegion ops (i::rest)::k,false⟩ ms w:=by
 refine JO.one L.fit rfl (λe=>by cases e) (λT=>((⟨fn,(cC ⟨tmps,[]⟩ o.dst v).tmps,.inRegion ops rest::k,false⟩,ms),Tt.tp w T 0)) (λT=>?_) (λT K R y Mn=>?_) λT=>h.tape T 0
 .show(eZ p _ ms).run p _=_
  simp only[eZ,jF,if_false,rP,ho,Ac,zG,cD,if_true];have he:Fm.eval ⟨fn,tmps,.inRegion ops (i::rest)::k,false⟩=(bH tmps []).eval:=by funext x;cases x<;>rfl
  rw[he];refine(rK p _ _ _).trans ?_;rw[hx];simp only[uU,qI,kU,bD,Fm.fin,ho,vC,cC];cases o.dst<;>rfl
 .obtain⟨f,xs,bY,c,c',rest,L8,h1,h2,h3,h4,_⟩:=Mn.ex
  simp only[pJ] at h4;have h5:=congrArg Fm.fn h4.1;rw[Iv] at h5;have h6:op f=true:=h1;simp only at h5;rw[<-h5,hf] at h6;cases h6
variable {x:Fm}
def JO.back (L:Lv p op gs gs₁ fs){w:aE}{i:Nat}{rest:List Nat}{v:aF}(hr:x.ret=true)(p8:m.todo=.inRegion ops (i::rest)::k){fnx:Ub}(U6:p.funcs[x.fn]? =some fnx)(hv:(oH fnx.results.toList x.tmps).run p w=.ok v w)(hf:op m.fn=false)
 (h:JL p op gs fs St W0 Post (m.fin ops i rest k v) ms w):JL p op gs fs St W0 Post x (m::ms) w:=by
 refine JO.one L.fit rfl (λ_=>by simp) (λT=>((m.fin ops i rest k v,ms),Tt.tp w T 0)) (λT=>?_) (λT K R y Mn=>?_) λT=>h.tape T 0
 .show(eZ p x (m::ms)).run p _=_
  simp only[eZ,hr,if_true];exact(Lj p8 U6 ((Qf _ _ w v w hv).2 T 0)).1
 .obtain⟨f,xs,bY,c,c',rest,L8,h1,h2,h3,h4,_⟩:=Mn.ex
  simp only[pJ] at h4;have h5:=congrArg Fm.fn h4.1;rw[Iv] at h5;have h6:op f=true:=h1;have h7:m.fn=f:=h5;rw[<-h7,hf] at h6;cases h6
def JO.tail (L:Lv p op gs gs₁ fs){fn:aO}{tmps:Array aF}{w:aE}(hc:oG p ⟨fs,gs₁,true⟩ c=true)(xD:op fn=false)
 (qX:∀T,Code.wp p c (λe a' w'=>(e=.normal\/e=.ret)/\∀todo,JL p op gs fs St W0 Post ⟨fn,a'.tmps,todo,true⟩ b w') ⟨tmps,[]⟩ (Tt.tp w T 0)):JL p op gs fs St W0 Post ⟨fn,tmps,[.code c],false⟩ b w:=by
 intro K R W m' ms' Shun hw hm jA lK hk;have hrel:=zvh (gs₁:=gs₁) hc hw hm;have tree:=zna L.fit₁ rfl hrel qX (λe a w h=>h.1) (λe a w T k h=>⟨h.1,λtodo=>(h.2 todo).tape T k⟩)
 have zbp:=LT.app L.fit₁ rfl (N:=zaN p op) (Stop:=λm ms w=>JL p op gs fs St W0 Post m ms w) [] b (fn0:=fn) (L.hN (K₁:=K)) (λm e f xs ho e2=>by rw[e2,Iv] at e;rw[e,xD] at ho;cases ho)
  (λx w e1 e2 e3 hq=>by
   have h1:=hq w.tape;have h2:JL p op gs fs St W0 Post ⟨fn,x.tmps,[],true⟩ b w:=by
    rcases h1.2 with h|h
    .exact JO.untape (h.2.2 [])
    .exact JO.untape (h.2 [])
   obtain⟨xf,xt,xd,xr⟩:=x;simp only at e1 e2 e3 h2;subst e1 e2 e3;exact JO.fall L xD h2)
  (λx w e1 e2 e3 hq=>by
   have h2:JL p op gs fs St W0 Post ⟨fn,x.tmps,x.todo,true⟩ b w:=by
    rcases hq.2 with h|h
    .exact h.2.2 _
    .exact h.2 _
   obtain⟨xf,xt,xd,xr⟩:=x;simp only at e1 e2 e3 h2;subst e1 e2;rw[Fm.app_nil];exact h2) tree rfl hrel (λ_ e=>by cases e)
 exact LTs.jo L.fit rfl L.hop (λm ms w h=>h) zbp K R W m' ms' Shun hw hm jA lK hk
def Lv.noOp (L:Lv p op gs gs₁ fs){f:aO}(hg:gs₁ f=true):op f=false:=by
 cases ho:op f with
 |false=>rfl
 |true=>
  obtain⟨fn,c,h1,h2,_,h4⟩:=L.nofit f ho;obtain⟨fn',c',g1,g2,g3,g4,g5⟩:=L.fit₁.fn f hg rfl;have zC:=h1;rw[g2] at zC;obtain rfl:=cE zC;rw[h2] at g4;obtain rfl:=cE g4;have h6:uC (PS p gs₁) fs f=⟨fs,gs₁,true⟩:=rfl;rw[h6] at g5;have zwT:=g5;rw[h4] at zwT;cases zwT
variable {fn:Ub}
def zHJ {p:bS}(hp:Cw fn.results.toList){tmps:Array aF}{v:aF}{w w':aE}(h:(results fn tmps).run p w=.ok v w'):(oH fn.results.toList tmps).run p w=.ok v w:=by
 rw[zeI hp] at h;obtain⟨rfl,_⟩:=Qf _ _ w v w' h;exact h
variable {args:Array cN}{kS:Array aM}
def zbs {p:bS}{f:aO}(hop:o.op=.call ⟨.value (.func f),args,kS⟩){ρ:cN->aF}(hρ:∀g,ρ (.func g)=.func (.func g) #[] #[])(hf:p.funcs[f]? =some fn)
 (hn:(fn.name== "runtime.NumGoroutine")=false) (hb:fn.body=some c) (w:aE):(aS ρ o).run p w=.ok (.enter f (args.map ρ)) w/\(aS ρ o).events p w #[]=#[]:=by
 obtain⟨dst,yP,type,pos,after,guard⟩:=o;simp only at hop;subst hop;have sU:¬fn.name= "runtime.NumGoroutine" :=by simpa using hn
 constructor
 .simp[aS,resolve,Bt,hρ,invoke,callFunc,program,bind,xU,pure,bD,hf,sU,hb]
 .simp[aS,resolve,Bt,hρ,invoke,callFunc,program,bind,xU,pure,bD,wE,zQ,hf,sU,hb]
def JO.callL (L:Lv p op gs gs₁ fs){w:aE}{i:Nat}{rest:List Nat}{f:aO}(hr:m.ret=false)(p8:m.todo=.inRegion ops (i::rest)::k)
 (ho:ops[i]? =some o) (cD:dD o (dR ops m.tmps)=true) (hop:o.op=.call ⟨.value (.func f),args,kS⟩) (hg:gs₁ f=true) (xD:op m.fn=false) (sZ:args.all (dP fs)=true)
 {Q:aF->aE->Prop} (Xg:∀v w T e,Q v w->Q v (Tt.tp w T e)) (hc:∀T,fH p f (args.map m.eval) (Tt.tp w T 0) (λe w'=>∃v,e=.returned v/\Q v w'))
 (hJ:∀v w',Q v w'->JL p op gs fs St W0 Post (m.fin ops i rest k v) ms w'):JL p op gs fs St W0 Post m ms w:=by
 have C9:=L.noOp hg;obtain⟨fn,c,g1,g2,g3,g4,g5⟩:=L.fit₁.fn f hg rfl;have Ck:p.funcs[f]? =some fn:=g2;have l6:Cw fn.results.toList:=L.fit₁.res f hg rfl fn g2;have Cf:qU p f (args.map m.eval)=⟨f,args.map m.eval++nI (fn.ntmps-(args.map m.eval).size) aA,[.code c],false⟩:=by simp[qU,Ck,g4]
 have zbZ:∀(x:Fm) (wx:aE),x.ret=true->x.fn=f->(∃v,(oH fn.results.toList x.tmps).run p wx=.ok v wx/\Q v wx)->JL p op gs fs St W0 Post x (m::ms) wx:=by
  intro x wx h1 h2 ⟨v,h3,h4⟩;exact JO.back L h1 p8 (v:=v) (fnx:=fn) (by rw[h2];exact Ck) h3 xD (hJ v wx h4)
 intro K R W m' ms' Shun hw hm jA lK hk;have Bw:bK (SF fs) K R (args.map m.eval) (args.map m'.eval):=bK.maps hm.eval sZ;have zdU:oT (PS p gs₁) fs K R (qU p f (args.map m.eval)) (qU p f (args.map m'.eval)):=by
  have zHq:qU p f (args.map m'.eval)=⟨f,args.map m'.eval++nI (fn.ntmps-(args.map m'.eval).size) aA,[.code c],false⟩:=by simp[qU,Ck,g4]
  rw[Cf,zHq];refine⟨rfl,rfl,rfl,Bw.pad _,λj hj=>?_,⟨fn,fn,g1,g2,rfl,l6⟩⟩;simp only[jL,lZ,or_false] at hj;subst hj;exact g5
 have hrel:vF (PS p gs₁) fs K (oZ p) St (qU p f (args.map m.eval)) [] w:=⟨R,W,_,[],hw,zdU,.nil⟩;have tree:Tt.LT p (λmT wT=>mT.ret=true/\mT.fn=f/\∃v,(oH fn.results.toList mT.tmps).run p wT=.ok v wT/\Q v wT) (qU p f (args.map m.eval)) [] w:=by
  refine bar (P:=PS p gs₁) L.fit₁ rfl (λm w T e h=>⟨h.1,h.2.1,let⟨v,a,b⟩:=h.2.2;⟨v,(Qf _ _ w v w a).2 T e,Xg _ _ _ _ b⟩⟩) ⟨hrel,λT=>?_⟩;obtain⟨e,w',fr,⟨v,rfl,hq⟩,rM,Dw,J0⟩:=hc T [pz];obtain⟨zis,zMW,zKE,fn',Vz,zdN⟩:=J0;obtain⟨n,hn⟩:=rM;have zIE:Eg p f (args.map m.eval) .normal=(qU p f (args.map m.eval)).fr:=by rw[Cf];exact Yt Ck g4
  rw[zIE] at hn;obtain⟨k2,mT,hi,fP⟩:=Sb (P:=PS p gs₁) L.fit₁ rfl zis n (vF.tape hrel T 0) hn;have h1:mT.tmps=fr.tmps:=congrArg zrY fP;have h2:mT.fn=f:=(congrArg dH.fn fP).trans Dw;have h4:mT.ret=true:=by
   cases hr:mT.ret with
   |true=>rfl
   |false=>rw[<-fP,Fm.fr_run hr] at zis;cases zis
  rw[Dw,Ck] at Vz;obtain rfl:=cE Vz;exact⟨k2,mT,w',hi,h4,h2,v,by rw[h1];exact zHJ l6 zdN,hq⟩
 have zbp:=LT.app (P₁:=PS p gs₁) L.fit₁ rfl (N:=zaN p op) (Stop:=λm ms w=>JL p op gs fs St W0 Post m ms w) [] (m::ms) (fn0:=f) (L.hN (K₁:=K)) (λx e f' xs uZ e2=>by rw[e2,Iv] at e;rw[e,C9] at uZ;cases uZ)
  (λx w e1 e2 e3 hq=>by
   obtain⟨_,_,v,h5,h6⟩:=hq w.tape;have h7:JL p op gs fs St W0 Post {x with ret:=true} (m::ms) w:=JO.untape (T:=w.tape) (e:=0) (zbZ _ _ rfl e1 ⟨v,h5,h6⟩);obtain⟨xf,xt,xd,xr⟩:=x;simp only at e1 e2 e3 h7;subst e1 e2 e3;exact JO.fall L C9 h7)
  (λx w e1 e2 e3 hq=>by
   rw[Fm.app_nil];exact zbZ _ _ e2 e1 hq.2.2) tree (Iv _ _ _) hrel (λ_ e=>by rw[Cf] at e;cases e)
 have zDv:JL p op gs fs St W0 Post (qU p f (args.map m.eval)) (m::ms) w:=by
  have:=LTs.jo L.fit rfl L.hop (λm ms w h=>h) zbp
  rwa [show zU [] (m::ms) (qU p f (args.map m.eval)) []=(qU p f (args.map m.eval),m::ms) from by simp[zU,Fm.app_nil]] at this
 refine JO.one L.fit rfl (λe=>by rw[hr] at e;cases e) (λT=>((qU p f (args.map m.eval),m::ms),Tt.tp w T 0)) (λT=>?_) (λT K R y Mn=>?_) (λT=>zDv.tape T 0) K R W m' ms' Shun hw hm jA lK hk
 .show(eZ p m ms).run p _=_
  simp only[eZ,hr,jF,if_false,rP,p8,ho,Ac,zG,cD,if_true];refine(rK p _ _ _).trans ?_;rw[(zbs hop (λg=>rfl) Ck g3 g4 (Tt.tp w T 0)).1];simp only[uU,qI,Ck,g4,kU,bD,Cf]
 .obtain⟨f',xs,bY,c,c',rest,L8,h1,h2,h3,h4,_⟩:=Mn.ex
  simp only[pJ] at h4;have h5:=congrArg Fm.fn h4.1;rw[Iv,Iv] at h5;have h6:op f'=true:=h1;rw[<-h5,C9] at h6;cases h6
def JO.callF (L:Lv p op gs gs₁ fs){w:aE}{i:Nat}{rest:List Nat}{f:aO}(hr:m.ret=false)(p8:m.todo=.inRegion ops (i::rest)::k)
 (ho:ops[i]? =some o) (cD:dD o (dR ops m.tmps)=true) (hop:o.op=.call ⟨.value (.func f),args,kS⟩) (hg:op f=true) (sZ:args.all (dP fs)=true)
 (hF:∀(K R:Pr) (W:aE) (m':Fm) (ms':List Fm) (Shun:Loc->Prop) (bY:Array aF),cT (SF fs) K R (oZ p) St w W->oT (PL p op gs) fs K R m m'->uG (PL p op gs) fs K R ms ms'->Sh W0.heap.size Shun R W->Kp W0 R St W->bK (SF fs) K R (args.map m.eval) bY->
  J p Post Shun W.heap.size (G (Eg p f bY .normal) (m'.fr::ms'.map Fm.fr)) W):JL p op gs fs St W0 Post m ms w:=by
 obtain⟨fn,c,Ck,g4,g3,_⟩:=L.nofit f hg;intro K R W m' ms' Shun hw hm jA lK hk;refine J.own rfl λd=>?_;have Bw:bK (SF fs) K R (args.map m.eval) (args.map m'.eval):=bK.maps hm.eval sZ;have vT:m'.ret=false:=hm.ret.symm.trans hr;have O5:m'.todo=.inRegion ops (i::rest)::k:=hm.todo.symm.trans p8;have uE:dD o (dR ops m'.tmps)=true:=by rw[<-zik ops hm.tmps];exact cD
 have Cf:Eg p f (args.map m'.eval) .normal=(⟨f,args.map m'.eval++nI (fn.ntmps-(args.map m'.eval).size) aA,[.code c],false⟩:Fm).fr:=Yt Ck g4;obtain⟨x1,x2⟩:=zbs hop (ρ:=m'.eval) (λg=>rfl) Ck g3 g4 (W.at d);have hs:(eZ p m' ms').run p (W.at d)=.ok (⟨f,args.map m'.eval++nI (fn.ntmps-(args.map m'.eval).size) aA,[.code c],false⟩,m'::ms') (W.at d):=by
  simp only[eZ,vT,jF,if_false,rP,O5,ho,Ac,zG,uE,if_true];refine(rK p _ _ _).trans ?_;rw[x1];simp only[uU,qI,Ck,g4,kU,bD]
 have aY:=zk0 (main:=true) hs [];simp only[N4] at aY;have he:(eZ p m' ms').events p (W.at d) #[]=#[]:=by
  simp only[eZ,vT,jF,if_false,rP,O5,ho,Ac,zG,uE,if_true];refine(Sk p _ _ _ #[]).trans ?_;rw[x1,Qx,x2];simp only[qI,Ck,g4];rfl
 rw[he,Bg] at aY;refine⟨_,W.at d,#[],W.heap.size,aY,λe he=>by simp at he,aX _,?_⟩;rw[<-Cf];exact hF K R (W.at d) m' ms' Shun (args.map m'.eval) (cT.at hw d) hm jA ⟨lK.old,lK.rel,lK.new⟩ ⟨hk.os,hk.tape,hk.output,hk.size,hk.block,hk.old⟩ Bw
def JO.fin (L:Lv p op gs gs₁ fs){w:aE}{t:Tmp}(hr:x.ret=true)(hf:p.funcs[x.fn]? =some fn)(ht:fn.results=#[.tmp t])(hi:p.inits.idxOf? x.fn=none)(hP:∀K R W v',VR (SF fs) K R (x.tmps.getD t aA) v'->Kp W0 R St W->Post v' W):JL p op gs fs St W0 Post x [] w:=by
 intro K R W m' ms' Shun hw hm jA lK hk;cases jA;refine J.done rfl λd=>?_;have vT:=hm.ret.symm.trans hr;have Vz:p.funcs[m'.fn]? =some fn:=by rw[<-hm.fn];exact hf
 have gT:p.inits.idxOf? m'.fn=none:=by rw[<-hm.fn];exact hi
 refine⟨m'.tmps.getD t aA,#[],?_,λe he=>by simp at he,hP K R (W.at d) _ (hm.tmps.getD t xW) ⟨hk.os,hk.tape,hk.output,hk.size,hk.block,hk.old⟩⟩;have r1:=results_tmp ht m'.tmps p (W.at d);have r2:=Conc.events_results_tmp (P:=p) (w:=W.at d) ht m'.tmps #[];rw[Fm.fr_ret vT];simp[G,stepG,unwind,doReturn,Vz,r1,r2,Bg,B7,gT]
end
end Go.Mt
namespace Go.Mt
open Go.Conc Go.Tt
variable {p:bS}{main:Bool}{m m':Fm}{ms':List Fm}{w w':aE}
def zfa {c:Fm}{rest:List Fm}(hr:m.ret=true)(hc:c.ret=false)(h:(zX p m (c::rest)).run p w=.ok (m',ms') w')(k:List eE)(d:Dk)(CS:List dH):
 ms'=rest/\w'=w/\(∃ops i r k0 v,c.todo=.inRegion ops (i::r)::k0/\m'=c.fin ops i r k0 v)/\stepG p main (G m.fr (fx k d c::CS)) w=.go (G (fx k d m') CS) w' (seen p m.fn ((zX p m (c::rest)).events p w #[])):=by
 obtain⟨ops,i,r,k0,v,fn,Fc,hf,hv,rfl,rfl⟩:=Uh h;obtain⟨rfl,_⟩:=Qf _ _ w v w' hv;refine⟨rfl,rfl,⟨ops,i,r,k0,v,Fc,rfl⟩,?_⟩;rw[(Lj Fc hf hv).2];have he:results fn m.tmps=oH fn.results.toList m.tmps:=zeI (zsS hv);have zN:(fx k d c).finish v=fx k d (c.fin ops i r k0 v):=by
  simp only[dH.finish,fx,Fm.fr,Fm.fin,Fc,List.cons_append];cases(ops[i]?).bind (·.dst)<;>rfl
 rw[Fm.fr_ret hr,<-zN];simp[G,stepG,unwind,doReturn,hf,he,hv,B7]
def low (k:List eE)(d:Dk):Fm->List Fm->List dH
 |c,[]=>[fx k d c]
 |c,e::cs=>c.fr::low k d e cs
def stk (k:List eE)(d:Dk)(base:List dH)(m:Fm):List Fm->bC
 |[]=>G (fx k d m) base
 |c::cs=>G m.fr (low k d c cs++base)
def zwy (k:List eE)(d:Dk)(base:List dH)(m:Fm)(ms:List Fm):(stk k d base m ms).status=.running:=by cases ms<;>rfl
variable {ms:List Fm}
def zJn {k:List eE}{d:Dk}{base:List dH}(hs:m.ret=true->ms≠[])(aT:ms=[]->m.ret=false->m.todo≠[])(hw:∀c∈ms,c.ret=false)
 (h:(eZ p m ms).run p w=.ok (m',ms') w'):∃es,stepG p main (stk k d base m ms) w=.go (stk k d base m' ms') w' es/\∀e∈es,e∈seen p m.fn ((eZ p m ms).events p w #[]):=by
 cases hr:m.ret with
 |false=>
  simp only[eZ,hr,jF,if_false] at h⊢
  cases ms with
  |nil=>
   rcases zmw (main:=main) hr (k:=k) (λe=>absurd e (aT rfl hr)) h d base with⟨rfl,e⟩|⟨rfl,e⟩
   .exact⟨_,e,λ_ x=>x⟩
   .exact⟨_,e,λ_ x=>x⟩
  |cons c cs=>
   rcases zmw (main:=main) hr (k:=[]) (λ_=>rfl) h .nil (low k d c cs++base) with⟨rfl,e⟩|⟨rfl,e⟩
   .simp only[F6] at e
    exact⟨_,e,λ_ x=>x⟩
   .simp only[F6] at e
    exact⟨_,e,λ_ x=>x⟩
 |true=>
  simp only[eZ,hr,if_true] at h⊢
  cases ms with
  |nil=>exact absurd rfl (hs hr)
  |cons c cs=>
   have zuQ:=hw c (List.mem_cons_self ..)
   cases cs with
   |nil=>
    obtain⟨rfl,rfl,_,e⟩:=zfa (main:=main) hr zuQ h k d base;exact⟨_,e,λ_ x=>x⟩
   |cons c2 cs=>
    obtain⟨rfl,rfl,_,e⟩:=zfa (main:=main) hr zuQ h [] .nil (low k d c2 cs++base);simp only[F6] at e;exact⟨_,e,λ_ x=>x⟩
variable {S:List Nat}
def Kr.refl (h:∀i∈m.todo,Bb S i=true):Kr S m m:=⟨h,λ_ _=>rfl⟩
def zEt (hn:∀i∈(Qz m ms).todo,Bb S i=true)(h:(eZ p m ms).run p w=.ok (m',ms') w'):Kr S (Qz m ms) (Qz m' ms'):=by
 cases hr:m.ret with
 |false=>
  simp only[eZ,hr,jF,if_false] at h
  cases ms with
  |nil=>
   rcases zDX (S:=S) hn h with⟨rfl,e⟩|rfl
   .exact e
   .exact Kr.refl hn
  |cons c cs=>
   rcases zdL h with⟨rfl,_⟩|rfl
   .exact Kr.refl hn
   .exact Kr.refl hn
 |true=>
  simp only[eZ,hr,if_true] at h
  cases ms with
  |nil=>simp[zX,stuck,bD] at h
  |cons c cs=>
   obtain⟨ops,i,r,k0,v,fn,Fc,hf,hv,rfl,rfl⟩:=Uh h
   cases ms' with
   |nil=>exact zdM Fc hn v
   |cons d ds=>exact Kr.refl hn
end Go.Mt
namespace Go.Mt
open Go.Conc Go.Tt
open Go.ConcR (KK wgBlock WgAt stA smA rd wr)
def EvQ (O Z:Nat->Prop)(e:oO):Prop:=e=⟨.mark .noRoom,false,true⟩\/∃b,Gb e=some b/\(O b\/(Z b/\e.write=false))
variable {O Z:Nat->Prop}{e:oO}
def zHg {Wg:Nat}{main:Bool}(h:EvQ O Z e):EvT Wg main O Z e:=by
 rcases h with rfl|⟨b,h1,h2⟩
 .trivial
 .obtain⟨loc,wr,sy⟩:=e
  cases loc with
  |cell x=>simp only[Gb,fT] at h1;subst h1;exact h2
  |obj r=>simp only[Gb,fT] at h1;subst h1;exact h2
  |_=>simp[Gb] at h1
def zHx (h:EvQ O Z e):e.loc≠ .mark .disable/\e.loc≠ .mark .enable:=by
 rcases h with rfl|⟨b,h1,_⟩
 .exact⟨aQ,aQ⟩
 .obtain⟨loc,wr,sy⟩:=e
  cases loc<;>simp[Gb] at h1⊢
variable {τ:cF}
def zeO {St:Nat->Prop}{R:Pr}(h:Fs R St e)(ht:vH τ R St):EvQ τ.own τ.still e:=by
 rcases h with rfl|⟨b,a,h1,h2,h3⟩
 .exact .inl rfl
 .refine .inr ⟨b,h1,?_⟩
  by_cases hs:St a
  .refine .inr ⟨(ht a b h2).1 hs,?_⟩
   cases hw:e.write
   .rfl
   .exact absurd hs (h3 hw)
  .exact .inl ((ht a b h2).2 hs)
def OwnQ (p:bS)(ty:aM)(Wg:Nat)(main:Bool)(B:cF->bC->aE->Prop)(τ:cF)(g:bC)(w:aE):Prop:=
 ∀aI,bU ty Wg τ w aI->∃g' w' es,stepG p main g aI=.go g' w' es/\g'.status=.running/\zO τ.own aI w'/\(∀e∈es,EvQ (τ.grow aI w').own τ.still e)/\B (τ.grow aI w') g' w'
structure Cx (L:Type) where
 p:bS
 gs:aO->Bool
 fs:aO->Bool
 ty:aM
 Wg:Nat
 A:jP L
 Fin:bC->aE->Prop
 main:Bool
 base:List dH
 ds:Dk
 K:Pr
 St:Nat->Prop
 I:Pr->cF->aE->Prop
 pin:List (Nat×aF)
 alone:Option (cF->bC->aE->Prop):=none
 aok:∀B,alone=some B->∀τ g w,g.status=.running->OwnQ p ty Wg main B τ g w->B τ g w:=by intro _ h;cases h
variable {L:Type}
abbrev Cx.P (C:Cx L):dL:=PS C.p C.gs
abbrev Cx.Rel (C:Cx L)(R:Pr)(w W:aE):Prop:=cT (SF C.fs) C.K R (oZ C.p) C.St w W
def Cx.B (C:Cx L)(l:L)(τ:cF)(g:bC)(w:aE):Prop:=
 match C.alone with
 |none=>b6 C.p C.ty C.Wg C.A C.Fin C.main (.usr l) 0 τ g w
 |some B=>B τ g w
def Cx.B_none {C:Cx L}(h:C.alone=none)(l:L)(τ:cF)(g:bC)(w:aE):C.B l τ g w=b6 C.p C.ty C.Wg C.A C.Fin C.main (.usr l) 0 τ g w:=by unfold Cx.B;rw[h]
variable {B:cF->bC->aE->Prop}
def Cx.B_some {C:Cx L}(h:C.alone=some B)(l:L)(τ:cF)(g:bC)(w:aE):C.B l τ g w=B τ g w:=by unfold Cx.B;rw[h]
def Cx.ownQ {C:Cx L}{l:L}{g:bC}{w:aE}(cG:g.status=.running)(h:OwnQ C.p C.ty C.Wg C.main (C.B l) τ g w):C.B l τ g w:=by
 cases ha:C.alone with
 |none=>
  rw[Cx.B_none ha];have hB:∀τ g w,C.B l τ g w->b6 C.p C.ty C.Wg C.A C.Fin C.main (.usr l) 0 τ g w:=λτ g w x=>by rw[Cx.B_none ha] at x;exact x
  refine b6.own cG trivial λaI s=>?_;obtain⟨g',w',es,h1,h2,h3,h4,h5⟩:=h aI s;refine⟨g',w',es,h1,h2,h3,λe he=>zHg (h4 e he),?_⟩;rw[deafBehind_still (λe he=>zHx (h4 e he))];exact hB _ _ _ h5
 |some B=>
  rw[Cx.B_some ha];refine C.aok B ha τ g w cG λaI s=>?_;have e:∀τ g w,C.B l τ g w->B τ g w:=λτ g w x=>by rw[Cx.B_some ha] at x;exact x
  obtain⟨g',w',es,h1,h2,h3,h4,h5⟩:=h aI s;exact⟨g',w',es,h1,h2,h3,h4,e _ _ _ h5⟩
abbrev Cx.S (C:Cx L):List Nat:=C.pin.map (·.1)
structure FmW (C:Cx L)(R:Pr)(m m':Fm):Prop where
 fn:m.fn=m'.fn
 todo:m.todo=m'.todo
 ret:m.ret=m'.ret
 tmps:bK (SF C.fs) C.K R m.tmps m'.tmps
 pins:∀x∈C.pin,m'.tmps.getD x.1 aA=x.2
structure Rs (St:Nat->Prop)(R:Pr)(W:aE)(R1:Pr)(W1:aE):Prop where
 le:R.le R1
 tape:W1.tape=W.tape
 os:W1.os=W.os
 output:W1.output=W.output
 size:W.heap.size<=W1.heap.size
 new:∀a b,R1 a b->R a b\/(W.heap.size<=b/\b<W1.heap.size)
 keep:∀b,b<W.heap.size->(∀a,R a b->St a)->W1.heap[b]? =W.heap[b]?
structure fE (C:Cx L):Prop where
 suf:∀R τ W aV,C.I R τ W->bU C.ty C.Wg τ W aV->C.I R τ aV
 step:∀R τ W R1 W1,C.I R τ W->vH τ R C.St->Rs C.St R W R1 W1->C.I R1 (τ.grow W W1) W1
def BO (C:Cx L)(l:L)(m:Fm)(w:aE):Prop:=
 ∀(R:Pr) (W:aE) (m':Fm) (τ:cF),C.Rel R w W->FmW C R m m'->vH τ R C.St->C.I R τ W->C.B l τ (G (fx [] C.ds m') C.base) W
section
variable {C:Cx L}{l:L}
variable {m:Fm}{w:aE}
def BO.tape (h:BO C l m w)(T:Tape)(e:Nat):BO C l m (Tt.tp w T e):=
 λR W m' τ a b c d=>h R W m' τ a.untp b c d
def BO.untape {T:Tape}{e:Nat}(h:BO C l m (Tt.tp w T e)):BO C l m w:=
 λR W m' τ a b c d=>h R W m' τ ⟨a.inj,a.inj',a.lt,a.low,a.gle,a.cont,a.rest,a.st,a.np,a.tb⟩ b c d
variable {ms:List Fm}
def uG.wait {P:dL}{fs:aO->Bool}{K R:Pr}{ms':List Fm}(h:uG P fs K R ms ms'):∀c∈ms',c.ret=false:=by
 induction h with
 |nil=>intro c hc;cases hc
 |cons a b _ ih=>
  intro c hc;rcases jL.1 hc with rfl|hc
  .exact a.ret.symm.trans b.1
  .exact ih c hc
variable {Q:Fm->aE->Prop}
def zGs (F:vM C.P C.fs)(hI:fE C){k:List eE}{fn0:aO}(h:Tt.LT C.p Q m ms w)
 (hn:∀(x:Fm) (wT:aE),x.fn=fn0->x.ret=false->x.todo=[]->(∀T,Q {x with ret:=true} (Tt.tp wT T 0))->BO C l ⟨fn0,x.tmps,k,false⟩ wT)
 (hr:∀(x:Fm) (wT:aE),x.fn=fn0->x.ret=true->x.todo≠[]->Q x wT->BO C l ⟨fn0,x.tmps,x.todo++k,true⟩ wT):
 ∀(R:Pr) (W:aE) (m':Fm) (ms':List Fm) (τ:cF),Um m ms=fn0->(ms=[]->m.ret=true->m.todo≠[])->C.Rel R w W->oT C.P C.fs C.K R m m'->uG C.P C.fs C.K R ms ms'->vH τ R C.St->C.I R τ W->
  (∀x∈C.pin,(Qz m' ms').tmps.getD x.1 aA=x.2)->(∀i∈(Qz m' ms').todo,Bb C.S i=true)->C.B l τ (stk k C.ds C.base m' ms') W:=by
 induction h with
 |stop h1 h2=>
  rename_i m w;intro R W m' ms' τ hl hz hw hm jA ht hi Dj dE;cases jA;have hB:=hr m w hl h1 (hz rfl h1) h2 R W {m' with todo:=m'.todo++k} τ hw ⟨(hl.symm.trans hm.fn:_),by show m.todo++k=_;rw[hm.todo],h1.symm.trans hm.ret,hm.tmps,Dj⟩ ht hi;have:fx [] C.ds {m' with todo:=m'.todo++k}=fx k C.ds m':=by unfold fx;simp[Fm.fr]
  rw[this] at hB;exact hB
 |step nx hs cG aN ih=>
  rename_i m ms w;intro R W m' ms' τ hl hz hw hm jA ht hi Dj dE;by_cases Ob:ms=[]/\m.ret=false/\m.todo=[]
  .obtain⟨rfl,h1,h2⟩:=Ob
   cases jA;have hQ:∀T,Q {m with ret:=true} (Tt.tp w T 0):=λT=>by
    have hT:=cG T;have e:(eZ C.p m []).run C.p (Tt.tp w T 0)=.ok ({m with ret:=true},[]) (Tt.tp w T 0):=by simp[eZ,h1,rP,h2,kU,bD]
    rw[e] at hT;injection hT with e1 e2;have hl:=aN T;rw[<-e1,<-e2] at hl;exact hl.ret_inv rfl
   have hB:=hn m w hl h1 h2 hQ R W {m' with todo:=m'.todo++k} τ hw ⟨(hl.symm.trans hm.fn:_),by show k=m'.todo++k;rw[<-hm.todo,h2];rfl,h1.symm.trans hm.ret,hm.tmps,Dj⟩ ht hi;have:fx [] C.ds {m' with todo:=m'.todo++k}=fx k C.ds m':=by unfold fx;simp[Fm.fr]
   rw[this] at hB;exact hB
  .refine Cx.ownQ (zwy ..) λaV s=>?_
   have dI:=zjN hw ht (λa b x=>(hw.lt a b (.inr x)).2) s;have yI:=hI.suf _ _ _ _ hi s
   let T:Tape:=λn q=>aV.tape (aV.drawn+n) q
   have yN:C.Rel R (Tt.tp w T 0) aV:=⟨dI.inj,dI.inj',dI.lt,dI.low,dI.gle,dI.cont,dI.rest,dI.st,dI.np,dI.tb⟩;have Lb:Tp (Tt.tp w T 0) aV:=λn q=>by show aV.tape (aV.drawn+(0+n)) q=_;rw[qZ]
   have hrel:vF C.P C.fs C.K (oZ C.p) C.St m ms (Tt.tp w T 0):=⟨R,aV,m',ms',yN,hm,jA⟩;obtain⟨R1,x',W1,ev,e1,e2,e3,e4,e5⟩:=aG.run rfl _ (zd9 (l:=false) F.toFit2 (yN.relOk rfl) hm jA (λe=>by cases e) hs) yN Lb (cG T);replace e2:=e2.resolve_right λx=>by
    obtain⟨f,_,_,_,_,_,_,ho,_⟩:=x.2;rw[F.none] at ho;cases ho
   obtain⟨zt1,zn9⟩:=x';have Fu:m'.ret=true->ms'≠[]:=λe e2=>hs (hm.ret.trans e) (by cases jA with|nil=>rfl|cons _ _ _=>cases e2);have V8:ms'=[]->m'.ret=false->m'.todo≠[]:=λa b c=>Ob ⟨(by cases jA with|nil=>rfl|cons _ _ _=>cases a),hm.ret.trans b,hm.todo.trans c⟩;have zia:=zEt (S:=C.S) dE e1;have mH:(eZ C.p m' ms').events C.p aV #[]=ev:=by rw[e4];simp
   have cJ:aV.heap.size<=W1.heap.size:=e3.size.2;have Bn:∀a b,R1 a b->R a b\/(aV.heap.size<=b/\b<W1.heap.size):=λa b x=>by
    rcases e3.new a b x with y|⟨_,y⟩
    .exact .inl y
    .exact .inr ⟨y,(e3.rel.ltR a b x).2⟩
   have Gg:vH (τ.grow aV W1) R1 C.St:=λa b x=>by
    rcases e3.new a b x with y|⟨y1,y2⟩
    .exact⟨(ht a b y).1,λz=>.inl ((ht a b y).2 z)⟩
    .refine⟨λz=>?_,λ_=>.inr ⟨y2,(e3.rel.ltR a b x).2⟩⟩
     obtain⟨⟨b',bZ⟩,_⟩:=yN.st a z;have:=(yN.ltR a b' bZ).1;omega
   have hg:zO τ.own aV W1:=⟨e3.tape.2,e3.os.2,e3.ou.2,cJ,λb hb dE=>e3.keep b hb λa x=>yZ λz=>dE ((ht a b x).2 z)⟩;have zJ:=hI.step R τ aV R1 W1 yI ht ⟨e3.le,e3.tape.2,e3.os.2,e3.ou.2,cJ,Bn,e3.keep⟩;have Rx:Um (nx T).1.1 (nx T).1.2=fn0:=(zvC (m1:=(nx T).1.1) (ms1:=(nx T).1.2) (cG T)).trans hl;have goal:C.B l (τ.grow aV W1) (stk k C.ds C.base zt1 zn9) W1:=by
    refine ih T R1 W1 zt1 zn9 (τ.grow aV W1) Rx (λa b c=>?_) e3.rel e2.1 e2.2.1 Gg zJ (λx hx=>(zia.at_ x.1 (Vv hx)).trans (Dj x hx)) zia.no;have hT:=cG T
    cases ms with
    |nil=>
     cases kC:m.ret with
     |true=>exact hs kC rfl
     |false=>
      simp only[eZ,kC,jF,if_false] at hT;exact zwW hT b kC (λe=>Ob ⟨rfl,kC,e⟩) a c
    |cons c0 cs=>
     cases kC:m.ret with
     |true=>
      simp only[eZ,kC,if_true] at hT;obtain⟨ops,i,r,k0,v,fn,hc,hf,hv,h1,h2⟩:=Uh (m1:=(nx T).1.1) (ms1:=(nx T).1.2) hT;rw[h1] at c;simp[Fm.fin] at c
     |false=>
      simp only[eZ,kC,jF,if_false] at hT;rcases zdL hT with⟨e,_⟩|e
      .rw[a] at e;cases e
      .rw[a] at e;cases e
   obtain⟨es,aY,x3⟩:=zJn (main:=C.main) (k:=k) (d:=C.ds) (base:=C.base) Fu V8 (uG.wait jA) e1;have S9:∀e∈es,Fs R1 C.St e:=λe he=>by
    have:=x3 e he;rw[mH] at this;exact e5 e (zce this)
   exact⟨_,W1,_,aY,zwy ..,hg,λe he=>zeO (S9 e he) Gg,goal⟩
end
end Go.Mt
namespace Go.Mt
open Go.Conc Go.Tt
open Go.ConcR (KK wgBlock WgAt stA smA rd wr)
section
variable {L:Type}{C:Cx L}{l:L}
def mI (d:Dk)(fn:aO)(tmps:Array aF)(todo:List eE):fx [] d ⟨fn,tmps,todo,false⟩=(d.base fn).at ⟨tmps,d.ds⟩ todo:=by
 unfold fx;simp[Fm.fr,Dk.base,dH.at]
def zlR (d:Dk)(fn:aO)(tmps:Array aF)(todo:List eE):fx [] d ⟨fn,tmps,todo,true⟩={(d.base fn).at ⟨tmps,d.ds⟩ todo with mode:=.returning}:=by
 unfold fx;simp[Fm.fr,Dk.base,dH.at]
def cF.grow_id (τ:cF)(w:aE):τ.grow w w=τ:=by
 obtain⟨a,b,c⟩:=τ;simp only[cF.grow,cF.mk.injEq,and_true];funext x;exact propext ⟨λh=>h.elim id λh=>by omega,.inl⟩
def zO.id (O:Nat->Prop)(w:aE):zO O w w:=⟨rfl,rfl,rfl,aX _,λ_ _ _=>rfl⟩
variable {R:Pr}{w W:aE}{τ:cF}
def Cx.Rel.suf {aV:aE}(hw:C.Rel R w W)(ht:vH τ R C.St)(s:bU C.ty C.Wg τ W aV):C.Rel R w aV:=zjN hw ht (λa b x=>(hw.lt a b (.inr x)).2) s
variable {g':bC}
def Ml {main:Bool}{g:bC}{p:bS}{ty:aM}{Wg:Nat}{A:jP L}{Fin:bC->aE->Prop}(hg:g.status=.running)(wQ:g'.status=.running)(aY:∀aV,bU ty Wg τ W aV->stepG p main g aV=.go g' aV #[])
 (h:∀aV,bU ty Wg τ W aV->b6 p ty Wg A Fin main (.usr l) 0 τ g' aV):b6 p ty Wg A Fin main (.usr l) 0 τ g W:=by
 refine b6.own hg trivial λaV s=>⟨g',aV,#[],aY aV s,wQ,zO.id _ _,λe he=>by simp at he,?_⟩;rw[cF.grow_id];exact h aV s
def Cx.silent {g:bC}(hg:g.status=.running)(wQ:g'.status=.running)(aY:∀aV,bU C.ty C.Wg τ W aV->stepG C.p C.main g aV=.go g' aV #[])(h:∀aV,bU C.ty C.Wg τ W aV->C.B l τ g' aV):C.B l τ g W:=by
 refine Cx.ownQ hg λaV s=>⟨g',aV,#[],aY aV s,wQ,zO.id _ _,λe he=>by simp at he,?_⟩;rw[cF.grow_id];exact h aV s
variable {fn:aO}{tmps:Array aF}
def BO.silent (hI:fE C){todo zjT:List eE}{zl4:Bool}(aY:∀R bQ W,bK (SF C.fs) C.K R tmps bQ->stepG C.p C.main (G ((C.ds.base fn).at ⟨bQ,C.ds.ds⟩ todo) C.base) W=.go (G (fx [] C.ds ⟨fn,bQ,zjT,zl4⟩) C.base) W #[])
 (h:BO C l ⟨fn,tmps,zjT,zl4⟩ w):BO C l ⟨fn,tmps,todo,false⟩ w:=by
 intro R W m' τ hw hm ht hi;obtain⟨fn',bQ,yW,yL⟩:=m';obtain rfl:=hm.fn;obtain rfl:=hm.todo;obtain rfl:=hm.ret;refine Cx.silent rfl rfl (λaV s=>by rw[mI];exact aY R bQ aV hm.tmps) λaV s=>?_;exact h R aV ⟨fn,bQ,zjT,zl4⟩ τ (hw.suf ht s) ⟨rfl,rfl,rfl,hm.tmps,hm.pins⟩ ht (hI.suf _ _ _ _ hi s)
section ctl
variable {fn:aO}{tmps:Array aF}{k:List eE}{w:aE}
variable {a b:Code}
def BO.seq (hI:fE C)(h:BO C l ⟨fn,tmps,.code a:: .code b::k,false⟩ w):BO C l ⟨fn,tmps,.code (.seq a b)::k,false⟩ w:=BO.silent hI (λR t W _=>by rw[mI];exact dU) h
def BO.skip (hI:fE C)(h:BO C l ⟨fn,tmps,k,false⟩ w):BO C l ⟨fn,tmps,.code .skip::k,false⟩ w:=BO.silent hI (λR t W _=>by rw[mI];exact pG) h
variable {c:Code}
def BO.block (hI:fE C){id:Nat}(h:BO C l ⟨fn,tmps,.code c:: .inBlock id::k,false⟩ w):BO C l ⟨fn,tmps,.code (.block id c)::k,false⟩ w:=BO.silent hI (λR t W _=>by rw[mI];exact zea) h
def BO.loop (hI:fE C)(h:BO C l ⟨fn,tmps,.code c:: .inLoop c::k,false⟩ w):BO C l ⟨fn,tmps,.code (.loop c)::k,false⟩ w:=BO.silent hI (λR t W _=>by rw[mI];exact zhO) h
def BO.inLoop (hI:fE C)(h:BO C l ⟨fn,tmps,.code c:: .inLoop c::k,false⟩ w):BO C l ⟨fn,tmps,.inLoop c::k,false⟩ w:=BO.silent hI (λR t W _=>by rw[mI];exact ziD) h
def BO.inBlock (hI:fE C){id:Nat}(h:BO C l ⟨fn,tmps,k,false⟩ w):BO C l ⟨fn,tmps,.inBlock id::k,false⟩ w:=BO.silent hI (λR t W _=>by rw[mI];exact znk) h
def BO.exit (hI:fE C){id:Nat}{k':List eE}(he:exitTo id k=some k')(h:BO C l ⟨fn,tmps,k',false⟩ w):BO C l ⟨fn,tmps,.code (.exit id)::k,false⟩ w:=BO.silent hI (λR t W _=>by rw[mI];exact stepG_exit he) h
def BO.reg (hI:fE C){id:Nat}{ops:Array aZ}(h:BO C l ⟨fn,tmps,.inRegion ops (gN ops.size)::k,false⟩ w):BO C l ⟨fn,tmps,.code (.region id ops false)::k,false⟩ w:=BO.silent hI (λR t W _=>by rw[mI];exact stepG_region) h
def BO.regEnd (hI:fE C){ops:Array aZ}(h:BO C l ⟨fn,tmps,k,false⟩ w):BO C l ⟨fn,tmps,.inRegion ops []::k,false⟩ w:=BO.silent hI (λR t W _=>by rw[mI];exact dF) h
def BO.fall (hI:fE C)(h:BO C l ⟨fn,tmps,[],true⟩ w):BO C l ⟨fn,tmps,[],false⟩ w:=BO.silent hI (λR t W _=>by rw[zlR];exact ze0) h
def BO.ret (hI:fE C)(h:BO C l ⟨fn,tmps,.code .ret::k,true⟩ w):BO C l ⟨fn,tmps,.code .ret::k,false⟩ w:=BO.silent hI (λR t W _=>by rw[zlR];exact xC) h
def Gw {R:Pr}{t t':Array aF}{d:List E8}(h:bK (SF C.fs) C.K R t t'){x:cN}(hx:dP C.fs x=true):VR (SF C.fs) C.K R ((bH t []).eval x) ((bH t' d).eval x):=by
 cases x with
 |tmp t=>exact h.getD t xW
 |const v=>exact zuw hx
 |global g=>cases hx
 |func f=>exact .func hx rfl (λi v v' h=>by simp at h) rfl (λi v v' h=>by simp at h)
def BO.cond (hI:fE C){c:cN}{t:Bool}(hx:dP C.fs c=true)(hc:(bH tmps []).eval c=.bool t)(h:BO C l ⟨fn,tmps,.code (if t then a else b)::k,false⟩ w):BO C l ⟨fn,tmps,.code (.cond c a b)::k,false⟩ w:=
 BO.silent hI (λR t' W ha=>by
  rw[mI];have h1:=Gw (C:=C) (d:=C.ds.ds) ha hx;rw[hc] at h1;have h2:(bH t' C.ds.ds).eval c=.bool t:=by
   generalize(bH t' C.ds.ds).eval c=v' at h1;cases h1;rfl
  exact stepG_cond h2) h
end ctl
structure vX (p:bS)(fn:aO):Prop where
 res:∃f,p.funcs[fn]? =some f/\Cw f.results.toList
variable {bQ:Array aF}{c:Code}
def zAB (hc:oG C.p ⟨C.fs,C.gs,true⟩ c=true)(hf:vX C.p fn)(ha:bK (SF C.fs) C.K R tmps bQ):oT C.P C.fs C.K R ⟨fn,tmps,[.code c],false⟩ ⟨fn,bQ,[.code c],false⟩:=by
 obtain⟨f,h1,h2⟩:=hf.res;refine⟨rfl,rfl,rfl,ha,λi hi=>?_,⟨f,f,h1,h1,rfl,h2⟩⟩;simp only[jL,lZ,or_false] at hi;subst hi;exact hc
variable {k:List eE}
def BO.piece (F:vM C.P C.fs)(hI:fE C)(hc:oG C.p ⟨C.fs,C.gs,true⟩ c=true)(hf:vX C.p fn)(dE:xM C.S c=true)
 (qX:∀T,Code.wp C.p c (λe a' w'=>e=.normal/\BO C l ⟨fn,a'.tmps,k,false⟩ w') ⟨tmps,[]⟩ (Tt.tp w T 0)):BO C l ⟨fn,tmps,.code c::k,false⟩ w:=by
 intro R W m' τ hw hm ht hi;obtain⟨fn',bQ,yW,yL⟩:=m';obtain rfl:=hm.fn;obtain rfl:=hm.todo;obtain rfl:=hm.ret;have zdU:=zAB (R:=R) hc hf hm.tmps;have hrel:vF C.P C.fs C.K (oZ C.p) C.St ⟨fn,tmps,[.code c],false⟩ [] w:=⟨R,W,_,[],hw,zdU,.nil⟩;have tree:=zna F rfl hrel qX (λe a w h=>.inl h.1) (λe a w T k h=>⟨h.1,h.2.tape T k⟩);have:=zGs (l:=l) F hI (k:=k) (fn0:=fn) tree (λx wT e1 e2 e3 hq=>by
  rcases(hq wT.tape).2 with h|h
  .exact BO.untape h.2.2
  .cases h.1)
  (λx wT e1 e2 e3 hq=>by
   rcases hq.2 with h|h
   .exact absurd h.1 e3
   .cases h.1) R W ⟨fn,bQ,[.code c],false⟩ [] τ rfl (λ_ e=>by cases e) hw zdU .nil ht hi hm.pins (λi hi=>by
   simp only[Qz,jL,lZ,or_false] at hi;subst hi;exact dE)
 have e:fx k C.ds ⟨fn,bQ,[.code c],false⟩=fx [] C.ds ⟨fn,bQ,.code c::k,false⟩:=by unfold fx;simp[Fm.fr]
 unfold stk at this;rw[e] at this;exact this
variable {dst:Option Nat}{v:aF}{d:List E8}
def Jn (hp:∀x∈C.pin,bQ.getD x.1 aA=x.2)(hn:∀s,dst=some s->s∉C.S):∀x∈C.pin,(cC ⟨bQ,d⟩ dst v).tmps.getD x.1 aA=x.2:=by
 intro x hx
 cases dst with
 |none=>exact hp x hx
 |some s=>
  have aT:s≠x.1:=λe=>hn s rfl (e▸Vv hx);rw[<-hp x hx];simp only[cC,tZ,jQ aT]
variable {t t':Array aF}
def Ja {d':List E8}(h:bK (SF C.fs) C.K R t t'){v':aF}(hv:VR (SF C.fs) C.K R v v'):bK (SF C.fs) C.K R (cC ⟨t,d⟩ dst v).tmps (cC ⟨t',d'⟩ dst v').tmps:=by
 cases dst with
 |none=>exact h
 |some s=>exact h.set s hv
variable {o:aZ}{ops:Array aZ}
def Hn (h:bK (SF C.fs) C.K R t t')(hw:dD o (dR ops t)=true):dD o (dR ops t')=true:=by
 rw[<-zik ops h];exact hw
def BO.op (F:vM C.P C.fs)(hI:fE C){i:Nat}{rest:List Nat}(ho:ops[i]? =some o)(cD:dD o (dR ops tmps)=true)
 (bV:rU C.p ⟨C.fs,C.gs,true⟩ o.op=true) (lG:∀s,o.dst=some s->s∉C.S)
 (hx:∀T,∃v w',((aS (bH tmps []).eval o).run C.p (Tt.tp w T 0)=.ok (.value v) w'\/((aS (bH tmps []).eval o).run C.p (Tt.tp w T 0)=.ok .skip w'/\v=aA))/\BO C l ⟨fn,(cC ⟨tmps,[]⟩ o.dst v).tmps,.inRegion ops rest::k,false⟩ w'):
 BO C l ⟨fn,tmps,.inRegion ops (i::rest)::k,false⟩ w:=by
 intro R W m' τ hw hm ht hi;obtain⟨fn',bQ,yW,yL⟩:=m';obtain rfl:=hm.fn;obtain rfl:=hm.todo;obtain rfl:=hm.ret;rw[mI];refine Cx.ownQ rfl λaV s=>?_;have dI:=hw.suf ht s;have yI:=hI.suf _ _ _ _ hi s
 let T:Tape:=λn q=>aV.tape (aV.drawn+n) q
 have yN:C.Rel R (Tt.tp w T 0) aV:=⟨dI.inj,dI.inj',dI.lt,dI.low,dI.gle,dI.cont,dI.rest,dI.st,dI.np,dI.tb⟩;have Lb:Tp (Tt.tp w T 0) aV:=λn q=>by show aV.tape (aV.drawn+(0+n)) q=_;rw[qZ]
 obtain⟨v,w',cG,hB⟩:=hx T;have zcy:=zh5 (P:=C.P) (q:=⟨C.fs,C.gs,true⟩) (o:=o) (ρ:=(bH tmps []).eval) (ρ':=(bH bQ C.ds.ds).eval) F.toFit2.toFit (yN.relOk rfl) (λx hx=>Gw hm.tmps hx) (λg=>rfl) (λg=>rfl) (λg=>rfl) (λg=>rfl) (λv=>rfl) (λv=>rfl) rfl (λf h=>h) (λ_ f hf=>F.toFit2.toFit.dyn rfl f hf) bV
 have key:∃R1 v' W1 ev,((aS (bH bQ C.ds.ds).eval o).run C.p aV=.ok (.value v') W1\/((aS (bH bQ C.ds.ds).eval o).run C.p aV=.ok .skip W1/\v'=aA))/\VR (SF C.fs) C.K R1 v v'/\nA (SF C.fs) C.K R (oZ C.p) C.St (Tt.tp w T 0) aV R1 w' W1/\
  (∀es,(aS (bH bQ C.ds.ds).eval o).events C.p aV es=es++ev)/\∀e∈ev,Fs R1 C.St e:=by
  rcases cG with cG|⟨cG,rfl⟩
  .obtain⟨R1,x',W1,ev,e1,e2,e3,e4,e5⟩:=aG.run rfl _ zcy yN Lb cG
   cases e2 with
   |value hv=>exact⟨R1,_,W1,ev,.inl e1,hv,e3,e4,e5⟩
  .obtain⟨R1,x',W1,ev,e1,e2,e3,e4,e5⟩:=aG.run rfl _ zcy yN Lb cG
   cases e2 with
   |skip=>exact⟨R1,aA,W1,ev,.inr ⟨e1,rfl⟩,xW,e3,e4,e5⟩
 obtain⟨R1,v',W1,ev,e1,hv,e3,e4,e5⟩:=key;have hb:(C.ds.base fn).kind≠ .early:=C.ds.ok;have uE:=Hn (C:=C) hm.tmps cD;have aY:stepG C.p C.main (G ((C.ds.base fn).at ⟨bQ,C.ds.ds⟩ (.inRegion ops (i::rest)::k)) C.base) aV=.go (G ((C.ds.base fn).at (cC ⟨bQ,C.ds.ds⟩ o.dst v') (.inRegion ops rest::k)) C.base) W1 (wL C.p (C.ds.base fn).fn ⟨bQ,C.ds.ds⟩ o aV):=by
  rcases e1 with e1|⟨e1,rfl⟩
  .exact stepG_value ho uE hb e1
  .exact stepG_none ho uE hb e1
 have Es:cC ⟨bQ,C.ds.ds⟩ o.dst v'=⟨(cC ⟨bQ,C.ds.ds⟩ o.dst v').tmps,C.ds.ds⟩:=by cases o.dst<;>rfl
 have S9:∀e∈wL C.p (C.ds.base fn).fn ⟨bQ,C.ds.ds⟩ o aV,Fs R1 C.St e:=λe he=>by
  unfold wL at he;rw[e4] at he;exact e5 e (by simpa using zce he)
 have cJ:aV.heap.size<=W1.heap.size:=e3.size.2;have Bn:∀a b,R1 a b->R a b\/(aV.heap.size<=b/\b<W1.heap.size):=λa b x=>by
  rcases e3.new a b x with y|⟨_,y⟩
  .exact .inl y
  .exact .inr ⟨y,(e3.rel.ltR a b x).2⟩
 have Gg:vH (τ.grow aV W1) R1 C.St:=λa b x=>by
  rcases e3.new a b x with y|⟨y1,y2⟩
  .exact⟨(ht a b y).1,λz=>.inl ((ht a b y).2 z)⟩
  .refine⟨λz=>?_,λ_=>.inr ⟨y2,(e3.rel.ltR a b x).2⟩⟩
   obtain⟨⟨b',bZ⟩,_⟩:=yN.st a z;have:=(yN.ltR a b' bZ).1;omega
 have hg:zO τ.own aV W1:=⟨e3.tape.2,e3.os.2,e3.ou.2,cJ,λb hb dE=>e3.keep b hb λa x=>yZ λz=>dE ((ht a b x).2 z)⟩;have zJ:=hI.step R τ aV R1 W1 yI ht ⟨e3.le,e3.tape.2,e3.os.2,e3.ou.2,cJ,Bn,e3.keep⟩;refine⟨_,W1,_,aY,rfl,hg,λe he=>zeO (S9 e he) Gg,?_⟩;rw[Es,<-mI];exact hB R1 W1 ⟨fn,_,_,false⟩ _ e3.rel ⟨rfl,rfl,rfl,Ja (C:=C) (hm.tmps.mono e3.le) hv,Jn (C:=C) hm.pins lG⟩ Gg zJ
end
section
variable {L:Type}{C:Cx L}{l:L}
variable {p:bS}
def zAY {q:Tt.Cl}:∀c:Code,oG p q c=true->xM [] c=true:=by
 intro c
 induction c with
 |region id ops dr=>
  intro _;simp only[xM,zkf];intro o _;cases o.dst<;>rfl
 |seq a b ziB zjW=>intro h;simp only[oG,fV] at h;simp only[xM,fV];exact⟨ziB h.1,zjW h.2⟩
 |cond c a b ziB zjW=>intro h;simp only[oG,fV] at h;simp only[xM,fV];exact⟨ziB h.1.2,zjW h.2⟩
 |block id c ih=>intro h;exact ih h
 |loop c ih=>intro h;exact ih h
 |scope c ih=>intro h;exact ih h
 |skip=>intro _;rfl
 |ret=>intro _;rfl
 |exit _=>intro _;rfl
 |label _=>intro _;rfl
 |_=>intro h;simp[oG] at h
def Cx.sub (C:Cx L)(m':Fm)(n5:Pr):Cx L:={C with base:=fx [] C.ds m'::C.base,ds:=.nil,I:=λR τ W=>C.I R τ W/\n5.le R,pin:=[]}
variable {o:aZ}{x:cN}{f:aO}{args:Array cN}{kS:Array aM}{first cap:Array aF}{ρ:cN->aF}
def zC2 (hop:o.op=.call ⟨.value x,args,kS⟩)(hρ:ρ x=.func (.func f) first cap){fn:Ub}{c:Code}(hf:p.funcs[f]? =some fn)
 (hn:(fn.name== "runtime.NumGoroutine")=false) (hb:fn.body=some c) (w:aE):(aS ρ o).run p w=.ok (.enter f (first++args.map ρ++cap)) w/\(aS ρ o).events p w #[]=#[]:=by
 obtain⟨dst,yP,type,pos,after,guard⟩:=o;simp only at hop;subst hop;have sU:¬fn.name= "runtime.NumGoroutine" :=by simpa using hn
 constructor
 .simp[aS,resolve,Bt,hρ,invoke,callFunc,program,bind,xU,pure,bD,hf,sU,hb]
 .simp[aS,resolve,Bt,hρ,invoke,callFunc,program,bind,xU,pure,bD,wE,zQ,hf,sU,hb]
structure Callee (C:Cx L)(tmps:Array aF)(x:cN)(f:aO)(first cap:Array aF):Prop where
 here:(bH tmps []).eval x=.func (.func f) first cap
 there:∀R bQ d,bK (SF C.fs) C.K R tmps bQ->∃Ur Pt,(bH bQ d).eval x=.func (.func f) Ur Pt/\bK (SF C.fs) C.K R first Ur/\bK (SF C.fs) C.K R cap Pt
def Callee.static (tmps:Array aF)(f:aO):Callee C tmps (.func f) f #[] #[]:=⟨rfl,λR bQ d _=>⟨#[],#[],rfl,.empty,.empty⟩⟩
variable {fn:aO}{tmps:Array aF}{ops:Array aZ}{i:Nat}{rest:List Nat}{k:List eE}{w:aE}{fnf:Ub}
def BO.callN (hI:fE C)(ho:ops[i]? =some o)(cD:dD o (dR ops tmps)=true)
 (hop:o.op=.call ⟨.value x,args,kS⟩) (hx:Callee C tmps x f first cap) (sZ:args.all (dP C.fs)=true)  {cf:Code} (hf:C.p.funcs[f]? =some fnf) (Gz:(fnf.name== "runtime.NumGoroutine")=false) (hb:fnf.body=some cf) (zdN:Cw fnf.results.toList)
 (hB:∀(n5:Pr) (m':Fm),FmW C n5 ⟨fn,tmps,.inRegion ops (i::rest)::k,false⟩ m'->BO (C.sub m' n5) l ⟨f,(first++args.map (bH tmps []).eval++cap)++nI (fnf.ntmps-(first++args.map (bH tmps []).eval++cap).size) aA,[.code cf],false⟩ w):
 BO C l ⟨fn,tmps,.inRegion ops (i::rest)::k,false⟩ w:=by
 intro R W m' τ hw hm ht hi;have zsW:=hm;obtain⟨fn',bQ,yW,yL⟩:=m';obtain rfl:=hm.fn;obtain rfl:=hm.todo;obtain rfl:=hm.ret;obtain⟨Ur,Pt,lP,uO,qD⟩:=hx.there R bQ C.ds.ds hm.tmps;have bZ:(C.ds.base fn).kind≠ .early:=C.ds.ok;have uE:=Hn (C:=C) hm.tmps cD;rw[mI];refine Cx.silent rfl rfl (g':=G (Eg C.p f (Ur++args.map (bH bQ C.ds.ds).eval++Pt) .normal) (fx [] C.ds ⟨fn,bQ,.inRegion ops (i::rest)::k,false⟩::C.base)) (λaV s=>?_) λaV s=>?_
 rotate_right
 .have Bw:bK (SF C.fs) C.K R (first++args.map (bH tmps []).eval++cap) (Ur++args.map (bH bQ C.ds.ds).eval++Pt):=(uO.append (bK.maps (λx hx=>Gw (C:=C) hm.tmps hx) sZ)).append qD
  have:=hB R _ zsW R aV ⟨f,(Ur++args.map (bH bQ C.ds.ds).eval++Pt)++nI (fnf.ntmps-(Ur++args.map (bH bQ C.ds.ds).eval++Pt).size) aA,[.code cf],false⟩ τ (hw.suf ht s) ⟨rfl,rfl,rfl,Bw.pad fnf.ntmps,λx hx=>by cases hx⟩ ht ⟨hI.suf _ _ _ _ hi s,.refl R⟩;rw[Yt hf hb,<-F6];exact this
 .obtain⟨x1,x2⟩:=zC2 (p:=C.p) hop (ρ:=(bH bQ C.ds.ds).eval) lP hf Gz hb aV
  have aY:=stepG_enter (main:=C.main) (b:=C.ds.base fn) (rest:=rest) (cs:=C.base) (k:=k) ho uE bZ x1;rw[aY];unfold wL;rw[x2,Bg,mI]
variable {v:aF}
def BO.retN (hI:fE C){n5:Pr}{m m':Fm}(hm:FmW C n5 m m')(hr:m.ret=false)(p8:m.todo=.inRegion ops (i::rest)::k)(lG:∀s,(ops[i]?).bind (·.dst)=some s->s∉C.S)
   {todo:List eE}    (hf:C.p.funcs[f]? =some fnf) (hv:(oH fnf.results.toList tmps).run C.p w=.ok v w) (h:BO C l (m.fin ops i rest k v) w):BO (C.sub m' n5) l ⟨f,tmps,todo,true⟩ w:=by
 intro R W x' τ hw hx ht hi;obtain⟨f',bQ,yW,yL⟩:=x';obtain rfl:=hx.fn;obtain rfl:=hx.todo;obtain rfl:=hx.ret;have vT:m'.ret=false:=hm.ret.symm.trans hr;have O5:m'.todo=.inRegion ops (i::rest)::k:=hm.todo.symm.trans p8;refine Cx.ownQ rfl λaV s=>?_;have dI:C.Rel R w aV:=Cx.Rel.suf (C:=C) hw ht s;have yI:=hI.suf _ _ _ _ hi.1 s
 let T:Tape:=λn q=>aV.tape (aV.drawn+n) q
 have yN:C.Rel R (Tt.tp w T 0) aV:=⟨dI.inj,dI.inj',dI.lt,dI.low,dI.gle,dI.cont,dI.rest,dI.st,dI.np,dI.tb⟩;have Lb:Tp (Tt.tp w T 0) aV:=λn q=>by show aV.tape (aV.drawn+(0+n)) q=_;rw[qZ]
 have cG:=(Qf _ _ w v w hv).2 T 0;obtain⟨R1,v',W1,ev,e1,g3,e3,e4,e5⟩:=aG.run (P:=C.P) rfl _ (zkz hx.tmps fnf.results.toList) yN Lb cG;obtain⟨zgE,_⟩:=Qf _ _ aV v' W1 e1;subst zgE;have Qm:(zX C.p ⟨f,bQ,todo,true⟩ [m']).run C.p W1=.ok (m'.fin ops i rest k v',[]) W1:=(Lj O5 hf e1).1;obtain⟨_,_,_,e⟩:=zfa (main:=C.main) rfl vT Qm [] C.ds C.base;have U6:fx [] (C.sub m' n5).ds ⟨f,bQ,todo,true⟩=(⟨f,bQ,todo,true⟩:Fm).fr:=F6 _;rw[U6];have S9:∀e∈seen C.p f ((zX C.p ⟨f,bQ,todo,true⟩ [m']).events C.p W1 #[]),Fs R1 C.St e:=λe he=>by
  rw[(Lj O5 hf e1).2,e4] at he;exact e5 e (by simpa using zce he)
 have Bn:∀a b,R1 a b->R a b\/(W1.heap.size<=b/\b<W1.heap.size):=λa b x=>by
  rcases e3.new a b x with y|⟨_,y⟩
  .exact .inl y
  .exact .inr ⟨y,(e3.rel.ltR a b x).2⟩
 have Gg:vH (τ.grow W1 W1) R1 C.St:=λa b x=>by
  rcases e3.new a b x with y|⟨y1,y2⟩
  .exact⟨(ht a b y).1,λz=>.inl ((ht a b y).2 z)⟩
  .have:=(e3.rel.ltR a b x).2;omega
 have zJ:=hI.step R τ W1 R1 W1 yI ht ⟨e3.le,rfl,rfl,rfl,aX _,Bn,λ_ _ _=>rfl⟩;refine⟨_,W1,_,e,rfl,zO.id _ _,λe he=>zeO (S9 e he) Gg,?_⟩;have Sj:C.Rel R1 w W1:=⟨e3.rel.inj,e3.rel.inj',e3.rel.lt,e3.rel.low,e3.rel.gle,e3.rel.cont,e3.rel.rest,e3.rel.st,e3.rel.np,e3.rel.tb⟩;refine h R1 W1 _ _ Sj ⟨hm.fn,rfl,hm.ret,?_,?_⟩ Gg zJ
 .have:=Ja (C:=C) (d:=[]) (d':=[]) (hm.tmps.mono (hi.2.trans e3.le)) (dst:=(ops[i]?).bind (·.dst)) g3
  unfold Fm.fin;simp only;unfold cC at this
  cases hd:(ops[i]?).bind (·.dst) with
  |none=>rw[hd] at this;exact this
  |some s=>rw[hd] at this;exact this
 .have:=Jn (C:=C) (d:=[]) (v:=v') hm.pins lG
  unfold Fm.fin;simp only;unfold cC at this
  cases hd:(ops[i]?).bind (·.dst) with
  |none=>rw[hd] at this;exact this
  |some s=>rw[hd] at this;exact this
variable {c:Nat}{ct e:aM}{ok:Bool}{z:aF}{dir:ChanDir}{ie:wW}
def zpf (hop:o.op=.recv ct x ok)(Fc:p.underlying ct=some (.chan dir e))(jU:p.info? e=some ie)(hz:ie.zero=some z)(hx:ρ x=.chan (some c))(w:aE):
 (aS ρ o).run p w=.ok (.comm #[rcase c z] true (.recv ok)) w/\(aS ρ o).events p w #[]=#[]:=by
 obtain⟨dst,yP,type,pos,after,guard⟩:=o;simp only at hop;subst hop;have hu:∀w,(underlying ct).run p w=.ok (.chan dir e) w:=λw=>by simp[underlying,program,bind,xU,bD,Fc,pure]
 have pL:∀w,(zeroValue e).run p w=.ok z w:=λw=>by simp[zeroValue,typeInfo,program,bind,xU,bD,jU,hz,pure]
 have he:aS ρ ⟨dst,.recv ct x ok,type,pos,after,guard⟩=(underlying ct).bind (λd=>match d with| .chan _ elem=>(zeroValue elem).bind (λz=>.pure (.comm #[{chan:=ρ x,send:=none,zero:=z}] true (.recv ok)))|_=>stuck "receive: channel type expected"):=by
  simp only[aS];show xU _ _=xU _ _;congr 1
 rw[he];constructor
 .rw[rK,hu]
  simp only[uU];rw[rK,pL];simp only[uU,hx];rfl
 .rw[Sk,hu,Qx,events_underlying]
  simp only;rw[Sk,pL,Qx,events_zeroValue];rfl
def zrR {y:cN}(hop:o.op=.send x y)(hx:ρ x=.chan (some c))(hy:ρ y=v)(w:aE):
 (aS ρ o).run p w=.ok (.comm #[scase c v (.tuple #[])] true .send) w/\(aS ρ o).events p w #[]=#[]:=by
 obtain⟨dst,yP,type,pos,after,guard⟩:=o;simp only at hop;subst hop;constructor
 .simp[aS,hx,hy,scase,pure,bD]
 .simp[aS,hx,hy,scase,pure,bD,wE,zQ]
variable {g:Nat}
def Xt {R:Pr}{W:aE}(hw:C.Rel R w W){v':aF}(hK:C.K g c)(h:VR (SF C.fs) C.K R (.chan (some g)) v'):v'=.chan (some c):=by
 cases h with
 |chan h=>
  cases h with
  |some h=>rw[hw.inj g _ c h (.inr hK)]
def zcU (ho:ops[i]? =some o)(v:aF):oU (G ((C.ds.base fn).at ⟨tmps,C.ds.ds⟩ (.inRegion ops (i::rest)::k)) C.base) v=G (fx [] C.ds ⟨fn,(cC ⟨tmps,[]⟩ o.dst v).tmps,.inRegion ops rest::k,false⟩) C.base:=by
 rw[mI];have Es:cC ⟨tmps,C.ds.ds⟩ o.dst v=⟨(cC ⟨tmps,[]⟩ o.dst v).tmps,C.ds.ds⟩:=by cases o.dst<;>rfl
 have zN:((C.ds.base fn).at ⟨tmps,C.ds.ds⟩ (.inRegion ops (i::rest)::k)).finish v=(C.ds.base fn).at (cC ⟨tmps,C.ds.ds⟩ o.dst v) (.inRegion ops rest::k):=by rw[zvV,ho];rfl
 rw[<-Es,<-zN];rfl
variable {okv:aF->Prop}
def BO.recv (ha:C.alone=none)(hI:fE C){nx:aF->L}{sh:L}
 (ho:ops[i]? =some o) (cD:dD o (dR ops tmps)=true) (hop:o.op=.recv ct x ok) (Fc:C.p.underlying ct=some (.chan dir e)) (jU:C.p.info? e=some ie) (hz:ie.zero=some z) (zmM:∀R,VR (SF C.fs) C.K R z z)
 (rQ:dP C.fs x=true) (hx:(bH tmps []).eval x=.chan (some g)) (hK:C.K g c) (lG:∀s,o.dst=some s->s∉C.S) (pT:C.A.act l=.recv c okv nx sh)
 (h1:∀v,okv v->∃vg,(∀R,VR (SF C.fs) C.K R vg v)/\BO C (nx v) ⟨fn,(cC ⟨tmps,[]⟩ o.dst (recvd ok vg true)).tmps,.inRegion ops rest::k,false⟩ w)
 (h2:C.A.cl l->BO C sh ⟨fn,(cC ⟨tmps,[]⟩ o.dst (recvd ok z false)).tmps,.inRegion ops rest::k,false⟩ w):BO C l ⟨fn,tmps,.inRegion ops (i::rest)::k,false⟩ w:=by
 intro R W m' τ hw hm ht hi;obtain⟨fn',bQ,yW,yL⟩:=m';obtain rfl:=hm.fn;obtain rfl:=hm.todo;obtain rfl:=hm.ret;have lP:(bH bQ C.ds.ds).eval x=.chan (some c):=Xt hw hK (hx▸Gw (C:=C) hm.tmps rQ);have uE:=Hn (C:=C) hm.tmps cD;have hb:(C.ds.base fn).kind≠ .early:=C.ds.ok;have za5:∀vg v' b,VR (SF C.fs) C.K R vg v'->VR (SF C.fs) C.K R (recvd ok vg b) (recvd ok v' b):=λvg v' b h=>by
  unfold recvd
  cases ok with
  |false=>exact h
  |true=>
   simp only[if_true];exact VR.tuple' (by
    have:=bK.empty (S:=SF C.fs) (K:=C.K) (R:=R);exact(this.push h).push (.bool b))
 have goon:∀{l':L} {vg v':aF} {aV:aE},bU C.ty C.Wg τ W aV->VR (SF C.fs) C.K R vg v'->BO C l' ⟨fn,(cC ⟨tmps,[]⟩ o.dst vg).tmps,.inRegion ops rest::k,false⟩ w->
  C.B l' τ (oU (G ((C.ds.base fn).at ⟨bQ,C.ds.ds⟩ (.inRegion ops (i::rest)::k)) C.base) v') aV:=λ{l' vg v' aV} s hv hB=>by
  rw[zcU ho];exact hB R aV _ τ (Cx.Rel.suf (C:=C) hw ht s) ⟨rfl,rfl,rfl,Ja (C:=C) hm.tmps hv,Jn (C:=C) hm.pins lG⟩ ht (hI.suf _ _ _ _ hi s)
 rw[mI,Cx.B_none ha];refine b6.usr rfl ?_;unfold mF;rw[pT];refine⟨rfl,z,ok,λaI s=>?_,λv hv aI s _=>?_,λmL=>?_⟩
 .obtain⟨e1,e2⟩:=zpf (p:=C.p) (ρ:=(bH bQ C.ds.ds).eval) hop Fc jU hz lP aI
  rw[stepG_comm ho uE hb e1];unfold wL;rw[e2,Bg]
 .obtain⟨vg,zjF,hB⟩:=h1 v hv
  have:=goon s (za5 _ _ _ (zjF R)) hB;rw[Cx.B_none ha] at this;exact this
 .have:=goon bU.refl (za5 _ _ _ (zmM R)) (h2 mL)
  rw[Cx.B_none ha] at this;exact this
variable {pub:aF->List Nat}
def BO.send (ha:C.alone=none)(hI:fE C){y:cN}{nx:aF->L}{l':L}
 (ho:ops[i]? =some o) (cD:dD o (dR ops tmps)=true) (hop:o.op=.send x y)
 (rQ:dP C.fs x=true) (hx:(bH tmps []).eval x=.chan (some g)) (hK:C.K g c) (Dh:dP C.fs y=true) (lG:∀s,o.dst=some s->s∉C.S) (pT:C.A.act l=.send c okv pub nx)
 (hv:∀R v',VR (SF C.fs) C.K R ((bH tmps []).eval y) v'->okv v'/\pub v'=[]/\nx v'=l')
 (h1:BO C l' ⟨fn,(cC ⟨tmps,[]⟩ o.dst aA).tmps,.inRegion ops rest::k,false⟩ w):BO C l ⟨fn,tmps,.inRegion ops (i::rest)::k,false⟩ w:=by
 intro R W m' τ hw hm ht hi;obtain⟨fn',bQ,yW,yL⟩:=m';obtain rfl:=hm.fn;obtain rfl:=hm.todo;obtain rfl:=hm.ret;have lP:(bH bQ C.ds.ds).eval x=.chan (some c):=Xt hw hK (hx▸Gw (C:=C) hm.tmps rQ);have uE:=Hn (C:=C) hm.tmps cD;have hb:(C.ds.base fn).kind≠ .early:=C.ds.ok;obtain⟨k1,k2,k3⟩:=hv R _ (Gw (C:=C) (d:=C.ds.ds) hm.tmps Dh);rw[mI,Cx.B_none ha];refine b6.usr rfl ?_;unfold mF;rw[pT];refine⟨rfl,_,.tuple #[],τ,λaI s=>?_,k1,λb h=>h,rfl,λb h=>.inl h,(λa ha=>by rw[k2] at ha;cases ha),?_⟩
 .obtain⟨e1,e2⟩:=zrR (p:=C.p) (ρ:=(bH bQ C.ds.ds).eval) hop lP rfl aI
  rw[stepG_comm ho uE hb e1];unfold wL;rw[e2,Bg]
 .rw[k3,zcU ho]
  rw[<-Cx.B_none ha];exact h1 R W _ τ hw ⟨rfl,rfl,rfl,Ja (C:=C) hm.tmps xW,Jn (C:=C) hm.pins lG⟩ ht hi
end
end Go.Mt
namespace Go.Mt
open Go.Conc
inductive PpL where
 |m0|m1|rv (k:Nat)|wt|sd (k:Nat)|dn
end Go.Mt
namespace Go.Mt
open Go.Conc Go.RowKit Go.Conc.Lib Go.ConcR.Gen
open Go.ConcR (KK wgBlock WgAt stA smA rd wr mk Payload DC0)
section
variable {y4:Type}{P:bS}{ty:aM}{Wg:Nat}{A:jP y4}{Fin:bC->aE->Prop}
def cF.grow_self (τ:cF)(w:aE):τ.grow w w=τ:=by
 obtain⟨a,b,c⟩:=τ;simp only[cF.grow,cF.mk.injEq,and_true];funext x;exact propext ⟨λh=>h.elim id λh=>by omega,.inl⟩
def zO.refl (O:Nat->Prop)(w:aE):zO O w w:=⟨rfl,rfl,rfl,aX _,λ_ _ _=>rfl⟩
variable {main:Bool}{τ:cF}
def b6.running {ph:Ph y4}{d:Nat}{g:bC}{w:aE}(h:b6 P ty Wg A Fin main ph d τ g w):g.status=.running:=by
 obtain⟨r,hr⟩:=h;cases r with|mk ι f=>exact hr.1
def b6.goes {ph:Ph y4}{d:Nat}(hl:ph.live):∀(n:Nat) {g:bC} {w:aE},Goes P main (bU ty Wg τ) DC0 (b6 P ty Wg A Fin main ph d τ) n g w->b6 P ty Wg A Fin main ph d τ g w:=by
 intro n
 induction n with
 |zero=>exact λ{g w} h=>h w (bU.refl)
 |succ n ih=>
  intro g w h;rcases h with h|⟨hs,h⟩
  .exact h w (bU.refl)
  .refine b6.own hs hl λaI s=>?_
   obtain⟨zcu,w',es,hgo,⟨e1,e2⟩,hg⟩:=zkQ (h aI s);subst e1 e2;have hb:=ih hg;refine⟨zcu,w',#[],hgo,hb.running,zO.refl _ _,λe he=>by simp at he,?_⟩;rw[cF.grow_self];exact hb
def b6.idles {ph:Ph y4}{d:Nat}(hl:∀{g w},za2 P ty Wg (b6 P ty Wg A Fin) main ph d τ g w->Oc P ty Wg (b6 P ty Wg A Fin) main ph d τ g w):∀(n:Nat) {g:bC} {w:aE},Goes P main (bU ty Wg τ) DC0 (b6 P ty Wg A Fin main ph d τ) n g w->b6 P ty Wg A Fin main ph d τ g w:=by
 intro n
 induction n with
 |zero=>exact λ{g w} h=>h w (bU.refl)
 |succ n ih=>
  intro g w h;rcases h with h|⟨hs,h⟩
  .exact h w (bU.refl)
  .refine b6.mk hs (.inl (hl λaI s=>?_))
   obtain⟨zcu,w',es,hgo,⟨e1,e2⟩,hg⟩:=zkQ (h aI s);subst e1 e2;have hb:=ih hg;exact⟨zcu,#[],hgo,hb.running,λe he=>by simp at he,hb⟩
variable {m:Mark}
def b6.mark {ph:Ph y4}{d:Nat}(hl:ph.live){g:bC}{w:aE}(hs:g.status=.running){g':bC}(hgo:∀aI,bU ty Wg τ w aI->stepG P main g aI=.go g' aI #[oL m])
 (hm:EvT Wg main τ.own τ.still (oL m)) (hb:∀aI,bU ty Wg τ w aI->b6 P ty Wg A Fin main ph (n7 d #[oL m]) τ g' aI):b6 P ty Wg A Fin main ph d τ g w:=by
 refine b6.own hs hl λaI s=>⟨g',aI,#[oL m],hgo aI s,(hb aI s).running,zO.refl _ _,λe he=>?_,?_⟩
 .rw[zrU] at he
  subst he;rw[cF.grow_self];exact hm
 .rw[cF.grow_self];exact hb aI s
def b6.imark {l:y4}{d:Nat}{g:bC}{w:aE}(hs:g.status=.running){g':bC}(hgo:∀aI,bU ty Wg τ w aI->stepG P main g aI=.go g' aI #[oL m])
 (hm:oO.mute (oL m)=true) (hb:∀aI,bU ty Wg τ w aI->b6 P ty Wg A Fin main (.rel l) (n7 d #[oL m]) τ g' aI):b6 P ty Wg A Fin main (.rel l) d τ g w:=by
 refine b6.mk hs (.inl λaI s=>⟨g',#[oL m],hgo aI s,(hb aI s).running,λe he=>?_,hb aI s⟩);rw[zrU] at he;subst he;exact hm
def WgLive.cell0 {w:aE}(h:WgLive ty Wg w):∃v,w.cell? ⟨Wg,0,none⟩=some v:=let⟨_,_,x⟩:=h;⟨_,x.cellSt⟩
def WgLive.cell1 {w:aE}(h:WgLive ty Wg w):∃v,w.cell? ⟨Wg,1,none⟩=some v:=let⟨_,_,x⟩:=h;⟨_,x.cellSm⟩
structure G0 (ty:aM)(Wg:Nat)(τ:cF)(F:aE->Prop):Prop where
 suf:∀w aI,bU ty Wg τ w aI->F w->F aI
 wg:∀w a v,a.block=Wg->F w->F (w.setCell a v)
def G0.rely {F:aE->Prop}(k:G0 ty Wg τ F){w aI:aE}(h:F w/\WgLive ty Wg w)(s:bU ty Wg τ w aI):F aI/\WgLive ty Wg aI:=⟨k.suf _ _ s h.1,s.live h.2⟩
end
end Go.Mt
namespace Go.Mt
open Go.Conc Go.RowKit Go.Conc.Lib Go.ConcR.Gen
open Go.ConcN.Gen (WgLive.cell0 WgLive.cell1)
open Go.ConcN (st_flag st_waiters)
open Go.ConcR (KK wgBlock WgAt stA smA rd wr mk Payload DC0)
variable [zfR]{L:zfX}
section
variable {y4:Type}{P:bS}{Wg:Nat}{A:jP y4}{Fin:bC->aE->Prop}{F:aE->Prop}
 {b₀:dH} {a₀:uA} {ops₀:Array aZ} {i₀:Nat} {rest₀:List Nat} {k₀:List eE} {cs:List dH} {τ:cF} {l nx:y4}
def addW (H:Zc P L)(pT:A.act l=.add nx)(kf:G0 L.tWg Wg τ F)
 (hT:∀w,F w->WgLive L.tWg Wg w->b6 P L.tWg Wg A Fin true (.usr nx) 0 τ (G (b₀.at (a₀.put ((ops₀[i₀]?).bind (·.dst)) (.tuple #[])) (.inRegion ops₀ rest₀::k₀)) cs) w)
 (w:aE) (hF:F w/\WgLive L.tWg Wg w):
 b6 P L.tWg Wg A Fin true (.usr l) 0 τ (G ((base L.add).at ⟨#[.pointer (some ⟨Wg,0,none⟩),.int .i64 1,aA,aA,aA,aA,aA,aA,aA,aA,aA,aA,aA,aA,aA,aA,aA,aA,aA,aA,aA,aA,aA,aA,aA,aA,aA,aA,aA,aA,aA,aA,aA,aA,aA,aA,aA,aA,aA,aA,aA,aA,aA,aA,aA,aA,aA,aA,aA,aA,aA,aA,aA,aA,aA,aA,aA,aA,aA,aA,aA,aA,aA,aA,aA,aA,aA,aA,aA,aA,aA,aA,aA,aA,aA,aA,aA,aA,aA,aA,aA,aA,aA,aA,aA,aA,aA,aA,aA,aA,aA,aA,aA,aA,aA,aA,aA,aA,aA,aA,aA,aA,aA,aA,aA,aA,aA,aA,aA,aA,aA,aA,aA,aA,aA,aA,aA],[]⟩ [.code (Nn L)]) (b₀.at a₀ (.inRegion ops₀ (i₀::rest₀)::k₀)::cs)) w:=by
 lib_facts
 simp only[Nn,addFn,zG];refine b6.goes (ph:=.usr l) trivial 30 ?_
 iterate 12 (first|u_c dF kf.rely hF|u_c dU kf.rely hF|u_reg kf.rely hF|u_c pG kf.rely hF|u_cond false kf.rely hF|u_cond true kf.rely hF|u_op kf.rely hF)
 refine qJ (λaI vS=>?_);replace hF:=kf.rely hF vS;clear vS;refine b6.mark (ph:=.usr l) trivial rfl (λeU s=>zcw .disable aQ rfl rfl rA rfl H.f_disable (zmZ L) (zhM L) (zmY L) (zlC L)) trivial (λeU s=>?_);replace hF:=kf.rely hF s;clear s;rw[show n7 0 #[oL .disable]=1 from rfl]
 walk_nrm
 refine b6.goes (ph:=.usr l) trivial 60 ?_;u_c dF kf.rely hF;u_reg kf.rely hF
 u_defer kf.rely hF
 iterate 8 (first|u_c dF kf.rely hF|u_c dU kf.rely hF|u_reg kf.rely hF|u_op kf.rely hF)
 u_bub kf.rely hF
 iterate 11 (first|u_c dF kf.rely hF|u_c dU kf.rely hF|u_reg kf.rely hF|u_c pG kf.rely hF|u_cond false kf.rely hF|u_op kf.rely hF)
 u_call H.f_uAdd (nm_uAdd L) uAddFn kf.rely hF
 iterate 10 (first|u_c dF kf.rely hF|u_c dU kf.rely hF|u_reg kf.rely hF|u_op kf.rely hF)
 refine qJ (λaI vS=>?_);replace hF:=kf.rely hF vS;clear vS;refine b6.usr rfl ?_;unfold mF;rw[pT];intro eU lU v hv hw;replace hF:=kf.rely hF lU;clear lU;rcases Po v with rfl|zcR
 .replace hw:gA L.tWg Wg eU 0 0:=by simpa using hw
  have z:st (0+1) 0=.int .u64 KK:=by simp[st]
  rw[z];have e0:Ri.wrap (0+4294967296)=KK:=aH;refine⟨_,(Zo rfl rfl rA rfl H.f_addU64 (Xe L) (Wu L) (Vr L) .u64 (Vf L) rfl rfl hw.cellSt (hw.thaw 0)).trans (by rw[e0];rfl),rfl,?_⟩;replace hF:F (eU.setCell (stA Wg) (.int .u64 KK))/\WgLive L.tWg Wg (eU.setCell (stA Wg) (.int .u64 KK)):=⟨kf.wg _ _ _ rfl hF.1,⟨_,_,hw.setSt _⟩⟩;clear hw;simp only[KK] at hF⊢
  walk_nrm
  refine b6.goes (ph:=.usr nx) trivial 110 ?_
  iterate 3 (first|u_c dF kf.rely hF|u_c xC kf.rely hF|u_op kf.rely hF)
  u_leave1 H.f_uAdd kf.rely hF
  iterate 48 (first|u_c dF kf.rely hF|u_c dU kf.rely hF|u_reg kf.rely hF|u_c pG kf.rely hF|u_cond false kf.rely hF|u_cond true kf.rely hF|u_op kf.rely hF|u_skip kf.rely hF)
  u_conv H.underlying_tPU32 H.room_tU32 (WgLive.cell1 hF.2).choose_spec kf.rely hF
  refine qJ (λJh Ar=>?_);replace hF:=kf.rely hF Ar;clear Ar;refine b6.mark (ph:=.usr nx) trivial rfl (λUu s=>zdf .read aQ rfl rfl rA rfl H.f_raceRead (x_raceRead_n L) (x_raceRead_b L) (x_raceRead_x L) (x_raceRead_f L) (ad:=⟨Wg,1,none⟩) (by simp[wH])) ⟨rfl,rfl⟩ (λUu s=>?_);replace hF:=kf.rely hF s;clear s;rw[show n7 1 #[oL (.read ⟨Wg,1,none⟩)]=1 from rfl]
  walk_nrm
  refine b6.goes (ph:=.usr nx) trivial 110 ?_
  iterate 39 (first|u_c dF kf.rely hF|u_c dU kf.rely hF|u_reg kf.rely hF|u_c pG kf.rely hF|u_cond false kf.rely hF|u_cond true kf.rely hF|u_c xC kf.rely hF|u_op kf.rely hF|u_skip kf.rely hF)
  refine qJ (λJh Ar=>?_);replace hF:=kf.rely hF Ar;clear Ar;refine b6.mark (ph:=.usr nx) trivial rfl (λUu s=>zwf (v:=.tuple #[]) (evs:=#[oL .enable]) rfl H.f_enable (zgG L) (zhg L) (zfo L) (zgn L) (by simp[zya]) (by simp[oL]) (by simp[oL])) trivial (λUu s=>?_);replace hF:=kf.rely hF s;clear s;rw[show n7 1 #[oL .enable]=0 from rfl];refine b6.goes (ph:=.usr nx) trivial 2 ?_
  u_leave0 H.f_add kf.rely hF
  exact qJ (λZ1 H0=>hT Z1 (kf.rely hF H0).1 (kf.rely hF H0).2)
 .obtain⟨V,hV⟩:=aU ((v:Int)+1:Int)
  obtain⟨S,hS⟩:=aU (V*KK:Int);have eS:Ri.wrap ((v:Int)*KK+4294967296)=S:=by rw[zf9,hS,hV];simp only[KK];omega
  have z:st (v+1) 0=.int .u64 S:=by simp[st,hS,hV]
  rw[z];have a1:S/4294967296=V:=by rw[hS];simp only[KK];omega
  have b1:bits .and .u64 S 2147483648=0:=by rw[hS,hV];have:=st_flag (v+1) 0 aC aC;simpa[KK] using this
  have b2:bits .and .u64 S 2147483647=0:=by rw[hS,hV];have:=st_waiters (v+1) 0 aC aC;simpa[KK] using this
  have c1:zqg.wrap V=V:=by rw[zpB];omega
  have zii:1<V:=aC;have zp2:V<2147483648:=aC;have q1:(V==1)=false:=r9;have q2:decide (V=1)=false:=decide_eq_false aC;have q3:decide (V<0)=false:=decide_eq_false aC;have q4:decide (0<V)=true:=decide_eq_true aC;have q5:(V==0)=false:=r9;have q6:decide (V=0)=false:=decide_eq_false aC;refine⟨_,(Zo rfl rfl rA rfl H.f_addU64 (Xe L) (Wu L) (Vr L) .u64 (Vf L) rfl rfl hw.cellSt (hw.thaw 0)).trans (by rw[eS];rfl),rfl,?_⟩;replace hF:F (eU.setCell (stA Wg) (.int .u64 S))/\WgLive L.tWg Wg (eU.setCell (stA Wg) (.int .u64 S)):=⟨kf.wg _ _ _ rfl hF.1,⟨_,_,hw.setSt _⟩⟩;clear hw hS hV eS z
  walk_nrm
  refine b6.goes (ph:=.usr nx) trivial 130 ?_
  iterate 3 (first|u_c dF kf.rely hF|u_c xC kf.rely hF|u_op kf.rely hF)
  u_leave1 H.f_uAdd kf.rely hF
  iterate 13 (first|u_c dF kf.rely hF|u_c dU kf.rely hF|u_reg kf.rely hF|u_op kf.rely hF|u_skip kf.rely hF)
  u_cnd false kf.rely hF
  iterate 29 (first|u_c dF kf.rely hF|u_c dU kf.rely hF|u_reg kf.rely hF|u_c pG kf.rely hF|u_op kf.rely hF)
  u_cnd false kf.rely hF
  iterate 7 (first|u_c dF kf.rely hF|u_c dU kf.rely hF|u_reg kf.rely hF|u_c pG kf.rely hF|u_op kf.rely hF)
  u_cnd false kf.rely hF
  iterate 17 (first|u_c dF kf.rely hF|u_c dU kf.rely hF|u_reg kf.rely hF|u_c pG kf.rely hF|u_op kf.rely hF|u_skip kf.rely hF)
  u_cnd false kf.rely hF
  iterate 11 (first|u_c dF kf.rely hF|u_c dU kf.rely hF|u_reg kf.rely hF|u_c pG kf.rely hF|u_op kf.rely hF|u_skip kf.rely hF)
  u_cnd true kf.rely hF
  u_c xC kf.rely hF;refine qJ (λJh Ar=>?_);replace hF:=kf.rely hF Ar;clear Ar;refine b6.mark (ph:=.usr nx) trivial rfl (λUu s=>zwf (v:=.tuple #[]) (evs:=#[oL .enable]) rfl H.f_enable (zgG L) (zhg L) (zfo L) (zgn L) (by simp[zya]) (by simp[oL]) (by simp[oL])) trivial (λUu s=>?_);replace hF:=kf.rely hF s;clear s;rw[show n7 1 #[oL .enable]=0 from rfl];refine b6.goes (ph:=.usr nx) trivial 2 ?_
  u_leave0 H.f_add kf.rely hF
  exact qJ (λZ1 H0=>hT Z1 (kf.rely hF H0).1 (kf.rely hF H0).2)
end
end Go.Mt
namespace Go.Mt
open Go.Conc Go.RowKit Go.Conc.Lib Go.ConcR.Gen
open Go.ConcN.Gen (WgLive.cell0 WgLive.cell1)
open Go.ConcN (st_flag st_waiters)
open Go.ConcR (KK wgBlock WgAt stA smA rd wr mk Payload DC0)
variable [zfR]{L:zfX}
section
variable {y4:Type}{P:bS}{Wg:Nat}{A:jP y4}{Fin:bC->aE->Prop}{F:aE->Prop}
 {b₀:dH} {a₀:uA} {ops₀:Array aZ} {i₀:Nat} {rest₀:List Nat} {k₀:List eE} {cs:List dH} {τ:cF} {l nx:y4}
theorem addNegW (H:Zc P L)(pT:A.act l=.done)(kf:G0 L.tWg Wg τ F)(tJ:∀w,F w->A.dep l w){qt:Nat}
 (hT:QuitsD P qt 0 (G (b₀.at (a₀.put ((ops₀[i₀]?).bind (·.dst)) (.tuple #[])) (.inRegion ops₀ rest₀::k₀)) cs)) (w:aE) (hF:F w/\WgLive L.tWg Wg w):
 b6 P L.tWg Wg A Fin false (.usr l) 0 τ (G ((base L.add).at ⟨#[.pointer (some ⟨Wg,0,none⟩),.int .i64 (-1),aA,aA,aA,aA,aA,aA,aA,aA,aA,aA,aA,aA,aA,aA,aA,aA,aA,aA,aA,aA,aA,aA,aA,aA,aA,aA,aA,aA,aA,aA,aA,aA,aA,aA,aA,aA,aA,aA,aA,aA,aA,aA,aA,aA,aA,aA,aA,aA,aA,aA,aA,aA,aA,aA,aA,aA,aA,aA,aA,aA,aA,aA,aA,aA,aA,aA,aA,aA,aA,aA,aA,aA,aA,aA,aA,aA,aA,aA,aA,aA,aA,aA,aA,aA,aA,aA,aA,aA,aA,aA,aA,aA,aA,aA,aA,aA,aA,aA,aA,aA,aA,aA,aA,aA,aA,aA,aA,aA,aA,aA,aA,aA,aA,aA,aA],[]⟩ [.code (Nn L)]) (b₀.at a₀ (.inRegion ops₀ (i₀::rest₀)::k₀)::cs)) w:=by
 lib_facts
 simp only[Nn,addFn,zG];refine b6.goes (ph:=.usr l) trivial 20 ?_
 iterate 11 (first|u_c dF kf.rely hF|u_c dU kf.rely hF|u_reg kf.rely hF|u_cond true kf.rely hF|u_op kf.rely hF)
 u_conv H.underlying_tWgP H.room_tWg (WgLive.cell0 hF.2).choose_spec kf.rely hF
 refine qJ (λaI vS=>?_);replace hF:=kf.rely hF vS;clear vS;refine b6.usr rfl ?_;unfold mF;rw[pT];refine⟨rfl,rfl,λeU s=>tJ _ (kf.rely hF s).1,λeU s=>?_⟩;replace hF:=kf.rely hF s;clear s;refine⟨_,zdf .releaseMerge aQ rfl rfl rA rfl H.f_relMerge (x_relMerge_n L) (x_relMerge_b L) (x_relMerge_x L) (x_relMerge_f L) zlU,rfl,?_⟩;refine b6.idles (ph:=.rel l) id 10 ?_
 walk_nrm
 iterate 3 (first|u_c dF kf.rely hF|u_c dU kf.rely hF|u_reg kf.rely hF)
 refine qJ (λaI vS=>?_);replace hF:=kf.rely hF vS;clear vS;refine b6.imark rfl (λeU s=>zcw .disable aQ rfl rfl rA rfl H.f_disable (zmZ L) (zhM L) (zmY L) (zlC L)) rfl (λeU s=>?_);replace hF:=kf.rely hF s;clear s;rw[show n7 0 #[oL .disable]=1 from rfl];refine b6.idles (ph:=.rel l) id 50 ?_
 walk_nrm
 u_c dF kf.rely hF;u_reg kf.rely hF
 u_defer kf.rely hF
 iterate 8 (first|u_c dF kf.rely hF|u_c dU kf.rely hF|u_reg kf.rely hF|u_op kf.rely hF)
 u_bub kf.rely hF
 iterate 11 (first|u_c dF kf.rely hF|u_c dU kf.rely hF|u_reg kf.rely hF|u_c pG kf.rely hF|u_cond false kf.rely hF|u_op kf.rely hF)
 u_call H.f_uAdd (nm_uAdd L) uAddFn kf.rely hF
 iterate 10 (first|u_c dF kf.rely hF|u_c dU kf.rely hF|u_reg kf.rely hF|u_op kf.rely hF)
 refine qJ (λzgW zgK=>?_);replace hF:=kf.rely hF zgK;clear zgK;refine b6.mk rfl (.inr ?_);intro aI iQ v wt cD hv hw;replace hF:=kf.rely hF iQ;clear iQ;have e0:Ri.wrap (KK+18446744069414584320)=0:=aH;have e1:Ri.wrap (KK+1+18446744069414584320)=1:=aH;rcases Po v with rfl|zcR<;>(obtain rfl|rfl:wt=0\/wt=1:=by omega)
 .
  replace hw:gA L.tWg Wg aI KK 0:=by simpa using hw
  have z:Mt.st 0 0=.int .u64 0:=by simp[Mt.st]
  rw[z];refine⟨_,(Zo rfl rfl rA rfl H.f_addU64 (Xe L) (Wu L) (Vr L) .u64 (Vf L) rfl rfl hw.cellSt (hw.thaw 0)).trans (by rw[e0];rfl),rfl,aH,λhl=>absurd hl.2 aH,λ_=>⟨qt+89,?_⟩⟩;clear hw
  walk_nrm
  q_val (.int .u64 0)
  q_c dF
  q_c xC
  q_leave1 H.f_uAdd
  q_val (.int .u64 0)
  q_c dF
  q_c dU
  q_c dU
  q_reg
  q_val (.int .u64 0)
  q_val (.int .u64 0)
  q_val (.bool false)
  q_val (.bool false)
  q_skip
  q_skip
  q_val (.bool false)
  q_c dF
  q_cond false
  q_c pG
  q_c dU
  q_reg
  q_val (.int .u64 0)
  q_val (.int .u64 0)
  q_val (.int .i32 0)
  q_val (.int .i32 0)
  q_c dF
  q_c dU
  q_reg
  q_val (.int .u64 0)
  q_val (.int .u64 0)
  q_val (.int .u32 0)
  q_val (.int .u32 0)
  q_c dF
  q_c dU
  q_c dU
  q_reg
  q_val (.bool true)
  q_val (.int .i64 (-1))
  q_val (.bool false)
  q_val (.bool false)
  q_val (.bool false)
  q_skip
  q_skip
  q_skip
  q_skip
  q_val (.bool false)
  q_c dF
  q_cond false
  q_c pG
  q_c dU
  q_c dU
  q_reg
  q_val (.int .i32 0)
  q_val (.bool false)
  q_c dF
  q_cond false
  q_c pG
  q_c dU
  q_c dU
  q_reg
  q_val (.int .u32 0)
  q_val (.bool false)
  q_val (.bool false)
  q_skip
  q_skip
  q_val (.bool false)
  q_val (.bool false)
  q_skip
  q_skip
  q_skip
  q_skip
  q_val (.bool false)
  q_c dF
  q_cond false
  q_c pG
  q_c dU
  q_c dU
  q_reg
  q_val (.int .i32 0)
  q_val (.bool false)
  q_val (.bool false)
  q_val (.int .u32 0)
  q_val (.bool true)
  q_val (.bool true)
  q_c dF
  q_cond true
  q_c xC
  q_enable
  q_leave0 H.f_add
  exact hT
 .
  replace hw:gA L.tWg Wg aI (KK+1) 0:=by simpa using hw
  have z:Mt.st 0 1=.int .u64 1:=by simp[Mt.st]
  rw[z];refine⟨_,(Zo rfl rfl rA rfl H.f_addU64 (Xe L) (Wu L) (Vr L) .u64 (Vf L) rfl rfl hw.cellSt (hw.thaw 0)).trans (by rw[e1];rfl),rfl,aH,λ_=>?_,λhl=>absurd ⟨rfl,rfl⟩ hl⟩;replace hF:F (aI.setCell (stA Wg) (.int .u64 1))/\WgLive L.tWg Wg (aI.setCell (stA Wg) (.int .u64 1)):=⟨kf.wg _ _ _ rfl hF.1,⟨_,_,hw.setSt 1⟩⟩;clear hw;refine b6.idles (ph:=.l1 l) id 120 ?_
  walk_nrm
  iterate 3 (first|u_c dF kf.rely hF|u_c xC kf.rely hF|u_op kf.rely hF)
  u_leave1 H.f_uAdd kf.rely hF
  iterate 89 (first|u_c dF kf.rely hF|u_c dU kf.rely hF|u_reg kf.rely hF|u_c pG kf.rely hF|u_cond false kf.rely hF|u_op kf.rely hF|u_skip kf.rely hF)
  u_call H.f_uLoad (ziH L) uLoadFn kf.rely hF
  iterate 9 (first|u_c dF kf.rely hF|u_c dU kf.rely hF|u_reg kf.rely hF|u_op kf.rely hF)
  refine qJ (λeU Qv=>?_);replace hF:=kf.rely hF Qv;clear Qv;refine b6.mk rfl (.inr ?_);intro Jh s hw;replace hF:=kf.rely hF s;clear s;refine⟨_,zfI rfl rfl rA rfl H.f_loadU64 (zdA L) (zey L) (zfC L) .u64 (zd2 L) rfl hw.cellSt,rfl,aH,?_⟩;clear hw;refine b6.idles (ph:=.l2 l) id 40 ?_
  walk_nrm
  iterate 3 (first|u_c dF kf.rely hF|u_c xC kf.rely hF|u_op kf.rely hF)
  u_leave1 H.f_uLoad kf.rely hF
  iterate 10 (first|u_c dF kf.rely hF|u_c dU kf.rely hF|u_reg kf.rely hF|u_c pG kf.rely hF|u_cond false kf.rely hF|u_op kf.rely hF)
  u_call H.f_uStore (nm_uStore L) uStoreFn kf.rely hF
  iterate 5 (first|u_reg kf.rely hF|u_op kf.rely hF)
  refine qJ (λeU Ar=>?_);replace hF:=kf.rely hF Ar;clear Ar;refine b6.mk rfl (.inr ?_);intro Jh s hw;replace hF:=kf.rely hF s;clear s;have z0:Mt.st 0 0=.int .u64 0:=by simp[Mt.st]
  rw[z0];refine⟨_,stepG_store_atomic rfl rfl rA rfl H.f_storeU64 (x_storeU64_n L) (x_storeU64_b L) (x_storeU64_x L) (x_storeU64_f L) rfl rfl hw.cellSt (hw.thaw 0),rfl,aH,?_⟩;replace hF:F (Jh.setCell (stA Wg) (.int .u64 0))/\WgLive L.tWg Wg (Jh.setCell (stA Wg) (.int .u64 0)):=⟨kf.wg _ _ _ rfl hF.1,⟨_,_,hw.setSt 0⟩⟩;clear hw z0;refine b6.idles (ph:=.l3 l) id 50 ?_
  walk_nrm
  u_c dF kf.rely hF;u_c ze0 kf.rely hF
  u_leave0 H.f_uStore kf.rely hF
  iterate 24 (first|u_c dF kf.rely hF|u_c dU kf.rely hF|u_reg kf.rely hF|u_c pG kf.rely hF|u_cond false kf.rely hF|u_cond true kf.rely hF|u_c zea kf.rely hF|u_c zhO kf.rely hF|u_op kf.rely hF)
  refine qJ (λeU zfr=>?_);clear zfr hF;refine b6.mk rfl (.inr ⟨mayWake_entry rfl rfl H.f_semrelease (zr7 L),λUu s hw=>?_⟩);clear s;refine⟨_,(stepG_semrelease rfl rfl rA rfl H.f_semrelease (x_semrelease_n L) (zr7 L) (x_semrelease_x L) (x_semrelease_f L) zlX hw.cellSm (hw.thaw 1)).trans J2,rfl,aH,qt+19,?_⟩;clear hw
  walk_nrm
  q_c dF
  q_c znk
  q_reg
  q_val (.int .u32 1)
  q_val (.int .u32 0)
  q_val (.int .u32 0)
  q_c dF
  q_c ziD
  q_c dU
  q_c dU
  q_reg
  q_val (.int .u32 0)
  q_val (.bool false)
  q_c dF
  q_cond false
  q_exit
  q_c ze0
  q_enable
  q_leave0 H.f_add
  exact hT
 .
  replace hw:gA L.tWg Wg aI (((v:Nat)+1)*KK+0) 0:=by simpa using hw
  have z:Mt.st v 0=.int .u64 ((v:Int)*KK+0):=by simp[Mt.st]
  rw[z];have fJ:0<v:=aC;have eS:Ri.wrap (((v:Nat)+1)*KK+0+18446744069414584320)=(v:Int)*KK+0:=by rw[zf9];simp only[KK];omega
  obtain⟨S,hS⟩:=aU ((v:Int)*KK+0:Int);rw[<-hS] at eS⊢;have a1:S/4294967296=(v:Int):=by rw[hS];simp only[KK];omega
  have a2:0<=S/\S<9223372036854775808:=by rw[hS];simp only[KK];omega
  have b1:bits .and .u64 S 2147483648=0:=by rw[hS];have:=st_flag v 0 aC aC;simpa[KK] using this
  have b2:bits .and .u64 S 2147483647=0:=by rw[hS];have:=st_waiters v 0 aC aC;simpa[KK] using this
  clear hS z;refine⟨_,(Zo rfl rfl rA rfl H.f_addU64 (Xe L) (Wu L) (Vr L) .u64 (Vf L) rfl rfl hw.cellSt (hw.thaw 0)).trans (by rw[eS];rfl),rfl,aH,λhl=>absurd hl.1 aC,λ_=>⟨qt+89,?_⟩⟩;clear hw
  walk_nrm
  q_vn (.int .u64 S)
  q_c dF
  q_c xC
  q_leave1 H.f_uAdd
  q_vn (.int .u64 S)
  q_c dF
  q_c dU
  q_c dU
  q_reg
  q_vn (.int .u64 S)
  q_vn (.int .u64 0)
  q_vn (.bool false)
  q_vn (.bool false)
  q_skip
  q_skip
  q_vn (.bool false)
  q_c dF
  q_cond false
  q_c pG
  q_c dU
  q_reg
  q_vn (.int .u64 S)
  q_vn (.int .u64 (v:Int))
  q_vn (.int .i32 (v:Int))
  q_vn (.int .i32 (v:Int))
  q_c dF
  q_c dU
  q_reg
  q_vn (.int .u64 S)
  q_vn (.int .u64 0)
  q_vn (.int .u32 0)
  q_vn (.int .u32 0)
  q_c dF
  q_c dU
  q_c dU
  q_reg
  q_vn (.bool true)
  q_vn (.int .i64 (-1))
  q_vn (.bool false)
  q_vn (.bool false)
  q_vn (.bool false)
  q_skip
  q_skip
  q_skip
  q_skip
  q_vn (.bool false)
  q_c dF
  q_cond false
  q_c pG
  q_c dU
  q_c dU
  q_reg
  q_vn (.int .i32 (v:Int))
  q_vn (.bool false)
  q_c dF
  q_cond false
  q_c pG
  q_c dU
  q_c dU
  q_reg
  q_vn (.int .u32 0)
  q_vn (.bool false)
  q_vn (.bool false)
  q_skip
  q_skip
  q_vn (.bool false)
  q_vn (.bool false)
  q_skip
  q_skip
  q_skip
  q_skip
  q_vn (.bool false)
  q_c dF
  q_cond false
  q_c pG
  q_c dU
  q_c dU
  q_reg
  q_vn (.int .i32 (v:Int))
  q_vn (.bool true)
  q_vn (.bool true)
  q_skip
  q_skip
  q_vn (.bool true)
  q_c dF
  q_cond true
  q_c xC
  q_enable
  q_leave0 H.f_add
  exact hT
 .
  replace hw:gA L.tWg Wg aI (((v:Nat)+1)*KK+1) 0:=by simpa using hw
  have z:Mt.st v 1=.int .u64 ((v:Int)*KK+1):=by simp[Mt.st]
  rw[z];have fJ:0<v:=aC;have eS:Ri.wrap (((v:Nat)+1)*KK+1+18446744069414584320)=(v:Int)*KK+1:=by rw[zf9];simp only[KK];omega
  obtain⟨S,hS⟩:=aU ((v:Int)*KK+1:Int);rw[<-hS] at eS⊢;have a1:S/4294967296=(v:Int):=by rw[hS];simp only[KK];omega
  have a2:0<=S/\S<9223372036854775808:=by rw[hS];simp only[KK];omega
  have b1:bits .and .u64 S 2147483648=0:=by rw[hS];have:=st_flag v 1 aC aC;simpa[KK] using this
  have b2:bits .and .u64 S 2147483647=1:=by rw[hS];have:=st_waiters v 1 aC aC;simpa[KK] using this
  clear hS z;refine⟨_,(Zo rfl rfl rA rfl H.f_addU64 (Xe L) (Wu L) (Vr L) .u64 (Vf L) rfl rfl hw.cellSt (hw.thaw 0)).trans (by rw[eS];rfl),rfl,aH,λhl=>absurd hl.1 aC,λ_=>⟨qt+89,?_⟩⟩;clear hw
  walk_nrm
  q_vn (.int .u64 S)
  q_c dF
  q_c xC
  q_leave1 H.f_uAdd
  q_vn (.int .u64 S)
  q_c dF
  q_c dU
  q_c dU
  q_reg
  q_vn (.int .u64 S)
  q_vn (.int .u64 0)
  q_vn (.bool false)
  q_vn (.bool false)
  q_skip
  q_skip
  q_vn (.bool false)
  q_c dF
  q_cond false
  q_c pG
  q_c dU
  q_reg
  q_vn (.int .u64 S)
  q_vn (.int .u64 (v:Int))
  q_vn (.int .i32 (v:Int))
  q_vn (.int .i32 (v:Int))
  q_c dF
  q_c dU
  q_reg
  q_vn (.int .u64 S)
  q_vn (.int .u64 1)
  q_vn (.int .u32 1)
  q_vn (.int .u32 1)
  q_c dF
  q_c dU
  q_c dU
  q_reg
  q_vn (.bool true)
  q_vn (.int .i64 (-1))
  q_vn (.bool false)
  q_vn (.bool false)
  q_vn (.bool false)
  q_skip
  q_skip
  q_skip
  q_skip
  q_vn (.bool false)
  q_c dF
  q_cond false
  q_c pG
  q_c dU
  q_c dU
  q_reg
  q_vn (.int .i32 (v:Int))
  q_vn (.bool false)
  q_c dF
  q_cond false
  q_c pG
  q_c dU
  q_c dU
  q_reg
  q_vn (.int .u32 1)
  q_vn (.bool true)
  q_vn (.bool true)
  q_vn (.int .i64 (-1))
  q_vn (.bool false)
  q_vn (.bool false)
  q_vn (.bool false)
  q_skip
  q_skip
  q_skip
  q_skip
  q_vn (.bool false)
  q_c dF
  q_cond false
  q_c pG
  q_c dU
  q_c dU
  q_reg
  q_vn (.int .i32 (v:Int))
  q_vn (.bool true)
  q_vn (.bool true)
  q_skip
  q_skip
  q_vn (.bool true)
  q_c dF
  q_cond true
  q_c xC
  q_enable
  q_leave0 H.f_add
  exact hT
def doneW (H:Zc P L)(pT:A.act l=.done)(kf:G0 L.tWg Wg τ F)(tJ:∀w,F w->A.dep l w){c:dH}{cs:List dH}{qt:Nat}
 (rM:c.mode=.returning) (hT:QuitsD P qt 0 (G c cs)) (w:aE) (hF:F w/\WgLive L.tWg Wg w):
 b6 P L.tWg Wg A Fin false (.usr l) 0 τ (G ((baseD L.done).at ⟨#[.pointer (some ⟨Wg,0,none⟩),aA,aA,aA],[]⟩ [.code (body_done L)]) (c::cs)) w:=by
 lib_facts
 have hA:=@addNegW _ L _ P Wg A Fin F;simp only[body_done,Nn,doneFn,addFn,zG] at hA⊢;refine b6.goes (ph:=.usr l) trivial 23 ?_;u_reg kf.rely hF;u_op kf.rely hF
 u_in kf.rely hF
 refine goes_call rfl rfl rA rfl H.f_add (nm_add L) rfl ⟨by u_nil,?_⟩
 walk_nrmf addFn
 refine qJ (λaI vS=>?_);refine hA H pT kf tJ (qt:=qt+3) ?_ _ (kf.rely hF vS)
 q_c dF
 q_c ze0
 exact QuitsD.leaveD rfl rfl H.f_done rfl rM hT
end
end Go.Mt
namespace Go.Mt
open Go.Conc Go.RowKit Go.Conc.Lib Go.ConcR.Gen
open Go.ConcN.Gen (WgLive.cell0 WgLive.cell1 AnchWN)
open Go.ConcN (st_flag st_waiters)
open Go.ConcR (KK wgBlock WgAt stA smA rd wr mk Payload DC0)
variable [zfR]{L:zfX}
section
variable {y4:Type}{P:bS}{Wg:Nat}{A:jP y4}{Fin:bC->aE->Prop}{F:aE->Prop}
 {b₀:dH} {a₀:uA} {ops₀:Array aZ} {i₀:Nat} {rest₀:List Nat} {k₀:List eE} {cs:List dH} {τ:cF} {l nx:y4}
def AtX (W w:aE):Prop:=∃d,w=W.at d
def xP {W w aI:aE}(h:AtX W w)(r:AtRel w aI):AtX W aI:=by
 obtain⟨d,rfl⟩:=h;obtain⟨d',rfl⟩:=r;exact⟨d',rfl⟩
def zct (A:jP y4)(w:aE):Prop:=∃q ch,A.Inv q ch/\q 0=.waits/\(∀i l,q i≠ .run l)/\∀i l,q i=.over l->A.dep l w
def zo4 (H:Zc P L)(kf:G0 L.tWg Wg τ F)(N6:∀(n:Nat) g w,Goes P true AtRel DC0 Fin n g w->Fin g w)
 (hT:∀w,F w->WgLive L.tWg Wg w->zct A w->∀d,Fin (G (b₀.at (a₀.put ((ops₀[i₀]?).bind (·.dst)) (.tuple #[])) (.inRegion ops₀ rest₀::k₀)) cs) (w.at d))
 {ok:Nat->Prop} {ph:Ph y4} (hl:ph.live)
 (xI:∀g w,g.status=.running->(∀aI,bU L.tWg Wg τ w aI->∀v:Nat,ok v->v<2147483648->gA L.tWg Wg aI (v*KK) 0->∃g',stepG P true g aI=.go g' aI #[rd (stA Wg)]/\g'.status=.running/\
  (v=0->b6 P L.tWg Wg A Fin true .w5 1 τ g' aI)/\(v≠0->b6 P L.tWg Wg A Fin true (.w2 v) 1 τ g' aI))->b6 P L.tWg Wg A Fin true ph 1 τ g w)
 (hC:∀v,ok v->∀g w,AnchWN L F Wg (b₀.at a₀ (.inRegion ops₀ (i₀::rest₀)::k₀)) cs g w->b6 P L.tWg Wg A Fin true (.w1 v) 1 τ g w)
 (g:bC) (w:aE) (h:AnchWN L F Wg (b₀.at a₀ (.inRegion ops₀ (i₀::rest₀)::k₀)) cs g w):b6 P L.tWg Wg A Fin true ph 1 τ g w:=by
 lib_facts
 obtain⟨T,rfl,zD8,t0,hF⟩:=h;obtain⟨v0,v1,v2,v3,v4,v5,v6,v7,v8,v9,v10,v11,v12,zMu,zLU,zLg,zMc,zML,zLe,zKz,v20,v21,zLf,zNa,v24,zK2,zMV,zK1,v28,zKX,v30,v31,zKd,zJS,zMr,zM7,zKb,v37,zJ5,zMn,v40,zKL,zMZ,zLp,zLc,zJ8,v46,zKw,zLO,v49,zMb,v51,zMs,v53,zLx,zKc,zKk,zJV,zMq,v59,zMC,zLj,zKy,zLW,zJQ,zLa,zKl,zLk,zJP,zKC,v70,zL7,v72,zLm,zLn,v75,v76,zMv,zKs,zLz,v80,zLC,zMw,zLd,rfl⟩:=array84 T zD8;simp only[List.getElem?_toArray,List.getElem?_cons_zero,fT] at t0;subst t0;refine b6.goes hl 30 ?_;simp only[L7,znq,waitFn,zG]
 iterate 6 (first|u_c dU kf.rely hF|u_reg kf.rely hF|u_c zea kf.rely hF|u_op kf.rely hF)
 u_call H.f_uLoad (ziH L) uLoadFn kf.rely hF
 iterate 9 (first|u_c dF kf.rely hF|u_c dU kf.rely hF|u_reg kf.rely hF|u_op kf.rely hF)
 refine qJ (λzgW vS=>?_);replace hF:=kf.rely hF vS;clear vS;refine xI _ _ rfl ?_;intro aI s v bV hv hw;replace hF:=kf.rely hF s;clear s;rcases Po v with rfl|zcR
 .
  replace hw:gA L.tWg Wg aI 0 0:=by simpa using hw
  refine⟨_,zfI (v:=0) rfl rfl rA rfl H.f_loadU64 (zdA L) (zey L) (zfC L) .u64 (zd2 L) rfl hw.cellSt,rfl,λ_=>?_,λh=>absurd rfl h⟩;clear hw;refine b6.goes (ph:=.w5) trivial 60 ?_
  walk_nrm
  iterate 3 (first|u_c dF kf.rely hF|u_c xC kf.rely hF|u_op kf.rely hF)
  u_leave1 H.f_uLoad kf.rely hF
  iterate 27 (first|u_c dF kf.rely hF|u_c dU kf.rely hF|u_reg kf.rely hF|u_cond true kf.rely hF|u_op kf.rely hF)
  refine qJ (λZ1 H0=>?_);replace hF:=kf.rely hF H0;clear H0;refine b6.mark (ph:=.w5) trivial rfl (λeU s=>zcw .enable aQ rfl rfl rA rfl H.f_enable (zgG L) (zhg L) (zfo L) (zgn L)) trivial (λeU s=>?_);replace hF:=kf.rely hF s;clear s;rw[show n7 1 #[oL .enable]=0 from rfl];refine b6.goes (ph:=.w5) trivial 30 ?_
  walk_nrm
  iterate 3 (first|u_c dF kf.rely hF|u_reg kf.rely hF|u_op kf.rely hF)
  u_conv H.underlying_tWgP H.room_tWg (WgLive.cell0 hF.2).choose_spec kf.rely hF
  refine qJ (λzD3 zae=>?_);replace hF:=kf.rely hF zae;clear zae;refine b6.mk rfl (.inr ⟨rfl,λTe s hD=>?_⟩);replace hF:=kf.rely hF s;clear s;have hX:AtX Te Te:=⟨Te.drawn,rfl⟩;refine⟨_,zdf .acquire aQ rfl rfl rA rfl H.f_acquire (x_acquire_n L) (x_acquire_b L) (x_acquire_x L) (x_acquire_f L) zlU,rfl,?_⟩;refine N6 30 _ _ ?_
  walk_nrm
  iterate 19 (first|u_c dF xP hX|u_c dU xP hX|u_reg xP hX|u_c pG xP hX|u_cond false xP hX|u_c xC xP hX|u_op xP hX|u_skip xP hX)
  u_leave0 H.f_wait xP hX
  exact qJ (λzzQ h=>by obtain⟨znE,rfl⟩:=xP hX h;exact hT _ hF.1 hF.2 hD znE)
 .
  obtain⟨S,hS⟩:∃S:Int,(v:Int)*KK=S:=⟨_,rfl⟩;have a1:S/4294967296=(v:Int):=by rw[<-hS];simp only[KK];omega
  have b1:bits .and .u64 S 2147483648=0:=by rw[<-hS];have:=st_flag v 0 aC aC;simpa[KK] using this
  have b2:bits .and .u64 S 2147483647=0:=by rw[<-hS];have:=st_waiters v 0 aC aC;simpa[KK] using this
  have c1:zqg.wrap (v:Int)=(v:Int):=by rw[zpB];omega
  have w1:Ri.wrap (S+1)=S+1:=by rw[zf9,<-hS];simp only[KK];omega
  have q3:decide ((v:Int)<0)=false:=decide_eq_false aC;have q4:decide (0<(v:Int))=true:=decide_eq_true aC;have q5:((v:Int)==0)=false:=r9;have q6:decide ((v:Int)=0)=false:=decide_eq_false aC;rw[hS] at hw;refine⟨_,zfI (v:=S) rfl rfl rA rfl H.f_loadU64 (zdA L) (zey L) (zfC L) .u64 (zd2 L) rfl hw.cellSt,rfl,λh0=>absurd h0 aC,λ_=>?_⟩;clear hw;refine b6.goes (ph:=.w2 v) trivial 60 ?_
  walk_nrm
  iterate 3 (first|u_c dF kf.rely hF|u_c xC kf.rely hF|u_op kf.rely hF)
  u_leave1 H.f_uLoad kf.rely hF
  iterate 22 (first|u_c dF kf.rely hF|u_c dU kf.rely hF|u_reg kf.rely hF|u_op kf.rely hF)
  u_cnd false kf.rely hF
  iterate 9 (first|u_c dU kf.rely hF|u_reg kf.rely hF|u_c pG kf.rely hF|u_op kf.rely hF)
  u_call H.f_uCas (nm_uCas L) uCasFn kf.rely hF
  iterate 11 (first|u_c dF kf.rely hF|u_c dU kf.rely hF|u_reg kf.rely hF|u_op kf.rely hF)
  refine qJ (λzgW Qv=>?_);replace hF:=kf.rely hF Qv;clear Qv;refine b6.mk rfl (.inr ?_);intro eU s v' J6 hw;replace hF:=kf.rely hF s;clear s;refine⟨λe=>?_,λe=>?_⟩
  .
   subst e;have z:Mt.st v' 1=.int .u64 (S+1):=by simp[Mt.st,hS]
   rw[hS] at hw;rw[z];refine⟨_,(stepG_cas_hit (v:=S) (n:=S+1) rfl rfl rA rfl H.f_casU64 (x_casU64_n L) (x_casU64_b L) (x_casU64_x L) .u64 (x_casU64_f L) rfl rfl rfl hw.cellSt (hw.thaw 0)).trans J2,rfl,?_⟩;refine b6.goes (ph:=.w3) trivial 70 ?_;replace hF:F (eU.setCell (stA Wg) (.int .u64 (S+1)))/\WgLive L.tWg Wg (eU.setCell (stA Wg) (.int .u64 (S+1))):=⟨kf.wg _ _ _ rfl hF.1,⟨_,_,hw.setSt _⟩⟩;clear hw
   walk_nrm
   iterate 3 (first|u_c dF kf.rely hF|u_c xC kf.rely hF|u_op kf.rely hF)
   u_leave1 H.f_uCas kf.rely hF
   iterate 15 (first|u_c dF kf.rely hF|u_c dU kf.rely hF|u_reg kf.rely hF|u_cond true kf.rely hF|u_op kf.rely hF)
   u_conv H.underlying_tPU32 H.room_tU32 (WgLive.cell1 hF.2).choose_spec kf.rely hF
   refine qJ (λzMy zqG=>?_);replace hF:=kf.rely hF zqG;clear zqG;refine b6.mark (ph:=.w3) trivial rfl (λeU s=>zdf .write aQ rfl rfl rA rfl H.f_raceWrite (x_raceWrite_n L) (x_raceWrite_b L) (x_raceWrite_x L) (x_raceWrite_f L) (ad:=⟨Wg,1,none⟩) (by simp[wH])) ⟨rfl,rfl⟩ (λeU s=>?_);replace hF:=kf.rely hF s;clear s;rw[show n7 1 #[oL (.write ⟨Wg,1,none⟩)]=1 from rfl]
   walk_nrm
   refine b6.goes (ph:=.w3) trivial 70 ?_
   iterate 23 (first|u_c dF kf.rely hF|u_c dU kf.rely hF|u_reg kf.rely hF|u_c pG kf.rely hF|u_cond false kf.rely hF|u_op kf.rely hF|u_skip kf.rely hF)
   refine qJ (λzgW Ar=>?_);replace hF:=kf.rely hF Ar;clear Ar;refine b6.mk rfl (.inr ⟨rfl,λJh s=>?_⟩);replace hF:=kf.rely hF s;clear s;refine⟨λ⟨st,hw⟩=>stepG_semacquire_wait rfl rfl rfl H.f_semacquire (zpd L) (zwk L) (zwU L) (zyt L) zlX hw.cellSm,λhf=>?_⟩;refine⟨_,(stepG_semacquire (n:=1) rfl rfl rA rfl H.f_semacquire (zpd L) (zwk L) (zwU L) (zyt L) zlX hf.cellSm rA (hf.thaw 1)).trans J2,rfl,?_⟩;refine b6.goes (ph:=.w4) trivial 60 ?_;replace hF:F (Jh.setCell (smA Wg) (.int .u32 0))/\WgLive L.tWg Wg (Jh.setCell (smA Wg) (.int .u32 0)):=⟨kf.wg _ _ _ rfl hF.1,⟨_,_,hf.setSm 0⟩⟩;clear hf
   walk_nrm
   iterate 6 (first|u_c dF kf.rely hF|u_c dU kf.rely hF|u_reg kf.rely hF|u_op kf.rely hF)
   u_call H.f_uLoad (ziH L) uLoadFn kf.rely hF
   iterate 9 (first|u_c dF kf.rely hF|u_c dU kf.rely hF|u_reg kf.rely hF|u_op kf.rely hF)
   refine qJ (λzgW zfr=>?_);replace hF:=kf.rely hF zfr;clear zfr;refine b6.mk rfl (.inr λUu s hw=>?_);replace hF:=kf.rely hF s;clear s;refine⟨_,zfI (v:=0) rfl rfl rA rfl H.f_loadU64 (zdA L) (zey L) (zfC L) .u64 (zd2 L) rfl hw.cellSt,rfl,?_⟩;clear hw;refine b6.goes (ph:=.w5) trivial 60 ?_
   walk_nrm
   iterate 3 (first|u_c dF kf.rely hF|u_c xC kf.rely hF|u_op kf.rely hF)
   u_leave1 H.f_uLoad kf.rely hF
   iterate 7 (first|u_c dF kf.rely hF|u_c dU kf.rely hF|u_reg kf.rely hF|u_cond true kf.rely hF|u_op kf.rely hF)
   refine qJ (λZ1 H0=>?_);replace hF:=kf.rely hF H0;clear H0;refine b6.mark (ph:=.w5) trivial rfl (λeU s=>zcw .enable aQ rfl rfl rA rfl H.f_enable (zgG L) (zhg L) (zfo L) (zgn L)) trivial (λeU s=>?_);replace hF:=kf.rely hF s;clear s;rw[show n7 1 #[oL .enable]=0 from rfl];refine b6.goes (ph:=.w5) trivial 30 ?_
   walk_nrm
   iterate 3 (first|u_c dF kf.rely hF|u_reg kf.rely hF|u_op kf.rely hF)
   u_conv H.underlying_tWgP H.room_tWg (WgLive.cell0 hF.2).choose_spec kf.rely hF
   refine qJ (λzD3 zae=>?_);replace hF:=kf.rely hF zae;clear zae;refine b6.mk rfl (.inr ⟨rfl,λTe s hD=>?_⟩);replace hF:=kf.rely hF s;clear s;have hX:AtX Te Te:=⟨Te.drawn,rfl⟩;refine⟨_,zdf .acquire aQ rfl rfl rA rfl H.f_acquire (x_acquire_n L) (x_acquire_b L) (x_acquire_x L) (x_acquire_f L) zlU,rfl,?_⟩;refine N6 30 _ _ ?_
   walk_nrm
   iterate 9 (first|u_c dF xP hX|u_c dU xP hX|u_reg xP hX|u_c pG xP hX|u_cond false xP hX|u_c xC xP hX|u_op xP hX)
   u_leave0 H.f_wait xP hX
   exact qJ (λzzQ h=>by obtain⟨znE,rfl⟩:=xP hX h;exact hT _ hF.1 hF.2 hD znE)
  .
   refine⟨_,stepG_cas_miss (v:=(v':Int)*KK) (old:=S) (n:=S+1) rfl rfl rA rfl H.f_casU64 (x_casU64_n L) (x_casU64_b L) (x_casU64_x L) .u64 (x_casU64_f L) rfl rfl rfl hw.cellSt (hw.thaw 0) (by rw[<-hS];simp only[KK];omega),rfl,?_⟩;clear hw;refine b6.goes (ph:=.w1 v) trivial 20 ?_
   walk_nrm
   iterate 3 (first|u_c dF kf.rely hF|u_c xC kf.rely hF|u_op kf.rely hF)
   u_leave1 H.f_uCas kf.rely hF
   iterate 5 (first|u_c dF kf.rely hF|u_c pG kf.rely hF|u_cond false kf.rely hF|u_c ziD kf.rely hF|u_c znk kf.rely hF)
   exact qJ (λJh Ar=>hC v bV _ _ ⟨_,rfl,aQ,aQ,kf.rely hF Ar⟩)
def zHh (H:Zc P L)(kf:G0 L.tWg Wg τ F)(N6:∀(n:Nat) g w,Goes P true AtRel DC0 Fin n g w->Fin g w)
 (hT:∀w,F w->WgLive L.tWg Wg w->zct A w->∀d,Fin (G (b₀.at (a₀.put ((ops₀[i₀]?).bind (·.dst)) (.tuple #[])) (.inRegion ops₀ rest₀::k₀)) cs) (w.at d)):
 ∀b g w,AnchWN L F Wg (b₀.at a₀ (.inRegion ops₀ (i₀::rest₀)::k₀)) cs g w->b6 P L.tWg Wg A Fin true (.w1 b) 1 τ g w:=by
 intro b
 induction b using zh7 with
 |ind b ih=>exact zo4 H kf N6 hT (ok:=λv=>v<b) trivial (λg w hr h=>b6.mk hr (.inr h)) ih
def zai (H:Zc P L)(pT:A.act l=.wait)(kf:G0 L.tWg Wg τ F)(N6:∀(n:Nat) g w,Goes P true AtRel DC0 Fin n g w->Fin g w)
 (hT:∀w,F w->WgLive L.tWg Wg w->zct A w->∀d,Fin (G (b₀.at (a₀.put ((ops₀[i₀]?).bind (·.dst)) (.tuple #[])) (.inRegion ops₀ rest₀::k₀)) cs) (w.at d))
 (w:aE) (hF:F w/\WgLive L.tWg Wg w):b6 P L.tWg Wg A Fin true (.usr l) 0 τ (G ((base L.wait).at ⟨#[.pointer (some ⟨Wg,0,none⟩),aA,aA,aA,aA,aA,aA,aA,aA,aA,aA,aA,aA,aA,aA,aA,aA,aA,aA,aA,aA,aA,aA,aA,aA,aA,aA,aA,aA,aA,aA,aA,aA,aA,aA,aA,aA,aA,aA,aA,aA,aA,aA,aA,aA,aA,aA,aA,aA,aA,aA,aA,aA,aA,aA,aA,aA,aA,aA,aA,aA,aA,aA,aA,aA,aA,aA,aA,aA,aA,aA,aA,aA,aA,aA,aA,aA,aA,aA,aA,aA,aA,aA,aA],[]⟩ [.code (znq L)]) (b₀.at a₀ (.inRegion ops₀ (i₀::rest₀)::k₀)::cs)) w:=by
 have aY:∀g w,AnchWN L F Wg (b₀.at a₀ (.inRegion ops₀ (i₀::rest₀)::k₀)) cs g w->b6 P L.tWg Wg A Fin true (.usr l) 1 τ g w:=λg w h=>by
  refine zo4 H kf N6 hT (ok:=λ_=>True) (ph:=.usr l) trivial (λg w hr h=>b6.usr hr ?_) (λv _=>zHh H kf N6 hT v) g w h;unfold mF;rw[pT];exact λaI s v hv hw=>h aI s v trivial hv hw
 lib_facts
 simp only[znq,waitFn,zG];refine b6.goes (ph:=.usr l) trivial 3 ?_
 iterate 3 (first|u_c dU kf.rely hF|u_reg kf.rely hF|u_cond true kf.rely hF)
 refine qJ (λaI vS=>?_);replace hF:=kf.rely hF vS;clear vS;refine b6.mark (ph:=.usr l) trivial rfl (λeU s=>zcw .disable aQ rfl rfl rA rfl H.f_disable (zmZ L) (zhM L) (zmY L) (zlC L)) trivial (λeU s=>?_);replace hF:=kf.rely hF s;clear s;rw[show n7 0 #[oL .disable]=1 from rfl]
 walk_nrm
 refine b6.goes (ph:=.usr l) trivial 3 ?_
 iterate 3 (first|u_c dF kf.rely hF|u_c zea kf.rely hF|u_c zhO kf.rely hF)
 exact qJ (λJh Qv=>aY _ _ ⟨_,rfl,aQ,aQ,kf.rely hF Qv⟩)
end
end Go.Mt
namespace Go.Mt
open Go.Conc Go.Tt
def Jb:Nat->aF->Bool
 |0,_=>false
 |n+1,v=>match v with
  | .bool _| .int _ _| .string _| .nilFunc| .nilIface| .pointer none| .slice none _ _| .map none| .chan none=>true
  | .agg xs| .tuple xs=>xs.all (Jb n)
  |_=>false
variable {S:aO->Prop}
def zFt {K R:Pr}:∀(n:Nat) (v:aF),Jb n v=true->VR S K R v v:=by
 intro n
 induction n with
 |zero=>intro v h;cases h
 |succ n ih=>
  intro v h;have arr:∀xs:Array aF,xs.all (Jb n)=true->bK S K R xs xs:=λxs hx=>⟨rfl,λi a b h1 h2=>by
   rw[h1] at h2;obtain rfl:=cE h2;rw[zkf] at hx;exact ih a (hx a (Uo h1))⟩
  cases v with
  |bool b=>exact .bool b
  |int k m=>exact .int k m
  |string s=>exact .string s
  |nilFunc=>exact .nilFunc
  |nilIface=>exact .nilIface
  |pointer a=>cases a with|none=>exact .pointer .none|some a=>simp[Jb] at h
  |slice a m c=>cases a with|none=>exact .slice .none|some a=>simp[Jb] at h
  |map a=>cases a with|none=>exact .map .none|some a=>simp[Jb] at h
  |chan a=>cases a with|none=>exact .chan .none|some a=>simp[Jb] at h
  |agg xs=>exact .agg rfl (arr xs (by simpa[Jb] using h)).2
  |tuple xs=>exact .tuple rfl (arr xs (by simpa[Jb] using h)).2
  |_=>simp[Jb] at h
def uT (v:aF):Prop:=∀(S:aO->Prop) (K R:Pr),VR S K R v v
variable {z:aF}
def uT.cells (h:uT z):∀x∈z.cells,uT x:=λx hx S K R=>by
 obtain⟨i,hi,rfl⟩:=ztG.1 hx;exact(h S K R).cells.2 i _ _ (mK hi) (mK hi)
def uT.agg {xs:Array aF}(h:∀x∈xs,uT x):uT (.agg xs):=λS K R=>.agg rfl λi v v' h1 h2=>by
 rw[h1] at h2;obtain rfl:=cE h2;exact h v (Uo h1) S K R
def zil (info:aM->Option wW):Prop:=∀t i z,info t=some i->i.zero=some z->uT z
def zBr {α β:Type}{P:β->Prop}{f:α->β->Option (ForInStep β)}(hf:∀a b r,P b->f a b=some r->P (match r with| .yield b=>b| .done b=>b)):∀(l:List α) (b b':β),P b->forIn l b f=some b'->P b':=by
 intro l
 induction l with
 |nil=>intro b b' hb h;simp only[List.forIn_nil,pure,fT] at h;exact h▸hb
 |cons a l ih=>
  intro b b' hb h;simp only[List.forIn_cons,bind,Df] at h;obtain⟨r,h1,h2⟩:=h;have:=hf a b r hb h1
  cases r with
  |yield c=>exact ih c b' this h2
  |done c=>simp only[pure,fT] at h2;exact h2▸this
variable {info:aM->Option wW}{fs:Array Field}{i:wW}
def zEO (hI:zil info)(h:zt8 info fs=some i)(hz:i.zero=some z):uT z:=by
 unfold zt8 at h;simp only[bind,pure,Df] at h;obtain⟨a,h1,h2⟩:=h;rw[<-Array.forIn_toList] at h1;have key:∀xs,a.2.2.2.2.2.2.2.1=some xs->∀x∈xs,uT x:=by
  refine zBr (P:=λs=>∀xs,s.2.2.2.2.2.2.2.1=some xs->∀x∈xs,uT x) (λf s r hP h=>?_) _ _ _ (λxs hx=>by simp only[fT] at hx;subst hx;simp) h1;simp only[Df] at h;obtain⟨j,hj,h⟩:=h;have key:∀xs,(s.2.2.2.2.2.2.2.1.bind λa=>j.zero.bind λb=>some (a++b.cells))=some xs->∀x∈xs,uT x:=by
   intro xs hx;simp only[Df,fT] at hx;obtain⟨u,h3,v,h4,rfl⟩:=hx;intro x hm;rcases Array.mem_append.1 hm with hm|hm
   .exact hP u h3 x hm
   .exact(hI _ j v hj h4).cells x hm
  repeat' (first|split at h|(simp only[Df] at h;obtain⟨_,h0,h⟩:=h))
  all_goals first
   |(cases h0;done)
   |(simp only[fT] at h;subst h;exact key)
   |(simp only[fT] at h;subst h;intro xs hx;cases hx)
 split at h2<;>(simp only[fT] at h2;subst h2;simp only at hz;obtain⟨xs,h3,rfl⟩:=xK.1 hz;exact uT.agg (key xs h3))
def zCu (hI:zil info){d:TypeDesc}(h:zp6 info d=some i)(hz:i.zero=some z):uT z:=by
 have hw:∀(d:TypeDesc) (s:String) (v:aF) (b:Bool) (n:Nat),uT v->∀z,(zom d s v b n).zero=some z->uT z:=λd s v b n hv z hz=>by
  simp only[zom,fT] at hz;exact hz▸hv
 have p0:uT (.pointer none):=λ_ _ _=>.pointer .none;have s0:uT (.slice none 0 0):=λ_ _ _=>.slice .none;have m0:uT (.map none):=λ_ _ _=>.map .none;have c0:uT (.chan none):=λ_ _ _=>.chan .none;have f0:uT .nilFunc:=λ_ _ _=>.nilFunc;unfold zp6 at h
 cases d with
 |pointer e=>
  simp only[bind,pure,Df] at h;obtain⟨j,_,h⟩:=h;split at h
  .cases h
  .split at h
   .cases h
   .simp only[Df,fT] at h
    obtain⟨_,_,rfl⟩:=h;exact hw _ _ _ _ _ p0 z hz
  .simp only[Df,fT] at h
   obtain⟨_,_,rfl⟩:=h;exact hw _ _ _ _ _ p0 z hz
 |slice e=>
  simp only[bind,pure,Df,fT] at h;obtain⟨_,_,_,_,rfl⟩:=h;exact hw _ _ _ _ _ s0 z hz
 |map k e=>
  simp only[bind,pure,Df,fT] at h;obtain⟨_,_,_,_,_,_,_,_,rfl⟩:=h;exact hw _ _ _ _ _ m0 z hz
 |chan dir e=>
  simp only[bind,pure,Df,fT] at h;obtain⟨_,_,_,_,rfl⟩:=h;exact hw _ _ _ _ _ c0 z hz
 |func ps rs v=>
  simp only[bind,pure,Df,fT] at h;obtain⟨_,_,rfl⟩:=h;exact hw _ _ _ _ _ f0 z hz
 |array n e=>
  simp only[bind,pure,Df,fT] at h;obtain⟨j,hj,_,_,rfl⟩:=h;simp only at hz;split at hz
  .cases hz
  .split at hz
   .simp only[fT] at hz;subst hz;exact uT.agg aQ
   .obtain⟨u,hu,rfl⟩:=xK.1 hz
    refine uT.agg λx hx=>?_;simp only[Array.mem_flatten,Array.mem_replicate] at hx;obtain⟨xs,⟨_,rfl⟩,hx⟩:=hx;exact(hI _ j u hj hu).cells x hx
 |struct fs=>exact zEO hI h hz
 |_=>cases h
def S8 (p:bS):Bool:=(gN p.types.size).all λt=>match p.info? t with|some i=>(match i.zero with|some z=>Jb 12 z|none=>true)|none=>true
def zny:List ResultVar->Bool
 |[]=>true
 |[_]=>true
 |[_,_]=>true
 |[_,_,_]=>true
 |[_,_,_,_]=>true
 |_=>false
variable {l:List ResultVar}
def zFP (h:zny l=true):Cw l:=by
 unfold zny at h;split at h
 .exact .inl rfl
 .exact .inr (.inl ⟨_,rfl⟩)
 .exact .inr (.inr (.inl ⟨_,_,rfl⟩))
 .exact .inr (.inr (.inr (.inl ⟨_,_,_,rfl⟩)))
 .exact .inr (.inr (.inr (.inr ⟨_,_,_,_,rfl⟩)))
 .cases h
def fnFit (p:bS)(fs gs:aO->Bool)(f:aO):Bool:=
 match p.funcs[f]? with
 |some fn=>!(fn.name== "runtime.NumGoroutine")&&zny fn.results.toList&&(match fn.body with|some c=>oG p ⟨fs,gs,true⟩ c|none=>false)
 |none=>false
variable {p:bS}{f:aO}
theorem fnFit_ok {fs gs:aO->Bool}(h:fnFit p fs gs f=true):∃fn c,p.funcs[f]? =some fn/\(fn.name== "runtime.NumGoroutine")=false/\fn.body=some c/\oG p ⟨fs,gs,true⟩ c=true/\Cw fn.results.toList:=by
 unfold fnFit at h
 cases hf:p.funcs[f]? with
 |none=>rw[hf] at h;cases h
 |some fn=>
  rw[hf] at h;simp only[fV,zfl] at h
  cases hb:fn.body with
  |none=>rw[hb] at h;cases h.2
  |some c=>rw[hb] at h;exact⟨fn,c,rfl,h.1.1,hb,h.2,zFP h.1.2⟩
variable {t:aM}
def zsQ (h:S8 p=true)(ht:t<p.types.size)(hi:p.types[t]? =some i)(hz:i.zero=some z):uT z:=by
 unfold S8 at h;rw[tK] at h;have:=h t (Bd.2 ht);have e:p.info? t=some i:=by show zhZ p.toTables t=some i;unfold zhZ;rw[if_pos ht];exact hi
 rw[e] at this;simp only[hz] at this;exact λS K R=>zFt 12 z this
def zzS (h:S8 p=true):∀n,zil (zuq p.toTables n):=by
 intro n
 induction n with
 |zero=>intro t i z hi;cases hi
 |succ n ih=>
  intro t i z hi hz;unfold zuq at hi;split at hi
  .next ht=>exact zsQ h ht hi hz
  .obtain⟨d,_,hd⟩:=Df.1 hi
   exact zCu ih hd hz
def zxn (h:S8 p=true){K R:Pr}(hi:p.info? t=some i)(hz:i.zero=some z):VR S K R z z:=by
 have gT:=hi;unfold zhZ at gT;split at gT
 .next ht=>exact zsQ h ht gT hz S K R
 .exact zzS h Made.depth t i z gT hz S K R
def pA (l:List Nat)(f:aO):Bool:=l.contains f
def Oh {l:List Nat}(h:pA l f=true):f∈l:=by simpa[pA] using h
def zpV {gl fl:List Nat}(hz:S8 p=true)(h:gl.all (fnFit p (pA fl) (pA gl))=true)(hd:fl.all (λf=>gl.contains f)=true):vM (PS p (pA gl)) (pA fl) where
 zero:=λK R t i z hi Ga=>zxn hz hi Ga
 fn:=λf hf _=>by
  obtain⟨fn,c,h1,h2,h3,h4,_⟩:=fnFit_ok (tK.1 h f (Oh hf));exact⟨fn,c,h1,h1,h2,h3,h4⟩
 opq:=λf _ ho=>by cases ho
 low:=λf ho=>by cases ho
 dyn:=λ_ f hf=>tK.1 hd f (Oh hf)
 guard:=λt=>rfl
 res:=λf hf _ fn xD=>by
  obtain⟨fn',c,h1,h2,h3,h4,h5⟩:=fnFit_ok (tK.1 h f (Oh hf));have zC:=h1;rw[zC] at xD;obtain rfl:=cE xD;exact h5
 follows:=rfl
 none:=λ_=>rfl
def zf1 (p:bS)(fs gs:aO->Bool)(f:aO):Bool:=
 match p.funcs[f]? with
 |some fn=>!(fn.name== "runtime.NumGoroutine")&&(match fn.body with|some c=>!(oG p ⟨fs,gs,true⟩ c)|none=>false)
 |none=>false
def lv_of {ol al gl fl:List Nat}(hz:S8 p=true)(h1:gl.all (fnFit p (pA fl) (pA gl))=true)(h2:al.all (λf=>ol.contains f||fnFit p (pA fl) (pA al) f)=true)(h3:ol.all (zf1 p (pA fl) (pA gl))=true)(h4:ol.all (zf1 p (pA fl) (pA al))=true)(hd:fl.all (λf=>gl.contains f)=true)(z8:fl.all (λf=>al.contains f)=true):
 Lv p (pA ol) (pA al) (pA gl) (pA fl) where
 fit:={
  zero:=λK R t i z hi Ga=>zxn hz hi Ga
  fn:=λf hf ho=>by
   have:=tK.1 h2 f (Oh hf);have uZ:ol.contains f=false:=ho;rw[uZ,zrZ] at this;obtain⟨fn,c,h1,h2,h3,h4,_⟩:=fnFit_ok this;exact⟨fn,c,h1,h1,h2,h3,h4⟩
  opq:=λf _ ho=>by
   have:=tK.1 h4 f (Oh ho);unfold zf1 at this
   cases hf:p.funcs[f]? with
   |none=>rw[hf] at this;cases this
   |some fn=>
    rw[hf] at this;simp only[fV,zfl] at this
    cases hb:fn.body with
    |none=>rw[hb] at this;cases this.2
    |some c=>exact⟨fn,fn,c,c,rfl,rfl,this.1,this.1,hb,hb⟩
  low:=λf ho=>by cases ho
  dyn:=λ_ f hf=>tK.1 z8 f (Oh hf)
  guard:=λt=>rfl
  res:=λf hf ho fn xD=>by
   have:=tK.1 h2 f (Oh hf);have uZ:ol.contains f=false:=ho;rw[uZ,zrZ] at this;obtain⟨fn',c,h1,h2,h3,h4,h5⟩:=fnFit_ok this;have zC:(PL p (pA ol) (pA al)).c.funcs[f]? =some fn':=h1;rw[zC] at xD;obtain rfl:=cE xD;exact h5
  follows:=rfl}
 fit₁:=zpV hz h1 hd
 nofit:=λf ho=>by
  have:=tK.1 h3 f (Oh ho);unfold zf1 at this
  cases hf:p.funcs[f]? with
  |none=>rw[hf] at this;cases this
  |some fn=>
   rw[hf] at this;simp only[fV,zfl] at this
   cases hb:fn.body with
   |none=>rw[hb] at this;cases this.2
   |some c=>rw[hb] at this;exact⟨fn,c,rfl,hb,this.1,by simpa using this.2⟩
end Go.Mt
namespace Go.Mt
open Go.Conc Go.Tt
open Go.ConcR (KK wgBlock WgAt stA smA rd wr DC0)
section
variable {p:bS}
def wF (p:bS):Frame:={(default:dH) with fn:=p.funcs.size,defers:=[],mode:=.panicking [goexitEntry]}
variable {f:aO}{fn:Ub}
def zn3 {c:Code}{cap args:Array aF}(hf:p.funcs[f]? =some fn)(hn:(fn.name== "runtime.NumGoroutine")=false)(hb:fn.body=some c)(w:aE):
 stepG p false (born p {target:=.fn (.func f) cap,args:=args}) w=.go (G ((baseD f).at ⟨(args++cap)++nI (fn.ntmps-(args++cap).size) aA,[]⟩ [.code c]) [wF p]) w #[]:=by
 have sU:¬fn.name= "runtime.NumGoroutine" :=by simpa using hn
 simp[born,stepG,unwind,callDeferred,invoke,callFunc,hf,sU,hb,seen,B7,G,Eg,dH.at,baseD,wF]
def zzP (hf:p.funcs[f]? =some fn)(hr:fn.results=#[])(T:Array aF)(todo:List eE):QuitsD p 2 0 (G {(baseD f).at ⟨T,[]⟩ todo with mode:=.returning} [wF p]):=by
 refine zux (g':=G (wF p) []) rfl (λw=>?_) ?_
 .simp[G,stepG,unwind,doReturn,results,dH.at,baseD,wF,hf,hr,seen,B7,goexitEntry]
 refine zux (g':={G (wF p) [] with status:=.finished}) rfl (λw=>?_) ⟨rfl,rfl⟩;simp[G,stepG,unwind,wF,goexitEntry,dH.catches];rfl
end
section
variable [zfR]{Lk:zfX}
open Go.Conc.Lib Go.ConcR.Gen
def G0.triv (ty:aM)(Wg:Nat)(τ:cF):G0 ty Wg τ (λ_=>True):=⟨λ_ _ _ _=>trivial,λ_ _ _ _ _=>trivial⟩
end
end Go.Mt
namespace Go.Mt
open Go.Conc Go.Tt
open Go.ConcR (KK wgBlock WgAt stA smA rd wr)
section
variable {S:aO->Prop}{K K' R R':Pr}{G:Gp}{St St':Nat->Prop}{w W:aE}
def Pr.or_le {K K' R R':Pr}(hK:K.le K')(hR:R.le R'):(R.or K).le (R'.or K'):=λa b x=>x.imp (hR a b) (hK a b)
def ziY (hK:K.le K'){v v':aF}(x:VR S K R v v'):VR S K' R v v':=by
 induction x with
 |bool b=>exact .bool b
 |int k n=>exact .int k n
 |string s=>exact .string s
 |nilFunc=>exact .nilFunc
 |nilIface=>exact .nilIface
 |pointer x=>exact .pointer x
 |slice x=>exact .slice x
 |map x=>exact .map x
 |chan x=>exact .chan (x.mono (Pr.or_le hK (.refl _)))
 |func s e1 _ e2 _ i1 i2=>exact .func s e1 i1 e2 i2
 |iface _ ih=>exact .iface ih
 |agg e _ ih=>exact .agg e ih
 |tuple e _ ih=>exact .tuple e ih
 |junk h=>exact .junk h
def bK.monoK (hK:K.le K'){xs bY:Array aF}(x:bK S K R xs bY):bK S K' R xs bY:=⟨x.1,λi v v' h1 h2=>ziY hK (x.2 i v v' h1 h2)⟩
def Cq.monoK (hK:K.le K'){e e':MapEntry}(x:Cq S K R e e'):Cq S K' R e e':=by cases x with|mk a b=>exact .mk (ziY hK a) (ziY hK b)
variable {o:Obj}
def oI.monoK (hK:K.le K'){o':Obj}(x:oI S K R o o'):oI S K' R o o':=by
 cases x with
 |cells a b=>exact .cells (bK.monoK hK a) b
 |map a=>exact .map ⟨a.1,λi e e' h1 h2=>Cq.monoK hK (a.2 i e e' h1 h2)⟩
 |chan a=>exact .chan (bK.monoK hK a)
 |stringIter s p=>exact .stringIter s p
 |number a=>exact .number a
 |mapIter a=>exact .mapIter a
variable {P:dL}
def oT.monoK {fs:aO->Bool}(hK:K.le K'){m m':Fm}(x:oT P fs K R m m'):oT P fs K' R m m':=⟨x.fn,x.todo,x.ret,bK.monoK hK x.tmps,x.fit,x.infs⟩
def uG.monoK {fs:aO->Bool}(hK:K.le K'){ms ms':List Fm}(x:uG P fs K R ms ms'):uG P fs K' R ms ms':=by
 induction x with
 |nil=>exact .nil
 |cons a b _ ih=>exact .cons (oT.monoK hK a) b ih
def cT.real {W':aE}(h:cT S K R G St w W)(hk:∀a b,R a b->W'.heap[b]? =W.heap[b]?)(hs:W.heap.size<=W'.heap.size):cT S K R G St w W':=by
 refine⟨h.inj,h.inj',λa b x=>⟨(h.lt a b x).1,lC (h.lt a b x).2 hs⟩,h.low,⟨h.gle.1,eG h.gle.2 hs⟩,λa b x=>?_,h.rest,h.st,h.np,h.tb⟩;obtain⟨o,o',h1,h2,h3⟩:=h.cont a b x;exact⟨o,o',h1,(hk a b x).trans h2,h3⟩
def put (w:aE)(b:Nat)(o:Obj):World:={w with heap:=w.heap.setIfInBounds b o}
def Ee (w:aE)(o:Obj):(w.alloc o).heap[w.heap.size]? =some o:=by unfold zi6;simp
def Fp {w:aE}{a:Nat}(h:a<w.heap.size):(w.alloc o).heap[a]? =w.heap[a]? :=by unfold zi6;simp[Array.getElem?_push,zuU h]
def qR (w:aE)(o:Obj):(w.alloc o).heap.size=w.heap.size+1:=by unfold zi6;simp
def cT.pushK (h:cT S K R G St w W){N:Nat}(hN:N<W.heap.size)(hf:∀a,¬(R.or K) a N):cT S (K.add w.heap.size N) R G St (w.alloc o9) W:=by
 have aN:∀a b,R.or K a b->a≠w.heap.size:=λa b x=>zuU (h.lt a b x).1;have lift:∀a,(∃b,R.or K a b)->(w.alloc o9).heap[a]? =w.heap[a]? :=λa ⟨b,x⟩=>Fp (h.lt a b x).1;refine⟨?_,?_,?_,h.low,⟨by rw[qR];exact Nat.le_succ_of_le h.gle.1,h.gle.2⟩,λa b x=>?_,?_,λa x=>?_,h.np.push (by unfold o9;simp),h.tb⟩
 .rintro a b c (x|x|⟨rfl,rfl⟩) (y|y|⟨e,rfl⟩)
  .exact h.inj a b c (.inl x) (.inl y)
  .exact h.inj a b c (.inl x) (.inr y)
  .exact absurd e (aN a b (.inl x))
  .exact h.inj a b c (.inr x) (.inl y)
  .exact h.inj a b c (.inr x) (.inr y)
  .exact absurd e (aN a b (.inr x))
  .exact absurd rfl (aN _ c (.inl y))
  .exact absurd rfl (aN _ c (.inr y))
  .rfl
 .rintro a b c (x|x|⟨rfl,rfl⟩) (y|y|⟨rfl,e⟩)
  .exact h.inj' a b c (.inl x) (.inl y)
  .exact h.inj' a b c (.inl x) (.inr y)
  .exact absurd (e▸ .inl x) (hf a)
  .exact h.inj' a b c (.inr x) (.inl y)
  .exact h.inj' a b c (.inr x) (.inr y)
  .exact absurd (e▸ .inr x) (hf a)
  .exact absurd (.inl y) (hf b)
  .exact absurd (.inr y) (hf b)
  .rfl
 .rintro a b (x|x|⟨rfl,rfl⟩)
  .exact⟨by rw[qR];exact ztf (h.lt a b (.inl x)).1,(h.lt a b (.inl x)).2⟩
  .exact⟨by rw[qR];exact ztf (h.lt a b (.inr x)).1,(h.lt a b (.inr x)).2⟩
  .exact⟨by rw[qR];omega,hN⟩
 .obtain⟨o,o',h1,h2,h3⟩:=h.cont a b x
  exact⟨o,o',(lift a ⟨b,.inl x⟩).trans h1,h2,oI.monoK (Pr.le_add _ _ _) h3⟩
 .rintro a b (x|⟨rfl,rfl⟩) hn
  .exact(lift a ⟨b,.inr x⟩).trans (h.rest a b x hn)
  .exact Ee w o9
 .obtain⟨⟨b,y⟩,c,T,hi,h1,h2⟩:=h.st a x
  exact⟨⟨b,y⟩,c,T,hi,(lift a ⟨b,.inl y⟩).trans h1,h2⟩
end
structure IM (W0:aE)(St:Nat->Prop)(Shun:Loc->Prop)(Wg:Nat)(SS:Nat->Prop)(R:Pr)(τ:cF)(W:aE):Prop where
 kp:Kp W0 R St W
 sh:Sh W0.heap.size Shun R W
 still:τ.still=SS
 wg:Wg<W.heap.size
 own:∀b,τ.own b->b≠Wg
 rel:∀a b,R a b->b≠Wg
section
variable {L:Type}{C:Cx L}{W0:aE}{St:Nat->Prop}{Shun:Loc->Prop}{SS:Nat->Prop}
def im_ok (hC:C.I=IM W0 St Shun C.Wg SS)(aY:∀a,St a->C.St a)(vI:∀b,b<W0.heap.size->SS b):fE C:=by
 refine⟨λR τ W aV h s=>?_,λR τ W R1 W1 h ht hs=>?_⟩<;>rw[hC] at*
 .refine⟨⟨s.os.trans h.kp.os,s.tape.trans h.kp.tape,s.output.trans h.kp.output,eG h.kp.size s.size,λb hb=>(s.keep b (.inr (by rw[h.still];exact vI b hb))).trans (h.kp.block b hb),h.kp.old⟩,⟨h.sh.old,h.sh.rel,λl b hl hb=>h.sh.new l b hl (eG s.size hb)⟩,h.still,lC h.wg s.size,h.own,h.rel⟩
 .refine⟨⟨hs.os.trans h.kp.os,hs.tape.trans h.kp.tape,hs.output.trans h.kp.output,eG h.kp.size hs.size,λb hb=>?_,λa b x hb=>?_⟩,⟨h.sh.old,λa b x l hl=>?_,λl b hl hb=>h.sh.new l b hl (eG hs.size hb)⟩,h.still,lC h.wg hs.size,λb hb=>?_,λa b x=>?_⟩
  .rw[hs.keep b (lC hb h.kp.size) (λa x=>aY a (h.kp.old a b x hb))]
   exact h.kp.block b hb
  .rcases hs.new a b x with y|⟨y,_⟩
   .exact h.kp.old a b y hb
   .have:=h.kp.size;omega
  .rcases hs.new a b x with y|⟨y,_⟩
   .exact h.sh.rel a b y l hl
   .exact h.sh.new l b hl y
  .rcases hb with hb|⟨hb,_⟩
   .exact h.own b hb
   .have:=h.wg;omega
  .rcases hs.new a b x with y|⟨y,_⟩
   .exact h.rel a b y
   .have:=h.wg;omega
def zbP (W:aE)(a:Addr)(v:aF){b:Nat}(h:b≠a.block):(W.setCell a v).heap[b]? =W.heap[b]? :=(Y9 W a v).block b h
def I2 (W:aE)(a:Addr)(v:aF):(W.setCell a v).heap.size=W.heap.size:=(Y9 W a v).size
def IM.cell {R:Pr}{τ:cF}{W:aE}{Wg:Nat}(h:IM W0 St Shun Wg SS R τ W)(hW:W0.heap.size<=Wg){a:Addr}(ha:a.block=Wg)(v:aF):IM W0 St Shun Wg SS R τ (W.setCell a v):=by
 have hA:=Y9 W a v;refine⟨⟨hA.os.trans h.kp.os,hA.tape.trans h.kp.tape,hA.output.trans h.kp.output,by rw[I2];exact h.kp.size,λb hb=>(zbP W a v aC).trans (h.kp.block b hb),h.kp.old⟩,⟨h.sh.old,h.sh.rel,λl b hl hb=>h.sh.new l b hl (by rw[I2] at hb;exact hb)⟩,h.still,by rw[I2];exact h.wg,h.own,h.rel⟩
end
end Go.Mt
namespace Go.Mt
open Go.Conc Go.Tt
open Go.ConcR (KK wgBlock WgAt stA smA rd wr DC0)
section
variable {L:Type}{C:Cx L}{l:L}
variable {fn:aO}{tmps:Array aF}{k:List eE}{w:aE}{ops:Array aZ}
def BO.regs (hI:fE C){id:Nat}(is:List Nat)(hr:gN ops.size=is)(h:BO C l ⟨fn,tmps,.inRegion ops is::k,false⟩ w):BO C l ⟨fn,tmps,.code (.region id ops false)::k,false⟩ w:=BO.reg hI (by rw[hr];exact h)
def Cx.dfr (C:Cx L)(d:E8):Cx L:={C with ds:=⟨d::C.ds.ds,C.ds.kd,C.ds.ok⟩}
def fE.dfr (hI:fE C)(d:E8):fE (C.dfr d):=⟨hI.suf,hI.step⟩
variable {p:bS}{i:Nat}{rest:List Nat}{o:aZ}{d:E8}
def zB7 {main:Bool}{b:dH}{a:uA}{cs:List dH}(ho:ops[i]? =some o)(hw:dD o (dR ops a.tmps)=true)(hk:b.kind≠ .early)(zky:o.dst=none)
 (hr:(aS a.eval o).run p w=.ok (.defer d) w) (he:(aS a.eval o).events p w #[]=#[]):
 stepG p main (G (b.at a (.inRegion ops (i::rest)::k)) cs) w=.go (G (b.at ⟨a.tmps,d::a.defers⟩ (.inRegion ops rest::k)) cs) w #[]:=by
 have zN:(b.at ⟨a.tmps,d::a.defers⟩ (.inRegion ops (i::rest)::k)).finish aA=b.at ⟨a.tmps,d::a.defers⟩ (.inRegion ops rest::k):=by rw[zvV,ho];simp[zky,cC]
 have cP:(b.kind==CallKind.early)=false:=by simpa using hk
 rw[stepG_oper ho hw,<-zN];simp[stepG.apply,hr,he,G,dH.at,cP,B7,Bg]
def BO.defer (hI:fE C)(ho:ops[i]? =some o)(cD:dD o (dR ops tmps)=true)(zky:o.dst=none)
 (hx:∀R w W bQ,C.Rel R w W->bK (SF C.fs) C.K R tmps bQ->(∀x∈C.pin,bQ.getD x.1 aA=x.2)->∀aV,(aS (bH bQ C.ds.ds).eval o).run C.p aV=.ok (.defer d) aV/\(aS (bH bQ C.ds.ds).eval o).events C.p aV #[]=#[])
 (h:BO (C.dfr d) l ⟨fn,tmps,.inRegion ops rest::k,false⟩ w):BO C l ⟨fn,tmps,.inRegion ops (i::rest)::k,false⟩ w:=by
 intro R W m' τ hw hm ht hi;obtain⟨fn',bQ,yW,yL⟩:=m';obtain rfl:=hm.fn;obtain rfl:=hm.todo;obtain rfl:=hm.ret;rw[mI];refine Cx.silent rfl rfl (g':=G ((C.ds.base fn).at ⟨bQ,d::C.ds.ds⟩ (.inRegion ops rest::k)) C.base) (λaV s=>?_) λaV s=>?_
 .obtain⟨h1,h2⟩:=hx R w W bQ hw hm.tmps hm.pins aV
  exact zB7 ho (Hn (C:=C) hm.tmps cD) C.ds.ok zky h1 h2
 .have:=h R aV ⟨fn,bQ,.inRegion ops rest::k,false⟩ τ (Cx.Rel.suf (C:=C) hw ht s) ⟨rfl,rfl,rfl,hm.tmps,hm.pins⟩ ht (hI.suf _ _ _ _ hi s)
  rw[mI] at this;exact this
variable {ρ:cN->aF}
def zqd {f:aO}{zvT:Array cN}{kS:Array aM}(hop:o.op=.defer {callee:=.value (.func f),args:=zvT,argTypes:=kS})(hρ:ρ (.func f)=.func (.func f) #[] #[])(w:aE):
 (aS ρ o).run p w=.ok (.defer (dcall f (zvT.map ρ))) w/\(aS ρ o).events p w #[]=#[]:=by
 obtain⟨dst,yP,type,pos,after,guard⟩:=o;simp only at hop;subst hop;constructor
 .simp[aS,resolve,Bt,hρ,dcall,bind,xU,pure,bD]
 .simp[aS,resolve,Bt,hρ,dcall,bind,xU,pure,bD,wE,zQ]
variable {Post:aF->aE->Prop}
def zGM {Shun:Loc->Prop}:∀(n:Nat) (g:bC) (w:aE),Goes p true AtRel DC0 (λg w=>J p Post Shun w.heap.size g w) n g w->J p Post Shun w.heap.size g w:=by
 intro n
 induction n with
 |zero=>exact λg w h=>by have:=h w ⟨w.drawn,rfl⟩;exact this
 |succ n ih=>
  intro g w h;rcases h with h|⟨hs,h⟩
  .have:=h w ⟨w.drawn,rfl⟩;exact this
  .refine J.own hs λd=>?_
   obtain⟨zcu,w',es,hgo,⟨e1,e2⟩,hg⟩:=zkQ (h (w.at d) ⟨d,rfl⟩);subst e1 e2;exact⟨zcu,_,#[],_,hgo,λe he=>by simp at he,aX _,ih _ _ hg⟩
def zav {t:aM}{x:cN}{a:Addr}{v:aF}(hop:o.op=.load t x)(hx:ρ x=.pointer (some a))(zIZ:(isAgg t).run p w=.ok false w)(hc:w.cell? a=some v):(aS ρ o).run p w=.ok (.value v) w:=by
 obtain⟨dst,yP,type,pos,after,guard⟩:=o;simp only at hop;subst hop;simp[aS,Instr.loadAt,hx,go_sem,loadVar,zIZ,hc]
end
variable {p:bS}{s:Sem aF}{w':aE}{v:aF}
def run_bv {w:aE}(h:s.run p w=.ok v w'):bD p (xU s (λv=>Sem.pure (Next.value v))) w=.ok (.value v) w':=by rw[rK,h];rfl
def ev_bv {w:aE}{es fA:Array oO}(h:s.run p w=.ok v w')(he:s.events p w es=fA):wE p (xU s (λv=>Sem.pure (Next.value v))) w es=fA:=by rw[Sk,h,Qx,he];rfl
section
variable {p:bS}{Post:aF->aE->Prop}{Shun:Loc->Prop}
variable {B:Nat}
def J.sil {g g':bC}{w:aE}(hg:g.status=.running)(aY:∀w,stepG p true g w=.go g' w #[])(h:∀d,J p Post Shun B g' (w.at d)):∀d,J p Post Shun B g (w.at d):=λd=>
 J.own hg λd'=>⟨g',w.at d',#[],B,aY _,λe he=>by simp at he,aX _,h d'⟩
def J.opq {b:dH}{a:uA}{ops:Array aZ}{i:Nat}{rest:List Nat}{k:List eE}{cs:List dH}{w w':aE}{o:aZ}{v:aF}(ho:ops[i]? =some o)(hw:dD o (dR ops a.tmps)=true)(hk:b.kind≠ .early)
 (hr:∀d,(aS a.eval o).run p (w.at d)=.ok (.value v) (w'.at d)) (he:∀d,∀e∈(aS a.eval o).events p (w.at d) #[],False)
 (h:∀d,J p Post Shun B (G (b.at (a.put o.dst v) (.inRegion ops rest::k)) cs) (w'.at d)):∀d,J p Post Shun B (G (b.at a (.inRegion ops (i::rest)::k)) cs) (w.at d):=λd=>
 J.own rfl λd'=>⟨_,w'.at d',wL p b.fn a o (w.at d'),B,stepG_value ho hw hk (hr d'),λe hx=>(he d' e (zce hx)).elim,aX _,h d'⟩
end
end Go.Mt
namespace Go.Mt
open Go.Conc Go.Tt
structure Blk where
 rb:Nat
 off:Nat
 cs:Array aF
 T:aM
 fz:Nat×Nat
def Mh (v:aF):Prop:=(∃k n,v=.int k n)\/(∃s,v=.string s)\/∃b,v=.bool b
inductive wD:aF->Prop
 |bool (b:Bool):wD (.bool b)
 |int (k:IntKind) (n:Int):wD (.int k n)
 |string (s:ByteArray):wD (.string s)
 |nilFunc:wD .nilFunc
 |nilIface:wD .nilIface
 |agg {xs:Array aF}:(∀(i:Nat) (v:aF),xs[i]? =some v->wD v)->wD (.agg xs)
 |tuple {xs:Array aF}:(∀(i:Nat) (v:aF),xs[i]? =some v->wD v)->wD (.tuple xs)
def thaw (w:aE):Option Blk->aE
 |none=>w
 |some b=>put w b.rb (.cells b.cs b.T b.fz)
section
variable {S:aO->Prop}{K R:Pr}{G:Gp}{St:Nat->Prop}{w W W4:aE}{A:Option Addr}{src:Option Blk}
abbrev P0:Pr:=λ_ _=>False
def stC (w:aE)(a:Nat):Prop:=a=w.heap.size+1\/a=w.heap.size+2\/a=w.heap.size+3
end
section
variable {L:Type}{C:Cx L}{W0:aE}{St:Nat->Prop}{Shun:Loc->Prop}{SS:Nat->Prop}
structure IMX (W0:aE)(St:Nat->Prop)(Shun:Loc->Prop)(Wg:Nat)(SS:Nat->Prop)(R0:Pr)(Fz:Nat->Prop)(Wf:aE)(R:Pr)(τ:cF)(W:aE):Prop where
 im:IM W0 St Shun Wg SS R τ W
 le:R0.le R
 fz:∀b,Fz b->b<W.heap.size/\W.heap[b]? =Wf.heap[b]? /\¬τ.own b/\b≠Wg
structure IX (ty:aM)(Wg:Nat)(I:Pr->cF->aE->Prop):Prop where
 suf:∀R τ W aV,I R τ W->bU ty Wg τ W aV->I R τ aV
 cell:∀R τ W a v,I R τ W->a.block=Wg->I R τ (W.setCell a v)
 at_:∀R τ W d,I R τ W->I R τ (W.at d)
 rel:∀R τ W,I R τ W->∀a b,R a b->b≠Wg
def yS (ty:aM)(Wg:Nat)(I:Pr->cF->aE->Prop):Pr->cF->aE->Prop:=λR τ W=>I R τ W/\WgLive ty Wg W
variable {R0:Pr}
def zqt {ty:aM}{W0:aE}{St:Nat->Prop}{Shun:Loc->Prop}{Wg:Nat}{SS:Nat->Prop}{Fz:Nat->Prop}{Wf:aE}(vI:∀b,b<W0.heap.size->SS b)(hF:∀b,Fz b->SS b)(nO:W0.heap.size<=Wg):IX ty Wg (IMX W0 St Shun Wg SS R0 Fz Wf):=by
 refine⟨λR τ W aV h s=>?_,λR τ W a v h ha=>?_,λR τ W d h=>?_,λR τ W h=>h.im.rel⟩
 .have h0:fE (L:=Unit) ⟨default,λ_=>false,λ_=>false,ty,Wg,⟨λ_=>.wait,λ_ _=>True,λ_=>false,λ_=>True,λ_ _=>True,λ_ _=>[]⟩,λ_ _=>True,true,[],.nil,λ_ _=>False,λ_=>True,IM W0 St Shun Wg SS,[],none,λ_ h=>by cases h⟩:=im_ok rfl (λ_ _=>trivial) vI
  refine⟨h0.suf R τ W aV h.im s,h.le,λb hb=>?_⟩;obtain⟨f1,f2,f3,f4⟩:=h.fz b hb;exact⟨lC f1 s.size,(s.keep b (.inr (by rw[h.im.still];exact hF b hb))).trans f2,f3,f4⟩
 .refine⟨IM.cell h.im nO ha v,h.le,λb hb=>?_⟩
  obtain⟨f1,f2,f3,f4⟩:=h.fz b hb;exact⟨by rw[I2];exact f1,(zbP W a v (by rw[ha];exact f4)).trans f2,f3,f4⟩
 .exact⟨⟨⟨h.im.kp.os,h.im.kp.tape,h.im.kp.output,h.im.kp.size,h.im.kp.block,h.im.kp.old⟩,⟨h.im.sh.old,h.im.sh.rel,h.im.sh.new⟩,h.im.still,h.im.wg,h.im.own,h.im.rel⟩,h.le,h.fz⟩
def imx_ok {Fz:Nat->Prop}{Wf:aE}(hC:C.I=yS C.ty C.Wg (IMX W0 St Shun C.Wg SS R0 Fz Wf))(aY:∀a,St a->C.St a)(vI:∀b,b<W0.heap.size->SS b)(hF:∀b,Fz b->SS b)(nO:W0.heap.size<=C.Wg):fE C:=by
 have h0:=im_ok (C:={C with I:=IM W0 St Shun C.Wg SS}) rfl aY vI;have hx:=zqt (ty:=C.ty) (St:=St) (Shun:=Shun) (R0:=R0) (Wf:=Wf) vI hF nO;refine⟨λR τ W aV h s=>?_,λR τ W R1 W1 h ht hs=>?_⟩<;>rw[hC] at*
 .exact⟨hx.suf R τ W aV h.1 s,s.live h.2⟩
 .refine⟨⟨h0.step R τ W R1 W1 h.1.im ht hs,h.1.le.trans hs.le,λb hb=>?_⟩,?_⟩
  .obtain⟨f1,f2,f3,f4⟩:=h.1.fz b hb
   refine⟨lC f1 hs.size,(hs.keep b f1 λa x=>yZ λz=>f3 ((ht a _ x).2 z)).trans f2,λe=>e.elim f3 λx=>?_,f4⟩;omega
  .obtain⟨a,b,hl⟩:=h.2
   exact⟨a,b,(hs.keep C.Wg h.1.im.wg λa x=>yZ λz=>h.1.im.own _ ((ht a _ x).2 z) rfl).trans hl⟩
end
section
variable {p:bS}{op gs gs₁ fs:aO->Bool}{St:Nat->Prop}{W0:aE}{Post:aF->aE->Prop}
def JO.callN (L:Lv p op gs gs₁ fs){m:Fm}{ms:List Fm}{w:aE}{ops:Array aZ}{i:Nat}{rest:List Nat}{k:List eE}{o:aZ}{f:aO}{args:Array cN}{kS:Array aM}{fn:Ub}{c:Code}(hr:m.ret=false)(p8:m.todo=.inRegion ops (i::rest)::k)
 (ho:ops[i]? =some o) (cD:dD o (dR ops m.tmps)=true) (hop:o.op=.call ⟨.value (.func f),args,kS⟩) (C9:op f=false) (hf:p.funcs[f]? =some fn) (hn:(fn.name== "runtime.NumGoroutine")=false) (hb:fn.body=some c)
 (hJ:JL p op gs fs St W0 Post ⟨f,args.map m.eval++nI (fn.ntmps-(args.map m.eval).size) aA,[.code c],false⟩ (m::ms) w):JL p op gs fs St W0 Post m ms w:=by
 have Cf:qU p f (args.map m.eval)=⟨f,args.map m.eval++nI (fn.ntmps-(args.map m.eval).size) aA,[.code c],false⟩:=by simp[qU,hf,hb]
 rw[<-Cf] at hJ;refine JO.one L.fit rfl (λe=>by rw[hr] at e;cases e) (λT=>((qU p f (args.map m.eval),m::ms),Tt.tp w T 0)) (λT=>?_) (λT K R y Mn=>?_) (λT=>hJ.tape T 0)
 .show(eZ p m ms).run p _=_
  simp only[eZ,hr,jF,if_false,rP,p8,ho,Ac,zG,cD,if_true];refine(rK p _ _ _).trans ?_;rw[(zbs hop (λg=>rfl) hf hn hb (Tt.tp w T 0)).1];simp only[uU,qI,hf,hb,kU,bD,Cf]
 .obtain⟨f',xs,bY,c,c',rest,L8,h1,h2,h3,h4,_⟩:=Mn.ex
  simp only[pJ] at h4;have h5:=congrArg Fm.fn h4.1;rw[Iv,Iv] at h5;have h6:op f'=true:=h1;rw[<-h5,C9] at h6;cases h6
end
def zqj {S:aO->Prop}:∀(n:Nat) (v:aF),Of v<n->∃u,wD u/\(∀K R,VR S K R u v)/\(Mh v->u=v):=by
 intro n
 induction n with
 |zero=>intro v h;omega
 |succ n ih=>
  intro v hv;have hj:∀{v:aF},HidV v->(∀k m,v≠ .int k m)->(∀s,v≠ .string s)->(∀b,v≠ .bool b)->∃u,wD u/\(∀K R,VR S K R u v)/\(Mh v->u=v):=λh h1 h2 h3=>
   ⟨.nilFunc,.nilFunc,λK R=>.junk h,λx=>by
    rcases x with⟨k,m,e⟩|⟨s,e⟩|⟨b,e⟩
    .exact absurd e (h1 _ _)
    .exact absurd e (h2 _)
    .exact absurd e (h3 _)⟩
  have rows:∀xs:Array aF,Of xs<n->∃us:Array aF,us.size=xs.size/\(∀(i:Nat) (u:aF),us[i]? =some u->wD u)/\∀K R,∀(i:Nat) (u v:aF),us[i]? =some u->xs[i]? =some v->VR S K R u v:=λxs hx=>by
   have hex:∀x,∃u,x∈xs->wD u/\∀K R,VR S K R u x:=λx=>by
    by_cases hm:x∈xs
    .obtain⟨u,h1,h2,_⟩:=ih x (Nat.lt_trans (Array.sizeOf_lt_of_mem hm) hx)
     exact⟨u,λ_=>⟨h1,h2⟩⟩
    .exact⟨x,λh=>absurd h hm⟩
   refine⟨xs.map λx=>(hex x).choose,aQ,λi u h1=>?_,λK R i u v h1 h2=>?_⟩
   .rw[x7] at h1
    cases h2:xs[i]? with
    |none=>rw[h2] at h1;cases h1
    |some v=>
     rw[h2] at h1;simp only[Ac,fT] at h1;subst h1;exact((hex v).choose_spec (Uo h2)).1
   .rw[x7,h2] at h1
    simp only[Ac,fT] at h1;subst h1;exact((hex v).choose_spec (Uo h2)).2 K R
  cases v with
  |bool b=>exact⟨_,.bool b,λK R=>.bool b,λ_=>rfl⟩
  |int k m=>exact⟨_,.int k m,λK R=>.int k m,λ_=>rfl⟩
  |string s=>exact⟨_,.string s,λK R=>.string s,λ_=>rfl⟩
  |nilIface=>exact⟨_,.nilIface,λK R=>.nilIface,λ_=>rfl⟩
  |agg xs=>
   obtain⟨us,h1,h3,h2⟩:=rows xs (by simp at hv;omega);exact⟨.agg us,.agg h3,λK R=>.agg h1 (h2 K R),λx=>by rcases x with⟨_,_,e⟩|⟨_,e⟩|⟨_,e⟩<;>cases e⟩
  |tuple xs=>
   obtain⟨us,h1,h3,h2⟩:=rows xs (by simp at hv;omega);exact⟨.tuple us,.tuple h3,λK R=>.tuple h1 (h2 K R),λx=>by rcases x with⟨_,_,e⟩|⟨_,e⟩|⟨_,e⟩<;>cases e⟩
  |_=>exact hj Zg (λ_ _ h=>by cases h) (λ_ h=>by cases h) (λ_ h=>by cases h)
def gv (S:aO->Prop)(v:aF):Value:=(zqj (S:=S) (Of v+1) v (wR _)).choose
def zfd (S:aO->Prop)(v:aF):wD (gv S v)/\(∀K R,VR S K R (gv S v) v)/\(Mh v->gv S v=v):=(zqj (S:=S) (Of v+1) v (wR _)).choose_spec
def gObj (S:aO->Prop):Obj->Obj
 | .cells c T fz=>.cells (c.map (gv S)) T (0,max c.size fz.2)
 |_=>o9
def Ca (S:aO->Prop)(X:Nat->Bool)(W:aE):World:={W with heap:=W.heap.mapIdx λi o=>if X i=true then gObj S o else o9}
def R0 (X:Nat->Bool):Pr:=λa b=>a=b/\X a=true
def St0 (X:Nat->Bool):Nat->Prop:=λa=>X a=true
section
variable {S:aO->Prop}{X:Nat->Bool}{W:aE}
def zfY:(Ca S X W).heap.size=W.heap.size:=by simp[Ca]
def zcS {b:Nat}{c:Array aF}{T:aM}{fz:Nat×Nat}(hb:W.heap[b]? =some (.cells c T fz))(hx:X b=true):(Ca S X W).heap[b]? =some (.cells (c.map (gv S)) T (0,max c.size fz.2)):=by
 simp[Ca,Mk,hb,hx,gObj]
def zBS:Cd (Ca S X W):=by
 intro b c e h;simp only[Ca,Mk,xK] at h;obtain⟨o,_,h⟩:=h;split at h
 .cases o<;>simp[gObj,o9] at h
 .simp[o9] at h
def zCE {G:Gp}(hX:∀b,X b=true->∃c T fz,W.heap[b]? =some (.cells c T fz))(hT:∀g,G.tab g=true->X g=true)(hG:G.n<=W.heap.size):cT S P0 (R0 X) G (St0 X) (Ca S X W) W:=by
 refine⟨?_,?_,?_,?_,⟨by rw[zfY];exact hG,hG⟩,?_,λa b x=>x.elim,?_,zBS,λg hg=>⟨rfl,hT g hg⟩⟩
 .rintro a b c (⟨rfl,_⟩|x) (⟨h1,_⟩|y)
  .exact h1
  .exact y.elim
  .exact x.elim
  .exact x.elim
 .rintro a b c (⟨rfl,_⟩|x) (⟨h1,_⟩|y)
  .exact h1.symm
  .exact y.elim
  .exact x.elim
  .exact x.elim
 .rintro a b (⟨rfl,h⟩|x)
  .obtain⟨c,T,fz,h1⟩:=hX a h
   have:=(dO.1 h1).1;exact⟨by rw[zfY];exact this,this⟩
  .exact x.elim
 .rintro a b ⟨rfl,_⟩
  exact⟨Iff.rfl,λ_=>rfl⟩
 .rintro a b ⟨rfl,h⟩
  obtain⟨c,T,fz,h1⟩:=hX a h;refine⟨_,_,zcS h1 h,h1,.cells ⟨aQ,λi u v h2 h3=>?_⟩ λo ho=>?_⟩
  .rw[x7,h3] at h2
   simp only[Ac,fT] at h2;subst h2;exact(zfd S v).2.1 _ _
  .unfold Jv at ho⊢
   simp only;omega
 .intro a h
  obtain⟨c,T,fz,h1⟩:=hX a h;exact⟨⟨a,rfl,h⟩,_,T,_,zcS h1 h,by rw[Array.size_map];exact Nat.le_max_left ..⟩
def zFW {b o:Nat}{v:aF}(hX:∀b,X b=true->∃c T fz,W.heap[b]? =some (.cells c T fz))(hx:X b=true)(hv:W.cell? ⟨b,o,none⟩=some v)(hp:Mh v):(Ca S X W).cell? ⟨b,o,none⟩=some v:=by
 obtain⟨c,T,fz,h1⟩:=hX b hx;have h2:c[o]? =some v:=by
  have:W.cell? ⟨b,o,none⟩=c[o]? :=by simp[lI,h1]
  rw[<-this];exact hv
 have h3:(Ca S X W).cell? ⟨b,o,none⟩=(c.map (gv S))[o]? :=by
  simp only[lI];rw[zcS h1 hx];rfl
 rw[h3,x7,h2];simp only[Ac,fT];exact(zfd S v).2.2 hp
end
def zDE {Shun:Loc->Prop}{B:Nat}:Past Shun B #[]:=
 ⟨zmT.clean,λi a h=>by simp[touchAt,lS.act?] at h,zmT.over,zmT.hears,λop h=>by simp at h⟩
variable {Post:aF->aE->Prop}
def J.start {p:bS}{op gs gs₁ fs:aO->Bool}(L:Lv p op gs gs₁ fs){f:aO}{fn:Ub}{c:Code}(hg:gs f=true)(C9:op f=false)(hf:p.funcs[f]? =some fn)(hb:fn.body=some c){W:aE}{X:Nat->Bool}{xs args:Array aF}
 (hX:∀b,X b=true->∃c T fz,W.heap[b]? =some (.cells c T fz)) (hT:∀g,Ai p g=true->X g=true) (hG:p.globals.size<=W.heap.size) (Bw:bK (SF fs) P0 (R0 X) xs args)
 (h:JL p op gs fs (St0 X) W Post ⟨f,xs++nI (fn.ntmps-xs.size) aA,[.code c],false⟩ [] (Ca (SF fs) X W)):Ends p Post (solo (G (Eg p f args .normal) []) W) #[]:=by
 obtain⟨fn',c',g1,g2,g3,g4,g5⟩:=L.fit.fn f hg C9;have Ck:=g2;rw[hf] at Ck;obtain rfl:=cE Ck;rw[hb] at g4;obtain rfl:=cE g4;have hJ:J p Post (λ_=>False) W.heap.size (G (Eg p f args .normal) []) W:=by
  rw[Yt hf hb];refine h P0 (R0 X) W ⟨f,args++nI (fn.ntmps-args.size) aA,[.code c],false⟩ [] (λ_=>False) (zCE hX hT hG) ⟨rfl,rfl,rfl,Bw.pad fn.ntmps,λj hj=>?_,⟨fn,fn,hf,hf,rfl,L.fit.res f hg C9 fn hf⟩⟩ .nil ⟨λ_ _ _ _=>id,λ_ _ _ _ _=>id,λ_ _ _ _=>id⟩ ⟨rfl,rfl,rfl,aX _,λ_ _=>rfl,?_⟩
  .simp only[jL,lZ,or_false] at hj
   subst hj;exact g5
  .rintro a b ⟨rfl,h⟩ _
   exact h
 rw[solo_eq_crowd];exact hJ #[_] #[] none (λ_=>0) rfl ⟨λi g hi h=>by
  have:=(dO.1 h).1;simp at this;omega,λj _=>rfl⟩ zDE
def It (ops:Array aZ):Bool:=
 ((
  gN ops.size).all λi=>match ops[i]? with
  |some oi=>(oi.after.all λe=>!Em .any e||decide (e.on<i))&&(match oi.op with| .select .. =>false|_=>true)&&
   ((
    gN ops.size).all λj=>match ops[j]? with
    |some oj=>(match oj.dst with
     |some d=>(!(oi.looksAt ops).contains d||oi.after.any λe=>Em .any e&&e.on==j)&&(i==j||oi.dst !=some d)
     |none=>true)
    |none=>true)
  |none=>true)
structure Lw (ops:Array aZ):Prop where
 bk:∀(i:Nat) (oi:aZ),ops[i]? =some oi->∀e∈oi.after,Em .any e=true->e.on<i
 sel:∀(i:Nat) (oi:aZ),ops[i]? =some oi->∀cs b,oi.op≠ .select cs b
 rd:∀(i j:Nat) (oi oj:aZ) (d:Tmp),ops[i]? =some oi->ops[j]? =some oj->oj.dst=some d->d∈oi.looksAt ops->∃e∈oi.after,Em .any e=true/\e.on=j
 dst:∀(i j:Nat) (oi oj:aZ) (d:Tmp),ops[i]? =some oi->ops[j]? =some oj->oi.dst=some d->oj.dst=some d->i=j
variable {ops:Array aZ}
def S3 (h:It ops=true):Lw ops:=by
 unfold It at h;rw[tK] at h;have lt:∀{i:Nat} {oi:aZ},ops[i]? =some oi->i<ops.size:=λh=>(dO.1 h).1
 have h1:∀(i:Nat) (oi:aZ),ops[i]? =some oi->(oi.after.all λe=>!Em .any e||decide (e.on<i))=true/\(match oi.op with| .select .. =>false|_=>true)=true/\
  ∀(j:Nat) (oj:aZ),ops[j]? =some oj->∀d,oj.dst=some d->((oi.looksAt ops).contains d=false\/(oi.after.any λe=>Em .any e&&e.on==j)=true)/\(i=j\/oi.dst≠some d):=by
  intro i oi hi;have:=h i (Bd.2 (lt hi));rw[hi] at this;simp only[fV] at this;refine⟨this.1.1,this.1.2,λj oj hj d hd=>?_⟩;have h2:=(tK.1 this.2) j (Bd.2 (lt hj));rw[hj] at h2;simp only[hd,fV,Eo,zfl,beq_iff_eq,bne_iff_ne] at h2;exact h2
 refine⟨λi oi hi e he hb=>?_,λi oi hi cs b e=>?_,λi j oi oj d hi hj hd hl=>?_,λi j oi oj d hi hj h2 h3=>?_⟩
 .have:=(h1 i oi hi).1
  rw[zkf] at this;have:=this e he;simp[hb] at this;exact this
 .have:=(h1 i oi hi).2.1
  rw[e] at this;cases this
 .have h2:=((h1 i oi hi).2.2 j oj hj d hd).1
  rcases h2 with h2|h2
  .have:=List.contains_iff_mem.2 hl
   rw[h2] at this;cases this
  .rw[Sz] at h2
   obtain⟨x,hx,h3⟩:=h2;simp only[fV,beq_iff_eq] at h3;exact⟨_,zkN hx,h3.1,h3.2⟩
 .rcases((h1 i oi hi).2.2 j oj hj d h3).2 with h4|h4
  .exact h4
  .exact absurd h2 h4
def dC (ops:Array aZ)(vals:Nat->aF)(t0:Array aF):Array Value:=
 (gN ops.size).foldl (λt i=>match(ops[i]?).bind (·.dst) with|some d=>t.setIfInBounds d (vals i)|none=>t) t0
section
variable {ops:Array aZ}{vals:Nat->aF}{t0:Array aF}
structure rT (ops:Array aZ)(vals:Nat->aF)(t0:Array aF)(bN:Array Bool)(t:Array aF):Prop where
 size:t.size=t0.size
 got:∀(i:Nat) (o:aZ) (d:Tmp),ops[i]? =some o->o.dst=some d->d<t0.size->bN.getD i false=true->t[d]? =some (vals i)
 old:∀s:Nat,(∀(i:Nat) (o:aZ),ops[i]? =some o->bN.getD i false=true->o.dst≠some s)->t[s]? =t0[s]?
def rT.start (bN:Array Bool)(h:∀i,bN.getD i false=false):rT ops vals t0 bN t0:=
 ⟨rfl,λi o d _ _ _ hl=>(by rw[h i] at hl;cases hl),λs _=>rfl⟩
def rT.step (K:Lw ops){bN:Array Bool}{t:Array aF}(h:rT ops vals t0 bN t){i:Nat}{o:aZ}(hi:ops[i]? =some o)(hz:bN.size=ops.size)(hu:bN.getD i true=false):
 rT ops vals t0 (bN.setIfInBounds i true) (match o.dst with|some d=>t.setIfInBounds d (vals i)|none=>t):=by
 have Ch:i<bN.size:=by rw[hz];exact(dO.1 hi).1
 have Mb:∀j,(bN.setIfInBounds i true).getD j false=if j=i then true else bN.getD j false:=by
  intro j;by_cases e:j=i
  .subst e;simp[Ch]
  .rw[if_neg e];exact Qp false (Ne.symm e)
 cases hd:o.dst with
 |none=>
  refine⟨h.size,λj oj d hj O9 zd1 hl=>?_,λs hs=>h.old s λj oj hj hl=>hs j oj hj ?_⟩
  .rw[Mb] at hl
   split at hl
   .next e=>subst e;rw[hi] at hj;obtain rfl:=cE hj;rw[hd] at O9;cases O9
   .exact h.got j oj d hj O9 zd1 hl
  .rw[Mb];split<;>first|rfl|exact hl
 |some d=>
  refine⟨by simp[h.size],λj oj d' hj O9 zd1 hl=>?_,λs hs=>?_⟩
  .rw[Mb] at hl
   split at hl
   .next e=>
    subst e;rw[hi] at hj;obtain rfl:=cE hj;rw[hd] at O9;obtain rfl:=cE O9;simp[zqf,h.size,zd1]
   .next e=>
    have aT:d≠d':=λe2=>e (K.dst j i oj o d' hj hi O9 (by rw[hd,e2]));simp only[jQ aT];exact h.got j oj d' hj O9 zd1 hl
  .have aT:d≠s:=λe2=>hs i o hi (by rw[Mb,if_pos rfl]) (by rw[hd,e2])
   simp only[jQ aT];exact h.old s λj oj hj hl=>hs j oj hj (by rw[Mb];split<;>first|rfl|exact hl)
def rT.unique {bN:Array Bool}{t t':Array aF}(h:rT ops vals t0 bN t)(h':rT ops vals t0 bN t'):t=t':=by
 apply zdr;intro s;by_cases hex:∃(i:Nat) (o:aZ),ops[i]? =some o/\bN.getD i false=true/\o.dst=some s
 .obtain⟨i,o,h1,h2,h3⟩:=hex
  by_cases hs:s<t0.size
  .rw[h.got i o s h1 h3 hs h2,h'.got i o s h1 h3 hs h2]
  .rw[Gr (by rw[h.size];omega),Gr (by rw[h'.size];omega)]
 .have hn:∀(i:Nat) (o:aZ),ops[i]? =some o->bN.getD i false=true->o.dst≠some s:=λi o h1 h2 h3=>hex ⟨i,o,h1,h2,h3⟩
  rw[h.old s hn,h'.old s hn]
def Tg (K:Lw ops):rT ops vals t0 (nI ops.size true) (dC ops vals t0):=by
 have key:∀n,n<=ops.size->rT ops vals t0 ((Lx ops.size).map (λi=>decide (i<n))) ((gN n).foldl (λt i=>match(ops[i]?).bind (·.dst) with|some d=>t.setIfInBounds d (vals i)|none=>t) t0):=by
  intro n
  induction n with
  |zero=>intro _;exact rT.start _ λi=>by simp;cases h:(Lx ops.size)[i]? <;>simp
  |succ n ih=>
   intro hn;have h:=ih aC;obtain⟨o,ho⟩:∃o,ops[n]? =some o:=⟨ops[n],mK aC⟩;have hs:=rT.step K h ho aQ (by simp[Array.getElem?_range,show n<ops.size by omega]);rw[List.range_succ,zln];simp only[Pz,List.foldl_nil,ho,vC];have e:((Lx ops.size).map (λi=>decide (i<n))).setIfInBounds n true=(Lx ops.size).map (λi=>decide (i<n+1)):=by
    apply zdr;intro j;rw[zqf];by_cases hj:j<ops.size
    .by_cases e:n=j
     .subst e;simp[hj]
     .simp[hj,e];omega
    .have:¬n=j:=aC
     simp[hj,this]
   rw[e] at hs;exact hs
 have:=key ops.size (aX _);have e:(Lx ops.size).map (λi=>decide (i<ops.size))=nI ops.size true:=by
  apply zdr;intro j;by_cases hj:j<ops.size<;>simp[hj]
 rw[e] at this;exact this
def rT.sees (K:Lw ops){bN:Array Bool}{t Tf:Array aF}(h:rT ops vals t0 bN t)(hf:rT ops vals t0 (nI ops.size true) Tf){i:Nat}{o:aZ}(hi:ops[i]? =some o)(tJ:∀e∈o.after,Em .any e=true->bN.getD e.on false=true):
 ∀s∈o.looksAt ops,t[s]? =Tf[s]? :=by
 intro s hs;by_cases hex:∃(j:Nat) (oj:aZ),ops[j]? =some oj/\oj.dst=some s
 .obtain⟨j,oj,hj,hd⟩:=hex
  obtain⟨e,he,hb,rfl⟩:=K.rd i j o oj s hi hj hd hs;have hl:=tJ e he hb;have tW:e.on<ops.size:=(dO.1 hj).1;by_cases hz:s<t0.size
  .rw[h.got _ oj s hj hd hz hl,hf.got _ oj s hj hd hz (by simp[tW])]
  .have Ga:t0.size<=s:=Nat.le_of_not_lt hz
   rw[Gr (by rw[h.size];exact Ga),Gr (by rw[hf.size];exact Ga)]
 .have hn:∀(j:Nat) (oj:aZ),ops[j]? =some oj->oj.dst≠some s:=λj oj hj hd=>hex ⟨j,oj,hj,hd⟩
  rw[h.old s (λj oj hj _=>hn j oj hj),hf.old s (λj oj hj _=>hn j oj hj)]
end
variable {t t':Array aF}
def zFp {x:cN}(h:∀s,x=.tmp s->t[s]? =t'[s]?):(bH t []).eval x=(bH t' []).eval x:=by
 cases x with
 |tmp s=>
  have:=h s rfl;show t.getD s aA=t'.getD s aA;simp only[tZ,this]
 |_=>rfl
variable {o:aZ}
def Ei (hs:∀cs b,o.op≠ .select cs b)(h:∀s∈o.looksAt ops,t[s]? =t'[s]?):aS (bH t []).eval o=aS (bH t' []).eval o:=
 execOp_congr o hs λx hx=>zFp λs e=>h s (by
  subst e;exact List.mem_append_left _ (List.mem_filterMap.2 ⟨.tmp s,by simpa using hx,rfl⟩))
def Wb (h:∀s∈o.looksAt ops,t[s]? =t'[s]?):dD o (dR ops t)=dD o (dR ops t'):=by
 unfold dD
 cases hg:o.guard with
 |none=>rfl
 |some gw=>
  obtain⟨g,want⟩:=gw;have hy:dR ops t g=dR ops t' g:=by
   unfold dR
   cases ht:(ops[g]?).bind (·.dst) with
   |none=>rfl
   |some s=>
    have:=h s (by simp[aZ.looksAt,hg,ht]);simp only[vC,this]
  simp only[hy]
section
variable {p:bS}{op gs gs₁ fs:aO->Bool}{St:Nat->Prop}{W0:aE}{Post:aF->aE->Prop}
def ztd {ops:Array aZ}(K:Lw ops){bN:Array Bool}(hz:bN.size=ops.size)(h:Gt .any ops bN=[]):∀i,i<ops.size->bN.getD i false=true:=by
 intro i
 induction i using zh7 with
 |ind i ih=>
  intro hi;obtain⟨o,ho⟩:∃o,ops[i]? =some o:=⟨ops[i],mK hi⟩
  cases hl:bN.getD i false with
  |true=>rfl
  |false=>
   have hm:i∈Gt .any ops bN:=zk5.2 ⟨by
    have Ch:i<bN.size:=aC;simp[Ch] at hl⊢;exact hl,o,ho,λe he hb=>ih e.on (K.bk i o ho e he hb) (by have:=K.bk i o ho e he hb;omega)⟩
   rw[h] at hm;cases hm
end
abbrev xA (Tf:Array aF)(V:Nat->aF):Prop:=∀s,Tf.getD s aA=V s
def Ha (ops:Array aZ)(s:Nat):Bool:=ops.any λo=>o.dst==some s
def Va (V:Nat->aF)(o:aZ):Value:=match o.dst with|some d=>V d|none=>aA
def zih {i:Nat}{d:Tmp}(h:ops[i]? =some o)(hd:o.dst=some d):Ha ops d=true:=by
 unfold Ha;rw[Sz];obtain⟨hi,e⟩:=dO.1 h;exact⟨i,hi,by rw[e,hd];simp⟩
section
variable {ops:Array aZ}{Tf:Array aF}{V:Nat->aF}{o og:aZ}{j d:Nat}{want b:Bool}
def eB (h:o.guard=none){y:Nat->Option Bool}:dD o y=true:=by unfold dD;rw[h]
end
def zI7 {n:Nat}(h2:(ops.all λo=>match o.dst with|some d=>decide (d<n)|none=>true)=true):∀s,Ha ops s=true->s<n:=by
 intro s hs;unfold Ha at hs;rw[Sz] at hs;obtain⟨i,hi,e⟩:=hs;have h3:=Array.all_eq_true.1 h2 i hi;have e2:ops[i].dst=some s:=by simpa using e
 rw[e2] at h3;simpa using h3
def nL {Tf:Array aF}{V:Nat->aF}(hT:xA Tf V){s:Nat}{v:aF}(hv:V s=v):(bH Tf []).eval (.tmp s)=v:=((hT s).trans hv)
section
variable {p:bS}{ρ:cN->aF}{o:aZ}{w:aE}
variable {A:Option Addr}{t:aM}
def zsP {x:cN}{n c:Nat}{e:aM}(ho:o.op=.call ⟨.builtin .len,#[x],#[t]⟩)(hu:p.underlying t=some (.slice e))(hx:ρ x=.slice A n c):(aS ρ o).run p w=.ok (.value (.int .i64 n)) w:=by
 have Mv:∀w,(underlying t).run p w=.ok (.slice e) w:=λw=>by simp[underlying,program,bD,bind,xU,pure,hu]
 unfold aS;rw[ho];simp[go_sem,hx,Mv,Builtin.len_,uU]
def zal {s x:cN}{a b v:aF}{w':aE}(ho:o.op=.call ⟨.builtin .append,#[s,x],#[t,t]⟩)(hs:ρ s=a)(hx:ρ x=b)(hr:(xF #[t,t] o.type #[a,b]).run p w=.ok v w'):(aS ρ o).run p w=.ok (.value v) w':=by
 unfold aS;simp only[ho,resolve,invoke,builtin,Sem.run_bind,Sem.run_pure,Result.andThen_ok,List.map_toArray,fK,List.map_nil,hs,hx,hr]
end
def AllL (Q:Nat->aZ->Prop):Nat->List aZ->Prop
 |_,[]=>True
 |i,o::l=>Q i o/\AllL Q (i+1) l
variable {Q:Nat->aZ->Prop}
def zxq :∀(l:List aZ) (k:Nat),AllL Q k l->∀(i:Nat) (o:aZ),l[i]? =some o->Q (k+i) o
 |[],k,h,i,o,e=>by simp at e
 |x::l,k,h,0,o,e=>by simp at e;subst e;exact h.1
 |x::l,k,h,i+1,o,e=>by
  have:=zxq l (k+1) h.2 i o (by simpa using e);rw[show k+(i+1)=k+1+i by omega];exact this
def Jm {l:List aZ}(hl:ops.toList=l)(h:AllL Q 0 l):∀(i:Nat) (o:aZ),ops[i]? =some o->Q i o:=λi o e=>by
 have:=zxq l 0 h i o (by rw[<-hl,Ap];exact e)
 rwa [qZ] at this
def xL (vals:Nat->aF):List (Option Tmp)->Nat->List aF->List aF
 |[],_,t=>t
 |none::l,i,t=>xL vals l (i+1) t
 |some d::l,i,t=>xL vals l (i+1) (t.set d (vals i))
def An (ops:Array aZ)(vals:Nat->aF)(t0:List aF):dC ops vals t0.toArray=(xL vals (ops.toList.map (·.dst)) 0 t0).toArray:=by
 have key:∀(l:List aZ) (k:Nat) (t:List aF),(∀i,l[i]? =ops[k+i]?)->
  (List.range' k l.length).foldl (λt i=>match(ops[i]?).bind (·.dst) with|some d=>t.setIfInBounds d (vals i)|none=>t) t.toArray=(xL vals (l.map (·.dst)) k t).toArray:=by
  intro l
  induction l with
  |nil=>intro k t _;rfl
  |cons o l ih=>
   intro k t h;have h0:=h 0;simp at h0;rw[qA,List.range'_succ,Pz,<-h0];simp only[vC,fK];have h1:∀i,l[i]? =ops[k+1+i]? :=λi=>by have:=h (i+1);simp at this;rw[this];congr 1;omega
   cases hd:o.dst with
   |none=>exact ih (k+1) t h1
   |some d=>
    simp only[List.setIfInBounds_toArray];exact ih (k+1) _ h1
 have:=key ops.toList 0 t0 (λi=>by simp);unfold dC;rw[List.range_eq_range',<-Array.length_toList];exact this
def Eu (o:aZ)(j:Nat):Bool:=o.after.any λe=>Em .any e&&e.on==j
def If (ops:Array aZ):List Nat->Bool
 |a::b::l=>(match ops[b]? with|some o=>Eu o a|none=>false)&&If ops (b::l)
 |[a]=>decide (a<ops.size)
 |[]=>true
def zcC (ops:Array aZ):Nat->aZ->Nat->Bool
 |0,o,j=>Eu o j
 |n+1,o,j=>Eu o j||o.after.any λe=>Em .any e&&(match ops[e.on]? with|some o'=>zcC ops n o' j|none=>false)
def za0 (ops:Array aZ)(ws:List Nat)(i k:Nat):Bool:=
 (ws.take k).all (λj=>match ops[j]? with|some o=>!zcC ops 5 o i|none=>true)&&(ws.drop k).all (λj=>match ops[i]? with|some o=>!Eu o j|none=>true)
inductive bP (P:bS)(ops:Array aZ)(ws:List Nat)(Wd:Nat->aE)(Tf:Array aF)(i:Nat)(o:aZ)(v:aF):Prop
 |no (hn:i∉ws) (h:dD o (dR ops Tf)=false) (hv:v=aA)
 |val (hn:i∉ws) (h:dD o (dR ops Tf)=true) (hx:∀k,k<=ws.length->za0 ops ws i k=true->(aS (bH Tf []).eval o).run P (Wd k)=.ok (.value v) (Wd k))
 |act (k:Nat) (hk:ws[k]? =some i) (h:dD o (dR ops Tf)=true) (hx:(aS (bH Tf []).eval o).run P (Wd k)=.ok (.value v) (Wd (k+1)))
 |skp (k:Nat) (hk:ws[k]? =some i) (h:dD o (dR ops Tf)=true) (hv:v=aA) (hx:(aS (bH Tf []).eval o).run P (Wd k)=.ok .skip (Wd (k+1)))
 |actn (k:Nat) (hk:ws[k]? =some i) (h:dD o (dR ops Tf)=true) (hd:o.dst=none) (u:aF) (hx:(aS (bH Tf []).eval o).run P (Wd k)=.ok (.value u) (Wd (k+1)))
section
variable {P:bS}{ops:Array aZ}{ws:List Nat}{Wd:Nat->aE}{Q:Exit->uA->aE->Prop}{t0 Tf:Array aF}{vals:Nat->aF}
structure Ic (ops:Array aZ)(ws:List Nat)(bN:Array Bool)(k:Nat):Prop where
 closed:∀(i:Nat) (o:aZ),ops[i]? =some o->bN.getD i false=true->∀j,Eu o j=true->bN.getD j false=true
 le:k<=ws.length
 pre:∀(n i:Nat),ws[n]? =some i->(bN.getD i false=true↔n<k)
def Ic.closedT {bN:Array Bool}{k:Nat}(h:Ic ops ws bN k):∀(n:Nat) (i:Nat) (o:aZ),ops[i]? =some o->bN.getD i false=true->∀j,zcC ops n o j=true->bN.getD j false=true
 |0,i,o,hi,hl,j,hj=>h.closed i o hi hl j hj
 |n+1,i,o,hi,hl,j,hj=>by
  simp only[zcC,Eo] at hj;rcases hj with hj|hj
  .exact h.closed i o hi hl j hj
  .rw[Sz] at hj
   obtain⟨x,hx,h3⟩:=hj;simp only[fV] at h3;obtain⟨h4,h5⟩:=h3;split at h5
   .next o' uZ=>
    refine h.closedT n _ o' uZ (h.closed i o hi hl _ ?_) j h5;unfold Eu;rw[Sz];exact⟨x,hx,by simp[h4]⟩
   .cases h5
def zm3:∀{ws:List Nat},If ops ws=true->∀(n a b:Nat),ws[n]? =some a->ws[n+1]? =some b->∃o,ops[b]? =some o/\Eu o a=true
 |[],_,n,a,b,h,_=>by simp at h
 |[x],_,n,a,b,h,h'=>by simp at h'
 |x::y::l,hc,0,a,b,h,h'=>by
  simp at h h';subst h h';simp only[If,fV] at hc;have:=hc.1;split at this
  .next o e=>exact⟨o,e,this⟩
  .cases this
 |x::y::l,hc,n+1,a,b,h,h'=>by
  simp only[If,fV] at hc;exact zm3 hc.2 n a b zgL (by simpa using h')
def zoq {l:Array Bool}{i:Nat}(h:l.getD i true=false):l.getD i false=false:=by
 rw[tZ] at h⊢
 cases e:l[i]? with
 |none=>rfl
 |some x=>rw[e] at h;exact h
def Ic.keep {bN:Array Bool}{k i:Nat}{o:aZ}(h:Ic ops ws bN k)(hi:ops[i]? =some o)(hn:i∉ws)(hd:∀j,Eu o j=true->bN.getD j false=true):Ic ops ws (bN.setIfInBounds i true) k:=by
 have mono:∀j,bN.getD j false=true->(bN.setIfInBounds i true).getD j false=true:=λj hj=>by
  by_cases e:j=i
  .subst e
   rw[tZ] at hj⊢
   cases e2:bN[j]? with
   |none=>rw[e2] at hj;cases hj
   |some x=>have:j<bN.size:=(dO.1 e2).1;simp[this]
  .rw[Qp false (Ne.symm e)];exact hj
 refine⟨λa oa ha hl j hj=>?_,h.le,λn a ha=>?_⟩
 .by_cases e:a=i
  .subst e
   rw[hi] at ha;obtain rfl:=cE ha;exact mono j (hd j hj)
  .rw[Qp false (Ne.symm e)] at hl
   exact mono j (h.closed a oa ha hl j hj)
 .have e:a≠i:=λe=>hn (e▸dX ha)
  rw[Qp false (Ne.symm e)];exact h.pre n a ha
def Ic.next {bN:Array Bool}{k n i:Nat}{o:aZ}(lG:ws.Nodup)(hc:If ops ws=true)(h:Ic ops ws bN k)(hi:ops[i]? =some o)(hz:i<bN.size)(hn:ws[n]? =some i)(hu:bN.getD i false=false)(hd:∀j,Eu o j=true->bN.getD j false=true):
 n=k/\Ic ops ws (bN.setIfInBounds i true) (k+1):=by
 have oS:n<ws.length:=(kE.1 hn).1;have hk:n=k:=by
  have h1:¬n<k:=λx=>by have:=(h.pre n i hn).2 x;rw[hu] at this;cases this
  rcases mX k n with x|x
  .exfalso
   obtain⟨m,rfl⟩:∃m,n=m+1:=⟨n-1,aC⟩;obtain⟨a,ha⟩:∃a,ws[m]? =some a:=⟨ws[m],lO aC⟩;obtain⟨o',uZ,hw⟩:=zm3 hc m a i ha hn;rw[hi] at uZ;obtain rfl:=cE uZ;have:=(h.pre m a ha).1 (hd a hw);omega
  .omega
 subst hk;have mono:∀j,bN.getD j false=true->(bN.setIfInBounds i true).getD j false=true:=λj hj=>by
  by_cases e:j=i
  .subst e;simp[hz]
  .rw[Qp false (Ne.symm e)];exact hj
 refine⟨rfl,λa oa ha hl j hj=>?_,aC,λm a ha=>?_⟩
 .by_cases e:a=i
  .subst e
   rw[hi] at ha;obtain rfl:=cE ha;exact mono j (hd j hj)
  .rw[Qp false (Ne.symm e)] at hl
   exact mono j (h.closed a oa ha hl j hj)
 .by_cases e:a=i
  .subst e
   have hm:m=n:=by
    have h1:m<ws.length:=(kE.1 ha).1;have e1:=(kE.1 ha).2;have e2:=(kE.1 hn).2;exact(List.getElem_inj lG).1 (e1.trans e2.symm)
   subst hm;simp[hz]
  .have hm:m≠n:=λx=>e (by subst x;rw[hn] at ha;exact(cE ha).symm)
   rw[Qp false (Ne.symm e),h.pre m a ha];omega
def zIc (t:Array aF)(d:List E8):(bH t d).eval=(bH t []).eval:=by funext x;cases x<;>rfl
def zpM (K:Lw ops):∀{ws:List Nat},If ops ws=true->∀(n i:Nat),ws[n]? =some i->i<ops.size
 |[],_,n,i,hi=>by simp at hi
 |[a],hc,0,i,hi=>by simp at hi;subst hi;simpa[If] using hc
 |[a],hc,n+1,i,hi=>by simp at hi
 |a::b::l,hc,0,i,hi=>by
  simp at hi;subst hi;obtain⟨o,h1,h2⟩:=zm3 hc 0 a b rfl rfl;unfold Eu at h2;rw[Sz] at h2;obtain⟨x,hx,h3⟩:=h2;simp only[fV,beq_iff_eq] at h3;have:=K.bk b o h1 _ (zkN hx) h3.1;have hb:=(dO.1 h1).1;omega
 |a::b::l,hc,n+1,i,hi=>by
  simp only[If,fV] at hc;exact zpM K hc.2 n i zgI
def zI2 (K:Lw ops)(lG:ws.Nodup)(hc:If ops ws=true)(hT:rT ops vals t0 (nI ops.size true) Tf){d:List E8}
 (hop:∀(i:Nat) (o:aZ),ops[i]? =some o->bP P ops ws Wd Tf i o (vals i)) (hk:Q .normal ⟨Tf,d⟩ (Wd ws.length)):
 ∀(fuel:Nat) (bN:Array Bool) (t:Array aF) (k:Nat),bN.size=ops.size->((gN ops.size).filter λi=>!bN.getD i false).length<=fuel->rT ops vals t0 bN t->Ic ops ws bN k->
  wpAny P .any ops Q fuel bN ⟨t,d⟩ (Wd k):=by
 have zId:=zpM K hc;have fin:∀(bN:Array Bool) (t:Array aF) (k:Nat),bN.size=ops.size->(∀i,i<ops.size->bN.getD i false=true)->rT ops vals t0 bN t->Ic ops ws bN k->Q .normal ⟨t,d⟩ (Wd k):=by
  intro bN t k hz tF hm aY;have e:bN=nI ops.size true:=by
   apply zdr;intro j;by_cases hj:j<ops.size
   .have:=tF j hj
    have tW:j<bN.size:=aC;simp[tW] at this;simp[hj,tW,this]
   .rw[Gr aC,Gr r9]
  subst e;have e2:=hm.unique hT;subst e2;have e3:k=ws.length:=by
   rcases mX k ws.length with x|x
   .have h1:ws[k]? =some ws[k]:=lO x
    have:=(aY.pre k _ h1).1 (tF _ (zId k _ h1));omega
   .have:=aY.le;omega
  rw[e3];exact hk
 intro fuel
 induction fuel with
 |zero=>
  intro bN t k hz Yd hm aY;have tF:∀i,i<ops.size->bN.getD i false=true:=λi hi=>by
   cases hl:bN.getD i false with
   |true=>rfl
   |false=>
    have:i∈(gN ops.size).filter λi=>!bN.getD i false:=Iy.2 ⟨Bd.2 hi,by rw[hl];rfl⟩;have:=List.length_pos_of_mem this;omega
  refine⟨?_,fin bN t k hz tF hm aY⟩;apply List.eq_nil_iff_forall_not_mem.2;intro i hi;obtain⟨hu,o,ho,_⟩:=zk5.1 hi;have:=tF i (dO.1 ho).1;rw[zoq hu] at this;cases this
 |succ fuel ih=>
  intro bN t k hz Yd hm aY;refine⟨λhr=>fin bN t k hz (ztd K hz hr) hm aY,λi hi=>?_⟩;obtain⟨hu,o,ho,tJ⟩:=zk5.1 hi;have Mv:=zoq hu;have lW:=hm.sees K hT ho tJ;have Wp:=hm.step K ho hz hu;have Ch:i<ops.size:=(dO.1 ho).1;have hw:∀j,Eu o j=true->bN.getD j false=true:=λj hj=>by
   unfold Eu at hj;rw[Sz] at hj;obtain⟨x,hx,h3⟩:=hj;simp only[fV,beq_iff_eq] at h3;have:=tJ _ (zkN hx) h3.1
   rwa [h3.2] at this
  have zGd:((gN ops.size).filter λj=>!(bN.setIfInBounds i true).getD j false).length<=fuel:=by
   have aN:((gN ops.size).filter λj=>!(bN.setIfInBounds i true).getD j false).length<((gN ops.size).filter λj=>!bN.getD j false).length:=by
    have e:((gN ops.size).filter λj=>!(bN.setIfInBounds i true).getD j false)=((gN ops.size).filter λj=>!bN.getD j false).filter (λj=>j !=i):=by
     rw[List.filter_filter];apply List.filter_congr;intro j hj;by_cases e:j=i
     .subst e
      have:j<bN.size:=aC;simp[this]
     .rw[Qp false (Ne.symm e)]
      simp[e]
    rw[e];refine List.length_filter_lt_length_iff_exists.2 ⟨i,Iy.2 ⟨Bd.2 Ch,?_⟩,aQ⟩;rw[Mv];rfl
   omega
  have put_eq:∀v,(cC ⟨t,d⟩ o.dst v)=⟨(match o.dst with|some s=>t.setIfInBounds s v|none=>t),d⟩:=λv=>by
   unfold cC;cases o.dst<;>rfl
  have goon:∀k',Ic ops ws (bN.setIfInBounds i true) k'->wpAny P .any ops Q fuel (bN.setIfInBounds i true) (cC ⟨t,d⟩ o.dst (vals i)) (Wd k'):=λk' Nd=>by
   rw[put_eq];exact ih _ _ k' (by simp[hz]) zGd Wp Nd
  have mH:(bH t d).eval=(bH t []).eval:=zIc t d;unfold wpOp;simp only[ho];rcases hop i o ho with⟨hn,h1,h2⟩|⟨hn,h1,h2⟩|⟨n,hn,h1,h2⟩|⟨n,hn,h1,hv,h2⟩|⟨n,hn,h1,hd,u,h2⟩
  .rw[if_neg (by rw[(Wb lW).trans h1];simp),<-h2]
   exact goon k (aY.keep ho hn hw)
  .rw[if_pos ((Wb lW).trans h1)]
   refine .inl ?_;have zJB:za0 ops ws i k=true:=by
    unfold za0;rw[fV,tK,tK];refine⟨λj hj=>?_,λj hj=>?_⟩
    .obtain⟨m,Hf⟩:=zxz hj
     rw[List.getElem?_take] at Hf;split at Hf
     .next zdS=>
      split
      .next oj hoj=>
       cases hq:zcC ops 5 oj i with
       |false=>rfl
       |true=>
        have:=aY.closedT 5 j oj hoj ((aY.pre m j Hf).2 zdS) i hq;rw[Mv] at this;cases this
      .rfl
     .cases Hf
    .obtain⟨m,Hf⟩:=zxz hj
     rw[List.getElem?_drop] at Hf;simp only[ho]
     cases hq:Eu o j with
     |false=>rfl
     |true=>
      have:=(aY.pre (k+m) j Hf).1 (hw j hq);omega
   show o.upon P ⟨t,d⟩ _ Q ((aS (bH t d).eval o).run P (Wd k));rw[mH,Ei (K.sel i o ho) lW,h2 k aY.le zJB];exact goon k (aY.keep ho hn hw)
  .rw[if_pos ((Wb lW).trans h1)]
   refine .inl ?_;obtain⟨rfl,Nd⟩:=aY.next lG hc ho aC hn Mv hw;show o.upon P ⟨t,d⟩ _ Q ((aS (bH t d).eval o).run P (Wd n));rw[mH,Ei (K.sel i o ho) lW,h2];exact goon _ Nd
  .rw[if_pos ((Wb lW).trans h1)]
   refine .inl ?_;obtain⟨rfl,Nd⟩:=aY.next lG hc ho aC hn Mv hw;show o.upon P ⟨t,d⟩ _ Q ((aS (bH t d).eval o).run P (Wd n));rw[mH,Ei (K.sel i o ho) lW,h2];have:=goon _ Nd;rw[hv] at this;exact this
  .rw[if_pos ((Wb lW).trans h1)]
   refine .inl ?_;obtain⟨rfl,Nd⟩:=aY.next lG hc ho aC hn Mv hw;show o.upon P ⟨t,d⟩ _ Q ((aS (bH t d).eval o).run P (Wd n));rw[mH,Ei (K.sel i o ho) lW,h2];have:=goon _ Nd;have e:∀x y,cC ⟨t,d⟩ o.dst x=cC ⟨t,d⟩ o.dst y:=λx y=>by rw[hd];rfl
   rw[e _ u] at this;exact this
def zDA {id:Nat}{w:aE}{d:List E8}(hm:P.follows .mixedOrders=true)(bV:It ops=true)(lG:ws.Nodup)(hc:If ops ws=true)(h0:Wd 0={w with drawn:=w.drawn+1})(hT:dC ops vals t0=Tf)
 (hop:∀(i:Nat) (o:aZ),ops[i]? =some o->bP P ops ws Wd Tf i o (vals i)) (hk:Q .normal ⟨Tf,d⟩ (Wd ws.length)):(Code.region id ops true).wp P Q ⟨t0,d⟩ w:=by
 refine wp_region_any hm ?_;have K:=S3 bV;subst hT;rw[<-h0];refine zI2 K lG hc (Tg K) hop hk ops.size _ t0 0 aQ (eG (zc2 _ _) aQ) (rT.start _ λi=>by by_cases hi:i<ops.size<;>simp[hi]) ⟨λi o _ hl=>?_,jY _,λn i hn=>?_⟩
 .exfalso
  by_cases hi:i<ops.size<;>simp[hi] at hl
 .constructor
  .intro hl
   exfalso;by_cases hi:i<ops.size<;>simp[hi] at hl
  .intro x;omega
def Jp {id:Nat}{w:aE}{d:List E8}(hm:P.follows .mixedOrders=true)(bV:It ops=true)(lG:ws.Nodup)(hc:If ops ws=true)(h0:Wd 0={w with drawn:=w.drawn+1})(cJ:∀s,Ha ops s=true->s<t0.size)
 (h:∀V:Nat->aF,(∀(i:Nat) (o:aZ) (d:Tmp),ops[i]? =some o->o.dst=some d->V d=vals i)->(∀s,Ha ops s=false->V s=t0.getD s aA)->
  ∀Tf,xA Tf V->∀(i:Nat) (o:aZ),ops[i]? =some o->bP P ops ws Wd Tf i o (Va V o)) (hk:Q .normal ⟨dC ops vals t0,d⟩ (Wd ws.length)):(Code.region id ops true).wp P Q ⟨t0,d⟩ w:=by
 have K:=S3 bV;have M:=Tg (vals:=vals) (t0:=t0) K
 let Tf:=dC ops vals t0
 have zii:∀(i:Nat) (o:aZ) (d:Tmp),ops[i]? =some o->o.dst=some d->Tf.getD d aA=vals i:=λi o d h1 h2=>by
  have Ch:=(dO.1 h1).1;rw[tZ,M.got i o d h1 h2 (cJ d (zih h1 h2)) (by simp[Ch])];rfl
 have zp2:∀s,Ha ops s=false->Tf.getD s aA=t0.getD s undef:=λs hs=>by
  rw[tZ,M.old s (λi o h1 _ h2=>by rw[zih h1 h2] at hs;cases hs),tZ]
 have hop:=h (λs=>Tf.getD s aA) zii zp2 Tf (λs=>rfl)
 let Zd:Nat->Value:=λi=>match ops[i]? with|some o=>Va (λs=>Tf.getD s aA) o|none=>aA
 have e:dC ops Zd t0=dC ops vals t0:=by
  refine(Tg (vals:=Zd) K).unique ⟨M.size,λi o d h1 h2 h3 h4=>?_,M.old⟩;rw[M.got i o d h1 h2 h3 h4];show some (vals i)=some (match ops[i]? with|some o=>Va (λs=>Tf.getD s aA) o|none=>aA);rw[h1];simp only[Va,h2];rw[zii i o d h1 h2]
 refine zDA hm bV lG hc h0 e (λi o h1=>?_) hk;have e2:Zd i=Va (λs=>Tf.getD s aA) o:=by
  show(match ops[i]? with|some o=>Va (λs=>Tf.getD s aA) o|none=>aA)=_;rw[h1]
 rw[e2];exact hop i o h1
end
end Go.Mt
namespace Go.Mt
open Go.Conc Go.Tt Go.RowKit
section
variable {P:bS}{ops:Array aZ}{ws:List Nat}{Wd:Nat->aE}{Tf:Array aF}{V:Nat->aF}{i d:Nat}{o:aZ}{v:aF}
def bP.pv (hn:i∉ws:=by decide)(h:dD o (dR ops Tf)=true:=by exact eB rfl)(hv:V d=v:=by assumption)
 (hx:∀w,(aS (bH Tf []).eval o).run P w=.ok (.value v) w:=by intro w;unfold execOp;go_simp):bP P ops ws Wd Tf i o (V d):=hv▸ .val hn h λ_ _ _=>hx _
def early (ops:Array aZ)(ws:List Nat)(i:Nat):Bool:=(gN ws.length).all λk=>!za0 ops ws i (k+1)
def bP.ld {w0:aE}(h0:Wd 0=w0:=by assumption)(hn:i∉ws:=by decide)(h:dD o (dR ops Tf)=true:=by exact eB rfl)(hv:V d=v:=by assumption)(hm:early ops ws i=true:=by decide+kernel)
 (hx:(aS (bH Tf []).eval o).run P w0=.ok (.value v) w0:=by unfold execOp;go_simp):bP P ops ws Wd Tf i o (V d):=hv▸ .val hn h λk hk zdS=>by
 rcases k with _|k
 .rw[h0];exact hx
 .have:=tK.1 hm k (Bd.2 aC)
  rw[zdS] at this;cases this
def bP.any (hx:∀k,k<=ws.length->za0 ops ws i k=true->(aS (bH Tf []).eval o).run P (Wd k)=.ok (.value v) (Wd k))(hn:i∉ws:=by decide)(h:dD o (dR ops Tf)=true:=by exact eB rfl)(hv:V d=v:=by assumption):bP P ops ws Wd Tf i o (V d):=
 hv▸ .val hn h hx
def zipV (V:Nat->aF):List (Option Nat)->List aF->Prop
 |some d::D,v::l=>V d=v/\zipV V D l
 |none::D,_::l=>zipV V D l
 |_,_=>True
def zkU:∀(D:List (Option Nat)) (l:List aF),(∀(i:Nat) (d:Nat),D[i]? =some (some d)->i<l.length->V d=l.getD i aA)->zipV V D l
 |some d::D,v::l,h=>⟨h 0 d rfl aQ,zkU D l λi d' e hi=>by simpa using h (i+1) d' (by simpa using e) zgI⟩
 |none::D,_::l,h=>zkU D l λi d' e hi=>by simpa using h (i+1) d' (by simpa using e) zgI
 |[],_,_=>trivial
 |some _::_,[],_=>trivial
 |none::_,[],_=>trivial
def Hx {l:List aF}{D:List (Option Nat)}(hD:ops.toList.map (·.dst)=D)(hU:∀(i:Nat) (o:aZ) (d:Tmp),ops[i]? =some o->o.dst=some d->V d=l.getD i aA):zipV V D l:=
 zkU D l λi d e _=>by
  rw[<-hD,List.getElem?_map] at e;obtain⟨o,h1,h2⟩:=xK.1 e;exact hU i o d (by rw[<-Ap];exact h1) h2
end
end Go.Mt
namespace Go.Proofs.YtfcjiloojkjaeaaGreatDoor
open Go.RowKit Go.Mt Go.Conc Go.Tt Go.Maps
def bodyRG:Go.Code:=(Tryz.f63.body).getD .skip
def rRG7:Go.Code:=match bodyRG with| .seq _ (.seq _ (.seq _ (.seq (a) _)))=>a|_=>.skip
def ze5:Array Oper:=match rRG7 with| .region _ ops _=>ops|_=>#[]
def zqC:ze5.toList=[⟨some 36,.fieldAddr 59 (.tmp 2) 2,0,"l6_office.go:151",#[],none⟩,⟨some 37,.load 45 (.tmp 36),45,"l6_office.go:151",#[⟨0,.data⟩],none⟩,⟨some 38,.fieldAddr 100 (.tmp 3) 0,0,"l6_office.go:151",#[],none⟩,⟨some 39,.load 3 (.tmp 38),3,"l6_office.go:151",#[⟨2,.data⟩],none⟩,⟨some 40,.move (.tmp 6),38,"l6_office.go:151",#[],none⟩,⟨some 41,.indexAddr 38 (.tmp 40) (.const (.int .i64 0)),0,"l6_office.go:151",#[⟨4,.data⟩],none⟩,⟨some 42,.load 3 (.tmp 41),3,"l6_office.go:151",#[⟨5,.data⟩],none⟩,⟨some 43,.fieldAddr 59 (.tmp 2) 1,0,"l6_office.go:151",#[],none⟩,⟨some 44,.load 3 (.tmp 43),3,"l6_office.go:151",#[⟨7,.data⟩],none⟩,⟨some 45,.build 50 #[(0,.tmp 39),(1,.tmp 42),(3,.tmp 44),(4,.const (.int .i64 (-1))),(5,.const (.int .i64 (-1))),(6,.const (.string {data:=#[111,112,101,110]}))],50,"l6_office.go:151",#[⟨3,.data⟩,⟨6,.data⟩,⟨8,.data⟩],none⟩,⟨some 46,.buildSlice 45 1 #[(0,.tmp 45)],45,"l6_office.go:151",#[⟨9,.data⟩],none⟩,⟨some 47,.call ⟨.builtin .append,#[.tmp 37,.tmp 46],#[45,45]⟩,45,"l6_office.go:151",#[⟨1,.data⟩,⟨10,.data⟩],none⟩,⟨some 48,.fieldAddr 59 (.tmp 2) 2,0,"l6_office.go:151",#[⟨0,.phase⟩,⟨1,.phase⟩,⟨2,.phase⟩,⟨3,.phase⟩,⟨4,.phase⟩,⟨5,.phase⟩,⟨6,.phase⟩,⟨7,.phase⟩,⟨8,.phase⟩,⟨9,.phase⟩,⟨10,.phase⟩,⟨11,.phase⟩],none⟩,⟨none,.store 45 (.tmp 48) (.tmp 47),0,"l6_office.go:151",#[⟨12,.data⟩,⟨11,.data⟩,⟨11,.chain⟩,⟨0,.phase⟩,⟨1,.phase⟩,⟨2,.phase⟩,⟨3,.phase⟩,⟨4,.phase⟩,⟨5,.phase⟩,⟨6,.phase⟩,⟨7,.phase⟩,⟨8,.phase⟩,⟨9,.phase⟩,⟨10,.phase⟩,⟨11,.phase⟩],none⟩]:=rfl
def WRG7 (w w3:aE)(gb gf gR nR cR g1 c1 nf cf:Nat)(cc l clk:Int):Nat->aE
 |0=>w.drew
 |1=>(w.alloc (.cells #[.int .i64 cc,.int .i64 l,.int .i64 0,.int .i64 clk,.int .i64 (-1),.int .i64 (-1),.string eM] 50)).drew
 |2=>w3
 |_=>w3.setCell ⟨gb,4,none⟩ (.slice (some ⟨g1,0,none⟩) (nR+1) c1)
def zsG:ze5.toList.map (·.dst)=[some 36,some 37,some 38,some 39,some 40,some 41,some 42,some 43,some 44,some 45,some 46,some 47,some 48,none]:=by rw[zqC];rfl
def lRG7 (w w3:aE)(gb gf gR nR cR g1 c1 nf cf:Nat)(cc l clk:Int):List Value:=[.pointer (some ⟨gb,4,none⟩),.slice (some ⟨gR,0,none⟩) nR cR,.pointer (some ⟨gb+1,0,none⟩),.int .i64 (cc),.slice (some ⟨gf,0,none⟩) nf cf,.pointer (some ⟨gf,0,none⟩),.int .i64 (l),.pointer (some ⟨gb,3,none⟩),.int .i64 (clk),.agg #[.int .i64 cc,.int .i64 l,.int .i64 0,.int .i64 clk,.int .i64 (-1),.int .i64 (-1),.string eM],.slice (some ⟨w.heap.size,0,none⟩) 1 1,.slice (some ⟨g1,0,none⟩) (nR+1) c1,.pointer (some ⟨gb,4,none⟩),aA]
def fRG7 (w w3:aE)(gb gf gR nR cR g1 c1 nf cf:Nat)(cc l clk:Int)(i:Nat):Value:=(lRG7 w w3 gb gf gR nR cR g1 c1 nf cf cc l clk).getD i aA
variable {Q:Exit->uA->aE->Prop}{d:List E8}{t0:Array aF}
def wp_RG7 (w w3:aE)(gb gf gR nR cR g1 c1 nf cf:Nat)(cc l clk:Int)(hz:t0.size=60)(Rq:t0.getD 2 aA=.pointer (some ⟨gb,0,none⟩))(zko:t0.getD 3 aA=.pointer (some ⟨gb+1,0,none⟩))(zbm:t0.getD 6 aA=.slice (some ⟨gf,0,none⟩) nf cf)(h3:w.cell? ⟨gb,3,none⟩=some (.int .i64 clk))(h4:w.cell? ⟨gb,4,none⟩=some (.slice (some ⟨gR,0,none⟩) nR cR))(hq:w.cell? ⟨gb+1,0,none⟩=some (.int .i64 cc))(hf:w.cell? ⟨gf,0,none⟩=some (.int .i64 l))(D4:0<nf)(fN:(xF #[45,45] 45 #[.slice (some ⟨gR,0,none⟩) nR cR,.slice (some ⟨w.heap.size,0,none⟩) 1 1]).run aK ((w.alloc (.cells #[.int .i64 cc,.int .i64 l,.int .i64 0,.int .i64 clk,.int .i64 (-1),.int .i64 (-1),.string eM] 50)).drew)=.ok (.slice (some ⟨g1,0,none⟩) (nR+1) c1) w3)(aY:w3.cell? ⟨gb,4,none⟩=some (.slice (some ⟨gR,0,none⟩) nR cR))(mU:w3.frozen? ⟨gb,4,none⟩=false)(h0:WRG7 w w3 gb gf gR nR cR g1 c1 nf cf cc l clk 0=w.drew)(hk:Q .normal ⟨dC ze5 (fRG7 w w3 gb gf gR nR cR g1 c1 nf cf cc l clk) t0,d⟩ (w3.setCell ⟨gb,4,none⟩ (.slice (some ⟨g1,0,none⟩) (nR+1) c1))):
 (E7 7 ze5 true).wp aK Q ⟨t0,d⟩ w:=by
 refine Jp (ws:=[10,11,13]) (Wd:=WRG7 w w3 gb gf gR nR cR g1 c1 nf cf cc l clk) (vals:=fRG7 w w3 gb gf gR nR cR g1 c1 nf cf cc l clk) vE.mixed aP aH aP h0 Jf (λV hU hV=>?_) hk;obtain⟨zzF,ztx,ztg,zmL,zmo,zsw,zuX,ziX,zwA,zkR,Xw,zcc,zlw,-⟩:=Hx zsG hU;have e2:=(hV 2 aP).trans Rq;have e3:=(hV 3 aP).trans zko;have e6:=(hV 6 aP).trans zbm;have zeh:=h3;have Kk:=h4;have Ol:=hq;have At:=hf;refine λTf hT=>Jm zqC ⟨bP.pv,bP.any (λkk fO hm=>?_),bP.pv,bP.ld,bP.pv,bP.any (λkk fO hm=>?_),bP.ld,bP.pv,bP.ld,bP.any (λkk fO hm=>?_),bP.act (v:=V 46) 0 rfl (eB rfl) ?_,bP.act (v:=V 47) 1 rfl (eB rfl) ?_,bP.pv,.skp 2 rfl (eB rfl) rfl ?_,trivial⟩
 .rcases kk with _|_|_|_|kk
  .show(aS _ _).run _ (w.drew)=vU _ (w.drew);have hh:=h4;unfold aS;go_simp
  .show(aS _ _).run _ ((w.alloc (.cells #[.int .i64 cc,.int .i64 l,.int .i64 0,.int .i64 clk,.int .i64 (-1),.int .i64 (-1),.string eM] 50)).drew)=vU _ ((w.alloc (.cells #[.int .i64 cc,.int .i64 l,.int .i64 0,.int .i64 clk,.int .i64 (-1),.int .i64 (-1),.string eM] 50)).drew);have hh:=Aa h4 (.cells #[.int .i64 cc,.int .i64 l,.int .i64 0,.int .i64 clk,.int .i64 (-1),.int .i64 (-1),.string eM] 50);unfold aS;go_simp
  .exact absurd hm G7
  .exact absurd hm G7
  .simp at fO
 .have aT:nf≠0:=by have:=D4;omega
  unfold aS;go_simp
 .unfold aS;go_simp;rfl
 .rw[Xw];show(aS _ _).run _ (w.drew)=vU _ ((w.alloc (.cells #[.int .i64 cc,.int .i64 l,.int .i64 0,.int .i64 clk,.int .i64 (-1),.int .i64 (-1),.string eM] 50)).drew);unfold aS;go_simp
 .rw[zcc];exact zal rfl (nL hT ztx) (nL hT Xw) fN
 .have hs:=aY;have hf:=mU;show(aS _ _).run _ (w3)=vU _ (w3.setCell ⟨gb,4,none⟩ (.slice (some ⟨g1,0,none⟩) (nR+1) c1));unfold aS;go_simp
def bodyRU:Go.Code:=(Tryz.f65.body).getD .skip
def rRU10:Go.Code:=match bodyRU with| .seq _ (.seq _ (.seq _ (.seq _ (.seq _ (.seq (a) _)))))=>a|_=>.skip
def zdD:Array Oper:=match rRU10 with| .region _ ops _=>ops|_=>#[]
def zxu:zdD.toList=[⟨some 38,.fieldAddr 59 (.tmp 2) 2,0,"l6_office.go:185",#[],none⟩,⟨some 39,.load 45 (.tmp 38),45,"l6_office.go:185",#[⟨0,.data⟩],none⟩,⟨some 40,.fieldAddr 100 (.tmp 7) 0,0,"l6_office.go:185",#[],none⟩,⟨some 41,.load 3 (.tmp 40),3,"l6_office.go:185",#[⟨2,.data⟩],none⟩,⟨some 42,.move (.tmp 6),38,"l6_office.go:185",#[],none⟩,⟨some 43,.indexAddr 38 (.tmp 42) (.const (.int .i64 0)),0,"l6_office.go:185",#[⟨4,.data⟩],none⟩,⟨some 44,.load 3 (.tmp 43),3,"l6_office.go:185",#[⟨5,.data⟩],none⟩,⟨some 45,.move (.tmp 1),3,"l6_office.go:185",#[],none⟩,⟨some 46,.fieldAddr 59 (.tmp 2) 1,0,"l6_office.go:185",#[],none⟩,⟨some 47,.load 3 (.tmp 46),3,"l6_office.go:185",#[⟨8,.data⟩],none⟩,⟨some 48,.fieldAddr 59 (.tmp 2) 1,0,"l6_office.go:185",#[],none⟩,⟨some 49,.load 3 (.tmp 48),3,"l6_office.go:185",#[⟨10,.data⟩],none⟩,⟨some 50,.build 50 #[(0,.tmp 41),(1,.tmp 44),(2,.tmp 45),(3,.tmp 47),(4,.tmp 49),(5,.const (.int .i64 (-1))),(6,.const (.string {data:=#[111,112,101,110]}))],50,"l6_office.go:185",#[⟨3,.data⟩,⟨6,.data⟩,⟨7,.data⟩,⟨9,.data⟩,⟨11,.data⟩],none⟩,⟨some 51,.buildSlice 45 1 #[(0,.tmp 50)],45,"l6_office.go:185",#[⟨12,.data⟩],none⟩,⟨some 52,.call ⟨.builtin .append,#[.tmp 39,.tmp 51],#[45,45]⟩,45,"l6_office.go:185",#[⟨1,.data⟩,⟨13,.data⟩],none⟩,⟨some 53,.fieldAddr 59 (.tmp 2) 2,0,"l6_office.go:185",#[⟨0,.phase⟩,⟨1,.phase⟩,⟨2,.phase⟩,⟨3,.phase⟩,⟨4,.phase⟩,⟨5,.phase⟩,⟨6,.phase⟩,⟨7,.phase⟩,⟨8,.phase⟩,⟨9,.phase⟩,⟨10,.phase⟩,⟨11,.phase⟩,⟨12,.phase⟩,⟨13,.phase⟩,⟨14,.phase⟩],none⟩,⟨none,.store 45 (.tmp 53) (.tmp 52),0,"l6_office.go:185",#[⟨15,.data⟩,⟨14,.data⟩,⟨14,.chain⟩,⟨0,.phase⟩,⟨1,.phase⟩,⟨2,.phase⟩,⟨3,.phase⟩,⟨4,.phase⟩,⟨5,.phase⟩,⟨6,.phase⟩,⟨7,.phase⟩,⟨8,.phase⟩,⟨9,.phase⟩,⟨10,.phase⟩,⟨11,.phase⟩,⟨12,.phase⟩,⟨13,.phase⟩,⟨14,.phase⟩],none⟩]:=rfl
def WRU10 (w w3:aE)(gb gc gf gR nR cR g1 c1 nf cf:Nat)(cc l op clk:Int):Nat->aE
 |0=>w.drew
 |1=>(w.alloc (.cells #[.int .i64 cc,.int .i64 l,.int .i64 op,.int .i64 clk,.int .i64 clk,.int .i64 (-1),.string eM] 50)).drew
 |2=>w3
 |_=>w3.setCell ⟨gb,4,none⟩ (.slice (some ⟨g1,0,none⟩) (nR+1) c1)
def zwS:zdD.toList.map (·.dst)=[some 38,some 39,some 40,some 41,some 42,some 43,some 44,some 45,some 46,some 47,some 48,some 49,some 50,some 51,some 52,some 53,none]:=by rw[zxu];rfl
def lRU10 (w w3:aE)(gb gc gf gR nR cR g1 c1 nf cf:Nat)(cc l op clk:Int):List Value:=[.pointer (some ⟨gb,4,none⟩),.slice (some ⟨gR,0,none⟩) nR cR,.pointer (some ⟨gc,0,none⟩),.int .i64 (cc),.slice (some ⟨gf,0,none⟩) nf cf,.pointer (some ⟨gf,0,none⟩),.int .i64 (l),.int .i64 (op),.pointer (some ⟨gb,3,none⟩),.int .i64 (clk),.pointer (some ⟨gb,3,none⟩),.int .i64 (clk),.agg #[.int .i64 cc,.int .i64 l,.int .i64 op,.int .i64 clk,.int .i64 clk,.int .i64 (-1),.string eM],.slice (some ⟨w.heap.size,0,none⟩) 1 1,.slice (some ⟨g1,0,none⟩) (nR+1) c1,.pointer (some ⟨gb,4,none⟩),aA]
def ziK (w w3:aE)(gb gc gf gR nR cR g1 c1 nf cf:Nat)(cc l op clk:Int)(i:Nat):Value:=(lRU10 w w3 gb gc gf gR nR cR g1 c1 nf cf cc l op clk).getD i aA
def wp_RU10 (w w3:aE)(gb gc gf gR nR cR g1 c1 nf cf:Nat)(cc l op clk:Int)(hz:t0.size=59)(Ej:t0.getD 1 aA=.int .i64 (op))(Rq:t0.getD 2 aA=.pointer (some ⟨gb,0,none⟩))(zbm:t0.getD 6 aA=.slice (some ⟨gf,0,none⟩) nf cf)(Ev:t0.getD 7 aA=.pointer (some ⟨gc,0,none⟩))(h3:w.cell? ⟨gb,3,none⟩=some (.int .i64 clk))(h4:w.cell? ⟨gb,4,none⟩=some (.slice (some ⟨gR,0,none⟩) nR cR))(hq:w.cell? ⟨gc,0,none⟩=some (.int .i64 cc))(hf:w.cell? ⟨gf,0,none⟩=some (.int .i64 l))(D4:0<nf)(fN:(xF #[45,45] 45 #[.slice (some ⟨gR,0,none⟩) nR cR,.slice (some ⟨w.heap.size,0,none⟩) 1 1]).run aK ((w.alloc (.cells #[.int .i64 cc,.int .i64 l,.int .i64 op,.int .i64 clk,.int .i64 clk,.int .i64 (-1),.string eM] 50)).drew)=.ok (.slice (some ⟨g1,0,none⟩) (nR+1) c1) w3)(aY:w3.cell? ⟨gb,4,none⟩=some (.slice (some ⟨gR,0,none⟩) nR cR))(mU:w3.frozen? ⟨gb,4,none⟩=false)(h0:WRU10 w w3 gb gc gf gR nR cR g1 c1 nf cf cc l op clk 0=w.drew)(hk:Q .normal ⟨dC zdD (ziK w w3 gb gc gf gR nR cR g1 c1 nf cf cc l op clk) t0,d⟩ (w3.setCell ⟨gb,4,none⟩ (.slice (some ⟨g1,0,none⟩) (nR+1) c1))):
 (E7 10 zdD true).wp aK Q ⟨t0,d⟩ w:=by
 refine Jp (ws:=[13,14,16]) (Wd:=WRU10 w w3 gb gc gf gR nR cR g1 c1 nf cf cc l op clk) (vals:=ziK w w3 gb gc gf gR nR cR g1 c1 nf cf cc l op clk) vE.mixed aP aH aP h0 Jf (λV hU hV=>?_) hk;obtain⟨ztg,zmL,zmo,zsw,zuX,ziX,zwA,zkR,Xw,zcc,zlw,Y0,zgp,Wk,Wq,zm7,-⟩:=Hx zwS hU;have e1:=(hV 1 aP).trans Ej;have e2:=(hV 2 aP).trans Rq;have e6:=(hV 6 aP).trans zbm;have e7:=(hV 7 aP).trans Ev;have zeh:=h3;have Kk:=h4;have Ol:=hq;have At:=hf;refine λTf hT=>Jm zxu ⟨bP.pv,bP.any (λkk fO hm=>?_),bP.pv,bP.ld,bP.pv,bP.any (λkk fO hm=>?_),bP.ld,bP.pv,bP.pv,bP.ld,bP.pv,bP.ld,bP.any (λkk fO hm=>?_),bP.act (v:=V 51) 0 rfl (eB rfl) ?_,bP.act (v:=V 52) 1 rfl (eB rfl) ?_,bP.pv,.skp 2 rfl (eB rfl) rfl ?_,trivial⟩
 .rcases kk with _|_|_|_|kk
  .show(aS _ _).run _ (w.drew)=vU _ (w.drew);have hh:=h4;unfold aS;go_simp
  .show(aS _ _).run _ ((w.alloc (.cells #[.int .i64 cc,.int .i64 l,.int .i64 op,.int .i64 clk,.int .i64 clk,.int .i64 (-1),.string eM] 50)).drew)=vU _ ((w.alloc (.cells #[.int .i64 cc,.int .i64 l,.int .i64 op,.int .i64 clk,.int .i64 clk,.int .i64 (-1),.string eM] 50)).drew);have hh:=Aa h4 (.cells #[.int .i64 cc,.int .i64 l,.int .i64 op,.int .i64 clk,.int .i64 clk,.int .i64 (-1),.string eM] 50);unfold aS;go_simp
  .exact absurd hm G7
  .exact absurd hm G7
  .simp at fO
 .have aT:nf≠0:=by have:=D4;omega
  unfold aS;go_simp
 .unfold aS;go_simp;rfl
 .rw[Wk];show(aS _ _).run _ (w.drew)=vU _ ((w.alloc (.cells #[.int .i64 cc,.int .i64 l,.int .i64 op,.int .i64 clk,.int .i64 clk,.int .i64 (-1),.string eM] 50)).drew);unfold aS;go_simp
 .rw[Wq];exact zal rfl (nL hT zmL) (nL hT Wk) fN
 .have hs:=aY;have hf:=mU;show(aS _ _).run _ (w3)=vU _ (w3.setCell ⟨gb,4,none⟩ (.slice (some ⟨g1,0,none⟩) (nR+1) c1));unfold aS;go_simp
def bodyWT:Go.Code:=(Tryz.f67.body).getD .skip
def rWT10:Go.Code:=match bodyWT with| .seq _ (.seq _ (.seq _ (.seq _ (.seq (.seq _ (.block _ (.loop (.seq _ (.seq (.block _ (.seq _ (.seq _ (.cond _ (.seq _ (.seq (a) _)) _)))) _))))) _))))=>a|_=>.skip
def zg1:Array Oper:=match rWT10 with| .region _ ops _=>ops|_=>#[]
def zoK:zg1.toList=[⟨some 51,.fieldAddr 59 (.tmp 2) 4,0,"l6_office.go:213",#[],none⟩,⟨some 52,.load 57 (.tmp 51),57,"l6_office.go:213",#[⟨0,.data⟩],none⟩,⟨some 53,.move (.tmp 7),57,"l6_office.go:213",#[],none⟩,⟨some 54,.move (.tmp 8),3,"l6_office.go:213",#[],none⟩,⟨some 55,.indexAddr 57 (.tmp 53) (.tmp 54),0,"l6_office.go:213",#[⟨2,.data⟩,⟨3,.data⟩],none⟩,⟨some 56,.load 100 (.tmp 55),100,"l6_office.go:213",#[⟨4,.data⟩],none⟩,⟨some 57,.buildSlice 57 1 #[(0,.tmp 56)],57,"l6_office.go:213",#[⟨5,.data⟩],none⟩,⟨some 58,.call ⟨.builtin .append,#[.tmp 52,.tmp 57],#[57,57]⟩,57,"l6_office.go:213",#[⟨1,.data⟩,⟨6,.data⟩],none⟩,⟨some 59,.fieldAddr 59 (.tmp 2) 4,0,"l6_office.go:213",#[⟨0,.phase⟩,⟨1,.phase⟩,⟨2,.phase⟩,⟨3,.phase⟩,⟨4,.phase⟩,⟨5,.phase⟩,⟨6,.phase⟩,⟨7,.phase⟩],none⟩,⟨none,.store 57 (.tmp 59) (.tmp 58),0,"l6_office.go:213",#[⟨8,.data⟩,⟨7,.data⟩,⟨7,.chain⟩,⟨0,.phase⟩,⟨1,.phase⟩,⟨2,.phase⟩,⟨3,.phase⟩,⟨4,.phase⟩,⟨5,.phase⟩,⟨6,.phase⟩,⟨7,.phase⟩],none⟩]:=rfl
def WWT10 (w w3:aE)(gb gW nW cW gB nB cB g1 c1 k:Nat)(xc xp:Int):Nat->aE
 |0=>w.drew
 |1=>(w.alloc (.cells #[.int .i64 xc,.int .i64 xp] 100)).drew
 |2=>w3
 |_=>w3.setCell ⟨gb,6,none⟩ (.slice (some ⟨g1,0,none⟩) (nB+1) c1)
def zxY:zg1.toList.map (·.dst)=[some 51,some 52,some 53,some 54,some 55,some 56,some 57,some 58,some 59,none]:=by rw[zoK];rfl
def lWT10 (w w3:aE)(gb gW nW cW gB nB cB g1 c1 k:Nat)(xc xp:Int):List Value:=[.pointer (some ⟨gb,6,none⟩),.slice (some ⟨gB,0,none⟩) nB cB,.slice (some ⟨gW,0,none⟩) nW cW,.int .i64 (k:Int),.pointer (some ⟨gW,k*2,none⟩),.agg #[.int .i64 xc,.int .i64 xp],.slice (some ⟨w.heap.size,0,none⟩) 1 1,.slice (some ⟨g1,0,none⟩) (nB+1) c1,.pointer (some ⟨gb,6,none⟩),aA]
def zlH (w w3:aE)(gb gW nW cW gB nB cB g1 c1 k:Nat)(xc xp:Int)(i:Nat):Value:=(lWT10 w w3 gb gW nW cW gB nB cB g1 c1 k xc xp).getD i aA
def wp_WT10 (w w3:aE)(gb gW nW cW gB nB cB g1 c1 k:Nat)(xc xp:Int)(hz:t0.size=71)(Rq:t0.getD 2 aA=.pointer (some ⟨gb,0,none⟩))(Ev:t0.getD 7 aA=.slice (some ⟨gW,0,none⟩) nW cW)(zj8:t0.getD 8 aA=.int .i64 (k:Int))(h6:w.cell? ⟨gb,6,none⟩=some (.slice (some ⟨gB,0,none⟩) nB cB))(sV:w.cell? ⟨gW,k*2,none⟩=some (.int .i64 xc))(Et:w.cell? ⟨gW,k*2+1,none⟩=some (.int .i64 xp))(sX:k<nW)(fN:(xF #[57,57] 57 #[.slice (some ⟨gB,0,none⟩) nB cB,.slice (some ⟨w.heap.size,0,none⟩) 1 1]).run aK ((w.alloc (.cells #[.int .i64 xc,.int .i64 xp] 100)).drew)=.ok (.slice (some ⟨g1,0,none⟩) (nB+1) c1) w3)(aY:w3.cell? ⟨gb,6,none⟩=some (.slice (some ⟨gB,0,none⟩) nB cB))(mU:w3.frozen? ⟨gb,6,none⟩=false)(h0:WWT10 w w3 gb gW nW cW gB nB cB g1 c1 k xc xp 0=w.drew)(hk:Q .normal ⟨dC zg1 (zlH w w3 gb gW nW cW gB nB cB g1 c1 k xc xp) t0,d⟩ (w3.setCell ⟨gb,6,none⟩ (.slice (some ⟨g1,0,none⟩) (nB+1) c1))):
 (E7 10 zg1 true).wp aK Q ⟨t0,d⟩ w:=by
 refine Jp (ws:=[6,7,9]) (Wd:=WWT10 w w3 gb gW nW cW gB nB cB g1 c1 k xc xp) (vals:=zlH w w3 gb gW nW cW gB nB cB g1 c1 k xc xp) vE.mixed aP aH aP h0 Jf (λV hU hV=>?_) hk;obtain⟨Wk,Wq,zm7,zxC,zKm,zKf,zsk,zou,zH0,-⟩:=Hx zxY hU;have e2:=(hV 2 aP).trans Rq;have e7:=(hV 7 aP).trans Ev;have e8:=(hV 8 aP).trans zj8;have zLl:=h6;have zMM:=sV;have zKj:=Et;refine λTf hT=>Jm zoK ⟨bP.pv,bP.any (λkk fO hm=>?_),bP.pv,bP.pv,bP.any (λkk fO hm=>?_),bP.ld,bP.act (v:=V 57) 0 rfl (eB rfl) ?_,bP.act (v:=V 58) 1 rfl (eB rfl) ?_,bP.pv,.skp 2 rfl (eB rfl) rfl ?_,trivial⟩
 .rcases kk with _|_|_|_|kk
  .show(aS _ _).run _ (w.drew)=vU _ (w.drew);have hh:=h6;unfold aS;go_simp
  .show(aS _ _).run _ ((w.alloc (.cells #[.int .i64 xc,.int .i64 xp] 100)).drew)=vU _ ((w.alloc (.cells #[.int .i64 xc,.int .i64 xp] 100)).drew);have hh:=Aa h6 (.cells #[.int .i64 xc,.int .i64 xp] 100);unfold aS;go_simp
  .exact absurd hm G7
  .exact absurd hm G7
  .simp at fO
 .have i0:(0:Int)<=(k:Int):=aC
  have i1:(k:Int)<(nW:Int):=by have:=sX;omega
  unfold aS;go_simp
 .rw[zsk];show(aS _ _).run _ (w.drew)=vU _ ((w.alloc (.cells #[.int .i64 xc,.int .i64 xp] 100)).drew);unfold aS;go_simp
 .rw[zou];exact zal rfl (nL hT Wq) (nL hT zsk) fN
 .have hs:=aY;have hf:=mU;show(aS _ _).run _ (w3)=vU _ (w3.setCell ⟨gb,6,none⟩ (.slice (some ⟨g1,0,none⟩) (nB+1) c1));unfold aS;go_simp
end Go.Proofs.YtfcjiloojkjaeaaGreatDoor
namespace Go.Proofs.YtfcjiloojkjaeaaGreatDoor
open Go.RowKit
def Yh (lo:Nat)(v:fM)(w:aE)(bt:b7×List UInt8)(x:Ending)(w':aE):Prop:=
 ∃v',x=.returned (.tuple #[.agg (fS v' bt.1),.string ⟨bt.2.toArray⟩])/\eA w' lo v' bt.1/\oK v w w'/\wS w.heap.size v v'
structure Q0 (r:b7):Prop where
 off:rR r.o=true
 nr:r.recs.length<=1000
 nw:r.wait.length<=1000
 nb:r.back.length<=5000
 nl:r.log.length<=1000
 clk:0<=r.clk/\r.clk<=100000
abbrev Gq (c:bJ):Obj:=.cells #[.int .i64 c.c,.int .i64 c.p] 100
variable {o:Option Nat}{i:Nat}
def Yo (h:o=some i):F0 o=(i:Int):=by rw[h];rfl
def zfG (h:o=none):F0 o= -1:=by rw[h];rfl
variable {o:jD}{rs:List bT}{l:Int}
def zdk (h:l∈oJ o rs):1<=l/\l<=o.ln:=by
 unfold oJ x6 at h;rw[Iy,Ir] at h;obtain⟨⟨i,hi,rfl⟩,_⟩:=h;rw[Bd] at hi;omega
variable {b:b7}
def zvw {c:bJ}(h:(jJ b.recs c.c).isSome=true\/(vD b.back c.c).isSome=true):qB b c=(b,[107,110,111,119,110]):=by
 unfold qB;rw[if_pos (by rcases h with h|h<;>simp[h])]
def zBb (lo:Nat)(v:fM)(r:b7)(c:bJ)(w:aE)(h:eA w lo v r)(hs:Q0 r)(dQ:lo<=w.heap.size):
 fH aK 63 #[.agg (fS v r),.agg #[.int .i64 c.c,.int .i64 c.p]] w (Yh lo v w (qB r c)):=by
 obtain⟨gb,eV⟩:=aU w.heap.size;have hl:=h.lts;obtain⟨O,hO⟩:=aU (.cells (fS v r) 59:Obj);obtain⟨C,hC⟩:=aU (.cells #[.int .i64 c.c,.int .i64 c.p] 100:Obj);obtain⟨Z,hZ⟩:=aU (jW:Obj);have gV:(((w.alloc O).alloc C).alloc Z).heap[gb]? =some (G4 v r):=by rw[hO,eV];exact dJ (dJ (lQ _ _) _) _
 have o5:(((w.alloc O).alloc C).alloc Z).heap[gb+1]? =some (Gq c):=by rw[hC,eV];exact dJ (mV _ _ aQ) _
 have vA:(((w.alloc O).alloc C).alloc Z).heap[gb+2]? =some jW:=by rw[<-hZ];exact mV _ _ Xm
 have lJ:=aD (((h.alloc O).alloc C).alloc Z);have Ed:=aD (oK.of_below v (dS (dS (dS (eF w.heap.size w) O) C) Z));have oY:=aD (show(((w.alloc O).alloc C).alloc Z).heap.size=gb+3 by rw[eV];simp);have Bp:=aD gV;have zc5:=aD o5;have zun:=aD vA;have HO:=aD hO;have HC:=aD hC;have HZ:=aD (show Z=.cells #[.int .i64 0,.int .i64 0,.int .i64 0,.int .i64 0,.slice none 0 0,.slice none 0 0,.slice none 0 0,.slice none 0 0] 59 from hZ);have fQ:=aD eV;have HL:=aD hl;clear hO hC hZ eV gV o5 vA h hl
 go_enter Tryz.func63,Tryz.ntmps63
 go_upto_region 1 with fail
 rw[<-HO.o,<-HC.o,<-HZ.o,<-fQ.o];obtain⟨W1,dG⟩:=aU (((w.alloc O).alloc C).alloc Z);rw[<-dG] at Bp zc5 zun lJ Ed oY⊢;clear dG;have k:=aJ Bp.o;obtain⟨k0,k1,k2,k3,k4,k5,k6,k7⟩:=eR k;clear k;have Qh:=hs.nr
 go_upto_region 2 with(go_at_call 90;refine(zpo lo v r W1 lJ.o aC hs.off).mono ?_;rintro x w2 ⟨_,rfl,gf,cf,rfl,cV,b2⟩;have Ra:=aD cV;have rJ:=aD b2;clear cV b2)
 have lE:=aD (lJ.o.below rJ.o);have Su:=aD (Ed.o.same (oK.of_below v rJ.o));have Gs:=(eD rJ.o Bp.o).1;have Ih:=(eD rJ.o zc5.o).1;have jS:=aD (eD rJ.o zun.o).1;have zmX:=aD Gs;have zk6:=aD Ih;have zdO:=aD (show gb+3<=w2.heap.size by have:=rJ.o.size;have:=oY.o;omega);have zas:=aD (Ra.o.lt gf rfl);clear k0 k1 k2 k3 k4 k5 k6 k7;have k:=aJ Gs;obtain⟨k0,k1,k2,k3,k4,k5,k6,k7⟩:=eR k;have q:=aJ Ih;have q0:=q 0;have q1:=q 1;have r0:=eJ jS.o;have z:=aJ jS.o;obtain⟨z0,z1,z2,z3,z4,z5,z6,z7⟩:=eR z;have vJ:=aD lE.o.slcR;have Fo:=aD lE.o.slcB;have nK:=hs.nb;clear k q z Gs Ih;rcases hop:jJ r.recs c.c with _|i
 .have zcZ:=aD (zfG hop)
  rcases uO:vD r.back c.c with _|j
  .have Pa:=aD (zfG uO)
   have eW:=aD (show gP w w2 lo gb 3 v v r from⟨lE.o,Su.o,wS.refl _ _,fQ.o,zmX.o,zdO.o,aC,by have:=HL.o;have:=fQ.o;omega,by have:=HL.o;have:=fQ.o;omega,by have:=HL.o;have:=fQ.o;omega,by have:=HL.o;have:=fQ.o;omega,by rw[fQ.o];exact dQ⟩);rcases fP:oJ r.o r.recs with _|⟨l,fs⟩
   .have fD:=aD (show qB r c=({r with back:=r.back++[c]},[98,117,115,121]) by unfold qB;rw[if_neg (by simp[hop,uO]),fP])
    simp only[rY];clear hop uO fP;obtain⟨i0,fR,jN,eL,lH⟩:=zI zga;have HI:=aD fR;clear fR
    go_upto_region 6 with(first
     |(go_at_call 91;refine(Kq lo w2.heap.size r.recs.length v.cR (some ⟨v.gR,0,none⟩) r.recs c.c w2 vJ.o aC).mono ?_;rintro x w' ⟨rfl,jR⟩;obtain rfl:=jR.symm;rw[zcZ.o])
     |(go_at_call 92;refine(zar lo w2.heap.size r.back.length v.cB (some ⟨v.gB,0,none⟩) r.back c.c w2 Fo.o aC).mono ?_;rintro x w' ⟨rfl,jR⟩;obtain rfl:=jR.symm;rw[Pa.o])
     |(at_builtin;refine zjH _ rfl (.tmp 30) (.tmp 32) 57 rfl lo 100 i0 (.agg #[.int .i64 0,.int .i64 0]) 2 16 Ln HI.o jN eL lH rfl aH v.gB v.cB r.back.length (bF r.back) rfl ((lE.o.alloc _).bk) ⟨_,0,none⟩ 1 1 c.cells rfl rfl ?c2 Q7 ?c5 ?c6 ?c7 ?_;(case c2=>exact E0 (cs:=c.cells.toArray) (lQ _ _));(case c5=>unfold maxLen;omega);(case c6=>omega);(case c7=>(have:=eW.o.lob;have:=zdO.o;simp;omega));intro g1 c1 w3 sH rN B1 I5;have Bv:=aD ((eW.o.alloc _).appB rN sH rfl I5);have zJm:=aD (zE rN (dJ jS.o _) (by have:=eW.o.aB;omega));have kx:=(zE rN (dJ zmX.o _) (by have:=eW.o.aB;omega)).1;have O2:=aJ kx 6;have wK:=eJ kx;clear sH rN B1 I5 kx))
    obtain⟨W4,sS⟩:=aU (w3.setCell ⟨gb,6,none⟩ (.slice (some ⟨g1,0,none⟩) (r.back.length+1) c1));rw[<-sS] at Bv⊢;have zIg:=aD (show W4.heap[gb+2]? =some jW by rw[sS];exact(eH w3 _ _ (gb+2) zeb).trans zJm.o.1);clear sS O2 wK;obtain⟨v4,Ka⟩:=aU ({v with gB:=g1,cB:=c1}:fM);obtain⟨r4,zkD⟩:=aU ({r with back:=r.back++[c]}:b7);rw[<-Ka,<-zkD] at Bv;rw[<-zkD] at fD;clear Ka zkD;have k:=aJ Bv.o.blk;obtain⟨k0,k1,k2,k3,k4,k5,k6,k7⟩:=eR k;have jS:=zIg;have z:=aJ jS.o;obtain⟨z0,z1,z2,z3,z4,z5,z6,z7⟩:=eR z;have r0:=eJ jS.o;clear k z
    go_wp2_with fail
    have er:=aJ (tD v4 r4 jS.o);refine qW (v:=.tuple #[.agg (fS (v4) (r4)),.string ⟨([98,117,115,121]:List UInt8).toArray⟩]) ?_ rfl ?_
    .unfold gX at er
     simp[results,zee,go_sem,er]
    .rw[fD.o]
     obtain⟨d1,d2,d3⟩:=Bv.o.done (b:=gb+2) aC;exact⟨v4,rfl,d1,d2,d3⟩
   .obtain⟨nf,D4⟩:=aU ((l::fs).length)
    have yJ:=ziu r.recs r.o.ln.toNat;have zjj:=(Cs hs.off).2.1;have Dw:(oJ r.o r.recs).length=nf:=by rw[fP,D4]
    have zDP:nf<=6:=by unfold oJ at Dw;omega
    have zaq:0<nf:=by rw[D4];simp
    have V7:=zdk (o:=r.o) (rs:=r.recs) (l:=l) (by rw[fP];simp);have Ou:=aD (show w2.ownsRow W1.heap.size 3 1 (.slice (some ⟨gf,0,none⟩) nf cf) nf (jX (l::fs)) by have:=Ra.o;rw[Dw,fP] at this;exact this);have L4:w2.cell? ⟨gf,0,none⟩=some (.int .i64 l):=Ou.o.cellAt 0 aC;rw[<-D4];have fD:=aD (show qB r c=({r with recs:=r.recs++[⟨c.c,l,0,r.clk,-1,-1,eM⟩],wait:=tN r.wait c},[108,105,110,101,32]++jM l) by unfold qB;rw[if_neg (by simp[hop,uO]),fP]);have zsh:=aD V7;have mU:((nf:Int)==0)=false:=r9;have zG9:(0:Int)<(nf:Int):=aC;clear hop uO fP D4 yJ zjj Dw V7
    go_upto_region 7 with(first
     |(go_at_call 91;refine(Kq lo w2.heap.size r.recs.length v.cR (some ⟨v.gR,0,none⟩) r.recs c.c w2 vJ.o aC).mono ?_;rintro x w' ⟨rfl,jR⟩;obtain rfl:=jR.symm;rw[zcZ.o])
     |(go_at_call 92;refine(zar lo w2.heap.size r.back.length v.cB (some ⟨v.gB,0,none⟩) r.back c.c w2 Fo.o aC).mono ?_;rintro x w' ⟨rfl,jR⟩;obtain rfl:=jR.symm;rw[Pa.o]))
    go_cut [] from 36 to 48 (λwx=>∃g1 c1,gP w wx lo gb 3 v {v with gR:=g1,cR:=c1} {r with recs:=r.recs++[⟨c.c,l,0,r.clk,-1,-1,eM⟩]}/\wx.heap[gb+1]? =some (Gq c)/\wx.heap[gb+2]? =some jW/\wx.ownsRow W1.heap.size 3 1 (.slice (some ⟨gf,0,none⟩) nf cf) nf (jX (l::fs)))
    case first=>
     obtain⟨i0,fR,jN,eL,lH⟩:=zI zqA;have HI:=aD fR;clear fR;have zKA:=zas.o;have zL9:gb+3<=W1.heap.size:=by have:=oY.o;omega
     have zkE:v.gR<gb:=by have:=HL.o;have:=fQ.o;omega
     have kB:∀o:Obj,(w2.alloc o).cell? ⟨gb,4,none⟩=some (v.sR r):=λo=>Aa k4 o;have zj3:gb<w2.heap.size:=by have:=zdO.o;omega
     have S0:w2.cell? ⟨gb,3,none⟩=some (.int .i64 r.clk)/\w2.cell? ⟨gb+1,0,none⟩=some (.int .i64 c.c)/\w2.cell? ⟨gf,0,none⟩=some (.int .i64 l):=⟨k3,q0,L4⟩;have Dp:=aD S0;have zKQ:gf≠gb:=aC;clear S0;obtain⟨g1,c1,w3,fN,sH,rN,B1,I5⟩:=zhk (P:=aK) (w2.alloc (.cells #[.int .i64 c.c,.int .i64 l,.int .i64 0,.int .i64 r.clk,.int .i64 (-1),.int .i64 (-1),.string eM] 50)).drew 45 45 lo 50 i0 (.agg #[.int .i64 0,.int .i64 0,.int .i64 0,.int .i64 0,.int .i64 0,.int .i64 0,.string ⟨#[]⟩]) 7 64 zs2 HI.o jN eL lH rfl aH v.gR v.cR r.recs.length (recs r.recs) (Aj lE.o.rc (λb hb=>uB _ _ b hb)) ⟨w2.heap.size,0,none⟩ 1 1 (bT.cells ⟨c.c,l,0,r.clk,-1,-1,eM⟩) rfl (E0 (cs:=(bT.cells ⟨c.c,l,0,r.clk,-1,-1,eM⟩).toArray) (lQ _ _)) znw X2 aC (by have:=eW.o.lob;have:=zdO.o;simp;omega);have sG:=aD rN;have zbd:=aD sH;have za7:=aD I5;have kx:=(zE rN (dJ zmX.o _) aC).1;have zbX:=aJ kx 4;have wK:=eJ kx;clear sH rN B1 I5 kx;refine wp_RG7 w2 w3 gb gf v.gR r.recs.length v.cR g1 c1 nf cf c.c l r.clk rfl rfl rfl rfl k3 k4 q0 L4 aC fN zbX (wK _) rfl ?_;clear fN zbX wK;rw[Go.Mt.An,zsG];simp only[Go.Mt.xL,dV,dW,fRG7,lRG7,Ds,C7]
     go_wp2_with fail
     go_meet
     have zHe:gf≠v.gR:=aC;refine⟨g1,c1,((eW.o.alloc _).drew).appR sG.o zbd.o rfl za7.o,?_,?_,?_⟩
     .exact(eH w3 _ _ (gb+1) Re).trans (zE sG.o (J4 (dJ zk6.o _)) aC).1
     .exact(eH w3 _ _ (gb+2) zeb).trans (zE sG.o (J4 (dJ jS.o _)) aC).1
     .exact Cj Ou.o ((eH w3 _ _ gf ziL).trans ((sG.o.block gf r9 (by simp;exact zHe)).trans (uB _ _ gf aC)))
    case rest=>
     obtain⟨g1,c1,Ay,Ih,Gs,fP⟩:=hcut;clear k0 k1 k2 k3 k4 k5 k6 k7 q0 q1 z0 z1 z2 z3 z4 z5 z6 z7 r0 L4;have Yf:=aD Ay;have zk6:=aD Ih;have jS:=aD Gs;have Ou:=aD fP;obtain⟨v1,pP⟩:=aU ({v with gR:=g1,cR:=c1}:fM);obtain⟨r1,kC⟩:=aU ({r with recs:=r.recs++[⟨c.c,l,0,r.clk,-1,-1,eM⟩]}:b7);have zKu:=aD (show r1.wait=r.wait by rw[kC]);have zzm:r1.wait.length<=1000:=by rw[kC];exact hs.nw
     rw[<-pP,<-kC] at Yf;replace fD:=aD (show qB r c=({r1 with wait:=tN r1.wait c},[108,105,110,101,32]++jM l) by rw[fD.o,kC]);clear pP kC Ay Ih Gs fP;have k:=aJ Yf.o.blk;have k5:=k 5;have kf:=eJ Yf.o.blk;have q:=aJ zk6.o;have q0:=q 0;have q1:=q 1;clear k q
     go_upto_region 9 with(go_at_call 93;refine(zzu lo wc.heap.size r1.wait.length v1.cW v1.gW r1.wait c wc Yf.o.ok.slcW aC).mono ?_;rintro x w4 ⟨_,rfl,g4,c4,rfl,cV,b4⟩;have zdX:=aD cV;have zi8:=aD b4;have kx:=(eD b4 Yf.o.blk).1;have zhV:=aJ kx 5;have wK:=eJ kx;clear cV b4 kx)
     obtain⟨W5,zK⟩:=aU (w4.setCell ⟨gb,5,none⟩ (.slice (some ⟨g4,0,none⟩) (tN r1.wait c).length c4));have C2:=aD (show gP w W5 lo gb 3 v {v1 with gW:=g4,cW:=c4} {r1 with wait:=tN r1.wait c} by rw[zK];exact Yf.o.setW zi8.o zdX.o rfl);have sP:=aD (show W5.heap[gb+2]? =some jW by rw[zK];exact(eH w4 _ _ (gb+2) zeb).trans (eD zi8.o jS.o).1);have zxN:W5.ownsRow W1.heap.size 3 1 (.slice (some ⟨gf,0,none⟩) nf cf) nf (jX (l::fs)):=by
      rw[zK];have:=zas.o;have:=oY.o;exact Cj Ou.o ((eH w4 _ _ gf ziL).trans (zi8.o.block gf (Ou.o.lt gf rfl).2))
     have L4:W5.cell? ⟨gf,0,none⟩=some (.int .i64 l):=zxN.cellAt 0 aC;rw[<-zK];clear zK zhV wK k5 kf q0 q1 zxN;obtain⟨v5,nN⟩:=aU ({v1 with gW:=g4,cW:=c4}:fM);obtain⟨r5,fF⟩:=aU ({r1 with wait:=tN r1.wait c}:b7);rw[<-nN,<-fF] at C2;rw[<-fF] at fD;clear nN fF;obtain⟨m,hm⟩:∃m:Nat,l=(m:Int):=⟨l.toNat,by have:=zsh.o;omega⟩;have za8:m<=100000000:=by have:=zsh.o;have:=(Cs hs.off).2.1;omega
     have Ea:(K7 (m:Int)).length<=20:=by rw[X3];exact M2 aC
     rw[hm] at L4 fD;clear hm;have k:=aJ C2.o.blk;obtain⟨k0,k1,k2,k3,k4,k5,k6,k7⟩:=eR k;clear k
     go_wp2_with fail
     go_region_with (go_at_call 94;refine(zaC m za8 _).mono ?_;rintro x w6 ⟨rfl,tX⟩;have zH:bR W5.heap.size W5 w6:=⟨tX.os,tX.tape,tX.output,tX.size,tX.block⟩;have Ju:=aD zH;have k:=aJ (eD zH C2.o.blk).1;have r0:=eJ (eD zH sP.o).1;have z:=aJ (eD zH sP.o).1;obtain⟨k0,k1,k2,k3,k4,k5,k6,k7⟩:=eR k;obtain⟨z0,z1,z2,z3,z4,z5,z6,z7⟩:=eR z;clear k z tX zH)
     all_goals
      go_wp2_with fail
      have Fg:=C2.o.keep Ju.o;have Sp:=(eD Ju.o sP.o).1;have er:=aJ (tD v5 r5 Sp);refine qW (v:=.tuple #[.agg (fS v5 r5),.string ⟨([108,105,110,101,32]++jM (m:Int):List UInt8).toArray⟩]) ?_ rfl ?_
      .unfold gX at er
       simp[results,zee,go_sem,er,jM,I9]
       done
      .rw[fD.o]
       obtain⟨d1,d2,d3⟩:=Fg.done (b:=gb+2) aC;exact⟨v5,rfl,d1,d2,d3⟩
  .have Pa:=aD (Yo uO)
   have zmf:(0:Int)<=(j:Int):=aC;have fD:=aD (zvw (b:=r) (c:=c) (.inr (by rw[uO];rfl)));clear hop uO
   go_wp2_with (first
    |(go_at_call 91;refine(Kq lo w2.heap.size r.recs.length v.cR (some ⟨v.gR,0,none⟩) r.recs c.c w2 vJ.o aC).mono ?_;rintro x w' ⟨rfl,jR⟩;obtain rfl:=jR.symm;rw[zcZ.o])
    |(go_at_call 92;refine(zar lo w2.heap.size r.back.length v.cB (some ⟨v.gB,0,none⟩) r.back c.c w2 Fo.o aC).mono ?_;rintro x w' ⟨rfl,jR⟩;obtain rfl:=jR.symm;rw[Pa.o]))
   have er:=aJ (tD v r jS.o);refine qW (v:=.tuple #[.agg (fS (v) (r)),.string ⟨([107,110,111,119,110]:List UInt8).toArray⟩]) ?_ rfl ?_
   .unfold gX at er
    simp[results,zee,go_sem,er]
   .rw[fD.o]
    have l:=HL.o;have gg:=fQ.o;have l2:=lE.o.lts;exact⟨v,rfl,lE.o.set8 aC,Su.o.set8 aC,wS.refl _ _⟩
 .have zcZ:=aD (Yo hop)
  have fR:(0:Int)<=(i:Int):=aC;have fD:=aD (zvw (b:=r) (c:=c) (.inl (by rw[hop];rfl)));clear hop
  go_wp2_with (go_at_call 91;refine(Kq lo w2.heap.size r.recs.length v.cR (some ⟨v.gR,0,none⟩) r.recs c.c w2 vJ.o aC).mono ?_;rintro x w' ⟨rfl,jR⟩;obtain rfl:=jR.symm;rw[zcZ.o])
  have er:=aJ (tD v r jS.o);refine qW (v:=.tuple #[.agg (fS (v) (r)),.string ⟨([107,110,111,119,110]:List UInt8).toArray⟩]) ?_ rfl ?_
  .unfold gX at er
   simp[results,zee,go_sem,er]
  .rw[fD.o]
   have l:=HL.o;have gg:=fQ.o;have l2:=lE.o.lts;exact⟨v,rfl,lE.o.set8 aC,Su.o.set8 aC,wS.refl _ _⟩
structure zf0 (r:b7):Prop where
 has:∀x∈r.wait,(jJ r.recs x.c).isSome=true
 num:∀x∈r.wait,1<=x.c/\x.c<=99
variable {c:Int}
def Bs (h:jJ rs c=some i):∃d,rs[i]? =some d/\d.c=c/\eI d=true:=by
 unfold jJ at h;rw[List.findIdx?_eq_some_iff_getElem] at h;obtain⟨hi,hp,_⟩:=h;refine⟨rs[i],lO hi,?_⟩;unfold Ao at hp;simp at hp;exact hp
variable {w:aE}{r:b7}
def gP.widen {w0:aE}{lo gb:Nat}{v0 v:fM}(h:gP w0 w lo gb 2 v0 v r)(hg:v.gR<gb/\v.gW<gb/\v.gB<gb/\v.gL<gb)(hz:gb+3<=w.heap.size):gP w0 w lo gb 3 v0 v r:=
 ⟨h.ok,h.turn,h.moved,h.base,h.blk,hz,aC,.inl hg.1,.inl hg.2.1,.inl hg.2.2.1,.inl hg.2.2.2,h.lob⟩
def zB5 (lo:Nat)(v:fM)(r:b7)(op:Int)(w:aE)(h:eA w lo v r)(hs:Q0 r)(dQ:lo<=w.heap.size)(hq:zf0 r):
 fH aK 64 #[.agg (fS v r),.int .i64 op] w (Yh lo v w (nU r op)):=by
 obtain⟨gb,O,Z,fQ,HO,HZ,eW,jS,oY,HL⟩:=ze2 h dQ;clear h
 go_enter Tryz.func64,Tryz.ntmps64
 go_upto_region 1 with fail
 rw[<-HO.o,<-HZ.o,<-fQ.o];obtain⟨W1,dG⟩:=aU ((w.alloc O).alloc Z);rw[<-dG] at eW jS oY⊢;clear dG;have k:=aJ eW.o.blk;obtain⟨k0,k1,k2,k3,k4,k5,k6,k7⟩:=eR k;clear k;have Qh:=hs.nr;have vJ:=aD eW.o.ok.slcR;by_cases lM:0<dK r.recs op
 .have fD:=aD (show nU r op=(r,[116,97,108,107,115]) by unfold nU;rw[if_pos lM])
  go_upto_region 2 with(go_at_call 45;refine(S7 lo W1.heap.size r.recs.length v.cR (some ⟨v.gR,0,none⟩) r.recs op W1 vJ.o aC).mono ?_;rintro x w2 ⟨rfl,jR⟩;obtain rfl:=jR.symm)
  clear k0 k1 k2 k3 k4 k5 k6 k7 lM;have k:=aJ eW.o.blk;obtain⟨k0,k1,k2,k3,k4,k5,k6,k7⟩:=eR k;clear k;have z:=aJ jS.o;obtain⟨z0,z1,z2,z3,z4,z5,z6,z7⟩:=eR z;clear z;have r0:=eJ jS.o
  go_wp2_with fail
  have er:=aJ (tD v r jS.o);refine qW (v:=.tuple #[.agg (fS (v) (r)),.string ⟨([116,97,108,107,115]:List UInt8).toArray⟩]) ?_ rfl ?_
  .unfold gX at er
   simp[results,zjh,go_sem,er]
  .rw[fD.o]
   obtain⟨d1,d2,d3⟩:=eW.o.done (b:=gb+1) aC;exact⟨v,rfl,d1,d2,d3⟩
 .rcases cD:r.wait with _|⟨c,cs⟩
  .have fD:=aD (show nU r op=(r,[110,111,110,101]) by unfold nU;rw[if_neg lM,cD])
   have Eh:r.wait.length=0:=by rw[cD];rfl
   have zmc:=aD (show v.sW r=.slice (some ⟨v.gW,0,none⟩) 0 v.cW by unfold fM.sW;rw[Eh]);have zp9:W1.cell? ⟨gb,5,none⟩=some (.slice (some ⟨v.gW,0,none⟩) 0 v.cW):=by rw[k5,<-zmc.o];rfl
   clear k5 Eh cD
   go_upto_region 4 with(go_at_call 45;refine(S7 lo W1.heap.size r.recs.length v.cR (some ⟨v.gR,0,none⟩) r.recs op W1 vJ.o aC).mono ?_;rintro x w2 ⟨rfl,jR⟩;obtain rfl:=jR.symm)
   clear k0 k1 k2 k3 k4 zp9 k6 k7 lM;have k:=aJ eW.o.blk;obtain⟨k0,k1,k2,k3,k4,k5,k6,k7⟩:=eR k;clear k;have z:=aJ jS.o;obtain⟨z0,z1,z2,z3,z4,z5,z6,z7⟩:=eR z;clear z;have r0:=eJ jS.o
   go_wp2_with fail
   have er:=aJ (tD v r jS.o);refine qW (v:=.tuple #[.agg (fS (v) (r)),.string ⟨([110,111,110,101]:List UInt8).toArray⟩]) ?_ rfl ?_
   .unfold gX at er
    simp[results,zjh,go_sem,er]
   .rw[fD.o]
    obtain⟨d1,d2,d3⟩:=eW.o.done (b:=gb+1) aC;exact⟨v,rfl,d1,d2,d3⟩
  .have hc:=hq.num c Zv
   obtain⟨i,vQ⟩:=znn.1 (hq.has c Zv);obtain⟨d,hd,Z8,-⟩:=Bs vQ;have fD:=aD (show nU r op=({r with recs:=r.recs.modify i λd=>{d with o:=op,h:=r.clk},wait:=dY r.wait c.c},[99,97,108,108,32]++jM c.c) by unfold nU;rw[if_neg lM,cD];simp only[vQ]);have Eh:0<r.wait.length:=by rw[cD];simp
   have zlF:=aD (show r.wait[0]? =some c by rw[cD];rfl);have zmG:=eW.o.ok.slcW;have Ut:=aD zmG;obtain⟨b0,zzs,d0,Ke,-,-,-,sV,e0,e1⟩:=zmG.callsAt (k:=0) Eh;rw[zlF.o] at sV;injection sV with sV;injection Ke with Ke;injection Ke with zT y5;subst zT y5 sV;simp only[qZ,zcb] at e0 e1;have zAj:(((r.wait.length:Nat):Int)==0)=false:=by simp;intro e;rw[e] at Eh;simp at Eh
   have i0:(0:Int)<(r.wait.length:Int):=aC;have Ms:=aD (Yo vQ);have HD:=aD hd;clear vQ hd Z8 cD zmG
   go_upto_region 5 with(go_at_call 45;refine(S7 lo W1.heap.size r.recs.length v.cR (some ⟨v.gR,0,none⟩) r.recs op W1 vJ.o aC).mono ?_;rintro x w2 ⟨rfl,jR⟩;obtain rfl:=jR.symm)
   clear k0 k1 k2 k3 k4 k6 k7 lM
   go_upto_region 6 with fail
   rw[oY.o];obtain⟨W2,qM⟩:=aU (W1.alloc (Gq c));rw[<-qM];have zb9:=aD (show gP w W2 lo gb 3 v v r by rw[qM];exact(eW.o.alloc _).widen HL.o (by have:=oY.o;simp;omega));have Dl:=aD (show W2.heap[gb+1]? =some jW by rw[qM];exact dJ jS.o _);have zsl:=aD (show W2.heap[gb+2]? =some (Gq c) by rw[qM];exact mV _ _ oY.o.symm);clear qM e0 e1 k5;have zCJ:=aD zb9.o.ok.slcR;have k:=aJ zb9.o.blk;obtain⟨k0,k1,k2,k3,k4,k5,k6,k7⟩:=eR k;clear k;have q:=aJ zsl.o;have q0:=q 0;have q1:=q 1;clear q
   go_upto_region 7 with(go_at_call 91;refine(Kq lo W2.heap.size r.recs.length v.cR (some ⟨v.gR,0,none⟩) r.recs c.c W2 zCJ.o aC).mono ?_;rintro x w2 ⟨rfl,jR⟩;obtain rfl:=jR.symm;rw[Ms.o])
   have hi:=(kE.1 HD.o).1;have fR:(0:Int)<=(i:Int):=aC;have zJ:(i:Int)<(r.recs.length:Int):=aC;obtain⟨c0,c1,c2,c3,c4,c5,c6⟩:=zb9.o.ok.recAt HD.o;have fz:=λj=>zb9.o.ok.rc.frozenAt j;have S1:=zb9.o.setR (λd=>{d with o:=op}) HD.o (j:=2) (u:=.int .i64 op) aH zw6 rfl;have l9:=aD S1;have Pu:gb+1≠v.gR:=by have:=HL.o;omega
   have ztZ:gb+2≠v.gR:=by have:=HL.o;omega
   clear S1
   go_upto_region 8 with fail
   obtain⟨W3,sD⟩:=aU (W2.setCell ⟨v.gR,i*7+2,none⟩ (.int .i64 op));rw[<-sD] at l9⊢;have zcB:=aD (show W3.heap[gb+1]? =some jW by rw[sD];exact(eH _ _ _ (gb+1) Pu).trans Dl.o);have zdq:=aD (show W3.heap[gb+2]? =some (Gq c) by rw[sD];exact(eH _ _ _ (gb+2) ztZ).trans zsl.o);have z8:(r.recs.modify i λd=>{d with o:=op})[i]? =some {d with o:=op}:=by rw[zD];simp[HD.o]
   have zec:=aD z8;clear sD c0 c1 c2 c3 c4 c5 c6 fz k0 k1 k2 k3 k4 k5 k6 k7 q0 q1 z8;obtain⟨r1,kC⟩:=aU ({r with recs:=r.recs.modify i λd=>{d with o:=op}}:b7);rw[<-kC] at l9;have lJ:=aD kC;have N8:r1.recs.length=r.recs.length:=by rw[kC];exact Hk _ _ _
   have zqq:=aD (show r1.recs[i]? =some {d with o:=op} by rw[kC];exact zec.o);have Ls:(i:Int)<(r1.recs.length:Int):=by rw[N8];exact zJ
   clear kC N8;have k:=aJ l9.o.blk;obtain⟨k0,k1,k2,k3,k4,k5,k6,k7⟩:=eR k;clear k;obtain⟨c0,c1,c2,c3,c4,c5,c6⟩:=l9.o.ok.recAt zqq.o;have fz:=λj=>l9.o.ok.rc.frozenAt j;have S2:=l9.o.setR (λd=>{d with h:=r1.clk}) zqq.o (j:=4) (u:=.int .i64 r1.clk) aH zws rfl;have sY:=aD S2;clear S2
   go_upto_region 9 with fail
   obtain⟨W4,sS⟩:=aU (W3.setCell ⟨v.gR,i*7+4,none⟩ (.int .i64 r1.clk));rw[<-sS] at sY⊢;have Ug:=aD (show W4.heap[gb+1]? =some jW by rw[sS];exact(eH _ _ _ (gb+1) Pu).trans zcB.o);have Yx:=aD (show W4.heap[gb+2]? =some (Gq c) by rw[sS];exact(eH _ _ _ (gb+2) ztZ).trans zdq.o);clear sS c0 c1 c2 c3 c4 c5 c6 fz k0 k1 k2 k3 k4 k5 k6 k7;obtain⟨r2,Vx⟩:=aU ({r1 with recs:=r1.recs.modify i λd=>{d with h:=r1.clk}}:b7);rw[<-Vx] at sY;have zL6:r2.wait.length<=1000:=by rw[Vx,lJ.o];exact hs.nw
   replace fD:=aD (show nU r op=({r2 with wait:=dY r2.wait c.c},[99,97,108,108,32]++jM c.c) by rw[fD.o,Vx,lJ.o];simp only[zel]);clear Vx;have zBd:=aD sY.o.ok.slcW;have k:=aJ sY.o.blk;obtain⟨k0,k1,k2,k3,k4,k5,k6,k7⟩:=eR k;clear k;have q:=aJ Yx.o;have q0:=q 0;have q1:=q 1;clear q;have kf:=eJ sY.o.blk
   go_upto_region 10 with(go_at_call 95;refine(zg8 lo W4.heap.size r2.wait.length v.cW (some ⟨v.gW,0,none⟩) r2.wait c.c W4 zBd.o aC).mono ?_;rintro x w5 ⟨_,rfl,g5,c5,rfl,cV,b5⟩;have zcl:=aD cV;have Db:=aD b5;have kx:=(eD b5 sY.o.blk).1;have zhV:=aJ kx 5;have wK:=eJ kx;clear cV b5 kx)
   obtain⟨W5,zK⟩:=aU (w5.setCell ⟨gb,5,none⟩ (.slice (some ⟨g5,0,none⟩) (dY r2.wait c.c).length c5));have C2:=aD (show gP w W5 lo gb 3 v {v with gW:=g5,cW:=c5} {r2 with wait:=dY r2.wait c.c} by rw[zK];exact sY.o.setW Db.o zcl.o rfl);have sP:=aD (show W5.heap[gb+1]? =some jW by rw[zK];exact(eH w5 _ _ (gb+1) Re).trans (eD Db.o Ug.o).1);have znz:=aD (show W5.heap[gb+2]? =some (Gq c) by rw[zK];exact(eH w5 _ _ (gb+2) zeb).trans (eD Db.o Yx.o).1);rw[<-zK];clear zK zhV wK kf q0 q1 k0 k1 k2 k3 k4 k5 k6 k7;obtain⟨v5,nN⟩:=aU ({v with gW:=g5,cW:=c5}:fM);obtain⟨r5,fF⟩:=aU ({r2 with wait:=dY r2.wait c.c}:b7);rw[<-nN,<-fF] at C2;rw[<-fF] at fD;clear nN fF;obtain⟨m,hm⟩:∃m:Nat,c.c=(m:Int):=⟨c.c.toNat,aC⟩;have za8:m<=100000000:=aC;have Ea:(K7 (m:Int)).length<=20:=by rw[X3];exact M2 aC
   have k:=aJ C2.o.blk;obtain⟨k0,k1,k2,k3,k4,k5,k6,k7⟩:=eR k;clear k;have q0:=aJ znz.o 0;rw[hm] at q0 fD;clear hm
   go_wp2_with fail
   go_region_with (go_at_call 94;refine(zaC m za8 _).mono ?_;rintro x w6 ⟨rfl,tX⟩;have zH:bR W5.heap.size W5 w6:=⟨tX.os,tX.tape,tX.output,tX.size,tX.block⟩;have Ju:=aD zH;have k:=aJ (eD zH C2.o.blk).1;have r0:=eJ (eD zH sP.o).1;have z:=aJ (eD zH sP.o).1;obtain⟨k0,k1,k2,k3,k4,k5,k6,k7⟩:=eR k;obtain⟨z0,z1,z2,z3,z4,z5,z6,z7⟩:=eR z;clear k z tX zH)
   all_goals
    go_wp2_with fail
    have Fg:=C2.o.keep Ju.o;have Sp:=(eD Ju.o sP.o).1;have er:=aJ (tD v5 r5 Sp);refine qW (v:=.tuple #[.agg (fS (v5) (r5)),.string ⟨([99,97,108,108,32]++jM (m:Int):List UInt8).toArray⟩]) ?_ rfl ?_
    .unfold gX at er
     simp[results,zjh,go_sem,er,jM,I9]
    .rw[fD.o]
     obtain⟨d1,d2,d3⟩:=Fg.done (b:=gb+1) aC;exact⟨v5,rfl,d1,d2,d3⟩
def zFc (lo:Nat)(v:fM)(r:b7)(op:Int)(w:aE)(h:eA w lo v r)(hs:Q0 r)(dQ:lo<=w.heap.size)(hq:∀x∈r.back,1<=x.c/\x.c<=99):
 fH aK 65 #[.agg (fS v r),.int .i64 op] w (Yh lo v w (l8 r op)):=by
 obtain⟨gb,O,Z,fQ,HO,HZ,eW,jS,oY,HL⟩:=ze2 h dQ;clear h
 go_enter Tryz.func65,Tryz.ntmps65
 go_upto_region 1 with fail
 rw[<-HO.o,<-HZ.o,<-fQ.o];obtain⟨W1,dG⟩:=aU ((w.alloc O).alloc Z);rw[<-dG] at eW jS oY⊢;clear dG;have k:=aJ eW.o.blk;obtain⟨k0,k1,k2,k3,k4,k5,k6,k7⟩:=eR k;clear k;have Qh:=hs.nr
 go_upto_region 2 with(go_at_call 90;refine(zpo lo v r W1 eW.o.ok aC hs.off).mono ?_;rintro x w2 ⟨_,rfl,gf,cf,rfl,cV,b2⟩;have Ra:=aD cV;have rJ:=aD b2;clear cV b2)
 have nV:=aD (eW.o.keep rJ.o);have Dl:=aD (eD rJ.o jS.o).1;have zas:=aD (Ra.o.lt gf rfl);clear k0 k1 k2 k3 k4 k5 k6 k7;have k:=aJ nV.o.blk;obtain⟨k0,k1,k2,k3,k4,k5,k6,k7⟩:=eR k;clear k;have vJ:=aD nV.o.ok.slcR;by_cases lM:0<dK r.recs op
 .have fD:=aD (show l8 r op=(r,[116,97,108,107,115]) by unfold l8;rw[if_pos lM])
  go_upto_region 3 with(go_at_call 45;refine(S7 lo w2.heap.size r.recs.length v.cR (some ⟨v.gR,0,none⟩) r.recs op w2 vJ.o aC).mono ?_;rintro x w9 ⟨rfl,jR⟩;obtain rfl:=jR.symm)
  clear k0 k1 k2 k3 k4 k5 k6 k7 lM;have k:=aJ nV.o.blk;obtain⟨k0,k1,k2,k3,k4,k5,k6,k7⟩:=eR k;clear k;have z:=aJ Dl.o;obtain⟨z0,z1,z2,z3,z4,z5,z6,z7⟩:=eR z;clear z;have r0:=eJ Dl.o
  go_wp2_with fail
  have er:=aJ (tD v r Dl.o);refine qW (v:=.tuple #[.agg (fS (v) (r)),.string ⟨([116,97,108,107,115]:List UInt8).toArray⟩]) ?_ rfl ?_
  .unfold gX at er
   simp[results,zek,go_sem,er]
  .rw[fD.o]
   obtain⟨d1,d2,d3⟩:=nV.o.done (b:=gb+1) aC;exact⟨v,rfl,d1,d2,d3⟩
 .rcases wM:r.back with _|⟨c,cs⟩
  .have fD:=aD (show l8 r op=(r,[110,111,110,101]) by unfold l8;rw[if_neg lM,wM])
   have Eh:r.back.length=0:=by rw[wM];rfl
   have zmc:=aD (show v.sB r=.slice (some ⟨v.gB,0,none⟩) 0 v.cB by unfold fM.sB;rw[Eh]);have zfi:w2.cell? ⟨gb,6,none⟩=some (.slice (some ⟨v.gB,0,none⟩) 0 v.cB):=by rw[k6,<-zmc.o];rfl
   clear k6 Eh wM
   go_upto_region 5 with(go_at_call 45;refine(S7 lo w2.heap.size r.recs.length v.cR (some ⟨v.gR,0,none⟩) r.recs op w2 vJ.o aC).mono ?_;rintro x w9 ⟨rfl,jR⟩;obtain rfl:=jR.symm)
   clear k0 k1 k2 k3 k4 k5 zfi k7 lM;have k:=aJ nV.o.blk;obtain⟨k0,k1,k2,k3,k4,k5,k6,k7⟩:=eR k;clear k;have z:=aJ Dl.o;obtain⟨z0,z1,z2,z3,z4,z5,z6,z7⟩:=eR z;clear z;have r0:=eJ Dl.o
   go_wp2_with fail
   have er:=aJ (tD v r Dl.o);refine qW (v:=.tuple #[.agg (fS (v) (r)),.string ⟨([110,111,110,101]:List UInt8).toArray⟩]) ?_ rfl ?_
   .unfold gX at er
    simp[results,zek,go_sem,er]
   .rw[fD.o]
    obtain⟨d1,d2,d3⟩:=nV.o.done (b:=gb+1) aC;exact⟨v,rfl,d1,d2,d3⟩
  .have hc:=hq c zaR
   have Eh:0<r.back.length:=by rw[wM];simp
   have zlF:=aD (show r.back[0]? =some c by rw[wM];rfl);have zAj:(((r.back.length:Nat):Int)==0)=false:=by simp;intro e;rw[e] at Eh;simp at Eh
   rcases fP:oJ r.o r.recs with _|⟨l,fs⟩
   .have fD:=aD (show l8 r op=(r,[98,117,115,121]) by unfold l8;rw[if_neg lM,wM,fP])
    simp only[rY];clear wM fP
    go_upto_region 7 with(go_at_call 45;refine(S7 lo w2.heap.size r.recs.length v.cR (some ⟨v.gR,0,none⟩) r.recs op w2 vJ.o aC).mono ?_;rintro x w9 ⟨rfl,jR⟩;obtain rfl:=jR.symm)
    clear k0 k1 k2 k3 k4 k5 k6 k7 lM;have k:=aJ nV.o.blk;obtain⟨k0,k1,k2,k3,k4,k5,k6,k7⟩:=eR k;clear k;have z:=aJ Dl.o;obtain⟨z0,z1,z2,z3,z4,z5,z6,z7⟩:=eR z;clear z;have r0:=eJ Dl.o
    go_wp2_with fail
    have er:=aJ (tD v r Dl.o);refine qW (v:=.tuple #[.agg (fS (v) (r)),.string ⟨([98,117,115,121]:List UInt8).toArray⟩]) ?_ rfl ?_
    .unfold gX at er
     simp[results,zek,go_sem,er]
    .rw[fD.o]
     obtain⟨d1,d2,d3⟩:=nV.o.done (b:=gb+1) aC;exact⟨v,rfl,d1,d2,d3⟩
   .have fD:=aD (show l8 r op=({r with back:=dY r.back c.c,recs:=r.recs++[⟨c.c,l,op,r.clk,r.clk,-1,eM⟩]},[99,97,108,108,32]++jM c.c) by unfold l8;rw[if_neg lM,wM,fP])
    obtain⟨nf,D4⟩:=aU ((l::fs).length);have yJ:=ziu r.recs r.o.ln.toNat;have zjj:=(Cs hs.off).2.1;have Dw:(oJ r.o r.recs).length=nf:=by rw[fP,D4]
    have zDP:nf<=6:=by unfold oJ at Dw;omega
    have zaq:0<nf:=by rw[D4];simp
    have Ou:=aD (show w2.ownsRow W1.heap.size 3 1 (.slice (some ⟨gf,0,none⟩) nf cf) nf (jX (l::fs)) by have:=Ra.o;rw[Dw,fP] at this;exact this);rw[<-D4];have mU:((nf:Int)==0)=false:=r9;have zG9:(0:Int)<(nf:Int):=aC;have i0:(0:Int)<(r.back.length:Int):=aC;have Dd:=nV.o.ok.slcB;obtain⟨b0,zzs,d0,Ke,-,-,-,sV,e0,e1⟩:=Dd.callsAt (k:=0) Eh;rw[zlF.o] at sV;injection sV with sV;injection Ke with Ke;injection Ke with zT y5;subst zT y5 sV;simp only[qZ,zcb] at e0 e1;clear wM fP D4 yJ zjj Dw Dd
    go_upto_region 8 with(go_at_call 45;refine(S7 lo w2.heap.size r.recs.length v.cR (some ⟨v.gR,0,none⟩) r.recs op w2 vJ.o aC).mono ?_;rintro x w9 ⟨rfl,jR⟩;obtain rfl:=jR.symm)
    clear k0 k1 k2 k3 k4 k5 k7 lM
    go_upto_region 9 with fail
    obtain⟨gc,Qt⟩:=aU w2.heap.size;have zH3:=aD Qt;rw[<-Qt];obtain⟨W3,sD⟩:=aU (w2.alloc (Gq c));rw[<-sD];have zaS:=aD (show gP w W3 lo gb 2 v v r by rw[sD];exact nV.o.alloc _);have zcB:=aD (show W3.heap[gb+1]? =some jW by rw[sD];exact dJ Dl.o _);have zdq:=aD (show W3.heap[gc]? =some (Gq c) by rw[sD];exact mV _ _ Qt);have ztw:=aD (show W3.ownsRow W1.heap.size 3 1 (.slice (some ⟨gf,0,none⟩) nf cf) nf (jX (l::fs)) by rw[sD];exact Aj Ou.o (λb hb=>uB _ _ b hb));clear sD e0 e1 k6 Qt;have aN:=HL.o;have zKx:gb+2<=gf:=by have:=zas.o;have:=oY.o;omega
    have zMh:gf<gc:=by have:=zas.o;have:=zH3.o;omega
    have zIR:=aD zaS.o.ok.slcB;have nK:=hs.nb;have k:=aJ zaS.o.blk;obtain⟨k0,k1,k2,k3,k4,k5,k6,k7⟩:=eR k;clear k;have q:=aJ zdq.o;have q0:=q 0;have q1:=q 1;clear q;have kf:=eJ zaS.o.blk
    go_upto_region 10 with(go_at_call 95;refine(zg8 lo W3.heap.size r.back.length v.cB (some ⟨v.gB,0,none⟩) r.back c.c W3 zIR.o aC).mono ?_;rintro x w5 ⟨_,rfl,g5,c5,rfl,cV,b5⟩;have zcl:=aD cV;have Db:=aD b5;have kx:=(eD b5 zaS.o.blk).1;have O2:=aJ kx 6;have wK:=eJ kx;clear cV b5 kx)
    obtain⟨W4,sS⟩:=aU (w5.setCell ⟨gb,6,none⟩ (.slice (some ⟨g5,0,none⟩) (dY r.back c.c).length c5));have Bv:=aD (show gP w W4 lo gb 2 v {v with gB:=g5,cB:=c5} {r with back:=dY r.back c.c} by rw[sS];exact zaS.o.setB Db.o zcl.o rfl);have Ug:=aD (show W4.heap[gb+1]? =some jW by rw[sS];exact(eH w5 _ _ (gb+1) Re).trans (eD Db.o zcB.o).1);have Yx:=aD (show W4.heap[gc]? =some (Gq c) by rw[sS];exact(eH w5 _ _ gc (by show gc≠gb;omega)).trans (eD Db.o zdq.o).1);have zAq:=aD (show W4.ownsRow W1.heap.size 3 1 (.slice (some ⟨gf,0,none⟩) nf cf) nf (jX (l::fs)) by rw[sS];exact Cj ztw.o ((eH w5 _ _ gf ziL).trans (Db.o.block gf (ztw.o.lt gf rfl).2)));rw[<-sS];clear sS O2 wK kf q0 q1 k0 k1 k2 k3 k4 k5 k6 k7;obtain⟨v1,pP⟩:=aU ({v with gB:=g5,cB:=c5}:fM);obtain⟨r1,kC⟩:=aU ({r with back:=dY r.back c.c}:b7);have zkE:v1.gR=v.gR:=by rw[pP]
    have zKP:v1.gR<gb:=by rw[zkE];exact aN.1
    have zMg:r1.recs.length<=1000:=by rw[kC];exact hs.nr
    rw[<-pP,<-kC] at Bv;replace fD:=aD (show l8 r op=({r1 with recs:=r1.recs++[⟨c.c,l,op,r1.clk,r1.clk,-1,eM⟩]},[99,97,108,108,32]++jM c.c) by rw[fD.o,kC]);clear pP kC zkE;have k:=aJ Bv.o.blk;obtain⟨k0,k1,k2,k3,k4,k5,k6,k7⟩:=eR k;clear k;have q0:=aJ Yx.o 0;have L4:W4.cell? ⟨gf,0,none⟩=some (.int .i64 l):=zAq.o.cellAt 0 aC;have zz9:gc<W4.heap.size:=fY Yx.o
    go_cut [] from 38 to 53 (λwx=>∃g1 c1,gP w wx lo gb 2 v {v1 with gR:=g1,cR:=c1} {r1 with recs:=r1.recs++[⟨c.c,l,op,r1.clk,r1.clk,-1,eM⟩]}/\wx.heap[gc]? =some (Gq c)/\wx.heap[gb+1]? =some jW)
    case first=>
     obtain⟨i0,fR,jN,eL,lH⟩:=zI zqA;have HI:=aD fR;clear fR;have kB:∀o:Obj,(W4.alloc o).cell? ⟨gb,4,none⟩=some (v1.sR r1):=λo=>Aa k4 o;have zj3:gb<W4.heap.size:=aC;have S0:W4.cell? ⟨gb,3,none⟩=some (.int .i64 r1.clk)/\W4.cell? ⟨gc,0,none⟩=some (.int .i64 c.c)/\W4.cell? ⟨gf,0,none⟩=some (.int .i64 l):=⟨k3,q0,L4⟩;have Dp:=aD S0;clear S0;obtain⟨g1,c1,w3,fN,sH,rN,B1,I5⟩:=zhk (P:=aK) (W4.alloc (.cells #[.int .i64 c.c,.int .i64 l,.int .i64 op,.int .i64 r1.clk,.int .i64 r1.clk,.int .i64 (-1),.string eM] 50)).drew 45 45 lo 50 i0 (.agg #[.int .i64 0,.int .i64 0,.int .i64 0,.int .i64 0,.int .i64 0,.int .i64 0,.string ⟨#[]⟩]) 7 64 zs2 HI.o jN eL lH rfl aH v1.gR v1.cR r1.recs.length (recs r1.recs) (Aj Bv.o.ok.rc (λb hb=>uB _ _ b hb)) ⟨W4.heap.size,0,none⟩ 1 1 (bT.cells ⟨c.c,l,op,r1.clk,r1.clk,-1,eM⟩) rfl (E0 (cs:=(bT.cells ⟨c.c,l,op,r1.clk,r1.clk,-1,eM⟩).toArray) (lQ _ _)) znw X2 aC (by have:=Bv.o.lob;simp;omega);have sG:=aD rN;have zbd:=aD sH;have za7:=aD I5;have kx:=(zE rN (dJ Bv.o.blk _) aC).1;have zbX:=aJ kx 4;have wK:=eJ kx;clear sH rN B1 I5 kx;refine wp_RU10 W4 w3 gb gc gf v1.gR r1.recs.length v1.cR g1 c1 _ _ c.c l op r1.clk rfl rfl rfl rfl rfl k3 k4 q0 L4 aC fN zbX (wK _) rfl ?_;clear fN zbX wK;rw[Go.Mt.An,zwS];simp only[Go.Mt.xL,dV,dW,ziK,lRU10,Ds,C7]
     go_wp2_with fail
     go_meet
     refine⟨g1,c1,((Bv.o.alloc _).drew).appR sG.o zbd.o rfl za7.o,?_,?_⟩
     .exact(eH w3 _ _ gc (by show gc≠gb;omega)).trans (zE sG.o (J4 (dJ Yx.o _)) aC).1
     .exact(eH w3 _ _ (gb+1) Re).trans (zE sG.o (J4 (dJ Ug.o _)) aC).1
    case rest=>
     obtain⟨g1,c1,Ay,Ih,Gs⟩:=hcut;clear k0 k1 k2 k3 k4 k5 k6 k7 q0 L4 zz9;obtain⟨W5,zK⟩:=aU wc;have znz:=aD (show W5.heap[gc]? =some (Gq c) by rw[zK];exact Ih);have sP:=aD (show W5.heap[gb+1]? =some jW by rw[zK];exact Gs);have C2:=aD (show gP w W5 lo gb 2 v {v1 with gR:=g1,cR:=c1} {r1 with recs:=r1.recs++[⟨c.c,l,op,r1.clk,r1.clk,-1,eM⟩]} by rw[zK];exact Ay);clear Ay Ih Gs;rw[<-zK];clear zK;obtain⟨v5,nN⟩:=aU ({v1 with gR:=g1,cR:=c1}:fM);obtain⟨r5,fF⟩:=aU ({r1 with recs:=r1.recs++[⟨c.c,l,op,r1.clk,r1.clk,-1,eM⟩]}:b7);rw[<-nN,<-fF] at C2;rw[<-fF] at fD;clear nN fF;obtain⟨m,hm⟩:∃m:Nat,c.c=(m:Int):=⟨c.c.toNat,aC⟩;have za8:m<=100000000:=aC;have Ea:(K7 (m:Int)).length<=20:=by rw[X3];exact M2 aC
     have k:=aJ C2.o.blk;obtain⟨k0,k1,k2,k3,k4,k5,k6,k7⟩:=eR k;clear k;have q0:=aJ znz.o 0;rw[hm] at q0 fD;clear hm
     go_wp2_with fail
     go_region_with (go_at_call 94;refine(zaC m za8 _).mono ?_;rintro x w6 ⟨rfl,tX⟩;have zH:bR W5.heap.size W5 w6:=⟨tX.os,tX.tape,tX.output,tX.size,tX.block⟩;have Ju:=aD zH;have k:=aJ (eD zH C2.o.blk).1;have r0:=eJ (eD zH sP.o).1;have z:=aJ (eD zH sP.o).1;obtain⟨k0,k1,k2,k3,k4,k5,k6,k7⟩:=eR k;obtain⟨z0,z1,z2,z3,z4,z5,z6,z7⟩:=eR z;clear k z tX zH)
     all_goals
      go_wp2_with fail
      have Fg:=C2.o.keep Ju.o;have Sp:=(eD Ju.o sP.o).1;have er:=aJ (tD v5 r5 Sp);refine qW (v:=.tuple #[.agg (fS (v5) (r5)),.string ⟨([99,97,108,108,32]++jM (m:Int):List UInt8).toArray⟩]) ?_ rfl ?_
      .unfold gX at er
       simp[results,zek,go_sem,er,jM,I9]
      .rw[fD.o]
       obtain⟨d1,d2,d3⟩:=Fg.done (b:=gb+1) aC;exact⟨v5,rfl,d1,d2,d3⟩
def zHu (lo:Nat)(v:fM)(r:b7)(call:Int)(w:aE)(h:eA w lo v r)(hs:Q0 r)(dQ:lo<=w.heap.size):
 fH aK 66 #[.agg (fS v r),.int .i64 call] w (Yh lo v w (mD r call)):=by
 obtain⟨gb,O,Z,fQ,HO,HZ,eW,jS,oY,HL⟩:=ze2 h dQ;clear h
 go_enter Tryz.func66,Tryz.ntmps66
 go_upto_region 1 with fail
 rw[<-HO.o,<-HZ.o,<-fQ.o];obtain⟨W1,dG⟩:=aU ((w.alloc O).alloc Z);rw[<-dG] at eW jS oY⊢;clear dG;have k:=aJ eW.o.blk;obtain⟨k0,k1,k2,k3,k4,k5,k6,k7⟩:=eR k;clear k;have Qh:=hs.nr;have J8:=hs.nw;have nK:=hs.nb;have vJ:=aD eW.o.ok.slcR;have Fo:=aD eW.o.ok.slcB;have Pu:gb+1≠v.gR:=by have:=HL.o;omega
 have zcq:gb+1≠v.gB:=by have:=HL.o;omega
 have z:=aJ jS.o;obtain⟨z0,z1,z2,z3,z4,z5,z6,z7⟩:=eR z;clear z;have r0:=eJ jS.o;rcases vQ:jJ r.recs call with _|i
 .have Ms:=aD (zfG vQ)
  rcases uO:vD r.back call with _|j
  .have Pa:=aD (zfG uO)
   have fD:=aD (show mD r call=(r,[103,111,110,101]) by unfold mD;rw[vQ];simp[uO]);clear vQ uO
   go_upto_region 9 with(first|(go_at_call 91;refine(Kq lo W1.heap.size r.recs.length v.cR (some ⟨v.gR,0,none⟩) r.recs call W1 vJ.o aC).mono ?_;rintro x w9 ⟨rfl,jR⟩;obtain rfl:=jR.symm;rw[Ms.o])|(go_at_call 92;refine(zar lo W1.heap.size r.back.length v.cB (some ⟨v.gB,0,none⟩) r.back call W1 Fo.o aC).mono ?_;rintro x w9 ⟨rfl,jR⟩;obtain rfl:=jR.symm;rw[Pa.o]))
   clear k0 k1 k2 k3 k4 k5 k6 k7 z0 z1 z2 z3 z4 z5 z6 z7 r0;have k:=aJ eW.o.blk;obtain⟨k0,k1,k2,k3,k4,k5,k6,k7⟩:=eR k;clear k;have z:=aJ jS.o;obtain⟨z0,z1,z2,z3,z4,z5,z6,z7⟩:=eR z;clear z;have r0:=eJ jS.o
   go_wp2_with fail
   have er:=aJ (tD v r jS.o);refine qW (v:=.tuple #[.agg (fS (v) (r)),.string ⟨([103,111,110,101]:List UInt8).toArray⟩]) ?_ rfl ?_
   .unfold gX at er
    simp[results,zeD,go_sem,er]
   .rw[fD.o]
    obtain⟨d1,d2,d3⟩:=eW.o.done (b:=gb+1) aC;exact⟨v,rfl,d1,d2,d3⟩
  .have Pa:=aD (Yo uO)
   have zmf:(0:Int)<=(j:Int):=aC;have fD:=aD (show mD r call=({r with back:=dY r.back call},[111,102,102]) by unfold mD;rw[vQ];simp[uO]);clear vQ uO
   go_upto_region 7 with(first|(go_at_call 91;refine(Kq lo W1.heap.size r.recs.length v.cR (some ⟨v.gR,0,none⟩) r.recs call W1 vJ.o aC).mono ?_;rintro x w9 ⟨rfl,jR⟩;obtain rfl:=jR.symm;rw[Ms.o])|(go_at_call 92;refine(zar lo W1.heap.size r.back.length v.cB (some ⟨v.gB,0,none⟩) r.back call W1 Fo.o aC).mono ?_;rintro x w9 ⟨rfl,jR⟩;obtain rfl:=jR.symm;rw[Pa.o]))
   have kf:=eJ eW.o.blk
   go_upto_region 8 with(go_at_call 95;refine(zg8 lo W1.heap.size r.back.length v.cB (some ⟨v.gB,0,none⟩) r.back call W1 Fo.o aC).mono ?_;rintro x w5 ⟨_,rfl,g5,c5,rfl,cV,b5⟩;have zcl:=aD cV;have Db:=aD b5;have kx:=(eD b5 eW.o.blk).1;have O2:=aJ kx 6;have wK:=eJ kx;clear cV b5 kx)
   obtain⟨W4,sS⟩:=aU (w5.setCell ⟨gb,6,none⟩ (.slice (some ⟨g5,0,none⟩) (dY r.back call).length c5));have Bv:=aD (show gP w W4 lo gb 2 v {v with gB:=g5,cB:=c5} {r with back:=dY r.back call} by rw[sS];exact eW.o.setB Db.o zcl.o rfl);have Ug:=aD (show W4.heap[gb+1]? =some jW by rw[sS];exact(eH w5 _ _ (gb+1) Re).trans (eD Db.o jS.o).1);rw[<-sS];clear sS O2 wK kf k0 k1 k2 k3 k4 k5 k6 k7 z0 z1 z2 z3 z4 z5 z6 z7 r0;obtain⟨v5,nN⟩:=aU ({v with gB:=g5,cB:=c5}:fM);obtain⟨r5,fF⟩:=aU ({r with back:=dY r.back call}:b7);rw[<-nN,<-fF] at Bv;rw[<-fF] at fD;clear nN fF;have k:=aJ Bv.o.blk;obtain⟨k0,k1,k2,k3,k4,k5,k6,k7⟩:=eR k;clear k;have z:=aJ Ug.o;obtain⟨z0,z1,z2,z3,z4,z5,z6,z7⟩:=eR z;clear z;have r0:=eJ Ug.o
   go_wp2_with fail
   have er:=aJ (tD v5 r5 Ug.o);refine qW (v:=.tuple #[.agg (fS (v5) (r5)),.string ⟨([111,102,102]:List UInt8).toArray⟩]) ?_ rfl ?_
   .unfold gX at er
    simp[results,zeD,go_sem,er]
   .rw[fD.o]
    obtain⟨d1,d2,d3⟩:=Bv.o.done (b:=gb+1) aC;exact⟨v5,rfl,d1,d2,d3⟩
 .have Ms:=aD (Yo vQ)
  obtain⟨d,hd,-,-⟩:=Bs vQ;have hi:=(kE.1 hd).1;have fR:(0:Int)<=(i:Int):=aC;have zJ:(i:Int)<(r.recs.length:Int):=aC;have hop:opAt r.recs i=d.o:=by unfold opAt;rw[hd]
  obtain⟨c0,c1,c2,c3,c4,c5,c6⟩:=eW.o.ok.recAt hd;have HD:=aD hd;by_cases zql:0<d.o
  .have fD:=aD (show mD r call=(lD r i Gi,[100,111,110,101]) by unfold mD;rw[vQ];simp only;rw[if_pos (by rw[hop];exact zql)])
   clear vQ hd hop
   go_upto_region 3 with(go_at_call 91;refine(Kq lo W1.heap.size r.recs.length v.cR (some ⟨v.gR,0,none⟩) r.recs call W1 vJ.o aC).mono ?_;rintro x w9 ⟨rfl,jR⟩;obtain rfl:=jR.symm;rw[Ms.o])
   clear c0 c1 c2 c3 c4 c5 c6 z0 z1 z2 z3 z4 z5 z6 z7 r0
   go_wp2_with (go_at_call 96;refine(zjm lo i v r d Gi W1 eW.o.ok HD.o aC aC zrM).mono ?_;rintro x w5 ⟨g5,c5,rfl,bV,jT,Lt⟩;obtain⟨v5,nN⟩:=aU ({v with gW:=g5,cW:=c5}:fM);obtain⟨r5,fF⟩:=aU (lD r i Gi:b7);rw[<-nN,<-fF] at bV⊢;have Vg:=aD nN;have pK:=aD fF;have wJ:=aD bV;have uF:=aD jT;have zmr:=aD Lt;have kr:=jT.blk jS.o Pu zcq;have sP:=aD kr;have z:=aJ kr;have r0:=eJ kr;obtain⟨z0,z1,z2,z3,z4,z5,z6,z7⟩:=eR z;clear bV jT Lt kr z nN fF)
   have nN:=Vg.o;have fF:=pK.o;rw[<-fF] at fD;have er:=aJ (tD v5 r5 sP.o);refine qW (v:=.tuple #[.agg (fS (v5) (r5)),.string ⟨([100,111,110,101]:List UInt8).toArray⟩]) ?_ rfl ?_
   .unfold gX at er
    simp[results,zeD,go_sem,er]
   .rw[fD.o]
    have hl:=HL.o;have hz:=oY.o;have hg:=zmr.o;have eV:=fQ.o;exact⟨v5,rfl,wJ.o.set8 (by rw[nN];simp only;omega),(eW.o.turn.same uF.o).set8 aC,by rw[nN];exact⟨.inl rfl,.inr Lz,.inl rfl,rfl⟩⟩
  .have fD:=aD (show mD r call=(lD r i Bx,[108,101,102,116]) by unfold mD;rw[vQ];simp only;rw[if_neg (by rw[hop];exact zql)])
   clear vQ hd hop
   go_upto_region 5 with(go_at_call 91;refine(Kq lo W1.heap.size r.recs.length v.cR (some ⟨v.gR,0,none⟩) r.recs call W1 vJ.o aC).mono ?_;rintro x w9 ⟨rfl,jR⟩;obtain rfl:=jR.symm;rw[Ms.o])
   clear c0 c1 c2 c3 c4 c5 c6 z0 z1 z2 z3 z4 z5 z6 z7 r0
   go_wp2_with (go_at_call 96;refine(zjm lo i v r d Bx W1 eW.o.ok HD.o aC aC zrM).mono ?_;rintro x w5 ⟨g5,c5,rfl,bV,jT,Lt⟩;obtain⟨v5,nN⟩:=aU ({v with gW:=g5,cW:=c5}:fM);obtain⟨r5,fF⟩:=aU (lD r i Bx:b7);rw[<-nN,<-fF] at bV⊢;have Vg:=aD nN;have pK:=aD fF;have wJ:=aD bV;have uF:=aD jT;have zmr:=aD Lt;have kr:=jT.blk jS.o Pu zcq;have sP:=aD kr;have z:=aJ kr;have r0:=eJ kr;obtain⟨z0,z1,z2,z3,z4,z5,z6,z7⟩:=eR z;clear bV jT Lt kr z nN fF)
   have nN:=Vg.o;have fF:=pK.o;rw[<-fF] at fD;have er:=aJ (tD v5 r5 sP.o);refine qW (v:=.tuple #[.agg (fS (v5) (r5)),.string ⟨([108,101,102,116]:List UInt8).toArray⟩]) ?_ rfl ?_
   .unfold gX at er
    simp[results,zeD,go_sem,er]
   .rw[fD.o]
    have hl:=HL.o;have hz:=oY.o;have hg:=zmr.o;have eV:=fQ.o;exact⟨v5,rfl,wJ.o.set8 (by rw[nN];simp only;omega),(eW.o.turn.same uF.o).set8 aC,by rw[nN];exact⟨.inl rfl,.inr Lz,.inl rfl,rfl⟩⟩
def cZ (r:b7)(m:Int)(k:Nat):b7×List UInt8:=(r.wait.take k).foldl l5 ({r with clk:=r.clk+m},[97,116,32]++jM (r.clk+m))
variable {m:Int}{k:Nat}{x:bJ}
def zfx (h:r.wait[k]? =some x):cZ r m (k+1)=l5 (cZ r m k) x:=by
 unfold cZ;rw[Nb,h,zln];rfl
def zcV (r:b7)(m:Int):cZ r m r.wait.length=uY r m:=by
 unfold cZ uY;rw[zP (aX _)]
def zaI (rs:List bT)(c:Int):(jJ rs c).isSome=rs.any (Ao c):=by unfold jJ;exact List.findIdx?_isSome
variable {d:bT}{f:bT->bT}
def zvf (hd:rs[i]? =some d)(hc:d.c≠c)(h:(jJ rs c).isSome=true):(jJ (rs.modify i f) c).isSome=true:=by
 rw[zaI,Ue] at*;obtain⟨x,hx,hp⟩:=h;obtain⟨j,hj,e⟩:=Kj.1 hx;have eO:i≠j:=by
  intro e2;subst e2;rw[lO hj,e] at hd;injection hd with hd;unfold Ao at hp;simp at hp;exact hc (hd▸hp.1)
 refine⟨x,?_,hp⟩;refine F9.2 ⟨j,?_⟩;rw[zD,lO hj,e];simp[eO]
structure TiredOk (r:b7)(m:Int)(k:Nat):Prop where
 nrec:(cZ r m k).1.recs.length=r.recs.length
 off:(cZ r m k).1.o=r.o
 clk:(cZ r m k).1.clk=r.clk+m
 nb:(cZ r m k).1.back.length<=r.back.length+k
 nw:(cZ r m k).1.wait.length<=r.wait.length
 txt:(cZ r m k).2.length<=30+30*k
 has:∀j x,k<=j->r.wait[j]? =some x->(jJ (cZ r m k).1.recs x.c).isSome=true
 fr:∀d∈(cZ r m k).1.recs,0<=d.f/\d.f<=100000
def Vw (xs:List bJ)(q:Int):(dY xs q).length<=xs.length:=zc2 _ _
def P3 (h0:0<=c)(h1:c<=1000000):(jM c).length<=20:=by
 obtain⟨n,rfl⟩:∃n:Nat,c=(n:Int):=⟨c.toNat,aC⟩;unfold jM;rw[X3];exact M2 aC
variable {bt:b7×List UInt8}
def za1 (hi:jJ bt.1.recs x.c=some i)(hd:bt.1.recs[i]? =some d):
 l5 bt x=if bt.1.o.pt<=bt.1.clk-d.f then({lD bt.1 i D8 with back:=bt.1.back++[x]},bt.2++[32]++jM x.c) else bt:=by
 unfold l5;rw[hi];simp only;rw[show Vk bt.1.recs i=d.f by unfold Vk;rw[hd]]
def zkb (hq:zf0 r)(hn:(r.wait.map bJ.c).Nodup)(hf:∀d∈r.recs,0<=d.f/\d.f<=100000)(hc:0<=r.clk+m/\r.clk+m<=1000000):∀k,k<=r.wait.length->TiredOk r m k
 |0,_=>⟨rfl,rfl,rfl,aX _,aX _,by
  have:=P3 hc.1 hc.2;show([97,116,32]++jM (r.clk+m)).length<=_;rw[gM];simp only[qA,rY];omega,λj x _ hx=>hq.has x (dX hx),hf⟩
 |k+1,hk=>by
  have T:=zkb hq hn hf hc k aC;obtain⟨x,hx⟩:∃x,r.wait[k]? =some x:=⟨r.wait[k],lO aC⟩;obtain⟨i,hi⟩:=znn.1 (T.has k x (aX _) hx);obtain⟨d,hd,Z8,-⟩:=Bs hi;have e:=za1 (bt:=cZ r m k) hi hd;have e1:=zfx (m:=m) hx;rw[e] at e1;have zIb:=hq.num x (dX hx);have Be:=P3 (c:=x.c) aC aC;by_cases hp:(cZ r m k).1.o.pt<=(cZ r m k).1.clk-d.f
  .rw[if_pos hp] at e1
   refine⟨?_,?_,?_,?_,?_,?_,?_,?_⟩<;>rw[e1]
   .show(znI _ _ _).length=_
    rw[Hk];exact T.nrec
   .exact T.off
   .exact T.clk
   .have:=T.nb
    simp only[gM,qA,rY];omega
   .exact eG (Vw _ _) T.nw
   .have:=T.txt
    simp only[gM,qA,rY];omega
   .intro j y hj hy
    have zix:d.c≠y.c:=by
     intro e2;rw[Z8] at e2;have tW:=(kE.1 hy).1;have zg9:=(kE.1 hx).1;have aT:=(List.pairwise_iff_getElem.1 hn) k j (by rw[zpy];exact zg9) (by rw[zpy];exact tW) aC;apply aT;rw[zs3,zs3];rw[lO zg9] at hx;rw[lO tW] at hy;injection hx with hx;injection hy with hy;rw[hx,hy,e2]
    exact zvf hd zix (T.has j y aC hy)
   .intro z hz
    obtain⟨j,hj⟩:=F9.1 hz;have o6:(znI (cZ r m k).1.recs i λd=>{d with t:=(cZ r m k).1.clk,e:=D8})[j]? =some z:=hj;rw[zD] at o6;rcases Ny:(cZ r m k).1.recs[j]? with _|y
    .rw[Ny] at o6;split at o6<;>cases o6
    .rw[Ny] at o6
     have hy:=T.fr y (dX Ny);split at o6<;>(simp at o6;subst o6;exact hy)
  .rw[if_neg hp] at e1
   exact⟨by rw[e1];exact T.nrec,by rw[e1];exact T.off,by rw[e1];exact T.clk,by rw[e1];have:=T.nb;omega,by rw[e1];exact T.nw,by rw[e1];have:=T.txt;omega,by rw[e1];exact λj y hj hy=>T.has j y aC hy,by rw[e1];exact T.fr⟩
section
variable {w0 w w':aE}{lo gb k:Nat}{v0 v v':fM}{r r':b7}
def gP.setClk {c:Int}(h:gP w0 w lo gb k v0 v r):gP w0 (w.setCell ⟨gb,3,none⟩ (.int .i64 c)) lo gb k v0 v {r with clk:=c}:=by
 have aR:=h.aR;have aW:=h.aW;have aB:=h.aB;have aL:=h.aL;have M3:=h.base;have t:=h.turn;have kp:=h.kpos;refine⟨(h.ok.setCell aC).clock c,⟨t.os,t.tape,t.output,by rw[sN];exact t.size,λy hy e1 e2=>(eH w _ _ y zjc).trans (t.block y hy e1 e2)⟩,h.moved,h.base,?_,by rw[sN];exact h.size,h.kpos,aR,aW,aB,aL,h.lob⟩;rw[nJ h.blk];rfl
def gP.whole {n:Nat}(h:gP w0 w lo gb k v0 v r)(ho:eA w' lo v' r')(t:oK v w w')(m:wS n v v')(hn:n=w.heap.size):
 gP w0 (gX w' gb (.int .i64 r'.o.ln) (.int .i64 r'.o.op) (.int .i64 r'.o.pt) (.int .i64 r'.clk) (v'.sR r') (v'.sW r') (v'.sB r') (v'.sL r')) lo gb k v0 v' r':=by
 obtain⟨_,t2,m2,hb⟩:=h.turned ho t m hn;have aR:=h.aR;have aW:=h.aW;have aB:=h.aB;have aL:=h.aL;have mr:=m.r;have mw:=m.w;have mb:=m.b;have ml:=m.l;have sz:=h.size;have kp:=h.kpos;have M3:=h.base;have tz:=t.size;refine⟨ho.set8 aC,t2.set8 aC,m2,h.base,zdb hb,by rw[zlB];omega,h.kpos,aC,aC,aC,aC,h.lob⟩
end
def zzh {b x:Nat}{o:Obj}{a0 a1 a2 a3 a4 a5 a6 a7:aF}(h:w.heap[x]? =some o)(hx:x≠b):(gX w b a0 a1 a2 a3 a4 a5 a6 a7).heap[x]? =some o:=(Hc hx).trans h
def zE9 (lo:Nat)(v:fM)(r:b7)(m:Int)(w:aE)(h:eA w lo v r)(hs:Q0 r)(dQ:lo<=w.heap.size)(hq:zf0 r)(lG:(r.wait.map bJ.c).Nodup)(fP:∀d∈r.recs,0<=d.f/\d.f<=100000)(zsW:0<=m)(zeu:m<=100000):
 fH aK 67 #[.agg (fS v r),.int .i64 m] w (Yh lo v w (uY r m)):=by
 have fN:=h.ap;have zkl:=aD (zkb (m:=m) hq lG fP (by have:=hs.clk;omega));have zG7:=aD hq.num;have zrO:=(Cs hs.off).2.2.2.2;clear lG fP hq;obtain⟨gb,O,Z,fQ,HO,HZ,eW,jS,oY,HL⟩:=ze2 h dQ;clear h
 go_enter Tryz.func67,Tryz.ntmps67
 go_upto_region 1 with fail
 rw[<-HO.o,<-HZ.o,<-fQ.o];obtain⟨W1,dG⟩:=aU ((w.alloc O).alloc Z);rw[<-dG] at eW jS oY⊢;clear dG;obtain⟨n,hn⟩:=aU r.wait.length;have nK:=hs.nb;have Bf:=hs.nr;have J8:n<=1000:=by rw[hn];exact hs.nw
 have Uq:=aD hn;have Jd:=hs.clk;obtain⟨zit,zBJ⟩:=Jd;obtain⟨ck,Jd⟩:=aU r.clk;have Gf:=aD Jd;rw[<-Jd] at zit zBJ;have k:=aJ eW.o.blk;obtain⟨k0,k1,k2,k3,k4,k5,k6,k7⟩:=eR k;clear k;have Vj:W1.cell? ⟨gb,3,none⟩=some (.int .i64 ck):=by rw[k3,Gf.o];rfl
 have kf:=eJ eW.o.blk;clear k3 Jd hn;have nV:=aD (show gP w (W1.setCell ⟨gb,3,none⟩ (.int .i64 (ck+m))) lo gb 2 v v {r with clk:=ck+m} from eW.o.setClk)
 go_upto_region 2 with fail
 obtain⟨W2,qM⟩:=aU (W1.setCell ⟨gb,3,none⟩ (.int .i64 (ck+m)));rw[<-qM] at nV⊢;have Dl:=aD (show W2.heap[gb+1]? =some jW by rw[qM];exact(eH W1 _ _ (gb+1) Re).trans jS.o);clear k0 k1 k2 Vj k4 k5 k6 k7 kf qM;obtain⟨c2,nM⟩:∃c2:Nat,ck+m=(c2:Int):=⟨(ck+m).toNat,aC⟩;have zDT:c2<=100000000:=aC;have Ea:(K7 (c2:Int)).length<=20:=by rw[X3];exact M2 aC
 have Ro:=aD nM;have k3:=aJ nV.o.blk 3;have Vj:W2.cell? ⟨gb,3,none⟩=some (.int .i64 (c2:Int)):=by rw[<-nM];exact k3
 clear k3 nM
 go_upto_region 3 with(go_at_call 94;refine(zaC c2 zDT _).mono ?_;rintro x w3 ⟨rfl,Zl⟩;have zaP:=aD Zl;clear Zl)
 have znU:=aD (nV.o.keep zaP.o);have zcB:=aD (eD zaP.o Dl.o).1;have k5:=aJ znU.o.blk 5;have zp9:w3.cell? ⟨gb,5,none⟩=some (.slice (some ⟨v.gW,0,none⟩) n v.cW):=by rw[k5,Uq.o];rfl
 clear k5 Vj;have zjf:=aD (show(⟨([97,116,32]++K7 (c2:Int):List UInt8).toArray⟩:ByteArray)=⟨(cZ r m 0).2.toArray⟩ by show _=(⟨([97,116,32]++jM (r.clk+m):List UInt8).toArray⟩:ByteArray);rw[<-Gf.o,Ro.o];rfl);have zLD:=HL.o
 go_wp2_with fail
 go_loopw [6,8] (λt i wr=>∃(k:Nat) (v1:fM),k<=n/\i=.int .i64 k/\t=.string ⟨(cZ r m k).2.toArray⟩/\gP w wr lo gb 2 v v1 (cZ r m k).1/\wr.heap[gb+1]? =some jW/\wr.ownsRow lo 100 2 (.slice (some ⟨v.gW,0,none⟩) n v.cW) n (bF r.wait)) (λ_ i _=>n-(intOf i).toNat)
 case atStart=>
  refine⟨0,v,jY _,rfl,?_,?_,zcB.o,?_⟩
  .rw[<-zjf.o];congr 1
  .have e:(cZ r m 0).1={r with clk:=ck+m}:=by rw[Gf.o];rfl
   rw[e];exact znU.o
  .have:=znU.o.ok.wt
   rw[Uq.o];exact this
 case round=>
  obtain⟨k,v1,hk,rfl,rfl,eY,Gs,cD⟩:=hrel;have T:=zkl.o k (by have:=Uq.o;omega);obtain⟨r1,kC⟩:=aU ((cZ r m k).1);obtain⟨tx,zgd⟩:=aU ((cZ r m k).2);have znZ:=T.nrec;have ztJ:=T.nb;have zqb:=T.nw;have zv8:=T.txt;have zh1:=T.clk;have zni:=T.off;have zqW:=aD T.fr;have zvG:=aD T.has;rw[<-kC] at eY znZ ztJ zqb zh1 zni zqW zvG;rw[<-zgd] at zv8⊢;have lJ:=aD kC;have ziC:=aD zgd;have uL:=aD eY;have zeo:=aD Gs;have Qn:=aD cD;have zMt:r1.recs.length<=1000:=aC;have zAz:r1.back.length<=6000:=aC;have zzm:r1.wait.length<=1000:=by have:=hs.nw;omega
  have zKM:tx.length<=40000:=aC;have zj3:gb+2<=wr.heap.size:=eY.size;have zCF:=eY.moved.r;have zGJ:=eY.moved.b;have zub:=aD zh1;have Cv:=aD zni;clear T kC zgd eY Gs cD znZ ztJ zqb zv8 zh1 zni;by_cases aN:k<n
  .obtain⟨bx,ox,x,hA,-,-,zC8,eK,e0,e1⟩:=(Ak Qn.o aH).callsAt aN
   injection hA with hA;injection hA with zT y5;subst zT y5;simp only[qZ] at e0 e1;obtain⟨i,vQ⟩:=znn.1 (zvG.o k x (aX _) eK);obtain⟨d,hd,Z8,-⟩:=Bs vQ;have zIb:=zG7.o x (dX eK);have hi:=(kE.1 hd).1;have fR:(0:Int)<=(i:Int):=aC;have zJ:(i:Int)<(r1.recs.length:Int):=aC;have i0:(0:Int)<=(k:Int):=aC;have i1:(k:Int)<(n:Int):=aC;obtain⟨zL8,zKG⟩:=zqW.o d (dX hd);have uH:=aD (show cZ r m (k+1)=if r1.o.pt<=r1.clk-d.f then({lD r1 i D8 with back:=r1.back++[x]},tx++[32]++jM x.c) else(r1,tx) by
    rw[zfx eK,za1 (i:=i) (d:=d) (by rw[<-lJ.o];exact vQ) (by rw[<-lJ.o];exact hd),<-lJ.o,<-ziC.o];congr 1;rw[lJ.o,ziC.o])
   have Ms:=aD (Yo vQ);have HD:=aD hd;have zkK:=aD eK;obtain⟨q,zmA⟩:=aU x.c;have HE:=aD (λnq:Nat=>fH.quiet_of (w:=wr) (n:=nq) ((Kq lo wr.heap.size r1.recs.length v1.cR (some ⟨v1.gR,0,none⟩) r1.recs x.c (wr.drewN nq) (have hs:=uL.o.ok.slcR;⟨hs.len,hs.le,hs.cap,hs.at_⟩) aC).mono λe w' hh=>by rw[Ms.o] at hh;exact⟨hh.1,0,hh.2⟩));obtain⟨c0,c1,zkx,c3,c4,c5,c6⟩:=uL.o.ok.recAt hd;clear vQ hd Z8 eK zmA;have k:=aJ uL.o.blk;obtain⟨k0,k1,k2,k3,k4,k5,k6,k7⟩:=eR k;clear k
   go_wp2_with fail
   go_quiet ((go_at_call 91;exact HE.o _))
   go_wp2_with fail
   obtain⟨wq,qT⟩:=aU (wr.drewN nq);rw[<-qT];have zf2:=aD (show gP w wq lo gb 2 v v1 r1 by rw[qT];exact uL.o.keep ⟨rfl,rfl,rfl,aX _,λ_ _=>rfl⟩);have zu2:=aD (show wq.heap[gb+1]? =some jW by rw[qT];exact zeo.o);have zpS:=aD (show wq.ownsRow lo 100 2 (.slice (some ⟨v.gW,0,none⟩) n v.cW) n (bF r.wait) by rw[qT];exact Aj Qn.o (λ_ _=>rfl));replace e0:wq.cell? ⟨v.gW,k*2,none⟩=some (.int .i64 x.c):=by rw[qT];exact e0
   replace e1:wq.cell? ⟨v.gW,k*2+1,none⟩=some (.int .i64 x.p):=by rw[qT];exact e1
   have zyW:v.gW<wq.heap.size:=by rw[qT];exact zC8
   have Ag:gb+2<=wq.heap.size:=by rw[qT];exact zj3
   clear c0 c1 zkx c3 c4 c5 c6 k0 k1 k2 k3 k4 k5 k6 k7 qT;obtain⟨c0,c1,zkx,c3,c4,c5,c6⟩:=zf2.o.ok.recAt HD.o;have k:=aJ zf2.o.blk;obtain⟨k0,k1,k2,k3,k4,k5,k6,k7⟩:=eR k;clear k;have Gy:0<=r1.clk:=by have:=zub.o;have:=Gf.o;omega
   have qG:r1.clk<=200000:=by have:=zub.o;have:=Gf.o;omega
   have rF:1<=r1.o.pt:=by rw[Cv.o];exact zrO.1
   have Zl:r1.o.pt<=60:=by rw[Cv.o];exact zrO.2
   by_cases hp:r1.o.pt<=r1.clk-d.f
   .replace uH:=aD (show cZ r m (k+1)=({lD r1 i D8 with back:=r1.back++[x]},tx++[32]++jM x.c) by rw[uH.o,if_pos hp])
    go_quiet (fail)
    go_upto_region 9 with fail
    obtain⟨wz,uV⟩:=aU (wq.drewN nq);rw[<-uV];have Ql:=aD (show gP w wz lo gb 2 v v1 r1 by rw[uV];exact zf2.o.keep ⟨rfl,rfl,rfl,aX _,λ_ _=>rfl⟩);have zDY:=aD (show wz.heap[gb+1]? =some jW by rw[uV];exact zu2.o);have zC7:=aD (show wz.ownsRow lo 100 2 (.slice (some ⟨v.gW,0,none⟩) n v.cW) n (bF r.wait) by rw[uV];exact Aj zpS.o (λ_ _=>rfl));have zAF:v.gW<wz.heap.size:=by rw[uV];exact zyW
    have zKK:gb+2<=wz.heap.size:=by rw[uV];exact Ag
    clear c0 c1 zkx c3 c4 c5 c6 k0 k1 k2 k3 k4 k5 k6 k7 e0 e1 uV;have k:=aJ Ql.o.blk;obtain⟨k0,k1,k2,k3,k4,k5,k6,k7⟩:=eR k;clear k;have kf:=eJ Ql.o.blk;have zB9:v.gW≠v1.gR:=by rcases zCF with e|e<;>omega
    have zwl:v.gW≠v1.gB:=by rcases zGJ with e|e<;>omega
    have aR:=Ql.o.aR;have aB:=Ql.o.aB;have zyD:gb+1≠v1.gR:=aC;have zps:gb+1≠v1.gB:=aC;have J3:gb≠v1.gR:=aC;have y9:gb≠v1.gB:=aC;have zLh:=aD aR;have zS:=aD aB;have Tv:lo<=wz.heap.size:=by have:=Ql.o.lob;omega
    clear aR aB
    go_upto_region 10 with(go_at_call 96;refine(zjm lo i v1 r1 d D8 wz Ql.o.ok HD.o aC aC Tv).mono ?_;rintro y w5 ⟨g5,c5,rfl,bV,jT,Lt⟩;obtain⟨v5,nN⟩:=aU ({v1 with gW:=g5,cW:=c5}:fM);obtain⟨r5,fF⟩:=aU (lD r1 i D8:b7);have kr:=jT.blk Ql.o.blk J3 y9;have zME:=aD kr;have zqU:wS wz.heap.size v1 v5:=(by rw[nN];exact⟨.inl rfl,.inr Lt,.inl rfl,rfl⟩);rw[<-nN,<-fF] at bV⊢;have Vg:=aD nN;have pK:=aD fF;have uF:=aD jT;have Fg:=aD (Ql.o.whole bV jT zqU rfl);have z:=aJ kr;have r0:=eJ kr;obtain⟨z0,z1,z2,z3,z4,z5,z6,z7⟩:=eR z;clear bV jT Lt kr z nN fF zqU)
    obtain⟨W6,q9⟩:=aU (gX w5 gb (.int .i64 r5.o.ln) (.int .i64 r5.o.op) (.int .i64 r5.o.pt) (.int .i64 r5.clk) (v5.sR r5) (v5.sW r5) (v5.sB r5) (v5.sL r5));have Sp:=aD (show W6.heap[gb+1]? =some jW by rw[q9];exact zzh (uF.o.blk zDY.o zyD zps) aC);have zwm:=aD (show W6.ownsRow lo 100 2 (.slice (some ⟨v.gW,0,none⟩) n v.cW) n (bF r.wait) by rw[q9];exact Cj zC7.o ((Hc aC).trans (uF.o.block v.gW zAF zB9 zwl)));rw[<-q9] at Fg;unfold gX at q9;rw[<-q9];have zC0:v5.gR=v1.gR:=by rw[Vg.o]
    have zbN:v5.gB=v1.gB:=by rw[Vg.o]
    have zhL:r5.back=r1.back:=by rw[pK.o];rfl
    have zKZ:r5.back.length<=6000:=by rw[zhL];exact zAz
    have Ju:=aD zhL;clear q9 z0 z1 z2 z3 z4 z5 z6 z7 r0 k0 k1 k2 k3 k4 k5 k6 k7 kf zhL;obtain⟨bx,ox,x',hA,-,-,zpD,Bi,e0,e1⟩:=(Ak zwm.o aH).callsAt aN;injection hA with hA;injection hA with zT y5;subst zT y5;rw[zkK.o] at Bi;injection Bi with Bi;subst Bi;simp only[qZ] at e0 e1;have k6:=aJ Fg.o.blk 6;have zLB:gb+2<=W6.heap.size:=Fg.o.size;have Dp:=aD (show W6.cell? ⟨v.gW,k*2,none⟩=some (.int .i64 x.c)/\W6.cell? ⟨v.gW,k*2+1,none⟩=some (.int .i64 x.p) from⟨e0,e1⟩);have kB:∀o:Obj,(W6.alloc o).cell? ⟨gb,6,none⟩=some (v5.sB r5):=λo=>Aa k6 o;have zMN:=aD zbN;have zz1:v5.gB≠gb:=by rw[zbN];exact Ne.symm y9
    have zyV:v5.gB≠gb+1:=by rw[zbN];exact Ne.symm zps
    have zLs:v5.gB≠v.gW:=by rw[zbN];exact Ne.symm zwl
    have zM9:v.gW≠gb:=aC;obtain⟨ii,Ox,jN,eL,lH⟩:=zI zga;have zcN:=aD Ox;clear Ox zC0 zbN e0 e1;obtain⟨g1,c1,w7,fN,sH,rN,B1,I5⟩:=zhk (P:=aK) (W6.alloc (.cells #[.int .i64 x.c,.int .i64 x.p] 100)).drew 57 57 lo 100 ii (.agg #[.int .i64 0,.int .i64 0]) 2 16 Ln zcN.o jN eL lH rfl aH v5.gB v5.cB r5.back.length (bF r5.back) (Aj Fg.o.ok.bk (λb hb=>uB _ _ b hb)) ⟨W6.heap.size,0,none⟩ 1 1 x.cells rfl (E0 (cs:=x.cells.toArray) (lQ _ _)) Q7 X2 aC (by have:=Fg.o.lob;simp;omega);have sG:=aD rN;have zbd:=aD sH;have za7:=aD I5;have kx:=(zE rN (dJ Fg.o.blk _) (Ne.symm zz1)).1;have O2:=aJ kx 6;have wK:=eJ kx;clear sH rN B1 I5 kx;refine wp_WT10 W6 w7 gb v.gW _ _ v5.gB r5.back.length v5.cB g1 c1 k x.c x.p rfl rfl rfl rfl k6 Dp.o.1 Dp.o.2 aC fN O2 (wK _) rfl ?_;clear fN;rw[Go.Mt.An,zxY];simp only[Go.Mt.xL,dV,dW,zlH,lWT10,Ds,C7]
    go_upto_region 11 with fail
    have zpZ:=aD (((Fg.o.alloc _).drew).appB (x:=x) sG.o zbd.o rfl za7.o);have zw9:=aD ((eH w7 ⟨gb,6,none⟩ (.slice (some ⟨g1,0,none⟩) (r5.back.length+1) c1) (gb+1) Re).trans (zE sG.o (J4 (dJ Sp.o _)) (Ne.symm zyV)).1);have zin:=aD (Cj zwm.o ((eH w7 ⟨gb,6,none⟩ (.slice (some ⟨g1,0,none⟩) (r5.back.length+1) c1) v.gW (by show v.gW≠gb;omega)).trans ((sG.o.block v.gW zeE zeE).trans (uB _ _ v.gW aC))));obtain⟨W7,Bz⟩:=aU (w7.setCell ⟨gb,6,none⟩ (.slice (some ⟨g1,0,none⟩) (r5.back.length+1) c1));rw[<-Bz] at zpZ zw9 zin⊢;clear Bz O2 wK k6 kB;obtain⟨bx,ox,x',hA,-,-,zMS,Bi,e0,e1⟩:=(Ak zin.o aH).callsAt aN;injection hA with hA;injection hA with zT y5;subst zT y5;rw[zkK.o] at Bi;injection Bi with Bi;subst Bi;simp only[qZ] at e0 e1;obtain⟨p,zhq⟩:∃p:Nat,x.c=(p:Int):=⟨x.c.toNat,aC⟩;have ziT:p<=100000000:=aC;have zMY:(K7 (p:Int)).length<=20:=by rw[X3];exact M2 aC
    rw[zhq] at e0;have zCC:=aD zhq;clear zhq e1
    go_wp2_with (go_at_call 94;refine(zaC p ziT _).mono ?_;rintro y w8 ⟨rfl,L1⟩;have zmQ:=aD L1;clear L1)
    go_roundw
    case rel=>
     refine⟨k+1,{v5 with gB:=g1,cB:=c1},aC,n6,?_,?_,(eD zmQ.o zw9.o).1,zpi zin.o zmQ.o⟩
     .rw[uH.o];simp[I9,jM,zCC.o]
     .rw[uH.o]
      have:=zpZ.o.keep zmQ.o;rw[Ju.o,pK.o] at this;exact this
    case measure=>simp[intOf];omega
   .replace uH:=aD (show cZ r m (k+1)=(r1,tx) by rw[uH.o,if_neg hp])
    go_quiet (fail)
    go_wp2;go_roundw
    case rel=>exact⟨k+1,v1,aC,n6,by rw[uH.o],by rw[uH.o];exact zf2.o.keep ⟨rfl,rfl,rfl,aX _,λ_ _=>rfl⟩,zu2.o,Aj zpS.o (λ_ _=>rfl)⟩
    case measure=>simp[intOf];omega
  .have e:k=n:=aC
   subst e;have zgB:=aD (show uY r m=(r1,tx) by rw[<-zcV,<-Uq.o,lJ.o,ziC.o]);have k:=aJ uL.o.blk;obtain⟨k0,k1,k2,k3,k4,k5,k6,k7⟩:=eR k;clear k;have z:=aJ zeo.o;obtain⟨z0,z1,z2,z3,z4,z5,z6,z7⟩:=eR z;clear z;have r0:=eJ zeo.o
   go_wp2_with fail
   have er:=aJ (tD v1 r1 zeo.o);refine qW (v:=.tuple #[.agg (fS (v1) (r1)),.string ⟨(tx:List UInt8).toArray⟩]) ?_ rfl ?_
   .unfold gX at er
    simp[results,Tryz.results67,go_sem,er]
   .rw[zgB.o]
    obtain⟨d1,d2,d3⟩:=uL.o.done (b:=gb+1) aC;exact⟨v1,rfl,d1,d2,d3⟩
structure zyq (r:b7):Prop where
 small:Q0 r
 waits:zf0 r
 nodup:(r.wait.map bJ.c).Nodup
 backs:∀x∈r.back,1<=x.c/\x.c<=99
 froms:∀d∈r.recs,0<=d.f/\d.f<=100000
variable {ops:Int}{e:dB}
def event_a (h:tE ops e=true)(ho:ops<=4):0<=e.a/\e.a<=100000:=by
 have h:=of_decide_eq_true h;unfold Js at h;omega
abbrev zuV (e:dB):Obj:=.cells #[.string e.k,.int .i64 e.a,.int .i64 e.b] 54
def zoP (lo:Nat)(v:fM)(r:b7)(e:dB)(w:aE)(h:eA w lo v r)(hs:zyq r)(dQ:lo<=w.heap.size)(he:tE r.o.op e=true):
 fH aK 51 #[.agg (fS v r),.agg #[.string e.k,.int .i64 e.a,.int .i64 e.b]] w (Yh lo v w (eN r e)):=by
 obtain⟨Px,Ay⟩:=event_a he (Cs hs.small.off).2.2.2.1;obtain⟨gb,eV⟩:=aU w.heap.size;have hl:=h.lts;obtain⟨O,hO⟩:=aU (.cells (fS v r) 59:Obj);obtain⟨C,hC⟩:=aU (zuV e:Obj);obtain⟨Z,hZ⟩:=aU (jW:Obj);have gV:(((w.alloc O).alloc C).alloc Z).heap[gb]? =some (G4 v r):=by rw[hO,eV];exact dJ (dJ (lQ _ _) _) _
 have zA:(((w.alloc O).alloc C).alloc Z).heap[gb+1]? =some (zuV e):=by rw[hC,eV];exact dJ (mV _ _ aQ) _
 have o5:(((w.alloc O).alloc C).alloc Z).heap[gb+2]? =some jW:=by rw[<-hZ];exact mV _ _ Xm
 have eL:(((w.alloc O).alloc C).alloc Z).heap.size=gb+3:=by rw[eV];simp
 have eW:=aD (show gP w (((w.alloc O).alloc C).alloc Z) lo gb 3 v v r from⟨((h.alloc O).alloc C).alloc Z,oK.of_below v (dS (dS (dS (eF _ _) _) _) _),wS.refl _ _,eV,gV,by rw[eL];exact aX _,aC,.inl aC,.inl aC,.inl aC,.inl aC,aC⟩);have oY:=aD eL;have jS:=aD o5;have lR:=aD zA;have HO:=aD hO;have HC:=aD (show C=.cells #[.string e.k,.int .i64 e.a,.int .i64 e.b] 54 from hC);have HZ:=aD (show Z=.cells #[.int .i64 0,.int .i64 0,.int .i64 0,.int .i64 0,.slice none 0 0,.slice none 0 0,.slice none 0 0,.slice none 0 0] 59 from hZ);have fQ:=aD eV;have HL:=aD (show v.gR<gb/\v.gW<gb/\v.gB<gb/\v.gL<gb by omega);clear hO hC hZ eV gV o5 zA eL h hl
 go_enter Tryz.func51,Tryz.ntmps51
 go_upto_region 1 with fail
 rw[<-HO.o,<-HC.o,<-HZ.o,<-fQ.o];obtain⟨W1,dG⟩:=aU (((w.alloc O).alloc C).alloc Z);rw[<-dG] at eW jS lR oY⊢;clear dG;have k:=aJ eW.o.blk;obtain⟨k0,k1,k2,k3,k4,k5,k6,k7⟩:=eR k;clear k;have q:=aJ lR.o;obtain⟨q0,q1,q2⟩:=zta q;clear q;have hl:=HL.o;have J3:gb+2≠v.gR:=aC;have y9:gb+2≠v.gB:=aC;have Tv:lo<=W1.heap.size:=by have:=eW.o.lob;have:=oY.o;omega
 clear hl;cases h0:(e.k.toList==[114,105,110,103])
 case true=>
  have uH:=aD (show eN r e=qB r ⟨e.a,e.b⟩ by unfold eN;rw[if_pos (show e.k.toList=Iz from eq_of_beq h0)])
  go_wp2_with (go_at_call 63;refine(zBb lo v r ⟨e.a,e.b⟩ W1 eW.o.ok hs.small Tv).mono ?_;rintro y w5 ⟨v5,rfl,bV,jT,xJ⟩;obtain⟨r5,fF⟩:=aU ((qB r ⟨e.a,e.b⟩).1:b7);obtain⟨t5,o8⟩:=aU ((qB r ⟨e.a,e.b⟩).2:List UInt8);rw[<-fF] at bV⊢;rw[<-o8];have pK:=aD fF;have Bc:=aD o8;have wJ:=aD bV;have uF:=aD jT;have oF:=aD xJ;have kr:=jT.blk jS.o J3 y9;have sP:=aD kr;have z:=aJ kr;have r0:=eJ kr;obtain⟨z0,z1,z2,z3,z4,z5,z6,z7⟩:=eR z;clear fF o8 bV jT xJ kr z)
  have er:=aJ (tD v5 r5 sP.o);refine qW (v:=.tuple #[.agg (fS (v5) (r5)),.string ⟨(t5:List UInt8).toArray⟩]) ?_ rfl ?_
  .unfold gX at er
   simp[results,zaz,go_sem,er]
  .rw[uH.o]
   have hl:=HL.o;have hz:=oY.o;have eV:=fQ.o;have mr:=oF.o.r;have mw:=oF.o.w;have mb:=oF.o.b;have ml:=oF.o.l;refine⟨v5,by rw[pK.o,Bc.o],by rw[<-pK.o];exact wJ.o.set8 aC,(eW.o.turn.same uF.o).set8 aC,⟨mr.imp id (λx=>by omega),mw.imp id (λx=>by omega),mb.imp id (λx=>by omega),ml⟩⟩
 case false=>
  cases h1:(e.k.toList==[97,110,115,119,101,114])
  case true=>
   have uH:=aD (show eN r e=nU r e.a by unfold eN;rw[if_neg zfJ];rw[if_pos (show e.k.toList=Hp from eq_of_beq h1)])
   go_wp2_with (go_at_call 64;refine(zB5 lo v r e.a W1 eW.o.ok hs.small Tv hs.waits).mono ?_;rintro y w5 ⟨v5,rfl,bV,jT,xJ⟩;obtain⟨r5,fF⟩:=aU ((nU r e.a).1:b7);obtain⟨t5,o8⟩:=aU ((nU r e.a).2:List UInt8);rw[<-fF] at bV⊢;rw[<-o8];have pK:=aD fF;have Bc:=aD o8;have wJ:=aD bV;have uF:=aD jT;have oF:=aD xJ;have kr:=jT.blk jS.o J3 y9;have sP:=aD kr;have z:=aJ kr;have r0:=eJ kr;obtain⟨z0,z1,z2,z3,z4,z5,z6,z7⟩:=eR z;clear fF o8 bV jT xJ kr z)
   have er:=aJ (tD v5 r5 sP.o);refine qW (v:=.tuple #[.agg (fS (v5) (r5)),.string ⟨(t5:List UInt8).toArray⟩]) ?_ rfl ?_
   .unfold gX at er
    simp[results,zaz,go_sem,er]
   .rw[uH.o]
    have hl:=HL.o;have hz:=oY.o;have eV:=fQ.o;have mr:=oF.o.r;have mw:=oF.o.w;have mb:=oF.o.b;have ml:=oF.o.l;refine⟨v5,by rw[pK.o,Bc.o],by rw[<-pK.o];exact wJ.o.set8 aC,(eW.o.turn.same uF.o).set8 aC,⟨mr.imp id (λx=>by omega),mw.imp id (λx=>by omega),mb.imp id (λx=>by omega),ml⟩⟩
  case false=>
   cases h2:(e.k.toList==[114,101,116,117,114,110])
   case true=>
    have uH:=aD (show eN r e=l8 r e.a by unfold eN;rw[if_neg zfJ];rw[if_neg znf];rw[if_pos (show e.k.toList=Hs from eq_of_beq h2)])
    go_wp2_with (go_at_call 65;refine(zFc lo v r e.a W1 eW.o.ok hs.small Tv hs.backs).mono ?_;rintro y w5 ⟨v5,rfl,bV,jT,xJ⟩;obtain⟨r5,fF⟩:=aU ((l8 r e.a).1:b7);obtain⟨t5,o8⟩:=aU ((l8 r e.a).2:List UInt8);rw[<-fF] at bV⊢;rw[<-o8];have pK:=aD fF;have Bc:=aD o8;have wJ:=aD bV;have uF:=aD jT;have oF:=aD xJ;have kr:=jT.blk jS.o J3 y9;have sP:=aD kr;have z:=aJ kr;have r0:=eJ kr;obtain⟨z0,z1,z2,z3,z4,z5,z6,z7⟩:=eR z;clear fF o8 bV jT xJ kr z)
    have er:=aJ (tD v5 r5 sP.o);refine qW (v:=.tuple #[.agg (fS (v5) (r5)),.string ⟨(t5:List UInt8).toArray⟩]) ?_ rfl ?_
    .unfold gX at er
     simp[results,zaz,go_sem,er]
    .rw[uH.o]
     have hl:=HL.o;have hz:=oY.o;have eV:=fQ.o;have mr:=oF.o.r;have mw:=oF.o.w;have mb:=oF.o.b;have ml:=oF.o.l;refine⟨v5,by rw[pK.o,Bc.o],by rw[<-pK.o];exact wJ.o.set8 aC,(eW.o.turn.same uF.o).set8 aC,⟨mr.imp id (λx=>by omega),mw.imp id (λx=>by omega),mb.imp id (λx=>by omega),ml⟩⟩
   case false=>
    cases h3:(e.k.toList==[104,97,110,103])
    case true=>
     have uH:=aD (show eN r e=mD r e.a by unfold eN;rw[if_neg zfJ];rw[if_neg znf];rw[if_neg zqB];rw[if_pos (show e.k.toList=K8 from eq_of_beq h3)])
     go_wp2_with (go_at_call 66;refine(zHu lo v r e.a W1 eW.o.ok hs.small Tv).mono ?_;rintro y w5 ⟨v5,rfl,bV,jT,xJ⟩;obtain⟨r5,fF⟩:=aU ((mD r e.a).1:b7);obtain⟨t5,o8⟩:=aU ((mD r e.a).2:List UInt8);rw[<-fF] at bV⊢;rw[<-o8];have pK:=aD fF;have Bc:=aD o8;have wJ:=aD bV;have uF:=aD jT;have oF:=aD xJ;have kr:=jT.blk jS.o J3 y9;have sP:=aD kr;have z:=aJ kr;have r0:=eJ kr;obtain⟨z0,z1,z2,z3,z4,z5,z6,z7⟩:=eR z;clear fF o8 bV jT xJ kr z)
     have er:=aJ (tD v5 r5 sP.o);refine qW (v:=.tuple #[.agg (fS (v5) (r5)),.string ⟨(t5:List UInt8).toArray⟩]) ?_ rfl ?_
     .unfold gX at er
      simp[results,zaz,go_sem,er]
     .rw[uH.o]
      have hl:=HL.o;have hz:=oY.o;have eV:=fQ.o;have mr:=oF.o.r;have mw:=oF.o.w;have mb:=oF.o.b;have ml:=oF.o.l;refine⟨v5,by rw[pK.o,Bc.o],by rw[<-pK.o];exact wJ.o.set8 aC,(eW.o.turn.same uF.o).set8 aC,⟨mr.imp id (λx=>by omega),mw.imp id (λx=>by omega),mb.imp id (λx=>by omega),ml⟩⟩
    case false=>
     have uH:=aD (show eN r e=uY r e.a by unfold eN;rw[if_neg zfJ];rw[if_neg znf];rw[if_neg zqB];rw[if_neg (by intro e2;rw[e2] at h3;exact absurd h3 aH)])
     go_wp2_with (go_at_call 67;refine(zE9 lo v r e.a W1 eW.o.ok hs.small Tv hs.waits hs.nodup hs.froms Px Ay).mono ?_;rintro y w5 ⟨v5,rfl,bV,jT,xJ⟩;obtain⟨r5,fF⟩:=aU ((uY r e.a).1:b7);obtain⟨t5,o8⟩:=aU ((uY r e.a).2:List UInt8);rw[<-fF] at bV⊢;rw[<-o8];have pK:=aD fF;have Bc:=aD o8;have wJ:=aD bV;have uF:=aD jT;have oF:=aD xJ;have kr:=jT.blk jS.o J3 y9;have sP:=aD kr;have z:=aJ kr;have r0:=eJ kr;obtain⟨z0,z1,z2,z3,z4,z5,z6,z7⟩:=eR z;clear fF o8 bV jT xJ kr z)
     have er:=aJ (tD v5 r5 sP.o);refine qW (v:=.tuple #[.agg (fS (v5) (r5)),.string ⟨(t5:List UInt8).toArray⟩]) ?_ rfl ?_
     .unfold gX at er
      simp[results,zaz,go_sem,er]
     .rw[uH.o]
      have hl:=HL.o;have hz:=oY.o;have eV:=fQ.o;have mr:=oF.o.r;have mw:=oF.o.w;have mb:=oF.o.b;have ml:=oF.o.l;refine⟨v5,by rw[pK.o,Bc.o],by rw[<-pK.o];exact wJ.o.set8 aC,(eW.o.turn.same uF.o).set8 aC,⟨mr.imp id (λx=>by omega),mw.imp id (λx=>by omega),mb.imp id (λx=>by omega),ml⟩⟩
structure RInv (b:b7):Prop where
 off:rR b.o=true
 clk:0<=b.clk
 nodup:(b.wait.map bJ.c).Nodup
 hasrec:∀x∈b.wait,(jJ b.recs x.c).isSome=true
 recB:∀d∈b.recs,1<=d.c/\d.c<=99/\1<=d.l/\d.l<=6/\0<=d.o/\d.o<=4/\0<=d.f/\d.f<=b.clk
 waitB:∀x∈b.wait,1<=x.c/\x.c<=99
 backB:∀x∈b.back,1<=x.c/\x.c<=99
structure L5 (b:b7)(k:Nat):Prop where
 clk:b.clk<=60*k
 nrec:b.recs.length<=k
 nw:b.wait.length<=k
 nb:b.back.length<=60*k
 nl:b.log.length=k
def RInv.good (h:RInv b)(c:L5 b k)(hk:k<=60):zyq b:=
 ⟨
  ⟨h.off,by have:=c.nrec;omega,by have:=c.nw;omega,by have:=c.nb;omega,by have:=c.nl;omega,⟨h.clk,by have:=c.clk;omega⟩⟩,⟨h.hasrec,h.waitB⟩,h.nodup,h.backB,
  λd hd=>by have:=h.recB d hd;have:=c.clk;omega⟩
def RInv.zero (h:rR o=true):RInv (l7 o):=⟨h,zru _,List.nodup_nil,λx hx=>(by cases hx),λd hd=>(by cases hd),λx hx=>(by cases hx),λx hx=>(by cases hx)⟩
def L5.zero (o:jD):L5 (l7 o) 0:=⟨zru _,aX _,aX _,aX _,rfl⟩
variable {xs:List bJ}{q:Int}
def Dx (h:x∈dY xs q):x∈xs/\x.c≠q:=by
 unfold dY at h;rw[Iy] at h;exact⟨h.1,by simpa using h.2⟩
def zgs (h:(xs.map bJ.c).Nodup):((dY xs q).map bJ.c).Nodup:=
 zIa (zz4 _ List.filter_sublist) h
def Sw {z:bT}(h:z∈rs.modify i f):∃d∈rs,z=d\/z=f d:=by
 obtain⟨j,hj⟩:=F9.1 h;rw[zD] at hj;rcases Ny:rs[j]? with _|y
 .rw[Ny] at hj;cases hj
 .rw[Ny] at hj
  refine⟨y,dX Ny,?_⟩;simp at hj;split at hj
  .exact .inr hj.symm
  .exact .inl hj.symm
def zs7 {qs:List bT}(h:(jJ rs c).isSome=true):(jJ (rs++qs) c).isSome=true:=by
 rw[zaI] at*;rw[zx5,h];rfl
def zFr (hf:∀d,(f d).c=d.c/\(f d).e=d.e)(h:(jJ rs c).isSome=true):(jJ (rs.modify i f) c).isSome=true:=by
 rw[zaI,Ue] at*;obtain⟨x,hx,hp⟩:=h;obtain⟨j,hj,e⟩:=Kj.1 hx;have yM:Ao c (f x)=true:=by unfold Ao eI at*;rw[(hf x).1,(hf x).2];exact hp
 by_cases eO:i=j
 .refine⟨f x,F9.2 ⟨j,?_⟩,yM⟩
  rw[zD,lO hj,e];simp[eO]
 .refine⟨x,F9.2 ⟨j,?_⟩,hp⟩
  rw[zD,lO hj,e];simp[eO]
def RInv.ends (h:RInv b)(hd:b.recs[i]? =some d)(e:ByteArray):RInv (lD b i e):=by
 refine⟨h.off,h.clk,zgs h.nodup,?_,?_,λx hx=>h.waitB x (Dx hx).1,h.backB⟩
 .intro x hx
  have hx:x∈dY b.wait (G6 b.recs i):=hx;rw[Ui hd] at hx;obtain⟨h1,h2⟩:=Dx hx;exact zvf hd (Ne.symm h2) (h.hasrec x h1)
 .intro z hz
  obtain⟨y,hy,e1|e1⟩:=Sw hz
  .subst e1;exact h.recB _ hy
  .subst e1;exact h.recB y hy
def RInv.tire {t:List UInt8}(h:RInv b)(hx:1<=x.c/\x.c<=99):RInv (l5 (b,t) x).1:=by
 rcases ho:jJ b.recs x.c with _|i
 .have:l5 (b,t) x=(b,t):=by unfold l5;simp only[ho]
  rw[this];exact h
 .obtain⟨d,hd,-,-⟩:=Bs ho
  rw[za1 (bt:=(b,t)) ho hd];split
  .have e:=h.ends hd D8
   exact⟨e.off,e.clk,e.nodup,e.hasrec,e.recB,e.waitB,λy hy=>by
    rw[Er] at hy;rcases hy with hy|hy
    .exact h.backB y hy
    .simp at hy;subst hy;exact hx⟩
  .exact h
def RInv.tires:∀(xs:List bJ) (b:b7) (t:List UInt8),RInv b->(∀x∈xs,1<=x.c/\x.c<=99)->RInv (xs.foldl l5 (b,t)).1
 |[],b,t,h,_=>h
 |x::xs,b,t,h,hx=>by
  rw[Pz];have h1:=h.tire (t:=t) (hx x aQ);obtain⟨b',t',e⟩:∃b' t',l5 (b,t) x=(b',t'):=⟨_,_,rfl⟩;rw[e] at h1⊢;exact RInv.tires xs b' t' h1 (λy hy=>hx y (by simp[hy]))
def zgg (ho:rR o=true)(h:l∈oJ o rs):1<=l/\l<=6:=by
 have:=zdk h;have:=(Cs ho).2.1;omega
def zaJ (xs:List bJ)(c:bJ):(tN xs c).Perm (c::xs):=by
 unfold tN;refine(List.perm_middle).trans ?_;rw[List.takeWhile_append_dropWhile]
def zCp (xs:List bJ)(c:bJ):(tN xs c).length=xs.length+1:=by rw[(zaJ xs c).length_eq];rfl
def zCs (h:tE ops e=true)(he:e.k.toList=Iz):1<=e.a/\e.a<=99:=by
 have h:=of_decide_eq_true h;unfold Js at h;rcases h with h|h|⟨h|h,_⟩|h
 .omega
 all_goals(first|(rw[h.1] at he;exact absurd he aH)|(rw[h] at he;exact absurd he aH))
def zev (h:tE ops e=true)(he:e.k.toList=Hp\/e.k.toList=Hs):1<=e.a/\e.a<=ops:=by
 have h:=of_decide_eq_true h;unfold Js at h;rcases h with h|h|h|h
 .rw[h.1] at he;exact absurd he aH
 .rw[h.1] at he;exact absurd he aH
 .exact⟨h.2.1,h.2.2.1⟩
 .rw[h.1] at he;exact absurd he aH
def zB0 (h:tE ops e=true)(h1:e.k.toList≠Iz)(h2:e.k.toList≠Hp)(h3:e.k.toList≠Hs)(h4:e.k.toList≠K8):1<=e.a/\e.a<=60:=by
 have h:=of_decide_eq_true h;unfold Js at h;rcases h with h|h|⟨h|h,_⟩|h
 .exact absurd h.1 h1
 .exact absurd h.1 h4
 .exact absurd h h2
 .exact absurd h h3
 .exact⟨h.2.1,h.2.2.1⟩
def ze9:eM.toList=[111,112,101,110]:=by decide+kernel
def RInv.step (h:RInv b)(hc:L5 b k)(he:tE b.o.op e=true)(hk:k<=60):RInv (eN b e).1/\L5 (Dy (eN b e)) (k+1)/\(eN b e).1.o=b.o/\(eN b e).1.log=b.log:=by
 have zLT:=Cs h.off;have c1:=hc.clk;have c2:=hc.nrec;have c3:=hc.nw;have c4:=hc.nb;have c5:=hc.nl;have key:∀bt:b7×List UInt8,RInv bt.1->bt.1.o=b.o->bt.1.log=b.log->bt.1.clk<=b.clk+60->bt.1.recs.length<=b.recs.length+1->bt.1.wait.length<=b.wait.length+1->bt.1.back.length<=b.back.length+60->RInv bt.1/\L5 (Dy bt) (k+1)/\bt.1.o=b.o/\bt.1.log=b.log:=by
  intro bt hi ho hl zKa hr hw wM;refine⟨hi,⟨by show bt.1.clk<=_;omega,by show bt.1.recs.length<=_;omega,by show bt.1.wait.length<=_;omega,by show bt.1.back.length<=_;omega,?_⟩,ho,hl⟩;show(bt.1.log++[bt.2]).length=_;rw[gM,hl,c5];rfl
 have same:∀t,RInv (b,t).1/\L5 (Dy (b,t)) (k+1)/\(b,t).1.o=b.o/\(b,t).1.log=b.log:=λt=>key (b,t) h rfl rfl (by show b.clk<=_;omega) (by show b.recs.length<=_;omega) (by show b.wait.length<=_;omega) (by show b.back.length<=_;omega);unfold eN;by_cases e1:e.k.toList=Iz
 .rw[if_pos e1]
  obtain⟨a1,a2⟩:=zCs he e1;unfold qB;split
  .exact same _
  .rename_i dE
   rw[Eo,not_or] at dE;rcases hf:oJ b.o b.recs with _|⟨l,fs⟩
   .refine key (_,_) ⟨h.off,h.clk,h.nodup,h.hasrec,h.recB,h.waitB,λx hx=>?_⟩ rfl rfl ?_ ?_ ?_ ?_
    .rw[Er] at hx
     rcases hx with hx|hx
     .exact h.backB x hx
     .simp at hx;subst hx;exact⟨a1,a2⟩
    all_goals simp only[gM,qA,rY]
    all_goals omega
   .have V7:=zgg h.off (l:=l) Wt
    refine key (_,_) ⟨h.off,h.clk,?_,?_,?_,?_,h.backB⟩ rfl rfl ?_ ?_ ?_ ?_
    .show((tN b.wait ⟨e.a,e.b⟩).map bJ.c).Nodup
     refine((zaJ b.wait ⟨e.a,e.b⟩).map bJ.c).nodup_iff.2 ?_;rw[fK,List.nodup_cons];refine⟨λhm=>?_,h.nodup⟩;obtain⟨x,hx,zAm⟩:=Ir.1 hm;have:=h.hasrec x hx;rw[zAm] at this;exact dE.1 this
    .intro x hx
     have hx:=(zaJ b.wait ⟨e.a,e.b⟩).mem_iff.1 hx;rcases jL.1 hx with rfl|hx
     .show(jJ (b.recs++_) e.a).isSome=true
      rw[zaI,zx5];have:Ao e.a ⟨e.a,l,0,b.clk,-1,-1,eM⟩=true:=by unfold Ao eI;simp;exact ze9
      simp[this]
     .exact zs7 (h.hasrec x hx)
    .intro d hd
     rcases Er.1 hd with hd|hd
     .exact h.recB d hd
     .simp at hd;subst hd
      have:=h.clk;simp only;omega
    .intro x hx
     have hx:=(zaJ b.wait ⟨e.a,e.b⟩).mem_iff.1 hx;rcases jL.1 hx with rfl|hx
     .exact⟨a1,a2⟩
     .exact h.waitB x hx
    all_goals simp only[gM,qA,rY,zCp]
    all_goals omega
 rw[if_neg e1];by_cases e2:e.k.toList=Hp
 .rw[if_pos e2]
  obtain⟨a1,a2⟩:=zev he (.inl e2);by_cases lM:0<dK b.recs e.a
  .have e9:nU b e.a=(b,[116,97,108,107,115]):=by unfold nU;rw[if_pos lM]
   rw[e9];exact same _
  .rcases hw:b.wait with _|⟨c,cs⟩
   .have e9:nU b e.a=(b,[110,111,110,101]):=by unfold nU;rw[if_neg lM,hw]
    rw[e9];exact same _
   .rcases ho:jJ b.recs c.c with _|i
    .have e9:nU b e.a=(b,[]):=by unfold nU;rw[if_neg lM,hw];simp only[ho]
     rw[e9];exact same _
    .have e9:nU b e.a=({b with recs:=b.recs.modify i λd=>{d with o:=e.a,h:=b.clk},wait:=dY b.wait c.c},[99,97,108,108,32]++jM c.c):=by unfold nU;rw[if_neg lM,hw];simp only[ho]
     rw[e9];refine key (_,_) ⟨h.off,h.clk,zgs h.nodup,?_,?_,?_,h.backB⟩ rfl rfl ?_ ?_ ?_ ?_
     .intro x hx
      exact zFr (λd=>⟨rfl,rfl⟩) (h.hasrec x (Dx hx).1)
     .intro z hz
      obtain⟨y,hy,q|q⟩:=Sw hz
      .subst q;exact h.recB _ hy
      .subst q
       have:=h.recB y hy;simp only;omega
     .intro x hx
      exact h.waitB x (Dx hx).1
     all_goals simp only[Hk]
     .omega
     .omega
     .have:=Vw b.wait c.c;omega
     .omega
 rw[if_neg e2];by_cases e3:e.k.toList=Hs
 .rw[if_pos e3]
  obtain⟨a1,a2⟩:=zev he (.inr e3);by_cases lM:0<dK b.recs e.a
  .have e9:l8 b e.a=(b,[116,97,108,107,115]):=by unfold l8;rw[if_pos lM]
   rw[e9];exact same _
  .rcases hw:b.back with _|⟨c,cs⟩
   .have e9:l8 b e.a=(b,[110,111,110,101]):=by unfold l8;rw[if_neg lM,hw]
    rw[e9];exact same _
   .rcases hf:oJ b.o b.recs with _|⟨l,fs⟩
    .have e9:l8 b e.a=(b,[98,117,115,121]):=by unfold l8;rw[if_neg lM,hw];simp only[hf]
     rw[e9];exact same _
    .have e9:l8 b e.a=({b with back:=dY b.back c.c,recs:=b.recs++[⟨c.c,l,e.a,b.clk,b.clk,-1,eM⟩]},[99,97,108,108,32]++jM c.c):=by unfold l8;rw[if_neg lM,hw];simp only[hf]
     rw[e9];have V7:=zgg h.off (l:=l) Wt;have Ib:=h.backB c (by rw[hw];simp);refine key (_,_) ⟨h.off,h.clk,h.nodup,λx hx=>zs7 (h.hasrec x hx),?_,h.waitB,?_⟩ rfl rfl ?_ ?_ ?_ ?_
     .intro d hd
      rcases Er.1 hd with hd|hd
      .exact h.recB d hd
      .simp at hd;subst hd
       have:=h.clk;simp only;omega
     .intro x hx
      exact h.backB x (Dx hx).1
     all_goals simp only[gM,qA,rY]
     .omega
     .omega
     .omega
     .have:=Vw b.back c.c;omega
 rw[if_neg e3];by_cases e4:e.k.toList=K8
 .rw[if_pos e4]
  rcases ho:jJ b.recs e.a with _|i
  .by_cases hf:(vD b.back e.a).isSome=true
   .have e9:mD b e.a=({b with back:=dY b.back e.a},[111,102,102]):=by unfold mD;simp only[ho];rw[if_pos hf]
    rw[e9];refine key (_,_) ⟨h.off,h.clk,h.nodup,h.hasrec,h.recB,h.waitB,λx hx=>h.backB x (Dx hx).1⟩ rfl rfl ?_ ?_ ?_ ?_
    all_goals simp only
    .omega
    .omega
    .omega
    .have:=Vw b.back e.a;omega
   .have e9:mD b e.a=(b,[103,111,110,101]):=by unfold mD;simp only[ho];rw[if_neg hf]
    rw[e9];exact same _
  .obtain⟨d,hd,-,-⟩:=Bs ho
   have hw:=Vw b.wait (G6 b.recs i);have end1:∀(E:ByteArray) (t:List UInt8),RInv (lD b i E,t).1/\L5 (Dy (lD b i E,t)) (k+1)/\(lD b i E,t).1.o=b.o/\(lD b i E,t).1.log=b.log:=λE t=>by
    refine key (_,_) (h.ends hd _) rfl rfl ?_ ?_ ?_ ?_
    .show b.clk<=_;omega
    .show(znI _ _ _).length<=_;rw[Hk];omega
    .show(dY b.wait (G6 b.recs i)).length<=_;omega
    .show b.back.length<=_;omega
   by_cases hp:0<opAt b.recs i
   .have e9:mD b e.a=(lD b i Gi,[100,111,110,101]):=by unfold mD;simp only[ho];rw[if_pos hp]
    rw[e9];exact end1 _ _
   .have e9:mD b e.a=(lD b i Bx,[108,101,102,116]):=by unfold mD;simp only[ho];rw[if_neg hp]
    rw[e9];exact end1 _ _
 rw[if_neg e4];obtain⟨a1,a2⟩:=zB0 he e1 e2 e3 e4;have mL:=h.clk;have T:=zkb (r:=b) (m:=e.a) ⟨h.hasrec,h.waitB⟩ h.nodup (λd hd=>by have:=h.recB d hd;omega) aC b.wait.length (aX _);have t1:=T.nrec;have t2:=T.off;have t3:=T.clk;have t4:=T.nb;have t5:=T.nw;rw[zcV] at t1 t2 t3 t4 t5;have zm8:∀(xs:List bJ) (bt:b7×List UInt8),(xs.foldl l5 bt).1.log=bt.1.log:=by
  intro xs
  induction xs with
  |nil=>intro bt;rfl
  |cons x xs ih=>
   intro bt;rw[Pz,ih];unfold l5;split
   .rfl
   .split<;>rfl
 refine key (uY b e.a) ?_ t2 (zm8 _ _) ?_ ?_ ?_ ?_
 .unfold uY
  refine RInv.tires _ _ _ ⟨h.off,by show 0<=b.clk+e.a;omega,h.nodup,h.hasrec,λd hd=>?_,h.waitB,h.backB⟩ h.waitB;have:=h.recB d hd;show _/\_/\_/\_/\_/\_/\_/\d.f<=b.clk+e.a;omega
 .omega
 .omega
 .omega
 .omega
def mG (o:jD)(es:List dB)(k:Nat):b7:=(es.take k).foldl (λb e=>Dy (eN b e)) (l7 o)
variable {es:List dB}
def Xs (h:es[k]? =some e):mG o es (k+1)=Dy (eN (mG o es k) e):=by
 unfold mG;rw[Nb,h,zln];rfl
def zdI (o:jD)(es:List dB):mG o es es.length=I6 o es:=by unfold mG I6;rw[zP (aX _)]
def P8 (h:gG o es=true):∀k,k<=es.length->RInv (mG o es k)/\L5 (mG o es k) k/\(mG o es k).o=o
 |0,_=>by
  have h1:rR o=true:=by unfold gG at h;simp at h;exact h.1.1
  exact⟨RInv.zero h1,L5.zero o,rfl⟩
 |k+1,hk=>by
  obtain⟨i1,i2,i3⟩:=P8 h k aC;obtain⟨e,he⟩:∃e,es[k]? =some e:=⟨es[k],lO aC⟩;have hv:tE o.op e=true:=by
   unfold gG at h;simp only[fV,tK] at h;exact h.2 e (dX he)
  have hl:es.length<=60:=by unfold gG at h;simp at h;exact h.1.2
  obtain⟨j1,j2,j3,j4⟩:=i1.step i2 (e:=e) (by rw[i3];exact hv) aC;rw[Xs he];exact⟨⟨j1.off,j1.clk,j1.nodup,j1.hasrec,j1.recB,j1.waitB,j1.backB⟩,j2,by show(eN _ e).1.o=o;rw[j3,i3]⟩
def zjx (o:jD)(w:aE):
 fH aK 34 #[.agg #[.int .i64 o.ln,.int .i64 o.op,.int .i64 o.pt]] w λx w'=>x=.returned (.bool (rR o))/\bR w.heap.size w w':=by
 go_enter Tryz.func34,Tryz.ntmps34
 go_wp2_with ((go_at_call 49;refine(zw1 _ _ _ _).mono ?_;rintro e w' ⟨rfl,rfl⟩))
 all_goals go_ret
 all_goals refine⟨E5 ?_,((eF _ _).alloc (aX _) _)⟩
 all_goals rw[Ns]
 all_goals simp[rR,inB] at*
 all_goals grind
def zCm (e:dB)(ops:Int)(w:aE):
 fH aK 50 #[.agg #[.string e.k,.int .i64 e.a,.int .i64 e.b],.int .i64 ops] w λx w'=>x=.returned (.bool (tE ops e))/\bR w.heap.size w w':=by
 go_enter Tryz.func50,Tryz.ntmps50
 go_wp2_with ((go_at_call 49;refine(zw1 _ _ _ _).mono ?_;rintro e w' ⟨rfl,rfl⟩))
 all_goals go_ret
 all_goals refine⟨E5 ?_,((eF _ _).alloc (aX _) _)⟩
 all_goals rw[Ns]
 all_goals simp[tE,Js,inB,Iz,K8,Hp,Hs,zai] at*
 all_goals grind
end Go.Proofs.YtfcjiloojkjaeaaGreatDoor
