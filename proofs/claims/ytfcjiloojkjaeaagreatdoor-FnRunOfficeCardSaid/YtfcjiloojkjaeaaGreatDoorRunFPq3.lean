/-
  Part 3 of what stands behind the last text.
-/
import Derived.Conc.WgGenN3
import Derived.Conc.TokenWalk
import Derived.Test.YtfcjiloojkjaeaaGreatDoorRunFPq2
set_option linter.all false
set_option maxHeartbeats 16000000
set_option maxRecDepth 100000
open Array renaming all_eq_true_iff_forall_mem→zl0,any_eq_true→zeD,ext_getElem?→zas,getD_eq_getD_getElem?→sZ,getElem?_eq_getElem→pK,getElem?_eq_none→Nr,getElem?_eq_some_iff→dR,getElem?_map→Gq,getElem?_mapIdx→Ny,getElem?_setIfInBounds→zxg,getElem?_setIfInBounds_ne→sO,getElem?_toList→C3,getElem_mem→zoX,mem_iff_getElem→zyE,mem_of_getElem?→zdI,mem_singleton→ztz,range→N2,replicate→nK
open Bool renaming and_eq_true→iT,false_eq_true→jG,false_or→zp0,not_eq_true'→ztm,or_eq_true→C4
open Classical renaming byContradiction→zT
open Go renaming Act→uL,Calls→fJ,Deferred→Gw,Event→o5,Frame→dL,Func→Te,FuncId→aO,Goroutine→bF,Item→dI,Oper→aX,Operand→cJ,Program→bT,Trace→mF,TypeId→aN,TypeInfo→xO,Value→aF,World→aE,bodyPost_ret→nN,deafBehind→oR,execOp→aS,getD_set_ne→Mv,heap_alloc_new→gV,info_parts→C6,mem_ready→zgZ,undef→aA,yielded→cS
open Go.Act renaming eval→wJ,mk→bE,put→b7
open Go.Builtin renaming append_→xG
open Go.Code renaming region→F5
open Go.Conc renaming Deaf_other→Of,aside_setCell→Vt,goes_elim→znn,listed→xY,mem_ofEvents→ze2,mem_seen→zcn,past_nil→znH,runT_crowd_go→Yr,seen_none→Cz,served→pG,stepG_add_atomic→X0,stepG_block→zg3,stepG_end→zeB,stepG_inBlock→zig,stepG_inLoop→znu,stepG_load_atomic→zd7,stepG_loop→ziH,stepG_mark0→zar,stepG_markAt→zau,stepG_region_end→dJ,stepG_ret'→xW,stepG_seq→dV,stepG_skip→qD,stepG_unwind_entry→zte
open Go.Conc.Goes renaming stop→qU
open Go.Conc.Lib renaming WgLib→Xn,WgLink→zfB
open Go.Conc.QuitsD renaming ctl→zql
open Go.ConcN renaming upd→zlv
open Go.ConcR renaming Payload→zfv,WgAt→fU,mk→oX
open Go.ConcR.Gen renaming body_add→N7,body_wait→zim,nm_uLoad→zmF,x_addU64_b→Yf,x_addU64_f→Vl,x_addU64_n→X4,x_addU64_x→Ya,x_disable_b→zn9,x_disable_f→ziQ,x_disable_n→zn1,x_disable_x→zjt,x_enable_b→zgB,x_enable_f→zex,x_enable_n→zfg,x_enable_x→zeo,x_loadU64_b→zg9,x_loadU64_f→zeK,x_loadU64_n→zdU,x_loadU64_x→zf5,x_semacquire_b→zwN,x_semacquire_f→zq9,x_semacquire_n→zpt,x_semacquire_x→zsQ,x_semrelease_b→zuX
open Go.Deferred renaming ofValue→Dh
open Go.Extern.Race renaming none_→zsh
open Go.Frame renaming enter→Eu,finish_at→zsp,tmps→zvI
open Go.GStep renaming after→C2
open Go.IntKind renaming i32→zxL,u64→Tv,wrap_i32→zyo,wrap_u64→zhY
open Go.Lib renaming itoa→Kj,itoa_nonneg→Wc
open Go.Made renaming infoAt→zvt,reckon→zrF,reckonStruct→zon,word→zrN
open Go.MemAct renaming ofEvent→jI,touch?→rY
open Go.Proofs.Tryz renaming checked→uB,prog→aK,results51→zc2,results63→zeA,results64→zji,results65→zhV,results66→zd9,underlying45→zr8,underlying57→Kh
open Go.Region renaming binds→Fi,ready→uK,schedule→Md,wanted→cO
open Go.Region.linearise renaming go→Fx
open Go.Result renaming andThen→uR,evThen_ok→zhx,ok→wP
open Go.RowKit renaming Below→bY
open Go.RowKit.Below renaming heap_alloc→sV,heap_setCell→dU,refl→fK
open Go.Sem renaming bind→x3,events→yZ,events_bind'→zhu,run→bK,runT→Ak,run_bind'→uG
open Go.Stepped.next renaming injEq→Yy
open Go.Tables renaming info?→zjq
open Go.World renaming alloc→zrh,cell?→lU,news_of_block→Gl,size_setCell→wR
open List renaming all_eq_true→vA,append_nil→Mw,filter_congr→zxM,filter_filter→zpG,foldl_append→zx7,foldl_cons→Pb,getD_cons_succ→Es,getD_cons_zero→En,getElem?_eq_getElem→nI,getElem?_eq_some_iff→l8,getElem?_modify→L3,getElem?_of_mem→zo7,getElem_map→zyv,length_append→jZ,length_cons→wL,length_filter_le→Y6,length_filter_lt_length_iff_exists→zrQ,length_modify→Lj,length_nil→zF,map_cons→jD,mem_append_left→zrz,mem_cons→lV,mem_filter→Jo,mem_filterMap→zs9,mem_iff_getElem?→Io,mem_map_of_mem→zwx,mem_of_getElem?→fI,mem_range→Da,modify→zcm,not_mem_nil→nM,range→fV,set_cons_succ→dX,set_cons_zero→dY
open Nat renaming eq_zero_or_pos→zc5,le_refl→bL,le_trans→eG,lt_of_lt_of_le→j5,lt_or_ge→rM,lt_succ_of_lt→zu9,lt_succ_self→yB,strongRecOn→zjm,zero_add→rL,zero_le→mK,zero_mul→zxf
open Option renaming bind_eq_some_iff→Ek,bind_some→uF,getD_some→vB,isSome_iff_exists→Xe,map_eq_some_iff→Aa,map_some→Bz
open Option.some renaming inj→cH,injEq→jS
open Prod.mk renaming injEq→oM
open Pure renaming pure→lR
open SizeOf renaming sizeOf→Nc
noncomputable section
namespace Go
theorem Ho{P:Prop}(h:P:=by rw[hz];exact zAr (by kernel_rfl)):P:=h
theorem zil{P:Prop}(h:P:=by intro u hu;simp[bV.cells] at hu;rcases hu with rfl|rfl|rfl|rfl|rfl|rfl|rfl<;>rfl):P:=h
theorem rW{P:Prop}(h:P:=by k_ne):P:=h
theorem zpU{P:Prop}(h:P:=by intro k hk aV;have cY:k=0\/k=1\/k=3\/k=4\/k=5\/k=6:=(by omega);rcases cY with rfl|rfl|rfl|rfl|rfl|rfl<;>rfl):P:=h
theorem zwG{P:Prop}(h:P:=by intro k hk aV;have cY:k=0\/k=1\/k=2\/k=3\/k=5\/k=6:=(by omega);rcases cY with rfl|rfl|rfl|rfl|rfl|rfl<;>rfl):P:=h
theorem Hx{P:Prop}(h:P:=by decide+kernel):P:=h
theorem zd5{P:Prop}(h:P:=by intro e2;rw[e2] at h0;exact absurd h0 (by decide)):P:=h
theorem ziF{P:Prop}(h:P:=by intro e2;rw[e2] at h1;exact absurd h1 (by decide)):P:=h
theorem Wb{P:Prop}(h:P:=by unfold maxLen;omega):P:=h
theorem X3{P:Prop}(h:P:=by exact True.intro):P:=h
theorem zwm{P:Prop}(h:P:=by intro e2;rw[e2] at h2;exact absurd h2 (by decide)):P:=h
theorem Zl{P:Prop}(h:P:=by rw[cF];simp):P:=h
theorem zdo{P:Prop}(h:P:=by rw[xU];simp):P:=h
theorem zhD{P:Prop}(h:P:=by simpa using hi):P:=h
theorem zyq{P:Prop}(h:P:=by have:=fB.o.lob;have:=pT.o;omega):P:=h
theorem zjQ{P:Prop}(h:P:=by show gb+1≠gb;omega):P:=h
theorem zl1{P:Prop}(h:P:=by simp[Act.eval,stA]):P:=h
theorem ziv{P:Prop}(h:P:=by simp[Act.eval,smA]):P:=h
end Go
namespace Go.Mt
open Go.Conc
open Go.ConcR (KK wgBlock WgAt stA smA rd wr)
section
variable {L:Type}{P:bT}{ty:aN}{Wg:Nat}{A:jN L}{Fin:bF->aE->Prop}
variable {K K':Bool->Ph L->Nat->cI->bF->aE->Prop}
theorem Nx.mono (hK:∀m ph d τ g w,K m ph d τ g w->K' m ph d τ g w){main:Bool}{ph:Ph L}{d:Nat}{τ:cI}{g:bF}{w:aE}(h:Nx P ty Wg K main ph d τ g w):Nx P ty Wg K' main ph d τ g w:=by
 have own:∀{ph:Ph L},OwnG P ty Wg K main ph d τ g w->OwnG P ty Wg K' main ph d τ g w:=λh aJ s=>by
  obtain⟨g',w',es,h1,h2,h3,h4,h5⟩:=h aJ s;exact⟨g',w',es,h1,h2,h3,h4,hK _ _ _ _ _ _ h5⟩
 have idle:∀{ph:Ph L},zb8 P ty Wg K main ph d τ g w->zb8 P ty Wg K' main ph d τ g w:=λh aJ s=>by
  obtain⟨g',es,h1,h2,h3,h4⟩:=h aJ s
  grind
 cases ph<;>first|exact h|exact own h|exact idle h
theorem nH.mono (hK:∀m ph d τ g w,K m ph d τ g w->K' m ph d τ g w){main:Bool}{l:L}{d:Nat}{τ:cI}{g:bF}{w:aE}(h:nH P ty Wg A K main l d τ g w):nH P ty Wg A K' main l d τ g w:=by
 unfold nH at*;split
 all_goals(rename_i e;simp only[e] at h)
 .obtain⟨ho,v,z,τ',h1,h2,h3,h4,Lq,h5,h6⟩:=h
  exact⟨ho,v,z,τ',h1,h2,h3,h4,Lq,h5,hK _ _ _ _ _ _ h6⟩
 .grind
 .grind
 .intro aJ lO v hv hw
  obtain⟨g',h1,h2,h3⟩:=h aJ lO v hv hw;exact⟨g',h1,h2,hK _ _ _ _ _ _ h3⟩
 .grind
 .grind
 .grind
 grind
theorem Ae.mono (hK:∀m ph d τ g w,K m ph d τ g w->K' m ph d τ g w){main:Bool}{ph:Ph L}{d:Nat}{τ:cI}{g:bF}{w:aE}(h:Ae P ty Wg A Fin K main ph d τ g w):Ae P ty Wg A Fin K' main ph d τ g w:=by
 cases ph with
 |gone=>exact h
 |quit l=>exact h
 |usr l=>exact nH.mono hK h
 |rel l=>
  intro aJ lO v wt a b c;obtain⟨g',h1,h2,h3,h4,h5⟩:=h aJ lO v wt a b c
  grind
 |l1 l=>
  intro aJ lO a;obtain⟨g',h1,h2,h3,h4⟩:=h aJ lO a
  grind
 |l2 l=>
  intro aJ lO a;obtain⟨g',h1,h2,h3,h4⟩:=h aJ lO a
  grind
 |l3 l=>exact h
 |w1 b=>
  intro aJ lO v zI5 hv hw;obtain⟨g',h1,h2,h3,h4⟩:=h aJ lO v zI5 hv hw
  grind
 |w2 vs=>
  intro aJ lO v hv hw;obtain⟨h1,h2⟩:=h aJ lO v hv hw
  grind
 |w3=>
  refine⟨h.1,λaJ lO=>⟨(h.2 aJ lO).1,λe=>?_⟩⟩;obtain⟨g',a,b,c⟩:=(h.2 aJ lO).2 e
  grind
 |w4=>
  intro aJ lO a;obtain⟨g',h1,h2,h3⟩:=h aJ lO a
  grind
 |w5=>exact h
def cG (P:bT)(ty:aN)(Wg:Nat)(A:jN L)(Fin:bF->aE->Prop)(main:Bool)(ph:Ph L)(d:Nat)(τ:cI)(g:bF)(w:aE):Prop:=∃r,pI P ty Wg A Fin r main ph d τ g w
variable {main:Bool}{ph:Ph L}{d:Nat}{τ:cI}{g:bF}{w aJ:aE}
theorem cG.mk (cP:g.status=.running)(h:Nx P ty Wg (cG P ty Wg A Fin) main ph d τ g w\/Ae P ty Wg A Fin (cG P ty Wg A Fin) main ph d τ g w):cG P ty Wg A Fin main ph d τ g w:=by
 let ι:={x:Bool×Ph L×Nat×cI×bF×aE//cG P ty Wg A Fin x.1 x.2.1 x.2.2.1 x.2.2.2.1 x.2.2.2.2.1 x.2.2.2.2.2}
 let f:ι->Rk:=λx=>x.2.choose
 have hK:∀m ph d τ g w,cG P ty Wg A Fin m ph d τ g w->∃i,pI P ty Wg A Fin (f i) m ph d τ g w:=λm ph d τ g w hb=>⟨⟨(m,ph,d,τ,g,w),hb⟩,hb.choose_spec⟩;exact⟨.mk ι f,cP,h.imp (λx=>x.mono hK) λx=>x.mono hK⟩
theorem cG.own (cP:g.status=.running)(hl:ph.live)(h:OwnG P ty Wg (cG P ty Wg A Fin) main ph d τ g w):cG P ty Wg A Fin main ph d τ g w:=
 .mk cP (.inl (by cases ph<;>first|exact h|exact hl.elim))
def cG.usr {l:L}(cP:g.status=.running)(h:nH P ty Wg A (cG P ty Wg A Fin) main l d τ g w):cG P ty Wg A Fin main (.usr l) d τ g w:=.mk cP (.inr h)
structure Start (P:bT)(ty:aN)(Wg:Nat)(A:jN L)(Fin:bF->aE->Prop)(Shun:Loc->Prop)(gs:Array bF)(w:aE)(t:mF)(q:Nat->Nat)(l:L)(τ:cI)(a:bF)(B:Nat):Prop where
 main:gs[0]? =some a
 leave:Leavers P t gs q
 past:Past Shun B t
 beh:cG P ty Wg A Fin true (.usr l) 0 τ a w
 grp:fU ty Wg w 0 0
 low:B<=Wg/\B<=w.heap.size
 bnd:∀b,τ.own b\/τ.still b\/τ.pass b->b<w.heap.size/\b≠Wg/\∀l,nY l b->¬Shun l
 pend:A.pend l=false
 inv:A.Inv (λi=>if i=0 then .run l else .gone) (λ_=>none)
theorem phase (hA:A.Ok){Shun:Loc->Prop}{gs:Array bF}{t:mF}{q:Nat->Nat}{l:L}{a:bF}{B:Nat}(S:Start P ty Wg A Fin Shun gs w t q l τ a B)(sl:Option (Nat×Nat)):
 ∃N m' t',runNT P N (crowd gs w sl) t=(.next m',t')/\P7 P Wg Fin Shun m' t':=by
 obtain⟨r,hr⟩:=S.beh;have h0:0<gs.size:=(dR.1 S.main).1
 let none':cI:=⟨λ_=>False,λ_=>False,λ_=>False⟩
 let T:Nat->Td L:=λi=>if i=0 then⟨.usr l,.inr r,τ,a⟩ else⟨.gone,.inl (q i),none',default⟩
 have t0:T 0=⟨.usr l,.inr r,τ,a⟩:=by simp[T]
 have tn:∀i,i≠0->T i=⟨.gone,.inl (q i),none',default⟩:=λi hi=>by simp[T,hi]
 have cP:a.status=.running:=by cases r with|mk ι f=>exact hr.1
 have P4:pE (λi=>(T i).ph) gs.size=0:=zmJ (λj hj=>by simp only[tn j hj,Ph.pre]) _;have wI:vv A (λi=>(T i).ph) gs.size=0:=by
  unfold vv Ax;rw[P4];simp only[t0,S.pend];rfl
 have zcE:(λi=>(T i).ph.proj)=λi=>if i=0 then .run l else .gone:=by
  funext i;by_cases hi:i=0
  .subst hi;rw[t0];rfl
  .rw[tn i hi,if_neg hi];rfl
 refine zGk (ty:=ty) hA (T:=T) (ch:=λ_=>none) (Shun:=Shun) ⟨⟨h0,λi hi=>(by rw[tn i aC]),(by rw[t0];trivial),λi hi=>(by rw[tn i hi];exact id),λi hi b=>?_,λi j b s7 hb=>?_,λi b hb=>?_,λi b hb=>?_,λi l' hi=>?_,λc b hc=>(by cases hc),?_,(by rw[zcE];exact S.inv)⟩,
  ⟨λi x hi=>?_,λi j gi gj c v z z' sh xJ hi hj=>?_,λi gi c z sh hi e=>(by cases e),λx hx hp=>(by rw[t0] at hp;cases hp),?_⟩⟩ sl
 .grind
 .grind
 .by_cases h:i=0
  .subst h
   rw[t0] at hb;have:=S.bnd b (hb.imp id .inl);simp_all
  .grind
 .by_cases h:i=0
  .subst h
   rw[t0] at hb;have:=S.bnd b (.inr (.inr hb));omega
  grind
 .by_cases h:i=0
  .subst h;rw[t0] at hi;cases hi
  .rw[tn i h] at hi;cases hi
 .unfold gP
  simp only[t0];refine⟨by rw[wI];simpa using S.grp,λi e=>?_⟩;by_cases h:i=0
  .subst h;rw[t0] at e;exact e
  .rw[tn i h] at e;exact e
 .by_cases h:i=0
  .subst h
   rw[S.main] at hi;cases hi;refine(qC (by rw[t0];exact id)).2 ⟨r,by rw[t0],?_,.inl (by rw[t0];exact mI.self cP)⟩;have hd:Deaf t 0=0:=S.past.hears;rw[t0,hd];exact hr
  .refine(Hf (by rw[tn i h];trivial)).2 ⟨q i,by rw[tn i h],S.leave.old i x aC hi⟩
 .exfalso
  by_cases h:i=0
  .subst h
   rw[S.main] at hi;cases hi;simp[parked] at cP
  .have:=(S.leave.old i _ aC hi).status
   simp[parked] at this
 .refine TI.begin S.past S.low.2 S.leave.above (λj=>?_) (λb hb=>?_) S.low.1
  .by_cases h:j=0
   .subst h;rw[t0];exact⟨λ_=>rfl,λ_=>trivial⟩
   .rw[tn j h];exact⟨λe=>e.elim,λe=>absurd e h⟩
  .rw[t0] at hb
   exact(S.bnd b hb).2.2
end
end Go.Mt
namespace Go.Mt
open Go.Conc Go.Tt
open Go.ConcR (KK wgBlock WgAt stA smA rd wr)
def wE (τ:cI)(R:Pr)(St:Nat->Prop):Prop:=∀a b,R a b->(St a->τ.still b)/\(¬St a->τ.own b)
section
variable {L:Type}{P:dM}{fs:aO->Bool}{K:Pr}{G':Gp}{St:Nat->Prop}{ty:aN}{Wg:Nat}{A:jN L}{Fin:bF->aE->Prop}
theorem ziL {S:aO->Prop}{R:Pr}{w W aZ:aE}{τ:cI}(h:dB S K R G' St w W)(ht:wE τ R St)(hK:∀a b,K a b->b<W.heap.size)(s:bX ty Wg τ W aZ):dB S K R G' St w aZ:=by
 refine⟨h.inj,h.inj',λa b x=>⟨(h.lt a b x).1,j5 (h.lt a b x).2 s.size⟩,h.low,⟨h.gle.1,eG h.gle.2 s.size⟩,λa b x=>?_,h.rest,h.st,h.np,h.tb⟩;obtain⟨o,o',h1,h2,h3⟩:=h.cont a b x;refine⟨o,o',h1,?_,h3⟩;rw[s.keep b ?_];exact h2;by_cases hs:St a
 .exact .inr ((ht a b x).1 hs)
 .exact .inl ((ht a b x).2 hs)
end
end Go.Mt
namespace Go.Mt
open Go.Conc Go.Tt
open Go.ConcN (sumTo sumTo_upd upd_ne upd_same)
open Go.ConcR (KK wgBlock WgAt stA smA rd wr)
def Ends (P:bT)(Post:aF->aE->Prop)(m:Machine)(t:mF):Prop:=
 ∃M last o w' t',runNT P (M+1) m t=(.ended o w',t')/\runN P M m=.next last/\step P last=.ended o w'/\Conc.Good P Post last o w' t'
section
variable {P:bT}{Post:aF->aE->Prop}
theorem Ends.step {m m':Machine}{t:mF}{ops:Array MemOp}(h:stepT P m=(.next m',ops))(he:Ends P Post m' (t++ops)):Ends P Post m t:=by
 obtain⟨M,last,o,w',t',h1,h2,h3,h4⟩:=he;refine⟨M+1,last,o,w',t',?_,?_,h3,h4⟩
 .rw[runNT,h];exact h1
 .have:Go.step P m=.next m':=by rw[Go.step,h]
  rw[zaV this];exact h2
theorem Ends.run:∀(N:Nat) {m m':Machine} {t t':mF},runNT P N m t=(.next m',t')->Ends P Post m' t'->Ends P Post m t:=by
 intro N
 induction N with
 |zero=>
  intro m m' t t' h he;simp only[runNT,oM,Yy] at h;simp_all
 |succ N ih=>
  intro m m' t t' h he;rw[runNT] at h;generalize hs:stepT P m=s at h;obtain⟨s,ops⟩:=s
  cases s with
  |next m1=>exact Ends.step hs (ih h he)
  |ended o w=>simp at h
variable (P Post)
def J (Shun:Loc->Prop)(B:Nat)(g:bF)(w:aE):Prop:=
 ∀(gs:Array bF) (t:mF) (sl:Option (Nat×Nat)) (q:Nat->Nat),gs[0]? =some g->Leavers P t gs q->Past Shun B t->Ends P Post (crowd gs w sl) t
variable {P Post}
variable {B:Nat}{g:bF}
theorem J.own {Shun:Loc->Prop}{w:aE}(cP:g.status=.running)
 (h:∀d,∃g' w' es B',stepG P true g (w.at d)=.go g' w' es/\(∀e∈es,EvL Shun B' e)/\B<=B'/\J P Post Shun B' g' w'):J P Post Shun B g w:=by
 have key:∀(M:Nat) (d:Nat) (gs:Array bF) (t:mF) (sl:Option (Nat×Nat)) (q:Nat->Nat),sumTo gs.size q=M->gs[0]? =some g->Leavers P t gs q->Past Shun B t->Ends P Post (crowd gs (w.at d) sl) t:=by
  intro M
  induction M using zjm with
  |ind M ih=>
  intro d gs t sl q hM h0 hL hP;have dN:∀x∈gs,awake x:=by
   intro x hx;obtain⟨i,hi,rfl⟩:=zyE.1 hx;rcases zc5 i with rfl|Ce
   .have:gs[0]=g:=by simpa[pK hi] using h0
    rw[this];exact awake_of (.inl cP)
   .exact awake_of ((hL.old i _ Ce (pK hi)).status.elim .inl λx=>.inr (.inr x))
  obtain⟨i,x,d',Ls,hi,hx,aY⟩:=crowd_pick (P:=P) (w:=w.at d) (sl:=sl) dN ⟨0,g,h0,cP⟩;rw[show(w.at d).at d'=w.at d' from rfl] at aY;rcases zc5 i with rfl|Ce
  .obtain rfl:x=g:=by simp_all
   obtain⟨g',w',es,B',hgo,yI,cK,hJ⟩:=h d';have zmG:=Yr (P:=P) (sl:=Ls) (i:=0) hi (show stepG P (0==0) x (w.at d')=_ from hgo);have aU:0<gs.size:=(dR.1 h0).1;refine Ends.step (aY.trans zmG) (hJ _ _ _ q (by simp[aU]) ⟨λj y hj hy=>?_,λj hj=>?_⟩ ((hP.mono cK).own yI))
   .have aV:0≠j:=aC
    rw[sO aV,Gq] at hy;obtain⟨z,hz,rfl⟩:=Aa.1 hy;have hq:=hL.old j z hj hz;rw[woken_quitsD hq,Of t aC _ (λop hop=>by obtain⟨e,_,rfl⟩:=ze2 hop;rfl)];exact hq
   .rw[Of t (g':=0) (by simp at hj;omega) _ (λop hop=>by obtain⟨e,_,rfl⟩:=ze2 hop;rfl)]
    exact hL.above j zco
  .have hq:=hL.old i x Ce hi
   have fN:(i==0)=false:=pX;have aU:i<gs.size:=(dR.1 hi).1
   cases ziZ:q i with
   |zero=>rw[ziZ] at hq;rw[hq.1] at hx;cases hx
   |succ k=>
    rw[ziZ] at hq;rcases hq with⟨hf,_⟩|⟨_,g',es,hm,zcC,Ni⟩
    .rw[hf] at hx;cases hx
    have zmG:=Yr (P:=P) (sl:=Ls) (i:=i) hi (by rw[fN];exact zcC (w.at d'));have cK:((gs.map (woken P x g' (w.at d'))).setIfInBounds i g').size=gs.size:=aQ;have zLi:sumTo gs.size (zlv q i k)+(k+1)=sumTo gs.size q+k:=by
     have:=sumTo_upd q k id aU;simp only[ziZ,id] at this;exact this
    refine Ends.step (aY.trans zmG) (ih (sumTo gs.size (zlv q i k)) aC d' _ _ _ (zlv q i k) (by rw[cK]) ?_ ⟨λj y hj hy=>?_,λj hj=>?_⟩ (hP.mute aC hm))
    .have aV:i≠0:=aC
     rw[sO aV,Gq,h0];simp[woken_run cP]
    .by_cases fF:i=j
     .subst fF
      rw[Array.getElem?_setIfInBounds_self_of_lt (by simpa using aU)] at hy;obtain rfl:=cH hy;rw[ConcN.upd_same,Deaf_own];exact Ni
     .rw[sO fF,Gq] at hy
      obtain⟨z,hz,rfl⟩:=Aa.1 hy;have zwQ:=hL.old j z hj hz;rw[woken_quitsD zwQ,ConcN.upd_ne q k (Ne.symm fF),Of t fF _ (λop hop=>by obtain⟨e,_,rfl⟩:=ze2 hop;rfl)];exact zwQ
    .rw[Of t (g':=i) (by simp at hj;omega) _ (λop hop=>by obtain⟨e,_,rfl⟩:=ze2 hop;rfl)]
     exact hL.above j zco
 intro gs t sl q h0 hL hP;have:=key _ w.drawn gs t sl q rfl h0 hL hP;exact this
theorem J.done {Shun:Loc->Prop}{w:aE}(cP:g.status=.running)
 (h:∀d,∃v es,stepG P true g (w.at d)=.ended (.done v) (w.at d) es/\(∀e∈es,EvL Shun B e)/\Post v (w.at d)):J P Post Shun B g w:=by
 intro gs t sl q h0 hL hP;exact beside_ends (B:=B) (D:=λ_ _ es=>∀e∈es,EvL Shun B e) (n:=0) (λ_ _ _ hd=>hd) h0 hL hP (λaJ ⟨d,hd⟩=>by subst hd;exact⟨cP,h d⟩)
theorem J.phase {L:Type}{ty:aN}{Wg:Nat}{A:jN L}(hA:A.Ok){Shun:Loc->Prop}{a:bF}{w:aE}{l:L}{τ:cI}
 (hb:cG P ty Wg A (λg w'=>J P Post (λl=>Shun l\/nY l Wg) w'.heap.size g w') true (.usr l) 0 τ a w) (hg:fU ty Wg w 0 0) (hB:B<=Wg/\B<=w.heap.size)
 (bnd:∀b,τ.own b\/τ.still b\/τ.pass b->b<w.heap.size/\b≠Wg/\∀l,nY l b->¬Shun l) (pend:A.pend l=false)
 (inv:A.Inv (λi=>if i=0 then .run l else .gone) (λ_=>none)):J P Post Shun B a w:=by
 intro gs t sl q h0 hL hP;obtain⟨N,m',t',h1,gs',a',w',Ls,q',rfl,h2,h3,h4,h5,h6⟩:=Mt.phase hA (S:=⟨h0,hL,hP,hb,hg,hB,bnd,pend,inv⟩) sl;exact Ends.run N h1 (h4 gs' t' Ls q' h2 h5 h6)
end
end Go.Mt
namespace Go.Mt
open Go.Conc Go.Tt
open Go.ConcR (KK wgBlock WgAt stA smA rd wr)
abbrev K0:Pr:=λ_ _=>False
structure Sh (n:Nat)(Shun:Loc->Prop)(R:Pr)(W:aE):Prop where
 old:∀l b,nY l b->b<n->¬Shun l
 rel:∀a b,R a b->∀l,nY l b->¬Shun l
 new:∀l b,nY l b->W.heap.size<=b->¬Shun l
structure Kp (W0:aE)(R:Pr)(St:Nat->Prop)(W:aE):Prop where
 os:W.os=W0.os
 tape:W.tape=W0.tape
 output:W.output=W0.output
 size:W0.heap.size<=W.heap.size
 block:∀b,b<W0.heap.size->W.heap[b]? =W0.heap[b]?
 old:∀a b,R a b->b<W0.heap.size->St a
def Kp.below {W0 W:aE}{R:Pr}{St:Nat->Prop}(h:Kp W0 R St W):bY W0.heap.size W0 W:=⟨h.os,h.tape,h.output,h.size,h.block⟩
section
variable (P:dM)(fs:aO->Bool)(G':Gp)(St:Nat->Prop)(W0:aE)(Post:aF->aE->Prop)
def JO (m:Fm)(ms:List Fm)(w:aE):Prop:=
 ∀(K R:Pr) (W:aE) (m':Fm) (ms':List Fm) (Shun:Loc->Prop),dB (SF fs) K R G' St w W->pL P fs K R m m'->vF P fs K R ms ms'->Sh W0.heap.size Shun R W->Kp W0 R St W->
  J P.c Post Shun W.heap.size (G m'.fr (ms'.map Fm.fr)) W
variable {P fs G' St W0 Post}
variable {m:Fm}{ms:List Fm}
def JO.tape {w:aE}(h:JO P fs G' St W0 Post m ms w)(T:Tape)(e:Nat):JO P fs G' St W0 Post m ms (Tt.tp w T e):=
 λK R W m' ms' Shun a b c d k=>h K R W m' ms' Shun a.untp b c d k
variable {R:Pr}
theorem zJb {Shun:Loc->Prop}{W:aE}{St:Nat->Prop}{e:o5}(h:Ic R St e){n:Nat}(hs:Sh n Shun R W)(aU:∀a b,R a b->b<W.heap.size):EvL Shun W.heap.size e:=by
 rcases h with rfl|⟨b,a,h1,h2,h3⟩
 .exact⟨λx hx=>by simp[jI,rY] at hx,aQ,aQ,trivial⟩
 .obtain⟨loc,wr,sy⟩:=e
  cases loc with
  |cell x=>
   simp only[Hg,jS] at h1;refine⟨λy hy mP=>?_,aQ,aQ,?_⟩
   .simp only[jI,rY,jS] at hy
    subst hy;exact absurd mP (hs.rel a b h2 _ h1)
   .show x.block<W.heap.size
    grind
  |obj r=>
   simp only[Hg,jS] at h1;have hr:r<W.heap.size:=by rw[h1];exact aU a b h2
   refine⟨λy hy mP=>?_,aQ,aQ,?_⟩
   .have Zx:y.loc=.obj r:=by
     cases wr<;>cases sy<;>simp only[jI,rY,jS] at hy<;>first|(subst hy;rfl)|(cases hy;done)
    exact absurd (Zx▸mP) (hs.rel a b h2 (.obj r) h1)
   .cases wr<;>cases sy<;>exact hr
  |_=>simp[Hg] at h1
def dB.at {S:aO->Prop}{K:Pr}{G':Gp}{w W:aE}(h:dB S K R G' St w W)(d:Nat):dB S K R G' St w (W.at d):=
 ⟨h.inj,h.inj',h.lt,h.low,h.gle,h.cont,h.rest,h.st,h.np,h.tb⟩
theorem JO.one (F:Fit2 P fs)(hG:G'=P.gp){w:aE}(hs:m.ret=true->ms≠[])(nx:Tape->(Fm×List Fm)×aE)(cP:∀T,(eK P.g m ms).run P.g (Tt.tp w T 0)=.ok (nx T).1 (nx T).2)
 (fQ:∀T K R y,¬OpR P fs K R (nx T).1 y) (hJ:∀T,JO P fs G' St W0 Post (nx T).1.1 (nx T).1.2 (nx T).2):JO P fs G' St W0 Post m ms w:=by
 intro K R W m' ms' Shun hw hm jR mP hk;refine J.own rfl λd=>?_;have dK:=dB.at hw d
 let aZ:=W.at d
 let T:Tape:=λn q=>aZ.tape (aZ.drawn+n) q
 have Ah:dB (SF fs) K R G' St (Tt.tp w T 0) aZ:=⟨dK.inj,dK.inj',dK.lt,dK.low,dK.gle,dK.cont,dK.rest,dK.st,dK.np,dK.tb⟩;have L0:Tp (Tt.tp w T 0) aZ:=λn q=>by show aZ.tape (aZ.drawn+(0+n)) q=_;rw[rL]
 obtain⟨R1,x',W1,ev,e1,e2,e3,e4,e5⟩:=aG.run hG _ (zhj (l:=false) F (Ah.relOk hG) hm jR (λe=>by cases e) hs) Ah L0 (cP T);replace e2:=e2.resolve_right λx=>fQ T K R1 x' x.2;have l9:(eK P.c m' ms').events P.c aZ #[]=ev:=by rw[e4];simp
 have cK:W.heap.size<=W1.heap.size:=e3.size.2;have zss:Sh W0.heap.size Shun R1 W1:=⟨mP.old,λa b x l hl=>by
  rcases e3.new a b x with y|⟨_,y⟩
  .exact mP.rel a b y l hl
  .exact mP.new l b hl y,λl b hl hb=>mP.new l b hl (eG cK hb)⟩
 have rJ:Kp W0 R1 St W1:=by
  refine⟨e3.os.2.trans hk.os,e3.tape.2.trans hk.tape,e3.ou.2.trans hk.output,eG hk.size cK,λb hb=>?_,λa b x hb=>?_⟩
  .have zjH:b<W.heap.size:=j5 hb hk.size
   rw[e3.keep b zjH (λa x=>hk.old a b x hb)];exact hk.block b hb
  .rcases e3.new a b x with y|⟨_,y⟩
   .exact hk.old a b y hb
   .have h9:W.heap.size<=b:=y
    have:=hk.size;omega
 have goal:=hJ T K R1 W1 x'.1 x'.2 Shun e3.rel e2.1 e2.2.1 zss rJ;have aY:=zij (main:=true) e1 [];simp only[Mw] at aY;rw[l9] at aY;exact⟨_,W1,_,W1.heap.size,aY,λe he=>zJb (e5 e (zcn he)) zss (λa b x=>(e3.rel.ltR a b x).2),cK,goal⟩
theorem LTs.jo (F:Fit2 P fs)(hG:G'=P.gp){N:Fm->Prop}(hop:∀f xs,P.op f=true->¬N (rV P.g f xs)){Stop:Fm->List Fm->aE->Prop}(hS:∀m ms w,Stop m ms w->JO P fs G' St W0 Post m ms w){w:aE}(h:LTs P.g N Stop m ms w):
 JO P fs G' St W0 Post m ms w:=by
 induction h with
 |stop hs=>exact hS _ _ _ hs
 |step nx hs cP hN aU ih=>
  rename_i m ms w;refine JO.one F hG hs nx cP (λT K R y ho=>?_) ih;obtain⟨f,xs,bZ,c,c',rest,E5,h1,h2,h3,h4,_⟩:=ho.ex
  grind
end
abbrev PL (p:bT)(op gs:aO->Bool):dM:=⟨p,p.funcs,op,λ_=>false,gs,true⟩
abbrev PS (p:bT)(gs:aO->Bool):dM:=⟨p,p.funcs,λ_=>false,λ_=>false,gs,true⟩
structure Lv (p:bT)(op gs gs₁ fs:aO->Bool):Prop where
 fit:Fit2 (PL p op gs) fs
 fit₁:vZ (PS p gs₁) fs
 nofit:∀f,op f=true->∃fn c,p.funcs[f]? =some fn/\fn.body=some c/\(fn.name== "runtime.NumGoroutine")=false/\qG p ⟨fs,gs₁,true⟩ c=false
section
variable {p:bT}{op gs gs₁ fs:aO->Bool}{St:Nat->Prop}{W0:aE}{Post:aF->aE->Prop}
abbrev JL (p:bT)(op gs fs:aO->Bool)(St:Nat->Prop)(W0:aE)(Post:aF->aE->Prop)(m:Fm)(ms:List Fm)(w:aE):Prop:=JO (PL p op gs) fs (o9 p) St W0 Post m ms w
theorem Fj (p:bT)(f:aO)(xs:Array aF):(rV p f xs).fn=f:=by
 unfold rV
 grind
variable {P:dM}{G':Gp}{m:Fm}{ms:List Fm}
def JO.untape {fs:aO->Bool}{w:aE}{T:Tape}{e:Nat}(h:JO P fs G' St W0 Post m ms (Tt.tp w T e)):JO P fs G' St W0 Post m ms w:=
 λK R W m' ms' Shun a b c d k=>h K R W m' ms' Shun ⟨a.inj,a.inj',a.lt,a.low,a.gle,a.cont,a.rest,a.st,a.np,a.tb⟩ b c d k
variable {K:Pr}
theorem vR.tape {fs:aO->Bool}{w:aE}(h:vR P fs K G' St m ms w)(T:Tape)(e:Nat):vR P fs K G' St m ms (Tt.tp w T e):=by
 obtain⟨R,W,m',ms',a,b,c⟩:=h;exact⟨R,W,m',ms',⟨a.inj,a.inj',a.lt,a.low,a.gle,a.cont,a.rest,a.st,a.np,a.tb⟩,b,c⟩
variable {K₁:Pr}{c:Code}
theorem zvS {P₁:dM}{Ug:aO->Bool}{V4:Gp}{zd6:Nat->Prop}(zfx:vZ P₁ Ug)(zed:V4=P₁.gp){fn:aO}{tmps:Array aF}{w:aE}{Q:Exit->uL->aE->Prop}
 (hrel:vR P₁ Ug K₁ V4 zd6 ⟨fn,tmps,[.code c],false⟩ [] w) (vM:∀T,Code.wp P₁.g c Q ⟨tmps,[]⟩ (Tt.tp w T 0)) (hx:∀e a w,Q e a w->e=.normal\/e=.ret) (zfR:∀e a w T k,Q e a w->Q e a (Tt.tp w T k)):
 Tt.LT P₁.g (λmT wT=>mT.ret=true/\((mT.todo=[]/\Q .normal ⟨mT.tmps,[]⟩ wT)\/Q .ret ⟨mT.tmps,[]⟩ wT)) ⟨fn,tmps,[.code c],false⟩ [] w:=by
 refine bar zfx zed (λm w T e h=>⟨h.1,h.2.imp (λx=>⟨x.1,zfR _ _ _ _ _ x.2⟩) (zfR _ _ _ _ _)⟩) ⟨hrel,λT=>?_⟩
 let b:Frame:={(default:dL) with fn:=fn,kind:=.normal}
 obtain⟨e,a',w',hq,ztR⟩:=vM T b [] [pz];have zIN:=vR.tape hrel T 0
 have fin:∀todo,Steps P₁.g (lone (b.at ⟨tmps,[]⟩ [.code c]) [pz] (Tt.tp w T 0)) (lone {b.at a' todo with mode:=.returning} [pz] w')->((todo=[]/\Q .normal a' w')\/Q .ret a' w')->
  ∃n mT wT,Jn P₁.g n ⟨fn,tmps,[.code c],false⟩ [] (Tt.tp w T 0) mT wT/\mT.ret=true/\((mT.todo=[]/\Q .normal ⟨mT.tmps,[]⟩ wT)\/Q .ret ⟨mT.tmps,[]⟩ wT):=by
  intro todo hs zkJ;obtain⟨n,hn⟩:=hs;obtain⟨k,mT,hi,fL⟩:=Ov zfx zed (frT:={b.at a' todo with mode:=.returning}) rfl n zIN hn;have h1:mT.tmps=a'.tmps:=congrArg zvI fL;have h2:a'.defers=[]:=(congrArg dL.defers fL).symm;have h3:mT.todo=todo:=congrArg dL.todo fL;have h4:mT.ret=true:=by
   cases hr:mT.ret with
   |true=>rfl
   |false=>have:=congrArg dL.mode fL;rw[Fm.fr_run hr] at this;cases this
  have h5:(⟨mT.tmps,[]⟩:uL)=a':=by rw[h1,<-h2]
  exact⟨k,mT,w',hi,h4,by rw[h5,h3];exact zkJ⟩
 rcases hx e a' w' hq with rfl|rfl
 .exact fin [] (Steps.trans ztR (Steps.one step_end)) (.inl ⟨rfl,hq⟩)
 .obtain⟨todo,hs⟩:=ztR
  grind
def zfM (p:bT)(op:aO->Bool)(m:Fm):Prop:=∀f xs,op f=true->m≠rV p f xs
def Lv.hop (L:Lv p op gs gs₁ fs):∀f xs,(PL p op gs).op f=true->¬zfM p op (rV (PL p op gs).g f xs):=λf xs h hn=>hn f xs h rfl
theorem Lv.hN (L:Lv p op gs gs₁ fs):∀m R y,pL (PS p gs₁) fs K₁ R m y->zfM p op m:=by
 rintro m R y hm f xs ho rfl;obtain⟨fn,c,h1,h2,_,h4⟩:=L.nofit f ho;have h5:rV p f xs=⟨f,xs++nK (fn.ntmps-xs.size) aA,[.code c],false⟩:=by simp[rV,h1,h2]
 have hf:=hm.fit;rw[h5] at hf;have:=hf (.code c) aQ;have h6:uC (PS p gs₁) fs f=⟨fs,gs₁,true⟩:=rfl;simp only[Gc,h6,h4] at this;cases this
variable {k:List dI}
theorem zFq {R:Pr}{fn:aO}{tmps:Array aF}{w W:aE}{m':Fm}(hc:qG p ⟨fs,gs₁,true⟩ c=true)
 (hw:dB (SF fs) K R (o9 p) St w W) (hm:pL (PL p op gs) fs K R ⟨fn,tmps,.code c::k,false⟩ m'):vR (PS p gs₁) fs K (o9 p) St ⟨fn,tmps,[.code c],false⟩ [] w:=by
 refine⟨R,W,{m' with todo:=[.code c]},[],hw,⟨hm.fn,rfl,hm.ret,hm.tmps,λi hi=>?_,hm.infs⟩,.nil⟩;simp only[lV,nM,or_false] at hi;subst hi;exact hc
theorem JO.piece (L:Lv p op gs gs₁ fs){fn:aO}{tmps:Array aF}{b:List Fm}{w:aE}(hc:qG p ⟨fs,gs₁,true⟩ c=true)(Al:op fn=false)
 (vM:∀T,Code.wp p c (λe a' w'=>e=.normal/\JL p op gs fs St W0 Post ⟨fn,a'.tmps,k,false⟩ b w') ⟨tmps,[]⟩ (Tt.tp w T 0)):JL p op gs fs St W0 Post ⟨fn,tmps,.code c::k,false⟩ b w:=by
 intro K R W m' ms' Shun hw hm jR mP hk;have hrel:=zFq (gs₁:=gs₁) hc hw hm;have tree:=zvS L.fit₁ rfl hrel vM (λe a w h=>.inl h.1) (λe a w T k h=>⟨h.1,h.2.tape T k⟩)
 have zkQ:=LT.app L.fit₁ rfl (N:=zfM p op) (Stop:=λm ms w=>JL p op gs fs St W0 Post m ms w) k b (fn0:=fn) (L.hN (K₁:=K)) (λm e f xs ho e2=>by rw[e2,Fj] at e;rw[e,Al] at ho;cases ho)
  (λx w e1 e2 e3 hq=>by
   have h1:=hq w.tape;rcases h1.2 with h|h
   .have h2:=JO.untape h.2.2
    obtain⟨xf,xt,xd,xr⟩:=x;simp only at e1 e2 e3 h2;subst e1 e2 e3;exact h2
   .cases h.1)
  (λx w e1 e2 e3 hq=>by
   rcases hq.2 with h|h
   .exact absurd h.1 e3
   .cases h.1) tree rfl hrel (λ_ e=>by cases e)
 exact LTs.jo L.fit rfl L.hop (λm ms w h=>h) zkQ K R W m' ms' Shun hw hm jR mP hk
theorem JO.ctl (L:Lv p op gs gs₁ fs){m1:Fm}{w:aE}(hr:m.ret=false)(hf:op m1.fn=false)(cP:∀w,(q8 p m ms).run p w=.ok (m1,ms) w)(hJ:JL p op gs fs St W0 Post m1 ms w):JL p op gs fs St W0 Post m ms w:=by
 refine JO.one L.fit rfl (λe=>by rw[hr] at e;cases e) (λT=>((m1,ms),Tt.tp w T 0)) (λT=>?_) (λT K R y ho=>?_) λT=>hJ.tape T 0
 .show(eK p m ms).run p _=_
  simp only[eK,hr,jG,if_false];exact cP _
 .obtain⟨f,xs,bZ,c,c',rest,E5,h1,h2,h3,h4,_⟩:=ho.ex
  simp only[oM] at h4;have h5:=h4.1;rw[h5,Fj] at hf;simp_all
variable {b a:Code}
def JO.seq (L:Lv p op gs gs₁ fs){fn:aO}{tmps:Array aF}{w:aE}(hf:op fn=false)(h:JL p op gs fs St W0 Post ⟨fn,tmps,.code a:: .code b::k,false⟩ ms w):JL p op gs fs St W0 Post ⟨fn,tmps,.code (.seq a b)::k,false⟩ ms w:=
 JO.ctl L rfl hf (λw=>rfl) h
theorem JO.cond (L:Lv p op gs gs₁ fs){fn:aO}{tmps:Array aF}{c:cJ}{w:aE}{t:Bool}(hf:op fn=false)(hc:(bE tmps []).eval c=.bool t)(h:JL p op gs fs St W0 Post ⟨fn,tmps,.code (if t then a else b)::k,false⟩ ms w):JL p op gs fs St W0 Post ⟨fn,tmps,.code (.cond c a b)::k,false⟩ ms w:=by
 refine JO.ctl L rfl hf (λw=>?_) h;have he:Fm.eval ⟨fn,tmps,.code (.cond c a b)::k,false⟩ c=.bool t:=by rw[<-hc];cases c<;>rfl
 simp only[q8,he,lR,bK]
def JO.skip (L:Lv p op gs gs₁ fs){fn:aO}{tmps:Array aF}{w:aE}(hf:op fn=false)(h:JL p op gs fs St W0 Post ⟨fn,tmps,k,false⟩ ms w):JL p op gs fs St W0 Post ⟨fn,tmps,.code .skip::k,false⟩ ms w:=JO.ctl L rfl hf (λw=>rfl) h
def JO.ret (L:Lv p op gs gs₁ fs){fn:aO}{tmps:Array aF}{w:aE}(hf:op fn=false)(h:JL p op gs fs St W0 Post ⟨fn,tmps,.code .ret::k,true⟩ ms w):JL p op gs fs St W0 Post ⟨fn,tmps,.code .ret::k,false⟩ ms w:=JO.ctl L rfl hf (λw=>rfl) h
def JO.fall (L:Lv p op gs gs₁ fs){fn:aO}{tmps:Array aF}{w:aE}(hf:op fn=false)(h:JL p op gs fs St W0 Post ⟨fn,tmps,[],true⟩ ms w):JL p op gs fs St W0 Post ⟨fn,tmps,[],false⟩ ms w:=JO.ctl L rfl hf (λw=>rfl) h
variable {ops:Array aX}
def JO.reg (L:Lv p op gs gs₁ fs){fn:aO}{tmps:Array aF}{id:Nat}{w:aE}(hf:op fn=false)(h:JL p op gs fs St W0 Post ⟨fn,tmps,.inRegion ops (fV ops.size)::k,false⟩ ms w):JL p op gs fs St W0 Post ⟨fn,tmps,.code (.region id ops false)::k,false⟩ ms w:=JO.ctl L rfl hf (λw=>rfl) h
def JO.regEnd (L:Lv p op gs gs₁ fs){fn:aO}{tmps:Array aF}{w:aE}(hf:op fn=false)(h:JL p op gs fs St W0 Post ⟨fn,tmps,k,false⟩ ms w):JL p op gs fs St W0 Post ⟨fn,tmps,.inRegion ops []::k,false⟩ ms w:=JO.ctl L rfl hf (λw=>rfl) h
variable {o:aX}
theorem JO.opv (L:Lv p op gs gs₁ fs){fn:aO}{tmps:Array aF}{i:Nat}{rest:List Nat}{w:aE}{v:aF}(hf:op fn=false)(ho:ops[i]? =some o)(cF:cO o (cS ops tmps)=true)
 (hx:∀T e,(aS (bE tmps []).eval o).run p (Tt.tp w T e)=.ok (.value v) (Tt.tp w T e)) (h:JL p op gs fs St W0 Post ⟨fn,(b7 ⟨tmps,[]⟩ o.dst v).tmps,.inRegion ops rest::k,false⟩ ms w):JL p op gs fs St W0 Post ⟨fn,tmps,.inRegion ops (i::rest)::k,false⟩ ms w:=by
 refine JO.one L.fit rfl (λe=>by cases e) (λT=>((⟨fn,(b7 ⟨tmps,[]⟩ o.dst v).tmps,.inRegion ops rest::k,false⟩,ms),Tt.tp w T 0)) (λT=>?_) (λT K R y Af=>?_) λT=>h.tape T 0
 .show(eK p _ ms).run p _=_
  simp only[eK,jG,if_false,q8,ho,Bz,vB,cF,if_true];have he:Fm.eval ⟨fn,tmps,.inRegion ops (i::rest)::k,false⟩=(bE tmps []).eval:=by funext x;cases x<;>rfl
  rw[he];refine(uG p _ _ _).trans ?_;rw[hx];simp only[uR,qK,lR,bK,Fm.fin,ho,uF,b7];cases o.dst<;>rfl
 .obtain⟨f,xs,bZ,c,c',rest,E5,h1,h2,h3,h4,_⟩:=Af.ex
  simp only[oM] at h4;have h5:=congrArg Fm.fn h4.1;rw[Fj] at h5;simp_all
variable {x:Fm}
theorem JO.back (L:Lv p op gs gs₁ fs){w:aE}{i:Nat}{rest:List Nat}{v:aF}(hr:x.ret=true)(pS:m.todo=.inRegion ops (i::rest)::k){fnx:Te}(Uq:p.funcs[x.fn]? =some fnx)(hv:(oC fnx.results.toList x.tmps).run p w=.ok v w)(hf:op m.fn=false)
 (h:JL p op gs fs St W0 Post (m.fin ops i rest k v) ms w):JL p op gs fs St W0 Post x (m::ms) w:=by
 refine JO.one L.fit rfl (λ_=>by simp) (λT=>((m.fin ops i rest k v,ms),Tt.tp w T 0)) (λT=>?_) (λT K R y Af=>?_) λT=>h.tape T 0
 .show(eK p x (m::ms)).run p _=_
  simp only[eK,hr,if_true];exact(Mq pS Uq ((Py _ _ w v w hv).2 T 0)).1
 .obtain⟨f,xs,bZ,c,c',rest,E5,h1,h2,h3,h4,_⟩:=Af.ex
  simp only[oM] at h4;have h5:=congrArg Fm.fn h4.1;rw[Fj] at h5;have h6:op f=true:=h1;have h7:m.fn=f:=h5;simp_all
theorem Lv.noOp (L:Lv p op gs gs₁ fs){f:aO}(hg:gs₁ f=true):op f=false:=by
 cases ho:op f with
 |false=>rfl
 |true=>
  obtain⟨fn,c,h1,h2,_,h4⟩:=L.nofit f ho;obtain⟨fn',c',g1,g2,g3,g4,g5⟩:=L.fit₁.fn f hg rfl;have At:(PS p gs₁).c.funcs[f]? =some fn:=h1;rw[g2] at At;obtain rfl:=cH At;rw[h2] at g4;obtain rfl:=cH g4;have h6:uC (PS p gs₁) fs f=⟨fs,gs₁,true⟩:=rfl;simp_all
variable {fn:Te}
theorem zHP {p:bT}(hp:Dq fn.results.toList){tmps:Array aF}{v:aF}{w w':aE}(h:(results fn tmps).run p w=.ok v w'):(oC fn.results.toList tmps).run p w=.ok v w:=by
 rw[zdQ hp] at h;obtain⟨rfl,_⟩:=Py _ _ w v w' h;exact h
variable {args:Array cJ}{jM:Array aN}
theorem zdH {p:bT}{f:aO}(hop:o.op=.call ⟨.value (.func f),args,jM⟩){ρ:cJ->aF}(hρ:∀g,ρ (.func g)=.func (.func g) #[] #[])(hf:p.funcs[f]? =some fn)
 (hn:(fn.name== "runtime.NumGoroutine")=false) (hb:fn.body=some c) (w:aE):(aS ρ o).run p w=.ok (.enter f (args.map ρ)) w/\(aS ρ o).events p w #[]=#[]:=by
 obtain⟨dst,yJ,type,pos,after,guard⟩:=o;simp only at hop;subst hop;have wD:¬fn.name= "runtime.NumGoroutine" :=by simpa using hn
 constructor
 .simp[aS,resolve,Dh,hρ,invoke,callFunc,program,bind,x3,pure,bK,hf,wD,hb]
 .simp[aS,resolve,Dh,hρ,invoke,callFunc,program,bind,x3,pure,bK,yZ,Ak,hf,wD,hb]
theorem JO.callL (L:Lv p op gs gs₁ fs){w:aE}{i:Nat}{rest:List Nat}{f:aO}(hr:m.ret=false)(pS:m.todo=.inRegion ops (i::rest)::k)
 (ho:ops[i]? =some o) (cF:cO o (cS ops m.tmps)=true) (hop:o.op=.call ⟨.value (.func f),args,jM⟩) (hg:gs₁ f=true) (Al:op m.fn=false) (rS:args.all (dP fs)=true)
 {Q:aF->aE->Prop} (zfR:∀v w T e,Q v w->Q v (Tt.tp w T e)) (hc:∀T,fJ p f (args.map m.eval) (Tt.tp w T 0) (λe w'=>∃v,e=.returned v/\Q v w'))
 (hJ:∀v w',Q v w'->JL p op gs fs St W0 Post (m.fin ops i rest k v) ms w'):JL p op gs fs St W0 Post m ms w:=by
 have Ge:=L.noOp hg;obtain⟨fn,c,g1,g2,g3,g4,g5⟩:=L.fit₁.fn f hg rfl;have Db:p.funcs[f]? =some fn:=g2;have nG:Dq fn.results.toList:=L.fit₁.res f hg rfl fn g2;have An:rV p f (args.map m.eval)=⟨f,args.map m.eval++nK (fn.ntmps-(args.map m.eval).size) aA,[.code c],false⟩:=by simp[rV,Db,g4]
 have Qa:∀(x:Fm) (wx:aE),x.ret=true->x.fn=f->(∃v,(oC fn.results.toList x.tmps).run p wx=.ok v wx/\Q v wx)->JL p op gs fs St W0 Post x (m::ms) wx:=by
  intro x wx h1 h2 ⟨v,h3,h4⟩;exact JO.back L h1 pS (v:=v) (fnx:=fn) (by rw[h2];exact Db) h3 Al (hJ v wx h4)
 intro K R W m' ms' Shun hw hm jR mP hk;have Dp:bO (SF fs) K R (args.map m.eval) (args.map m'.eval):=bO.maps hm.eval rS;have zeq:pL (PS p gs₁) fs K R (rV p f (args.map m.eval)) (rV p f (args.map m'.eval)):=by
  have zzS:rV p f (args.map m'.eval)=⟨f,args.map m'.eval++nK (fn.ntmps-(args.map m'.eval).size) aA,[.code c],false⟩:=by simp[rV,Db,g4]
  rw[An,zzS];refine⟨rfl,rfl,rfl,Dp.pad _,λj hj=>?_,⟨fn,fn,g1,g2,rfl,nG⟩⟩;simp only[lV,nM,or_false] at hj;subst hj;exact g5
 have hrel:vR (PS p gs₁) fs K (o9 p) St (rV p f (args.map m.eval)) [] w:=⟨R,W,_,[],hw,zeq,.nil⟩;have tree:Tt.LT p (λmT wT=>mT.ret=true/\mT.fn=f/\∃v,(oC fn.results.toList mT.tmps).run p wT=.ok v wT/\Q v wT) (rV p f (args.map m.eval)) [] w:=by
  refine bar (P:=PS p gs₁) L.fit₁ rfl (λm w T e h=>⟨h.1,h.2.1,let⟨v,a,b⟩:=h.2.2;⟨v,(Py _ _ w v w a).2 T e,zfR _ _ _ _ b⟩⟩) ⟨hrel,λT=>?_⟩;obtain⟨e,w',fr,⟨v,rfl,hq⟩,pJ,Dv,Ly⟩:=hc T [pz];obtain⟨zjE,zLb,zMb,fn',Vk,zh0⟩:=Ly;obtain⟨n,hn⟩:=pJ;have zBw:Eu p f (args.map m.eval) .normal=(rV p f (args.map m.eval)).fr:=by rw[An];exact Wm Db g4
  rw[zBw] at hn;obtain⟨k2,mT,hi,fL⟩:=Ov (P:=PS p gs₁) L.fit₁ rfl zjE n (vR.tape hrel T 0) hn;have h1:mT.tmps=fr.tmps:=congrArg zvI fL;have h2:mT.fn=f:=(congrArg dL.fn fL).trans Dv;have h4:mT.ret=true:=by
   cases hr:mT.ret with
   |true=>rfl
   |false=>rw[<-fL,Fm.fr_run hr] at zjE;cases zjE
  rw[Dv,Db] at Vk;obtain rfl:=cH Vk;exact⟨k2,mT,w',hi,h4,h2,v,by rw[h1];exact zHP nG zh0,hq⟩
 have zkQ:=LT.app (P₁:=PS p gs₁) L.fit₁ rfl (N:=zfM p op) (Stop:=λm ms w=>JL p op gs fs St W0 Post m ms w) [] (m::ms) (fn0:=f) (L.hN (K₁:=K)) (λx e f' xs xL e2=>by rw[e2,Fj] at e;rw[e,Ge] at xL;cases xL)
  (λx w e1 e2 e3 hq=>by
   obtain⟨_,_,v,h5,h6⟩:=hq w.tape;have h7:JL p op gs fs St W0 Post {x with ret:=true} (m::ms) w:=JO.untape (T:=w.tape) (e:=0) (Qa _ _ rfl e1 ⟨v,h5,h6⟩);obtain⟨xf,xt,xd,xr⟩:=x;simp only at e1 e2 e3 h7;subst e1 e2 e3;exact JO.fall L Ge h7)
  (λx w e1 e2 e3 hq=>by
   rw[Fm.app_nil];exact Qa _ _ e2 e1 hq.2.2) tree (Fj _ _ _) hrel (λ_ e=>by rw[An] at e;cases e)
 have zFl:JL p op gs fs St W0 Post (rV p f (args.map m.eval)) (m::ms) w:=by
  have:=LTs.jo L.fit rfl L.hop (λm ms w h=>h) zkQ
  rwa [show Au [] (m::ms) (rV p f (args.map m.eval)) []=(rV p f (args.map m.eval),m::ms) from by simp[Au,Fm.app_nil]] at this
 refine JO.one L.fit rfl (λe=>by rw[hr] at e;cases e) (λT=>((rV p f (args.map m.eval),m::ms),Tt.tp w T 0)) (λT=>?_) (λT K R y Af=>?_) (λT=>zFl.tape T 0) K R W m' ms' Shun hw hm jR mP hk
 .show(eK p m ms).run p _=_
  simp only[eK,hr,jG,if_false,q8,pS,ho,Bz,vB,cF,if_true];refine(uG p _ _ _).trans ?_;rw[(zdH hop (λg=>rfl) Db g3 g4 (Tt.tp w T 0)).1];simp only[uR,qK,Db,g4,lR,bK,An]
 .obtain⟨f',xs,bZ,c,c',rest,E5,h1,h2,h3,h4,_⟩:=Af.ex
  simp only[oM] at h4;have h5:=congrArg Fm.fn h4.1;rw[Fj,Fj] at h5;have h6:op f'=true:=h1;rw[<-h5,Ge] at h6;cases h6
theorem JO.callF (L:Lv p op gs gs₁ fs){w:aE}{i:Nat}{rest:List Nat}{f:aO}(hr:m.ret=false)(pS:m.todo=.inRegion ops (i::rest)::k)
 (ho:ops[i]? =some o) (cF:cO o (cS ops m.tmps)=true) (hop:o.op=.call ⟨.value (.func f),args,jM⟩) (hg:op f=true) (rS:args.all (dP fs)=true)
 (hF:∀(K R:Pr) (W:aE) (m':Fm) (ms':List Fm) (Shun:Loc->Prop) (bZ:Array aF),dB (SF fs) K R (o9 p) St w W->pL (PL p op gs) fs K R m m'->vF (PL p op gs) fs K R ms ms'->Sh W0.heap.size Shun R W->Kp W0 R St W->bO (SF fs) K R (args.map m.eval) bZ->
  J p Post Shun W.heap.size (G (Eu p f bZ .normal) (m'.fr::ms'.map Fm.fr)) W):JL p op gs fs St W0 Post m ms w:=by
 obtain⟨fn,c,Db,g4,g3,_⟩:=L.nofit f hg;intro K R W m' ms' Shun hw hm jR mP hk;refine J.own rfl λd=>?_;have Dp:bO (SF fs) K R (args.map m.eval) (args.map m'.eval):=bO.maps hm.eval rS;have zL:m'.ret=false:=hm.ret.symm.trans hr;have O4:m'.todo=.inRegion ops (i::rest)::k:=hm.todo.symm.trans pS;have uY:cO o (cS ops m'.tmps)=true:=by rw[<-zhZ ops hm.tmps];exact cF
 have An:Eu p f (args.map m'.eval) .normal=(⟨f,args.map m'.eval++nK (fn.ntmps-(args.map m'.eval).size) aA,[.code c],false⟩:Fm).fr:=Wm Db g4;obtain⟨x1,x2⟩:=zdH hop (ρ:=m'.eval) (λg=>rfl) Db g3 g4 (W.at d);have hs:(eK p m' ms').run p (W.at d)=.ok (⟨f,args.map m'.eval++nK (fn.ntmps-(args.map m'.eval).size) aA,[.code c],false⟩,m'::ms') (W.at d):=by
  simp only[eK,zL,jG,if_false,q8,O4,ho,Bz,vB,uY,if_true];refine(uG p _ _ _).trans ?_;rw[x1];simp only[uR,qK,Db,g4,lR,bK]
 have aY:=zij (main:=true) hs [];simp only[Mw] at aY;have he:(eK p m' ms').events p (W.at d) #[]=#[]:=by
  simp only[eK,zL,jG,if_false,q8,O4,ho,Bz,vB,uY,if_true];refine(zhu p _ _ _ #[]).trans ?_;rw[x1,zhx,x2];simp only[qK,Db,g4];rfl
 rw[he,Cz] at aY;refine⟨_,W.at d,#[],W.heap.size,aY,λe he=>by simp at he,bL _,?_⟩;rw[<-An];exact hF K R (W.at d) m' ms' Shun (args.map m'.eval) (dB.at hw d) hm jR ⟨mP.old,mP.rel,mP.new⟩ ⟨hk.os,hk.tape,hk.output,hk.size,hk.block,hk.old⟩ Dp
theorem JO.fin (L:Lv p op gs gs₁ fs){w:aE}{t:Tmp}(hr:x.ret=true)(hf:p.funcs[x.fn]? =some fn)(ht:fn.results=#[.tmp t])(hi:p.inits.idxOf? x.fn=none)(hP:∀K R W v',VR (SF fs) K R (x.tmps.getD t aA) v'->Kp W0 R St W->Post v' W):JL p op gs fs St W0 Post x [] w:=by
 intro K R W m' ms' Shun hw hm jR mP hk;cases jR;refine J.done rfl λd=>?_;have zL:=hm.ret.symm.trans hr;have Vk:p.funcs[m'.fn]? =some fn:=by rw[<-hm.fn];exact hf
 have kN:p.inits.idxOf? m'.fn=none:=by rw[<-hm.fn];exact hi
 refine⟨m'.tmps.getD t aA,#[],?_,λe he=>by simp at he,hP K R (W.at d) _ (hm.tmps.getD t yA) ⟨hk.os,hk.tape,hk.output,hk.size,hk.block,hk.old⟩⟩;have r1:=results_tmp ht m'.tmps p (W.at d);have r2:=Conc.events_results_tmp (P:=p) (w:=W.at d) ht m'.tmps #[];rw[Fm.fr_ret zL];simp[G,stepG,unwind,doReturn,Vk,r1,r2,Cz,C2,kN]
end
end Go.Mt
namespace Go.Mt
open Go.Conc Go.Tt
variable {p:bT}{main:Bool}{m m':Fm}{ms':List Fm}{w w':aE}
theorem zeZ {c:Fm}{rest:List Fm}(hr:m.ret=true)(hc:c.ret=false)(h:(zR p m (c::rest)).run p w=.ok (m',ms') w')(k:List dI)(d:Dk)(CS:List dL):
 ms'=rest/\w'=w/\(∃ops i r k0 v,c.todo=.inRegion ops (i::r)::k0/\m'=c.fin ops i r k0 v)/\stepG p main (G m.fr (fx k d c::CS)) w=.go (G (fx k d m') CS) w' (seen p m.fn ((zR p m (c::rest)).events p w #[])):=by
 obtain⟨ops,i,r,k0,v,fn,Gd,hf,hv,rfl,rfl⟩:=Ue h;obtain⟨rfl,_⟩:=Py _ _ w v w' hv;refine⟨rfl,rfl,⟨ops,i,r,k0,v,Gd,rfl⟩,?_⟩;rw[(Mq Gd hf hv).2];have he:results fn m.tmps=oC fn.results.toList m.tmps:=zdQ (zpf hv);have Bj:(fx k d c).finish v=fx k d (c.fin ops i r k0 v):=by
  simp only[dL.finish,fx,Fm.fr,Fm.fin,Gd,List.cons_append];cases(ops[i]?).bind (·.dst)<;>rfl
 rw[Fm.fr_ret hr,<-Bj];simp[G,stepG,unwind,doReturn,hf,he,hv,C2]
def low (k:List dI)(d:Dk):Fm->List Fm->List dL
 |c,[]=>[fx k d c]
 |c,e::cs=>c.fr::low k d e cs
def stk (k:List dI)(d:Dk)(base:List dL)(m:Fm):List Fm->bF
 |[]=>G (fx k d m) base
 |c::cs=>G m.fr (low k d c cs++base)
theorem zqN (k:List dI)(d:Dk)(base:List dL)(m:Fm)(ms:List Fm):(stk k d base m ms).status=.running:=by cases ms<;>rfl
variable {ms:List Fm}
theorem zBI {k:List dI}{d:Dk}{base:List dL}(hs:m.ret=true->ms≠[])(aV:ms=[]->m.ret=false->m.todo≠[])(hw:∀c∈ms,c.ret=false)
 (h:(eK p m ms).run p w=.ok (m',ms') w'):∃es,stepG p main (stk k d base m ms) w=.go (stk k d base m' ms') w' es/\∀e∈es,e∈seen p m.fn ((eK p m ms).events p w #[]):=by
 cases hr:m.ret with
 |false=>
  simp only[eK,hr,jG,if_false] at h⊢
  cases ms with
  |nil=>
   rcases zn8 (main:=main) hr (k:=k) (λe=>absurd e (aV rfl hr)) h d base with⟨rfl,e⟩|⟨rfl,e⟩
   .exact⟨_,e,λ_ x=>x⟩
   .exact⟨_,e,λ_ x=>x⟩
  |cons c cs=>
   rcases zn8 (main:=main) hr (k:=[]) (λ_=>rfl) h .nil (low k d c cs++base) with⟨rfl,e⟩|⟨rfl,e⟩
   .simp only[H4] at e
    exact⟨_,e,λ_ x=>x⟩
   .simp only[H4] at e
    exact⟨_,e,λ_ x=>x⟩
 |true=>
  simp only[eK,hr,if_true] at h⊢
  cases ms with
  |nil=>simp_all
  |cons c cs=>
   have zpQ:=hw c (List.mem_cons_self ..)
   cases cs with
   |nil=>
    obtain⟨rfl,rfl,_,e⟩:=zeZ (main:=main) hr zpQ h k d base;exact⟨_,e,λ_ x=>x⟩
   |cons c2 cs=>
    obtain⟨rfl,rfl,_,e⟩:=zeZ (main:=main) hr zpQ h [] .nil (low k d c2 cs++base);simp only[H4] at e;exact⟨_,e,λ_ x=>x⟩
variable {S:List Nat}
def Lz.refl (h:∀i∈m.todo,Bm S i=true):Lz S m m:=⟨h,λ_ _=>rfl⟩
theorem zz4 (hn:∀i∈(Sz m ms).todo,Bm S i=true)(h:(eK p m ms).run p w=.ok (m',ms') w'):Lz S (Sz m ms) (Sz m' ms'):=by
 cases hr:m.ret with
 |false=>
  simp only[eK,hr,jG,if_false] at h
  cases ms with
  |nil=>
   rcases zFh (S:=S) hn h with⟨rfl,e⟩|rfl
   .exact e
   .exact Lz.refl hn
  |cons c cs=>
   rcases zfd h with⟨rfl,_⟩|rfl
   .exact Lz.refl hn
   .exact Lz.refl hn
 |true=>
  simp only[eK,hr,if_true] at h
  cases ms with
  |nil=>simp[zR,stuck,bK] at h
  |cons c cs=>
   obtain⟨ops,i,r,k0,v,fn,Gd,hf,hv,rfl,rfl⟩:=Ue h
   cases ms' with
   |nil=>exact zfk Gd hn v
   |cons d ds=>exact Lz.refl hn
end Go.Mt
namespace Go.Mt
open Go.Conc Go.Tt
open Go.ConcR (KK wgBlock WgAt stA smA rd wr)
def EvQ (O Z:Nat->Prop)(e:o5):Prop:=e=⟨.mark .noRoom,false,true⟩\/∃b,Hg e=some b/\(O b\/(Z b/\e.write=false))
variable {O Z:Nat->Prop}{e:o5}
theorem zzF {Wg:Nat}{main:Bool}(h:EvQ O Z e):EvT Wg main O Z e:=by
 rcases h with rfl|⟨b,h1,h2⟩
 .trivial
 .obtain⟨loc,wr,sy⟩:=e
  cases loc with
  |cell x=>simp only[Hg,jS] at h1;subst h1;exact h2
  |obj r=>simp only[Hg,jS] at h1;subst h1;exact h2
  |_=>simp[Hg] at h1
theorem zGZ (h:EvQ O Z e):e.loc≠ .mark .disable/\e.loc≠ .mark .enable:=by
 rcases h with rfl|⟨b,h1,_⟩
 .simp_all
 .obtain⟨loc,wr,sy⟩:=e
  cases loc<;>simp[Hg] at h1⊢
variable {τ:cI}
theorem zhU {St:Nat->Prop}{R:Pr}(h:Ic R St e)(ht:wE τ R St):EvQ τ.own τ.still e:=by
 rcases h with rfl|⟨b,a,h1,h2,h3⟩
 .exact .inl rfl
 .refine .inr ⟨b,h1,?_⟩
  by_cases hs:St a
  .refine .inr ⟨(ht a b h2).1 hs,?_⟩
   cases hw:e.write
   .rfl
   .exact absurd hs (h3 hw)
  .exact .inl ((ht a b h2).2 hs)
def OwnQ (p:bT)(ty:aN)(Wg:Nat)(main:Bool)(B:cI->bF->aE->Prop)(τ:cI)(g:bF)(w:aE):Prop:=
 ∀aJ,bX ty Wg τ w aJ->∃g' w' es,stepG p main g aJ=.go g' w' es/\g'.status=.running/\Aw τ.own aJ w'/\(∀e∈es,EvQ (τ.grow aJ w').own τ.still e)/\B (τ.grow aJ w') g' w'
structure Cx (L:Type) where
 p:bT
 gs:aO->Bool
 fs:aO->Bool
 ty:aN
 Wg:Nat
 A:jN L
 Fin:bF->aE->Prop
 main:Bool
 base:List dL
 ds:Dk
 K:Pr
 St:Nat->Prop
 I:Pr->cI->aE->Prop
 pin:List (Nat×aF)
 alone:Option (cI->bF->aE->Prop):=none
 aok:∀B,alone=some B->∀τ g w,g.status=.running->OwnQ p ty Wg main B τ g w->B τ g w:=by intro _ h;cases h
variable {L:Type}
abbrev Cx.P (C:Cx L):dM:=PS C.p C.gs
abbrev Cx.Rel (C:Cx L)(R:Pr)(w W:aE):Prop:=dB (SF C.fs) C.K R (o9 C.p) C.St w W
def Cx.B (C:Cx L)(l:L)(τ:cI)(g:bF)(w:aE):Prop:=
 match C.alone with
 |none=>cG C.p C.ty C.Wg C.A C.Fin C.main (.usr l) 0 τ g w
 |some B=>B τ g w
theorem Cx.B_none {C:Cx L}(h:C.alone=none)(l:L)(τ:cI)(g:bF)(w:aE):C.B l τ g w=cG C.p C.ty C.Wg C.A C.Fin C.main (.usr l) 0 τ g w:=by unfold Cx.B;rw[h]
variable {B:cI->bF->aE->Prop}
theorem Cx.B_some {C:Cx L}(h:C.alone=some B)(l:L)(τ:cI)(g:bF)(w:aE):C.B l τ g w=B τ g w:=by unfold Cx.B;rw[h]
theorem Cx.ownQ {C:Cx L}{l:L}{g:bF}{w:aE}(cP:g.status=.running)(h:OwnQ C.p C.ty C.Wg C.main (C.B l) τ g w):C.B l τ g w:=by
 cases ha:C.alone with
 |none=>
  rw[Cx.B_none ha];have hB:∀τ g w,C.B l τ g w->cG C.p C.ty C.Wg C.A C.Fin C.main (.usr l) 0 τ g w:=λτ g w x=>by rw[Cx.B_none ha] at x;exact x
  refine cG.own cP trivial λaJ s=>?_;obtain⟨g',w',es,h1,h2,h3,h4,h5⟩:=h aJ s;refine⟨g',w',es,h1,h2,h3,λe he=>zzF (h4 e he),?_⟩;rw[deafBehind_still (λe he=>zGZ (h4 e he))];exact hB _ _ _ h5
 |some B=>
  rw[Cx.B_some ha];refine C.aok B ha τ g w cP λaJ s=>?_;have e:∀τ g w,C.B l τ g w->B τ g w:=λτ g w x=>by rw[Cx.B_some ha] at x;exact x
  obtain⟨g',w',es,h1,h2,h3,h4,h5⟩:=h aJ s
  grind
abbrev Cx.S (C:Cx L):List Nat:=C.pin.map (·.1)
structure FmW (C:Cx L)(R:Pr)(m m':Fm):Prop where
 fn:m.fn=m'.fn
 todo:m.todo=m'.todo
 ret:m.ret=m'.ret
 tmps:bO (SF C.fs) C.K R m.tmps m'.tmps
 pins:∀x∈C.pin,m'.tmps.getD x.1 aA=x.2
structure Rs (St:Nat->Prop)(R:Pr)(W:aE)(R1:Pr)(W1:aE):Prop where
 le:R.le R1
 tape:W1.tape=W.tape
 os:W1.os=W.os
 output:W1.output=W.output
 size:W.heap.size<=W1.heap.size
 new:∀a b,R1 a b->R a b\/(W.heap.size<=b/\b<W1.heap.size)
 keep:∀b,b<W.heap.size->(∀a,R a b->St a)->W1.heap[b]? =W.heap[b]?
structure fE (C:Cx L):Prop where
 suf:∀R τ W aZ,C.I R τ W->bX C.ty C.Wg τ W aZ->C.I R τ aZ
 step:∀R τ W R1 W1,C.I R τ W->wE τ R C.St->Rs C.St R W R1 W1->C.I R1 (τ.grow W W1) W1
def BO (C:Cx L)(l:L)(m:Fm)(w:aE):Prop:=
 ∀(R:Pr) (W:aE) (m':Fm) (τ:cI),C.Rel R w W->FmW C R m m'->wE τ R C.St->C.I R τ W->C.B l τ (G (fx [] C.ds m') C.base) W
section
variable {C:Cx L}{l:L}
variable {m:Fm}{w:aE}
def BO.tape (h:BO C l m w)(T:Tape)(e:Nat):BO C l m (Tt.tp w T e):=
 λR W m' τ a b c d=>h R W m' τ a.untp b c d
def BO.untape {T:Tape}{e:Nat}(h:BO C l m (Tt.tp w T e)):BO C l m w:=
 λR W m' τ a b c d=>h R W m' τ ⟨a.inj,a.inj',a.lt,a.low,a.gle,a.cont,a.rest,a.st,a.np,a.tb⟩ b c d
variable {ms:List Fm}
theorem vF.wait {P:dM}{fs:aO->Bool}{K R:Pr}{ms':List Fm}(h:vF P fs K R ms ms'):∀c∈ms',c.ret=false:=by
 induction h with
 |nil=>intro c hc;cases hc
 |cons a b _ ih=>
  intro c hc;rcases lV.1 hc with rfl|hc
  .exact a.ret.symm.trans b.1
  .exact ih c hc
variable {Q:Fm->aE->Prop}
theorem zGa (F:vZ C.P C.fs)(hI:fE C){k:List dI}{fn0:aO}(h:Tt.LT C.p Q m ms w)
 (hn:∀(x:Fm) (wT:aE),x.fn=fn0->x.ret=false->x.todo=[]->(∀T,Q {x with ret:=true} (Tt.tp wT T 0))->BO C l ⟨fn0,x.tmps,k,false⟩ wT)
 (hr:∀(x:Fm) (wT:aE),x.fn=fn0->x.ret=true->x.todo≠[]->Q x wT->BO C l ⟨fn0,x.tmps,x.todo++k,true⟩ wT):
 ∀(R:Pr) (W:aE) (m':Fm) (ms':List Fm) (τ:cI),Ui m ms=fn0->(ms=[]->m.ret=true->m.todo≠[])->C.Rel R w W->pL C.P C.fs C.K R m m'->vF C.P C.fs C.K R ms ms'->wE τ R C.St->C.I R τ W->
  (∀x∈C.pin,(Sz m' ms').tmps.getD x.1 aA=x.2)->(∀i∈(Sz m' ms').todo,Bm C.S i=true)->C.B l τ (stk k C.ds C.base m' ms') W:=by
 induction h with
 |stop h1 h2=>
  rename_i m w;intro R W m' ms' τ hl hz hw hm jR ht hi Em fQ;cases jR;have hB:=hr m w hl h1 (hz rfl h1) h2 R W {m' with todo:=m'.todo++k} τ hw ⟨(hl.symm.trans hm.fn:_),by show m.todo++k=_;rw[hm.todo],h1.symm.trans hm.ret,hm.tmps,Em⟩ ht hi;have:fx [] C.ds {m' with todo:=m'.todo++k}=fx k C.ds m':=by unfold fx;simp[Fm.fr]
  rw[this] at hB;exact hB
 |step nx hs cP aU ih=>
  rename_i m ms w;intro R W m' ms' τ hl hz hw hm jR ht hi Em fQ;by_cases Il:ms=[]/\m.ret=false/\m.todo=[]
  .obtain⟨rfl,h1,h2⟩:=Il
   cases jR;have hQ:∀T,Q {m with ret:=true} (Tt.tp w T 0):=λT=>by
    have hT:=cP T;have e:(eK C.p m []).run C.p (Tt.tp w T 0)=.ok ({m with ret:=true},[]) (Tt.tp w T 0):=by simp[eK,h1,q8,h2,lR,bK]
    rw[e] at hT;injection hT with e1 e2;have hl:=aU T;rw[<-e1,<-e2] at hl;exact hl.ret_inv rfl
   have hB:=hn m w hl h1 h2 hQ R W {m' with todo:=m'.todo++k} τ hw ⟨(hl.symm.trans hm.fn:_),by show k=m'.todo++k;rw[<-hm.todo,h2];rfl,h1.symm.trans hm.ret,hm.tmps,Em⟩ ht hi;have:fx [] C.ds {m' with todo:=m'.todo++k}=fx k C.ds m':=by unfold fx;simp[Fm.fr]
   rw[this] at hB;exact hB
  .refine Cx.ownQ (zqN ..) λaZ s=>?_
   have dK:=ziL hw ht (λa b x=>(hw.lt a b (.inr x)).2) s;have zN:=hI.suf _ _ _ _ hi s
   let T:Tape:=λn q=>aZ.tape (aZ.drawn+n) q
   have Ah:C.Rel R (Tt.tp w T 0) aZ:=⟨dK.inj,dK.inj',dK.lt,dK.low,dK.gle,dK.cont,dK.rest,dK.st,dK.np,dK.tb⟩;have L0:Tp (Tt.tp w T 0) aZ:=λn q=>by show aZ.tape (aZ.drawn+(0+n)) q=_;rw[rL]
   have hrel:vR C.P C.fs C.K (o9 C.p) C.St m ms (Tt.tp w T 0):=⟨R,aZ,m',ms',Ah,hm,jR⟩;obtain⟨R1,x',W1,ev,e1,e2,e3,e4,e5⟩:=aG.run rfl _ (zhj (l:=false) F.toFit2 (Ah.relOk rfl) hm jR (λe=>by cases e) hs) Ah L0 (cP T);replace e2:=e2.resolve_right λx=>by
    obtain⟨f,_,_,_,_,_,_,ho,_⟩:=x.2;rw[F.none] at ho;cases ho
   obtain⟨zta,zvA⟩:=x';have Ia:m'.ret=true->ms'≠[]:=λe e2=>hs (hm.ret.trans e) (by cases jR with|nil=>rfl|cons _ _ _=>cases e2);have za7:ms'=[]->m'.ret=false->m'.todo≠[]:=λa b c=>Il ⟨(by cases jR with|nil=>rfl|cons _ _ _=>cases a),hm.ret.trans b,hm.todo.trans c⟩;have Wp:=zz4 (S:=C.S) fQ e1;have l9:(eK C.p m' ms').events C.p aZ #[]=ev:=by rw[e4];simp
   have cK:aZ.heap.size<=W1.heap.size:=e3.size.2;have Fa:∀a b,R1 a b->R a b\/(aZ.heap.size<=b/\b<W1.heap.size):=λa b x=>by
    rcases e3.new a b x with y|⟨_,y⟩
    .exact .inl y
    .exact .inr ⟨y,(e3.rel.ltR a b x).2⟩
   have Hi:wE (τ.grow aZ W1) R1 C.St:=λa b x=>by
    rcases e3.new a b x with y|⟨y1,y2⟩
    .exact⟨(ht a b y).1,λz=>.inl ((ht a b y).2 z)⟩
    .refine⟨λz=>?_,λ_=>.inr ⟨y2,(e3.rel.ltR a b x).2⟩⟩
     obtain⟨⟨b',b9⟩,_⟩:=Ah.st a z;have:=(Ah.ltR a b' b9).1;omega
   have hg:Aw τ.own aZ W1:=⟨e3.tape.2,e3.os.2,e3.ou.2,cK,λb hb fQ=>e3.keep b hb λa x=>zT λz=>fQ ((ht a b x).2 z)⟩;have zZ:=hI.step R τ aZ R1 W1 zN ht ⟨e3.le,e3.tape.2,e3.os.2,e3.ou.2,cK,Fa,e3.keep⟩;have Ul:Ui (nx T).1.1 (nx T).1.2=fn0:=(zvs (m1:=(nx T).1.1) (ms1:=(nx T).1.2) (cP T)).trans hl;have goal:C.B l (τ.grow aZ W1) (stk k C.ds C.base zta zvA) W1:=by
    refine ih T R1 W1 zta zvA (τ.grow aZ W1) Ul (λa b c=>?_) e3.rel e2.1 e2.2.1 Hi zZ (λx hx=>(Wp.at_ x.1 (zwx hx)).trans (Em x hx)) Wp.no;have hT:=cP T
    cases ms with
    |nil=>
     cases kG:m.ret with
     |true=>exact hs kG rfl
     |false=>
      simp only[eK,kG,jG,if_false] at hT;exact zxq hT b kG (λe=>Il ⟨rfl,kG,e⟩) a c
    |cons c0 cs=>
     cases kG:m.ret with
     |true=>
      simp only[eK,kG,if_true] at hT;obtain⟨ops,i,r,k0,v,fn,hc,hf,hv,h1,h2⟩:=Ue (m1:=(nx T).1.1) (ms1:=(nx T).1.2) hT;rw[h1] at c;simp[Fm.fin] at c
     |false=>
      simp only[eK,kG,jG,if_false] at hT;rcases zfd hT with⟨e,_⟩|e
      .rw[a] at e;cases e
      .rw[a] at e;cases e
   obtain⟨es,aY,yI⟩:=zBI (main:=C.main) (k:=k) (d:=C.ds) (base:=C.base) Ia za7 (vF.wait jR) e1;have Tb:∀e∈es,Ic R1 C.St e:=λe he=>by
    have:=yI e he;rw[l9] at this;exact e5 e (zcn this)
   exact⟨_,W1,_,aY,zqN ..,hg,λe he=>zhU (Tb e he) Hi,goal⟩
end
end Go.Mt
namespace Go.Mt
open Go.Conc Go.Tt
open Go.ConcR (KK wgBlock WgAt stA smA rd wr)
section
variable {L:Type}{C:Cx L}{l:L}
theorem nJ (d:Dk)(fn:aO)(tmps:Array aF)(todo:List dI):fx [] d ⟨fn,tmps,todo,false⟩=(d.base fn).at ⟨tmps,d.ds⟩ todo:=by
 unfold fx;simp[Fm.fr,Dk.base,dL.at]
theorem zi8 (d:Dk)(fn:aO)(tmps:Array aF)(todo:List dI):fx [] d ⟨fn,tmps,todo,true⟩={(d.base fn).at ⟨tmps,d.ds⟩ todo with mode:=.returning}:=by
 unfold fx;simp[Fm.fr,Dk.base,dL.at]
theorem cI.grow_id (τ:cI)(w:aE):τ.grow w w=τ:=by
 obtain⟨a,b,c⟩:=τ;simp only[cI.grow,cI.mk.injEq,and_true]
 grind
def Aw.id (O:Nat->Prop)(w:aE):Aw O w w:=⟨rfl,rfl,rfl,bL _,λ_ _ _=>rfl⟩
variable {R:Pr}{w W:aE}{τ:cI}
def Cx.Rel.suf {aZ:aE}(hw:C.Rel R w W)(ht:wE τ R C.St)(s:bX C.ty C.Wg τ W aZ):C.Rel R w aZ:=ziL hw ht (λa b x=>(hw.lt a b (.inr x)).2) s
variable {g':bF}
theorem Nk {main:Bool}{g:bF}{p:bT}{ty:aN}{Wg:Nat}{A:jN L}{Fin:bF->aE->Prop}(hg:g.status=.running)(yE:g'.status=.running)(aY:∀aZ,bX ty Wg τ W aZ->stepG p main g aZ=.go g' aZ #[])
 (h:∀aZ,bX ty Wg τ W aZ->cG p ty Wg A Fin main (.usr l) 0 τ g' aZ):cG p ty Wg A Fin main (.usr l) 0 τ g W:=by
 refine cG.own hg trivial λaZ s=>⟨g',aZ,#[],aY aZ s,yE,Aw.id _ _,λe he=>by simp at he,?_⟩;rw[cI.grow_id];exact h aZ s
theorem Cx.silent {g:bF}(hg:g.status=.running)(yE:g'.status=.running)(aY:∀aZ,bX C.ty C.Wg τ W aZ->stepG C.p C.main g aZ=.go g' aZ #[])(h:∀aZ,bX C.ty C.Wg τ W aZ->C.B l τ g' aZ):C.B l τ g W:=by
 refine Cx.ownQ hg λaZ s=>⟨g',aZ,#[],aY aZ s,yE,Aw.id _ _,λe he=>by simp at he,?_⟩;rw[cI.grow_id];exact h aZ s
variable {fn:aO}{tmps:Array aF}
theorem BO.silent (hI:fE C){todo znB:List dI}{zj7:Bool}(aY:∀R bU W,bO (SF C.fs) C.K R tmps bU->stepG C.p C.main (G ((C.ds.base fn).at ⟨bU,C.ds.ds⟩ todo) C.base) W=.go (G (fx [] C.ds ⟨fn,bU,znB,zj7⟩) C.base) W #[])
 (h:BO C l ⟨fn,tmps,znB,zj7⟩ w):BO C l ⟨fn,tmps,todo,false⟩ w:=by
 intro R W m' τ hw hm ht hi;obtain⟨fn',bU,zE,zD⟩:=m';obtain rfl:=hm.fn;obtain rfl:=hm.todo;obtain rfl:=hm.ret;refine Cx.silent rfl rfl (λaZ s=>by rw[nJ];exact aY R bU aZ hm.tmps) λaZ s=>?_;exact h R aZ ⟨fn,bU,znB,zj7⟩ τ (hw.suf ht s) ⟨rfl,rfl,rfl,hm.tmps,hm.pins⟩ ht (hI.suf _ _ _ _ hi s)
section ctl
variable {fn:aO}{tmps:Array aF}{k:List dI}{w:aE}
variable {a b:Code}
theorem BO.seq (hI:fE C)(h:BO C l ⟨fn,tmps,.code a:: .code b::k,false⟩ w):BO C l ⟨fn,tmps,.code (.seq a b)::k,false⟩ w:=BO.silent hI (λR t W _=>by rw[nJ];exact dV) h
theorem BO.skip (hI:fE C)(h:BO C l ⟨fn,tmps,k,false⟩ w):BO C l ⟨fn,tmps,.code .skip::k,false⟩ w:=BO.silent hI (λR t W _=>by rw[nJ];exact qD) h
variable {c:Code}
theorem BO.block (hI:fE C){id:Nat}(h:BO C l ⟨fn,tmps,.code c:: .inBlock id::k,false⟩ w):BO C l ⟨fn,tmps,.code (.block id c)::k,false⟩ w:=BO.silent hI (λR t W _=>by rw[nJ];exact zg3) h
theorem BO.loop (hI:fE C)(h:BO C l ⟨fn,tmps,.code c:: .inLoop c::k,false⟩ w):BO C l ⟨fn,tmps,.code (.loop c)::k,false⟩ w:=BO.silent hI (λR t W _=>by rw[nJ];exact ziH) h
theorem BO.inLoop (hI:fE C)(h:BO C l ⟨fn,tmps,.code c:: .inLoop c::k,false⟩ w):BO C l ⟨fn,tmps,.inLoop c::k,false⟩ w:=BO.silent hI (λR t W _=>by rw[nJ];exact znu) h
theorem BO.inBlock (hI:fE C){id:Nat}(h:BO C l ⟨fn,tmps,k,false⟩ w):BO C l ⟨fn,tmps,.inBlock id::k,false⟩ w:=BO.silent hI (λR t W _=>by rw[nJ];exact zig) h
theorem BO.exit (hI:fE C){id:Nat}{k':List dI}(he:exitTo id k=some k')(h:BO C l ⟨fn,tmps,k',false⟩ w):BO C l ⟨fn,tmps,.code (.exit id)::k,false⟩ w:=BO.silent hI (λR t W _=>by rw[nJ];exact stepG_exit he) h
theorem BO.reg (hI:fE C){id:Nat}{ops:Array aX}(h:BO C l ⟨fn,tmps,.inRegion ops (fV ops.size)::k,false⟩ w):BO C l ⟨fn,tmps,.code (.region id ops false)::k,false⟩ w:=BO.silent hI (λR t W _=>by rw[nJ];exact stepG_region) h
theorem BO.regEnd (hI:fE C){ops:Array aX}(h:BO C l ⟨fn,tmps,k,false⟩ w):BO C l ⟨fn,tmps,.inRegion ops []::k,false⟩ w:=BO.silent hI (λR t W _=>by rw[nJ];exact dJ) h
theorem BO.fall (hI:fE C)(h:BO C l ⟨fn,tmps,[],true⟩ w):BO C l ⟨fn,tmps,[],false⟩ w:=BO.silent hI (λR t W _=>by rw[zi8];exact zeB) h
theorem BO.ret (hI:fE C)(h:BO C l ⟨fn,tmps,.code .ret::k,true⟩ w):BO C l ⟨fn,tmps,.code .ret::k,false⟩ w:=BO.silent hI (λR t W _=>by rw[zi8];exact xW) h
theorem Hb {R:Pr}{t t':Array aF}{d:List Gw}(h:bO (SF C.fs) C.K R t t'){x:cJ}(hx:dP C.fs x=true):VR (SF C.fs) C.K R ((bE t []).eval x) ((bE t' d).eval x):=by
 cases x with
 |tmp t=>exact h.getD t yA
 |const v=>exact zya hx
 |global g=>cases hx
 |func f=>exact .func hx rfl (λi v v' h=>by simp at h) rfl (λi v v' h=>by simp at h)
theorem BO.cond (hI:fE C){c:cJ}{t:Bool}(hx:dP C.fs c=true)(hc:(bE tmps []).eval c=.bool t)(h:BO C l ⟨fn,tmps,.code (if t then a else b)::k,false⟩ w):BO C l ⟨fn,tmps,.code (.cond c a b)::k,false⟩ w:=
 BO.silent hI (λR t' W ha=>by
  rw[nJ];have h1:=Hb (C:=C) (d:=C.ds.ds) ha hx;rw[hc] at h1;have h2:(bE t' C.ds.ds).eval c=.bool t:=by
   generalize(bE t' C.ds.ds).eval c=v' at h1;cases h1;rfl
  exact stepG_cond h2) h
end ctl
structure wM (p:bT)(fn:aO):Prop where
 res:∃f,p.funcs[fn]? =some f/\Dq f.results.toList
variable {bU:Array aF}{c:Code}
theorem zI4 (hc:qG C.p ⟨C.fs,C.gs,true⟩ c=true)(hf:wM C.p fn)(ha:bO (SF C.fs) C.K R tmps bU):pL C.P C.fs C.K R ⟨fn,tmps,[.code c],false⟩ ⟨fn,bU,[.code c],false⟩:=by
 obtain⟨f,h1,h2⟩:=hf.res;refine⟨rfl,rfl,rfl,ha,λi hi=>?_,⟨f,f,h1,h1,rfl,h2⟩⟩;simp only[lV,nM,or_false] at hi;subst hi;exact hc
variable {k:List dI}
theorem BO.piece (F:vZ C.P C.fs)(hI:fE C)(hc:qG C.p ⟨C.fs,C.gs,true⟩ c=true)(hf:wM C.p fn)(fQ:yH C.S c=true)
 (vM:∀T,Code.wp C.p c (λe a' w'=>e=.normal/\BO C l ⟨fn,a'.tmps,k,false⟩ w') ⟨tmps,[]⟩ (Tt.tp w T 0)):BO C l ⟨fn,tmps,.code c::k,false⟩ w:=by
 intro R W m' τ hw hm ht hi;obtain⟨fn',bU,zE,zD⟩:=m';obtain rfl:=hm.fn;obtain rfl:=hm.todo;obtain rfl:=hm.ret;have zeq:=zI4 (R:=R) hc hf hm.tmps;have hrel:vR C.P C.fs C.K (o9 C.p) C.St ⟨fn,tmps,[.code c],false⟩ [] w:=⟨R,W,_,[],hw,zeq,.nil⟩;have tree:=zvS F rfl hrel vM (λe a w h=>.inl h.1) (λe a w T k h=>⟨h.1,h.2.tape T k⟩);have:=zGa (l:=l) F hI (k:=k) (fn0:=fn) tree (λx wT e1 e2 e3 hq=>by
  rcases(hq wT.tape).2 with h|h
  .exact BO.untape h.2.2
  .cases h.1)
  (λx wT e1 e2 e3 hq=>by
   rcases hq.2 with h|h
   .exact absurd h.1 e3
   .cases h.1) R W ⟨fn,bU,[.code c],false⟩ [] τ rfl (λ_ e=>by cases e) hw zeq .nil ht hi hm.pins (λi hi=>by
   simp only[Sz,lV,nM,or_false] at hi;subst hi;exact fQ)
 have e:fx k C.ds ⟨fn,bU,[.code c],false⟩=fx [] C.ds ⟨fn,bU,.code c::k,false⟩:=by unfold fx;simp[Fm.fr]
 unfold stk at this;simp_all
variable {dst:Option Nat}{v:aF}{d:List Gw}
theorem I5 (hp:∀x∈C.pin,bU.getD x.1 aA=x.2)(hn:∀s,dst=some s->s∉C.S):∀x∈C.pin,(b7 ⟨bU,d⟩ dst v).tmps.getD x.1 aA=x.2:=by
 intro x hx
 cases dst with
 |none=>exact hp x hx
 |some s=>
  have aV:s≠x.1:=λe=>hn s rfl (e▸zwx hx);rw[<-hp x hx];simp only[b7,sZ,sO aV]
variable {t t':Array aF}
theorem Ke {d':List Gw}(h:bO (SF C.fs) C.K R t t'){v':aF}(hv:VR (SF C.fs) C.K R v v'):bO (SF C.fs) C.K R (b7 ⟨t,d⟩ dst v).tmps (b7 ⟨t',d'⟩ dst v').tmps:=by
 cases dst with
 |none=>exact h
 |some s=>exact h.set s hv
variable {o:aX}{ops:Array aX}
theorem Jc (h:bO (SF C.fs) C.K R t t')(hw:cO o (cS ops t)=true):cO o (cS ops t')=true:=by
 rw[<-zhZ ops h];exact hw
theorem BO.op (F:vZ C.P C.fs)(hI:fE C){i:Nat}{rest:List Nat}(ho:ops[i]? =some o)(cF:cO o (cS ops tmps)=true)
 (bM:s9 C.p ⟨C.fs,C.gs,true⟩ o.op=true) (lK:∀s,o.dst=some s->s∉C.S)
 (hx:∀T,∃v w',((aS (bE tmps []).eval o).run C.p (Tt.tp w T 0)=.ok (.value v) w'\/((aS (bE tmps []).eval o).run C.p (Tt.tp w T 0)=.ok .skip w'/\v=aA))/\BO C l ⟨fn,(b7 ⟨tmps,[]⟩ o.dst v).tmps,.inRegion ops rest::k,false⟩ w'):
 BO C l ⟨fn,tmps,.inRegion ops (i::rest)::k,false⟩ w:=by
 intro R W m' τ hw hm ht hi;obtain⟨fn',bU,zE,zD⟩:=m';obtain rfl:=hm.fn;obtain rfl:=hm.todo;obtain rfl:=hm.ret;rw[nJ];refine Cx.ownQ rfl λaZ s=>?_;have dK:=hw.suf ht s;have zN:=hI.suf _ _ _ _ hi s
 let T:Tape:=λn q=>aZ.tape (aZ.drawn+n) q
 have Ah:C.Rel R (Tt.tp w T 0) aZ:=⟨dK.inj,dK.inj',dK.lt,dK.low,dK.gle,dK.cont,dK.rest,dK.st,dK.np,dK.tb⟩;have L0:Tp (Tt.tp w T 0) aZ:=λn q=>by show aZ.tape (aZ.drawn+(0+n)) q=_;rw[rL]
 obtain⟨v,w',cP,hB⟩:=hx T;have zbq:=zir (P:=C.P) (q:=⟨C.fs,C.gs,true⟩) (o:=o) (ρ:=(bE tmps []).eval) (ρ':=(bE bU C.ds.ds).eval) F.toFit2.toFit (Ah.relOk rfl) (λx hx=>Hb hm.tmps hx) (λg=>rfl) (λg=>rfl) (λg=>rfl) (λg=>rfl) (λv=>rfl) (λv=>rfl) rfl (λf h=>h) (λ_ f hf=>F.toFit2.toFit.dyn rfl f hf) bM
 have key:∃R1 v' W1 ev,((aS (bE bU C.ds.ds).eval o).run C.p aZ=.ok (.value v') W1\/((aS (bE bU C.ds.ds).eval o).run C.p aZ=.ok .skip W1/\v'=aA))/\VR (SF C.fs) C.K R1 v v'/\nQ (SF C.fs) C.K R (o9 C.p) C.St (Tt.tp w T 0) aZ R1 w' W1/\
  (∀es,(aS (bE bU C.ds.ds).eval o).events C.p aZ es=es++ev)/\∀e∈ev,Ic R1 C.St e:=by
  rcases cP with cP|⟨cP,rfl⟩
  .obtain⟨R1,x',W1,ev,e1,e2,e3,e4,e5⟩:=aG.run rfl _ zbq Ah L0 cP
   cases e2 with
   |value hv=>exact⟨R1,_,W1,ev,.inl e1,hv,e3,e4,e5⟩
  .obtain⟨R1,x',W1,ev,e1,e2,e3,e4,e5⟩:=aG.run rfl _ zbq Ah L0 cP
   cases e2 with
   |skip=>exact⟨R1,aA,W1,ev,.inr ⟨e1,rfl⟩,yA,e3,e4,e5⟩
 obtain⟨R1,v',W1,ev,e1,hv,e3,e4,e5⟩:=key;have hb:(C.ds.base fn).kind≠ .early:=C.ds.ok;have uY:=Jc (C:=C) hm.tmps cF;have aY:stepG C.p C.main (G ((C.ds.base fn).at ⟨bU,C.ds.ds⟩ (.inRegion ops (i::rest)::k)) C.base) aZ=.go (G ((C.ds.base fn).at (b7 ⟨bU,C.ds.ds⟩ o.dst v') (.inRegion ops rest::k)) C.base) W1 (xY C.p (C.ds.base fn).fn ⟨bU,C.ds.ds⟩ o aZ):=by
  rcases e1 with e1|⟨e1,rfl⟩
  .exact stepG_value ho uY hb e1
  .exact stepG_none ho uY hb e1
 have E7:b7 ⟨bU,C.ds.ds⟩ o.dst v'=⟨(b7 ⟨bU,C.ds.ds⟩ o.dst v').tmps,C.ds.ds⟩:=by cases o.dst<;>rfl
 have Tb:∀e∈xY C.p (C.ds.base fn).fn ⟨bU,C.ds.ds⟩ o aZ,Ic R1 C.St e:=λe he=>by
  unfold xY at he;rw[e4] at he;exact e5 e (by simpa using zcn he)
 have cK:aZ.heap.size<=W1.heap.size:=e3.size.2;have Fa:∀a b,R1 a b->R a b\/(aZ.heap.size<=b/\b<W1.heap.size):=λa b x=>by
  rcases e3.new a b x with y|⟨_,y⟩
  .exact .inl y
  .exact .inr ⟨y,(e3.rel.ltR a b x).2⟩
 have Hi:wE (τ.grow aZ W1) R1 C.St:=λa b x=>by
  rcases e3.new a b x with y|⟨y1,y2⟩
  .exact⟨(ht a b y).1,λz=>.inl ((ht a b y).2 z)⟩
  .refine⟨λz=>?_,λ_=>.inr ⟨y2,(e3.rel.ltR a b x).2⟩⟩
   obtain⟨⟨b',b9⟩,_⟩:=Ah.st a z
   grind
 have hg:Aw τ.own aZ W1:=⟨e3.tape.2,e3.os.2,e3.ou.2,cK,λb hb fQ=>e3.keep b hb λa x=>zT λz=>fQ ((ht a b x).2 z)⟩;have zZ:=hI.step R τ aZ R1 W1 zN ht ⟨e3.le,e3.tape.2,e3.os.2,e3.ou.2,cK,Fa,e3.keep⟩;refine⟨_,W1,_,aY,rfl,hg,λe he=>zhU (Tb e he) Hi,?_⟩;rw[E7,<-nJ];exact hB R1 W1 ⟨fn,_,_,false⟩ _ e3.rel ⟨rfl,rfl,rfl,Ke (C:=C) (hm.tmps.mono e3.le) hv,I5 (C:=C) hm.pins lK⟩ Hi zZ
end
section
variable {L:Type}{C:Cx L}{l:L}
variable {p:bT}
theorem zDg {q:Tt.Cl}:∀c:Code,qG p q c=true->yH [] c=true:=by
 intro c
 induction c with
 |region id ops dr=>
  intro _;simp only[yH,zl0];intro o _;cases o.dst<;>rfl
 |seq a b zld zkY=>intro h;simp only[qG,iT] at h;simp only[yH,iT];exact⟨zld h.1,zkY h.2⟩
 |cond c a b zld zkY=>intro h;simp only[qG,iT] at h;simp only[yH,iT];exact⟨zld h.1.2,zkY h.2⟩
 |block id c ih=>intro h;exact ih h
 |loop c ih=>intro h;exact ih h
 |scope c ih=>intro h;exact ih h
 |skip=>intro _;rfl
 |ret=>intro _;rfl
 |exit _=>intro _;rfl
 |label _=>intro _;rfl
 |_=>intro h;simp[qG] at h
def Cx.sub (C:Cx L)(m':Fm)(oO:Pr):Cx L:={C with base:=fx [] C.ds m'::C.base,ds:=.nil,I:=λR τ W=>C.I R τ W/\oO.le R,pin:=[]}
variable {o:aX}{x:cJ}{f:aO}{args:Array cJ}{jM:Array aN}{first cap:Array aF}{ρ:cJ->aF}
theorem zD6 (hop:o.op=.call ⟨.value x,args,jM⟩)(hρ:ρ x=.func (.func f) first cap){fn:Te}{c:Code}(hf:p.funcs[f]? =some fn)
 (hn:(fn.name== "runtime.NumGoroutine")=false) (hb:fn.body=some c) (w:aE):(aS ρ o).run p w=.ok (.enter f (first++args.map ρ++cap)) w/\(aS ρ o).events p w #[]=#[]:=by
 obtain⟨dst,yJ,type,pos,after,guard⟩:=o;simp only at hop;subst hop;have wD:¬fn.name= "runtime.NumGoroutine" :=by simpa using hn
 constructor
 .simp[aS,resolve,Dh,hρ,invoke,callFunc,program,bind,x3,pure,bK,hf,wD,hb]
 .simp[aS,resolve,Dh,hρ,invoke,callFunc,program,bind,x3,pure,bK,yZ,Ak,hf,wD,hb]
structure Callee (C:Cx L)(tmps:Array aF)(x:cJ)(f:aO)(first cap:Array aF):Prop where
 here:(bE tmps []).eval x=.func (.func f) first cap
 there:∀R bU d,bO (SF C.fs) C.K R tmps bU->∃Tg Pc,(bE bU d).eval x=.func (.func f) Tg Pc/\bO (SF C.fs) C.K R first Tg/\bO (SF C.fs) C.K R cap Pc
def Callee.static (tmps:Array aF)(f:aO):Callee C tmps (.func f) f #[] #[]:=⟨rfl,λR bU d _=>⟨#[],#[],rfl,.empty,.empty⟩⟩
variable {fn:aO}{tmps:Array aF}{ops:Array aX}{i:Nat}{rest:List Nat}{k:List dI}{w:aE}{fnf:Te}
theorem BO.callN (hI:fE C)(ho:ops[i]? =some o)(cF:cO o (cS ops tmps)=true)
 (hop:o.op=.call ⟨.value x,args,jM⟩) (hx:Callee C tmps x f first cap) (rS:args.all (dP C.fs)=true)  {cf:Code} (hf:C.p.funcs[f]? =some fnf) (Jf:(fnf.name== "runtime.NumGoroutine")=false) (hb:fnf.body=some cf) (zh0:Dq fnf.results.toList)
 (hB:∀(oO:Pr) (m':Fm),FmW C oO ⟨fn,tmps,.inRegion ops (i::rest)::k,false⟩ m'->BO (C.sub m' oO) l ⟨f,(first++args.map (bE tmps []).eval++cap)++nK (fnf.ntmps-(first++args.map (bE tmps []).eval++cap).size) aA,[.code cf],false⟩ w):
 BO C l ⟨fn,tmps,.inRegion ops (i::rest)::k,false⟩ w:=by
 intro R W m' τ hw hm ht hi;have zfb:=hm;obtain⟨fn',bU,zE,zD⟩:=m';obtain rfl:=hm.fn;obtain rfl:=hm.todo;obtain rfl:=hm.ret;obtain⟨Tg,Pc,lZ,uT,rD⟩:=hx.there R bU C.ds.ds hm.tmps;have b9:(C.ds.base fn).kind≠ .early:=C.ds.ok;have uY:=Jc (C:=C) hm.tmps cF;rw[nJ];refine Cx.silent rfl rfl (g':=G (Eu C.p f (Tg++args.map (bE bU C.ds.ds).eval++Pc) .normal) (fx [] C.ds ⟨fn,bU,.inRegion ops (i::rest)::k,false⟩::C.base)) (λaZ s=>?_) λaZ s=>?_
 rotate_right
 .have Dp:bO (SF C.fs) C.K R (first++args.map (bE tmps []).eval++cap) (Tg++args.map (bE bU C.ds.ds).eval++Pc):=(uT.append (bO.maps (λx hx=>Hb (C:=C) hm.tmps hx) rS)).append rD
  have:=hB R _ zfb R aZ ⟨f,(Tg++args.map (bE bU C.ds.ds).eval++Pc)++nK (fnf.ntmps-(Tg++args.map (bE bU C.ds.ds).eval++Pc).size) aA,[.code cf],false⟩ τ (hw.suf ht s) ⟨rfl,rfl,rfl,Dp.pad fnf.ntmps,λx hx=>by cases hx⟩ ht ⟨hI.suf _ _ _ _ hi s,.refl R⟩;rw[Wm hf hb,<-H4];exact this
 .obtain⟨x1,x2⟩:=zD6 (p:=C.p) hop (ρ:=(bE bU C.ds.ds).eval) lZ hf Jf hb aZ
  have aY:=stepG_enter (main:=C.main) (b:=C.ds.base fn) (rest:=rest) (cs:=C.base) (k:=k) ho uY b9 x1;rw[aY];unfold xY;rw[x2,Cz,nJ]
variable {v:aF}
theorem BO.retN (hI:fE C){oO:Pr}{m m':Fm}(hm:FmW C oO m m')(hr:m.ret=false)(pS:m.todo=.inRegion ops (i::rest)::k)(lK:∀s,(ops[i]?).bind (·.dst)=some s->s∉C.S)
   {todo:List dI}    (hf:C.p.funcs[f]? =some fnf) (hv:(oC fnf.results.toList tmps).run C.p w=.ok v w) (h:BO C l (m.fin ops i rest k v) w):BO (C.sub m' oO) l ⟨f,tmps,todo,true⟩ w:=by
 intro R W x' τ hw hx ht hi;obtain⟨f',bU,zE,zD⟩:=x';obtain rfl:=hx.fn;obtain rfl:=hx.todo;obtain rfl:=hx.ret;have zL:m'.ret=false:=hm.ret.symm.trans hr;have O4:m'.todo=.inRegion ops (i::rest)::k:=hm.todo.symm.trans pS;refine Cx.ownQ rfl λaZ s=>?_;have dK:C.Rel R w aZ:=Cx.Rel.suf (C:=C) hw ht s;have zN:=hI.suf _ _ _ _ hi.1 s
 let T:Tape:=λn q=>aZ.tape (aZ.drawn+n) q
 have Ah:C.Rel R (Tt.tp w T 0) aZ:=⟨dK.inj,dK.inj',dK.lt,dK.low,dK.gle,dK.cont,dK.rest,dK.st,dK.np,dK.tb⟩;have L0:Tp (Tt.tp w T 0) aZ:=λn q=>by show aZ.tape (aZ.drawn+(0+n)) q=_;rw[rL]
 have cP:=(Py _ _ w v w hv).2 T 0;obtain⟨R1,v',W1,ev,e1,g3,e3,e4,e5⟩:=aG.run (P:=C.P) rfl _ (ziU hx.tmps fnf.results.toList) Ah L0 cP;obtain⟨zfX,_⟩:=Py _ _ aZ v' W1 e1;subst zfX;have Qz:(zR C.p ⟨f,bU,todo,true⟩ [m']).run C.p W1=.ok (m'.fin ops i rest k v',[]) W1:=(Mq O4 hf e1).1;obtain⟨_,_,_,e⟩:=zeZ (main:=C.main) rfl zL Qz [] C.ds C.base;have Uq:fx [] (C.sub m' oO).ds ⟨f,bU,todo,true⟩=(⟨f,bU,todo,true⟩:Fm).fr:=H4 _;rw[Uq];have Tb:∀e∈seen C.p f ((zR C.p ⟨f,bU,todo,true⟩ [m']).events C.p W1 #[]),Ic R1 C.St e:=λe he=>by
  rw[(Mq O4 hf e1).2,e4] at he;exact e5 e (by simpa using zcn he)
 have Fa:∀a b,R1 a b->R a b\/(W1.heap.size<=b/\b<W1.heap.size):=λa b x=>by
  rcases e3.new a b x with y|⟨_,y⟩
  .exact .inl y
  .exact .inr ⟨y,(e3.rel.ltR a b x).2⟩
 have Hi:wE (τ.grow W1 W1) R1 C.St:=λa b x=>by
  rcases e3.new a b x with y|⟨y1,y2⟩
  .exact⟨(ht a b y).1,λz=>.inl ((ht a b y).2 z)⟩
  .have:=(e3.rel.ltR a b x).2;omega
 have zZ:=hI.step R τ W1 R1 W1 zN ht ⟨e3.le,rfl,rfl,rfl,bL _,Fa,λ_ _ _=>rfl⟩;refine⟨_,W1,_,e,rfl,Aw.id _ _,λe he=>zhU (Tb e he) Hi,?_⟩;have U1:C.Rel R1 w W1:=⟨e3.rel.inj,e3.rel.inj',e3.rel.lt,e3.rel.low,e3.rel.gle,e3.rel.cont,e3.rel.rest,e3.rel.st,e3.rel.np,e3.rel.tb⟩;refine h R1 W1 _ _ U1 ⟨hm.fn,rfl,hm.ret,?_,?_⟩ Hi zZ
 .have:=Ke (C:=C) (d:=[]) (d':=[]) (hm.tmps.mono (hi.2.trans e3.le)) (dst:=(ops[i]?).bind (·.dst)) g3
  unfold Fm.fin;simp only;unfold b7 at this
  grind
 .have:=I5 (C:=C) (d:=[]) (v:=v') hm.pins lK
  unfold Fm.fin;simp only;unfold b7 at this
  grind
variable {c:Nat}{ct e:aN}{ok:Bool}{z:aF}{dir:ChanDir}{ie:xO}
theorem zuF (hop:o.op=.recv ct x ok)(Gd:p.underlying ct=some (.chan dir e))(jK:p.info? e=some ie)(hz:ie.zero=some z)(hx:ρ x=.chan (some c))(w:aE):
 (aS ρ o).run p w=.ok (.comm #[rcase c z] true (.recv ok)) w/\(aS ρ o).events p w #[]=#[]:=by
 obtain⟨dst,yJ,type,pos,after,guard⟩:=o;simp only at hop;subst hop;have hu:∀w,(underlying ct).run p w=.ok (.chan dir e) w:=λw=>by simp[underlying,program,bind,x3,bK,Gd,pure]
 have qI:∀w,(zeroValue e).run p w=.ok z w:=λw=>by simp[zeroValue,typeInfo,program,bind,x3,bK,jK,hz,pure]
 have he:aS ρ ⟨dst,.recv ct x ok,type,pos,after,guard⟩=(underlying ct).bind (λd=>match d with| .chan _ elem=>(zeroValue elem).bind (λz=>.pure (.comm #[{chan:=ρ x,send:=none,zero:=z}] true (.recv ok)))|_=>stuck "receive: channel type expected"):=by
  simp only[aS];show x3 _ _=x3 _ _;congr 1
 rw[he];constructor
 .rw[uG,hu]
  simp only[uR];rw[uG,qI];simp only[uR,hx];rfl
 .rw[zhu,hu,zhx,events_underlying]
  simp only;rw[zhu,qI,zhx,events_zeroValue];rfl
theorem zxS {y:cJ}(hop:o.op=.send x y)(hx:ρ x=.chan (some c))(hy:ρ y=v)(w:aE):
 (aS ρ o).run p w=.ok (.comm #[scase c v (.tuple #[])] true .send) w/\(aS ρ o).events p w #[]=#[]:=by
 obtain⟨dst,yJ,type,pos,after,guard⟩:=o;simp only at hop;subst hop;constructor
 .simp[aS,hx,hy,scase,pure,bK]
 .simp[aS,hx,hy,scase,pure,bK,yZ,Ak]
variable {g:Nat}
theorem Wl {R:Pr}{W:aE}(hw:C.Rel R w W){v':aF}(hK:C.K g c)(h:VR (SF C.fs) C.K R (.chan (some g)) v'):v'=.chan (some c):=by
 cases h with
 |chan h=>
  cases h with
  |some h=>rw[hw.inj g _ c h (.inr hK)]
theorem zb2 (ho:ops[i]? =some o)(v:aF):pG (G ((C.ds.base fn).at ⟨tmps,C.ds.ds⟩ (.inRegion ops (i::rest)::k)) C.base) v=G (fx [] C.ds ⟨fn,(b7 ⟨tmps,[]⟩ o.dst v).tmps,.inRegion ops rest::k,false⟩) C.base:=by
 rw[nJ];have E7:b7 ⟨tmps,C.ds.ds⟩ o.dst v=⟨(b7 ⟨tmps,[]⟩ o.dst v).tmps,C.ds.ds⟩:=by cases o.dst<;>rfl
 have Bj:((C.ds.base fn).at ⟨tmps,C.ds.ds⟩ (.inRegion ops (i::rest)::k)).finish v=(C.ds.base fn).at (b7 ⟨tmps,C.ds.ds⟩ o.dst v) (.inRegion ops rest::k):=by rw[zsp,ho];rfl
 rw[<-E7,<-Bj];rfl
variable {okv:aF->Prop}
theorem BO.recv (ha:C.alone=none)(hI:fE C){nx:aF->L}{sh:L}
 (ho:ops[i]? =some o) (cF:cO o (cS ops tmps)=true) (hop:o.op=.recv ct x ok) (Gd:C.p.underlying ct=some (.chan dir e)) (jK:C.p.info? e=some ie) (hz:ie.zero=some z) (zh9:∀R,VR (SF C.fs) C.K R z z)
 (sD:dP C.fs x=true) (hx:(bE tmps []).eval x=.chan (some g)) (hK:C.K g c) (lK:∀s,o.dst=some s->s∉C.S) (rH:C.A.act l=.recv c okv nx sh)
 (h1:∀v,okv v->∃vg,(∀R,VR (SF C.fs) C.K R vg v)/\BO C (nx v) ⟨fn,(b7 ⟨tmps,[]⟩ o.dst (recvd ok vg true)).tmps,.inRegion ops rest::k,false⟩ w)
 (h2:C.A.cl l->BO C sh ⟨fn,(b7 ⟨tmps,[]⟩ o.dst (recvd ok z false)).tmps,.inRegion ops rest::k,false⟩ w):BO C l ⟨fn,tmps,.inRegion ops (i::rest)::k,false⟩ w:=by
 intro R W m' τ hw hm ht hi;obtain⟨fn',bU,zE,zD⟩:=m';obtain rfl:=hm.fn;obtain rfl:=hm.todo;obtain rfl:=hm.ret;have lZ:(bE bU C.ds.ds).eval x=.chan (some c):=Wl hw hK (hx▸Hb (C:=C) hm.tmps sD);have uY:=Jc (C:=C) hm.tmps cF;have hb:(C.ds.base fn).kind≠ .early:=C.ds.ok;have zaw:∀vg v' b,VR (SF C.fs) C.K R vg v'->VR (SF C.fs) C.K R (recvd ok vg b) (recvd ok v' b):=λvg v' b h=>by
  unfold recvd
  cases ok with
  |false=>exact h
  |true=>
   simp only[if_true];exact VR.tuple' (by
    have:=bO.empty (S:=SF C.fs) (K:=C.K) (R:=R);exact(this.push h).push (.bool b))
 have goon:∀{l':L} {vg v':aF} {aZ:aE},bX C.ty C.Wg τ W aZ->VR (SF C.fs) C.K R vg v'->BO C l' ⟨fn,(b7 ⟨tmps,[]⟩ o.dst vg).tmps,.inRegion ops rest::k,false⟩ w->
  C.B l' τ (pG (G ((C.ds.base fn).at ⟨bU,C.ds.ds⟩ (.inRegion ops (i::rest)::k)) C.base) v') aZ:=λ{l' vg v' aZ} s hv hB=>by
  rw[zb2 ho];exact hB R aZ _ τ (Cx.Rel.suf (C:=C) hw ht s) ⟨rfl,rfl,rfl,Ke (C:=C) hm.tmps hv,I5 (C:=C) hm.pins lK⟩ ht (hI.suf _ _ _ _ hi s)
 rw[nJ,Cx.B_none ha];refine cG.usr rfl ?_;unfold nH;rw[rH];refine⟨rfl,z,ok,λaJ s=>?_,λv hv aJ s _=>?_,λnE=>?_⟩
 .obtain⟨e1,e2⟩:=zuF (p:=C.p) (ρ:=(bE bU C.ds.ds).eval) hop Gd jK hz lZ aJ
  rw[stepG_comm ho uY hb e1];unfold xY;rw[e2,Cz]
 .obtain⟨vg,zjB,hB⟩:=h1 v hv
  have:=goon s (zaw _ _ _ (zjB R)) hB;rw[Cx.B_none ha] at this;exact this
 .have:=goon bX.refl (zaw _ _ _ (zh9 R)) (h2 nE)
  rw[Cx.B_none ha] at this;exact this
variable {pub:aF->List Nat}
theorem BO.send (ha:C.alone=none)(hI:fE C){y:cJ}{nx:aF->L}{l':L}
 (ho:ops[i]? =some o) (cF:cO o (cS ops tmps)=true) (hop:o.op=.send x y)
 (sD:dP C.fs x=true) (hx:(bE tmps []).eval x=.chan (some g)) (hK:C.K g c) (Dr:dP C.fs y=true) (lK:∀s,o.dst=some s->s∉C.S) (rH:C.A.act l=.send c okv pub nx)
 (hv:∀R v',VR (SF C.fs) C.K R ((bE tmps []).eval y) v'->okv v'/\pub v'=[]/\nx v'=l')
 (h1:BO C l' ⟨fn,(b7 ⟨tmps,[]⟩ o.dst aA).tmps,.inRegion ops rest::k,false⟩ w):BO C l ⟨fn,tmps,.inRegion ops (i::rest)::k,false⟩ w:=by
 intro R W m' τ hw hm ht hi;obtain⟨fn',bU,zE,zD⟩:=m';obtain rfl:=hm.fn;obtain rfl:=hm.todo;obtain rfl:=hm.ret;have lZ:(bE bU C.ds.ds).eval x=.chan (some c):=Wl hw hK (hx▸Hb (C:=C) hm.tmps sD);have uY:=Jc (C:=C) hm.tmps cF;have hb:(C.ds.base fn).kind≠ .early:=C.ds.ok;obtain⟨k1,k2,k3⟩:=hv R _ (Hb (C:=C) (d:=C.ds.ds) hm.tmps Dr);rw[nJ,Cx.B_none ha];refine cG.usr rfl ?_;unfold nH;rw[rH];refine⟨rfl,_,.tuple #[],τ,λaJ s=>?_,k1,λb h=>h,rfl,λb h=>.inl h,(λa ha=>by rw[k2] at ha;cases ha),?_⟩
 .obtain⟨e1,e2⟩:=zxS (p:=C.p) (ρ:=(bE bU C.ds.ds).eval) hop lZ rfl aJ
  rw[stepG_comm ho uY hb e1];unfold xY;rw[e2,Cz]
 .rw[k3,zb2 ho]
  rw[<-Cx.B_none ha];exact h1 R W _ τ hw ⟨rfl,rfl,rfl,Ke (C:=C) hm.tmps yA,I5 (C:=C) hm.pins lK⟩ ht hi
end
end Go.Mt
namespace Go.Mt
open Go.Conc
inductive PpL where
 |m0|m1|rv (k:Nat)|wt|sd (k:Nat)|dn
end Go.Mt
namespace Go.Mt
open Go.Conc Go.RowKit Go.Conc.Lib Go.ConcR.Gen
open Go.ConcR (KK wgBlock WgAt stA smA rd wr mk Payload DC0)
section
variable {zX:Type}{P:bT}{ty:aN}{Wg:Nat}{A:jN zX}{Fin:bF->aE->Prop}
theorem cI.grow_self (τ:cI)(w:aE):τ.grow w w=τ:=by
 obtain⟨a,b,c⟩:=τ;simp only[cI.grow,cI.mk.injEq,and_true];funext x;exact propext ⟨λh=>h.elim id λh=>by omega,.inl⟩
def Aw.refl (O:Nat->Prop)(w:aE):Aw O w w:=⟨rfl,rfl,rfl,bL _,λ_ _ _=>rfl⟩
variable {main:Bool}{τ:cI}
theorem cG.running {ph:Ph zX}{d:Nat}{g:bF}{w:aE}(h:cG P ty Wg A Fin main ph d τ g w):g.status=.running:=by
 obtain⟨r,hr⟩:=h;cases r with|mk ι f=>exact hr.1
theorem cG.goes {ph:Ph zX}{d:Nat}(hl:ph.live):∀(n:Nat) {g:bF} {w:aE},Goes P main (bX ty Wg τ) DC0 (cG P ty Wg A Fin main ph d τ) n g w->cG P ty Wg A Fin main ph d τ g w:=by
 intro n
 induction n with
 |zero=>exact λ{g w} h=>h w (bX.refl)
 |succ n ih=>
  intro g w h;rcases h with h|⟨hs,h⟩
  .exact h w (bX.refl)
  .refine cG.own hs hl λaJ s=>?_
   obtain⟨zaB,w',es,hgo,⟨e1,e2⟩,hg⟩:=znn (h aJ s);subst e1 e2;have hb:=ih hg;refine⟨zaB,w',#[],hgo,hb.running,Aw.refl _ _,λe he=>by simp at he,?_⟩;rw[cI.grow_self];exact hb
theorem cG.idles {ph:Ph zX}{d:Nat}(hl:∀{g w},zb8 P ty Wg (cG P ty Wg A Fin) main ph d τ g w->Nx P ty Wg (cG P ty Wg A Fin) main ph d τ g w):∀(n:Nat) {g:bF} {w:aE},Goes P main (bX ty Wg τ) DC0 (cG P ty Wg A Fin main ph d τ) n g w->cG P ty Wg A Fin main ph d τ g w:=by
 intro n
 induction n with
 |zero=>exact λ{g w} h=>h w (bX.refl)
 |succ n ih=>
  intro g w h;rcases h with h|⟨hs,h⟩
  .exact h w (bX.refl)
  .refine cG.mk hs (.inl (hl λaJ s=>?_))
   obtain⟨zaB,w',es,hgo,⟨e1,e2⟩,hg⟩:=znn (h aJ s);subst e1 e2;have hb:=ih hg;exact⟨zaB,#[],hgo,hb.running,λe he=>by simp at he,hb⟩
variable {m:Mark}
theorem cG.mark {ph:Ph zX}{d:Nat}(hl:ph.live){g:bF}{w:aE}(hs:g.status=.running){g':bF}(hgo:∀aJ,bX ty Wg τ w aJ->stepG P main g aJ=.go g' aJ #[oX m])
 (hm:EvT Wg main τ.own τ.still (oX m)) (hb:∀aJ,bX ty Wg τ w aJ->cG P ty Wg A Fin main ph (oR d #[oX m]) τ g' aJ):cG P ty Wg A Fin main ph d τ g w:=by
 refine cG.own hs hl λaJ s=>⟨g',aJ,#[oX m],hgo aJ s,(hb aJ s).running,Aw.refl _ _,λe he=>?_,?_⟩
 .rw[ztz] at he
  subst he;rw[cI.grow_self];exact hm
 .rw[cI.grow_self];exact hb aJ s
theorem cG.imark {l:zX}{d:Nat}{g:bF}{w:aE}(hs:g.status=.running){g':bF}(hgo:∀aJ,bX ty Wg τ w aJ->stepG P main g aJ=.go g' aJ #[oX m])
 (hm:o5.mute (oX m)=true) (hb:∀aJ,bX ty Wg τ w aJ->cG P ty Wg A Fin main (.rel l) (oR d #[oX m]) τ g' aJ):cG P ty Wg A Fin main (.rel l) d τ g w:=by
 refine cG.mk hs (.inl λaJ s=>⟨g',#[oX m],hgo aJ s,(hb aJ s).running,λe he=>?_,hb aJ s⟩);rw[ztz] at he;subst he;exact hm
def WgLive.cell0 {w:aE}(h:WgLive ty Wg w):∃v,w.cell? ⟨Wg,0,none⟩=some v:=let⟨_,_,x⟩:=h;⟨_,x.cellSt⟩
def WgLive.cell1 {w:aE}(h:WgLive ty Wg w):∃v,w.cell? ⟨Wg,1,none⟩=some v:=let⟨_,_,x⟩:=h;⟨_,x.cellSm⟩
structure G6 (ty:aN)(Wg:Nat)(τ:cI)(F:aE->Prop):Prop where
 suf:∀w aJ,bX ty Wg τ w aJ->F w->F aJ
 wg:∀w a v,a.block=Wg->F w->F (w.setCell a v)
def G6.rely {F:aE->Prop}(k:G6 ty Wg τ F){w aJ:aE}(h:F w/\WgLive ty Wg w)(s:bX ty Wg τ w aJ):F aJ/\WgLive ty Wg aJ:=⟨k.suf _ _ s h.1,s.live h.2⟩
end
end Go.Mt
namespace Go.Mt
open Go.Conc Go.RowKit Go.Conc.Lib Go.ConcR.Gen
open Go.ConcN.Gen (WgLive.cell0 WgLive.cell1)
open Go.ConcN (st_flag st_waiters)
open Go.ConcR (KK wgBlock WgAt stA smA rd wr mk Payload DC0)
variable [zfv]{L:zfB}
section
variable {zX:Type}{P:bT}{Wg:Nat}{A:jN zX}{Fin:bF->aE->Prop}{F:aE->Prop}
 {b₀:dL} {a₀:uL} {ops₀:Array aX} {i₀:Nat} {rest₀:List Nat} {k₀:List dI} {cs:List dL} {τ:cI} {l nx:zX}
theorem addW (H:Xn P L)(rH:A.act l=.add nx)(kf:G6 L.tWg Wg τ F)
 (hT:∀w,F w->WgLive L.tWg Wg w->cG P L.tWg Wg A Fin true (.usr nx) 0 τ (G (b₀.at (a₀.put ((ops₀[i₀]?).bind (·.dst)) (.tuple #[])) (.inRegion ops₀ rest₀::k₀)) cs) w)
 (w:aE) (hF:F w/\WgLive L.tWg Wg w):
 cG P L.tWg Wg A Fin true (.usr l) 0 τ (G ((base L.add).at ⟨#[.pointer (some ⟨Wg,0,none⟩),.int .i64 1,aA,aA,aA,aA,aA,aA,aA,aA,aA,aA,aA,aA,aA,aA,aA,aA,aA,aA,aA,aA,aA,aA,aA,aA,aA,aA,aA,aA,aA,aA,aA,aA,aA,aA,aA,aA,aA,aA,aA,aA,aA,aA,aA,aA,aA,aA,aA,aA,aA,aA,aA,aA,aA,aA,aA,aA,aA,aA,aA,aA,aA,aA,aA,aA,aA,aA,aA,aA,aA,aA,aA,aA,aA,aA,aA,aA,aA,aA,aA,aA,aA,aA,aA,aA,aA,aA,aA,aA,aA,aA,aA,aA,aA,aA,aA,aA,aA,aA,aA,aA,aA,aA,aA,aA,aA,aA,aA,aA,aA,aA,aA,aA,aA,aA,aA],[]⟩ [.code (N7 L)]) (b₀.at a₀ (.inRegion ops₀ (i₀::rest₀)::k₀)::cs)) w:=by
 lib_facts
 simp only[N7,addFn,vB];refine cG.goes (ph:=.usr l) trivial 30 ?_
 iterate 12 (first|u_c dJ kf.rely hF|u_c dV kf.rely hF|u_reg kf.rely hF|u_c qD kf.rely hF|u_cond false kf.rely hF|u_cond true kf.rely hF|u_op kf.rely hF)
 refine qU (λaJ wX=>?_);replace hF:=kf.rely hF wX;clear wX;refine cG.mark (ph:=.usr l) trivial rfl (λeR s=>zar .disable aQ rfl rfl rW rfl H.f_disable (zn1 L) (zn9 L) (zjt L) (ziQ L)) trivial (λeR s=>?_);replace hF:=kf.rely hF s;clear s;rw[show oR 0 #[oX .disable]=1 from rfl]
 walk_nrm
 refine cG.goes (ph:=.usr l) trivial 60 ?_;u_c dJ kf.rely hF;u_reg kf.rely hF
 u_defer kf.rely hF
 iterate 8 (first|u_c dJ kf.rely hF|u_c dV kf.rely hF|u_reg kf.rely hF|u_op kf.rely hF)
 u_bub kf.rely hF
 iterate 11 (first|u_c dJ kf.rely hF|u_c dV kf.rely hF|u_reg kf.rely hF|u_c qD kf.rely hF|u_cond false kf.rely hF|u_op kf.rely hF)
 u_call H.f_uAdd (nm_uAdd L) uAddFn kf.rely hF
 iterate 10 (first|u_c dJ kf.rely hF|u_c dV kf.rely hF|u_reg kf.rely hF|u_op kf.rely hF)
 refine qU (λaJ wX=>?_);replace hF:=kf.rely hF wX;clear wX;refine cG.usr rfl ?_;unfold nH;rw[rH];intro eR mD v hv hw;replace hF:=kf.rely hF mD;clear mD;rcases zc5 v with rfl|zbP
 .replace hw:fU L.tWg Wg eR 0 0:=by simpa using hw
  have z:st (0+1) 0=.int .u64 KK:=by simp[st]
  rw[z];have e0:Tv.wrap (0+4294967296)=KK:=aH;refine⟨_,(X0 rfl rfl rW rfl H.f_addU64 (X4 L) (Yf L) (Ya L) .u64 (Vl L) rfl rfl hw.cellSt (hw.thaw 0)).trans (by rw[e0];rfl),rfl,?_⟩;replace hF:F (eR.setCell (stA Wg) (.int .u64 KK))/\WgLive L.tWg Wg (eR.setCell (stA Wg) (.int .u64 KK)):=⟨kf.wg _ _ _ rfl hF.1,⟨_,_,hw.setSt _⟩⟩;clear hw;simp only[KK] at hF⊢
  walk_nrm
  refine cG.goes (ph:=.usr nx) trivial 110 ?_
  iterate 3 (first|u_c dJ kf.rely hF|u_c xW kf.rely hF|u_op kf.rely hF)
  u_leave1 H.f_uAdd kf.rely hF
  iterate 48 (first|u_c dJ kf.rely hF|u_c dV kf.rely hF|u_reg kf.rely hF|u_c qD kf.rely hF|u_cond false kf.rely hF|u_cond true kf.rely hF|u_op kf.rely hF|u_skip kf.rely hF)
  u_conv H.underlying_tPU32 H.room_tU32 (WgLive.cell1 hF.2).choose_spec kf.rely hF
  refine qU (λJ4 Bp=>?_);replace hF:=kf.rely hF Bp;clear Bp;refine cG.mark (ph:=.usr nx) trivial rfl (λTn s=>zau .read aQ rfl rfl rW rfl H.f_raceRead (x_raceRead_n L) (x_raceRead_b L) (x_raceRead_x L) (x_raceRead_f L) (ad:=⟨Wg,1,none⟩) (by simp[wJ])) ⟨rfl,rfl⟩ (λTn s=>?_);replace hF:=kf.rely hF s;clear s;rw[show oR 1 #[oX (.read ⟨Wg,1,none⟩)]=1 from rfl]
  walk_nrm
  refine cG.goes (ph:=.usr nx) trivial 110 ?_
  iterate 39 (first|u_c dJ kf.rely hF|u_c dV kf.rely hF|u_reg kf.rely hF|u_c qD kf.rely hF|u_cond false kf.rely hF|u_cond true kf.rely hF|u_c xW kf.rely hF|u_op kf.rely hF|u_skip kf.rely hF)
  refine qU (λJ4 Bp=>?_);replace hF:=kf.rely hF Bp;clear Bp;refine cG.mark (ph:=.usr nx) trivial rfl (λTn s=>zte (v:=.tuple #[]) (evs:=#[oX .enable]) rfl H.f_enable (zfg L) (zgB L) (zeo L) (zex L) (by simp[zsh]) (by simp[oX]) (by simp[oX])) trivial (λTn s=>?_);replace hF:=kf.rely hF s;clear s;rw[show oR 1 #[oX .enable]=0 from rfl];refine cG.goes (ph:=.usr nx) trivial 2 ?_
  u_leave0 H.f_add kf.rely hF
  exact qU (λzcT Jl=>hT zcT (kf.rely hF Jl).1 (kf.rely hF Jl).2)
 .obtain⟨V,hV⟩:=aT ((v:Int)+1:Int)
  obtain⟨S,hS⟩:=aT (V*KK:Int);have eS:Tv.wrap ((v:Int)*KK+4294967296)=S:=by rw[zhY,hS,hV];simp only[KK];omega
  have z:st (v+1) 0=.int .u64 S:=by simp[st,hS,hV]
  rw[z];have a1:S/4294967296=V:=by rw[hS];simp only[KK];omega
  have b1:bits .and .u64 S 2147483648=0:=by rw[hS,hV];have:=st_flag (v+1) 0 aC aC;simpa[KK] using this
  have b2:bits .and .u64 S 2147483647=0:=by rw[hS,hV];have:=st_waiters (v+1) 0 aC aC;simpa[KK] using this
  have c1:zxL.wrap V=V:=by rw[zyo];omega
  have zaX:1<V:=aC;have zbU:V<2147483648:=aC;have q1:(V==1)=false:=pX;have q2:decide (V=1)=false:=decide_eq_false aC;have q3:decide (V<0)=false:=decide_eq_false aC;have q4:decide (0<V)=true:=decide_eq_true aC;have q5:(V==0)=false:=pX;have q6:decide (V=0)=false:=decide_eq_false aC;refine⟨_,(X0 rfl rfl rW rfl H.f_addU64 (X4 L) (Yf L) (Ya L) .u64 (Vl L) rfl rfl hw.cellSt (hw.thaw 0)).trans (by rw[eS];rfl),rfl,?_⟩;replace hF:F (eR.setCell (stA Wg) (.int .u64 S))/\WgLive L.tWg Wg (eR.setCell (stA Wg) (.int .u64 S)):=⟨kf.wg _ _ _ rfl hF.1,⟨_,_,hw.setSt _⟩⟩;clear hw hS hV eS z
  walk_nrm
  refine cG.goes (ph:=.usr nx) trivial 130 ?_
  iterate 3 (first|u_c dJ kf.rely hF|u_c xW kf.rely hF|u_op kf.rely hF)
  u_leave1 H.f_uAdd kf.rely hF
  iterate 13 (first|u_c dJ kf.rely hF|u_c dV kf.rely hF|u_reg kf.rely hF|u_op kf.rely hF|u_skip kf.rely hF)
  u_cnd false kf.rely hF
  iterate 29 (first|u_c dJ kf.rely hF|u_c dV kf.rely hF|u_reg kf.rely hF|u_c qD kf.rely hF|u_op kf.rely hF)
  u_cnd false kf.rely hF
  iterate 7 (first|u_c dJ kf.rely hF|u_c dV kf.rely hF|u_reg kf.rely hF|u_c qD kf.rely hF|u_op kf.rely hF)
  u_cnd false kf.rely hF
  iterate 17 (first|u_c dJ kf.rely hF|u_c dV kf.rely hF|u_reg kf.rely hF|u_c qD kf.rely hF|u_op kf.rely hF|u_skip kf.rely hF)
  u_cnd false kf.rely hF
  iterate 11 (first|u_c dJ kf.rely hF|u_c dV kf.rely hF|u_reg kf.rely hF|u_c qD kf.rely hF|u_op kf.rely hF|u_skip kf.rely hF)
  u_cnd true kf.rely hF
  u_c xW kf.rely hF;refine qU (λJ4 Bp=>?_);replace hF:=kf.rely hF Bp;clear Bp;refine cG.mark (ph:=.usr nx) trivial rfl (λTn s=>zte (v:=.tuple #[]) (evs:=#[oX .enable]) rfl H.f_enable (zfg L) (zgB L) (zeo L) (zex L) (by simp[zsh]) (by simp[oX]) (by simp[oX])) trivial (λTn s=>?_);replace hF:=kf.rely hF s;clear s;rw[show oR 1 #[oX .enable]=0 from rfl];refine cG.goes (ph:=.usr nx) trivial 2 ?_
  u_leave0 H.f_add kf.rely hF
  exact qU (λzcT Jl=>hT zcT (kf.rely hF Jl).1 (kf.rely hF Jl).2)
end
end Go.Mt
namespace Go.Mt
open Go.Conc Go.RowKit Go.Conc.Lib Go.ConcR.Gen
open Go.ConcN.Gen (WgLive.cell0 WgLive.cell1)
open Go.ConcN (st_flag st_waiters)
open Go.ConcR (KK wgBlock WgAt stA smA rd wr mk Payload DC0)
variable [zfv]{L:zfB}
section
variable {zX:Type}{P:bT}{Wg:Nat}{A:jN zX}{Fin:bF->aE->Prop}{F:aE->Prop}
 {b₀:dL} {a₀:uL} {ops₀:Array aX} {i₀:Nat} {rest₀:List Nat} {k₀:List dI} {cs:List dL} {τ:cI} {l nx:zX}
theorem addNegW (H:Xn P L)(rH:A.act l=.done)(kf:G6 L.tWg Wg τ F)(sX:∀w,F w->A.dep l w){qt:Nat}
 (hT:QuitsD P qt 0 (G (b₀.at (a₀.put ((ops₀[i₀]?).bind (·.dst)) (.tuple #[])) (.inRegion ops₀ rest₀::k₀)) cs)) (w:aE) (hF:F w/\WgLive L.tWg Wg w):
 cG P L.tWg Wg A Fin false (.usr l) 0 τ (G ((base L.add).at ⟨#[.pointer (some ⟨Wg,0,none⟩),.int .i64 (-1),aA,aA,aA,aA,aA,aA,aA,aA,aA,aA,aA,aA,aA,aA,aA,aA,aA,aA,aA,aA,aA,aA,aA,aA,aA,aA,aA,aA,aA,aA,aA,aA,aA,aA,aA,aA,aA,aA,aA,aA,aA,aA,aA,aA,aA,aA,aA,aA,aA,aA,aA,aA,aA,aA,aA,aA,aA,aA,aA,aA,aA,aA,aA,aA,aA,aA,aA,aA,aA,aA,aA,aA,aA,aA,aA,aA,aA,aA,aA,aA,aA,aA,aA,aA,aA,aA,aA,aA,aA,aA,aA,aA,aA,aA,aA,aA,aA,aA,aA,aA,aA,aA,aA,aA,aA,aA,aA,aA,aA,aA,aA,aA,aA,aA,aA],[]⟩ [.code (N7 L)]) (b₀.at a₀ (.inRegion ops₀ (i₀::rest₀)::k₀)::cs)) w:=by
 lib_facts
 simp only[N7,addFn,vB];refine cG.goes (ph:=.usr l) trivial 20 ?_
 iterate 11 (first|u_c dJ kf.rely hF|u_c dV kf.rely hF|u_reg kf.rely hF|u_cond true kf.rely hF|u_op kf.rely hF)
 u_conv H.underlying_tWgP H.room_tWg (WgLive.cell0 hF.2).choose_spec kf.rely hF
 refine qU (λaJ wX=>?_);replace hF:=kf.rely hF wX;clear wX;refine cG.usr rfl ?_;unfold nH;rw[rH];refine⟨rfl,rfl,λeR s=>sX _ (kf.rely hF s).1,λeR s=>?_⟩;replace hF:=kf.rely hF s;clear s;refine⟨_,zau .releaseMerge aQ rfl rfl rW rfl H.f_relMerge (x_relMerge_n L) (x_relMerge_b L) (x_relMerge_x L) (x_relMerge_f L) zl1,rfl,?_⟩;refine cG.idles (ph:=.rel l) id 10 ?_
 walk_nrm
 iterate 3 (first|u_c dJ kf.rely hF|u_c dV kf.rely hF|u_reg kf.rely hF)
 refine qU (λaJ wX=>?_);replace hF:=kf.rely hF wX;clear wX;refine cG.imark rfl (λeR s=>zar .disable aQ rfl rfl rW rfl H.f_disable (zn1 L) (zn9 L) (zjt L) (ziQ L)) rfl (λeR s=>?_);replace hF:=kf.rely hF s;clear s;rw[show oR 0 #[oX .disable]=1 from rfl];refine cG.idles (ph:=.rel l) id 50 ?_
 walk_nrm
 u_c dJ kf.rely hF;u_reg kf.rely hF
 u_defer kf.rely hF
 iterate 8 (first|u_c dJ kf.rely hF|u_c dV kf.rely hF|u_reg kf.rely hF|u_op kf.rely hF)
 u_bub kf.rely hF
 iterate 11 (first|u_c dJ kf.rely hF|u_c dV kf.rely hF|u_reg kf.rely hF|u_c qD kf.rely hF|u_cond false kf.rely hF|u_op kf.rely hF)
 u_call H.f_uAdd (nm_uAdd L) uAddFn kf.rely hF
 iterate 10 (first|u_c dJ kf.rely hF|u_c dV kf.rely hF|u_reg kf.rely hF|u_op kf.rely hF)
 refine qU (λzdS zf0=>?_);replace hF:=kf.rely hF zf0;clear zf0;refine cG.mk rfl (.inr ?_);intro aJ lO v wt cF hv hw;replace hF:=kf.rely hF lO;clear lO;have e0:Tv.wrap (KK+18446744069414584320)=0:=aH;have e1:Tv.wrap (KK+1+18446744069414584320)=1:=aH;rcases zc5 v with rfl|zbP<;>(obtain rfl|rfl:wt=0\/wt=1:=by omega)
 .
  replace hw:fU L.tWg Wg aJ KK 0:=by simpa using hw
  have z:Mt.st 0 0=.int .u64 0:=by simp[Mt.st]
  rw[z];refine⟨_,(X0 rfl rfl rW rfl H.f_addU64 (X4 L) (Yf L) (Ya L) .u64 (Vl L) rfl rfl hw.cellSt (hw.thaw 0)).trans (by rw[e0];rfl),rfl,aH,λhl=>absurd hl.2 aH,λ_=>⟨qt+89,?_⟩⟩;clear hw
  walk_nrm
  q_val (.int .u64 0)
  q_c dJ
  q_c xW
  q_leave1 H.f_uAdd
  q_val (.int .u64 0)
  q_c dJ
  q_c dV
  q_c dV
  q_reg
  q_val (.int .u64 0)
  q_val (.int .u64 0)
  q_val (.bool false)
  q_val (.bool false)
  q_skip
  q_skip
  q_val (.bool false)
  q_c dJ
  q_cond false
  q_c qD
  q_c dV
  q_reg
  q_val (.int .u64 0)
  q_val (.int .u64 0)
  q_val (.int .i32 0)
  q_val (.int .i32 0)
  q_c dJ
  q_c dV
  q_reg
  q_val (.int .u64 0)
  q_val (.int .u64 0)
  q_val (.int .u32 0)
  q_val (.int .u32 0)
  q_c dJ
  q_c dV
  q_c dV
  q_reg
  q_val (.bool true)
  q_val (.int .i64 (-1))
  q_val (.bool false)
  q_val (.bool false)
  q_val (.bool false)
  q_skip
  q_skip
  q_skip
  q_skip
  q_val (.bool false)
  q_c dJ
  q_cond false
  q_c qD
  q_c dV
  q_c dV
  q_reg
  q_val (.int .i32 0)
  q_val (.bool false)
  q_c dJ
  q_cond false
  q_c qD
  q_c dV
  q_c dV
  q_reg
  q_val (.int .u32 0)
  q_val (.bool false)
  q_val (.bool false)
  q_skip
  q_skip
  q_val (.bool false)
  q_val (.bool false)
  q_skip
  q_skip
  q_skip
  q_skip
  q_val (.bool false)
  q_c dJ
  q_cond false
  q_c qD
  q_c dV
  q_c dV
  q_reg
  q_val (.int .i32 0)
  q_val (.bool false)
  q_val (.bool false)
  q_val (.int .u32 0)
  q_val (.bool true)
  q_val (.bool true)
  q_c dJ
  q_cond true
  q_c xW
  q_enable
  q_leave0 H.f_add
  exact hT
 .
  replace hw:fU L.tWg Wg aJ (KK+1) 0:=by simpa using hw
  have z:Mt.st 0 1=.int .u64 1:=by simp[Mt.st]
  rw[z];refine⟨_,(X0 rfl rfl rW rfl H.f_addU64 (X4 L) (Yf L) (Ya L) .u64 (Vl L) rfl rfl hw.cellSt (hw.thaw 0)).trans (by rw[e1];rfl),rfl,aH,λ_=>?_,λhl=>absurd ⟨rfl,rfl⟩ hl⟩;replace hF:F (aJ.setCell (stA Wg) (.int .u64 1))/\WgLive L.tWg Wg (aJ.setCell (stA Wg) (.int .u64 1)):=⟨kf.wg _ _ _ rfl hF.1,⟨_,_,hw.setSt 1⟩⟩;clear hw;refine cG.idles (ph:=.l1 l) id 120 ?_
  walk_nrm
  iterate 3 (first|u_c dJ kf.rely hF|u_c xW kf.rely hF|u_op kf.rely hF)
  u_leave1 H.f_uAdd kf.rely hF
  iterate 89 (first|u_c dJ kf.rely hF|u_c dV kf.rely hF|u_reg kf.rely hF|u_c qD kf.rely hF|u_cond false kf.rely hF|u_op kf.rely hF|u_skip kf.rely hF)
  u_call H.f_uLoad (zmF L) uLoadFn kf.rely hF
  iterate 9 (first|u_c dJ kf.rely hF|u_c dV kf.rely hF|u_reg kf.rely hF|u_op kf.rely hF)
  refine qU (λeR Th=>?_);replace hF:=kf.rely hF Th;clear Th;refine cG.mk rfl (.inr ?_);intro J4 s hw;replace hF:=kf.rely hF s;clear s;refine⟨_,zd7 rfl rfl rW rfl H.f_loadU64 (zdU L) (zg9 L) (zf5 L) .u64 (zeK L) rfl hw.cellSt,rfl,aH,?_⟩;clear hw;refine cG.idles (ph:=.l2 l) id 40 ?_
  walk_nrm
  iterate 3 (first|u_c dJ kf.rely hF|u_c xW kf.rely hF|u_op kf.rely hF)
  u_leave1 H.f_uLoad kf.rely hF
  iterate 10 (first|u_c dJ kf.rely hF|u_c dV kf.rely hF|u_reg kf.rely hF|u_c qD kf.rely hF|u_cond false kf.rely hF|u_op kf.rely hF)
  u_call H.f_uStore (nm_uStore L) uStoreFn kf.rely hF
  iterate 5 (first|u_reg kf.rely hF|u_op kf.rely hF)
  refine qU (λeR Bp=>?_);replace hF:=kf.rely hF Bp;clear Bp;refine cG.mk rfl (.inr ?_);intro J4 s hw;replace hF:=kf.rely hF s;clear s;have z0:Mt.st 0 0=.int .u64 0:=by simp[Mt.st]
  rw[z0];refine⟨_,stepG_store_atomic rfl rfl rW rfl H.f_storeU64 (x_storeU64_n L) (x_storeU64_b L) (x_storeU64_x L) (x_storeU64_f L) rfl rfl hw.cellSt (hw.thaw 0),rfl,aH,?_⟩;replace hF:F (J4.setCell (stA Wg) (.int .u64 0))/\WgLive L.tWg Wg (J4.setCell (stA Wg) (.int .u64 0)):=⟨kf.wg _ _ _ rfl hF.1,⟨_,_,hw.setSt 0⟩⟩;clear hw z0;refine cG.idles (ph:=.l3 l) id 50 ?_
  walk_nrm
  u_c dJ kf.rely hF;u_c zeB kf.rely hF
  u_leave0 H.f_uStore kf.rely hF
  iterate 24 (first|u_c dJ kf.rely hF|u_c dV kf.rely hF|u_reg kf.rely hF|u_c qD kf.rely hF|u_cond false kf.rely hF|u_cond true kf.rely hF|u_c zg3 kf.rely hF|u_c ziH kf.rely hF|u_op kf.rely hF)
  refine qU (λeR zeX=>?_);clear zeX hF;refine cG.mk rfl (.inr ⟨mayWake_entry rfl rfl H.f_semrelease (zuX L),λTn s hw=>?_⟩);clear s;refine⟨_,(stepG_semrelease rfl rfl rW rfl H.f_semrelease (x_semrelease_n L) (zuX L) (x_semrelease_x L) (x_semrelease_f L) ziv hw.cellSm (hw.thaw 1)).trans Kg,rfl,aH,qt+19,?_⟩;clear hw
  walk_nrm
  q_c dJ
  q_c zig
  q_reg
  q_val (.int .u32 1)
  q_val (.int .u32 0)
  q_val (.int .u32 0)
  q_c dJ
  q_c znu
  q_c dV
  q_c dV
  q_reg
  q_val (.int .u32 0)
  q_val (.bool false)
  q_c dJ
  q_cond false
  q_exit
  q_c zeB
  q_enable
  q_leave0 H.f_add
  exact hT
 .
  replace hw:fU L.tWg Wg aJ (((v:Nat)+1)*KK+0) 0:=by simpa using hw
  have z:Mt.st v 0=.int .u64 ((v:Int)*KK+0):=by simp[Mt.st]
  rw[z];have gU:0<v:=aC;have eS:Tv.wrap (((v:Nat)+1)*KK+0+18446744069414584320)=(v:Int)*KK+0:=by rw[zhY];simp only[KK];omega
  obtain⟨S,hS⟩:=aT ((v:Int)*KK+0:Int);rw[<-hS] at eS⊢;have a1:S/4294967296=(v:Int):=by rw[hS];simp only[KK];omega
  have a2:0<=S/\S<9223372036854775808:=by rw[hS];simp only[KK];omega
  have b1:bits .and .u64 S 2147483648=0:=by rw[hS];have:=st_flag v 0 aC aC;simpa[KK] using this
  have b2:bits .and .u64 S 2147483647=0:=by rw[hS];have:=st_waiters v 0 aC aC;simpa[KK] using this
  clear hS z;refine⟨_,(X0 rfl rfl rW rfl H.f_addU64 (X4 L) (Yf L) (Ya L) .u64 (Vl L) rfl rfl hw.cellSt (hw.thaw 0)).trans (by rw[eS];rfl),rfl,aH,λhl=>absurd hl.1 aC,λ_=>⟨qt+89,?_⟩⟩;clear hw
  walk_nrm
  q_vn (.int .u64 S)
  q_c dJ
  q_c xW
  q_leave1 H.f_uAdd
  q_vn (.int .u64 S)
  q_c dJ
  q_c dV
  q_c dV
  q_reg
  q_vn (.int .u64 S)
  q_vn (.int .u64 0)
  q_vn (.bool false)
  q_vn (.bool false)
  q_skip
  q_skip
  q_vn (.bool false)
  q_c dJ
  q_cond false
  q_c qD
  q_c dV
  q_reg
  q_vn (.int .u64 S)
  q_vn (.int .u64 (v:Int))
  q_vn (.int .i32 (v:Int))
  q_vn (.int .i32 (v:Int))
  q_c dJ
  q_c dV
  q_reg
  q_vn (.int .u64 S)
  q_vn (.int .u64 0)
  q_vn (.int .u32 0)
  q_vn (.int .u32 0)
  q_c dJ
  q_c dV
  q_c dV
  q_reg
  q_vn (.bool true)
  q_vn (.int .i64 (-1))
  q_vn (.bool false)
  q_vn (.bool false)
  q_vn (.bool false)
  q_skip
  q_skip
  q_skip
  q_skip
  q_vn (.bool false)
  q_c dJ
  q_cond false
  q_c qD
  q_c dV
  q_c dV
  q_reg
  q_vn (.int .i32 (v:Int))
  q_vn (.bool false)
  q_c dJ
  q_cond false
  q_c qD
  q_c dV
  q_c dV
  q_reg
  q_vn (.int .u32 0)
  q_vn (.bool false)
  q_vn (.bool false)
  q_skip
  q_skip
  q_vn (.bool false)
  q_vn (.bool false)
  q_skip
  q_skip
  q_skip
  q_skip
  q_vn (.bool false)
  q_c dJ
  q_cond false
  q_c qD
  q_c dV
  q_c dV
  q_reg
  q_vn (.int .i32 (v:Int))
  q_vn (.bool true)
  q_vn (.bool true)
  q_skip
  q_skip
  q_vn (.bool true)
  q_c dJ
  q_cond true
  q_c xW
  q_enable
  q_leave0 H.f_add
  exact hT
 .
  replace hw:fU L.tWg Wg aJ (((v:Nat)+1)*KK+1) 0:=by simpa using hw
  have z:Mt.st v 1=.int .u64 ((v:Int)*KK+1):=by simp[Mt.st]
  rw[z];have gU:0<v:=aC;have eS:Tv.wrap (((v:Nat)+1)*KK+1+18446744069414584320)=(v:Int)*KK+1:=by rw[zhY];simp only[KK];omega
  obtain⟨S,hS⟩:=aT ((v:Int)*KK+1:Int);rw[<-hS] at eS⊢;have a1:S/4294967296=(v:Int):=by rw[hS];simp only[KK];omega
  have a2:0<=S/\S<9223372036854775808:=by rw[hS];simp only[KK];omega
  have b1:bits .and .u64 S 2147483648=0:=by rw[hS];have:=st_flag v 1 aC aC;simpa[KK] using this
  have b2:bits .and .u64 S 2147483647=1:=by rw[hS];have:=st_waiters v 1 aC aC;simpa[KK] using this
  clear hS z;refine⟨_,(X0 rfl rfl rW rfl H.f_addU64 (X4 L) (Yf L) (Ya L) .u64 (Vl L) rfl rfl hw.cellSt (hw.thaw 0)).trans (by rw[eS];rfl),rfl,aH,λhl=>absurd hl.1 aC,λ_=>⟨qt+89,?_⟩⟩;clear hw
  walk_nrm
  q_vn (.int .u64 S)
  q_c dJ
  q_c xW
  q_leave1 H.f_uAdd
  q_vn (.int .u64 S)
  q_c dJ
  q_c dV
  q_c dV
  q_reg
  q_vn (.int .u64 S)
  q_vn (.int .u64 0)
  q_vn (.bool false)
  q_vn (.bool false)
  q_skip
  q_skip
  q_vn (.bool false)
  q_c dJ
  q_cond false
  q_c qD
  q_c dV
  q_reg
  q_vn (.int .u64 S)
  q_vn (.int .u64 (v:Int))
  q_vn (.int .i32 (v:Int))
  q_vn (.int .i32 (v:Int))
  q_c dJ
  q_c dV
  q_reg
  q_vn (.int .u64 S)
  q_vn (.int .u64 1)
  q_vn (.int .u32 1)
  q_vn (.int .u32 1)
  q_c dJ
  q_c dV
  q_c dV
  q_reg
  q_vn (.bool true)
  q_vn (.int .i64 (-1))
  q_vn (.bool false)
  q_vn (.bool false)
  q_vn (.bool false)
  q_skip
  q_skip
  q_skip
  q_skip
  q_vn (.bool false)
  q_c dJ
  q_cond false
  q_c qD
  q_c dV
  q_c dV
  q_reg
  q_vn (.int .i32 (v:Int))
  q_vn (.bool false)
  q_c dJ
  q_cond false
  q_c qD
  q_c dV
  q_c dV
  q_reg
  q_vn (.int .u32 1)
  q_vn (.bool true)
  q_vn (.bool true)
  q_vn (.int .i64 (-1))
  q_vn (.bool false)
  q_vn (.bool false)
  q_vn (.bool false)
  q_skip
  q_skip
  q_skip
  q_skip
  q_vn (.bool false)
  q_c dJ
  q_cond false
  q_c qD
  q_c dV
  q_c dV
  q_reg
  q_vn (.int .i32 (v:Int))
  q_vn (.bool true)
  q_vn (.bool true)
  q_skip
  q_skip
  q_vn (.bool true)
  q_c dJ
  q_cond true
  q_c xW
  q_enable
  q_leave0 H.f_add
  exact hT
theorem doneW (H:Xn P L)(rH:A.act l=.done)(kf:G6 L.tWg Wg τ F)(sX:∀w,F w->A.dep l w){c:dL}{cs:List dL}{qt:Nat}
 (pJ:c.mode=.returning) (hT:QuitsD P qt 0 (G c cs)) (w:aE) (hF:F w/\WgLive L.tWg Wg w):
 cG P L.tWg Wg A Fin false (.usr l) 0 τ (G ((baseD L.done).at ⟨#[.pointer (some ⟨Wg,0,none⟩),aA,aA,aA],[]⟩ [.code (body_done L)]) (c::cs)) w:=by
 lib_facts
 have hA:=@addNegW _ L _ P Wg A Fin F;simp only[body_done,N7,doneFn,addFn,vB] at hA⊢;refine cG.goes (ph:=.usr l) trivial 23 ?_;u_reg kf.rely hF;u_op kf.rely hF
 u_in kf.rely hF
 refine goes_call rfl rfl rW rfl H.f_add (nm_add L) rfl ⟨by u_nil,?_⟩
 walk_nrmf addFn
 refine qU (λaJ wX=>?_);refine hA H rH kf sX (qt:=qt+3) ?_ _ (kf.rely hF wX)
 q_c dJ
 q_c zeB
 exact QuitsD.leaveD rfl rfl H.f_done rfl pJ hT
end
end Go.Mt
namespace Go.Mt
open Go.Conc Go.RowKit Go.Conc.Lib Go.ConcR.Gen
open Go.ConcN.Gen (WgLive.cell0 WgLive.cell1 AnchWN)
open Go.ConcN (st_flag st_waiters)
open Go.ConcR (KK wgBlock WgAt stA smA rd wr mk Payload DC0)
variable [zfv]{L:zfB}
section
variable {zX:Type}{P:bT}{Wg:Nat}{A:jN zX}{Fin:bF->aE->Prop}{F:aE->Prop}
 {b₀:dL} {a₀:uL} {ops₀:Array aX} {i₀:Nat} {rest₀:List Nat} {k₀:List dI} {cs:List dL} {τ:cI} {l nx:zX}
def AtX (W w:aE):Prop:=∃d,w=W.at d
theorem x9 {W w aJ:aE}(h:AtX W w)(r:AtRel w aJ):AtX W aJ:=by
 obtain⟨d,rfl⟩:=h;obtain⟨d',rfl⟩:=r;exact⟨d',rfl⟩
def zds (A:jN zX)(w:aE):Prop:=∃q ch,A.Inv q ch/\q 0=.waits/\(∀i l,q i≠ .run l)/\∀i l,q i=.over l->A.dep l w
theorem zp3 (H:Xn P L)(kf:G6 L.tWg Wg τ F)(Ms:∀(n:Nat) g w,Goes P true AtRel DC0 Fin n g w->Fin g w)
 (hT:∀w,F w->WgLive L.tWg Wg w->zds A w->∀d,Fin (G (b₀.at (a₀.put ((ops₀[i₀]?).bind (·.dst)) (.tuple #[])) (.inRegion ops₀ rest₀::k₀)) cs) (w.at d))
 {ok:Nat->Prop} {ph:Ph zX} (hl:ph.live)
 (x7:∀g w,g.status=.running->(∀aJ,bX L.tWg Wg τ w aJ->∀v:Nat,ok v->v<2147483648->fU L.tWg Wg aJ (v*KK) 0->∃g',stepG P true g aJ=.go g' aJ #[rd (stA Wg)]/\g'.status=.running/\
  (v=0->cG P L.tWg Wg A Fin true .w5 1 τ g' aJ)/\(v≠0->cG P L.tWg Wg A Fin true (.w2 v) 1 τ g' aJ))->cG P L.tWg Wg A Fin true ph 1 τ g w)
 (hC:∀v,ok v->∀g w,AnchWN L F Wg (b₀.at a₀ (.inRegion ops₀ (i₀::rest₀)::k₀)) cs g w->cG P L.tWg Wg A Fin true (.w1 v) 1 τ g w)
 (g:bF) (w:aE) (h:AnchWN L F Wg (b₀.at a₀ (.inRegion ops₀ (i₀::rest₀)::k₀)) cs g w):cG P L.tWg Wg A Fin true ph 1 τ g w:=by
 lib_facts
 obtain⟨T,rfl,zIa,t0,hF⟩:=h;obtain⟨v0,v1,v2,v3,v4,v5,v6,v7,v8,v9,v10,v11,v12,zJp,zLz,zJu,zKt,zKn,zK4,zJE,v20,v21,zLu,zMd,v24,zJO,zLR,zMj,v28,zLP,v30,v31,zKY,zK1,zJ5,zKj,zLe,v37,zL8,zMr,v40,zKf,zMg,zMm,zLt,zL4,v46,zKJ,zJ4,v49,zLk,v51,zL9,v53,zMi,zJR,zKs,zKZ,zK6,v59,zLJ,zLf,zLU,zJw,zJU,zLI,zKd,zJF,zL6,zLm,v70,zJl,v72,zKS,zJQ,v75,v76,zJ8,zMf,zKM,v80,zKI,zLV,zKV,rfl⟩:=array84 T zIa;simp only[List.getElem?_toArray,List.getElem?_cons_zero,jS] at t0;subst t0;refine cG.goes hl 30 ?_;simp only[L7,zim,waitFn,vB]
 iterate 6 (first|u_c dV kf.rely hF|u_reg kf.rely hF|u_c zg3 kf.rely hF|u_op kf.rely hF)
 u_call H.f_uLoad (zmF L) uLoadFn kf.rely hF
 iterate 9 (first|u_c dJ kf.rely hF|u_c dV kf.rely hF|u_reg kf.rely hF|u_op kf.rely hF)
 refine qU (λzdS wX=>?_);replace hF:=kf.rely hF wX;clear wX;refine x7 _ _ rfl ?_;intro aJ s v bM hv hw;replace hF:=kf.rely hF s;clear s;rcases zc5 v with rfl|zbP
 .
  replace hw:fU L.tWg Wg aJ 0 0:=by simpa using hw
  refine⟨_,zd7 (v:=0) rfl rfl rW rfl H.f_loadU64 (zdU L) (zg9 L) (zf5 L) .u64 (zeK L) rfl hw.cellSt,rfl,λ_=>?_,λh=>absurd rfl h⟩;clear hw;refine cG.goes (ph:=.w5) trivial 60 ?_
  walk_nrm
  iterate 3 (first|u_c dJ kf.rely hF|u_c xW kf.rely hF|u_op kf.rely hF)
  u_leave1 H.f_uLoad kf.rely hF
  iterate 27 (first|u_c dJ kf.rely hF|u_c dV kf.rely hF|u_reg kf.rely hF|u_cond true kf.rely hF|u_op kf.rely hF)
  refine qU (λzcT Jl=>?_);replace hF:=kf.rely hF Jl;clear Jl;refine cG.mark (ph:=.w5) trivial rfl (λeR s=>zar .enable aQ rfl rfl rW rfl H.f_enable (zfg L) (zgB L) (zeo L) (zex L)) trivial (λeR s=>?_);replace hF:=kf.rely hF s;clear s;rw[show oR 1 #[oX .enable]=0 from rfl];refine cG.goes (ph:=.w5) trivial 30 ?_
  walk_nrm
  iterate 3 (first|u_c dJ kf.rely hF|u_reg kf.rely hF|u_op kf.rely hF)
  u_conv H.underlying_tWgP H.room_tWg (WgLive.cell0 hF.2).choose_spec kf.rely hF
  refine qU (λzyU zax=>?_);replace hF:=kf.rely hF zax;clear zax;refine cG.mk rfl (.inr ⟨rfl,λRt s hD=>?_⟩);replace hF:=kf.rely hF s;clear s;have hX:AtX Rt Rt:=⟨Rt.drawn,rfl⟩;refine⟨_,zau .acquire aQ rfl rfl rW rfl H.f_acquire (x_acquire_n L) (x_acquire_b L) (x_acquire_x L) (x_acquire_f L) zl1,rfl,?_⟩;refine Ms 30 _ _ ?_
  walk_nrm
  iterate 19 (first|u_c dJ x9 hX|u_c dV x9 hX|u_reg x9 hX|u_c qD x9 hX|u_cond false x9 hX|u_c xW x9 hX|u_op x9 hX|u_skip x9 hX)
  u_leave0 H.f_wait x9 hX
  exact qU (λzAl h=>by obtain⟨zoh,rfl⟩:=x9 hX h;exact hT _ hF.1 hF.2 hD zoh)
 .
  obtain⟨S,hS⟩:∃S:Int,(v:Int)*KK=S:=⟨_,rfl⟩;have a1:S/4294967296=(v:Int):=by rw[<-hS];simp only[KK];omega
  have b1:bits .and .u64 S 2147483648=0:=by rw[<-hS];have:=st_flag v 0 aC aC;simpa[KK] using this
  have b2:bits .and .u64 S 2147483647=0:=by rw[<-hS];have:=st_waiters v 0 aC aC;simpa[KK] using this
  have c1:zxL.wrap (v:Int)=(v:Int):=by rw[zyo];omega
  have w1:Tv.wrap (S+1)=S+1:=by rw[zhY,<-hS];simp only[KK];omega
  have q3:decide ((v:Int)<0)=false:=decide_eq_false aC;have q4:decide (0<(v:Int))=true:=decide_eq_true aC;have q5:((v:Int)==0)=false:=pX;have q6:decide ((v:Int)=0)=false:=decide_eq_false aC;rw[hS] at hw;refine⟨_,zd7 (v:=S) rfl rfl rW rfl H.f_loadU64 (zdU L) (zg9 L) (zf5 L) .u64 (zeK L) rfl hw.cellSt,rfl,λh0=>absurd h0 aC,λ_=>?_⟩;clear hw;refine cG.goes (ph:=.w2 v) trivial 60 ?_
  walk_nrm
  iterate 3 (first|u_c dJ kf.rely hF|u_c xW kf.rely hF|u_op kf.rely hF)
  u_leave1 H.f_uLoad kf.rely hF
  iterate 22 (first|u_c dJ kf.rely hF|u_c dV kf.rely hF|u_reg kf.rely hF|u_op kf.rely hF)
  u_cnd false kf.rely hF
  iterate 9 (first|u_c dV kf.rely hF|u_reg kf.rely hF|u_c qD kf.rely hF|u_op kf.rely hF)
  u_call H.f_uCas (nm_uCas L) uCasFn kf.rely hF
  iterate 11 (first|u_c dJ kf.rely hF|u_c dV kf.rely hF|u_reg kf.rely hF|u_op kf.rely hF)
  refine qU (λzdS Th=>?_);replace hF:=kf.rely hF Th;clear Th;refine cG.mk rfl (.inr ?_);intro eR s v' Me hw;replace hF:=kf.rely hF s;clear s;refine⟨λe=>?_,λe=>?_⟩
  .
   subst e;have z:Mt.st v' 1=.int .u64 (S+1):=by simp[Mt.st,hS]
   rw[hS] at hw;rw[z];refine⟨_,(stepG_cas_hit (v:=S) (n:=S+1) rfl rfl rW rfl H.f_casU64 (x_casU64_n L) (x_casU64_b L) (x_casU64_x L) .u64 (x_casU64_f L) rfl rfl rfl hw.cellSt (hw.thaw 0)).trans Kg,rfl,?_⟩;refine cG.goes (ph:=.w3) trivial 70 ?_;replace hF:F (eR.setCell (stA Wg) (.int .u64 (S+1)))/\WgLive L.tWg Wg (eR.setCell (stA Wg) (.int .u64 (S+1))):=⟨kf.wg _ _ _ rfl hF.1,⟨_,_,hw.setSt _⟩⟩;clear hw
   walk_nrm
   iterate 3 (first|u_c dJ kf.rely hF|u_c xW kf.rely hF|u_op kf.rely hF)
   u_leave1 H.f_uCas kf.rely hF
   iterate 15 (first|u_c dJ kf.rely hF|u_c dV kf.rely hF|u_reg kf.rely hF|u_cond true kf.rely hF|u_op kf.rely hF)
   u_conv H.underlying_tPU32 H.room_tU32 (WgLive.cell1 hF.2).choose_spec kf.rely hF
   refine qU (λzJz zop=>?_);replace hF:=kf.rely hF zop;clear zop;refine cG.mark (ph:=.w3) trivial rfl (λeR s=>zau .write aQ rfl rfl rW rfl H.f_raceWrite (x_raceWrite_n L) (x_raceWrite_b L) (x_raceWrite_x L) (x_raceWrite_f L) (ad:=⟨Wg,1,none⟩) (by simp[wJ])) ⟨rfl,rfl⟩ (λeR s=>?_);replace hF:=kf.rely hF s;clear s;rw[show oR 1 #[oX (.write ⟨Wg,1,none⟩)]=1 from rfl]
   walk_nrm
   refine cG.goes (ph:=.w3) trivial 70 ?_
   iterate 23 (first|u_c dJ kf.rely hF|u_c dV kf.rely hF|u_reg kf.rely hF|u_c qD kf.rely hF|u_cond false kf.rely hF|u_op kf.rely hF|u_skip kf.rely hF)
   refine qU (λzdS Bp=>?_);replace hF:=kf.rely hF Bp;clear Bp;refine cG.mk rfl (.inr ⟨rfl,λJ4 s=>?_⟩);replace hF:=kf.rely hF s;clear s;refine⟨λ⟨st,hw⟩=>stepG_semacquire_wait rfl rfl rfl H.f_semacquire (zpt L) (zwN L) (zsQ L) (zq9 L) ziv hw.cellSm,λhf=>?_⟩;refine⟨_,(stepG_semacquire (n:=1) rfl rfl rW rfl H.f_semacquire (zpt L) (zwN L) (zsQ L) (zq9 L) ziv hf.cellSm rW (hf.thaw 1)).trans Kg,rfl,?_⟩;refine cG.goes (ph:=.w4) trivial 60 ?_;replace hF:F (J4.setCell (smA Wg) (.int .u32 0))/\WgLive L.tWg Wg (J4.setCell (smA Wg) (.int .u32 0)):=⟨kf.wg _ _ _ rfl hF.1,⟨_,_,hf.setSm 0⟩⟩;clear hf
   walk_nrm
   iterate 6 (first|u_c dJ kf.rely hF|u_c dV kf.rely hF|u_reg kf.rely hF|u_op kf.rely hF)
   u_call H.f_uLoad (zmF L) uLoadFn kf.rely hF
   iterate 9 (first|u_c dJ kf.rely hF|u_c dV kf.rely hF|u_reg kf.rely hF|u_op kf.rely hF)
   refine qU (λzdS zeX=>?_);replace hF:=kf.rely hF zeX;clear zeX;refine cG.mk rfl (.inr λTn s hw=>?_);replace hF:=kf.rely hF s;clear s;refine⟨_,zd7 (v:=0) rfl rfl rW rfl H.f_loadU64 (zdU L) (zg9 L) (zf5 L) .u64 (zeK L) rfl hw.cellSt,rfl,?_⟩;clear hw;refine cG.goes (ph:=.w5) trivial 60 ?_
   walk_nrm
   iterate 3 (first|u_c dJ kf.rely hF|u_c xW kf.rely hF|u_op kf.rely hF)
   u_leave1 H.f_uLoad kf.rely hF
   iterate 7 (first|u_c dJ kf.rely hF|u_c dV kf.rely hF|u_reg kf.rely hF|u_cond true kf.rely hF|u_op kf.rely hF)
   refine qU (λzcT Jl=>?_);replace hF:=kf.rely hF Jl;clear Jl;refine cG.mark (ph:=.w5) trivial rfl (λeR s=>zar .enable aQ rfl rfl rW rfl H.f_enable (zfg L) (zgB L) (zeo L) (zex L)) trivial (λeR s=>?_);replace hF:=kf.rely hF s;clear s;rw[show oR 1 #[oX .enable]=0 from rfl];refine cG.goes (ph:=.w5) trivial 30 ?_
   walk_nrm
   iterate 3 (first|u_c dJ kf.rely hF|u_reg kf.rely hF|u_op kf.rely hF)
   u_conv H.underlying_tWgP H.room_tWg (WgLive.cell0 hF.2).choose_spec kf.rely hF
   refine qU (λzyU zax=>?_);replace hF:=kf.rely hF zax;clear zax;refine cG.mk rfl (.inr ⟨rfl,λRt s hD=>?_⟩);replace hF:=kf.rely hF s;clear s;have hX:AtX Rt Rt:=⟨Rt.drawn,rfl⟩;refine⟨_,zau .acquire aQ rfl rfl rW rfl H.f_acquire (x_acquire_n L) (x_acquire_b L) (x_acquire_x L) (x_acquire_f L) zl1,rfl,?_⟩;refine Ms 30 _ _ ?_
   walk_nrm
   iterate 9 (first|u_c dJ x9 hX|u_c dV x9 hX|u_reg x9 hX|u_c qD x9 hX|u_cond false x9 hX|u_c xW x9 hX|u_op x9 hX)
   u_leave0 H.f_wait x9 hX
   exact qU (λzAl h=>by obtain⟨zoh,rfl⟩:=x9 hX h;exact hT _ hF.1 hF.2 hD zoh)
  .
   refine⟨_,stepG_cas_miss (v:=(v':Int)*KK) (old:=S) (n:=S+1) rfl rfl rW rfl H.f_casU64 (x_casU64_n L) (x_casU64_b L) (x_casU64_x L) .u64 (x_casU64_f L) rfl rfl rfl hw.cellSt (hw.thaw 0) (by rw[<-hS];simp only[KK];omega),rfl,?_⟩;clear hw;refine cG.goes (ph:=.w1 v) trivial 20 ?_
   walk_nrm
   iterate 3 (first|u_c dJ kf.rely hF|u_c xW kf.rely hF|u_op kf.rely hF)
   u_leave1 H.f_uCas kf.rely hF
   iterate 5 (first|u_c dJ kf.rely hF|u_c qD kf.rely hF|u_cond false kf.rely hF|u_c znu kf.rely hF|u_c zig kf.rely hF)
   exact qU (λJ4 Bp=>hC v bM _ _ ⟨_,rfl,aQ,aQ,kf.rely hF Bp⟩)
theorem zFa (H:Xn P L)(kf:G6 L.tWg Wg τ F)(Ms:∀(n:Nat) g w,Goes P true AtRel DC0 Fin n g w->Fin g w)
 (hT:∀w,F w->WgLive L.tWg Wg w->zds A w->∀d,Fin (G (b₀.at (a₀.put ((ops₀[i₀]?).bind (·.dst)) (.tuple #[])) (.inRegion ops₀ rest₀::k₀)) cs) (w.at d)):
 ∀b g w,AnchWN L F Wg (b₀.at a₀ (.inRegion ops₀ (i₀::rest₀)::k₀)) cs g w->cG P L.tWg Wg A Fin true (.w1 b) 1 τ g w:=by
 intro b
 induction b using zjm with
 |ind b ih=>exact zp3 H kf Ms hT (ok:=λv=>v<b) trivial (λg w hr h=>cG.mk hr (.inr h)) ih
theorem Sw (H:Xn P L)(rH:A.act l=.wait)(kf:G6 L.tWg Wg τ F)(Ms:∀(n:Nat) g w,Goes P true AtRel DC0 Fin n g w->Fin g w)
 (hT:∀w,F w->WgLive L.tWg Wg w->zds A w->∀d,Fin (G (b₀.at (a₀.put ((ops₀[i₀]?).bind (·.dst)) (.tuple #[])) (.inRegion ops₀ rest₀::k₀)) cs) (w.at d))
 (w:aE) (hF:F w/\WgLive L.tWg Wg w):cG P L.tWg Wg A Fin true (.usr l) 0 τ (G ((base L.wait).at ⟨#[.pointer (some ⟨Wg,0,none⟩),aA,aA,aA,aA,aA,aA,aA,aA,aA,aA,aA,aA,aA,aA,aA,aA,aA,aA,aA,aA,aA,aA,aA,aA,aA,aA,aA,aA,aA,aA,aA,aA,aA,aA,aA,aA,aA,aA,aA,aA,aA,aA,aA,aA,aA,aA,aA,aA,aA,aA,aA,aA,aA,aA,aA,aA,aA,aA,aA,aA,aA,aA,aA,aA,aA,aA,aA,aA,aA,aA,aA,aA,aA,aA,aA,aA,aA,aA,aA,aA,aA,aA,aA],[]⟩ [.code (zim L)]) (b₀.at a₀ (.inRegion ops₀ (i₀::rest₀)::k₀)::cs)) w:=by
 have aY:∀g w,AnchWN L F Wg (b₀.at a₀ (.inRegion ops₀ (i₀::rest₀)::k₀)) cs g w->cG P L.tWg Wg A Fin true (.usr l) 1 τ g w:=λg w h=>by
  refine zp3 H kf Ms hT (ok:=λ_=>True) (ph:=.usr l) trivial (λg w hr h=>cG.usr hr ?_) (λv _=>zFa H kf Ms hT v) g w h;unfold nH;rw[rH];exact λaJ s v hv hw=>h aJ s v trivial hv hw
 lib_facts
 simp only[zim,waitFn,vB];refine cG.goes (ph:=.usr l) trivial 3 ?_
 iterate 3 (first|u_c dV kf.rely hF|u_reg kf.rely hF|u_cond true kf.rely hF)
 refine qU (λaJ wX=>?_);replace hF:=kf.rely hF wX;clear wX;refine cG.mark (ph:=.usr l) trivial rfl (λeR s=>zar .disable aQ rfl rfl rW rfl H.f_disable (zn1 L) (zn9 L) (zjt L) (ziQ L)) trivial (λeR s=>?_);replace hF:=kf.rely hF s;clear s;rw[show oR 0 #[oX .disable]=1 from rfl]
 walk_nrm
 refine cG.goes (ph:=.usr l) trivial 3 ?_
 iterate 3 (first|u_c dJ kf.rely hF|u_c zg3 kf.rely hF|u_c ziH kf.rely hF)
 exact qU (λJ4 Th=>aY _ _ ⟨_,rfl,aQ,aQ,kf.rely hF Th⟩)
end
end Go.Mt
namespace Go.Mt
open Go.Conc Go.Tt
def Jw:Nat->aF->Bool
 |0,_=>false
 |n+1,v=>match v with
  | .bool _| .int _ _| .string _| .nilFunc| .nilIface| .pointer none| .slice none _ _| .map none| .chan none=>true
  | .agg xs| .tuple xs=>xs.all (Jw n)
  |_=>false
variable {S:aO->Prop}
theorem zzp {K R:Pr}:∀(n:Nat) (v:aF),Jw n v=true->VR S K R v v:=by
 intro n
 induction n with
 |zero=>intro v h;cases h
 |succ n ih=>
  intro v h;have arr:∀xs:Array aF,xs.all (Jw n)=true->bO S K R xs xs:=λxs hx=>⟨rfl,λi a b h1 h2=>by
   rw[h1] at h2;obtain rfl:=cH h2;rw[zl0] at hx;exact ih a (hx a (zdI h1))⟩
  cases v with
  |bool b=>exact .bool b
  |int k m=>exact .int k m
  |string s=>exact .string s
  |nilFunc=>exact .nilFunc
  |nilIface=>exact .nilIface
  |pointer a=>cases a with|none=>exact .pointer .none|some a=>simp[Jw] at h
  |slice a m c=>cases a with|none=>exact .slice .none|some a=>simp[Jw] at h
  |map a=>cases a with|none=>exact .map .none|some a=>simp[Jw] at h
  |chan a=>cases a with|none=>exact .chan .none|some a=>simp[Jw] at h
  |agg xs=>exact .agg rfl (arr xs (by simpa[Jw] using h)).2
  |tuple xs=>exact .tuple rfl (arr xs (by simpa[Jw] using h)).2
  |_=>simp[Jw] at h
def vG (v:aF):Prop:=∀(S:aO->Prop) (K R:Pr),VR S K R v v
variable {z:aF}
theorem vG.cells (h:vG z):∀x∈z.cells,vG x:=λx hx S K R=>by
 obtain⟨i,hi,rfl⟩:=zyE.1 hx;exact(h S K R).cells.2 i _ _ (pK hi) (pK hi)
theorem vG.agg {xs:Array aF}(h:∀x∈xs,vG x):vG (.agg xs):=λS K R=>.agg rfl λi v v' h1 h2=>by
 rw[h1] at h2;obtain rfl:=cH h2;exact h v (zdI h1) S K R
def zog (info:aN->Option xO):Prop:=∀t i z,info t=some i->i.zero=some z->vG z
theorem zCC {α β:Type}{P:β->Prop}{f:α->β->Option (ForInStep β)}(hf:∀a b r,P b->f a b=some r->P (match r with| .yield b=>b| .done b=>b)):∀(l:List α) (b b':β),P b->forIn l b f=some b'->P b':=by
 intro l
 induction l with
 |nil=>simp
 |cons a l ih=>
  intro b b' hb h;simp only[List.forIn_cons,bind,Ek] at h;obtain⟨r,h1,h2⟩:=h;have:=hf a b r hb h1
  cases r with
  |yield c=>grind
  |done c=>simp_all
variable {info:aN->Option xO}{fs:Array Field}{i:xO}
theorem zFZ (hI:zog info)(h:zon info fs=some i)(hz:i.zero=some z):vG z:=by
 unfold zon at h;simp only[bind,pure,Ek] at h;obtain⟨a,h1,h2⟩:=h;rw[<-Array.forIn_toList] at h1;have key:∀xs,a.2.2.2.2.2.2.2.1=some xs->∀x∈xs,vG x:=by
  refine zCC (P:=λs=>∀xs,s.2.2.2.2.2.2.2.1=some xs->∀x∈xs,vG x) (λf s r hP h=>?_) _ _ _ (λxs hx=>by simp only[jS] at hx;subst hx;simp) h1;simp only[Ek] at h;obtain⟨j,hj,h⟩:=h;have key:∀xs,(s.2.2.2.2.2.2.2.1.bind λa=>j.zero.bind λb=>some (a++b.cells))=some xs->∀x∈xs,vG x:=by
   intro xs hx;simp only[Ek,jS] at hx;obtain⟨u,h3,v,h4,rfl⟩:=hx;intro x hm;rcases Array.mem_append.1 hm with hm|hm
   .exact hP u h3 x hm
   .exact(hI _ j v hj h4).cells x hm
  repeat' (first|split at h|(simp only[Ek] at h;obtain⟨_,h0,h⟩:=h))
  all_goals first
   |(cases h0;done)
   |(simp only[jS] at h;subst h;exact key)
   |(simp only[jS] at h;subst h;intro xs hx;cases hx)
 split at h2<;>(simp only[jS] at h2;subst h2;simp only at hz;obtain⟨xs,h3,rfl⟩:=Aa.1 hz;exact vG.agg (key xs h3))
theorem zBX (hI:zog info){d:TypeDesc}(h:zrF info d=some i)(hz:i.zero=some z):vG z:=by
 have hw:∀(d:TypeDesc) (s:String) (v:aF) (b:Bool) (n:Nat),vG v->∀z,(zrN d s v b n).zero=some z->vG z:=λd s v b n hv z hz=>by
  simp only[zrN,jS] at hz;exact hz▸hv
 have p0:vG (.pointer none):=λ_ _ _=>.pointer .none;have s0:vG (.slice none 0 0):=λ_ _ _=>.slice .none;have m0:vG (.map none):=λ_ _ _=>.map .none;have c0:vG (.chan none):=λ_ _ _=>.chan .none;have f0:vG .nilFunc:=λ_ _ _=>.nilFunc;unfold zrF at h
 cases d with
 |pointer e=>
  simp only[bind,pure,Ek] at h;obtain⟨j,_,h⟩:=h;split at h
  .cases h
  .split at h
   .cases h
   .simp only[Ek,jS] at h
    obtain⟨_,_,rfl⟩:=h;exact hw _ _ _ _ _ p0 z hz
  .simp only[Ek,jS] at h
   obtain⟨_,_,rfl⟩:=h;exact hw _ _ _ _ _ p0 z hz
 |slice e=>
  simp only[bind,pure,Ek,jS] at h;obtain⟨_,_,_,_,rfl⟩:=h;exact hw _ _ _ _ _ s0 z hz
 |map k e=>
  simp only[bind,pure,Ek,jS] at h;obtain⟨_,_,_,_,_,_,_,_,rfl⟩:=h;exact hw _ _ _ _ _ m0 z hz
 |chan dir e=>
  simp only[bind,pure,Ek,jS] at h;obtain⟨_,_,_,_,rfl⟩:=h;exact hw _ _ _ _ _ c0 z hz
 |func ps rs v=>
  simp only[bind,pure,Ek,jS] at h;obtain⟨_,_,rfl⟩:=h;exact hw _ _ _ _ _ f0 z hz
 |array n e=>
  simp only[bind,pure,Ek,jS] at h;obtain⟨j,hj,_,_,rfl⟩:=h;simp only at hz;split at hz
  .cases hz
  .split at hz
   .simp only[jS] at hz;subst hz;exact vG.agg aQ
   .obtain⟨u,hu,rfl⟩:=Aa.1 hz
    refine vG.agg λx hx=>?_;simp only[Array.mem_flatten,Array.mem_replicate] at hx;obtain⟨xs,⟨_,rfl⟩,hx⟩:=hx;exact(hI _ j u hj hu).cells x hx
 |struct fs=>exact zFZ hI h hz
 |_=>cases h
def Re (p:bT):Bool:=(fV p.types.size).all λt=>match p.info? t with|some i=>(match i.zero with|some z=>Jw 12 z|none=>true)|none=>true
def zj6:List ResultVar->Bool
 |[]=>true
 |[_]=>true
 |[_,_]=>true
 |[_,_,_]=>true
 |[_,_,_,_]=>true
 |_=>false
variable {l:List ResultVar}
theorem zEg (h:zj6 l=true):Dq l:=by
 unfold zj6 at h;split at h
 .exact .inl rfl
 .exact .inr (.inl ⟨_,rfl⟩)
 .exact .inr (.inr (.inl ⟨_,_,rfl⟩))
 .exact .inr (.inr (.inr (.inl ⟨_,_,_,rfl⟩)))
 .exact .inr (.inr (.inr (.inr ⟨_,_,_,_,rfl⟩)))
 .cases h
def fnFit (p:bT)(fs gs:aO->Bool)(f:aO):Bool:=
 match p.funcs[f]? with
 |some fn=>!(fn.name== "runtime.NumGoroutine")&&zj6 fn.results.toList&&(match fn.body with|some c=>qG p ⟨fs,gs,true⟩ c|none=>false)
 |none=>false
variable {p:bT}{f:aO}
theorem fnFit_ok {fs gs:aO->Bool}(h:fnFit p fs gs f=true):∃fn c,p.funcs[f]? =some fn/\(fn.name== "runtime.NumGoroutine")=false/\fn.body=some c/\qG p ⟨fs,gs,true⟩ c=true/\Dq fn.results.toList:=by
 unfold fnFit at h
 cases hf:p.funcs[f]? with
 |none=>simp_all
 |some fn=>
  rw[hf] at h;simp only[iT,ztm] at h
  cases hb:fn.body with
  |none=>simp_all
  |some c=>rw[hb] at h;exact⟨fn,c,rfl,h.1.1,hb,h.2,zEg h.1.2⟩
variable {t:aN}
theorem zxG (h:Re p=true)(ht:t<p.types.size)(hi:p.types[t]? =some i)(hz:i.zero=some z):vG z:=by
 unfold Re at h;rw[vA] at h;have:=h t (Da.2 ht);have e:p.info? t=some i:=by show zjq p.toTables t=some i;unfold zjq;rw[if_pos ht];exact hi
 rw[e] at this;simp only[hz] at this;exact λS K R=>zzp 12 z this
theorem zIq (h:Re p=true):∀n,zog (zvt p.toTables n):=by
 intro n
 induction n with
 |zero=>intro t i z hi;cases hi
 |succ n ih=>
  intro t i z hi hz;unfold zvt at hi;split at hi
  .next ht=>exact zxG h ht hi hz
  .obtain⟨d,_,hd⟩:=Ek.1 hi
   exact zBX ih hd hz
theorem zu5 (h:Re p=true){K R:Pr}(hi:p.info? t=some i)(hz:i.zero=some z):VR S K R z z:=by
 have kN:=hi;unfold zjq at kN;split at kN
 .next ht=>exact zxG h ht kN hz S K R
 .exact zIq h Made.depth t i z kN hz S K R
def oA (l:List Nat)(f:aO):Bool:=l.contains f
theorem Qg {l:List Nat}(h:oA l f=true):f∈l:=by simpa[oA] using h
theorem zoW {gl fl:List Nat}(hz:Re p=true)(h:gl.all (fnFit p (oA fl) (oA gl))=true)(hd:fl.all (λf=>gl.contains f)=true):vZ (PS p (oA gl)) (oA fl) where
 zero:=λK R t i z hi Is=>zu5 hz hi Is
 fn:=λf hf _=>by
  obtain⟨fn,c,h1,h2,h3,h4,_⟩:=fnFit_ok (vA.1 h f (Qg hf));exact⟨fn,c,h1,h1,h2,h3,h4⟩
 opq:=λf _ ho=>by cases ho
 low:=λf ho=>by cases ho
 dyn:=λ_ f hf=>vA.1 hd f (Qg hf)
 guard:=λt=>rfl
 res:=λf hf _ fn Al=>by
  obtain⟨fn',c,h1,h2,h3,h4,h5⟩:=fnFit_ok (vA.1 h f (Qg hf));have At:=h1;rw[At] at Al;obtain rfl:=cH Al;exact h5
 follows:=rfl
 none:=λ_=>rfl
def zer (p:bT)(fs gs:aO->Bool)(f:aO):Bool:=
 match p.funcs[f]? with
 |some fn=>!(fn.name== "runtime.NumGoroutine")&&(match fn.body with|some c=>!(qG p ⟨fs,gs,true⟩ c)|none=>false)
 |none=>false
theorem lv_of {ol al gl fl:List Nat}(hz:Re p=true)(h1:gl.all (fnFit p (oA fl) (oA gl))=true)(h2:al.all (λf=>ol.contains f||fnFit p (oA fl) (oA al) f)=true)(h3:ol.all (zer p (oA fl) (oA gl))=true)(h4:ol.all (zer p (oA fl) (oA al))=true)(hd:fl.all (λf=>gl.contains f)=true)(Az:fl.all (λf=>al.contains f)=true):
 Lv p (oA ol) (oA al) (oA gl) (oA fl) where
 fit:={
  zero:=λK R t i z hi Is=>zu5 hz hi Is
  fn:=λf hf ho=>by
   have:=vA.1 h2 f (Qg hf);have xL:ol.contains f=false:=ho;rw[xL,zp0] at this;obtain⟨fn,c,h1,h2,h3,h4,_⟩:=fnFit_ok this;exact⟨fn,c,h1,h1,h2,h3,h4⟩
  opq:=λf _ ho=>by
   have:=vA.1 h4 f (Qg ho);unfold zer at this
   cases hf:p.funcs[f]? with
   |none=>simp_all
   |some fn=>grind
  low:=λf ho=>by cases ho
  dyn:=λ_ f hf=>vA.1 Az f (Qg hf)
  guard:=λt=>rfl
  res:=λf hf ho fn Al=>by
   have:=vA.1 h2 f (Qg hf);have xL:ol.contains f=false:=ho;rw[xL,zp0] at this;obtain⟨fn',c,h1,h2,h3,h4,h5⟩:=fnFit_ok this;have At:(PL p (oA ol) (oA al)).c.funcs[f]? =some fn':=h1;rw[At] at Al;obtain rfl:=cH Al;exact h5
  follows:=rfl}
 fit₁:=zoW hz h1 hd
 nofit:=λf ho=>by
  have:=vA.1 h3 f (Qg ho);unfold zer at this
  cases hf:p.funcs[f]? with
  |none=>simp_all
  |some fn=>grind
end Go.Mt
namespace Go.Mt
open Go.Conc Go.Tt
open Go.ConcR (KK wgBlock WgAt stA smA rd wr DC0)
section
variable {p:bT}
def wQ (p:bT):Frame:={(default:dL) with fn:=p.funcs.size,defers:=[],mode:=.panicking [goexitEntry]}
variable {f:aO}{fn:Te}
theorem zx0 {c:Code}{cap args:Array aF}(hf:p.funcs[f]? =some fn)(hn:(fn.name== "runtime.NumGoroutine")=false)(hb:fn.body=some c)(w:aE):
 stepG p false (born p {target:=.fn (.func f) cap,args:=args}) w=.go (G ((baseD f).at ⟨(args++cap)++nK (fn.ntmps-(args++cap).size) aA,[]⟩ [.code c]) [wQ p]) w #[]:=by
 have wD:¬fn.name= "runtime.NumGoroutine" :=by simpa using hn
 simp[born,stepG,unwind,callDeferred,invoke,callFunc,hf,wD,hb,seen,C2,G,Eu,dL.at,baseD,wQ]
theorem zEO (hf:p.funcs[f]? =some fn)(hr:fn.results=#[])(T:Array aF)(todo:List dI):QuitsD p 2 0 (G {(baseD f).at ⟨T,[]⟩ todo with mode:=.returning} [wQ p]):=by
 refine zql (g':=G (wQ p) []) rfl (λw=>?_) ?_
 .simp[G,stepG,unwind,doReturn,results,dL.at,baseD,wQ,hf,hr,seen,C2,goexitEntry]
 refine zql (g':={G (wQ p) [] with status:=.finished}) rfl (λw=>?_) ⟨rfl,rfl⟩;simp[G,stepG,unwind,wQ,goexitEntry,dL.catches];rfl
end
section
variable [zfv]{Lk:zfB}
open Go.Conc.Lib Go.ConcR.Gen
def G6.triv (ty:aN)(Wg:Nat)(τ:cI):G6 ty Wg τ (λ_=>True):=⟨λ_ _ _ _=>trivial,λ_ _ _ _ _=>trivial⟩
end
end Go.Mt
namespace Go.Mt
open Go.Conc Go.Tt
open Go.ConcR (KK wgBlock WgAt stA smA rd wr)
section
variable {S:aO->Prop}{K K' R R':Pr}{G:Gp}{St St':Nat->Prop}{w W:aE}
def Pr.or_le {K K' R R':Pr}(hK:K.le K')(hR:R.le R'):(R.or K).le (R'.or K'):=λa b x=>x.imp (hR a b) (hK a b)
theorem zn2 (hK:K.le K'){v v':aF}(x:VR S K R v v'):VR S K' R v v':=by
 induction x with
 |bool b=>exact .bool b
 |int k n=>exact .int k n
 |string s=>exact .string s
 |nilFunc=>exact .nilFunc
 |nilIface=>exact .nilIface
 |pointer x=>exact .pointer x
 |slice x=>exact .slice x
 |map x=>exact .map x
 |chan x=>exact .chan (x.mono (Pr.or_le hK (.refl _)))
 |func s e1 _ e2 _ i1 i2=>exact .func s e1 i1 e2 i2
 |iface _ ih=>exact .iface ih
 |agg e _ ih=>exact .agg e ih
 |tuple e _ ih=>exact .tuple e ih
 |junk h=>exact .junk h
def bO.monoK (hK:K.le K'){xs bZ:Array aF}(x:bO S K R xs bZ):bO S K' R xs bZ:=⟨x.1,λi v v' h1 h2=>zn2 hK (x.2 i v v' h1 h2)⟩
theorem Cq.monoK (hK:K.le K'){e e':MapEntry}(x:Cq S K R e e'):Cq S K' R e e':=by cases x with|mk a b=>exact .mk (zn2 hK a) (zn2 hK b)
variable {o:Obj}
theorem o7.monoK (hK:K.le K'){o':Obj}(x:o7 S K R o o'):o7 S K' R o o':=by
 cases x with
 |cells a b=>exact .cells (bO.monoK hK a) b
 |map a=>exact .map ⟨a.1,λi e e' h1 h2=>Cq.monoK hK (a.2 i e e' h1 h2)⟩
 |chan a=>exact .chan (bO.monoK hK a)
 |stringIter s p=>exact .stringIter s p
 |number a=>exact .number a
 |mapIter a=>exact .mapIter a
variable {P:dM}
def pL.monoK {fs:aO->Bool}(hK:K.le K'){m m':Fm}(x:pL P fs K R m m'):pL P fs K' R m m':=⟨x.fn,x.todo,x.ret,bO.monoK hK x.tmps,x.fit,x.infs⟩
theorem vF.monoK {fs:aO->Bool}(hK:K.le K'){ms ms':List Fm}(x:vF P fs K R ms ms'):vF P fs K' R ms ms':=by
 induction x with
 |nil=>exact .nil
 |cons a b _ ih=>exact .cons (pL.monoK hK a) b ih
theorem dB.real {W':aE}(h:dB S K R G St w W)(hk:∀a b,R a b->W'.heap[b]? =W.heap[b]?)(hs:W.heap.size<=W'.heap.size):dB S K R G St w W':=by
 refine⟨h.inj,h.inj',λa b x=>⟨(h.lt a b x).1,j5 (h.lt a b x).2 hs⟩,h.low,⟨h.gle.1,eG h.gle.2 hs⟩,λa b x=>?_,h.rest,h.st,h.np,h.tb⟩;obtain⟨o,o',h1,h2,h3⟩:=h.cont a b x
 grind
def put (w:aE)(b:Nat)(o:Obj):World:={w with heap:=w.heap.setIfInBounds b o}
theorem Ec (w:aE)(o:Obj):(w.alloc o).heap[w.heap.size]? =some o:=by unfold zrh;simp
theorem Cs {w:aE}{a:Nat}(h:a<w.heap.size):(w.alloc o).heap[a]? =w.heap[a]? :=by unfold zrh;grind
theorem vI (w:aE)(o:Obj):(w.alloc o).heap.size=w.heap.size+1:=by simp_all
theorem dB.pushK (h:dB S K R G St w W){N:Nat}(hN:N<W.heap.size)(hf:∀a,¬(R.or K) a N):dB S (K.add w.heap.size N) R G St (w.alloc pN) W:=by
 have aU:∀a b,R.or K a b->a≠w.heap.size:=λa b x=>Nat.ne_of_lt (h.lt a b x).1;have lift:∀a,(∃b,R.or K a b)->(w.alloc pN).heap[a]? =w.heap[a]? :=λa ⟨b,x⟩=>Cs (h.lt a b x).1;refine⟨?_,?_,?_,h.low,⟨by rw[vI];exact Nat.le_succ_of_le h.gle.1,h.gle.2⟩,λa b x=>?_,?_,λa x=>?_,h.np.push (by unfold pN;simp),h.tb⟩
 .rintro a b c (x|x|⟨rfl,rfl⟩) (y|y|⟨e,rfl⟩)
  .exact h.inj a b c (.inl x) (.inl y)
  .exact h.inj a b c (.inl x) (.inr y)
  .exact absurd e (aU a b (.inl x))
  .exact h.inj a b c (.inr x) (.inl y)
  .exact h.inj a b c (.inr x) (.inr y)
  .exact absurd e (aU a b (.inr x))
  .exact absurd rfl (aU _ c (.inl y))
  .exact absurd rfl (aU _ c (.inr y))
  .rfl
 .rintro a b c (x|x|⟨rfl,rfl⟩) (y|y|⟨rfl,e⟩)
  .exact h.inj' a b c (.inl x) (.inl y)
  .exact h.inj' a b c (.inl x) (.inr y)
  .exact absurd (e▸ .inl x) (hf a)
  .exact h.inj' a b c (.inr x) (.inl y)
  .exact h.inj' a b c (.inr x) (.inr y)
  .exact absurd (e▸ .inr x) (hf a)
  .exact absurd (.inl y) (hf b)
  .exact absurd (.inr y) (hf b)
  .rfl
 .rintro a b (x|x|⟨rfl,rfl⟩)
  .exact⟨by rw[vI];exact zu9 (h.lt a b (.inl x)).1,(h.lt a b (.inl x)).2⟩
  .exact⟨by rw[vI];exact zu9 (h.lt a b (.inr x)).1,(h.lt a b (.inr x)).2⟩
  simp_all
 .obtain⟨o,o',h1,h2,h3⟩:=h.cont a b x
  exact⟨o,o',(lift a ⟨b,.inl x⟩).trans h1,h2,o7.monoK (Pr.le_add _ _ _) h3⟩
 .rintro a b (x|⟨rfl,rfl⟩) hn
  .exact(lift a ⟨b,.inr x⟩).trans (h.rest a b x hn)
  .exact Ec w pN
 .obtain⟨⟨b,y⟩,c,T,hi,h1,h2⟩:=h.st a x
  exact⟨⟨b,y⟩,c,T,hi,(lift a ⟨b,.inl y⟩).trans h1,h2⟩
end
structure IM (W0:aE)(St:Nat->Prop)(Shun:Loc->Prop)(Wg:Nat)(SS:Nat->Prop)(R:Pr)(τ:cI)(W:aE):Prop where
 kp:Kp W0 R St W
 sh:Sh W0.heap.size Shun R W
 still:τ.still=SS
 wg:Wg<W.heap.size
 own:∀b,τ.own b->b≠Wg
 rel:∀a b,R a b->b≠Wg
section
variable {L:Type}{C:Cx L}{W0:aE}{St:Nat->Prop}{Shun:Loc->Prop}{SS:Nat->Prop}
theorem im_ok (hC:C.I=IM W0 St Shun C.Wg SS)(aY:∀a,St a->C.St a)(vX:∀b,b<W0.heap.size->SS b):fE C:=by
 refine⟨λR τ W aZ h s=>?_,λR τ W R1 W1 h ht hs=>?_⟩<;>rw[hC] at*
 .refine⟨⟨s.os.trans h.kp.os,s.tape.trans h.kp.tape,s.output.trans h.kp.output,eG h.kp.size s.size,λb hb=>(s.keep b (.inr (by rw[h.still];exact vX b hb))).trans (h.kp.block b hb),h.kp.old⟩,⟨h.sh.old,h.sh.rel,λl b hl hb=>h.sh.new l b hl (eG s.size hb)⟩,h.still,j5 h.wg s.size,h.own,h.rel⟩
 .refine⟨⟨hs.os.trans h.kp.os,hs.tape.trans h.kp.tape,hs.output.trans h.kp.output,eG h.kp.size hs.size,λb hb=>?_,λa b x hb=>?_⟩,⟨h.sh.old,λa b x l hl=>?_,λl b hl hb=>h.sh.new l b hl (eG hs.size hb)⟩,h.still,j5 h.wg hs.size,λb hb=>?_,λa b x=>?_⟩
  .rw[hs.keep b (j5 hb h.kp.size) (λa x=>aY a (h.kp.old a b x hb))]
   exact h.kp.block b hb
  .rcases hs.new a b x with y|⟨y,_⟩
   .exact h.kp.old a b y hb
   .have:=h.kp.size;omega
  .rcases hs.new a b x with y|⟨y,_⟩
   .exact h.sh.rel a b y l hl
   .exact h.sh.new l b hl y
  .rcases hb with hb|⟨hb,_⟩
   .exact h.own b hb
   .have:=h.wg;omega
  .rcases hs.new a b x with y|⟨y,_⟩
   .exact h.rel a b y
   .have:=h.wg;omega
def za0 (W:aE)(a:Addr)(v:aF){b:Nat}(h:b≠a.block):(W.setCell a v).heap[b]? =W.heap[b]? :=(Vt W a v).block b h
def Ux (W:aE)(a:Addr)(v:aF):(W.setCell a v).heap.size=W.heap.size:=(Vt W a v).size
theorem IM.cell {R:Pr}{τ:cI}{W:aE}{Wg:Nat}(h:IM W0 St Shun Wg SS R τ W)(hW:W0.heap.size<=Wg){a:Addr}(ha:a.block=Wg)(v:aF):IM W0 St Shun Wg SS R τ (W.setCell a v):=by
 have hA:=Vt W a v;refine⟨⟨hA.os.trans h.kp.os,hA.tape.trans h.kp.tape,hA.output.trans h.kp.output,by rw[Ux];exact h.kp.size,λb hb=>(za0 W a v aC).trans (h.kp.block b hb),h.kp.old⟩,⟨h.sh.old,h.sh.rel,λl b hl hb=>h.sh.new l b hl uU⟩,h.still,by rw[Ux];exact h.wg,h.own,h.rel⟩
end
end Go.Mt
namespace Go.Mt
open Go.Conc Go.Tt
open Go.ConcR (KK wgBlock WgAt stA smA rd wr DC0)
section
variable {L:Type}{C:Cx L}{l:L}
variable {fn:aO}{tmps:Array aF}{k:List dI}{w:aE}{ops:Array aX}
theorem BO.regs (hI:fE C){id:Nat}(is:List Nat)(hr:fV ops.size=is)(h:BO C l ⟨fn,tmps,.inRegion ops is::k,false⟩ w):BO C l ⟨fn,tmps,.code (.region id ops false)::k,false⟩ w:=BO.reg hI (by rw[hr];exact h)
def Cx.dfr (C:Cx L)(d:Gw):Cx L:={C with ds:=⟨d::C.ds.ds,C.ds.kd,C.ds.ok⟩}
def fE.dfr (hI:fE C)(d:Gw):fE (C.dfr d):=⟨hI.suf,hI.step⟩
variable {p:bT}{i:Nat}{rest:List Nat}{o:aX}{d:Gw}
theorem zGz {main:Bool}{b:dL}{a:uL}{cs:List dL}(ho:ops[i]? =some o)(hw:cO o (cS ops a.tmps)=true)(hk:b.kind≠ .early)(zkM:o.dst=none)
 (hr:(aS a.eval o).run p w=.ok (.defer d) w) (he:(aS a.eval o).events p w #[]=#[]):
 stepG p main (G (b.at a (.inRegion ops (i::rest)::k)) cs) w=.go (G (b.at ⟨a.tmps,d::a.defers⟩ (.inRegion ops rest::k)) cs) w #[]:=by
 have Bj:(b.at ⟨a.tmps,d::a.defers⟩ (.inRegion ops (i::rest)::k)).finish aA=b.at ⟨a.tmps,d::a.defers⟩ (.inRegion ops rest::k):=by rw[zsp,ho];simp[zkM,b7]
 have cY:(b.kind==CallKind.early)=false:=by simpa using hk
 rw[stepG_oper ho hw,<-Bj];simp[stepG.apply,hr,he,G,dL.at,cY,C2,Cz]
theorem BO.defer (hI:fE C)(ho:ops[i]? =some o)(cF:cO o (cS ops tmps)=true)(zkM:o.dst=none)
 (hx:∀R w W bU,C.Rel R w W->bO (SF C.fs) C.K R tmps bU->(∀x∈C.pin,bU.getD x.1 aA=x.2)->∀aZ,(aS (bE bU C.ds.ds).eval o).run C.p aZ=.ok (.defer d) aZ/\(aS (bE bU C.ds.ds).eval o).events C.p aZ #[]=#[])
 (h:BO (C.dfr d) l ⟨fn,tmps,.inRegion ops rest::k,false⟩ w):BO C l ⟨fn,tmps,.inRegion ops (i::rest)::k,false⟩ w:=by
 intro R W m' τ hw hm ht hi;obtain⟨fn',bU,zE,zD⟩:=m';obtain rfl:=hm.fn;obtain rfl:=hm.todo;obtain rfl:=hm.ret;rw[nJ];refine Cx.silent rfl rfl (g':=G ((C.ds.base fn).at ⟨bU,d::C.ds.ds⟩ (.inRegion ops rest::k)) C.base) (λaZ s=>?_) λaZ s=>?_
 .obtain⟨h1,h2⟩:=hx R w W bU hw hm.tmps hm.pins aZ
  exact zGz ho (Jc (C:=C) hm.tmps cF) C.ds.ok zkM h1 h2
 .have:=h R aZ ⟨fn,bU,.inRegion ops rest::k,false⟩ τ (Cx.Rel.suf (C:=C) hw ht s) ⟨rfl,rfl,rfl,hm.tmps,hm.pins⟩ ht (hI.suf _ _ _ _ hi s)
  rw[nJ] at this;exact this
variable {ρ:cJ->aF}
theorem zoG {f:aO}{zx8:Array cJ}{jM:Array aN}(hop:o.op=.defer {callee:=.value (.func f),args:=zx8,argTypes:=jM})(hρ:ρ (.func f)=.func (.func f) #[] #[])(w:aE):
 (aS ρ o).run p w=.ok (.defer (dcall f (zx8.map ρ))) w/\(aS ρ o).events p w #[]=#[]:=by
 obtain⟨dst,yJ,type,pos,after,guard⟩:=o;simp only at hop;subst hop;constructor
 .simp[aS,resolve,Dh,hρ,dcall,bind,x3,pure,bK]
 .simp[aS,resolve,Dh,hρ,dcall,bind,x3,pure,bK,yZ,Ak]
variable {Post:aF->aE->Prop}
theorem zDP {Shun:Loc->Prop}:∀(n:Nat) (g:bF) (w:aE),Goes p true AtRel DC0 (λg w=>J p Post Shun w.heap.size g w) n g w->J p Post Shun w.heap.size g w:=by
 intro n
 induction n with
 |zero=>exact λg w h=>by have:=h w ⟨w.drawn,rfl⟩;exact this
 |succ n ih=>
  intro g w h;rcases h with h|⟨hs,h⟩
  .have:=h w ⟨w.drawn,rfl⟩;exact this
  .refine J.own hs λd=>?_
   obtain⟨zaB,w',es,hgo,⟨e1,e2⟩,hg⟩:=znn (h (w.at d) ⟨d,rfl⟩);subst e1 e2;exact⟨zaB,_,#[],_,hgo,λe he=>by simp at he,bL _,ih _ _ hg⟩
theorem zaD {t:aN}{x:cJ}{a:Addr}{v:aF}(hop:o.op=.load t x)(hx:ρ x=.pointer (some a))(zEF:(isAgg t).run p w=.ok false w)(hc:w.cell? a=some v):(aS ρ o).run p w=.ok (.value v) w:=by
 obtain⟨dst,yJ,type,pos,after,guard⟩:=o;simp only at hop;subst hop;simp[aS,Instr.loadAt,hx,go_sem,loadVar,zEF,hc]
end
variable {p:bT}{s:Sem aF}{w':aE}{v:aF}
theorem run_bv {w:aE}(h:s.run p w=.ok v w'):bK p (x3 s (λv=>Sem.pure (Next.value v))) w=.ok (.value v) w':=by rw[uG,h];rfl
theorem ev_bv {w:aE}{es eI:Array o5}(h:s.run p w=.ok v w')(he:s.events p w es=eI):yZ p (x3 s (λv=>Sem.pure (Next.value v))) w es=eI:=by rw[zhu,h,zhx,he];rfl
section
variable {p:bT}{Post:aF->aE->Prop}{Shun:Loc->Prop}
variable {B:Nat}
theorem J.sil {g g':bF}{w:aE}(hg:g.status=.running)(aY:∀w,stepG p true g w=.go g' w #[])(h:∀d,J p Post Shun B g' (w.at d)):∀d,J p Post Shun B g (w.at d):=λd=>
 J.own hg λd'=>⟨g',w.at d',#[],B,aY _,λe he=>by simp at he,bL _,h d'⟩
def J.opq {b:dL}{a:uL}{ops:Array aX}{i:Nat}{rest:List Nat}{k:List dI}{cs:List dL}{w w':aE}{o:aX}{v:aF}(ho:ops[i]? =some o)(hw:cO o (cS ops a.tmps)=true)(hk:b.kind≠ .early)
 (hr:∀d,(aS a.eval o).run p (w.at d)=.ok (.value v) (w'.at d)) (he:∀d,∀e∈(aS a.eval o).events p (w.at d) #[],False)
 (h:∀d,J p Post Shun B (G (b.at (a.put o.dst v) (.inRegion ops rest::k)) cs) (w'.at d)):∀d,J p Post Shun B (G (b.at a (.inRegion ops (i::rest)::k)) cs) (w.at d):=λd=>
 J.own rfl λd'=>⟨_,w'.at d',xY p b.fn a o (w.at d'),B,stepG_value ho hw hk (hr d'),λe hx=>(he d' e (zcn hx)).elim,bL _,h d'⟩
end
end Go.Mt
namespace Go.Mt
open Go.Conc Go.Tt
structure Blk where
 rb:Nat
 off:Nat
 cs:Array aF
 T:aN
 fz:Nat×Nat
def Ro (v:aF):Prop:=(∃k n,v=.int k n)\/(∃s,v=.string s)\/∃b,v=.bool b
inductive wW:aF->Prop
 |bool (b:Bool):wW (.bool b)
 |int (k:IntKind) (n:Int):wW (.int k n)
 |string (s:ByteArray):wW (.string s)
 |nilFunc:wW .nilFunc
 |nilIface:wW .nilIface
 |agg {xs:Array aF}:(∀(i:Nat) (v:aF),xs[i]? =some v->wW v)->wW (.agg xs)
 |tuple {xs:Array aF}:(∀(i:Nat) (v:aF),xs[i]? =some v->wW v)->wW (.tuple xs)
def thaw (w:aE):Option Blk->aE
 |none=>w
 |some b=>put w b.rb (.cells b.cs b.T b.fz)
section
variable {S:aO->Prop}{K R:Pr}{G:Gp}{St:Nat->Prop}{w W W4:aE}{A:Option Addr}{src:Option Blk}
abbrev P0:Pr:=λ_ _=>False
def stC (w:aE)(a:Nat):Prop:=a=w.heap.size+1\/a=w.heap.size+2\/a=w.heap.size+3
end
section
variable {L:Type}{C:Cx L}{W0:aE}{St:Nat->Prop}{Shun:Loc->Prop}{SS:Nat->Prop}
structure IMX (W0:aE)(St:Nat->Prop)(Shun:Loc->Prop)(Wg:Nat)(SS:Nat->Prop)(R0:Pr)(Fz:Nat->Prop)(Wf:aE)(R:Pr)(τ:cI)(W:aE):Prop where
 im:IM W0 St Shun Wg SS R τ W
 le:R0.le R
 fz:∀b,Fz b->b<W.heap.size/\W.heap[b]? =Wf.heap[b]? /\¬τ.own b/\b≠Wg
structure IX (ty:aN)(Wg:Nat)(I:Pr->cI->aE->Prop):Prop where
 suf:∀R τ W aZ,I R τ W->bX ty Wg τ W aZ->I R τ aZ
 cell:∀R τ W a v,I R τ W->a.block=Wg->I R τ (W.setCell a v)
 at_:∀R τ W d,I R τ W->I R τ (W.at d)
 rel:∀R τ W,I R τ W->∀a b,R a b->b≠Wg
def zJ (ty:aN)(Wg:Nat)(I:Pr->cI->aE->Prop):Pr->cI->aE->Prop:=λR τ W=>I R τ W/\WgLive ty Wg W
variable {R0:Pr}
theorem zyg {ty:aN}{W0:aE}{St:Nat->Prop}{Shun:Loc->Prop}{Wg:Nat}{SS:Nat->Prop}{Fz:Nat->Prop}{Wf:aE}(vX:∀b,b<W0.heap.size->SS b)(hF:∀b,Fz b->SS b)(pB:W0.heap.size<=Wg):IX ty Wg (IMX W0 St Shun Wg SS R0 Fz Wf):=by
 refine⟨λR τ W aZ h s=>?_,λR τ W a v h ha=>?_,λR τ W d h=>?_,λR τ W h=>h.im.rel⟩
 .have h0:fE (L:=Unit) ⟨default,λ_=>false,λ_=>false,ty,Wg,⟨λ_=>.wait,λ_ _=>True,λ_=>false,λ_=>True,λ_ _=>True,λ_ _=>[]⟩,λ_ _=>True,true,[],.nil,λ_ _=>False,λ_=>True,IM W0 St Shun Wg SS,[],none,λ_ h=>by cases h⟩:=im_ok rfl (λ_ _=>trivial) vX
  refine⟨h0.suf R τ W aZ h.im s,h.le,λb hb=>?_⟩;obtain⟨f1,f2,f3,f4⟩:=h.fz b hb;exact⟨j5 f1 s.size,(s.keep b (.inr (by rw[h.im.still];exact hF b hb))).trans f2,f3,f4⟩
 .refine⟨IM.cell h.im pB ha v,h.le,λb hb=>?_⟩
  obtain⟨f1,f2,f3,f4⟩:=h.fz b hb;exact⟨by simp_all,(za0 W a v (by rw[ha];exact f4)).trans f2,f3,f4⟩
 .exact⟨⟨⟨h.im.kp.os,h.im.kp.tape,h.im.kp.output,h.im.kp.size,h.im.kp.block,h.im.kp.old⟩,⟨h.im.sh.old,h.im.sh.rel,h.im.sh.new⟩,h.im.still,h.im.wg,h.im.own,h.im.rel⟩,h.le,h.fz⟩
theorem imx_ok {Fz:Nat->Prop}{Wf:aE}(hC:C.I=zJ C.ty C.Wg (IMX W0 St Shun C.Wg SS R0 Fz Wf))(aY:∀a,St a->C.St a)(vX:∀b,b<W0.heap.size->SS b)(hF:∀b,Fz b->SS b)(pB:W0.heap.size<=C.Wg):fE C:=by
 have h0:=im_ok (C:={C with I:=IM W0 St Shun C.Wg SS}) rfl aY vX;have hx:=zyg (ty:=C.ty) (St:=St) (Shun:=Shun) (R0:=R0) (Wf:=Wf) vX hF pB;refine⟨λR τ W aZ h s=>?_,λR τ W R1 W1 h ht hs=>?_⟩<;>rw[hC] at*
 .exact⟨hx.suf R τ W aZ h.1 s,s.live h.2⟩
 .refine⟨⟨h0.step R τ W R1 W1 h.1.im ht hs,h.1.le.trans hs.le,λb hb=>?_⟩,?_⟩
  .obtain⟨f1,f2,f3,f4⟩:=h.1.fz b hb
   refine⟨j5 f1 hs.size,(hs.keep b f1 λa x=>zT λz=>f3 ((ht a _ x).2 z)).trans f2,λe=>e.elim f3 λx=>?_,f4⟩;omega
  .obtain⟨a,b,hl⟩:=h.2
   exact⟨a,b,(hs.keep C.Wg h.1.im.wg λa x=>zT λz=>h.1.im.own _ ((ht a _ x).2 z) rfl).trans hl⟩
end
section
variable {p:bT}{op gs gs₁ fs:aO->Bool}{St:Nat->Prop}{W0:aE}{Post:aF->aE->Prop}
theorem JO.callN (L:Lv p op gs gs₁ fs){m:Fm}{ms:List Fm}{w:aE}{ops:Array aX}{i:Nat}{rest:List Nat}{k:List dI}{o:aX}{f:aO}{args:Array cJ}{jM:Array aN}{fn:Te}{c:Code}(hr:m.ret=false)(pS:m.todo=.inRegion ops (i::rest)::k)
 (ho:ops[i]? =some o) (cF:cO o (cS ops m.tmps)=true) (hop:o.op=.call ⟨.value (.func f),args,jM⟩) (Ge:op f=false) (hf:p.funcs[f]? =some fn) (hn:(fn.name== "runtime.NumGoroutine")=false) (hb:fn.body=some c)
 (hJ:JL p op gs fs St W0 Post ⟨f,args.map m.eval++nK (fn.ntmps-(args.map m.eval).size) aA,[.code c],false⟩ (m::ms) w):JL p op gs fs St W0 Post m ms w:=by
 have An:rV p f (args.map m.eval)=⟨f,args.map m.eval++nK (fn.ntmps-(args.map m.eval).size) aA,[.code c],false⟩:=by simp[rV,hf,hb]
 rw[<-An] at hJ;refine JO.one L.fit rfl (λe=>by rw[hr] at e;cases e) (λT=>((rV p f (args.map m.eval),m::ms),Tt.tp w T 0)) (λT=>?_) (λT K R y Af=>?_) (λT=>hJ.tape T 0)
 .show(eK p m ms).run p _=_
  simp only[eK,hr,jG,if_false,q8,pS,ho,Bz,vB,cF,if_true];refine(uG p _ _ _).trans ?_;rw[(zdH hop (λg=>rfl) hf hn hb (Tt.tp w T 0)).1];simp only[uR,qK,hf,hb,lR,bK,An]
 .obtain⟨f',xs,bZ,c,c',rest,E5,h1,h2,h3,h4,_⟩:=Af.ex
  simp only[oM] at h4;have h5:=congrArg Fm.fn h4.1;rw[Fj,Fj] at h5;simp_all
end
theorem zq4 {S:aO->Prop}:∀(n:Nat) (v:aF),Nc v<n->∃u,wW u/\(∀K R,VR S K R u v)/\(Ro v->u=v):=by
 intro n
 induction n with
 |zero=>intro v h;omega
 |succ n ih=>
  intro v hv;have hj:∀{v:aF},HidV v->(∀k m,v≠ .int k m)->(∀s,v≠ .string s)->(∀b,v≠ .bool b)->∃u,wW u/\(∀K R,VR S K R u v)/\(Ro v->u=v):=λh h1 h2 h3=>
   ⟨.nilFunc,.nilFunc,λK R=>.junk h,λx=>by
    rcases x with⟨k,m,e⟩|⟨s,e⟩|⟨b,e⟩
    .exact absurd e (h1 _ _)
    .exact absurd e (h2 _)
    .exact absurd e (h3 _)⟩
  have rows:∀xs:Array aF,Nc xs<n->∃us:Array aF,us.size=xs.size/\(∀(i:Nat) (u:aF),us[i]? =some u->wW u)/\∀K R,∀(i:Nat) (u v:aF),us[i]? =some u->xs[i]? =some v->VR S K R u v:=λxs hx=>by
   have hex:∀x,∃u,x∈xs->wW u/\∀K R,VR S K R u x:=λx=>by
    by_cases hm:x∈xs
    .obtain⟨u,h1,h2,_⟩:=ih x (Nat.lt_trans (Array.sizeOf_lt_of_mem hm) hx)
     grind
    simp_all
   refine⟨xs.map λx=>(hex x).choose,aQ,λi u h1=>?_,λK R i u v h1 h2=>?_⟩
   .grind
   .grind
  cases v with
  |bool b=>exact⟨_,.bool b,λK R=>.bool b,λ_=>rfl⟩
  |int k m=>exact⟨_,.int k m,λK R=>.int k m,λ_=>rfl⟩
  |string s=>exact⟨_,.string s,λK R=>.string s,λ_=>rfl⟩
  |nilIface=>exact⟨_,.nilIface,λK R=>.nilIface,λ_=>rfl⟩
  |agg xs=>
   obtain⟨us,h1,h3,h2⟩:=rows xs (by simp at hv;omega);exact⟨.agg us,.agg h3,λK R=>.agg h1 (h2 K R),λx=>by rcases x with⟨_,_,e⟩|⟨_,e⟩|⟨_,e⟩<;>cases e⟩
  |tuple xs=>
   obtain⟨us,h1,h3,h2⟩:=rows xs (by simp at hv;omega);exact⟨.tuple us,.tuple h3,λK R=>.tuple h1 (h2 K R),λx=>by rcases x with⟨_,_,e⟩|⟨_,e⟩|⟨_,e⟩<;>cases e⟩
  |_=>exact hj X3 (λ_ _ h=>by cases h) (λ_ h=>by cases h) (λ_ h=>by cases h)
def gv (S:aO->Prop)(v:aF):Value:=(zq4 (S:=S) (Nc v+1) v (yB _)).choose
def zgc (S:aO->Prop)(v:aF):wW (gv S v)/\(∀K R,VR S K R (gv S v) v)/\(Ro v->gv S v=v):=(zq4 (S:=S) (Nc v+1) v (yB _)).choose_spec
def gObj (S:aO->Prop):Obj->Obj
 | .cells c T fz=>.cells (c.map (gv S)) T (0,max c.size fz.2)
 |_=>pN
def Ea (S:aO->Prop)(X:Nat->Bool)(W:aE):World:={W with heap:=W.heap.mapIdx λi o=>if X i=true then gObj S o else pN}
def R0 (X:Nat->Bool):Pr:=λa b=>a=b/\X a=true
def St0 (X:Nat->Bool):Nat->Prop:=λa=>X a=true
section
variable {S:aO->Prop}{X:Nat->Bool}{W:aE}
theorem zmC:(Ea S X W).heap.size=W.heap.size:=by simp[Ea]
theorem zbJ {b:Nat}{c:Array aF}{T:aN}{fz:Nat×Nat}(hb:W.heap[b]? =some (.cells c T fz))(hx:X b=true):(Ea S X W).heap[b]? =some (.cells (c.map (gv S)) T (0,max c.size fz.2)):=by
 simp[Ea,Ny,hb,hx,gObj]
theorem zDR:C7 (Ea S X W):=by
 intro b c e h;simp only[Ea,Ny,Aa] at h;obtain⟨o,_,h⟩:=h;split at h
 .cases o<;>simp[gObj,pN] at h
 .simp[pN] at h
theorem zBC {G:Gp}(hX:∀b,X b=true->∃c T fz,W.heap[b]? =some (.cells c T fz))(hT:∀g,G.tab g=true->X g=true)(hG:G.n<=W.heap.size):dB S P0 (R0 X) G (St0 X) (Ea S X W) W:=by
 refine⟨?_,?_,?_,?_,⟨by rw[zmC];exact hG,hG⟩,?_,λa b x=>x.elim,?_,zDR,λg hg=>⟨rfl,hT g hg⟩⟩
 .rintro a b c (⟨rfl,_⟩|x) (⟨h1,_⟩|y)
  .exact h1
  .exact y.elim
  .exact x.elim
  .exact x.elim
 .rintro a b c (⟨rfl,_⟩|x) (⟨h1,_⟩|y)
  .exact h1.symm
  .exact y.elim
  .exact x.elim
  .exact x.elim
 .rintro a b (⟨rfl,h⟩|x)
  .obtain⟨c,T,fz,h1⟩:=hX a h
   have:=(dR.1 h1).1;exact⟨by rw[zmC];exact this,this⟩
  .exact x.elim
 .rintro a b ⟨rfl,_⟩
  omega
 .rintro a b ⟨rfl,h⟩
  obtain⟨c,T,fz,h1⟩:=hX a h;refine⟨_,_,zbJ h1 h,h1,.cells ⟨aQ,λi u v h2 h3=>?_⟩ λo ho=>?_⟩
  .rw[Gq,h3] at h2
   simp only[Bz,jS] at h2;subst h2;exact(zgc S v).2.1 _ _
  .unfold Lf at ho⊢
   simp only;omega
 .intro a h
  obtain⟨c,T,fz,h1⟩:=hX a h;exact⟨⟨a,rfl,h⟩,_,T,_,zbJ h1 h,by grind⟩
theorem zCg {b o:Nat}{v:aF}(hX:∀b,X b=true->∃c T fz,W.heap[b]? =some (.cells c T fz))(hx:X b=true)(hv:W.cell? ⟨b,o,none⟩=some v)(hp:Ro v):(Ea S X W).cell? ⟨b,o,none⟩=some v:=by
 obtain⟨c,T,fz,h1⟩:=hX b hx;have h2:c[o]? =some v:=by
  have:W.cell? ⟨b,o,none⟩=c[o]? :=by simp[lU,h1]
  rw[<-this];exact hv
 have h3:(Ea S X W).cell? ⟨b,o,none⟩=(c.map (gv S))[o]? :=by
  simp only[lU];rw[zbJ h1 hx];rfl
 rw[h3,Gq,h2];simp only[Bz,jS];exact(zgc S v).2.2 hp
end
theorem zz9 {Shun:Loc->Prop}{B:Nat}:Past Shun B #[]:=
 ⟨znH.clean,λi a h=>by simp[touchAt,mF.act?] at h,znH.over,znH.hears,λop h=>by simp at h⟩
variable {Post:aF->aE->Prop}
theorem J.start {p:bT}{op gs gs₁ fs:aO->Bool}(L:Lv p op gs gs₁ fs){f:aO}{fn:Te}{c:Code}(hg:gs f=true)(Ge:op f=false)(hf:p.funcs[f]? =some fn)(hb:fn.body=some c){W:aE}{X:Nat->Bool}{xs args:Array aF}
 (hX:∀b,X b=true->∃c T fz,W.heap[b]? =some (.cells c T fz)) (hT:∀g,Ba p g=true->X g=true) (hG:p.globals.size<=W.heap.size) (Dp:bO (SF fs) P0 (R0 X) xs args)
 (h:JL p op gs fs (St0 X) W Post ⟨f,xs++nK (fn.ntmps-xs.size) aA,[.code c],false⟩ [] (Ea (SF fs) X W)):Ends p Post (solo (G (Eu p f args .normal) []) W) #[]:=by
 obtain⟨fn',c',g1,g2,g3,g4,g5⟩:=L.fit.fn f hg Ge;have Db:=g2;rw[hf] at Db;obtain rfl:=cH Db;rw[hb] at g4;obtain rfl:=cH g4;have hJ:J p Post (λ_=>False) W.heap.size (G (Eu p f args .normal) []) W:=by
  rw[Wm hf hb];refine h P0 (R0 X) W ⟨f,args++nK (fn.ntmps-args.size) aA,[.code c],false⟩ [] (λ_=>False) (zBC hX hT hG) ⟨rfl,rfl,rfl,Dp.pad fn.ntmps,λj hj=>?_,⟨fn,fn,hf,hf,rfl,L.fit.res f hg Ge fn hf⟩⟩ .nil ⟨λ_ _ _ _=>id,λ_ _ _ _ _=>id,λ_ _ _ _=>id⟩ ⟨rfl,rfl,rfl,bL _,λ_ _=>rfl,?_⟩
  .simp only[lV,nM,or_false] at hj
   subst hj;exact g5
  .rintro a b ⟨rfl,h⟩ _
   exact h
 rw[solo_eq_crowd];exact hJ #[_] #[] none (λ_=>0) rfl ⟨λi g hi h=>by
  have:=(dR.1 h).1;simp at this;omega,λj _=>rfl⟩ zz9
def yO (ops:Array aX):Bool:=
 ((
  fV ops.size).all λi=>match ops[i]? with
  |some oi=>(oi.after.all λe=>!Fi .any e||decide (e.on<i))&&(match oi.op with| .select .. =>false|_=>true)&&
   ((
    fV ops.size).all λj=>match ops[j]? with
    |some oj=>(match oj.dst with
     |some d=>(!(oi.looksAt ops).contains d||oi.after.any λe=>Fi .any e&&e.on==j)&&(i==j||oi.dst !=some d)
     |none=>true)
    |none=>true)
  |none=>true)
structure G2 (ops:Array aX):Prop where
 bk:∀(i:Nat) (oi:aX),ops[i]? =some oi->∀e∈oi.after,Fi .any e=true->e.on<i
 sel:∀(i:Nat) (oi:aX),ops[i]? =some oi->∀cs b,oi.op≠ .select cs b
 rd:∀(i j:Nat) (oi oj:aX) (d:Tmp),ops[i]? =some oi->ops[j]? =some oj->oj.dst=some d->d∈oi.looksAt ops->∃e∈oi.after,Fi .any e=true/\e.on=j
 dst:∀(i j:Nat) (oi oj:aX) (d:Tmp),ops[i]? =some oi->ops[j]? =some oj->oi.dst=some d->oj.dst=some d->i=j
variable {ops:Array aX}
theorem Gr (h:yO ops=true):G2 ops:=by
 unfold yO at h;rw[vA] at h;have lt:∀{i:Nat} {oi:aX},ops[i]? =some oi->i<ops.size:=λh=>(dR.1 h).1
 have h1:∀(i:Nat) (oi:aX),ops[i]? =some oi->(oi.after.all λe=>!Fi .any e||decide (e.on<i))=true/\(match oi.op with| .select .. =>false|_=>true)=true/\
  ∀(j:Nat) (oj:aX),ops[j]? =some oj->∀d,oj.dst=some d->((oi.looksAt ops).contains d=false\/(oi.after.any λe=>Fi .any e&&e.on==j)=true)/\(i=j\/oi.dst≠some d):=by
  intro i oi hi;have:=h i (Da.2 (lt hi));rw[hi] at this;simp only[iT] at this;refine⟨this.1.1,this.1.2,λj oj hj d hd=>?_⟩;have h2:=(vA.1 this.2) j (Da.2 (lt hj));rw[hj] at h2;simp only[hd,iT,C4,ztm,beq_iff_eq,bne_iff_ne] at h2;exact h2
 refine⟨λi oi hi e he hb=>?_,λi oi hi cs b e=>?_,λi j oi oj d hi hj hd hl=>?_,λi j oi oj d hi hj h2 h3=>?_⟩
 .have:=(h1 i oi hi).1
  rw[zl0] at this
  grind
 .grind
 .grind
 grind
def cT (ops:Array aX)(vals:Nat->aF)(t0:Array aF):Array Value:=
 (fV ops.size).foldl (λt i=>match(ops[i]?).bind (·.dst) with|some d=>t.setIfInBounds d (vals i)|none=>t) t0
section
variable {ops:Array aX}{vals:Nat->aF}{t0:Array aF}
structure qA (ops:Array aX)(vals:Nat->aF)(t0:Array aF)(bD:Array Bool)(t:Array aF):Prop where
 size:t.size=t0.size
 got:∀(i:Nat) (o:aX) (d:Tmp),ops[i]? =some o->o.dst=some d->d<t0.size->bD.getD i false=true->t[d]? =some (vals i)
 old:∀s:Nat,(∀(i:Nat) (o:aX),ops[i]? =some o->bD.getD i false=true->o.dst≠some s)->t[s]? =t0[s]?
def qA.start (bD:Array Bool)(h:∀i,bD.getD i false=false):qA ops vals t0 bD t0:=
 ⟨rfl,λi o d _ _ _ hl=>uU,λs _=>rfl⟩
theorem qA.step (K:G2 ops){bD:Array Bool}{t:Array aF}(h:qA ops vals t0 bD t){i:Nat}{o:aX}(hi:ops[i]? =some o)(hz:bD.size=ops.size)(hu:bD.getD i true=false):
 qA ops vals t0 (bD.setIfInBounds i true) (match o.dst with|some d=>t.setIfInBounds d (vals i)|none=>t):=by
 have Bd:i<bD.size:=by rw[hz];exact(dR.1 hi).1
 have Lp:∀j,(bD.setIfInBounds i true).getD j false=if j=i then true else bD.getD j false:=by
  intro j;by_cases e:j=i
  .subst e;simp[Bd]
  .rw[if_neg e];exact Mv false (Ne.symm e)
 cases hd:o.dst with
 |none=>
  refine⟨h.size,λj oj d hj Ys zfs hl=>?_,λs hs=>h.old s λj oj hj hl=>hs j oj hj ?_⟩
  .rw[Lp] at hl
   split at hl
   .simp_all
   .exact h.got j oj d hj Ys zfs hl
  simp_all
 |some d=>
  refine⟨by simp[h.size],λj oj d' hj Ys zfs hl=>?_,λs hs=>?_⟩
  .rw[Lp] at hl
   split at hl
   .next e=>
    subst e;rw[hi] at hj;obtain rfl:=cH hj;rw[hd] at Ys;obtain rfl:=cH Ys;simp[zxg,h.size,zfs]
   .next e=>
    have aV:d≠d':=λe2=>e (K.dst j i oj o d' hj hi Ys (by rw[hd,e2]));simp only[sO aV];exact h.got j oj d' hj Ys zfs hl
  .have aV:d≠s:=λe2=>hs i o hi (by rw[Lp,if_pos rfl]) (by rw[hd,e2])
   simp only[sO aV];exact h.old s λj oj hj hl=>hs j oj hj uU
theorem qA.unique {bD:Array Bool}{t t':Array aF}(h:qA ops vals t0 bD t)(h':qA ops vals t0 bD t'):t=t':=by
 apply zas;intro s;by_cases hex:∃(i:Nat) (o:aX),ops[i]? =some o/\bD.getD i false=true/\o.dst=some s
 .obtain⟨i,o,h1,h2,h3⟩:=hex
  by_cases hs:s<t0.size
  .rw[h.got i o s h1 h3 hs h2,h'.got i o s h1 h3 hs h2]
  .rw[Nr (by rw[h.size];omega),Nr (by rw[h'.size];omega)]
 .have hn:∀(i:Nat) (o:aX),ops[i]? =some o->bD.getD i false=true->o.dst≠some s:=λi o h1 h2 h3=>hex ⟨i,o,h1,h2,h3⟩
  rw[h.old s hn,h'.old s hn]
theorem Gs (K:G2 ops):qA ops vals t0 (nK ops.size true) (cT ops vals t0):=by
 have key:∀n,n<=ops.size->qA ops vals t0 ((N2 ops.size).map (λi=>decide (i<n))) ((fV n).foldl (λt i=>match(ops[i]?).bind (·.dst) with|some d=>t.setIfInBounds d (vals i)|none=>t) t0):=by
  intro n
  induction n with
  |zero=>intro _;exact qA.start _ λi=>by simp;grind
  |succ n ih=>
   intro hn;have h:=ih aC;obtain⟨o,ho⟩:∃o,ops[n]? =some o:=⟨ops[n],pK aC⟩;have hs:=qA.step K h ho aQ (by simp[Array.getElem?_range,show n<ops.size by omega]);rw[List.range_succ,zx7];simp only[Pb,List.foldl_nil,ho,uF];have e:((N2 ops.size).map (λi=>decide (i<n))).setIfInBounds n true=(N2 ops.size).map (λi=>decide (i<n+1)):=by
    apply zas;intro j;rw[zxg];by_cases hj:j<ops.size
    .grind
    .simp_all
   grind
 have:=key ops.size (bL _);have e:(N2 ops.size).map (λi=>decide (i<ops.size))=nK ops.size true:=by
  apply zas;intro j;by_cases hj:j<ops.size<;>simp[hj]
 rw[e] at this;exact this
theorem qA.sees (K:G2 ops){bD:Array Bool}{t Tf:Array aF}(h:qA ops vals t0 bD t)(hf:qA ops vals t0 (nK ops.size true) Tf){i:Nat}{o:aX}(hi:ops[i]? =some o)(sX:∀e∈o.after,Fi .any e=true->bD.getD e.on false=true):
 ∀s∈o.looksAt ops,t[s]? =Tf[s]? :=by
 intro s hs;by_cases hex:∃(j:Nat) (oj:aX),ops[j]? =some oj/\oj.dst=some s
 .obtain⟨j,oj,hj,hd⟩:=hex
  obtain⟨e,he,hb,rfl⟩:=K.rd i j o oj s hi hj hd hs;have hl:=sX e he hb;have uW:e.on<ops.size:=(dR.1 hj).1;by_cases hz:s<t0.size
  .rw[h.got _ oj s hj hd hz hl,hf.got _ oj s hj hd hz (by simp[uW])]
  .have Is:t0.size<=s:=Nat.le_of_not_lt hz
   rw[Nr (by rw[h.size];exact Is),Nr (by rw[hf.size];exact Is)]
 .have hn:∀(j:Nat) (oj:aX),ops[j]? =some oj->oj.dst≠some s:=λj oj hj hd=>hex ⟨j,oj,hj,hd⟩
  rw[h.old s (λj oj hj _=>hn j oj hj),hf.old s (λj oj hj _=>hn j oj hj)]
end
variable {t t':Array aF}
theorem zh8 {x:cJ}(h:∀s,x=.tmp s->t[s]? =t'[s]?):(bE t []).eval x=(bE t' []).eval x:=by
 cases x with
 |tmp s=>
  have:=h s rfl;show t.getD s aA=t'.getD s aA;simp_all
 |_=>rfl
variable {o:aX}
theorem Dx (hs:∀cs b,o.op≠ .select cs b)(h:∀s∈o.looksAt ops,t[s]? =t'[s]?):aS (bE t []).eval o=aS (bE t' []).eval o:=
 execOp_congr o hs λx hx=>zh8 λs e=>h s (by
  subst e;exact zrz _ (zs9.2 ⟨.tmp s,by simpa using hx,rfl⟩))
theorem Ns (h:∀s∈o.looksAt ops,t[s]? =t'[s]?):cO o (cS ops t)=cO o (cS ops t'):=by
 unfold cO
 cases hg:o.guard with
 |none=>rfl
 |some gw=>
  obtain⟨g,want⟩:=gw;have hy:cS ops t g=cS ops t' g:=by
   unfold cS
   cases ht:(ops[g]?).bind (·.dst) with
   |none=>rfl
   |some s=>
    have:=h s (by simp[aX.looksAt,hg,ht]);simp_all
  simp only[hy]
section
variable {p:bT}{op gs gs₁ fs:aO->Bool}{St:Nat->Prop}{W0:aE}{Post:aF->aE->Prop}
inductive Ct (p:bT)(op gs fs:aO->Bool)(St:Nat->Prop)(W0:aE)(Post:aF->aE->Prop)(fn:aO)(ops:Array aX)(k:List dI)(ms:List Fm)(WI:aE->Prop)(Tf:Array aF)(i:Nat)(o:aX)(v:aF):Prop
 |no (h:cO o (cS ops Tf)=false) (hv:v=aA)
 |val (h:cO o (cS ops Tf)=true) (hx:∀w,WI w->(aS (bE Tf []).eval o).run p w=.ok (.value v) w)
 |call (h:cO o (cS ops Tf)=true) (hx:∀(t:Array aF) (rest:List Nat) (w:aE),(∀x∈o.op.operands,(bE t []).eval x=(bE Tf []).eval x)->cO o (cS ops t)=true->WI w->
  (∀w',WI w'->JL p op gs fs St W0 Post ((⟨fn,t,.inRegion ops (i::rest)::k,false⟩:Fm).fin ops i rest k v) ms w')->JL p op gs fs St W0 Post ⟨fn,t,.inRegion ops (i::rest)::k,false⟩ ms w)
variable {ops:Array aX}
theorem zny (K:G2 ops){bD:Array Bool}(hz:bD.size=ops.size)(h:uK .any ops bD=[]):∀i,i<ops.size->bD.getD i false=true:=by
 intro i
 induction i using zjm with
 |ind i ih=>
  intro hi;obtain⟨o,ho⟩:∃o,ops[i]? =some o:=⟨ops[i],pK hi⟩
  cases hl:bD.getD i false with
  |true=>rfl
  |false=>
   have hm:i∈uK .any ops bD:=zgZ.2 ⟨by
    have Bd:i<bD.size:=aC;simp[Bd] at hl⊢;exact hl,o,ho,λe he hb=>ih e.on (K.bk i o ho e he hb) (by have:=K.bk i o ho e he hb;omega)⟩
   rw[h] at hm;cases hm
variable {k:List dI}{ms:List Fm}
theorem JO.drawnGo (L:Lv p op gs gs₁ fs){fn:aO}{t0 Tf:Array aF}{vals:Nat->aF}{WI:aE->Prop}(hf:op fn=false)(K:G2 ops)(hT:qA ops vals t0 (nK ops.size true) Tf)
 (Ht:∀w T e,WI w->WI (Tt.tp w T e)) (hop:∀(i:Nat) (o:aX),ops[i]? =some o->Ct p op gs fs St W0 Post fn ops k ms WI Tf i o (vals i)) (hk:∀w,WI w->JL p op gs fs St W0 Post ⟨fn,Tf,k,false⟩ ms w):
 ∀(fuel q:Nat) (bD:Array Bool) (t:Array aF) (w:aE),bD.size=ops.size->((fV ops.size).filter λi=>!bD.getD i false).length<=fuel->qA ops vals t0 bD t->WI w->
  JL p op gs fs St W0 Post ⟨fn,t,.inRegion ops (Fx .any ops fuel q bD [])::k,false⟩ ms w:=by
 have fin:∀(bD:Array Bool) (t:Array aF) (w:aE),bD.size=ops.size->(∀i,i<ops.size->bD.getD i false=true)->qA ops vals t0 bD t->WI w->JL p op gs fs St W0 Post ⟨fn,t,.inRegion ops []::k,false⟩ ms w:=by
  intro bD t w hz sY hm hw;have e:bD=nK ops.size true:=by
   apply zas;intro j;by_cases hj:j<ops.size
   .simp_all
   .simp_all
  subst e;have e2:=hm.unique hT;subst e2;exact JO.regEnd L hf (hk w hw)
 intro fuel
 induction fuel with
 |zero=>
  intro q bD t w hz hc hm hw;simp only[Fx,List.reverse_nil];refine fin bD t w hz (λi hi=>?_) hm hw;simp_all
 |succ fuel ih=>
  intro q bD t w hz hc hm hw;simp only[Fx];change JL p op gs fs St W0 Post ⟨fn,t,.inRegion ops (match(uK .any ops bD)[q%(uK .any ops bD).length]? with
   |some i=>Fx .any ops fuel (q/(uK .any ops bD).length) (bD.setIfInBounds i true) [i]
   |none=>[].reverse)::k,false⟩ ms w
  cases hi:(uK .any ops bD)[q%(uK .any ops bD).length]? with
  |none=>
   have Qn:uK .any ops bD=[]:=by
    cases hr:uK .any ops bD with
    |nil=>rfl
    |cons x xs=>
     rw[hr] at hi;have aU:q%(x::xs).length<(x::xs).length:=Nat.mod_lt _ aQ
     grind
   exact fin bD t w hz (zny K hz Qn) hm hw
  |some i=>
   simp only[];rw[linearise_go_acc,List.reverse_singleton,List.singleton_append];obtain⟨hu,o,ho,sX⟩:=zgZ.1 (fI hi);have lA:=hm.sees K hT ho sX;have Ql:=hm.step K ho hz hu;have Bd:i<ops.size:=(dR.1 ho).1;have P4:((fV ops.size).filter λj=>!(bD.setIfInBounds i true).getD j false).length<=fuel:=by
    have aU:((fV ops.size).filter λj=>!(bD.setIfInBounds i true).getD j false).length<((fV ops.size).filter λj=>!bD.getD j false).length:=by
     have e:((fV ops.size).filter λj=>!(bD.setIfInBounds i true).getD j false)=((fV ops.size).filter λj=>!bD.getD j false).filter (λj=>j !=i):=by
      rw[zpG];apply zxM;intro j hj;by_cases e:j=i
      .simp_all
      .rw[Mv false (Ne.symm e)]
       simp[e]
     rw[e];refine zrQ.2 ⟨i,Jo.2 ⟨Da.2 Bd,?_⟩,aQ⟩;have:i<bD.size:=aC;simp[this] at hu⊢;exact hu
    omega
   have next:∀w',WI w'->JL p op gs fs St W0 Post ((⟨fn,t,.inRegion ops (i::Fx .any ops fuel (q/(uK .any ops bD).length) (bD.setIfInBounds i true) [])::k,false⟩:Fm).fin ops i (Fx .any ops fuel (q/(uK .any ops bD).length) (bD.setIfInBounds i true) []) k (vals i)) ms w':=by
    intro w' lX;have:=ih (q/(uK .any ops bD).length) (bD.setIfInBounds i true) _ w' zct P4 Ql lX;simp only[Fm.fin,ho,uF]
    cases hd:o.dst with
    |none=>simp_all
    |some d=>simp_all
   rcases hop i o ho with⟨h1,h2⟩|⟨h1,h2⟩|⟨h1,h2⟩
   .have H0:cO o (cS ops t)=false:=(Ns lA).trans h1
    refine JO.ctl L (m1:=(⟨fn,t,.inRegion ops (i::Fx .any ops fuel (q/(uK .any ops bD).length) (bD.setIfInBounds i true) [])::k,false⟩:Fm).fin ops i (Fx .any ops fuel (q/(uK .any ops bD).length) (bD.setIfInBounds i true) []) k aA) rfl hf (λw=>?_) ?_
    .simp only[q8,ho,Bz,vB,H0,jG,if_false,lR,bK]
    simp_all
   .have eD:cO o (cS ops t)=true:=(Ns lA).trans h1
    have:=next w hw
    refine JO.opv L hf ho eD (v:=vals i) (λT e=>?_) ?_
    .rw[Dx (K.sel i o ho) lA];simp_all
    .have e:(b7 ⟨t,[]⟩ o.dst (vals i)).tmps=(match o.dst with|some d=>t.setIfInBounds d (vals i)|none=>t):=by
      cases o.dst<;>rfl
     simp_all
   .have eD:cO o (cS ops t)=true:=(Ns lA).trans h1
    exact h2 t _ w (λx hx=>zh8 λs e=>lA s (by
     subst e;exact zrz _ (zs9.2 ⟨.tmp s,by simpa using hx,rfl⟩))) eD hw next
theorem JO.drawn (L:Lv p op gs gs₁ fs)(Jy:p.follows .mixedOrders=true){fn:aO}{t0 Tf:Array aF}{id:Nat}{vals:Nat->aF}{WI:aE->Prop}(hf:op fn=false)(bM:yO ops=true)(hT:cT ops vals t0=Tf)
 (Ht:∀w T e,WI w->WI (Tt.tp w T e)) (hop:∀(i:Nat) (o:aX),ops[i]? =some o->Ct p op gs fs St W0 Post fn ops k ms WI Tf i o (vals i)) (hk:∀w,WI w->JL p op gs fs St W0 Post ⟨fn,Tf,k,false⟩ ms w) {w:aE} (hw:WI w):
 JL p op gs fs St W0 Post ⟨fn,t0,.code (.region id ops true)::k,false⟩ ms w:=by
 have K:=Gr bM;subst hT;refine JO.one L.fit rfl (λe=>by cases e) (λT=>((⟨fn,t0,.inRegion ops (Md (p.follows .mixedOrders) ops (T 0 (.order fn id)))::k,false⟩,ms),Tt.tp w T 1)) (λT=>?_) (λT K' R y ho=>?_) (λT=>?_)
 .show(eK p _ ms).run p _=_
  rfl
 .obtain⟨f,xs,bZ,c,c',rest,E5,h1,h2,h3,h4,_⟩:=ho.ex
  simp only[oM] at h4;have h5:=congrArg Fm.fn h4.1;rw[Fj] at h5;simp_all
 .simp only[Md,Jy,Bool.true_or,if_true]
  exact JO.drawnGo L hf K (Gs K) Ht hop hk ops.size _ _ t0 (Tt.tp w T 1) aQ (eG (Y6 _ _) aQ) (qA.start _ λi=>by
   by_cases hi:i<ops.size<;>simp[hi]) (Ht _ _ _ hw)
end
abbrev rI (Tf:Array aF)(V:Nat->aF):Prop:=∀s,Tf.getD s aA=V s
def tP (ops:Array aX)(s:Nat):Bool:=ops.any λo=>o.dst==some s
def M0 (V:Nat->aF)(o:aX):Value:=match o.dst with|some d=>V d|none=>aA
theorem Tx {i:Nat}{d:Tmp}(h:ops[i]? =some o)(hd:o.dst=some d):tP ops d=true:=by
 unfold tP
 grind
variable {s:Nat}
theorem zDr (h:∀(i:Nat) (o:aX),ops[i]? =some o->o.dst≠some s):tP ops s=false:=by
 unfold tP;rw[Array.any_eq_false];intro i hi;have:=h i ops[i] (pK hi);simpa using this
variable {V:Nat->aF}
theorem fill_V {t0:Array aF}{vals:Nat->aF}(K:G2 ops)(zDK:∀(i:Nat) (o:aX) (d:Tmp),ops[i]? =some o->o.dst=some d->vals i=V d)(hd:∀s,tP ops s=true->s<t0.size)(hold:∀s,tP ops s=false->V s=t0.getD s aA):
 rI (cT ops vals t0) V:=by
 intro s;have M:=Gs (vals:=vals) (t0:=t0) K;rw[sZ];by_cases hex:∃(i:Nat) (o:aX),ops[i]? =some o/\o.dst=some s
 .obtain⟨i,o,h1,h2⟩:=hex
  have Bd:i<ops.size:=(dR.1 h1).1;rw[M.got i o s h1 h2 (hd s (Tx h1 h2)) (by simp[Bd])];exact zDK i o s h1 h2
 .have hn:∀(i:Nat) (o:aX),ops[i]? =some o->o.dst≠some s:=λi o h1 h2=>hex ⟨i,o,h1,h2⟩
  rw[M.old s (λi o h1 _=>hn i o h1),hold s (zDr hn),sZ]
section
variable {ops:Array aX}{Tf:Array aF}{V:Nat->aF}{o og:aX}{j d:Nat}{want b:Bool}
theorem dE (h:o.guard=none){y:Nat->Option Bool}:cO o y=true:=by unfold cO;rw[h]
theorem zzN (hT:rI Tf V)(hj:ops[j]? =some og)(hd:og.dst=some d)(hV:V d=.bool b):cS ops Tf j=some b:=by
 have h1:=(hT d).trans hV;rw[sZ] at h1;unfold cS;rw[hj];simp only[uF,hd]
 cases h:Tf[d]? with
 |none=>rw[h] at h1;cases h1
 |some v=>simp_all
theorem zGu (hT:rI Tf V)(h:o.guard=some (j,want))(hj:ops[j]? =some og)(hd:og.dst=some d)(hV:V d=.bool b):cO o (cS ops Tf)=(b==want):=by
 unfold cO;rw[h];simp only[zzN hT hj hd hV];simp_all
end
section
variable {p:bT}{op gs gs₁ fs:aO->Bool}{St:Nat->Prop}{W0:aE}{Post:aF->aE->Prop}
variable {ops:Array aX}{k:List dI}{ms:List Fm}
theorem Ct.lone (L:Lv p op gs gs₁ fs){fn:aO}{WI:aE->Prop}{Tf:Array aF}{i:Nat}{o:aX}{v:aF}{f:aO}{args:Array cJ}{jM:Array aN}(Al:op fn=false)(ho:ops[i]? =some o)
 (h:cO o (cS ops Tf)=true) (hop:o.op=.call ⟨.value (.func f),args,jM⟩) (hg:gs₁ f=true) (rS:args.all (dP fs)=true) (Ht:∀w T e,WI w->WI (Tt.tp w T e))
 (hc:∀w,WI w->fJ p f (args.map (bE Tf []).eval) w (λe w'=>e=.returned v/\WI w')):Ct p op gs fs St W0 Post fn ops k ms WI Tf i o v:=by
 refine .call h λt rest w l9 hw zBT Pa=>?_;have ha:args.map (Fm.eval ⟨fn,t,.inRegion ops (i::rest)::k,false⟩)=args.map (bE Tf []).eval:=by
  apply Array.map_congr_left;intro x hx;have h1:x∈o.op.operands:=by rw[hop];simp[Op.operands,Call.operands,hx]
  rw[<-l9 x h1];cases x<;>rfl
 refine JO.callL L rfl rfl ho hw hop hg Al rS (Q:=λv' w'=>v'=v/\WI w') (λv' w' T e q=>⟨q.1,Ht _ _ _ q.2⟩) (λT=>?_) (λv' w' q=>?_)
 .rw[ha]
  exact(hc _ (Ht _ _ _ zBT)).mono λe w' q=>⟨v,q.1,rfl,q.2⟩
 simp_all
theorem JO.drawnV (L:Lv p op gs gs₁ fs)(Jy:p.follows .mixedOrders=true){fn:aO}{t0:Array aF}{id:Nat}{WI:aE->Prop}(hf:op fn=false)(bM:yO ops=true)
 (Ht:∀w T e,WI w->WI (Tt.tp w T e)) (cK:∀s,tP ops s=true->s<t0.size) (U:Nat->aF)
 (h:∀V:Nat->aF,(∀s,tP ops s=true->V s=U s)->(∀s,tP ops s=false->V s=t0.getD s aA)->
  (∀Tf,rI Tf V->∀(i:Nat) (o:aX),ops[i]? =some o->Ct p op gs fs St W0 Post fn ops k ms WI Tf i o (M0 V o))/\∀Tf w,rI Tf V->Tf.size=t0.size->WI w->JL p op gs fs St W0 Post ⟨fn,Tf,k,false⟩ ms w) {w:aE} (hw:WI w):
 JL p op gs fs St W0 Post ⟨fn,t0,.code (.region id ops true)::k,false⟩ ms w:=by
 let V:Nat->Value:=λs=>if tP ops s=true then U s else t0.getD s aA
 have zaX:∀s,tP ops s=true->V s=U s:=λs e=>if_pos e;have zbU:∀s,tP ops s=false->V s=t0.getD s undef:=λs e=>if_neg (by simp[e]);obtain⟨h1,h2⟩:=h V zaX zbU
 let vals:Nat->Value:=λi=>match ops[i]? with|some o=>M0 V o|none=>aA
 have zEn:rI (cT ops vals t0) V:=fill_V (Gr bM) (λi o d e1 e2=>by
  show(match ops[i]? with|some o=>M0 V o|none=>aA)=V d;rw[e1];simp only[M0,e2]) cK zbU
 refine JO.drawn L Jy hf bM (vals:=vals) (Tf:=cT ops vals t0) rfl Ht (λi o e=>?_) (λw hw=>h2 _ w zEn (Gs (Gr bM)).size hw) hw
 grind
end
theorem zAr {n:Nat}(h2:(ops.all λo=>match o.dst with|some d=>decide (d<n)|none=>true)=true):∀s,tP ops s=true->s<n:=by
 intro s hs;unfold tP at hs
 grind
def jP {Tf:Array aF}(hT:rI Tf V){v:aF}(hv:V s=v):(bE Tf []).eval (.tmp s)=v:=((hT s).trans hv)
section
variable {ops:Array aX}{Tf:Array aF}{V:Nat->aF}{o og:aX}{j d:Nat}{b c:Bool}
theorem tE (hT:rI Tf V)(h:o.guard=some (j,b))(hj:ops[j]? =some og)(hd:og.dst=some d)(hV:V d=.bool b):cO o (cS ops Tf)=true:=
 (zGu hT h hj hd hV).trans (by cases b<;>rfl)
end
section
variable {p:bT}{ρ:cJ->aF}{o:aX}{w:aE}
theorem zcw {x:cJ}{v:aF}(ho:o.op=.move x\/o.op=.assign x)(hx:ρ x=v):(aS ρ o).run p w=.ok (.value v) w:=by
 rcases ho with ho|ho<;>(unfold aS;rw[ho,<-hx];rfl)
variable {A:Option Addr}{t:aN}
theorem zfu {x:cJ}{n c:Nat}{e:aN}(ho:o.op=.call ⟨.builtin .len,#[x],#[t]⟩)(hu:p.underlying t=some (.slice e))(hx:ρ x=.slice A n c):(aS ρ o).run p w=.ok (.value (.int .i64 n)) w:=by
 have Nt:∀w,(underlying t).run p w=.ok (.slice e) w:=λw=>by simp[underlying,program,bK,bind,x3,pure,hu]
 unfold aS;rw[ho];simp[go_sem,hx,Nt,Builtin.len_,uR]
theorem zbd {s x:cJ}{a b v:aF}{w':aE}(ho:o.op=.call ⟨.builtin .append,#[s,x],#[t,t]⟩)(hs:ρ s=a)(hx:ρ x=b)(hr:(xG #[t,t] o.type #[a,b]).run p w=.ok v w'):(aS ρ o).run p w=.ok (.value v) w':=by
 unfold aS;simp only[ho,resolve,invoke,builtin,Sem.run_bind,Sem.run_pure,Result.andThen_ok,List.map_toArray,jD,List.map_nil,hs,hx,hr]
end
def AllL (Q:Nat->aX->Prop):Nat->List aX->Prop
 |_,[]=>True
 |i,o::l=>Q i o/\AllL Q (i+1) l
variable {Q:Nat->aX->Prop}
theorem zu3 :∀(l:List aX) (k:Nat),AllL Q k l->∀(i:Nat) (o:aX),l[i]? =some o->Q (k+i) o
 |[],k,h,i,o,e=>by simp at e
 |x::l,k,h,0,o,e=>by simp at e;subst e;exact h.1
 |x::l,k,h,i+1,o,e=>by
  have:=zu3 l (k+1) h.2 i o (by simpa using e)
  grind
theorem Hr {l:List aX}(hl:ops.toList=l)(h:AllL Q 0 l):∀(i:Nat) (o:aX),ops[i]? =some o->Q i o:=λi o e=>by
 have:=zu3 l 0 h i o (by rw[<-hl,C3];exact e);simp_all
def wV (vals:Nat->aF):List (Option Tmp)->Nat->List aF->List aF
 |[],_,t=>t
 |none::l,i,t=>wV vals l (i+1) t
 |some d::l,i,t=>wV vals l (i+1) (t.set d (vals i))
theorem zO (ops:Array aX)(vals:Nat->aF)(t0:List aF):cT ops vals t0.toArray=(wV vals (ops.toList.map (·.dst)) 0 t0).toArray:=by
 have key:∀(l:List aX) (k:Nat) (t:List aF),(∀i,l[i]? =ops[k+i]?)->
  (List.range' k l.length).foldl (λt i=>match(ops[i]?).bind (·.dst) with|some d=>t.setIfInBounds d (vals i)|none=>t) t.toArray=(wV vals (l.map (·.dst)) k t).toArray:=by
  intro l
  induction l with
  |nil=>intro k t _;rfl
  |cons o l ih=>
   intro k t h;have h0:=h 0;simp at h0;rw[wL,List.range'_succ,Pb,<-h0];simp only[uF,jD];have h1:∀i,l[i]? =ops[k+1+i]? :=λi=>by have:=h (i+1);simp at this;rw[this];congr 1;omega
   cases hd:o.dst with
   |none=>exact ih (k+1) t h1
   |some d=>
    simp only[List.setIfInBounds_toArray];exact ih (k+1) _ h1
 have:=key ops.toList 0 t0 (λi=>by simp);unfold cT;rw[List.range_eq_range',<-Array.length_toList];exact this
def Ex (o:aX)(j:Nat):Bool:=o.after.any λe=>Fi .any e&&e.on==j
def J3 (ops:Array aX):List Nat->Bool
 |a::b::l=>(match ops[b]? with|some o=>Ex o a|none=>false)&&J3 ops (b::l)
 |[a]=>decide (a<ops.size)
 |[]=>true
def zbl (ops:Array aX):Nat->aX->Nat->Bool
 |0,o,j=>Ex o j
 |n+1,o,j=>Ex o j||o.after.any λe=>Fi .any e&&(match ops[e.on]? with|some o'=>zbl ops n o' j|none=>false)
def zdc (ops:Array aX)(ws:List Nat)(i k:Nat):Bool:=
 (ws.take k).all (λj=>match ops[j]? with|some o=>!zbl ops 5 o i|none=>true)&&(ws.drop k).all (λj=>match ops[i]? with|some o=>!Ex o j|none=>true)
inductive bR (P:bT)(ops:Array aX)(ws:List Nat)(Wd:Nat->aE)(Tf:Array aF)(i:Nat)(o:aX)(v:aF):Prop
 |no (hn:i∉ws) (h:cO o (cS ops Tf)=false) (hv:v=aA)
 |val (hn:i∉ws) (h:cO o (cS ops Tf)=true) (hx:∀k,k<=ws.length->zdc ops ws i k=true->(aS (bE Tf []).eval o).run P (Wd k)=.ok (.value v) (Wd k))
 |act (k:Nat) (hk:ws[k]? =some i) (h:cO o (cS ops Tf)=true) (hx:(aS (bE Tf []).eval o).run P (Wd k)=.ok (.value v) (Wd (k+1)))
 |skp (k:Nat) (hk:ws[k]? =some i) (h:cO o (cS ops Tf)=true) (hv:v=aA) (hx:(aS (bE Tf []).eval o).run P (Wd k)=.ok .skip (Wd (k+1)))
 |actn (k:Nat) (hk:ws[k]? =some i) (h:cO o (cS ops Tf)=true) (hd:o.dst=none) (u:aF) (hx:(aS (bE Tf []).eval o).run P (Wd k)=.ok (.value u) (Wd (k+1)))
section
variable {P:bT}{ops:Array aX}{ws:List Nat}{Wd:Nat->aE}{Q:Exit->uL->aE->Prop}{t0 Tf:Array aF}{vals:Nat->aF}
structure Jp (ops:Array aX)(ws:List Nat)(bD:Array Bool)(k:Nat):Prop where
 closed:∀(i:Nat) (o:aX),ops[i]? =some o->bD.getD i false=true->∀j,Ex o j=true->bD.getD j false=true
 le:k<=ws.length
 pre:∀(n i:Nat),ws[n]? =some i->(bD.getD i false=true↔n<k)
theorem Jp.closedT {bD:Array Bool}{k:Nat}(h:Jp ops ws bD k):∀(n:Nat) (i:Nat) (o:aX),ops[i]? =some o->bD.getD i false=true->∀j,zbl ops n o j=true->bD.getD j false=true
 |0,i,o,hi,hl,j,hj=>h.closed i o hi hl j hj
 |n+1,i,o,hi,hl,j,hj=>by
  simp only[zbl,C4] at hj;rcases hj with hj|hj
  .exact h.closed i o hi hl j hj
  .rw[zeD] at hj
   obtain⟨x,hx,h3⟩:=hj;simp only[iT] at h3;obtain⟨h4,h5⟩:=h3;split at h5
   .next o' xL=>
    refine h.closedT n _ o' xL (h.closed i o hi hl _ ?_) j h5;unfold Ex;rw[zeD];exact⟨x,hx,by simp[h4]⟩
   .cases h5
theorem zjZ:∀{ws:List Nat},J3 ops ws=true->∀(n a b:Nat),ws[n]? =some a->ws[n+1]? =some b->∃o,ops[b]? =some o/\Ex o a=true
 |[],_,n,a,b,h,_=>by simp at h
 |[x],_,n,a,b,h,h'=>by simp at h'
 |x::y::l,hc,0,a,b,h,h'=>by
  simp at h h';subst h h';simp only[J3,iT] at hc
  grind
 |x::y::l,hc,n+1,a,b,h,h'=>by
  simp only[J3,iT] at hc;exact zjZ hc.2 n a b zhp (by simpa using h')
theorem zxx {l:Array Bool}{i:Nat}(h:l.getD i true=false):l.getD i false=false:=by grind
theorem Jp.keep {bD:Array Bool}{k i:Nat}{o:aX}(h:Jp ops ws bD k)(hi:ops[i]? =some o)(hn:i∉ws)(hd:∀j,Ex o j=true->bD.getD j false=true):Jp ops ws (bD.setIfInBounds i true) k:=by
 have mono:∀j,bD.getD j false=true->(bD.setIfInBounds i true).getD j false=true:=λj hj=>by
  by_cases e:j=i
  .subst e
   rw[sZ] at hj⊢
   cases e2:bD[j]? with
   |none=>rw[e2] at hj;cases hj
   |some x=>have:j<bD.size:=(dR.1 e2).1;simp[this]
  .rw[Mv false (Ne.symm e)];exact hj
 refine⟨λa oa ha hl j hj=>?_,h.le,λn a ha=>?_⟩
 .by_cases e:a=i
  .subst e
   rw[hi] at ha;obtain rfl:=cH ha;exact mono j (hd j hj)
  .rw[Mv false (Ne.symm e)] at hl
   exact mono j (h.closed a oa ha hl j hj)
 .have e:a≠i:=λe=>hn (e▸fI ha)
  rw[Mv false (Ne.symm e)];exact h.pre n a ha
theorem Jp.next {bD:Array Bool}{k n i:Nat}{o:aX}(lK:ws.Nodup)(hc:J3 ops ws=true)(h:Jp ops ws bD k)(hi:ops[i]? =some o)(hz:i<bD.size)(hn:ws[n]? =some i)(hu:bD.getD i false=false)(hd:∀j,Ex o j=true->bD.getD j false=true):
 n=k/\Jp ops ws (bD.setIfInBounds i true) (k+1):=by
 have pP:n<ws.length:=(l8.1 hn).1;have hk:n=k:=by
  have h1:¬n<k:=λx=>by have:=(h.pre n i hn).2 x;rw[hu] at this;cases this
  rcases rM k n with x|x
  .exfalso
   obtain⟨m,rfl⟩:∃m,n=m+1:=⟨n-1,aC⟩;obtain⟨a,ha⟩:∃a,ws[m]? =some a:=⟨ws[m],nI aC⟩;obtain⟨o',xL,hw⟩:=zjZ hc m a i ha hn;rw[hi] at xL;obtain rfl:=cH xL;have:=(h.pre m a ha).1 (hd a hw);omega
  .omega
 subst hk;have mono:∀j,bD.getD j false=true->(bD.setIfInBounds i true).getD j false=true:=λj hj=>by
  by_cases e:j=i
  .subst e;simp[hz]
  .rw[Mv false (Ne.symm e)];exact hj
 refine⟨rfl,λa oa ha hl j hj=>?_,aC,λm a ha=>?_⟩
 .by_cases e:a=i
  .subst e
   rw[hi] at ha;obtain rfl:=cH ha;exact mono j (hd j hj)
  .rw[Mv false (Ne.symm e)] at hl
   exact mono j (h.closed a oa ha hl j hj)
 .by_cases e:a=i
  .subst e
   have hm:m=n:=by
    have h1:m<ws.length:=(l8.1 ha).1;have e1:=(l8.1 ha).2;have e2:=(l8.1 hn).2;exact(List.getElem_inj lK).1 (e1.trans e2.symm)
   subst hm;simp[hz]
  .have hm:m≠n:=λx=>e (by subst x;rw[hn] at ha;exact(cH ha).symm)
   rw[Mv false (Ne.symm e),h.pre m a ha];omega
theorem zGm (t:Array aF)(d:List Gw):(bE t d).eval=(bE t []).eval:=by funext x;cases x<;>rfl
theorem ztt (K:G2 ops):∀{ws:List Nat},J3 ops ws=true->∀(n i:Nat),ws[n]? =some i->i<ops.size
 |[],_,n,i,hi=>by simp at hi
 |[a],hc,0,i,hi=>by simp at hi;subst hi;simpa[J3] using hc
 |[a],hc,n+1,i,hi=>by simp at hi
 |a::b::l,hc,0,i,hi=>by
  simp at hi;subst hi;obtain⟨o,h1,h2⟩:=zjZ hc 0 a b rfl rfl;unfold Ex at h2;rw[zeD] at h2;obtain⟨x,hx,h3⟩:=h2;simp only[iT,beq_iff_eq] at h3;have:=K.bk b o h1 _ (zoX hx) h3.1
  grind
 |a::b::l,hc,n+1,i,hi=>by
  simp only[J3,iT] at hc;exact ztt K hc.2 n i zhD
theorem zFi (K:G2 ops)(lK:ws.Nodup)(hc:J3 ops ws=true)(hT:qA ops vals t0 (nK ops.size true) Tf){d:List Gw}
 (hop:∀(i:Nat) (o:aX),ops[i]? =some o->bR P ops ws Wd Tf i o (vals i)) (hk:Q .normal ⟨Tf,d⟩ (Wd ws.length)):
 ∀(fuel:Nat) (bD:Array Bool) (t:Array aF) (k:Nat),bD.size=ops.size->((fV ops.size).filter λi=>!bD.getD i false).length<=fuel->qA ops vals t0 bD t->Jp ops ws bD k->
  wpAny P .any ops Q fuel bD ⟨t,d⟩ (Wd k):=by
 have zAB:=ztt K hc;have fin:∀(bD:Array Bool) (t:Array aF) (k:Nat),bD.size=ops.size->(∀i,i<ops.size->bD.getD i false=true)->qA ops vals t0 bD t->Jp ops ws bD k->Q .normal ⟨t,d⟩ (Wd k):=by
  intro bD t k hz sY hm aY;have e:bD=nK ops.size true:=by
   apply zas;intro j;by_cases hj:j<ops.size
   .have:=sY j hj
    have uW:j<bD.size:=aC;simp[uW] at this;simp[hj,uW,this]
   .rw[Nr aC,Nr pX]
  subst e;have e2:=hm.unique hT;subst e2;have e3:k=ws.length:=by
   rcases rM k ws.length with x|x
   .have h1:ws[k]? =some ws[k]:=nI x
    have:=(aY.pre k _ h1).1 (sY _ (zAB k _ h1));omega
   .have:=aY.le;omega
  rw[e3];exact hk
 intro fuel
 induction fuel with
 |zero=>
  intro bD t k hz P4 hm aY;have sY:∀i,i<ops.size->bD.getD i false=true:=λi hi=>by
   cases hl:bD.getD i false with
   |true=>rfl
   |false=>
    have:i∈(fV ops.size).filter λi=>!bD.getD i false:=Jo.2 ⟨Da.2 hi,by rw[hl];rfl⟩;have:=List.length_pos_of_mem this;omega
  refine⟨?_,fin bD t k hz sY hm aY⟩;apply List.eq_nil_iff_forall_not_mem.2;intro i hi;obtain⟨hu,o,ho,_⟩:=zgZ.1 hi;have:=sY i (dR.1 ho).1;rw[zxx hu] at this;cases this
 |succ fuel ih=>
  intro bD t k hz P4 hm aY;refine⟨λhr=>fin bD t k hz (zny K hz hr) hm aY,λi hi=>?_⟩;obtain⟨hu,o,ho,sX⟩:=zgZ.1 hi;have Nt:=zxx hu;have lA:=hm.sees K hT ho sX;have Ql:=hm.step K ho hz hu;have Bd:i<ops.size:=(dR.1 ho).1;have hw:∀j,Ex o j=true->bD.getD j false=true:=λj hj=>by
   unfold Ex at hj;rw[zeD] at hj;obtain⟨x,hx,h3⟩:=hj;simp only[iT,beq_iff_eq] at h3;have:=sX _ (zoX hx) h3.1
   rwa [h3.2] at this
  have zFk:((fV ops.size).filter λj=>!(bD.setIfInBounds i true).getD j false).length<=fuel:=by
   have aU:((fV ops.size).filter λj=>!(bD.setIfInBounds i true).getD j false).length<((fV ops.size).filter λj=>!bD.getD j false).length:=by
    have e:((fV ops.size).filter λj=>!(bD.setIfInBounds i true).getD j false)=((fV ops.size).filter λj=>!bD.getD j false).filter (λj=>j !=i):=by
     rw[zpG];apply zxM;intro j hj;by_cases e:j=i
     .subst e
      have:j<bD.size:=aC;simp[this]
     .rw[Mv false (Ne.symm e)]
      simp[e]
    rw[e];refine zrQ.2 ⟨i,Jo.2 ⟨Da.2 Bd,?_⟩,aQ⟩;rw[Nt];rfl
   omega
  have put_eq:∀v,(b7 ⟨t,d⟩ o.dst v)=⟨(match o.dst with|some s=>t.setIfInBounds s v|none=>t),d⟩:=λv=>by
   unfold b7;cases o.dst<;>rfl
  have goon:∀k',Jp ops ws (bD.setIfInBounds i true) k'->wpAny P .any ops Q fuel (bD.setIfInBounds i true) (b7 ⟨t,d⟩ o.dst (vals i)) (Wd k'):=λk' Nb=>by
   rw[put_eq];exact ih _ _ k' zct zFk Ql Nb
  have l9:(bE t d).eval=(bE t []).eval:=zGm t d;unfold wpOp;simp only[ho];rcases hop i o ho with⟨hn,h1,h2⟩|⟨hn,h1,h2⟩|⟨n,hn,h1,h2⟩|⟨n,hn,h1,hv,h2⟩|⟨n,hn,h1,hd,u,h2⟩
  .rw[if_neg (by rw[(Ns lA).trans h1];simp),<-h2]
   exact goon k (aY.keep ho hn hw)
  .rw[if_pos ((Ns lA).trans h1)]
   refine .inl ?_;have zHe:zdc ops ws i k=true:=by
    unfold zdc;rw[iT,vA,vA];refine⟨λj hj=>?_,λj hj=>?_⟩
    .obtain⟨m,xA⟩:=zo7 hj
     rw[List.getElem?_take] at xA;split at xA
     .next zfE=>
      split
      .next oj hoj=>
       cases hq:zbl ops 5 oj i with
       |false=>rfl
       |true=>
        have:=aY.closedT 5 j oj hoj ((aY.pre m j xA).2 zfE) i hq;rw[Nt] at this;cases this
      .rfl
     .cases xA
    .obtain⟨m,xA⟩:=zo7 hj
     rw[List.getElem?_drop] at xA;simp only[ho]
     cases hq:Ex o j with
     |false=>rfl
     |true=>
      have:=(aY.pre (k+m) j xA).1 (hw j hq);omega
   show o.upon P ⟨t,d⟩ _ Q ((aS (bE t d).eval o).run P (Wd k));rw[l9,Dx (K.sel i o ho) lA,h2 k aY.le zHe];exact goon k (aY.keep ho hn hw)
  .rw[if_pos ((Ns lA).trans h1)]
   refine .inl ?_;obtain⟨rfl,Nb⟩:=aY.next lK hc ho aC hn Nt hw;show o.upon P ⟨t,d⟩ _ Q ((aS (bE t d).eval o).run P (Wd n));rw[l9,Dx (K.sel i o ho) lA,h2];exact goon _ Nb
  .rw[if_pos ((Ns lA).trans h1)]
   refine .inl ?_;obtain⟨rfl,Nb⟩:=aY.next lK hc ho aC hn Nt hw;show o.upon P ⟨t,d⟩ _ Q ((aS (bE t d).eval o).run P (Wd n));rw[l9,Dx (K.sel i o ho) lA,h2];have:=goon _ Nb;rw[hv] at this;exact this
  .rw[if_pos ((Ns lA).trans h1)]
   refine .inl ?_;obtain⟨rfl,Nb⟩:=aY.next lK hc ho aC hn Nt hw;show o.upon P ⟨t,d⟩ _ Q ((aS (bE t d).eval o).run P (Wd n));rw[l9,Dx (K.sel i o ho) lA,h2];have:=goon _ Nb;have e:∀x y,b7 ⟨t,d⟩ o.dst x=b7 ⟨t,d⟩ o.dst y:=λx y=>by rw[hd];rfl
   rw[e _ u] at this;exact this
theorem zAP {id:Nat}{w:aE}{d:List Gw}(hm:P.follows .mixedOrders=true)(bM:yO ops=true)(lK:ws.Nodup)(hc:J3 ops ws=true)(h0:Wd 0={w with drawn:=w.drawn+1})(hT:cT ops vals t0=Tf)
 (hop:∀(i:Nat) (o:aX),ops[i]? =some o->bR P ops ws Wd Tf i o (vals i)) (hk:Q .normal ⟨Tf,d⟩ (Wd ws.length)):(Code.region id ops true).wp P Q ⟨t0,d⟩ w:=by
 refine wp_region_any hm ?_;have K:=Gr bM;subst hT;rw[<-h0];refine zFi K lK hc (Gs K) hop hk ops.size _ t0 0 aQ (eG (Y6 _ _) aQ) (qA.start _ λi=>by by_cases hi:i<ops.size<;>simp[hi]) ⟨λi o _ hl=>?_,mK _,λn i hn=>?_⟩
 .exfalso
  by_cases hi:i<ops.size<;>simp[hi] at hl
 .constructor
  .intro hl
   exfalso;by_cases hi:i<ops.size<;>simp[hi] at hl
  .intro x;omega
theorem Jr {id:Nat}{w:aE}{d:List Gw}(hm:P.follows .mixedOrders=true)(bM:yO ops=true)(lK:ws.Nodup)(hc:J3 ops ws=true)(h0:Wd 0={w with drawn:=w.drawn+1})(cK:∀s,tP ops s=true->s<t0.size)
 (h:∀V:Nat->aF,(∀(i:Nat) (o:aX) (d:Tmp),ops[i]? =some o->o.dst=some d->V d=vals i)->(∀s,tP ops s=false->V s=t0.getD s aA)->
  ∀Tf,rI Tf V->∀(i:Nat) (o:aX),ops[i]? =some o->bR P ops ws Wd Tf i o (M0 V o)) (hk:Q .normal ⟨cT ops vals t0,d⟩ (Wd ws.length)):(Code.region id ops true).wp P Q ⟨t0,d⟩ w:=by
 have K:=Gr bM;have M:=Gs (vals:=vals) (t0:=t0) K
 let Tf:=cT ops vals t0
 have zaX:∀(i:Nat) (o:aX) (d:Tmp),ops[i]? =some o->o.dst=some d->Tf.getD d aA=vals i:=λi o d h1 h2=>by
  have Bd:i<ops.size:=(dR.1 h1).1;rw[sZ,M.got i o d h1 h2 (cK d (Tx h1 h2)) (by simp[Bd])];rfl
 have zbU:∀s,tP ops s=false->Tf.getD s aA=t0.getD s undef:=λs hs=>by
  rw[sZ,M.old s (λi o h1 _ h2=>by rw[Tx h1 h2] at hs;cases hs),sZ]
 have hop:=h (λs=>Tf.getD s aA) zaX zbU Tf (λs=>rfl)
 let zdM:Nat->Value:=λi=>match ops[i]? with|some o=>M0 (λs=>Tf.getD s aA) o|none=>aA
 have e:cT ops zdM t0=cT ops vals t0:=by
  refine(Gs (vals:=zdM) K).unique ⟨M.size,λi o d h1 h2 h3 h4=>?_,M.old⟩;rw[M.got i o d h1 h2 h3 h4];show some (vals i)=some (match ops[i]? with|some o=>M0 (λs=>Tf.getD s aA) o|none=>aA);rw[h1];simp only[M0,h2];rw[zaX i o d h1 h2]
 refine zAP hm bM lK hc h0 e (λi o h1=>?_) hk
 grind
end
end Go.Mt
namespace Go.Mt
open Go.Conc Go.Tt Go.RowKit
section
variable {P:bT}{ops:Array aX}{ws:List Nat}{Wd:Nat->aE}{Tf:Array aF}{V:Nat->aF}{i d:Nat}{o:aX}{v:aF}
theorem bR.pv (hn:i∉ws:=by decide)(h:cO o (cS ops Tf)=true:=by exact dE rfl)(hv:V d=v:=by assumption)
 (hx:∀w,(aS (bE Tf []).eval o).run P w=.ok (.value v) w:=by intro w;unfold execOp;go_simp):bR P ops ws Wd Tf i o (V d):=hv▸ .val hn h λ_ _ _=>hx _
def early (ops:Array aX)(ws:List Nat)(i:Nat):Bool:=(fV ws.length).all λk=>!zdc ops ws i (k+1)
theorem bR.ld {w0:aE}(h0:Wd 0=w0:=by assumption)(hn:i∉ws:=by decide)(h:cO o (cS ops Tf)=true:=by exact dE rfl)(hv:V d=v:=by assumption)(hm:early ops ws i=true:=by decide+kernel)
 (hx:(aS (bE Tf []).eval o).run P w0=.ok (.value v) w0:=by unfold execOp;go_simp):bR P ops ws Wd Tf i o (V d):=hv▸ .val hn h λk hk zfE=>by
 rcases k with _|k
 .rw[h0];exact hx
 .have:=vA.1 hm k (Da.2 aC)
  rw[zfE] at this;cases this
theorem bR.any (hx:∀k,k<=ws.length->zdc ops ws i k=true->(aS (bE Tf []).eval o).run P (Wd k)=.ok (.value v) (Wd k))(hn:i∉ws:=by decide)(h:cO o (cS ops Tf)=true:=by exact dE rfl)(hv:V d=v:=by assumption):bR P ops ws Wd Tf i o (V d):=
 hv▸ .val hn h hx
def X5 (V:Nat->aF):List (Option Nat)->List aF->Prop
 |some d::D,v::l=>V d=v/\X5 V D l
 |none::D,_::l=>X5 V D l
 |_,_=>True
theorem zjN:∀(D:List (Option Nat)) (l:List aF),(∀(i:Nat) (d:Nat),D[i]? =some (some d)->i<l.length->V d=l.getD i aA)->X5 V D l
 |some d::D,v::l,h=>⟨h 0 d rfl aQ,zjN D l λi d' e hi=>by simpa using h (i+1) d' (by simpa using e) zhD⟩
 |none::D,_::l,h=>zjN D l λi d' e hi=>by simpa using h (i+1) d' (by simpa using e) zhD
 |[],_,_=>trivial
 |some _::_,[],_=>trivial
 |none::_,[],_=>trivial
theorem Ie {l:List aF}{D:List (Option Nat)}(hD:ops.toList.map (·.dst)=D)(hU:∀(i:Nat) (o:aX) (d:Tmp),ops[i]? =some o->o.dst=some d->V d=l.getD i aA):X5 V D l:=
 zjN D l λi d e _=>by
  rw[<-hD,List.getElem?_map] at e;obtain⟨o,h1,h2⟩:=Aa.1 e;exact hU i o d (by rw[<-C3];exact h1) h2
end
end Go.Mt
namespace Go.Proofs.YtfcjiloojkjaeaaGreatDoor
open Go.RowKit Go.Mt Go.Conc Go.Tt Go.Maps
def bodyRG:Go.Code:=(Tryz.f63.body).getD .skip
def rRG7:Go.Code:=match bodyRG with| .seq _ (.seq _ (.seq _ (.seq (a) _)))=>a|_=>.skip
def yW:Array Oper:=match rRG7 with| .region _ ops _=>ops|_=>#[]
def zpd:yW.toList=[aM yW 0 (some 36) (.fieldAddr 59 (.tmp 2) 2),aM yW 1 (some 37) (.load 45 (.tmp 36)),aM yW 2 (some 38) (.fieldAddr 100 (.tmp 3) 0),aM yW 3 (some 39) (.load 3 (.tmp 38)),aM yW 4 (some 40) (.move (.tmp 6)),aM yW 5 (some 41) (.indexAddr 38 (.tmp 40) (.const (.int .i64 0))),aM yW 6 (some 42) (.load 3 (.tmp 41)),aM yW 7 (some 43) (.fieldAddr 59 (.tmp 2) 1),aM yW 8 (some 44) (.load 3 (.tmp 43)),aM yW 9 (some 45) (.build 50 #[(0,.tmp 39),(1,.tmp 42),(3,.tmp 44),(4,.const (.int .i64 (-1))),(5,.const (.int .i64 (-1))),(6,.const (.string {data:=#[111,112,101,110]}))]),aM yW 10 (some 46) (.buildSlice 45 1 #[(0,.tmp 45)]),aM yW 11 (some 47) (.call ⟨.builtin .append,#[.tmp 37,.tmp 46],#[45,45]⟩),aM yW 12 (some 48) (.fieldAddr 59 (.tmp 2) 2),aM yW 13 none (.store 45 (.tmp 48) (.tmp 47))]:=rfl
def WRG7 (w w3:aE)(gb gf gR nR cR g1 c1 nf cf:Nat)(cc l clk:Int):Nat->aE
 |0=>w.drew
 |1=>(w.alloc (.cells #[.int .i64 cc,.int .i64 l,.int .i64 0,.int .i64 clk,.int .i64 (-1),.int .i64 (-1),.string eN] 50)).drew
 |2=>w3
 |_=>w3.setCell ⟨gb,4,none⟩ (.slice (some ⟨g1,0,none⟩) (nR+1) c1)
theorem zu6:yW.toList.map (·.dst)=[some 36,some 37,some 38,some 39,some 40,some 41,some 42,some 43,some 44,some 45,some 46,some 47,some 48,none]:=by rw[zpd];rfl
def lRG7 (w w3:aE)(gb gf gR nR cR g1 c1 nf cf:Nat)(cc l clk:Int):List Value:=[.pointer (some ⟨gb,4,none⟩),.slice (some ⟨gR,0,none⟩) nR cR,.pointer (some ⟨gb+1,0,none⟩),.int .i64 (cc),.slice (some ⟨gf,0,none⟩) nf cf,.pointer (some ⟨gf,0,none⟩),.int .i64 (l),.pointer (some ⟨gb,3,none⟩),.int .i64 (clk),.agg #[.int .i64 cc,.int .i64 l,.int .i64 0,.int .i64 clk,.int .i64 (-1),.int .i64 (-1),.string eN],.slice (some ⟨w.heap.size,0,none⟩) 1 1,.slice (some ⟨g1,0,none⟩) (nR+1) c1,.pointer (some ⟨gb,4,none⟩),aA]
def fRG7 (w w3:aE)(gb gf gR nR cR g1 c1 nf cf:Nat)(cc l clk:Int)(i:Nat):Value:=(lRG7 w w3 gb gf gR nR cR g1 c1 nf cf cc l clk).getD i aA
variable {Q:Exit->uL->aE->Prop}{d:List Gw}{t0:Array aF}
theorem wp_RG7 (w w3:aE)(gb gf gR nR cR g1 c1 nf cf:Nat)(cc l clk:Int)(hz:t0.size=60)(Rx:t0.getD 2 aA=.pointer (some ⟨gb,0,none⟩))(znj:t0.getD 3 aA=.pointer (some ⟨gb+1,0,none⟩))(zb1:t0.getD 6 aA=.slice (some ⟨gf,0,none⟩) nf cf)(h3:w.cell? ⟨gb,3,none⟩=some (.int .i64 clk))(h4:w.cell? ⟨gb,4,none⟩=some (.slice (some ⟨gR,0,none⟩) nR cR))(hq:w.cell? ⟨gb+1,0,none⟩=some (.int .i64 cc))(hf:w.cell? ⟨gf,0,none⟩=some (.int .i64 l))(Ga:0<nf)(fM:(xG #[45,45] 45 #[.slice (some ⟨gR,0,none⟩) nR cR,.slice (some ⟨w.heap.size,0,none⟩) 1 1]).run aK ((w.alloc (.cells #[.int .i64 cc,.int .i64 l,.int .i64 0,.int .i64 clk,.int .i64 (-1),.int .i64 (-1),.string eN] 50)).drew)=.ok (.slice (some ⟨g1,0,none⟩) (nR+1) c1) w3)(aY:w3.cell? ⟨gb,4,none⟩=some (.slice (some ⟨gR,0,none⟩) nR cR))(oH:w3.frozen? ⟨gb,4,none⟩=false)(h0:WRG7 w w3 gb gf gR nR cR g1 c1 nf cf cc l clk 0=w.drew)(hk:Q .normal ⟨cT yW (fRG7 w w3 gb gf gR nR cR g1 c1 nf cf cc l clk) t0,d⟩ (w3.setCell ⟨gb,4,none⟩ (.slice (some ⟨g1,0,none⟩) (nR+1) c1))):
 (F5 7 yW true).wp aK Q ⟨t0,d⟩ w:=by
 refine Jr (ws:=[10,11,13]) (Wd:=WRG7 w w3 gb gf gR nR cR g1 c1 nf cf cc l clk) (vals:=fRG7 w w3 gb gf gR nR cR g1 c1 nf cf cc l clk) uB.mixed aP aH aP h0 Ho (λV hU hV=>?_) hk;obtain⟨zBq,zxE,zo0,zmX,ziw,zpA,ztq,zjw,ztx,zh3,Ye,zcY,ziy,-⟩:=Ie zu6 hU;have e2:=(hV 2 aP).trans Rx;have e3:=(hV 3 aP).trans znj;have e6:=(hV 6 aP).trans zb1;have zhc:=h3;have Lq:=h4;have Ni:=hq;have Ei:=hf;refine λTf hT=>Hr zpd ⟨bR.pv,bR.any (λkk gI hm=>?_),bR.pv,bR.ld,bR.pv,bR.any (λkk gI hm=>?_),bR.ld,bR.pv,bR.ld,bR.any (λkk gI hm=>?_),bR.act (v:=V 46) 0 rfl (dE rfl) ?_,bR.act (v:=V 47) 1 rfl (dE rfl) ?_,bR.pv,.skp 2 rfl (dE rfl) rfl ?_,trivial⟩
 .rcases kk with _|_|_|_|kk
  .show(aS _ _).run _ (w.drew)=wP _ (w.drew);have hh:=h4;unfold aS;go_simp
  .show(aS _ _).run _ ((w.alloc (.cells #[.int .i64 cc,.int .i64 l,.int .i64 0,.int .i64 clk,.int .i64 (-1),.int .i64 (-1),.string eN] 50)).drew)=wP _ ((w.alloc (.cells #[.int .i64 cc,.int .i64 l,.int .i64 0,.int .i64 clk,.int .i64 (-1),.int .i64 (-1),.string eN] 50)).drew);have hh:=B7 h4 (.cells #[.int .i64 cc,.int .i64 l,.int .i64 0,.int .i64 clk,.int .i64 (-1),.int .i64 (-1),.string eN] 50);unfold aS;go_simp
  .exact absurd hm Hx
  .exact absurd hm Hx
  .simp at gI
 .have aV:nf≠0:=by have:=Ga;omega
  unfold aS;go_simp
 .unfold aS;go_simp;rfl
 .rw[Ye];show(aS _ _).run _ (w.drew)=wP _ ((w.alloc (.cells #[.int .i64 cc,.int .i64 l,.int .i64 0,.int .i64 clk,.int .i64 (-1),.int .i64 (-1),.string eN] 50)).drew);unfold aS;go_simp
 .rw[zcY];exact zbd rfl (jP hT zxE) (jP hT Ye) fM
 .have hs:=aY;have hf:=oH;show(aS _ _).run _ (w3)=wP _ (w3.setCell ⟨gb,4,none⟩ (.slice (some ⟨g1,0,none⟩) (nR+1) c1));unfold aS;go_simp
def bodyRU:Go.Code:=(Tryz.f65.body).getD .skip
def rRU10:Go.Code:=match bodyRU with| .seq _ (.seq _ (.seq _ (.seq _ (.seq _ (.seq (a) _)))))=>a|_=>.skip
def wU:Array Oper:=match rRU10 with| .region _ ops _=>ops|_=>#[]
def zup:wU.toList=[aM wU 0 (some 38) (.fieldAddr 59 (.tmp 2) 2),aM wU 1 (some 39) (.load 45 (.tmp 38)),aM wU 2 (some 40) (.fieldAddr 100 (.tmp 7) 0),aM wU 3 (some 41) (.load 3 (.tmp 40)),aM wU 4 (some 42) (.move (.tmp 6)),aM wU 5 (some 43) (.indexAddr 38 (.tmp 42) (.const (.int .i64 0))),aM wU 6 (some 44) (.load 3 (.tmp 43)),aM wU 7 (some 45) (.move (.tmp 1)),aM wU 8 (some 46) (.fieldAddr 59 (.tmp 2) 1),aM wU 9 (some 47) (.load 3 (.tmp 46)),aM wU 10 (some 48) (.fieldAddr 59 (.tmp 2) 1),aM wU 11 (some 49) (.load 3 (.tmp 48)),aM wU 12 (some 50) (.build 50 #[(0,.tmp 41),(1,.tmp 44),(2,.tmp 45),(3,.tmp 47),(4,.tmp 49),(5,.const (.int .i64 (-1))),(6,.const (.string {data:=#[111,112,101,110]}))]),aM wU 13 (some 51) (.buildSlice 45 1 #[(0,.tmp 50)]),aM wU 14 (some 52) (.call ⟨.builtin .append,#[.tmp 39,.tmp 51],#[45,45]⟩),aM wU 15 (some 53) (.fieldAddr 59 (.tmp 2) 2),aM wU 16 none (.store 45 (.tmp 53) (.tmp 52))]:=rfl
def WRU10 (w w3:aE)(gb gc gf gR nR cR g1 c1 nf cf:Nat)(cc l op clk:Int):Nat->aE
 |0=>w.drew
 |1=>(w.alloc (.cells #[.int .i64 cc,.int .i64 l,.int .i64 op,.int .i64 clk,.int .i64 clk,.int .i64 (-1),.string eN] 50)).drew
 |2=>w3
 |_=>w3.setCell ⟨gb,4,none⟩ (.slice (some ⟨g1,0,none⟩) (nR+1) c1)
theorem ztn:wU.toList.map (·.dst)=[some 38,some 39,some 40,some 41,some 42,some 43,some 44,some 45,some 46,some 47,some 48,some 49,some 50,some 51,some 52,some 53,none]:=by rw[zup];rfl
def lRU10 (w w3:aE)(gb gc gf gR nR cR g1 c1 nf cf:Nat)(cc l op clk:Int):List Value:=[.pointer (some ⟨gb,4,none⟩),.slice (some ⟨gR,0,none⟩) nR cR,.pointer (some ⟨gc,0,none⟩),.int .i64 (cc),.slice (some ⟨gf,0,none⟩) nf cf,.pointer (some ⟨gf,0,none⟩),.int .i64 (l),.int .i64 (op),.pointer (some ⟨gb,3,none⟩),.int .i64 (clk),.pointer (some ⟨gb,3,none⟩),.int .i64 (clk),.agg #[.int .i64 cc,.int .i64 l,.int .i64 op,.int .i64 clk,.int .i64 clk,.int .i64 (-1),.string eN],.slice (some ⟨w.heap.size,0,none⟩) 1 1,.slice (some ⟨g1,0,none⟩) (nR+1) c1,.pointer (some ⟨gb,4,none⟩),aA]
def zlq (w w3:aE)(gb gc gf gR nR cR g1 c1 nf cf:Nat)(cc l op clk:Int)(i:Nat):Value:=(lRU10 w w3 gb gc gf gR nR cR g1 c1 nf cf cc l op clk).getD i aA
theorem wp_RU10 (w w3:aE)(gb gc gf gR nR cR g1 c1 nf cf:Nat)(cc l op clk:Int)(hz:t0.size=59)(Ew:t0.getD 1 aA=.int .i64 (op))(Rx:t0.getD 2 aA=.pointer (some ⟨gb,0,none⟩))(zb1:t0.getD 6 aA=.slice (some ⟨gf,0,none⟩) nf cf)(Et:t0.getD 7 aA=.pointer (some ⟨gc,0,none⟩))(h3:w.cell? ⟨gb,3,none⟩=some (.int .i64 clk))(h4:w.cell? ⟨gb,4,none⟩=some (.slice (some ⟨gR,0,none⟩) nR cR))(hq:w.cell? ⟨gc,0,none⟩=some (.int .i64 cc))(hf:w.cell? ⟨gf,0,none⟩=some (.int .i64 l))(Ga:0<nf)(fM:(xG #[45,45] 45 #[.slice (some ⟨gR,0,none⟩) nR cR,.slice (some ⟨w.heap.size,0,none⟩) 1 1]).run aK ((w.alloc (.cells #[.int .i64 cc,.int .i64 l,.int .i64 op,.int .i64 clk,.int .i64 clk,.int .i64 (-1),.string eN] 50)).drew)=.ok (.slice (some ⟨g1,0,none⟩) (nR+1) c1) w3)(aY:w3.cell? ⟨gb,4,none⟩=some (.slice (some ⟨gR,0,none⟩) nR cR))(oH:w3.frozen? ⟨gb,4,none⟩=false)(h0:WRU10 w w3 gb gc gf gR nR cR g1 c1 nf cf cc l op clk 0=w.drew)(hk:Q .normal ⟨cT wU (zlq w w3 gb gc gf gR nR cR g1 c1 nf cf cc l op clk) t0,d⟩ (w3.setCell ⟨gb,4,none⟩ (.slice (some ⟨g1,0,none⟩) (nR+1) c1))):
 (F5 10 wU true).wp aK Q ⟨t0,d⟩ w:=by
 refine Jr (ws:=[13,14,16]) (Wd:=WRU10 w w3 gb gc gf gR nR cR g1 c1 nf cf cc l op clk) (vals:=zlq w w3 gb gc gf gR nR cR g1 c1 nf cf cc l op clk) uB.mixed aP aH aP h0 Ho (λV hU hV=>?_) hk;obtain⟨zo0,zmX,ziw,zpA,ztq,zjw,ztx,zh3,Ye,zcY,ziy,Yt,zeI,V7,Xw,zlk,-⟩:=Ie ztn hU;have e1:=(hV 1 aP).trans Ew;have e2:=(hV 2 aP).trans Rx;have e6:=(hV 6 aP).trans zb1;have e7:=(hV 7 aP).trans Et;have zhc:=h3;have Lq:=h4;have Ni:=hq;have Ei:=hf;refine λTf hT=>Hr zup ⟨bR.pv,bR.any (λkk gI hm=>?_),bR.pv,bR.ld,bR.pv,bR.any (λkk gI hm=>?_),bR.ld,bR.pv,bR.pv,bR.ld,bR.pv,bR.ld,bR.any (λkk gI hm=>?_),bR.act (v:=V 51) 0 rfl (dE rfl) ?_,bR.act (v:=V 52) 1 rfl (dE rfl) ?_,bR.pv,.skp 2 rfl (dE rfl) rfl ?_,trivial⟩
 .rcases kk with _|_|_|_|kk
  .show(aS _ _).run _ (w.drew)=wP _ (w.drew);have hh:=h4;unfold aS;go_simp
  .show(aS _ _).run _ ((w.alloc (.cells #[.int .i64 cc,.int .i64 l,.int .i64 op,.int .i64 clk,.int .i64 clk,.int .i64 (-1),.string eN] 50)).drew)=wP _ ((w.alloc (.cells #[.int .i64 cc,.int .i64 l,.int .i64 op,.int .i64 clk,.int .i64 clk,.int .i64 (-1),.string eN] 50)).drew);have hh:=B7 h4 (.cells #[.int .i64 cc,.int .i64 l,.int .i64 op,.int .i64 clk,.int .i64 clk,.int .i64 (-1),.string eN] 50);unfold aS;go_simp
  .exact absurd hm Hx
  .exact absurd hm Hx
  .simp at gI
 .have aV:nf≠0:=by have:=Ga;omega
  unfold aS;go_simp
 .unfold aS;go_simp;rfl
 .rw[V7];show(aS _ _).run _ (w.drew)=wP _ ((w.alloc (.cells #[.int .i64 cc,.int .i64 l,.int .i64 op,.int .i64 clk,.int .i64 clk,.int .i64 (-1),.string eN] 50)).drew);unfold aS;go_simp
 .rw[Xw];exact zbd rfl (jP hT zmX) (jP hT V7) fM
 .have hs:=aY;have hf:=oH;show(aS _ _).run _ (w3)=wP _ (w3.setCell ⟨gb,4,none⟩ (.slice (some ⟨g1,0,none⟩) (nR+1) c1));unfold aS;go_simp
def bodyWT:Go.Code:=(Tryz.f67.body).getD .skip
def rWT10:Go.Code:=match bodyWT with| .seq _ (.seq _ (.seq _ (.seq _ (.seq (.seq _ (.block _ (.loop (.seq _ (.seq (.block _ (.seq _ (.seq _ (.cond _ (.seq _ (.seq (a) _)) _)))) _))))) _))))=>a|_=>.skip
def Ee:Array Oper:=match rWT10 with| .region _ ops _=>ops|_=>#[]
def zyI:Ee.toList=[aM Ee 0 (some 51) (.fieldAddr 59 (.tmp 2) 4),aM Ee 1 (some 52) (.load 57 (.tmp 51)),aM Ee 2 (some 53) (.move (.tmp 7)),aM Ee 3 (some 54) (.move (.tmp 8)),aM Ee 4 (some 55) (.indexAddr 57 (.tmp 53) (.tmp 54)),aM Ee 5 (some 56) (.load 100 (.tmp 55)),aM Ee 6 (some 57) (.buildSlice 57 1 #[(0,.tmp 56)]),aM Ee 7 (some 58) (.call ⟨.builtin .append,#[.tmp 52,.tmp 57],#[57,57]⟩),aM Ee 8 (some 59) (.fieldAddr 59 (.tmp 2) 4),aM Ee 9 none (.store 57 (.tmp 59) (.tmp 58))]:=rfl
def WWT10 (w w3:aE)(gb gW nW cW gB nB cB g1 c1 k:Nat)(xc xp:Int):Nat->aE
 |0=>w.drew
 |1=>(w.alloc (.cells #[.int .i64 xc,.int .i64 xp] 100)).drew
 |2=>w3
 |_=>w3.setCell ⟨gb,6,none⟩ (.slice (some ⟨g1,0,none⟩) (nB+1) c1)
theorem zo3:Ee.toList.map (·.dst)=[some 51,some 52,some 53,some 54,some 55,some 56,some 57,some 58,some 59,none]:=by rw[zyI];rfl
def lWT10 (w w3:aE)(gb gW nW cW gB nB cB g1 c1 k:Nat)(xc xp:Int):List Value:=[.pointer (some ⟨gb,6,none⟩),.slice (some ⟨gB,0,none⟩) nB cB,.slice (some ⟨gW,0,none⟩) nW cW,.int .i64 (k:Int),.pointer (some ⟨gW,k*2,none⟩),.agg #[.int .i64 xc,.int .i64 xp],.slice (some ⟨w.heap.size,0,none⟩) 1 1,.slice (some ⟨g1,0,none⟩) (nB+1) c1,.pointer (some ⟨gb,6,none⟩),aA]
def zkn (w w3:aE)(gb gW nW cW gB nB cB g1 c1 k:Nat)(xc xp:Int)(i:Nat):Value:=(lWT10 w w3 gb gW nW cW gB nB cB g1 c1 k xc xp).getD i aA
theorem wp_WT10 (w w3:aE)(gb gW nW cW gB nB cB g1 c1 k:Nat)(xc xp:Int)(hz:t0.size=71)(Rx:t0.getD 2 aA=.pointer (some ⟨gb,0,none⟩))(Et:t0.getD 7 aA=.slice (some ⟨gW,0,none⟩) nW cW)(zl6:t0.getD 8 aA=.int .i64 (k:Int))(h6:w.cell? ⟨gb,6,none⟩=some (.slice (some ⟨gB,0,none⟩) nB cB))(tM:w.cell? ⟨gW,k*2,none⟩=some (.int .i64 xc))(Oh:w.cell? ⟨gW,k*2+1,none⟩=some (.int .i64 xp))(tY:k<nW)(fM:(xG #[57,57] 57 #[.slice (some ⟨gB,0,none⟩) nB cB,.slice (some ⟨w.heap.size,0,none⟩) 1 1]).run aK ((w.alloc (.cells #[.int .i64 xc,.int .i64 xp] 100)).drew)=.ok (.slice (some ⟨g1,0,none⟩) (nB+1) c1) w3)(aY:w3.cell? ⟨gb,6,none⟩=some (.slice (some ⟨gB,0,none⟩) nB cB))(oH:w3.frozen? ⟨gb,6,none⟩=false)(h0:WWT10 w w3 gb gW nW cW gB nB cB g1 c1 k xc xp 0=w.drew)(hk:Q .normal ⟨cT Ee (zkn w w3 gb gW nW cW gB nB cB g1 c1 k xc xp) t0,d⟩ (w3.setCell ⟨gb,6,none⟩ (.slice (some ⟨g1,0,none⟩) (nB+1) c1))):
 (F5 10 Ee true).wp aK Q ⟨t0,d⟩ w:=by
 refine Jr (ws:=[6,7,9]) (Wd:=WWT10 w w3 gb gW nW cW gB nB cB g1 c1 k xc xp) (vals:=zkn w w3 gb gW nW cW gB nB cB g1 c1 k xc xp) uB.mixed aP aH aP h0 Ho (λV hU hV=>?_) hk;obtain⟨V7,Xw,zlk,zqr,zL7,zJg,zqW,zsK,zIi,-⟩:=Ie zo3 hU;have e2:=(hV 2 aP).trans Rx;have e7:=(hV 7 aP).trans Et;have e8:=(hV 8 aP).trans zl6;have zLH:=h6;have zJ6:=tM;have zLj:=Oh;refine λTf hT=>Hr zyI ⟨bR.pv,bR.any (λkk gI hm=>?_),bR.pv,bR.pv,bR.any (λkk gI hm=>?_),bR.ld,bR.act (v:=V 57) 0 rfl (dE rfl) ?_,bR.act (v:=V 58) 1 rfl (dE rfl) ?_,bR.pv,.skp 2 rfl (dE rfl) rfl ?_,trivial⟩
 .rcases kk with _|_|_|_|kk
  .show(aS _ _).run _ (w.drew)=wP _ (w.drew);have hh:=h6;unfold aS;go_simp
  .show(aS _ _).run _ ((w.alloc (.cells #[.int .i64 xc,.int .i64 xp] 100)).drew)=wP _ ((w.alloc (.cells #[.int .i64 xc,.int .i64 xp] 100)).drew);have hh:=B7 h6 (.cells #[.int .i64 xc,.int .i64 xp] 100);unfold aS;go_simp
  .exact absurd hm Hx
  .exact absurd hm Hx
  .simp at gI
 .have i0:(0:Int)<=(k:Int):=aC
  have i1:(k:Int)<(nW:Int):=by have:=tY;omega
  unfold aS;go_simp
 .rw[zqW];show(aS _ _).run _ (w.drew)=wP _ ((w.alloc (.cells #[.int .i64 xc,.int .i64 xp] 100)).drew);unfold aS;go_simp
 .rw[zsK];exact zbd rfl (jP hT Xw) (jP hT zqW) fM
 .have hs:=aY;have hf:=oH;show(aS _ _).run _ (w3)=wP _ (w3.setCell ⟨gb,6,none⟩ (.slice (some ⟨g1,0,none⟩) (nB+1) c1));unfold aS;go_simp
end Go.Proofs.YtfcjiloojkjaeaaGreatDoor
namespace Go.Proofs.YtfcjiloojkjaeaaGreatDoor
open Go.RowKit
def X7 (lo:Nat)(v:fT)(w:aE)(bt:cC×List UInt8)(x:Ending)(w':aE):Prop:=
 ∃v',x=.returned (.tuple #[.agg (fR v' bt.1),.string ⟨bt.2.toArray⟩])/\dW w' lo v' bt.1/\oV v w w'/\xB w.heap.size v v'
structure Rg (r:cC):Prop where
 off:mY r.o=true
 nr:r.recs.length<=1000
 nw:r.wait.length<=1000
 nb:r.back.length<=5000
 nl:r.log.length<=1000
 clk:0<=r.clk/\r.clk<=100000
abbrev If (c:bN):Obj:=.cells #[.int .i64 c.c,.int .i64 c.p] 100
variable {o:Option Nat}{i:Nat}
theorem Xr (h:o=some i):H8 o=(i:Int):=by rw[h];rfl
theorem zdW (h:o=none):H8 o= -1:=by rw[h];rfl
variable {rs:List bV}
theorem zfc {o:fP}{l:Int}(h:l∈o0 o rs):1<=l/\l<=o.ln:=by
 unfold o0 x4 at h;rw[Jo,List.mem_map] at h;obtain⟨⟨i,hi,rfl⟩,_⟩:=h;rw[Da] at hi;omega
theorem zrC {b:cC}{c:bN}(h:(iS b.recs c.c).isSome=true\/(wA b.back c.c).isSome=true):pR b c=(b,[107,110,111,119,110]):=by
 unfold pR;rw[if_pos uU]
theorem zIB (lo:Nat)(v:fT)(r:cC)(c:bN)(w:aE)(h:dW w lo v r)(hs:Rg r)(eF:lo<=w.heap.size):
 fJ aK 63 #[.agg (fR v r),.agg #[.int .i64 c.c,.int .i64 c.p]] w (X7 lo v w (pR r c)):=by
 obtain⟨gb,eU⟩:=aT w.heap.size;have hl:=h.lts;obtain⟨O,hO⟩:=aT (.cells (fR v r) 59:Obj);obtain⟨C,hC⟩:=aT (.cells #[.int .i64 c.c,.int .i64 c.p] 100:Obj);obtain⟨Z,hZ⟩:=aT (kO:Obj);have l6:(((w.alloc O).alloc C).alloc Z).heap[gb]? =some (Gi v r):=by rw[hO,eU];exact dH (dH (gV _ _) _) _
 have rJ:(((w.alloc O).alloc C).alloc Z).heap[gb+1]? =some (If c):=by rw[hC,eU];exact dH (mH _ _ aQ) _
 have qZ:(((w.alloc O).alloc C).alloc Z).heap[gb+2]? =some kO:=by rw[<-hZ];exact mH _ _ Ws
 have jE:=aD (((h.alloc O).alloc C).alloc Z);have E6:=aD (oV.of_below v (eT (eT (eT (fK w.heap.size w) O) C) Z));have pT:=aD (show(((w.alloc O).alloc C).alloc Z).heap.size=gb+3 by rw[eU];simp);have zG:=aD l6;have zdC:=aD rJ;have znx:=aD qZ;have HO:=aD hO;have HC:=aD hC;have HZ:=aD (show Z=.cells #[.int .i64 0,.int .i64 0,.int .i64 0,.int .i64 0,.slice none 0 0,.slice none 0 0,.slice none 0 0,.slice none 0 0] 59 from hZ);have fY:=aD eU;have HL:=aD hl;clear hO hC hZ eU l6 rJ qZ h hl
 go_enter Tryz.func63,Tryz.ntmps63
 go_upto_region 1 with fail
 rw[<-HO.o,<-HC.o,<-HZ.o,<-fY.o];obtain⟨W1,cV⟩:=aT (((w.alloc O).alloc C).alloc Z);rw[<-cV] at zG zdC znx jE E6 pT⊢;clear cV;have k:=aI zG.o;obtain⟨k0,k1,k2,k3,k4,k5,k6,k7⟩:=eO k;clear k;have Pv:=hs.nr
 go_upto_region 2 with(go_at_call 90;refine(zwK lo v r W1 jE.o aC hs.off).mono ?_;rintro x w2 ⟨_,rfl,gf,cf,rfl,dF,b2⟩;have Rb:=aD dF;have iX:=aD b2;clear dF b2)
 have jW:=aD (jE.o.below iX.o);have Rl:=aD (E6.o.same (oV.of_below v iX.o));have Ig:=(mX iX.o zG.o).1;have Kc:=(mX iX.o zdC.o).1;have kC:=aD (mX iX.o znx.o).1;have zmh:=aD Ig;have zj4:=aD Kc;have zei:=aD (show gb+3<=w2.heap.size by have:=iX.o.size;have:=pT.o;omega);have zc8:=aD (Rb.o.lt gf rfl);clear k0 k1 k2 k3 k4 k5 k6 k7;have k:=aI Ig;obtain⟨k0,k1,k2,k3,k4,k5,k6,k7⟩:=eO k;have q:=aI Kc;have q0:=q 0;have q1:=q 1;have r0:=eW kC.o;have z:=aI kC.o;obtain⟨z0,z1,z2,z3,z4,z5,z6,z7⟩:=eO z;have vT:=aD jW.o.slcR;have Gv:=aD jW.o.slcB;have oF:=hs.nb;clear k q z Ig Kc;rcases hop:iS r.recs c.c with _|i
 .have zdL:=aD (zdW hop)
  rcases uT:wA r.back c.c with _|j
  .have Ps:=aD (zdW uT)
   have fB:=aD (show gM w w2 lo gb 3 v v r from⟨jW.o,Rl.o,xB.refl _ _,fY.o,zmh.o,zei.o,aC,by have:=HL.o;have:=fY.o;omega,by have:=HL.o;have:=fY.o;omega,by have:=HL.o;have:=fY.o;omega,by have:=HL.o;have:=fY.o;omega,by rw[fY.o];exact eF⟩);rcases fL:o0 r.o r.recs with _|⟨l,fs⟩
   .have fD:=aD (show pR r c=({r with back:=r.back++[c]},[98,117,115,121]) by unfold pR;rw[if_neg (by simp[hop,uT]),fL])
    simp only[zF];clear hop uT fL;obtain⟨i0,fN,gA,dS,jQ⟩:=C6 zht;have HI:=aD fN;clear fN
    go_upto_region 6 with(first
     |(go_at_call 91;refine(Kq lo w2.heap.size r.recs.length v.cR (some ⟨v.gR,0,none⟩) r.recs c.c w2 vT.o aC).mono ?_;rintro x w' ⟨rfl,jU⟩;obtain rfl:=jU.symm;rw[zdL.o])
     |(go_at_call 92;refine(zbk lo w2.heap.size r.back.length v.cB (some ⟨v.gB,0,none⟩) r.back c.c w2 Gv.o aC).mono ?_;rintro x w' ⟨rfl,jU⟩;obtain rfl:=jU.symm;rw[Ps.o])
     |(at_builtin;refine zjp _ rfl (.tmp 30) (.tmp 32) 57 rfl lo 100 i0 (.agg #[.int .i64 0,.int .i64 0]) 2 16 Kh HI.o gA dS jQ rfl aH v.gB v.cB r.back.length (bH r.back) rfl ((jW.o.alloc _).bk) ⟨_,0,none⟩ 1 1 c.cells rfl rfl ?c2 Rz ?c5 ?c6 ?c7 ?_;(case c2=>exact Gl (cs:=c.cells.toArray) (gV _ _));(case c5=>unfold maxLen;omega);(case c6=>omega);(case c7=>(have:=fB.o.lob;have:=zei.o;simp;omega));intro g1 c1 w3 tK r8 B1 Ka;have Cw:=aD ((fB.o.alloc _).appB r8 tK rfl Ka);have zHz:=aD (Ao r8 (dH kC.o _) (by have:=fB.o.aB;omega));have kx:=(Ao r8 (dH zmh.o _) (by have:=fB.o.aB;omega)).1;have Po:=aI kx 6;have xD:=eW kx;clear tK r8 B1 Ka kx))
    obtain⟨W4,rE⟩:=aT (w3.setCell ⟨gb,6,none⟩ (.slice (some ⟨g1,0,none⟩) (r.back.length+1) c1));rw[<-rE] at Cw⊢;have zHb:=aD (show W4.heap[gb+2]? =some kO by rw[rE];exact(dU w3 _ _ (gb+2) aQ).trans zHz.o.1);clear rE Po xD;obtain⟨v4,Im⟩:=aT ({v with gB:=g1,cB:=c1}:fT);obtain⟨r4,Na⟩:=aT ({r with back:=r.back++[c]}:cC);rw[<-Im,<-Na] at Cw;rw[<-Na] at fD;clear Im Na;have k:=aI Cw.o.blk;obtain⟨k0,k1,k2,k3,k4,k5,k6,k7⟩:=eO k;have kC:=zHb;have z:=aI kC.o;obtain⟨z0,z1,z2,z3,z4,z5,z6,z7⟩:=eO z;have r0:=eW kC.o;clear k z
    go_wp2_with fail
    have er:=aI (tF v4 r4 kC.o);refine nN (v:=.tuple #[.agg (fR (v4) (r4)),.string ⟨([98,117,115,121]:List UInt8).toArray⟩]) ?_ rfl ?_
    .unfold gQ at er
     simp[results,zeA,go_sem,er]
    .rw[fD.o]
     obtain⟨d1,d2,d3⟩:=Cw.o.done (b:=gb+2) aC;exact⟨v4,rfl,d1,d2,d3⟩
   .obtain⟨nf,Ga⟩:=aT ((l::fs).length)
    have y5:=zkB r.recs r.o.ln.toNat;have zna:=(C9 hs.off).2.1;have Dv:(o0 r.o r.recs).length=nf:=by rw[fL,Ga]
    have zGY:nf<=6:=by unfold o0 at Dv;omega
    have zbZ:0<nf:=by rw[Ga];simp
    have Zy:=zfc (o:=r.o) (rs:=r.recs) (l:=l) (by rw[fL];simp);have Q0:=aD (show w2.ownsRow W1.heap.size 3 1 (.slice (some ⟨gf,0,none⟩) nf cf) nf (jY (l::fs)) by have:=Rb.o;rw[Dv,fL] at this;exact this);have Ld:w2.cell? ⟨gf,0,none⟩=some (.int .i64 l):=Q0.o.cellAt 0 aC;rw[<-Ga];have fD:=aD (show pR r c=({r with recs:=r.recs++[⟨c.c,l,0,r.clk,-1,-1,eN⟩],wait:=uE r.wait c},[108,105,110,101,32]++jH l) by unfold pR;rw[if_neg (by simp[hop,uT]),fL]);have zsj:=aD Zy;have oH:((nf:Int)==0)=false:=pX;have zzw:(0:Int)<(nf:Int):=aC;clear hop uT fL Ga y5 zna Dv Zy
    go_upto_region 7 with(first
     |(go_at_call 91;refine(Kq lo w2.heap.size r.recs.length v.cR (some ⟨v.gR,0,none⟩) r.recs c.c w2 vT.o aC).mono ?_;rintro x w' ⟨rfl,jU⟩;obtain rfl:=jU.symm;rw[zdL.o])
     |(go_at_call 92;refine(zbk lo w2.heap.size r.back.length v.cB (some ⟨v.gB,0,none⟩) r.back c.c w2 Gv.o aC).mono ?_;rintro x w' ⟨rfl,jU⟩;obtain rfl:=jU.symm;rw[Ps.o]))
    go_cut [] from 36 to 48 (λwx=>∃g1 c1,gM w wx lo gb 3 v {v with gR:=g1,cR:=c1} {r with recs:=r.recs++[⟨c.c,l,0,r.clk,-1,-1,eN⟩]}/\wx.heap[gb+1]? =some (If c)/\wx.heap[gb+2]? =some kO/\wx.ownsRow W1.heap.size 3 1 (.slice (some ⟨gf,0,none⟩) nf cf) nf (jY (l::fs)))
    case first=>
     obtain⟨i0,fN,gA,dS,jQ⟩:=C6 zw8;have HI:=aD fN;clear fN;have zL1:=zc8.o;have zKe:gb+3<=W1.heap.size:=by have:=pT.o;omega
     have zkI:v.gR<gb:=by have:=HL.o;have:=fY.o;omega
     have kB:∀o:Obj,(w2.alloc o).cell? ⟨gb,4,none⟩=some (v.sR r):=λo=>B7 k4 o;have zkA:gb<w2.heap.size:=by have:=zei.o;omega
     have S0:w2.cell? ⟨gb,3,none⟩=some (.int .i64 r.clk)/\w2.cell? ⟨gb+1,0,none⟩=some (.int .i64 c.c)/\w2.cell? ⟨gf,0,none⟩=some (.int .i64 l):=⟨k3,q0,Ld⟩;have Hk:=aD S0;have zJ1:gf≠gb:=aC;clear S0;obtain⟨g1,c1,w3,fM,tK,r8,B1,Ka⟩:=zd3 (P:=aK) (w2.alloc (.cells #[.int .i64 c.c,.int .i64 l,.int .i64 0,.int .i64 r.clk,.int .i64 (-1),.int .i64 (-1),.string eN] 50)).drew 45 45 lo 50 i0 (.agg #[.int .i64 0,.int .i64 0,.int .i64 0,.int .i64 0,.int .i64 0,.int .i64 0,.string ⟨#[]⟩]) 7 64 zr8 HI.o gA dS jQ rfl aH v.gR v.cR r.recs.length (recs r.recs) (Bn jW.o.rc (λb hb=>sV _ _ b hb)) ⟨w2.heap.size,0,none⟩ 1 1 (bV.cells ⟨c.c,l,0,r.clk,-1,-1,eN⟩) rfl (Gl (cs:=(bV.cells ⟨c.c,l,0,r.clk,-1,-1,eN⟩).toArray) (gV _ _)) zil Wb aC (by have:=fB.o.lob;have:=zei.o;simp;omega);have qY:=aD r8;have zbg:=aD tK;have zaf:=aD Ka;have kx:=(Ao r8 (dH zmh.o _) aC).1;have zcG:=aI kx 4;have xD:=eW kx;clear tK r8 B1 Ka kx;refine wp_RG7 w2 w3 gb gf v.gR r.recs.length v.cR g1 c1 nf cf c.c l r.clk rfl rfl rfl rfl k3 k4 q0 Ld aC fM zcG (xD _) rfl ?_;clear fM zcG xD;rw[Go.Mt.zO,zu6];simp only[Go.Mt.wV,dY,dX,fRG7,lRG7,En,Es]
     go_wp2_with fail
     go_meet
     have zHn:gf≠v.gR:=aC;refine⟨g1,c1,((fB.o.alloc _).drew).appR qY.o zbg.o rfl zaf.o,?_,?_,?_⟩
     .exact(dU w3 _ _ (gb+1) aQ).trans (Ao qY.o (Mo (dH zj4.o _)) aC).1
     .exact(dU w3 _ _ (gb+2) aQ).trans (Ao qY.o (Mo (dH kC.o _)) aC).1
     .exact Cb Q0.o ((dU w3 _ _ gf aC).trans ((qY.o.block gf pX (by simp;exact zHn)).trans (sV _ _ gf aC)))
    case rest=>
     obtain⟨g1,c1,Bu,Kc,Ig,fL⟩:=hcut;clear k0 k1 k2 k3 k4 k5 k6 k7 q0 q1 z0 z1 z2 z3 z4 z5 z6 z7 r0 Ld;have Vp:=aD Bu;have zj4:=aD Kc;have kC:=aD Ig;have Q0:=aD fL;obtain⟨v1,qF⟩:=aT ({v with gR:=g1,cR:=c1}:fT);obtain⟨r1,kG⟩:=aT ({r with recs:=r.recs++[⟨c.c,l,0,r.clk,-1,-1,eN⟩]}:cC);have zJV:=aD (show r1.wait=r.wait by rw[kG]);have zG9:r1.wait.length<=1000:=by rw[kG];exact hs.nw
     rw[<-qF,<-kG] at Vp;replace fD:=aD (show pR r c=({r1 with wait:=uE r1.wait c},[108,105,110,101,32]++jH l) by rw[fD.o,kG]);clear qF kG Bu Kc Ig fL;have k:=aI Vp.o.blk;have k5:=k 5;have kf:=eW Vp.o.blk;have q:=aI zj4.o;have q0:=q 0;have q1:=q 1;clear k q
     go_upto_region 9 with(go_at_call 93;refine(zFG lo wc.heap.size r1.wait.length v1.cW v1.gW r1.wait c wc Vp.o.ok.slcW aC).mono ?_;rintro x w4 ⟨_,rfl,g4,c4,rfl,dF,b4⟩;have U6:=aD dF;have uA:=aD b4;have kx:=(mX b4 Vp.o.blk).1;have zls:=aI kx 5;have xD:=eW kx;clear dF b4 kx)
     obtain⟨W5,xX⟩:=aT (w4.setCell ⟨gb,5,none⟩ (.slice (some ⟨g4,0,none⟩) (uE r1.wait c).length c4));have D5:=aD (show gM w W5 lo gb 3 v {v1 with gW:=g4,cW:=c4} {r1 with wait:=uE r1.wait c} by rw[xX];exact Vp.o.setW uA.o U6.o rfl);have tT:=aD (show W5.heap[gb+2]? =some kO by rw[xX];exact(dU w4 _ _ (gb+2) aQ).trans (mX uA.o kC.o).1);have zro:W5.ownsRow W1.heap.size 3 1 (.slice (some ⟨gf,0,none⟩) nf cf) nf (jY (l::fs)):=by
      rw[xX];have:=zc8.o;have:=pT.o;exact Cb Q0.o ((dU w4 _ _ gf tL).trans (uA.o.block gf (Q0.o.lt gf rfl).2))
     have Ld:W5.cell? ⟨gf,0,none⟩=some (.int .i64 l):=zro.cellAt 0 aC;rw[<-xX];clear xX zls xD k5 kf q0 q1 zro;obtain⟨v5,oL⟩:=aT ({v1 with gW:=g4,cW:=c4}:fT);obtain⟨r5,eE⟩:=aT ({r1 with wait:=uE r1.wait c}:cC);rw[<-oL,<-eE] at D5;rw[<-eE] at fD;clear oL eE;obtain⟨m,hm⟩:∃m:Nat,l=(m:Int):=⟨l.toNat,by have:=zsj.o;omega⟩;have zbx:m<=100000000:=by have:=zsj.o;have:=(C9 hs.off).2.1;omega
     have Jm:(Kj (m:Int)).length<=20:=by rw[Wc];exact Vh aC
     rw[hm] at Ld fD;clear hm;have k:=aI D5.o.blk;obtain⟨k0,k1,k2,k3,k4,k5,k6,k7⟩:=eO k;clear k
     go_wp2_with fail
     go_region_with (go_at_call 94;refine(za2 m zbx _).mono ?_;rintro x w6 ⟨rfl,uN⟩;have zQ:bY W5.heap.size W5 w6:=⟨uN.os,uN.tape,uN.output,uN.size,uN.block⟩;have kT:=aD zQ;have k:=aI (mX zQ D5.o.blk).1;have r0:=eW (mX zQ tT.o).1;have z:=aI (mX zQ tT.o).1;obtain⟨k0,k1,k2,k3,k4,k5,k6,k7⟩:=eO k;obtain⟨z0,z1,z2,z3,z4,z5,z6,z7⟩:=eO z;clear k z uN zQ)
     all_goals
      go_wp2_with fail
      have Ez:=D5.o.keep kT.o;have Uu:=(mX kT.o tT.o).1;have er:=aI (tF v5 r5 Uu);refine nN (v:=.tuple #[.agg (fR v5 r5),.string ⟨([108,105,110,101,32]++jH (m:Int):List UInt8).toArray⟩]) ?_ rfl ?_
      .unfold gQ at er
       simp[results,zeA,go_sem,er,jH,Oy]
       done
      .rw[fD.o]
       obtain⟨d1,d2,d3⟩:=Ez.done (b:=gb+2) aC;exact⟨v5,rfl,d1,d2,d3⟩
  .have Ps:=aD (Xr uT)
   have zmR:(0:Int)<=(j:Int):=aC;have fD:=aD (zrC (b:=r) (c:=c) (.inr (by rw[uT];rfl)));clear hop uT
   go_wp2_with (first
    |(go_at_call 91;refine(Kq lo w2.heap.size r.recs.length v.cR (some ⟨v.gR,0,none⟩) r.recs c.c w2 vT.o aC).mono ?_;rintro x w' ⟨rfl,jU⟩;obtain rfl:=jU.symm;rw[zdL.o])
    |(go_at_call 92;refine(zbk lo w2.heap.size r.back.length v.cB (some ⟨v.gB,0,none⟩) r.back c.c w2 Gv.o aC).mono ?_;rintro x w' ⟨rfl,jU⟩;obtain rfl:=jU.symm;rw[Ps.o]))
   have er:=aI (tF v r kC.o);refine nN (v:=.tuple #[.agg (fR (v) (r)),.string ⟨([107,110,111,119,110]:List UInt8).toArray⟩]) ?_ rfl ?_
   .unfold gQ at er
    simp[results,zeA,go_sem,er]
   .rw[fD.o]
    have l:=HL.o;have gg:=fY.o;have l2:=jW.o.lts;exact⟨v,rfl,jW.o.set8 aC,Rl.o.set8 aC,xB.refl _ _⟩
 .have zdL:=aD (Xr hop)
  have fN:(0:Int)<=(i:Int):=aC;have fD:=aD (zrC (b:=r) (c:=c) (.inl (by rw[hop];rfl)));clear hop
  go_wp2_with (go_at_call 91;refine(Kq lo w2.heap.size r.recs.length v.cR (some ⟨v.gR,0,none⟩) r.recs c.c w2 vT.o aC).mono ?_;rintro x w' ⟨rfl,jU⟩;obtain rfl:=jU.symm;rw[zdL.o])
  have er:=aI (tF v r kC.o);refine nN (v:=.tuple #[.agg (fR (v) (r)),.string ⟨([107,110,111,119,110]:List UInt8).toArray⟩]) ?_ rfl ?_
  .unfold gQ at er
   simp[results,zeA,go_sem,er]
  .rw[fD.o]
   have l:=HL.o;have gg:=fY.o;have l2:=jW.o.lts;exact⟨v,rfl,jW.o.set8 aC,Rl.o.set8 aC,xB.refl _ _⟩
structure zeR (r:cC):Prop where
 has:∀x∈r.wait,(iS r.recs x.c).isSome=true
 num:∀x∈r.wait,1<=x.c/\x.c<=99
variable {c:Int}
theorem C1 (h:iS rs c=some i):∃d,rs[i]? =some d/\d.c=c/\eL d=true:=by
 unfold iS at h;rw[List.findIdx?_eq_some_iff_getElem] at h;obtain⟨hi,hp,_⟩:=h;refine⟨rs[i],nI hi,?_⟩;unfold Bb at hp;simp at hp;exact hp
variable {w:aE}{r:cC}
def gM.widen {w0:aE}{lo gb:Nat}{v0 v:fT}(h:gM w0 w lo gb 2 v0 v r)(hg:v.gR<gb/\v.gW<gb/\v.gB<gb/\v.gL<gb)(hz:gb+3<=w.heap.size):gM w0 w lo gb 3 v0 v r:=
 ⟨h.ok,h.turn,h.moved,h.base,h.blk,hz,aC,.inl hg.1,.inl hg.2.1,.inl hg.2.2.1,.inl hg.2.2.2,h.lob⟩
theorem zzR (lo:Nat)(v:fT)(r:cC)(op:Int)(w:aE)(h:dW w lo v r)(hs:Rg r)(eF:lo<=w.heap.size)(hq:zeR r):
 fJ aK 64 #[.agg (fR v r),.int .i64 op] w (X7 lo v w (n6 r op)):=by
 obtain⟨gb,O,Z,fY,HO,HZ,fB,kC,pT,HL⟩:=zho h eF;clear h
 go_enter Tryz.func64,Tryz.ntmps64
 go_upto_region 1 with fail
 rw[<-HO.o,<-HZ.o,<-fY.o];obtain⟨W1,cV⟩:=aT ((w.alloc O).alloc Z);rw[<-cV] at fB kC pT⊢;clear cV;have k:=aI fB.o.blk;obtain⟨k0,k1,k2,k3,k4,k5,k6,k7⟩:=eO k;clear k;have Pv:=hs.nr;have vT:=aD fB.o.ok.slcR;by_cases l7:0<dO r.recs op
 .have fD:=aD (show n6 r op=(r,[116,97,108,107,115]) by unfold n6;rw[if_pos l7])
  go_upto_region 2 with(go_at_call 45;refine(Rw lo W1.heap.size r.recs.length v.cR (some ⟨v.gR,0,none⟩) r.recs op W1 vT.o aC).mono ?_;rintro x w2 ⟨rfl,jU⟩;obtain rfl:=jU.symm)
  clear k0 k1 k2 k3 k4 k5 k6 k7 l7;have k:=aI fB.o.blk;obtain⟨k0,k1,k2,k3,k4,k5,k6,k7⟩:=eO k;clear k;have z:=aI kC.o;obtain⟨z0,z1,z2,z3,z4,z5,z6,z7⟩:=eO z;clear z;have r0:=eW kC.o
  go_wp2_with fail
  have er:=aI (tF v r kC.o);refine nN (v:=.tuple #[.agg (fR (v) (r)),.string ⟨([116,97,108,107,115]:List UInt8).toArray⟩]) ?_ rfl ?_
  .unfold gQ at er
   simp[results,zji,go_sem,er]
  .rw[fD.o]
   obtain⟨d1,d2,d3⟩:=fB.o.done (b:=gb+1) aC;exact⟨v,rfl,d1,d2,d3⟩
 .rcases cF:r.wait with _|⟨c,cs⟩
  .have fD:=aD (show n6 r op=(r,[110,111,110,101]) by unfold n6;rw[if_neg l7,cF])
   have Fs:r.wait.length=0:=by rw[cF];rfl
   have zkZ:=aD (show v.sW r=.slice (some ⟨v.gW,0,none⟩) 0 v.cW by unfold fT.sW;rw[Fs]);have zw2:W1.cell? ⟨gb,5,none⟩=some (.slice (some ⟨v.gW,0,none⟩) 0 v.cW):=by rw[k5,<-zkZ.o];rfl
   clear k5 Fs cF
   go_upto_region 4 with(go_at_call 45;refine(Rw lo W1.heap.size r.recs.length v.cR (some ⟨v.gR,0,none⟩) r.recs op W1 vT.o aC).mono ?_;rintro x w2 ⟨rfl,jU⟩;obtain rfl:=jU.symm)
   clear k0 k1 k2 k3 k4 zw2 k6 k7 l7;have k:=aI fB.o.blk;obtain⟨k0,k1,k2,k3,k4,k5,k6,k7⟩:=eO k;clear k;have z:=aI kC.o;obtain⟨z0,z1,z2,z3,z4,z5,z6,z7⟩:=eO z;clear z;have r0:=eW kC.o
   go_wp2_with fail
   have er:=aI (tF v r kC.o);refine nN (v:=.tuple #[.agg (fR (v) (r)),.string ⟨([110,111,110,101]:List UInt8).toArray⟩]) ?_ rfl ?_
   .unfold gQ at er
    simp[results,zji,go_sem,er]
   .rw[fD.o]
    obtain⟨d1,d2,d3⟩:=fB.o.done (b:=gb+1) aC;exact⟨v,rfl,d1,d2,d3⟩
  .have hc:=hq.num c Zl
   obtain⟨i,wG⟩:=Xe.1 (hq.has c Zl);obtain⟨d,hd,zcR,-⟩:=C1 wG;have fD:=aD (show n6 r op=({r with recs:=r.recs.modify i λd=>{d with o:=op,h:=r.clk},wait:=dZ r.wait c.c},[99,97,108,108,32]++jH c.c) by unfold n6;rw[if_neg l7,cF];simp only[wG]);have Fs:0<r.wait.length:=by rw[cF];simp
   have za1:=aD (show r.wait[0]? =some c by rw[cF];rfl);have zlP:=fB.o.ok.slcW;have Us:=aD zlP;obtain⟨b0,zzy,d0,Mg,-,-,-,tM,e0,e1⟩:=zlP.callsAt (k:=0) Fs;rw[za1.o] at tM;injection tM with tM;injection Mg with Mg;injection Mg with Ab As;subst Ab As tM;simp only[rL,zxf] at e0 e1;have zGg:(((r.wait.length:Nat):Int)==0)=false:=by simp;intro e;rw[e] at Fs;simp at Fs
   have i0:(0:Int)<(r.wait.length:Int):=aC;have Og:=aD (Xr wG);have HD:=aD hd;clear wG hd zcR cF zlP
   go_upto_region 5 with(go_at_call 45;refine(Rw lo W1.heap.size r.recs.length v.cR (some ⟨v.gR,0,none⟩) r.recs op W1 vT.o aC).mono ?_;rintro x w2 ⟨rfl,jU⟩;obtain rfl:=jU.symm)
   clear k0 k1 k2 k3 k4 k6 k7 l7
   go_upto_region 6 with fail
   rw[pT.o];obtain⟨W2,oE⟩:=aT (W1.alloc (If c));rw[<-oE];have za6:=aD (show gM w W2 lo gb 3 v v r by rw[oE];exact(fB.o.alloc _).widen HL.o (by have:=pT.o;simp;omega));have Eg:=aD (show W2.heap[gb+1]? =some kO by rw[oE];exact dH kC.o _);have zwf:=aD (show W2.heap[gb+2]? =some (If c) by rw[oE];exact mH _ _ pT.o.symm);clear oE e0 e1 k5;have zCt:=aD za6.o.ok.slcR;have k:=aI za6.o.blk;obtain⟨k0,k1,k2,k3,k4,k5,k6,k7⟩:=eO k;clear k;have q:=aI zwf.o;have q0:=q 0;have q1:=q 1;clear q
   go_upto_region 7 with(go_at_call 91;refine(Kq lo W2.heap.size r.recs.length v.cR (some ⟨v.gR,0,none⟩) r.recs c.c W2 zCt.o aC).mono ?_;rintro x w2 ⟨rfl,jU⟩;obtain rfl:=jU.symm;rw[Og.o])
   have hi:=(l8.1 HD.o).1;have fN:(0:Int)<=(i:Int):=aC;have zZ:(i:Int)<(r.recs.length:Int):=aC;obtain⟨c0,c1,c2,c3,c4,c5,c6⟩:=za6.o.ok.recAt HD.o;have fz:=λj=>za6.o.ok.rc.frozenAt j;have S1:=za6.o.setR (λd=>{d with o:=op}) HD.o (j:=2) (u:=.int .i64 op) aH zpU rfl;have l5:=aD S1;have Q5:gb+1≠v.gR:=by have:=HL.o;omega
   have zou:gb+2≠v.gR:=by have:=HL.o;omega
   clear S1
   go_upto_region 8 with fail
   obtain⟨W3,sE⟩:=aT (W2.setCell ⟨v.gR,i*7+2,none⟩ (.int .i64 op));rw[<-sE] at l5⊢;have za5:=aD (show W3.heap[gb+1]? =some kO by rw[sE];exact(dU _ _ _ (gb+1) Q5).trans Eg.o);have zhe:=aD (show W3.heap[gb+2]? =some (If c) by rw[sE];exact(dU _ _ _ (gb+2) zou).trans zwf.o);have Az:(r.recs.modify i λd=>{d with o:=op})[i]? =some {d with o:=op}:=by rw[L3];simp[HD.o]
   have Xm:=aD Az;clear sE c0 c1 c2 c3 c4 c5 c6 fz k0 k1 k2 k3 k4 k5 k6 k7 q0 q1 Az;obtain⟨r1,kG⟩:=aT ({r with recs:=r.recs.modify i λd=>{d with o:=op}}:cC);rw[<-kG] at l5;have jE:=aD kG;have Mx:r1.recs.length=r.recs.length:=by rw[kG];exact Lj _ _ _
   have ztL:=aD (show r1.recs[i]? =some {d with o:=op} by rw[kG];exact Xm.o);have M7:(i:Int)<(r1.recs.length:Int):=by rw[Mx];exact zZ
   clear kG Mx;have k:=aI l5.o.blk;obtain⟨k0,k1,k2,k3,k4,k5,k6,k7⟩:=eO k;clear k;obtain⟨c0,c1,c2,c3,c4,c5,c6⟩:=l5.o.ok.recAt ztL.o;have fz:=λj=>l5.o.ok.rc.frozenAt j;have S2:=l5.o.setR (λd=>{d with h:=r1.clk}) ztL.o (j:=4) (u:=.int .i64 r1.clk) aH zwG rfl;have rC:=aD S2;clear S2
   go_upto_region 9 with fail
   obtain⟨W4,rE⟩:=aT (W3.setCell ⟨v.gR,i*7+4,none⟩ (.int .i64 r1.clk));rw[<-rE] at rC⊢;have Ta:=aD (show W4.heap[gb+1]? =some kO by rw[rE];exact(dU _ _ _ (gb+1) Q5).trans za5.o);have Vu:=aD (show W4.heap[gb+2]? =some (If c) by rw[rE];exact(dU _ _ _ (gb+2) zou).trans zhe.o);clear rE c0 c1 c2 c3 c4 c5 c6 fz k0 k1 k2 k3 k4 k5 k6 k7;obtain⟨r2,uJ⟩:=aT ({r1 with recs:=r1.recs.modify i λd=>{d with h:=r1.clk}}:cC);rw[<-uJ] at rC;have zMp:r2.wait.length<=1000:=by rw[uJ,jE.o];exact hs.nw
   replace fD:=aD (show n6 r op=({r2 with wait:=dZ r2.wait c.c},[99,97,108,108,32]++jH c.c) by rw[fD.o,uJ,jE.o];simp only[zgI]);clear uJ;have zAL:=aD rC.o.ok.slcW;have k:=aI rC.o.blk;obtain⟨k0,k1,k2,k3,k4,k5,k6,k7⟩:=eO k;clear k;have q:=aI Vu.o;have q0:=q 0;have q1:=q 1;clear q;have kf:=eW rC.o.blk
   go_upto_region 10 with(go_at_call 95;refine(zfj lo W4.heap.size r2.wait.length v.cW (some ⟨v.gW,0,none⟩) r2.wait c.c W4 zAL.o aC).mono ?_;rintro x w5 ⟨_,rfl,g5,c5,rfl,dF,b5⟩;have zav:=aD dF;have lM:=aD b5;have kx:=(mX b5 rC.o.blk).1;have zls:=aI kx 5;have xD:=eW kx;clear dF b5 kx)
   obtain⟨W5,xX⟩:=aT (w5.setCell ⟨gb,5,none⟩ (.slice (some ⟨g5,0,none⟩) (dZ r2.wait c.c).length c5));have D5:=aD (show gM w W5 lo gb 3 v {v with gW:=g5,cW:=c5} {r2 with wait:=dZ r2.wait c.c} by rw[xX];exact rC.o.setW lM.o zav.o rfl);have tT:=aD (show W5.heap[gb+1]? =some kO by rw[xX];exact(dU w5 _ _ (gb+1) zjQ).trans (mX lM.o Ta.o).1);have znI:=aD (show W5.heap[gb+2]? =some (If c) by rw[xX];exact(dU w5 _ _ (gb+2) (by show gb+2≠gb;omega)).trans (mX lM.o Vu.o).1);rw[<-xX];clear xX zls xD kf q0 q1 k0 k1 k2 k3 k4 k5 k6 k7;obtain⟨v5,oL⟩:=aT ({v with gW:=g5,cW:=c5}:fT);obtain⟨r5,eE⟩:=aT ({r2 with wait:=dZ r2.wait c.c}:cC);rw[<-oL,<-eE] at D5;rw[<-eE] at fD;clear oL eE;obtain⟨m,hm⟩:∃m:Nat,c.c=(m:Int):=⟨c.c.toNat,aC⟩;have zbx:m<=100000000:=aC;have Jm:(Kj (m:Int)).length<=20:=by rw[Wc];exact Vh aC
   have k:=aI D5.o.blk;obtain⟨k0,k1,k2,k3,k4,k5,k6,k7⟩:=eO k;clear k;have q0:=aI znI.o 0;rw[hm] at q0 fD;clear hm
   go_wp2_with fail
   go_region_with (go_at_call 94;refine(za2 m zbx _).mono ?_;rintro x w6 ⟨rfl,uN⟩;have zQ:bY W5.heap.size W5 w6:=⟨uN.os,uN.tape,uN.output,uN.size,uN.block⟩;have kT:=aD zQ;have k:=aI (mX zQ D5.o.blk).1;have r0:=eW (mX zQ tT.o).1;have z:=aI (mX zQ tT.o).1;obtain⟨k0,k1,k2,k3,k4,k5,k6,k7⟩:=eO k;obtain⟨z0,z1,z2,z3,z4,z5,z6,z7⟩:=eO z;clear k z uN zQ)
   all_goals
    go_wp2_with fail
    have Ez:=D5.o.keep kT.o;have Uu:=(mX kT.o tT.o).1;have er:=aI (tF v5 r5 Uu);refine nN (v:=.tuple #[.agg (fR (v5) (r5)),.string ⟨([99,97,108,108,32]++jH (m:Int):List UInt8).toArray⟩]) ?_ rfl ?_
    .unfold gQ at er
     simp[results,zji,go_sem,er,jH,Oy]
    .rw[fD.o]
     obtain⟨d1,d2,d3⟩:=Ez.done (b:=gb+1) aC;exact⟨v5,rfl,d1,d2,d3⟩
theorem zAm (lo:Nat)(v:fT)(r:cC)(op:Int)(w:aE)(h:dW w lo v r)(hs:Rg r)(eF:lo<=w.heap.size)(hq:∀x∈r.back,1<=x.c/\x.c<=99):
 fJ aK 65 #[.agg (fR v r),.int .i64 op] w (X7 lo v w (mQ r op)):=by
 obtain⟨gb,O,Z,fY,HO,HZ,fB,kC,pT,HL⟩:=zho h eF;clear h
 go_enter Tryz.func65,Tryz.ntmps65
 go_upto_region 1 with fail
 rw[<-HO.o,<-HZ.o,<-fY.o];obtain⟨W1,cV⟩:=aT ((w.alloc O).alloc Z);rw[<-cV] at fB kC pT⊢;clear cV;have k:=aI fB.o.blk;obtain⟨k0,k1,k2,k3,k4,k5,k6,k7⟩:=eO k;clear k;have Pv:=hs.nr
 go_upto_region 2 with(go_at_call 90;refine(zwK lo v r W1 fB.o.ok aC hs.off).mono ?_;rintro x w2 ⟨_,rfl,gf,cf,rfl,dF,b2⟩;have Rb:=aD dF;have iX:=aD b2;clear dF b2)
 have mL:=aD (fB.o.keep iX.o);have Eg:=aD (mX iX.o kC.o).1;have zc8:=aD (Rb.o.lt gf rfl);clear k0 k1 k2 k3 k4 k5 k6 k7;have k:=aI mL.o.blk;obtain⟨k0,k1,k2,k3,k4,k5,k6,k7⟩:=eO k;clear k;have vT:=aD mL.o.ok.slcR;by_cases l7:0<dO r.recs op
 .have fD:=aD (show mQ r op=(r,[116,97,108,107,115]) by unfold mQ;rw[if_pos l7])
  go_upto_region 3 with(go_at_call 45;refine(Rw lo w2.heap.size r.recs.length v.cR (some ⟨v.gR,0,none⟩) r.recs op w2 vT.o aC).mono ?_;rintro x w9 ⟨rfl,jU⟩;obtain rfl:=jU.symm)
  clear k0 k1 k2 k3 k4 k5 k6 k7 l7;have k:=aI mL.o.blk;obtain⟨k0,k1,k2,k3,k4,k5,k6,k7⟩:=eO k;clear k;have z:=aI Eg.o;obtain⟨z0,z1,z2,z3,z4,z5,z6,z7⟩:=eO z;clear z;have r0:=eW Eg.o
  go_wp2_with fail
  have er:=aI (tF v r Eg.o);refine nN (v:=.tuple #[.agg (fR (v) (r)),.string ⟨([116,97,108,107,115]:List UInt8).toArray⟩]) ?_ rfl ?_
  .unfold gQ at er
   simp[results,zhV,go_sem,er]
  .rw[fD.o]
   obtain⟨d1,d2,d3⟩:=mL.o.done (b:=gb+1) aC;exact⟨v,rfl,d1,d2,d3⟩
 .rcases xU:r.back with _|⟨c,cs⟩
  .have fD:=aD (show mQ r op=(r,[110,111,110,101]) by unfold mQ;rw[if_neg l7,xU])
   have Fs:r.back.length=0:=by rw[xU];rfl
   have zkZ:=aD (show v.sB r=.slice (some ⟨v.gB,0,none⟩) 0 v.cB by unfold fT.sB;rw[Fs]);have ze3:w2.cell? ⟨gb,6,none⟩=some (.slice (some ⟨v.gB,0,none⟩) 0 v.cB):=by rw[k6,<-zkZ.o];rfl
   clear k6 Fs xU
   go_upto_region 5 with(go_at_call 45;refine(Rw lo w2.heap.size r.recs.length v.cR (some ⟨v.gR,0,none⟩) r.recs op w2 vT.o aC).mono ?_;rintro x w9 ⟨rfl,jU⟩;obtain rfl:=jU.symm)
   clear k0 k1 k2 k3 k4 k5 ze3 k7 l7;have k:=aI mL.o.blk;obtain⟨k0,k1,k2,k3,k4,k5,k6,k7⟩:=eO k;clear k;have z:=aI Eg.o;obtain⟨z0,z1,z2,z3,z4,z5,z6,z7⟩:=eO z;clear z;have r0:=eW Eg.o
   go_wp2_with fail
   have er:=aI (tF v r Eg.o);refine nN (v:=.tuple #[.agg (fR (v) (r)),.string ⟨([110,111,110,101]:List UInt8).toArray⟩]) ?_ rfl ?_
   .unfold gQ at er
    simp[results,zhV,go_sem,er]
   .rw[fD.o]
    obtain⟨d1,d2,d3⟩:=mL.o.done (b:=gb+1) aC;exact⟨v,rfl,d1,d2,d3⟩
  .have hc:=hq c zdo
   have Fs:0<r.back.length:=by rw[xU];simp
   have za1:=aD (show r.back[0]? =some c by rw[xU];rfl);have zGg:(((r.back.length:Nat):Int)==0)=false:=by simp;intro e;rw[e] at Fs;simp at Fs
   rcases fL:o0 r.o r.recs with _|⟨l,fs⟩
   .have fD:=aD (show mQ r op=(r,[98,117,115,121]) by unfold mQ;rw[if_neg l7,xU,fL])
    simp only[zF];clear xU fL
    go_upto_region 7 with(go_at_call 45;refine(Rw lo w2.heap.size r.recs.length v.cR (some ⟨v.gR,0,none⟩) r.recs op w2 vT.o aC).mono ?_;rintro x w9 ⟨rfl,jU⟩;obtain rfl:=jU.symm)
    clear k0 k1 k2 k3 k4 k5 k6 k7 l7;have k:=aI mL.o.blk;obtain⟨k0,k1,k2,k3,k4,k5,k6,k7⟩:=eO k;clear k;have z:=aI Eg.o;obtain⟨z0,z1,z2,z3,z4,z5,z6,z7⟩:=eO z;clear z;have r0:=eW Eg.o
    go_wp2_with fail
    have er:=aI (tF v r Eg.o);refine nN (v:=.tuple #[.agg (fR (v) (r)),.string ⟨([98,117,115,121]:List UInt8).toArray⟩]) ?_ rfl ?_
    .unfold gQ at er
     simp[results,zhV,go_sem,er]
    .rw[fD.o]
     obtain⟨d1,d2,d3⟩:=mL.o.done (b:=gb+1) aC;exact⟨v,rfl,d1,d2,d3⟩
   .have fD:=aD (show mQ r op=({r with back:=dZ r.back c.c,recs:=r.recs++[⟨c.c,l,op,r.clk,r.clk,-1,eN⟩]},[99,97,108,108,32]++jH c.c) by unfold mQ;rw[if_neg l7,xU,fL])
    obtain⟨nf,Ga⟩:=aT ((l::fs).length);have y5:=zkB r.recs r.o.ln.toNat;have zna:=(C9 hs.off).2.1;have Dv:(o0 r.o r.recs).length=nf:=by rw[fL,Ga]
    have zGY:nf<=6:=by unfold o0 at Dv;omega
    have zbZ:0<nf:=by rw[Ga];simp
    have Q0:=aD (show w2.ownsRow W1.heap.size 3 1 (.slice (some ⟨gf,0,none⟩) nf cf) nf (jY (l::fs)) by have:=Rb.o;rw[Dv,fL] at this;exact this);rw[<-Ga];have oH:((nf:Int)==0)=false:=pX;have zzw:(0:Int)<(nf:Int):=aC;have i0:(0:Int)<(r.back.length:Int):=aC;have Dw:=mL.o.ok.slcB;obtain⟨b0,zzy,d0,Mg,-,-,-,tM,e0,e1⟩:=Dw.callsAt (k:=0) Fs;rw[za1.o] at tM;injection tM with tM;injection Mg with Mg;injection Mg with Ab As;subst Ab As tM;simp only[rL,zxf] at e0 e1;clear xU fL Ga y5 zna Dv Dw
    go_upto_region 8 with(go_at_call 45;refine(Rw lo w2.heap.size r.recs.length v.cR (some ⟨v.gR,0,none⟩) r.recs op w2 vT.o aC).mono ?_;rintro x w9 ⟨rfl,jU⟩;obtain rfl:=jU.symm)
    clear k0 k1 k2 k3 k4 k5 k7 l7
    go_upto_region 9 with fail
    obtain⟨gc,Sb⟩:=aT w2.heap.size;have zB3:=aD Sb;rw[<-Sb];obtain⟨W3,sE⟩:=aT (w2.alloc (If c));rw[<-sE];have zbz:=aD (show gM w W3 lo gb 2 v v r by rw[sE];exact mL.o.alloc _);have za5:=aD (show W3.heap[gb+1]? =some kO by rw[sE];exact dH Eg.o _);have zhe:=aD (show W3.heap[gc]? =some (If c) by rw[sE];exact mH _ _ Sb);have ztF:=aD (show W3.ownsRow W1.heap.size 3 1 (.slice (some ⟨gf,0,none⟩) nf cf) nf (jY (l::fs)) by rw[sE];exact Bn Q0.o (λb hb=>sV _ _ b hb));clear sE e0 e1 k6 Sb;have aU:=HL.o;have zKp:gb+2<=gf:=by have:=zc8.o;have:=pT.o;omega
    have zKT:gf<gc:=by have:=zc8.o;have:=zB3.o;omega
    have zDT:=aD zbz.o.ok.slcB;have oF:=hs.nb;have k:=aI zbz.o.blk;obtain⟨k0,k1,k2,k3,k4,k5,k6,k7⟩:=eO k;clear k;have q:=aI zhe.o;have q0:=q 0;have q1:=q 1;clear q;have kf:=eW zbz.o.blk
    go_upto_region 10 with(go_at_call 95;refine(zfj lo W3.heap.size r.back.length v.cB (some ⟨v.gB,0,none⟩) r.back c.c W3 zDT.o aC).mono ?_;rintro x w5 ⟨_,rfl,g5,c5,rfl,dF,b5⟩;have zav:=aD dF;have lM:=aD b5;have kx:=(mX b5 zbz.o.blk).1;have Po:=aI kx 6;have xD:=eW kx;clear dF b5 kx)
    obtain⟨W4,rE⟩:=aT (w5.setCell ⟨gb,6,none⟩ (.slice (some ⟨g5,0,none⟩) (dZ r.back c.c).length c5));have Cw:=aD (show gM w W4 lo gb 2 v {v with gB:=g5,cB:=c5} {r with back:=dZ r.back c.c} by rw[rE];exact zbz.o.setB lM.o zav.o rfl);have Ta:=aD (show W4.heap[gb+1]? =some kO by rw[rE];exact(dU w5 _ _ (gb+1) zjQ).trans (mX lM.o za5.o).1);have Vu:=aD (show W4.heap[gc]? =some (If c) by rw[rE];exact(dU w5 _ _ gc (by show gc≠gb;omega)).trans (mX lM.o zhe.o).1);have zEX:=aD (show W4.ownsRow W1.heap.size 3 1 (.slice (some ⟨gf,0,none⟩) nf cf) nf (jY (l::fs)) by rw[rE];exact Cb ztF.o ((dU w5 _ _ gf (by show gf≠gb;omega)).trans (lM.o.block gf (ztF.o.lt gf rfl).2)));rw[<-rE];clear rE Po xD kf q0 q1 k0 k1 k2 k3 k4 k5 k6 k7;obtain⟨v1,qF⟩:=aT ({v with gB:=g5,cB:=c5}:fT);obtain⟨r1,kG⟩:=aT ({r with back:=dZ r.back c.c}:cC);have zkI:v1.gR=v.gR:=by rw[qF]
    have zLL:v1.gR<gb:=by rw[zkI];exact aU.1
    have zLZ:r1.recs.length<=1000:=by rw[kG];exact hs.nr
    rw[<-qF,<-kG] at Cw;replace fD:=aD (show mQ r op=({r1 with recs:=r1.recs++[⟨c.c,l,op,r1.clk,r1.clk,-1,eN⟩]},[99,97,108,108,32]++jH c.c) by rw[fD.o,kG]);clear qF kG zkI;have k:=aI Cw.o.blk;obtain⟨k0,k1,k2,k3,k4,k5,k6,k7⟩:=eO k;clear k;have q0:=aI Vu.o 0;have Ld:W4.cell? ⟨gf,0,none⟩=some (.int .i64 l):=zEX.o.cellAt 0 aC;have zBz:gc<W4.heap.size:=iR Vu.o
    go_cut [] from 38 to 53 (λwx=>∃g1 c1,gM w wx lo gb 2 v {v1 with gR:=g1,cR:=c1} {r1 with recs:=r1.recs++[⟨c.c,l,op,r1.clk,r1.clk,-1,eN⟩]}/\wx.heap[gc]? =some (If c)/\wx.heap[gb+1]? =some kO)
    case first=>
     obtain⟨i0,fN,gA,dS,jQ⟩:=C6 zw8;have HI:=aD fN;clear fN;have kB:∀o:Obj,(W4.alloc o).cell? ⟨gb,4,none⟩=some (v1.sR r1):=λo=>B7 k4 o;have zkA:gb<W4.heap.size:=aC;have S0:W4.cell? ⟨gb,3,none⟩=some (.int .i64 r1.clk)/\W4.cell? ⟨gc,0,none⟩=some (.int .i64 c.c)/\W4.cell? ⟨gf,0,none⟩=some (.int .i64 l):=⟨k3,q0,Ld⟩;have Hk:=aD S0;clear S0;obtain⟨g1,c1,w3,fM,tK,r8,B1,Ka⟩:=zd3 (P:=aK) (W4.alloc (.cells #[.int .i64 c.c,.int .i64 l,.int .i64 op,.int .i64 r1.clk,.int .i64 r1.clk,.int .i64 (-1),.string eN] 50)).drew 45 45 lo 50 i0 (.agg #[.int .i64 0,.int .i64 0,.int .i64 0,.int .i64 0,.int .i64 0,.int .i64 0,.string ⟨#[]⟩]) 7 64 zr8 HI.o gA dS jQ rfl aH v1.gR v1.cR r1.recs.length (recs r1.recs) (Bn Cw.o.ok.rc (λb hb=>sV _ _ b hb)) ⟨W4.heap.size,0,none⟩ 1 1 (bV.cells ⟨c.c,l,op,r1.clk,r1.clk,-1,eN⟩) rfl (Gl (cs:=(bV.cells ⟨c.c,l,op,r1.clk,r1.clk,-1,eN⟩).toArray) (gV _ _)) zil Wb aC (by have:=Cw.o.lob;simp;omega);have qY:=aD r8;have zbg:=aD tK;have zaf:=aD Ka;have kx:=(Ao r8 (dH Cw.o.blk _) aC).1;have zcG:=aI kx 4;have xD:=eW kx;clear tK r8 B1 Ka kx;refine wp_RU10 W4 w3 gb gc gf v1.gR r1.recs.length v1.cR g1 c1 _ _ c.c l op r1.clk rfl rfl rfl rfl rfl k3 k4 q0 Ld aC fM zcG (xD _) rfl ?_;clear fM zcG xD;rw[Go.Mt.zO,ztn];simp only[Go.Mt.wV,dY,dX,zlq,lRU10,En,Es]
     go_wp2_with fail
     go_meet
     refine⟨g1,c1,((Cw.o.alloc _).drew).appR qY.o zbg.o rfl zaf.o,?_,?_⟩
     .exact(dU w3 _ _ gc (by show gc≠gb;omega)).trans (Ao qY.o (Mo (dH Vu.o _)) aC).1
     .exact(dU w3 _ _ (gb+1) zjQ).trans (Ao qY.o (Mo (dH Ta.o _)) aC).1
    case rest=>
     obtain⟨g1,c1,Bu,Kc,Ig⟩:=hcut;clear k0 k1 k2 k3 k4 k5 k6 k7 q0 Ld zBz;obtain⟨W5,xX⟩:=aT wc;have znI:=aD (show W5.heap[gc]? =some (If c) by rw[xX];exact Kc);have tT:=aD (show W5.heap[gb+1]? =some kO by rw[xX];exact Ig);have D5:=aD (show gM w W5 lo gb 2 v {v1 with gR:=g1,cR:=c1} {r1 with recs:=r1.recs++[⟨c.c,l,op,r1.clk,r1.clk,-1,eN⟩]} by rw[xX];exact Bu);clear Bu Kc Ig;rw[<-xX];clear xX;obtain⟨v5,oL⟩:=aT ({v1 with gR:=g1,cR:=c1}:fT);obtain⟨r5,eE⟩:=aT ({r1 with recs:=r1.recs++[⟨c.c,l,op,r1.clk,r1.clk,-1,eN⟩]}:cC);rw[<-oL,<-eE] at D5;rw[<-eE] at fD;clear oL eE;obtain⟨m,hm⟩:∃m:Nat,c.c=(m:Int):=⟨c.c.toNat,aC⟩;have zbx:m<=100000000:=aC;have Jm:(Kj (m:Int)).length<=20:=by rw[Wc];exact Vh aC
     have k:=aI D5.o.blk;obtain⟨k0,k1,k2,k3,k4,k5,k6,k7⟩:=eO k;clear k;have q0:=aI znI.o 0;rw[hm] at q0 fD;clear hm
     go_wp2_with fail
     go_region_with (go_at_call 94;refine(za2 m zbx _).mono ?_;rintro x w6 ⟨rfl,uN⟩;have zQ:bY W5.heap.size W5 w6:=⟨uN.os,uN.tape,uN.output,uN.size,uN.block⟩;have kT:=aD zQ;have k:=aI (mX zQ D5.o.blk).1;have r0:=eW (mX zQ tT.o).1;have z:=aI (mX zQ tT.o).1;obtain⟨k0,k1,k2,k3,k4,k5,k6,k7⟩:=eO k;obtain⟨z0,z1,z2,z3,z4,z5,z6,z7⟩:=eO z;clear k z uN zQ)
     all_goals
      go_wp2_with fail
      have Ez:=D5.o.keep kT.o;have Uu:=(mX kT.o tT.o).1;have er:=aI (tF v5 r5 Uu);refine nN (v:=.tuple #[.agg (fR (v5) (r5)),.string ⟨([99,97,108,108,32]++jH (m:Int):List UInt8).toArray⟩]) ?_ rfl ?_
      .unfold gQ at er
       simp[results,zhV,go_sem,er,jH,Oy]
      .rw[fD.o]
       obtain⟨d1,d2,d3⟩:=Ez.done (b:=gb+1) aC;exact⟨v5,rfl,d1,d2,d3⟩
theorem zBP (lo:Nat)(v:fT)(r:cC)(call:Int)(w:aE)(h:dW w lo v r)(hs:Rg r)(eF:lo<=w.heap.size):
 fJ aK 66 #[.agg (fR v r),.int .i64 call] w (X7 lo v w (nD r call)):=by
 obtain⟨gb,O,Z,fY,HO,HZ,fB,kC,pT,HL⟩:=zho h eF;clear h
 go_enter Tryz.func66,Tryz.ntmps66
 go_upto_region 1 with fail
 rw[<-HO.o,<-HZ.o,<-fY.o];obtain⟨W1,cV⟩:=aT ((w.alloc O).alloc Z);rw[<-cV] at fB kC pT⊢;clear cV;have k:=aI fB.o.blk;obtain⟨k0,k1,k2,k3,k4,k5,k6,k7⟩:=eO k;clear k;have Pv:=hs.nr;have L2:=hs.nw;have oF:=hs.nb;have vT:=aD fB.o.ok.slcR;have Gv:=aD fB.o.ok.slcB;have Q5:gb+1≠v.gR:=by have:=HL.o;omega
 have zdD:gb+1≠v.gB:=by have:=HL.o;omega
 have z:=aI kC.o;obtain⟨z0,z1,z2,z3,z4,z5,z6,z7⟩:=eO z;clear z;have r0:=eW kC.o;rcases wG:iS r.recs call with _|i
 .have Og:=aD (zdW wG)
  rcases uT:wA r.back call with _|j
  .have Ps:=aD (zdW uT)
   have fD:=aD (show nD r call=(r,[103,111,110,101]) by unfold nD;rw[wG];simp[uT]);clear wG uT
   go_upto_region 9 with(first|(go_at_call 91;refine(Kq lo W1.heap.size r.recs.length v.cR (some ⟨v.gR,0,none⟩) r.recs call W1 vT.o aC).mono ?_;rintro x w9 ⟨rfl,jU⟩;obtain rfl:=jU.symm;rw[Og.o])|(go_at_call 92;refine(zbk lo W1.heap.size r.back.length v.cB (some ⟨v.gB,0,none⟩) r.back call W1 Gv.o aC).mono ?_;rintro x w9 ⟨rfl,jU⟩;obtain rfl:=jU.symm;rw[Ps.o]))
   clear k0 k1 k2 k3 k4 k5 k6 k7 z0 z1 z2 z3 z4 z5 z6 z7 r0;have k:=aI fB.o.blk;obtain⟨k0,k1,k2,k3,k4,k5,k6,k7⟩:=eO k;clear k;have z:=aI kC.o;obtain⟨z0,z1,z2,z3,z4,z5,z6,z7⟩:=eO z;clear z;have r0:=eW kC.o
   go_wp2_with fail
   have er:=aI (tF v r kC.o);refine nN (v:=.tuple #[.agg (fR (v) (r)),.string ⟨([103,111,110,101]:List UInt8).toArray⟩]) ?_ rfl ?_
   .unfold gQ at er
    simp[results,zd9,go_sem,er]
   .rw[fD.o]
    obtain⟨d1,d2,d3⟩:=fB.o.done (b:=gb+1) aC;exact⟨v,rfl,d1,d2,d3⟩
  .have Ps:=aD (Xr uT)
   have zmR:(0:Int)<=(j:Int):=aC;have fD:=aD (show nD r call=({r with back:=dZ r.back call},[111,102,102]) by unfold nD;rw[wG];simp[uT]);clear wG uT
   go_upto_region 7 with(first|(go_at_call 91;refine(Kq lo W1.heap.size r.recs.length v.cR (some ⟨v.gR,0,none⟩) r.recs call W1 vT.o aC).mono ?_;rintro x w9 ⟨rfl,jU⟩;obtain rfl:=jU.symm;rw[Og.o])|(go_at_call 92;refine(zbk lo W1.heap.size r.back.length v.cB (some ⟨v.gB,0,none⟩) r.back call W1 Gv.o aC).mono ?_;rintro x w9 ⟨rfl,jU⟩;obtain rfl:=jU.symm;rw[Ps.o]))
   have kf:=eW fB.o.blk
   go_upto_region 8 with(go_at_call 95;refine(zfj lo W1.heap.size r.back.length v.cB (some ⟨v.gB,0,none⟩) r.back call W1 Gv.o aC).mono ?_;rintro x w5 ⟨_,rfl,g5,c5,rfl,dF,b5⟩;have zav:=aD dF;have lM:=aD b5;have kx:=(mX b5 fB.o.blk).1;have Po:=aI kx 6;have xD:=eW kx;clear dF b5 kx)
   obtain⟨W4,rE⟩:=aT (w5.setCell ⟨gb,6,none⟩ (.slice (some ⟨g5,0,none⟩) (dZ r.back call).length c5));have Cw:=aD (show gM w W4 lo gb 2 v {v with gB:=g5,cB:=c5} {r with back:=dZ r.back call} by rw[rE];exact fB.o.setB lM.o zav.o rfl);have Ta:=aD (show W4.heap[gb+1]? =some kO by rw[rE];exact(dU w5 _ _ (gb+1) aQ).trans (mX lM.o kC.o).1);rw[<-rE];clear rE Po xD kf k0 k1 k2 k3 k4 k5 k6 k7 z0 z1 z2 z3 z4 z5 z6 z7 r0;obtain⟨v5,oL⟩:=aT ({v with gB:=g5,cB:=c5}:fT);obtain⟨r5,eE⟩:=aT ({r with back:=dZ r.back call}:cC);rw[<-oL,<-eE] at Cw;rw[<-eE] at fD;clear oL eE;have k:=aI Cw.o.blk;obtain⟨k0,k1,k2,k3,k4,k5,k6,k7⟩:=eO k;clear k;have z:=aI Ta.o;obtain⟨z0,z1,z2,z3,z4,z5,z6,z7⟩:=eO z;clear z;have r0:=eW Ta.o
   go_wp2_with fail
   have er:=aI (tF v5 r5 Ta.o);refine nN (v:=.tuple #[.agg (fR (v5) (r5)),.string ⟨([111,102,102]:List UInt8).toArray⟩]) ?_ rfl ?_
   .unfold gQ at er
    simp[results,zd9,go_sem,er]
   .rw[fD.o]
    obtain⟨d1,d2,d3⟩:=Cw.o.done (b:=gb+1) aC;exact⟨v5,rfl,d1,d2,d3⟩
 .have Og:=aD (Xr wG)
  obtain⟨d,hd,-,-⟩:=C1 wG;have hi:=(l8.1 hd).1;have fN:(0:Int)<=(i:Int):=aC;have zZ:(i:Int)<(r.recs.length:Int):=aC;have hop:opAt r.recs i=d.o:=by unfold opAt;rw[hd]
  obtain⟨c0,c1,c2,c3,c4,c5,c6⟩:=fB.o.ok.recAt hd;have HD:=aD hd;by_cases zpF:0<d.o
  .have fD:=aD (show nD r call=(lN r i G4,[100,111,110,101]) by unfold nD;rw[wG];simp only;rw[if_pos (by rw[hop];exact zpF)])
   clear wG hd hop
   go_upto_region 3 with(go_at_call 91;refine(Kq lo W1.heap.size r.recs.length v.cR (some ⟨v.gR,0,none⟩) r.recs call W1 vT.o aC).mono ?_;rintro x w9 ⟨rfl,jU⟩;obtain rfl:=jU.symm;rw[Og.o])
   clear c0 c1 c2 c3 c4 c5 c6 z0 z1 z2 z3 z4 z5 z6 z7 r0
   go_wp2_with (go_at_call 96;refine(zoi lo i v r d G4 W1 fB.o.ok HD.o aC aC zyq).mono ?_;rintro x w5 ⟨g5,c5,rfl,bM,jO,Gj⟩;obtain⟨v5,oL⟩:=aT ({v with gW:=g5,cW:=c5}:fT);obtain⟨r5,eE⟩:=aT (lN r i G4:cC);rw[<-oL,<-eE] at bM⊢;have Y0:=aD oL;have oZ:=aD eE;have vQ:=aD bM;have vJ:=aD jO;have zlA:=aD Gj;have kr:=jO.blk kC.o Q5 zdD;have tT:=aD kr;have z:=aI kr;have r0:=eW kr;obtain⟨z0,z1,z2,z3,z4,z5,z6,z7⟩:=eO z;clear bM jO Gj kr z oL eE)
   have oL:=Y0.o;have eE:=oZ.o;rw[<-eE] at fD;have er:=aI (tF v5 r5 tT.o);refine nN (v:=.tuple #[.agg (fR (v5) (r5)),.string ⟨([100,111,110,101]:List UInt8).toArray⟩]) ?_ rfl ?_
   .unfold gQ at er
    simp[results,zd9,go_sem,er]
   .rw[fD.o]
    have hl:=HL.o;have hz:=pT.o;have hg:=zlA.o;have eU:=fY.o;exact⟨v5,rfl,vQ.o.set8 tL,(fB.o.turn.same vJ.o).set8 aC,by rw[oL];exact⟨.inl rfl,.inr Mm,.inl rfl,rfl⟩⟩
  .have fD:=aD (show nD r call=(lN r i Dd,[108,101,102,116]) by unfold nD;rw[wG];simp only;rw[if_neg (by rw[hop];exact zpF)])
   clear wG hd hop
   go_upto_region 5 with(go_at_call 91;refine(Kq lo W1.heap.size r.recs.length v.cR (some ⟨v.gR,0,none⟩) r.recs call W1 vT.o aC).mono ?_;rintro x w9 ⟨rfl,jU⟩;obtain rfl:=jU.symm;rw[Og.o])
   clear c0 c1 c2 c3 c4 c5 c6 z0 z1 z2 z3 z4 z5 z6 z7 r0
   go_wp2_with (go_at_call 96;refine(zoi lo i v r d Dd W1 fB.o.ok HD.o aC aC zyq).mono ?_;rintro x w5 ⟨g5,c5,rfl,bM,jO,Gj⟩;obtain⟨v5,oL⟩:=aT ({v with gW:=g5,cW:=c5}:fT);obtain⟨r5,eE⟩:=aT (lN r i Dd:cC);rw[<-oL,<-eE] at bM⊢;have Y0:=aD oL;have oZ:=aD eE;have vQ:=aD bM;have vJ:=aD jO;have zlA:=aD Gj;have kr:=jO.blk kC.o Q5 zdD;have tT:=aD kr;have z:=aI kr;have r0:=eW kr;obtain⟨z0,z1,z2,z3,z4,z5,z6,z7⟩:=eO z;clear bM jO Gj kr z oL eE)
   have oL:=Y0.o;have eE:=oZ.o;rw[<-eE] at fD;have er:=aI (tF v5 r5 tT.o);refine nN (v:=.tuple #[.agg (fR (v5) (r5)),.string ⟨([108,101,102,116]:List UInt8).toArray⟩]) ?_ rfl ?_
   .unfold gQ at er
    simp[results,zd9,go_sem,er]
   .rw[fD.o]
    have hl:=HL.o;have hz:=pT.o;have hg:=zlA.o;have eU:=fY.o;exact⟨v5,rfl,vQ.o.set8 tL,(fB.o.turn.same vJ.o).set8 aC,by rw[oL];exact⟨.inl rfl,.inr Mm,.inl rfl,rfl⟩⟩
def dC (r:cC)(m:Int)(k:Nat):cC×List UInt8:=(r.wait.take k).foldl lT ({r with clk:=r.clk+m},[97,116,32]++jH (r.clk+m))
variable {m:Int}{x:bN}
theorem zft {k:Nat}(h:r.wait[k]? =some x):dC r m (k+1)=lT (dC r m k) x:=by
 unfold dC;rw[List.take_add_one,h,zx7];rfl
theorem zbV (r:cC)(m:Int):dC r m r.wait.length=uQ r m:=by
 unfold dC uQ;rw[List.take_of_length_le (bL _)]
theorem zcV (rs:List bV)(c:Int):(iS rs c).isSome=rs.any (Bb c):=by unfold iS;exact List.findIdx?_isSome
variable {d:bV}
theorem zoz {f:bV->bV}(hd:rs[i]? =some d)(hc:d.c≠c)(h:(iS rs c).isSome=true):(iS (rs.modify i f) c).isSome=true:=by
 rw[zcV,List.any_eq_true] at*;obtain⟨x,hx,hp⟩:=h;obtain⟨j,hj,e⟩:=List.mem_iff_getElem.1 hx;have fF:i≠j:=by
  intro e2;subst e2;rw[nI hj,e] at hd;injection hd with hd;unfold Bb at hp;simp at hp;exact hc (hd▸hp.1)
 refine⟨x,?_,hp⟩;refine Io.2 ⟨j,?_⟩;rw[L3,nI hj,e];simp[fF]
structure TiredOk (r:cC)(m:Int)(k:Nat):Prop where
 nrec:(dC r m k).1.recs.length=r.recs.length
 off:(dC r m k).1.o=r.o
 clk:(dC r m k).1.clk=r.clk+m
 nb:(dC r m k).1.back.length<=r.back.length+k
 nw:(dC r m k).1.wait.length<=r.wait.length
 txt:(dC r m k).2.length<=30+30*k
 has:∀j x,k<=j->r.wait[j]? =some x->(iS (dC r m k).1.recs x.c).isSome=true
 fr:∀d∈(dC r m k).1.recs,0<=d.f/\d.f<=100000
def Zb (xs:List bN)(q:Int):(dZ xs q).length<=xs.length:=Y6 _ _
theorem Pg (h0:0<=c)(h1:c<=1000000):(jH c).length<=20:=by
 obtain⟨n,rfl⟩:∃n:Nat,c=(n:Int):=⟨c.toNat,aC⟩;unfold jH;rw[Wc];exact Vh aC
variable {bt:cC×List UInt8}
theorem zdA (hi:iS bt.1.recs x.c=some i)(hd:bt.1.recs[i]? =some d):
 lT bt x=if bt.1.o.pt<=bt.1.clk-d.f then({lN bt.1 i Gn with back:=bt.1.back++[x]},bt.2++[32]++jH x.c) else bt:=by
 unfold lT;rw[hi];simp only;rw[show X9 bt.1.recs i=d.f by unfold X9;rw[hd]]
theorem zlW (hq:zeR r)(hn:(r.wait.map bN.c).Nodup)(hf:∀d∈r.recs,0<=d.f/\d.f<=100000)(hc:0<=r.clk+m/\r.clk+m<=1000000):∀k,k<=r.wait.length->TiredOk r m k
 |0,_=>⟨rfl,rfl,rfl,bL _,bL _,by
  have:=Pg hc.1 hc.2;show([97,116,32]++jH (r.clk+m)).length<=_;rw[jZ];simp only[wL,zF];omega,λj x _ hx=>hq.has x (fI hx),hf⟩
 |k+1,hk=>by
  have T:=zlW hq hn hf hc k aC;obtain⟨x,hx⟩:∃x,r.wait[k]? =some x:=⟨r.wait[k],nI aC⟩;obtain⟨i,hi⟩:=Xe.1 (T.has k x (bL _) hx);obtain⟨d,hd,zcR,-⟩:=C1 hi;have e:=zdA (bt:=dC r m k) hi hd;have e1:=zft (m:=m) hx;rw[e] at e1;have zHO:=hq.num x (fI hx);have Fw:=Pg (c:=x.c) aC aC;by_cases hp:(dC r m k).1.o.pt<=(dC r m k).1.clk-d.f
  .rw[if_pos hp] at e1
   refine⟨?_,?_,?_,?_,?_,?_,?_,?_⟩<;>rw[e1]
   .show(zcm _ _ _).length=_
    rw[Lj];exact T.nrec
   .exact T.off
   .exact T.clk
   .have:=T.nb
    simp only[jZ,wL,zF];omega
   .exact eG (Zb _ _) T.nw
   .have:=T.txt
    simp only[jZ,wL,zF];omega
   .intro j y hj hy
    have znZ:d.c≠y.c:=by
     intro e2;rw[zcR] at e2;have uW:=(l8.1 hy).1;have ziD:=(l8.1 hx).1;have aV:=(List.pairwise_iff_getElem.1 hn) k j uU uU aC;apply aV;rw[zyv,zyv];rw[nI ziD] at hx;rw[nI uW] at hy;injection hx with hx;injection hy with hy;rw[hx,hy,e2]
    exact zoz hd znZ (T.has j y aC hy)
   .intro z hz
    obtain⟨j,hj⟩:=Io.1 hz;have rG:(zcm (dC r m k).1.recs i λd=>{d with t:=(dC r m k).1.clk,e:=Gn})[j]? =some z:=hj;rw[L3] at rG;rcases zam:(dC r m k).1.recs[j]? with _|y
    .simp_all
    .rw[zam] at rG
     have hy:=T.fr y (fI zam);split at rG<;>(simp at rG;subst rG;exact hy)
  .rw[if_neg hp] at e1
   exact⟨by rw[e1];exact T.nrec,by rw[e1];exact T.off,by rw[e1];exact T.clk,by rw[e1];have:=T.nb;omega,by rw[e1];exact T.nw,by rw[e1];have:=T.txt;omega,by rw[e1];exact λj y hj hy=>T.has j y aC hy,by rw[e1];exact T.fr⟩
section
variable {w0 w w':aE}{lo gb k:Nat}{v0 v v':fT}{r r':cC}
theorem gM.setClk {c:Int}(h:gM w0 w lo gb k v0 v r):gM w0 (w.setCell ⟨gb,3,none⟩ (.int .i64 c)) lo gb k v0 v {r with clk:=c}:=by
 have aR:=h.aR;have aW:=h.aW;have aB:=h.aB;have aL:=h.aL;have Nn:=h.base;have t:=h.turn;have kp:=h.kpos;refine⟨(h.ok.setCell aC).clock c,⟨t.os,t.tape,t.output,by rw[wR];exact t.size,λy hy e1 e2=>(dU w _ _ y tL).trans (t.block y hy e1 e2)⟩,h.moved,h.base,?_,by rw[wR];exact h.size,h.kpos,aR,aW,aB,aL,h.lob⟩;rw[oQ h.blk];rfl
theorem gM.whole {n:Nat}(h:gM w0 w lo gb k v0 v r)(ho:dW w' lo v' r')(t:oV v w w')(m:xB n v v')(hn:n=w.heap.size):
 gM w0 (gQ w' gb (.int .i64 r'.o.ln) (.int .i64 r'.o.op) (.int .i64 r'.o.pt) (.int .i64 r'.clk) (v'.sR r') (v'.sW r') (v'.sB r') (v'.sL r')) lo gb k v0 v' r':=by
 obtain⟨_,t2,m2,hb⟩:=h.turned ho t m hn;have aR:=h.aR;have aW:=h.aW;have aB:=h.aB;have aL:=h.aL;have mr:=m.r;have mw:=m.w;have mb:=m.b;have ml:=m.l;have sz:=h.size;have kp:=h.kpos;have Nn:=h.base;have tz:=t.size;refine⟨ho.set8 aC,t2.set8 aC,m2,h.base,zdi hb,by rw[zli];omega,h.kpos,aC,aC,aC,aC,h.lob⟩
end
def zDA {b x:Nat}{o:Obj}{a0 a1 a2 a3 a4 a5 a6 a7:aF}(h:w.heap[x]? =some o)(hx:x≠b):(gQ w b a0 a1 a2 a3 a4 a5 a6 a7).heap[x]? =some o:=(Hq hx).trans h
theorem zFF (lo:Nat)(v:fT)(r:cC)(m:Int)(w:aE)(h:dW w lo v r)(hs:Rg r)(eF:lo<=w.heap.size)(hq:zeR r)(lK:(r.wait.map bN.c).Nodup)(fL:∀d∈r.recs,0<=d.f/\d.f<=100000)(zfb:0<=m)(Yd:m<=100000):
 fJ aK 67 #[.agg (fR v r),.int .i64 m] w (X7 lo v w (uQ r m)):=by
 have fM:=h.ap;have zjC:=aD (zlW (m:=m) hq lK fL (by have:=hs.clk;omega));have zHg:=aD hq.num;have zw6:=(C9 hs.off).2.2.2.2;clear lK fL hq;obtain⟨gb,O,Z,fY,HO,HZ,fB,kC,pT,HL⟩:=zho h eF;clear h
 go_enter Tryz.func67,Tryz.ntmps67
 go_upto_region 1 with fail
 rw[<-HO.o,<-HZ.o,<-fY.o];obtain⟨W1,cV⟩:=aT ((w.alloc O).alloc Z);rw[<-cV] at fB kC pT⊢;clear cV;obtain⟨n,hn⟩:=aT r.wait.length;have oF:=hs.nb;have Co:=hs.nr;have L2:n<=1000:=by rw[hn];exact hs.nw
 have Sj:=aD hn;have Iz:=hs.clk;obtain⟨zle,zHS⟩:=Iz;obtain⟨ck,Iz⟩:=aT r.clk;have Hy:=aD Iz;rw[<-Iz] at zle zHS;have k:=aI fB.o.blk;obtain⟨k0,k1,k2,k3,k4,k5,k6,k7⟩:=eO k;clear k;have V6:W1.cell? ⟨gb,3,none⟩=some (.int .i64 ck):=by rw[k3,Hy.o];rfl
 have kf:=eW fB.o.blk;clear k3 Iz hn;have mL:=aD (show gM w (W1.setCell ⟨gb,3,none⟩ (.int .i64 (ck+m))) lo gb 2 v v {r with clk:=ck+m} from fB.o.setClk)
 go_upto_region 2 with fail
 obtain⟨W2,oE⟩:=aT (W1.setCell ⟨gb,3,none⟩ (.int .i64 (ck+m)));rw[<-oE] at mL⊢;have Eg:=aD (show W2.heap[gb+1]? =some kO by rw[oE];exact(dU W1 _ _ (gb+1) aQ).trans kC.o);clear k0 k1 k2 V6 k4 k5 k6 k7 kf oE;obtain⟨c2,o8⟩:∃c2:Nat,ck+m=(c2:Int):=⟨(ck+m).toNat,aC⟩;have zAs:c2<=100000000:=aC;have Jm:(Kj (c2:Int)).length<=20:=by rw[Wc];exact Vh aC
 have Rm:=aD o8;have k3:=aI mL.o.blk 3;have V6:W2.cell? ⟨gb,3,none⟩=some (.int .i64 (c2:Int)):=by rw[<-o8];exact k3
 clear k3 o8
 go_upto_region 3 with(go_at_call 94;refine(za2 c2 zAs _).mono ?_;rintro x w3 ⟨rfl,Vw⟩;have wO:=aD Vw;clear Vw)
 have zl8:=aD (mL.o.keep wO.o);have za5:=aD (mX wO.o Eg.o).1;have k5:=aI zl8.o.blk 5;have zw2:w3.cell? ⟨gb,5,none⟩=some (.slice (some ⟨v.gW,0,none⟩) n v.cW):=by rw[k5,Sj.o];rfl
 clear k5 V6;have zlO:=aD (show(⟨([97,116,32]++Kj (c2:Int):List UInt8).toArray⟩:ByteArray)=⟨(dC r m 0).2.toArray⟩ by show _=(⟨([97,116,32]++jH (r.clk+m):List UInt8).toArray⟩:ByteArray);rw[<-Hy.o,Rm.o];rfl);have zLW:=HL.o
 go_wp2_with fail
 go_loopw [6,8] (λt i wr=>∃(k:Nat) (v1:fT),k<=n/\i=.int .i64 k/\t=.string ⟨(dC r m k).2.toArray⟩/\gM w wr lo gb 2 v v1 (dC r m k).1/\wr.heap[gb+1]? =some kO/\wr.ownsRow lo 100 2 (.slice (some ⟨v.gW,0,none⟩) n v.cW) n (bH r.wait)) (λ_ i _=>n-(intOf i).toNat)
 case atStart=>
  refine⟨0,v,mK _,rfl,?_,?_,za5.o,?_⟩
  .rw[<-zlO.o];congr 1
  .have e:(dC r m 0).1={r with clk:=ck+m}:=by rw[Hy.o];rfl
   rw[e];exact zl8.o
  .have:=zl8.o.ok.wt
   rw[Sj.o];exact this
 case round=>
  obtain⟨k,v1,hk,rfl,rfl,fA,Ig,cF⟩:=hrel;have T:=zjC.o k (by have:=Sj.o;omega);obtain⟨r1,kG⟩:=aT ((dC r m k).1);obtain⟨tx,zeN⟩:=aT ((dC r m k).2);have zv4:=T.nrec;have zx1:=T.nb;have zq2:=T.nw;have zwe:=T.txt;have zj8:=T.clk;have zlN:=T.off;have zqD:=aD T.fr;have zoq:=aD T.has;rw[<-kG] at fA zv4 zx1 zq2 zj8 zlN zqD zoq;rw[<-zeN] at zwe⊢;have jE:=aD kG;have ziN:=aD zeN;have vL:=aD fA;have zfJ:=aD Ig;have Pz:=aD cF;have zJG:r1.recs.length<=1000:=aC;have zBM:r1.back.length<=6000:=aC;have zG9:r1.wait.length<=1000:=by have:=hs.nw;omega
  have zMh:tx.length<=40000:=aC;have zkA:gb+2<=wr.heap.size:=fA.size;have zKA:=fA.moved.r;have zJ3:=fA.moved.b;have ztK:=aD zj8;have Dg:=aD zlN;clear T kG zeN fA Ig cF zv4 zx1 zq2 zwe zj8 zlN;by_cases aU:k<n
  .obtain⟨bx,ox,x,hA,-,-,zAu,fG,e0,e1⟩:=(Be Pz.o aH).callsAt aU
   injection hA with hA;injection hA with Ab As;subst Ab As;simp only[rL] at e0 e1;obtain⟨i,wG⟩:=Xe.1 (zoq.o k x (bL _) fG);obtain⟨d,hd,zcR,-⟩:=C1 wG;have zHO:=zHg.o x (fI fG);have hi:=(l8.1 hd).1;have fN:(0:Int)<=(i:Int):=aC;have zZ:(i:Int)<(r1.recs.length:Int):=aC;have i0:(0:Int)<=(k:Int):=aC;have i1:(k:Int)<(n:Int):=aC;obtain⟨zKG,zLF⟩:=zqD.o d (fI hd);have uS:=aD (show dC r m (k+1)=if r1.o.pt<=r1.clk-d.f then({lN r1 i Gn with back:=r1.back++[x]},tx++[32]++jH x.c) else(r1,tx) by
    rw[zft fG,zdA (i:=i) (d:=d) (by rw[<-jE.o];exact wG) (by rw[<-jE.o];exact hd),<-jE.o,<-ziN.o];congr 1;rw[jE.o,ziN.o])
   have Og:=aD (Xr wG);have HD:=aD hd;have zkp:=aD fG;obtain⟨q,zkJ⟩:=aT x.c;have HE:=aD (λnq:Nat=>fJ.quiet_of (w:=wr) (n:=nq) ((Kq lo wr.heap.size r1.recs.length v1.cR (some ⟨v1.gR,0,none⟩) r1.recs x.c (wr.drewN nq) (have hs:=vL.o.ok.slcR;⟨hs.len,hs.le,hs.cap,hs.at_⟩) aC).mono λe w' hh=>by rw[Og.o] at hh;exact⟨hh.1,0,hh.2⟩));obtain⟨c0,c1,zik,c3,c4,c5,c6⟩:=vL.o.ok.recAt hd;clear wG hd zcR fG zkJ;have k:=aI vL.o.blk;obtain⟨k0,k1,k2,k3,k4,k5,k6,k7⟩:=eO k;clear k
   go_wp2_with fail
   go_quiet ((go_at_call 91;exact HE.o _))
   go_wp2_with fail
   obtain⟨wq,tN⟩:=aT (wr.drewN nq);rw[<-tN];have ze9:=aD (show gM w wq lo gb 2 v v1 r1 by rw[tN];exact vL.o.keep ⟨rfl,rfl,rfl,bL _,λ_ _=>rfl⟩);have zq6:=aD (show wq.heap[gb+1]? =some kO by rw[tN];exact zfJ.o);have zvO:=aD (show wq.ownsRow lo 100 2 (.slice (some ⟨v.gW,0,none⟩) n v.cW) n (bH r.wait) by rw[tN];exact Bn Pz.o (λ_ _=>rfl));replace e0:wq.cell? ⟨v.gW,k*2,none⟩=some (.int .i64 x.c):=by rw[tN];exact e0
   replace e1:wq.cell? ⟨v.gW,k*2+1,none⟩=some (.int .i64 x.p):=by rw[tN];exact e1
   have zI3:v.gW<wq.heap.size:=by rw[tN];exact zAu
   have Cd:gb+2<=wq.heap.size:=by rw[tN];exact zkA
   clear c0 c1 zik c3 c4 c5 c6 k0 k1 k2 k3 k4 k5 k6 k7 tN;obtain⟨c0,c1,zik,c3,c4,c5,c6⟩:=ze9.o.ok.recAt HD.o;have k:=aI ze9.o.blk;obtain⟨k0,k1,k2,k3,k4,k5,k6,k7⟩:=eO k;clear k;have Rc:0<=r1.clk:=by have:=ztK.o;have:=Hy.o;omega
   have Iu:r1.clk<=200000:=by have:=ztK.o;have:=Hy.o;omega
   have pU:1<=r1.o.pt:=by rw[Dg.o];exact zw6.1
   have Vw:r1.o.pt<=60:=by rw[Dg.o];exact zw6.2
   by_cases hp:r1.o.pt<=r1.clk-d.f
   .replace uS:=aD (show dC r m (k+1)=({lN r1 i Gn with back:=r1.back++[x]},tx++[32]++jH x.c) by rw[uS.o,if_pos hp])
    go_quiet (fail)
    go_upto_region 9 with fail
    obtain⟨wz,tD⟩:=aT (wq.drewN nq);rw[<-tD];have O6:=aD (show gM w wz lo gb 2 v v1 r1 by rw[tD];exact ze9.o.keep ⟨rfl,rfl,rfl,bL _,λ_ _=>rfl⟩);have zED:=aD (show wz.heap[gb+1]? =some kO by rw[tD];exact zq6.o);have zDm:=aD (show wz.ownsRow lo 100 2 (.slice (some ⟨v.gW,0,none⟩) n v.cW) n (bH r.wait) by rw[tD];exact Bn zvO.o (λ_ _=>rfl));have zAf:v.gW<wz.heap.size:=by rw[tD];exact zI3
    have zMe:gb+2<=wz.heap.size:=by rw[tD];exact Cd
    clear c0 c1 zik c3 c4 c5 c6 k0 k1 k2 k3 k4 k5 k6 k7 e0 e1 tD;have k:=aI O6.o.blk;obtain⟨k0,k1,k2,k3,k4,k5,k6,k7⟩:=eO k;clear k;have kf:=eW O6.o.blk;have zIp:v.gW≠v1.gR:=aC;have zrs:v.gW≠v1.gB:=aC;have aR:=O6.o.aR;have aB:=O6.o.aB;have zH5:gb+1≠v1.gR:=aC;have zxv:gb+1≠v1.gB:=aC;have Mn:gb≠v1.gR:=aC;have zS:gb≠v1.gB:=aC;have zKO:=aD aR;have Aj:=aD aB;have Rq:lo<=wz.heap.size:=by have:=O6.o.lob;omega
    clear aR aB
    go_upto_region 10 with(go_at_call 96;refine(zoi lo i v1 r1 d Gn wz O6.o.ok HD.o aC aC Rq).mono ?_;rintro y w5 ⟨g5,c5,rfl,bM,jO,Gj⟩;obtain⟨v5,oL⟩:=aT ({v1 with gW:=g5,cW:=c5}:fT);obtain⟨r5,eE⟩:=aT (lN r1 i Gn:cC);have kr:=jO.blk O6.o.blk Mn zS;have zLq:=aD kr;have zqm:xB wz.heap.size v1 v5:=(by rw[oL];exact⟨.inl rfl,.inr Gj,.inl rfl,rfl⟩);rw[<-oL,<-eE] at bM⊢;have Y0:=aD oL;have oZ:=aD eE;have vJ:=aD jO;have Ez:=aD (O6.o.whole bM jO zqm rfl);have z:=aI kr;have r0:=eW kr;obtain⟨z0,z1,z2,z3,z4,z5,z6,z7⟩:=eO z;clear bM jO Gj kr z oL eE zqm)
    obtain⟨W6,rR⟩:=aT (gQ w5 gb (.int .i64 r5.o.ln) (.int .i64 r5.o.op) (.int .i64 r5.o.pt) (.int .i64 r5.clk) (v5.sR r5) (v5.sW r5) (v5.sB r5) (v5.sL r5));have Uu:=aD (show W6.heap[gb+1]? =some kO by rw[rR];exact zDA (vJ.o.blk zED.o zH5 zxv) aC);have ztB:=aD (show W6.ownsRow lo 100 2 (.slice (some ⟨v.gW,0,none⟩) n v.cW) n (bH r.wait) by rw[rR];exact Cb zDm.o ((Hq aC).trans (vJ.o.block v.gW zAf zIp zrs)));rw[<-rR] at Ez;unfold gQ at rR;rw[<-rR];have zCU:v5.gR=v1.gR:=by rw[Y0.o]
    have zaQ:v5.gB=v1.gB:=by rw[Y0.o]
    have zof:r5.back=r1.back:=by rw[oZ.o];rfl
    have zK8:r5.back.length<=6000:=by rw[zof];exact zBM
    have kT:=aD zof;clear rR z0 z1 z2 z3 z4 z5 z6 z7 r0 k0 k1 k2 k3 k4 k5 k6 k7 kf zof;obtain⟨bx,ox,x',hA,-,-,zwM,Hm,e0,e1⟩:=(Be ztB.o aH).callsAt aU;injection hA with hA;injection hA with Ab As;subst Ab As;rw[zkp.o] at Hm;injection Hm with Hm;subst Hm;simp only[rL] at e0 e1;have k6:=aI Ez.o.blk 6;have zLD:gb+2<=W6.heap.size:=Ez.o.size;have Hk:=aD (show W6.cell? ⟨v.gW,k*2,none⟩=some (.int .i64 x.c)/\W6.cell? ⟨v.gW,k*2+1,none⟩=some (.int .i64 x.p) from⟨e0,e1⟩);have kB:∀o:Obj,(W6.alloc o).cell? ⟨gb,6,none⟩=some (v5.sB r5):=λo=>B7 k6 o;have zKa:=aD zaQ;have zIQ:v5.gB≠gb:=by rw[zaQ];exact Ne.symm zS
    have zHx:v5.gB≠gb+1:=by rw[zaQ];exact Ne.symm zxv
    have zKr:v5.gB≠v.gW:=by rw[zaQ];exact Ne.symm zrs
    have zLs:v.gW≠gb:=aC;obtain⟨ii,Pm,gA,dS,jQ⟩:=C6 zht;have zbH:=aD Pm;clear Pm zCU zaQ e0 e1;obtain⟨g1,c1,w7,fM,tK,r8,B1,Ka⟩:=zd3 (P:=aK) (W6.alloc (.cells #[.int .i64 x.c,.int .i64 x.p] 100)).drew 57 57 lo 100 ii (.agg #[.int .i64 0,.int .i64 0]) 2 16 Kh zbH.o gA dS jQ rfl aH v5.gB v5.cB r5.back.length (bH r5.back) (Bn Ez.o.ok.bk (λb hb=>sV _ _ b hb)) ⟨W6.heap.size,0,none⟩ 1 1 x.cells rfl (Gl (cs:=x.cells.toArray) (gV _ _)) Rz Wb aC (by have:=Ez.o.lob;simp;omega);have qY:=aD r8;have zbg:=aD tK;have zaf:=aD Ka;have kx:=(Ao r8 (dH Ez.o.blk _) (Ne.symm zIQ)).1;have Po:=aI kx 6;have xD:=eW kx;clear tK r8 B1 Ka kx;refine wp_WT10 W6 w7 gb v.gW _ _ v5.gB r5.back.length v5.cB g1 c1 k x.c x.p rfl rfl rfl rfl k6 Hk.o.1 Hk.o.2 aC fM Po (xD _) rfl ?_;clear fM;rw[Go.Mt.zO,zo3];simp only[Go.Mt.wV,dY,dX,zkn,lWT10,En,Es]
    go_upto_region 11 with fail
    have zyh:=aD (((Ez.o.alloc _).drew).appB (x:=x) qY.o zbg.o rfl zaf.o);have zwl:=aD ((dU w7 ⟨gb,6,none⟩ (.slice (some ⟨g1,0,none⟩) (r5.back.length+1) c1) (gb+1) aQ).trans (Ao qY.o (Mo (dH Uu.o _)) (Ne.symm zHx)).1);have zmj:=aD (Cb ztB.o ((dU w7 ⟨gb,6,none⟩ (.slice (some ⟨g1,0,none⟩) (r5.back.length+1) c1) v.gW aC).trans ((qY.o.block v.gW zej zej).trans (sV _ _ v.gW aC))));obtain⟨W7,Cm⟩:=aT (w7.setCell ⟨gb,6,none⟩ (.slice (some ⟨g1,0,none⟩) (r5.back.length+1) c1));rw[<-Cm] at zyh zwl zmj⊢;clear Cm Po xD k6 kB;obtain⟨bx,ox,x',hA,-,-,zKu,Hm,e0,e1⟩:=(Be zmj.o aH).callsAt aU;injection hA with hA;injection hA with Ab As;subst Ab As;rw[zkp.o] at Hm;injection Hm with Hm;subst Hm;simp only[rL] at e0 e1;obtain⟨p,zmn⟩:∃p:Nat,x.c=(p:Int):=⟨x.c.toNat,aC⟩;have zmd:p<=100000000:=aC;have zK2:(Kj (p:Int)).length<=20:=by rw[Wc];exact Vh aC
    rw[zmn] at e0;have zAw:=aD zmn;clear zmn e1
    go_wp2_with (go_at_call 94;refine(za2 p zmd _).mono ?_;rintro y w8 ⟨rfl,Li⟩;have Ey:=aD Li;clear Li)
    go_roundw
    case rel=>
     refine⟨k+1,{v5 with gB:=g1,cB:=c1},aC,qJ,?_,?_,(mX Ey.o zwl.o).1,zwa zmj.o Ey.o⟩
     .rw[uS.o];simp[Oy,jH,zAw.o]
     .rw[uS.o]
      have:=zyh.o.keep Ey.o;rw[kT.o,oZ.o] at this;exact this
    case measure=>simp[intOf];omega
   .replace uS:=aD (show dC r m (k+1)=(r1,tx) by rw[uS.o,if_neg hp])
    go_quiet (fail)
    go_wp2;go_roundw
    case rel=>exact⟨k+1,v1,aC,qJ,by rw[uS.o],by rw[uS.o];exact ze9.o.keep ⟨rfl,rfl,rfl,bL _,λ_ _=>rfl⟩,zq6.o,Bn zvO.o (λ_ _=>rfl)⟩
    case measure=>simp[intOf];omega
  .have e:k=n:=aC
   subst e;have zfN:=aD (show uQ r m=(r1,tx) by rw[<-zbV,<-Sj.o,jE.o,ziN.o]);have k:=aI vL.o.blk;obtain⟨k0,k1,k2,k3,k4,k5,k6,k7⟩:=eO k;clear k;have z:=aI zfJ.o;obtain⟨z0,z1,z2,z3,z4,z5,z6,z7⟩:=eO z;clear z;have r0:=eW zfJ.o
   go_wp2_with fail
   have er:=aI (tF v1 r1 zfJ.o);refine nN (v:=.tuple #[.agg (fR (v1) (r1)),.string ⟨(tx:List UInt8).toArray⟩]) ?_ rfl ?_
   .unfold gQ at er
    simp[results,Tryz.results67,go_sem,er]
   .rw[zfN.o]
    obtain⟨d1,d2,d3⟩:=vL.o.done (b:=gb+1) aC;exact⟨v1,rfl,d1,d2,d3⟩
structure zoA (r:cC):Prop where
 small:Rg r
 waits:zeR r
 nodup:(r.wait.map bN.c).Nodup
 backs:∀x∈r.back,1<=x.c/\x.c<=99
 froms:∀d∈r.recs,0<=d.f/\d.f<=100000
theorem event_a {ops:Int}{e:dQ}(h:qR ops e=true)(ho:ops<=4):0<=e.a/\e.a<=100000:=by
 have h:=of_decide_eq_true h;unfold Gf at h;omega
abbrev zpX (e:dQ):Obj:=.cells #[.string e.k,.int .i64 e.a,.int .i64 e.b] 54
theorem zpB (lo:Nat)(v:fT)(r:cC)(e:dQ)(w:aE)(h:dW w lo v r)(hs:zoA r)(eF:lo<=w.heap.size)(he:qR r.o.op e=true):
 fJ aK 51 #[.agg (fR v r),.agg #[.string e.k,.int .i64 e.a,.int .i64 e.b]] w (X7 lo v w (eB r e)):=by
 obtain⟨O1,Bu⟩:=event_a he (C9 hs.small.off).2.2.2.1;obtain⟨gb,eU⟩:=aT w.heap.size;have hl:=h.lts;obtain⟨O,hO⟩:=aT (.cells (fR v r) 59:Obj);obtain⟨C,hC⟩:=aT (zpX e:Obj);obtain⟨Z,hZ⟩:=aT (kO:Obj);have l6:(((w.alloc O).alloc C).alloc Z).heap[gb]? =some (Gi v r):=by rw[hO,eU];exact dH (dH (gV _ _) _) _
 have Ar:(((w.alloc O).alloc C).alloc Z).heap[gb+1]? =some (zpX e):=by rw[hC,eU];exact dH (mH _ _ aQ) _
 have rJ:(((w.alloc O).alloc C).alloc Z).heap[gb+2]? =some kO:=by rw[<-hZ];exact mH _ _ Ws
 have dS:(((w.alloc O).alloc C).alloc Z).heap.size=gb+3:=by rw[eU];simp
 have fB:=aD (show gM w (((w.alloc O).alloc C).alloc Z) lo gb 3 v v r from⟨((h.alloc O).alloc C).alloc Z,oV.of_below v (eT (eT (eT (fK _ _) _) _) _),xB.refl _ _,eU,l6,aC,aC,.inl aC,.inl aC,.inl aC,.inl aC,aC⟩);have pT:=aD dS;have kC:=aD rJ;have mG:=aD Ar;have HO:=aD hO;have HC:=aD (show C=.cells #[.string e.k,.int .i64 e.a,.int .i64 e.b] 54 from hC);have HZ:=aD (show Z=.cells #[.int .i64 0,.int .i64 0,.int .i64 0,.int .i64 0,.slice none 0 0,.slice none 0 0,.slice none 0 0,.slice none 0 0] 59 from hZ);have fY:=aD eU;have HL:=aD (show v.gR<gb/\v.gW<gb/\v.gB<gb/\v.gL<gb by omega);clear hO hC hZ eU l6 rJ Ar dS h hl
 go_enter Tryz.func51,Tryz.ntmps51
 go_upto_region 1 with fail
 rw[<-HO.o,<-HC.o,<-HZ.o,<-fY.o];obtain⟨W1,cV⟩:=aT (((w.alloc O).alloc C).alloc Z);rw[<-cV] at fB kC mG pT⊢;clear cV;have k:=aI fB.o.blk;obtain⟨k0,k1,k2,k3,k4,k5,k6,k7⟩:=eO k;clear k;have q:=aI mG.o;obtain⟨q0,q1,q2⟩:=zk9 q;clear q;have hl:=HL.o;have Mn:gb+2≠v.gR:=aC;have zS:gb+2≠v.gB:=aC;have Rq:lo<=W1.heap.size:=by have:=fB.o.lob;have:=pT.o;omega
 clear hl;cases h0:(e.k.toList==[114,105,110,103])
 case true=>
  have uS:=aD (show eB r e=pR r ⟨e.a,e.b⟩ by unfold eB;rw[if_pos (show e.k.toList=Gz from eq_of_beq h0)])
  go_wp2_with (go_at_call 63;refine(zIB lo v r ⟨e.a,e.b⟩ W1 fB.o.ok hs.small Rq).mono ?_;rintro y w5 ⟨v5,rfl,bM,jO,xI⟩;obtain⟨r5,eE⟩:=aT ((pR r ⟨e.a,e.b⟩).1:cC);obtain⟨t5,nZ⟩:=aT ((pR r ⟨e.a,e.b⟩).2:List UInt8);rw[<-eE] at bM⊢;rw[<-nZ];have oZ:=aD eE;have yS:=aD nZ;have vQ:=aD bM;have vJ:=aD jO;have oS:=aD xI;have kr:=jO.blk kC.o Mn zS;have tT:=aD kr;have z:=aI kr;have r0:=eW kr;obtain⟨z0,z1,z2,z3,z4,z5,z6,z7⟩:=eO z;clear eE nZ bM jO xI kr z)
  have er:=aI (tF v5 r5 tT.o);refine nN (v:=.tuple #[.agg (fR (v5) (r5)),.string ⟨(t5:List UInt8).toArray⟩]) ?_ rfl ?_
  .unfold gQ at er
   simp[results,zc2,go_sem,er]
  .rw[uS.o]
   have hl:=HL.o;have hz:=pT.o;have eU:=fY.o;have mr:=oS.o.r;have mw:=oS.o.w;have mb:=oS.o.b;have ml:=oS.o.l;refine⟨v5,by rw[oZ.o,yS.o],by rw[<-oZ.o];exact vQ.o.set8 aC,(fB.o.turn.same vJ.o).set8 aC,⟨mr.imp id (λx=>by omega),mw.imp id (λx=>by omega),mb.imp id (λx=>by omega),ml⟩⟩
 case false=>
  cases h1:(e.k.toList==[97,110,115,119,101,114])
  case true=>
   have uS:=aD (show eB r e=n6 r e.a by unfold eB;rw[if_neg zd5];rw[if_pos (show e.k.toList=Ij from eq_of_beq h1)])
   go_wp2_with (go_at_call 64;refine(zzR lo v r e.a W1 fB.o.ok hs.small Rq hs.waits).mono ?_;rintro y w5 ⟨v5,rfl,bM,jO,xI⟩;obtain⟨r5,eE⟩:=aT ((n6 r e.a).1:cC);obtain⟨t5,nZ⟩:=aT ((n6 r e.a).2:List UInt8);rw[<-eE] at bM⊢;rw[<-nZ];have oZ:=aD eE;have yS:=aD nZ;have vQ:=aD bM;have vJ:=aD jO;have oS:=aD xI;have kr:=jO.blk kC.o Mn zS;have tT:=aD kr;have z:=aI kr;have r0:=eW kr;obtain⟨z0,z1,z2,z3,z4,z5,z6,z7⟩:=eO z;clear eE nZ bM jO xI kr z)
   have er:=aI (tF v5 r5 tT.o);refine nN (v:=.tuple #[.agg (fR (v5) (r5)),.string ⟨(t5:List UInt8).toArray⟩]) ?_ rfl ?_
   .unfold gQ at er
    simp[results,zc2,go_sem,er]
   .rw[uS.o]
    have hl:=HL.o;have hz:=pT.o;have eU:=fY.o;have mr:=oS.o.r;have mw:=oS.o.w;have mb:=oS.o.b;have ml:=oS.o.l;refine⟨v5,by rw[oZ.o,yS.o],by rw[<-oZ.o];exact vQ.o.set8 aC,(fB.o.turn.same vJ.o).set8 aC,⟨mr.imp id (λx=>by omega),mw.imp id (λx=>by omega),mb.imp id (λx=>by omega),ml⟩⟩
  case false=>
   cases h2:(e.k.toList==[114,101,116,117,114,110])
   case true=>
    have uS:=aD (show eB r e=mQ r e.a by unfold eB;rw[if_neg zd5];rw[if_neg ziF];rw[if_pos (show e.k.toList=Ik from eq_of_beq h2)])
    go_wp2_with (go_at_call 65;refine(zAm lo v r e.a W1 fB.o.ok hs.small Rq hs.backs).mono ?_;rintro y w5 ⟨v5,rfl,bM,jO,xI⟩;obtain⟨r5,eE⟩:=aT ((mQ r e.a).1:cC);obtain⟨t5,nZ⟩:=aT ((mQ r e.a).2:List UInt8);rw[<-eE] at bM⊢;rw[<-nZ];have oZ:=aD eE;have yS:=aD nZ;have vQ:=aD bM;have vJ:=aD jO;have oS:=aD xI;have kr:=jO.blk kC.o Mn zS;have tT:=aD kr;have z:=aI kr;have r0:=eW kr;obtain⟨z0,z1,z2,z3,z4,z5,z6,z7⟩:=eO z;clear eE nZ bM jO xI kr z)
    have er:=aI (tF v5 r5 tT.o);refine nN (v:=.tuple #[.agg (fR (v5) (r5)),.string ⟨(t5:List UInt8).toArray⟩]) ?_ rfl ?_
    .unfold gQ at er
     simp[results,zc2,go_sem,er]
    .rw[uS.o]
     have hl:=HL.o;have hz:=pT.o;have eU:=fY.o;have mr:=oS.o.r;have mw:=oS.o.w;have mb:=oS.o.b;have ml:=oS.o.l;refine⟨v5,by rw[oZ.o,yS.o],by rw[<-oZ.o];exact vQ.o.set8 aC,(fB.o.turn.same vJ.o).set8 aC,⟨mr.imp id (λx=>by omega),mw.imp id (λx=>by omega),mb.imp id (λx=>by omega),ml⟩⟩
   case false=>
    cases h3:(e.k.toList==[104,97,110,103])
    case true=>
     have uS:=aD (show eB r e=nD r e.a by unfold eB;rw[if_neg zd5];rw[if_neg ziF];rw[if_neg zwm];rw[if_pos (show e.k.toList=J6 from eq_of_beq h3)])
     go_wp2_with (go_at_call 66;refine(zBP lo v r e.a W1 fB.o.ok hs.small Rq).mono ?_;rintro y w5 ⟨v5,rfl,bM,jO,xI⟩;obtain⟨r5,eE⟩:=aT ((nD r e.a).1:cC);obtain⟨t5,nZ⟩:=aT ((nD r e.a).2:List UInt8);rw[<-eE] at bM⊢;rw[<-nZ];have oZ:=aD eE;have yS:=aD nZ;have vQ:=aD bM;have vJ:=aD jO;have oS:=aD xI;have kr:=jO.blk kC.o Mn zS;have tT:=aD kr;have z:=aI kr;have r0:=eW kr;obtain⟨z0,z1,z2,z3,z4,z5,z6,z7⟩:=eO z;clear eE nZ bM jO xI kr z)
     have er:=aI (tF v5 r5 tT.o);refine nN (v:=.tuple #[.agg (fR (v5) (r5)),.string ⟨(t5:List UInt8).toArray⟩]) ?_ rfl ?_
     .unfold gQ at er
      simp[results,zc2,go_sem,er]
     .rw[uS.o]
      have hl:=HL.o;have hz:=pT.o;have eU:=fY.o;have mr:=oS.o.r;have mw:=oS.o.w;have mb:=oS.o.b;have ml:=oS.o.l;refine⟨v5,by rw[oZ.o,yS.o],by rw[<-oZ.o];exact vQ.o.set8 aC,(fB.o.turn.same vJ.o).set8 aC,⟨mr.imp id (λx=>by omega),mw.imp id (λx=>by omega),mb.imp id (λx=>by omega),ml⟩⟩
    case false=>
     have uS:=aD (show eB r e=uQ r e.a by unfold eB;rw[if_neg zd5];rw[if_neg ziF];rw[if_neg zwm];rw[if_neg (by intro e2;rw[e2] at h3;exact absurd h3 aH)])
     go_wp2_with (go_at_call 67;refine(zFF lo v r e.a W1 fB.o.ok hs.small Rq hs.waits hs.nodup hs.froms O1 Bu).mono ?_;rintro y w5 ⟨v5,rfl,bM,jO,xI⟩;obtain⟨r5,eE⟩:=aT ((uQ r e.a).1:cC);obtain⟨t5,nZ⟩:=aT ((uQ r e.a).2:List UInt8);rw[<-eE] at bM⊢;rw[<-nZ];have oZ:=aD eE;have yS:=aD nZ;have vQ:=aD bM;have vJ:=aD jO;have oS:=aD xI;have kr:=jO.blk kC.o Mn zS;have tT:=aD kr;have z:=aI kr;have r0:=eW kr;obtain⟨z0,z1,z2,z3,z4,z5,z6,z7⟩:=eO z;clear eE nZ bM jO xI kr z)
     have er:=aI (tF v5 r5 tT.o);refine nN (v:=.tuple #[.agg (fR (v5) (r5)),.string ⟨(t5:List UInt8).toArray⟩]) ?_ rfl ?_
     .unfold gQ at er
      simp[results,zc2,go_sem,er]
     .rw[uS.o]
      have hl:=HL.o;have hz:=pT.o;have eU:=fY.o;have mr:=oS.o.r;have mw:=oS.o.w;have mb:=oS.o.b;have ml:=oS.o.l;refine⟨v5,by rw[oZ.o,yS.o],by rw[<-oZ.o];exact vQ.o.set8 aC,(fB.o.turn.same vJ.o).set8 aC,⟨mr.imp id (λx=>by omega),mw.imp id (λx=>by omega),mb.imp id (λx=>by omega),ml⟩⟩
end Go.Proofs.YtfcjiloojkjaeaaGreatDoor
