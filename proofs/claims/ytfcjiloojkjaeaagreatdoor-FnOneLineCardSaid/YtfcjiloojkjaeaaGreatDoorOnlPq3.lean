/-
  Part 3 of what stands behind the last text.
-/
import Derived.Conc.WgGenN3
import Derived.Conc.TokenWalk
import Derived.Test.YtfcjiloojkjaeaaGreatDoorOnlPq2
set_option linter.all false
set_option maxHeartbeats 16000000
set_option maxRecDepth 100000
open Array renaming all_eq_true_iff_forall_mem→Wc,any_eq_true→zfV,ext_getElem?→zgc,getD_eq_getD_getElem?→xE,getElem?_eq_getElem→qA,getElem?_eq_none→My,getElem?_eq_some_iff→eE,getElem?_map→Fo,getElem?_mapIdx→Mr,getElem?_setIfInBounds→zoR,getElem?_setIfInBounds_ne→rN,getElem?_toList→Cf,getElem_mem→zq1,mem_iff_getElem→zuu,mem_of_getElem?→zaX,mem_singleton→zxp,range→N1,replicate→oC
open Bool renaming and_eq_true→iY,eq_iff_iff→Mx,false_eq_true→gK,false_or→zpt,not_eq_true'→zbf,or_eq_true→Di
open Classical renaming byContradiction→zU
open Go renaming Act→uB,Calls→iR,Deferred→Gr,Event→oR,Frame→dJ,Func→Qu,FuncId→aN,Goroutine→bC,Item→dS,Oper→aZ,Operand→cI,Program→bT,Trace→l6,TypeId→aM,TypeInfo→xB,Value→aF,World→aE,bodyPost_ret→nF,deafBehind→n9,execOp→aO,getD_set_ne→Qe,heap_alloc_new→gU,info_parts→Cg,mem_ready→zmZ,undef→aA,yielded→dO
open Go.Act renaming eval→vT,mk→bJ,put→b7
open Go.Builtin renaming append_→wQ
open Go.Code renaming region→Ff
open Go.Conc renaming Deaf_other→Mi,aside_setCell→Yq,goes_elim→zls,listed→wU,mem_ofEvents→zfc,mem_seen→zaA,past_nil→zmj,runT_crowd_go→Ye,seen_none→Df,served→o7,stepG_add_atomic→Yo,stepG_block→zfq,stepG_end→zfS,stepG_inBlock→zjF,stepG_inLoop→zjZ,stepG_load_atomic→zha,stepG_loop→zia,stepG_mark0→zbo,stepG_markAt→zcp,stepG_region_end→dH,stepG_ret'→wY,stepG_seq→dQ,stepG_skip→pS,stepG_unwind_entry→zpo
open Go.Conc.Goes renaming stop→qW
open Go.Conc.Lib renaming WgLib→Xr,WgLink→zd6
open Go.Conc.QuitsD renaming ctl→zuO
open Go.ConcN renaming upd→zi6
open Go.ConcR renaming Payload→zgB,WgAt→fQ,mk→oF
open Go.ConcR.Gen renaming body_add→Mq,body_wait→zmd,nm_uLoad→zmn,x_addU64_b→Yb,x_addU64_f→X4,x_addU64_n→Wb,x_addU64_x→Vv,x_disable_b→zkr,x_disable_f→zlG,x_disable_n→zko,x_disable_x→zis,x_enable_b→zf4,x_enable_f→zer,x_enable_n→zhp,x_enable_x→zfg,x_loadU64_b→zej,x_loadU64_f→zew,x_loadU64_n→zeq,x_loadU64_x→zeT,x_semacquire_b→ztj,x_semacquire_f→zn5,x_semacquire_n→zqL,x_semacquire_x→zn4,x_semrelease_b→zxc
open Go.Deferred renaming ofValue→C0
open Go.Extern.Race renaming none_→zw0
open Go.Frame renaming enter→Hu,finish_at→zsV
open Go.GStep renaming after→Ct
open Go.IntKind renaming i32→zpD,u64→Ra,wrap_i32→zql,wrap_u64→zfe
open Go.Lib renaming itoa→Mc,itoa_nonneg→Y2
open Go.Made renaming infoAt→zo3,reckon→zx2,reckonStruct→zw2,word→zrc
open Go.MemAct renaming ofEvent→jF,touch?→qZ
open Go.Proofs.Tryz renaming checked→vN,prog→aK,results51→zbt,results63→zgG,results64→zjd,results65→zf8,results66→zg3,underlying45→zwi,underlying57→Ll
open Go.Region renaming binds→F5,ready→Hp,wanted→dG
open Go.Result renaming andThen→vF,evThen_ok→zfW,ok→wP
open Go.RowKit renaming Below→cD
open Go.RowKit.Below renaming heap_alloc→rS,heap_setCell→dN,refl→fN
open Go.Sem renaming bind→wX,events→zO,events_bind'→zfr,run→bK,runT→zZ,run_bind'→tP
open Go.Stepped.next renaming injEq→U1
open Go.Tables renaming info?→zmm
open Go.World renaming alloc→zqN,cell?→lN,news_of_block→Fc,size_setCell→wL
open Int renaming le_refl→zbT
open List renaming all_eq_true→uD,any_eq_true→Xe,append_nil→Nb,foldl_append→znk,foldl_cons→Pk,getD_cons_succ→Dp,getD_cons_zero→Dz,getElem?_eq_getElem→oX,getElem?_eq_some_iff→lR,getElem?_modify→I9,getElem?_of_mem→zse,getElem_map→zwH,length_append→jP,length_cons→yH,length_filter_le→za5,length_modify→Np,length_nil→Al,map_cons→jG,mem_append→C3,mem_cons→lO,mem_filter→L9,mem_iff_getElem→Kq,mem_iff_getElem?→At,mem_map→Sa,mem_map_of_mem→zqq,mem_of_getElem?→dZ,mem_range→D4,modify→Rf,not_mem_nil→nM,range→iX,set_cons_succ→dU,set_cons_zero→dV,take_add_one→Nv
open List.Nodup renaming sublist→zFD
open List.Sublist renaming map→zEA
open Nat renaming eq_zero_or_pos→zcF,le_refl→bN,le_trans→eM,lt_of_lt_of_le→jW,lt_or_ge→uE,lt_succ_of_lt→zr8,lt_succ_self→yE,strongRecOn→zle,zero_add→rH,zero_le→mP,zero_mul→zuV
open Option renaming bind_eq_some_iff→Eh,bind_some→xS,getD_some→Bp,isSome_iff_exists→ziw,map_eq_some_iff→zW,map_some→Fl
open Option.some renaming inj→cJ,injEq→jM
open Prod.mk renaming injEq→qI
open Pure renaming pure→lZ
open SizeOf renaming sizeOf→N7
noncomputable section
namespace Go
theorem nA{P:Prop}(h:P:=by decide+kernel):P:=h
theorem Je{P:Prop}(h:P:=by rw[hz];exact zEs (by kernel_rfl)):P:=h
theorem zjI{P:Prop}(h:P:=by intro u hu;simp[bO.cells] at hu;rcases hu with rfl|rfl|rfl|rfl|rfl|rfl|rfl<;>rfl):P:=h
theorem q8{P:Prop}(h:P:=by k_ne):P:=h
theorem zsT{P:Prop}(h:P:=by intro k hk aS;have cU:k=0\/k=1\/k=3\/k=4\/k=5\/k=6:=(by omega);rcases cU with rfl|rfl|rfl|rfl|rfl|rfl<;>rfl):P:=h
theorem zpX{P:Prop}(h:P:=by intro k hk aS;have cU:k=0\/k=1\/k=2\/k=3\/k=5\/k=6:=(by omega);rcases cU with rfl|rfl|rfl|rfl|rfl|rfl<;>rfl):P:=h
theorem zee{P:Prop}(h:P:=by intro e2;rw[e2] at h0;exact absurd h0 (by decide)):P:=h
theorem zjH{P:Prop}(h:P:=by intro e2;rw[e2] at h1;exact absurd h1 (by decide)):P:=h
theorem Kb{P:Prop}(h:P:=by rw[hf];simp):P:=h
theorem X0{P:Prop}(h:P:=by unfold maxLen;omega):P:=h
theorem Zm{P:Prop}(h:P:=by exact True.intro):P:=h
theorem ztT{P:Prop}(h:P:=by intro e2;rw[e2] at h2;exact absurd h2 (by decide)):P:=h
theorem U9{P:Prop}(h:P:=by rw[b9];simp):P:=h
theorem zaM{P:Prop}(h:P:=by rw[xA];simp):P:=h
theorem zdA{P:Prop}(h:P:=by simpa using hi):P:=h
theorem zoa{P:Prop}(h:P:=by have:=eW.o.lob;have:=pF.o;omega):P:=h
theorem zio{P:Prop}(h:P:=by show gb+1≠gb;omega):P:=h
theorem zmN{P:Prop}(h:P:=by simp[Act.eval,stA]):P:=h
theorem zlA{P:Prop}(h:P:=by simp[Act.eval,smA]):P:=h
end Go
namespace Go.Mt
open Go.Conc
open Go.ConcR (KK wgBlock WgAt stA smA rd wr)
section
variable {L:Type}{P:bT}{ty:aM}{Wg:Nat}{A:jL L}{Fin:bC->aE->Prop}
variable {K K':Bool->Ph L->Nat->cC->bC->aE->Prop}
theorem N2.mono (hK:∀m ph d τ g w,K m ph d τ g w->K' m ph d τ g w){main:Bool}{ph:Ph L}{d:Nat}{τ:cC}{g:bC}{w:aE}(h:N2 P ty Wg K main ph d τ g w):N2 P ty Wg K' main ph d τ g w:=by
 have own:∀{ph:Ph L},OwnG P ty Wg K main ph d τ g w->OwnG P ty Wg K' main ph d τ g w:=λh aJ s=>by
  obtain⟨g',w',es,h1,h2,h3,h4,h5⟩:=h aJ s;exact⟨g',w',es,h1,h2,h3,h4,hK _ _ _ _ _ _ h5⟩
 have idle:∀{ph:Ph L},Z9 P ty Wg K main ph d τ g w->Z9 P ty Wg K' main ph d τ g w:=λh aJ s=>by
  obtain⟨g',es,h1,h2,h3,h4⟩:=h aJ s
  grind
 cases ph<;>first|exact h|exact own h|exact idle h
theorem mR.mono (hK:∀m ph d τ g w,K m ph d τ g w->K' m ph d τ g w){main:Bool}{l:L}{d:Nat}{τ:cC}{g:bC}{w:aE}(h:mR P ty Wg A K main l d τ g w):mR P ty Wg A K' main l d τ g w:=by
 unfold mR at*;split
 all_goals(rename_i e;simp only[e] at h)
 .obtain⟨ho,v,z,τ',h1,h2,h3,h4,L3,h5,h6⟩:=h
  exact⟨ho,v,z,τ',h1,h2,h3,h4,L3,h5,hK _ _ _ _ _ _ h6⟩
 .grind
 .grind
 .intro aJ lK v hv hw
  obtain⟨g',h1,h2,h3⟩:=h aJ lK v hv hw;exact⟨g',h1,h2,hK _ _ _ _ _ _ h3⟩
 .grind
 .grind
 .grind
 grind
theorem Ai.mono (hK:∀m ph d τ g w,K m ph d τ g w->K' m ph d τ g w){main:Bool}{ph:Ph L}{d:Nat}{τ:cC}{g:bC}{w:aE}(h:Ai P ty Wg A Fin K main ph d τ g w):Ai P ty Wg A Fin K' main ph d τ g w:=by
 cases ph with
 |gone=>exact h
 |quit l=>exact h
 |usr l=>exact mR.mono hK h
 |rel l=>
  intro aJ lK v wt a b c;obtain⟨g',h1,h2,h3,h4,h5⟩:=h aJ lK v wt a b c
  grind
 |l1 l=>
  intro aJ lK a;obtain⟨g',h1,h2,h3,h4⟩:=h aJ lK a
  grind
 |l2 l=>
  intro aJ lK a;obtain⟨g',h1,h2,h3,h4⟩:=h aJ lK a
  grind
 |l3 l=>exact h
 |w1 b=>
  intro aJ lK v zEp hv hw;obtain⟨g',h1,h2,h3,h4⟩:=h aJ lK v zEp hv hw
  grind
 |w2 vs=>
  intro aJ lK v hv hw;obtain⟨h1,h2⟩:=h aJ lK v hv hw
  grind
 |w3=>
  refine⟨h.1,λaJ lK=>⟨(h.2 aJ lK).1,λe=>?_⟩⟩;obtain⟨g',a,b,c⟩:=(h.2 aJ lK).2 e
  grind
 |w4=>
  intro aJ lK a;obtain⟨g',h1,h2,h3⟩:=h aJ lK a
  grind
 |w5=>exact h
def b6 (P:bT)(ty:aM)(Wg:Nat)(A:jL L)(Fin:bC->aE->Prop)(main:Bool)(ph:Ph L)(d:Nat)(τ:cC)(g:bC)(w:aE):Prop:=∃r,oU P ty Wg A Fin r main ph d τ g w
variable {main:Bool}{ph:Ph L}{d:Nat}{τ:cC}{g:bC}{w aJ:aE}
theorem b6.mk (cH:g.status=.running)(h:N2 P ty Wg (b6 P ty Wg A Fin) main ph d τ g w\/Ai P ty Wg A Fin (b6 P ty Wg A Fin) main ph d τ g w):b6 P ty Wg A Fin main ph d τ g w:=by
 let ι:={x:Bool×Ph L×Nat×cC×bC×aE//b6 P ty Wg A Fin x.1 x.2.1 x.2.2.1 x.2.2.2.1 x.2.2.2.2.1 x.2.2.2.2.2}
 let f:ι->Rk:=λx=>x.2.choose
 have hK:∀m ph d τ g w,b6 P ty Wg A Fin m ph d τ g w->∃i,oU P ty Wg A Fin (f i) m ph d τ g w:=λm ph d τ g w hb=>⟨⟨(m,ph,d,τ,g,w),hb⟩,hb.choose_spec⟩;exact⟨.mk ι f,cH,h.imp (λx=>x.mono hK) λx=>x.mono hK⟩
theorem b6.own (cH:g.status=.running)(hl:ph.live)(h:OwnG P ty Wg (b6 P ty Wg A Fin) main ph d τ g w):b6 P ty Wg A Fin main ph d τ g w:=
 .mk cH (.inl (by cases ph<;>first|exact h|exact hl.elim))
def b6.usr {l:L}(cH:g.status=.running)(h:mR P ty Wg A (b6 P ty Wg A Fin) main l d τ g w):b6 P ty Wg A Fin main (.usr l) d τ g w:=.mk cH (.inr h)
structure Start (P:bT)(ty:aM)(Wg:Nat)(A:jL L)(Fin:bC->aE->Prop)(Shun:Loc->Prop)(gs:Array bC)(w:aE)(t:l6)(q:Nat->Nat)(l:L)(τ:cC)(a:bC)(B:Nat):Prop where
 main:gs[0]? =some a
 leave:Leavers P t gs q
 past:Past Shun B t
 beh:b6 P ty Wg A Fin true (.usr l) 0 τ a w
 grp:fQ ty Wg w 0 0
 low:B<=Wg/\B<=w.heap.size
 bnd:∀b,τ.own b\/τ.still b\/τ.pass b->b<w.heap.size/\b≠Wg/\∀l,nJ l b->¬Shun l
 pend:A.pend l=false
 inv:A.Inv (λi=>if i=0 then .run l else .gone) (λ_=>none)
theorem phase (hA:A.Ok){Shun:Loc->Prop}{gs:Array bC}{t:l6}{q:Nat->Nat}{l:L}{a:bC}{B:Nat}(S:Start P ty Wg A Fin Shun gs w t q l τ a B)(sl:Option (Nat×Nat)):
 ∃N m' t',runNT P N (crowd gs w sl) t=(.next m',t')/\Oo P Wg Fin Shun m' t':=by
 obtain⟨r,hr⟩:=S.beh;have h0:0<gs.size:=(eE.1 S.main).1
 let none':cC:=⟨λ_=>False,λ_=>False,λ_=>False⟩
 let T:Nat->Td L:=λi=>if i=0 then⟨.usr l,.inr r,τ,a⟩ else⟨.gone,.inl (q i),none',default⟩
 have t0:T 0=⟨.usr l,.inr r,τ,a⟩:=by simp[T]
 have tn:∀i,i≠0->T i=⟨.gone,.inl (q i),none',default⟩:=λi hi=>by simp[T,hi]
 have cH:a.status=.running:=by cases r with|mk ι f=>exact hr.1
 have Zx:oT (λi=>(T i).ph) gs.size=0:=zm0 (λj hj=>by simp only[tn j hj,Ph.pre]) _;have vX:vv A (λi=>(T i).ph) gs.size=0:=by
  unfold vv zQ;rw[Zx];simp only[t0,S.pend];rfl
 have zc9:(λi=>(T i).ph.proj)=λi=>if i=0 then .run l else .gone:=by
  funext i;by_cases hi:i=0
  .subst hi;rw[t0];rfl
  .rw[tn i hi,if_neg hi];rfl
 refine zEE (ty:=ty) hA (T:=T) (ch:=λ_=>none) (Shun:=Shun) ⟨⟨h0,λi hi=>(by rw[tn i aC]),(by rw[t0];trivial),λi hi=>(by rw[tn i hi];exact id),λi hi b=>?_,λi j b pZ hb=>?_,λi b hb=>?_,λi b hb=>?_,λi l' hi=>?_,λc b hc=>(by cases hc),?_,(by rw[zc9];exact S.inv)⟩,
  ⟨λi x hi=>?_,λi j gi gj c v z z' sh xL hi hj=>?_,λi gi c z sh hi e=>(by cases e),λx hx hp=>(by rw[t0] at hp;cases hp),?_⟩⟩ sl
 .grind
 .grind
 .by_cases h:i=0
  .subst h
   rw[t0] at hb;have:=S.bnd b (hb.imp id .inl);simp_all
  .grind
 .by_cases h:i=0
  .subst h
   rw[t0] at hb;have:=S.bnd b (.inr (.inr hb));omega
  grind
 .by_cases h:i=0
  .subst h;rw[t0] at hi;cases hi
  .rw[tn i h] at hi;cases hi
 .unfold gM
  simp only[t0];refine⟨by rw[vX];simpa using S.grp,λi e=>?_⟩;by_cases h:i=0
  .subst h;rw[t0] at e;exact e
  .rw[tn i h] at e;exact e
 .by_cases h:i=0
  .subst h
   rw[S.main] at hi;cases hi;refine(pP (by rw[t0];exact id)).2 ⟨r,by rw[t0],?_,.inl (by rw[t0];exact l8.self cH)⟩;have hd:Deaf t 0=0:=S.past.hears;rw[t0,hd];exact hr
  .refine(Hm (by rw[tn i h];trivial)).2 ⟨q i,by rw[tn i h],S.leave.old i x aC hi⟩
 .exfalso
  by_cases h:i=0
  .subst h
   rw[S.main] at hi;cases hi;simp[parked] at cH
  .have:=(S.leave.old i _ aC hi).status
   simp[parked] at this
 .refine TI.begin S.past S.low.2 S.leave.above (λj=>?_) (λb hb=>?_) S.low.1
  .by_cases h:j=0
   .subst h;rw[t0];exact⟨λ_=>rfl,λ_=>trivial⟩
   .rw[tn j h];exact⟨λe=>e.elim,λe=>absurd e h⟩
  .rw[t0] at hb
   exact(S.bnd b hb).2.2
end
end Go.Mt
namespace Go.Mt
open Go.Conc Go.Tt
open Go.ConcR (KK wgBlock WgAt stA smA rd wr)
def vM (τ:cC)(R:Pr)(St:Nat->Prop):Prop:=∀a b,R a b->(St a->τ.still b)/\(¬St a->τ.own b)
section
variable {L:Type}{P:dB}{fs:aN->Bool}{K:Pr}{G':Gp}{St:Nat->Prop}{ty:aM}{Wg:Nat}{A:jL L}{Fin:bC->aE->Prop}
theorem zkf {S:aN->Prop}{R:Pr}{w W aY:aE}{τ:cC}(h:cV S K R G' St w W)(ht:vM τ R St)(hK:∀a b,K a b->b<W.heap.size)(s:bX ty Wg τ W aY):cV S K R G' St w aY:=by
 refine⟨h.inj,h.inj',λa b x=>⟨(h.lt a b x).1,jW (h.lt a b x).2 s.size⟩,h.low,⟨h.gle.1,eM h.gle.2 s.size⟩,λa b x=>?_,h.rest,h.st,h.np,h.tb⟩;obtain⟨o,o',h1,h2,h3⟩:=h.cont a b x;refine⟨o,o',h1,?_,h3⟩;rw[s.keep b ?_];exact h2;by_cases hs:St a
 .exact .inr ((ht a b x).1 hs)
 .exact .inl ((ht a b x).2 hs)
end
end Go.Mt
namespace Go.Mt
open Go.Conc Go.Tt
open Go.ConcN (sumTo sumTo_upd upd_ne upd_same)
open Go.ConcR (KK wgBlock WgAt stA smA rd wr)
def Ends (P:bT)(Post:aF->aE->Prop)(m:Machine)(t:l6):Prop:=
 ∃M last o w' t',runNT P (M+1) m t=(.ended o w',t')/\runN P M m=.next last/\step P last=.ended o w'/\Conc.Good P Post last o w' t'
section
variable {P:bT}{Post:aF->aE->Prop}
variable {ops:Array MemOp}
theorem Ends.step {m m':Machine}{t:l6}(h:stepT P m=(.next m',ops))(he:Ends P Post m' (t++ops)):Ends P Post m t:=by
 obtain⟨M,last,o,w',t',h1,h2,h3,h4⟩:=he;refine⟨M+1,last,o,w',t',?_,?_,h3,h4⟩
 .rw[runNT,h];exact h1
 .have:Go.step P m=.next m':=by rw[Go.step,h]
  rw[zcv this];exact h2
theorem Ends.run:∀(N:Nat) {m m':Machine} {t t':l6},runNT P N m t=(.next m',t')->Ends P Post m' t'->Ends P Post m t:=by
 intro N
 induction N with
 |zero=>
  intro m m' t t' h he;simp only[runNT,qI,U1] at h;simp_all
 |succ N ih=>
  intro m m' t t' h he;rw[runNT] at h;generalize hs:stepT P m=s at h;obtain⟨s,ops⟩:=s
  cases s with
  |next m1=>exact Ends.step hs (ih h he)
  |ended o w=>simp at h
variable (P Post)
def J (Shun:Loc->Prop)(B:Nat)(g:bC)(w:aE):Prop:=
 ∀(gs:Array bC) (t:l6) (sl:Option (Nat×Nat)) (q:Nat->Nat),gs[0]? =some g->Leavers P t gs q->Past Shun B t->Ends P Post (crowd gs w sl) t
variable {P Post}
variable {B:Nat}{g:bC}
theorem J.own {Shun:Loc->Prop}{w:aE}(cH:g.status=.running)
 (h:∀d,∃g' w' es B',stepG P true g (w.at d)=.go g' w' es/\(∀e∈es,EvL Shun B' e)/\B<=B'/\J P Post Shun B' g' w'):J P Post Shun B g w:=by
 have key:∀(M:Nat) (d:Nat) (gs:Array bC) (t:l6) (sl:Option (Nat×Nat)) (q:Nat->Nat),sumTo gs.size q=M->gs[0]? =some g->Leavers P t gs q->Past Shun B t->Ends P Post (crowd gs (w.at d) sl) t:=by
  intro M
  induction M using zle with
  |ind M ih=>
  intro d gs t sl q hM h0 hL hP;have dK:∀x∈gs,awake x:=by
   intro x hx;obtain⟨i,hi,rfl⟩:=zuu.1 hx;rcases zcF i with rfl|Aj
   .have:gs[0]=g:=by simpa[qA hi] using h0
    rw[this];exact awake_of (.inl cH)
   .exact awake_of ((hL.old i _ Aj (qA hi)).status.elim .inl λx=>.inr (.inr x))
  obtain⟨i,x,d',Md,hi,hx,aX⟩:=crowd_pick (P:=P) (w:=w.at d) (sl:=sl) dK ⟨0,g,h0,cH⟩;rw[show(w.at d).at d'=w.at d' from rfl] at aX;rcases zcF i with rfl|Aj
  .obtain rfl:x=g:=by simp_all
   obtain⟨g',w',es,B',hgo,yC,cK,hJ⟩:=h d';have zik:=Ye (P:=P) (sl:=Md) (i:=0) hi (show stepG P (0==0) x (w.at d')=_ from hgo);have aU:0<gs.size:=(eE.1 h0).1;refine Ends.step (aX.trans zik) (hJ _ _ _ q (by simp[aU]) ⟨λj y hj hy=>?_,λj hj=>?_⟩ ((hP.mono cK).own yC))
   .have aS:0≠j:=aC
    rw[rN aS,Fo] at hy;obtain⟨z,hz,rfl⟩:=zW.1 hy;have hq:=hL.old j z hj hz;rw[woken_quitsD hq,Mi t aC _ (λop hop=>by obtain⟨e,_,rfl⟩:=zfc hop;rfl)];exact hq
   .rw[Mi t (g':=0) (by simp at hj;omega) _ (λop hop=>by obtain⟨e,_,rfl⟩:=zfc hop;rfl)]
    exact hL.above j zcz
  .have hq:=hL.old i x Aj hi
   have fH:(i==0)=false:=pR;have aU:i<gs.size:=(eE.1 hi).1
   cases zmw:q i with
   |zero=>rw[zmw] at hq;rw[hq.1] at hx;cases hx
   |succ k=>
    rw[zmw] at hq;rcases hq with⟨hf,_⟩|⟨_,g',es,hm,zcg,Ni⟩
    .rw[hf] at hx;cases hx
    have zik:=Ye (P:=P) (sl:=Md) (i:=i) hi (by rw[fH];exact zcg (w.at d'));have cK:((gs.map (woken P x g' (w.at d'))).setIfInBounds i g').size=gs.size:=aQ;have zKs:sumTo gs.size (zi6 q i k)+(k+1)=sumTo gs.size q+k:=by
     have:=sumTo_upd q k id aU;simp only[zmw,id] at this;exact this
    refine Ends.step (aX.trans zik) (ih (sumTo gs.size (zi6 q i k)) aC d' _ _ _ (zi6 q i k) (by rw[cK]) ?_ ⟨λj y hj hy=>?_,λj hj=>?_⟩ (hP.mute aC hm))
    .have aS:i≠0:=aC
     rw[rN aS,Fo,h0];simp[woken_run cH]
    .by_cases fD:i=j
     .subst fD
      rw[Array.getElem?_setIfInBounds_self_of_lt (by simpa using aU)] at hy;obtain rfl:=cJ hy;rw[ConcN.upd_same,Deaf_own];exact Ni
     .rw[rN fD,Fo] at hy
      obtain⟨z,hz,rfl⟩:=zW.1 hy;have zqv:=hL.old j z hj hz;rw[woken_quitsD zqv,ConcN.upd_ne q k (Ne.symm fD),Mi t fD _ (λop hop=>by obtain⟨e,_,rfl⟩:=zfc hop;rfl)];exact zqv
    .rw[Mi t (g':=i) (by simp at hj;omega) _ (λop hop=>by obtain⟨e,_,rfl⟩:=zfc hop;rfl)]
     exact hL.above j zcz
 intro gs t sl q h0 hL hP;have:=key _ w.drawn gs t sl q rfl h0 hL hP;exact this
theorem J.done {Shun:Loc->Prop}{w:aE}(cH:g.status=.running)
 (h:∀d,∃v es,stepG P true g (w.at d)=.ended (.done v) (w.at d) es/\(∀e∈es,EvL Shun B e)/\Post v (w.at d)):J P Post Shun B g w:=by
 intro gs t sl q h0 hL hP;exact beside_ends (B:=B) (D:=λ_ _ es=>∀e∈es,EvL Shun B e) (n:=0) (λ_ _ _ hd=>hd) h0 hL hP (λaJ ⟨d,hd⟩=>by subst hd;exact⟨cH,h d⟩)
theorem J.phase {L:Type}{ty:aM}{Wg:Nat}{A:jL L}(hA:A.Ok){Shun:Loc->Prop}{a:bC}{w:aE}{l:L}{τ:cC}
 (hb:b6 P ty Wg A (λg w'=>J P Post (λl=>Shun l\/nJ l Wg) w'.heap.size g w') true (.usr l) 0 τ a w) (hg:fQ ty Wg w 0 0) (hB:B<=Wg/\B<=w.heap.size)
 (bnd:∀b,τ.own b\/τ.still b\/τ.pass b->b<w.heap.size/\b≠Wg/\∀l,nJ l b->¬Shun l) (pend:A.pend l=false)
 (inv:A.Inv (λi=>if i=0 then .run l else .gone) (λ_=>none)):J P Post Shun B a w:=by
 intro gs t sl q h0 hL hP;obtain⟨N,m',t',h1,gs',a',w',Md,q',rfl,h2,h3,h4,h5,h6⟩:=Mt.phase hA (S:=⟨h0,hL,hP,hb,hg,hB,bnd,pend,inv⟩) sl;exact Ends.run N h1 (h4 gs' t' Md q' h2 h5 h6)
end
end Go.Mt
namespace Go.Mt
open Go.Conc Go.Tt
open Go.ConcR (KK wgBlock WgAt stA smA rd wr)
abbrev K0:Pr:=λ_ _=>False
structure Sh (n:Nat)(Shun:Loc->Prop)(R:Pr)(W:aE):Prop where
 old:∀l b,nJ l b->b<n->¬Shun l
 rel:∀a b,R a b->∀l,nJ l b->¬Shun l
 new:∀l b,nJ l b->W.heap.size<=b->¬Shun l
structure Kp (W0:aE)(R:Pr)(St:Nat->Prop)(W:aE):Prop where
 os:W.os=W0.os
 tape:W.tape=W0.tape
 output:W.output=W0.output
 size:W0.heap.size<=W.heap.size
 block:∀b,b<W0.heap.size->W.heap[b]? =W0.heap[b]?
 old:∀a b,R a b->b<W0.heap.size->St a
def Kp.below {W0 W:aE}{R:Pr}{St:Nat->Prop}(h:Kp W0 R St W):cD W0.heap.size W0 W:=⟨h.os,h.tape,h.output,h.size,h.block⟩
section
variable (P:dB)(fs:aN->Bool)(G':Gp)(St:Nat->Prop)(W0:aE)(Post:aF->aE->Prop)
def JO (m:Fm)(ms:List Fm)(w:aE):Prop:=
 ∀(K R:Pr) (W:aE) (m':Fm) (ms':List Fm) (Shun:Loc->Prop),cV (SF fs) K R G' St w W->pI P fs K R m m'->uP P fs K R ms ms'->Sh W0.heap.size Shun R W->Kp W0 R St W->
  J P.c Post Shun W.heap.size (G m'.fr (ms'.map Fm.fr)) W
variable {P fs G' St W0 Post}
variable {m:Fm}{ms:List Fm}
def JO.tape {w:aE}(h:JO P fs G' St W0 Post m ms w)(T:Tape)(e:Nat):JO P fs G' St W0 Post m ms (Tt.tp w T e):=
 λK R W m' ms' Shun a b c d k=>h K R W m' ms' Shun a.untp b c d k
variable {R:Pr}
theorem zBP {Shun:Loc->Prop}{W:aE}{St:Nat->Prop}{e:oR}(h:He R St e){n:Nat}(hs:Sh n Shun R W)(aU:∀a b,R a b->b<W.heap.size):EvL Shun W.heap.size e:=by
 rcases h with rfl|⟨b,a,h1,h2,h3⟩
 .exact⟨λx hx=>by simp[jF,qZ] at hx,aQ,aQ,trivial⟩
 .obtain⟨loc,wr,sy⟩:=e
  cases loc with
  |cell x=>
   simp only[Gz,jM] at h1;refine⟨λy hy mV=>?_,aQ,aQ,?_⟩
   .simp only[jF,qZ,jM] at hy
    subst hy;exact absurd mV (hs.rel a b h2 _ h1)
   .show x.block<W.heap.size
    grind
  |obj r=>
   simp only[Gz,jM] at h1;have hr:r<W.heap.size:=by rw[h1];exact aU a b h2
   refine⟨λy hy mV=>?_,aQ,aQ,?_⟩
   .have Xi:y.loc=.obj r:=by
     cases wr<;>cases sy<;>simp only[jF,qZ,jM] at hy<;>first|(subst hy;rfl)|(cases hy;done)
    exact absurd (Xi▸mV) (hs.rel a b h2 (.obj r) h1)
   .cases wr<;>cases sy<;>exact hr
  |_=>simp[Gz] at h1
def cV.at {S:aN->Prop}{K:Pr}{G':Gp}{w W:aE}(h:cV S K R G' St w W)(d:Nat):cV S K R G' St w (W.at d):=
 ⟨h.inj,h.inj',h.lt,h.low,h.gle,h.cont,h.rest,h.st,h.np,h.tb⟩
theorem JO.one (F:Fit2 P fs)(hG:G'=P.gp){w:aE}(hs:m.ret=true->ms≠[])(nx:Tape->(Fm×List Fm)×aE)(cH:∀T,(fE P.g m ms).run P.g (Tt.tp w T 0)=.ok (nx T).1 (nx T).2)
 (fG:∀T K R y,¬OpR P fs K R (nx T).1 y) (hJ:∀T,JO P fs G' St W0 Post (nx T).1.1 (nx T).1.2 (nx T).2):JO P fs G' St W0 Post m ms w:=by
 intro K R W m' ms' Shun hw hm jV mV hk;refine J.own rfl λd=>?_;have dI:=cV.at hw d
 let aY:=W.at d
 let T:Tape:=λn q=>aY.tape (aY.drawn+n) q
 have Ak:cV (SF fs) K R G' St (Tt.tp w T 0) aY:=⟨dI.inj,dI.inj',dI.lt,dI.low,dI.gle,dI.cont,dI.rest,dI.st,dI.np,dI.tb⟩;have Mf:Tp (Tt.tp w T 0) aY:=λn q=>by show aY.tape (aY.drawn+(0+n)) q=_;rw[rH]
 obtain⟨R1,x',W1,ev,e1,e2,e3,e4,e5⟩:=aG.run hG _ (zhx (l:=false) F (Ak.relOk hG) hm jV (λe=>by cases e) hs) Ak Mf (cH T);replace e2:=e2.resolve_right λx=>fG T K R1 x' x.2;have nG:(fE P.c m' ms').events P.c aY #[]=ev:=by rw[e4];simp
 have cK:W.heap.size<=W1.heap.size:=e3.size.2;have zpF:Sh W0.heap.size Shun R1 W1:=⟨mV.old,λa b x l hl=>by
  rcases e3.new a b x with y|⟨_,y⟩
  .exact mV.rel a b y l hl
  .exact mV.new l b hl y,λl b hl hb=>mV.new l b hl (eM cK hb)⟩
 have pK:Kp W0 R1 St W1:=by
  refine⟨e3.os.2.trans hk.os,e3.tape.2.trans hk.tape,e3.ou.2.trans hk.output,eM hk.size cK,λb hb=>?_,λa b x hb=>?_⟩
  .have zld:b<W.heap.size:=jW hb hk.size
   rw[e3.keep b zld (λa x=>hk.old a b x hb)];exact hk.block b hb
  .rcases e3.new a b x with y|⟨_,y⟩
   .exact hk.old a b y hb
   .have h9:W.heap.size<=b:=y
    have:=hk.size;omega
 have goal:=hJ T K R1 W1 x'.1 x'.2 Shun e3.rel e2.1 e2.2.1 zpF pK;have aX:=zlz (main:=true) e1 [];simp only[Nb] at aX;rw[nG] at aX;exact⟨_,W1,_,W1.heap.size,aX,λe he=>zBP (e5 e (zaA he)) zpF (λa b x=>(e3.rel.ltR a b x).2),cK,goal⟩
theorem LTs.jo (F:Fit2 P fs)(hG:G'=P.gp){N:Fm->Prop}(hop:∀f xs,P.op f=true->¬N (Dy P.g f xs)){Stop:Fm->List Fm->aE->Prop}(hS:∀m ms w,Stop m ms w->JO P fs G' St W0 Post m ms w){w:aE}(h:LTs P.g N Stop m ms w):
 JO P fs G' St W0 Post m ms w:=by
 induction h with
 |stop hs=>exact hS _ _ _ hs
 |step nx hs cH hN aU ih=>
  rename_i m ms w;refine JO.one F hG hs nx cH (λT K R y ho=>?_) ih;obtain⟨f,xs,bV,c,c',rest,Nu,h1,h2,h3,h4,_⟩:=ho.ex
  grind
end
abbrev PL (p:bT)(op gs:aN->Bool):dB:=⟨p,p.funcs,op,λ_=>false,gs,true⟩
abbrev PS (p:bT)(gs:aN->Bool):dB:=⟨p,p.funcs,λ_=>false,λ_=>false,gs,true⟩
structure Lv (p:bT)(op gs gs₁ fs:aN->Bool):Prop where
 fit:Fit2 (PL p op gs) fs
 fit₁:vQ (PS p gs₁) fs
 nofit:∀f,op f=true->∃fn c,p.funcs[f]? =some fn/\fn.body=some c/\(fn.name== "runtime.NumGoroutine")=false/\pJ p ⟨fs,gs₁,true⟩ c=false
section
variable {p:bT}{op gs gs₁ fs:aN->Bool}{St:Nat->Prop}{W0:aE}{Post:aF->aE->Prop}
abbrev JL (p:bT)(op gs fs:aN->Bool)(St:Nat->Prop)(W0:aE)(Post:aF->aE->Prop)(m:Fm)(ms:List Fm)(w:aE):Prop:=JO (PL p op gs) fs (pE p) St W0 Post m ms w
theorem Va (p:bT)(f:aN)(xs:Array aF):(Dy p f xs).fn=f:=by
 unfold Dy
 grind
variable {P:dB}{G':Gp}{m:Fm}{ms:List Fm}
def JO.untape {fs:aN->Bool}{w:aE}{T:Tape}{e:Nat}(h:JO P fs G' St W0 Post m ms (Tt.tp w T e)):JO P fs G' St W0 Post m ms w:=
 λK R W m' ms' Shun a b c d k=>h K R W m' ms' Shun ⟨a.inj,a.inj',a.lt,a.low,a.gle,a.cont,a.rest,a.st,a.np,a.tb⟩ b c d k
variable {K:Pr}
theorem xD.tape {fs:aN->Bool}{w:aE}(h:xD P fs K G' St m ms w)(T:Tape)(e:Nat):xD P fs K G' St m ms (Tt.tp w T e):=by
 obtain⟨R,W,m',ms',a,b,c⟩:=h;exact⟨R,W,m',ms',⟨a.inj,a.inj',a.lt,a.low,a.gle,a.cont,a.rest,a.st,a.np,a.tb⟩,b,c⟩
variable {K₁:Pr}{c:Code}
theorem zqx {Ab:dB}{Q2:aN->Bool}{Wh:Gp}{zdY:Nat->Prop}(zeh:vQ Ab Q2)(zdG:Wh=Ab.gp){fn:aN}{tmps:Array aF}{w:aE}{Q:Exit->uB->aE->Prop}
 (hrel:xD Ab Q2 K₁ Wh zdY ⟨fn,tmps,[.code c],false⟩ [] w) (uF:∀T,Code.wp Ab.g c Q ⟨tmps,[]⟩ (Tt.tp w T 0)) (hx:∀e a w,Q e a w->e=.normal\/e=.ret) (zsW:∀e a w T k,Q e a w->Q e a (Tt.tp w T k)):
 Tt.LT Ab.g (λmT wT=>mT.ret=true/\((mT.todo=[]/\Q .normal ⟨mT.tmps,[]⟩ wT)\/Q .ret ⟨mT.tmps,[]⟩ wT)) ⟨fn,tmps,[.code c],false⟩ [] w:=by
 refine bar zeh zdG (λm w T e h=>⟨h.1,h.2.imp (λx=>⟨x.1,zsW _ _ _ _ _ x.2⟩) (zsW _ _ _ _ _)⟩) ⟨hrel,λT=>?_⟩
 let b:Frame:={(default:dJ) with fn:=fn,kind:=.normal}
 obtain⟨e,a',w',hq,zoL⟩:=uF T b [] [pz];have zzk:=xD.tape hrel T 0
 have fin:∀todo,Steps Ab.g (lone (b.at ⟨tmps,[]⟩ [.code c]) [pz] (Tt.tp w T 0)) (lone {b.at a' todo with mode:=.returning} [pz] w')->((todo=[]/\Q .normal a' w')\/Q .ret a' w')->
  ∃n mT wT,Jp Ab.g n ⟨fn,tmps,[.code c],false⟩ [] (Tt.tp w T 0) mT wT/\mT.ret=true/\((mT.todo=[]/\Q .normal ⟨mT.tmps,[]⟩ wT)\/Q .ret ⟨mT.tmps,[]⟩ wT):=by
  intro todo hs zmK;obtain⟨n,hn⟩:=hs;obtain⟨k,mT,hi,fS⟩:=Pg zeh zdG (frT:={b.at a' todo with mode:=.returning}) rfl n zzk hn;have h1:mT.tmps=a'.tmps:=congrArg dJ.tmps fS;have h2:a'.defers=[]:=(congrArg dJ.defers fS).symm;have h3:mT.todo=todo:=congrArg dJ.todo fS;have h4:mT.ret=true:=by
   cases hr:mT.ret with
   |true=>rfl
   |false=>have:=congrArg dJ.mode fS;rw[Fm.fr_run hr] at this;cases this
  have h5:(⟨mT.tmps,[]⟩:uB)=a':=by rw[h1,<-h2]
  exact⟨k,mT,w',hi,h4,by rw[h5,h3];exact zmK⟩
 rcases hx e a' w' hq with rfl|rfl
 .exact fin [] (Steps.trans zoL (Steps.one step_end)) (.inl ⟨rfl,hq⟩)
 .obtain⟨todo,hs⟩:=zoL
  grind
def zlu (p:bT)(op:aN->Bool)(m:Fm):Prop:=∀f xs,op f=true->m≠Dy p f xs
def Lv.hop (L:Lv p op gs gs₁ fs):∀f xs,(PL p op gs).op f=true->¬zlu p op (Dy (PL p op gs).g f xs):=λf xs h hn=>hn f xs h rfl
theorem Lv.hN (L:Lv p op gs gs₁ fs):∀m R y,pI (PS p gs₁) fs K₁ R m y->zlu p op m:=by
 rintro m R y hm f xs ho rfl;obtain⟨fn,c,h1,h2,_,h4⟩:=L.nofit f ho;have h5:Dy p f xs=⟨f,xs++oC (fn.ntmps-xs.size) aA,[.code c],false⟩:=by simp[Dy,h1,h2]
 have hf:=hm.fit;rw[h5] at hf;have:=hf (.code c) aQ;have h6:uI (PS p gs₁) fs f=⟨fs,gs₁,true⟩:=rfl;simp only[Fw,h6,h4] at this;cases this
variable {k:List dS}
theorem zCq {R:Pr}{fn:aN}{tmps:Array aF}{w W:aE}{m':Fm}(hc:pJ p ⟨fs,gs₁,true⟩ c=true)
 (hw:cV (SF fs) K R (pE p) St w W) (hm:pI (PL p op gs) fs K R ⟨fn,tmps,.code c::k,false⟩ m'):xD (PS p gs₁) fs K (pE p) St ⟨fn,tmps,[.code c],false⟩ [] w:=by
 refine⟨R,W,{m' with todo:=[.code c]},[],hw,⟨hm.fn,rfl,hm.ret,hm.tmps,λi hi=>?_,hm.infs⟩,.nil⟩;simp only[lO,nM,or_false] at hi;subst hi;exact hc
theorem JO.piece (L:Lv p op gs gs₁ fs){fn:aN}{tmps:Array aF}{b:List Fm}{w:aE}(hc:pJ p ⟨fs,gs₁,true⟩ c=true)(I5:op fn=false)
 (uF:∀T,Code.wp p c (λe a' w'=>e=.normal/\JL p op gs fs St W0 Post ⟨fn,a'.tmps,k,false⟩ b w') ⟨tmps,[]⟩ (Tt.tp w T 0)):JL p op gs fs St W0 Post ⟨fn,tmps,.code c::k,false⟩ b w:=by
 intro K R W m' ms' Shun hw hm jV mV hk;have hrel:=zCq (gs₁:=gs₁) hc hw hm;have tree:=zqx L.fit₁ rfl hrel uF (λe a w h=>.inl h.1) (λe a w T k h=>⟨h.1,h.2.tape T k⟩)
 have zAw:=LT.app L.fit₁ rfl (N:=zlu p op) (Stop:=λm ms w=>JL p op gs fs St W0 Post m ms w) k b (fn0:=fn) (L.hN (K₁:=K)) (λm e f xs ho e2=>by rw[e2,Va] at e;rw[e,I5] at ho;cases ho)
  (λx w e1 e2 e3 hq=>by
   have h1:=hq w.tape;rcases h1.2 with h|h
   .have h2:=JO.untape h.2.2
    obtain⟨xf,xt,xd,xr⟩:=x;simp only at e1 e2 e3 h2;subst e1 e2 e3;exact h2
   .cases h.1)
  (λx w e1 e2 e3 hq=>by
   rcases hq.2 with h|h
   .exact absurd h.1 e3
   .cases h.1) tree rfl hrel (λ_ e=>by cases e)
 exact LTs.jo L.fit rfl L.hop (λm ms w h=>h) zAw K R W m' ms' Shun hw hm jV mV hk
theorem JO.ctl (L:Lv p op gs gs₁ fs){m1:Fm}{w:aE}(hr:m.ret=false)(hf:op m1.fn=false)(cH:∀w,(sS p m ms).run p w=.ok (m1,ms) w)(hJ:JL p op gs fs St W0 Post m1 ms w):JL p op gs fs St W0 Post m ms w:=by
 refine JO.one L.fit rfl (λe=>by rw[hr] at e;cases e) (λT=>((m1,ms),Tt.tp w T 0)) (λT=>?_) (λT K R y ho=>?_) λT=>hJ.tape T 0
 .show(fE p m ms).run p _=_
  simp only[fE,hr,gK,if_false];exact cH _
 .obtain⟨f,xs,bV,c,c',rest,Nu,h1,h2,h3,h4,_⟩:=ho.ex
  simp only[qI] at h4;have h5:=h4.1;rw[h5,Va] at hf;simp_all
variable {b a:Code}
def JO.seq (L:Lv p op gs gs₁ fs){fn:aN}{tmps:Array aF}{w:aE}(hf:op fn=false)(h:JL p op gs fs St W0 Post ⟨fn,tmps,.code a:: .code b::k,false⟩ ms w):JL p op gs fs St W0 Post ⟨fn,tmps,.code (.seq a b)::k,false⟩ ms w:=
 JO.ctl L rfl hf (λw=>rfl) h
theorem JO.cond (L:Lv p op gs gs₁ fs){fn:aN}{tmps:Array aF}{c:cI}{w:aE}{t:Bool}(hf:op fn=false)(hc:(bJ tmps []).eval c=.bool t)(h:JL p op gs fs St W0 Post ⟨fn,tmps,.code (if t then a else b)::k,false⟩ ms w):JL p op gs fs St W0 Post ⟨fn,tmps,.code (.cond c a b)::k,false⟩ ms w:=by
 refine JO.ctl L rfl hf (λw=>?_) h;have he:Fm.eval ⟨fn,tmps,.code (.cond c a b)::k,false⟩ c=.bool t:=by rw[<-hc];cases c<;>rfl
 simp only[sS,he,lZ,bK]
def JO.skip (L:Lv p op gs gs₁ fs){fn:aN}{tmps:Array aF}{w:aE}(hf:op fn=false)(h:JL p op gs fs St W0 Post ⟨fn,tmps,k,false⟩ ms w):JL p op gs fs St W0 Post ⟨fn,tmps,.code .skip::k,false⟩ ms w:=JO.ctl L rfl hf (λw=>rfl) h
def JO.ret (L:Lv p op gs gs₁ fs){fn:aN}{tmps:Array aF}{w:aE}(hf:op fn=false)(h:JL p op gs fs St W0 Post ⟨fn,tmps,.code .ret::k,true⟩ ms w):JL p op gs fs St W0 Post ⟨fn,tmps,.code .ret::k,false⟩ ms w:=JO.ctl L rfl hf (λw=>rfl) h
variable {ops:Array aZ}
def JO.reg (L:Lv p op gs gs₁ fs){fn:aN}{tmps:Array aF}{id:Nat}{w:aE}(hf:op fn=false)(h:JL p op gs fs St W0 Post ⟨fn,tmps,.inRegion ops (iX ops.size)::k,false⟩ ms w):JL p op gs fs St W0 Post ⟨fn,tmps,.code (.region id ops false)::k,false⟩ ms w:=JO.ctl L rfl hf (λw=>rfl) h
def JO.regEnd (L:Lv p op gs gs₁ fs){fn:aN}{tmps:Array aF}{w:aE}(hf:op fn=false)(h:JL p op gs fs St W0 Post ⟨fn,tmps,k,false⟩ ms w):JL p op gs fs St W0 Post ⟨fn,tmps,.inRegion ops []::k,false⟩ ms w:=JO.ctl L rfl hf (λw=>rfl) h
variable {o:aZ}
theorem JO.opv (L:Lv p op gs gs₁ fs){fn:aN}{tmps:Array aF}{i:Nat}{rest:List Nat}{w:aE}{v:aF}(hf:op fn=false)(ho:ops[i]? =some o)(b9:dG o (dO ops tmps)=true)
 (hx:∀T e,(aO (bJ tmps []).eval o).run p (Tt.tp w T e)=.ok (.value v) (Tt.tp w T e)) (h:JL p op gs fs St W0 Post ⟨fn,(b7 ⟨tmps,[]⟩ o.dst v).tmps,.inRegion ops rest::k,false⟩ ms w):JL p op gs fs St W0 Post ⟨fn,tmps,.inRegion ops (i::rest)::k,false⟩ ms w:=by
 refine JO.one L.fit rfl (λe=>by cases e) (λT=>((⟨fn,(b7 ⟨tmps,[]⟩ o.dst v).tmps,.inRegion ops rest::k,false⟩,ms),Tt.tp w T 0)) (λT=>?_) (λT K R y Sw=>?_) λT=>h.tape T 0
 .show(fE p _ ms).run p _=_
  simp only[fE,gK,if_false,sS,ho,Fl,Bp,b9,if_true];have he:Fm.eval ⟨fn,tmps,.inRegion ops (i::rest)::k,false⟩=(bJ tmps []).eval:=by funext x;cases x<;>rfl
  rw[he];refine(tP p _ _ _).trans ?_;rw[hx];simp only[vF,rK,lZ,bK,Fm.fin,ho,xS,b7];cases o.dst<;>rfl
 .obtain⟨f,xs,bV,c,c',rest,Nu,h1,h2,h3,h4,_⟩:=Sw.ex
  simp only[qI] at h4;have h5:=congrArg Fm.fn h4.1;rw[Va] at h5;simp_all
variable {x:Fm}
theorem JO.back (L:Lv p op gs gs₁ fs){w:aE}{i:Nat}{rest:List Nat}{v:aF}(hr:x.ret=true)(qY:m.todo=.inRegion ops (i::rest)::k){fnx:Qu}(Th:p.funcs[x.fn]? =some fnx)(hv:(o5 fnx.results.toList x.tmps).run p w=.ok v w)(hf:op m.fn=false)
 (h:JL p op gs fs St W0 Post (m.fin ops i rest k v) ms w):JL p op gs fs St W0 Post x (m::ms) w:=by
 refine JO.one L.fit rfl (λ_=>by simp) (λT=>((m.fin ops i rest k v,ms),Tt.tp w T 0)) (λT=>?_) (λT K R y Sw=>?_) λT=>h.tape T 0
 .show(fE p x (m::ms)).run p _=_
  simp only[fE,hr,if_true];exact(Kk qY Th ((Xd _ _ w v w hv).2 T 0)).1
 .obtain⟨f,xs,bV,c,c',rest,Nu,h1,h2,h3,h4,_⟩:=Sw.ex
  simp only[qI] at h4;have h5:=congrArg Fm.fn h4.1;rw[Va] at h5;have h6:op f=true:=h1;have h7:m.fn=f:=h5;simp_all
variable {args:Array cI}{kY:Array aM}{fn:Qu}
theorem zgj {p:bT}{f:aN}(hop:o.op=.call ⟨.value (.func f),args,kY⟩){ρ:cI->aF}(hρ:∀g,ρ (.func g)=.func (.func g) #[] #[])(hf:p.funcs[f]? =some fn)
 (hn:(fn.name== "runtime.NumGoroutine")=false) (hb:fn.body=some c) (w:aE):(aO ρ o).run p w=.ok (.enter f (args.map ρ)) w/\(aO ρ o).events p w #[]=#[]:=by
 obtain⟨dst,y5,type,pos,after,guard⟩:=o;simp only at hop;subst hop;have yB:¬fn.name= "runtime.NumGoroutine" :=by simpa using hn
 constructor
 .simp[aO,resolve,C0,hρ,invoke,callFunc,program,bind,wX,pure,bK,hf,yB,hb]
 .simp[aO,resolve,C0,hρ,invoke,callFunc,program,bind,wX,pure,bK,zO,zZ,hf,yB,hb]
theorem JO.callF (L:Lv p op gs gs₁ fs){w:aE}{i:Nat}{rest:List Nat}{f:aN}(hr:m.ret=false)(qY:m.todo=.inRegion ops (i::rest)::k)
 (ho:ops[i]? =some o) (b9:dG o (dO ops m.tmps)=true) (hop:o.op=.call ⟨.value (.func f),args,kY⟩) (hg:op f=true) (wF:args.all (dP fs)=true)
 (hF:∀(K R:Pr) (W:aE) (m':Fm) (ms':List Fm) (Shun:Loc->Prop) (bV:Array aF),cV (SF fs) K R (pE p) St w W->pI (PL p op gs) fs K R m m'->uP (PL p op gs) fs K R ms ms'->Sh W0.heap.size Shun R W->Kp W0 R St W->bL (SF fs) K R (args.map m.eval) bV->
  J p Post Shun W.heap.size (G (Hu p f bV .normal) (m'.fr::ms'.map Fm.fr)) W):JL p op gs fs St W0 Post m ms w:=by
 obtain⟨fn,c,Tu,g4,g3,_⟩:=L.nofit f hg;intro K R W m' ms' Shun hw hm jV mV hk;refine J.own rfl λd=>?_;have Gv:bL (SF fs) K R (args.map m.eval) (args.map m'.eval):=bL.maps hm.eval wF;have y4:m'.ret=false:=hm.ret.symm.trans hr;have Po:m'.todo=.inRegion ops (i::rest)::k:=hm.todo.symm.trans qY;have uM:dG o (dO ops m'.tmps)=true:=by rw[<-ziZ ops hm.tmps];exact b9
 have Ht:Hu p f (args.map m'.eval) .normal=(⟨f,args.map m'.eval++oC (fn.ntmps-(args.map m'.eval).size) aA,[.code c],false⟩:Fm).fr:=zaw Tu g4;obtain⟨x1,x2⟩:=zgj hop (ρ:=m'.eval) (λg=>rfl) Tu g3 g4 (W.at d);have hs:(fE p m' ms').run p (W.at d)=.ok (⟨f,args.map m'.eval++oC (fn.ntmps-(args.map m'.eval).size) aA,[.code c],false⟩,m'::ms') (W.at d):=by
  simp only[fE,y4,gK,if_false,sS,Po,ho,Fl,Bp,uM,if_true];refine(tP p _ _ _).trans ?_;rw[x1];simp only[vF,rK,Tu,g4,lZ,bK]
 have aX:=zlz (main:=true) hs [];simp only[Nb] at aX;have he:(fE p m' ms').events p (W.at d) #[]=#[]:=by
  simp only[fE,y4,gK,if_false,sS,Po,ho,Fl,Bp,uM,if_true];refine(zfr p _ _ _ #[]).trans ?_;rw[x1,zfW,x2];simp only[rK,Tu,g4];rfl
 rw[he,Df] at aX;refine⟨_,W.at d,#[],W.heap.size,aX,λe he=>by simp at he,bN _,?_⟩;rw[<-Ht];exact hF K R (W.at d) m' ms' Shun (args.map m'.eval) (cV.at hw d) hm jV ⟨mV.old,mV.rel,mV.new⟩ ⟨hk.os,hk.tape,hk.output,hk.size,hk.block,hk.old⟩ Gv
theorem JO.fin (L:Lv p op gs gs₁ fs){w:aE}{t:Tmp}(hr:x.ret=true)(hf:p.funcs[x.fn]? =some fn)(ht:fn.results=#[.tmp t])(hi:p.inits.idxOf? x.fn=none)(hP:∀K R W v',VR (SF fs) K R (x.tmps.getD t aA) v'->Kp W0 R St W->Post v' W):JL p op gs fs St W0 Post x [] w:=by
 intro K R W m' ms' Shun hw hm jV mV hk;cases jV;refine J.done rfl λd=>?_;have y4:=hm.ret.symm.trans hr;have zlg:p.funcs[m'.fn]? =some fn:=by rw[<-hm.fn];exact hf
 have mJ:p.inits.idxOf? m'.fn=none:=by rw[<-hm.fn];exact hi
 refine⟨m'.tmps.getD t aA,#[],?_,λe he=>by simp at he,hP K R (W.at d) _ (hm.tmps.getD t yS) ⟨hk.os,hk.tape,hk.output,hk.size,hk.block,hk.old⟩⟩;have r1:=results_tmp ht m'.tmps p (W.at d);have r2:=Conc.events_results_tmp (P:=p) (w:=W.at d) ht m'.tmps #[];rw[Fm.fr_ret y4];simp[G,stepG,unwind,doReturn,zlg,r1,r2,Df,Ct,mJ]
end
end Go.Mt
namespace Go.Mt
open Go.Conc Go.Tt
variable {p:bT}{main:Bool}{m m':Fm}{ms':List Fm}{w w':aE}
theorem zdV {c:Fm}{rest:List Fm}(hr:m.ret=true)(hc:c.ret=false)(h:(z8 p m (c::rest)).run p w=.ok (m',ms') w')(k:List dS)(d:Dk)(CS:List dJ):
 ms'=rest/\w'=w/\(∃ops i r k0 v,c.todo=.inRegion ops (i::r)::k0/\m'=c.fin ops i r k0 v)/\stepG p main (G m.fr (fx k d c::CS)) w=.go (G (fx k d m') CS) w' (seen p m.fn ((z8 p m (c::rest)).events p w #[])):=by
 obtain⟨ops,i,r,k0,v,fn,Er,hf,hv,rfl,rfl⟩:=Ru h;obtain⟨rfl,_⟩:=Xd _ _ w v w' hv;refine⟨rfl,rfl,⟨ops,i,r,k0,v,Er,rfl⟩,?_⟩;rw[(Kk Er hf hv).2];have he:results fn m.tmps=o5 fn.results.toList m.tmps:=zjz (ztX hv);have Az:(fx k d c).finish v=fx k d (c.fin ops i r k0 v):=by
  simp only[dJ.finish,fx,Fm.fr,Fm.fin,Er,List.cons_append];cases(ops[i]?).bind (·.dst)<;>rfl
 rw[Fm.fr_ret hr,<-Az];simp[G,stepG,unwind,doReturn,hf,he,hv,Ct]
def low (k:List dS)(d:Dk):Fm->List Fm->List dJ
 |c,[]=>[fx k d c]
 |c,e::cs=>c.fr::low k d e cs
def stk (k:List dS)(d:Dk)(base:List dJ)(m:Fm):List Fm->bC
 |[]=>G (fx k d m) base
 |c::cs=>G m.fr (low k d c cs++base)
theorem zxg (k:List dS)(d:Dk)(base:List dJ)(m:Fm)(ms:List Fm):(stk k d base m ms).status=.running:=by cases ms<;>rfl
variable {ms:List Fm}
theorem zz4 {k:List dS}{d:Dk}{base:List dJ}(hs:m.ret=true->ms≠[])(aS:ms=[]->m.ret=false->m.todo≠[])(hw:∀c∈ms,c.ret=false)
 (h:(fE p m ms).run p w=.ok (m',ms') w'):∃es,stepG p main (stk k d base m ms) w=.go (stk k d base m' ms') w' es/\∀e∈es,e∈seen p m.fn ((fE p m ms).events p w #[]):=by
 cases hr:m.ret with
 |false=>
  simp only[fE,hr,gK,if_false] at h⊢
  cases ms with
  |nil=>
   rcases zhI (main:=main) hr (k:=k) (λe=>absurd e (aS rfl hr)) h d base with⟨rfl,e⟩|⟨rfl,e⟩
   .exact⟨_,e,λ_ x=>x⟩
   .exact⟨_,e,λ_ x=>x⟩
  |cons c cs=>
   rcases zhI (main:=main) hr (k:=[]) (λ_=>rfl) h .nil (low k d c cs++base) with⟨rfl,e⟩|⟨rfl,e⟩
   .simp only[G5] at e
    exact⟨_,e,λ_ x=>x⟩
   .simp only[G5] at e
    exact⟨_,e,λ_ x=>x⟩
 |true=>
  simp only[fE,hr,if_true] at h⊢
  cases ms with
  |nil=>simp_all
  |cons c cs=>
   have zt7:=hw c (List.mem_cons_self ..)
   cases cs with
   |nil=>
    obtain⟨rfl,rfl,_,e⟩:=zdV (main:=main) hr zt7 h k d base;exact⟨_,e,λ_ x=>x⟩
   |cons c2 cs=>
    obtain⟨rfl,rfl,_,e⟩:=zdV (main:=main) hr zt7 h [] .nil (low k d c2 cs++base);simp only[G5] at e;exact⟨_,e,λ_ x=>x⟩
variable {S:List Nat}
def Lp.refl (h:∀i∈m.todo,Au S i=true):Lp S m m:=⟨h,λ_ _=>rfl⟩
theorem zBB (hn:∀i∈(Tb m ms).todo,Au S i=true)(h:(fE p m ms).run p w=.ok (m',ms') w'):Lp S (Tb m ms) (Tb m' ms'):=by
 cases hr:m.ret with
 |false=>
  simp only[fE,hr,gK,if_false] at h
  cases ms with
  |nil=>
   rcases zIk (S:=S) hn h with⟨rfl,e⟩|rfl
   .exact e
   .exact Lp.refl hn
  |cons c cs=>
   rcases zeE h with⟨rfl,_⟩|rfl
   .exact Lp.refl hn
   .exact Lp.refl hn
 |true=>
  simp only[fE,hr,if_true] at h
  cases ms with
  |nil=>simp[z8,stuck,bK] at h
  |cons c cs=>
   obtain⟨ops,i,r,k0,v,fn,Er,hf,hv,rfl,rfl⟩:=Ru h
   cases ms' with
   |nil=>exact zen Er hn v
   |cons d ds=>exact Lp.refl hn
end Go.Mt
namespace Go.Mt
open Go.Conc Go.Tt
open Go.ConcR (KK wgBlock WgAt stA smA rd wr)
def EvQ (O Z:Nat->Prop)(e:oR):Prop:=e=⟨.mark .noRoom,false,true⟩\/∃b,Gz e=some b/\(O b\/(Z b/\e.write=false))
variable {O Z:Nat->Prop}{e:oR}
theorem zIm {Wg:Nat}{main:Bool}(h:EvQ O Z e):EvT Wg main O Z e:=by
 rcases h with rfl|⟨b,h1,h2⟩
 .trivial
 .obtain⟨loc,wr,sy⟩:=e
  cases loc with
  |cell x=>simp only[Gz,jM] at h1;subst h1;exact h2
  |obj r=>simp only[Gz,jM] at h1;subst h1;exact h2
  |_=>simp[Gz] at h1
theorem zBM (h:EvQ O Z e):e.loc≠ .mark .disable/\e.loc≠ .mark .enable:=by
 rcases h with rfl|⟨b,h1,_⟩
 .simp_all
 .obtain⟨loc,wr,sy⟩:=e
  cases loc<;>simp[Gz] at h1⊢
variable {τ:cC}
theorem ze1 {St:Nat->Prop}{R:Pr}(h:He R St e)(ht:vM τ R St):EvQ τ.own τ.still e:=by
 rcases h with rfl|⟨b,a,h1,h2,h3⟩
 .exact .inl rfl
 .refine .inr ⟨b,h1,?_⟩
  by_cases hs:St a
  .refine .inr ⟨(ht a b h2).1 hs,?_⟩
   cases hw:e.write
   .rfl
   .exact absurd hs (h3 hw)
  .exact .inl ((ht a b h2).2 hs)
def OwnQ (p:bT)(ty:aM)(Wg:Nat)(main:Bool)(B:cC->bC->aE->Prop)(τ:cC)(g:bC)(w:aE):Prop:=
 ∀aJ,bX ty Wg τ w aJ->∃g' w' es,stepG p main g aJ=.go g' w' es/\g'.status=.running/\zT τ.own aJ w'/\(∀e∈es,EvQ (τ.grow aJ w').own τ.still e)/\B (τ.grow aJ w') g' w'
structure Cx (L:Type) where
 p:bT
 gs:aN->Bool
 fs:aN->Bool
 ty:aM
 Wg:Nat
 A:jL L
 Fin:bC->aE->Prop
 main:Bool
 base:List dJ
 ds:Dk
 K:Pr
 St:Nat->Prop
 I:Pr->cC->aE->Prop
 pin:List (Nat×aF)
 alone:Option (cC->bC->aE->Prop):=none
 aok:∀B,alone=some B->∀τ g w,g.status=.running->OwnQ p ty Wg main B τ g w->B τ g w:=by intro _ h;cases h
variable {L:Type}
abbrev Cx.P (C:Cx L):dB:=PS C.p C.gs
abbrev Cx.Rel (C:Cx L)(R:Pr)(w W:aE):Prop:=cV (SF C.fs) C.K R (pE C.p) C.St w W
def Cx.B (C:Cx L)(l:L)(τ:cC)(g:bC)(w:aE):Prop:=
 match C.alone with
 |none=>b6 C.p C.ty C.Wg C.A C.Fin C.main (.usr l) 0 τ g w
 |some B=>B τ g w
theorem Cx.B_none {C:Cx L}(h:C.alone=none)(l:L)(τ:cC)(g:bC)(w:aE):C.B l τ g w=b6 C.p C.ty C.Wg C.A C.Fin C.main (.usr l) 0 τ g w:=by unfold Cx.B;rw[h]
variable {B:cC->bC->aE->Prop}
theorem Cx.B_some {C:Cx L}(h:C.alone=some B)(l:L)(τ:cC)(g:bC)(w:aE):C.B l τ g w=B τ g w:=by unfold Cx.B;rw[h]
theorem Cx.ownQ {C:Cx L}{l:L}{g:bC}{w:aE}(cH:g.status=.running)(h:OwnQ C.p C.ty C.Wg C.main (C.B l) τ g w):C.B l τ g w:=by
 cases ha:C.alone with
 |none=>
  rw[Cx.B_none ha];have hB:∀τ g w,C.B l τ g w->b6 C.p C.ty C.Wg C.A C.Fin C.main (.usr l) 0 τ g w:=λτ g w x=>by rw[Cx.B_none ha] at x;exact x
  refine b6.own cH trivial λaJ s=>?_;obtain⟨g',w',es,h1,h2,h3,h4,h5⟩:=h aJ s;refine⟨g',w',es,h1,h2,h3,λe he=>zIm (h4 e he),?_⟩;rw[deafBehind_still (λe he=>zBM (h4 e he))];exact hB _ _ _ h5
 |some B=>
  rw[Cx.B_some ha];refine C.aok B ha τ g w cH λaJ s=>?_;have e:∀τ g w,C.B l τ g w->B τ g w:=λτ g w x=>by rw[Cx.B_some ha] at x;exact x
  obtain⟨g',w',es,h1,h2,h3,h4,h5⟩:=h aJ s
  grind
abbrev Cx.S (C:Cx L):List Nat:=C.pin.map (·.1)
structure FmW (C:Cx L)(R:Pr)(m m':Fm):Prop where
 fn:m.fn=m'.fn
 todo:m.todo=m'.todo
 ret:m.ret=m'.ret
 tmps:bL (SF C.fs) C.K R m.tmps m'.tmps
 pins:∀x∈C.pin,m'.tmps.getD x.1 aA=x.2
structure Rs (St:Nat->Prop)(R:Pr)(W:aE)(R1:Pr)(W1:aE):Prop where
 le:R.le R1
 tape:W1.tape=W.tape
 os:W1.os=W.os
 output:W1.output=W.output
 size:W.heap.size<=W1.heap.size
 new:∀a b,R1 a b->R a b\/(W.heap.size<=b/\b<W1.heap.size)
 keep:∀b,b<W.heap.size->(∀a,R a b->St a)->W1.heap[b]? =W.heap[b]?
structure eZ (C:Cx L):Prop where
 suf:∀R τ W aY,C.I R τ W->bX C.ty C.Wg τ W aY->C.I R τ aY
 step:∀R τ W R1 W1,C.I R τ W->vM τ R C.St->Rs C.St R W R1 W1->C.I R1 (τ.grow W W1) W1
def BO (C:Cx L)(l:L)(m:Fm)(w:aE):Prop:=
 ∀(R:Pr) (W:aE) (m':Fm) (τ:cC),C.Rel R w W->FmW C R m m'->vM τ R C.St->C.I R τ W->C.B l τ (G (fx [] C.ds m') C.base) W
section
variable {C:Cx L}{l:L}
variable {m:Fm}{w:aE}
def BO.tape (h:BO C l m w)(T:Tape)(e:Nat):BO C l m (Tt.tp w T e):=
 λR W m' τ a b c d=>h R W m' τ a.untp b c d
def BO.untape {T:Tape}{e:Nat}(h:BO C l m (Tt.tp w T e)):BO C l m w:=
 λR W m' τ a b c d=>h R W m' τ ⟨a.inj,a.inj',a.lt,a.low,a.gle,a.cont,a.rest,a.st,a.np,a.tb⟩ b c d
variable {ms:List Fm}
theorem uP.wait {P:dB}{fs:aN->Bool}{K R:Pr}{ms':List Fm}(h:uP P fs K R ms ms'):∀c∈ms',c.ret=false:=by
 induction h with
 |nil=>intro c hc;cases hc
 |cons a b _ ih=>
  intro c hc;rcases lO.1 hc with rfl|hc
  .exact a.ret.symm.trans b.1
  .exact ih c hc
variable {Q:Fm->aE->Prop}
theorem zET (F:vQ C.P C.fs)(hI:eZ C){k:List dS}{fn0:aN}(h:Tt.LT C.p Q m ms w)
 (hn:∀(x:Fm) (wT:aE),x.fn=fn0->x.ret=false->x.todo=[]->(∀T,Q {x with ret:=true} (Tt.tp wT T 0))->BO C l ⟨fn0,x.tmps,k,false⟩ wT)
 (hr:∀(x:Fm) (wT:aE),x.fn=fn0->x.ret=true->x.todo≠[]->Q x wT->BO C l ⟨fn0,x.tmps,x.todo++k,true⟩ wT):
 ∀(R:Pr) (W:aE) (m':Fm) (ms':List Fm) (τ:cC),Sq m ms=fn0->(ms=[]->m.ret=true->m.todo≠[])->C.Rel R w W->pI C.P C.fs C.K R m m'->uP C.P C.fs C.K R ms ms'->vM τ R C.St->C.I R τ W->
  (∀x∈C.pin,(Tb m' ms').tmps.getD x.1 aA=x.2)->(∀i∈(Tb m' ms').todo,Au C.S i=true)->C.B l τ (stk k C.ds C.base m' ms') W:=by
 induction h with
 |stop h1 h2=>
  rename_i m w;intro R W m' ms' τ hl hz hw hm jV ht hi Dt fG;cases jV;have hB:=hr m w hl h1 (hz rfl h1) h2 R W {m' with todo:=m'.todo++k} τ hw ⟨(hl.symm.trans hm.fn:_),by show m.todo++k=_;rw[hm.todo],h1.symm.trans hm.ret,hm.tmps,Dt⟩ ht hi;have:fx [] C.ds {m' with todo:=m'.todo++k}=fx k C.ds m':=by unfold fx;simp[Fm.fr]
  rw[this] at hB;exact hB
 |step nx hs cH aU ih=>
  rename_i m ms w;intro R W m' ms' τ hl hz hw hm jV ht hi Dt fG;by_cases Lj:ms=[]/\m.ret=false/\m.todo=[]
  .obtain⟨rfl,h1,h2⟩:=Lj
   cases jV;have hQ:∀T,Q {m with ret:=true} (Tt.tp w T 0):=λT=>by
    have hT:=cH T;have e:(fE C.p m []).run C.p (Tt.tp w T 0)=.ok ({m with ret:=true},[]) (Tt.tp w T 0):=by simp[fE,h1,sS,h2,lZ,bK]
    rw[e] at hT;injection hT with e1 e2;have hl:=aU T;rw[<-e1,<-e2] at hl;exact hl.ret_inv rfl
   have hB:=hn m w hl h1 h2 hQ R W {m' with todo:=m'.todo++k} τ hw ⟨(hl.symm.trans hm.fn:_),by show k=m'.todo++k;rw[<-hm.todo,h2];rfl,h1.symm.trans hm.ret,hm.tmps,Dt⟩ ht hi;have:fx [] C.ds {m' with todo:=m'.todo++k}=fx k C.ds m':=by unfold fx;simp[Fm.fr]
   rw[this] at hB;exact hB
  .refine Cx.ownQ (zxg ..) λaY s=>?_
   have dI:=zkf hw ht (λa b x=>(hw.lt a b (.inr x)).2) s;have y7:=hI.suf _ _ _ _ hi s
   let T:Tape:=λn q=>aY.tape (aY.drawn+n) q
   have Ak:C.Rel R (Tt.tp w T 0) aY:=⟨dI.inj,dI.inj',dI.lt,dI.low,dI.gle,dI.cont,dI.rest,dI.st,dI.np,dI.tb⟩;have Mf:Tp (Tt.tp w T 0) aY:=λn q=>by show aY.tape (aY.drawn+(0+n)) q=_;rw[rH]
   have hrel:xD C.P C.fs C.K (pE C.p) C.St m ms (Tt.tp w T 0):=⟨R,aY,m',ms',Ak,hm,jV⟩;obtain⟨R1,x',W1,ev,e1,e2,e3,e4,e5⟩:=aG.run rfl _ (zhx (l:=false) F.toFit2 (Ak.relOk rfl) hm jV (λe=>by cases e) hs) Ak Mf (cH T);replace e2:=e2.resolve_right λx=>by
    obtain⟨f,_,_,_,_,_,_,ho,_⟩:=x.2;rw[F.none] at ho;cases ho
   obtain⟨ztk,zsi⟩:=x';have H7:m'.ret=true->ms'≠[]:=λe e2=>hs (hm.ret.trans e) (by cases jV with|nil=>rfl|cons _ _ _=>cases e2);have zaY:ms'=[]->m'.ret=false->m'.todo≠[]:=λa b c=>Lj ⟨(by cases jV with|nil=>rfl|cons _ _ _=>cases a),hm.ret.trans b,hm.todo.trans c⟩;have Xv:=zBB (S:=C.S) fG e1;have nG:(fE C.p m' ms').events C.p aY #[]=ev:=by rw[e4];simp
   have cK:aY.heap.size<=W1.heap.size:=e3.size.2;have Fj:∀a b,R1 a b->R a b\/(aY.heap.size<=b/\b<W1.heap.size):=λa b x=>by
    rcases e3.new a b x with y|⟨_,y⟩
    .exact .inl y
    .exact .inr ⟨y,(e3.rel.ltR a b x).2⟩
   have Hx:vM (τ.grow aY W1) R1 C.St:=λa b x=>by
    rcases e3.new a b x with y|⟨y1,y2⟩
    .exact⟨(ht a b y).1,λz=>.inl ((ht a b y).2 z)⟩
    .refine⟨λz=>?_,λ_=>.inr ⟨y2,(e3.rel.ltR a b x).2⟩⟩
     obtain⟨⟨b',bZ⟩,_⟩:=Ak.st a z;have:=(Ak.ltR a b' bZ).1;omega
   have hg:zT τ.own aY W1:=⟨e3.tape.2,e3.os.2,e3.ou.2,cK,λb hb fG=>e3.keep b hb λa x=>zU λz=>fG ((ht a b x).2 z)⟩;have yR:=hI.step R τ aY R1 W1 y7 ht ⟨e3.le,e3.tape.2,e3.os.2,e3.ou.2,cK,Fj,e3.keep⟩;have Uq:Sq (nx T).1.1 (nx T).1.2=fn0:=(ztc (m1:=(nx T).1.1) (ms1:=(nx T).1.2) (cH T)).trans hl;have goal:C.B l (τ.grow aY W1) (stk k C.ds C.base ztk zsi) W1:=by
    refine ih T R1 W1 ztk zsi (τ.grow aY W1) Uq (λa b c=>?_) e3.rel e2.1 e2.2.1 Hx yR (λx hx=>(Xv.at_ x.1 (zqq hx)).trans (Dt x hx)) Xv.no;have hT:=cH T
    cases ms with
    |nil=>
     cases jX:m.ret with
     |true=>exact hs jX rfl
     |false=>
      simp only[fE,jX,gK,if_false] at hT;exact zwr hT b jX (λe=>Lj ⟨rfl,jX,e⟩) a c
    |cons c0 cs=>
     cases jX:m.ret with
     |true=>
      simp only[fE,jX,if_true] at hT;obtain⟨ops,i,r,k0,v,fn,hc,hf,hv,h1,h2⟩:=Ru (m1:=(nx T).1.1) (ms1:=(nx T).1.2) hT;rw[h1] at c;simp[Fm.fin] at c
     |false=>
      simp only[fE,jX,gK,if_false] at hT;rcases zeE hT with⟨e,_⟩|e
      .rw[a] at e;cases e
      .rw[a] at e;cases e
   obtain⟨es,aX,yC⟩:=zz4 (main:=C.main) (k:=k) (d:=C.ds) (base:=C.base) H7 zaY (uP.wait jV) e1;have Q5:∀e∈es,He R1 C.St e:=λe he=>by
    have:=yC e he;rw[nG] at this;exact e5 e (zaA this)
   exact⟨_,W1,_,aX,zxg ..,hg,λe he=>ze1 (Q5 e he) Hx,goal⟩
end
end Go.Mt
namespace Go.Mt
open Go.Conc Go.Tt
open Go.ConcR (KK wgBlock WgAt stA smA rd wr)
section
variable {L:Type}{C:Cx L}{l:L}
theorem mX (d:Dk)(fn:aN)(tmps:Array aF)(todo:List dS):fx [] d ⟨fn,tmps,todo,false⟩=(d.base fn).at ⟨tmps,d.ds⟩ todo:=by
 unfold fx;simp[Fm.fr,Dk.base,dJ.at]
theorem zmc (d:Dk)(fn:aN)(tmps:Array aF)(todo:List dS):fx [] d ⟨fn,tmps,todo,true⟩={(d.base fn).at ⟨tmps,d.ds⟩ todo with mode:=.returning}:=by
 unfold fx;simp[Fm.fr,Dk.base,dJ.at]
theorem cC.grow_id (τ:cC)(w:aE):τ.grow w w=τ:=by
 obtain⟨a,b,c⟩:=τ;simp only[cC.grow,cC.mk.injEq,and_true]
 grind
def zT.id (O:Nat->Prop)(w:aE):zT O w w:=⟨rfl,rfl,rfl,bN _,λ_ _ _=>rfl⟩
variable {R:Pr}{w W:aE}{τ:cC}
def Cx.Rel.suf {aY:aE}(hw:C.Rel R w W)(ht:vM τ R C.St)(s:bX C.ty C.Wg τ W aY):C.Rel R w aY:=zkf hw ht (λa b x=>(hw.lt a b (.inr x)).2) s
variable {g':bC}
theorem Nk {main:Bool}{g:bC}{p:bT}{ty:aM}{Wg:Nat}{A:jL L}{Fin:bC->aE->Prop}(hg:g.status=.running)(yD:g'.status=.running)(aX:∀aY,bX ty Wg τ W aY->stepG p main g aY=.go g' aY #[])
 (h:∀aY,bX ty Wg τ W aY->b6 p ty Wg A Fin main (.usr l) 0 τ g' aY):b6 p ty Wg A Fin main (.usr l) 0 τ g W:=by
 refine b6.own hg trivial λaY s=>⟨g',aY,#[],aX aY s,yD,zT.id _ _,λe he=>by simp at he,?_⟩;rw[cC.grow_id];exact h aY s
theorem Cx.silent {g:bC}(hg:g.status=.running)(yD:g'.status=.running)(aX:∀aY,bX C.ty C.Wg τ W aY->stepG C.p C.main g aY=.go g' aY #[])(h:∀aY,bX C.ty C.Wg τ W aY->C.B l τ g' aY):C.B l τ g W:=by
 refine Cx.ownQ hg λaY s=>⟨g',aY,#[],aX aY s,yD,zT.id _ _,λe he=>by simp at he,?_⟩;rw[cC.grow_id];exact h aY s
variable {fn:aN}{tmps:Array aF}
theorem BO.silent (hI:eZ C){todo zh4:List dS}{zkH:Bool}(aX:∀R bS W,bL (SF C.fs) C.K R tmps bS->stepG C.p C.main (G ((C.ds.base fn).at ⟨bS,C.ds.ds⟩ todo) C.base) W=.go (G (fx [] C.ds ⟨fn,bS,zh4,zkH⟩) C.base) W #[])
 (h:BO C l ⟨fn,tmps,zh4,zkH⟩ w):BO C l ⟨fn,tmps,todo,false⟩ w:=by
 intro R W m' τ hw hm ht hi;obtain⟨fn',bS,y9,zI⟩:=m';obtain rfl:=hm.fn;obtain rfl:=hm.todo;obtain rfl:=hm.ret;refine Cx.silent rfl rfl (λaY s=>by rw[mX];exact aX R bS aY hm.tmps) λaY s=>?_;exact h R aY ⟨fn,bS,zh4,zkH⟩ τ (hw.suf ht s) ⟨rfl,rfl,rfl,hm.tmps,hm.pins⟩ ht (hI.suf _ _ _ _ hi s)
section ctl
variable {fn:aN}{tmps:Array aF}{k:List dS}{w:aE}
variable {a b:Code}
theorem BO.seq (hI:eZ C)(h:BO C l ⟨fn,tmps,.code a:: .code b::k,false⟩ w):BO C l ⟨fn,tmps,.code (.seq a b)::k,false⟩ w:=BO.silent hI (λR t W _=>by rw[mX];exact dQ) h
theorem BO.skip (hI:eZ C)(h:BO C l ⟨fn,tmps,k,false⟩ w):BO C l ⟨fn,tmps,.code .skip::k,false⟩ w:=BO.silent hI (λR t W _=>by rw[mX];exact pS) h
variable {c:Code}
theorem BO.block (hI:eZ C){id:Nat}(h:BO C l ⟨fn,tmps,.code c:: .inBlock id::k,false⟩ w):BO C l ⟨fn,tmps,.code (.block id c)::k,false⟩ w:=BO.silent hI (λR t W _=>by rw[mX];exact zfq) h
theorem BO.loop (hI:eZ C)(h:BO C l ⟨fn,tmps,.code c:: .inLoop c::k,false⟩ w):BO C l ⟨fn,tmps,.code (.loop c)::k,false⟩ w:=BO.silent hI (λR t W _=>by rw[mX];exact zia) h
theorem BO.inLoop (hI:eZ C)(h:BO C l ⟨fn,tmps,.code c:: .inLoop c::k,false⟩ w):BO C l ⟨fn,tmps,.inLoop c::k,false⟩ w:=BO.silent hI (λR t W _=>by rw[mX];exact zjZ) h
theorem BO.inBlock (hI:eZ C){id:Nat}(h:BO C l ⟨fn,tmps,k,false⟩ w):BO C l ⟨fn,tmps,.inBlock id::k,false⟩ w:=BO.silent hI (λR t W _=>by rw[mX];exact zjF) h
theorem BO.exit (hI:eZ C){id:Nat}{k':List dS}(he:exitTo id k=some k')(h:BO C l ⟨fn,tmps,k',false⟩ w):BO C l ⟨fn,tmps,.code (.exit id)::k,false⟩ w:=BO.silent hI (λR t W _=>by rw[mX];exact stepG_exit he) h
theorem BO.reg (hI:eZ C){id:Nat}{ops:Array aZ}(h:BO C l ⟨fn,tmps,.inRegion ops (iX ops.size)::k,false⟩ w):BO C l ⟨fn,tmps,.code (.region id ops false)::k,false⟩ w:=BO.silent hI (λR t W _=>by rw[mX];exact stepG_region) h
theorem BO.regEnd (hI:eZ C){ops:Array aZ}(h:BO C l ⟨fn,tmps,k,false⟩ w):BO C l ⟨fn,tmps,.inRegion ops []::k,false⟩ w:=BO.silent hI (λR t W _=>by rw[mX];exact dH) h
theorem BO.fall (hI:eZ C)(h:BO C l ⟨fn,tmps,[],true⟩ w):BO C l ⟨fn,tmps,[],false⟩ w:=BO.silent hI (λR t W _=>by rw[zmc];exact zfS) h
theorem BO.ret (hI:eZ C)(h:BO C l ⟨fn,tmps,.code .ret::k,true⟩ w):BO C l ⟨fn,tmps,.code .ret::k,false⟩ w:=BO.silent hI (λR t W _=>by rw[zmc];exact wY) h
theorem Gx {R:Pr}{t t':Array aF}{d:List Gr}(h:bL (SF C.fs) C.K R t t'){x:cI}(hx:dP C.fs x=true):VR (SF C.fs) C.K R ((bJ t []).eval x) ((bJ t' d).eval x):=by
 cases x with
 |tmp t=>exact h.getD t yS
 |const v=>exact zwF hx
 |global g=>cases hx
 |func f=>exact .func hx rfl (λi v v' h=>by simp at h) rfl (λi v v' h=>by simp at h)
theorem BO.cond (hI:eZ C){c:cI}{t:Bool}(hx:dP C.fs c=true)(hc:(bJ tmps []).eval c=.bool t)(h:BO C l ⟨fn,tmps,.code (if t then a else b)::k,false⟩ w):BO C l ⟨fn,tmps,.code (.cond c a b)::k,false⟩ w:=
 BO.silent hI (λR t' W ha=>by
  rw[mX];have h1:=Gx (C:=C) (d:=C.ds.ds) ha hx;rw[hc] at h1;have h2:(bJ t' C.ds.ds).eval c=.bool t:=by
   generalize(bJ t' C.ds.ds).eval c=v' at h1;cases h1;rfl
  exact stepG_cond h2) h
end ctl
structure vW (p:bT)(fn:aN):Prop where
 res:∃f,p.funcs[fn]? =some f/\Ia f.results.toList
variable {bS:Array aF}{c:Code}
theorem zDu (hc:pJ C.p ⟨C.fs,C.gs,true⟩ c=true)(hf:vW C.p fn)(ha:bL (SF C.fs) C.K R tmps bS):pI C.P C.fs C.K R ⟨fn,tmps,[.code c],false⟩ ⟨fn,bS,[.code c],false⟩:=by
 obtain⟨f,h1,h2⟩:=hf.res;refine⟨rfl,rfl,rfl,ha,λi hi=>?_,⟨f,f,h1,h1,rfl,h2⟩⟩;simp only[lO,nM,or_false] at hi;subst hi;exact hc
variable {k:List dS}
theorem BO.piece (F:vQ C.P C.fs)(hI:eZ C)(hc:pJ C.p ⟨C.fs,C.gs,true⟩ c=true)(hf:vW C.p fn)(fG:yV C.S c=true)
 (uF:∀T,Code.wp C.p c (λe a' w'=>e=.normal/\BO C l ⟨fn,a'.tmps,k,false⟩ w') ⟨tmps,[]⟩ (Tt.tp w T 0)):BO C l ⟨fn,tmps,.code c::k,false⟩ w:=by
 intro R W m' τ hw hm ht hi;obtain⟨fn',bS,y9,zI⟩:=m';obtain rfl:=hm.fn;obtain rfl:=hm.todo;obtain rfl:=hm.ret;have zcd:=zDu (R:=R) hc hf hm.tmps;have hrel:xD C.P C.fs C.K (pE C.p) C.St ⟨fn,tmps,[.code c],false⟩ [] w:=⟨R,W,_,[],hw,zcd,.nil⟩;have tree:=zqx F rfl hrel uF (λe a w h=>.inl h.1) (λe a w T k h=>⟨h.1,h.2.tape T k⟩);have:=zET (l:=l) F hI (k:=k) (fn0:=fn) tree (λx wT e1 e2 e3 hq=>by
  rcases(hq wT.tape).2 with h|h
  .exact BO.untape h.2.2
  .cases h.1)
  (λx wT e1 e2 e3 hq=>by
   rcases hq.2 with h|h
   .exact absurd h.1 e3
   .cases h.1) R W ⟨fn,bS,[.code c],false⟩ [] τ rfl (λ_ e=>by cases e) hw zcd .nil ht hi hm.pins (λi hi=>by
   simp only[Tb,lO,nM,or_false] at hi;subst hi;exact fG)
 have e:fx k C.ds ⟨fn,bS,[.code c],false⟩=fx [] C.ds ⟨fn,bS,.code c::k,false⟩:=by unfold fx;simp[Fm.fr]
 unfold stk at this;simp_all
variable {dst:Option Nat}{v:aF}{d:List Gr}
theorem Jj (hp:∀x∈C.pin,bS.getD x.1 aA=x.2)(hn:∀s,dst=some s->s∉C.S):∀x∈C.pin,(b7 ⟨bS,d⟩ dst v).tmps.getD x.1 aA=x.2:=by
 intro x hx
 cases dst with
 |none=>exact hp x hx
 |some s=>
  have aS:s≠x.1:=λe=>hn s rfl (e▸zqq hx);rw[<-hp x hx];simp only[b7,xE,rN aS]
variable {t t':Array aF}
theorem Is {d':List Gr}(h:bL (SF C.fs) C.K R t t'){v':aF}(hv:VR (SF C.fs) C.K R v v'):bL (SF C.fs) C.K R (b7 ⟨t,d⟩ dst v).tmps (b7 ⟨t',d'⟩ dst v').tmps:=by
 cases dst with
 |none=>exact h
 |some s=>exact h.set s hv
variable {o:aZ}{ops:Array aZ}
theorem J2 (h:bL (SF C.fs) C.K R t t')(hw:dG o (dO ops t)=true):dG o (dO ops t')=true:=by
 rw[<-ziZ ops h];exact hw
theorem BO.op (F:vQ C.P C.fs)(hI:eZ C){i:Nat}{rest:List Nat}(ho:ops[i]? =some o)(b9:dG o (dO ops tmps)=true)
 (bU:rP C.p ⟨C.fs,C.gs,true⟩ o.op=true) (kU:∀s,o.dst=some s->s∉C.S)
 (hx:∀T,∃v w',((aO (bJ tmps []).eval o).run C.p (Tt.tp w T 0)=.ok (.value v) w'\/((aO (bJ tmps []).eval o).run C.p (Tt.tp w T 0)=.ok .skip w'/\v=aA))/\BO C l ⟨fn,(b7 ⟨tmps,[]⟩ o.dst v).tmps,.inRegion ops rest::k,false⟩ w'):
 BO C l ⟨fn,tmps,.inRegion ops (i::rest)::k,false⟩ w:=by
 intro R W m' τ hw hm ht hi;obtain⟨fn',bS,y9,zI⟩:=m';obtain rfl:=hm.fn;obtain rfl:=hm.todo;obtain rfl:=hm.ret;rw[mX];refine Cx.ownQ rfl λaY s=>?_;have dI:=hw.suf ht s;have y7:=hI.suf _ _ _ _ hi s
 let T:Tape:=λn q=>aY.tape (aY.drawn+n) q
 have Ak:C.Rel R (Tt.tp w T 0) aY:=⟨dI.inj,dI.inj',dI.lt,dI.low,dI.gle,dI.cont,dI.rest,dI.st,dI.np,dI.tb⟩;have Mf:Tp (Tt.tp w T 0) aY:=λn q=>by show aY.tape (aY.drawn+(0+n)) q=_;rw[rH]
 obtain⟨v,w',cH,hB⟩:=hx T;have zb8:=zlf (P:=C.P) (q:=⟨C.fs,C.gs,true⟩) (o:=o) (ρ:=(bJ tmps []).eval) (ρ':=(bJ bS C.ds.ds).eval) F.toFit2.toFit (Ak.relOk rfl) (λx hx=>Gx hm.tmps hx) (λg=>rfl) (λg=>rfl) (λg=>rfl) (λg=>rfl) (λv=>rfl) (λv=>rfl) rfl (λf h=>h) (λ_ f hf=>F.toFit2.toFit.dyn rfl f hf) bU
 have key:∃R1 v' W1 ev,((aO (bJ bS C.ds.ds).eval o).run C.p aY=.ok (.value v') W1\/((aO (bJ bS C.ds.ds).eval o).run C.p aY=.ok .skip W1/\v'=aA))/\VR (SF C.fs) C.K R1 v v'/\nC (SF C.fs) C.K R (pE C.p) C.St (Tt.tp w T 0) aY R1 w' W1/\
  (∀es,(aO (bJ bS C.ds.ds).eval o).events C.p aY es=es++ev)/\∀e∈ev,He R1 C.St e:=by
  rcases cH with cH|⟨cH,rfl⟩
  .obtain⟨R1,x',W1,ev,e1,e2,e3,e4,e5⟩:=aG.run rfl _ zb8 Ak Mf cH
   cases e2 with
   |value hv=>exact⟨R1,_,W1,ev,.inl e1,hv,e3,e4,e5⟩
  .obtain⟨R1,x',W1,ev,e1,e2,e3,e4,e5⟩:=aG.run rfl _ zb8 Ak Mf cH
   cases e2 with
   |skip=>exact⟨R1,aA,W1,ev,.inr ⟨e1,rfl⟩,yS,e3,e4,e5⟩
 obtain⟨R1,v',W1,ev,e1,hv,e3,e4,e5⟩:=key;have hb:(C.ds.base fn).kind≠ .early:=C.ds.ok;have uM:=J2 (C:=C) hm.tmps b9;have aX:stepG C.p C.main (G ((C.ds.base fn).at ⟨bS,C.ds.ds⟩ (.inRegion ops (i::rest)::k)) C.base) aY=.go (G ((C.ds.base fn).at (b7 ⟨bS,C.ds.ds⟩ o.dst v') (.inRegion ops rest::k)) C.base) W1 (wU C.p (C.ds.base fn).fn ⟨bS,C.ds.ds⟩ o aY):=by
  rcases e1 with e1|⟨e1,rfl⟩
  .exact stepG_value ho uM hb e1
  .exact stepG_none ho uM hb e1
 have Gk:b7 ⟨bS,C.ds.ds⟩ o.dst v'=⟨(b7 ⟨bS,C.ds.ds⟩ o.dst v').tmps,C.ds.ds⟩:=by cases o.dst<;>rfl
 have Q5:∀e∈wU C.p (C.ds.base fn).fn ⟨bS,C.ds.ds⟩ o aY,He R1 C.St e:=λe he=>by
  unfold wU at he;rw[e4] at he;exact e5 e (by simpa using zaA he)
 have cK:aY.heap.size<=W1.heap.size:=e3.size.2;have Fj:∀a b,R1 a b->R a b\/(aY.heap.size<=b/\b<W1.heap.size):=λa b x=>by
  rcases e3.new a b x with y|⟨_,y⟩
  .exact .inl y
  .exact .inr ⟨y,(e3.rel.ltR a b x).2⟩
 have Hx:vM (τ.grow aY W1) R1 C.St:=λa b x=>by
  rcases e3.new a b x with y|⟨y1,y2⟩
  .exact⟨(ht a b y).1,λz=>.inl ((ht a b y).2 z)⟩
  .refine⟨λz=>?_,λ_=>.inr ⟨y2,(e3.rel.ltR a b x).2⟩⟩
   obtain⟨⟨b',bZ⟩,_⟩:=Ak.st a z
   grind
 have hg:zT τ.own aY W1:=⟨e3.tape.2,e3.os.2,e3.ou.2,cK,λb hb fG=>e3.keep b hb λa x=>zU λz=>fG ((ht a b x).2 z)⟩;have yR:=hI.step R τ aY R1 W1 y7 ht ⟨e3.le,e3.tape.2,e3.os.2,e3.ou.2,cK,Fj,e3.keep⟩;refine⟨_,W1,_,aX,rfl,hg,λe he=>ze1 (Q5 e he) Hx,?_⟩;rw[Gk,<-mX];exact hB R1 W1 ⟨fn,_,_,false⟩ _ e3.rel ⟨rfl,rfl,rfl,Is (C:=C) (hm.tmps.mono e3.le) hv,Jj (C:=C) hm.pins kU⟩ Hx yR
end
section
variable {L:Type}{C:Cx L}{l:L}
variable {p:bT}
theorem zFf {q:Tt.Cl}:∀c:Code,pJ p q c=true->yV [] c=true:=by
 intro c
 induction c with
 |region id ops dr=>
  intro _;simp only[yV,Wc];intro o _;cases o.dst<;>rfl
 |seq a b zmR zj3=>intro h;simp only[pJ,iY] at h;simp only[yV,iY];exact⟨zmR h.1,zj3 h.2⟩
 |cond c a b zmR zj3=>intro h;simp only[pJ,iY] at h;simp only[yV,iY];exact⟨zmR h.1.2,zj3 h.2⟩
 |block id c ih=>intro h;exact ih h
 |loop c ih=>intro h;exact ih h
 |scope c ih=>intro h;exact ih h
 |skip=>intro _;rfl
 |ret=>intro _;rfl
 |exit _=>intro _;rfl
 |label _=>intro _;rfl
 |_=>intro h;simp[pJ] at h
def Cx.sub (C:Cx L)(m':Fm)(oA:Pr):Cx L:={C with base:=fx [] C.ds m'::C.base,ds:=.nil,I:=λR τ W=>C.I R τ W/\oA.le R,pin:=[]}
variable {o:aZ}{x:cI}{f:aN}{args:Array cI}{kY:Array aM}{first cap:Array aF}{ρ:cI->aF}
theorem zBL (hop:o.op=.call ⟨.value x,args,kY⟩)(hρ:ρ x=.func (.func f) first cap){fn:Qu}{c:Code}(hf:p.funcs[f]? =some fn)
 (hn:(fn.name== "runtime.NumGoroutine")=false) (hb:fn.body=some c) (w:aE):(aO ρ o).run p w=.ok (.enter f (first++args.map ρ++cap)) w/\(aO ρ o).events p w #[]=#[]:=by
 obtain⟨dst,y5,type,pos,after,guard⟩:=o;simp only at hop;subst hop;have yB:¬fn.name= "runtime.NumGoroutine" :=by simpa using hn
 constructor
 .simp[aO,resolve,C0,hρ,invoke,callFunc,program,bind,wX,pure,bK,hf,yB,hb]
 .simp[aO,resolve,C0,hρ,invoke,callFunc,program,bind,wX,pure,bK,zO,zZ,hf,yB,hb]
structure Callee (C:Cx L)(tmps:Array aF)(x:cI)(f:aN)(first cap:Array aF):Prop where
 here:(bJ tmps []).eval x=.func (.func f) first cap
 there:∀R bS d,bL (SF C.fs) C.K R tmps bS->∃Qt Ol,(bJ bS d).eval x=.func (.func f) Qt Ol/\bL (SF C.fs) C.K R first Qt/\bL (SF C.fs) C.K R cap Ol
def Callee.static (tmps:Array aF)(f:aN):Callee C tmps (.func f) f #[] #[]:=⟨rfl,λR bS d _=>⟨#[],#[],rfl,.empty,.empty⟩⟩
variable {fn:aN}{tmps:Array aF}{ops:Array aZ}{i:Nat}{rest:List Nat}{k:List dS}{w:aE}{fnf:Qu}
theorem BO.callN (hI:eZ C)(ho:ops[i]? =some o)(b9:dG o (dO ops tmps)=true)
 (hop:o.op=.call ⟨.value x,args,kY⟩) (hx:Callee C tmps x f first cap) (wF:args.all (dP C.fs)=true)  {cf:Code} (hf:C.p.funcs[f]? =some fnf) (Iq:(fnf.name== "runtime.NumGoroutine")=false) (hb:fnf.body=some cf) (zDz:Ia fnf.results.toList)
 (hB:∀(oA:Pr) (m':Fm),FmW C oA ⟨fn,tmps,.inRegion ops (i::rest)::k,false⟩ m'->BO (C.sub m' oA) l ⟨f,(first++args.map (bJ tmps []).eval++cap)++oC (fnf.ntmps-(first++args.map (bJ tmps []).eval++cap).size) aA,[.code cf],false⟩ w):
 BO C l ⟨fn,tmps,.inRegion ops (i::rest)::k,false⟩ w:=by
 intro R W m' τ hw hm ht hi;have zdz:=hm;obtain⟨fn',bS,y9,zI⟩:=m';obtain rfl:=hm.fn;obtain rfl:=hm.todo;obtain rfl:=hm.ret;obtain⟨Qt,Ol,l9,uL,qH⟩:=hx.there R bS C.ds.ds hm.tmps;have bZ:(C.ds.base fn).kind≠ .early:=C.ds.ok;have uM:=J2 (C:=C) hm.tmps b9;rw[mX];refine Cx.silent rfl rfl (g':=G (Hu C.p f (Qt++args.map (bJ bS C.ds.ds).eval++Ol) .normal) (fx [] C.ds ⟨fn,bS,.inRegion ops (i::rest)::k,false⟩::C.base)) (λaY s=>?_) λaY s=>?_
 rotate_right
 .have Gv:bL (SF C.fs) C.K R (first++args.map (bJ tmps []).eval++cap) (Qt++args.map (bJ bS C.ds.ds).eval++Ol):=(uL.append (bL.maps (λx hx=>Gx (C:=C) hm.tmps hx) wF)).append qH
  have:=hB R _ zdz R aY ⟨f,(Qt++args.map (bJ bS C.ds.ds).eval++Ol)++oC (fnf.ntmps-(Qt++args.map (bJ bS C.ds.ds).eval++Ol).size) aA,[.code cf],false⟩ τ (hw.suf ht s) ⟨rfl,rfl,rfl,Gv.pad fnf.ntmps,λx hx=>by cases hx⟩ ht ⟨hI.suf _ _ _ _ hi s,.refl R⟩;rw[zaw hf hb,<-G5];exact this
 .obtain⟨x1,x2⟩:=zBL (p:=C.p) hop (ρ:=(bJ bS C.ds.ds).eval) l9 hf Iq hb aY
  have aX:=stepG_enter (main:=C.main) (b:=C.ds.base fn) (rest:=rest) (cs:=C.base) (k:=k) ho uM bZ x1;rw[aX];unfold wU;rw[x2,Df,mX]
variable {v:aF}
theorem BO.retN (hI:eZ C){oA:Pr}{m m':Fm}(hm:FmW C oA m m')(hr:m.ret=false)(qY:m.todo=.inRegion ops (i::rest)::k)(kU:∀s,(ops[i]?).bind (·.dst)=some s->s∉C.S)
   {todo:List dS}    (hf:C.p.funcs[f]? =some fnf) (hv:(o5 fnf.results.toList tmps).run C.p w=.ok v w) (h:BO C l (m.fin ops i rest k v) w):BO (C.sub m' oA) l ⟨f,tmps,todo,true⟩ w:=by
 intro R W x' τ hw hx ht hi;obtain⟨f',bS,y9,zI⟩:=x';obtain rfl:=hx.fn;obtain rfl:=hx.todo;obtain rfl:=hx.ret;have y4:m'.ret=false:=hm.ret.symm.trans hr;have Po:m'.todo=.inRegion ops (i::rest)::k:=hm.todo.symm.trans qY;refine Cx.ownQ rfl λaY s=>?_;have dI:C.Rel R w aY:=Cx.Rel.suf (C:=C) hw ht s;have y7:=hI.suf _ _ _ _ hi.1 s
 let T:Tape:=λn q=>aY.tape (aY.drawn+n) q
 have Ak:C.Rel R (Tt.tp w T 0) aY:=⟨dI.inj,dI.inj',dI.lt,dI.low,dI.gle,dI.cont,dI.rest,dI.st,dI.np,dI.tb⟩;have Mf:Tp (Tt.tp w T 0) aY:=λn q=>by show aY.tape (aY.drawn+(0+n)) q=_;rw[rH]
 have cH:=(Xd _ _ w v w hv).2 T 0;obtain⟨R1,v',W1,ev,e1,g3,e3,e4,e5⟩:=aG.run (P:=C.P) rfl _ (zjv hx.tmps fnf.results.toList) Ak Mf cH;obtain⟨zeU,_⟩:=Xd _ _ aY v' W1 e1;subst zeU;have Pb:(z8 C.p ⟨f,bS,todo,true⟩ [m']).run C.p W1=.ok (m'.fin ops i rest k v',[]) W1:=(Kk Po hf e1).1;obtain⟨_,_,_,e⟩:=zdV (main:=C.main) rfl y4 Pb [] C.ds C.base;have Th:fx [] (C.sub m' oA).ds ⟨f,bS,todo,true⟩=(⟨f,bS,todo,true⟩:Fm).fr:=G5 _;rw[Th];have Q5:∀e∈seen C.p f ((z8 C.p ⟨f,bS,todo,true⟩ [m']).events C.p W1 #[]),He R1 C.St e:=λe he=>by
  rw[(Kk Po hf e1).2,e4] at he;exact e5 e (by simpa using zaA he)
 have Fj:∀a b,R1 a b->R a b\/(W1.heap.size<=b/\b<W1.heap.size):=λa b x=>by
  rcases e3.new a b x with y|⟨_,y⟩
  .exact .inl y
  .exact .inr ⟨y,(e3.rel.ltR a b x).2⟩
 have Hx:vM (τ.grow W1 W1) R1 C.St:=λa b x=>by
  rcases e3.new a b x with y|⟨y1,y2⟩
  .exact⟨(ht a b y).1,λz=>.inl ((ht a b y).2 z)⟩
  .have:=(e3.rel.ltR a b x).2;omega
 have yR:=hI.step R τ W1 R1 W1 y7 ht ⟨e3.le,rfl,rfl,rfl,bN _,Fj,λ_ _ _=>rfl⟩;refine⟨_,W1,_,e,rfl,zT.id _ _,λe he=>ze1 (Q5 e he) Hx,?_⟩;have Se:C.Rel R1 w W1:=⟨e3.rel.inj,e3.rel.inj',e3.rel.lt,e3.rel.low,e3.rel.gle,e3.rel.cont,e3.rel.rest,e3.rel.st,e3.rel.np,e3.rel.tb⟩;refine h R1 W1 _ _ Se ⟨hm.fn,rfl,hm.ret,?_,?_⟩ Hx yR
 .have:=Is (C:=C) (d:=[]) (d':=[]) (hm.tmps.mono (hi.2.trans e3.le)) (dst:=(ops[i]?).bind (·.dst)) g3
  unfold Fm.fin;simp only;unfold b7 at this
  grind
 .have:=Jj (C:=C) (d:=[]) (v:=v') hm.pins kU
  unfold Fm.fin;simp only;unfold b7 at this
  grind
variable {c:Nat}{ct e:aM}{ok:Bool}{z:aF}{dir:ChanDir}{ie:xB}
theorem zvV (hop:o.op=.recv ct x ok)(Er:p.underlying ct=some (.chan dir e))(jS:p.info? e=some ie)(hz:ie.zero=some z)(hx:ρ x=.chan (some c))(w:aE):
 (aO ρ o).run p w=.ok (.comm #[rcase c z] true (.recv ok)) w/\(aO ρ o).events p w #[]=#[]:=by
 obtain⟨dst,y5,type,pos,after,guard⟩:=o;simp only at hop;subst hop;have hu:∀w,(underlying ct).run p w=.ok (.chan dir e) w:=λw=>by simp[underlying,program,bind,wX,bK,Er,pure]
 have pY:∀w,(zeroValue e).run p w=.ok z w:=λw=>by simp[zeroValue,typeInfo,program,bind,wX,bK,jS,hz,pure]
 have he:aO ρ ⟨dst,.recv ct x ok,type,pos,after,guard⟩=(underlying ct).bind (λd=>match d with| .chan _ elem=>(zeroValue elem).bind (λz=>.pure (.comm #[{chan:=ρ x,send:=none,zero:=z}] true (.recv ok)))|_=>stuck "receive: channel type expected"):=by
  simp only[aO];show wX _ _=wX _ _;congr 1
 rw[he];constructor
 .rw[tP,hu]
  simp only[vF];rw[tP,pY];simp only[vF,hx];rfl
 .rw[zfr,hu,zfW,events_underlying]
  simp only;rw[zfr,pY,zfW,events_zeroValue];rfl
theorem zsA {y:cI}(hop:o.op=.send x y)(hx:ρ x=.chan (some c))(hy:ρ y=v)(w:aE):
 (aO ρ o).run p w=.ok (.comm #[scase c v (.tuple #[])] true .send) w/\(aO ρ o).events p w #[]=#[]:=by
 obtain⟨dst,y5,type,pos,after,guard⟩:=o;simp only at hop;subst hop;constructor
 .simp[aO,hx,hy,scase,pure,bK]
 .simp[aO,hx,hy,scase,pure,bK,zO,zZ]
variable {g:Nat}
theorem Zd {R:Pr}{W:aE}(hw:C.Rel R w W){v':aF}(hK:C.K g c)(h:VR (SF C.fs) C.K R (.chan (some g)) v'):v'=.chan (some c):=by
 cases h with
 |chan h=>
  cases h with
  |some h=>rw[hw.inj g _ c h (.inr hK)]
theorem zbX (ho:ops[i]? =some o)(v:aF):o7 (G ((C.ds.base fn).at ⟨tmps,C.ds.ds⟩ (.inRegion ops (i::rest)::k)) C.base) v=G (fx [] C.ds ⟨fn,(b7 ⟨tmps,[]⟩ o.dst v).tmps,.inRegion ops rest::k,false⟩) C.base:=by
 rw[mX];have Gk:b7 ⟨tmps,C.ds.ds⟩ o.dst v=⟨(b7 ⟨tmps,[]⟩ o.dst v).tmps,C.ds.ds⟩:=by cases o.dst<;>rfl
 have Az:((C.ds.base fn).at ⟨tmps,C.ds.ds⟩ (.inRegion ops (i::rest)::k)).finish v=(C.ds.base fn).at (b7 ⟨tmps,C.ds.ds⟩ o.dst v) (.inRegion ops rest::k):=by rw[zsV,ho];rfl
 rw[<-Gk,<-Az];rfl
variable {okv:aF->Prop}
theorem BO.recv (ha:C.alone=none)(hI:eZ C){nx:aF->L}{sh:L}
 (ho:ops[i]? =some o) (b9:dG o (dO ops tmps)=true) (hop:o.op=.recv ct x ok) (Er:C.p.underlying ct=some (.chan dir e)) (jS:C.p.info? e=some ie) (hz:ie.zero=some z) (znv:∀R,VR (SF C.fs) C.K R z z)
 (rM:dP C.fs x=true) (hx:(bJ tmps []).eval x=.chan (some g)) (hK:C.K g c) (kU:∀s,o.dst=some s->s∉C.S) (qR:C.A.act l=.recv c okv nx sh)
 (h1:∀v,okv v->∃vg,(∀R,VR (SF C.fs) C.K R vg v)/\BO C (nx v) ⟨fn,(b7 ⟨tmps,[]⟩ o.dst (recvd ok vg true)).tmps,.inRegion ops rest::k,false⟩ w)
 (h2:C.A.cl l->BO C sh ⟨fn,(b7 ⟨tmps,[]⟩ o.dst (recvd ok z false)).tmps,.inRegion ops rest::k,false⟩ w):BO C l ⟨fn,tmps,.inRegion ops (i::rest)::k,false⟩ w:=by
 intro R W m' τ hw hm ht hi;obtain⟨fn',bS,y9,zI⟩:=m';obtain rfl:=hm.fn;obtain rfl:=hm.todo;obtain rfl:=hm.ret;have l9:(bJ bS C.ds.ds).eval x=.chan (some c):=Zd hw hK (hx▸Gx (C:=C) hm.tmps rM);have uM:=J2 (C:=C) hm.tmps b9;have hb:(C.ds.base fn).kind≠ .early:=C.ds.ok;have zb6:∀vg v' b,VR (SF C.fs) C.K R vg v'->VR (SF C.fs) C.K R (recvd ok vg b) (recvd ok v' b):=λvg v' b h=>by
  unfold recvd
  cases ok with
  |false=>exact h
  |true=>
   simp only[if_true];exact VR.tuple' (by
    have:=bL.empty (S:=SF C.fs) (K:=C.K) (R:=R);exact(this.push h).push (.bool b))
 have goon:∀{l':L} {vg v':aF} {aY:aE},bX C.ty C.Wg τ W aY->VR (SF C.fs) C.K R vg v'->BO C l' ⟨fn,(b7 ⟨tmps,[]⟩ o.dst vg).tmps,.inRegion ops rest::k,false⟩ w->
  C.B l' τ (o7 (G ((C.ds.base fn).at ⟨bS,C.ds.ds⟩ (.inRegion ops (i::rest)::k)) C.base) v') aY:=λ{l' vg v' aY} s hv hB=>by
  rw[zbX ho];exact hB R aY _ τ (Cx.Rel.suf (C:=C) hw ht s) ⟨rfl,rfl,rfl,Is (C:=C) hm.tmps hv,Jj (C:=C) hm.pins kU⟩ ht (hI.suf _ _ _ _ hi s)
 rw[mX,Cx.B_none ha];refine b6.usr rfl ?_;unfold mR;rw[qR];refine⟨rfl,z,ok,λaJ s=>?_,λv hv aJ s _=>?_,λlE=>?_⟩
 .obtain⟨e1,e2⟩:=zvV (p:=C.p) (ρ:=(bJ bS C.ds.ds).eval) hop Er jS hz l9 aJ
  rw[stepG_comm ho uM hb e1];unfold wU;rw[e2,Df]
 .obtain⟨vg,zje,hB⟩:=h1 v hv
  have:=goon s (zb6 _ _ _ (zje R)) hB;rw[Cx.B_none ha] at this;exact this
 .have:=goon bX.refl (zb6 _ _ _ (znv R)) (h2 lE)
  rw[Cx.B_none ha] at this;exact this
variable {pub:aF->List Nat}
theorem BO.send (ha:C.alone=none)(hI:eZ C){y:cI}{nx:aF->L}{l':L}
 (ho:ops[i]? =some o) (b9:dG o (dO ops tmps)=true) (hop:o.op=.send x y)
 (rM:dP C.fs x=true) (hx:(bJ tmps []).eval x=.chan (some g)) (hK:C.K g c) (Eo:dP C.fs y=true) (kU:∀s,o.dst=some s->s∉C.S) (qR:C.A.act l=.send c okv pub nx)
 (hv:∀R v',VR (SF C.fs) C.K R ((bJ tmps []).eval y) v'->okv v'/\pub v'=[]/\nx v'=l')
 (h1:BO C l' ⟨fn,(b7 ⟨tmps,[]⟩ o.dst aA).tmps,.inRegion ops rest::k,false⟩ w):BO C l ⟨fn,tmps,.inRegion ops (i::rest)::k,false⟩ w:=by
 intro R W m' τ hw hm ht hi;obtain⟨fn',bS,y9,zI⟩:=m';obtain rfl:=hm.fn;obtain rfl:=hm.todo;obtain rfl:=hm.ret;have l9:(bJ bS C.ds.ds).eval x=.chan (some c):=Zd hw hK (hx▸Gx (C:=C) hm.tmps rM);have uM:=J2 (C:=C) hm.tmps b9;have hb:(C.ds.base fn).kind≠ .early:=C.ds.ok;obtain⟨k1,k2,k3⟩:=hv R _ (Gx (C:=C) (d:=C.ds.ds) hm.tmps Eo);rw[mX,Cx.B_none ha];refine b6.usr rfl ?_;unfold mR;rw[qR];refine⟨rfl,_,.tuple #[],τ,λaJ s=>?_,k1,λb h=>h,rfl,λb h=>.inl h,(λa ha=>by rw[k2] at ha;cases ha),?_⟩
 .obtain⟨e1,e2⟩:=zsA (p:=C.p) (ρ:=(bJ bS C.ds.ds).eval) hop l9 rfl aJ
  rw[stepG_comm ho uM hb e1];unfold wU;rw[e2,Df]
 .rw[k3,zbX ho]
  rw[<-Cx.B_none ha];exact h1 R W _ τ hw ⟨rfl,rfl,rfl,Is (C:=C) hm.tmps yS,Jj (C:=C) hm.pins kU⟩ ht hi
end
end Go.Mt
namespace Go.Mt
open Go.Conc
inductive PpL where
 |m0|m1|rv (k:Nat)|wt|sd (k:Nat)|dn
end Go.Mt
namespace Go.Mt
open Go.Conc Go.RowKit Go.Conc.Lib Go.ConcR.Gen
open Go.ConcR (KK wgBlock WgAt stA smA rd wr mk Payload DC0)
section
variable {Am:Type}{P:bT}{ty:aM}{Wg:Nat}{A:jL Am}{Fin:bC->aE->Prop}
theorem cC.grow_self (τ:cC)(w:aE):τ.grow w w=τ:=by
 obtain⟨a,b,c⟩:=τ;simp only[cC.grow,cC.mk.injEq,and_true];funext x;exact propext ⟨λh=>h.elim id λh=>by omega,.inl⟩
def zT.refl (O:Nat->Prop)(w:aE):zT O w w:=⟨rfl,rfl,rfl,bN _,λ_ _ _=>rfl⟩
variable {main:Bool}{τ:cC}
theorem b6.running {ph:Ph Am}{d:Nat}{g:bC}{w:aE}(h:b6 P ty Wg A Fin main ph d τ g w):g.status=.running:=by
 obtain⟨r,hr⟩:=h;cases r with|mk ι f=>exact hr.1
theorem b6.goes {ph:Ph Am}{d:Nat}(hl:ph.live):∀(n:Nat) {g:bC} {w:aE},Goes P main (bX ty Wg τ) DC0 (b6 P ty Wg A Fin main ph d τ) n g w->b6 P ty Wg A Fin main ph d τ g w:=by
 intro n
 induction n with
 |zero=>exact λ{g w} h=>h w (bX.refl)
 |succ n ih=>
  intro g w h;rcases h with h|⟨hs,h⟩
  .exact h w (bX.refl)
  .refine b6.own hs hl λaJ s=>?_
   obtain⟨zcD,w',es,hgo,⟨e1,e2⟩,hg⟩:=zls (h aJ s);subst e1 e2;have hb:=ih hg;refine⟨zcD,w',#[],hgo,hb.running,zT.refl _ _,λe he=>by simp at he,?_⟩;rw[cC.grow_self];exact hb
theorem b6.idles {ph:Ph Am}{d:Nat}(hl:∀{g w},Z9 P ty Wg (b6 P ty Wg A Fin) main ph d τ g w->N2 P ty Wg (b6 P ty Wg A Fin) main ph d τ g w):∀(n:Nat) {g:bC} {w:aE},Goes P main (bX ty Wg τ) DC0 (b6 P ty Wg A Fin main ph d τ) n g w->b6 P ty Wg A Fin main ph d τ g w:=by
 intro n
 induction n with
 |zero=>exact λ{g w} h=>h w (bX.refl)
 |succ n ih=>
  intro g w h;rcases h with h|⟨hs,h⟩
  .exact h w (bX.refl)
  .refine b6.mk hs (.inl (hl λaJ s=>?_))
   obtain⟨zcD,w',es,hgo,⟨e1,e2⟩,hg⟩:=zls (h aJ s);subst e1 e2;have hb:=ih hg;exact⟨zcD,#[],hgo,hb.running,λe he=>by simp at he,hb⟩
variable {m:Mark}
theorem b6.mark {ph:Ph Am}{d:Nat}(hl:ph.live){g:bC}{w:aE}(hs:g.status=.running){g':bC}(hgo:∀aJ,bX ty Wg τ w aJ->stepG P main g aJ=.go g' aJ #[oF m])
 (hm:EvT Wg main τ.own τ.still (oF m)) (hb:∀aJ,bX ty Wg τ w aJ->b6 P ty Wg A Fin main ph (n9 d #[oF m]) τ g' aJ):b6 P ty Wg A Fin main ph d τ g w:=by
 refine b6.own hs hl λaJ s=>⟨g',aJ,#[oF m],hgo aJ s,(hb aJ s).running,zT.refl _ _,λe he=>?_,?_⟩
 .rw[zxp] at he
  subst he;rw[cC.grow_self];exact hm
 .rw[cC.grow_self];exact hb aJ s
theorem b6.imark {l:Am}{d:Nat}{g:bC}{w:aE}(hs:g.status=.running){g':bC}(hgo:∀aJ,bX ty Wg τ w aJ->stepG P main g aJ=.go g' aJ #[oF m])
 (hm:oR.mute (oF m)=true) (hb:∀aJ,bX ty Wg τ w aJ->b6 P ty Wg A Fin main (.rel l) (n9 d #[oF m]) τ g' aJ):b6 P ty Wg A Fin main (.rel l) d τ g w:=by
 refine b6.mk hs (.inl λaJ s=>⟨g',#[oF m],hgo aJ s,(hb aJ s).running,λe he=>?_,hb aJ s⟩);rw[zxp] at he;subst he;exact hm
def WgLive.cell0 {w:aE}(h:WgLive ty Wg w):∃v,w.cell? ⟨Wg,0,none⟩=some v:=let⟨_,_,x⟩:=h;⟨_,x.cellSt⟩
def WgLive.cell1 {w:aE}(h:WgLive ty Wg w):∃v,w.cell? ⟨Wg,1,none⟩=some v:=let⟨_,_,x⟩:=h;⟨_,x.cellSm⟩
structure H4 (ty:aM)(Wg:Nat)(τ:cC)(F:aE->Prop):Prop where
 suf:∀w aJ,bX ty Wg τ w aJ->F w->F aJ
 wg:∀w a v,a.block=Wg->F w->F (w.setCell a v)
def H4.rely {F:aE->Prop}(k:H4 ty Wg τ F){w aJ:aE}(h:F w/\WgLive ty Wg w)(s:bX ty Wg τ w aJ):F aJ/\WgLive ty Wg aJ:=⟨k.suf _ _ s h.1,s.live h.2⟩
end
end Go.Mt
namespace Go.Mt
open Go.Conc Go.RowKit Go.Conc.Lib Go.ConcR.Gen
open Go.ConcN.Gen (WgLive.cell0 WgLive.cell1)
open Go.ConcN (st_flag st_waiters)
open Go.ConcR (KK wgBlock WgAt stA smA rd wr mk Payload DC0)
variable [zgB]{L:zd6}
section
variable {Am:Type}{P:bT}{Wg:Nat}{A:jL Am}{Fin:bC->aE->Prop}{F:aE->Prop}
 {b₀:dJ} {a₀:uB} {ops₀:Array aZ} {i₀:Nat} {rest₀:List Nat} {k₀:List dS} {cs:List dJ} {τ:cC} {l nx:Am}
theorem addW (H:Xr P L)(qR:A.act l=.add nx)(kf:H4 L.tWg Wg τ F)
 (hT:∀w,F w->WgLive L.tWg Wg w->b6 P L.tWg Wg A Fin true (.usr nx) 0 τ (G (b₀.at (a₀.put ((ops₀[i₀]?).bind (·.dst)) (.tuple #[])) (.inRegion ops₀ rest₀::k₀)) cs) w)
 (w:aE) (hF:F w/\WgLive L.tWg Wg w):
 b6 P L.tWg Wg A Fin true (.usr l) 0 τ (G ((base L.add).at ⟨#[.pointer (some ⟨Wg,0,none⟩),.int .i64 1,aA,aA,aA,aA,aA,aA,aA,aA,aA,aA,aA,aA,aA,aA,aA,aA,aA,aA,aA,aA,aA,aA,aA,aA,aA,aA,aA,aA,aA,aA,aA,aA,aA,aA,aA,aA,aA,aA,aA,aA,aA,aA,aA,aA,aA,aA,aA,aA,aA,aA,aA,aA,aA,aA,aA,aA,aA,aA,aA,aA,aA,aA,aA,aA,aA,aA,aA,aA,aA,aA,aA,aA,aA,aA,aA,aA,aA,aA,aA,aA,aA,aA,aA,aA,aA,aA,aA,aA,aA,aA,aA,aA,aA,aA,aA,aA,aA,aA,aA,aA,aA,aA,aA,aA,aA,aA,aA,aA,aA,aA,aA,aA,aA,aA,aA],[]⟩ [.code (Mq L)]) (b₀.at a₀ (.inRegion ops₀ (i₀::rest₀)::k₀)::cs)) w:=by
 lib_facts
 simp only[Mq,addFn,Bp];refine b6.goes (ph:=.usr l) trivial 30 ?_
 iterate 12 (first|u_c dH kf.rely hF|u_c dQ kf.rely hF|u_reg kf.rely hF|u_c pS kf.rely hF|u_cond false kf.rely hF|u_cond true kf.rely hF|u_op kf.rely hF)
 refine qW (λaJ vZ=>?_);replace hF:=kf.rely hF vZ;clear vZ;refine b6.mark (ph:=.usr l) trivial rfl (λeL s=>zbo .disable aQ rfl rfl q8 rfl H.f_disable (zko L) (zkr L) (zis L) (zlG L)) trivial (λeL s=>?_);replace hF:=kf.rely hF s;clear s;rw[show n9 0 #[oF .disable]=1 from rfl]
 walk_nrm
 refine b6.goes (ph:=.usr l) trivial 60 ?_;u_c dH kf.rely hF;u_reg kf.rely hF
 u_defer kf.rely hF
 iterate 8 (first|u_c dH kf.rely hF|u_c dQ kf.rely hF|u_reg kf.rely hF|u_op kf.rely hF)
 u_bub kf.rely hF
 iterate 11 (first|u_c dH kf.rely hF|u_c dQ kf.rely hF|u_reg kf.rely hF|u_c pS kf.rely hF|u_cond false kf.rely hF|u_op kf.rely hF)
 u_call H.f_uAdd (nm_uAdd L) uAddFn kf.rely hF
 iterate 10 (first|u_c dH kf.rely hF|u_c dQ kf.rely hF|u_reg kf.rely hF|u_op kf.rely hF)
 refine qW (λaJ vZ=>?_);replace hF:=kf.rely hF vZ;clear vZ;refine b6.usr rfl ?_;unfold mR;rw[qR];intro eL lX v hv hw;replace hF:=kf.rely hF lX;clear lX;rcases zcF v with rfl|zbB
 .replace hw:fQ L.tWg Wg eL 0 0:=by simpa using hw
  have z:st (0+1) 0=.int .u64 KK:=by simp[st]
  rw[z];have e0:Ra.wrap (0+4294967296)=KK:=aH;refine⟨_,(Yo rfl rfl q8 rfl H.f_addU64 (Wb L) (Yb L) (Vv L) .u64 (X4 L) rfl rfl hw.cellSt (hw.thaw 0)).trans (by rw[e0];rfl),rfl,?_⟩;replace hF:F (eL.setCell (stA Wg) (.int .u64 KK))/\WgLive L.tWg Wg (eL.setCell (stA Wg) (.int .u64 KK)):=⟨kf.wg _ _ _ rfl hF.1,⟨_,_,hw.setSt _⟩⟩;clear hw;simp only[KK] at hF⊢
  walk_nrm
  refine b6.goes (ph:=.usr nx) trivial 110 ?_
  iterate 3 (first|u_c dH kf.rely hF|u_c wY kf.rely hF|u_op kf.rely hF)
  u_leave1 H.f_uAdd kf.rely hF
  iterate 48 (first|u_c dH kf.rely hF|u_c dQ kf.rely hF|u_reg kf.rely hF|u_c pS kf.rely hF|u_cond false kf.rely hF|u_cond true kf.rely hF|u_op kf.rely hF|u_skip kf.rely hF)
  u_conv H.underlying_tPU32 H.room_tU32 (WgLive.cell1 hF.2).choose_spec kf.rely hF
  refine qW (λIg Bx=>?_);replace hF:=kf.rely hF Bx;clear Bx;refine b6.mark (ph:=.usr nx) trivial rfl (λUh s=>zcp .read aQ rfl rfl q8 rfl H.f_raceRead (x_raceRead_n L) (x_raceRead_b L) (x_raceRead_x L) (x_raceRead_f L) (ad:=⟨Wg,1,none⟩) (by simp[vT])) ⟨rfl,rfl⟩ (λUh s=>?_);replace hF:=kf.rely hF s;clear s;rw[show n9 1 #[oF (.read ⟨Wg,1,none⟩)]=1 from rfl]
  walk_nrm
  refine b6.goes (ph:=.usr nx) trivial 110 ?_
  iterate 39 (first|u_c dH kf.rely hF|u_c dQ kf.rely hF|u_reg kf.rely hF|u_c pS kf.rely hF|u_cond false kf.rely hF|u_cond true kf.rely hF|u_c wY kf.rely hF|u_op kf.rely hF|u_skip kf.rely hF)
  refine qW (λIg Bx=>?_);replace hF:=kf.rely hF Bx;clear Bx;refine b6.mark (ph:=.usr nx) trivial rfl (λUh s=>zpo (v:=.tuple #[]) (evs:=#[oF .enable]) rfl H.f_enable (zhp L) (zf4 L) (zfg L) (zer L) (by simp[zw0]) (by simp[oF]) (by simp[oF])) trivial (λUh s=>?_);replace hF:=kf.rely hF s;clear s;rw[show n9 1 #[oF .enable]=0 from rfl];refine b6.goes (ph:=.usr nx) trivial 2 ?_
  u_leave0 H.f_add kf.rely hF
  exact qW (λzbU I6=>hT zbU (kf.rely hF I6).1 (kf.rely hF I6).2)
 .obtain⟨V,hV⟩:=aP ((v:Int)+1:Int)
  obtain⟨S,hS⟩:=aP (V*KK:Int);have eS:Ra.wrap ((v:Int)*KK+4294967296)=S:=by rw[zfe,hS,hV];simp only[KK];omega
  have z:st (v+1) 0=.int .u64 S:=by simp[st,hS,hV]
  rw[z];have a1:S/4294967296=V:=by rw[hS];simp only[KK];omega
  have b1:bits .and .u64 S 2147483648=0:=by rw[hS,hV];have:=st_flag (v+1) 0 aC aC;simpa[KK] using this
  have b2:bits .and .u64 S 2147483647=0:=by rw[hS,hV];have:=st_waiters (v+1) 0 aC aC;simpa[KK] using this
  have c1:zpD.wrap V=V:=by rw[zql];omega
  have znI:1<V:=aC;have zq8:V<2147483648:=aC;have q1:(V==1)=false:=pR;have q2:decide (V=1)=false:=decide_eq_false aC;have q3:decide (V<0)=false:=decide_eq_false aC;have q4:decide (0<V)=true:=decide_eq_true aC;have q5:(V==0)=false:=pR;have q6:decide (V=0)=false:=decide_eq_false aC;refine⟨_,(Yo rfl rfl q8 rfl H.f_addU64 (Wb L) (Yb L) (Vv L) .u64 (X4 L) rfl rfl hw.cellSt (hw.thaw 0)).trans (by rw[eS];rfl),rfl,?_⟩;replace hF:F (eL.setCell (stA Wg) (.int .u64 S))/\WgLive L.tWg Wg (eL.setCell (stA Wg) (.int .u64 S)):=⟨kf.wg _ _ _ rfl hF.1,⟨_,_,hw.setSt _⟩⟩;clear hw hS hV eS z
  walk_nrm
  refine b6.goes (ph:=.usr nx) trivial 130 ?_
  iterate 3 (first|u_c dH kf.rely hF|u_c wY kf.rely hF|u_op kf.rely hF)
  u_leave1 H.f_uAdd kf.rely hF
  iterate 13 (first|u_c dH kf.rely hF|u_c dQ kf.rely hF|u_reg kf.rely hF|u_op kf.rely hF|u_skip kf.rely hF)
  u_cnd false kf.rely hF
  iterate 29 (first|u_c dH kf.rely hF|u_c dQ kf.rely hF|u_reg kf.rely hF|u_c pS kf.rely hF|u_op kf.rely hF)
  u_cnd false kf.rely hF
  iterate 7 (first|u_c dH kf.rely hF|u_c dQ kf.rely hF|u_reg kf.rely hF|u_c pS kf.rely hF|u_op kf.rely hF)
  u_cnd false kf.rely hF
  iterate 17 (first|u_c dH kf.rely hF|u_c dQ kf.rely hF|u_reg kf.rely hF|u_c pS kf.rely hF|u_op kf.rely hF|u_skip kf.rely hF)
  u_cnd false kf.rely hF
  iterate 11 (first|u_c dH kf.rely hF|u_c dQ kf.rely hF|u_reg kf.rely hF|u_c pS kf.rely hF|u_op kf.rely hF|u_skip kf.rely hF)
  u_cnd true kf.rely hF
  u_c wY kf.rely hF;refine qW (λIg Bx=>?_);replace hF:=kf.rely hF Bx;clear Bx;refine b6.mark (ph:=.usr nx) trivial rfl (λUh s=>zpo (v:=.tuple #[]) (evs:=#[oF .enable]) rfl H.f_enable (zhp L) (zf4 L) (zfg L) (zer L) (by simp[zw0]) (by simp[oF]) (by simp[oF])) trivial (λUh s=>?_);replace hF:=kf.rely hF s;clear s;rw[show n9 1 #[oF .enable]=0 from rfl];refine b6.goes (ph:=.usr nx) trivial 2 ?_
  u_leave0 H.f_add kf.rely hF
  exact qW (λzbU I6=>hT zbU (kf.rely hF I6).1 (kf.rely hF I6).2)
end
end Go.Mt
namespace Go.Mt
open Go.Conc Go.RowKit Go.Conc.Lib Go.ConcR.Gen
open Go.ConcN.Gen (WgLive.cell0 WgLive.cell1)
open Go.ConcN (st_flag st_waiters)
open Go.ConcR (KK wgBlock WgAt stA smA rd wr mk Payload DC0)
variable [zgB]{L:zd6}
section
variable {Am:Type}{P:bT}{Wg:Nat}{A:jL Am}{Fin:bC->aE->Prop}{F:aE->Prop}
 {b₀:dJ} {a₀:uB} {ops₀:Array aZ} {i₀:Nat} {rest₀:List Nat} {k₀:List dS} {cs:List dJ} {τ:cC} {l nx:Am}
theorem addNegW (H:Xr P L)(qR:A.act l=.done)(kf:H4 L.tWg Wg τ F)(tU:∀w,F w->A.dep l w){qt:Nat}
 (hT:QuitsD P qt 0 (G (b₀.at (a₀.put ((ops₀[i₀]?).bind (·.dst)) (.tuple #[])) (.inRegion ops₀ rest₀::k₀)) cs)) (w:aE) (hF:F w/\WgLive L.tWg Wg w):
 b6 P L.tWg Wg A Fin false (.usr l) 0 τ (G ((base L.add).at ⟨#[.pointer (some ⟨Wg,0,none⟩),.int .i64 (-1),aA,aA,aA,aA,aA,aA,aA,aA,aA,aA,aA,aA,aA,aA,aA,aA,aA,aA,aA,aA,aA,aA,aA,aA,aA,aA,aA,aA,aA,aA,aA,aA,aA,aA,aA,aA,aA,aA,aA,aA,aA,aA,aA,aA,aA,aA,aA,aA,aA,aA,aA,aA,aA,aA,aA,aA,aA,aA,aA,aA,aA,aA,aA,aA,aA,aA,aA,aA,aA,aA,aA,aA,aA,aA,aA,aA,aA,aA,aA,aA,aA,aA,aA,aA,aA,aA,aA,aA,aA,aA,aA,aA,aA,aA,aA,aA,aA,aA,aA,aA,aA,aA,aA,aA,aA,aA,aA,aA,aA,aA,aA,aA,aA,aA,aA],[]⟩ [.code (Mq L)]) (b₀.at a₀ (.inRegion ops₀ (i₀::rest₀)::k₀)::cs)) w:=by
 lib_facts
 simp only[Mq,addFn,Bp];refine b6.goes (ph:=.usr l) trivial 20 ?_
 iterate 11 (first|u_c dH kf.rely hF|u_c dQ kf.rely hF|u_reg kf.rely hF|u_cond true kf.rely hF|u_op kf.rely hF)
 u_conv H.underlying_tWgP H.room_tWg (WgLive.cell0 hF.2).choose_spec kf.rely hF
 refine qW (λaJ vZ=>?_);replace hF:=kf.rely hF vZ;clear vZ;refine b6.usr rfl ?_;unfold mR;rw[qR];refine⟨rfl,rfl,λeL s=>tU _ (kf.rely hF s).1,λeL s=>?_⟩;replace hF:=kf.rely hF s;clear s;refine⟨_,zcp .releaseMerge aQ rfl rfl q8 rfl H.f_relMerge (x_relMerge_n L) (x_relMerge_b L) (x_relMerge_x L) (x_relMerge_f L) zmN,rfl,?_⟩;refine b6.idles (ph:=.rel l) id 10 ?_
 walk_nrm
 iterate 3 (first|u_c dH kf.rely hF|u_c dQ kf.rely hF|u_reg kf.rely hF)
 refine qW (λaJ vZ=>?_);replace hF:=kf.rely hF vZ;clear vZ;refine b6.imark rfl (λeL s=>zbo .disable aQ rfl rfl q8 rfl H.f_disable (zko L) (zkr L) (zis L) (zlG L)) rfl (λeL s=>?_);replace hF:=kf.rely hF s;clear s;rw[show n9 0 #[oF .disable]=1 from rfl];refine b6.idles (ph:=.rel l) id 50 ?_
 walk_nrm
 u_c dH kf.rely hF;u_reg kf.rely hF
 u_defer kf.rely hF
 iterate 8 (first|u_c dH kf.rely hF|u_c dQ kf.rely hF|u_reg kf.rely hF|u_op kf.rely hF)
 u_bub kf.rely hF
 iterate 11 (first|u_c dH kf.rely hF|u_c dQ kf.rely hF|u_reg kf.rely hF|u_c pS kf.rely hF|u_cond false kf.rely hF|u_op kf.rely hF)
 u_call H.f_uAdd (nm_uAdd L) uAddFn kf.rely hF
 iterate 10 (first|u_c dH kf.rely hF|u_c dQ kf.rely hF|u_reg kf.rely hF|u_op kf.rely hF)
 refine qW (λzex zeH=>?_);replace hF:=kf.rely hF zeH;clear zeH;refine b6.mk rfl (.inr ?_);intro aJ lK v wt b9 hv hw;replace hF:=kf.rely hF lK;clear lK;have e0:Ra.wrap (KK+18446744069414584320)=0:=aH;have e1:Ra.wrap (KK+1+18446744069414584320)=1:=aH;rcases zcF v with rfl|zbB<;>(obtain rfl|rfl:wt=0\/wt=1:=by omega)
 .
  replace hw:fQ L.tWg Wg aJ KK 0:=by simpa using hw
  have z:Mt.st 0 0=.int .u64 0:=by simp[Mt.st]
  rw[z];refine⟨_,(Yo rfl rfl q8 rfl H.f_addU64 (Wb L) (Yb L) (Vv L) .u64 (X4 L) rfl rfl hw.cellSt (hw.thaw 0)).trans (by rw[e0];rfl),rfl,aH,λhl=>absurd hl.2 aH,λ_=>⟨qt+89,?_⟩⟩;clear hw
  walk_nrm
  q_val (.int .u64 0)
  q_c dH
  q_c wY
  q_leave1 H.f_uAdd
  q_val (.int .u64 0)
  q_c dH
  q_c dQ
  q_c dQ
  q_reg
  q_val (.int .u64 0)
  q_val (.int .u64 0)
  q_val (.bool false)
  q_val (.bool false)
  q_skip
  q_skip
  q_val (.bool false)
  q_c dH
  q_cond false
  q_c pS
  q_c dQ
  q_reg
  q_val (.int .u64 0)
  q_val (.int .u64 0)
  q_val (.int .i32 0)
  q_val (.int .i32 0)
  q_c dH
  q_c dQ
  q_reg
  q_val (.int .u64 0)
  q_val (.int .u64 0)
  q_val (.int .u32 0)
  q_val (.int .u32 0)
  q_c dH
  q_c dQ
  q_c dQ
  q_reg
  q_val (.bool true)
  q_val (.int .i64 (-1))
  q_val (.bool false)
  q_val (.bool false)
  q_val (.bool false)
  q_skip
  q_skip
  q_skip
  q_skip
  q_val (.bool false)
  q_c dH
  q_cond false
  q_c pS
  q_c dQ
  q_c dQ
  q_reg
  q_val (.int .i32 0)
  q_val (.bool false)
  q_c dH
  q_cond false
  q_c pS
  q_c dQ
  q_c dQ
  q_reg
  q_val (.int .u32 0)
  q_val (.bool false)
  q_val (.bool false)
  q_skip
  q_skip
  q_val (.bool false)
  q_val (.bool false)
  q_skip
  q_skip
  q_skip
  q_skip
  q_val (.bool false)
  q_c dH
  q_cond false
  q_c pS
  q_c dQ
  q_c dQ
  q_reg
  q_val (.int .i32 0)
  q_val (.bool false)
  q_val (.bool false)
  q_val (.int .u32 0)
  q_val (.bool true)
  q_val (.bool true)
  q_c dH
  q_cond true
  q_c wY
  q_enable
  q_leave0 H.f_add
  exact hT
 .
  replace hw:fQ L.tWg Wg aJ (KK+1) 0:=by simpa using hw
  have z:Mt.st 0 1=.int .u64 1:=by simp[Mt.st]
  rw[z];refine⟨_,(Yo rfl rfl q8 rfl H.f_addU64 (Wb L) (Yb L) (Vv L) .u64 (X4 L) rfl rfl hw.cellSt (hw.thaw 0)).trans (by rw[e1];rfl),rfl,aH,λ_=>?_,λhl=>absurd ⟨rfl,rfl⟩ hl⟩;replace hF:F (aJ.setCell (stA Wg) (.int .u64 1))/\WgLive L.tWg Wg (aJ.setCell (stA Wg) (.int .u64 1)):=⟨kf.wg _ _ _ rfl hF.1,⟨_,_,hw.setSt 1⟩⟩;clear hw;refine b6.idles (ph:=.l1 l) id 120 ?_
  walk_nrm
  iterate 3 (first|u_c dH kf.rely hF|u_c wY kf.rely hF|u_op kf.rely hF)
  u_leave1 H.f_uAdd kf.rely hF
  iterate 89 (first|u_c dH kf.rely hF|u_c dQ kf.rely hF|u_reg kf.rely hF|u_c pS kf.rely hF|u_cond false kf.rely hF|u_op kf.rely hF|u_skip kf.rely hF)
  u_call H.f_uLoad (zmn L) uLoadFn kf.rely hF
  iterate 9 (first|u_c dH kf.rely hF|u_c dQ kf.rely hF|u_reg kf.rely hF|u_op kf.rely hF)
  refine qW (λeL Sd=>?_);replace hF:=kf.rely hF Sd;clear Sd;refine b6.mk rfl (.inr ?_);intro Ig s hw;replace hF:=kf.rely hF s;clear s;refine⟨_,zha rfl rfl q8 rfl H.f_loadU64 (zeq L) (zej L) (zeT L) .u64 (zew L) rfl hw.cellSt,rfl,aH,?_⟩;clear hw;refine b6.idles (ph:=.l2 l) id 40 ?_
  walk_nrm
  iterate 3 (first|u_c dH kf.rely hF|u_c wY kf.rely hF|u_op kf.rely hF)
  u_leave1 H.f_uLoad kf.rely hF
  iterate 10 (first|u_c dH kf.rely hF|u_c dQ kf.rely hF|u_reg kf.rely hF|u_c pS kf.rely hF|u_cond false kf.rely hF|u_op kf.rely hF)
  u_call H.f_uStore (nm_uStore L) uStoreFn kf.rely hF
  iterate 5 (first|u_reg kf.rely hF|u_op kf.rely hF)
  refine qW (λeL Bx=>?_);replace hF:=kf.rely hF Bx;clear Bx;refine b6.mk rfl (.inr ?_);intro Ig s hw;replace hF:=kf.rely hF s;clear s;have z0:Mt.st 0 0=.int .u64 0:=by simp[Mt.st]
  rw[z0];refine⟨_,stepG_store_atomic rfl rfl q8 rfl H.f_storeU64 (x_storeU64_n L) (x_storeU64_b L) (x_storeU64_x L) (x_storeU64_f L) rfl rfl hw.cellSt (hw.thaw 0),rfl,aH,?_⟩;replace hF:F (Ig.setCell (stA Wg) (.int .u64 0))/\WgLive L.tWg Wg (Ig.setCell (stA Wg) (.int .u64 0)):=⟨kf.wg _ _ _ rfl hF.1,⟨_,_,hw.setSt 0⟩⟩;clear hw z0;refine b6.idles (ph:=.l3 l) id 50 ?_
  walk_nrm
  u_c dH kf.rely hF;u_c zfS kf.rely hF
  u_leave0 H.f_uStore kf.rely hF
  iterate 24 (first|u_c dH kf.rely hF|u_c dQ kf.rely hF|u_reg kf.rely hF|u_c pS kf.rely hF|u_cond false kf.rely hF|u_cond true kf.rely hF|u_c zfq kf.rely hF|u_c zia kf.rely hF|u_op kf.rely hF)
  refine qW (λeL zeD=>?_);clear zeD hF;refine b6.mk rfl (.inr ⟨mayWake_entry rfl rfl H.f_semrelease (zxc L),λUh s hw=>?_⟩);clear s;refine⟨_,(stepG_semrelease rfl rfl q8 rfl H.f_semrelease (x_semrelease_n L) (zxc L) (x_semrelease_x L) (x_semrelease_f L) zlA hw.cellSm (hw.thaw 1)).trans Mb,rfl,aH,qt+19,?_⟩;clear hw
  walk_nrm
  q_c dH
  q_c zjF
  q_reg
  q_val (.int .u32 1)
  q_val (.int .u32 0)
  q_val (.int .u32 0)
  q_c dH
  q_c zjZ
  q_c dQ
  q_c dQ
  q_reg
  q_val (.int .u32 0)
  q_val (.bool false)
  q_c dH
  q_cond false
  q_exit
  q_c zfS
  q_enable
  q_leave0 H.f_add
  exact hT
 .
  replace hw:fQ L.tWg Wg aJ (((v:Nat)+1)*KK+0) 0:=by simpa using hw
  have z:Mt.st v 0=.int .u64 ((v:Int)*KK+0):=by simp[Mt.st]
  rw[z];have gQ:0<v:=aC;have eS:Ra.wrap (((v:Nat)+1)*KK+0+18446744069414584320)=(v:Int)*KK+0:=by rw[zfe];simp only[KK];omega
  obtain⟨S,hS⟩:=aP ((v:Int)*KK+0:Int);rw[<-hS] at eS⊢;have a1:S/4294967296=(v:Int):=by rw[hS];simp only[KK];omega
  have a2:0<=S/\S<9223372036854775808:=by rw[hS];simp only[KK];omega
  have b1:bits .and .u64 S 2147483648=0:=by rw[hS];have:=st_flag v 0 aC aC;simpa[KK] using this
  have b2:bits .and .u64 S 2147483647=0:=by rw[hS];have:=st_waiters v 0 aC aC;simpa[KK] using this
  clear hS z;refine⟨_,(Yo rfl rfl q8 rfl H.f_addU64 (Wb L) (Yb L) (Vv L) .u64 (X4 L) rfl rfl hw.cellSt (hw.thaw 0)).trans (by rw[eS];rfl),rfl,aH,λhl=>absurd hl.1 aC,λ_=>⟨qt+89,?_⟩⟩;clear hw
  walk_nrm
  q_vn (.int .u64 S)
  q_c dH
  q_c wY
  q_leave1 H.f_uAdd
  q_vn (.int .u64 S)
  q_c dH
  q_c dQ
  q_c dQ
  q_reg
  q_vn (.int .u64 S)
  q_vn (.int .u64 0)
  q_vn (.bool false)
  q_vn (.bool false)
  q_skip
  q_skip
  q_vn (.bool false)
  q_c dH
  q_cond false
  q_c pS
  q_c dQ
  q_reg
  q_vn (.int .u64 S)
  q_vn (.int .u64 (v:Int))
  q_vn (.int .i32 (v:Int))
  q_vn (.int .i32 (v:Int))
  q_c dH
  q_c dQ
  q_reg
  q_vn (.int .u64 S)
  q_vn (.int .u64 0)
  q_vn (.int .u32 0)
  q_vn (.int .u32 0)
  q_c dH
  q_c dQ
  q_c dQ
  q_reg
  q_vn (.bool true)
  q_vn (.int .i64 (-1))
  q_vn (.bool false)
  q_vn (.bool false)
  q_vn (.bool false)
  q_skip
  q_skip
  q_skip
  q_skip
  q_vn (.bool false)
  q_c dH
  q_cond false
  q_c pS
  q_c dQ
  q_c dQ
  q_reg
  q_vn (.int .i32 (v:Int))
  q_vn (.bool false)
  q_c dH
  q_cond false
  q_c pS
  q_c dQ
  q_c dQ
  q_reg
  q_vn (.int .u32 0)
  q_vn (.bool false)
  q_vn (.bool false)
  q_skip
  q_skip
  q_vn (.bool false)
  q_vn (.bool false)
  q_skip
  q_skip
  q_skip
  q_skip
  q_vn (.bool false)
  q_c dH
  q_cond false
  q_c pS
  q_c dQ
  q_c dQ
  q_reg
  q_vn (.int .i32 (v:Int))
  q_vn (.bool true)
  q_vn (.bool true)
  q_skip
  q_skip
  q_vn (.bool true)
  q_c dH
  q_cond true
  q_c wY
  q_enable
  q_leave0 H.f_add
  exact hT
 .
  replace hw:fQ L.tWg Wg aJ (((v:Nat)+1)*KK+1) 0:=by simpa using hw
  have z:Mt.st v 1=.int .u64 ((v:Int)*KK+1):=by simp[Mt.st]
  rw[z];have gQ:0<v:=aC;have eS:Ra.wrap (((v:Nat)+1)*KK+1+18446744069414584320)=(v:Int)*KK+1:=by rw[zfe];simp only[KK];omega
  obtain⟨S,hS⟩:=aP ((v:Int)*KK+1:Int);rw[<-hS] at eS⊢;have a1:S/4294967296=(v:Int):=by rw[hS];simp only[KK];omega
  have a2:0<=S/\S<9223372036854775808:=by rw[hS];simp only[KK];omega
  have b1:bits .and .u64 S 2147483648=0:=by rw[hS];have:=st_flag v 1 aC aC;simpa[KK] using this
  have b2:bits .and .u64 S 2147483647=1:=by rw[hS];have:=st_waiters v 1 aC aC;simpa[KK] using this
  clear hS z;refine⟨_,(Yo rfl rfl q8 rfl H.f_addU64 (Wb L) (Yb L) (Vv L) .u64 (X4 L) rfl rfl hw.cellSt (hw.thaw 0)).trans (by rw[eS];rfl),rfl,aH,λhl=>absurd hl.1 aC,λ_=>⟨qt+89,?_⟩⟩;clear hw
  walk_nrm
  q_vn (.int .u64 S)
  q_c dH
  q_c wY
  q_leave1 H.f_uAdd
  q_vn (.int .u64 S)
  q_c dH
  q_c dQ
  q_c dQ
  q_reg
  q_vn (.int .u64 S)
  q_vn (.int .u64 0)
  q_vn (.bool false)
  q_vn (.bool false)
  q_skip
  q_skip
  q_vn (.bool false)
  q_c dH
  q_cond false
  q_c pS
  q_c dQ
  q_reg
  q_vn (.int .u64 S)
  q_vn (.int .u64 (v:Int))
  q_vn (.int .i32 (v:Int))
  q_vn (.int .i32 (v:Int))
  q_c dH
  q_c dQ
  q_reg
  q_vn (.int .u64 S)
  q_vn (.int .u64 1)
  q_vn (.int .u32 1)
  q_vn (.int .u32 1)
  q_c dH
  q_c dQ
  q_c dQ
  q_reg
  q_vn (.bool true)
  q_vn (.int .i64 (-1))
  q_vn (.bool false)
  q_vn (.bool false)
  q_vn (.bool false)
  q_skip
  q_skip
  q_skip
  q_skip
  q_vn (.bool false)
  q_c dH
  q_cond false
  q_c pS
  q_c dQ
  q_c dQ
  q_reg
  q_vn (.int .i32 (v:Int))
  q_vn (.bool false)
  q_c dH
  q_cond false
  q_c pS
  q_c dQ
  q_c dQ
  q_reg
  q_vn (.int .u32 1)
  q_vn (.bool true)
  q_vn (.bool true)
  q_vn (.int .i64 (-1))
  q_vn (.bool false)
  q_vn (.bool false)
  q_vn (.bool false)
  q_skip
  q_skip
  q_skip
  q_skip
  q_vn (.bool false)
  q_c dH
  q_cond false
  q_c pS
  q_c dQ
  q_c dQ
  q_reg
  q_vn (.int .i32 (v:Int))
  q_vn (.bool true)
  q_vn (.bool true)
  q_skip
  q_skip
  q_vn (.bool true)
  q_c dH
  q_cond true
  q_c wY
  q_enable
  q_leave0 H.f_add
  exact hT
theorem doneW (H:Xr P L)(qR:A.act l=.done)(kf:H4 L.tWg Wg τ F)(tU:∀w,F w->A.dep l w){c:dJ}{cs:List dJ}{qt:Nat}
 (qB:c.mode=.returning) (hT:QuitsD P qt 0 (G c cs)) (w:aE) (hF:F w/\WgLive L.tWg Wg w):
 b6 P L.tWg Wg A Fin false (.usr l) 0 τ (G ((baseD L.done).at ⟨#[.pointer (some ⟨Wg,0,none⟩),aA,aA,aA],[]⟩ [.code (body_done L)]) (c::cs)) w:=by
 lib_facts
 have hA:=@addNegW _ L _ P Wg A Fin F;simp only[body_done,Mq,doneFn,addFn,Bp] at hA⊢;refine b6.goes (ph:=.usr l) trivial 23 ?_;u_reg kf.rely hF;u_op kf.rely hF
 u_in kf.rely hF
 refine goes_call rfl rfl q8 rfl H.f_add (nm_add L) rfl ⟨by u_nil,?_⟩
 walk_nrmf addFn
 refine qW (λaJ vZ=>?_);refine hA H qR kf tU (qt:=qt+3) ?_ _ (kf.rely hF vZ)
 q_c dH
 q_c zfS
 exact QuitsD.leaveD rfl rfl H.f_done rfl qB hT
end
end Go.Mt
namespace Go.Mt
open Go.Conc Go.RowKit Go.Conc.Lib Go.ConcR.Gen
open Go.ConcN.Gen (WgLive.cell0 WgLive.cell1 AnchWN)
open Go.ConcN (st_flag st_waiters)
open Go.ConcR (KK wgBlock WgAt stA smA rd wr mk Payload DC0)
variable [zgB]{L:zd6}
section
variable {Am:Type}{P:bT}{Wg:Nat}{A:jL Am}{Fin:bC->aE->Prop}{F:aE->Prop}
 {b₀:dJ} {a₀:uB} {ops₀:Array aZ} {i₀:Nat} {rest₀:List Nat} {k₀:List dS} {cs:List dJ} {τ:cC} {l nx:Am}
def AtX (W w:aE):Prop:=∃d,w=W.at d
theorem xZ {W w aJ:aE}(h:AtX W w)(r:AtRel w aJ):AtX W aJ:=by
 obtain⟨d,rfl⟩:=h;obtain⟨d',rfl⟩:=r;exact⟨d',rfl⟩
def zcR (A:jL Am)(w:aE):Prop:=∃q ch,A.Inv q ch/\q 0=.waits/\(∀i l,q i≠ .run l)/\∀i l,q i=.over l->A.dep l w
theorem zwx (H:Xr P L)(kf:H4 L.tWg Wg τ F)(Nh:∀(n:Nat) g w,Goes P true AtRel DC0 Fin n g w->Fin g w)
 (hT:∀w,F w->WgLive L.tWg Wg w->zcR A w->∀d,Fin (G (b₀.at (a₀.put ((ops₀[i₀]?).bind (·.dst)) (.tuple #[])) (.inRegion ops₀ rest₀::k₀)) cs) (w.at d))
 {ok:Nat->Prop} {ph:Ph Am} (hl:ph.live)
 (yF:∀g w,g.status=.running->(∀aJ,bX L.tWg Wg τ w aJ->∀v:Nat,ok v->v<2147483648->fQ L.tWg Wg aJ (v*KK) 0->∃g',stepG P true g aJ=.go g' aJ #[rd (stA Wg)]/\g'.status=.running/\
  (v=0->b6 P L.tWg Wg A Fin true .w5 1 τ g' aJ)/\(v≠0->b6 P L.tWg Wg A Fin true (.w2 v) 1 τ g' aJ))->b6 P L.tWg Wg A Fin true ph 1 τ g w)
 (hC:∀v,ok v->∀g w,AnchWN L F Wg (b₀.at a₀ (.inRegion ops₀ (i₀::rest₀)::k₀)) cs g w->b6 P L.tWg Wg A Fin true (.w1 v) 1 τ g w)
 (g:bC) (w:aE) (h:AnchWN L F Wg (b₀.at a₀ (.inRegion ops₀ (i₀::rest₀)::k₀)) cs g w):b6 P L.tWg Wg A Fin true ph 1 τ g w:=by
 lib_facts
 obtain⟨T,rfl,zzU,t0,hF⟩:=h;obtain⟨v0,v1,v2,v3,v4,v5,v6,v7,v8,v9,v10,v11,v12,zJg,zKT,zIs,zKz,zIP,zKP,zK8,v20,v21,zJj,zIz,v24,zIN,zJq,zK7,v28,zJl,v30,v31,zK3,zKr,zIx,zI4,zKp,v37,zJG,zJn,v40,zIA,zKK,zLc,zID,zKL,v46,zKZ,zJP,v49,zJF,v51,zIL,v53,zJt,zI7,zJW,zJs,zJy,v59,zJk,zLb,zJ6,zKc,zKu,zJp,zIX,zKk,zKG,zJL,v70,zKd,v72,zKw,zKX,v75,v76,zJH,zJ0,zJc,v80,zJr,zKC,zIK,rfl⟩:=array84 T zzU;simp only[List.getElem?_toArray,List.getElem?_cons_zero,jM] at t0;subst t0;refine b6.goes hl 30 ?_;simp only[L7,zmd,waitFn,Bp]
 iterate 6 (first|u_c dQ kf.rely hF|u_reg kf.rely hF|u_c zfq kf.rely hF|u_op kf.rely hF)
 u_call H.f_uLoad (zmn L) uLoadFn kf.rely hF
 iterate 9 (first|u_c dH kf.rely hF|u_c dQ kf.rely hF|u_reg kf.rely hF|u_op kf.rely hF)
 refine qW (λzex vZ=>?_);replace hF:=kf.rely hF vZ;clear vZ;refine yF _ _ rfl ?_;intro aJ s v bU hv hw;replace hF:=kf.rely hF s;clear s;rcases zcF v with rfl|zbB
 .
  replace hw:fQ L.tWg Wg aJ 0 0:=by simpa using hw
  refine⟨_,zha (v:=0) rfl rfl q8 rfl H.f_loadU64 (zeq L) (zej L) (zeT L) .u64 (zew L) rfl hw.cellSt,rfl,λ_=>?_,λh=>absurd rfl h⟩;clear hw;refine b6.goes (ph:=.w5) trivial 60 ?_
  walk_nrm
  iterate 3 (first|u_c dH kf.rely hF|u_c wY kf.rely hF|u_op kf.rely hF)
  u_leave1 H.f_uLoad kf.rely hF
  iterate 27 (first|u_c dH kf.rely hF|u_c dQ kf.rely hF|u_reg kf.rely hF|u_cond true kf.rely hF|u_op kf.rely hF)
  refine qW (λzbU I6=>?_);replace hF:=kf.rely hF I6;clear I6;refine b6.mark (ph:=.w5) trivial rfl (λeL s=>zbo .enable aQ rfl rfl q8 rfl H.f_enable (zhp L) (zf4 L) (zfg L) (zer L)) trivial (λeL s=>?_);replace hF:=kf.rely hF s;clear s;rw[show n9 1 #[oF .enable]=0 from rfl];refine b6.goes (ph:=.w5) trivial 30 ?_
  walk_nrm
  iterate 3 (first|u_c dH kf.rely hF|u_reg kf.rely hF|u_op kf.rely hF)
  u_conv H.underlying_tWgP H.room_tWg (WgLive.cell0 hF.2).choose_spec kf.rely hF
  refine qW (λzyh zaO=>?_);replace hF:=kf.rely hF zaO;clear zaO;refine b6.mk rfl (.inr ⟨rfl,λUw s hD=>?_⟩);replace hF:=kf.rely hF s;clear s;have hX:AtX Uw Uw:=⟨Uw.drawn,rfl⟩;refine⟨_,zcp .acquire aQ rfl rfl q8 rfl H.f_acquire (x_acquire_n L) (x_acquire_b L) (x_acquire_x L) (x_acquire_f L) zmN,rfl,?_⟩;refine Nh 30 _ _ ?_
  walk_nrm
  iterate 19 (first|u_c dH xZ hX|u_c dQ xZ hX|u_reg xZ hX|u_c pS xZ hX|u_cond false xZ hX|u_c wY xZ hX|u_op xZ hX|u_skip xZ hX)
  u_leave0 H.f_wait xZ hX
  exact qW (λzyl h=>by obtain⟨zk8,rfl⟩:=xZ hX h;exact hT _ hF.1 hF.2 hD zk8)
 .
  obtain⟨S,hS⟩:∃S:Int,(v:Int)*KK=S:=⟨_,rfl⟩;have a1:S/4294967296=(v:Int):=by rw[<-hS];simp only[KK];omega
  have b1:bits .and .u64 S 2147483648=0:=by rw[<-hS];have:=st_flag v 0 aC aC;simpa[KK] using this
  have b2:bits .and .u64 S 2147483647=0:=by rw[<-hS];have:=st_waiters v 0 aC aC;simpa[KK] using this
  have c1:zpD.wrap (v:Int)=(v:Int):=by rw[zql];omega
  have w1:Ra.wrap (S+1)=S+1:=by rw[zfe,<-hS];simp only[KK];omega
  have q3:decide ((v:Int)<0)=false:=decide_eq_false aC;have q4:decide (0<(v:Int))=true:=decide_eq_true aC;have q5:((v:Int)==0)=false:=pR;have q6:decide ((v:Int)=0)=false:=decide_eq_false aC;rw[hS] at hw;refine⟨_,zha (v:=S) rfl rfl q8 rfl H.f_loadU64 (zeq L) (zej L) (zeT L) .u64 (zew L) rfl hw.cellSt,rfl,λh0=>absurd h0 aC,λ_=>?_⟩;clear hw;refine b6.goes (ph:=.w2 v) trivial 60 ?_
  walk_nrm
  iterate 3 (first|u_c dH kf.rely hF|u_c wY kf.rely hF|u_op kf.rely hF)
  u_leave1 H.f_uLoad kf.rely hF
  iterate 22 (first|u_c dH kf.rely hF|u_c dQ kf.rely hF|u_reg kf.rely hF|u_op kf.rely hF)
  u_cnd false kf.rely hF
  iterate 9 (first|u_c dQ kf.rely hF|u_reg kf.rely hF|u_c pS kf.rely hF|u_op kf.rely hF)
  u_call H.f_uCas (nm_uCas L) uCasFn kf.rely hF
  iterate 11 (first|u_c dH kf.rely hF|u_c dQ kf.rely hF|u_reg kf.rely hF|u_op kf.rely hF)
  refine qW (λzex Sd=>?_);replace hF:=kf.rely hF Sd;clear Sd;refine b6.mk rfl (.inr ?_);intro eL s v' Oc hw;replace hF:=kf.rely hF s;clear s;refine⟨λe=>?_,λe=>?_⟩
  .
   subst e;have z:Mt.st v' 1=.int .u64 (S+1):=by simp[Mt.st,hS]
   rw[hS] at hw;rw[z];refine⟨_,(stepG_cas_hit (v:=S) (n:=S+1) rfl rfl q8 rfl H.f_casU64 (x_casU64_n L) (x_casU64_b L) (x_casU64_x L) .u64 (x_casU64_f L) rfl rfl rfl hw.cellSt (hw.thaw 0)).trans Mb,rfl,?_⟩;refine b6.goes (ph:=.w3) trivial 70 ?_;replace hF:F (eL.setCell (stA Wg) (.int .u64 (S+1)))/\WgLive L.tWg Wg (eL.setCell (stA Wg) (.int .u64 (S+1))):=⟨kf.wg _ _ _ rfl hF.1,⟨_,_,hw.setSt _⟩⟩;clear hw
   walk_nrm
   iterate 3 (first|u_c dH kf.rely hF|u_c wY kf.rely hF|u_op kf.rely hF)
   u_leave1 H.f_uCas kf.rely hF
   iterate 15 (first|u_c dH kf.rely hF|u_c dQ kf.rely hF|u_reg kf.rely hF|u_cond true kf.rely hF|u_op kf.rely hF)
   u_conv H.underlying_tPU32 H.room_tU32 (WgLive.cell1 hF.2).choose_spec kf.rely hF
   refine qW (λzJM ztQ=>?_);replace hF:=kf.rely hF ztQ;clear ztQ;refine b6.mark (ph:=.w3) trivial rfl (λeL s=>zcp .write aQ rfl rfl q8 rfl H.f_raceWrite (x_raceWrite_n L) (x_raceWrite_b L) (x_raceWrite_x L) (x_raceWrite_f L) (ad:=⟨Wg,1,none⟩) (by simp[vT])) ⟨rfl,rfl⟩ (λeL s=>?_);replace hF:=kf.rely hF s;clear s;rw[show n9 1 #[oF (.write ⟨Wg,1,none⟩)]=1 from rfl]
   walk_nrm
   refine b6.goes (ph:=.w3) trivial 70 ?_
   iterate 23 (first|u_c dH kf.rely hF|u_c dQ kf.rely hF|u_reg kf.rely hF|u_c pS kf.rely hF|u_cond false kf.rely hF|u_op kf.rely hF|u_skip kf.rely hF)
   refine qW (λzex Bx=>?_);replace hF:=kf.rely hF Bx;clear Bx;refine b6.mk rfl (.inr ⟨rfl,λIg s=>?_⟩);replace hF:=kf.rely hF s;clear s;refine⟨λ⟨st,hw⟩=>stepG_semacquire_wait rfl rfl rfl H.f_semacquire (zqL L) (ztj L) (zn4 L) (zn5 L) zlA hw.cellSm,λhf=>?_⟩;refine⟨_,(stepG_semacquire (n:=1) rfl rfl q8 rfl H.f_semacquire (zqL L) (ztj L) (zn4 L) (zn5 L) zlA hf.cellSm q8 (hf.thaw 1)).trans Mb,rfl,?_⟩;refine b6.goes (ph:=.w4) trivial 60 ?_;replace hF:F (Ig.setCell (smA Wg) (.int .u32 0))/\WgLive L.tWg Wg (Ig.setCell (smA Wg) (.int .u32 0)):=⟨kf.wg _ _ _ rfl hF.1,⟨_,_,hf.setSm 0⟩⟩;clear hf
   walk_nrm
   iterate 6 (first|u_c dH kf.rely hF|u_c dQ kf.rely hF|u_reg kf.rely hF|u_op kf.rely hF)
   u_call H.f_uLoad (zmn L) uLoadFn kf.rely hF
   iterate 9 (first|u_c dH kf.rely hF|u_c dQ kf.rely hF|u_reg kf.rely hF|u_op kf.rely hF)
   refine qW (λzex zeD=>?_);replace hF:=kf.rely hF zeD;clear zeD;refine b6.mk rfl (.inr λUh s hw=>?_);replace hF:=kf.rely hF s;clear s;refine⟨_,zha (v:=0) rfl rfl q8 rfl H.f_loadU64 (zeq L) (zej L) (zeT L) .u64 (zew L) rfl hw.cellSt,rfl,?_⟩;clear hw;refine b6.goes (ph:=.w5) trivial 60 ?_
   walk_nrm
   iterate 3 (first|u_c dH kf.rely hF|u_c wY kf.rely hF|u_op kf.rely hF)
   u_leave1 H.f_uLoad kf.rely hF
   iterate 7 (first|u_c dH kf.rely hF|u_c dQ kf.rely hF|u_reg kf.rely hF|u_cond true kf.rely hF|u_op kf.rely hF)
   refine qW (λzbU I6=>?_);replace hF:=kf.rely hF I6;clear I6;refine b6.mark (ph:=.w5) trivial rfl (λeL s=>zbo .enable aQ rfl rfl q8 rfl H.f_enable (zhp L) (zf4 L) (zfg L) (zer L)) trivial (λeL s=>?_);replace hF:=kf.rely hF s;clear s;rw[show n9 1 #[oF .enable]=0 from rfl];refine b6.goes (ph:=.w5) trivial 30 ?_
   walk_nrm
   iterate 3 (first|u_c dH kf.rely hF|u_reg kf.rely hF|u_op kf.rely hF)
   u_conv H.underlying_tWgP H.room_tWg (WgLive.cell0 hF.2).choose_spec kf.rely hF
   refine qW (λzyh zaO=>?_);replace hF:=kf.rely hF zaO;clear zaO;refine b6.mk rfl (.inr ⟨rfl,λUw s hD=>?_⟩);replace hF:=kf.rely hF s;clear s;have hX:AtX Uw Uw:=⟨Uw.drawn,rfl⟩;refine⟨_,zcp .acquire aQ rfl rfl q8 rfl H.f_acquire (x_acquire_n L) (x_acquire_b L) (x_acquire_x L) (x_acquire_f L) zmN,rfl,?_⟩;refine Nh 30 _ _ ?_
   walk_nrm
   iterate 9 (first|u_c dH xZ hX|u_c dQ xZ hX|u_reg xZ hX|u_c pS xZ hX|u_cond false xZ hX|u_c wY xZ hX|u_op xZ hX)
   u_leave0 H.f_wait xZ hX
   exact qW (λzyl h=>by obtain⟨zk8,rfl⟩:=xZ hX h;exact hT _ hF.1 hF.2 hD zk8)
  .
   refine⟨_,stepG_cas_miss (v:=(v':Int)*KK) (old:=S) (n:=S+1) rfl rfl q8 rfl H.f_casU64 (x_casU64_n L) (x_casU64_b L) (x_casU64_x L) .u64 (x_casU64_f L) rfl rfl rfl hw.cellSt (hw.thaw 0) (by rw[<-hS];simp only[KK];omega),rfl,?_⟩;clear hw;refine b6.goes (ph:=.w1 v) trivial 20 ?_
   walk_nrm
   iterate 3 (first|u_c dH kf.rely hF|u_c wY kf.rely hF|u_op kf.rely hF)
   u_leave1 H.f_uCas kf.rely hF
   iterate 5 (first|u_c dH kf.rely hF|u_c pS kf.rely hF|u_cond false kf.rely hF|u_c zjZ kf.rely hF|u_c zjF kf.rely hF)
   exact qW (λIg Bx=>hC v bU _ _ ⟨_,rfl,aQ,aQ,kf.rely hF Bx⟩)
theorem zF5 (H:Xr P L)(kf:H4 L.tWg Wg τ F)(Nh:∀(n:Nat) g w,Goes P true AtRel DC0 Fin n g w->Fin g w)
 (hT:∀w,F w->WgLive L.tWg Wg w->zcR A w->∀d,Fin (G (b₀.at (a₀.put ((ops₀[i₀]?).bind (·.dst)) (.tuple #[])) (.inRegion ops₀ rest₀::k₀)) cs) (w.at d)):
 ∀b g w,AnchWN L F Wg (b₀.at a₀ (.inRegion ops₀ (i₀::rest₀)::k₀)) cs g w->b6 P L.tWg Wg A Fin true (.w1 b) 1 τ g w:=by
 intro b
 induction b using zle with
 |ind b ih=>exact zwx H kf Nh hT (ok:=λv=>v<b) trivial (λg w hr h=>b6.mk hr (.inr h)) ih
theorem zc2 (H:Xr P L)(qR:A.act l=.wait)(kf:H4 L.tWg Wg τ F)(Nh:∀(n:Nat) g w,Goes P true AtRel DC0 Fin n g w->Fin g w)
 (hT:∀w,F w->WgLive L.tWg Wg w->zcR A w->∀d,Fin (G (b₀.at (a₀.put ((ops₀[i₀]?).bind (·.dst)) (.tuple #[])) (.inRegion ops₀ rest₀::k₀)) cs) (w.at d))
 (w:aE) (hF:F w/\WgLive L.tWg Wg w):b6 P L.tWg Wg A Fin true (.usr l) 0 τ (G ((base L.wait).at ⟨#[.pointer (some ⟨Wg,0,none⟩),aA,aA,aA,aA,aA,aA,aA,aA,aA,aA,aA,aA,aA,aA,aA,aA,aA,aA,aA,aA,aA,aA,aA,aA,aA,aA,aA,aA,aA,aA,aA,aA,aA,aA,aA,aA,aA,aA,aA,aA,aA,aA,aA,aA,aA,aA,aA,aA,aA,aA,aA,aA,aA,aA,aA,aA,aA,aA,aA,aA,aA,aA,aA,aA,aA,aA,aA,aA,aA,aA,aA,aA,aA,aA,aA,aA,aA,aA,aA,aA,aA,aA,aA],[]⟩ [.code (zmd L)]) (b₀.at a₀ (.inRegion ops₀ (i₀::rest₀)::k₀)::cs)) w:=by
 have aX:∀g w,AnchWN L F Wg (b₀.at a₀ (.inRegion ops₀ (i₀::rest₀)::k₀)) cs g w->b6 P L.tWg Wg A Fin true (.usr l) 1 τ g w:=λg w h=>by
  refine zwx H kf Nh hT (ok:=λ_=>True) (ph:=.usr l) trivial (λg w hr h=>b6.usr hr ?_) (λv _=>zF5 H kf Nh hT v) g w h;unfold mR;rw[qR];exact λaJ s v hv hw=>h aJ s v trivial hv hw
 lib_facts
 simp only[zmd,waitFn,Bp];refine b6.goes (ph:=.usr l) trivial 3 ?_
 iterate 3 (first|u_c dQ kf.rely hF|u_reg kf.rely hF|u_cond true kf.rely hF)
 refine qW (λaJ vZ=>?_);replace hF:=kf.rely hF vZ;clear vZ;refine b6.mark (ph:=.usr l) trivial rfl (λeL s=>zbo .disable aQ rfl rfl q8 rfl H.f_disable (zko L) (zkr L) (zis L) (zlG L)) trivial (λeL s=>?_);replace hF:=kf.rely hF s;clear s;rw[show n9 0 #[oF .disable]=1 from rfl]
 walk_nrm
 refine b6.goes (ph:=.usr l) trivial 3 ?_
 iterate 3 (first|u_c dH kf.rely hF|u_c zfq kf.rely hF|u_c zia kf.rely hF)
 exact qW (λIg Sd=>aX _ _ ⟨_,rfl,aQ,aQ,kf.rely hF Sd⟩)
end
end Go.Mt
namespace Go.Mt
open Go.Conc Go.Tt
def Iz:Nat->aF->Bool
 |0,_=>false
 |n+1,v=>match v with
  | .bool _| .int _ _| .string _| .nilFunc| .nilIface| .pointer none| .slice none _ _| .map none| .chan none=>true
  | .agg xs| .tuple xs=>xs.all (Iz n)
  |_=>false
variable {S:aN->Prop}
theorem zAl {K R:Pr}:∀(n:Nat) (v:aF),Iz n v=true->VR S K R v v:=by
 intro n
 induction n with
 |zero=>intro v h;cases h
 |succ n ih=>
  intro v h;have arr:∀xs:Array aF,xs.all (Iz n)=true->bL S K R xs xs:=λxs hx=>⟨rfl,λi a b h1 h2=>by
   rw[h1] at h2;obtain rfl:=cJ h2;rw[Wc] at hx;exact ih a (hx a (zaX h1))⟩
  cases v with
  |bool b=>exact .bool b
  |int k m=>exact .int k m
  |string s=>exact .string s
  |nilFunc=>exact .nilFunc
  |nilIface=>exact .nilIface
  |pointer a=>cases a with|none=>exact .pointer .none|some a=>simp[Iz] at h
  |slice a m c=>cases a with|none=>exact .slice .none|some a=>simp[Iz] at h
  |map a=>cases a with|none=>exact .map .none|some a=>simp[Iz] at h
  |chan a=>cases a with|none=>exact .chan .none|some a=>simp[Iz] at h
  |agg xs=>exact .agg rfl (arr xs (by simpa[Iz] using h)).2
  |tuple xs=>exact .tuple rfl (arr xs (by simpa[Iz] using h)).2
  |_=>simp[Iz] at h
def vA (v:aF):Prop:=∀(S:aN->Prop) (K R:Pr),VR S K R v v
variable {z:aF}
theorem vA.cells (h:vA z):∀x∈z.cells,vA x:=λx hx S K R=>by
 obtain⟨i,hi,rfl⟩:=zuu.1 hx;exact(h S K R).cells.2 i _ _ (qA hi) (qA hi)
theorem vA.agg {xs:Array aF}(h:∀x∈xs,vA x):vA (.agg xs):=λS K R=>.agg rfl λi v v' h1 h2=>by
 rw[h1] at h2;obtain rfl:=cJ h2;exact h v (zaX h1) S K R
def zla (info:aM->Option xB):Prop:=∀t i z,info t=some i->i.zero=some z->vA z
theorem zBT {α β:Type}{P:β->Prop}{f:α->β->Option (ForInStep β)}(hf:∀a b r,P b->f a b=some r->P (match r with| .yield b=>b| .done b=>b)):∀(l:List α) (b b':β),P b->forIn l b f=some b'->P b':=by
 intro l
 induction l with
 |nil=>simp
 |cons a l ih=>
  intro b b' hb h;simp only[List.forIn_cons,bind,Eh] at h;obtain⟨r,h1,h2⟩:=h;have:=hf a b r hb h1
  cases r with
  |yield c=>grind
  |done c=>simp_all
variable {info:aM->Option xB}{fs:Array Field}{i:xB}
theorem zEP (hI:zla info)(h:zw2 info fs=some i)(hz:i.zero=some z):vA z:=by
 unfold zw2 at h;simp only[bind,pure,Eh] at h;obtain⟨a,h1,h2⟩:=h;rw[<-Array.forIn_toList] at h1;have key:∀xs,a.2.2.2.2.2.2.2.1=some xs->∀x∈xs,vA x:=by
  refine zBT (P:=λs=>∀xs,s.2.2.2.2.2.2.2.1=some xs->∀x∈xs,vA x) (λf s r hP h=>?_) _ _ _ (λxs hx=>by simp only[jM] at hx;subst hx;simp) h1;simp only[Eh] at h;obtain⟨j,hj,h⟩:=h;have key:∀xs,(s.2.2.2.2.2.2.2.1.bind λa=>j.zero.bind λb=>some (a++b.cells))=some xs->∀x∈xs,vA x:=by
   intro xs hx;simp only[Eh,jM] at hx;obtain⟨u,h3,v,h4,rfl⟩:=hx;intro x hm;rcases Array.mem_append.1 hm with hm|hm
   .exact hP u h3 x hm
   .exact(hI _ j v hj h4).cells x hm
  repeat' (first|split at h|(simp only[Eh] at h;obtain⟨_,h0,h⟩:=h))
  all_goals first
   |(cases h0;done)
   |(simp only[jM] at h;subst h;exact key)
   |(simp only[jM] at h;subst h;intro xs hx;cases hx)
 split at h2<;>(simp only[jM] at h2;subst h2;simp only at hz;obtain⟨xs,h3,rfl⟩:=zW.1 hz;exact vA.agg (key xs h3))
theorem zGA (hI:zla info){d:TypeDesc}(h:zx2 info d=some i)(hz:i.zero=some z):vA z:=by
 have hw:∀(d:TypeDesc) (s:String) (v:aF) (b:Bool) (n:Nat),vA v->∀z,(zrc d s v b n).zero=some z->vA z:=λd s v b n hv z hz=>by
  simp only[zrc,jM] at hz;exact hz▸hv
 have p0:vA (.pointer none):=λ_ _ _=>.pointer .none;have s0:vA (.slice none 0 0):=λ_ _ _=>.slice .none;have m0:vA (.map none):=λ_ _ _=>.map .none;have c0:vA (.chan none):=λ_ _ _=>.chan .none;have f0:vA .nilFunc:=λ_ _ _=>.nilFunc;unfold zx2 at h
 cases d with
 |pointer e=>
  simp only[bind,pure,Eh] at h;obtain⟨j,_,h⟩:=h;split at h
  .cases h
  .split at h
   .cases h
   .simp only[Eh,jM] at h
    obtain⟨_,_,rfl⟩:=h;exact hw _ _ _ _ _ p0 z hz
  .simp only[Eh,jM] at h
   obtain⟨_,_,rfl⟩:=h;exact hw _ _ _ _ _ p0 z hz
 |slice e=>
  simp only[bind,pure,Eh,jM] at h;obtain⟨_,_,_,_,rfl⟩:=h;exact hw _ _ _ _ _ s0 z hz
 |map k e=>
  simp only[bind,pure,Eh,jM] at h;obtain⟨_,_,_,_,_,_,_,_,rfl⟩:=h;exact hw _ _ _ _ _ m0 z hz
 |chan dir e=>
  simp only[bind,pure,Eh,jM] at h;obtain⟨_,_,_,_,rfl⟩:=h;exact hw _ _ _ _ _ c0 z hz
 |func ps rs v=>
  simp only[bind,pure,Eh,jM] at h;obtain⟨_,_,rfl⟩:=h;exact hw _ _ _ _ _ f0 z hz
 |array n e=>
  simp only[bind,pure,Eh,jM] at h;obtain⟨j,hj,_,_,rfl⟩:=h;simp only at hz;split at hz
  .cases hz
  .split at hz
   .simp only[jM] at hz;subst hz;exact vA.agg aQ
   .obtain⟨u,hu,rfl⟩:=zW.1 hz
    refine vA.agg λx hx=>?_;simp only[Array.mem_flatten,Array.mem_replicate] at hx;obtain⟨xs,⟨_,rfl⟩,hx⟩:=hx;exact(hI _ j u hj hu).cells x hx
 |struct fs=>exact zEP hI h hz
 |_=>cases h
def Re (p:bT):Bool:=(iX p.types.size).all λt=>match p.info? t with|some i=>(match i.zero with|some z=>Iz 12 z|none=>true)|none=>true
def zjA:List ResultVar->Bool
 |[]=>true
 |[_]=>true
 |[_,_]=>true
 |[_,_,_]=>true
 |[_,_,_,_]=>true
 |_=>false
variable {l:List ResultVar}
theorem zBp (h:zjA l=true):Ia l:=by
 unfold zjA at h;split at h
 .exact .inl rfl
 .exact .inr (.inl ⟨_,rfl⟩)
 .exact .inr (.inr (.inl ⟨_,_,rfl⟩))
 .exact .inr (.inr (.inr (.inl ⟨_,_,_,rfl⟩)))
 .exact .inr (.inr (.inr (.inr ⟨_,_,_,_,rfl⟩)))
 .cases h
def fnFit (p:bT)(fs gs:aN->Bool)(f:aN):Bool:=
 match p.funcs[f]? with
 |some fn=>!(fn.name== "runtime.NumGoroutine")&&zjA fn.results.toList&&(match fn.body with|some c=>pJ p ⟨fs,gs,true⟩ c|none=>false)
 |none=>false
variable {p:bT}{f:aN}
theorem fnFit_ok {fs gs:aN->Bool}(h:fnFit p fs gs f=true):∃fn c,p.funcs[f]? =some fn/\(fn.name== "runtime.NumGoroutine")=false/\fn.body=some c/\pJ p ⟨fs,gs,true⟩ c=true/\Ia fn.results.toList:=by
 unfold fnFit at h
 cases hf:p.funcs[f]? with
 |none=>simp_all
 |some fn=>
  rw[hf] at h;simp only[iY,zbf] at h
  cases hb:fn.body with
  |none=>simp_all
  |some c=>rw[hb] at h;exact⟨fn,c,rfl,h.1.1,hb,h.2,zBp h.1.2⟩
variable {t:aM}
theorem zsM (h:Re p=true)(ht:t<p.types.size)(hi:p.types[t]? =some i)(hz:i.zero=some z):vA z:=by
 unfold Re at h;rw[uD] at h;have:=h t (D4.2 ht);have e:p.info? t=some i:=by show zmm p.toTables t=some i;unfold zmm;rw[if_pos ht];exact hi
 rw[e] at this;simp only[hz] at this;exact λS K R=>zAl 12 z this
theorem zDn (h:Re p=true):∀n,zla (zo3 p.toTables n):=by
 intro n
 induction n with
 |zero=>intro t i z hi;cases hi
 |succ n ih=>
  intro t i z hi hz;unfold zo3 at hi;split at hi
  .next ht=>exact zsM h ht hi hz
  .obtain⟨d,_,hd⟩:=Eh.1 hi
   exact zGA ih hd hz
theorem zpv (h:Re p=true){K R:Pr}(hi:p.info? t=some i)(hz:i.zero=some z):VR S K R z z:=by
 have mJ:=hi;unfold zmm at mJ;split at mJ
 .next ht=>exact zsM h ht mJ hz S K R
 .exact zDn h Made.depth t i z mJ hz S K R
def n7 (l:List Nat)(f:aN):Bool:=l.contains f
theorem P8 {l:List Nat}(h:n7 l f=true):f∈l:=by simpa[n7] using h
theorem zoT {gl fl:List Nat}(hz:Re p=true)(h:gl.all (fnFit p (n7 fl) (n7 gl))=true)(hd:fl.all (λf=>gl.contains f)=true):vQ (PS p (n7 gl)) (n7 fl) where
 zero:=λK R t i z hi Jb=>zpv hz hi Jb
 fn:=λf hf _=>by
  obtain⟨fn,c,h1,h2,h3,h4,_⟩:=fnFit_ok (uD.1 h f (P8 hf));exact⟨fn,c,h1,h1,h2,h3,h4⟩
 opq:=λf _ ho=>by cases ho
 low:=λf ho=>by cases ho
 dyn:=λ_ f hf=>uD.1 hd f (P8 hf)
 guard:=λt=>rfl
 res:=λf hf _ fn I5=>by
  obtain⟨fn',c,h1,h2,h3,h4,h5⟩:=fnFit_ok (uD.1 h f (P8 hf));have Ej:=h1;rw[Ej] at I5;obtain rfl:=cJ I5;exact h5
 follows:=rfl
 none:=λ_=>rfl
def zgD (p:bT)(fs gs:aN->Bool)(f:aN):Bool:=
 match p.funcs[f]? with
 |some fn=>!(fn.name== "runtime.NumGoroutine")&&(match fn.body with|some c=>!(pJ p ⟨fs,gs,true⟩ c)|none=>false)
 |none=>false
theorem lv_of {ol al gl fl:List Nat}(hz:Re p=true)(h1:gl.all (fnFit p (n7 fl) (n7 gl))=true)(h2:al.all (λf=>ol.contains f||fnFit p (n7 fl) (n7 al) f)=true)(h3:ol.all (zgD p (n7 fl) (n7 gl))=true)(h4:ol.all (zgD p (n7 fl) (n7 al))=true)(hd:fl.all (λf=>gl.contains f)=true)(Bv:fl.all (λf=>al.contains f)=true):
 Lv p (n7 ol) (n7 al) (n7 gl) (n7 fl) where
 fit:={
  zero:=λK R t i z hi Jb=>zpv hz hi Jb
  fn:=λf hf ho=>by
   have:=uD.1 h2 f (P8 hf);have yO:ol.contains f=false:=ho;rw[yO,zpt] at this;obtain⟨fn,c,h1,h2,h3,h4,_⟩:=fnFit_ok this;exact⟨fn,c,h1,h1,h2,h3,h4⟩
  opq:=λf _ ho=>by
   have:=uD.1 h4 f (P8 ho);unfold zgD at this
   cases hf:p.funcs[f]? with
   |none=>simp_all
   |some fn=>grind
  low:=λf ho=>by cases ho
  dyn:=λ_ f hf=>uD.1 Bv f (P8 hf)
  guard:=λt=>rfl
  res:=λf hf ho fn I5=>by
   have:=uD.1 h2 f (P8 hf);have yO:ol.contains f=false:=ho;rw[yO,zpt] at this;obtain⟨fn',c,h1,h2,h3,h4,h5⟩:=fnFit_ok this;have Ej:(PL p (n7 ol) (n7 al)).c.funcs[f]? =some fn':=h1;rw[Ej] at I5;obtain rfl:=cJ I5;exact h5
  follows:=rfl}
 fit₁:=zoT hz h1 hd
 nofit:=λf ho=>by
  have:=uD.1 h3 f (P8 ho);unfold zgD at this
  cases hf:p.funcs[f]? with
  |none=>simp_all
  |some fn=>grind
end Go.Mt
namespace Go.Mt
open Go.Conc Go.Tt
open Go.ConcR (KK wgBlock WgAt stA smA rd wr DC0)
section
variable {p:bT}
def wG (p:bT):Frame:={(default:dJ) with fn:=p.funcs.size,defers:=[],mode:=.panicking [goexitEntry]}
variable {f:aN}{fn:Qu}
theorem zt6 {c:Code}{cap args:Array aF}(hf:p.funcs[f]? =some fn)(hn:(fn.name== "runtime.NumGoroutine")=false)(hb:fn.body=some c)(w:aE):
 stepG p false (born p {target:=.fn (.func f) cap,args:=args}) w=.go (G ((baseD f).at ⟨(args++cap)++oC (fn.ntmps-(args++cap).size) aA,[]⟩ [.code c]) [wG p]) w #[]:=by
 have yB:¬fn.name= "runtime.NumGoroutine" :=by simpa using hn
 simp[born,stepG,unwind,callDeferred,invoke,callFunc,hf,yB,hb,seen,Ct,G,Hu,dJ.at,baseD,wG]
theorem zCE (hf:p.funcs[f]? =some fn)(hr:fn.results=#[])(T:Array aF)(todo:List dS):QuitsD p 2 0 (G {(baseD f).at ⟨T,[]⟩ todo with mode:=.returning} [wG p]):=by
 refine zuO (g':=G (wG p) []) rfl (λw=>?_) ?_
 .simp[G,stepG,unwind,doReturn,results,dJ.at,baseD,wG,hf,hr,seen,Ct,goexitEntry]
 refine zuO (g':={G (wG p) [] with status:=.finished}) rfl (λw=>?_) ⟨rfl,rfl⟩;simp[G,stepG,unwind,wG,goexitEntry,dJ.catches];rfl
end
section
variable [zgB]{Lk:zd6}
open Go.Conc.Lib Go.ConcR.Gen
def H4.triv (ty:aM)(Wg:Nat)(τ:cC):H4 ty Wg τ (λ_=>True):=⟨λ_ _ _ _=>trivial,λ_ _ _ _ _=>trivial⟩
end
end Go.Mt
namespace Go.Mt
open Go.Conc Go.Tt
open Go.ConcR (KK wgBlock WgAt stA smA rd wr)
section
variable {S:aN->Prop}{K K' R R':Pr}{G:Gp}{St St':Nat->Prop}{w W:aE}
def Pr.or_le {K K' R R':Pr}(hK:K.le K')(hR:R.le R'):(R.or K).le (R'.or K'):=λa b x=>x.imp (hR a b) (hK a b)
theorem ziv (hK:K.le K'){v v':aF}(x:VR S K R v v'):VR S K' R v v':=by
 induction x with
 |bool b=>exact .bool b
 |int k n=>exact .int k n
 |string s=>exact .string s
 |nilFunc=>exact .nilFunc
 |nilIface=>exact .nilIface
 |pointer x=>exact .pointer x
 |slice x=>exact .slice x
 |map x=>exact .map x
 |chan x=>exact .chan (x.mono (Pr.or_le hK (.refl _)))
 |func s e1 _ e2 _ i1 i2=>exact .func s e1 i1 e2 i2
 |iface _ ih=>exact .iface ih
 |agg e _ ih=>exact .agg e ih
 |tuple e _ ih=>exact .tuple e ih
 |junk h=>exact .junk h
def bL.monoK (hK:K.le K'){xs bV:Array aF}(x:bL S K R xs bV):bL S K' R xs bV:=⟨x.1,λi v v' h1 h2=>ziv hK (x.2 i v v' h1 h2)⟩
theorem Cb.monoK (hK:K.le K'){e e':MapEntry}(x:Cb S K R e e'):Cb S K' R e e':=by cases x with|mk a b=>exact .mk (ziv hK a) (ziv hK b)
variable {o:Obj}
theorem oK.monoK (hK:K.le K'){o':Obj}(x:oK S K R o o'):oK S K' R o o':=by
 cases x with
 |cells a b=>exact .cells (bL.monoK hK a) b
 |map a=>exact .map ⟨a.1,λi e e' h1 h2=>Cb.monoK hK (a.2 i e e' h1 h2)⟩
 |chan a=>exact .chan (bL.monoK hK a)
 |stringIter s p=>exact .stringIter s p
 |number a=>exact .number a
 |mapIter a=>exact .mapIter a
variable {P:dB}
def pI.monoK {fs:aN->Bool}(hK:K.le K'){m m':Fm}(x:pI P fs K R m m'):pI P fs K' R m m':=⟨x.fn,x.todo,x.ret,bL.monoK hK x.tmps,x.fit,x.infs⟩
theorem uP.monoK {fs:aN->Bool}(hK:K.le K'){ms ms':List Fm}(x:uP P fs K R ms ms'):uP P fs K' R ms ms':=by
 induction x with
 |nil=>exact .nil
 |cons a b _ ih=>exact .cons (pI.monoK hK a) b ih
theorem cV.real {W':aE}(h:cV S K R G St w W)(hk:∀a b,R a b->W'.heap[b]? =W.heap[b]?)(hs:W.heap.size<=W'.heap.size):cV S K R G St w W':=by
 refine⟨h.inj,h.inj',λa b x=>⟨(h.lt a b x).1,jW (h.lt a b x).2 hs⟩,h.low,⟨h.gle.1,eM h.gle.2 hs⟩,λa b x=>?_,h.rest,h.st,h.np,h.tb⟩;obtain⟨o,o',h1,h2,h3⟩:=h.cont a b x
 grind
def put (w:aE)(b:Nat)(o:Obj):World:={w with heap:=w.heap.setIfInBounds b o}
theorem De (w:aE)(o:Obj):(w.alloc o).heap[w.heap.size]? =some o:=by unfold zqN;simp
theorem C4 {w:aE}{a:Nat}(h:a<w.heap.size):(w.alloc o).heap[a]? =w.heap[a]? :=by unfold zqN;grind
theorem rC (w:aE)(o:Obj):(w.alloc o).heap.size=w.heap.size+1:=by simp_all
theorem cV.pushK (h:cV S K R G St w W){N:Nat}(hN:N<W.heap.size)(hf:∀a,¬(R.or K) a N):cV S (K.add w.heap.size N) R G St (w.alloc o6) W:=by
 have aU:∀a b,R.or K a b->a≠w.heap.size:=λa b x=>Nat.ne_of_lt (h.lt a b x).1;have lift:∀a,(∃b,R.or K a b)->(w.alloc o6).heap[a]? =w.heap[a]? :=λa ⟨b,x⟩=>C4 (h.lt a b x).1;refine⟨?_,?_,?_,h.low,⟨by rw[rC];exact Nat.le_succ_of_le h.gle.1,h.gle.2⟩,λa b x=>?_,?_,λa x=>?_,h.np.push (by unfold o6;simp),h.tb⟩
 .rintro a b c (x|x|⟨rfl,rfl⟩) (y|y|⟨e,rfl⟩)
  .exact h.inj a b c (.inl x) (.inl y)
  .exact h.inj a b c (.inl x) (.inr y)
  .exact absurd e (aU a b (.inl x))
  .exact h.inj a b c (.inr x) (.inl y)
  .exact h.inj a b c (.inr x) (.inr y)
  .exact absurd e (aU a b (.inr x))
  .exact absurd rfl (aU _ c (.inl y))
  .exact absurd rfl (aU _ c (.inr y))
  .rfl
 .rintro a b c (x|x|⟨rfl,rfl⟩) (y|y|⟨rfl,e⟩)
  .exact h.inj' a b c (.inl x) (.inl y)
  .exact h.inj' a b c (.inl x) (.inr y)
  .exact absurd (e▸ .inl x) (hf a)
  .exact h.inj' a b c (.inr x) (.inl y)
  .exact h.inj' a b c (.inr x) (.inr y)
  .exact absurd (e▸ .inr x) (hf a)
  .exact absurd (.inl y) (hf b)
  .exact absurd (.inr y) (hf b)
  .rfl
 .rintro a b (x|x|⟨rfl,rfl⟩)
  .exact⟨by rw[rC];exact zr8 (h.lt a b (.inl x)).1,(h.lt a b (.inl x)).2⟩
  .exact⟨by rw[rC];exact zr8 (h.lt a b (.inr x)).1,(h.lt a b (.inr x)).2⟩
  simp_all
 .obtain⟨o,o',h1,h2,h3⟩:=h.cont a b x
  exact⟨o,o',(lift a ⟨b,.inl x⟩).trans h1,h2,oK.monoK (Pr.le_add _ _ _) h3⟩
 .rintro a b (x|⟨rfl,rfl⟩) hn
  .exact(lift a ⟨b,.inr x⟩).trans (h.rest a b x hn)
  .exact De w o6
 .obtain⟨⟨b,y⟩,c,T,hi,h1,h2⟩:=h.st a x
  exact⟨⟨b,y⟩,c,T,hi,(lift a ⟨b,.inl y⟩).trans h1,h2⟩
end
structure IM (W0:aE)(St:Nat->Prop)(Shun:Loc->Prop)(Wg:Nat)(SS:Nat->Prop)(R:Pr)(τ:cC)(W:aE):Prop where
 kp:Kp W0 R St W
 sh:Sh W0.heap.size Shun R W
 still:τ.still=SS
 wg:Wg<W.heap.size
 own:∀b,τ.own b->b≠Wg
 rel:∀a b,R a b->b≠Wg
section
variable {L:Type}{C:Cx L}{W0:aE}{St:Nat->Prop}{Shun:Loc->Prop}{SS:Nat->Prop}
theorem im_ok (hC:C.I=IM W0 St Shun C.Wg SS)(aX:∀a,St a->C.St a)(vG:∀b,b<W0.heap.size->SS b):eZ C:=by
 refine⟨λR τ W aY h s=>?_,λR τ W R1 W1 h ht hs=>?_⟩<;>rw[hC] at*
 .refine⟨⟨s.os.trans h.kp.os,s.tape.trans h.kp.tape,s.output.trans h.kp.output,eM h.kp.size s.size,λb hb=>(s.keep b (.inr (by rw[h.still];exact vG b hb))).trans (h.kp.block b hb),h.kp.old⟩,⟨h.sh.old,h.sh.rel,λl b hl hb=>h.sh.new l b hl (eM s.size hb)⟩,h.still,jW h.wg s.size,h.own,h.rel⟩
 .refine⟨⟨hs.os.trans h.kp.os,hs.tape.trans h.kp.tape,hs.output.trans h.kp.output,eM h.kp.size hs.size,λb hb=>?_,λa b x hb=>?_⟩,⟨h.sh.old,λa b x l hl=>?_,λl b hl hb=>h.sh.new l b hl (eM hs.size hb)⟩,h.still,jW h.wg hs.size,λb hb=>?_,λa b x=>?_⟩
  .rw[hs.keep b (jW hb h.kp.size) (λa x=>aX a (h.kp.old a b x hb))]
   exact h.kp.block b hb
  .rcases hs.new a b x with y|⟨y,_⟩
   .exact h.kp.old a b y hb
   .have:=h.kp.size;omega
  .rcases hs.new a b x with y|⟨y,_⟩
   .exact h.sh.rel a b y l hl
   .exact h.sh.new l b hl y
  .rcases hb with hb|⟨hb,_⟩
   .exact h.own b hb
   .have:=h.wg;omega
  .rcases hs.new a b x with y|⟨y,_⟩
   .exact h.rel a b y
   .have:=h.wg;omega
def zax (W:aE)(a:Addr)(v:aF){b:Nat}(h:b≠a.block):(W.setCell a v).heap[b]? =W.heap[b]? :=(Yq W a v).block b h
def Sj (W:aE)(a:Addr)(v:aF):(W.setCell a v).heap.size=W.heap.size:=(Yq W a v).size
theorem IM.cell {R:Pr}{τ:cC}{W:aE}{Wg:Nat}(h:IM W0 St Shun Wg SS R τ W)(hW:W0.heap.size<=Wg){a:Addr}(ha:a.block=Wg)(v:aF):IM W0 St Shun Wg SS R τ (W.setCell a v):=by
 have hA:=Yq W a v;refine⟨⟨hA.os.trans h.kp.os,hA.tape.trans h.kp.tape,hA.output.trans h.kp.output,by rw[Sj];exact h.kp.size,λb hb=>(zax W a v aC).trans (h.kp.block b hb),h.kp.old⟩,⟨h.sh.old,h.sh.rel,λl b hl hb=>h.sh.new l b hl tJ⟩,h.still,by rw[Sj];exact h.wg,h.own,h.rel⟩
end
end Go.Mt
namespace Go.Mt
open Go.Conc Go.Tt
open Go.ConcR (KK wgBlock WgAt stA smA rd wr DC0)
section
variable {L:Type}{C:Cx L}{l:L}
variable {fn:aN}{tmps:Array aF}{k:List dS}{w:aE}{ops:Array aZ}
theorem BO.regs (hI:eZ C){id:Nat}(is:List Nat)(hr:iX ops.size=is)(h:BO C l ⟨fn,tmps,.inRegion ops is::k,false⟩ w):BO C l ⟨fn,tmps,.code (.region id ops false)::k,false⟩ w:=BO.reg hI (by rw[hr];exact h)
def Cx.dfr (C:Cx L)(d:Gr):Cx L:={C with ds:=⟨d::C.ds.ds,C.ds.kd,C.ds.ok⟩}
def eZ.dfr (hI:eZ C)(d:Gr):eZ (C.dfr d):=⟨hI.suf,hI.step⟩
variable {p:bT}{i:Nat}{rest:List Nat}{o:aZ}{d:Gr}
theorem zEo {main:Bool}{b:dJ}{a:uB}{cs:List dJ}(ho:ops[i]? =some o)(hw:dG o (dO ops a.tmps)=true)(hk:b.kind≠ .early)(zju:o.dst=none)
 (hr:(aO a.eval o).run p w=.ok (.defer d) w) (he:(aO a.eval o).events p w #[]=#[]):
 stepG p main (G (b.at a (.inRegion ops (i::rest)::k)) cs) w=.go (G (b.at ⟨a.tmps,d::a.defers⟩ (.inRegion ops rest::k)) cs) w #[]:=by
 have Az:(b.at ⟨a.tmps,d::a.defers⟩ (.inRegion ops (i::rest)::k)).finish aA=b.at ⟨a.tmps,d::a.defers⟩ (.inRegion ops rest::k):=by rw[zsV,ho];simp[zju,b7]
 have cU:(b.kind==CallKind.early)=false:=by simpa using hk
 rw[stepG_oper ho hw,<-Az];simp[stepG.apply,hr,he,G,dJ.at,cU,Ct,Df]
theorem BO.defer (hI:eZ C)(ho:ops[i]? =some o)(b9:dG o (dO ops tmps)=true)(zju:o.dst=none)
 (hx:∀R w W bS,C.Rel R w W->bL (SF C.fs) C.K R tmps bS->(∀x∈C.pin,bS.getD x.1 aA=x.2)->∀aY,(aO (bJ bS C.ds.ds).eval o).run C.p aY=.ok (.defer d) aY/\(aO (bJ bS C.ds.ds).eval o).events C.p aY #[]=#[])
 (h:BO (C.dfr d) l ⟨fn,tmps,.inRegion ops rest::k,false⟩ w):BO C l ⟨fn,tmps,.inRegion ops (i::rest)::k,false⟩ w:=by
 intro R W m' τ hw hm ht hi;obtain⟨fn',bS,y9,zI⟩:=m';obtain rfl:=hm.fn;obtain rfl:=hm.todo;obtain rfl:=hm.ret;rw[mX];refine Cx.silent rfl rfl (g':=G ((C.ds.base fn).at ⟨bS,d::C.ds.ds⟩ (.inRegion ops rest::k)) C.base) (λaY s=>?_) λaY s=>?_
 .obtain⟨h1,h2⟩:=hx R w W bS hw hm.tmps hm.pins aY
  exact zEo ho (J2 (C:=C) hm.tmps b9) C.ds.ok zju h1 h2
 .have:=h R aY ⟨fn,bS,.inRegion ops rest::k,false⟩ τ (Cx.Rel.suf (C:=C) hw ht s) ⟨rfl,rfl,rfl,hm.tmps,hm.pins⟩ ht (hI.suf _ _ _ _ hi s)
  rw[mX] at this;exact this
variable {ρ:cI->aF}
theorem zui {f:aN}{zn0:Array cI}{kY:Array aM}(hop:o.op=.defer {callee:=.value (.func f),args:=zn0,argTypes:=kY})(hρ:ρ (.func f)=.func (.func f) #[] #[])(w:aE):
 (aO ρ o).run p w=.ok (.defer (dcall f (zn0.map ρ))) w/\(aO ρ o).events p w #[]=#[]:=by
 obtain⟨dst,y5,type,pos,after,guard⟩:=o;simp only at hop;subst hop;constructor
 .simp[aO,resolve,C0,hρ,dcall,bind,wX,pure,bK]
 .simp[aO,resolve,C0,hρ,dcall,bind,wX,pure,bK,zO,zZ]
variable {Post:aF->aE->Prop}
theorem zEW {Shun:Loc->Prop}:∀(n:Nat) (g:bC) (w:aE),Goes p true AtRel DC0 (λg w=>J p Post Shun w.heap.size g w) n g w->J p Post Shun w.heap.size g w:=by
 intro n
 induction n with
 |zero=>exact λg w h=>by have:=h w ⟨w.drawn,rfl⟩;exact this
 |succ n ih=>
  intro g w h;rcases h with h|⟨hs,h⟩
  .have:=h w ⟨w.drawn,rfl⟩;exact this
  .refine J.own hs λd=>?_
   obtain⟨zcD,w',es,hgo,⟨e1,e2⟩,hg⟩:=zls (h (w.at d) ⟨d,rfl⟩);subst e1 e2;exact⟨zcD,_,#[],_,hgo,λe he=>by simp at he,bN _,ih _ _ hg⟩
theorem Z1 {t:aM}{x:cI}{a:Addr}{v:aF}(hop:o.op=.load t x)(hx:ρ x=.pointer (some a))(zEB:(isAgg t).run p w=.ok false w)(hc:w.cell? a=some v):(aO ρ o).run p w=.ok (.value v) w:=by
 obtain⟨dst,y5,type,pos,after,guard⟩:=o;simp only at hop;subst hop;simp[aO,Instr.loadAt,hx,go_sem,loadVar,zEB,hc]
end
variable {p:bT}{s:Sem aF}{w':aE}{v:aF}
theorem run_bv {w:aE}(h:s.run p w=.ok v w'):bK p (wX s (λv=>Sem.pure (Next.value v))) w=.ok (.value v) w':=by rw[tP,h];rfl
theorem ev_bv {w:aE}{es eY:Array oR}(h:s.run p w=.ok v w')(he:s.events p w es=eY):zO p (wX s (λv=>Sem.pure (Next.value v))) w es=eY:=by rw[zfr,h,zfW,he];rfl
section
variable {p:bT}{Post:aF->aE->Prop}{Shun:Loc->Prop}
variable {B:Nat}
theorem J.sil {g g':bC}{w:aE}(hg:g.status=.running)(aX:∀w,stepG p true g w=.go g' w #[])(h:∀d,J p Post Shun B g' (w.at d)):∀d,J p Post Shun B g (w.at d):=λd=>
 J.own hg λd'=>⟨g',w.at d',#[],B,aX _,λe he=>by simp at he,bN _,h d'⟩
def J.opq {b:dJ}{a:uB}{ops:Array aZ}{i:Nat}{rest:List Nat}{k:List dS}{cs:List dJ}{w w':aE}{o:aZ}{v:aF}(ho:ops[i]? =some o)(hw:dG o (dO ops a.tmps)=true)(hk:b.kind≠ .early)
 (hr:∀d,(aO a.eval o).run p (w.at d)=.ok (.value v) (w'.at d)) (he:∀d,∀e∈(aO a.eval o).events p (w.at d) #[],False)
 (h:∀d,J p Post Shun B (G (b.at (a.put o.dst v) (.inRegion ops rest::k)) cs) (w'.at d)):∀d,J p Post Shun B (G (b.at a (.inRegion ops (i::rest)::k)) cs) (w.at d):=λd=>
 J.own rfl λd'=>⟨_,w'.at d',wU p b.fn a o (w.at d'),B,stepG_value ho hw hk (hr d'),λe hx=>(he d' e (zaA hx)).elim,bN _,h d'⟩
end
end Go.Mt
namespace Go.Mt
open Go.Conc Go.Tt
structure Blk where
 rb:Nat
 off:Nat
 cs:Array aF
 T:aM
 fz:Nat×Nat
def Tc (v:aF):Prop:=(∃k n,v=.int k n)\/(∃s,v=.string s)\/∃b,v=.bool b
inductive vV:aF->Prop
 |bool (b:Bool):vV (.bool b)
 |int (k:IntKind) (n:Int):vV (.int k n)
 |string (s:ByteArray):vV (.string s)
 |nilFunc:vV .nilFunc
 |nilIface:vV .nilIface
 |agg {xs:Array aF}:(∀(i:Nat) (v:aF),xs[i]? =some v->vV v)->vV (.agg xs)
 |tuple {xs:Array aF}:(∀(i:Nat) (v:aF),xs[i]? =some v->vV v)->vV (.tuple xs)
def thaw (w:aE):Option Blk->aE
 |none=>w
 |some b=>put w b.rb (.cells b.cs b.T b.fz)
section
variable {S:aN->Prop}{K R:Pr}{G:Gp}{St:Nat->Prop}{w W W4:aE}{A:Option Addr}{src:Option Blk}
abbrev P0:Pr:=λ_ _=>False
def stC (w:aE)(a:Nat):Prop:=a=w.heap.size+1\/a=w.heap.size+2\/a=w.heap.size+3
end
section
variable {L:Type}{C:Cx L}{W0:aE}{St:Nat->Prop}{Shun:Loc->Prop}{SS:Nat->Prop}
structure IMX (W0:aE)(St:Nat->Prop)(Shun:Loc->Prop)(Wg:Nat)(SS:Nat->Prop)(R0:Pr)(Fz:Nat->Prop)(Wf:aE)(R:Pr)(τ:cC)(W:aE):Prop where
 im:IM W0 St Shun Wg SS R τ W
 le:R0.le R
 fz:∀b,Fz b->b<W.heap.size/\W.heap[b]? =Wf.heap[b]? /\¬τ.own b/\b≠Wg
structure IX (ty:aM)(Wg:Nat)(I:Pr->cC->aE->Prop):Prop where
 suf:∀R τ W aY,I R τ W->bX ty Wg τ W aY->I R τ aY
 cell:∀R τ W a v,I R τ W->a.block=Wg->I R τ (W.setCell a v)
 at_:∀R τ W d,I R τ W->I R τ (W.at d)
 rel:∀R τ W,I R τ W->∀a b,R a b->b≠Wg
def zD (ty:aM)(Wg:Nat)(I:Pr->cC->aE->Prop):Pr->cC->aE->Prop:=λR τ W=>I R τ W/\WgLive ty Wg W
variable {R0:Pr}
theorem zuj {ty:aM}{W0:aE}{St:Nat->Prop}{Shun:Loc->Prop}{Wg:Nat}{SS:Nat->Prop}{Fz:Nat->Prop}{Wf:aE}(vG:∀b,b<W0.heap.size->SS b)(hF:∀b,Fz b->SS b)(o8:W0.heap.size<=Wg):IX ty Wg (IMX W0 St Shun Wg SS R0 Fz Wf):=by
 refine⟨λR τ W aY h s=>?_,λR τ W a v h ha=>?_,λR τ W d h=>?_,λR τ W h=>h.im.rel⟩
 .have h0:eZ (L:=Unit) ⟨default,λ_=>false,λ_=>false,ty,Wg,⟨λ_=>.wait,λ_ _=>True,λ_=>false,λ_=>True,λ_ _=>True,λ_ _=>[]⟩,λ_ _=>True,true,[],.nil,λ_ _=>False,λ_=>True,IM W0 St Shun Wg SS,[],none,λ_ h=>by cases h⟩:=im_ok rfl (λ_ _=>trivial) vG
  refine⟨h0.suf R τ W aY h.im s,h.le,λb hb=>?_⟩;obtain⟨f1,f2,f3,f4⟩:=h.fz b hb;exact⟨jW f1 s.size,(s.keep b (.inr (by rw[h.im.still];exact hF b hb))).trans f2,f3,f4⟩
 .refine⟨IM.cell h.im o8 ha v,h.le,λb hb=>?_⟩
  obtain⟨f1,f2,f3,f4⟩:=h.fz b hb;exact⟨by simp_all,(zax W a v (by rw[ha];exact f4)).trans f2,f3,f4⟩
 .exact⟨⟨⟨h.im.kp.os,h.im.kp.tape,h.im.kp.output,h.im.kp.size,h.im.kp.block,h.im.kp.old⟩,⟨h.im.sh.old,h.im.sh.rel,h.im.sh.new⟩,h.im.still,h.im.wg,h.im.own,h.im.rel⟩,h.le,h.fz⟩
theorem imx_ok {Fz:Nat->Prop}{Wf:aE}(hC:C.I=zD C.ty C.Wg (IMX W0 St Shun C.Wg SS R0 Fz Wf))(aX:∀a,St a->C.St a)(vG:∀b,b<W0.heap.size->SS b)(hF:∀b,Fz b->SS b)(o8:W0.heap.size<=C.Wg):eZ C:=by
 have h0:=im_ok (C:={C with I:=IM W0 St Shun C.Wg SS}) rfl aX vG;have hx:=zuj (ty:=C.ty) (St:=St) (Shun:=Shun) (R0:=R0) (Wf:=Wf) vG hF o8;refine⟨λR τ W aY h s=>?_,λR τ W R1 W1 h ht hs=>?_⟩<;>rw[hC] at*
 .exact⟨hx.suf R τ W aY h.1 s,s.live h.2⟩
 .refine⟨⟨h0.step R τ W R1 W1 h.1.im ht hs,h.1.le.trans hs.le,λb hb=>?_⟩,?_⟩
  .obtain⟨f1,f2,f3,f4⟩:=h.1.fz b hb
   refine⟨jW f1 hs.size,(hs.keep b f1 λa x=>zU λz=>f3 ((ht a _ x).2 z)).trans f2,λe=>e.elim f3 λx=>?_,f4⟩;omega
  .obtain⟨a,b,hl⟩:=h.2
   exact⟨a,b,(hs.keep C.Wg h.1.im.wg λa x=>zU λz=>h.1.im.own _ ((ht a _ x).2 z) rfl).trans hl⟩
end
section
variable {p:bT}{op gs gs₁ fs:aN->Bool}{St:Nat->Prop}{W0:aE}{Post:aF->aE->Prop}
theorem JO.callN (L:Lv p op gs gs₁ fs){m:Fm}{ms:List Fm}{w:aE}{ops:Array aZ}{i:Nat}{rest:List Nat}{k:List dS}{o:aZ}{f:aN}{args:Array cI}{kY:Array aM}{fn:Qu}{c:Code}(hr:m.ret=false)(qY:m.todo=.inRegion ops (i::rest)::k)
 (ho:ops[i]? =some o) (b9:dG o (dO ops m.tmps)=true) (hop:o.op=.call ⟨.value (.func f),args,kY⟩) (Nc:op f=false) (hf:p.funcs[f]? =some fn) (hn:(fn.name== "runtime.NumGoroutine")=false) (hb:fn.body=some c)
 (hJ:JL p op gs fs St W0 Post ⟨f,args.map m.eval++oC (fn.ntmps-(args.map m.eval).size) aA,[.code c],false⟩ (m::ms) w):JL p op gs fs St W0 Post m ms w:=by
 have Ht:Dy p f (args.map m.eval)=⟨f,args.map m.eval++oC (fn.ntmps-(args.map m.eval).size) aA,[.code c],false⟩:=by simp[Dy,hf,hb]
 rw[<-Ht] at hJ;refine JO.one L.fit rfl (λe=>by rw[hr] at e;cases e) (λT=>((Dy p f (args.map m.eval),m::ms),Tt.tp w T 0)) (λT=>?_) (λT K R y Sw=>?_) (λT=>hJ.tape T 0)
 .show(fE p m ms).run p _=_
  simp only[fE,hr,gK,if_false,sS,qY,ho,Fl,Bp,b9,if_true];refine(tP p _ _ _).trans ?_;rw[(zgj hop (λg=>rfl) hf hn hb (Tt.tp w T 0)).1];simp only[vF,rK,hf,hb,lZ,bK,Ht]
 .obtain⟨f',xs,bV,c,c',rest,Nu,h1,h2,h3,h4,_⟩:=Sw.ex
  simp only[qI] at h4;have h5:=congrArg Fm.fn h4.1;rw[Va,Va] at h5;simp_all
end
theorem zoO {S:aN->Prop}:∀(n:Nat) (v:aF),N7 v<n->∃u,vV u/\(∀K R,VR S K R u v)/\(Tc v->u=v):=by
 intro n
 induction n with
 |zero=>intro v h;omega
 |succ n ih=>
  intro v hv;have hj:∀{v:aF},HidV v->(∀k m,v≠ .int k m)->(∀s,v≠ .string s)->(∀b,v≠ .bool b)->∃u,vV u/\(∀K R,VR S K R u v)/\(Tc v->u=v):=λh h1 h2 h3=>
   ⟨.nilFunc,.nilFunc,λK R=>.junk h,λx=>by
    rcases x with⟨k,m,e⟩|⟨s,e⟩|⟨b,e⟩
    .exact absurd e (h1 _ _)
    .exact absurd e (h2 _)
    .exact absurd e (h3 _)⟩
  have rows:∀xs:Array aF,N7 xs<n->∃us:Array aF,us.size=xs.size/\(∀(i:Nat) (u:aF),us[i]? =some u->vV u)/\∀K R,∀(i:Nat) (u v:aF),us[i]? =some u->xs[i]? =some v->VR S K R u v:=λxs hx=>by
   have hex:∀x,∃u,x∈xs->vV u/\∀K R,VR S K R u x:=λx=>by
    by_cases hm:x∈xs
    .obtain⟨u,h1,h2,_⟩:=ih x (Nat.lt_trans (Array.sizeOf_lt_of_mem hm) hx)
     grind
    simp_all
   refine⟨xs.map λx=>(hex x).choose,aQ,λi u h1=>?_,λK R i u v h1 h2=>?_⟩
   .grind
   .grind
  cases v with
  |bool b=>exact⟨_,.bool b,λK R=>.bool b,λ_=>rfl⟩
  |int k m=>exact⟨_,.int k m,λK R=>.int k m,λ_=>rfl⟩
  |string s=>exact⟨_,.string s,λK R=>.string s,λ_=>rfl⟩
  |nilIface=>exact⟨_,.nilIface,λK R=>.nilIface,λ_=>rfl⟩
  |agg xs=>
   obtain⟨us,h1,h3,h2⟩:=rows xs (by simp at hv;omega);exact⟨.agg us,.agg h3,λK R=>.agg h1 (h2 K R),λx=>by rcases x with⟨_,_,e⟩|⟨_,e⟩|⟨_,e⟩<;>cases e⟩
  |tuple xs=>
   obtain⟨us,h1,h3,h2⟩:=rows xs (by simp at hv;omega);exact⟨.tuple us,.tuple h3,λK R=>.tuple h1 (h2 K R),λx=>by rcases x with⟨_,_,e⟩|⟨_,e⟩|⟨_,e⟩<;>cases e⟩
  |_=>exact hj Zm (λ_ _ h=>by cases h) (λ_ h=>by cases h) (λ_ h=>by cases h)
def gv (S:aN->Prop)(v:aF):Value:=(zoO (S:=S) (N7 v+1) v (yE _)).choose
def zhu (S:aN->Prop)(v:aF):vV (gv S v)/\(∀K R,VR S K R (gv S v) v)/\(Tc v->gv S v=v):=(zoO (S:=S) (N7 v+1) v (yE _)).choose_spec
def gObj (S:aN->Prop):Obj->Obj
 | .cells c T fz=>.cells (c.map (gv S)) T (0,max c.size fz.2)
 |_=>o6
def Ec (S:aN->Prop)(X:Nat->Bool)(W:aE):World:={W with heap:=W.heap.mapIdx λi o=>if X i=true then gObj S o else o6}
def R0 (X:Nat->Bool):Pr:=λa b=>a=b/\X a=true
def St0 (X:Nat->Bool):Nat->Prop:=λa=>X a=true
section
variable {S:aN->Prop}{X:Nat->Bool}{W:aE}
theorem zkq:(Ec S X W).heap.size=W.heap.size:=by simp[Ec]
theorem zbh {b:Nat}{c:Array aF}{T:aM}{fz:Nat×Nat}(hb:W.heap[b]? =some (.cells c T fz))(hx:X b=true):(Ec S X W).heap[b]? =some (.cells (c.map (gv S)) T (0,max c.size fz.2)):=by
 simp[Ec,Mr,hb,hx,gObj]
theorem zAZ:Cj (Ec S X W):=by
 intro b c e h;simp only[Ec,Mr,zW] at h;obtain⟨o,_,h⟩:=h;split at h
 .cases o<;>simp[gObj,o6] at h
 .simp[o6] at h
theorem zFy {G:Gp}(hX:∀b,X b=true->∃c T fz,W.heap[b]? =some (.cells c T fz))(hT:∀g,G.tab g=true->X g=true)(hG:G.n<=W.heap.size):cV S P0 (R0 X) G (St0 X) (Ec S X W) W:=by
 refine⟨?_,?_,?_,?_,⟨by rw[zkq];exact hG,hG⟩,?_,λa b x=>x.elim,?_,zAZ,λg hg=>⟨rfl,hT g hg⟩⟩
 .rintro a b c (⟨rfl,_⟩|x) (⟨h1,_⟩|y)
  .exact h1
  .exact y.elim
  .exact x.elim
  .exact x.elim
 .rintro a b c (⟨rfl,_⟩|x) (⟨h1,_⟩|y)
  .exact h1.symm
  .exact y.elim
  .exact x.elim
  .exact x.elim
 .rintro a b (⟨rfl,h⟩|x)
  .obtain⟨c,T,fz,h1⟩:=hX a h
   have:=(eE.1 h1).1;exact⟨by rw[zkq];exact this,this⟩
  .exact x.elim
 .rintro a b ⟨rfl,_⟩
  omega
 .rintro a b ⟨rfl,h⟩
  obtain⟨c,T,fz,h1⟩:=hX a h;refine⟨_,_,zbh h1 h,h1,.cells ⟨aQ,λi u v h2 h3=>?_⟩ λo ho=>?_⟩
  .rw[Fo,h3] at h2
   simp only[Fl,jM] at h2;subst h2;exact(zhu S v).2.1 _ _
  .unfold Lg at ho⊢
   simp only;omega
 .intro a h
  obtain⟨c,T,fz,h1⟩:=hX a h;exact⟨⟨a,rfl,h⟩,_,T,_,zbh h1 h,by grind⟩
theorem zAa {b o:Nat}{v:aF}(hX:∀b,X b=true->∃c T fz,W.heap[b]? =some (.cells c T fz))(hx:X b=true)(hv:W.cell? ⟨b,o,none⟩=some v)(hp:Tc v):(Ec S X W).cell? ⟨b,o,none⟩=some v:=by
 obtain⟨c,T,fz,h1⟩:=hX b hx;have h2:c[o]? =some v:=by
  have:W.cell? ⟨b,o,none⟩=c[o]? :=by simp[lN,h1]
  rw[<-this];exact hv
 have h3:(Ec S X W).cell? ⟨b,o,none⟩=(c.map (gv S))[o]? :=by
  simp only[lN];rw[zbh h1 hx];rfl
 rw[h3,Fo,h2];simp only[Fl,jM];exact(zhu S v).2.2 hp
end
theorem zAJ {Shun:Loc->Prop}{B:Nat}:Past Shun B #[]:=
 ⟨zmj.clean,λi a h=>by simp[touchAt,l6.act?] at h,zmj.over,zmj.hears,λop h=>by simp at h⟩
variable {Post:aF->aE->Prop}
theorem J.start {p:bT}{op gs gs₁ fs:aN->Bool}(L:Lv p op gs gs₁ fs){f:aN}{fn:Qu}{c:Code}(hg:gs f=true)(Nc:op f=false)(hf:p.funcs[f]? =some fn)(hb:fn.body=some c){W:aE}{X:Nat->Bool}{xs args:Array aF}
 (hX:∀b,X b=true->∃c T fz,W.heap[b]? =some (.cells c T fz)) (hT:∀g,By p g=true->X g=true) (hG:p.globals.size<=W.heap.size) (Gv:bL (SF fs) P0 (R0 X) xs args)
 (h:JL p op gs fs (St0 X) W Post ⟨f,xs++oC (fn.ntmps-xs.size) aA,[.code c],false⟩ [] (Ec (SF fs) X W)):Ends p Post (solo (G (Hu p f args .normal) []) W) #[]:=by
 obtain⟨fn',c',g1,g2,g3,g4,g5⟩:=L.fit.fn f hg Nc;have Tu:=g2;rw[hf] at Tu;obtain rfl:=cJ Tu;rw[hb] at g4;obtain rfl:=cJ g4;have hJ:J p Post (λ_=>False) W.heap.size (G (Hu p f args .normal) []) W:=by
  rw[zaw hf hb];refine h P0 (R0 X) W ⟨f,args++oC (fn.ntmps-args.size) aA,[.code c],false⟩ [] (λ_=>False) (zFy hX hT hG) ⟨rfl,rfl,rfl,Gv.pad fn.ntmps,λj hj=>?_,⟨fn,fn,hf,hf,rfl,L.fit.res f hg Nc fn hf⟩⟩ .nil ⟨λ_ _ _ _=>id,λ_ _ _ _ _=>id,λ_ _ _ _=>id⟩ ⟨rfl,rfl,rfl,bN _,λ_ _=>rfl,?_⟩
  .simp only[lO,nM,or_false] at hj
   subst hj;exact g5
  .rintro a b ⟨rfl,h⟩ _
   exact h
 rw[solo_eq_crowd];exact hJ #[_] #[] none (λ_=>0) rfl ⟨λi g hi h=>by
  have:=(eE.1 h).1;simp at this;omega,λj _=>rfl⟩ zAJ
def Ir (ops:Array aZ):Bool:=
 ((
  iX ops.size).all λi=>match ops[i]? with
  |some oi=>(oi.after.all λe=>!F5 .any e||decide (e.on<i))&&(match oi.op with| .select .. =>false|_=>true)&&
   ((
    iX ops.size).all λj=>match ops[j]? with
    |some oj=>(match oj.dst with
     |some d=>(!(oi.looksAt ops).contains d||oi.after.any λe=>F5 .any e&&e.on==j)&&(i==j||oi.dst !=some d)
     |none=>true)
    |none=>true)
  |none=>true)
structure Le (ops:Array aZ):Prop where
 bk:∀(i:Nat) (oi:aZ),ops[i]? =some oi->∀e∈oi.after,F5 .any e=true->e.on<i
 sel:∀(i:Nat) (oi:aZ),ops[i]? =some oi->∀cs b,oi.op≠ .select cs b
 rd:∀(i j:Nat) (oi oj:aZ) (d:Tmp),ops[i]? =some oi->ops[j]? =some oj->oj.dst=some d->d∈oi.looksAt ops->∃e∈oi.after,F5 .any e=true/\e.on=j
 dst:∀(i j:Nat) (oi oj:aZ) (d:Tmp),ops[i]? =some oi->ops[j]? =some oj->oi.dst=some d->oj.dst=some d->i=j
variable {ops:Array aZ}
theorem Qw (h:Ir ops=true):Le ops:=by
 unfold Ir at h;rw[uD] at h;have lt:∀{i:Nat} {oi:aZ},ops[i]? =some oi->i<ops.size:=λh=>(eE.1 h).1
 have h1:∀(i:Nat) (oi:aZ),ops[i]? =some oi->(oi.after.all λe=>!F5 .any e||decide (e.on<i))=true/\(match oi.op with| .select .. =>false|_=>true)=true/\
  ∀(j:Nat) (oj:aZ),ops[j]? =some oj->∀d,oj.dst=some d->((oi.looksAt ops).contains d=false\/(oi.after.any λe=>F5 .any e&&e.on==j)=true)/\(i=j\/oi.dst≠some d):=by
  intro i oi hi;have:=h i (D4.2 (lt hi));rw[hi] at this;simp only[iY] at this;refine⟨this.1.1,this.1.2,λj oj hj d hd=>?_⟩;have h2:=(uD.1 this.2) j (D4.2 (lt hj));rw[hj] at h2;simp only[hd,iY,Di,zbf,beq_iff_eq,bne_iff_ne] at h2;exact h2
 refine⟨λi oi hi e he hb=>?_,λi oi hi cs b e=>?_,λi j oi oj d hi hj hd hl=>?_,λi j oi oj d hi hj h2 h3=>?_⟩
 .have:=(h1 i oi hi).1
  rw[Wc] at this
  grind
 .grind
 .grind
 grind
def dF (ops:Array aZ)(vals:Nat->aF)(t0:Array aF):Array Value:=
 (iX ops.size).foldl (λt i=>match(ops[i]?).bind (·.dst) with|some d=>t.setIfInBounds d (vals i)|none=>t) t0
section
variable {ops:Array aZ}{vals:Nat->aF}{t0:Array aF}
structure r8 (ops:Array aZ)(vals:Nat->aF)(t0:Array aF)(bQ:Array Bool)(t:Array aF):Prop where
 size:t.size=t0.size
 got:∀(i:Nat) (o:aZ) (d:Tmp),ops[i]? =some o->o.dst=some d->d<t0.size->bQ.getD i false=true->t[d]? =some (vals i)
 old:∀s:Nat,(∀(i:Nat) (o:aZ),ops[i]? =some o->bQ.getD i false=true->o.dst≠some s)->t[s]? =t0[s]?
def r8.start (bQ:Array Bool)(h:∀i,bQ.getD i false=false):r8 ops vals t0 bQ t0:=
 ⟨rfl,λi o d _ _ _ hl=>tJ,λs _=>rfl⟩
theorem r8.step (K:Le ops){bQ:Array Bool}{t:Array aF}(h:r8 ops vals t0 bQ t){i:Nat}{o:aZ}(hi:ops[i]? =some o)(hz:bQ.size=ops.size)(hu:bQ.getD i true=false):
 r8 ops vals t0 (bQ.setIfInBounds i true) (match o.dst with|some d=>t.setIfInBounds d (vals i)|none=>t):=by
 have Hw:i<bQ.size:=by rw[hz];exact(eE.1 hi).1
 have Lt:∀j,(bQ.setIfInBounds i true).getD j false=if j=i then true else bQ.getD j false:=by
  intro j;by_cases e:j=i
  .subst e;simp[Hw]
  .rw[if_neg e];exact Qe false (Ne.symm e)
 cases hd:o.dst with
 |none=>
  refine⟨h.size,λj oj d hj Y0 zhB hl=>?_,λs hs=>h.old s λj oj hj hl=>hs j oj hj ?_⟩
  .rw[Lt] at hl
   split at hl
   .simp_all
   .exact h.got j oj d hj Y0 zhB hl
  simp_all
 |some d=>
  refine⟨by simp[h.size],λj oj d' hj Y0 zhB hl=>?_,λs hs=>?_⟩
  .rw[Lt] at hl
   split at hl
   .next e=>
    subst e;rw[hi] at hj;obtain rfl:=cJ hj;rw[hd] at Y0;obtain rfl:=cJ Y0;simp[zoR,h.size,zhB]
   .next e=>
    have aS:d≠d':=λe2=>e (K.dst j i oj o d' hj hi Y0 (by rw[hd,e2]));simp only[rN aS];exact h.got j oj d' hj Y0 zhB hl
  .have aS:d≠s:=λe2=>hs i o hi (by rw[Lt,if_pos rfl]) (by rw[hd,e2])
   simp only[rN aS];exact h.old s λj oj hj hl=>hs j oj hj tJ
theorem r8.unique {bQ:Array Bool}{t t':Array aF}(h:r8 ops vals t0 bQ t)(h':r8 ops vals t0 bQ t'):t=t':=by
 apply zgc;intro s;by_cases hex:∃(i:Nat) (o:aZ),ops[i]? =some o/\bQ.getD i false=true/\o.dst=some s
 .obtain⟨i,o,h1,h2,h3⟩:=hex
  by_cases hs:s<t0.size
  .rw[h.got i o s h1 h3 hs h2,h'.got i o s h1 h3 hs h2]
  .rw[My (by rw[h.size];omega),My (by rw[h'.size];omega)]
 .have hn:∀(i:Nat) (o:aZ),ops[i]? =some o->bQ.getD i false=true->o.dst≠some s:=λi o h1 h2 h3=>hex ⟨i,o,h1,h2,h3⟩
  rw[h.old s hn,h'.old s hn]
theorem So (K:Le ops):r8 ops vals t0 (oC ops.size true) (dF ops vals t0):=by
 have key:∀n,n<=ops.size->r8 ops vals t0 ((N1 ops.size).map (λi=>decide (i<n))) ((iX n).foldl (λt i=>match(ops[i]?).bind (·.dst) with|some d=>t.setIfInBounds d (vals i)|none=>t) t0):=by
  intro n
  induction n with
  |zero=>intro _;exact r8.start _ λi=>by simp;grind
  |succ n ih=>
   intro hn;have h:=ih aC;obtain⟨o,ho⟩:∃o,ops[n]? =some o:=⟨ops[n],qA aC⟩;have hs:=r8.step K h ho aQ (by simp[Array.getElem?_range,show n<ops.size by omega]);rw[List.range_succ,znk];simp only[Pk,List.foldl_nil,ho,xS];have e:((N1 ops.size).map (λi=>decide (i<n))).setIfInBounds n true=(N1 ops.size).map (λi=>decide (i<n+1)):=by
    apply zgc;intro j;rw[zoR];by_cases hj:j<ops.size
    .grind
    .simp_all
   grind
 have:=key ops.size (bN _);have e:(N1 ops.size).map (λi=>decide (i<ops.size))=oC ops.size true:=by
  apply zgc;intro j;by_cases hj:j<ops.size<;>simp[hj]
 rw[e] at this;exact this
theorem r8.sees (K:Le ops){bQ:Array Bool}{t Tf:Array aF}(h:r8 ops vals t0 bQ t)(hf:r8 ops vals t0 (oC ops.size true) Tf){i:Nat}{o:aZ}(hi:ops[i]? =some o)(tU:∀e∈o.after,F5 .any e=true->bQ.getD e.on false=true):
 ∀s∈o.looksAt ops,t[s]? =Tf[s]? :=by
 intro s hs;by_cases hex:∃(j:Nat) (oj:aZ),ops[j]? =some oj/\oj.dst=some s
 .obtain⟨j,oj,hj,hd⟩:=hex
  obtain⟨e,he,hb,rfl⟩:=K.rd i j o oj s hi hj hd hs;have hl:=tU e he hb;have uU:e.on<ops.size:=(eE.1 hj).1;by_cases hz:s<t0.size
  .rw[h.got _ oj s hj hd hz hl,hf.got _ oj s hj hd hz (by simp[uU])]
  .have Jb:t0.size<=s:=Nat.le_of_not_lt hz
   rw[My (by rw[h.size];exact Jb),My (by rw[hf.size];exact Jb)]
 .have hn:∀(j:Nat) (oj:aZ),ops[j]? =some oj->oj.dst≠some s:=λj oj hj hd=>hex ⟨j,oj,hj,hd⟩
  rw[h.old s (λj oj hj _=>hn j oj hj),hf.old s (λj oj hj _=>hn j oj hj)]
end
variable {t t':Array aF}
theorem zCG {x:cI}(h:∀s,x=.tmp s->t[s]? =t'[s]?):(bJ t []).eval x=(bJ t' []).eval x:=by
 cases x with
 |tmp s=>
  have:=h s rfl;show t.getD s aA=t'.getD s aA;simp_all
 |_=>rfl
variable {o:aZ}
theorem F0 (hs:∀cs b,o.op≠ .select cs b)(h:∀s∈o.looksAt ops,t[s]? =t'[s]?):aO (bJ t []).eval o=aO (bJ t' []).eval o:=
 execOp_congr o hs λx hx=>zCG λs e=>h s (by
  subst e;exact List.mem_append_left _ (List.mem_filterMap.2 ⟨.tmp s,by simpa using hx,rfl⟩))
theorem Zy (h:∀s∈o.looksAt ops,t[s]? =t'[s]?):dG o (dO ops t)=dG o (dO ops t'):=by
 unfold dG
 cases hg:o.guard with
 |none=>rfl
 |some gw=>
  obtain⟨g,want⟩:=gw;have hy:dO ops t g=dO ops t' g:=by
   unfold dO
   cases ht:(ops[g]?).bind (·.dst) with
   |none=>rfl
   |some s=>
    have:=h s (by simp[aZ.looksAt,hg,ht]);simp_all
  simp only[hy]
section
variable {p:bT}{op gs gs₁ fs:aN->Bool}{St:Nat->Prop}{W0:aE}{Post:aF->aE->Prop}
theorem zq7 {ops:Array aZ}(K:Le ops){bQ:Array Bool}(hz:bQ.size=ops.size)(h:Hp .any ops bQ=[]):∀i,i<ops.size->bQ.getD i false=true:=by
 intro i
 induction i using zle with
 |ind i ih=>
  intro hi;obtain⟨o,ho⟩:∃o,ops[i]? =some o:=⟨ops[i],qA hi⟩
  cases hl:bQ.getD i false with
  |true=>rfl
  |false=>
   have hm:i∈Hp .any ops bQ:=zmZ.2 ⟨by
    have Hw:i<bQ.size:=aC;simp[Hw] at hl⊢;exact hl,o,ho,λe he hb=>ih e.on (K.bk i o ho e he hb) (by have:=K.bk i o ho e he hb;omega)⟩
   rw[h] at hm;cases hm
end
abbrev xO (Tf:Array aF)(V:Nat->aF):Prop:=∀s,Tf.getD s aA=V s
def Hl (ops:Array aZ)(s:Nat):Bool:=ops.any λo=>o.dst==some s
def valV (V:Nat->aF)(o:aZ):Value:=match o.dst with|some d=>V d|none=>aA
theorem zj8 {i:Nat}{d:Tmp}(h:ops[i]? =some o)(hd:o.dst=some d):Hl ops d=true:=by
 unfold Hl
 grind
section
variable {ops:Array aZ}{Tf:Array aF}{V:Nat->aF}{o og:aZ}{j d:Nat}{want b:Bool}
theorem dW (h:o.guard=none){y:Nat->Option Bool}:dG o y=true:=by unfold dG;rw[h]
end
theorem zEs {n:Nat}(h2:(ops.all λo=>match o.dst with|some d=>decide (d<n)|none=>true)=true):∀s,Hl ops s=true->s<n:=by
 intro s hs;unfold Hl at hs
 grind
def nY {Tf:Array aF}{V:Nat->aF}(hT:xO Tf V){s:Nat}{v:aF}(hv:V s=v):(bJ Tf []).eval (.tmp s)=v:=((hT s).trans hv)
section
variable {p:bT}{ρ:cI->aF}{o:aZ}{w:aE}
variable {A:Option Addr}{t:aM}
theorem zs2 {x:cI}{n c:Nat}{e:aM}(ho:o.op=.call ⟨.builtin .len,#[x],#[t]⟩)(hu:p.underlying t=some (.slice e))(hx:ρ x=.slice A n c):(aO ρ o).run p w=.ok (.value (.int .i64 n)) w:=by
 have Ml:∀w,(underlying t).run p w=.ok (.slice e) w:=λw=>by simp[underlying,program,bK,bind,wX,pure,hu]
 unfold aO;rw[ho];simp[go_sem,hx,Ml,Builtin.len_,vF]
theorem za2 {s x:cI}{a b v:aF}{w':aE}(ho:o.op=.call ⟨.builtin .append,#[s,x],#[t,t]⟩)(hs:ρ s=a)(hx:ρ x=b)(hr:(wQ #[t,t] o.type #[a,b]).run p w=.ok v w'):(aO ρ o).run p w=.ok (.value v) w':=by
 unfold aO;simp only[ho,resolve,invoke,builtin,Sem.run_bind,Sem.run_pure,Result.andThen_ok,List.map_toArray,jG,List.map_nil,hs,hx,hr]
end
def AllL (Q:Nat->aZ->Prop):Nat->List aZ->Prop
 |_,[]=>True
 |i,o::l=>Q i o/\AllL Q (i+1) l
variable {Q:Nat->aZ->Prop}
theorem zwz :∀(l:List aZ) (k:Nat),AllL Q k l->∀(i:Nat) (o:aZ),l[i]? =some o->Q (k+i) o
 |[],k,h,i,o,e=>by simp at e
 |x::l,k,h,0,o,e=>by simp at e;subst e;exact h.1
 |x::l,k,h,i+1,o,e=>by
  have:=zwz l (k+1) h.2 i o (by simpa using e)
  grind
theorem Jh {l:List aZ}(hl:ops.toList=l)(h:AllL Q 0 l):∀(i:Nat) (o:aZ),ops[i]? =some o->Q i o:=λi o e=>by
 have:=zwz l 0 h i o (by rw[<-hl,Cf];exact e);simp_all
def xR (vals:Nat->aF):List (Option Tmp)->Nat->List aF->List aF
 |[],_,t=>t
 |none::l,i,t=>xR vals l (i+1) t
 |some d::l,i,t=>xR vals l (i+1) (t.set d (vals i))
theorem Ax (ops:Array aZ)(vals:Nat->aF)(t0:List aF):dF ops vals t0.toArray=(xR vals (ops.toList.map (·.dst)) 0 t0).toArray:=by
 have key:∀(l:List aZ) (k:Nat) (t:List aF),(∀i,l[i]? =ops[k+i]?)->
  (List.range' k l.length).foldl (λt i=>match(ops[i]?).bind (·.dst) with|some d=>t.setIfInBounds d (vals i)|none=>t) t.toArray=(xR vals (l.map (·.dst)) k t).toArray:=by
  intro l
  induction l with
  |nil=>intro k t _;rfl
  |cons o l ih=>
   intro k t h;have h0:=h 0;simp at h0;rw[yH,List.range'_succ,Pk,<-h0];simp only[xS,jG];have h1:∀i,l[i]? =ops[k+1+i]? :=λi=>by have:=h (i+1);simp at this;rw[this];congr 1;omega
   cases hd:o.dst with
   |none=>exact ih (k+1) t h1
   |some d=>
    simp only[List.setIfInBounds_toArray];exact ih (k+1) _ h1
 have:=key ops.toList 0 t0 (λi=>by simp);unfold dF;rw[List.range_eq_range',<-Array.length_toList];exact this
def Et (o:aZ)(j:Nat):Bool:=o.after.any λe=>F5 .any e&&e.on==j
def Jq (ops:Array aZ):List Nat->Bool
 |a::b::l=>(match ops[b]? with|some o=>Et o a|none=>false)&&Jq ops (b::l)
 |[a]=>decide (a<ops.size)
 |[]=>true
def zdf (ops:Array aZ):Nat->aZ->Nat->Bool
 |0,o,j=>Et o j
 |n+1,o,j=>Et o j||o.after.any λe=>F5 .any e&&(match ops[e.on]? with|some o'=>zdf ops n o' j|none=>false)
def zcE (ops:Array aZ)(ws:List Nat)(i k:Nat):Bool:=
 (ws.take k).all (λj=>match ops[j]? with|some o=>!zdf ops 5 o i|none=>true)&&(ws.drop k).all (λj=>match ops[i]? with|some o=>!Et o j|none=>true)
inductive bR (P:bT)(ops:Array aZ)(ws:List Nat)(Wd:Nat->aE)(Tf:Array aF)(i:Nat)(o:aZ)(v:aF):Prop
 |no (hn:i∉ws) (h:dG o (dO ops Tf)=false) (hv:v=aA)
 |val (hn:i∉ws) (h:dG o (dO ops Tf)=true) (hx:∀k,k<=ws.length->zcE ops ws i k=true->(aO (bJ Tf []).eval o).run P (Wd k)=.ok (.value v) (Wd k))
 |act (k:Nat) (hk:ws[k]? =some i) (h:dG o (dO ops Tf)=true) (hx:(aO (bJ Tf []).eval o).run P (Wd k)=.ok (.value v) (Wd (k+1)))
 |skp (k:Nat) (hk:ws[k]? =some i) (h:dG o (dO ops Tf)=true) (hv:v=aA) (hx:(aO (bJ Tf []).eval o).run P (Wd k)=.ok .skip (Wd (k+1)))
 |actn (k:Nat) (hk:ws[k]? =some i) (h:dG o (dO ops Tf)=true) (hd:o.dst=none) (u:aF) (hx:(aO (bJ Tf []).eval o).run P (Wd k)=.ok (.value u) (Wd (k+1)))
section
variable {P:bT}{ops:Array aZ}{ws:List Nat}{Wd:Nat->aE}{Q:Exit->uB->aE->Prop}{t0 Tf:Array aF}{vals:Nat->aF}
structure J3 (ops:Array aZ)(ws:List Nat)(bQ:Array Bool)(k:Nat):Prop where
 closed:∀(i:Nat) (o:aZ),ops[i]? =some o->bQ.getD i false=true->∀j,Et o j=true->bQ.getD j false=true
 le:k<=ws.length
 pre:∀(n i:Nat),ws[n]? =some i->(bQ.getD i false=true↔n<k)
theorem J3.closedT {bQ:Array Bool}{k:Nat}(h:J3 ops ws bQ k):∀(n:Nat) (i:Nat) (o:aZ),ops[i]? =some o->bQ.getD i false=true->∀j,zdf ops n o j=true->bQ.getD j false=true
 |0,i,o,hi,hl,j,hj=>h.closed i o hi hl j hj
 |n+1,i,o,hi,hl,j,hj=>by
  simp only[zdf,Di] at hj;rcases hj with hj|hj
  .exact h.closed i o hi hl j hj
  .rw[zfV] at hj
   obtain⟨x,hx,h3⟩:=hj;simp only[iY] at h3;obtain⟨h4,h5⟩:=h3;split at h5
   .next o' yO=>
    refine h.closedT n _ o' yO (h.closed i o hi hl _ ?_) j h5;unfold Et;rw[zfV];exact⟨x,hx,by simp[h4]⟩
   .cases h5
theorem zlR:∀{ws:List Nat},Jq ops ws=true->∀(n a b:Nat),ws[n]? =some a->ws[n+1]? =some b->∃o,ops[b]? =some o/\Et o a=true
 |[],_,n,a,b,h,_=>by simp at h
 |[x],_,n,a,b,h,h'=>by simp at h'
 |x::y::l,hc,0,a,b,h,h'=>by
  simp at h h';subst h h';simp only[Jq,iY] at hc
  grind
 |x::y::l,hc,n+1,a,b,h,h'=>by
  simp only[Jq,iY] at hc;exact zlR hc.2 n a b ze9 (by simpa using h')
theorem zs3 {l:Array Bool}{i:Nat}(h:l.getD i true=false):l.getD i false=false:=by grind
theorem J3.keep {bQ:Array Bool}{k i:Nat}{o:aZ}(h:J3 ops ws bQ k)(hi:ops[i]? =some o)(hn:i∉ws)(hd:∀j,Et o j=true->bQ.getD j false=true):J3 ops ws (bQ.setIfInBounds i true) k:=by
 have mono:∀j,bQ.getD j false=true->(bQ.setIfInBounds i true).getD j false=true:=λj hj=>by
  by_cases e:j=i
  .subst e
   rw[xE] at hj⊢
   cases e2:bQ[j]? with
   |none=>rw[e2] at hj;cases hj
   |some x=>have:j<bQ.size:=(eE.1 e2).1;simp[this]
  .rw[Qe false (Ne.symm e)];exact hj
 refine⟨λa oa ha hl j hj=>?_,h.le,λn a ha=>?_⟩
 .by_cases e:a=i
  .subst e
   rw[hi] at ha;obtain rfl:=cJ ha;exact mono j (hd j hj)
  .rw[Qe false (Ne.symm e)] at hl
   exact mono j (h.closed a oa ha hl j hj)
 .have e:a≠i:=λe=>hn (e▸dZ ha)
  rw[Qe false (Ne.symm e)];exact h.pre n a ha
theorem J3.next {bQ:Array Bool}{k n i:Nat}{o:aZ}(kU:ws.Nodup)(hc:Jq ops ws=true)(h:J3 ops ws bQ k)(hi:ops[i]? =some o)(hz:i<bQ.size)(hn:ws[n]? =some i)(hu:bQ.getD i false=false)(hd:∀j,Et o j=true->bQ.getD j false=true):
 n=k/\J3 ops ws (bQ.setIfInBounds i true) (k+1):=by
 have o9:n<ws.length:=(lR.1 hn).1;have hk:n=k:=by
  have h1:¬n<k:=λx=>by have:=(h.pre n i hn).2 x;rw[hu] at this;cases this
  rcases uE k n with x|x
  .exfalso
   obtain⟨m,rfl⟩:∃m,n=m+1:=⟨n-1,aC⟩;obtain⟨a,ha⟩:∃a,ws[m]? =some a:=⟨ws[m],oX aC⟩;obtain⟨o',yO,hw⟩:=zlR hc m a i ha hn;rw[hi] at yO;obtain rfl:=cJ yO;have:=(h.pre m a ha).1 (hd a hw);omega
  .omega
 subst hk;have mono:∀j,bQ.getD j false=true->(bQ.setIfInBounds i true).getD j false=true:=λj hj=>by
  by_cases e:j=i
  .subst e;simp[hz]
  .rw[Qe false (Ne.symm e)];exact hj
 refine⟨rfl,λa oa ha hl j hj=>?_,aC,λm a ha=>?_⟩
 .by_cases e:a=i
  .subst e
   rw[hi] at ha;obtain rfl:=cJ ha;exact mono j (hd j hj)
  .rw[Qe false (Ne.symm e)] at hl
   exact mono j (h.closed a oa ha hl j hj)
 .by_cases e:a=i
  .subst e
   have hm:m=n:=by
    have h1:m<ws.length:=(lR.1 ha).1;have e1:=(lR.1 ha).2;have e2:=(lR.1 hn).2;exact(List.getElem_inj kU).1 (e1.trans e2.symm)
   subst hm;simp[hz]
  .have hm:m≠n:=λx=>e (by subst x;rw[hn] at ha;exact(cJ ha).symm)
   rw[Qe false (Ne.symm e),h.pre m a ha];omega
theorem zy9 (t:Array aF)(d:List Gr):(bJ t d).eval=(bJ t []).eval:=by funext x;cases x<;>rfl
theorem zpJ (K:Le ops):∀{ws:List Nat},Jq ops ws=true->∀(n i:Nat),ws[n]? =some i->i<ops.size
 |[],_,n,i,hi=>by simp at hi
 |[a],hc,0,i,hi=>by simp at hi;subst hi;simpa[Jq] using hc
 |[a],hc,n+1,i,hi=>by simp at hi
 |a::b::l,hc,0,i,hi=>by
  simp at hi;subst hi;obtain⟨o,h1,h2⟩:=zlR hc 0 a b rfl rfl;unfold Et at h2;rw[zfV] at h2;obtain⟨x,hx,h3⟩:=h2;simp only[iY,beq_iff_eq] at h3;have:=K.bk b o h1 _ (zq1 hx) h3.1
  grind
 |a::b::l,hc,n+1,i,hi=>by
  simp only[Jq,iY] at hc;exact zpJ K hc.2 n i zdA
theorem zIg (K:Le ops)(kU:ws.Nodup)(hc:Jq ops ws=true)(hT:r8 ops vals t0 (oC ops.size true) Tf){d:List Gr}
 (hop:∀(i:Nat) (o:aZ),ops[i]? =some o->bR P ops ws Wd Tf i o (vals i)) (hk:Q .normal ⟨Tf,d⟩ (Wd ws.length)):
 ∀(fuel:Nat) (bQ:Array Bool) (t:Array aF) (k:Nat),bQ.size=ops.size->((iX ops.size).filter λi=>!bQ.getD i false).length<=fuel->r8 ops vals t0 bQ t->J3 ops ws bQ k->
  wpAny P .any ops Q fuel bQ ⟨t,d⟩ (Wd k):=by
 have zD7:=zpJ K hc;have fin:∀(bQ:Array Bool) (t:Array aF) (k:Nat),bQ.size=ops.size->(∀i,i<ops.size->bQ.getD i false=true)->r8 ops vals t0 bQ t->J3 ops ws bQ k->Q .normal ⟨t,d⟩ (Wd k):=by
  intro bQ t k hz sN hm aX;have e:bQ=oC ops.size true:=by
   apply zgc;intro j;by_cases hj:j<ops.size
   .have:=sN j hj
    have uU:j<bQ.size:=aC;simp[uU] at this;simp[hj,uU,this]
   .rw[My aC,My pR]
  subst e;have e2:=hm.unique hT;subst e2;have e3:k=ws.length:=by
   rcases uE k ws.length with x|x
   .have h1:ws[k]? =some ws[k]:=oX x
    have:=(aX.pre k _ h1).1 (sN _ (zD7 k _ h1));omega
   .have:=aX.le;omega
  rw[e3];exact hk
 intro fuel
 induction fuel with
 |zero=>
  intro bQ t k hz Zx hm aX;have sN:∀i,i<ops.size->bQ.getD i false=true:=λi hi=>by
   cases hl:bQ.getD i false with
   |true=>rfl
   |false=>
    have:i∈(iX ops.size).filter λi=>!bQ.getD i false:=L9.2 ⟨D4.2 hi,by rw[hl];rfl⟩;have:=List.length_pos_of_mem this;omega
  refine⟨?_,fin bQ t k hz sN hm aX⟩;apply List.eq_nil_iff_forall_not_mem.2;intro i hi;obtain⟨hu,o,ho,_⟩:=zmZ.1 hi;have:=sN i (eE.1 ho).1;rw[zs3 hu] at this;cases this
 |succ fuel ih=>
  intro bQ t k hz Zx hm aX;refine⟨λhr=>fin bQ t k hz (zq7 K hz hr) hm aX,λi hi=>?_⟩;obtain⟨hu,o,ho,tU⟩:=zmZ.1 hi;have Ml:=zs3 hu;have mE:=hm.sees K hT ho tU;have Xn:=hm.step K ho hz hu;have Hw:i<ops.size:=(eE.1 ho).1;have hw:∀j,Et o j=true->bQ.getD j false=true:=λj hj=>by
   unfold Et at hj;rw[zfV] at hj;obtain⟨x,hx,h3⟩:=hj;simp only[iY,beq_iff_eq] at h3;have:=tU _ (zq1 hx) h3.1
   rwa [h3.2] at this
  have zAv:((iX ops.size).filter λj=>!(bQ.setIfInBounds i true).getD j false).length<=fuel:=by
   have aU:((iX ops.size).filter λj=>!(bQ.setIfInBounds i true).getD j false).length<((iX ops.size).filter λj=>!bQ.getD j false).length:=by
    have e:((iX ops.size).filter λj=>!(bQ.setIfInBounds i true).getD j false)=((iX ops.size).filter λj=>!bQ.getD j false).filter (λj=>j !=i):=by
     rw[List.filter_filter];apply List.filter_congr;intro j hj;by_cases e:j=i
     .subst e
      have:j<bQ.size:=aC;simp[this]
     .rw[Qe false (Ne.symm e)]
      simp[e]
    rw[e];refine List.length_filter_lt_length_iff_exists.2 ⟨i,L9.2 ⟨D4.2 Hw,?_⟩,aQ⟩;rw[Ml];rfl
   omega
  have put_eq:∀v,(b7 ⟨t,d⟩ o.dst v)=⟨(match o.dst with|some s=>t.setIfInBounds s v|none=>t),d⟩:=λv=>by
   unfold b7;cases o.dst<;>rfl
  have goon:∀k',J3 ops ws (bQ.setIfInBounds i true) k'->wpAny P .any ops Q fuel (bQ.setIfInBounds i true) (b7 ⟨t,d⟩ o.dst (vals i)) (Wd k'):=λk' Nd=>by
   rw[put_eq];exact ih _ _ k' (by simp[hz]) zAv Xn Nd
  have nG:(bJ t d).eval=(bJ t []).eval:=zy9 t d;unfold wpOp;simp only[ho];rcases hop i o ho with⟨hn,h1,h2⟩|⟨hn,h1,h2⟩|⟨n,hn,h1,h2⟩|⟨n,hn,h1,hv,h2⟩|⟨n,hn,h1,hd,u,h2⟩
  .rw[if_neg (by rw[(Zy mE).trans h1];simp),<-h2]
   exact goon k (aX.keep ho hn hw)
  .rw[if_pos ((Zy mE).trans h1)]
   refine .inl ?_;have zGc:zcE ops ws i k=true:=by
    unfold zcE;rw[iY,uD,uD];refine⟨λj hj=>?_,λj hj=>?_⟩
    .obtain⟨m,wH⟩:=zse hj
     rw[List.getElem?_take] at wH;split at wH
     .next zdy=>
      split
      .next oj hoj=>
       cases hq:zdf ops 5 oj i with
       |false=>rfl
       |true=>
        have:=aX.closedT 5 j oj hoj ((aX.pre m j wH).2 zdy) i hq;rw[Ml] at this;cases this
      .rfl
     .cases wH
    .obtain⟨m,wH⟩:=zse hj
     rw[List.getElem?_drop] at wH;simp only[ho]
     cases hq:Et o j with
     |false=>rfl
     |true=>
      have:=(aX.pre (k+m) j wH).1 (hw j hq);omega
   show o.upon P ⟨t,d⟩ _ Q ((aO (bJ t d).eval o).run P (Wd k));rw[nG,F0 (K.sel i o ho) mE,h2 k aX.le zGc];exact goon k (aX.keep ho hn hw)
  .rw[if_pos ((Zy mE).trans h1)]
   refine .inl ?_;obtain⟨rfl,Nd⟩:=aX.next kU hc ho aC hn Ml hw;show o.upon P ⟨t,d⟩ _ Q ((aO (bJ t d).eval o).run P (Wd n));rw[nG,F0 (K.sel i o ho) mE,h2];exact goon _ Nd
  .rw[if_pos ((Zy mE).trans h1)]
   refine .inl ?_;obtain⟨rfl,Nd⟩:=aX.next kU hc ho aC hn Ml hw;show o.upon P ⟨t,d⟩ _ Q ((aO (bJ t d).eval o).run P (Wd n));rw[nG,F0 (K.sel i o ho) mE,h2];have:=goon _ Nd;rw[hv] at this;exact this
  .rw[if_pos ((Zy mE).trans h1)]
   refine .inl ?_;obtain⟨rfl,Nd⟩:=aX.next kU hc ho aC hn Ml hw;show o.upon P ⟨t,d⟩ _ Q ((aO (bJ t d).eval o).run P (Wd n));rw[nG,F0 (K.sel i o ho) mE,h2];have:=goon _ Nd;have e:∀x y,b7 ⟨t,d⟩ o.dst x=b7 ⟨t,d⟩ o.dst y:=λx y=>by rw[hd];rfl
   rw[e _ u] at this;exact this
theorem zzu {id:Nat}{w:aE}{d:List Gr}(hm:P.follows .mixedOrders=true)(bU:Ir ops=true)(kU:ws.Nodup)(hc:Jq ops ws=true)(h0:Wd 0={w with drawn:=w.drawn+1})(hT:dF ops vals t0=Tf)
 (hop:∀(i:Nat) (o:aZ),ops[i]? =some o->bR P ops ws Wd Tf i o (vals i)) (hk:Q .normal ⟨Tf,d⟩ (Wd ws.length)):(Code.region id ops true).wp P Q ⟨t0,d⟩ w:=by
 refine wp_region_any hm ?_;have K:=Qw bU;subst hT;rw[<-h0];refine zIg K kU hc (So K) hop hk ops.size _ t0 0 aQ (eM (za5 _ _) aQ) (r8.start _ λi=>by by_cases hi:i<ops.size<;>simp[hi]) ⟨λi o _ hl=>?_,mP _,λn i hn=>?_⟩
 .exfalso
  by_cases hi:i<ops.size<;>simp[hi] at hl
 .constructor
  .intro hl
   exfalso;by_cases hi:i<ops.size<;>simp[hi] at hl
  .intro x;omega
theorem Ji {id:Nat}{w:aE}{d:List Gr}(hm:P.follows .mixedOrders=true)(bU:Ir ops=true)(kU:ws.Nodup)(hc:Jq ops ws=true)(h0:Wd 0={w with drawn:=w.drawn+1})(cK:∀s,Hl ops s=true->s<t0.size)
 (h:∀V:Nat->aF,(∀(i:Nat) (o:aZ) (d:Tmp),ops[i]? =some o->o.dst=some d->V d=vals i)->(∀s,Hl ops s=false->V s=t0.getD s aA)->
  ∀Tf,xO Tf V->∀(i:Nat) (o:aZ),ops[i]? =some o->bR P ops ws Wd Tf i o (valV V o)) (hk:Q .normal ⟨dF ops vals t0,d⟩ (Wd ws.length)):(Code.region id ops true).wp P Q ⟨t0,d⟩ w:=by
 have K:=Qw bU;have M:=So (vals:=vals) (t0:=t0) K
 let Tf:=dF ops vals t0
 have znI:∀(i:Nat) (o:aZ) (d:Tmp),ops[i]? =some o->o.dst=some d->Tf.getD d aA=vals i:=λi o d h1 h2=>by
  have Hw:i<ops.size:=(eE.1 h1).1;rw[xE,M.got i o d h1 h2 (cK d (zj8 h1 h2)) (by simp[Hw])];rfl
 have zq8:∀s,Hl ops s=false->Tf.getD s aA=t0.getD s undef:=λs hs=>by
  rw[xE,M.old s (λi o h1 _ h2=>by rw[zj8 h1 h2] at hs;cases hs),xE]
 have hop:=h (λs=>Tf.getD s aA) znI zq8 Tf (λs=>rfl)
 let zcn:Nat->Value:=λi=>match ops[i]? with|some o=>valV (λs=>Tf.getD s aA) o|none=>aA
 have e:dF ops zcn t0=dF ops vals t0:=by
  refine(So (vals:=zcn) K).unique ⟨M.size,λi o d h1 h2 h3 h4=>?_,M.old⟩;rw[M.got i o d h1 h2 h3 h4];show some (vals i)=some (match ops[i]? with|some o=>valV (λs=>Tf.getD s aA) o|none=>aA);rw[h1];simp only[valV,h2];rw[znI i o d h1 h2]
 refine zzu hm bU kU hc h0 e (λi o h1=>?_) hk
 grind
end
end Go.Mt
namespace Go.Mt
open Go.Conc Go.Tt Go.RowKit
section
variable {P:bT}{ops:Array aZ}{ws:List Nat}{Wd:Nat->aE}{Tf:Array aF}{V:Nat->aF}{i d:Nat}{o:aZ}{v:aF}
theorem bR.pv (hn:i∉ws:=by decide)(h:dG o (dO ops Tf)=true:=by exact dW rfl)(hv:V d=v:=by assumption)
 (hx:∀w,(aO (bJ Tf []).eval o).run P w=.ok (.value v) w:=by intro w;unfold execOp;go_simp):bR P ops ws Wd Tf i o (V d):=hv▸ .val hn h λ_ _ _=>hx _
def early (ops:Array aZ)(ws:List Nat)(i:Nat):Bool:=(iX ws.length).all λk=>!zcE ops ws i (k+1)
theorem bR.ld {w0:aE}(h0:Wd 0=w0:=by assumption)(hn:i∉ws:=by decide)(h:dG o (dO ops Tf)=true:=by exact dW rfl)(hv:V d=v:=by assumption)(hm:early ops ws i=true:=by decide+kernel)
 (hx:(aO (bJ Tf []).eval o).run P w0=.ok (.value v) w0:=by unfold execOp;go_simp):bR P ops ws Wd Tf i o (V d):=hv▸ .val hn h λk hk zdy=>by
 rcases k with _|k
 .rw[h0];exact hx
 .have:=uD.1 hm k (D4.2 aC)
  rw[zdy] at this;cases this
theorem bR.any (hx:∀k,k<=ws.length->zcE ops ws i k=true->(aO (bJ Tf []).eval o).run P (Wd k)=.ok (.value v) (Wd k))(hn:i∉ws:=by decide)(h:dG o (dO ops Tf)=true:=by exact dW rfl)(hv:V d=v:=by assumption):bR P ops ws Wd Tf i o (V d):=
 hv▸ .val hn h hx
def zipV (V:Nat->aF):List (Option Nat)->List aF->Prop
 |some d::D,v::l=>V d=v/\zipV V D l
 |none::D,_::l=>zipV V D l
 |_,_=>True
theorem zj6:∀(D:List (Option Nat)) (l:List aF),(∀(i:Nat) (d:Nat),D[i]? =some (some d)->i<l.length->V d=l.getD i aA)->zipV V D l
 |some d::D,v::l,h=>⟨h 0 d rfl aQ,zj6 D l λi d' e hi=>by simpa using h (i+1) d' (by simpa using e) zdA⟩
 |none::D,_::l,h=>zj6 D l λi d' e hi=>by simpa using h (i+1) d' (by simpa using e) zdA
 |[],_,_=>trivial
 |some _::_,[],_=>trivial
 |none::_,[],_=>trivial
theorem Ik {l:List aF}{D:List (Option Nat)}(hD:ops.toList.map (·.dst)=D)(hU:∀(i:Nat) (o:aZ) (d:Tmp),ops[i]? =some o->o.dst=some d->V d=l.getD i aA):zipV V D l:=
 zj6 D l λi d e _=>by
  rw[<-hD,List.getElem?_map] at e;obtain⟨o,h1,h2⟩:=zW.1 e;exact hU i o d (by rw[<-Cf];exact h1) h2
end
end Go.Mt
namespace Go.Proofs.YtfcjiloojkjaeaaGreatDoor
open Go.RowKit Go.Mt Go.Conc Go.Tt Go.Maps
def bodyRG:Go.Code:=(Tryz.f63.body).getD .skip
def rRG7:Go.Code:=match bodyRG with| .seq _ (.seq _ (.seq _ (.seq (a) _)))=>a|_=>.skip
def zB:Array Oper:=match rRG7 with| .region _ ops _=>ops|_=>#[]
def zrJ:zB.toList=[aV zB 0 (some 36) (.fieldAddr 59 (.tmp 2) 2),aV zB 1 (some 37) (.load 45 (.tmp 36)),aV zB 2 (some 38) (.fieldAddr 100 (.tmp 3) 0),aV zB 3 (some 39) (.load 3 (.tmp 38)),aV zB 4 (some 40) (.move (.tmp 6)),aV zB 5 (some 41) (.indexAddr 38 (.tmp 40) (.const (.int .i64 0))),aV zB 6 (some 42) (.load 3 (.tmp 41)),aV zB 7 (some 43) (.fieldAddr 59 (.tmp 2) 1),aV zB 8 (some 44) (.load 3 (.tmp 43)),aV zB 9 (some 45) (.build 50 #[(0,.tmp 39),(1,.tmp 42),(3,.tmp 44),(4,.const (.int .i64 (-1))),(5,.const (.int .i64 (-1))),(6,.const (.string {data:=#[111,112,101,110]}))]),aV zB 10 (some 46) (.buildSlice 45 1 #[(0,.tmp 45)]),aV zB 11 (some 47) (.call ⟨.builtin .append,#[.tmp 37,.tmp 46],#[45,45]⟩),aV zB 12 (some 48) (.fieldAddr 59 (.tmp 2) 2),aV zB 13 none (.store 45 (.tmp 48) (.tmp 47))]:=rfl
def WRG7 (w w3:aE)(gb gf gR nR cR g1 c1 nf cf:Nat)(cc l clk:Int):Nat->aE
 |0=>w.drew
 |1=>(w.alloc (.cells #[.int .i64 cc,.int .i64 l,.int .i64 0,.int .i64 clk,.int .i64 (-1),.int .i64 (-1),.string dY] 50)).drew
 |2=>w3
 |_=>w3.setCell ⟨gb,4,none⟩ (.slice (some ⟨g1,0,none⟩) (nR+1) c1)
theorem znQ:zB.toList.map (·.dst)=[some 36,some 37,some 38,some 39,some 40,some 41,some 42,some 43,some 44,some 45,some 46,some 47,some 48,none]:=by rw[zrJ];rfl
def lRG7 (w w3:aE)(gb gf gR nR cR g1 c1 nf cf:Nat)(cc l clk:Int):List Value:=[.pointer (some ⟨gb,4,none⟩),.slice (some ⟨gR,0,none⟩) nR cR,.pointer (some ⟨gb+1,0,none⟩),.int .i64 (cc),.slice (some ⟨gf,0,none⟩) nf cf,.pointer (some ⟨gf,0,none⟩),.int .i64 (l),.pointer (some ⟨gb,3,none⟩),.int .i64 (clk),.agg #[.int .i64 cc,.int .i64 l,.int .i64 0,.int .i64 clk,.int .i64 (-1),.int .i64 (-1),.string dY],.slice (some ⟨w.heap.size,0,none⟩) 1 1,.slice (some ⟨g1,0,none⟩) (nR+1) c1,.pointer (some ⟨gb,4,none⟩),aA]
def fRG7 (w w3:aE)(gb gf gR nR cR g1 c1 nf cf:Nat)(cc l clk:Int)(i:Nat):Value:=(lRG7 w w3 gb gf gR nR cR g1 c1 nf cf cc l clk).getD i aA
variable {Q:Exit->uB->aE->Prop}{d:List Gr}{t0:Array aF}
theorem wp_RG7 (w w3:aE)(gb gf gR nR cR g1 c1 nf cf:Nat)(cc l clk:Int)(hz:t0.size=60)(Us:t0.getD 2 aA=.pointer (some ⟨gb,0,none⟩))(zlX:t0.getD 3 aA=.pointer (some ⟨gb+1,0,none⟩))(zan:t0.getD 6 aA=.slice (some ⟨gf,0,none⟩) nf cf)(h3:w.cell? ⟨gb,3,none⟩=some (.int .i64 clk))(h4:w.cell? ⟨gb,4,none⟩=some (.slice (some ⟨gR,0,none⟩) nR cR))(hq:w.cell? ⟨gb+1,0,none⟩=some (.int .i64 cc))(hf:w.cell? ⟨gf,0,none⟩=some (.int .i64 l))(E7:0<nf)(fF:(wQ #[45,45] 45 #[.slice (some ⟨gR,0,none⟩) nR cR,.slice (some ⟨w.heap.size,0,none⟩) 1 1]).run aK ((w.alloc (.cells #[.int .i64 cc,.int .i64 l,.int .i64 0,.int .i64 clk,.int .i64 (-1),.int .i64 (-1),.string dY] 50)).drew)=.ok (.slice (some ⟨g1,0,none⟩) (nR+1) c1) w3)(aX:w3.cell? ⟨gb,4,none⟩=some (.slice (some ⟨gR,0,none⟩) nR cR))(nQ:w3.frozen? ⟨gb,4,none⟩=false)(h0:WRG7 w w3 gb gf gR nR cR g1 c1 nf cf cc l clk 0=w.drew)(hk:Q .normal ⟨dF zB (fRG7 w w3 gb gf gR nR cR g1 c1 nf cf cc l clk) t0,d⟩ (w3.setCell ⟨gb,4,none⟩ (.slice (some ⟨g1,0,none⟩) (nR+1) c1))):
 (Ff 7 zB true).wp aK Q ⟨t0,d⟩ w:=by
 refine Ji (ws:=[10,11,13]) (Wd:=WRG7 w w3 gb gf gR nR cR g1 c1 nf cf cc l clk) (vals:=fRG7 w w3 gb gf gR nR cR g1 c1 nf cf cc l clk) vN.mixed aT aH aT h0 Je (λV hU hV=>?_) hk;obtain⟨zEw,zua,zuZ,zjq,zhP,zpz,zs4,zlw,zn3,zi3,Xj,zcA,zlJ,-⟩:=Ik znQ hU;have e2:=(hV 2 aT).trans Us;have e3:=(hV 3 aT).trans zlX;have e6:=(hV 6 aT).trans zan;have zAO:=h3;have L3:=h4;have Ni:=hq;have El:=hf;refine λTf hT=>Jh zrJ ⟨bR.pv,bR.any (λkk gD hm=>?_),bR.pv,bR.ld,bR.pv,bR.any (λkk gD hm=>?_),bR.ld,bR.pv,bR.ld,bR.any (λkk gD hm=>?_),bR.act (v:=V 46) 0 rfl (dW rfl) ?_,bR.act (v:=V 47) 1 rfl (dW rfl) ?_,bR.pv,.skp 2 rfl (dW rfl) rfl ?_,trivial⟩
 .rcases kk with _|_|_|_|kk
  .show(aO _ _).run _ (w.drew)=wP _ (w.drew);have hh:=h4;unfold aO;go_simp
  .show(aO _ _).run _ ((w.alloc (.cells #[.int .i64 cc,.int .i64 l,.int .i64 0,.int .i64 clk,.int .i64 (-1),.int .i64 (-1),.string dY] 50)).drew)=wP _ ((w.alloc (.cells #[.int .i64 cc,.int .i64 l,.int .i64 0,.int .i64 clk,.int .i64 (-1),.int .i64 (-1),.string dY] 50)).drew);have hh:=Aw h4 (.cells #[.int .i64 cc,.int .i64 l,.int .i64 0,.int .i64 clk,.int .i64 (-1),.int .i64 (-1),.string dY] 50);unfold aO;go_simp
  .exact absurd hm nA
  .exact absurd hm nA
  .simp at gD
 .have aS:nf≠0:=by have:=E7;omega
  unfold aO;go_simp
 .unfold aO;go_simp;rfl
 .rw[Xj];show(aO _ _).run _ (w.drew)=wP _ ((w.alloc (.cells #[.int .i64 cc,.int .i64 l,.int .i64 0,.int .i64 clk,.int .i64 (-1),.int .i64 (-1),.string dY] 50)).drew);unfold aO;go_simp
 .rw[zcA];exact za2 rfl (nY hT zua) (nY hT Xj) fF
 .have hs:=aX;have hf:=nQ;show(aO _ _).run _ (w3)=wP _ (w3.setCell ⟨gb,4,none⟩ (.slice (some ⟨g1,0,none⟩) (nR+1) c1));unfold aO;go_simp
def bodyRU:Go.Code:=(Tryz.f65.body).getD .skip
def rRU10:Go.Code:=match bodyRU with| .seq _ (.seq _ (.seq _ (.seq _ (.seq _ (.seq (a) _)))))=>a|_=>.skip
def vY:Array Oper:=match rRU10 with| .region _ ops _=>ops|_=>#[]
def ztv:vY.toList=[aV vY 0 (some 38) (.fieldAddr 59 (.tmp 2) 2),aV vY 1 (some 39) (.load 45 (.tmp 38)),aV vY 2 (some 40) (.fieldAddr 100 (.tmp 7) 0),aV vY 3 (some 41) (.load 3 (.tmp 40)),aV vY 4 (some 42) (.move (.tmp 6)),aV vY 5 (some 43) (.indexAddr 38 (.tmp 42) (.const (.int .i64 0))),aV vY 6 (some 44) (.load 3 (.tmp 43)),aV vY 7 (some 45) (.move (.tmp 1)),aV vY 8 (some 46) (.fieldAddr 59 (.tmp 2) 1),aV vY 9 (some 47) (.load 3 (.tmp 46)),aV vY 10 (some 48) (.fieldAddr 59 (.tmp 2) 1),aV vY 11 (some 49) (.load 3 (.tmp 48)),aV vY 12 (some 50) (.build 50 #[(0,.tmp 41),(1,.tmp 44),(2,.tmp 45),(3,.tmp 47),(4,.tmp 49),(5,.const (.int .i64 (-1))),(6,.const (.string {data:=#[111,112,101,110]}))]),aV vY 13 (some 51) (.buildSlice 45 1 #[(0,.tmp 50)]),aV vY 14 (some 52) (.call ⟨.builtin .append,#[.tmp 39,.tmp 51],#[45,45]⟩),aV vY 15 (some 53) (.fieldAddr 59 (.tmp 2) 2),aV vY 16 none (.store 45 (.tmp 53) (.tmp 52))]:=rfl
def WRU10 (w w3:aE)(gb gc gf gR nR cR g1 c1 nf cf:Nat)(cc l op clk:Int):Nat->aE
 |0=>w.drew
 |1=>(w.alloc (.cells #[.int .i64 cc,.int .i64 l,.int .i64 op,.int .i64 clk,.int .i64 clk,.int .i64 (-1),.string dY] 50)).drew
 |2=>w3
 |_=>w3.setCell ⟨gb,4,none⟩ (.slice (some ⟨g1,0,none⟩) (nR+1) c1)
theorem zxT:vY.toList.map (·.dst)=[some 38,some 39,some 40,some 41,some 42,some 43,some 44,some 45,some 46,some 47,some 48,some 49,some 50,some 51,some 52,some 53,none]:=by rw[ztv];rfl
def lRU10 (w w3:aE)(gb gc gf gR nR cR g1 c1 nf cf:Nat)(cc l op clk:Int):List Value:=[.pointer (some ⟨gb,4,none⟩),.slice (some ⟨gR,0,none⟩) nR cR,.pointer (some ⟨gc,0,none⟩),.int .i64 (cc),.slice (some ⟨gf,0,none⟩) nf cf,.pointer (some ⟨gf,0,none⟩),.int .i64 (l),.int .i64 (op),.pointer (some ⟨gb,3,none⟩),.int .i64 (clk),.pointer (some ⟨gb,3,none⟩),.int .i64 (clk),.agg #[.int .i64 cc,.int .i64 l,.int .i64 op,.int .i64 clk,.int .i64 clk,.int .i64 (-1),.string dY],.slice (some ⟨w.heap.size,0,none⟩) 1 1,.slice (some ⟨g1,0,none⟩) (nR+1) c1,.pointer (some ⟨gb,4,none⟩),aA]
def zjX (w w3:aE)(gb gc gf gR nR cR g1 c1 nf cf:Nat)(cc l op clk:Int)(i:Nat):Value:=(lRU10 w w3 gb gc gf gR nR cR g1 c1 nf cf cc l op clk).getD i aA
theorem wp_RU10 (w w3:aE)(gb gc gf gR nR cR g1 c1 nf cf:Nat)(cc l op clk:Int)(hz:t0.size=59)(Gj:t0.getD 1 aA=.int .i64 (op))(Us:t0.getD 2 aA=.pointer (some ⟨gb,0,none⟩))(zan:t0.getD 6 aA=.slice (some ⟨gf,0,none⟩) nf cf)(Fp:t0.getD 7 aA=.pointer (some ⟨gc,0,none⟩))(h3:w.cell? ⟨gb,3,none⟩=some (.int .i64 clk))(h4:w.cell? ⟨gb,4,none⟩=some (.slice (some ⟨gR,0,none⟩) nR cR))(hq:w.cell? ⟨gc,0,none⟩=some (.int .i64 cc))(hf:w.cell? ⟨gf,0,none⟩=some (.int .i64 l))(E7:0<nf)(fF:(wQ #[45,45] 45 #[.slice (some ⟨gR,0,none⟩) nR cR,.slice (some ⟨w.heap.size,0,none⟩) 1 1]).run aK ((w.alloc (.cells #[.int .i64 cc,.int .i64 l,.int .i64 op,.int .i64 clk,.int .i64 clk,.int .i64 (-1),.string dY] 50)).drew)=.ok (.slice (some ⟨g1,0,none⟩) (nR+1) c1) w3)(aX:w3.cell? ⟨gb,4,none⟩=some (.slice (some ⟨gR,0,none⟩) nR cR))(nQ:w3.frozen? ⟨gb,4,none⟩=false)(h0:WRU10 w w3 gb gc gf gR nR cR g1 c1 nf cf cc l op clk 0=w.drew)(hk:Q .normal ⟨dF vY (zjX w w3 gb gc gf gR nR cR g1 c1 nf cf cc l op clk) t0,d⟩ (w3.setCell ⟨gb,4,none⟩ (.slice (some ⟨g1,0,none⟩) (nR+1) c1))):
 (Ff 10 vY true).wp aK Q ⟨t0,d⟩ w:=by
 refine Ji (ws:=[13,14,16]) (Wd:=WRU10 w w3 gb gc gf gR nR cR g1 c1 nf cf cc l op clk) (vals:=zjX w w3 gb gc gf gR nR cR g1 c1 nf cf cc l op clk) vN.mixed aT aH aT h0 Je (λV hU hV=>?_) hk;obtain⟨zuZ,zjq,zhP,zpz,zs4,zlw,zn3,zi3,Xj,zcA,zlJ,Yd,zgm,Yp,W9,zji,-⟩:=Ik zxT hU;have e1:=(hV 1 aT).trans Gj;have e2:=(hV 2 aT).trans Us;have e6:=(hV 6 aT).trans zan;have e7:=(hV 7 aT).trans Fp;have zAO:=h3;have L3:=h4;have Ni:=hq;have El:=hf;refine λTf hT=>Jh ztv ⟨bR.pv,bR.any (λkk gD hm=>?_),bR.pv,bR.ld,bR.pv,bR.any (λkk gD hm=>?_),bR.ld,bR.pv,bR.pv,bR.ld,bR.pv,bR.ld,bR.any (λkk gD hm=>?_),bR.act (v:=V 51) 0 rfl (dW rfl) ?_,bR.act (v:=V 52) 1 rfl (dW rfl) ?_,bR.pv,.skp 2 rfl (dW rfl) rfl ?_,trivial⟩
 .rcases kk with _|_|_|_|kk
  .show(aO _ _).run _ (w.drew)=wP _ (w.drew);have hh:=h4;unfold aO;go_simp
  .show(aO _ _).run _ ((w.alloc (.cells #[.int .i64 cc,.int .i64 l,.int .i64 op,.int .i64 clk,.int .i64 clk,.int .i64 (-1),.string dY] 50)).drew)=wP _ ((w.alloc (.cells #[.int .i64 cc,.int .i64 l,.int .i64 op,.int .i64 clk,.int .i64 clk,.int .i64 (-1),.string dY] 50)).drew);have hh:=Aw h4 (.cells #[.int .i64 cc,.int .i64 l,.int .i64 op,.int .i64 clk,.int .i64 clk,.int .i64 (-1),.string dY] 50);unfold aO;go_simp
  .exact absurd hm nA
  .exact absurd hm nA
  .simp at gD
 .have aS:nf≠0:=by have:=E7;omega
  unfold aO;go_simp
 .unfold aO;go_simp;rfl
 .rw[Yp];show(aO _ _).run _ (w.drew)=wP _ ((w.alloc (.cells #[.int .i64 cc,.int .i64 l,.int .i64 op,.int .i64 clk,.int .i64 clk,.int .i64 (-1),.string dY] 50)).drew);unfold aO;go_simp
 .rw[W9];exact za2 rfl (nY hT zjq) (nY hT Yp) fF
 .have hs:=aX;have hf:=nQ;show(aO _ _).run _ (w3)=wP _ (w3.setCell ⟨gb,4,none⟩ (.slice (some ⟨g1,0,none⟩) (nR+1) c1));unfold aO;go_simp
def bodyWT:Go.Code:=(Tryz.f67.body).getD .skip
def rWT10:Go.Code:=match bodyWT with| .seq _ (.seq _ (.seq _ (.seq _ (.seq (.seq _ (.block _ (.loop (.seq _ (.seq (.block _ (.seq _ (.seq _ (.cond _ (.seq _ (.seq (a) _)) _)))) _))))) _))))=>a|_=>.skip
def Ek:Array Oper:=match rWT10 with| .region _ ops _=>ops|_=>#[]
def zsS:Ek.toList=[aV Ek 0 (some 51) (.fieldAddr 59 (.tmp 2) 4),aV Ek 1 (some 52) (.load 57 (.tmp 51)),aV Ek 2 (some 53) (.move (.tmp 7)),aV Ek 3 (some 54) (.move (.tmp 8)),aV Ek 4 (some 55) (.indexAddr 57 (.tmp 53) (.tmp 54)),aV Ek 5 (some 56) (.load 100 (.tmp 55)),aV Ek 6 (some 57) (.buildSlice 57 1 #[(0,.tmp 56)]),aV Ek 7 (some 58) (.call ⟨.builtin .append,#[.tmp 52,.tmp 57],#[57,57]⟩),aV Ek 8 (some 59) (.fieldAddr 59 (.tmp 2) 4),aV Ek 9 none (.store 57 (.tmp 59) (.tmp 58))]:=rfl
def WWT10 (w w3:aE)(gb gW nW cW gB nB cB g1 c1 k:Nat)(xc xp:Int):Nat->aE
 |0=>w.drew
 |1=>(w.alloc (.cells #[.int .i64 xc,.int .i64 xp] 100)).drew
 |2=>w3
 |_=>w3.setCell ⟨gb,6,none⟩ (.slice (some ⟨g1,0,none⟩) (nB+1) c1)
theorem ztu:Ek.toList.map (·.dst)=[some 51,some 52,some 53,some 54,some 55,some 56,some 57,some 58,some 59,none]:=by rw[zsS];rfl
def lWT10 (w w3:aE)(gb gW nW cW gB nB cB g1 c1 k:Nat)(xc xp:Int):List Value:=[.pointer (some ⟨gb,6,none⟩),.slice (some ⟨gB,0,none⟩) nB cB,.slice (some ⟨gW,0,none⟩) nW cW,.int .i64 (k:Int),.pointer (some ⟨gW,k*2,none⟩),.agg #[.int .i64 xc,.int .i64 xp],.slice (some ⟨w.heap.size,0,none⟩) 1 1,.slice (some ⟨g1,0,none⟩) (nB+1) c1,.pointer (some ⟨gb,6,none⟩),aA]
def zh8 (w w3:aE)(gb gW nW cW gB nB cB g1 c1 k:Nat)(xc xp:Int)(i:Nat):Value:=(lWT10 w w3 gb gW nW cW gB nB cB g1 c1 k xc xp).getD i aA
theorem wp_WT10 (w w3:aE)(gb gW nW cW gB nB cB g1 c1 k:Nat)(xc xp:Int)(hz:t0.size=71)(Us:t0.getD 2 aA=.pointer (some ⟨gb,0,none⟩))(Fp:t0.getD 7 aA=.slice (some ⟨gW,0,none⟩) nW cW)(zl3:t0.getD 8 aA=.int .i64 (k:Int))(h6:w.cell? ⟨gb,6,none⟩=some (.slice (some ⟨gB,0,none⟩) nB cB))(sH:w.cell? ⟨gW,k*2,none⟩=some (.int .i64 xc))(Ja:w.cell? ⟨gW,k*2+1,none⟩=some (.int .i64 xp))(sP:k<nW)(fF:(wQ #[57,57] 57 #[.slice (some ⟨gB,0,none⟩) nB cB,.slice (some ⟨w.heap.size,0,none⟩) 1 1]).run aK ((w.alloc (.cells #[.int .i64 xc,.int .i64 xp] 100)).drew)=.ok (.slice (some ⟨g1,0,none⟩) (nB+1) c1) w3)(aX:w3.cell? ⟨gb,6,none⟩=some (.slice (some ⟨gB,0,none⟩) nB cB))(nQ:w3.frozen? ⟨gb,6,none⟩=false)(h0:WWT10 w w3 gb gW nW cW gB nB cB g1 c1 k xc xp 0=w.drew)(hk:Q .normal ⟨dF Ek (zh8 w w3 gb gW nW cW gB nB cB g1 c1 k xc xp) t0,d⟩ (w3.setCell ⟨gb,6,none⟩ (.slice (some ⟨g1,0,none⟩) (nB+1) c1))):
 (Ff 10 Ek true).wp aK Q ⟨t0,d⟩ w:=by
 refine Ji (ws:=[6,7,9]) (Wd:=WWT10 w w3 gb gW nW cW gB nB cB g1 c1 k xc xp) (vals:=zh8 w w3 gb gW nW cW gB nB cB g1 c1 k xc xp) vN.mixed aT aH aT h0 Je (λV hU hV=>?_) hk;obtain⟨Yp,W9,zji,zya,zJw,zKx,zpT,zou,zAK,-⟩:=Ik ztu hU;have e2:=(hV 2 aT).trans Us;have e7:=(hV 7 aT).trans Fp;have e8:=(hV 8 aT).trans zl3;have zIT:=h6;have zKI:=sH;have zIR:=Ja;refine λTf hT=>Jh zsS ⟨bR.pv,bR.any (λkk gD hm=>?_),bR.pv,bR.pv,bR.any (λkk gD hm=>?_),bR.ld,bR.act (v:=V 57) 0 rfl (dW rfl) ?_,bR.act (v:=V 58) 1 rfl (dW rfl) ?_,bR.pv,.skp 2 rfl (dW rfl) rfl ?_,trivial⟩
 .rcases kk with _|_|_|_|kk
  .show(aO _ _).run _ (w.drew)=wP _ (w.drew);have hh:=h6;unfold aO;go_simp
  .show(aO _ _).run _ ((w.alloc (.cells #[.int .i64 xc,.int .i64 xp] 100)).drew)=wP _ ((w.alloc (.cells #[.int .i64 xc,.int .i64 xp] 100)).drew);have hh:=Aw h6 (.cells #[.int .i64 xc,.int .i64 xp] 100);unfold aO;go_simp
  .exact absurd hm nA
  .exact absurd hm nA
  .simp at gD
 .have i0:(0:Int)<=(k:Int):=aC
  have i1:(k:Int)<(nW:Int):=by have:=sP;omega
  unfold aO;go_simp
 .rw[zpT];show(aO _ _).run _ (w.drew)=wP _ ((w.alloc (.cells #[.int .i64 xc,.int .i64 xp] 100)).drew);unfold aO;go_simp
 .rw[zou];exact za2 rfl (nY hT W9) (nY hT zpT) fF
 .have hs:=aX;have hf:=nQ;show(aO _ _).run _ (w3)=wP _ (w3.setCell ⟨gb,6,none⟩ (.slice (some ⟨g1,0,none⟩) (nB+1) c1));unfold aO;go_simp
end Go.Proofs.YtfcjiloojkjaeaaGreatDoor
namespace Go.Proofs.YtfcjiloojkjaeaaGreatDoor
open Go.RowKit
def Zt (lo:Nat)(v:fO)(w:aE)(bt:bY×List UInt8)(x:Ending)(w':aE):Prop:=
 ∃v',x=.returned (.tuple #[.agg (fP v' bt.1),.string ⟨bt.2.toArray⟩])/\dR w' lo v' bt.1/\oL v w w'/\xC w.heap.size v v'
structure Qo (r:bY):Prop where
 off:rV r.o=true
 nr:r.recs.length<=1000
 nw:r.wait.length<=1000
 nb:r.back.length<=5000
 nl:r.log.length<=1000
 clk:0<=r.clk/\r.clk<=100000
abbrev G0 (c:bF):Obj:=.cells #[.int .i64 c.c,.int .i64 c.p] 100
variable {o:Option Nat}{i:Nat}
theorem X1 (h:o=some i):Gw o=(i:Int):=by rw[h];rfl
theorem zgd (h:o=none):Gw o= -1:=by rw[h];rfl
variable {o:gG}{rs:List bO}{l:Int}
theorem Xz (h:l∈oM o rs):1<=l/\l<=o.ln:=by
 unfold oM yA at h;rw[L9,Sa] at h;obtain⟨⟨i,hi,rfl⟩,_⟩:=h;rw[D4] at hi;omega
variable {b:bY}
theorem zrV {c:bF}(h:(gN b.recs c.c).isSome=true\/(tV b.back c.c).isSome=true):oY b c=(b,[107,110,111,119,110]):=by
 unfold oY;rw[if_pos tJ]
theorem zGi (lo:Nat)(v:fO)(r:bY)(c:bF)(w:aE)(h:dR w lo v r)(hs:Qo r)(eB:lo<=w.heap.size):
 iR aK 63 #[.agg (fP v r),.agg #[.int .i64 c.c,.int .i64 c.p]] w (Zt lo v w (oY r c)):=by
 obtain⟨gb,eR⟩:=aP w.heap.size;have hl:=h.lts;obtain⟨O,hO⟩:=aP (.cells (fP v r) 59:Obj);obtain⟨C,hC⟩:=aP (.cells #[.int .i64 c.c,.int .i64 c.p] 100:Obj);obtain⟨Z,hZ⟩:=aP (kI:Obj);have lP:(((w.alloc O).alloc C).alloc Z).heap[gb]? =some (H6 v r):=by rw[hO,eR];exact dD (dD (gU _ _) _) _
 have pK:(((w.alloc O).alloc C).alloc Z).heap[gb+1]? =some (G0 c):=by rw[hC,eR];exact dD (lV _ _ aQ) _
 have qU:(((w.alloc O).alloc C).alloc Z).heap[gb+2]? =some kI:=by rw[<-hZ];exact lV _ _ Zj
 have jC:=aD (((h.alloc O).alloc C).alloc Z);have Fq:=aD (oL.of_below v (eD (eD (eD (fN w.heap.size w) O) C) Z));have pF:=aD (show(((w.alloc O).alloc C).alloc Z).heap.size=gb+3 by rw[eR];simp);have zP:=aD lP;have zaV:=aD pK;have znu:=aD qU;have HO:=aD hO;have HC:=aD hC;have HZ:=aD (show Z=.cells #[.int .i64 0,.int .i64 0,.int .i64 0,.int .i64 0,.slice none 0 0,.slice none 0 0,.slice none 0 0,.slice none 0 0] 59 from hZ);have fR:=aD eR;have HL:=aD hl;clear hO hC hZ eR lP pK qU h hl
 go_enter Tryz.func63,Tryz.ntmps63
 go_upto_region 1 with fail
 rw[<-HO.o,<-HC.o,<-HZ.o,<-fR.o];obtain⟨W1,cO⟩:=aP (((w.alloc O).alloc C).alloc Z);rw[<-cO] at zP zaV znu jC Fq pF⊢;clear cO;have k:=aI zP.o;obtain⟨k0,k1,k2,k3,k4,k5,k6,k7⟩:=eJ k;clear k;have Qa:=hs.nr
 go_upto_region 2 with(go_at_call 90;refine(zpH lo v r W1 jC.o aC hs.off).mono ?_;rintro x w2 ⟨_,rfl,gf,cf,rfl,cZ,b2⟩;have Ur:=aD cZ;have jK:=aD b2;clear cZ b2)
 have jR:=aD (jC.o.below jK.o);have Ri:=aD (Fq.o.same (oL.of_below v jK.o));have Hj:=(mH jK.o zP.o).1;have Io:=(mH jK.o zaV.o).1;have kC:=aD (mH jK.o znu.o).1;have zci:=aD Hj;have zjj:=aD Io;have zed:=aD (show gb+3<=w2.heap.size by have:=jK.o.size;have:=pF.o;omega);have zbv:=aD (Ur.o.lt gf rfl);clear k0 k1 k2 k3 k4 k5 k6 k7;have k:=aI Hj;obtain⟨k0,k1,k2,k3,k4,k5,k6,k7⟩:=eJ k;have q:=aI Io;have q0:=q 0;have q1:=q 1;have r0:=eO kC.o;have z:=aI kC.o;obtain⟨z0,z1,z2,z3,z4,z5,z6,z7⟩:=eJ z;have vI:=aD jR.o.slcR;have Gd:=aD jR.o.slcB;have nX:=hs.nb;clear k q z Hj Io;rcases hop:gN r.recs c.c with _|i
 .have zaB:=aD (zgd hop)
  rcases uL:tV r.back c.c with _|j
  .have Oj:=aD (zgd uL)
   have eW:=aD (show gH w w2 lo gb 3 v v r from⟨jR.o,Ri.o,xC.refl _ _,fR.o,zci.o,zed.o,aC,by have:=HL.o;have:=fR.o;omega,by have:=HL.o;have:=fR.o;omega,by have:=HL.o;have:=fR.o;omega,by have:=HL.o;have:=fR.o;omega,by rw[fR.o];exact eB⟩);rcases fS:oM r.o r.recs with _|⟨l,fs⟩
   .have fA:=aD (show oY r c=({r with back:=r.back++[c]},[98,117,115,121]) by unfold oY;rw[if_neg (by simp[hop,uL]),fS])
    simp only[Al];clear hop uL fS;obtain⟨i0,fH,fV,dM,jJ⟩:=Cg zhk;have HI:=aD fH;clear fH
    go_upto_region 6 with(first
     |(go_at_call 91;refine(Ko lo w2.heap.size r.recs.length v.cR (some ⟨v.gR,0,none⟩) r.recs c.c w2 vI.o aC).mono ?_;rintro x w' ⟨rfl,jI⟩;obtain rfl:=jI.symm;rw[zaB.o])
     |(go_at_call 92;refine(zbj lo w2.heap.size r.back.length v.cB (some ⟨v.gB,0,none⟩) r.back c.c w2 Gd.o aC).mono ?_;rintro x w' ⟨rfl,jI⟩;obtain rfl:=jI.symm;rw[Oj.o])
     |(at_builtin;refine zhX _ rfl (.tmp 30) (.tmp 32) 57 rfl lo 100 i0 (.agg #[.int .i64 0,.int .i64 0]) 2 16 Ll HI.o fV dM jJ rfl aH v.gB v.cB r.back.length (bG r.back) rfl ((jR.o.alloc _).bk) ⟨_,0,none⟩ 1 1 c.cells rfl rfl ?c2 Qq ?c5 ?c6 ?c7 ?_;(case c2=>exact Fc (cs:=c.cells.toArray) (gU _ _));(case c5=>unfold maxLen;omega);(case c6=>omega);(case c7=>(have:=eW.o.lob;have:=zed.o;simp;omega));intro g1 c1 w3 sG rT B1 Im;have Dd:=aD ((eW.o.alloc _).appB rT sG rfl Im);have zGT:=aD (Af rT (dD kC.o _) (by have:=eW.o.aB;omega));have kx:=(Af rT (dD zci.o _) (by have:=eW.o.aB;omega)).1;have Qj:=aI kx 6;have xV:=eO kx;clear sG rT B1 Im kx))
    obtain⟨W4,qQ⟩:=aP (w3.setCell ⟨gb,6,none⟩ (.slice (some ⟨g1,0,none⟩) (r.back.length+1) c1));rw[<-qQ] at Dd⊢;have zFE:=aD (show W4.heap[gb+2]? =some kI by rw[qQ];exact(dN w3 _ _ (gb+2) aQ).trans zGT.o.1);clear qQ Qj xV;obtain⟨v4,Hk⟩:=aP ({v with gB:=g1,cB:=c1}:fO);obtain⟨r4,Nr⟩:=aP ({r with back:=r.back++[c]}:bY);rw[<-Hk,<-Nr] at Dd;rw[<-Nr] at fA;clear Hk Nr;have k:=aI Dd.o.blk;obtain⟨k0,k1,k2,k3,k4,k5,k6,k7⟩:=eJ k;have kC:=zFE;have z:=aI kC.o;obtain⟨z0,z1,z2,z3,z4,z5,z6,z7⟩:=eJ z;have r0:=eO kC.o;clear k z
    go_wp2_with fail
    have er:=aI (sJ v4 r4 kC.o);refine nF (v:=.tuple #[.agg (fP (v4) (r4)),.string ⟨([98,117,115,121]:List UInt8).toArray⟩]) ?_ rfl ?_
    .unfold gP at er
     simp[results,zgG,go_sem,er]
    .rw[fA.o]
     obtain⟨d1,d2,d3⟩:=Dd.o.done (b:=gb+2) aC;exact⟨v4,rfl,d1,d2,d3⟩
   .obtain⟨nf,E7⟩:=aP ((l::fs).length)
    have yW:=zhS r.recs r.o.ln.toNat;have zkl:=(Bb hs.off).2.1;have Iw:(oM r.o r.recs).length=nf:=by rw[fS,E7]
    have zGH:nf<=6:=by unfold oM at Iw;omega
    have zaQ:0<nf:=by rw[E7];simp
    have Vd:=Xz (o:=r.o) (rs:=r.recs) (l:=l) (by rw[fS];simp);have On:=aD (show w2.ownsRow W1.heap.size 3 1 (.slice (some ⟨gf,0,none⟩) nf cf) nf (jQ (l::fs)) by have:=Ur.o;rw[Iw,fS] at this;exact this);have Km:w2.cell? ⟨gf,0,none⟩=some (.int .i64 l):=On.o.cellAt 0 aC;rw[<-E7];have fA:=aD (show oY r c=({r with recs:=r.recs++[⟨c.c,l,0,r.clk,-1,-1,dY⟩],wait:=sE r.wait c},[108,105,110,101,32]++fW l) by unfold oY;rw[if_neg (by simp[hop,uL]),fS]);have zvi:=aD Vd;have nQ:((nf:Int)==0)=false:=pR;have zFQ:(0:Int)<(nf:Int):=aC;clear hop uL fS E7 yW zkl Iw Vd
    go_upto_region 7 with(first
     |(go_at_call 91;refine(Ko lo w2.heap.size r.recs.length v.cR (some ⟨v.gR,0,none⟩) r.recs c.c w2 vI.o aC).mono ?_;rintro x w' ⟨rfl,jI⟩;obtain rfl:=jI.symm;rw[zaB.o])
     |(go_at_call 92;refine(zbj lo w2.heap.size r.back.length v.cB (some ⟨v.gB,0,none⟩) r.back c.c w2 Gd.o aC).mono ?_;rintro x w' ⟨rfl,jI⟩;obtain rfl:=jI.symm;rw[Oj.o]))
    go_cut [] from 36 to 48 (λwx=>∃g1 c1,gH w wx lo gb 3 v {v with gR:=g1,cR:=c1} {r with recs:=r.recs++[⟨c.c,l,0,r.clk,-1,-1,dY⟩]}/\wx.heap[gb+1]? =some (G0 c)/\wx.heap[gb+2]? =some kI/\wx.ownsRow W1.heap.size 3 1 (.slice (some ⟨gf,0,none⟩) nf cf) nf (jQ (l::fs)))
    case first=>
     obtain⟨i0,fH,fV,dM,jJ⟩:=Cg zwj;have HI:=aD fH;clear fH;have zKA:=zbv.o;have zIF:gb+3<=W1.heap.size:=by have:=pF.o;omega
     have zhD:v.gR<gb:=by have:=HL.o;have:=fR.o;omega
     have kB:∀o:Obj,(w2.alloc o).cell? ⟨gb,4,none⟩=some (v.sR r):=λo=>Aw k4 o;have zlp:gb<w2.heap.size:=by have:=zed.o;omega
     have S0:w2.cell? ⟨gb,3,none⟩=some (.int .i64 r.clk)/\w2.cell? ⟨gb+1,0,none⟩=some (.int .i64 c.c)/\w2.cell? ⟨gf,0,none⟩=some (.int .i64 l):=⟨k3,q0,Km⟩;have Hi:=aD S0;have zJR:gf≠gb:=aC;clear S0;obtain⟨g1,c1,w3,fF,sG,rT,B1,Im⟩:=zfC (P:=aK) (w2.alloc (.cells #[.int .i64 c.c,.int .i64 l,.int .i64 0,.int .i64 r.clk,.int .i64 (-1),.int .i64 (-1),.string dY] 50)).drew 45 45 lo 50 i0 (.agg #[.int .i64 0,.int .i64 0,.int .i64 0,.int .i64 0,.int .i64 0,.int .i64 0,.string ⟨#[]⟩]) 7 64 zwi HI.o fV dM jJ rfl aH v.gR v.cR r.recs.length (recs r.recs) (Br jR.o.rc (λb hb=>rS _ _ b hb)) ⟨w2.heap.size,0,none⟩ 1 1 (bO.cells ⟨c.c,l,0,r.clk,-1,-1,dY⟩) rfl (Fc (cs:=(bO.cells ⟨c.c,l,0,r.clk,-1,-1,dY⟩).toArray) (gU _ _)) zjI X0 aC (by have:=eW.o.lob;have:=zed.o;simp;omega);have qP:=aD rT;have zaF:=aD sG;have zce:=aD Im;have kx:=(Af rT (dD zci.o _) aC).1;have zb4:=aI kx 4;have xV:=eO kx;clear sG rT B1 Im kx;refine wp_RG7 w2 w3 gb gf v.gR r.recs.length v.cR g1 c1 nf cf c.c l r.clk rfl rfl rfl rfl k3 k4 q0 Km aC fF zb4 (xV _) rfl ?_;clear fF zb4 xV;rw[Go.Mt.Ax,znQ];simp only[Go.Mt.xR,dV,dU,fRG7,lRG7,Dz,Dp]
     go_wp2_with fail
     go_meet
     have zB0:gf≠v.gR:=aC;refine⟨g1,c1,((eW.o.alloc _).drew).appR qP.o zaF.o rfl zce.o,?_,?_,?_⟩
     .exact(dN w3 _ _ (gb+1) aQ).trans (Af qP.o (Kg (dD zjj.o _)) aC).1
     .exact(dN w3 _ _ (gb+2) aQ).trans (Af qP.o (Kg (dD kC.o _)) aC).1
     .exact Cn On.o ((dN w3 _ _ gf aC).trans ((qP.o.block gf pR (by simp;exact zB0)).trans (rS _ _ gf aC)))
    case rest=>
     obtain⟨g1,c1,Bu,Io,Hj,fS⟩:=hcut;clear k0 k1 k2 k3 k4 k5 k6 k7 q0 q1 z0 z1 z2 z3 z4 z5 z6 z7 r0 Km;have Zk:=aD Bu;have zjj:=aD Io;have kC:=aD Hj;have On:=aD fS;obtain⟨v1,pD⟩:=aP ({v with gR:=g1,cR:=c1}:fO);obtain⟨r1,jX⟩:=aP ({r with recs:=r.recs++[⟨c.c,l,0,r.clk,-1,-1,dY⟩]}:bY);have zKg:=aD (show r1.wait=r.wait by rw[jX]);have zCa:r1.wait.length<=1000:=by rw[jX];exact hs.nw
     rw[<-pD,<-jX] at Zk;replace fA:=aD (show oY r c=({r1 with wait:=sE r1.wait c},[108,105,110,101,32]++fW l) by rw[fA.o,jX]);clear pD jX Bu Io Hj fS;have k:=aI Zk.o.blk;have k5:=k 5;have kf:=eO Zk.o.blk;have q:=aI zjj.o;have q0:=q 0;have q1:=q 1;clear k q
     go_upto_region 9 with(go_at_call 93;refine(zIq lo wc.heap.size r1.wait.length v1.cW v1.gW r1.wait c wc Zk.o.ok.slcW aC).mono ?_;rintro x w4 ⟨_,rfl,g4,c4,rfl,cZ,b4⟩;have Un:=aD cZ;have uA:=aD b4;have kx:=(mH b4 Zk.o.blk).1;have zkK:=aI kx 5;have xV:=eO kx;clear cZ b4 kx)
     obtain⟨W5,xW⟩:=aP (w4.setCell ⟨gb,5,none⟩ (.slice (some ⟨g4,0,none⟩) (sE r1.wait c).length c4));have D3:=aD (show gH w W5 lo gb 3 v {v1 with gW:=g4,cW:=c4} {r1 with wait:=sE r1.wait c} by rw[xW];exact Zk.o.setW uA.o Un.o rfl);have sK:=aD (show W5.heap[gb+2]? =some kI by rw[xW];exact(dN w4 _ _ (gb+2) aQ).trans (mH uA.o kC.o).1);have zo8:W5.ownsRow W1.heap.size 3 1 (.slice (some ⟨gf,0,none⟩) nf cf) nf (jQ (l::fs)):=by
      rw[xW];have:=zbv.o;have:=pF.o;exact Cn On.o ((dN w4 _ _ gf s9).trans (uA.o.block gf (On.o.lt gf rfl).2))
     have Km:W5.cell? ⟨gf,0,none⟩=some (.int .i64 l):=zo8.cellAt 0 aC;rw[<-xW];clear xW zkK xV k5 kf q0 q1 zo8;obtain⟨v5,nN⟩:=aP ({v1 with gW:=g4,cW:=c4}:fO);obtain⟨r5,eN⟩:=aP ({r1 with wait:=sE r1.wait c}:bY);rw[<-nN,<-eN] at D3;rw[<-eN] at fA;clear nN eN;obtain⟨m,hm⟩:∃m:Nat,l=(m:Int):=⟨l.toNat,by have:=zvi.o;omega⟩;have zai:m<=100000000:=by have:=zvi.o;have:=(Bb hs.off).2.1;omega
     have Jy:(Mc (m:Int)).length<=20:=by rw[Y2];exact Ss aC
     rw[hm] at Km fA;clear hm;have k:=aI D3.o.blk;obtain⟨k0,k1,k2,k3,k4,k5,k6,k7⟩:=eJ k;clear k
     go_wp2_with fail
     go_region_with (go_at_call 94;refine(zaZ m zai _).mono ?_;rintro x w6 ⟨rfl,tN⟩;have Ao:cD W5.heap.size W5 w6:=⟨tN.os,tN.tape,tN.output,tN.size,tN.block⟩;have kJ:=aD Ao;have k:=aI (mH Ao D3.o.blk).1;have r0:=eO (mH Ao sK.o).1;have z:=aI (mH Ao sK.o).1;obtain⟨k0,k1,k2,k3,k4,k5,k6,k7⟩:=eJ k;obtain⟨z0,z1,z2,z3,z4,z5,z6,z7⟩:=eJ z;clear k z tN Ao)
     all_goals
      go_wp2_with fail
      have E9:=D3.o.keep kJ.o;have Um:=(mH kJ.o sK.o).1;have er:=aI (sJ v5 r5 Um);refine nF (v:=.tuple #[.agg (fP v5 r5),.string ⟨([108,105,110,101,32]++fW (m:Int):List UInt8).toArray⟩]) ?_ rfl ?_
      .unfold gP at er
       simp[results,zgG,go_sem,er,fW,N0]
       done
      .rw[fA.o]
       obtain⟨d1,d2,d3⟩:=E9.done (b:=gb+2) aC;exact⟨v5,rfl,d1,d2,d3⟩
  .have Oj:=aD (X1 uL)
   have zjk:(0:Int)<=(j:Int):=aC;have fA:=aD (zrV (b:=r) (c:=c) (.inr (by rw[uL];rfl)));clear hop uL
   go_wp2_with (first
    |(go_at_call 91;refine(Ko lo w2.heap.size r.recs.length v.cR (some ⟨v.gR,0,none⟩) r.recs c.c w2 vI.o aC).mono ?_;rintro x w' ⟨rfl,jI⟩;obtain rfl:=jI.symm;rw[zaB.o])
    |(go_at_call 92;refine(zbj lo w2.heap.size r.back.length v.cB (some ⟨v.gB,0,none⟩) r.back c.c w2 Gd.o aC).mono ?_;rintro x w' ⟨rfl,jI⟩;obtain rfl:=jI.symm;rw[Oj.o]))
   have er:=aI (sJ v r kC.o);refine nF (v:=.tuple #[.agg (fP (v) (r)),.string ⟨([107,110,111,119,110]:List UInt8).toArray⟩]) ?_ rfl ?_
   .unfold gP at er
    simp[results,zgG,go_sem,er]
   .rw[fA.o]
    have l:=HL.o;have gg:=fR.o;have l2:=jR.o.lts;exact⟨v,rfl,jR.o.set8 aC,Ri.o.set8 aC,xC.refl _ _⟩
 .have zaB:=aD (X1 hop)
  have fH:(0:Int)<=(i:Int):=aC;have fA:=aD (zrV (b:=r) (c:=c) (.inl (by rw[hop];rfl)));clear hop
  go_wp2_with (go_at_call 91;refine(Ko lo w2.heap.size r.recs.length v.cR (some ⟨v.gR,0,none⟩) r.recs c.c w2 vI.o aC).mono ?_;rintro x w' ⟨rfl,jI⟩;obtain rfl:=jI.symm;rw[zaB.o])
  have er:=aI (sJ v r kC.o);refine nF (v:=.tuple #[.agg (fP (v) (r)),.string ⟨([107,110,111,119,110]:List UInt8).toArray⟩]) ?_ rfl ?_
  .unfold gP at er
   simp[results,zgG,go_sem,er]
  .rw[fA.o]
   have l:=HL.o;have gg:=fR.o;have l2:=jR.o.lts;exact⟨v,rfl,jR.o.set8 aC,Ri.o.set8 aC,xC.refl _ _⟩
structure zea (r:bY):Prop where
 has:∀x∈r.wait,(gN r.recs x.c).isSome=true
 num:∀x∈r.wait,1<=x.c/\x.c<=99
variable {c:Int}
theorem zH (h:gN rs c=some i):∃d,rs[i]? =some d/\d.c=c/\cS d=true:=by
 unfold gN at h;rw[List.findIdx?_eq_some_iff_getElem] at h;obtain⟨hi,hp,_⟩:=h;refine⟨rs[i],oX hi,?_⟩;unfold Bn at hp;simp at hp;exact hp
variable {w:aE}{r:bY}
def gH.widen {w0:aE}{lo gb:Nat}{v0 v:fO}(h:gH w0 w lo gb 2 v0 v r)(hg:v.gR<gb/\v.gW<gb/\v.gB<gb/\v.gL<gb)(hz:gb+3<=w.heap.size):gH w0 w lo gb 3 v0 v r:=
 ⟨h.ok,h.turn,h.moved,h.base,h.blk,hz,aC,.inl hg.1,.inl hg.2.1,.inl hg.2.2.1,.inl hg.2.2.2,h.lob⟩
theorem zFB (lo:Nat)(v:fO)(r:bY)(op:Int)(w:aE)(h:dR w lo v r)(hs:Qo r)(eB:lo<=w.heap.size)(hq:zea r):
 iR aK 64 #[.agg (fP v r),.int .i64 op] w (Zt lo v w (nH r op)):=by
 obtain⟨gb,O,Z,fR,HO,HZ,eW,kC,pF,HL⟩:=zgf h eB;clear h
 go_enter Tryz.func64,Tryz.ntmps64
 go_upto_region 1 with fail
 rw[<-HO.o,<-HZ.o,<-fR.o];obtain⟨W1,cO⟩:=aP ((w.alloc O).alloc Z);rw[<-cO] at eW kC pF⊢;clear cO;have k:=aI eW.o.blk;obtain⟨k0,k1,k2,k3,k4,k5,k6,k7⟩:=eJ k;clear k;have Qa:=hs.nr;have vI:=aD eW.o.ok.slcR;by_cases lQ:0<dL r.recs op
 .have fA:=aD (show nH r op=(r,[116,97,108,107,115]) by unfold nH;rw[if_pos lQ])
  go_upto_region 2 with(go_at_call 45;refine(Qz lo W1.heap.size r.recs.length v.cR (some ⟨v.gR,0,none⟩) r.recs op W1 vI.o aC).mono ?_;rintro x w2 ⟨rfl,jI⟩;obtain rfl:=jI.symm)
  clear k0 k1 k2 k3 k4 k5 k6 k7 lQ;have k:=aI eW.o.blk;obtain⟨k0,k1,k2,k3,k4,k5,k6,k7⟩:=eJ k;clear k;have z:=aI kC.o;obtain⟨z0,z1,z2,z3,z4,z5,z6,z7⟩:=eJ z;clear z;have r0:=eO kC.o
  go_wp2_with fail
  have er:=aI (sJ v r kC.o);refine nF (v:=.tuple #[.agg (fP (v) (r)),.string ⟨([116,97,108,107,115]:List UInt8).toArray⟩]) ?_ rfl ?_
  .unfold gP at er
   simp[results,zjd,go_sem,er]
  .rw[fA.o]
   obtain⟨d1,d2,d3⟩:=eW.o.done (b:=gb+1) aC;exact⟨v,rfl,d1,d2,d3⟩
 .rcases b9:r.wait with _|⟨c,cs⟩
  .have fA:=aD (show nH r op=(r,[110,111,110,101]) by unfold nH;rw[if_neg lQ,b9])
   have Ep:r.wait.length=0:=by rw[b9];rfl
   have zmh:=aD (show v.sW r=.slice (some ⟨v.gW,0,none⟩) 0 v.cW by unfold fO.sW;rw[Ep]);have zvD:W1.cell? ⟨gb,5,none⟩=some (.slice (some ⟨v.gW,0,none⟩) 0 v.cW):=by rw[k5,<-zmh.o];rfl
   clear k5 Ep b9
   go_upto_region 4 with(go_at_call 45;refine(Qz lo W1.heap.size r.recs.length v.cR (some ⟨v.gR,0,none⟩) r.recs op W1 vI.o aC).mono ?_;rintro x w2 ⟨rfl,jI⟩;obtain rfl:=jI.symm)
   clear k0 k1 k2 k3 k4 zvD k6 k7 lQ;have k:=aI eW.o.blk;obtain⟨k0,k1,k2,k3,k4,k5,k6,k7⟩:=eJ k;clear k;have z:=aI kC.o;obtain⟨z0,z1,z2,z3,z4,z5,z6,z7⟩:=eJ z;clear z;have r0:=eO kC.o
   go_wp2_with fail
   have er:=aI (sJ v r kC.o);refine nF (v:=.tuple #[.agg (fP (v) (r)),.string ⟨([110,111,110,101]:List UInt8).toArray⟩]) ?_ rfl ?_
   .unfold gP at er
    simp[results,zjd,go_sem,er]
   .rw[fA.o]
    obtain⟨d1,d2,d3⟩:=eW.o.done (b:=gb+1) aC;exact⟨v,rfl,d1,d2,d3⟩
  .have hc:=hq.num c U9
   obtain⟨i,wC⟩:=ziw.1 (hq.has c U9);obtain⟨d,hd,zbn,-⟩:=zH wC;have fA:=aD (show nH r op=({r with recs:=r.recs.modify i λd=>{d with o:=op,h:=r.clk},wait:=dE r.wait c.c},[99,97,108,108,32]++fW c.c) by unfold nH;rw[if_neg lQ,b9];simp only[wC]);have Ep:0<r.wait.length:=by rw[b9];simp
   have zb3:=aD (show r.wait[0]? =some c by rw[b9];rfl);have ziM:=eW.o.ok.slcW;have Qp:=aD ziM;obtain⟨b0,zB8,d0,Lw,-,-,-,sH,e0,e1⟩:=ziM.callsAt (k:=0) Ep;rw[zb3.o] at sH;injection sH with sH;injection Lw with Lw;injection Lw with Ad Ap;subst Ad Ap sH;simp only[rH,zuV] at e0 e1;have zBz:(((r.wait.length:Nat):Int)==0)=false:=by simp;intro e;rw[e] at Ep;simp at Ep
   have i0:(0:Int)<(r.wait.length:Int):=aC;have Oe:=aD (X1 wC);have HD:=aD hd;clear wC hd zbn b9 ziM
   go_upto_region 5 with(go_at_call 45;refine(Qz lo W1.heap.size r.recs.length v.cR (some ⟨v.gR,0,none⟩) r.recs op W1 vI.o aC).mono ?_;rintro x w2 ⟨rfl,jI⟩;obtain rfl:=jI.symm)
   clear k0 k1 k2 k3 k4 k6 k7 lQ
   go_upto_region 6 with fail
   rw[pF.o];obtain⟨W2,nZ⟩:=aP (W1.alloc (G0 c));rw[<-nZ];have zbc:=aD (show gH w W2 lo gb 3 v v r by rw[nZ];exact(eW.o.alloc _).widen HL.o (by have:=pF.o;simp;omega));have Dj:=aD (show W2.heap[gb+1]? =some kI by rw[nZ];exact dD kC.o _);have zv8:=aD (show W2.heap[gb+2]? =some (G0 c) by rw[nZ];exact lV _ _ pF.o.symm);clear nZ e0 e1 k5;have zCS:=aD zbc.o.ok.slcR;have k:=aI zbc.o.blk;obtain⟨k0,k1,k2,k3,k4,k5,k6,k7⟩:=eJ k;clear k;have q:=aI zv8.o;have q0:=q 0;have q1:=q 1;clear q
   go_upto_region 7 with(go_at_call 91;refine(Ko lo W2.heap.size r.recs.length v.cR (some ⟨v.gR,0,none⟩) r.recs c.c W2 zCS.o aC).mono ?_;rintro x w2 ⟨rfl,jI⟩;obtain rfl:=jI.symm;rw[Oe.o])
   have hi:=(lR.1 HD.o).1;have fH:(0:Int)<=(i:Int):=aC;have yR:(i:Int)<(r.recs.length:Int):=aC;obtain⟨c0,c1,c2,c3,c4,c5,c6⟩:=zbc.o.ok.recAt HD.o;have fz:=λj=>zbc.o.ok.rc.frozenAt j;have S1:=zbc.o.setR (λd=>{d with o:=op}) HD.o (j:=2) (u:=.int .i64 op) aH zsT rfl;have mL:=aD S1;have Oq:gb+1≠v.gR:=by have:=HL.o;omega
   have zx7:gb+2≠v.gR:=by have:=HL.o;omega
   clear S1
   go_upto_region 8 with fail
   obtain⟨W3,sC⟩:=aP (W2.setCell ⟨v.gR,i*7+2,none⟩ (.int .i64 op));rw[<-sC] at mL⊢;have zao:=aD (show W3.heap[gb+1]? =some kI by rw[sC];exact(dN _ _ _ (gb+1) Oq).trans Dj.o);have zeR:=aD (show W3.heap[gb+2]? =some (G0 c) by rw[sC];exact(dN _ _ _ (gb+2) zx7).trans zv8.o);have Bv:(r.recs.modify i λd=>{d with o:=op})[i]? =some {d with o:=op}:=by rw[I9];simp[HD.o]
   have Y9:=aD Bv;clear sC c0 c1 c2 c3 c4 c5 c6 fz k0 k1 k2 k3 k4 k5 k6 k7 q0 q1 Bv;obtain⟨r1,jX⟩:=aP ({r with recs:=r.recs.modify i λd=>{d with o:=op}}:bY);rw[<-jX] at mL;have jC:=aD jX;have Mv:r1.recs.length=r.recs.length:=by rw[jX];exact Np _ _ _
   have zpK:=aD (show r1.recs[i]? =some {d with o:=op} by rw[jX];exact Y9.o);have Bz:(i:Int)<(r1.recs.length:Int):=by rw[Mv];exact yR
   clear jX Mv;have k:=aI mL.o.blk;obtain⟨k0,k1,k2,k3,k4,k5,k6,k7⟩:=eJ k;clear k;obtain⟨c0,c1,c2,c3,c4,c5,c6⟩:=mL.o.ok.recAt zpK.o;have fz:=λj=>mL.o.ok.rc.frozenAt j;have S2:=mL.o.setR (λd=>{d with h:=r1.clk}) zpK.o (j:=4) (u:=.int .i64 r1.clk) aH zpX rfl;have tH:=aD S2;clear S2
   go_upto_region 9 with fail
   obtain⟨W4,qQ⟩:=aP (W3.setCell ⟨v.gR,i*7+4,none⟩ (.int .i64 r1.clk));rw[<-qQ] at tH⊢;have Sl:=aD (show W4.heap[gb+1]? =some kI by rw[qQ];exact(dN _ _ _ (gb+1) Oq).trans zao.o);have Za:=aD (show W4.heap[gb+2]? =some (G0 c) by rw[qQ];exact(dN _ _ _ (gb+2) zx7).trans zeR.o);clear qQ c0 c1 c2 c3 c4 c5 c6 fz k0 k1 k2 k3 k4 k5 k6 k7;obtain⟨r2,tZ⟩:=aP ({r1 with recs:=r1.recs.modify i λd=>{d with h:=r1.clk}}:bY);rw[<-tZ] at tH;have zJa:r2.wait.length<=1000:=by rw[tZ,jC.o];exact hs.nw
   replace fA:=aD (show nH r op=({r2 with wait:=dE r2.wait c.c},[99,97,108,108,32]++fW c.c) by rw[fA.o,tZ,jC.o];simp only[zhz]);clear tZ;have zDO:=aD tH.o.ok.slcW;have k:=aI tH.o.blk;obtain⟨k0,k1,k2,k3,k4,k5,k6,k7⟩:=eJ k;clear k;have q:=aI Za.o;have q0:=q 0;have q1:=q 1;clear q;have kf:=eO tH.o.blk
   go_upto_region 10 with(go_at_call 95;refine(zd8 lo W4.heap.size r2.wait.length v.cW (some ⟨v.gW,0,none⟩) r2.wait c.c W4 zDO.o aC).mono ?_;rintro x w5 ⟨_,rfl,g5,c5,rfl,cZ,b5⟩;have zbw:=aD cZ;have lJ:=aD b5;have kx:=(mH b5 tH.o.blk).1;have zkK:=aI kx 5;have xV:=eO kx;clear cZ b5 kx)
   obtain⟨W5,xW⟩:=aP (w5.setCell ⟨gb,5,none⟩ (.slice (some ⟨g5,0,none⟩) (dE r2.wait c.c).length c5));have D3:=aD (show gH w W5 lo gb 3 v {v with gW:=g5,cW:=c5} {r2 with wait:=dE r2.wait c.c} by rw[xW];exact tH.o.setW lJ.o zbw.o rfl);have sK:=aD (show W5.heap[gb+1]? =some kI by rw[xW];exact(dN w5 _ _ (gb+1) zio).trans (mH lJ.o Sl.o).1);have zhO:=aD (show W5.heap[gb+2]? =some (G0 c) by rw[xW];exact(dN w5 _ _ (gb+2) (by show gb+2≠gb;omega)).trans (mH lJ.o Za.o).1);rw[<-xW];clear xW zkK xV kf q0 q1 k0 k1 k2 k3 k4 k5 k6 k7;obtain⟨v5,nN⟩:=aP ({v with gW:=g5,cW:=c5}:fO);obtain⟨r5,eN⟩:=aP ({r2 with wait:=dE r2.wait c.c}:bY);rw[<-nN,<-eN] at D3;rw[<-eN] at fA;clear nN eN;obtain⟨m,hm⟩:∃m:Nat,c.c=(m:Int):=⟨c.c.toNat,aC⟩;have zai:m<=100000000:=aC;have Jy:(Mc (m:Int)).length<=20:=by rw[Y2];exact Ss aC
   have k:=aI D3.o.blk;obtain⟨k0,k1,k2,k3,k4,k5,k6,k7⟩:=eJ k;clear k;have q0:=aI zhO.o 0;rw[hm] at q0 fA;clear hm
   go_wp2_with fail
   go_region_with (go_at_call 94;refine(zaZ m zai _).mono ?_;rintro x w6 ⟨rfl,tN⟩;have Ao:cD W5.heap.size W5 w6:=⟨tN.os,tN.tape,tN.output,tN.size,tN.block⟩;have kJ:=aD Ao;have k:=aI (mH Ao D3.o.blk).1;have r0:=eO (mH Ao sK.o).1;have z:=aI (mH Ao sK.o).1;obtain⟨k0,k1,k2,k3,k4,k5,k6,k7⟩:=eJ k;obtain⟨z0,z1,z2,z3,z4,z5,z6,z7⟩:=eJ z;clear k z tN Ao)
   all_goals
    go_wp2_with fail
    have E9:=D3.o.keep kJ.o;have Um:=(mH kJ.o sK.o).1;have er:=aI (sJ v5 r5 Um);refine nF (v:=.tuple #[.agg (fP (v5) (r5)),.string ⟨([99,97,108,108,32]++fW (m:Int):List UInt8).toArray⟩]) ?_ rfl ?_
    .unfold gP at er
     simp[results,zjd,go_sem,er,fW,N0]
    .rw[fA.o]
     obtain⟨d1,d2,d3⟩:=E9.done (b:=gb+1) aC;exact⟨v5,rfl,d1,d2,d3⟩
theorem zBX (lo:Nat)(v:fO)(r:bY)(op:Int)(w:aE)(h:dR w lo v r)(hs:Qo r)(eB:lo<=w.heap.size)(hq:∀x∈r.back,1<=x.c/\x.c<=99):
 iR aK 65 #[.agg (fP v r),.int .i64 op] w (Zt lo v w (l7 r op)):=by
 obtain⟨gb,O,Z,fR,HO,HZ,eW,kC,pF,HL⟩:=zgf h eB;clear h
 go_enter Tryz.func65,Tryz.ntmps65
 go_upto_region 1 with fail
 rw[<-HO.o,<-HZ.o,<-fR.o];obtain⟨W1,cO⟩:=aP ((w.alloc O).alloc Z);rw[<-cO] at eW kC pF⊢;clear cO;have k:=aI eW.o.blk;obtain⟨k0,k1,k2,k3,k4,k5,k6,k7⟩:=eJ k;clear k;have Qa:=hs.nr
 go_upto_region 2 with(go_at_call 90;refine(zpH lo v r W1 eW.o.ok aC hs.off).mono ?_;rintro x w2 ⟨_,rfl,gf,cf,rfl,cZ,b2⟩;have Ur:=aD cZ;have jK:=aD b2;clear cZ b2)
 have mD:=aD (eW.o.keep jK.o);have Dj:=aD (mH jK.o kC.o).1;have zbv:=aD (Ur.o.lt gf rfl);clear k0 k1 k2 k3 k4 k5 k6 k7;have k:=aI mD.o.blk;obtain⟨k0,k1,k2,k3,k4,k5,k6,k7⟩:=eJ k;clear k;have vI:=aD mD.o.ok.slcR;by_cases lQ:0<dL r.recs op
 .have fA:=aD (show l7 r op=(r,[116,97,108,107,115]) by unfold l7;rw[if_pos lQ])
  go_upto_region 3 with(go_at_call 45;refine(Qz lo w2.heap.size r.recs.length v.cR (some ⟨v.gR,0,none⟩) r.recs op w2 vI.o aC).mono ?_;rintro x w9 ⟨rfl,jI⟩;obtain rfl:=jI.symm)
  clear k0 k1 k2 k3 k4 k5 k6 k7 lQ;have k:=aI mD.o.blk;obtain⟨k0,k1,k2,k3,k4,k5,k6,k7⟩:=eJ k;clear k;have z:=aI Dj.o;obtain⟨z0,z1,z2,z3,z4,z5,z6,z7⟩:=eJ z;clear z;have r0:=eO Dj.o
  go_wp2_with fail
  have er:=aI (sJ v r Dj.o);refine nF (v:=.tuple #[.agg (fP (v) (r)),.string ⟨([116,97,108,107,115]:List UInt8).toArray⟩]) ?_ rfl ?_
  .unfold gP at er
   simp[results,zf8,go_sem,er]
  .rw[fA.o]
   obtain⟨d1,d2,d3⟩:=mD.o.done (b:=gb+1) aC;exact⟨v,rfl,d1,d2,d3⟩
 .rcases xA:r.back with _|⟨c,cs⟩
  .have fA:=aD (show l7 r op=(r,[110,111,110,101]) by unfold l7;rw[if_neg lQ,xA])
   have Ep:r.back.length=0:=by rw[xA];rfl
   have zmh:=aD (show v.sB r=.slice (some ⟨v.gB,0,none⟩) 0 v.cB by unfold fO.sB;rw[Ep]);have zfz:w2.cell? ⟨gb,6,none⟩=some (.slice (some ⟨v.gB,0,none⟩) 0 v.cB):=by rw[k6,<-zmh.o];rfl
   clear k6 Ep xA
   go_upto_region 5 with(go_at_call 45;refine(Qz lo w2.heap.size r.recs.length v.cR (some ⟨v.gR,0,none⟩) r.recs op w2 vI.o aC).mono ?_;rintro x w9 ⟨rfl,jI⟩;obtain rfl:=jI.symm)
   clear k0 k1 k2 k3 k4 k5 zfz k7 lQ;have k:=aI mD.o.blk;obtain⟨k0,k1,k2,k3,k4,k5,k6,k7⟩:=eJ k;clear k;have z:=aI Dj.o;obtain⟨z0,z1,z2,z3,z4,z5,z6,z7⟩:=eJ z;clear z;have r0:=eO Dj.o
   go_wp2_with fail
   have er:=aI (sJ v r Dj.o);refine nF (v:=.tuple #[.agg (fP (v) (r)),.string ⟨([110,111,110,101]:List UInt8).toArray⟩]) ?_ rfl ?_
   .unfold gP at er
    simp[results,zf8,go_sem,er]
   .rw[fA.o]
    obtain⟨d1,d2,d3⟩:=mD.o.done (b:=gb+1) aC;exact⟨v,rfl,d1,d2,d3⟩
  .have hc:=hq c zaM
   have Ep:0<r.back.length:=by rw[xA];simp
   have zb3:=aD (show r.back[0]? =some c by rw[xA];rfl);have zBz:(((r.back.length:Nat):Int)==0)=false:=by simp;intro e;rw[e] at Ep;simp at Ep
   rcases fS:oM r.o r.recs with _|⟨l,fs⟩
   .have fA:=aD (show l7 r op=(r,[98,117,115,121]) by unfold l7;rw[if_neg lQ,xA,fS])
    simp only[Al];clear xA fS
    go_upto_region 7 with(go_at_call 45;refine(Qz lo w2.heap.size r.recs.length v.cR (some ⟨v.gR,0,none⟩) r.recs op w2 vI.o aC).mono ?_;rintro x w9 ⟨rfl,jI⟩;obtain rfl:=jI.symm)
    clear k0 k1 k2 k3 k4 k5 k6 k7 lQ;have k:=aI mD.o.blk;obtain⟨k0,k1,k2,k3,k4,k5,k6,k7⟩:=eJ k;clear k;have z:=aI Dj.o;obtain⟨z0,z1,z2,z3,z4,z5,z6,z7⟩:=eJ z;clear z;have r0:=eO Dj.o
    go_wp2_with fail
    have er:=aI (sJ v r Dj.o);refine nF (v:=.tuple #[.agg (fP (v) (r)),.string ⟨([98,117,115,121]:List UInt8).toArray⟩]) ?_ rfl ?_
    .unfold gP at er
     simp[results,zf8,go_sem,er]
    .rw[fA.o]
     obtain⟨d1,d2,d3⟩:=mD.o.done (b:=gb+1) aC;exact⟨v,rfl,d1,d2,d3⟩
   .have fA:=aD (show l7 r op=({r with back:=dE r.back c.c,recs:=r.recs++[⟨c.c,l,op,r.clk,r.clk,-1,dY⟩]},[99,97,108,108,32]++fW c.c) by unfold l7;rw[if_neg lQ,xA,fS])
    obtain⟨nf,E7⟩:=aP ((l::fs).length);have yW:=zhS r.recs r.o.ln.toNat;have zkl:=(Bb hs.off).2.1;have Iw:(oM r.o r.recs).length=nf:=by rw[fS,E7]
    have zGH:nf<=6:=by unfold oM at Iw;omega
    have zaQ:0<nf:=by rw[E7];simp
    have On:=aD (show w2.ownsRow W1.heap.size 3 1 (.slice (some ⟨gf,0,none⟩) nf cf) nf (jQ (l::fs)) by have:=Ur.o;rw[Iw,fS] at this;exact this);rw[<-E7];have nQ:((nf:Int)==0)=false:=pR;have zFQ:(0:Int)<(nf:Int):=aC;have i0:(0:Int)<(r.back.length:Int):=aC;have Dx:=mD.o.ok.slcB;obtain⟨b0,zB8,d0,Lw,-,-,-,sH,e0,e1⟩:=Dx.callsAt (k:=0) Ep;rw[zb3.o] at sH;injection sH with sH;injection Lw with Lw;injection Lw with Ad Ap;subst Ad Ap sH;simp only[rH,zuV] at e0 e1;clear xA fS E7 yW zkl Iw Dx
    go_upto_region 8 with(go_at_call 45;refine(Qz lo w2.heap.size r.recs.length v.cR (some ⟨v.gR,0,none⟩) r.recs op w2 vI.o aC).mono ?_;rintro x w9 ⟨rfl,jI⟩;obtain rfl:=jI.symm)
    clear k0 k1 k2 k3 k4 k5 k7 lQ
    go_upto_region 9 with fail
    obtain⟨gc,Rr⟩:=aP w2.heap.size;have zG6:=aD Rr;rw[<-Rr];obtain⟨W3,sC⟩:=aP (w2.alloc (G0 c));rw[<-sC];have zay:=aD (show gH w W3 lo gb 2 v v r by rw[sC];exact mD.o.alloc _);have zao:=aD (show W3.heap[gb+1]? =some kI by rw[sC];exact dD Dj.o _);have zeR:=aD (show W3.heap[gc]? =some (G0 c) by rw[sC];exact lV _ _ Rr);have zrS:=aD (show W3.ownsRow W1.heap.size 3 1 (.slice (some ⟨gf,0,none⟩) nf cf) nf (jQ (l::fs)) by rw[sC];exact Br On.o (λb hb=>rS _ _ b hb));clear sC e0 e1 k6 Rr;have aU:=HL.o;have zJT:gb+2<=gf:=by have:=zbv.o;have:=pF.o;omega
    have zK9:gf<gc:=by have:=zbv.o;have:=zG6.o;omega
    have zEI:=aD zay.o.ok.slcB;have nX:=hs.nb;have k:=aI zay.o.blk;obtain⟨k0,k1,k2,k3,k4,k5,k6,k7⟩:=eJ k;clear k;have q:=aI zeR.o;have q0:=q 0;have q1:=q 1;clear q;have kf:=eO zay.o.blk
    go_upto_region 10 with(go_at_call 95;refine(zd8 lo W3.heap.size r.back.length v.cB (some ⟨v.gB,0,none⟩) r.back c.c W3 zEI.o aC).mono ?_;rintro x w5 ⟨_,rfl,g5,c5,rfl,cZ,b5⟩;have zbw:=aD cZ;have lJ:=aD b5;have kx:=(mH b5 zay.o.blk).1;have Qj:=aI kx 6;have xV:=eO kx;clear cZ b5 kx)
    obtain⟨W4,qQ⟩:=aP (w5.setCell ⟨gb,6,none⟩ (.slice (some ⟨g5,0,none⟩) (dE r.back c.c).length c5));have Dd:=aD (show gH w W4 lo gb 2 v {v with gB:=g5,cB:=c5} {r with back:=dE r.back c.c} by rw[qQ];exact zay.o.setB lJ.o zbw.o rfl);have Sl:=aD (show W4.heap[gb+1]? =some kI by rw[qQ];exact(dN w5 _ _ (gb+1) zio).trans (mH lJ.o zao.o).1);have Za:=aD (show W4.heap[gc]? =some (G0 c) by rw[qQ];exact(dN w5 _ _ gc (by show gc≠gb;omega)).trans (mH lJ.o zeR.o).1);have zD2:=aD (show W4.ownsRow W1.heap.size 3 1 (.slice (some ⟨gf,0,none⟩) nf cf) nf (jQ (l::fs)) by rw[qQ];exact Cn zrS.o ((dN w5 _ _ gf (by show gf≠gb;omega)).trans (lJ.o.block gf (zrS.o.lt gf rfl).2)));rw[<-qQ];clear qQ Qj xV kf q0 q1 k0 k1 k2 k3 k4 k5 k6 k7;obtain⟨v1,pD⟩:=aP ({v with gB:=g5,cB:=c5}:fO);obtain⟨r1,jX⟩:=aP ({r with back:=dE r.back c.c}:bY);have zhD:v1.gR=v.gR:=by rw[pD]
    have zIO:v1.gR<gb:=by rw[zhD];exact aU.1
    have zKa:r1.recs.length<=1000:=by rw[jX];exact hs.nr
    rw[<-pD,<-jX] at Dd;replace fA:=aD (show l7 r op=({r1 with recs:=r1.recs++[⟨c.c,l,op,r1.clk,r1.clk,-1,dY⟩]},[99,97,108,108,32]++fW c.c) by rw[fA.o,jX]);clear pD jX zhD;have k:=aI Dd.o.blk;obtain⟨k0,k1,k2,k3,k4,k5,k6,k7⟩:=eJ k;clear k;have q0:=aI Za.o 0;have Km:W4.cell? ⟨gf,0,none⟩=some (.int .i64 l):=zD2.o.cellAt 0 aC;have zGU:gc<W4.heap.size:=iB Za.o
    go_cut [] from 38 to 53 (λwx=>∃g1 c1,gH w wx lo gb 2 v {v1 with gR:=g1,cR:=c1} {r1 with recs:=r1.recs++[⟨c.c,l,op,r1.clk,r1.clk,-1,dY⟩]}/\wx.heap[gc]? =some (G0 c)/\wx.heap[gb+1]? =some kI)
    case first=>
     obtain⟨i0,fH,fV,dM,jJ⟩:=Cg zwj;have HI:=aD fH;clear fH;have kB:∀o:Obj,(W4.alloc o).cell? ⟨gb,4,none⟩=some (v1.sR r1):=λo=>Aw k4 o;have zlp:gb<W4.heap.size:=aC;have S0:W4.cell? ⟨gb,3,none⟩=some (.int .i64 r1.clk)/\W4.cell? ⟨gc,0,none⟩=some (.int .i64 c.c)/\W4.cell? ⟨gf,0,none⟩=some (.int .i64 l):=⟨k3,q0,Km⟩;have Hi:=aD S0;clear S0;obtain⟨g1,c1,w3,fF,sG,rT,B1,Im⟩:=zfC (P:=aK) (W4.alloc (.cells #[.int .i64 c.c,.int .i64 l,.int .i64 op,.int .i64 r1.clk,.int .i64 r1.clk,.int .i64 (-1),.string dY] 50)).drew 45 45 lo 50 i0 (.agg #[.int .i64 0,.int .i64 0,.int .i64 0,.int .i64 0,.int .i64 0,.int .i64 0,.string ⟨#[]⟩]) 7 64 zwi HI.o fV dM jJ rfl aH v1.gR v1.cR r1.recs.length (recs r1.recs) (Br Dd.o.ok.rc (λb hb=>rS _ _ b hb)) ⟨W4.heap.size,0,none⟩ 1 1 (bO.cells ⟨c.c,l,op,r1.clk,r1.clk,-1,dY⟩) rfl (Fc (cs:=(bO.cells ⟨c.c,l,op,r1.clk,r1.clk,-1,dY⟩).toArray) (gU _ _)) zjI X0 aC (by have:=Dd.o.lob;simp;omega);have qP:=aD rT;have zaF:=aD sG;have zce:=aD Im;have kx:=(Af rT (dD Dd.o.blk _) aC).1;have zb4:=aI kx 4;have xV:=eO kx;clear sG rT B1 Im kx;refine wp_RU10 W4 w3 gb gc gf v1.gR r1.recs.length v1.cR g1 c1 _ _ c.c l op r1.clk rfl rfl rfl rfl rfl k3 k4 q0 Km aC fF zb4 (xV _) rfl ?_;clear fF zb4 xV;rw[Go.Mt.Ax,zxT];simp only[Go.Mt.xR,dV,dU,zjX,lRU10,Dz,Dp]
     go_wp2_with fail
     go_meet
     refine⟨g1,c1,((Dd.o.alloc _).drew).appR qP.o zaF.o rfl zce.o,?_,?_⟩
     .exact(dN w3 _ _ gc (by show gc≠gb;omega)).trans (Af qP.o (Kg (dD Za.o _)) aC).1
     .exact(dN w3 _ _ (gb+1) zio).trans (Af qP.o (Kg (dD Sl.o _)) aC).1
    case rest=>
     obtain⟨g1,c1,Bu,Io,Hj⟩:=hcut;clear k0 k1 k2 k3 k4 k5 k6 k7 q0 Km zGU;obtain⟨W5,xW⟩:=aP wc;have zhO:=aD (show W5.heap[gc]? =some (G0 c) by rw[xW];exact Io);have sK:=aD (show W5.heap[gb+1]? =some kI by rw[xW];exact Hj);have D3:=aD (show gH w W5 lo gb 2 v {v1 with gR:=g1,cR:=c1} {r1 with recs:=r1.recs++[⟨c.c,l,op,r1.clk,r1.clk,-1,dY⟩]} by rw[xW];exact Bu);clear Bu Io Hj;rw[<-xW];clear xW;obtain⟨v5,nN⟩:=aP ({v1 with gR:=g1,cR:=c1}:fO);obtain⟨r5,eN⟩:=aP ({r1 with recs:=r1.recs++[⟨c.c,l,op,r1.clk,r1.clk,-1,dY⟩]}:bY);rw[<-nN,<-eN] at D3;rw[<-eN] at fA;clear nN eN;obtain⟨m,hm⟩:∃m:Nat,c.c=(m:Int):=⟨c.c.toNat,aC⟩;have zai:m<=100000000:=aC;have Jy:(Mc (m:Int)).length<=20:=by rw[Y2];exact Ss aC
     have k:=aI D3.o.blk;obtain⟨k0,k1,k2,k3,k4,k5,k6,k7⟩:=eJ k;clear k;have q0:=aI zhO.o 0;rw[hm] at q0 fA;clear hm
     go_wp2_with fail
     go_region_with (go_at_call 94;refine(zaZ m zai _).mono ?_;rintro x w6 ⟨rfl,tN⟩;have Ao:cD W5.heap.size W5 w6:=⟨tN.os,tN.tape,tN.output,tN.size,tN.block⟩;have kJ:=aD Ao;have k:=aI (mH Ao D3.o.blk).1;have r0:=eO (mH Ao sK.o).1;have z:=aI (mH Ao sK.o).1;obtain⟨k0,k1,k2,k3,k4,k5,k6,k7⟩:=eJ k;obtain⟨z0,z1,z2,z3,z4,z5,z6,z7⟩:=eJ z;clear k z tN Ao)
     all_goals
      go_wp2_with fail
      have E9:=D3.o.keep kJ.o;have Um:=(mH kJ.o sK.o).1;have er:=aI (sJ v5 r5 Um);refine nF (v:=.tuple #[.agg (fP (v5) (r5)),.string ⟨([99,97,108,108,32]++fW (m:Int):List UInt8).toArray⟩]) ?_ rfl ?_
      .unfold gP at er
       simp[results,zf8,go_sem,er,fW,N0]
      .rw[fA.o]
       obtain⟨d1,d2,d3⟩:=E9.done (b:=gb+1) aC;exact⟨v5,rfl,d1,d2,d3⟩
theorem zBa (lo:Nat)(v:fO)(r:bY)(call:Int)(w:aE)(h:dR w lo v r)(hs:Qo r)(eB:lo<=w.heap.size):
 iR aK 66 #[.agg (fP v r),.int .i64 call] w (Zt lo v w (mG r call)):=by
 obtain⟨gb,O,Z,fR,HO,HZ,eW,kC,pF,HL⟩:=zgf h eB;clear h
 go_enter Tryz.func66,Tryz.ntmps66
 go_upto_region 1 with fail
 rw[<-HO.o,<-HZ.o,<-fR.o];obtain⟨W1,cO⟩:=aP ((w.alloc O).alloc Z);rw[<-cO] at eW kC pF⊢;clear cO;have k:=aI eW.o.blk;obtain⟨k0,k1,k2,k3,k4,k5,k6,k7⟩:=eJ k;clear k;have Qa:=hs.nr;have Ly:=hs.nw;have nX:=hs.nb;have vI:=aD eW.o.ok.slcR;have Gd:=aD eW.o.ok.slcB;have Oq:gb+1≠v.gR:=by have:=HL.o;omega
 have zcY:gb+1≠v.gB:=by have:=HL.o;omega
 have z:=aI kC.o;obtain⟨z0,z1,z2,z3,z4,z5,z6,z7⟩:=eJ z;clear z;have r0:=eO kC.o;rcases wC:gN r.recs call with _|i
 .have Oe:=aD (zgd wC)
  rcases uL:tV r.back call with _|j
  .have Oj:=aD (zgd uL)
   have fA:=aD (show mG r call=(r,[103,111,110,101]) by unfold mG;rw[wC];simp[uL]);clear wC uL
   go_upto_region 9 with(first|(go_at_call 91;refine(Ko lo W1.heap.size r.recs.length v.cR (some ⟨v.gR,0,none⟩) r.recs call W1 vI.o aC).mono ?_;rintro x w9 ⟨rfl,jI⟩;obtain rfl:=jI.symm;rw[Oe.o])|(go_at_call 92;refine(zbj lo W1.heap.size r.back.length v.cB (some ⟨v.gB,0,none⟩) r.back call W1 Gd.o aC).mono ?_;rintro x w9 ⟨rfl,jI⟩;obtain rfl:=jI.symm;rw[Oj.o]))
   clear k0 k1 k2 k3 k4 k5 k6 k7 z0 z1 z2 z3 z4 z5 z6 z7 r0;have k:=aI eW.o.blk;obtain⟨k0,k1,k2,k3,k4,k5,k6,k7⟩:=eJ k;clear k;have z:=aI kC.o;obtain⟨z0,z1,z2,z3,z4,z5,z6,z7⟩:=eJ z;clear z;have r0:=eO kC.o
   go_wp2_with fail
   have er:=aI (sJ v r kC.o);refine nF (v:=.tuple #[.agg (fP (v) (r)),.string ⟨([103,111,110,101]:List UInt8).toArray⟩]) ?_ rfl ?_
   .unfold gP at er
    simp[results,zg3,go_sem,er]
   .rw[fA.o]
    obtain⟨d1,d2,d3⟩:=eW.o.done (b:=gb+1) aC;exact⟨v,rfl,d1,d2,d3⟩
  .have Oj:=aD (X1 uL)
   have zjk:(0:Int)<=(j:Int):=aC;have fA:=aD (show mG r call=({r with back:=dE r.back call},[111,102,102]) by unfold mG;rw[wC];simp[uL]);clear wC uL
   go_upto_region 7 with(first|(go_at_call 91;refine(Ko lo W1.heap.size r.recs.length v.cR (some ⟨v.gR,0,none⟩) r.recs call W1 vI.o aC).mono ?_;rintro x w9 ⟨rfl,jI⟩;obtain rfl:=jI.symm;rw[Oe.o])|(go_at_call 92;refine(zbj lo W1.heap.size r.back.length v.cB (some ⟨v.gB,0,none⟩) r.back call W1 Gd.o aC).mono ?_;rintro x w9 ⟨rfl,jI⟩;obtain rfl:=jI.symm;rw[Oj.o]))
   have kf:=eO eW.o.blk
   go_upto_region 8 with(go_at_call 95;refine(zd8 lo W1.heap.size r.back.length v.cB (some ⟨v.gB,0,none⟩) r.back call W1 Gd.o aC).mono ?_;rintro x w5 ⟨_,rfl,g5,c5,rfl,cZ,b5⟩;have zbw:=aD cZ;have lJ:=aD b5;have kx:=(mH b5 eW.o.blk).1;have Qj:=aI kx 6;have xV:=eO kx;clear cZ b5 kx)
   obtain⟨W4,qQ⟩:=aP (w5.setCell ⟨gb,6,none⟩ (.slice (some ⟨g5,0,none⟩) (dE r.back call).length c5));have Dd:=aD (show gH w W4 lo gb 2 v {v with gB:=g5,cB:=c5} {r with back:=dE r.back call} by rw[qQ];exact eW.o.setB lJ.o zbw.o rfl);have Sl:=aD (show W4.heap[gb+1]? =some kI by rw[qQ];exact(dN w5 _ _ (gb+1) aQ).trans (mH lJ.o kC.o).1);rw[<-qQ];clear qQ Qj xV kf k0 k1 k2 k3 k4 k5 k6 k7 z0 z1 z2 z3 z4 z5 z6 z7 r0;obtain⟨v5,nN⟩:=aP ({v with gB:=g5,cB:=c5}:fO);obtain⟨r5,eN⟩:=aP ({r with back:=dE r.back call}:bY);rw[<-nN,<-eN] at Dd;rw[<-eN] at fA;clear nN eN;have k:=aI Dd.o.blk;obtain⟨k0,k1,k2,k3,k4,k5,k6,k7⟩:=eJ k;clear k;have z:=aI Sl.o;obtain⟨z0,z1,z2,z3,z4,z5,z6,z7⟩:=eJ z;clear z;have r0:=eO Sl.o
   go_wp2_with fail
   have er:=aI (sJ v5 r5 Sl.o);refine nF (v:=.tuple #[.agg (fP (v5) (r5)),.string ⟨([111,102,102]:List UInt8).toArray⟩]) ?_ rfl ?_
   .unfold gP at er
    simp[results,zg3,go_sem,er]
   .rw[fA.o]
    obtain⟨d1,d2,d3⟩:=Dd.o.done (b:=gb+1) aC;exact⟨v5,rfl,d1,d2,d3⟩
 .have Oe:=aD (X1 wC)
  obtain⟨d,hd,-,-⟩:=zH wC;have hi:=(lR.1 hd).1;have fH:(0:Int)<=(i:Int):=aC;have yR:(i:Int)<(r.recs.length:Int):=aC;have hop:opAt r.recs i=d.o:=by unfold opAt;rw[hd]
  obtain⟨c0,c1,c2,c3,c4,c5,c6⟩:=eW.o.ok.recAt hd;have HD:=aD hd;by_cases zrN:0<d.o
  .have fA:=aD (show mG r call=(lF r i vK,[100,111,110,101]) by unfold mG;rw[wC];simp only;rw[if_pos (by rw[hop];exact zrN)])
   clear wC hd hop
   go_upto_region 3 with(go_at_call 91;refine(Ko lo W1.heap.size r.recs.length v.cR (some ⟨v.gR,0,none⟩) r.recs call W1 vI.o aC).mono ?_;rintro x w9 ⟨rfl,jI⟩;obtain rfl:=jI.symm;rw[Oe.o])
   clear c0 c1 c2 c3 c4 c5 c6 z0 z1 z2 z3 z4 z5 z6 z7 r0
   go_wp2_with (go_at_call 96;refine(zly lo i v r d vK W1 eW.o.ok HD.o aC aC zoa).mono ?_;rintro x w5 ⟨g5,c5,rfl,bU,jO,Fs⟩;obtain⟨v5,nN⟩:=aP ({v with gW:=g5,cW:=c5}:fO);obtain⟨r5,eN⟩:=aP (lF r i vK:bY);rw[<-nN,<-eN] at bU⊢;have Yv:=aD nN;have pG:=aD eN;have wO:=aD bU;have uX:=aD jO;have ziD:=aD Fs;have kr:=jO.blk kC.o Oq zcY;have sK:=aD kr;have z:=aI kr;have r0:=eO kr;obtain⟨z0,z1,z2,z3,z4,z5,z6,z7⟩:=eJ z;clear bU jO Fs kr z nN eN)
   have nN:=Yv.o;have eN:=pG.o;rw[<-eN] at fA;have er:=aI (sJ v5 r5 sK.o);refine nF (v:=.tuple #[.agg (fP (v5) (r5)),.string ⟨([100,111,110,101]:List UInt8).toArray⟩]) ?_ rfl ?_
   .unfold gP at er
    simp[results,zg3,go_sem,er]
   .rw[fA.o]
    have hl:=HL.o;have hz:=pF.o;have hg:=ziD.o;have eR:=fR.o;exact⟨v5,rfl,wO.o.set8 s9,(eW.o.turn.same uX.o).set8 aC,by rw[nN];exact⟨.inl rfl,.inr Ki,.inl rfl,rfl⟩⟩
  .have fA:=aD (show mG r call=(lF r i vL,[108,101,102,116]) by unfold mG;rw[wC];simp only;rw[if_neg (by rw[hop];exact zrN)])
   clear wC hd hop
   go_upto_region 5 with(go_at_call 91;refine(Ko lo W1.heap.size r.recs.length v.cR (some ⟨v.gR,0,none⟩) r.recs call W1 vI.o aC).mono ?_;rintro x w9 ⟨rfl,jI⟩;obtain rfl:=jI.symm;rw[Oe.o])
   clear c0 c1 c2 c3 c4 c5 c6 z0 z1 z2 z3 z4 z5 z6 z7 r0
   go_wp2_with (go_at_call 96;refine(zly lo i v r d vL W1 eW.o.ok HD.o aC aC zoa).mono ?_;rintro x w5 ⟨g5,c5,rfl,bU,jO,Fs⟩;obtain⟨v5,nN⟩:=aP ({v with gW:=g5,cW:=c5}:fO);obtain⟨r5,eN⟩:=aP (lF r i vL:bY);rw[<-nN,<-eN] at bU⊢;have Yv:=aD nN;have pG:=aD eN;have wO:=aD bU;have uX:=aD jO;have ziD:=aD Fs;have kr:=jO.blk kC.o Oq zcY;have sK:=aD kr;have z:=aI kr;have r0:=eO kr;obtain⟨z0,z1,z2,z3,z4,z5,z6,z7⟩:=eJ z;clear bU jO Fs kr z nN eN)
   have nN:=Yv.o;have eN:=pG.o;rw[<-eN] at fA;have er:=aI (sJ v5 r5 sK.o);refine nF (v:=.tuple #[.agg (fP (v5) (r5)),.string ⟨([108,101,102,116]:List UInt8).toArray⟩]) ?_ rfl ?_
   .unfold gP at er
    simp[results,zg3,go_sem,er]
   .rw[fA.o]
    have hl:=HL.o;have hz:=pF.o;have hg:=ziD.o;have eR:=fR.o;exact⟨v5,rfl,wO.o.set8 s9,(eW.o.turn.same uX.o).set8 aC,by rw[nN];exact⟨.inl rfl,.inr Ki,.inl rfl,rfl⟩⟩
def cY (r:bY)(m:Int)(k:Nat):bY×List UInt8:=(r.wait.take k).foldl lW ({r with clk:=r.clk+m},[97,116,32]++fW (r.clk+m))
variable {m:Int}{k:Nat}{x:bF}
theorem zdv (h:r.wait[k]? =some x):cY r m (k+1)=lW (cY r m k) x:=by
 unfold cY;rw[Nv,h,znk];rfl
theorem Z2 (r:bY)(m:Int):cY r m r.wait.length=tG r m:=by
 unfold cY tG;rw[List.take_of_length_le (bN _)]
theorem zbZ (rs:List bO)(c:Int):(gN rs c).isSome=rs.any (Bn c):=by unfold gN;exact List.findIdx?_isSome
variable {d:bO}{f:bO->bO}
theorem zuQ (hd:rs[i]? =some d)(hc:d.c≠c)(h:(gN rs c).isSome=true):(gN (rs.modify i f) c).isSome=true:=by
 rw[zbZ,Xe] at*;obtain⟨x,hx,hp⟩:=h;obtain⟨j,hj,e⟩:=Kq.1 hx;have fD:i≠j:=by
  intro e2;subst e2;rw[oX hj,e] at hd;injection hd with hd;unfold Bn at hp;simp at hp;exact hc (hd▸hp.1)
 refine⟨x,?_,hp⟩;refine At.2 ⟨j,?_⟩;rw[I9,oX hj,e];simp[fD]
structure TiredOk (r:bY)(m:Int)(k:Nat):Prop where
 nrec:(cY r m k).1.recs.length=r.recs.length
 off:(cY r m k).1.o=r.o
 clk:(cY r m k).1.clk=r.clk+m
 nb:(cY r m k).1.back.length<=r.back.length+k
 nw:(cY r m k).1.wait.length<=r.wait.length
 txt:(cY r m k).2.length<=30+30*k
 has:∀j x,k<=j->r.wait[j]? =some x->(gN (cY r m k).1.recs x.c).isSome=true
 fr:∀d∈(cY r m k).1.recs,0<=d.f/\d.f<=100000
def Ve (xs:List bF)(q:Int):(dE xs q).length<=xs.length:=za5 _ _
theorem Pd (h0:0<=c)(h1:c<=1000000):(fW c).length<=20:=by
 obtain⟨n,rfl⟩:∃n:Nat,c=(n:Int):=⟨c.toNat,aC⟩;unfold fW;rw[Y2];exact Ss aC
variable {bt:bY×List UInt8}
theorem Uf (hi:gN bt.1.recs x.c=some i)(hd:bt.1.recs[i]? =some d):
 lW bt x=if bt.1.o.pt<=bt.1.clk-d.f then({lF bt.1 i tW with back:=bt.1.back++[x]},bt.2++[32]++fW x.c) else bt:=by
 unfold lW;rw[hi];simp only;rw[show Ww bt.1.recs i=d.f by unfold Ww;rw[hd]]
theorem zjT (hq:zea r)(hn:(r.wait.map bF.c).Nodup)(hf:∀d∈r.recs,0<=d.f/\d.f<=100000)(hc:0<=r.clk+m/\r.clk+m<=1000000):∀k,k<=r.wait.length->TiredOk r m k
 |0,_=>⟨rfl,rfl,rfl,bN _,bN _,by
  have:=Pd hc.1 hc.2;show([97,116,32]++fW (r.clk+m)).length<=_;rw[jP];simp only[yH,Al];omega,λj x _ hx=>hq.has x (dZ hx),hf⟩
 |k+1,hk=>by
  have T:=zjT hq hn hf hc k aC;obtain⟨x,hx⟩:∃x,r.wait[k]? =some x:=⟨r.wait[k],oX aC⟩;obtain⟨i,hi⟩:=ziw.1 (T.has k x (bN _) hx);obtain⟨d,hd,zbn,-⟩:=zH hi;have e:=Uf (bt:=cY r m k) hi hd;have e1:=zdv (m:=m) hx;rw[e] at e1;have zD0:=hq.num x (dZ hx);have Gs:=Pd (c:=x.c) aC aC;by_cases hp:(cY r m k).1.o.pt<=(cY r m k).1.clk-d.f
  .rw[if_pos hp] at e1
   refine⟨?_,?_,?_,?_,?_,?_,?_,?_⟩<;>rw[e1]
   .show(Rf _ _ _).length=_
    rw[Np];exact T.nrec
   .exact T.off
   .exact T.clk
   .have:=T.nb
    simp only[jP,yH,Al];omega
   .exact eM (Ve _ _) T.nw
   .have:=T.txt
    simp only[jP,yH,Al];omega
   .intro j y hj hy
    have zmx:d.c≠y.c:=by
     intro e2;rw[zbn] at e2;have uU:=(lR.1 hy).1;have zni:=(lR.1 hx).1;have aS:=(List.pairwise_iff_getElem.1 hn) k j tJ tJ aC;apply aS;rw[zwH,zwH];rw[oX zni] at hx;rw[oX uU] at hy;injection hx with hx;injection hy with hy;rw[hx,hy,e2]
    exact zuQ hd zmx (T.has j y aC hy)
   .intro z hz
    obtain⟨j,hj⟩:=At.1 hz;have qG:(Rf (cY r m k).1.recs i λd=>{d with t:=(cY r m k).1.clk,e:=tW})[j]? =some z:=hj;rw[I9] at qG;rcases zc6:(cY r m k).1.recs[j]? with _|y
    .simp_all
    .rw[zc6] at qG
     have hy:=T.fr y (dZ zc6);split at qG<;>(simp at qG;subst qG;exact hy)
  .rw[if_neg hp] at e1
   exact⟨by rw[e1];exact T.nrec,by rw[e1];exact T.off,by rw[e1];exact T.clk,by rw[e1];have:=T.nb;omega,by rw[e1];exact T.nw,by rw[e1];have:=T.txt;omega,by rw[e1];exact λj y hj hy=>T.has j y aC hy,by rw[e1];exact T.fr⟩
section
variable {w0 w w':aE}{lo gb k:Nat}{v0 v v':fO}{r r':bY}
theorem gH.setClk {c:Int}(h:gH w0 w lo gb k v0 v r):gH w0 (w.setCell ⟨gb,3,none⟩ (.int .i64 c)) lo gb k v0 v {r with clk:=c}:=by
 have aR:=h.aR;have aW:=h.aW;have aB:=h.aB;have aL:=h.aL;have Of:=h.base;have t:=h.turn;have kp:=h.kpos;refine⟨(h.ok.setCell aC).clock c,⟨t.os,t.tape,t.output,by rw[wL];exact t.size,λy hy e1 e2=>(dN w _ _ y s9).trans (t.block y hy e1 e2)⟩,h.moved,h.base,?_,by rw[wL];exact h.size,h.kpos,aR,aW,aB,aL,h.lob⟩;rw[n8 h.blk];rfl
theorem gH.whole {n:Nat}(h:gH w0 w lo gb k v0 v r)(ho:dR w' lo v' r')(t:oL v w w')(m:xC n v v')(hn:n=w.heap.size):
 gH w0 (gP w' gb (.int .i64 r'.o.ln) (.int .i64 r'.o.op) (.int .i64 r'.o.pt) (.int .i64 r'.clk) (v'.sR r') (v'.sW r') (v'.sB r') (v'.sL r')) lo gb k v0 v' r':=by
 obtain⟨_,t2,m2,hb⟩:=h.turned ho t m hn;have aR:=h.aR;have aW:=h.aW;have aB:=h.aB;have aL:=h.aL;have mr:=m.r;have mw:=m.w;have mb:=m.b;have ml:=m.l;have sz:=h.size;have kp:=h.kpos;have Of:=h.base;have tz:=t.size;refine⟨ho.set8 aC,t2.set8 aC,m2,h.base,zdk hb,by rw[zka];omega,h.kpos,aC,aC,aC,aC,h.lob⟩
end
def zAC {b x:Nat}{o:Obj}{a0 a1 a2 a3 a4 a5 a6 a7:aF}(h:w.heap[x]? =some o)(hx:x≠b):(gP w b a0 a1 a2 a3 a4 a5 a6 a7).heap[x]? =some o:=(G3 hx).trans h
theorem zF2 (lo:Nat)(v:fO)(r:bY)(m:Int)(w:aE)(h:dR w lo v r)(hs:Qo r)(eB:lo<=w.heap.size)(hq:zea r)(kU:(r.wait.map bF.c).Nodup)(fS:∀d∈r.recs,0<=d.f/\d.f<=100000)(zdz:0<=m)(Vh:m<=100000):
 iR aK 67 #[.agg (fP v r),.int .i64 m] w (Zt lo v w (tG r m)):=by
 have fF:=h.ap;have zi8:=aD (zjT (m:=m) hq kU fS (by have:=hs.clk;omega));have zCJ:=aD hq.num;have zos:=(Bb hs.off).2.2.2.2;clear kU fS hq;obtain⟨gb,O,Z,fR,HO,HZ,eW,kC,pF,HL⟩:=zgf h eB;clear h
 go_enter Tryz.func67,Tryz.ntmps67
 go_upto_region 1 with fail
 rw[<-HO.o,<-HZ.o,<-fR.o];obtain⟨W1,cO⟩:=aP ((w.alloc O).alloc Z);rw[<-cO] at eW kC pF⊢;clear cO;obtain⟨n,hn⟩:=aP r.wait.length;have nX:=hs.nb;have Dv:=hs.nr;have Ly:n<=1000:=by rw[hn];exact hs.nw
 have Rm:=aD hn;have Jo:=hs.clk;obtain⟨zkE,zHh⟩:=Jo;obtain⟨ck,Jo⟩:=aP r.clk;have H0:=aD Jo;rw[<-Jo] at zkE zHh;have k:=aI eW.o.blk;obtain⟨k0,k1,k2,k3,k4,k5,k6,k7⟩:=eJ k;clear k;have Vj:W1.cell? ⟨gb,3,none⟩=some (.int .i64 ck):=by rw[k3,H0.o];rfl
 have kf:=eO eW.o.blk;clear k3 Jo hn;have mD:=aD (show gH w (W1.setCell ⟨gb,3,none⟩ (.int .i64 (ck+m))) lo gb 2 v v {r with clk:=ck+m} from eW.o.setClk)
 go_upto_region 2 with fail
 obtain⟨W2,nZ⟩:=aP (W1.setCell ⟨gb,3,none⟩ (.int .i64 (ck+m)));rw[<-nZ] at mD⊢;have Dj:=aD (show W2.heap[gb+1]? =some kI by rw[nZ];exact(dN W1 _ _ (gb+1) aQ).trans kC.o);clear k0 k1 k2 Vj k4 k5 k6 k7 kf nZ;obtain⟨c2,oP⟩:∃c2:Nat,ck+m=(c2:Int):=⟨(ck+m).toNat,aC⟩;have zz9:c2<=100000000:=aC;have Jy:(Mc (c2:Int)).length<=20:=by rw[Y2];exact Ss aC
 have Uu:=aD oP;have k3:=aI mD.o.blk 3;have Vj:W2.cell? ⟨gb,3,none⟩=some (.int .i64 (c2:Int)):=by rw[<-oP];exact k3
 clear k3 oP
 go_upto_region 3 with(go_at_call 94;refine(zaZ c2 zz9 _).mono ?_;rintro x w3 ⟨rfl,Vm⟩;have wD:=aD Vm;clear Vm)
 have zlb:=aD (mD.o.keep wD.o);have zao:=aD (mH wD.o Dj.o).1;have k5:=aI zlb.o.blk 5;have zvD:w3.cell? ⟨gb,5,none⟩=some (.slice (some ⟨v.gW,0,none⟩) n v.cW):=by rw[k5,Rm.o];rfl
 clear k5 Vj;have ziL:=aD (show(⟨([97,116,32]++Mc (c2:Int):List UInt8).toArray⟩:ByteArray)=⟨(cY r m 0).2.toArray⟩ by show _=(⟨([97,116,32]++fW (r.clk+m):List UInt8).toArray⟩:ByteArray);rw[<-H0.o,Uu.o];rfl);have zIH:=HL.o
 go_wp2_with fail
 go_loopw [6,8] (λt i wr=>∃(k:Nat) (v1:fO),k<=n/\i=.int .i64 k/\t=.string ⟨(cY r m k).2.toArray⟩/\gH w wr lo gb 2 v v1 (cY r m k).1/\wr.heap[gb+1]? =some kI/\wr.ownsRow lo 100 2 (.slice (some ⟨v.gW,0,none⟩) n v.cW) n (bG r.wait)) (λ_ i _=>n-(intOf i).toNat)
 case atStart=>
  refine⟨0,v,mP _,rfl,?_,?_,zao.o,?_⟩
  .rw[<-ziL.o];congr 1
  .have e:(cY r m 0).1={r with clk:=ck+m}:=by rw[H0.o];rfl
   rw[e];exact zlb.o
  .have:=zlb.o.ok.wt
   rw[Rm.o];exact this
 case round=>
  obtain⟨k,v1,hk,rfl,rfl,eU,Hj,b9⟩:=hrel;have T:=zi8.o k (by have:=Rm.o;omega);obtain⟨r1,jX⟩:=aP ((cY r m k).1);obtain⟨tx,zeF⟩:=aP ((cY r m k).2);have zsJ:=T.nrec;have zve:=T.nb;have zu8:=T.nw;have zoA:=T.txt;have zhM:=T.clk;have zkY:=T.off;have zpB:=aD T.fr;have zqH:=aD T.has;rw[<-jX] at eU zsJ zve zu8 zhM zkY zpB zqH;rw[<-zeF] at zoA⊢;have jC:=aD jX;have zhT:=aD zeF;have uT:=aD eU;have zgA:=aD Hj;have Oz:=aD b9;have zJx:r1.recs.length<=1000:=aC;have zEf:r1.back.length<=6000:=aC;have zCa:r1.wait.length<=1000:=by have:=hs.nw;omega
  have zIU:tx.length<=40000:=aC;have zlp:gb+2<=wr.heap.size:=eU.size;have zJJ:=eU.moved.r;have zK2:=eU.moved.b;have zpC:=aD zhM;have Ca:=aD zkY;clear T jX zeF eU Hj b9 zsJ zve zu8 zoA zhM zkY;by_cases aU:k<n
  .obtain⟨bx,ox,x,hA,-,-,zyY,fI,e0,e1⟩:=(As Oz.o aH).callsAt aU
   injection hA with hA;injection hA with Ad Ap;subst Ad Ap;simp only[rH] at e0 e1;obtain⟨i,wC⟩:=ziw.1 (zqH.o k x (bN _) fI);obtain⟨d,hd,zbn,-⟩:=zH wC;have zD0:=zCJ.o x (dZ fI);have hi:=(lR.1 hd).1;have fH:(0:Int)<=(i:Int):=aC;have yR:(i:Int)<(r1.recs.length:Int):=aC;have i0:(0:Int)<=(k:Int):=aC;have i1:(k:Int)<(n:Int):=aC;obtain⟨zKe,zJQ⟩:=zpB.o d (dZ hd);have uZ:=aD (show cY r m (k+1)=if r1.o.pt<=r1.clk-d.f then({lF r1 i tW with back:=r1.back++[x]},tx++[32]++fW x.c) else(r1,tx) by
    rw[zdv fI,Uf (i:=i) (d:=d) (by rw[<-jC.o];exact wC) (by rw[<-jC.o];exact hd),<-jC.o,<-zhT.o];congr 1;rw[jC.o,zhT.o])
   have Oe:=aD (X1 wC);have HD:=aD hd;have Sy:=aD fI;obtain⟨q,zmK⟩:=aP x.c;have HE:=aD (λnq:Nat=>iR.quiet_of (w:=wr) (n:=nq) ((Ko lo wr.heap.size r1.recs.length v1.cR (some ⟨v1.gR,0,none⟩) r1.recs x.c (wr.drewN nq) (have hs:=uT.o.ok.slcR;⟨hs.len,hs.le,hs.cap,hs.at_⟩) aC).mono λe w' hh=>by rw[Oe.o] at hh;exact⟨hh.1,0,hh.2⟩));obtain⟨c0,c1,zkM,c3,c4,c5,c6⟩:=uT.o.ok.recAt hd;clear wC hd zbn fI zmK;have k:=aI uT.o.blk;obtain⟨k0,k1,k2,k3,k4,k5,k6,k7⟩:=eJ k;clear k
   go_wp2_with fail
   go_quiet ((go_at_call 91;exact HE.o _))
   go_wp2_with fail
   obtain⟨wq,sV⟩:=aP (wr.drewN nq);rw[<-sV];have zgh:=aD (show gH w wq lo gb 2 v v1 r1 by rw[sV];exact uT.o.keep ⟨rfl,rfl,rfl,bN _,λ_ _=>rfl⟩);have zx4:=aD (show wq.heap[gb+1]? =some kI by rw[sV];exact zgA.o);have zqQ:=aD (show wq.ownsRow lo 100 2 (.slice (some ⟨v.gW,0,none⟩) n v.cW) n (bG r.wait) by rw[sV];exact Br Oz.o (λ_ _=>rfl));replace e0:wq.cell? ⟨v.gW,k*2,none⟩=some (.int .i64 x.c):=by rw[sV];exact e0
   replace e1:wq.cell? ⟨v.gW,k*2+1,none⟩=some (.int .i64 x.p):=by rw[sV];exact e1
   have zAT:v.gW<wq.heap.size:=by rw[sV];exact zyY
   have C9:gb+2<=wq.heap.size:=by rw[sV];exact zlp
   clear c0 c1 zkM c3 c4 c5 c6 k0 k1 k2 k3 k4 k5 k6 k7 sV;obtain⟨c0,c1,zkM,c3,c4,c5,c6⟩:=zgh.o.ok.recAt HD.o;have k:=aI zgh.o.blk;obtain⟨k0,k1,k2,k3,k4,k5,k6,k7⟩:=eJ k;clear k;have Su:0<=r1.clk:=by have:=zpC.o;have:=H0.o;omega
   have J8:r1.clk<=200000:=by have:=zpC.o;have:=H0.o;omega
   have q9:1<=r1.o.pt:=by rw[Ca.o];exact zos.1
   have Vm:r1.o.pt<=60:=by rw[Ca.o];exact zos.2
   by_cases hp:r1.o.pt<=r1.clk-d.f
   .replace uZ:=aD (show cY r m (k+1)=({lF r1 i tW with back:=r1.back++[x]},tx++[32]++fW x.c) by rw[uZ.o,if_pos hp])
    go_quiet (fail)
    go_upto_region 9 with fail
    obtain⟨wz,sM⟩:=aP (wq.drewN nq);rw[<-sM];have O1:=aD (show gH w wz lo gb 2 v v1 r1 by rw[sM];exact zgh.o.keep ⟨rfl,rfl,rfl,bN _,λ_ _=>rfl⟩);have zDq:=aD (show wz.heap[gb+1]? =some kI by rw[sM];exact zx4.o);have zGB:=aD (show wz.ownsRow lo 100 2 (.slice (some ⟨v.gW,0,none⟩) n v.cW) n (bG r.wait) by rw[sM];exact Br zqQ.o (λ_ _=>rfl));have zIi:v.gW<wz.heap.size:=by rw[sM];exact zAT
    have zKR:gb+2<=wz.heap.size:=by rw[sM];exact C9
    clear c0 c1 zkM c3 c4 c5 c6 k0 k1 k2 k3 k4 k5 k6 k7 e0 e1 sM;have k:=aI O1.o.blk;obtain⟨k0,k1,k2,k3,k4,k5,k6,k7⟩:=eJ k;clear k;have kf:=eO O1.o.blk;have zAU:v.gW≠v1.gR:=aC;have zw3:v.gW≠v1.gB:=aC;have aR:=O1.o.aR;have aB:=O1.o.aB;have zE1:gb+1≠v1.gR:=aC;have zwg:gb+1≠v1.gB:=aC;have Kh:gb≠v1.gR:=aC;have Aq:gb≠v1.gB:=aC;have zKt:=aD aR;have zS:=aD aB;have S6:lo<=wz.heap.size:=by have:=O1.o.lob;omega
    clear aR aB
    go_upto_region 10 with(go_at_call 96;refine(zly lo i v1 r1 d tW wz O1.o.ok HD.o aC aC S6).mono ?_;rintro y w5 ⟨g5,c5,rfl,bU,jO,Fs⟩;obtain⟨v5,nN⟩:=aP ({v1 with gW:=g5,cW:=c5}:fO);obtain⟨r5,eN⟩:=aP (lF r1 i tW:bY);have kr:=jO.blk O1.o.blk Kh Aq;have zKv:=aD kr;have zoG:xC wz.heap.size v1 v5:=(by rw[nN];exact⟨.inl rfl,.inr Fs,.inl rfl,rfl⟩);rw[<-nN,<-eN] at bU⊢;have Yv:=aD nN;have pG:=aD eN;have uX:=aD jO;have E9:=aD (O1.o.whole bU jO zoG rfl);have z:=aI kr;have r0:=eO kr;obtain⟨z0,z1,z2,z3,z4,z5,z6,z7⟩:=eJ z;clear bU jO Fs kr z nN eN zoG)
    obtain⟨W6,rF⟩:=aP (gP w5 gb (.int .i64 r5.o.ln) (.int .i64 r5.o.op) (.int .i64 r5.o.pt) (.int .i64 r5.clk) (v5.sR r5) (v5.sW r5) (v5.sB r5) (v5.sL r5));have Um:=aD (show W6.heap[gb+1]? =some kI by rw[rF];exact zAC (uX.o.blk zDq.o zE1 zwg) aC);have zwQ:=aD (show W6.ownsRow lo 100 2 (.slice (some ⟨v.gW,0,none⟩) n v.cW) n (bG r.wait) by rw[rF];exact Cn zGB.o ((G3 aC).trans (uX.o.block v.gW zIi zAU zw3)));rw[<-rF] at E9;unfold gP at rF;rw[<-rF];have zzz:v5.gR=v1.gR:=by rw[Yv.o]
    have zaR:v5.gB=v1.gB:=by rw[Yv.o]
    have zkV:r5.back=r1.back:=by rw[pG.o];rfl
    have zKE:r5.back.length<=6000:=by rw[zkV];exact zEf
    have kJ:=aD zkV;clear rF z0 z1 z2 z3 z4 z5 z6 z7 r0 k0 k1 k2 k3 k4 k5 k6 k7 kf zkV;obtain⟨bx,ox,x',hA,-,-,zt0,Ey,e0,e1⟩:=(As zwQ.o aH).callsAt aU;injection hA with hA;injection hA with Ad Ap;subst Ad Ap;rw[Sy.o] at Ey;injection Ey with Ey;subst Ey;simp only[rH] at e0 e1;have k6:=aI E9.o.blk 6;have zKl:gb+2<=W6.heap.size:=E9.o.size;have Hi:=aD (show W6.cell? ⟨v.gW,k*2,none⟩=some (.int .i64 x.c)/\W6.cell? ⟨v.gW,k*2+1,none⟩=some (.int .i64 x.p) from⟨e0,e1⟩);have kB:∀o:Obj,(W6.alloc o).cell? ⟨gb,6,none⟩=some (v5.sB r5):=λo=>Aw k6 o;have zJo:=aD zaR;have zDs:v5.gB≠gb:=by rw[zaR];exact Ne.symm Aq
    have zGF:v5.gB≠gb+1:=by rw[zaR];exact Ne.symm zwg
    have zJI:v5.gB≠v.gW:=by rw[zaR];exact Ne.symm zw3
    have zKD:v.gW≠gb:=aC;obtain⟨ii,P4,fV,dM,jJ⟩:=Cg zhk;have zah:=aD P4;clear P4 zzz zaR e0 e1;obtain⟨g1,c1,w7,fF,sG,rT,B1,Im⟩:=zfC (P:=aK) (W6.alloc (.cells #[.int .i64 x.c,.int .i64 x.p] 100)).drew 57 57 lo 100 ii (.agg #[.int .i64 0,.int .i64 0]) 2 16 Ll zah.o fV dM jJ rfl aH v5.gB v5.cB r5.back.length (bG r5.back) (Br E9.o.ok.bk (λb hb=>rS _ _ b hb)) ⟨W6.heap.size,0,none⟩ 1 1 x.cells rfl (Fc (cs:=x.cells.toArray) (gU _ _)) Qq X0 aC (by have:=E9.o.lob;simp;omega);have qP:=aD rT;have zaF:=aD sG;have zce:=aD Im;have kx:=(Af rT (dD E9.o.blk _) (Ne.symm zDs)).1;have Qj:=aI kx 6;have xV:=eO kx;clear sG rT B1 Im kx;refine wp_WT10 W6 w7 gb v.gW _ _ v5.gB r5.back.length v5.cB g1 c1 k x.c x.p rfl rfl rfl rfl k6 Hi.o.1 Hi.o.2 aC fF Qj (xV _) rfl ?_;clear fF;rw[Go.Mt.Ax,ztu];simp only[Go.Mt.xR,dV,dU,zh8,lWT10,Dz,Dp]
    go_upto_region 11 with fail
    have zxD:=aD (((E9.o.alloc _).drew).appB (x:=x) qP.o zaF.o rfl zce.o);have zvY:=aD ((dN w7 ⟨gb,6,none⟩ (.slice (some ⟨g1,0,none⟩) (r5.back.length+1) c1) (gb+1) aQ).trans (Af qP.o (Kg (dD Um.o _)) (Ne.symm zGF)).1);have zmS:=aD (Cn zwQ.o ((dN w7 ⟨gb,6,none⟩ (.slice (some ⟨g1,0,none⟩) (r5.back.length+1) c1) v.gW aC).trans ((qP.o.block v.gW zgS zgS).trans (rS _ _ v.gW aC))));obtain⟨W7,Cc⟩:=aP (w7.setCell ⟨gb,6,none⟩ (.slice (some ⟨g1,0,none⟩) (r5.back.length+1) c1));rw[<-Cc] at zxD zvY zmS⊢;clear Cc Qj xV k6 kB;obtain⟨bx,ox,x',hA,-,-,zKY,Ey,e0,e1⟩:=(As zmS.o aH).callsAt aU;injection hA with hA;injection hA with Ad Ap;subst Ad Ap;rw[Sy.o] at Ey;injection Ey with Ey;subst Ey;simp only[rH] at e0 e1;obtain⟨p,zlt⟩:∃p:Nat,x.c=(p:Int):=⟨x.c.toNat,aC⟩;have znx:p<=100000000:=aC;have zKq:(Mc (p:Int)).length<=20:=by rw[Y2];exact Ss aC
    rw[zlt] at e0;have zCk:=aD zlt;clear zlt e1
    go_wp2_with (go_at_call 94;refine(zaZ p znx _).mono ?_;rintro y w8 ⟨rfl,Kx⟩;have Gc:=aD Kx;clear Kx)
    go_roundw
    case rel=>
     refine⟨k+1,{v5 with gB:=g1,cB:=c1},aC,oH,?_,?_,(mH Gc.o zvY.o).1,zph zmS.o Gc.o⟩
     .rw[uZ.o];simp[N0,fW,zCk.o]
     .rw[uZ.o]
      have:=zxD.o.keep Gc.o;rw[kJ.o,pG.o] at this;exact this
    case measure=>simp[intOf];omega
   .replace uZ:=aD (show cY r m (k+1)=(r1,tx) by rw[uZ.o,if_neg hp])
    go_quiet (fail)
    go_wp2;go_roundw
    case rel=>exact⟨k+1,v1,aC,oH,by rw[uZ.o],by rw[uZ.o];exact zgh.o.keep ⟨rfl,rfl,rfl,bN _,λ_ _=>rfl⟩,zx4.o,Br zqQ.o (λ_ _=>rfl)⟩
    case measure=>simp[intOf];omega
  .have e:k=n:=aC
   subst e;have zgH:=aD (show tG r m=(r1,tx) by rw[<-Z2,<-Rm.o,jC.o,zhT.o]);have k:=aI uT.o.blk;obtain⟨k0,k1,k2,k3,k4,k5,k6,k7⟩:=eJ k;clear k;have z:=aI zgA.o;obtain⟨z0,z1,z2,z3,z4,z5,z6,z7⟩:=eJ z;clear z;have r0:=eO zgA.o
   go_wp2_with fail
   have er:=aI (sJ v1 r1 zgA.o);refine nF (v:=.tuple #[.agg (fP (v1) (r1)),.string ⟨(tx:List UInt8).toArray⟩]) ?_ rfl ?_
   .unfold gP at er
    simp[results,Tryz.results67,go_sem,er]
   .rw[zgH.o]
    obtain⟨d1,d2,d3⟩:=uT.o.done (b:=gb+1) aC;exact⟨v1,rfl,d1,d2,d3⟩
structure zsn (r:bY):Prop where
 small:Qo r
 waits:zea r
 nodup:(r.wait.map bF.c).Nodup
 backs:∀x∈r.back,1<=x.c/\x.c<=99
 froms:∀d∈r.recs,0<=d.f/\d.f<=100000
variable {ops:Int}{e:dX}
theorem event_a (h:qX ops e=true)(ho:ops<=4):0<=e.a/\e.a<=100000:=by
 have h:=of_decide_eq_true h;unfold Lm at h;omega
abbrev zvC (e:dX):Obj:=.cells #[.string e.k,.int .i64 e.a,.int .i64 e.b] 54
theorem zqu (lo:Nat)(v:fO)(r:bY)(e:dX)(w:aE)(h:dR w lo v r)(hs:zsn r)(eB:lo<=w.heap.size)(he:qX r.o.op e=true):
 iR aK 51 #[.agg (fP v r),.agg #[.string e.k,.int .i64 e.a,.int .i64 e.b]] w (Zt lo v w (eF r e)):=by
 obtain⟨P3,Bu⟩:=event_a he (Bb hs.small.off).2.2.2.1;obtain⟨gb,eR⟩:=aP w.heap.size;have hl:=h.lts;obtain⟨O,hO⟩:=aP (.cells (fP v r) 59:Obj);obtain⟨C,hC⟩:=aP (zvC e:Obj);obtain⟨Z,hZ⟩:=aP (kI:Obj);have lP:(((w.alloc O).alloc C).alloc Z).heap[gb]? =some (H6 v r):=by rw[hO,eR];exact dD (dD (gU _ _) _) _
 have zR:(((w.alloc O).alloc C).alloc Z).heap[gb+1]? =some (zvC e):=by rw[hC,eR];exact dD (lV _ _ aQ) _
 have pK:(((w.alloc O).alloc C).alloc Z).heap[gb+2]? =some kI:=by rw[<-hZ];exact lV _ _ Zj
 have dM:(((w.alloc O).alloc C).alloc Z).heap.size=gb+3:=by rw[eR];simp
 have eW:=aD (show gH w (((w.alloc O).alloc C).alloc Z) lo gb 3 v v r from⟨((h.alloc O).alloc C).alloc Z,oL.of_below v (eD (eD (eD (fN _ _) _) _) _),xC.refl _ _,eR,lP,aC,aC,.inl aC,.inl aC,.inl aC,.inl aC,aC⟩);have pF:=aD dM;have kC:=aD pK;have lU:=aD zR;have HO:=aD hO;have HC:=aD (show C=.cells #[.string e.k,.int .i64 e.a,.int .i64 e.b] 54 from hC);have HZ:=aD (show Z=.cells #[.int .i64 0,.int .i64 0,.int .i64 0,.int .i64 0,.slice none 0 0,.slice none 0 0,.slice none 0 0,.slice none 0 0] 59 from hZ);have fR:=aD eR;have HL:=aD (show v.gR<gb/\v.gW<gb/\v.gB<gb/\v.gL<gb by omega);clear hO hC hZ eR lP pK zR dM h hl
 go_enter Tryz.func51,Tryz.ntmps51
 go_upto_region 1 with fail
 rw[<-HO.o,<-HC.o,<-HZ.o,<-fR.o];obtain⟨W1,cO⟩:=aP (((w.alloc O).alloc C).alloc Z);rw[<-cO] at eW kC lU pF⊢;clear cO;have k:=aI eW.o.blk;obtain⟨k0,k1,k2,k3,k4,k5,k6,k7⟩:=eJ k;clear k;have q:=aI lU.o;obtain⟨q0,q1,q2⟩:=ztq q;clear q;have hl:=HL.o;have Kh:gb+2≠v.gR:=aC;have Aq:gb+2≠v.gB:=aC;have S6:lo<=W1.heap.size:=by have:=eW.o.lob;have:=pF.o;omega
 clear hl;cases h0:(e.k.toList==[114,105,110,103])
 case true=>
  have uZ:=aD (show eF r e=oY r ⟨e.a,e.b⟩ by unfold eF;rw[if_pos (show e.k.toList=Bt from eq_of_beq h0)])
  go_wp2_with (go_at_call 63;refine(zGi lo v r ⟨e.a,e.b⟩ W1 eW.o.ok hs.small S6).mono ?_;rintro y w5 ⟨v5,rfl,bU,jO,wV⟩;obtain⟨r5,eN⟩:=aP ((oY r ⟨e.a,e.b⟩).1:bY);obtain⟨t5,o0⟩:=aP ((oY r ⟨e.a,e.b⟩).2:List UInt8);rw[<-eN] at bU⊢;rw[<-o0];have pG:=aD eN;have Cq:=aD o0;have wO:=aD bU;have uX:=aD jO;have oI:=aD wV;have kr:=jO.blk kC.o Kh Aq;have sK:=aD kr;have z:=aI kr;have r0:=eO kr;obtain⟨z0,z1,z2,z3,z4,z5,z6,z7⟩:=eJ z;clear eN o0 bU jO wV kr z)
  have er:=aI (sJ v5 r5 sK.o);refine nF (v:=.tuple #[.agg (fP (v5) (r5)),.string ⟨(t5:List UInt8).toArray⟩]) ?_ rfl ?_
  .unfold gP at er
   simp[results,zbt,go_sem,er]
  .rw[uZ.o]
   have hl:=HL.o;have hz:=pF.o;have eR:=fR.o;have mr:=oI.o.r;have mw:=oI.o.w;have mb:=oI.o.b;have ml:=oI.o.l;refine⟨v5,by rw[pG.o,Cq.o],by rw[<-pG.o];exact wO.o.set8 aC,(eW.o.turn.same uX.o).set8 aC,⟨mr.imp id (λx=>by omega),mw.imp id (λx=>by omega),mb.imp id (λx=>by omega),ml⟩⟩
 case false=>
  cases h1:(e.k.toList==[97,110,115,119,101,114])
  case true=>
   have uZ:=aD (show eF r e=nH r e.a by unfold eF;rw[if_neg zee];rw[if_pos (show e.k.toList=F7 from eq_of_beq h1)])
   go_wp2_with (go_at_call 64;refine(zFB lo v r e.a W1 eW.o.ok hs.small S6 hs.waits).mono ?_;rintro y w5 ⟨v5,rfl,bU,jO,wV⟩;obtain⟨r5,eN⟩:=aP ((nH r e.a).1:bY);obtain⟨t5,o0⟩:=aP ((nH r e.a).2:List UInt8);rw[<-eN] at bU⊢;rw[<-o0];have pG:=aD eN;have Cq:=aD o0;have wO:=aD bU;have uX:=aD jO;have oI:=aD wV;have kr:=jO.blk kC.o Kh Aq;have sK:=aD kr;have z:=aI kr;have r0:=eO kr;obtain⟨z0,z1,z2,z3,z4,z5,z6,z7⟩:=eJ z;clear eN o0 bU jO wV kr z)
   have er:=aI (sJ v5 r5 sK.o);refine nF (v:=.tuple #[.agg (fP (v5) (r5)),.string ⟨(t5:List UInt8).toArray⟩]) ?_ rfl ?_
   .unfold gP at er
    simp[results,zbt,go_sem,er]
   .rw[uZ.o]
    have hl:=HL.o;have hz:=pF.o;have eR:=fR.o;have mr:=oI.o.r;have mw:=oI.o.w;have mb:=oI.o.b;have ml:=oI.o.l;refine⟨v5,by rw[pG.o,Cq.o],by rw[<-pG.o];exact wO.o.set8 aC,(eW.o.turn.same uX.o).set8 aC,⟨mr.imp id (λx=>by omega),mw.imp id (λx=>by omega),mb.imp id (λx=>by omega),ml⟩⟩
  case false=>
   cases h2:(e.k.toList==[114,101,116,117,114,110])
   case true=>
    have uZ:=aD (show eF r e=l7 r e.a by unfold eF;rw[if_neg zee];rw[if_neg zjH];rw[if_pos (show e.k.toList=C8 from eq_of_beq h2)])
    go_wp2_with (go_at_call 65;refine(zBX lo v r e.a W1 eW.o.ok hs.small S6 hs.backs).mono ?_;rintro y w5 ⟨v5,rfl,bU,jO,wV⟩;obtain⟨r5,eN⟩:=aP ((l7 r e.a).1:bY);obtain⟨t5,o0⟩:=aP ((l7 r e.a).2:List UInt8);rw[<-eN] at bU⊢;rw[<-o0];have pG:=aD eN;have Cq:=aD o0;have wO:=aD bU;have uX:=aD jO;have oI:=aD wV;have kr:=jO.blk kC.o Kh Aq;have sK:=aD kr;have z:=aI kr;have r0:=eO kr;obtain⟨z0,z1,z2,z3,z4,z5,z6,z7⟩:=eJ z;clear eN o0 bU jO wV kr z)
    have er:=aI (sJ v5 r5 sK.o);refine nF (v:=.tuple #[.agg (fP (v5) (r5)),.string ⟨(t5:List UInt8).toArray⟩]) ?_ rfl ?_
    .unfold gP at er
     simp[results,zbt,go_sem,er]
    .rw[uZ.o]
     have hl:=HL.o;have hz:=pF.o;have eR:=fR.o;have mr:=oI.o.r;have mw:=oI.o.w;have mb:=oI.o.b;have ml:=oI.o.l;refine⟨v5,by rw[pG.o,Cq.o],by rw[<-pG.o];exact wO.o.set8 aC,(eW.o.turn.same uX.o).set8 aC,⟨mr.imp id (λx=>by omega),mw.imp id (λx=>by omega),mb.imp id (λx=>by omega),ml⟩⟩
   case false=>
    cases h3:(e.k.toList==[104,97,110,103])
    case true=>
     have uZ:=aD (show eF r e=mG r e.a by unfold eF;rw[if_neg zee];rw[if_neg zjH];rw[if_neg ztT];rw[if_pos (show e.k.toList=Eg from eq_of_beq h3)])
     go_wp2_with (go_at_call 66;refine(zBa lo v r e.a W1 eW.o.ok hs.small S6).mono ?_;rintro y w5 ⟨v5,rfl,bU,jO,wV⟩;obtain⟨r5,eN⟩:=aP ((mG r e.a).1:bY);obtain⟨t5,o0⟩:=aP ((mG r e.a).2:List UInt8);rw[<-eN] at bU⊢;rw[<-o0];have pG:=aD eN;have Cq:=aD o0;have wO:=aD bU;have uX:=aD jO;have oI:=aD wV;have kr:=jO.blk kC.o Kh Aq;have sK:=aD kr;have z:=aI kr;have r0:=eO kr;obtain⟨z0,z1,z2,z3,z4,z5,z6,z7⟩:=eJ z;clear eN o0 bU jO wV kr z)
     have er:=aI (sJ v5 r5 sK.o);refine nF (v:=.tuple #[.agg (fP (v5) (r5)),.string ⟨(t5:List UInt8).toArray⟩]) ?_ rfl ?_
     .unfold gP at er
      simp[results,zbt,go_sem,er]
     .rw[uZ.o]
      have hl:=HL.o;have hz:=pF.o;have eR:=fR.o;have mr:=oI.o.r;have mw:=oI.o.w;have mb:=oI.o.b;have ml:=oI.o.l;refine⟨v5,by rw[pG.o,Cq.o],by rw[<-pG.o];exact wO.o.set8 aC,(eW.o.turn.same uX.o).set8 aC,⟨mr.imp id (λx=>by omega),mw.imp id (λx=>by omega),mb.imp id (λx=>by omega),ml⟩⟩
    case false=>
     have uZ:=aD (show eF r e=tG r e.a by unfold eF;rw[if_neg zee];rw[if_neg zjH];rw[if_neg ztT];rw[if_neg (by intro e2;rw[e2] at h3;exact absurd h3 aH)])
     go_wp2_with (go_at_call 67;refine(zF2 lo v r e.a W1 eW.o.ok hs.small S6 hs.waits hs.nodup hs.froms P3 Bu).mono ?_;rintro y w5 ⟨v5,rfl,bU,jO,wV⟩;obtain⟨r5,eN⟩:=aP ((tG r e.a).1:bY);obtain⟨t5,o0⟩:=aP ((tG r e.a).2:List UInt8);rw[<-eN] at bU⊢;rw[<-o0];have pG:=aD eN;have Cq:=aD o0;have wO:=aD bU;have uX:=aD jO;have oI:=aD wV;have kr:=jO.blk kC.o Kh Aq;have sK:=aD kr;have z:=aI kr;have r0:=eO kr;obtain⟨z0,z1,z2,z3,z4,z5,z6,z7⟩:=eJ z;clear eN o0 bU jO wV kr z)
     have er:=aI (sJ v5 r5 sK.o);refine nF (v:=.tuple #[.agg (fP (v5) (r5)),.string ⟨(t5:List UInt8).toArray⟩]) ?_ rfl ?_
     .unfold gP at er
      simp[results,zbt,go_sem,er]
     .rw[uZ.o]
      have hl:=HL.o;have hz:=pF.o;have eR:=fR.o;have mr:=oI.o.r;have mw:=oI.o.w;have mb:=oI.o.b;have ml:=oI.o.l;refine⟨v5,by rw[pG.o,Cq.o],by rw[<-pG.o];exact wO.o.set8 aC,(eW.o.turn.same uX.o).set8 aC,⟨mr.imp id (λx=>by omega),mw.imp id (λx=>by omega),mb.imp id (λx=>by omega),ml⟩⟩
structure RInv (b:bY):Prop where
 off:rV b.o=true
 clk:0<=b.clk
 nodup:(b.wait.map bF.c).Nodup
 hasrec:∀x∈b.wait,(gN b.recs x.c).isSome=true
 recB:∀d∈b.recs,1<=d.c/\d.c<=99/\1<=d.l/\d.l<=6/\0<=d.o/\d.o<=4/\0<=d.f/\d.f<=b.clk
 waitB:∀x∈b.wait,1<=x.c/\x.c<=99
 backB:∀x∈b.back,1<=x.c/\x.c<=99
structure Kr (b:bY)(k:Nat):Prop where
 clk:b.clk<=60*k
 nrec:b.recs.length<=k
 nw:b.wait.length<=k
 nb:b.back.length<=60*k
 nl:b.log.length=k
theorem RInv.good (h:RInv b)(c:Kr b k)(hk:k<=60):zsn b:=
 ⟨
  ⟨h.off,by have:=c.nrec;omega,by have:=c.nw;omega,by have:=c.nb;omega,by have:=c.nl;omega,⟨h.clk,by have:=c.clk;omega⟩⟩,⟨h.hasrec,h.waitB⟩,h.nodup,h.backB,
  λd hd=>by have:=h.recB d hd;have:=c.clk;omega⟩
theorem RInv.zero (h:rV o=true):RInv (lY o):=⟨h,zbT _,List.nodup_nil,λx hx=>(by cases hx),λd hd=>(by cases hd),λx hx=>(by cases hx),λx hx=>(by cases hx)⟩
def Kr.zero (o:gG):Kr (lY o) 0:=⟨zbT _,bN _,bN _,bN _,rfl⟩
variable {xs:List bF}{q:Int}
theorem Dr (h:x∈dE xs q):x∈xs/\x.c≠q:=by
 unfold dE at h;simp_all
def zgw (h:(xs.map bF.c).Nodup):((dE xs q).map bF.c).Nodup:=
 zFD (zEA _ List.filter_sublist) h
theorem Q7 {z:bO}(h:z∈rs.modify i f):∃d∈rs,z=d\/z=f d:=by
 obtain⟨j,hj⟩:=At.1 h;rw[I9] at hj;rcases zc6:rs[j]? with _|y
 .simp_all
 .grind
theorem ztB {qs:List bO}(h:(gN rs c).isSome=true):(gN (rs++qs) c).isSome=true:=by
 rw[zbZ] at*;simp_all
theorem zFq (hf:∀d,(f d).c=d.c/\(f d).e=d.e)(h:(gN rs c).isSome=true):(gN (rs.modify i f) c).isSome=true:=by
 rw[zbZ,Xe] at*;obtain⟨x,hx,hp⟩:=h;obtain⟨j,hj,e⟩:=Kq.1 hx;have yY:Bn c (f x)=true:=by unfold Bn cS at*;rw[(hf x).1,(hf x).2];exact hp
 by_cases fD:i=j
 .refine⟨f x,At.2 ⟨j,?_⟩,yY⟩
  simp_all
 .refine⟨x,At.2 ⟨j,?_⟩,hp⟩
  simp_all
theorem RInv.ends (h:RInv b)(hd:b.recs[i]? =some d)(e:ByteArray):RInv (lF b i e):=by
 refine⟨h.off,h.clk,zgw h.nodup,?_,?_,λx hx=>h.waitB x (Dr hx).1,h.backB⟩
 .intro x hx
  have hx:x∈dE b.wait (B7 b.recs i):=hx;rw[Ua hd] at hx;obtain⟨h1,h2⟩:=Dr hx;exact zuQ hd (Ne.symm h2) (h.hasrec x h1)
 .intro z hz
  obtain⟨y,hy,e1|e1⟩:=Q7 hz
  .subst e1;exact h.recB _ hy
  .subst e1;exact h.recB y hy
theorem RInv.tire {t:List UInt8}(h:RInv b)(hx:1<=x.c/\x.c<=99):RInv (lW (b,t) x).1:=by
 rcases ho:gN b.recs x.c with _|i
 .have:lW (b,t) x=(b,t):=by unfold lW;simp only[ho]
  rw[this];exact h
 .obtain⟨d,hd,-,-⟩:=zH ho
  rw[Uf (bt:=(b,t)) ho hd];split
  .have e:=h.ends hd tW
   exact⟨e.off,e.clk,e.nodup,e.hasrec,e.recB,e.waitB,λy hy=>by
    rw[C3] at hy;rcases hy with hy|hy
    .exact h.backB y hy
    .simp at hy;subst hy;exact hx⟩
  .exact h
theorem RInv.tires:∀(xs:List bF) (b:bY) (t:List UInt8),RInv b->(∀x∈xs,1<=x.c/\x.c<=99)->RInv (xs.foldl lW (b,t)).1
 |[],b,t,h,_=>h
 |x::xs,b,t,h,hx=>by
  rw[Pk];have h1:=h.tire (t:=t) (hx x aQ);obtain⟨b',t',e⟩:∃b' t',lW (b,t) x=(b',t'):=⟨_,_,rfl⟩;rw[e] at h1⊢;exact RInv.tires xs b' t' h1 (λy hy=>hx y Xg)
theorem zfE (ho:rV o=true)(h:l∈oM o rs):1<=l/\l<=6:=by
 have:=Xz h;have:=(Bb ho).2.1;omega
theorem Z8 (xs:List bF)(c:bF):(sE xs c).Perm (c::xs):=by
 unfold sE;refine(List.perm_middle).trans ?_;simp_all
theorem zFh (xs:List bF)(c:bF):(sE xs c).length=xs.length+1:=by rw[(Z8 xs c).length_eq];rfl
theorem zvF (h:qX ops e=true)(he:e.k.toList=Bt):1<=e.a/\e.a<=99:=by
 have h:=of_decide_eq_true h;unfold Lm at h;rcases h with h|h|⟨h|h,_⟩|h
 .omega
 all_goals(first|(rw[h.1] at he;exact absurd he aH)|(rw[h] at he;exact absurd he aH))
theorem Xk (h:qX ops e=true)(he:e.k.toList=F7\/e.k.toList=C8):1<=e.a/\e.a<=ops:=by
 have h:=of_decide_eq_true h;unfold Lm at h;rcases h with h|h|h|h
 .rw[h.1] at he;exact absurd he aH
 .rw[h.1] at he;exact absurd he aH
 .omega
 .rw[h.1] at he;exact absurd he aH
theorem zxd (h:qX ops e=true)(h1:e.k.toList≠Bt)(h2:e.k.toList≠F7)(h3:e.k.toList≠C8)(h4:e.k.toList≠Eg):1<=e.a/\e.a<=60:=by
 have h:=of_decide_eq_true h;unfold Lm at h;simp_all
theorem zaa:dY.toList=[111,112,101,110]:=by decide+kernel
theorem RInv.step (h:RInv b)(hc:Kr b k)(he:qX b.o.op e=true)(hk:k<=60):RInv (eF b e).1/\Kr (Fi (eF b e)) (k+1)/\(eF b e).1.o=b.o/\(eF b e).1.log=b.log:=by
 have zBm:=Bb h.off;have c1:=hc.clk;have c2:=hc.nrec;have c3:=hc.nw;have c4:=hc.nb;have c5:=hc.nl;have key:∀bt:bY×List UInt8,RInv bt.1->bt.1.o=b.o->bt.1.log=b.log->bt.1.clk<=b.clk+60->bt.1.recs.length<=b.recs.length+1->bt.1.wait.length<=b.wait.length+1->bt.1.back.length<=b.back.length+60->RInv bt.1/\Kr (Fi bt) (k+1)/\bt.1.o=b.o/\bt.1.log=b.log:=by
  intro bt hi ho hl zJ8 hr hw xA;refine⟨hi,⟨by show bt.1.clk<=_;omega,by show bt.1.recs.length<=_;omega,by show bt.1.wait.length<=_;omega,by show bt.1.back.length<=_;omega,?_⟩,ho,hl⟩;show(bt.1.log++[bt.2]).length=_;rw[jP,hl,c5];rfl
 have same:∀t,RInv (b,t).1/\Kr (Fi (b,t)) (k+1)/\(b,t).1.o=b.o/\(b,t).1.log=b.log:=λt=>key (b,t) h rfl rfl (by show b.clk<=_;omega) tJ tJ tJ;unfold eF;by_cases e1:e.k.toList=Bt
 .rw[if_pos e1]
  obtain⟨a1,a2⟩:=zvF he e1;unfold oY;split
  .exact same _
  .rename_i fG
   rw[Di,not_or] at fG;rcases hf:oM b.o b.recs with _|⟨l,fs⟩
   .refine key (_,_) ⟨h.off,h.clk,h.nodup,h.hasrec,h.recB,h.waitB,λx hx=>?_⟩ rfl rfl ?_ ?_ ?_ ?_
    .rw[C3] at hx
     rcases hx with hx|hx
     .exact h.backB x hx
     simp_all
    all_goals simp only[jP,yH,Al]
    all_goals omega
   .have Vd:=zfE h.off (l:=l) Kb
    refine key (_,_) ⟨h.off,h.clk,?_,?_,?_,?_,h.backB⟩ rfl rfl ?_ ?_ ?_ ?_
    .show((sE b.wait ⟨e.a,e.b⟩).map bF.c).Nodup
     refine((Z8 b.wait ⟨e.a,e.b⟩).map bF.c).nodup_iff.2 ?_;rw[jG,List.nodup_cons];refine⟨λhm=>?_,h.nodup⟩;obtain⟨x,hx,zbC⟩:=Sa.1 hm;have:=h.hasrec x hx;simp_all
    .intro x hx
     have hx:=(Z8 b.wait ⟨e.a,e.b⟩).mem_iff.1 hx;rcases lO.1 hx with rfl|hx
     .show(gN (b.recs++_) e.a).isSome=true
      rw[zbZ,List.any_append];have:Bn e.a ⟨e.a,l,0,b.clk,-1,-1,dY⟩=true:=by unfold Bn cS;simp;exact zaa
      simp[this]
     .exact ztB (h.hasrec x hx)
    .intro d hd
     rcases C3.1 hd with hd|hd
     .exact h.recB d hd
     .simp at hd;subst hd
      have:=h.clk;simp only;omega
    .intro x hx
     have hx:=(Z8 b.wait ⟨e.a,e.b⟩).mem_iff.1 hx;rcases lO.1 hx with rfl|hx
     .exact⟨a1,a2⟩
     .exact h.waitB x hx
    all_goals simp only[jP,yH,Al,zFh]
    all_goals omega
 rw[if_neg e1];by_cases e2:e.k.toList=F7
 .rw[if_pos e2]
  obtain⟨a1,a2⟩:=Xk he (.inl e2);by_cases lQ:0<dL b.recs e.a
  .have e9:nH b e.a=(b,[116,97,108,107,115]):=by unfold nH;rw[if_pos lQ]
   rw[e9];exact same _
  .rcases hw:b.wait with _|⟨c,cs⟩
   .have e9:nH b e.a=(b,[110,111,110,101]):=by unfold nH;rw[if_neg lQ,hw]
    rw[e9];exact same _
   .rcases ho:gN b.recs c.c with _|i
    .have e9:nH b e.a=(b,[]):=by unfold nH;rw[if_neg lQ,hw];simp only[ho]
     rw[e9];exact same _
    .have e9:nH b e.a=({b with recs:=b.recs.modify i λd=>{d with o:=e.a,h:=b.clk},wait:=dE b.wait c.c},[99,97,108,108,32]++fW c.c):=by unfold nH;rw[if_neg lQ,hw];simp only[ho]
     rw[e9];refine key (_,_) ⟨h.off,h.clk,zgw h.nodup,?_,?_,?_,h.backB⟩ rfl rfl ?_ ?_ ?_ ?_
     .intro x hx
      exact zFq (λd=>⟨rfl,rfl⟩) (h.hasrec x (Dr hx).1)
     .intro z hz
      obtain⟨y,hy,q|q⟩:=Q7 hz
      .subst q;exact h.recB _ hy
      .subst q
       have:=h.recB y hy;simp only;omega
     .intro x hx
      exact h.waitB x (Dr hx).1
     all_goals simp only[Np]
     .omega
     .omega
     .have:=Ve b.wait c.c;omega
     .omega
 rw[if_neg e2];by_cases e3:e.k.toList=C8
 .rw[if_pos e3]
  obtain⟨a1,a2⟩:=Xk he (.inr e3);by_cases lQ:0<dL b.recs e.a
  .have e9:l7 b e.a=(b,[116,97,108,107,115]):=by unfold l7;rw[if_pos lQ]
   rw[e9];exact same _
  .rcases hw:b.back with _|⟨c,cs⟩
   .have e9:l7 b e.a=(b,[110,111,110,101]):=by unfold l7;rw[if_neg lQ,hw]
    rw[e9];exact same _
   .rcases hf:oM b.o b.recs with _|⟨l,fs⟩
    .have e9:l7 b e.a=(b,[98,117,115,121]):=by unfold l7;rw[if_neg lQ,hw];simp only[hf]
     rw[e9];exact same _
    .have e9:l7 b e.a=({b with back:=dE b.back c.c,recs:=b.recs++[⟨c.c,l,e.a,b.clk,b.clk,-1,dY⟩]},[99,97,108,108,32]++fW c.c):=by unfold l7;rw[if_neg lQ,hw];simp only[hf]
     rw[e9];have Vd:=zfE h.off (l:=l) Kb;have Cz:=h.backB c (by rw[hw];simp);refine key (_,_) ⟨h.off,h.clk,h.nodup,λx hx=>ztB (h.hasrec x hx),?_,h.waitB,?_⟩ rfl rfl ?_ ?_ ?_ ?_
     .intro d hd
      rcases C3.1 hd with hd|hd
      .exact h.recB d hd
      .simp at hd;subst hd
       have:=h.clk;simp only;omega
     .intro x hx
      exact h.backB x (Dr hx).1
     all_goals simp only[jP,yH,Al]
     .omega
     .omega
     .omega
     .have:=Ve b.back c.c;omega
 rw[if_neg e3];by_cases e4:e.k.toList=Eg
 .rw[if_pos e4]
  rcases ho:gN b.recs e.a with _|i
  .by_cases hf:(tV b.back e.a).isSome=true
   .have e9:mG b e.a=({b with back:=dE b.back e.a},[111,102,102]):=by unfold mG;simp only[ho];rw[if_pos hf]
    rw[e9];refine key (_,_) ⟨h.off,h.clk,h.nodup,h.hasrec,h.recB,h.waitB,λx hx=>h.backB x (Dr hx).1⟩ rfl rfl ?_ ?_ ?_ ?_
    all_goals simp only
    .omega
    .omega
    .omega
    .have:=Ve b.back e.a;omega
   .have e9:mG b e.a=(b,[103,111,110,101]):=by unfold mG;simp only[ho];rw[if_neg hf]
    rw[e9];exact same _
  .obtain⟨d,hd,-,-⟩:=zH ho
   have hw:=Ve b.wait (B7 b.recs i);have end1:∀(E:ByteArray) (t:List UInt8),RInv (lF b i E,t).1/\Kr (Fi (lF b i E,t)) (k+1)/\(lF b i E,t).1.o=b.o/\(lF b i E,t).1.log=b.log:=λE t=>by
    refine key (_,_) (h.ends hd _) rfl rfl ?_ ?_ ?_ ?_
    .show b.clk<=_;omega
    .show(Rf _ _ _).length<=_;simp_all
    .show(dE b.wait (B7 b.recs i)).length<=_;omega
    .show b.back.length<=_;omega
   by_cases hp:0<opAt b.recs i
   .have e9:mG b e.a=(lF b i vK,[100,111,110,101]):=by unfold mG;simp only[ho];rw[if_pos hp]
    rw[e9];exact end1 _ _
   .have e9:mG b e.a=(lF b i vL,[108,101,102,116]):=by unfold mG;simp only[ho];rw[if_neg hp]
    rw[e9];exact end1 _ _
 rw[if_neg e4];obtain⟨a1,a2⟩:=zxd he e1 e2 e3 e4;have lE:=h.clk;have T:=zjT (r:=b) (m:=e.a) ⟨h.hasrec,h.waitB⟩ h.nodup (λd hd=>by have:=h.recB d hd;omega) aC b.wait.length (bN _);have t1:=T.nrec;have t2:=T.off;have t3:=T.clk;have t4:=T.nb;have t5:=T.nw;rw[Z2] at t1 t2 t3 t4 t5;have zjJ:∀(xs:List bF) (bt:bY×List UInt8),(xs.foldl lW bt).1.log=bt.1.log:=by
  intro xs
  induction xs with
  |nil=>intro bt;rfl
  |cons x xs ih=>
   intro bt;rw[Pk,ih];unfold lW;split
   .rfl
   .split<;>rfl
 refine key (tG b e.a) ?_ t2 (zjJ _ _) ?_ ?_ ?_ ?_
 .unfold tG
  refine RInv.tires _ _ _ ⟨h.off,by grind,h.nodup,h.hasrec,λd hd=>?_,h.waitB,h.backB⟩ h.waitB;have:=h.recB d hd
  grind
 .omega
 .omega
 .omega
 .omega
def l5 (o:gG)(es:List dX)(k:Nat):bY:=(es.take k).foldl (λb e=>Fi (eF b e)) (lY o)
variable {es:List dX}
theorem Ut (h:es[k]? =some e):l5 o es (k+1)=Fi (eF (l5 o es k) e):=by
 unfold l5;rw[Nv,h,znk];rfl
theorem zdj (o:gG)(es:List dX):l5 o es es.length=F8 o es:=by unfold l5 F8;simp_all
theorem K3 (h:fJ o es=true):∀k,k<=es.length->RInv (l5 o es k)/\Kr (l5 o es k) k/\(l5 o es k).o=o
 |0,_=>by
  have h1:rV o=true:=by unfold fJ at h;simp at h;exact h.1.1
  exact⟨RInv.zero h1,Kr.zero o,rfl⟩
 |k+1,hk=>by
  obtain⟨i1,i2,i3⟩:=K3 h k aC;obtain⟨e,he⟩:∃e,es[k]? =some e:=⟨es[k],oX aC⟩;have hv:qX o.op e=true:=by
   unfold fJ at h;simp only[iY,uD] at h;exact h.2 e (dZ he)
  have hl:es.length<=60:=by unfold fJ at h;simp at h;exact h.1.2
  obtain⟨j1,j2,j3,j4⟩:=i1.step i2 (e:=e) (by rw[i3];exact hv) aC;rw[Ut he];exact⟨⟨j1.off,j1.clk,j1.nodup,j1.hasrec,j1.recB,j1.waitB,j1.backB⟩,j2,by show(eF _ e).1.o=o;rw[j3,i3]⟩
theorem zl9 (o:gG)(w:aE):
 iR aK 34 #[.agg #[.int .i64 o.ln,.int .i64 o.op,.int .i64 o.pt]] w λx w'=>x=.returned (.bool (rV o))/\cD w.heap.size w w':=by
 go_enter Tryz.func34,Tryz.ntmps34
 go_wp2_with ((go_at_call 49;refine(zuo _ _ _ _).mono ?_;rintro e w' ⟨rfl,rfl⟩))
 all_goals go_ret
 all_goals refine⟨U4 ?_,((fN _ _).alloc (bN _) _)⟩
 all_goals rw[Mx]
 all_goals simp[rV,inB] at*
 all_goals grind
theorem zli (e:dX)(ops:Int)(w:aE):
 iR aK 50 #[.agg #[.string e.k,.int .i64 e.a,.int .i64 e.b],.int .i64 ops] w λx w'=>x=.returned (.bool (qX ops e))/\cD w.heap.size w w':=by
 go_enter Tryz.func50,Tryz.ntmps50
 go_wp2_with ((go_at_call 49;refine(zuo _ _ _ _).mono ?_;rintro e w' ⟨rfl,rfl⟩))
 all_goals go_ret
 all_goals refine⟨U4 ?_,((fN _ _).alloc (bN _) _)⟩
 all_goals rw[Mx]
 all_goals simp[qX,Lm,inB,Bt,Eg,F7,C8,zc2] at*
 all_goals grind
end Go.Proofs.YtfcjiloojkjaeaaGreatDoor
