/-
  Part 3 of what stands behind the last text.
-/
import Derived.Conc.WgGenN3
import Derived.Conc.TokenWalk
import Derived.Test.YtfcjiloojkjaeaaDoorClockPq2
set_option linter.all false
set_option maxHeartbeats 16000000
set_option maxRecDepth 100000
open Array renaming all_eq_true_iff_forall_mem→zjf,any_eq_true→Tk,ext_getElem?→zc0,getD_eq_getD_getElem?→tD,getElem?_eq_getElem→nA,getElem?_eq_none→G4,getElem?_eq_some_iff→dM,getElem?_map→xP,getElem?_mapIdx→L6,getElem?_setIfInBounds→zrP,getElem?_setIfInBounds_ne→jM,getElem?_toList→zR,getElem_mem→zkL,mem_iff_getElem→zod,mem_of_getElem?→Py,mem_singleton→zq8,range→J7,replicate→nD
open Bool renaming and_eq_true→fN,eq_iff_iff→My,false_eq_true→iU,false_or→zwn,not_eq_true'→ze2,or_eq_true→Dq
open Classical renaming byContradiction→zD
open False renaming elim→zs7
open Go renaming Act→tE,Calls→iE,Deferred→Eo,Event→oE,Frame→dE,Func→Rb,FuncId→aN,Goroutine→bC,Item→dW,Oper→aY,Operand→cM,Program→bS,Trace→lJ,TypeId→aM,TypeInfo→wI,Value→aF,World→aE,bodyPost_ret→qP,deafBehind→nN,execOp→aO,getD_set_ne→Nr,heap_alloc_new→lO,info_parts→y3,mem_ready→zjI,undef→aA,yielded→dN
open Go.Act renaming eval→vW,mk→bH,put→b7
open Go.Builtin renaming append_→wG
open Go.Code renaming region→Dl
open Go.Conc renaming Deaf_other→Nj,aside_setCell→U7,goes_elim→zhY,listed→wK,mem_ofEvents→zeU,mem_seen→zaH,past_nil→ziS,runT_crowd_go→X0,seen_none→Bm,served→oO,stepG_add_atomic→Vw,stepG_block→zc3,stepG_end→zfx,stepG_inBlock→zh8,stepG_inLoop→zmF,stepG_load_atomic→zfO,stepG_loop→zmT,stepG_mark0→zau,stepG_markAt→zcA,stepG_region_end→dD,stepG_ret'→wE,stepG_seq→dP,stepG_skip→pA,stepG_unwind_entry→znx
open Go.Conc.Goes renaming stop→qB
open Go.Conc.Lib renaming WgLib→Vu,WgLink→zgt
open Go.Conc.QuitsD renaming ctl→zwY
open Go.ConcN renaming upd→zlE
open Go.ConcR renaming Payload→zgD,WgAt→fV,mk→oF
open Go.ConcR.Gen renaming body_add→L9,body_wait→zhs,nm_uLoad→zht,x_addU64_b→Ym,x_addU64_f→Yn,x_addU64_n→Ug,x_addU64_x→X7,x_disable_b→zkJ,x_disable_f→zkv,x_disable_n→zlZ,x_disable_x→zki,x_enable_b→zcQ,x_enable_f→zdu,x_enable_n→zfG,x_enable_x→ze0,x_loadU64_b→zeC,x_loadU64_f→zdU,x_loadU64_n→zga,x_loadU64_x→zdW,x_semacquire_b→ztA,x_semacquire_f→zrS,x_semacquire_n→zp7,x_semacquire_x→zvX,x_semrelease_b→zwJ
open Go.Deferred renaming ofValue→Bg
open Go.Extern.Race renaming none_→znr
open Go.Frame renaming enter→Ed,finish_at→znu,tmps→zvu
open Go.GStep renaming after→Bo
open Go.IntKind renaming i32→zv7,u64→Rm,wrap_i32→ztW,wrap_u64→zdI
open Go.Lib renaming itoa→Ld,itoa_nonneg→Yg
open Go.Made renaming infoAt→zwR,reckon→zsb,reckonStruct→zsC,word→zrh
open Go.MemAct renaming ofEvent→jB,touch?→qG
open Go.Proofs.Tryd renaming checked→vD,prog→aK,results17→zb9,results28→zd9,results29→zlg,results30→zdM,results31→zf8,underlying36→zo7,underlying37→Je
open Go.Region renaming binds→Ej,ready→Gi,wanted→dA
open Go.Result renaming andThen→uC,evThen_ok→S3,ok→vT
open Go.RowKit renaming Below→bU
open Go.RowKit.Below renaming heap_alloc→tL,heap_setCell→dZ,refl→eR
open Go.Sem renaming bind→xF,events→vV,events_bind'→Qk,run→bD,runT→yV,run_bind'→q9
open Go.Stepped.next renaming injEq→V6
open Go.Tables renaming info?→zls
open Go.World renaming alloc→zg0,cell?→kY,news_of_block→Em,size_setCell→sE
open Int renaming le_refl→zpj
open List renaming all_eq_true→tJ,any_append→zor,any_eq_true→Qo,append_nil→Mh,foldl_append→zm1,foldl_cons→Pc,getD_cons_succ→Cm,getD_cons_zero→C4,getElem?_eq_getElem→lP,getElem?_eq_some_iff→jW,getElem?_modify→zG,getElem?_of_mem→zqG,getElem_map→zuO,length_append→gJ,length_cons→pG,length_filter_le→zbe,length_map→zqU,length_modify→Gj,length_nil→tV,map_cons→fG,mem_append→Dv,mem_cons→iX,mem_filter→H5,mem_iff_getElem→Kh,mem_iff_getElem?→F7,mem_map→Hv,mem_map_of_mem→Uu,mem_of_getElem?→dS,mem_range→B6,modify→zg5,not_mem_nil→lX,range→gD,set_cons_succ→dX,set_cons_zero→dV,take_add_one→L0,take_of_length_le→yR
open List.Nodup renaming sublist→zHO
open List.Sublist renaming map→zz5
open Nat renaming eq_zero_or_pos→Ou,le_refl→aZ,le_trans→eP,lt_of_lt_of_le→lA,lt_or_ge→nM,lt_succ_of_lt→ztQ,lt_succ_self→wL,ne_of_lt→zuN,strongRecOn→zho,zero_add→rL,zero_le→lB,zero_mul→zaS
open Option renaming bind_eq_some_iff→C1,bind_some→xI,getD_some→zC,isSome_iff_exists→zik,map_eq_some_iff→wM,map_some→zP
open Option.some renaming inj→cD,injEq→fS
open Prod.mk renaming injEq→o7
open Pure renaming pure→kE
open SizeOf renaming sizeOf→Lj
noncomputable section
namespace Go
theorem Ih{P:Prop}(h:P:=by rw[hz];exact zHp (by kernel_rfl)):P:=h
theorem zlR{P:Prop}(h:P:=by intro u hu;simp[bR.cells] at hu;rcases hu with rfl|rfl|rfl|rfl|rfl|rfl|rfl<;>rfl):P:=h
theorem qL{P:Prop}(h:P:=by k_ne):P:=h
theorem ztg{P:Prop}(h:P:=by intro k hk aT;have cN:k=0\/k=1\/k=3\/k=4\/k=5\/k=6:=(by omega);rcases cN with rfl|rfl|rfl|rfl|rfl|rfl<;>rfl):P:=h
theorem zpP{P:Prop}(h:P:=by intro k hk aT;have cN:k=0\/k=1\/k=2\/k=3\/k=5\/k=6:=(by omega);rcases cN with rfl|rfl|rfl|rfl|rfl|rfl<;>rfl):P:=h
theorem Fe{P:Prop}(h:P:=by decide+kernel):P:=h
theorem zeF{P:Prop}(h:P:=by intro e2;rw[e2] at h0;exact absurd h0 (by decide)):P:=h
theorem Qx{P:Prop}(h:P:=by show gb+1≠gb;omega):P:=h
theorem zi6{P:Prop}(h:P:=by intro e2;rw[e2] at h1;exact absurd h1 (by decide)):P:=h
theorem V8{P:Prop}(h:P:=by unfold maxLen;omega):P:=h
theorem Yi{P:Prop}(h:P:=by exact True.intro):P:=h
theorem zwH{P:Prop}(h:P:=by intro e2;rw[e2] at h2;exact absurd h2 (by decide)):P:=h
theorem Vk{P:Prop}(h:P:=by rw[cC];simp):P:=h
theorem zgu{P:Prop}(h:P:=by show gb+2≠gb;omega):P:=h
theorem Uk{P:Prop}(h:P:=by rw[hf];simp):P:=h
theorem zak{P:Prop}(h:P:=by rw[wH];simp):P:=h
theorem zd7{P:Prop}(h:P:=by simpa using hi):P:=h
theorem zqZ{P:Prop}(h:P:=by have:=eO.o.lob;have:=oU.o;omega):P:=h
theorem zlm{P:Prop}(h:P:=by simp[Act.eval,stA]):P:=h
theorem zmN{P:Prop}(h:P:=by simp[Act.eval,smA]):P:=h
theorem zje{P:Prop}(h:P:=by show gf≠gb;omega):P:=h
end Go
namespace Go.Mt
open Go.Conc
open Go.ConcR (KK wgBlock WgAt stA smA rd wr)
section
variable {L:Type}{P:bS}{ty:aM}{Wg:Nat}{A:jF L}{Fin:bC->aE->Prop}
variable {K K':Bool->Ph L->Nat->cE->bC->aE->Prop}
theorem Lr.mono (hK:∀m ph d τ g w,K m ph d τ g w->K' m ph d τ g w){main:Bool}{ph:Ph L}{d:Nat}{τ:cE}{g:bC}{w:aE}(h:Lr P ty Wg K main ph d τ g w):Lr P ty Wg K' main ph d τ g w:=by
 have own:∀{ph:Ph L},zeQ P ty Wg K main ph d τ g w->zeQ P ty Wg K' main ph d τ g w:=λh aI s=>by
  obtain⟨g',w',es,h1,h2,h3,h4,h5⟩:=h aI s;exact⟨g',w',es,h1,h2,h3,h4,hK _ _ _ _ _ _ h5⟩
 have idle:∀{ph:Ph L},zat P ty Wg K main ph d τ g w->zat P ty Wg K' main ph d τ g w:=λh aI s=>by
  obtain⟨g',es,h1,h2,h3,h4⟩:=h aI s;exact⟨g',es,h1,h2,h3,hK _ _ _ _ _ _ h4⟩
 cases ph<;>first|exact h|exact own h|exact idle h
theorem l9.mono (hK:∀m ph d τ g w,K m ph d τ g w->K' m ph d τ g w){main:Bool}{l:L}{d:Nat}{τ:cE}{g:bC}{w:aE}(h:l9 P ty Wg A K main l d τ g w):l9 P ty Wg A K' main l d τ g w:=by
 unfold l9 at*;split
 all_goals(rename_i e;simp only[e] at h)
 .obtain⟨ho,v,z,τ',h1,h2,h3,h4,Ki,h5,h6⟩:=h
  exact⟨ho,v,z,τ',h1,h2,h3,h4,Ki,h5,hK _ _ _ _ _ _ h6⟩
 .obtain⟨ho,z,b,h1,h2,h3⟩:=h
  exact⟨ho,z,b,h1,λv hv aI s hg=>hK _ _ _ _ _ _ (h2 v hv aI s hg),λx=>hK _ _ _ _ _ _ (h3 x)⟩
 .refine⟨h.1,h.2.1,λaI iN s r hc=>?_⟩
  obtain⟨g',h1,h2,h3⟩:=h.2.2 aI iN s r hc;exact⟨g',h1,h2,hK _ _ _ _ _ _ h3⟩
 .intro aI iN v hv hw
  obtain⟨g',h1,h2,h3⟩:=h aI iN v hv hw;exact⟨g',h1,h2,hK _ _ _ _ _ _ h3⟩
 .refine⟨h.1,λaI iN=>?_⟩
  obtain⟨g',child,τm,τc,h1,h2,h3,h4,h5,h6,h7,h8,h9,N7,S4⟩:=h.2 aI iN;exact⟨g',child,τm,τc,h1,h2,h3,h4,h5,h6,h7,h8,h9,hK _ _ _ _ _ _ N7,hK _ _ _ _ _ _ S4⟩
 .refine⟨h.1,h.2.1,h.2.2.1,λaI iN=>?_⟩
  obtain⟨g',h1,h2,h3⟩:=h.2.2.2 aI iN;exact⟨g',h1,h2,hK _ _ _ _ _ _ h3⟩
 .intro aI iN v hv hw
  obtain⟨g',h1,h2,h3,h4⟩:=h aI iN v hv hw;exact⟨g',h1,h2,λx=>hK _ _ _ _ _ _ (h3 x),λx=>hK _ _ _ _ _ _ (h4 x)⟩
 .obtain⟨l',h1,h2⟩:=h
  exact⟨l',h1,hK _ _ _ _ _ _ h2⟩
theorem zL.mono (hK:∀m ph d τ g w,K m ph d τ g w->K' m ph d τ g w){main:Bool}{ph:Ph L}{d:Nat}{τ:cE}{g:bC}{w:aE}(h:zL P ty Wg A Fin K main ph d τ g w):zL P ty Wg A Fin K' main ph d τ g w:=by
 cases ph with
 |gone=>exact h
 |quit l=>exact h
 |usr l=>exact l9.mono hK h
 |rel l=>
  intro aI iN v wt a b c;obtain⟨g',h1,h2,h3,h4,h5⟩:=h aI iN v wt a b c;exact⟨g',h1,h2,h3,λx=>hK _ _ _ _ _ _ (h4 x),h5⟩
 |l1 l=>
  intro aI iN a;obtain⟨g',h1,h2,h3,h4⟩:=h aI iN a;exact⟨g',h1,h2,h3,hK _ _ _ _ _ _ h4⟩
 |l2 l=>
  intro aI iN a;obtain⟨g',h1,h2,h3,h4⟩:=h aI iN a;exact⟨g',h1,h2,h3,hK _ _ _ _ _ _ h4⟩
 |l3 l=>exact h
 |w1 b=>
  intro aI iN v zzu hv hw;obtain⟨g',h1,h2,h3,h4⟩:=h aI iN v zzu hv hw;exact⟨g',h1,h2,λx=>hK _ _ _ _ _ _ (h3 x),λx=>hK _ _ _ _ _ _ (h4 x)⟩
 |w2 vs=>
  intro aI iN v hv hw;obtain⟨h1,h2⟩:=h aI iN v hv hw;exact⟨λe=>let⟨g',a,b,c⟩:=h1 e;⟨g',a,b,hK _ _ _ _ _ _ c⟩,λe=>let⟨g',a,b,c⟩:=h2 e;⟨g',a,b,hK _ _ _ _ _ _ c⟩⟩
 |w3=>
  refine⟨h.1,λaI iN=>⟨(h.2 aI iN).1,λe=>?_⟩⟩;obtain⟨g',a,b,c⟩:=(h.2 aI iN).2 e;exact⟨g',a,b,hK _ _ _ _ _ _ c⟩
 |w4=>
  intro aI iN a;obtain⟨g',h1,h2,h3⟩:=h aI iN a;exact⟨g',h1,h2,hK _ _ _ _ _ _ h3⟩
 |w5=>exact h
def bZ (P:bS)(ty:aM)(Wg:Nat)(A:jF L)(Fin:bC->aE->Prop)(main:Bool)(ph:Ph L)(d:Nat)(τ:cE)(g:bC)(w:aE):Prop:=∃r,oX P ty Wg A Fin r main ph d τ g w
variable {main:Bool}{ph:Ph L}{d:Nat}{τ:cE}{g:bC}{w aI:aE}
theorem bZ.mk (cF:g.status=.running)(h:Lr P ty Wg (bZ P ty Wg A Fin) main ph d τ g w\/zL P ty Wg A Fin (bZ P ty Wg A Fin) main ph d τ g w):bZ P ty Wg A Fin main ph d τ g w:=by
 let ι:={x:Bool×Ph L×Nat×cE×bC×aE//bZ P ty Wg A Fin x.1 x.2.1 x.2.2.1 x.2.2.2.1 x.2.2.2.2.1 x.2.2.2.2.2}
 let f:ι->Rk:=λx=>x.2.choose
 have hK:∀m ph d τ g w,bZ P ty Wg A Fin m ph d τ g w->∃i,oX P ty Wg A Fin (f i) m ph d τ g w:=λm ph d τ g w hb=>⟨⟨(m,ph,d,τ,g,w),hb⟩,hb.choose_spec⟩;exact⟨.mk ι f,cF,h.imp (λx=>x.mono hK) λx=>x.mono hK⟩
theorem bZ.own (cF:g.status=.running)(hl:ph.live)(h:zeQ P ty Wg (bZ P ty Wg A Fin) main ph d τ g w):bZ P ty Wg A Fin main ph d τ g w:=
 .mk cF (.inl (by cases ph<;>first|exact h|exact hl.elim))
def bZ.usr {l:L}(cF:g.status=.running)(h:l9 P ty Wg A (bZ P ty Wg A Fin) main l d τ g w):bZ P ty Wg A Fin main (.usr l) d τ g w:=.mk cF (.inr h)
structure Start (P:bS)(ty:aM)(Wg:Nat)(A:jF L)(Fin:bC->aE->Prop)(Shun:Loc->Prop)(gs:Array bC)(w:aE)(t:lJ)(q:Nat->Nat)(l:L)(τ:cE)(a:bC)(B:Nat):Prop where
 main:gs[0]? =some a
 leave:Leavers P t gs q
 past:Past Shun B t
 beh:bZ P ty Wg A Fin true (.usr l) 0 τ a w
 grp:fV ty Wg w 0 0
 low:B<=Wg/\B<=w.heap.size
 bnd:∀b,τ.own b\/τ.still b\/τ.pass b->b<w.heap.size/\b≠Wg/\∀l,mY l b->¬Shun l
 pend:A.pend l=false
 inv:A.Inv (λi=>if i=0 then .run l else .gone) (λ_=>none)
theorem phase (hA:A.Ok){Shun:Loc->Prop}{gs:Array bC}{t:lJ}{q:Nat->Nat}{l:L}{a:bC}{B:Nat}(S:Start P ty Wg A Fin Shun gs w t q l τ a B)(sl:Option (Nat×Nat)):
 ∃N m' t',runNT P N (crowd gs w sl) t=(.next m',t')/\Oo P Wg Fin Shun m' t':=by
 obtain⟨r,hr⟩:=S.beh;have h0:0<gs.size:=(dM.1 S.main).1
 let none':cE:=⟨λ_=>False,λ_=>False,λ_=>False⟩
 let T:Nat->Td L:=λi=>if i=0 then⟨.usr l,.inr r,τ,a⟩ else⟨.gone,.inl (q i),none',default⟩
 have t0:T 0=⟨.usr l,.inr r,τ,a⟩:=by simp[T]
 have tn:∀i,i≠0->T i=⟨.gone,.inl (q i),none',default⟩:=λi hi=>by simp[T,hi]
 have cF:a.status=.running:=by cases r with|mk ι f=>exact hr.1
 have Yy:oP (λi=>(T i).ph) gs.size=0:=znb (λj hj=>by simp only[tn j hj,Ph.pre]) _;have vI:vv A (λi=>(T i).ph) gs.size=0:=by
  unfold vv yU;rw[Yy];simp only[t0,S.pend];rfl
 have Zn:(λi=>(T i).ph.proj)=λi=>if i=0 then .run l else .gone:=by
  funext i;by_cases hi:i=0
  .subst hi;rw[t0];rfl
  .rw[tn i hi,if_neg hi];rfl
 refine zBp (ty:=ty) hA (T:=T) (ch:=λ_=>none) (Shun:=Shun) ⟨⟨h0,λi hi=>(by rw[tn i aD]),(by rw[t0];trivial),λi hi=>(by rw[tn i hi];exact id),λi hi b=>?_,λi j b qQ hb=>?_,λi b hb=>?_,λi b hb=>?_,λi l' hi=>?_,λc b hc=>(by cases hc),?_,(by rw[Zn];exact S.inv)⟩,
  ⟨λi x hi=>?_,λi j gi gj c v z z' sh wD hi hj=>?_,λi gi c z sh hi e=>(by cases e),λx hx hp=>(by rw[t0] at hp;cases hp),?_⟩⟩ sl
 .by_cases h:i=0
  .subst h;rw[t0] at hi;cases hi
  .rw[tn i h];exact⟨id,id,id⟩
 .by_cases h:i=0
  .subst h
   rw[tn j (Ne.symm qQ)];exact⟨id,id,id⟩
  .rw[tn i h] at hb;exact hb.elim
 .by_cases h:i=0
  .subst h
   rw[t0] at hb;have:=S.bnd b (hb.imp id .inl);exact⟨this.1,this.2.1,rfl⟩
  .rw[tn i h] at hb;exact hb.elim zs7 zs7
 .by_cases h:i=0
  .subst h
   rw[t0] at hb;have:=S.bnd b (.inr (.inr hb));exact⟨this.1,this.2.1⟩
  .rw[tn i h] at hb;exact hb.elim
 .by_cases h:i=0
  .subst h;rw[t0] at hi;cases hi
  .rw[tn i h] at hi;cases hi
 .unfold gF
  simp only[t0];refine⟨by rw[vI];simpa using S.grp,λi e=>?_⟩;by_cases h:i=0
  .subst h;rw[t0] at e;exact e
  .rw[tn i h] at e;exact e
 .by_cases h:i=0
  .subst h
   rw[S.main] at hi;cases hi;refine(pE (by rw[t0];exact id)).2 ⟨r,by rw[t0],?_,.inl (by rw[t0];exact lL.self cF)⟩;have hd:Deaf t 0=0:=S.past.hears;rw[t0,hd];exact hr
  .refine(G2 (by rw[tn i h];trivial)).2 ⟨q i,by rw[tn i h],S.leave.old i x aD hi⟩
 .exfalso
  by_cases h:i=0
  .subst h
   rw[S.main] at hi;cases hi;simp[parked] at cF
  .have:=(S.leave.old i _ aD hi).status
   simp[parked] at this
 .refine TI.begin S.past S.low.2 S.leave.above (λj=>?_) (λb hb=>?_) S.low.1
  .by_cases h:j=0
   .subst h;rw[t0];exact⟨λ_=>rfl,λ_=>trivial⟩
   .rw[tn j h];exact⟨λe=>e.elim,λe=>absurd e h⟩
  .rw[t0] at hb
   exact(S.bnd b hb).2.2
end
end Go.Mt
namespace Go.Mt
open Go.Conc Go.Tt
open Go.ConcR (KK wgBlock WgAt stA smA rd wr)
def uZ (τ:cE)(R:Pr)(St:Nat->Prop):Prop:=∀a b,R a b->(St a->τ.still b)/\(¬St a->τ.own b)
section
variable {L:Type}{P:dI}{fs:aN->Bool}{K:Pr}{G':Gp}{St:Nat->Prop}{ty:aM}{Wg:Nat}{A:jF L}{Fin:bC->aE->Prop}
theorem zlO {S:aN->Prop}{R:Pr}{w W aV:aE}{τ:cE}(h:cT S K R G' St w W)(ht:uZ τ R St)(hK:∀a b,K a b->b<W.heap.size)(s:bT ty Wg τ W aV):cT S K R G' St w aV:=by
 refine⟨h.inj,h.inj',λa b x=>⟨(h.lt a b x).1,lA (h.lt a b x).2 s.size⟩,h.low,⟨h.gle.1,eP h.gle.2 s.size⟩,λa b x=>?_,h.rest,h.st,h.np,h.tb⟩;obtain⟨o,o',h1,h2,h3⟩:=h.cont a b x;refine⟨o,o',h1,?_,h3⟩;rw[s.keep b ?_];exact h2;by_cases hs:St a
 .exact .inr ((ht a b x).1 hs)
 .exact .inl ((ht a b x).2 hs)
end
end Go.Mt
namespace Go.Mt
open Go.Conc Go.Tt
open Go.ConcN (sumTo sumTo_upd upd_ne upd_same)
open Go.ConcR (KK wgBlock WgAt stA smA rd wr)
def Ends (P:bS)(Post:aF->aE->Prop)(m:Machine)(t:lJ):Prop:=
 ∃M last o w' t',runNT P (M+1) m t=(.ended o w',t')/\runN P M m=.next last/\step P last=.ended o w'/\Conc.Good P Post last o w' t'
section
variable {P:bS}{Post:aF->aE->Prop}
variable {ops:Array MemOp}
theorem Ends.step {m m':Machine}{t:lJ}(h:stepT P m=(.next m',ops))(he:Ends P Post m' (t++ops)):Ends P Post m t:=by
 obtain⟨M,last,o,w',t',h1,h2,h3,h4⟩:=he;refine⟨M+1,last,o,w',t',?_,?_,h3,h4⟩
 .rw[runNT,h];exact h1
 .have:Go.step P m=.next m':=by rw[Go.step,h]
  rw[zaV this];exact h2
theorem Ends.run:∀(N:Nat) {m m':Machine} {t t':lJ},runNT P N m t=(.next m',t')->Ends P Post m' t'->Ends P Post m t:=by
 intro N
 induction N with
 |zero=>
  intro m m' t t' h he;simp only[runNT,o7,V6] at h;obtain⟨rfl,rfl⟩:=h;exact he
 |succ N ih=>
  intro m m' t t' h he;rw[runNT] at h;generalize hs:stepT P m=s at h;obtain⟨s,ops⟩:=s
  cases s with
  |next m1=>exact Ends.step hs (ih h he)
  |ended o w=>simp at h
variable (P Post)
def J (Shun:Loc->Prop)(B:Nat)(g:bC)(w:aE):Prop:=
 ∀(gs:Array bC) (t:lJ) (sl:Option (Nat×Nat)) (q:Nat->Nat),gs[0]? =some g->Leavers P t gs q->Past Shun B t->Ends P Post (crowd gs w sl) t
variable {P Post}
variable {B:Nat}{g:bC}
theorem J.own {Shun:Loc->Prop}{w:aE}(cF:g.status=.running)
 (h:∀d,∃g' w' es B',stepG P true g (w.at d)=.go g' w' es/\(∀e∈es,EvL Shun B' e)/\B<=B'/\J P Post Shun B' g' w'):J P Post Shun B g w:=by
 have key:∀(M:Nat) (d:Nat) (gs:Array bC) (t:lJ) (sl:Option (Nat×Nat)) (q:Nat->Nat),sumTo gs.size q=M->gs[0]? =some g->Leavers P t gs q->Past Shun B t->Ends P Post (crowd gs (w.at d) sl) t:=by
  intro M
  induction M using zho with
  |ind M ih=>
  intro d gs t sl q hM h0 hL hP;have dK:∀x∈gs,awake x:=by
   intro x hx;obtain⟨i,hi,rfl⟩:=zod.1 hx;rcases Ou i with rfl|Bt
   .have:gs[0]=g:=by simpa[nA hi] using h0
    rw[this];exact awake_of (.inl cF)
   .exact awake_of ((hL.old i _ Bt (nA hi)).status.elim .inl λx=>.inr (.inr x))
  obtain⟨i,x,d',J5,hi,hx,aX⟩:=crowd_pick (P:=P) (w:=w.at d) (sl:=sl) dK ⟨0,g,h0,cF⟩;rw[show(w.at d).at d'=w.at d' from rfl] at aX;rcases Ou i with rfl|Bt
  .obtain rfl:x=g:=by rw[h0] at hi;exact(cD hi).symm
   obtain⟨g',w',es,B',hgo,xO,cH,hJ⟩:=h d';have zng:=X0 (P:=P) (sl:=J5) (i:=0) hi (show stepG P (0==0) x (w.at d')=_ from hgo);have aP:0<gs.size:=(dM.1 h0).1;refine Ends.step (aX.trans zng) (hJ _ _ _ q (by simp[aP]) ⟨λj y hj hy=>?_,λj hj=>?_⟩ ((hP.mono cH).own xO))
   .have aT:0≠j:=aD
    rw[jM aT,xP] at hy;obtain⟨z,hz,rfl⟩:=wM.1 hy;have hq:=hL.old j z hj hz;rw[woken_quitsD hq,Nj t aD _ (λop hop=>by obtain⟨e,_,rfl⟩:=zeU hop;rfl)];exact hq
   .rw[Nj t (g':=0) (by simp at hj;omega) _ (λop hop=>by obtain⟨e,_,rfl⟩:=zeU hop;rfl)]
    exact hL.above j zbl
  .have hq:=hL.old i x Bt hi
   have fL:(i==0)=false:=rF;have aP:i<gs.size:=(dM.1 hi).1
   cases zkb:q i with
   |zero=>rw[zkb] at hq;rw[hq.1] at hx;cases hx
   |succ k=>
    rw[zkb] at hq;rcases hq with⟨hf,_⟩|⟨_,g',es,hm,zac,O9⟩
    .rw[hf] at hx;cases hx
    have zng:=X0 (P:=P) (sl:=J5) (i:=i) hi (by rw[fL];exact zac (w.at d'));have cH:((gs.map (woken P x g' (w.at d'))).setIfInBounds i g').size=gs.size:=aQ;have zLO:sumTo gs.size (zlE q i k)+(k+1)=sumTo gs.size q+k:=by
     have:=sumTo_upd q k id aP;simp only[zkb,id] at this;exact this
    refine Ends.step (aX.trans zng) (ih (sumTo gs.size (zlE q i k)) aD d' _ _ _ (zlE q i k) (by rw[cH]) ?_ ⟨λj y hj hy=>?_,λj hj=>?_⟩ (hP.mute aD hm))
    .have aT:i≠0:=aD
     rw[jM aT,xP,h0];simp[woken_run cF]
    .by_cases eI:i=j
     .subst eI
      rw[Array.getElem?_setIfInBounds_self_of_lt (by simpa using aP)] at hy;obtain rfl:=cD hy;rw[ConcN.upd_same,Deaf_own];exact O9
     .rw[jM eI,xP] at hy
      obtain⟨z,hz,rfl⟩:=wM.1 hy;have zpO:=hL.old j z hj hz;rw[woken_quitsD zpO,ConcN.upd_ne q k (Ne.symm eI),Nj t eI _ (λop hop=>by obtain⟨e,_,rfl⟩:=zeU hop;rfl)];exact zpO
    .rw[Nj t (g':=i) (by simp at hj;omega) _ (λop hop=>by obtain⟨e,_,rfl⟩:=zeU hop;rfl)]
     exact hL.above j zbl
 intro gs t sl q h0 hL hP;have:=key _ w.drawn gs t sl q rfl h0 hL hP;exact this
theorem J.done {Shun:Loc->Prop}{w:aE}(cF:g.status=.running)
 (h:∀d,∃v es,stepG P true g (w.at d)=.ended (.done v) (w.at d) es/\(∀e∈es,EvL Shun B e)/\Post v (w.at d)):J P Post Shun B g w:=by
 intro gs t sl q h0 hL hP;exact beside_ends (B:=B) (D:=λ_ _ es=>∀e∈es,EvL Shun B e) (n:=0) (λ_ _ _ hd=>hd) h0 hL hP (λaI ⟨d,hd⟩=>by subst hd;exact⟨cF,h d⟩)
theorem J.phase {L:Type}{ty:aM}{Wg:Nat}{A:jF L}(hA:A.Ok){Shun:Loc->Prop}{a:bC}{w:aE}{l:L}{τ:cE}
 (hb:bZ P ty Wg A (λg w'=>J P Post (λl=>Shun l\/mY l Wg) w'.heap.size g w') true (.usr l) 0 τ a w) (hg:fV ty Wg w 0 0) (hB:B<=Wg/\B<=w.heap.size)
 (bnd:∀b,τ.own b\/τ.still b\/τ.pass b->b<w.heap.size/\b≠Wg/\∀l,mY l b->¬Shun l) (pend:A.pend l=false)
 (inv:A.Inv (λi=>if i=0 then .run l else .gone) (λ_=>none)):J P Post Shun B a w:=by
 intro gs t sl q h0 hL hP;obtain⟨N,m',t',h1,gs',a',w',J5,q',rfl,h2,h3,h4,h5,h6⟩:=Mt.phase hA (S:=⟨h0,hL,hP,hb,hg,hB,bnd,pend,inv⟩) sl;exact Ends.run N h1 (h4 gs' t' J5 q' h2 h5 h6)
end
end Go.Mt
namespace Go.Mt
open Go.Conc Go.Tt
open Go.ConcR (KK wgBlock WgAt stA smA rd wr)
abbrev K0:Pr:=λ_ _=>False
structure Sh (n:Nat)(Shun:Loc->Prop)(R:Pr)(W:aE):Prop where
 old:∀l b,mY l b->b<n->¬Shun l
 rel:∀a b,R a b->∀l,mY l b->¬Shun l
 new:∀l b,mY l b->W.heap.size<=b->¬Shun l
structure Kp (W0:aE)(R:Pr)(St:Nat->Prop)(W:aE):Prop where
 os:W.os=W0.os
 tape:W.tape=W0.tape
 output:W.output=W0.output
 size:W0.heap.size<=W.heap.size
 block:∀b,b<W0.heap.size->W.heap[b]? =W0.heap[b]?
 old:∀a b,R a b->b<W0.heap.size->St a
def Kp.below {W0 W:aE}{R:Pr}{St:Nat->Prop}(h:Kp W0 R St W):bU W0.heap.size W0 W:=⟨h.os,h.tape,h.output,h.size,h.block⟩
section
variable (P:dI)(fs:aN->Bool)(G':Gp)(St:Nat->Prop)(W0:aE)(Post:aF->aE->Prop)
def JO (m:Fm)(ms:List Fm)(w:aE):Prop:=
 ∀(K R:Pr) (W:aE) (m':Fm) (ms':List Fm) (Shun:Loc->Prop),cT (SF fs) K R G' St w W->oV P fs K R m m'->uD P fs K R ms ms'->Sh W0.heap.size Shun R W->Kp W0 R St W->
  J P.c Post Shun W.heap.size (G m'.fr (ms'.map Fm.fr)) W
variable {P fs G' St W0 Post}
variable {m:Fm}{ms:List Fm}
def JO.tape {w:aE}(h:JO P fs G' St W0 Post m ms w)(T:Tape)(e:Nat):JO P fs G' St W0 Post m ms (Tt.tp w T e):=
 λK R W m' ms' Shun a b c d k=>h K R W m' ms' Shun a.untp b c d k
variable {R:Pr}
theorem zA2 {Shun:Loc->Prop}{W:aE}{St:Nat->Prop}{e:oE}(h:Ft R St e){n:Nat}(hs:Sh n Shun R W)(aP:∀a b,R a b->b<W.heap.size):EvL Shun W.heap.size e:=by
 rcases h with rfl|⟨b,a,h1,h2,h3⟩
 .exact⟨λx hx=>by simp[jB,qG] at hx,aQ,aQ,trivial⟩
 .obtain⟨loc,wr,sy⟩:=e
  cases loc with
  |cell x=>
   simp only[Gw,fS] at h1;refine⟨λy hy lE=>?_,aQ,aQ,?_⟩
   .simp only[jB,qG,fS] at hy
    subst hy;exact absurd lE (hs.rel a b h2 _ h1)
   .show x.block<W.heap.size
    rw[h1];exact aP a b h2
  |obj r=>
   simp only[Gw,fS] at h1;have hr:r<W.heap.size:=by rw[h1];exact aP a b h2
   refine⟨λy hy lE=>?_,aQ,aQ,?_⟩
   .have V7:y.loc=.obj r:=by
     cases wr<;>cases sy<;>simp only[jB,qG,fS] at hy<;>first|(subst hy;rfl)|(cases hy;done)
    exact absurd (V7▸lE) (hs.rel a b h2 (.obj r) h1)
   .cases wr<;>cases sy<;>exact hr
  |_=>simp[Gw] at h1
def cT.at {S:aN->Prop}{K:Pr}{G':Gp}{w W:aE}(h:cT S K R G' St w W)(d:Nat):cT S K R G' St w (W.at d):=
 ⟨h.inj,h.inj',h.lt,h.low,h.gle,h.cont,h.rest,h.st,h.np,h.tb⟩
theorem JO.one (F:Fit2 P fs)(hG:G'=P.gp){w:aE}(hs:m.ret=true->ms≠[])(nx:Tape->(Fm×List Fm)×aE)(cF:∀T,(eU P.g m ms).run P.g (Tt.tp w T 0)=.ok (nx T).1 (nx T).2)
 (dB:∀T K R y,¬OpR P fs K R (nx T).1 y) (hJ:∀T,JO P fs G' St W0 Post (nx T).1.1 (nx T).1.2 (nx T).2):JO P fs G' St W0 Post m ms w:=by
 intro K R W m' ms' Shun hw hm iJ lE hk;refine J.own rfl λd=>?_;have dH:=cT.at hw d
 let aV:=W.at d
 let T:Tape:=λn q=>aV.tape (aV.drawn+n) q
 have xX:cT (SF fs) K R G' St (Tt.tp w T 0) aV:=⟨dH.inj,dH.inj',dH.lt,dH.low,dH.gle,dH.cont,dH.rest,dH.st,dH.np,dH.tb⟩;have K7:Tp (Tt.tp w T 0) aV:=λn q=>by show aV.tape (aV.drawn+(0+n)) q=_;rw[rL]
 obtain⟨R1,x',W1,ev,e1,e2,e3,e4,e5⟩:=aG.run hG _ (zeL (l:=false) F (xX.relOk hG) hm iJ (λe=>by cases e) hs) xX K7 (cF T);replace e2:=e2.resolve_right λx=>dB T K R1 x' x.2;have mD:(eU P.c m' ms').events P.c aV #[]=ev:=by rw[e4];simp
 have cH:W.heap.size<=W1.heap.size:=e3.size.2;have zuD:Sh W0.heap.size Shun R1 W1:=⟨lE.old,λa b x l hl=>by
  rcases e3.new a b x with y|⟨_,y⟩
  .exact lE.rel a b y l hl
  .exact lE.new l b hl y,λl b hl hb=>lE.new l b hl (eP cH hb)⟩
 have n8:Kp W0 R1 St W1:=by
  refine⟨e3.os.2.trans hk.os,e3.tape.2.trans hk.tape,e3.ou.2.trans hk.output,eP hk.size cH,λb hb=>?_,λa b x hb=>?_⟩
  .have zCP:b<W.heap.size:=lA hb hk.size
   rw[e3.keep b zCP (λa x=>hk.old a b x hb)];exact hk.block b hb
  .rcases e3.new a b x with y|⟨_,y⟩
   .exact hk.old a b y hb
   .have h9:W.heap.size<=b:=y
    have:=hk.size;omega
 have goal:=hJ T K R1 W1 x'.1 x'.2 Shun e3.rel e2.1 e2.2.1 zuD n8;have aX:=zjr (main:=true) e1 [];simp only[Mh] at aX;rw[mD] at aX;exact⟨_,W1,_,W1.heap.size,aX,λe he=>zA2 (e5 e (zaH he)) zuD (λa b x=>(e3.rel.ltR a b x).2),cH,goal⟩
theorem Ml.jo (F:Fit2 P fs)(hG:G'=P.gp){N:Fm->Prop}(hop:∀f xs,P.op f=true->¬N (qM P.g f xs)){Stop:Fm->List Fm->aE->Prop}(hS:∀m ms w,Stop m ms w->JO P fs G' St W0 Post m ms w){w:aE}(h:Ml P.g N Stop m ms w):
 JO P fs G' St W0 Post m ms w:=by
 induction h with
 |stop hs=>exact hS _ _ _ hs
 |step nx hs cF hN aP ih=>
  rename_i m ms w;refine JO.one F hG hs nx cF (λT K R y ho=>?_) ih;obtain⟨f,xs,bX,c,c',rest,Iz,h1,h2,h3,h4,_⟩:=ho.ex;have zsk:=hN T;rw[h4] at zsk;exact hop f xs h1 zsk
end
abbrev PL (p:bS)(op gs:aN->Bool):dI:=⟨p,p.funcs,op,λ_=>false,gs,true⟩
abbrev PS (p:bS)(gs:aN->Bool):dI:=⟨p,p.funcs,λ_=>false,λ_=>false,gs,true⟩
structure Lv (p:bS)(op gs gs₁ fs:aN->Bool):Prop where
 fit:Fit2 (PL p op gs) fs
 fit₁:uT (PS p gs₁) fs
 nofit:∀f,op f=true->∃fn c,p.funcs[f]? =some fn/\fn.body=some c/\(fn.name== "runtime.NumGoroutine")=false/\oI p ⟨fs,gs₁,true⟩ c=false
section
variable {p:bS}{op gs gs₁ fs:aN->Bool}{St:Nat->Prop}{W0:aE}{Post:aF->aE->Prop}
abbrev JL (p:bS)(op gs fs:aN->Bool)(St:Nat->Prop)(W0:aE)(Post:aF->aE->Prop)(m:Fm)(ms:List Fm)(w:aE):Prop:=JO (PL p op gs) fs (oR p) St W0 Post m ms w
theorem Io (p:bS)(f:aN)(xs:Array aF):(qM p f xs).fn=f:=by
 unfold qM;split
 .split<;>rfl
 .rfl
variable {P:dI}{G':Gp}{m:Fm}{ms:List Fm}
def JO.untape {fs:aN->Bool}{w:aE}{T:Tape}{e:Nat}(h:JO P fs G' St W0 Post m ms (Tt.tp w T e)):JO P fs G' St W0 Post m ms w:=
 λK R W m' ms' Shun a b c d k=>h K R W m' ms' Shun ⟨a.inj,a.inj',a.lt,a.low,a.gle,a.cont,a.rest,a.st,a.np,a.tb⟩ b c d k
variable {K:Pr}
theorem uY.tape {fs:aN->Bool}{w:aE}(h:uY P fs K G' St m ms w)(T:Tape)(e:Nat):uY P fs K G' St m ms (Tt.tp w T e):=by
 obtain⟨R,W,m',ms',a,b,c⟩:=h;exact⟨R,W,m',ms',⟨a.inj,a.inj',a.lt,a.low,a.gle,a.cont,a.rest,a.st,a.np,a.tb⟩,b,c⟩
variable {K₁:Pr}{c:Code}
theorem zl6 {P₁:dI}{Qa:aN->Bool}{Vq:Gp}{zdN:Nat->Prop}(zfo:uT P₁ Qa)(zeN:Vq=P₁.gp){fn:aN}{tmps:Array aF}{w:aE}{Q:Exit->tE->aE->Prop}
 (hrel:uY P₁ Qa K₁ Vq zdN ⟨fn,tmps,[.code c],false⟩ [] w) (qI:∀T,Code.wp P₁.g c Q ⟨tmps,[]⟩ (Tt.tp w T 0)) (hx:∀e a w,Q e a w->e=.normal\/e=.ret) (Yx:∀e a w T k,Q e a w->Q e a (Tt.tp w T k)):
 Tt.LT P₁.g (λmT wT=>mT.ret=true/\((mT.todo=[]/\Q .normal ⟨mT.tmps,[]⟩ wT)\/Q .ret ⟨mT.tmps,[]⟩ wT)) ⟨fn,tmps,[.code c],false⟩ [] w:=by
 refine bar zfo zeN (λm w T e h=>⟨h.1,h.2.imp (λx=>⟨x.1,Yx _ _ _ _ _ x.2⟩) (Yx _ _ _ _ _)⟩) ⟨hrel,λT=>?_⟩
 let b:Frame:={(default:dE) with fn:=fn,kind:=.normal}
 obtain⟨e,a',w',hq,zsn⟩:=qI T b [] [pz];have zIY:=uY.tape hrel T 0
 have fin:∀todo,Steps P₁.g (lone (b.at ⟨tmps,[]⟩ [.code c]) [pz] (Tt.tp w T 0)) (lone {b.at a' todo with mode:=.returning} [pz] w')->((todo=[]/\Q .normal a' w')\/Q .ret a' w')->
  ∃n mT wT,Ha P₁.g n ⟨fn,tmps,[.code c],false⟩ [] (Tt.tp w T 0) mT wT/\mT.ret=true/\((mT.todo=[]/\Q .normal ⟨mT.tmps,[]⟩ wT)\/Q .ret ⟨mT.tmps,[]⟩ wT):=by
  intro todo hs zjP;obtain⟨n,hn⟩:=hs;obtain⟨k,mT,hi,fI⟩:=Sf zfo zeN (frT:={b.at a' todo with mode:=.returning}) rfl n zIY hn;have h1:mT.tmps=a'.tmps:=congrArg zvu fI;have h2:a'.defers=[]:=(congrArg dE.defers fI).symm;have h3:mT.todo=todo:=congrArg dE.todo fI;have h4:mT.ret=true:=by
   cases hr:mT.ret with
   |true=>rfl
   |false=>have:=congrArg dE.mode fI;rw[Fm.fr_run hr] at this;cases this
  have h5:(⟨mT.tmps,[]⟩:tE)=a':=by rw[h1,<-h2]
  exact⟨k,mT,w',hi,h4,by rw[h5,h3];exact zjP⟩
 rcases hx e a' w' hq with rfl|rfl
 .exact fin [] (Steps.trans zsn (Steps.one step_end)) (.inl ⟨rfl,hq⟩)
 .obtain⟨todo,hs⟩:=zsn
  exact fin todo hs (.inr hq)
def zce (p:bS)(op:aN->Bool)(m:Fm):Prop:=∀f xs,op f=true->m≠qM p f xs
def Lv.hop (L:Lv p op gs gs₁ fs):∀f xs,(PL p op gs).op f=true->¬zce p op (qM (PL p op gs).g f xs):=λf xs h hn=>hn f xs h rfl
theorem Lv.hN (L:Lv p op gs gs₁ fs):∀m R y,oV (PS p gs₁) fs K₁ R m y->zce p op m:=by
 rintro m R y hm f xs ho rfl;obtain⟨fn,c,h1,h2,_,h4⟩:=L.nofit f ho;have h5:qM p f xs=⟨f,xs++nD (fn.ntmps-xs.size) aA,[.code c],false⟩:=by simp[qM,h1,h2]
 have hf:=hm.fit;rw[h5] at hf;have:=hf (.code c) aQ;have h6:sX (PS p gs₁) fs f=⟨fs,gs₁,true⟩:=rfl;simp only[Eh,h6,h4] at this;cases this
variable {k:List dW}
theorem zux {R:Pr}{fn:aN}{tmps:Array aF}{w W:aE}{m':Fm}(hc:oI p ⟨fs,gs₁,true⟩ c=true)
 (hw:cT (SF fs) K R (oR p) St w W) (hm:oV (PL p op gs) fs K R ⟨fn,tmps,.code c::k,false⟩ m'):uY (PS p gs₁) fs K (oR p) St ⟨fn,tmps,[.code c],false⟩ [] w:=by
 refine⟨R,W,{m' with todo:=[.code c]},[],hw,⟨hm.fn,rfl,hm.ret,hm.tmps,λi hi=>?_,hm.infs⟩,.nil⟩;simp only[iX,lX,or_false] at hi;subst hi;exact hc
variable {b:List Fm}
theorem JO.piece (L:Lv p op gs gs₁ fs){fn:aN}{tmps:Array aF}{w:aE}(hc:oI p ⟨fs,gs₁,true⟩ c=true)(wJ:op fn=false)
 (qI:∀T,Code.wp p c (λe a' w'=>e=.normal/\JL p op gs fs St W0 Post ⟨fn,a'.tmps,k,false⟩ b w') ⟨tmps,[]⟩ (Tt.tp w T 0)):JL p op gs fs St W0 Post ⟨fn,tmps,.code c::k,false⟩ b w:=by
 intro K R W m' ms' Shun hw hm iJ lE hk;have hrel:=zux (gs₁:=gs₁) hc hw hm;have tree:=zl6 L.fit₁ rfl hrel qI (λe a w h=>.inl h.1) (λe a w T k h=>⟨h.1,h.2.tape T k⟩)
 have Za:=LT.app L.fit₁ rfl (N:=zce p op) (Stop:=λm ms w=>JL p op gs fs St W0 Post m ms w) k b (fn0:=fn) (L.hN (K₁:=K)) (λm e f xs ho e2=>by rw[e2,Io] at e;rw[e,wJ] at ho;cases ho)
  (λx w e1 e2 e3 hq=>by
   have h1:=hq w.tape;rcases h1.2 with h|h
   .have h2:=JO.untape h.2.2
    obtain⟨xf,xt,xd,xr⟩:=x;simp only at e1 e2 e3 h2;subst e1 e2 e3;exact h2
   .cases h.1)
  (λx w e1 e2 e3 hq=>by
   rcases hq.2 with h|h
   .exact absurd h.1 e3
   .cases h.1) tree rfl hrel (λ_ e=>by cases e)
 exact Ml.jo L.fit rfl L.hop (λm ms w h=>h) Za K R W m' ms' Shun hw hm iJ lE hk
theorem JO.ctl (L:Lv p op gs gs₁ fs){m1:Fm}{w:aE}(hr:m.ret=false)(hf:op m1.fn=false)(cF:∀w,(rN p m ms).run p w=.ok (m1,ms) w)(hJ:JL p op gs fs St W0 Post m1 ms w):JL p op gs fs St W0 Post m ms w:=by
 refine JO.one L.fit rfl (λe=>by rw[hr] at e;cases e) (λT=>((m1,ms),Tt.tp w T 0)) (λT=>?_) (λT K R y ho=>?_) λT=>hJ.tape T 0
 .show(eU p m ms).run p _=_
  simp only[eU,hr,iU,if_false];exact cF _
 .obtain⟨f,xs,bX,c,c',rest,Iz,h1,h2,h3,h4,_⟩:=ho.ex
  simp only[o7] at h4;have h5:=h4.1;rw[h5,Io] at hf;have h6:op f=true:=h1;rw[hf] at h6;cases h6
variable {a:Code}
def JO.seq (L:Lv p op gs gs₁ fs){fn:aN}{tmps:Array aF}{b:Code}{w:aE}(hf:op fn=false)(h:JL p op gs fs St W0 Post ⟨fn,tmps,.code a:: .code b::k,false⟩ ms w):JL p op gs fs St W0 Post ⟨fn,tmps,.code (.seq a b)::k,false⟩ ms w:=
 JO.ctl L rfl hf (λw=>rfl) h
theorem JO.cond (L:Lv p op gs gs₁ fs){fn:aN}{tmps:Array aF}{c:cM}{b:Code}{w:aE}{t:Bool}(hf:op fn=false)(hc:(bH tmps []).eval c=.bool t)(h:JL p op gs fs St W0 Post ⟨fn,tmps,.code (if t then a else b)::k,false⟩ ms w):JL p op gs fs St W0 Post ⟨fn,tmps,.code (.cond c a b)::k,false⟩ ms w:=by
 refine JO.ctl L rfl hf (λw=>?_) h;have he:Fm.eval ⟨fn,tmps,.code (.cond c a b)::k,false⟩ c=.bool t:=by rw[<-hc];cases c<;>rfl
 simp only[rN,he,kE,bD]
def JO.skip (L:Lv p op gs gs₁ fs){fn:aN}{tmps:Array aF}{w:aE}(hf:op fn=false)(h:JL p op gs fs St W0 Post ⟨fn,tmps,k,false⟩ ms w):JL p op gs fs St W0 Post ⟨fn,tmps,.code .skip::k,false⟩ ms w:=JO.ctl L rfl hf (λw=>rfl) h
def JO.ret (L:Lv p op gs gs₁ fs){fn:aN}{tmps:Array aF}{w:aE}(hf:op fn=false)(h:JL p op gs fs St W0 Post ⟨fn,tmps,.code .ret::k,true⟩ ms w):JL p op gs fs St W0 Post ⟨fn,tmps,.code .ret::k,false⟩ ms w:=JO.ctl L rfl hf (λw=>rfl) h
def JO.fall (L:Lv p op gs gs₁ fs){fn:aN}{tmps:Array aF}{w:aE}(hf:op fn=false)(h:JL p op gs fs St W0 Post ⟨fn,tmps,[],true⟩ ms w):JL p op gs fs St W0 Post ⟨fn,tmps,[],false⟩ ms w:=JO.ctl L rfl hf (λw=>rfl) h
variable {ops:Array aY}
def JO.reg (L:Lv p op gs gs₁ fs){fn:aN}{tmps:Array aF}{id:Nat}{w:aE}(hf:op fn=false)(h:JL p op gs fs St W0 Post ⟨fn,tmps,.inRegion ops (gD ops.size)::k,false⟩ ms w):JL p op gs fs St W0 Post ⟨fn,tmps,.code (.region id ops false)::k,false⟩ ms w:=JO.ctl L rfl hf (λw=>rfl) h
def JO.regEnd (L:Lv p op gs gs₁ fs){fn:aN}{tmps:Array aF}{w:aE}(hf:op fn=false)(h:JL p op gs fs St W0 Post ⟨fn,tmps,k,false⟩ ms w):JL p op gs fs St W0 Post ⟨fn,tmps,.inRegion ops []::k,false⟩ ms w:=JO.ctl L rfl hf (λw=>rfl) h
variable {o:aY}
theorem JO.opv (L:Lv p op gs gs₁ fs){fn:aN}{tmps:Array aF}{i:Nat}{rest:List Nat}{w:aE}{v:aF}(hf:op fn=false)(ho:ops[i]? =some o)(cC:dA o (dN ops tmps)=true)
 (hx:∀T e,(aO (bH tmps []).eval o).run p (Tt.tp w T e)=.ok (.value v) (Tt.tp w T e)) (h:JL p op gs fs St W0 Post ⟨fn,(b7 ⟨tmps,[]⟩ o.dst v).tmps,.inRegion ops rest::k,false⟩ ms w):JL p op gs fs St W0 Post ⟨fn,tmps,.inRegion ops (i::rest)::k,false⟩ ms w:=by
 refine JO.one L.fit rfl (λe=>by cases e) (λT=>((⟨fn,(b7 ⟨tmps,[]⟩ o.dst v).tmps,.inRegion ops rest::k,false⟩,ms),Tt.tp w T 0)) (λT=>?_) (λT K R y Ln=>?_) λT=>h.tape T 0
 .show(eU p _ ms).run p _=_
  simp only[eU,iU,if_false,rN,ho,zP,zC,cC,if_true];have he:Fm.eval ⟨fn,tmps,.inRegion ops (i::rest)::k,false⟩=(bH tmps []).eval:=by funext x;cases x<;>rfl
  rw[he];refine(q9 p _ _ _).trans ?_;rw[hx];simp only[uC,qF,kE,bD,Fm.fin,ho,xI,b7];cases o.dst<;>rfl
 .obtain⟨f,xs,bX,c,c',rest,Iz,h1,h2,h3,h4,_⟩:=Ln.ex
  simp only[o7] at h4;have h5:=congrArg Fm.fn h4.1;rw[Io] at h5;have h6:op f=true:=h1;simp only at h5;rw[<-h5,hf] at h6;cases h6
variable {x:Fm}
theorem JO.back (L:Lv p op gs gs₁ fs){w:aE}{i:Nat}{rest:List Nat}{v:aF}(hr:x.ret=true)(pR:m.todo=.inRegion ops (i::rest)::k){fnx:Rb}(Rn:p.funcs[x.fn]? =some fnx)(hv:(nY fnx.results.toList x.tmps).run p w=.ok v w)(hf:op m.fn=false)
 (h:JL p op gs fs St W0 Post (m.fin ops i rest k v) ms w):JL p op gs fs St W0 Post x (m::ms) w:=by
 refine JO.one L.fit rfl (λ_=>by simp) (λT=>((m.fin ops i rest k v,ms),Tt.tp w T 0)) (λT=>?_) (λT K R y Ln=>?_) λT=>h.tape T 0
 .show(eU p x (m::ms)).run p _=_
  simp only[eU,hr,if_true];exact(Jw pR Rn ((Nz _ _ w v w hv).2 T 0)).1
 .obtain⟨f,xs,bX,c,c',rest,Iz,h1,h2,h3,h4,_⟩:=Ln.ex
  simp only[o7] at h4;have h5:=congrArg Fm.fn h4.1;rw[Io] at h5;have h6:op f=true:=h1;have h7:m.fn=f:=h5;rw[<-h7,hf] at h6;cases h6
theorem JO.tail (L:Lv p op gs gs₁ fs){fn:aN}{tmps:Array aF}{w:aE}(hc:oI p ⟨fs,gs₁,true⟩ c=true)(wJ:op fn=false)
 (qI:∀T,Code.wp p c (λe a' w'=>(e=.normal\/e=.ret)/\∀todo,JL p op gs fs St W0 Post ⟨fn,a'.tmps,todo,true⟩ b w') ⟨tmps,[]⟩ (Tt.tp w T 0)):JL p op gs fs St W0 Post ⟨fn,tmps,[.code c],false⟩ b w:=by
 intro K R W m' ms' Shun hw hm iJ lE hk;have hrel:=zux (gs₁:=gs₁) hc hw hm;have tree:=zl6 L.fit₁ rfl hrel qI (λe a w h=>h.1) (λe a w T k h=>⟨h.1,λtodo=>(h.2 todo).tape T k⟩)
 have Za:=LT.app L.fit₁ rfl (N:=zce p op) (Stop:=λm ms w=>JL p op gs fs St W0 Post m ms w) [] b (fn0:=fn) (L.hN (K₁:=K)) (λm e f xs ho e2=>by rw[e2,Io] at e;rw[e,wJ] at ho;cases ho)
  (λx w e1 e2 e3 hq=>by
   have h1:=hq w.tape;have h2:JL p op gs fs St W0 Post ⟨fn,x.tmps,[],true⟩ b w:=by
    rcases h1.2 with h|h
    .exact JO.untape (h.2.2 [])
    .exact JO.untape (h.2 [])
   obtain⟨xf,xt,xd,xr⟩:=x;simp only at e1 e2 e3 h2;subst e1 e2 e3;exact JO.fall L wJ h2)
  (λx w e1 e2 e3 hq=>by
   have h2:JL p op gs fs St W0 Post ⟨fn,x.tmps,x.todo,true⟩ b w:=by
    rcases hq.2 with h|h
    .exact h.2.2 _
    .exact h.2 _
   obtain⟨xf,xt,xd,xr⟩:=x;simp only at e1 e2 e3 h2;subst e1 e2;rw[Fm.app_nil];exact h2) tree rfl hrel (λ_ e=>by cases e)
 exact Ml.jo L.fit rfl L.hop (λm ms w h=>h) Za K R W m' ms' Shun hw hm iJ lE hk
theorem Lv.noOp (L:Lv p op gs gs₁ fs){f:aN}(hg:gs₁ f=true):op f=false:=by
 cases ho:op f with
 |false=>rfl
 |true=>
  obtain⟨fn,c,h1,h2,_,h4⟩:=L.nofit f ho;obtain⟨fn',c',g1,g2,g3,g4,g5⟩:=L.fit₁.fn f hg rfl;have y6:=h1;rw[g2] at y6;obtain rfl:=cD y6;rw[h2] at g4;obtain rfl:=cD g4;have h6:sX (PS p gs₁) fs f=⟨fs,gs₁,true⟩:=rfl;rw[h6] at g5;have zrs:=g5;rw[h4] at zrs;cases zrs
variable {fn:Rb}
theorem zAD {p:bS}(hp:Cs fn.results.toList){tmps:Array aF}{v:aF}{w w':aE}(h:(results fn tmps).run p w=.ok v w'):(nY fn.results.toList tmps).run p w=.ok v w:=by
 rw[zcN hp] at h;obtain⟨rfl,_⟩:=Nz _ _ w v w' h;exact h
variable {args:Array cM}{j8:Array aM}
theorem zct {p:bS}{f:aN}(hop:o.op=.call ⟨.value (.func f),args,j8⟩){ρ:cM->aF}(hρ:∀g,ρ (.func g)=.func (.func g) #[] #[])(hf:p.funcs[f]? =some fn)
 (hn:(fn.name== "runtime.NumGoroutine")=false) (hb:fn.body=some c) (w:aE):(aO ρ o).run p w=.ok (.enter f (args.map ρ)) w/\(aO ρ o).events p w #[]=#[]:=by
 obtain⟨dst,yF,type,pos,after,guard⟩:=o;simp only at hop;subst hop;have vB:¬fn.name= "runtime.NumGoroutine" :=by simpa using hn
 constructor
 .simp[aO,resolve,Bg,hρ,invoke,callFunc,program,bind,xF,pure,bD,hf,vB,hb]
 .simp[aO,resolve,Bg,hρ,invoke,callFunc,program,bind,xF,pure,bD,vV,yV,hf,vB,hb]
theorem JO.callL (L:Lv p op gs gs₁ fs){w:aE}{i:Nat}{rest:List Nat}{f:aN}(hr:m.ret=false)(pR:m.todo=.inRegion ops (i::rest)::k)
 (ho:ops[i]? =some o) (cC:dA o (dN ops m.tmps)=true) (hop:o.op=.call ⟨.value (.func f),args,j8⟩) (hg:gs₁ f=true) (wJ:op m.fn=false) (rR:args.all (dL fs)=true)
 {Q:aF->aE->Prop} (Yx:∀v w T e,Q v w->Q v (Tt.tp w T e)) (hc:∀T,iE p f (args.map m.eval) (Tt.tp w T 0) (λe w'=>∃v,e=.returned v/\Q v w'))
 (hJ:∀v w',Q v w'->JL p op gs fs St W0 Post (m.fin ops i rest k v) ms w'):JL p op gs fs St W0 Post m ms w:=by
 have Ci:=L.noOp hg;obtain⟨fn,c,g1,g2,g3,g4,g5⟩:=L.fit₁.fn f hg rfl;have Cf:p.funcs[f]? =some fn:=g2;have lS:Cs fn.results.toList:=L.fit₁.res f hg rfl fn g2;have Aw:qM p f (args.map m.eval)=⟨f,args.map m.eval++nD (fn.ntmps-(args.map m.eval).size) aA,[.code c],false⟩:=by simp[qM,Cf,g4]
 have zah:∀(x:Fm) (wx:aE),x.ret=true->x.fn=f->(∃v,(nY fn.results.toList x.tmps).run p wx=.ok v wx/\Q v wx)->JL p op gs fs St W0 Post x (m::ms) wx:=by
  intro x wx h1 h2 ⟨v,h3,h4⟩;exact JO.back L h1 pR (v:=v) (fnx:=fn) (by rw[h2];exact Cf) h3 wJ (hJ v wx h4)
 intro K R W m' ms' Shun hw hm iJ lE hk;have Be:bK (SF fs) K R (args.map m.eval) (args.map m'.eval):=bK.maps hm.eval rR;have zcW:oV (PS p gs₁) fs K R (qM p f (args.map m.eval)) (qM p f (args.map m'.eval)):=by
  have zFA:qM p f (args.map m'.eval)=⟨f,args.map m'.eval++nD (fn.ntmps-(args.map m'.eval).size) aA,[.code c],false⟩:=by simp[qM,Cf,g4]
  rw[Aw,zFA];refine⟨rfl,rfl,rfl,Be.pad _,λj hj=>?_,⟨fn,fn,g1,g2,rfl,lS⟩⟩;simp only[iX,lX,or_false] at hj;subst hj;exact g5
 have hrel:uY (PS p gs₁) fs K (oR p) St (qM p f (args.map m.eval)) [] w:=⟨R,W,_,[],hw,zcW,.nil⟩;have tree:Tt.LT p (λmT wT=>mT.ret=true/\mT.fn=f/\∃v,(nY fn.results.toList mT.tmps).run p wT=.ok v wT/\Q v wT) (qM p f (args.map m.eval)) [] w:=by
  refine bar (P:=PS p gs₁) L.fit₁ rfl (λm w T e h=>⟨h.1,h.2.1,let⟨v,a,b⟩:=h.2.2;⟨v,(Nz _ _ w v w a).2 T e,Yx _ _ _ _ b⟩⟩) ⟨hrel,λT=>?_⟩;obtain⟨e,w',fr,⟨v,rfl,hq⟩,q8,Dc,J0⟩:=hc T [pz];obtain⟨zhm,zKA,zMi,fn',Wa,zgI⟩:=J0;obtain⟨n,hn⟩:=q8;have zyC:Ed p f (args.map m.eval) .normal=(qM p f (args.map m.eval)).fr:=by rw[Aw];exact Ve Cf g4
  rw[zyC] at hn;obtain⟨k2,mT,hi,fI⟩:=Sf (P:=PS p gs₁) L.fit₁ rfl zhm n (uY.tape hrel T 0) hn;have h1:mT.tmps=fr.tmps:=congrArg zvu fI;have h2:mT.fn=f:=(congrArg dE.fn fI).trans Dc;have h4:mT.ret=true:=by
   cases hr:mT.ret with
   |true=>rfl
   |false=>rw[<-fI,Fm.fr_run hr] at zhm;cases zhm
  rw[Dc,Cf] at Wa;obtain rfl:=cD Wa;exact⟨k2,mT,w',hi,h4,h2,v,by rw[h1];exact zAD lS zgI,hq⟩
 have Za:=LT.app (P₁:=PS p gs₁) L.fit₁ rfl (N:=zce p op) (Stop:=λm ms w=>JL p op gs fs St W0 Post m ms w) [] (m::ms) (fn0:=f) (L.hN (K₁:=K)) (λx e f' xs uW e2=>by rw[e2,Io] at e;rw[e,Ci] at uW;cases uW)
  (λx w e1 e2 e3 hq=>by
   obtain⟨_,_,v,h5,h6⟩:=hq w.tape;have h7:JL p op gs fs St W0 Post {x with ret:=true} (m::ms) w:=JO.untape (T:=w.tape) (e:=0) (zah _ _ rfl e1 ⟨v,h5,h6⟩);obtain⟨xf,xt,xd,xr⟩:=x;simp only at e1 e2 e3 h7;subst e1 e2 e3;exact JO.fall L Ci h7)
  (λx w e1 e2 e3 hq=>by
   rw[Fm.app_nil];exact zah _ _ e2 e1 hq.2.2) tree (Io _ _ _) hrel (λ_ e=>by rw[Aw] at e;cases e)
 have zIE:JL p op gs fs St W0 Post (qM p f (args.map m.eval)) (m::ms) w:=by
  have:=Ml.jo L.fit rfl L.hop (λm ms w h=>h) Za
  rwa [show zM [] (m::ms) (qM p f (args.map m.eval)) []=(qM p f (args.map m.eval),m::ms) from by simp[zM,Fm.app_nil]] at this
 refine JO.one L.fit rfl (λe=>by rw[hr] at e;cases e) (λT=>((qM p f (args.map m.eval),m::ms),Tt.tp w T 0)) (λT=>?_) (λT K R y Ln=>?_) (λT=>zIE.tape T 0) K R W m' ms' Shun hw hm iJ lE hk
 .show(eU p m ms).run p _=_
  simp only[eU,hr,iU,if_false,rN,pR,ho,zP,zC,cC,if_true];refine(q9 p _ _ _).trans ?_;rw[(zct hop (λg=>rfl) Cf g3 g4 (Tt.tp w T 0)).1];simp only[uC,qF,Cf,g4,kE,bD,Aw]
 .obtain⟨f',xs,bX,c,c',rest,Iz,h1,h2,h3,h4,_⟩:=Ln.ex
  simp only[o7] at h4;have h5:=congrArg Fm.fn h4.1;rw[Io,Io] at h5;have h6:op f'=true:=h1;rw[<-h5,Ci] at h6;cases h6
theorem JO.callF (L:Lv p op gs gs₁ fs){w:aE}{i:Nat}{rest:List Nat}{f:aN}(hr:m.ret=false)(pR:m.todo=.inRegion ops (i::rest)::k)
 (ho:ops[i]? =some o) (cC:dA o (dN ops m.tmps)=true) (hop:o.op=.call ⟨.value (.func f),args,j8⟩) (hg:op f=true) (rR:args.all (dL fs)=true)
 (hF:∀(K R:Pr) (W:aE) (m':Fm) (ms':List Fm) (Shun:Loc->Prop) (bX:Array aF),cT (SF fs) K R (oR p) St w W->oV (PL p op gs) fs K R m m'->uD (PL p op gs) fs K R ms ms'->Sh W0.heap.size Shun R W->Kp W0 R St W->bK (SF fs) K R (args.map m.eval) bX->
  J p Post Shun W.heap.size (G (Ed p f bX .normal) (m'.fr::ms'.map Fm.fr)) W):JL p op gs fs St W0 Post m ms w:=by
 obtain⟨fn,c,Cf,g4,g3,_⟩:=L.nofit f hg;intro K R W m' ms' Shun hw hm iJ lE hk;refine J.own rfl λd=>?_;have Be:bK (SF fs) K R (args.map m.eval) (args.map m'.eval):=bK.maps hm.eval rR;have vN:m'.ret=false:=hm.ret.symm.trans hr;have Og:m'.todo=.inRegion ops (i::rest)::k:=hm.todo.symm.trans pR;have uH:dA o (dN ops m'.tmps)=true:=by rw[<-zkn ops hm.tmps];exact cC
 have Aw:Ed p f (args.map m'.eval) .normal=(⟨f,args.map m'.eval++nD (fn.ntmps-(args.map m'.eval).size) aA,[.code c],false⟩:Fm).fr:=Ve Cf g4;obtain⟨x1,x2⟩:=zct hop (ρ:=m'.eval) (λg=>rfl) Cf g3 g4 (W.at d);have hs:(eU p m' ms').run p (W.at d)=.ok (⟨f,args.map m'.eval++nD (fn.ntmps-(args.map m'.eval).size) aA,[.code c],false⟩,m'::ms') (W.at d):=by
  simp only[eU,vN,iU,if_false,rN,Og,ho,zP,zC,uH,if_true];refine(q9 p _ _ _).trans ?_;rw[x1];simp only[uC,qF,Cf,g4,kE,bD]
 have aX:=zjr (main:=true) hs [];simp only[Mh] at aX;have he:(eU p m' ms').events p (W.at d) #[]=#[]:=by
  simp only[eU,vN,iU,if_false,rN,Og,ho,zP,zC,uH,if_true];refine(Qk p _ _ _ #[]).trans ?_;rw[x1,S3,x2];simp only[qF,Cf,g4];rfl
 rw[he,Bm] at aX;refine⟨_,W.at d,#[],W.heap.size,aX,λe he=>by simp at he,aZ _,?_⟩;rw[<-Aw];exact hF K R (W.at d) m' ms' Shun (args.map m'.eval) (cT.at hw d) hm iJ ⟨lE.old,lE.rel,lE.new⟩ ⟨hk.os,hk.tape,hk.output,hk.size,hk.block,hk.old⟩ Be
theorem JO.fin (L:Lv p op gs gs₁ fs){w:aE}{t:Tmp}(hr:x.ret=true)(hf:p.funcs[x.fn]? =some fn)(ht:fn.results=#[.tmp t])(hi:p.inits.idxOf? x.fn=none)(hP:∀K R W v',VR (SF fs) K R (x.tmps.getD t aA) v'->Kp W0 R St W->Post v' W):JL p op gs fs St W0 Post x [] w:=by
 intro K R W m' ms' Shun hw hm iJ lE hk;cases iJ;refine J.done rfl λd=>?_;have vN:=hm.ret.symm.trans hr;have Wa:p.funcs[m'.fn]? =some fn:=by rw[<-hm.fn];exact hf
 have iY:p.inits.idxOf? m'.fn=none:=by rw[<-hm.fn];exact hi
 refine⟨m'.tmps.getD t aA,#[],?_,λe he=>by simp at he,hP K R (W.at d) _ (hm.tmps.getD t xD) ⟨hk.os,hk.tape,hk.output,hk.size,hk.block,hk.old⟩⟩;have r1:=results_tmp ht m'.tmps p (W.at d);have r2:=Conc.events_results_tmp (P:=p) (w:=W.at d) ht m'.tmps #[];rw[Fm.fr_ret vN];simp[G,stepG,unwind,doReturn,Wa,r1,r2,Bm,Bo,iY]
end
end Go.Mt
namespace Go.Mt
open Go.Conc Go.Tt
variable {p:bS}{main:Bool}{m m':Fm}{ms':List Fm}{w w':aE}
theorem zew {c:Fm}{rest:List Fm}(hr:m.ret=true)(hc:c.ret=false)(h:(yN p m (c::rest)).run p w=.ok (m',ms') w')(k:List dW)(d:Dk)(CS:List dE):
 ms'=rest/\w'=w/\(∃ops i r k0 v,c.todo=.inRegion ops (i::r)::k0/\m'=c.fin ops i r k0 v)/\stepG p main (G m.fr (fx k d c::CS)) w=.go (G (fx k d m') CS) w' (seen p m.fn ((yN p m (c::rest)).events p w #[])):=by
 obtain⟨ops,i,r,k0,v,fn,E6,hf,hv,rfl,rfl⟩:=Rv h;obtain⟨rfl,_⟩:=Nz _ _ w v w' hv;refine⟨rfl,rfl,⟨ops,i,r,k0,v,E6,rfl⟩,?_⟩;rw[(Jw E6 hf hv).2];have he:results fn m.tmps=nY fn.results.toList m.tmps:=zcN (zqS hv);have yS:(fx k d c).finish v=fx k d (c.fin ops i r k0 v):=by
  simp only[dE.finish,fx,Fm.fr,Fm.fin,E6,List.cons_append];cases(ops[i]?).bind (·.dst)<;>rfl
 rw[Fm.fr_ret hr,<-yS];simp[G,stepG,unwind,doReturn,hf,he,hv,Bo]
def low (k:List dW)(d:Dk):Fm->List Fm->List dE
 |c,[]=>[fx k d c]
 |c,e::cs=>c.fr::low k d e cs
def stk (k:List dW)(d:Dk)(base:List dE)(m:Fm):List Fm->bC
 |[]=>G (fx k d m) base
 |c::cs=>G m.fr (low k d c cs++base)
theorem zwh (k:List dW)(d:Dk)(base:List dE)(m:Fm)(ms:List Fm):(stk k d base m ms).status=.running:=by cases ms<;>rfl
variable {ms:List Fm}
theorem zyy {k:List dW}{d:Dk}{base:List dE}(hs:m.ret=true->ms≠[])(aT:ms=[]->m.ret=false->m.todo≠[])(hw:∀c∈ms,c.ret=false)
 (h:(eU p m ms).run p w=.ok (m',ms') w'):∃es,stepG p main (stk k d base m ms) w=.go (stk k d base m' ms') w' es/\∀e∈es,e∈seen p m.fn ((eU p m ms).events p w #[]):=by
 cases hr:m.ret with
 |false=>
  simp only[eU,hr,iU,if_false] at h⊢
  cases ms with
  |nil=>
   rcases zk0 (main:=main) hr (k:=k) (λe=>absurd e (aT rfl hr)) h d base with⟨rfl,e⟩|⟨rfl,e⟩
   .exact⟨_,e,λ_ x=>x⟩
   .exact⟨_,e,λ_ x=>x⟩
  |cons c cs=>
   rcases zk0 (main:=main) hr (k:=[]) (λ_=>rfl) h .nil (low k d c cs++base) with⟨rfl,e⟩|⟨rfl,e⟩
   .simp only[Fc] at e
    exact⟨_,e,λ_ x=>x⟩
   .simp only[Fc] at e
    exact⟨_,e,λ_ x=>x⟩
 |true=>
  simp only[eU,hr,if_true] at h⊢
  cases ms with
  |nil=>exact absurd rfl (hs hr)
  |cons c cs=>
   have zwN:=hw c (List.mem_cons_self ..)
   cases cs with
   |nil=>
    obtain⟨rfl,rfl,_,e⟩:=zew (main:=main) hr zwN h k d base;exact⟨_,e,λ_ x=>x⟩
   |cons c2 cs=>
    obtain⟨rfl,rfl,_,e⟩:=zew (main:=main) hr zwN h [] .nil (low k d c2 cs++base);simp only[Fc] at e;exact⟨_,e,λ_ x=>x⟩
variable {S:List Nat}
def Lb.refl (h:∀i∈m.todo,Ac S i=true):Lb S m m:=⟨h,λ_ _=>rfl⟩
theorem zy7 (hn:∀i∈(Rp m ms).todo,Ac S i=true)(h:(eU p m ms).run p w=.ok (m',ms') w'):Lb S (Rp m ms) (Rp m' ms'):=by
 cases hr:m.ret with
 |false=>
  simp only[eU,hr,iU,if_false] at h
  cases ms with
  |nil=>
   rcases zFV (S:=S) hn h with⟨rfl,e⟩|rfl
   .exact e
   .exact Lb.refl hn
  |cons c cs=>
   rcases zc4 h with⟨rfl,_⟩|rfl
   .exact Lb.refl hn
   .exact Lb.refl hn
 |true=>
  simp only[eU,hr,if_true] at h
  cases ms with
  |nil=>simp[yN,stuck,bD] at h
  |cons c cs=>
   obtain⟨ops,i,r,k0,v,fn,E6,hf,hv,rfl,rfl⟩:=Rv h
   cases ms' with
   |nil=>exact zgj E6 hn v
   |cons d ds=>exact Lb.refl hn
end Go.Mt
namespace Go.Mt
open Go.Conc Go.Tt
open Go.ConcR (KK wgBlock WgAt stA smA rd wr)
def EvQ (O Z:Nat->Prop)(e:oE):Prop:=e=⟨.mark .noRoom,false,true⟩\/∃b,Gw e=some b/\(O b\/(Z b/\e.write=false))
variable {O Z:Nat->Prop}{e:oE}
theorem zBZ {Wg:Nat}{main:Bool}(h:EvQ O Z e):EvT Wg main O Z e:=by
 rcases h with rfl|⟨b,h1,h2⟩
 .trivial
 .obtain⟨loc,wr,sy⟩:=e
  cases loc with
  |cell x=>simp only[Gw,fS] at h1;subst h1;exact h2
  |obj r=>simp only[Gw,fS] at h1;subst h1;exact h2
  |_=>simp[Gw] at h1
theorem zyM (h:EvQ O Z e):e.loc≠ .mark .disable/\e.loc≠ .mark .enable:=by
 rcases h with rfl|⟨b,h1,_⟩
 .exact⟨aQ,aQ⟩
 .obtain⟨loc,wr,sy⟩:=e
  cases loc<;>simp[Gw] at h1⊢
variable {τ:cE}
theorem zeE {St:Nat->Prop}{R:Pr}(h:Ft R St e)(ht:uZ τ R St):EvQ τ.own τ.still e:=by
 rcases h with rfl|⟨b,a,h1,h2,h3⟩
 .exact .inl rfl
 .refine .inr ⟨b,h1,?_⟩
  by_cases hs:St a
  .refine .inr ⟨(ht a b h2).1 hs,?_⟩
   cases hw:e.write
   .rfl
   .exact absurd hs (h3 hw)
  .exact .inl ((ht a b h2).2 hs)
def OwnQ (p:bS)(ty:aM)(Wg:Nat)(main:Bool)(B:cE->bC->aE->Prop)(τ:cE)(g:bC)(w:aE):Prop:=
 ∀aI,bT ty Wg τ w aI->∃g' w' es,stepG p main g aI=.go g' w' es/\g'.status=.running/\zA τ.own aI w'/\(∀e∈es,EvQ (τ.grow aI w').own τ.still e)/\B (τ.grow aI w') g' w'
structure Cx (L:Type) where
 p:bS
 gs:aN->Bool
 fs:aN->Bool
 ty:aM
 Wg:Nat
 A:jF L
 Fin:bC->aE->Prop
 main:Bool
 base:List dE
 ds:Dk
 K:Pr
 St:Nat->Prop
 I:Pr->cE->aE->Prop
 pin:List (Nat×aF)
 alone:Option (cE->bC->aE->Prop):=none
 aok:∀B,alone=some B->∀τ g w,g.status=.running->OwnQ p ty Wg main B τ g w->B τ g w:=by intro _ h;cases h
variable {L:Type}
abbrev Cx.P (C:Cx L):dI:=PS C.p C.gs
abbrev Cx.Rel (C:Cx L)(R:Pr)(w W:aE):Prop:=cT (SF C.fs) C.K R (oR C.p) C.St w W
def Cx.B (C:Cx L)(l:L)(τ:cE)(g:bC)(w:aE):Prop:=
 match C.alone with
 |none=>bZ C.p C.ty C.Wg C.A C.Fin C.main (.usr l) 0 τ g w
 |some B=>B τ g w
theorem Cx.B_none {C:Cx L}(h:C.alone=none)(l:L)(τ:cE)(g:bC)(w:aE):C.B l τ g w=bZ C.p C.ty C.Wg C.A C.Fin C.main (.usr l) 0 τ g w:=by unfold Cx.B;rw[h]
variable {B:cE->bC->aE->Prop}
theorem Cx.B_some {C:Cx L}(h:C.alone=some B)(l:L)(τ:cE)(g:bC)(w:aE):C.B l τ g w=B τ g w:=by unfold Cx.B;rw[h]
theorem Cx.ownQ {C:Cx L}{l:L}{g:bC}{w:aE}(cF:g.status=.running)(h:OwnQ C.p C.ty C.Wg C.main (C.B l) τ g w):C.B l τ g w:=by
 cases ha:C.alone with
 |none=>
  rw[Cx.B_none ha];have hB:∀τ g w,C.B l τ g w->bZ C.p C.ty C.Wg C.A C.Fin C.main (.usr l) 0 τ g w:=λτ g w x=>by rw[Cx.B_none ha] at x;exact x
  refine bZ.own cF trivial λaI s=>?_;obtain⟨g',w',es,h1,h2,h3,h4,h5⟩:=h aI s;refine⟨g',w',es,h1,h2,h3,λe he=>zBZ (h4 e he),?_⟩;rw[deafBehind_still (λe he=>zyM (h4 e he))];exact hB _ _ _ h5
 |some B=>
  rw[Cx.B_some ha];refine C.aok B ha τ g w cF λaI s=>?_;have e:∀τ g w,C.B l τ g w->B τ g w:=λτ g w x=>by rw[Cx.B_some ha] at x;exact x
  obtain⟨g',w',es,h1,h2,h3,h4,h5⟩:=h aI s;exact⟨g',w',es,h1,h2,h3,h4,e _ _ _ h5⟩
abbrev Cx.S (C:Cx L):List Nat:=C.pin.map (·.1)
structure FmW (C:Cx L)(R:Pr)(m m':Fm):Prop where
 fn:m.fn=m'.fn
 todo:m.todo=m'.todo
 ret:m.ret=m'.ret
 tmps:bK (SF C.fs) C.K R m.tmps m'.tmps
 pins:∀x∈C.pin,m'.tmps.getD x.1 aA=x.2
structure Rs (St:Nat->Prop)(R:Pr)(W:aE)(R1:Pr)(W1:aE):Prop where
 le:R.le R1
 tape:W1.tape=W.tape
 os:W1.os=W.os
 output:W1.output=W.output
 size:W.heap.size<=W1.heap.size
 new:∀a b,R1 a b->R a b\/(W.heap.size<=b/\b<W1.heap.size)
 keep:∀b,b<W.heap.size->(∀a,R a b->St a)->W1.heap[b]? =W.heap[b]?
structure fB (C:Cx L):Prop where
 suf:∀R τ W aV,C.I R τ W->bT C.ty C.Wg τ W aV->C.I R τ aV
 step:∀R τ W R1 W1,C.I R τ W->uZ τ R C.St->Rs C.St R W R1 W1->C.I R1 (τ.grow W W1) W1
def BO (C:Cx L)(l:L)(m:Fm)(w:aE):Prop:=
 ∀(R:Pr) (W:aE) (m':Fm) (τ:cE),C.Rel R w W->FmW C R m m'->uZ τ R C.St->C.I R τ W->C.B l τ (G (fx [] C.ds m') C.base) W
section
variable {C:Cx L}{l:L}
variable {m:Fm}{w:aE}
def BO.tape (h:BO C l m w)(T:Tape)(e:Nat):BO C l m (Tt.tp w T e):=
 λR W m' τ a b c d=>h R W m' τ a.untp b c d
def BO.untape {T:Tape}{e:Nat}(h:BO C l m (Tt.tp w T e)):BO C l m w:=
 λR W m' τ a b c d=>h R W m' τ ⟨a.inj,a.inj',a.lt,a.low,a.gle,a.cont,a.rest,a.st,a.np,a.tb⟩ b c d
variable {ms:List Fm}
theorem uD.wait {P:dI}{fs:aN->Bool}{K R:Pr}{ms':List Fm}(h:uD P fs K R ms ms'):∀c∈ms',c.ret=false:=by
 induction h with
 |nil=>intro c hc;cases hc
 |cons a b _ ih=>
  intro c hc;rcases iX.1 hc with rfl|hc
  .exact a.ret.symm.trans b.1
  .exact ih c hc
variable {Q:Fm->aE->Prop}
theorem zDt (F:uT C.P C.fs)(hI:fB C){k:List dW}{fn0:aN}(h:Tt.LT C.p Q m ms w)
 (hn:∀(x:Fm) (wT:aE),x.fn=fn0->x.ret=false->x.todo=[]->(∀T,Q {x with ret:=true} (Tt.tp wT T 0))->BO C l ⟨fn0,x.tmps,k,false⟩ wT)
 (hr:∀(x:Fm) (wT:aE),x.fn=fn0->x.ret=true->x.todo≠[]->Q x wT->BO C l ⟨fn0,x.tmps,x.todo++k,true⟩ wT):
 ∀(R:Pr) (W:aE) (m':Fm) (ms':List Fm) (τ:cE),Qi m ms=fn0->(ms=[]->m.ret=true->m.todo≠[])->C.Rel R w W->oV C.P C.fs C.K R m m'->uD C.P C.fs C.K R ms ms'->uZ τ R C.St->C.I R τ W->
  (∀x∈C.pin,(Rp m' ms').tmps.getD x.1 aA=x.2)->(∀i∈(Rp m' ms').todo,Ac C.S i=true)->C.B l τ (stk k C.ds C.base m' ms') W:=by
 induction h with
 |stop h1 h2=>
  rename_i m w;intro R W m' ms' τ hl hz hw hm iJ ht hi C2 dB;cases iJ;have hB:=hr m w hl h1 (hz rfl h1) h2 R W {m' with todo:=m'.todo++k} τ hw ⟨(hl.symm.trans hm.fn:_),by show m.todo++k=_;rw[hm.todo],h1.symm.trans hm.ret,hm.tmps,C2⟩ ht hi;have:fx [] C.ds {m' with todo:=m'.todo++k}=fx k C.ds m':=by unfold fx;simp[Fm.fr]
  rw[this] at hB;exact hB
 |step nx hs cF aP ih=>
  rename_i m ms w;intro R W m' ms' τ hl hz hw hm iJ ht hi C2 dB;by_cases Na:ms=[]/\m.ret=false/\m.todo=[]
  .obtain⟨rfl,h1,h2⟩:=Na
   cases iJ;have hQ:∀T,Q {m with ret:=true} (Tt.tp w T 0):=λT=>by
    have hT:=cF T;have e:(eU C.p m []).run C.p (Tt.tp w T 0)=.ok ({m with ret:=true},[]) (Tt.tp w T 0):=by simp[eU,h1,rN,h2,kE,bD]
    rw[e] at hT;injection hT with e1 e2;have hl:=aP T;rw[<-e1,<-e2] at hl;exact hl.ret_inv rfl
   have hB:=hn m w hl h1 h2 hQ R W {m' with todo:=m'.todo++k} τ hw ⟨(hl.symm.trans hm.fn:_),by show k=m'.todo++k;rw[<-hm.todo,h2];rfl,h1.symm.trans hm.ret,hm.tmps,C2⟩ ht hi;have:fx [] C.ds {m' with todo:=m'.todo++k}=fx k C.ds m':=by unfold fx;simp[Fm.fr]
   rw[this] at hB;exact hB
  .refine Cx.ownQ (zwh ..) λaV s=>?_
   have dH:=zlO hw ht (λa b x=>(hw.lt a b (.inr x)).2) s;have yH:=hI.suf _ _ _ _ hi s
   let T:Tape:=λn q=>aV.tape (aV.drawn+n) q
   have xX:C.Rel R (Tt.tp w T 0) aV:=⟨dH.inj,dH.inj',dH.lt,dH.low,dH.gle,dH.cont,dH.rest,dH.st,dH.np,dH.tb⟩;have K7:Tp (Tt.tp w T 0) aV:=λn q=>by show aV.tape (aV.drawn+(0+n)) q=_;rw[rL]
   have hrel:uY C.P C.fs C.K (oR C.p) C.St m ms (Tt.tp w T 0):=⟨R,aV,m',ms',xX,hm,iJ⟩;obtain⟨R1,x',W1,ev,e1,e2,e3,e4,e5⟩:=aG.run rfl _ (zeL (l:=false) F.toFit2 (xX.relOk rfl) hm iJ (λe=>by cases e) hs) xX K7 (cF T);replace e2:=e2.resolve_right λx=>by
    obtain⟨f,_,_,_,_,_,_,ho,_⟩:=x.2;rw[F.none] at ho;cases ho
   obtain⟨ztI,zvU⟩:=x';have G0:m'.ret=true->ms'≠[]:=λe e2=>hs (hm.ret.trans e) (by cases iJ with|nil=>rfl|cons _ _ _=>cases e2);have Yh:ms'=[]->m'.ret=false->m'.todo≠[]:=λa b c=>Na ⟨(by cases iJ with|nil=>rfl|cons _ _ _=>cases a),hm.ret.trans b,hm.todo.trans c⟩;have zl8:=zy7 (S:=C.S) dB e1;have mD:(eU C.p m' ms').events C.p aV #[]=ev:=by rw[e4];simp
   have cH:aV.heap.size<=W1.heap.size:=e3.size.2;have Bd:∀a b,R1 a b->R a b\/(aV.heap.size<=b/\b<W1.heap.size):=λa b x=>by
    rcases e3.new a b x with y|⟨_,y⟩
    .exact .inl y
    .exact .inr ⟨y,(e3.rel.ltR a b x).2⟩
   have Ff:uZ (τ.grow aV W1) R1 C.St:=λa b x=>by
    rcases e3.new a b x with y|⟨y1,y2⟩
    .exact⟨(ht a b y).1,λz=>.inl ((ht a b y).2 z)⟩
    .refine⟨λz=>?_,λ_=>.inr ⟨y2,(e3.rel.ltR a b x).2⟩⟩
     obtain⟨⟨b',bY⟩,_⟩:=xX.st a z;have:=(xX.ltR a b' bY).1;omega
   have hg:zA τ.own aV W1:=⟨e3.tape.2,e3.os.2,e3.ou.2,cH,λb hb dB=>e3.keep b hb λa x=>zD λz=>dB ((ht a b x).2 z)⟩;have y5:=hI.step R τ aV R1 W1 yH ht ⟨e3.le,e3.tape.2,e3.os.2,e3.ou.2,cH,Bd,e3.keep⟩;have P4:Qi (nx T).1.1 (nx T).1.2=fn0:=(ztG (m1:=(nx T).1.1) (ms1:=(nx T).1.2) (cF T)).trans hl;have goal:C.B l (τ.grow aV W1) (stk k C.ds C.base ztI zvU) W1:=by
    refine ih T R1 W1 ztI zvU (τ.grow aV W1) P4 (λa b c=>?_) e3.rel e2.1 e2.2.1 Ff y5 (λx hx=>(zl8.at_ x.1 (Uu hx)).trans (C2 x hx)) zl8.no;have hT:=cF T
    cases ms with
    |nil=>
     cases jT:m.ret with
     |true=>exact hs jT rfl
     |false=>
      simp only[eU,jT,iU,if_false] at hT;exact zsO hT b jT (λe=>Na ⟨rfl,jT,e⟩) a c
    |cons c0 cs=>
     cases jT:m.ret with
     |true=>
      simp only[eU,jT,if_true] at hT;obtain⟨ops,i,r,k0,v,fn,hc,hf,hv,h1,h2⟩:=Rv (m1:=(nx T).1.1) (ms1:=(nx T).1.2) hT;rw[h1] at c;simp[Fm.fin] at c
     |false=>
      simp only[eU,jT,iU,if_false] at hT;rcases zc4 hT with⟨e,_⟩|e
      .rw[a] at e;cases e
      .rw[a] at e;cases e
   obtain⟨es,aX,xO⟩:=zyy (main:=C.main) (k:=k) (d:=C.ds) (base:=C.base) G0 Yh (uD.wait iJ) e1;have Rl:∀e∈es,Ft R1 C.St e:=λe he=>by
    have:=xO e he;rw[mD] at this;exact e5 e (zaH this)
   exact⟨_,W1,_,aX,zwh ..,hg,λe he=>zeE (Rl e he) Ff,goal⟩
end
end Go.Mt
namespace Go.Mt
open Go.Conc Go.Tt
open Go.ConcR (KK wgBlock WgAt stA smA rd wr)
section
variable {L:Type}{C:Cx L}{l:L}
theorem mE (d:Dk)(fn:aN)(tmps:Array aF)(todo:List dW):fx [] d ⟨fn,tmps,todo,false⟩=(d.base fn).at ⟨tmps,d.ds⟩ todo:=by
 unfold fx;simp[Fm.fr,Dk.base,dE.at]
theorem zhJ (d:Dk)(fn:aN)(tmps:Array aF)(todo:List dW):fx [] d ⟨fn,tmps,todo,true⟩={(d.base fn).at ⟨tmps,d.ds⟩ todo with mode:=.returning}:=by
 unfold fx;simp[Fm.fr,Dk.base,dE.at]
theorem cE.grow_id (τ:cE)(w:aE):τ.grow w w=τ:=by
 obtain⟨a,b,c⟩:=τ;simp only[cE.grow,cE.mk.injEq,and_true];funext x;exact propext ⟨λh=>h.elim id λh=>by omega,.inl⟩
def zA.id (O:Nat->Prop)(w:aE):zA O w w:=⟨rfl,rfl,rfl,aZ _,λ_ _ _=>rfl⟩
variable {R:Pr}{w W:aE}{τ:cE}
def Cx.Rel.suf {aV:aE}(hw:C.Rel R w W)(ht:uZ τ R C.St)(s:bT C.ty C.Wg τ W aV):C.Rel R w aV:=zlO hw ht (λa b x=>(hw.lt a b (.inr x)).2) s
variable {g':bC}
theorem L3 {main:Bool}{g:bC}{p:bS}{ty:aM}{Wg:Nat}{A:jF L}{Fin:bC->aE->Prop}(hg:g.status=.running)(wA:g'.status=.running)(aX:∀aV,bT ty Wg τ W aV->stepG p main g aV=.go g' aV #[])
 (h:∀aV,bT ty Wg τ W aV->bZ p ty Wg A Fin main (.usr l) 0 τ g' aV):bZ p ty Wg A Fin main (.usr l) 0 τ g W:=by
 refine bZ.own hg trivial λaV s=>⟨g',aV,#[],aX aV s,wA,zA.id _ _,λe he=>by simp at he,?_⟩;rw[cE.grow_id];exact h aV s
theorem Cx.silent {g:bC}(hg:g.status=.running)(wA:g'.status=.running)(aX:∀aV,bT C.ty C.Wg τ W aV->stepG C.p C.main g aV=.go g' aV #[])(h:∀aV,bT C.ty C.Wg τ W aV->C.B l τ g' aV):C.B l τ g W:=by
 refine Cx.ownQ hg λaV s=>⟨g',aV,#[],aX aV s,wA,zA.id _ _,λe he=>by simp at he,?_⟩;rw[cE.grow_id];exact h aV s
variable {fn:aN}{tmps:Array aF}
theorem BO.silent (hI:fB C){todo zlj:List dW}{zjK:Bool}(aX:∀R bQ W,bK (SF C.fs) C.K R tmps bQ->stepG C.p C.main (G ((C.ds.base fn).at ⟨bQ,C.ds.ds⟩ todo) C.base) W=.go (G (fx [] C.ds ⟨fn,bQ,zlj,zjK⟩) C.base) W #[])
 (h:BO C l ⟨fn,tmps,zlj,zjK⟩ w):BO C l ⟨fn,tmps,todo,false⟩ w:=by
 intro R W m' τ hw hm ht hi;obtain⟨fn',bQ,yJ,x3⟩:=m';obtain rfl:=hm.fn;obtain rfl:=hm.todo;obtain rfl:=hm.ret;refine Cx.silent rfl rfl (λaV s=>by rw[mE];exact aX R bQ aV hm.tmps) λaV s=>?_;exact h R aV ⟨fn,bQ,zlj,zjK⟩ τ (hw.suf ht s) ⟨rfl,rfl,rfl,hm.tmps,hm.pins⟩ ht (hI.suf _ _ _ _ hi s)
section ctl
variable {fn:aN}{tmps:Array aF}{k:List dW}{w:aE}
variable {a b:Code}
theorem BO.seq (hI:fB C)(h:BO C l ⟨fn,tmps,.code a:: .code b::k,false⟩ w):BO C l ⟨fn,tmps,.code (.seq a b)::k,false⟩ w:=BO.silent hI (λR t W _=>by rw[mE];exact dP) h
theorem BO.skip (hI:fB C)(h:BO C l ⟨fn,tmps,k,false⟩ w):BO C l ⟨fn,tmps,.code .skip::k,false⟩ w:=BO.silent hI (λR t W _=>by rw[mE];exact pA) h
variable {c:Code}
theorem BO.block (hI:fB C){id:Nat}(h:BO C l ⟨fn,tmps,.code c:: .inBlock id::k,false⟩ w):BO C l ⟨fn,tmps,.code (.block id c)::k,false⟩ w:=BO.silent hI (λR t W _=>by rw[mE];exact zc3) h
theorem BO.loop (hI:fB C)(h:BO C l ⟨fn,tmps,.code c:: .inLoop c::k,false⟩ w):BO C l ⟨fn,tmps,.code (.loop c)::k,false⟩ w:=BO.silent hI (λR t W _=>by rw[mE];exact zmT) h
theorem BO.inLoop (hI:fB C)(h:BO C l ⟨fn,tmps,.code c:: .inLoop c::k,false⟩ w):BO C l ⟨fn,tmps,.inLoop c::k,false⟩ w:=BO.silent hI (λR t W _=>by rw[mE];exact zmF) h
theorem BO.inBlock (hI:fB C){id:Nat}(h:BO C l ⟨fn,tmps,k,false⟩ w):BO C l ⟨fn,tmps,.inBlock id::k,false⟩ w:=BO.silent hI (λR t W _=>by rw[mE];exact zh8) h
theorem BO.exit (hI:fB C){id:Nat}{k':List dW}(he:exitTo id k=some k')(h:BO C l ⟨fn,tmps,k',false⟩ w):BO C l ⟨fn,tmps,.code (.exit id)::k,false⟩ w:=BO.silent hI (λR t W _=>by rw[mE];exact stepG_exit he) h
theorem BO.reg (hI:fB C){id:Nat}{ops:Array aY}(h:BO C l ⟨fn,tmps,.inRegion ops (gD ops.size)::k,false⟩ w):BO C l ⟨fn,tmps,.code (.region id ops false)::k,false⟩ w:=BO.silent hI (λR t W _=>by rw[mE];exact stepG_region) h
theorem BO.regEnd (hI:fB C){ops:Array aY}(h:BO C l ⟨fn,tmps,k,false⟩ w):BO C l ⟨fn,tmps,.inRegion ops []::k,false⟩ w:=BO.silent hI (λR t W _=>by rw[mE];exact dD) h
theorem BO.fall (hI:fB C)(h:BO C l ⟨fn,tmps,[],true⟩ w):BO C l ⟨fn,tmps,[],false⟩ w:=BO.silent hI (λR t W _=>by rw[zhJ];exact zfx) h
theorem BO.ret (hI:fB C)(h:BO C l ⟨fn,tmps,.code .ret::k,true⟩ w):BO C l ⟨fn,tmps,.code .ret::k,false⟩ w:=BO.silent hI (λR t W _=>by rw[zhJ];exact wE) h
theorem Fx {R:Pr}{t t':Array aF}{d:List Eo}(h:bK (SF C.fs) C.K R t t'){x:cM}(hx:dL C.fs x=true):VR (SF C.fs) C.K R ((bH t []).eval x) ((bH t' d).eval x):=by
 cases x with
 |tmp t=>exact h.getD t xD
 |const v=>exact znA hx
 |global g=>cases hx
 |func f=>exact .func hx rfl (λi v v' h=>by simp at h) rfl (λi v v' h=>by simp at h)
theorem BO.cond (hI:fB C){c:cM}{t:Bool}(hx:dL C.fs c=true)(hc:(bH tmps []).eval c=.bool t)(h:BO C l ⟨fn,tmps,.code (if t then a else b)::k,false⟩ w):BO C l ⟨fn,tmps,.code (.cond c a b)::k,false⟩ w:=
 BO.silent hI (λR t' W ha=>by
  rw[mE];have h1:=Fx (C:=C) (d:=C.ds.ds) ha hx;rw[hc] at h1;have h2:(bH t' C.ds.ds).eval c=.bool t:=by
   generalize(bH t' C.ds.ds).eval c=v' at h1;cases h1;rfl
  exact stepG_cond h2) h
end ctl
structure vK (p:bS)(fn:aN):Prop where
 res:∃f,p.funcs[fn]? =some f/\Cs f.results.toList
variable {bQ:Array aF}{c:Code}
theorem zEi (hc:oI C.p ⟨C.fs,C.gs,true⟩ c=true)(hf:vK C.p fn)(ha:bK (SF C.fs) C.K R tmps bQ):oV C.P C.fs C.K R ⟨fn,tmps,[.code c],false⟩ ⟨fn,bQ,[.code c],false⟩:=by
 obtain⟨f,h1,h2⟩:=hf.res;refine⟨rfl,rfl,rfl,ha,λi hi=>?_,⟨f,f,h1,h1,rfl,h2⟩⟩;simp only[iX,lX,or_false] at hi;subst hi;exact hc
variable {k:List dW}
theorem BO.piece (F:uT C.P C.fs)(hI:fB C)(hc:oI C.p ⟨C.fs,C.gs,true⟩ c=true)(hf:vK C.p fn)(dB:xM C.S c=true)
 (qI:∀T,Code.wp C.p c (λe a' w'=>e=.normal/\BO C l ⟨fn,a'.tmps,k,false⟩ w') ⟨tmps,[]⟩ (Tt.tp w T 0)):BO C l ⟨fn,tmps,.code c::k,false⟩ w:=by
 intro R W m' τ hw hm ht hi;obtain⟨fn',bQ,yJ,x3⟩:=m';obtain rfl:=hm.fn;obtain rfl:=hm.todo;obtain rfl:=hm.ret;have zcW:=zEi (R:=R) hc hf hm.tmps;have hrel:uY C.P C.fs C.K (oR C.p) C.St ⟨fn,tmps,[.code c],false⟩ [] w:=⟨R,W,_,[],hw,zcW,.nil⟩;have tree:=zl6 F rfl hrel qI (λe a w h=>.inl h.1) (λe a w T k h=>⟨h.1,h.2.tape T k⟩);have:=zDt (l:=l) F hI (k:=k) (fn0:=fn) tree (λx wT e1 e2 e3 hq=>by
  rcases(hq wT.tape).2 with h|h
  .exact BO.untape h.2.2
  .cases h.1)
  (λx wT e1 e2 e3 hq=>by
   rcases hq.2 with h|h
   .exact absurd h.1 e3
   .cases h.1) R W ⟨fn,bQ,[.code c],false⟩ [] τ rfl (λ_ e=>by cases e) hw zcW .nil ht hi hm.pins (λi hi=>by
   simp only[Rp,iX,lX,or_false] at hi;subst hi;exact dB)
 have e:fx k C.ds ⟨fn,bQ,[.code c],false⟩=fx [] C.ds ⟨fn,bQ,.code c::k,false⟩:=by unfold fx;simp[Fm.fr]
 unfold stk at this;rw[e] at this;exact this
variable {dst:Option Nat}{v:aF}{d:List Eo}
theorem Is (hp:∀x∈C.pin,bQ.getD x.1 aA=x.2)(hn:∀s,dst=some s->s∉C.S):∀x∈C.pin,(b7 ⟨bQ,d⟩ dst v).tmps.getD x.1 aA=x.2:=by
 intro x hx
 cases dst with
 |none=>exact hp x hx
 |some s=>
  have aT:s≠x.1:=λe=>hn s rfl (e▸Uu hx);rw[<-hp x hx];simp only[b7,tD,jM aT]
variable {t t':Array aF}
theorem Hh {d':List Eo}(h:bK (SF C.fs) C.K R t t'){v':aF}(hv:VR (SF C.fs) C.K R v v'):bK (SF C.fs) C.K R (b7 ⟨t,d⟩ dst v).tmps (b7 ⟨t',d'⟩ dst v').tmps:=by
 cases dst with
 |none=>exact h
 |some s=>exact h.set s hv
variable {o:aY}{ops:Array aY}
theorem Hd (h:bK (SF C.fs) C.K R t t')(hw:dA o (dN ops t)=true):dA o (dN ops t')=true:=by
 rw[<-zkn ops h];exact hw
theorem BO.op (F:uT C.P C.fs)(hI:fB C){i:Nat}{rest:List Nat}(ho:ops[i]? =some o)(cC:dA o (dN ops tmps)=true)
 (bV:rD C.p ⟨C.fs,C.gs,true⟩ o.op=true) (lD:∀s,o.dst=some s->s∉C.S)
 (hx:∀T,∃v w',((aO (bH tmps []).eval o).run C.p (Tt.tp w T 0)=.ok (.value v) w'\/((aO (bH tmps []).eval o).run C.p (Tt.tp w T 0)=.ok .skip w'/\v=aA))/\BO C l ⟨fn,(b7 ⟨tmps,[]⟩ o.dst v).tmps,.inRegion ops rest::k,false⟩ w'):
 BO C l ⟨fn,tmps,.inRegion ops (i::rest)::k,false⟩ w:=by
 intro R W m' τ hw hm ht hi;obtain⟨fn',bQ,yJ,x3⟩:=m';obtain rfl:=hm.fn;obtain rfl:=hm.todo;obtain rfl:=hm.ret;rw[mE];refine Cx.ownQ rfl λaV s=>?_;have dH:=hw.suf ht s;have yH:=hI.suf _ _ _ _ hi s
 let T:Tape:=λn q=>aV.tape (aV.drawn+n) q
 have xX:C.Rel R (Tt.tp w T 0) aV:=⟨dH.inj,dH.inj',dH.lt,dH.low,dH.gle,dH.cont,dH.rest,dH.st,dH.np,dH.tb⟩;have K7:Tp (Tt.tp w T 0) aV:=λn q=>by show aV.tape (aV.drawn+(0+n)) q=_;rw[rL]
 obtain⟨v,w',cF,hB⟩:=hx T;have zbM:=zh9 (P:=C.P) (q:=⟨C.fs,C.gs,true⟩) (o:=o) (ρ:=(bH tmps []).eval) (ρ':=(bH bQ C.ds.ds).eval) F.toFit2.toFit (xX.relOk rfl) (λx hx=>Fx hm.tmps hx) (λg=>rfl) (λg=>rfl) (λg=>rfl) (λg=>rfl) (λv=>rfl) (λv=>rfl) rfl (λf h=>h) (λ_ f hf=>F.toFit2.toFit.dyn rfl f hf) bV
 have key:∃R1 v' W1 ev,((aO (bH bQ C.ds.ds).eval o).run C.p aV=.ok (.value v') W1\/((aO (bH bQ C.ds.ds).eval o).run C.p aV=.ok .skip W1/\v'=aA))/\VR (SF C.fs) C.K R1 v v'/\mL (SF C.fs) C.K R (oR C.p) C.St (Tt.tp w T 0) aV R1 w' W1/\
  (∀es,(aO (bH bQ C.ds.ds).eval o).events C.p aV es=es++ev)/\∀e∈ev,Ft R1 C.St e:=by
  rcases cF with cF|⟨cF,rfl⟩
  .obtain⟨R1,x',W1,ev,e1,e2,e3,e4,e5⟩:=aG.run rfl _ zbM xX K7 cF
   cases e2 with
   |value hv=>exact⟨R1,_,W1,ev,.inl e1,hv,e3,e4,e5⟩
  .obtain⟨R1,x',W1,ev,e1,e2,e3,e4,e5⟩:=aG.run rfl _ zbM xX K7 cF
   cases e2 with
   |skip=>exact⟨R1,aA,W1,ev,.inr ⟨e1,rfl⟩,xD,e3,e4,e5⟩
 obtain⟨R1,v',W1,ev,e1,hv,e3,e4,e5⟩:=key;have hb:(C.ds.base fn).kind≠ .early:=C.ds.ok;have uH:=Hd (C:=C) hm.tmps cC;have aX:stepG C.p C.main (G ((C.ds.base fn).at ⟨bQ,C.ds.ds⟩ (.inRegion ops (i::rest)::k)) C.base) aV=.go (G ((C.ds.base fn).at (b7 ⟨bQ,C.ds.ds⟩ o.dst v') (.inRegion ops rest::k)) C.base) W1 (wK C.p (C.ds.base fn).fn ⟨bQ,C.ds.ds⟩ o aV):=by
  rcases e1 with e1|⟨e1,rfl⟩
  .exact stepG_value ho uH hb e1
  .exact stepG_none ho uH hb e1
 have Dz:b7 ⟨bQ,C.ds.ds⟩ o.dst v'=⟨(b7 ⟨bQ,C.ds.ds⟩ o.dst v').tmps,C.ds.ds⟩:=by cases o.dst<;>rfl
 have Rl:∀e∈wK C.p (C.ds.base fn).fn ⟨bQ,C.ds.ds⟩ o aV,Ft R1 C.St e:=λe he=>by
  unfold wK at he;rw[e4] at he;exact e5 e (by simpa using zaH he)
 have cH:aV.heap.size<=W1.heap.size:=e3.size.2;have Bd:∀a b,R1 a b->R a b\/(aV.heap.size<=b/\b<W1.heap.size):=λa b x=>by
  rcases e3.new a b x with y|⟨_,y⟩
  .exact .inl y
  .exact .inr ⟨y,(e3.rel.ltR a b x).2⟩
 have Ff:uZ (τ.grow aV W1) R1 C.St:=λa b x=>by
  rcases e3.new a b x with y|⟨y1,y2⟩
  .exact⟨(ht a b y).1,λz=>.inl ((ht a b y).2 z)⟩
  .refine⟨λz=>?_,λ_=>.inr ⟨y2,(e3.rel.ltR a b x).2⟩⟩
   obtain⟨⟨b',bY⟩,_⟩:=xX.st a z;have:=(xX.ltR a b' bY).1;omega
 have hg:zA τ.own aV W1:=⟨e3.tape.2,e3.os.2,e3.ou.2,cH,λb hb dB=>e3.keep b hb λa x=>zD λz=>dB ((ht a b x).2 z)⟩;have y5:=hI.step R τ aV R1 W1 yH ht ⟨e3.le,e3.tape.2,e3.os.2,e3.ou.2,cH,Bd,e3.keep⟩;refine⟨_,W1,_,aX,rfl,hg,λe he=>zeE (Rl e he) Ff,?_⟩;rw[Dz,<-mE];exact hB R1 W1 ⟨fn,_,_,false⟩ _ e3.rel ⟨rfl,rfl,rfl,Hh (C:=C) (hm.tmps.mono e3.le) hv,Is (C:=C) hm.pins lD⟩ Ff y5
end
section
variable {L:Type}{C:Cx L}{l:L}
variable {p:bS}
theorem zHh {q:Tt.Cl}:∀c:Code,oI p q c=true->xM [] c=true:=by
 intro c
 induction c with
 |region id ops dr=>
  intro _;simp only[xM,zjf];intro o _;cases o.dst<;>rfl
 |seq a b zjV zjO=>intro h;simp only[oI,fN] at h;simp only[xM,fN];exact⟨zjV h.1,zjO h.2⟩
 |cond c a b zjV zjO=>intro h;simp only[oI,fN] at h;simp only[xM,fN];exact⟨zjV h.1.2,zjO h.2⟩
 |block id c ih=>intro h;exact ih h
 |loop c ih=>intro h;exact ih h
 |scope c ih=>intro h;exact ih h
 |skip=>intro _;rfl
 |ret=>intro _;rfl
 |exit _=>intro _;rfl
 |label _=>intro _;rfl
 |_=>intro h;simp[oI] at h
def Cx.sub (C:Cx L)(m':Fm)(nO:Pr):Cx L:={C with base:=fx [] C.ds m'::C.base,ds:=.nil,I:=λR τ W=>C.I R τ W/\nO.le R,pin:=[]}
variable {o:aY}{x:cM}{f:aN}{args:Array cM}{j8:Array aM}{first cap:Array aF}{ρ:cM->aF}
theorem zFL (hop:o.op=.call ⟨.value x,args,j8⟩)(hρ:ρ x=.func (.func f) first cap){fn:Rb}{c:Code}(hf:p.funcs[f]? =some fn)
 (hn:(fn.name== "runtime.NumGoroutine")=false) (hb:fn.body=some c) (w:aE):(aO ρ o).run p w=.ok (.enter f (first++args.map ρ++cap)) w/\(aO ρ o).events p w #[]=#[]:=by
 obtain⟨dst,yF,type,pos,after,guard⟩:=o;simp only at hop;subst hop;have vB:¬fn.name= "runtime.NumGoroutine" :=by simpa using hn
 constructor
 .simp[aO,resolve,Bg,hρ,invoke,callFunc,program,bind,xF,pure,bD,hf,vB,hb]
 .simp[aO,resolve,Bg,hρ,invoke,callFunc,program,bind,xF,pure,bD,vV,yV,hf,vB,hb]
structure Callee (C:Cx L)(tmps:Array aF)(x:cM)(f:aN)(first cap:Array aF):Prop where
 here:(bH tmps []).eval x=.func (.func f) first cap
 there:∀R bQ d,bK (SF C.fs) C.K R tmps bQ->∃Rz N2,(bH bQ d).eval x=.func (.func f) Rz N2/\bK (SF C.fs) C.K R first Rz/\bK (SF C.fs) C.K R cap N2
def Callee.static (tmps:Array aF)(f:aN):Callee C tmps (.func f) f #[] #[]:=⟨rfl,λR bQ d _=>⟨#[],#[],rfl,.empty,.empty⟩⟩
variable {fn:aN}{tmps:Array aF}{ops:Array aY}{i:Nat}{rest:List Nat}{k:List dW}{w:aE}{fnf:Rb}
theorem BO.callN (hI:fB C)(ho:ops[i]? =some o)(cC:dA o (dN ops tmps)=true)
 (hop:o.op=.call ⟨.value x,args,j8⟩) (hx:Callee C tmps x f first cap) (rR:args.all (dL C.fs)=true)  {cf:Code} (hf:C.p.funcs[f]? =some fnf) (Gu:(fnf.name== "runtime.NumGoroutine")=false) (hb:fnf.body=some cf) (zgI:Cs fnf.results.toList)
 (hB:∀(nO:Pr) (m':Fm),FmW C nO ⟨fn,tmps,.inRegion ops (i::rest)::k,false⟩ m'->BO (C.sub m' nO) l ⟨f,(first++args.map (bH tmps []).eval++cap)++nD (fnf.ntmps-(first++args.map (bH tmps []).eval++cap).size) aA,[.code cf],false⟩ w):
 BO C l ⟨fn,tmps,.inRegion ops (i::rest)::k,false⟩ w:=by
 intro R W m' τ hw hm ht hi;have zu1:=hm;obtain⟨fn',bQ,yJ,x3⟩:=m';obtain rfl:=hm.fn;obtain rfl:=hm.todo;obtain rfl:=hm.ret;obtain⟨Rz,N2,lH,tW,pK⟩:=hx.there R bQ C.ds.ds hm.tmps;have bY:(C.ds.base fn).kind≠ .early:=C.ds.ok;have uH:=Hd (C:=C) hm.tmps cC;rw[mE];refine Cx.silent rfl rfl (g':=G (Ed C.p f (Rz++args.map (bH bQ C.ds.ds).eval++N2) .normal) (fx [] C.ds ⟨fn,bQ,.inRegion ops (i::rest)::k,false⟩::C.base)) (λaV s=>?_) λaV s=>?_
 rotate_right
 .have Be:bK (SF C.fs) C.K R (first++args.map (bH tmps []).eval++cap) (Rz++args.map (bH bQ C.ds.ds).eval++N2):=(tW.append (bK.maps (λx hx=>Fx (C:=C) hm.tmps hx) rR)).append pK
  have:=hB R _ zu1 R aV ⟨f,(Rz++args.map (bH bQ C.ds.ds).eval++N2)++nD (fnf.ntmps-(Rz++args.map (bH bQ C.ds.ds).eval++N2).size) aA,[.code cf],false⟩ τ (hw.suf ht s) ⟨rfl,rfl,rfl,Be.pad fnf.ntmps,λx hx=>by cases hx⟩ ht ⟨hI.suf _ _ _ _ hi s,.refl R⟩;rw[Ve hf hb,<-Fc];exact this
 .obtain⟨x1,x2⟩:=zFL (p:=C.p) hop (ρ:=(bH bQ C.ds.ds).eval) lH hf Gu hb aV
  have aX:=stepG_enter (main:=C.main) (b:=C.ds.base fn) (rest:=rest) (cs:=C.base) (k:=k) ho uH bY x1;rw[aX];unfold wK;rw[x2,Bm,mE]
variable {v:aF}
theorem BO.retN (hI:fB C){nO:Pr}{m m':Fm}(hm:FmW C nO m m')(hr:m.ret=false)(pR:m.todo=.inRegion ops (i::rest)::k)(lD:∀s,(ops[i]?).bind (·.dst)=some s->s∉C.S)
   {todo:List dW}    (hf:C.p.funcs[f]? =some fnf) (hv:(nY fnf.results.toList tmps).run C.p w=.ok v w) (h:BO C l (m.fin ops i rest k v) w):BO (C.sub m' nO) l ⟨f,tmps,todo,true⟩ w:=by
 intro R W x' τ hw hx ht hi;obtain⟨f',bQ,yJ,x3⟩:=x';obtain rfl:=hx.fn;obtain rfl:=hx.todo;obtain rfl:=hx.ret;have vN:m'.ret=false:=hm.ret.symm.trans hr;have Og:m'.todo=.inRegion ops (i::rest)::k:=hm.todo.symm.trans pR;refine Cx.ownQ rfl λaV s=>?_;have dH:C.Rel R w aV:=Cx.Rel.suf (C:=C) hw ht s;have yH:=hI.suf _ _ _ _ hi.1 s
 let T:Tape:=λn q=>aV.tape (aV.drawn+n) q
 have xX:C.Rel R (Tt.tp w T 0) aV:=⟨dH.inj,dH.inj',dH.lt,dH.low,dH.gle,dH.cont,dH.rest,dH.st,dH.np,dH.tb⟩;have K7:Tp (Tt.tp w T 0) aV:=λn q=>by show aV.tape (aV.drawn+(0+n)) q=_;rw[rL]
 have cF:=(Nz _ _ w v w hv).2 T 0;obtain⟨R1,v',W1,ev,e1,g3,e3,e4,e5⟩:=aG.run (P:=C.P) rfl _ (zkY hx.tmps fnf.results.toList) xX K7 cF;obtain⟨zfu,_⟩:=Nz _ _ aV v' W1 e1;subst zfu;have N3:(yN C.p ⟨f,bQ,todo,true⟩ [m']).run C.p W1=.ok (m'.fin ops i rest k v',[]) W1:=(Jw Og hf e1).1;obtain⟨_,_,_,e⟩:=zew (main:=C.main) rfl vN N3 [] C.ds C.base;have Rn:fx [] (C.sub m' nO).ds ⟨f,bQ,todo,true⟩=(⟨f,bQ,todo,true⟩:Fm).fr:=Fc _;rw[Rn];have Rl:∀e∈seen C.p f ((yN C.p ⟨f,bQ,todo,true⟩ [m']).events C.p W1 #[]),Ft R1 C.St e:=λe he=>by
  rw[(Jw Og hf e1).2,e4] at he;exact e5 e (by simpa using zaH he)
 have Bd:∀a b,R1 a b->R a b\/(W1.heap.size<=b/\b<W1.heap.size):=λa b x=>by
  rcases e3.new a b x with y|⟨_,y⟩
  .exact .inl y
  .exact .inr ⟨y,(e3.rel.ltR a b x).2⟩
 have Ff:uZ (τ.grow W1 W1) R1 C.St:=λa b x=>by
  rcases e3.new a b x with y|⟨y1,y2⟩
  .exact⟨(ht a b y).1,λz=>.inl ((ht a b y).2 z)⟩
  .have:=(e3.rel.ltR a b x).2;omega
 have y5:=hI.step R τ W1 R1 W1 yH ht ⟨e3.le,rfl,rfl,rfl,aZ _,Bd,λ_ _ _=>rfl⟩;refine⟨_,W1,_,e,rfl,zA.id _ _,λe he=>zeE (Rl e he) Ff,?_⟩;have Ty:C.Rel R1 w W1:=⟨e3.rel.inj,e3.rel.inj',e3.rel.lt,e3.rel.low,e3.rel.gle,e3.rel.cont,e3.rel.rest,e3.rel.st,e3.rel.np,e3.rel.tb⟩;refine h R1 W1 _ _ Ty ⟨hm.fn,rfl,hm.ret,?_,?_⟩ Ff y5
 .have:=Hh (C:=C) (d:=[]) (d':=[]) (hm.tmps.mono (hi.2.trans e3.le)) (dst:=(ops[i]?).bind (·.dst)) g3
  unfold Fm.fin;simp only;unfold b7 at this
  cases hd:(ops[i]?).bind (·.dst) with
  |none=>rw[hd] at this;exact this
  |some s=>rw[hd] at this;exact this
 .have:=Is (C:=C) (d:=[]) (v:=v') hm.pins lD
  unfold Fm.fin;simp only;unfold b7 at this
  cases hd:(ops[i]?).bind (·.dst) with
  |none=>rw[hd] at this;exact this
  |some s=>rw[hd] at this;exact this
variable {c:Nat}{ct e:aM}{ok:Bool}{z:aF}{dir:ChanDir}{ie:wI}
theorem zrN (hop:o.op=.recv ct x ok)(E6:p.underlying ct=some (.chan dir e))(jL:p.info? e=some ie)(hz:ie.zero=some z)(hx:ρ x=.chan (some c))(w:aE):
 (aO ρ o).run p w=.ok (.comm #[rcase c z] true (.recv ok)) w/\(aO ρ o).events p w #[]=#[]:=by
 obtain⟨dst,yF,type,pos,after,guard⟩:=o;simp only at hop;subst hop;have hu:∀w,(underlying ct).run p w=.ok (.chan dir e) w:=λw=>by simp[underlying,program,bind,xF,bD,E6,pure]
 have pD:∀w,(zeroValue e).run p w=.ok z w:=λw=>by simp[zeroValue,typeInfo,program,bind,xF,bD,jL,hz,pure]
 have he:aO ρ ⟨dst,.recv ct x ok,type,pos,after,guard⟩=(underlying ct).bind (λd=>match d with| .chan _ elem=>(zeroValue elem).bind (λz=>.pure (.comm #[{chan:=ρ x,send:=none,zero:=z}] true (.recv ok)))|_=>stuck "receive: channel type expected"):=by
  simp only[aO];show xF _ _=xF _ _;congr 1
 rw[he];constructor
 .rw[q9,hu]
  simp only[uC];rw[q9,pD];simp only[uC,hx];rfl
 .rw[Qk,hu,S3,events_underlying]
  simp only;rw[Qk,pD,S3,events_zeroValue];rfl
theorem zxs {y:cM}(hop:o.op=.send x y)(hx:ρ x=.chan (some c))(hy:ρ y=v)(w:aE):
 (aO ρ o).run p w=.ok (.comm #[scase c v (.tuple #[])] true .send) w/\(aO ρ o).events p w #[]=#[]:=by
 obtain⟨dst,yF,type,pos,after,guard⟩:=o;simp only at hop;subst hop;constructor
 .simp[aO,hx,hy,scase,pure,bD]
 .simp[aO,hx,hy,scase,pure,bD,vV,yV]
variable {g:Nat}
theorem Vh {R:Pr}{W:aE}(hw:C.Rel R w W){v':aF}(hK:C.K g c)(h:VR (SF C.fs) C.K R (.chan (some g)) v'):v'=.chan (some c):=by
 cases h with
 |chan h=>
  cases h with
  |some h=>rw[hw.inj g _ c h (.inr hK)]
theorem zbu (ho:ops[i]? =some o)(v:aF):oO (G ((C.ds.base fn).at ⟨tmps,C.ds.ds⟩ (.inRegion ops (i::rest)::k)) C.base) v=G (fx [] C.ds ⟨fn,(b7 ⟨tmps,[]⟩ o.dst v).tmps,.inRegion ops rest::k,false⟩) C.base:=by
 rw[mE];have Dz:b7 ⟨tmps,C.ds.ds⟩ o.dst v=⟨(b7 ⟨tmps,[]⟩ o.dst v).tmps,C.ds.ds⟩:=by cases o.dst<;>rfl
 have yS:((C.ds.base fn).at ⟨tmps,C.ds.ds⟩ (.inRegion ops (i::rest)::k)).finish v=(C.ds.base fn).at (b7 ⟨tmps,C.ds.ds⟩ o.dst v) (.inRegion ops rest::k):=by rw[znu,ho];rfl
 rw[<-Dz,<-yS];rfl
variable {okv:aF->Prop}
theorem BO.recv (ha:C.alone=none)(hI:fB C){nx:aF->L}{sh:L}
 (ho:ops[i]? =some o) (cC:dA o (dN ops tmps)=true) (hop:o.op=.recv ct x ok) (E6:C.p.underlying ct=some (.chan dir e)) (jL:C.p.info? e=some ie) (hz:ie.zero=some z) (zi5:∀R,VR (SF C.fs) C.K R z z)
 (rK:dL C.fs x=true) (hx:(bH tmps []).eval x=.chan (some g)) (hK:C.K g c) (lD:∀s,o.dst=some s->s∉C.S) (pN:C.A.act l=.recv c okv nx sh)
 (h1:∀v,okv v->∃vg,(∀R,VR (SF C.fs) C.K R vg v)/\BO C (nx v) ⟨fn,(b7 ⟨tmps,[]⟩ o.dst (recvd ok vg true)).tmps,.inRegion ops rest::k,false⟩ w)
 (h2:C.A.cl l->BO C sh ⟨fn,(b7 ⟨tmps,[]⟩ o.dst (recvd ok z false)).tmps,.inRegion ops rest::k,false⟩ w):BO C l ⟨fn,tmps,.inRegion ops (i::rest)::k,false⟩ w:=by
 intro R W m' τ hw hm ht hi;obtain⟨fn',bQ,yJ,x3⟩:=m';obtain rfl:=hm.fn;obtain rfl:=hm.todo;obtain rfl:=hm.ret;have lH:(bH bQ C.ds.ds).eval x=.chan (some c):=Vh hw hK (hx▸Fx (C:=C) hm.tmps rK);have uH:=Hd (C:=C) hm.tmps cC;have hb:(C.ds.base fn).kind≠ .early:=C.ds.ok;have zar:∀vg v' b,VR (SF C.fs) C.K R vg v'->VR (SF C.fs) C.K R (recvd ok vg b) (recvd ok v' b):=λvg v' b h=>by
  unfold recvd
  cases ok with
  |false=>exact h
  |true=>
   simp only[if_true];exact VR.tuple' (by
    have:=bK.empty (S:=SF C.fs) (K:=C.K) (R:=R);exact(this.push h).push (.bool b))
 have goon:∀{l':L} {vg v':aF} {aV:aE},bT C.ty C.Wg τ W aV->VR (SF C.fs) C.K R vg v'->BO C l' ⟨fn,(b7 ⟨tmps,[]⟩ o.dst vg).tmps,.inRegion ops rest::k,false⟩ w->
  C.B l' τ (oO (G ((C.ds.base fn).at ⟨bQ,C.ds.ds⟩ (.inRegion ops (i::rest)::k)) C.base) v') aV:=λ{l' vg v' aV} s hv hB=>by
  rw[zbu ho];exact hB R aV _ τ (Cx.Rel.suf (C:=C) hw ht s) ⟨rfl,rfl,rfl,Hh (C:=C) hm.tmps hv,Is (C:=C) hm.pins lD⟩ ht (hI.suf _ _ _ _ hi s)
 rw[mE,Cx.B_none ha];refine bZ.usr rfl ?_;unfold l9;rw[pN];refine⟨rfl,z,ok,λaI s=>?_,λv hv aI s _=>?_,λmF=>?_⟩
 .obtain⟨e1,e2⟩:=zrN (p:=C.p) (ρ:=(bH bQ C.ds.ds).eval) hop E6 jL hz lH aI
  rw[stepG_comm ho uH hb e1];unfold wK;rw[e2,Bm]
 .obtain⟨vg,zhg,hB⟩:=h1 v hv
  have:=goon s (zar _ _ _ (zhg R)) hB;rw[Cx.B_none ha] at this;exact this
 .have:=goon bT.refl (zar _ _ _ (zi5 R)) (h2 mF)
  rw[Cx.B_none ha] at this;exact this
variable {pub:aF->List Nat}
theorem BO.send (ha:C.alone=none)(hI:fB C){y:cM}{nx:aF->L}{l':L}
 (ho:ops[i]? =some o) (cC:dA o (dN ops tmps)=true) (hop:o.op=.send x y)
 (rK:dL C.fs x=true) (hx:(bH tmps []).eval x=.chan (some g)) (hK:C.K g c) (C6:dL C.fs y=true) (lD:∀s,o.dst=some s->s∉C.S) (pN:C.A.act l=.send c okv pub nx)
 (hv:∀R v',VR (SF C.fs) C.K R ((bH tmps []).eval y) v'->okv v'/\pub v'=[]/\nx v'=l')
 (h1:BO C l' ⟨fn,(b7 ⟨tmps,[]⟩ o.dst aA).tmps,.inRegion ops rest::k,false⟩ w):BO C l ⟨fn,tmps,.inRegion ops (i::rest)::k,false⟩ w:=by
 intro R W m' τ hw hm ht hi;obtain⟨fn',bQ,yJ,x3⟩:=m';obtain rfl:=hm.fn;obtain rfl:=hm.todo;obtain rfl:=hm.ret;have lH:(bH bQ C.ds.ds).eval x=.chan (some c):=Vh hw hK (hx▸Fx (C:=C) hm.tmps rK);have uH:=Hd (C:=C) hm.tmps cC;have hb:(C.ds.base fn).kind≠ .early:=C.ds.ok;obtain⟨k1,k2,k3⟩:=hv R _ (Fx (C:=C) (d:=C.ds.ds) hm.tmps C6);rw[mE,Cx.B_none ha];refine bZ.usr rfl ?_;unfold l9;rw[pN];refine⟨rfl,_,.tuple #[],τ,λaI s=>?_,k1,λb h=>h,rfl,λb h=>.inl h,(λa ha=>by rw[k2] at ha;cases ha),?_⟩
 .obtain⟨e1,e2⟩:=zxs (p:=C.p) (ρ:=(bH bQ C.ds.ds).eval) hop lH rfl aI
  rw[stepG_comm ho uH hb e1];unfold wK;rw[e2,Bm]
 .rw[k3,zbu ho]
  rw[<-Cx.B_none ha];exact h1 R W _ τ hw ⟨rfl,rfl,rfl,Hh (C:=C) hm.tmps xD,Is (C:=C) hm.pins lD⟩ ht hi
end
end Go.Mt
namespace Go.Mt
open Go.Conc
inductive PpL where
 |m0|m1|rv (k:Nat)|wt|sd (k:Nat)|dn
end Go.Mt
namespace Go.Mt
open Go.Conc Go.RowKit Go.Conc.Lib Go.ConcR.Gen
open Go.ConcR (KK wgBlock WgAt stA smA rd wr mk Payload DC0)
section
variable {zN:Type}{P:bS}{ty:aM}{Wg:Nat}{A:jF zN}{Fin:bC->aE->Prop}
theorem cE.grow_self (τ:cE)(w:aE):τ.grow w w=τ:=by
 obtain⟨a,b,c⟩:=τ;simp only[cE.grow,cE.mk.injEq,and_true];funext x;exact propext ⟨λh=>h.elim id λh=>by omega,.inl⟩
def zA.refl (O:Nat->Prop)(w:aE):zA O w w:=⟨rfl,rfl,rfl,aZ _,λ_ _ _=>rfl⟩
variable {main:Bool}{τ:cE}
theorem bZ.running {ph:Ph zN}{d:Nat}{g:bC}{w:aE}(h:bZ P ty Wg A Fin main ph d τ g w):g.status=.running:=by
 obtain⟨r,hr⟩:=h;cases r with|mk ι f=>exact hr.1
theorem bZ.goes {ph:Ph zN}{d:Nat}(hl:ph.live):∀(n:Nat) {g:bC} {w:aE},Goes P main (bT ty Wg τ) DC0 (bZ P ty Wg A Fin main ph d τ) n g w->bZ P ty Wg A Fin main ph d τ g w:=by
 intro n
 induction n with
 |zero=>exact λ{g w} h=>h w (bT.refl)
 |succ n ih=>
  intro g w h;rcases h with h|⟨hs,h⟩
  .exact h w (bT.refl)
  .refine bZ.own hs hl λaI s=>?_
   obtain⟨zbH,w',es,hgo,⟨e1,e2⟩,hg⟩:=zhY (h aI s);subst e1 e2;have hb:=ih hg;refine⟨zbH,w',#[],hgo,hb.running,zA.refl _ _,λe he=>by simp at he,?_⟩;rw[cE.grow_self];exact hb
theorem bZ.idles {ph:Ph zN}{d:Nat}(hl:∀{g w},zat P ty Wg (bZ P ty Wg A Fin) main ph d τ g w->Lr P ty Wg (bZ P ty Wg A Fin) main ph d τ g w):∀(n:Nat) {g:bC} {w:aE},Goes P main (bT ty Wg τ) DC0 (bZ P ty Wg A Fin main ph d τ) n g w->bZ P ty Wg A Fin main ph d τ g w:=by
 intro n
 induction n with
 |zero=>exact λ{g w} h=>h w (bT.refl)
 |succ n ih=>
  intro g w h;rcases h with h|⟨hs,h⟩
  .exact h w (bT.refl)
  .refine bZ.mk hs (.inl (hl λaI s=>?_))
   obtain⟨zbH,w',es,hgo,⟨e1,e2⟩,hg⟩:=zhY (h aI s);subst e1 e2;have hb:=ih hg;exact⟨zbH,#[],hgo,hb.running,λe he=>by simp at he,hb⟩
variable {m:Mark}
theorem bZ.mark {ph:Ph zN}{d:Nat}(hl:ph.live){g:bC}{w:aE}(hs:g.status=.running){g':bC}(hgo:∀aI,bT ty Wg τ w aI->stepG P main g aI=.go g' aI #[oF m])
 (hm:EvT Wg main τ.own τ.still (oF m)) (hb:∀aI,bT ty Wg τ w aI->bZ P ty Wg A Fin main ph (nN d #[oF m]) τ g' aI):bZ P ty Wg A Fin main ph d τ g w:=by
 refine bZ.own hs hl λaI s=>⟨g',aI,#[oF m],hgo aI s,(hb aI s).running,zA.refl _ _,λe he=>?_,?_⟩
 .rw[zq8] at he
  subst he;rw[cE.grow_self];exact hm
 .rw[cE.grow_self];exact hb aI s
theorem bZ.imark {l:zN}{d:Nat}{g:bC}{w:aE}(hs:g.status=.running){g':bC}(hgo:∀aI,bT ty Wg τ w aI->stepG P main g aI=.go g' aI #[oF m])
 (hm:oE.mute (oF m)=true) (hb:∀aI,bT ty Wg τ w aI->bZ P ty Wg A Fin main (.rel l) (nN d #[oF m]) τ g' aI):bZ P ty Wg A Fin main (.rel l) d τ g w:=by
 refine bZ.mk hs (.inl λaI s=>⟨g',#[oF m],hgo aI s,(hb aI s).running,λe he=>?_,hb aI s⟩);rw[zq8] at he;subst he;exact hm
def WgLive.cell0 {w:aE}(h:WgLive ty Wg w):∃v,w.cell? ⟨Wg,0,none⟩=some v:=let⟨_,_,x⟩:=h;⟨_,x.cellSt⟩
def WgLive.cell1 {w:aE}(h:WgLive ty Wg w):∃v,w.cell? ⟨Wg,1,none⟩=some v:=let⟨_,_,x⟩:=h;⟨_,x.cellSm⟩
structure Fl (ty:aM)(Wg:Nat)(τ:cE)(F:aE->Prop):Prop where
 suf:∀w aI,bT ty Wg τ w aI->F w->F aI
 wg:∀w a v,a.block=Wg->F w->F (w.setCell a v)
def Fl.rely {F:aE->Prop}(k:Fl ty Wg τ F){w aI:aE}(h:F w/\WgLive ty Wg w)(s:bT ty Wg τ w aI):F aI/\WgLive ty Wg aI:=⟨k.suf _ _ s h.1,s.live h.2⟩
end
end Go.Mt
namespace Go.Mt
open Go.Conc Go.RowKit Go.Conc.Lib Go.ConcR.Gen
open Go.ConcN.Gen (WgLive.cell0 WgLive.cell1)
open Go.ConcN (st_flag st_waiters)
open Go.ConcR (KK wgBlock WgAt stA smA rd wr mk Payload DC0)
variable [zgD]{L:zgt}
section
variable {zN:Type}{P:bS}{Wg:Nat}{A:jF zN}{Fin:bC->aE->Prop}{F:aE->Prop}
 {b₀:dE} {a₀:tE} {ops₀:Array aY} {i₀:Nat} {rest₀:List Nat} {k₀:List dW} {cs:List dE} {τ:cE} {l nx:zN}
theorem addW (H:Vu P L)(pN:A.act l=.add nx)(kf:Fl L.tWg Wg τ F)
 (hT:∀w,F w->WgLive L.tWg Wg w->bZ P L.tWg Wg A Fin true (.usr nx) 0 τ (G (b₀.at (a₀.put ((ops₀[i₀]?).bind (·.dst)) (.tuple #[])) (.inRegion ops₀ rest₀::k₀)) cs) w)
 (w:aE) (hF:F w/\WgLive L.tWg Wg w):
 bZ P L.tWg Wg A Fin true (.usr l) 0 τ (G ((base L.add).at ⟨#[.pointer (some ⟨Wg,0,none⟩),.int .i64 1,aA,aA,aA,aA,aA,aA,aA,aA,aA,aA,aA,aA,aA,aA,aA,aA,aA,aA,aA,aA,aA,aA,aA,aA,aA,aA,aA,aA,aA,aA,aA,aA,aA,aA,aA,aA,aA,aA,aA,aA,aA,aA,aA,aA,aA,aA,aA,aA,aA,aA,aA,aA,aA,aA,aA,aA,aA,aA,aA,aA,aA,aA,aA,aA,aA,aA,aA,aA,aA,aA,aA,aA,aA,aA,aA,aA,aA,aA,aA,aA,aA,aA,aA,aA,aA,aA,aA,aA,aA,aA,aA,aA,aA,aA,aA,aA,aA,aA,aA,aA,aA,aA,aA,aA,aA,aA,aA,aA,aA,aA,aA,aA,aA,aA,aA],[]⟩ [.code (L9 L)]) (b₀.at a₀ (.inRegion ops₀ (i₀::rest₀)::k₀)::cs)) w:=by
 lib_facts
 simp only[L9,addFn,zC];refine bZ.goes (ph:=.usr l) trivial 30 ?_
 iterate 12 (first|u_c dD kf.rely hF|u_c dP kf.rely hF|u_reg kf.rely hF|u_c pA kf.rely hF|u_cond false kf.rely hF|u_cond true kf.rely hF|u_op kf.rely hF)
 refine qB (λaI vE=>?_);replace hF:=kf.rely hF vE;clear vE;refine bZ.mark (ph:=.usr l) trivial rfl (λeN s=>zau .disable aQ rfl rfl qL rfl H.f_disable (zlZ L) (zkJ L) (zki L) (zkv L)) trivial (λeN s=>?_);replace hF:=kf.rely hF s;clear s;rw[show nN 0 #[oF .disable]=1 from rfl]
 walk_nrm
 refine bZ.goes (ph:=.usr l) trivial 60 ?_;u_c dD kf.rely hF;u_reg kf.rely hF
 u_defer kf.rely hF
 iterate 8 (first|u_c dD kf.rely hF|u_c dP kf.rely hF|u_reg kf.rely hF|u_op kf.rely hF)
 u_bub kf.rely hF
 iterate 11 (first|u_c dD kf.rely hF|u_c dP kf.rely hF|u_reg kf.rely hF|u_c pA kf.rely hF|u_cond false kf.rely hF|u_op kf.rely hF)
 u_call H.f_uAdd (nm_uAdd L) uAddFn kf.rely hF
 iterate 10 (first|u_c dD kf.rely hF|u_c dP kf.rely hF|u_reg kf.rely hF|u_op kf.rely hF)
 refine qB (λaI vE=>?_);replace hF:=kf.rely hF vE;clear vE;refine bZ.usr rfl ?_;unfold l9;rw[pN];intro eN lK v hv hw;replace hF:=kf.rely hF lK;clear lK;rcases Ou v with rfl|zbi
 .replace hw:fV L.tWg Wg eN 0 0:=by simpa using hw
  have z:st (0+1) 0=.int .u64 KK:=by simp[st]
  rw[z];have e0:Rm.wrap (0+4294967296)=KK:=aH;refine⟨_,(Vw rfl rfl qL rfl H.f_addU64 (Ug L) (Ym L) (X7 L) .u64 (Yn L) rfl rfl hw.cellSt (hw.thaw 0)).trans (by rw[e0];rfl),rfl,?_⟩;replace hF:F (eN.setCell (stA Wg) (.int .u64 KK))/\WgLive L.tWg Wg (eN.setCell (stA Wg) (.int .u64 KK)):=⟨kf.wg _ _ _ rfl hF.1,⟨_,_,hw.setSt _⟩⟩;clear hw;simp only[KK] at hF⊢
  walk_nrm
  refine bZ.goes (ph:=.usr nx) trivial 110 ?_
  iterate 3 (first|u_c dD kf.rely hF|u_c wE kf.rely hF|u_op kf.rely hF)
  u_leave1 H.f_uAdd kf.rely hF
  iterate 48 (first|u_c dD kf.rely hF|u_c dP kf.rely hF|u_reg kf.rely hF|u_c pA kf.rely hF|u_cond false kf.rely hF|u_cond true kf.rely hF|u_op kf.rely hF|u_skip kf.rely hF)
  u_conv H.underlying_tPU32 H.room_tU32 (WgLive.cell1 hF.2).choose_spec kf.rely hF
  refine qB (λIe Aq=>?_);replace hF:=kf.rely hF Aq;clear Aq;refine bZ.mark (ph:=.usr nx) trivial rfl (λRx s=>zcA .read aQ rfl rfl qL rfl H.f_raceRead (x_raceRead_n L) (x_raceRead_b L) (x_raceRead_x L) (x_raceRead_f L) (ad:=⟨Wg,1,none⟩) (by simp[vW])) ⟨rfl,rfl⟩ (λRx s=>?_);replace hF:=kf.rely hF s;clear s;rw[show nN 1 #[oF (.read ⟨Wg,1,none⟩)]=1 from rfl]
  walk_nrm
  refine bZ.goes (ph:=.usr nx) trivial 110 ?_
  iterate 39 (first|u_c dD kf.rely hF|u_c dP kf.rely hF|u_reg kf.rely hF|u_c pA kf.rely hF|u_cond false kf.rely hF|u_cond true kf.rely hF|u_c wE kf.rely hF|u_op kf.rely hF|u_skip kf.rely hF)
  refine qB (λIe Aq=>?_);replace hF:=kf.rely hF Aq;clear Aq;refine bZ.mark (ph:=.usr nx) trivial rfl (λRx s=>znx (v:=.tuple #[]) (evs:=#[oF .enable]) rfl H.f_enable (zfG L) (zcQ L) (ze0 L) (zdu L) (by simp[znr]) (by simp[oF]) (by simp[oF])) trivial (λRx s=>?_);replace hF:=kf.rely hF s;clear s;rw[show nN 1 #[oF .enable]=0 from rfl];refine bZ.goes (ph:=.usr nx) trivial 2 ?_
  u_leave0 H.f_add kf.rely hF
  exact qB (λzbr Ht=>hT zbr (kf.rely hF Ht).1 (kf.rely hF Ht).2)
 .obtain⟨V,hV⟩:=aU ((v:Int)+1:Int)
  obtain⟨S,hS⟩:=aU (V*KK:Int);have eS:Rm.wrap ((v:Int)*KK+4294967296)=S:=by rw[zdI,hS,hV];simp only[KK];omega
  have z:st (v+1) 0=.int .u64 S:=by simp[st,hS,hV]
  rw[z];have a1:S/4294967296=V:=by rw[hS];simp only[KK];omega
  have b1:bits .and .u64 S 2147483648=0:=by rw[hS,hV];have:=st_flag (v+1) 0 aD aD;simpa[KK] using this
  have b2:bits .and .u64 S 2147483647=0:=by rw[hS,hV];have:=st_waiters (v+1) 0 aD aD;simpa[KK] using this
  have c1:zv7.wrap V=V:=by rw[ztW];omega
  have zna:1<V:=aD;have zsl:V<2147483648:=aD;have q1:(V==1)=false:=rF;have q2:decide (V=1)=false:=decide_eq_false aD;have q3:decide (V<0)=false:=decide_eq_false aD;have q4:decide (0<V)=true:=decide_eq_true aD;have q5:(V==0)=false:=rF;have q6:decide (V=0)=false:=decide_eq_false aD;refine⟨_,(Vw rfl rfl qL rfl H.f_addU64 (Ug L) (Ym L) (X7 L) .u64 (Yn L) rfl rfl hw.cellSt (hw.thaw 0)).trans (by rw[eS];rfl),rfl,?_⟩;replace hF:F (eN.setCell (stA Wg) (.int .u64 S))/\WgLive L.tWg Wg (eN.setCell (stA Wg) (.int .u64 S)):=⟨kf.wg _ _ _ rfl hF.1,⟨_,_,hw.setSt _⟩⟩;clear hw hS hV eS z
  walk_nrm
  refine bZ.goes (ph:=.usr nx) trivial 130 ?_
  iterate 3 (first|u_c dD kf.rely hF|u_c wE kf.rely hF|u_op kf.rely hF)
  u_leave1 H.f_uAdd kf.rely hF
  iterate 13 (first|u_c dD kf.rely hF|u_c dP kf.rely hF|u_reg kf.rely hF|u_op kf.rely hF|u_skip kf.rely hF)
  u_cnd false kf.rely hF
  iterate 29 (first|u_c dD kf.rely hF|u_c dP kf.rely hF|u_reg kf.rely hF|u_c pA kf.rely hF|u_op kf.rely hF)
  u_cnd false kf.rely hF
  iterate 7 (first|u_c dD kf.rely hF|u_c dP kf.rely hF|u_reg kf.rely hF|u_c pA kf.rely hF|u_op kf.rely hF)
  u_cnd false kf.rely hF
  iterate 17 (first|u_c dD kf.rely hF|u_c dP kf.rely hF|u_reg kf.rely hF|u_c pA kf.rely hF|u_op kf.rely hF|u_skip kf.rely hF)
  u_cnd false kf.rely hF
  iterate 11 (first|u_c dD kf.rely hF|u_c dP kf.rely hF|u_reg kf.rely hF|u_c pA kf.rely hF|u_op kf.rely hF|u_skip kf.rely hF)
  u_cnd true kf.rely hF
  u_c wE kf.rely hF;refine qB (λIe Aq=>?_);replace hF:=kf.rely hF Aq;clear Aq;refine bZ.mark (ph:=.usr nx) trivial rfl (λRx s=>znx (v:=.tuple #[]) (evs:=#[oF .enable]) rfl H.f_enable (zfG L) (zcQ L) (ze0 L) (zdu L) (by simp[znr]) (by simp[oF]) (by simp[oF])) trivial (λRx s=>?_);replace hF:=kf.rely hF s;clear s;rw[show nN 1 #[oF .enable]=0 from rfl];refine bZ.goes (ph:=.usr nx) trivial 2 ?_
  u_leave0 H.f_add kf.rely hF
  exact qB (λzbr Ht=>hT zbr (kf.rely hF Ht).1 (kf.rely hF Ht).2)
end
end Go.Mt
namespace Go.Mt
open Go.Conc Go.RowKit Go.Conc.Lib Go.ConcR.Gen
open Go.ConcN.Gen (WgLive.cell0 WgLive.cell1)
open Go.ConcN (st_flag st_waiters)
open Go.ConcR (KK wgBlock WgAt stA smA rd wr mk Payload DC0)
variable [zgD]{L:zgt}
section
variable {zN:Type}{P:bS}{Wg:Nat}{A:jF zN}{Fin:bC->aE->Prop}{F:aE->Prop}
 {b₀:dE} {a₀:tE} {ops₀:Array aY} {i₀:Nat} {rest₀:List Nat} {k₀:List dW} {cs:List dE} {τ:cE} {l nx:zN}
theorem zBS (H:Vu P L)(pN:A.act l=.done)(kf:Fl L.tWg Wg τ F)(sZ:∀w,F w->A.dep l w){qt:Nat}
 (hT:QuitsD P qt 0 (G (b₀.at (a₀.put ((ops₀[i₀]?).bind (·.dst)) (.tuple #[])) (.inRegion ops₀ rest₀::k₀)) cs)) (w:aE) (hF:F w/\WgLive L.tWg Wg w):
 bZ P L.tWg Wg A Fin false (.usr l) 0 τ (G ((base L.add).at ⟨#[.pointer (some ⟨Wg,0,none⟩),.int .i64 (-1),aA,aA,aA,aA,aA,aA,aA,aA,aA,aA,aA,aA,aA,aA,aA,aA,aA,aA,aA,aA,aA,aA,aA,aA,aA,aA,aA,aA,aA,aA,aA,aA,aA,aA,aA,aA,aA,aA,aA,aA,aA,aA,aA,aA,aA,aA,aA,aA,aA,aA,aA,aA,aA,aA,aA,aA,aA,aA,aA,aA,aA,aA,aA,aA,aA,aA,aA,aA,aA,aA,aA,aA,aA,aA,aA,aA,aA,aA,aA,aA,aA,aA,aA,aA,aA,aA,aA,aA,aA,aA,aA,aA,aA,aA,aA,aA,aA,aA,aA,aA,aA,aA,aA,aA,aA,aA,aA,aA,aA,aA,aA,aA,aA,aA,aA],[]⟩ [.code (L9 L)]) (b₀.at a₀ (.inRegion ops₀ (i₀::rest₀)::k₀)::cs)) w:=by
 lib_facts
 simp only[L9,addFn,zC];refine bZ.goes (ph:=.usr l) trivial 20 ?_
 iterate 11 (first|u_c dD kf.rely hF|u_c dP kf.rely hF|u_reg kf.rely hF|u_cond true kf.rely hF|u_op kf.rely hF)
 u_conv H.underlying_tWgP H.room_tWg (WgLive.cell0 hF.2).choose_spec kf.rely hF
 refine qB (λaI vE=>?_);replace hF:=kf.rely hF vE;clear vE;refine bZ.usr rfl ?_;unfold l9;rw[pN];refine⟨rfl,rfl,λeN s=>sZ _ (kf.rely hF s).1,λeN s=>?_⟩;replace hF:=kf.rely hF s;clear s;refine⟨_,zcA .releaseMerge aQ rfl rfl qL rfl H.f_relMerge (x_relMerge_n L) (x_relMerge_b L) (x_relMerge_x L) (x_relMerge_f L) zlm,rfl,?_⟩;refine bZ.idles (ph:=.rel l) id 10 ?_
 walk_nrm
 iterate 3 (first|u_c dD kf.rely hF|u_c dP kf.rely hF|u_reg kf.rely hF)
 refine qB (λaI vE=>?_);replace hF:=kf.rely hF vE;clear vE;refine bZ.imark rfl (λeN s=>zau .disable aQ rfl rfl qL rfl H.f_disable (zlZ L) (zkJ L) (zki L) (zkv L)) rfl (λeN s=>?_);replace hF:=kf.rely hF s;clear s;rw[show nN 0 #[oF .disable]=1 from rfl];refine bZ.idles (ph:=.rel l) id 50 ?_
 walk_nrm
 u_c dD kf.rely hF;u_reg kf.rely hF
 u_defer kf.rely hF
 iterate 8 (first|u_c dD kf.rely hF|u_c dP kf.rely hF|u_reg kf.rely hF|u_op kf.rely hF)
 u_bub kf.rely hF
 iterate 11 (first|u_c dD kf.rely hF|u_c dP kf.rely hF|u_reg kf.rely hF|u_c pA kf.rely hF|u_cond false kf.rely hF|u_op kf.rely hF)
 u_call H.f_uAdd (nm_uAdd L) uAddFn kf.rely hF
 iterate 10 (first|u_c dD kf.rely hF|u_c dP kf.rely hF|u_reg kf.rely hF|u_op kf.rely hF)
 refine qB (λzgh zeR=>?_);replace hF:=kf.rely hF zeR;clear zeR;refine bZ.mk rfl (.inr ?_);intro aI iN v wt cC hv hw;replace hF:=kf.rely hF iN;clear iN;have e0:Rm.wrap (KK+18446744069414584320)=0:=aH;have e1:Rm.wrap (KK+1+18446744069414584320)=1:=aH;rcases Ou v with rfl|zbi<;>(obtain rfl|rfl:wt=0\/wt=1:=by omega)
 .
  replace hw:fV L.tWg Wg aI KK 0:=by simpa using hw
  have z:Mt.st 0 0=.int .u64 0:=by simp[Mt.st]
  rw[z];refine⟨_,(Vw rfl rfl qL rfl H.f_addU64 (Ug L) (Ym L) (X7 L) .u64 (Yn L) rfl rfl hw.cellSt (hw.thaw 0)).trans (by rw[e0];rfl),rfl,aH,λhl=>absurd hl.2 aH,λ_=>⟨qt+89,?_⟩⟩;clear hw
  walk_nrm
  q_val (.int .u64 0)
  q_c dD
  q_c wE
  q_leave1 H.f_uAdd
  q_val (.int .u64 0)
  q_c dD
  q_c dP
  q_c dP
  q_reg
  q_val (.int .u64 0)
  q_val (.int .u64 0)
  q_val (.bool false)
  q_val (.bool false)
  q_skip
  q_skip
  q_val (.bool false)
  q_c dD
  q_cond false
  q_c pA
  q_c dP
  q_reg
  q_val (.int .u64 0)
  q_val (.int .u64 0)
  q_val (.int .i32 0)
  q_val (.int .i32 0)
  q_c dD
  q_c dP
  q_reg
  q_val (.int .u64 0)
  q_val (.int .u64 0)
  q_val (.int .u32 0)
  q_val (.int .u32 0)
  q_c dD
  q_c dP
  q_c dP
  q_reg
  q_val (.bool true)
  q_val (.int .i64 (-1))
  q_val (.bool false)
  q_val (.bool false)
  q_val (.bool false)
  q_skip
  q_skip
  q_skip
  q_skip
  q_val (.bool false)
  q_c dD
  q_cond false
  q_c pA
  q_c dP
  q_c dP
  q_reg
  q_val (.int .i32 0)
  q_val (.bool false)
  q_c dD
  q_cond false
  q_c pA
  q_c dP
  q_c dP
  q_reg
  q_val (.int .u32 0)
  q_val (.bool false)
  q_val (.bool false)
  q_skip
  q_skip
  q_val (.bool false)
  q_val (.bool false)
  q_skip
  q_skip
  q_skip
  q_skip
  q_val (.bool false)
  q_c dD
  q_cond false
  q_c pA
  q_c dP
  q_c dP
  q_reg
  q_val (.int .i32 0)
  q_val (.bool false)
  q_val (.bool false)
  q_val (.int .u32 0)
  q_val (.bool true)
  q_val (.bool true)
  q_c dD
  q_cond true
  q_c wE
  q_enable
  q_leave0 H.f_add
  exact hT
 .
  replace hw:fV L.tWg Wg aI (KK+1) 0:=by simpa using hw
  have z:Mt.st 0 1=.int .u64 1:=by simp[Mt.st]
  rw[z];refine⟨_,(Vw rfl rfl qL rfl H.f_addU64 (Ug L) (Ym L) (X7 L) .u64 (Yn L) rfl rfl hw.cellSt (hw.thaw 0)).trans (by rw[e1];rfl),rfl,aH,λ_=>?_,λhl=>absurd ⟨rfl,rfl⟩ hl⟩;replace hF:F (aI.setCell (stA Wg) (.int .u64 1))/\WgLive L.tWg Wg (aI.setCell (stA Wg) (.int .u64 1)):=⟨kf.wg _ _ _ rfl hF.1,⟨_,_,hw.setSt 1⟩⟩;clear hw;refine bZ.idles (ph:=.l1 l) id 120 ?_
  walk_nrm
  iterate 3 (first|u_c dD kf.rely hF|u_c wE kf.rely hF|u_op kf.rely hF)
  u_leave1 H.f_uAdd kf.rely hF
  iterate 89 (first|u_c dD kf.rely hF|u_c dP kf.rely hF|u_reg kf.rely hF|u_c pA kf.rely hF|u_cond false kf.rely hF|u_op kf.rely hF|u_skip kf.rely hF)
  u_call H.f_uLoad (zht L) uLoadFn kf.rely hF
  iterate 9 (first|u_c dD kf.rely hF|u_c dP kf.rely hF|u_reg kf.rely hF|u_op kf.rely hF)
  refine qB (λeN Sk=>?_);replace hF:=kf.rely hF Sk;clear Sk;refine bZ.mk rfl (.inr ?_);intro Ie s hw;replace hF:=kf.rely hF s;clear s;refine⟨_,zfO rfl rfl qL rfl H.f_loadU64 (zga L) (zeC L) (zdW L) .u64 (zdU L) rfl hw.cellSt,rfl,aH,?_⟩;clear hw;refine bZ.idles (ph:=.l2 l) id 40 ?_
  walk_nrm
  iterate 3 (first|u_c dD kf.rely hF|u_c wE kf.rely hF|u_op kf.rely hF)
  u_leave1 H.f_uLoad kf.rely hF
  iterate 10 (first|u_c dD kf.rely hF|u_c dP kf.rely hF|u_reg kf.rely hF|u_c pA kf.rely hF|u_cond false kf.rely hF|u_op kf.rely hF)
  u_call H.f_uStore (nm_uStore L) uStoreFn kf.rely hF
  iterate 5 (first|u_reg kf.rely hF|u_op kf.rely hF)
  refine qB (λeN Aq=>?_);replace hF:=kf.rely hF Aq;clear Aq;refine bZ.mk rfl (.inr ?_);intro Ie s hw;replace hF:=kf.rely hF s;clear s;have z0:Mt.st 0 0=.int .u64 0:=by simp[Mt.st]
  rw[z0];refine⟨_,stepG_store_atomic rfl rfl qL rfl H.f_storeU64 (x_storeU64_n L) (x_storeU64_b L) (x_storeU64_x L) (x_storeU64_f L) rfl rfl hw.cellSt (hw.thaw 0),rfl,aH,?_⟩;replace hF:F (Ie.setCell (stA Wg) (.int .u64 0))/\WgLive L.tWg Wg (Ie.setCell (stA Wg) (.int .u64 0)):=⟨kf.wg _ _ _ rfl hF.1,⟨_,_,hw.setSt 0⟩⟩;clear hw z0;refine bZ.idles (ph:=.l3 l) id 50 ?_
  walk_nrm
  u_c dD kf.rely hF;u_c zfx kf.rely hF
  u_leave0 H.f_uStore kf.rely hF
  iterate 24 (first|u_c dD kf.rely hF|u_c dP kf.rely hF|u_reg kf.rely hF|u_c pA kf.rely hF|u_cond false kf.rely hF|u_cond true kf.rely hF|u_c zc3 kf.rely hF|u_c zmT kf.rely hF|u_op kf.rely hF)
  refine qB (λeN zdZ=>?_);clear zdZ hF;refine bZ.mk rfl (.inr ⟨mayWake_entry rfl rfl H.f_semrelease (zwJ L),λRx s hw=>?_⟩);clear s;refine⟨_,(stepG_semrelease rfl rfl qL rfl H.f_semrelease (x_semrelease_n L) (zwJ L) (x_semrelease_x L) (x_semrelease_f L) zmN hw.cellSm (hw.thaw 1)).trans Le,rfl,aH,qt+19,?_⟩;clear hw
  walk_nrm
  q_c dD
  q_c zh8
  q_reg
  q_val (.int .u32 1)
  q_val (.int .u32 0)
  q_val (.int .u32 0)
  q_c dD
  q_c zmF
  q_c dP
  q_c dP
  q_reg
  q_val (.int .u32 0)
  q_val (.bool false)
  q_c dD
  q_cond false
  q_exit
  q_c zfx
  q_enable
  q_leave0 H.f_add
  exact hT
 .
  replace hw:fV L.tWg Wg aI (((v:Nat)+1)*KK+0) 0:=by simpa using hw
  have z:Mt.st v 0=.int .u64 ((v:Int)*KK+0):=by simp[Mt.st]
  rw[z];have eM:0<v:=aD;have eS:Rm.wrap (((v:Nat)+1)*KK+0+18446744069414584320)=(v:Int)*KK+0:=by rw[zdI];simp only[KK];omega
  obtain⟨S,hS⟩:=aU ((v:Int)*KK+0:Int);rw[<-hS] at eS⊢;have a1:S/4294967296=(v:Int):=by rw[hS];simp only[KK];omega
  have a2:0<=S/\S<9223372036854775808:=by rw[hS];simp only[KK];omega
  have b1:bits .and .u64 S 2147483648=0:=by rw[hS];have:=st_flag v 0 aD aD;simpa[KK] using this
  have b2:bits .and .u64 S 2147483647=0:=by rw[hS];have:=st_waiters v 0 aD aD;simpa[KK] using this
  clear hS z;refine⟨_,(Vw rfl rfl qL rfl H.f_addU64 (Ug L) (Ym L) (X7 L) .u64 (Yn L) rfl rfl hw.cellSt (hw.thaw 0)).trans (by rw[eS];rfl),rfl,aH,λhl=>absurd hl.1 aD,λ_=>⟨qt+89,?_⟩⟩;clear hw
  walk_nrm
  q_vn (.int .u64 S)
  q_c dD
  q_c wE
  q_leave1 H.f_uAdd
  q_vn (.int .u64 S)
  q_c dD
  q_c dP
  q_c dP
  q_reg
  q_vn (.int .u64 S)
  q_vn (.int .u64 0)
  q_vn (.bool false)
  q_vn (.bool false)
  q_skip
  q_skip
  q_vn (.bool false)
  q_c dD
  q_cond false
  q_c pA
  q_c dP
  q_reg
  q_vn (.int .u64 S)
  q_vn (.int .u64 (v:Int))
  q_vn (.int .i32 (v:Int))
  q_vn (.int .i32 (v:Int))
  q_c dD
  q_c dP
  q_reg
  q_vn (.int .u64 S)
  q_vn (.int .u64 0)
  q_vn (.int .u32 0)
  q_vn (.int .u32 0)
  q_c dD
  q_c dP
  q_c dP
  q_reg
  q_vn (.bool true)
  q_vn (.int .i64 (-1))
  q_vn (.bool false)
  q_vn (.bool false)
  q_vn (.bool false)
  q_skip
  q_skip
  q_skip
  q_skip
  q_vn (.bool false)
  q_c dD
  q_cond false
  q_c pA
  q_c dP
  q_c dP
  q_reg
  q_vn (.int .i32 (v:Int))
  q_vn (.bool false)
  q_c dD
  q_cond false
  q_c pA
  q_c dP
  q_c dP
  q_reg
  q_vn (.int .u32 0)
  q_vn (.bool false)
  q_vn (.bool false)
  q_skip
  q_skip
  q_vn (.bool false)
  q_vn (.bool false)
  q_skip
  q_skip
  q_skip
  q_skip
  q_vn (.bool false)
  q_c dD
  q_cond false
  q_c pA
  q_c dP
  q_c dP
  q_reg
  q_vn (.int .i32 (v:Int))
  q_vn (.bool true)
  q_vn (.bool true)
  q_skip
  q_skip
  q_vn (.bool true)
  q_c dD
  q_cond true
  q_c wE
  q_enable
  q_leave0 H.f_add
  exact hT
 .
  replace hw:fV L.tWg Wg aI (((v:Nat)+1)*KK+1) 0:=by simpa using hw
  have z:Mt.st v 1=.int .u64 ((v:Int)*KK+1):=by simp[Mt.st]
  rw[z];have eM:0<v:=aD;have eS:Rm.wrap (((v:Nat)+1)*KK+1+18446744069414584320)=(v:Int)*KK+1:=by rw[zdI];simp only[KK];omega
  obtain⟨S,hS⟩:=aU ((v:Int)*KK+1:Int);rw[<-hS] at eS⊢;have a1:S/4294967296=(v:Int):=by rw[hS];simp only[KK];omega
  have a2:0<=S/\S<9223372036854775808:=by rw[hS];simp only[KK];omega
  have b1:bits .and .u64 S 2147483648=0:=by rw[hS];have:=st_flag v 1 aD aD;simpa[KK] using this
  have b2:bits .and .u64 S 2147483647=1:=by rw[hS];have:=st_waiters v 1 aD aD;simpa[KK] using this
  clear hS z;refine⟨_,(Vw rfl rfl qL rfl H.f_addU64 (Ug L) (Ym L) (X7 L) .u64 (Yn L) rfl rfl hw.cellSt (hw.thaw 0)).trans (by rw[eS];rfl),rfl,aH,λhl=>absurd hl.1 aD,λ_=>⟨qt+89,?_⟩⟩;clear hw
  walk_nrm
  q_vn (.int .u64 S)
  q_c dD
  q_c wE
  q_leave1 H.f_uAdd
  q_vn (.int .u64 S)
  q_c dD
  q_c dP
  q_c dP
  q_reg
  q_vn (.int .u64 S)
  q_vn (.int .u64 0)
  q_vn (.bool false)
  q_vn (.bool false)
  q_skip
  q_skip
  q_vn (.bool false)
  q_c dD
  q_cond false
  q_c pA
  q_c dP
  q_reg
  q_vn (.int .u64 S)
  q_vn (.int .u64 (v:Int))
  q_vn (.int .i32 (v:Int))
  q_vn (.int .i32 (v:Int))
  q_c dD
  q_c dP
  q_reg
  q_vn (.int .u64 S)
  q_vn (.int .u64 1)
  q_vn (.int .u32 1)
  q_vn (.int .u32 1)
  q_c dD
  q_c dP
  q_c dP
  q_reg
  q_vn (.bool true)
  q_vn (.int .i64 (-1))
  q_vn (.bool false)
  q_vn (.bool false)
  q_vn (.bool false)
  q_skip
  q_skip
  q_skip
  q_skip
  q_vn (.bool false)
  q_c dD
  q_cond false
  q_c pA
  q_c dP
  q_c dP
  q_reg
  q_vn (.int .i32 (v:Int))
  q_vn (.bool false)
  q_c dD
  q_cond false
  q_c pA
  q_c dP
  q_c dP
  q_reg
  q_vn (.int .u32 1)
  q_vn (.bool true)
  q_vn (.bool true)
  q_vn (.int .i64 (-1))
  q_vn (.bool false)
  q_vn (.bool false)
  q_vn (.bool false)
  q_skip
  q_skip
  q_skip
  q_skip
  q_vn (.bool false)
  q_c dD
  q_cond false
  q_c pA
  q_c dP
  q_c dP
  q_reg
  q_vn (.int .i32 (v:Int))
  q_vn (.bool true)
  q_vn (.bool true)
  q_skip
  q_skip
  q_vn (.bool true)
  q_c dD
  q_cond true
  q_c wE
  q_enable
  q_leave0 H.f_add
  exact hT
theorem doneW (H:Vu P L)(pN:A.act l=.done)(kf:Fl L.tWg Wg τ F)(sZ:∀w,F w->A.dep l w){c:dE}{cs:List dE}{qt:Nat}
 (q8:c.mode=.returning) (hT:QuitsD P qt 0 (G c cs)) (w:aE) (hF:F w/\WgLive L.tWg Wg w):
 bZ P L.tWg Wg A Fin false (.usr l) 0 τ (G ((baseD L.done).at ⟨#[.pointer (some ⟨Wg,0,none⟩),aA,aA,aA],[]⟩ [.code (body_done L)]) (c::cs)) w:=by
 lib_facts
 have hA:=@zBS _ L _ P Wg A Fin F;simp only[body_done,L9,doneFn,addFn,zC] at hA⊢;refine bZ.goes (ph:=.usr l) trivial 23 ?_;u_reg kf.rely hF;u_op kf.rely hF
 u_in kf.rely hF
 refine goes_call rfl rfl qL rfl H.f_add (nm_add L) rfl ⟨by u_nil,?_⟩
 walk_nrmf addFn
 refine qB (λaI vE=>?_);refine hA H pN kf sZ (qt:=qt+3) ?_ _ (kf.rely hF vE)
 q_c dD
 q_c zfx
 exact QuitsD.leaveD rfl rfl H.f_done rfl q8 hT
end
end Go.Mt
namespace Go.Mt
open Go.Conc Go.RowKit Go.Conc.Lib Go.ConcR.Gen
open Go.ConcN.Gen (WgLive.cell0 WgLive.cell1 AnchWN)
open Go.ConcN (st_flag st_waiters)
open Go.ConcR (KK wgBlock WgAt stA smA rd wr mk Payload DC0)
variable [zgD]{L:zgt}
section
variable {zN:Type}{P:bS}{Wg:Nat}{A:jF zN}{Fin:bC->aE->Prop}{F:aE->Prop}
 {b₀:dE} {a₀:tE} {ops₀:Array aY} {i₀:Nat} {rest₀:List Nat} {k₀:List dW} {cs:List dE} {τ:cE} {l nx:zN}
def AtX (W w:aE):Prop:=∃d,w=W.at d
theorem xV {W w aI:aE}(h:AtX W w)(r:AtRel w aI):AtX W aI:=by
 obtain⟨d,rfl⟩:=h;obtain⟨d',rfl⟩:=r;exact⟨d',rfl⟩
def zcF (A:jF zN)(w:aE):Prop:=∃q ch,A.Inv q ch/\q 0=.waits/\(∀i l,q i≠ .run l)/\∀i l,q i=.over l->A.dep l w
theorem zo0 (H:Vu P L)(kf:Fl L.tWg Wg τ F)(Mp:∀(n:Nat) g w,Goes P true AtRel DC0 Fin n g w->Fin g w)
 (hT:∀w,F w->WgLive L.tWg Wg w->zcF A w->∀d,Fin (G (b₀.at (a₀.put ((ops₀[i₀]?).bind (·.dst)) (.tuple #[])) (.inRegion ops₀ rest₀::k₀)) cs) (w.at d))
 {ok:Nat->Prop} {ph:Ph zN} (hl:ph.live)
 (wZ:∀g w,g.status=.running->(∀aI,bT L.tWg Wg τ w aI->∀v:Nat,ok v->v<2147483648->fV L.tWg Wg aI (v*KK) 0->∃g',stepG P true g aI=.go g' aI #[rd (stA Wg)]/\g'.status=.running/\
  (v=0->bZ P L.tWg Wg A Fin true .w5 1 τ g' aI)/\(v≠0->bZ P L.tWg Wg A Fin true (.w2 v) 1 τ g' aI))->bZ P L.tWg Wg A Fin true ph 1 τ g w)
 (hC:∀v,ok v->∀g w,AnchWN L F Wg (b₀.at a₀ (.inRegion ops₀ (i₀::rest₀)::k₀)) cs g w->bZ P L.tWg Wg A Fin true (.w1 v) 1 τ g w)
 (g:bC) (w:aE) (h:AnchWN L F Wg (b₀.at a₀ (.inRegion ops₀ (i₀::rest₀)::k₀)) cs g w):bZ P L.tWg Wg A Fin true ph 1 τ g w:=by
 lib_facts
 obtain⟨T,rfl,zzQ,t0,hF⟩:=h;obtain⟨v0,v1,v2,v3,v4,v5,v6,v7,v8,v9,v10,v11,v12,zLF,zLb,zL2,zKQ,zJC,zLp,zL1,v20,v21,v22,zLa,v24,zLU,zKN,zK2,v28,zL8,v30,v31,zLL,zMg,zJG,zJ2,zKG,v37,zKz,zJO,v40,zMC,zKn,zLD,zKa,zLt,v46,zLq,zKI,v49,zKc,v51,zKk,v53,zKY,zLQ,zJE,zJU,zMj,v59,zKu,zLe,zKX,zLW,zLM,zKM,zLH,zMo,zLn,zMx,v70,zKg,v72,zKB,zKT,v75,v76,zMe,zMf,zJM,v80,zLB,zJ3,zJ6,rfl⟩:=array84 T zzQ;simp only[List.getElem?_toArray,List.getElem?_cons_zero,fS] at t0;subst t0;refine bZ.goes hl 30 ?_;simp only[L7,zhs,waitFn,zC]
 iterate 6 (first|u_c dP kf.rely hF|u_reg kf.rely hF|u_c zc3 kf.rely hF|u_op kf.rely hF)
 u_call H.f_uLoad (zht L) uLoadFn kf.rely hF
 iterate 9 (first|u_c dD kf.rely hF|u_c dP kf.rely hF|u_reg kf.rely hF|u_op kf.rely hF)
 refine qB (λzgh vE=>?_);replace hF:=kf.rely hF vE;clear vE;refine wZ _ _ rfl ?_;intro aI s v bV hv hw;replace hF:=kf.rely hF s;clear s;rcases Ou v with rfl|zbi
 .
  replace hw:fV L.tWg Wg aI 0 0:=by simpa using hw
  refine⟨_,zfO (v:=0) rfl rfl qL rfl H.f_loadU64 (zga L) (zeC L) (zdW L) .u64 (zdU L) rfl hw.cellSt,rfl,λ_=>?_,λh=>absurd rfl h⟩;clear hw;refine bZ.goes (ph:=.w5) trivial 60 ?_
  walk_nrm
  iterate 3 (first|u_c dD kf.rely hF|u_c wE kf.rely hF|u_op kf.rely hF)
  u_leave1 H.f_uLoad kf.rely hF
  iterate 27 (first|u_c dD kf.rely hF|u_c dP kf.rely hF|u_reg kf.rely hF|u_cond true kf.rely hF|u_op kf.rely hF)
  refine qB (λzbr Ht=>?_);replace hF:=kf.rely hF Ht;clear Ht;refine bZ.mark (ph:=.w5) trivial rfl (λeN s=>zau .enable aQ rfl rfl qL rfl H.f_enable (zfG L) (zcQ L) (ze0 L) (zdu L)) trivial (λeN s=>?_);replace hF:=kf.rely hF s;clear s;rw[show nN 1 #[oF .enable]=0 from rfl];refine bZ.goes (ph:=.w5) trivial 30 ?_
  walk_nrm
  iterate 3 (first|u_c dD kf.rely hF|u_reg kf.rely hF|u_op kf.rely hF)
  u_conv H.underlying_tWgP H.room_tWg (WgLive.cell0 hF.2).choose_spec kf.rely hF
  refine qB (λzIf zaB=>?_);replace hF:=kf.rely hF zaB;clear zaB;refine bZ.mk rfl (.inr ⟨rfl,λRe s hD=>?_⟩);replace hF:=kf.rely hF s;clear s;have hX:AtX Re Re:=⟨Re.drawn,rfl⟩;refine⟨_,zcA .acquire aQ rfl rfl qL rfl H.f_acquire (x_acquire_n L) (x_acquire_b L) (x_acquire_x L) (x_acquire_f L) zlm,rfl,?_⟩;refine Mp 30 _ _ ?_
  walk_nrm
  iterate 19 (first|u_c dD xV hX|u_c dP xV hX|u_reg xV hX|u_c pA xV hX|u_cond false xV hX|u_c wE xV hX|u_op xV hX|u_skip xV hX)
  u_leave0 H.f_wait xV hX
  exact qB (λzE3 h=>by obtain⟨zhC,rfl⟩:=xV hX h;exact hT _ hF.1 hF.2 hD zhC)
 .
  obtain⟨S,hS⟩:∃S:Int,(v:Int)*KK=S:=⟨_,rfl⟩;have a1:S/4294967296=(v:Int):=by rw[<-hS];simp only[KK];omega
  have b1:bits .and .u64 S 2147483648=0:=by rw[<-hS];have:=st_flag v 0 aD aD;simpa[KK] using this
  have b2:bits .and .u64 S 2147483647=0:=by rw[<-hS];have:=st_waiters v 0 aD aD;simpa[KK] using this
  have c1:zv7.wrap (v:Int)=(v:Int):=by rw[ztW];omega
  have w1:Rm.wrap (S+1)=S+1:=by rw[zdI,<-hS];simp only[KK];omega
  have q3:decide ((v:Int)<0)=false:=decide_eq_false aD;have q4:decide (0<(v:Int))=true:=decide_eq_true aD;have q5:((v:Int)==0)=false:=rF;have q6:decide ((v:Int)=0)=false:=decide_eq_false aD;rw[hS] at hw;refine⟨_,zfO (v:=S) rfl rfl qL rfl H.f_loadU64 (zga L) (zeC L) (zdW L) .u64 (zdU L) rfl hw.cellSt,rfl,λh0=>absurd h0 aD,λ_=>?_⟩;clear hw;refine bZ.goes (ph:=.w2 v) trivial 60 ?_
  walk_nrm
  iterate 3 (first|u_c dD kf.rely hF|u_c wE kf.rely hF|u_op kf.rely hF)
  u_leave1 H.f_uLoad kf.rely hF
  iterate 22 (first|u_c dD kf.rely hF|u_c dP kf.rely hF|u_reg kf.rely hF|u_op kf.rely hF)
  u_cnd false kf.rely hF
  iterate 9 (first|u_c dP kf.rely hF|u_reg kf.rely hF|u_c pA kf.rely hF|u_op kf.rely hF)
  u_call H.f_uCas (nm_uCas L) uCasFn kf.rely hF
  iterate 11 (first|u_c dD kf.rely hF|u_c dP kf.rely hF|u_reg kf.rely hF|u_op kf.rely hF)
  refine qB (λzgh Sk=>?_);replace hF:=kf.rely hF Sk;clear Sk;refine bZ.mk rfl (.inr ?_);intro eN s v' Ni hw;replace hF:=kf.rely hF s;clear s;refine⟨λe=>?_,λe=>?_⟩
  .
   subst e;have z:Mt.st v' 1=.int .u64 (S+1):=by simp[Mt.st,hS]
   rw[hS] at hw;rw[z];refine⟨_,(stepG_cas_hit (v:=S) (n:=S+1) rfl rfl qL rfl H.f_casU64 (x_casU64_n L) (x_casU64_b L) (x_casU64_x L) .u64 (x_casU64_f L) rfl rfl rfl hw.cellSt (hw.thaw 0)).trans Le,rfl,?_⟩;refine bZ.goes (ph:=.w3) trivial 70 ?_;replace hF:F (eN.setCell (stA Wg) (.int .u64 (S+1)))/\WgLive L.tWg Wg (eN.setCell (stA Wg) (.int .u64 (S+1))):=⟨kf.wg _ _ _ rfl hF.1,⟨_,_,hw.setSt _⟩⟩;clear hw
   walk_nrm
   iterate 3 (first|u_c dD kf.rely hF|u_c wE kf.rely hF|u_op kf.rely hF)
   u_leave1 H.f_uCas kf.rely hF
   iterate 15 (first|u_c dD kf.rely hF|u_c dP kf.rely hF|u_reg kf.rely hF|u_cond true kf.rely hF|u_op kf.rely hF)
   u_conv H.underlying_tPU32 H.room_tU32 (WgLive.cell1 hF.2).choose_spec kf.rely hF
   refine qB (λzLE zqs=>?_);replace hF:=kf.rely hF zqs;clear zqs;refine bZ.mark (ph:=.w3) trivial rfl (λeN s=>zcA .write aQ rfl rfl qL rfl H.f_raceWrite (x_raceWrite_n L) (x_raceWrite_b L) (x_raceWrite_x L) (x_raceWrite_f L) (ad:=⟨Wg,1,none⟩) (by simp[vW])) ⟨rfl,rfl⟩ (λeN s=>?_);replace hF:=kf.rely hF s;clear s;rw[show nN 1 #[oF (.write ⟨Wg,1,none⟩)]=1 from rfl]
   walk_nrm
   refine bZ.goes (ph:=.w3) trivial 70 ?_
   iterate 23 (first|u_c dD kf.rely hF|u_c dP kf.rely hF|u_reg kf.rely hF|u_c pA kf.rely hF|u_cond false kf.rely hF|u_op kf.rely hF|u_skip kf.rely hF)
   refine qB (λzgh Aq=>?_);replace hF:=kf.rely hF Aq;clear Aq;refine bZ.mk rfl (.inr ⟨rfl,λIe s=>?_⟩);replace hF:=kf.rely hF s;clear s;refine⟨λ⟨st,hw⟩=>stepG_semacquire_wait rfl rfl rfl H.f_semacquire (zp7 L) (ztA L) (zvX L) (zrS L) zmN hw.cellSm,λhf=>?_⟩;refine⟨_,(stepG_semacquire (n:=1) rfl rfl qL rfl H.f_semacquire (zp7 L) (ztA L) (zvX L) (zrS L) zmN hf.cellSm qL (hf.thaw 1)).trans Le,rfl,?_⟩;refine bZ.goes (ph:=.w4) trivial 60 ?_;replace hF:F (Ie.setCell (smA Wg) (.int .u32 0))/\WgLive L.tWg Wg (Ie.setCell (smA Wg) (.int .u32 0)):=⟨kf.wg _ _ _ rfl hF.1,⟨_,_,hf.setSm 0⟩⟩;clear hf
   walk_nrm
   iterate 6 (first|u_c dD kf.rely hF|u_c dP kf.rely hF|u_reg kf.rely hF|u_op kf.rely hF)
   u_call H.f_uLoad (zht L) uLoadFn kf.rely hF
   iterate 9 (first|u_c dD kf.rely hF|u_c dP kf.rely hF|u_reg kf.rely hF|u_op kf.rely hF)
   refine qB (λzgh zdZ=>?_);replace hF:=kf.rely hF zdZ;clear zdZ;refine bZ.mk rfl (.inr λRx s hw=>?_);replace hF:=kf.rely hF s;clear s;refine⟨_,zfO (v:=0) rfl rfl qL rfl H.f_loadU64 (zga L) (zeC L) (zdW L) .u64 (zdU L) rfl hw.cellSt,rfl,?_⟩;clear hw;refine bZ.goes (ph:=.w5) trivial 60 ?_
   walk_nrm
   iterate 3 (first|u_c dD kf.rely hF|u_c wE kf.rely hF|u_op kf.rely hF)
   u_leave1 H.f_uLoad kf.rely hF
   iterate 7 (first|u_c dD kf.rely hF|u_c dP kf.rely hF|u_reg kf.rely hF|u_cond true kf.rely hF|u_op kf.rely hF)
   refine qB (λzbr Ht=>?_);replace hF:=kf.rely hF Ht;clear Ht;refine bZ.mark (ph:=.w5) trivial rfl (λeN s=>zau .enable aQ rfl rfl qL rfl H.f_enable (zfG L) (zcQ L) (ze0 L) (zdu L)) trivial (λeN s=>?_);replace hF:=kf.rely hF s;clear s;rw[show nN 1 #[oF .enable]=0 from rfl];refine bZ.goes (ph:=.w5) trivial 30 ?_
   walk_nrm
   iterate 3 (first|u_c dD kf.rely hF|u_reg kf.rely hF|u_op kf.rely hF)
   u_conv H.underlying_tWgP H.room_tWg (WgLive.cell0 hF.2).choose_spec kf.rely hF
   refine qB (λzIf zaB=>?_);replace hF:=kf.rely hF zaB;clear zaB;refine bZ.mk rfl (.inr ⟨rfl,λRe s hD=>?_⟩);replace hF:=kf.rely hF s;clear s;have hX:AtX Re Re:=⟨Re.drawn,rfl⟩;refine⟨_,zcA .acquire aQ rfl rfl qL rfl H.f_acquire (x_acquire_n L) (x_acquire_b L) (x_acquire_x L) (x_acquire_f L) zlm,rfl,?_⟩;refine Mp 30 _ _ ?_
   walk_nrm
   iterate 9 (first|u_c dD xV hX|u_c dP xV hX|u_reg xV hX|u_c pA xV hX|u_cond false xV hX|u_c wE xV hX|u_op xV hX)
   u_leave0 H.f_wait xV hX
   exact qB (λzE3 h=>by obtain⟨zhC,rfl⟩:=xV hX h;exact hT _ hF.1 hF.2 hD zhC)
  .
   refine⟨_,stepG_cas_miss (v:=(v':Int)*KK) (old:=S) (n:=S+1) rfl rfl qL rfl H.f_casU64 (x_casU64_n L) (x_casU64_b L) (x_casU64_x L) .u64 (x_casU64_f L) rfl rfl rfl hw.cellSt (hw.thaw 0) (by rw[<-hS];simp only[KK];omega),rfl,?_⟩;clear hw;refine bZ.goes (ph:=.w1 v) trivial 20 ?_
   walk_nrm
   iterate 3 (first|u_c dD kf.rely hF|u_c wE kf.rely hF|u_op kf.rely hF)
   u_leave1 H.f_uCas kf.rely hF
   iterate 5 (first|u_c dD kf.rely hF|u_c pA kf.rely hF|u_cond false kf.rely hF|u_c zmF kf.rely hF|u_c zh8 kf.rely hF)
   exact qB (λIe Aq=>hC v bV _ _ ⟨_,rfl,aQ,aQ,kf.rely hF Aq⟩)
theorem zGI (H:Vu P L)(kf:Fl L.tWg Wg τ F)(Mp:∀(n:Nat) g w,Goes P true AtRel DC0 Fin n g w->Fin g w)
 (hT:∀w,F w->WgLive L.tWg Wg w->zcF A w->∀d,Fin (G (b₀.at (a₀.put ((ops₀[i₀]?).bind (·.dst)) (.tuple #[])) (.inRegion ops₀ rest₀::k₀)) cs) (w.at d)):
 ∀b g w,AnchWN L F Wg (b₀.at a₀ (.inRegion ops₀ (i₀::rest₀)::k₀)) cs g w->bZ P L.tWg Wg A Fin true (.w1 b) 1 τ g w:=by
 intro b
 induction b using zho with
 |ind b ih=>exact zo0 H kf Mp hT (ok:=λv=>v<b) trivial (λg w hr h=>bZ.mk hr (.inr h)) ih
theorem zbX (H:Vu P L)(pN:A.act l=.wait)(kf:Fl L.tWg Wg τ F)(Mp:∀(n:Nat) g w,Goes P true AtRel DC0 Fin n g w->Fin g w)
 (hT:∀w,F w->WgLive L.tWg Wg w->zcF A w->∀d,Fin (G (b₀.at (a₀.put ((ops₀[i₀]?).bind (·.dst)) (.tuple #[])) (.inRegion ops₀ rest₀::k₀)) cs) (w.at d))
 (w:aE) (hF:F w/\WgLive L.tWg Wg w):bZ P L.tWg Wg A Fin true (.usr l) 0 τ (G ((base L.wait).at ⟨#[.pointer (some ⟨Wg,0,none⟩),aA,aA,aA,aA,aA,aA,aA,aA,aA,aA,aA,aA,aA,aA,aA,aA,aA,aA,aA,aA,aA,aA,aA,aA,aA,aA,aA,aA,aA,aA,aA,aA,aA,aA,aA,aA,aA,aA,aA,aA,aA,aA,aA,aA,aA,aA,aA,aA,aA,aA,aA,aA,aA,aA,aA,aA,aA,aA,aA,aA,aA,aA,aA,aA,aA,aA,aA,aA,aA,aA,aA,aA,aA,aA,aA,aA,aA,aA,aA,aA,aA,aA,aA],[]⟩ [.code (zhs L)]) (b₀.at a₀ (.inRegion ops₀ (i₀::rest₀)::k₀)::cs)) w:=by
 have aX:∀g w,AnchWN L F Wg (b₀.at a₀ (.inRegion ops₀ (i₀::rest₀)::k₀)) cs g w->bZ P L.tWg Wg A Fin true (.usr l) 1 τ g w:=λg w h=>by
  refine zo0 H kf Mp hT (ok:=λ_=>True) (ph:=.usr l) trivial (λg w hr h=>bZ.usr hr ?_) (λv _=>zGI H kf Mp hT v) g w h;unfold l9;rw[pN];exact λaI s v hv hw=>h aI s v trivial hv hw
 lib_facts
 simp only[zhs,waitFn,zC];refine bZ.goes (ph:=.usr l) trivial 3 ?_
 iterate 3 (first|u_c dP kf.rely hF|u_reg kf.rely hF|u_cond true kf.rely hF)
 refine qB (λaI vE=>?_);replace hF:=kf.rely hF vE;clear vE;refine bZ.mark (ph:=.usr l) trivial rfl (λeN s=>zau .disable aQ rfl rfl qL rfl H.f_disable (zlZ L) (zkJ L) (zki L) (zkv L)) trivial (λeN s=>?_);replace hF:=kf.rely hF s;clear s;rw[show nN 0 #[oF .disable]=1 from rfl]
 walk_nrm
 refine bZ.goes (ph:=.usr l) trivial 3 ?_
 iterate 3 (first|u_c dD kf.rely hF|u_c zc3 kf.rely hF|u_c zmT kf.rely hF)
 exact qB (λIe Sk=>aX _ _ ⟨_,rfl,aQ,aQ,kf.rely hF Sk⟩)
end
end Go.Mt
namespace Go.Mt
open Go.Conc Go.Tt
def Hy:Nat->aF->Bool
 |0,_=>false
 |n+1,v=>match v with
  | .bool _| .int _ _| .string _| .nilFunc| .nilIface| .pointer none| .slice none _ _| .map none| .chan none=>true
  | .agg xs| .tuple xs=>xs.all (Hy n)
  |_=>false
variable {S:aN->Prop}
theorem zGp {K R:Pr}:∀(n:Nat) (v:aF),Hy n v=true->VR S K R v v:=by
 intro n
 induction n with
 |zero=>intro v h;cases h
 |succ n ih=>
  intro v h;have arr:∀xs:Array aF,xs.all (Hy n)=true->bK S K R xs xs:=λxs hx=>⟨rfl,λi a b h1 h2=>by
   rw[h1] at h2;obtain rfl:=cD h2;rw[zjf] at hx;exact ih a (hx a (Py h1))⟩
  cases v with
  |bool b=>exact .bool b
  |int k m=>exact .int k m
  |string s=>exact .string s
  |nilFunc=>exact .nilFunc
  |nilIface=>exact .nilIface
  |pointer a=>cases a with|none=>exact .pointer .none|some a=>simp[Hy] at h
  |slice a m c=>cases a with|none=>exact .slice .none|some a=>simp[Hy] at h
  |map a=>cases a with|none=>exact .map .none|some a=>simp[Hy] at h
  |chan a=>cases a with|none=>exact .chan .none|some a=>simp[Hy] at h
  |agg xs=>exact .agg rfl (arr xs (by simpa[Hy] using h)).2
  |tuple xs=>exact .tuple rfl (arr xs (by simpa[Hy] using h)).2
  |_=>simp[Hy] at h
def uF (v:aF):Prop:=∀(S:aN->Prop) (K R:Pr),VR S K R v v
variable {z:aF}
theorem uF.cells (h:uF z):∀x∈z.cells,uF x:=λx hx S K R=>by
 obtain⟨i,hi,rfl⟩:=zod.1 hx;exact(h S K R).cells.2 i _ _ (nA hi) (nA hi)
theorem uF.agg {xs:Array aF}(h:∀x∈xs,uF x):uF (.agg xs):=λS K R=>.agg rfl λi v v' h1 h2=>by
 rw[h1] at h2;obtain rfl:=cD h2;exact h v (Py h1) S K R
def zmP (info:aM->Option wI):Prop:=∀t i z,info t=some i->i.zero=some z->uF z
theorem zJt {α β:Type}{P:β->Prop}{f:α->β->Option (ForInStep β)}(hf:∀a b r,P b->f a b=some r->P (match r with| .yield b=>b| .done b=>b)):∀(l:List α) (b b':β),P b->forIn l b f=some b'->P b':=by
 intro l
 induction l with
 |nil=>intro b b' hb h;simp only[List.forIn_nil,pure,fS] at h;exact h▸hb
 |cons a l ih=>
  intro b b' hb h;simp only[List.forIn_cons,bind,C1] at h;obtain⟨r,h1,h2⟩:=h;have:=hf a b r hb h1
  cases r with
  |yield c=>exact ih c b' this h2
  |done c=>simp only[pure,fS] at h2;exact h2▸this
variable {info:aM->Option wI}{fs:Array Field}{i:wI}
theorem zxV (hI:zmP info)(h:zsC info fs=some i)(hz:i.zero=some z):uF z:=by
 unfold zsC at h;simp only[bind,pure,C1] at h;obtain⟨a,h1,h2⟩:=h;rw[<-Array.forIn_toList] at h1;have key:∀xs,a.2.2.2.2.2.2.2.1=some xs->∀x∈xs,uF x:=by
  refine zJt (P:=λs=>∀xs,s.2.2.2.2.2.2.2.1=some xs->∀x∈xs,uF x) (λf s r hP h=>?_) _ _ _ (λxs hx=>by simp only[fS] at hx;subst hx;simp) h1;simp only[C1] at h;obtain⟨j,hj,h⟩:=h;have key:∀xs,(s.2.2.2.2.2.2.2.1.bind λa=>j.zero.bind λb=>some (a++b.cells))=some xs->∀x∈xs,uF x:=by
   intro xs hx;simp only[C1,fS] at hx;obtain⟨u,h3,v,h4,rfl⟩:=hx;intro x hm;rcases Array.mem_append.1 hm with hm|hm
   .exact hP u h3 x hm
   .exact(hI _ j v hj h4).cells x hm
  repeat' (first|split at h|(simp only[C1] at h;obtain⟨_,h0,h⟩:=h))
  all_goals first
   |(cases h0;done)
   |(simp only[fS] at h;subst h;exact key)
   |(simp only[fS] at h;subst h;intro xs hx;cases hx)
 split at h2<;>(simp only[fS] at h2;subst h2;simp only at hz;obtain⟨xs,h3,rfl⟩:=wM.1 hz;exact uF.agg (key xs h3))
theorem zBd (hI:zmP info){d:TypeDesc}(h:zsb info d=some i)(hz:i.zero=some z):uF z:=by
 have hw:∀(d:TypeDesc) (s:String) (v:aF) (b:Bool) (n:Nat),uF v->∀z,(zrh d s v b n).zero=some z->uF z:=λd s v b n hv z hz=>by
  simp only[zrh,fS] at hz;exact hz▸hv
 have p0:uF (.pointer none):=λ_ _ _=>.pointer .none;have s0:uF (.slice none 0 0):=λ_ _ _=>.slice .none;have m0:uF (.map none):=λ_ _ _=>.map .none;have c0:uF (.chan none):=λ_ _ _=>.chan .none;have f0:uF .nilFunc:=λ_ _ _=>.nilFunc;unfold zsb at h
 cases d with
 |pointer e=>
  simp only[bind,pure,C1] at h;obtain⟨j,_,h⟩:=h;split at h
  .cases h
  .split at h
   .cases h
   .simp only[C1,fS] at h
    obtain⟨_,_,rfl⟩:=h;exact hw _ _ _ _ _ p0 z hz
  .simp only[C1,fS] at h
   obtain⟨_,_,rfl⟩:=h;exact hw _ _ _ _ _ p0 z hz
 |slice e=>
  simp only[bind,pure,C1,fS] at h;obtain⟨_,_,_,_,rfl⟩:=h;exact hw _ _ _ _ _ s0 z hz
 |map k e=>
  simp only[bind,pure,C1,fS] at h;obtain⟨_,_,_,_,_,_,_,_,rfl⟩:=h;exact hw _ _ _ _ _ m0 z hz
 |chan dir e=>
  simp only[bind,pure,C1,fS] at h;obtain⟨_,_,_,_,rfl⟩:=h;exact hw _ _ _ _ _ c0 z hz
 |func ps rs v=>
  simp only[bind,pure,C1,fS] at h;obtain⟨_,_,rfl⟩:=h;exact hw _ _ _ _ _ f0 z hz
 |array n e=>
  simp only[bind,pure,C1,fS] at h;obtain⟨j,hj,_,_,rfl⟩:=h;simp only at hz;split at hz
  .cases hz
  .split at hz
   .simp only[fS] at hz;subst hz;exact uF.agg aQ
   .obtain⟨u,hu,rfl⟩:=wM.1 hz
    refine uF.agg λx hx=>?_;simp only[Array.mem_flatten,Array.mem_replicate] at hx;obtain⟨xs,⟨_,rfl⟩,hx⟩:=hx;exact(hI _ j u hj hu).cells x hx
 |struct fs=>exact zxV hI h hz
 |_=>cases h
def S7 (p:bS):Bool:=(gD p.types.size).all λt=>match p.info? t with|some i=>(match i.zero with|some z=>Hy 12 z|none=>true)|none=>true
def zjz:List ResultVar->Bool
 |[]=>true
 |[_]=>true
 |[_,_]=>true
 |[_,_,_]=>true
 |[_,_,_,_]=>true
 |_=>false
variable {l:List ResultVar}
theorem zE4 (h:zjz l=true):Cs l:=by
 unfold zjz at h;split at h
 .exact .inl rfl
 .exact .inr (.inl ⟨_,rfl⟩)
 .exact .inr (.inr (.inl ⟨_,_,rfl⟩))
 .exact .inr (.inr (.inr (.inl ⟨_,_,_,rfl⟩)))
 .exact .inr (.inr (.inr (.inr ⟨_,_,_,_,rfl⟩)))
 .cases h
def fnFit (p:bS)(fs gs:aN->Bool)(f:aN):Bool:=
 match p.funcs[f]? with
 |some fn=>!(fn.name== "runtime.NumGoroutine")&&zjz fn.results.toList&&(match fn.body with|some c=>oI p ⟨fs,gs,true⟩ c|none=>false)
 |none=>false
variable {p:bS}{f:aN}
theorem fnFit_ok {fs gs:aN->Bool}(h:fnFit p fs gs f=true):∃fn c,p.funcs[f]? =some fn/\(fn.name== "runtime.NumGoroutine")=false/\fn.body=some c/\oI p ⟨fs,gs,true⟩ c=true/\Cs fn.results.toList:=by
 unfold fnFit at h
 cases hf:p.funcs[f]? with
 |none=>rw[hf] at h;cases h
 |some fn=>
  rw[hf] at h;simp only[fN,ze2] at h
  cases hb:fn.body with
  |none=>rw[hb] at h;cases h.2
  |some c=>rw[hb] at h;exact⟨fn,c,rfl,h.1.1,hb,h.2,zE4 h.1.2⟩
variable {t:aM}
theorem zwb (h:S7 p=true)(ht:t<p.types.size)(hi:p.types[t]? =some i)(hz:i.zero=some z):uF z:=by
 unfold S7 at h;rw[tJ] at h;have:=h t (B6.2 ht);have e:p.info? t=some i:=by show zls p.toTables t=some i;unfold zls;rw[if_pos ht];exact hi
 rw[e] at this;simp only[hz] at this;exact λS K R=>zGp 12 z this
theorem zAR (h:S7 p=true):∀n,zmP (zwR p.toTables n):=by
 intro n
 induction n with
 |zero=>intro t i z hi;cases hi
 |succ n ih=>
  intro t i z hi hz;unfold zwR at hi;split at hi
  .next ht=>exact zwb h ht hi hz
  .obtain⟨d,_,hd⟩:=C1.1 hi
   exact zBd ih hd hz
theorem zua (h:S7 p=true){K R:Pr}(hi:p.info? t=some i)(hz:i.zero=some z):VR S K R z z:=by
 have iY:=hi;unfold zls at iY;split at iY
 .next ht=>exact zwb h ht iY hz S K R
 .exact zAR h Made.depth t i z iY hz S K R
def oK (l:List Nat)(f:aN):Bool:=l.contains f
theorem Nu {l:List Nat}(h:oK l f=true):f∈l:=by simpa[oK] using h
theorem zwE {gl fl:List Nat}(hz:S7 p=true)(h:gl.all (fnFit p (oK fl) (oK gl))=true)(hd:fl.all (λf=>gl.contains f)=true):uT (PS p (oK gl)) (oK fl) where
 zero:=λK R t i z hi Fi=>zua hz hi Fi
 fn:=λf hf _=>by
  obtain⟨fn,c,h1,h2,h3,h4,_⟩:=fnFit_ok (tJ.1 h f (Nu hf));exact⟨fn,c,h1,h1,h2,h3,h4⟩
 opq:=λf _ ho=>by cases ho
 low:=λf ho=>by cases ho
 dyn:=λ_ f hf=>tJ.1 hd f (Nu hf)
 guard:=λt=>rfl
 res:=λf hf _ fn wJ=>by
  obtain⟨fn',c,h1,h2,h3,h4,h5⟩:=fnFit_ok (tJ.1 h f (Nu hf));have y6:=h1;rw[y6] at wJ;obtain rfl:=cD wJ;exact h5
 follows:=rfl
 none:=λ_=>rfl
def zeY (p:bS)(fs gs:aN->Bool)(f:aN):Bool:=
 match p.funcs[f]? with
 |some fn=>!(fn.name== "runtime.NumGoroutine")&&(match fn.body with|some c=>!(oI p ⟨fs,gs,true⟩ c)|none=>false)
 |none=>false
theorem lv_of {ol al gl fl:List Nat}(hz:S7 p=true)(h1:gl.all (fnFit p (oK fl) (oK gl))=true)(h2:al.all (λf=>ol.contains f||fnFit p (oK fl) (oK al) f)=true)(h3:ol.all (zeY p (oK fl) (oK gl))=true)(h4:ol.all (zeY p (oK fl) (oK al))=true)(hd:fl.all (λf=>gl.contains f)=true)(Aj:fl.all (λf=>al.contains f)=true):
 Lv p (oK ol) (oK al) (oK gl) (oK fl) where
 fit:={
  zero:=λK R t i z hi Fi=>zua hz hi Fi
  fn:=λf hf ho=>by
   have:=tJ.1 h2 f (Nu hf);have uW:ol.contains f=false:=ho;rw[uW,zwn] at this;obtain⟨fn,c,h1,h2,h3,h4,_⟩:=fnFit_ok this;exact⟨fn,c,h1,h1,h2,h3,h4⟩
  opq:=λf _ ho=>by
   have:=tJ.1 h4 f (Nu ho);unfold zeY at this
   cases hf:p.funcs[f]? with
   |none=>rw[hf] at this;cases this
   |some fn=>
    rw[hf] at this;simp only[fN,ze2] at this
    cases hb:fn.body with
    |none=>rw[hb] at this;cases this.2
    |some c=>exact⟨fn,fn,c,c,rfl,rfl,this.1,this.1,hb,hb⟩
  low:=λf ho=>by cases ho
  dyn:=λ_ f hf=>tJ.1 Aj f (Nu hf)
  guard:=λt=>rfl
  res:=λf hf ho fn wJ=>by
   have:=tJ.1 h2 f (Nu hf);have uW:ol.contains f=false:=ho;rw[uW,zwn] at this;obtain⟨fn',c,h1,h2,h3,h4,h5⟩:=fnFit_ok this;have y6:(PL p (oK ol) (oK al)).c.funcs[f]? =some fn':=h1;rw[y6] at wJ;obtain rfl:=cD wJ;exact h5
  follows:=rfl}
 fit₁:=zwE hz h1 hd
 nofit:=λf ho=>by
  have:=tJ.1 h3 f (Nu ho);unfold zeY at this
  cases hf:p.funcs[f]? with
  |none=>rw[hf] at this;cases this
  |some fn=>
   rw[hf] at this;simp only[fN,ze2] at this
   cases hb:fn.body with
   |none=>rw[hb] at this;cases this.2
   |some c=>rw[hb] at this;exact⟨fn,c,rfl,hb,this.1,by simpa using this.2⟩
end Go.Mt
namespace Go.Mt
open Go.Conc Go.Tt
open Go.ConcR (KK wgBlock WgAt stA smA rd wr DC0)
section
variable {p:bS}
def vR (p:bS):Frame:={(default:dE) with fn:=p.funcs.size,defers:=[],mode:=.panicking [goexitEntry]}
variable {f:aN}{fn:Rb}
theorem zr8 {c:Code}{cap args:Array aF}(hf:p.funcs[f]? =some fn)(hn:(fn.name== "runtime.NumGoroutine")=false)(hb:fn.body=some c)(w:aE):
 stepG p false (born p {target:=.fn (.func f) cap,args:=args}) w=.go (G ((baseD f).at ⟨(args++cap)++nD (fn.ntmps-(args++cap).size) aA,[]⟩ [.code c]) [vR p]) w #[]:=by
 have vB:¬fn.name= "runtime.NumGoroutine" :=by simpa using hn
 simp[born,stepG,unwind,callDeferred,invoke,callFunc,hf,vB,hb,seen,Bo,G,Ed,dE.at,baseD,vR]
theorem zGa (hf:p.funcs[f]? =some fn)(hr:fn.results=#[])(T:Array aF)(todo:List dW):QuitsD p 2 0 (G {(baseD f).at ⟨T,[]⟩ todo with mode:=.returning} [vR p]):=by
 refine zwY (g':=G (vR p) []) rfl (λw=>?_) ?_
 .simp[G,stepG,unwind,doReturn,results,dE.at,baseD,vR,hf,hr,seen,Bo,goexitEntry]
 refine zwY (g':={G (vR p) [] with status:=.finished}) rfl (λw=>?_) ⟨rfl,rfl⟩;simp[G,stepG,unwind,vR,goexitEntry,dE.catches];rfl
end
section
variable [zgD]{Lk:zgt}
open Go.Conc.Lib Go.ConcR.Gen
def Fl.triv (ty:aM)(Wg:Nat)(τ:cE):Fl ty Wg τ (λ_=>True):=⟨λ_ _ _ _=>trivial,λ_ _ _ _ _=>trivial⟩
end
end Go.Mt
namespace Go.Mt
open Go.Conc Go.Tt
open Go.ConcR (KK wgBlock WgAt stA smA rd wr)
section
variable {S:aN->Prop}{K K' R R':Pr}{G:Gp}{St St':Nat->Prop}{w W:aE}
def Pr.or_le {K K' R R':Pr}(hK:K.le K')(hR:R.le R'):(R.or K).le (R'.or K'):=λa b x=>x.imp (hR a b) (hK a b)
theorem zmY (hK:K.le K'){v v':aF}(x:VR S K R v v'):VR S K' R v v':=by
 induction x with
 |bool b=>exact .bool b
 |int k n=>exact .int k n
 |string s=>exact .string s
 |nilFunc=>exact .nilFunc
 |nilIface=>exact .nilIface
 |pointer x=>exact .pointer x
 |slice x=>exact .slice x
 |map x=>exact .map x
 |chan x=>exact .chan (x.mono (Pr.or_le hK (.refl _)))
 |func s e1 _ e2 _ i1 i2=>exact .func s e1 i1 e2 i2
 |iface _ ih=>exact .iface ih
 |agg e _ ih=>exact .agg e ih
 |tuple e _ ih=>exact .tuple e ih
 |junk h=>exact .junk h
def bK.monoK (hK:K.le K'){xs bX:Array aF}(x:bK S K R xs bX):bK S K' R xs bX:=⟨x.1,λi v v' h1 h2=>zmY hK (x.2 i v v' h1 h2)⟩
theorem Az.monoK (hK:K.le K'){e e':MapEntry}(x:Az S K R e e'):Az S K' R e e':=by cases x with|mk a b=>exact .mk (zmY hK a) (zmY hK b)
variable {o:Obj}
theorem oA.monoK (hK:K.le K'){o':Obj}(x:oA S K R o o'):oA S K' R o o':=by
 cases x with
 |cells a b=>exact .cells (bK.monoK hK a) b
 |map a=>exact .map ⟨a.1,λi e e' h1 h2=>Az.monoK hK (a.2 i e e' h1 h2)⟩
 |chan a=>exact .chan (bK.monoK hK a)
 |stringIter s p=>exact .stringIter s p
 |number a=>exact .number a
 |mapIter a=>exact .mapIter a
variable {P:dI}
def oV.monoK {fs:aN->Bool}(hK:K.le K'){m m':Fm}(x:oV P fs K R m m'):oV P fs K' R m m':=⟨x.fn,x.todo,x.ret,bK.monoK hK x.tmps,x.fit,x.infs⟩
theorem uD.monoK {fs:aN->Bool}(hK:K.le K'){ms ms':List Fm}(x:uD P fs K R ms ms'):uD P fs K' R ms ms':=by
 induction x with
 |nil=>exact .nil
 |cons a b _ ih=>exact .cons (oV.monoK hK a) b ih
theorem cT.real {W':aE}(h:cT S K R G St w W)(hk:∀a b,R a b->W'.heap[b]? =W.heap[b]?)(hs:W.heap.size<=W'.heap.size):cT S K R G St w W':=by
 refine⟨h.inj,h.inj',λa b x=>⟨(h.lt a b x).1,lA (h.lt a b x).2 hs⟩,h.low,⟨h.gle.1,eP h.gle.2 hs⟩,λa b x=>?_,h.rest,h.st,h.np,h.tb⟩;obtain⟨o,o',h1,h2,h3⟩:=h.cont a b x;exact⟨o,o',h1,(hk a b x).trans h2,h3⟩
def put (w:aE)(b:Nat)(o:Obj):World:={w with heap:=w.heap.setIfInBounds b o}
theorem D3 (w:aE)(o:Obj):(w.alloc o).heap[w.heap.size]? =some o:=by unfold zg0;simp
theorem Dm {w:aE}{a:Nat}(h:a<w.heap.size):(w.alloc o).heap[a]? =w.heap[a]? :=by unfold zg0;simp[Array.getElem?_push,zuN h]
theorem qS (w:aE)(o:Obj):(w.alloc o).heap.size=w.heap.size+1:=by unfold zg0;simp
theorem cT.pushK (h:cT S K R G St w W){N:Nat}(hN:N<W.heap.size)(hf:∀a,¬(R.or K) a N):cT S (K.add w.heap.size N) R G St (w.alloc oM) W:=by
 have aP:∀a b,R.or K a b->a≠w.heap.size:=λa b x=>zuN (h.lt a b x).1;have lift:∀a,(∃b,R.or K a b)->(w.alloc oM).heap[a]? =w.heap[a]? :=λa ⟨b,x⟩=>Dm (h.lt a b x).1;refine⟨?_,?_,?_,h.low,⟨by rw[qS];exact Nat.le_succ_of_le h.gle.1,h.gle.2⟩,λa b x=>?_,?_,λa x=>?_,h.np.push (by unfold oM;simp),h.tb⟩
 .rintro a b c (x|x|⟨rfl,rfl⟩) (y|y|⟨e,rfl⟩)
  .exact h.inj a b c (.inl x) (.inl y)
  .exact h.inj a b c (.inl x) (.inr y)
  .exact absurd e (aP a b (.inl x))
  .exact h.inj a b c (.inr x) (.inl y)
  .exact h.inj a b c (.inr x) (.inr y)
  .exact absurd e (aP a b (.inr x))
  .exact absurd rfl (aP _ c (.inl y))
  .exact absurd rfl (aP _ c (.inr y))
  .rfl
 .rintro a b c (x|x|⟨rfl,rfl⟩) (y|y|⟨rfl,e⟩)
  .exact h.inj' a b c (.inl x) (.inl y)
  .exact h.inj' a b c (.inl x) (.inr y)
  .exact absurd (e▸ .inl x) (hf a)
  .exact h.inj' a b c (.inr x) (.inl y)
  .exact h.inj' a b c (.inr x) (.inr y)
  .exact absurd (e▸ .inr x) (hf a)
  .exact absurd (.inl y) (hf b)
  .exact absurd (.inr y) (hf b)
  .rfl
 .rintro a b (x|x|⟨rfl,rfl⟩)
  .exact⟨by rw[qS];exact ztQ (h.lt a b (.inl x)).1,(h.lt a b (.inl x)).2⟩
  .exact⟨by rw[qS];exact ztQ (h.lt a b (.inr x)).1,(h.lt a b (.inr x)).2⟩
  .exact⟨by rw[qS];omega,hN⟩
 .obtain⟨o,o',h1,h2,h3⟩:=h.cont a b x
  exact⟨o,o',(lift a ⟨b,.inl x⟩).trans h1,h2,oA.monoK (Pr.le_add _ _ _) h3⟩
 .rintro a b (x|⟨rfl,rfl⟩) hn
  .exact(lift a ⟨b,.inr x⟩).trans (h.rest a b x hn)
  .exact D3 w oM
 .obtain⟨⟨b,y⟩,c,T,hi,h1,h2⟩:=h.st a x
  exact⟨⟨b,y⟩,c,T,hi,(lift a ⟨b,.inl y⟩).trans h1,h2⟩
end
structure IM (W0:aE)(St:Nat->Prop)(Shun:Loc->Prop)(Wg:Nat)(SS:Nat->Prop)(R:Pr)(τ:cE)(W:aE):Prop where
 kp:Kp W0 R St W
 sh:Sh W0.heap.size Shun R W
 still:τ.still=SS
 wg:Wg<W.heap.size
 own:∀b,τ.own b->b≠Wg
 rel:∀a b,R a b->b≠Wg
section
variable {L:Type}{C:Cx L}{W0:aE}{St:Nat->Prop}{Shun:Loc->Prop}{SS:Nat->Prop}
theorem zuu (hC:C.I=IM W0 St Shun C.Wg SS)(aX:∀a,St a->C.St a)(vC:∀b,b<W0.heap.size->SS b):fB C:=by
 refine⟨λR τ W aV h s=>?_,λR τ W R1 W1 h ht hs=>?_⟩<;>rw[hC] at*
 .refine⟨⟨s.os.trans h.kp.os,s.tape.trans h.kp.tape,s.output.trans h.kp.output,eP h.kp.size s.size,λb hb=>(s.keep b (.inr (by rw[h.still];exact vC b hb))).trans (h.kp.block b hb),h.kp.old⟩,⟨h.sh.old,h.sh.rel,λl b hl hb=>h.sh.new l b hl (eP s.size hb)⟩,h.still,lA h.wg s.size,h.own,h.rel⟩
 .refine⟨⟨hs.os.trans h.kp.os,hs.tape.trans h.kp.tape,hs.output.trans h.kp.output,eP h.kp.size hs.size,λb hb=>?_,λa b x hb=>?_⟩,⟨h.sh.old,λa b x l hl=>?_,λl b hl hb=>h.sh.new l b hl (eP hs.size hb)⟩,h.still,lA h.wg hs.size,λb hb=>?_,λa b x=>?_⟩
  .rw[hs.keep b (lA hb h.kp.size) (λa x=>aX a (h.kp.old a b x hb))]
   exact h.kp.block b hb
  .rcases hs.new a b x with y|⟨y,_⟩
   .exact h.kp.old a b y hb
   .have:=h.kp.size;omega
  .rcases hs.new a b x with y|⟨y,_⟩
   .exact h.sh.rel a b y l hl
   .exact h.sh.new l b hl y
  .rcases hb with hb|⟨hb,_⟩
   .exact h.own b hb
   .have:=h.wg;omega
  .rcases hs.new a b x with y|⟨y,_⟩
   .exact h.rel a b y
   .have:=h.wg;omega
def zbR (W:aE)(a:Addr)(v:aF){b:Nat}(h:b≠a.block):(W.setCell a v).heap[b]? =W.heap[b]? :=(U7 W a v).block b h
def Hc (W:aE)(a:Addr)(v:aF):(W.setCell a v).heap.size=W.heap.size:=(U7 W a v).size
theorem IM.cell {R:Pr}{τ:cE}{W:aE}{Wg:Nat}(h:IM W0 St Shun Wg SS R τ W)(hW:W0.heap.size<=Wg){a:Addr}(ha:a.block=Wg)(v:aF):IM W0 St Shun Wg SS R τ (W.setCell a v):=by
 have hA:=U7 W a v;refine⟨⟨hA.os.trans h.kp.os,hA.tape.trans h.kp.tape,hA.output.trans h.kp.output,by rw[Hc];exact h.kp.size,λb hb=>(zbR W a v aD).trans (h.kp.block b hb),h.kp.old⟩,⟨h.sh.old,h.sh.rel,λl b hl hb=>h.sh.new l b hl (by rw[Hc] at hb;exact hb)⟩,h.still,by rw[Hc];exact h.wg,h.own,h.rel⟩
end
end Go.Mt
namespace Go.Mt
open Go.Conc Go.Tt
open Go.ConcR (KK wgBlock WgAt stA smA rd wr DC0)
section
variable {L:Type}{C:Cx L}{l:L}
variable {fn:aN}{tmps:Array aF}{k:List dW}{w:aE}{ops:Array aY}
theorem BO.regs (hI:fB C){id:Nat}(is:List Nat)(hr:gD ops.size=is)(h:BO C l ⟨fn,tmps,.inRegion ops is::k,false⟩ w):BO C l ⟨fn,tmps,.code (.region id ops false)::k,false⟩ w:=BO.reg hI (by rw[hr];exact h)
def Cx.dfr (C:Cx L)(d:Eo):Cx L:={C with ds:=⟨d::C.ds.ds,C.ds.kd,C.ds.ok⟩}
def fB.dfr (hI:fB C)(d:Eo):fB (C.dfr d):=⟨hI.suf,hI.step⟩
variable {p:bS}{i:Nat}{rest:List Nat}{o:aY}{d:Eo}
theorem zHH {main:Bool}{b:dE}{a:tE}{cs:List dE}(ho:ops[i]? =some o)(hw:dA o (dN ops a.tmps)=true)(hk:b.kind≠ .early)(zj2:o.dst=none)
 (hr:(aO a.eval o).run p w=.ok (.defer d) w) (he:(aO a.eval o).events p w #[]=#[]):
 stepG p main (G (b.at a (.inRegion ops (i::rest)::k)) cs) w=.go (G (b.at ⟨a.tmps,d::a.defers⟩ (.inRegion ops rest::k)) cs) w #[]:=by
 have yS:(b.at ⟨a.tmps,d::a.defers⟩ (.inRegion ops (i::rest)::k)).finish aA=b.at ⟨a.tmps,d::a.defers⟩ (.inRegion ops rest::k):=by rw[znu,ho];simp[zj2,b7]
 have cN:(b.kind==CallKind.early)=false:=by simpa using hk
 rw[stepG_oper ho hw,<-yS];simp[stepG.apply,hr,he,G,dE.at,cN,Bo,Bm]
theorem BO.defer (hI:fB C)(ho:ops[i]? =some o)(cC:dA o (dN ops tmps)=true)(zj2:o.dst=none)
 (hx:∀R w W bQ,C.Rel R w W->bK (SF C.fs) C.K R tmps bQ->(∀x∈C.pin,bQ.getD x.1 aA=x.2)->∀aV,(aO (bH bQ C.ds.ds).eval o).run C.p aV=.ok (.defer d) aV/\(aO (bH bQ C.ds.ds).eval o).events C.p aV #[]=#[])
 (h:BO (C.dfr d) l ⟨fn,tmps,.inRegion ops rest::k,false⟩ w):BO C l ⟨fn,tmps,.inRegion ops (i::rest)::k,false⟩ w:=by
 intro R W m' τ hw hm ht hi;obtain⟨fn',bQ,yJ,x3⟩:=m';obtain rfl:=hm.fn;obtain rfl:=hm.todo;obtain rfl:=hm.ret;rw[mE];refine Cx.silent rfl rfl (g':=G ((C.ds.base fn).at ⟨bQ,d::C.ds.ds⟩ (.inRegion ops rest::k)) C.base) (λaV s=>?_) λaV s=>?_
 .obtain⟨h1,h2⟩:=hx R w W bQ hw hm.tmps hm.pins aV
  exact zHH ho (Hd (C:=C) hm.tmps cC) C.ds.ok zj2 h1 h2
 .have:=h R aV ⟨fn,bQ,.inRegion ops rest::k,false⟩ τ (Cx.Rel.suf (C:=C) hw ht s) ⟨rfl,rfl,rfl,hm.tmps,hm.pins⟩ ht (hI.suf _ _ _ _ hi s)
  rw[mE] at this;exact this
variable {ρ:cM->aF}
theorem zpv {f:aN}{zs6:Array cM}{j8:Array aM}(hop:o.op=.defer {callee:=.value (.func f),args:=zs6,argTypes:=j8})(hρ:ρ (.func f)=.func (.func f) #[] #[])(w:aE):
 (aO ρ o).run p w=.ok (.defer (dcall f (zs6.map ρ))) w/\(aO ρ o).events p w #[]=#[]:=by
 obtain⟨dst,yF,type,pos,after,guard⟩:=o;simp only at hop;subst hop;constructor
 .simp[aO,resolve,Bg,hρ,dcall,bind,xF,pure,bD]
 .simp[aO,resolve,Bg,hρ,dcall,bind,xF,pure,bD,vV,yV]
variable {Post:aF->aE->Prop}
theorem zys {Shun:Loc->Prop}:∀(n:Nat) (g:bC) (w:aE),Goes p true AtRel DC0 (λg w=>J p Post Shun w.heap.size g w) n g w->J p Post Shun w.heap.size g w:=by
 intro n
 induction n with
 |zero=>exact λg w h=>by have:=h w ⟨w.drawn,rfl⟩;exact this
 |succ n ih=>
  intro g w h;rcases h with h|⟨hs,h⟩
  .have:=h w ⟨w.drawn,rfl⟩;exact this
  .refine J.own hs λd=>?_
   obtain⟨zbH,w',es,hgo,⟨e1,e2⟩,hg⟩:=zhY (h (w.at d) ⟨d,rfl⟩);subst e1 e2;exact⟨zbH,_,#[],_,hgo,λe he=>by simp at he,aZ _,ih _ _ hg⟩
theorem zaj {t:aM}{x:cM}{a:Addr}{v:aF}(hop:o.op=.load t x)(hx:ρ x=.pointer (some a))(zxM:(isAgg t).run p w=.ok false w)(hc:w.cell? a=some v):(aO ρ o).run p w=.ok (.value v) w:=by
 obtain⟨dst,yF,type,pos,after,guard⟩:=o;simp only at hop;subst hop;simp[aO,Instr.loadAt,hx,go_sem,loadVar,zxM,hc]
end
variable {p:bS}{s:Sem aF}{w':aE}{v:aF}
theorem run_bv {w:aE}(h:s.run p w=.ok v w'):bD p (xF s (λv=>Sem.pure (Next.value v))) w=.ok (.value v) w':=by rw[q9,h];rfl
theorem ev_bv {w:aE}{es eV:Array oE}(h:s.run p w=.ok v w')(he:s.events p w es=eV):vV p (xF s (λv=>Sem.pure (Next.value v))) w es=eV:=by rw[Qk,h,S3,he];rfl
section
variable {p:bS}{Post:aF->aE->Prop}{Shun:Loc->Prop}
variable {B:Nat}
theorem J.sil {g g':bC}{w:aE}(hg:g.status=.running)(aX:∀w,stepG p true g w=.go g' w #[])(h:∀d,J p Post Shun B g' (w.at d)):∀d,J p Post Shun B g (w.at d):=λd=>
 J.own hg λd'=>⟨g',w.at d',#[],B,aX _,λe he=>by simp at he,aZ _,h d'⟩
def J.opq {b:dE}{a:tE}{ops:Array aY}{i:Nat}{rest:List Nat}{k:List dW}{cs:List dE}{w w':aE}{o:aY}{v:aF}(ho:ops[i]? =some o)(hw:dA o (dN ops a.tmps)=true)(hk:b.kind≠ .early)
 (hr:∀d,(aO a.eval o).run p (w.at d)=.ok (.value v) (w'.at d)) (he:∀d,∀e∈(aO a.eval o).events p (w.at d) #[],False)
 (h:∀d,J p Post Shun B (G (b.at (a.put o.dst v) (.inRegion ops rest::k)) cs) (w'.at d)):∀d,J p Post Shun B (G (b.at a (.inRegion ops (i::rest)::k)) cs) (w.at d):=λd=>
 J.own rfl λd'=>⟨_,w'.at d',wK p b.fn a o (w.at d'),B,stepG_value ho hw hk (hr d'),λe hx=>(he d' e (zaH hx)).elim,aZ _,h d'⟩
end
end Go.Mt
namespace Go.Mt
open Go.Conc Go.Tt
structure Blk where
 rb:Nat
 off:Nat
 cs:Array aF
 T:aM
 fz:Nat×Nat
def Lx (v:aF):Prop:=(∃k n,v=.int k n)\/(∃s,v=.string s)\/∃b,v=.bool b
inductive vH:aF->Prop
 |bool (b:Bool):vH (.bool b)
 |int (k:IntKind) (n:Int):vH (.int k n)
 |string (s:ByteArray):vH (.string s)
 |nilFunc:vH .nilFunc
 |nilIface:vH .nilIface
 |agg {xs:Array aF}:(∀(i:Nat) (v:aF),xs[i]? =some v->vH v)->vH (.agg xs)
 |tuple {xs:Array aF}:(∀(i:Nat) (v:aF),xs[i]? =some v->vH v)->vH (.tuple xs)
def thaw (w:aE):Option Blk->aE
 |none=>w
 |some b=>put w b.rb (.cells b.cs b.T b.fz)
section
variable {S:aN->Prop}{K R:Pr}{G:Gp}{St:Nat->Prop}{w W W4:aE}{A:Option Addr}{src:Option Blk}
abbrev P0:Pr:=λ_ _=>False
def stC (w:aE)(a:Nat):Prop:=a=w.heap.size+1\/a=w.heap.size+2\/a=w.heap.size+3
end
section
variable {L:Type}{C:Cx L}{W0:aE}{St:Nat->Prop}{Shun:Loc->Prop}{SS:Nat->Prop}
structure IMX (W0:aE)(St:Nat->Prop)(Shun:Loc->Prop)(Wg:Nat)(SS:Nat->Prop)(R0:Pr)(Fz:Nat->Prop)(Wf:aE)(R:Pr)(τ:cE)(W:aE):Prop where
 im:IM W0 St Shun Wg SS R τ W
 le:R0.le R
 fz:∀b,Fz b->b<W.heap.size/\W.heap[b]? =Wf.heap[b]? /\¬τ.own b/\b≠Wg
structure IX (ty:aM)(Wg:Nat)(I:Pr->cE->aE->Prop):Prop where
 suf:∀R τ W aV,I R τ W->bT ty Wg τ W aV->I R τ aV
 cell:∀R τ W a v,I R τ W->a.block=Wg->I R τ (W.setCell a v)
 at_:∀R τ W d,I R τ W->I R τ (W.at d)
 rel:∀R τ W,I R τ W->∀a b,R a b->b≠Wg
def yK (ty:aM)(Wg:Nat)(I:Pr->cE->aE->Prop):Pr->cE->aE->Prop:=λR τ W=>I R τ W/\WgLive ty Wg W
variable {R0:Pr}
theorem zvd {ty:aM}{W0:aE}{St:Nat->Prop}{Shun:Loc->Prop}{Wg:Nat}{SS:Nat->Prop}{Fz:Nat->Prop}{Wf:aE}(vC:∀b,b<W0.heap.size->SS b)(hF:∀b,Fz b->SS b)(nL:W0.heap.size<=Wg):IX ty Wg (IMX W0 St Shun Wg SS R0 Fz Wf):=by
 refine⟨λR τ W aV h s=>?_,λR τ W a v h ha=>?_,λR τ W d h=>?_,λR τ W h=>h.im.rel⟩
 .have h0:fB (L:=Unit) ⟨default,λ_=>false,λ_=>false,ty,Wg,⟨λ_=>.wait,λ_ _=>True,λ_=>false,λ_=>True,λ_ _=>True,λ_ _=>[]⟩,λ_ _=>True,true,[],.nil,λ_ _=>False,λ_=>True,IM W0 St Shun Wg SS,[],none,λ_ h=>by cases h⟩:=zuu rfl (λ_ _=>trivial) vC
  refine⟨h0.suf R τ W aV h.im s,h.le,λb hb=>?_⟩;obtain⟨f1,f2,f3,f4⟩:=h.fz b hb;exact⟨lA f1 s.size,(s.keep b (.inr (by rw[h.im.still];exact hF b hb))).trans f2,f3,f4⟩
 .refine⟨IM.cell h.im nL ha v,h.le,λb hb=>?_⟩
  obtain⟨f1,f2,f3,f4⟩:=h.fz b hb;exact⟨by rw[Hc];exact f1,(zbR W a v (by rw[ha];exact f4)).trans f2,f3,f4⟩
 .exact⟨⟨⟨h.im.kp.os,h.im.kp.tape,h.im.kp.output,h.im.kp.size,h.im.kp.block,h.im.kp.old⟩,⟨h.im.sh.old,h.im.sh.rel,h.im.sh.new⟩,h.im.still,h.im.wg,h.im.own,h.im.rel⟩,h.le,h.fz⟩
theorem imx_ok {Fz:Nat->Prop}{Wf:aE}(hC:C.I=yK C.ty C.Wg (IMX W0 St Shun C.Wg SS R0 Fz Wf))(aX:∀a,St a->C.St a)(vC:∀b,b<W0.heap.size->SS b)(hF:∀b,Fz b->SS b)(nL:W0.heap.size<=C.Wg):fB C:=by
 have h0:=zuu (C:={C with I:=IM W0 St Shun C.Wg SS}) rfl aX vC;have hx:=zvd (ty:=C.ty) (St:=St) (Shun:=Shun) (R0:=R0) (Wf:=Wf) vC hF nL;refine⟨λR τ W aV h s=>?_,λR τ W R1 W1 h ht hs=>?_⟩<;>rw[hC] at*
 .exact⟨hx.suf R τ W aV h.1 s,s.live h.2⟩
 .refine⟨⟨h0.step R τ W R1 W1 h.1.im ht hs,h.1.le.trans hs.le,λb hb=>?_⟩,?_⟩
  .obtain⟨f1,f2,f3,f4⟩:=h.1.fz b hb
   refine⟨lA f1 hs.size,(hs.keep b f1 λa x=>zD λz=>f3 ((ht a _ x).2 z)).trans f2,λe=>e.elim f3 λx=>?_,f4⟩;omega
  .obtain⟨a,b,hl⟩:=h.2
   exact⟨a,b,(hs.keep C.Wg h.1.im.wg λa x=>zD λz=>h.1.im.own _ ((ht a _ x).2 z) rfl).trans hl⟩
end
section
variable {p:bS}{op gs gs₁ fs:aN->Bool}{St:Nat->Prop}{W0:aE}{Post:aF->aE->Prop}
theorem JO.callN (L:Lv p op gs gs₁ fs){m:Fm}{ms:List Fm}{w:aE}{ops:Array aY}{i:Nat}{rest:List Nat}{k:List dW}{o:aY}{f:aN}{args:Array cM}{j8:Array aM}{fn:Rb}{c:Code}(hr:m.ret=false)(pR:m.todo=.inRegion ops (i::rest)::k)
 (ho:ops[i]? =some o) (cC:dA o (dN ops m.tmps)=true) (hop:o.op=.call ⟨.value (.func f),args,j8⟩) (Ci:op f=false) (hf:p.funcs[f]? =some fn) (hn:(fn.name== "runtime.NumGoroutine")=false) (hb:fn.body=some c)
 (hJ:JL p op gs fs St W0 Post ⟨f,args.map m.eval++nD (fn.ntmps-(args.map m.eval).size) aA,[.code c],false⟩ (m::ms) w):JL p op gs fs St W0 Post m ms w:=by
 have Aw:qM p f (args.map m.eval)=⟨f,args.map m.eval++nD (fn.ntmps-(args.map m.eval).size) aA,[.code c],false⟩:=by simp[qM,hf,hb]
 rw[<-Aw] at hJ;refine JO.one L.fit rfl (λe=>by rw[hr] at e;cases e) (λT=>((qM p f (args.map m.eval),m::ms),Tt.tp w T 0)) (λT=>?_) (λT K R y Ln=>?_) (λT=>hJ.tape T 0)
 .show(eU p m ms).run p _=_
  simp only[eU,hr,iU,if_false,rN,pR,ho,zP,zC,cC,if_true];refine(q9 p _ _ _).trans ?_;rw[(zct hop (λg=>rfl) hf hn hb (Tt.tp w T 0)).1];simp only[uC,qF,hf,hb,kE,bD,Aw]
 .obtain⟨f',xs,bX,c,c',rest,Iz,h1,h2,h3,h4,_⟩:=Ln.ex
  simp only[o7] at h4;have h5:=congrArg Fm.fn h4.1;rw[Io,Io] at h5;have h6:op f'=true:=h1;rw[<-h5,Ci] at h6;cases h6
end
theorem zpB {S:aN->Prop}:∀(n:Nat) (v:aF),Lj v<n->∃u,vH u/\(∀K R,VR S K R u v)/\(Lx v->u=v):=by
 intro n
 induction n with
 |zero=>intro v h;omega
 |succ n ih=>
  intro v hv;have hj:∀{v:aF},HidV v->(∀k m,v≠ .int k m)->(∀s,v≠ .string s)->(∀b,v≠ .bool b)->∃u,vH u/\(∀K R,VR S K R u v)/\(Lx v->u=v):=λh h1 h2 h3=>
   ⟨.nilFunc,.nilFunc,λK R=>.junk h,λx=>by
    rcases x with⟨k,m,e⟩|⟨s,e⟩|⟨b,e⟩
    .exact absurd e (h1 _ _)
    .exact absurd e (h2 _)
    .exact absurd e (h3 _)⟩
  have rows:∀xs:Array aF,Lj xs<n->∃us:Array aF,us.size=xs.size/\(∀(i:Nat) (u:aF),us[i]? =some u->vH u)/\∀K R,∀(i:Nat) (u v:aF),us[i]? =some u->xs[i]? =some v->VR S K R u v:=λxs hx=>by
   have hex:∀x,∃u,x∈xs->vH u/\∀K R,VR S K R u x:=λx=>by
    by_cases hm:x∈xs
    .obtain⟨u,h1,h2,_⟩:=ih x (Nat.lt_trans (Array.sizeOf_lt_of_mem hm) hx)
     exact⟨u,λ_=>⟨h1,h2⟩⟩
    .exact⟨x,λh=>absurd h hm⟩
   refine⟨xs.map λx=>(hex x).choose,aQ,λi u h1=>?_,λK R i u v h1 h2=>?_⟩
   .rw[xP] at h1
    cases h2:xs[i]? with
    |none=>rw[h2] at h1;cases h1
    |some v=>
     rw[h2] at h1;simp only[zP,fS] at h1;subst h1;exact((hex v).choose_spec (Py h2)).1
   .rw[xP,h2] at h1
    simp only[zP,fS] at h1;subst h1;exact((hex v).choose_spec (Py h2)).2 K R
  cases v with
  |bool b=>exact⟨_,.bool b,λK R=>.bool b,λ_=>rfl⟩
  |int k m=>exact⟨_,.int k m,λK R=>.int k m,λ_=>rfl⟩
  |string s=>exact⟨_,.string s,λK R=>.string s,λ_=>rfl⟩
  |nilIface=>exact⟨_,.nilIface,λK R=>.nilIface,λ_=>rfl⟩
  |agg xs=>
   obtain⟨us,h1,h3,h2⟩:=rows xs (by simp at hv;omega);exact⟨.agg us,.agg h3,λK R=>.agg h1 (h2 K R),λx=>by rcases x with⟨_,_,e⟩|⟨_,e⟩|⟨_,e⟩<;>cases e⟩
  |tuple xs=>
   obtain⟨us,h1,h3,h2⟩:=rows xs (by simp at hv;omega);exact⟨.tuple us,.tuple h3,λK R=>.tuple h1 (h2 K R),λx=>by rcases x with⟨_,_,e⟩|⟨_,e⟩|⟨_,e⟩<;>cases e⟩
  |_=>exact hj Yi (λ_ _ h=>by cases h) (λ_ h=>by cases h) (λ_ h=>by cases h)
def gv (S:aN->Prop)(v:aF):Value:=(zpB (S:=S) (Lj v+1) v (wL _)).choose
def zfy (S:aN->Prop)(v:aF):vH (gv S v)/\(∀K R,VR S K R (gv S v) v)/\(Lx v->gv S v=v):=(zpB (S:=S) (Lj v+1) v (wL _)).choose_spec
def gObj (S:aN->Prop):Obj->Obj
 | .cells c T fz=>.cells (c.map (gv S)) T (0,max c.size fz.2)
 |_=>oM
def Bp (S:aN->Prop)(X:Nat->Bool)(W:aE):World:={W with heap:=W.heap.mapIdx λi o=>if X i=true then gObj S o else oM}
def R0 (X:Nat->Bool):Pr:=λa b=>a=b/\X a=true
def St0 (X:Nat->Bool):Nat->Prop:=λa=>X a=true
section
variable {S:aN->Prop}{X:Nat->Bool}{W:aE}
theorem zfv:(Bp S X W).heap.size=W.heap.size:=by simp[Bp]
theorem Z6 {b:Nat}{c:Array aF}{T:aM}{fz:Nat×Nat}(hb:W.heap[b]? =some (.cells c T fz))(hx:X b=true):(Bp S X W).heap[b]? =some (.cells (c.map (gv S)) T (0,max c.size fz.2)):=by
 simp[Bp,L6,hb,hx,gObj]
theorem zCU:Bx (Bp S X W):=by
 intro b c e h;simp only[Bp,L6,wM] at h;obtain⟨o,_,h⟩:=h;split at h
 .cases o<;>simp[gObj,oM] at h
 .simp[oM] at h
theorem zBe {G:Gp}(hX:∀b,X b=true->∃c T fz,W.heap[b]? =some (.cells c T fz))(hT:∀g,G.tab g=true->X g=true)(hG:G.n<=W.heap.size):cT S P0 (R0 X) G (St0 X) (Bp S X W) W:=by
 refine⟨?_,?_,?_,?_,⟨by rw[zfv];exact hG,hG⟩,?_,λa b x=>x.elim,?_,zCU,λg hg=>⟨rfl,hT g hg⟩⟩
 .rintro a b c (⟨rfl,_⟩|x) (⟨h1,_⟩|y)
  .exact h1
  .exact y.elim
  .exact x.elim
  .exact x.elim
 .rintro a b c (⟨rfl,_⟩|x) (⟨h1,_⟩|y)
  .exact h1.symm
  .exact y.elim
  .exact x.elim
  .exact x.elim
 .rintro a b (⟨rfl,h⟩|x)
  .obtain⟨c,T,fz,h1⟩:=hX a h
   have:=(dM.1 h1).1;exact⟨by rw[zfv];exact this,this⟩
  .exact x.elim
 .rintro a b ⟨rfl,_⟩
  exact⟨Iff.rfl,λ_=>rfl⟩
 .rintro a b ⟨rfl,h⟩
  obtain⟨c,T,fz,h1⟩:=hX a h;refine⟨_,_,Z6 h1 h,h1,.cells ⟨aQ,λi u v h2 h3=>?_⟩ λo ho=>?_⟩
  .rw[xP,h3] at h2
   simp only[zP,fS] at h2;subst h2;exact(zfy S v).2.1 _ _
  .unfold Ja at ho⊢
   simp only;omega
 .intro a h
  obtain⟨c,T,fz,h1⟩:=hX a h;exact⟨⟨a,rfl,h⟩,_,T,_,Z6 h1 h,by rw[Array.size_map];exact Nat.le_max_left ..⟩
theorem zGd {b o:Nat}{v:aF}(hX:∀b,X b=true->∃c T fz,W.heap[b]? =some (.cells c T fz))(hx:X b=true)(hv:W.cell? ⟨b,o,none⟩=some v)(hp:Lx v):(Bp S X W).cell? ⟨b,o,none⟩=some v:=by
 obtain⟨c,T,fz,h1⟩:=hX b hx;have h2:c[o]? =some v:=by
  have:W.cell? ⟨b,o,none⟩=c[o]? :=by simp[kY,h1]
  rw[<-this];exact hv
 have h3:(Bp S X W).cell? ⟨b,o,none⟩=(c.map (gv S))[o]? :=by
  simp only[kY];rw[Z6 h1 hx];rfl
 rw[h3,xP,h2];simp only[zP,fS];exact(zfy S v).2.2 hp
end
theorem zJs {Shun:Loc->Prop}{B:Nat}:Past Shun B #[]:=
 ⟨ziS.clean,λi a h=>by simp[touchAt,lJ.act?] at h,ziS.over,ziS.hears,λop h=>by simp at h⟩
variable {Post:aF->aE->Prop}
theorem J.start {p:bS}{op gs gs₁ fs:aN->Bool}(L:Lv p op gs gs₁ fs){f:aN}{fn:Rb}{c:Code}(hg:gs f=true)(Ci:op f=false)(hf:p.funcs[f]? =some fn)(hb:fn.body=some c){W:aE}{X:Nat->Bool}{xs args:Array aF}
 (hX:∀b,X b=true->∃c T fz,W.heap[b]? =some (.cells c T fz)) (hT:∀g,At p g=true->X g=true) (hG:p.globals.size<=W.heap.size) (Be:bK (SF fs) P0 (R0 X) xs args)
 (h:JL p op gs fs (St0 X) W Post ⟨f,xs++nD (fn.ntmps-xs.size) aA,[.code c],false⟩ [] (Bp (SF fs) X W)):Ends p Post (solo (G (Ed p f args .normal) []) W) #[]:=by
 obtain⟨fn',c',g1,g2,g3,g4,g5⟩:=L.fit.fn f hg Ci;have Cf:=g2;rw[hf] at Cf;obtain rfl:=cD Cf;rw[hb] at g4;obtain rfl:=cD g4;have hJ:J p Post (λ_=>False) W.heap.size (G (Ed p f args .normal) []) W:=by
  rw[Ve hf hb];refine h P0 (R0 X) W ⟨f,args++nD (fn.ntmps-args.size) aA,[.code c],false⟩ [] (λ_=>False) (zBe hX hT hG) ⟨rfl,rfl,rfl,Be.pad fn.ntmps,λj hj=>?_,⟨fn,fn,hf,hf,rfl,L.fit.res f hg Ci fn hf⟩⟩ .nil ⟨λ_ _ _ _=>id,λ_ _ _ _ _=>id,λ_ _ _ _=>id⟩ ⟨rfl,rfl,rfl,aZ _,λ_ _=>rfl,?_⟩
  .simp only[iX,lX,or_false] at hj
   subst hj;exact g5
  .rintro a b ⟨rfl,h⟩ _
   exact h
 rw[solo_eq_crowd];exact hJ #[_] #[] none (λ_=>0) rfl ⟨λi g hi h=>by
  have:=(dM.1 h).1;simp at this;omega,λj _=>rfl⟩ zJs
def Hw (ops:Array aY):Bool:=
 ((
  gD ops.size).all λi=>match ops[i]? with
  |some oi=>(oi.after.all λe=>!Ej .any e||decide (e.on<i))&&(match oi.op with| .select .. =>false|_=>true)&&
   ((
    gD ops.size).all λj=>match ops[j]? with
    |some oj=>(match oj.dst with
     |some d=>(!(oi.looksAt ops).contains d||oi.after.any λe=>Ej .any e&&e.on==j)&&(i==j||oi.dst !=some d)
     |none=>true)
    |none=>true)
  |none=>true)
structure J4 (ops:Array aY):Prop where
 bk:∀(i:Nat) (oi:aY),ops[i]? =some oi->∀e∈oi.after,Ej .any e=true->e.on<i
 sel:∀(i:Nat) (oi:aY),ops[i]? =some oi->∀cs b,oi.op≠ .select cs b
 rd:∀(i j:Nat) (oi oj:aY) (d:Tmp),ops[i]? =some oi->ops[j]? =some oj->oj.dst=some d->d∈oi.looksAt ops->∃e∈oi.after,Ej .any e=true/\e.on=j
 dst:∀(i j:Nat) (oi oj:aY) (d:Tmp),ops[i]? =some oi->ops[j]? =some oj->oi.dst=some d->oj.dst=some d->i=j
variable {ops:Array aY}
theorem Rq (h:Hw ops=true):J4 ops:=by
 unfold Hw at h;rw[tJ] at h;have lt:∀{i:Nat} {oi:aY},ops[i]? =some oi->i<ops.size:=λh=>(dM.1 h).1
 have h1:∀(i:Nat) (oi:aY),ops[i]? =some oi->(oi.after.all λe=>!Ej .any e||decide (e.on<i))=true/\(match oi.op with| .select .. =>false|_=>true)=true/\
  ∀(j:Nat) (oj:aY),ops[j]? =some oj->∀d,oj.dst=some d->((oi.looksAt ops).contains d=false\/(oi.after.any λe=>Ej .any e&&e.on==j)=true)/\(i=j\/oi.dst≠some d):=by
  intro i oi hi;have:=h i (B6.2 (lt hi));rw[hi] at this;simp only[fN] at this;refine⟨this.1.1,this.1.2,λj oj hj d hd=>?_⟩;have h2:=(tJ.1 this.2) j (B6.2 (lt hj));rw[hj] at h2;simp only[hd,fN,Dq,ze2,beq_iff_eq,bne_iff_ne] at h2;exact h2
 refine⟨λi oi hi e he hb=>?_,λi oi hi cs b e=>?_,λi j oi oj d hi hj hd hl=>?_,λi j oi oj d hi hj h2 h3=>?_⟩
 .have:=(h1 i oi hi).1
  rw[zjf] at this;have:=this e he;simp[hb] at this;exact this
 .have:=(h1 i oi hi).2.1
  rw[e] at this;cases this
 .have h2:=((h1 i oi hi).2.2 j oj hj d hd).1
  rcases h2 with h2|h2
  .have:=List.contains_iff_mem.2 hl
   rw[h2] at this;cases this
  .rw[Tk] at h2
   obtain⟨x,hx,h3⟩:=h2;simp only[fN,beq_iff_eq] at h3;exact⟨_,zkL hx,h3.1,h3.2⟩
 .rcases((h1 i oi hi).2.2 j oj hj d h3).2 with h4|h4
  .exact h4
  .exact absurd h2 h4
def cZ (ops:Array aY)(vals:Nat->aF)(t0:Array aF):Array Value:=
 (gD ops.size).foldl (λt i=>match(ops[i]?).bind (·.dst) with|some d=>t.setIfInBounds d (vals i)|none=>t) t0
section
variable {ops:Array aY}{vals:Nat->aF}{t0:Array aF}
structure rG (ops:Array aY)(vals:Nat->aF)(t0:Array aF)(bN:Array Bool)(t:Array aF):Prop where
 size:t.size=t0.size
 got:∀(i:Nat) (o:aY) (d:Tmp),ops[i]? =some o->o.dst=some d->d<t0.size->bN.getD i false=true->t[d]? =some (vals i)
 old:∀s:Nat,(∀(i:Nat) (o:aY),ops[i]? =some o->bN.getD i false=true->o.dst≠some s)->t[s]? =t0[s]?
theorem rG.start (bN:Array Bool)(h:∀i,bN.getD i false=false):rG ops vals t0 bN t0:=
 ⟨rfl,λi o d _ _ _ hl=>(by rw[h i] at hl;cases hl),λs _=>rfl⟩
theorem rG.step (K:J4 ops){bN:Array Bool}{t:Array aF}(h:rG ops vals t0 bN t){i:Nat}{o:aY}(hi:ops[i]? =some o)(hz:bN.size=ops.size)(hu:bN.getD i true=false):
 rG ops vals t0 (bN.setIfInBounds i true) (match o.dst with|some d=>t.setIfInBounds d (vals i)|none=>t):=by
 have Bw:i<bN.size:=by rw[hz];exact(dM.1 hi).1
 have Kw:∀j,(bN.setIfInBounds i true).getD j false=if j=i then true else bN.getD j false:=by
  intro j;by_cases e:j=i
  .subst e;simp[Bw]
  .rw[if_neg e];exact Nr false (Ne.symm e)
 cases hd:o.dst with
 |none=>
  refine⟨h.size,λj oj d hj O0 zfj hl=>?_,λs hs=>h.old s λj oj hj hl=>hs j oj hj ?_⟩
  .rw[Kw] at hl
   split at hl
   .next e=>subst e;rw[hi] at hj;obtain rfl:=cD hj;rw[hd] at O0;cases O0
   .exact h.got j oj d hj O0 zfj hl
  .rw[Kw];split<;>first|rfl|exact hl
 |some d=>
  refine⟨by simp[h.size],λj oj d' hj O0 zfj hl=>?_,λs hs=>?_⟩
  .rw[Kw] at hl
   split at hl
   .next e=>
    subst e;rw[hi] at hj;obtain rfl:=cD hj;rw[hd] at O0;obtain rfl:=cD O0;simp[zrP,h.size,zfj]
   .next e=>
    have aT:d≠d':=λe2=>e (K.dst j i oj o d' hj hi O0 (by rw[hd,e2]));simp only[jM aT];exact h.got j oj d' hj O0 zfj hl
  .have aT:d≠s:=λe2=>hs i o hi (by rw[Kw,if_pos rfl]) (by rw[hd,e2])
   simp only[jM aT];exact h.old s λj oj hj hl=>hs j oj hj (by rw[Kw];split<;>first|rfl|exact hl)
theorem rG.unique {bN:Array Bool}{t t':Array aF}(h:rG ops vals t0 bN t)(h':rG ops vals t0 bN t'):t=t':=by
 apply zc0;intro s;by_cases hex:∃(i:Nat) (o:aY),ops[i]? =some o/\bN.getD i false=true/\o.dst=some s
 .obtain⟨i,o,h1,h2,h3⟩:=hex
  by_cases hs:s<t0.size
  .rw[h.got i o s h1 h3 hs h2,h'.got i o s h1 h3 hs h2]
  .rw[G4 (by rw[h.size];omega),G4 (by rw[h'.size];omega)]
 .have hn:∀(i:Nat) (o:aY),ops[i]? =some o->bN.getD i false=true->o.dst≠some s:=λi o h1 h2 h3=>hex ⟨i,o,h1,h2,h3⟩
  rw[h.old s hn,h'.old s hn]
theorem Tr (K:J4 ops):rG ops vals t0 (nD ops.size true) (cZ ops vals t0):=by
 have key:∀n,n<=ops.size->rG ops vals t0 ((J7 ops.size).map (λi=>decide (i<n))) ((gD n).foldl (λt i=>match(ops[i]?).bind (·.dst) with|some d=>t.setIfInBounds d (vals i)|none=>t) t0):=by
  intro n
  induction n with
  |zero=>intro _;exact rG.start _ λi=>by simp;cases h:(J7 ops.size)[i]? <;>simp
  |succ n ih=>
   intro hn;have h:=ih aD;obtain⟨o,ho⟩:∃o,ops[n]? =some o:=⟨ops[n],nA aD⟩;have hs:=rG.step K h ho aQ (by simp[Array.getElem?_range,show n<ops.size by omega]);rw[List.range_succ,zm1];simp only[Pc,List.foldl_nil,ho,xI];have e:((J7 ops.size).map (λi=>decide (i<n))).setIfInBounds n true=(J7 ops.size).map (λi=>decide (i<n+1)):=by
    apply zc0;intro j;rw[zrP];by_cases hj:j<ops.size
    .by_cases e:n=j
     .subst e;simp[hj]
     .simp[hj,e];omega
    .have:¬n=j:=aD
     simp[hj,this]
   rw[e] at hs;exact hs
 have:=key ops.size (aZ _);have e:(J7 ops.size).map (λi=>decide (i<ops.size))=nD ops.size true:=by
  apply zc0;intro j;by_cases hj:j<ops.size<;>simp[hj]
 rw[e] at this;exact this
theorem rG.sees (K:J4 ops){bN:Array Bool}{t Tf:Array aF}(h:rG ops vals t0 bN t)(hf:rG ops vals t0 (nD ops.size true) Tf){i:Nat}{o:aY}(hi:ops[i]? =some o)(sZ:∀e∈o.after,Ej .any e=true->bN.getD e.on false=true):
 ∀s∈o.looksAt ops,t[s]? =Tf[s]? :=by
 intro s hs;by_cases hex:∃(j:Nat) (oj:aY),ops[j]? =some oj/\oj.dst=some s
 .obtain⟨j,oj,hj,hd⟩:=hex
  obtain⟨e,he,hb,rfl⟩:=K.rd i j o oj s hi hj hd hs;have hl:=sZ e he hb;have sN:e.on<ops.size:=(dM.1 hj).1;by_cases hz:s<t0.size
  .rw[h.got _ oj s hj hd hz hl,hf.got _ oj s hj hd hz (by simp[sN])]
  .have Fi:t0.size<=s:=Nat.le_of_not_lt hz
   rw[G4 (by rw[h.size];exact Fi),G4 (by rw[hf.size];exact Fi)]
 .have hn:∀(j:Nat) (oj:aY),ops[j]? =some oj->oj.dst≠some s:=λj oj hj hd=>hex ⟨j,oj,hj,hd⟩
  rw[h.old s (λj oj hj _=>hn j oj hj),hf.old s (λj oj hj _=>hn j oj hj)]
end
variable {t t':Array aF}
theorem zIq {x:cM}(h:∀s,x=.tmp s->t[s]? =t'[s]?):(bH t []).eval x=(bH t' []).eval x:=by
 cases x with
 |tmp s=>
  have:=h s rfl;show t.getD s aA=t'.getD s aA;simp only[tD,this]
 |_=>rfl
variable {o:aY}
theorem Ds (hs:∀cs b,o.op≠ .select cs b)(h:∀s∈o.looksAt ops,t[s]? =t'[s]?):aO (bH t []).eval o=aO (bH t' []).eval o:=
 execOp_congr o hs λx hx=>zIq λs e=>h s (by
  subst e;exact List.mem_append_left _ (List.mem_filterMap.2 ⟨.tmp s,by simpa using hx,rfl⟩))
theorem Yu (h:∀s∈o.looksAt ops,t[s]? =t'[s]?):dA o (dN ops t)=dA o (dN ops t'):=by
 unfold dA
 cases hg:o.guard with
 |none=>rfl
 |some gw=>
  obtain⟨g,want⟩:=gw;have hy:dN ops t g=dN ops t' g:=by
   unfold dN
   cases ht:(ops[g]?).bind (·.dst) with
   |none=>rfl
   |some s=>
    have:=h s (by simp[aY.looksAt,hg,ht]);simp only[xI,this]
  simp only[hy]
section
variable {p:bS}{op gs gs₁ fs:aN->Bool}{St:Nat->Prop}{W0:aE}{Post:aF->aE->Prop}
theorem zpm {ops:Array aY}(K:J4 ops){bN:Array Bool}(hz:bN.size=ops.size)(h:Gi .any ops bN=[]):∀i,i<ops.size->bN.getD i false=true:=by
 intro i
 induction i using zho with
 |ind i ih=>
  intro hi;obtain⟨o,ho⟩:∃o,ops[i]? =some o:=⟨ops[i],nA hi⟩
  cases hl:bN.getD i false with
  |true=>rfl
  |false=>
   have hm:i∈Gi .any ops bN:=zjI.2 ⟨by
    have Bw:i<bN.size:=aD;simp[Bw] at hl⊢;exact hl,o,ho,λe he hb=>ih e.on (K.bk i o ho e he hb) (by have:=K.bk i o ho e he hb;omega)⟩
   rw[h] at hm;cases hm
end
abbrev wR (Tf:Array aF)(V:Nat->aF):Prop:=∀s,Tf.getD s aA=V s
def F6 (ops:Array aY)(s:Nat):Bool:=ops.any λo=>o.dst==some s
def U8 (V:Nat->aF)(o:aY):Value:=match o.dst with|some d=>V d|none=>aA
theorem zk4 {i:Nat}{d:Tmp}(h:ops[i]? =some o)(hd:o.dst=some d):F6 ops d=true:=by
 unfold F6;rw[Tk];obtain⟨hi,e⟩:=dM.1 h;exact⟨i,hi,by rw[e,hd];simp⟩
section
variable {ops:Array aY}{Tf:Array aF}{V:Nat->aF}{o og:aY}{j d:Nat}{want b:Bool}
theorem dU (h:o.guard=none){y:Nat->Option Bool}:dA o y=true:=by unfold dA;rw[h]
end
theorem zHp {n:Nat}(h2:(ops.all λo=>match o.dst with|some d=>decide (d<n)|none=>true)=true):∀s,F6 ops s=true->s<n:=by
 intro s hs;unfold F6 at hs;rw[Tk] at hs;obtain⟨i,hi,e⟩:=hs;have h3:=Array.all_eq_true.1 h2 i hi;have e2:ops[i].dst=some s:=by simpa using e
 rw[e2] at h3;simpa using h3
def nK {Tf:Array aF}{V:Nat->aF}(hT:wR Tf V){s:Nat}{v:aF}(hv:V s=v):(bH Tf []).eval (.tmp s)=v:=((hT s).trans hv)
section
variable {p:bS}{ρ:cM->aF}{o:aY}{w:aE}
variable {A:Option Addr}{t:aM}
theorem zw6 {x:cM}{n c:Nat}{e:aM}(ho:o.op=.call ⟨.builtin .len,#[x],#[t]⟩)(hu:p.underlying t=some (.slice e))(hx:ρ x=.slice A n c):(aO ρ o).run p w=.ok (.value (.int .i64 n)) w:=by
 have Lw:∀w,(underlying t).run p w=.ok (.slice e) w:=λw=>by simp[underlying,program,bD,bind,xF,pure,hu]
 unfold aO;rw[ho];simp[go_sem,hx,Lw,Builtin.len_,uC]
theorem zae {s x:cM}{a b v:aF}{w':aE}(ho:o.op=.call ⟨.builtin .append,#[s,x],#[t,t]⟩)(hs:ρ s=a)(hx:ρ x=b)(hr:(wG #[t,t] o.type #[a,b]).run p w=.ok v w'):(aO ρ o).run p w=.ok (.value v) w':=by
 unfold aO;simp only[ho,resolve,invoke,builtin,Sem.run_bind,Sem.run_pure,Result.andThen_ok,List.map_toArray,fG,List.map_nil,hs,hx,hr]
end
def AllL (Q:Nat->aY->Prop):Nat->List aY->Prop
 |_,[]=>True
 |i,o::l=>Q i o/\AllL Q (i+1) l
variable {Q:Nat->aY->Prop}
theorem zrq :∀(l:List aY) (k:Nat),AllL Q k l->∀(i:Nat) (o:aY),l[i]? =some o->Q (k+i) o
 |[],k,h,i,o,e=>by simp at e
 |x::l,k,h,0,o,e=>by simp at e;subst e;exact h.1
 |x::l,k,h,i+1,o,e=>by
  have:=zrq l (k+1) h.2 i o (by simpa using e);rw[show k+(i+1)=k+1+i by omega];exact this
theorem Hz {l:List aY}(hl:ops.toList=l)(h:AllL Q 0 l):∀(i:Nat) (o:aY),ops[i]? =some o->Q i o:=λi o e=>by
 have:=zrq l 0 h i o (by rw[<-hl,zR];exact e)
 rwa [rL] at this
def wO (vals:Nat->aF):List (Option Tmp)->Nat->List aF->List aF
 |[],_,t=>t
 |none::l,i,t=>wO vals l (i+1) t
 |some d::l,i,t=>wO vals l (i+1) (t.set d (vals i))
theorem zY (ops:Array aY)(vals:Nat->aF)(t0:List aF):cZ ops vals t0.toArray=(wO vals (ops.toList.map (·.dst)) 0 t0).toArray:=by
 have key:∀(l:List aY) (k:Nat) (t:List aF),(∀i,l[i]? =ops[k+i]?)->
  (List.range' k l.length).foldl (λt i=>match(ops[i]?).bind (·.dst) with|some d=>t.setIfInBounds d (vals i)|none=>t) t.toArray=(wO vals (l.map (·.dst)) k t).toArray:=by
  intro l
  induction l with
  |nil=>intro k t _;rfl
  |cons o l ih=>
   intro k t h;have h0:=h 0;simp at h0;rw[pG,List.range'_succ,Pc,<-h0];simp only[xI,fG];have h1:∀i,l[i]? =ops[k+1+i]? :=λi=>by have:=h (i+1);simp at this;rw[this];congr 1;omega
   cases hd:o.dst with
   |none=>exact ih (k+1) t h1
   |some d=>
    simp only[List.setIfInBounds_toArray];exact ih (k+1) _ h1
 have:=key ops.toList 0 t0 (λi=>by simp);unfold cZ;rw[List.range_eq_range',<-Array.length_toList];exact this
def Ex (o:aY)(j:Nat):Bool:=o.after.any λe=>Ej .any e&&e.on==j
def Hk (ops:Array aY):List Nat->Bool
 |a::b::l=>(match ops[b]? with|some o=>Ex o a|none=>false)&&Hk ops (b::l)
 |[a]=>decide (a<ops.size)
 |[]=>true
def zci (ops:Array aY):Nat->aY->Nat->Bool
 |0,o,j=>Ex o j
 |n+1,o,j=>Ex o j||o.after.any λe=>Ej .any e&&(match ops[e.on]? with|some o'=>zci ops n o' j|none=>false)
def zbF (ops:Array aY)(ws:List Nat)(i k:Nat):Bool:=
 (ws.take k).all (λj=>match ops[j]? with|some o=>!zci ops 5 o i|none=>true)&&(ws.drop k).all (λj=>match ops[i]? with|some o=>!Ex o j|none=>true)
inductive bP (P:bS)(ops:Array aY)(ws:List Nat)(Wd:Nat->aE)(Tf:Array aF)(i:Nat)(o:aY)(v:aF):Prop
 |no (hn:i∉ws) (h:dA o (dN ops Tf)=false) (hv:v=aA)
 |val (hn:i∉ws) (h:dA o (dN ops Tf)=true) (hx:∀k,k<=ws.length->zbF ops ws i k=true->(aO (bH Tf []).eval o).run P (Wd k)=.ok (.value v) (Wd k))
 |act (k:Nat) (hk:ws[k]? =some i) (h:dA o (dN ops Tf)=true) (hx:(aO (bH Tf []).eval o).run P (Wd k)=.ok (.value v) (Wd (k+1)))
 |skp (k:Nat) (hk:ws[k]? =some i) (h:dA o (dN ops Tf)=true) (hv:v=aA) (hx:(aO (bH Tf []).eval o).run P (Wd k)=.ok .skip (Wd (k+1)))
 |actn (k:Nat) (hk:ws[k]? =some i) (h:dA o (dN ops Tf)=true) (hd:o.dst=none) (u:aF) (hx:(aO (bH Tf []).eval o).run P (Wd k)=.ok (.value u) (Wd (k+1)))
section
variable {P:bS}{ops:Array aY}{ws:List Nat}{Wd:Nat->aE}{Q:Exit->tE->aE->Prop}{t0 Tf:Array aF}{vals:Nat->aF}
structure Hu (ops:Array aY)(ws:List Nat)(bN:Array Bool)(k:Nat):Prop where
 closed:∀(i:Nat) (o:aY),ops[i]? =some o->bN.getD i false=true->∀j,Ex o j=true->bN.getD j false=true
 le:k<=ws.length
 pre:∀(n i:Nat),ws[n]? =some i->(bN.getD i false=true↔n<k)
theorem Hu.closedT {bN:Array Bool}{k:Nat}(h:Hu ops ws bN k):∀(n:Nat) (i:Nat) (o:aY),ops[i]? =some o->bN.getD i false=true->∀j,zci ops n o j=true->bN.getD j false=true
 |0,i,o,hi,hl,j,hj=>h.closed i o hi hl j hj
 |n+1,i,o,hi,hl,j,hj=>by
  simp only[zci,Dq] at hj;rcases hj with hj|hj
  .exact h.closed i o hi hl j hj
  .rw[Tk] at hj
   obtain⟨x,hx,h3⟩:=hj;simp only[fN] at h3;obtain⟨h4,h5⟩:=h3;split at h5
   .next o' uW=>
    refine h.closedT n _ o' uW (h.closed i o hi hl _ ?_) j h5;unfold Ex;rw[Tk];exact⟨x,hx,by simp[h4]⟩
   .cases h5
theorem zld:∀{ws:List Nat},Hk ops ws=true->∀(n a b:Nat),ws[n]? =some a->ws[n+1]? =some b->∃o,ops[b]? =some o/\Ex o a=true
 |[],_,n,a,b,h,_=>by simp at h
 |[x],_,n,a,b,h,h'=>by simp at h'
 |x::y::l,hc,0,a,b,h,h'=>by
  simp at h h';subst h h';simp only[Hk,fN] at hc;have:=hc.1;split at this
  .next o e=>exact⟨o,e,this⟩
  .cases this
 |x::y::l,hc,n+1,a,b,h,h'=>by
  simp only[Hk,fN] at hc;exact zld hc.2 n a b zfg (by simpa using h')
theorem zuk {l:Array Bool}{i:Nat}(h:l.getD i true=false):l.getD i false=false:=by
 rw[tD] at h⊢
 cases e:l[i]? with
 |none=>rfl
 |some x=>rw[e] at h;exact h
theorem Hu.keep {bN:Array Bool}{k i:Nat}{o:aY}(h:Hu ops ws bN k)(hi:ops[i]? =some o)(hn:i∉ws)(hd:∀j,Ex o j=true->bN.getD j false=true):Hu ops ws (bN.setIfInBounds i true) k:=by
 have mono:∀j,bN.getD j false=true->(bN.setIfInBounds i true).getD j false=true:=λj hj=>by
  by_cases e:j=i
  .subst e
   rw[tD] at hj⊢
   cases e2:bN[j]? with
   |none=>rw[e2] at hj;cases hj
   |some x=>have:j<bN.size:=(dM.1 e2).1;simp[this]
  .rw[Nr false (Ne.symm e)];exact hj
 refine⟨λa oa ha hl j hj=>?_,h.le,λn a ha=>?_⟩
 .by_cases e:a=i
  .subst e
   rw[hi] at ha;obtain rfl:=cD ha;exact mono j (hd j hj)
  .rw[Nr false (Ne.symm e)] at hl
   exact mono j (h.closed a oa ha hl j hj)
 .have e:a≠i:=λe=>hn (e▸dS ha)
  rw[Nr false (Ne.symm e)];exact h.pre n a ha
theorem Hu.next {bN:Array Bool}{k n i:Nat}{o:aY}(lD:ws.Nodup)(hc:Hk ops ws=true)(h:Hu ops ws bN k)(hi:ops[i]? =some o)(hz:i<bN.size)(hn:ws[n]? =some i)(hu:bN.getD i false=false)(hd:∀j,Ex o j=true->bN.getD j false=true):
 n=k/\Hu ops ws (bN.setIfInBounds i true) (k+1):=by
 have oQ:n<ws.length:=(jW.1 hn).1;have hk:n=k:=by
  have h1:¬n<k:=λx=>by have:=(h.pre n i hn).2 x;rw[hu] at this;cases this
  rcases nM k n with x|x
  .exfalso
   obtain⟨m,rfl⟩:∃m,n=m+1:=⟨n-1,aD⟩;obtain⟨a,ha⟩:∃a,ws[m]? =some a:=⟨ws[m],lP aD⟩;obtain⟨o',uW,hw⟩:=zld hc m a i ha hn;rw[hi] at uW;obtain rfl:=cD uW;have:=(h.pre m a ha).1 (hd a hw);omega
  .omega
 subst hk;have mono:∀j,bN.getD j false=true->(bN.setIfInBounds i true).getD j false=true:=λj hj=>by
  by_cases e:j=i
  .subst e;simp[hz]
  .rw[Nr false (Ne.symm e)];exact hj
 refine⟨rfl,λa oa ha hl j hj=>?_,aD,λm a ha=>?_⟩
 .by_cases e:a=i
  .subst e
   rw[hi] at ha;obtain rfl:=cD ha;exact mono j (hd j hj)
  .rw[Nr false (Ne.symm e)] at hl
   exact mono j (h.closed a oa ha hl j hj)
 .by_cases e:a=i
  .subst e
   have hm:m=n:=by
    have h1:m<ws.length:=(jW.1 ha).1;have e1:=(jW.1 ha).2;have e2:=(jW.1 hn).2;exact(List.getElem_inj lD).1 (e1.trans e2.symm)
   subst hm;simp[hz]
  .have hm:m≠n:=λx=>e (by subst x;rw[hn] at ha;exact(cD ha).symm)
   rw[Nr false (Ne.symm e),h.pre m a ha];omega
theorem zyL (t:Array aF)(d:List Eo):(bH t d).eval=(bH t []).eval:=by funext x;cases x<;>rfl
theorem zww (K:J4 ops):∀{ws:List Nat},Hk ops ws=true->∀(n i:Nat),ws[n]? =some i->i<ops.size
 |[],_,n,i,hi=>by simp at hi
 |[a],hc,0,i,hi=>by simp at hi;subst hi;simpa[Hk] using hc
 |[a],hc,n+1,i,hi=>by simp at hi
 |a::b::l,hc,0,i,hi=>by
  simp at hi;subst hi;obtain⟨o,h1,h2⟩:=zld hc 0 a b rfl rfl;unfold Ex at h2;rw[Tk] at h2;obtain⟨x,hx,h3⟩:=h2;simp only[fN,beq_iff_eq] at h3;have:=K.bk b o h1 _ (zkL hx) h3.1;have hb:=(dM.1 h1).1;omega
 |a::b::l,hc,n+1,i,hi=>by
  simp only[Hk,fN] at hc;exact zww K hc.2 n i zd7
theorem zE2 (K:J4 ops)(lD:ws.Nodup)(hc:Hk ops ws=true)(hT:rG ops vals t0 (nD ops.size true) Tf){d:List Eo}
 (hop:∀(i:Nat) (o:aY),ops[i]? =some o->bP P ops ws Wd Tf i o (vals i)) (hk:Q .normal ⟨Tf,d⟩ (Wd ws.length)):
 ∀(fuel:Nat) (bN:Array Bool) (t:Array aF) (k:Nat),bN.size=ops.size->((gD ops.size).filter λi=>!bN.getD i false).length<=fuel->rG ops vals t0 bN t->Hu ops ws bN k->
  wpAny P .any ops Q fuel bN ⟨t,d⟩ (Wd k):=by
 have zFn:=zww K hc;have fin:∀(bN:Array Bool) (t:Array aF) (k:Nat),bN.size=ops.size->(∀i,i<ops.size->bN.getD i false=true)->rG ops vals t0 bN t->Hu ops ws bN k->Q .normal ⟨t,d⟩ (Wd k):=by
  intro bN t k hz rU hm aX;have e:bN=nD ops.size true:=by
   apply zc0;intro j;by_cases hj:j<ops.size
   .have:=rU j hj
    have sN:j<bN.size:=aD;simp[sN] at this;simp[hj,sN,this]
   .rw[G4 aD,G4 rF]
  subst e;have e2:=hm.unique hT;subst e2;have e3:k=ws.length:=by
   rcases nM k ws.length with x|x
   .have h1:ws[k]? =some ws[k]:=lP x
    have:=(aX.pre k _ h1).1 (rU _ (zFn k _ h1));omega
   .have:=aX.le;omega
  rw[e3];exact hk
 intro fuel
 induction fuel with
 |zero=>
  intro bN t k hz Yy hm aX;have rU:∀i,i<ops.size->bN.getD i false=true:=λi hi=>by
   cases hl:bN.getD i false with
   |true=>rfl
   |false=>
    have:i∈(gD ops.size).filter λi=>!bN.getD i false:=H5.2 ⟨B6.2 hi,by rw[hl];rfl⟩;have:=List.length_pos_of_mem this;omega
  refine⟨?_,fin bN t k hz rU hm aX⟩;apply List.eq_nil_iff_forall_not_mem.2;intro i hi;obtain⟨hu,o,ho,_⟩:=zjI.1 hi;have:=rU i (dM.1 ho).1;rw[zuk hu] at this;cases this
 |succ fuel ih=>
  intro bN t k hz Yy hm aX;refine⟨λhr=>fin bN t k hz (zpm K hz hr) hm aX,λi hi=>?_⟩;obtain⟨hu,o,ho,sZ⟩:=zjI.1 hi;have Lw:=zuk hu;have lR:=hm.sees K hT ho sZ;have Vn:=hm.step K ho hz hu;have Bw:i<ops.size:=(dM.1 ho).1;have hw:∀j,Ex o j=true->bN.getD j false=true:=λj hj=>by
   unfold Ex at hj;rw[Tk] at hj;obtain⟨x,hx,h3⟩:=hj;simp only[fN,beq_iff_eq] at h3;have:=sZ _ (zkL hx) h3.1
   rwa [h3.2] at this
  have zEJ:((gD ops.size).filter λj=>!(bN.setIfInBounds i true).getD j false).length<=fuel:=by
   have aP:((gD ops.size).filter λj=>!(bN.setIfInBounds i true).getD j false).length<((gD ops.size).filter λj=>!bN.getD j false).length:=by
    have e:((gD ops.size).filter λj=>!(bN.setIfInBounds i true).getD j false)=((gD ops.size).filter λj=>!bN.getD j false).filter (λj=>j !=i):=by
     rw[List.filter_filter];apply List.filter_congr;intro j hj;by_cases e:j=i
     .subst e
      have:j<bN.size:=aD;simp[this]
     .rw[Nr false (Ne.symm e)]
      simp[e]
    rw[e];refine List.length_filter_lt_length_iff_exists.2 ⟨i,H5.2 ⟨B6.2 Bw,?_⟩,aQ⟩;rw[Lw];rfl
   omega
  have put_eq:∀v,(b7 ⟨t,d⟩ o.dst v)=⟨(match o.dst with|some s=>t.setIfInBounds s v|none=>t),d⟩:=λv=>by
   unfold b7;cases o.dst<;>rfl
  have goon:∀k',Hu ops ws (bN.setIfInBounds i true) k'->wpAny P .any ops Q fuel (bN.setIfInBounds i true) (b7 ⟨t,d⟩ o.dst (vals i)) (Wd k'):=λk' M5=>by
   rw[put_eq];exact ih _ _ k' (by simp[hz]) zEJ Vn M5
  have mD:(bH t d).eval=(bH t []).eval:=zyL t d;unfold wpOp;simp only[ho];rcases hop i o ho with⟨hn,h1,h2⟩|⟨hn,h1,h2⟩|⟨n,hn,h1,h2⟩|⟨n,hn,h1,hv,h2⟩|⟨n,hn,h1,hd,u,h2⟩
  .rw[if_neg (by rw[(Yu lR).trans h1];simp),<-h2]
   exact goon k (aX.keep ho hn hw)
  .rw[if_pos ((Yu lR).trans h1)]
   refine .inl ?_;have zzg:zbF ops ws i k=true:=by
    unfold zbF;rw[fN,tJ,tJ];refine⟨λj hj=>?_,λj hj=>?_⟩
    .obtain⟨m,Fs⟩:=zqG hj
     rw[List.getElem?_take] at Fs;split at Fs
     .next zgX=>
      split
      .next oj hoj=>
       cases hq:zci ops 5 oj i with
       |false=>rfl
       |true=>
        have:=aX.closedT 5 j oj hoj ((aX.pre m j Fs).2 zgX) i hq;rw[Lw] at this;cases this
      .rfl
     .cases Fs
    .obtain⟨m,Fs⟩:=zqG hj
     rw[List.getElem?_drop] at Fs;simp only[ho]
     cases hq:Ex o j with
     |false=>rfl
     |true=>
      have:=(aX.pre (k+m) j Fs).1 (hw j hq);omega
   show o.upon P ⟨t,d⟩ _ Q ((aO (bH t d).eval o).run P (Wd k));rw[mD,Ds (K.sel i o ho) lR,h2 k aX.le zzg];exact goon k (aX.keep ho hn hw)
  .rw[if_pos ((Yu lR).trans h1)]
   refine .inl ?_;obtain⟨rfl,M5⟩:=aX.next lD hc ho aD hn Lw hw;show o.upon P ⟨t,d⟩ _ Q ((aO (bH t d).eval o).run P (Wd n));rw[mD,Ds (K.sel i o ho) lR,h2];exact goon _ M5
  .rw[if_pos ((Yu lR).trans h1)]
   refine .inl ?_;obtain⟨rfl,M5⟩:=aX.next lD hc ho aD hn Lw hw;show o.upon P ⟨t,d⟩ _ Q ((aO (bH t d).eval o).run P (Wd n));rw[mD,Ds (K.sel i o ho) lR,h2];have:=goon _ M5;rw[hv] at this;exact this
  .rw[if_pos ((Yu lR).trans h1)]
   refine .inl ?_;obtain⟨rfl,M5⟩:=aX.next lD hc ho aD hn Lw hw;show o.upon P ⟨t,d⟩ _ Q ((aO (bH t d).eval o).run P (Wd n));rw[mD,Ds (K.sel i o ho) lR,h2];have:=goon _ M5;have e:∀x y,b7 ⟨t,d⟩ o.dst x=b7 ⟨t,d⟩ o.dst y:=λx y=>by rw[hd];rfl
   rw[e _ u] at this;exact this
theorem zES {id:Nat}{w:aE}{d:List Eo}(hm:P.follows .mixedOrders=true)(bV:Hw ops=true)(lD:ws.Nodup)(hc:Hk ops ws=true)(h0:Wd 0={w with drawn:=w.drawn+1})(hT:cZ ops vals t0=Tf)
 (hop:∀(i:Nat) (o:aY),ops[i]? =some o->bP P ops ws Wd Tf i o (vals i)) (hk:Q .normal ⟨Tf,d⟩ (Wd ws.length)):(Code.region id ops true).wp P Q ⟨t0,d⟩ w:=by
 refine wp_region_any hm ?_;have K:=Rq bV;subst hT;rw[<-h0];refine zE2 K lD hc (Tr K) hop hk ops.size _ t0 0 aQ (eP (zbe _ _) aQ) (rG.start _ λi=>by by_cases hi:i<ops.size<;>simp[hi]) ⟨λi o _ hl=>?_,lB _,λn i hn=>?_⟩
 .exfalso
  by_cases hi:i<ops.size<;>simp[hi] at hl
 .constructor
  .intro hl
   exfalso;by_cases hi:i<ops.size<;>simp[hi] at hl
  .intro x;omega
theorem Ho {id:Nat}{w:aE}{d:List Eo}(hm:P.follows .mixedOrders=true)(bV:Hw ops=true)(lD:ws.Nodup)(hc:Hk ops ws=true)(h0:Wd 0={w with drawn:=w.drawn+1})(cH:∀s,F6 ops s=true->s<t0.size)
 (h:∀V:Nat->aF,(∀(i:Nat) (o:aY) (d:Tmp),ops[i]? =some o->o.dst=some d->V d=vals i)->(∀s,F6 ops s=false->V s=t0.getD s aA)->
  ∀Tf,wR Tf V->∀(i:Nat) (o:aY),ops[i]? =some o->bP P ops ws Wd Tf i o (U8 V o)) (hk:Q .normal ⟨cZ ops vals t0,d⟩ (Wd ws.length)):(Code.region id ops true).wp P Q ⟨t0,d⟩ w:=by
 have K:=Rq bV;have M:=Tr (vals:=vals) (t0:=t0) K
 let Tf:=cZ ops vals t0
 have zna:∀(i:Nat) (o:aY) (d:Tmp),ops[i]? =some o->o.dst=some d->Tf.getD d aA=vals i:=λi o d h1 h2=>by
  have Bw:=(dM.1 h1).1;rw[tD,M.got i o d h1 h2 (cH d (zk4 h1 h2)) (by simp[Bw])];rfl
 have zsl:∀s,F6 ops s=false->Tf.getD s aA=t0.getD s undef:=λs hs=>by
  rw[tD,M.old s (λi o h1 _ h2=>by rw[zk4 h1 h2] at hs;cases hs),tD]
 have hop:=h (λs=>Tf.getD s aA) zna zsl Tf (λs=>rfl)
 let Wy:Nat->Value:=λi=>match ops[i]? with|some o=>U8 (λs=>Tf.getD s aA) o|none=>aA
 have e:cZ ops Wy t0=cZ ops vals t0:=by
  refine(Tr (vals:=Wy) K).unique ⟨M.size,λi o d h1 h2 h3 h4=>?_,M.old⟩;rw[M.got i o d h1 h2 h3 h4];show some (vals i)=some (match ops[i]? with|some o=>U8 (λs=>Tf.getD s aA) o|none=>aA);rw[h1];simp only[U8,h2];rw[zna i o d h1 h2]
 refine zES hm bV lD hc h0 e (λi o h1=>?_) hk;have e2:Wy i=U8 (λs=>Tf.getD s aA) o:=by
  show(match ops[i]? with|some o=>U8 (λs=>Tf.getD s aA) o|none=>aA)=_;rw[h1]
 rw[e2];exact hop i o h1
end
end Go.Mt
namespace Go.Mt
open Go.Conc Go.Tt Go.RowKit
section
variable {P:bS}{ops:Array aY}{ws:List Nat}{Wd:Nat->aE}{Tf:Array aF}{V:Nat->aF}{i d:Nat}{o:aY}{v:aF}
theorem bP.pv (hn:i∉ws:=by decide)(h:dA o (dN ops Tf)=true:=by exact dU rfl)(hv:V d=v:=by assumption)
 (hx:∀w,(aO (bH Tf []).eval o).run P w=.ok (.value v) w:=by intro w;unfold execOp;go_simp):bP P ops ws Wd Tf i o (V d):=hv▸ .val hn h λ_ _ _=>hx _
def early (ops:Array aY)(ws:List Nat)(i:Nat):Bool:=(gD ws.length).all λk=>!zbF ops ws i (k+1)
theorem bP.ld {w0:aE}(h0:Wd 0=w0:=by assumption)(hn:i∉ws:=by decide)(h:dA o (dN ops Tf)=true:=by exact dU rfl)(hv:V d=v:=by assumption)(hm:early ops ws i=true:=by decide+kernel)
 (hx:(aO (bH Tf []).eval o).run P w0=.ok (.value v) w0:=by unfold execOp;go_simp):bP P ops ws Wd Tf i o (V d):=hv▸ .val hn h λk hk zgX=>by
 rcases k with _|k
 .rw[h0];exact hx
 .have:=tJ.1 hm k (B6.2 aD)
  rw[zgX] at this;cases this
theorem bP.any (hx:∀k,k<=ws.length->zbF ops ws i k=true->(aO (bH Tf []).eval o).run P (Wd k)=.ok (.value v) (Wd k))(hn:i∉ws:=by decide)(h:dA o (dN ops Tf)=true:=by exact dU rfl)(hv:V d=v:=by assumption):bP P ops ws Wd Tf i o (V d):=
 hv▸ .val hn h hx
def zgb (V:Nat->aF):List (Option Nat)->List aF->Prop
 |some d::D,v::l=>V d=v/\zgb V D l
 |none::D,_::l=>zgb V D l
 |_,_=>True
theorem zll:∀(D:List (Option Nat)) (l:List aF),(∀(i:Nat) (d:Nat),D[i]? =some (some d)->i<l.length->V d=l.getD i aA)->zgb V D l
 |some d::D,v::l,h=>⟨h 0 d rfl aQ,zll D l λi d' e hi=>by simpa using h (i+1) d' (by simpa using e) zd7⟩
 |none::D,_::l,h=>zll D l λi d' e hi=>by simpa using h (i+1) d' (by simpa using e) zd7
 |[],_,_=>trivial
 |some _::_,[],_=>trivial
 |none::_,[],_=>trivial
theorem Hn {l:List aF}{D:List (Option Nat)}(hD:ops.toList.map (·.dst)=D)(hU:∀(i:Nat) (o:aY) (d:Tmp),ops[i]? =some o->o.dst=some d->V d=l.getD i aA):zgb V D l:=
 zll D l λi d e _=>by
  rw[<-hD,List.getElem?_map] at e;obtain⟨o,h1,h2⟩:=wM.1 e;exact hU i o d (by rw[<-zR];exact h1) h2
end
end Go.Mt
namespace Go.Proofs.YtfcjiloojkjaeaaDoor
open Go.RowKit Go.Mt Go.Conc Go.Tt Go.Maps
def bodyRG:Go.Code:=(Tryd.f28.body).getD .skip
def rRG7:Go.Code:=match bodyRG with| .seq _ (.seq _ (.seq _ (.seq (a) _)))=>a|_=>.skip
def zfr:Array Oper:=match rRG7 with| .region _ ops _=>ops|_=>#[]
def ztT:zfr.toList=[⟨some 36,.fieldAddr 40 (.tmp 2) 2,0,"l6_office.go:151",#[],none⟩,⟨some 37,.load 36 (.tmp 36),36,"l6_office.go:151",#[⟨0,.data⟩],none⟩,⟨some 38,.fieldAddr 79 (.tmp 3) 0,0,"l6_office.go:151",#[],none⟩,⟨some 39,.load 3 (.tmp 38),3,"l6_office.go:151",#[⟨2,.data⟩],none⟩,⟨some 40,.move (.tmp 6),52,"l6_office.go:151",#[],none⟩,⟨some 41,.indexAddr 52 (.tmp 40) (.const (.int .i64 0)),0,"l6_office.go:151",#[⟨4,.data⟩],none⟩,⟨some 42,.load 3 (.tmp 41),3,"l6_office.go:151",#[⟨5,.data⟩],none⟩,⟨some 43,.fieldAddr 40 (.tmp 2) 1,0,"l6_office.go:151",#[],none⟩,⟨some 44,.load 3 (.tmp 43),3,"l6_office.go:151",#[⟨7,.data⟩],none⟩,⟨some 45,.build 107 #[(0,.tmp 39),(1,.tmp 42),(3,.tmp 44),(4,.const (.int .i64 (-1))),(5,.const (.int .i64 (-1))),(6,.const (.string {data:=#[111,112,101,110]}))],107,"l6_office.go:151",#[⟨3,.data⟩,⟨6,.data⟩,⟨8,.data⟩],none⟩,⟨some 46,.buildSlice 36 1 #[(0,.tmp 45)],36,"l6_office.go:151",#[⟨9,.data⟩],none⟩,⟨some 47,.call ⟨.builtin .append,#[.tmp 37,.tmp 46],#[36,36]⟩,36,"l6_office.go:151",#[⟨1,.data⟩,⟨10,.data⟩],none⟩,⟨some 48,.fieldAddr 40 (.tmp 2) 2,0,"l6_office.go:151",#[⟨0,.phase⟩,⟨1,.phase⟩,⟨2,.phase⟩,⟨3,.phase⟩,⟨4,.phase⟩,⟨5,.phase⟩,⟨6,.phase⟩,⟨7,.phase⟩,⟨8,.phase⟩,⟨9,.phase⟩,⟨10,.phase⟩,⟨11,.phase⟩],none⟩,⟨none,.store 36 (.tmp 48) (.tmp 47),0,"l6_office.go:151",#[⟨12,.data⟩,⟨11,.data⟩,⟨11,.chain⟩,⟨0,.phase⟩,⟨1,.phase⟩,⟨2,.phase⟩,⟨3,.phase⟩,⟨4,.phase⟩,⟨5,.phase⟩,⟨6,.phase⟩,⟨7,.phase⟩,⟨8,.phase⟩,⟨9,.phase⟩,⟨10,.phase⟩,⟨11,.phase⟩],none⟩]:=rfl
def WRG7 (w w3:aE)(gb gf gR nR cR g1 c1 nf cf:Nat)(cc l clk:Int):Nat->aE
 |0=>w.drew
 |1=>(w.alloc (.cells #[.int .i64 cc,.int .i64 l,.int .i64 0,.int .i64 clk,.int .i64 (-1),.int .i64 (-1),.string eJ] 107)).drew
 |2=>w3
 |_=>w3.setCell ⟨gb,4,none⟩ (.slice (some ⟨g1,0,none⟩) (nR+1) c1)
theorem zwx:zfr.toList.map (·.dst)=[some 36,some 37,some 38,some 39,some 40,some 41,some 42,some 43,some 44,some 45,some 46,some 47,some 48,none]:=by rw[ztT];rfl
def lRG7 (w w3:aE)(gb gf gR nR cR g1 c1 nf cf:Nat)(cc l clk:Int):List Value:=[.pointer (some ⟨gb,4,none⟩),.slice (some ⟨gR,0,none⟩) nR cR,.pointer (some ⟨gb+1,0,none⟩),.int .i64 (cc),.slice (some ⟨gf,0,none⟩) nf cf,.pointer (some ⟨gf,0,none⟩),.int .i64 (l),.pointer (some ⟨gb,3,none⟩),.int .i64 (clk),.agg #[.int .i64 cc,.int .i64 l,.int .i64 0,.int .i64 clk,.int .i64 (-1),.int .i64 (-1),.string eJ],.slice (some ⟨w.heap.size,0,none⟩) 1 1,.slice (some ⟨g1,0,none⟩) (nR+1) c1,.pointer (some ⟨gb,4,none⟩),aA]
def fRG7 (w w3:aE)(gb gf gR nR cR g1 c1 nf cf:Nat)(cc l clk:Int)(i:Nat):Value:=(lRG7 w w3 gb gf gR nR cR g1 c1 nf cf cc l clk).getD i aA
variable {Q:Exit->tE->aE->Prop}{d:List Eo}{t0:Array aF}
theorem wp_RG7 (w w3:aE)(gb gf gR nR cR g1 c1 nf cf:Nat)(cc l clk:Int)(hz:t0.size=60)(Ts:t0.getD 2 aA=.pointer (some ⟨gb,0,none⟩))(zlp:t0.getD 3 aA=.pointer (some ⟨gb+1,0,none⟩))(zbW:t0.getD 6 aA=.slice (some ⟨gf,0,none⟩) nf cf)(h3:w.cell? ⟨gb,3,none⟩=some (.int .i64 clk))(h4:w.cell? ⟨gb,4,none⟩=some (.slice (some ⟨gR,0,none⟩) nR cR))(hq:w.cell? ⟨gb+1,0,none⟩=some (.int .i64 cc))(hf:w.cell? ⟨gf,0,none⟩=some (.int .i64 l))(D9:0<nf)(fH:(wG #[36,36] 36 #[.slice (some ⟨gR,0,none⟩) nR cR,.slice (some ⟨w.heap.size,0,none⟩) 1 1]).run aK ((w.alloc (.cells #[.int .i64 cc,.int .i64 l,.int .i64 0,.int .i64 clk,.int .i64 (-1),.int .i64 (-1),.string eJ] 107)).drew)=.ok (.slice (some ⟨g1,0,none⟩) (nR+1) c1) w3)(aX:w3.cell? ⟨gb,4,none⟩=some (.slice (some ⟨gR,0,none⟩) nR cR))(mH:w3.frozen? ⟨gb,4,none⟩=false)(h0:WRG7 w w3 gb gf gR nR cR g1 c1 nf cf cc l clk 0=w.drew)(hk:Q .normal ⟨cZ zfr (fRG7 w w3 gb gf gR nR cR g1 c1 nf cf cc l clk) t0,d⟩ (w3.setCell ⟨gb,4,none⟩ (.slice (some ⟨g1,0,none⟩) (nR+1) c1))):
 (Dl 7 zfr true).wp aK Q ⟨t0,d⟩ w:=by
 refine Ho (ws:=[10,11,13]) (Wd:=WRG7 w w3 gb gf gR nR cR g1 c1 nf cf cc l clk) (vals:=fRG7 w w3 gb gf gR nR cR g1 c1 nf cf cc l clk) vD.mixed aS aH aS h0 Ih (λV hU hV=>?_) hk;obtain⟨zEO,zwy,znm,zjk,zhG,zxo,zvO,zg8,zpx,zle,Vm,Zs,zkZ,-⟩:=Hn zwx hU;have e2:=(hV 2 aS).trans Ts;have e3:=(hV 3 aS).trans zlp;have e6:=(hV 6 aS).trans zbW;have zkk:w.drew.cell? ⟨gb,3,none⟩=some (.int .i64 clk):=h3;have Ki:w.drew.cell? ⟨gb,4,none⟩=some (.slice (some ⟨gR,0,none⟩) nR cR):=h4;have O9:w.drew.cell? ⟨gb+1,0,none⟩=some (.int .i64 cc):=hq;have Ak:w.drew.cell? ⟨gf,0,none⟩=some (.int .i64 l):=hf;refine λTf hT=>Hz ztT ⟨bP.pv,bP.any (λkk fJ hm=>?_),bP.pv,bP.ld,bP.pv,bP.any (λkk fJ hm=>?_),bP.ld,bP.pv,bP.ld,bP.any (λkk fJ hm=>?_),bP.act (v:=V 46) 0 rfl (dU rfl) ?_,bP.act (v:=V 47) 1 rfl (dU rfl) ?_,bP.pv,.skp 2 rfl (dU rfl) rfl ?_,trivial⟩
 .rcases kk with _|_|_|_|kk
  .show(aO _ _).run _ (w.drew)=vT _ (w.drew);have hh:w.drew.cell? _=_:=h4;unfold aO;go_simp
  .show(aO _ _).run _ ((w.alloc (.cells #[.int .i64 cc,.int .i64 l,.int .i64 0,.int .i64 clk,.int .i64 (-1),.int .i64 (-1),.string eJ] 107)).drew)=vT _ ((w.alloc (.cells #[.int .i64 cc,.int .i64 l,.int .i64 0,.int .i64 clk,.int .i64 (-1),.int .i64 (-1),.string eJ] 107)).drew);have hh:=An h4 (.cells #[.int .i64 cc,.int .i64 l,.int .i64 0,.int .i64 clk,.int .i64 (-1),.int .i64 (-1),.string eJ] 107);unfold aO;go_simp
  .exact absurd hm Fe
  .exact absurd hm Fe
  .simp at fJ
 .have aT:nf≠0:=by have:=D9;omega
  unfold aO;go_simp
 .unfold aO;go_simp;rfl
 .rw[Vm];show(aO _ _).run _ (w.drew)=vT _ ((w.alloc (.cells #[.int .i64 cc,.int .i64 l,.int .i64 0,.int .i64 clk,.int .i64 (-1),.int .i64 (-1),.string eJ] 107)).drew);unfold aO;go_simp
 .rw[Zs];exact zae rfl (nK hT zwy) (nK hT Vm) fH
 .have hs:=aX;have hf:=mH;show(aO _ _).run _ (w3)=vT _ (w3.setCell ⟨gb,4,none⟩ (.slice (some ⟨g1,0,none⟩) (nR+1) c1));unfold aO;go_simp
def bodyRU:Go.Code:=(Tryd.f30.body).getD .skip
def rRU10:Go.Code:=match bodyRU with| .seq _ (.seq _ (.seq _ (.seq _ (.seq _ (.seq (a) _)))))=>a|_=>.skip
def zfc:Array Oper:=match rRU10 with| .region _ ops _=>ops|_=>#[]
def znB:zfc.toList=[⟨some 38,.fieldAddr 40 (.tmp 2) 2,0,"l6_office.go:185",#[],none⟩,⟨some 39,.load 36 (.tmp 38),36,"l6_office.go:185",#[⟨0,.data⟩],none⟩,⟨some 40,.fieldAddr 79 (.tmp 7) 0,0,"l6_office.go:185",#[],none⟩,⟨some 41,.load 3 (.tmp 40),3,"l6_office.go:185",#[⟨2,.data⟩],none⟩,⟨some 42,.move (.tmp 6),52,"l6_office.go:185",#[],none⟩,⟨some 43,.indexAddr 52 (.tmp 42) (.const (.int .i64 0)),0,"l6_office.go:185",#[⟨4,.data⟩],none⟩,⟨some 44,.load 3 (.tmp 43),3,"l6_office.go:185",#[⟨5,.data⟩],none⟩,⟨some 45,.move (.tmp 1),3,"l6_office.go:185",#[],none⟩,⟨some 46,.fieldAddr 40 (.tmp 2) 1,0,"l6_office.go:185",#[],none⟩,⟨some 47,.load 3 (.tmp 46),3,"l6_office.go:185",#[⟨8,.data⟩],none⟩,⟨some 48,.fieldAddr 40 (.tmp 2) 1,0,"l6_office.go:185",#[],none⟩,⟨some 49,.load 3 (.tmp 48),3,"l6_office.go:185",#[⟨10,.data⟩],none⟩,⟨some 50,.build 107 #[(0,.tmp 41),(1,.tmp 44),(2,.tmp 45),(3,.tmp 47),(4,.tmp 49),(5,.const (.int .i64 (-1))),(6,.const (.string {data:=#[111,112,101,110]}))],107,"l6_office.go:185",#[⟨3,.data⟩,⟨6,.data⟩,⟨7,.data⟩,⟨9,.data⟩,⟨11,.data⟩],none⟩,⟨some 51,.buildSlice 36 1 #[(0,.tmp 50)],36,"l6_office.go:185",#[⟨12,.data⟩],none⟩,⟨some 52,.call ⟨.builtin .append,#[.tmp 39,.tmp 51],#[36,36]⟩,36,"l6_office.go:185",#[⟨1,.data⟩,⟨13,.data⟩],none⟩,⟨some 53,.fieldAddr 40 (.tmp 2) 2,0,"l6_office.go:185",#[⟨0,.phase⟩,⟨1,.phase⟩,⟨2,.phase⟩,⟨3,.phase⟩,⟨4,.phase⟩,⟨5,.phase⟩,⟨6,.phase⟩,⟨7,.phase⟩,⟨8,.phase⟩,⟨9,.phase⟩,⟨10,.phase⟩,⟨11,.phase⟩,⟨12,.phase⟩,⟨13,.phase⟩,⟨14,.phase⟩],none⟩,⟨none,.store 36 (.tmp 53) (.tmp 52),0,"l6_office.go:185",#[⟨15,.data⟩,⟨14,.data⟩,⟨14,.chain⟩,⟨0,.phase⟩,⟨1,.phase⟩,⟨2,.phase⟩,⟨3,.phase⟩,⟨4,.phase⟩,⟨5,.phase⟩,⟨6,.phase⟩,⟨7,.phase⟩,⟨8,.phase⟩,⟨9,.phase⟩,⟨10,.phase⟩,⟨11,.phase⟩,⟨12,.phase⟩,⟨13,.phase⟩,⟨14,.phase⟩],none⟩]:=rfl
def zw8 (w w3:aE)(gb gc gf gR nR cR g1 c1 nf cf:Nat)(cc l op clk:Int):Nat->aE
 |0=>w.drew
 |1=>(w.alloc (.cells #[.int .i64 cc,.int .i64 l,.int .i64 op,.int .i64 clk,.int .i64 clk,.int .i64 (-1),.string eJ] 107)).drew
 |2=>w3
 |_=>w3.setCell ⟨gb,4,none⟩ (.slice (some ⟨g1,0,none⟩) (nR+1) c1)
theorem znw:zfc.toList.map (·.dst)=[some 38,some 39,some 40,some 41,some 42,some 43,some 44,some 45,some 46,some 47,some 48,some 49,some 50,some 51,some 52,some 53,none]:=by rw[znB];rfl
def zpc (w w3:aE)(gb gc gf gR nR cR g1 c1 nf cf:Nat)(cc l op clk:Int):List Value:=[.pointer (some ⟨gb,4,none⟩),.slice (some ⟨gR,0,none⟩) nR cR,.pointer (some ⟨gc,0,none⟩),.int .i64 (cc),.slice (some ⟨gf,0,none⟩) nf cf,.pointer (some ⟨gf,0,none⟩),.int .i64 (l),.int .i64 (op),.pointer (some ⟨gb,3,none⟩),.int .i64 (clk),.pointer (some ⟨gb,3,none⟩),.int .i64 (clk),.agg #[.int .i64 cc,.int .i64 l,.int .i64 op,.int .i64 clk,.int .i64 clk,.int .i64 (-1),.string eJ],.slice (some ⟨w.heap.size,0,none⟩) 1 1,.slice (some ⟨g1,0,none⟩) (nR+1) c1,.pointer (some ⟨gb,4,none⟩),aA]
def zlc (w w3:aE)(gb gc gf gR nR cR g1 c1 nf cf:Nat)(cc l op clk:Int)(i:Nat):Value:=(zpc w w3 gb gc gf gR nR cR g1 c1 nf cf cc l op clk).getD i aA
theorem zIc (w w3:aE)(gb gc gf gR nR cR g1 c1 nf cf:Nat)(cc l op clk:Int)(hz:t0.size=59)(Eu:t0.getD 1 aA=.int .i64 (op))(Ts:t0.getD 2 aA=.pointer (some ⟨gb,0,none⟩))(zbW:t0.getD 6 aA=.slice (some ⟨gf,0,none⟩) nf cf)(Dy:t0.getD 7 aA=.pointer (some ⟨gc,0,none⟩))(h3:w.cell? ⟨gb,3,none⟩=some (.int .i64 clk))(h4:w.cell? ⟨gb,4,none⟩=some (.slice (some ⟨gR,0,none⟩) nR cR))(hq:w.cell? ⟨gc,0,none⟩=some (.int .i64 cc))(hf:w.cell? ⟨gf,0,none⟩=some (.int .i64 l))(D9:0<nf)(fH:(wG #[36,36] 36 #[.slice (some ⟨gR,0,none⟩) nR cR,.slice (some ⟨w.heap.size,0,none⟩) 1 1]).run aK ((w.alloc (.cells #[.int .i64 cc,.int .i64 l,.int .i64 op,.int .i64 clk,.int .i64 clk,.int .i64 (-1),.string eJ] 107)).drew)=.ok (.slice (some ⟨g1,0,none⟩) (nR+1) c1) w3)(aX:w3.cell? ⟨gb,4,none⟩=some (.slice (some ⟨gR,0,none⟩) nR cR))(mH:w3.frozen? ⟨gb,4,none⟩=false)(h0:zw8 w w3 gb gc gf gR nR cR g1 c1 nf cf cc l op clk 0=w.drew)(hk:Q .normal ⟨cZ zfc (zlc w w3 gb gc gf gR nR cR g1 c1 nf cf cc l op clk) t0,d⟩ (w3.setCell ⟨gb,4,none⟩ (.slice (some ⟨g1,0,none⟩) (nR+1) c1))):
 (Dl 10 zfc true).wp aK Q ⟨t0,d⟩ w:=by
 refine Ho (ws:=[13,14,16]) (Wd:=zw8 w w3 gb gc gf gR nR cR g1 c1 nf cf cc l op clk) (vals:=zlc w w3 gb gc gf gR nR cR g1 c1 nf cf cc l op clk) vD.mixed aS aH aS h0 Ih (λV hU hV=>?_) hk;obtain⟨znm,zjk,zhG,zxo,zvO,zg8,zpx,zle,Vm,Zs,zkZ,X1,zf7,Vl,X4,zmd,-⟩:=Hn znw hU;have e1:=(hV 1 aS).trans Eu;have e2:=(hV 2 aS).trans Ts;have e6:=(hV 6 aS).trans zbW;have e7:=(hV 7 aS).trans Dy;have zkk:w.drew.cell? ⟨gb,3,none⟩=some (.int .i64 clk):=h3;have Ki:w.drew.cell? ⟨gb,4,none⟩=some (.slice (some ⟨gR,0,none⟩) nR cR):=h4;have O9:w.drew.cell? ⟨gc,0,none⟩=some (.int .i64 cc):=hq;have Ak:w.drew.cell? ⟨gf,0,none⟩=some (.int .i64 l):=hf;refine λTf hT=>Hz znB ⟨bP.pv,bP.any (λkk fJ hm=>?_),bP.pv,bP.ld,bP.pv,bP.any (λkk fJ hm=>?_),bP.ld,bP.pv,bP.pv,bP.ld,bP.pv,bP.ld,bP.any (λkk fJ hm=>?_),bP.act (v:=V 51) 0 rfl (dU rfl) ?_,bP.act (v:=V 52) 1 rfl (dU rfl) ?_,bP.pv,.skp 2 rfl (dU rfl) rfl ?_,trivial⟩
 .rcases kk with _|_|_|_|kk
  .show(aO _ _).run _ (w.drew)=vT _ (w.drew);have hh:w.drew.cell? _=_:=h4;unfold aO;go_simp
  .show(aO _ _).run _ ((w.alloc (.cells #[.int .i64 cc,.int .i64 l,.int .i64 op,.int .i64 clk,.int .i64 clk,.int .i64 (-1),.string eJ] 107)).drew)=vT _ ((w.alloc (.cells #[.int .i64 cc,.int .i64 l,.int .i64 op,.int .i64 clk,.int .i64 clk,.int .i64 (-1),.string eJ] 107)).drew);have hh:=An h4 (.cells #[.int .i64 cc,.int .i64 l,.int .i64 op,.int .i64 clk,.int .i64 clk,.int .i64 (-1),.string eJ] 107);unfold aO;go_simp
  .exact absurd hm Fe
  .exact absurd hm Fe
  .simp at fJ
 .have aT:nf≠0:=by have:=D9;omega
  unfold aO;go_simp
 .unfold aO;go_simp;rfl
 .rw[Vl];show(aO _ _).run _ (w.drew)=vT _ ((w.alloc (.cells #[.int .i64 cc,.int .i64 l,.int .i64 op,.int .i64 clk,.int .i64 clk,.int .i64 (-1),.string eJ] 107)).drew);unfold aO;go_simp
 .rw[X4];exact zae rfl (nK hT zjk) (nK hT Vl) fH
 .have hs:=aX;have hf:=mH;show(aO _ _).run _ (w3)=vT _ (w3.setCell ⟨gb,4,none⟩ (.slice (some ⟨g1,0,none⟩) (nR+1) c1));unfold aO;go_simp
def bodyWT:Go.Code:=(Tryd.f32.body).getD .skip
def rWT10:Go.Code:=match bodyWT with| .seq _ (.seq _ (.seq _ (.seq _ (.seq (.seq _ (.block _ (.loop (.seq _ (.seq (.block _ (.seq _ (.seq _ (.cond _ (.seq _ (.seq (a) _)) _)))) _))))) _))))=>a|_=>.skip
def zdw:Array Oper:=match rWT10 with| .region _ ops _=>ops|_=>#[]
def zsW:zdw.toList=[⟨some 51,.fieldAddr 40 (.tmp 2) 4,0,"l6_office.go:213",#[],none⟩,⟨some 52,.load 37 (.tmp 51),37,"l6_office.go:213",#[⟨0,.data⟩],none⟩,⟨some 53,.move (.tmp 7),37,"l6_office.go:213",#[],none⟩,⟨some 54,.move (.tmp 8),3,"l6_office.go:213",#[],none⟩,⟨some 55,.indexAddr 37 (.tmp 53) (.tmp 54),0,"l6_office.go:213",#[⟨2,.data⟩,⟨3,.data⟩],none⟩,⟨some 56,.load 79 (.tmp 55),79,"l6_office.go:213",#[⟨4,.data⟩],none⟩,⟨some 57,.buildSlice 37 1 #[(0,.tmp 56)],37,"l6_office.go:213",#[⟨5,.data⟩],none⟩,⟨some 58,.call ⟨.builtin .append,#[.tmp 52,.tmp 57],#[37,37]⟩,37,"l6_office.go:213",#[⟨1,.data⟩,⟨6,.data⟩],none⟩,⟨some 59,.fieldAddr 40 (.tmp 2) 4,0,"l6_office.go:213",#[⟨0,.phase⟩,⟨1,.phase⟩,⟨2,.phase⟩,⟨3,.phase⟩,⟨4,.phase⟩,⟨5,.phase⟩,⟨6,.phase⟩,⟨7,.phase⟩],none⟩,⟨none,.store 37 (.tmp 59) (.tmp 58),0,"l6_office.go:213",#[⟨8,.data⟩,⟨7,.data⟩,⟨7,.chain⟩,⟨0,.phase⟩,⟨1,.phase⟩,⟨2,.phase⟩,⟨3,.phase⟩,⟨4,.phase⟩,⟨5,.phase⟩,⟨6,.phase⟩,⟨7,.phase⟩],none⟩]:=rfl
def zpW (w w3:aE)(gb gW nW cW gB nB cB g1 c1 k:Nat)(xc xp:Int):Nat->aE
 |0=>w.drew
 |1=>(w.alloc (.cells #[.int .i64 xc,.int .i64 xp] 79)).drew
 |2=>w3
 |_=>w3.setCell ⟨gb,6,none⟩ (.slice (some ⟨g1,0,none⟩) (nB+1) c1)
theorem zt3:zdw.toList.map (·.dst)=[some 51,some 52,some 53,some 54,some 55,some 56,some 57,some 58,some 59,none]:=by rw[zsW];rfl
def zn9 (w w3:aE)(gb gW nW cW gB nB cB g1 c1 k:Nat)(xc xp:Int):List Value:=[.pointer (some ⟨gb,6,none⟩),.slice (some ⟨gB,0,none⟩) nB cB,.slice (some ⟨gW,0,none⟩) nW cW,.int .i64 (k:Int),.pointer (some ⟨gW,k*2,none⟩),.agg #[.int .i64 xc,.int .i64 xp],.slice (some ⟨w.heap.size,0,none⟩) 1 1,.slice (some ⟨g1,0,none⟩) (nB+1) c1,.pointer (some ⟨gb,6,none⟩),aA]
def zju (w w3:aE)(gb gW nW cW gB nB cB g1 c1 k:Nat)(xc xp:Int)(i:Nat):Value:=(zn9 w w3 gb gW nW cW gB nB cB g1 c1 k xc xp).getD i aA
theorem zzd (w w3:aE)(gb gW nW cW gB nB cB g1 c1 k:Nat)(xc xp:Int)(hz:t0.size=71)(Ts:t0.getD 2 aA=.pointer (some ⟨gb,0,none⟩))(Dy:t0.getD 7 aA=.slice (some ⟨gW,0,none⟩) nW cW)(zmq:t0.getD 8 aA=.int .i64 (k:Int))(h6:w.cell? ⟨gb,6,none⟩=some (.slice (some ⟨gB,0,none⟩) nB cB))(sH:w.cell? ⟨gW,k*2,none⟩=some (.int .i64 xc))(Dt:w.cell? ⟨gW,k*2+1,none⟩=some (.int .i64 xp))(rT:k<nW)(fH:(wG #[37,37] 37 #[.slice (some ⟨gB,0,none⟩) nB cB,.slice (some ⟨w.heap.size,0,none⟩) 1 1]).run aK ((w.alloc (.cells #[.int .i64 xc,.int .i64 xp] 79)).drew)=.ok (.slice (some ⟨g1,0,none⟩) (nB+1) c1) w3)(aX:w3.cell? ⟨gb,6,none⟩=some (.slice (some ⟨gB,0,none⟩) nB cB))(mH:w3.frozen? ⟨gb,6,none⟩=false)(h0:zpW w w3 gb gW nW cW gB nB cB g1 c1 k xc xp 0=w.drew)(hk:Q .normal ⟨cZ zdw (zju w w3 gb gW nW cW gB nB cB g1 c1 k xc xp) t0,d⟩ (w3.setCell ⟨gb,6,none⟩ (.slice (some ⟨g1,0,none⟩) (nB+1) c1))):
 (Dl 10 zdw true).wp aK Q ⟨t0,d⟩ w:=by
 refine Ho (ws:=[6,7,9]) (Wd:=zpW w w3 gb gW nW cW gB nB cB g1 c1 k xc xp) (vals:=zju w w3 gb gW nW cW gB nB cB g1 c1 k xc xp) vD.mixed aS aH aS h0 Ih (λV hU hV=>?_) hk;obtain⟨Vl,X4,zmd,znl,zKr,zK3,zrF,ztF,zCo,-⟩:=Hn zt3 hU;have e2:=(hV 2 aS).trans Ts;have e7:=(hV 7 aS).trans Dy;have e8:=(hV 8 aS).trans zmq;have zJK:w.drew.cell? ⟨gb,6,none⟩=some (.slice (some ⟨gB,0,none⟩) nB cB):=h6;have zLu:w.drew.cell? ⟨gW,k*2,none⟩=some (.int .i64 xc):=sH;have zJP:w.drew.cell? ⟨gW,k*2+1,none⟩=some (.int .i64 xp):=Dt;refine λTf hT=>Hz zsW ⟨bP.pv,bP.any (λkk fJ hm=>?_),bP.pv,bP.pv,bP.any (λkk fJ hm=>?_),bP.ld,bP.act (v:=V 57) 0 rfl (dU rfl) ?_,bP.act (v:=V 58) 1 rfl (dU rfl) ?_,bP.pv,.skp 2 rfl (dU rfl) rfl ?_,trivial⟩
 .rcases kk with _|_|_|_|kk
  .show(aO _ _).run _ (w.drew)=vT _ (w.drew);have hh:w.drew.cell? _=_:=h6;unfold aO;go_simp
  .show(aO _ _).run _ ((w.alloc (.cells #[.int .i64 xc,.int .i64 xp] 79)).drew)=vT _ ((w.alloc (.cells #[.int .i64 xc,.int .i64 xp] 79)).drew);have hh:=An h6 (.cells #[.int .i64 xc,.int .i64 xp] 79);unfold aO;go_simp
  .exact absurd hm Fe
  .exact absurd hm Fe
  .simp at fJ
 .have i0:(0:Int)<=(k:Int):=aD
  have i1:(k:Int)<(nW:Int):=by have:=rT;omega
  unfold aO;go_simp
 .rw[zrF];show(aO _ _).run _ (w.drew)=vT _ ((w.alloc (.cells #[.int .i64 xc,.int .i64 xp] 79)).drew);unfold aO;go_simp
 .rw[ztF];exact zae rfl (nK hT X4) (nK hT zrF) fH
 .have hs:=aX;have hf:=mH;show(aO _ _).run _ (w3)=vT _ (w3.setCell ⟨gb,6,none⟩ (.slice (some ⟨g1,0,none⟩) (nB+1) c1));unfold aO;go_simp
end Go.Proofs.YtfcjiloojkjaeaaDoor
namespace Go.Proofs.YtfcjiloojkjaeaaDoor
open Go.RowKit
def Yr (lo:Nat)(v:fD)(w:aE)(bt:b6×List UInt8)(x:Ending)(w':aE):Prop:=
 ∃v',x=.returned (.tuple #[.agg (fO v' bt.1),.string ⟨bt.2.toArray⟩])/\dR w' lo v' bt.1/\n5 v w w'/\vX w.heap.size v v'
structure Sa (r:b6):Prop where
 off:qY r.o=true
 nr:r.recs.length<=1000
 nw:r.wait.length<=1000
 nb:r.back.length<=5000
 nl:r.log.length<=1000
 clk:0<=r.clk/\r.clk<=100000
abbrev Gd (c:bJ):Obj:=.cells #[.int .i64 c.c,.int .i64 c.p] 79
variable {o:Option Nat}{i:Nat}
theorem Uy (h:o=some i):Fj o=(i:Int):=by rw[h];rfl
theorem zfM (h:o=none):Fj o= -1:=by rw[h];rfl
variable {o:jE}{rs:List bR}{l:Int}
theorem zf1 (h:l∈n6 o rs):1<=l/\l<=o.ln:=by
 unfold n6 xR at h;rw[H5,Hv] at h;obtain⟨⟨i,hi,rfl⟩,_⟩:=h;rw[B6] at hi;omega
variable {b:b6}
theorem zr3 {c:bJ}(h:(jD b.recs c.c).isSome=true\/(uX b.back c.c).isSome=true):pL b c=(b,[107,110,111,119,110]):=by
 unfold pL;rw[if_pos (by rcases h with h|h<;>simp[h])]
theorem zB1 (lo:Nat)(v:fD)(r:b6)(c:bJ)(w:aE)(h:dR w lo v r)(hs:Sa r)(dY:lo<=w.heap.size):
 iE aK 28 #[.agg (fO v r),.agg #[.int .i64 c.c,.int .i64 c.p]] w (Yr lo v w (pL r c)):=by
 obtain⟨gb,eK⟩:=aU w.heap.size;have hl:=h.lts;obtain⟨O,hO⟩:=aU (.cells (fO v r) 40:Obj);obtain⟨C,hC⟩:=aU (.cells #[.int .i64 c.c,.int .i64 c.p] 79:Obj);obtain⟨Z,hZ⟩:=aU (jO:Obj);have kW:(((w.alloc O).alloc C).alloc Z).heap[gb]? =some (Ew v r):=by rw[hO,eK];exact dF (dF (lO _ _) _) _
 have n8:(((w.alloc O).alloc C).alloc Z).heap[gb+1]? =some (Gd c):=by rw[hC,eK];exact dF (mX _ _ aQ) _
 have uU:(((w.alloc O).alloc C).alloc Z).heap[gb+2]? =some jO:=by rw[<-hZ];exact mX _ _ X9
 have lF:=aC (((h.alloc O).alloc C).alloc Z);have D7:=aC (n5.of_below v (dO (dO (dO (eR w.heap.size w) O) C) Z));have oU:=aC (show(((w.alloc O).alloc C).alloc Z).heap.size=gb+3 by rw[eK];simp);have Cc:=aC kW;have zbT:=aC n8;have zup:=aC uU;have HO:=aC hO;have HC:=aC hC;have HZ:=aC (show Z=.cells #[.int .i64 0,.int .i64 0,.int .i64 0,.int .i64 0,.slice none 0 0,.slice none 0 0,.slice none 0 0,.slice none 0 0] 40 from hZ);have fK:=aC eK;have HL:=aC hl;clear hO hC hZ eK kW n8 uU h hl
 go_enter Tryd.func28,Tryd.ntmps28
 go_upto_region 1 with fail
 rw[<-HO.o,<-HC.o,<-HZ.o,<-fK.o];obtain⟨W1,dC⟩:=aU (((w.alloc O).alloc C).alloc Z);rw[<-dC] at Cc zbT zup lF D7 oU⊢;clear dC;have k:=aJ Cc.o;obtain⟨k0,k1,k2,k3,k4,k5,k6,k7⟩:=eF k;clear k;have Pp:=hs.nr
 go_upto_region 2 with(go_at_call 53;refine(zr5 lo v r W1 lF.o aD hs.off).mono ?_;rintro x w2 ⟨_,rfl,gf,cf,rfl,cP,b2⟩;have Qu:=aC cP;have rH:=aC b2;clear cP b2)
 have lC:=aC (lF.o.below rH.o);have Qr:=aC (D7.o.same (n5.of_below v rH.o));have Gl:=(iS rH.o Cc.o).1;have G6:=(iS rH.o zbT.o).1;have jK:=aC (iS rH.o zup.o).1;have zjH:=aC Gl;have zhH:=aC G6;have zdt:=aC (show gb+3<=w2.heap.size by have:=rH.o.size;have:=oU.o;omega);have zbI:=aC (Qu.o.lt gf rfl);clear k0 k1 k2 k3 k4 k5 k6 k7;have k:=aJ Gl;obtain⟨k0,k1,k2,k3,k4,k5,k6,k7⟩:=eF k;have q:=aJ G6;have q0:=q 0;have q1:=q 1;have r0:=eL jK.o;have z:=aJ jK.o;obtain⟨z0,z1,z2,z3,z4,z5,z6,z7⟩:=eF z;have uV:=aC lC.o.slcR;have Ee:=aC lC.o.slcB;have nE:=hs.nb;clear k q z Gl G6;rcases hop:jD r.recs c.c with _|i
 .have zcc:=aC (zfM hop)
  rcases tW:uX r.back c.c with _|j
  .have Po:=aC (zfM tW)
   have eO:=aC (show gG w w2 lo gb 3 v v r from⟨lC.o,Qr.o,vX.refl _ _,fK.o,zjH.o,zdt.o,aD,by have:=HL.o;have:=fK.o;omega,by have:=HL.o;have:=fK.o;omega,by have:=HL.o;have:=fK.o;omega,by have:=HL.o;have:=fK.o;omega,by rw[fK.o];exact dY⟩);rcases fI:n6 r.o r.recs with _|⟨l,fs⟩
   .have eZ:=aC (show pL r c=({r with back:=r.back++[c]},[98,117,115,121]) by unfold pL;rw[if_neg (by simp[hop,tW]),fI])
    simp only[tV];clear hop tW fI;obtain⟨i0,fL,jJ,eE,kZ⟩:=y3 zex;have HI:=aC fL;clear fL
    go_upto_region 6 with(first
     |(go_at_call 54;refine(Iy lo w2.heap.size r.recs.length v.cR (some ⟨v.gR,0,none⟩) r.recs c.c w2 uV.o aD).mono ?_;rintro x w' ⟨rfl,jH⟩;obtain rfl:=jH.symm;rw[zcc.o])
     |(go_at_call 55;refine(Zb lo w2.heap.size r.back.length v.cB (some ⟨v.gB,0,none⟩) r.back c.c w2 Ee.o aD).mono ?_;rintro x w' ⟨rfl,jH⟩;obtain rfl:=jH.symm;rw[Po.o])
     |(at_builtin;refine zjg _ rfl (.tmp 30) (.tmp 32) 37 rfl lo 79 i0 (.agg #[.int .i64 0,.int .i64 0]) 2 16 Je HI.o jJ eE kZ rfl aH v.gB v.cB r.back.length (bF r.back) rfl ((lC.o.alloc _).bk) ⟨_,0,none⟩ 1 1 c.cells rfl rfl ?c2 Ru ?c5 ?c6 ?c7 ?_;(case c2=>exact Em (cs:=c.cells.toArray) (lO _ _));(case c5=>unfold maxLen;omega);(case c6=>omega);(case c7=>(have:=eO.o.lob;have:=zdt.o;simp;omega));intro g1 c1 w3 sM rA B1 G9;have Bv:=aC ((eO.o.alloc _).appB rA sM rfl G9);have zI0:=aC (y8 rA (dF jK.o _) (by have:=eO.o.aB;omega));have kx:=(y8 rA (dF zjH.o _) (by have:=eO.o.aB;omega)).1;have On:=aJ kx 6;have vZ:=eL kx;clear sM rA B1 G9 kx))
    obtain⟨W4,rW⟩:=aU (w3.setCell ⟨gb,6,none⟩ (.slice (some ⟨g1,0,none⟩) (r.back.length+1) c1));rw[<-rW] at Bv⊢;have zyF:=aC (show W4.heap[gb+2]? =some jO by rw[rW];exact(dZ w3 _ _ (gb+2) zgu).trans zI0.o.1);clear rW On vZ;obtain⟨v4,Gr⟩:=aU ({v with gB:=g1,cB:=c1}:fD);obtain⟨r4,zkl⟩:=aU ({r with back:=r.back++[c]}:b6);rw[<-Gr,<-zkl] at Bv;rw[<-zkl] at eZ;clear Gr zkl;have k:=aJ Bv.o.blk;obtain⟨k0,k1,k2,k3,k4,k5,k6,k7⟩:=eF k;have jK:=zyF;have z:=aJ jK.o;obtain⟨z0,z1,z2,z3,z4,z5,z6,z7⟩:=eF z;have r0:=eL jK.o;clear k z
    go_wp2_with fail
    have er:=aJ (sJ v4 r4 jK.o);refine qP (v:=.tuple #[.agg (fO (v4) (r4)),.string ⟨([98,117,115,121]:List UInt8).toArray⟩]) ?_ rfl ?_
    .unfold gI at er
     simp[results,zd9,go_sem,er]
    .rw[eZ.o]
     obtain⟨d1,d2,d3⟩:=Bv.o.done (b:=gb+2) aD;exact⟨v4,rfl,d1,d2,d3⟩
   .obtain⟨nf,D9⟩:=aU ((l::fs).length)
    have x5:=zk7 r.recs r.o.ln.toNat;have zl3:=(Cd hs.off).2.1;have Dc:(n6 r.o r.recs).length=nf:=by rw[fI,D9]
    have zC0:nf<=6:=by unfold n6 at Dc;omega
    have zBB:0<nf:=by rw[D9];simp
    have V9:=zf1 (o:=r.o) (rs:=r.recs) (l:=l) (by rw[fI];simp);have O1:=aC (show w2.ownsRow W1.heap.size 3 1 (.slice (some ⟨gf,0,none⟩) nf cf) nf (jN (l::fs)) by have:=Qu.o;rw[Dc,fI] at this;exact this);have Jk:w2.cell? ⟨gf,0,none⟩=some (.int .i64 l):=O1.o.cellAt 0 aD;rw[<-D9];have eZ:=aC (show pL r c=({r with recs:=r.recs++[⟨c.c,l,0,r.clk,-1,-1,eJ⟩],wait:=sV r.wait c},[108,105,110,101,32]++jC l) by unfold pL;rw[if_neg (by simp[hop,tW]),fI]);have znv:=aC V9;have mH:((nf:Int)==0)=false:=rF;have zAF:(0:Int)<(nf:Int):=aD;clear hop tW fI D9 x5 zl3 Dc V9
    go_upto_region 7 with(first
     |(go_at_call 54;refine(Iy lo w2.heap.size r.recs.length v.cR (some ⟨v.gR,0,none⟩) r.recs c.c w2 uV.o aD).mono ?_;rintro x w' ⟨rfl,jH⟩;obtain rfl:=jH.symm;rw[zcc.o])
     |(go_at_call 55;refine(Zb lo w2.heap.size r.back.length v.cB (some ⟨v.gB,0,none⟩) r.back c.c w2 Ee.o aD).mono ?_;rintro x w' ⟨rfl,jH⟩;obtain rfl:=jH.symm;rw[Po.o]))
    go_cut [] from 36 to 48 (λwx=>∃g1 c1,gG w wx lo gb 3 v {v with gR:=g1,cR:=c1} {r with recs:=r.recs++[⟨c.c,l,0,r.clk,-1,-1,eJ⟩]}/\wx.heap[gb+1]? =some (Gd c)/\wx.heap[gb+2]? =some jO/\wx.ownsRow W1.heap.size 3 1 (.slice (some ⟨gf,0,none⟩) nf cf) nf (jN (l::fs)))
    case first=>
     obtain⟨i0,fL,jJ,eE,kZ⟩:=y3 zuh;have HI:=aC fL;clear fL;have zLv:=zbI.o;have zKE:gb+3<=W1.heap.size:=by have:=oU.o;omega
     have ziP:v.gR<gb:=by have:=HL.o;have:=fK.o;omega
     have kB:∀o:Obj,(w2.alloc o).cell? ⟨gb,4,none⟩=some (v.sR r):=λo=>An k4 o;have zmf:gb<w2.heap.size:=by have:=zdt.o;omega
     have S0:w2.cell? ⟨gb,3,none⟩=some (.int .i64 r.clk)/\w2.cell? ⟨gb+1,0,none⟩=some (.int .i64 c.c)/\w2.cell? ⟨gf,0,none⟩=some (.int .i64 l):=⟨k3,q0,Jk⟩;have Cv:=aC S0;have zMc:gf≠gb:=aD;clear S0;obtain⟨g1,c1,w3,fH,sM,rA,B1,G9⟩:=zgH (P:=aK) (w2.alloc (.cells #[.int .i64 c.c,.int .i64 l,.int .i64 0,.int .i64 r.clk,.int .i64 (-1),.int .i64 (-1),.string eJ] 107)).drew 36 36 lo 107 i0 (.agg #[.int .i64 0,.int .i64 0,.int .i64 0,.int .i64 0,.int .i64 0,.int .i64 0,.string ⟨#[]⟩]) 7 64 zo7 HI.o jJ eE kZ rfl aH v.gR v.cR r.recs.length (recs r.recs) (Af lC.o.rc (λb hb=>tL _ _ b hb)) ⟨w2.heap.size,0,none⟩ 1 1 (bR.cells ⟨c.c,l,0,r.clk,-1,-1,eJ⟩) rfl (Em (cs:=(bR.cells ⟨c.c,l,0,r.clk,-1,-1,eJ⟩).toArray) (lO _ _)) zlR V8 aD (by have:=eO.o.lob;have:=zdt.o;simp;omega);have r8:=aC rA;have zab:=aC sM;have za1:=aC G9;have kx:=(y8 rA (dF zjH.o _) aD).1;have zcq:=aJ kx 4;have vZ:=eL kx;clear sM rA B1 G9 kx;refine wp_RG7 w2 w3 gb gf v.gR r.recs.length v.cR g1 c1 nf cf c.c l r.clk rfl rfl rfl rfl k3 k4 q0 Jk aD fH zcq (vZ _) rfl ?_;clear fH zcq vZ;rw[Go.Mt.zY,zwx];simp only[Go.Mt.wO,dV,dX,fRG7,lRG7,C4,Cm]
     go_wp2_with fail
     go_meet
     have zAZ:gf≠v.gR:=aD;refine⟨g1,c1,((eO.o.alloc _).drew).appR r8.o zab.o rfl za1.o,?_,?_,?_⟩
     .exact(dZ w3 _ _ (gb+1) Qx).trans (y8 r8.o (Kl (dF zhH.o _)) aD).1
     .exact(dZ w3 _ _ (gb+2) zgu).trans (y8 r8.o (Kl (dF jK.o _)) aD).1
     .exact Bq O1.o ((dZ w3 _ _ gf zje).trans ((r8.o.block gf rF (by simp;exact zAZ)).trans (tL _ _ gf aD)))
    case rest=>
     obtain⟨g1,c1,Ag,G6,Gl,fI⟩:=hcut;clear k0 k1 k2 k3 k4 k5 k6 k7 q0 q1 z0 z1 z2 z3 z4 z5 z6 z7 r0 Jk;have U9:=aC Ag;have zhH:=aC G6;have jK:=aC Gl;have O1:=aC fI;obtain⟨v1,mJ⟩:=aU ({v with gR:=g1,cR:=c1}:fD);obtain⟨r1,jT⟩:=aU ({r with recs:=r.recs++[⟨c.c,l,0,r.clk,-1,-1,eJ⟩]}:b6);have zKt:=aC (show r1.wait=r.wait by rw[jT]);have zzF:r1.wait.length<=1000:=by rw[jT];exact hs.nw
     rw[<-mJ,<-jT] at U9;replace eZ:=aC (show pL r c=({r1 with wait:=sV r1.wait c},[108,105,110,101,32]++jC l) by rw[eZ.o,jT]);clear mJ jT Ag G6 Gl fI;have k:=aJ U9.o.blk;have k5:=k 5;have kf:=eL U9.o.blk;have q:=aJ zhH.o;have q0:=q 0;have q1:=q 1;clear k q
     go_upto_region 9 with(go_at_call 56;refine(zx9 lo wc.heap.size r1.wait.length v1.cW v1.gW r1.wait c wc U9.o.ok.slcW aD).mono ?_;rintro x w4 ⟨_,rfl,g4,c4,rfl,cP,b4⟩;have zdV:=aC cP;have zni:=aC b4;have kx:=(iS b4 U9.o.blk).1;have zlD:=aJ kx 5;have vZ:=eL kx;clear cP b4 kx)
     obtain⟨W5,zO⟩:=aU (w4.setCell ⟨gb,5,none⟩ (.slice (some ⟨g4,0,none⟩) (sV r1.wait c).length c4));have C7:=aC (show gG w W5 lo gb 3 v {v1 with gW:=g4,cW:=c4} {r1 with wait:=sV r1.wait c} by rw[zO];exact U9.o.setW zni.o zdV.o rfl);have rV:=aC (show W5.heap[gb+2]? =some jO by rw[zO];exact(dZ w4 _ _ (gb+2) zgu).trans (iS zni.o jK.o).1);have zu2:W5.ownsRow W1.heap.size 3 1 (.slice (some ⟨gf,0,none⟩) nf cf) nf (jN (l::fs)):=by
      rw[zO];have:=zbI.o;have:=oU.o;exact Bq O1.o ((dZ w4 _ _ gf zje).trans (zni.o.block gf (O1.o.lt gf rfl).2))
     have Jk:W5.cell? ⟨gf,0,none⟩=some (.int .i64 l):=zu2.cellAt 0 aD;rw[<-zO];clear zO zlD vZ k5 kf q0 q1 zu2;obtain⟨v5,mK⟩:=aU ({v1 with gW:=g4,cW:=c4}:fD);obtain⟨r5,fA⟩:=aU ({r1 with wait:=sV r1.wait c}:b6);rw[<-mK,<-fA] at C7;rw[<-fA] at eZ;clear mK fA;obtain⟨m,hm⟩:∃m:Nat,l=(m:Int):=⟨l.toNat,by have:=znv.o;omega⟩;have zbb:m<=100000000:=by have:=znv.o;have:=(Cd hs.off).2.1;omega
     have Ip:(Ld (m:Int)).length<=20:=by rw[Yg];exact Qv aD
     rw[hm] at Jk eZ;clear hm;have k:=aJ C7.o.blk;obtain⟨k0,k1,k2,k3,k4,k5,k6,k7⟩:=eF k;clear k
     go_wp2_with fail
     go_region_with (go_at_call 57;refine(zbA m zbb _).mono ?_;rintro x w6 ⟨rfl,tN⟩;have zB:bU W5.heap.size W5 w6:=⟨tN.os,tN.tape,tN.output,tN.size,tN.block⟩;have Jx:=aC zB;have k:=aJ (iS zB C7.o.blk).1;have r0:=eL (iS zB rV.o).1;have z:=aJ (iS zB rV.o).1;obtain⟨k0,k1,k2,k3,k4,k5,k6,k7⟩:=eF k;obtain⟨z0,z1,z2,z3,z4,z5,z6,z7⟩:=eF z;clear k z tN zB)
     all_goals
      go_wp2_with fail
      have Et:=C7.o.keep Jx.o;have Sv:=(iS Jx.o rV.o).1;have er:=aJ (sJ v5 r5 Sv);refine qP (v:=.tuple #[.agg (fO v5 r5),.string ⟨([108,105,110,101,32]++jC (m:Int):List UInt8).toArray⟩]) ?_ rfl ?_
      .unfold gI at er
       simp[results,zd9,go_sem,er,jC,Nf]
       done
      .rw[eZ.o]
       obtain⟨d1,d2,d3⟩:=Et.done (b:=gb+2) aD;exact⟨v5,rfl,d1,d2,d3⟩
  .have Po:=aC (Uy tW)
   have zhq:(0:Int)<=(j:Int):=aD;have eZ:=aC (zr3 (b:=r) (c:=c) (.inr (by rw[tW];rfl)));clear hop tW
   go_wp2_with (first
    |(go_at_call 54;refine(Iy lo w2.heap.size r.recs.length v.cR (some ⟨v.gR,0,none⟩) r.recs c.c w2 uV.o aD).mono ?_;rintro x w' ⟨rfl,jH⟩;obtain rfl:=jH.symm;rw[zcc.o])
    |(go_at_call 55;refine(Zb lo w2.heap.size r.back.length v.cB (some ⟨v.gB,0,none⟩) r.back c.c w2 Ee.o aD).mono ?_;rintro x w' ⟨rfl,jH⟩;obtain rfl:=jH.symm;rw[Po.o]))
   have er:=aJ (sJ v r jK.o);refine qP (v:=.tuple #[.agg (fO (v) (r)),.string ⟨([107,110,111,119,110]:List UInt8).toArray⟩]) ?_ rfl ?_
   .unfold gI at er
    simp[results,zd9,go_sem,er]
   .rw[eZ.o]
    have l:=HL.o;have gg:=fK.o;have l2:=lC.o.lts;exact⟨v,rfl,lC.o.set8 aD,Qr.o.set8 aD,vX.refl _ _⟩
 .have zcc:=aC (Uy hop)
  have fL:(0:Int)<=(i:Int):=aD;have eZ:=aC (zr3 (b:=r) (c:=c) (.inl (by rw[hop];rfl)));clear hop
  go_wp2_with (go_at_call 54;refine(Iy lo w2.heap.size r.recs.length v.cR (some ⟨v.gR,0,none⟩) r.recs c.c w2 uV.o aD).mono ?_;rintro x w' ⟨rfl,jH⟩;obtain rfl:=jH.symm;rw[zcc.o])
  have er:=aJ (sJ v r jK.o);refine qP (v:=.tuple #[.agg (fO (v) (r)),.string ⟨([107,110,111,119,110]:List UInt8).toArray⟩]) ?_ rfl ?_
  .unfold gI at er
   simp[results,zd9,go_sem,er]
  .rw[eZ.o]
   have l:=HL.o;have gg:=fK.o;have l2:=lC.o.lts;exact⟨v,rfl,lC.o.set8 aD,Qr.o.set8 aD,vX.refl _ _⟩
structure zgw (r:b6):Prop where
 has:∀x∈r.wait,(jD r.recs x.c).isSome=true
 num:∀x∈r.wait,1<=x.c/\x.c<=99
variable {c:Int}
theorem Ca (h:jD rs c=some i):∃d,rs[i]? =some d/\d.c=c/\eA d=true:=by
 unfold jD at h;rw[List.findIdx?_eq_some_iff_getElem] at h;obtain⟨hi,hp,_⟩:=h;refine⟨rs[i],lP hi,?_⟩;unfold zU at hp;simp at hp;exact hp
variable {w:aE}{r:b6}
def gG.widen {w0:aE}{lo gb:Nat}{v0 v:fD}(h:gG w0 w lo gb 2 v0 v r)(hg:v.gR<gb/\v.gW<gb/\v.gB<gb/\v.gL<gb)(hz:gb+3<=w.heap.size):gG w0 w lo gb 3 v0 v r:=
 ⟨h.ok,h.turn,h.moved,h.base,h.blk,hz,aD,.inl hg.1,.inl hg.2.1,.inl hg.2.2.1,.inl hg.2.2.2,h.lob⟩
theorem zDi (lo:Nat)(v:fD)(r:b6)(op:Int)(w:aE)(h:dR w lo v r)(hs:Sa r)(dY:lo<=w.heap.size)(hq:zgw r):
 iE aK 29 #[.agg (fO v r),.int .i64 op] w (Yr lo v w (nG r op)):=by
 obtain⟨gb,O,Z,fK,HO,HZ,eO,jK,oU,HL⟩:=zd4 h dY;clear h
 go_enter Tryd.func29,Tryd.ntmps29
 go_upto_region 1 with fail
 rw[<-HO.o,<-HZ.o,<-fK.o];obtain⟨W1,dC⟩:=aU ((w.alloc O).alloc Z);rw[<-dC] at eO jK oU⊢;clear dC;have k:=aJ eO.o.blk;obtain⟨k0,k1,k2,k3,k4,k5,k6,k7⟩:=eF k;clear k;have Pp:=hs.nr;have uV:=aC eO.o.ok.slcR;by_cases lI:0<dJ r.recs op
 .have eZ:=aC (show nG r op=(r,[116,97,108,107,115]) by unfold nG;rw[if_pos lI])
  go_upto_region 2 with(go_at_call 58;refine(P8 lo W1.heap.size r.recs.length v.cR (some ⟨v.gR,0,none⟩) r.recs op W1 uV.o aD).mono ?_;rintro x w2 ⟨rfl,jH⟩;obtain rfl:=jH.symm)
  clear k0 k1 k2 k3 k4 k5 k6 k7 lI;have k:=aJ eO.o.blk;obtain⟨k0,k1,k2,k3,k4,k5,k6,k7⟩:=eF k;clear k;have z:=aJ jK.o;obtain⟨z0,z1,z2,z3,z4,z5,z6,z7⟩:=eF z;clear z;have r0:=eL jK.o
  go_wp2_with fail
  have er:=aJ (sJ v r jK.o);refine qP (v:=.tuple #[.agg (fO (v) (r)),.string ⟨([116,97,108,107,115]:List UInt8).toArray⟩]) ?_ rfl ?_
  .unfold gI at er
   simp[results,zlg,go_sem,er]
  .rw[eZ.o]
   obtain⟨d1,d2,d3⟩:=eO.o.done (b:=gb+1) aD;exact⟨v,rfl,d1,d2,d3⟩
 .rcases cC:r.wait with _|⟨c,cs⟩
  .have eZ:=aC (show nG r op=(r,[110,111,110,101]) by unfold nG;rw[if_neg lI,cC])
   have En:r.wait.length=0:=by rw[cC];rfl
   have zm9:=aC (show v.sW r=.slice (some ⟨v.gW,0,none⟩) 0 v.cW by unfold fD.sW;rw[En]);have zo4:W1.cell? ⟨gb,5,none⟩=some (.slice (some ⟨v.gW,0,none⟩) 0 v.cW):=by rw[k5,<-zm9.o];rfl
   clear k5 En cC
   go_upto_region 4 with(go_at_call 58;refine(P8 lo W1.heap.size r.recs.length v.cR (some ⟨v.gR,0,none⟩) r.recs op W1 uV.o aD).mono ?_;rintro x w2 ⟨rfl,jH⟩;obtain rfl:=jH.symm)
   clear k0 k1 k2 k3 k4 zo4 k6 k7 lI;have k:=aJ eO.o.blk;obtain⟨k0,k1,k2,k3,k4,k5,k6,k7⟩:=eF k;clear k;have z:=aJ jK.o;obtain⟨z0,z1,z2,z3,z4,z5,z6,z7⟩:=eF z;clear z;have r0:=eL jK.o
   go_wp2_with fail
   have er:=aJ (sJ v r jK.o);refine qP (v:=.tuple #[.agg (fO (v) (r)),.string ⟨([110,111,110,101]:List UInt8).toArray⟩]) ?_ rfl ?_
   .unfold gI at er
    simp[results,zlg,go_sem,er]
   .rw[eZ.o]
    obtain⟨d1,d2,d3⟩:=eO.o.done (b:=gb+1) aD;exact⟨v,rfl,d1,d2,d3⟩
  .have hc:=hq.num c Vk
   obtain⟨i,vG⟩:=zik.1 (hq.has c Vk);obtain⟨d,hd,za4,-⟩:=Ca vG;have eZ:=aC (show nG r op=({r with recs:=r.recs.modify i λd=>{d with o:=op,h:=r.clk},wait:=dQ r.wait c.c},[99,97,108,108,32]++jC c.c) by unfold nG;rw[if_neg lI,cC];simp only[vG]);have En:0<r.wait.length:=by rw[cC];simp
   have zig:=aC (show r.wait[0]? =some c by rw[cC];rfl);have zi0:=eO.o.ok.slcW;have Q5:=aC zi0;obtain⟨b0,zGG,d0,Jg,-,-,-,sH,e0,e1⟩:=zi0.callsAt (k:=0) En;rw[zig.o] at sH;injection sH with sH;injection Jg with Jg;injection Jg with zH yX;subst zH yX sH;simp only[rL,zaS] at e0 e1;have zAg:(((r.wait.length:Nat):Int)==0)=false:=by simp;intro e;rw[e] at En;simp at En
   have i0:(0:Int)<(r.wait.length:Int):=aD;have Li:=aC (Uy vG);have HD:=aC hd;clear vG hd za4 cC zi0
   go_upto_region 5 with(go_at_call 58;refine(P8 lo W1.heap.size r.recs.length v.cR (some ⟨v.gR,0,none⟩) r.recs op W1 uV.o aD).mono ?_;rintro x w2 ⟨rfl,jH⟩;obtain rfl:=jH.symm)
   clear k0 k1 k2 k3 k4 k6 k7 lI
   go_upto_region 6 with fail
   rw[oU.o];obtain⟨W2,qC⟩:=aU (W1.alloc (Gd c));rw[<-qC];have zcz:=aC (show gG w W2 lo gb 3 v v r by rw[qC];exact(eO.o.alloc _).widen HL.o (by have:=oU.o;simp;omega));have Cn:=aC (show W2.heap[gb+1]? =some jO by rw[qC];exact dF jK.o _);have zxa:=aC (show W2.heap[gb+2]? =some (Gd c) by rw[qC];exact mX _ _ oU.o.symm);clear qC e0 e1 k5;have zIH:=aC zcz.o.ok.slcR;have k:=aJ zcz.o.blk;obtain⟨k0,k1,k2,k3,k4,k5,k6,k7⟩:=eF k;clear k;have q:=aJ zxa.o;have q0:=q 0;have q1:=q 1;clear q
   go_upto_region 7 with(go_at_call 54;refine(Iy lo W2.heap.size r.recs.length v.cR (some ⟨v.gR,0,none⟩) r.recs c.c W2 zIH.o aD).mono ?_;rintro x w2 ⟨rfl,jH⟩;obtain rfl:=jH.symm;rw[Li.o])
   have hi:=(jW.1 HD.o).1;have fL:(0:Int)<=(i:Int):=aD;have y5:(i:Int)<(r.recs.length:Int):=aD;obtain⟨c0,c1,c2,c3,c4,c5,c6⟩:=zcz.o.ok.recAt HD.o;have fz:=λj=>zcz.o.ok.rc.frozenAt j;have S1:=zcz.o.setR (λd=>{d with o:=op}) HD.o (j:=2) (u:=.int .i64 op) aH ztg rfl;have lZ:=aC S1;have Pa:gb+1≠v.gR:=by have:=HL.o;omega
   have zt1:gb+2≠v.gR:=by have:=HL.o;omega
   clear S1
   go_upto_region 8 with fail
   obtain⟨W3,rE⟩:=aU (W2.setCell ⟨v.gR,i*7+2,none⟩ (.int .i64 op));rw[<-rE] at lZ⊢;have za7:=aC (show W3.heap[gb+1]? =some jO by rw[rE];exact(dZ _ _ _ (gb+1) Pa).trans Cn.o);have zd8:=aC (show W3.heap[gb+2]? =some (Gd c) by rw[rE];exact(dZ _ _ _ (gb+2) zt1).trans zxa.o);have Aj:(r.recs.modify i λd=>{d with o:=op})[i]? =some {d with o:=op}:=by rw[zG];simp[HD.o]
   have zcM:=aC Aj;clear rE c0 c1 c2 c3 c4 c5 c6 fz k0 k1 k2 k3 k4 k5 k6 k7 q0 q1 Aj;obtain⟨r1,jT⟩:=aU ({r with recs:=r.recs.modify i λd=>{d with o:=op}}:b6);rw[<-jT] at lZ;have lF:=aC jT;have Ls:r1.recs.length=r.recs.length:=by rw[jT];exact Gj _ _ _
   have zvm:=aC (show r1.recs[i]? =some {d with o:=op} by rw[jT];exact zcM.o);have Km:(i:Int)<(r1.recs.length:Int):=by rw[Ls];exact y5
   clear jT Ls;have k:=aJ lZ.o.blk;obtain⟨k0,k1,k2,k3,k4,k5,k6,k7⟩:=eF k;clear k;obtain⟨c0,c1,c2,c3,c4,c5,c6⟩:=lZ.o.ok.recAt zvm.o;have fz:=λj=>lZ.o.ok.rc.frozenAt j;have S2:=lZ.o.setR (λd=>{d with h:=r1.clk}) zvm.o (j:=4) (u:=.int .i64 r1.clk) aH zpP rfl;have rP:=aC S2;clear S2
   go_upto_region 9 with fail
   obtain⟨W4,rW⟩:=aU (W3.setCell ⟨v.gR,i*7+4,none⟩ (.int .i64 r1.clk));rw[<-rW] at rP⊢;have Th:=aC (show W4.heap[gb+1]? =some jO by rw[rW];exact(dZ _ _ _ (gb+1) Pa).trans za7.o);have Xb:=aC (show W4.heap[gb+2]? =some (Gd c) by rw[rW];exact(dZ _ _ _ (gb+2) zt1).trans zd8.o);clear rW c0 c1 c2 c3 c4 c5 c6 fz k0 k1 k2 k3 k4 k5 k6 k7;obtain⟨r2,Uo⟩:=aU ({r1 with recs:=r1.recs.modify i λd=>{d with h:=r1.clk}}:b6);rw[<-Uo] at rP;have zLi:r2.wait.length<=1000:=by rw[Uo,lF.o];exact hs.nw
   replace eZ:=aC (show nG r op=({r2 with wait:=dQ r2.wait c.c},[99,97,108,108,32]++jC c.c) by rw[eZ.o,Uo,lF.o];simp only[zgF]);clear Uo;have zBm:=aC rP.o.ok.slcW;have k:=aJ rP.o.blk;obtain⟨k0,k1,k2,k3,k4,k5,k6,k7⟩:=eF k;clear k;have q:=aJ Xb.o;have q0:=q 0;have q1:=q 1;clear q;have kf:=eL rP.o.blk
   go_upto_region 10 with(go_at_call 59;refine(zdx lo W4.heap.size r2.wait.length v.cW (some ⟨v.gW,0,none⟩) r2.wait c.c W4 zBm.o aD).mono ?_;rintro x w5 ⟨_,rfl,g5,c5,rfl,cP,b5⟩;have zbv:=aC cP;have C0:=aC b5;have kx:=(iS b5 rP.o.blk).1;have zlD:=aJ kx 5;have vZ:=eL kx;clear cP b5 kx)
   obtain⟨W5,zO⟩:=aU (w5.setCell ⟨gb,5,none⟩ (.slice (some ⟨g5,0,none⟩) (dQ r2.wait c.c).length c5));have C7:=aC (show gG w W5 lo gb 3 v {v with gW:=g5,cW:=c5} {r2 with wait:=dQ r2.wait c.c} by rw[zO];exact rP.o.setW C0.o zbv.o rfl);have rV:=aC (show W5.heap[gb+1]? =some jO by rw[zO];exact(dZ w5 _ _ (gb+1) Qx).trans (iS C0.o Th.o).1);have zjn:=aC (show W5.heap[gb+2]? =some (Gd c) by rw[zO];exact(dZ w5 _ _ (gb+2) zgu).trans (iS C0.o Xb.o).1);rw[<-zO];clear zO zlD vZ kf q0 q1 k0 k1 k2 k3 k4 k5 k6 k7;obtain⟨v5,mK⟩:=aU ({v with gW:=g5,cW:=c5}:fD);obtain⟨r5,fA⟩:=aU ({r2 with wait:=dQ r2.wait c.c}:b6);rw[<-mK,<-fA] at C7;rw[<-fA] at eZ;clear mK fA;obtain⟨m,hm⟩:∃m:Nat,c.c=(m:Int):=⟨c.c.toNat,aD⟩;have zbb:m<=100000000:=aD;have Ip:(Ld (m:Int)).length<=20:=by rw[Yg];exact Qv aD
   have k:=aJ C7.o.blk;obtain⟨k0,k1,k2,k3,k4,k5,k6,k7⟩:=eF k;clear k;have q0:=aJ zjn.o 0;rw[hm] at q0 eZ;clear hm
   go_wp2_with fail
   go_region_with (go_at_call 57;refine(zbA m zbb _).mono ?_;rintro x w6 ⟨rfl,tN⟩;have zB:bU W5.heap.size W5 w6:=⟨tN.os,tN.tape,tN.output,tN.size,tN.block⟩;have Jx:=aC zB;have k:=aJ (iS zB C7.o.blk).1;have r0:=eL (iS zB rV.o).1;have z:=aJ (iS zB rV.o).1;obtain⟨k0,k1,k2,k3,k4,k5,k6,k7⟩:=eF k;obtain⟨z0,z1,z2,z3,z4,z5,z6,z7⟩:=eF z;clear k z tN zB)
   all_goals
    go_wp2_with fail
    have Et:=C7.o.keep Jx.o;have Sv:=(iS Jx.o rV.o).1;have er:=aJ (sJ v5 r5 Sv);refine qP (v:=.tuple #[.agg (fO (v5) (r5)),.string ⟨([99,97,108,108,32]++jC (m:Int):List UInt8).toArray⟩]) ?_ rfl ?_
    .unfold gI at er
     simp[results,zlg,go_sem,er,jC,Nf]
    .rw[eZ.o]
     obtain⟨d1,d2,d3⟩:=Et.done (b:=gb+1) aD;exact⟨v5,rfl,d1,d2,d3⟩
theorem zIg (lo:Nat)(v:fD)(r:b6)(op:Int)(w:aE)(h:dR w lo v r)(hs:Sa r)(dY:lo<=w.heap.size)(hq:∀x∈r.back,1<=x.c/\x.c<=99):
 iE aK 30 #[.agg (fO v r),.int .i64 op] w (Yr lo v w (lV r op)):=by
 obtain⟨gb,O,Z,fK,HO,HZ,eO,jK,oU,HL⟩:=zd4 h dY;clear h
 go_enter Tryd.func30,Tryd.ntmps30
 go_upto_region 1 with fail
 rw[<-HO.o,<-HZ.o,<-fK.o];obtain⟨W1,dC⟩:=aU ((w.alloc O).alloc Z);rw[<-dC] at eO jK oU⊢;clear dC;have k:=aJ eO.o.blk;obtain⟨k0,k1,k2,k3,k4,k5,k6,k7⟩:=eF k;clear k;have Pp:=hs.nr
 go_upto_region 2 with(go_at_call 53;refine(zr5 lo v r W1 eO.o.ok aD hs.off).mono ?_;rintro x w2 ⟨_,rfl,gf,cf,rfl,cP,b2⟩;have Qu:=aC cP;have rH:=aC b2;clear cP b2)
 have nC:=aC (eO.o.keep rH.o);have Cn:=aC (iS rH.o jK.o).1;have zbI:=aC (Qu.o.lt gf rfl);clear k0 k1 k2 k3 k4 k5 k6 k7;have k:=aJ nC.o.blk;obtain⟨k0,k1,k2,k3,k4,k5,k6,k7⟩:=eF k;clear k;have uV:=aC nC.o.ok.slcR;by_cases lI:0<dJ r.recs op
 .have eZ:=aC (show lV r op=(r,[116,97,108,107,115]) by unfold lV;rw[if_pos lI])
  go_upto_region 3 with(go_at_call 58;refine(P8 lo w2.heap.size r.recs.length v.cR (some ⟨v.gR,0,none⟩) r.recs op w2 uV.o aD).mono ?_;rintro x w9 ⟨rfl,jH⟩;obtain rfl:=jH.symm)
  clear k0 k1 k2 k3 k4 k5 k6 k7 lI;have k:=aJ nC.o.blk;obtain⟨k0,k1,k2,k3,k4,k5,k6,k7⟩:=eF k;clear k;have z:=aJ Cn.o;obtain⟨z0,z1,z2,z3,z4,z5,z6,z7⟩:=eF z;clear z;have r0:=eL Cn.o
  go_wp2_with fail
  have er:=aJ (sJ v r Cn.o);refine qP (v:=.tuple #[.agg (fO (v) (r)),.string ⟨([116,97,108,107,115]:List UInt8).toArray⟩]) ?_ rfl ?_
  .unfold gI at er
   simp[results,zdM,go_sem,er]
  .rw[eZ.o]
   obtain⟨d1,d2,d3⟩:=nC.o.done (b:=gb+1) aD;exact⟨v,rfl,d1,d2,d3⟩
 .rcases wH:r.back with _|⟨c,cs⟩
  .have eZ:=aC (show lV r op=(r,[110,111,110,101]) by unfold lV;rw[if_neg lI,wH])
   have En:r.back.length=0:=by rw[wH];rfl
   have zm9:=aC (show v.sB r=.slice (some ⟨v.gB,0,none⟩) 0 v.cB by unfold fD.sB;rw[En]);have zfE:w2.cell? ⟨gb,6,none⟩=some (.slice (some ⟨v.gB,0,none⟩) 0 v.cB):=by rw[k6,<-zm9.o];rfl
   clear k6 En wH
   go_upto_region 5 with(go_at_call 58;refine(P8 lo w2.heap.size r.recs.length v.cR (some ⟨v.gR,0,none⟩) r.recs op w2 uV.o aD).mono ?_;rintro x w9 ⟨rfl,jH⟩;obtain rfl:=jH.symm)
   clear k0 k1 k2 k3 k4 k5 zfE k7 lI;have k:=aJ nC.o.blk;obtain⟨k0,k1,k2,k3,k4,k5,k6,k7⟩:=eF k;clear k;have z:=aJ Cn.o;obtain⟨z0,z1,z2,z3,z4,z5,z6,z7⟩:=eF z;clear z;have r0:=eL Cn.o
   go_wp2_with fail
   have er:=aJ (sJ v r Cn.o);refine qP (v:=.tuple #[.agg (fO (v) (r)),.string ⟨([110,111,110,101]:List UInt8).toArray⟩]) ?_ rfl ?_
   .unfold gI at er
    simp[results,zdM,go_sem,er]
   .rw[eZ.o]
    obtain⟨d1,d2,d3⟩:=nC.o.done (b:=gb+1) aD;exact⟨v,rfl,d1,d2,d3⟩
  .have hc:=hq c zak
   have En:0<r.back.length:=by rw[wH];simp
   have zig:=aC (show r.back[0]? =some c by rw[wH];rfl);have zAg:(((r.back.length:Nat):Int)==0)=false:=by simp;intro e;rw[e] at En;simp at En
   rcases fI:n6 r.o r.recs with _|⟨l,fs⟩
   .have eZ:=aC (show lV r op=(r,[98,117,115,121]) by unfold lV;rw[if_neg lI,wH,fI])
    simp only[tV];clear wH fI
    go_upto_region 7 with(go_at_call 58;refine(P8 lo w2.heap.size r.recs.length v.cR (some ⟨v.gR,0,none⟩) r.recs op w2 uV.o aD).mono ?_;rintro x w9 ⟨rfl,jH⟩;obtain rfl:=jH.symm)
    clear k0 k1 k2 k3 k4 k5 k6 k7 lI;have k:=aJ nC.o.blk;obtain⟨k0,k1,k2,k3,k4,k5,k6,k7⟩:=eF k;clear k;have z:=aJ Cn.o;obtain⟨z0,z1,z2,z3,z4,z5,z6,z7⟩:=eF z;clear z;have r0:=eL Cn.o
    go_wp2_with fail
    have er:=aJ (sJ v r Cn.o);refine qP (v:=.tuple #[.agg (fO (v) (r)),.string ⟨([98,117,115,121]:List UInt8).toArray⟩]) ?_ rfl ?_
    .unfold gI at er
     simp[results,zdM,go_sem,er]
    .rw[eZ.o]
     obtain⟨d1,d2,d3⟩:=nC.o.done (b:=gb+1) aD;exact⟨v,rfl,d1,d2,d3⟩
   .have eZ:=aC (show lV r op=({r with back:=dQ r.back c.c,recs:=r.recs++[⟨c.c,l,op,r.clk,r.clk,-1,eJ⟩]},[99,97,108,108,32]++jC c.c) by unfold lV;rw[if_neg lI,wH,fI])
    obtain⟨nf,D9⟩:=aU ((l::fs).length);have x5:=zk7 r.recs r.o.ln.toNat;have zl3:=(Cd hs.off).2.1;have Dc:(n6 r.o r.recs).length=nf:=by rw[fI,D9]
    have zC0:nf<=6:=by unfold n6 at Dc;omega
    have zBB:0<nf:=by rw[D9];simp
    have O1:=aC (show w2.ownsRow W1.heap.size 3 1 (.slice (some ⟨gf,0,none⟩) nf cf) nf (jN (l::fs)) by have:=Qu.o;rw[Dc,fI] at this;exact this);rw[<-D9];have mH:((nf:Int)==0)=false:=rF;have zAF:(0:Int)<(nf:Int):=aD;have i0:(0:Int)<(r.back.length:Int):=aD;have Dg:=nC.o.ok.slcB;obtain⟨b0,zGG,d0,Jg,-,-,-,sH,e0,e1⟩:=Dg.callsAt (k:=0) En;rw[zig.o] at sH;injection sH with sH;injection Jg with Jg;injection Jg with zH yX;subst zH yX sH;simp only[rL,zaS] at e0 e1;clear wH fI D9 x5 zl3 Dc Dg
    go_upto_region 8 with(go_at_call 58;refine(P8 lo w2.heap.size r.recs.length v.cR (some ⟨v.gR,0,none⟩) r.recs op w2 uV.o aD).mono ?_;rintro x w9 ⟨rfl,jH⟩;obtain rfl:=jH.symm)
    clear k0 k1 k2 k3 k4 k5 k7 lI
    go_upto_region 9 with fail
    obtain⟨gc,Ps⟩:=aU w2.heap.size;have zBr:=aC Ps;rw[<-Ps];obtain⟨W3,rE⟩:=aU (w2.alloc (Gd c));rw[<-rE];have Zu:=aC (show gG w W3 lo gb 2 v v r by rw[rE];exact nC.o.alloc _);have za7:=aC (show W3.heap[gb+1]? =some jO by rw[rE];exact dF Cn.o _);have zd8:=aC (show W3.heap[gc]? =some (Gd c) by rw[rE];exact mX _ _ Ps);have zw2:=aC (show W3.ownsRow W1.heap.size 3 1 (.slice (some ⟨gf,0,none⟩) nf cf) nf (jN (l::fs)) by rw[rE];exact Af O1.o (λb hb=>tL _ _ b hb));clear rE e0 e1 k6 Ps;have aP:=HL.o;have zJV:gb+2<=gf:=by have:=zbI.o;have:=oU.o;omega
    have zJY:gf<gc:=by have:=zbI.o;have:=zBr.o;omega
    have zHs:=aC Zu.o.ok.slcB;have nE:=hs.nb;have k:=aJ Zu.o.blk;obtain⟨k0,k1,k2,k3,k4,k5,k6,k7⟩:=eF k;clear k;have q:=aJ zd8.o;have q0:=q 0;have q1:=q 1;clear q;have kf:=eL Zu.o.blk
    go_upto_region 10 with(go_at_call 59;refine(zdx lo W3.heap.size r.back.length v.cB (some ⟨v.gB,0,none⟩) r.back c.c W3 zHs.o aD).mono ?_;rintro x w5 ⟨_,rfl,g5,c5,rfl,cP,b5⟩;have zbv:=aC cP;have C0:=aC b5;have kx:=(iS b5 Zu.o.blk).1;have On:=aJ kx 6;have vZ:=eL kx;clear cP b5 kx)
    obtain⟨W4,rW⟩:=aU (w5.setCell ⟨gb,6,none⟩ (.slice (some ⟨g5,0,none⟩) (dQ r.back c.c).length c5));have Bv:=aC (show gG w W4 lo gb 2 v {v with gB:=g5,cB:=c5} {r with back:=dQ r.back c.c} by rw[rW];exact Zu.o.setB C0.o zbv.o rfl);have Th:=aC (show W4.heap[gb+1]? =some jO by rw[rW];exact(dZ w5 _ _ (gb+1) Qx).trans (iS C0.o za7.o).1);have Xb:=aC (show W4.heap[gc]? =some (Gd c) by rw[rW];exact(dZ w5 _ _ gc (by show gc≠gb;omega)).trans (iS C0.o zd8.o).1);have zGA:=aC (show W4.ownsRow W1.heap.size 3 1 (.slice (some ⟨gf,0,none⟩) nf cf) nf (jN (l::fs)) by rw[rW];exact Bq zw2.o ((dZ w5 _ _ gf zje).trans (C0.o.block gf (zw2.o.lt gf rfl).2)));rw[<-rW];clear rW On vZ kf q0 q1 k0 k1 k2 k3 k4 k5 k6 k7;obtain⟨v1,mJ⟩:=aU ({v with gB:=g5,cB:=c5}:fD);obtain⟨r1,jT⟩:=aU ({r with back:=dQ r.back c.c}:b6);have ziP:v1.gR=v.gR:=by rw[mJ]
    have zMs:v1.gR<gb:=by rw[ziP];exact aP.1
    have zKi:r1.recs.length<=1000:=by rw[jT];exact hs.nr
    rw[<-mJ,<-jT] at Bv;replace eZ:=aC (show lV r op=({r1 with recs:=r1.recs++[⟨c.c,l,op,r1.clk,r1.clk,-1,eJ⟩]},[99,97,108,108,32]++jC c.c) by rw[eZ.o,jT]);clear mJ jT ziP;have k:=aJ Bv.o.blk;obtain⟨k0,k1,k2,k3,k4,k5,k6,k7⟩:=eF k;clear k;have q0:=aJ Xb.o 0;have Jk:W4.cell? ⟨gf,0,none⟩=some (.int .i64 l):=zGA.o.cellAt 0 aD;have zGF:gc<W4.heap.size:=kU Xb.o
    go_cut [] from 38 to 53 (λwx=>∃g1 c1,gG w wx lo gb 2 v {v1 with gR:=g1,cR:=c1} {r1 with recs:=r1.recs++[⟨c.c,l,op,r1.clk,r1.clk,-1,eJ⟩]}/\wx.heap[gc]? =some (Gd c)/\wx.heap[gb+1]? =some jO)
    case first=>
     obtain⟨i0,fL,jJ,eE,kZ⟩:=y3 zuh;have HI:=aC fL;clear fL;have kB:∀o:Obj,(W4.alloc o).cell? ⟨gb,4,none⟩=some (v1.sR r1):=λo=>An k4 o;have zmf:gb<W4.heap.size:=aD;have S0:W4.cell? ⟨gb,3,none⟩=some (.int .i64 r1.clk)/\W4.cell? ⟨gc,0,none⟩=some (.int .i64 c.c)/\W4.cell? ⟨gf,0,none⟩=some (.int .i64 l):=⟨k3,q0,Jk⟩;have Cv:=aC S0;clear S0;obtain⟨g1,c1,w3,fH,sM,rA,B1,G9⟩:=zgH (P:=aK) (W4.alloc (.cells #[.int .i64 c.c,.int .i64 l,.int .i64 op,.int .i64 r1.clk,.int .i64 r1.clk,.int .i64 (-1),.string eJ] 107)).drew 36 36 lo 107 i0 (.agg #[.int .i64 0,.int .i64 0,.int .i64 0,.int .i64 0,.int .i64 0,.int .i64 0,.string ⟨#[]⟩]) 7 64 zo7 HI.o jJ eE kZ rfl aH v1.gR v1.cR r1.recs.length (recs r1.recs) (Af Bv.o.ok.rc (λb hb=>tL _ _ b hb)) ⟨W4.heap.size,0,none⟩ 1 1 (bR.cells ⟨c.c,l,op,r1.clk,r1.clk,-1,eJ⟩) rfl (Em (cs:=(bR.cells ⟨c.c,l,op,r1.clk,r1.clk,-1,eJ⟩).toArray) (lO _ _)) zlR V8 aD (by have:=Bv.o.lob;simp;omega);have r8:=aC rA;have zab:=aC sM;have za1:=aC G9;have kx:=(y8 rA (dF Bv.o.blk _) aD).1;have zcq:=aJ kx 4;have vZ:=eL kx;clear sM rA B1 G9 kx;refine zIc W4 w3 gb gc gf v1.gR r1.recs.length v1.cR g1 c1 _ _ c.c l op r1.clk rfl rfl rfl rfl rfl k3 k4 q0 Jk aD fH zcq (vZ _) rfl ?_;clear fH zcq vZ;rw[Go.Mt.zY,znw];simp only[Go.Mt.wO,dV,dX,zlc,zpc,C4,Cm]
     go_wp2_with fail
     go_meet
     refine⟨g1,c1,((Bv.o.alloc _).drew).appR r8.o zab.o rfl za1.o,?_,?_⟩
     .exact(dZ w3 _ _ gc (by show gc≠gb;omega)).trans (y8 r8.o (Kl (dF Xb.o _)) aD).1
     .exact(dZ w3 _ _ (gb+1) Qx).trans (y8 r8.o (Kl (dF Th.o _)) aD).1
    case rest=>
     obtain⟨g1,c1,Ag,G6,Gl⟩:=hcut;clear k0 k1 k2 k3 k4 k5 k6 k7 q0 Jk zGF;obtain⟨W5,zO⟩:=aU wc;have zjn:=aC (show W5.heap[gc]? =some (Gd c) by rw[zO];exact G6);have rV:=aC (show W5.heap[gb+1]? =some jO by rw[zO];exact Gl);have C7:=aC (show gG w W5 lo gb 2 v {v1 with gR:=g1,cR:=c1} {r1 with recs:=r1.recs++[⟨c.c,l,op,r1.clk,r1.clk,-1,eJ⟩]} by rw[zO];exact Ag);clear Ag G6 Gl;rw[<-zO];clear zO;obtain⟨v5,mK⟩:=aU ({v1 with gR:=g1,cR:=c1}:fD);obtain⟨r5,fA⟩:=aU ({r1 with recs:=r1.recs++[⟨c.c,l,op,r1.clk,r1.clk,-1,eJ⟩]}:b6);rw[<-mK,<-fA] at C7;rw[<-fA] at eZ;clear mK fA;obtain⟨m,hm⟩:∃m:Nat,c.c=(m:Int):=⟨c.c.toNat,aD⟩;have zbb:m<=100000000:=aD;have Ip:(Ld (m:Int)).length<=20:=by rw[Yg];exact Qv aD
     have k:=aJ C7.o.blk;obtain⟨k0,k1,k2,k3,k4,k5,k6,k7⟩:=eF k;clear k;have q0:=aJ zjn.o 0;rw[hm] at q0 eZ;clear hm
     go_wp2_with fail
     go_region_with (go_at_call 57;refine(zbA m zbb _).mono ?_;rintro x w6 ⟨rfl,tN⟩;have zB:bU W5.heap.size W5 w6:=⟨tN.os,tN.tape,tN.output,tN.size,tN.block⟩;have Jx:=aC zB;have k:=aJ (iS zB C7.o.blk).1;have r0:=eL (iS zB rV.o).1;have z:=aJ (iS zB rV.o).1;obtain⟨k0,k1,k2,k3,k4,k5,k6,k7⟩:=eF k;obtain⟨z0,z1,z2,z3,z4,z5,z6,z7⟩:=eF z;clear k z tN zB)
     all_goals
      go_wp2_with fail
      have Et:=C7.o.keep Jx.o;have Sv:=(iS Jx.o rV.o).1;have er:=aJ (sJ v5 r5 Sv);refine qP (v:=.tuple #[.agg (fO (v5) (r5)),.string ⟨([99,97,108,108,32]++jC (m:Int):List UInt8).toArray⟩]) ?_ rfl ?_
      .unfold gI at er
       simp[results,zdM,go_sem,er,jC,Nf]
      .rw[eZ.o]
       obtain⟨d1,d2,d3⟩:=Et.done (b:=gb+1) aD;exact⟨v5,rfl,d1,d2,d3⟩
theorem zx5 (lo:Nat)(v:fD)(r:b6)(call:Int)(w:aE)(h:dR w lo v r)(hs:Sa r)(dY:lo<=w.heap.size):
 iE aK 31 #[.agg (fO v r),.int .i64 call] w (Yr lo v w (l7 r call)):=by
 obtain⟨gb,O,Z,fK,HO,HZ,eO,jK,oU,HL⟩:=zd4 h dY;clear h
 go_enter Tryd.func31,Tryd.ntmps31
 go_upto_region 1 with fail
 rw[<-HO.o,<-HZ.o,<-fK.o];obtain⟨W1,dC⟩:=aU ((w.alloc O).alloc Z);rw[<-dC] at eO jK oU⊢;clear dC;have k:=aJ eO.o.blk;obtain⟨k0,k1,k2,k3,k4,k5,k6,k7⟩:=eF k;clear k;have Pp:=hs.nr;have Kf:=hs.nw;have nE:=hs.nb;have uV:=aC eO.o.ok.slcR;have Ee:=aC eO.o.ok.slcB;have Pa:gb+1≠v.gR:=by have:=HL.o;omega
 have zaZ:gb+1≠v.gB:=by have:=HL.o;omega
 have z:=aJ jK.o;obtain⟨z0,z1,z2,z3,z4,z5,z6,z7⟩:=eF z;clear z;have r0:=eL jK.o;rcases vG:jD r.recs call with _|i
 .have Li:=aC (zfM vG)
  rcases tW:uX r.back call with _|j
  .have Po:=aC (zfM tW)
   have eZ:=aC (show l7 r call=(r,[103,111,110,101]) by unfold l7;rw[vG];simp[tW]);clear vG tW
   go_upto_region 9 with(first|(go_at_call 54;refine(Iy lo W1.heap.size r.recs.length v.cR (some ⟨v.gR,0,none⟩) r.recs call W1 uV.o aD).mono ?_;rintro x w9 ⟨rfl,jH⟩;obtain rfl:=jH.symm;rw[Li.o])|(go_at_call 55;refine(Zb lo W1.heap.size r.back.length v.cB (some ⟨v.gB,0,none⟩) r.back call W1 Ee.o aD).mono ?_;rintro x w9 ⟨rfl,jH⟩;obtain rfl:=jH.symm;rw[Po.o]))
   clear k0 k1 k2 k3 k4 k5 k6 k7 z0 z1 z2 z3 z4 z5 z6 z7 r0;have k:=aJ eO.o.blk;obtain⟨k0,k1,k2,k3,k4,k5,k6,k7⟩:=eF k;clear k;have z:=aJ jK.o;obtain⟨z0,z1,z2,z3,z4,z5,z6,z7⟩:=eF z;clear z;have r0:=eL jK.o
   go_wp2_with fail
   have er:=aJ (sJ v r jK.o);refine qP (v:=.tuple #[.agg (fO (v) (r)),.string ⟨([103,111,110,101]:List UInt8).toArray⟩]) ?_ rfl ?_
   .unfold gI at er
    simp[results,zf8,go_sem,er]
   .rw[eZ.o]
    obtain⟨d1,d2,d3⟩:=eO.o.done (b:=gb+1) aD;exact⟨v,rfl,d1,d2,d3⟩
  .have Po:=aC (Uy tW)
   have zhq:(0:Int)<=(j:Int):=aD;have eZ:=aC (show l7 r call=({r with back:=dQ r.back call},[111,102,102]) by unfold l7;rw[vG];simp[tW]);clear vG tW
   go_upto_region 7 with(first|(go_at_call 54;refine(Iy lo W1.heap.size r.recs.length v.cR (some ⟨v.gR,0,none⟩) r.recs call W1 uV.o aD).mono ?_;rintro x w9 ⟨rfl,jH⟩;obtain rfl:=jH.symm;rw[Li.o])|(go_at_call 55;refine(Zb lo W1.heap.size r.back.length v.cB (some ⟨v.gB,0,none⟩) r.back call W1 Ee.o aD).mono ?_;rintro x w9 ⟨rfl,jH⟩;obtain rfl:=jH.symm;rw[Po.o]))
   have kf:=eL eO.o.blk
   go_upto_region 8 with(go_at_call 59;refine(zdx lo W1.heap.size r.back.length v.cB (some ⟨v.gB,0,none⟩) r.back call W1 Ee.o aD).mono ?_;rintro x w5 ⟨_,rfl,g5,c5,rfl,cP,b5⟩;have zbv:=aC cP;have C0:=aC b5;have kx:=(iS b5 eO.o.blk).1;have On:=aJ kx 6;have vZ:=eL kx;clear cP b5 kx)
   obtain⟨W4,rW⟩:=aU (w5.setCell ⟨gb,6,none⟩ (.slice (some ⟨g5,0,none⟩) (dQ r.back call).length c5));have Bv:=aC (show gG w W4 lo gb 2 v {v with gB:=g5,cB:=c5} {r with back:=dQ r.back call} by rw[rW];exact eO.o.setB C0.o zbv.o rfl);have Th:=aC (show W4.heap[gb+1]? =some jO by rw[rW];exact(dZ w5 _ _ (gb+1) Qx).trans (iS C0.o jK.o).1);rw[<-rW];clear rW On vZ kf k0 k1 k2 k3 k4 k5 k6 k7 z0 z1 z2 z3 z4 z5 z6 z7 r0;obtain⟨v5,mK⟩:=aU ({v with gB:=g5,cB:=c5}:fD);obtain⟨r5,fA⟩:=aU ({r with back:=dQ r.back call}:b6);rw[<-mK,<-fA] at Bv;rw[<-fA] at eZ;clear mK fA;have k:=aJ Bv.o.blk;obtain⟨k0,k1,k2,k3,k4,k5,k6,k7⟩:=eF k;clear k;have z:=aJ Th.o;obtain⟨z0,z1,z2,z3,z4,z5,z6,z7⟩:=eF z;clear z;have r0:=eL Th.o
   go_wp2_with fail
   have er:=aJ (sJ v5 r5 Th.o);refine qP (v:=.tuple #[.agg (fO (v5) (r5)),.string ⟨([111,102,102]:List UInt8).toArray⟩]) ?_ rfl ?_
   .unfold gI at er
    simp[results,zf8,go_sem,er]
   .rw[eZ.o]
    obtain⟨d1,d2,d3⟩:=Bv.o.done (b:=gb+1) aD;exact⟨v5,rfl,d1,d2,d3⟩
 .have Li:=aC (Uy vG)
  obtain⟨d,hd,-,-⟩:=Ca vG;have hi:=(jW.1 hd).1;have fL:(0:Int)<=(i:Int):=aD;have y5:(i:Int)<(r.recs.length:Int):=aD;have hop:opAt r.recs i=d.o:=by unfold opAt;rw[hd]
  obtain⟨c0,c1,c2,c3,c4,c5,c6⟩:=eO.o.ok.recAt hd;have HD:=aC hd;by_cases zte:0<d.o
  .have eZ:=aC (show l7 r call=(kT r i Gv,[100,111,110,101]) by unfold l7;rw[vG];simp only;rw[if_pos (by rw[hop];exact zte)])
   clear vG hd hop
   go_upto_region 3 with(go_at_call 54;refine(Iy lo W1.heap.size r.recs.length v.cR (some ⟨v.gR,0,none⟩) r.recs call W1 uV.o aD).mono ?_;rintro x w9 ⟨rfl,jH⟩;obtain rfl:=jH.symm;rw[Li.o])
   clear c0 c1 c2 c3 c4 c5 c6 z0 z1 z2 z3 z4 z5 z6 z7 r0
   go_wp2_with (go_at_call 60;refine(ziu lo i v r d Gv W1 eO.o.ok HD.o aD aD zqZ).mono ?_;rintro x w5 ⟨g5,c5,rfl,bV,jI,I2⟩;obtain⟨v5,mK⟩:=aU ({v with gW:=g5,cW:=c5}:fD);obtain⟨r5,fA⟩:=aU (kT r i Gv:b6);rw[<-mK,<-fA] at bV⊢;have Uq:=aC mK;have pU:=aC fA;have wC:=aC bV;have tU:=aC jI;have zmn:=aC I2;have kr:=jI.blk jK.o Pa zaZ;have rV:=aC kr;have z:=aJ kr;have r0:=eL kr;obtain⟨z0,z1,z2,z3,z4,z5,z6,z7⟩:=eF z;clear bV jI I2 kr z mK fA)
   have mK:=Uq.o;have fA:=pU.o;rw[<-fA] at eZ;have er:=aJ (sJ v5 r5 rV.o);refine qP (v:=.tuple #[.agg (fO (v5) (r5)),.string ⟨([100,111,110,101]:List UInt8).toArray⟩]) ?_ rfl ?_
   .unfold gI at er
    simp[results,zf8,go_sem,er]
   .rw[eZ.o]
    have hl:=HL.o;have hz:=oU.o;have hg:=zmn.o;have eK:=fK.o;exact⟨v5,rfl,wC.o.set8 (by rw[mK];simp only;omega),(eO.o.turn.same tU.o).set8 aD,by rw[mK];exact⟨.inl rfl,.inr Jn,.inl rfl,rfl⟩⟩
  .have eZ:=aC (show l7 r call=(kT r i Bs,[108,101,102,116]) by unfold l7;rw[vG];simp only;rw[if_neg (by rw[hop];exact zte)])
   clear vG hd hop
   go_upto_region 5 with(go_at_call 54;refine(Iy lo W1.heap.size r.recs.length v.cR (some ⟨v.gR,0,none⟩) r.recs call W1 uV.o aD).mono ?_;rintro x w9 ⟨rfl,jH⟩;obtain rfl:=jH.symm;rw[Li.o])
   clear c0 c1 c2 c3 c4 c5 c6 z0 z1 z2 z3 z4 z5 z6 z7 r0
   go_wp2_with (go_at_call 60;refine(ziu lo i v r d Bs W1 eO.o.ok HD.o aD aD zqZ).mono ?_;rintro x w5 ⟨g5,c5,rfl,bV,jI,I2⟩;obtain⟨v5,mK⟩:=aU ({v with gW:=g5,cW:=c5}:fD);obtain⟨r5,fA⟩:=aU (kT r i Bs:b6);rw[<-mK,<-fA] at bV⊢;have Uq:=aC mK;have pU:=aC fA;have wC:=aC bV;have tU:=aC jI;have zmn:=aC I2;have kr:=jI.blk jK.o Pa zaZ;have rV:=aC kr;have z:=aJ kr;have r0:=eL kr;obtain⟨z0,z1,z2,z3,z4,z5,z6,z7⟩:=eF z;clear bV jI I2 kr z mK fA)
   have mK:=Uq.o;have fA:=pU.o;rw[<-fA] at eZ;have er:=aJ (sJ v5 r5 rV.o);refine qP (v:=.tuple #[.agg (fO (v5) (r5)),.string ⟨([108,101,102,116]:List UInt8).toArray⟩]) ?_ rfl ?_
   .unfold gI at er
    simp[results,zf8,go_sem,er]
   .rw[eZ.o]
    have hl:=HL.o;have hz:=oU.o;have hg:=zmn.o;have eK:=fK.o;exact⟨v5,rfl,wC.o.set8 (by rw[mK];simp only;omega),(eO.o.turn.same tU.o).set8 aD,by rw[mK];exact⟨.inl rfl,.inr Jn,.inl rfl,rfl⟩⟩
def cU (r:b6)(m:Int)(k:Nat):b6×List UInt8:=(r.wait.take k).foldl lY ({r with clk:=r.clk+m},[97,116,32]++jC (r.clk+m))
variable {m:Int}{k:Nat}{x:bJ}
theorem zcX (h:r.wait[k]? =some x):cU r m (k+1)=lY (cU r m k) x:=by
 unfold cU;rw[L0,h,zm1];rfl
theorem zcC (r:b6)(m:Int):cU r m r.wait.length=tT r m:=by
 unfold cU tT;rw[yR (aZ _)]
theorem zbn (rs:List bR)(c:Int):(jD rs c).isSome=rs.any (zU c):=by unfold jD;exact List.findIdx?_isSome
variable {d:bR}{f:bR->bR}
theorem zsa (hd:rs[i]? =some d)(hc:d.c≠c)(h:(jD rs c).isSome=true):(jD (rs.modify i f) c).isSome=true:=by
 rw[zbn,Qo] at*;obtain⟨x,hx,hp⟩:=h;obtain⟨j,hj,e⟩:=Kh.1 hx;have eI:i≠j:=by
  intro e2;subst e2;rw[lP hj,e] at hd;injection hd with hd;unfold zU at hp;simp at hp;exact hc (hd▸hp.1)
 refine⟨x,?_,hp⟩;refine F7.2 ⟨j,?_⟩;rw[zG,lP hj,e];simp[eI]
structure zEW (r:b6)(m:Int)(k:Nat):Prop where
 nrec:(cU r m k).1.recs.length=r.recs.length
 off:(cU r m k).1.o=r.o
 clk:(cU r m k).1.clk=r.clk+m
 nb:(cU r m k).1.back.length<=r.back.length+k
 nw:(cU r m k).1.wait.length<=r.wait.length
 txt:(cU r m k).2.length<=30+30*k
 has:∀j x,k<=j->r.wait[j]? =some x->(jD (cU r m k).1.recs x.c).isSome=true
 fr:∀d∈(cU r m k).1.recs,0<=d.f/\d.f<=100000
def Yc (xs:List bJ)(q:Int):(dQ xs q).length<=xs.length:=zbe _ _
theorem N4 (h0:0<=c)(h1:c<=1000000):(jC c).length<=20:=by
 obtain⟨n,rfl⟩:∃n:Nat,c=(n:Int):=⟨c.toNat,aD⟩;unfold jC;rw[Yg];exact Qv aD
variable {bt:b6×List UInt8}
theorem zaQ (hi:jD bt.1.recs x.c=some i)(hd:bt.1.recs[i]? =some d):
 lY bt x=if bt.1.o.pt<=bt.1.clk-d.f then({kT bt.1 i Ea with back:=bt.1.back++[x]},bt.2++[32]++jC x.c) else bt:=by
 unfold lY;rw[hi];simp only;rw[show Vi bt.1.recs i=d.f by unfold Vi;rw[hd]]
theorem ziA (hq:zgw r)(hn:(r.wait.map bJ.c).Nodup)(hf:∀d∈r.recs,0<=d.f/\d.f<=100000)(hc:0<=r.clk+m/\r.clk+m<=1000000):∀k,k<=r.wait.length->zEW r m k
 |0,_=>⟨rfl,rfl,rfl,aZ _,aZ _,by
  have:=N4 hc.1 hc.2;show([97,116,32]++jC (r.clk+m)).length<=_;rw[gJ];simp only[pG,tV];omega,λj x _ hx=>hq.has x (dS hx),hf⟩
 |k+1,hk=>by
  have T:=ziA hq hn hf hc k aD;obtain⟨x,hx⟩:∃x,r.wait[k]? =some x:=⟨r.wait[k],lP aD⟩;obtain⟨i,hi⟩:=zik.1 (T.has k x (aZ _) hx);obtain⟨d,hd,za4,-⟩:=Ca hi;have e:=zaQ (bt:=cU r m k) hi hd;have e1:=zcX (m:=m) hx;rw[e] at e1;have zBN:=hq.num x (dS hx);have Bj:=N4 (c:=x.c) aD aD;by_cases hp:(cU r m k).1.o.pt<=(cU r m k).1.clk-d.f
  .rw[if_pos hp] at e1
   refine⟨?_,?_,?_,?_,?_,?_,?_,?_⟩<;>rw[e1]
   .show(zg5 _ _ _).length=_
    rw[Gj];exact T.nrec
   .exact T.off
   .exact T.clk
   .have:=T.nb
    simp only[gJ,pG,tV];omega
   .exact eP (Yc _ _) T.nw
   .have:=T.txt
    simp only[gJ,pG,tV];omega
   .intro j y hj hy
    have zjC:d.c≠y.c:=by
     intro e2;rw[za4] at e2;have sN:=(jW.1 hy).1;have zc8:=(jW.1 hx).1;have aT:=(List.pairwise_iff_getElem.1 hn) k j (by rw[zqU];exact zc8) (by rw[zqU];exact sN) aD;apply aT;rw[zuO,zuO];rw[lP zc8] at hx;rw[lP sN] at hy;injection hx with hx;injection hy with hy;rw[hx,hy,e2]
    exact zsa hd zjC (T.has j y aD hy)
   .intro z hz
    obtain⟨j,hj⟩:=F7.1 hz;have oJ:(zg5 (cU r m k).1.recs i λd=>{d with t:=(cU r m k).1.clk,e:=Ea})[j]? =some z:=hj;rw[zG] at oJ;rcases Ll:(cU r m k).1.recs[j]? with _|y
    .rw[Ll] at oJ;split at oJ<;>cases oJ
    .rw[Ll] at oJ
     have hy:=T.fr y (dS Ll);split at oJ<;>(simp at oJ;subst oJ;exact hy)
  .rw[if_neg hp] at e1
   exact⟨by rw[e1];exact T.nrec,by rw[e1];exact T.off,by rw[e1];exact T.clk,by rw[e1];have:=T.nb;omega,by rw[e1];exact T.nw,by rw[e1];have:=T.txt;omega,by rw[e1];exact λj y hj hy=>T.has j y aD hy,by rw[e1];exact T.fr⟩
section
variable {w0 w w':aE}{lo gb k:Nat}{v0 v v':fD}{r r':b6}
theorem gG.setClk {c:Int}(h:gG w0 w lo gb k v0 v r):gG w0 (w.setCell ⟨gb,3,none⟩ (.int .i64 c)) lo gb k v0 v {r with clk:=c}:=by
 have aR:=h.aR;have aW:=h.aW;have aB:=h.aB;have aL:=h.aL;have Ma:=h.base;have t:=h.turn;have kp:=h.kpos;refine⟨(h.ok.setCell aD).clock c,⟨t.os,t.tape,t.output,by rw[sE];exact t.size,λy hy e1 e2=>(dZ w _ _ y ziT).trans (t.block y hy e1 e2)⟩,h.moved,h.base,?_,by rw[sE];exact h.size,h.kpos,aR,aW,aB,aL,h.lob⟩;rw[oZ h.blk];rfl
theorem gG.whole {n:Nat}(h:gG w0 w lo gb k v0 v r)(ho:dR w' lo v' r')(t:n5 v w w')(m:vX n v v')(hn:n=w.heap.size):
 gG w0 (gI w' gb (.int .i64 r'.o.ln) (.int .i64 r'.o.op) (.int .i64 r'.o.pt) (.int .i64 r'.clk) (v'.sR r') (v'.sW r') (v'.sB r') (v'.sL r')) lo gb k v0 v' r':=by
 obtain⟨_,t2,m2,hb⟩:=h.turned ho t m hn;have aR:=h.aR;have aW:=h.aW;have aB:=h.aB;have aL:=h.aL;have mr:=m.r;have mw:=m.w;have mb:=m.b;have ml:=m.l;have sz:=h.size;have kp:=h.kpos;have Ma:=h.base;have tz:=t.size;refine⟨ho.set8 aD,t2.set8 aD,m2,h.base,za5 hb,by rw[zkD];omega,h.kpos,aD,aD,aD,aD,h.lob⟩
end
def zG6 {b x:Nat}{o:Obj}{a0 a1 a2 a3 a4 a5 a6 a7:aF}(h:w.heap[x]? =some o)(hx:x≠b):(gI w b a0 a1 a2 a3 a4 a5 a6 a7).heap[x]? =some o:=(F9 hx).trans h
theorem zF7 (lo:Nat)(v:fD)(r:b6)(m:Int)(w:aE)(h:dR w lo v r)(hs:Sa r)(dY:lo<=w.heap.size)(hq:zgw r)(lD:(r.wait.map bJ.c).Nodup)(fI:∀d∈r.recs,0<=d.f/\d.f<=100000)(zu1:0<=m)(zgJ:m<=100000):
 iE aK 32 #[.agg (fO v r),.int .i64 m] w (Yr lo v w (tT r m)):=by
 have fH:=h.ap;have zmz:=aC (ziA (m:=m) hq lD fI (by have:=hs.clk;omega));have zAn:=aC hq.num;have zub:=(Cd hs.off).2.2.2.2;clear lD fI hq;obtain⟨gb,O,Z,fK,HO,HZ,eO,jK,oU,HL⟩:=zd4 h dY;clear h
 go_enter Tryd.func32,Tryd.ntmps32
 go_upto_region 1 with fail
 rw[<-HO.o,<-HZ.o,<-fK.o];obtain⟨W1,dC⟩:=aU ((w.alloc O).alloc Z);rw[<-dC] at eO jK oU⊢;clear dC;obtain⟨n,hn⟩:=aU r.wait.length;have nE:=hs.nb;have Bn:=hs.nr;have Kf:n<=1000:=by rw[hn];exact hs.nw
 have Qh:=aC hn;have Hm:=hs.clk;obtain⟨zhf,zFP⟩:=Hm;obtain⟨ck,Hm⟩:=aU r.clk;have Gh:=aC Hm;rw[<-Hm] at zhf zFP;have k:=aJ eO.o.blk;obtain⟨k0,k1,k2,k3,k4,k5,k6,k7⟩:=eF k;clear k;have Wl:W1.cell? ⟨gb,3,none⟩=some (.int .i64 ck):=by rw[k3,Gh.o];rfl
 have kf:=eL eO.o.blk;clear k3 Hm hn;have nC:=aC (show gG w (W1.setCell ⟨gb,3,none⟩ (.int .i64 (ck+m))) lo gb 2 v v {r with clk:=ck+m} from eO.o.setClk)
 go_upto_region 2 with fail
 obtain⟨W2,qC⟩:=aU (W1.setCell ⟨gb,3,none⟩ (.int .i64 (ck+m)));rw[<-qC] at nC⊢;have Cn:=aC (show W2.heap[gb+1]? =some jO by rw[qC];exact(dZ W1 _ _ (gb+1) Qx).trans jK.o);clear k0 k1 k2 Wl k4 k5 k6 k7 kf qC;obtain⟨c2,nI⟩:∃c2:Nat,ck+m=(c2:Int):=⟨(ck+m).toNat,aD⟩;have zEn:c2<=100000000:=aD;have Ip:(Ld (c2:Int)).length<=20:=by rw[Yg];exact Qv aD
 have Ql:=aC nI;have k3:=aJ nC.o.blk 3;have Wl:W2.cell? ⟨gb,3,none⟩=some (.int .i64 (c2:Int)):=by rw[<-nI];exact k3
 clear k3 nI
 go_upto_region 3 with(go_at_call 57;refine(zbA c2 zEn _).mono ?_;rintro x w3 ⟨rfl,Vo⟩;have zca:=aC Vo;clear Vo)
 have zm6:=aC (nC.o.keep zca.o);have za7:=aC (iS zca.o Cn.o).1;have k5:=aJ zm6.o.blk 5;have zo4:w3.cell? ⟨gb,5,none⟩=some (.slice (some ⟨v.gW,0,none⟩) n v.cW):=by rw[k5,Qh.o];rfl
 clear k5 Wl;have zi9:=aC (show(⟨([97,116,32]++Ld (c2:Int):List UInt8).toArray⟩:ByteArray)=⟨(cU r m 0).2.toArray⟩ by show _=(⟨([97,116,32]++jC (r.clk+m):List UInt8).toArray⟩:ByteArray);rw[<-Gh.o,Ql.o];rfl);have zJ5:=HL.o
 go_wp2_with fail
 go_loopw [6,8] (λt i wr=>∃(k:Nat) (v1:fD),k<=n/\i=.int .i64 k/\t=.string ⟨(cU r m k).2.toArray⟩/\gG w wr lo gb 2 v v1 (cU r m k).1/\wr.heap[gb+1]? =some jO/\wr.ownsRow lo 79 2 (.slice (some ⟨v.gW,0,none⟩) n v.cW) n (bF r.wait)) (λ_ i _=>n-(intOf i).toNat)
 case atStart=>
  refine⟨0,v,lB _,rfl,?_,?_,za7.o,?_⟩
  .rw[<-zi9.o];congr 1
  .have e:(cU r m 0).1={r with clk:=ck+m}:=by rw[Gh.o];rfl
   rw[e];exact zm6.o
  .have:=zm6.o.ok.wt
   rw[Qh.o];exact this
 case round=>
  obtain⟨k,v1,hk,rfl,rfl,eY,Gl,cC⟩:=hrel;have T:=zmz.o k (by have:=Qh.o;omega);obtain⟨r1,jT⟩:=aU ((cU r m k).1);obtain⟨tx,zeV⟩:=aU ((cU r m k).2);have zvY:=T.nrec;have zp4:=T.nb;have znY:=T.nw;have zt8:=T.txt;have zj1:=T.clk;have zg2:=T.off;have zvf:=aC T.fr;have zoR:=aC T.has;rw[<-jT] at eY zvY zp4 znY zj1 zg2 zvf zoR;rw[<-zeV] at zt8⊢;have lF:=aC jT;have zlW:=aC zeV;have uJ:=aC eY;have zek:=aC Gl;have Ox:=aC cC;have zKy:r1.recs.length<=1000:=aD;have zBb:r1.back.length<=6000:=aD;have zzF:r1.wait.length<=1000:=by have:=hs.nw;omega
  have zJ1:tx.length<=40000:=aD;have zmf:gb+2<=wr.heap.size:=eY.size;have zCg:=eY.moved.r;have zCx:=eY.moved.b;have zuZ:=aC zj1;have Av:=aC zg2;clear T jT zeV eY Gl cC zvY zp4 znY zt8 zj1 zg2;by_cases aP:k<n
  .obtain⟨bx,ox,x,hA,-,-,zGz,eB,e0,e1⟩:=(zQ Ox.o aH).callsAt aP
   injection hA with hA;injection hA with zH yX;subst zH yX;simp only[rL] at e0 e1;obtain⟨i,vG⟩:=zik.1 (zoR.o k x (aZ _) eB);obtain⟨d,hd,za4,-⟩:=Ca vG;have zBN:=zAn.o x (dS eB);have hi:=(jW.1 hd).1;have fL:(0:Int)<=(i:Int):=aD;have y5:(i:Int)<(r1.recs.length:Int):=aD;have i0:(0:Int)<=(k:Int):=aD;have i1:(k:Int)<(n:Int):=aD;obtain⟨zJ8,zLy⟩:=zvf.o d (dS hd);have uK:=aC (show cU r m (k+1)=if r1.o.pt<=r1.clk-d.f then({kT r1 i Ea with back:=r1.back++[x]},tx++[32]++jC x.c) else(r1,tx) by
    rw[zcX eB,zaQ (i:=i) (d:=d) (by rw[<-lF.o];exact vG) (by rw[<-lF.o];exact hd),<-lF.o,<-zlW.o];congr 1;rw[lF.o,zlW.o])
   have Li:=aC (Uy vG);have HD:=aC hd;have zmj:=aC eB;obtain⟨q,zjP⟩:=aU x.c;have HE:=aC (λnq:Nat=>iE.quiet_of (w:=wr) (n:=nq) ((Iy lo wr.heap.size r1.recs.length v1.cR (some ⟨v1.gR,0,none⟩) r1.recs x.c (wr.drewN nq) (have hs:=uJ.o.ok.slcR;⟨hs.len,hs.le,hs.cap,hs.at_⟩) aD).mono λe w' hh=>by rw[Li.o] at hh;exact⟨hh.1,0,hh.2⟩));obtain⟨c0,c1,zmJ,c3,c4,c5,c6⟩:=uJ.o.ok.recAt hd;clear vG hd za4 eB zjP;have k:=aJ uJ.o.blk;obtain⟨k0,k1,k2,k3,k4,k5,k6,k7⟩:=eF k;clear k
   go_wp2_with fail
   go_quiet ((go_at_call 54;exact HE.o _))
   go_wp2_with fail
   obtain⟨wq,qR⟩:=aU (wr.drewN nq);rw[<-qR];have zfT:=aC (show gG w wq lo gb 2 v v1 r1 by rw[qR];exact uJ.o.keep ⟨rfl,rfl,rfl,aZ _,λ_ _=>rfl⟩);have zp0:=aC (show wq.heap[gb+1]? =some jO by rw[qR];exact zek.o);have zs5:=aC (show wq.ownsRow lo 79 2 (.slice (some ⟨v.gW,0,none⟩) n v.cW) n (bF r.wait) by rw[qR];exact Af Ox.o (λ_ _=>rfl));replace e0:wq.cell? ⟨v.gW,k*2,none⟩=some (.int .i64 x.c):=by rw[qR];exact e0
   replace e1:wq.cell? ⟨v.gW,k*2+1,none⟩=some (.int .i64 x.p):=by rw[qR];exact e1
   have zFf:v.gW<wq.heap.size:=by rw[qR];exact zGz
   have Ad:gb+2<=wq.heap.size:=by rw[qR];exact zmf
   clear c0 c1 zmJ c3 c4 c5 c6 k0 k1 k2 k3 k4 k5 k6 k7 qR;obtain⟨c0,c1,zmJ,c3,c4,c5,c6⟩:=zfT.o.ok.recAt HD.o;have k:=aJ zfT.o.blk;obtain⟨k0,k1,k2,k3,k4,k5,k6,k7⟩:=eF k;clear k;have Sr:0<=r1.clk:=by have:=zuZ.o;have:=Gh.o;omega
   have xB:r1.clk<=200000:=by have:=zuZ.o;have:=Gh.o;omega
   have pI:1<=r1.o.pt:=by rw[Av.o];exact zub.1
   have Vo:r1.o.pt<=60:=by rw[Av.o];exact zub.2
   by_cases hp:r1.o.pt<=r1.clk-d.f
   .replace uK:=aC (show cU r m (k+1)=({kT r1 i Ea with back:=r1.back++[x]},tx++[32]++jC x.c) by rw[uK.o,if_pos hp])
    go_quiet (fail)
    go_upto_region 9 with fail
    obtain⟨wz,uB⟩:=aU (wq.drewN nq);rw[<-uB];have N6:=aC (show gG w wz lo gb 2 v v1 r1 by rw[uB];exact zfT.o.keep ⟨rfl,rfl,rfl,aZ _,λ_ _=>rfl⟩);have zAh:=aC (show wz.heap[gb+1]? =some jO by rw[uB];exact zp0.o);have zFk:=aC (show wz.ownsRow lo 79 2 (.slice (some ⟨v.gW,0,none⟩) n v.cW) n (bF r.wait) by rw[uB];exact Af zs5.o (λ_ _=>rfl));have zIw:v.gW<wz.heap.size:=by rw[uB];exact zFf
    have zMp:gb+2<=wz.heap.size:=by rw[uB];exact Ad
    clear c0 c1 zmJ c3 c4 c5 c6 k0 k1 k2 k3 k4 k5 k6 k7 e0 e1 uB;have k:=aJ N6.o.blk;obtain⟨k0,k1,k2,k3,k4,k5,k6,k7⟩:=eF k;clear k;have kf:=eL N6.o.blk;have zBT:v.gW≠v1.gR:=by rcases zCg with e|e<;>omega
    have zs3:v.gW≠v1.gB:=by rcases zCx with e|e<;>omega
    have aR:=N6.o.aR;have aB:=N6.o.aB;have zEg:gb+1≠v1.gR:=aD;have zrT:gb+1≠v1.gB:=aD;have Kq:gb≠v1.gR:=aD;have y7:gb≠v1.gB:=aD;have zKl:=aC aR;have zK:=aC aB;have Qg:lo<=wz.heap.size:=by have:=N6.o.lob;omega
    clear aR aB
    go_upto_region 10 with(go_at_call 60;refine(ziu lo i v1 r1 d Ea wz N6.o.ok HD.o aD aD Qg).mono ?_;rintro y w5 ⟨g5,c5,rfl,bV,jI,I2⟩;obtain⟨v5,mK⟩:=aU ({v1 with gW:=g5,cW:=c5}:fD);obtain⟨r5,fA⟩:=aU (kT r1 i Ea:b6);have kr:=jI.blk N6.o.blk Kq y7;have zKd:=aC kr;have zoX:vX wz.heap.size v1 v5:=(by rw[mK];exact⟨.inl rfl,.inr I2,.inl rfl,rfl⟩);rw[<-mK,<-fA] at bV⊢;have Uq:=aC mK;have pU:=aC fA;have tU:=aC jI;have Et:=aC (N6.o.whole bV jI zoX rfl);have z:=aJ kr;have r0:=eL kr;obtain⟨z0,z1,z2,z3,z4,z5,z6,z7⟩:=eF z;clear bV jI I2 kr z mK fA zoX)
    obtain⟨W6,qU⟩:=aU (gI w5 gb (.int .i64 r5.o.ln) (.int .i64 r5.o.op) (.int .i64 r5.o.pt) (.int .i64 r5.clk) (v5.sR r5) (v5.sW r5) (v5.sB r5) (v5.sL r5));have Sv:=aC (show W6.heap[gb+1]? =some jO by rw[qU];exact zG6 (tU.o.blk zAh.o zEg zrT) aD);have zqV:=aC (show W6.ownsRow lo 79 2 (.slice (some ⟨v.gW,0,none⟩) n v.cW) n (bF r.wait) by rw[qU];exact Bq zFk.o ((F9 aD).trans (tU.o.block v.gW zIw zBT zs3)));rw[<-qU] at Et;unfold gI at qU;rw[<-qU];have zB8:v5.gR=v1.gR:=by rw[Uq.o]
    have zcf:v5.gB=v1.gB:=by rw[Uq.o]
    have zh1:r5.back=r1.back:=by rw[pU.o];rfl
    have zMw:r5.back.length<=6000:=by rw[zh1];exact zBb
    have Jx:=aC zh1;clear qU z0 z1 z2 z3 z4 z5 z6 z7 r0 k0 k1 k2 k3 k4 k5 k6 k7 kf zh1;obtain⟨bx,ox,x',hA,-,-,zur,E9,e0,e1⟩:=(zQ zqV.o aH).callsAt aP;injection hA with hA;injection hA with zH yX;subst zH yX;rw[zmj.o] at E9;injection E9 with E9;subst E9;simp only[rL] at e0 e1;have k6:=aJ Et.o.blk 6;have zJR:gb+2<=W6.heap.size:=Et.o.size;have Cv:=aC (show W6.cell? ⟨v.gW,k*2,none⟩=some (.int .i64 x.c)/\W6.cell? ⟨v.gW,k*2+1,none⟩=some (.int .i64 x.p) from⟨e0,e1⟩);have kB:∀o:Obj,(W6.alloc o).cell? ⟨gb,6,none⟩=some (v5.sB r5):=λo=>An k6 o;have zLN:=aC zcf;have zJy:v5.gB≠gb:=by rw[zcf];exact Ne.symm y7
    have zJp:v5.gB≠gb+1:=by rw[zcf];exact Ne.symm zrT
    have zLS:v5.gB≠v.gW:=by rw[zcf];exact Ne.symm zs3
    have zK8:v.gW≠gb:=aD;obtain⟨ii,N1,jJ,eE,kZ⟩:=y3 zex;have Z4:=aC N1;clear N1 zB8 zcf e0 e1;obtain⟨g1,c1,w7,fH,sM,rA,B1,G9⟩:=zgH (P:=aK) (W6.alloc (.cells #[.int .i64 x.c,.int .i64 x.p] 79)).drew 37 37 lo 79 ii (.agg #[.int .i64 0,.int .i64 0]) 2 16 Je Z4.o jJ eE kZ rfl aH v5.gB v5.cB r5.back.length (bF r5.back) (Af Et.o.ok.bk (λb hb=>tL _ _ b hb)) ⟨W6.heap.size,0,none⟩ 1 1 x.cells rfl (Em (cs:=x.cells.toArray) (lO _ _)) Ru V8 aD (by have:=Et.o.lob;simp;omega);have r8:=aC rA;have zab:=aC sM;have za1:=aC G9;have kx:=(y8 rA (dF Et.o.blk _) (Ne.symm zJy)).1;have On:=aJ kx 6;have vZ:=eL kx;clear sM rA B1 G9 kx;refine zzd W6 w7 gb v.gW _ _ v5.gB r5.back.length v5.cB g1 c1 k x.c x.p rfl rfl rfl rfl k6 Cv.o.1 Cv.o.2 aD fH On (vZ _) rfl ?_;clear fH;rw[Go.Mt.zY,zt3];simp only[Go.Mt.wO,dV,dX,zju,zn9,C4,Cm]
    go_upto_region 11 with fail
    have zsZ:=aC (((Et.o.alloc _).drew).appB (x:=x) r8.o zab.o rfl za1.o);have znQ:=aC ((dZ w7 ⟨gb,6,none⟩ (.slice (some ⟨g1,0,none⟩) (r5.back.length+1) c1) (gb+1) Qx).trans (y8 r8.o (Kl (dF Sv.o _)) (Ne.symm zJp)).1);have zjq:=aC (Bq zqV.o ((dZ w7 ⟨gb,6,none⟩ (.slice (some ⟨g1,0,none⟩) (r5.back.length+1) c1) v.gW (by show v.gW≠gb;omega)).trans ((r8.o.block v.gW zfi zfi).trans (tL _ _ v.gW aD))));obtain⟨W7,Cg⟩:=aU (w7.setCell ⟨gb,6,none⟩ (.slice (some ⟨g1,0,none⟩) (r5.back.length+1) c1));rw[<-Cg] at zsZ znQ zjq⊢;clear Cg On vZ k6 kB;obtain⟨bx,ox,x',hA,-,-,zJ9,E9,e0,e1⟩:=(zQ zjq.o aH).callsAt aP;injection hA with hA;injection hA with zH yX;subst zH yX;rw[zmj.o] at E9;injection E9 with E9;subst E9;simp only[rL] at e0 e1;obtain⟨p,zjR⟩:∃p:Nat,x.c=(p:Int):=⟨x.c.toNat,aD⟩;have ziV:p<=100000000:=aD;have zLC:(Ld (p:Int)).length<=20:=by rw[Yg];exact Qv aD
    rw[zjR] at e0;have zDy:=aC zjR;clear zjR e1
    go_wp2_with (go_at_call 57;refine(zbA p ziV _).mono ?_;rintro y w8 ⟨rfl,Jz⟩;have zjw:=aC Jz;clear Jz)
    go_roundw
    case rel=>
     refine⟨k+1,{v5 with gB:=g1,cB:=c1},aD,pT,?_,?_,(iS zjw.o znQ.o).1,zta zjq.o zjw.o⟩
     .rw[uK.o];simp[Nf,jC,zDy.o]
     .rw[uK.o]
      have:=zsZ.o.keep zjw.o;rw[Jx.o,pU.o] at this;exact this
    case measure=>simp[intOf];omega
   .replace uK:=aC (show cU r m (k+1)=(r1,tx) by rw[uK.o,if_neg hp])
    go_quiet (fail)
    go_wp2;go_roundw
    case rel=>exact⟨k+1,v1,aD,pT,by rw[uK.o],by rw[uK.o];exact zfT.o.keep ⟨rfl,rfl,rfl,aZ _,λ_ _=>rfl⟩,zp0.o,Af zs5.o (λ_ _=>rfl)⟩
    case measure=>simp[intOf];omega
  .have e:k=n:=aD
   subst e;have zgU:=aC (show tT r m=(r1,tx) by rw[<-zcC,<-Qh.o,lF.o,zlW.o]);have k:=aJ uJ.o.blk;obtain⟨k0,k1,k2,k3,k4,k5,k6,k7⟩:=eF k;clear k;have z:=aJ zek.o;obtain⟨z0,z1,z2,z3,z4,z5,z6,z7⟩:=eF z;clear z;have r0:=eL zek.o
   go_wp2_with fail
   have er:=aJ (sJ v1 r1 zek.o);refine qP (v:=.tuple #[.agg (fO (v1) (r1)),.string ⟨(tx:List UInt8).toArray⟩]) ?_ rfl ?_
   .unfold gI at er
    simp[results,Tryd.results32,go_sem,er]
   .rw[zgU.o]
    obtain⟨d1,d2,d3⟩:=uJ.o.done (b:=gb+1) aD;exact⟨v1,rfl,d1,d2,d3⟩
structure zn2 (r:b6):Prop where
 small:Sa r
 waits:zgw r
 nodup:(r.wait.map bJ.c).Nodup
 backs:∀x∈r.back,1<=x.c/\x.c<=99
 froms:∀d∈r.recs,0<=d.f/\d.f<=100000
variable {ops:Int}{e:dG}
theorem zBx (h:sK ops e=true)(ho:ops<=4):0<=e.a/\e.a<=100000:=by
 have h:=of_decide_eq_true h;unfold Jd at h;omega
abbrev zsE (e:dG):Obj:=.cells #[.string e.k,.int .i64 e.a,.int .i64 e.b] 43
theorem zqP (lo:Nat)(v:fD)(r:b6)(e:dG)(w:aE)(h:dR w lo v r)(hs:zn2 r)(dY:lo<=w.heap.size)(he:sK r.o.op e=true):
 iE aK 17 #[.agg (fO v r),.agg #[.string e.k,.int .i64 e.a,.int .i64 e.b]] w (Yr lo v w (eG r e)):=by
 obtain⟨Ob,Ag⟩:=zBx he (Cd hs.small.off).2.2.2.1;obtain⟨gb,eK⟩:=aU w.heap.size;have hl:=h.lts;obtain⟨O,hO⟩:=aU (.cells (fO v r) 40:Obj);obtain⟨C,hC⟩:=aU (zsE e:Obj);obtain⟨Z,hZ⟩:=aU (jO:Obj);have kW:(((w.alloc O).alloc C).alloc Z).heap[gb]? =some (Ew v r):=by rw[hO,eK];exact dF (dF (lO _ _) _) _
 have zJ:(((w.alloc O).alloc C).alloc Z).heap[gb+1]? =some (zsE e):=by rw[hC,eK];exact dF (mX _ _ aQ) _
 have n8:(((w.alloc O).alloc C).alloc Z).heap[gb+2]? =some jO:=by rw[<-hZ];exact mX _ _ X9
 have eE:(((w.alloc O).alloc C).alloc Z).heap.size=gb+3:=by rw[eK];simp
 have eO:=aC (show gG w (((w.alloc O).alloc C).alloc Z) lo gb 3 v v r from⟨((h.alloc O).alloc C).alloc Z,n5.of_below v (dO (dO (dO (eR _ _) _) _) _),vX.refl _ _,eK,kW,by rw[eE];exact aZ _,aD,.inl aD,.inl aD,.inl aD,.inl aD,aD⟩);have oU:=aC eE;have jK:=aC n8;have lM:=aC zJ;have HO:=aC hO;have HC:=aC (show C=.cells #[.string e.k,.int .i64 e.a,.int .i64 e.b] 43 from hC);have HZ:=aC (show Z=.cells #[.int .i64 0,.int .i64 0,.int .i64 0,.int .i64 0,.slice none 0 0,.slice none 0 0,.slice none 0 0,.slice none 0 0] 40 from hZ);have fK:=aC eK;have HL:=aC (show v.gR<gb/\v.gW<gb/\v.gB<gb/\v.gL<gb by omega);clear hO hC hZ eK kW n8 zJ eE h hl
 go_enter Tryd.func17,Tryd.ntmps17
 go_upto_region 1 with fail
 rw[<-HO.o,<-HC.o,<-HZ.o,<-fK.o];obtain⟨W1,dC⟩:=aU (((w.alloc O).alloc C).alloc Z);rw[<-dC] at eO jK lM oU⊢;clear dC;have k:=aJ eO.o.blk;obtain⟨k0,k1,k2,k3,k4,k5,k6,k7⟩:=eF k;clear k;have q:=aJ lM.o;obtain⟨q0,q1,q2⟩:=zso q;clear q;have hl:=HL.o;have Kq:gb+2≠v.gR:=aD;have y7:gb+2≠v.gB:=aD;have Qg:lo<=W1.heap.size:=by have:=eO.o.lob;have:=oU.o;omega
 clear hl;cases h0:(e.k.toList==[114,105,110,103])
 case true=>
  have uK:=aC (show eG r e=pL r ⟨e.a,e.b⟩ by unfold eG;rw[if_pos (show e.k.toList=H3 from eq_of_beq h0)])
  go_wp2_with (go_at_call 28;refine(zB1 lo v r ⟨e.a,e.b⟩ W1 eO.o.ok hs.small Qg).mono ?_;rintro y w5 ⟨v5,rfl,bV,jI,wY⟩;obtain⟨r5,fA⟩:=aU ((pL r ⟨e.a,e.b⟩).1:b6);obtain⟨t5,oL⟩:=aU ((pL r ⟨e.a,e.b⟩).2:List UInt8);rw[<-fA] at bV⊢;rw[<-oL];have pU:=aC fA;have yY:=aC oL;have wC:=aC bV;have tU:=aC jI;have oG:=aC wY;have kr:=jI.blk jK.o Kq y7;have rV:=aC kr;have z:=aJ kr;have r0:=eL kr;obtain⟨z0,z1,z2,z3,z4,z5,z6,z7⟩:=eF z;clear fA oL bV jI wY kr z)
  have er:=aJ (sJ v5 r5 rV.o);refine qP (v:=.tuple #[.agg (fO (v5) (r5)),.string ⟨(t5:List UInt8).toArray⟩]) ?_ rfl ?_
  .unfold gI at er
   simp[results,zb9,go_sem,er]
  .rw[uK.o]
   have hl:=HL.o;have hz:=oU.o;have eK:=fK.o;have mr:=oG.o.r;have mw:=oG.o.w;have mb:=oG.o.b;have ml:=oG.o.l;refine⟨v5,by rw[pU.o,yY.o],by rw[<-pU.o];exact wC.o.set8 aD,(eO.o.turn.same tU.o).set8 aD,⟨mr.imp id (λx=>by omega),mw.imp id (λx=>by omega),mb.imp id (λx=>by omega),ml⟩⟩
 case false=>
  cases h1:(e.k.toList==[97,110,115,119,101,114])
  case true=>
   have uK:=aC (show eG r e=nG r e.a by unfold eG;rw[if_neg zeF];rw[if_pos (show e.k.toList=Hs from eq_of_beq h1)])
   go_wp2_with (go_at_call 29;refine(zDi lo v r e.a W1 eO.o.ok hs.small Qg hs.waits).mono ?_;rintro y w5 ⟨v5,rfl,bV,jI,wY⟩;obtain⟨r5,fA⟩:=aU ((nG r e.a).1:b6);obtain⟨t5,oL⟩:=aU ((nG r e.a).2:List UInt8);rw[<-fA] at bV⊢;rw[<-oL];have pU:=aC fA;have yY:=aC oL;have wC:=aC bV;have tU:=aC jI;have oG:=aC wY;have kr:=jI.blk jK.o Kq y7;have rV:=aC kr;have z:=aJ kr;have r0:=eL kr;obtain⟨z0,z1,z2,z3,z4,z5,z6,z7⟩:=eF z;clear fA oL bV jI wY kr z)
   have er:=aJ (sJ v5 r5 rV.o);refine qP (v:=.tuple #[.agg (fO (v5) (r5)),.string ⟨(t5:List UInt8).toArray⟩]) ?_ rfl ?_
   .unfold gI at er
    simp[results,zb9,go_sem,er]
   .rw[uK.o]
    have hl:=HL.o;have hz:=oU.o;have eK:=fK.o;have mr:=oG.o.r;have mw:=oG.o.w;have mb:=oG.o.b;have ml:=oG.o.l;refine⟨v5,by rw[pU.o,yY.o],by rw[<-pU.o];exact wC.o.set8 aD,(eO.o.turn.same tU.o).set8 aD,⟨mr.imp id (λx=>by omega),mw.imp id (λx=>by omega),mb.imp id (λx=>by omega),ml⟩⟩
  case false=>
   cases h2:(e.k.toList==[114,101,116,117,114,110])
   case true=>
    have uK:=aC (show eG r e=lV r e.a by unfold eG;rw[if_neg zeF];rw[if_neg zi6];rw[if_pos (show e.k.toList=He from eq_of_beq h2)])
    go_wp2_with (go_at_call 30;refine(zIg lo v r e.a W1 eO.o.ok hs.small Qg hs.backs).mono ?_;rintro y w5 ⟨v5,rfl,bV,jI,wY⟩;obtain⟨r5,fA⟩:=aU ((lV r e.a).1:b6);obtain⟨t5,oL⟩:=aU ((lV r e.a).2:List UInt8);rw[<-fA] at bV⊢;rw[<-oL];have pU:=aC fA;have yY:=aC oL;have wC:=aC bV;have tU:=aC jI;have oG:=aC wY;have kr:=jI.blk jK.o Kq y7;have rV:=aC kr;have z:=aJ kr;have r0:=eL kr;obtain⟨z0,z1,z2,z3,z4,z5,z6,z7⟩:=eF z;clear fA oL bV jI wY kr z)
    have er:=aJ (sJ v5 r5 rV.o);refine qP (v:=.tuple #[.agg (fO (v5) (r5)),.string ⟨(t5:List UInt8).toArray⟩]) ?_ rfl ?_
    .unfold gI at er
     simp[results,zb9,go_sem,er]
    .rw[uK.o]
     have hl:=HL.o;have hz:=oU.o;have eK:=fK.o;have mr:=oG.o.r;have mw:=oG.o.w;have mb:=oG.o.b;have ml:=oG.o.l;refine⟨v5,by rw[pU.o,yY.o],by rw[<-pU.o];exact wC.o.set8 aD,(eO.o.turn.same tU.o).set8 aD,⟨mr.imp id (λx=>by omega),mw.imp id (λx=>by omega),mb.imp id (λx=>by omega),ml⟩⟩
   case false=>
    cases h3:(e.k.toList==[104,97,110,103])
    case true=>
     have uK:=aC (show eG r e=l7 r e.a by unfold eG;rw[if_neg zeF];rw[if_neg zi6];rw[if_neg zwH];rw[if_pos (show e.k.toList=I6 from eq_of_beq h3)])
     go_wp2_with (go_at_call 31;refine(zx5 lo v r e.a W1 eO.o.ok hs.small Qg).mono ?_;rintro y w5 ⟨v5,rfl,bV,jI,wY⟩;obtain⟨r5,fA⟩:=aU ((l7 r e.a).1:b6);obtain⟨t5,oL⟩:=aU ((l7 r e.a).2:List UInt8);rw[<-fA] at bV⊢;rw[<-oL];have pU:=aC fA;have yY:=aC oL;have wC:=aC bV;have tU:=aC jI;have oG:=aC wY;have kr:=jI.blk jK.o Kq y7;have rV:=aC kr;have z:=aJ kr;have r0:=eL kr;obtain⟨z0,z1,z2,z3,z4,z5,z6,z7⟩:=eF z;clear fA oL bV jI wY kr z)
     have er:=aJ (sJ v5 r5 rV.o);refine qP (v:=.tuple #[.agg (fO (v5) (r5)),.string ⟨(t5:List UInt8).toArray⟩]) ?_ rfl ?_
     .unfold gI at er
      simp[results,zb9,go_sem,er]
     .rw[uK.o]
      have hl:=HL.o;have hz:=oU.o;have eK:=fK.o;have mr:=oG.o.r;have mw:=oG.o.w;have mb:=oG.o.b;have ml:=oG.o.l;refine⟨v5,by rw[pU.o,yY.o],by rw[<-pU.o];exact wC.o.set8 aD,(eO.o.turn.same tU.o).set8 aD,⟨mr.imp id (λx=>by omega),mw.imp id (λx=>by omega),mb.imp id (λx=>by omega),ml⟩⟩
    case false=>
     have uK:=aC (show eG r e=tT r e.a by unfold eG;rw[if_neg zeF];rw[if_neg zi6];rw[if_neg zwH];rw[if_neg (by intro e2;rw[e2] at h3;exact absurd h3 aH)])
     go_wp2_with (go_at_call 32;refine(zF7 lo v r e.a W1 eO.o.ok hs.small Qg hs.waits hs.nodup hs.froms Ob Ag).mono ?_;rintro y w5 ⟨v5,rfl,bV,jI,wY⟩;obtain⟨r5,fA⟩:=aU ((tT r e.a).1:b6);obtain⟨t5,oL⟩:=aU ((tT r e.a).2:List UInt8);rw[<-fA] at bV⊢;rw[<-oL];have pU:=aC fA;have yY:=aC oL;have wC:=aC bV;have tU:=aC jI;have oG:=aC wY;have kr:=jI.blk jK.o Kq y7;have rV:=aC kr;have z:=aJ kr;have r0:=eL kr;obtain⟨z0,z1,z2,z3,z4,z5,z6,z7⟩:=eF z;clear fA oL bV jI wY kr z)
     have er:=aJ (sJ v5 r5 rV.o);refine qP (v:=.tuple #[.agg (fO (v5) (r5)),.string ⟨(t5:List UInt8).toArray⟩]) ?_ rfl ?_
     .unfold gI at er
      simp[results,zb9,go_sem,er]
     .rw[uK.o]
      have hl:=HL.o;have hz:=oU.o;have eK:=fK.o;have mr:=oG.o.r;have mw:=oG.o.w;have mb:=oG.o.b;have ml:=oG.o.l;refine⟨v5,by rw[pU.o,yY.o],by rw[<-pU.o];exact wC.o.set8 aD,(eO.o.turn.same tU.o).set8 aD,⟨mr.imp id (λx=>by omega),mw.imp id (λx=>by omega),mb.imp id (λx=>by omega),ml⟩⟩
structure RInv (b:b6):Prop where
 off:qY b.o=true
 clk:0<=b.clk
 nodup:(b.wait.map bJ.c).Nodup
 hasrec:∀x∈b.wait,(jD b.recs x.c).isSome=true
 recB:∀d∈b.recs,1<=d.c/\d.c<=99/\1<=d.l/\d.l<=6/\0<=d.o/\d.o<=4/\0<=d.f/\d.f<=b.clk
 waitB:∀x∈b.wait,1<=x.c/\x.c<=99
 backB:∀x∈b.back,1<=x.c/\x.c<=99
structure I9 (b:b6)(k:Nat):Prop where
 clk:b.clk<=60*k
 nrec:b.recs.length<=k
 nw:b.wait.length<=k
 nb:b.back.length<=60*k
 nl:b.log.length=k
theorem RInv.good (h:RInv b)(c:I9 b k)(hk:k<=60):zn2 b:=
 ⟨
  ⟨h.off,by have:=c.nrec;omega,by have:=c.nw;omega,by have:=c.nb;omega,by have:=c.nl;omega,⟨h.clk,by have:=c.clk;omega⟩⟩,⟨h.hasrec,h.waitB⟩,h.nodup,h.backB,
  λd hd=>by have:=h.recB d hd;have:=c.clk;omega⟩
theorem RInv.zero (h:qY o=true):RInv (l6 o):=⟨h,zpj _,List.nodup_nil,λx hx=>(by cases hx),λd hd=>(by cases hd),λx hx=>(by cases hx),λx hx=>(by cases hx)⟩
def I9.zero (o:jE):I9 (l6 o) 0:=⟨zpj _,aZ _,aZ _,aZ _,rfl⟩
variable {xs:List bJ}{q:Int}
theorem Da (h:x∈dQ xs q):x∈xs/\x.c≠q:=by
 unfold dQ at h;rw[H5] at h;exact⟨h.1,by simpa using h.2⟩
def zed (h:(xs.map bJ.c).Nodup):((dQ xs q).map bJ.c).Nodup:=
 zHO (zz5 _ List.filter_sublist) h
theorem Pt {z:bR}(h:z∈rs.modify i f):∃d∈rs,z=d\/z=f d:=by
 obtain⟨j,hj⟩:=F7.1 h;rw[zG] at hj;rcases Ll:rs[j]? with _|y
 .rw[Ll] at hj;cases hj
 .rw[Ll] at hj
  refine⟨y,dS Ll,?_⟩;simp at hj;split at hj
  .exact .inr hj.symm
  .exact .inl hj.symm
theorem zun {qs:List bR}(h:(jD rs c).isSome=true):(jD (rs++qs) c).isSome=true:=by
 rw[zbn] at*;rw[zor,h];rfl
theorem zCw (hf:∀d,(f d).c=d.c/\(f d).e=d.e)(h:(jD rs c).isSome=true):(jD (rs.modify i f) c).isSome=true:=by
 rw[zbn,Qo] at*;obtain⟨x,hx,hp⟩:=h;obtain⟨j,hj,e⟩:=Kh.1 hx;have x7:zU c (f x)=true:=by unfold zU eA at*;rw[(hf x).1,(hf x).2];exact hp
 by_cases eI:i=j
 .refine⟨f x,F7.2 ⟨j,?_⟩,x7⟩
  rw[zG,lP hj,e];simp[eI]
 .refine⟨x,F7.2 ⟨j,?_⟩,hp⟩
  rw[zG,lP hj,e];simp[eI]
theorem RInv.ends (h:RInv b)(hd:b.recs[i]? =some d)(e:ByteArray):RInv (kT b i e):=by
 refine⟨h.off,h.clk,zed h.nodup,?_,?_,λx hx=>h.waitB x (Da hx).1,h.backB⟩
 .intro x hx
  have hx:x∈dQ b.wait (Fu b.recs i):=hx;rw[Qe hd] at hx;obtain⟨h1,h2⟩:=Da hx;exact zsa hd (Ne.symm h2) (h.hasrec x h1)
 .intro z hz
  obtain⟨y,hy,e1|e1⟩:=Pt hz
  .subst e1;exact h.recB _ hy
  .subst e1;exact h.recB y hy
theorem RInv.tire {t:List UInt8}(h:RInv b)(hx:1<=x.c/\x.c<=99):RInv (lY (b,t) x).1:=by
 rcases ho:jD b.recs x.c with _|i
 .have:lY (b,t) x=(b,t):=by unfold lY;simp only[ho]
  rw[this];exact h
 .obtain⟨d,hd,-,-⟩:=Ca ho
  rw[zaQ (bt:=(b,t)) ho hd];split
  .have e:=h.ends hd Ea
   exact⟨e.off,e.clk,e.nodup,e.hasrec,e.recB,e.waitB,λy hy=>by
    rw[Dv] at hy;rcases hy with hy|hy
    .exact h.backB y hy
    .simp at hy;subst hy;exact hx⟩
  .exact h
theorem RInv.tires:∀(xs:List bJ) (b:b6) (t:List UInt8),RInv b->(∀x∈xs,1<=x.c/\x.c<=99)->RInv (xs.foldl lY (b,t)).1
 |[],b,t,h,_=>h
 |x::xs,b,t,h,hx=>by
  rw[Pc];have h1:=h.tire (t:=t) (hx x aQ);obtain⟨b',t',e⟩:∃b' t',lY (b,t) x=(b',t'):=⟨_,_,rfl⟩;rw[e] at h1⊢;exact RInv.tires xs b' t' h1 (λy hy=>hx y (by simp[hy]))
theorem zff (ho:qY o=true)(h:l∈n6 o rs):1<=l/\l<=6:=by
 have:=zf1 h;have:=(Cd ho).2.1;omega
theorem zaY (xs:List bJ)(c:bJ):(sV xs c).Perm (c::xs):=by
 unfold sV;refine(List.perm_middle).trans ?_;rw[List.takeWhile_append_dropWhile]
theorem zG1 (xs:List bJ)(c:bJ):(sV xs c).length=xs.length+1:=by rw[(zaY xs c).length_eq];rfl
theorem zBa (h:sK ops e=true)(he:e.k.toList=H3):1<=e.a/\e.a<=99:=by
 have h:=of_decide_eq_true h;unfold Jd at h;rcases h with h|h|⟨h|h,_⟩|h
 .omega
 all_goals(first|(rw[h.1] at he;exact absurd he aH)|(rw[h] at he;exact absurd he aH))
theorem zds (h:sK ops e=true)(he:e.k.toList=Hs\/e.k.toList=He):1<=e.a/\e.a<=ops:=by
 have h:=of_decide_eq_true h;unfold Jd at h;rcases h with h|h|h|h
 .rw[h.1] at he;exact absurd he aH
 .rw[h.1] at he;exact absurd he aH
 .exact⟨h.2.1,h.2.2.1⟩
 .rw[h.1] at he;exact absurd he aH
theorem zCW (h:sK ops e=true)(h1:e.k.toList≠H3)(h2:e.k.toList≠Hs)(h3:e.k.toList≠He)(h4:e.k.toList≠I6):1<=e.a/\e.a<=60:=by
 have h:=of_decide_eq_true h;unfold Jd at h;rcases h with h|h|⟨h|h,_⟩|h
 .exact absurd h.1 h1
 .exact absurd h.1 h4
 .exact absurd h h2
 .exact absurd h h3
 .exact⟨h.2.1,h.2.2.1⟩
theorem zdH:eJ.toList=[111,112,101,110]:=by decide+kernel
theorem RInv.step (h:RInv b)(hc:I9 b k)(he:sK b.o.op e=true)(hk:k<=60):RInv (eG b e).1/\I9 (Eb (eG b e)) (k+1)/\(eG b e).1.o=b.o/\(eG b e).1.log=b.log:=by
 have zKf:=Cd h.off;have c1:=hc.clk;have c2:=hc.nrec;have c3:=hc.nw;have c4:=hc.nb;have c5:=hc.nl;have key:∀bt:b6×List UInt8,RInv bt.1->bt.1.o=b.o->bt.1.log=b.log->bt.1.clk<=b.clk+60->bt.1.recs.length<=b.recs.length+1->bt.1.wait.length<=b.wait.length+1->bt.1.back.length<=b.back.length+60->RInv bt.1/\I9 (Eb bt) (k+1)/\bt.1.o=b.o/\bt.1.log=b.log:=by
  intro bt hi ho hl zJL hr hw wH;refine⟨hi,⟨by show bt.1.clk<=_;omega,by show bt.1.recs.length<=_;omega,by show bt.1.wait.length<=_;omega,by show bt.1.back.length<=_;omega,?_⟩,ho,hl⟩;show(bt.1.log++[bt.2]).length=_;rw[gJ,hl,c5];rfl
 have same:∀t,RInv (b,t).1/\I9 (Eb (b,t)) (k+1)/\(b,t).1.o=b.o/\(b,t).1.log=b.log:=λt=>key (b,t) h rfl rfl (by show b.clk<=_;omega) (by show b.recs.length<=_;omega) (by show b.wait.length<=_;omega) (by show b.back.length<=_;omega);unfold eG;by_cases e1:e.k.toList=H3
 .rw[if_pos e1]
  obtain⟨a1,a2⟩:=zBa he e1;unfold pL;split
  .exact same _
  .rename_i dB
   rw[Dq,not_or] at dB;rcases hf:n6 b.o b.recs with _|⟨l,fs⟩
   .refine key (_,_) ⟨h.off,h.clk,h.nodup,h.hasrec,h.recB,h.waitB,λx hx=>?_⟩ rfl rfl ?_ ?_ ?_ ?_
    .rw[Dv] at hx
     rcases hx with hx|hx
     .exact h.backB x hx
     .simp at hx;subst hx;exact⟨a1,a2⟩
    all_goals simp only[gJ,pG,tV]
    all_goals omega
   .have V9:=zff h.off (l:=l) Uk
    refine key (_,_) ⟨h.off,h.clk,?_,?_,?_,?_,h.backB⟩ rfl rfl ?_ ?_ ?_ ?_
    .show((sV b.wait ⟨e.a,e.b⟩).map bJ.c).Nodup
     refine((zaY b.wait ⟨e.a,e.b⟩).map bJ.c).nodup_iff.2 ?_;rw[fG,List.nodup_cons];refine⟨λhm=>?_,h.nodup⟩;obtain⟨x,hx,zDj⟩:=Hv.1 hm;have:=h.hasrec x hx;rw[zDj] at this;exact dB.1 this
    .intro x hx
     have hx:=(zaY b.wait ⟨e.a,e.b⟩).mem_iff.1 hx;rcases iX.1 hx with rfl|hx
     .show(jD (b.recs++_) e.a).isSome=true
      rw[zbn,zor];have:zU e.a ⟨e.a,l,0,b.clk,-1,-1,eJ⟩=true:=by unfold zU eA;simp;exact zdH
      simp[this]
     .exact zun (h.hasrec x hx)
    .intro d hd
     rcases Dv.1 hd with hd|hd
     .exact h.recB d hd
     .simp at hd;subst hd
      have:=h.clk;simp only;omega
    .intro x hx
     have hx:=(zaY b.wait ⟨e.a,e.b⟩).mem_iff.1 hx;rcases iX.1 hx with rfl|hx
     .exact⟨a1,a2⟩
     .exact h.waitB x hx
    all_goals simp only[gJ,pG,tV,zG1]
    all_goals omega
 rw[if_neg e1];by_cases e2:e.k.toList=Hs
 .rw[if_pos e2]
  obtain⟨a1,a2⟩:=zds he (.inl e2);by_cases lI:0<dJ b.recs e.a
  .have e9:nG b e.a=(b,[116,97,108,107,115]):=by unfold nG;rw[if_pos lI]
   rw[e9];exact same _
  .rcases hw:b.wait with _|⟨c,cs⟩
   .have e9:nG b e.a=(b,[110,111,110,101]):=by unfold nG;rw[if_neg lI,hw]
    rw[e9];exact same _
   .rcases ho:jD b.recs c.c with _|i
    .have e9:nG b e.a=(b,[]):=by unfold nG;rw[if_neg lI,hw];simp only[ho]
     rw[e9];exact same _
    .have e9:nG b e.a=({b with recs:=b.recs.modify i λd=>{d with o:=e.a,h:=b.clk},wait:=dQ b.wait c.c},[99,97,108,108,32]++jC c.c):=by unfold nG;rw[if_neg lI,hw];simp only[ho]
     rw[e9];refine key (_,_) ⟨h.off,h.clk,zed h.nodup,?_,?_,?_,h.backB⟩ rfl rfl ?_ ?_ ?_ ?_
     .intro x hx
      exact zCw (λd=>⟨rfl,rfl⟩) (h.hasrec x (Da hx).1)
     .intro z hz
      obtain⟨y,hy,q|q⟩:=Pt hz
      .subst q;exact h.recB _ hy
      .subst q
       have:=h.recB y hy;simp only;omega
     .intro x hx
      exact h.waitB x (Da hx).1
     all_goals simp only[Gj]
     .omega
     .omega
     .have:=Yc b.wait c.c;omega
     .omega
 rw[if_neg e2];by_cases e3:e.k.toList=He
 .rw[if_pos e3]
  obtain⟨a1,a2⟩:=zds he (.inr e3);by_cases lI:0<dJ b.recs e.a
  .have e9:lV b e.a=(b,[116,97,108,107,115]):=by unfold lV;rw[if_pos lI]
   rw[e9];exact same _
  .rcases hw:b.back with _|⟨c,cs⟩
   .have e9:lV b e.a=(b,[110,111,110,101]):=by unfold lV;rw[if_neg lI,hw]
    rw[e9];exact same _
   .rcases hf:n6 b.o b.recs with _|⟨l,fs⟩
    .have e9:lV b e.a=(b,[98,117,115,121]):=by unfold lV;rw[if_neg lI,hw];simp only[hf]
     rw[e9];exact same _
    .have e9:lV b e.a=({b with back:=dQ b.back c.c,recs:=b.recs++[⟨c.c,l,e.a,b.clk,b.clk,-1,eJ⟩]},[99,97,108,108,32]++jC c.c):=by unfold lV;rw[if_neg lI,hw];simp only[hf]
     rw[e9];have V9:=zff h.off (l:=l) Uk;have Ii:=h.backB c (by rw[hw];simp);refine key (_,_) ⟨h.off,h.clk,h.nodup,λx hx=>zun (h.hasrec x hx),?_,h.waitB,?_⟩ rfl rfl ?_ ?_ ?_ ?_
     .intro d hd
      rcases Dv.1 hd with hd|hd
      .exact h.recB d hd
      .simp at hd;subst hd
       have:=h.clk;simp only;omega
     .intro x hx
      exact h.backB x (Da hx).1
     all_goals simp only[gJ,pG,tV]
     .omega
     .omega
     .omega
     .have:=Yc b.back c.c;omega
 rw[if_neg e3];by_cases e4:e.k.toList=I6
 .rw[if_pos e4]
  rcases ho:jD b.recs e.a with _|i
  .by_cases hf:(uX b.back e.a).isSome=true
   .have e9:l7 b e.a=({b with back:=dQ b.back e.a},[111,102,102]):=by unfold l7;simp only[ho];rw[if_pos hf]
    rw[e9];refine key (_,_) ⟨h.off,h.clk,h.nodup,h.hasrec,h.recB,h.waitB,λx hx=>h.backB x (Da hx).1⟩ rfl rfl ?_ ?_ ?_ ?_
    all_goals simp only
    .omega
    .omega
    .omega
    .have:=Yc b.back e.a;omega
   .have e9:l7 b e.a=(b,[103,111,110,101]):=by unfold l7;simp only[ho];rw[if_neg hf]
    rw[e9];exact same _
  .obtain⟨d,hd,-,-⟩:=Ca ho
   have hw:=Yc b.wait (Fu b.recs i);have zqb:∀(E:ByteArray) (t:List UInt8),RInv (kT b i E,t).1/\I9 (Eb (kT b i E,t)) (k+1)/\(kT b i E,t).1.o=b.o/\(kT b i E,t).1.log=b.log:=λE t=>by
    refine key (_,_) (h.ends hd _) rfl rfl ?_ ?_ ?_ ?_
    .show b.clk<=_;omega
    .show(zg5 _ _ _).length<=_;rw[Gj];omega
    .show(dQ b.wait (Fu b.recs i)).length<=_;omega
    .show b.back.length<=_;omega
   by_cases hp:0<opAt b.recs i
   .have e9:l7 b e.a=(kT b i Gv,[100,111,110,101]):=by unfold l7;simp only[ho];rw[if_pos hp]
    rw[e9];exact zqb _ _
   .have e9:l7 b e.a=(kT b i Bs,[108,101,102,116]):=by unfold l7;simp only[ho];rw[if_neg hp]
    rw[e9];exact zqb _ _
 rw[if_neg e4];obtain⟨a1,a2⟩:=zCW he e1 e2 e3 e4;have mF:=h.clk;have T:=ziA (r:=b) (m:=e.a) ⟨h.hasrec,h.waitB⟩ h.nodup (λd hd=>by have:=h.recB d hd;omega) aD b.wait.length (aZ _);have t1:=T.nrec;have t2:=T.off;have t3:=T.clk;have t4:=T.nb;have t5:=T.nw;rw[zcC] at t1 t2 t3 t4 t5;have zh0:∀(xs:List bJ) (bt:b6×List UInt8),(xs.foldl lY bt).1.log=bt.1.log:=by
  intro xs
  induction xs with
  |nil=>intro bt;rfl
  |cons x xs ih=>
   intro bt;rw[Pc,ih];unfold lY;split
   .rfl
   .split<;>rfl
 refine key (tT b e.a) ?_ t2 (zh0 _ _) ?_ ?_ ?_ ?_
 .unfold tT
  refine RInv.tires _ _ _ ⟨h.off,by show 0<=b.clk+e.a;omega,h.nodup,h.hasrec,λd hd=>?_,h.waitB,h.backB⟩ h.waitB;have:=h.recB d hd;show _/\_/\_/\_/\_/\_/\_/\d.f<=b.clk+e.a;omega
 .omega
 .omega
 .omega
 .omega
def mB (o:jE)(es:List dG)(k:Nat):b6:=(es.take k).foldl (λb e=>Eb (eG b e)) (l6 o)
variable {es:List dG}
theorem Wz (h:es[k]? =some e):mB o es (k+1)=Eb (eG (mB o es k) e):=by
 unfold mB;rw[L0,h,zm1];rfl
theorem zha (o:jE)(es:List dG):mB o es es.length=C3 o es:=by unfold mB C3;rw[yR (aZ _)]
theorem Tw (h:jV o es=true):∀k,k<=es.length->RInv (mB o es k)/\I9 (mB o es k) k/\(mB o es k).o=o
 |0,_=>by
  have h1:qY o=true:=by unfold jV at h;simp at h;exact h.1.1
  exact⟨RInv.zero h1,I9.zero o,rfl⟩
 |k+1,hk=>by
  obtain⟨i1,i2,i3⟩:=Tw h k aD;obtain⟨e,he⟩:∃e,es[k]? =some e:=⟨es[k],lP aD⟩;have hv:sK o.op e=true:=by
   unfold jV at h;simp only[fN,tJ] at h;exact h.2 e (dS he)
  have hl:es.length<=60:=by unfold jV at h;simp at h;exact h.1.2
  obtain⟨j1,j2,j3,j4⟩:=i1.step i2 (e:=e) (by rw[i3];exact hv) aD;rw[Wz he];exact⟨⟨j1.off,j1.clk,j1.nodup,j1.hasrec,j1.recB,j1.waitB,j1.backB⟩,j2,by show(eG _ e).1.o=o;rw[j3,i3]⟩
theorem zmm (o:jE)(w:aE):
 iE aK 15 #[.agg #[.int .i64 o.ln,.int .i64 o.op,.int .i64 o.pt]] w λx w'=>x=.returned (.bool (qY o))/\bU w.heap.size w w':=by
 go_enter Tryd.func15,Tryd.ntmps15
 go_wp2_with ((go_at_call 27;refine(zoU _ _ _ _).mono ?_;rintro e w' ⟨rfl,rfl⟩))
 all_goals go_ret
 all_goals refine⟨Kj ?_,((eR _ _).alloc (aZ _) _)⟩
 all_goals rw[My]
 all_goals simp[qY,inB] at*
 all_goals grind
theorem zBR (e:dG)(ops:Int)(w:aE):
 iE aK 16 #[.agg #[.string e.k,.int .i64 e.a,.int .i64 e.b],.int .i64 ops] w λx w'=>x=.returned (.bool (sK ops e))/\bU w.heap.size w w':=by
 go_enter Tryd.func16,Tryd.ntmps16
 go_wp2_with ((go_at_call 27;refine(zoU _ _ _ _).mono ?_;rintro e w' ⟨rfl,rfl⟩))
 all_goals go_ret
 all_goals refine⟨Kj ?_,((eR _ _).alloc (aZ _) _)⟩
 all_goals rw[My]
 all_goals simp[sK,Jd,inB,H3,I6,Hs,He,zbX] at*
 all_goals grind
end Go.Proofs.YtfcjiloojkjaeaaDoor
