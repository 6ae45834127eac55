/-
  Part 3 of what stands behind the last text.
-/
import Derived.Conc.WgGenN3
import Derived.Conc.TokenWalk
import Derived.Test.YtfcjiloojkjaeaaGreatDoorRetFPq2
set_option linter.all false
set_option maxHeartbeats 16000000
set_option maxRecDepth 100000
open Array renaming all_eq_true_iff_forall_mem→zmN,any_eq_true→zgH,ext_getElem?→zfG,getD_eq_getD_getElem?→xG,getElem?_eq_getElem→pS,getElem?_eq_none→N8,getElem?_eq_some_iff→eB,getElem?_map→Cy,getElem?_mapIdx→My,getElem?_setIfInBounds→zp4,getElem?_setIfInBounds_ne→tL,getElem?_toList→C1,getElem_mem→zvZ,mem_of_getElem?→za6,mem_singleton→zwB,range→Nw,replicate→oJ
open Bool renaming and_eq_true→jF,eq_iff_iff→Nk,false_eq_true→iX,false_or→zr1,not_eq_true'→zp5,or_eq_true→Eu
open Classical renaming byContradiction→Av
open Go renaming Act→vN,Calls→gH,Deferred→Gg,Frame→dR,FuncId→aQ,Goroutine→bD,Item→dX,Oper→aZ,Operand→cK,Program→bZ,TypeId→aM,TypeInfo→wE,Value→aF,World→aE,bodyPost_ret→nM,deafBehind→oK,execOp→aO,getD_set_ne→Pk,heap_alloc_new→gP,info_parts→Ch,mem_ready→znz,undef→aA,yielded→dH
open Go.Act renaming eval→wZ,mk→bJ,put→cC
open Go.Builtin renaming append_→xV
open Go.Code renaming region→E6
open Go.Conc renaming aside_setCell→Z1,goes_elim→zjY,listed→wQ,mem_seen→zfk,past_nil→znU,seen_none→Ax,served→o8,stepG_add_atomic→Yd,stepG_block→ze5,stepG_end→zeN,stepG_inBlock→znc,stepG_inLoop→zmD,stepG_load_atomic→zfc,stepG_loop→zmx,stepG_mark0→za5,stepG_markAt→zb0,stepG_region_end→dJ,stepG_ret'→x4,stepG_seq→dY,stepG_skip→p8,stepG_unwind_entry→zoC
open Go.Conc.Goes renaming stop→qU
open Go.Conc.Lib renaming WgLib→Vq,WgLink→zhk
open Go.Conc.QuitsD renaming ctl→zqd
open Go.ConcR renaming Payload→zho,mk→oQ
open Go.ConcR.Gen renaming body_add→N7,body_wait→Tx,nm_uLoad→zni,x_addU64_b→Xj,x_addU64_f→V5,x_addU64_n→Xh,x_addU64_x→Xu,x_disable_b→zjp,x_disable_f→zmG,x_disable_n→zin,x_disable_x→zmq,x_enable_b→zeq,x_enable_f→zfB,x_enable_n→zhf,x_enable_x→zgw,x_loadU64_b→zfm,x_loadU64_f→zeW,x_loadU64_n→zgl,x_loadU64_x→zeo,x_semacquire_b→ztc,x_semacquire_f→zvx,x_semacquire_n→ztY,x_semacquire_x→zot,x_semrelease_b→zut
open Go.Deferred renaming ofValue→Db
open Go.Extern.Race renaming none_→zpa
open Go.Frame renaming enter→Hm,finish_at→zra
open Go.GStep renaming after→Cg
open Go.IntKind renaming i32→zvi,u64→Sl,wrap_i32→zvP,wrap_u64→zdS
open Go.Lib renaming itoa→Lh,itoa_nonneg→Vb
open Go.Made renaming infoAt→zp7,reckon→zxT,reckonStruct→zxG,word→zqM
open Go.Proofs.Tryz renaming checked→wA,prog→aK,results40→zhH,results51→za9,results63→zfY,results64→ziq,results65→zdV,results66→zgW,underlying26→ztO,underlying45→zqy,underlying57→Lf
open Go.Region renaming binds→E8,ready→Hz,wanted→dE
open Go.Result renaming andThen→vR,evThen_ok→zjE,ok→wW
open Go.RowKit renaming Below→cF
open Go.RowKit.Below renaming heap_alloc→qE,heap_setCell→dU,refl→fW
open Go.Sem renaming bind→yN,events→xI,events_bind'→Xr,run→bL,runT→B8,run_bind'→uR
open Go.Tables renaming info?→zj8
open Go.World renaming alloc→zpU,cell?→lW,cell?_of_block→Cc,news_of_block→Dn,size_setCell→xA
open Int renaming le_refl→zaT
open List renaming all_eq_true→wN,any_eq_true→Wh,foldl_append→znO,foldl_cons→Oq,getD_cons_succ→Ee,getD_cons_zero→Du,getElem?_eq_getElem→mV,getElem?_eq_some_iff→kP,getElem?_modify→J0,getElem?_of_mem→zrV,getElem_map→zwb,length_append→jH,length_cons→rG,length_filter_le→za1,length_modify→Lt,length_nil→wD,map_cons→gT,mem_append→K3,mem_cons→mD,mem_filter→L8,mem_iff_getElem→Lw,mem_iff_getElem?→Gq,mem_map→Ug,mem_map_of_mem→ztg,mem_of_getElem?→fN,mem_range→El,modify→zj6,not_mem_nil→nE,range→iQ,set_cons_succ→dQ,set_cons_zero→dP,take_add_one→Ia
open List.Nodup renaming sublist→zHu
open List.Sublist renaming map→zIu
open Nat renaming eq_zero_or_pos→Ws,le_refl→bF,le_trans→eH,lt_of_lt_of_le→jO,lt_or_ge→qX,lt_succ_of_lt→zrS,lt_succ_self→yO,strongRecOn→zb8,zero_add→qH,zero_le→lP,zero_mul→zoy
open Option renaming bind_eq_some_iff→D3,bind_some→uY,getD_some→Br,isSome_iff_exists→zlO,map_eq_some_iff→zR,map_some→F8
open Option.some renaming inj→cO,injEq→jP
open Pure renaming pure→mE
open SizeOf renaming sizeOf→Ny
noncomputable section
namespace Go
theorem J4{P:Prop}(h:P:=by rw[hz];exact zz6 (by kernel_rfl)):P:=h
theorem vT{P:Prop}(h:P:=by decide+kernel):P:=h
theorem zj1{P:Prop}(h:P:=by intro u hu;simp[bR.cells] at hu;rcases hu with rfl|rfl|rfl|rfl|rfl|rfl|rfl<;>rfl):P:=h
theorem rS{P:Prop}(h:P:=by k_ne):P:=h
theorem zr6{P:Prop}(h:P:=by intro k hk aU;have cU:k=0\/k=1\/k=3\/k=4\/k=5\/k=6:=(by omega);rcases cU with rfl|rfl|rfl|rfl|rfl|rfl<;>rfl):P:=h
theorem zvc{P:Prop}(h:P:=by intro k hk aU;have cU:k=0\/k=1\/k=2\/k=3\/k=5\/k=6:=(by omega);rcases cU with rfl|rfl|rfl|rfl|rfl|rfl<;>rfl):P:=h
theorem zf9{P:Prop}(h:P:=by intro e2;rw[e2] at h0;exact absurd h0 (by decide)):P:=h
theorem zn1{P:Prop}(h:P:=by intro e2;rw[e2] at h1;exact absurd h1 (by decide)):P:=h
theorem Zi{P:Prop}(h:P:=by unfold maxLen;omega):P:=h
theorem Vt{P:Prop}(h:P:=by exact True.intro):P:=h
theorem zrw{P:Prop}(h:P:=by intro e2;rw[e2] at h2;exact absurd h2 (by decide)):P:=h
theorem Yx{P:Prop}(h:P:=by rw[cE];simp):P:=h
theorem Y7{P:Prop}(h:P:=by rw[hf];simp):P:=h
theorem zbK{P:Prop}(h:P:=by rw[uX];simp):P:=h
theorem ze3{P:Prop}(h:P:=by simpa using hi):P:=h
theorem zx6{P:Prop}(h:P:=by have:=fB.o.lob;have:=pR.o;omega):P:=h
theorem zlI{P:Prop}(h:P:=by show gb+1≠gb;omega):P:=h
theorem zmW{P:Prop}(h:P:=by simp[Act.eval,stA]):P:=h
theorem zmZ{P:Prop}(h:P:=by simp[Act.eval,smA]):P:=h
theorem zkp{P:Prop}(h:P:=by have:=h.size;omega):P:=h
end Go
namespace Go.Mt
open Go.Conc Go.Tt
variable {p:bZ}{main:Bool}{m m':Fm}{ms':List Fm}{w w':aE}
theorem zgL {c:Fm}{rest:List Fm}(hr:m.ret=true)(hc:c.ret=false)(h:(z8 p m (c::rest)).run p w=.ok (m',ms') w')(k:List dX)(d:Dk)(CS:List dR):
 ms'=rest/\w'=w/\(∃ops i r k0 v,c.todo=.inRegion ops (i::r)::k0/\m'=c.fin ops i r k0 v)/\stepG p main (G m.fr (fx k d c::CS)) w=.go (G (fx k d m') CS) w' (seen p m.fn ((z8 p m (c::rest)).events p w #[])):=by
 obtain⟨ops,i,r,k0,v,fn,Fo,hf,hv,rfl,rfl⟩:=Uc h;obtain⟨rfl,_⟩:=Yf _ _ w v w' hv;refine⟨rfl,rfl,⟨ops,i,r,k0,v,Fo,rfl⟩,?_⟩;rw[(Ma Fo hf hv).2];have he:results fn m.tmps=oG fn.results.toList m.tmps:=zmR (zu9 hv);have Bd:(fx k d c).finish v=fx k d (c.fin ops i r k0 v):=by
  simp only[dR.finish,fx,Fm.fr,Fm.fin,Fo,List.cons_append];cases(ops[i]?).bind (·.dst)<;>rfl
 rw[Fm.fr_ret hr,<-Bd];simp[G,stepG,unwind,doReturn,hf,he,hv,Cg]
def low (k:List dX)(d:Dk):Fm->List Fm->List dR
 |c,[]=>[fx k d c]
 |c,e::cs=>c.fr::low k d e cs
def stk (k:List dX)(d:Dk)(base:List dR)(m:Fm):List Fm->bD
 |[]=>G (fx k d m) base
 |c::cs=>G m.fr (low k d c cs++base)
theorem zo1 (k:List dX)(d:Dk)(base:List dR)(m:Fm)(ms:List Fm):(stk k d base m ms).status=.running:=by cases ms<;>rfl
variable {ms:List Fm}
theorem zEb {k:List dX}{d:Dk}{base:List dR}(hs:m.ret=true->ms≠[])(aU:ms=[]->m.ret=false->m.todo≠[])(hw:∀c∈ms,c.ret=false)
 (h:(fH p m ms).run p w=.ok (m',ms') w'):∃es,stepG p main (stk k d base m ms) w=.go (stk k d base m' ms') w' es/\∀e∈es,e∈seen p m.fn ((fH p m ms).events p w #[]):=by
 cases hr:m.ret with
 |false=>
  simp only[fH,hr,iX,if_false] at h⊢
  cases ms with
  |nil=>
   rcases zki (main:=main) hr (k:=k) (λe=>absurd e (aU rfl hr)) h d base with⟨rfl,e⟩|⟨rfl,e⟩
   .exact⟨_,e,λ_ x=>x⟩
   .exact⟨_,e,λ_ x=>x⟩
  |cons c cs=>
   rcases zki (main:=main) hr (k:=[]) (λ_=>rfl) h .nil (low k d c cs++base) with⟨rfl,e⟩|⟨rfl,e⟩
   .simp only[Hf] at e
    exact⟨_,e,λ_ x=>x⟩
   .simp only[Hf] at e
    exact⟨_,e,λ_ x=>x⟩
 |true=>
  simp only[fH,hr,if_true] at h⊢
  cases ms with
  |nil=>simp_all
  |cons c cs=>
   have zqh:=hw c (List.mem_cons_self ..)
   cases cs with
   |nil=>
    obtain⟨rfl,rfl,_,e⟩:=zgL (main:=main) hr zqh h k d base;exact⟨_,e,λ_ x=>x⟩
   |cons c2 cs=>
    obtain⟨rfl,rfl,_,e⟩:=zgL (main:=main) hr zqh h [] .nil (low k d c2 cs++base);simp only[Hf] at e;exact⟨_,e,λ_ x=>x⟩
variable {S:List Nat}
def Km.refl (h:∀i∈m.todo,Ay S i=true):Km S m m:=⟨h,λ_ _=>rfl⟩
theorem zFk (hn:∀i∈(Sz m ms).todo,Ay S i=true)(h:(fH p m ms).run p w=.ok (m',ms') w'):Km S (Sz m ms) (Sz m' ms'):=by
 cases hr:m.ret with
 |false=>
  simp only[fH,hr,iX,if_false] at h
  cases ms with
  |nil=>
   rcases zDD (S:=S) hn h with⟨rfl,e⟩|rfl
   .exact e
   .exact Km.refl hn
  |cons c cs=>
   rcases zdT h with⟨rfl,_⟩|rfl
   .exact Km.refl hn
   .exact Km.refl hn
 |true=>
  simp only[fH,hr,if_true] at h
  cases ms with
  |nil=>simp[z8,stuck,bL] at h
  |cons c cs=>
   obtain⟨ops,i,r,k0,v,fn,Fo,hf,hv,rfl,rfl⟩:=Uc h
   cases ms' with
   |nil=>exact zhF Fo hn v
   |cons d ds=>exact Km.refl hn
end Go.Mt
namespace Go.Mt
open Go.Conc Go.Tt
open Go.ConcR (KK wgBlock WgAt stA smA rd wr)
def EvQ (O Z:Nat->Prop)(e:Event):Prop:=e=⟨.mark .noRoom,false,true⟩\/∃b,Hd e=some b/\(O b\/(Z b/\e.write=false))
variable {O Z:Nat->Prop}{e:Event}
theorem zGg {Wg:Nat}{main:Bool}(h:EvQ O Z e):EvT Wg main O Z e:=by
 rcases h with rfl|⟨b,h1,h2⟩
 .trivial
 .obtain⟨loc,wr,sy⟩:=e
  cases loc with
  |cell x=>simp only[Hd,jP] at h1;subst h1;exact h2
  |obj r=>simp only[Hd,jP] at h1;subst h1;exact h2
  |_=>simp[Hd] at h1
theorem zGR (h:EvQ O Z e):e.loc≠ .mark .disable/\e.loc≠ .mark .enable:=by
 rcases h with rfl|⟨b,h1,_⟩
 .simp_all
 .obtain⟨loc,wr,sy⟩:=e
  cases loc<;>simp[Hd] at h1⊢
variable {τ:cH}
theorem zfz {St:Nat->Prop}{R:Pr}(h:H6 R St e)(ht:vW τ R St):EvQ τ.own τ.still e:=by
 rcases h with rfl|⟨b,a,h1,h2,h3⟩
 .exact .inl rfl
 .refine .inr ⟨b,h1,?_⟩
  by_cases hs:St a
  .refine .inr ⟨(ht a b h2).1 hs,?_⟩
   cases hw:e.write
   .rfl
   .exact absurd hs (h3 hw)
  .exact .inl ((ht a b h2).2 hs)
def OwnQ (p:bZ)(ty:aM)(Wg:Nat)(main:Bool)(B:cH->bD->aE->Prop)(τ:cH)(g:bD)(w:aE):Prop:=
 ∀aJ,bX ty Wg τ w aJ->∃g' w' es,stepG p main g aJ=.go g' w' es/\g'.status=.running/\Ao τ.own aJ w'/\(∀e∈es,EvQ (τ.grow aJ w').own τ.still e)/\B (τ.grow aJ w') g' w'
structure Cx (L:Type) where
 p:bZ
 gs:aQ->Bool
 fs:aQ->Bool
 ty:aM
 Wg:Nat
 A:jM L
 Fin:bD->aE->Prop
 main:Bool
 base:List dR
 ds:Dk
 K:Pr
 St:Nat->Prop
 I:Pr->cH->aE->Prop
 pin:List (Nat×aF)
 alone:Option (cH->bD->aE->Prop):=none
 aok:∀B,alone=some B->∀τ g w,g.status=.running->OwnQ p ty Wg main B τ g w->B τ g w:=by intro _ h;cases h
variable {L:Type}
abbrev Cx.P (C:Cx L):dM:=PS C.p C.gs
abbrev Cx.Rel (C:Cx L)(R:Pr)(w W:aE):Prop:=cV (SF C.fs) C.K R (pK C.p) C.St w W
def Cx.B (C:Cx L)(l:L)(τ:cH)(g:bD)(w:aE):Prop:=
 match C.alone with
 |none=>cD C.p C.ty C.Wg C.A C.Fin C.main (.usr l) 0 τ g w
 |some B=>B τ g w
theorem Cx.B_none {C:Cx L}(h:C.alone=none)(l:L)(τ:cH)(g:bD)(w:aE):C.B l τ g w=cD C.p C.ty C.Wg C.A C.Fin C.main (.usr l) 0 τ g w:=by unfold Cx.B;rw[h]
variable {B:cH->bD->aE->Prop}
theorem Cx.B_some {C:Cx L}(h:C.alone=some B)(l:L)(τ:cH)(g:bD)(w:aE):C.B l τ g w=B τ g w:=by unfold Cx.B;rw[h]
theorem Cx.ownQ {C:Cx L}{l:L}{g:bD}{w:aE}(cN:g.status=.running)(h:OwnQ C.p C.ty C.Wg C.main (C.B l) τ g w):C.B l τ g w:=by
 cases ha:C.alone with
 |none=>
  rw[Cx.B_none ha];have hB:∀τ g w,C.B l τ g w->cD C.p C.ty C.Wg C.A C.Fin C.main (.usr l) 0 τ g w:=λτ g w x=>by rw[Cx.B_none ha] at x;exact x
  refine cD.own cN trivial λaJ s=>?_;obtain⟨g',w',es,h1,h2,h3,h4,h5⟩:=h aJ s;refine⟨g',w',es,h1,h2,h3,λe he=>zGg (h4 e he),?_⟩;rw[deafBehind_still (λe he=>zGR (h4 e he))];exact hB _ _ _ h5
 |some B=>
  rw[Cx.B_some ha];refine C.aok B ha τ g w cN λaJ s=>?_;have e:∀τ g w,C.B l τ g w->B τ g w:=λτ g w x=>by rw[Cx.B_some ha] at x;exact x
  obtain⟨g',w',es,h1,h2,h3,h4,h5⟩:=h aJ s
  grind
abbrev Cx.S (C:Cx L):List Nat:=C.pin.map (·.1)
structure FmW (C:Cx L)(R:Pr)(m m':Fm):Prop where
 fn:m.fn=m'.fn
 todo:m.todo=m'.todo
 ret:m.ret=m'.ret
 tmps:bM (SF C.fs) C.K R m.tmps m'.tmps
 pins:∀x∈C.pin,m'.tmps.getD x.1 aA=x.2
structure Rs (St:Nat->Prop)(R:Pr)(W:aE)(R1:Pr)(W1:aE):Prop where
 le:R.le R1
 tape:W1.tape=W.tape
 os:W1.os=W.os
 output:W1.output=W.output
 size:W.heap.size<=W1.heap.size
 new:∀a b,R1 a b->R a b\/(W.heap.size<=b/\b<W1.heap.size)
 keep:∀b,b<W.heap.size->(∀a,R a b->St a)->W1.heap[b]? =W.heap[b]?
structure fD (C:Cx L):Prop where
 suf:∀R τ W aX,C.I R τ W->bX C.ty C.Wg τ W aX->C.I R τ aX
 step:∀R τ W R1 W1,C.I R τ W->vW τ R C.St->Rs C.St R W R1 W1->C.I R1 (τ.grow W W1) W1
def BO (C:Cx L)(l:L)(m:Fm)(w:aE):Prop:=
 ∀(R:Pr) (W:aE) (m':Fm) (τ:cH),C.Rel R w W->FmW C R m m'->vW τ R C.St->C.I R τ W->C.B l τ (G (fx [] C.ds m') C.base) W
section
variable {C:Cx L}{l:L}
variable {m:Fm}{w:aE}
def BO.tape (h:BO C l m w)(T:Tape)(e:Nat):BO C l m (Tt.tp w T e):=
 λR W m' τ a b c d=>h R W m' τ a.untp b c d
def BO.untape {T:Tape}{e:Nat}(h:BO C l m (Tt.tp w T e)):BO C l m w:=
 λR W m' τ a b c d=>h R W m' τ ⟨a.inj,a.inj',a.lt,a.low,a.gle,a.cont,a.rest,a.st,a.np,a.tb⟩ b c d
variable {ms:List Fm}
theorem uS.wait {P:dM}{fs:aQ->Bool}{K R:Pr}{ms':List Fm}(h:uS P fs K R ms ms'):∀c∈ms',c.ret=false:=by
 induction h with
 |nil=>intro c hc;cases hc
 |cons a b _ ih=>
  intro c hc;rcases mD.1 hc with rfl|hc
  .exact a.ret.symm.trans b.1
  .exact ih c hc
variable {Q:Fm->aE->Prop}
theorem zBV (F:wC C.P C.fs)(hI:fD C){k:List dX}{fn0:aQ}(h:Tt.LT C.p Q m ms w)
 (hn:∀(x:Fm) (wT:aE),x.fn=fn0->x.ret=false->x.todo=[]->(∀T,Q {x with ret:=true} (Tt.tp wT T 0))->BO C l ⟨fn0,x.tmps,k,false⟩ wT)
 (hr:∀(x:Fm) (wT:aE),x.fn=fn0->x.ret=true->x.todo≠[]->Q x wT->BO C l ⟨fn0,x.tmps,x.todo++k,true⟩ wT):
 ∀(R:Pr) (W:aE) (m':Fm) (ms':List Fm) (τ:cH),Ud m ms=fn0->(ms=[]->m.ret=true->m.todo≠[])->C.Rel R w W->qB C.P C.fs C.K R m m'->uS C.P C.fs C.K R ms ms'->vW τ R C.St->C.I R τ W->
  (∀x∈C.pin,(Sz m' ms').tmps.getD x.1 aA=x.2)->(∀i∈(Sz m' ms').todo,Ay C.S i=true)->C.B l τ (stk k C.ds C.base m' ms') W:=by
 induction h with
 |stop h1 h2=>
  rename_i m w;intro R W m' ms' τ hl hz hw hm kK ht hi Em fP;cases kK;have hB:=hr m w hl h1 (hz rfl h1) h2 R W {m' with todo:=m'.todo++k} τ hw ⟨(hl.symm.trans hm.fn:_),by show m.todo++k=_;rw[hm.todo],h1.symm.trans hm.ret,hm.tmps,Em⟩ ht hi;have:fx [] C.ds {m' with todo:=m'.todo++k}=fx k C.ds m':=by unfold fx;simp[Fm.fr]
  rw[this] at hB;exact hB
 |step nx hs cN aS ih=>
  rename_i m ms w;intro R W m' ms' τ hl hz hw hm kK ht hi Em fP;by_cases L1:ms=[]/\m.ret=false/\m.todo=[]
  .obtain⟨rfl,h1,h2⟩:=L1
   cases kK;have hQ:∀T,Q {m with ret:=true} (Tt.tp w T 0):=λT=>by
    have hT:=cN T;have e:(fH C.p m []).run C.p (Tt.tp w T 0)=.ok ({m with ret:=true},[]) (Tt.tp w T 0):=by simp[fH,h1,sX,h2,mE,bL]
    rw[e] at hT;injection hT with e1 e2;have hl:=aS T;rw[<-e1,<-e2] at hl;exact hl.ret_inv rfl
   have hB:=hn m w hl h1 h2 hQ R W {m' with todo:=m'.todo++k} τ hw ⟨(hl.symm.trans hm.fn:_),by show k=m'.todo++k;rw[<-hm.todo,h2];rfl,h1.symm.trans hm.ret,hm.tmps,Em⟩ ht hi;have:fx [] C.ds {m' with todo:=m'.todo++k}=fx k C.ds m':=by unfold fx;simp[Fm.fr]
   rw[this] at hB;exact hB
  .refine Cx.ownQ (zo1 ..) λaX s=>?_
   have dL:=zjW hw ht (λa b x=>(hw.lt a b (.inr x)).2) s;have zH:=hI.suf _ _ _ _ hi s
   let T:Tape:=λn q=>aX.tape (aX.drawn+n) q
   have zT:C.Rel R (Tt.tp w T 0) aX:=⟨dL.inj,dL.inj',dL.lt,dL.low,dL.gle,dL.cont,dL.rest,dL.st,dL.np,dL.tb⟩;have K6:Tp (Tt.tp w T 0) aX:=λn q=>by show aX.tape (aX.drawn+(0+n)) q=_;rw[qH]
   have hrel:xZ C.P C.fs C.K (pK C.p) C.St m ms (Tt.tp w T 0):=⟨R,aX,m',ms',zT,hm,kK⟩;obtain⟨R1,x',W1,ev,e1,e2,e3,e4,e5⟩:=aG.run rfl _ (zfQ (l:=false) F.toFit2 (zT.relOk rfl) hm kK (λe=>by cases e) hs) zT K6 (cN T);replace e2:=e2.resolve_right λx=>by
    obtain⟨f,_,_,_,_,_,_,ho,_⟩:=x.2;rw[F.none] at ho;cases ho
   obtain⟨zwI,zqN⟩:=x';have Gs:m'.ret=true->ms'≠[]:=λe e2=>hs (hm.ret.trans e) (by cases kK with|nil=>rfl|cons _ _ _=>cases e2);have zbF:ms'=[]->m'.ret=false->m'.todo≠[]:=λa b c=>L1 ⟨(by cases kK with|nil=>rfl|cons _ _ _=>cases a),hm.ret.trans b,hm.todo.trans c⟩;have Wv:=zFk (S:=C.S) fP e1;have nI:(fH C.p m' ms').events C.p aX #[]=ev:=by rw[e4];simp
   have cM:aX.heap.size<=W1.heap.size:=e3.size.2;have Fc:∀a b,R1 a b->R a b\/(aX.heap.size<=b/\b<W1.heap.size):=λa b x=>by
    rcases e3.new a b x with y|⟨_,y⟩
    .exact .inl y
    .exact .inr ⟨y,(e3.rel.ltR a b x).2⟩
   have Hk:vW (τ.grow aX W1) R1 C.St:=λa b x=>by
    rcases e3.new a b x with y|⟨y1,y2⟩
    .exact⟨(ht a b y).1,λz=>.inl ((ht a b y).2 z)⟩
    .refine⟨λz=>?_,λ_=>.inr ⟨y2,(e3.rel.ltR a b x).2⟩⟩
     obtain⟨⟨b',bU⟩,_⟩:=zT.st a z;have:=(zT.ltR a b' bU).1;omega
   have hg:Ao τ.own aX W1:=⟨e3.tape.2,e3.os.2,e3.ou.2,cM,λb hb fP=>e3.keep b hb λa x=>Av λz=>fP ((ht a b x).2 z)⟩;have Af:=hI.step R τ aX R1 W1 zH ht ⟨e3.le,e3.tape.2,e3.os.2,e3.ou.2,cM,Fc,e3.keep⟩;have S3:Ud (nx T).1.1 (nx T).1.2=fn0:=(zoj (m1:=(nx T).1.1) (ms1:=(nx T).1.2) (cN T)).trans hl;have goal:C.B l (τ.grow aX W1) (stk k C.ds C.base zwI zqN) W1:=by
    refine ih T R1 W1 zwI zqN (τ.grow aX W1) S3 (λa b c=>?_) e3.rel e2.1 e2.2.1 Hk Af (λx hx=>(Wv.at_ x.1 (ztg hx)).trans (Em x hx)) Wv.no;have hT:=cN T
    cases ms with
    |nil=>
     cases j8:m.ret with
     |true=>exact hs j8 rfl
     |false=>
      simp only[fH,j8,iX,if_false] at hT;exact zw5 hT b j8 (λe=>L1 ⟨rfl,j8,e⟩) a c
    |cons c0 cs=>
     cases j8:m.ret with
     |true=>
      simp only[fH,j8,if_true] at hT;obtain⟨ops,i,r,k0,v,fn,hc,hf,hv,h1,h2⟩:=Uc (m1:=(nx T).1.1) (ms1:=(nx T).1.2) hT;rw[h1] at c;simp[Fm.fin] at c
     |false=>
      simp only[fH,j8,iX,if_false] at hT;rcases zdT hT with⟨e,_⟩|e
      .rw[a] at e;cases e
      .rw[a] at e;cases e
   obtain⟨es,aY,yD⟩:=zEb (main:=C.main) (k:=k) (d:=C.ds) (base:=C.base) Gs zbF (uS.wait kK) e1;have S8:∀e∈es,H6 R1 C.St e:=λe he=>by
    have:=yD e he;rw[nI] at this;exact e5 e (zfk this)
   exact⟨_,W1,_,aY,zo1 ..,hg,λe he=>zfz (S8 e he) Hk,goal⟩
end
end Go.Mt
namespace Go.Mt
open Go.Conc Go.Tt
open Go.ConcR (KK wgBlock WgAt stA smA rd wr)
section
variable {L:Type}{C:Cx L}{l:L}
theorem mX (d:Dk)(fn:aQ)(tmps:Array aF)(todo:List dX):fx [] d ⟨fn,tmps,todo,false⟩=(d.base fn).at ⟨tmps,d.ds⟩ todo:=by
 unfold fx;simp[Fm.fr,Dk.base,dR.at]
theorem zjy (d:Dk)(fn:aQ)(tmps:Array aF)(todo:List dX):fx [] d ⟨fn,tmps,todo,true⟩={(d.base fn).at ⟨tmps,d.ds⟩ todo with mode:=.returning}:=by
 unfold fx;simp[Fm.fr,Dk.base,dR.at]
theorem cH.grow_id (τ:cH)(w:aE):τ.grow w w=τ:=by
 obtain⟨a,b,c⟩:=τ;simp only[cH.grow,cH.mk.injEq,and_true]
 grind
def Ao.id (O:Nat->Prop)(w:aE):Ao O w w:=⟨rfl,rfl,rfl,bF _,λ_ _ _=>rfl⟩
variable {R:Pr}{w W:aE}{τ:cH}
def Cx.Rel.suf {aX:aE}(hw:C.Rel R w W)(ht:vW τ R C.St)(s:bX C.ty C.Wg τ W aX):C.Rel R w aX:=zjW hw ht (λa b x=>(hw.lt a b (.inr x)).2) s
variable {g':bD}
theorem Nz {main:Bool}{g:bD}{p:bZ}{ty:aM}{Wg:Nat}{A:jM L}{Fin:bD->aE->Prop}(hg:g.status=.running)(x7:g'.status=.running)(aY:∀aX,bX ty Wg τ W aX->stepG p main g aX=.go g' aX #[])
 (h:∀aX,bX ty Wg τ W aX->cD p ty Wg A Fin main (.usr l) 0 τ g' aX):cD p ty Wg A Fin main (.usr l) 0 τ g W:=by
 refine cD.own hg trivial λaX s=>⟨g',aX,#[],aY aX s,x7,Ao.id _ _,λe he=>by simp at he,?_⟩;rw[cH.grow_id];exact h aX s
theorem Cx.silent {g:bD}(hg:g.status=.running)(x7:g'.status=.running)(aY:∀aX,bX C.ty C.Wg τ W aX->stepG C.p C.main g aX=.go g' aX #[])(h:∀aX,bX C.ty C.Wg τ W aX->C.B l τ g' aX):C.B l τ g W:=by
 refine Cx.ownQ hg λaX s=>⟨g',aX,#[],aY aX s,x7,Ao.id _ _,λe he=>by simp at he,?_⟩;rw[cH.grow_id];exact h aX s
variable {fn:aQ}{tmps:Array aF}
theorem BO.silent (hI:fD C){todo ziN:List dX}{zns:Bool}(aY:∀R bV W,bM (SF C.fs) C.K R tmps bV->stepG C.p C.main (G ((C.ds.base fn).at ⟨bV,C.ds.ds⟩ todo) C.base) W=.go (G (fx [] C.ds ⟨fn,bV,ziN,zns⟩) C.base) W #[])
 (h:BO C l ⟨fn,tmps,ziN,zns⟩ w):BO C l ⟨fn,tmps,todo,false⟩ w:=by
 intro R W m' τ hw hm ht hi;obtain⟨fn',bV,zB,zJ⟩:=m';obtain rfl:=hm.fn;obtain rfl:=hm.todo;obtain rfl:=hm.ret;refine Cx.silent rfl rfl (λaX s=>by rw[mX];exact aY R bV aX hm.tmps) λaX s=>?_;exact h R aX ⟨fn,bV,ziN,zns⟩ τ (hw.suf ht s) ⟨rfl,rfl,rfl,hm.tmps,hm.pins⟩ ht (hI.suf _ _ _ _ hi s)
section ctl
variable {fn:aQ}{tmps:Array aF}{k:List dX}{w:aE}
variable {a b:Code}
theorem BO.seq (hI:fD C)(h:BO C l ⟨fn,tmps,.code a:: .code b::k,false⟩ w):BO C l ⟨fn,tmps,.code (.seq a b)::k,false⟩ w:=BO.silent hI (λR t W _=>by rw[mX];exact dY) h
theorem BO.skip (hI:fD C)(h:BO C l ⟨fn,tmps,k,false⟩ w):BO C l ⟨fn,tmps,.code .skip::k,false⟩ w:=BO.silent hI (λR t W _=>by rw[mX];exact p8) h
variable {c:Code}
theorem BO.block (hI:fD C){id:Nat}(h:BO C l ⟨fn,tmps,.code c:: .inBlock id::k,false⟩ w):BO C l ⟨fn,tmps,.code (.block id c)::k,false⟩ w:=BO.silent hI (λR t W _=>by rw[mX];exact ze5) h
theorem BO.loop (hI:fD C)(h:BO C l ⟨fn,tmps,.code c:: .inLoop c::k,false⟩ w):BO C l ⟨fn,tmps,.code (.loop c)::k,false⟩ w:=BO.silent hI (λR t W _=>by rw[mX];exact zmx) h
theorem BO.inLoop (hI:fD C)(h:BO C l ⟨fn,tmps,.code c:: .inLoop c::k,false⟩ w):BO C l ⟨fn,tmps,.inLoop c::k,false⟩ w:=BO.silent hI (λR t W _=>by rw[mX];exact zmD) h
theorem BO.inBlock (hI:fD C){id:Nat}(h:BO C l ⟨fn,tmps,k,false⟩ w):BO C l ⟨fn,tmps,.inBlock id::k,false⟩ w:=BO.silent hI (λR t W _=>by rw[mX];exact znc) h
theorem BO.exit (hI:fD C){id:Nat}{k':List dX}(he:exitTo id k=some k')(h:BO C l ⟨fn,tmps,k',false⟩ w):BO C l ⟨fn,tmps,.code (.exit id)::k,false⟩ w:=BO.silent hI (λR t W _=>by rw[mX];exact stepG_exit he) h
theorem BO.reg (hI:fD C){id:Nat}{ops:Array aZ}(h:BO C l ⟨fn,tmps,.inRegion ops (iQ ops.size)::k,false⟩ w):BO C l ⟨fn,tmps,.code (.region id ops false)::k,false⟩ w:=BO.silent hI (λR t W _=>by rw[mX];exact stepG_region) h
theorem BO.regEnd (hI:fD C){ops:Array aZ}(h:BO C l ⟨fn,tmps,k,false⟩ w):BO C l ⟨fn,tmps,.inRegion ops []::k,false⟩ w:=BO.silent hI (λR t W _=>by rw[mX];exact dJ) h
theorem BO.fall (hI:fD C)(h:BO C l ⟨fn,tmps,[],true⟩ w):BO C l ⟨fn,tmps,[],false⟩ w:=BO.silent hI (λR t W _=>by rw[zjy];exact zeN) h
theorem BO.ret (hI:fD C)(h:BO C l ⟨fn,tmps,.code .ret::k,true⟩ w):BO C l ⟨fn,tmps,.code .ret::k,false⟩ w:=BO.silent hI (λR t W _=>by rw[zjy];exact x4) h
theorem Ho {R:Pr}{t t':Array aF}{d:List Gg}(h:bM (SF C.fs) C.K R t t'){x:cK}(hx:dV C.fs x=true):VR (SF C.fs) C.K R ((bJ t []).eval x) ((bJ t' d).eval x):=by
 cases x with
 |tmp t=>exact h.getD t yA
 |const v=>exact ztf hx
 |global g=>cases hx
 |func f=>exact .func hx rfl (λi v v' h=>by simp at h) rfl (λi v v' h=>by simp at h)
theorem BO.cond (hI:fD C){c:cK}{t:Bool}(hx:dV C.fs c=true)(hc:(bJ tmps []).eval c=.bool t)(h:BO C l ⟨fn,tmps,.code (if t then a else b)::k,false⟩ w):BO C l ⟨fn,tmps,.code (.cond c a b)::k,false⟩ w:=
 BO.silent hI (λR t' W ha=>by
  rw[mX];have h1:=Ho (C:=C) (d:=C.ds.ds) ha hx;rw[hc] at h1;have h2:(bJ t' C.ds.ds).eval c=.bool t:=by
   generalize(bJ t' C.ds.ds).eval c=v' at h1;cases h1;rfl
  exact stepG_cond h2) h
end ctl
structure wF (p:bZ)(fn:aQ):Prop where
 res:∃f,p.funcs[fn]? =some f/\Gr f.results.toList
variable {bV:Array aF}{c:Code}
theorem zHg (hc:pX C.p ⟨C.fs,C.gs,true⟩ c=true)(hf:wF C.p fn)(ha:bM (SF C.fs) C.K R tmps bV):qB C.P C.fs C.K R ⟨fn,tmps,[.code c],false⟩ ⟨fn,bV,[.code c],false⟩:=by
 obtain⟨f,h1,h2⟩:=hf.res;refine⟨rfl,rfl,rfl,ha,λi hi=>?_,⟨f,f,h1,h1,rfl,h2⟩⟩;simp only[mD,nE,or_false] at hi;subst hi;exact hc
variable {k:List dX}
theorem BO.piece (F:wC C.P C.fs)(hI:fD C)(hc:pX C.p ⟨C.fs,C.gs,true⟩ c=true)(hf:wF C.p fn)(fP:yL C.S c=true)
 (uQ:∀T,Code.wp C.p c (λe a' w'=>e=.normal/\BO C l ⟨fn,a'.tmps,k,false⟩ w') ⟨tmps,[]⟩ (Tt.tp w T 0)):BO C l ⟨fn,tmps,.code c::k,false⟩ w:=by
 intro R W m' τ hw hm ht hi;obtain⟨fn',bV,zB,zJ⟩:=m';obtain rfl:=hm.fn;obtain rfl:=hm.todo;obtain rfl:=hm.ret;have zvg:=zHg (R:=R) hc hf hm.tmps;have hrel:xZ C.P C.fs C.K (pK C.p) C.St ⟨fn,tmps,[.code c],false⟩ [] w:=⟨R,W,_,[],hw,zvg,.nil⟩;have tree:=zn3 F rfl hrel uQ (λe a w h=>.inl h.1) (λe a w T k h=>⟨h.1,h.2.tape T k⟩);have:=zBV (l:=l) F hI (k:=k) (fn0:=fn) tree (λx wT e1 e2 e3 hq=>by
  rcases(hq wT.tape).2 with h|h
  .exact BO.untape h.2.2
  .cases h.1)
  (λx wT e1 e2 e3 hq=>by
   rcases hq.2 with h|h
   .exact absurd h.1 e3
   .cases h.1) R W ⟨fn,bV,[.code c],false⟩ [] τ rfl (λ_ e=>by cases e) hw zvg .nil ht hi hm.pins (λi hi=>by
   simp only[Sz,mD,nE,or_false] at hi;subst hi;exact fP)
 have e:fx k C.ds ⟨fn,bV,[.code c],false⟩=fx [] C.ds ⟨fn,bV,.code c::k,false⟩:=by unfold fx;simp[Fm.fr]
 unfold stk at this;simp_all
variable {dst:Option Nat}{v:aF}{d:List Gg}
theorem J1 (hp:∀x∈C.pin,bV.getD x.1 aA=x.2)(hn:∀s,dst=some s->s∉C.S):∀x∈C.pin,(cC ⟨bV,d⟩ dst v).tmps.getD x.1 aA=x.2:=by
 intro x hx
 cases dst with
 |none=>exact hp x hx
 |some s=>
  have aU:s≠x.1:=λe=>hn s rfl (e▸ztg hx);rw[<-hp x hx];simp only[cC,xG,tL aU]
variable {t t':Array aF}
theorem If {d':List Gg}(h:bM (SF C.fs) C.K R t t'){v':aF}(hv:VR (SF C.fs) C.K R v v'):bM (SF C.fs) C.K R (cC ⟨t,d⟩ dst v).tmps (cC ⟨t',d'⟩ dst v').tmps:=by
 cases dst with
 |none=>exact h
 |some s=>exact h.set s hv
variable {o:aZ}{ops:Array aZ}
theorem Jr (h:bM (SF C.fs) C.K R t t')(hw:dE o (dH ops t)=true):dE o (dH ops t')=true:=by
 rw[<-zia ops h];exact hw
theorem BO.op (F:wC C.P C.fs)(hI:fD C){i:Nat}{rest:List Nat}(ho:ops[i]? =some o)(cE:dE o (dH ops tmps)=true)
 (bS:rY C.p ⟨C.fs,C.gs,true⟩ o.op=true) (lE:∀s,o.dst=some s->s∉C.S)
 (hx:∀T,∃v w',((aO (bJ tmps []).eval o).run C.p (Tt.tp w T 0)=.ok (.value v) w'\/((aO (bJ tmps []).eval o).run C.p (Tt.tp w T 0)=.ok .skip w'/\v=aA))/\BO C l ⟨fn,(cC ⟨tmps,[]⟩ o.dst v).tmps,.inRegion ops rest::k,false⟩ w'):
 BO C l ⟨fn,tmps,.inRegion ops (i::rest)::k,false⟩ w:=by
 intro R W m' τ hw hm ht hi;obtain⟨fn',bV,zB,zJ⟩:=m';obtain rfl:=hm.fn;obtain rfl:=hm.todo;obtain rfl:=hm.ret;rw[mX];refine Cx.ownQ rfl λaX s=>?_;have dL:=hw.suf ht s;have zH:=hI.suf _ _ _ _ hi s
 let T:Tape:=λn q=>aX.tape (aX.drawn+n) q
 have zT:C.Rel R (Tt.tp w T 0) aX:=⟨dL.inj,dL.inj',dL.lt,dL.low,dL.gle,dL.cont,dL.rest,dL.st,dL.np,dL.tb⟩;have K6:Tp (Tt.tp w T 0) aX:=λn q=>by show aX.tape (aX.drawn+(0+n)) q=_;rw[qH]
 obtain⟨v,w',cN,hB⟩:=hx T;have zdi:=znk (P:=C.P) (q:=⟨C.fs,C.gs,true⟩) (o:=o) (ρ:=(bJ tmps []).eval) (ρ':=(bJ bV C.ds.ds).eval) F.toFit2.toFit (zT.relOk rfl) (λx hx=>Ho hm.tmps hx) (λg=>rfl) (λg=>rfl) (λg=>rfl) (λg=>rfl) (λv=>rfl) (λv=>rfl) rfl (λf h=>h) (λ_ f hf=>F.toFit2.toFit.dyn rfl f hf) bS
 have key:∃R1 v' W1 ev,((aO (bJ bV C.ds.ds).eval o).run C.p aX=.ok (.value v') W1\/((aO (bJ bV C.ds.ds).eval o).run C.p aX=.ok .skip W1/\v'=aA))/\VR (SF C.fs) C.K R1 v v'/\nJ (SF C.fs) C.K R (pK C.p) C.St (Tt.tp w T 0) aX R1 w' W1/\
  (∀es,(aO (bJ bV C.ds.ds).eval o).events C.p aX es=es++ev)/\∀e∈ev,H6 R1 C.St e:=by
  rcases cN with cN|⟨cN,rfl⟩
  .obtain⟨R1,x',W1,ev,e1,e2,e3,e4,e5⟩:=aG.run rfl _ zdi zT K6 cN
   cases e2 with
   |value hv=>exact⟨R1,_,W1,ev,.inl e1,hv,e3,e4,e5⟩
  .obtain⟨R1,x',W1,ev,e1,e2,e3,e4,e5⟩:=aG.run rfl _ zdi zT K6 cN
   cases e2 with
   |skip=>exact⟨R1,aA,W1,ev,.inr ⟨e1,rfl⟩,yA,e3,e4,e5⟩
 obtain⟨R1,v',W1,ev,e1,hv,e3,e4,e5⟩:=key;have hb:(C.ds.base fn).kind≠ .early:=C.ds.ok;have vA:=Jr (C:=C) hm.tmps cE;have aY:stepG C.p C.main (G ((C.ds.base fn).at ⟨bV,C.ds.ds⟩ (.inRegion ops (i::rest)::k)) C.base) aX=.go (G ((C.ds.base fn).at (cC ⟨bV,C.ds.ds⟩ o.dst v') (.inRegion ops rest::k)) C.base) W1 (wQ C.p (C.ds.base fn).fn ⟨bV,C.ds.ds⟩ o aX):=by
  rcases e1 with e1|⟨e1,rfl⟩
  .exact stepG_value ho vA hb e1
  .exact stepG_none ho vA hb e1
 have Fp:cC ⟨bV,C.ds.ds⟩ o.dst v'=⟨(cC ⟨bV,C.ds.ds⟩ o.dst v').tmps,C.ds.ds⟩:=by cases o.dst<;>rfl
 have S8:∀e∈wQ C.p (C.ds.base fn).fn ⟨bV,C.ds.ds⟩ o aX,H6 R1 C.St e:=λe he=>by
  unfold wQ at he;rw[e4] at he;exact e5 e (by simpa using zfk he)
 have cM:aX.heap.size<=W1.heap.size:=e3.size.2;have Fc:∀a b,R1 a b->R a b\/(aX.heap.size<=b/\b<W1.heap.size):=λa b x=>by
  rcases e3.new a b x with y|⟨_,y⟩
  .exact .inl y
  .exact .inr ⟨y,(e3.rel.ltR a b x).2⟩
 have Hk:vW (τ.grow aX W1) R1 C.St:=λa b x=>by
  rcases e3.new a b x with y|⟨y1,y2⟩
  .exact⟨(ht a b y).1,λz=>.inl ((ht a b y).2 z)⟩
  .refine⟨λz=>?_,λ_=>.inr ⟨y2,(e3.rel.ltR a b x).2⟩⟩
   obtain⟨⟨b',bU⟩,_⟩:=zT.st a z
   grind
 have hg:Ao τ.own aX W1:=⟨e3.tape.2,e3.os.2,e3.ou.2,cM,λb hb fP=>e3.keep b hb λa x=>Av λz=>fP ((ht a b x).2 z)⟩;have Af:=hI.step R τ aX R1 W1 zH ht ⟨e3.le,e3.tape.2,e3.os.2,e3.ou.2,cM,Fc,e3.keep⟩;refine⟨_,W1,_,aY,rfl,hg,λe he=>zfz (S8 e he) Hk,?_⟩;rw[Fp,<-mX];exact hB R1 W1 ⟨fn,_,_,false⟩ _ e3.rel ⟨rfl,rfl,rfl,If (C:=C) (hm.tmps.mono e3.le) hv,J1 (C:=C) hm.pins lE⟩ Hk Af
end
section
variable {L:Type}{C:Cx L}{l:L}
variable {p:bZ}
theorem zD9 {q:Tt.Cl}:∀c:Code,pX p q c=true->yL [] c=true:=by
 intro c
 induction c with
 |region id ops dr=>
  intro _;simp only[yL,zmN];intro o _;cases o.dst<;>rfl
 |seq a b zlv zjZ=>intro h;simp only[pX,jF] at h;simp only[yL,jF];exact⟨zlv h.1,zjZ h.2⟩
 |cond c a b zlv zjZ=>intro h;simp only[pX,jF] at h;simp only[yL,jF];exact⟨zlv h.1.2,zjZ h.2⟩
 |block id c ih=>intro h;exact ih h
 |loop c ih=>intro h;exact ih h
 |scope c ih=>intro h;exact ih h
 |skip=>intro _;rfl
 |ret=>intro _;rfl
 |exit _=>intro _;rfl
 |label _=>intro _;rfl
 |_=>intro h;simp[pX] at h
def Cx.sub (C:Cx L)(m':Fm)(oM:Pr):Cx L:={C with base:=fx [] C.ds m'::C.base,ds:=.nil,I:=λR τ W=>C.I R τ W/\oM.le R,pin:=[]}
variable {o:aZ}{x:cK}{f:aQ}{args:Array cK}{kJ:Array aM}{first cap:Array aF}{ρ:cK->aF}
theorem zCw (hop:o.op=.call ⟨.value x,args,kJ⟩)(hρ:ρ x=.func (.func f) first cap){fn:Func}{c:Code}(hf:p.funcs[f]? =some fn)
 (hn:(fn.name== "runtime.NumGoroutine")=false) (hb:fn.body=some c) (w:aE):(aO ρ o).run p w=.ok (.enter f (first++args.map ρ++cap)) w/\(aO ρ o).events p w #[]=#[]:=by
 obtain⟨dst,yV,type,pos,after,guard⟩:=o;simp only at hop;subst hop;have vL:¬fn.name= "runtime.NumGoroutine" :=by simpa using hn
 constructor
 .simp[aO,resolve,Db,hρ,invoke,callFunc,program,bind,yN,pure,bL,hf,vL,hb]
 .simp[aO,resolve,Db,hρ,invoke,callFunc,program,bind,yN,pure,bL,xI,B8,hf,vL,hb]
structure Callee (C:Cx L)(tmps:Array aF)(x:cK)(f:aQ)(first cap:Array aF):Prop where
 here:(bJ tmps []).eval x=.func (.func f) first cap
 there:∀R bV d,bM (SF C.fs) C.K R tmps bV->∃Ui Qo,(bJ bV d).eval x=.func (.func f) Ui Qo/\bM (SF C.fs) C.K R first Ui/\bM (SF C.fs) C.K R cap Qo
def Callee.static (tmps:Array aF)(f:aQ):Callee C tmps (.func f) f #[] #[]:=⟨rfl,λR bV d _=>⟨#[],#[],rfl,.empty,.empty⟩⟩
variable {fn:aQ}{tmps:Array aF}{ops:Array aZ}{i:Nat}{rest:List Nat}{k:List dX}{w:aE}{fnf:Func}
theorem BO.callN (hI:fD C)(ho:ops[i]? =some o)(cE:dE o (dH ops tmps)=true)
 (hop:o.op=.call ⟨.value x,args,kJ⟩) (hx:Callee C tmps x f first cap) (wK:args.all (dV C.fs)=true)  {cf:Code} (hf:C.p.funcs[f]? =some fnf) (Jh:(fnf.name== "runtime.NumGoroutine")=false) (hb:fnf.body=some cf) (zCq:Gr fnf.results.toList)
 (hB:∀(oM:Pr) (m':Fm),FmW C oM ⟨fn,tmps,.inRegion ops (i::rest)::k,false⟩ m'->BO (C.sub m' oM) l ⟨f,(first++args.map (bJ tmps []).eval++cap)++oJ (fnf.ntmps-(first++args.map (bJ tmps []).eval++cap).size) aA,[.code cf],false⟩ w):
 BO C l ⟨fn,tmps,.inRegion ops (i::rest)::k,false⟩ w:=by
 intro R W m' τ hw hm ht hi;have zfA:=hm;obtain⟨fn',bV,zB,zJ⟩:=m';obtain rfl:=hm.fn;obtain rfl:=hm.todo;obtain rfl:=hm.ret;obtain⟨Ui,Qo,lX,uP,qL⟩:=hx.there R bV C.ds.ds hm.tmps;have bU:(C.ds.base fn).kind≠ .early:=C.ds.ok;have vA:=Jr (C:=C) hm.tmps cE;rw[mX];refine Cx.silent rfl rfl (g':=G (Hm C.p f (Ui++args.map (bJ bV C.ds.ds).eval++Qo) .normal) (fx [] C.ds ⟨fn,bV,.inRegion ops (i::rest)::k,false⟩::C.base)) (λaX s=>?_) λaX s=>?_
 rotate_right
 .have Gw:bM (SF C.fs) C.K R (first++args.map (bJ tmps []).eval++cap) (Ui++args.map (bJ bV C.ds.ds).eval++Qo):=(uP.append (bM.maps (λx hx=>Ho (C:=C) hm.tmps hx) wK)).append qL
  have:=hB R _ zfA R aX ⟨f,(Ui++args.map (bJ bV C.ds.ds).eval++Qo)++oJ (fnf.ntmps-(Ui++args.map (bJ bV C.ds.ds).eval++Qo).size) aA,[.code cf],false⟩ τ (hw.suf ht s) ⟨rfl,rfl,rfl,Gw.pad fnf.ntmps,λx hx=>by cases hx⟩ ht ⟨hI.suf _ _ _ _ hi s,.refl R⟩;rw[zb4 hf hb,<-Hf];exact this
 .obtain⟨x1,x2⟩:=zCw (p:=C.p) hop (ρ:=(bJ bV C.ds.ds).eval) lX hf Jh hb aX
  have aY:=stepG_enter (main:=C.main) (b:=C.ds.base fn) (rest:=rest) (cs:=C.base) (k:=k) ho vA bU x1;rw[aY];unfold wQ;rw[x2,Ax,mX]
variable {v:aF}
theorem BO.retN (hI:fD C){oM:Pr}{m m':Fm}(hm:FmW C oM m m')(hr:m.ret=false)(pT:m.todo=.inRegion ops (i::rest)::k)(lE:∀s,(ops[i]?).bind (·.dst)=some s->s∉C.S)
   {todo:List dX}    (hf:C.p.funcs[f]? =some fnf) (hv:(oG fnf.results.toList tmps).run C.p w=.ok v w) (h:BO C l (m.fin ops i rest k v) w):BO (C.sub m' oM) l ⟨f,tmps,todo,true⟩ w:=by
 intro R W x' τ hw hx ht hi;obtain⟨f',bV,zB,zJ⟩:=x';obtain rfl:=hx.fn;obtain rfl:=hx.todo;obtain rfl:=hx.ret;have yW:m'.ret=false:=hm.ret.symm.trans hr;have Qr:m'.todo=.inRegion ops (i::rest)::k:=hm.todo.symm.trans pT;refine Cx.ownQ rfl λaX s=>?_;have dL:C.Rel R w aX:=Cx.Rel.suf (C:=C) hw ht s;have zH:=hI.suf _ _ _ _ hi.1 s
 let T:Tape:=λn q=>aX.tape (aX.drawn+n) q
 have zT:C.Rel R (Tt.tp w T 0) aX:=⟨dL.inj,dL.inj',dL.lt,dL.low,dL.gle,dL.cont,dL.rest,dL.st,dL.np,dL.tb⟩;have K6:Tp (Tt.tp w T 0) aX:=λn q=>by show aX.tape (aX.drawn+(0+n)) q=_;rw[qH]
 have cN:=(Yf _ _ w v w hv).2 T 0;obtain⟨R1,v',W1,ev,e1,g3,e3,e4,e5⟩:=aG.run (P:=C.P) rfl _ (zlp hx.tmps fnf.results.toList) zT K6 cN;obtain⟨zhh,_⟩:=Yf _ _ aX v' W1 e1;subst zhh;have Pw:(z8 C.p ⟨f,bV,todo,true⟩ [m']).run C.p W1=.ok (m'.fin ops i rest k v',[]) W1:=(Ma Qr hf e1).1;obtain⟨_,_,_,e⟩:=zgL (main:=C.main) rfl yW Pw [] C.ds C.base;have U3:fx [] (C.sub m' oM).ds ⟨f,bV,todo,true⟩=(⟨f,bV,todo,true⟩:Fm).fr:=Hf _;rw[U3];have S8:∀e∈seen C.p f ((z8 C.p ⟨f,bV,todo,true⟩ [m']).events C.p W1 #[]),H6 R1 C.St e:=λe he=>by
  rw[(Ma Qr hf e1).2,e4] at he;exact e5 e (by simpa using zfk he)
 have Fc:∀a b,R1 a b->R a b\/(W1.heap.size<=b/\b<W1.heap.size):=λa b x=>by
  rcases e3.new a b x with y|⟨_,y⟩
  .exact .inl y
  .exact .inr ⟨y,(e3.rel.ltR a b x).2⟩
 have Hk:vW (τ.grow W1 W1) R1 C.St:=λa b x=>by
  rcases e3.new a b x with y|⟨y1,y2⟩
  .exact⟨(ht a b y).1,λz=>.inl ((ht a b y).2 z)⟩
  .have:=(e3.rel.ltR a b x).2;omega
 have Af:=hI.step R τ W1 R1 W1 zH ht ⟨e3.le,rfl,rfl,rfl,bF _,Fc,λ_ _ _=>rfl⟩;refine⟨_,W1,_,e,rfl,Ao.id _ _,λe he=>zfz (S8 e he) Hk,?_⟩;have Sv:C.Rel R1 w W1:=⟨e3.rel.inj,e3.rel.inj',e3.rel.lt,e3.rel.low,e3.rel.gle,e3.rel.cont,e3.rel.rest,e3.rel.st,e3.rel.np,e3.rel.tb⟩;refine h R1 W1 _ _ Sv ⟨hm.fn,rfl,hm.ret,?_,?_⟩ Hk Af
 .have:=If (C:=C) (d:=[]) (d':=[]) (hm.tmps.mono (hi.2.trans e3.le)) (dst:=(ops[i]?).bind (·.dst)) g3
  unfold Fm.fin;simp only;unfold cC at this
  grind
 .have:=J1 (C:=C) (d:=[]) (v:=v') hm.pins lE
  unfold Fm.fin;simp only;unfold cC at this
  grind
variable {c:Nat}{ct e:aM}{ok:Bool}{z:aF}{dir:ChanDir}{ie:wE}
theorem zuZ (hop:o.op=.recv ct x ok)(Fo:p.underlying ct=some (.chan dir e))(jY:p.info? e=some ie)(hz:ie.zero=some z)(hx:ρ x=.chan (some c))(w:aE):
 (aO ρ o).run p w=.ok (.comm #[rcase c z] true (.recv ok)) w/\(aO ρ o).events p w #[]=#[]:=by
 obtain⟨dst,yV,type,pos,after,guard⟩:=o;simp only at hop;subst hop;have hu:∀w,(underlying ct).run p w=.ok (.chan dir e) w:=λw=>by simp[underlying,program,bind,yN,bL,Fo,pure]
 have pU:∀w,(zeroValue e).run p w=.ok z w:=λw=>by simp[zeroValue,typeInfo,program,bind,yN,bL,jY,hz,pure]
 have he:aO ρ ⟨dst,.recv ct x ok,type,pos,after,guard⟩=(underlying ct).bind (λd=>match d with| .chan _ elem=>(zeroValue elem).bind (λz=>.pure (.comm #[{chan:=ρ x,send:=none,zero:=z}] true (.recv ok)))|_=>stuck "receive: channel type expected"):=by
  simp only[aO];show yN _ _=yN _ _;congr 1
 rw[he];constructor
 .rw[uR,hu]
  simp only[vR];rw[uR,pU];simp only[vR,hx];rfl
 .rw[Xr,hu,zjE,events_underlying]
  simp only;rw[Xr,pU,zjE,events_zeroValue];rfl
theorem zpW {y:cK}(hop:o.op=.send x y)(hx:ρ x=.chan (some c))(hy:ρ y=v)(w:aE):
 (aO ρ o).run p w=.ok (.comm #[scase c v (.tuple #[])] true .send) w/\(aO ρ o).events p w #[]=#[]:=by
 obtain⟨dst,yV,type,pos,after,guard⟩:=o;simp only at hop;subst hop;constructor
 .simp[aO,hx,hy,scase,pure,bL]
 .simp[aO,hx,hy,scase,pure,bL,xI,B8]
variable {g:Nat}
theorem Xp {R:Pr}{W:aE}(hw:C.Rel R w W){v':aF}(hK:C.K g c)(h:VR (SF C.fs) C.K R (.chan (some g)) v'):v'=.chan (some c):=by
 cases h with
 |chan h=>
  cases h with
  |some h=>rw[hw.inj g _ c h (.inr hK)]
theorem zbT (ho:ops[i]? =some o)(v:aF):o8 (G ((C.ds.base fn).at ⟨tmps,C.ds.ds⟩ (.inRegion ops (i::rest)::k)) C.base) v=G (fx [] C.ds ⟨fn,(cC ⟨tmps,[]⟩ o.dst v).tmps,.inRegion ops rest::k,false⟩) C.base:=by
 rw[mX];have Fp:cC ⟨tmps,C.ds.ds⟩ o.dst v=⟨(cC ⟨tmps,[]⟩ o.dst v).tmps,C.ds.ds⟩:=by cases o.dst<;>rfl
 have Bd:((C.ds.base fn).at ⟨tmps,C.ds.ds⟩ (.inRegion ops (i::rest)::k)).finish v=(C.ds.base fn).at (cC ⟨tmps,C.ds.ds⟩ o.dst v) (.inRegion ops rest::k):=by rw[zra,ho];rfl
 rw[<-Fp,<-Bd];rfl
variable {okv:aF->Prop}
theorem BO.recv (ha:C.alone=none)(hI:fD C){nx:aF->L}{sh:L}
 (ho:ops[i]? =some o) (cE:dE o (dH ops tmps)=true) (hop:o.op=.recv ct x ok) (Fo:C.p.underlying ct=some (.chan dir e)) (jY:C.p.info? e=some ie) (hz:ie.zero=some z) (znC:∀R,VR (SF C.fs) C.K R z z)
 (sK:dV C.fs x=true) (hx:(bJ tmps []).eval x=.chan (some g)) (hK:C.K g c) (lE:∀s,o.dst=some s->s∉C.S) (rE:C.A.act l=.recv c okv nx sh)
 (h1:∀v,okv v->∃vg,(∀R,VR (SF C.fs) C.K R vg v)/\BO C (nx v) ⟨fn,(cC ⟨tmps,[]⟩ o.dst (recvd ok vg true)).tmps,.inRegion ops rest::k,false⟩ w)
 (h2:C.A.cl l->BO C sh ⟨fn,(cC ⟨tmps,[]⟩ o.dst (recvd ok z false)).tmps,.inRegion ops rest::k,false⟩ w):BO C l ⟨fn,tmps,.inRegion ops (i::rest)::k,false⟩ w:=by
 intro R W m' τ hw hm ht hi;obtain⟨fn',bV,zB,zJ⟩:=m';obtain rfl:=hm.fn;obtain rfl:=hm.todo;obtain rfl:=hm.ret;have lX:(bJ bV C.ds.ds).eval x=.chan (some c):=Xp hw hK (hx▸Ho (C:=C) hm.tmps sK);have vA:=Jr (C:=C) hm.tmps cE;have hb:(C.ds.base fn).kind≠ .early:=C.ds.ok;have zdh:∀vg v' b,VR (SF C.fs) C.K R vg v'->VR (SF C.fs) C.K R (recvd ok vg b) (recvd ok v' b):=λvg v' b h=>by
  unfold recvd
  cases ok with
  |false=>exact h
  |true=>
   simp only[if_true];exact VR.tuple' (by
    have:=bM.empty (S:=SF C.fs) (K:=C.K) (R:=R);exact(this.push h).push (.bool b))
 have goon:∀{l':L} {vg v':aF} {aX:aE},bX C.ty C.Wg τ W aX->VR (SF C.fs) C.K R vg v'->BO C l' ⟨fn,(cC ⟨tmps,[]⟩ o.dst vg).tmps,.inRegion ops rest::k,false⟩ w->
  C.B l' τ (o8 (G ((C.ds.base fn).at ⟨bV,C.ds.ds⟩ (.inRegion ops (i::rest)::k)) C.base) v') aX:=λ{l' vg v' aX} s hv hB=>by
  rw[zbT ho];exact hB R aX _ τ (Cx.Rel.suf (C:=C) hw ht s) ⟨rfl,rfl,rfl,If (C:=C) hm.tmps hv,J1 (C:=C) hm.pins lE⟩ ht (hI.suf _ _ _ _ hi s)
 rw[mX,Cx.B_none ha];refine cD.usr rfl ?_;unfold mY;rw[rE];refine⟨rfl,z,ok,λaJ s=>?_,λv hv aJ s _=>?_,λmU=>?_⟩
 .obtain⟨e1,e2⟩:=zuZ (p:=C.p) (ρ:=(bJ bV C.ds.ds).eval) hop Fo jY hz lX aJ
  rw[stepG_comm ho vA hb e1];unfold wQ;rw[e2,Ax]
 .obtain⟨vg,zjc,hB⟩:=h1 v hv
  have:=goon s (zdh _ _ _ (zjc R)) hB;rw[Cx.B_none ha] at this;exact this
 .have:=goon bX.refl (zdh _ _ _ (znC R)) (h2 mU)
  rw[Cx.B_none ha] at this;exact this
variable {pub:aF->List Nat}
theorem BO.send (ha:C.alone=none)(hI:fD C){y:cK}{nx:aF->L}{l':L}
 (ho:ops[i]? =some o) (cE:dE o (dH ops tmps)=true) (hop:o.op=.send x y)
 (sK:dV C.fs x=true) (hx:(bJ tmps []).eval x=.chan (some g)) (hK:C.K g c) (En:dV C.fs y=true) (lE:∀s,o.dst=some s->s∉C.S) (rE:C.A.act l=.send c okv pub nx)
 (hv:∀R v',VR (SF C.fs) C.K R ((bJ tmps []).eval y) v'->okv v'/\pub v'=[]/\nx v'=l')
 (h1:BO C l' ⟨fn,(cC ⟨tmps,[]⟩ o.dst aA).tmps,.inRegion ops rest::k,false⟩ w):BO C l ⟨fn,tmps,.inRegion ops (i::rest)::k,false⟩ w:=by
 intro R W m' τ hw hm ht hi;obtain⟨fn',bV,zB,zJ⟩:=m';obtain rfl:=hm.fn;obtain rfl:=hm.todo;obtain rfl:=hm.ret;have lX:(bJ bV C.ds.ds).eval x=.chan (some c):=Xp hw hK (hx▸Ho (C:=C) hm.tmps sK);have vA:=Jr (C:=C) hm.tmps cE;have hb:(C.ds.base fn).kind≠ .early:=C.ds.ok;obtain⟨k1,k2,k3⟩:=hv R _ (Ho (C:=C) (d:=C.ds.ds) hm.tmps En);rw[mX,Cx.B_none ha];refine cD.usr rfl ?_;unfold mY;rw[rE];refine⟨rfl,_,.tuple #[],τ,λaJ s=>?_,k1,λb h=>h,rfl,λb h=>.inl h,(λa ha=>by rw[k2] at ha;cases ha),?_⟩
 .obtain⟨e1,e2⟩:=zpW (p:=C.p) (ρ:=(bJ bV C.ds.ds).eval) hop lX rfl aJ
  rw[stepG_comm ho vA hb e1];unfold wQ;rw[e2,Ax]
 .rw[k3,zbT ho]
  rw[<-Cx.B_none ha];exact h1 R W _ τ hw ⟨rfl,rfl,rfl,If (C:=C) hm.tmps yA,J1 (C:=C) hm.pins lE⟩ ht hi
end
end Go.Mt
namespace Go.Mt
open Go.Conc
inductive PpL where
 |m0|m1|rv (k:Nat)|wt|sd (k:Nat)|dn
end Go.Mt
namespace Go.Mt
open Go.Conc Go.RowKit Go.Conc.Lib Go.ConcR.Gen
open Go.ConcR (KK wgBlock WgAt stA smA rd wr mk Payload DC0)
section
variable {Ab:Type}{P:bZ}{ty:aM}{Wg:Nat}{A:jM Ab}{Fin:bD->aE->Prop}
theorem cH.grow_self (τ:cH)(w:aE):τ.grow w w=τ:=by
 obtain⟨a,b,c⟩:=τ;simp only[cH.grow,cH.mk.injEq,and_true];funext x;exact propext ⟨λh=>h.elim id λh=>by omega,.inl⟩
def Ao.refl (O:Nat->Prop)(w:aE):Ao O w w:=⟨rfl,rfl,rfl,bF _,λ_ _ _=>rfl⟩
variable {main:Bool}{τ:cH}
theorem cD.running {ph:Ph Ab}{d:Nat}{g:bD}{w:aE}(h:cD P ty Wg A Fin main ph d τ g w):g.status=.running:=by
 obtain⟨r,hr⟩:=h;cases r with|mk ι f=>exact hr.1
theorem cD.goes {ph:Ph Ab}{d:Nat}(hl:ph.live):∀(n:Nat) {g:bD} {w:aE},Goes P main (bX ty Wg τ) DC0 (cD P ty Wg A Fin main ph d τ) n g w->cD P ty Wg A Fin main ph d τ g w:=by
 intro n
 induction n with
 |zero=>exact λ{g w} h=>h w (bX.refl)
 |succ n ih=>
  intro g w h;rcases h with h|⟨hs,h⟩
  .exact h w (bX.refl)
  .refine cD.own hs hl λaJ s=>?_
   obtain⟨za0,w',es,hgo,⟨e1,e2⟩,hg⟩:=zjY (h aJ s);subst e1 e2;have hb:=ih hg;refine⟨za0,w',#[],hgo,hb.running,Ao.refl _ _,λe he=>by simp at he,?_⟩;rw[cH.grow_self];exact hb
theorem cD.idles {ph:Ph Ab}{d:Nat}(hl:∀{g w},zao P ty Wg (cD P ty Wg A Fin) main ph d τ g w->N0 P ty Wg (cD P ty Wg A Fin) main ph d τ g w):∀(n:Nat) {g:bD} {w:aE},Goes P main (bX ty Wg τ) DC0 (cD P ty Wg A Fin main ph d τ) n g w->cD P ty Wg A Fin main ph d τ g w:=by
 intro n
 induction n with
 |zero=>exact λ{g w} h=>h w (bX.refl)
 |succ n ih=>
  intro g w h;rcases h with h|⟨hs,h⟩
  .exact h w (bX.refl)
  .refine cD.mk hs (.inl (hl λaJ s=>?_))
   obtain⟨za0,w',es,hgo,⟨e1,e2⟩,hg⟩:=zjY (h aJ s);subst e1 e2;have hb:=ih hg;exact⟨za0,#[],hgo,hb.running,λe he=>by simp at he,hb⟩
variable {m:Mark}
theorem cD.mark {ph:Ph Ab}{d:Nat}(hl:ph.live){g:bD}{w:aE}(hs:g.status=.running){g':bD}(hgo:∀aJ,bX ty Wg τ w aJ->stepG P main g aJ=.go g' aJ #[oQ m])
 (hm:EvT Wg main τ.own τ.still (oQ m)) (hb:∀aJ,bX ty Wg τ w aJ->cD P ty Wg A Fin main ph (oK d #[oQ m]) τ g' aJ):cD P ty Wg A Fin main ph d τ g w:=by
 refine cD.own hs hl λaJ s=>⟨g',aJ,#[oQ m],hgo aJ s,(hb aJ s).running,Ao.refl _ _,λe he=>?_,?_⟩
 .rw[zwB] at he
  subst he;rw[cH.grow_self];exact hm
 .rw[cH.grow_self];exact hb aJ s
theorem cD.imark {l:Ab}{d:Nat}{g:bD}{w:aE}(hs:g.status=.running){g':bD}(hgo:∀aJ,bX ty Wg τ w aJ->stepG P main g aJ=.go g' aJ #[oQ m])
 (hm:Event.mute (oQ m)=true) (hb:∀aJ,bX ty Wg τ w aJ->cD P ty Wg A Fin main (.rel l) (oK d #[oQ m]) τ g' aJ):cD P ty Wg A Fin main (.rel l) d τ g w:=by
 refine cD.mk hs (.inl λaJ s=>⟨g',#[oQ m],hgo aJ s,(hb aJ s).running,λe he=>?_,hb aJ s⟩);rw[zwB] at he;subst he;exact hm
def WgLive.cell0 {w:aE}(h:WgLive ty Wg w):∃v,w.cell? ⟨Wg,0,none⟩=some v:=let⟨_,_,x⟩:=h;⟨_,x.cellSt⟩
def WgLive.cell1 {w:aE}(h:WgLive ty Wg w):∃v,w.cell? ⟨Wg,1,none⟩=some v:=let⟨_,_,x⟩:=h;⟨_,x.cellSm⟩
structure H0 (ty:aM)(Wg:Nat)(τ:cH)(F:aE->Prop):Prop where
 suf:∀w aJ,bX ty Wg τ w aJ->F w->F aJ
 wg:∀w a v,a.block=Wg->F w->F (w.setCell a v)
def H0.rely {F:aE->Prop}(k:H0 ty Wg τ F){w aJ:aE}(h:F w/\WgLive ty Wg w)(s:bX ty Wg τ w aJ):F aJ/\WgLive ty Wg aJ:=⟨k.suf _ _ s h.1,s.live h.2⟩
end
end Go.Mt
namespace Go.Mt
open Go.Conc Go.RowKit Go.Conc.Lib Go.ConcR.Gen
open Go.ConcN.Gen (WgLive.cell0 WgLive.cell1)
open Go.ConcN (st_flag st_waiters)
open Go.ConcR (KK wgBlock WgAt stA smA rd wr mk Payload DC0)
variable [zho]{L:zhk}
section
variable {Ab:Type}{P:bZ}{Wg:Nat}{A:jM Ab}{Fin:bD->aE->Prop}{F:aE->Prop}
 {b₀:dR} {a₀:vN} {ops₀:Array aZ} {i₀:Nat} {rest₀:List Nat} {k₀:List dX} {cs:List dR} {τ:cH} {l nx:Ab}
theorem addW (H:Vq P L)(rE:A.act l=.add nx)(kf:H0 L.tWg Wg τ F)
 (hT:∀w,F w->WgLive L.tWg Wg w->cD P L.tWg Wg A Fin true (.usr nx) 0 τ (G (b₀.at (a₀.put ((ops₀[i₀]?).bind (·.dst)) (.tuple #[])) (.inRegion ops₀ rest₀::k₀)) cs) w)
 (w:aE) (hF:F w/\WgLive L.tWg Wg w):
 cD P L.tWg Wg A Fin true (.usr l) 0 τ (G ((base L.add).at ⟨#[.pointer (some ⟨Wg,0,none⟩),.int .i64 1,aA,aA,aA,aA,aA,aA,aA,aA,aA,aA,aA,aA,aA,aA,aA,aA,aA,aA,aA,aA,aA,aA,aA,aA,aA,aA,aA,aA,aA,aA,aA,aA,aA,aA,aA,aA,aA,aA,aA,aA,aA,aA,aA,aA,aA,aA,aA,aA,aA,aA,aA,aA,aA,aA,aA,aA,aA,aA,aA,aA,aA,aA,aA,aA,aA,aA,aA,aA,aA,aA,aA,aA,aA,aA,aA,aA,aA,aA,aA,aA,aA,aA,aA,aA,aA,aA,aA,aA,aA,aA,aA,aA,aA,aA,aA,aA,aA,aA,aA,aA,aA,aA,aA,aA,aA,aA,aA,aA,aA,aA,aA,aA,aA,aA,aA],[]⟩ [.code (N7 L)]) (b₀.at a₀ (.inRegion ops₀ (i₀::rest₀)::k₀)::cs)) w:=by
 lib_facts
 simp only[N7,addFn,Br];refine cD.goes (ph:=.usr l) trivial 30 ?_
 iterate 12 (first|u_c dJ kf.rely hF|u_c dY kf.rely hF|u_reg kf.rely hF|u_c p8 kf.rely hF|u_cond false kf.rely hF|u_cond true kf.rely hF|u_op kf.rely hF)
 refine qU (λaJ wM=>?_);replace hF:=kf.rely hF wM;clear wM;refine cD.mark (ph:=.usr l) trivial rfl (λeU s=>za5 .disable aN rfl rfl rS rfl H.f_disable (zin L) (zjp L) (zmq L) (zmG L)) trivial (λeU s=>?_);replace hF:=kf.rely hF s;clear s;rw[show oK 0 #[oQ .disable]=1 from rfl]
 walk_nrm
 refine cD.goes (ph:=.usr l) trivial 60 ?_;u_c dJ kf.rely hF;u_reg kf.rely hF
 u_defer kf.rely hF
 iterate 8 (first|u_c dJ kf.rely hF|u_c dY kf.rely hF|u_reg kf.rely hF|u_op kf.rely hF)
 u_bub kf.rely hF
 iterate 11 (first|u_c dJ kf.rely hF|u_c dY kf.rely hF|u_reg kf.rely hF|u_c p8 kf.rely hF|u_cond false kf.rely hF|u_op kf.rely hF)
 u_call H.f_uAdd (nm_uAdd L) uAddFn kf.rely hF
 iterate 10 (first|u_c dJ kf.rely hF|u_c dY kf.rely hF|u_reg kf.rely hF|u_op kf.rely hF)
 refine qU (λaJ wM=>?_);replace hF:=kf.rely hF wM;clear wM;refine cD.usr rfl ?_;unfold mY;rw[rE];intro eU l6 v hv hw;replace hF:=kf.rely hF l6;clear l6;rcases Ws v with rfl|zbc
 .replace hw:WgAt L.tWg Wg eU 0 0:=by simpa using hw
  have z:st (0+1) 0=.int .u64 KK:=by simp[st]
  rw[z];have e0:Sl.wrap (0+4294967296)=KK:=aH;refine⟨_,(Yd rfl rfl rS rfl H.f_addU64 (Xh L) (Xj L) (Xu L) .u64 (V5 L) rfl rfl hw.cellSt (hw.thaw 0)).trans (by rw[e0];rfl),rfl,?_⟩;replace hF:F (eU.setCell (stA Wg) (.int .u64 KK))/\WgLive L.tWg Wg (eU.setCell (stA Wg) (.int .u64 KK)):=⟨kf.wg _ _ _ rfl hF.1,⟨_,_,hw.setSt _⟩⟩;clear hw;simp only[KK] at hF⊢
  walk_nrm
  refine cD.goes (ph:=.usr nx) trivial 110 ?_
  iterate 3 (first|u_c dJ kf.rely hF|u_c x4 kf.rely hF|u_op kf.rely hF)
  u_leave1 H.f_uAdd kf.rely hF
  iterate 48 (first|u_c dJ kf.rely hF|u_c dY kf.rely hF|u_reg kf.rely hF|u_c p8 kf.rely hF|u_cond false kf.rely hF|u_cond true kf.rely hF|u_op kf.rely hF|u_skip kf.rely hF)
  u_conv H.underlying_tPU32 H.room_tU32 (WgLive.cell1 hF.2).choose_spec kf.rely hF
  refine qU (λJ7 Ba=>?_);replace hF:=kf.rely hF Ba;clear Ba;refine cD.mark (ph:=.usr nx) trivial rfl (λRr s=>zb0 .read aN rfl rfl rS rfl H.f_raceRead (x_raceRead_n L) (x_raceRead_b L) (x_raceRead_x L) (x_raceRead_f L) (ad:=⟨Wg,1,none⟩) (by simp[wZ])) ⟨rfl,rfl⟩ (λRr s=>?_);replace hF:=kf.rely hF s;clear s;rw[show oK 1 #[oQ (.read ⟨Wg,1,none⟩)]=1 from rfl]
  walk_nrm
  refine cD.goes (ph:=.usr nx) trivial 110 ?_
  iterate 39 (first|u_c dJ kf.rely hF|u_c dY kf.rely hF|u_reg kf.rely hF|u_c p8 kf.rely hF|u_cond false kf.rely hF|u_cond true kf.rely hF|u_c x4 kf.rely hF|u_op kf.rely hF|u_skip kf.rely hF)
  refine qU (λJ7 Ba=>?_);replace hF:=kf.rely hF Ba;clear Ba;refine cD.mark (ph:=.usr nx) trivial rfl (λRr s=>zoC (v:=.tuple #[]) (evs:=#[oQ .enable]) rfl H.f_enable (zhf L) (zeq L) (zgw L) (zfB L) (by simp[zpa]) (by simp[oQ]) (by simp[oQ])) trivial (λRr s=>?_);replace hF:=kf.rely hF s;clear s;rw[show oK 1 #[oQ .enable]=0 from rfl];refine cD.goes (ph:=.usr nx) trivial 2 ?_
  u_leave0 H.f_add kf.rely hF
  exact qU (λzde Jm=>hT zde (kf.rely hF Jm).1 (kf.rely hF Jm).2)
 .obtain⟨V,hV⟩:=aP ((v:Int)+1:Int)
  obtain⟨S,hS⟩:=aP (V*KK:Int);have eS:Sl.wrap ((v:Int)*KK+4294967296)=S:=by rw[zdS,hS,hV];simp only[KK];omega
  have z:st (v+1) 0=.int .u64 S:=by simp[st,hS,hV]
  rw[z];have a1:S/4294967296=V:=by rw[hS];simp only[KK];omega
  have b1:bits .and .u64 S 2147483648=0:=by rw[hS,hV];have:=st_flag (v+1) 0 aC aC;simpa[KK] using this
  have b2:bits .and .u64 S 2147483647=0:=by rw[hS,hV];have:=st_waiters (v+1) 0 aC aC;simpa[KK] using this
  have c1:zvi.wrap V=V:=by rw[zvP];omega
  have zmw:1<V:=aC;have zwf:V<2147483648:=aC;have q1:(V==1)=false:=oX;have q2:decide (V=1)=false:=decide_eq_false aC;have q3:decide (V<0)=false:=decide_eq_false aC;have q4:decide (0<V)=true:=decide_eq_true aC;have q5:(V==0)=false:=oX;have q6:decide (V=0)=false:=decide_eq_false aC;refine⟨_,(Yd rfl rfl rS rfl H.f_addU64 (Xh L) (Xj L) (Xu L) .u64 (V5 L) rfl rfl hw.cellSt (hw.thaw 0)).trans (by rw[eS];rfl),rfl,?_⟩;replace hF:F (eU.setCell (stA Wg) (.int .u64 S))/\WgLive L.tWg Wg (eU.setCell (stA Wg) (.int .u64 S)):=⟨kf.wg _ _ _ rfl hF.1,⟨_,_,hw.setSt _⟩⟩;clear hw hS hV eS z
  walk_nrm
  refine cD.goes (ph:=.usr nx) trivial 130 ?_
  iterate 3 (first|u_c dJ kf.rely hF|u_c x4 kf.rely hF|u_op kf.rely hF)
  u_leave1 H.f_uAdd kf.rely hF
  iterate 13 (first|u_c dJ kf.rely hF|u_c dY kf.rely hF|u_reg kf.rely hF|u_op kf.rely hF|u_skip kf.rely hF)
  u_cnd false kf.rely hF
  iterate 29 (first|u_c dJ kf.rely hF|u_c dY kf.rely hF|u_reg kf.rely hF|u_c p8 kf.rely hF|u_op kf.rely hF)
  u_cnd false kf.rely hF
  iterate 7 (first|u_c dJ kf.rely hF|u_c dY kf.rely hF|u_reg kf.rely hF|u_c p8 kf.rely hF|u_op kf.rely hF)
  u_cnd false kf.rely hF
  iterate 17 (first|u_c dJ kf.rely hF|u_c dY kf.rely hF|u_reg kf.rely hF|u_c p8 kf.rely hF|u_op kf.rely hF|u_skip kf.rely hF)
  u_cnd false kf.rely hF
  iterate 11 (first|u_c dJ kf.rely hF|u_c dY kf.rely hF|u_reg kf.rely hF|u_c p8 kf.rely hF|u_op kf.rely hF|u_skip kf.rely hF)
  u_cnd true kf.rely hF
  u_c x4 kf.rely hF;refine qU (λJ7 Ba=>?_);replace hF:=kf.rely hF Ba;clear Ba;refine cD.mark (ph:=.usr nx) trivial rfl (λRr s=>zoC (v:=.tuple #[]) (evs:=#[oQ .enable]) rfl H.f_enable (zhf L) (zeq L) (zgw L) (zfB L) (by simp[zpa]) (by simp[oQ]) (by simp[oQ])) trivial (λRr s=>?_);replace hF:=kf.rely hF s;clear s;rw[show oK 1 #[oQ .enable]=0 from rfl];refine cD.goes (ph:=.usr nx) trivial 2 ?_
  u_leave0 H.f_add kf.rely hF
  exact qU (λzde Jm=>hT zde (kf.rely hF Jm).1 (kf.rely hF Jm).2)
end
end Go.Mt
namespace Go.Mt
open Go.Conc Go.RowKit Go.Conc.Lib Go.ConcR.Gen
open Go.ConcN.Gen (WgLive.cell0 WgLive.cell1)
open Go.ConcN (st_flag st_waiters)
open Go.ConcR (KK wgBlock WgAt stA smA rd wr mk Payload DC0)
variable [zho]{L:zhk}
section
variable {Ab:Type}{P:bZ}{Wg:Nat}{A:jM Ab}{Fin:bD->aE->Prop}{F:aE->Prop}
 {b₀:dR} {a₀:vN} {ops₀:Array aZ} {i₀:Nat} {rest₀:List Nat} {k₀:List dX} {cs:List dR} {τ:cH} {l nx:Ab}
theorem addNegW (H:Vq P L)(rE:A.act l=.done)(kf:H0 L.tWg Wg τ F)(uG:∀w,F w->A.dep l w){qt:Nat}
 (hT:QuitsD P qt 0 (G (b₀.at (a₀.put ((ops₀[i₀]?).bind (·.dst)) (.tuple #[])) (.inRegion ops₀ rest₀::k₀)) cs)) (w:aE) (hF:F w/\WgLive L.tWg Wg w):
 cD P L.tWg Wg A Fin false (.usr l) 0 τ (G ((base L.add).at ⟨#[.pointer (some ⟨Wg,0,none⟩),.int .i64 (-1),aA,aA,aA,aA,aA,aA,aA,aA,aA,aA,aA,aA,aA,aA,aA,aA,aA,aA,aA,aA,aA,aA,aA,aA,aA,aA,aA,aA,aA,aA,aA,aA,aA,aA,aA,aA,aA,aA,aA,aA,aA,aA,aA,aA,aA,aA,aA,aA,aA,aA,aA,aA,aA,aA,aA,aA,aA,aA,aA,aA,aA,aA,aA,aA,aA,aA,aA,aA,aA,aA,aA,aA,aA,aA,aA,aA,aA,aA,aA,aA,aA,aA,aA,aA,aA,aA,aA,aA,aA,aA,aA,aA,aA,aA,aA,aA,aA,aA,aA,aA,aA,aA,aA,aA,aA,aA,aA,aA,aA,aA,aA,aA,aA,aA,aA],[]⟩ [.code (N7 L)]) (b₀.at a₀ (.inRegion ops₀ (i₀::rest₀)::k₀)::cs)) w:=by
 lib_facts
 simp only[N7,addFn,Br];refine cD.goes (ph:=.usr l) trivial 20 ?_
 iterate 11 (first|u_c dJ kf.rely hF|u_c dY kf.rely hF|u_reg kf.rely hF|u_cond true kf.rely hF|u_op kf.rely hF)
 u_conv H.underlying_tWgP H.room_tWg (WgLive.cell0 hF.2).choose_spec kf.rely hF
 refine qU (λaJ wM=>?_);replace hF:=kf.rely hF wM;clear wM;refine cD.usr rfl ?_;unfold mY;rw[rE];refine⟨rfl,rfl,λeU s=>uG _ (kf.rely hF s).1,λeU s=>?_⟩;replace hF:=kf.rely hF s;clear s;refine⟨_,zb0 .releaseMerge aN rfl rfl rS rfl H.f_relMerge (x_relMerge_n L) (x_relMerge_b L) (x_relMerge_x L) (x_relMerge_f L) zmW,rfl,?_⟩;refine cD.idles (ph:=.rel l) id 10 ?_
 walk_nrm
 iterate 3 (first|u_c dJ kf.rely hF|u_c dY kf.rely hF|u_reg kf.rely hF)
 refine qU (λaJ wM=>?_);replace hF:=kf.rely hF wM;clear wM;refine cD.imark rfl (λeU s=>za5 .disable aN rfl rfl rS rfl H.f_disable (zin L) (zjp L) (zmq L) (zmG L)) rfl (λeU s=>?_);replace hF:=kf.rely hF s;clear s;rw[show oK 0 #[oQ .disable]=1 from rfl];refine cD.idles (ph:=.rel l) id 50 ?_
 walk_nrm
 u_c dJ kf.rely hF;u_reg kf.rely hF
 u_defer kf.rely hF
 iterate 8 (first|u_c dJ kf.rely hF|u_c dY kf.rely hF|u_reg kf.rely hF|u_op kf.rely hF)
 u_bub kf.rely hF
 iterate 11 (first|u_c dJ kf.rely hF|u_c dY kf.rely hF|u_reg kf.rely hF|u_c p8 kf.rely hF|u_cond false kf.rely hF|u_op kf.rely hF)
 u_call H.f_uAdd (nm_uAdd L) uAddFn kf.rely hF
 iterate 10 (first|u_c dJ kf.rely hF|u_c dY kf.rely hF|u_reg kf.rely hF|u_op kf.rely hF)
 refine qU (λzeB zdX=>?_);replace hF:=kf.rely hF zdX;clear zdX;refine cD.mk rfl (.inr ?_);intro aJ lQ v wt cE hv hw;replace hF:=kf.rely hF lQ;clear lQ;have e0:Sl.wrap (KK+18446744069414584320)=0:=aH;have e1:Sl.wrap (KK+1+18446744069414584320)=1:=aH;rcases Ws v with rfl|zbc<;>(obtain rfl|rfl:wt=0\/wt=1:=by omega)
 .
  replace hw:WgAt L.tWg Wg aJ KK 0:=by simpa using hw
  have z:Mt.st 0 0=.int .u64 0:=by simp[Mt.st]
  rw[z];refine⟨_,(Yd rfl rfl rS rfl H.f_addU64 (Xh L) (Xj L) (Xu L) .u64 (V5 L) rfl rfl hw.cellSt (hw.thaw 0)).trans (by rw[e0];rfl),rfl,aH,λhl=>absurd hl.2 aH,λ_=>⟨qt+89,?_⟩⟩;clear hw
  walk_nrm
  q_val (.int .u64 0)
  q_c dJ
  q_c x4
  q_leave1 H.f_uAdd
  q_val (.int .u64 0)
  q_c dJ
  q_c dY
  q_c dY
  q_reg
  q_val (.int .u64 0)
  q_val (.int .u64 0)
  q_val (.bool false)
  q_val (.bool false)
  q_skip
  q_skip
  q_val (.bool false)
  q_c dJ
  q_cond false
  q_c p8
  q_c dY
  q_reg
  q_val (.int .u64 0)
  q_val (.int .u64 0)
  q_val (.int .i32 0)
  q_val (.int .i32 0)
  q_c dJ
  q_c dY
  q_reg
  q_val (.int .u64 0)
  q_val (.int .u64 0)
  q_val (.int .u32 0)
  q_val (.int .u32 0)
  q_c dJ
  q_c dY
  q_c dY
  q_reg
  q_val (.bool true)
  q_val (.int .i64 (-1))
  q_val (.bool false)
  q_val (.bool false)
  q_val (.bool false)
  q_skip
  q_skip
  q_skip
  q_skip
  q_val (.bool false)
  q_c dJ
  q_cond false
  q_c p8
  q_c dY
  q_c dY
  q_reg
  q_val (.int .i32 0)
  q_val (.bool false)
  q_c dJ
  q_cond false
  q_c p8
  q_c dY
  q_c dY
  q_reg
  q_val (.int .u32 0)
  q_val (.bool false)
  q_val (.bool false)
  q_skip
  q_skip
  q_val (.bool false)
  q_val (.bool false)
  q_skip
  q_skip
  q_skip
  q_skip
  q_val (.bool false)
  q_c dJ
  q_cond false
  q_c p8
  q_c dY
  q_c dY
  q_reg
  q_val (.int .i32 0)
  q_val (.bool false)
  q_val (.bool false)
  q_val (.int .u32 0)
  q_val (.bool true)
  q_val (.bool true)
  q_c dJ
  q_cond true
  q_c x4
  q_enable
  q_leave0 H.f_add
  exact hT
 .
  replace hw:WgAt L.tWg Wg aJ (KK+1) 0:=by simpa using hw
  have z:Mt.st 0 1=.int .u64 1:=by simp[Mt.st]
  rw[z];refine⟨_,(Yd rfl rfl rS rfl H.f_addU64 (Xh L) (Xj L) (Xu L) .u64 (V5 L) rfl rfl hw.cellSt (hw.thaw 0)).trans (by rw[e1];rfl),rfl,aH,λ_=>?_,λhl=>absurd ⟨rfl,rfl⟩ hl⟩;replace hF:F (aJ.setCell (stA Wg) (.int .u64 1))/\WgLive L.tWg Wg (aJ.setCell (stA Wg) (.int .u64 1)):=⟨kf.wg _ _ _ rfl hF.1,⟨_,_,hw.setSt 1⟩⟩;clear hw;refine cD.idles (ph:=.l1 l) id 120 ?_
  walk_nrm
  iterate 3 (first|u_c dJ kf.rely hF|u_c x4 kf.rely hF|u_op kf.rely hF)
  u_leave1 H.f_uAdd kf.rely hF
  iterate 89 (first|u_c dJ kf.rely hF|u_c dY kf.rely hF|u_reg kf.rely hF|u_c p8 kf.rely hF|u_cond false kf.rely hF|u_op kf.rely hF|u_skip kf.rely hF)
  u_call H.f_uLoad (zni L) uLoadFn kf.rely hF
  iterate 9 (first|u_c dJ kf.rely hF|u_c dY kf.rely hF|u_reg kf.rely hF|u_op kf.rely hF)
  refine qU (λeU Sa=>?_);replace hF:=kf.rely hF Sa;clear Sa;refine cD.mk rfl (.inr ?_);intro J7 s hw;replace hF:=kf.rely hF s;clear s;refine⟨_,zfc rfl rfl rS rfl H.f_loadU64 (zgl L) (zfm L) (zeo L) .u64 (zeW L) rfl hw.cellSt,rfl,aH,?_⟩;clear hw;refine cD.idles (ph:=.l2 l) id 40 ?_
  walk_nrm
  iterate 3 (first|u_c dJ kf.rely hF|u_c x4 kf.rely hF|u_op kf.rely hF)
  u_leave1 H.f_uLoad kf.rely hF
  iterate 10 (first|u_c dJ kf.rely hF|u_c dY kf.rely hF|u_reg kf.rely hF|u_c p8 kf.rely hF|u_cond false kf.rely hF|u_op kf.rely hF)
  u_call H.f_uStore (nm_uStore L) uStoreFn kf.rely hF
  iterate 5 (first|u_reg kf.rely hF|u_op kf.rely hF)
  refine qU (λeU Ba=>?_);replace hF:=kf.rely hF Ba;clear Ba;refine cD.mk rfl (.inr ?_);intro J7 s hw;replace hF:=kf.rely hF s;clear s;have z0:Mt.st 0 0=.int .u64 0:=by simp[Mt.st]
  rw[z0];refine⟨_,stepG_store_atomic rfl rfl rS rfl H.f_storeU64 (x_storeU64_n L) (x_storeU64_b L) (x_storeU64_x L) (x_storeU64_f L) rfl rfl hw.cellSt (hw.thaw 0),rfl,aH,?_⟩;replace hF:F (J7.setCell (stA Wg) (.int .u64 0))/\WgLive L.tWg Wg (J7.setCell (stA Wg) (.int .u64 0)):=⟨kf.wg _ _ _ rfl hF.1,⟨_,_,hw.setSt 0⟩⟩;clear hw z0;refine cD.idles (ph:=.l3 l) id 50 ?_
  walk_nrm
  u_c dJ kf.rely hF;u_c zeN kf.rely hF
  u_leave0 H.f_uStore kf.rely hF
  iterate 24 (first|u_c dJ kf.rely hF|u_c dY kf.rely hF|u_reg kf.rely hF|u_c p8 kf.rely hF|u_cond false kf.rely hF|u_cond true kf.rely hF|u_c ze5 kf.rely hF|u_c zmx kf.rely hF|u_op kf.rely hF)
  refine qU (λeU zf7=>?_);clear zf7 hF;refine cD.mk rfl (.inr ⟨mayWake_entry rfl rfl H.f_semrelease (zut L),λRr s hw=>?_⟩);clear s;refine⟨_,(stepG_semrelease rfl rfl rS rfl H.f_semrelease (x_semrelease_n L) (zut L) (x_semrelease_x L) (x_semrelease_f L) zmZ hw.cellSm (hw.thaw 1)).trans Lz,rfl,aH,qt+19,?_⟩;clear hw
  walk_nrm
  q_c dJ
  q_c znc
  q_reg
  q_val (.int .u32 1)
  q_val (.int .u32 0)
  q_val (.int .u32 0)
  q_c dJ
  q_c zmD
  q_c dY
  q_c dY
  q_reg
  q_val (.int .u32 0)
  q_val (.bool false)
  q_c dJ
  q_cond false
  q_exit
  q_c zeN
  q_enable
  q_leave0 H.f_add
  exact hT
 .
  replace hw:WgAt L.tWg Wg aJ (((v:Nat)+1)*KK+0) 0:=by simpa using hw
  have z:Mt.st v 0=.int .u64 ((v:Int)*KK+0):=by simp[Mt.st]
  rw[z];have gI:0<v:=aC;have eS:Sl.wrap (((v:Nat)+1)*KK+0+18446744069414584320)=(v:Int)*KK+0:=by rw[zdS];simp only[KK];omega
  obtain⟨S,hS⟩:=aP ((v:Int)*KK+0:Int);rw[<-hS] at eS⊢;have a1:S/4294967296=(v:Int):=by rw[hS];simp only[KK];omega
  have a2:0<=S/\S<9223372036854775808:=by rw[hS];simp only[KK];omega
  have b1:bits .and .u64 S 2147483648=0:=by rw[hS];have:=st_flag v 0 aC aC;simpa[KK] using this
  have b2:bits .and .u64 S 2147483647=0:=by rw[hS];have:=st_waiters v 0 aC aC;simpa[KK] using this
  clear hS z;refine⟨_,(Yd rfl rfl rS rfl H.f_addU64 (Xh L) (Xj L) (Xu L) .u64 (V5 L) rfl rfl hw.cellSt (hw.thaw 0)).trans (by rw[eS];rfl),rfl,aH,λhl=>absurd hl.1 aC,λ_=>⟨qt+89,?_⟩⟩;clear hw
  walk_nrm
  q_vn (.int .u64 S)
  q_c dJ
  q_c x4
  q_leave1 H.f_uAdd
  q_vn (.int .u64 S)
  q_c dJ
  q_c dY
  q_c dY
  q_reg
  q_vn (.int .u64 S)
  q_vn (.int .u64 0)
  q_vn (.bool false)
  q_vn (.bool false)
  q_skip
  q_skip
  q_vn (.bool false)
  q_c dJ
  q_cond false
  q_c p8
  q_c dY
  q_reg
  q_vn (.int .u64 S)
  q_vn (.int .u64 (v:Int))
  q_vn (.int .i32 (v:Int))
  q_vn (.int .i32 (v:Int))
  q_c dJ
  q_c dY
  q_reg
  q_vn (.int .u64 S)
  q_vn (.int .u64 0)
  q_vn (.int .u32 0)
  q_vn (.int .u32 0)
  q_c dJ
  q_c dY
  q_c dY
  q_reg
  q_vn (.bool true)
  q_vn (.int .i64 (-1))
  q_vn (.bool false)
  q_vn (.bool false)
  q_vn (.bool false)
  q_skip
  q_skip
  q_skip
  q_skip
  q_vn (.bool false)
  q_c dJ
  q_cond false
  q_c p8
  q_c dY
  q_c dY
  q_reg
  q_vn (.int .i32 (v:Int))
  q_vn (.bool false)
  q_c dJ
  q_cond false
  q_c p8
  q_c dY
  q_c dY
  q_reg
  q_vn (.int .u32 0)
  q_vn (.bool false)
  q_vn (.bool false)
  q_skip
  q_skip
  q_vn (.bool false)
  q_vn (.bool false)
  q_skip
  q_skip
  q_skip
  q_skip
  q_vn (.bool false)
  q_c dJ
  q_cond false
  q_c p8
  q_c dY
  q_c dY
  q_reg
  q_vn (.int .i32 (v:Int))
  q_vn (.bool true)
  q_vn (.bool true)
  q_skip
  q_skip
  q_vn (.bool true)
  q_c dJ
  q_cond true
  q_c x4
  q_enable
  q_leave0 H.f_add
  exact hT
 .
  replace hw:WgAt L.tWg Wg aJ (((v:Nat)+1)*KK+1) 0:=by simpa using hw
  have z:Mt.st v 1=.int .u64 ((v:Int)*KK+1):=by simp[Mt.st]
  rw[z];have gI:0<v:=aC;have eS:Sl.wrap (((v:Nat)+1)*KK+1+18446744069414584320)=(v:Int)*KK+1:=by rw[zdS];simp only[KK];omega
  obtain⟨S,hS⟩:=aP ((v:Int)*KK+1:Int);rw[<-hS] at eS⊢;have a1:S/4294967296=(v:Int):=by rw[hS];simp only[KK];omega
  have a2:0<=S/\S<9223372036854775808:=by rw[hS];simp only[KK];omega
  have b1:bits .and .u64 S 2147483648=0:=by rw[hS];have:=st_flag v 1 aC aC;simpa[KK] using this
  have b2:bits .and .u64 S 2147483647=1:=by rw[hS];have:=st_waiters v 1 aC aC;simpa[KK] using this
  clear hS z;refine⟨_,(Yd rfl rfl rS rfl H.f_addU64 (Xh L) (Xj L) (Xu L) .u64 (V5 L) rfl rfl hw.cellSt (hw.thaw 0)).trans (by rw[eS];rfl),rfl,aH,λhl=>absurd hl.1 aC,λ_=>⟨qt+89,?_⟩⟩;clear hw
  walk_nrm
  q_vn (.int .u64 S)
  q_c dJ
  q_c x4
  q_leave1 H.f_uAdd
  q_vn (.int .u64 S)
  q_c dJ
  q_c dY
  q_c dY
  q_reg
  q_vn (.int .u64 S)
  q_vn (.int .u64 0)
  q_vn (.bool false)
  q_vn (.bool false)
  q_skip
  q_skip
  q_vn (.bool false)
  q_c dJ
  q_cond false
  q_c p8
  q_c dY
  q_reg
  q_vn (.int .u64 S)
  q_vn (.int .u64 (v:Int))
  q_vn (.int .i32 (v:Int))
  q_vn (.int .i32 (v:Int))
  q_c dJ
  q_c dY
  q_reg
  q_vn (.int .u64 S)
  q_vn (.int .u64 1)
  q_vn (.int .u32 1)
  q_vn (.int .u32 1)
  q_c dJ
  q_c dY
  q_c dY
  q_reg
  q_vn (.bool true)
  q_vn (.int .i64 (-1))
  q_vn (.bool false)
  q_vn (.bool false)
  q_vn (.bool false)
  q_skip
  q_skip
  q_skip
  q_skip
  q_vn (.bool false)
  q_c dJ
  q_cond false
  q_c p8
  q_c dY
  q_c dY
  q_reg
  q_vn (.int .i32 (v:Int))
  q_vn (.bool false)
  q_c dJ
  q_cond false
  q_c p8
  q_c dY
  q_c dY
  q_reg
  q_vn (.int .u32 1)
  q_vn (.bool true)
  q_vn (.bool true)
  q_vn (.int .i64 (-1))
  q_vn (.bool false)
  q_vn (.bool false)
  q_vn (.bool false)
  q_skip
  q_skip
  q_skip
  q_skip
  q_vn (.bool false)
  q_c dJ
  q_cond false
  q_c p8
  q_c dY
  q_c dY
  q_reg
  q_vn (.int .i32 (v:Int))
  q_vn (.bool true)
  q_vn (.bool true)
  q_skip
  q_skip
  q_vn (.bool true)
  q_c dJ
  q_cond true
  q_c x4
  q_enable
  q_leave0 H.f_add
  exact hT
theorem doneW (H:Vq P L)(rE:A.act l=.done)(kf:H0 L.tWg Wg τ F)(uG:∀w,F w->A.dep l w){c:dR}{cs:List dR}{qt:Nat}
 (qF:c.mode=.returning) (hT:QuitsD P qt 0 (G c cs)) (w:aE) (hF:F w/\WgLive L.tWg Wg w):
 cD P L.tWg Wg A Fin false (.usr l) 0 τ (G ((baseD L.done).at ⟨#[.pointer (some ⟨Wg,0,none⟩),aA,aA,aA],[]⟩ [.code (body_done L)]) (c::cs)) w:=by
 lib_facts
 have hA:=@addNegW _ L _ P Wg A Fin F;simp only[body_done,N7,doneFn,addFn,Br] at hA⊢;refine cD.goes (ph:=.usr l) trivial 23 ?_;u_reg kf.rely hF;u_op kf.rely hF
 u_in kf.rely hF
 refine goes_call rfl rfl rS rfl H.f_add (nm_add L) rfl ⟨by u_nil,?_⟩
 walk_nrmf addFn
 refine qU (λaJ wM=>?_);refine hA H rE kf uG (qt:=qt+3) ?_ _ (kf.rely hF wM)
 q_c dJ
 q_c zeN
 exact QuitsD.leaveD rfl rfl H.f_done rfl qF hT
end
end Go.Mt
namespace Go.Mt
open Go.Conc Go.RowKit Go.Conc.Lib Go.ConcR.Gen
open Go.ConcN.Gen (WgLive.cell0 WgLive.cell1 AnchWN)
open Go.ConcN (st_flag st_waiters)
open Go.ConcR (KK wgBlock WgAt stA smA rd wr mk Payload DC0)
variable [zho]{L:zhk}
section
variable {Ab:Type}{P:bZ}{Wg:Nat}{A:jM Ab}{Fin:bD->aE->Prop}{F:aE->Prop}
 {b₀:dR} {a₀:vN} {ops₀:Array aZ} {i₀:Nat} {rest₀:List Nat} {k₀:List dX} {cs:List dR} {τ:cH} {l nx:Ab}
def AtX (W w:aE):Prop:=∃d,w=W.at d
theorem yF {W w aJ:aE}(h:AtX W w)(r:AtRel w aJ):AtX W aJ:=by
 obtain⟨d,rfl⟩:=h;obtain⟨d',rfl⟩:=r;exact⟨d',rfl⟩
def zco (A:jM Ab)(w:aE):Prop:=∃q ch,A.Inv q ch/\q 0=.waits/\(∀i l,q i≠ .run l)/\∀i l,q i=.over l->A.dep l w
theorem ztm (H:Vq P L)(kf:H0 L.tWg Wg τ F)(No:∀(n:Nat) g w,Goes P true AtRel DC0 Fin n g w->Fin g w)
 (hT:∀w,F w->WgLive L.tWg Wg w->zco A w->∀d,Fin (G (b₀.at (a₀.put ((ops₀[i₀]?).bind (·.dst)) (.tuple #[])) (.inRegion ops₀ rest₀::k₀)) cs) (w.at d))
 {ok:Nat->Prop} {ph:Ph Ab} (hl:ph.live)
 (yT:∀g w,g.status=.running->(∀aJ,bX L.tWg Wg τ w aJ->∀v:Nat,ok v->v<2147483648->WgAt L.tWg Wg aJ (v*KK) 0->∃g',stepG P true g aJ=.go g' aJ #[rd (stA Wg)]/\g'.status=.running/\
  (v=0->cD P L.tWg Wg A Fin true .w5 1 τ g' aJ)/\(v≠0->cD P L.tWg Wg A Fin true (.w2 v) 1 τ g' aJ))->cD P L.tWg Wg A Fin true ph 1 τ g w)
 (hC:∀v,ok v->∀g w,AnchWN L F Wg (b₀.at a₀ (.inRegion ops₀ (i₀::rest₀)::k₀)) cs g w->cD P L.tWg Wg A Fin true (.w1 v) 1 τ g w)
 (g:bD) (w:aE) (h:AnchWN L F Wg (b₀.at a₀ (.inRegion ops₀ (i₀::rest₀)::k₀)) cs g w):cD P L.tWg Wg A Fin true ph 1 τ g w:=by
 lib_facts
 obtain⟨T,rfl,zF6,t0,hF⟩:=h;obtain⟨v0,v1,v2,v3,v4,v5,v6,v7,v8,v9,v10,v11,v12,zJy,zLr,zJo,zKS,zI7,zLt,zIY,v20,v21,zK0,zKc,v24,zIP,zJF,zJf,v28,zJq,v30,v31,zJv,zKQ,zJL,zI3,zKo,v37,zKw,zJK,v40,zKP,zK7,zKq,zJQ,zJS,v46,zKA,zKB,v49,zLl,v51,zKY,v53,zKt,zKF,zJk,zJe,zJC,v59,zKZ,zIX,zIQ,zKv,zJl,zKa,zKJ,zJW,zLq,zI6,v70,zJN,v72,zKK,zJY,v75,v76,zIZ,zJj,zJ9,v80,zKy,zK4,zKH,rfl⟩:=array84 T zF6;simp only[List.getElem?_toArray,List.getElem?_cons_zero,jP] at t0;subst t0;refine cD.goes hl 30 ?_;simp only[L7,Tx,waitFn,Br]
 iterate 6 (first|u_c dY kf.rely hF|u_reg kf.rely hF|u_c ze5 kf.rely hF|u_op kf.rely hF)
 u_call H.f_uLoad (zni L) uLoadFn kf.rely hF
 iterate 9 (first|u_c dJ kf.rely hF|u_c dY kf.rely hF|u_reg kf.rely hF|u_op kf.rely hF)
 refine qU (λzeB wM=>?_);replace hF:=kf.rely hF wM;clear wM;refine yT _ _ rfl ?_;intro aJ s v bS hv hw;replace hF:=kf.rely hF s;clear s;rcases Ws v with rfl|zbc
 .
  replace hw:WgAt L.tWg Wg aJ 0 0:=by simpa using hw
  refine⟨_,zfc (v:=0) rfl rfl rS rfl H.f_loadU64 (zgl L) (zfm L) (zeo L) .u64 (zeW L) rfl hw.cellSt,rfl,λ_=>?_,λh=>absurd rfl h⟩;clear hw;refine cD.goes (ph:=.w5) trivial 60 ?_
  walk_nrm
  iterate 3 (first|u_c dJ kf.rely hF|u_c x4 kf.rely hF|u_op kf.rely hF)
  u_leave1 H.f_uLoad kf.rely hF
  iterate 27 (first|u_c dJ kf.rely hF|u_c dY kf.rely hF|u_reg kf.rely hF|u_cond true kf.rely hF|u_op kf.rely hF)
  refine qU (λzde Jm=>?_);replace hF:=kf.rely hF Jm;clear Jm;refine cD.mark (ph:=.w5) trivial rfl (λeU s=>za5 .enable aN rfl rfl rS rfl H.f_enable (zhf L) (zeq L) (zgw L) (zfB L)) trivial (λeU s=>?_);replace hF:=kf.rely hF s;clear s;rw[show oK 1 #[oQ .enable]=0 from rfl];refine cD.goes (ph:=.w5) trivial 30 ?_
  walk_nrm
  iterate 3 (first|u_c dJ kf.rely hF|u_reg kf.rely hF|u_op kf.rely hF)
  u_conv H.underlying_tWgP H.room_tWg (WgLive.cell0 hF.2).choose_spec kf.rely hF
  refine qU (λzBX zbA=>?_);replace hF:=kf.rely hF zbA;clear zbA;refine cD.mk rfl (.inr ⟨rfl,λU5 s hD=>?_⟩);replace hF:=kf.rely hF s;clear s;have hX:AtX U5 U5:=⟨U5.drawn,rfl⟩;refine⟨_,zb0 .acquire aN rfl rfl rS rfl H.f_acquire (x_acquire_n L) (x_acquire_b L) (x_acquire_x L) (x_acquire_f L) zmW,rfl,?_⟩;refine No 30 _ _ ?_
  walk_nrm
  iterate 19 (first|u_c dJ yF hX|u_c dY yF hX|u_reg yF hX|u_c p8 yF hX|u_cond false yF hX|u_c x4 yF hX|u_op yF hX|u_skip yF hX)
  u_leave0 H.f_wait yF hX
  exact qU (λzz7 h=>by obtain⟨zlo,rfl⟩:=yF hX h;exact hT _ hF.1 hF.2 hD zlo)
 .
  obtain⟨S,hS⟩:∃S:Int,(v:Int)*KK=S:=⟨_,rfl⟩;have a1:S/4294967296=(v:Int):=by rw[<-hS];simp only[KK];omega
  have b1:bits .and .u64 S 2147483648=0:=by rw[<-hS];have:=st_flag v 0 aC aC;simpa[KK] using this
  have b2:bits .and .u64 S 2147483647=0:=by rw[<-hS];have:=st_waiters v 0 aC aC;simpa[KK] using this
  have c1:zvi.wrap (v:Int)=(v:Int):=by rw[zvP];omega
  have w1:Sl.wrap (S+1)=S+1:=by rw[zdS,<-hS];simp only[KK];omega
  have q3:decide ((v:Int)<0)=false:=decide_eq_false aC;have q4:decide (0<(v:Int))=true:=decide_eq_true aC;have q5:((v:Int)==0)=false:=oX;have q6:decide ((v:Int)=0)=false:=decide_eq_false aC;rw[hS] at hw;refine⟨_,zfc (v:=S) rfl rfl rS rfl H.f_loadU64 (zgl L) (zfm L) (zeo L) .u64 (zeW L) rfl hw.cellSt,rfl,λh0=>absurd h0 aC,λ_=>?_⟩;clear hw;refine cD.goes (ph:=.w2 v) trivial 60 ?_
  walk_nrm
  iterate 3 (first|u_c dJ kf.rely hF|u_c x4 kf.rely hF|u_op kf.rely hF)
  u_leave1 H.f_uLoad kf.rely hF
  iterate 22 (first|u_c dJ kf.rely hF|u_c dY kf.rely hF|u_reg kf.rely hF|u_op kf.rely hF)
  u_cnd false kf.rely hF
  iterate 9 (first|u_c dY kf.rely hF|u_reg kf.rely hF|u_c p8 kf.rely hF|u_op kf.rely hF)
  u_call H.f_uCas (nm_uCas L) uCasFn kf.rely hF
  iterate 11 (first|u_c dJ kf.rely hF|u_c dY kf.rely hF|u_reg kf.rely hF|u_op kf.rely hF)
  refine qU (λzeB Sa=>?_);replace hF:=kf.rely hF Sa;clear Sa;refine cD.mk rfl (.inr ?_);intro eU s v' L9 hw;replace hF:=kf.rely hF s;clear s;refine⟨λe=>?_,λe=>?_⟩
  .
   subst e;have z:Mt.st v' 1=.int .u64 (S+1):=by simp[Mt.st,hS]
   rw[hS] at hw;rw[z];refine⟨_,(stepG_cas_hit (v:=S) (n:=S+1) rfl rfl rS rfl H.f_casU64 (x_casU64_n L) (x_casU64_b L) (x_casU64_x L) .u64 (x_casU64_f L) rfl rfl rfl hw.cellSt (hw.thaw 0)).trans Lz,rfl,?_⟩;refine cD.goes (ph:=.w3) trivial 70 ?_;replace hF:F (eU.setCell (stA Wg) (.int .u64 (S+1)))/\WgLive L.tWg Wg (eU.setCell (stA Wg) (.int .u64 (S+1))):=⟨kf.wg _ _ _ rfl hF.1,⟨_,_,hw.setSt _⟩⟩;clear hw
   walk_nrm
   iterate 3 (first|u_c dJ kf.rely hF|u_c x4 kf.rely hF|u_op kf.rely hF)
   u_leave1 H.f_uCas kf.rely hF
   iterate 15 (first|u_c dJ kf.rely hF|u_c dY kf.rely hF|u_reg kf.rely hF|u_cond true kf.rely hF|u_op kf.rely hF)
   u_conv H.underlying_tPU32 H.room_tU32 (WgLive.cell1 hF.2).choose_spec kf.rely hF
   refine qU (λzK5 zu0=>?_);replace hF:=kf.rely hF zu0;clear zu0;refine cD.mark (ph:=.w3) trivial rfl (λeU s=>zb0 .write aN rfl rfl rS rfl H.f_raceWrite (x_raceWrite_n L) (x_raceWrite_b L) (x_raceWrite_x L) (x_raceWrite_f L) (ad:=⟨Wg,1,none⟩) (by simp[wZ])) ⟨rfl,rfl⟩ (λeU s=>?_);replace hF:=kf.rely hF s;clear s;rw[show oK 1 #[oQ (.write ⟨Wg,1,none⟩)]=1 from rfl]
   walk_nrm
   refine cD.goes (ph:=.w3) trivial 70 ?_
   iterate 23 (first|u_c dJ kf.rely hF|u_c dY kf.rely hF|u_reg kf.rely hF|u_c p8 kf.rely hF|u_cond false kf.rely hF|u_op kf.rely hF|u_skip kf.rely hF)
   refine qU (λzeB Ba=>?_);replace hF:=kf.rely hF Ba;clear Ba;refine cD.mk rfl (.inr ⟨rfl,λJ7 s=>?_⟩);replace hF:=kf.rely hF s;clear s;refine⟨λ⟨st,hw⟩=>stepG_semacquire_wait rfl rfl rfl H.f_semacquire (ztY L) (ztc L) (zot L) (zvx L) zmZ hw.cellSm,λhf=>?_⟩;refine⟨_,(stepG_semacquire (n:=1) rfl rfl rS rfl H.f_semacquire (ztY L) (ztc L) (zot L) (zvx L) zmZ hf.cellSm rS (hf.thaw 1)).trans Lz,rfl,?_⟩;refine cD.goes (ph:=.w4) trivial 60 ?_;replace hF:F (J7.setCell (smA Wg) (.int .u32 0))/\WgLive L.tWg Wg (J7.setCell (smA Wg) (.int .u32 0)):=⟨kf.wg _ _ _ rfl hF.1,⟨_,_,hf.setSm 0⟩⟩;clear hf
   walk_nrm
   iterate 6 (first|u_c dJ kf.rely hF|u_c dY kf.rely hF|u_reg kf.rely hF|u_op kf.rely hF)
   u_call H.f_uLoad (zni L) uLoadFn kf.rely hF
   iterate 9 (first|u_c dJ kf.rely hF|u_c dY kf.rely hF|u_reg kf.rely hF|u_op kf.rely hF)
   refine qU (λzeB zf7=>?_);replace hF:=kf.rely hF zf7;clear zf7;refine cD.mk rfl (.inr λRr s hw=>?_);replace hF:=kf.rely hF s;clear s;refine⟨_,zfc (v:=0) rfl rfl rS rfl H.f_loadU64 (zgl L) (zfm L) (zeo L) .u64 (zeW L) rfl hw.cellSt,rfl,?_⟩;clear hw;refine cD.goes (ph:=.w5) trivial 60 ?_
   walk_nrm
   iterate 3 (first|u_c dJ kf.rely hF|u_c x4 kf.rely hF|u_op kf.rely hF)
   u_leave1 H.f_uLoad kf.rely hF
   iterate 7 (first|u_c dJ kf.rely hF|u_c dY kf.rely hF|u_reg kf.rely hF|u_cond true kf.rely hF|u_op kf.rely hF)
   refine qU (λzde Jm=>?_);replace hF:=kf.rely hF Jm;clear Jm;refine cD.mark (ph:=.w5) trivial rfl (λeU s=>za5 .enable aN rfl rfl rS rfl H.f_enable (zhf L) (zeq L) (zgw L) (zfB L)) trivial (λeU s=>?_);replace hF:=kf.rely hF s;clear s;rw[show oK 1 #[oQ .enable]=0 from rfl];refine cD.goes (ph:=.w5) trivial 30 ?_
   walk_nrm
   iterate 3 (first|u_c dJ kf.rely hF|u_reg kf.rely hF|u_op kf.rely hF)
   u_conv H.underlying_tWgP H.room_tWg (WgLive.cell0 hF.2).choose_spec kf.rely hF
   refine qU (λzBX zbA=>?_);replace hF:=kf.rely hF zbA;clear zbA;refine cD.mk rfl (.inr ⟨rfl,λU5 s hD=>?_⟩);replace hF:=kf.rely hF s;clear s;have hX:AtX U5 U5:=⟨U5.drawn,rfl⟩;refine⟨_,zb0 .acquire aN rfl rfl rS rfl H.f_acquire (x_acquire_n L) (x_acquire_b L) (x_acquire_x L) (x_acquire_f L) zmW,rfl,?_⟩;refine No 30 _ _ ?_
   walk_nrm
   iterate 9 (first|u_c dJ yF hX|u_c dY yF hX|u_reg yF hX|u_c p8 yF hX|u_cond false yF hX|u_c x4 yF hX|u_op yF hX)
   u_leave0 H.f_wait yF hX
   exact qU (λzz7 h=>by obtain⟨zlo,rfl⟩:=yF hX h;exact hT _ hF.1 hF.2 hD zlo)
  .
   refine⟨_,stepG_cas_miss (v:=(v':Int)*KK) (old:=S) (n:=S+1) rfl rfl rS rfl H.f_casU64 (x_casU64_n L) (x_casU64_b L) (x_casU64_x L) .u64 (x_casU64_f L) rfl rfl rfl hw.cellSt (hw.thaw 0) (by rw[<-hS];simp only[KK];omega),rfl,?_⟩;clear hw;refine cD.goes (ph:=.w1 v) trivial 20 ?_
   walk_nrm
   iterate 3 (first|u_c dJ kf.rely hF|u_c x4 kf.rely hF|u_op kf.rely hF)
   u_leave1 H.f_uCas kf.rely hF
   iterate 5 (first|u_c dJ kf.rely hF|u_c p8 kf.rely hF|u_cond false kf.rely hF|u_c zmD kf.rely hF|u_c znc kf.rely hF)
   exact qU (λJ7 Ba=>hC v bS _ _ ⟨_,rfl,aN,aN,kf.rely hF Ba⟩)
theorem zBE (H:Vq P L)(kf:H0 L.tWg Wg τ F)(No:∀(n:Nat) g w,Goes P true AtRel DC0 Fin n g w->Fin g w)
 (hT:∀w,F w->WgLive L.tWg Wg w->zco A w->∀d,Fin (G (b₀.at (a₀.put ((ops₀[i₀]?).bind (·.dst)) (.tuple #[])) (.inRegion ops₀ rest₀::k₀)) cs) (w.at d)):
 ∀b g w,AnchWN L F Wg (b₀.at a₀ (.inRegion ops₀ (i₀::rest₀)::k₀)) cs g w->cD P L.tWg Wg A Fin true (.w1 b) 1 τ g w:=by
 intro b
 induction b using zb8 with
 |ind b ih=>exact ztm H kf No hT (ok:=λv=>v<b) trivial (λg w hr h=>cD.mk hr (.inr h)) ih
theorem Rg (H:Vq P L)(rE:A.act l=.wait)(kf:H0 L.tWg Wg τ F)(No:∀(n:Nat) g w,Goes P true AtRel DC0 Fin n g w->Fin g w)
 (hT:∀w,F w->WgLive L.tWg Wg w->zco A w->∀d,Fin (G (b₀.at (a₀.put ((ops₀[i₀]?).bind (·.dst)) (.tuple #[])) (.inRegion ops₀ rest₀::k₀)) cs) (w.at d))
 (w:aE) (hF:F w/\WgLive L.tWg Wg w):cD P L.tWg Wg A Fin true (.usr l) 0 τ (G ((base L.wait).at ⟨#[.pointer (some ⟨Wg,0,none⟩),aA,aA,aA,aA,aA,aA,aA,aA,aA,aA,aA,aA,aA,aA,aA,aA,aA,aA,aA,aA,aA,aA,aA,aA,aA,aA,aA,aA,aA,aA,aA,aA,aA,aA,aA,aA,aA,aA,aA,aA,aA,aA,aA,aA,aA,aA,aA,aA,aA,aA,aA,aA,aA,aA,aA,aA,aA,aA,aA,aA,aA,aA,aA,aA,aA,aA,aA,aA,aA,aA,aA,aA,aA,aA,aA,aA,aA,aA,aA,aA,aA,aA,aA],[]⟩ [.code (Tx L)]) (b₀.at a₀ (.inRegion ops₀ (i₀::rest₀)::k₀)::cs)) w:=by
 have aY:∀g w,AnchWN L F Wg (b₀.at a₀ (.inRegion ops₀ (i₀::rest₀)::k₀)) cs g w->cD P L.tWg Wg A Fin true (.usr l) 1 τ g w:=λg w h=>by
  refine ztm H kf No hT (ok:=λ_=>True) (ph:=.usr l) trivial (λg w hr h=>cD.usr hr ?_) (λv _=>zBE H kf No hT v) g w h;unfold mY;rw[rE];exact λaJ s v hv hw=>h aJ s v trivial hv hw
 lib_facts
 simp only[Tx,waitFn,Br];refine cD.goes (ph:=.usr l) trivial 3 ?_
 iterate 3 (first|u_c dY kf.rely hF|u_reg kf.rely hF|u_cond true kf.rely hF)
 refine qU (λaJ wM=>?_);replace hF:=kf.rely hF wM;clear wM;refine cD.mark (ph:=.usr l) trivial rfl (λeU s=>za5 .disable aN rfl rfl rS rfl H.f_disable (zin L) (zjp L) (zmq L) (zmG L)) trivial (λeU s=>?_);replace hF:=kf.rely hF s;clear s;rw[show oK 0 #[oQ .disable]=1 from rfl]
 walk_nrm
 refine cD.goes (ph:=.usr l) trivial 3 ?_
 iterate 3 (first|u_c dJ kf.rely hF|u_c ze5 kf.rely hF|u_c zmx kf.rely hF)
 exact qU (λJ7 Sa=>aY _ _ ⟨_,rfl,aN,aN,kf.rely hF Sa⟩)
end
end Go.Mt
namespace Go.Mt
open Go.Conc Go.Tt
def Iz:Nat->aF->Bool
 |0,_=>false
 |n+1,v=>match v with
  | .bool _| .int _ _| .string _| .nilFunc| .nilIface| .pointer none| .slice none _ _| .map none| .chan none=>true
  | .agg xs| .tuple xs=>xs.all (Iz n)
  |_=>false
variable {S:aQ->Prop}
theorem zzL {K R:Pr}:∀(n:Nat) (v:aF),Iz n v=true->VR S K R v v:=by
 intro n
 induction n with
 |zero=>intro v h;cases h
 |succ n ih=>
  intro v h;have arr:∀xs:Array aF,xs.all (Iz n)=true->bM S K R xs xs:=λxs hx=>⟨rfl,λi a b h1 h2=>by
   rw[h1] at h2;obtain rfl:=cO h2;rw[zmN] at hx;exact ih a (hx a (za6 h1))⟩
  cases v with
  |bool b=>exact .bool b
  |int k m=>exact .int k m
  |string s=>exact .string s
  |nilFunc=>exact .nilFunc
  |nilIface=>exact .nilIface
  |pointer a=>cases a with|none=>exact .pointer .none|some a=>simp[Iz] at h
  |slice a m c=>cases a with|none=>exact .slice .none|some a=>simp[Iz] at h
  |map a=>cases a with|none=>exact .map .none|some a=>simp[Iz] at h
  |chan a=>cases a with|none=>exact .chan .none|some a=>simp[Iz] at h
  |agg xs=>exact .agg rfl (arr xs (by simpa[Iz] using h)).2
  |tuple xs=>exact .tuple rfl (arr xs (by simpa[Iz] using h)).2
  |_=>simp[Iz] at h
def uW (v:aF):Prop:=∀(S:aQ->Prop) (K R:Pr),VR S K R v v
variable {z:aF}
theorem uW.cells (h:uW z):∀x∈z.cells,uW x:=λx hx S K R=>by
 obtain⟨i,hi,rfl⟩:=Array.mem_iff_getElem.1 hx;exact(h S K R).cells.2 i _ _ (pS hi) (pS hi)
theorem uW.agg {xs:Array aF}(h:∀x∈xs,uW x):uW (.agg xs):=λS K R=>.agg rfl λi v v' h1 h2=>by
 rw[h1] at h2;obtain rfl:=cO h2;exact h v (za6 h1) S K R
def zk0 (info:aM->Option wE):Prop:=∀t i z,info t=some i->i.zero=some z->uW z
theorem zyA {α β:Type}{P:β->Prop}{f:α->β->Option (ForInStep β)}(hf:∀a b r,P b->f a b=some r->P (match r with| .yield b=>b| .done b=>b)):∀(l:List α) (b b':β),P b->forIn l b f=some b'->P b':=by
 intro l
 induction l with
 |nil=>simp
 |cons a l ih=>
  intro b b' hb h;simp only[List.forIn_cons,bind,D3] at h;obtain⟨r,h1,h2⟩:=h;have:=hf a b r hb h1
  cases r with
  |yield c=>grind
  |done c=>simp_all
variable {info:aM->Option wE}{fs:Array Field}{i:wE}
theorem zDr (hI:zk0 info)(h:zxG info fs=some i)(hz:i.zero=some z):uW z:=by
 unfold zxG at h;simp only[bind,pure,D3] at h;obtain⟨a,h1,h2⟩:=h;rw[<-Array.forIn_toList] at h1;have key:∀xs,a.2.2.2.2.2.2.2.1=some xs->∀x∈xs,uW x:=by
  refine zyA (P:=λs=>∀xs,s.2.2.2.2.2.2.2.1=some xs->∀x∈xs,uW x) (λf s r hP h=>?_) _ _ _ (λxs hx=>by simp only[jP] at hx;subst hx;simp) h1;simp only[D3] at h;obtain⟨j,hj,h⟩:=h;have key:∀xs,(s.2.2.2.2.2.2.2.1.bind λa=>j.zero.bind λb=>some (a++b.cells))=some xs->∀x∈xs,uW x:=by
   intro xs hx;simp only[D3,jP] at hx;obtain⟨u,h3,v,h4,rfl⟩:=hx;intro x hm;rcases Array.mem_append.1 hm with hm|hm
   .exact hP u h3 x hm
   .exact(hI _ j v hj h4).cells x hm
  repeat' (first|split at h|(simp only[D3] at h;obtain⟨_,h0,h⟩:=h))
  all_goals first
   |(cases h0;done)
   |(simp only[jP] at h;subst h;exact key)
   |(simp only[jP] at h;subst h;intro xs hx;cases hx)
 split at h2<;>(simp only[jP] at h2;subst h2;simp only at hz;obtain⟨xs,h3,rfl⟩:=zR.1 hz;exact uW.agg (key xs h3))
theorem zAt (hI:zk0 info){d:TypeDesc}(h:zxT info d=some i)(hz:i.zero=some z):uW z:=by
 have hw:∀(d:TypeDesc) (s:String) (v:aF) (b:Bool) (n:Nat),uW v->∀z,(zqM d s v b n).zero=some z->uW z:=λd s v b n hv z hz=>by
  simp only[zqM,jP] at hz;exact hz▸hv
 have p0:uW (.pointer none):=λ_ _ _=>.pointer .none;have s0:uW (.slice none 0 0):=λ_ _ _=>.slice .none;have m0:uW (.map none):=λ_ _ _=>.map .none;have c0:uW (.chan none):=λ_ _ _=>.chan .none;have f0:uW .nilFunc:=λ_ _ _=>.nilFunc;unfold zxT at h
 cases d with
 |pointer e=>
  simp only[bind,pure,D3] at h;obtain⟨j,_,h⟩:=h;split at h
  .cases h
  .split at h
   .cases h
   .simp only[D3,jP] at h
    obtain⟨_,_,rfl⟩:=h;exact hw _ _ _ _ _ p0 z hz
  .simp only[D3,jP] at h
   obtain⟨_,_,rfl⟩:=h;exact hw _ _ _ _ _ p0 z hz
 |slice e=>
  simp only[bind,pure,D3,jP] at h;obtain⟨_,_,_,_,rfl⟩:=h;exact hw _ _ _ _ _ s0 z hz
 |map k e=>
  simp only[bind,pure,D3,jP] at h;obtain⟨_,_,_,_,_,_,_,_,rfl⟩:=h;exact hw _ _ _ _ _ m0 z hz
 |chan dir e=>
  simp only[bind,pure,D3,jP] at h;obtain⟨_,_,_,_,rfl⟩:=h;exact hw _ _ _ _ _ c0 z hz
 |func ps rs v=>
  simp only[bind,pure,D3,jP] at h;obtain⟨_,_,rfl⟩:=h;exact hw _ _ _ _ _ f0 z hz
 |array n e=>
  simp only[bind,pure,D3,jP] at h;obtain⟨j,hj,_,_,rfl⟩:=h;simp only at hz;split at hz
  .cases hz
  .split at hz
   .simp only[jP] at hz;subst hz;exact uW.agg aN
   .obtain⟨u,hu,rfl⟩:=zR.1 hz
    refine uW.agg λx hx=>?_;simp only[Array.mem_flatten,Array.mem_replicate] at hx;obtain⟨xs,⟨_,rfl⟩,hx⟩:=hx;exact(hI _ j u hj hu).cells x hx
 |struct fs=>exact zDr hI h hz
 |_=>cases h
def Sy (p:bZ):Bool:=(iQ p.types.size).all λt=>match p.info? t with|some i=>(match i.zero with|some z=>Iz 12 z|none=>true)|none=>true
def zj2:List ResultVar->Bool
 |[]=>true
 |[_]=>true
 |[_,_]=>true
 |[_,_,_]=>true
 |[_,_,_,_]=>true
 |_=>false
variable {l:List ResultVar}
theorem zGr (h:zj2 l=true):Gr l:=by
 unfold zj2 at h;split at h
 .exact .inl rfl
 .exact .inr (.inl ⟨_,rfl⟩)
 .exact .inr (.inr (.inl ⟨_,_,rfl⟩))
 .exact .inr (.inr (.inr (.inl ⟨_,_,_,rfl⟩)))
 .exact .inr (.inr (.inr (.inr ⟨_,_,_,_,rfl⟩)))
 .cases h
def fnFit (p:bZ)(fs gs:aQ->Bool)(f:aQ):Bool:=
 match p.funcs[f]? with
 |some fn=>!(fn.name== "runtime.NumGoroutine")&&zj2 fn.results.toList&&(match fn.body with|some c=>pX p ⟨fs,gs,true⟩ c|none=>false)
 |none=>false
variable {p:bZ}{f:aQ}
theorem fnFit_ok {fs gs:aQ->Bool}(h:fnFit p fs gs f=true):∃fn c,p.funcs[f]? =some fn/\(fn.name== "runtime.NumGoroutine")=false/\fn.body=some c/\pX p ⟨fs,gs,true⟩ c=true/\Gr fn.results.toList:=by
 unfold fnFit at h
 cases hf:p.funcs[f]? with
 |none=>simp_all
 |some fn=>
  rw[hf] at h;simp only[jF,zp5] at h
  cases hb:fn.body with
  |none=>simp_all
  |some c=>rw[hb] at h;exact⟨fn,c,rfl,h.1.1,hb,h.2,zGr h.1.2⟩
variable {t:aM}
theorem zxs (h:Sy p=true)(ht:t<p.types.size)(hi:p.types[t]? =some i)(hz:i.zero=some z):uW z:=by
 unfold Sy at h;rw[wN] at h;have:=h t (El.2 ht);have e:p.info? t=some i:=by show zj8 p.toTables t=some i;unfold zj8;rw[if_pos ht];exact hi
 rw[e] at this;simp only[hz] at this;exact λS K R=>zzL 12 z this
theorem zAr (h:Sy p=true):∀n,zk0 (zp7 p.toTables n):=by
 intro n
 induction n with
 |zero=>intro t i z hi;cases hi
 |succ n ih=>
  intro t i z hi hz;unfold zp7 at hi;split at hi
  .next ht=>exact zxs h ht hi hz
  .obtain⟨d,_,hd⟩:=D3.1 hi
   exact zAt ih hd hz
theorem zpJ (h:Sy p=true){K R:Pr}(hi:p.info? t=some i)(hz:i.zero=some z):VR S K R z z:=by
 have lU:=hi;unfold zj8 at lU;split at lU
 .next ht=>exact zxs h ht lU hz S K R
 .exact zAr h Made.depth t i z lU hz S K R
def nL (l:List Nat)(f:aQ):Bool:=l.contains f
theorem Pm {l:List Nat}(h:nL l f=true):f∈l:=by simpa[nL] using h
theorem zxU {gl fl:List Nat}(hz:Sy p=true)(h:gl.all (fnFit p (nL fl) (nL gl))=true)(hd:fl.all (λf=>gl.contains f)=true):wC (PS p (nL gl)) (nL fl) where
 zero:=λK R t i z hi It=>zpJ hz hi It
 fn:=λf hf _=>by
  obtain⟨fn,c,h1,h2,h3,h4,_⟩:=fnFit_ok (wN.1 h f (Pm hf));exact⟨fn,c,h1,h1,h2,h3,h4⟩
 opq:=λf _ ho=>by cases ho
 low:=λf ho=>by cases ho
 dyn:=λ_ f hf=>wN.1 hd f (Pm hf)
 guard:=λt=>rfl
 res:=λf hf _ fn Ka=>by
  obtain⟨fn',c,h1,h2,h3,h4,h5⟩:=fnFit_ok (wN.1 h f (Pm hf));have Dm:=h1;rw[Dm] at Ka;obtain rfl:=cO Ka;exact h5
 follows:=rfl
 none:=λ_=>rfl
def zf0 (p:bZ)(fs gs:aQ->Bool)(f:aQ):Bool:=
 match p.funcs[f]? with
 |some fn=>!(fn.name== "runtime.NumGoroutine")&&(match fn.body with|some c=>!(pX p ⟨fs,gs,true⟩ c)|none=>false)
 |none=>false
theorem lv_of {ol al gl fl:List Nat}(hz:Sy p=true)(h1:gl.all (fnFit p (nL fl) (nL gl))=true)(h2:al.all (λf=>ol.contains f||fnFit p (nL fl) (nL al) f)=true)(h3:ol.all (zf0 p (nL fl) (nL gl))=true)(h4:ol.all (zf0 p (nL fl) (nL al))=true)(hd:fl.all (λf=>gl.contains f)=true)(Bv:fl.all (λf=>al.contains f)=true):
 Lv p (nL ol) (nL al) (nL gl) (nL fl) where
 fit:={
  zero:=λK R t i z hi It=>zpJ hz hi It
  fn:=λf hf ho=>by
   have:=wN.1 h2 f (Pm hf);have zX:ol.contains f=false:=ho;rw[zX,zr1] at this;obtain⟨fn,c,h1,h2,h3,h4,_⟩:=fnFit_ok this;exact⟨fn,c,h1,h1,h2,h3,h4⟩
  opq:=λf _ ho=>by
   have:=wN.1 h4 f (Pm ho);unfold zf0 at this
   cases hf:p.funcs[f]? with
   |none=>simp_all
   |some fn=>grind
  low:=λf ho=>by cases ho
  dyn:=λ_ f hf=>wN.1 Bv f (Pm hf)
  guard:=λt=>rfl
  res:=λf hf ho fn Ka=>by
   have:=wN.1 h2 f (Pm hf);have zX:ol.contains f=false:=ho;rw[zX,zr1] at this;obtain⟨fn',c,h1,h2,h3,h4,h5⟩:=fnFit_ok this;have Dm:(PL p (nL ol) (nL al)).c.funcs[f]? =some fn':=h1;rw[Dm] at Ka;obtain rfl:=cO Ka;exact h5
  follows:=rfl}
 fit₁:=zxU hz h1 hd
 nofit:=λf ho=>by
  have:=wN.1 h3 f (Pm ho);unfold zf0 at this
  cases hf:p.funcs[f]? with
  |none=>simp_all
  |some fn=>grind
end Go.Mt
namespace Go.Mt
open Go.Conc Go.Tt
open Go.ConcR (KK wgBlock WgAt stA smA rd wr DC0)
section
variable {p:bZ}
def wV (p:bZ):Frame:={(default:dR) with fn:=p.funcs.size,defers:=[],mode:=.panicking [goexitEntry]}
variable {f:aQ}{fn:Func}
theorem zoq {c:Code}{cap args:Array aF}(hf:p.funcs[f]? =some fn)(hn:(fn.name== "runtime.NumGoroutine")=false)(hb:fn.body=some c)(w:aE):
 stepG p false (born p {target:=.fn (.func f) cap,args:=args}) w=.go (G ((baseD f).at ⟨(args++cap)++oJ (fn.ntmps-(args++cap).size) aA,[]⟩ [.code c]) [wV p]) w #[]:=by
 have vL:¬fn.name= "runtime.NumGoroutine" :=by simpa using hn
 simp[born,stepG,unwind,callDeferred,invoke,callFunc,hf,vL,hb,seen,Cg,G,Hm,dR.at,baseD,wV]
theorem zHK (hf:p.funcs[f]? =some fn)(hr:fn.results=#[])(T:Array aF)(todo:List dX):QuitsD p 2 0 (G {(baseD f).at ⟨T,[]⟩ todo with mode:=.returning} [wV p]):=by
 refine zqd (g':=G (wV p) []) rfl (λw=>?_) ?_
 .simp[G,stepG,unwind,doReturn,results,dR.at,baseD,wV,hf,hr,seen,Cg,goexitEntry]
 refine zqd (g':={G (wV p) [] with status:=.finished}) rfl (λw=>?_) ⟨rfl,rfl⟩;simp[G,stepG,unwind,wV,goexitEntry,dR.catches];rfl
end
section
variable [zho]{Lk:zhk}
open Go.Conc.Lib Go.ConcR.Gen
def H0.triv (ty:aM)(Wg:Nat)(τ:cH):H0 ty Wg τ (λ_=>True):=⟨λ_ _ _ _=>trivial,λ_ _ _ _ _=>trivial⟩
end
end Go.Mt
namespace Go.Mt
open Go.Conc Go.Tt
open Go.ConcR (KK wgBlock WgAt stA smA rd wr)
section
variable {S:aQ->Prop}{K K' R R':Pr}{G:Gp}{St St':Nat->Prop}{w W:aE}
def Pr.or_le {K K' R R':Pr}(hK:K.le K')(hR:R.le R'):(R.or K).le (R'.or K'):=λa b x=>x.imp (hR a b) (hK a b)
theorem zjQ (hK:K.le K'){v v':aF}(x:VR S K R v v'):VR S K' R v v':=by
 induction x with
 |bool b=>exact .bool b
 |int k n=>exact .int k n
 |string s=>exact .string s
 |nilFunc=>exact .nilFunc
 |nilIface=>exact .nilIface
 |pointer x=>exact .pointer x
 |slice x=>exact .slice x
 |map x=>exact .map x
 |chan x=>exact .chan (x.mono (Pr.or_le hK (.refl _)))
 |func s e1 _ e2 _ i1 i2=>exact .func s e1 i1 e2 i2
 |iface _ ih=>exact .iface ih
 |agg e _ ih=>exact .agg e ih
 |tuple e _ ih=>exact .tuple e ih
 |junk h=>exact .junk h
def bM.monoK (hK:K.le K'){xs b8:Array aF}(x:bM S K R xs b8):bM S K' R xs b8:=⟨x.1,λi v v' h1 h2=>zjQ hK (x.2 i v v' h1 h2)⟩
theorem Cw.monoK (hK:K.le K'){e e':MapEntry}(x:Cw S K R e e'):Cw S K' R e e':=by cases x with|mk a b=>exact .mk (zjQ hK a) (zjQ hK b)
variable {o:Obj}
theorem oS.monoK (hK:K.le K'){o':Obj}(x:oS S K R o o'):oS S K' R o o':=by
 cases x with
 |cells a b=>exact .cells (bM.monoK hK a) b
 |map a=>exact .map ⟨a.1,λi e e' h1 h2=>Cw.monoK hK (a.2 i e e' h1 h2)⟩
 |chan a=>exact .chan (bM.monoK hK a)
 |stringIter s p=>exact .stringIter s p
 |number a=>exact .number a
 |mapIter a=>exact .mapIter a
variable {P:dM}
def qB.monoK {fs:aQ->Bool}(hK:K.le K'){m m':Fm}(x:qB P fs K R m m'):qB P fs K' R m m':=⟨x.fn,x.todo,x.ret,bM.monoK hK x.tmps,x.fit,x.infs⟩
theorem uS.monoK {fs:aQ->Bool}(hK:K.le K'){ms ms':List Fm}(x:uS P fs K R ms ms'):uS P fs K' R ms ms':=by
 induction x with
 |nil=>exact .nil
 |cons a b _ ih=>exact .cons (qB.monoK hK a) b ih
theorem cV.real {W':aE}(h:cV S K R G St w W)(hk:∀a b,R a b->W'.heap[b]? =W.heap[b]?)(hs:W.heap.size<=W'.heap.size):cV S K R G St w W':=by
 refine⟨h.inj,h.inj',λa b x=>⟨(h.lt a b x).1,jO (h.lt a b x).2 hs⟩,h.low,⟨h.gle.1,eH h.gle.2 hs⟩,λa b x=>?_,h.rest,h.st,h.np,h.tb⟩;obtain⟨o,o',h1,h2,h3⟩:=h.cont a b x
 grind
def put (w:aE)(b:Nat)(o:Obj):World:={w with heap:=w.heap.setIfInBounds b o}
theorem Dd (w:aE)(o:Obj):(w.alloc o).heap[w.heap.size]? =some o:=by unfold zpU;simp
theorem Bt {w:aE}{a:Nat}(h:a<w.heap.size):(w.alloc o).heap[a]? =w.heap[a]? :=by unfold zpU;grind
theorem uD (w:aE)(o:Obj):(w.alloc o).heap.size=w.heap.size+1:=by simp_all
theorem cV.pushK (h:cV S K R G St w W){N:Nat}(hN:N<W.heap.size)(hf:∀a,¬(R.or K) a N):cV S (K.add w.heap.size N) R G St (w.alloc pF) W:=by
 have aS:∀a b,R.or K a b->a≠w.heap.size:=λa b x=>Nat.ne_of_lt (h.lt a b x).1;have lift:∀a,(∃b,R.or K a b)->(w.alloc pF).heap[a]? =w.heap[a]? :=λa ⟨b,x⟩=>Bt (h.lt a b x).1;refine⟨?_,?_,?_,h.low,⟨by rw[uD];exact Nat.le_succ_of_le h.gle.1,h.gle.2⟩,λa b x=>?_,?_,λa x=>?_,h.np.push (by unfold pF;simp),h.tb⟩
 .rintro a b c (x|x|⟨rfl,rfl⟩) (y|y|⟨e,rfl⟩)
  .exact h.inj a b c (.inl x) (.inl y)
  .exact h.inj a b c (.inl x) (.inr y)
  .exact absurd e (aS a b (.inl x))
  .exact h.inj a b c (.inr x) (.inl y)
  .exact h.inj a b c (.inr x) (.inr y)
  .exact absurd e (aS a b (.inr x))
  .exact absurd rfl (aS _ c (.inl y))
  .exact absurd rfl (aS _ c (.inr y))
  .rfl
 .rintro a b c (x|x|⟨rfl,rfl⟩) (y|y|⟨rfl,e⟩)
  .exact h.inj' a b c (.inl x) (.inl y)
  .exact h.inj' a b c (.inl x) (.inr y)
  .exact absurd (e▸ .inl x) (hf a)
  .exact h.inj' a b c (.inr x) (.inl y)
  .exact h.inj' a b c (.inr x) (.inr y)
  .exact absurd (e▸ .inr x) (hf a)
  .exact absurd (.inl y) (hf b)
  .exact absurd (.inr y) (hf b)
  .rfl
 .rintro a b (x|x|⟨rfl,rfl⟩)
  .exact⟨by rw[uD];exact zrS (h.lt a b (.inl x)).1,(h.lt a b (.inl x)).2⟩
  .exact⟨by rw[uD];exact zrS (h.lt a b (.inr x)).1,(h.lt a b (.inr x)).2⟩
  simp_all
 .obtain⟨o,o',h1,h2,h3⟩:=h.cont a b x
  exact⟨o,o',(lift a ⟨b,.inl x⟩).trans h1,h2,oS.monoK (Pr.le_add _ _ _) h3⟩
 .rintro a b (x|⟨rfl,rfl⟩) hn
  .exact(lift a ⟨b,.inr x⟩).trans (h.rest a b x hn)
  .exact Dd w pF
 .obtain⟨⟨b,y⟩,c,T,hi,h1,h2⟩:=h.st a x
  exact⟨⟨b,y⟩,c,T,hi,(lift a ⟨b,.inl y⟩).trans h1,h2⟩
end
structure IM (W0:aE)(St:Nat->Prop)(Shun:Loc->Prop)(Wg:Nat)(SS:Nat->Prop)(R:Pr)(τ:cH)(W:aE):Prop where
 kp:Kp W0 R St W
 sh:Sh W0.heap.size Shun R W
 still:τ.still=SS
 wg:Wg<W.heap.size
 own:∀b,τ.own b->b≠Wg
 rel:∀a b,R a b->b≠Wg
section
variable {L:Type}{C:Cx L}{W0:aE}{St:Nat->Prop}{Shun:Loc->Prop}{SS:Nat->Prop}
theorem im_ok (hC:C.I=IM W0 St Shun C.Wg SS)(aY:∀a,St a->C.St a)(vV:∀b,b<W0.heap.size->SS b):fD C:=by
 refine⟨λR τ W aX h s=>?_,λR τ W R1 W1 h ht hs=>?_⟩<;>rw[hC] at*
 .refine⟨⟨s.os.trans h.kp.os,s.tape.trans h.kp.tape,s.output.trans h.kp.output,eH h.kp.size s.size,λb hb=>(s.keep b (.inr (by rw[h.still];exact vV b hb))).trans (h.kp.block b hb),h.kp.old⟩,⟨h.sh.old,h.sh.rel,λl b hl hb=>h.sh.new l b hl (eH s.size hb)⟩,h.still,jO h.wg s.size,h.own,h.rel⟩
 .refine⟨⟨hs.os.trans h.kp.os,hs.tape.trans h.kp.tape,hs.output.trans h.kp.output,eH h.kp.size hs.size,λb hb=>?_,λa b x hb=>?_⟩,⟨h.sh.old,λa b x l hl=>?_,λl b hl hb=>h.sh.new l b hl (eH hs.size hb)⟩,h.still,jO h.wg hs.size,λb hb=>?_,λa b x=>?_⟩
  .rw[hs.keep b (jO hb h.kp.size) (λa x=>aY a (h.kp.old a b x hb))]
   exact h.kp.block b hb
  .rcases hs.new a b x with y|⟨y,_⟩
   .exact h.kp.old a b y hb
   .have:=h.kp.size;omega
  .rcases hs.new a b x with y|⟨y,_⟩
   .exact h.sh.rel a b y l hl
   .exact h.sh.new l b hl y
  .rcases hb with hb|⟨hb,_⟩
   .exact h.own b hb
   .have:=h.wg;omega
  .rcases hs.new a b x with y|⟨y,_⟩
   .exact h.rel a b y
   .have:=h.wg;omega
def zbz (W:aE)(a:Addr)(v:aF){b:Nat}(h:b≠a.block):(W.setCell a v).heap[b]? =W.heap[b]? :=(Z1 W a v).block b h
def Rn (W:aE)(a:Addr)(v:aF):(W.setCell a v).heap.size=W.heap.size:=(Z1 W a v).size
theorem IM.cell {R:Pr}{τ:cH}{W:aE}{Wg:Nat}(h:IM W0 St Shun Wg SS R τ W)(hW:W0.heap.size<=Wg){a:Addr}(ha:a.block=Wg)(v:aF):IM W0 St Shun Wg SS R τ (W.setCell a v):=by
 have hA:=Z1 W a v;refine⟨⟨hA.os.trans h.kp.os,hA.tape.trans h.kp.tape,hA.output.trans h.kp.output,by rw[Rn];exact h.kp.size,λb hb=>(zbz W a v aC).trans (h.kp.block b hb),h.kp.old⟩,⟨h.sh.old,h.sh.rel,λl b hl hb=>h.sh.new l b hl tD⟩,h.still,by rw[Rn];exact h.wg,h.own,h.rel⟩
end
end Go.Mt
namespace Go.Mt
open Go.Conc Go.Tt
open Go.ConcR (KK wgBlock WgAt stA smA rd wr DC0)
section
variable {L:Type}{C:Cx L}{l:L}
variable {fn:aQ}{tmps:Array aF}{k:List dX}{w:aE}{ops:Array aZ}
theorem BO.regs (hI:fD C){id:Nat}(is:List Nat)(hr:iQ ops.size=is)(h:BO C l ⟨fn,tmps,.inRegion ops is::k,false⟩ w):BO C l ⟨fn,tmps,.code (.region id ops false)::k,false⟩ w:=BO.reg hI (by rw[hr];exact h)
def Cx.dfr (C:Cx L)(d:Gg):Cx L:={C with ds:=⟨d::C.ds.ds,C.ds.kd,C.ds.ok⟩}
def fD.dfr (hI:fD C)(d:Gg):fD (C.dfr d):=⟨hI.suf,hI.step⟩
variable {p:bZ}{i:Nat}{rest:List Nat}{o:aZ}{d:Gg}
theorem zzb {main:Bool}{b:dR}{a:vN}{cs:List dR}(ho:ops[i]? =some o)(hw:dE o (dH ops a.tmps)=true)(hk:b.kind≠ .early)(zmT:o.dst=none)
 (hr:(aO a.eval o).run p w=.ok (.defer d) w) (he:(aO a.eval o).events p w #[]=#[]):
 stepG p main (G (b.at a (.inRegion ops (i::rest)::k)) cs) w=.go (G (b.at ⟨a.tmps,d::a.defers⟩ (.inRegion ops rest::k)) cs) w #[]:=by
 have Bd:(b.at ⟨a.tmps,d::a.defers⟩ (.inRegion ops (i::rest)::k)).finish aA=b.at ⟨a.tmps,d::a.defers⟩ (.inRegion ops rest::k):=by rw[zra,ho];simp[zmT,cC]
 have cU:(b.kind==CallKind.early)=false:=by simpa using hk
 rw[stepG_oper ho hw,<-Bd];simp[stepG.apply,hr,he,G,dR.at,cU,Cg,Ax]
theorem BO.defer (hI:fD C)(ho:ops[i]? =some o)(cE:dE o (dH ops tmps)=true)(zmT:o.dst=none)
 (hx:∀R w W bV,C.Rel R w W->bM (SF C.fs) C.K R tmps bV->(∀x∈C.pin,bV.getD x.1 aA=x.2)->∀aX,(aO (bJ bV C.ds.ds).eval o).run C.p aX=.ok (.defer d) aX/\(aO (bJ bV C.ds.ds).eval o).events C.p aX #[]=#[])
 (h:BO (C.dfr d) l ⟨fn,tmps,.inRegion ops rest::k,false⟩ w):BO C l ⟨fn,tmps,.inRegion ops (i::rest)::k,false⟩ w:=by
 intro R W m' τ hw hm ht hi;obtain⟨fn',bV,zB,zJ⟩:=m';obtain rfl:=hm.fn;obtain rfl:=hm.todo;obtain rfl:=hm.ret;rw[mX];refine Cx.silent rfl rfl (g':=G ((C.ds.base fn).at ⟨bV,d::C.ds.ds⟩ (.inRegion ops rest::k)) C.base) (λaX s=>?_) λaX s=>?_
 .obtain⟨h1,h2⟩:=hx R w W bV hw hm.tmps hm.pins aX
  exact zzb ho (Jr (C:=C) hm.tmps cE) C.ds.ok zmT h1 h2
 .have:=h R aX ⟨fn,bV,.inRegion ops rest::k,false⟩ τ (Cx.Rel.suf (C:=C) hw ht s) ⟨rfl,rfl,rfl,hm.tmps,hm.pins⟩ ht (hI.suf _ _ _ _ hi s)
  rw[mX] at this;exact this
variable {ρ:cK->aF}
theorem zvS {f:aQ}{zvJ:Array cK}{kJ:Array aM}(hop:o.op=.defer {callee:=.value (.func f),args:=zvJ,argTypes:=kJ})(hρ:ρ (.func f)=.func (.func f) #[] #[])(w:aE):
 (aO ρ o).run p w=.ok (.defer (dcall f (zvJ.map ρ))) w/\(aO ρ o).events p w #[]=#[]:=by
 obtain⟨dst,yV,type,pos,after,guard⟩:=o;simp only at hop;subst hop;constructor
 .simp[aO,resolve,Db,hρ,dcall,bind,yN,pure,bL]
 .simp[aO,resolve,Db,hρ,dcall,bind,yN,pure,bL,xI,B8]
variable {Post:aF->aE->Prop}
theorem zDM {Shun:Loc->Prop}:∀(n:Nat) (g:bD) (w:aE),Goes p true AtRel DC0 (λg w=>J p Post Shun w.heap.size g w) n g w->J p Post Shun w.heap.size g w:=by
 intro n
 induction n with
 |zero=>exact λg w h=>by have:=h w ⟨w.drawn,rfl⟩;exact this
 |succ n ih=>
  intro g w h;rcases h with h|⟨hs,h⟩
  .have:=h w ⟨w.drawn,rfl⟩;exact this
  .refine J.own hs λd=>?_
   obtain⟨za0,w',es,hgo,⟨e1,e2⟩,hg⟩:=zjY (h (w.at d) ⟨d,rfl⟩);subst e1 e2;exact⟨za0,_,#[],_,hgo,λe he=>by simp at he,bF _,ih _ _ hg⟩
theorem zaZ {t:aM}{x:cK}{a:Addr}{v:aF}(hop:o.op=.load t x)(hx:ρ x=.pointer (some a))(zEI:(isAgg t).run p w=.ok false w)(hc:w.cell? a=some v):(aO ρ o).run p w=.ok (.value v) w:=by
 obtain⟨dst,yV,type,pos,after,guard⟩:=o;simp only at hop;subst hop;simp[aO,Instr.loadAt,hx,go_sem,loadVar,zEI,hc]
end
variable {p:bZ}{s:Sem aF}{w':aE}{v:aF}
theorem run_bv {w:aE}(h:s.run p w=.ok v w'):bL p (yN s (λv=>Sem.pure (Next.value v))) w=.ok (.value v) w':=by rw[uR,h];rfl
theorem ev_bv {w:aE}{es eZ:Array Event}(h:s.run p w=.ok v w')(he:s.events p w es=eZ):xI p (yN s (λv=>Sem.pure (Next.value v))) w es=eZ:=by rw[Xr,h,zjE,he];rfl
section
variable {p:bZ}{Post:aF->aE->Prop}{Shun:Loc->Prop}
variable {B:Nat}
theorem J.sil {g g':bD}{w:aE}(hg:g.status=.running)(aY:∀w,stepG p true g w=.go g' w #[])(h:∀d,J p Post Shun B g' (w.at d)):∀d,J p Post Shun B g (w.at d):=λd=>
 J.own hg λd'=>⟨g',w.at d',#[],B,aY _,λe he=>by simp at he,bF _,h d'⟩
def J.opq {b:dR}{a:vN}{ops:Array aZ}{i:Nat}{rest:List Nat}{k:List dX}{cs:List dR}{w w':aE}{o:aZ}{v:aF}(ho:ops[i]? =some o)(hw:dE o (dH ops a.tmps)=true)(hk:b.kind≠ .early)
 (hr:∀d,(aO a.eval o).run p (w.at d)=.ok (.value v) (w'.at d)) (he:∀d,∀e∈(aO a.eval o).events p (w.at d) #[],False)
 (h:∀d,J p Post Shun B (G (b.at (a.put o.dst v) (.inRegion ops rest::k)) cs) (w'.at d)):∀d,J p Post Shun B (G (b.at a (.inRegion ops (i::rest)::k)) cs) (w.at d):=λd=>
 J.own rfl λd'=>⟨_,w'.at d',wQ p b.fn a o (w.at d'),B,stepG_value ho hw hk (hr d'),λe hx=>(he d' e (zfk hx)).elim,bF _,h d'⟩
end
end Go.Mt
namespace Go.Mt
open Go.Conc Go.Tt
structure Blk where
 rb:Nat
 off:Nat
 cs:Array aF
 T:aM
 fz:Nat×Nat
def Tn (v:aF):Prop:=(∃k n,v=.int k n)\/(∃s,v=.string s)\/∃b,v=.bool b
inductive wG:aF->Prop
 |bool (b:Bool):wG (.bool b)
 |int (k:IntKind) (n:Int):wG (.int k n)
 |string (s:ByteArray):wG (.string s)
 |nilFunc:wG .nilFunc
 |nilIface:wG .nilIface
 |agg {xs:Array aF}:(∀(i:Nat) (v:aF),xs[i]? =some v->wG v)->wG (.agg xs)
 |tuple {xs:Array aF}:(∀(i:Nat) (v:aF),xs[i]? =some v->wG v)->wG (.tuple xs)
def thaw (w:aE):Option Blk->aE
 |none=>w
 |some b=>put w b.rb (.cells b.cs b.T b.fz)
section
variable {S:aQ->Prop}{K R:Pr}{G:Gp}{St:Nat->Prop}{w W W4:aE}{A:Option Addr}{src:Option Blk}
abbrev P0:Pr:=λ_ _=>False
def stC (w:aE)(a:Nat):Prop:=a=w.heap.size+1\/a=w.heap.size+2\/a=w.heap.size+3
end
section
variable {L:Type}{C:Cx L}{W0:aE}{St:Nat->Prop}{Shun:Loc->Prop}{SS:Nat->Prop}
structure IMX (W0:aE)(St:Nat->Prop)(Shun:Loc->Prop)(Wg:Nat)(SS:Nat->Prop)(R0:Pr)(Fz:Nat->Prop)(Wf:aE)(R:Pr)(τ:cH)(W:aE):Prop where
 im:IM W0 St Shun Wg SS R τ W
 le:R0.le R
 fz:∀b,Fz b->b<W.heap.size/\W.heap[b]? =Wf.heap[b]? /\¬τ.own b/\b≠Wg
structure IX (ty:aM)(Wg:Nat)(I:Pr->cH->aE->Prop):Prop where
 suf:∀R τ W aX,I R τ W->bX ty Wg τ W aX->I R τ aX
 cell:∀R τ W a v,I R τ W->a.block=Wg->I R τ (W.setCell a v)
 at_:∀R τ W d,I R τ W->I R τ (W.at d)
 rel:∀R τ W,I R τ W->∀a b,R a b->b≠Wg
def yY (ty:aM)(Wg:Nat)(I:Pr->cH->aE->Prop):Pr->cH->aE->Prop:=λR τ W=>I R τ W/\WgLive ty Wg W
variable {R0:Pr}
theorem zn9 {ty:aM}{W0:aE}{St:Nat->Prop}{Shun:Loc->Prop}{Wg:Nat}{SS:Nat->Prop}{Fz:Nat->Prop}{Wf:aE}(vV:∀b,b<W0.heap.size->SS b)(hF:∀b,Fz b->SS b)(pB:W0.heap.size<=Wg):IX ty Wg (IMX W0 St Shun Wg SS R0 Fz Wf):=by
 refine⟨λR τ W aX h s=>?_,λR τ W a v h ha=>?_,λR τ W d h=>?_,λR τ W h=>h.im.rel⟩
 .have h0:fD (L:=Unit) ⟨default,λ_=>false,λ_=>false,ty,Wg,⟨λ_=>.wait,λ_ _=>True,λ_=>false,λ_=>True,λ_ _=>True,λ_ _=>[]⟩,λ_ _=>True,true,[],.nil,λ_ _=>False,λ_=>True,IM W0 St Shun Wg SS,[],none,λ_ h=>by cases h⟩:=im_ok rfl (λ_ _=>trivial) vV
  refine⟨h0.suf R τ W aX h.im s,h.le,λb hb=>?_⟩;obtain⟨f1,f2,f3,f4⟩:=h.fz b hb;exact⟨jO f1 s.size,(s.keep b (.inr (by rw[h.im.still];exact hF b hb))).trans f2,f3,f4⟩
 .refine⟨IM.cell h.im pB ha v,h.le,λb hb=>?_⟩
  obtain⟨f1,f2,f3,f4⟩:=h.fz b hb;exact⟨by simp_all,(zbz W a v (by rw[ha];exact f4)).trans f2,f3,f4⟩
 .exact⟨⟨⟨h.im.kp.os,h.im.kp.tape,h.im.kp.output,h.im.kp.size,h.im.kp.block,h.im.kp.old⟩,⟨h.im.sh.old,h.im.sh.rel,h.im.sh.new⟩,h.im.still,h.im.wg,h.im.own,h.im.rel⟩,h.le,h.fz⟩
theorem imx_ok {Fz:Nat->Prop}{Wf:aE}(hC:C.I=yY C.ty C.Wg (IMX W0 St Shun C.Wg SS R0 Fz Wf))(aY:∀a,St a->C.St a)(vV:∀b,b<W0.heap.size->SS b)(hF:∀b,Fz b->SS b)(pB:W0.heap.size<=C.Wg):fD C:=by
 have h0:=im_ok (C:={C with I:=IM W0 St Shun C.Wg SS}) rfl aY vV;have hx:=zn9 (ty:=C.ty) (St:=St) (Shun:=Shun) (R0:=R0) (Wf:=Wf) vV hF pB;refine⟨λR τ W aX h s=>?_,λR τ W R1 W1 h ht hs=>?_⟩<;>rw[hC] at*
 .exact⟨hx.suf R τ W aX h.1 s,s.live h.2⟩
 .refine⟨⟨h0.step R τ W R1 W1 h.1.im ht hs,h.1.le.trans hs.le,λb hb=>?_⟩,?_⟩
  .obtain⟨f1,f2,f3,f4⟩:=h.1.fz b hb
   refine⟨jO f1 hs.size,(hs.keep b f1 λa x=>Av λz=>f3 ((ht a _ x).2 z)).trans f2,λe=>e.elim f3 λx=>?_,f4⟩;omega
  .obtain⟨a,b,hl⟩:=h.2
   exact⟨a,b,(hs.keep C.Wg h.1.im.wg λa x=>Av λz=>h.1.im.own _ ((ht a _ x).2 z) rfl).trans hl⟩
end
section
variable {p:bZ}{op gs gs₁ fs:aQ->Bool}{St:Nat->Prop}{W0:aE}{Post:aF->aE->Prop}
theorem JO.callN (L:Lv p op gs gs₁ fs){m:Fm}{ms:List Fm}{w:aE}{ops:Array aZ}{i:Nat}{rest:List Nat}{k:List dX}{o:aZ}{f:aQ}{args:Array cK}{kJ:Array aM}{fn:Func}{c:Code}(hr:m.ret=false)(pT:m.todo=.inRegion ops (i::rest)::k)
 (ho:ops[i]? =some o) (cE:dE o (dH ops m.tmps)=true) (hop:o.op=.call ⟨.value (.func f),args,kJ⟩) (M0:op f=false) (hf:p.funcs[f]? =some fn) (hn:(fn.name== "runtime.NumGoroutine")=false) (hb:fn.body=some c)
 (hJ:JL p op gs fs St W0 Post ⟨f,args.map m.eval++oJ (fn.ntmps-(args.map m.eval).size) aA,[.code c],false⟩ (m::ms) w):JL p op gs fs St W0 Post m ms w:=by
 have Eg:Ea p f (args.map m.eval)=⟨f,args.map m.eval++oJ (fn.ntmps-(args.map m.eval).size) aA,[.code c],false⟩:=by simp[Ea,hf,hb]
 rw[<-Eg] at hJ;refine JO.one L.fit rfl (λe=>by rw[hr] at e;cases e) (λT=>((Ea p f (args.map m.eval),m::ms),Tt.tp w T 0)) (λT=>?_) (λT K R y Tr=>?_) (λT=>hJ.tape T 0)
 .show(fH p m ms).run p _=_
  simp only[fH,hr,iX,if_false,sX,pT,ho,F8,Br,cE,if_true];refine(uR p _ _ _).trans ?_;rw[(zes hop (λg=>rfl) hf hn hb (Tt.tp w T 0)).1];simp only[vR,rH,hf,hb,mE,bL,Eg]
 .obtain⟨f',xs,b8,c,c',rest,N2,h1,h2,h3,h4,_⟩:=Tr.ex
  simp only[Prod.mk.injEq] at h4;have h5:=congrArg Fm.fn h4.1;rw[W9,W9] at h5;simp_all
end
theorem zw0 {S:aQ->Prop}:∀(n:Nat) (v:aF),Ny v<n->∃u,wG u/\(∀K R,VR S K R u v)/\(Tn v->u=v):=by
 intro n
 induction n with
 |zero=>intro v h;omega
 |succ n ih=>
  intro v hv;have hj:∀{v:aF},HidV v->(∀k m,v≠ .int k m)->(∀s,v≠ .string s)->(∀b,v≠ .bool b)->∃u,wG u/\(∀K R,VR S K R u v)/\(Tn v->u=v):=λh h1 h2 h3=>
   ⟨.nilFunc,.nilFunc,λK R=>.junk h,λx=>by
    rcases x with⟨k,m,e⟩|⟨s,e⟩|⟨b,e⟩
    .exact absurd e (h1 _ _)
    .exact absurd e (h2 _)
    .exact absurd e (h3 _)⟩
  have rows:∀xs:Array aF,Ny xs<n->∃us:Array aF,us.size=xs.size/\(∀(i:Nat) (u:aF),us[i]? =some u->wG u)/\∀K R,∀(i:Nat) (u v:aF),us[i]? =some u->xs[i]? =some v->VR S K R u v:=λxs hx=>by
   have hex:∀x,∃u,x∈xs->wG u/\∀K R,VR S K R u x:=λx=>by
    by_cases hm:x∈xs
    .obtain⟨u,h1,h2,_⟩:=ih x (Nat.lt_trans (Array.sizeOf_lt_of_mem hm) hx)
     grind
    simp_all
   refine⟨xs.map λx=>(hex x).choose,aN,λi u h1=>?_,λK R i u v h1 h2=>?_⟩
   .grind
   .grind
  cases v with
  |bool b=>exact⟨_,.bool b,λK R=>.bool b,λ_=>rfl⟩
  |int k m=>exact⟨_,.int k m,λK R=>.int k m,λ_=>rfl⟩
  |string s=>exact⟨_,.string s,λK R=>.string s,λ_=>rfl⟩
  |nilIface=>exact⟨_,.nilIface,λK R=>.nilIface,λ_=>rfl⟩
  |agg xs=>
   obtain⟨us,h1,h3,h2⟩:=rows xs (by simp at hv;omega);exact⟨.agg us,.agg h3,λK R=>.agg h1 (h2 K R),λx=>by rcases x with⟨_,_,e⟩|⟨_,e⟩|⟨_,e⟩<;>cases e⟩
  |tuple xs=>
   obtain⟨us,h1,h3,h2⟩:=rows xs (by simp at hv;omega);exact⟨.tuple us,.tuple h3,λK R=>.tuple h1 (h2 K R),λx=>by rcases x with⟨_,_,e⟩|⟨_,e⟩|⟨_,e⟩<;>cases e⟩
  |_=>exact hj Vt (λ_ _ h=>by cases h) (λ_ h=>by cases h) (λ_ h=>by cases h)
def gv (S:aQ->Prop)(v:aF):Value:=(zw0 (S:=S) (Ny v+1) v (yO _)).choose
def ze1 (S:aQ->Prop)(v:aF):wG (gv S v)/\(∀K R,VR S K R (gv S v) v)/\(Tn v->gv S v=v):=(zw0 (S:=S) (Ny v+1) v (yO _)).choose_spec
def gObj (S:aQ->Prop):Obj->Obj
 | .cells c T fz=>.cells (c.map (gv S)) T (0,max c.size fz.2)
 |_=>pF
def Ei (S:aQ->Prop)(X:Nat->Bool)(W:aE):World:={W with heap:=W.heap.mapIdx λi o=>if X i=true then gObj S o else pF}
def R0 (X:Nat->Bool):Pr:=λa b=>a=b/\X a=true
def St0 (X:Nat->Bool):Nat->Prop:=λa=>X a=true
section
variable {S:aQ->Prop}{X:Nat->Bool}{W:aE}
theorem zlD:(Ei S X W).heap.size=W.heap.size:=by simp[Ei]
theorem zae {b:Nat}{c:Array aF}{T:aM}{fz:Nat×Nat}(hb:W.heap[b]? =some (.cells c T fz))(hx:X b=true):(Ei S X W).heap[b]? =some (.cells (c.map (gv S)) T (0,max c.size fz.2)):=by
 simp[Ei,My,hb,hx,gObj]
theorem zG9:Ct (Ei S X W):=by
 intro b c e h;simp only[Ei,My,zR] at h;obtain⟨o,_,h⟩:=h;split at h
 .cases o<;>simp[gObj,pF] at h
 .simp[pF] at h
theorem zzI {G:Gp}(hX:∀b,X b=true->∃c T fz,W.heap[b]? =some (.cells c T fz))(hT:∀g,G.tab g=true->X g=true)(hG:G.n<=W.heap.size):cV S P0 (R0 X) G (St0 X) (Ei S X W) W:=by
 refine⟨?_,?_,?_,?_,⟨by rw[zlD];exact hG,hG⟩,?_,λa b x=>x.elim,?_,zG9,λg hg=>⟨rfl,hT g hg⟩⟩
 .rintro a b c (⟨rfl,_⟩|x) (⟨h1,_⟩|y)
  .exact h1
  .exact y.elim
  .exact x.elim
  .exact x.elim
 .rintro a b c (⟨rfl,_⟩|x) (⟨h1,_⟩|y)
  .exact h1.symm
  .exact y.elim
  .exact x.elim
  .exact x.elim
 .rintro a b (⟨rfl,h⟩|x)
  .obtain⟨c,T,fz,h1⟩:=hX a h
   have:=(eB.1 h1).1;exact⟨by rw[zlD];exact this,this⟩
  .exact x.elim
 .rintro a b ⟨rfl,_⟩
  omega
 .rintro a b ⟨rfl,h⟩
  obtain⟨c,T,fz,h1⟩:=hX a h;refine⟨_,_,zae h1 h,h1,.cells ⟨aN,λi u v h2 h3=>?_⟩ λo ho=>?_⟩
  .rw[Cy,h3] at h2
   simp only[F8,jP] at h2;subst h2;exact(ze1 S v).2.1 _ _
  .unfold Kk at ho⊢
   simp only;omega
 .intro a h
  obtain⟨c,T,fz,h1⟩:=hX a h;exact⟨⟨a,rfl,h⟩,_,T,_,zae h1 h,by grind⟩
theorem zDT {b o:Nat}{v:aF}(hX:∀b,X b=true->∃c T fz,W.heap[b]? =some (.cells c T fz))(hx:X b=true)(hv:W.cell? ⟨b,o,none⟩=some v)(hp:Tn v):(Ei S X W).cell? ⟨b,o,none⟩=some v:=by
 obtain⟨c,T,fz,h1⟩:=hX b hx;have h2:c[o]? =some v:=by
  have:W.cell? ⟨b,o,none⟩=c[o]? :=by simp[lW,h1]
  rw[<-this];exact hv
 have h3:(Ei S X W).cell? ⟨b,o,none⟩=(c.map (gv S))[o]? :=by
  simp only[lW];rw[zae h1 hx];rfl
 rw[h3,Cy,h2];simp only[F8,jP];exact(ze1 S v).2.2 hp
end
theorem zIB {Shun:Loc->Prop}{B:Nat}:Past Shun B #[]:=
 ⟨znU.clean,λi a h=>by simp[touchAt,Trace.act?] at h,znU.over,znU.hears,λop h=>by simp at h⟩
variable {Post:aF->aE->Prop}
theorem J.start {p:bZ}{op gs gs₁ fs:aQ->Bool}(L:Lv p op gs gs₁ fs){f:aQ}{fn:Func}{c:Code}(hg:gs f=true)(M0:op f=false)(hf:p.funcs[f]? =some fn)(hb:fn.body=some c){W:aE}{X:Nat->Bool}{xs args:Array aF}
 (hX:∀b,X b=true->∃c T fz,W.heap[b]? =some (.cells c T fz)) (hT:∀g,Bp p g=true->X g=true) (hG:p.globals.size<=W.heap.size) (Gw:bM (SF fs) P0 (R0 X) xs args)
 (h:JL p op gs fs (St0 X) W Post ⟨f,xs++oJ (fn.ntmps-xs.size) aA,[.code c],false⟩ [] (Ei (SF fs) X W)):Ends p Post (solo (G (Hm p f args .normal) []) W) #[]:=by
 obtain⟨fn',c',g1,g2,g3,g4,g5⟩:=L.fit.fn f hg M0;have Uj:=g2;rw[hf] at Uj;obtain rfl:=cO Uj;rw[hb] at g4;obtain rfl:=cO g4;have hJ:J p Post (λ_=>False) W.heap.size (G (Hm p f args .normal) []) W:=by
  rw[zb4 hf hb];refine h P0 (R0 X) W ⟨f,args++oJ (fn.ntmps-args.size) aA,[.code c],false⟩ [] (λ_=>False) (zzI hX hT hG) ⟨rfl,rfl,rfl,Gw.pad fn.ntmps,λj hj=>?_,⟨fn,fn,hf,hf,rfl,L.fit.res f hg M0 fn hf⟩⟩ .nil ⟨λ_ _ _ _=>id,λ_ _ _ _ _=>id,λ_ _ _ _=>id⟩ ⟨rfl,rfl,rfl,bF _,λ_ _=>rfl,?_⟩
  .simp only[mD,nE,or_false] at hj
   subst hj;exact g5
  .rintro a b ⟨rfl,h⟩ _
   exact h
 rw[solo_eq_crowd];exact hJ #[_] #[] none (λ_=>0) rfl ⟨λi g hi h=>by
  have:=(eB.1 h).1;simp at this;omega,λj _=>rfl⟩ zIB
def I9 (ops:Array aZ):Bool:=
 ((
  iQ ops.size).all λi=>match ops[i]? with
  |some oi=>(oi.after.all λe=>!E8 .any e||decide (e.on<i))&&(match oi.op with| .select .. =>false|_=>true)&&
   ((
    iQ ops.size).all λj=>match ops[j]? with
    |some oj=>(match oj.dst with
     |some d=>(!(oi.looksAt ops).contains d||oi.after.any λe=>E8 .any e&&e.on==j)&&(i==j||oi.dst !=some d)
     |none=>true)
    |none=>true)
  |none=>true)
structure Mh (ops:Array aZ):Prop where
 bk:∀(i:Nat) (oi:aZ),ops[i]? =some oi->∀e∈oi.after,E8 .any e=true->e.on<i
 sel:∀(i:Nat) (oi:aZ),ops[i]? =some oi->∀cs b,oi.op≠ .select cs b
 rd:∀(i j:Nat) (oi oj:aZ) (d:Tmp),ops[i]? =some oi->ops[j]? =some oj->oj.dst=some d->d∈oi.looksAt ops->∃e∈oi.after,E8 .any e=true/\e.on=j
 dst:∀(i j:Nat) (oi oj:aZ) (d:Tmp),ops[i]? =some oi->ops[j]? =some oj->oi.dst=some d->oj.dst=some d->i=j
variable {ops:Array aZ}
theorem Us (h:I9 ops=true):Mh ops:=by
 unfold I9 at h;rw[wN] at h;have lt:∀{i:Nat} {oi:aZ},ops[i]? =some oi->i<ops.size:=λh=>(eB.1 h).1
 have h1:∀(i:Nat) (oi:aZ),ops[i]? =some oi->(oi.after.all λe=>!E8 .any e||decide (e.on<i))=true/\(match oi.op with| .select .. =>false|_=>true)=true/\
  ∀(j:Nat) (oj:aZ),ops[j]? =some oj->∀d,oj.dst=some d->((oi.looksAt ops).contains d=false\/(oi.after.any λe=>E8 .any e&&e.on==j)=true)/\(i=j\/oi.dst≠some d):=by
  intro i oi hi;have:=h i (El.2 (lt hi));rw[hi] at this;simp only[jF] at this;refine⟨this.1.1,this.1.2,λj oj hj d hd=>?_⟩;have h2:=(wN.1 this.2) j (El.2 (lt hj));rw[hj] at h2;simp only[hd,jF,Eu,zp5,beq_iff_eq,bne_iff_ne] at h2;exact h2
 refine⟨λi oi hi e he hb=>?_,λi oi hi cs b e=>?_,λi j oi oj d hi hj hd hl=>?_,λi j oi oj d hi hj h2 h3=>?_⟩
 .have:=(h1 i oi hi).1
  rw[zmN] at this
  grind
 .grind
 .grind
 grind
def dF (ops:Array aZ)(vals:Nat->aF)(t0:Array aF):Array Value:=
 (iQ ops.size).foldl (λt i=>match(ops[i]?).bind (·.dst) with|some d=>t.setIfInBounds d (vals i)|none=>t) t0
section
variable {ops:Array aZ}{vals:Nat->aF}{t0:Array aF}
structure sO (ops:Array aZ)(vals:Nat->aF)(t0:Array aF)(bP:Array Bool)(t:Array aF):Prop where
 size:t.size=t0.size
 got:∀(i:Nat) (o:aZ) (d:Tmp),ops[i]? =some o->o.dst=some d->d<t0.size->bP.getD i false=true->t[d]? =some (vals i)
 old:∀s:Nat,(∀(i:Nat) (o:aZ),ops[i]? =some o->bP.getD i false=true->o.dst≠some s)->t[s]? =t0[s]?
def sO.start (bP:Array Bool)(h:∀i,bP.getD i false=false):sO ops vals t0 bP t0:=
 ⟨rfl,λi o d _ _ _ hl=>tD,λs _=>rfl⟩
theorem sO.step (K:Mh ops){bP:Array Bool}{t:Array aF}(h:sO ops vals t0 bP t){i:Nat}{o:aZ}(hi:ops[i]? =some o)(hz:bP.size=ops.size)(hu:bP.getD i true=false):
 sO ops vals t0 (bP.setIfInBounds i true) (match o.dst with|some d=>t.setIfInBounds d (vals i)|none=>t):=by
 have Hp:i<bP.size:=by rw[hz];exact(eB.1 hi).1
 have Lp:∀j,(bP.setIfInBounds i true).getD j false=if j=i then true else bP.getD j false:=by
  intro j;by_cases e:j=i
  .subst e;simp[Hp]
  .rw[if_neg e];exact Pk false (Ne.symm e)
 cases hd:o.dst with
 |none=>
  refine⟨h.size,λj oj d hj Zn zdR hl=>?_,λs hs=>h.old s λj oj hj hl=>hs j oj hj ?_⟩
  .rw[Lp] at hl
   split at hl
   .simp_all
   .exact h.got j oj d hj Zn zdR hl
  simp_all
 |some d=>
  refine⟨by simp[h.size],λj oj d' hj Zn zdR hl=>?_,λs hs=>?_⟩
  .rw[Lp] at hl
   split at hl
   .next e=>
    subst e;rw[hi] at hj;obtain rfl:=cO hj;rw[hd] at Zn;obtain rfl:=cO Zn;simp[zp4,h.size,zdR]
   .next e=>
    have aU:d≠d':=λe2=>e (K.dst j i oj o d' hj hi Zn (by rw[hd,e2]));simp only[tL aU];exact h.got j oj d' hj Zn zdR hl
  .have aU:d≠s:=λe2=>hs i o hi (by rw[Lp,if_pos rfl]) (by rw[hd,e2])
   simp only[tL aU];exact h.old s λj oj hj hl=>hs j oj hj tD
theorem sO.unique {bP:Array Bool}{t t':Array aF}(h:sO ops vals t0 bP t)(h':sO ops vals t0 bP t'):t=t':=by
 apply zfG;intro s;by_cases hex:∃(i:Nat) (o:aZ),ops[i]? =some o/\bP.getD i false=true/\o.dst=some s
 .obtain⟨i,o,h1,h2,h3⟩:=hex
  by_cases hs:s<t0.size
  .rw[h.got i o s h1 h3 hs h2,h'.got i o s h1 h3 hs h2]
  .rw[N8 (by rw[h.size];omega),N8 (by rw[h'.size];omega)]
 .have hn:∀(i:Nat) (o:aZ),ops[i]? =some o->bP.getD i false=true->o.dst≠some s:=λi o h1 h2 h3=>hex ⟨i,o,h1,h2,h3⟩
  rw[h.old s hn,h'.old s hn]
theorem Si (K:Mh ops):sO ops vals t0 (oJ ops.size true) (dF ops vals t0):=by
 have key:∀n,n<=ops.size->sO ops vals t0 ((Nw ops.size).map (λi=>decide (i<n))) ((iQ n).foldl (λt i=>match(ops[i]?).bind (·.dst) with|some d=>t.setIfInBounds d (vals i)|none=>t) t0):=by
  intro n
  induction n with
  |zero=>intro _;exact sO.start _ λi=>by simp;grind
  |succ n ih=>
   intro hn;have h:=ih aC;obtain⟨o,ho⟩:∃o,ops[n]? =some o:=⟨ops[n],pS aC⟩;have hs:=sO.step K h ho aN (by simp[Array.getElem?_range,show n<ops.size by omega]);rw[List.range_succ,znO];simp only[Oq,List.foldl_nil,ho,uY];have e:((Nw ops.size).map (λi=>decide (i<n))).setIfInBounds n true=(Nw ops.size).map (λi=>decide (i<n+1)):=by
    apply zfG;intro j;rw[zp4];by_cases hj:j<ops.size
    .grind
    .simp_all
   grind
 have:=key ops.size (bF _);have e:(Nw ops.size).map (λi=>decide (i<ops.size))=oJ ops.size true:=by
  apply zfG;intro j;by_cases hj:j<ops.size<;>simp[hj]
 rw[e] at this;exact this
theorem sO.sees (K:Mh ops){bP:Array Bool}{t Tf:Array aF}(h:sO ops vals t0 bP t)(hf:sO ops vals t0 (oJ ops.size true) Tf){i:Nat}{o:aZ}(hi:ops[i]? =some o)(uG:∀e∈o.after,E8 .any e=true->bP.getD e.on false=true):
 ∀s∈o.looksAt ops,t[s]? =Tf[s]? :=by
 intro s hs;by_cases hex:∃(j:Nat) (oj:aZ),ops[j]? =some oj/\oj.dst=some s
 .obtain⟨j,oj,hj,hd⟩:=hex
  obtain⟨e,he,hb,rfl⟩:=K.rd i j o oj s hi hj hd hs;have hl:=uG e he hb;have uU:e.on<ops.size:=(eB.1 hj).1;by_cases hz:s<t0.size
  .rw[h.got _ oj s hj hd hz hl,hf.got _ oj s hj hd hz (by simp[uU])]
  .have It:t0.size<=s:=Nat.le_of_not_lt hz
   rw[N8 (by rw[h.size];exact It),N8 (by rw[hf.size];exact It)]
 .have hn:∀(j:Nat) (oj:aZ),ops[j]? =some oj->oj.dst≠some s:=λj oj hj hd=>hex ⟨j,oj,hj,hd⟩
  rw[h.old s (λj oj hj _=>hn j oj hj),hf.old s (λj oj hj _=>hn j oj hj)]
end
variable {t t':Array aF}
theorem zGH {x:cK}(h:∀s,x=.tmp s->t[s]? =t'[s]?):(bJ t []).eval x=(bJ t' []).eval x:=by
 cases x with
 |tmp s=>
  have:=h s rfl;show t.getD s aA=t'.getD s aA;simp_all
 |_=>rfl
variable {o:aZ}
theorem Fi (hs:∀cs b,o.op≠ .select cs b)(h:∀s∈o.looksAt ops,t[s]? =t'[s]?):aO (bJ t []).eval o=aO (bJ t' []).eval o:=
 execOp_congr o hs λx hx=>zGH λs e=>h s (by
  subst e;exact List.mem_append_left _ (List.mem_filterMap.2 ⟨.tmp s,by simpa using hx,rfl⟩))
theorem Wp (h:∀s∈o.looksAt ops,t[s]? =t'[s]?):dE o (dH ops t)=dE o (dH ops t'):=by
 unfold dE
 cases hg:o.guard with
 |none=>rfl
 |some gw=>
  obtain⟨g,want⟩:=gw;have hy:dH ops t g=dH ops t' g:=by
   unfold dH
   cases ht:(ops[g]?).bind (·.dst) with
   |none=>rfl
   |some s=>
    have:=h s (by simp[aZ.looksAt,hg,ht]);simp_all
  simp only[hy]
section
variable {p:bZ}{op gs gs₁ fs:aQ->Bool}{St:Nat->Prop}{W0:aE}{Post:aF->aE->Prop}
theorem zpv {ops:Array aZ}(K:Mh ops){bP:Array Bool}(hz:bP.size=ops.size)(h:Hz .any ops bP=[]):∀i,i<ops.size->bP.getD i false=true:=by
 intro i
 induction i using zb8 with
 |ind i ih=>
  intro hi;obtain⟨o,ho⟩:∃o,ops[i]? =some o:=⟨ops[i],pS hi⟩
  cases hl:bP.getD i false with
  |true=>rfl
  |false=>
   have hm:i∈Hz .any ops bP:=znz.2 ⟨by
    have Hp:i<bP.size:=aC;simp[Hp] at hl⊢;exact hl,o,ho,λe he hb=>ih e.on (K.bk i o ho e he hb) (by have:=K.bk i o ho e he hb;omega)⟩
   rw[h] at hm;cases hm
end
abbrev xL (Tf:Array aF)(V:Nat->aF):Prop:=∀s,Tf.getD s aA=V s
def Ht (ops:Array aZ)(s:Nat):Bool:=ops.any λo=>o.dst==some s
def valV (V:Nat->aF)(o:aZ):Value:=match o.dst with|some d=>V d|none=>aA
theorem zjf {i:Nat}{d:Tmp}(h:ops[i]? =some o)(hd:o.dst=some d):Ht ops d=true:=by
 unfold Ht
 grind
section
variable {ops:Array aZ}{Tf:Array aF}{V:Nat->aF}{o og:aZ}{j d:Nat}{want b:Bool}
theorem eE (h:o.guard=none){y:Nat->Option Bool}:dE o y=true:=by unfold dE;rw[h]
end
theorem zz6 {n:Nat}(h2:(ops.all λo=>match o.dst with|some d=>decide (d<n)|none=>true)=true):∀s,Ht ops s=true->s<n:=by
 intro s hs;unfold Ht at hs
 grind
def oA {Tf:Array aF}{V:Nat->aF}(hT:xL Tf V){s:Nat}{v:aF}(hv:V s=v):(bJ Tf []).eval (.tmp s)=v:=((hT s).trans hv)
section
variable {p:bZ}{ρ:cK->aF}{o:aZ}{w:aE}
variable {A:Option Addr}{t:aM}
theorem zpn {x:cK}{n c:Nat}{e:aM}(ho:o.op=.call ⟨.builtin .len,#[x],#[t]⟩)(hu:p.underlying t=some (.slice e))(hx:ρ x=.slice A n c):(aO ρ o).run p w=.ok (.value (.int .i64 n)) w:=by
 have N6:∀w,(underlying t).run p w=.ok (.slice e) w:=λw=>by simp[underlying,program,bL,bind,yN,pure,hu]
 unfold aO;rw[ho];simp[go_sem,hx,N6,Builtin.len_,vR]
theorem zdB {s x:cK}{a b v:aF}{w':aE}(ho:o.op=.call ⟨.builtin .append,#[s,x],#[t,t]⟩)(hs:ρ s=a)(hx:ρ x=b)(hr:(xV #[t,t] o.type #[a,b]).run p w=.ok v w'):(aO ρ o).run p w=.ok (.value v) w':=by
 unfold aO;simp only[ho,resolve,invoke,builtin,Sem.run_bind,Sem.run_pure,Result.andThen_ok,List.map_toArray,gT,List.map_nil,hs,hx,hr]
end
def AllL (Q:Nat->aZ->Prop):Nat->List aZ->Prop
 |_,[]=>True
 |i,o::l=>Q i o/\AllL Q (i+1) l
variable {Q:Nat->aZ->Prop}
theorem zyj :∀(l:List aZ) (k:Nat),AllL Q k l->∀(i:Nat) (o:aZ),l[i]? =some o->Q (k+i) o
 |[],k,h,i,o,e=>by simp at e
 |x::l,k,h,0,o,e=>by simp at e;subst e;exact h.1
 |x::l,k,h,i+1,o,e=>by
  have:=zyj l (k+1) h.2 i o (by simpa using e)
  grind
theorem Ig {l:List aZ}(hl:ops.toList=l)(h:AllL Q 0 l):∀(i:Nat) (o:aZ),ops[i]? =some o->Q i o:=λi o e=>by
 have:=zyj l 0 h i o (by rw[<-hl,C1];exact e);simp_all
def xN (vals:Nat->aF):List (Option Tmp)->Nat->List aF->List aF
 |[],_,t=>t
 |none::l,i,t=>xN vals l (i+1) t
 |some d::l,i,t=>xN vals l (i+1) (t.set d (vals i))
theorem Bn (ops:Array aZ)(vals:Nat->aF)(t0:List aF):dF ops vals t0.toArray=(xN vals (ops.toList.map (·.dst)) 0 t0).toArray:=by
 have key:∀(l:List aZ) (k:Nat) (t:List aF),(∀i,l[i]? =ops[k+i]?)->
  (List.range' k l.length).foldl (λt i=>match(ops[i]?).bind (·.dst) with|some d=>t.setIfInBounds d (vals i)|none=>t) t.toArray=(xN vals (l.map (·.dst)) k t).toArray:=by
  intro l
  induction l with
  |nil=>intro k t _;rfl
  |cons o l ih=>
   intro k t h;have h0:=h 0;simp at h0;rw[rG,List.range'_succ,Oq,<-h0];simp only[uY,gT];have h1:∀i,l[i]? =ops[k+1+i]? :=λi=>by have:=h (i+1);simp at this;rw[this];congr 1;omega
   cases hd:o.dst with
   |none=>exact ih (k+1) t h1
   |some d=>
    simp only[List.setIfInBounds_toArray];exact ih (k+1) _ h1
 have:=key ops.toList 0 t0 (λi=>by simp);unfold dF;rw[List.range_eq_range',<-Array.length_toList];exact this
def F7 (o:aZ)(j:Nat):Bool:=o.after.any λe=>E8 .any e&&e.on==j
def Jp (ops:Array aZ):List Nat->Bool
 |a::b::l=>(match ops[b]? with|some o=>F7 o a|none=>false)&&Jp ops (b::l)
 |[a]=>decide (a<ops.size)
 |[]=>true
def zcv (ops:Array aZ):Nat->aZ->Nat->Bool
 |0,o,j=>F7 o j
 |n+1,o,j=>F7 o j||o.after.any λe=>E8 .any e&&(match ops[e.on]? with|some o'=>zcv ops n o' j|none=>false)
def zcj (ops:Array aZ)(ws:List Nat)(i k:Nat):Bool:=
 (ws.take k).all (λj=>match ops[j]? with|some o=>!zcv ops 5 o i|none=>true)&&(ws.drop k).all (λj=>match ops[i]? with|some o=>!F7 o j|none=>true)
inductive bT (P:bZ)(ops:Array aZ)(ws:List Nat)(Wd:Nat->aE)(Tf:Array aF)(i:Nat)(o:aZ)(v:aF):Prop
 |no (hn:i∉ws) (h:dE o (dH ops Tf)=false) (hv:v=aA)
 |val (hn:i∉ws) (h:dE o (dH ops Tf)=true) (hx:∀k,k<=ws.length->zcj ops ws i k=true->(aO (bJ Tf []).eval o).run P (Wd k)=.ok (.value v) (Wd k))
 |act (k:Nat) (hk:ws[k]? =some i) (h:dE o (dH ops Tf)=true) (hx:(aO (bJ Tf []).eval o).run P (Wd k)=.ok (.value v) (Wd (k+1)))
 |skp (k:Nat) (hk:ws[k]? =some i) (h:dE o (dH ops Tf)=true) (hv:v=aA) (hx:(aO (bJ Tf []).eval o).run P (Wd k)=.ok .skip (Wd (k+1)))
 |actn (k:Nat) (hk:ws[k]? =some i) (h:dE o (dH ops Tf)=true) (hd:o.dst=none) (u:aF) (hx:(aO (bJ Tf []).eval o).run P (Wd k)=.ok (.value u) (Wd (k+1)))
section
variable {P:bZ}{ops:Array aZ}{ws:List Nat}{Wd:Nat->aE}{Q:Exit->vN->aE->Prop}{t0 Tf:Array aF}{vals:Nat->aF}
structure I8 (ops:Array aZ)(ws:List Nat)(bP:Array Bool)(k:Nat):Prop where
 closed:∀(i:Nat) (o:aZ),ops[i]? =some o->bP.getD i false=true->∀j,F7 o j=true->bP.getD j false=true
 le:k<=ws.length
 pre:∀(n i:Nat),ws[n]? =some i->(bP.getD i false=true↔n<k)
theorem I8.closedT {bP:Array Bool}{k:Nat}(h:I8 ops ws bP k):∀(n:Nat) (i:Nat) (o:aZ),ops[i]? =some o->bP.getD i false=true->∀j,zcv ops n o j=true->bP.getD j false=true
 |0,i,o,hi,hl,j,hj=>h.closed i o hi hl j hj
 |n+1,i,o,hi,hl,j,hj=>by
  simp only[zcv,Eu] at hj;rcases hj with hj|hj
  .exact h.closed i o hi hl j hj
  .rw[zgH] at hj
   obtain⟨x,hx,h3⟩:=hj;simp only[jF] at h3;obtain⟨h4,h5⟩:=h3;split at h5
   .next o' zX=>
    refine h.closedT n _ o' zX (h.closed i o hi hl _ ?_) j h5;unfold F7;rw[zgH];exact⟨x,hx,by simp[h4]⟩
   .cases h5
theorem znR:∀{ws:List Nat},Jp ops ws=true->∀(n a b:Nat),ws[n]? =some a->ws[n+1]? =some b->∃o,ops[b]? =some o/\F7 o a=true
 |[],_,n,a,b,h,_=>by simp at h
 |[x],_,n,a,b,h,h'=>by simp at h'
 |x::y::l,hc,0,a,b,h,h'=>by
  simp at h h';subst h h';simp only[Jp,jF] at hc
  grind
 |x::y::l,hc,n+1,a,b,h,h'=>by
  simp only[Jp,jF] at hc;exact znR hc.2 n a b zeO (by simpa using h')
theorem ztE {l:Array Bool}{i:Nat}(h:l.getD i true=false):l.getD i false=false:=by grind
theorem I8.keep {bP:Array Bool}{k i:Nat}{o:aZ}(h:I8 ops ws bP k)(hi:ops[i]? =some o)(hn:i∉ws)(hd:∀j,F7 o j=true->bP.getD j false=true):I8 ops ws (bP.setIfInBounds i true) k:=by
 have mono:∀j,bP.getD j false=true->(bP.setIfInBounds i true).getD j false=true:=λj hj=>by
  by_cases e:j=i
  .subst e
   rw[xG] at hj⊢
   cases e2:bP[j]? with
   |none=>rw[e2] at hj;cases hj
   |some x=>have:j<bP.size:=(eB.1 e2).1;simp[this]
  .rw[Pk false (Ne.symm e)];exact hj
 refine⟨λa oa ha hl j hj=>?_,h.le,λn a ha=>?_⟩
 .by_cases e:a=i
  .subst e
   rw[hi] at ha;obtain rfl:=cO ha;exact mono j (hd j hj)
  .rw[Pk false (Ne.symm e)] at hl
   exact mono j (h.closed a oa ha hl j hj)
 .have e:a≠i:=λe=>hn (e▸fN ha)
  rw[Pk false (Ne.symm e)];exact h.pre n a ha
theorem I8.next {bP:Array Bool}{k n i:Nat}{o:aZ}(lE:ws.Nodup)(hc:Jp ops ws=true)(h:I8 ops ws bP k)(hi:ops[i]? =some o)(hz:i<bP.size)(hn:ws[n]? =some i)(hu:bP.getD i false=false)(hd:∀j,F7 o j=true->bP.getD j false=true):
 n=k/\I8 ops ws (bP.setIfInBounds i true) (k+1):=by
 have pD:n<ws.length:=(kP.1 hn).1;have hk:n=k:=by
  have h1:¬n<k:=λx=>by have:=(h.pre n i hn).2 x;rw[hu] at this;cases this
  rcases qX k n with x|x
  .exfalso
   obtain⟨m,rfl⟩:∃m,n=m+1:=⟨n-1,aC⟩;obtain⟨a,ha⟩:∃a,ws[m]? =some a:=⟨ws[m],mV aC⟩;obtain⟨o',zX,hw⟩:=znR hc m a i ha hn;rw[hi] at zX;obtain rfl:=cO zX;have:=(h.pre m a ha).1 (hd a hw);omega
  .omega
 subst hk;have mono:∀j,bP.getD j false=true->(bP.setIfInBounds i true).getD j false=true:=λj hj=>by
  by_cases e:j=i
  .subst e;simp[hz]
  .rw[Pk false (Ne.symm e)];exact hj
 refine⟨rfl,λa oa ha hl j hj=>?_,aC,λm a ha=>?_⟩
 .by_cases e:a=i
  .subst e
   rw[hi] at ha;obtain rfl:=cO ha;exact mono j (hd j hj)
  .rw[Pk false (Ne.symm e)] at hl
   exact mono j (h.closed a oa ha hl j hj)
 .by_cases e:a=i
  .subst e
   have hm:m=n:=by
    have h1:m<ws.length:=(kP.1 ha).1;have e1:=(kP.1 ha).2;have e2:=(kP.1 hn).2;exact(List.getElem_inj lE).1 (e1.trans e2.symm)
   subst hm;simp[hz]
  .have hm:m≠n:=λx=>e (by subst x;rw[hn] at ha;exact(cO ha).symm)
   rw[Pk false (Ne.symm e),h.pre m a ha];omega
theorem zDq (t:Array aF)(d:List Gg):(bJ t d).eval=(bJ t []).eval:=by funext x;cases x<;>rfl
theorem zx0 (K:Mh ops):∀{ws:List Nat},Jp ops ws=true->∀(n i:Nat),ws[n]? =some i->i<ops.size
 |[],_,n,i,hi=>by simp at hi
 |[a],hc,0,i,hi=>by simp at hi;subst hi;simpa[Jp] using hc
 |[a],hc,n+1,i,hi=>by simp at hi
 |a::b::l,hc,0,i,hi=>by
  simp at hi;subst hi;obtain⟨o,h1,h2⟩:=znR hc 0 a b rfl rfl;unfold F7 at h2;rw[zgH] at h2;obtain⟨x,hx,h3⟩:=h2;simp only[jF,beq_iff_eq] at h3;have:=K.bk b o h1 _ (zvZ hx) h3.1
  grind
 |a::b::l,hc,n+1,i,hi=>by
  simp only[Jp,jF] at hc;exact zx0 K hc.2 n i ze3
theorem zHW (K:Mh ops)(lE:ws.Nodup)(hc:Jp ops ws=true)(hT:sO ops vals t0 (oJ ops.size true) Tf){d:List Gg}
 (hop:∀(i:Nat) (o:aZ),ops[i]? =some o->bT P ops ws Wd Tf i o (vals i)) (hk:Q .normal ⟨Tf,d⟩ (Wd ws.length)):
 ∀(fuel:Nat) (bP:Array Bool) (t:Array aF) (k:Nat),bP.size=ops.size->((iQ ops.size).filter λi=>!bP.getD i false).length<=fuel->sO ops vals t0 bP t->I8 ops ws bP k->
  wpAny P .any ops Q fuel bP ⟨t,d⟩ (Wd k):=by
 have zED:=zx0 K hc;have fin:∀(bP:Array Bool) (t:Array aF) (k:Nat),bP.size=ops.size->(∀i,i<ops.size->bP.getD i false=true)->sO ops vals t0 bP t->I8 ops ws bP k->Q .normal ⟨t,d⟩ (Wd k):=by
  intro bP t k hz tF hm aY;have e:bP=oJ ops.size true:=by
   apply zfG;intro j;by_cases hj:j<ops.size
   .have:=tF j hj
    have uU:j<bP.size:=aC;simp[uU] at this;simp[hj,uU,this]
   .rw[N8 aC,N8 oX]
  subst e;have e2:=hm.unique hT;subst e2;have e3:k=ws.length:=by
   rcases qX k ws.length with x|x
   .have h1:ws[k]? =some ws[k]:=mV x
    have:=(aY.pre k _ h1).1 (tF _ (zED k _ h1));omega
   .have:=aY.le;omega
  rw[e3];exact hk
 intro fuel
 induction fuel with
 |zero=>
  intro bP t k hz X6 hm aY;have tF:∀i,i<ops.size->bP.getD i false=true:=λi hi=>by
   cases hl:bP.getD i false with
   |true=>rfl
   |false=>
    have:i∈(iQ ops.size).filter λi=>!bP.getD i false:=L8.2 ⟨El.2 hi,by rw[hl];rfl⟩;have:=List.length_pos_of_mem this;omega
  refine⟨?_,fin bP t k hz tF hm aY⟩;apply List.eq_nil_iff_forall_not_mem.2;intro i hi;obtain⟨hu,o,ho,_⟩:=znz.1 hi;have:=tF i (eB.1 ho).1;rw[ztE hu] at this;cases this
 |succ fuel ih=>
  intro bP t k hz X6 hm aY;refine⟨λhr=>fin bP t k hz (zpv K hz hr) hm aY,λi hi=>?_⟩;obtain⟨hu,o,ho,uG⟩:=znz.1 hi;have N6:=ztE hu;have mJ:=hm.sees K hT ho uG;have Y9:=hm.step K ho hz hu;have Hp:i<ops.size:=(eB.1 ho).1;have hw:∀j,F7 o j=true->bP.getD j false=true:=λj hj=>by
   unfold F7 at hj;rw[zgH] at hj;obtain⟨x,hx,h3⟩:=hj;simp only[jF,beq_iff_eq] at h3;have:=uG _ (zvZ hx) h3.1
   rwa [h3.2] at this
  have zEP:((iQ ops.size).filter λj=>!(bP.setIfInBounds i true).getD j false).length<=fuel:=by
   have aS:((iQ ops.size).filter λj=>!(bP.setIfInBounds i true).getD j false).length<((iQ ops.size).filter λj=>!bP.getD j false).length:=by
    have e:((iQ ops.size).filter λj=>!(bP.setIfInBounds i true).getD j false)=((iQ ops.size).filter λj=>!bP.getD j false).filter (λj=>j !=i):=by
     rw[List.filter_filter];apply List.filter_congr;intro j hj;by_cases e:j=i
     .subst e
      have:j<bP.size:=aC;simp[this]
     .rw[Pk false (Ne.symm e)]
      simp[e]
    rw[e];refine List.length_filter_lt_length_iff_exists.2 ⟨i,L8.2 ⟨El.2 Hp,?_⟩,aN⟩;rw[N6];rfl
   omega
  have put_eq:∀v,(cC ⟨t,d⟩ o.dst v)=⟨(match o.dst with|some s=>t.setIfInBounds s v|none=>t),d⟩:=λv=>by
   unfold cC;cases o.dst<;>rfl
  have goon:∀k',I8 ops ws (bP.setIfInBounds i true) k'->wpAny P .any ops Q fuel (bP.setIfInBounds i true) (cC ⟨t,d⟩ o.dst (vals i)) (Wd k'):=λk' Oj=>by
   rw[put_eq];exact ih _ _ k' (by simp[hz]) zEP Y9 Oj
  have nI:(bJ t d).eval=(bJ t []).eval:=zDq t d;unfold wpOp;simp only[ho];rcases hop i o ho with⟨hn,h1,h2⟩|⟨hn,h1,h2⟩|⟨n,hn,h1,h2⟩|⟨n,hn,h1,hv,h2⟩|⟨n,hn,h1,hd,u,h2⟩
  .rw[if_neg (by rw[(Wp mJ).trans h1];simp),<-h2]
   exact goon k (aY.keep ho hn hw)
  .rw[if_pos ((Wp mJ).trans h1)]
   refine .inl ?_;have zAg:zcj ops ws i k=true:=by
    unfold zcj;rw[jF,wN,wN];refine⟨λj hj=>?_,λj hj=>?_⟩
    .obtain⟨m,wJ⟩:=zrV hj
     rw[List.getElem?_take] at wJ;split at wJ
     .next zek=>
      split
      .next oj hoj=>
       cases hq:zcv ops 5 oj i with
       |false=>rfl
       |true=>
        have:=aY.closedT 5 j oj hoj ((aY.pre m j wJ).2 zek) i hq;rw[N6] at this;cases this
      .rfl
     .cases wJ
    .obtain⟨m,wJ⟩:=zrV hj
     rw[List.getElem?_drop] at wJ;simp only[ho]
     cases hq:F7 o j with
     |false=>rfl
     |true=>
      have:=(aY.pre (k+m) j wJ).1 (hw j hq);omega
   show o.upon P ⟨t,d⟩ _ Q ((aO (bJ t d).eval o).run P (Wd k));rw[nI,Fi (K.sel i o ho) mJ,h2 k aY.le zAg];exact goon k (aY.keep ho hn hw)
  .rw[if_pos ((Wp mJ).trans h1)]
   refine .inl ?_;obtain⟨rfl,Oj⟩:=aY.next lE hc ho aC hn N6 hw;show o.upon P ⟨t,d⟩ _ Q ((aO (bJ t d).eval o).run P (Wd n));rw[nI,Fi (K.sel i o ho) mJ,h2];exact goon _ Oj
  .rw[if_pos ((Wp mJ).trans h1)]
   refine .inl ?_;obtain⟨rfl,Oj⟩:=aY.next lE hc ho aC hn N6 hw;show o.upon P ⟨t,d⟩ _ Q ((aO (bJ t d).eval o).run P (Wd n));rw[nI,Fi (K.sel i o ho) mJ,h2];have:=goon _ Oj;rw[hv] at this;exact this
  .rw[if_pos ((Wp mJ).trans h1)]
   refine .inl ?_;obtain⟨rfl,Oj⟩:=aY.next lE hc ho aC hn N6 hw;show o.upon P ⟨t,d⟩ _ Q ((aO (bJ t d).eval o).run P (Wd n));rw[nI,Fi (K.sel i o ho) mJ,h2];have:=goon _ Oj;have e:∀x y,cC ⟨t,d⟩ o.dst x=cC ⟨t,d⟩ o.dst y:=λx y=>by rw[hd];rfl
   rw[e _ u] at this;exact this
theorem zGU {id:Nat}{w:aE}{d:List Gg}(hm:P.follows .mixedOrders=true)(bS:I9 ops=true)(lE:ws.Nodup)(hc:Jp ops ws=true)(h0:Wd 0={w with drawn:=w.drawn+1})(hT:dF ops vals t0=Tf)
 (hop:∀(i:Nat) (o:aZ),ops[i]? =some o->bT P ops ws Wd Tf i o (vals i)) (hk:Q .normal ⟨Tf,d⟩ (Wd ws.length)):(Code.region id ops true).wp P Q ⟨t0,d⟩ w:=by
 refine wp_region_any hm ?_;have K:=Us bS;subst hT;rw[<-h0];refine zHW K lE hc (Si K) hop hk ops.size _ t0 0 aN (eH (za1 _ _) aN) (sO.start _ λi=>by by_cases hi:i<ops.size<;>simp[hi]) ⟨λi o _ hl=>?_,lP _,λn i hn=>?_⟩
 .exfalso
  by_cases hi:i<ops.size<;>simp[hi] at hl
 .constructor
  .intro hl
   exfalso;by_cases hi:i<ops.size<;>simp[hi] at hl
  .intro x;omega
theorem Je {id:Nat}{w:aE}{d:List Gg}(hm:P.follows .mixedOrders=true)(bS:I9 ops=true)(lE:ws.Nodup)(hc:Jp ops ws=true)(h0:Wd 0={w with drawn:=w.drawn+1})(cM:∀s,Ht ops s=true->s<t0.size)
 (h:∀V:Nat->aF,(∀(i:Nat) (o:aZ) (d:Tmp),ops[i]? =some o->o.dst=some d->V d=vals i)->(∀s,Ht ops s=false->V s=t0.getD s aA)->
  ∀Tf,xL Tf V->∀(i:Nat) (o:aZ),ops[i]? =some o->bT P ops ws Wd Tf i o (valV V o)) (hk:Q .normal ⟨dF ops vals t0,d⟩ (Wd ws.length)):(Code.region id ops true).wp P Q ⟨t0,d⟩ w:=by
 have K:=Us bS;have M:=Si (vals:=vals) (t0:=t0) K
 let Tf:=dF ops vals t0
 have zmw:∀(i:Nat) (o:aZ) (d:Tmp),ops[i]? =some o->o.dst=some d->Tf.getD d aA=vals i:=λi o d h1 h2=>by
  have Hp:i<ops.size:=(eB.1 h1).1;rw[xG,M.got i o d h1 h2 (cM d (zjf h1 h2)) (by simp[Hp])];rfl
 have zwf:∀s,Ht ops s=false->Tf.getD s aA=t0.getD s undef:=λs hs=>by
  rw[xG,M.old s (λi o h1 _ h2=>by rw[zjf h1 h2] at hs;cases hs),xG]
 have hop:=h (λs=>Tf.getD s aA) zmw zwf Tf (λs=>rfl)
 let zbj:Nat->Value:=λi=>match ops[i]? with|some o=>valV (λs=>Tf.getD s aA) o|none=>aA
 have e:dF ops zbj t0=dF ops vals t0:=by
  refine(Si (vals:=zbj) K).unique ⟨M.size,λi o d h1 h2 h3 h4=>?_,M.old⟩;rw[M.got i o d h1 h2 h3 h4];show some (vals i)=some (match ops[i]? with|some o=>valV (λs=>Tf.getD s aA) o|none=>aA);rw[h1];simp only[valV,h2];rw[zmw i o d h1 h2]
 refine zGU hm bS lE hc h0 e (λi o h1=>?_) hk
 grind
end
end Go.Mt
namespace Go.Mt
open Go.Conc Go.Tt Go.RowKit
section
variable {P:bZ}{ops:Array aZ}{ws:List Nat}{Wd:Nat->aE}{Tf:Array aF}{V:Nat->aF}{i d:Nat}{o:aZ}{v:aF}
theorem bT.pv (hn:i∉ws:=by decide)(h:dE o (dH ops Tf)=true:=by exact eE rfl)(hv:V d=v:=by assumption)
 (hx:∀w,(aO (bJ Tf []).eval o).run P w=.ok (.value v) w:=by intro w;unfold execOp;go_simp):bT P ops ws Wd Tf i o (V d):=hv▸ .val hn h λ_ _ _=>hx _
def early (ops:Array aZ)(ws:List Nat)(i:Nat):Bool:=(iQ ws.length).all λk=>!zcj ops ws i (k+1)
theorem bT.ld {w0:aE}(h0:Wd 0=w0:=by assumption)(hn:i∉ws:=by decide)(h:dE o (dH ops Tf)=true:=by exact eE rfl)(hv:V d=v:=by assumption)(hm:early ops ws i=true:=by decide+kernel)
 (hx:(aO (bJ Tf []).eval o).run P w0=.ok (.value v) w0:=by unfold execOp;go_simp):bT P ops ws Wd Tf i o (V d):=hv▸ .val hn h λk hk zek=>by
 rcases k with _|k
 .rw[h0];exact hx
 .have:=wN.1 hm k (El.2 aC)
  rw[zek] at this;cases this
theorem bT.any (hx:∀k,k<=ws.length->zcj ops ws i k=true->(aO (bJ Tf []).eval o).run P (Wd k)=.ok (.value v) (Wd k))(hn:i∉ws:=by decide)(h:dE o (dH ops Tf)=true:=by exact eE rfl)(hv:V d=v:=by assumption):bT P ops ws Wd Tf i o (V d):=
 hv▸ .val hn h hx
def zipV (V:Nat->aF):List (Option Nat)->List aF->Prop
 |some d::D,v::l=>V d=v/\zipV V D l
 |none::D,_::l=>zipV V D l
 |_,_=>True
theorem znr:∀(D:List (Option Nat)) (l:List aF),(∀(i:Nat) (d:Nat),D[i]? =some (some d)->i<l.length->V d=l.getD i aA)->zipV V D l
 |some d::D,v::l,h=>⟨h 0 d rfl aN,znr D l λi d' e hi=>by simpa using h (i+1) d' (by simpa using e) ze3⟩
 |none::D,_::l,h=>znr D l λi d' e hi=>by simpa using h (i+1) d' (by simpa using e) ze3
 |[],_,_=>trivial
 |some _::_,[],_=>trivial
 |none::_,[],_=>trivial
theorem Iq {l:List aF}{D:List (Option Nat)}(hD:ops.toList.map (·.dst)=D)(hU:∀(i:Nat) (o:aZ) (d:Tmp),ops[i]? =some o->o.dst=some d->V d=l.getD i aA):zipV V D l:=
 znr D l λi d e _=>by
  rw[<-hD,List.getElem?_map] at e;obtain⟨o,h1,h2⟩:=zR.1 e;exact hU i o d (by rw[<-C1];exact h1) h2
end
end Go.Mt
namespace Go.Proofs.YtfcjiloojkjaeaaGreatDoor
open Go.RowKit Go.Mt Go.Conc Go.Tt Go.Maps
def bodyRG:Go.Code:=(Tryz.f63.body).getD .skip
def rRG7:Go.Code:=match bodyRG with| .seq _ (.seq _ (.seq _ (.seq (a) _)))=>a|_=>.skip
def zN:Array Oper:=match rRG7 with| .region _ ops _=>ops|_=>#[]
def ztV:zN.toList=[aV zN 0 (some 36) (.fieldAddr 59 (.tmp 2) 2),aV zN 1 (some 37) (.load 45 (.tmp 36)),aV zN 2 (some 38) (.fieldAddr 100 (.tmp 3) 0),aV zN 3 (some 39) (.load 3 (.tmp 38)),aV zN 4 (some 40) (.move (.tmp 6)),aV zN 5 (some 41) (.indexAddr 38 (.tmp 40) (.const (.int .i64 0))),aV zN 6 (some 42) (.load 3 (.tmp 41)),aV zN 7 (some 43) (.fieldAddr 59 (.tmp 2) 1),aV zN 8 (some 44) (.load 3 (.tmp 43)),aV zN 9 (some 45) (.build 50 #[(0,.tmp 39),(1,.tmp 42),(3,.tmp 44),(4,.const (.int .i64 (-1))),(5,.const (.int .i64 (-1))),(6,.const (.string {data:=#[111,112,101,110]}))]),aV zN 10 (some 46) (.buildSlice 45 1 #[(0,.tmp 45)]),aV zN 11 (some 47) (.call ⟨.builtin .append,#[.tmp 37,.tmp 46],#[45,45]⟩),aV zN 12 (some 48) (.fieldAddr 59 (.tmp 2) 2),aV zN 13 none (.store 45 (.tmp 48) (.tmp 47))]:=rfl
def WRG7 (w w3:aE)(gb gf gR nR cR g1 c1 nf cf:Nat)(cc l clk:Int):Nat->aE
 |0=>w.drew
 |1=>(w.alloc (.cells #[.int .i64 cc,.int .i64 l,.int .i64 0,.int .i64 clk,.int .i64 (-1),.int .i64 (-1),.string eJ] 50)).drew
 |2=>w3
 |_=>w3.setCell ⟨gb,4,none⟩ (.slice (some ⟨g1,0,none⟩) (nR+1) c1)
theorem zrQ:zN.toList.map (·.dst)=[some 36,some 37,some 38,some 39,some 40,some 41,some 42,some 43,some 44,some 45,some 46,some 47,some 48,none]:=by rw[ztV];rfl
def lRG7 (w w3:aE)(gb gf gR nR cR g1 c1 nf cf:Nat)(cc l clk:Int):List Value:=[.pointer (some ⟨gb,4,none⟩),.slice (some ⟨gR,0,none⟩) nR cR,.pointer (some ⟨gb+1,0,none⟩),.int .i64 (cc),.slice (some ⟨gf,0,none⟩) nf cf,.pointer (some ⟨gf,0,none⟩),.int .i64 (l),.pointer (some ⟨gb,3,none⟩),.int .i64 (clk),.agg #[.int .i64 cc,.int .i64 l,.int .i64 0,.int .i64 clk,.int .i64 (-1),.int .i64 (-1),.string eJ],.slice (some ⟨w.heap.size,0,none⟩) 1 1,.slice (some ⟨g1,0,none⟩) (nR+1) c1,.pointer (some ⟨gb,4,none⟩),aA]
def fRG7 (w w3:aE)(gb gf gR nR cR g1 c1 nf cf:Nat)(cc l clk:Int)(i:Nat):Value:=(lRG7 w w3 gb gf gR nR cR g1 c1 nf cf cc l clk).getD i aA
variable {Q:Exit->vN->aE->Prop}{d:List Gg}{t0:Array aF}
theorem wp_RG7 (w w3:aE)(gb gf gR nR cR g1 c1 nf cf:Nat)(cc l clk:Int)(hz:t0.size=60)(Tk:t0.getD 2 aA=.pointer (some ⟨gb,0,none⟩))(znZ:t0.getD 3 aA=.pointer (some ⟨gb+1,0,none⟩))(zar:t0.getD 6 aA=.slice (some ⟨gf,0,none⟩) nf cf)(h3:w.cell? ⟨gb,3,none⟩=some (.int .i64 clk))(h4:w.cell? ⟨gb,4,none⟩=some (.slice (some ⟨gR,0,none⟩) nR cR))(hq:w.cell? ⟨gb+1,0,none⟩=some (.int .i64 cc))(hf:w.cell? ⟨gf,0,none⟩=some (.int .i64 l))(E7:0<nf)(fM:(xV #[45,45] 45 #[.slice (some ⟨gR,0,none⟩) nR cR,.slice (some ⟨w.heap.size,0,none⟩) 1 1]).run aK ((w.alloc (.cells #[.int .i64 cc,.int .i64 l,.int .i64 0,.int .i64 clk,.int .i64 (-1),.int .i64 (-1),.string eJ] 50)).drew)=.ok (.slice (some ⟨g1,0,none⟩) (nR+1) c1) w3)(aY:w3.cell? ⟨gb,4,none⟩=some (.slice (some ⟨gR,0,none⟩) nR cR))(nZ:w3.frozen? ⟨gb,4,none⟩=false)(h0:WRG7 w w3 gb gf gR nR cR g1 c1 nf cf cc l clk 0=w.drew)(hk:Q .normal ⟨dF zN (fRG7 w w3 gb gf gR nR cR g1 c1 nf cf cc l clk) t0,d⟩ (w3.setCell ⟨gb,4,none⟩ (.slice (some ⟨g1,0,none⟩) (nR+1) c1))):
 (E6 7 zN true).wp aK Q ⟨t0,d⟩ w:=by
 refine Je (ws:=[10,11,13]) (Wd:=WRG7 w w3 gb gf gR nR cR g1 c1 nf cf cc l clk) (vals:=fRG7 w w3 gb gf gR nR cR g1 c1 nf cf cc l clk) wA.mixed aT aH aT h0 J4 (λV hU hV=>?_) hk;obtain⟨zEj,zpZ,zxY,zjs,zil,zwu,zp3,zlY,zq9,ziC,X0,zac,zl7,-⟩:=Iq zrQ hU;have e2:=(hV 2 aT).trans Tk;have e3:=(hV 3 aT).trans znZ;have e6:=(hV 6 aT).trans zar;have zmI:=h3;have Ks:=h4;have N1:=hq;have Eb:=hf;refine λTf hT=>Ig ztV ⟨bT.pv,bT.any (λkk gA hm=>?_),bT.pv,bT.ld,bT.pv,bT.any (λkk gA hm=>?_),bT.ld,bT.pv,bT.ld,bT.any (λkk gA hm=>?_),bT.act (v:=V 46) 0 rfl (eE rfl) ?_,bT.act (v:=V 47) 1 rfl (eE rfl) ?_,bT.pv,.skp 2 rfl (eE rfl) rfl ?_,trivial⟩
 .rcases kk with _|_|_|_|kk
  .show(aO _ _).run _ (w.drew)=wW _ (w.drew);have hh:=h4;unfold aO;go_simp
  .show(aO _ _).run _ ((w.alloc (.cells #[.int .i64 cc,.int .i64 l,.int .i64 0,.int .i64 clk,.int .i64 (-1),.int .i64 (-1),.string eJ] 50)).drew)=wW _ ((w.alloc (.cells #[.int .i64 cc,.int .i64 l,.int .i64 0,.int .i64 clk,.int .i64 (-1),.int .i64 (-1),.string eJ] 50)).drew);have hh:=Bo h4 (.cells #[.int .i64 cc,.int .i64 l,.int .i64 0,.int .i64 clk,.int .i64 (-1),.int .i64 (-1),.string eJ] 50);unfold aO;go_simp
  .exact absurd hm vT
  .exact absurd hm vT
  .simp at gA
 .have aU:nf≠0:=by have:=E7;omega
  unfold aO;go_simp
 .unfold aO;go_simp;rfl
 .rw[X0];show(aO _ _).run _ (w.drew)=wW _ ((w.alloc (.cells #[.int .i64 cc,.int .i64 l,.int .i64 0,.int .i64 clk,.int .i64 (-1),.int .i64 (-1),.string eJ] 50)).drew);unfold aO;go_simp
 .rw[zac];exact zdB rfl (oA hT zpZ) (oA hT X0) fM
 .have hs:=aY;have hf:=nZ;show(aO _ _).run _ (w3)=wW _ (w3.setCell ⟨gb,4,none⟩ (.slice (some ⟨g1,0,none⟩) (nR+1) c1));unfold aO;go_simp
def bodyRU:Go.Code:=(Tryz.f65.body).getD .skip
def rRU10:Go.Code:=match bodyRU with| .seq _ (.seq _ (.seq _ (.seq _ (.seq _ (.seq (a) _)))))=>a|_=>.skip
def wI:Array Oper:=match rRU10 with| .region _ ops _=>ops|_=>#[]
def zxv:wI.toList=[aV wI 0 (some 38) (.fieldAddr 59 (.tmp 2) 2),aV wI 1 (some 39) (.load 45 (.tmp 38)),aV wI 2 (some 40) (.fieldAddr 100 (.tmp 7) 0),aV wI 3 (some 41) (.load 3 (.tmp 40)),aV wI 4 (some 42) (.move (.tmp 6)),aV wI 5 (some 43) (.indexAddr 38 (.tmp 42) (.const (.int .i64 0))),aV wI 6 (some 44) (.load 3 (.tmp 43)),aV wI 7 (some 45) (.move (.tmp 1)),aV wI 8 (some 46) (.fieldAddr 59 (.tmp 2) 1),aV wI 9 (some 47) (.load 3 (.tmp 46)),aV wI 10 (some 48) (.fieldAddr 59 (.tmp 2) 1),aV wI 11 (some 49) (.load 3 (.tmp 48)),aV wI 12 (some 50) (.build 50 #[(0,.tmp 41),(1,.tmp 44),(2,.tmp 45),(3,.tmp 47),(4,.tmp 49),(5,.const (.int .i64 (-1))),(6,.const (.string {data:=#[111,112,101,110]}))]),aV wI 13 (some 51) (.buildSlice 45 1 #[(0,.tmp 50)]),aV wI 14 (some 52) (.call ⟨.builtin .append,#[.tmp 39,.tmp 51],#[45,45]⟩),aV wI 15 (some 53) (.fieldAddr 59 (.tmp 2) 2),aV wI 16 none (.store 45 (.tmp 53) (.tmp 52))]:=rfl
def WRU10 (w w3:aE)(gb gc gf gR nR cR g1 c1 nf cf:Nat)(cc l op clk:Int):Nat->aE
 |0=>w.drew
 |1=>(w.alloc (.cells #[.int .i64 cc,.int .i64 l,.int .i64 op,.int .i64 clk,.int .i64 clk,.int .i64 (-1),.string eJ] 50)).drew
 |2=>w3
 |_=>w3.setCell ⟨gb,4,none⟩ (.slice (some ⟨g1,0,none⟩) (nR+1) c1)
theorem zst:wI.toList.map (·.dst)=[some 38,some 39,some 40,some 41,some 42,some 43,some 44,some 45,some 46,some 47,some 48,some 49,some 50,some 51,some 52,some 53,none]:=by rw[zxv];rfl
def lRU10 (w w3:aE)(gb gc gf gR nR cR g1 c1 nf cf:Nat)(cc l op clk:Int):List Value:=[.pointer (some ⟨gb,4,none⟩),.slice (some ⟨gR,0,none⟩) nR cR,.pointer (some ⟨gc,0,none⟩),.int .i64 (cc),.slice (some ⟨gf,0,none⟩) nf cf,.pointer (some ⟨gf,0,none⟩),.int .i64 (l),.int .i64 (op),.pointer (some ⟨gb,3,none⟩),.int .i64 (clk),.pointer (some ⟨gb,3,none⟩),.int .i64 (clk),.agg #[.int .i64 cc,.int .i64 l,.int .i64 op,.int .i64 clk,.int .i64 clk,.int .i64 (-1),.string eJ],.slice (some ⟨w.heap.size,0,none⟩) 1 1,.slice (some ⟨g1,0,none⟩) (nR+1) c1,.pointer (some ⟨gb,4,none⟩),aA]
def znA (w w3:aE)(gb gc gf gR nR cR g1 c1 nf cf:Nat)(cc l op clk:Int)(i:Nat):Value:=(lRU10 w w3 gb gc gf gR nR cR g1 c1 nf cf cc l op clk).getD i aA
theorem wp_RU10 (w w3:aE)(gb gc gf gR nR cR g1 c1 nf cf:Nat)(cc l op clk:Int)(hz:t0.size=59)(E5:t0.getD 1 aA=.int .i64 (op))(Tk:t0.getD 2 aA=.pointer (some ⟨gb,0,none⟩))(zar:t0.getD 6 aA=.slice (some ⟨gf,0,none⟩) nf cf)(Gf:t0.getD 7 aA=.pointer (some ⟨gc,0,none⟩))(h3:w.cell? ⟨gb,3,none⟩=some (.int .i64 clk))(h4:w.cell? ⟨gb,4,none⟩=some (.slice (some ⟨gR,0,none⟩) nR cR))(hq:w.cell? ⟨gc,0,none⟩=some (.int .i64 cc))(hf:w.cell? ⟨gf,0,none⟩=some (.int .i64 l))(E7:0<nf)(fM:(xV #[45,45] 45 #[.slice (some ⟨gR,0,none⟩) nR cR,.slice (some ⟨w.heap.size,0,none⟩) 1 1]).run aK ((w.alloc (.cells #[.int .i64 cc,.int .i64 l,.int .i64 op,.int .i64 clk,.int .i64 clk,.int .i64 (-1),.string eJ] 50)).drew)=.ok (.slice (some ⟨g1,0,none⟩) (nR+1) c1) w3)(aY:w3.cell? ⟨gb,4,none⟩=some (.slice (some ⟨gR,0,none⟩) nR cR))(nZ:w3.frozen? ⟨gb,4,none⟩=false)(h0:WRU10 w w3 gb gc gf gR nR cR g1 c1 nf cf cc l op clk 0=w.drew)(hk:Q .normal ⟨dF wI (znA w w3 gb gc gf gR nR cR g1 c1 nf cf cc l op clk) t0,d⟩ (w3.setCell ⟨gb,4,none⟩ (.slice (some ⟨g1,0,none⟩) (nR+1) c1))):
 (E6 10 wI true).wp aK Q ⟨t0,d⟩ w:=by
 refine Je (ws:=[13,14,16]) (Wd:=WRU10 w w3 gb gc gf gR nR cR g1 c1 nf cf cc l op clk) (vals:=znA w w3 gb gc gf gR nR cR g1 c1 nf cf cc l op clk) wA.mixed aT aH aT h0 J4 (λV hU hV=>?_) hk;obtain⟨zxY,zjs,zil,zwu,zp3,zlY,zq9,ziC,X0,zac,zl7,Vl,zd6,V4,Ww,zlQ,-⟩:=Iq zst hU;have e1:=(hV 1 aT).trans E5;have e2:=(hV 2 aT).trans Tk;have e6:=(hV 6 aT).trans zar;have e7:=(hV 7 aT).trans Gf;have zmI:=h3;have Ks:=h4;have N1:=hq;have Eb:=hf;refine λTf hT=>Ig zxv ⟨bT.pv,bT.any (λkk gA hm=>?_),bT.pv,bT.ld,bT.pv,bT.any (λkk gA hm=>?_),bT.ld,bT.pv,bT.pv,bT.ld,bT.pv,bT.ld,bT.any (λkk gA hm=>?_),bT.act (v:=V 51) 0 rfl (eE rfl) ?_,bT.act (v:=V 52) 1 rfl (eE rfl) ?_,bT.pv,.skp 2 rfl (eE rfl) rfl ?_,trivial⟩
 .rcases kk with _|_|_|_|kk
  .show(aO _ _).run _ (w.drew)=wW _ (w.drew);have hh:=h4;unfold aO;go_simp
  .show(aO _ _).run _ ((w.alloc (.cells #[.int .i64 cc,.int .i64 l,.int .i64 op,.int .i64 clk,.int .i64 clk,.int .i64 (-1),.string eJ] 50)).drew)=wW _ ((w.alloc (.cells #[.int .i64 cc,.int .i64 l,.int .i64 op,.int .i64 clk,.int .i64 clk,.int .i64 (-1),.string eJ] 50)).drew);have hh:=Bo h4 (.cells #[.int .i64 cc,.int .i64 l,.int .i64 op,.int .i64 clk,.int .i64 clk,.int .i64 (-1),.string eJ] 50);unfold aO;go_simp
  .exact absurd hm vT
  .exact absurd hm vT
  .simp at gA
 .have aU:nf≠0:=by have:=E7;omega
  unfold aO;go_simp
 .unfold aO;go_simp;rfl
 .rw[V4];show(aO _ _).run _ (w.drew)=wW _ ((w.alloc (.cells #[.int .i64 cc,.int .i64 l,.int .i64 op,.int .i64 clk,.int .i64 clk,.int .i64 (-1),.string eJ] 50)).drew);unfold aO;go_simp
 .rw[Ww];exact zdB rfl (oA hT zjs) (oA hT V4) fM
 .have hs:=aY;have hf:=nZ;show(aO _ _).run _ (w3)=wW _ (w3.setCell ⟨gb,4,none⟩ (.slice (some ⟨g1,0,none⟩) (nR+1) c1));unfold aO;go_simp
def bodyWT:Go.Code:=(Tryz.f67.body).getD .skip
def rWT10:Go.Code:=match bodyWT with| .seq _ (.seq _ (.seq _ (.seq _ (.seq (.seq _ (.block _ (.loop (.seq _ (.seq (.block _ (.seq _ (.seq _ (.cond _ (.seq _ (.seq (a) _)) _)))) _))))) _))))=>a|_=>.skip
def Dl:Array Oper:=match rWT10 with| .region _ ops _=>ops|_=>#[]
def zpf:Dl.toList=[aV Dl 0 (some 51) (.fieldAddr 59 (.tmp 2) 4),aV Dl 1 (some 52) (.load 57 (.tmp 51)),aV Dl 2 (some 53) (.move (.tmp 7)),aV Dl 3 (some 54) (.move (.tmp 8)),aV Dl 4 (some 55) (.indexAddr 57 (.tmp 53) (.tmp 54)),aV Dl 5 (some 56) (.load 100 (.tmp 55)),aV Dl 6 (some 57) (.buildSlice 57 1 #[(0,.tmp 56)]),aV Dl 7 (some 58) (.call ⟨.builtin .append,#[.tmp 52,.tmp 57],#[57,57]⟩),aV Dl 8 (some 59) (.fieldAddr 59 (.tmp 2) 4),aV Dl 9 none (.store 57 (.tmp 59) (.tmp 58))]:=rfl
def WWT10 (w w3:aE)(gb gW nW cW gB nB cB g1 c1 k:Nat)(xc xp:Int):Nat->aE
 |0=>w.drew
 |1=>(w.alloc (.cells #[.int .i64 xc,.int .i64 xp] 100)).drew
 |2=>w3
 |_=>w3.setCell ⟨gb,6,none⟩ (.slice (some ⟨g1,0,none⟩) (nB+1) c1)
theorem zxL:Dl.toList.map (·.dst)=[some 51,some 52,some 53,some 54,some 55,some 56,some 57,some 58,some 59,none]:=by rw[zpf];rfl
def lWT10 (w w3:aE)(gb gW nW cW gB nB cB g1 c1 k:Nat)(xc xp:Int):List Value:=[.pointer (some ⟨gb,6,none⟩),.slice (some ⟨gB,0,none⟩) nB cB,.slice (some ⟨gW,0,none⟩) nW cW,.int .i64 (k:Int),.pointer (some ⟨gW,k*2,none⟩),.agg #[.int .i64 xc,.int .i64 xp],.slice (some ⟨w.heap.size,0,none⟩) 1 1,.slice (some ⟨g1,0,none⟩) (nB+1) c1,.pointer (some ⟨gb,6,none⟩),aA]
def zmC (w w3:aE)(gb gW nW cW gB nB cB g1 c1 k:Nat)(xc xp:Int)(i:Nat):Value:=(lWT10 w w3 gb gW nW cW gB nB cB g1 c1 k xc xp).getD i aA
theorem wp_WT10 (w w3:aE)(gb gW nW cW gB nB cB g1 c1 k:Nat)(xc xp:Int)(hz:t0.size=71)(Tk:t0.getD 2 aA=.pointer (some ⟨gb,0,none⟩))(Gf:t0.getD 7 aA=.slice (some ⟨gW,0,none⟩) nW cW)(znT:t0.getD 8 aA=.int .i64 (k:Int))(h6:w.cell? ⟨gb,6,none⟩=some (.slice (some ⟨gB,0,none⟩) nB cB))(tH:w.cell? ⟨gW,k*2,none⟩=some (.int .i64 xc))(Nc:w.cell? ⟨gW,k*2+1,none⟩=some (.int .i64 xp))(tG:k<nW)(fM:(xV #[57,57] 57 #[.slice (some ⟨gB,0,none⟩) nB cB,.slice (some ⟨w.heap.size,0,none⟩) 1 1]).run aK ((w.alloc (.cells #[.int .i64 xc,.int .i64 xp] 100)).drew)=.ok (.slice (some ⟨g1,0,none⟩) (nB+1) c1) w3)(aY:w3.cell? ⟨gb,6,none⟩=some (.slice (some ⟨gB,0,none⟩) nB cB))(nZ:w3.frozen? ⟨gb,6,none⟩=false)(h0:WWT10 w w3 gb gW nW cW gB nB cB g1 c1 k xc xp 0=w.drew)(hk:Q .normal ⟨dF Dl (zmC w w3 gb gW nW cW gB nB cB g1 c1 k xc xp) t0,d⟩ (w3.setCell ⟨gb,6,none⟩ (.slice (some ⟨g1,0,none⟩) (nB+1) c1))):
 (E6 10 Dl true).wp aK Q ⟨t0,d⟩ w:=by
 refine Je (ws:=[6,7,9]) (Wd:=WWT10 w w3 gb gW nW cW gB nB cB g1 c1 k xc xp) (vals:=zmC w w3 gb gW nW cW gB nB cB g1 c1 k xc xp) wA.mixed aT aH aT h0 J4 (λV hU hV=>?_) hk;obtain⟨V4,Ww,zlQ,zuv,zJZ,zLh,zpj,zuF,zAI,-⟩:=Iq zxL hU;have e2:=(hV 2 aT).trans Tk;have e7:=(hV 7 aT).trans Gf;have e8:=(hV 8 aT).trans znT;have zKM:=h6;have zI9:=tH;have zKx:=Nc;refine λTf hT=>Ig zpf ⟨bT.pv,bT.any (λkk gA hm=>?_),bT.pv,bT.pv,bT.any (λkk gA hm=>?_),bT.ld,bT.act (v:=V 57) 0 rfl (eE rfl) ?_,bT.act (v:=V 58) 1 rfl (eE rfl) ?_,bT.pv,.skp 2 rfl (eE rfl) rfl ?_,trivial⟩
 .rcases kk with _|_|_|_|kk
  .show(aO _ _).run _ (w.drew)=wW _ (w.drew);have hh:=h6;unfold aO;go_simp
  .show(aO _ _).run _ ((w.alloc (.cells #[.int .i64 xc,.int .i64 xp] 100)).drew)=wW _ ((w.alloc (.cells #[.int .i64 xc,.int .i64 xp] 100)).drew);have hh:=Bo h6 (.cells #[.int .i64 xc,.int .i64 xp] 100);unfold aO;go_simp
  .exact absurd hm vT
  .exact absurd hm vT
  .simp at gA
 .have i0:(0:Int)<=(k:Int):=aC
  have i1:(k:Int)<(nW:Int):=by have:=tG;omega
  unfold aO;go_simp
 .rw[zpj];show(aO _ _).run _ (w.drew)=wW _ ((w.alloc (.cells #[.int .i64 xc,.int .i64 xp] 100)).drew);unfold aO;go_simp
 .rw[zuF];exact zdB rfl (oA hT Ww) (oA hT zpj) fM
 .have hs:=aY;have hf:=nZ;show(aO _ _).run _ (w3)=wW _ (w3.setCell ⟨gb,6,none⟩ (.slice (some ⟨g1,0,none⟩) (nB+1) c1));unfold aO;go_simp
end Go.Proofs.YtfcjiloojkjaeaaGreatDoor
namespace Go.Proofs.YtfcjiloojkjaeaaGreatDoor
open Go.RowKit
def Wq (lo:Nat)(v:fL)(w:aE)(bt:bY×List UInt8)(x:Ending)(w':aE):Prop:=
 ∃v',x=.returned (.tuple #[.agg (fS v' bt.1),.string ⟨bt.2.toArray⟩])/\dZ w' lo v' bt.1/\oV v w w'/\xM w.heap.size v v'
structure Ub (r:bY):Prop where
 off:sP r.o=true
 nr:r.recs.length<=1000
 nw:r.wait.length<=1000
 nb:r.back.length<=5000
 nl:r.log.length<=1000
 clk:0<=r.clk/\r.clk<=100000
abbrev Gv (c:bE):Obj:=.cells #[.int .i64 c.c,.int .i64 c.p] 100
variable {o:Option Nat}{i:Nat}
theorem V9 (h:o=some i):Gt o=(i:Int):=by rw[h];rfl
theorem zgI (h:o=none):Gt o= -1:=by rw[h];rfl
variable {o:fQ}{rs:List bR}{l:Int}
theorem zhD (h:l∈oT o rs):1<=l/\l<=o.ln:=by
 unfold oT yH at h;rw[L8,Ug] at h;obtain⟨⟨i,hi,rfl⟩,_⟩:=h;rw[El] at hi;omega
variable {b:bY}
theorem zwL {c:bE}(h:(hY b.recs c.c).isSome=true\/(uC b.back c.c).isSome=true):pE b c=(b,[107,110,111,119,110]):=by
 unfold pE;rw[if_pos tD]
theorem zFN (lo:Nat)(v:fL)(r:bY)(c:bE)(w:aE)(h:dZ w lo v r)(hs:Ub r)(eF:lo<=w.heap.size):
 gH aK 63 #[.agg (fS v r),.agg #[.int .i64 c.c,.int .i64 c.p]] w (Wq lo v w (pE r c)):=by
 obtain⟨gb,eY⟩:=aP w.heap.size;have hl:=h.lts;obtain⟨O,hO⟩:=aP (.cells (fS v r) 59:Obj);obtain⟨C,hC⟩:=aP (.cells #[.int .i64 c.c,.int .i64 c.p] 100:Obj);obtain⟨Z,hZ⟩:=aP (lA:Obj);have lO:(((w.alloc O).alloc C).alloc Z).heap[gb]? =some (G8 v r):=by rw[hO,eY];exact dG (dG (gP _ _) _) _
 have qY:(((w.alloc O).alloc C).alloc Z).heap[gb+1]? =some (Gv c):=by rw[hC,eY];exact dG (lZ _ _ aN) _
 have qO:(((w.alloc O).alloc C).alloc Z).heap[gb+2]? =some lA:=by rw[<-hZ];exact lZ _ _ Yq
 have jI:=aD (((h.alloc O).alloc C).alloc Z);have Ex:=aD (oV.of_below v (eT (eT (eT (fW w.heap.size w) O) C) Z));have pR:=aD (show(((w.alloc O).alloc C).alloc Z).heap.size=gb+3 by rw[eY];simp);have yU:=aD lO;have zb2:=aD qY;have znl:=aD qO;have HO:=aD hO;have HC:=aD hC;have HZ:=aD (show Z=.cells #[.int .i64 0,.int .i64 0,.int .i64 0,.int .i64 0,.slice none 0 0,.slice none 0 0,.slice none 0 0,.slice none 0 0] 59 from hZ);have fX:=aD eY;have HL:=aD hl;clear hO hC hZ eY lO qY qO h hl
 go_enter Tryz.func63,Tryz.ntmps63
 go_upto_region 1 with fail
 rw[<-HO.o,<-HC.o,<-HZ.o,<-fX.o];obtain⟨W1,cZ⟩:=aP (((w.alloc O).alloc C).alloc Z);rw[<-cZ] at yU zb2 znl jI Ex pR⊢;clear cZ;have k:=aI yU.o;obtain⟨k0,k1,k2,k3,k4,k5,k6,k7⟩:=eN k;clear k;have Pt:=hs.nr
 go_upto_region 2 with(go_at_call 90;refine(zsE lo v r W1 jI.o aC hs.off).mono ?_;rintro x w2 ⟨_,rfl,gf,cf,rfl,cT,b2⟩;have Ta:=aD cT;have jR:=aD b2;clear cT b2)
 have jW:=aD (jI.o.below jR.o);have Sb:=aD (Ex.o.same (oV.of_below v jR.o));have Hh:=(mP jR.o yU.o).1;have Ie:=(mP jR.o zb2.o).1;have j9:=aD (mP jR.o znl.o).1;have zm7:=aD Hh;have znW:=aD Ie;have zgu:=aD (show gb+3<=w2.heap.size by have:=jR.o.size;have:=pR.o;omega);have zdp:=aD (Ta.o.lt gf rfl);clear k0 k1 k2 k3 k4 k5 k6 k7;have k:=aI Hh;obtain⟨k0,k1,k2,k3,k4,k5,k6,k7⟩:=eN k;have q:=aI Ie;have q0:=q 0;have q1:=q 1;have r0:=eW j9.o;have z:=aI j9.o;obtain⟨z0,z1,z2,z3,z4,z5,z6,z7⟩:=eN z;have vK:=aD jW.o.slcR;have Fg:=aD jW.o.slcB;have nX:=hs.nb;clear k q z Hh Ie;rcases hop:hY r.recs c.c with _|i
 .have zaY:=aD (zgI hop)
  rcases uP:uC r.back c.c with _|j
  .have P4:=aD (zgI uP)
   have fB:=aD (show gJ w w2 lo gb 3 v v r from⟨jW.o,Sb.o,xM.refl _ _,fX.o,zm7.o,zgu.o,aC,by have:=HL.o;have:=fX.o;omega,by have:=HL.o;have:=fX.o;omega,by have:=HL.o;have:=fX.o;omega,by have:=HL.o;have:=fX.o;omega,by rw[fX.o];exact eF⟩);rcases fZ:oT r.o r.recs with _|⟨l,fs⟩
   .have fE:=aD (show pE r c=({r with back:=r.back++[c]},[98,117,115,121]) by unfold pE;rw[if_neg (by simp[hop,uP]),fZ])
    simp only[wD];clear hop uP fZ;obtain⟨i0,eR,fG,dB,gQ⟩:=Ch zez;have HI:=aD eR;clear eR
    go_upto_region 6 with(first
     |(go_at_call 91;refine(Kv lo w2.heap.size r.recs.length v.cR (some ⟨v.gR,0,none⟩) r.recs c.c w2 vK.o aC).mono ?_;rintro x w' ⟨rfl,jT⟩;obtain rfl:=jT.symm;rw[zaY.o])
     |(go_at_call 92;refine(zdm lo w2.heap.size r.back.length v.cB (some ⟨v.gB,0,none⟩) r.back c.c w2 Fg.o aC).mono ?_;rintro x w' ⟨rfl,jT⟩;obtain rfl:=jT.symm;rw[P4.o])
     |(at_builtin;refine ziT _ rfl (.tmp 30) (.tmp 32) 57 rfl lo 100 i0 (.agg #[.int .i64 0,.int .i64 0]) 2 16 Lf HI.o fG dB gQ rfl aH v.gB v.cB r.back.length (bH r.back) rfl ((jW.o.alloc _).bk) ⟨_,0,none⟩ 1 1 c.cells rfl rfl ?c2 Sk ?c5 ?c6 ?c7 ?_;(case c2=>exact Dn (cs:=c.cells.toArray) (gP _ _));(case c5=>unfold maxLen;omega);(case c6=>omega);(case c7=>(have:=fB.o.lob;have:=zgu.o;simp;omega));intro g1 c1 w3 rD qR B1 Ji;have Ck:=aD ((fB.o.alloc _).appB qR rD rfl Ji);have zHL:=aD (zQ qR (dG j9.o _) (by have:=fB.o.aB;omega));have kx:=(zQ qR (dG zm7.o _) (by have:=fB.o.aB;omega)).1;have Pq:=aI kx 6;have xD:=eW kx;clear rD qR B1 Ji kx))
    obtain⟨W4,rF⟩:=aP (w3.setCell ⟨gb,6,none⟩ (.slice (some ⟨g1,0,none⟩) (r.back.length+1) c1));rw[<-rF] at Ck⊢;have zFy:=aD (show W4.heap[gb+2]? =some lA by rw[rF];exact(dU w3 _ _ (gb+2) aN).trans zHL.o.1);clear rF Pq xD;obtain⟨v4,Hc⟩:=aP ({v with gB:=g1,cB:=c1}:fL);obtain⟨r4,M5⟩:=aP ({r with back:=r.back++[c]}:bY);rw[<-Hc,<-M5] at Ck;rw[<-M5] at fE;clear Hc M5;have k:=aI Ck.o.blk;obtain⟨k0,k1,k2,k3,k4,k5,k6,k7⟩:=eN k;have j9:=zFy;have z:=aI j9.o;obtain⟨z0,z1,z2,z3,z4,z5,z6,z7⟩:=eN z;have r0:=eW j9.o;clear k z
    go_wp2_with fail
    have er:=aI (tJ v4 r4 j9.o);refine nM (v:=.tuple #[.agg (fS (v4) (r4)),.string ⟨([98,117,115,121]:List UInt8).toArray⟩]) ?_ rfl ?_
    .unfold gU at er
     simp[results,zfY,go_sem,er]
    .rw[fE.o]
     obtain⟨d1,d2,d3⟩:=Ck.o.done (b:=gb+2) aC;exact⟨v4,rfl,d1,d2,d3⟩
   .obtain⟨nf,E7⟩:=aP ((l::fs).length)
    have zO:=znF r.recs r.o.ln.toNat;have zmc:=(Cu hs.off).2.1;have I5:(oT r.o r.recs).length=nf:=by rw[fZ,E7]
    have zpN:nf<=6:=by unfold oT at I5;omega
    have zbR:0<nf:=by rw[E7];simp
    have Yz:=zhD (o:=r.o) (rs:=r.recs) (l:=l) (by rw[fZ];simp);have Ps:=aD (show w2.ownsRow W1.heap.size 3 1 (.slice (some ⟨gf,0,none⟩) nf cf) nf (fF (l::fs)) by have:=Ta.o;rw[I5,fZ] at this;exact this);have Md:w2.cell? ⟨gf,0,none⟩=some (.int .i64 l):=Ps.o.cellAt 0 aC;rw[<-E7];have fE:=aD (show pE r c=({r with recs:=r.recs++[⟨c.c,l,0,r.clk,-1,-1,eJ⟩],wait:=uA r.wait c},[108,105,110,101,32]++gM l) by unfold pE;rw[if_neg (by simp[hop,uP]),fZ]);have zrl:=aD Yz;have nZ:((nf:Int)==0)=false:=oX;have zCr:(0:Int)<(nf:Int):=aC;clear hop uP fZ E7 zO zmc I5 Yz
    go_upto_region 7 with(first
     |(go_at_call 91;refine(Kv lo w2.heap.size r.recs.length v.cR (some ⟨v.gR,0,none⟩) r.recs c.c w2 vK.o aC).mono ?_;rintro x w' ⟨rfl,jT⟩;obtain rfl:=jT.symm;rw[zaY.o])
     |(go_at_call 92;refine(zdm lo w2.heap.size r.back.length v.cB (some ⟨v.gB,0,none⟩) r.back c.c w2 Fg.o aC).mono ?_;rintro x w' ⟨rfl,jT⟩;obtain rfl:=jT.symm;rw[P4.o]))
    go_cut [] from 36 to 48 (λwx=>∃g1 c1,gJ w wx lo gb 3 v {v with gR:=g1,cR:=c1} {r with recs:=r.recs++[⟨c.c,l,0,r.clk,-1,-1,eJ⟩]}/\wx.heap[gb+1]? =some (Gv c)/\wx.heap[gb+2]? =some lA/\wx.ownsRow W1.heap.size 3 1 (.slice (some ⟨gf,0,none⟩) nf cf) nf (fF (l::fs)))
    case first=>
     obtain⟨i0,eR,fG,dB,gQ⟩:=Ch zom;have HI:=aD eR;clear eR;have zKl:=zdp.o;have zIU:gb+3<=W1.heap.size:=by have:=pR.o;omega
     have zh7:v.gR<gb:=by have:=HL.o;have:=fX.o;omega
     have kB:∀o:Obj,(w2.alloc o).cell? ⟨gb,4,none⟩=some (v.sR r):=λo=>Bo k4 o;have zks:gb<w2.heap.size:=by have:=zgu.o;omega
     have S0:w2.cell? ⟨gb,3,none⟩=some (.int .i64 r.clk)/\w2.cell? ⟨gb+1,0,none⟩=some (.int .i64 c.c)/\w2.cell? ⟨gf,0,none⟩=some (.int .i64 l):=⟨k3,q0,Md⟩;have G9:=aD S0;have zLm:gf≠gb:=aC;clear S0;obtain⟨g1,c1,w3,fM,rD,qR,B1,Ji⟩:=zeE (P:=aK) (w2.alloc (.cells #[.int .i64 c.c,.int .i64 l,.int .i64 0,.int .i64 r.clk,.int .i64 (-1),.int .i64 (-1),.string eJ] 50)).drew 45 45 lo 50 i0 (.agg #[.int .i64 0,.int .i64 0,.int .i64 0,.int .i64 0,.int .i64 0,.int .i64 0,.string ⟨#[]⟩]) 7 64 zqy HI.o fG dB gQ rfl aH v.gR v.cR r.recs.length (recs r.recs) (Al jW.o.rc (λb hb=>qE _ _ b hb)) ⟨w2.heap.size,0,none⟩ 1 1 (bR.cells ⟨c.c,l,0,r.clk,-1,-1,eJ⟩) rfl (Dn (cs:=(bR.cells ⟨c.c,l,0,r.clk,-1,-1,eJ⟩).toArray) (gP _ _)) zj1 Zi aC (by have:=fB.o.lob;have:=zgu.o;simp;omega);have q8:=aD qR;have zbk:=aD rD;have Z6:=aD Ji;have kx:=(zQ qR (dG zm7.o _) aC).1;have zaW:=aI kx 4;have xD:=eW kx;clear rD qR B1 Ji kx;refine wp_RG7 w2 w3 gb gf v.gR r.recs.length v.cR g1 c1 nf cf c.c l r.clk rfl rfl rfl rfl k3 k4 q0 Md aC fM zaW (xD _) rfl ?_;clear fM zaW xD;rw[Go.Mt.Bn,zrQ];simp only[Go.Mt.xN,dP,dQ,fRG7,lRG7,Du,Ee]
     go_wp2_with fail
     go_meet
     have zHh:gf≠v.gR:=aC;refine⟨g1,c1,((fB.o.alloc _).drew).appR q8.o zbk.o rfl Z6.o,?_,?_,?_⟩
     .exact(dU w3 _ _ (gb+1) aN).trans (zQ q8.o (Li (dG znW.o _)) aC).1
     .exact(dU w3 _ _ (gb+2) aN).trans (zQ q8.o (Li (dG j9.o _)) aC).1
     .exact C4 Ps.o ((dU w3 _ _ gf aC).trans ((q8.o.block gf oX (by simp;exact zHh)).trans (qE _ _ gf aC)))
    case rest=>
     obtain⟨g1,c1,Bx,Ie,Hh,fZ⟩:=hcut;clear k0 k1 k2 k3 k4 k5 k6 k7 q0 q1 z0 z1 z2 z3 z4 z5 z6 z7 r0 Md;have Vd:=aD Bx;have znW:=aD Ie;have j9:=aD Hh;have Ps:=aD fZ;obtain⟨v1,pA⟩:=aP ({v with gR:=g1,cR:=c1}:fL);obtain⟨r1,j8⟩:=aP ({r with recs:=r.recs++[⟨c.c,l,0,r.clk,-1,-1,eJ⟩]}:bY);have zLu:=aD (show r1.wait=r.wait by rw[j8]);have zIp:r1.wait.length<=1000:=by rw[j8];exact hs.nw
     rw[<-pA,<-j8] at Vd;replace fE:=aD (show pE r c=({r1 with wait:=uA r1.wait c},[108,105,110,101,32]++gM l) by rw[fE.o,j8]);clear pA j8 Bx Ie Hh fZ;have k:=aI Vd.o.blk;have k5:=k 5;have kf:=eW Vd.o.blk;have q:=aI znW.o;have q0:=q 0;have q1:=q 1;clear k q
     go_upto_region 9 with(go_at_call 93;refine(zEV lo wc.heap.size r1.wait.length v1.cW v1.gW r1.wait c wc Vd.o.ok.slcW aC).mono ?_;rintro x w4 ⟨_,rfl,g4,c4,rfl,cT,b4⟩;have Nx:=aD cT;have sD:=aD b4;have kx:=(mP b4 Vd.o.blk).1;have zma:=aI kx 5;have xD:=eW kx;clear cT b4 kx)
     obtain⟨W5,x5⟩:=aP (w4.setCell ⟨gb,5,none⟩ (.slice (some ⟨g4,0,none⟩) (uA r1.wait c).length c4));have Ds:=aD (show gJ w W5 lo gb 3 v {v1 with gW:=g4,cW:=c4} {r1 with wait:=uA r1.wait c} by rw[x5];exact Vd.o.setW sD.o Nx.o rfl);have sZ:=aD (show W5.heap[gb+2]? =some lA by rw[x5];exact(dU w4 _ _ (gb+2) aN).trans (mP sD.o j9.o).1);have zvI:W5.ownsRow W1.heap.size 3 1 (.slice (some ⟨gf,0,none⟩) nf cf) nf (fF (l::fs)):=by
      rw[x5];have:=zdp.o;have:=pR.o;exact C4 Ps.o ((dU w4 _ _ gf sU).trans (sD.o.block gf (Ps.o.lt gf rfl).2))
     have Md:W5.cell? ⟨gf,0,none⟩=some (.int .i64 l):=zvI.cellAt 0 aC;rw[<-x5];clear x5 zma xD k5 kf q0 q1 zvI;obtain⟨v5,nV⟩:=aP ({v1 with gW:=g4,cW:=c4}:fL);obtain⟨r5,eP⟩:=aP ({r1 with wait:=uA r1.wait c}:bY);rw[<-nV,<-eP] at Ds;rw[<-eP] at fE;clear nV eP;obtain⟨m,hm⟩:∃m:Nat,l=(m:Int):=⟨l.toNat,by have:=zrl.o;omega⟩;have zdy:m<=100000000:=by have:=zrl.o;have:=(Cu hs.off).2.1;omega
     have Jo:(Lh (m:Int)).length<=20:=by rw[Vb];exact Un aC
     rw[hm] at Md fE;clear hm;have k:=aI Ds.o.blk;obtain⟨k0,k1,k2,k3,k4,k5,k6,k7⟩:=eN k;clear k
     go_wp2_with fail
     go_region_with (go_at_call 94;refine(zaC m zdy _).mono ?_;rintro x w6 ⟨rfl,uE⟩;have Ae:cF W5.heap.size W5 w6:=⟨uE.os,uE.tape,uE.output,uE.size,uE.block⟩;have kQ:=aD Ae;have k:=aI (mP Ae Ds.o.blk).1;have r0:=eW (mP Ae sZ.o).1;have z:=aI (mP Ae sZ.o).1;obtain⟨k0,k1,k2,k3,k4,k5,k6,k7⟩:=eN k;obtain⟨z0,z1,z2,z3,z4,z5,z6,z7⟩:=eN z;clear k z uE Ae)
     all_goals
      go_wp2_with fail
      have Fv:=Ds.o.keep kQ.o;have Tq:=(mP kQ.o sZ.o).1;have er:=aI (tJ v5 r5 Tq);refine nM (v:=.tuple #[.agg (fS v5 r5),.string ⟨([108,105,110,101,32]++gM (m:Int):List UInt8).toArray⟩]) ?_ rfl ?_
      .unfold gU at er
       simp[results,zfY,go_sem,er,gM,Mx]
       done
      .rw[fE.o]
       obtain⟨d1,d2,d3⟩:=Fv.done (b:=gb+2) aC;exact⟨v5,rfl,d1,d2,d3⟩
  .have P4:=aD (V9 uP)
   have zjS:(0:Int)<=(j:Int):=aC;have fE:=aD (zwL (b:=r) (c:=c) (.inr (by rw[uP];rfl)));clear hop uP
   go_wp2_with (first
    |(go_at_call 91;refine(Kv lo w2.heap.size r.recs.length v.cR (some ⟨v.gR,0,none⟩) r.recs c.c w2 vK.o aC).mono ?_;rintro x w' ⟨rfl,jT⟩;obtain rfl:=jT.symm;rw[zaY.o])
    |(go_at_call 92;refine(zdm lo w2.heap.size r.back.length v.cB (some ⟨v.gB,0,none⟩) r.back c.c w2 Fg.o aC).mono ?_;rintro x w' ⟨rfl,jT⟩;obtain rfl:=jT.symm;rw[P4.o]))
   have er:=aI (tJ v r j9.o);refine nM (v:=.tuple #[.agg (fS (v) (r)),.string ⟨([107,110,111,119,110]:List UInt8).toArray⟩]) ?_ rfl ?_
   .unfold gU at er
    simp[results,zfY,go_sem,er]
   .rw[fE.o]
    have l:=HL.o;have gg:=fX.o;have l2:=jW.o.lts;exact⟨v,rfl,jW.o.set8 aC,Sb.o.set8 aC,xM.refl _ _⟩
 .have zaY:=aD (V9 hop)
  have eR:(0:Int)<=(i:Int):=aC;have fE:=aD (zwL (b:=r) (c:=c) (.inl (by rw[hop];rfl)));clear hop
  go_wp2_with (go_at_call 91;refine(Kv lo w2.heap.size r.recs.length v.cR (some ⟨v.gR,0,none⟩) r.recs c.c w2 vK.o aC).mono ?_;rintro x w' ⟨rfl,jT⟩;obtain rfl:=jT.symm;rw[zaY.o])
  have er:=aI (tJ v r j9.o);refine nM (v:=.tuple #[.agg (fS (v) (r)),.string ⟨([107,110,111,119,110]:List UInt8).toArray⟩]) ?_ rfl ?_
  .unfold gU at er
   simp[results,zfY,go_sem,er]
  .rw[fE.o]
   have l:=HL.o;have gg:=fX.o;have l2:=jW.o.lts;exact⟨v,rfl,jW.o.set8 aC,Sb.o.set8 aC,xM.refl _ _⟩
structure zdY (r:bY):Prop where
 has:∀x∈r.wait,(hY r.recs x.c).isSome=true
 num:∀x∈r.wait,1<=x.c/\x.c<=99
variable {c:Int}
theorem zA (h:hY rs c=some i):∃d,rs[i]? =some d/\d.c=c/\eD d=true:=by
 unfold hY at h;rw[List.findIdx?_eq_some_iff_getElem] at h;obtain⟨hi,hp,_⟩:=h;refine⟨rs[i],mV hi,?_⟩;unfold Bf at hp;simp at hp;exact hp
variable {w0 w:aE}{gb:Nat}{v:fL}{r:bY}
def gJ.widen {lo:Nat}{v0:fL}(h:gJ w0 w lo gb 2 v0 v r)(hg:v.gR<gb/\v.gW<gb/\v.gB<gb/\v.gL<gb)(hz:gb+3<=w.heap.size):gJ w0 w lo gb 3 v0 v r:=
 ⟨h.ok,h.turn,h.moved,h.base,h.blk,hz,aC,.inl hg.1,.inl hg.2.1,.inl hg.2.2.1,.inl hg.2.2.2,h.lob⟩
theorem zBx (lo:Nat)(v:fL)(r:bY)(op:Int)(w:aE)(h:dZ w lo v r)(hs:Ub r)(eF:lo<=w.heap.size)(hq:zdY r):
 gH aK 64 #[.agg (fS v r),.int .i64 op] w (Wq lo v w (nH r op)):=by
 obtain⟨gb,O,Z,fX,HO,HZ,fB,j9,pR,HL⟩:=zdP h eF;clear h
 go_enter Tryz.func64,Tryz.ntmps64
 go_upto_region 1 with fail
 rw[<-HO.o,<-HZ.o,<-fX.o];obtain⟨W1,cZ⟩:=aP ((w.alloc O).alloc Z);rw[<-cZ] at fB j9 pR⊢;clear cZ;have k:=aI fB.o.blk;obtain⟨k0,k1,k2,k3,k4,k5,k6,k7⟩:=eN k;clear k;have Pt:=hs.nr;have vK:=aD fB.o.ok.slcR;by_cases lT:0<dO r.recs op
 .have fE:=aD (show nH r op=(r,[116,97,108,107,115]) by unfold nH;rw[if_pos lT])
  go_upto_region 2 with(go_at_call 45;refine(U2 lo W1.heap.size r.recs.length v.cR (some ⟨v.gR,0,none⟩) r.recs op W1 vK.o aC).mono ?_;rintro x w2 ⟨rfl,jT⟩;obtain rfl:=jT.symm)
  clear k0 k1 k2 k3 k4 k5 k6 k7 lT;have k:=aI fB.o.blk;obtain⟨k0,k1,k2,k3,k4,k5,k6,k7⟩:=eN k;clear k;have z:=aI j9.o;obtain⟨z0,z1,z2,z3,z4,z5,z6,z7⟩:=eN z;clear z;have r0:=eW j9.o
  go_wp2_with fail
  have er:=aI (tJ v r j9.o);refine nM (v:=.tuple #[.agg (fS (v) (r)),.string ⟨([116,97,108,107,115]:List UInt8).toArray⟩]) ?_ rfl ?_
  .unfold gU at er
   simp[results,ziq,go_sem,er]
  .rw[fE.o]
   obtain⟨d1,d2,d3⟩:=fB.o.done (b:=gb+1) aC;exact⟨v,rfl,d1,d2,d3⟩
 .rcases cE:r.wait with _|⟨c,cs⟩
  .have fE:=aD (show nH r op=(r,[110,111,110,101]) by unfold nH;rw[if_neg lT,cE])
   have Fq:r.wait.length=0:=by rw[cE];rfl
   have zl9:=aD (show v.sW r=.slice (some ⟨v.gW,0,none⟩) 0 v.cW by unfold fL.sW;rw[Fq]);have zsP:W1.cell? ⟨gb,5,none⟩=some (.slice (some ⟨v.gW,0,none⟩) 0 v.cW):=by rw[k5,<-zl9.o];rfl
   clear k5 Fq cE
   go_upto_region 4 with(go_at_call 45;refine(U2 lo W1.heap.size r.recs.length v.cR (some ⟨v.gR,0,none⟩) r.recs op W1 vK.o aC).mono ?_;rintro x w2 ⟨rfl,jT⟩;obtain rfl:=jT.symm)
   clear k0 k1 k2 k3 k4 zsP k6 k7 lT;have k:=aI fB.o.blk;obtain⟨k0,k1,k2,k3,k4,k5,k6,k7⟩:=eN k;clear k;have z:=aI j9.o;obtain⟨z0,z1,z2,z3,z4,z5,z6,z7⟩:=eN z;clear z;have r0:=eW j9.o
   go_wp2_with fail
   have er:=aI (tJ v r j9.o);refine nM (v:=.tuple #[.agg (fS (v) (r)),.string ⟨([110,111,110,101]:List UInt8).toArray⟩]) ?_ rfl ?_
   .unfold gU at er
    simp[results,ziq,go_sem,er]
   .rw[fE.o]
    obtain⟨d1,d2,d3⟩:=fB.o.done (b:=gb+1) aC;exact⟨v,rfl,d1,d2,d3⟩
  .have hc:=hq.num c Yx
   obtain⟨i,wL⟩:=zlO.1 (hq.has c Yx);obtain⟨d,hd,zcZ,-⟩:=zA wL;have fE:=aD (show nH r op=({r with recs:=r.recs.modify i λd=>{d with o:=op,h:=r.clk},wait:=dS r.wait c.c},[99,97,108,108,32]++gM c.c) by unfold nH;rw[if_neg lT,cE];simp only[wL]);have Fq:0<r.wait.length:=by rw[cE];simp
   have zcA:=aD (show r.wait[0]? =some c by rw[cE];rfl);have zjz:=fB.o.ok.slcW;have U0:=aD zjz;obtain⟨b0,zHx,d0,Kq,-,-,-,tH,e0,e1⟩:=zjz.callsAt (k:=0) Fq;rw[zcA.o] at tH;injection tH with tH;injection Kq with Kq;injection Kq with As Ag;subst As Ag tH;simp only[qH,zoy] at e0 e1;have zAl:(((r.wait.length:Nat):Int)==0)=false:=by simp;intro e;rw[e] at Fq;simp at Fq
   have i0:(0:Int)<(r.wait.length:Int):=aC;have Oc:=aD (V9 wL);have HD:=aD hd;clear wL hd zcZ cE zjz
   go_upto_region 5 with(go_at_call 45;refine(U2 lo W1.heap.size r.recs.length v.cR (some ⟨v.gR,0,none⟩) r.recs op W1 vK.o aC).mono ?_;rintro x w2 ⟨rfl,jT⟩;obtain rfl:=jT.symm)
   clear k0 k1 k2 k3 k4 k6 k7 lT
   go_upto_region 6 with fail
   rw[pR.o];obtain⟨W2,oE⟩:=aP (W1.alloc (Gv c));rw[<-oE];have za3:=aD (show gJ w W2 lo gb 3 v v r by rw[oE];exact(fB.o.alloc _).widen HL.o (by have:=pR.o;simp;omega));have Dv:=aD (show W2.heap[gb+1]? =some lA by rw[oE];exact dG j9.o _);have zxc:=aD (show W2.heap[gb+2]? =some (Gv c) by rw[oE];exact lZ _ _ pR.o.symm);clear oE e0 e1 k5;have zAJ:=aD za3.o.ok.slcR;have k:=aI za3.o.blk;obtain⟨k0,k1,k2,k3,k4,k5,k6,k7⟩:=eN k;clear k;have q:=aI zxc.o;have q0:=q 0;have q1:=q 1;clear q
   go_upto_region 7 with(go_at_call 91;refine(Kv lo W2.heap.size r.recs.length v.cR (some ⟨v.gR,0,none⟩) r.recs c.c W2 zAJ.o aC).mono ?_;rintro x w2 ⟨rfl,jT⟩;obtain rfl:=jT.symm;rw[Oc.o])
   have hi:=(kP.1 HD.o).1;have eR:(0:Int)<=(i:Int):=aC;have Af:(i:Int)<(r.recs.length:Int):=aC;obtain⟨c0,c1,c2,c3,c4,c5,c6⟩:=za3.o.ok.recAt HD.o;have fz:=λj=>za3.o.ok.rc.frozenAt j;have S1:=za3.o.setR (λd=>{d with o:=op}) HD.o (j:=2) (u:=.int .i64 op) aH zr6 rfl;have mK:=aD S1;have Qg:gb+1≠v.gR:=by have:=HL.o;omega
   have zwG:gb+2≠v.gR:=by have:=HL.o;omega
   clear S1
   go_upto_region 8 with fail
   obtain⟨W3,sS⟩:=aP (W2.setCell ⟨v.gR,i*7+2,none⟩ (.int .i64 op));rw[<-sS] at mK⊢;have zcd:=aD (show W3.heap[gb+1]? =some lA by rw[sS];exact(dU _ _ _ (gb+1) Qg).trans Dv.o);have zfx:=aD (show W3.heap[gb+2]? =some (Gv c) by rw[sS];exact(dU _ _ _ (gb+2) zwG).trans zxc.o);have Bv:(r.recs.modify i λd=>{d with o:=op})[i]? =some {d with o:=op}:=by rw[J0];simp[HD.o]
   have Ya:=aD Bv;clear sS c0 c1 c2 c3 c4 c5 c6 fz k0 k1 k2 k3 k4 k5 k6 k7 q0 q1 Bv;obtain⟨r1,j8⟩:=aP ({r with recs:=r.recs.modify i λd=>{d with o:=op}}:bY);rw[<-j8] at mK;have jI:=aD j8;have Jd:r1.recs.length=r.recs.length:=by rw[j8];exact Lt _ _ _
   have zt4:=aD (show r1.recs[i]? =some {d with o:=op} by rw[j8];exact Ya.o);have M3:(i:Int)<(r1.recs.length:Int):=by rw[Jd];exact Af
   clear j8 Jd;have k:=aI mK.o.blk;obtain⟨k0,k1,k2,k3,k4,k5,k6,k7⟩:=eN k;clear k;obtain⟨c0,c1,c2,c3,c4,c5,c6⟩:=mK.o.ok.recAt zt4.o;have fz:=λj=>mK.o.ok.rc.frozenAt j;have S2:=mK.o.setR (λd=>{d with h:=r1.clk}) zt4.o (j:=4) (u:=.int .i64 r1.clk) aH zvc rfl;have sV:=aD S2;clear S2
   go_upto_region 9 with fail
   obtain⟨W4,rF⟩:=aP (W3.setCell ⟨v.gR,i*7+4,none⟩ (.int .i64 r1.clk));rw[<-rF] at sV⊢;have Uz:=aD (show W4.heap[gb+1]? =some lA by rw[rF];exact(dU _ _ _ (gb+1) Qg).trans zcd.o);have Yb:=aD (show W4.heap[gb+2]? =some (Gv c) by rw[rF];exact(dU _ _ _ (gb+2) zwG).trans zfx.o);clear rF c0 c1 c2 c3 c4 c5 c6 fz k0 k1 k2 k3 k4 k5 k6 k7;obtain⟨r2,uH⟩:=aP ({r1 with recs:=r1.recs.modify i λd=>{d with h:=r1.clk}}:bY);rw[<-uH] at sV;have zKg:r2.wait.length<=1000:=by rw[uH,jI.o];exact hs.nw
   replace fE:=aD (show nH r op=({r2 with wait:=dS r2.wait c.c},[99,97,108,108,32]++gM c.c) by rw[fE.o,uH,jI.o];simp only[zhK]);clear uH;have zyS:=aD sV.o.ok.slcW;have k:=aI sV.o.blk;obtain⟨k0,k1,k2,k3,k4,k5,k6,k7⟩:=eN k;clear k;have q:=aI Yb.o;have q0:=q 0;have q1:=q 1;clear q;have kf:=eW sV.o.blk
   go_upto_region 10 with(go_at_call 95;refine(zhe lo W4.heap.size r2.wait.length v.cW (some ⟨v.gW,0,none⟩) r2.wait c.c W4 zyS.o aC).mono ?_;rintro x w5 ⟨_,rfl,g5,c5,rfl,cT,b5⟩;have zaa:=aD cT;have lN:=aD b5;have kx:=(mP b5 sV.o.blk).1;have zma:=aI kx 5;have xD:=eW kx;clear cT b5 kx)
   obtain⟨W5,x5⟩:=aP (w5.setCell ⟨gb,5,none⟩ (.slice (some ⟨g5,0,none⟩) (dS r2.wait c.c).length c5));have Ds:=aD (show gJ w W5 lo gb 3 v {v with gW:=g5,cW:=c5} {r2 with wait:=dS r2.wait c.c} by rw[x5];exact sV.o.setW lN.o zaa.o rfl);have sZ:=aD (show W5.heap[gb+1]? =some lA by rw[x5];exact(dU w5 _ _ (gb+1) zlI).trans (mP lN.o Uz.o).1);have zkX:=aD (show W5.heap[gb+2]? =some (Gv c) by rw[x5];exact(dU w5 _ _ (gb+2) (by show gb+2≠gb;omega)).trans (mP lN.o Yb.o).1);rw[<-x5];clear x5 zma xD kf q0 q1 k0 k1 k2 k3 k4 k5 k6 k7;obtain⟨v5,nV⟩:=aP ({v with gW:=g5,cW:=c5}:fL);obtain⟨r5,eP⟩:=aP ({r2 with wait:=dS r2.wait c.c}:bY);rw[<-nV,<-eP] at Ds;rw[<-eP] at fE;clear nV eP;obtain⟨m,hm⟩:∃m:Nat,c.c=(m:Int):=⟨c.c.toNat,aC⟩;have zdy:m<=100000000:=aC;have Jo:(Lh (m:Int)).length<=20:=by rw[Vb];exact Un aC
   have k:=aI Ds.o.blk;obtain⟨k0,k1,k2,k3,k4,k5,k6,k7⟩:=eN k;clear k;have q0:=aI zkX.o 0;rw[hm] at q0 fE;clear hm
   go_wp2_with fail
   go_region_with (go_at_call 94;refine(zaC m zdy _).mono ?_;rintro x w6 ⟨rfl,uE⟩;have Ae:cF W5.heap.size W5 w6:=⟨uE.os,uE.tape,uE.output,uE.size,uE.block⟩;have kQ:=aD Ae;have k:=aI (mP Ae Ds.o.blk).1;have r0:=eW (mP Ae sZ.o).1;have z:=aI (mP Ae sZ.o).1;obtain⟨k0,k1,k2,k3,k4,k5,k6,k7⟩:=eN k;obtain⟨z0,z1,z2,z3,z4,z5,z6,z7⟩:=eN z;clear k z uE Ae)
   all_goals
    go_wp2_with fail
    have Fv:=Ds.o.keep kQ.o;have Tq:=(mP kQ.o sZ.o).1;have er:=aI (tJ v5 r5 Tq);refine nM (v:=.tuple #[.agg (fS (v5) (r5)),.string ⟨([99,97,108,108,32]++gM (m:Int):List UInt8).toArray⟩]) ?_ rfl ?_
    .unfold gU at er
     simp[results,ziq,go_sem,er,gM,Mx]
    .rw[fE.o]
     obtain⟨d1,d2,d3⟩:=Fv.done (b:=gb+1) aC;exact⟨v5,rfl,d1,d2,d3⟩
theorem zy8 (lo:Nat)(v:fL)(r:bY)(op:Int)(w:aE)(h:dZ w lo v r)(hs:Ub r)(eF:lo<=w.heap.size)(hq:∀x∈r.back,1<=x.c/\x.c<=99):
 gH aK 65 #[.agg (fS v r),.int .i64 op] w (Wq lo v w (l8 r op)):=by
 obtain⟨gb,O,Z,fX,HO,HZ,fB,j9,pR,HL⟩:=zdP h eF;clear h
 go_enter Tryz.func65,Tryz.ntmps65
 go_upto_region 1 with fail
 rw[<-HO.o,<-HZ.o,<-fX.o];obtain⟨W1,cZ⟩:=aP ((w.alloc O).alloc Z);rw[<-cZ] at fB j9 pR⊢;clear cZ;have k:=aI fB.o.blk;obtain⟨k0,k1,k2,k3,k4,k5,k6,k7⟩:=eN k;clear k;have Pt:=hs.nr
 go_upto_region 2 with(go_at_call 90;refine(zsE lo v r W1 fB.o.ok aC hs.off).mono ?_;rintro x w2 ⟨_,rfl,gf,cf,rfl,cT,b2⟩;have Ta:=aD cT;have jR:=aD b2;clear cT b2)
 have mF:=aD (fB.o.keep jR.o);have Dv:=aD (mP jR.o j9.o).1;have zdp:=aD (Ta.o.lt gf rfl);clear k0 k1 k2 k3 k4 k5 k6 k7;have k:=aI mF.o.blk;obtain⟨k0,k1,k2,k3,k4,k5,k6,k7⟩:=eN k;clear k;have vK:=aD mF.o.ok.slcR;by_cases lT:0<dO r.recs op
 .have fE:=aD (show l8 r op=(r,[116,97,108,107,115]) by unfold l8;rw[if_pos lT])
  go_upto_region 3 with(go_at_call 45;refine(U2 lo w2.heap.size r.recs.length v.cR (some ⟨v.gR,0,none⟩) r.recs op w2 vK.o aC).mono ?_;rintro x w9 ⟨rfl,jT⟩;obtain rfl:=jT.symm)
  clear k0 k1 k2 k3 k4 k5 k6 k7 lT;have k:=aI mF.o.blk;obtain⟨k0,k1,k2,k3,k4,k5,k6,k7⟩:=eN k;clear k;have z:=aI Dv.o;obtain⟨z0,z1,z2,z3,z4,z5,z6,z7⟩:=eN z;clear z;have r0:=eW Dv.o
  go_wp2_with fail
  have er:=aI (tJ v r Dv.o);refine nM (v:=.tuple #[.agg (fS (v) (r)),.string ⟨([116,97,108,107,115]:List UInt8).toArray⟩]) ?_ rfl ?_
  .unfold gU at er
   simp[results,zdV,go_sem,er]
  .rw[fE.o]
   obtain⟨d1,d2,d3⟩:=mF.o.done (b:=gb+1) aC;exact⟨v,rfl,d1,d2,d3⟩
 .rcases uX:r.back with _|⟨c,cs⟩
  .have fE:=aD (show l8 r op=(r,[110,111,110,101]) by unfold l8;rw[if_neg lT,uX])
   have Fq:r.back.length=0:=by rw[uX];rfl
   have zl9:=aD (show v.sB r=.slice (some ⟨v.gB,0,none⟩) 0 v.cB by unfold fL.sB;rw[Fq]);have zfg:w2.cell? ⟨gb,6,none⟩=some (.slice (some ⟨v.gB,0,none⟩) 0 v.cB):=by rw[k6,<-zl9.o];rfl
   clear k6 Fq uX
   go_upto_region 5 with(go_at_call 45;refine(U2 lo w2.heap.size r.recs.length v.cR (some ⟨v.gR,0,none⟩) r.recs op w2 vK.o aC).mono ?_;rintro x w9 ⟨rfl,jT⟩;obtain rfl:=jT.symm)
   clear k0 k1 k2 k3 k4 k5 zfg k7 lT;have k:=aI mF.o.blk;obtain⟨k0,k1,k2,k3,k4,k5,k6,k7⟩:=eN k;clear k;have z:=aI Dv.o;obtain⟨z0,z1,z2,z3,z4,z5,z6,z7⟩:=eN z;clear z;have r0:=eW Dv.o
   go_wp2_with fail
   have er:=aI (tJ v r Dv.o);refine nM (v:=.tuple #[.agg (fS (v) (r)),.string ⟨([110,111,110,101]:List UInt8).toArray⟩]) ?_ rfl ?_
   .unfold gU at er
    simp[results,zdV,go_sem,er]
   .rw[fE.o]
    obtain⟨d1,d2,d3⟩:=mF.o.done (b:=gb+1) aC;exact⟨v,rfl,d1,d2,d3⟩
  .have hc:=hq c zbK
   have Fq:0<r.back.length:=by rw[uX];simp
   have zcA:=aD (show r.back[0]? =some c by rw[uX];rfl);have zAl:(((r.back.length:Nat):Int)==0)=false:=by simp;intro e;rw[e] at Fq;simp at Fq
   rcases fZ:oT r.o r.recs with _|⟨l,fs⟩
   .have fE:=aD (show l8 r op=(r,[98,117,115,121]) by unfold l8;rw[if_neg lT,uX,fZ])
    simp only[wD];clear uX fZ
    go_upto_region 7 with(go_at_call 45;refine(U2 lo w2.heap.size r.recs.length v.cR (some ⟨v.gR,0,none⟩) r.recs op w2 vK.o aC).mono ?_;rintro x w9 ⟨rfl,jT⟩;obtain rfl:=jT.symm)
    clear k0 k1 k2 k3 k4 k5 k6 k7 lT;have k:=aI mF.o.blk;obtain⟨k0,k1,k2,k3,k4,k5,k6,k7⟩:=eN k;clear k;have z:=aI Dv.o;obtain⟨z0,z1,z2,z3,z4,z5,z6,z7⟩:=eN z;clear z;have r0:=eW Dv.o
    go_wp2_with fail
    have er:=aI (tJ v r Dv.o);refine nM (v:=.tuple #[.agg (fS (v) (r)),.string ⟨([98,117,115,121]:List UInt8).toArray⟩]) ?_ rfl ?_
    .unfold gU at er
     simp[results,zdV,go_sem,er]
    .rw[fE.o]
     obtain⟨d1,d2,d3⟩:=mF.o.done (b:=gb+1) aC;exact⟨v,rfl,d1,d2,d3⟩
   .have fE:=aD (show l8 r op=({r with back:=dS r.back c.c,recs:=r.recs++[⟨c.c,l,op,r.clk,r.clk,-1,eJ⟩]},[99,97,108,108,32]++gM c.c) by unfold l8;rw[if_neg lT,uX,fZ])
    obtain⟨nf,E7⟩:=aP ((l::fs).length);have zO:=znF r.recs r.o.ln.toNat;have zmc:=(Cu hs.off).2.1;have I5:(oT r.o r.recs).length=nf:=by rw[fZ,E7]
    have zpN:nf<=6:=by unfold oT at I5;omega
    have zbR:0<nf:=by rw[E7];simp
    have Ps:=aD (show w2.ownsRow W1.heap.size 3 1 (.slice (some ⟨gf,0,none⟩) nf cf) nf (fF (l::fs)) by have:=Ta.o;rw[I5,fZ] at this;exact this);rw[<-E7];have nZ:((nf:Int)==0)=false:=oX;have zCr:(0:Int)<(nf:Int):=aC;have i0:(0:Int)<(r.back.length:Int):=aC;have D4:=mF.o.ok.slcB;obtain⟨b0,zHx,d0,Kq,-,-,-,tH,e0,e1⟩:=D4.callsAt (k:=0) Fq;rw[zcA.o] at tH;injection tH with tH;injection Kq with Kq;injection Kq with As Ag;subst As Ag tH;simp only[qH,zoy] at e0 e1;clear uX fZ E7 zO zmc I5 D4
    go_upto_region 8 with(go_at_call 45;refine(U2 lo w2.heap.size r.recs.length v.cR (some ⟨v.gR,0,none⟩) r.recs op w2 vK.o aC).mono ?_;rintro x w9 ⟨rfl,jT⟩;obtain rfl:=jT.symm)
    clear k0 k1 k2 k3 k4 k5 k7 lT
    go_upto_region 9 with fail
    obtain⟨gc,Rx⟩:=aP w2.heap.size;have zFU:=aD Rx;rw[<-Rx];obtain⟨W3,sS⟩:=aP (w2.alloc (Gv c));rw[<-sS];have zc6:=aD (show gJ w W3 lo gb 2 v v r by rw[sS];exact mF.o.alloc _);have zcd:=aD (show W3.heap[gb+1]? =some lA by rw[sS];exact dG Dv.o _);have zfx:=aD (show W3.heap[gc]? =some (Gv c) by rw[sS];exact lZ _ _ Rx);have zvY:=aD (show W3.ownsRow W1.heap.size 3 1 (.slice (some ⟨gf,0,none⟩) nf cf) nf (fF (l::fs)) by rw[sS];exact Al Ps.o (λb hb=>qE _ _ b hb));clear sS e0 e1 k6 Rx;have aS:=HL.o;have zII:gb+2<=gf:=by have:=zdp.o;have:=pR.o;omega
    have zIW:gf<gc:=by have:=zdp.o;have:=zFU.o;omega
    have zG2:=aD zc6.o.ok.slcB;have nX:=hs.nb;have k:=aI zc6.o.blk;obtain⟨k0,k1,k2,k3,k4,k5,k6,k7⟩:=eN k;clear k;have q:=aI zfx.o;have q0:=q 0;have q1:=q 1;clear q;have kf:=eW zc6.o.blk
    go_upto_region 10 with(go_at_call 95;refine(zhe lo W3.heap.size r.back.length v.cB (some ⟨v.gB,0,none⟩) r.back c.c W3 zG2.o aC).mono ?_;rintro x w5 ⟨_,rfl,g5,c5,rfl,cT,b5⟩;have zaa:=aD cT;have lN:=aD b5;have kx:=(mP b5 zc6.o.blk).1;have Pq:=aI kx 6;have xD:=eW kx;clear cT b5 kx)
    obtain⟨W4,rF⟩:=aP (w5.setCell ⟨gb,6,none⟩ (.slice (some ⟨g5,0,none⟩) (dS r.back c.c).length c5));have Ck:=aD (show gJ w W4 lo gb 2 v {v with gB:=g5,cB:=c5} {r with back:=dS r.back c.c} by rw[rF];exact zc6.o.setB lN.o zaa.o rfl);have Uz:=aD (show W4.heap[gb+1]? =some lA by rw[rF];exact(dU w5 _ _ (gb+1) zlI).trans (mP lN.o zcd.o).1);have Yb:=aD (show W4.heap[gc]? =some (Gv c) by rw[rF];exact(dU w5 _ _ gc (by show gc≠gb;omega)).trans (mP lN.o zfx.o).1);have zAP:=aD (show W4.ownsRow W1.heap.size 3 1 (.slice (some ⟨gf,0,none⟩) nf cf) nf (fF (l::fs)) by rw[rF];exact C4 zvY.o ((dU w5 _ _ gf (by show gf≠gb;omega)).trans (lN.o.block gf (zvY.o.lt gf rfl).2)));rw[<-rF];clear rF Pq xD kf q0 q1 k0 k1 k2 k3 k4 k5 k6 k7;obtain⟨v1,pA⟩:=aP ({v with gB:=g5,cB:=c5}:fL);obtain⟨r1,j8⟩:=aP ({r with back:=dS r.back c.c}:bY);have zh7:v1.gR=v.gR:=by rw[pA]
    have zKs:v1.gR<gb:=by rw[zh7];exact aS.1
    have zLw:r1.recs.length<=1000:=by rw[j8];exact hs.nr
    rw[<-pA,<-j8] at Ck;replace fE:=aD (show l8 r op=({r1 with recs:=r1.recs++[⟨c.c,l,op,r1.clk,r1.clk,-1,eJ⟩]},[99,97,108,108,32]++gM c.c) by rw[fE.o,j8]);clear pA j8 zh7;have k:=aI Ck.o.blk;obtain⟨k0,k1,k2,k3,k4,k5,k6,k7⟩:=eN k;clear k;have q0:=aI Yb.o 0;have Md:W4.cell? ⟨gf,0,none⟩=some (.int .i64 l):=zAP.o.cellAt 0 aC;have zAY:gc<W4.heap.size:=iZ Yb.o
    go_cut [] from 38 to 53 (λwx=>∃g1 c1,gJ w wx lo gb 2 v {v1 with gR:=g1,cR:=c1} {r1 with recs:=r1.recs++[⟨c.c,l,op,r1.clk,r1.clk,-1,eJ⟩]}/\wx.heap[gc]? =some (Gv c)/\wx.heap[gb+1]? =some lA)
    case first=>
     obtain⟨i0,eR,fG,dB,gQ⟩:=Ch zom;have HI:=aD eR;clear eR;have kB:∀o:Obj,(W4.alloc o).cell? ⟨gb,4,none⟩=some (v1.sR r1):=λo=>Bo k4 o;have zks:gb<W4.heap.size:=aC;have S0:W4.cell? ⟨gb,3,none⟩=some (.int .i64 r1.clk)/\W4.cell? ⟨gc,0,none⟩=some (.int .i64 c.c)/\W4.cell? ⟨gf,0,none⟩=some (.int .i64 l):=⟨k3,q0,Md⟩;have G9:=aD S0;clear S0;obtain⟨g1,c1,w3,fM,rD,qR,B1,Ji⟩:=zeE (P:=aK) (W4.alloc (.cells #[.int .i64 c.c,.int .i64 l,.int .i64 op,.int .i64 r1.clk,.int .i64 r1.clk,.int .i64 (-1),.string eJ] 50)).drew 45 45 lo 50 i0 (.agg #[.int .i64 0,.int .i64 0,.int .i64 0,.int .i64 0,.int .i64 0,.int .i64 0,.string ⟨#[]⟩]) 7 64 zqy HI.o fG dB gQ rfl aH v1.gR v1.cR r1.recs.length (recs r1.recs) (Al Ck.o.ok.rc (λb hb=>qE _ _ b hb)) ⟨W4.heap.size,0,none⟩ 1 1 (bR.cells ⟨c.c,l,op,r1.clk,r1.clk,-1,eJ⟩) rfl (Dn (cs:=(bR.cells ⟨c.c,l,op,r1.clk,r1.clk,-1,eJ⟩).toArray) (gP _ _)) zj1 Zi aC (by have:=Ck.o.lob;simp;omega);have q8:=aD qR;have zbk:=aD rD;have Z6:=aD Ji;have kx:=(zQ qR (dG Ck.o.blk _) aC).1;have zaW:=aI kx 4;have xD:=eW kx;clear rD qR B1 Ji kx;refine wp_RU10 W4 w3 gb gc gf v1.gR r1.recs.length v1.cR g1 c1 _ _ c.c l op r1.clk rfl rfl rfl rfl rfl k3 k4 q0 Md aC fM zaW (xD _) rfl ?_;clear fM zaW xD;rw[Go.Mt.Bn,zst];simp only[Go.Mt.xN,dP,dQ,znA,lRU10,Du,Ee]
     go_wp2_with fail
     go_meet
     refine⟨g1,c1,((Ck.o.alloc _).drew).appR q8.o zbk.o rfl Z6.o,?_,?_⟩
     .exact(dU w3 _ _ gc (by show gc≠gb;omega)).trans (zQ q8.o (Li (dG Yb.o _)) aC).1
     .exact(dU w3 _ _ (gb+1) zlI).trans (zQ q8.o (Li (dG Uz.o _)) aC).1
    case rest=>
     obtain⟨g1,c1,Bx,Ie,Hh⟩:=hcut;clear k0 k1 k2 k3 k4 k5 k6 k7 q0 Md zAY;obtain⟨W5,x5⟩:=aP wc;have zkX:=aD (show W5.heap[gc]? =some (Gv c) by rw[x5];exact Ie);have sZ:=aD (show W5.heap[gb+1]? =some lA by rw[x5];exact Hh);have Ds:=aD (show gJ w W5 lo gb 2 v {v1 with gR:=g1,cR:=c1} {r1 with recs:=r1.recs++[⟨c.c,l,op,r1.clk,r1.clk,-1,eJ⟩]} by rw[x5];exact Bx);clear Bx Ie Hh;rw[<-x5];clear x5;obtain⟨v5,nV⟩:=aP ({v1 with gR:=g1,cR:=c1}:fL);obtain⟨r5,eP⟩:=aP ({r1 with recs:=r1.recs++[⟨c.c,l,op,r1.clk,r1.clk,-1,eJ⟩]}:bY);rw[<-nV,<-eP] at Ds;rw[<-eP] at fE;clear nV eP;obtain⟨m,hm⟩:∃m:Nat,c.c=(m:Int):=⟨c.c.toNat,aC⟩;have zdy:m<=100000000:=aC;have Jo:(Lh (m:Int)).length<=20:=by rw[Vb];exact Un aC
     have k:=aI Ds.o.blk;obtain⟨k0,k1,k2,k3,k4,k5,k6,k7⟩:=eN k;clear k;have q0:=aI zkX.o 0;rw[hm] at q0 fE;clear hm
     go_wp2_with fail
     go_region_with (go_at_call 94;refine(zaC m zdy _).mono ?_;rintro x w6 ⟨rfl,uE⟩;have Ae:cF W5.heap.size W5 w6:=⟨uE.os,uE.tape,uE.output,uE.size,uE.block⟩;have kQ:=aD Ae;have k:=aI (mP Ae Ds.o.blk).1;have r0:=eW (mP Ae sZ.o).1;have z:=aI (mP Ae sZ.o).1;obtain⟨k0,k1,k2,k3,k4,k5,k6,k7⟩:=eN k;obtain⟨z0,z1,z2,z3,z4,z5,z6,z7⟩:=eN z;clear k z uE Ae)
     all_goals
      go_wp2_with fail
      have Fv:=Ds.o.keep kQ.o;have Tq:=(mP kQ.o sZ.o).1;have er:=aI (tJ v5 r5 Tq);refine nM (v:=.tuple #[.agg (fS (v5) (r5)),.string ⟨([99,97,108,108,32]++gM (m:Int):List UInt8).toArray⟩]) ?_ rfl ?_
      .unfold gU at er
       simp[results,zdV,go_sem,er,gM,Mx]
      .rw[fE.o]
       obtain⟨d1,d2,d3⟩:=Fv.done (b:=gb+1) aC;exact⟨v5,rfl,d1,d2,d3⟩
theorem zHf (lo:Nat)(v:fL)(r:bY)(call:Int)(w:aE)(h:dZ w lo v r)(hs:Ub r)(eF:lo<=w.heap.size):
 gH aK 66 #[.agg (fS v r),.int .i64 call] w (Wq lo v w (mH r call)):=by
 obtain⟨gb,O,Z,fX,HO,HZ,fB,j9,pR,HL⟩:=zdP h eF;clear h
 go_enter Tryz.func66,Tryz.ntmps66
 go_upto_region 1 with fail
 rw[<-HO.o,<-HZ.o,<-fX.o];obtain⟨W1,cZ⟩:=aP ((w.alloc O).alloc Z);rw[<-cZ] at fB j9 pR⊢;clear cZ;have k:=aI fB.o.blk;obtain⟨k0,k1,k2,k3,k4,k5,k6,k7⟩:=eN k;clear k;have Pt:=hs.nr;have Mn:=hs.nw;have nX:=hs.nb;have vK:=aD fB.o.ok.slcR;have Fg:=aD fB.o.ok.slcB;have Qg:gb+1≠v.gR:=by have:=HL.o;omega
 have zc5:gb+1≠v.gB:=by have:=HL.o;omega
 have z:=aI j9.o;obtain⟨z0,z1,z2,z3,z4,z5,z6,z7⟩:=eN z;clear z;have r0:=eW j9.o;rcases wL:hY r.recs call with _|i
 .have Oc:=aD (zgI wL)
  rcases uP:uC r.back call with _|j
  .have P4:=aD (zgI uP)
   have fE:=aD (show mH r call=(r,[103,111,110,101]) by unfold mH;rw[wL];simp[uP]);clear wL uP
   go_upto_region 9 with(first|(go_at_call 91;refine(Kv lo W1.heap.size r.recs.length v.cR (some ⟨v.gR,0,none⟩) r.recs call W1 vK.o aC).mono ?_;rintro x w9 ⟨rfl,jT⟩;obtain rfl:=jT.symm;rw[Oc.o])|(go_at_call 92;refine(zdm lo W1.heap.size r.back.length v.cB (some ⟨v.gB,0,none⟩) r.back call W1 Fg.o aC).mono ?_;rintro x w9 ⟨rfl,jT⟩;obtain rfl:=jT.symm;rw[P4.o]))
   clear k0 k1 k2 k3 k4 k5 k6 k7 z0 z1 z2 z3 z4 z5 z6 z7 r0;have k:=aI fB.o.blk;obtain⟨k0,k1,k2,k3,k4,k5,k6,k7⟩:=eN k;clear k;have z:=aI j9.o;obtain⟨z0,z1,z2,z3,z4,z5,z6,z7⟩:=eN z;clear z;have r0:=eW j9.o
   go_wp2_with fail
   have er:=aI (tJ v r j9.o);refine nM (v:=.tuple #[.agg (fS (v) (r)),.string ⟨([103,111,110,101]:List UInt8).toArray⟩]) ?_ rfl ?_
   .unfold gU at er
    simp[results,zgW,go_sem,er]
   .rw[fE.o]
    obtain⟨d1,d2,d3⟩:=fB.o.done (b:=gb+1) aC;exact⟨v,rfl,d1,d2,d3⟩
  .have P4:=aD (V9 uP)
   have zjS:(0:Int)<=(j:Int):=aC;have fE:=aD (show mH r call=({r with back:=dS r.back call},[111,102,102]) by unfold mH;rw[wL];simp[uP]);clear wL uP
   go_upto_region 7 with(first|(go_at_call 91;refine(Kv lo W1.heap.size r.recs.length v.cR (some ⟨v.gR,0,none⟩) r.recs call W1 vK.o aC).mono ?_;rintro x w9 ⟨rfl,jT⟩;obtain rfl:=jT.symm;rw[Oc.o])|(go_at_call 92;refine(zdm lo W1.heap.size r.back.length v.cB (some ⟨v.gB,0,none⟩) r.back call W1 Fg.o aC).mono ?_;rintro x w9 ⟨rfl,jT⟩;obtain rfl:=jT.symm;rw[P4.o]))
   have kf:=eW fB.o.blk
   go_upto_region 8 with(go_at_call 95;refine(zhe lo W1.heap.size r.back.length v.cB (some ⟨v.gB,0,none⟩) r.back call W1 Fg.o aC).mono ?_;rintro x w5 ⟨_,rfl,g5,c5,rfl,cT,b5⟩;have zaa:=aD cT;have lN:=aD b5;have kx:=(mP b5 fB.o.blk).1;have Pq:=aI kx 6;have xD:=eW kx;clear cT b5 kx)
   obtain⟨W4,rF⟩:=aP (w5.setCell ⟨gb,6,none⟩ (.slice (some ⟨g5,0,none⟩) (dS r.back call).length c5));have Ck:=aD (show gJ w W4 lo gb 2 v {v with gB:=g5,cB:=c5} {r with back:=dS r.back call} by rw[rF];exact fB.o.setB lN.o zaa.o rfl);have Uz:=aD (show W4.heap[gb+1]? =some lA by rw[rF];exact(dU w5 _ _ (gb+1) aN).trans (mP lN.o j9.o).1);rw[<-rF];clear rF Pq xD kf k0 k1 k2 k3 k4 k5 k6 k7 z0 z1 z2 z3 z4 z5 z6 z7 r0;obtain⟨v5,nV⟩:=aP ({v with gB:=g5,cB:=c5}:fL);obtain⟨r5,eP⟩:=aP ({r with back:=dS r.back call}:bY);rw[<-nV,<-eP] at Ck;rw[<-eP] at fE;clear nV eP;have k:=aI Ck.o.blk;obtain⟨k0,k1,k2,k3,k4,k5,k6,k7⟩:=eN k;clear k;have z:=aI Uz.o;obtain⟨z0,z1,z2,z3,z4,z5,z6,z7⟩:=eN z;clear z;have r0:=eW Uz.o
   go_wp2_with fail
   have er:=aI (tJ v5 r5 Uz.o);refine nM (v:=.tuple #[.agg (fS (v5) (r5)),.string ⟨([111,102,102]:List UInt8).toArray⟩]) ?_ rfl ?_
   .unfold gU at er
    simp[results,zgW,go_sem,er]
   .rw[fE.o]
    obtain⟨d1,d2,d3⟩:=Ck.o.done (b:=gb+1) aC;exact⟨v5,rfl,d1,d2,d3⟩
 .have Oc:=aD (V9 wL)
  obtain⟨d,hd,-,-⟩:=zA wL;have hi:=(kP.1 hd).1;have eR:(0:Int)<=(i:Int):=aC;have Af:(i:Int)<(r.recs.length:Int):=aC;have hop:opAt r.recs i=d.o:=by unfold opAt;rw[hd]
  obtain⟨c0,c1,c2,c3,c4,c5,c6⟩:=fB.o.ok.recAt hd;have HD:=aD hd;by_cases zuX:0<d.o
  .have fE:=aD (show mH r call=(kI r i Dr,[100,111,110,101]) by unfold mH;rw[wL];simp only;rw[if_pos (by rw[hop];exact zuX)])
   clear wL hd hop
   go_upto_region 3 with(go_at_call 91;refine(Kv lo W1.heap.size r.recs.length v.cR (some ⟨v.gR,0,none⟩) r.recs call W1 vK.o aC).mono ?_;rintro x w9 ⟨rfl,jT⟩;obtain rfl:=jT.symm;rw[Oc.o])
   clear c0 c1 c2 c3 c4 c5 c6 z0 z1 z2 z3 z4 z5 z6 z7 r0
   go_wp2_with (go_at_call 96;refine(zmB lo i v r d Dr W1 fB.o.ok HD.o aC aC zx6).mono ?_;rintro x w5 ⟨g5,c5,rfl,bS,jS,Fa⟩;obtain⟨v5,nV⟩:=aP ({v with gW:=g5,cW:=c5}:fL);obtain⟨r5,eP⟩:=aP (kI r i Dr:bY);rw[<-nV,<-eP] at bS⊢;have Xk:=aD nV;have o6:=aD eP;have wS:=aD bS;have vC:=aD jS;have zkk:=aD Fa;have kr:=jS.blk j9.o Qg zc5;have sZ:=aD kr;have z:=aI kr;have r0:=eW kr;obtain⟨z0,z1,z2,z3,z4,z5,z6,z7⟩:=eN z;clear bS jS Fa kr z nV eP)
   have nV:=Xk.o;have eP:=o6.o;rw[<-eP] at fE;have er:=aI (tJ v5 r5 sZ.o);refine nM (v:=.tuple #[.agg (fS (v5) (r5)),.string ⟨([100,111,110,101]:List UInt8).toArray⟩]) ?_ rfl ?_
   .unfold gU at er
    simp[results,zgW,go_sem,er]
   .rw[fE.o]
    have hl:=HL.o;have hz:=pR.o;have hg:=zkk.o;have eY:=fX.o;exact⟨v5,rfl,wS.o.set8 sU,(fB.o.turn.same vC.o).set8 aC,by rw[nV];exact⟨.inl rfl,.inr L2,.inl rfl,rfl⟩⟩
  .have fE:=aD (show mH r call=(kI r i zV,[108,101,102,116]) by unfold mH;rw[wL];simp only;rw[if_neg (by rw[hop];exact zuX)])
   clear wL hd hop
   go_upto_region 5 with(go_at_call 91;refine(Kv lo W1.heap.size r.recs.length v.cR (some ⟨v.gR,0,none⟩) r.recs call W1 vK.o aC).mono ?_;rintro x w9 ⟨rfl,jT⟩;obtain rfl:=jT.symm;rw[Oc.o])
   clear c0 c1 c2 c3 c4 c5 c6 z0 z1 z2 z3 z4 z5 z6 z7 r0
   go_wp2_with (go_at_call 96;refine(zmB lo i v r d zV W1 fB.o.ok HD.o aC aC zx6).mono ?_;rintro x w5 ⟨g5,c5,rfl,bS,jS,Fa⟩;obtain⟨v5,nV⟩:=aP ({v with gW:=g5,cW:=c5}:fL);obtain⟨r5,eP⟩:=aP (kI r i zV:bY);rw[<-nV,<-eP] at bS⊢;have Xk:=aD nV;have o6:=aD eP;have wS:=aD bS;have vC:=aD jS;have zkk:=aD Fa;have kr:=jS.blk j9.o Qg zc5;have sZ:=aD kr;have z:=aI kr;have r0:=eW kr;obtain⟨z0,z1,z2,z3,z4,z5,z6,z7⟩:=eN z;clear bS jS Fa kr z nV eP)
   have nV:=Xk.o;have eP:=o6.o;rw[<-eP] at fE;have er:=aI (tJ v5 r5 sZ.o);refine nM (v:=.tuple #[.agg (fS (v5) (r5)),.string ⟨([108,101,102,116]:List UInt8).toArray⟩]) ?_ rfl ?_
   .unfold gU at er
    simp[results,zgW,go_sem,er]
   .rw[fE.o]
    have hl:=HL.o;have hz:=pR.o;have hg:=zkk.o;have eY:=fX.o;exact⟨v5,rfl,wS.o.set8 sU,(fB.o.turn.same vC.o).set8 aC,by rw[nV];exact⟨.inl rfl,.inr L2,.inl rfl,rfl⟩⟩
def dA (r:bY)(m:Int)(k:Nat):bY×List UInt8:=(r.wait.take k).foldl jV ({r with clk:=r.clk+m},[97,116,32]++gM (r.clk+m))
variable {m:Int}{k:Nat}{x:bE}
theorem zgP (h:r.wait[k]? =some x):dA r m (k+1)=jV (dA r m k) x:=by
 unfold dA;rw[Ia,h,znO];rfl
theorem zaK (r:bY)(m:Int):dA r m r.wait.length=tN r m:=by
 unfold dA tN;rw[List.take_of_length_le (bF _)]
theorem zcC (rs:List bR)(c:Int):(hY rs c).isSome=rs.any (Bf c):=by unfold hY;exact List.findIdx?_isSome
variable {d:bR}{f:bR->bR}
theorem zs0 (hd:rs[i]? =some d)(hc:d.c≠c)(h:(hY rs c).isSome=true):(hY (rs.modify i f) c).isSome=true:=by
 rw[zcC,Wh] at*;obtain⟨x,hx,hp⟩:=h;obtain⟨j,hj,e⟩:=Lw.1 hx;have fI:i≠j:=by
  intro e2;subst e2;rw[mV hj,e] at hd;injection hd with hd;unfold Bf at hp;simp at hp;exact hc (hd▸hp.1)
 refine⟨x,?_,hp⟩;refine Gq.2 ⟨j,?_⟩;rw[J0,mV hj,e];simp[fI]
structure TiredOk (r:bY)(m:Int)(k:Nat):Prop where
 nrec:(dA r m k).1.recs.length=r.recs.length
 off:(dA r m k).1.o=r.o
 clk:(dA r m k).1.clk=r.clk+m
 nb:(dA r m k).1.back.length<=r.back.length+k
 nw:(dA r m k).1.wait.length<=r.wait.length
 txt:(dA r m k).2.length<=30+30*k
 has:∀j x,k<=j->r.wait[j]? =some x->(hY (dA r m k).1.recs x.c).isSome=true
 fr:∀d∈(dA r m k).1.recs,0<=d.f/\d.f<=100000
def Y8 (xs:List bE)(q:Int):(dS xs q).length<=xs.length:=za1 _ _
theorem Qv (h0:0<=c)(h1:c<=1000000):(gM c).length<=20:=by
 obtain⟨n,rfl⟩:∃n:Nat,c=(n:Int):=⟨c.toNat,aC⟩;unfold gM;rw[Vb];exact Un aC
variable {bt:bY×List UInt8}
theorem Yj (hi:hY bt.1.recs x.c=some i)(hd:bt.1.recs[i]? =some d):
 jV bt x=if bt.1.o.pt<=bt.1.clk-d.f then({kI bt.1 i vS with back:=bt.1.back++[x]},bt.2++[32]++gM x.c) else bt:=by
 unfold jV;rw[hi];simp only;rw[show V8 bt.1.recs i=d.f by unfold V8;rw[hd]]
theorem ziJ (hq:zdY r)(hn:(r.wait.map bE.c).Nodup)(hf:∀d∈r.recs,0<=d.f/\d.f<=100000)(hc:0<=r.clk+m/\r.clk+m<=1000000):∀k,k<=r.wait.length->TiredOk r m k
 |0,_=>⟨rfl,rfl,rfl,bF _,bF _,by
  have:=Qv hc.1 hc.2;show([97,116,32]++gM (r.clk+m)).length<=_;rw[jH];simp only[rG,wD];omega,λj x _ hx=>hq.has x (fN hx),hf⟩
 |k+1,hk=>by
  have T:=ziJ hq hn hf hc k aC;obtain⟨x,hx⟩:∃x,r.wait[k]? =some x:=⟨r.wait[k],mV aC⟩;obtain⟨i,hi⟩:=zlO.1 (T.has k x (bF _) hx);obtain⟨d,hd,zcZ,-⟩:=zA hi;have e:=Yj (bt:=dA r m k) hi hd;have e1:=zgP (m:=m) hx;rw[e] at e1;have zEw:=hq.num x (fN hx);have Gi:=Qv (c:=x.c) aC aC;by_cases hp:(dA r m k).1.o.pt<=(dA r m k).1.clk-d.f
  .rw[if_pos hp] at e1
   refine⟨?_,?_,?_,?_,?_,?_,?_,?_⟩<;>rw[e1]
   .show(zj6 _ _ _).length=_
    rw[Lt];exact T.nrec
   .exact T.off
   .exact T.clk
   .have:=T.nb
    simp only[jH,rG,wD];omega
   .exact eH (Y8 _ _) T.nw
   .have:=T.txt
    simp only[jH,rG,wD];omega
   .intro j y hj hy
    have zju:d.c≠y.c:=by
     intro e2;rw[zcZ] at e2;have uU:=(kP.1 hy).1;have zcr:=(kP.1 hx).1;have aU:=(List.pairwise_iff_getElem.1 hn) k j tD tD aC;apply aU;rw[zwb,zwb];rw[mV zcr] at hx;rw[mV uU] at hy;injection hx with hx;injection hy with hy;rw[hx,hy,e2]
    exact zs0 hd zju (T.has j y aC hy)
   .intro z hz
    obtain⟨j,hj⟩:=Gq.1 hz;have qM:(zj6 (dA r m k).1.recs i λd=>{d with t:=(dA r m k).1.clk,e:=vS})[j]? =some z:=hj;rw[J0] at qM;rcases zcK:(dA r m k).1.recs[j]? with _|y
    .simp_all
    .rw[zcK] at qM
     have hy:=T.fr y (fN zcK);split at qM<;>(simp at qM;subst qM;exact hy)
  .rw[if_neg hp] at e1
   exact⟨by rw[e1];exact T.nrec,by rw[e1];exact T.off,by rw[e1];exact T.clk,by rw[e1];have:=T.nb;omega,by rw[e1];exact T.nw,by rw[e1];have:=T.txt;omega,by rw[e1];exact λj y hj hy=>T.has j y aC hy,by rw[e1];exact T.fr⟩
section
variable {w0 w w':aE}{lo gb k:Nat}{v0 v v':fL}{r r':bY}
theorem gJ.setClk {c:Int}(h:gJ w0 w lo gb k v0 v r):gJ w0 (w.setCell ⟨gb,3,none⟩ (.int .i64 c)) lo gb k v0 v {r with clk:=c}:=by
 have aR:=h.aR;have aW:=h.aW;have aB:=h.aB;have aL:=h.aL;have Oi:=h.base;have t:=h.turn;have kp:=h.kpos;refine⟨(h.ok.setCell aC).clock c,⟨t.os,t.tape,t.output,by rw[xA];exact t.size,λy hy e1 e2=>(dU w _ _ y sU).trans (t.block y hy e1 e2)⟩,h.moved,h.base,?_,by rw[xA];exact h.size,h.kpos,aR,aW,aB,aL,h.lob⟩;rw[oH h.blk];rfl
theorem gJ.whole {n:Nat}(h:gJ w0 w lo gb k v0 v r)(ho:dZ w' lo v' r')(t:oV v w w')(m:xM n v v')(hn:n=w.heap.size):
 gJ w0 (gU w' gb (.int .i64 r'.o.ln) (.int .i64 r'.o.op) (.int .i64 r'.o.pt) (.int .i64 r'.clk) (v'.sR r') (v'.sW r') (v'.sB r') (v'.sL r')) lo gb k v0 v' r':=by
 obtain⟨_,t2,m2,hb⟩:=h.turned ho t m hn;have aR:=h.aR;have aW:=h.aW;have aB:=h.aB;have aL:=h.aL;have mr:=m.r;have mw:=m.w;have mb:=m.b;have ml:=m.l;have sz:=h.size;have kp:=h.kpos;have Oi:=h.base;have tz:=t.size;refine⟨ho.set8 aC,t2.set8 aC,m2,h.base,zag hb,by rw[zln];omega,h.kpos,aC,aC,aC,aC,h.lob⟩
end
def zFL {b x:Nat}{o:Obj}{a0 a1 a2 a3 a4 a5 a6 a7:aF}(h:w.heap[x]? =some o)(hx:x≠b):(gU w b a0 a1 a2 a3 a4 a5 a6 a7).heap[x]? =some o:=(Gz hx).trans h
theorem zIg (lo:Nat)(v:fL)(r:bY)(m:Int)(w:aE)(h:dZ w lo v r)(hs:Ub r)(eF:lo<=w.heap.size)(hq:zdY r)(lE:(r.wait.map bE.c).Nodup)(fZ:∀d∈r.recs,0<=d.f/\d.f<=100000)(zfA:0<=m)(Yv:m<=100000):
 gH aK 67 #[.agg (fS v r),.int .i64 m] w (Wq lo v w (tN r m)):=by
 have fM:=h.ap;have zmJ:=aD (ziJ (m:=m) hq lE fZ (by have:=hs.clk;omega));have zEa:=aD hq.num;have zr5:=(Cu hs.off).2.2.2.2;clear lE fZ hq;obtain⟨gb,O,Z,fX,HO,HZ,fB,j9,pR,HL⟩:=zdP h eF;clear h
 go_enter Tryz.func67,Tryz.ntmps67
 go_upto_region 1 with fail
 rw[<-HO.o,<-HZ.o,<-fX.o];obtain⟨W1,cZ⟩:=aP ((w.alloc O).alloc Z);rw[<-cZ] at fB j9 pR⊢;clear cZ;obtain⟨n,hn⟩:=aP r.wait.length;have nX:=hs.nb;have Cz:=hs.nr;have Mn:n<=1000:=by rw[hn];exact hs.nw
 have Rh:=aD hn;have Jb:=hs.clk;obtain⟨zi1,zBv⟩:=Jb;obtain⟨ck,Jb⟩:=aP r.clk;have G2:=aD Jb;rw[<-Jb] at zi1 zBv;have k:=aI fB.o.blk;obtain⟨k0,k1,k2,k3,k4,k5,k6,k7⟩:=eN k;clear k;have Zc:W1.cell? ⟨gb,3,none⟩=some (.int .i64 ck):=by rw[k3,G2.o];rfl
 have kf:=eW fB.o.blk;clear k3 Jb hn;have mF:=aD (show gJ w (W1.setCell ⟨gb,3,none⟩ (.int .i64 (ck+m))) lo gb 2 v v {r with clk:=ck+m} from fB.o.setClk)
 go_upto_region 2 with fail
 obtain⟨W2,oE⟩:=aP (W1.setCell ⟨gb,3,none⟩ (.int .i64 (ck+m)));rw[<-oE] at mF⊢;have Dv:=aD (show W2.heap[gb+1]? =some lA by rw[oE];exact(dU W1 _ _ (gb+1) aN).trans j9.o);clear k0 k1 k2 Zc k4 k5 k6 k7 kf oE;obtain⟨c2,oR⟩:∃c2:Nat,ck+m=(c2:Int):=⟨(ck+m).toNat,aC⟩;have zHT:c2<=100000000:=aC;have Jo:(Lh (c2:Int)).length<=20:=by rw[Vb];exact Un aC
 have Uv:=aD oR;have k3:=aI mF.o.blk 3;have Zc:W2.cell? ⟨gb,3,none⟩=some (.int .i64 (c2:Int)):=by rw[<-oR];exact k3
 clear k3 oR
 go_upto_region 3 with(go_at_call 94;refine(zaC c2 zHT _).mono ?_;rintro x w3 ⟨rfl,Yt⟩;have wH:=aD Yt;clear Yt)
 have zjw:=aD (mF.o.keep wH.o);have zcd:=aD (mP wH.o Dv.o).1;have k5:=aI zjw.o.blk 5;have zsP:w3.cell? ⟨gb,5,none⟩=some (.slice (some ⟨v.gW,0,none⟩) n v.cW):=by rw[k5,Rh.o];rfl
 clear k5 Zc;have ziI:=aD (show(⟨([97,116,32]++Lh (c2:Int):List UInt8).toArray⟩:ByteArray)=⟨(dA r m 0).2.toArray⟩ by show _=(⟨([97,116,32]++gM (r.clk+m):List UInt8).toArray⟩:ByteArray);rw[<-G2.o,Uv.o];rfl);have zKL:=HL.o
 go_wp2_with fail
 go_loopw [6,8] (λt i wr=>∃(k:Nat) (v1:fL),k<=n/\i=.int .i64 k/\t=.string ⟨(dA r m k).2.toArray⟩/\gJ w wr lo gb 2 v v1 (dA r m k).1/\wr.heap[gb+1]? =some lA/\wr.ownsRow lo 100 2 (.slice (some ⟨v.gW,0,none⟩) n v.cW) n (bH r.wait)) (λ_ i _=>n-(intOf i).toNat)
 case atStart=>
  refine⟨0,v,lP _,rfl,?_,?_,zcd.o,?_⟩
  .rw[<-ziI.o];congr 1
  .have e:(dA r m 0).1={r with clk:=ck+m}:=by rw[G2.o];rfl
   rw[e];exact zjw.o
  .have:=zjw.o.ok.wt
   rw[Rh.o];exact this
 case round=>
  obtain⟨k,v1,hk,rfl,rfl,fC,Hh,cE⟩:=hrel;have T:=zmJ.o k (by have:=Rh.o;omega);obtain⟨r1,j8⟩:=aP ((dA r m k).1);obtain⟨tx,zfb⟩:=aP ((dA r m k).2);have zsv:=T.nrec;have zwJ:=T.nb;have zuG:=T.nw;have zv1:=T.txt;have zkd:=T.clk;have zjx:=T.off;have zxw:=aD T.fr;have zqC:=aD T.has;rw[<-j8] at fC zsv zwJ zuG zkd zjx zxw zqC;rw[<-zfb] at zv1⊢;have jI:=aD j8;have zmg:=aD zfb;have vB:=aD fC;have zhm:=aD Hh;have Qw:=aD cE;have zKI:r1.recs.length<=1000:=aC;have zzS:r1.back.length<=6000:=aC;have zIp:r1.wait.length<=1000:=by have:=hs.nw;omega
  have zJw:tx.length<=40000:=aC;have zks:gb+2<=wr.heap.size:=fC.size;have zKE:=fC.moved.r;have zJr:=fC.moved.b;have zsg:=aD zkd;have An:=aD zjx;clear T j8 zfb fC Hh cE zsv zwJ zuG zv1 zkd zjx;by_cases aS:k<n
  .obtain⟨bx,ox,x,hA,-,-,zCX,eK,e0,e1⟩:=(zY Qw.o aH).callsAt aS
   injection hA with hA;injection hA with As Ag;subst As Ag;simp only[qH] at e0 e1;obtain⟨i,wL⟩:=zlO.1 (zqC.o k x (bF _) eK);obtain⟨d,hd,zcZ,-⟩:=zA wL;have zEw:=zEa.o x (fN eK);have hi:=(kP.1 hd).1;have eR:(0:Int)<=(i:Int):=aC;have Af:(i:Int)<(r1.recs.length:Int):=aC;have i0:(0:Int)<=(k:Int):=aC;have i1:(k:Int)<(n:Int):=aC;obtain⟨zLa,zKG⟩:=zxw.o d (fN hd);have uV:=aD (show dA r m (k+1)=if r1.o.pt<=r1.clk-d.f then({kI r1 i vS with back:=r1.back++[x]},tx++[32]++gM x.c) else(r1,tx) by
    rw[zgP eK,Yj (i:=i) (d:=d) (by rw[<-jI.o];exact wL) (by rw[<-jI.o];exact hd),<-jI.o,<-zmg.o];congr 1;rw[jI.o,zmg.o])
   have Oc:=aD (V9 wL);have HD:=aD hd;have zlh:=aD eK;obtain⟨q,zlH⟩:=aP x.c;have HE:=aD (λnq:Nat=>gH.quiet_of (w:=wr) (n:=nq) ((Kv lo wr.heap.size r1.recs.length v1.cR (some ⟨v1.gR,0,none⟩) r1.recs x.c (wr.drewN nq) (have hs:=vB.o.ok.slcR;⟨hs.len,hs.le,hs.cap,hs.at_⟩) aC).mono λe w' hh=>by rw[Oc.o] at hh;exact⟨hh.1,0,hh.2⟩));obtain⟨c0,c1,zkV,c3,c4,c5,c6⟩:=vB.o.ok.recAt hd;clear wL hd zcZ eK zlH;have k:=aI vB.o.blk;obtain⟨k0,k1,k2,k3,k4,k5,k6,k7⟩:=eN k;clear k
   go_wp2_with fail
   go_quiet ((go_at_call 91;exact HE.o _))
   go_wp2_with fail
   obtain⟨wq,tE⟩:=aP (wr.drewN nq);rw[<-tE];have zdN:=aD (show gJ w wq lo gb 2 v v1 r1 by rw[tE];exact vB.o.keep ⟨rfl,rfl,rfl,bF _,λ_ _=>rfl⟩);have zqQ:=aD (show wq.heap[gb+1]? =some lA by rw[tE];exact zhm.o);have zvv:=aD (show wq.ownsRow lo 100 2 (.slice (some ⟨v.gW,0,none⟩) n v.cW) n (bH r.wait) by rw[tE];exact Al Qw.o (λ_ _=>rfl));replace e0:wq.cell? ⟨v.gW,k*2,none⟩=some (.int .i64 x.c):=by rw[tE];exact e0
   replace e1:wq.cell? ⟨v.gW,k*2+1,none⟩=some (.int .i64 x.p):=by rw[tE];exact e1
   have zHE:v.gW<wq.heap.size:=by rw[tE];exact zCX
   have Cv:gb+2<=wq.heap.size:=by rw[tE];exact zks
   clear c0 c1 zkV c3 c4 c5 c6 k0 k1 k2 k3 k4 k5 k6 k7 tE;obtain⟨c0,c1,zkV,c3,c4,c5,c6⟩:=zdN.o.ok.recAt HD.o;have k:=aI zdN.o.blk;obtain⟨k0,k1,k2,k3,k4,k5,k6,k7⟩:=eN k;clear k;have Qz:0<=r1.clk:=by have:=zsg.o;have:=G2.o;omega
   have Im:r1.clk<=200000:=by have:=zsg.o;have:=G2.o;omega
   have rL:1<=r1.o.pt:=by rw[An.o];exact zr5.1
   have Yt:r1.o.pt<=60:=by rw[An.o];exact zr5.2
   by_cases hp:r1.o.pt<=r1.clk-d.f
   .replace uV:=aD (show dA r m (k+1)=({kI r1 i vS with back:=r1.back++[x]},tx++[32]++gM x.c) by rw[uV.o,if_pos hp])
    go_quiet (fail)
    go_upto_region 9 with fail
    obtain⟨wz,tK⟩:=aP (wq.drewN nq);rw[<-tK];have Pn:=aD (show gJ w wz lo gb 2 v v1 r1 by rw[tK];exact zdN.o.keep ⟨rfl,rfl,rfl,bF _,λ_ _=>rfl⟩);have zEv:=aD (show wz.heap[gb+1]? =some lA by rw[tK];exact zqQ.o);have zBQ:=aD (show wz.ownsRow lo 100 2 (.slice (some ⟨v.gW,0,none⟩) n v.cW) n (bH r.wait) by rw[tK];exact Al zvv.o (λ_ _=>rfl));have zzA:v.gW<wz.heap.size:=by rw[tK];exact zHE
    have zIL:gb+2<=wz.heap.size:=by rw[tK];exact Cv
    clear c0 c1 zkV c3 c4 c5 c6 k0 k1 k2 k3 k4 k5 k6 k7 e0 e1 tK;have k:=aI Pn.o.blk;obtain⟨k0,k1,k2,k3,k4,k5,k6,k7⟩:=eN k;clear k;have kf:=eW Pn.o.blk;have zE3:v.gW≠v1.gR:=aC;have zok:v.gW≠v1.gB:=aC;have aR:=Pn.o.aR;have aB:=Pn.o.aB;have zE6:gb+1≠v1.gR:=aC;have zqU:gb+1≠v1.gB:=aC;have Mg:gb≠v1.gR:=aC;have Aq:gb≠v1.gB:=aC;have zJs:=aD aR;have At:=aD aB;have S6:lo<=wz.heap.size:=by have:=Pn.o.lob;omega
    clear aR aB
    go_upto_region 10 with(go_at_call 96;refine(zmB lo i v1 r1 d vS wz Pn.o.ok HD.o aC aC S6).mono ?_;rintro y w5 ⟨g5,c5,rfl,bS,jS,Fa⟩;obtain⟨v5,nV⟩:=aP ({v1 with gW:=g5,cW:=c5}:fL);obtain⟨r5,eP⟩:=aP (kI r1 i vS:bY);have kr:=jS.blk Pn.o.blk Mg Aq;have zIK:=aD kr;have zsp:xM wz.heap.size v1 v5:=(by rw[nV];exact⟨.inl rfl,.inr Fa,.inl rfl,rfl⟩);rw[<-nV,<-eP] at bS⊢;have Xk:=aD nV;have o6:=aD eP;have vC:=aD jS;have Fv:=aD (Pn.o.whole bS jS zsp rfl);have z:=aI kr;have r0:=eW kr;obtain⟨z0,z1,z2,z3,z4,z5,z6,z7⟩:=eN z;clear bS jS Fa kr z nV eP zsp)
    obtain⟨W6,rI⟩:=aP (gU w5 gb (.int .i64 r5.o.ln) (.int .i64 r5.o.op) (.int .i64 r5.o.pt) (.int .i64 r5.clk) (v5.sR r5) (v5.sW r5) (v5.sB r5) (v5.sL r5));have Tq:=aD (show W6.heap[gb+1]? =some lA by rw[rI];exact zFL (vC.o.blk zEv.o zE6 zqU) aC);have zqp:=aD (show W6.ownsRow lo 100 2 (.slice (some ⟨v.gW,0,none⟩) n v.cW) n (bH r.wait) by rw[rI];exact C4 zBQ.o ((Gz aC).trans (vC.o.block v.gW zzA zE3 zok)));rw[<-rI] at Fv;unfold gU at rI;rw[<-rI];have zDW:v5.gR=v1.gR:=by rw[Xk.o]
    have zcq:v5.gB=v1.gB:=by rw[Xk.o]
    have ziU:r5.back=r1.back:=by rw[o6.o];rfl
    have zKb:r5.back.length<=6000:=by rw[ziU];exact zzS
    have kQ:=aD ziU;clear rI z0 z1 z2 z3 z4 z5 z6 z7 r0 k0 k1 k2 k3 k4 k5 k6 k7 kf ziU;obtain⟨bx,ox,x',hA,-,-,zqn,Hs,e0,e1⟩:=(zY zqp.o aH).callsAt aS;injection hA with hA;injection hA with As Ag;subst As Ag;rw[zlh.o] at Hs;injection Hs with Hs;subst Hs;simp only[qH] at e0 e1;have k6:=aI Fv.o.blk 6;have zLb:gb+2<=W6.heap.size:=Fv.o.size;have G9:=aD (show W6.cell? ⟨v.gW,k*2,none⟩=some (.int .i64 x.c)/\W6.cell? ⟨v.gW,k*2+1,none⟩=some (.int .i64 x.p) from⟨e0,e1⟩);have kB:∀o:Obj,(W6.alloc o).cell? ⟨gb,6,none⟩=some (v5.sB r5):=λo=>Bo k6 o;have zKW:=aD zcq;have zDY:v5.gB≠gb:=by rw[zcq];exact Ne.symm Aq
    have zH3:v5.gB≠gb+1:=by rw[zcq];exact Ne.symm zqU
    have zJx:v5.gB≠v.gW:=by rw[zcq];exact Ne.symm zok
    have zKk:v.gW≠gb:=aC;obtain⟨ii,Qa,fG,dB,gQ⟩:=Ch zez;have zdn:=aD Qa;clear Qa zDW zcq e0 e1;obtain⟨g1,c1,w7,fM,rD,qR,B1,Ji⟩:=zeE (P:=aK) (W6.alloc (.cells #[.int .i64 x.c,.int .i64 x.p] 100)).drew 57 57 lo 100 ii (.agg #[.int .i64 0,.int .i64 0]) 2 16 Lf zdn.o fG dB gQ rfl aH v5.gB v5.cB r5.back.length (bH r5.back) (Al Fv.o.ok.bk (λb hb=>qE _ _ b hb)) ⟨W6.heap.size,0,none⟩ 1 1 x.cells rfl (Dn (cs:=x.cells.toArray) (gP _ _)) Sk Zi aC (by have:=Fv.o.lob;simp;omega);have q8:=aD qR;have zbk:=aD rD;have Z6:=aD Ji;have kx:=(zQ qR (dG Fv.o.blk _) (Ne.symm zDY)).1;have Pq:=aI kx 6;have xD:=eW kx;clear rD qR B1 Ji kx;refine wp_WT10 W6 w7 gb v.gW _ _ v5.gB r5.back.length v5.cB g1 c1 k x.c x.p rfl rfl rfl rfl k6 G9.o.1 G9.o.2 aC fM Pq (xD _) rfl ?_;clear fM;rw[Go.Mt.Bn,zxL];simp only[Go.Mt.xN,dP,dQ,zmC,lWT10,Du,Ee]
    go_upto_region 11 with fail
    have zqg:=aD (((Fv.o.alloc _).drew).appB (x:=x) q8.o zbk.o rfl Z6.o);have zvE:=aD ((dU w7 ⟨gb,6,none⟩ (.slice (some ⟨g1,0,none⟩) (r5.back.length+1) c1) (gb+1) aN).trans (zQ q8.o (Li (dG Tq.o _)) (Ne.symm zH3)).1);have znv:=aD (C4 zqp.o ((dU w7 ⟨gb,6,none⟩ (.slice (some ⟨g1,0,none⟩) (r5.back.length+1) c1) v.gW aC).trans ((q8.o.block v.gW zfu zfu).trans (qE _ _ v.gW aC))));obtain⟨W7,C0⟩:=aP (w7.setCell ⟨gb,6,none⟩ (.slice (some ⟨g1,0,none⟩) (r5.back.length+1) c1));rw[<-C0] at zqg zvE znv⊢;clear C0 Pq xD k6 kB;obtain⟨bx,ox,x',hA,-,-,zIJ,Hs,e0,e1⟩:=(zY znv.o aH).callsAt aS;injection hA with hA;injection hA with As Ag;subst As Ag;rw[zlh.o] at Hs;injection Hs with Hs;subst Hs;simp only[qH] at e0 e1;obtain⟨p,zir⟩:∃p:Nat,x.c=(p:Int):=⟨x.c.toNat,aC⟩;have zjb:p<=100000000:=aC;have zJa:(Lh (p:Int)).length<=20:=by rw[Vb];exact Un aC
    rw[zir] at e0;have zAN:=aD zir;clear zir e1
    go_wp2_with (go_at_call 94;refine(zaC p zjb _).mono ?_;rintro y w8 ⟨rfl,Mi⟩;have Fx:=aD Mi;clear Mi)
    go_roundw
    case rel=>
     refine⟨k+1,{v5 with gB:=g1,cB:=c1},aC,oL,?_,?_,(mP Fx.o zvE.o).1,zpz znv.o Fx.o⟩
     .rw[uV.o];simp[Mx,gM,zAN.o]
     .rw[uV.o]
      have:=zqg.o.keep Fx.o;rw[kQ.o,o6.o] at this;exact this
    case measure=>simp[intOf];omega
   .replace uV:=aD (show dA r m (k+1)=(r1,tx) by rw[uV.o,if_neg hp])
    go_quiet (fail)
    go_wp2;go_roundw
    case rel=>exact⟨k+1,v1,aC,oL,by rw[uV.o],by rw[uV.o];exact zdN.o.keep ⟨rfl,rfl,rfl,bF _,λ_ _=>rfl⟩,zqQ.o,Al zvv.o (λ_ _=>rfl)⟩
    case measure=>simp[intOf];omega
  .have e:k=n:=aC
   subst e;have zf2:=aD (show tN r m=(r1,tx) by rw[<-zaK,<-Rh.o,jI.o,zmg.o]);have k:=aI vB.o.blk;obtain⟨k0,k1,k2,k3,k4,k5,k6,k7⟩:=eN k;clear k;have z:=aI zhm.o;obtain⟨z0,z1,z2,z3,z4,z5,z6,z7⟩:=eN z;clear z;have r0:=eW zhm.o
   go_wp2_with fail
   have er:=aI (tJ v1 r1 zhm.o);refine nM (v:=.tuple #[.agg (fS (v1) (r1)),.string ⟨(tx:List UInt8).toArray⟩]) ?_ rfl ?_
   .unfold gU at er
    simp[results,Tryz.results67,go_sem,er]
   .rw[zf2.o]
    obtain⟨d1,d2,d3⟩:=vB.o.done (b:=gb+1) aC;exact⟨v1,rfl,d1,d2,d3⟩
structure zr3 (r:bY):Prop where
 small:Ub r
 waits:zdY r
 nodup:(r.wait.map bE.c).Nodup
 backs:∀x∈r.back,1<=x.c/\x.c<=99
 froms:∀d∈r.recs,0<=d.f/\d.f<=100000
variable {ops:Int}{e:dI}
theorem event_a (h:q9 ops e=true)(ho:ops<=4):0<=e.a/\e.a<=100000:=by
 have h:=of_decide_eq_true h;unfold Gm at h;omega
abbrev zvo (e:dI):Obj:=.cells #[.string e.k,.int .i64 e.a,.int .i64 e.b] 54
theorem zqX (lo:Nat)(v:fL)(r:bY)(e:dI)(w:aE)(h:dZ w lo v r)(hs:zr3 r)(eF:lo<=w.heap.size)(he:q9 r.o.op e=true):
 gH aK 51 #[.agg (fS v r),.agg #[.string e.k,.int .i64 e.a,.int .i64 e.b]] w (Wq lo v w (dK r e)):=by
 obtain⟨Oz,Bx⟩:=event_a he (Cu hs.small.off).2.2.2.1;obtain⟨gb,eY⟩:=aP w.heap.size;have hl:=h.lts;obtain⟨O,hO⟩:=aP (.cells (fS v r) 59:Obj);obtain⟨C,hC⟩:=aP (zvo e:Obj);obtain⟨Z,hZ⟩:=aP (lA:Obj);have lO:(((w.alloc O).alloc C).alloc Z).heap[gb]? =some (G8 v r):=by rw[hO,eY];exact dG (dG (gP _ _) _) _
 have Ai:(((w.alloc O).alloc C).alloc Z).heap[gb+1]? =some (zvo e):=by rw[hC,eY];exact dG (lZ _ _ aN) _
 have qY:(((w.alloc O).alloc C).alloc Z).heap[gb+2]? =some lA:=by rw[<-hZ];exact lZ _ _ Yq
 have dB:(((w.alloc O).alloc C).alloc Z).heap.size=gb+3:=by rw[eY];simp
 have fB:=aD (show gJ w (((w.alloc O).alloc C).alloc Z) lo gb 3 v v r from⟨((h.alloc O).alloc C).alloc Z,oV.of_below v (eT (eT (eT (fW _ _) _) _) _),xM.refl _ _,eY,lO,aC,aC,.inl aC,.inl aC,.inl aC,.inl aC,aC⟩);have pR:=aD dB;have j9:=aD qY;have mB:=aD Ai;have HO:=aD hO;have HC:=aD (show C=.cells #[.string e.k,.int .i64 e.a,.int .i64 e.b] 54 from hC);have HZ:=aD (show Z=.cells #[.int .i64 0,.int .i64 0,.int .i64 0,.int .i64 0,.slice none 0 0,.slice none 0 0,.slice none 0 0,.slice none 0 0] 59 from hZ);have fX:=aD eY;have HL:=aD (show v.gR<gb/\v.gW<gb/\v.gB<gb/\v.gL<gb by omega);clear hO hC hZ eY lO qY Ai dB h hl
 go_enter Tryz.func51,Tryz.ntmps51
 go_upto_region 1 with fail
 rw[<-HO.o,<-HC.o,<-HZ.o,<-fX.o];obtain⟨W1,cZ⟩:=aP (((w.alloc O).alloc C).alloc Z);rw[<-cZ] at fB j9 mB pR⊢;clear cZ;have k:=aI fB.o.blk;obtain⟨k0,k1,k2,k3,k4,k5,k6,k7⟩:=eN k;clear k;have q:=aI mB.o;obtain⟨q0,q1,q2⟩:=zwO q;clear q;have hl:=HL.o;have Mg:gb+2≠v.gR:=aC;have Aq:gb+2≠v.gB:=aC;have S6:lo<=W1.heap.size:=by have:=fB.o.lob;have:=pR.o;omega
 clear hl;cases h0:(e.k.toList==[114,105,110,103])
 case true=>
  have uV:=aD (show dK r e=pE r ⟨e.a,e.b⟩ by unfold dK;rw[if_pos (show e.k.toList=zW from eq_of_beq h0)])
  go_wp2_with (go_at_call 63;refine(zFN lo v r ⟨e.a,e.b⟩ W1 fB.o.ok hs.small S6).mono ?_;rintro y w5 ⟨v5,rfl,bS,jS,xP⟩;obtain⟨r5,eP⟩:=aP ((pE r ⟨e.a,e.b⟩).1:bY);obtain⟨t5,pG⟩:=aP ((pE r ⟨e.a,e.b⟩).2:List UInt8);rw[<-eP] at bS⊢;rw[<-pG];have o6:=aD eP;have Ec:=aD pG;have wS:=aD bS;have vC:=aD jS;have oU:=aD xP;have kr:=jS.blk j9.o Mg Aq;have sZ:=aD kr;have z:=aI kr;have r0:=eW kr;obtain⟨z0,z1,z2,z3,z4,z5,z6,z7⟩:=eN z;clear eP pG bS jS xP kr z)
  have er:=aI (tJ v5 r5 sZ.o);refine nM (v:=.tuple #[.agg (fS (v5) (r5)),.string ⟨(t5:List UInt8).toArray⟩]) ?_ rfl ?_
  .unfold gU at er
   simp[results,za9,go_sem,er]
  .rw[uV.o]
   have hl:=HL.o;have hz:=pR.o;have eY:=fX.o;have mr:=oU.o.r;have mw:=oU.o.w;have mb:=oU.o.b;have ml:=oU.o.l;refine⟨v5,by rw[o6.o,Ec.o],by rw[<-o6.o];exact wS.o.set8 aC,(fB.o.turn.same vC.o).set8 aC,⟨mr.imp id (λx=>by omega),mw.imp id (λx=>by omega),mb.imp id (λx=>by omega),ml⟩⟩
 case false=>
  cases h1:(e.k.toList==[97,110,115,119,101,114])
  case true=>
   have uV:=aD (show dK r e=nH r e.a by unfold dK;rw[if_neg zf9];rw[if_pos (show e.k.toList=H7 from eq_of_beq h1)])
   go_wp2_with (go_at_call 64;refine(zBx lo v r e.a W1 fB.o.ok hs.small S6 hs.waits).mono ?_;rintro y w5 ⟨v5,rfl,bS,jS,xP⟩;obtain⟨r5,eP⟩:=aP ((nH r e.a).1:bY);obtain⟨t5,pG⟩:=aP ((nH r e.a).2:List UInt8);rw[<-eP] at bS⊢;rw[<-pG];have o6:=aD eP;have Ec:=aD pG;have wS:=aD bS;have vC:=aD jS;have oU:=aD xP;have kr:=jS.blk j9.o Mg Aq;have sZ:=aD kr;have z:=aI kr;have r0:=eW kr;obtain⟨z0,z1,z2,z3,z4,z5,z6,z7⟩:=eN z;clear eP pG bS jS xP kr z)
   have er:=aI (tJ v5 r5 sZ.o);refine nM (v:=.tuple #[.agg (fS (v5) (r5)),.string ⟨(t5:List UInt8).toArray⟩]) ?_ rfl ?_
   .unfold gU at er
    simp[results,za9,go_sem,er]
   .rw[uV.o]
    have hl:=HL.o;have hz:=pR.o;have eY:=fX.o;have mr:=oU.o.r;have mw:=oU.o.w;have mb:=oU.o.b;have ml:=oU.o.l;refine⟨v5,by rw[o6.o,Ec.o],by rw[<-o6.o];exact wS.o.set8 aC,(fB.o.turn.same vC.o).set8 aC,⟨mr.imp id (λx=>by omega),mw.imp id (λx=>by omega),mb.imp id (λx=>by omega),ml⟩⟩
  case false=>
   cases h2:(e.k.toList==[114,101,116,117,114,110])
   case true=>
    have uV:=aD (show dK r e=l8 r e.a by unfold dK;rw[if_neg zf9];rw[if_neg zn1];rw[if_pos (show e.k.toList=Bq from eq_of_beq h2)])
    go_wp2_with (go_at_call 65;refine(zy8 lo v r e.a W1 fB.o.ok hs.small S6 hs.backs).mono ?_;rintro y w5 ⟨v5,rfl,bS,jS,xP⟩;obtain⟨r5,eP⟩:=aP ((l8 r e.a).1:bY);obtain⟨t5,pG⟩:=aP ((l8 r e.a).2:List UInt8);rw[<-eP] at bS⊢;rw[<-pG];have o6:=aD eP;have Ec:=aD pG;have wS:=aD bS;have vC:=aD jS;have oU:=aD xP;have kr:=jS.blk j9.o Mg Aq;have sZ:=aD kr;have z:=aI kr;have r0:=eW kr;obtain⟨z0,z1,z2,z3,z4,z5,z6,z7⟩:=eN z;clear eP pG bS jS xP kr z)
    have er:=aI (tJ v5 r5 sZ.o);refine nM (v:=.tuple #[.agg (fS (v5) (r5)),.string ⟨(t5:List UInt8).toArray⟩]) ?_ rfl ?_
    .unfold gU at er
     simp[results,za9,go_sem,er]
    .rw[uV.o]
     have hl:=HL.o;have hz:=pR.o;have eY:=fX.o;have mr:=oU.o.r;have mw:=oU.o.w;have mb:=oU.o.b;have ml:=oU.o.l;refine⟨v5,by rw[o6.o,Ec.o],by rw[<-o6.o];exact wS.o.set8 aC,(fB.o.turn.same vC.o).set8 aC,⟨mr.imp id (λx=>by omega),mw.imp id (λx=>by omega),mb.imp id (λx=>by omega),ml⟩⟩
   case false=>
    cases h3:(e.k.toList==[104,97,110,103])
    case true=>
     have uV:=aD (show dK r e=mH r e.a by unfold dK;rw[if_neg zf9];rw[if_neg zn1];rw[if_neg zrw];rw[if_pos (show e.k.toList=D5 from eq_of_beq h3)])
     go_wp2_with (go_at_call 66;refine(zHf lo v r e.a W1 fB.o.ok hs.small S6).mono ?_;rintro y w5 ⟨v5,rfl,bS,jS,xP⟩;obtain⟨r5,eP⟩:=aP ((mH r e.a).1:bY);obtain⟨t5,pG⟩:=aP ((mH r e.a).2:List UInt8);rw[<-eP] at bS⊢;rw[<-pG];have o6:=aD eP;have Ec:=aD pG;have wS:=aD bS;have vC:=aD jS;have oU:=aD xP;have kr:=jS.blk j9.o Mg Aq;have sZ:=aD kr;have z:=aI kr;have r0:=eW kr;obtain⟨z0,z1,z2,z3,z4,z5,z6,z7⟩:=eN z;clear eP pG bS jS xP kr z)
     have er:=aI (tJ v5 r5 sZ.o);refine nM (v:=.tuple #[.agg (fS (v5) (r5)),.string ⟨(t5:List UInt8).toArray⟩]) ?_ rfl ?_
     .unfold gU at er
      simp[results,za9,go_sem,er]
     .rw[uV.o]
      have hl:=HL.o;have hz:=pR.o;have eY:=fX.o;have mr:=oU.o.r;have mw:=oU.o.w;have mb:=oU.o.b;have ml:=oU.o.l;refine⟨v5,by rw[o6.o,Ec.o],by rw[<-o6.o];exact wS.o.set8 aC,(fB.o.turn.same vC.o).set8 aC,⟨mr.imp id (λx=>by omega),mw.imp id (λx=>by omega),mb.imp id (λx=>by omega),ml⟩⟩
    case false=>
     have uV:=aD (show dK r e=tN r e.a by unfold dK;rw[if_neg zf9];rw[if_neg zn1];rw[if_neg zrw];rw[if_neg (by intro e2;rw[e2] at h3;exact absurd h3 aH)])
     go_wp2_with (go_at_call 67;refine(zIg lo v r e.a W1 fB.o.ok hs.small S6 hs.waits hs.nodup hs.froms Oz Bx).mono ?_;rintro y w5 ⟨v5,rfl,bS,jS,xP⟩;obtain⟨r5,eP⟩:=aP ((tN r e.a).1:bY);obtain⟨t5,pG⟩:=aP ((tN r e.a).2:List UInt8);rw[<-eP] at bS⊢;rw[<-pG];have o6:=aD eP;have Ec:=aD pG;have wS:=aD bS;have vC:=aD jS;have oU:=aD xP;have kr:=jS.blk j9.o Mg Aq;have sZ:=aD kr;have z:=aI kr;have r0:=eW kr;obtain⟨z0,z1,z2,z3,z4,z5,z6,z7⟩:=eN z;clear eP pG bS jS xP kr z)
     have er:=aI (tJ v5 r5 sZ.o);refine nM (v:=.tuple #[.agg (fS (v5) (r5)),.string ⟨(t5:List UInt8).toArray⟩]) ?_ rfl ?_
     .unfold gU at er
      simp[results,za9,go_sem,er]
     .rw[uV.o]
      have hl:=HL.o;have hz:=pR.o;have eY:=fX.o;have mr:=oU.o.r;have mw:=oU.o.w;have mb:=oU.o.b;have ml:=oU.o.l;refine⟨v5,by rw[o6.o,Ec.o],by rw[<-o6.o];exact wS.o.set8 aC,(fB.o.turn.same vC.o).set8 aC,⟨mr.imp id (λx=>by omega),mw.imp id (λx=>by omega),mb.imp id (λx=>by omega),ml⟩⟩
structure RInv (b:bY):Prop where
 off:sP b.o=true
 clk:0<=b.clk
 nodup:(b.wait.map bE.c).Nodup
 hasrec:∀x∈b.wait,(hY b.recs x.c).isSome=true
 recB:∀d∈b.recs,1<=d.c/\d.c<=99/\1<=d.l/\d.l<=6/\0<=d.o/\d.o<=4/\0<=d.f/\d.f<=b.clk
 waitB:∀x∈b.wait,1<=x.c/\x.c<=99
 backB:∀x∈b.back,1<=x.c/\x.c<=99
structure Mc (b:bY)(k:Nat):Prop where
 clk:b.clk<=60*k
 nrec:b.recs.length<=k
 nw:b.wait.length<=k
 nb:b.back.length<=60*k
 nl:b.log.length=k
theorem RInv.good (h:RInv b)(c:Mc b k)(hk:k<=60):zr3 b:=
 ⟨
  ⟨h.off,by have:=c.nrec;omega,by have:=c.nw;omega,by have:=c.nb;omega,by have:=c.nl;omega,⟨h.clk,by have:=c.clk;omega⟩⟩,⟨h.hasrec,h.waitB⟩,h.nodup,h.backB,
  λd hd=>by have:=h.recB d hd;have:=c.clk;omega⟩
theorem RInv.zero (h:sP o=true):RInv (lR o):=⟨h,zaT _,List.nodup_nil,λx hx=>(by cases hx),λd hd=>(by cases hd),λx hx=>(by cases hx),λx hx=>(by cases hx)⟩
def Mc.zero (o:fQ):Mc (lR o) 0:=⟨zaT _,bF _,bF _,bF _,rfl⟩
variable {xs:List bE}{q:Int}
theorem Ep (h:x∈dS xs q):x∈xs/\x.c≠q:=by
 unfold dS at h;simp_all
def zht (h:(xs.map bE.c).Nodup):((dS xs q).map bE.c).Nodup:=
 zHu (zIu _ List.filter_sublist) h
theorem S7 {z:bR}(h:z∈rs.modify i f):∃d∈rs,z=d\/z=f d:=by
 obtain⟨j,hj⟩:=Gq.1 h;rw[J0] at hj;rcases zcK:rs[j]? with _|y
 .simp_all
 .grind
theorem zrP {qs:List bR}(h:(hY rs c).isSome=true):(hY (rs++qs) c).isSome=true:=by
 rw[zcC] at*;simp_all
theorem zIj (hf:∀d,(f d).c=d.c/\(f d).e=d.e)(h:(hY rs c).isSome=true):(hY (rs.modify i f) c).isSome=true:=by
 rw[zcC,Wh] at*;obtain⟨x,hx,hp⟩:=h;obtain⟨j,hj,e⟩:=Lw.1 hx;have zF:Bf c (f x)=true:=by unfold Bf eD at*;rw[(hf x).1,(hf x).2];exact hp
 by_cases fI:i=j
 .refine⟨f x,Gq.2 ⟨j,?_⟩,zF⟩
  simp_all
 .refine⟨x,Gq.2 ⟨j,?_⟩,hp⟩
  simp_all
theorem RInv.ends (h:RInv b)(hd:b.recs[i]? =some d)(e:ByteArray):RInv (kI b i e):=by
 refine⟨h.off,h.clk,zht h.nodup,?_,?_,λx hx=>h.waitB x (Ep hx).1,h.backB⟩
 .intro x hx
  have hx:x∈dS b.wait (He b.recs i):=hx;rw[Tm hd] at hx;obtain⟨h1,h2⟩:=Ep hx;exact zs0 hd (Ne.symm h2) (h.hasrec x h1)
 .intro z hz
  obtain⟨y,hy,e1|e1⟩:=S7 hz
  .subst e1;exact h.recB _ hy
  .subst e1;exact h.recB y hy
theorem RInv.tire {t:List UInt8}(h:RInv b)(hx:1<=x.c/\x.c<=99):RInv (jV (b,t) x).1:=by
 rcases ho:hY b.recs x.c with _|i
 .have:jV (b,t) x=(b,t):=by unfold jV;simp only[ho]
  rw[this];exact h
 .obtain⟨d,hd,-,-⟩:=zA ho
  rw[Yj (bt:=(b,t)) ho hd];split
  .have e:=h.ends hd vS
   exact⟨e.off,e.clk,e.nodup,e.hasrec,e.recB,e.waitB,λy hy=>by
    rw[K3] at hy;rcases hy with hy|hy
    .exact h.backB y hy
    .simp at hy;subst hy;exact hx⟩
  .exact h
theorem RInv.tires:∀(xs:List bE) (b:bY) (t:List UInt8),RInv b->(∀x∈xs,1<=x.c/\x.c<=99)->RInv (xs.foldl jV (b,t)).1
 |[],b,t,h,_=>h
 |x::xs,b,t,h,hx=>by
  rw[Oq];have h1:=h.tire (t:=t) (hx x aN);obtain⟨b',t',e⟩:∃b' t',jV (b,t) x=(b',t'):=⟨_,_,rfl⟩;rw[e] at h1⊢;exact RInv.tires xs b' t' h1 (λy hy=>hx y (by simp[hy]))
theorem zgo (ho:sP o=true)(h:l∈oT o rs):1<=l/\l<=6:=by
 have:=zhD h;have:=(Cu ho).2.1;omega
theorem zc0 (xs:List bE)(c:bE):(uA xs c).Perm (c::xs):=by
 unfold uA;refine(List.perm_middle).trans ?_;simp_all
theorem zy1 (xs:List bE)(c:bE):(uA xs c).length=xs.length+1:=by rw[(zc0 xs c).length_eq];rfl
theorem zFG (h:q9 ops e=true)(he:e.k.toList=zW):1<=e.a/\e.a<=99:=by
 have h:=of_decide_eq_true h;unfold Gm at h;rcases h with h|h|⟨h|h,_⟩|h
 .omega
 all_goals(first|(rw[h.1] at he;exact absurd he aH)|(rw[h] at he;exact absurd he aH))
theorem zhj (h:q9 ops e=true)(he:e.k.toList=H7\/e.k.toList=Bq):1<=e.a/\e.a<=ops:=by
 have h:=of_decide_eq_true h;unfold Gm at h;rcases h with h|h|h|h
 .rw[h.1] at he;exact absurd he aH
 .rw[h.1] at he;exact absurd he aH
 .omega
 .rw[h.1] at he;exact absurd he aH
theorem zHc (h:q9 ops e=true)(h1:e.k.toList≠zW)(h2:e.k.toList≠H7)(h3:e.k.toList≠Bq)(h4:e.k.toList≠D5):1<=e.a/\e.a<=60:=by
 have h:=of_decide_eq_true h;unfold Gm at h;simp_all
theorem zcT:eJ.toList=[111,112,101,110]:=by decide+kernel
theorem RInv.step {b:bY}{e:dI}{k:Nat}(h:RInv b)(hc:Mc b k)(he:q9 b.o.op e=true)(hk:k<=60):RInv (dK b e).1/\Mc (Et (dK b e)) (k+1)/\(dK b e).1.o=b.o/\(dK b e).1.log=b.log:=by
 have zKU:=Cu h.off;have c1:=hc.clk;have c2:=hc.nrec;have c3:=hc.nw;have c4:=hc.nb;have c5:=hc.nl;have key:∀bt:bY×List UInt8,RInv bt.1->bt.1.o=b.o->bt.1.log=b.log->bt.1.clk<=b.clk+60->bt.1.recs.length<=b.recs.length+1->bt.1.wait.length<=b.wait.length+1->bt.1.back.length<=b.back.length+60->RInv bt.1/\Mc (Et bt) (k+1)/\bt.1.o=b.o/\bt.1.log=b.log:=by
  intro bt hi ho hl zJ1 hr hw uX;refine⟨hi,⟨by show bt.1.clk<=_;omega,by show bt.1.recs.length<=_;omega,by show bt.1.wait.length<=_;omega,by show bt.1.back.length<=_;omega,?_⟩,ho,hl⟩;show(bt.1.log++[bt.2]).length=_;rw[jH,hl,c5];rfl
 have same:∀t,RInv (b,t).1/\Mc (Et (b,t)) (k+1)/\(b,t).1.o=b.o/\(b,t).1.log=b.log:=λt=>key (b,t) h rfl rfl (by show b.clk<=_;omega) tD tD tD;unfold dK;by_cases e1:e.k.toList=zW
 .rw[if_pos e1]
  obtain⟨a1,a2⟩:=zFG he e1;unfold pE;split
  .exact same _
  .rename_i fP
   rw[Eu,not_or] at fP;rcases hf:oT b.o b.recs with _|⟨l,fs⟩
   .refine key (_,_) ⟨h.off,h.clk,h.nodup,h.hasrec,h.recB,h.waitB,λx hx=>?_⟩ rfl rfl ?_ ?_ ?_ ?_
    .rw[K3] at hx
     rcases hx with hx|hx
     .exact h.backB x hx
     simp_all
    all_goals simp only[jH,rG,wD]
    all_goals omega
   .have Yz:=zgo h.off (l:=l) Y7
    refine key (_,_) ⟨h.off,h.clk,?_,?_,?_,?_,h.backB⟩ rfl rfl ?_ ?_ ?_ ?_
    .show((uA b.wait ⟨e.a,e.b⟩).map bE.c).Nodup
     refine((zc0 b.wait ⟨e.a,e.b⟩).map bE.c).nodup_iff.2 ?_;rw[gT,List.nodup_cons];refine⟨λhm=>?_,h.nodup⟩;obtain⟨x,hx,zKh⟩:=Ug.1 hm;have:=h.hasrec x hx;simp_all
    .intro x hx
     have hx:=(zc0 b.wait ⟨e.a,e.b⟩).mem_iff.1 hx;rcases mD.1 hx with rfl|hx
     .show(hY (b.recs++_) e.a).isSome=true
      rw[zcC,List.any_append];have:Bf e.a ⟨e.a,l,0,b.clk,-1,-1,eJ⟩=true:=by unfold Bf eD;simp;exact zcT
      simp[this]
     .exact zrP (h.hasrec x hx)
    .intro d hd
     rcases K3.1 hd with hd|hd
     .exact h.recB d hd
     .simp at hd;subst hd
      have:=h.clk;simp only;omega
    .intro x hx
     have hx:=(zc0 b.wait ⟨e.a,e.b⟩).mem_iff.1 hx;rcases mD.1 hx with rfl|hx
     .exact⟨a1,a2⟩
     .exact h.waitB x hx
    all_goals simp only[jH,rG,wD,zy1]
    all_goals omega
 rw[if_neg e1];by_cases e2:e.k.toList=H7
 .rw[if_pos e2]
  obtain⟨a1,a2⟩:=zhj he (.inl e2);by_cases lT:0<dO b.recs e.a
  .have e9:nH b e.a=(b,[116,97,108,107,115]):=by unfold nH;rw[if_pos lT]
   rw[e9];exact same _
  .rcases hw:b.wait with _|⟨c,cs⟩
   .have e9:nH b e.a=(b,[110,111,110,101]):=by unfold nH;rw[if_neg lT,hw]
    rw[e9];exact same _
   .rcases ho:hY b.recs c.c with _|i
    .have e9:nH b e.a=(b,[]):=by unfold nH;rw[if_neg lT,hw];simp only[ho]
     rw[e9];exact same _
    .have e9:nH b e.a=({b with recs:=b.recs.modify i λd=>{d with o:=e.a,h:=b.clk},wait:=dS b.wait c.c},[99,97,108,108,32]++gM c.c):=by unfold nH;rw[if_neg lT,hw];simp only[ho]
     rw[e9];refine key (_,_) ⟨h.off,h.clk,zht h.nodup,?_,?_,?_,h.backB⟩ rfl rfl ?_ ?_ ?_ ?_
     .intro x hx
      exact zIj (λd=>⟨rfl,rfl⟩) (h.hasrec x (Ep hx).1)
     .intro z hz
      obtain⟨y,hy,q|q⟩:=S7 hz
      .subst q;exact h.recB _ hy
      .subst q
       have:=h.recB y hy;simp only;omega
     .intro x hx
      exact h.waitB x (Ep hx).1
     all_goals simp only[Lt]
     .omega
     .omega
     .have:=Y8 b.wait c.c;omega
     .omega
 rw[if_neg e2];by_cases e3:e.k.toList=Bq
 .rw[if_pos e3]
  obtain⟨a1,a2⟩:=zhj he (.inr e3);by_cases lT:0<dO b.recs e.a
  .have e9:l8 b e.a=(b,[116,97,108,107,115]):=by unfold l8;rw[if_pos lT]
   rw[e9];exact same _
  .rcases hw:b.back with _|⟨c,cs⟩
   .have e9:l8 b e.a=(b,[110,111,110,101]):=by unfold l8;rw[if_neg lT,hw]
    rw[e9];exact same _
   .rcases hf:oT b.o b.recs with _|⟨l,fs⟩
    .have e9:l8 b e.a=(b,[98,117,115,121]):=by unfold l8;rw[if_neg lT,hw];simp only[hf]
     rw[e9];exact same _
    .have e9:l8 b e.a=({b with back:=dS b.back c.c,recs:=b.recs++[⟨c.c,l,e.a,b.clk,b.clk,-1,eJ⟩]},[99,97,108,108,32]++gM c.c):=by unfold l8;rw[if_neg lT,hw];simp only[hf]
     rw[e9];have Yz:=zgo h.off (l:=l) Y7;have Iu:=h.backB c (by rw[hw];simp);refine key (_,_) ⟨h.off,h.clk,h.nodup,λx hx=>zrP (h.hasrec x hx),?_,h.waitB,?_⟩ rfl rfl ?_ ?_ ?_ ?_
     .intro d hd
      rcases K3.1 hd with hd|hd
      .exact h.recB d hd
      .simp at hd;subst hd
       have:=h.clk;simp only;omega
     .intro x hx
      exact h.backB x (Ep hx).1
     all_goals simp only[jH,rG,wD]
     .omega
     .omega
     .omega
     .have:=Y8 b.back c.c;omega
 rw[if_neg e3];by_cases e4:e.k.toList=D5
 .rw[if_pos e4]
  rcases ho:hY b.recs e.a with _|i
  .by_cases hf:(uC b.back e.a).isSome=true
   .have e9:mH b e.a=({b with back:=dS b.back e.a},[111,102,102]):=by unfold mH;simp only[ho];rw[if_pos hf]
    rw[e9];refine key (_,_) ⟨h.off,h.clk,h.nodup,h.hasrec,h.recB,h.waitB,λx hx=>h.backB x (Ep hx).1⟩ rfl rfl ?_ ?_ ?_ ?_
    all_goals simp only
    .omega
    .omega
    .omega
    .have:=Y8 b.back e.a;omega
   .have e9:mH b e.a=(b,[103,111,110,101]):=by unfold mH;simp only[ho];rw[if_neg hf]
    rw[e9];exact same _
  .obtain⟨d,hd,-,-⟩:=zA ho
   have hw:=Y8 b.wait (He b.recs i);have end1:∀(E:ByteArray) (t:List UInt8),RInv (kI b i E,t).1/\Mc (Et (kI b i E,t)) (k+1)/\(kI b i E,t).1.o=b.o/\(kI b i E,t).1.log=b.log:=λE t=>by
    refine key (_,_) (h.ends hd _) rfl rfl ?_ ?_ ?_ ?_
    .show b.clk<=_;omega
    .show(zj6 _ _ _).length<=_;simp_all
    .show(dS b.wait (He b.recs i)).length<=_;omega
    .show b.back.length<=_;omega
   by_cases hp:0<opAt b.recs i
   .have e9:mH b e.a=(kI b i Dr,[100,111,110,101]):=by unfold mH;simp only[ho];rw[if_pos hp]
    rw[e9];exact end1 _ _
   .have e9:mH b e.a=(kI b i zV,[108,101,102,116]):=by unfold mH;simp only[ho];rw[if_neg hp]
    rw[e9];exact end1 _ _
 rw[if_neg e4];obtain⟨a1,a2⟩:=zHc he e1 e2 e3 e4;have mU:=h.clk;have T:=ziJ (r:=b) (m:=e.a) ⟨h.hasrec,h.waitB⟩ h.nodup (λd hd=>by have:=h.recB d hd;omega) aC b.wait.length (bF _);have t1:=T.nrec;have t2:=T.off;have t3:=T.clk;have t4:=T.nb;have t5:=T.nw;rw[zaK] at t1 t2 t3 t4 t5;have zkL:∀(xs:List bE) (bt:bY×List UInt8),(xs.foldl jV bt).1.log=bt.1.log:=by
  intro xs
  induction xs with
  |nil=>intro bt;rfl
  |cons x xs ih=>
   intro bt;rw[Oq,ih];unfold jV;split
   .rfl
   .split<;>rfl
 refine key (tN b e.a) ?_ t2 (zkL _ _) ?_ ?_ ?_ ?_
 .unfold tN
  refine RInv.tires _ _ _ ⟨h.off,by grind,h.nodup,h.hasrec,λd hd=>?_,h.waitB,h.backB⟩ h.waitB;have:=h.recB d hd
  grind
 .omega
 .omega
 .omega
 .omega
def iI (o:fQ)(es:List dI)(k:Nat):bY:=(es.take k).foldl (λb e=>Et (dK b e)) (lR o)
variable {es:List dI}
theorem Me (h:es[k]? =some e):iI o es (k+1)=Et (dK (iI o es k) e):=by
 unfold iI;rw[Ia,h,znO];rfl
theorem Qx (o:fQ)(es:List dI):iI o es es.length=Ja o es:=by unfold iI Ja;simp_all
theorem Ih (h:eM o es=true):∀k,k<=es.length->RInv (iI o es k)/\Mc (iI o es k) k/\(iI o es k).o=o
 |0,_=>by
  have h1:sP o=true:=by unfold eM at h;simp at h;exact h.1.1
  exact⟨RInv.zero h1,Mc.zero o,rfl⟩
 |k+1,hk=>by
  obtain⟨i1,i2,i3⟩:=Ih h k aC;obtain⟨e,he⟩:∃e,es[k]? =some e:=⟨es[k],mV aC⟩;have hv:q9 o.op e=true:=by
   unfold eM at h;simp only[jF,wN] at h;exact h.2 e (fN he)
  have hl:es.length<=60:=by unfold eM at h;simp at h;exact h.1.2
  obtain⟨j1,j2,j3,j4⟩:=i1.step i2 (e:=e) (by rw[i3];exact hv) aC;rw[Me he];exact⟨⟨j1.off,j1.clk,j1.nodup,j1.hasrec,j1.recB,j1.waitB,j1.backB⟩,j2,by show(dK _ e).1.o=o;rw[j3,i3]⟩
theorem zky (o:fQ)(w:aE):
 gH aK 34 #[.agg #[.int .i64 o.ln,.int .i64 o.op,.int .i64 o.pt]] w λx w'=>x=.returned (.bool (sP o))/\cF w.heap.size w w':=by
 go_enter Tryz.func34,Tryz.ntmps34
 go_wp2_with ((go_at_call 49;refine(zxj _ _ _ _).mono ?_;rintro e w' ⟨rfl,rfl⟩))
 all_goals go_ret
 all_goals refine⟨Lx ?_,((fW _ _).alloc (bF _) _)⟩
 all_goals rw[Nk]
 all_goals simp[sP,inB] at*
 all_goals grind
theorem zlz (e:dI)(ops:Int)(w:aE):
 gH aK 50 #[.agg #[.string e.k,.int .i64 e.a,.int .i64 e.b],.int .i64 ops] w λx w'=>x=.returned (.bool (q9 ops e))/\cF w.heap.size w w':=by
 go_enter Tryz.func50,Tryz.ntmps50
 go_wp2_with ((go_at_call 49;refine(zxj _ _ _ _).mono ?_;rintro e w' ⟨rfl,rfl⟩))
 all_goals go_ret
 all_goals refine⟨Lx ?_,((fW _ _).alloc (bF _) _)⟩
 all_goals rw[Nk]
 all_goals simp[q9,Gm,inB,zW,D5,H7,Bq,Rg] at*
 all_goals grind
structure sY (w0 w:aE)(gb:Nat)(o:fQ)(v:fL)(r:bY):Prop where
 ok:dZ w gb v r
 bel:cF gb w0 w
 ofc:w.heap[gb]? =some (.cells #[.int .i64 o.ln,.int .i64 o.op,.int .i64 o.pt] 29)
 res:w.heap[gb+1]? =some lA
 blk:w.heap[gb+6]? =some (G8 v r)
 aR:gb+2<=v.gR/\v.gR≠gb+6
 aW:gb+2<=v.gW/\v.gW≠gb+6
 aB:gb+2<=v.gB/\v.gB≠gb+6
 aL:gb+2<=v.gL/\v.gL≠gb+6
 size:gb+7<=w.heap.size
section
variable {w0 w w':aE}{gb:Nat}{o:fQ}{v v':fL}{r r':bY}
def sY.keep (h:sY w0 w gb o v r)(b:cF w.heap.size w w'):sY w0 w' gb o v r:=
 ⟨h.ok.below b,h.bel.trans (b.mono zkp),(b.block _ (iZ h.ofc)).trans h.ofc,(b.block _ (iZ h.res)).trans h.res,(b.block _ (iZ h.blk)).trans h.blk,h.aR,h.aW,h.aB,h.aL,eH h.size b.size⟩
def sY.alloc (h:sY w0 w gb o v r)(ob:Obj):sY w0 (w.alloc ob) gb o v r:=h.keep (eT (fW _ _) ob)
def sY.drew (h:sY w0 w gb o v r):sY w0 w.drew gb o v r:=h.keep ⟨rfl,rfl,rfl,bF _,λ_ _=>rfl⟩
theorem sY.stepped (h:sY w0 w gb o v r)(ok:dZ w' gb v' r')(t:oV v w w')(m:xM w.heap.size v v'):
 cF gb w0 w'/\w'.heap[gb]? =w.heap[gb]? /\w'.heap[gb+1]? =w.heap[gb+1]? /\w'.heap[gb+6]? =w.heap[gb+6]? /\(gb+2<=v'.gR/\v'.gR≠gb+6)/\(gb+2<=v'.gW/\v'.gW≠gb+6)/\(gb+2<=v'.gB/\v'.gB≠gb+6)/\(gb+2<=v'.gL/\v'.gL≠gb+6)/\w.heap.size<=w'.heap.size:=by
 have aR:=h.aR;have aW:=h.aW;have aB:=h.aB;have aL:=h.aL;have mr:=m.r;have mw:=m.w;have mb:=m.b;have ml:=m.l;have sz:=h.size;refine⟨⟨t.os.trans h.bel.os,t.tape.trans h.bel.tape,t.output.trans h.bel.output,eH h.bel.size t.size,λb hb=>?_⟩,t.block _ aC aC aC,t.block _ aC aC aC,t.block _ aC aC aC,aC,aC,aC,aC,t.size⟩;exact(t.block b aC aC aC).trans (h.bel.block b hb)
theorem sY.stored (ok:dZ w gb v' r')(bel:cF gb w0 w)(e0:w.heap[gb]? =some (.cells #[.int .i64 o.ln,.int .i64 o.op,.int .i64 o.pt] 29))(e1:w.heap[gb+1]? =some lA)(e6:w.heap[gb+6]? =some (G8 v r))
 (a1:gb+2<=v'.gR/\v'.gR≠gb+6) (a2:gb+2<=v'.gW/\v'.gW≠gb+6) (a3:gb+2<=v'.gB/\v'.gB≠gb+6) (a4:gb+2<=v'.gL/\v'.gL≠gb+6) (sz:gb+7<=w.heap.size):
 sY w0 (gU w (gb+6) (.int .i64 r'.o.ln) (.int .i64 r'.o.op) (.int .i64 r'.o.pt) (.int .i64 r'.clk) (v'.sR r') (v'.sW r') (v'.sB r') (v'.sL r')) gb o v' r':=by
 refine⟨ok.set8 aC,?_,(Gz aC).trans e0,(Gz aC).trans e1,zag e6,a1,a2,a3,a4,by rw[zln];exact sz⟩;have c:=zhs w (gb+6) (.int .i64 r'.o.ln) (.int .i64 r'.o.op) (.int .i64 r'.o.pt) (.int .i64 r'.clk) (v'.sR r') (v'.sW r') (v'.sB r') (v'.sL r');exact bel.trans ⟨c.os,c.tape,c.output,c.size,λb hb=>c.block b aC aC⟩
theorem sY.appL {m g c:Nat}{x:List UInt8}(h:sY w0 w gb o v r)(hg:w.grownBy w' (some v.gL))(ho:w'.ownsRow gb 9 1 (.slice (some ⟨g,0,none⟩) m c) m (vO r.log++[.string ⟨x.toArray⟩]))(hm:m=r.log.length+1)(hw:g=v.gL\/g=w.heap.size):
 sY w0 (w'.setCell ⟨gb+6,7,none⟩ (.slice (some ⟨g,0,none⟩) m c)) gb o {v with gL:=g,cL:=c} {r with log:=r.log++[x]}:=by
 have aR:=h.aR;have aW:=h.aW;have aB:=h.aB;have aL:=h.aL;have sz:=h.size;have l:=h.ok.lts;have hk:=h.ok.appL hg ho hm aC;have hs:=hg.size;have kb:=(zQ hg h.blk aC).1;have k0:=(zQ hg h.ofc aC).1;have k1:=(zQ hg h.res aC).1;have aU:g≠gb+6:=aC;refine⟨hk.setCell sU,?_,(dU w' _ _ gb aN).trans k0,(dU w' _ _ (gb+1) aN).trans k1,?_,aR,aW,aB,⟨by simp only;omega,aU⟩,by rw[xA];omega⟩
 .refine⟨hg.os.trans h.bel.os,hg.tape.trans h.bel.tape,hg.output.trans h.bel.output,by rw[xA];exact eH h.bel.size hs,λb hb=>?_⟩
  exact((dU w' _ _ b sU).trans (hg.block b aC oX)).trans (h.bel.block b hb)
 .rw[oH kb]
  have e:=room_L v r g c (r.log++[x]);rw[hm];simp only[jH,rG,wD] at e;exact congrArg (λa=>some (Obj.cells a 59)) e
end
def zEB (o:fQ)(es:List dI)(w:aE)(x:Ending)(w':aE):Prop:=
 ∃v,x=.returned (.tuple #[.agg (fS v (oP o es)),.bool (eM o es)])/\dZ w' w.heap.size v (oP o es)/\cF w.heap.size w w'
theorem sY.done {a0 a1 a2 a3 a4 a5 a6 a7:aF}(h:sY w0 w gb o v r):dZ (gU w (gb+1) a0 a1 a2 a3 a4 a5 a6 a7) gb v r/\cF gb w0 (gU w (gb+1) a0 a1 a2 a3 a4 a5 a6 a7):=by
 have aR:=h.aR;have aW:=h.aW;have aB:=h.aB;have aL:=h.aL;refine⟨h.ok.set8 aC,?_⟩;have c:=zhs w (gb+1) a0 a1 a2 a3 a4 a5 a6 a7;exact h.bel.trans ⟨c.os,c.tape,c.output,c.size,λb hb=>c.block b zkp aC⟩
def sY.doneR (h:sY w0 w gb o v r)(v1:fL)(r1:bY):dZ (gU w (gb+1) (.int .i64 r1.o.ln) (.int .i64 r1.o.op) (.int .i64 r1.o.pt) (.int .i64 r1.clk) (v1.sR r1) (v1.sW r1) (v1.sB r1) (v1.sL r1)) gb v r/\cF gb w0 (gU w (gb+1) (.int .i64 r1.o.ln) (.int .i64 r1.o.op) (.int .i64 r1.o.pt) (.int .i64 r1.clk) (v1.sR r1) (v1.sW r1) (v1.sB r1) (v1.sL r1)):=h.done
def zzy {w':aE}{b g o1:Nat}{o2 o3 o4:Nat}{v1 v2 v3 v4:aF}(h:w.cell? ⟨b,o1,none⟩=some v1/\w.cell? ⟨b,o2,none⟩=some v2/\w.cell? ⟨b,o3,none⟩=some v3/\w.cell? ⟨g,o4,none⟩=some v4)(k1:w'.heap[b]? =w.heap[b]?)(k2:w'.heap[g]? =w.heap[g]?):
 w'.cell? ⟨b,o1,none⟩=some v1/\w'.cell? ⟨b,o2,none⟩=some v2/\w'.cell? ⟨b,o3,none⟩=some v3/\w'.cell? ⟨g,o4,none⟩=some v4:=
 ⟨(Cc k1).trans h.1,(Cc k1).trans h.2.1,(Cc k1).trans h.2.2.1,(Cc k2).trans h.2.2.2⟩
def zAC {b g o1:Nat}{o2 o3 o4:Nat}{v1 v2 v3 v4:aF}(h:w.cell? ⟨b,o1,none⟩=some v1/\w.cell? ⟨b,o2,none⟩=some v2/\w.cell? ⟨b,o3,none⟩=some v3/\w.cell? ⟨g,o4,none⟩=some v4):
 w.drew.cell? ⟨b,o1,none⟩=some v1/\w.drew.cell? ⟨b,o2,none⟩=some v2/\w.drew.cell? ⟨b,o3,none⟩=some v3/\w.drew.cell? ⟨g,o4,none⟩=some v4:=h
def zCH (w:aE)(b:Nat):w.drew.heap[b]? =w.heap[b]? :=rfl
def zuo:(aK.info? 9).map (λi=>(i.zero,i.size,i.bytes))=some (some (.string ⟨#[]⟩),1,16):=aT
theorem Zw (h:eM o es=false):oP o es=lR o:=by unfold oP;rw[h];rfl
theorem zAu (o:fQ)(lo hi n c:Nat)(A:Option Addr)(es:List dI)(w:aE)(h:cG w lo hi 3 A n c (qW es))(hn:n<=1048576)(zmV:hi<=w.heap.size):
 gH aK 40 #[.agg #[.int .i64 o.ln,.int .i64 o.op,.int .i64 o.pt],.slice A n c] w (zEB o es w):=by
 have Fh:=h.eventsLen;have P8:=aD Fh;obtain⟨gb,eY⟩:=aP w.heap.size;have fX:=aD eY;clear Fh
 go_enter Tryz.func40,Tryz.ntmps40
 go_upto_region 2 with fail
 obtain⟨v0,gI⟩:=aP (⟨w.heap.size+1+1,0,w.heap.size+1+1+1,0,w.heap.size+1+1+1+1,0,w.heap.size+1+1+1+1+1,0⟩:fL)
 obtain⟨W1,cZ⟩:∃y,y=(((((((w.alloc (.cells #[.int .i64 o.ln,.int .i64 o.op,.int .i64 o.pt] 29)).alloc lA).alloc (.cells #[] 50)).alloc (.cells #[] 100)).alloc (.cells #[] 100)).alloc (.cells #[] 9)).alloc
  (.cells #[.int .i64 o.ln,.int .i64 o.op,.int .i64 o.pt,.int .i64 0,.slice (some ⟨w.heap.size+1+1,0,none⟩) 0 0,.slice (some ⟨w.heap.size+1+1+1,0,none⟩) 0 0,.slice (some ⟨w.heap.size+1+1+1+1,0,none⟩) 0 0,.slice (some ⟨w.heap.size+1+1+1+1+1,0,none⟩) 0 0] 59)):=⟨_,rfl⟩
 have fB:=aD (show sY w W1 gb o v0 (lR o) by
  have kF:cF w.heap.size w W1:=by rw[cZ];exact eT (eT (eT (eT (eT (eT (eT (fW _ _) _) _) _) _) _) _) _
  refine⟨⟨?_,?_,?_,?_,?_⟩,by rw[eY];exact kF,?_,?_,?_,?_,?_,?_,?_,?_⟩
  .rw[gI];exact Oh L2 (by rw[cZ];exact dG (dG (dG (dG (lZ _ _ aN) _) _) _) _)
  .rw[gI];exact Oh L2 (by rw[cZ];exact dG (dG (dG (lZ _ _ aN) _) _) _)
  .rw[gI];exact Oh L2 (by rw[cZ];exact dG (dG (lZ _ _ aN) _) _)
  .rw[gI];exact Oh L2 (by rw[cZ];exact dG (lZ _ _ aN) _)
  .simp_all
  .rw[cZ];exact dG (dG (dG (dG (dG (dG (lZ _ _ eY) _) _) _) _) _) _
  .rw[cZ];exact dG (dG (dG (dG (dG (lZ _ _ Yq) _) _) _) _) _
  .rw[cZ,gI];exact lZ _ _ Yq
  .simp_all
  .simp_all
  .simp_all
  .simp_all
  .rw[cZ,eY];simp)
 rw[<-cZ];have e6:w.heap.size+1+1+1+1+1+1=gb+6:=aC;rw[e6,<-eY];clear cZ gI e6 eY;have q0:=aI fB.o.ofc 0;have q1:=aI fB.o.ofc 1;have q2:=aI fB.o.ofc 2;cases hv:sP o
 case false=>
  have fE:=aD (show eM o es=false by unfold eM;rw[hv];rfl)
  go_upto_region 3 with(go_at_call 34;refine(zky o W1).mono ?_;rintro x w2 ⟨rfl,b2⟩;have jR:=aD b2;rw[hv];clear b2)
  have mF:=aD (fB.o.keep jR.o);clear q0 q1 q2;have k:=aI mF.o.blk;obtain⟨k0,k1,k2,k3,k4,k5,k6,k7⟩:=eN k;clear k;have z:=aI mF.o.res;obtain⟨z0,z1,z2,z3,z4,z5,z6,z7⟩:=eN z;clear z;have r0:=eW mF.o.res
  go_wp2_with fail
  have er:=aI (tJ v0 (lR o) mF.o.res);refine nM (v:=.tuple #[.agg (fS (v0) (lR o)),.bool false]) ?_ rfl ?_
  .unfold gU at er
   simp[results,zhH,go_sem,er]
  .obtain⟨d1,d2⟩:=mF.o.doneR v0 (lR o)
   exact⟨v0,by rw[fE.o];rw[Zw fE.o],by rw[Zw fE.o,<-fX.o];exact d1,by rw[<-fX.o];exact d2⟩
 case true=>
  by_cases Yy:n<=60
  case neg=>
   have fE:=aD (show eM o es=false by unfold eM;rw[hv,P8.o];simp;intro h;omega)
   go_upto_region 3 with(go_at_call 34;refine(zky o W1).mono ?_;rintro x w2 ⟨rfl,b2⟩;have jR:=aD b2;rw[hv];clear b2)
   have mF:=aD (fB.o.keep jR.o);clear q0 q1 q2;have k:=aI mF.o.blk;obtain⟨k0,k1,k2,k3,k4,k5,k6,k7⟩:=eN k;clear k;have z:=aI mF.o.res;obtain⟨z0,z1,z2,z3,z4,z5,z6,z7⟩:=eN z;clear z;have r0:=eW mF.o.res
   go_wp2_with fail
   have er:=aI (tJ v0 (lR o) mF.o.res);refine nM (v:=.tuple #[.agg (fS (v0) (lR o)),.bool false]) ?_ rfl ?_
   .unfold gU at er
    simp[results,zhH,go_sem,er]
   .obtain⟨d1,d2⟩:=mF.o.doneR v0 (lR o)
    exact⟨v0,by rw[fE.o];rw[Zw fE.o],by rw[Zw fE.o,<-fX.o];exact d1,by rw[<-fX.o];exact d2⟩
  case pos=>
   have HV:=aD hv
   go_upto_region 4 with(go_at_call 34;refine(zky o W1).mono ?_;rintro x w2 ⟨rfl,b2⟩;have jR:=aD b2;rw[hv];clear b2)
   have mF:=aD (fB.o.keep jR.o);clear q0 q1 q2 hv
   go_wp2_with fail
   go_loopw [7] (λi wr=>∃k:Nat,k<=n/\i=.int .i64 k/\sY w wr gb o v0 (lR o)/\∀j,j<k->∀e,es[j]? =some e->q9 o.op e=true) (λi _=>n-(intOf i).toNat)
   case atStart=>exact⟨0,lP _,rfl,mF.o,λj hj=>absurd hj aC⟩
   case round=>
    obtain⟨k,hk,rfl,Vx,gS⟩:=hrel;have HC:=aD gS;have Va:=aD Vx;clear gS Vx;by_cases aS:k<n
    .obtain⟨b,off,e,hA,eF,zHV,zh5,Fu,e0,e1,e2⟩:=(h.below (fX.o▸Va.o.bel)).eventsAt aS
     subst hA;have Na:=aD Fu;have zzB:b<gb:=by have:=fX.o;omega
     have i0:(0:Int)<=(k:Int):=aC;have i1:(k:Int)<(n:Int):=aC;have G9:=aD (And.intro e0 (And.intro e1 (And.intro e2 (show wr.cell? ⟨gb,1,none⟩=some (.int .i64 o.op) from aI Va.o.ofc 1))));have zvG:gb<wr.heap.size:=iZ Va.o.ofc;clear Fu e0 e1 e2
     go_wp2_with fail
     go_region_held3 (λW=>W.cell? ⟨b,off+k*3,none⟩=some (.string e.k)/\W.cell? ⟨b,off+k*3+1,none⟩=some (.int .i64 e.a)/\W.cell? ⟨b,off+k*3+2,none⟩=some (.int .i64 e.b)/\W.cell? ⟨gb,1,none⟩=some (.int .i64 o.op))
      (first|exact G9.o|exact zAC G9.o|exact S5)
      ((go_at_call 50;refine(zlz e o.op wr.drew).mono ?_;rintro y w5 ⟨rfl,b5⟩;have zfh:cF wr.heap.size wr w5:=⟨b5.os,b5.tape,b5.output,b5.size,b5.block⟩;have lN:=aD zfh;have S5:=zzy G9.o (zfh.block b aC) (zfh.block gb aC);clear b5 zfh))
     cases nI:q9 o.op e
     .have fE:=aD (show eM o es=false by
       unfold eM;rw[Bool.and_eq_false_iff];refine .inr (Bool.eq_false_iff.2 λtF=>?_);rw[wN] at tF;have:=tF e (fN Na.o);rw[nI] at this;cases this)
      have mF:=aD (Va.o.keep lN.o);clear nI S5;have k:=aI mF.o.blk;obtain⟨k0,k1,k2,k3,k4,k5,k6,k7⟩:=eN k;clear k;have z:=aI mF.o.res;obtain⟨z0,z1,z2,z3,z4,z5,z6,z7⟩:=eN z;clear z;have r0:=eW mF.o.res
      go_wp2_with fail
      have er:=aI (tJ v0 (lR o) mF.o.res);refine nM (v:=.tuple #[.agg (fS (v0) (lR o)),.bool false]) ?_ rfl ?_
      .unfold gU at er
       simp[results,zhH,go_sem,er]
      .obtain⟨d1,d2⟩:=mF.o.doneR v0 (lR o)
       exact⟨v0,by rw[fE.o];rw[Zw fE.o],by rw[Zw fE.o,<-fX.o];exact d1,by rw[<-fX.o];exact d2⟩
     .go_wp2_with fail
      go_roundw
      case rel=>exact⟨k+1,aC,oL,Va.o.keep lN.o,λj hj e' Nh=>by
       by_cases e:j=k
       .subst e;rw[Na.o] at Nh;injection Nh with Nh;exact Nh▸nI
       .exact HC.o j aC e' Nh⟩
      case measure=>simp[intOf];omega
    .have e:k=n:=aC
     subst e;have bS:eM o es=true:=by
      unfold eM;rw[HV.o,P8.o];simp only[Bool.true_and,jF,decide_eq_true_eq,wN];refine⟨Yy,λe he=>?_⟩;obtain⟨j,hj⟩:=Gq.1 he;have uU:=(kP.1 hj).1;exact HC.o j (by rw[<-P8.o];exact uU) e hj
     have fE:=aD bS;have zIt:=aD (Ih bS);clear bS
     go_wp2_with fail
     go_loopw [8] (λi wr=>∃(j:Nat) (v1:fL),j<=k/\i=.int .i64 j/\sY w wr gb o v1 (iI o es j)) (λi _=>k-(intOf i).toNat)
     case atStart=>exact⟨0,v0,lP _,rfl,Va.o⟩
     case round=>
      obtain⟨j,v1,hj,rfl,Vx⟩:=hrel;obtain⟨tI,tC,tO⟩:=zIt.o j (by rw[P8.o];exact hj);obtain⟨r1,j8⟩:=aP (iI o es j);rw[<-j8] at Vx tI tC tO;have jI:=aD j8;have jW:=aD Vx;clear j8 Vx;by_cases aS:j<k
      .obtain⟨b,off,e,hA,eF,zHV,zh5,Fu,e0,e1,e2⟩:=(h.below (fX.o▸jW.o.bel)).eventsAt aS
       subst hA;have zzB:b<gb:=by have:=fX.o;omega
       have i0:(0:Int)<=(j:Int):=aC;have i1:(j:Int)<(k:Int):=aC;have zql:=aD (tI.good tC aC);have zj9:=aD (show q9 r1.o.op e=true by
        rw[tO];have:=fE.o;unfold eM at this;simp only[jF,wN] at this;exact this.2 e (fN Fu))
       have zsA:=aD (Me (o:=o) Fu);have pD:r1.log.length<=60:=by have:=tC.nl;omega
       have zke:=aD (And.intro e0 (And.intro e1 e2));have cM:=jW.o.size;have zvG:gb<=wr.heap.size:=aC;have zwl:=aD (RInv.step (e:=e) tI tC (by rw[tO];exact tO▸zj9.o) aC);clear tI tC tO Fu e0 e1 e2;have zg2:=aD (show∀W:aE,W.heap[b]? =wr.heap[b]? ->W.heap[gb+6]? =wr.heap[gb+6]? ->(W.cell? ⟨b,off+j*3,none⟩=some (.string e.k)/\W.cell? ⟨b,off+j*3+1,none⟩=some (.int .i64 e.a)/\W.cell? ⟨b,off+j*3+2,none⟩=some (.int .i64 e.b)/\W.cell? ⟨gb+6,0,none⟩=some (.int .i64 r1.o.ln)/\W.cell? ⟨gb+6,1,none⟩=some (.int .i64 r1.o.op)/\W.cell? ⟨gb+6,2,none⟩=some (.int .i64 r1.o.pt)/\W.cell? ⟨gb+6,3,none⟩=some (.int .i64 r1.clk)/\W.cell? ⟨gb+6,4,none⟩=some (v1.sR r1)/\W.cell? ⟨gb+6,5,none⟩=some (v1.sW r1)/\W.cell? ⟨gb+6,6,none⟩=some (v1.sB r1)/\W.cell? ⟨gb+6,7,none⟩=some (v1.sL r1)) from λW h1 h2=>by
        have k:=aI (h2.trans jW.o.blk);exact⟨(Cc h1).trans zke.o.1,(Cc h1).trans zke.o.2.1,(Cc h1).trans zke.o.2.2,k 0,k 1,k 2,k 3,k 4,k 5,k 6,k 7⟩)
       have G9:=aD (zg2.o wr.drew rfl rfl);have zDv:=aD (zg2.o wr rfl rfl);have z6:gb+6<wr.heap.size:=aC;have zb:b<wr.heap.size:=aC;have aR:=jW.o.aR;have aB:=jW.o.aB
       go_wp2_with fail
       go_region_held3 (λW=>W.cell? ⟨b,off+j*3,none⟩=some (.string e.k)/\W.cell? ⟨b,off+j*3+1,none⟩=some (.int .i64 e.a)/\W.cell? ⟨b,off+j*3+2,none⟩=some (.int .i64 e.b)/\W.cell? ⟨gb+6,0,none⟩=some (.int .i64 r1.o.ln)/\W.cell? ⟨gb+6,1,none⟩=some (.int .i64 r1.o.op)/\W.cell? ⟨gb+6,2,none⟩=some (.int .i64 r1.o.pt)/\W.cell? ⟨gb+6,3,none⟩=some (.int .i64 r1.clk)/\W.cell? ⟨gb+6,4,none⟩=some (v1.sR r1)/\W.cell? ⟨gb+6,5,none⟩=some (v1.sW r1)/\W.cell? ⟨gb+6,6,none⟩=some (v1.sB r1)/\W.cell? ⟨gb+6,7,none⟩=some (v1.sL r1))
        (first|with_reducible exact G9.o|with_reducible exact zDv.o|with_reducible exact zg2.o _ zyk ztu|(with_reducible refine zg2.o _ ?_ ?_<;>(repeat' (first|with_reducible assumption|with_reducible rfl|(refine(zCH _ _).trans ?_)|(refine(dU _ _ _ _ ?_).trans ?_;(first|omega|(simp;omega)))|(refine(qE _ _ _ ?_).trans ?_;(first|omega|(simp;omega)))))))
        (first|(go_at_call 51;refine(zqX gb v1 r1 e wr.drew jW.o.drew.ok zql.o zvG zj9.o).mono ?_;rintro y w5 ⟨v5,rfl,bS,jS,xP⟩;obtain⟨r5,eP⟩:=aP ((dK r1 e).1:bY);obtain⟨t5,pG⟩:=aP ((dK r1 e).2:List UInt8);rw[<-eP] at bS⊢;rw[<-pG];have o6:=aD eP;have Ec:=aD pG;have wS:=aD bS;have vC:=aD jS;have oU:=aD xP;have zyk:w5.heap[b]? =wr.heap[b]? :=jS.block b zb aC aC;have ztu:w5.heap[gb+6]? =wr.heap[gb+6]? :=jS.block (gb+6) z6 aC aC;have z5:wr.heap.size<=w5.heap.size:=jS.size;have Nn:=aD jW.o.drew;clear eP pG bS jS xP)|(go_at_call 51;refine(zqX gb v1 r1 e (wr.alloc lA).drew (jW.o.alloc lA).drew.ok zql.o (by show gb<=(wr.alloc lA).heap.size;simp;omega) zj9.o).mono ?_;rintro y w5 ⟨v5,rfl,bS,jS,xP⟩;obtain⟨r5,eP⟩:=aP ((dK r1 e).1:bY);obtain⟨t5,pG⟩:=aP ((dK r1 e).2:List UInt8);rw[<-eP] at bS⊢;rw[<-pG];have o6:=aD eP;have Ec:=aD pG;have wS:=aD bS;have vC:=aD jS;have oU:=aD xP;have zyk:w5.heap[b]? =wr.heap[b]? :=(jS.block b (by show b<(wr.alloc lA).heap.size;simp;omega) aC aC).trans (qE wr lA b zb);have ztu:w5.heap[gb+6]? =wr.heap[gb+6]? :=(jS.block (gb+6) (by show gb+6<(wr.alloc lA).heap.size;simp;omega) aC aC).trans (qE wr lA _ z6);have z5:wr.heap.size<w5.heap.size:=(by have:=jS.size;have e:(wr.alloc lA).drew.heap.size=wr.heap.size+1:=aN;omega);have kr:w5.heap[wr.heap.size]? =some lA:=(jS.block wr.heap.size aN (by have:=jW.o.ok.lts;omega) (by have:=jW.o.ok.lts;omega)).trans (gP wr lA);have zEF:=aD kr;have z:=aI kr;have r0:=eW kr;have z0:=z 0;have z1:=z 1;have z2:=z 2;have z3:=z 3;have z4:=z 4;have z5:=z 5;have z7:=z 7;have zaw:=z 6;have Nn:=aD (jW.o.alloc lA).drew;clear eP pG bS jS xP kr z))
       .
         obtain⟨W6,rI⟩:=aP (w5.alloc (G8 v5 r5));obtain⟨nb,nX⟩:=aP w5.heap.size;rw[<-rI,<-nX];have hN:W6.heap[nb]? =some (G8 v5 r5):=by rw[rI];exact lZ _ _ nX
         have Uf:dZ W6 gb v5 r5:=by rw[rI];exact wS.o.alloc _
         obtain⟨zcY,p0,p1,p6,a1,a2,a3,a4,zdO⟩:=Nn.o.stepped wS.o vC.o oU.o;have zbb:cF gb w W6:=by rw[rI];exact zcY.alloc aC _
         have q0:W6.heap[gb]? =some (.cells #[.int .i64 o.ln,.int .i64 o.op,.int .i64 o.pt] 29):=by rw[rI];exact(qE _ _ gb aC).trans (p0.trans Nn.o.ofc)
         have q1:W6.heap[gb+1]? =some lA:=by rw[rI];exact(qE _ _ (gb+1) aC).trans (p1.trans Nn.o.res)
         have q6:W6.heap[gb+6]? =some (G8 v1 r1):=by rw[rI];exact(qE _ _ (gb+6) aC).trans (p6.trans Nn.o.blk)
         have zik:gb+7<=W6.heap.size:=by rw[rI];simp;omega
         have C5:nb≠gb+6:=aC;clear rI nX zcY p0 p1 p6 zdO;have zHd:=aD hN;have zyB:=aD Uf;have zau:r5.log=r1.log:=by rw[o6.o];exact zwl.o.2.2.2
         have zyx:r5.log.length<=60:=by rw[zau];exact pD
         have Co:=aD (sY.stored Uf zbb q0 q1 q6 a1 a2 a3 a4 zik);have k:=aI hN;obtain⟨k0,k1,k2,k3,k4,k5,k6,k7⟩:=eN k;have z:=aI q6;obtain⟨z0,z1,z2,z3,z4,z5,zaw,z7⟩:=eN z;have r0:=eW q6;clear k z hN Uf zbb q0 q1 q6 zau
         go_upto_region 14 with fail
         obtain⟨W7,C0⟩:=aP (gU W6 (gb+6) (.int .i64 r5.o.ln) (.int .i64 r5.o.op) (.int .i64 r5.o.pt) (.int .i64 r5.clk) (v5.sR r5) (v5.sW r5) (v5.sB r5) (v5.sL r5));rw[<-C0] at Co;unfold gU at C0;rw[<-C0];clear C0 k0 k1 k2 k3 k4 k5 k6 k7 z0 z1 z2 z3 z4 z5 zaw z7 r0;have k7:=aI Co.o.blk 7;have zBH:=Co.o.size;have zjA:=Co.o.aL;obtain⟨ii,Qa,fG,dB,gQ⟩:=Ch zuo;have zdn:=aD Qa;clear Qa
         go_wp2_with (at_builtin;refine ziT _ rfl (.tmp 58) (.tmp 60) 26 rfl gb 9 ii (.string ⟨#[]⟩) 1 16 ztO zdn.o fG dB gQ rfl aH v5.gL v5.cL r5.log.length (vO r5.log) rfl ((Co.o.alloc _).ok.lg) ⟨_,0,none⟩ 1 1 [.string ⟨t5.toArray⟩] rfl rfl ?c2 Mp ?c5 ?c6 ?c7 ?_;(case c2=>exact Dn (cs:=#[.string ⟨t5.toArray⟩]) (gP _ _));(case c5=>unfold maxLen;omega);(case c6=>omega);(case c7=>(simp;omega));intro g9 c9 w9 zbh Tw B9 Z8;have zib:=aD ((Co.o.alloc _).appL Tw zbh rfl Z8);have kx:=(zQ Tw (dG Co.o.blk _) (Ne.symm zjA.2)).1;have zBA:=aI kx 7;have xD:=eW kx;clear zbh Tw B9 Z8 kx)
         go_roundw
         case rel=>
          refine⟨j+1,{v5 with gL:=g9,cL:=c9},aC,oL,?_⟩;rw[zsA.o,<-jI.o];have e:Et (dK r1 e)={r5 with log:=r5.log++[t5]}:=by rw[o6.o,Ec.o];rfl
          rw[e];exact zib.o
         case measure=>simp[intOf];omega
       .
         obtain⟨nb,nX⟩:=aP wr.heap.size;obtain⟨W6,rI⟩:=aP (gU w5 nb (.int .i64 r5.o.ln) (.int .i64 r5.o.op) (.int .i64 r5.o.pt) (.int .i64 r5.clk) (v5.sR r5) (v5.sW r5) (v5.sB r5) (v5.sL r5));obtain⟨zcY,p0,p1,p6,a1,a2,a3,a4,zdO⟩:=Nn.o.stepped wS.o vC.o oU.o;have l1:=jW.o.ok.lts;have mr:=oU.o.r;have mw:=oU.o.w;have mb:=oU.o.b;have ml:=oU.o.l;have eX:(wr.alloc lA).drew.heap.size=nb+1:=by rw[nX];show(wr.alloc lA).heap.size=_;simp
         rw[eX] at mr mw mb zdO;have hN:W6.heap[nb]? =some (G8 v5 r5):=by rw[rI,nX];exact zag zEF.o
         have Uf:dZ W6 gb v5 r5:=by rw[rI];exact wS.o.set8 aC
         have Wc:=zhs w5 nb (.int .i64 r5.o.ln) (.int .i64 r5.o.op) (.int .i64 r5.o.pt) (.int .i64 r5.clk) (v5.sR r5) (v5.sW r5) (v5.sB r5) (v5.sL r5);have zbb:cF gb w W6:=by rw[rI];exact zcY.trans ⟨Wc.os,Wc.tape,Wc.output,Wc.size,λx hx=>Wc.block x aC aC⟩
         have q0:W6.heap[gb]? =some (.cells #[.int .i64 o.ln,.int .i64 o.op,.int .i64 o.pt] 29):=by rw[rI];exact(Gz aC).trans (p0.trans Nn.o.ofc)
         have q1:W6.heap[gb+1]? =some lA:=by rw[rI];exact(Gz aC).trans (p1.trans Nn.o.res)
         have q6:W6.heap[gb+6]? =some (G8 v1 r1):=by rw[rI];exact(Gz aC).trans (p6.trans Nn.o.blk)
         have zik:gb+7<=W6.heap.size:=by rw[rI,zln];omega
         have C5:nb≠gb+6:=aC;unfold gU at rI;rw[<-nX,<-rI];clear rI nX zcY p0 p1 p6 zdO Wc l1 mr mw mb ml eX z0 z1 z2 z3 z4 z5 zaw z7 r0;have zHd:=aD hN;have zyB:=aD Uf;have zau:r5.log=r1.log:=by rw[o6.o];exact zwl.o.2.2.2
         have zyx:r5.log.length<=60:=by rw[zau];exact pD
         have Co:=aD (sY.stored Uf zbb q0 q1 q6 a1 a2 a3 a4 zik);have k:=aI hN;obtain⟨k0,k1,k2,k3,k4,k5,k6,k7⟩:=eN k;have z:=aI q6;obtain⟨z0,z1,z2,z3,z4,z5,zaw,z7⟩:=eN z;have r0:=eW q6;clear k z hN Uf zbb q0 q1 q6 zau
         go_upto_region 14 with fail
         obtain⟨W7,C0⟩:=aP (gU W6 (gb+6) (.int .i64 r5.o.ln) (.int .i64 r5.o.op) (.int .i64 r5.o.pt) (.int .i64 r5.clk) (v5.sR r5) (v5.sW r5) (v5.sB r5) (v5.sL r5));rw[<-C0] at Co;unfold gU at C0;rw[<-C0];clear C0 k0 k1 k2 k3 k4 k5 k6 k7 z0 z1 z2 z3 z4 z5 zaw z7 r0;have k7:=aI Co.o.blk 7;have zBH:=Co.o.size;have zjA:=Co.o.aL;obtain⟨ii,Qa,fG,dB,gQ⟩:=Ch zuo;have zdn:=aD Qa;clear Qa
         go_wp2_with (at_builtin;refine ziT _ rfl (.tmp 58) (.tmp 60) 26 rfl gb 9 ii (.string ⟨#[]⟩) 1 16 ztO zdn.o fG dB gQ rfl aH v5.gL v5.cL r5.log.length (vO r5.log) rfl ((Co.o.alloc _).ok.lg) ⟨_,0,none⟩ 1 1 [.string ⟨t5.toArray⟩] rfl rfl ?c2 Mp ?c5 ?c6 ?c7 ?_;(case c2=>exact Dn (cs:=#[.string ⟨t5.toArray⟩]) (gP _ _));(case c5=>unfold maxLen;omega);(case c6=>omega);(case c7=>(simp;omega));intro g9 c9 w9 zbh Tw B9 Z8;have zib:=aD ((Co.o.alloc _).appL Tw zbh rfl Z8);have kx:=(zQ Tw (dG Co.o.blk _) (Ne.symm zjA.2)).1;have zBA:=aI kx 7;have xD:=eW kx;clear zbh Tw B9 Z8 kx)
         go_roundw
         case rel=>
          refine⟨j+1,{v5 with gL:=g9,cL:=c9},aC,oL,?_⟩;rw[zsA.o,<-jI.o];have e:Et (dK r1 e)={r5 with log:=r5.log++[t5]}:=by rw[o6.o,Ec.o];rfl
          rw[e];exact zib.o
         case measure=>simp[intOf];omega
      .have e:j=k:=aC
       subst e;have zf2:=aD (show oP o es=r1 by unfold oP;rw[fE.o,<-Qx,P8.o,<-jI.o];exact if_pos rfl);clear tI tC tO aS;have k:=aI jW.o.blk;obtain⟨k0,k1,k2,k3,k4,k5,k6,k7⟩:=eN k;clear k;have z:=aI jW.o.res;obtain⟨z0,z1,z2,z3,z4,z5,z6,z7⟩:=eN z;clear z;have r0:=eW jW.o.res
       go_wp2_with fail
       have er:=aI (tJ v1 r1 jW.o.res);refine nM (v:=.tuple #[.agg (fS (v1) (r1)),.bool true]) ?_ rfl ?_
       .unfold gU at er
        simp[results,zhH,go_sem,er]
       .obtain⟨d1,d2⟩:=jW.o.doneR v1 r1
        exact⟨v1,by rw[fE.o];rw[zf2.o],by rw[zf2.o,<-fX.o];exact d1,by rw[<-fX.o];exact d2⟩
end Go.Proofs.YtfcjiloojkjaeaaGreatDoor
