/-
  Part 3 of what stands behind the last text.
-/
import Derived.Conc.WgGenN3
import Derived.Conc.TokenWalk
import Derived.Test.YtfcjiloojkjaeaaGreatDoorAnsPq2
set_option linter.all false
set_option maxHeartbeats 16000000
set_option maxRecDepth 100000
open Array renaming all_eq_true_iff_forall_mem→ziD,any_eq_true→zgv,ext_getElem?→zhc,getD_eq_getD_getElem?→x4,getElem?_eq_getElem→qI,getElem?_eq_none→Oa,getElem?_eq_some_iff→eM,getElem?_map→Dw,getElem?_mapIdx→Nb,getElem?_setIfInBounds→zo2,getElem?_setIfInBounds_ne→tY,getElem?_toList→C3,getElem_mem→zxx,mem_of_getElem?→zb4,mem_singleton→zrQ,range→N1,replicate→oL
open Bool renaming and_eq_true→jB,eq_iff_iff→Q7,false_eq_true→iA,false_or→zsa,not_eq_true'→zrI,or_eq_true→E9
open Classical renaming byContradiction→Au
open Go renaming Act→vX,Calls→gT,Deferred→Gv,Frame→dV,FuncId→aP,Goroutine→bE,Item→dZ,Oper→aZ,Operand→cN,Program→cD,TypeId→aM,TypeInfo→wG,Value→aF,World→aE,bodyPost_ret→nY,deafBehind→oN,execOp→aO,getD_set_ne→Qx,heap_alloc_new→gV,info_parts→C8,mem_ready→zlY,undef→aA,yielded→dL
open Go.Act renaming eval→xB,mk→bL,put→cE
open Go.Builtin renaming append_→xR
open Go.Code renaming region→F8
open Go.Conc renaming aside_setCell→Ze,goes_elim→zmR,listed→wX,mem_seen→zhx,past_nil→zjC,seen_none→Ct,served→pE,stepG_add_atomic→X5,stepG_block→zel,stepG_end→zhD,stepG_inBlock→zkg,stepG_inLoop→zia,stepG_load_atomic→zgu,stepG_loop→zk5,stepG_mark0→zbz,stepG_markAt→zds,stepG_region_end→dN,stepG_ret'→x7,stepG_seq→eF,stepG_skip→pP,stepG_unwind_entry→zrB
open Go.Conc.Goes renaming stop→rE
open Go.Conc.Lib renaming WgLib→Vw,WgLink→zg4
open Go.Conc.QuitsD renaming ctl→zry
open Go.ConcR renaming Payload→zeY,mk→o5
open Go.ConcR.Gen renaming body_add→O2,body_wait→U0,nm_uLoad→zmZ,x_addU64_b→V7,x_addU64_f→Yr,x_addU64_n→Yv,x_addU64_x→Xe,x_disable_b→zlJ,x_disable_f→znR,x_disable_n→zjh,x_disable_x→ziR,x_enable_b→zhU,x_enable_f→zd3,x_enable_n→zhz,x_enable_x→zfX,x_loadU64_b→zgK,x_loadU64_f→zfv,x_loadU64_n→zgt,x_loadU64_x→zeR,x_semacquire_b→zt9,x_semacquire_f→zsr,x_semacquire_n→zuB,x_semacquire_x→zyh,x_semrelease_b→zpl
open Go.Deferred renaming ofValue→Cz
open Go.Extern.Race renaming none_→zwS
open Go.Frame renaming enter→Ic,finish_at→zv1
open Go.GStep renaming after→Di
open Go.IntKind renaming i32→zqy,u64→Tj,wrap_i32→zqq,wrap_u64→zf6
open Go.Lib renaming itoa→Ly,itoa_nonneg→Ww
open Go.Made renaming infoAt→zvA,reckon→zui,reckonStruct→zqN,word→zuK
open Go.Proofs.Tryz renaming checked→vR,prog→aK,results40→zgp,results51→zbC,results63→zhW,results64→zlu,results65→zhA,results66→zeq,underlying26→zqU,underlying45→zsR,underlying57→M5
open Go.Region renaming binds→G2,ready→Hv,wanted→dI
open Go.Result renaming andThen→vW,evThen_ok→zkX,ok→xH
open Go.RowKit renaming Below→cH
open Go.RowKit.Below renaming heap_alloc→qA,heap_setCell→dX,refl→gD
open Go.Sem renaming bind→yK,events→yA,events_bind'→zap,run→bN,runT→Bt,run_bind'→vD
open Go.Tables renaming info?→zn5
open Go.World renaming alloc→zp3,cell?→lW,cell?_of_block→Bs,news_of_block→Ez,size_setCell→xG
open Int renaming le_refl→zdj
open List renaming all_eq_true→xC,any_eq_true→Ws,foldl_append→zjS,foldl_cons→Qz,getD_cons_succ→Ey,getD_cons_zero→Dy,getElem?_eq_getElem→oQ,getElem?_eq_some_iff→lX,getElem?_modify→Iz,getElem?_of_mem→zyM,getElem_map→zxi,length_append→j5,length_cons→uV,length_filter_le→zdA,length_modify→Nv,length_nil→zP,map_cons→jO,mem_append→Fq,mem_cons→mB,mem_filter→Mg,mem_iff_getElem→Mz,mem_iff_getElem?→yY,mem_map→Sl,mem_map_of_mem→zrk,mem_of_getElem?→eI,mem_range→Ei,modify→Rq,not_mem_nil→nD,range→iL,set_cons_succ→dW,set_cons_zero→dU,take_add_one→De
open List.Nodup renaming sublist→zzF
open List.Sublist renaming map→zBv
open Nat renaming eq_zero_or_pos→Vt,le_refl→bM,le_trans→eE,lt_of_lt_of_le→jP,lt_or_ge→uR,lt_succ_of_lt→zuP,lt_succ_self→y4,strongRecOn→zbl,zero_add→qV,zero_le→lU,zero_mul→zpK
open Option renaming bind_eq_some_iff→Ep,bind_some→vN,getD_some→Cb,isSome_iff_exists→zj1,map_eq_some_iff→At,map_some→G7
open Option.some renaming inj→cS,injEq→jQ
open Pure renaming pure→mF
open SizeOf renaming sizeOf→Nd
noncomputable section
namespace Go
theorem nN{P:Prop}(h:P:=by decide+kernel):P:=h
theorem Ke{P:Prop}(h:P:=by rw[hz];exact zIQ (by kernel_rfl)):P:=h
theorem zik{P:Prop}(h:P:=by intro u hu;simp[bO.cells] at hu;rcases hu with rfl|rfl|rfl|rfl|rfl|rfl|rfl<;>rfl):P:=h
theorem rZ{P:Prop}(h:P:=by k_ne):P:=h
theorem zvE{P:Prop}(h:P:=by intro k hk aS;have cZ:k=0\/k=1\/k=3\/k=4\/k=5\/k=6:=(by omega);rcases cZ with rfl|rfl|rfl|rfl|rfl|rfl<;>rfl):P:=h
theorem zvd{P:Prop}(h:P:=by intro k hk aS;have cZ:k=0\/k=1\/k=2\/k=3\/k=5\/k=6:=(by omega);rcases cZ with rfl|rfl|rfl|rfl|rfl|rfl<;>rfl):P:=h
theorem zho{P:Prop}(h:P:=by intro e2;rw[e2] at h0;exact absurd h0 (by decide)):P:=h
theorem zmB{P:Prop}(h:P:=by intro e2;rw[e2] at h1;exact absurd h1 (by decide)):P:=h
theorem Lc{P:Prop}(h:P:=by rw[hf];simp):P:=h
theorem Z7{P:Prop}(h:P:=by unfold maxLen;omega):P:=h
theorem Wx{P:Prop}(h:P:=by exact True.intro):P:=h
theorem zuq{P:Prop}(h:P:=by intro e2;rw[e2] at h2;exact absurd h2 (by decide)):P:=h
theorem Yt{P:Prop}(h:P:=by rw[cG];simp):P:=h
theorem zbO{P:Prop}(h:P:=by rw[xS];simp):P:=h
theorem zhl{P:Prop}(h:P:=by simpa using hi):P:=h
theorem ztY{P:Prop}(h:P:=by have:=fD.o.lob;have:=p8.o;omega):P:=h
theorem zkk{P:Prop}(h:P:=by show gb+1≠gb;omega):P:=h
theorem zlw{P:Prop}(h:P:=by simp[Act.eval,stA]):P:=h
theorem zn9{P:Prop}(h:P:=by simp[Act.eval,smA]):P:=h
theorem zjT{P:Prop}(h:P:=by have:=h.size;omega):P:=h
end Go
namespace Go.Mt
open Go.Conc Go.Tt
variable {p:cD}{main:Bool}{m m':Fm}{ms':List Fm}{w w':aE}
theorem zea {c:Fm}{rest:List Fm}(hr:m.ret=true)(hc:c.ret=false)(h:(Ap p m (c::rest)).run p w=.ok (m',ms') w')(k:List dZ)(d:Dk)(CS:List dV):
 ms'=rest/\w'=w/\(∃ops i r k0 v,c.todo=.inRegion ops (i::r)::k0/\m'=c.fin ops i r k0 v)/\stepG p main (G m.fr (fx k d c::CS)) w=.go (G (fx k d m') CS) w' (seen p m.fn ((Ap p m (c::rest)).events p w #[])):=by
 obtain⟨ops,i,r,k0,v,fn,Gh,hf,hv,rfl,rfl⟩:=Uv h;obtain⟨rfl,_⟩:=Zl _ _ w v w' hv;refine⟨rfl,rfl,⟨ops,i,r,k0,v,Gh,rfl⟩,?_⟩;rw[(Mc Gh hf hv).2];have he:results fn m.tmps=oO fn.results.toList m.tmps:=zmO (zxR hv);have By:(fx k d c).finish v=fx k d (c.fin ops i r k0 v):=by
  simp only[dV.finish,fx,Fm.fr,Fm.fin,Gh,List.cons_append];cases(ops[i]?).bind (·.dst)<;>rfl
 rw[Fm.fr_ret hr,<-By];simp[G,stepG,unwind,doReturn,hf,he,hv,Di]
def low (k:List dZ)(d:Dk):Fm->List Fm->List dV
 |c,[]=>[fx k d c]
 |c,e::cs=>c.fr::low k d e cs
def stk (k:List dZ)(d:Dk)(base:List dV)(m:Fm):List Fm->bE
 |[]=>G (fx k d m) base
 |c::cs=>G m.fr (low k d c cs++base)
theorem zrp (k:List dZ)(d:Dk)(base:List dV)(m:Fm)(ms:List Fm):(stk k d base m ms).status=.running:=by cases ms<;>rfl
variable {ms:List Fm}
theorem zCm {k:List dZ}{d:Dk}{base:List dV}(hs:m.ret=true->ms≠[])(aS:ms=[]->m.ret=false->m.todo≠[])(hw:∀c∈ms,c.ret=false)
 (h:(fJ p m ms).run p w=.ok (m',ms') w'):∃es,stepG p main (stk k d base m ms) w=.go (stk k d base m' ms') w' es/\∀e∈es,e∈seen p m.fn ((fJ p m ms).events p w #[]):=by
 cases hr:m.ret with
 |false=>
  simp only[fJ,hr,iA,if_false] at h⊢
  cases ms with
  |nil=>
   rcases znL (main:=main) hr (k:=k) (λe=>absurd e (aS rfl hr)) h d base with⟨rfl,e⟩|⟨rfl,e⟩
   .exact⟨_,e,λ_ x=>x⟩
   .exact⟨_,e,λ_ x=>x⟩
  |cons c cs=>
   rcases znL (main:=main) hr (k:=[]) (λ_=>rfl) h .nil (low k d c cs++base) with⟨rfl,e⟩|⟨rfl,e⟩
   .simp only[Hi] at e
    exact⟨_,e,λ_ x=>x⟩
   .simp only[Hi] at e
    exact⟨_,e,λ_ x=>x⟩
 |true=>
  simp only[fJ,hr,if_true] at h⊢
  cases ms with
  |nil=>simp_all
  |cons c cs=>
   have zuU:=hw c (List.mem_cons_self ..)
   cases cs with
   |nil=>
    obtain⟨rfl,rfl,_,e⟩:=zea (main:=main) hr zuU h k d base;exact⟨_,e,λ_ x=>x⟩
   |cons c2 cs=>
    obtain⟨rfl,rfl,_,e⟩:=zea (main:=main) hr zuU h [] .nil (low k d c2 cs++base);simp only[Hi] at e;exact⟨_,e,λ_ x=>x⟩
variable {S:List Nat}
def K3.refl (h:∀i∈m.todo,Ca S i=true):K3 S m m:=⟨h,λ_ _=>rfl⟩
theorem zEG (hn:∀i∈(Uo m ms).todo,Ca S i=true)(h:(fJ p m ms).run p w=.ok (m',ms') w'):K3 S (Uo m ms) (Uo m' ms'):=by
 cases hr:m.ret with
 |false=>
  simp only[fJ,hr,iA,if_false] at h
  cases ms with
  |nil=>
   rcases zEI (S:=S) hn h with⟨rfl,e⟩|rfl
   .exact e
   .exact K3.refl hn
  |cons c cs=>
   rcases zgF h with⟨rfl,_⟩|rfl
   .exact K3.refl hn
   .exact K3.refl hn
 |true=>
  simp only[fJ,hr,if_true] at h
  cases ms with
  |nil=>simp[Ap,stuck,bN] at h
  |cons c cs=>
   obtain⟨ops,i,r,k0,v,fn,Gh,hf,hv,rfl,rfl⟩:=Uv h
   cases ms' with
   |nil=>exact zf5 Gh hn v
   |cons d ds=>exact K3.refl hn
end Go.Mt
namespace Go.Mt
open Go.Conc Go.Tt
open Go.ConcR (KK wgBlock WgAt stA smA rd wr)
def EvQ (O Z:Nat->Prop)(e:Event):Prop:=e=⟨.mark .noRoom,false,true⟩\/∃b,Ik e=some b/\(O b\/(Z b/\e.write=false))
variable {O Z:Nat->Prop}{e:Event}
theorem zBc {Wg:Nat}{main:Bool}(h:EvQ O Z e):EvT Wg main O Z e:=by
 rcases h with rfl|⟨b,h1,h2⟩
 .trivial
 .obtain⟨loc,wr,sy⟩:=e
  cases loc with
  |cell x=>simp only[Ik,jQ] at h1;subst h1;exact h2
  |obj r=>simp only[Ik,jQ] at h1;subst h1;exact h2
  |_=>simp[Ik] at h1
theorem zA6 (h:EvQ O Z e):e.loc≠ .mark .disable/\e.loc≠ .mark .enable:=by
 rcases h with rfl|⟨b,h1,_⟩
 .simp_all
 .obtain⟨loc,wr,sy⟩:=e
  cases loc<;>simp[Ik] at h1⊢
variable {τ:cI}
theorem zfZ {St:Nat->Prop}{R:Pr}(h:Iq R St e)(ht:wL τ R St):EvQ τ.own τ.still e:=by
 rcases h with rfl|⟨b,a,h1,h2,h3⟩
 .exact .inl rfl
 .refine .inr ⟨b,h1,?_⟩
  by_cases hs:St a
  .refine .inr ⟨(ht a b h2).1 hs,?_⟩
   cases hw:e.write
   .rfl
   .exact absurd hs (h3 hw)
  .exact .inl ((ht a b h2).2 hs)
def OwnQ (p:cD)(ty:aM)(Wg:Nat)(main:Bool)(B:cI->bE->aE->Prop)(τ:cI)(g:bE)(w:aE):Prop:=
 ∀aJ,b8 ty Wg τ w aJ->∃g' w' es,stepG p main g aJ=.go g' w' es/\g'.status=.running/\Am τ.own aJ w'/\(∀e∈es,EvQ (τ.grow aJ w').own τ.still e)/\B (τ.grow aJ w') g' w'
structure Cx (L:Type) where
 p:cD
 gs:aP->Bool
 fs:aP->Bool
 ty:aM
 Wg:Nat
 A:jV L
 Fin:bE->aE->Prop
 main:Bool
 base:List dV
 ds:Dk
 K:Pr
 St:Nat->Prop
 I:Pr->cI->aE->Prop
 pin:List (Nat×aF)
 alone:Option (cI->bE->aE->Prop):=none
 aok:∀B,alone=some B->∀τ g w,g.status=.running->OwnQ p ty Wg main B τ g w->B τ g w:=by intro _ h;cases h
variable {L:Type}
abbrev Cx.P (C:Cx L):dQ:=PS C.p C.gs
abbrev Cx.Rel (C:Cx L)(R:Pr)(w W:aE):Prop:=dB (SF C.fs) C.K R (pU C.p) C.St w W
def Cx.B (C:Cx L)(l:L)(τ:cI)(g:bE)(w:aE):Prop:=
 match C.alone with
 |none=>cF C.p C.ty C.Wg C.A C.Fin C.main (.usr l) 0 τ g w
 |some B=>B τ g w
theorem Cx.B_none {C:Cx L}(h:C.alone=none)(l:L)(τ:cI)(g:bE)(w:aE):C.B l τ g w=cF C.p C.ty C.Wg C.A C.Fin C.main (.usr l) 0 τ g w:=by unfold Cx.B;rw[h]
variable {B:cI->bE->aE->Prop}
theorem Cx.B_some {C:Cx L}(h:C.alone=some B)(l:L)(τ:cI)(g:bE)(w:aE):C.B l τ g w=B τ g w:=by unfold Cx.B;rw[h]
theorem Cx.ownQ {C:Cx L}{l:L}{g:bE}{w:aE}(cO:g.status=.running)(h:OwnQ C.p C.ty C.Wg C.main (C.B l) τ g w):C.B l τ g w:=by
 cases ha:C.alone with
 |none=>
  rw[Cx.B_none ha];have hB:∀τ g w,C.B l τ g w->cF C.p C.ty C.Wg C.A C.Fin C.main (.usr l) 0 τ g w:=λτ g w x=>by rw[Cx.B_none ha] at x;exact x
  refine cF.own cO trivial λaJ s=>?_;obtain⟨g',w',es,h1,h2,h3,h4,h5⟩:=h aJ s;refine⟨g',w',es,h1,h2,h3,λe he=>zBc (h4 e he),?_⟩;rw[deafBehind_still (λe he=>zA6 (h4 e he))];exact hB _ _ _ h5
 |some B=>
  rw[Cx.B_some ha];refine C.aok B ha τ g w cO λaJ s=>?_;have e:∀τ g w,C.B l τ g w->B τ g w:=λτ g w x=>by rw[Cx.B_some ha] at x;exact x
  obtain⟨g',w',es,h1,h2,h3,h4,h5⟩:=h aJ s
  grind
abbrev Cx.S (C:Cx L):List Nat:=C.pin.map (·.1)
structure FmW (C:Cx L)(R:Pr)(m m':Fm):Prop where
 fn:m.fn=m'.fn
 todo:m.todo=m'.todo
 ret:m.ret=m'.ret
 tmps:bQ (SF C.fs) C.K R m.tmps m'.tmps
 pins:∀x∈C.pin,m'.tmps.getD x.1 aA=x.2
structure Rs (St:Nat->Prop)(R:Pr)(W:aE)(R1:Pr)(W1:aE):Prop where
 le:R.le R1
 tape:W1.tape=W.tape
 os:W1.os=W.os
 output:W1.output=W.output
 size:W.heap.size<=W1.heap.size
 new:∀a b,R1 a b->R a b\/(W.heap.size<=b/\b<W1.heap.size)
 keep:∀b,b<W.heap.size->(∀a,R a b->St a)->W1.heap[b]? =W.heap[b]?
structure fI (C:Cx L):Prop where
 suf:∀R τ W aY,C.I R τ W->b8 C.ty C.Wg τ W aY->C.I R τ aY
 step:∀R τ W R1 W1,C.I R τ W->wL τ R C.St->Rs C.St R W R1 W1->C.I R1 (τ.grow W W1) W1
def BO (C:Cx L)(l:L)(m:Fm)(w:aE):Prop:=
 ∀(R:Pr) (W:aE) (m':Fm) (τ:cI),C.Rel R w W->FmW C R m m'->wL τ R C.St->C.I R τ W->C.B l τ (G (fx [] C.ds m') C.base) W
section
variable {C:Cx L}{l:L}
variable {m:Fm}{w:aE}
def BO.tape (h:BO C l m w)(T:Tape)(e:Nat):BO C l m (Tt.tp w T e):=
 λR W m' τ a b c d=>h R W m' τ a.untp b c d
def BO.untape {T:Tape}{e:Nat}(h:BO C l m (Tt.tp w T e)):BO C l m w:=
 λR W m' τ a b c d=>h R W m' τ ⟨a.inj,a.inj',a.lt,a.low,a.gle,a.cont,a.rest,a.st,a.np,a.tb⟩ b c d
variable {ms:List Fm}
theorem uQ.wait {P:dQ}{fs:aP->Bool}{K R:Pr}{ms':List Fm}(h:uQ P fs K R ms ms'):∀c∈ms',c.ret=false:=by
 induction h with
 |nil=>intro c hc;cases hc
 |cons a b _ ih=>
  intro c hc;rcases mB.1 hc with rfl|hc
  .exact a.ret.symm.trans b.1
  .exact ih c hc
variable {Q:Fm->aE->Prop}
theorem zDg (F:wK C.P C.fs)(hI:fI C){k:List dZ}{fn0:aP}(h:Tt.LT C.p Q m ms w)
 (hn:∀(x:Fm) (wT:aE),x.fn=fn0->x.ret=false->x.todo=[]->(∀T,Q {x with ret:=true} (Tt.tp wT T 0))->BO C l ⟨fn0,x.tmps,k,false⟩ wT)
 (hr:∀(x:Fm) (wT:aE),x.fn=fn0->x.ret=true->x.todo≠[]->Q x wT->BO C l ⟨fn0,x.tmps,x.todo++k,true⟩ wT):
 ∀(R:Pr) (W:aE) (m':Fm) (ms':List Fm) (τ:cI),Rx m ms=fn0->(ms=[]->m.ret=true->m.todo≠[])->C.Rel R w W->qE C.P C.fs C.K R m m'->uQ C.P C.fs C.K R ms ms'->wL τ R C.St->C.I R τ W->
  (∀x∈C.pin,(Uo m' ms').tmps.getD x.1 aA=x.2)->(∀i∈(Uo m' ms').todo,Ca C.S i=true)->C.B l τ (stk k C.ds C.base m' ms') W:=by
 induction h with
 |stop h1 h2=>
  rename_i m w;intro R W m' ms' τ hl hz hw hm kJ ht hi Ek fR;cases kJ;have hB:=hr m w hl h1 (hz rfl h1) h2 R W {m' with todo:=m'.todo++k} τ hw ⟨(hl.symm.trans hm.fn:_),by show m.todo++k=_;rw[hm.todo],h1.symm.trans hm.ret,hm.tmps,Ek⟩ ht hi;have:fx [] C.ds {m' with todo:=m'.todo++k}=fx k C.ds m':=by unfold fx;simp[Fm.fr]
  rw[this] at hB;exact hB
 |step nx hs cO aT ih=>
  rename_i m ms w;intro R W m' ms' τ hl hz hw hm kJ ht hi Ek fR;by_cases L8:ms=[]/\m.ret=false/\m.todo=[]
  .obtain⟨rfl,h1,h2⟩:=L8
   cases kJ;have hQ:∀T,Q {m with ret:=true} (Tt.tp w T 0):=λT=>by
    have hT:=cO T;have e:(fJ C.p m []).run C.p (Tt.tp w T 0)=.ok ({m with ret:=true},[]) (Tt.tp w T 0):=by simp[fJ,h1,tL,h2,mF,bN]
    rw[e] at hT;injection hT with e1 e2;have hl:=aT T;rw[<-e1,<-e2] at hl;exact hl.ret_inv rfl
   have hB:=hn m w hl h1 h2 hQ R W {m' with todo:=m'.todo++k} τ hw ⟨(hl.symm.trans hm.fn:_),by show k=m'.todo++k;rw[<-hm.todo,h2];rfl,h1.symm.trans hm.ret,hm.tmps,Ek⟩ ht hi;have:fx [] C.ds {m' with todo:=m'.todo++k}=fx k C.ds m':=by unfold fx;simp[Fm.fr]
   rw[this] at hB;exact hB
  .refine Cx.ownQ (zrp ..) λaY s=>?_
   have dO:=zj9 hw ht (λa b x=>(hw.lt a b (.inr x)).2) s;have Ad:=hI.suf _ _ _ _ hi s
   let T:Tape:=λn q=>aY.tape (aY.drawn+n) q
   have Be:C.Rel R (Tt.tp w T 0) aY:=⟨dO.inj,dO.inj',dO.lt,dO.low,dO.gle,dO.cont,dO.rest,dO.st,dO.np,dO.tb⟩;have Mv:Tp (Tt.tp w T 0) aY:=λn q=>by show aY.tape (aY.drawn+(0+n)) q=_;rw[qV]
   have hrel:yH C.P C.fs C.K (pU C.p) C.St m ms (Tt.tp w T 0):=⟨R,aY,m',ms',Be,hm,kJ⟩;obtain⟨R1,x',W1,ev,e1,e2,e3,e4,e5⟩:=aG.run rfl _ (zeM (l:=false) F.toFit2 (Be.relOk rfl) hm kJ (λe=>by cases e) hs) Be Mv (cO T);replace e2:=e2.resolve_right λx=>by
    obtain⟨f,_,_,_,_,_,_,ho,_⟩:=x.2;rw[F.none] at ho;cases ho
   obtain⟨zvn,zpO⟩:=x';have Hr:m'.ret=true->ms'≠[]:=λe e2=>hs (hm.ret.trans e) (by cases kJ with|nil=>rfl|cons _ _ _=>cases e2);have zdJ:ms'=[]->m'.ret=false->m'.todo≠[]:=λa b c=>L8 ⟨(by cases kJ with|nil=>rfl|cons _ _ _=>cases a),hm.ret.trans b,hm.todo.trans c⟩;have Yk:=zEG (S:=C.S) fR e1;have nH:(fJ C.p m' ms').events C.p aY #[]=ev:=by rw[e4];simp
   have cP:aY.heap.size<=W1.heap.size:=e3.size.2;have Fu:∀a b,R1 a b->R a b\/(aY.heap.size<=b/\b<W1.heap.size):=λa b x=>by
    rcases e3.new a b x with y|⟨_,y⟩
    .exact .inl y
    .exact .inr ⟨y,(e3.rel.ltR a b x).2⟩
   have H3:wL (τ.grow aY W1) R1 C.St:=λa b x=>by
    rcases e3.new a b x with y|⟨y1,y2⟩
    .exact⟨(ht a b y).1,λz=>.inl ((ht a b y).2 z)⟩
    .refine⟨λz=>?_,λ_=>.inr ⟨y2,(e3.rel.ltR a b x).2⟩⟩
     obtain⟨⟨b',bY⟩,_⟩:=Be.st a z;have:=(Be.ltR a b' bY).1;omega
   have hg:Am τ.own aY W1:=⟨e3.tape.2,e3.os.2,e3.ou.2,cP,λb hb fR=>e3.keep b hb λa x=>Au λz=>fR ((ht a b x).2 z)⟩;have yN:=hI.step R τ aY R1 W1 Ad ht ⟨e3.le,e3.tape.2,e3.os.2,e3.ou.2,cP,Fu,e3.keep⟩;have Sz:Rx (nx T).1.1 (nx T).1.2=fn0:=(ztx (m1:=(nx T).1.1) (ms1:=(nx T).1.2) (cO T)).trans hl;have goal:C.B l (τ.grow aY W1) (stk k C.ds C.base zvn zpO) W1:=by
    refine ih T R1 W1 zvn zpO (τ.grow aY W1) Sz (λa b c=>?_) e3.rel e2.1 e2.2.1 H3 yN (λx hx=>(Yk.at_ x.1 (zrk hx)).trans (Ek x hx)) Yk.no;have hT:=cO T
    cases ms with
    |nil=>
     cases j9:m.ret with
     |true=>exact hs j9 rfl
     |false=>
      simp only[fJ,j9,iA,if_false] at hT;exact zoZ hT b j9 (λe=>L8 ⟨rfl,j9,e⟩) a c
    |cons c0 cs=>
     cases j9:m.ret with
     |true=>
      simp only[fJ,j9,if_true] at hT;obtain⟨ops,i,r,k0,v,fn,hc,hf,hv,h1,h2⟩:=Uv (m1:=(nx T).1.1) (ms1:=(nx T).1.2) hT;rw[h1] at c;simp[Fm.fin] at c
     |false=>
      simp only[fJ,j9,iA,if_false] at hT;rcases zgF hT with⟨e,_⟩|e
      .rw[a] at e;cases e
      .rw[a] at e;cases e
   obtain⟨es,aX,yS⟩:=zCm (main:=C.main) (k:=k) (d:=C.ds) (base:=C.base) Hr zdJ (uQ.wait kJ) e1;have Sf:∀e∈es,Iq R1 C.St e:=λe he=>by
    have:=yS e he;rw[nH] at this;exact e5 e (zhx this)
   exact⟨_,W1,_,aX,zrp ..,hg,λe he=>zfZ (Sf e he) H3,goal⟩
end
end Go.Mt
namespace Go.Mt
open Go.Conc Go.Tt
open Go.ConcR (KK wgBlock WgAt stA smA rd wr)
section
variable {L:Type}{C:Cx L}{l:L}
theorem mY (d:Dk)(fn:aP)(tmps:Array aF)(todo:List dZ):fx [] d ⟨fn,tmps,todo,false⟩=(d.base fn).at ⟨tmps,d.ds⟩ todo:=by
 unfold fx;simp[Fm.fr,Dk.base,dV.at]
theorem zlv (d:Dk)(fn:aP)(tmps:Array aF)(todo:List dZ):fx [] d ⟨fn,tmps,todo,true⟩={(d.base fn).at ⟨tmps,d.ds⟩ todo with mode:=.returning}:=by
 unfold fx;simp[Fm.fr,Dk.base,dV.at]
theorem cI.grow_id (τ:cI)(w:aE):τ.grow w w=τ:=by
 obtain⟨a,b,c⟩:=τ;simp only[cI.grow,cI.mk.injEq,and_true]
 grind
def Am.id (O:Nat->Prop)(w:aE):Am O w w:=⟨rfl,rfl,rfl,bM _,λ_ _ _=>rfl⟩
variable {R:Pr}{w W:aE}{τ:cI}
def Cx.Rel.suf {aY:aE}(hw:C.Rel R w W)(ht:wL τ R C.St)(s:b8 C.ty C.Wg τ W aY):C.Rel R w aY:=zj9 hw ht (λa b x=>(hw.lt a b (.inr x)).2) s
variable {g':bE}
theorem Ot {main:Bool}{g:bE}{p:cD}{ty:aM}{Wg:Nat}{A:jV L}{Fin:bE->aE->Prop}(hg:g.status=.running)(yT:g'.status=.running)(aX:∀aY,b8 ty Wg τ W aY->stepG p main g aY=.go g' aY #[])
 (h:∀aY,b8 ty Wg τ W aY->cF p ty Wg A Fin main (.usr l) 0 τ g' aY):cF p ty Wg A Fin main (.usr l) 0 τ g W:=by
 refine cF.own hg trivial λaY s=>⟨g',aY,#[],aX aY s,yT,Am.id _ _,λe he=>by simp at he,?_⟩;rw[cI.grow_id];exact h aY s
theorem Cx.silent {g:bE}(hg:g.status=.running)(yT:g'.status=.running)(aX:∀aY,b8 C.ty C.Wg τ W aY->stepG C.p C.main g aY=.go g' aY #[])(h:∀aY,b8 C.ty C.Wg τ W aY->C.B l τ g' aY):C.B l τ g W:=by
 refine Cx.ownQ hg λaY s=>⟨g',aY,#[],aX aY s,yT,Am.id _ _,λe he=>by simp at he,?_⟩;rw[cI.grow_id];exact h aY s
variable {fn:aP}{tmps:Array aF}
theorem BO.silent (hI:fI C){todo zic:List dZ}{zir:Bool}(aX:∀R bZ W,bQ (SF C.fs) C.K R tmps bZ->stepG C.p C.main (G ((C.ds.base fn).at ⟨bZ,C.ds.ds⟩ todo) C.base) W=.go (G (fx [] C.ds ⟨fn,bZ,zic,zir⟩) C.base) W #[])
 (h:BO C l ⟨fn,tmps,zic,zir⟩ w):BO C l ⟨fn,tmps,todo,false⟩ w:=by
 intro R W m' τ hw hm ht hi;obtain⟨fn',bZ,zU,Ac⟩:=m';obtain rfl:=hm.fn;obtain rfl:=hm.todo;obtain rfl:=hm.ret;refine Cx.silent rfl rfl (λaY s=>by rw[mY];exact aX R bZ aY hm.tmps) λaY s=>?_;exact h R aY ⟨fn,bZ,zic,zir⟩ τ (hw.suf ht s) ⟨rfl,rfl,rfl,hm.tmps,hm.pins⟩ ht (hI.suf _ _ _ _ hi s)
section ctl
variable {fn:aP}{tmps:Array aF}{k:List dZ}{w:aE}
variable {a b:Code}
theorem BO.seq (hI:fI C)(h:BO C l ⟨fn,tmps,.code a:: .code b::k,false⟩ w):BO C l ⟨fn,tmps,.code (.seq a b)::k,false⟩ w:=BO.silent hI (λR t W _=>by rw[mY];exact eF) h
theorem BO.skip (hI:fI C)(h:BO C l ⟨fn,tmps,k,false⟩ w):BO C l ⟨fn,tmps,.code .skip::k,false⟩ w:=BO.silent hI (λR t W _=>by rw[mY];exact pP) h
variable {c:Code}
theorem BO.block (hI:fI C){id:Nat}(h:BO C l ⟨fn,tmps,.code c:: .inBlock id::k,false⟩ w):BO C l ⟨fn,tmps,.code (.block id c)::k,false⟩ w:=BO.silent hI (λR t W _=>by rw[mY];exact zel) h
theorem BO.loop (hI:fI C)(h:BO C l ⟨fn,tmps,.code c:: .inLoop c::k,false⟩ w):BO C l ⟨fn,tmps,.code (.loop c)::k,false⟩ w:=BO.silent hI (λR t W _=>by rw[mY];exact zk5) h
theorem BO.inLoop (hI:fI C)(h:BO C l ⟨fn,tmps,.code c:: .inLoop c::k,false⟩ w):BO C l ⟨fn,tmps,.inLoop c::k,false⟩ w:=BO.silent hI (λR t W _=>by rw[mY];exact zia) h
theorem BO.inBlock (hI:fI C){id:Nat}(h:BO C l ⟨fn,tmps,k,false⟩ w):BO C l ⟨fn,tmps,.inBlock id::k,false⟩ w:=BO.silent hI (λR t W _=>by rw[mY];exact zkg) h
theorem BO.exit (hI:fI C){id:Nat}{k':List dZ}(he:exitTo id k=some k')(h:BO C l ⟨fn,tmps,k',false⟩ w):BO C l ⟨fn,tmps,.code (.exit id)::k,false⟩ w:=BO.silent hI (λR t W _=>by rw[mY];exact stepG_exit he) h
theorem BO.reg (hI:fI C){id:Nat}{ops:Array aZ}(h:BO C l ⟨fn,tmps,.inRegion ops (iL ops.size)::k,false⟩ w):BO C l ⟨fn,tmps,.code (.region id ops false)::k,false⟩ w:=BO.silent hI (λR t W _=>by rw[mY];exact stepG_region) h
theorem BO.regEnd (hI:fI C){ops:Array aZ}(h:BO C l ⟨fn,tmps,k,false⟩ w):BO C l ⟨fn,tmps,.inRegion ops []::k,false⟩ w:=BO.silent hI (λR t W _=>by rw[mY];exact dN) h
theorem BO.fall (hI:fI C)(h:BO C l ⟨fn,tmps,[],true⟩ w):BO C l ⟨fn,tmps,[],false⟩ w:=BO.silent hI (λR t W _=>by rw[zlv];exact zhD) h
theorem BO.ret (hI:fI C)(h:BO C l ⟨fn,tmps,.code .ret::k,true⟩ w):BO C l ⟨fn,tmps,.code .ret::k,false⟩ w:=BO.silent hI (λR t W _=>by rw[zlv];exact x7) h
theorem Hp {R:Pr}{t t':Array aF}{d:List Gv}(h:bQ (SF C.fs) C.K R t t'){x:cN}(hx:eD C.fs x=true):VR (SF C.fs) C.K R ((bL t []).eval x) ((bL t' d).eval x):=by
 cases x with
 |tmp t=>exact h.getD t yU
 |const v=>exact zqT hx
 |global g=>cases hx
 |func f=>exact .func hx rfl (λi v v' h=>by simp at h) rfl (λi v v' h=>by simp at h)
theorem BO.cond (hI:fI C){c:cN}{t:Bool}(hx:eD C.fs c=true)(hc:(bL tmps []).eval c=.bool t)(h:BO C l ⟨fn,tmps,.code (if t then a else b)::k,false⟩ w):BO C l ⟨fn,tmps,.code (.cond c a b)::k,false⟩ w:=
 BO.silent hI (λR t' W ha=>by
  rw[mY];have h1:=Hp (C:=C) (d:=C.ds.ds) ha hx;rw[hc] at h1;have h2:(bL t' C.ds.ds).eval c=.bool t:=by
   generalize(bL t' C.ds.ds).eval c=v' at h1;cases h1;rfl
  exact stepG_cond h2) h
end ctl
structure xA (p:cD)(fn:aP):Prop where
 res:∃f,p.funcs[fn]? =some f/\Hf f.results.toList
variable {bZ:Array aF}{c:Code}
theorem zGw (hc:qD C.p ⟨C.fs,C.gs,true⟩ c=true)(hf:xA C.p fn)(ha:bQ (SF C.fs) C.K R tmps bZ):qE C.P C.fs C.K R ⟨fn,tmps,[.code c],false⟩ ⟨fn,bZ,[.code c],false⟩:=by
 obtain⟨f,h1,h2⟩:=hf.res;refine⟨rfl,rfl,rfl,ha,λi hi=>?_,⟨f,f,h1,h1,rfl,h2⟩⟩;simp only[mB,nD,or_false] at hi;subst hi;exact hc
variable {k:List dZ}
theorem BO.piece (F:wK C.P C.fs)(hI:fI C)(hc:qD C.p ⟨C.fs,C.gs,true⟩ c=true)(hf:xA C.p fn)(fR:y3 C.S c=true)
 (vA:∀T,Code.wp C.p c (λe a' w'=>e=.normal/\BO C l ⟨fn,a'.tmps,k,false⟩ w') ⟨tmps,[]⟩ (Tt.tp w T 0)):BO C l ⟨fn,tmps,.code c::k,false⟩ w:=by
 intro R W m' τ hw hm ht hi;obtain⟨fn',bZ,zU,Ac⟩:=m';obtain rfl:=hm.fn;obtain rfl:=hm.todo;obtain rfl:=hm.ret;have zqh:=zGw (R:=R) hc hf hm.tmps;have hrel:yH C.P C.fs C.K (pU C.p) C.St ⟨fn,tmps,[.code c],false⟩ [] w:=⟨R,W,_,[],hw,zqh,.nil⟩;have tree:=zq5 F rfl hrel vA (λe a w h=>.inl h.1) (λe a w T k h=>⟨h.1,h.2.tape T k⟩);have:=zDg (l:=l) F hI (k:=k) (fn0:=fn) tree (λx wT e1 e2 e3 hq=>by
  rcases(hq wT.tape).2 with h|h
  .exact BO.untape h.2.2
  .cases h.1)
  (λx wT e1 e2 e3 hq=>by
   rcases hq.2 with h|h
   .exact absurd h.1 e3
   .cases h.1) R W ⟨fn,bZ,[.code c],false⟩ [] τ rfl (λ_ e=>by cases e) hw zqh .nil ht hi hm.pins (λi hi=>by
   simp only[Uo,mB,nD,or_false] at hi;subst hi;exact fR)
 have e:fx k C.ds ⟨fn,bZ,[.code c],false⟩=fx [] C.ds ⟨fn,bZ,.code c::k,false⟩:=by unfold fx;simp[Fm.fr]
 unfold stk at this;simp_all
variable {dst:Option Nat}{v:aF}{d:List Gv}
theorem Js (hp:∀x∈C.pin,bZ.getD x.1 aA=x.2)(hn:∀s,dst=some s->s∉C.S):∀x∈C.pin,(cE ⟨bZ,d⟩ dst v).tmps.getD x.1 aA=x.2:=by
 intro x hx
 cases dst with
 |none=>exact hp x hx
 |some s=>
  have aS:s≠x.1:=λe=>hn s rfl (e▸zrk hx);rw[<-hp x hx];simp only[cE,x4,tY aS]
variable {t t':Array aF}
theorem J7 {d':List Gv}(h:bQ (SF C.fs) C.K R t t'){v':aF}(hv:VR (SF C.fs) C.K R v v'):bQ (SF C.fs) C.K R (cE ⟨t,d⟩ dst v).tmps (cE ⟨t',d'⟩ dst v').tmps:=by
 cases dst with
 |none=>exact h
 |some s=>exact h.set s hv
variable {o:aZ}{ops:Array aZ}
theorem Jl (h:bQ (SF C.fs) C.K R t t')(hw:dI o (dL ops t)=true):dI o (dL ops t')=true:=by
 rw[<-zm5 ops h];exact hw
theorem BO.op (F:wK C.P C.fs)(hI:fI C){i:Nat}{rest:List Nat}(ho:ops[i]? =some o)(cG:dI o (dL ops tmps)=true)
 (bV:sO C.p ⟨C.fs,C.gs,true⟩ o.op=true) (lD:∀s,o.dst=some s->s∉C.S)
 (hx:∀T,∃v w',((aO (bL tmps []).eval o).run C.p (Tt.tp w T 0)=.ok (.value v) w'\/((aO (bL tmps []).eval o).run C.p (Tt.tp w T 0)=.ok .skip w'/\v=aA))/\BO C l ⟨fn,(cE ⟨tmps,[]⟩ o.dst v).tmps,.inRegion ops rest::k,false⟩ w'):
 BO C l ⟨fn,tmps,.inRegion ops (i::rest)::k,false⟩ w:=by
 intro R W m' τ hw hm ht hi;obtain⟨fn',bZ,zU,Ac⟩:=m';obtain rfl:=hm.fn;obtain rfl:=hm.todo;obtain rfl:=hm.ret;rw[mY];refine Cx.ownQ rfl λaY s=>?_;have dO:=hw.suf ht s;have Ad:=hI.suf _ _ _ _ hi s
 let T:Tape:=λn q=>aY.tape (aY.drawn+n) q
 have Be:C.Rel R (Tt.tp w T 0) aY:=⟨dO.inj,dO.inj',dO.lt,dO.low,dO.gle,dO.cont,dO.rest,dO.st,dO.np,dO.tb⟩;have Mv:Tp (Tt.tp w T 0) aY:=λn q=>by show aY.tape (aY.drawn+(0+n)) q=_;rw[qV]
 obtain⟨v,w',cO,hB⟩:=hx T;have zbw:=zjG (P:=C.P) (q:=⟨C.fs,C.gs,true⟩) (o:=o) (ρ:=(bL tmps []).eval) (ρ':=(bL bZ C.ds.ds).eval) F.toFit2.toFit (Be.relOk rfl) (λx hx=>Hp hm.tmps hx) (λg=>rfl) (λg=>rfl) (λg=>rfl) (λg=>rfl) (λv=>rfl) (λv=>rfl) rfl (λf h=>h) (λ_ f hf=>F.toFit2.toFit.dyn rfl f hf) bV
 have key:∃R1 v' W1 ev,((aO (bL bZ C.ds.ds).eval o).run C.p aY=.ok (.value v') W1\/((aO (bL bZ C.ds.ds).eval o).run C.p aY=.ok .skip W1/\v'=aA))/\VR (SF C.fs) C.K R1 v v'/\nK (SF C.fs) C.K R (pU C.p) C.St (Tt.tp w T 0) aY R1 w' W1/\
  (∀es,(aO (bL bZ C.ds.ds).eval o).events C.p aY es=es++ev)/\∀e∈ev,Iq R1 C.St e:=by
  rcases cO with cO|⟨cO,rfl⟩
  .obtain⟨R1,x',W1,ev,e1,e2,e3,e4,e5⟩:=aG.run rfl _ zbw Be Mv cO
   cases e2 with
   |value hv=>exact⟨R1,_,W1,ev,.inl e1,hv,e3,e4,e5⟩
  .obtain⟨R1,x',W1,ev,e1,e2,e3,e4,e5⟩:=aG.run rfl _ zbw Be Mv cO
   cases e2 with
   |skip=>exact⟨R1,aA,W1,ev,.inr ⟨e1,rfl⟩,yU,e3,e4,e5⟩
 obtain⟨R1,v',W1,ev,e1,hv,e3,e4,e5⟩:=key;have hb:(C.ds.base fn).kind≠ .early:=C.ds.ok;have vJ:=Jl (C:=C) hm.tmps cG;have aX:stepG C.p C.main (G ((C.ds.base fn).at ⟨bZ,C.ds.ds⟩ (.inRegion ops (i::rest)::k)) C.base) aY=.go (G ((C.ds.base fn).at (cE ⟨bZ,C.ds.ds⟩ o.dst v') (.inRegion ops rest::k)) C.base) W1 (wX C.p (C.ds.base fn).fn ⟨bZ,C.ds.ds⟩ o aY):=by
  rcases e1 with e1|⟨e1,rfl⟩
  .exact stepG_value ho vJ hb e1
  .exact stepG_none ho vJ hb e1
 have G0:cE ⟨bZ,C.ds.ds⟩ o.dst v'=⟨(cE ⟨bZ,C.ds.ds⟩ o.dst v').tmps,C.ds.ds⟩:=by cases o.dst<;>rfl
 have Sf:∀e∈wX C.p (C.ds.base fn).fn ⟨bZ,C.ds.ds⟩ o aY,Iq R1 C.St e:=λe he=>by
  unfold wX at he;rw[e4] at he;exact e5 e (by simpa using zhx he)
 have cP:aY.heap.size<=W1.heap.size:=e3.size.2;have Fu:∀a b,R1 a b->R a b\/(aY.heap.size<=b/\b<W1.heap.size):=λa b x=>by
  rcases e3.new a b x with y|⟨_,y⟩
  .exact .inl y
  .exact .inr ⟨y,(e3.rel.ltR a b x).2⟩
 have H3:wL (τ.grow aY W1) R1 C.St:=λa b x=>by
  rcases e3.new a b x with y|⟨y1,y2⟩
  .exact⟨(ht a b y).1,λz=>.inl ((ht a b y).2 z)⟩
  .refine⟨λz=>?_,λ_=>.inr ⟨y2,(e3.rel.ltR a b x).2⟩⟩
   obtain⟨⟨b',bY⟩,_⟩:=Be.st a z
   grind
 have hg:Am τ.own aY W1:=⟨e3.tape.2,e3.os.2,e3.ou.2,cP,λb hb fR=>e3.keep b hb λa x=>Au λz=>fR ((ht a b x).2 z)⟩;have yN:=hI.step R τ aY R1 W1 Ad ht ⟨e3.le,e3.tape.2,e3.os.2,e3.ou.2,cP,Fu,e3.keep⟩;refine⟨_,W1,_,aX,rfl,hg,λe he=>zfZ (Sf e he) H3,?_⟩;rw[G0,<-mY];exact hB R1 W1 ⟨fn,_,_,false⟩ _ e3.rel ⟨rfl,rfl,rfl,J7 (C:=C) (hm.tmps.mono e3.le) hv,Js (C:=C) hm.pins lD⟩ H3 yN
end
section
variable {L:Type}{C:Cx L}{l:L}
variable {p:cD}
theorem zB5 {q:Tt.Cl}:∀c:Code,qD p q c=true->y3 [] c=true:=by
 intro c
 induction c with
 |region id ops dr=>
  intro _;simp only[y3,ziD];intro o _;cases o.dst<;>rfl
 |seq a b zkP zi9=>intro h;simp only[qD,jB] at h;simp only[y3,jB];exact⟨zkP h.1,zi9 h.2⟩
 |cond c a b zkP zi9=>intro h;simp only[qD,jB] at h;simp only[y3,jB];exact⟨zkP h.1.2,zi9 h.2⟩
 |block id c ih=>intro h;exact ih h
 |loop c ih=>intro h;exact ih h
 |scope c ih=>intro h;exact ih h
 |skip=>intro _;rfl
 |ret=>intro _;rfl
 |exit _=>intro _;rfl
 |label _=>intro _;rfl
 |_=>intro h;simp[qD] at h
def Cx.sub (C:Cx L)(m':Fm)(oJ:Pr):Cx L:={C with base:=fx [] C.ds m'::C.base,ds:=.nil,I:=λR τ W=>C.I R τ W/\oJ.le R,pin:=[]}
variable {o:aZ}{x:cN}{f:aP}{args:Array cN}{jW:Array aM}{first cap:Array aF}{ρ:cN->aF}
theorem zDd (hop:o.op=.call ⟨.value x,args,jW⟩)(hρ:ρ x=.func (.func f) first cap){fn:Func}{c:Code}(hf:p.funcs[f]? =some fn)
 (hn:(fn.name== "runtime.NumGoroutine")=false) (hb:fn.body=some c) (w:aE):(aO ρ o).run p w=.ok (.enter f (first++args.map ρ++cap)) w/\(aO ρ o).events p w #[]=#[]:=by
 obtain⟨dst,zK,type,pos,after,guard⟩:=o;simp only at hop;subst hop;have vZ:¬fn.name= "runtime.NumGoroutine" :=by simpa using hn
 constructor
 .simp[aO,resolve,Cz,hρ,invoke,callFunc,program,bind,yK,pure,bN,hf,vZ,hb]
 .simp[aO,resolve,Cz,hρ,invoke,callFunc,program,bind,yK,pure,bN,yA,Bt,hf,vZ,hb]
structure Callee (C:Cx L)(tmps:Array aF)(x:cN)(f:aP)(first cap:Array aF):Prop where
 here:(bL tmps []).eval x=.func (.func f) first cap
 there:∀R bZ d,bQ (SF C.fs) C.K R tmps bZ->∃Ul Pk,(bL bZ d).eval x=.func (.func f) Ul Pk/\bQ (SF C.fs) C.K R first Ul/\bQ (SF C.fs) C.K R cap Pk
def Callee.static (tmps:Array aF)(f:aP):Callee C tmps (.func f) f #[] #[]:=⟨rfl,λR bZ d _=>⟨#[],#[],rfl,.empty,.empty⟩⟩
variable {fn:aP}{tmps:Array aF}{ops:Array aZ}{i:Nat}{rest:List Nat}{k:List dZ}{w:aE}{fnf:Func}
theorem BO.callN (hI:fI C)(ho:ops[i]? =some o)(cG:dI o (dL ops tmps)=true)
 (hop:o.op=.call ⟨.value x,args,jW⟩) (hx:Callee C tmps x f first cap) (xF:args.all (eD C.fs)=true)  {cf:Code} (hf:C.p.funcs[f]? =some fnf) (Jh:(fnf.name== "runtime.NumGoroutine")=false) (hb:fnf.body=some cf) (zC6:Hf fnf.results.toList)
 (hB:∀(oJ:Pr) (m':Fm),FmW C oJ ⟨fn,tmps,.inRegion ops (i::rest)::k,false⟩ m'->BO (C.sub m' oJ) l ⟨f,(first++args.map (bL tmps []).eval++cap)++oL (fnf.ntmps-(first++args.map (bL tmps []).eval++cap).size) aA,[.code cf],false⟩ w):
 BO C l ⟨fn,tmps,.inRegion ops (i::rest)::k,false⟩ w:=by
 intro R W m' τ hw hm ht hi;have zeH:=hm;obtain⟨fn',bZ,zU,Ac⟩:=m';obtain rfl:=hm.fn;obtain rfl:=hm.todo;obtain rfl:=hm.ret;obtain⟨Ul,Pk,mJ,uT,q9⟩:=hx.there R bZ C.ds.ds hm.tmps;have bY:(C.ds.base fn).kind≠ .early:=C.ds.ok;have vJ:=Jl (C:=C) hm.tmps cG;rw[mY];refine Cx.silent rfl rfl (g':=G (Ic C.p f (Ul++args.map (bL bZ C.ds.ds).eval++Pk) .normal) (fx [] C.ds ⟨fn,bZ,.inRegion ops (i::rest)::k,false⟩::C.base)) (λaY s=>?_) λaY s=>?_
 rotate_right
 .have Hu:bQ (SF C.fs) C.K R (first++args.map (bL tmps []).eval++cap) (Ul++args.map (bL bZ C.ds.ds).eval++Pk):=(uT.append (bQ.maps (λx hx=>Hp (C:=C) hm.tmps hx) xF)).append q9
  have:=hB R _ zeH R aY ⟨f,(Ul++args.map (bL bZ C.ds.ds).eval++Pk)++oL (fnf.ntmps-(Ul++args.map (bL bZ C.ds.ds).eval++Pk).size) aA,[.code cf],false⟩ τ (hw.suf ht s) ⟨rfl,rfl,rfl,Hu.pad fnf.ntmps,λx hx=>by cases hx⟩ ht ⟨hI.suf _ _ _ _ hi s,.refl R⟩;rw[zbo hf hb,<-Hi];exact this
 .obtain⟨x1,x2⟩:=zDd (p:=C.p) hop (ρ:=(bL bZ C.ds.ds).eval) mJ hf Jh hb aY
  have aX:=stepG_enter (main:=C.main) (b:=C.ds.base fn) (rest:=rest) (cs:=C.base) (k:=k) ho vJ bY x1;rw[aX];unfold wX;rw[x2,Ct,mY]
variable {v:aF}
theorem BO.retN (hI:fI C){oJ:Pr}{m m':Fm}(hm:FmW C oJ m m')(hr:m.ret=false)(pZ:m.todo=.inRegion ops (i::rest)::k)(lD:∀s,(ops[i]?).bind (·.dst)=some s->s∉C.S)
   {todo:List dZ}    (hf:C.p.funcs[f]? =some fnf) (hv:(oO fnf.results.toList tmps).run C.p w=.ok v w) (h:BO C l (m.fin ops i rest k v) w):BO (C.sub m' oJ) l ⟨f,tmps,todo,true⟩ w:=by
 intro R W x' τ hw hx ht hi;obtain⟨f',bZ,zU,Ac⟩:=x';obtain rfl:=hx.fn;obtain rfl:=hx.todo;obtain rfl:=hx.ret;have zL:m'.ret=false:=hm.ret.symm.trans hr;have Pf:m'.todo=.inRegion ops (i::rest)::k:=hm.todo.symm.trans pZ;refine Cx.ownQ rfl λaY s=>?_;have dO:C.Rel R w aY:=Cx.Rel.suf (C:=C) hw ht s;have Ad:=hI.suf _ _ _ _ hi.1 s
 let T:Tape:=λn q=>aY.tape (aY.drawn+n) q
 have Be:C.Rel R (Tt.tp w T 0) aY:=⟨dO.inj,dO.inj',dO.lt,dO.low,dO.gle,dO.cont,dO.rest,dO.st,dO.np,dO.tb⟩;have Mv:Tp (Tt.tp w T 0) aY:=λn q=>by show aY.tape (aY.drawn+(0+n)) q=_;rw[qV]
 have cO:=(Zl _ _ w v w hv).2 T 0;obtain⟨R1,v',W1,ev,e1,g3,e3,e4,e5⟩:=aG.run (P:=C.P) rfl _ (zj8 hx.tmps fnf.results.toList) Be Mv cO;obtain⟨zfw,_⟩:=Zl _ _ aY v' W1 e1;subst zfw;have Pp:(Ap C.p ⟨f,bZ,todo,true⟩ [m']).run C.p W1=.ok (m'.fin ops i rest k v',[]) W1:=(Mc Pf hf e1).1;obtain⟨_,_,_,e⟩:=zea (main:=C.main) rfl zL Pp [] C.ds C.base;have S6:fx [] (C.sub m' oJ).ds ⟨f,bZ,todo,true⟩=(⟨f,bZ,todo,true⟩:Fm).fr:=Hi _;rw[S6];have Sf:∀e∈seen C.p f ((Ap C.p ⟨f,bZ,todo,true⟩ [m']).events C.p W1 #[]),Iq R1 C.St e:=λe he=>by
  rw[(Mc Pf hf e1).2,e4] at he;exact e5 e (by simpa using zhx he)
 have Fu:∀a b,R1 a b->R a b\/(W1.heap.size<=b/\b<W1.heap.size):=λa b x=>by
  rcases e3.new a b x with y|⟨_,y⟩
  .exact .inl y
  .exact .inr ⟨y,(e3.rel.ltR a b x).2⟩
 have H3:wL (τ.grow W1 W1) R1 C.St:=λa b x=>by
  rcases e3.new a b x with y|⟨y1,y2⟩
  .exact⟨(ht a b y).1,λz=>.inl ((ht a b y).2 z)⟩
  .have:=(e3.rel.ltR a b x).2;omega
 have yN:=hI.step R τ W1 R1 W1 Ad ht ⟨e3.le,rfl,rfl,rfl,bM _,Fu,λ_ _ _=>rfl⟩;refine⟨_,W1,_,e,rfl,Am.id _ _,λe he=>zfZ (Sf e he) H3,?_⟩;have Rz:C.Rel R1 w W1:=⟨e3.rel.inj,e3.rel.inj',e3.rel.lt,e3.rel.low,e3.rel.gle,e3.rel.cont,e3.rel.rest,e3.rel.st,e3.rel.np,e3.rel.tb⟩;refine h R1 W1 _ _ Rz ⟨hm.fn,rfl,hm.ret,?_,?_⟩ H3 yN
 .have:=J7 (C:=C) (d:=[]) (d':=[]) (hm.tmps.mono (hi.2.trans e3.le)) (dst:=(ops[i]?).bind (·.dst)) g3
  unfold Fm.fin;simp only;unfold cE at this
  grind
 .have:=Js (C:=C) (d:=[]) (v:=v') hm.pins lD
  unfold Fm.fin;simp only;unfold cE at this
  grind
variable {c:Nat}{ct e:aM}{ok:Bool}{z:aF}{dir:ChanDir}{ie:wG}
theorem zu7 (hop:o.op=.recv ct x ok)(Gh:p.underlying ct=some (.chan dir e))(jZ:p.info? e=some ie)(hz:ie.zero=some z)(hx:ρ x=.chan (some c))(w:aE):
 (aO ρ o).run p w=.ok (.comm #[rcase c z] true (.recv ok)) w/\(aO ρ o).events p w #[]=#[]:=by
 obtain⟨dst,zK,type,pos,after,guard⟩:=o;simp only at hop;subst hop;have hu:∀w,(underlying ct).run p w=.ok (.chan dir e) w:=λw=>by simp[underlying,program,bind,yK,bN,Gh,pure]
 have pY:∀w,(zeroValue e).run p w=.ok z w:=λw=>by simp[zeroValue,typeInfo,program,bind,yK,bN,jZ,hz,pure]
 have he:aO ρ ⟨dst,.recv ct x ok,type,pos,after,guard⟩=(underlying ct).bind (λd=>match d with| .chan _ elem=>(zeroValue elem).bind (λz=>.pure (.comm #[{chan:=ρ x,send:=none,zero:=z}] true (.recv ok)))|_=>stuck "receive: channel type expected"):=by
  simp only[aO];show yK _ _=yK _ _;congr 1
 rw[he];constructor
 .rw[vD,hu]
  simp only[vW];rw[vD,pY];simp only[vW,hx];rfl
 .rw[zap,hu,zkX,events_underlying]
  simp only;rw[zap,pY,zkX,events_zeroValue];rfl
theorem zsc {y:cN}(hop:o.op=.send x y)(hx:ρ x=.chan (some c))(hy:ρ y=v)(w:aE):
 (aO ρ o).run p w=.ok (.comm #[scase c v (.tuple #[])] true .send) w/\(aO ρ o).events p w #[]=#[]:=by
 obtain⟨dst,zK,type,pos,after,guard⟩:=o;simp only at hop;subst hop;constructor
 .simp[aO,hx,hy,scase,pure,bN]
 .simp[aO,hx,hy,scase,pure,bN,yA,Bt]
variable {g:Nat}
theorem Wv {R:Pr}{W:aE}(hw:C.Rel R w W){v':aF}(hK:C.K g c)(h:VR (SF C.fs) C.K R (.chan (some g)) v'):v'=.chan (some c):=by
 cases h with
 |chan h=>
  cases h with
  |some h=>rw[hw.inj g _ c h (.inr hK)]
theorem zce (ho:ops[i]? =some o)(v:aF):pE (G ((C.ds.base fn).at ⟨tmps,C.ds.ds⟩ (.inRegion ops (i::rest)::k)) C.base) v=G (fx [] C.ds ⟨fn,(cE ⟨tmps,[]⟩ o.dst v).tmps,.inRegion ops rest::k,false⟩) C.base:=by
 rw[mY];have G0:cE ⟨tmps,C.ds.ds⟩ o.dst v=⟨(cE ⟨tmps,[]⟩ o.dst v).tmps,C.ds.ds⟩:=by cases o.dst<;>rfl
 have By:((C.ds.base fn).at ⟨tmps,C.ds.ds⟩ (.inRegion ops (i::rest)::k)).finish v=(C.ds.base fn).at (cE ⟨tmps,C.ds.ds⟩ o.dst v) (.inRegion ops rest::k):=by rw[zv1,ho];rfl
 rw[<-G0,<-By];rfl
variable {okv:aF->Prop}
theorem BO.recv (ha:C.alone=none)(hI:fI C){nx:aF->L}{sh:L}
 (ho:ops[i]? =some o) (cG:dI o (dL ops tmps)=true) (hop:o.op=.recv ct x ok) (Gh:C.p.underlying ct=some (.chan dir e)) (jZ:C.p.info? e=some ie) (hz:ie.zero=some z) (zl6:∀R,VR (SF C.fs) C.K R z z)
 (sU:eD C.fs x=true) (hx:(bL tmps []).eval x=.chan (some g)) (hK:C.K g c) (lD:∀s,o.dst=some s->s∉C.S) (q8:C.A.act l=.recv c okv nx sh)
 (h1:∀v,okv v->∃vg,(∀R,VR (SF C.fs) C.K R vg v)/\BO C (nx v) ⟨fn,(cE ⟨tmps,[]⟩ o.dst (recvd ok vg true)).tmps,.inRegion ops rest::k,false⟩ w)
 (h2:C.A.cl l->BO C sh ⟨fn,(cE ⟨tmps,[]⟩ o.dst (recvd ok z false)).tmps,.inRegion ops rest::k,false⟩ w):BO C l ⟨fn,tmps,.inRegion ops (i::rest)::k,false⟩ w:=by
 intro R W m' τ hw hm ht hi;obtain⟨fn',bZ,zU,Ac⟩:=m';obtain rfl:=hm.fn;obtain rfl:=hm.todo;obtain rfl:=hm.ret;have mJ:(bL bZ C.ds.ds).eval x=.chan (some c):=Wv hw hK (hx▸Hp (C:=C) hm.tmps sU);have vJ:=Jl (C:=C) hm.tmps cG;have hb:(C.ds.base fn).kind≠ .early:=C.ds.ok;have zcO:∀vg v' b,VR (SF C.fs) C.K R vg v'->VR (SF C.fs) C.K R (recvd ok vg b) (recvd ok v' b):=λvg v' b h=>by
  unfold recvd
  cases ok with
  |false=>exact h
  |true=>
   simp only[if_true];exact VR.tuple' (by
    have:=bQ.empty (S:=SF C.fs) (K:=C.K) (R:=R);exact(this.push h).push (.bool b))
 have goon:∀{l':L} {vg v':aF} {aY:aE},b8 C.ty C.Wg τ W aY->VR (SF C.fs) C.K R vg v'->BO C l' ⟨fn,(cE ⟨tmps,[]⟩ o.dst vg).tmps,.inRegion ops rest::k,false⟩ w->
  C.B l' τ (pE (G ((C.ds.base fn).at ⟨bZ,C.ds.ds⟩ (.inRegion ops (i::rest)::k)) C.base) v') aY:=λ{l' vg v' aY} s hv hB=>by
  rw[zce ho];exact hB R aY _ τ (Cx.Rel.suf (C:=C) hw ht s) ⟨rfl,rfl,rfl,J7 (C:=C) hm.tmps hv,Js (C:=C) hm.pins lD⟩ ht (hI.suf _ _ _ _ hi s)
 rw[mY,Cx.B_none ha];refine cF.usr rfl ?_;unfold nG;rw[q8];refine⟨rfl,z,ok,λaJ s=>?_,λv hv aJ s _=>?_,λkR=>?_⟩
 .obtain⟨e1,e2⟩:=zu7 (p:=C.p) (ρ:=(bL bZ C.ds.ds).eval) hop Gh jZ hz mJ aJ
  rw[stepG_comm ho vJ hb e1];unfold wX;rw[e2,Ct]
 .obtain⟨vg,ziv,hB⟩:=h1 v hv
  have:=goon s (zcO _ _ _ (ziv R)) hB;rw[Cx.B_none ha] at this;exact this
 .have:=goon b8.refl (zcO _ _ _ (zl6 R)) (h2 kR)
  rw[Cx.B_none ha] at this;exact this
variable {pub:aF->List Nat}
theorem BO.send (ha:C.alone=none)(hI:fI C){y:cN}{nx:aF->L}{l':L}
 (ho:ops[i]? =some o) (cG:dI o (dL ops tmps)=true) (hop:o.op=.send x y)
 (sU:eD C.fs x=true) (hx:(bL tmps []).eval x=.chan (some g)) (hK:C.K g c) (Fe:eD C.fs y=true) (lD:∀s,o.dst=some s->s∉C.S) (q8:C.A.act l=.send c okv pub nx)
 (hv:∀R v',VR (SF C.fs) C.K R ((bL tmps []).eval y) v'->okv v'/\pub v'=[]/\nx v'=l')
 (h1:BO C l' ⟨fn,(cE ⟨tmps,[]⟩ o.dst aA).tmps,.inRegion ops rest::k,false⟩ w):BO C l ⟨fn,tmps,.inRegion ops (i::rest)::k,false⟩ w:=by
 intro R W m' τ hw hm ht hi;obtain⟨fn',bZ,zU,Ac⟩:=m';obtain rfl:=hm.fn;obtain rfl:=hm.todo;obtain rfl:=hm.ret;have mJ:(bL bZ C.ds.ds).eval x=.chan (some c):=Wv hw hK (hx▸Hp (C:=C) hm.tmps sU);have vJ:=Jl (C:=C) hm.tmps cG;have hb:(C.ds.base fn).kind≠ .early:=C.ds.ok;obtain⟨k1,k2,k3⟩:=hv R _ (Hp (C:=C) (d:=C.ds.ds) hm.tmps Fe);rw[mY,Cx.B_none ha];refine cF.usr rfl ?_;unfold nG;rw[q8];refine⟨rfl,_,.tuple #[],τ,λaJ s=>?_,k1,λb h=>h,rfl,λb h=>.inl h,(λa ha=>by rw[k2] at ha;cases ha),?_⟩
 .obtain⟨e1,e2⟩:=zsc (p:=C.p) (ρ:=(bL bZ C.ds.ds).eval) hop mJ rfl aJ
  rw[stepG_comm ho vJ hb e1];unfold wX;rw[e2,Ct]
 .rw[k3,zce ho]
  rw[<-Cx.B_none ha];exact h1 R W _ τ hw ⟨rfl,rfl,rfl,J7 (C:=C) hm.tmps yU,Js (C:=C) hm.pins lD⟩ ht hi
end
end Go.Mt
namespace Go.Mt
open Go.Conc
inductive PpL where
 |m0|m1|rv (k:Nat)|wt|sd (k:Nat)|dn
end Go.Mt
namespace Go.Mt
open Go.Conc Go.RowKit Go.Conc.Lib Go.ConcR.Gen
open Go.ConcR (KK wgBlock WgAt stA smA rd wr mk Payload DC0)
section
variable {Bc:Type}{P:cD}{ty:aM}{Wg:Nat}{A:jV Bc}{Fin:bE->aE->Prop}
theorem cI.grow_self (τ:cI)(w:aE):τ.grow w w=τ:=by
 obtain⟨a,b,c⟩:=τ;simp only[cI.grow,cI.mk.injEq,and_true];funext x;exact propext ⟨λh=>h.elim id λh=>by omega,.inl⟩
def Am.refl (O:Nat->Prop)(w:aE):Am O w w:=⟨rfl,rfl,rfl,bM _,λ_ _ _=>rfl⟩
variable {main:Bool}{τ:cI}
theorem cF.running {ph:Ph Bc}{d:Nat}{g:bE}{w:aE}(h:cF P ty Wg A Fin main ph d τ g w):g.status=.running:=by
 obtain⟨r,hr⟩:=h;cases r with|mk ι f=>exact hr.1
theorem cF.goes {ph:Ph Bc}{d:Nat}(hl:ph.live):∀(n:Nat) {g:bE} {w:aE},Goes P main (b8 ty Wg τ) DC0 (cF P ty Wg A Fin main ph d τ) n g w->cF P ty Wg A Fin main ph d τ g w:=by
 intro n
 induction n with
 |zero=>exact λ{g w} h=>h w (b8.refl)
 |succ n ih=>
  intro g w h;rcases h with h|⟨hs,h⟩
  .exact h w (b8.refl)
  .refine cF.own hs hl λaJ s=>?_
   obtain⟨zbZ,w',es,hgo,⟨e1,e2⟩,hg⟩:=zmR (h aJ s);subst e1 e2;have hb:=ih hg;refine⟨zbZ,w',#[],hgo,hb.running,Am.refl _ _,λe he=>by simp at he,?_⟩;rw[cI.grow_self];exact hb
theorem cF.idles {ph:Ph Bc}{d:Nat}(hl:∀{g w},zc8 P ty Wg (cF P ty Wg A Fin) main ph d τ g w->Nr P ty Wg (cF P ty Wg A Fin) main ph d τ g w):∀(n:Nat) {g:bE} {w:aE},Goes P main (b8 ty Wg τ) DC0 (cF P ty Wg A Fin main ph d τ) n g w->cF P ty Wg A Fin main ph d τ g w:=by
 intro n
 induction n with
 |zero=>exact λ{g w} h=>h w (b8.refl)
 |succ n ih=>
  intro g w h;rcases h with h|⟨hs,h⟩
  .exact h w (b8.refl)
  .refine cF.mk hs (.inl (hl λaJ s=>?_))
   obtain⟨zbZ,w',es,hgo,⟨e1,e2⟩,hg⟩:=zmR (h aJ s);subst e1 e2;have hb:=ih hg;exact⟨zbZ,#[],hgo,hb.running,λe he=>by simp at he,hb⟩
variable {m:Mark}
theorem cF.mark {ph:Ph Bc}{d:Nat}(hl:ph.live){g:bE}{w:aE}(hs:g.status=.running){g':bE}(hgo:∀aJ,b8 ty Wg τ w aJ->stepG P main g aJ=.go g' aJ #[o5 m])
 (hm:EvT Wg main τ.own τ.still (o5 m)) (hb:∀aJ,b8 ty Wg τ w aJ->cF P ty Wg A Fin main ph (oN d #[o5 m]) τ g' aJ):cF P ty Wg A Fin main ph d τ g w:=by
 refine cF.own hs hl λaJ s=>⟨g',aJ,#[o5 m],hgo aJ s,(hb aJ s).running,Am.refl _ _,λe he=>?_,?_⟩
 .rw[zrQ] at he
  subst he;rw[cI.grow_self];exact hm
 .rw[cI.grow_self];exact hb aJ s
theorem cF.imark {l:Bc}{d:Nat}{g:bE}{w:aE}(hs:g.status=.running){g':bE}(hgo:∀aJ,b8 ty Wg τ w aJ->stepG P main g aJ=.go g' aJ #[o5 m])
 (hm:Event.mute (o5 m)=true) (hb:∀aJ,b8 ty Wg τ w aJ->cF P ty Wg A Fin main (.rel l) (oN d #[o5 m]) τ g' aJ):cF P ty Wg A Fin main (.rel l) d τ g w:=by
 refine cF.mk hs (.inl λaJ s=>⟨g',#[o5 m],hgo aJ s,(hb aJ s).running,λe he=>?_,hb aJ s⟩);rw[zrQ] at he;subst he;exact hm
def WgLive.cell0 {w:aE}(h:WgLive ty Wg w):∃v,w.cell? ⟨Wg,0,none⟩=some v:=let⟨_,_,x⟩:=h;⟨_,x.cellSt⟩
def WgLive.cell1 {w:aE}(h:WgLive ty Wg w):∃v,w.cell? ⟨Wg,1,none⟩=some v:=let⟨_,_,x⟩:=h;⟨_,x.cellSm⟩
structure H4 (ty:aM)(Wg:Nat)(τ:cI)(F:aE->Prop):Prop where
 suf:∀w aJ,b8 ty Wg τ w aJ->F w->F aJ
 wg:∀w a v,a.block=Wg->F w->F (w.setCell a v)
def H4.rely {F:aE->Prop}(k:H4 ty Wg τ F){w aJ:aE}(h:F w/\WgLive ty Wg w)(s:b8 ty Wg τ w aJ):F aJ/\WgLive ty Wg aJ:=⟨k.suf _ _ s h.1,s.live h.2⟩
end
end Go.Mt
namespace Go.Mt
open Go.Conc Go.RowKit Go.Conc.Lib Go.ConcR.Gen
open Go.ConcN.Gen (WgLive.cell0 WgLive.cell1)
open Go.ConcN (st_flag st_waiters)
open Go.ConcR (KK wgBlock WgAt stA smA rd wr mk Payload DC0)
variable [zeY]{L:zg4}
section
variable {Bc:Type}{P:cD}{Wg:Nat}{A:jV Bc}{Fin:bE->aE->Prop}{F:aE->Prop}
 {b₀:dV} {a₀:vX} {ops₀:Array aZ} {i₀:Nat} {rest₀:List Nat} {k₀:List dZ} {cs:List dV} {τ:cI} {l nx:Bc}
theorem addW (H:Vw P L)(q8:A.act l=.add nx)(kf:H4 L.tWg Wg τ F)
 (hT:∀w,F w->WgLive L.tWg Wg w->cF P L.tWg Wg A Fin true (.usr nx) 0 τ (G (b₀.at (a₀.put ((ops₀[i₀]?).bind (·.dst)) (.tuple #[])) (.inRegion ops₀ rest₀::k₀)) cs) w)
 (w:aE) (hF:F w/\WgLive L.tWg Wg w):
 cF P L.tWg Wg A Fin true (.usr l) 0 τ (G ((base L.add).at ⟨#[.pointer (some ⟨Wg,0,none⟩),.int .i64 1,aA,aA,aA,aA,aA,aA,aA,aA,aA,aA,aA,aA,aA,aA,aA,aA,aA,aA,aA,aA,aA,aA,aA,aA,aA,aA,aA,aA,aA,aA,aA,aA,aA,aA,aA,aA,aA,aA,aA,aA,aA,aA,aA,aA,aA,aA,aA,aA,aA,aA,aA,aA,aA,aA,aA,aA,aA,aA,aA,aA,aA,aA,aA,aA,aA,aA,aA,aA,aA,aA,aA,aA,aA,aA,aA,aA,aA,aA,aA,aA,aA,aA,aA,aA,aA,aA,aA,aA,aA,aA,aA,aA,aA,aA,aA,aA,aA,aA,aA,aA,aA,aA,aA,aA,aA,aA,aA,aA,aA,aA,aA,aA,aA,aA,aA],[]⟩ [.code (O2 L)]) (b₀.at a₀ (.inRegion ops₀ (i₀::rest₀)::k₀)::cs)) w:=by
 lib_facts
 simp only[O2,addFn,Cb];refine cF.goes (ph:=.usr l) trivial 30 ?_
 iterate 12 (first|u_c dN kf.rely hF|u_c eF kf.rely hF|u_reg kf.rely hF|u_c pP kf.rely hF|u_cond false kf.rely hF|u_cond true kf.rely hF|u_op kf.rely hF)
 refine rE (λaJ wV=>?_);replace hF:=kf.rely hF wV;clear wV;refine cF.mark (ph:=.usr l) trivial rfl (λeZ s=>zbz .disable aQ rfl rfl rZ rfl H.f_disable (zjh L) (zlJ L) (ziR L) (znR L)) trivial (λeZ s=>?_);replace hF:=kf.rely hF s;clear s;rw[show oN 0 #[o5 .disable]=1 from rfl]
 walk_nrm
 refine cF.goes (ph:=.usr l) trivial 60 ?_;u_c dN kf.rely hF;u_reg kf.rely hF
 u_defer kf.rely hF
 iterate 8 (first|u_c dN kf.rely hF|u_c eF kf.rely hF|u_reg kf.rely hF|u_op kf.rely hF)
 u_bub kf.rely hF
 iterate 11 (first|u_c dN kf.rely hF|u_c eF kf.rely hF|u_reg kf.rely hF|u_c pP kf.rely hF|u_cond false kf.rely hF|u_op kf.rely hF)
 u_call H.f_uAdd (nm_uAdd L) uAddFn kf.rely hF
 iterate 10 (first|u_c dN kf.rely hF|u_c eF kf.rely hF|u_reg kf.rely hF|u_op kf.rely hF)
 refine rE (λaJ wV=>?_);replace hF:=kf.rely hF wV;clear wV;refine cF.usr rfl ?_;unfold nG;rw[q8];intro eZ l8 v hv hw;replace hF:=kf.rely hF l8;clear l8;rcases Vt v with rfl|zc1
 .replace hw:WgAt L.tWg Wg eZ 0 0:=by simpa using hw
  have z:st (0+1) 0=.int .u64 KK:=by simp[st]
  rw[z];have e0:Tj.wrap (0+4294967296)=KK:=aH;refine⟨_,(X5 rfl rfl rZ rfl H.f_addU64 (Yv L) (V7 L) (Xe L) .u64 (Yr L) rfl rfl hw.cellSt (hw.thaw 0)).trans (by rw[e0];rfl),rfl,?_⟩;replace hF:F (eZ.setCell (stA Wg) (.int .u64 KK))/\WgLive L.tWg Wg (eZ.setCell (stA Wg) (.int .u64 KK)):=⟨kf.wg _ _ _ rfl hF.1,⟨_,_,hw.setSt _⟩⟩;clear hw;simp only[KK] at hF⊢
  walk_nrm
  refine cF.goes (ph:=.usr nx) trivial 110 ?_
  iterate 3 (first|u_c dN kf.rely hF|u_c x7 kf.rely hF|u_op kf.rely hF)
  u_leave1 H.f_uAdd kf.rely hF
  iterate 48 (first|u_c dN kf.rely hF|u_c eF kf.rely hF|u_reg kf.rely hF|u_c pP kf.rely hF|u_cond false kf.rely hF|u_cond true kf.rely hF|u_op kf.rely hF|u_skip kf.rely hF)
  u_conv H.underlying_tPU32 H.room_tU32 (WgLive.cell1 hF.2).choose_spec kf.rely hF
  refine rE (λJ3 Bv=>?_);replace hF:=kf.rely hF Bv;clear Bv;refine cF.mark (ph:=.usr nx) trivial rfl (λSa s=>zds .read aQ rfl rfl rZ rfl H.f_raceRead (x_raceRead_n L) (x_raceRead_b L) (x_raceRead_x L) (x_raceRead_f L) (ad:=⟨Wg,1,none⟩) (by simp[xB])) ⟨rfl,rfl⟩ (λSa s=>?_);replace hF:=kf.rely hF s;clear s;rw[show oN 1 #[o5 (.read ⟨Wg,1,none⟩)]=1 from rfl]
  walk_nrm
  refine cF.goes (ph:=.usr nx) trivial 110 ?_
  iterate 39 (first|u_c dN kf.rely hF|u_c eF kf.rely hF|u_reg kf.rely hF|u_c pP kf.rely hF|u_cond false kf.rely hF|u_cond true kf.rely hF|u_c x7 kf.rely hF|u_op kf.rely hF|u_skip kf.rely hF)
  refine rE (λJ3 Bv=>?_);replace hF:=kf.rely hF Bv;clear Bv;refine cF.mark (ph:=.usr nx) trivial rfl (λSa s=>zrB (v:=.tuple #[]) (evs:=#[o5 .enable]) rfl H.f_enable (zhz L) (zhU L) (zfX L) (zd3 L) (by simp[zwS]) (by simp[o5]) (by simp[o5])) trivial (λSa s=>?_);replace hF:=kf.rely hF s;clear s;rw[show oN 1 #[o5 .enable]=0 from rfl];refine cF.goes (ph:=.usr nx) trivial 2 ?_
  u_leave0 H.f_add kf.rely hF
  exact rE (λzbK Kn=>hT zbK (kf.rely hF Kn).1 (kf.rely hF Kn).2)
 .obtain⟨V,hV⟩:=aN ((v:Int)+1:Int)
  obtain⟨S,hS⟩:=aN (V*KK:Int);have eS:Tj.wrap ((v:Int)*KK+4294967296)=S:=by rw[zf6,hS,hV];simp only[KK];omega
  have z:st (v+1) 0=.int .u64 S:=by simp[st,hS,hV]
  rw[z];have a1:S/4294967296=V:=by rw[hS];simp only[KK];omega
  have b1:bits .and .u64 S 2147483648=0:=by rw[hS,hV];have:=st_flag (v+1) 0 aC aC;simpa[KK] using this
  have b2:bits .and .u64 S 2147483647=0:=by rw[hS,hV];have:=st_waiters (v+1) 0 aC aC;simpa[KK] using this
  have c1:zqy.wrap V=V:=by rw[zqq];omega
  have zlD:1<V:=aC;have zpB:V<2147483648:=aC;have q1:(V==1)=false:=pD;have q2:decide (V=1)=false:=decide_eq_false aC;have q3:decide (V<0)=false:=decide_eq_false aC;have q4:decide (0<V)=true:=decide_eq_true aC;have q5:(V==0)=false:=pD;have q6:decide (V=0)=false:=decide_eq_false aC;refine⟨_,(X5 rfl rfl rZ rfl H.f_addU64 (Yv L) (V7 L) (Xe L) .u64 (Yr L) rfl rfl hw.cellSt (hw.thaw 0)).trans (by rw[eS];rfl),rfl,?_⟩;replace hF:F (eZ.setCell (stA Wg) (.int .u64 S))/\WgLive L.tWg Wg (eZ.setCell (stA Wg) (.int .u64 S)):=⟨kf.wg _ _ _ rfl hF.1,⟨_,_,hw.setSt _⟩⟩;clear hw hS hV eS z
  walk_nrm
  refine cF.goes (ph:=.usr nx) trivial 130 ?_
  iterate 3 (first|u_c dN kf.rely hF|u_c x7 kf.rely hF|u_op kf.rely hF)
  u_leave1 H.f_uAdd kf.rely hF
  iterate 13 (first|u_c dN kf.rely hF|u_c eF kf.rely hF|u_reg kf.rely hF|u_op kf.rely hF|u_skip kf.rely hF)
  u_cnd false kf.rely hF
  iterate 29 (first|u_c dN kf.rely hF|u_c eF kf.rely hF|u_reg kf.rely hF|u_c pP kf.rely hF|u_op kf.rely hF)
  u_cnd false kf.rely hF
  iterate 7 (first|u_c dN kf.rely hF|u_c eF kf.rely hF|u_reg kf.rely hF|u_c pP kf.rely hF|u_op kf.rely hF)
  u_cnd false kf.rely hF
  iterate 17 (first|u_c dN kf.rely hF|u_c eF kf.rely hF|u_reg kf.rely hF|u_c pP kf.rely hF|u_op kf.rely hF|u_skip kf.rely hF)
  u_cnd false kf.rely hF
  iterate 11 (first|u_c dN kf.rely hF|u_c eF kf.rely hF|u_reg kf.rely hF|u_c pP kf.rely hF|u_op kf.rely hF|u_skip kf.rely hF)
  u_cnd true kf.rely hF
  u_c x7 kf.rely hF;refine rE (λJ3 Bv=>?_);replace hF:=kf.rely hF Bv;clear Bv;refine cF.mark (ph:=.usr nx) trivial rfl (λSa s=>zrB (v:=.tuple #[]) (evs:=#[o5 .enable]) rfl H.f_enable (zhz L) (zhU L) (zfX L) (zd3 L) (by simp[zwS]) (by simp[o5]) (by simp[o5])) trivial (λSa s=>?_);replace hF:=kf.rely hF s;clear s;rw[show oN 1 #[o5 .enable]=0 from rfl];refine cF.goes (ph:=.usr nx) trivial 2 ?_
  u_leave0 H.f_add kf.rely hF
  exact rE (λzbK Kn=>hT zbK (kf.rely hF Kn).1 (kf.rely hF Kn).2)
end
end Go.Mt
namespace Go.Mt
open Go.Conc Go.RowKit Go.Conc.Lib Go.ConcR.Gen
open Go.ConcN.Gen (WgLive.cell0 WgLive.cell1)
open Go.ConcN (st_flag st_waiters)
open Go.ConcR (KK wgBlock WgAt stA smA rd wr mk Payload DC0)
variable [zeY]{L:zg4}
section
variable {Bc:Type}{P:cD}{Wg:Nat}{A:jV Bc}{Fin:bE->aE->Prop}{F:aE->Prop}
 {b₀:dV} {a₀:vX} {ops₀:Array aZ} {i₀:Nat} {rest₀:List Nat} {k₀:List dZ} {cs:List dV} {τ:cI} {l nx:Bc}
theorem addNegW (H:Vw P L)(q8:A.act l=.done)(kf:H4 L.tWg Wg τ F)(uI:∀w,F w->A.dep l w){qt:Nat}
 (hT:QuitsD P qt 0 (G (b₀.at (a₀.put ((ops₀[i₀]?).bind (·.dst)) (.tuple #[])) (.inRegion ops₀ rest₀::k₀)) cs)) (w:aE) (hF:F w/\WgLive L.tWg Wg w):
 cF P L.tWg Wg A Fin false (.usr l) 0 τ (G ((base L.add).at ⟨#[.pointer (some ⟨Wg,0,none⟩),.int .i64 (-1),aA,aA,aA,aA,aA,aA,aA,aA,aA,aA,aA,aA,aA,aA,aA,aA,aA,aA,aA,aA,aA,aA,aA,aA,aA,aA,aA,aA,aA,aA,aA,aA,aA,aA,aA,aA,aA,aA,aA,aA,aA,aA,aA,aA,aA,aA,aA,aA,aA,aA,aA,aA,aA,aA,aA,aA,aA,aA,aA,aA,aA,aA,aA,aA,aA,aA,aA,aA,aA,aA,aA,aA,aA,aA,aA,aA,aA,aA,aA,aA,aA,aA,aA,aA,aA,aA,aA,aA,aA,aA,aA,aA,aA,aA,aA,aA,aA,aA,aA,aA,aA,aA,aA,aA,aA,aA,aA,aA,aA,aA,aA,aA,aA,aA,aA],[]⟩ [.code (O2 L)]) (b₀.at a₀ (.inRegion ops₀ (i₀::rest₀)::k₀)::cs)) w:=by
 lib_facts
 simp only[O2,addFn,Cb];refine cF.goes (ph:=.usr l) trivial 20 ?_
 iterate 11 (first|u_c dN kf.rely hF|u_c eF kf.rely hF|u_reg kf.rely hF|u_cond true kf.rely hF|u_op kf.rely hF)
 u_conv H.underlying_tWgP H.room_tWg (WgLive.cell0 hF.2).choose_spec kf.rely hF
 refine rE (λaJ wV=>?_);replace hF:=kf.rely hF wV;clear wV;refine cF.usr rfl ?_;unfold nG;rw[q8];refine⟨rfl,rfl,λeZ s=>uI _ (kf.rely hF s).1,λeZ s=>?_⟩;replace hF:=kf.rely hF s;clear s;refine⟨_,zds .releaseMerge aQ rfl rfl rZ rfl H.f_relMerge (x_relMerge_n L) (x_relMerge_b L) (x_relMerge_x L) (x_relMerge_f L) zlw,rfl,?_⟩;refine cF.idles (ph:=.rel l) id 10 ?_
 walk_nrm
 iterate 3 (first|u_c dN kf.rely hF|u_c eF kf.rely hF|u_reg kf.rely hF)
 refine rE (λaJ wV=>?_);replace hF:=kf.rely hF wV;clear wV;refine cF.imark rfl (λeZ s=>zbz .disable aQ rfl rfl rZ rfl H.f_disable (zjh L) (zlJ L) (ziR L) (znR L)) rfl (λeZ s=>?_);replace hF:=kf.rely hF s;clear s;rw[show oN 0 #[o5 .disable]=1 from rfl];refine cF.idles (ph:=.rel l) id 50 ?_
 walk_nrm
 u_c dN kf.rely hF;u_reg kf.rely hF
 u_defer kf.rely hF
 iterate 8 (first|u_c dN kf.rely hF|u_c eF kf.rely hF|u_reg kf.rely hF|u_op kf.rely hF)
 u_bub kf.rely hF
 iterate 11 (first|u_c dN kf.rely hF|u_c eF kf.rely hF|u_reg kf.rely hF|u_c pP kf.rely hF|u_cond false kf.rely hF|u_op kf.rely hF)
 u_call H.f_uAdd (nm_uAdd L) uAddFn kf.rely hF
 iterate 10 (first|u_c dN kf.rely hF|u_c eF kf.rely hF|u_reg kf.rely hF|u_op kf.rely hF)
 refine rE (λzfQ zfh=>?_);replace hF:=kf.rely hF zfh;clear zfh;refine cF.mk rfl (.inr ?_);intro aJ lT v wt cG hv hw;replace hF:=kf.rely hF lT;clear lT;have e0:Tj.wrap (KK+18446744069414584320)=0:=aH;have e1:Tj.wrap (KK+1+18446744069414584320)=1:=aH;rcases Vt v with rfl|zc1<;>(obtain rfl|rfl:wt=0\/wt=1:=by omega)
 .
  replace hw:WgAt L.tWg Wg aJ KK 0:=by simpa using hw
  have z:Mt.st 0 0=.int .u64 0:=by simp[Mt.st]
  rw[z];refine⟨_,(X5 rfl rfl rZ rfl H.f_addU64 (Yv L) (V7 L) (Xe L) .u64 (Yr L) rfl rfl hw.cellSt (hw.thaw 0)).trans (by rw[e0];rfl),rfl,aH,λhl=>absurd hl.2 aH,λ_=>⟨qt+89,?_⟩⟩;clear hw
  walk_nrm
  q_val (.int .u64 0)
  q_c dN
  q_c x7
  q_leave1 H.f_uAdd
  q_val (.int .u64 0)
  q_c dN
  q_c eF
  q_c eF
  q_reg
  q_val (.int .u64 0)
  q_val (.int .u64 0)
  q_val (.bool false)
  q_val (.bool false)
  q_skip
  q_skip
  q_val (.bool false)
  q_c dN
  q_cond false
  q_c pP
  q_c eF
  q_reg
  q_val (.int .u64 0)
  q_val (.int .u64 0)
  q_val (.int .i32 0)
  q_val (.int .i32 0)
  q_c dN
  q_c eF
  q_reg
  q_val (.int .u64 0)
  q_val (.int .u64 0)
  q_val (.int .u32 0)
  q_val (.int .u32 0)
  q_c dN
  q_c eF
  q_c eF
  q_reg
  q_val (.bool true)
  q_val (.int .i64 (-1))
  q_val (.bool false)
  q_val (.bool false)
  q_val (.bool false)
  q_skip
  q_skip
  q_skip
  q_skip
  q_val (.bool false)
  q_c dN
  q_cond false
  q_c pP
  q_c eF
  q_c eF
  q_reg
  q_val (.int .i32 0)
  q_val (.bool false)
  q_c dN
  q_cond false
  q_c pP
  q_c eF
  q_c eF
  q_reg
  q_val (.int .u32 0)
  q_val (.bool false)
  q_val (.bool false)
  q_skip
  q_skip
  q_val (.bool false)
  q_val (.bool false)
  q_skip
  q_skip
  q_skip
  q_skip
  q_val (.bool false)
  q_c dN
  q_cond false
  q_c pP
  q_c eF
  q_c eF
  q_reg
  q_val (.int .i32 0)
  q_val (.bool false)
  q_val (.bool false)
  q_val (.int .u32 0)
  q_val (.bool true)
  q_val (.bool true)
  q_c dN
  q_cond true
  q_c x7
  q_enable
  q_leave0 H.f_add
  exact hT
 .
  replace hw:WgAt L.tWg Wg aJ (KK+1) 0:=by simpa using hw
  have z:Mt.st 0 1=.int .u64 1:=by simp[Mt.st]
  rw[z];refine⟨_,(X5 rfl rfl rZ rfl H.f_addU64 (Yv L) (V7 L) (Xe L) .u64 (Yr L) rfl rfl hw.cellSt (hw.thaw 0)).trans (by rw[e1];rfl),rfl,aH,λ_=>?_,λhl=>absurd ⟨rfl,rfl⟩ hl⟩;replace hF:F (aJ.setCell (stA Wg) (.int .u64 1))/\WgLive L.tWg Wg (aJ.setCell (stA Wg) (.int .u64 1)):=⟨kf.wg _ _ _ rfl hF.1,⟨_,_,hw.setSt 1⟩⟩;clear hw;refine cF.idles (ph:=.l1 l) id 120 ?_
  walk_nrm
  iterate 3 (first|u_c dN kf.rely hF|u_c x7 kf.rely hF|u_op kf.rely hF)
  u_leave1 H.f_uAdd kf.rely hF
  iterate 89 (first|u_c dN kf.rely hF|u_c eF kf.rely hF|u_reg kf.rely hF|u_c pP kf.rely hF|u_cond false kf.rely hF|u_op kf.rely hF|u_skip kf.rely hF)
  u_call H.f_uLoad (zmZ L) uLoadFn kf.rely hF
  iterate 9 (first|u_c dN kf.rely hF|u_c eF kf.rely hF|u_reg kf.rely hF|u_op kf.rely hF)
  refine rE (λeZ Vi=>?_);replace hF:=kf.rely hF Vi;clear Vi;refine cF.mk rfl (.inr ?_);intro J3 s hw;replace hF:=kf.rely hF s;clear s;refine⟨_,zgu rfl rfl rZ rfl H.f_loadU64 (zgt L) (zgK L) (zeR L) .u64 (zfv L) rfl hw.cellSt,rfl,aH,?_⟩;clear hw;refine cF.idles (ph:=.l2 l) id 40 ?_
  walk_nrm
  iterate 3 (first|u_c dN kf.rely hF|u_c x7 kf.rely hF|u_op kf.rely hF)
  u_leave1 H.f_uLoad kf.rely hF
  iterate 10 (first|u_c dN kf.rely hF|u_c eF kf.rely hF|u_reg kf.rely hF|u_c pP kf.rely hF|u_cond false kf.rely hF|u_op kf.rely hF)
  u_call H.f_uStore (nm_uStore L) uStoreFn kf.rely hF
  iterate 5 (first|u_reg kf.rely hF|u_op kf.rely hF)
  refine rE (λeZ Bv=>?_);replace hF:=kf.rely hF Bv;clear Bv;refine cF.mk rfl (.inr ?_);intro J3 s hw;replace hF:=kf.rely hF s;clear s;have z0:Mt.st 0 0=.int .u64 0:=by simp[Mt.st]
  rw[z0];refine⟨_,stepG_store_atomic rfl rfl rZ rfl H.f_storeU64 (x_storeU64_n L) (x_storeU64_b L) (x_storeU64_x L) (x_storeU64_f L) rfl rfl hw.cellSt (hw.thaw 0),rfl,aH,?_⟩;replace hF:F (J3.setCell (stA Wg) (.int .u64 0))/\WgLive L.tWg Wg (J3.setCell (stA Wg) (.int .u64 0)):=⟨kf.wg _ _ _ rfl hF.1,⟨_,_,hw.setSt 0⟩⟩;clear hw z0;refine cF.idles (ph:=.l3 l) id 50 ?_
  walk_nrm
  u_c dN kf.rely hF;u_c zhD kf.rely hF
  u_leave0 H.f_uStore kf.rely hF
  iterate 24 (first|u_c dN kf.rely hF|u_c eF kf.rely hF|u_reg kf.rely hF|u_c pP kf.rely hF|u_cond false kf.rely hF|u_cond true kf.rely hF|u_c zel kf.rely hF|u_c zk5 kf.rely hF|u_op kf.rely hF)
  refine rE (λeZ zes=>?_);clear zes hF;refine cF.mk rfl (.inr ⟨mayWake_entry rfl rfl H.f_semrelease (zpl L),λSa s hw=>?_⟩);clear s;refine⟨_,(stepG_semrelease rfl rfl rZ rfl H.f_semrelease (x_semrelease_n L) (zpl L) (x_semrelease_x L) (x_semrelease_f L) zn9 hw.cellSm (hw.thaw 1)).trans K9,rfl,aH,qt+19,?_⟩;clear hw
  walk_nrm
  q_c dN
  q_c zkg
  q_reg
  q_val (.int .u32 1)
  q_val (.int .u32 0)
  q_val (.int .u32 0)
  q_c dN
  q_c zia
  q_c eF
  q_c eF
  q_reg
  q_val (.int .u32 0)
  q_val (.bool false)
  q_c dN
  q_cond false
  q_exit
  q_c zhD
  q_enable
  q_leave0 H.f_add
  exact hT
 .
  replace hw:WgAt L.tWg Wg aJ (((v:Nat)+1)*KK+0) 0:=by simpa using hw
  have z:Mt.st v 0=.int .u64 ((v:Int)*KK+0):=by simp[Mt.st]
  rw[z];have gZ:0<v:=aC;have eS:Tj.wrap (((v:Nat)+1)*KK+0+18446744069414584320)=(v:Int)*KK+0:=by rw[zf6];simp only[KK];omega
  obtain⟨S,hS⟩:=aN ((v:Int)*KK+0:Int);rw[<-hS] at eS⊢;have a1:S/4294967296=(v:Int):=by rw[hS];simp only[KK];omega
  have a2:0<=S/\S<9223372036854775808:=by rw[hS];simp only[KK];omega
  have b1:bits .and .u64 S 2147483648=0:=by rw[hS];have:=st_flag v 0 aC aC;simpa[KK] using this
  have b2:bits .and .u64 S 2147483647=0:=by rw[hS];have:=st_waiters v 0 aC aC;simpa[KK] using this
  clear hS z;refine⟨_,(X5 rfl rfl rZ rfl H.f_addU64 (Yv L) (V7 L) (Xe L) .u64 (Yr L) rfl rfl hw.cellSt (hw.thaw 0)).trans (by rw[eS];rfl),rfl,aH,λhl=>absurd hl.1 aC,λ_=>⟨qt+89,?_⟩⟩;clear hw
  walk_nrm
  q_vn (.int .u64 S)
  q_c dN
  q_c x7
  q_leave1 H.f_uAdd
  q_vn (.int .u64 S)
  q_c dN
  q_c eF
  q_c eF
  q_reg
  q_vn (.int .u64 S)
  q_vn (.int .u64 0)
  q_vn (.bool false)
  q_vn (.bool false)
  q_skip
  q_skip
  q_vn (.bool false)
  q_c dN
  q_cond false
  q_c pP
  q_c eF
  q_reg
  q_vn (.int .u64 S)
  q_vn (.int .u64 (v:Int))
  q_vn (.int .i32 (v:Int))
  q_vn (.int .i32 (v:Int))
  q_c dN
  q_c eF
  q_reg
  q_vn (.int .u64 S)
  q_vn (.int .u64 0)
  q_vn (.int .u32 0)
  q_vn (.int .u32 0)
  q_c dN
  q_c eF
  q_c eF
  q_reg
  q_vn (.bool true)
  q_vn (.int .i64 (-1))
  q_vn (.bool false)
  q_vn (.bool false)
  q_vn (.bool false)
  q_skip
  q_skip
  q_skip
  q_skip
  q_vn (.bool false)
  q_c dN
  q_cond false
  q_c pP
  q_c eF
  q_c eF
  q_reg
  q_vn (.int .i32 (v:Int))
  q_vn (.bool false)
  q_c dN
  q_cond false
  q_c pP
  q_c eF
  q_c eF
  q_reg
  q_vn (.int .u32 0)
  q_vn (.bool false)
  q_vn (.bool false)
  q_skip
  q_skip
  q_vn (.bool false)
  q_vn (.bool false)
  q_skip
  q_skip
  q_skip
  q_skip
  q_vn (.bool false)
  q_c dN
  q_cond false
  q_c pP
  q_c eF
  q_c eF
  q_reg
  q_vn (.int .i32 (v:Int))
  q_vn (.bool true)
  q_vn (.bool true)
  q_skip
  q_skip
  q_vn (.bool true)
  q_c dN
  q_cond true
  q_c x7
  q_enable
  q_leave0 H.f_add
  exact hT
 .
  replace hw:WgAt L.tWg Wg aJ (((v:Nat)+1)*KK+1) 0:=by simpa using hw
  have z:Mt.st v 1=.int .u64 ((v:Int)*KK+1):=by simp[Mt.st]
  rw[z];have gZ:0<v:=aC;have eS:Tj.wrap (((v:Nat)+1)*KK+1+18446744069414584320)=(v:Int)*KK+1:=by rw[zf6];simp only[KK];omega
  obtain⟨S,hS⟩:=aN ((v:Int)*KK+1:Int);rw[<-hS] at eS⊢;have a1:S/4294967296=(v:Int):=by rw[hS];simp only[KK];omega
  have a2:0<=S/\S<9223372036854775808:=by rw[hS];simp only[KK];omega
  have b1:bits .and .u64 S 2147483648=0:=by rw[hS];have:=st_flag v 1 aC aC;simpa[KK] using this
  have b2:bits .and .u64 S 2147483647=1:=by rw[hS];have:=st_waiters v 1 aC aC;simpa[KK] using this
  clear hS z;refine⟨_,(X5 rfl rfl rZ rfl H.f_addU64 (Yv L) (V7 L) (Xe L) .u64 (Yr L) rfl rfl hw.cellSt (hw.thaw 0)).trans (by rw[eS];rfl),rfl,aH,λhl=>absurd hl.1 aC,λ_=>⟨qt+89,?_⟩⟩;clear hw
  walk_nrm
  q_vn (.int .u64 S)
  q_c dN
  q_c x7
  q_leave1 H.f_uAdd
  q_vn (.int .u64 S)
  q_c dN
  q_c eF
  q_c eF
  q_reg
  q_vn (.int .u64 S)
  q_vn (.int .u64 0)
  q_vn (.bool false)
  q_vn (.bool false)
  q_skip
  q_skip
  q_vn (.bool false)
  q_c dN
  q_cond false
  q_c pP
  q_c eF
  q_reg
  q_vn (.int .u64 S)
  q_vn (.int .u64 (v:Int))
  q_vn (.int .i32 (v:Int))
  q_vn (.int .i32 (v:Int))
  q_c dN
  q_c eF
  q_reg
  q_vn (.int .u64 S)
  q_vn (.int .u64 1)
  q_vn (.int .u32 1)
  q_vn (.int .u32 1)
  q_c dN
  q_c eF
  q_c eF
  q_reg
  q_vn (.bool true)
  q_vn (.int .i64 (-1))
  q_vn (.bool false)
  q_vn (.bool false)
  q_vn (.bool false)
  q_skip
  q_skip
  q_skip
  q_skip
  q_vn (.bool false)
  q_c dN
  q_cond false
  q_c pP
  q_c eF
  q_c eF
  q_reg
  q_vn (.int .i32 (v:Int))
  q_vn (.bool false)
  q_c dN
  q_cond false
  q_c pP
  q_c eF
  q_c eF
  q_reg
  q_vn (.int .u32 1)
  q_vn (.bool true)
  q_vn (.bool true)
  q_vn (.int .i64 (-1))
  q_vn (.bool false)
  q_vn (.bool false)
  q_vn (.bool false)
  q_skip
  q_skip
  q_skip
  q_skip
  q_vn (.bool false)
  q_c dN
  q_cond false
  q_c pP
  q_c eF
  q_c eF
  q_reg
  q_vn (.int .i32 (v:Int))
  q_vn (.bool true)
  q_vn (.bool true)
  q_skip
  q_skip
  q_vn (.bool true)
  q_c dN
  q_cond true
  q_c x7
  q_enable
  q_leave0 H.f_add
  exact hT
theorem doneW (H:Vw P L)(q8:A.act l=.done)(kf:H4 L.tWg Wg τ F)(uI:∀w,F w->A.dep l w){c:dV}{cs:List dV}{qt:Nat}
 (qP:c.mode=.returning) (hT:QuitsD P qt 0 (G c cs)) (w:aE) (hF:F w/\WgLive L.tWg Wg w):
 cF P L.tWg Wg A Fin false (.usr l) 0 τ (G ((baseD L.done).at ⟨#[.pointer (some ⟨Wg,0,none⟩),aA,aA,aA],[]⟩ [.code (body_done L)]) (c::cs)) w:=by
 lib_facts
 have hA:=@addNegW _ L _ P Wg A Fin F;simp only[body_done,O2,doneFn,addFn,Cb] at hA⊢;refine cF.goes (ph:=.usr l) trivial 23 ?_;u_reg kf.rely hF;u_op kf.rely hF
 u_in kf.rely hF
 refine goes_call rfl rfl rZ rfl H.f_add (nm_add L) rfl ⟨by u_nil,?_⟩
 walk_nrmf addFn
 refine rE (λaJ wV=>?_);refine hA H q8 kf uI (qt:=qt+3) ?_ _ (kf.rely hF wV)
 q_c dN
 q_c zhD
 exact QuitsD.leaveD rfl rfl H.f_done rfl qP hT
end
end Go.Mt
namespace Go.Mt
open Go.Conc Go.RowKit Go.Conc.Lib Go.ConcR.Gen
open Go.ConcN.Gen (WgLive.cell0 WgLive.cell1 AnchWN)
open Go.ConcN (st_flag st_waiters)
open Go.ConcR (KK wgBlock WgAt stA smA rd wr mk Payload DC0)
variable [zeY]{L:zg4}
section
variable {Bc:Type}{P:cD}{Wg:Nat}{A:jV Bc}{Fin:bE->aE->Prop}{F:aE->Prop}
 {b₀:dV} {a₀:vX} {ops₀:Array aZ} {i₀:Nat} {rest₀:List Nat} {k₀:List dZ} {cs:List dV} {τ:cI} {l nx:Bc}
def AtX (W w:aE):Prop:=∃d,w=W.at d
theorem zD {W w aJ:aE}(h:AtX W w)(r:AtRel w aJ):AtX W aJ:=by
 obtain⟨d,rfl⟩:=h;obtain⟨d',rfl⟩:=r;exact⟨d',rfl⟩
def zdC (A:jV Bc)(w:aE):Prop:=∃q ch,A.Inv q ch/\q 0=.waits/\(∀i l,q i≠ .run l)/\∀i l,q i=.over l->A.dep l w
theorem zsz (H:Vw P L)(kf:H4 L.tWg Wg τ F)(O3:∀(n:Nat) g w,Goes P true AtRel DC0 Fin n g w->Fin g w)
 (hT:∀w,F w->WgLive L.tWg Wg w->zdC A w->∀d,Fin (G (b₀.at (a₀.put ((ops₀[i₀]?).bind (·.dst)) (.tuple #[])) (.inRegion ops₀ rest₀::k₀)) cs) (w.at d))
 {ok:Nat->Prop} {ph:Ph Bc} (hl:ph.live)
 (yW:∀g w,g.status=.running->(∀aJ,b8 L.tWg Wg τ w aJ->∀v:Nat,ok v->v<2147483648->WgAt L.tWg Wg aJ (v*KK) 0->∃g',stepG P true g aJ=.go g' aJ #[rd (stA Wg)]/\g'.status=.running/\
  (v=0->cF P L.tWg Wg A Fin true .w5 1 τ g' aJ)/\(v≠0->cF P L.tWg Wg A Fin true (.w2 v) 1 τ g' aJ))->cF P L.tWg Wg A Fin true ph 1 τ g w)
 (hC:∀v,ok v->∀g w,AnchWN L F Wg (b₀.at a₀ (.inRegion ops₀ (i₀::rest₀)::k₀)) cs g w->cF P L.tWg Wg A Fin true (.w1 v) 1 τ g w)
 (g:bE) (w:aE) (h:AnchWN L F Wg (b₀.at a₀ (.inRegion ops₀ (i₀::rest₀)::k₀)) cs g w):cF P L.tWg Wg A Fin true ph 1 τ g w:=by
 lib_facts
 obtain⟨T,rfl,zIA,t0,hF⟩:=h;obtain⟨v0,v1,v2,v3,v4,v5,v6,v7,v8,v9,v10,v11,v12,zLI,zL9,zLB,zLq,zJt,zK7,zJC,v20,v21,zK0,zJr,v24,zKk,zLV,zJV,v28,zKr,v30,v31,zJx,zJS,zLp,zLy,zKt,v37,zJX,zLN,v40,zJy,zKl,zKK,zJp,zKy,v46,zKv,zKR,v49,zKB,v51,zLO,v53,zLL,zKF,zKJ,zKz,zLn,v59,zMb,zKN,zJo,zLF,zK8,zKW,zKE,zJ6,zLu,zLh,v70,zKM,v72,zJn,zJw,v75,v76,zJ9,zJE,zJl,v80,zLm,zKc,zK2,rfl⟩:=array84 T zIA;simp only[List.getElem?_toArray,List.getElem?_cons_zero,jQ] at t0;subst t0;refine cF.goes hl 30 ?_;simp only[L7,U0,waitFn,Cb]
 iterate 6 (first|u_c eF kf.rely hF|u_reg kf.rely hF|u_c zel kf.rely hF|u_op kf.rely hF)
 u_call H.f_uLoad (zmZ L) uLoadFn kf.rely hF
 iterate 9 (first|u_c dN kf.rely hF|u_c eF kf.rely hF|u_reg kf.rely hF|u_op kf.rely hF)
 refine rE (λzfQ wV=>?_);replace hF:=kf.rely hF wV;clear wV;refine yW _ _ rfl ?_;intro aJ s v bV hv hw;replace hF:=kf.rely hF s;clear s;rcases Vt v with rfl|zc1
 .
  replace hw:WgAt L.tWg Wg aJ 0 0:=by simpa using hw
  refine⟨_,zgu (v:=0) rfl rfl rZ rfl H.f_loadU64 (zgt L) (zgK L) (zeR L) .u64 (zfv L) rfl hw.cellSt,rfl,λ_=>?_,λh=>absurd rfl h⟩;clear hw;refine cF.goes (ph:=.w5) trivial 60 ?_
  walk_nrm
  iterate 3 (first|u_c dN kf.rely hF|u_c x7 kf.rely hF|u_op kf.rely hF)
  u_leave1 H.f_uLoad kf.rely hF
  iterate 27 (first|u_c dN kf.rely hF|u_c eF kf.rely hF|u_reg kf.rely hF|u_cond true kf.rely hF|u_op kf.rely hF)
  refine rE (λzbK Kn=>?_);replace hF:=kf.rely hF Kn;clear Kn;refine cF.mark (ph:=.w5) trivial rfl (λeZ s=>zbz .enable aQ rfl rfl rZ rfl H.f_enable (zhz L) (zhU L) (zfX L) (zd3 L)) trivial (λeZ s=>?_);replace hF:=kf.rely hF s;clear s;rw[show oN 1 #[o5 .enable]=0 from rfl];refine cF.goes (ph:=.w5) trivial 30 ?_
  walk_nrm
  iterate 3 (first|u_c dN kf.rely hF|u_reg kf.rely hF|u_op kf.rely hF)
  u_conv H.underlying_tWgP H.room_tWg (WgLive.cell0 hF.2).choose_spec kf.rely hF
  refine rE (λzHh zcx=>?_);replace hF:=kf.rely hF zcx;clear zcx;refine cF.mk rfl (.inr ⟨rfl,λTl s hD=>?_⟩);replace hF:=kf.rely hF s;clear s;have hX:AtX Tl Tl:=⟨Tl.drawn,rfl⟩;refine⟨_,zds .acquire aQ rfl rfl rZ rfl H.f_acquire (x_acquire_n L) (x_acquire_b L) (x_acquire_x L) (x_acquire_f L) zlw,rfl,?_⟩;refine O3 30 _ _ ?_
  walk_nrm
  iterate 19 (first|u_c dN zD hX|u_c eF zD hX|u_reg zD hX|u_c pP zD hX|u_cond false zD hX|u_c x7 zD hX|u_op zD hX|u_skip zD hX)
  u_leave0 H.f_wait zD hX
  exact rE (λzGa h=>by obtain⟨ziA,rfl⟩:=zD hX h;exact hT _ hF.1 hF.2 hD ziA)
 .
  obtain⟨S,hS⟩:∃S:Int,(v:Int)*KK=S:=⟨_,rfl⟩;have a1:S/4294967296=(v:Int):=by rw[<-hS];simp only[KK];omega
  have b1:bits .and .u64 S 2147483648=0:=by rw[<-hS];have:=st_flag v 0 aC aC;simpa[KK] using this
  have b2:bits .and .u64 S 2147483647=0:=by rw[<-hS];have:=st_waiters v 0 aC aC;simpa[KK] using this
  have c1:zqy.wrap (v:Int)=(v:Int):=by rw[zqq];omega
  have w1:Tj.wrap (S+1)=S+1:=by rw[zf6,<-hS];simp only[KK];omega
  have q3:decide ((v:Int)<0)=false:=decide_eq_false aC;have q4:decide (0<(v:Int))=true:=decide_eq_true aC;have q5:((v:Int)==0)=false:=pD;have q6:decide ((v:Int)=0)=false:=decide_eq_false aC;rw[hS] at hw;refine⟨_,zgu (v:=S) rfl rfl rZ rfl H.f_loadU64 (zgt L) (zgK L) (zeR L) .u64 (zfv L) rfl hw.cellSt,rfl,λh0=>absurd h0 aC,λ_=>?_⟩;clear hw;refine cF.goes (ph:=.w2 v) trivial 60 ?_
  walk_nrm
  iterate 3 (first|u_c dN kf.rely hF|u_c x7 kf.rely hF|u_op kf.rely hF)
  u_leave1 H.f_uLoad kf.rely hF
  iterate 22 (first|u_c dN kf.rely hF|u_c eF kf.rely hF|u_reg kf.rely hF|u_op kf.rely hF)
  u_cnd false kf.rely hF
  iterate 9 (first|u_c eF kf.rely hF|u_reg kf.rely hF|u_c pP kf.rely hF|u_op kf.rely hF)
  u_call H.f_uCas (nm_uCas L) uCasFn kf.rely hF
  iterate 11 (first|u_c dN kf.rely hF|u_c eF kf.rely hF|u_reg kf.rely hF|u_op kf.rely hF)
  refine rE (λzfQ Vi=>?_);replace hF:=kf.rely hF Vi;clear Vi;refine cF.mk rfl (.inr ?_);intro eZ s v' Mi hw;replace hF:=kf.rely hF s;clear s;refine⟨λe=>?_,λe=>?_⟩
  .
   subst e;have z:Mt.st v' 1=.int .u64 (S+1):=by simp[Mt.st,hS]
   rw[hS] at hw;rw[z];refine⟨_,(stepG_cas_hit (v:=S) (n:=S+1) rfl rfl rZ rfl H.f_casU64 (x_casU64_n L) (x_casU64_b L) (x_casU64_x L) .u64 (x_casU64_f L) rfl rfl rfl hw.cellSt (hw.thaw 0)).trans K9,rfl,?_⟩;refine cF.goes (ph:=.w3) trivial 70 ?_;replace hF:F (eZ.setCell (stA Wg) (.int .u64 (S+1)))/\WgLive L.tWg Wg (eZ.setCell (stA Wg) (.int .u64 (S+1))):=⟨kf.wg _ _ _ rfl hF.1,⟨_,_,hw.setSt _⟩⟩;clear hw
   walk_nrm
   iterate 3 (first|u_c dN kf.rely hF|u_c x7 kf.rely hF|u_op kf.rely hF)
   u_leave1 H.f_uCas kf.rely hF
   iterate 15 (first|u_c dN kf.rely hF|u_c eF kf.rely hF|u_reg kf.rely hF|u_cond true kf.rely hF|u_op kf.rely hF)
   u_conv H.underlying_tPU32 H.room_tU32 (WgLive.cell1 hF.2).choose_spec kf.rely hF
   refine rE (λzLZ zpi=>?_);replace hF:=kf.rely hF zpi;clear zpi;refine cF.mark (ph:=.w3) trivial rfl (λeZ s=>zds .write aQ rfl rfl rZ rfl H.f_raceWrite (x_raceWrite_n L) (x_raceWrite_b L) (x_raceWrite_x L) (x_raceWrite_f L) (ad:=⟨Wg,1,none⟩) (by simp[xB])) ⟨rfl,rfl⟩ (λeZ s=>?_);replace hF:=kf.rely hF s;clear s;rw[show oN 1 #[o5 (.write ⟨Wg,1,none⟩)]=1 from rfl]
   walk_nrm
   refine cF.goes (ph:=.w3) trivial 70 ?_
   iterate 23 (first|u_c dN kf.rely hF|u_c eF kf.rely hF|u_reg kf.rely hF|u_c pP kf.rely hF|u_cond false kf.rely hF|u_op kf.rely hF|u_skip kf.rely hF)
   refine rE (λzfQ Bv=>?_);replace hF:=kf.rely hF Bv;clear Bv;refine cF.mk rfl (.inr ⟨rfl,λJ3 s=>?_⟩);replace hF:=kf.rely hF s;clear s;refine⟨λ⟨st,hw⟩=>stepG_semacquire_wait rfl rfl rfl H.f_semacquire (zuB L) (zt9 L) (zyh L) (zsr L) zn9 hw.cellSm,λhf=>?_⟩;refine⟨_,(stepG_semacquire (n:=1) rfl rfl rZ rfl H.f_semacquire (zuB L) (zt9 L) (zyh L) (zsr L) zn9 hf.cellSm rZ (hf.thaw 1)).trans K9,rfl,?_⟩;refine cF.goes (ph:=.w4) trivial 60 ?_;replace hF:F (J3.setCell (smA Wg) (.int .u32 0))/\WgLive L.tWg Wg (J3.setCell (smA Wg) (.int .u32 0)):=⟨kf.wg _ _ _ rfl hF.1,⟨_,_,hf.setSm 0⟩⟩;clear hf
   walk_nrm
   iterate 6 (first|u_c dN kf.rely hF|u_c eF kf.rely hF|u_reg kf.rely hF|u_op kf.rely hF)
   u_call H.f_uLoad (zmZ L) uLoadFn kf.rely hF
   iterate 9 (first|u_c dN kf.rely hF|u_c eF kf.rely hF|u_reg kf.rely hF|u_op kf.rely hF)
   refine rE (λzfQ zes=>?_);replace hF:=kf.rely hF zes;clear zes;refine cF.mk rfl (.inr λSa s hw=>?_);replace hF:=kf.rely hF s;clear s;refine⟨_,zgu (v:=0) rfl rfl rZ rfl H.f_loadU64 (zgt L) (zgK L) (zeR L) .u64 (zfv L) rfl hw.cellSt,rfl,?_⟩;clear hw;refine cF.goes (ph:=.w5) trivial 60 ?_
   walk_nrm
   iterate 3 (first|u_c dN kf.rely hF|u_c x7 kf.rely hF|u_op kf.rely hF)
   u_leave1 H.f_uLoad kf.rely hF
   iterate 7 (first|u_c dN kf.rely hF|u_c eF kf.rely hF|u_reg kf.rely hF|u_cond true kf.rely hF|u_op kf.rely hF)
   refine rE (λzbK Kn=>?_);replace hF:=kf.rely hF Kn;clear Kn;refine cF.mark (ph:=.w5) trivial rfl (λeZ s=>zbz .enable aQ rfl rfl rZ rfl H.f_enable (zhz L) (zhU L) (zfX L) (zd3 L)) trivial (λeZ s=>?_);replace hF:=kf.rely hF s;clear s;rw[show oN 1 #[o5 .enable]=0 from rfl];refine cF.goes (ph:=.w5) trivial 30 ?_
   walk_nrm
   iterate 3 (first|u_c dN kf.rely hF|u_reg kf.rely hF|u_op kf.rely hF)
   u_conv H.underlying_tWgP H.room_tWg (WgLive.cell0 hF.2).choose_spec kf.rely hF
   refine rE (λzHh zcx=>?_);replace hF:=kf.rely hF zcx;clear zcx;refine cF.mk rfl (.inr ⟨rfl,λTl s hD=>?_⟩);replace hF:=kf.rely hF s;clear s;have hX:AtX Tl Tl:=⟨Tl.drawn,rfl⟩;refine⟨_,zds .acquire aQ rfl rfl rZ rfl H.f_acquire (x_acquire_n L) (x_acquire_b L) (x_acquire_x L) (x_acquire_f L) zlw,rfl,?_⟩;refine O3 30 _ _ ?_
   walk_nrm
   iterate 9 (first|u_c dN zD hX|u_c eF zD hX|u_reg zD hX|u_c pP zD hX|u_cond false zD hX|u_c x7 zD hX|u_op zD hX)
   u_leave0 H.f_wait zD hX
   exact rE (λzGa h=>by obtain⟨ziA,rfl⟩:=zD hX h;exact hT _ hF.1 hF.2 hD ziA)
  .
   refine⟨_,stepG_cas_miss (v:=(v':Int)*KK) (old:=S) (n:=S+1) rfl rfl rZ rfl H.f_casU64 (x_casU64_n L) (x_casU64_b L) (x_casU64_x L) .u64 (x_casU64_f L) rfl rfl rfl hw.cellSt (hw.thaw 0) (by rw[<-hS];simp only[KK];omega),rfl,?_⟩;clear hw;refine cF.goes (ph:=.w1 v) trivial 20 ?_
   walk_nrm
   iterate 3 (first|u_c dN kf.rely hF|u_c x7 kf.rely hF|u_op kf.rely hF)
   u_leave1 H.f_uCas kf.rely hF
   iterate 5 (first|u_c dN kf.rely hF|u_c pP kf.rely hF|u_cond false kf.rely hF|u_c zia kf.rely hF|u_c zkg kf.rely hF)
   exact rE (λJ3 Bv=>hC v bV _ _ ⟨_,rfl,aQ,aQ,kf.rely hF Bv⟩)
theorem zIT (H:Vw P L)(kf:H4 L.tWg Wg τ F)(O3:∀(n:Nat) g w,Goes P true AtRel DC0 Fin n g w->Fin g w)
 (hT:∀w,F w->WgLive L.tWg Wg w->zdC A w->∀d,Fin (G (b₀.at (a₀.put ((ops₀[i₀]?).bind (·.dst)) (.tuple #[])) (.inRegion ops₀ rest₀::k₀)) cs) (w.at d)):
 ∀b g w,AnchWN L F Wg (b₀.at a₀ (.inRegion ops₀ (i₀::rest₀)::k₀)) cs g w->cF P L.tWg Wg A Fin true (.w1 b) 1 τ g w:=by
 intro b
 induction b using zbl with
 |ind b ih=>exact zsz H kf O3 hT (ok:=λv=>v<b) trivial (λg w hr h=>cF.mk hr (.inr h)) ih
theorem zcU (H:Vw P L)(q8:A.act l=.wait)(kf:H4 L.tWg Wg τ F)(O3:∀(n:Nat) g w,Goes P true AtRel DC0 Fin n g w->Fin g w)
 (hT:∀w,F w->WgLive L.tWg Wg w->zdC A w->∀d,Fin (G (b₀.at (a₀.put ((ops₀[i₀]?).bind (·.dst)) (.tuple #[])) (.inRegion ops₀ rest₀::k₀)) cs) (w.at d))
 (w:aE) (hF:F w/\WgLive L.tWg Wg w):cF P L.tWg Wg A Fin true (.usr l) 0 τ (G ((base L.wait).at ⟨#[.pointer (some ⟨Wg,0,none⟩),aA,aA,aA,aA,aA,aA,aA,aA,aA,aA,aA,aA,aA,aA,aA,aA,aA,aA,aA,aA,aA,aA,aA,aA,aA,aA,aA,aA,aA,aA,aA,aA,aA,aA,aA,aA,aA,aA,aA,aA,aA,aA,aA,aA,aA,aA,aA,aA,aA,aA,aA,aA,aA,aA,aA,aA,aA,aA,aA,aA,aA,aA,aA,aA,aA,aA,aA,aA,aA,aA,aA,aA,aA,aA,aA,aA,aA,aA,aA,aA,aA,aA,aA],[]⟩ [.code (U0 L)]) (b₀.at a₀ (.inRegion ops₀ (i₀::rest₀)::k₀)::cs)) w:=by
 have aX:∀g w,AnchWN L F Wg (b₀.at a₀ (.inRegion ops₀ (i₀::rest₀)::k₀)) cs g w->cF P L.tWg Wg A Fin true (.usr l) 1 τ g w:=λg w h=>by
  refine zsz H kf O3 hT (ok:=λ_=>True) (ph:=.usr l) trivial (λg w hr h=>cF.usr hr ?_) (λv _=>zIT H kf O3 hT v) g w h;unfold nG;rw[q8];exact λaJ s v hv hw=>h aJ s v trivial hv hw
 lib_facts
 simp only[U0,waitFn,Cb];refine cF.goes (ph:=.usr l) trivial 3 ?_
 iterate 3 (first|u_c eF kf.rely hF|u_reg kf.rely hF|u_cond true kf.rely hF)
 refine rE (λaJ wV=>?_);replace hF:=kf.rely hF wV;clear wV;refine cF.mark (ph:=.usr l) trivial rfl (λeZ s=>zbz .disable aQ rfl rfl rZ rfl H.f_disable (zjh L) (zlJ L) (ziR L) (znR L)) trivial (λeZ s=>?_);replace hF:=kf.rely hF s;clear s;rw[show oN 0 #[o5 .disable]=1 from rfl]
 walk_nrm
 refine cF.goes (ph:=.usr l) trivial 3 ?_
 iterate 3 (first|u_c dN kf.rely hF|u_c zel kf.rely hF|u_c zk5 kf.rely hF)
 exact rE (λJ3 Vi=>aX _ _ ⟨_,rfl,aQ,aQ,kf.rely hF Vi⟩)
end
end Go.Mt
namespace Go.Mt
open Go.Conc Go.Tt
def Kg:Nat->aF->Bool
 |0,_=>false
 |n+1,v=>match v with
  | .bool _| .int _ _| .string _| .nilFunc| .nilIface| .pointer none| .slice none _ _| .map none| .chan none=>true
  | .agg xs| .tuple xs=>xs.all (Kg n)
  |_=>false
variable {S:aP->Prop}
theorem zHZ {K R:Pr}:∀(n:Nat) (v:aF),Kg n v=true->VR S K R v v:=by
 intro n
 induction n with
 |zero=>intro v h;cases h
 |succ n ih=>
  intro v h;have arr:∀xs:Array aF,xs.all (Kg n)=true->bQ S K R xs xs:=λxs hx=>⟨rfl,λi a b h1 h2=>by
   rw[h1] at h2;obtain rfl:=cS h2;rw[ziD] at hx;exact ih a (hx a (zb4 h1))⟩
  cases v with
  |bool b=>exact .bool b
  |int k m=>exact .int k m
  |string s=>exact .string s
  |nilFunc=>exact .nilFunc
  |nilIface=>exact .nilIface
  |pointer a=>cases a with|none=>exact .pointer .none|some a=>simp[Kg] at h
  |slice a m c=>cases a with|none=>exact .slice .none|some a=>simp[Kg] at h
  |map a=>cases a with|none=>exact .map .none|some a=>simp[Kg] at h
  |chan a=>cases a with|none=>exact .chan .none|some a=>simp[Kg] at h
  |agg xs=>exact .agg rfl (arr xs (by simpa[Kg] using h)).2
  |tuple xs=>exact .tuple rfl (arr xs (by simpa[Kg] using h)).2
  |_=>simp[Kg] at h
def vE (v:aF):Prop:=∀(S:aP->Prop) (K R:Pr),VR S K R v v
variable {z:aF}
theorem vE.cells (h:vE z):∀x∈z.cells,vE x:=λx hx S K R=>by
 obtain⟨i,hi,rfl⟩:=Array.mem_iff_getElem.1 hx;exact(h S K R).cells.2 i _ _ (qI hi) (qI hi)
theorem vE.agg {xs:Array aF}(h:∀x∈xs,vE x):vE (.agg xs):=λS K R=>.agg rfl λi v v' h1 h2=>by
 rw[h1] at h2;obtain rfl:=cS h2;exact h v (zb4 h1) S K R
def zkO (info:aM->Option wG):Prop:=∀t i z,info t=some i->i.zero=some z->vE z
theorem zGB {α β:Type}{P:β->Prop}{f:α->β->Option (ForInStep β)}(hf:∀a b r,P b->f a b=some r->P (match r with| .yield b=>b| .done b=>b)):∀(l:List α) (b b':β),P b->forIn l b f=some b'->P b':=by
 intro l
 induction l with
 |nil=>simp
 |cons a l ih=>
  intro b b' hb h;simp only[List.forIn_cons,bind,Ep] at h;obtain⟨r,h1,h2⟩:=h;have:=hf a b r hb h1
  cases r with
  |yield c=>grind
  |done c=>simp_all
variable {info:aM->Option wG}{fs:Array Field}{i:wG}
theorem zHQ (hI:zkO info)(h:zqN info fs=some i)(hz:i.zero=some z):vE z:=by
 unfold zqN at h;simp only[bind,pure,Ep] at h;obtain⟨a,h1,h2⟩:=h;rw[<-Array.forIn_toList] at h1;have key:∀xs,a.2.2.2.2.2.2.2.1=some xs->∀x∈xs,vE x:=by
  refine zGB (P:=λs=>∀xs,s.2.2.2.2.2.2.2.1=some xs->∀x∈xs,vE x) (λf s r hP h=>?_) _ _ _ (λxs hx=>by simp only[jQ] at hx;subst hx;simp) h1;simp only[Ep] at h;obtain⟨j,hj,h⟩:=h;have key:∀xs,(s.2.2.2.2.2.2.2.1.bind λa=>j.zero.bind λb=>some (a++b.cells))=some xs->∀x∈xs,vE x:=by
   intro xs hx;simp only[Ep,jQ] at hx;obtain⟨u,h3,v,h4,rfl⟩:=hx;intro x hm;rcases Array.mem_append.1 hm with hm|hm
   .exact hP u h3 x hm
   .exact(hI _ j v hj h4).cells x hm
  repeat' (first|split at h|(simp only[Ep] at h;obtain⟨_,h0,h⟩:=h))
  all_goals first
   |(cases h0;done)
   |(simp only[jQ] at h;subst h;exact key)
   |(simp only[jQ] at h;subst h;intro xs hx;cases hx)
 split at h2<;>(simp only[jQ] at h2;subst h2;simp only at hz;obtain⟨xs,h3,rfl⟩:=At.1 hz;exact vE.agg (key xs h3))
theorem zCc (hI:zkO info){d:TypeDesc}(h:zui info d=some i)(hz:i.zero=some z):vE z:=by
 have hw:∀(d:TypeDesc) (s:String) (v:aF) (b:Bool) (n:Nat),vE v->∀z,(zuK d s v b n).zero=some z->vE z:=λd s v b n hv z hz=>by
  simp only[zuK,jQ] at hz;exact hz▸hv
 have p0:vE (.pointer none):=λ_ _ _=>.pointer .none;have s0:vE (.slice none 0 0):=λ_ _ _=>.slice .none;have m0:vE (.map none):=λ_ _ _=>.map .none;have c0:vE (.chan none):=λ_ _ _=>.chan .none;have f0:vE .nilFunc:=λ_ _ _=>.nilFunc;unfold zui at h
 cases d with
 |pointer e=>
  simp only[bind,pure,Ep] at h;obtain⟨j,_,h⟩:=h;split at h
  .cases h
  .split at h
   .cases h
   .simp only[Ep,jQ] at h
    obtain⟨_,_,rfl⟩:=h;exact hw _ _ _ _ _ p0 z hz
  .simp only[Ep,jQ] at h
   obtain⟨_,_,rfl⟩:=h;exact hw _ _ _ _ _ p0 z hz
 |slice e=>
  simp only[bind,pure,Ep,jQ] at h;obtain⟨_,_,_,_,rfl⟩:=h;exact hw _ _ _ _ _ s0 z hz
 |map k e=>
  simp only[bind,pure,Ep,jQ] at h;obtain⟨_,_,_,_,_,_,_,_,rfl⟩:=h;exact hw _ _ _ _ _ m0 z hz
 |chan dir e=>
  simp only[bind,pure,Ep,jQ] at h;obtain⟨_,_,_,_,rfl⟩:=h;exact hw _ _ _ _ _ c0 z hz
 |func ps rs v=>
  simp only[bind,pure,Ep,jQ] at h;obtain⟨_,_,rfl⟩:=h;exact hw _ _ _ _ _ f0 z hz
 |array n e=>
  simp only[bind,pure,Ep,jQ] at h;obtain⟨j,hj,_,_,rfl⟩:=h;simp only at hz;split at hz
  .cases hz
  .split at hz
   .simp only[jQ] at hz;subst hz;exact vE.agg aQ
   .obtain⟨u,hu,rfl⟩:=At.1 hz
    refine vE.agg λx hx=>?_;simp only[Array.mem_flatten,Array.mem_replicate] at hx;obtain⟨xs,⟨_,rfl⟩,hx⟩:=hx;exact(hI _ j u hj hu).cells x hx
 |struct fs=>exact zHQ hI h hz
 |_=>cases h
def Sn (p:cD):Bool:=(iL p.types.size).all λt=>match p.info? t with|some i=>(match i.zero with|some z=>Kg 12 z|none=>true)|none=>true
def zjJ:List ResultVar->Bool
 |[]=>true
 |[_]=>true
 |[_,_]=>true
 |[_,_,_]=>true
 |[_,_,_,_]=>true
 |_=>false
variable {l:List ResultVar}
theorem zIV (h:zjJ l=true):Hf l:=by
 unfold zjJ at h;split at h
 .exact .inl rfl
 .exact .inr (.inl ⟨_,rfl⟩)
 .exact .inr (.inr (.inl ⟨_,_,rfl⟩))
 .exact .inr (.inr (.inr (.inl ⟨_,_,_,rfl⟩)))
 .exact .inr (.inr (.inr (.inr ⟨_,_,_,_,rfl⟩)))
 .cases h
def fnFit (p:cD)(fs gs:aP->Bool)(f:aP):Bool:=
 match p.funcs[f]? with
 |some fn=>!(fn.name== "runtime.NumGoroutine")&&zjJ fn.results.toList&&(match fn.body with|some c=>qD p ⟨fs,gs,true⟩ c|none=>false)
 |none=>false
variable {p:cD}{f:aP}
theorem fnFit_ok {fs gs:aP->Bool}(h:fnFit p fs gs f=true):∃fn c,p.funcs[f]? =some fn/\(fn.name== "runtime.NumGoroutine")=false/\fn.body=some c/\qD p ⟨fs,gs,true⟩ c=true/\Hf fn.results.toList:=by
 unfold fnFit at h
 cases hf:p.funcs[f]? with
 |none=>simp_all
 |some fn=>
  rw[hf] at h;simp only[jB,zrI] at h
  cases hb:fn.body with
  |none=>simp_all
  |some c=>rw[hb] at h;exact⟨fn,c,rfl,h.1.1,hb,h.2,zIV h.1.2⟩
variable {t:aM}
theorem zxJ (h:Sn p=true)(ht:t<p.types.size)(hi:p.types[t]? =some i)(hz:i.zero=some z):vE z:=by
 unfold Sn at h;rw[xC] at h;have:=h t (Ei.2 ht);have e:p.info? t=some i:=by show zn5 p.toTables t=some i;unfold zn5;rw[if_pos ht];exact hi
 rw[e] at this;simp only[hz] at this;exact λS K R=>zHZ 12 z this
theorem zF8 (h:Sn p=true):∀n,zkO (zvA p.toTables n):=by
 intro n
 induction n with
 |zero=>intro t i z hi;cases hi
 |succ n ih=>
  intro t i z hi hz;unfold zvA at hi;split at hi
  .next ht=>exact zxJ h ht hi hz
  .obtain⟨d,_,hd⟩:=Ep.1 hi
   exact zCc ih hd hz
theorem zqO (h:Sn p=true){K R:Pr}(hi:p.info? t=some i)(hz:i.zero=some z):VR S K R z z:=by
 have lS:=hi;unfold zn5 at lS;split at lS
 .next ht=>exact zxJ h ht lS hz S K R
 .exact zF8 h Made.depth t i z lS hz S K R
def nQ (l:List Nat)(f:aP):Bool:=l.contains f
theorem Qn {l:List Nat}(h:nQ l f=true):f∈l:=by simpa[nQ] using h
theorem zrv {gl fl:List Nat}(hz:Sn p=true)(h:gl.all (fnFit p (nQ fl) (nQ gl))=true)(hd:fl.all (λf=>gl.contains f)=true):wK (PS p (nQ gl)) (nQ fl) where
 zero:=λK R t i z hi J1=>zqO hz hi J1
 fn:=λf hf _=>by
  obtain⟨fn,c,h1,h2,h3,h4,_⟩:=fnFit_ok (xC.1 h f (Qn hf));exact⟨fn,c,h1,h1,h2,h3,h4⟩
 opq:=λf _ ho=>by cases ho
 low:=λf ho=>by cases ho
 dyn:=λ_ f hf=>xC.1 hd f (Qn hf)
 guard:=λt=>rfl
 res:=λf hf _ fn Jd=>by
  obtain⟨fn',c,h1,h2,h3,h4,h5⟩:=fnFit_ok (xC.1 h f (Qn hf));have Ea:=h1;rw[Ea] at Jd;obtain rfl:=cS Jd;exact h5
 follows:=rfl
 none:=λ_=>rfl
def zeB (p:cD)(fs gs:aP->Bool)(f:aP):Bool:=
 match p.funcs[f]? with
 |some fn=>!(fn.name== "runtime.NumGoroutine")&&(match fn.body with|some c=>!(qD p ⟨fs,gs,true⟩ c)|none=>false)
 |none=>false
theorem lv_of {ol al gl fl:List Nat}(hz:Sn p=true)(h1:gl.all (fnFit p (nQ fl) (nQ gl))=true)(h2:al.all (λf=>ol.contains f||fnFit p (nQ fl) (nQ al) f)=true)(h3:ol.all (zeB p (nQ fl) (nQ gl))=true)(h4:ol.all (zeB p (nQ fl) (nQ al))=true)(hd:fl.all (λf=>gl.contains f)=true)(Bo:fl.all (λf=>al.contains f)=true):
 Lv p (nQ ol) (nQ al) (nQ gl) (nQ fl) where
 fit:={
  zero:=λK R t i z hi J1=>zqO hz hi J1
  fn:=λf hf ho=>by
   have:=xC.1 h2 f (Qn hf);have y9:ol.contains f=false:=ho;rw[y9,zsa] at this;obtain⟨fn,c,h1,h2,h3,h4,_⟩:=fnFit_ok this;exact⟨fn,c,h1,h1,h2,h3,h4⟩
  opq:=λf _ ho=>by
   have:=xC.1 h4 f (Qn ho);unfold zeB at this
   cases hf:p.funcs[f]? with
   |none=>simp_all
   |some fn=>grind
  low:=λf ho=>by cases ho
  dyn:=λ_ f hf=>xC.1 Bo f (Qn hf)
  guard:=λt=>rfl
  res:=λf hf ho fn Jd=>by
   have:=xC.1 h2 f (Qn hf);have y9:ol.contains f=false:=ho;rw[y9,zsa] at this;obtain⟨fn',c,h1,h2,h3,h4,h5⟩:=fnFit_ok this;have Ea:(PL p (nQ ol) (nQ al)).c.funcs[f]? =some fn':=h1;rw[Ea] at Jd;obtain rfl:=cS Jd;exact h5
  follows:=rfl}
 fit₁:=zrv hz h1 hd
 nofit:=λf ho=>by
  have:=xC.1 h3 f (Qn ho);unfold zeB at this
  cases hf:p.funcs[f]? with
  |none=>simp_all
  |some fn=>grind
end Go.Mt
namespace Go.Mt
open Go.Conc Go.Tt
open Go.ConcR (KK wgBlock WgAt stA smA rd wr DC0)
section
variable {p:cD}
def wQ (p:cD):Frame:={(default:dV) with fn:=p.funcs.size,defers:=[],mode:=.panicking [goexitEntry]}
variable {f:aP}{fn:Func}
theorem ztr {c:Code}{cap args:Array aF}(hf:p.funcs[f]? =some fn)(hn:(fn.name== "runtime.NumGoroutine")=false)(hb:fn.body=some c)(w:aE):
 stepG p false (born p {target:=.fn (.func f) cap,args:=args}) w=.go (G ((baseD f).at ⟨(args++cap)++oL (fn.ntmps-(args++cap).size) aA,[]⟩ [.code c]) [wQ p]) w #[]:=by
 have vZ:¬fn.name= "runtime.NumGoroutine" :=by simpa using hn
 simp[born,stepG,unwind,callDeferred,invoke,callFunc,hf,vZ,hb,seen,Di,G,Ic,dV.at,baseD,wQ]
theorem zBT (hf:p.funcs[f]? =some fn)(hr:fn.results=#[])(T:Array aF)(todo:List dZ):QuitsD p 2 0 (G {(baseD f).at ⟨T,[]⟩ todo with mode:=.returning} [wQ p]):=by
 refine zry (g':=G (wQ p) []) rfl (λw=>?_) ?_
 .simp[G,stepG,unwind,doReturn,results,dV.at,baseD,wQ,hf,hr,seen,Di,goexitEntry]
 refine zry (g':={G (wQ p) [] with status:=.finished}) rfl (λw=>?_) ⟨rfl,rfl⟩;simp[G,stepG,unwind,wQ,goexitEntry,dV.catches];rfl
end
section
variable [zeY]{Lk:zg4}
open Go.Conc.Lib Go.ConcR.Gen
def H4.triv (ty:aM)(Wg:Nat)(τ:cI):H4 ty Wg τ (λ_=>True):=⟨λ_ _ _ _=>trivial,λ_ _ _ _ _=>trivial⟩
end
end Go.Mt
namespace Go.Mt
open Go.Conc Go.Tt
open Go.ConcR (KK wgBlock WgAt stA smA rd wr)
section
variable {S:aP->Prop}{K K' R R':Pr}{G:Gp}{St St':Nat->Prop}{w W:aE}
def Pr.or_le {K K' R R':Pr}(hK:K.le K')(hR:R.le R'):(R.or K).le (R'.or K'):=λa b x=>x.imp (hR a b) (hK a b)
theorem zmf (hK:K.le K'){v v':aF}(x:VR S K R v v'):VR S K' R v v':=by
 induction x with
 |bool b=>exact .bool b
 |int k n=>exact .int k n
 |string s=>exact .string s
 |nilFunc=>exact .nilFunc
 |nilIface=>exact .nilIface
 |pointer x=>exact .pointer x
 |slice x=>exact .slice x
 |map x=>exact .map x
 |chan x=>exact .chan (x.mono (Pr.or_le hK (.refl _)))
 |func s e1 _ e2 _ i1 i2=>exact .func s e1 i1 e2 i2
 |iface _ ih=>exact .iface ih
 |agg e _ ih=>exact .agg e ih
 |tuple e _ ih=>exact .tuple e ih
 |junk h=>exact .junk h
def bQ.monoK (hK:K.le K'){xs cC:Array aF}(x:bQ S K R xs cC):bQ S K' R xs cC:=⟨x.1,λi v v' h1 h2=>zmf hK (x.2 i v v' h1 h2)⟩
theorem Dh.monoK (hK:K.le K'){e e':MapEntry}(x:Dh S K R e e'):Dh S K' R e e':=by cases x with|mk a b=>exact .mk (zmf hK a) (zmf hK b)
variable {o:Obj}
theorem o0.monoK (hK:K.le K'){o':Obj}(x:o0 S K R o o'):o0 S K' R o o':=by
 cases x with
 |cells a b=>exact .cells (bQ.monoK hK a) b
 |map a=>exact .map ⟨a.1,λi e e' h1 h2=>Dh.monoK hK (a.2 i e e' h1 h2)⟩
 |chan a=>exact .chan (bQ.monoK hK a)
 |stringIter s p=>exact .stringIter s p
 |number a=>exact .number a
 |mapIter a=>exact .mapIter a
variable {P:dQ}
def qE.monoK {fs:aP->Bool}(hK:K.le K'){m m':Fm}(x:qE P fs K R m m'):qE P fs K' R m m':=⟨x.fn,x.todo,x.ret,bQ.monoK hK x.tmps,x.fit,x.infs⟩
theorem uQ.monoK {fs:aP->Bool}(hK:K.le K'){ms ms':List Fm}(x:uQ P fs K R ms ms'):uQ P fs K' R ms ms':=by
 induction x with
 |nil=>exact .nil
 |cons a b _ ih=>exact .cons (qE.monoK hK a) b ih
theorem dB.real {W':aE}(h:dB S K R G St w W)(hk:∀a b,R a b->W'.heap[b]? =W.heap[b]?)(hs:W.heap.size<=W'.heap.size):dB S K R G St w W':=by
 refine⟨h.inj,h.inj',λa b x=>⟨(h.lt a b x).1,jP (h.lt a b x).2 hs⟩,h.low,⟨h.gle.1,eE h.gle.2 hs⟩,λa b x=>?_,h.rest,h.st,h.np,h.tb⟩;obtain⟨o,o',h1,h2,h3⟩:=h.cont a b x
 grind
def put (w:aE)(b:Nat)(o:Obj):World:={w with heap:=w.heap.setIfInBounds b o}
theorem Cy (w:aE)(o:Obj):(w.alloc o).heap[w.heap.size]? =some o:=by unfold zp3;simp
theorem Bp {w:aE}{a:Nat}(h:a<w.heap.size):(w.alloc o).heap[a]? =w.heap[a]? :=by unfold zp3;grind
theorem qT (w:aE)(o:Obj):(w.alloc o).heap.size=w.heap.size+1:=by simp_all
theorem dB.pushK (h:dB S K R G St w W){N:Nat}(hN:N<W.heap.size)(hf:∀a,¬(R.or K) a N):dB S (K.add w.heap.size N) R G St (w.alloc pK) W:=by
 have aT:∀a b,R.or K a b->a≠w.heap.size:=λa b x=>Nat.ne_of_lt (h.lt a b x).1;have lift:∀a,(∃b,R.or K a b)->(w.alloc pK).heap[a]? =w.heap[a]? :=λa ⟨b,x⟩=>Bp (h.lt a b x).1;refine⟨?_,?_,?_,h.low,⟨by rw[qT];exact Nat.le_succ_of_le h.gle.1,h.gle.2⟩,λa b x=>?_,?_,λa x=>?_,h.np.push (by unfold pK;simp),h.tb⟩
 .rintro a b c (x|x|⟨rfl,rfl⟩) (y|y|⟨e,rfl⟩)
  .exact h.inj a b c (.inl x) (.inl y)
  .exact h.inj a b c (.inl x) (.inr y)
  .exact absurd e (aT a b (.inl x))
  .exact h.inj a b c (.inr x) (.inl y)
  .exact h.inj a b c (.inr x) (.inr y)
  .exact absurd e (aT a b (.inr x))
  .exact absurd rfl (aT _ c (.inl y))
  .exact absurd rfl (aT _ c (.inr y))
  .rfl
 .rintro a b c (x|x|⟨rfl,rfl⟩) (y|y|⟨rfl,e⟩)
  .exact h.inj' a b c (.inl x) (.inl y)
  .exact h.inj' a b c (.inl x) (.inr y)
  .exact absurd (e▸ .inl x) (hf a)
  .exact h.inj' a b c (.inr x) (.inl y)
  .exact h.inj' a b c (.inr x) (.inr y)
  .exact absurd (e▸ .inr x) (hf a)
  .exact absurd (.inl y) (hf b)
  .exact absurd (.inr y) (hf b)
  .rfl
 .rintro a b (x|x|⟨rfl,rfl⟩)
  .exact⟨by rw[qT];exact zuP (h.lt a b (.inl x)).1,(h.lt a b (.inl x)).2⟩
  .exact⟨by rw[qT];exact zuP (h.lt a b (.inr x)).1,(h.lt a b (.inr x)).2⟩
  simp_all
 .obtain⟨o,o',h1,h2,h3⟩:=h.cont a b x
  exact⟨o,o',(lift a ⟨b,.inl x⟩).trans h1,h2,o0.monoK (Pr.le_add _ _ _) h3⟩
 .rintro a b (x|⟨rfl,rfl⟩) hn
  .exact(lift a ⟨b,.inr x⟩).trans (h.rest a b x hn)
  .exact Cy w pK
 .obtain⟨⟨b,y⟩,c,T,hi,h1,h2⟩:=h.st a x
  exact⟨⟨b,y⟩,c,T,hi,(lift a ⟨b,.inl y⟩).trans h1,h2⟩
end
structure IM (W0:aE)(St:Nat->Prop)(Shun:Loc->Prop)(Wg:Nat)(SS:Nat->Prop)(R:Pr)(τ:cI)(W:aE):Prop where
 kp:Kp W0 R St W
 sh:Sh W0.heap.size Shun R W
 still:τ.still=SS
 wg:Wg<W.heap.size
 own:∀b,τ.own b->b≠Wg
 rel:∀a b,R a b->b≠Wg
section
variable {L:Type}{C:Cx L}{W0:aE}{St:Nat->Prop}{Shun:Loc->Prop}{SS:Nat->Prop}
theorem im_ok (hC:C.I=IM W0 St Shun C.Wg SS)(aX:∀a,St a->C.St a)(wD:∀b,b<W0.heap.size->SS b):fI C:=by
 refine⟨λR τ W aY h s=>?_,λR τ W R1 W1 h ht hs=>?_⟩<;>rw[hC] at*
 .refine⟨⟨s.os.trans h.kp.os,s.tape.trans h.kp.tape,s.output.trans h.kp.output,eE h.kp.size s.size,λb hb=>(s.keep b (.inr (by rw[h.still];exact wD b hb))).trans (h.kp.block b hb),h.kp.old⟩,⟨h.sh.old,h.sh.rel,λl b hl hb=>h.sh.new l b hl (eE s.size hb)⟩,h.still,jP h.wg s.size,h.own,h.rel⟩
 .refine⟨⟨hs.os.trans h.kp.os,hs.tape.trans h.kp.tape,hs.output.trans h.kp.output,eE h.kp.size hs.size,λb hb=>?_,λa b x hb=>?_⟩,⟨h.sh.old,λa b x l hl=>?_,λl b hl hb=>h.sh.new l b hl (eE hs.size hb)⟩,h.still,jP h.wg hs.size,λb hb=>?_,λa b x=>?_⟩
  .rw[hs.keep b (jP hb h.kp.size) (λa x=>aX a (h.kp.old a b x hb))]
   exact h.kp.block b hb
  .rcases hs.new a b x with y|⟨y,_⟩
   .exact h.kp.old a b y hb
   .have:=h.kp.size;omega
  .rcases hs.new a b x with y|⟨y,_⟩
   .exact h.sh.rel a b y l hl
   .exact h.sh.new l b hl y
  .rcases hb with hb|⟨hb,_⟩
   .exact h.own b hb
   .have:=h.wg;omega
  .rcases hs.new a b x with y|⟨y,_⟩
   .exact h.rel a b y
   .have:=h.wg;omega
def zcI (W:aE)(a:Addr)(v:aF){b:Nat}(h:b≠a.block):(W.setCell a v).heap[b]? =W.heap[b]? :=(Ze W a v).block b h
def Uk (W:aE)(a:Addr)(v:aF):(W.setCell a v).heap.size=W.heap.size:=(Ze W a v).size
theorem IM.cell {R:Pr}{τ:cI}{W:aE}{Wg:Nat}(h:IM W0 St Shun Wg SS R τ W)(hW:W0.heap.size<=Wg){a:Addr}(ha:a.block=Wg)(v:aF):IM W0 St Shun Wg SS R τ (W.setCell a v):=by
 have hA:=Ze W a v;refine⟨⟨hA.os.trans h.kp.os,hA.tape.trans h.kp.tape,hA.output.trans h.kp.output,by rw[Uk];exact h.kp.size,λb hb=>(zcI W a v aC).trans (h.kp.block b hb),h.kp.old⟩,⟨h.sh.old,h.sh.rel,λl b hl hb=>h.sh.new l b hl uB⟩,h.still,by rw[Uk];exact h.wg,h.own,h.rel⟩
end
end Go.Mt
namespace Go.Mt
open Go.Conc Go.Tt
open Go.ConcR (KK wgBlock WgAt stA smA rd wr DC0)
section
variable {L:Type}{C:Cx L}{l:L}
variable {fn:aP}{tmps:Array aF}{k:List dZ}{w:aE}{ops:Array aZ}
theorem BO.regs (hI:fI C){id:Nat}(is:List Nat)(hr:iL ops.size=is)(h:BO C l ⟨fn,tmps,.inRegion ops is::k,false⟩ w):BO C l ⟨fn,tmps,.code (.region id ops false)::k,false⟩ w:=BO.reg hI (by rw[hr];exact h)
def Cx.dfr (C:Cx L)(d:Gv):Cx L:={C with ds:=⟨d::C.ds.ds,C.ds.kd,C.ds.ok⟩}
def fI.dfr (hI:fI C)(d:Gv):fI (C.dfr d):=⟨hI.suf,hI.step⟩
variable {p:cD}{i:Nat}{rest:List Nat}{o:aZ}{d:Gv}
theorem zCT {main:Bool}{b:dV}{a:vX}{cs:List dV}(ho:ops[i]? =some o)(hw:dI o (dL ops a.tmps)=true)(hk:b.kind≠ .early)(zlx:o.dst=none)
 (hr:(aO a.eval o).run p w=.ok (.defer d) w) (he:(aO a.eval o).events p w #[]=#[]):
 stepG p main (G (b.at a (.inRegion ops (i::rest)::k)) cs) w=.go (G (b.at ⟨a.tmps,d::a.defers⟩ (.inRegion ops rest::k)) cs) w #[]:=by
 have By:(b.at ⟨a.tmps,d::a.defers⟩ (.inRegion ops (i::rest)::k)).finish aA=b.at ⟨a.tmps,d::a.defers⟩ (.inRegion ops rest::k):=by rw[zv1,ho];simp[zlx,cE]
 have cZ:(b.kind==CallKind.early)=false:=by simpa using hk
 rw[stepG_oper ho hw,<-By];simp[stepG.apply,hr,he,G,dV.at,cZ,Di,Ct]
theorem BO.defer (hI:fI C)(ho:ops[i]? =some o)(cG:dI o (dL ops tmps)=true)(zlx:o.dst=none)
 (hx:∀R w W bZ,C.Rel R w W->bQ (SF C.fs) C.K R tmps bZ->(∀x∈C.pin,bZ.getD x.1 aA=x.2)->∀aY,(aO (bL bZ C.ds.ds).eval o).run C.p aY=.ok (.defer d) aY/\(aO (bL bZ C.ds.ds).eval o).events C.p aY #[]=#[])
 (h:BO (C.dfr d) l ⟨fn,tmps,.inRegion ops rest::k,false⟩ w):BO C l ⟨fn,tmps,.inRegion ops (i::rest)::k,false⟩ w:=by
 intro R W m' τ hw hm ht hi;obtain⟨fn',bZ,zU,Ac⟩:=m';obtain rfl:=hm.fn;obtain rfl:=hm.todo;obtain rfl:=hm.ret;rw[mY];refine Cx.silent rfl rfl (g':=G ((C.ds.base fn).at ⟨bZ,d::C.ds.ds⟩ (.inRegion ops rest::k)) C.base) (λaY s=>?_) λaY s=>?_
 .obtain⟨h1,h2⟩:=hx R w W bZ hw hm.tmps hm.pins aY
  exact zCT ho (Jl (C:=C) hm.tmps cG) C.ds.ok zlx h1 h2
 .have:=h R aY ⟨fn,bZ,.inRegion ops rest::k,false⟩ τ (Cx.Rel.suf (C:=C) hw ht s) ⟨rfl,rfl,rfl,hm.tmps,hm.pins⟩ ht (hI.suf _ _ _ _ hi s)
  rw[mY] at this;exact this
variable {ρ:cN->aF}
theorem zu8 {f:aP}{zwx:Array cN}{jW:Array aM}(hop:o.op=.defer {callee:=.value (.func f),args:=zwx,argTypes:=jW})(hρ:ρ (.func f)=.func (.func f) #[] #[])(w:aE):
 (aO ρ o).run p w=.ok (.defer (dcall f (zwx.map ρ))) w/\(aO ρ o).events p w #[]=#[]:=by
 obtain⟨dst,zK,type,pos,after,guard⟩:=o;simp only at hop;subst hop;constructor
 .simp[aO,resolve,Cz,hρ,dcall,bind,yK,pure,bN]
 .simp[aO,resolve,Cz,hρ,dcall,bind,yK,pure,bN,yA,Bt]
variable {Post:aF->aE->Prop}
theorem zHU {Shun:Loc->Prop}:∀(n:Nat) (g:bE) (w:aE),Goes p true AtRel DC0 (λg w=>J p Post Shun w.heap.size g w) n g w->J p Post Shun w.heap.size g w:=by
 intro n
 induction n with
 |zero=>exact λg w h=>by have:=h w ⟨w.drawn,rfl⟩;exact this
 |succ n ih=>
  intro g w h;rcases h with h|⟨hs,h⟩
  .have:=h w ⟨w.drawn,rfl⟩;exact this
  .refine J.own hs λd=>?_
   obtain⟨zbZ,w',es,hgo,⟨e1,e2⟩,hg⟩:=zmR (h (w.at d) ⟨d,rfl⟩);subst e1 e2;exact⟨zbZ,_,#[],_,hgo,λe he=>by simp at he,bM _,ih _ _ hg⟩
theorem zdK {t:aM}{x:cN}{a:Addr}{v:aF}(hop:o.op=.load t x)(hx:ρ x=.pointer (some a))(zAf:(isAgg t).run p w=.ok false w)(hc:w.cell? a=some v):(aO ρ o).run p w=.ok (.value v) w:=by
 obtain⟨dst,zK,type,pos,after,guard⟩:=o;simp only at hop;subst hop;simp[aO,Instr.loadAt,hx,go_sem,loadVar,zAf,hc]
end
variable {p:cD}{s:Sem aF}{w':aE}{v:aF}
theorem run_bv {w:aE}(h:s.run p w=.ok v w'):bN p (yK s (λv=>Sem.pure (Next.value v))) w=.ok (.value v) w':=by rw[vD,h];rfl
theorem ev_bv {w:aE}{es fE:Array Event}(h:s.run p w=.ok v w')(he:s.events p w es=fE):yA p (yK s (λv=>Sem.pure (Next.value v))) w es=fE:=by rw[zap,h,zkX,he];rfl
section
variable {p:cD}{Post:aF->aE->Prop}{Shun:Loc->Prop}
variable {B:Nat}
theorem J.sil {g g':bE}{w:aE}(hg:g.status=.running)(aX:∀w,stepG p true g w=.go g' w #[])(h:∀d,J p Post Shun B g' (w.at d)):∀d,J p Post Shun B g (w.at d):=λd=>
 J.own hg λd'=>⟨g',w.at d',#[],B,aX _,λe he=>by simp at he,bM _,h d'⟩
def J.opq {b:dV}{a:vX}{ops:Array aZ}{i:Nat}{rest:List Nat}{k:List dZ}{cs:List dV}{w w':aE}{o:aZ}{v:aF}(ho:ops[i]? =some o)(hw:dI o (dL ops a.tmps)=true)(hk:b.kind≠ .early)
 (hr:∀d,(aO a.eval o).run p (w.at d)=.ok (.value v) (w'.at d)) (he:∀d,∀e∈(aO a.eval o).events p (w.at d) #[],False)
 (h:∀d,J p Post Shun B (G (b.at (a.put o.dst v) (.inRegion ops rest::k)) cs) (w'.at d)):∀d,J p Post Shun B (G (b.at a (.inRegion ops (i::rest)::k)) cs) (w.at d):=λd=>
 J.own rfl λd'=>⟨_,w'.at d',wX p b.fn a o (w.at d'),B,stepG_value ho hw hk (hr d'),λe hx=>(he d' e (zhx hx)).elim,bM _,h d'⟩
end
end Go.Mt
namespace Go.Mt
open Go.Conc Go.Tt
structure Blk where
 rb:Nat
 off:Nat
 cs:Array aF
 T:aM
 fz:Nat×Nat
def Sc (v:aF):Prop:=(∃k n,v=.int k n)\/(∃s,v=.string s)\/∃b,v=.bool b
inductive wP:aF->Prop
 |bool (b:Bool):wP (.bool b)
 |int (k:IntKind) (n:Int):wP (.int k n)
 |string (s:ByteArray):wP (.string s)
 |nilFunc:wP .nilFunc
 |nilIface:wP .nilIface
 |agg {xs:Array aF}:(∀(i:Nat) (v:aF),xs[i]? =some v->wP v)->wP (.agg xs)
 |tuple {xs:Array aF}:(∀(i:Nat) (v:aF),xs[i]? =some v->wP v)->wP (.tuple xs)
def thaw (w:aE):Option Blk->aE
 |none=>w
 |some b=>put w b.rb (.cells b.cs b.T b.fz)
section
variable {S:aP->Prop}{K R:Pr}{G:Gp}{St:Nat->Prop}{w W W4:aE}{A:Option Addr}{src:Option Blk}
abbrev P0:Pr:=λ_ _=>False
def stC (w:aE)(a:Nat):Prop:=a=w.heap.size+1\/a=w.heap.size+2\/a=w.heap.size+3
end
section
variable {L:Type}{C:Cx L}{W0:aE}{St:Nat->Prop}{Shun:Loc->Prop}{SS:Nat->Prop}
structure IMX (W0:aE)(St:Nat->Prop)(Shun:Loc->Prop)(Wg:Nat)(SS:Nat->Prop)(R0:Pr)(Fz:Nat->Prop)(Wf:aE)(R:Pr)(τ:cI)(W:aE):Prop where
 im:IM W0 St Shun Wg SS R τ W
 le:R0.le R
 fz:∀b,Fz b->b<W.heap.size/\W.heap[b]? =Wf.heap[b]? /\¬τ.own b/\b≠Wg
structure IX (ty:aM)(Wg:Nat)(I:Pr->cI->aE->Prop):Prop where
 suf:∀R τ W aY,I R τ W->b8 ty Wg τ W aY->I R τ aY
 cell:∀R τ W a v,I R τ W->a.block=Wg->I R τ (W.setCell a v)
 at_:∀R τ W d,I R τ W->I R τ (W.at d)
 rel:∀R τ W,I R τ W->∀a b,R a b->b≠Wg
def zN (ty:aM)(Wg:Nat)(I:Pr->cI->aE->Prop):Pr->cI->aE->Prop:=λR τ W=>I R τ W/\WgLive ty Wg W
variable {R0:Pr}
theorem zsG {ty:aM}{W0:aE}{St:Nat->Prop}{Shun:Loc->Prop}{Wg:Nat}{SS:Nat->Prop}{Fz:Nat->Prop}{Wf:aE}(wD:∀b,b<W0.heap.size->SS b)(hF:∀b,Fz b->SS b)(pG:W0.heap.size<=Wg):IX ty Wg (IMX W0 St Shun Wg SS R0 Fz Wf):=by
 refine⟨λR τ W aY h s=>?_,λR τ W a v h ha=>?_,λR τ W d h=>?_,λR τ W h=>h.im.rel⟩
 .have h0:fI (L:=Unit) ⟨default,λ_=>false,λ_=>false,ty,Wg,⟨λ_=>.wait,λ_ _=>True,λ_=>false,λ_=>True,λ_ _=>True,λ_ _=>[]⟩,λ_ _=>True,true,[],.nil,λ_ _=>False,λ_=>True,IM W0 St Shun Wg SS,[],none,λ_ h=>by cases h⟩:=im_ok rfl (λ_ _=>trivial) wD
  refine⟨h0.suf R τ W aY h.im s,h.le,λb hb=>?_⟩;obtain⟨f1,f2,f3,f4⟩:=h.fz b hb;exact⟨jP f1 s.size,(s.keep b (.inr (by rw[h.im.still];exact hF b hb))).trans f2,f3,f4⟩
 .refine⟨IM.cell h.im pG ha v,h.le,λb hb=>?_⟩
  obtain⟨f1,f2,f3,f4⟩:=h.fz b hb;exact⟨by simp_all,(zcI W a v (by rw[ha];exact f4)).trans f2,f3,f4⟩
 .exact⟨⟨⟨h.im.kp.os,h.im.kp.tape,h.im.kp.output,h.im.kp.size,h.im.kp.block,h.im.kp.old⟩,⟨h.im.sh.old,h.im.sh.rel,h.im.sh.new⟩,h.im.still,h.im.wg,h.im.own,h.im.rel⟩,h.le,h.fz⟩
theorem imx_ok {Fz:Nat->Prop}{Wf:aE}(hC:C.I=zN C.ty C.Wg (IMX W0 St Shun C.Wg SS R0 Fz Wf))(aX:∀a,St a->C.St a)(wD:∀b,b<W0.heap.size->SS b)(hF:∀b,Fz b->SS b)(pG:W0.heap.size<=C.Wg):fI C:=by
 have h0:=im_ok (C:={C with I:=IM W0 St Shun C.Wg SS}) rfl aX wD;have hx:=zsG (ty:=C.ty) (St:=St) (Shun:=Shun) (R0:=R0) (Wf:=Wf) wD hF pG;refine⟨λR τ W aY h s=>?_,λR τ W R1 W1 h ht hs=>?_⟩<;>rw[hC] at*
 .exact⟨hx.suf R τ W aY h.1 s,s.live h.2⟩
 .refine⟨⟨h0.step R τ W R1 W1 h.1.im ht hs,h.1.le.trans hs.le,λb hb=>?_⟩,?_⟩
  .obtain⟨f1,f2,f3,f4⟩:=h.1.fz b hb
   refine⟨jP f1 hs.size,(hs.keep b f1 λa x=>Au λz=>f3 ((ht a _ x).2 z)).trans f2,λe=>e.elim f3 λx=>?_,f4⟩;omega
  .obtain⟨a,b,hl⟩:=h.2
   exact⟨a,b,(hs.keep C.Wg h.1.im.wg λa x=>Au λz=>h.1.im.own _ ((ht a _ x).2 z) rfl).trans hl⟩
end
section
variable {p:cD}{op gs gs₁ fs:aP->Bool}{St:Nat->Prop}{W0:aE}{Post:aF->aE->Prop}
theorem JO.callN (L:Lv p op gs gs₁ fs){m:Fm}{ms:List Fm}{w:aE}{ops:Array aZ}{i:Nat}{rest:List Nat}{k:List dZ}{o:aZ}{f:aP}{args:Array cN}{jW:Array aM}{fn:Func}{c:Code}(hr:m.ret=false)(pZ:m.todo=.inRegion ops (i::rest)::k)
 (ho:ops[i]? =some o) (cG:dI o (dL ops m.tmps)=true) (hop:o.op=.call ⟨.value (.func f),args,jW⟩) (N3:op f=false) (hf:p.funcs[f]? =some fn) (hn:(fn.name== "runtime.NumGoroutine")=false) (hb:fn.body=some c)
 (hJ:JL p op gs fs St W0 Post ⟨f,args.map m.eval++oL (fn.ntmps-(args.map m.eval).size) aA,[.code c],false⟩ (m::ms) w):JL p op gs fs St W0 Post m ms w:=by
 have Er:Fc p f (args.map m.eval)=⟨f,args.map m.eval++oL (fn.ntmps-(args.map m.eval).size) aA,[.code c],false⟩:=by simp[Fc,hf,hb]
 rw[<-Er] at hJ;refine JO.one L.fit rfl (λe=>by rw[hr] at e;cases e) (λT=>((Fc p f (args.map m.eval),m::ms),Tt.tp w T 0)) (λT=>?_) (λT K R y U7=>?_) (λT=>hJ.tape T 0)
 .show(fJ p m ms).run p _=_
  simp only[fJ,hr,iA,if_false,tL,pZ,ho,G7,Cb,cG,if_true];refine(vD p _ _ _).trans ?_;rw[(zgM hop (λg=>rfl) hf hn hb (Tt.tp w T 0)).1];simp only[vW,rP,hf,hb,mF,bN,Er]
 .obtain⟨f',xs,cC,c,c',rest,Nc,h1,h2,h3,h4,_⟩:=U7.ex
  simp only[Prod.mk.injEq] at h4;have h5:=congrArg Fm.fn h4.1;rw[Zi,Zi] at h5;simp_all
end
theorem zwb {S:aP->Prop}:∀(n:Nat) (v:aF),Nd v<n->∃u,wP u/\(∀K R,VR S K R u v)/\(Sc v->u=v):=by
 intro n
 induction n with
 |zero=>intro v h;omega
 |succ n ih=>
  intro v hv;have hj:∀{v:aF},HidV v->(∀k m,v≠ .int k m)->(∀s,v≠ .string s)->(∀b,v≠ .bool b)->∃u,wP u/\(∀K R,VR S K R u v)/\(Sc v->u=v):=λh h1 h2 h3=>
   ⟨.nilFunc,.nilFunc,λK R=>.junk h,λx=>by
    rcases x with⟨k,m,e⟩|⟨s,e⟩|⟨b,e⟩
    .exact absurd e (h1 _ _)
    .exact absurd e (h2 _)
    .exact absurd e (h3 _)⟩
  have rows:∀xs:Array aF,Nd xs<n->∃us:Array aF,us.size=xs.size/\(∀(i:Nat) (u:aF),us[i]? =some u->wP u)/\∀K R,∀(i:Nat) (u v:aF),us[i]? =some u->xs[i]? =some v->VR S K R u v:=λxs hx=>by
   have hex:∀x,∃u,x∈xs->wP u/\∀K R,VR S K R u x:=λx=>by
    by_cases hm:x∈xs
    .obtain⟨u,h1,h2,_⟩:=ih x (Nat.lt_trans (Array.sizeOf_lt_of_mem hm) hx)
     grind
    simp_all
   refine⟨xs.map λx=>(hex x).choose,aQ,λi u h1=>?_,λK R i u v h1 h2=>?_⟩
   .grind
   .grind
  cases v with
  |bool b=>exact⟨_,.bool b,λK R=>.bool b,λ_=>rfl⟩
  |int k m=>exact⟨_,.int k m,λK R=>.int k m,λ_=>rfl⟩
  |string s=>exact⟨_,.string s,λK R=>.string s,λ_=>rfl⟩
  |nilIface=>exact⟨_,.nilIface,λK R=>.nilIface,λ_=>rfl⟩
  |agg xs=>
   obtain⟨us,h1,h3,h2⟩:=rows xs (by simp at hv;omega);exact⟨.agg us,.agg h3,λK R=>.agg h1 (h2 K R),λx=>by rcases x with⟨_,_,e⟩|⟨_,e⟩|⟨_,e⟩<;>cases e⟩
  |tuple xs=>
   obtain⟨us,h1,h3,h2⟩:=rows xs (by simp at hv;omega);exact⟨.tuple us,.tuple h3,λK R=>.tuple h1 (h2 K R),λx=>by rcases x with⟨_,_,e⟩|⟨_,e⟩|⟨_,e⟩<;>cases e⟩
  |_=>exact hj Wx (λ_ _ h=>by cases h) (λ_ h=>by cases h) (λ_ h=>by cases h)
def gv (S:aP->Prop)(v:aF):Value:=(zwb (S:=S) (Nd v+1) v (y4 _)).choose
def zg0 (S:aP->Prop)(v:aF):wP (gv S v)/\(∀K R,VR S K R (gv S v) v)/\(Sc v->gv S v=v):=(zwb (S:=S) (Nd v+1) v (y4 _)).choose_spec
def gObj (S:aP->Prop):Obj->Obj
 | .cells c T fz=>.cells (c.map (gv S)) T (0,max c.size fz.2)
 |_=>pK
def Ed (S:aP->Prop)(X:Nat->Bool)(W:aE):World:={W with heap:=W.heap.mapIdx λi o=>if X i=true then gObj S o else pK}
def R0 (X:Nat->Bool):Pr:=λa b=>a=b/\X a=true
def St0 (X:Nat->Bool):Nat->Prop:=λa=>X a=true
section
variable {S:aP->Prop}{X:Nat->Bool}{W:aE}
theorem zma:(Ed S X W).heap.size=W.heap.size:=by simp[Ed]
theorem zbt {b:Nat}{c:Array aF}{T:aM}{fz:Nat×Nat}(hb:W.heap[b]? =some (.cells c T fz))(hx:X b=true):(Ed S X W).heap[b]? =some (.cells (c.map (gv S)) T (0,max c.size fz.2)):=by
 simp[Ed,Nb,hb,hx,gObj]
theorem zH9:Db (Ed S X W):=by
 intro b c e h;simp only[Ed,Nb,At] at h;obtain⟨o,_,h⟩:=h;split at h
 .cases o<;>simp[gObj,pK] at h
 .simp[pK] at h
theorem zJa {G:Gp}(hX:∀b,X b=true->∃c T fz,W.heap[b]? =some (.cells c T fz))(hT:∀g,G.tab g=true->X g=true)(hG:G.n<=W.heap.size):dB S P0 (R0 X) G (St0 X) (Ed S X W) W:=by
 refine⟨?_,?_,?_,?_,⟨by rw[zma];exact hG,hG⟩,?_,λa b x=>x.elim,?_,zH9,λg hg=>⟨rfl,hT g hg⟩⟩
 .rintro a b c (⟨rfl,_⟩|x) (⟨h1,_⟩|y)
  .exact h1
  .exact y.elim
  .exact x.elim
  .exact x.elim
 .rintro a b c (⟨rfl,_⟩|x) (⟨h1,_⟩|y)
  .exact h1.symm
  .exact y.elim
  .exact x.elim
  .exact x.elim
 .rintro a b (⟨rfl,h⟩|x)
  .obtain⟨c,T,fz,h1⟩:=hX a h
   have:=(eM.1 h1).1;exact⟨by rw[zma];exact this,this⟩
  .exact x.elim
 .rintro a b ⟨rfl,_⟩
  omega
 .rintro a b ⟨rfl,h⟩
  obtain⟨c,T,fz,h1⟩:=hX a h;refine⟨_,_,zbt h1 h,h1,.cells ⟨aQ,λi u v h2 h3=>?_⟩ λo ho=>?_⟩
  .rw[Dw,h3] at h2
   simp only[G7,jQ] at h2;subst h2;exact(zg0 S v).2.1 _ _
  .unfold Lp at ho⊢
   simp only;omega
 .intro a h
  obtain⟨c,T,fz,h1⟩:=hX a h;exact⟨⟨a,rfl,h⟩,_,T,_,zbt h1 h,by grind⟩
theorem zG4 {b o:Nat}{v:aF}(hX:∀b,X b=true->∃c T fz,W.heap[b]? =some (.cells c T fz))(hx:X b=true)(hv:W.cell? ⟨b,o,none⟩=some v)(hp:Sc v):(Ed S X W).cell? ⟨b,o,none⟩=some v:=by
 obtain⟨c,T,fz,h1⟩:=hX b hx;have h2:c[o]? =some v:=by
  have:W.cell? ⟨b,o,none⟩=c[o]? :=by simp[lW,h1]
  rw[<-this];exact hv
 have h3:(Ed S X W).cell? ⟨b,o,none⟩=(c.map (gv S))[o]? :=by
  simp only[lW];rw[zbt h1 hx];rfl
 rw[h3,Dw,h2];simp only[G7,jQ];exact(zg0 S v).2.2 hp
end
theorem zIU {Shun:Loc->Prop}{B:Nat}:Past Shun B #[]:=
 ⟨zjC.clean,λi a h=>by simp[touchAt,Trace.act?] at h,zjC.over,zjC.hears,λop h=>by simp at h⟩
variable {Post:aF->aE->Prop}
theorem J.start {p:cD}{op gs gs₁ fs:aP->Bool}(L:Lv p op gs gs₁ fs){f:aP}{fn:Func}{c:Code}(hg:gs f=true)(N3:op f=false)(hf:p.funcs[f]? =some fn)(hb:fn.body=some c){W:aE}{X:Nat->Bool}{xs args:Array aF}
 (hX:∀b,X b=true->∃c T fz,W.heap[b]? =some (.cells c T fz)) (hT:∀g,Co p g=true->X g=true) (hG:p.globals.size<=W.heap.size) (Hu:bQ (SF fs) P0 (R0 X) xs args)
 (h:JL p op gs fs (St0 X) W Post ⟨f,xs++oL (fn.ntmps-xs.size) aA,[.code c],false⟩ [] (Ed (SF fs) X W)):Ends p Post (solo (G (Ic p f args .normal) []) W) #[]:=by
 obtain⟨fn',c',g1,g2,g3,g4,g5⟩:=L.fit.fn f hg N3;have Q5:=g2;rw[hf] at Q5;obtain rfl:=cS Q5;rw[hb] at g4;obtain rfl:=cS g4;have hJ:J p Post (λ_=>False) W.heap.size (G (Ic p f args .normal) []) W:=by
  rw[zbo hf hb];refine h P0 (R0 X) W ⟨f,args++oL (fn.ntmps-args.size) aA,[.code c],false⟩ [] (λ_=>False) (zJa hX hT hG) ⟨rfl,rfl,rfl,Hu.pad fn.ntmps,λj hj=>?_,⟨fn,fn,hf,hf,rfl,L.fit.res f hg N3 fn hf⟩⟩ .nil ⟨λ_ _ _ _=>id,λ_ _ _ _ _=>id,λ_ _ _ _=>id⟩ ⟨rfl,rfl,rfl,bM _,λ_ _=>rfl,?_⟩
  .simp only[mB,nD,or_false] at hj
   subst hj;exact g5
  .rintro a b ⟨rfl,h⟩ _
   exact h
 rw[solo_eq_crowd];exact hJ #[_] #[] none (λ_=>0) rfl ⟨λi g hi h=>by
  have:=(eM.1 h).1;simp at this;omega,λj _=>rfl⟩ zIU
def Jo (ops:Array aZ):Bool:=
 ((
  iL ops.size).all λi=>match ops[i]? with
  |some oi=>(oi.after.all λe=>!G2 .any e||decide (e.on<i))&&(match oi.op with| .select .. =>false|_=>true)&&
   ((
    iL ops.size).all λj=>match ops[j]? with
    |some oj=>(match oj.dst with
     |some d=>(!(oi.looksAt ops).contains d||oi.after.any λe=>G2 .any e&&e.on==j)&&(i==j||oi.dst !=some d)
     |none=>true)
    |none=>true)
  |none=>true)
structure K6 (ops:Array aZ):Prop where
 bk:∀(i:Nat) (oi:aZ),ops[i]? =some oi->∀e∈oi.after,G2 .any e=true->e.on<i
 sel:∀(i:Nat) (oi:aZ),ops[i]? =some oi->∀cs b,oi.op≠ .select cs b
 rd:∀(i j:Nat) (oi oj:aZ) (d:Tmp),ops[i]? =some oi->ops[j]? =some oj->oj.dst=some d->d∈oi.looksAt ops->∃e∈oi.after,G2 .any e=true/\e.on=j
 dst:∀(i j:Nat) (oi oj:aZ) (d:Tmp),ops[i]? =some oi->ops[j]? =some oj->oi.dst=some d->oj.dst=some d->i=j
variable {ops:Array aZ}
theorem Ss (h:Jo ops=true):K6 ops:=by
 unfold Jo at h;rw[xC] at h;have lt:∀{i:Nat} {oi:aZ},ops[i]? =some oi->i<ops.size:=λh=>(eM.1 h).1
 have h1:∀(i:Nat) (oi:aZ),ops[i]? =some oi->(oi.after.all λe=>!G2 .any e||decide (e.on<i))=true/\(match oi.op with| .select .. =>false|_=>true)=true/\
  ∀(j:Nat) (oj:aZ),ops[j]? =some oj->∀d,oj.dst=some d->((oi.looksAt ops).contains d=false\/(oi.after.any λe=>G2 .any e&&e.on==j)=true)/\(i=j\/oi.dst≠some d):=by
  intro i oi hi;have:=h i (Ei.2 (lt hi));rw[hi] at this;simp only[jB] at this;refine⟨this.1.1,this.1.2,λj oj hj d hd=>?_⟩;have h2:=(xC.1 this.2) j (Ei.2 (lt hj));rw[hj] at h2;simp only[hd,jB,E9,zrI,beq_iff_eq,bne_iff_ne] at h2;exact h2
 refine⟨λi oi hi e he hb=>?_,λi oi hi cs b e=>?_,λi j oi oj d hi hj hd hl=>?_,λi j oi oj d hi hj h2 h3=>?_⟩
 .have:=(h1 i oi hi).1
  rw[ziD] at this
  grind
 .grind
 .grind
 grind
def dM (ops:Array aZ)(vals:Nat->aF)(t0:Array aF):Array Value:=
 (iL ops.size).foldl (λt i=>match(ops[i]?).bind (·.dst) with|some d=>t.setIfInBounds d (vals i)|none=>t) t0
section
variable {ops:Array aZ}{vals:Nat->aF}{t0:Array aF}
structure sN (ops:Array aZ)(vals:Nat->aF)(t0:Array aF)(bU:Array Bool)(t:Array aF):Prop where
 size:t.size=t0.size
 got:∀(i:Nat) (o:aZ) (d:Tmp),ops[i]? =some o->o.dst=some d->d<t0.size->bU.getD i false=true->t[d]? =some (vals i)
 old:∀s:Nat,(∀(i:Nat) (o:aZ),ops[i]? =some o->bU.getD i false=true->o.dst≠some s)->t[s]? =t0[s]?
def sN.start (bU:Array Bool)(h:∀i,bU.getD i false=false):sN ops vals t0 bU t0:=
 ⟨rfl,λi o d _ _ _ hl=>uB,λs _=>rfl⟩
theorem sN.step (K:K6 ops){bU:Array Bool}{t:Array aF}(h:sN ops vals t0 bU t){i:Nat}{o:aZ}(hi:ops[i]? =some o)(hz:bU.size=ops.size)(hu:bU.getD i true=false):
 sN ops vals t0 (bU.setIfInBounds i true) (match o.dst with|some d=>t.setIfInBounds d (vals i)|none=>t):=by
 have Io:i<bU.size:=by rw[hz];exact(eM.1 hi).1
 have Mb:∀j,(bU.setIfInBounds i true).getD j false=if j=i then true else bU.getD j false:=by
  intro j;by_cases e:j=i
  .subst e;simp[Io]
  .rw[if_neg e];exact Qx false (Ne.symm e)
 cases hd:o.dst with
 |none=>
  refine⟨h.size,λj oj d hj Wz zg3 hl=>?_,λs hs=>h.old s λj oj hj hl=>hs j oj hj ?_⟩
  .rw[Mb] at hl
   split at hl
   .simp_all
   .exact h.got j oj d hj Wz zg3 hl
  simp_all
 |some d=>
  refine⟨by simp[h.size],λj oj d' hj Wz zg3 hl=>?_,λs hs=>?_⟩
  .rw[Mb] at hl
   split at hl
   .next e=>
    subst e;rw[hi] at hj;obtain rfl:=cS hj;rw[hd] at Wz;obtain rfl:=cS Wz;simp[zo2,h.size,zg3]
   .next e=>
    have aS:d≠d':=λe2=>e (K.dst j i oj o d' hj hi Wz (by rw[hd,e2]));simp only[tY aS];exact h.got j oj d' hj Wz zg3 hl
  .have aS:d≠s:=λe2=>hs i o hi (by rw[Mb,if_pos rfl]) (by rw[hd,e2])
   simp only[tY aS];exact h.old s λj oj hj hl=>hs j oj hj uB
theorem sN.unique {bU:Array Bool}{t t':Array aF}(h:sN ops vals t0 bU t)(h':sN ops vals t0 bU t'):t=t':=by
 apply zhc;intro s;by_cases hex:∃(i:Nat) (o:aZ),ops[i]? =some o/\bU.getD i false=true/\o.dst=some s
 .obtain⟨i,o,h1,h2,h3⟩:=hex
  by_cases hs:s<t0.size
  .rw[h.got i o s h1 h3 hs h2,h'.got i o s h1 h3 hs h2]
  .rw[Oa (by rw[h.size];omega),Oa (by rw[h'.size];omega)]
 .have hn:∀(i:Nat) (o:aZ),ops[i]? =some o->bU.getD i false=true->o.dst≠some s:=λi o h1 h2 h3=>hex ⟨i,o,h1,h2,h3⟩
  rw[h.old s hn,h'.old s hn]
theorem Rv (K:K6 ops):sN ops vals t0 (oL ops.size true) (dM ops vals t0):=by
 have key:∀n,n<=ops.size->sN ops vals t0 ((N1 ops.size).map (λi=>decide (i<n))) ((iL n).foldl (λt i=>match(ops[i]?).bind (·.dst) with|some d=>t.setIfInBounds d (vals i)|none=>t) t0):=by
  intro n
  induction n with
  |zero=>intro _;exact sN.start _ λi=>by simp;grind
  |succ n ih=>
   intro hn;have h:=ih aC;obtain⟨o,ho⟩:∃o,ops[n]? =some o:=⟨ops[n],qI aC⟩;have hs:=sN.step K h ho aQ (by simp[Array.getElem?_range,show n<ops.size by omega]);rw[List.range_succ,zjS];simp only[Qz,List.foldl_nil,ho,vN];have e:((N1 ops.size).map (λi=>decide (i<n))).setIfInBounds n true=(N1 ops.size).map (λi=>decide (i<n+1)):=by
    apply zhc;intro j;rw[zo2];by_cases hj:j<ops.size
    .grind
    .simp_all
   grind
 have:=key ops.size (bM _);have e:(N1 ops.size).map (λi=>decide (i<ops.size))=oL ops.size true:=by
  apply zhc;intro j;by_cases hj:j<ops.size<;>simp[hj]
 rw[e] at this;exact this
theorem sN.sees (K:K6 ops){bU:Array Bool}{t Tf:Array aF}(h:sN ops vals t0 bU t)(hf:sN ops vals t0 (oL ops.size true) Tf){i:Nat}{o:aZ}(hi:ops[i]? =some o)(uI:∀e∈o.after,G2 .any e=true->bU.getD e.on false=true):
 ∀s∈o.looksAt ops,t[s]? =Tf[s]? :=by
 intro s hs;by_cases hex:∃(j:Nat) (oj:aZ),ops[j]? =some oj/\oj.dst=some s
 .obtain⟨j,oj,hj,hd⟩:=hex
  obtain⟨e,he,hb,rfl⟩:=K.rd i j o oj s hi hj hd hs;have hl:=uI e he hb;have vF:e.on<ops.size:=(eM.1 hj).1;by_cases hz:s<t0.size
  .rw[h.got _ oj s hj hd hz hl,hf.got _ oj s hj hd hz (by simp[vF])]
  .have J1:t0.size<=s:=Nat.le_of_not_lt hz
   rw[Oa (by rw[h.size];exact J1),Oa (by rw[hf.size];exact J1)]
 .have hn:∀(j:Nat) (oj:aZ),ops[j]? =some oj->oj.dst≠some s:=λj oj hj hd=>hex ⟨j,oj,hj,hd⟩
  rw[h.old s (λj oj hj _=>hn j oj hj),hf.old s (λj oj hj _=>hn j oj hj)]
end
variable {t t':Array aF}
theorem zCh {x:cN}(h:∀s,x=.tmp s->t[s]? =t'[s]?):(bL t []).eval x=(bL t' []).eval x:=by
 cases x with
 |tmp s=>
  have:=h s rfl;show t.getD s aA=t'.getD s aA;simp_all
 |_=>rfl
variable {o:aZ}
theorem Fs (hs:∀cs b,o.op≠ .select cs b)(h:∀s∈o.looksAt ops,t[s]? =t'[s]?):aO (bL t []).eval o=aO (bL t' []).eval o:=
 execOp_congr o hs λx hx=>zCh λs e=>h s (by
  subst e;exact List.mem_append_left _ (List.mem_filterMap.2 ⟨.tmp s,by simpa using hx,rfl⟩))
theorem X3 (h:∀s∈o.looksAt ops,t[s]? =t'[s]?):dI o (dL ops t)=dI o (dL ops t'):=by
 unfold dI
 cases hg:o.guard with
 |none=>rfl
 |some gw=>
  obtain⟨g,want⟩:=gw;have hy:dL ops t g=dL ops t' g:=by
   unfold dL
   cases ht:(ops[g]?).bind (·.dst) with
   |none=>rfl
   |some s=>
    have:=h s (by simp[aZ.looksAt,hg,ht]);simp_all
  simp only[hy]
section
variable {p:cD}{op gs gs₁ fs:aP->Bool}{St:Nat->Prop}{W0:aE}{Post:aF->aE->Prop}
theorem zuh {ops:Array aZ}(K:K6 ops){bU:Array Bool}(hz:bU.size=ops.size)(h:Hv .any ops bU=[]):∀i,i<ops.size->bU.getD i false=true:=by
 intro i
 induction i using zbl with
 |ind i ih=>
  intro hi;obtain⟨o,ho⟩:∃o,ops[i]? =some o:=⟨ops[i],qI hi⟩
  cases hl:bU.getD i false with
  |true=>rfl
  |false=>
   have hm:i∈Hv .any ops bU:=zlY.2 ⟨by
    have Io:i<bU.size:=aC;simp[Io] at hl⊢;exact hl,o,ho,λe he hb=>ih e.on (K.bk i o ho e he hb) (by have:=K.bk i o ho e he hb;omega)⟩
   rw[h] at hm;cases hm
end
abbrev xO (Tf:Array aF)(V:Nat->aF):Prop:=∀s,Tf.getD s aA=V s
def Hk (ops:Array aZ)(s:Nat):Bool:=ops.any λo=>o.dst==some s
def valV (V:Nat->aF)(o:aZ):Value:=match o.dst with|some d=>V d|none=>aA
theorem zl1 {i:Nat}{d:Tmp}(h:ops[i]? =some o)(hd:o.dst=some d):Hk ops d=true:=by
 unfold Hk
 grind
section
variable {ops:Array aZ}{Tf:Array aF}{V:Nat->aF}{o og:aZ}{j d:Nat}{want b:Bool}
theorem eJ (h:o.guard=none){y:Nat->Option Bool}:dI o y=true:=by unfold dI;rw[h]
end
theorem zIQ {n:Nat}(h2:(ops.all λo=>match o.dst with|some d=>decide (d<n)|none=>true)=true):∀s,Hk ops s=true->s<n:=by
 intro s hs;unfold Hk at hs
 grind
def oE {Tf:Array aF}{V:Nat->aF}(hT:xO Tf V){s:Nat}{v:aF}(hv:V s=v):(bL Tf []).eval (.tmp s)=v:=((hT s).trans hv)
section
variable {p:cD}{ρ:cN->aF}{o:aZ}{w:aE}
variable {A:Option Addr}{t:aM}
theorem ztB {x:cN}{n c:Nat}{e:aM}(ho:o.op=.call ⟨.builtin .len,#[x],#[t]⟩)(hu:p.underlying t=some (.slice e))(hx:ρ x=.slice A n c):(aO ρ o).run p w=.ok (.value (.int .i64 n)) w:=by
 have Od:∀w,(underlying t).run p w=.ok (.slice e) w:=λw=>by simp[underlying,program,bN,bind,yK,pure,hu]
 unfold aO;rw[ho];simp[go_sem,hx,Od,Builtin.len_,vW]
theorem zb1 {s x:cN}{a b v:aF}{w':aE}(ho:o.op=.call ⟨.builtin .append,#[s,x],#[t,t]⟩)(hs:ρ s=a)(hx:ρ x=b)(hr:(xR #[t,t] o.type #[a,b]).run p w=.ok v w'):(aO ρ o).run p w=.ok (.value v) w':=by
 unfold aO;simp only[ho,resolve,invoke,builtin,Sem.run_bind,Sem.run_pure,Result.andThen_ok,List.map_toArray,jO,List.map_nil,hs,hx,hr]
end
def AllL (Q:Nat->aZ->Prop):Nat->List aZ->Prop
 |_,[]=>True
 |i,o::l=>Q i o/\AllL Q (i+1) l
variable {Q:Nat->aZ->Prop}
theorem zwP :∀(l:List aZ) (k:Nat),AllL Q k l->∀(i:Nat) (o:aZ),l[i]? =some o->Q (k+i) o
 |[],k,h,i,o,e=>by simp at e
 |x::l,k,h,0,o,e=>by simp at e;subst e;exact h.1
 |x::l,k,h,i+1,o,e=>by
  have:=zwP l (k+1) h.2 i o (by simpa using e)
  grind
theorem Ka {l:List aZ}(hl:ops.toList=l)(h:AllL Q 0 l):∀(i:Nat) (o:aZ),ops[i]? =some o->Q i o:=λi o e=>by
 have:=zwP l 0 h i o (by rw[<-hl,C3];exact e);simp_all
def yF (vals:Nat->aF):List (Option Tmp)->Nat->List aF->List aF
 |[],_,t=>t
 |none::l,i,t=>yF vals l (i+1) t
 |some d::l,i,t=>yF vals l (i+1) (t.set d (vals i))
theorem Cq (ops:Array aZ)(vals:Nat->aF)(t0:List aF):dM ops vals t0.toArray=(yF vals (ops.toList.map (·.dst)) 0 t0).toArray:=by
 have key:∀(l:List aZ) (k:Nat) (t:List aF),(∀i,l[i]? =ops[k+i]?)->
  (List.range' k l.length).foldl (λt i=>match(ops[i]?).bind (·.dst) with|some d=>t.setIfInBounds d (vals i)|none=>t) t.toArray=(yF vals (l.map (·.dst)) k t).toArray:=by
  intro l
  induction l with
  |nil=>intro k t _;rfl
  |cons o l ih=>
   intro k t h;have h0:=h 0;simp at h0;rw[uV,List.range'_succ,Qz,<-h0];simp only[vN,jO];have h1:∀i,l[i]? =ops[k+1+i]? :=λi=>by have:=h (i+1);simp at this;rw[this];congr 1;omega
   cases hd:o.dst with
   |none=>exact ih (k+1) t h1
   |some d=>
    simp only[List.setIfInBounds_toArray];exact ih (k+1) _ h1
 have:=key ops.toList 0 t0 (λi=>by simp);unfold dM;rw[List.range_eq_range',<-Array.length_toList];exact this
def G9 (o:aZ)(j:Nat):Bool:=o.after.any λe=>G2 .any e&&e.on==j
def Jc (ops:Array aZ):List Nat->Bool
 |a::b::l=>(match ops[b]? with|some o=>G9 o a|none=>false)&&Jc ops (b::l)
 |[a]=>decide (a<ops.size)
 |[]=>true
def zaG (ops:Array aZ):Nat->aZ->Nat->Bool
 |0,o,j=>G9 o j
 |n+1,o,j=>G9 o j||o.after.any λe=>G2 .any e&&(match ops[e.on]? with|some o'=>zaG ops n o' j|none=>false)
def zbi (ops:Array aZ)(ws:List Nat)(i k:Nat):Bool:=
 (ws.take k).all (λj=>match ops[j]? with|some o=>!zaG ops 5 o i|none=>true)&&(ws.drop k).all (λj=>match ops[i]? with|some o=>!G9 o j|none=>true)
inductive bX (P:cD)(ops:Array aZ)(ws:List Nat)(Wd:Nat->aE)(Tf:Array aF)(i:Nat)(o:aZ)(v:aF):Prop
 |no (hn:i∉ws) (h:dI o (dL ops Tf)=false) (hv:v=aA)
 |val (hn:i∉ws) (h:dI o (dL ops Tf)=true) (hx:∀k,k<=ws.length->zbi ops ws i k=true->(aO (bL Tf []).eval o).run P (Wd k)=.ok (.value v) (Wd k))
 |act (k:Nat) (hk:ws[k]? =some i) (h:dI o (dL ops Tf)=true) (hx:(aO (bL Tf []).eval o).run P (Wd k)=.ok (.value v) (Wd (k+1)))
 |skp (k:Nat) (hk:ws[k]? =some i) (h:dI o (dL ops Tf)=true) (hv:v=aA) (hx:(aO (bL Tf []).eval o).run P (Wd k)=.ok .skip (Wd (k+1)))
 |actn (k:Nat) (hk:ws[k]? =some i) (h:dI o (dL ops Tf)=true) (hd:o.dst=none) (u:aF) (hx:(aO (bL Tf []).eval o).run P (Wd k)=.ok (.value u) (Wd (k+1)))
section
variable {P:cD}{ops:Array aZ}{ws:List Nat}{Wd:Nat->aE}{Q:Exit->vX->aE->Prop}{t0 Tf:Array aF}{vals:Nat->aF}
structure J2 (ops:Array aZ)(ws:List Nat)(bU:Array Bool)(k:Nat):Prop where
 closed:∀(i:Nat) (o:aZ),ops[i]? =some o->bU.getD i false=true->∀j,G9 o j=true->bU.getD j false=true
 le:k<=ws.length
 pre:∀(n i:Nat),ws[n]? =some i->(bU.getD i false=true↔n<k)
theorem J2.closedT {bU:Array Bool}{k:Nat}(h:J2 ops ws bU k):∀(n:Nat) (i:Nat) (o:aZ),ops[i]? =some o->bU.getD i false=true->∀j,zaG ops n o j=true->bU.getD j false=true
 |0,i,o,hi,hl,j,hj=>h.closed i o hi hl j hj
 |n+1,i,o,hi,hl,j,hj=>by
  simp only[zaG,E9] at hj;rcases hj with hj|hj
  .exact h.closed i o hi hl j hj
  .rw[zgv] at hj
   obtain⟨x,hx,h3⟩:=hj;simp only[jB] at h3;obtain⟨h4,h5⟩:=h3;split at h5
   .next o' y9=>
    refine h.closedT n _ o' y9 (h.closed i o hi hl _ ?_) j h5;unfold G9;rw[zgv];exact⟨x,hx,by simp[h4]⟩
   .cases h5
theorem zn4:∀{ws:List Nat},Jc ops ws=true->∀(n a b:Nat),ws[n]? =some a->ws[n+1]? =some b->∃o,ops[b]? =some o/\G9 o a=true
 |[],_,n,a,b,h,_=>by simp at h
 |[x],_,n,a,b,h,h'=>by simp at h'
 |x::y::l,hc,0,a,b,h,h'=>by
  simp at h h';subst h h';simp only[Jc,jB] at hc
  grind
 |x::y::l,hc,n+1,a,b,h,h'=>by
  simp only[Jc,jB] at hc;exact zn4 hc.2 n a b zcB (by simpa using h')
theorem zw2 {l:Array Bool}{i:Nat}(h:l.getD i true=false):l.getD i false=false:=by grind
theorem J2.keep {bU:Array Bool}{k i:Nat}{o:aZ}(h:J2 ops ws bU k)(hi:ops[i]? =some o)(hn:i∉ws)(hd:∀j,G9 o j=true->bU.getD j false=true):J2 ops ws (bU.setIfInBounds i true) k:=by
 have mono:∀j,bU.getD j false=true->(bU.setIfInBounds i true).getD j false=true:=λj hj=>by
  by_cases e:j=i
  .subst e
   rw[x4] at hj⊢
   cases e2:bU[j]? with
   |none=>rw[e2] at hj;cases hj
   |some x=>have:j<bU.size:=(eM.1 e2).1;simp[this]
  .rw[Qx false (Ne.symm e)];exact hj
 refine⟨λa oa ha hl j hj=>?_,h.le,λn a ha=>?_⟩
 .by_cases e:a=i
  .subst e
   rw[hi] at ha;obtain rfl:=cS ha;exact mono j (hd j hj)
  .rw[Qx false (Ne.symm e)] at hl
   exact mono j (h.closed a oa ha hl j hj)
 .have e:a≠i:=λe=>hn (e▸eI ha)
  rw[Qx false (Ne.symm e)];exact h.pre n a ha
theorem J2.next {bU:Array Bool}{k n i:Nat}{o:aZ}(lD:ws.Nodup)(hc:Jc ops ws=true)(h:J2 ops ws bU k)(hi:ops[i]? =some o)(hz:i<bU.size)(hn:ws[n]? =some i)(hu:bU.getD i false=false)(hd:∀j,G9 o j=true->bU.getD j false=true):
 n=k/\J2 ops ws (bU.setIfInBounds i true) (k+1):=by
 have pI:n<ws.length:=(lX.1 hn).1;have hk:n=k:=by
  have h1:¬n<k:=λx=>by have:=(h.pre n i hn).2 x;rw[hu] at this;cases this
  rcases uR k n with x|x
  .exfalso
   obtain⟨m,rfl⟩:∃m,n=m+1:=⟨n-1,aC⟩;obtain⟨a,ha⟩:∃a,ws[m]? =some a:=⟨ws[m],oQ aC⟩;obtain⟨o',y9,hw⟩:=zn4 hc m a i ha hn;rw[hi] at y9;obtain rfl:=cS y9;have:=(h.pre m a ha).1 (hd a hw);omega
  .omega
 subst hk;have mono:∀j,bU.getD j false=true->(bU.setIfInBounds i true).getD j false=true:=λj hj=>by
  by_cases e:j=i
  .subst e;simp[hz]
  .rw[Qx false (Ne.symm e)];exact hj
 refine⟨rfl,λa oa ha hl j hj=>?_,aC,λm a ha=>?_⟩
 .by_cases e:a=i
  .subst e
   rw[hi] at ha;obtain rfl:=cS ha;exact mono j (hd j hj)
  .rw[Qx false (Ne.symm e)] at hl
   exact mono j (h.closed a oa ha hl j hj)
 .by_cases e:a=i
  .subst e
   have hm:m=n:=by
    have h1:m<ws.length:=(lX.1 ha).1;have e1:=(lX.1 ha).2;have e2:=(lX.1 hn).2;exact(List.getElem_inj lD).1 (e1.trans e2.symm)
   subst hm;simp[hz]
  .have hm:m≠n:=λx=>e (by subst x;rw[hn] at ha;exact(cS ha).symm)
   rw[Qx false (Ne.symm e),h.pre m a ha];omega
theorem zCo (t:Array aF)(d:List Gv):(bL t d).eval=(bL t []).eval:=by funext x;cases x<;>rfl
theorem zta (K:K6 ops):∀{ws:List Nat},Jc ops ws=true->∀(n i:Nat),ws[n]? =some i->i<ops.size
 |[],_,n,i,hi=>by simp at hi
 |[a],hc,0,i,hi=>by simp at hi;subst hi;simpa[Jc] using hc
 |[a],hc,n+1,i,hi=>by simp at hi
 |a::b::l,hc,0,i,hi=>by
  simp at hi;subst hi;obtain⟨o,h1,h2⟩:=zn4 hc 0 a b rfl rfl;unfold G9 at h2;rw[zgv] at h2;obtain⟨x,hx,h3⟩:=h2;simp only[jB,beq_iff_eq] at h3;have:=K.bk b o h1 _ (zxx hx) h3.1
  grind
 |a::b::l,hc,n+1,i,hi=>by
  simp only[Jc,jB] at hc;exact zta K hc.2 n i zhl
theorem zHL (K:K6 ops)(lD:ws.Nodup)(hc:Jc ops ws=true)(hT:sN ops vals t0 (oL ops.size true) Tf){d:List Gv}
 (hop:∀(i:Nat) (o:aZ),ops[i]? =some o->bX P ops ws Wd Tf i o (vals i)) (hk:Q .normal ⟨Tf,d⟩ (Wd ws.length)):
 ∀(fuel:Nat) (bU:Array Bool) (t:Array aF) (k:Nat),bU.size=ops.size->((iL ops.size).filter λi=>!bU.getD i false).length<=fuel->sN ops vals t0 bU t->J2 ops ws bU k->
  wpAny P .any ops Q fuel bU ⟨t,d⟩ (Wd k):=by
 have zBt:=zta K hc;have fin:∀(bU:Array Bool) (t:Array aF) (k:Nat),bU.size=ops.size->(∀i,i<ops.size->bU.getD i false=true)->sN ops vals t0 bU t->J2 ops ws bU k->Q .normal ⟨t,d⟩ (Wd k):=by
  intro bU t k hz sZ hm aX;have e:bU=oL ops.size true:=by
   apply zhc;intro j;by_cases hj:j<ops.size
   .have:=sZ j hj
    have vF:j<bU.size:=aC;simp[vF] at this;simp[hj,vF,this]
   .rw[Oa aC,Oa pD]
  subst e;have e2:=hm.unique hT;subst e2;have e3:k=ws.length:=by
   rcases uR k ws.length with x|x
   .have h1:ws[k]? =some ws[k]:=oQ x
    have:=(aX.pre k _ h1).1 (sZ _ (zBt k _ h1));omega
   .have:=aX.le;omega
  rw[e3];exact hk
 intro fuel
 induction fuel with
 |zero=>
  intro bU t k hz Y6 hm aX;have sZ:∀i,i<ops.size->bU.getD i false=true:=λi hi=>by
   cases hl:bU.getD i false with
   |true=>rfl
   |false=>
    have:i∈(iL ops.size).filter λi=>!bU.getD i false:=Mg.2 ⟨Ei.2 hi,by rw[hl];rfl⟩;have:=List.length_pos_of_mem this;omega
  refine⟨?_,fin bU t k hz sZ hm aX⟩;apply List.eq_nil_iff_forall_not_mem.2;intro i hi;obtain⟨hu,o,ho,_⟩:=zlY.1 hi;have:=sZ i (eM.1 ho).1;rw[zw2 hu] at this;cases this
 |succ fuel ih=>
  intro bU t k hz Y6 hm aX;refine⟨λhr=>fin bU t k hz (zuh K hz hr) hm aX,λi hi=>?_⟩;obtain⟨hu,o,ho,uI⟩:=zlY.1 hi;have Od:=zw2 hu;have mI:=hm.sees K hT ho uI;have Xp:=hm.step K ho hz hu;have Io:i<ops.size:=(eM.1 ho).1;have hw:∀j,G9 o j=true->bU.getD j false=true:=λj hj=>by
   unfold G9 at hj;rw[zgv] at hj;obtain⟨x,hx,h3⟩:=hj;simp only[jB,beq_iff_eq] at h3;have:=uI _ (zxx hx) h3.1
   rwa [h3.2] at this
  have zES:((iL ops.size).filter λj=>!(bU.setIfInBounds i true).getD j false).length<=fuel:=by
   have aT:((iL ops.size).filter λj=>!(bU.setIfInBounds i true).getD j false).length<((iL ops.size).filter λj=>!bU.getD j false).length:=by
    have e:((iL ops.size).filter λj=>!(bU.setIfInBounds i true).getD j false)=((iL ops.size).filter λj=>!bU.getD j false).filter (λj=>j !=i):=by
     rw[List.filter_filter];apply List.filter_congr;intro j hj;by_cases e:j=i
     .subst e
      have:j<bU.size:=aC;simp[this]
     .rw[Qx false (Ne.symm e)]
      simp[e]
    rw[e];refine List.length_filter_lt_length_iff_exists.2 ⟨i,Mg.2 ⟨Ei.2 Io,?_⟩,aQ⟩;rw[Od];rfl
   omega
  have put_eq:∀v,(cE ⟨t,d⟩ o.dst v)=⟨(match o.dst with|some s=>t.setIfInBounds s v|none=>t),d⟩:=λv=>by
   unfold cE;cases o.dst<;>rfl
  have goon:∀k',J2 ops ws (bU.setIfInBounds i true) k'->wpAny P .any ops Q fuel (bU.setIfInBounds i true) (cE ⟨t,d⟩ o.dst (vals i)) (Wd k'):=λk' Ol=>by
   rw[put_eq];exact ih _ _ k' (by simp[hz]) zES Xp Ol
  have nH:(bL t d).eval=(bL t []).eval:=zCo t d;unfold wpOp;simp only[ho];rcases hop i o ho with⟨hn,h1,h2⟩|⟨hn,h1,h2⟩|⟨n,hn,h1,h2⟩|⟨n,hn,h1,hv,h2⟩|⟨n,hn,h1,hd,u,h2⟩
  .rw[if_neg (by rw[(X3 mI).trans h1];simp),<-h2]
   exact goon k (aX.keep ho hn hw)
  .rw[if_pos ((X3 mI).trans h1)]
   refine .inl ?_;have zzg:zbi ops ws i k=true:=by
    unfold zbi;rw[jB,xC,xC];refine⟨λj hj=>?_,λj hj=>?_⟩
    .obtain⟨m,sG⟩:=zyM hj
     rw[List.getElem?_take] at sG;split at sG
     .next zfr=>
      split
      .next oj hoj=>
       cases hq:zaG ops 5 oj i with
       |false=>rfl
       |true=>
        have:=aX.closedT 5 j oj hoj ((aX.pre m j sG).2 zfr) i hq;rw[Od] at this;cases this
      .rfl
     .cases sG
    .obtain⟨m,sG⟩:=zyM hj
     rw[List.getElem?_drop] at sG;simp only[ho]
     cases hq:G9 o j with
     |false=>rfl
     |true=>
      have:=(aX.pre (k+m) j sG).1 (hw j hq);omega
   show o.upon P ⟨t,d⟩ _ Q ((aO (bL t d).eval o).run P (Wd k));rw[nH,Fs (K.sel i o ho) mI,h2 k aX.le zzg];exact goon k (aX.keep ho hn hw)
  .rw[if_pos ((X3 mI).trans h1)]
   refine .inl ?_;obtain⟨rfl,Ol⟩:=aX.next lD hc ho aC hn Od hw;show o.upon P ⟨t,d⟩ _ Q ((aO (bL t d).eval o).run P (Wd n));rw[nH,Fs (K.sel i o ho) mI,h2];exact goon _ Ol
  .rw[if_pos ((X3 mI).trans h1)]
   refine .inl ?_;obtain⟨rfl,Ol⟩:=aX.next lD hc ho aC hn Od hw;show o.upon P ⟨t,d⟩ _ Q ((aO (bL t d).eval o).run P (Wd n));rw[nH,Fs (K.sel i o ho) mI,h2];have:=goon _ Ol;rw[hv] at this;exact this
  .rw[if_pos ((X3 mI).trans h1)]
   refine .inl ?_;obtain⟨rfl,Ol⟩:=aX.next lD hc ho aC hn Od hw;show o.upon P ⟨t,d⟩ _ Q ((aO (bL t d).eval o).run P (Wd n));rw[nH,Fs (K.sel i o ho) mI,h2];have:=goon _ Ol;have e:∀x y,cE ⟨t,d⟩ o.dst x=cE ⟨t,d⟩ o.dst y:=λx y=>by rw[hd];rfl
   rw[e _ u] at this;exact this
theorem zDa {id:Nat}{w:aE}{d:List Gv}(hm:P.follows .mixedOrders=true)(bV:Jo ops=true)(lD:ws.Nodup)(hc:Jc ops ws=true)(h0:Wd 0={w with drawn:=w.drawn+1})(hT:dM ops vals t0=Tf)
 (hop:∀(i:Nat) (o:aZ),ops[i]? =some o->bX P ops ws Wd Tf i o (vals i)) (hk:Q .normal ⟨Tf,d⟩ (Wd ws.length)):(Code.region id ops true).wp P Q ⟨t0,d⟩ w:=by
 refine wp_region_any hm ?_;have K:=Ss bV;subst hT;rw[<-h0];refine zHL K lD hc (Rv K) hop hk ops.size _ t0 0 aQ (eE (zdA _ _) aQ) (sN.start _ λi=>by by_cases hi:i<ops.size<;>simp[hi]) ⟨λi o _ hl=>?_,lU _,λn i hn=>?_⟩
 .exfalso
  by_cases hi:i<ops.size<;>simp[hi] at hl
 .constructor
  .intro hl
   exfalso;by_cases hi:i<ops.size<;>simp[hi] at hl
  .intro x;omega
theorem Ix {id:Nat}{w:aE}{d:List Gv}(hm:P.follows .mixedOrders=true)(bV:Jo ops=true)(lD:ws.Nodup)(hc:Jc ops ws=true)(h0:Wd 0={w with drawn:=w.drawn+1})(cP:∀s,Hk ops s=true->s<t0.size)
 (h:∀V:Nat->aF,(∀(i:Nat) (o:aZ) (d:Tmp),ops[i]? =some o->o.dst=some d->V d=vals i)->(∀s,Hk ops s=false->V s=t0.getD s aA)->
  ∀Tf,xO Tf V->∀(i:Nat) (o:aZ),ops[i]? =some o->bX P ops ws Wd Tf i o (valV V o)) (hk:Q .normal ⟨dM ops vals t0,d⟩ (Wd ws.length)):(Code.region id ops true).wp P Q ⟨t0,d⟩ w:=by
 have K:=Ss bV;have M:=Rv (vals:=vals) (t0:=t0) K
 let Tf:=dM ops vals t0
 have zlD:∀(i:Nat) (o:aZ) (d:Tmp),ops[i]? =some o->o.dst=some d->Tf.getD d aA=vals i:=λi o d h1 h2=>by
  have Io:i<ops.size:=(eM.1 h1).1;rw[x4,M.got i o d h1 h2 (cP d (zl1 h1 h2)) (by simp[Io])];rfl
 have zpB:∀s,Hk ops s=false->Tf.getD s aA=t0.getD s undef:=λs hs=>by
  rw[x4,M.old s (λi o h1 _ h2=>by rw[zl1 h1 h2] at hs;cases hs),x4]
 have hop:=h (λs=>Tf.getD s aA) zlD zpB Tf (λs=>rfl)
 let zaL:Nat->Value:=λi=>match ops[i]? with|some o=>valV (λs=>Tf.getD s aA) o|none=>aA
 have e:dM ops zaL t0=dM ops vals t0:=by
  refine(Rv (vals:=zaL) K).unique ⟨M.size,λi o d h1 h2 h3 h4=>?_,M.old⟩;rw[M.got i o d h1 h2 h3 h4];show some (vals i)=some (match ops[i]? with|some o=>valV (λs=>Tf.getD s aA) o|none=>aA);rw[h1];simp only[valV,h2];rw[zlD i o d h1 h2]
 refine zDa hm bV lD hc h0 e (λi o h1=>?_) hk
 grind
end
end Go.Mt
namespace Go.Mt
open Go.Conc Go.Tt Go.RowKit
section
variable {P:cD}{ops:Array aZ}{ws:List Nat}{Wd:Nat->aE}{Tf:Array aF}{V:Nat->aF}{i d:Nat}{o:aZ}{v:aF}
theorem bX.pv (hn:i∉ws:=by decide)(h:dI o (dL ops Tf)=true:=by exact eJ rfl)(hv:V d=v:=by assumption)
 (hx:∀w,(aO (bL Tf []).eval o).run P w=.ok (.value v) w:=by intro w;unfold execOp;go_simp):bX P ops ws Wd Tf i o (V d):=hv▸ .val hn h λ_ _ _=>hx _
def early (ops:Array aZ)(ws:List Nat)(i:Nat):Bool:=(iL ws.length).all λk=>!zbi ops ws i (k+1)
theorem bX.ld {w0:aE}(h0:Wd 0=w0:=by assumption)(hn:i∉ws:=by decide)(h:dI o (dL ops Tf)=true:=by exact eJ rfl)(hv:V d=v:=by assumption)(hm:early ops ws i=true:=by decide+kernel)
 (hx:(aO (bL Tf []).eval o).run P w0=.ok (.value v) w0:=by unfold execOp;go_simp):bX P ops ws Wd Tf i o (V d):=hv▸ .val hn h λk hk zfr=>by
 rcases k with _|k
 .rw[h0];exact hx
 .have:=xC.1 hm k (Ei.2 aC)
  rw[zfr] at this;cases this
theorem bX.any (hx:∀k,k<=ws.length->zbi ops ws i k=true->(aO (bL Tf []).eval o).run P (Wd k)=.ok (.value v) (Wd k))(hn:i∉ws:=by decide)(h:dI o (dL ops Tf)=true:=by exact eJ rfl)(hv:V d=v:=by assumption):bX P ops ws Wd Tf i o (V d):=
 hv▸ .val hn h hx
def zipV (V:Nat->aF):List (Option Nat)->List aF->Prop
 |some d::D,v::l=>V d=v/\zipV V D l
 |none::D,_::l=>zipV V D l
 |_,_=>True
theorem zon:∀(D:List (Option Nat)) (l:List aF),(∀(i:Nat) (d:Nat),D[i]? =some (some d)->i<l.length->V d=l.getD i aA)->zipV V D l
 |some d::D,v::l,h=>⟨h 0 d rfl aQ,zon D l λi d' e hi=>by simpa using h (i+1) d' (by simpa using e) zhl⟩
 |none::D,_::l,h=>zon D l λi d' e hi=>by simpa using h (i+1) d' (by simpa using e) zhl
 |[],_,_=>trivial
 |some _::_,[],_=>trivial
 |none::_,[],_=>trivial
theorem Iy {l:List aF}{D:List (Option Nat)}(hD:ops.toList.map (·.dst)=D)(hU:∀(i:Nat) (o:aZ) (d:Tmp),ops[i]? =some o->o.dst=some d->V d=l.getD i aA):zipV V D l:=
 zon D l λi d e _=>by
  rw[<-hD,List.getElem?_map] at e;obtain⟨o,h1,h2⟩:=At.1 e;exact hU i o d (by rw[<-C3];exact h1) h2
end
end Go.Mt
namespace Go.Proofs.YtfcjiloojkjaeaaGreatDoor
open Go.RowKit Go.Mt Go.Conc Go.Tt Go.Maps
def bodyRG:Go.Code:=(Tryz.f63.body).getD .skip
def rRG7:Go.Code:=match bodyRG with| .seq _ (.seq _ (.seq _ (.seq (a) _)))=>a|_=>.skip
def zW:Array Oper:=match rRG7 with| .region _ ops _=>ops|_=>#[]
def zqB:zW.toList=[aV zW 0 (some 36) (.fieldAddr 59 (.tmp 2) 2),aV zW 1 (some 37) (.load 45 (.tmp 36)),aV zW 2 (some 38) (.fieldAddr 100 (.tmp 3) 0),aV zW 3 (some 39) (.load 3 (.tmp 38)),aV zW 4 (some 40) (.move (.tmp 6)),aV zW 5 (some 41) (.indexAddr 38 (.tmp 40) (.const (.int .i64 0))),aV zW 6 (some 42) (.load 3 (.tmp 41)),aV zW 7 (some 43) (.fieldAddr 59 (.tmp 2) 1),aV zW 8 (some 44) (.load 3 (.tmp 43)),aV zW 9 (some 45) (.build 50 #[(0,.tmp 39),(1,.tmp 42),(3,.tmp 44),(4,.const (.int .i64 (-1))),(5,.const (.int .i64 (-1))),(6,.const (.string {data:=#[111,112,101,110]}))]),aV zW 10 (some 46) (.buildSlice 45 1 #[(0,.tmp 45)]),aV zW 11 (some 47) (.call ⟨.builtin .append,#[.tmp 37,.tmp 46],#[45,45]⟩),aV zW 12 (some 48) (.fieldAddr 59 (.tmp 2) 2),aV zW 13 none (.store 45 (.tmp 48) (.tmp 47))]:=rfl
def WRG7 (w w3:aE)(gb gf gR nR cR g1 c1 nf cf:Nat)(cc l clk:Int):Nat->aE
 |0=>w.drew
 |1=>(w.alloc (.cells #[.int .i64 cc,.int .i64 l,.int .i64 0,.int .i64 clk,.int .i64 (-1),.int .i64 (-1),.string eP] 50)).drew
 |2=>w3
 |_=>w3.setCell ⟨gb,4,none⟩ (.slice (some ⟨g1,0,none⟩) (nR+1) c1)
theorem zuw:zW.toList.map (·.dst)=[some 36,some 37,some 38,some 39,some 40,some 41,some 42,some 43,some 44,some 45,some 46,some 47,some 48,none]:=by rw[zqB];rfl
def lRG7 (w w3:aE)(gb gf gR nR cR g1 c1 nf cf:Nat)(cc l clk:Int):List Value:=[.pointer (some ⟨gb,4,none⟩),.slice (some ⟨gR,0,none⟩) nR cR,.pointer (some ⟨gb+1,0,none⟩),.int .i64 (cc),.slice (some ⟨gf,0,none⟩) nf cf,.pointer (some ⟨gf,0,none⟩),.int .i64 (l),.pointer (some ⟨gb,3,none⟩),.int .i64 (clk),.agg #[.int .i64 cc,.int .i64 l,.int .i64 0,.int .i64 clk,.int .i64 (-1),.int .i64 (-1),.string eP],.slice (some ⟨w.heap.size,0,none⟩) 1 1,.slice (some ⟨g1,0,none⟩) (nR+1) c1,.pointer (some ⟨gb,4,none⟩),aA]
def fRG7 (w w3:aE)(gb gf gR nR cR g1 c1 nf cf:Nat)(cc l clk:Int)(i:Nat):Value:=(lRG7 w w3 gb gf gR nR cR g1 c1 nf cf cc l clk).getD i aA
variable {Q:Exit->vX->aE->Prop}{d:List Gv}{t0:Array aF}
theorem wp_RG7 (w w3:aE)(gb gf gR nR cR g1 c1 nf cf:Nat)(cc l clk:Int)(hz:t0.size=60)(S3:t0.getD 2 aA=.pointer (some ⟨gb,0,none⟩))(znJ:t0.getD 3 aA=.pointer (some ⟨gb+1,0,none⟩))(zcE:t0.getD 6 aA=.slice (some ⟨gf,0,none⟩) nf cf)(h3:w.cell? ⟨gb,3,none⟩=some (.int .i64 clk))(h4:w.cell? ⟨gb,4,none⟩=some (.slice (some ⟨gR,0,none⟩) nR cR))(hq:w.cell? ⟨gb+1,0,none⟩=some (.int .i64 cc))(hf:w.cell? ⟨gf,0,none⟩=some (.int .i64 l))(Gs:0<nf)(fQ:(xR #[45,45] 45 #[.slice (some ⟨gR,0,none⟩) nR cR,.slice (some ⟨w.heap.size,0,none⟩) 1 1]).run aK ((w.alloc (.cells #[.int .i64 cc,.int .i64 l,.int .i64 0,.int .i64 clk,.int .i64 (-1),.int .i64 (-1),.string eP] 50)).drew)=.ok (.slice (some ⟨g1,0,none⟩) (nR+1) c1) w3)(aX:w3.cell? ⟨gb,4,none⟩=some (.slice (some ⟨gR,0,none⟩) nR cR))(oC:w3.frozen? ⟨gb,4,none⟩=false)(h0:WRG7 w w3 gb gf gR nR cR g1 c1 nf cf cc l clk 0=w.drew)(hk:Q .normal ⟨dM zW (fRG7 w w3 gb gf gR nR cR g1 c1 nf cf cc l clk) t0,d⟩ (w3.setCell ⟨gb,4,none⟩ (.slice (some ⟨g1,0,none⟩) (nR+1) c1))):
 (F8 7 zW true).wp aK Q ⟨t0,d⟩ w:=by
 refine Ix (ws:=[10,11,13]) (Wd:=WRG7 w w3 gb gf gR nR cR g1 c1 nf cf cc l clk) (vals:=fRG7 w w3 gb gf gR nR cR g1 c1 nf cf cc l clk) vR.mixed aU aH aU h0 Ke (λV hU hV=>?_) hk;obtain⟨zzU,zxS,zrZ,zlK,zn3,zsK,zpP,znT,zpr,zlV,Ys,zdN,zkw,-⟩:=Iy zuw hU;have e2:=(hV 2 aU).trans S3;have e3:=(hV 3 aU).trans znJ;have e6:=(hV 6 aU).trans zcE;have zuF:=h3;have Hz:=h4;have Kr:=hq;have Ej:=hf;refine λTf hT=>Ka zqB ⟨bX.pv,bX.any (λkk gG hm=>?_),bX.pv,bX.ld,bX.pv,bX.any (λkk gG hm=>?_),bX.ld,bX.pv,bX.ld,bX.any (λkk gG hm=>?_),bX.act (v:=V 46) 0 rfl (eJ rfl) ?_,bX.act (v:=V 47) 1 rfl (eJ rfl) ?_,bX.pv,.skp 2 rfl (eJ rfl) rfl ?_,trivial⟩
 .rcases kk with _|_|_|_|kk
  .show(aO _ _).run _ (w.drew)=xH _ (w.drew);have hh:=h4;unfold aO;go_simp
  .show(aO _ _).run _ ((w.alloc (.cells #[.int .i64 cc,.int .i64 l,.int .i64 0,.int .i64 clk,.int .i64 (-1),.int .i64 (-1),.string eP] 50)).drew)=xH _ ((w.alloc (.cells #[.int .i64 cc,.int .i64 l,.int .i64 0,.int .i64 clk,.int .i64 (-1),.int .i64 (-1),.string eP] 50)).drew);have hh:=B6 h4 (.cells #[.int .i64 cc,.int .i64 l,.int .i64 0,.int .i64 clk,.int .i64 (-1),.int .i64 (-1),.string eP] 50);unfold aO;go_simp
  .exact absurd hm nN
  .exact absurd hm nN
  .simp at gG
 .have aS:nf≠0:=by have:=Gs;omega
  unfold aO;go_simp
 .unfold aO;go_simp;rfl
 .rw[Ys];show(aO _ _).run _ (w.drew)=xH _ ((w.alloc (.cells #[.int .i64 cc,.int .i64 l,.int .i64 0,.int .i64 clk,.int .i64 (-1),.int .i64 (-1),.string eP] 50)).drew);unfold aO;go_simp
 .rw[zdN];exact zb1 rfl (oE hT zxS) (oE hT Ys) fQ
 .have hs:=aX;have hf:=oC;show(aO _ _).run _ (w3)=xH _ (w3.setCell ⟨gb,4,none⟩ (.slice (some ⟨g1,0,none⟩) (nR+1) c1));unfold aO;go_simp
def bodyRU:Go.Code:=(Tryz.f65.body).getD .skip
def rRU10:Go.Code:=match bodyRU with| .seq _ (.seq _ (.seq _ (.seq _ (.seq _ (.seq (a) _)))))=>a|_=>.skip
def xD:Array Oper:=match rRU10 with| .region _ ops _=>ops|_=>#[]
def zqw:xD.toList=[aV xD 0 (some 38) (.fieldAddr 59 (.tmp 2) 2),aV xD 1 (some 39) (.load 45 (.tmp 38)),aV xD 2 (some 40) (.fieldAddr 100 (.tmp 7) 0),aV xD 3 (some 41) (.load 3 (.tmp 40)),aV xD 4 (some 42) (.move (.tmp 6)),aV xD 5 (some 43) (.indexAddr 38 (.tmp 42) (.const (.int .i64 0))),aV xD 6 (some 44) (.load 3 (.tmp 43)),aV xD 7 (some 45) (.move (.tmp 1)),aV xD 8 (some 46) (.fieldAddr 59 (.tmp 2) 1),aV xD 9 (some 47) (.load 3 (.tmp 46)),aV xD 10 (some 48) (.fieldAddr 59 (.tmp 2) 1),aV xD 11 (some 49) (.load 3 (.tmp 48)),aV xD 12 (some 50) (.build 50 #[(0,.tmp 41),(1,.tmp 44),(2,.tmp 45),(3,.tmp 47),(4,.tmp 49),(5,.const (.int .i64 (-1))),(6,.const (.string {data:=#[111,112,101,110]}))]),aV xD 13 (some 51) (.buildSlice 45 1 #[(0,.tmp 50)]),aV xD 14 (some 52) (.call ⟨.builtin .append,#[.tmp 39,.tmp 51],#[45,45]⟩),aV xD 15 (some 53) (.fieldAddr 59 (.tmp 2) 2),aV xD 16 none (.store 45 (.tmp 53) (.tmp 52))]:=rfl
def WRU10 (w w3:aE)(gb gc gf gR nR cR g1 c1 nf cf:Nat)(cc l op clk:Int):Nat->aE
 |0=>w.drew
 |1=>(w.alloc (.cells #[.int .i64 cc,.int .i64 l,.int .i64 op,.int .i64 clk,.int .i64 clk,.int .i64 (-1),.string eP] 50)).drew
 |2=>w3
 |_=>w3.setCell ⟨gb,4,none⟩ (.slice (some ⟨g1,0,none⟩) (nR+1) c1)
theorem zr6:xD.toList.map (·.dst)=[some 38,some 39,some 40,some 41,some 42,some 43,some 44,some 45,some 46,some 47,some 48,some 49,some 50,some 51,some 52,some 53,none]:=by rw[zqw];rfl
def lRU10 (w w3:aE)(gb gc gf gR nR cR g1 c1 nf cf:Nat)(cc l op clk:Int):List Value:=[.pointer (some ⟨gb,4,none⟩),.slice (some ⟨gR,0,none⟩) nR cR,.pointer (some ⟨gc,0,none⟩),.int .i64 (cc),.slice (some ⟨gf,0,none⟩) nf cf,.pointer (some ⟨gf,0,none⟩),.int .i64 (l),.int .i64 (op),.pointer (some ⟨gb,3,none⟩),.int .i64 (clk),.pointer (some ⟨gb,3,none⟩),.int .i64 (clk),.agg #[.int .i64 cc,.int .i64 l,.int .i64 op,.int .i64 clk,.int .i64 clk,.int .i64 (-1),.string eP],.slice (some ⟨w.heap.size,0,none⟩) 1 1,.slice (some ⟨g1,0,none⟩) (nR+1) c1,.pointer (some ⟨gb,4,none⟩),aA]
def zi6 (w w3:aE)(gb gc gf gR nR cR g1 c1 nf cf:Nat)(cc l op clk:Int)(i:Nat):Value:=(lRU10 w w3 gb gc gf gR nR cR g1 c1 nf cf cc l op clk).getD i aA
theorem wp_RU10 (w w3:aE)(gb gc gf gR nR cR g1 c1 nf cf:Nat)(cc l op clk:Int)(hz:t0.size=59)(Gc:t0.getD 1 aA=.int .i64 (op))(S3:t0.getD 2 aA=.pointer (some ⟨gb,0,none⟩))(zcE:t0.getD 6 aA=.slice (some ⟨gf,0,none⟩) nf cf)(Gt:t0.getD 7 aA=.pointer (some ⟨gc,0,none⟩))(h3:w.cell? ⟨gb,3,none⟩=some (.int .i64 clk))(h4:w.cell? ⟨gb,4,none⟩=some (.slice (some ⟨gR,0,none⟩) nR cR))(hq:w.cell? ⟨gc,0,none⟩=some (.int .i64 cc))(hf:w.cell? ⟨gf,0,none⟩=some (.int .i64 l))(Gs:0<nf)(fQ:(xR #[45,45] 45 #[.slice (some ⟨gR,0,none⟩) nR cR,.slice (some ⟨w.heap.size,0,none⟩) 1 1]).run aK ((w.alloc (.cells #[.int .i64 cc,.int .i64 l,.int .i64 op,.int .i64 clk,.int .i64 clk,.int .i64 (-1),.string eP] 50)).drew)=.ok (.slice (some ⟨g1,0,none⟩) (nR+1) c1) w3)(aX:w3.cell? ⟨gb,4,none⟩=some (.slice (some ⟨gR,0,none⟩) nR cR))(oC:w3.frozen? ⟨gb,4,none⟩=false)(h0:WRU10 w w3 gb gc gf gR nR cR g1 c1 nf cf cc l op clk 0=w.drew)(hk:Q .normal ⟨dM xD (zi6 w w3 gb gc gf gR nR cR g1 c1 nf cf cc l op clk) t0,d⟩ (w3.setCell ⟨gb,4,none⟩ (.slice (some ⟨g1,0,none⟩) (nR+1) c1))):
 (F8 10 xD true).wp aK Q ⟨t0,d⟩ w:=by
 refine Ix (ws:=[13,14,16]) (Wd:=WRU10 w w3 gb gc gf gR nR cR g1 c1 nf cf cc l op clk) (vals:=zi6 w w3 gb gc gf gR nR cR g1 c1 nf cf cc l op clk) vR.mixed aU aH aU h0 Ke (λV hU hV=>?_) hk;obtain⟨zrZ,zlK,zn3,zsK,zpP,znT,zpr,zlV,Ys,zdN,zkw,Xn,zfu,Xs,Zb,zih,-⟩:=Iy zr6 hU;have e1:=(hV 1 aU).trans Gc;have e2:=(hV 2 aU).trans S3;have e6:=(hV 6 aU).trans zcE;have e7:=(hV 7 aU).trans Gt;have zuF:=h3;have Hz:=h4;have Kr:=hq;have Ej:=hf;refine λTf hT=>Ka zqw ⟨bX.pv,bX.any (λkk gG hm=>?_),bX.pv,bX.ld,bX.pv,bX.any (λkk gG hm=>?_),bX.ld,bX.pv,bX.pv,bX.ld,bX.pv,bX.ld,bX.any (λkk gG hm=>?_),bX.act (v:=V 51) 0 rfl (eJ rfl) ?_,bX.act (v:=V 52) 1 rfl (eJ rfl) ?_,bX.pv,.skp 2 rfl (eJ rfl) rfl ?_,trivial⟩
 .rcases kk with _|_|_|_|kk
  .show(aO _ _).run _ (w.drew)=xH _ (w.drew);have hh:=h4;unfold aO;go_simp
  .show(aO _ _).run _ ((w.alloc (.cells #[.int .i64 cc,.int .i64 l,.int .i64 op,.int .i64 clk,.int .i64 clk,.int .i64 (-1),.string eP] 50)).drew)=xH _ ((w.alloc (.cells #[.int .i64 cc,.int .i64 l,.int .i64 op,.int .i64 clk,.int .i64 clk,.int .i64 (-1),.string eP] 50)).drew);have hh:=B6 h4 (.cells #[.int .i64 cc,.int .i64 l,.int .i64 op,.int .i64 clk,.int .i64 clk,.int .i64 (-1),.string eP] 50);unfold aO;go_simp
  .exact absurd hm nN
  .exact absurd hm nN
  .simp at gG
 .have aS:nf≠0:=by have:=Gs;omega
  unfold aO;go_simp
 .unfold aO;go_simp;rfl
 .rw[Xs];show(aO _ _).run _ (w.drew)=xH _ ((w.alloc (.cells #[.int .i64 cc,.int .i64 l,.int .i64 op,.int .i64 clk,.int .i64 clk,.int .i64 (-1),.string eP] 50)).drew);unfold aO;go_simp
 .rw[Zb];exact zb1 rfl (oE hT zlK) (oE hT Xs) fQ
 .have hs:=aX;have hf:=oC;show(aO _ _).run _ (w3)=xH _ (w3.setCell ⟨gb,4,none⟩ (.slice (some ⟨g1,0,none⟩) (nR+1) c1));unfold aO;go_simp
def bodyWT:Go.Code:=(Tryz.f67.body).getD .skip
def rWT10:Go.Code:=match bodyWT with| .seq _ (.seq _ (.seq _ (.seq _ (.seq (.seq _ (.block _ (.loop (.seq _ (.seq (.block _ (.seq _ (.seq _ (.cond _ (.seq _ (.seq (a) _)) _)))) _))))) _))))=>a|_=>.skip
def E5:Array Oper:=match rWT10 with| .region _ ops _=>ops|_=>#[]
def zvg:E5.toList=[aV E5 0 (some 51) (.fieldAddr 59 (.tmp 2) 4),aV E5 1 (some 52) (.load 57 (.tmp 51)),aV E5 2 (some 53) (.move (.tmp 7)),aV E5 3 (some 54) (.move (.tmp 8)),aV E5 4 (some 55) (.indexAddr 57 (.tmp 53) (.tmp 54)),aV E5 5 (some 56) (.load 100 (.tmp 55)),aV E5 6 (some 57) (.buildSlice 57 1 #[(0,.tmp 56)]),aV E5 7 (some 58) (.call ⟨.builtin .append,#[.tmp 52,.tmp 57],#[57,57]⟩),aV E5 8 (some 59) (.fieldAddr 59 (.tmp 2) 4),aV E5 9 none (.store 57 (.tmp 59) (.tmp 58))]:=rfl
def WWT10 (w w3:aE)(gb gW nW cW gB nB cB g1 c1 k:Nat)(xc xp:Int):Nat->aE
 |0=>w.drew
 |1=>(w.alloc (.cells #[.int .i64 xc,.int .i64 xp] 100)).drew
 |2=>w3
 |_=>w3.setCell ⟨gb,6,none⟩ (.slice (some ⟨g1,0,none⟩) (nB+1) c1)
theorem zpc:E5.toList.map (·.dst)=[some 51,some 52,some 53,some 54,some 55,some 56,some 57,some 58,some 59,none]:=by rw[zvg];rfl
def lWT10 (w w3:aE)(gb gW nW cW gB nB cB g1 c1 k:Nat)(xc xp:Int):List Value:=[.pointer (some ⟨gb,6,none⟩),.slice (some ⟨gB,0,none⟩) nB cB,.slice (some ⟨gW,0,none⟩) nW cW,.int .i64 (k:Int),.pointer (some ⟨gW,k*2,none⟩),.agg #[.int .i64 xc,.int .i64 xp],.slice (some ⟨w.heap.size,0,none⟩) 1 1,.slice (some ⟨g1,0,none⟩) (nB+1) c1,.pointer (some ⟨gb,6,none⟩),aA]
def znS (w w3:aE)(gb gW nW cW gB nB cB g1 c1 k:Nat)(xc xp:Int)(i:Nat):Value:=(lWT10 w w3 gb gW nW cW gB nB cB g1 c1 k xc xp).getD i aA
theorem wp_WT10 (w w3:aE)(gb gW nW cW gB nB cB g1 c1 k:Nat)(xc xp:Int)(hz:t0.size=71)(S3:t0.getD 2 aA=.pointer (some ⟨gb,0,none⟩))(Gt:t0.getD 7 aA=.slice (some ⟨gW,0,none⟩) nW cW)(znj:t0.getD 8 aA=.int .i64 (k:Int))(h6:w.cell? ⟨gb,6,none⟩=some (.slice (some ⟨gB,0,none⟩) nB cB))(tX:w.cell? ⟨gW,k*2,none⟩=some (.int .i64 xc))(N8:w.cell? ⟨gW,k*2+1,none⟩=some (.int .i64 xp))(tT:k<nW)(fQ:(xR #[57,57] 57 #[.slice (some ⟨gB,0,none⟩) nB cB,.slice (some ⟨w.heap.size,0,none⟩) 1 1]).run aK ((w.alloc (.cells #[.int .i64 xc,.int .i64 xp] 100)).drew)=.ok (.slice (some ⟨g1,0,none⟩) (nB+1) c1) w3)(aX:w3.cell? ⟨gb,6,none⟩=some (.slice (some ⟨gB,0,none⟩) nB cB))(oC:w3.frozen? ⟨gb,6,none⟩=false)(h0:WWT10 w w3 gb gW nW cW gB nB cB g1 c1 k xc xp 0=w.drew)(hk:Q .normal ⟨dM E5 (znS w w3 gb gW nW cW gB nB cB g1 c1 k xc xp) t0,d⟩ (w3.setCell ⟨gb,6,none⟩ (.slice (some ⟨g1,0,none⟩) (nB+1) c1))):
 (F8 10 E5 true).wp aK Q ⟨t0,d⟩ w:=by
 refine Ix (ws:=[6,7,9]) (Wd:=WWT10 w w3 gb gW nW cW gB nB cB g1 c1 k xc xp) (vals:=znS w w3 gb gW nW cW gB nB cB g1 c1 k xc xp) vR.mixed aU aH aU h0 Ke (λV hU hV=>?_) hk;obtain⟨Xs,Zb,zih,zwG,zKf,zJM,zoC,zqc,zBn,-⟩:=Iy zpc hU;have e2:=(hV 2 aU).trans S3;have e7:=(hV 7 aU).trans Gt;have e8:=(hV 8 aU).trans znj;have zLA:=h6;have zL6:=tX;have zK9:=N8;refine λTf hT=>Ka zvg ⟨bX.pv,bX.any (λkk gG hm=>?_),bX.pv,bX.pv,bX.any (λkk gG hm=>?_),bX.ld,bX.act (v:=V 57) 0 rfl (eJ rfl) ?_,bX.act (v:=V 58) 1 rfl (eJ rfl) ?_,bX.pv,.skp 2 rfl (eJ rfl) rfl ?_,trivial⟩
 .rcases kk with _|_|_|_|kk
  .show(aO _ _).run _ (w.drew)=xH _ (w.drew);have hh:=h6;unfold aO;go_simp
  .show(aO _ _).run _ ((w.alloc (.cells #[.int .i64 xc,.int .i64 xp] 100)).drew)=xH _ ((w.alloc (.cells #[.int .i64 xc,.int .i64 xp] 100)).drew);have hh:=B6 h6 (.cells #[.int .i64 xc,.int .i64 xp] 100);unfold aO;go_simp
  .exact absurd hm nN
  .exact absurd hm nN
  .simp at gG
 .have i0:(0:Int)<=(k:Int):=aC
  have i1:(k:Int)<(nW:Int):=by have:=tT;omega
  unfold aO;go_simp
 .rw[zoC];show(aO _ _).run _ (w.drew)=xH _ ((w.alloc (.cells #[.int .i64 xc,.int .i64 xp] 100)).drew);unfold aO;go_simp
 .rw[zqc];exact zb1 rfl (oE hT Zb) (oE hT zoC) fQ
 .have hs:=aX;have hf:=oC;show(aO _ _).run _ (w3)=xH _ (w3.setCell ⟨gb,6,none⟩ (.slice (some ⟨g1,0,none⟩) (nB+1) c1));unfold aO;go_simp
end Go.Proofs.YtfcjiloojkjaeaaGreatDoor
namespace Go.Proofs.YtfcjiloojkjaeaaGreatDoor
open Go.RowKit
def Wm (lo:Nat)(v:fW)(w:aE)(bt:b6×List UInt8)(x:Ending)(w':aE):Prop:=
 ∃v',x=.returned (.tuple #[.agg (fV v' bt.1),.string ⟨bt.2.toArray⟩])/\eH w' lo v' bt.1/\o6 v w w'/\yC w.heap.size v v'
structure Su (r:b6):Prop where
 off:qQ r.o=true
 nr:r.recs.length<=1000
 nw:r.wait.length<=1000
 nb:r.back.length<=5000
 nl:r.log.length<=1000
 clk:0<=r.clk/\r.clk<=100000
abbrev It (c:bH):Obj:=.cells #[.int .i64 c.c,.int .i64 c.p] 100
variable {o:Option Nat}{i:Nat}
theorem W9 (h:o=some i):Ht o=(i:Int):=by rw[h];rfl
theorem zh0 (h:o=none):Ht o= -1:=by rw[h];rfl
variable {o:fG}{rs:List bO}{l:Int}
theorem X0 (h:l∈oX o rs):1<=l/\l<=o.ln:=by
 unfold oX yL at h;rw[Mg,Sl] at h;obtain⟨⟨i,hi,rfl⟩,_⟩:=h;rw[Ei] at hi;omega
variable {b:b6}
theorem zro {c:bH}(h:(gU b.recs c.c).isSome=true\/(uL b.back c.c).isSome=true):o8 b c=(b,[107,110,111,119,110]):=by
 unfold o8;rw[if_pos uB]
theorem zzt (lo:Nat)(v:fW)(r:b6)(c:bH)(w:aE)(h:eH w lo v r)(hs:Su r)(eL:lo<=w.heap.size):
 gT aK 63 #[.agg (fV v r),.agg #[.int .i64 c.c,.int .i64 c.p]] w (Wm lo v w (o8 r c)):=by
 obtain⟨gb,fA⟩:=aN w.heap.size;have hl:=h.lts;obtain⟨O,hO⟩:=aN (.cells (fV v r) 59:Obj);obtain⟨C,hC⟩:=aN (.cells #[.int .i64 c.c,.int .i64 c.p] 100:Obj);obtain⟨Z,hZ⟩:=aN (kO:Obj);have lR:(((w.alloc O).alloc C).alloc Z).heap[gb]? =some (yJ v r):=by rw[hO,fA];exact dH (dH (gV _ _) _) _
 have rF:(((w.alloc O).alloc C).alloc Z).heap[gb+1]? =some (It c):=by rw[hC,fA];exact dH (l6 _ _ aQ) _
 have rL:(((w.alloc O).alloc C).alloc Z).heap[gb+2]? =some kO:=by rw[<-hZ];exact l6 _ _ Zt
 have jJ:=aD (((h.alloc O).alloc C).alloc Z);have Ga:=aD (o6.of_below v (eK (eK (eK (gD w.heap.size w) O) C) Z));have p8:=aD (show(((w.alloc O).alloc C).alloc Z).heap.size=gb+3 by rw[fA];simp);have Ab:=aD lR;have zbh:=aD rF;have zm2:=aD rL;have HO:=aD hO;have HC:=aD hC;have HZ:=aD (show Z=.cells #[.int .i64 0,.int .i64 0,.int .i64 0,.int .i64 0,.slice none 0 0,.slice none 0 0,.slice none 0 0,.slice none 0 0] 59 from hZ);have fZ:=aD fA;have HL:=aD hl;clear hO hC hZ fA lR rF rL h hl
 go_enter Tryz.func63,Tryz.ntmps63
 go_upto_region 1 with fail
 rw[<-HO.o,<-HC.o,<-HZ.o,<-fZ.o];obtain⟨W1,dC⟩:=aN (((w.alloc O).alloc C).alloc Z);rw[<-dC] at Ab zbh zm2 jJ Ga p8⊢;clear dC;have k:=aI Ab.o;obtain⟨k0,k1,k2,k3,k4,k5,k6,k7⟩:=eT k;clear k;have Qo:=hs.nr
 go_upto_region 2 with(go_at_call 90;refine(zvN lo v r W1 jJ.o aC hs.off).mono ?_;rintro x w2 ⟨_,rfl,gf,cf,rfl,cY,b2⟩;have Se:=aD cY;have iV:=aD b2;clear cY b2)
 have jX:=aD (jJ.o.below iV.o);have Tx:=aD (Ga.o.same (o6.of_below v iV.o));have Iu:=(mU iV.o Ab.o).1;have Jr:=(mU iV.o zbh.o).1;have kE:=aD (mU iV.o zm2.o).1;have zn7:=aD Iu;have zko:=aD Jr;have zg7:=aD (show gb+3<=w2.heap.size by have:=iV.o.size;have:=p8.o;omega);have zaN:=aD (Se.o.lt gf rfl);clear k0 k1 k2 k3 k4 k5 k6 k7;have k:=aI Iu;obtain⟨k0,k1,k2,k3,k4,k5,k6,k7⟩:=eT k;have q:=aI Jr;have q0:=q 0;have q1:=q 1;have r0:=fC kE.o;have z:=aI kE.o;obtain⟨z0,z1,z2,z3,z4,z5,z6,z7⟩:=eT z;have uH:=aD jX.o.slcR;have F7:=aD jX.o.slcB;have oI:=hs.nb;clear k q z Iu Jr;rcases hop:gU r.recs c.c with _|i
 .have Pu:=aD (zh0 hop)
  rcases uT:uL r.back c.c with _|j
  .have Pe:=aD (zh0 uT)
   have fD:=aD (show gQ w w2 lo gb 3 v v r from⟨jX.o,Tx.o,yC.refl _ _,fZ.o,zn7.o,zg7.o,aC,by have:=HL.o;have:=fZ.o;omega,by have:=HL.o;have:=fZ.o;omega,by have:=HL.o;have:=fZ.o;omega,by have:=HL.o;have:=fZ.o;omega,by rw[fZ.o];exact eL⟩);rcases gE:oX r.o r.recs with _|⟨l,fs⟩
   .have fH:=aD (show o8 r c=({r with back:=r.back++[c]},[98,117,115,121]) by unfold o8;rw[if_neg (by simp[hop,uT]),gE])
    simp only[zP];clear hop uT gE;obtain⟨i0,eY,fM,dF,hY⟩:=C8 zeT;have HI:=aD eY;clear eY
    go_upto_region 6 with(first
     |(go_at_call 91;refine(Mo lo w2.heap.size r.recs.length v.cR (some ⟨v.gR,0,none⟩) r.recs c.c w2 uH.o aC).mono ?_;rintro x w' ⟨rfl,jI⟩;obtain rfl:=jI.symm;rw[Pu.o])
     |(go_at_call 92;refine(zdu lo w2.heap.size r.back.length v.cB (some ⟨v.gB,0,none⟩) r.back c.c w2 F7.o aC).mono ?_;rintro x w' ⟨rfl,jI⟩;obtain rfl:=jI.symm;rw[Pe.o])
     |(at_builtin;refine zjZ _ rfl (.tmp 30) (.tmp 32) 57 rfl lo 100 i0 (.agg #[.int .i64 0,.int .i64 0]) 2 16 M5 HI.o fM dF hY rfl aH v.gB v.cB r.back.length (bK r.back) rfl ((jX.o.alloc _).bk) ⟨_,0,none⟩ 1 1 c.cells rfl rfl ?c2 Rp ?c5 ?c6 ?c7 ?_;(case c2=>exact Ez (cs:=c.cells.toArray) (gV _ _));(case c5=>unfold maxLen;omega);(case c6=>omega);(case c7=>(have:=fD.o.lob;have:=zg7.o;simp;omega));intro g1 c1 w3 qZ qJ B1 Km;have Dg:=aD ((fD.o.alloc _).appB qJ qZ rfl Km);have zFP:=aD (Az qJ (dH kE.o _) (by have:=fD.o.aB;omega));have kx:=(Az qJ (dH zn7.o _) (by have:=fD.o.aB;omega)).1;have Ri:=aI kx 6;have xL:=fC kx;clear qZ qJ B1 Km kx))
    obtain⟨W4,rN⟩:=aN (w3.setCell ⟨gb,6,none⟩ (.slice (some ⟨g1,0,none⟩) (r.back.length+1) c1));rw[<-rN] at Dg⊢;have zAu:=aD (show W4.heap[gb+2]? =some kO by rw[rN];exact(dX w3 _ _ (gb+2) aQ).trans zFP.o.1);clear rN Ri xL;obtain⟨v4,Iw⟩:=aN ({v with gB:=g1,cB:=c1}:fW);obtain⟨r4,Ni⟩:=aN ({r with back:=r.back++[c]}:b6);rw[<-Iw,<-Ni] at Dg;rw[<-Ni] at fH;clear Iw Ni;have k:=aI Dg.o.blk;obtain⟨k0,k1,k2,k3,k4,k5,k6,k7⟩:=eT k;have kE:=zAu;have z:=aI kE.o;obtain⟨z0,z1,z2,z3,z4,z5,z6,z7⟩:=eT z;have r0:=fC kE.o;clear k z
    go_wp2_with fail
    have er:=aI (tF v4 r4 kE.o);refine nY (v:=.tuple #[.agg (fV (v4) (r4)),.string ⟨([98,117,115,121]:List UInt8).toArray⟩]) ?_ rfl ?_
    .unfold gX at er
     simp[results,zhW,go_sem,er]
    .rw[fH.o]
     obtain⟨d1,d2,d3⟩:=Dg.o.done (b:=gb+2) aC;exact⟨v4,rfl,d1,d2,d3⟩
   .obtain⟨nf,Gs⟩:=aN ((l::fs).length)
    have Af:=zke r.recs r.o.ln.toNat;have zl7:=(Aa hs.off).2.1;have Jm:(oX r.o r.recs).length=nf:=by rw[gE,Gs]
    have zFy:nf<=6:=by unfold oX at Jm;omega
    have zbH:0<nf:=by rw[Gs];simp
    have Xl:=X0 (o:=r.o) (rs:=r.recs) (l:=l) (by rw[gE];simp);have Pn:=aD (show w2.ownsRow W1.heap.size 3 1 (.slice (some ⟨gf,0,none⟩) nf cf) nf (fN (l::fs)) by have:=Se.o;rw[Jm,gE] at this;exact this);have Me:w2.cell? ⟨gf,0,none⟩=some (.int .i64 l):=Pn.o.cellAt 0 aC;rw[<-Gs];have fH:=aD (show o8 r c=({r with recs:=r.recs++[⟨c.c,l,0,r.clk,-1,-1,eP⟩],wait:=tJ r.wait c},[108,105,110,101,32]++gA l) by unfold o8;rw[if_neg (by simp[hop,uT]),gE]);have zw1:=aD Xl;have oC:((nf:Int)==0)=false:=pD;have zzI:(0:Int)<(nf:Int):=aC;clear hop uT gE Gs Af zl7 Jm Xl
    go_upto_region 7 with(first
     |(go_at_call 91;refine(Mo lo w2.heap.size r.recs.length v.cR (some ⟨v.gR,0,none⟩) r.recs c.c w2 uH.o aC).mono ?_;rintro x w' ⟨rfl,jI⟩;obtain rfl:=jI.symm;rw[Pu.o])
     |(go_at_call 92;refine(zdu lo w2.heap.size r.back.length v.cB (some ⟨v.gB,0,none⟩) r.back c.c w2 F7.o aC).mono ?_;rintro x w' ⟨rfl,jI⟩;obtain rfl:=jI.symm;rw[Pe.o]))
    go_cut [] from 36 to 48 (λwx=>∃g1 c1,gQ w wx lo gb 3 v {v with gR:=g1,cR:=c1} {r with recs:=r.recs++[⟨c.c,l,0,r.clk,-1,-1,eP⟩]}/\wx.heap[gb+1]? =some (It c)/\wx.heap[gb+2]? =some kO/\wx.ownsRow W1.heap.size 3 1 (.slice (some ⟨gf,0,none⟩) nf cf) nf (fN (l::fs)))
    case first=>
     obtain⟨i0,eY,fM,dF,hY⟩:=C8 zsI;have HI:=aD eY;clear eY;have zLx:=zaN.o;have zLb:gb+3<=W1.heap.size:=by have:=p8.o;omega
     have zng:v.gR<gb:=by have:=HL.o;have:=fZ.o;omega
     have kB:∀o:Obj,(w2.alloc o).cell? ⟨gb,4,none⟩=some (v.sR r):=λo=>B6 k4 o;have zl5:gb<w2.heap.size:=by have:=zg7.o;omega
     have S0:w2.cell? ⟨gb,3,none⟩=some (.int .i64 r.clk)/\w2.cell? ⟨gb+1,0,none⟩=some (.int .i64 c.c)/\w2.cell? ⟨gf,0,none⟩=some (.int .i64 l):=⟨k3,q0,Me⟩;have Ib:=aD S0;have zLC:gf≠gb:=aC;clear S0;obtain⟨g1,c1,w3,fQ,qZ,qJ,B1,Km⟩:=zh7 (P:=aK) (w2.alloc (.cells #[.int .i64 c.c,.int .i64 l,.int .i64 0,.int .i64 r.clk,.int .i64 (-1),.int .i64 (-1),.string eP] 50)).drew 45 45 lo 50 i0 (.agg #[.int .i64 0,.int .i64 0,.int .i64 0,.int .i64 0,.int .i64 0,.int .i64 0,.string ⟨#[]⟩]) 7 64 zsR HI.o fM dF hY rfl aH v.gR v.cR r.recs.length (recs r.recs) (Bm jX.o.rc (λb hb=>qA _ _ b hb)) ⟨w2.heap.size,0,none⟩ 1 1 (bO.cells ⟨c.c,l,0,r.clk,-1,-1,eP⟩) rfl (Ez (cs:=(bO.cells ⟨c.c,l,0,r.clk,-1,-1,eP⟩).toArray) (gV _ _)) zik Z7 aC (by have:=fD.o.lob;have:=zg7.o;simp;omega);have pB:=aD qJ;have zdf:=aD qZ;have zaw:=aD Km;have kx:=(Az qJ (dH zn7.o _) aC).1;have zaZ:=aI kx 4;have xL:=fC kx;clear qZ qJ B1 Km kx;refine wp_RG7 w2 w3 gb gf v.gR r.recs.length v.cR g1 c1 nf cf c.c l r.clk rfl rfl rfl rfl k3 k4 q0 Me aC fQ zaZ (xL _) rfl ?_;clear fQ zaZ xL;rw[Go.Mt.Cq,zuw];simp only[Go.Mt.yF,dU,dW,fRG7,lRG7,Dy,Ey]
     go_wp2_with fail
     go_meet
     have zAS:gf≠v.gR:=aC;refine⟨g1,c1,((fD.o.alloc _).drew).appR pB.o zdf.o rfl zaw.o,?_,?_,?_⟩
     .exact(dX w3 _ _ (gb+1) aQ).trans (Az pB.o (Ku (dH zko.o _)) aC).1
     .exact(dX w3 _ _ (gb+2) aQ).trans (Az pB.o (Ku (dH kE.o _)) aC).1
     .exact Bn Pn.o ((dX w3 _ _ gf aC).trans ((pB.o.block gf pD (by simp;exact zAS)).trans (qA _ _ gf aC)))
    case rest=>
     obtain⟨g1,c1,Cd,Jr,Iu,gE⟩:=hcut;clear k0 k1 k2 k3 k4 k5 k6 k7 q0 q1 z0 z1 z2 z3 z4 z5 z6 z7 r0 Me;have Wh:=aD Cd;have zko:=aD Jr;have kE:=aD Iu;have Pn:=aD gE;obtain⟨v1,pS⟩:=aN ({v with gR:=g1,cR:=c1}:fW);obtain⟨r1,j9⟩:=aN ({r with recs:=r.recs++[⟨c.c,l,0,r.clk,-1,-1,eP⟩]}:b6);have zJz:=aD (show r1.wait=r.wait by rw[j9]);have zCu:r1.wait.length<=1000:=by rw[j9];exact hs.nw
     rw[<-pS,<-j9] at Wh;replace fH:=aD (show o8 r c=({r1 with wait:=tJ r1.wait c},[108,105,110,101,32]++gA l) by rw[fH.o,j9]);clear pS j9 Cd Jr Iu gE;have k:=aI Wh.o.blk;have k5:=k 5;have kf:=fC Wh.o.blk;have q:=aI zko.o;have q0:=q 0;have q1:=q 1;clear k q
     go_upto_region 9 with(go_at_call 93;refine(zHV lo wc.heap.size r1.wait.length v1.cW v1.gW r1.wait c wc Wh.o.ok.slcW aC).mono ?_;rintro x w4 ⟨_,rfl,g4,c4,rfl,cY,b4⟩;have Uq:=aD cY;have tZ:=aD b4;have kx:=(mU b4 Wh.o.blk).1;have zjF:=aI kx 5;have xL:=fC kx;clear cY b4 kx)
     obtain⟨W5,xU⟩:=aN (w4.setCell ⟨gb,5,none⟩ (.slice (some ⟨g4,0,none⟩) (tJ r1.wait c).length c4));have Ex:=aD (show gQ w W5 lo gb 3 v {v1 with gW:=g4,cW:=c4} {r1 with wait:=tJ r1.wait c} by rw[xU];exact Wh.o.setW tZ.o Uq.o rfl);have tD:=aD (show W5.heap[gb+2]? =some kO by rw[xU];exact(dX w4 _ _ (gb+2) aQ).trans (mU tZ.o kE.o).1);have zwe:W5.ownsRow W1.heap.size 3 1 (.slice (some ⟨gf,0,none⟩) nf cf) nf (fN (l::fs)):=by
      rw[xU];have:=zaN.o;have:=p8.o;exact Bn Pn.o ((dX w4 _ _ gf tV).trans (tZ.o.block gf (Pn.o.lt gf rfl).2))
     have Me:W5.cell? ⟨gf,0,none⟩=some (.int .i64 l):=zwe.cellAt 0 aC;rw[<-xU];clear xU zjF xL k5 kf q0 q1 zwe;obtain⟨v5,oA⟩:=aN ({v1 with gW:=g4,cW:=c4}:fW);obtain⟨r5,eW⟩:=aN ({r1 with wait:=tJ r1.wait c}:b6);rw[<-oA,<-eW] at Ex;rw[<-eW] at fH;clear oA eW;obtain⟨m,hm⟩:∃m:Nat,l=(m:Int):=⟨l.toNat,by have:=zw1.o;omega⟩;have zb0:m<=100000000:=by have:=zw1.o;have:=(Aa hs.off).2.1;omega
     have Ko:(Ly (m:Int)).length<=20:=by rw[Ww];exact Tb aC
     rw[hm] at Me fH;clear hm;have k:=aI Ex.o.blk;obtain⟨k0,k1,k2,k3,k4,k5,k6,k7⟩:=eT k;clear k
     go_wp2_with fail
     go_region_with (go_at_call 94;refine(zdg m zb0 _).mono ?_;rintro x w6 ⟨rfl,uE⟩;have An:cH W5.heap.size W5 w6:=⟨uE.os,uE.tape,uE.output,uE.size,uE.block⟩;have kV:=aD An;have k:=aI (mU An Ex.o.blk).1;have r0:=fC (mU An tD.o).1;have z:=aI (mU An tD.o).1;obtain⟨k0,k1,k2,k3,k4,k5,k6,k7⟩:=eT k;obtain⟨z0,z1,z2,z3,z4,z5,z6,z7⟩:=eT z;clear k z uE An)
     all_goals
      go_wp2_with fail
      have Fv:=Ex.o.keep kV.o;have Vp:=(mU kV.o tD.o).1;have er:=aI (tF v5 r5 Vp);refine nY (v:=.tuple #[.agg (fV v5 r5),.string ⟨([108,105,110,101,32]++gA (m:Int):List UInt8).toArray⟩]) ?_ rfl ?_
      .unfold gX at er
       simp[results,zhW,go_sem,er,gA,Oc]
       done
      .rw[fH.o]
       obtain⟨d1,d2,d3⟩:=Fv.done (b:=gb+2) aC;exact⟨v5,rfl,d1,d2,d3⟩
  .have Pe:=aD (W9 uT)
   have zl3:(0:Int)<=(j:Int):=aC;have fH:=aD (zro (b:=r) (c:=c) (.inr (by rw[uT];rfl)));clear hop uT
   go_wp2_with (first
    |(go_at_call 91;refine(Mo lo w2.heap.size r.recs.length v.cR (some ⟨v.gR,0,none⟩) r.recs c.c w2 uH.o aC).mono ?_;rintro x w' ⟨rfl,jI⟩;obtain rfl:=jI.symm;rw[Pu.o])
    |(go_at_call 92;refine(zdu lo w2.heap.size r.back.length v.cB (some ⟨v.gB,0,none⟩) r.back c.c w2 F7.o aC).mono ?_;rintro x w' ⟨rfl,jI⟩;obtain rfl:=jI.symm;rw[Pe.o]))
   have er:=aI (tF v r kE.o);refine nY (v:=.tuple #[.agg (fV (v) (r)),.string ⟨([107,110,111,119,110]:List UInt8).toArray⟩]) ?_ rfl ?_
   .unfold gX at er
    simp[results,zhW,go_sem,er]
   .rw[fH.o]
    have l:=HL.o;have gg:=fZ.o;have l2:=jX.o.lts;exact⟨v,rfl,jX.o.set8 aC,Tx.o.set8 aC,yC.refl _ _⟩
 .have Pu:=aD (W9 hop)
  have eY:(0:Int)<=(i:Int):=aC;have fH:=aD (zro (b:=r) (c:=c) (.inl (by rw[hop];rfl)));clear hop
  go_wp2_with (go_at_call 91;refine(Mo lo w2.heap.size r.recs.length v.cR (some ⟨v.gR,0,none⟩) r.recs c.c w2 uH.o aC).mono ?_;rintro x w' ⟨rfl,jI⟩;obtain rfl:=jI.symm;rw[Pu.o])
  have er:=aI (tF v r kE.o);refine nY (v:=.tuple #[.agg (fV (v) (r)),.string ⟨([107,110,111,119,110]:List UInt8).toArray⟩]) ?_ rfl ?_
  .unfold gX at er
   simp[results,zhW,go_sem,er]
  .rw[fH.o]
   have l:=HL.o;have gg:=fZ.o;have l2:=jX.o.lts;exact⟨v,rfl,jX.o.set8 aC,Tx.o.set8 aC,yC.refl _ _⟩
structure zeV (r:b6):Prop where
 has:∀x∈r.wait,(gU r.recs x.c).isSome=true
 num:∀x∈r.wait,1<=x.c/\x.c<=99
variable {c:Int}
theorem zZ (h:gU rs c=some i):∃d,rs[i]? =some d/\d.c=c/\cU d=true:=by
 unfold gU at h;rw[List.findIdx?_eq_some_iff_getElem] at h;obtain⟨hi,hp,_⟩:=h;refine⟨rs[i],oQ hi,?_⟩;unfold Bu at hp;simp at hp;exact hp
variable {w0 w:aE}{gb:Nat}{v:fW}{r:b6}
def gQ.widen {lo:Nat}{v0:fW}(h:gQ w0 w lo gb 2 v0 v r)(hg:v.gR<gb/\v.gW<gb/\v.gB<gb/\v.gL<gb)(hz:gb+3<=w.heap.size):gQ w0 w lo gb 3 v0 v r:=
 ⟨h.ok,h.turn,h.moved,h.base,h.blk,hz,aC,.inl hg.1,.inl hg.2.1,.inl hg.2.2.1,.inl hg.2.2.2,h.lob⟩
theorem zBB (lo:Nat)(v:fW)(r:b6)(op:Int)(w:aE)(h:eH w lo v r)(hs:Su r)(eL:lo<=w.heap.size)(hq:zeV r):
 gT aK 64 #[.agg (fV v r),.int .i64 op] w (Wm lo v w (nL r op)):=by
 obtain⟨gb,O,Z,fZ,HO,HZ,fD,kE,p8,HL⟩:=zgB h eL;clear h
 go_enter Tryz.func64,Tryz.ntmps64
 go_upto_region 1 with fail
 rw[<-HO.o,<-HZ.o,<-fZ.o];obtain⟨W1,dC⟩:=aN ((w.alloc O).alloc Z);rw[<-dC] at fD kE p8⊢;clear dC;have k:=aI fD.o.blk;obtain⟨k0,k1,k2,k3,k4,k5,k6,k7⟩:=eT k;clear k;have Qo:=hs.nr;have uH:=aD fD.o.ok.slcR;by_cases lZ:0<dE r.recs op
 .have fH:=aD (show nL r op=(r,[116,97,108,107,115]) by unfold nL;rw[if_pos lZ])
  go_upto_region 2 with(go_at_call 45;refine(Qj lo W1.heap.size r.recs.length v.cR (some ⟨v.gR,0,none⟩) r.recs op W1 uH.o aC).mono ?_;rintro x w2 ⟨rfl,jI⟩;obtain rfl:=jI.symm)
  clear k0 k1 k2 k3 k4 k5 k6 k7 lZ;have k:=aI fD.o.blk;obtain⟨k0,k1,k2,k3,k4,k5,k6,k7⟩:=eT k;clear k;have z:=aI kE.o;obtain⟨z0,z1,z2,z3,z4,z5,z6,z7⟩:=eT z;clear z;have r0:=fC kE.o
  go_wp2_with fail
  have er:=aI (tF v r kE.o);refine nY (v:=.tuple #[.agg (fV (v) (r)),.string ⟨([116,97,108,107,115]:List UInt8).toArray⟩]) ?_ rfl ?_
  .unfold gX at er
   simp[results,zlu,go_sem,er]
  .rw[fH.o]
   obtain⟨d1,d2,d3⟩:=fD.o.done (b:=gb+1) aC;exact⟨v,rfl,d1,d2,d3⟩
 .rcases cG:r.wait with _|⟨c,cs⟩
  .have fH:=aD (show nL r op=(r,[110,111,110,101]) by unfold nL;rw[if_neg lZ,cG])
   have Gj:r.wait.length=0:=by rw[cG];rfl
   have zkn:=aD (show v.sW r=.slice (some ⟨v.gW,0,none⟩) 0 v.cW by unfold fW.sW;rw[Gj]);have zq7:W1.cell? ⟨gb,5,none⟩=some (.slice (some ⟨v.gW,0,none⟩) 0 v.cW):=by rw[k5,<-zkn.o];rfl
   clear k5 Gj cG
   go_upto_region 4 with(go_at_call 45;refine(Qj lo W1.heap.size r.recs.length v.cR (some ⟨v.gR,0,none⟩) r.recs op W1 uH.o aC).mono ?_;rintro x w2 ⟨rfl,jI⟩;obtain rfl:=jI.symm)
   clear k0 k1 k2 k3 k4 zq7 k6 k7 lZ;have k:=aI fD.o.blk;obtain⟨k0,k1,k2,k3,k4,k5,k6,k7⟩:=eT k;clear k;have z:=aI kE.o;obtain⟨z0,z1,z2,z3,z4,z5,z6,z7⟩:=eT z;clear z;have r0:=fC kE.o
   go_wp2_with fail
   have er:=aI (tF v r kE.o);refine nY (v:=.tuple #[.agg (fV (v) (r)),.string ⟨([110,111,110,101]:List UInt8).toArray⟩]) ?_ rfl ?_
   .unfold gX at er
    simp[results,zlu,go_sem,er]
   .rw[fH.o]
    obtain⟨d1,d2,d3⟩:=fD.o.done (b:=gb+1) aC;exact⟨v,rfl,d1,d2,d3⟩
  .have hc:=hq.num c Yt
   obtain⟨i,wS⟩:=zj1.1 (hq.has c Yt);obtain⟨d,hd,zdz,-⟩:=zZ wS;have fH:=aD (show nL r op=({r with recs:=r.recs.modify i λd=>{d with o:=op,h:=r.clk},wait:=dK r.wait c.c},[99,97,108,108,32]++gA c.c) by unfold nL;rw[if_neg lZ,cG];simp only[wS]);have Gj:0<r.wait.length:=by rw[cG];simp
   have zaE:=aD (show r.wait[0]? =some c by rw[cG];rfl);have zjl:=fD.o.ok.slcW;have Te:=aD zjl;obtain⟨b0,zBF,d0,Mn,-,-,-,tX,e0,e1⟩:=zjl.callsAt (k:=0) Gj;rw[zaE.o] at tX;injection tX with tX;injection Mn with Mn;injection Mn with Bj Bg;subst Bj Bg tX;simp only[qV,zpK] at e0 e1;have zFX:(((r.wait.length:Nat):Int)==0)=false:=by simp;intro e;rw[e] at Gj;simp at Gj
   have i0:(0:Int)<(r.wait.length:Int):=aC;have On:=aD (W9 wS);have HD:=aD hd;clear wS hd zdz cG zjl
   go_upto_region 5 with(go_at_call 45;refine(Qj lo W1.heap.size r.recs.length v.cR (some ⟨v.gR,0,none⟩) r.recs op W1 uH.o aC).mono ?_;rintro x w2 ⟨rfl,jI⟩;obtain rfl:=jI.symm)
   clear k0 k1 k2 k3 k4 k6 k7 lZ
   go_upto_region 6 with fail
   rw[p8.o];obtain⟨W2,n6⟩:=aN (W1.alloc (It c));rw[<-n6];have zaR:=aD (show gQ w W2 lo gb 3 v v r by rw[n6];exact(fD.o.alloc _).widen HL.o (by have:=p8.o;simp;omega));have Eh:=aD (show W2.heap[gb+1]? =some kO by rw[n6];exact dH kE.o _);have zsh:=aD (show W2.heap[gb+2]? =some (It c) by rw[n6];exact l6 _ _ p8.o.symm);clear n6 e0 e1 k5;have zEP:=aD zaR.o.ok.slcR;have k:=aI zaR.o.blk;obtain⟨k0,k1,k2,k3,k4,k5,k6,k7⟩:=eT k;clear k;have q:=aI zsh.o;have q0:=q 0;have q1:=q 1;clear q
   go_upto_region 7 with(go_at_call 91;refine(Mo lo W2.heap.size r.recs.length v.cR (some ⟨v.gR,0,none⟩) r.recs c.c W2 zEP.o aC).mono ?_;rintro x w2 ⟨rfl,jI⟩;obtain rfl:=jI.symm;rw[On.o])
   have hi:=(lX.1 HD.o).1;have eY:(0:Int)<=(i:Int):=aC;have yN:(i:Int)<(r.recs.length:Int):=aC;obtain⟨c0,c1,c2,c3,c4,c5,c6⟩:=zaR.o.ok.recAt HD.o;have fz:=λj=>zaR.o.ok.rc.frozenAt j;have S1:=zaR.o.setR (λd=>{d with o:=op}) HD.o (j:=2) (u:=.int .i64 op) aH zvE rfl;have mQ:=aD S1;have Rb:gb+1≠v.gR:=by have:=HL.o;omega
   have zxb:gb+2≠v.gR:=by have:=HL.o;omega
   clear S1
   go_upto_region 8 with fail
   obtain⟨W3,qL⟩:=aN (W2.setCell ⟨v.gR,i*7+2,none⟩ (.int .i64 op));rw[<-qL] at mQ⊢;have zb3:=aD (show W3.heap[gb+1]? =some kO by rw[qL];exact(dX _ _ _ (gb+1) Rb).trans Eh.o);have zgH:=aD (show W3.heap[gb+2]? =some (It c) by rw[qL];exact(dX _ _ _ (gb+2) zxb).trans zsh.o);have Bo:(r.recs.modify i λd=>{d with o:=op})[i]? =some {d with o:=op}:=by rw[Iz];simp[HD.o]
   have Xb:=aD Bo;clear qL c0 c1 c2 c3 c4 c5 c6 fz k0 k1 k2 k3 k4 k5 k6 k7 q0 q1 Bo;obtain⟨r1,j9⟩:=aN ({r with recs:=r.recs.modify i λd=>{d with o:=op}}:b6);rw[<-j9] at mQ;have jJ:=aD j9;have Jg:r1.recs.length=r.recs.length:=by rw[j9];exact Nv _ _ _
   have zqS:=aD (show r1.recs[i]? =some {d with o:=op} by rw[j9];exact Xb.o);have Dn:(i:Int)<(r1.recs.length:Int):=by rw[Jg];exact yN
   clear j9 Jg;have k:=aI mQ.o.blk;obtain⟨k0,k1,k2,k3,k4,k5,k6,k7⟩:=eT k;clear k;obtain⟨c0,c1,c2,c3,c4,c5,c6⟩:=mQ.o.ok.recAt zqS.o;have fz:=λj=>mQ.o.ok.rc.frozenAt j;have S2:=mQ.o.setR (λd=>{d with h:=r1.clk}) zqS.o (j:=4) (u:=.int .i64 r1.clk) aH zvd rfl;have tN:=aD S2;clear S2
   go_upto_region 9 with fail
   obtain⟨W4,rN⟩:=aN (W3.setCell ⟨v.gR,i*7+4,none⟩ (.int .i64 r1.clk));rw[<-rN] at tN⊢;have S9:=aD (show W4.heap[gb+1]? =some kO by rw[rN];exact(dX _ _ _ (gb+1) Rb).trans zb3.o);have Y1:=aD (show W4.heap[gb+2]? =some (It c) by rw[rN];exact(dX _ _ _ (gb+2) zxb).trans zgH.o);clear rN c0 c1 c2 c3 c4 c5 c6 fz k0 k1 k2 k3 k4 k5 k6 k7;obtain⟨r2,uM⟩:=aN ({r1 with recs:=r1.recs.modify i λd=>{d with h:=r1.clk}}:b6);rw[<-uM] at tN;have zJm:r2.wait.length<=1000:=by rw[uM,jJ.o];exact hs.nw
   replace fH:=aD (show nL r op=({r2 with wait:=dK r2.wait c.c},[99,97,108,108,32]++gA c.c) by rw[fH.o,uM,jJ.o];simp only[zfy]);clear uM;have zBV:=aD tN.o.ok.slcW;have k:=aI tN.o.blk;obtain⟨k0,k1,k2,k3,k4,k5,k6,k7⟩:=eT k;clear k;have q:=aI Y1.o;have q0:=q 0;have q1:=q 1;clear q;have kf:=fC tN.o.blk
   go_upto_region 10 with(go_at_call 95;refine(zgR lo W4.heap.size r2.wait.length v.cW (some ⟨v.gW,0,none⟩) r2.wait c.c W4 zBV.o aC).mono ?_;rintro x w5 ⟨_,rfl,g5,c5,rfl,cY,b5⟩;have zc2:=aD cY;have lQ:=aD b5;have kx:=(mU b5 tN.o.blk).1;have zjF:=aI kx 5;have xL:=fC kx;clear cY b5 kx)
   obtain⟨W5,xU⟩:=aN (w5.setCell ⟨gb,5,none⟩ (.slice (some ⟨g5,0,none⟩) (dK r2.wait c.c).length c5));have Ex:=aD (show gQ w W5 lo gb 3 v {v with gW:=g5,cW:=c5} {r2 with wait:=dK r2.wait c.c} by rw[xU];exact tN.o.setW lQ.o zc2.o rfl);have tD:=aD (show W5.heap[gb+1]? =some kO by rw[xU];exact(dX w5 _ _ (gb+1) zkk).trans (mU lQ.o S9.o).1);have zi8:=aD (show W5.heap[gb+2]? =some (It c) by rw[xU];exact(dX w5 _ _ (gb+2) (by show gb+2≠gb;omega)).trans (mU lQ.o Y1.o).1);rw[<-xU];clear xU zjF xL kf q0 q1 k0 k1 k2 k3 k4 k5 k6 k7;obtain⟨v5,oA⟩:=aN ({v with gW:=g5,cW:=c5}:fW);obtain⟨r5,eW⟩:=aN ({r2 with wait:=dK r2.wait c.c}:b6);rw[<-oA,<-eW] at Ex;rw[<-eW] at fH;clear oA eW;obtain⟨m,hm⟩:∃m:Nat,c.c=(m:Int):=⟨c.c.toNat,aC⟩;have zb0:m<=100000000:=aC;have Ko:(Ly (m:Int)).length<=20:=by rw[Ww];exact Tb aC
   have k:=aI Ex.o.blk;obtain⟨k0,k1,k2,k3,k4,k5,k6,k7⟩:=eT k;clear k;have q0:=aI zi8.o 0;rw[hm] at q0 fH;clear hm
   go_wp2_with fail
   go_region_with (go_at_call 94;refine(zdg m zb0 _).mono ?_;rintro x w6 ⟨rfl,uE⟩;have An:cH W5.heap.size W5 w6:=⟨uE.os,uE.tape,uE.output,uE.size,uE.block⟩;have kV:=aD An;have k:=aI (mU An Ex.o.blk).1;have r0:=fC (mU An tD.o).1;have z:=aI (mU An tD.o).1;obtain⟨k0,k1,k2,k3,k4,k5,k6,k7⟩:=eT k;obtain⟨z0,z1,z2,z3,z4,z5,z6,z7⟩:=eT z;clear k z uE An)
   all_goals
    go_wp2_with fail
    have Fv:=Ex.o.keep kV.o;have Vp:=(mU kV.o tD.o).1;have er:=aI (tF v5 r5 Vp);refine nY (v:=.tuple #[.agg (fV (v5) (r5)),.string ⟨([99,97,108,108,32]++gA (m:Int):List UInt8).toArray⟩]) ?_ rfl ?_
    .unfold gX at er
     simp[results,zlu,go_sem,er,gA,Oc]
    .rw[fH.o]
     obtain⟨d1,d2,d3⟩:=Fv.done (b:=gb+1) aC;exact⟨v5,rfl,d1,d2,d3⟩
theorem zFw (lo:Nat)(v:fW)(r:b6)(op:Int)(w:aE)(h:eH w lo v r)(hs:Su r)(eL:lo<=w.heap.size)(hq:∀x∈r.back,1<=x.c/\x.c<=99):
 gT aK 65 #[.agg (fV v r),.int .i64 op] w (Wm lo v w (l9 r op)):=by
 obtain⟨gb,O,Z,fZ,HO,HZ,fD,kE,p8,HL⟩:=zgB h eL;clear h
 go_enter Tryz.func65,Tryz.ntmps65
 go_upto_region 1 with fail
 rw[<-HO.o,<-HZ.o,<-fZ.o];obtain⟨W1,dC⟩:=aN ((w.alloc O).alloc Z);rw[<-dC] at fD kE p8⊢;clear dC;have k:=aI fD.o.blk;obtain⟨k0,k1,k2,k3,k4,k5,k6,k7⟩:=eT k;clear k;have Qo:=hs.nr
 go_upto_region 2 with(go_at_call 90;refine(zvN lo v r W1 fD.o.ok aC hs.off).mono ?_;rintro x w2 ⟨_,rfl,gf,cf,rfl,cY,b2⟩;have Se:=aD cY;have iV:=aD b2;clear cY b2)
 have mL:=aD (fD.o.keep iV.o);have Eh:=aD (mU iV.o kE.o).1;have zaN:=aD (Se.o.lt gf rfl);clear k0 k1 k2 k3 k4 k5 k6 k7;have k:=aI mL.o.blk;obtain⟨k0,k1,k2,k3,k4,k5,k6,k7⟩:=eT k;clear k;have uH:=aD mL.o.ok.slcR;by_cases lZ:0<dE r.recs op
 .have fH:=aD (show l9 r op=(r,[116,97,108,107,115]) by unfold l9;rw[if_pos lZ])
  go_upto_region 3 with(go_at_call 45;refine(Qj lo w2.heap.size r.recs.length v.cR (some ⟨v.gR,0,none⟩) r.recs op w2 uH.o aC).mono ?_;rintro x w9 ⟨rfl,jI⟩;obtain rfl:=jI.symm)
  clear k0 k1 k2 k3 k4 k5 k6 k7 lZ;have k:=aI mL.o.blk;obtain⟨k0,k1,k2,k3,k4,k5,k6,k7⟩:=eT k;clear k;have z:=aI Eh.o;obtain⟨z0,z1,z2,z3,z4,z5,z6,z7⟩:=eT z;clear z;have r0:=fC Eh.o
  go_wp2_with fail
  have er:=aI (tF v r Eh.o);refine nY (v:=.tuple #[.agg (fV (v) (r)),.string ⟨([116,97,108,107,115]:List UInt8).toArray⟩]) ?_ rfl ?_
  .unfold gX at er
   simp[results,zhA,go_sem,er]
  .rw[fH.o]
   obtain⟨d1,d2,d3⟩:=mL.o.done (b:=gb+1) aC;exact⟨v,rfl,d1,d2,d3⟩
 .rcases xS:r.back with _|⟨c,cs⟩
  .have fH:=aD (show l9 r op=(r,[110,111,110,101]) by unfold l9;rw[if_neg lZ,xS])
   have Gj:r.back.length=0:=by rw[xS];rfl
   have zkn:=aD (show v.sB r=.slice (some ⟨v.gB,0,none⟩) 0 v.cB by unfold fW.sB;rw[Gj]);have zfT:w2.cell? ⟨gb,6,none⟩=some (.slice (some ⟨v.gB,0,none⟩) 0 v.cB):=by rw[k6,<-zkn.o];rfl
   clear k6 Gj xS
   go_upto_region 5 with(go_at_call 45;refine(Qj lo w2.heap.size r.recs.length v.cR (some ⟨v.gR,0,none⟩) r.recs op w2 uH.o aC).mono ?_;rintro x w9 ⟨rfl,jI⟩;obtain rfl:=jI.symm)
   clear k0 k1 k2 k3 k4 k5 zfT k7 lZ;have k:=aI mL.o.blk;obtain⟨k0,k1,k2,k3,k4,k5,k6,k7⟩:=eT k;clear k;have z:=aI Eh.o;obtain⟨z0,z1,z2,z3,z4,z5,z6,z7⟩:=eT z;clear z;have r0:=fC Eh.o
   go_wp2_with fail
   have er:=aI (tF v r Eh.o);refine nY (v:=.tuple #[.agg (fV (v) (r)),.string ⟨([110,111,110,101]:List UInt8).toArray⟩]) ?_ rfl ?_
   .unfold gX at er
    simp[results,zhA,go_sem,er]
   .rw[fH.o]
    obtain⟨d1,d2,d3⟩:=mL.o.done (b:=gb+1) aC;exact⟨v,rfl,d1,d2,d3⟩
  .have hc:=hq c zbO
   have Gj:0<r.back.length:=by rw[xS];simp
   have zaE:=aD (show r.back[0]? =some c by rw[xS];rfl);have zFX:(((r.back.length:Nat):Int)==0)=false:=by simp;intro e;rw[e] at Gj;simp at Gj
   rcases gE:oX r.o r.recs with _|⟨l,fs⟩
   .have fH:=aD (show l9 r op=(r,[98,117,115,121]) by unfold l9;rw[if_neg lZ,xS,gE])
    simp only[zP];clear xS gE
    go_upto_region 7 with(go_at_call 45;refine(Qj lo w2.heap.size r.recs.length v.cR (some ⟨v.gR,0,none⟩) r.recs op w2 uH.o aC).mono ?_;rintro x w9 ⟨rfl,jI⟩;obtain rfl:=jI.symm)
    clear k0 k1 k2 k3 k4 k5 k6 k7 lZ;have k:=aI mL.o.blk;obtain⟨k0,k1,k2,k3,k4,k5,k6,k7⟩:=eT k;clear k;have z:=aI Eh.o;obtain⟨z0,z1,z2,z3,z4,z5,z6,z7⟩:=eT z;clear z;have r0:=fC Eh.o
    go_wp2_with fail
    have er:=aI (tF v r Eh.o);refine nY (v:=.tuple #[.agg (fV (v) (r)),.string ⟨([98,117,115,121]:List UInt8).toArray⟩]) ?_ rfl ?_
    .unfold gX at er
     simp[results,zhA,go_sem,er]
    .rw[fH.o]
     obtain⟨d1,d2,d3⟩:=mL.o.done (b:=gb+1) aC;exact⟨v,rfl,d1,d2,d3⟩
   .have fH:=aD (show l9 r op=({r with back:=dK r.back c.c,recs:=r.recs++[⟨c.c,l,op,r.clk,r.clk,-1,eP⟩]},[99,97,108,108,32]++gA c.c) by unfold l9;rw[if_neg lZ,xS,gE])
    obtain⟨nf,Gs⟩:=aN ((l::fs).length);have Af:=zke r.recs r.o.ln.toNat;have zl7:=(Aa hs.off).2.1;have Jm:(oX r.o r.recs).length=nf:=by rw[gE,Gs]
    have zFy:nf<=6:=by unfold oX at Jm;omega
    have zbH:0<nf:=by rw[Gs];simp
    have Pn:=aD (show w2.ownsRow W1.heap.size 3 1 (.slice (some ⟨gf,0,none⟩) nf cf) nf (fN (l::fs)) by have:=Se.o;rw[Jm,gE] at this;exact this);rw[<-Gs];have oC:((nf:Int)==0)=false:=pD;have zzI:(0:Int)<(nf:Int):=aC;have i0:(0:Int)<(r.back.length:Int):=aC;have Fa:=mL.o.ok.slcB;obtain⟨b0,zBF,d0,Mn,-,-,-,tX,e0,e1⟩:=Fa.callsAt (k:=0) Gj;rw[zaE.o] at tX;injection tX with tX;injection Mn with Mn;injection Mn with Bj Bg;subst Bj Bg tX;simp only[qV,zpK] at e0 e1;clear xS gE Gs Af zl7 Jm Fa
    go_upto_region 8 with(go_at_call 45;refine(Qj lo w2.heap.size r.recs.length v.cR (some ⟨v.gR,0,none⟩) r.recs op w2 uH.o aC).mono ?_;rintro x w9 ⟨rfl,jI⟩;obtain rfl:=jI.symm)
    clear k0 k1 k2 k3 k4 k5 k7 lZ
    go_upto_region 9 with fail
    obtain⟨gc,Rt⟩:=aN w2.heap.size;have zBS:=aD Rt;rw[<-Rt];obtain⟨W3,qL⟩:=aN (w2.alloc (It c));rw[<-qL];have zcr:=aD (show gQ w W3 lo gb 2 v v r by rw[qL];exact mL.o.alloc _);have zb3:=aD (show W3.heap[gb+1]? =some kO by rw[qL];exact dH Eh.o _);have zgH:=aD (show W3.heap[gc]? =some (It c) by rw[qL];exact l6 _ _ Rt);have zqI:=aD (show W3.ownsRow W1.heap.size 3 1 (.slice (some ⟨gf,0,none⟩) nf cf) nf (fN (l::fs)) by rw[qL];exact Bm Pn.o (λb hb=>qA _ _ b hb));clear qL e0 e1 k6 Rt;have aT:=HL.o;have zLR:gb+2<=gf:=by have:=zaN.o;have:=p8.o;omega
    have zLU:gf<gc:=by have:=zaN.o;have:=zBS.o;omega
    have zId:=aD zcr.o.ok.slcB;have oI:=hs.nb;have k:=aI zcr.o.blk;obtain⟨k0,k1,k2,k3,k4,k5,k6,k7⟩:=eT k;clear k;have q:=aI zgH.o;have q0:=q 0;have q1:=q 1;clear q;have kf:=fC zcr.o.blk
    go_upto_region 10 with(go_at_call 95;refine(zgR lo W3.heap.size r.back.length v.cB (some ⟨v.gB,0,none⟩) r.back c.c W3 zId.o aC).mono ?_;rintro x w5 ⟨_,rfl,g5,c5,rfl,cY,b5⟩;have zc2:=aD cY;have lQ:=aD b5;have kx:=(mU b5 zcr.o.blk).1;have Ri:=aI kx 6;have xL:=fC kx;clear cY b5 kx)
    obtain⟨W4,rN⟩:=aN (w5.setCell ⟨gb,6,none⟩ (.slice (some ⟨g5,0,none⟩) (dK r.back c.c).length c5));have Dg:=aD (show gQ w W4 lo gb 2 v {v with gB:=g5,cB:=c5} {r with back:=dK r.back c.c} by rw[rN];exact zcr.o.setB lQ.o zc2.o rfl);have S9:=aD (show W4.heap[gb+1]? =some kO by rw[rN];exact(dX w5 _ _ (gb+1) zkk).trans (mU lQ.o zb3.o).1);have Y1:=aD (show W4.heap[gc]? =some (It c) by rw[rN];exact(dX w5 _ _ gc (by show gc≠gb;omega)).trans (mU lQ.o zgH.o).1);have zAc:=aD (show W4.ownsRow W1.heap.size 3 1 (.slice (some ⟨gf,0,none⟩) nf cf) nf (fN (l::fs)) by rw[rN];exact Bn zqI.o ((dX w5 _ _ gf (by show gf≠gb;omega)).trans (lQ.o.block gf (zqI.o.lt gf rfl).2)));rw[<-rN];clear rN Ri xL kf q0 q1 k0 k1 k2 k3 k4 k5 k6 k7;obtain⟨v1,pS⟩:=aN ({v with gB:=g5,cB:=c5}:fW);obtain⟨r1,j9⟩:=aN ({r with back:=dK r.back c.c}:b6);have zng:v1.gR=v.gR:=by rw[pS]
    have zLM:v1.gR<gb:=by rw[zng];exact aT.1
    have zLz:r1.recs.length<=1000:=by rw[j9];exact hs.nr
    rw[<-pS,<-j9] at Dg;replace fH:=aD (show l9 r op=({r1 with recs:=r1.recs++[⟨c.c,l,op,r1.clk,r1.clk,-1,eP⟩]},[99,97,108,108,32]++gA c.c) by rw[fH.o,j9]);clear pS j9 zng;have k:=aI Dg.o.blk;obtain⟨k0,k1,k2,k3,k4,k5,k6,k7⟩:=eT k;clear k;have q0:=aI Y1.o 0;have Me:W4.cell? ⟨gf,0,none⟩=some (.int .i64 l):=zAc.o.cellAt 0 aC;have zAz:gc<W4.heap.size:=gM Y1.o
    go_cut [] from 38 to 53 (λwx=>∃g1 c1,gQ w wx lo gb 2 v {v1 with gR:=g1,cR:=c1} {r1 with recs:=r1.recs++[⟨c.c,l,op,r1.clk,r1.clk,-1,eP⟩]}/\wx.heap[gc]? =some (It c)/\wx.heap[gb+1]? =some kO)
    case first=>
     obtain⟨i0,eY,fM,dF,hY⟩:=C8 zsI;have HI:=aD eY;clear eY;have kB:∀o:Obj,(W4.alloc o).cell? ⟨gb,4,none⟩=some (v1.sR r1):=λo=>B6 k4 o;have zl5:gb<W4.heap.size:=aC;have S0:W4.cell? ⟨gb,3,none⟩=some (.int .i64 r1.clk)/\W4.cell? ⟨gc,0,none⟩=some (.int .i64 c.c)/\W4.cell? ⟨gf,0,none⟩=some (.int .i64 l):=⟨k3,q0,Me⟩;have Ib:=aD S0;clear S0;obtain⟨g1,c1,w3,fQ,qZ,qJ,B1,Km⟩:=zh7 (P:=aK) (W4.alloc (.cells #[.int .i64 c.c,.int .i64 l,.int .i64 op,.int .i64 r1.clk,.int .i64 r1.clk,.int .i64 (-1),.string eP] 50)).drew 45 45 lo 50 i0 (.agg #[.int .i64 0,.int .i64 0,.int .i64 0,.int .i64 0,.int .i64 0,.int .i64 0,.string ⟨#[]⟩]) 7 64 zsR HI.o fM dF hY rfl aH v1.gR v1.cR r1.recs.length (recs r1.recs) (Bm Dg.o.ok.rc (λb hb=>qA _ _ b hb)) ⟨W4.heap.size,0,none⟩ 1 1 (bO.cells ⟨c.c,l,op,r1.clk,r1.clk,-1,eP⟩) rfl (Ez (cs:=(bO.cells ⟨c.c,l,op,r1.clk,r1.clk,-1,eP⟩).toArray) (gV _ _)) zik Z7 aC (by have:=Dg.o.lob;simp;omega);have pB:=aD qJ;have zdf:=aD qZ;have zaw:=aD Km;have kx:=(Az qJ (dH Dg.o.blk _) aC).1;have zaZ:=aI kx 4;have xL:=fC kx;clear qZ qJ B1 Km kx;refine wp_RU10 W4 w3 gb gc gf v1.gR r1.recs.length v1.cR g1 c1 _ _ c.c l op r1.clk rfl rfl rfl rfl rfl k3 k4 q0 Me aC fQ zaZ (xL _) rfl ?_;clear fQ zaZ xL;rw[Go.Mt.Cq,zr6];simp only[Go.Mt.yF,dU,dW,zi6,lRU10,Dy,Ey]
     go_wp2_with fail
     go_meet
     refine⟨g1,c1,((Dg.o.alloc _).drew).appR pB.o zdf.o rfl zaw.o,?_,?_⟩
     .exact(dX w3 _ _ gc (by show gc≠gb;omega)).trans (Az pB.o (Ku (dH Y1.o _)) aC).1
     .exact(dX w3 _ _ (gb+1) zkk).trans (Az pB.o (Ku (dH S9.o _)) aC).1
    case rest=>
     obtain⟨g1,c1,Cd,Jr,Iu⟩:=hcut;clear k0 k1 k2 k3 k4 k5 k6 k7 q0 Me zAz;obtain⟨W5,xU⟩:=aN wc;have zi8:=aD (show W5.heap[gc]? =some (It c) by rw[xU];exact Jr);have tD:=aD (show W5.heap[gb+1]? =some kO by rw[xU];exact Iu);have Ex:=aD (show gQ w W5 lo gb 2 v {v1 with gR:=g1,cR:=c1} {r1 with recs:=r1.recs++[⟨c.c,l,op,r1.clk,r1.clk,-1,eP⟩]} by rw[xU];exact Cd);clear Cd Jr Iu;rw[<-xU];clear xU;obtain⟨v5,oA⟩:=aN ({v1 with gR:=g1,cR:=c1}:fW);obtain⟨r5,eW⟩:=aN ({r1 with recs:=r1.recs++[⟨c.c,l,op,r1.clk,r1.clk,-1,eP⟩]}:b6);rw[<-oA,<-eW] at Ex;rw[<-eW] at fH;clear oA eW;obtain⟨m,hm⟩:∃m:Nat,c.c=(m:Int):=⟨c.c.toNat,aC⟩;have zb0:m<=100000000:=aC;have Ko:(Ly (m:Int)).length<=20:=by rw[Ww];exact Tb aC
     have k:=aI Ex.o.blk;obtain⟨k0,k1,k2,k3,k4,k5,k6,k7⟩:=eT k;clear k;have q0:=aI zi8.o 0;rw[hm] at q0 fH;clear hm
     go_wp2_with fail
     go_region_with (go_at_call 94;refine(zdg m zb0 _).mono ?_;rintro x w6 ⟨rfl,uE⟩;have An:cH W5.heap.size W5 w6:=⟨uE.os,uE.tape,uE.output,uE.size,uE.block⟩;have kV:=aD An;have k:=aI (mU An Ex.o.blk).1;have r0:=fC (mU An tD.o).1;have z:=aI (mU An tD.o).1;obtain⟨k0,k1,k2,k3,k4,k5,k6,k7⟩:=eT k;obtain⟨z0,z1,z2,z3,z4,z5,z6,z7⟩:=eT z;clear k z uE An)
     all_goals
      go_wp2_with fail
      have Fv:=Ex.o.keep kV.o;have Vp:=(mU kV.o tD.o).1;have er:=aI (tF v5 r5 Vp);refine nY (v:=.tuple #[.agg (fV (v5) (r5)),.string ⟨([99,97,108,108,32]++gA (m:Int):List UInt8).toArray⟩]) ?_ rfl ?_
      .unfold gX at er
       simp[results,zhA,go_sem,er,gA,Oc]
      .rw[fH.o]
       obtain⟨d1,d2,d3⟩:=Fv.done (b:=gb+1) aC;exact⟨v5,rfl,d1,d2,d3⟩
theorem zEH (lo:Nat)(v:fW)(r:b6)(call:Int)(w:aE)(h:eH w lo v r)(hs:Su r)(eL:lo<=w.heap.size):
 gT aK 66 #[.agg (fV v r),.int .i64 call] w (Wm lo v w (mP r call)):=by
 obtain⟨gb,O,Z,fZ,HO,HZ,fD,kE,p8,HL⟩:=zgB h eL;clear h
 go_enter Tryz.func66,Tryz.ntmps66
 go_upto_region 1 with fail
 rw[<-HO.o,<-HZ.o,<-fZ.o];obtain⟨W1,dC⟩:=aN ((w.alloc O).alloc Z);rw[<-dC] at fD kE p8⊢;clear dC;have k:=aI fD.o.blk;obtain⟨k0,k1,k2,k3,k4,k5,k6,k7⟩:=eT k;clear k;have Qo:=hs.nr;have Kx:=hs.nw;have oI:=hs.nb;have uH:=aD fD.o.ok.slcR;have F7:=aD fD.o.ok.slcB;have Rb:gb+1≠v.gR:=by have:=HL.o;omega
 have zaX:gb+1≠v.gB:=by have:=HL.o;omega
 have z:=aI kE.o;obtain⟨z0,z1,z2,z3,z4,z5,z6,z7⟩:=eT z;clear z;have r0:=fC kE.o;rcases wS:gU r.recs call with _|i
 .have On:=aD (zh0 wS)
  rcases uT:uL r.back call with _|j
  .have Pe:=aD (zh0 uT)
   have fH:=aD (show mP r call=(r,[103,111,110,101]) by unfold mP;rw[wS];simp[uT]);clear wS uT
   go_upto_region 9 with(first|(go_at_call 91;refine(Mo lo W1.heap.size r.recs.length v.cR (some ⟨v.gR,0,none⟩) r.recs call W1 uH.o aC).mono ?_;rintro x w9 ⟨rfl,jI⟩;obtain rfl:=jI.symm;rw[On.o])|(go_at_call 92;refine(zdu lo W1.heap.size r.back.length v.cB (some ⟨v.gB,0,none⟩) r.back call W1 F7.o aC).mono ?_;rintro x w9 ⟨rfl,jI⟩;obtain rfl:=jI.symm;rw[Pe.o]))
   clear k0 k1 k2 k3 k4 k5 k6 k7 z0 z1 z2 z3 z4 z5 z6 z7 r0;have k:=aI fD.o.blk;obtain⟨k0,k1,k2,k3,k4,k5,k6,k7⟩:=eT k;clear k;have z:=aI kE.o;obtain⟨z0,z1,z2,z3,z4,z5,z6,z7⟩:=eT z;clear z;have r0:=fC kE.o
   go_wp2_with fail
   have er:=aI (tF v r kE.o);refine nY (v:=.tuple #[.agg (fV (v) (r)),.string ⟨([103,111,110,101]:List UInt8).toArray⟩]) ?_ rfl ?_
   .unfold gX at er
    simp[results,zeq,go_sem,er]
   .rw[fH.o]
    obtain⟨d1,d2,d3⟩:=fD.o.done (b:=gb+1) aC;exact⟨v,rfl,d1,d2,d3⟩
  .have Pe:=aD (W9 uT)
   have zl3:(0:Int)<=(j:Int):=aC;have fH:=aD (show mP r call=({r with back:=dK r.back call},[111,102,102]) by unfold mP;rw[wS];simp[uT]);clear wS uT
   go_upto_region 7 with(first|(go_at_call 91;refine(Mo lo W1.heap.size r.recs.length v.cR (some ⟨v.gR,0,none⟩) r.recs call W1 uH.o aC).mono ?_;rintro x w9 ⟨rfl,jI⟩;obtain rfl:=jI.symm;rw[On.o])|(go_at_call 92;refine(zdu lo W1.heap.size r.back.length v.cB (some ⟨v.gB,0,none⟩) r.back call W1 F7.o aC).mono ?_;rintro x w9 ⟨rfl,jI⟩;obtain rfl:=jI.symm;rw[Pe.o]))
   have kf:=fC fD.o.blk
   go_upto_region 8 with(go_at_call 95;refine(zgR lo W1.heap.size r.back.length v.cB (some ⟨v.gB,0,none⟩) r.back call W1 F7.o aC).mono ?_;rintro x w5 ⟨_,rfl,g5,c5,rfl,cY,b5⟩;have zc2:=aD cY;have lQ:=aD b5;have kx:=(mU b5 fD.o.blk).1;have Ri:=aI kx 6;have xL:=fC kx;clear cY b5 kx)
   obtain⟨W4,rN⟩:=aN (w5.setCell ⟨gb,6,none⟩ (.slice (some ⟨g5,0,none⟩) (dK r.back call).length c5));have Dg:=aD (show gQ w W4 lo gb 2 v {v with gB:=g5,cB:=c5} {r with back:=dK r.back call} by rw[rN];exact fD.o.setB lQ.o zc2.o rfl);have S9:=aD (show W4.heap[gb+1]? =some kO by rw[rN];exact(dX w5 _ _ (gb+1) aQ).trans (mU lQ.o kE.o).1);rw[<-rN];clear rN Ri xL kf k0 k1 k2 k3 k4 k5 k6 k7 z0 z1 z2 z3 z4 z5 z6 z7 r0;obtain⟨v5,oA⟩:=aN ({v with gB:=g5,cB:=c5}:fW);obtain⟨r5,eW⟩:=aN ({r with back:=dK r.back call}:b6);rw[<-oA,<-eW] at Dg;rw[<-eW] at fH;clear oA eW;have k:=aI Dg.o.blk;obtain⟨k0,k1,k2,k3,k4,k5,k6,k7⟩:=eT k;clear k;have z:=aI S9.o;obtain⟨z0,z1,z2,z3,z4,z5,z6,z7⟩:=eT z;clear z;have r0:=fC S9.o
   go_wp2_with fail
   have er:=aI (tF v5 r5 S9.o);refine nY (v:=.tuple #[.agg (fV (v5) (r5)),.string ⟨([111,102,102]:List UInt8).toArray⟩]) ?_ rfl ?_
   .unfold gX at er
    simp[results,zeq,go_sem,er]
   .rw[fH.o]
    obtain⟨d1,d2,d3⟩:=Dg.o.done (b:=gb+1) aC;exact⟨v5,rfl,d1,d2,d3⟩
 .have On:=aD (W9 wS)
  obtain⟨d,hd,-,-⟩:=zZ wS;have hi:=(lX.1 hd).1;have eY:(0:Int)<=(i:Int):=aC;have yN:(i:Int)<(r.recs.length:Int):=aC;have hop:opAt r.recs i=d.o:=by unfold opAt;rw[hd]
  obtain⟨c0,c1,c2,c3,c4,c5,c6⟩:=fD.o.ok.recAt hd;have HD:=aD hd;by_cases zsY:0<d.o
  .have fH:=aD (show mP r call=(lP r i vT,[100,111,110,101]) by unfold mP;rw[wS];simp only;rw[if_pos (by rw[hop];exact zsY)])
   clear wS hd hop
   go_upto_region 3 with(go_at_call 91;refine(Mo lo W1.heap.size r.recs.length v.cR (some ⟨v.gR,0,none⟩) r.recs call W1 uH.o aC).mono ?_;rintro x w9 ⟨rfl,jI⟩;obtain rfl:=jI.symm;rw[On.o])
   clear c0 c1 c2 c3 c4 c5 c6 z0 z1 z2 z3 z4 z5 z6 z7 r0
   go_wp2_with (go_at_call 96;refine(zkv lo i v r d vT W1 fD.o.ok HD.o aC aC ztY).mono ?_;rintro x w5 ⟨g5,c5,rfl,bV,jR,Gg⟩;obtain⟨v5,oA⟩:=aN ({v with gW:=g5,cW:=c5}:fW);obtain⟨r5,eW⟩:=aN (lP r i vT:b6);rw[<-oA,<-eW] at bV⊢;have Y3:=aD oA;have qB:=aD eW;have wC:=aD bV;have uX:=aD jR;have zja:=aD Gg;have kr:=jR.blk kE.o Rb zaX;have tD:=aD kr;have z:=aI kr;have r0:=fC kr;obtain⟨z0,z1,z2,z3,z4,z5,z6,z7⟩:=eT z;clear bV jR Gg kr z oA eW)
   have oA:=Y3.o;have eW:=qB.o;rw[<-eW] at fH;have er:=aI (tF v5 r5 tD.o);refine nY (v:=.tuple #[.agg (fV (v5) (r5)),.string ⟨([100,111,110,101]:List UInt8).toArray⟩]) ?_ rfl ?_
   .unfold gX at er
    simp[results,zeq,go_sem,er]
   .rw[fH.o]
    have hl:=HL.o;have hz:=p8.o;have hg:=zja.o;have fA:=fZ.o;exact⟨v5,rfl,wC.o.set8 tV,(fD.o.turn.same uX.o).set8 aC,by rw[oA];exact⟨.inl rfl,.inr L4,.inl rfl,rfl⟩⟩
  .have fH:=aD (show mP r call=(lP r i vS,[108,101,102,116]) by unfold mP;rw[wS];simp only;rw[if_neg (by rw[hop];exact zsY)])
   clear wS hd hop
   go_upto_region 5 with(go_at_call 91;refine(Mo lo W1.heap.size r.recs.length v.cR (some ⟨v.gR,0,none⟩) r.recs call W1 uH.o aC).mono ?_;rintro x w9 ⟨rfl,jI⟩;obtain rfl:=jI.symm;rw[On.o])
   clear c0 c1 c2 c3 c4 c5 c6 z0 z1 z2 z3 z4 z5 z6 z7 r0
   go_wp2_with (go_at_call 96;refine(zkv lo i v r d vS W1 fD.o.ok HD.o aC aC ztY).mono ?_;rintro x w5 ⟨g5,c5,rfl,bV,jR,Gg⟩;obtain⟨v5,oA⟩:=aN ({v with gW:=g5,cW:=c5}:fW);obtain⟨r5,eW⟩:=aN (lP r i vS:b6);rw[<-oA,<-eW] at bV⊢;have Y3:=aD oA;have qB:=aD eW;have wC:=aD bV;have uX:=aD jR;have zja:=aD Gg;have kr:=jR.blk kE.o Rb zaX;have tD:=aD kr;have z:=aI kr;have r0:=fC kr;obtain⟨z0,z1,z2,z3,z4,z5,z6,z7⟩:=eT z;clear bV jR Gg kr z oA eW)
   have oA:=Y3.o;have eW:=qB.o;rw[<-eW] at fH;have er:=aI (tF v5 r5 tD.o);refine nY (v:=.tuple #[.agg (fV (v5) (r5)),.string ⟨([108,101,102,116]:List UInt8).toArray⟩]) ?_ rfl ?_
   .unfold gX at er
    simp[results,zeq,go_sem,er]
   .rw[fH.o]
    have hl:=HL.o;have hz:=p8.o;have hg:=zja.o;have fA:=fZ.o;exact⟨v5,rfl,wC.o.set8 tV,(fD.o.turn.same uX.o).set8 aC,by rw[oA];exact⟨.inl rfl,.inr L4,.inl rfl,rfl⟩⟩
def dD (r:b6)(m:Int)(k:Nat):b6×List UInt8:=(r.wait.take k).foldl mD ({r with clk:=r.clk+m},[97,116,32]++gA (r.clk+m))
variable {m:Int}{k:Nat}{x:bH}
theorem zf4 (h:r.wait[k]? =some x):dD r m (k+1)=mD (dD r m k) x:=by
 unfold dD;rw[De,h,zjS];rfl
theorem zcN (r:b6)(m:Int):dD r m r.wait.length=tK r m:=by
 unfold dD tK;rw[List.take_of_length_le (bM _)]
theorem zbY (rs:List bO)(c:Int):(gU rs c).isSome=rs.any (Bu c):=by unfold gU;exact List.findIdx?_isSome
variable {d:bO}{f:bO->bO}
theorem zuu (hd:rs[i]? =some d)(hc:d.c≠c)(h:(gU rs c).isSome=true):(gU (rs.modify i f) c).isSome=true:=by
 rw[zbY,Ws] at*;obtain⟨x,hx,hp⟩:=h;obtain⟨j,hj,e⟩:=Mz.1 hx;have fO:i≠j:=by
  intro e2;subst e2;rw[oQ hj,e] at hd;injection hd with hd;unfold Bu at hp;simp at hp;exact hc (hd▸hp.1)
 refine⟨x,?_,hp⟩;refine yY.2 ⟨j,?_⟩;rw[Iz,oQ hj,e];simp[fO]
structure TiredOk (r:b6)(m:Int)(k:Nat):Prop where
 nrec:(dD r m k).1.recs.length=r.recs.length
 off:(dD r m k).1.o=r.o
 clk:(dD r m k).1.clk=r.clk+m
 nb:(dD r m k).1.back.length<=r.back.length+k
 nw:(dD r m k).1.wait.length<=r.wait.length
 txt:(dD r m k).2.length<=30+30*k
 has:∀j x,k<=j->r.wait[j]? =some x->(gU (dD r m k).1.recs x.c).isSome=true
 fr:∀d∈(dD r m k).1.recs,0<=d.f/\d.f<=100000
def V3 (xs:List bH)(q:Int):(dK xs q).length<=xs.length:=zdA _ _
theorem Qr (h0:0<=c)(h1:c<=1000000):(gA c).length<=20:=by
 obtain⟨n,rfl⟩:∃n:Nat,c=(n:Int):=⟨c.toNat,aC⟩;unfold gA;rw[Ww];exact Tb aC
variable {bt:b6×List UInt8}
theorem Tc (hi:gU bt.1.recs x.c=some i)(hd:bt.1.recs[i]? =some d):
 mD bt x=if bt.1.o.pt<=bt.1.clk-d.f then({lP bt.1 i uK with back:=bt.1.back++[x]},bt.2++[32]++gA x.c) else bt:=by
 unfold mD;rw[hi];simp only;rw[show Yw bt.1.recs i=d.f by unfold Yw;rw[hd]]
theorem zoo (hq:zeV r)(hn:(r.wait.map bH.c).Nodup)(hf:∀d∈r.recs,0<=d.f/\d.f<=100000)(hc:0<=r.clk+m/\r.clk+m<=1000000):∀k,k<=r.wait.length->TiredOk r m k
 |0,_=>⟨rfl,rfl,rfl,bM _,bM _,by
  have:=Qr hc.1 hc.2;show([97,116,32]++gA (r.clk+m)).length<=_;rw[j5];simp only[uV,zP];omega,λj x _ hx=>hq.has x (eI hx),hf⟩
 |k+1,hk=>by
  have T:=zoo hq hn hf hc k aC;obtain⟨x,hx⟩:∃x,r.wait[k]? =some x:=⟨r.wait[k],oQ aC⟩;obtain⟨i,hi⟩:=zj1.1 (T.has k x (bM _) hx);obtain⟨d,hd,zdz,-⟩:=zZ hi;have e:=Tc (bt:=dD r m k) hi hd;have e1:=zf4 (m:=m) hx;rw[e] at e1;have zHK:=hq.num x (eI hx);have F5:=Qr (c:=x.c) aC aC;by_cases hp:(dD r m k).1.o.pt<=(dD r m k).1.clk-d.f
  .rw[if_pos hp] at e1
   refine⟨?_,?_,?_,?_,?_,?_,?_,?_⟩<;>rw[e1]
   .show(Rq _ _ _).length=_
    rw[Nv];exact T.nrec
   .exact T.off
   .exact T.clk
   .have:=T.nb
    simp only[j5,uV,zP];omega
   .exact eE (V3 _ _) T.nw
   .have:=T.txt
    simp only[j5,uV,zP];omega
   .intro j y hj hy
    have zkq:d.c≠y.c:=by
     intro e2;rw[zdz] at e2;have vF:=(lX.1 hy).1;have zkb:=(lX.1 hx).1;have aS:=(List.pairwise_iff_getElem.1 hn) k j uB uB aC;apply aS;rw[zxi,zxi];rw[oQ zkb] at hx;rw[oQ vF] at hy;injection hx with hx;injection hy with hy;rw[hx,hy,e2]
    exact zuu hd zkq (T.has j y aC hy)
   .intro z hz
    obtain⟨j,hj⟩:=yY.1 hz;have qR:(Rq (dD r m k).1.recs i λd=>{d with t:=(dD r m k).1.clk,e:=uK})[j]? =some z:=hj;rw[Iz] at qR;rcases zdt:(dD r m k).1.recs[j]? with _|y
    .simp_all
    .rw[zdt] at qR
     have hy:=T.fr y (eI zdt);split at qR<;>(simp at qR;subst qR;exact hy)
  .rw[if_neg hp] at e1
   exact⟨by rw[e1];exact T.nrec,by rw[e1];exact T.off,by rw[e1];exact T.clk,by rw[e1];have:=T.nb;omega,by rw[e1];exact T.nw,by rw[e1];have:=T.txt;omega,by rw[e1];exact λj y hj hy=>T.has j y aC hy,by rw[e1];exact T.fr⟩
section
variable {w0 w w':aE}{lo gb k:Nat}{v0 v v':fW}{r r':b6}
theorem gQ.setClk {c:Int}(h:gQ w0 w lo gb k v0 v r):gQ w0 (w.setCell ⟨gb,3,none⟩ (.int .i64 c)) lo gb k v0 v {r with clk:=c}:=by
 have aR:=h.aR;have aW:=h.aW;have aB:=h.aB;have aL:=h.aL;have Nk:=h.base;have t:=h.turn;have kp:=h.kpos;refine⟨(h.ok.setCell aC).clock c,⟨t.os,t.tape,t.output,by rw[xG];exact t.size,λy hy e1 e2=>(dX w _ _ y tV).trans (t.block y hy e1 e2)⟩,h.moved,h.base,?_,by rw[xG];exact h.size,h.kpos,aR,aW,aB,aL,h.lob⟩;rw[oK h.blk];rfl
theorem gQ.whole {n:Nat}(h:gQ w0 w lo gb k v0 v r)(ho:eH w' lo v' r')(t:o6 v w w')(m:yC n v v')(hn:n=w.heap.size):
 gQ w0 (gX w' gb (.int .i64 r'.o.ln) (.int .i64 r'.o.op) (.int .i64 r'.o.pt) (.int .i64 r'.clk) (v'.sR r') (v'.sW r') (v'.sB r') (v'.sL r')) lo gb k v0 v' r':=by
 obtain⟨_,t2,m2,hb⟩:=h.turned ho t m hn;have aR:=h.aR;have aW:=h.aW;have aB:=h.aB;have aL:=h.aL;have mr:=m.r;have mw:=m.w;have mb:=m.b;have ml:=m.l;have sz:=h.size;have kp:=h.kpos;have Nk:=h.base;have tz:=t.size;refine⟨ho.set8 aC,t2.set8 aC,m2,h.base,zbc hb,by rw[ziE];omega,h.kpos,aC,aC,aC,aC,h.lob⟩
end
def zAn {b x:Nat}{o:Obj}{a0 a1 a2 a3 a4 a5 a6 a7:aF}(h:w.heap[x]? =some o)(hx:x≠b):(gX w b a0 a1 a2 a3 a4 a5 a6 a7).heap[x]? =some o:=(Ir hx).trans h
theorem zC5 (lo:Nat)(v:fW)(r:b6)(m:Int)(w:aE)(h:eH w lo v r)(hs:Su r)(eL:lo<=w.heap.size)(hq:zeV r)(lD:(r.wait.map bH.c).Nodup)(gE:∀d∈r.recs,0<=d.f/\d.f<=100000)(zeH:0<=m)(zad:m<=100000):
 gT aK 67 #[.agg (fV v r),.int .i64 m] w (Wm lo v w (tK r m)):=by
 have fQ:=h.ap;have znV:=aD (zoo (m:=m) hq lD gE (by have:=hs.clk;omega));have zCX:=aD hq.num;have zt8:=(Aa hs.off).2.2.2.2;clear lD gE hq;obtain⟨gb,O,Z,fZ,HO,HZ,fD,kE,p8,HL⟩:=zgB h eL;clear h
 go_enter Tryz.func67,Tryz.ntmps67
 go_upto_region 1 with fail
 rw[<-HO.o,<-HZ.o,<-fZ.o];obtain⟨W1,dC⟩:=aN ((w.alloc O).alloc Z);rw[<-dC] at fD kE p8⊢;clear dC;obtain⟨n,hn⟩:=aN r.wait.length;have oI:=hs.nb;have E8:=hs.nr;have Kx:n<=1000:=by rw[hn];exact hs.nw
 have Sv:=aD hn;have Ja:=hs.clk;obtain⟨zjw,zE8⟩:=Ja;obtain⟨ck,Ja⟩:=aN r.clk;have H9:=aD Ja;rw[<-Ja] at zjw zE8;have k:=aI fD.o.blk;obtain⟨k0,k1,k2,k3,k4,k5,k6,k7⟩:=eT k;clear k;have zaa:W1.cell? ⟨gb,3,none⟩=some (.int .i64 ck):=by rw[k3,H9.o];rfl
 have kf:=fC fD.o.blk;clear k3 Ja hn;have mL:=aD (show gQ w (W1.setCell ⟨gb,3,none⟩ (.int .i64 (ck+m))) lo gb 2 v v {r with clk:=ck+m} from fD.o.setClk)
 go_upto_region 2 with fail
 obtain⟨W2,n6⟩:=aN (W1.setCell ⟨gb,3,none⟩ (.int .i64 (ck+m)));rw[<-n6] at mL⊢;have Eh:=aD (show W2.heap[gb+1]? =some kO by rw[n6];exact(dX W1 _ _ (gb+1) aQ).trans kE.o);clear k0 k1 k2 zaa k4 k5 k6 k7 kf n6;obtain⟨c2,oR⟩:∃c2:Nat,ck+m=(c2:Int):=⟨(ck+m).toNat,aC⟩;have zIO:c2<=100000000:=aC;have Ko:(Ly (c2:Int)).length<=20:=by rw[Ww];exact Tb aC
 have Sr:=aD oR;have k3:=aI mL.o.blk 3;have zaa:W2.cell? ⟨gb,3,none⟩=some (.int .i64 (c2:Int)):=by rw[<-oR];exact k3
 clear k3 oR
 go_upto_region 3 with(go_at_call 94;refine(zdg c2 zIO _).mono ?_;rintro x w3 ⟨rfl,Wb⟩;have wM:=aD Wb;clear Wb)
 have zno:=aD (mL.o.keep wM.o);have zb3:=aD (mU wM.o Eh.o).1;have k5:=aI zno.o.blk 5;have zq7:w3.cell? ⟨gb,5,none⟩=some (.slice (some ⟨v.gW,0,none⟩) n v.cW):=by rw[k5,Sv.o];rfl
 clear k5 zaa;have zib:=aD (show(⟨([97,116,32]++Ly (c2:Int):List UInt8).toArray⟩:ByteArray)=⟨(dD r m 0).2.toArray⟩ by show _=(⟨([97,116,32]++gA (r.clk+m):List UInt8).toArray⟩:ByteArray);rw[<-H9.o,Sr.o];rfl);have zL7:=HL.o
 go_wp2_with fail
 go_loopw [6,8] (λt i wr=>∃(k:Nat) (v1:fW),k<=n/\i=.int .i64 k/\t=.string ⟨(dD r m k).2.toArray⟩/\gQ w wr lo gb 2 v v1 (dD r m k).1/\wr.heap[gb+1]? =some kO/\wr.ownsRow lo 100 2 (.slice (some ⟨v.gW,0,none⟩) n v.cW) n (bK r.wait)) (λ_ i _=>n-(intOf i).toNat)
 case atStart=>
  refine⟨0,v,lU _,rfl,?_,?_,zb3.o,?_⟩
  .rw[<-zib.o];congr 1
  .have e:(dD r m 0).1={r with clk:=ck+m}:=by rw[H9.o];rfl
   rw[e];exact zno.o
  .have:=zno.o.ok.wt
   rw[Sv.o];exact this
 case round=>
  obtain⟨k,v1,hk,rfl,rfl,eO,Iu,cG⟩:=hrel;have T:=znV.o k (by have:=Sv.o;omega);obtain⟨r1,j9⟩:=aN ((dD r m k).1);obtain⟨tx,zfJ⟩:=aN ((dD r m k).2);have ztb:=T.nrec;have zwh:=T.nb;have zrO:=T.nw;have zup:=T.txt;have zls:=T.clk;have zjk:=T.off;have zyt:=aD T.fr;have zxB:=aD T.has;rw[<-j9] at eO ztb zwh zrO zls zjk zyt zxB;rw[<-zfJ] at zup⊢;have jJ:=aD j9;have ziU:=aD zfJ;have vH:=aD eO;have zei:=aD Iu;have Qe:=aD cG;have zK4:r1.recs.length<=1000:=aC;have zGM:r1.back.length<=6000:=aC;have zCu:r1.wait.length<=1000:=by have:=hs.nw;omega
  have zKT:tx.length<=40000:=aC;have zl5:gb+2<=wr.heap.size:=eO.size;have zK5:=eO.moved.r;have zKZ:=eO.moved.b;have zxC:=aD zls;have Ah:=aD zjk;clear T j9 zfJ eO Iu cG ztb zwh zrO zup zls zjk;by_cases aT:k<n
  .obtain⟨bx,ox,x,hA,-,-,zzV,eR,e0,e1⟩:=(Av Qe.o aH).callsAt aT
   injection hA with hA;injection hA with Bj Bg;subst Bj Bg;simp only[qV] at e0 e1;obtain⟨i,wS⟩:=zj1.1 (zxB.o k x (bM _) eR);obtain⟨d,hd,zdz,-⟩:=zZ wS;have zHK:=zCX.o x (eI eR);have hi:=(lX.1 hd).1;have eY:(0:Int)<=(i:Int):=aC;have yN:(i:Int)<(r1.recs.length:Int):=aC;have i0:(0:Int)<=(k:Int):=aC;have i1:(k:Int)<(n:Int):=aC;obtain⟨zKV,zLD⟩:=zyt.o d (eI hd);have vI:=aD (show dD r m (k+1)=if r1.o.pt<=r1.clk-d.f then({lP r1 i uK with back:=r1.back++[x]},tx++[32]++gA x.c) else(r1,tx) by
    rw[zf4 eR,Tc (i:=i) (d:=d) (by rw[<-jJ.o];exact wS) (by rw[<-jJ.o];exact hd),<-jJ.o,<-ziU.o];congr 1;rw[jJ.o,ziU.o])
   have On:=aD (W9 wS);have HD:=aD hd;have zl8:=aD eR;obtain⟨q,znE⟩:=aN x.c;have HE:=aD (λnq:Nat=>gT.quiet_of (w:=wr) (n:=nq) ((Mo lo wr.heap.size r1.recs.length v1.cR (some ⟨v1.gR,0,none⟩) r1.recs x.c (wr.drewN nq) (have hs:=vH.o.ok.slcR;⟨hs.len,hs.le,hs.cap,hs.at_⟩) aC).mono λe w' hh=>by rw[On.o] at hh;exact⟨hh.1,0,hh.2⟩));obtain⟨c0,c1,zi7,c3,c4,c5,c6⟩:=vH.o.ok.recAt hd;clear wS hd zdz eR znE;have k:=aI vH.o.blk;obtain⟨k0,k1,k2,k3,k4,k5,k6,k7⟩:=eT k;clear k
   go_wp2_with fail
   go_quiet ((go_at_call 91;exact HE.o _))
   go_wp2_with fail
   obtain⟨wq,tH⟩:=aN (wr.drewN nq);rw[<-tH];have zf0:=aD (show gQ w wq lo gb 2 v v1 r1 by rw[tH];exact vH.o.keep ⟨rfl,rfl,rfl,bM _,λ_ _=>rfl⟩);have zxo:=aD (show wq.heap[gb+1]? =some kO by rw[tH];exact zei.o);have zrT:=aD (show wq.ownsRow lo 100 2 (.slice (some ⟨v.gW,0,none⟩) n v.cW) n (bK r.wait) by rw[tH];exact Bm Qe.o (λ_ _=>rfl));replace e0:wq.cell? ⟨v.gW,k*2,none⟩=some (.int .i64 x.c):=by rw[tH];exact e0
   replace e1:wq.cell? ⟨v.gW,k*2+1,none⟩=some (.int .i64 x.p):=by rw[tH];exact e1
   have zEC:v.gW<wq.heap.size:=by rw[tH];exact zzV
   have C0:gb+2<=wq.heap.size:=by rw[tH];exact zl5
   clear c0 c1 zi7 c3 c4 c5 c6 k0 k1 k2 k3 k4 k5 k6 k7 tH;obtain⟨c0,c1,zi7,c3,c4,c5,c6⟩:=zf0.o.ok.recAt HD.o;have k:=aI zf0.o.blk;obtain⟨k0,k1,k2,k3,k4,k5,k6,k7⟩:=eT k;clear k;have Ut:0<=r1.clk:=by have:=zxC.o;have:=H9.o;omega
   have Kd:r1.clk<=200000:=by have:=zxC.o;have:=H9.o;omega
   have sD:1<=r1.o.pt:=by rw[Ah.o];exact zt8.1
   have Wb:r1.o.pt<=60:=by rw[Ah.o];exact zt8.2
   by_cases hp:r1.o.pt<=r1.clk-d.f
   .replace vI:=aD (show dD r m (k+1)=({lP r1 i uK with back:=r1.back++[x]},tx++[32]++gA x.c) by rw[vI.o,if_pos hp])
    go_quiet (fail)
    go_upto_region 9 with fail
    obtain⟨wz,tP⟩:=aN (wq.drewN nq);rw[<-tP];have P8:=aD (show gQ w wz lo gb 2 v v1 r1 by rw[tP];exact zf0.o.keep ⟨rfl,rfl,rfl,bM _,λ_ _=>rfl⟩);have zAm:=aD (show wz.heap[gb+1]? =some kO by rw[tP];exact zxo.o);have zDp:=aD (show wz.ownsRow lo 100 2 (.slice (some ⟨v.gW,0,none⟩) n v.cW) n (bK r.wait) by rw[tP];exact Bm zrT.o (λ_ _=>rfl));have zHg:v.gW<wz.heap.size:=by rw[tP];exact zEC
    have zJ4:gb+2<=wz.heap.size:=by rw[tP];exact C0
    clear c0 c1 zi7 c3 c4 c5 c6 k0 k1 k2 k3 k4 k5 k6 k7 e0 e1 tP;have k:=aI P8.o.blk;obtain⟨k0,k1,k2,k3,k4,k5,k6,k7⟩:=eT k;clear k;have kf:=fC P8.o.blk;have zCB:v.gW≠v1.gR:=aC;have zrX:v.gW≠v1.gB:=aC;have aR:=P8.o.aR;have aB:=P8.o.aB;have zG5:gb+1≠v1.gR:=aC;have zoG:gb+1≠v1.gB:=aC;have Kv:gb≠v1.gR:=aC;have Bd:gb≠v1.gB:=aC;have zLX:=aD aR;have Aj:=aD aB;have Vl:lo<=wz.heap.size:=by have:=P8.o.lob;omega
    clear aR aB
    go_upto_region 10 with(go_at_call 96;refine(zkv lo i v1 r1 d uK wz P8.o.ok HD.o aC aC Vl).mono ?_;rintro y w5 ⟨g5,c5,rfl,bV,jR,Gg⟩;obtain⟨v5,oA⟩:=aN ({v1 with gW:=g5,cW:=c5}:fW);obtain⟨r5,eW⟩:=aN (lP r1 i uK:b6);have kr:=jR.blk P8.o.blk Kv Bd;have zKQ:=aD kr;have zo0:yC wz.heap.size v1 v5:=(by rw[oA];exact⟨.inl rfl,.inr Gg,.inl rfl,rfl⟩);rw[<-oA,<-eW] at bV⊢;have Y3:=aD oA;have qB:=aD eW;have uX:=aD jR;have Fv:=aD (P8.o.whole bV jR zo0 rfl);have z:=aI kr;have r0:=fC kr;obtain⟨z0,z1,z2,z3,z4,z5,z6,z7⟩:=eT z;clear bV jR Gg kr z oA eW zo0)
    obtain⟨W6,rW⟩:=aN (gX w5 gb (.int .i64 r5.o.ln) (.int .i64 r5.o.op) (.int .i64 r5.o.pt) (.int .i64 r5.clk) (v5.sR r5) (v5.sW r5) (v5.sB r5) (v5.sL r5));have Vp:=aD (show W6.heap[gb+1]? =some kO by rw[rW];exact zAn (uX.o.blk zAm.o zG5 zoG) aC);have zpN:=aD (show W6.ownsRow lo 100 2 (.slice (some ⟨v.gW,0,none⟩) n v.cW) n (bK r.wait) by rw[rW];exact Bn zDp.o ((Ir aC).trans (uX.o.block v.gW zHg zCB zrX)));rw[<-rW] at Fv;unfold gX at rW;rw[<-rW];have zAP:v5.gR=v1.gR:=by rw[Y3.o]
    have zcW:v5.gB=v1.gB:=by rw[Y3.o]
    have zk1:r5.back=r1.back:=by rw[qB.o];rfl
    have zJv:r5.back.length<=6000:=by rw[zk1];exact zGM
    have kV:=aD zk1;clear rW z0 z1 z2 z3 z4 z5 z6 z7 r0 k0 k1 k2 k3 k4 k5 k6 k7 kf zk1;obtain⟨bx,ox,x',hA,-,-,zyL,Hw,e0,e1⟩:=(Av zpN.o aH).callsAt aT;injection hA with hA;injection hA with Bj Bg;subst Bj Bg;rw[zl8.o] at Hw;injection Hw with Hw;subst Hw;simp only[qV] at e0 e1;have k6:=aI Fv.o.blk 6;have zJZ:gb+2<=W6.heap.size:=Fv.o.size;have Ib:=aD (show W6.cell? ⟨v.gW,k*2,none⟩=some (.int .i64 x.c)/\W6.cell? ⟨v.gW,k*2+1,none⟩=some (.int .i64 x.p) from⟨e0,e1⟩);have kB:∀o:Obj,(W6.alloc o).cell? ⟨gb,6,none⟩=some (v5.sB r5):=λo=>B6 k6 o;have zKo:=aD zcW;have zBG:v5.gB≠gb:=by rw[zcW];exact Ne.symm Bd
    have zzE:v5.gB≠gb+1:=by rw[zcW];exact Ne.symm zoG
    have zJ3:v5.gB≠v.gW:=by rw[zcW];exact Ne.symm zrX
    have zKw:v.gW≠gb:=aC;obtain⟨ii,Pa,fM,dF,hY⟩:=C8 zeT;have zdT:=aD Pa;clear Pa zAP zcW e0 e1;obtain⟨g1,c1,w7,fQ,qZ,qJ,B1,Km⟩:=zh7 (P:=aK) (W6.alloc (.cells #[.int .i64 x.c,.int .i64 x.p] 100)).drew 57 57 lo 100 ii (.agg #[.int .i64 0,.int .i64 0]) 2 16 M5 zdT.o fM dF hY rfl aH v5.gB v5.cB r5.back.length (bK r5.back) (Bm Fv.o.ok.bk (λb hb=>qA _ _ b hb)) ⟨W6.heap.size,0,none⟩ 1 1 x.cells rfl (Ez (cs:=x.cells.toArray) (gV _ _)) Rp Z7 aC (by have:=Fv.o.lob;simp;omega);have pB:=aD qJ;have zdf:=aD qZ;have zaw:=aD Km;have kx:=(Az qJ (dH Fv.o.blk _) (Ne.symm zBG)).1;have Ri:=aI kx 6;have xL:=fC kx;clear qZ qJ B1 Km kx;refine wp_WT10 W6 w7 gb v.gW _ _ v5.gB r5.back.length v5.cB g1 c1 k x.c x.p rfl rfl rfl rfl k6 Ib.o.1 Ib.o.2 aC fQ Ri (xL _) rfl ?_;clear fQ;rw[Go.Mt.Cq,zpc];simp only[Go.Mt.yF,dU,dW,znS,lWT10,Dy,Ey]
    go_upto_region 11 with fail
    have zoH:=aD (((Fv.o.alloc _).drew).appB (x:=x) pB.o zdf.o rfl zaw.o);have zpq:=aD ((dX w7 ⟨gb,6,none⟩ (.slice (some ⟨g1,0,none⟩) (r5.back.length+1) c1) (gb+1) aQ).trans (Az pB.o (Ku (dH Vp.o _)) (Ne.symm zzE)).1);have zi3:=aD (Bn zpN.o ((dX w7 ⟨gb,6,none⟩ (.slice (some ⟨g1,0,none⟩) (r5.back.length+1) c1) v.gW aC).trans ((pB.o.block v.gW zeC zeC).trans (qA _ _ v.gW aC))));obtain⟨W7,Dm⟩:=aN (w7.setCell ⟨gb,6,none⟩ (.slice (some ⟨g1,0,none⟩) (r5.back.length+1) c1));rw[<-Dm] at zoH zpq zi3⊢;clear Dm Ri xL k6 kB;obtain⟨bx,ox,x',hA,-,-,zLK,Hw,e0,e1⟩:=(Av zi3.o aH).callsAt aT;injection hA with hA;injection hA with Bj Bg;subst Bj Bg;rw[zl8.o] at Hw;injection Hw with Hw;subst Hw;simp only[qV] at e0 e1;obtain⟨p,No⟩:∃p:Nat,x.c=(p:Int):=⟨x.c.toNat,aC⟩;have ziM:p<=100000000:=aC;have zKL:(Ly (p:Int)).length<=20:=by rw[Ww];exact Tb aC
    rw[No] at e0;have zIE:=aD No;clear No e1
    go_wp2_with (go_at_call 94;refine(zdg p ziM _).mono ?_;rintro y w8 ⟨rfl,Lj⟩;have G4:=aD Lj;clear Lj)
    go_roundw
    case rel=>
     refine⟨k+1,{v5 with gB:=g1,cB:=c1},aC,nE,?_,?_,(mU G4.o zpq.o).1,zrG zi3.o G4.o⟩
     .rw[vI.o];simp[Oc,gA,zIE.o]
     .rw[vI.o]
      have:=zoH.o.keep G4.o;rw[kV.o,qB.o] at this;exact this
    case measure=>simp[intOf];omega
   .replace vI:=aD (show dD r m (k+1)=(r1,tx) by rw[vI.o,if_neg hp])
    go_quiet (fail)
    go_wp2;go_roundw
    case rel=>exact⟨k+1,v1,aC,nE,by rw[vI.o],by rw[vI.o];exact zf0.o.keep ⟨rfl,rfl,rfl,bM _,λ_ _=>rfl⟩,zxo.o,Bm zrT.o (λ_ _=>rfl)⟩
    case measure=>simp[intOf];omega
  .have e:k=n:=aC
   subst e;have zgT:=aD (show tK r m=(r1,tx) by rw[<-zcN,<-Sv.o,jJ.o,ziU.o]);have k:=aI vH.o.blk;obtain⟨k0,k1,k2,k3,k4,k5,k6,k7⟩:=eT k;clear k;have z:=aI zei.o;obtain⟨z0,z1,z2,z3,z4,z5,z6,z7⟩:=eT z;clear z;have r0:=fC zei.o
   go_wp2_with fail
   have er:=aI (tF v1 r1 zei.o);refine nY (v:=.tuple #[.agg (fV (v1) (r1)),.string ⟨(tx:List UInt8).toArray⟩]) ?_ rfl ?_
   .unfold gX at er
    simp[results,Tryz.results67,go_sem,er]
   .rw[zgT.o]
    obtain⟨d1,d2,d3⟩:=vH.o.done (b:=gb+1) aC;exact⟨v1,rfl,d1,d2,d3⟩
structure ztj (r:b6):Prop where
 small:Su r
 waits:zeV r
 nodup:(r.wait.map bH.c).Nodup
 backs:∀x∈r.back,1<=x.c/\x.c<=99
 froms:∀d∈r.recs,0<=d.f/\d.f<=100000
variable {ops:Int}{e:dS}
theorem event_a (h:rB ops e=true)(ho:ops<=4):0<=e.a/\e.a<=100000:=by
 have h:=of_decide_eq_true h;unfold Mq at h;omega
abbrev zvD (e:dS):Obj:=.cells #[.string e.k,.int .i64 e.a,.int .i64 e.b] 54
theorem ztP (lo:Nat)(v:fW)(r:b6)(e:dS)(w:aE)(h:eH w lo v r)(hs:ztj r)(eL:lo<=w.heap.size)(he:rB r.o.op e=true):
 gT aK 51 #[.agg (fV v r),.agg #[.string e.k,.int .i64 e.a,.int .i64 e.b]] w (Wm lo v w (dR r e)):=by
 obtain⟨Qu,Cd⟩:=event_a he (Aa hs.small.off).2.2.2.1;obtain⟨gb,fA⟩:=aN w.heap.size;have hl:=h.lts;obtain⟨O,hO⟩:=aN (.cells (fV v r) 59:Obj);obtain⟨C,hC⟩:=aN (zvD e:Obj);obtain⟨Z,hZ⟩:=aN (kO:Obj);have lR:(((w.alloc O).alloc C).alloc Z).heap[gb]? =some (yJ v r):=by rw[hO,fA];exact dH (dH (gV _ _) _) _
 have Al:(((w.alloc O).alloc C).alloc Z).heap[gb+1]? =some (zvD e):=by rw[hC,fA];exact dH (l6 _ _ aQ) _
 have rF:(((w.alloc O).alloc C).alloc Z).heap[gb+2]? =some kO:=by rw[<-hZ];exact l6 _ _ Zt
 have dF:(((w.alloc O).alloc C).alloc Z).heap.size=gb+3:=by rw[fA];simp
 have fD:=aD (show gQ w (((w.alloc O).alloc C).alloc Z) lo gb 3 v v r from⟨((h.alloc O).alloc C).alloc Z,o6.of_below v (eK (eK (eK (gD _ _) _) _) _),yC.refl _ _,fA,lR,aC,aC,.inl aC,.inl aC,.inl aC,.inl aC,aC⟩);have p8:=aD dF;have kE:=aD rF;have mG:=aD Al;have HO:=aD hO;have HC:=aD (show C=.cells #[.string e.k,.int .i64 e.a,.int .i64 e.b] 54 from hC);have HZ:=aD (show Z=.cells #[.int .i64 0,.int .i64 0,.int .i64 0,.int .i64 0,.slice none 0 0,.slice none 0 0,.slice none 0 0,.slice none 0 0] 59 from hZ);have fZ:=aD fA;have HL:=aD (show v.gR<gb/\v.gW<gb/\v.gB<gb/\v.gL<gb by omega);clear hO hC hZ fA lR rF Al dF h hl
 go_enter Tryz.func51,Tryz.ntmps51
 go_upto_region 1 with fail
 rw[<-HO.o,<-HC.o,<-HZ.o,<-fZ.o];obtain⟨W1,dC⟩:=aN (((w.alloc O).alloc C).alloc Z);rw[<-dC] at fD kE mG p8⊢;clear dC;have k:=aI fD.o.blk;obtain⟨k0,k1,k2,k3,k4,k5,k6,k7⟩:=eT k;clear k;have q:=aI mG.o;obtain⟨q0,q1,q2⟩:=zrE q;clear q;have hl:=HL.o;have Kv:gb+2≠v.gR:=aC;have Bd:gb+2≠v.gB:=aC;have Vl:lo<=W1.heap.size:=by have:=fD.o.lob;have:=p8.o;omega
 clear hl;cases h0:(e.k.toList==[114,105,110,103])
 case true=>
  have vI:=aD (show dR r e=o8 r ⟨e.a,e.b⟩ by unfold dR;rw[if_pos (show e.k.toList=Cj from eq_of_beq h0)])
  go_wp2_with (go_at_call 63;refine(zzt lo v r ⟨e.a,e.b⟩ W1 fD.o.ok hs.small Vl).mono ?_;rintro y w5 ⟨v5,rfl,bV,jR,xI⟩;obtain⟨r5,eW⟩:=aN ((o8 r ⟨e.a,e.b⟩).1:b6);obtain⟨t5,pA⟩:=aN ((o8 r ⟨e.a,e.b⟩).2:List UInt8);rw[<-eW] at bV⊢;rw[<-pA];have qB:=aD eW;have xK:=aD pA;have wC:=aD bV;have uX:=aD jR;have oU:=aD xI;have kr:=jR.blk kE.o Kv Bd;have tD:=aD kr;have z:=aI kr;have r0:=fC kr;obtain⟨z0,z1,z2,z3,z4,z5,z6,z7⟩:=eT z;clear eW pA bV jR xI kr z)
  have er:=aI (tF v5 r5 tD.o);refine nY (v:=.tuple #[.agg (fV (v5) (r5)),.string ⟨(t5:List UInt8).toArray⟩]) ?_ rfl ?_
  .unfold gX at er
   simp[results,zbC,go_sem,er]
  .rw[vI.o]
   have hl:=HL.o;have hz:=p8.o;have fA:=fZ.o;have mr:=oU.o.r;have mw:=oU.o.w;have mb:=oU.o.b;have ml:=oU.o.l;refine⟨v5,by rw[qB.o,xK.o],by rw[<-qB.o];exact wC.o.set8 aC,(fD.o.turn.same uX.o).set8 aC,⟨mr.imp id (λx=>by omega),mw.imp id (λx=>by omega),mb.imp id (λx=>by omega),ml⟩⟩
 case false=>
  cases h1:(e.k.toList==[97,110,115,119,101,114])
  case true=>
   have vI:=aD (show dR r e=nL r e.a by unfold dR;rw[if_neg zho];rw[if_pos (show e.k.toList=Ge from eq_of_beq h1)])
   go_wp2_with (go_at_call 64;refine(zBB lo v r e.a W1 fD.o.ok hs.small Vl hs.waits).mono ?_;rintro y w5 ⟨v5,rfl,bV,jR,xI⟩;obtain⟨r5,eW⟩:=aN ((nL r e.a).1:b6);obtain⟨t5,pA⟩:=aN ((nL r e.a).2:List UInt8);rw[<-eW] at bV⊢;rw[<-pA];have qB:=aD eW;have xK:=aD pA;have wC:=aD bV;have uX:=aD jR;have oU:=aD xI;have kr:=jR.blk kE.o Kv Bd;have tD:=aD kr;have z:=aI kr;have r0:=fC kr;obtain⟨z0,z1,z2,z3,z4,z5,z6,z7⟩:=eT z;clear eW pA bV jR xI kr z)
   have er:=aI (tF v5 r5 tD.o);refine nY (v:=.tuple #[.agg (fV (v5) (r5)),.string ⟨(t5:List UInt8).toArray⟩]) ?_ rfl ?_
   .unfold gX at er
    simp[results,zbC,go_sem,er]
   .rw[vI.o]
    have hl:=HL.o;have hz:=p8.o;have fA:=fZ.o;have mr:=oU.o.r;have mw:=oU.o.w;have mb:=oU.o.b;have ml:=oU.o.l;refine⟨v5,by rw[qB.o,xK.o],by rw[<-qB.o];exact wC.o.set8 aC,(fD.o.turn.same uX.o).set8 aC,⟨mr.imp id (λx=>by omega),mw.imp id (λx=>by omega),mb.imp id (λx=>by omega),ml⟩⟩
  case false=>
   cases h2:(e.k.toList==[114,101,116,117,114,110])
   case true=>
    have vI:=aD (show dR r e=l9 r e.a by unfold dR;rw[if_neg zho];rw[if_neg zmB];rw[if_pos (show e.k.toList=Dj from eq_of_beq h2)])
    go_wp2_with (go_at_call 65;refine(zFw lo v r e.a W1 fD.o.ok hs.small Vl hs.backs).mono ?_;rintro y w5 ⟨v5,rfl,bV,jR,xI⟩;obtain⟨r5,eW⟩:=aN ((l9 r e.a).1:b6);obtain⟨t5,pA⟩:=aN ((l9 r e.a).2:List UInt8);rw[<-eW] at bV⊢;rw[<-pA];have qB:=aD eW;have xK:=aD pA;have wC:=aD bV;have uX:=aD jR;have oU:=aD xI;have kr:=jR.blk kE.o Kv Bd;have tD:=aD kr;have z:=aI kr;have r0:=fC kr;obtain⟨z0,z1,z2,z3,z4,z5,z6,z7⟩:=eT z;clear eW pA bV jR xI kr z)
    have er:=aI (tF v5 r5 tD.o);refine nY (v:=.tuple #[.agg (fV (v5) (r5)),.string ⟨(t5:List UInt8).toArray⟩]) ?_ rfl ?_
    .unfold gX at er
     simp[results,zbC,go_sem,er]
    .rw[vI.o]
     have hl:=HL.o;have hz:=p8.o;have fA:=fZ.o;have mr:=oU.o.r;have mw:=oU.o.w;have mb:=oU.o.b;have ml:=oU.o.l;refine⟨v5,by rw[qB.o,xK.o],by rw[<-qB.o];exact wC.o.set8 aC,(fD.o.turn.same uX.o).set8 aC,⟨mr.imp id (λx=>by omega),mw.imp id (λx=>by omega),mb.imp id (λx=>by omega),ml⟩⟩
   case false=>
    cases h3:(e.k.toList==[104,97,110,103])
    case true=>
     have vI:=aD (show dR r e=mP r e.a by unfold dR;rw[if_neg zho];rw[if_neg zmB];rw[if_neg zuq];rw[if_pos (show e.k.toList=D9 from eq_of_beq h3)])
     go_wp2_with (go_at_call 66;refine(zEH lo v r e.a W1 fD.o.ok hs.small Vl).mono ?_;rintro y w5 ⟨v5,rfl,bV,jR,xI⟩;obtain⟨r5,eW⟩:=aN ((mP r e.a).1:b6);obtain⟨t5,pA⟩:=aN ((mP r e.a).2:List UInt8);rw[<-eW] at bV⊢;rw[<-pA];have qB:=aD eW;have xK:=aD pA;have wC:=aD bV;have uX:=aD jR;have oU:=aD xI;have kr:=jR.blk kE.o Kv Bd;have tD:=aD kr;have z:=aI kr;have r0:=fC kr;obtain⟨z0,z1,z2,z3,z4,z5,z6,z7⟩:=eT z;clear eW pA bV jR xI kr z)
     have er:=aI (tF v5 r5 tD.o);refine nY (v:=.tuple #[.agg (fV (v5) (r5)),.string ⟨(t5:List UInt8).toArray⟩]) ?_ rfl ?_
     .unfold gX at er
      simp[results,zbC,go_sem,er]
     .rw[vI.o]
      have hl:=HL.o;have hz:=p8.o;have fA:=fZ.o;have mr:=oU.o.r;have mw:=oU.o.w;have mb:=oU.o.b;have ml:=oU.o.l;refine⟨v5,by rw[qB.o,xK.o],by rw[<-qB.o];exact wC.o.set8 aC,(fD.o.turn.same uX.o).set8 aC,⟨mr.imp id (λx=>by omega),mw.imp id (λx=>by omega),mb.imp id (λx=>by omega),ml⟩⟩
    case false=>
     have vI:=aD (show dR r e=tK r e.a by unfold dR;rw[if_neg zho];rw[if_neg zmB];rw[if_neg zuq];rw[if_neg (by intro e2;rw[e2] at h3;exact absurd h3 aH)])
     go_wp2_with (go_at_call 67;refine(zC5 lo v r e.a W1 fD.o.ok hs.small Vl hs.waits hs.nodup hs.froms Qu Cd).mono ?_;rintro y w5 ⟨v5,rfl,bV,jR,xI⟩;obtain⟨r5,eW⟩:=aN ((tK r e.a).1:b6);obtain⟨t5,pA⟩:=aN ((tK r e.a).2:List UInt8);rw[<-eW] at bV⊢;rw[<-pA];have qB:=aD eW;have xK:=aD pA;have wC:=aD bV;have uX:=aD jR;have oU:=aD xI;have kr:=jR.blk kE.o Kv Bd;have tD:=aD kr;have z:=aI kr;have r0:=fC kr;obtain⟨z0,z1,z2,z3,z4,z5,z6,z7⟩:=eT z;clear eW pA bV jR xI kr z)
     have er:=aI (tF v5 r5 tD.o);refine nY (v:=.tuple #[.agg (fV (v5) (r5)),.string ⟨(t5:List UInt8).toArray⟩]) ?_ rfl ?_
     .unfold gX at er
      simp[results,zbC,go_sem,er]
     .rw[vI.o]
      have hl:=HL.o;have hz:=p8.o;have fA:=fZ.o;have mr:=oU.o.r;have mw:=oU.o.w;have mb:=oU.o.b;have ml:=oU.o.l;refine⟨v5,by rw[qB.o,xK.o],by rw[<-qB.o];exact wC.o.set8 aC,(fD.o.turn.same uX.o).set8 aC,⟨mr.imp id (λx=>by omega),mw.imp id (λx=>by omega),mb.imp id (λx=>by omega),ml⟩⟩
structure RInv (b:b6):Prop where
 off:qQ b.o=true
 clk:0<=b.clk
 nodup:(b.wait.map bH.c).Nodup
 hasrec:∀x∈b.wait,(gU b.recs x.c).isSome=true
 recB:∀d∈b.recs,1<=d.c/\d.c<=99/\1<=d.l/\d.l<=6/\0<=d.o/\d.o<=4/\0<=d.f/\d.f<=b.clk
 waitB:∀x∈b.wait,1<=x.c/\x.c<=99
 backB:∀x∈b.back,1<=x.c/\x.c<=99
structure M3 (b:b6)(k:Nat):Prop where
 clk:b.clk<=60*k
 nrec:b.recs.length<=k
 nw:b.wait.length<=k
 nb:b.back.length<=60*k
 nl:b.log.length=k
theorem RInv.good (h:RInv b)(c:M3 b k)(hk:k<=60):ztj b:=
 ⟨
  ⟨h.off,by have:=c.nrec;omega,by have:=c.nw;omega,by have:=c.nb;omega,by have:=c.nl;omega,⟨h.clk,by have:=c.clk;omega⟩⟩,⟨h.hasrec,h.waitB⟩,h.nodup,h.backB,
  λd hd=>by have:=h.recB d hd;have:=c.clk;omega⟩
theorem RInv.zero (h:qQ o=true):RInv (lV o):=⟨h,zdj _,List.nodup_nil,λx hx=>(by cases hx),λd hd=>(by cases hd),λx hx=>(by cases hx),λx hx=>(by cases hx)⟩
def M3.zero (o:fG):M3 (lV o) 0:=⟨zdj _,bM _,bM _,bM _,rfl⟩
variable {xs:List bH}{q:Int}
theorem Fb (h:x∈dK xs q):x∈xs/\x.c≠q:=by
 unfold dK at h;simp_all
def zfK (h:(xs.map bH.c).Nodup):((dK xs q).map bH.c).Nodup:=
 zzF (zBv _ List.filter_sublist) h
theorem Uf {z:bO}(h:z∈rs.modify i f):∃d∈rs,z=d\/z=f d:=by
 obtain⟨j,hj⟩:=yY.1 h;rw[Iz] at hj;rcases zdt:rs[j]? with _|y
 .simp_all
 .grind
theorem zth {qs:List bO}(h:(gU rs c).isSome=true):(gU (rs++qs) c).isSome=true:=by
 rw[zbY] at*;simp_all
theorem zEe (hf:∀d,(f d).c=d.c/\(f d).e=d.e)(h:(gU rs c).isSome=true):(gU (rs.modify i f) c).isSome=true:=by
 rw[zbY,Ws] at*;obtain⟨x,hx,hp⟩:=h;obtain⟨j,hj,e⟩:=Mz.1 hx;have zH:Bu c (f x)=true:=by unfold Bu cU at*;rw[(hf x).1,(hf x).2];exact hp
 by_cases fO:i=j
 .refine⟨f x,yY.2 ⟨j,?_⟩,zH⟩
  simp_all
 .refine⟨x,yY.2 ⟨j,?_⟩,hp⟩
  simp_all
theorem RInv.ends (h:RInv b)(hd:b.recs[i]? =some d)(e:ByteArray):RInv (lP b i e):=by
 refine⟨h.off,h.clk,zfK h.nodup,?_,?_,λx hx=>h.waitB x (Fb hx).1,h.backB⟩
 .intro x hx
  have hx:x∈dK b.wait (Da b.recs i):=hx;rw[Sx hd] at hx;obtain⟨h1,h2⟩:=Fb hx;exact zuu hd (Ne.symm h2) (h.hasrec x h1)
 .intro z hz
  obtain⟨y,hy,e1|e1⟩:=Uf hz
  .subst e1;exact h.recB _ hy
  .subst e1;exact h.recB y hy
theorem RInv.tire {t:List UInt8}(h:RInv b)(hx:1<=x.c/\x.c<=99):RInv (mD (b,t) x).1:=by
 rcases ho:gU b.recs x.c with _|i
 .have:mD (b,t) x=(b,t):=by unfold mD;simp only[ho]
  rw[this];exact h
 .obtain⟨d,hd,-,-⟩:=zZ ho
  rw[Tc (bt:=(b,t)) ho hd];split
  .have e:=h.ends hd uK
   exact⟨e.off,e.clk,e.nodup,e.hasrec,e.recB,e.waitB,λy hy=>by
    rw[Fq] at hy;rcases hy with hy|hy
    .exact h.backB y hy
    .simp at hy;subst hy;exact hx⟩
  .exact h
theorem RInv.tires:∀(xs:List bH) (b:b6) (t:List UInt8),RInv b->(∀x∈xs,1<=x.c/\x.c<=99)->RInv (xs.foldl mD (b,t)).1
 |[],b,t,h,_=>h
 |x::xs,b,t,h,hx=>by
  rw[Qz];have h1:=h.tire (t:=t) (hx x aQ);obtain⟨b',t',e⟩:∃b' t',mD (b,t) x=(b',t'):=⟨_,_,rfl⟩;rw[e] at h1⊢;exact RInv.tires xs b' t' h1 (λy hy=>hx y za3)
theorem zht (ho:qQ o=true)(h:l∈oX o rs):1<=l/\l<=6:=by
 have:=X0 h;have:=(Aa ho).2.1;omega
theorem za5 (xs:List bH)(c:bH):(tJ xs c).Perm (c::xs):=by
 unfold tJ;refine(List.perm_middle).trans ?_;simp_all
theorem zGi (xs:List bH)(c:bH):(tJ xs c).length=xs.length+1:=by rw[(za5 xs c).length_eq];rfl
theorem zxX (h:rB ops e=true)(he:e.k.toList=Cj):1<=e.a/\e.a<=99:=by
 have h:=of_decide_eq_true h;unfold Mq at h;rcases h with h|h|⟨h|h,_⟩|h
 .omega
 all_goals(first|(rw[h.1] at he;exact absurd he aH)|(rw[h] at he;exact absurd he aH))
theorem zae (h:rB ops e=true)(he:e.k.toList=Ge\/e.k.toList=Dj):1<=e.a/\e.a<=ops:=by
 have h:=of_decide_eq_true h;unfold Mq at h;rcases h with h|h|h|h
 .rw[h.1] at he;exact absurd he aH
 .rw[h.1] at he;exact absurd he aH
 .omega
 .rw[h.1] at he;exact absurd he aH
theorem zqJ (h:rB ops e=true)(h1:e.k.toList≠Cj)(h2:e.k.toList≠Ge)(h3:e.k.toList≠Dj)(h4:e.k.toList≠D9):1<=e.a/\e.a<=60:=by
 have h:=of_decide_eq_true h;unfold Mq at h;simp_all
theorem zbq:eP.toList=[111,112,101,110]:=by decide+kernel
theorem RInv.step (h:RInv b)(hc:M3 b k)(he:rB b.o.op e=true)(hk:k<=60):RInv (dR b e).1/\M3 (Em (dR b e)) (k+1)/\(dR b e).1.o=b.o/\(dR b e).1.log=b.log:=by
 have zHS:=Aa h.off;have c1:=hc.clk;have c2:=hc.nrec;have c3:=hc.nw;have c4:=hc.nb;have c5:=hc.nl;have key:∀bt:b6×List UInt8,RInv bt.1->bt.1.o=b.o->bt.1.log=b.log->bt.1.clk<=b.clk+60->bt.1.recs.length<=b.recs.length+1->bt.1.wait.length<=b.wait.length+1->bt.1.back.length<=b.back.length+60->RInv bt.1/\M3 (Em bt) (k+1)/\bt.1.o=b.o/\bt.1.log=b.log:=by
  intro bt hi ho hl Xq hr hw xS;refine⟨hi,⟨by show bt.1.clk<=_;omega,by show bt.1.recs.length<=_;omega,by show bt.1.wait.length<=_;omega,by show bt.1.back.length<=_;omega,?_⟩,ho,hl⟩;show(bt.1.log++[bt.2]).length=_;rw[j5,hl,c5];rfl
 have same:∀t,RInv (b,t).1/\M3 (Em (b,t)) (k+1)/\(b,t).1.o=b.o/\(b,t).1.log=b.log:=λt=>key (b,t) h rfl rfl (by show b.clk<=_;omega) uB uB uB;unfold dR;by_cases e1:e.k.toList=Cj
 .rw[if_pos e1]
  obtain⟨a1,a2⟩:=zxX he e1;unfold o8;split
  .exact same _
  .rename_i fR
   rw[E9,not_or] at fR;rcases hf:oX b.o b.recs with _|⟨l,fs⟩
   .refine key (_,_) ⟨h.off,h.clk,h.nodup,h.hasrec,h.recB,h.waitB,λx hx=>?_⟩ rfl rfl ?_ ?_ ?_ ?_
    .rw[Fq] at hx
     rcases hx with hx|hx
     .exact h.backB x hx
     simp_all
    all_goals simp only[j5,uV,zP]
    all_goals omega
   .have Xl:=zht h.off (l:=l) Lc
    refine key (_,_) ⟨h.off,h.clk,?_,?_,?_,?_,h.backB⟩ rfl rfl ?_ ?_ ?_ ?_
    .show((tJ b.wait ⟨e.a,e.b⟩).map bH.c).Nodup
     refine((za5 b.wait ⟨e.a,e.b⟩).map bH.c).nodup_iff.2 ?_;rw[jO,List.nodup_cons];refine⟨λhm=>?_,h.nodup⟩;obtain⟨x,hx,zLs⟩:=Sl.1 hm;have:=h.hasrec x hx;simp_all
    .intro x hx
     have hx:=(za5 b.wait ⟨e.a,e.b⟩).mem_iff.1 hx;rcases mB.1 hx with rfl|hx
     .show(gU (b.recs++_) e.a).isSome=true
      rw[zbY,List.any_append];have:Bu e.a ⟨e.a,l,0,b.clk,-1,-1,eP⟩=true:=by unfold Bu cU;simp;exact zbq
      simp[this]
     .exact zth (h.hasrec x hx)
    .intro d hd
     rcases Fq.1 hd with hd|hd
     .exact h.recB d hd
     .simp at hd;subst hd
      have:=h.clk;simp only;omega
    .intro x hx
     have hx:=(za5 b.wait ⟨e.a,e.b⟩).mem_iff.1 hx;rcases mB.1 hx with rfl|hx
     .exact⟨a1,a2⟩
     .exact h.waitB x hx
    all_goals simp only[j5,uV,zP,zGi]
    all_goals omega
 rw[if_neg e1];by_cases e2:e.k.toList=Ge
 .rw[if_pos e2]
  obtain⟨a1,a2⟩:=zae he (.inl e2);by_cases lZ:0<dE b.recs e.a
  .have e9:nL b e.a=(b,[116,97,108,107,115]):=by unfold nL;rw[if_pos lZ]
   rw[e9];exact same _
  .rcases hw:b.wait with _|⟨c,cs⟩
   .have e9:nL b e.a=(b,[110,111,110,101]):=by unfold nL;rw[if_neg lZ,hw]
    rw[e9];exact same _
   .rcases ho:gU b.recs c.c with _|i
    .have e9:nL b e.a=(b,[]):=by unfold nL;rw[if_neg lZ,hw];simp only[ho]
     rw[e9];exact same _
    .have e9:nL b e.a=({b with recs:=b.recs.modify i λd=>{d with o:=e.a,h:=b.clk},wait:=dK b.wait c.c},[99,97,108,108,32]++gA c.c):=by unfold nL;rw[if_neg lZ,hw];simp only[ho]
     rw[e9];refine key (_,_) ⟨h.off,h.clk,zfK h.nodup,?_,?_,?_,h.backB⟩ rfl rfl ?_ ?_ ?_ ?_
     .intro x hx
      exact zEe (λd=>⟨rfl,rfl⟩) (h.hasrec x (Fb hx).1)
     .intro z hz
      obtain⟨y,hy,q|q⟩:=Uf hz
      .subst q;exact h.recB _ hy
      .subst q
       have:=h.recB y hy;simp only;omega
     .intro x hx
      exact h.waitB x (Fb hx).1
     all_goals simp only[Nv]
     .omega
     .omega
     .have:=V3 b.wait c.c;omega
     .omega
 rw[if_neg e2];by_cases e3:e.k.toList=Dj
 .rw[if_pos e3]
  obtain⟨a1,a2⟩:=zae he (.inr e3);by_cases lZ:0<dE b.recs e.a
  .have e9:l9 b e.a=(b,[116,97,108,107,115]):=by unfold l9;rw[if_pos lZ]
   rw[e9];exact same _
  .rcases hw:b.back with _|⟨c,cs⟩
   .have e9:l9 b e.a=(b,[110,111,110,101]):=by unfold l9;rw[if_neg lZ,hw]
    rw[e9];exact same _
   .rcases hf:oX b.o b.recs with _|⟨l,fs⟩
    .have e9:l9 b e.a=(b,[98,117,115,121]):=by unfold l9;rw[if_neg lZ,hw];simp only[hf]
     rw[e9];exact same _
    .have e9:l9 b e.a=({b with back:=dK b.back c.c,recs:=b.recs++[⟨c.c,l,e.a,b.clk,b.clk,-1,eP⟩]},[99,97,108,108,32]++gA c.c):=by unfold l9;rw[if_neg lZ,hw];simp only[hf]
     rw[e9];have Xl:=zht h.off (l:=l) Lc;have Df:=h.backB c (by rw[hw];simp);refine key (_,_) ⟨h.off,h.clk,h.nodup,λx hx=>zth (h.hasrec x hx),?_,h.waitB,?_⟩ rfl rfl ?_ ?_ ?_ ?_
     .intro d hd
      rcases Fq.1 hd with hd|hd
      .exact h.recB d hd
      .simp at hd;subst hd
       have:=h.clk;simp only;omega
     .intro x hx
      exact h.backB x (Fb hx).1
     all_goals simp only[j5,uV,zP]
     .omega
     .omega
     .omega
     .have:=V3 b.back c.c;omega
 rw[if_neg e3];by_cases e4:e.k.toList=D9
 .rw[if_pos e4]
  rcases ho:gU b.recs e.a with _|i
  .by_cases hf:(uL b.back e.a).isSome=true
   .have e9:mP b e.a=({b with back:=dK b.back e.a},[111,102,102]):=by unfold mP;simp only[ho];rw[if_pos hf]
    rw[e9];refine key (_,_) ⟨h.off,h.clk,h.nodup,h.hasrec,h.recB,h.waitB,λx hx=>h.backB x (Fb hx).1⟩ rfl rfl ?_ ?_ ?_ ?_
    all_goals simp only
    .omega
    .omega
    .omega
    .have:=V3 b.back e.a;omega
   .have e9:mP b e.a=(b,[103,111,110,101]):=by unfold mP;simp only[ho];rw[if_neg hf]
    rw[e9];exact same _
  .obtain⟨d,hd,-,-⟩:=zZ ho
   have hw:=V3 b.wait (Da b.recs i);have end1:∀(E:ByteArray) (t:List UInt8),RInv (lP b i E,t).1/\M3 (Em (lP b i E,t)) (k+1)/\(lP b i E,t).1.o=b.o/\(lP b i E,t).1.log=b.log:=λE t=>by
    refine key (_,_) (h.ends hd _) rfl rfl ?_ ?_ ?_ ?_
    .show b.clk<=_;omega
    .show(Rq _ _ _).length<=_;simp_all
    .show(dK b.wait (Da b.recs i)).length<=_;omega
    .show b.back.length<=_;omega
   by_cases hp:0<opAt b.recs i
   .have e9:mP b e.a=(lP b i vT,[100,111,110,101]):=by unfold mP;simp only[ho];rw[if_pos hp]
    rw[e9];exact end1 _ _
   .have e9:mP b e.a=(lP b i vS,[108,101,102,116]):=by unfold mP;simp only[ho];rw[if_neg hp]
    rw[e9];exact end1 _ _
 rw[if_neg e4];obtain⟨a1,a2⟩:=zqJ he e1 e2 e3 e4;have kR:=h.clk;have T:=zoo (r:=b) (m:=e.a) ⟨h.hasrec,h.waitB⟩ h.nodup (λd hd=>by have:=h.recB d hd;omega) aC b.wait.length (bM _);have t1:=T.nrec;have t2:=T.off;have t3:=T.clk;have t4:=T.nb;have t5:=T.nw;rw[zcN] at t1 t2 t3 t4 t5;have zky:∀(xs:List bH) (bt:b6×List UInt8),(xs.foldl mD bt).1.log=bt.1.log:=by
  intro xs
  induction xs with
  |nil=>intro bt;rfl
  |cons x xs ih=>
   intro bt;rw[Qz,ih];unfold mD;split
   .rfl
   .split<;>rfl
 refine key (tK b e.a) ?_ t2 (zky _ _) ?_ ?_ ?_ ?_
 .unfold tK
  refine RInv.tires _ _ _ ⟨h.off,by grind,h.nodup,h.hasrec,λd hd=>?_,h.waitB,h.backB⟩ h.waitB;have:=h.recB d hd
  grind
 .omega
 .omega
 .omega
 .omega
def jH (o:fG)(es:List dS)(k:Nat):b6:=(es.take k).foldl (λb e=>Em (dR b e)) (lV o)
variable {es:List dS}
theorem Ty (h:es[k]? =some e):jH o es (k+1)=Em (dR (jH o es k) e):=by
 unfold jH;rw[De,h,zjS];rfl
theorem S7 (o:fG)(es:List dS):jH o es es.length=Ee o es:=by unfold jH Ee;simp_all
theorem Hh (h:eG o es=true):∀k,k<=es.length->RInv (jH o es k)/\M3 (jH o es k) k/\(jH o es k).o=o
 |0,_=>by
  have h1:qQ o=true:=by unfold eG at h;simp at h;exact h.1.1
  exact⟨RInv.zero h1,M3.zero o,rfl⟩
 |k+1,hk=>by
  obtain⟨i1,i2,i3⟩:=Hh h k aC;obtain⟨e,he⟩:∃e,es[k]? =some e:=⟨es[k],oQ aC⟩;have hv:rB o.op e=true:=by
   unfold eG at h;simp only[jB,xC] at h;exact h.2 e (eI he)
  have hl:es.length<=60:=by unfold eG at h;simp at h;exact h.1.2
  obtain⟨j1,j2,j3,j4⟩:=i1.step i2 (e:=e) (by rw[i3];exact hv) aC;rw[Ty he];exact⟨⟨j1.off,j1.clk,j1.nodup,j1.hasrec,j1.recB,j1.waitB,j1.backB⟩,j2,by show(dR _ e).1.o=o;rw[j3,i3]⟩
theorem zjB (o:fG)(w:aE):
 gT aK 34 #[.agg #[.int .i64 o.ln,.int .i64 o.op,.int .i64 o.pt]] w λx w'=>x=.returned (.bool (qQ o))/\cH w.heap.size w w':=by
 go_enter Tryz.func34,Tryz.ntmps34
 go_wp2_with ((go_at_call 49;refine(zsp _ _ _ _).mono ?_;rintro e w' ⟨rfl,rfl⟩))
 all_goals go_ret
 all_goals refine⟨Lt ?_,((gD _ _).alloc (bM _) _)⟩
 all_goals rw[Q7]
 all_goals simp[qQ,inB] at*
 all_goals grind
theorem zl9 (e:dS)(ops:Int)(w:aE):
 gT aK 50 #[.agg #[.string e.k,.int .i64 e.a,.int .i64 e.b],.int .i64 ops] w λx w'=>x=.returned (.bool (rB ops e))/\cH w.heap.size w w':=by
 go_enter Tryz.func50,Tryz.ntmps50
 go_wp2_with ((go_at_call 49;refine(zsp _ _ _ _).mono ?_;rintro e w' ⟨rfl,rfl⟩))
 all_goals go_ret
 all_goals refine⟨Lt ?_,((gD _ _).alloc (bM _) _)⟩
 all_goals rw[Q7]
 all_goals simp[rB,Mq,inB,Cj,D9,Ge,Dj,zcU] at*
 all_goals grind
structure tE (w0 w:aE)(gb:Nat)(o:fG)(v:fW)(r:b6):Prop where
 ok:eH w gb v r
 bel:cH gb w0 w
 ofc:w.heap[gb]? =some (.cells #[.int .i64 o.ln,.int .i64 o.op,.int .i64 o.pt] 29)
 res:w.heap[gb+1]? =some kO
 blk:w.heap[gb+6]? =some (yJ v r)
 aR:gb+2<=v.gR/\v.gR≠gb+6
 aW:gb+2<=v.gW/\v.gW≠gb+6
 aB:gb+2<=v.gB/\v.gB≠gb+6
 aL:gb+2<=v.gL/\v.gL≠gb+6
 size:gb+7<=w.heap.size
section
variable {w0 w w':aE}{gb:Nat}{o:fG}{v v':fW}{r r':b6}
def tE.keep (h:tE w0 w gb o v r)(b:cH w.heap.size w w'):tE w0 w' gb o v r:=
 ⟨h.ok.below b,h.bel.trans (b.mono zjT),(b.block _ (gM h.ofc)).trans h.ofc,(b.block _ (gM h.res)).trans h.res,(b.block _ (gM h.blk)).trans h.blk,h.aR,h.aW,h.aB,h.aL,eE h.size b.size⟩
def tE.alloc (h:tE w0 w gb o v r)(ob:Obj):tE w0 (w.alloc ob) gb o v r:=h.keep (eK (gD _ _) ob)
def tE.drew (h:tE w0 w gb o v r):tE w0 w.drew gb o v r:=h.keep ⟨rfl,rfl,rfl,bM _,λ_ _=>rfl⟩
theorem tE.stepped (h:tE w0 w gb o v r)(ok:eH w' gb v' r')(t:o6 v w w')(m:yC w.heap.size v v'):
 cH gb w0 w'/\w'.heap[gb]? =w.heap[gb]? /\w'.heap[gb+1]? =w.heap[gb+1]? /\w'.heap[gb+6]? =w.heap[gb+6]? /\(gb+2<=v'.gR/\v'.gR≠gb+6)/\(gb+2<=v'.gW/\v'.gW≠gb+6)/\(gb+2<=v'.gB/\v'.gB≠gb+6)/\(gb+2<=v'.gL/\v'.gL≠gb+6)/\w.heap.size<=w'.heap.size:=by
 have aR:=h.aR;have aW:=h.aW;have aB:=h.aB;have aL:=h.aL;have mr:=m.r;have mw:=m.w;have mb:=m.b;have ml:=m.l;have sz:=h.size;refine⟨⟨t.os.trans h.bel.os,t.tape.trans h.bel.tape,t.output.trans h.bel.output,eE h.bel.size t.size,λb hb=>?_⟩,t.block _ aC aC aC,t.block _ aC aC aC,t.block _ aC aC aC,aC,aC,aC,aC,t.size⟩;exact(t.block b aC aC aC).trans (h.bel.block b hb)
theorem tE.stored (ok:eH w gb v' r')(bel:cH gb w0 w)(e0:w.heap[gb]? =some (.cells #[.int .i64 o.ln,.int .i64 o.op,.int .i64 o.pt] 29))(e1:w.heap[gb+1]? =some kO)(e6:w.heap[gb+6]? =some (yJ v r))
 (a1:gb+2<=v'.gR/\v'.gR≠gb+6) (a2:gb+2<=v'.gW/\v'.gW≠gb+6) (a3:gb+2<=v'.gB/\v'.gB≠gb+6) (a4:gb+2<=v'.gL/\v'.gL≠gb+6) (sz:gb+7<=w.heap.size):
 tE w0 (gX w (gb+6) (.int .i64 r'.o.ln) (.int .i64 r'.o.op) (.int .i64 r'.o.pt) (.int .i64 r'.clk) (v'.sR r') (v'.sW r') (v'.sB r') (v'.sL r')) gb o v' r':=by
 refine⟨ok.set8 aC,?_,(Ir aC).trans e0,(Ir aC).trans e1,zbc e6,a1,a2,a3,a4,by rw[ziE];exact sz⟩;have c:=zhu w (gb+6) (.int .i64 r'.o.ln) (.int .i64 r'.o.op) (.int .i64 r'.o.pt) (.int .i64 r'.clk) (v'.sR r') (v'.sW r') (v'.sB r') (v'.sL r');exact bel.trans ⟨c.os,c.tape,c.output,c.size,λb hb=>c.block b aC aC⟩
theorem tE.appL {m g c:Nat}{x:List UInt8}(h:tE w0 w gb o v r)(hg:w.grownBy w' (some v.gL))(ho:w'.ownsRow gb 9 1 (.slice (some ⟨g,0,none⟩) m c) m (wF r.log++[.string ⟨x.toArray⟩]))(hm:m=r.log.length+1)(hw:g=v.gL\/g=w.heap.size):
 tE w0 (w'.setCell ⟨gb+6,7,none⟩ (.slice (some ⟨g,0,none⟩) m c)) gb o {v with gL:=g,cL:=c} {r with log:=r.log++[x]}:=by
 have aR:=h.aR;have aW:=h.aW;have aB:=h.aB;have aL:=h.aL;have sz:=h.size;have l:=h.ok.lts;have hk:=h.ok.appL hg ho hm aC;have hs:=hg.size;have kb:=(Az hg h.blk aC).1;have k0:=(Az hg h.ofc aC).1;have k1:=(Az hg h.res aC).1;have aS:g≠gb+6:=aC;refine⟨hk.setCell tV,?_,(dX w' _ _ gb aQ).trans k0,(dX w' _ _ (gb+1) aQ).trans k1,?_,aR,aW,aB,⟨by simp only;omega,aS⟩,by rw[xG];omega⟩
 .refine⟨hg.os.trans h.bel.os,hg.tape.trans h.bel.tape,hg.output.trans h.bel.output,by rw[xG];exact eE h.bel.size hs,λb hb=>?_⟩
  exact((dX w' _ _ b tV).trans (hg.block b aC pD)).trans (h.bel.block b hb)
 .rw[oK kb]
  have e:=room_L v r g c (r.log++[x]);rw[hm];simp only[j5,uV,zP] at e;exact congrArg (λa=>some (Obj.cells a 59)) e
end
def zGu (o:fG)(es:List dS)(w:aE)(x:Ending)(w':aE):Prop:=
 ∃v,x=.returned (.tuple #[.agg (fV v (uD o es)),.bool (eG o es)])/\eH w' w.heap.size v (uD o es)/\cH w.heap.size w w'
theorem tE.done {a0 a1 a2 a3 a4 a5 a6 a7:aF}(h:tE w0 w gb o v r):eH (gX w (gb+1) a0 a1 a2 a3 a4 a5 a6 a7) gb v r/\cH gb w0 (gX w (gb+1) a0 a1 a2 a3 a4 a5 a6 a7):=by
 have aR:=h.aR;have aW:=h.aW;have aB:=h.aB;have aL:=h.aL;refine⟨h.ok.set8 aC,?_⟩;have c:=zhu w (gb+1) a0 a1 a2 a3 a4 a5 a6 a7;exact h.bel.trans ⟨c.os,c.tape,c.output,c.size,λb hb=>c.block b zjT aC⟩
def tE.doneR (h:tE w0 w gb o v r)(v1:fW)(r1:b6):eH (gX w (gb+1) (.int .i64 r1.o.ln) (.int .i64 r1.o.op) (.int .i64 r1.o.pt) (.int .i64 r1.clk) (v1.sR r1) (v1.sW r1) (v1.sB r1) (v1.sL r1)) gb v r/\cH gb w0 (gX w (gb+1) (.int .i64 r1.o.ln) (.int .i64 r1.o.op) (.int .i64 r1.o.pt) (.int .i64 r1.clk) (v1.sR r1) (v1.sW r1) (v1.sB r1) (v1.sL r1)):=h.done
def zIf {w':aE}{b g o1:Nat}{o2 o3 o4:Nat}{v1 v2 v3 v4:aF}(h:w.cell? ⟨b,o1,none⟩=some v1/\w.cell? ⟨b,o2,none⟩=some v2/\w.cell? ⟨b,o3,none⟩=some v3/\w.cell? ⟨g,o4,none⟩=some v4)(k1:w'.heap[b]? =w.heap[b]?)(k2:w'.heap[g]? =w.heap[g]?):
 w'.cell? ⟨b,o1,none⟩=some v1/\w'.cell? ⟨b,o2,none⟩=some v2/\w'.cell? ⟨b,o3,none⟩=some v3/\w'.cell? ⟨g,o4,none⟩=some v4:=
 ⟨(Bs k1).trans h.1,(Bs k1).trans h.2.1,(Bs k1).trans h.2.2.1,(Bs k2).trans h.2.2.2⟩
def zIs {b g o1:Nat}{o2 o3 o4:Nat}{v1 v2 v3 v4:aF}(h:w.cell? ⟨b,o1,none⟩=some v1/\w.cell? ⟨b,o2,none⟩=some v2/\w.cell? ⟨b,o3,none⟩=some v3/\w.cell? ⟨g,o4,none⟩=some v4):
 w.drew.cell? ⟨b,o1,none⟩=some v1/\w.drew.cell? ⟨b,o2,none⟩=some v2/\w.drew.cell? ⟨b,o3,none⟩=some v3/\w.drew.cell? ⟨g,o4,none⟩=some v4:=h
def zFf (w:aE)(b:Nat):w.drew.heap[b]? =w.heap[b]? :=rfl
def zqX:(aK.info? 9).map (λi=>(i.zero,i.size,i.bytes))=some (some (.string ⟨#[]⟩),1,16):=aU
theorem X2 (h:eG o es=false):uD o es=lV o:=by unfold uD;rw[h];rfl
theorem zDN (o:fG)(lo hi n c:Nat)(A:Option Addr)(es:List dS)(w:aE)(h:cJ w lo hi 3 A n c (qX es))(hn:n<=1048576)(zkh:hi<=w.heap.size):
 gT aK 40 #[.agg #[.int .i64 o.ln,.int .i64 o.op,.int .i64 o.pt],.slice A n c] w (zGu o es w):=by
 have Gi:=h.eventsLen;have P3:=aD Gi;obtain⟨gb,fA⟩:=aN w.heap.size;have fZ:=aD fA;clear Gi
 go_enter Tryz.func40,Tryz.ntmps40
 go_upto_region 2 with fail
 obtain⟨v0,gZ⟩:=aN (⟨w.heap.size+1+1,0,w.heap.size+1+1+1,0,w.heap.size+1+1+1+1,0,w.heap.size+1+1+1+1+1,0⟩:fW)
 obtain⟨W1,dC⟩:∃y,y=(((((((w.alloc (.cells #[.int .i64 o.ln,.int .i64 o.op,.int .i64 o.pt] 29)).alloc kO).alloc (.cells #[] 50)).alloc (.cells #[] 100)).alloc (.cells #[] 100)).alloc (.cells #[] 9)).alloc
  (.cells #[.int .i64 o.ln,.int .i64 o.op,.int .i64 o.pt,.int .i64 0,.slice (some ⟨w.heap.size+1+1,0,none⟩) 0 0,.slice (some ⟨w.heap.size+1+1+1,0,none⟩) 0 0,.slice (some ⟨w.heap.size+1+1+1+1,0,none⟩) 0 0,.slice (some ⟨w.heap.size+1+1+1+1+1,0,none⟩) 0 0] 59)):=⟨_,rfl⟩
 have fD:=aD (show tE w W1 gb o v0 (lV o) by
  have kK:cH w.heap.size w W1:=by rw[dC];exact eK (eK (eK (eK (eK (eK (eK (gD _ _) _) _) _) _) _) _) _
  refine⟨⟨?_,?_,?_,?_,?_⟩,by rw[fA];exact kK,?_,?_,?_,?_,?_,?_,?_,?_⟩
  .rw[gZ];exact Md L4 (by rw[dC];exact dH (dH (dH (dH (l6 _ _ aQ) _) _) _) _)
  .rw[gZ];exact Md L4 (by rw[dC];exact dH (dH (dH (l6 _ _ aQ) _) _) _)
  .rw[gZ];exact Md L4 (by rw[dC];exact dH (dH (l6 _ _ aQ) _) _)
  .rw[gZ];exact Md L4 (by rw[dC];exact dH (l6 _ _ aQ) _)
  .simp_all
  .rw[dC];exact dH (dH (dH (dH (dH (dH (l6 _ _ fA) _) _) _) _) _) _
  .rw[dC];exact dH (dH (dH (dH (dH (l6 _ _ Zt) _) _) _) _) _
  .rw[dC,gZ];exact l6 _ _ Zt
  .simp_all
  .simp_all
  .simp_all
  .simp_all
  .rw[dC,fA];simp)
 rw[<-dC];have e6:w.heap.size+1+1+1+1+1+1=gb+6:=aC;rw[e6,<-fA];clear dC gZ e6 fA;have q0:=aI fD.o.ofc 0;have q1:=aI fD.o.ofc 1;have q2:=aI fD.o.ofc 2;cases hv:qQ o
 case false=>
  have fH:=aD (show eG o es=false by unfold eG;rw[hv];rfl)
  go_upto_region 3 with(go_at_call 34;refine(zjB o W1).mono ?_;rintro x w2 ⟨rfl,b2⟩;have iV:=aD b2;rw[hv];clear b2)
  have mL:=aD (fD.o.keep iV.o);clear q0 q1 q2;have k:=aI mL.o.blk;obtain⟨k0,k1,k2,k3,k4,k5,k6,k7⟩:=eT k;clear k;have z:=aI mL.o.res;obtain⟨z0,z1,z2,z3,z4,z5,z6,z7⟩:=eT z;clear z;have r0:=fC mL.o.res
  go_wp2_with fail
  have er:=aI (tF v0 (lV o) mL.o.res);refine nY (v:=.tuple #[.agg (fV (v0) (lV o)),.bool false]) ?_ rfl ?_
  .unfold gX at er
   simp[results,zgp,go_sem,er]
  .obtain⟨d1,d2⟩:=mL.o.doneR v0 (lV o)
   exact⟨v0,by rw[fH.o];rw[X2 fH.o],by rw[X2 fH.o,<-fZ.o];exact d1,by rw[<-fZ.o];exact d2⟩
 case true=>
  by_cases zde:n<=60
  case neg=>
   have fH:=aD (show eG o es=false by unfold eG;rw[hv,P3.o];simp;intro h;omega)
   go_upto_region 3 with(go_at_call 34;refine(zjB o W1).mono ?_;rintro x w2 ⟨rfl,b2⟩;have iV:=aD b2;rw[hv];clear b2)
   have mL:=aD (fD.o.keep iV.o);clear q0 q1 q2;have k:=aI mL.o.blk;obtain⟨k0,k1,k2,k3,k4,k5,k6,k7⟩:=eT k;clear k;have z:=aI mL.o.res;obtain⟨z0,z1,z2,z3,z4,z5,z6,z7⟩:=eT z;clear z;have r0:=fC mL.o.res
   go_wp2_with fail
   have er:=aI (tF v0 (lV o) mL.o.res);refine nY (v:=.tuple #[.agg (fV (v0) (lV o)),.bool false]) ?_ rfl ?_
   .unfold gX at er
    simp[results,zgp,go_sem,er]
   .obtain⟨d1,d2⟩:=mL.o.doneR v0 (lV o)
    exact⟨v0,by rw[fH.o];rw[X2 fH.o],by rw[X2 fH.o,<-fZ.o];exact d1,by rw[<-fZ.o];exact d2⟩
  case pos=>
   have HV:=aD hv
   go_upto_region 4 with(go_at_call 34;refine(zjB o W1).mono ?_;rintro x w2 ⟨rfl,b2⟩;have iV:=aD b2;rw[hv];clear b2)
   have mL:=aD (fD.o.keep iV.o);clear q0 q1 q2 hv
   go_wp2_with fail
   go_loopw [7] (λi wr=>∃k:Nat,k<=n/\i=.int .i64 k/\tE w wr gb o v0 (lV o)/\∀j,j<k->∀e,es[j]? =some e->rB o.op e=true) (λi _=>n-(intOf i).toNat)
   case atStart=>exact⟨0,lU _,rfl,mL.o,λj hj=>absurd hj aC⟩
   case round=>
    obtain⟨k,hk,rfl,Wc,gS⟩:=hrel;have HC:=aD gS;have Lm:=aD Wc;clear gS Wc;by_cases aT:k<n
    .obtain⟨b,off,e,hA,eL,zDf,zmK,Gm,e0,e1,e2⟩:=(h.below (fZ.o▸Lm.o.bel)).eventsAt aT
     subst hA;have Ow:=aD Gm;have zGG:b<gb:=by have:=fZ.o;omega
     have i0:(0:Int)<=(k:Int):=aC;have i1:(k:Int)<(n:Int):=aC;have Ib:=aD (And.intro e0 (And.intro e1 (And.intro e2 (show wr.cell? ⟨gb,1,none⟩=some (.int .i64 o.op) from aI Lm.o.ofc 1))));have zys:gb<wr.heap.size:=gM Lm.o.ofc;clear Gm e0 e1 e2
     go_wp2_with fail
     go_region_held3 (λW=>W.cell? ⟨b,off+k*3,none⟩=some (.string e.k)/\W.cell? ⟨b,off+k*3+1,none⟩=some (.int .i64 e.a)/\W.cell? ⟨b,off+k*3+2,none⟩=some (.int .i64 e.b)/\W.cell? ⟨gb,1,none⟩=some (.int .i64 o.op))
      (first|exact Ib.o|exact zIs Ib.o|exact S5)
      ((go_at_call 50;refine(zl9 e o.op wr.drew).mono ?_;rintro y w5 ⟨rfl,b5⟩;have zhr:cH wr.heap.size wr w5:=⟨b5.os,b5.tape,b5.output,b5.size,b5.block⟩;have lQ:=aD zhr;have S5:=zIf Ib.o (zhr.block b aC) (zhr.block gb aC);clear b5 zhr))
     cases nH:rB o.op e
     .have fH:=aD (show eG o es=false by
       unfold eG;rw[Bool.and_eq_false_iff];refine .inr (Bool.eq_false_iff.2 λsZ=>?_);rw[xC] at sZ;have:=sZ e (eI Ow.o);rw[nH] at this;cases this)
      have mL:=aD (Lm.o.keep lQ.o);clear nH S5;have k:=aI mL.o.blk;obtain⟨k0,k1,k2,k3,k4,k5,k6,k7⟩:=eT k;clear k;have z:=aI mL.o.res;obtain⟨z0,z1,z2,z3,z4,z5,z6,z7⟩:=eT z;clear z;have r0:=fC mL.o.res
      go_wp2_with fail
      have er:=aI (tF v0 (lV o) mL.o.res);refine nY (v:=.tuple #[.agg (fV (v0) (lV o)),.bool false]) ?_ rfl ?_
      .unfold gX at er
       simp[results,zgp,go_sem,er]
      .obtain⟨d1,d2⟩:=mL.o.doneR v0 (lV o)
       exact⟨v0,by rw[fH.o];rw[X2 fH.o],by rw[X2 fH.o,<-fZ.o];exact d1,by rw[<-fZ.o];exact d2⟩
     .go_wp2_with fail
      go_roundw
      case rel=>exact⟨k+1,aC,nE,Lm.o.keep lQ.o,λj hj e' Oh=>by
       by_cases e:j=k
       .subst e;rw[Ow.o] at Oh;injection Oh with Oh;exact Oh▸nH
       .exact HC.o j aC e' Oh⟩
      case measure=>simp[intOf];omega
    .have e:k=n:=aC
     subst e;have bV:eG o es=true:=by
      unfold eG;rw[HV.o,P3.o];simp only[Bool.true_and,jB,decide_eq_true_eq,xC];refine⟨zde,λe he=>?_⟩;obtain⟨j,hj⟩:=yY.1 he;have vF:=(lX.1 hj).1;exact HC.o j (by rw[<-P3.o];exact vF) e hj
     have fH:=aD bV;have zFo:=aD (Hh bV);clear bV
     go_wp2_with fail
     go_loopw [8] (λi wr=>∃(j:Nat) (v1:fW),j<=k/\i=.int .i64 j/\tE w wr gb o v1 (jH o es j)) (λi _=>k-(intOf i).toNat)
     case atStart=>exact⟨0,v0,lU _,rfl,Lm.o⟩
     case round=>
      obtain⟨j,v1,hj,rfl,Wc⟩:=hrel;obtain⟨tI,tC,tO⟩:=zFo.o j (by rw[P3.o];exact hj);obtain⟨r1,j9⟩:=aN (jH o es j);rw[<-j9] at Wc tI tC tO;have jJ:=aD j9;have jX:=aD Wc;clear j9 Wc;by_cases aT:j<k
      .obtain⟨b,off,e,hA,eL,zDf,zmK,Gm,e0,e1,e2⟩:=(h.below (fZ.o▸jX.o.bel)).eventsAt aT
       subst hA;have zGG:b<gb:=by have:=fZ.o;omega
       have i0:(0:Int)<=(j:Int):=aC;have i1:(j:Int)<(k:Int):=aC;have zpU:=aD (tI.good tC aC);have zj3:=aD (show rB r1.o.op e=true by
        rw[tO];have:=fH.o;unfold eG at this;simp only[jB,xC] at this;exact this.2 e (eI Gm))
       have zxT:=aD (Ty (o:=o) Gm);have pI:r1.log.length<=60:=by have:=tC.nl;omega
       have zmA:=aD (And.intro e0 (And.intro e1 e2));have cP:=jX.o.size;have zys:gb<=wr.heap.size:=aC;have zuE:=aD (RInv.step (e:=e) tI tC (by rw[tO];exact tO▸zj3.o) aC);clear tI tC tO Gm e0 e1 e2;have zf1:=aD (show∀W:aE,W.heap[b]? =wr.heap[b]? ->W.heap[gb+6]? =wr.heap[gb+6]? ->(W.cell? ⟨b,off+j*3,none⟩=some (.string e.k)/\W.cell? ⟨b,off+j*3+1,none⟩=some (.int .i64 e.a)/\W.cell? ⟨b,off+j*3+2,none⟩=some (.int .i64 e.b)/\W.cell? ⟨gb+6,0,none⟩=some (.int .i64 r1.o.ln)/\W.cell? ⟨gb+6,1,none⟩=some (.int .i64 r1.o.op)/\W.cell? ⟨gb+6,2,none⟩=some (.int .i64 r1.o.pt)/\W.cell? ⟨gb+6,3,none⟩=some (.int .i64 r1.clk)/\W.cell? ⟨gb+6,4,none⟩=some (v1.sR r1)/\W.cell? ⟨gb+6,5,none⟩=some (v1.sW r1)/\W.cell? ⟨gb+6,6,none⟩=some (v1.sB r1)/\W.cell? ⟨gb+6,7,none⟩=some (v1.sL r1)) from λW h1 h2=>by
        have k:=aI (h2.trans jX.o.blk);exact⟨(Bs h1).trans zmA.o.1,(Bs h1).trans zmA.o.2.1,(Bs h1).trans zmA.o.2.2,k 0,k 1,k 2,k 3,k 4,k 5,k 6,k 7⟩)
       have Ib:=aD (zf1.o wr.drew rfl rfl);have zE5:=aD (zf1.o wr rfl rfl);have z6:gb+6<wr.heap.size:=aC;have zb:b<wr.heap.size:=aC;have aR:=jX.o.aR;have aB:=jX.o.aB
       go_wp2_with fail
       go_region_held3 (λW=>W.cell? ⟨b,off+j*3,none⟩=some (.string e.k)/\W.cell? ⟨b,off+j*3+1,none⟩=some (.int .i64 e.a)/\W.cell? ⟨b,off+j*3+2,none⟩=some (.int .i64 e.b)/\W.cell? ⟨gb+6,0,none⟩=some (.int .i64 r1.o.ln)/\W.cell? ⟨gb+6,1,none⟩=some (.int .i64 r1.o.op)/\W.cell? ⟨gb+6,2,none⟩=some (.int .i64 r1.o.pt)/\W.cell? ⟨gb+6,3,none⟩=some (.int .i64 r1.clk)/\W.cell? ⟨gb+6,4,none⟩=some (v1.sR r1)/\W.cell? ⟨gb+6,5,none⟩=some (v1.sW r1)/\W.cell? ⟨gb+6,6,none⟩=some (v1.sB r1)/\W.cell? ⟨gb+6,7,none⟩=some (v1.sL r1))
        (first|with_reducible exact Ib.o|with_reducible exact zE5.o|with_reducible exact zf1.o _ zur zsU|(with_reducible refine zf1.o _ ?_ ?_<;>(repeat' (first|with_reducible assumption|with_reducible rfl|(refine(zFf _ _).trans ?_)|(refine(dX _ _ _ _ ?_).trans ?_;(first|omega|(simp;omega)))|(refine(qA _ _ _ ?_).trans ?_;(first|omega|(simp;omega)))))))
        (first|(go_at_call 51;refine(ztP gb v1 r1 e wr.drew jX.o.drew.ok zpU.o zys zj3.o).mono ?_;rintro y w5 ⟨v5,rfl,bV,jR,xI⟩;obtain⟨r5,eW⟩:=aN ((dR r1 e).1:b6);obtain⟨t5,pA⟩:=aN ((dR r1 e).2:List UInt8);rw[<-eW] at bV⊢;rw[<-pA];have qB:=aD eW;have xK:=aD pA;have wC:=aD bV;have uX:=aD jR;have oU:=aD xI;have zur:w5.heap[b]? =wr.heap[b]? :=jR.block b zb aC aC;have zsU:w5.heap[gb+6]? =wr.heap[gb+6]? :=jR.block (gb+6) z6 aC aC;have z5:wr.heap.size<=w5.heap.size:=jR.size;have Ng:=aD jX.o.drew;clear eW pA bV jR xI)|(go_at_call 51;refine(ztP gb v1 r1 e (wr.alloc kO).drew (jX.o.alloc kO).drew.ok zpU.o (by show gb<=(wr.alloc kO).heap.size;simp;omega) zj3.o).mono ?_;rintro y w5 ⟨v5,rfl,bV,jR,xI⟩;obtain⟨r5,eW⟩:=aN ((dR r1 e).1:b6);obtain⟨t5,pA⟩:=aN ((dR r1 e).2:List UInt8);rw[<-eW] at bV⊢;rw[<-pA];have qB:=aD eW;have xK:=aD pA;have wC:=aD bV;have uX:=aD jR;have oU:=aD xI;have zur:w5.heap[b]? =wr.heap[b]? :=(jR.block b (by show b<(wr.alloc kO).heap.size;simp;omega) aC aC).trans (qA wr kO b zb);have zsU:w5.heap[gb+6]? =wr.heap[gb+6]? :=(jR.block (gb+6) (by show gb+6<(wr.alloc kO).heap.size;simp;omega) aC aC).trans (qA wr kO _ z6);have z5:wr.heap.size<w5.heap.size:=(by have:=jR.size;have e:(wr.alloc kO).drew.heap.size=wr.heap.size+1:=aQ;omega);have kr:w5.heap[wr.heap.size]? =some kO:=(jR.block wr.heap.size aQ (by have:=jX.o.ok.lts;omega) (by have:=jX.o.ok.lts;omega)).trans (gV wr kO);have zGS:=aD kr;have z:=aI kr;have r0:=fC kr;have z0:=z 0;have z1:=z 1;have z2:=z 2;have z3:=z 3;have z4:=z 4;have z5:=z 5;have z7:=z 7;have zbj:=z 6;have Ng:=aD (jX.o.alloc kO).drew;clear eW pA bV jR xI kr z))
       .
         obtain⟨W6,rW⟩:=aN (w5.alloc (yJ v5 r5));obtain⟨nb,oI⟩:=aN w5.heap.size;rw[<-rW,<-oI];have hN:W6.heap[nb]? =some (yJ v5 r5):=by rw[rW];exact l6 _ _ oI
         have Uj:eH W6 gb v5 r5:=by rw[rW];exact wC.o.alloc _
         obtain⟨zcn,p0,p1,p6,a1,a2,a3,a4,zfI⟩:=Ng.o.stepped wC.o uX.o oU.o;have zbI:cH gb w W6:=by rw[rW];exact zcn.alloc aC _
         have q0:W6.heap[gb]? =some (.cells #[.int .i64 o.ln,.int .i64 o.op,.int .i64 o.pt] 29):=by rw[rW];exact(qA _ _ gb aC).trans (p0.trans Ng.o.ofc)
         have q1:W6.heap[gb+1]? =some kO:=by rw[rW];exact(qA _ _ (gb+1) aC).trans (p1.trans Ng.o.res)
         have q6:W6.heap[gb+6]? =some (yJ v1 r1):=by rw[rW];exact(qA _ _ (gb+6) aC).trans (p6.trans Ng.o.blk)
         have znP:gb+7<=W6.heap.size:=by rw[rW];simp;omega
         have C6:nb≠gb+6:=aC;clear rW oI zcn p0 p1 p6 zfI;have zCr:=aD hN;have zA7:=aD Uj;have zdI:r5.log=r1.log:=by rw[qB.o];exact zuE.o.2.2.2
         have zAx:r5.log.length<=60:=by rw[zdI];exact pI
         have Ds:=aD (tE.stored Uj zbI q0 q1 q6 a1 a2 a3 a4 znP);have k:=aI hN;obtain⟨k0,k1,k2,k3,k4,k5,k6,k7⟩:=eT k;have z:=aI q6;obtain⟨z0,z1,z2,z3,z4,z5,zbj,z7⟩:=eT z;have r0:=fC q6;clear k z hN Uj zbI q0 q1 q6 zdI
         go_upto_region 14 with fail
         obtain⟨W7,Dm⟩:=aN (gX W6 (gb+6) (.int .i64 r5.o.ln) (.int .i64 r5.o.op) (.int .i64 r5.o.pt) (.int .i64 r5.clk) (v5.sR r5) (v5.sW r5) (v5.sB r5) (v5.sL r5));rw[<-Dm] at Ds;unfold gX at Dm;rw[<-Dm];clear Dm k0 k1 k2 k3 k4 k5 k6 k7 z0 z1 z2 z3 z4 z5 zbj z7 r0;have k7:=aI Ds.o.blk 7;have zBL:=Ds.o.size;have ziF:=Ds.o.aL;obtain⟨ii,Pa,fM,dF,hY⟩:=C8 zqX;have zdT:=aD Pa;clear Pa
         go_wp2_with (at_builtin;refine zjZ _ rfl (.tmp 58) (.tmp 60) 26 rfl gb 9 ii (.string ⟨#[]⟩) 1 16 zqU zdT.o fM dF hY rfl aH v5.gL v5.cL r5.log.length (wF r5.log) rfl ((Ds.o.alloc _).ok.lg) ⟨_,0,none⟩ 1 1 [.string ⟨t5.toArray⟩] rfl rfl ?c2 Lz ?c5 ?c6 ?c7 ?_;(case c2=>exact Ez (cs:=#[.string ⟨t5.toArray⟩]) (gV _ _));(case c5=>unfold maxLen;omega);(case c6=>omega);(case c7=>(simp;omega));intro g9 c9 w9 zdx Um B9 zaH;have zmm:=aD ((Ds.o.alloc _).appL Um zdx rfl zaH);have kx:=(Az Um (dH Ds.o.blk _) (Ne.symm ziF.2)).1;have zHC:=aI kx 7;have xL:=fC kx;clear zdx Um B9 zaH kx)
         go_roundw
         case rel=>
          refine⟨j+1,{v5 with gL:=g9,cL:=c9},aC,nE,?_⟩;rw[zxT.o,<-jJ.o];have e:Em (dR r1 e)={r5 with log:=r5.log++[t5]}:=by rw[qB.o,xK.o];rfl
          rw[e];exact zmm.o
         case measure=>simp[intOf];omega
       .
         obtain⟨nb,oI⟩:=aN wr.heap.size;obtain⟨W6,rW⟩:=aN (gX w5 nb (.int .i64 r5.o.ln) (.int .i64 r5.o.op) (.int .i64 r5.o.pt) (.int .i64 r5.clk) (v5.sR r5) (v5.sW r5) (v5.sB r5) (v5.sL r5));obtain⟨zcn,p0,p1,p6,a1,a2,a3,a4,zfI⟩:=Ng.o.stepped wC.o uX.o oU.o;have l1:=jX.o.ok.lts;have mr:=oU.o.r;have mw:=oU.o.w;have mb:=oU.o.b;have ml:=oU.o.l;have eX:(wr.alloc kO).drew.heap.size=nb+1:=by rw[oI];show(wr.alloc kO).heap.size=_;simp
         rw[eX] at mr mw mb zfI;have hN:W6.heap[nb]? =some (yJ v5 r5):=by rw[rW,oI];exact zbc zGS.o
         have Uj:eH W6 gb v5 r5:=by rw[rW];exact wC.o.set8 aC
         have zai:=zhu w5 nb (.int .i64 r5.o.ln) (.int .i64 r5.o.op) (.int .i64 r5.o.pt) (.int .i64 r5.clk) (v5.sR r5) (v5.sW r5) (v5.sB r5) (v5.sL r5);have zbI:cH gb w W6:=by rw[rW];exact zcn.trans ⟨zai.os,zai.tape,zai.output,zai.size,λx hx=>zai.block x aC aC⟩
         have q0:W6.heap[gb]? =some (.cells #[.int .i64 o.ln,.int .i64 o.op,.int .i64 o.pt] 29):=by rw[rW];exact(Ir aC).trans (p0.trans Ng.o.ofc)
         have q1:W6.heap[gb+1]? =some kO:=by rw[rW];exact(Ir aC).trans (p1.trans Ng.o.res)
         have q6:W6.heap[gb+6]? =some (yJ v1 r1):=by rw[rW];exact(Ir aC).trans (p6.trans Ng.o.blk)
         have znP:gb+7<=W6.heap.size:=by rw[rW,ziE];omega
         have C6:nb≠gb+6:=aC;unfold gX at rW;rw[<-oI,<-rW];clear rW oI zcn p0 p1 p6 zfI zai l1 mr mw mb ml eX z0 z1 z2 z3 z4 z5 zbj z7 r0;have zCr:=aD hN;have zA7:=aD Uj;have zdI:r5.log=r1.log:=by rw[qB.o];exact zuE.o.2.2.2
         have zAx:r5.log.length<=60:=by rw[zdI];exact pI
         have Ds:=aD (tE.stored Uj zbI q0 q1 q6 a1 a2 a3 a4 znP);have k:=aI hN;obtain⟨k0,k1,k2,k3,k4,k5,k6,k7⟩:=eT k;have z:=aI q6;obtain⟨z0,z1,z2,z3,z4,z5,zbj,z7⟩:=eT z;have r0:=fC q6;clear k z hN Uj zbI q0 q1 q6 zdI
         go_upto_region 14 with fail
         obtain⟨W7,Dm⟩:=aN (gX W6 (gb+6) (.int .i64 r5.o.ln) (.int .i64 r5.o.op) (.int .i64 r5.o.pt) (.int .i64 r5.clk) (v5.sR r5) (v5.sW r5) (v5.sB r5) (v5.sL r5));rw[<-Dm] at Ds;unfold gX at Dm;rw[<-Dm];clear Dm k0 k1 k2 k3 k4 k5 k6 k7 z0 z1 z2 z3 z4 z5 zbj z7 r0;have k7:=aI Ds.o.blk 7;have zBL:=Ds.o.size;have ziF:=Ds.o.aL;obtain⟨ii,Pa,fM,dF,hY⟩:=C8 zqX;have zdT:=aD Pa;clear Pa
         go_wp2_with (at_builtin;refine zjZ _ rfl (.tmp 58) (.tmp 60) 26 rfl gb 9 ii (.string ⟨#[]⟩) 1 16 zqU zdT.o fM dF hY rfl aH v5.gL v5.cL r5.log.length (wF r5.log) rfl ((Ds.o.alloc _).ok.lg) ⟨_,0,none⟩ 1 1 [.string ⟨t5.toArray⟩] rfl rfl ?c2 Lz ?c5 ?c6 ?c7 ?_;(case c2=>exact Ez (cs:=#[.string ⟨t5.toArray⟩]) (gV _ _));(case c5=>unfold maxLen;omega);(case c6=>omega);(case c7=>(simp;omega));intro g9 c9 w9 zdx Um B9 zaH;have zmm:=aD ((Ds.o.alloc _).appL Um zdx rfl zaH);have kx:=(Az Um (dH Ds.o.blk _) (Ne.symm ziF.2)).1;have zHC:=aI kx 7;have xL:=fC kx;clear zdx Um B9 zaH kx)
         go_roundw
         case rel=>
          refine⟨j+1,{v5 with gL:=g9,cL:=c9},aC,nE,?_⟩;rw[zxT.o,<-jJ.o];have e:Em (dR r1 e)={r5 with log:=r5.log++[t5]}:=by rw[qB.o,xK.o];rfl
          rw[e];exact zmm.o
         case measure=>simp[intOf];omega
      .have e:j=k:=aC
       subst e;have zgT:=aD (show uD o es=r1 by unfold uD;rw[fH.o,<-S7,P3.o,<-jJ.o];exact if_pos rfl);clear tI tC tO aT;have k:=aI jX.o.blk;obtain⟨k0,k1,k2,k3,k4,k5,k6,k7⟩:=eT k;clear k;have z:=aI jX.o.res;obtain⟨z0,z1,z2,z3,z4,z5,z6,z7⟩:=eT z;clear z;have r0:=fC jX.o.res
       go_wp2_with fail
       have er:=aI (tF v1 r1 jX.o.res);refine nY (v:=.tuple #[.agg (fV (v1) (r1)),.bool true]) ?_ rfl ?_
       .unfold gX at er
        simp[results,zgp,go_sem,er]
       .obtain⟨d1,d2⟩:=jX.o.doneR v1 r1
        exact⟨v1,by rw[fH.o];rw[zgT.o],by rw[zgT.o,<-fZ.o];exact d1,by rw[<-fZ.o];exact d2⟩
end Go.Proofs.YtfcjiloojkjaeaaGreatDoor
