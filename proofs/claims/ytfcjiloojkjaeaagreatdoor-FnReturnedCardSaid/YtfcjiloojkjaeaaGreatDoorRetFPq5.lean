/-
  Part 5 of what stands behind the last text.
-/
import Derived.Lib.Overlaps
import Derived.Lib.AppendZerosOnto
import Derived.Test.YtfcjiloojkjaeaaGreatDoorRetFPq4
set_option linter.all false
set_option maxHeartbeats 16000000
set_option maxRecDepth 100000
open Array renaming getD_eq_getD_getElem?→xG,getElem?_eq_none→N8,getElem?_eq_some_iff→eB,getElem?_toList→C1,length_toList→Dy,replicate→oJ,size_append→Xc,toList_append→Oo
open Bool renaming and_eq_true→jF,false_eq_true→iX,or_eq_true→Eu
open Go renaming Act→vN,Addr→bC,Code→wY,Exit→oF,FuncId→aQ,Goroutine→bD,Oper→aZ,Operand→cK,Program→bZ,Tape→j6,TypeId→aM,TypeInfo→wE,Value→aF,World→aE,execOp→aO,heap_alloc_new→gP,run_underlying→xE,setRow_heap→Ls,setRow_other→zhb,size_zeroCells→Vw,undef→aA,yielded→dH
open Go.Act renaming eval→wZ,mk→bJ,put→cC
open Go.Addr renaming add_lit→Lr
open Go.Builtin renaming copy_→Dq,firstCells→Tc,zeroCells→qJ
open Go.Code renaming region→E6
open Go.Deferred renaming ofValue→Db
open Go.Extern renaming find→zpQ,findNext→zsT
open Go.Extern.SlicesOverlaps renaming overlaps→zlj
open Go.Instr renaming lookup→zZ,slice→Y5,sliceAt→Vv,sliceBound→K8,sliceBounds→Wj
open Go.Operand renaming tmp→zkh
open Go.Proofs.Tryz renaming checked→wA,f101→zpL,f56→zgk,func101→zxm,func102→zue,func103→zvh,func104→zrs,func111→zwY,func120→zpy,func56→zid,func58→zkm,func81→zw6,func82→zvs,isAgg84→zo3,prog→aK,underlying38→Xz,underlying84→zqb
open Go.Region renaming binds→E8,ready→Hz,schedule→Tz,wanted→dE
open Go.Region.linearise renaming go→ze6
open Go.RowKit.Below renaming heap_setCell→dU,refl→fW
open Go.Value renaming bool→Od,int→Is,slice→Q2
open Go.World renaming frozen?→Jg,setRow→zgE,shape?→zcR,size_setCell→xA
open List renaming all_eq_true→wN,append_assoc→Jz,drop_of_length_le→zoJ,findIdx?_eq_some_iff_getElem→zl5,getD_cons_succ→Ee,getD_cons_zero→Du,getD_eq_getElem?_getD→Uu,getElem?_append_left→Og,getElem?_append_right→Po,getElem?_drop→Zk,getElem?_eq_getElem→mV,getElem?_eq_none→Ue,getElem?_eq_some_iff→kP,getElem?_take→Z0,idxOf?→zoN,length_append→jH,length_cons→rG,length_drop→yG,length_take→sE,map_append→N4,map_cons→gT,map_drop→zrR,map_nil→tW,map_take→zuC,map_toArray→vD,mem_filter→L8,mem_of_getElem?→fN,mem_of_mem_drop→zaz,mem_range→El,not_mem_nil→nE,range→iQ,replicate→zrM,setIfInBounds_toArray→fO,set_cons_succ→dQ,set_cons_zero→dP,size_toArray→B6,takeWhile_cons→zqw,takeWhile_prefix→zvz,take_append_of_le_length→F5,take_of_length_le→zP,take_take→Qt
open Nat renaming add_sub_cancel_left→zpc,add_zero→Q3,le_refl→bF,le_succ→zg8,le_trans→eH,lt_of_lt_of_le→jO,lt_or_ge→qX,lt_trichotomy→zxV,min→zap,min_eq_left→zvN,sub_self→zl3,zero_add→qH,zero_le→lP
open Option renaming getD_none→zqi,getD_some→Br
open Option.some renaming inj→cO
noncomputable section
namespace Go
theorem kS{P:Prop}(h:P:=by rw[hz];decide):P:=h
theorem zI{P:Prop}(h:P:=by rw[mB.o];decide):P:=h
theorem Ib{P:Prop}(h:P:=by intro s hs;cases hs;exact nE):P:=h
theorem Qp{P:Prop}(h:P:=by first|rfl|(simp only[wZ];rfl)):P:=h
theorem zeh{P:Prop}(h:P:=by show _<=((Tt.tp w' T 0).alloc _).heap.size;rw[uD];exact zg8 _):P:=h
theorem Ou{P:Prop}(h:P:=by unfold aO;go_simp;try rfl):P:=h
theorem ztW{P:Prop}(h:P:=by have:(bH xs).length=xs.length*2:=I2 bE.cells (s:=2) (λ_=>rfl) xs;omega):P:=h
theorem X8{P:Prop}(h:P:=by rw[HF.o];decide):P:=h
theorem zvb{P:Prop}(h:P:=by intro s hs;cases hs;show(3:Nat)∉([0]:List Nat);decide):P:=h
theorem zpP{P:Prop}(h:P:=by rw[cM,show zap 1 (n+1-i)=1 from zvN (by omega)];rfl):P:=h
theorem zd8{P:Prop}(h:P:=by simp only[jH];omega):P:=h
theorem zo5{P:Prop}(h:P:=by have e:b=hb:=e;subst e;exact fN (i:=0) rfl):P:=h
theorem zjC{P:Prop}(h:P:=by have:=G2.o;omega):P:=h
end Go
namespace Go.Mt
open Go.Conc Go.Tt
open Go.ConcR (KK wgBlock WgAt stA smA rd wr)
section
variable {L:Type}{C:Cx L}{l:L}
theorem BO.draw (hI:fD C){fn:aQ}{tmps:Array aF}{k:List Item}{w:aE}{id:Nat}{ops:Array aZ}(h:∀n,BO C l ⟨fn,tmps,.inRegion ops (Tz (C.p.follows .mixedOrders) ops n)::k,false⟩ w):BO C l ⟨fn,tmps,.code (.region id ops true)::k,false⟩ w:=by
 intro R W m' τ hw hm ht hi;obtain⟨fn',bV,zB,zJ⟩:=m';obtain rfl:=hm.fn;obtain rfl:=hm.todo;obtain rfl:=hm.ret;rw[mX];refine Cx.ownQ rfl λaX s=>?_;have dL:C.Rel R w aX:=Cx.Rel.suf (C:=C) hw ht s;have zH:=hI.suf _ _ _ _ hi s;have aY:=stepG_region_draw (P:=C.p) (main:=C.main) (b:=C.ds.base fn) (a:=⟨bV,C.ds.ds⟩) (k:=k) (cs:=C.base) (w:=aX) (id:=id) (ops:=ops);refine⟨_,{aX with drawn:=aX.drawn+1},_,aY,rfl,⟨rfl,rfl,rfl,bF _,λb _ _=>rfl⟩,λe he=>by simp at he,?_⟩;rw[<-mX];refine h _ R _ ⟨fn,bV,_,false⟩ _ ⟨dL.inj,dL.inj',dL.lt,dL.low,dL.gle,dL.cont,dL.rest,dL.st,dL.np,dL.tb⟩ ⟨rfl,rfl,rfl,hm.tmps,hm.pins⟩ (λa b x=>⟨(ht a b x).1,λz=>.inl ((ht a b x).2 z)⟩) ?_;exact hI.step R τ aX R _ zH ht ⟨λ_ _ x=>x,rfl,rfl,rfl,bF _,λa b x=>.inl x,λb _ _=>rfl⟩
end
def dep (ops:Array aZ)(i j:Nat):Bool:=match ops[i]? with|some o=>o.after.any λe=>E8 .any e&&e.on==j|none=>false
def Pp (ops:Array aZ):Nat->Nat->Nat->Bool
 |0,_,_=>false
 |n+1,i,j=>dep ops i j||(iQ ops.size).any λm=>dep ops i m&&Pp ops n m j
def linked (ops:Array aZ):List Nat->Bool
 |a::b::l=>Pp ops (ops.size+1) b a&&linked ops (b::l)
 |_=>true
def N5 (ops:Array aZ)(ch:List Nat):Bool:=linked ops ch&&decide ch.Nodup&&(match ch.getLast? with|some z=>(iQ ops.size).all λj=>j==z||Pp ops ops.size z j|none=>false)
variable {ops:Array aZ}{i:Nat}
theorem ziD {j:Nat}(h:dep ops i j=true):∃o,ops[i]? =some o/\∃e∈o.after,E8 .any e=true/\e.on=j:=by
 unfold dep at h;split at h
 .grind
 .cases h
theorem zuP :∀{ch:List Nat},linked ops ch=true->∀(j a b:Nat),ch[j]? =some a->ch[j+1]? =some b->Pp ops (ops.size+1) b a=true
 |[],_,j,a,b,h1,_=>by simp at h1
 |[x],_,j,a,b,_,h2=>by simp at h2
 |x::y::l,h,0,a,b,h1,h2=>by
  simp at h1 h2;subst h1 h2;unfold linked at h;simp_all
 |x::y::l,h,j+1,a,b,h1,h2=>by
  unfold linked at h;simp only[jF] at h;exact zuP h.2 j a b Wt Y2
def Closed (ops:Array aZ)(bP:Array Bool):Prop:=∀(i:Nat) (o:aZ),ops[i]? =some o->bP.getD i false=true->∀e∈o.after,E8 .any e=true->bP.getD e.on false=true
variable {bP:Array Bool}
theorem zqJ (hc:Closed ops bP):∀(n i j:Nat),Pp ops n i j=true->bP.getD i false=true->bP.getD j false=true:=by
 intro n
 induction n with
 |zero=>intro i j h _;cases h
 |succ n ih=>
  intro i j h hl;unfold Pp at h;simp only[Eu,List.any_eq_true,jF] at h;rcases h with h|⟨m,_,h1,h2⟩
  .obtain⟨o,ho,e,he,hb,rfl⟩:=ziD h
   exact hc i o ho hl e he hb
  .obtain⟨o,ho,e,he,hb,rfl⟩:=ziD h1
   exact ih _ j h2 (hc i o ho hl e he hb)
variable {ch:List Nat}
theorem zEg {m:Nat}(h:ch.idxOf? i=some m):ch[m]? =some i/\m<ch.length:=by
 unfold zoN at h;obtain⟨h1,h2,_⟩:=zl5.1 h;simp_all
theorem zyw (h:i∉ch):ch.idxOf? i=none:=by simp_all
theorem zas (hn:ch.Nodup){m:Nat}(h:ch[m]? =some i):ch.idxOf? i=some m:=by
 unfold zoN;obtain⟨h1,h2⟩:=kP.1 h;rw[zl5];refine⟨h1,by rw[h2];simp,λj hj=>?_⟩;simp only[Bool.not_eq_true,beq_eq_false_iff_ne];intro e;have:=(List.getElem_inj hn).1 (e.trans h2.symm);omega
def VV (ch:List Nat)(V0:Nat->aF)(vs:List aF)(i:Nat):Value:=match ch.idxOf? i with|some j=>vs.getD j aA|none=>V0 i
variable {t0:Array aF}
theorem sO.congr {vals zbj:Nat->aF}{t:Array aF}(h:sO ops vals t0 bP t)(hv:∀i,bP.getD i false=true->vals i=zbj i):sO ops zbj t0 bP t:=
 ⟨h.size,λi o d h1 h2 h3 h4=>by rw[<-hv i h4];exact h.got i o d h1 h2 h3 h4,h.old⟩
variable {σ:Type}{P:bZ}{V0:Nat->aF}
theorem drawnGo {J:σ->List Nat->Array aF->aE->Prop}{S:List aF->σ->aE->Prop}(KO:Mh ops)(uF:N5 ops ch=true)(oY:∀c∈ch,¬c<ops.size->False)
 (hop:∀vs s i o rest t w v,S vs s w->ops[i]? =some o->i∉ch->dE o (dH ops t)=true->(∀T,(aO (bJ t []).eval o).run P (Tt.tp w T 0)=.ok (.value v) (Tt.tp w T 0))->(∀T,J s rest (cC ⟨t,[]⟩ o.dst v).tmps (Tt.tp w T 0))->J s (i::rest) t w)
 (hT:∀vs s w T e,S vs s w->S vs s (Tt.tp w T e))
 (hR:∀(i:Nat) (o:aZ),ops[i]? =some o->i∉ch->∀vs s w,vs.length<ch.length->(∀j c,ch[j]? =some c->dep ops i c=true->j<vs.length)->S vs s w->dE o (dH ops (dF ops (VV ch V0 vs) t0))=true/\(aO (bJ (dF ops (VV ch V0 vs) t0) []).eval o).run P w=.ok (.value (V0 i)) w)
 (hC:∀(vs:List aF) (c:Nat) (o:aZ) s w,ch[vs.length]? =some c->ops[c]? =some o->S vs s w->∀(t:Array aF) (rest:List Nat),(∀s∈o.looksAt ops,t[s]? =(dF ops (VV ch V0 vs) t0)[s]?)->
  (∀v s' w',S (vs++[v]) s' w'->J s' rest (cC ⟨t,[]⟩ o.dst v).tmps w')->J s (c::rest) t w)
 (hk:∀vs s w,vs.length=ch.length->S vs s w->J s [] (dF ops (VV ch V0 vs) t0) w):
 ∀(fuel q:Nat) (bP:Array Bool) (t:Array aF) (vs:List aF) (s:σ) (w:aE),bP.size=ops.size->((iQ ops.size).filter λi=>!bP.getD i false).length<=fuel->sO ops (VV ch V0 vs) t0 bP t->Closed ops bP->
  (∀j c,ch[j]? =some c->(bP.getD c false=true↔j<vs.length))->vs.length<=ch.length->S vs s w->J s (ze6 .any ops fuel q bP []) t w:=by
 have zl2:=uF;unfold N5 at zl2;simp only[jF,decide_eq_true_eq] at zl2;obtain⟨⟨zO,lE⟩,D9⟩:=zl2;have fin:∀(bP:Array Bool) (t:Array aF) (vs:List aF) (s:σ) (w:aE),bP.size=ops.size->(∀i,i<ops.size->bP.getD i false=true)->sO ops (VV ch V0 vs) t0 bP t->(∀j c,ch[j]? =some c->(bP.getD c false=true↔j<vs.length))->vs.length<=ch.length->S vs s w->(∀c∈ch,c<ops.size)->J s [] t w:=by
  intro bP t vs s w hz tF hm hl hle hw gS;have e:bP=oJ ops.size true:=by
   apply Array.ext_getElem?;intro j;by_cases hj:j<ops.size
   .have:=tF j hj
    have uU:j<bP.size:=aC;simp[uU] at this;simp[hj,uU,this]
   .rw[N8 aC,N8 oX]
  have uB:vs.length=ch.length:=by
   rcases qX vs.length ch.length with h|h
   .have h1:ch[vs.length]? =some ch[vs.length]:=mV h
    have:=(hl _ _ h1).1 (tF _ (gS _ (List.getElem_mem h)));omega
   .omega
  subst e;have e2:=hm.unique (Si (vals:=VV ch V0 vs) (t0:=t0) KO);subst e2;exact hk vs s w uB hw
 have gS:∀c∈ch,c<ops.size:=by
  intro c hc
  cases hg:ch.getLast? with
  |none=>rw[hg] at D9;cases D9
  |some z=>
   by_cases aS:c<ops.size
   .exact aS
   .exfalso
    exact oY c hc aS
 intro fuel
 induction fuel with
 |zero=>
  intro q bP t vs s w hz hc hm mU hl hle hw;simp only[ze6,List.reverse_nil];refine fin bP t vs s w hz (λi hi=>?_) hm hl hle hw gS
  cases hl:bP.getD i false with
  |true=>rfl
  |false=>
   have:i∈(iQ ops.size).filter λi=>!bP.getD i false:=L8.2 ⟨El.2 hi,by rw[hl];rfl⟩;have:=List.length_pos_of_mem this;omega
 |succ fuel ih=>
  intro q bP t vs s w hz hc hm mU hl hle hw;simp only[ze6];change J s (match(Hz .any ops bP)[q%(Hz .any ops bP).length]? with
   |some i=>ze6 .any ops fuel (q/(Hz .any ops bP).length) (bP.setIfInBounds i true) [i]
   |none=>[].reverse) t w
  cases hi:(Hz .any ops bP)[q%(Hz .any ops bP).length]? with
  |none=>
   have Xe:Hz .any ops bP=[]:=by
    cases hr:Hz .any ops bP with
    |nil=>rfl
    |cons x xs=>
     rw[hr] at hi;have aS:q%(x::xs).length<(x::xs).length:=Nat.mod_lt _ aN;simp at hi;simp at aS;omega
   exact fin bP t vs s w hz (zpv KO hz Xe) hm hl hle hw gS
  |some i=>
   simp only[];rw[linearise_go_acc,List.reverse_singleton,List.singleton_append];obtain⟨hu,o,ho,uG⟩:=mem_ready.1 (fN hi);have Hp:i<ops.size:=(eB.1 ho).1;have mJ:=hm.sees KO (Si (vals:=VV ch V0 vs) (t0:=t0) KO) ho uG;have Lp:∀j,(bP.setIfInBounds i true).getD j false=if j=i then true else bP.getD j false:=by
    intro j;by_cases e:j=i
    .subst e;have:j<bP.size:=aC
     simp[this]
    .rw[if_neg e];exact getD_set_ne false (Ne.symm e)
   have pD:bP.getD i false=false:=by
    have:i<bP.size:=aC;simp[this] at hu⊢;exact hu
   have zhT:Closed ops (bP.setIfInBounds i true):=by
    intro j oj hj uU e he hb;rw[Lp] at uU⊢;split
    .rfl
    .split at uU
     .next e1=>subst e1;rw[ho] at hj;obtain rfl:=cO hj;exact uG e he hb
     .exact mU j oj hj uU e he hb
   have X6:((iQ ops.size).filter λj=>!(bP.setIfInBounds i true).getD j false).length<=fuel:=by
    have aS:((iQ ops.size).filter λj=>!(bP.setIfInBounds i true).getD j false).length<((iQ ops.size).filter λj=>!bP.getD j false).length:=by
     have e:((iQ ops.size).filter λj=>!(bP.setIfInBounds i true).getD j false)=((iQ ops.size).filter λj=>!bP.getD j false).filter (λj=>j !=i):=by
      rw[List.filter_filter];apply List.filter_congr;intro j hj;rw[Lp];by_cases e:j=i
      .simp[e]
      .simp[e]
     rw[e];exact List.length_filter_lt_length_iff_exists.2 ⟨i,L8.2 ⟨El.2 Hp,by rw[pD];rfl⟩,aN⟩
    omega
   by_cases y4:i∈ch
   .
    obtain⟨j,hj⟩:=List.mem_iff_getElem?.1 y4;have zLx:=(kP.1 hj).1;have zCa:j=vs.length:=by
     have h1:¬j<vs.length:=λh=>by have:=(hl j i hj).2 h;rw[pD] at this;cases this
     rcases qX vs.length j with h|h
     .exfalso
      obtain⟨b,hb⟩:∃b,ch[j-1]? =some b:=⟨ch[j-1]' aC,mV aC⟩;have hd:=zqJ zhT _ _ _ (zuP zO (j-1) b i hb (by rw[Nat.sub_add_cancel aC];exact hj)) (by rw[Lp,if_pos rfl]);rw[Lp] at hd;split at hd
      .next e=>
       subst e;have h1:=zas lE hb;rw[zas lE hj] at h1;have:=cO h1;omega
      .have:=(hl (j-1) _ hb).1 hd
       omega
     .omega
    subst zCa;have qS:∀v i',i'≠i->VV ch V0 (vs++[v]) i'=VV ch V0 vs i'\/bP.getD i' false=false:=by
     intro v i' aU;unfold VV
     cases hx:ch.idxOf? i' with
     |none=>exact .inl rfl
     |some m=>
      simp only;obtain⟨Yv,wJ⟩:=zEg hx;rcases zxV m vs.length with h|h|h
      .left;simp[Uu,Og h]
      .subst h;rw[hj] at Yv;exact absurd (cO Yv).symm aU
      .right
       cases Jo:bP.getD i' false with
       |false=>rfl
       |true=>have:=(hl m i' Yv).1 Jo;omega
    have zlX:∀v,VV ch V0 (vs++[v]) i=v:=by
     intro v;unfold VV;rw[zas lE hj];simp[Uu]
    refine hC vs i o s w hj ho hw t _ mJ λv s' w' Pd=>?_;have wJ:sO ops (VV ch V0 (vs++[v])) t0 bP t:=hm.congr λi' lU=>by
     rcases qS v i' (λe=>by subst e;rw[pD] at lU;cases lU) with h|h
     .exact h.symm
     .rw[h] at lU;cases lU
    have Y9:=wJ.step KO ho hz hu;have:=ih (q/(Hz .any ops bP).length) (bP.setIfInBounds i true) _ (vs++[v]) s' w' (by simp[hz]) X6 Y9 zhT (λj c Nu=>?_) oX Pd
    .rw[zlX] at this
     cases hd:o.dst with
     |none=>rw[hd] at this;exact this
     |some s=>rw[hd] at this;exact this
    .rw[Lp]
     by_cases e:c=i
     .subst e
      rw[if_pos rfl];have:j=vs.length:=by
       have h1:=zas lE Nu;have h2:=zas lE hj;rw[h1] at h2;exact cO h2
      subst this;simp
     .rw[if_neg e,hl j c Nu]
      simp;constructor
      .intro h;omega
      .intro h
       rcases qX j vs.length with h2|h2
       .exact h2
       .have:j=vs.length:=aC
        subst this;rw[hj] at Nu;exact absurd (cO Nu).symm e
   .
    have zsy:=hR i o ho y4;have aS:vs.length<ch.length:=by
     rcases qX vs.length ch.length with h|h
     .exact h
     .exfalso
      cases hg:ch.getLast? with
      |none=>rw[hg] at D9;cases D9
      |some z=>
       rw[hg] at D9;have zxB:ch[ch.length-1]? =some z:=by rw[<-List.getLast?_eq_getElem?];exact hg
       have Ce:0<ch.length:=by
        cases ch with
        |nil=>cases hg
        |cons _ _=>simp
       have zEJ:=(hl _ z zxB).2 aC;have:=(wN.1 D9) i (El.2 Hp);simp only[Eu,beq_iff_eq] at this;rcases this with rfl|this
       .exact y4 (fN zxB)
       .have:=zqJ mU _ _ _ this zEJ
        rw[pD] at this;cases this
    have vE:∀j c,ch[j]? =some c->dep ops i c=true->j<vs.length:=λj c hj hd=>by
     obtain⟨o',zX,e,he,zff,rfl⟩:=ziD hd;rw[ho] at zX;obtain rfl:=cO zX;exact(hl j _ hj).1 (uG e he zff)
    obtain⟨h1,h2⟩:=zsy vs s w aS vE hw;have dW:dE o (dH ops t)=true:=(Wp mJ).trans h1;refine hop vs s i o _ t w (V0 i) hw ho y4 dW (λT=>?_) λT=>?_
    .rw[Fi (KO.sel i o ho) mJ]
     exact(zsy vs s _ aS vE (hT _ _ _ T 0 hw)).2
    .have Y9:=hm.step KO ho hz hu
     have zlX:VV ch V0 vs i=V0 i:=by
      unfold VV;rw[zyw y4]
     rw[zlX] at Y9;have:=ih (q/(Hz .any ops bP).length) (bP.setIfInBounds i true) _ vs s (Tt.tp w T 0) (by simp[hz]) X6 Y9 zhT (λj c Nu=>?_) hle (hT _ _ _ T 0 hw)
     .cases hd:o.dst with
      |none=>rw[hd] at this;exact this
      |some s=>rw[hd] at this;exact this
     .have aU:c≠i:=λe=>y4 (e▸fN Nu)
      rw[Lp,if_neg aU];exact hl j c Nu
theorem zsm {J:σ->List Nat->Array aF->aE->Prop}{S:List aF->σ->aE->Prop}(bS:I9 ops=true)(uF:N5 ops ch=true)(oY:ch.all (λc=>decide (c<ops.size))=true)
 (hop:∀vs s i o rest t w v,S vs s w->ops[i]? =some o->i∉ch->dE o (dH ops t)=true->(∀T,(aO (bJ t []).eval o).run P (Tt.tp w T 0)=.ok (.value v) (Tt.tp w T 0))->(∀T,J s rest (cC ⟨t,[]⟩ o.dst v).tmps (Tt.tp w T 0))->J s (i::rest) t w)
 (hT:∀vs s w T e,S vs s w->S vs s (Tt.tp w T e))
 (hR:∀(i:Nat) (o:aZ),ops[i]? =some o->i∉ch->∀vs s w,vs.length<ch.length->(∀j c,ch[j]? =some c->dep ops i c=true->j<vs.length)->S vs s w->dE o (dH ops (dF ops (VV ch V0 vs) t0))=true/\(aO (bJ (dF ops (VV ch V0 vs) t0) []).eval o).run P w=.ok (.value (V0 i)) w)
 (hC:∀(vs:List aF) (c:Nat) (o:aZ) s w,ch[vs.length]? =some c->ops[c]? =some o->S vs s w->∀(t:Array aF) (rest:List Nat),(∀s∈o.looksAt ops,t[s]? =(dF ops (VV ch V0 vs) t0)[s]?)->
  (∀v s' w',S (vs++[v]) s' w'->J s' rest (cC ⟨t,[]⟩ o.dst v).tmps w')->J s (c::rest) t w)
 (hk:∀vs s w,vs.length=ch.length->S vs s w->J s [] (dF ops (VV ch V0 vs) t0) w) {s:σ} {w:aE} (h0:S [] s w) (n:Nat):J s (Tz true ops n) t0 w:=by
 simp only[Tz,Bool.true_or,if_true];refine drawnGo (Us bS) uF (λc hc aS=>?_) hop hT hR hC hk ops.size n _ t0 [] s w aN (eH (List.length_filter_le _ _) aN) (sO.start _ λi=>?_) (λi o hi hl=>?_) (λj c hj=>?_) (lP _) h0
 .simp_all
 .by_cases hi:i<ops.size<;>simp[hi]
 .by_cases hi:i<ops.size<;>simp[hi] at hl
 .by_cases hi:c<ops.size<;>simp[hi]
section
variable {d:qA}{f:aQ}
variable {Φ:oF->WS->Prop}
theorem CW.drawn (H:d.Ok)(zjH:d.p.follows .mixedOrders=true){B:List Nat}{id:Nat}{t0:Array aF}{ops:Array aZ}(ch:List Nat)(V0:Nat->aF)(S:List aF->Pr->gN->aE->Prop)(bS:I9 ops=true)(uF:N5 ops ch=true)(oY:ch.all (λc=>decide (c<ops.size))=true)
 (hT:∀vs K l w T e,S vs K l w->S vs K l (Tt.tp w T e))
 (hR:∀(i:Nat) (o:aZ),ops[i]? =some o->i∉ch->rY d.p ⟨d.fs,d.gs,true⟩ o.op=true/\∀vs K l w,vs.length<ch.length->S vs K l w->dE o (dH ops (dF ops (VV ch V0 vs) t0))=true/\(aO (bJ (dF ops (VV ch V0 vs) t0) []).eval o).run d.p w=.ok (.value (V0 i)) w)
 (hC:∀(vs:List aF) (c:Nat) (o:aZ) K l w,ch[vs.length]? =some c->ops[c]? =some o->S vs K l w->∀(t:Array aF) (rest:List Nat),(∀s∈o.looksAt ops,t[s]? =(dF ops (VV ch V0 vs) t0)[s]?)->
  (∀v K' l' w',K.le K'->S (vs++[v]) K' l' w'->CR d f ops rest ⟨[],K',l',(cC ⟨t,[]⟩ o.dst v).tmps,w'⟩ (Φ .normal))->CR d f ops (c::rest) ⟨[],K,l,t,w⟩ (Φ .normal))
 (hk:∀vs K l w,vs.length=ch.length->S vs K l w->Φ .normal ⟨[],K,l,dF ops (VV ch V0 vs) t0,w⟩) {K:Pr} {l:gN} {w:aE} (h0:S [] K l w):CW d B f (.region id ops true) ⟨[],K,l,t0,w⟩ Φ:=λQ base kk hQ hB h1 h2 h3=>by
 refine BO.draw (H.iok hQ) λn=>?_
 have:=zsm (σ:=Pr×gN) (P:=d.p) (J:=λs is t w=>CR d f ops is ⟨[],s.1,s.2,t,w⟩ (Φ .normal)) (S:=λvs s w=>S vs s.1 s.2 w) bS uF oY
  (λvs s i o rest t w v hS ho y4 hw hx hJ=>CR.op H ho hw (hR i o ho y4).1 λT=>⟨v,_,.inl (hx T),hJ T⟩) (λvs s=>hT vs s.1 s.2) (λi o ho y4 vs s w hv _=>(hR i o ho y4).2 vs s.1 s.2 w hv)
  (λvs c o s w hj ho h t rest hs cU=>hC vs c o s.1 s.2 w hj ho h t rest hs λv K' l' w' _=>cU v (K',l') w') (λvs s w hl h=>CR.nil H (hk vs s.1 s.2 w hl h)) (s:=(K,l)) h0 n Q base kk hQ λs' l x=>h1 s' l x
 rw[<-zjH] at this;exact this
end
structure OvFn (p:bZ)(f:aQ)(t tr e:aM)(size:Nat):Prop where
 fn:∃fn,p.funcs[f]? =some fn/\(fn.name== "runtime.NumGoroutine")=false/\fn.body.isNone=true/\zsT fn=none/\zpQ fn=some (zlj #[t,t] #[tr])
 un:p.underlying t=some (.slice e)
 inf:∃i,p.info? e=some i/\i.size=size
variable {i:wE}
theorem zGN (w:aE)(tS tR e:aM)(ht:P.underlying tS=some (.slice e))(hi:P.info? e=some i)
 (a b:bC) (la ca lb cb:Nat) (aU:a.block≠b.block) (tA tB:aM) (kA kB:Nat)
 (Ix:w.shape? a.block=some (tA,kA)) (D4:w.shape? b.block=some (tB,kB)) (Ov:kB≠0)
 (vY:w.frozen? a=false) (Nr:w.frozen? {block:=a.block,off:=kA}=false):
 (zlj #[tS,tS] #[tR] #[.slice (some a) la ca,.slice (some b) lb cb]).run P w=.ok (.bool false) w:=
 Lib.run_overlaps_apart w tS tR e ht i.size (λw=>by simp[sizeOf,typeInfo,hi]) a b la ca lb cb aU tA tB kA kB Ix D4 Ov vY Nr
section
variable {P:bZ}{w:aE}{es:Array Event}
def zzR (a:bC):(frozen a).events P w es=es:=rfl
def zrj (a:bC):(frozen a).run P w=.ok (w.frozen? a) w:=rfl
def zFY (r:Nat):(shape r).events P w es=es:=rfl
def zeP (r:Nat):(shape r).run P w=.ok (w.shape? r) w:=rfl
variable {a:bC}{t:aM}{n:Nat}
theorem zuJ (h:w.shape? a.block=some (t,n)):(noView a).events P w es=es:=by
 unfold noView viewAt;simp_all
theorem zqj (h:w.shape? a.block=some (t,n)):(noView a).run P w=.ok () w:=by
 unfold noView viewAt;simp[zeP,h]
theorem zoS (h:w.shape? a.block=some (t,n)):(stringish a).events P w es=es:=by
 unfold stringish;simp_all
theorem zfL (h:w.shape? a.block=some (t,n)):(stringish a).run P w=.ok (w.frozen? a||w.frozen? ⟨a.block,n,none⟩) w:=by
 unfold stringish;cases hf:w.frozen? a<;>simp[zrj,zeP,h,hf]
theorem zzd {b:bC}{tA tB:aM}{kA kB:Nat}(Ix:w.shape? a.block=some (tA,kA))(D4:w.shape? b.block=some (tB,kB))(vY:w.frozen? a=false)(Nr:w.frozen? ⟨a.block,kA,none⟩=false)(Ov:kB≠0):
 (mayBeOne a b).events P w es=es/\(mayBeOne a b).run P w=.ok false w:=by
 cases kB with
 |zero=>exact absurd rfl Ov
 |succ kB=>
  unfold mayBeOne;constructor
  .simp[zoS Ix,zfL Ix,zoS D4,zfL D4,vY,Nr,zFY,zeP,Ix,D4]
  .simp[zfL Ix,zfL D4,vY,Nr,zeP,Ix,D4]
end
theorem zFw (w:aE)(es:Array Event)(tS tR e:aM)(ht:P.underlying tS=some (.slice e))(hi:P.info? e=some i)
 (a b:bC) (la ca lb cb:Nat) (aU:a.block≠b.block) (tA tB:aM) (kA kB:Nat)
 (Ix:w.shape? a.block=some (tA,kA)) (D4:w.shape? b.block=some (tB,kB)) (Ov:kB≠0)
 (vY:w.frozen? a=false) (Nr:w.frozen? {block:=a.block,off:=kA}=false):
 (zlj #[tS,tS] #[tR] #[.slice (some a) la ca,.slice (some b) lb cb]).events P w es=es:=by
 have nX:(a.block !=b.block)=true:=by simpa using aU
 have zH9:(a.block==b.block)=false:=by simpa using aU
 change Sem.events P (α:=aF) (do
  let some t:=(#[tS,tS]:Array aM)[0]? |stuck "slices.overlaps: no parameter types"
  let .slice elem<-underlying t|stuck "slices.overlaps: slice type expected"
  let size<-sizeOf elem
  match(some a:Option bC),(some b:Option bC) with
  |some a,some b=>
   if la=0\/lb=0\/size=0 then pure (Od false)
   else if a.block !=b.block&&(<-frozen a)&&(<-frozen b) then unsupported .addressObserved
   else do
    if a.block !=b.block then do
     noView a;noView b
     if<-mayBeOne a b then return Od ((<-choose (.extern "sameAddr.stringBytes" 2))==1)
    pure (Od (a.block==b.block&&a.off<b.off+lb*size&&b.off<a.off+la*size))
  |_,_=>pure (Od false)) w es=_
 by_cases h0:la=0\/lb=0\/i.size=0
 .simp[xE ht,sizeOf,typeInfo,hi,h0]
 .obtain⟨m1,m2⟩:=zzd (P:=P) (es:=es) Ix D4 vY Nr Ov
  simp[xE ht,sizeOf,typeInfo,hi,h0,nX,zH9,zzR,zrj,vY,zuJ Ix,zqj Ix,zuJ D4,zqj D4,m1,m2]
section
variable {L:Type}{C:Cx L}{l:L}
variable {o:aZ}{f:aQ}{kJ:Array aM}{e:Array aF->Sem aF}{w:aE}
theorem zAc {p:bZ}{args:Array cK}(hop:o.op=.call ⟨.value (.func f),args,kJ⟩){ρ:cK->aF}(hρ:ρ (.func f)=.func (.func f) #[] #[]){fn:Func}(hf:p.funcs[f]? =some fn)
 (hn:(fn.name== "runtime.NumGoroutine")=false) (hb:fn.body.isNone=true) (h1:zsT fn=none)  (h2:zpQ fn=some e) {w':aE} {v:aF} (hr:(e (args.map ρ)).run p w=.ok v w') (he:∀es,(e (args.map ρ)).events p w es=es):
 (aO ρ o).run p w=.ok (.value v) w'/\(aO ρ o).events p w #[]=#[⟨.mark (.extern f),false,true⟩]:=by
 obtain⟨dst,yV,type,pos,after,guard⟩:=o;simp only at hop;subst hop;have vL:¬fn.name= "runtime.NumGoroutine" :=by simpa using hn
 have bU:fn.body=none:=by simpa using hb
 constructor
 .simp[aO,resolve,Db,hρ,invoke,callFunc,program,mark,Sem.run,hf,vL,bU,h1,h2,hr]
 .simp[aO,resolve,Db,hρ,invoke,callFunc,hf,vL,bU,h1,h2,he]
theorem BO.overlaps (ha:C.alone=none)(hI:fD C){fn:aQ}{tmps:Array aF}{ops:Array aZ}{i:Nat}{rest:List Nat}{k:List Item}{x y:cK}{A B:bC}{la ca lb cb:Nat}{t tr e:aM}{sz:Nat}{zi6 zds:Array aF}{TA TB:aM}{zkD:Nat×Nat}
 (H:OvFn C.p f t tr e sz) (ho:ops[i]? =some o) (cE:dE o (dH ops tmps)=true) (hop:o.op=.call ⟨.value (.func f),#[x,y],kJ⟩) (sK:dV C.fs x=true) (En:dV C.fs y=true) (hx:(bJ tmps []).eval x=.slice (some A) la ca) (hy:(bJ tmps []).eval y=.slice (some B) lb cb)
 (aU:A.block≠B.block) (hA:w.heap[A.block]? =some (.cells zi6 TA (0,0))) (hB:w.heap[B.block]? =some (.cells zds TB zkD)) (hz:zds.size≠0) (lE:∀s,o.dst=some s->s∉C.S)
 (h1:BO C l ⟨fn,(cC ⟨tmps,[]⟩ o.dst (.bool false)).tmps,.inRegion ops rest::k,false⟩ w):BO C l ⟨fn,tmps,.inRegion ops (i::rest)::k,false⟩ w:=by
 intro R W m' τ hw hm ht hi;obtain⟨fn',bV,zB,zJ⟩:=m';obtain rfl:=hm.fn;obtain rfl:=hm.todo;obtain rfl:=hm.ret;have vA:=Jr (C:=C) hm.tmps cE;have hb:(C.ds.base fn).kind≠ .early:=C.ds.ok;have vx:=Ho (C:=C) (d:=C.ds.ds) hm.tmps sK;have vy:=Ho (C:=C) (d:=C.ds.ds) hm.tmps En;rw[hx] at vx;rw[hy] at vy;obtain⟨fnf,g1,g2,g3,g4,g5⟩:=H.fn;obtain⟨ie,jY,cM⟩:=H.inf;rw[mX,Cx.B_none ha];refine cD.own rfl trivial λaX s=>?_;have dL:C.Rel R w aX:=Cx.Rel.suf (C:=C) hw ht s;have zH:=hI.suf _ _ _ _ hi s;generalize hex:(bJ bV C.ds.ds).eval x=vx' at vx;generalize zEf:(bJ bV C.ds.ds).eval y=vy' at vy
 cases vx with
 |slice qa=>
  cases qa with
  |some qa=>
   cases qa with
   |mk ra=>
    cases vy with
    |slice qb=>
     cases qb with
     |some qb=>
      cases qb with
      |mk rb=>
       rename_i a a' oa sa b b' ob sb;obtain⟨o1,o2,k1,k2,k3⟩:=dL.cont _ _ ra;obtain⟨p1,p2,q1,q2,q3⟩:=dL.cont _ _ rb;rw[hA] at k1;obtain rfl:=cO k1;rw[hB] at q1;obtain rfl:=cO q1
       cases k3 with
       |cells qL vY=>
        cases q3 with
        |cells Iu zKz=>
         rename_i cA' fA' zmK fB';have zm1:∀n,aX.frozen? ⟨a',n,none⟩=false:=λn=>by
          simp only[Jg,k2]
          cases hq:(decide (fA'.1<=n)&&decide (n<fA'.2)) with
          |false=>rfl
          |true=>
           have:=vY n (by simpa[Kk] using hq);unfold Kk at this;omega
         have zu2:aX.frozen? ⟨a',oa,sa⟩=false:=by
          have:=zm1 oa;simpa[Jg] using this
         have zbF:a'≠b':=λe=>aU (dL.inj' _ _ _ (.inl ra) (.inl (e▸rb)));have sA:aX.shape? a'=some (TA,cA'.size):=by simp[zcR,k2]
         have sB:aX.shape? b'=some (TB,zmK.size):=by simp[zcR,q2]
         have wK:(#[x,y]:Array cK).map (bJ bV C.ds.ds).eval=#[.slice (some ⟨a',oa,sa⟩) la ca,.slice (some ⟨b',ob,sb⟩) lb cb]:=by
          simp only[vD,gT,tW,hex,zEf]
         have r1:=zGN (P:=C.p) aX t tr e H.un jY ⟨a',oa,sa⟩ ⟨b',ob,sb⟩ la ca lb cb zbF TA TB _ _ sA sB (by rw[<-Iu.1];exact hz) zu2 (zm1 _);have r2:=λes=>zFw (P:=C.p) aX es t tr e H.un jY ⟨a',oa,sa⟩ ⟨b',ob,sb⟩ la ca lb cb zbF TA TB _ _ sA sB (by rw[<-Iu.1];exact hz) zu2 (zm1 _);obtain⟨x1,x2⟩:=zAc (p:=C.p) (o:=o) hop (ρ:=(bJ bV C.ds.ds).eval) rfl g1 g2 g3 g4 g5 (by rw[wK];exact r1) (by rw[wK];exact r2);have aY:=stepG_value (main:=C.main) (b:=C.ds.base fn) (rest:=rest) (k:=k) (cs:=C.base) ho vA hb x1;have hl:∀ev∈listed C.p (C.ds.base fn).fn ⟨bV,C.ds.ds⟩ o aX,ev=⟨.mark (.extern f),false,true⟩:=λev nI=>by
          unfold listed at nI;rw[x2] at nI;simpa using mem_seen nI
         refine⟨_,aX,_,aY,rfl,Ao.id _ _,λev nI=>?_,?_⟩
         .rw[hl ev nI];trivial
         .rw[deafBehind_still (λev nI=>by grind)]
          have Fp:cC ⟨bV,C.ds.ds⟩ o.dst (.bool false)=⟨(cC ⟨bV,C.ds.ds⟩ o.dst (.bool false)).tmps,C.ds.ds⟩:=by cases o.dst<;>rfl
          rw[Fp,<-mX,<-Cx.B_none ha];have M3:=hI.step R τ aX R aX zH ht ⟨λ_ _ x=>x,rfl,rfl,rfl,bF _,λa b x=>.inl x,λb _ _=>rfl⟩;exact h1 R aX ⟨fn,_,_,false⟩ _ dL ⟨rfl,rfl,rfl,If (C:=C) hm.tmps (.bool false),J1 (C:=C) hm.pins lE⟩ (λa b x=>⟨(ht a b x).1,λz=>.inl ((ht a b x).2 z)⟩) M3
end
section
variable {d:qA}{f:aQ}{s:WS}{ops:Array aZ}{i:Nat}{rest:List Nat}{Φ:WS->Prop}{o:aZ}
def CR.overlaps (H:d.Ok){x y:cK}{g:aQ}{kJ:Array aM}{A B:bC}{la ca lb cb:Nat}{t tr e:aM}{sz:Nat}{zi6 zds:Array aF}{TA TB:aM}{zkD:Nat×Nat}
 (HO:OvFn d.p g t tr e sz) (ho:ops[i]? =some o) (cE:dE o (dH ops s.T)=true) (hop:o.op=.call ⟨.value (.func g),#[x,y],kJ⟩) (sK:dV d.fs x=true) (En:dV d.fs y=true) (hx:(bJ s.T []).eval x=.slice (some A) la ca) (hy:(bJ s.T []).eval y=.slice (some B) lb cb)
 (aU:A.block≠B.block) (hA:s.w.heap[A.block]? =some (.cells zi6 TA (0,0))) (hB:s.w.heap[B.block]? =some (.cells zds TB zkD)) (hz:zds.size≠0)
 (h:CR d f ops rest {s with T:=(cC ⟨s.T,[]⟩ o.dst (.bool false)).tmps} Φ):CR d f ops (i::rest) s Φ:=λQ base kk hQ h1=>
 BO.overlaps (C:=d.cx s.K Q s.chs base .nil []) rfl (H.iok hQ) HO ho cE hop sK En hx hy aU hA hB hz (λ_ _=>nE) (h Q base kk hQ h1)
end
end Go.Mt
namespace Go.Proofs.YtfcjiloojkjaeaaGreatDoor
open Go.RowKit Go.Mt Go.Conc Go.Tt Go.Maps
def sA:wY->wY| .seq a _=>a|_=>.skip
def sB:wY->wY| .seq _ b=>b|_=>.skip
def cA:wY->wY| .cond _ a _=>a|_=>.skip
def cB:wY->wY| .cond _ _ b=>b|_=>.skip
def cX:wY->cK| .cond x _ _=>x|_=>.const aA
def bI:wY->Nat| .block i _=>i| .region i _ _=>i|_=>0
def rO:wY->Array aZ| .region _ o _=>o|_=>#[]
def M7:Nat->List aF->List aF
 |0,_=>[]
 |n+1,[]=>aA::M7 n []
 |n+1,a::l=>a::M7 n l
theorem zya:∀n,M7 n []=zrM n aA
 |0=>rfl
 |n+1=>by rw[M7,zya n];rfl
theorem zrC:∀(n:Nat) (l:List aF),l.length<=n->l++zrM (n-l.length) aA=M7 n l
 |n,[],_=>by rw[zya];simp
 |n+1,a::l,h=>by
  simp only[rG,Nat.add_sub_add_right,List.cons_append,M7];rw[zrC n l zeO]
theorem pad_eq {n:Nat}{l T:List aF}(hl:l.length<=n)(hT:M7 n l=T):l.toArray++oJ (n-l.toArray.size) aA=T.toArray:=by
 subst hT;rw[<-zrC n l hl];simp
structure G4 where
 ty:aM
 Wg:Nat
 N:Nat
 W:List fK
 D:aE->Prop
 Fin:bD->aE->Prop
 St:Nat->Prop
 W0:aE
 StI:Nat->Prop
 Shun:Loc->Prop
 SS:Nat->Prop
 R0:Pr
 Fz:Nat->Prop
 Wf:aE
 qs:List Nat
abbrev G4.d (e:G4):qA:=⟨aK,Da,fU,e.ty,e.Wg,e.N,e.W,e.D,e.Fin,e.St,e.W0,e.StI,e.Shun,e.SS,e.R0,e.Fz,e.Wf,e.qs⟩
section
variable {d:qA}{f:aQ}{s:WS}{B:List Nat}{c:wY}
def CW.tape {Φ:oF->WS->Prop}(h:CW d B f c s Φ)(T:j6)(n:Nat):CW d B f c {s with w:=Tt.tp s.w T n} Φ:=λQ base kk hQ hB h1 h2 h3=>BO.tape (h Q base kk hQ hB h1 h2 h3) T n
def CW.pieceQ {Φ:oF->WS->Prop}(H:d.Ok)(hc:pX d.p ⟨d.fs,d.gs,true⟩ c=true)(hf:wF d.p f)(uQ:∀(T:j6) (Q:oF->vN->aE->Prop),qT (∀a' w',Φ .normal {s with T:=a'.tmps,w:=w'}->Q .normal a' w')->Code.wp d.p c Q ⟨s.T,[]⟩ (Tt.tp s.w T 0)):CW d B f c s Φ:=
 CW.piece H hc hf λT=>uQ T _ (aD λa' w' h=>⟨rfl,h⟩)
theorem CW.pH {Φ:oF->WS->Prop}{lo hb:Nat}{v v0:fJ}{dd:nU}{w0:aE}(H:d.Ok)(hf:wF d.p f)(A:qT (bG s.w lo hb v dd))(T:qT (bO hb v0 w0 v s.w))
 (uQ:∀(w1:aE) (Q:oF->vN->aE->Prop),s.w.heap=w1.heap->qT (bG w1 lo hb v dd)->qT (bO hb v0 w0 v w1)->qT (∀a' w',Φ .normal {s with T:=a'.tmps,w:=w'}->Q .normal a' w')->Code.wp d.p c Q ⟨s.T,[]⟩ w1)
 (hc:pX d.p ⟨d.fs,d.gs,true⟩ c=true:=by kernel_rfl):CW d B f c s Φ:=
 CW.pieceQ H hc hf λ_ Q HQ=>uQ _ Q rfl (aD (A.o.same rfl)) (aD (T.o.same rfl)) HQ
variable {ops:Array aZ}{i:Nat}{rest is:List Nat}{Φ:WS->Prop}{o:aZ}
def CR.tape (h:CR d f ops is s Φ)(T:j6)(n:Nat):CR d f ops is {s with w:=Tt.tp s.w T n} Φ:=λQ base kk hQ h1=>BO.tape (h Q base kk hQ h1) T n
def CR.opw (H:d.Ok)(ho:ops[i]? =some o)(cE:dE o (dH ops s.T)=true)(bS:rY d.p ⟨d.fs,d.gs,true⟩ o.op=true){v:aF}(hx:∀T,(aO (bJ s.T []).eval o).run d.p (Tt.tp s.w T 0)=.ok (.value v) (Tt.tp s.w T 0))
 (h:CR d f ops rest {s with T:=(cC ⟨s.T,[]⟩ o.dst v).tmps} Φ):CR d f ops (i::rest) s Φ:=
 CR.op H ho cE bS λT=>⟨v,Tt.tp s.w T 0,.inl (hx T),CR.tape h T 0⟩
theorem nP {P Q:Prop}(k:Q)(h:Q->P:=by intro q;first|(simp only[Go.Act.put,List.setIfInBounds_toArray,List.set_cons_zero,List.set_cons_succ];exact q)|exact q):P:=h k
theorem CR.sto (H:d.Ok)(ho:ops[i]? =some o)(cE:dE o (dH ops s.T)=true)(bS:rY d.p ⟨d.fs,d.gs,true⟩ o.op=true)(hd:o.dst=none){w':aE}(hx:∀T,(aO (bJ s.T []).eval o).run d.p (Tt.tp s.w T 0)=.ok .skip (Tt.tp w' T 0))
 (h:CR d f ops rest {s with w:=w'} Φ):CR d f ops (i::rest) s Φ:=
 CR.op H ho cE bS λT=>⟨aA,Tt.tp w' T 0,.inr ⟨hx T,rfl⟩,by
  have:=CR.tape h T 0;have e:(cC ⟨s.T,[]⟩ o.dst aA).tmps=s.T:=by rw[hd];rfl
  rw[e];exact this⟩
end
section
variable {d:qA}{f:aQ}{s:WS}{B:List Nat}{c:wY}
theorem CW.sq (H:d.Ok){Φ:oF->WS->Prop}(h:CW d B f (sA c) s (λe s'=>match e with| .normal=>CW d B f (sB c) s' Φ|e=>Φ e s'))(e:c=.seq (sA c) (sB c):=by exact rfl):CW d B f c s Φ:=by
 rw[e];exact CW.seq H h
theorem CW.cd (H:d.Ok){Φ:oF->WS->Prop}(t:Bool)(h:CW d B f (if t then cA c else cB c) s Φ)(e:c=.cond (cX c) (cA c) (cB c):=by exact rfl)(hx:dV d.fs (cX c)=true:=by exact rfl)(hc:(bJ s.T []).eval (cX c)=.bool t:=by exact rfl):CW d B f c s Φ:=by
 rw[e];exact CW.cond H hx hc h
theorem CW.sk (H:d.Ok){Φ:oF->WS->Prop}(h:Φ .normal s)(e:c=.skip:=by exact rfl):CW d B f c s Φ:=by
 rw[e];exact CW.skip H h
theorem CW.rt (H:d.Ok){Φ:oF->WS->Prop}(h:Φ .ret s)(e:c=.ret:=by exact rfl):CW d B f c s Φ:=by
 rw[e];exact CW.ret H h
theorem CW.rg (H:d.Ok){Φ:oF->WS->Prop}(is:List Nat)(h:CR d f (rO c) is s (λs'=>Φ .normal s'))(e:c=.region (bI c) (rO c) false:=by exact rfl)(hr:iQ (rO c).size=is:=by exact rfl):CW d B f c s Φ:=by
 rw[e];exact CW.reg H is hr h
theorem CW.pQ {c':wY}{Φ:oF->WS->Prop}(H:d.Ok)(hf:wF d.p f)(uQ:∀(T:j6) (Q:oF->vN->aE->Prop),qT (∀a' w',Φ .normal {s with T:=a'.tmps,w:=w'}->Q .normal a' w')->Code.wp d.p c' Q ⟨s.T,[]⟩ (Tt.tp s.w T 0))
 (e:c=c':=by conv=>lhs;whnf) (hc:pX d.p ⟨d.fs,d.gs,true⟩ c=true:=by kernel_rfl):CW d B f c s Φ:=by
 subst e;exact CW.pieceQ H hc hf uQ
variable {v0:fJ}{dd:nU}{w0:aE}
theorem CW.pW {c':wY}{Φ:oF->WS->Prop}{lo hb:Nat}{v:fJ}(H:d.Ok)(hf:wF d.p f)(A:qT (bG s.w lo hb v dd))(T:qT (bO hb v0 w0 v s.w))
 (uQ:∀(w1:aE) (Q:oF->vN->aE->Prop),s.w.heap=w1.heap->qT (bG w1 lo hb v dd)->qT (bO hb v0 w0 v w1)->qT (∀a' w',Φ .normal {s with T:=a'.tmps,w:=w'}->Q .normal a' w')->Code.wp d.p c' Q ⟨s.T,[]⟩ w1)
 (e:c=c':=by conv=>lhs;whnf) (hc:pX d.p ⟨d.fs,d.gs,true⟩ c=true:=by kernel_rfl):CW d B f c s Φ:=by
 subst e;exact CW.pH H hf A T uQ hc
theorem CW.p0 {c':wY}{T':Array aF}{Φ:oF->WS->Prop}{lo hb:Nat}{v:fJ}(H:d.Ok)(hf:wF d.p f)(A:qT (bG s.w lo hb v dd))(T:qT (bO hb v0 w0 v s.w))
 (h:∀w1:aE,s.w.heap=w1.heap->qT (bG w1 lo hb v dd)->qT (bO hb v0 w0 v w1)->Φ .normal {s with T:=T',w:=w1})
 (e:c=c':=by conv=>lhs;whnf) (uQ:∀(w1:aE) (Q:oF->vN->aE->Prop),qT (∀a':vN,a'.tmps=T'->Q .normal a' w1)->Code.wp d.p c' Q ⟨s.T,[]⟩ w1:=by(intro w1 Q HQ;go_wp2;exact HQ.o _ rfl))
 (hc:pX d.p ⟨d.fs,d.gs,true⟩ c=true:=by kernel_rfl):CW d B f c s Φ:=by
 subst e;exact CW.pH H hf A T (λw1 Q hw A1 T1 HQ=>uQ w1 Q (aD λa' ha=>HQ.o a' w1 (ha▸h w1 hw A1 T1))) hc
variable {K:Pr}{w:aE}
theorem CF.of {g:aQ}{l:List aF}{L:gN}{Ψ:Pr->gN->aF->aE->Prop}{fnf:Func}(n:Nat){T:List aF}(hf:d.p.funcs[g]? =some fnf)(hp:Gr fnf.results.toList)
 (h:CW d [] g (fnf.body.getD .skip) ⟨[],K,L,T.toArray,w⟩ (λe s'=>(e=.normal\/e=.ret)/\s'.chs=[]/\∃v,(oG fnf.results.toList s'.T).run d.p s'.w=.ok v s'.w/\Ψ s'.K s'.l v s'.w))
 (hT:M7 n l=T:=by(simp only[M7];rfl)) (hl:l.length<=n:=by exact Nat.le_of_ble_eq_true rfl) (hn:fnf.ntmps=n:=by exact rfl) (hb:fnf.body=some (fnf.body.getD .skip):=by exact rfl) (hr:(fnf.name== "runtime.NumGoroutine")=false:=by decide):CF d g l.toArray K L w Ψ:=
 ⟨⟨fnf,_,hf,hr,hb,hp,by rw[hn,pad_eq hl hT];exact h⟩⟩
variable {ops:Array aZ}{i:Nat}{rest:List Nat}{Φ:WS->Prop}{o:aZ}
def zaU {o':aZ}(h:ops[i]? =some o')(e:o'=o):ops[i]? =some o:=e▸h
variable {l:gN}
theorem CR.mv {chs:List Nat}{T T':Array aF}(H:d.Ok)(v:aF)(h:CR d f ops rest ⟨chs,K,l,T',w⟩ Φ)(ho:ops[i]? =some o:=by exact zaU rfl (by conv=>lhs;whnf))
 (hx:∀τ,(aO (bJ T []).eval o).run d.p (Tt.tp w τ 0)=.ok (.value v) (Tt.tp w τ 0):=by exact λ_=>rfl)
 (cE:dE o (dH ops T)=true:=by exact rfl) (bS:rY d.p ⟨d.fs,d.gs,true⟩ o.op=true:=by kernel_rfl)
 (ht:(cC ⟨T,[]⟩ o.dst v).tmps=T':=by first|(simp only[Go.Act.put,List.setIfInBounds_toArray,List.set_cons_zero,List.set_cons_succ];done)|(simp only[Go.Act.put,List.setIfInBounds_toArray,List.set_cons_zero,List.set_cons_succ];rfl)):CR d f ops (i::rest) ⟨chs,K,l,T,w⟩ Φ:=
 CR.opw (s:=⟨chs,K,l,T,w⟩) H ho cE bS hx (ht▸h)
theorem CR.mg {chs:List Nat}{T T':Array aF}(H:d.Ok)(v:aF)(h:CR d f ops rest ⟨chs,K,l,T',w⟩ Φ)(ho:ops[i]? =some o:=by exact zaU rfl (by conv=>lhs;whnf))
 (hx:∀τ,(aO (bJ T []).eval o).run d.p (Tt.tp w τ 0)=.ok (.value v) (Tt.tp w τ 0):=by intro τ;unfold execOp;go_simp)
 (cE:dE o (dH ops T)=true:=by exact rfl) (bS:rY d.p ⟨d.fs,d.gs,true⟩ o.op=true:=by kernel_rfl)
 (ht:(cC ⟨T,[]⟩ o.dst v).tmps=T':=by first|(simp only[Go.Act.put,List.setIfInBounds_toArray,List.set_cons_zero,List.set_cons_succ];done)|(simp only[Go.Act.put,List.setIfInBounds_toArray,List.set_cons_zero,List.set_cons_succ];rfl)):CR d f ops (i::rest) ⟨chs,K,l,T,w⟩ Φ:=
 CR.opw (s:=⟨chs,K,l,T,w⟩) H ho cE bS hx (ht▸h)
theorem allx {fs:aQ->Bool}{l:List cK}(h:l.all (dV fs)=true):l.toArray.all (dV fs)=true:=by simpa using h
theorem CR.cl {T:Array aF}(H:d.Ok){g:aQ}{args:List cK}{kJ:Array aM}{Ψ:Pr->gN->aF->aE->Prop}{Nq:Array aF}
 (hc:CF d g Nq K l w Ψ) (hk:∀K' l' v w',K.le K'->Ψ K' l' v w'->CR d f ops rest ⟨[],K',l',(cC ⟨T,[]⟩ o.dst v).tmps,w'⟩ Φ)
 (ho:ops[i]? =some o:=by exact zaU rfl (by conv=>lhs;whnf)) (hop:o.op=.call ⟨.value (.func g),args.toArray,kJ⟩:=by exact rfl) (cE:dE o (dH ops T)=true:=by exact rfl) (wK:args.all (dV d.fs)=true:=by exact rfl) (ha:args.toArray.map (bJ T []).eval=Nq:=by(simp only[List.map_toArray,List.map_cons,List.map_nil];rfl)):CR d f ops (i::rest) ⟨[],K,l,T,w⟩ Φ:=
 CR.call (s:=⟨[],K,l,T,w⟩) H ho cE hop (allx wK) rfl (by rw[ha];exact hc) hk
end
section
variable {P:bZ}{o:aZ}{Tf:Array aF}{w:aE}{A B C D:Prop}
theorem vG (v:aF)(a:A)(h:A->(aO (bJ Tf []).eval o).run P w=.ok (.value v) w:=by(intro e1;(conv at e1=>rhs;whnf);unfold execOp;go_simp)):(aO (bJ Tf []).eval o).run P w=.ok (.value v) w:=h a
theorem rd2 (v:aF)(a:A)(b:B)(h:A->B->(aO (bJ Tf []).eval o).run P w=.ok (.value v) w:=by(intro e1 e2;(conv at e1=>rhs;whnf);unfold execOp;go_simp)):(aO (bJ Tf []).eval o).run P w=.ok (.value v) w:=h a b
theorem rd4 (v:aF)(a:A)(b:B)(c:C)(d:D)(h:A->B->C->D->(aO (bJ Tf []).eval o).run P w=.ok (.value v) w:=by(intro e1 e2 e3 e4;(conv at e1=>rhs;whnf);unfold execOp;go_simp)):(aO (bJ Tf []).eval o).run P w=.ok (.value v) w:=h a b c d
end
def zlq:Go.Code:=(Tryz.f82.body).getD .skip
def rAO1:Go.Code:=match zlq with| .seq _ (.seq (a) _)=>a|_=>.skip
def rAO2:Go.Code:=match zlq with| .seq _ (.seq _ (.seq (a) _))=>a|_=>.skip
def rAO3:Go.Code:=match zlq with| .seq _ (.seq _ (.seq _ (.seq (a) _)))=>a|_=>.skip
def zvB:Array Oper:=match rAO1 with| .region _ ops _=>ops|_=>#[]
abbrev oAO1_0:Oper:=aV zvB 0 (some 10) (.makeChan 84 (.const (.int .i64 0)))
def zEE:zvB[0]? =some oAO1_0:=rfl
def zpB:Array Oper:=match rAO2 with| .region _ ops _=>ops|_=>#[]
abbrev oAO2_12:Oper:=aV zpB 12 none (.send (.tmp 18) (.tmp 22))
def zAD:zpB[12]? =some oAO2_12:=rfl
def zoY:Array Oper:=match rAO3 with| .region _ ops _=>ops|_=>#[]
abbrev oAO3_1:Oper:=aV zoY 1 (some 24) (.recv 84 (.tmp 23) false)
def zGD:zoY[1]? =some oAO3_1:=rfl
def fokAO:wF aK 82:=⟨_,zvs,.inr (.inl ⟨_,rfl⟩)⟩
theorem zGI:∃ie,aK.info? 3=some ie/\ie.zero=some (.int .i64 0):=by
 obtain⟨i0,hi,fG,_,_⟩:=info_parts zEU;exact⟨i0,hi,fG⟩
theorem za7 {e:G4}(H:e.d.Ok){K:Pr}{k q:Nat}{w:aE}{lo hb:Nat}{v:fJ}{d:nU}{kd cl ans:Int}(h:bG w lo hb v d)(hW:e.W[k]? =some (.ask q kd cl ans))(hq:q<d.qn.length)(zC:q<=100)(hK:∀(i g:Nat),d.qn[i]? =some g->K g (qa e.qs i)):
 CF e.d 82 #[.pointer (some ⟨hb,0,none⟩),.int .i64 ((q:Int)+1),.int .i64 kd,.int .i64 cl] K (.wk e.qs k) w (λK' l' x w'=>l'=.wk e.qs (k+1)/\x=.int .i64 ans/\w'=w.alloc pF):=by
 refine CF.of 25 zvs (.inr (.inl ⟨_,rfl⟩)) ?_;obtain⟨AQ,cQ,zaV,hs⟩:=Hx h.Q aH;obtain⟨bq,off,g,rfl,hg,hv⟩:=zgD hs hq;have zfg:=aI h.blk 6;have k6:w.cell? ⟨hb,6,none⟩=some (.slice (some ⟨bq,off,none⟩) d.qn.length cQ):=by rw[zfg,<-zaV];rfl
 have zBs:=hK q g hg;obtain⟨ie,jY,hz⟩:=zGI;clear zfg zaV hs hg hK h;refine CW.sq H ?_;refine CW.pQ H fokAO (λTp Q HQ=>?_);go_wp2;refine HQ.o _ _ ?_;clear HQ;refine CW.tape (s:=⟨[],K,.wk e.qs k,_,w⟩) ?_ Tp 0;refine CW.sq H ?_;refine CW.rg H [0,1] ?_;refine CR.make H zEE rfl rfl zqb jY rfl (λa=>?_);simp only[cC,fO,dP,dQ];refine CR.mv H (.chan (some w.heap.size)) ?_;refine CR.nil H ?_;have ztp:(w.alloc pF).cell? ⟨hb,6,none⟩=some (.slice (some ⟨bq,off,none⟩) d.qn.length cQ):=Bo k6 _;have zuT:(w.alloc pF).cell? ⟨bq,off+q,none⟩=some (.chan (some g)):=Bo hv _;have i0:(0:Int)<=(q:Int):=aC;have i1:(q:Int)<(d.qn.length:Int):=aC;generalize dW:w.alloc pF=w1 at ztp zuT;refine CW.sq H ?_;refine CW.rg H [0,1,2,3,4,5,6,7,8,9,10,11,12] ?_;refine CR.mv H (.pointer (some ⟨hb,0,none⟩)) ?_;refine CR.mv H (.pointer (some ⟨hb,0,none⟩)) ?_;refine CR.mg H (.pointer (some ⟨hb,6,none⟩)) ?_;refine CR.mv H (.slice (some ⟨bq,off,none⟩) d.qn.length cQ) ?_ (hx:=λT=>by have hh:(Tt.tp w1 T 0).cell? _=_:=ztp;unfold aO;go_simp);refine CR.mv H (.int .i64 ((q:Int)+1)) ?_;refine CR.mv H (.int .i64 (q:Int)) ?_ (hx:=λT=>by unfold aO;go_simp;try exact Fw aC aC);refine CR.mg H (.pointer (some ⟨bq,off+q,none⟩)) ?_;refine CR.mv H (.chan (some g)) ?_ (hx:=λT=>by have hh:(Tt.tp w1 T 0).cell? _=_:=zuT;unfold aO;go_simp);refine CR.mv H (.int .i64 kd) ?_;refine CR.mv H (.int .i64 cl) ?_;refine CR.mv H (.chan (some w.heap.size)) ?_;refine CR.mv H (.agg #[.int .i64 kd,.int .i64 cl,.chan (some w.heap.size)]) ?_ (hx:=λT=>by unfold aO;go_simp;try rfl);refine CR.ask H (k:=k) (q:=q) (a:=a) zAD rfl rfl rfl rfl rfl hW rfl rfl (.inl zBs) rfl (.inr ⟨rfl,rfl⟩) ?_
 try simp only[cC,fO,dP,dQ]
 refine CR.nil H ?_;refine CW.sq H ?_;refine CW.rg H [0,1,2] ?_;refine CR.mv H (.chan (some w.heap.size)) ?_;refine CR.ans H (k:=k) (q:=q) (a:=a) zGD rfl rfl zqb jY hz rfl rfl hW rfl rfl (.inr ⟨rfl,rfl⟩) ?_;simp only[cC,fO,dP,dQ];refine CR.mv H (.int .i64 ans) ?_;refine CR.nil H ?_;refine CW.rt H ?_;exact⟨.inr rfl,rfl,.int .i64 ans,rfl,rfl,rfl,aN⟩
end Go.Proofs.YtfcjiloojkjaeaaGreatDoor
namespace Go.Proofs.YtfcjiloojkjaeaaGreatDoor
open Go.RowKit
variable {v v':fJ}{d:nU}
theorem fY.of (h:fY v d)(hc:v'.pC=v.pC)(ho:v'.pO=v.pO)(hm:v'.pM=v.pM){d':nU}(hr:d'.r.recs=d.r.recs)(hl:d'.ln=d.ln):fY v' d':=by
 obtain⟨a,b,c,e,f,g,i,j⟩:=h;exact⟨by rw[hc];exact a,by rw[ho];exact b,by rw[hm];exact c,by rw[hc,hr,hl];exact e,by rw[ho,hr,hl];exact f,by rw[ho,hr];exact g,by rw[hm,hr];exact i,by rw[hm,hr];exact j⟩
structure Y1 (B:Nat)(w:aE)(hb:Nat)(v:fJ)(s:aF)(xs:List bE):Prop where
 row:w.ownsRow B 149 2 s xs.length (bH xs)
 ap:∀b,s.ownBlock=some b->some b∉parts v hb
variable {B hb:Nat}{w:aE}{s:aF}{xs:List bE}
def Y1.lt (h:Y1 B w hb v s xs):∀b,s.ownBlock=some b->B<=b/\b<w.heap.size:=λb e=>h.row.lt b e
theorem Y1.turn {w':aE}(h:Y1 B w hb v s xs)(t:bO hb v w v' w'):Y1 B w' hb v' s xs:=
 ⟨cI h.row λb e=>t.block b (h.lt b e).2 (h.ap b e),λb e x=>(t.moved b x).elim (h.ap b e) λy=>by have:=(h.lt b e).2;omega⟩
def wU (d:nU)(m:Int)(k:Nat):nU:={d with r:={(dA d.r m k).1 with wait:=d.r.wait}}
structure Dt (w:aE)(lo hb:Nat)(v:fJ)(d:nU)(m:Int)(k:Nat)(v1:fJ)(s:aF)(wr:aE):Prop where
 at_:bG wr lo hb v1 (wU d m k)
 mr:fY v1 {d with r:=(dA d.r m k).1}
 tn:bO hb v w v1 wr
 kp:Aj v v1
 sW:v1.sW=v.sW
 so:Y1 w.heap.size wr hb v1 s (s9 d.r m k)
def below_drewN (n:Nat):Below w.heap.size w (w.drewN n):=⟨rfl,rfl,rfl,bF _,λ_ _=>rfl⟩
variable {lo k:Nat}{m:Int}{v1:fJ}
def Dt.below {wr w':aE}(h:Dt w lo hb v d m k v1 s wr)(bU:Below wr.heap.size wr w'):Dt w lo hb v d m k v1 s w':=
 ⟨h.at_.below bU,h.mr,h.tn.trans (bO.below bU),h.kp,h.sW,h.so.turn (bO.below bU)⟩
variable {x:bE}
theorem Dt.more {n:Nat}{s':aF}{wr w':aE}(h:Dt w lo hb v d m k v1 s wr)(hg:wr.grownBy w' s.ownBlock)(cT:w'.ownsRow w.heap.size 149 2 s' n (bH (s9 d.r m k)++x.cells))(hn:n=(s9 d.r m k).length+1)
 (fC:s'.ownBlock=s.ownBlock\/∀b,s'.ownBlock=some b->wr.heap.size<=b) (e1:dA d.r m (k+1)=dA d.r m k) (e2:s9 d.r m (k+1)=s9 d.r m k++[x]):Dt w lo hb v d m (k+1) v1 s' w':=by
 have e3:wU d m (k+1)=wU d m k:=by unfold wU;rw[e1]
 refine⟨by rw[e3];exact h.at_.grown hg h.so.ap,by rw[e1];exact h.mr,h.tn.grown hg λb e=>(h.so.lt b e).1,h.kp,h.sW,⟨?_,λb e x=>?_⟩⟩
 .rw[e2]
  have:bH (s9 d.r m k++[x])=bH (s9 d.r m k)++x.cells:=by simp[bH]
  rw[this,jH];subst hn;exact cT
 .rcases fC with fC|fC
  .exact h.so.ap b (fC▸e) x
  .have:=fC b e;have:=(h.at_.lt b x).2;omega
theorem zG8 {i:Nat}(e1:dA d.r m (k+1)=({kI (dA d.r m k).1 i vS with back:=(dA d.r m k).1.back++[x]},(dA d.r m k).2++[32]++gM x.c)):
 wU d m (k+1)={wU d m k with r:={(wU d m k).r with recs:=(wU d m k).r.recs.modify i (λz=>{z with t:=(wU d m k).r.clk,e:=vS}),back:=(wU d m k).r.back++[x]}}:=by
 unfold wU;rw[e1];rfl
theorem Dt.fin {wr:aE}(h:Dt w lo hb v d m k v1 s wr)(hk:k=d.r.wait.length)(T:TK d m k)(eF:lo<=w.heap.size)(ha:bG w lo hb v d):
 bG (wr.setCell ⟨hb,7,none⟩ s) lo hb {v1 with sW:=s} {d with r:=(tN d.r m).1}/\fY {v1 with sW:=s} {d with r:=(tN d.r m).1}/\bO hb v w {v1 with sW:=s} (wr.setCell ⟨hb,7,none⟩ s)/\Aj v {v1 with sW:=s}:=by
 subst hk;have e0:=TK.end_ T;have e1:(dA d.r m d.r.wait.length).1=(tN d.r m).1:=by rw[zaK]
 have h1:=h.at_.newW (zeb h.so.row eF) rfl h.so.ap;have e2:{wU d m d.r.wait.length with r:={(wU d m d.r.wait.length).r with wait:=s9 d.r m d.r.wait.length}}=({d with r:=(tN d.r m).1}:nU):=by
  unfold wU;simp only[e1,<-e0]
 refine⟨by rw[<-e2];exact h1,?_,⟨?_,λb bU hn=>?_,λb hx=>?_⟩,h.kp⟩
 .have:=h.mr
  rw[e1] at this;exact fY.of (v':={v1 with sW:=s}) this rfl rfl rfl rfl rfl
 .rw[xA];exact h.tn.size
 .exact(dU wr _ _ b (λe=>hn zo5)).trans (h.tn.block b bU hn)
 .have hp:parts {v1 with sW:=s} hb=(parts v1 hb).set 5 s.ownBlock:=rfl
  rw[hp] at hx;rcases List.mem_or_eq_of_mem_set hx with hx|hx
  .exact h.tn.moved b hx
  .exact .inr (h.so.lt b hx.symm).1
theorem zCv (h:bG w lo hb v d)(mr:fY v d)(hi:yZ d)(eF:lo<=w.heap.size)(ht:Cb lo w)(hm:0<=m)(hc:d.r.clk+m<=100000)(za4:d.r.back.length+d.r.wait.length<=5000):
 Calls aK 105 #[.pointer (some ⟨hb,0,none⟩),.int .i64 m] w λe w'=>e=.returned (.string ⟨(tN d.r m).2.toArray⟩)/\∃v',bG w' lo hb v' {d with r:=(tN d.r m).1}/\fY v' {d with r:=(tN d.r m).1}/\bO hb v w v' w'/\Aj v v':=by
 have zmJ:=aD (TK.all hi hm hc za4);have zi1:=hi.sm.clk.1;have zgd:=hi.sm.nw;obtain⟨zJz,zJO⟩:=(Cu hi.R.off).2.2.2.2;obtain⟨AW,cW,Ku,Kr⟩:=Hx h.W aH;obtain⟨n,hn⟩:=aP d.r.wait.length;obtain⟨ck,Jb⟩:=aP d.r.clk;have zs3:=aI h.blk 11;have Ff:w.cell? ⟨hb,11,none⟩=some (.int .i64 ck):=by rw[zs3,Jb];rfl
 have kf:=eW h.blk;obtain⟨a1,t1⟩:=h.putClk (ck+m);have Tg:wU d m 0={d with r:={d.r with clk:=ck+m}}:=by rw[Jb];rfl
 rw[<-Tg] at a1;have I1:=aD (show Dt w lo hb v d m 0 v (.slice none 0 0) _ from⟨a1,mr.of rfl rfl rfl rfl rfl,t1,Aj.rf v,rfl,⟨⟨rfl,.inl ⟨rfl,rfl⟩⟩,λb e=>by cases e⟩⟩);have Ex:=aD (ht.turn h eF t1);have HN:=aD hn;have G2:=aD Jb;have Bs:=aD (show v.sW=.slice AW n cW by rw[hn];exact Ku);have Mn:n<=1000:=aC;rw[<-Jb] at hc zi1;have Mk:=aD eF;have zI2:=aD ht;have HH:=aD h;clear hn Jb Ku Kr a1 t1 Tg h mr hi eF ht zs3 zgd
 go_enter Tryz.func105,Tryz.ntmps105
 go_upto_region 2 with fail
 obtain⟨W1,cZ⟩:=aP (w.setCell ⟨hb,11,none⟩ (.int .i64 (ck+m)));rw[<-cZ] at I1 Ex⊢;clear cZ Ff kf;have Ff:W1.cell? ⟨hb,11,none⟩=some (.int .i64 (ck+m)):=by
  have:=aI I1.o.at_.blk 11;rw[this,G2.o];rfl
 have Jo:=Qv (c:=ck+m) aC aC
 go_upto_region 3 with(go_at_call 112;refine(zG4 Ex.o (ck+m) aC aC).mono ?_;rintro x w3 ⟨rfl,Yt⟩;have wH:=aD Yt;clear Yt)
 have I3:=aD (I1.o.below wH.o);clear Ff I1 Ex wH;have k7:w3.cell? ⟨hb,7,none⟩=some (.slice AW n cW):=by
  have:=aI I3.o.at_.blk 7;rw[this,<-Bs.o];rfl
 have ziI:=aD (show(⟨([97,116,32]++gM (ck+m):List UInt8).toArray⟩:ByteArray)=⟨(dA d.r m 0).2.toArray⟩ by rw[G2.o];rfl)
 go_wp2_with fail
 go_loopw [5,6,28] (λt s i wr=>∃(k:Nat) (v1:fJ) (A:Option bC) (n2 c2:Nat),k<=n/\i=.int .i64 k/\t=.string ⟨(dA d.r m k).2.toArray⟩/\s=.slice A n2 c2/\Dt w lo hb v d m k v1 (.slice A n2 c2) wr) (λ_ _ i _=>n-(intOf i).toNat)
 case atStart=>
  refine⟨0,v,none,0,0,lP _,rfl,?_,rfl,I3.o⟩;rw[<-ziI.o];congr 1
 case round=>
  obtain⟨k,v1,A2,n2,c2,hk,rfl,rfl,rfl,hI⟩:=hrel;have HI:=aD hI;have T:=zmJ.o k (by have:=HN.o;omega);have zfb:(dA d.r m k).2.length<=40000:=by have:=T.txt;omega
  have jS:n2=(s9 d.r m k).length:=by
   rcases hI.so.row.2 with⟨e,h0⟩|⟨g,cap,cur,e,_⟩
   .injection e with e1 e2 e3;rw[e2];exact h0.symm
   .injection e with e1 e2 e3
  have O3:n2<=1000:=by have:=T.le;omega
  have vC:=aD jS;clear hI jS;by_cases aS:k<n
  .have hW:=HI.o.at_.W
   rw[HI.o.sW,Bs.o] at hW;have hW:wr.ownsRow lo 149 2 (.slice AW n cW) n (bH d.r.wait):=by
    have e:(wU d m k).r.wait.length=n:=HN.o.symm;rw[e] at hW;exact hW
   obtain⟨bW,zJc,x,hA,kF,eK,e0,e1⟩:=zem (zY hW aH) aS;subst hA;obtain⟨i,y,nx⟩:=T.next eK;obtain⟨gL,Ol,hO,hM,hC⟩:=HI.o.mr.onLine T.i nx.hy nx.op nx.c;obtain⟨gR,cR,zyh⟩:=zlC HI.o.at_ nx.hy;obtain⟨Qz,Im⟩:=nx.b;obtain⟨Md,zDP⟩:=nx.f;rw[<-G2.o] at zDP;have i0:(0:Int)<=(k:Int):=aC;have i1:(k:Int)<(n:Int):=aC;have NX:=aD nx;have zlh:=aD eK;have HL:=aD (And.intro Ol (And.intro hO (And.intro hM hC)));have vK:=aD zyh;have HT:=aD T;clear hW nx eK Ol hO hM hC zyh T kF
   go_upto_region 7 with fail
   obtain⟨W4,rF⟩:=aP (wr.alloc (.cells #[.int .i64 x.c,.int .i64 x.p] 149));have I4:=aD (show Dt w lo hb v d m k v1 (.slice A2 n2 c2) W4 by rw[rF];exact HI.o.below (eT (fW _ _) _));have uT:W4.heap[wr.heap.size]? =some (.cells #[.int .i64 x.c,.int .i64 x.p] 149):=by rw[rF];exact gP _ _
   have Y6:=aD uT;have g0:=aI uT 0;have g1:=aI uT 1;have ztL:=aD (show some wr.heap.size∉parts v1 hb from λh=>by have:=(HI.o.at_.lt _ h).2;omega);obtain⟨gx,zrx⟩:∃y,y=wr.heap.size:=⟨_,rfl⟩;rw[<-rF];rw[<-zrx] at g0 g1 Y6 ztL⊢;clear rF uT e0 e1 zrx;have Ff:W4.cell? ⟨hb,11,none⟩=some (.int .i64 (ck+m)):=by
    have:=aI I4.o.at_.blk 11;rw[this];show some (Is .i64 (dA d.r m k).1.clk)=_;rw[HT.o.clk,G2.o]
   have k2:W4.cell? ⟨hb,2,none⟩=some (.int .i64 d.r.o.pt):=by
    have:=aI I4.o.at_.blk 2;rw[this];show some (Is .i64 (dA d.r m k).1.o.pt)=_;rw[HT.o.o]
   have k3:=(I4.o.at_.recAt vK.o NX.o.hy (j:=3) (u:=.int .i64 y.f) aH rfl).1;have HE:=aD (λnq:Nat=>Calls.quiet_of (w:=W4) (n:=nq) ((zge (w:=W4.drewN nq) (I4.o.at_.same rfl) vK.o NX.o.hy HL.o.2.2.1).mono λe w' hh=>⟨hh.1,1,hh.2⟩));by_cases hp:ck+m-y.f<d.r.o.pt
   .go_quiet ((go_at_call 115;exact HE.o _))
    go_upto_region 8 with fail
    obtain⟨wz,tK⟩:=aP (W4.drewN nq);rw[<-tK];have IZ:=aD (show Dt w lo hb v d m k v1 (.slice A2 n2 c2) wz by rw[tK];exact I4.o.below (below_drewN nq));have zit:wz.heap[gx]? =some (.cells #[.int .i64 x.c,.int .i64 x.p] 149):=by rw[tK];exact Y6.o
    have g0:=aI zit 0;have g1:=aI zit 1;clear tK;obtain⟨OB,zat⟩:=aP (.cells #[.int .i64 x.c,.int .i64 x.p] 149:Obj);have zn5:=aD (IZ.o.below (eT (fW _ _) OB));have zlx:=zn5.o.so.row;rw[<-vC.o] at zlx;obtain⟨q1,q2,w5,fM,cT,mL,fC⟩:=On (t:=69) (ty:=69) zb9 Tryz.underlying69 rfl aH zlx (g:=wz.heap.size) (cs:=#[.int .i64 x.c,.int .i64 x.p]) (news:=bE.cells x) (by rw[zat];exact gP _ _) rfl (m:=1) rfl aH Sk aC aH (by have:=IZ.o.tn.size;simp;omega);rw[zat] at fM;have AP:=aD fM;clear fM zlx Ff k2 k3
    go_upto_region 12 with(at_builtin;refine zq5 rfl (.tmp 50) (.tmp 52) 69 69 rfl (.slice A2 n2 c2) (.slice (some ⟨wz.heap.size,0,none⟩) 1 1) (.slice (some ⟨q1,0,none⟩) (n2+1) q2) rfl rfl AP.o ?_)
    have IM:=aD (zn5.o.more mL (x:=x) cT (by rw[vC.o]) fC (NX.o.not_ zjC).1 (NX.o.not_ zjC).2);have ET:=aD (NX.o.not_ zjC).1;clear AP cT mL fC g0 g1 zit;go_wp2;go_roundw
    case rel=>exact⟨k+1,v1,some ⟨q1,0,none⟩,n2+1,q2,aC,oL,by rw[ET.o],rfl,IM.o⟩
    case measure=>simp[intOf];omega
   .have zxn:d.r.o.pt<=d.r.clk+m-y.f:=by have:=G2.o;omega
    obtain⟨E1,E2⟩:=NX.o.tired zxn;have cJ:=aD E1;have nO:=aD E2;have zDL:=aD (show some gx∉parts v1 hb from ztL.o);clear E1 E2 zxn
    go_quiet ((go_at_call 115;exact HE.o _))
    go_upto_region 9 with fail
    obtain⟨wz,tK⟩:=aP (W4.drewN nq);rw[<-tK];have IZ:=aD (show Dt w lo hb v d m k v1 (.slice A2 n2 c2) wz by rw[tK];exact I4.o.below (below_drewN nq));have zqA:=aD (show wz.heap[gx]? =some (.cells #[.int .i64 x.c,.int .i64 x.p] 149) by rw[tK];exact Y6.o);clear tK Ff k2 k3 g0 g1;have g0:=aI zqA.o 0
    go_upto_region 10 with(go_at_call 116;refine(zm4 (e:=⟨#[116,105,114,101,100]⟩) IZ.o.at_ NX.o.hy HL.o.2.1 HL.o.2.2.2 HL.o.2.2.1 vK.o).mono ?_;rintro en w5 ⟨rfl,v5,a5,t5,p5⟩;have A5:=aD a5;have T5:=aD t5;have P5:=aD p5;clear a5 t5 p5)
    obtain⟨zlS,zo9⟩:=IZ.o.at_.turned T5.o zqA.o zDL.o;have zA0:=aD (fY.of (v':=v5) (IZ.o.mr.clear HT.o.i.S HT.o.i.ndl (λz hz=>(HT.o.i.lb z hz).1) NX.o.hy NX.o.op HL.o.1 (f:=λz=>{z with t:=(dA d.r m k).1.clk,e:=vS}) (λz=>⟨rfl,rfl⟩) zg6) P5.o.1 (by rw[P5.o.2.1,NX.o.c]) P5.o.2.2.1 rfl rfl);have zyU:=aD (IZ.o.so.turn T5.o);have Ej:=aD zlS;have k8:w5.cell? ⟨hb,8,none⟩=some v5.sB:=aI A5.o.blk 8;have g5:=aI zlS 0;obtain⟨OC,zbG⟩:=aP (.cells #[.int .i64 x.c] 3:Obj);have a5:=(A5.o.alloc OC).drew;have nX:(dA d.r m k).1.back.length<=5000:=HT.o.i.sm.nb;obtain⟨q1,q2,w6,fM,cT,mL,fC⟩:=On (t:=38) (ty:=38) Vs Xz rfl aH a5.B (g:=w5.heap.size) (cs:=#[.int .i64 x.c]) (news:=[.int .i64 x.c]) (by rw[zbG];exact gP _ _) rfl (m:=1) rfl aH Mp (by show(dA d.r m k).1.back.length+1<=_;omega) aH (by have:=IZ.o.tn.size;have:=T5.o.size;have:=Mk.o;simp;omega);obtain⟨a6,t6⟩:=a5.putB mL (xs:=(dA d.r m k).1.back++[x]) (by have e:fF (((dA d.r m k).1.back++[x]).map bE.c)=fF ((dA d.r m k).1.back.map bE.c)++[.int .i64 x.c]:=(by simp[fF]);rw[e];exact cT) (by simp;rfl) fC;have A6:=aD (show bG (w6.setCell ⟨hb,8,none⟩ (.slice (some ⟨q1,0,none⟩) ((dA d.r m k).1.back.length+1) q2)) lo hb {v5 with sB:=.slice (some ⟨q1,0,none⟩) ((dA d.r m k).1.back.length+1) q2} (wU d m (k+1)) by rw[zG8 cJ.o];exact a6);have T6:=aD (show bO hb v5 w5 {v5 with sB:=.slice (some ⟨q1,0,none⟩) ((dA d.r m k).1.back.length+1) q2} (w6.setCell ⟨hb,8,none⟩ (.slice (some ⟨q1,0,none⟩) ((dA d.r m k).1.back.length+1) q2)) from(bO.below (eT (fW _ w5) OC)).trans (⟨t6.size,t6.block,t6.moved⟩:bO hb v5 (w5.alloc OC) _ _));have Mi:w6.heap[hb]? =some (Nd v5 _):=(a5.other (j:=6) (c:=8) (x:=v5.sB) rfl aH mL (.slice (some ⟨q1,0,none⟩) ((dA d.r m k).1.back.length+1) q2)).2.trans a5.blk;have Ow:=aI Mi 8;have kf:=eW Mi 8;have AP:=aD fM;clear cT mL fC a6 t6 a5 Mi fM zlS g0;rw[zbG] at AP;refine wp_WA10 w5 w6 hb gx q1 ((dA d.r m k).1.back.length+1) q2 v5.sB x.c rfl rfl rfl k8 g5 AP.o Ow kf rfl ?_;rw[Go.Mt.Bn,zv0];simp only[Go.Mt.xN,dP,dQ,znJ,lWA10,Du,Ee];obtain⟨W7,C0⟩:=aP (w6.setCell ⟨hb,8,none⟩ (.slice (some ⟨q1,0,none⟩) ((dA d.r m k).1.back.length+1) q2));rw[<-C0] at A6 T6⊢;clear C0 k8 Ow kf g5 AP;have g7:=aI (A5.o.turned T6.o Ej.o zo9).1 0;have zI1:=Qv (c:=x.c) aC aC
    have I7:=aD (show Dt w lo hb v d m (k+1) {v5 with sB:=.slice (some ⟨q1,0,none⟩) ((dA d.r m k).1.back.length+1) q2} (.slice A2 n2 c2) W7 from
     ⟨A6.o,by rw[cJ.o];refine fY.of zA0.o ?_ ?_ ?_ ?_ ?_<;>rfl,(IZ.o.tn.trans T5.o).trans T6.o,⟨P5.o.2.2.2.2.1.trans IZ.o.kp.1,P5.o.2.2.2.2.2.1.trans IZ.o.kp.2.1,P5.o.2.2.2.2.2.2.2.2.1.trans IZ.o.kp.2.2.1,P5.o.2.2.2.2.2.2.2.2.2.trans IZ.o.kp.2.2.2⟩,P5.o.2.2.2.2.2.2.1.trans IZ.o.sW,by rw[nO.o];exact zyU.o.turn T6.o⟩)
    clear T5 zo9 A6 T6
    go_wp2_with (go_at_call 112;refine(zmX x.c aC aC _).mono ?_;rintro en w8 ⟨rfl,Iv⟩;obtain rfl:=Iv)
    go_roundw
    case rel=>exact⟨k+1,_,A2,n2,c2,aC,oL,by rw[cJ.o];simp[Mx],rfl,I7.o⟩
    case measure=>simp[intOf];omega
  .have e:k=n:=aC
   subst e;obtain⟨F1,F2,F3,F4⟩:=HI.o.fin HN.o T Mk.o HH.o;have FF:=aD (And.intro F1 (And.intro F2 (And.intro F3 F4)));have k7:wr.cell? ⟨hb,7,none⟩=some v1.sW:=aI HI.o.at_.blk 7;have Xn:wr.cell? ⟨hb,7,none⟩=some (.slice AW k cW):=by rw[k7,HI.o.sW,Bs.o]
   have kf:=eW HI.o.at_.blk;have HR:=aD (show(⟨(dA d.r m k).2.toArray⟩:ByteArray)=⟨(tN d.r m).2.toArray⟩ by rw[<-zaK,<-HN.o]);clear F1 F2 F3 F4 k7;go_wp2;go_ret;exact⟨by rw[HR.o];rfl,_,FF.o⟩
end Go.Proofs.YtfcjiloojkjaeaaGreatDoor
namespace Go.Proofs.YtfcjiloojkjaeaaGreatDoor
open Go.RowKit Go.Mt Go.Conc Go.Tt Go.Maps
section
variable {d:qA}{f:aQ}{s:WS}{ops:Array aZ}{i:Nat}{rest:List Nat}{Φ:WS->Prop}{o:aZ}
theorem CR.call' (H:d.Ok){g:aQ}{args:Array cK}{kJ:Array aM}{Ψ:Pr->gN->aF->aE->Prop}(Nq:Array aF)(ho:ops[i]? =some o)(cE:dE o (dH ops s.T)=true)(hop:o.op=.call ⟨.value (.func g),args,kJ⟩)(wK:args.all (dV d.fs)=true)(uF:s.chs=[])(ha:args.map (bJ s.T []).eval=Nq)
 (hc:CF d g Nq s.K s.l s.w Ψ) (hk:∀K' l' v w',s.K.le K'->Ψ K' l' v w'->CR d f ops rest ⟨[],K',l',(cC ⟨s.T,[]⟩ o.dst v).tmps,w'⟩ Φ):CR d f ops (i::rest) s Φ:=
 CR.call H ho cE hop wK uF (by rw[ha];exact hc) hk
end
variable {w:aE}{lo hb:Nat}{v:fJ}{d:nU}
def bG.tp (h:bG w lo hb v d)(T:j6)(n:Nat):bG (Tt.tp w T n) lo hb v d:=h.same rfl
variable {w':aE}{v':fJ}
def bO.tp (h:bO hb v w v' w')(T:j6)(n:Nat):bO hb v w v' (Tt.tp w' T n):=h.same rfl
def zdu:wF aK 120:=⟨_,zpy,.inr (.inl ⟨_,rfl⟩)⟩
variable {e:G4}{K:Pr}{k q i:Nat}{c:Int}{x:bR}
theorem zxe (H:e.d.Ok)(h:bG w lo hb v d)(hW:e.W[k]? =some (.ask q 1 c c))(hq:q<d.qn.length)(zC:q<=100)(hK:∀(i g:Nat),d.qn[i]? =some g->K g (qa e.qs i))
   (hx:d.r.recs[i]? =some x) (hM:lF c v.pM=some (.int .i64 (i:Int))) (V6:1<=c) (wR:c<=99):
 CF e.d 120 #[.pointer (some ⟨hb,0,none⟩),.int .i64 ((q:Int)+1),.int .i64 c] K (.wk e.qs k) w (λK' l' y w'=>l'=.wk e.qs (k+1)/\y=.string ⟨([99,97,108,108,32]++gM c).toArray⟩/\bG w' lo hb v {d with r:={d.r with recs:=d.r.recs.modify i λz=>{z with o:=(q:Int)+1,h:=d.r.clk}}}/\bO hb v w v w'):=by
 refine CF.of 29 zpy (.inr (.inl ⟨_,rfl⟩)) ?_;have HX:=aD hx;have HM:=aD hM;obtain⟨gR,cR,hR⟩:=zlC h hx;have HR:=aD hR;clear hx hM hR;refine CW.sq H ?_;refine CW.pQ H zdu (λTp Q HQ=>?_);go_wp2;refine HQ.o _ _ ?_;clear HQ;refine CW.tape (s:=⟨[],K,.wk e.qs k,_,w⟩) ?_ Tp 0;refine CW.sq H ?_;refine CW.rg H [0,1,2,3] ?_;refine CR.mv H (.pointer (some ⟨hb,0,none⟩)) ?_;refine CR.mv H (.int .i64 ((q:Int)+1)) ?_;refine CR.mv H (.int .i64 c) ?_;refine CR.cl H (za7 H h hW hq zC hK) (λK' l' y w' hl qI=>?_);obtain⟨rfl,rfl,rN⟩:=qI;simp only[cC,fO,dP,dQ];have A1:=aD (show bG w' lo hb v d by rw[rN];exact h.alloc _);have T1:=aD (show bO hb v w v w' by rw[rN];exact bO.below (eT (fW _ _) _));clear h hW hq zC hK rN;refine CR.nil H ?_;refine CW.sq H ?_;refine CW.pQ H zdu (λTp Q HQ=>?_);obtain⟨wa,xY⟩:=aP (Tt.tp w' Tp 0);have A2:=aD (show bG wa lo hb v d by rw[xY];exact A1.o.tp Tp 0);have T2:=aD (show bO hb v w v wa by rw[xY];exact T1.o.tp Tp 0);rw[<-xY];clear xY A1 T1
 go_wp2_with (go_at_call 115;refine(zge A2.o HR.o HX.o HM.o).mono ?_;rintro en w2 ⟨rfl,eG⟩;obtain rfl:=eG)
 refine HQ.o _ _ ?_;obtain⟨w2,eG⟩:=aP wa.drew;rw[<-eG];have A3:=aD (show bG w2 lo hb v d by rw[eG];exact A2.o.drew);have T3:=aD (show bO hb v w v w2 by rw[eG];exact T2.o.same rfl);clear HQ eG A2 T2;refine CW.sq H ?_;refine CW.pQ H zdu (λziP Q HQ=>?_);obtain⟨zka,xY⟩:=aP (Tt.tp w2 ziP 0);have A4:=aD (show bG zka lo hb v d by rw[xY];exact A3.o.tp ziP 0);have T4:=aD (show bO hb v w v zka by rw[xY];exact T3.o.tp ziP 0);dsimp only;rw[<-xY];clear xY A3 T3;obtain⟨c2,f2⟩:=A4.o.recAt HR.o HX.o (j:=2) (u:=.int .i64 x.o) aH rfl;obtain⟨a5,t5⟩:=A4.o.setR (λz=>{z with o:=(q:Int)+1}) HR.o HX.o (j:=2) (u:=.int .i64 ((q:Int)+1)) aH zr6 rfl;have A5:=aD a5;have T5:=aD (T4.o.trans t5);clear a5 t5;go_wp2;refine HQ.o _ _ ?_;clear HQ c2 f2 A4 T4;obtain⟨w5,lB⟩:=aP (zka.setCell ⟨gR,i*7+2,none⟩ (.int .i64 ((q:Int)+1)));rw[<-lB] at A5 T5⊢;clear lB;have zbq:=aD (show(d.r.recs.modify i λz=>{z with o:=(q:Int)+1})[i]? =some {x with o:=(q:Int)+1} from zgZ HX.o);have jW:=aD (show v.sR=.slice (some ⟨gR,0,none⟩) (d.r.recs.modify i λz=>{z with o:=(q:Int)+1}).length cR by rw[List.length_modify];exact HR.o);refine CW.sq H ?_;refine CW.pQ H zdu (λSr Q HQ=>?_);obtain⟨zf4,xY⟩:=aP (Tt.tp w5 Sr 0);have A6:=aD (show bG zf4 lo hb v _ by rw[xY];exact A5.o.tp Sr 0);have T6:=aD (show bO hb v w v zf4 by rw[xY];exact T5.o.tp Sr 0);dsimp only;rw[<-xY];clear xY A5 T5;have Ff:zf4.cell? ⟨hb,11,none⟩=some (.int .i64 d.r.clk):=aI A6.o.blk 11;obtain⟨c4,f4⟩:=A6.o.recAt jW.o zbq.o (j:=4) (u:=.int .i64 x.h) aH rfl;obtain⟨a7,t7⟩:=A6.o.setR (λz=>{z with h:=d.r.clk}) jW.o zbq.o (j:=4) (u:=.int .i64 d.r.clk) aH zvc rfl;simp only[zhK] at a7;have A7:=aD a7;have T7:=aD (T6.o.trans t7);clear a7 t7;go_wp2;refine HQ.o _ _ ?_;clear HQ c4 f4 A6 T6 Ff;obtain⟨w7,rM⟩:=aP (zf4.setCell ⟨gR,i*7+4,none⟩ (.int .i64 d.r.clk));rw[<-rM] at A7 T7⊢;clear rM;have Jo:=Qv (c:=c) aC aC;refine CW.sq H ?_;refine CW.pQ H zdu (λVk Q HQ=>?_);dsimp only
 go_wp2_with (go_at_call 112;refine(zmX c aC aC _).mono ?_;rintro en w8 ⟨rfl,Iv⟩;obtain rfl:=Iv)
 refine HQ.o _ _ ?_;clear HQ;refine CW.rt H ?_;exact⟨.inr rfl,rfl,.string ⟨([99,97,108,108,32]++gM c).toArray⟩,(by have ee:(⟨#[99,97,108,108,32]⟩:ByteArray)++⟨(gM c).toArray⟩=⟨([99,97,108,108,32]++gM c).toArray⟩:=(by simp[Mx]);rw[<-ee];rfl),rfl,rfl,A7.o.tp Vk 0,T7.o.tp Vk 0⟩
structure zaQ (qs:List Nat)(lo hb:Nat)(v:fJ)(d:nU)(w:aE)(k n:Nat)(R:bY×List UInt8)(l':gN)(y:aF)(w':aE):Prop where
 l:l'=.wk qs (k+n)
 y:y=.string ⟨R.2.toArray⟩
 x:∃v',bG w' lo hb v' {d with r:=R.1}/\fY v' {d with r:=R.1}/\bO hb v w v' w'/\Aj v v'
def De (W:List fK)(k:Nat)(A:List fK):Prop:=∀(j:Nat) (x:fK),A[j]? =some x->W[k+j]? =some x
variable {W A:List fK}
def De.head {x:fK}(h:De W k (x::A)):W[k]? =some x:=h 0 x rfl
theorem De.tail {x:fK}(h:De W k (x::A)):De W (k+1) A:=λj y hy=>by
 have:=h (j+1) y hy;rw[show k+1+j=k+(j+1) by omega];exact this
variable {n:Nat}
theorem zmo {E s:Nat}{v:aF}{xs:List aF}(h:w.ownsRow lo E s v n xs)(hn:0<n):∃g c,v=.slice (some ⟨g,0,none⟩) n c:=by
 rcases h.2 with⟨_,h0⟩|⟨g,cap,cur,e,_⟩
 .omega
 .exact⟨g,_,e⟩
variable {b:bY}
theorem zs9 (hr:RInv b)(op:Int):0<=dO b.recs op/\(dO b.recs op≠0->0<dO b.recs op):=by
 rcases zqu b.recs op with⟨i,x,h1,_,_,h4⟩|⟨_,h4⟩
 .have:=(hr.recB x (fN h1)).1
  rw[h4];omega
 .rw[h4];exact⟨Int.le_refl _,λh=>absurd rfl h⟩
theorem Ll (q:Nat):y3 ((q:Int)+1)=q:=by unfold y3;omega
def Ts:wF aK 103:=⟨_,zvh,.inr (.inl ⟨_,rfl⟩)⟩
theorem cf_pick (H:e.d.Ok)(h:bG w lo hb v d)(mr:fY v d)(hi:yZ d)(hW:De e.W k (H5 d.r ((q:Int)+1)))(hq:q<d.qn.length)(zC:q<=100)(hK:∀(i g:Nat),d.qn[i]? =some g->K g (qa e.qs i)):
 CF e.d 103 #[.pointer (some ⟨hb,0,none⟩),.int .i64 ((q:Int)+1)] K (.wk e.qs k) w (λK' l' y w'=>zaQ e.qs lo hb v d w k (H5 d.r ((q:Int)+1)).length (nH d.r ((q:Int)+1)) l' y w'):=by
 refine CF.of 35 zvh (.inr (.inl ⟨_,rfl⟩)) ?_;have A0:=aD h;have T0:=aD (bO.refl (hb:=hb) (v:=v) (w:=w));obtain⟨ans,Oe⟩:=aP (dO d.r.recs ((q:Int)+1));have HA:=aD Oe;have HI:=aD hi;have MR:=aD mr;have hg:=zs9 hi.R ((q:Int)+1);rw[<-Oe] at hg;have H3:e.W[k]? =some (.ask q 0 0 ans):=by have:=hW.head;rw[Ll,<-Oe] at this;exact this
 have HW:=aD hW;clear h mr hi hW Oe;refine CW.sq H (CW.p0 H Ts A0 T0 λw1 dW A1 T1=>?_);refine CW.sq H ?_;refine CW.sq H ?_;refine CW.rg H [0,1,2,3] ?_;refine CR.mv H (.pointer (some ⟨hb,0,none⟩)) ?_;refine CR.mv H (.int .i64 ((q:Int)+1)) ?_;refine CR.cl H (za7 H A1.o H3 hq zC hK) (λK' l' y w' hl qI=>?_);obtain⟨rfl,rfl,rN⟩:=qI;simp only[cC,fO,dP,dQ];have A2:=aD (show bG w' lo hb v d by rw[rN];exact A1.o.alloc _);have T2:=aD (show bO hb v w v w' by rw[rN];exact T1.o.trans (bO.below (eT (fW _ _) _)));have sH:∀(i g:Nat),d.qn[i]? =some g->K' g (qa e.qs i):=λi g hg=>hl _ _ (hK i g hg);clear rN A1 T1 H3 hK hl;by_cases hz:ans=0
 .
   subst hz;refine nP ?_;refine CR.mg H (.bool false) ?_;refine CR.nil H ?_;refine CW.cd H false ?_;refine CW.sk H ?_;dsimp only;refine CW.sq H ?_;have Gi:¬0<dO d.r.recs ((q:Int)+1):=by rw[<-HA.o];omega
   have HF:=aD Gi;clear hg Gi;obtain⟨AW,cW,Ku,Kr⟩:=Hx A2.o.W aH;have Bs:=aD Ku
   cases cE:d.r.wait with
   |nil=>
    have Qw:=aD cE;have e1:nH d.r ((q:Int)+1)=(d.r,[110,111,110,101]):=by unfold nH;rw[if_neg HF.o,Qw.o]
    have e2:H5 d.r ((q:Int)+1)=[.ask q 0 0 0]:=by unfold H5;rw[if_neg HF.o,Qw.o,Ll,<-HA.o]
    have cJ:=aD e1;have nO:=aD e2;clear e1 e2;refine CW.sq H (CW.pW H Ts A2 T2 λw3 Q iU A3 T3 HQ=>?_);have k7:w3.cell? ⟨hb,7,none⟩=some (.slice AW 0 cW):=by
     have:=aI A3.o.blk 7;rw[this,<-show v.sW=.slice AW 0 cW by rw[Bs.o,cE];rfl];rfl
    clear cE Ku Kr;go_wp2;refine HQ.o _ _ ?_;clear HQ;refine CW.cd H true ?_;refine CW.sq H (CW.p0 H Ts A3 T3 λw4 lY A4 T4=>?_);refine CW.rt H ?_;refine⟨.inr rfl,rfl,.string ⟨#[110,111,110,101]⟩,rfl,⟨by rw[nO.o];rfl,by rw[cJ.o],v,?_,?_,?_,Aj.rf v⟩⟩
    .rw[cJ.o];exact A4.o
    .rw[cJ.o];exact MR.o
    .exact T4.o
   |cons c cs=>
    have Qw:=aD cE;obtain⟨i,x,hx,sK,Jk,tH⟩:=HI.o.S.wt c Yx;have fC:hY d.r.recs c.c=some i:=by rw[<-Jk];exact HI.o.S.at_ hx sK
    have Iu:=HI.o.R.waitB c Yx;obtain⟨gL,Ol,hO,hM,hC⟩:=MR.o.onLine HI.o hx sK Jk;have O0:dS (c::cs) c.c=cs:=zdJ (st:=[]) (by have:=HI.o.R.nodup;rw[cE] at this;exact this);have e1:nH d.r ((q:Int)+1)=({d.r with recs:=d.r.recs.modify i λz=>{z with o:=(q:Int)+1,h:=d.r.clk},wait:=cs},[99,97,108,108,32]++gM c.c):=by
     unfold nH;rw[if_neg HF.o,cE];simp only[fC,O0]
    have e2:H5 d.r ((q:Int)+1)=[.ask q 0 0 0,.ask q 1 c.c c.c]:=by unfold H5;rw[if_neg HF.o,cE,Ll,<-HA.o]
    have zbt:e.W[k+1]? =some (.ask q 1 c.c c.c):=by have:=HW.o;rw[e2] at this;exact this.tail.head
    obtain⟨gW,zJD,zgG⟩:=zmo A2.o.W Yx;rw[Ku] at zgG;injection zgG with qN oO zU;subst qN;have hlen:d.r.wait.length=cs.length+1:=by rw[cE];rfl
    have Mn:=HI.o.sm.nw;have zpF:=aD hlen;have Rj:=aD (show v.sW=.slice (some ⟨gW,0,none⟩) (cs.length+1) cW by rw[Bs.o,hlen]);have HX:=aD hx;have HM:=aD hM;have cJ:=aD e1;have nO:=aD e2;have zEt:cs.length<=1000:=aC;have V6:=Iu.1;have wR:=Iu.2;clear cE hx sK Jk tH fC Iu Ol hO hM hC O0 e1 e2 Ku Kr Bs hlen Mn oO zU;refine CW.sq H (CW.pW H Ts A2 T2 λw3 Q iU A3 T3 HQ=>?_);have k7:w3.cell? ⟨hb,7,none⟩=some (.slice (some ⟨gW,0,none⟩) (cs.length+1) cW):=by
     have:=aI A3.o.blk 7;rw[this,<-Rj.o];rfl
    go_wp2;refine HQ.o _ _ ?_;clear HQ;clear k7;refine CW.cd H false ?_;refine CW.sk H ?_;dsimp only;refine CW.sq H (CW.pW H Ts A3 T3 λw4 Q lY A4 T4 HQ=>?_);have k7:w4.cell? ⟨hb,7,none⟩=some (.slice (some ⟨gW,0,none⟩) (cs.length+1) cW):=by
     have:=aI A4.o.blk 7;rw[this,<-Rj.o];rfl
    have oZ:w4.ownsRow lo 149 2 (.slice (some ⟨gW,0,none⟩) (cs.length+1) cW) (cs.length+1) (bH (c::cs)):=by
     have:=A4.o.W;rw[Rj.o,Qw.o] at this;exact this
    obtain⟨bW,oW,x',hA,kF,eK,e0,e1⟩:=zem (zY oZ aH) (k:=0) aC;injection hA with hA;injection hA with As Ag;subst As Ag;have lX:c=x':=by simpa using eK
    subst lX;simp only[Nat.zero_mul,Q3] at e0 e1;clear oZ eK;go_wp2;refine HQ.o _ _ ?_;clear HQ;clear k7 e0 e1 kF;refine CW.sq H (CW.pW H Ts A4 T4 λw5 Q lB A5 T5 HQ=>?_);have k7:w5.cell? ⟨hb,7,none⟩=some (.slice (some ⟨gW,0,none⟩) (cs.length+1) cW):=by
     have:=aI A5.o.blk 7;rw[this,<-Rj.o];rfl
    have oZ:w5.ownsRow lo 149 2 (.slice (some ⟨gW,0,none⟩) (cs.length+1) cW) (cs.length+1) (bH (c::cs)):=by
     have:=A5.o.W;rw[Rj.o,Qw.o] at this;exact this
    have Rf:=aD oZ;clear oZ
    go_wp2_with (go_at_call 119;refine(zCA (i:=0) (j:=1) Rf.o (Zh _) aC aC).mono ?_;rintro en w6 ⟨rfl,jX,lH⟩;have Pg:w6.ownsRow lo 149 2 (.slice (some ⟨gW,0,none⟩) cs.length cW) cs.length (bH cs):=jX;have Ci:w5.grownBy w6 v.sW.ownBlock:=(by rw[Rj.o];exact lH);have hq:=(A5.o.other (j:=5) (c:=7) (x:=v.sW) rfl aH Ci (.slice (some ⟨gW,0,none⟩) cs.length cW)).2;have Xn:=aI (hq.trans A5.o.blk) 7;have kf:=eW (hq.trans A5.o.blk) 7;have Bh:=aD (And.intro Pg Ci);clear jX lH Pg Ci hq)
    refine HQ.o _ _ ?_;clear HQ;clear k7 Xn kf;obtain⟨a6,t6⟩:=A5.o.putW Bh.o.2 Bh.o.1 rfl (.inl (by rw[Rj.o];rfl));have A6:=A5;have T6:=T5;obtain⟨w7,rM⟩:=aP (w6.setCell ⟨hb,7,none⟩ (.slice (some ⟨gW,0,none⟩) cs.length cW));have A7:=aD (show bG w7 lo hb {v with sW:=.slice (some ⟨gW,0,none⟩) cs.length cW} {d with r:={d.r with wait:=cs}} by rw[rM];exact a6);have T7:=aD (show bO hb v w {v with sW:=.slice (some ⟨gW,0,none⟩) cs.length cW} w7 by rw[rM];exact(T5.o.trans t6));rw[<-rM];clear rM A6 T6;clear a6 t6 Bh A5 T5;refine CW.sq H ?_;refine CW.rg H [0,1,2,3,4] ?_;refine CR.mv H (.pointer (some ⟨hb,0,none⟩)) ?_;refine CR.mv H (.int .i64 ((q:Int)+1)) ?_;refine CR.mv H (.int .i64 c.c) ?_;refine CR.cl H (zxe H A7.o zbt hq zC sH HX.o HM.o V6 wR) (λK2 l2 y2 w8 Qc qI=>?_);obtain⟨rfl,rfl,a8,t8⟩:=qI;simp only[cC,fO,dP,dQ];refine nP ?_;refine CR.mv H (.string ⟨([99,97,108,108,32]++gM c.c).toArray⟩) ?_;refine CR.nil H ?_;refine CW.rt H ?_;refine⟨.inr rfl,rfl,.string ⟨([99,97,108,108,32]++gM c.c).toArray⟩,rfl,⟨by rw[nO.o];rfl,by rw[cJ.o],_,?_,?_,T7.o.trans t8,⟨rfl,rfl,rfl,rfl⟩⟩⟩
    .rw[cJ.o];exact a8
    .rw[cJ.o];refine fY.of (MR.o.mod (f:=λz=>{z with o:=(q:Int)+1,h:=d.r.clk}) (i:=i) λz=>⟨rfl,rfl,rfl⟩) ?_ ?_ ?_ ?_ ?_<;>rfl
 .
   have aU:0<ans:=hg.2 hz;have nX:(ans !=0)=true:=by simpa using hz
   refine nP ?_;refine CR.mv H (.bool true) ?_ (hx:=λT=>by unfold aO;go_simp;try exact nX);refine CR.nil H ?_;refine CW.cd H true ?_;refine CW.sq H (CW.p0 H Ts A2 T2 λw3 iU A3 T3=>?_);refine CW.rt H ?_;have Ce:0<dO d.r.recs ((q:Int)+1):=by rw[<-HA.o];exact aU
   have e1:nH d.r ((q:Int)+1)=(d.r,[116,97,108,107,115]):=by unfold nH;rw[if_pos Ce]
   have e2:H5 d.r ((q:Int)+1)=[.ask q 0 0 ans]:=by unfold H5;rw[if_pos Ce,Ll,<-HA.o]
   refine⟨.inr rfl,rfl,.string ⟨#[116,97,108,107,115]⟩,rfl,⟨by rw[e2];rfl,by rw[e1],v,?_,?_,?_,Aj.rf v⟩⟩
   .rw[e1];exact A3.o
   .rw[e1];exact MR.o
   .exact T3.o
variable {f:bR->bR}
theorem zBp {rs:List bR}:(rs++[x]).modify rs.length f=rs++[f x]:=by
 apply List.ext_getElem?;intro j;rw[List.getElem?_modify];rcases zxV j rs.length with h|h|h
 .rw[Og h,Og h]
  have aU:rs.length≠j:=aC;simp[aU]
 .subst h
  rw[Po (bF _),Po (bF _),zl3];simp
 .rw[Ue oX,Ue oX];rfl
structure FreeAt (d:nU)(l:Int)(i g:Nat):Prop where
 l:l=(i:Int)+1
 g:d.ln[i]? =some g
 i6:i<=100
 un:rP d.r.recs ((i:Int)+1)=false
variable {l:Int}{ls:List Int}
theorem yZ.free (h:yZ d)(hf:oT d.r.o d.r.recs=l::ls):∃i g,FreeAt d l i g:=by
 have hm:l∈oT d.r.o d.r.recs:=by rw[hf];simp
 obtain⟨h1,h2⟩:=zgo h.R.off hm;have h3:=(zhD hm).2;have hn:=h.nln;obtain⟨i,rfl⟩:∃i:Nat,l=(i:Int)+1:=⟨(l-1).toNat,aC⟩;have hi:i<d.ln.length:=aC;refine⟨i,_,rfl,mV hi,aC,?_⟩;unfold oT yH at hm;have:=(L8.1 hm).2;simpa using this
theorem zrk (hf:oT d.r.o d.r.recs=l::ls):Js d=l-1:=by unfold Js;rw[hf]
theorem zv7 (hf:oT d.r.o d.r.recs=[]):Js d= -1:=by unfold Js;rw[hf]
def Hi:wF aK 104:=⟨_,zrs,.inr (.inl ⟨_,rfl⟩)⟩
theorem cf_back (H:e.d.Ok)(h:bG w lo hb v d)(mr:fY v d)(hi:yZ d)(eF:lo<=w.heap.size)(hW:De e.W k (Dw d.r ((q:Int)+1)))(hq:q<d.qn.length)(zC:q<=100)(hK:∀(i g:Nat),d.qn[i]? =some g->K g (qa e.qs i)):
 CF e.d 104 #[.pointer (some ⟨hb,0,none⟩),.int .i64 ((q:Int)+1)] K (.wk e.qs k) w (λK' l' y w'=>zaQ e.qs lo hb v d w k (Dw d.r ((q:Int)+1)).length (l8 d.r ((q:Int)+1)) l' y w'):=by
 refine CF.of 43 zrs (.inr (.inl ⟨_,rfl⟩)) ?_;have A0:=aD h;have T0:=aD (bO.refl (hb:=hb) (v:=v) (w:=w));obtain⟨ans,Oe⟩:=aP (dO d.r.recs ((q:Int)+1));have HA:=aD Oe;have HI:=aD hi;have MR:=aD mr;have Mk:=aD eF;have hg:=zs9 hi.R ((q:Int)+1);rw[<-Oe] at hg;have H3:e.W[k]? =some (.ask q 0 0 ans):=by have:=hW.head;rw[Ll,<-Oe] at this;exact this
 have HW:=aD hW;clear h mr hi hW Oe eF;refine CW.sq H (CW.p0 H Hi A0 T0 λw1 dW A1 T1=>?_);refine CW.sq H ?_;refine CW.sq H ?_;refine CW.rg H [0,1,2,3] ?_;refine CR.mv H (.pointer (some ⟨hb,0,none⟩)) ?_;refine CR.mv H (.int .i64 ((q:Int)+1)) ?_;refine CR.cl H (za7 H A1.o H3 hq zC hK) (λK' l' y w' hl qI=>?_);obtain⟨rfl,rfl,rN⟩:=qI;simp only[cC,fO,dP,dQ];have A2:=aD (show bG w' lo hb v d by rw[rN];exact A1.o.alloc _);have T2:=aD (show bO hb v w v w' by rw[rN];exact T1.o.trans (bO.below (eT (fW _ _) _)));have sH:∀(i g:Nat),d.qn[i]? =some g->K' g (qa e.qs i):=λi g hg=>hl _ _ (hK i g hg);clear rN A1 T1 H3 hK hl;by_cases hz:ans=0
 .
   subst hz;refine nP ?_;refine CR.mg H (.bool false) ?_;refine CR.nil H ?_;refine CW.cd H false ?_;refine CW.sk H ?_;dsimp only;have HF:=aD (show dO d.r.recs ((q:Int)+1)=0 from HA.o.symm);clear hg;refine CW.sq H ?_;obtain⟨AB,cB,Mf,zbd⟩:=Hx A2.o.B aH;have At:=aD Mf;clear zbd
   cases uX:d.r.back with
   |nil=>
    have J2:=aD uX;have e1:l8 d.r ((q:Int)+1)=(d.r,[110,111,110,101]):=by unfold l8;rw[if_neg X8,J2.o]
    have e2:Dw d.r ((q:Int)+1)=[.ask q 0 0 0]:=by unfold Dw;rw[if_neg X8,J2.o,Ll,<-HA.o]
    have cJ:=aD e1;have nO:=aD e2;clear e1 e2;refine CW.sq H (CW.pW H Hi A2 T2 λw3 Q iU A3 T3 HQ=>?_);have k8:w3.cell? ⟨hb,8,none⟩=some (.slice AB 0 cB):=by
     have:=aI A3.o.blk 8;rw[this,<-show v.sB=.slice AB 0 cB by rw[At.o,uX];rfl];rfl
    clear uX Mf;go_wp2;refine HQ.o _ _ ?_;clear HQ;refine CW.cd H true ?_;refine CW.sq H (CW.p0 H Hi A3 T3 λw4 lY A4 T4=>?_);refine CW.rt H ?_;refine⟨.inr rfl,rfl,.string ⟨#[110,111,110,101]⟩,rfl,⟨by rw[nO.o];rfl,by rw[cJ.o],v,?_,?_,?_,Aj.rf v⟩⟩
    .rw[cJ.o];exact A4.o
    .rw[cJ.o];exact MR.o
    .exact T4.o
   |cons c cs=>
    have J2:=aD uX;have Iu:=HI.o.R.backB c zbK;have fC:hY d.r.recs c.c=none:=HI.o.S.bo c zbK;have O0:dS (c::cs) c.c=cs:=zdJ (st:=[]) (by have:=HI.o.S.bk;rw[uX] at this;exact this);obtain⟨gB,zmK,Aq⟩:=zmo A2.o.B zbK;rw[Mf] at Aq;injection Aq with qN oO zU;subst qN;have hlen:d.r.back.length=cs.length+1:=by rw[uX];rfl
    have nX:=HI.o.sm.nb;have Cz:=HI.o.sm.nr;have Rb:=aD (show v.sB=.slice (some ⟨gB,0,none⟩) (cs.length+1) cB by rw[At.o,hlen]);have vB:=aD fC;have zHj:=aD O0;have zEt:cs.length<=5000:=aC;have V6:=Iu.1;have wR:=Iu.2;clear uX fC O0 Iu Mf At hlen nX oO zU;refine CW.sq H (CW.pW H Hi A2 T2 λw3 Q iU A3 T3 HQ=>?_);have k8:w3.cell? ⟨hb,8,none⟩=some (.slice (some ⟨gB,0,none⟩) (cs.length+1) cB):=by
     have:=aI A3.o.blk 8;rw[this,<-Rb.o];rfl
    go_wp2;refine HQ.o _ _ ?_;clear HQ;clear k8;refine CW.cd H false ?_;refine CW.sk H ?_;dsimp only;have zbZ:=HI.o.nln;have zbU:d.ln.length<=100:=by have:=(Cu HI.o.R.off).2.1;omega
    have zaB:=aD (λW (a:bG W lo hb v d)=>zqe a MR.o zbZ zbU);clear zbZ zbU;refine CW.sq H (CW.pW H Hi A3 T3 λw4 Q lY A4 T4 HQ=>?_)
    go_wp2_with (go_at_call 109;refine(zaB.o _ A4.o).mono ?_;rintro en wz ⟨rfl,tK⟩;obtain rfl:=tK)
    refine HQ.o _ _ ?_;clear HQ;clear zaB;refine CW.sq H ?_
    cases fZ:oT d.r.o d.r.recs with
    |nil=>
     rw[zv7 fZ];have Ps:=aD fZ;have e1:l8 d.r ((q:Int)+1)=(d.r,[98,117,115,121]):=by unfold l8;rw[if_neg X8,J2.o];simp only[fZ]
     have e2:Dw d.r ((q:Int)+1)=[.ask q 0 0 0]:=by unfold Dw;rw[if_neg X8,J2.o,Ll,<-HA.o];simp only[fZ]
     have cJ:=aD e1;have nO:=aD e2;clear e1 e2 fZ;refine CW.sq H (CW.p0 H Hi A4 T4 λw5 lB A5 T5=>?_);refine CW.cd H true ?_;refine CW.sq H (CW.p0 H Hi A5 T5 λw6 pL A6 T6=>?_);refine CW.rt H ?_;refine⟨.inr rfl,rfl,.string ⟨#[98,117,115,121]⟩,rfl,⟨by rw[nO.o];rfl,by rw[cJ.o],v,?_,?_,?_,Aj.rf v⟩⟩
     .rw[cJ.o];exact A6.o
     .rw[cJ.o];exact MR.o
     .exact T6.o
    |cons l ls=>
     obtain⟨i,gL,vY⟩:=HI.o.free fZ;have uP:Js d=(i:Int):=by rw[zrk fZ,vY.l];omega
     rw[uP];have e1:l8 d.r ((q:Int)+1)=({d.r with back:=cs,recs:=d.r.recs++[⟨c.c,(i:Int)+1,(q:Int)+1,d.r.clk,d.r.clk,-1,eJ⟩]},[99,97,108,108,32]++gM c.c):=by
      unfold l8;rw[if_neg X8,J2.o];simp only[fZ,zHj.o,vY.l]
     have e2:Dw d.r ((q:Int)+1)=[.ask q 0 0 0,.ask q 1 c.c c.c]:=by unfold Dw;rw[if_neg X8,J2.o,Ll,<-HA.o];simp only[fZ]
     have zbt:e.W[k+1]? =some (.ask q 1 c.c c.c):=by have:=HW.o;rw[e2] at this;exact this.tail.head
     have cJ:=aD e1;have nO:=aD e2;have FA:=aD vY;have zzZ:=vY.i6;clear e1 e2 fZ vY uP;refine CW.sq H (CW.pW H Hi A4 T4 λw5 Q lB A5 T5 HQ=>?_);have i0:(0:Int)<=(i:Int):=aC;go_wp2;refine HQ.o _ _ ?_;clear HQ;refine CW.cd H false ?_;refine CW.sk H ?_;dsimp only;refine CW.sq H (CW.pW H Hi A5 T5 λw6 Q pL A6 T6 HQ=>?_);have k8:w6.cell? ⟨hb,8,none⟩=some (.slice (some ⟨gB,0,none⟩) (cs.length+1) cB):=by
      have:=aI A6.o.blk 8;rw[this,<-Rb.o];rfl
     have oZ:w6.ownsRow lo 3 1 (.slice (some ⟨gB,0,none⟩) (cs.length+1) cB) (cs.length+1) (fF ((c::cs).map bE.c)):=by
      have:=A6.o.B;rw[Rb.o,J2.o] at this;exact this
     obtain⟨bB,oB,x',hA,_,_,kF,eK,e0⟩:=(zY oZ aH).cellAt (k:=0) aC;injection hA with hA;injection hA with As Ag;subst As Ag;have lX:c.c=x':=by simpa using eK
     subst lX
     try simp only[Q3] at e0
     clear oZ eK;go_wp2;refine HQ.o _ _ ?_;clear HQ;clear k8 e0 kF;refine CW.sq H (CW.pW H Hi A6 T6 λw7 Q rM A7 T7 HQ=>?_);have k8:w7.cell? ⟨hb,8,none⟩=some (.slice (some ⟨gB,0,none⟩) (cs.length+1) cB):=by
      have:=aI A7.o.blk 8;rw[this,<-Rb.o];rfl
     have oZ:w7.ownsRow lo 3 1 (.slice (some ⟨gB,0,none⟩) (cs.length+1) cB) (cs.length+1) (fF ((c::cs).map bE.c)):=by
      have:=A7.o.B;rw[Rb.o,J2.o] at this;exact this
     have Rf:=aD oZ;clear oZ
     go_wp2_with (go_at_call 114;refine(zug (i:=0) (j:=1) Rf.o (ztQ _) aC aC).mono ?_;rintro en w8 ⟨rfl,jX,lH⟩;have Pg:w8.ownsRow lo 3 1 (.slice (some ⟨gB,0,none⟩) cs.length cB) cs.length (fF (cs.map bE.c)):=jX;have Ci:w7.grownBy w8 v.sB.ownBlock:=(by rw[Rb.o];exact lH);have hq:=(A7.o.other (j:=6) (c:=8) (x:=v.sB) rfl aH Ci (.slice (some ⟨gB,0,none⟩) cs.length cB)).2;have Ow:=aI (hq.trans A7.o.blk) 8;have kf:=eW (hq.trans A7.o.blk) 8;have Bh:=aD (And.intro Pg Ci);clear jX lH Pg Ci hq)
     refine HQ.o _ _ ?_;clear HQ;clear k8 Ow kf;obtain⟨a6,t6⟩:=A7.o.putB Bh.o.2 Bh.o.1 rfl (.inl (by rw[Rb.o];rfl));have A8:=A7;have T8:=T7;obtain⟨w9,Jy⟩:=aP (w8.setCell ⟨hb,8,none⟩ (.slice (some ⟨gB,0,none⟩) cs.length cB));have A9:=aD (show bG w9 lo hb {v with sB:=.slice (some ⟨gB,0,none⟩) cs.length cB} {d with r:={d.r with back:=cs}} by rw[Jy];exact a6);have T9:=aD (show bO hb v w {v with sB:=.slice (some ⟨gB,0,none⟩) cs.length cB} w9 by rw[Jy];exact(T7.o.trans t6));rw[<-Jy];clear Jy A8 T8;clear a6 t6 Bh A7 T7;refine CW.sq H (CW.pW H Hi A9 T9 λvJ Q Eo tM xU HQ=>?_);have zD5:lo<=vJ.heap.size:=eH Mk.o xU.o.size
     go_wp2_with (go_at_call 110;refine(zrn tM.o zD5 FA.o.g aC Cz c.c).mono ?_;rintro en zG ⟨rfl,v11,zr9,t11,zrW⟩;have Az:=aD zr9;have Ey:=aD (xU.o.trans t11);have O4:=aD zrW;clear zr9 t11 zrW)
     refine HQ.o _ _ ?_;clear HQ;clear tM xU;refine CW.sq H ?_;refine CW.rg H [0,1,2,3,4] ?_;refine CR.mv H (.pointer (some ⟨hb,0,none⟩)) ?_;refine CR.mv H (.int .i64 ((q:Int)+1)) ?_;refine CR.mv H (.int .i64 c.c) ?_;refine CR.cl H (zxe H Az.o zbt hq zC sH (i:=d.r.recs.length) (x:=⟨c.c,(i:Int)+1,0,d.r.clk,-1,-1,eJ⟩) (by show(d.r.recs++[_])[d.r.recs.length]? =_;rw[Po (bF _),zl3];rfl) (by rw[O4.o.2.2.1,Xy,if_pos rfl]) V6 wR) (λK2 l2 y2 I6 Qc qI=>?_);obtain⟨rfl,rfl,a12,t12⟩:=qI;simp only[cC,fO,dP,dQ];refine nP ?_;refine CR.mv H (.string ⟨([99,97,108,108,32]++gM c.c).toArray⟩) ?_;refine CR.nil H ?_;refine CW.rt H ?_;have e3:(d.r.recs++[(⟨c.c,(i:Int)+1,0,d.r.clk,-1,-1,eJ⟩:bR)]).modify d.r.recs.length (λz=>{z with o:=(q:Int)+1,h:=d.r.clk})=d.r.recs++[⟨c.c,(i:Int)+1,(q:Int)+1,d.r.clk,d.r.clk,-1,eJ⟩]:=zBp;refine⟨.inr rfl,rfl,.string ⟨([99,97,108,108,32]++gM c.c).toArray⟩,rfl,⟨by rw[nO.o];rfl,by rw[cJ.o],v11,?_,?_,Ey.o.trans t12,?_⟩⟩
     .rw[cJ.o]
      have zjo:=a12;dsimp only at zjo;rw[e3] at zjo;exact zjo
     .rw[cJ.o]
      refine fY.of (MR.o.more HI.o.ndl FA.o.g FA.o.un vB.o (o:=(q:Int)+1) (hh:=d.r.clk) (tt:=-1) (clk:=d.r.clk)) ?_ ?_ ?_ ?_ ?_
      .exact O4.o.1
      .exact O4.o.2.1
      .exact O4.o.2.2.1
      .rfl
      .rfl
     .exact⟨O4.o.2.2.2.1,O4.o.2.2.2.2.1,O4.o.2.2.2.2.2.2.2.1,O4.o.2.2.2.2.2.2.2.2⟩
 .
   have aU:0<ans:=hg.2 hz;have nX:(ans !=0)=true:=by simpa using hz
   have Ce:0<dO d.r.recs ((q:Int)+1):=by rw[<-HA.o];exact aU
   have cJ:=aD (show l8 d.r ((q:Int)+1)=(d.r,[116,97,108,107,115]) by unfold l8;rw[if_pos Ce]);have nO:=aD (show Dw d.r ((q:Int)+1)=[.ask q 0 0 ans] by unfold Dw;rw[if_pos Ce,Ll,<-HA.o]);clear Ce;refine nP ?_;refine CR.mv H (.bool true) ?_ (hx:=λT=>by unfold aO;go_simp;try exact nX);refine CR.nil H ?_;refine CW.cd H true ?_;refine CW.sq H (CW.p0 H Hi A2 T2 λw3 iU A3 T3=>?_);refine CW.rt H ?_;refine⟨.inr rfl,rfl,.string ⟨#[116,97,108,107,115]⟩,rfl,⟨by rw[nO.o];rfl,by rw[cJ.o],v,?_,?_,?_,Aj.rf v⟩⟩
   .rw[cJ.o];exact A3.o
   .rw[cJ.o];exact MR.o
   .exact T3.o
theorem ztM (xs:List bE)(q:Int):(xs.map bE.c).findIdx? (·==q)=uC xs q:=by
 unfold uC;rw[List.findIdx?_map];rfl
variable {q:Int}{xs:List bE}
theorem zIs {p:Nat}(hn:(xs.map bE.c).Nodup)(h:uC xs q=some p):dS xs q=xs.take p++xs.drop (p+1)/\p<xs.length:=by
 unfold uC at h;obtain⟨hl,hx,_⟩:=zl5.1 h;have hq:xs[p].c=q:=by simpa using hx
 have e:xs=xs.take p++xs[p]::xs.drop (p+1):=by rw[<-List.drop_eq_getElem_cons hl,List.take_append_drop]
 refine⟨?_,hl⟩;have:=zdJ (st:=xs.take p) (rest:=xs.drop (p+1)) (x:=xs[p]) (by rw[<-e];exact hn);rw[<-e,hq] at this;exact this
theorem zAO (h:∀x∈xs,x.c≠q):dS xs q=xs:=by
 unfold dS;rw[List.filter_eq_self];intro x hx;simpa using h x hx
theorem zz1 (xs:List bE)(p r:Nat):fF ((xs.take p++xs.drop r).map bE.c)=(fF (xs.map bE.c)).take p++(fF (xs.map bE.c)).drop r:=by
 unfold fF;rw[N4,N4,zuC,zrR,zuC,zrR]
theorem zz4 {gx:Nat}(uT:w.heap[gx]? =some (.cells #[.int .i64 q] 3)):
 Calls aK 117 #[.slice none 0 0,.func (.func 118) #[] #[.pointer (some ⟨gx,0,none⟩)]] w λe w'=>e=.returned (.slice none 0 0)/\Below w.heap.size w w':=by
 have HI:=aD (ztn 0 w.heap.size 0 0 none [] gx q w ⟨rfl,lP _,lP _,λh=>absurd h aC⟩ aC uT)
 go_enter Tryz.func117,Tryz.ntmps117
 go_wp2_with (go_at_call 124;refine HI.o.mono ?_;rintro e w1 ⟨rfl,Im⟩;have jG:=aD Im)
 go_ret;exact⟨rfl,jG.o⟩
def yB:wF aK 102:=⟨_,zue,.inr (.inl ⟨_,rfl⟩)⟩
theorem cf_hang (H:e.d.Ok)(h:bG w lo hb v d)(mr:fY v d)(hi:yZ d)(eF:lo<=w.heap.size)(hW:De e.W k (Dz d.r c))(hK:∀(i g:Nat),d.qn[i]? =some g->K g (qa e.qs i)):
 CF e.d 102 #[.pointer (some ⟨hb,0,none⟩),.int .i64 c] K (.wk e.qs k) w (λK' l' y w'=>zaQ e.qs lo hb v d w k (Dz d.r c).length (mH d.r c) l' y w'):=by
 refine CF.of 59 zue (.inr (.inl ⟨_,rfl⟩)) ?_;have A0:=aD h;have T0:=aD (bO.refl (hb:=hb) (v:=v) (w:=w));have HI:=aD hi;have MR:=aD mr;have Mk:=aD eF;have HW:=aD hW;have nX:=hi.sm.nb;have Mn:=hi.sm.nw;clear h mr hi hW eF;refine CW.sq H (CW.pW H yB A0 T0 λw1 Q dW A1 T1 HQ=>?_);go_wp2;refine HQ.o _ _ ?_;clear HQ;obtain⟨gx,uT⟩:=aP w1.heap.size;obtain⟨w2,eG⟩:=aP (w1.alloc (.cells #[.int .i64 c] 3));have A2:=aD (show bG w2 lo hb v d by rw[eG];exact A1.o.alloc _);have T2:=aD (show bO hb v w v w2 by rw[eG];exact T1.o.trans (bO.below (eT (fW _ _) _)));have zfd:=aD (show w2.heap[gx]? =some (.cells #[.int .i64 c] 3) by rw[eG,uT];exact gP _ _);have NP:=aD (show some gx∉parts v hb from λhp=>by have:=(A1.o.lt _ hp).2;omega);rw[<-uT,<-eG];clear eG uT A1 T1;refine CW.sq H ?_
 cases fC:hY d.r.recs c with
 |none=>
  have vB:=aD fC;have U1:=aD (MR.o.offLine fC);clear fC;refine CW.sq H (CW.pW H yB A2 T2 λw3 Q iU A3 T3 HQ=>?_);have vM:=aD (iU▸zfd.o);have k5:w3.cell? ⟨hb,5,none⟩=some (.map (some v.mO)):=aI A3.o.blk 5;have kx:=aI vM.o 0;have lk:(zZ 67 (.map (some v.mO)) (.int .i64 c) false).run aK w3.drew=.ok (.chan none) w3.drew:=by
   have:=zbM Q1 K9 (zax w3.drew) (A3.o.drew.O) (c:=c) false;rw[U1.o] at this;exact this
  refine zqW w3 hb gx v.mO c none rfl rfl rfl k5 kx lk rfl ?_;rw[Go.Mt.Bn,zm9];simp only[Go.Mt.xN,dP,dQ,fHG1,lHG1,Du,Ee];refine HQ.o _ _ ?_;clear HQ;clear k5 kx lk;obtain⟨w4,lY⟩:=aP w3.drew;have A4:=aD (show bG w4 lo hb v d by rw[lY];exact A3.o.drew);have T4:=aD (show bO hb v w v w4 by rw[lY];exact T3.o.same rfl);have Om:=aD (show w4.heap[gx]? =some (.cells #[.int .i64 c] 3) by rw[lY];exact vM.o);rw[<-lY];clear lY A3 T3 vM;refine CW.cd H true ?_;obtain⟨AB,cB,Mf,zbd⟩:=Hx A4.o.B aH;have At:=aD Mf;clear Mf zbd;refine CW.sq H (CW.pW H yB A4 T4 λw5 Q lB A5 T5 HQ=>?_);have Ej:=aD (lB▸Om.o);have k8:w5.cell? ⟨hb,8,none⟩=some (.slice AB d.r.back.length cB):=by
   have:=aI A5.o.blk 8;rw[this,<-At.o];rfl
  have kx:=aI Ej.o 0;have Fg:=aD (show cG w5 lo w5.heap.size 1 AB d.r.back.length cB (fF (d.r.back.map bE.c)) by have:=A5.o.B;rw[At.o] at this;exact zY this aH);have HE:=aD (λnq:Nat=>Calls.quiet_of_same (w:=w5) (n:=nq) ((zrb lo w5.heap.size d.r.back.length cB AB (d.r.back.map bE.c) c (w5.drewN nq) (have hs:=Fg.o;⟨hs.len,hs.le,hs.cap,hs.at_⟩) aC).mono λe w' hh=>hh))
  go_wp2_with fail
  go_quiet ((go_at_call 113;exact HE.o _))
  go_wp2_with fail
  refine HQ.o _ _ ?_;clear HQ;obtain⟨w6,pL⟩:=aP (w5.drewN nq);have A6:=aD (show bG w6 lo hb v d by rw[pL];exact A5.o.same rfl);have T6:=aD (show bO hb v w v w6 by rw[pL];exact T5.o.same rfl);have L4:=aD (show w6.heap[gx]? =some (.cells #[.int .i64 c] 3) by rw[pL];exact Ej.o);rw[<-pL];clear pL A5 T5 Ej k8 kx Fg HE;refine CW.sq H ?_;rw[ztM]
  cases J8:uC d.r.back c with
  |none=>
   have cJ:=aD (show mH d.r c=(d.r,[103,111,110,101]) by unfold mH;rw[vB.o];simp only[J8];rfl);have nO:=aD (show Dz d.r c=[] by unfold Dz;rw[vB.o]);clear J8;simp only[Gt];refine CW.sq H ?_;refine CW.pW H yB A6 T6 λw7 Q rM A7 T7 HQ=>?_;have Hr:=aD (rM▸L4.o);go_wp2;refine HQ.o _ _ ?_;clear HQ;refine CW.cd H true ?_;refine CW.sq H (CW.pW H yB A7 T7 λw8 Q Iv A8 T8 HQ=>?_);have Il:=aD (Iv▸Hr.o);go_wp2;refine HQ.o _ _ ?_;clear HQ;refine CW.rt H ?_;refine⟨.inr rfl,rfl,.string ⟨#[103,111,110,101]⟩,rfl,⟨by rw[nO.o];rfl,by rw[cJ.o],v,?_,?_,?_,Aj.rf v⟩⟩
   .rw[cJ.o];exact A8.o
   .rw[cJ.o];exact MR.o
   .exact T8.o
  |some p=>
   obtain⟨O0,oC⟩:=zIs HI.o.S.bk J8;have cJ:=aD (show mH d.r c=({d.r with back:=d.r.back.take p++d.r.back.drop (p+1)},[111,102,102]) by unfold mH;rw[vB.o];simp only[J8];rw[<-O0];rfl);have nO:=aD (show Dz d.r c=[] by unfold Dz;rw[vB.o]);have zJT:p<=5000:=aC;obtain⟨gB,zmK,Aq⟩:=zmo A6.o.B aC;rw[At.o] at Aq;injection Aq with qN oO zU;subst qN;have i0:(0:Int)<=(p:Int):=aC;clear J8 O0 oO zU;simp only[Gt];refine CW.sq H ?_;refine CW.pW H yB A6 T6 λw7 Q rM A7 T7 HQ=>?_;have Hr:=aD (rM▸L4.o);go_wp2;refine HQ.o _ _ ?_;clear HQ;refine CW.cd H false ?_;refine CW.sk H ?_;dsimp only;refine CW.sq H (CW.pW H yB A7 T7 λw8 Q Iv A8 T8 HQ=>?_);have Il:=aD (Iv▸Hr.o);have k8:w8.cell? ⟨hb,8,none⟩=some (.slice (some ⟨gB,0,none⟩) d.r.back.length cB):=by
    have:=aI A8.o.blk 8;rw[this,<-At.o];rfl
   have Rf:=aD (show w8.ownsRow lo 3 1 (.slice (some ⟨gB,0,none⟩) d.r.back.length cB) d.r.back.length (fF (d.r.back.map bE.c)) by have:=A8.o.B;rw[At.o] at this;exact this)
   go_wp2_with (go_at_call 114;refine(zug (i:=p) (j:=p+1) Rf.o (ztQ _) aC aC).mono ?_;intro en w9;rw[show p+1-p=1 by omega];rintro⟨rfl,jX,lH⟩;have Pg:w9.ownsRow lo 3 1 (.slice (some ⟨gB,0,none⟩) (d.r.back.length-1) cB) (d.r.back.length-1) (fF ((d.r.back.take p++d.r.back.drop (p+1)).map bE.c)):=(by rw[zz1];exact jX);have Ci:w8.grownBy w9 v.sB.ownBlock:=(by rw[At.o];exact lH);have hq:=(A8.o.other (j:=6) (c:=8) (x:=v.sB) rfl aH Ci (.slice (some ⟨gB,0,none⟩) (d.r.back.length-1) cB)).2;have Ow:=aI (hq.trans A8.o.blk) 8;have kf:=eW (hq.trans A8.o.blk) 8;have Bh:=aD (And.intro Pg Ci);clear jX lH Pg Ci hq)
   refine HQ.o _ _ ?_;clear HQ;clear k8 Ow kf;obtain⟨a6,t6⟩:=A8.o.putB Bh.o.2 Bh.o.1 oX (.inl (by rw[At.o];rfl));have A9:=A8;have T9:=T8;obtain⟨vJ,Eo⟩:=aP (w9.setCell ⟨hb,8,none⟩ (.slice (some ⟨gB,0,none⟩) (d.r.back.length-1) cB));have tM:=aD (show bG vJ lo hb {v with sB:=.slice (some ⟨gB,0,none⟩) (d.r.back.length-1) cB} {d with r:={d.r with back:=d.r.back.take p++d.r.back.drop (p+1)}} by rw[Eo];exact a6);have xU:=aD (show bO hb v w {v with sB:=.slice (some ⟨gB,0,none⟩) (d.r.back.length-1) cB} vJ by rw[Eo];exact(T8.o.trans t6));rw[<-Eo];clear Eo A9 T9;clear a6 t6 Bh A8 T8 Il;refine CW.sq H (CW.p0 H yB tM xU λzG zHB Az Ey=>?_);refine CW.rt H ?_;refine⟨.inr rfl,rfl,.string ⟨#[111,102,102]⟩,rfl,⟨by rw[nO.o];rfl,by rw[cJ.o],{v with sB:=.slice (some ⟨gB,0,none⟩) (d.r.back.length-1) cB},?_,?_,?_,⟨rfl,rfl,rfl,rfl⟩⟩⟩
   .rw[cJ.o];exact Az.o
   .rw[cJ.o];refine fY.of MR.o ?_ ?_ ?_ ?_ ?_<;>rfl
   .exact Ey.o
 |some i=>
  obtain⟨x,hx,Jk,sK⟩:=zA fC;obtain⟨gL,Ol,hO,hM,hC⟩:=MR.o.onLine HI.o hx sK Jk;obtain⟨gR,cR,hR⟩:=zlC A2.o hx;have U1:=aD hO;have HX:=aD hx;have HL:=aD (And.intro Ol (And.intro hO (And.intro hM hC)));have HR:=aD hR;have vB:=aD fC;have U9:=aD (And.intro Jk sK);have hop:=HI.o.ops.op x (fN hx);have Q5:=HI.o.nqn;have Z2:=HI.o.R.off;have Ta:=aD (Cu Z2);have qL:He d.r.recs i=c:=by rw[Tm hx,Jk]
  have Kl:opAt d.r.recs i=x.o:=by unfold opAt;rw[hx]
  have U6:=aD (And.intro qL Kl);clear hx Jk sK Ol hO hM hC hR fC Z2 qL Kl;refine CW.sq H (CW.pW H yB A2 T2 λw3 Q iU A3 T3 HQ=>?_);have vM:=aD (iU▸zfd.o);have k5:w3.cell? ⟨hb,5,none⟩=some (.map (some v.mO)):=aI A3.o.blk 5;have kx:=aI vM.o 0;have lk:(zZ 67 (.map (some v.mO)) (.int .i64 c) false).run aK w3.drew=.ok (.chan (some gL)) w3.drew:=by
   have:=zbM Q1 K9 (zax w3.drew) (A3.o.drew.O) (c:=c) false;rw[U1.o] at this;exact this
  refine zqW w3 hb gx v.mO c (some gL) rfl rfl rfl k5 kx lk rfl ?_;rw[Go.Mt.Bn,zm9];simp only[Go.Mt.xN,dP,dQ,fHG1,lHG1,Du,Ee];refine HQ.o _ _ ?_;clear HQ;clear k5 kx lk;obtain⟨w4,lY⟩:=aP w3.drew;have A4:=aD (show bG w4 lo hb v d by rw[lY];exact A3.o.drew);have T4:=aD (show bO hb v w v w4 by rw[lY];exact T3.o.same rfl);have Om:=aD (show w4.heap[gx]? =some (.cells #[.int .i64 c] 3) by rw[lY];exact vM.o);rw[<-lY];clear lY A3 T3 vM;refine CW.cd H false ?_;refine CW.sk H ?_;dsimp only;refine CW.sq H ?_;refine CW.sq H (CW.pW H yB A4 T4 λw5 Q lB A5 T5 HQ=>?_);have Ej:=aD (lB▸Om.o);have kx:=aI Ej.o 0;have zp6:=aD (λW (a:bG W lo hb v d)=>zge a HR.o HX.o HL.o.2.2.1);obtain⟨c2,f2⟩:=A5.o.recAt HR.o HX.o (j:=2) (u:=.int .i64 x.o) aH rfl
  go_wp2_with (go_at_call 115;refine(zp6.o _ A5.o).mono ?_;rintro en wz ⟨rfl,tK⟩;obtain rfl:=tK)
  refine HQ.o _ _ ?_;clear HQ;clear kx zp6 c2 f2;obtain⟨w6,pL⟩:=aP w5.drew;have A6:=aD (show bG w6 lo hb v d by rw[pL];exact A5.o.drew);have T6:=aD (show bO hb v w v w6 by rw[pL];exact T5.o.same rfl);have L4:=aD (show w6.heap[gx]? =some (.cells #[.int .i64 c] 3) by rw[pL];exact Ej.o);rw[<-pL];clear pL A5 T5 Ej;refine CW.sq H ?_;by_cases hz:x.o=0
  .
    have cJ:=aD (show mH d.r c=(kI d.r i zV,[108,101,102,116]) by unfold mH;rw[vB.o];simp only;rw[U6.o.2,hz,if_neg aH]);have nO:=aD (show Dz d.r c=[] by unfold Dz;rw[vB.o];simp only;rw[U6.o.2,hz,if_neg aH]);rw[hz];clear hz;refine CW.pW H yB A6 T6 λw7 Q rM A7 T7 HQ=>?_;have Hr:=aD (rM▸L4.o);go_wp2;refine HQ.o _ _ ?_;clear HQ;refine CW.cd H false ?_;refine CW.sk H ?_;dsimp only;refine CW.sq H (CW.pW H yB A7 T7 λw8 Q Iv A8 T8 HQ=>?_);have Il:=aD (Iv▸Hr.o);have kx:=aI Il.o 0
    go_wp2_with (go_at_call 116;refine(zm4 (e:=⟨#[108,101,102,116]⟩) A8.o HX.o HL.o.2.1 HL.o.2.2.2 HL.o.2.2.1 HR.o).mono ?_;rintro en w9 ⟨rfl,v9,a5,t5,p5⟩;have A9:=aD a5;have T9:=aD (T8.o.trans t5);have P9:=aD p5;have zvO:=aD t5;clear a5 t5 p5)
    refine HQ.o _ _ ?_;clear HQ;clear kx;have zoQ:=aD (fY.of (v':=v9) (MR.o.clear HI.o.S HI.o.ndl (λz hz=>(HI.o.lb z hz).1) HX.o U9.o.2 HL.o.1 (f:=λz=>{z with t:=d.r.clk,e:=zV}) (λz=>⟨rfl,rfl⟩) zls) P9.o.1 (by rw[P9.o.2.1,U9.o.1]) P9.o.2.2.1 rfl rfl);obtain⟨kg,np⟩:=A8.o.turned zvO.o Il.o NP.o;have Vi:=aD kg;have zJU:=aD np;clear kg np zvO A8 T8 Il;have zi4:=A9.o.W;have zpw:({d with r:={d.r with recs:=d.r.recs.modify i λz=>{z with t:=d.r.clk,e:=zV}}}:nU).r.wait.length=d.r.wait.length:=rfl;rcases zi4.2 with⟨Xe,h0⟩|⟨gW,cW,cur,Kr,_⟩
    .
      have L6:d.r.wait=[]:=List.eq_nil_of_length_eq_zero h0;have uO:=aD (show kI d.r i zV={d.r with recs:=d.r.recs.modify i λz=>{z with t:=d.r.clk,e:=zV}} by unfold kI;rw[L6];show bY.mk _ _ _ [] _ _=_;rw[<-L6];rfl);have zi9:=aD Xe;clear zi4 zpw Xe h0 L6;refine CW.sq H (CW.pW H yB A9 T9 λvJ Q Eo tM xU HQ=>?_);have X3:=aD (Eo▸Vi.o);have k7:vJ.cell? ⟨hb,7,none⟩=some (.slice none 0 0):=by
       have:=aI tM.o.blk 7;rw[this,<-zi9.o];rfl
      go_wp2_with (go_at_call 117;refine(zz4 X3.o).mono ?_;rintro en zG ⟨rfl,zm6⟩;have Az:=aD (tM.o.below zm6);have Ey:=aD (xU.o.trans (bO.below zm6));have Xn:=aI Az.o.blk 7;have kf:=eW Az.o.blk 7;clear zm6)
      refine HQ.o _ _ ?_;clear HQ;clear k7 Xn kf;have zld:zG.setCell ⟨hb,7,none⟩ (.slice none 0 0)=zG.setCell ⟨hb,7,none⟩ v9.sW:=by rw[zi9.o]
      have a12:=Az.o.newW (s':=v9.sW) (xs:=d.r.wait) Az.o.W rfl (λb e=>by rw[zi9.o] at e;cases e);have t12:bO hb v9 zG v9 (zG.setCell ⟨hb,7,none⟩ v9.sW):=⟨by rw[xA];exact bF _,λb bU hn=>dU zG _ _ b (λe=>hn zo5),λb hx=>.inl hx⟩;obtain⟨I6,Oa⟩:=aP (zG.setCell ⟨hb,7,none⟩ (.slice none 0 0));have zam:=aD (show bG I6 lo hb v9 {d with r:={d.r with recs:=d.r.recs.modify i λz=>{z with t:=d.r.clk,e:=zV}}} by rw[Oa];exact(by rw[zld];exact a12));have zcN:=aD (show bO hb v w v9 I6 by rw[Oa];exact(by rw[zld];exact Ey.o.trans t12));rw[<-Oa];clear Oa Az Ey;clear a12 t12 zld tM xU X3;refine CW.sq H (CW.p0 H yB zam zcN λzb5 ztr zah zbV=>?_);refine CW.rt H ?_;refine⟨.inr rfl,rfl,.string ⟨#[108,101,102,116]⟩,rfl,⟨by rw[nO.o];rfl,by rw[cJ.o],v9,?_,?_,?_,Df.kept P9.o.2.2.2.2⟩⟩
      .rw[cJ.o];rw[uO.o];exact zah.o
      .rw[cJ.o];rw[uO.o];exact zoQ.o
      .exact zbV.o
    .
      have uO:=aD (show kI d.r i zV={d.r with recs:=d.r.recs.modify i (λz=>{z with t:=d.r.clk,e:=zV}),wait:=dS d.r.wait c} by unfold kI;rw[U6.o.1];rfl);have U0:=aD (show v9.sW=.slice (some ⟨gW,0,none⟩) d.r.wait.length cW from Kr);clear zi4 zpw Kr;refine CW.sq H (CW.pW H yB A9 T9 λvJ Q Eo tM xU HQ=>?_);have X3:=aD (Eo▸Vi.o);have k7:vJ.cell? ⟨hb,7,none⟩=some (.slice (some ⟨gW,0,none⟩) d.r.wait.length cW):=by
       have:=aI tM.o.blk 7;rw[this,<-U0.o];rfl
      have Rf:=aD (show vJ.ownsRow lo 149 2 (.slice (some ⟨gW,0,none⟩) d.r.wait.length cW) d.r.wait.length (bH d.r.wait) by have:=tM.o.W;rw[U0.o] at this;exact this)
      go_wp2_with (go_at_call 117;refine(zHy Rf.o aC X3.o).mono ?_;rintro en zG ⟨nW,rfl,zqF,jX,lH⟩;have Ci:vJ.grownBy zG v9.sW.ownBlock:=(by rw[U0.o];exact lH);have hq:=(tM.o.other (j:=5) (c:=7) (x:=v9.sW) rfl aH Ci (.slice (some ⟨gW,0,none⟩) nW cW)).2;have Xn:=aI (hq.trans tM.o.blk) 7;have kf:=eW (hq.trans tM.o.blk) 7;have Bh:=aD (And.intro jX (And.intro Ci zqF));clear jX lH Ci hq zqF)
      refine HQ.o _ _ ?_;clear HQ;clear k7 Xn kf;obtain⟨a6,t6⟩:=tM.o.putW Bh.o.2.1 Bh.o.1 Bh.o.2.2 (.inl (by rw[U0.o];rfl));have Az:=tM;have Ey:=xU;obtain⟨I6,Oa⟩:=aP (zG.setCell ⟨hb,7,none⟩ (.slice (some ⟨gW,0,none⟩) nW cW));have zam:=aD (show bG I6 lo hb {v9 with sW:=.slice (some ⟨gW,0,none⟩) nW cW} {d with r:={d.r with recs:=d.r.recs.modify i (λz=>{z with t:=d.r.clk,e:=zV}),wait:=dS d.r.wait c}} by rw[Oa];exact a6);have zcN:=aD (show bO hb v w {v9 with sW:=.slice (some ⟨gW,0,none⟩) nW cW} I6 by rw[Oa];exact(xU.o.trans t6));rw[<-Oa];clear Oa Az Ey;clear a6 t6 Bh tM xU X3;refine CW.sq H (CW.p0 H yB zam zcN λzb5 ztr zah zbV=>?_);refine CW.rt H ?_;refine⟨.inr rfl,rfl,.string ⟨#[108,101,102,116]⟩,rfl,⟨by rw[nO.o];rfl,by rw[cJ.o],{v9 with sW:=.slice (some ⟨gW,0,none⟩) nW cW},?_,?_,?_,⟨P9.o.2.2.2.2.1,P9.o.2.2.2.2.2.1,P9.o.2.2.2.2.2.2.2.2.1,P9.o.2.2.2.2.2.2.2.2.2⟩⟩⟩
      .rw[cJ.o];rw[uO.o];exact zah.o
      .rw[cJ.o];rw[uO.o];refine fY.of zoQ.o ?_ ?_ ?_ ?_ ?_<;>rfl
      .exact zbV.o
  .
    have Ce:0<x.o:=aC;obtain⟨q,zrE⟩:∃q:Nat,x.o=(q:Int)+1:=⟨(x.o-1).toNat,aC⟩;have hq:q<d.qn.length:=aC;have zC:q<=100:=by have:=Ta.o.2.2.2.1;omega
    have zgd:dS d.r.wait c=d.r.wait:=zAO λy hy e=>by
     obtain⟨j,z,h1,h2,h3,h4⟩:=HI.o.S.wt y hy;have:=HI.o.S.opn i j x z HX.o h1 U9.o.2 h2 (.inl (by rw[U9.o.1,h3,e]));subst this;rw[HX.o] at h1;injection h1 with h1;rw[<-h1] at h4;exact hz h4
    have cJ:=aD (show mH d.r c=(kI d.r i Dr,[100,111,110,101]) by unfold mH;rw[vB.o];simp only;rw[U6.o.2,if_pos Ce]);have nO:=aD (show Dz d.r c=[.ask q 1 0 0] by unfold Dz;rw[vB.o];simp only;rw[U6.o.2,if_pos Ce,zrE,Ll]);have uO:=aD (show kI d.r i Dr={d.r with recs:=d.r.recs.modify i λz=>{z with t:=d.r.clk,e:=Dr}} by unfold kI;rw[U6.o.1,zgd];rfl);have zbt:e.W[k]? =some (.ask q 1 0 0):=by have:=HW.o;rw[nO.o] at this;exact this.head
    rw[zrE];have zhG:((q:Int)+1 !=0)=true:=by have:(q:Int)+1≠0:=aC;simpa using this
    have zCn:¬(q:Int)+1=0:=aC;clear hz Ce zgd;refine CW.pW H yB A6 T6 λw7 Q rM A7 T7 HQ=>?_;have Hr:=aD (rM▸L4.o);go_wp2;refine HQ.o _ _ ?_;clear HQ
    try simp only[zCn,not_false_eq_true,decide_true,bne_iff_ne,ne_eq]
    refine CW.cond H (t:=true) rfl (by first|rfl|exact congrArg Od zhG) ?_;refine CW.sq H ?_;refine CW.rg H [0,1,2] ?_;refine CR.mv H (.pointer (some ⟨hb,0,none⟩)) ?_;refine CR.mv H (.int .i64 ((q:Int)+1)) ?_;refine CR.cl H (za7 H A7.o zbt hq zC hK) (λK' l' y w' hl qI=>?_);obtain⟨rfl,rfl,rN⟩:=qI;simp only[cC,fO,dP,dQ];have A8:=aD (show bG w' lo hb v d by rw[rN];exact A7.o.alloc _);have T8:=aD (show bO hb v w v w' by rw[rN];exact T7.o.trans (bO.below (eT (fW _ _) _)));have Il:=aD (show w'.heap[gx]? =some (.cells #[.int .i64 c] 3) by rw[rN];exact dG Hr.o _);clear rN A7 T7 Hr;refine CR.nil H ?_;refine CW.sq H (CW.pW H yB A8 T8 λw9 Q Jy A9 T9 HQ=>?_);have Vi:=aD (Jy▸Il.o);have kx:=aI Vi.o 0
    go_wp2_with (go_at_call 116;refine(zm4 (e:=⟨#[100,111,110,101]⟩) A9.o HX.o HL.o.2.1 HL.o.2.2.2 HL.o.2.2.1 HR.o).mono ?_;rintro en vJ ⟨rfl,v10,a5,t5,p5⟩;have tM:=aD a5;have xU:=aD (T9.o.trans t5);have zhz:=aD p5;have zrt:=aD t5;clear a5 t5 p5)
    refine HQ.o _ _ ?_;clear HQ;clear kx;have zBf:=aD (fY.of (v':=v10) (MR.o.clear HI.o.S HI.o.ndl (λz hz=>(HI.o.lb z hz).1) HX.o U9.o.2 HL.o.1 (f:=λz=>{z with t:=d.r.clk,e:=Dr}) (λz=>⟨rfl,rfl⟩) zfE) zhz.o.1 (by rw[zhz.o.2.1,U9.o.1]) zhz.o.2.2.1 rfl rfl);obtain⟨kg,np⟩:=A9.o.turned zrt.o Vi.o NP.o;have X3:=aD kg;have zJi:=aD np;clear kg np zrt A9 T9 Vi;refine CW.sq H (CW.p0 H yB tM xU λzG zHB Az Ey=>?_);refine CW.rt H ?_;refine⟨.inr rfl,rfl,.string ⟨#[100,111,110,101]⟩,rfl,⟨by rw[nO.o];rfl,by rw[cJ.o],v10,?_,?_,?_,Df.kept zhz.o.2.2.2.2⟩⟩
    .rw[cJ.o];rw[uO.o];exact Az.o
    .rw[cJ.o];rw[uO.o];exact zBf.o
    .exact Ey.o
section
variable {p:bZ}{o:aZ}{ρ:cK->aF}{w w':aE}
variable {t e:aM}{sz:Nat}{ie:wE}
theorem zys {x y:cK}{A:Option bC}{n c i:Nat}(ho:o.op=.slice t x (some y) none none)(hu:p.underlying t=some (.slice e))(hi:p.info? e=some ie)(hz:ie.size=sz)(hx:ρ x=.slice A n c)(hy:ρ y=.int .i64 (i:Int))(oY:i<=n):
 (aO ρ o).run p w=.ok (.value (.slice (if c=i then A else A.map (·.add (i*sz))) (n-i) (c-i))) w:=by
 obtain⟨dst,yV,type,pos,after,guard⟩:=o;simp only at ho;subst ho;have h0:(0:Int)<=(i:Int):=aC;have h1:(i:Int)<=(n:Int):=aC;simp[aO,Vv,Y5,Wj,K8,hx,hy,xE hu,sizeOf,typeInfo,hi,hz,asIntOf,h0,h1];exact λh=>absurd h aC
variable {j:Int}
theorem Uy {x y:cK}{g off n c i:Nat}(ho:o.op=.slice t x (some y) none none)(hu:p.underlying t=some (.slice e))(hi:p.info? e=some ie)(hz:ie.size=sz)(hx:ρ x=.slice (some ⟨g,0,none⟩) n c)(hy:ρ y=.int .i64 j)(hj:j=(i:Int))(oY:i<=n)(y4:i<c)(zIf:off=i*sz){n' c':Nat}(vL:n'=n-i)(kO:c'=c-i):
 (aO ρ o).run p w=.ok (.value (.slice (some ⟨g,off,none⟩) n' c')) w:=by
 subst zIf vL kO hj;rw[zys ho hu hi hz hx hy oY,if_neg aC];simp[Lr]
theorem zul {x y:cK}{g n c i:Nat}(ho:o.op=.slice t x none (some y) none)(hu:p.underlying t=some (.slice e))(hi:p.info? e=some ie)(hz:ie.size=sz)(hx:ρ x=.slice (some ⟨g,0,none⟩) n c)(hy:ρ y=.int .i64 j)(hj:j=(i:Int))(y4:i<=c):
 (aO ρ o).run p w=.ok (.value (.slice (some ⟨g,0,none⟩) i c)) w:=by
 subst hj;obtain⟨dst,yV,type,pos,after,guard⟩:=o;simp only at ho;subst ho;have h0:(0:Int)<=(i:Int):=aC;have h1:(i:Int)<=(c:Int):=aC;simp[aO,Vv,Y5,Wj,K8,hx,hy,xE hu,sizeOf,typeInfo,hi,hz,asIntOf,h0,h1,Lr];exact λh=>absurd h aC
theorem Yr {s x:cK}{tn:aM}{a b v:aF}{w':aE}(ho:o.op=.call ⟨.builtin .append,#[s,x],#[t,tn]⟩)(hs:ρ s=a)(hx:ρ x=b)(hr:(Builtin.append_ #[t,tn] o.type #[a,b]).run p w=.ok v w'):(aO ρ o).run p w=.ok (.value v) w':=by
 unfold aO;simp only[ho,resolve,invoke,builtin,Sem.run_bind,Sem.run_pure,Result.andThen_ok,vD,gT,tW,hs,hx,hr]
end
theorem U8:∃ie,aK.info? 149=some ie/\ie.zero=some (.agg #[.int .i64 0,.int .i64 0])/\ie.size=2/\ie.bytes=16:=by
 obtain⟨i0,hi,fG,dB,gQ⟩:=info_parts zb9;exact⟨i0,hi,fG,dB,gQ⟩
def yE:aK.underlying 69=some (.slice 149):=aT
def So:Go.Code:=(Tryz.f111.body).getD .skip
def rIN7:Go.Code:=match So with| .seq _ (.seq _ (.seq _ (.seq _ (.seq _ (.seq (.seq _ (.cond _ (.seq (a) _) _)) _)))))=>a|_=>.skip
def rIN9:Go.Code:=match So with| .seq _ (.seq _ (.seq _ (.seq _ (.seq _ (.seq _ (.seq (.seq _ (.cond _ (.seq (a) _) _)) _))))))=>a|_=>.skip
def rIN10:Go.Code:=match So with| .seq _ (.seq _ (.seq _ (.seq _ (.seq _ (.seq _ (.seq (.seq _ (.cond _ (.seq _ (.seq (a) _)) _)) _))))))=>a|_=>.skip
def rIN11:Go.Code:=match So with| .seq _ (.seq _ (.seq _ (.seq _ (.seq _ (.seq _ (.seq (.seq _ (.cond _ (.seq _ (.seq _ (.seq (a) _))) _)) _))))))=>a|_=>.skip
def rIN14:Go.Code:=match So with| .seq _ (.seq _ (.seq _ (.seq _ (.seq _ (.seq _ (.seq _ (.seq _ (.seq (.seq (a) _) _))))))))=>a|_=>.skip
def rIN15:Go.Code:=match So with| .seq _ (.seq _ (.seq _ (.seq _ (.seq _ (.seq _ (.seq _ (.seq _ (.seq (.seq _ (.cond _ (.seq (a) _) _)) _))))))))=>a|_=>.skip
def rIN16:Go.Code:=match So with| .seq _ (.seq _ (.seq _ (.seq _ (.seq _ (.seq _ (.seq _ (.seq _ (.seq (.seq _ (.cond _ (.seq _ (.seq (a) _)) _)) _))))))))=>a|_=>.skip
def zsa:Array Oper:=match rIN7 with| .region _ ops _=>ops|_=>#[]
abbrev oIN7_2:Oper:=aV zsa 2 (some 25) (.call ⟨.builtin .append,#[.tmp 23,.tmp 24],#[69,69]⟩)
def zHH:zsa[2]? =some oIN7_2:=rfl
def zoI:Array Oper:=match rIN9 with| .region _ ops _=>ops|_=>#[]
abbrev oIN9_8:Oper:=aV zoI 8 (some 40) (.call ⟨.builtin .append,#[.tmp 34,.tmp 39],#[69,3]⟩)
def zDn:zoI[8]? =some oIN9_8:=rfl
def zop:Array Oper:=match rIN10 with| .region _ ops _=>ops|_=>#[]
abbrev oIN10_4:Oper:=aV zop 4 (some 45) (.call ⟨.builtin .copy,#[.tmp 43,.tmp 44],#[69,69]⟩)
def zAW:zop[4]? =some oIN10_4:=rfl
def zvV:Array Oper:=match rIN14 with| .region _ ops _=>ops|_=>#[]
abbrev oIN14_6:Oper:=aV zvV 6 (some 67) (.call ⟨.value (.func 121),#[.tmp 61,.tmp 66],#[69,69]⟩)
def zyK:zvV[6]? =some oIN14_6:=rfl
def zsx:Array Oper:=match rIN16 with| .region _ ops _=>ops|_=>#[]
abbrev oIN16_4:Oper:=aV zsx 4 (some 82) (.call ⟨.builtin .copy,#[.tmp 80,.tmp 81],#[69,69]⟩)
def zDl:zsx[4]? =some oIN16_4:=rfl
def Fs:Array Oper:=match rIN11 with| .region _ ops _=>ops|_=>#[]
def ztA:Fs.toList=[aV Fs 0 (some 46) (.move (.tmp 9)),aV Fs 1 (some 47) (.move (.tmp 1)),aV Fs 2 (some 48) (.move (.tmp 7)),aV Fs 3 (some 49) (.binOp .add 3 (.tmp 47) (.tmp 48) 3),aV Fs 4 (some 50) (.slice 69 (.tmp 46) (some (.tmp 49)) none none),aV Fs 5 (some 51) (.move (.tmp 0)),aV Fs 6 (some 52) (.move (.tmp 1)),aV Fs 7 (some 53) (.slice 69 (.tmp 51) (some (.tmp 52)) none none),aV Fs 8 (some 54) (.call ⟨.builtin .copy,#[.tmp 50,.tmp 53],#[69,69]⟩)]:=rfl
def Gh:Array Oper:=match rIN15 with| .region _ ops _=>ops|_=>#[]
def zpI:Gh.toList=[aV Gh 0 (some 69) (.move (.tmp 0)),aV Gh 1 (some 70) (.move (.tmp 1)),aV Gh 2 (some 71) (.move (.tmp 7)),aV Gh 3 (some 72) (.binOp .add 3 (.tmp 70) (.tmp 71) 3),aV Gh 4 (some 73) (.slice 69 (.tmp 69) (some (.tmp 72)) none none),aV Gh 5 (some 74) (.move (.tmp 0)),aV Gh 6 (some 75) (.move (.tmp 1)),aV Gh 7 (some 76) (.slice 69 (.tmp 74) (some (.tmp 75)) none none),aV Gh 8 (some 77) (.call ⟨.builtin .copy,#[.tmp 73,.tmp 76],#[69,69]⟩)]:=rfl
def zby:wF aK 111:=⟨_,zwY,.inr (.inl ⟨_,rfl⟩)⟩
def WIN11 (w w3:aE)(g1 n1 c1 g n c ix:Nat)(vc:aF):Nat->aE
 |0=>w.drew
 |_=>w3
theorem zx4:Fs.toList.map (·.dst)=[some 46,some 47,some 48,some 49,some 50,some 51,some 52,some 53,some 54]:=by rw[ztA];rfl
def lIN11 (w w3:aE)(g1 n1 c1 g n c ix:Nat)(vc:aF):List Value:=[.slice (some ⟨g1,0,none⟩) n1 c1,.int .i64 ((ix:Nat)),.int .i64 (1),.int .i64 (((ix+1:Nat):Int)),.slice (some ⟨g1,(ix+1)*2,none⟩) (n1-(ix+1)) (c1-(ix+1)),.slice (some ⟨g,0,none⟩) n c,.int .i64 ((ix:Nat)),.slice (some ⟨g,ix*2,none⟩) (n-ix) (c-ix),vc]
def zjG (w w3:aE)(g1 n1 c1 g n c ix:Nat)(vc:aF)(i:Nat):Value:=(lIN11 w w3 g1 n1 c1 g n c ix vc).getD i aA
variable {d:List Deferred}{Q:oF->vN->aE->Prop}{t0:Array aF}
theorem wp_IN11 (w w3:aE)(g1 n1 c1 g n c ix:Nat)(vc:aF)(hz:t0.size=95)(uL:t0.getD 0 aA=.slice (some ⟨g,0,none⟩) n c)(E5:t0.getD 1 aA=.int .i64 ((ix:Nat)))(Gf:t0.getD 7 aA=.int .i64 (1))(zhO:t0.getD 9 aA=.slice (some ⟨g1,0,none⟩) n1 c1)(hb:ix+1<=n1/\ix+1<c1/\ix<=n/\ix<c/\ix<=100000)(nK:(Dq #[69,69] 3 #[.slice (some ⟨g1,(ix+1)*2,none⟩) (n1-(ix+1)) (c1-(ix+1)),.slice (some ⟨g,ix*2,none⟩) (n-ix) (c-ix)]).run aK w.drew=.ok vc w3)(h0:WIN11 w w3 g1 n1 c1 g n c ix vc 0=w.drew)(hk:Q .normal ⟨dF Fs (zjG w w3 g1 n1 c1 g n c ix vc) t0,d⟩ (w3)):
 (E6 11 Fs true).wp aK Q ⟨t0,d⟩ w:=by
 refine Je (ws:=[8]) (Wd:=WIN11 w w3 g1 n1 c1 g n c ix vc) (vals:=zjG w w3 g1 n1 c1 g n c ix vc) wA.mixed aT aH aT h0 J4 (λV hU hV=>?_) hk;obtain⟨X0,zac,zl7,Vl,zd6,V4,Ww,zlQ,zuv,-⟩:=Iq zx4 hU;have e0:=(hV 0 aT).trans uL;have e1:=(hV 1 aT).trans E5;have e7:=(hV 7 aT).trans Gf;have e9:=(hV 9 aT).trans zhO;refine λTf hT=>Ig ztA ⟨bT.pv,bT.pv,bT.pv,bT.any (λkk gA hm=>?_),bT.any (λkk gA hm=>?_),bT.pv,bT.pv,bT.any (λkk gA hm=>?_),bT.act (v:=V 54) 0 rfl (eE rfl) ?_,trivial⟩
 .have i0:=hb.2.2.2.2
  unfold aO;go_simp;first|(push_cast;exact Fw aC aC)|(push_cast;rw[Fw aC aC])|trace_state
 .obtain⟨ie,jY,_,cM,_⟩:=U8
  exact Uy rfl yE jY cM (oA hT X0) (oA hT Vl) rfl hb.1 hb.2.1 rfl rfl rfl
 .obtain⟨ie,jY,_,cM,_⟩:=U8
  exact Uy rfl yE jY cM (oA hT V4) (oA hT Ww) rfl hb.2.2.1 hb.2.2.2.1 rfl rfl rfl
 .rw[zuv];exact zfX rfl (oA hT zd6) (oA hT zlQ) nK
def WIN15 (w w3:aE)(g n c ix:Nat)(vc:aF):Nat->aE
 |0=>w.drew
 |_=>w3
theorem zq2:Gh.toList.map (·.dst)=[some 69,some 70,some 71,some 72,some 73,some 74,some 75,some 76,some 77]:=by rw[zpI];rfl
def lIN15 (w w3:aE)(g n c ix:Nat)(vc:aF):List Value:=[.slice (some ⟨g,0,none⟩) n c,.int .i64 ((ix:Nat)),.int .i64 (1),.int .i64 (((ix+1:Nat):Int)),.slice (some ⟨g,(ix+1)*2,none⟩) (n-(ix+1)) (c-(ix+1)),.slice (some ⟨g,0,none⟩) n c,.int .i64 ((ix:Nat)),.slice (some ⟨g,ix*2,none⟩) (n-ix) (c-ix),vc]
def zjl (w w3:aE)(g n c ix:Nat)(vc:aF)(i:Nat):Value:=(lIN15 w w3 g n c ix vc).getD i aA
theorem wp_IN15 (w w3:aE)(g n c ix:Nat)(vc:aF)(hz:t0.size=95)(uL:t0.getD 0 aA=.slice (some ⟨g,0,none⟩) n c)(E5:t0.getD 1 aA=.int .i64 ((ix:Nat)))(Gf:t0.getD 7 aA=.int .i64 (1))(hb:ix+1<=n/\ix+1<c/\ix<=n/\ix<c/\ix<=100000)(nK:(Dq #[69,69] 3 #[.slice (some ⟨g,(ix+1)*2,none⟩) (n-(ix+1)) (c-(ix+1)),.slice (some ⟨g,ix*2,none⟩) (n-ix) (c-ix)]).run aK w.drew=.ok vc w3)(h0:WIN15 w w3 g n c ix vc 0=w.drew)(hk:Q .normal ⟨dF Gh (zjl w w3 g n c ix vc) t0,d⟩ (w3)):
 (E6 15 Gh true).wp aK Q ⟨t0,d⟩ w:=by
 refine Je (ws:=[8]) (Wd:=WIN15 w w3 g n c ix vc) (vals:=zjl w w3 g n c ix vc) wA.mixed aT aH aT h0 J4 (λV hU hV=>?_) hk;obtain⟨zzu,zLk,zLo,zHa,zCD,zGK,zFa,zGC,zFF,-⟩:=Iq zq2 hU;have e0:=(hV 0 aT).trans uL;have e1:=(hV 1 aT).trans E5;have e7:=(hV 7 aT).trans Gf;refine λTf hT=>Ig zpI ⟨bT.pv,bT.pv,bT.pv,bT.any (λkk gA hm=>?_),bT.any (λkk gA hm=>?_),bT.pv,bT.pv,bT.any (λkk gA hm=>?_),bT.act (v:=V 77) 0 rfl (eE rfl) ?_,trivial⟩
 .have i0:=hb.2.2.2.2
  unfold aO;go_simp;first|(push_cast;exact Fw aC aC)|(push_cast;rw[Fw aC aC])|trace_state
 .obtain⟨ie,jY,_,cM,_⟩:=U8
  exact Uy rfl yE jY cM (oA hT zzu) (oA hT zHa) rfl hb.1 hb.2.1 rfl rfl rfl
 .obtain⟨ie,jY,_,cM,_⟩:=U8
  exact Uy rfl yE jY cM (oA hT zGK) (oA hT zFa) rfl hb.2.2.1 hb.2.2.2.1 rfl rfl rfl
 .rw[zFF];exact zfX rfl (oA hT zCD) (oA hT zGC) nK
variable {c1 c2:List aF}
theorem ins_up {c0 a b xx:List aF}(ha:c0.take a.length=a)(hl:a.length+xx.length+b.length<=c0.length)(h1:c1=c0.take a.length++xx++c0.drop (a.length+xx.length))(h2:c2=c1.take (a.length+xx.length)++b++c1.drop (a.length+xx.length+b.length)):
 c2.take (a.length+xx.length+b.length)=a++xx++b/\c2.length=c0.length:=by
 have e1:c1.take (a.length+xx.length)=a++xx:=by
  rw[h1,ha,F5 (by rw[jH];exact bF _),zP (by rw[jH];exact bF _)]
 have l1:c1.length=c0.length:=by rw[h1,ha];simp only[jH,yG];omega
 rw[h2,e1];refine⟨?_,?_⟩
 .rw[F5 zd8,zP zd8]
 .simp only[jH,yG];omega
theorem zEW {c0 a b xx:List aF}(ha:c0.take a.length=a)(hl:a.length+xx.length+b.length<=c0.length)(h1:c1=c0.take (a.length+xx.length)++b++c0.drop (a.length+xx.length+b.length))(h2:c2=c1.take a.length++xx++c1.drop (a.length+xx.length)):
 c2.take (a.length+xx.length+b.length)=a++xx++b/\c2.length=c0.length:=by
 have lt:(c0.take (a.length+xx.length)).length=a.length+xx.length:=by rw[sE];omega
 have e1:c1.take a.length=a:=by
  rw[h1,Jz,F5 aC,Qt,zvN aC,ha]
 have e2:c1.drop (a.length+xx.length)=b++c0.drop (a.length+xx.length+b.length):=by
  rw[h1,Jz,List.drop_append_of_le_length aC,zoJ aC,List.nil_append]
 rw[h2,e1,e2];refine⟨?_,?_⟩
 .rw[<-Jz,F5 zd8,zP zd8]
 .simp only[jH,yG];omega
theorem znX (xs:List bE)(x:bE)(i:Nat):bH (xs.take i++x::xs.drop i)=(bH xs).take (i*2)++x.cells++(bH xs).drop (i*2):=by
 have h1:(bH xs).take (i*2)=bH (xs.take i):=by
  induction xs generalizing i with
  |nil=>simp[bH]
  |cons y ys ih=>
   cases i with
   |zero=>simp[bH]
   |succ i=>
    have:bH (y::ys)=y.cells++bH ys:=by simp[bH]
    rw[this,List.take_succ_cons,show(i+1)*2=y.cells.length+i*2 by simp[bE.cells];omega,List.take_length_add_append,ih i];simp[bH]
 have h2:(bH xs).drop (i*2)=bH (xs.drop i):=by
  clear h1
  induction xs generalizing i with
  |nil=>simp[bH]
  |cons y ys ih=>
   cases i with
   |zero=>simp[bH]
   |succ i=>
    have:bH (y::ys)=y.cells++bH ys:=by simp[bH]
    rw[this,List.drop_succ_cons,show(i+1)*2=y.cells.length+i*2 by simp[bE.cells];omega,List.drop_length_add_append,ih i]
 rw[h1,h2];simp[bH]
structure Grew (w w':aE)(r:Option Nat):Prop where
 size:w.heap.size<=w'.heap.size
 block:∀b,b<w.heap.size->¬some b=r->w'.heap[b]? =w.heap[b]?
theorem ov_fn:OvFn aK 121 69 4 149 2:=by
 obtain⟨ie,jY,_,cM,_⟩:=U8;exact⟨⟨_,Tryz.func121,aH,rfl,aT,aT⟩,yE,⟨ie,jY,cM⟩⟩
variable {A:Option bC}{l:gN}
theorem zzN (H:e.d.Ok){gv c:Nat}{x:bE}(h:w.ownsRow lo 149 2 (.slice A n c) n (bH xs))(eF:lo<=w.heap.size)(hn:n<=1000)(hi:i<=n)(hv:w.heap[gv]? =some (.cells #[.int .i64 x.c,.int .i64 x.p] 149))(aU:(Q2 A n c).ownBlock≠some gv):
 CF e.d 111 #[.slice A n c,.int .i64 (i:Int),.slice (some ⟨gv,0,none⟩) 1 1] K l w (λK' l' y w'=>l'=l/\∃g2 c2,y=.slice (some ⟨g2,0,none⟩) (n+1) c2/\w'.ownsRow lo 149 2 (.slice (some ⟨g2,0,none⟩) (n+1) c2) (n+1) (bH (xs.take i++x::xs.drop i))/\Grew w w' (Q2 A n c).ownBlock/\(some g2=(Q2 A n c).ownBlock\/w.heap.size<=g2)):=by
 refine CF.of 95 zwY (.inr (.inl ⟨_,rfl⟩)) ?_;obtain⟨ie,jY,fG,cM,uZ⟩:=U8;have Y4:xs.length=n:=by have h1:=h.1;have h2:(bH xs).length=xs.length*2:=I2 bE.cells (s:=2) (λ_=>rfl) xs;omega
 have h1:(1:Nat)<=1:=bF 1;refine CW.sq H ?_;refine CW.pQ H zby (λzdL Q HQ=>?_);go_wp2;refine HQ.o _ _ ?_;clear HQ;refine CW.tape (s:=⟨[],K,l,_,w⟩) ?_ zdL 0;refine CW.sq H ?_;refine CW.rg H [0,1,2] ?_;refine CR.mv H (.slice A n c) ?_;refine CR.mv H (.int .i64 (i:Int)) ?_;refine CR.mv H (.slice (if c=i then A else A.map (·.add (i*2))) (n-i) (c-i)) ?_ (hx:=λT=>by exact zys rfl yE jY cM rfl rfl hi);refine CR.nil H ?_;refine CW.sq H ?_;refine CW.rg H [0,1,2] ?_;refine CR.mv H (.slice (some ⟨gv,0,none⟩) 1 1) ?_;refine CR.mv H (.int .i64 1) ?_ (hx:=λT=>by exact zpn rfl yE rfl);refine CR.mv H (.int .i64 1) ?_;refine CR.nil H ?_;refine CW.sq H ?_;refine CW.sq H ?_;refine CW.rg H [0,1] ?_;refine CR.mv H (.int .i64 1) ?_;refine CR.mg H (.bool false) ?_;refine CR.nil H ?_;refine CW.cd H false ?_;refine CW.sk H ?_;dsimp only;refine CW.sq H ?_;refine CW.rg H [0,1,2] ?_;refine CR.mv H (.slice A n c) ?_;refine CR.mv H (.int .i64 (n:Int)) ?_ (hx:=λT=>by exact zpn rfl yE rfl);refine CR.mv H (.int .i64 (n:Int)) ?_;refine CR.nil H ?_;refine CW.sq H ?_;refine CW.sq H ?_;refine CW.rg H [0,1,2] ?_;refine CR.mv H (.int .i64 (i:Int)) ?_;refine CR.mv H (.int .i64 (n:Int)) ?_;by_cases oY:i=n
 .
   subst oY;clear hi;refine nP ?_;refine CR.mg H (.bool true) ?_;refine CR.nil H ?_;refine CW.cd H true ?_;refine CW.sq H ?_;refine CW.rg H [0,1,2,3] ?_;refine CR.mv H (.slice A i c) ?_;refine CR.mv H (.slice (some ⟨gv,0,none⟩) 1 1) ?_;refine CR.op H zHH rfl aT (λT=>?_);obtain⟨q1,q2,w5,fM,cT,mL,fC⟩:=On (w:=Tt.tp w T 0) (t:=69) (ty:=69) zb9 yE rfl aH (cI h λb e=>rfl) (g:=gv) (cs:=#[.int .i64 x.c,.int .i64 x.p]) (news:=bE.cells x) hv rfl (m:=1) rfl aH Sk aC aH eF;refine⟨.slice (some ⟨q1,0,none⟩) (i+1) q2,w5,.inl (Yr rfl rfl rfl fM),?_⟩;simp only[cC,fO,dP,dQ];refine nP ?_;refine CR.mv H (.slice (some ⟨q1,0,none⟩) (i+1) q2) ?_;refine CR.nil H ?_;refine CW.rt H ?_;refine⟨.inr rfl,rfl,.slice (some ⟨q1,0,none⟩) (i+1) q2,rfl,rfl,q1,q2,rfl,?_,⟨mL.size,mL.block⟩,?_⟩
   .rw[znX,zP ztW,zoJ ztW,List.append_nil]
    exact cT
   .exact fC.imp id λhh=>hh q1 rfl
 .
   have aS:i<n:=aC;have zh6:(i:Int)<(n:Int):=aC;have zLn:¬(i:Int)=(n:Int):=aC;refine nP ?_;refine CR.mg H (.bool false) ?_;refine CR.nil H ?_;refine CW.cd H false ?_;refine CW.sk H ?_;dsimp only;obtain⟨hlen,Xe|⟨g,cap,cur,Bu,zbQ,hg,Wz,qF,gS,lT⟩⟩:=id h
   .exfalso;have:=Xe.2;omega
   injection Bu with e1 e2 e3;subst e1 e3;clear e2;have Ca:gv≠g:=λe=>aU (by rw[e];rfl);have mU:cur.toList.length=c*2:=by simpa using gS
   have la:((bH xs).take (i*2)).length=i*2:=by rw[sE,hlen];omega
   have lb:((bH xs).drop (i*2)).length=(n-i)*2:=by rw[yG,hlen];omega
   have Se:∀j u,(bH xs)[j]? =some u->cur[j]? =some u:=λj u hj=>by
    rw[<-lT,Z0] at hj;split at hj
    .rw[<-C1];exact hj
    .cases hj
   have zyF:cur.toList.take (i*2)=(bH xs).take (i*2):=by rw[<-lT,Qt];congr 1;omega
   have one:=Zh xs;refine CW.sq H ?_;refine CW.sq H ?_;refine CW.rg H [0,1,2,3,4,5] ?_;refine CR.mv H (.int .i64 (n:Int)) ?_;refine CR.mv H (.int .i64 1) ?_;refine CR.mv H (.int .i64 ((n+1:Nat):Int)) ?_ (hx:=λT=>by unfold aO;go_simp;first|(push_cast;exact Fw aC aC)|(push_cast;rw[Fw aC aC])|trace_state);refine CR.mv H (.slice (some ⟨g,0,none⟩) n c) ?_;refine CR.mg H (.int .i64 (c:Int)) ?_;by_cases zJH:n+1>c
   .
     have zHM:(c:Int)<((n+1:Nat):Int):=aC;refine nP ?_;refine CR.mv H (.bool true) ?_ (hx:=λT=>by unfold aO;go_simp;try omega);refine CR.nil H ?_;refine CW.cd H true ?_;refine CW.sq H ?_;refine CW.rg H [0,1,2,3,4,5,6,7,8,9] ?_;refine CR.mv H (.slice (some ⟨g,0,none⟩) n c) ?_;refine CR.mv H (.int .i64 (i:Int)) ?_;refine CR.mv H (.slice (some ⟨g,0,none⟩) i c) ?_ (hx:=λT=>by exact zul rfl yE jY cM rfl rfl rfl aC);refine CR.mv H (.int .i64 (n:Int)) ?_;refine CR.mv H (.int .i64 1) ?_;refine CR.mv H (.int .i64 ((n+1:Nat):Int)) ?_ (hx:=λT=>by unfold aO;go_simp;first|(push_cast;exact Fw aC aC)|trace_state);refine CR.mv H (.int .i64 (i:Int)) ?_;refine CR.mv H (.int .i64 ((n+1-i:Nat):Int)) ?_ (hx:=λT=>by unfold aO;go_simp;first|(rw[Fw aC aC];omega)|trace_state);refine CR.op H zDn rfl aT (λT=>?_);have hold:(Tc ie.size i (.slice (some ⟨g,0,none⟩) i c)).run aK (Tt.tp w T 0).drew=.ok ((bH xs).take (i*2)).toArray (Tt.tp w T 0).drew:=by
      have hl:=run_loadCells_list (P:=aK) (Tt.tp w T 0).drew ⟨g,0,none⟩ ((bH xs).take (i*2)) (λj u hj=>by
       rw[Lr,qH];have Vf:(bH xs)[j]? =some u:=by
        rw[Z0] at hj;split at hj
        .exact hj
        .cases hj
       exact(aI (w:=w) hg j).trans (Se j u Vf))
      rw[la] at hl;simp[Tc,cM,hl]
     have fM:=Lib.run_append_grow_zeros (P:=aK) (Tt.tp w T 0) 69 3 69 149 ie _ .i64 .i64 yE K9 jY fG (some ⟨g,0,none⟩) i c ((bH xs).take (i*2)) hold (n+1-i) aC aC aC aC (by rw[uZ];omega) (by rw[uZ];exact growslice_fits aC aC);obtain⟨c2,oR⟩:=aP (grownCap (Tt.tp w T 0) (i+(n+1-i)) c 149);have Cm:n+1<=c2:=by have:=grownCap_ge (Tt.tp w T 0) (i+(n+1-i)) c 149;omega
     have hle:c2<=maxLen:=by rw[oR];exact grownCap_le_maxLen _ _ _ _ Zi
     obtain⟨Gb,zgT⟩:=aP (((bH xs).take (i*2)).toArray++qJ (.agg #[.int .i64 0,.int .i64 0]:aF).cells (n+1-i)++qJ (.agg #[.int .i64 0,.int .i64 0]:aF).cells (c2-(i+(n+1-i))):Array aF);have ze7:Gb.toList.length=c2*2:=by
      have z1:(qJ (.agg #[.int .i64 0,.int .i64 0]:aF).cells (n+1-i)).size=(n+1-i)*2:=Vw _ _;have z2:(qJ (.agg #[.int .i64 0,.int .i64 0]:aF).cells (c2-(i+(n+1-i)))).size=(c2-(i+(n+1-i)))*2:=Vw _ _;rw[Dy,zgT,Xc,Xc,z1,z2,B6,la];omega
     have zlW:Gb.toList.take (i*2)=(bH xs).take (i*2):=by
      rw[zgT,Oo,Oo,Jz,F5 (by rw[la];exact bF _),zP (by rw[la];exact bF _)]
     rw[<-oR,<-zgT,show i+(n+1-i)=n+1 by omega] at fM;obtain⟨W1,cZ⟩:=aP ((Tt.tp w T 0).drew.alloc (.cells Gb 149));rw[<-cZ] at fM;have oO:W1.heap[w.heap.size]? =some (.cells Gb 149 (0,0)):=by rw[cZ];exact gP _ _
     have zp1:∀b,b<w.heap.size->W1.heap[b]? =w.heap[b]? :=λb hb=>by rw[cZ];exact Below.heap_alloc _ _ _ hb
     have dB:W1.heap.size=w.heap.size+1:=by rw[cZ];exact uD _ _
     have zu7:g<w.heap.size:=iZ hg;have zte:gv<w.heap.size:=iZ hv;refine⟨.slice (some ⟨w.heap.size,0,none⟩) (n+1) c2,W1,.inl (Yr rfl rfl rfl fM),?_⟩;simp only[cC,fO,dP,dQ];clear fM cZ zgT hold oR;refine nP ?_;refine CR.mv H (.slice (some ⟨w.heap.size,0,none⟩) (n+1) c2) ?_;refine CR.nil H ?_;refine CW.sq H ?_;refine CW.rg H [0,1,2,3,4] ?_;refine CR.mv H (.slice (some ⟨w.heap.size,0,none⟩) (n+1) c2) ?_;refine CR.mv H (.int .i64 (i:Int)) ?_;refine CR.mv H (.slice (some ⟨w.heap.size,i*2,none⟩) (n+1-i) (c2-i)) ?_ (hx:=λT=>by exact Uy rfl yE jY cM rfl rfl rfl aC aC rfl rfl rfl);refine CR.mv H (.slice (some ⟨gv,0,none⟩) 1 1) ?_;refine CR.op H zAW rfl aT (λT2=>?_);have nK:∀ty,(Dq #[69,69] ty #[.slice (some ⟨w.heap.size,i*2,none⟩) (n+1-i) (c2-i),.slice (some ⟨gv,0,none⟩) 1 1]).run aK (Tt.tp W1 T2 0)=.ok (goInt (zap 1 (n+1-i))) ((Tt.tp W1 T2 0).setRow w.heap.size (Gb.toList.take (i*2)++x.cells++Gb.toList.drop (i*2+(x.cells).length)).toArray):=λty=>
      zg9 (P:=aK) yE jY oO zpP (λj u hj=>by rw[Lr,qH];exact(aI (w:=W1) ((zp1 gv zte).trans hv) j).trans (by rw[<-C1];exact hj)) (by rw[<-Dy,ze7];show i*2+2<=_;omega) Sk
     obtain⟨uI,Rm⟩:=aP ((Gb.toList.take (i*2)++x.cells++Gb.toList.drop (i*2+(x.cells).length)).toArray:Array aF);rw[<-Rm] at nK;obtain⟨W2,oE⟩:=aP ((Tt.tp W1 T2 0).setRow w.heap.size uI);rw[<-oE] at nK;have zU:W2.heap[w.heap.size]? =some (.cells uI 149 (0,0)):=by rw[oE];exact Ls (Tt.tp W1 T2 0) w.heap.size Gb uI 149 (0,0) oO
     have zgN:∀b,b<w.heap.size->W2.heap[b]? =w.heap[b]? :=λb hb=>by rw[oE];exact(zhb _ _ _ _ aC).trans (zp1 b hb)
     have gQ:W2.heap.size=w.heap.size+1:=by rw[oE];simp[zgE];exact dB
     have yI:uI.toList.length=c2*2:=by rw[Rm];show(_++_++_:List aF).length=_;simp only[jH,sE,yG,ze7];show min (i*2) (c2*2)+2+(c2*2-(i*2+2))=_;omega
     refine⟨_,W2,.inl (zfX rfl rfl rfl (nK _)),?_⟩;simp only[cC,fO,dP,dQ];clear nK oE;refine CR.nil H ?_;refine CW.sq H ?_;refine CW.pQ H zby (λT3 Q HQ=>?_);have nK:∀ty,(Dq #[69,69] ty #[.slice (some ⟨w.heap.size,(i+1)*2,none⟩) (n+1-(i+1)) (c2-(i+1)),.slice (some ⟨g,i*2,none⟩) (n-i) (c-i)]).run aK (Tt.tp W2 T3 0).drew=.ok (goInt (zap (n-i) (n+1-(i+1)))) ((Tt.tp W2 T3 0).drew.setRow w.heap.size (uI.toList.take ((i+1)*2)++((bH xs).drop (i*2))++uI.toList.drop ((i+1)*2+(((bH xs).drop (i*2))).length)).toArray):=λty=>
      zg9 (P:=aK) yE jY zU (by rw[cM,lb,show n+1-(i+1)=n-i by omega];congr 1;exact(Nat.min_self _).symm) (λj u hj=>by rw[Lr];rw[Zk] at hj;exact(aI (w:=W2) ((zgN g zu7).trans hg) (i*2+j)).trans (Se _ _ hj)) (by rw[<-Dy,yI,lb];omega) (λu hu=>one u (zaz hu))
     obtain⟨Ju,zak⟩:=aP ((uI.toList.take ((i+1)*2)++((bH xs).drop (i*2))++uI.toList.drop ((i+1)*2+((bH xs).drop (i*2)).length)).toArray:Array aF);rw[<-zak] at nK;obtain⟨W3,sS⟩:=aP ((Tt.tp W2 T3 0).drew.setRow w.heap.size Ju);rw[<-sS] at nK;have Hq:W3.heap[w.heap.size]? =some (.cells Ju 149 (0,0)):=by rw[sS];exact Ls (Tt.tp W2 T3 0).drew w.heap.size uI Ju 149 (0,0) zU
     have zeS:∀b,b<w.heap.size->W3.heap[b]? =w.heap[b]? :=λb hb=>by rw[sS];exact(zhb _ _ _ _ aC).trans (zgN b hb)
     have zd4:W3.heap.size=w.heap.size+1:=by rw[sS];simp[zgE];exact gQ
     obtain⟨To,Tb⟩:=ins_up (c0:=Gb.toList) (a:=(bH xs).take (i*2)) (b:=(bH xs).drop (i*2)) (xx:=x.cells) (c1:=uI.toList) (c2:=Ju.toList) (by rw[la];exact zlW) (by rw[la,lb,ze7];show i*2+2+_<=_;omega) (by rw[Rm,la]) (by rw[zak,la,show i*2+x.cells.length=(i+1)*2 by show i*2+2=_;omega]);rw[ze7] at Tb;rw[la,lb,show i*2+x.cells.length+(n-i)*2=(n+1)*2 by show i*2+2+_=_;omega,<-znX] at To;have oZ:W3.ownsRow lo 149 2 (.slice (some ⟨w.heap.size,0,none⟩) (n+1) c2) (n+1) (bH (xs.take i++x::xs.drop i)):=⟨by rw[<-To,sE,Tb];omega,.inr ⟨w.heap.size,c2,Ju,rfl,eF,Hq,Cm,hle,by rw[<-Dy];exact Tb,To⟩⟩;refine wp_IN11 (Tt.tp W2 T3 0) W3 w.heap.size (n+1) c2 g n c i _ rfl rfl rfl rfl rfl ⟨aC,aC,aC,aC,aC⟩ (nK _) rfl ?_;rw[Go.Mt.Bn,zx4];simp only[Go.Mt.xN,dP,dQ,zjG,lIN11,Du,Ee];show Q .normal _ W3;refine HQ.o _ _ ?_;clear HQ nK sS;refine CW.sq H ?_;refine CW.pQ H zby (λT4 Q HQ=>?_);go_wp2;refine HQ.o _ _ ?_;clear HQ;refine CW.rt H ?_;exact⟨.inr rfl,rfl,.slice (some ⟨w.heap.size,0,none⟩) (n+1) c2,rfl,rfl,w.heap.size,c2,rfl,cI oZ λb e=>rfl,⟨by show _<=W3.heap.size;omega,λb hb _=>zeS b hb⟩,.inr (bF _)⟩
   .
     have zHM:¬(c:Int)<((n+1:Nat):Int):=aC;refine nP ?_;refine CR.mv H (.bool false) ?_ (hx:=λT=>by unfold aO;go_simp;omega);refine CR.nil H ?_;refine CW.cd H false ?_;refine CW.sk H ?_;dsimp only;refine CW.sq H ?_;refine CW.rg H [0,1,2,3,4,5] ?_;refine CR.mv H (.slice (some ⟨g,0,none⟩) n c) ?_;refine CR.mv H (.int .i64 (n:Int)) ?_;refine CR.mv H (.int .i64 1) ?_;refine CR.mv H (.int .i64 ((n+1:Nat):Int)) ?_ (hx:=λT=>by unfold aO;go_simp;first|(push_cast;exact Fw aC aC)|trace_state);refine CR.mv H (.slice (some ⟨g,0,none⟩) (n+1) c) ?_ (hx:=λT=>by exact zul rfl yE jY cM rfl rfl rfl aC);refine CR.mv H (.slice (some ⟨g,0,none⟩) (n+1) c) ?_;refine CR.nil H ?_;refine CW.sq H ?_;refine CW.sq H ?_;refine CW.rg H [0,1,2,3,4,5,6,7] ?_;refine CR.mv H (.slice (some ⟨gv,0,none⟩) 1 1) ?_;refine CR.mv H (.slice (some ⟨g,0,none⟩) (n+1) c) ?_;refine CR.mv H (.int .i64 (i:Int)) ?_;refine CR.mv H (.int .i64 1) ?_;refine CR.mv H (.int .i64 ((i+1:Nat):Int)) ?_ (hx:=λT=>by unfold aO;go_simp;first|(push_cast;exact Fw aC aC)|trace_state);refine CR.mv H (.slice (some ⟨g,(i+1)*2,none⟩) (n+1-(i+1)) (c-(i+1))) ?_ (hx:=λT=>by exact Uy rfl yE jY cM rfl rfl rfl aC aC rfl rfl rfl);refine CR.overlaps H (A:=⟨gv,0,none⟩) (B:=⟨g,(i+1)*2,none⟩) ov_fn zyK rfl rfl rfl rfl rfl rfl Ca hv hg (by rw[gS];omega) ?_;simp only[cC,fO,dP,dQ];refine nP ?_;refine CR.mg H (.bool true) ?_;refine CR.nil H ?_;refine CW.cd H true ?_;refine CW.sq H ?_;refine CW.pQ H zby (λT3 Q HQ=>?_);have zu7:g<w.heap.size:=iZ hg;have zte:gv<w.heap.size:=iZ hv;have nK:∀ty,(Dq #[69,69] ty #[.slice (some ⟨g,(i+1)*2,none⟩) (n+1-(i+1)) (c-(i+1)),.slice (some ⟨g,i*2,none⟩) (n+1-i) (c-i)]).run aK (Tt.tp w T3 0).drew=.ok (goInt (zap (n+1-i) (n+1-(i+1)))) ((Tt.tp w T3 0).drew.setRow g (cur.toList.take ((i+1)*2)++((bH xs).drop (i*2))++cur.toList.drop ((i+1)*2+(((bH xs).drop (i*2))).length)).toArray):=λty=>
      zg9 (P:=aK) yE jY hg (by rw[cM,lb,show n+1-(i+1)=n-i by omega];congr 1;exact(Nat.min_eq_right aC).symm) (λj u hj=>by rw[Lr];rw[Zk] at hj;exact(aI (w:=w) hg (i*2+j)).trans (Se _ _ hj)) (by rw[<-Dy,mU,lb];omega) (λu hu=>one u (zaz hu))
     obtain⟨uI,Rm⟩:=aP ((cur.toList.take ((i+1)*2)++((bH xs).drop (i*2))++cur.toList.drop ((i+1)*2+((bH xs).drop (i*2)).length)).toArray:Array aF);rw[<-Rm] at nK;obtain⟨W3,sS⟩:=aP ((Tt.tp w T3 0).drew.setRow g uI);rw[<-sS] at nK;have Hq:W3.heap[g]? =some (.cells uI 149 (0,0)):=by rw[sS];exact Ls (Tt.tp w T3 0).drew g cur uI 149 (0,0) hg
     have zeS:∀b,b≠g->W3.heap[b]? =w.heap[b]? :=λb hb=>by rw[sS];exact zhb _ _ _ _ hb
     have zd4:W3.heap.size=w.heap.size:=by rw[sS];simp[zgE];rfl
     have yI:uI.toList.length=c*2:=by rw[Rm];show(_++_++_:List aF).length=_;simp only[jH,sE,yG,mU,hlen];omega
     refine wp_IN15 (Tt.tp w T3 0) W3 g (n+1) c i _ rfl rfl rfl rfl ⟨aC,aC,aC,aC,aC⟩ (nK _) rfl ?_;rw[Go.Mt.Bn,zq2];simp only[Go.Mt.xN,dP,dQ,zjl,lIN15,Du,Ee];show Q .normal _ W3;refine HQ.o _ _ ?_;clear HQ nK sS;refine CW.sq H ?_;refine CW.rg H [0,1,2,3,4] ?_;refine CR.mv H (.slice (some ⟨g,0,none⟩) (n+1) c) ?_;refine CR.mv H (.int .i64 (i:Int)) ?_;refine CR.mv H (.slice (some ⟨g,i*2,none⟩) (n+1-i) (c-i)) ?_ (hx:=λT=>by exact Uy rfl yE jY cM rfl rfl rfl aC aC rfl rfl rfl);refine CR.mv H (.slice (some ⟨gv,0,none⟩) 1 1) ?_;refine CR.op H zDl rfl aT (λT2=>?_);have nK:∀ty,(Dq #[69,69] ty #[.slice (some ⟨g,i*2,none⟩) (n+1-i) (c-i),.slice (some ⟨gv,0,none⟩) 1 1]).run aK (Tt.tp W3 T2 0)=.ok (goInt (zap 1 (n+1-i))) ((Tt.tp W3 T2 0).setRow g (uI.toList.take (i*2)++x.cells++uI.toList.drop (i*2+(x.cells).length)).toArray):=λty=>
      zg9 (P:=aK) yE jY Hq zpP (λj u hj=>by rw[Lr,qH];exact(aI (w:=W3) ((zeS gv Ca).trans hv) j).trans (by rw[<-C1];exact hj)) (by rw[<-Dy,yI];show i*2+2<=_;omega) Sk
     obtain⟨Ju,zak⟩:=aP ((uI.toList.take (i*2)++x.cells++uI.toList.drop (i*2+(x.cells).length)).toArray:Array aF);rw[<-zak] at nK;obtain⟨W2,oE⟩:=aP ((Tt.tp W3 T2 0).setRow g Ju);rw[<-oE] at nK;have Fa:W2.heap[g]? =some (.cells Ju 149 (0,0)):=by rw[oE];exact Ls (Tt.tp W3 T2 0) g uI Ju 149 (0,0) Hq
     have zgN:∀b,b≠g->W2.heap[b]? =w.heap[b]? :=λb hb=>by rw[oE];exact(zhb _ _ _ _ hb).trans (zeS b hb)
     have gQ:W2.heap.size=w.heap.size:=by rw[oE];simp[zgE];exact zd4
     obtain⟨To,Tb⟩:=zEW (c0:=cur.toList) (a:=(bH xs).take (i*2)) (b:=(bH xs).drop (i*2)) (xx:=x.cells) (c1:=uI.toList) (c2:=Ju.toList) (by rw[la];exact zyF) (by rw[la,lb,mU];show i*2+2+_<=_;omega) (by rw[Rm,la,show i*2+x.cells.length=(i+1)*2 by show i*2+2=_;omega]) (by rw[zak,la]);rw[mU] at Tb;rw[la,lb,show i*2+x.cells.length+(n-i)*2=(n+1)*2 by show i*2+2+_=_;omega,<-znX] at To;have oZ:W2.ownsRow lo 149 2 (.slice (some ⟨g,0,none⟩) (n+1) c) (n+1) (bH (xs.take i++x::xs.drop i)):=⟨by rw[<-To,sE,Tb];omega,.inr ⟨g,c,Ju,rfl,zbQ,Fa,aC,qF,by rw[<-Dy];exact Tb,To⟩⟩;refine⟨_,W2,.inl (zfX rfl rfl rfl (nK _)),?_⟩;simp only[cC,fO,dP,dQ];clear nK oE;refine CR.nil H ?_;refine CW.sq H ?_;refine CW.pQ H zby (λT4 Q HQ=>?_);go_wp2;refine HQ.o _ _ ?_;clear HQ;refine CW.rt H ?_;exact⟨.inr rfl,rfl,.slice (some ⟨g,0,none⟩) (n+1) c,rfl,rfl,g,c,rfl,cI oZ λb e=>rfl,⟨by show _<=W2.heap.size;omega,λb hb hn=>zgN b λe=>hn (by rw[e];rfl)⟩,.inl rfl⟩
section
variable {P:bZ}{w:aE}
theorem zxP {ops:Array aZ}{rest:List aZ}{o:aZ}{a:vN}{Q:oF->vN->aE->Prop}(Fe:o.guard=none)(x y:cK)(t t2:aM)(ho:o.op=.binOp .neq t x y t2){d:ChanDir}{e:aM}(hu:P.underlying t=some (.chan d e))(p q:Option Nat)(hx:a.eval x=.chan p)(hy:a.eval y=.chan q){r:Bool}(hr:(!(p==q))=r)
 (h:wpList P ops Q rest (a.put o.dst (.bool r)) w):wpList P ops Q (o::rest) a w:=by
 subst hr;refine wpList_plain Fe λK hK=>?_;unfold aZ.wp;simp[aO,eqGuard,binOp,ho,hx,hy,zny hu];exact hK _ _ h
end
def y6 (xs:List bE)(p:Int):Nat:=(xs.takeWhile λx=>decide (p<=x.p)).length
def zfU (xs:List bE)(p:Int):y6 xs p<=xs.length:=(zvz _).length_le
theorem zBu (xs:List bE)(c:bE):uA xs c=xs.take (y6 xs c.p)++c::xs.drop (y6 xs c.p):=by
 unfold uA y6;congr 1
 .exact(List.prefix_iff_eq_take.1 (zvz _))
 .congr 1
  have h:=List.takeWhile_append_dropWhile (p:=λx:bE=>decide (c.p<=x.p)) (l:=xs);generalize xs.takeWhile (λx=>decide (c.p<=x.p))=a at*;generalize xs.dropWhile (λx=>decide (c.p<=x.p))=b at*;subst h;simp
variable {p:Int}
theorem zBU :∀{j:Nat} {x:bE},j<y6 xs p->xs[j]? =some x->p<=x.p:=by
 unfold y6
 induction xs with
 |nil=>intro j x hj;simp at hj
 |cons y ys ih=>
  intro j x hj hx;rw[zqw] at hj;split at hj
  .rename_i hy
   cases j with
   |zero=>simp at hx;subst hx;simpa using hy
   |succ j=>exact ih zal (by simpa using hx)
  .simp at hj
theorem zyy :∀{j:Nat} {x:bE},y6 xs p=j->xs[j]? =some x->x.p<p:=by
 unfold y6
 induction xs with
 |nil=>intro j x hj hx;simp at hx
 |cons y ys ih=>
  intro j x hj hx;rw[zqw] at hj;split at hj
  .rename_i hy
   cases j with
   |zero=>simp at hj
   |succ j=>exact ih zal (by simpa using hx)
  .rename_i hy
   simp at hj;subst hj;simp at hx;subst hx;simpa using hy
def ziv:Go.Code:=(zpL.body).getD .skip
def rRI9:Go.Code:=match ziv with| .seq _ (.seq _ (.seq _ (.seq _ (.seq _ (.seq _ (.seq (.block _ (.loop (.seq (.seq (a) _) _))) _))))))=>a|_=>.skip
def rRI11:Go.Code:=match ziv with| .seq _ (.seq _ (.seq _ (.seq _ (.seq _ (.seq _ (.seq _ (.seq (a) _)))))))=>a|_=>.skip
def zeH:Array Oper:=match rRI11 with| .region _ ops _=>ops|_=>#[]
abbrev oRI11_9:Oper:=aV zeH 9 (some 72) (.buildSlice 69 1 #[(0,.tmp 71)])
def zBw:zeH[9]? =some oRI11_9:=rfl
abbrev zEd:Oper:=aV zeH 13 none (.store 69 (.tmp 75) (.tmp 73))
def zGd:zeH[13]? =some zEd:=rfl
def Cn:wF aK 101:=⟨_,zxm,.inr (.inl ⟨_,rfl⟩)⟩
section
variable {Q:oF->vN->aE->Prop}{u3 u4 u5 u6 u7 u9 gV gE gD gG gF gC u16 iE kN kT jQ iG iJ gY iH iD iF iL iA iM jJ jK u32 iN iB iC iP kW lC gZ iO iK jE iW iY iR iS jB iV jC jD iT nA nC lG lL kV kZ kU kY kM kD j5 kC u64 j7 kH jZ kG lD kL kR kE zdx zdb zcD zcy zdz za8 zbx:aF}{w:aE}
theorem wp_RI9 {lo hb n cW m:Nat}{AW:Option bC}{xs:List bE}{c:bE}(h7:w.cell? ⟨hb,7,none⟩=some (.slice AW n cW))(hs:cG w lo w.heap.size 2 AW n cW (bH xs))(hn:xs.length=n)(Pt:n<=1000)(hm:m<=y6 xs c.p)(hp:0<=c.p/\c.p<=9)(h:∀zrI zxQ zol zvM z46 zuY zv9 z49 zv6 z51 zv8 z53 zpR zxp zt0 zqB zsq z59,Q .normal ⟨#[.pointer (some ⟨hb,0,none⟩),.int .i64 c.c,.int .i64 c.p,u3,u4,u5,u6,u7,.int .i64 (m:Int),u9,gV,gE,gD,gG,gF,gC,u16,iE,kN,kT,jQ,iG,iJ,gY,iH,iD,iF,iL,iA,iM,jJ,jK,u32,iN,iB,iC,iP,kW,lC,gZ,iO,iK,zrI,zxQ,zol,zvM,z46,zuY,zv9,z49,zv6,z51,zv8,z53,zpR,zxp,zt0,zqB,zsq,z59,.bool (decide (m<y6 xs c.p)),kD,j5,kC,u64,j7,kH,jZ,kG,lD,kL,kR,kE,zdx,zdb,zcD,zcy,zdz,za8,zbx],[]⟩ w):
 Code.wp aK rRI9 Q ⟨#[.pointer (some ⟨hb,0,none⟩),.int .i64 c.c,.int .i64 c.p,u3,u4,u5,u6,u7,.int .i64 (m:Int),u9,gV,gE,gD,gG,gF,gC,u16,iE,kN,kT,jQ,iG,iJ,gY,iH,iD,iF,iL,iA,iM,jJ,jK,u32,iN,iB,iC,iP,kW,lC,gZ,iO,iK,jE,iW,iY,iR,iS,jB,iV,jC,jD,iT,nA,nC,lG,lL,kV,kZ,kU,kY,kM,kD,j5,kC,u64,j7,kH,jZ,kG,lD,kL,kR,kE,zdx,zdb,zcD,zcy,zdz,za8,zbx],[]⟩ w:=by
 have hle:=zfU xs c.p;have zux:=aD (show∀(j:Nat) (x:bE),j<y6 xs c.p->xs[j]? =some x->c.p<=x.p from λj x hj hx=>zBU hj hx);obtain⟨pl,oC⟩:=aP (y6 xs c.p);rw[<-oC] at hm h hle zux;have zBa:=aD oC;have Rh:=aD hn;have HQ:=aD h;simp only[rRI9,ziv,zpL,Br];by_cases aS:m<n
 .obtain⟨bW,oW,x,hA,kF,eK,e0,e1⟩:=zem hs aS
  subst hA;have i0:(0:Int)<=(m:Int):=aC;have i1:(m:Int)<(n:Int):=aC;have HX:=aD eK;have HS:=aD hs;by_cases zHD:c.p<=x.p
  .have Pe:m<pl:=by
    rcases qX m pl with hh|hh
    .exact hh
    .have:m=pl:=aC
     subst this;exact absurd (zyy zBa.o.symm HX.o) aC
   go_wp2;have:=HQ.o;simp only[Pe,decide_true] at this;exact this _ _ _ _ _ _ _ _ _ _ _ _ _ _ _ _ _ _
  .have Pe:¬m<pl:=λhh=>zHD (zux.o m x hh HX.o)
   go_wp2;have:=HQ.o;simp only[Pe,decide_false] at this;exact this _ _ _ _ _ _ _ _ _ _ _ _ _ _ _ _ _ _
 .have zFR:m=n:=by have:=Rh.o;omega
  subst zFR;have Pe:¬m<pl:=by have:=Rh.o;omega
  have HS:=aD hs;go_wp2;have:=HQ.o;simp only[Pe,decide_false] at this;exact this _ _ _ _ _ _ _ _ _ _ _ _ _ _ _ _ _ _
end
variable {d:nU}
theorem cf_ring (H:e.d.Ok){c:bE}(h:bG w lo hb v d)(mr:fY v d)(hi:yZ d)(eF:lo<=w.heap.size)(hp:0<=c.p/\c.p<=9):
 CF e.d 101 #[.pointer (some ⟨hb,0,none⟩),.int .i64 c.c,.int .i64 c.p] K (.wk e.qs k) w (λK' l' y w'=>zaQ e.qs lo hb v d w k 0 (pE d.r c) l' y w'):=by
 refine CF.of 80 zxm (.inr (.inl ⟨_,rfl⟩)) ?_;have A0:=aD h;have T0:=aD (bO.refl (hb:=hb) (v:=v) (w:=w));have HI:=aD hi;have MR:=aD mr;have Mk:=aD eF;have nX:=hi.sm.nb;have Mn:=hi.sm.nw;have Cz:=hi.sm.nr;obtain⟨yS,zjb⟩:=hp;clear h mr hi eF;refine CW.sq H (CW.p0 H Cn A0 T0 λw1 dW A1 T1=>?_);obtain⟨AB,cB,Mf,zbd⟩:=Hx A1.o.B aH;have At:=aD Mf;clear Mf zbd;obtain⟨kn,tG⟩:=aP (((hY d.r.recs c.c).isSome||(uC d.r.back c.c).isSome));have fE:=aD tG;clear tG;refine CW.sq H ?_;refine CW.sq H ?_
 cases fC:hY d.r.recs c.c with
 |some i=>
  obtain⟨x,hx,Jk,sK⟩:=zA fC;obtain⟨gL,Ol,hO,hM,hC⟩:=MR.o.onLine HI.o hx sK Jk;have U1:=aD hO;have cJ:=aD (show pE d.r c=(d.r,[107,110,111,119,110]) by unfold pE;rw[fC];rfl);clear hx Jk sK Ol hO hM hC fC;refine CW.pW H Cn A1 T1 λw2 Q eG A2 T2 HQ=>?_;have k5:w2.cell? ⟨hb,5,none⟩=some (.map (some v.mO)):=aI A2.o.blk 5;have k8:w2.cell? ⟨hb,8,none⟩=some (.slice AB d.r.back.length cB):=by
   have:=aI A2.o.blk 8;rw[this,<-At.o];rfl
  have Fg:=aD (show cG w2 lo w2.heap.size 1 AB d.r.back.length cB (fF (d.r.back.map bE.c)) by have:=A2.o.B;rw[At.o] at this;exact zY this aH);have Vg:=aD A2.o.O
  go_wp2_with (at_lookup;refine zuA _ rfl (.tmp 12) (.tmp 13) 67 false rfl 84 Q1 K9 (.chan none) (zax _) v.mO c.c v.pO rfl rfl Vg.o ?_;rw[U1.o];simp only[Br,zqi,iX,if_false];refine zxP rfl (.tmp 14) (.const (.chan none)) 84 84 rfl Q6 (some gL) none rfl rfl (r:=true) rfl ?_)
  refine HQ.o _ _ ?_;clear HQ;clear k5 k8;refine CW.cd H true ?_;refine CW.sq H (CW.p0 H Cn A2 T2 λw3 iU A3 T3=>?_);refine CW.rt H ?_;refine⟨.inr rfl,rfl,.string ⟨#[107,110,111,119,110]⟩,rfl,⟨rfl,by rw[cJ.o],v,?_,?_,?_,Aj.rf v⟩⟩
  .rw[cJ.o];exact A3.o
  .rw[cJ.o];exact MR.o
  .exact T3.o
 |none=>
  have U1:=aD (MR.o.offLine fC);have vB:=aD fC;clear fC;refine CW.pW H Cn A1 T1 λw2 Q eG A2 T2 HQ=>?_;have k5:w2.cell? ⟨hb,5,none⟩=some (.map (some v.mO)):=aI A2.o.blk 5;have k8:w2.cell? ⟨hb,8,none⟩=some (.slice AB d.r.back.length cB):=by
   have:=aI A2.o.blk 8;rw[this,<-At.o];rfl
  have Fg:=aD (show cG w2 lo w2.heap.size 1 AB d.r.back.length cB (fF (d.r.back.map bE.c)) by have:=A2.o.B;rw[At.o] at this;exact zY this aH);have Vg:=aD A2.o.O
  go_wp2_with (first
   |(at_lookup;refine zuA _ rfl (.tmp 12) (.tmp 13) 67 false rfl 84 Q1 K9 (.chan none) (zax _) v.mO c.c v.pO rfl rfl Vg.o ?_;rw[U1.o];simp only[Br,zqi,iX,if_false];refine zxP rfl (.tmp 14) (.const (.chan none)) 84 84 rfl Q6 (none) none rfl rfl (r:=false) rfl ?_)
   |(go_at_call 108;refine(zBI lo w2.heap.size d.r.back.length cB AB (d.r.back.map bE.c) c.c w2 Fg.o aC).mono ?_;rintro en wz ⟨rfl,tK⟩;obtain rfl:=tK;rw[ztM]))
  refine HQ.o _ _ ?_;clear HQ;clear k8;have zJR:=A2
  cases J8:uC d.r.back c.c with
  |some p=>
   have cJ:=aD (show pE d.r c=(d.r,[107,110,111,119,110]) by unfold pE;rw[J8,vB.o];rfl);clear J8;refine CW.cd H true ?_;refine CW.sq H (CW.p0 H Cn A2 T2 λw3 iU A3 T3=>?_);refine CW.rt H ?_;refine⟨.inr rfl,rfl,.string ⟨#[107,110,111,119,110]⟩,rfl,⟨rfl,by rw[cJ.o],v,?_,?_,?_,Aj.rf v⟩⟩
   .rw[cJ.o];exact A3.o
   .rw[cJ.o];exact MR.o
   .exact T3.o
  |none=>
   have zsb:=aD J8;clear J8;refine CW.cd H false ?_;refine CW.sk H ?_;dsimp only;have zbZ:=HI.o.nln;have zbU:d.ln.length<=100:=by have:=(Cu HI.o.R.off).2.1;omega
   have zaB:=aD (λW (a:bG W lo hb v d)=>zqe a MR.o zbZ zbU);clear zbZ zbU fE;refine CW.sq H (CW.pW H Cn A2 T2 λw3 Q iU A3 T3 HQ=>?_)
   go_wp2_with (go_at_call 109;refine(zaB.o _ A3.o).mono ?_;rintro en wy ⟨rfl,zzp⟩;obtain rfl:=zzp)
   refine HQ.o _ _ ?_;clear HQ;clear zaB;refine CW.sq H ?_
   cases fZ:oT d.r.o d.r.recs with
   |nil=>
    rw[zv7 fZ];have cJ:=aD (show pE d.r c=({d.r with back:=d.r.back++[c]},[98,117,115,121]) by unfold pE;rw[zsb.o,vB.o];simp only[fZ];rfl);clear fZ;refine CW.sq H (CW.p0 H Cn A3 T3 λw4 lY A4 T4=>?_);refine CW.cd H true ?_;refine CW.sq H (CW.pW H Cn A4 T4 λw5 Q lB A5 T5 HQ=>?_);have k8:w5.cell? ⟨hb,8,none⟩=some v.sB:=aI A5.o.blk 8;obtain⟨OC,zbG⟩:=aP (.cells #[.int .i64 c.c] 3:Obj);have a5:=A5.o.alloc OC;obtain⟨q1,q2,w6,fM,cT,mL,fC⟩:=On (t:=38) (ty:=38) Vs Xz rfl aH a5.B (g:=w5.heap.size) (cs:=#[.int .i64 c.c]) (news:=[.int .i64 c.c]) (by rw[zbG];exact gP _ _) rfl (m:=1) rfl aH Mp aC aH (by have:=T5.o.size;have:=Mk.o;simp;omega);obtain⟨a6,t6⟩:=a5.putB mL (xs:=d.r.back++[c]) (by have e:fF ((d.r.back++[c]).map bE.c)=fF (d.r.back.map bE.c)++[.int .i64 c.c]:=(by simp[fF]);rw[e];exact cT) aN fC;have A6:=aD a6;have T6:=aD (T5.o.trans ((bO.below (eT (fW _ w5) OC)).trans (⟨t6.size,t6.block,t6.moved⟩:bO hb v (w5.alloc OC) _ _)));have Mi:w6.heap[hb]? =some (Nd v _):=(a5.other (j:=6) (c:=8) (x:=v.sB) rfl aH mL (.slice (some ⟨q1,0,none⟩) (d.r.back.length+1) q2)).2.trans a5.blk;have zpe:=aI Mi 8;have kf:=eW Mi 8;have AP:=aD fM;obtain⟨A8,c8,zdG,_⟩:=Hx A5.o.B aH;have Ow:w5.cell? ⟨hb,8,none⟩=some (.slice A8 d.r.back.length c8):=by rw[k8,zdG]
    have zBT:w6.cell? ⟨hb,8,none⟩=some (.slice A8 d.r.back.length c8):=by rw[zpe,<-zdG];rfl
    rw[zdG,zbG] at AP;clear cT mL fC a6 t6 a5 Mi fM k8 zpe zdG
    go_wp2_with (at_builtin;refine zq5 rfl (.tmp 32) (.tmp 34) 38 38 rfl (.slice A8 d.r.back.length c8) (.slice (some ⟨w5.heap.size,0,none⟩) 1 1) (.slice (some ⟨q1,0,none⟩) (d.r.back.length+1) q2) rfl rfl AP.o ?_)
    refine HQ.o _ _ ?_;clear HQ;clear Ow zBT kf AP;clear A5 T5;obtain⟨zKn,zwr⟩:∃y,y=w6.setCell ⟨hb,8,none⟩ (.slice (some ⟨q1,0,none⟩) (d.r.back.length+1) q2):=⟨_,rfl⟩;rw[<-zwr] at A6 T6⊢;clear zwr;refine CW.sq H (CW.p0 H Cn A6 T6 λw7 rM A7 T7=>?_);refine CW.rt H ?_;refine⟨.inr rfl,rfl,.string ⟨#[98,117,115,121]⟩,rfl,⟨rfl,by rw[cJ.o],{v with sB:=.slice (some ⟨q1,0,none⟩) (d.r.back.length+1) q2},?_,?_,?_,⟨rfl,rfl,rfl,rfl⟩⟩⟩
    .rw[cJ.o];exact A7.o
    .rw[cJ.o];refine fY.of MR.o ?_ ?_ ?_ ?_ ?_<;>rfl
    .exact T7.o
   |cons lf ls=>
    obtain⟨i,gL,vY⟩:=HI.o.free fZ;have uP:Js d=(i:Int):=by rw[zrk fZ,vY.l];omega
    rw[uP];have cJ:=aD (show pE d.r c=({d.r with recs:=d.r.recs++[⟨c.c,(i:Int)+1,0,d.r.clk,-1,-1,eJ⟩],wait:=uA d.r.wait c},[108,105,110,101,32]++gM ((i:Int)+1)) by unfold pE;rw[zsb.o,vB.o];simp only[fZ,vY.l];rfl);have FA:=aD vY;have zzZ:=vY.i6;have zu1:i<=50:=by have:=(zgo HI.o.R.off (l:=lf) (by rw[fZ];simp));have:=vY.l;omega
    clear fZ vY uP;refine CW.sq H (CW.pW H Cn A3 T3 λw4 Q lY A4 T4 HQ=>?_);have i0:(0:Int)<=(i:Int):=aC;go_wp2;refine HQ.o _ _ ?_;clear HQ;refine CW.cd H false ?_;refine CW.sk H ?_;dsimp only;refine CW.sq H (CW.pW H Cn A4 T4 λw5 Q lB A5 T5 HQ=>?_);have zB9:lo<=w5.heap.size:=eH Mk.o T5.o.size
    go_wp2_with (go_at_call 110;refine(zrn A5.o zB9 FA.o.g aC Cz c.c).mono ?_;rintro en w6 ⟨rfl,v6,a6,t6,p6⟩;have A6:=aD a6;have T6:=aD (T5.o.trans t6);have P6:=aD p6;clear a6 t6 p6)
    refine HQ.o _ _ ?_;clear HQ;clear A5 T5;have zGj:=aD (fY.of (v':=v6) (d':={d with r:={d.r with recs:=d.r.recs++[⟨c.c,(i:Int)+1,0,d.r.clk,-1,-1,eJ⟩]}}) (MR.o.more HI.o.ndl FA.o.g FA.o.un vB.o (o:=0) (hh:=-1) (tt:=-1) (clk:=d.r.clk)) P6.o.1 P6.o.2.1 P6.o.2.2.1 rfl rfl);have zJI:lo<=w6.heap.size:=eH Mk.o T6.o.size;refine CW.sq H (CW.p0 H Cn A6 T6 λw7 rM A7 T7=>?_);obtain⟨AW,cW,Ku,zGV⟩:=Hx A7.o.W aH;have Bs:=aD (show v6.sW=.slice AW d.r.wait.length cW from Ku);clear Ku zGV;refine CW.sq H ?_;refine CW.block H ?_;refine CW.loop H (λnn s=>∃(m:Nat) (wz:aE) (u3 u4 u5 u6 u9 gV gE gD gG gF gC u16 iE kN kT jQ iG iJ gY iH iD iF iL iA iM jJ jK u32 iN iB iC iP kW lC gZ iO iK jE iW iY iR iS jB iV jC jD iT nA nC lG lL kV kZ kU kY kM kD j5 kC u64 j7 kH jZ kG lD kL kR kE zdx zdb zcD zcy zdz za8 zbx:aF),s=⟨[],K,.wk e.qs k,#[.pointer (some ⟨hb,0,none⟩),.int .i64 c.c,.int .i64 c.p,u3,u4,u5,u6,.int .i64 (i:Int),.int .i64 (m:Int),u9,gV,gE,gD,gG,gF,gC,u16,iE,kN,kT,jQ,iG,iJ,gY,iH,iD,iF,iL,iA,iM,jJ,jK,u32,iN,iB,iC,iP,kW,lC,gZ,iO,iK,jE,iW,iY,iR,iS,jB,iV,jC,jD,iT,nA,nC,lG,lL,kV,kZ,kU,kY,kM,kD,j5,kC,u64,j7,kH,jZ,kG,lD,kL,kR,kE,zdx,zdb,zcD,zcy,zdz,za8,zbx],wz⟩/\m<=y6 d.r.wait c.p/\nn=y6 d.r.wait c.p-m/\bG wz lo hb v6 {d with r:={d.r with recs:=d.r.recs++[⟨c.c,(i:Int)+1,0,d.r.clk,-1,-1,eJ⟩]}}/\bO hb v w v6 wz) (λnn s hs=>?_) (n:=y6 d.r.wait c.p) ?_
    rotate_left
    .exact⟨0,w7,_,_,_,_,_,_,_,_,_,_,_,_,_,_,_,_,_,_,_,_,_,_,_,_,_,_,_,_,_,_,_,_,_,_,_,_,_,_,_,_,_,_,_,_,_,_,_,_,_,_,_,_,_,_,_,_,_,_,_,_,_,_,_,_,_,_,_,_,_,_,_,_,_,_,_,rfl,lP _,rfl,A7.o,T7.o⟩
    .obtain⟨m,wz,u3,u4,u5,u6,u9,gV,gE,gD,gG,gF,gC,u16,iE,kN,kT,jQ,iG,iJ,gY,iH,iD,iF,iL,iA,iM,jJ,jK,u32,iN,iB,iC,iP,kW,lC,gZ,iO,iK,jE,iW,iY,iR,iS,jB,iV,jC,jD,iT,nA,nC,lG,lL,kV,kZ,kU,kY,kM,kD,j5,kC,u64,j7,kH,jZ,kG,lD,kL,kR,kE,zdx,zdb,zcD,zcy,zdz,za8,zbx,rfl,Pe,C5,az,tz⟩:=hs
     have A8:=aD az;have T8:=aD tz;clear az tz A7 T7;refine CW.sq H ?_;refine CW.sq H ?_;refine CW.pQ H Cn (λzj0 Q HQ=>?_);obtain⟨w9,Jy⟩:=aP (Tt.tp wz zj0 0);have A9:=aD (show bG w9 lo hb v6 {d with r:={d.r with recs:=d.r.recs++[⟨c.c,(i:Int)+1,0,d.r.clk,-1,-1,eJ⟩]}} by rw[Jy];exact A8.o.tp zj0 0);have T9:=aD (show bO hb v w v6 w9 by rw[Jy];exact T8.o.tp zj0 0)
     try dsimp only
     rw[<-Jy];clear Jy A8 T8;have hW:=A9.o.W;rw[Bs.o] at hW;have k7:w9.cell? ⟨hb,7,none⟩=some (.slice AW d.r.wait.length cW):=by
      have:=aI A9.o.blk 7;rw[this,<-Bs.o];rfl
     refine wp_RI9 k7 (zY hW aH) rfl Mn Pe ⟨yS,zjb⟩ λzrI zxQ zol zvM z46 zuY zv9 z49 zv6 z51 zv8 z53 zpR zxp zt0 zqB zsq z59=>?_;refine HQ.o _ _ ?_;clear HQ hW k7;by_cases aS:m<y6 d.r.wait c.p
     .simp only[aS,decide_true]
      refine CW.cd H true ?_;refine CW.sk H ?_;dsimp only;refine CW.block H ?_;refine CW.pQ H Cn (λWe Q HQ=>?_);obtain⟨vJ,Eo⟩:=aP (Tt.tp w9 We 0);have tM:=aD (show bG vJ lo hb v6 {d with r:={d.r with recs:=d.r.recs++[⟨c.c,(i:Int)+1,0,d.r.clk,-1,-1,eJ⟩]}} by rw[Eo];exact A9.o.tp We 0);have xU:=aD (show bO hb v w v6 vJ by rw[Eo];exact T9.o.tp We 0)
      try dsimp only
      rw[<-Eo];clear Eo A9 T9;have zyX:m<=1000:=by have:=zfU d.r.wait c.p;omega
      go_wp2;refine HQ.o _ _ ?_;refine⟨y6 d.r.wait c.p-(m+1),aC,m+1,vJ,_,_,_,_,_,_,_,_,_,_,_,_,_,_,_,_,_,_,_,_,_,_,_,_,_,_,_,_,_,_,_,_,_,_,_,_,_,_,_,_,_,_,_,_,_,_,_,_,_,_,_,_,_,_,_,_,_,_,_,_,_,_,_,_,_,_,_,_,_,_,_,_,_,_,_,rfl,aC,rfl,tM.o,xU.o⟩
     .simp only[aS,decide_false]
      refine CW.cd H false ?_;refine CW.exit H aN ?_;dsimp only;rw[if_pos rfl];have zcO:m=y6 d.r.wait c.p:=aC;have zF5:=aD zcO;have zyX:m<=1000:=by have:=zfU d.r.wait c.p;omega
      have zcI:m<=d.r.wait.length:=by have:=zfU d.r.wait c.p;omega
      clear zcO aS Pe C5;have zGh:=aD (show w9.ownsRow lo 149 2 (.slice AW d.r.wait.length cW) d.r.wait.length (bH d.r.wait) by have:=A9.o.W;rw[Bs.o] at this;exact this);have k7:w9.cell? ⟨hb,7,none⟩=some (.slice AW d.r.wait.length cW):=by
       have:=aI A9.o.blk 7;rw[this,<-Bs.o];rfl
      refine CW.sq H ?_;refine CW.rg H [0,1,2,3,4,5,6,7,8,9,10,11,12,13] ?_;refine CR.mv H (.pointer (some ⟨hb,0,none⟩)) ?_;refine CR.mv H (.pointer (some ⟨hb,0,none⟩)) ?_;refine CR.mv H (.pointer (some ⟨hb,0,none⟩)) ?_;refine CR.mg H (.pointer (some ⟨hb,7,none⟩)) ?_;refine nP ?_;refine CR.mv H (.slice AW d.r.wait.length cW) ?_ (hx:=λT=>by have hh:(Tt.tp w9 T 0).cell? _=_:=k7;unfold aO;go_simp);refine CR.mv H (.int .i64 (m:Int)) ?_;refine CR.mv H (.int .i64 c.c) ?_;refine CR.mv H (.int .i64 c.p) ?_;refine CR.mv H (.agg #[.int .i64 c.c,.int .i64 c.p]) ?_ (hx:=λT=>by unfold aO;go_simp;try rfl);refine CR.op H zBw rfl aT (λT=>⟨.slice (some ⟨w9.heap.size,0,none⟩) 1 1,(Tt.tp w9 T 0).alloc (.cells #[.int .i64 c.c,.int .i64 c.p] 149),.inl Ou,?_⟩);simp only[cC,fO,dP,dQ];obtain⟨wa,xY⟩:=aP ((Tt.tp w9 T 0).alloc (.cells #[.int .i64 c.c,.int .i64 c.p] 149));have tM:=aD (show bG wa lo hb v6 {d with r:={d.r with recs:=d.r.recs++[⟨c.c,(i:Int)+1,0,d.r.clk,-1,-1,eJ⟩]}} by rw[xY];exact(A9.o.tp T 0).alloc _);have xU:=aD (show bO hb v w v6 wa by rw[xY];exact(T9.o.tp T 0).trans (bO.below (eT (fW _ _) _)));have HV:=aD (show wa.heap[w9.heap.size]? =some (.cells #[.int .i64 c.c,.int .i64 c.p] 149) by rw[xY];exact gP _ _);have zn7:=aD (show wa.ownsRow lo 149 2 (.slice AW d.r.wait.length cW) d.r.wait.length (bH d.r.wait) by have:=tM.o.W;rw[Bs.o] at this;exact this);have aU:(Q2 AW d.r.wait.length cW).ownBlock≠some w9.heap.size:=λe=>by have:=(zGh.o.lt _ e).2;omega
      have zHe:lo<=wa.heap.size:=eH Mk.o xU.o.size;rw[<-xY];clear xY A9 T9 k7;refine CR.cl H (zzN H (x:=c) zn7.o zHe Mn zcI HV.o aU) (λK' l' y wb hl qI=>?_);obtain⟨rfl,g2,c2,rfl,oZ,zkW,fC⟩:=qI;simp only[cC,fO,dP,dQ];have Rw:({wb with heap:=wa.heap}:aE).grownBy wb v6.sW.ownBlock:=⟨rfl,rfl,rfl,zkW.size,λb bU hn=>zkW.block b bU (by rw[<-Bs.o];exact hn)⟩;have a0:bG ({wb with heap:=wa.heap}:aE) lo hb v6 {d with r:={d.r with recs:=d.r.recs++[⟨c.c,(i:Int)+1,0,d.r.clk,-1,-1,eJ⟩]}}:=tM.o.same rfl;have zk4:d.r.wait.take m++c::d.r.wait.drop m=uA d.r.wait c:=by rw[zBu,zF5.o]
      rw[zk4] at oZ;obtain⟨a6,t6⟩:=a0.putW Rw oZ (by rw[<-zk4];simp;omega) (by rw[Bs.o];exact fC.imp (λe=>e) (λe b bU=>by have rL:g2=b:=cO bU;show wa.heap.size<=b;rw[<-rL];exact e));have zcS:=(a0.other (j:=5) (c:=7) (x:=v6.sW) rfl aH Rw (.slice (some ⟨g2,0,none⟩) (d.r.wait.length+1) c2)).2;have zqT:wb.cell? ⟨hb,7,none⟩=some (.slice AW d.r.wait.length cW):=by
       have:=aI (zcS.trans a0.blk) 7;rw[this,<-Bs.o];rfl
      have zv4:=eW (zcS.trans a0.blk) 7;have Ey:=aD (xU.o.trans ((bO.refl (v:=v6) (w:=wa) (hb:=hb)).same (x:={wb with heap:=wa.heap}) rfl|>.trans t6));have Az:=aD a6;clear a6 t6 a0 Rw zcS oZ zkW fC tM xU HV zn7 aU zk4;refine nP ?_;refine CR.mv H (.pointer (some ⟨hb,0,none⟩)) ?_;refine CR.mg H (.pointer (some ⟨hb,7,none⟩)) ?_;refine CR.sto H zGd rfl aT rfl (w':=wb.setCell ⟨hb,7,none⟩ (.slice (some ⟨g2,0,none⟩) (d.r.wait.length+1) c2)) (λT=>by have hh:(Tt.tp wb T 0).cell? _=_:=zqT;have hf:(Tt.tp wb T 0).frozen? _=_:=zv4;unfold aO;go_simp;try rfl) ?_;obtain⟨wc,zfp⟩:=aP (wb.setCell ⟨hb,7,none⟩ (.slice (some ⟨g2,0,none⟩) (d.r.wait.length+1) c2));have zam:=aD (show bG wc lo hb {v6 with sW:=.slice (some ⟨g2,0,none⟩) (d.r.wait.length+1) c2} {d with r:={d.r with recs:=d.r.recs++[⟨c.c,(i:Int)+1,0,d.r.clk,-1,-1,eJ⟩],wait:=uA d.r.wait c}} by rw[zfp];exact Az.o);have zcN:=aD (show bO hb v w {v6 with sW:=.slice (some ⟨g2,0,none⟩) (d.r.wait.length+1) c2} wc by rw[zfp];exact Ey.o);dsimp only;rw[<-zfp];clear zfp Az Ey zqT zv4;refine CR.nil H ?_;have Jo:=Qv (c:=(i:Int)+1) aC aC;refine CW.sq H (CW.pW H Cn zam zcN λzb5 Q ztr zah zbV HQ=>?_)
      go_wp2_with (go_at_call 112;refine(zmX ((i:Int)+1) aC aC _).mono ?_;rintro en zvq ⟨rfl,zy3⟩;obtain rfl:=zy3)
      refine HQ.o _ _ ?_;clear HQ;refine CW.rt H ?_;refine⟨.inr rfl,rfl,.string ⟨([108,105,110,101,32]++gM ((i:Int)+1)).toArray⟩,(by have ee:(⟨#[108,105,110,101,32]⟩:ByteArray)++⟨(gM ((i:Int)+1)).toArray⟩=⟨([108,105,110,101,32]++gM ((i:Int)+1)).toArray⟩:=(by simp[Mx]);rw[<-ee];rfl),⟨rfl,by rw[cJ.o],{v6 with sW:=.slice (some ⟨g2,0,none⟩) (d.r.wait.length+1) c2},?_,?_,?_,⟨P6.o.2.2.2.1,P6.o.2.2.2.2.1,P6.o.2.2.2.2.2.2.2.1,P6.o.2.2.2.2.2.2.2.2⟩⟩⟩
      .rw[cJ.o];exact zah.o
      .rw[cJ.o];refine fY.of zGj.o ?_ ?_ ?_ ?_ ?_<;>rfl
      .exact zbV.o
structure EvPre (lo hb:Nat)(v:fJ)(d:nU)(w:aE):Prop where
 at_:bG w lo hb v d
 mr:fY v d
 i:yZ d
 lo_:lo<=w.heap.size
 tab:Cb lo w
 clk:d.r.clk<=99000
 nbw:d.r.back.length+d.r.wait.length<=5000
def Io:wF aK 81:=⟨_,zw6,.inr (.inl ⟨_,rfl⟩)⟩
variable {ev:dI}
theorem zDN (H:e.d.Ok)(h:EvPre lo hb v d w)(nI:q9 d.r.o.op ev=true)(hW:De e.W k (pP d.r ev))(hK:∀(i g:Nat),d.qn[i]? =some g->K g (qa e.qs i)):
 CF e.d 81 #[.pointer (some ⟨hb,0,none⟩),.agg #[.string ev.k,.int .i64 ev.a,.int .i64 ev.b]] K (.wk e.qs k) w (λK' l' y w'=>zaQ e.qs lo hb v d w k (pP d.r ev).length (dK d.r ev) l' y w'):=by
 refine CF.of 37 zw6 (.inr (.inl ⟨_,rfl⟩)) ?_;have A0:=aD h.at_;have T0:=aD (bO.refl (hb:=hb) (v:=v) (w:=w));have HP:=aD h;have HW:=aD hW;have Z2:=(Cu h.i.R.off).2.2.2.1;have Q5:=h.i.nqn;have zbc:Gm d.r.o.op ev:=by unfold q9 at nI;simpa using nI
 have zgS:=aD zbc;clear h hW nI zbc;refine CW.sq H (CW.pW H Io A0 T0 λw1 Q dW A1 T1 HQ=>?_);go_wp2;refine HQ.o _ _ ?_;clear HQ;obtain⟨gx,uT⟩:=aP w1.heap.size;obtain⟨w2,eG⟩:=aP (w1.alloc (.cells #[.string ev.k,.int .i64 ev.a,.int .i64 ev.b] 54));have A2:=aD (show bG w2 lo hb v d by rw[eG];exact A1.o.alloc _);have T2:=aD (show bO hb v w v w2 by rw[eG];exact T1.o.trans (bO.below (eT (fW _ _) _)));have zfd:=aD (show w2.heap[gx]? =some (.cells #[.string ev.k,.int .i64 ev.a,.int .i64 ev.b] 54) by rw[eG,uT];exact gP _ _);rw[<-uT,<-eG];clear eG uT A1 T1;refine CW.sq H ?_;refine CW.sq H (CW.pW H Io A2 T2 λw3 Q iU A3 T3 HQ=>?_);have vM:=aD (iU▸zfd.o);have kx:=aI vM.o 0;go_wp2;refine HQ.o _ _ ?_;clear HQ;clear kx;refine CW.block H ?_;by_cases Xt:ev.k.toList=zW
 .
   have qQ:(ev.k.toList==[114,105,110,103])=true:=by rw[Xt];rfl
   have mB:=aD Xt;clear Xt;refine CW.sq H (CW.pW H Io A3 T3 λw4 Q lY A4 T4 HQ=>?_);have Om:=aD (lY▸vM.o);go_wp2;refine HQ.o _ _ ?_;clear HQ
   try simp only[qQ]
   clear qQ;refine CW.cond H (t:=true) rfl Qp ?_;refine CW.sq H ?_;refine CW.rg H [0,1,2,3,4,5,6] ?_;refine CR.mv H (.pointer (some ⟨hb,0,none⟩)) ?_;refine CR.mg H (.pointer (some ⟨gx,1,none⟩)) ?_;refine CR.mv H (.int .i64 ev.a) ?_ (hx:=λT=>by have hh:(Tt.tp w4 T 0).cell? _=_:=aI Om.o 1;unfold aO;go_simp);refine CR.mg H (.pointer (some ⟨gx,2,none⟩)) ?_;refine CR.mv H (.int .i64 ev.b) ?_ (hx:=λT=>by have hh:(Tt.tp w4 T 0).cell? _=_:=aI Om.o 2;unfold aO;go_simp)
   obtain⟨Oz,Bx,Qz,Im⟩:1<=ev.a/\ev.a<=99/\0<=ev.b/\ev.b<=9:=by
    rcases zgS.o with h|h|⟨h,_⟩|h
    .exact h.2
    .rw[h.1] at mB;exact absurd mB.o aH
    .rcases h with h|h<;>(rw[h] at mB;exact absurd mB.o aH)
    .rw[h.1] at mB;exact absurd mB.o aH
   have mK:=aD (show dK d.r ev=pE d.r ⟨ev.a,ev.b⟩ by unfold dK;rw[if_pos mB.o]);have sV:=aD (show pP d.r ev=[] by unfold pP;rw[if_pos mB.o]);refine CR.cl H (cf_ring H (c:=⟨ev.a,ev.b⟩) A4.o HP.o.mr HP.o.i (eH HP.o.lo_ T4.o.size) ⟨Qz,Im⟩) (λK' l' y w' hl qI=>?_);simp only[cC,fO,dP,dQ];obtain⟨z1,rfl,z3⟩:=qI;refine nP ?_;refine CR.mv H (.string ⟨(pE d.r ⟨ev.a,ev.b⟩).2.toArray⟩) ?_;refine CR.nil H ?_;refine CW.rt H ?_;obtain⟨v',z4,z5,z6,z7⟩:=z3;refine⟨.inr rfl,rfl,.string ⟨(pE d.r ⟨ev.a,ev.b⟩).2.toArray⟩,rfl,⟨by rw[sV.o];exact z1,by rw[mK.o],v',by rw[mK.o];exact z4,by rw[mK.o];exact z5,T4.o.trans z6,z7⟩⟩
 .
   have qQ:(ev.k.toList==[114,105,110,103])=false:=by
    have hz:¬ev.k.toList=[114,105,110,103]:=Xt;simpa using hz
   have zi3:=aD Xt;clear Xt;refine CW.sq H (CW.pW H Io A3 T3 λw4 Q lY A4 T4 HQ=>?_);have Om:=aD (lY▸vM.o);go_wp2;refine HQ.o _ _ ?_;clear HQ
   try simp only[qQ]
   clear qQ;refine CW.cond H (t:=false) rfl Qp ?_;by_cases Wl:ev.k.toList=D5
   .
     have qQ:(ev.k.toList==[104,97,110,103])=true:=by rw[Wl];rfl
     have mB:=aD Wl;clear Wl;refine CW.sq H (CW.pW H Io A4 T4 λw5 Q lB A5 T5 HQ=>?_);have Ej:=aD (lB▸Om.o);go_wp2;refine HQ.o _ _ ?_;clear HQ
     try simp only[qQ]
     clear qQ;refine CW.cond H (t:=true) rfl Qp ?_;refine CW.sq H ?_;refine CW.rg H [0,1,2,3,4] ?_;refine CR.mv H (.pointer (some ⟨hb,0,none⟩)) ?_;refine CR.mg H (.pointer (some ⟨gx,1,none⟩)) ?_;refine CR.mv H (.int .i64 ev.a) ?_ (hx:=λT=>by have hh:(Tt.tp w5 T 0).cell? _=_:=aI Ej.o 1;unfold aO;go_simp);have Ot:De e.W k (Dz d.r ev.a):=by
      have:=HW.o;unfold pP at this;rw[if_neg zI,if_neg zI,if_neg zI,if_pos mB.o] at this;exact this
     have mK:=aD (show dK d.r ev=mH d.r ev.a by unfold dK;rw[if_neg zI,if_neg zI,if_neg zI,if_pos mB.o]);have sV:=aD (show pP d.r ev=Dz d.r ev.a by unfold pP;rw[if_neg zI,if_neg zI,if_neg zI,if_pos mB.o]);refine CR.cl H (cf_hang H A5.o HP.o.mr HP.o.i (eH HP.o.lo_ T5.o.size) Ot hK) (λK' l' y w' hl qI=>?_);simp only[cC,fO,dP,dQ];obtain⟨z1,rfl,z3⟩:=qI;refine nP ?_;refine CR.mv H (.string ⟨(mH d.r ev.a).2.toArray⟩) ?_;refine CR.nil H ?_;refine CW.rt H ?_;obtain⟨v',z4,z5,z6,z7⟩:=z3;refine⟨.inr rfl,rfl,.string ⟨(mH d.r ev.a).2.toArray⟩,rfl,⟨by rw[sV.o];exact z1,by rw[mK.o],v',by rw[mK.o];exact z4,by rw[mK.o];exact z5,T5.o.trans z6,z7⟩⟩
   .
     have qQ:(ev.k.toList==[104,97,110,103])=false:=by
      have hz:¬ev.k.toList=[104,97,110,103]:=Wl;simpa using hz
     have zla:=aD Wl;clear Wl;refine CW.sq H (CW.pW H Io A4 T4 λw5 Q lB A5 T5 HQ=>?_);have Ej:=aD (lB▸Om.o);go_wp2;refine HQ.o _ _ ?_;clear HQ
     try simp only[qQ]
     clear qQ;refine CW.cond H (t:=false) rfl Qp ?_;by_cases Xl:ev.k.toList=H7
     .
       have qQ:(ev.k.toList==[97,110,115,119,101,114])=true:=by rw[Xl];rfl
       have mB:=aD Xl;clear Xl;refine CW.sq H (CW.pW H Io A5 T5 λw6 Q pL A6 T6 HQ=>?_);have L4:=aD (pL▸Ej.o);go_wp2;refine HQ.o _ _ ?_;clear HQ
       try simp only[qQ]
       clear qQ;refine CW.cond H (t:=true) rfl Qp ?_;refine CW.sq H ?_;refine CW.rg H [0,1,2,3,4] ?_;refine CR.mv H (.pointer (some ⟨hb,0,none⟩)) ?_;refine CR.mg H (.pointer (some ⟨gx,1,none⟩)) ?_;refine CR.mv H (.int .i64 ev.a) ?_ (hx:=λT=>by have hh:(Tt.tp w6 T 0).cell? _=_:=aI L4.o 1;unfold aO;go_simp)
       obtain⟨Oz,Bx⟩:1<=ev.a/\ev.a<=d.r.o.op:=by
        rcases zgS.o with h|h|⟨_,h⟩|h
        .rw[h.1] at mB;exact absurd mB.o aH
        .rw[h.1] at mB;exact absurd mB.o aH
        .exact⟨h.1,h.2.1⟩
        .rw[h.1] at mB;exact absurd mB.o aH
       obtain⟨q,oI⟩:∃q:Nat,ev.a=(q:Int)+1:=⟨(ev.a-1).toNat,aC⟩;have hq:q<d.qn.length:=aC;have zC:q<=100:=aC;have Ot:De e.W k (H5 d.r ((q:Int)+1)):=by
        have:=HW.o;unfold pP at this;rw[if_neg zI,if_pos mB.o,oI] at this;exact this
       have mK:=aD (show dK d.r ev=nH d.r ((q:Int)+1) by unfold dK;rw[if_neg zI,if_pos mB.o,oI]);have sV:=aD (show pP d.r ev=H5 d.r ((q:Int)+1) by unfold pP;rw[if_neg zI,if_pos mB.o,oI]);rw[oI];refine CR.cl H (cf_pick H A6.o HP.o.mr HP.o.i Ot hq zC hK) (λK' l' y w' hl qI=>?_);simp only[cC,fO,dP,dQ];obtain⟨z1,rfl,z3⟩:=qI;refine nP ?_;refine CR.mv H (.string ⟨(nH d.r ((q:Int)+1)).2.toArray⟩) ?_;refine CR.nil H ?_;refine CW.rt H ?_;obtain⟨v',z4,z5,z6,z7⟩:=z3;refine⟨.inr rfl,rfl,.string ⟨(nH d.r ((q:Int)+1)).2.toArray⟩,rfl,⟨by rw[sV.o];exact z1,by rw[mK.o],v',by rw[mK.o];exact z4,by rw[mK.o];exact z5,T6.o.trans z6,z7⟩⟩
     .
       have qQ:(ev.k.toList==[97,110,115,119,101,114])=false:=by
        have hz:¬ev.k.toList=[97,110,115,119,101,114]:=Xl;simpa using hz
       have ziS:=aD Xl;clear Xl;refine CW.sq H (CW.pW H Io A5 T5 λw6 Q pL A6 T6 HQ=>?_);have L4:=aD (pL▸Ej.o);go_wp2;refine HQ.o _ _ ?_;clear HQ
       try simp only[qQ]
       clear qQ;refine CW.cond H (t:=false) rfl Qp ?_;by_cases Vu:ev.k.toList=Bq
       .
         have qQ:(ev.k.toList==[114,101,116,117,114,110])=true:=by rw[Vu];rfl
         have mB:=aD Vu;clear Vu;refine CW.sq H (CW.pW H Io A6 T6 λw7 Q rM A7 T7 HQ=>?_);have Hr:=aD (rM▸L4.o);go_wp2;refine HQ.o _ _ ?_;clear HQ
         try simp only[qQ]
         clear qQ;refine CW.cond H (t:=true) rfl Qp ?_;refine CW.sq H ?_;refine CW.rg H [0,1,2,3,4] ?_;refine CR.mv H (.pointer (some ⟨hb,0,none⟩)) ?_;refine CR.mg H (.pointer (some ⟨gx,1,none⟩)) ?_;refine CR.mv H (.int .i64 ev.a) ?_ (hx:=λT=>by have hh:(Tt.tp w7 T 0).cell? _=_:=aI Hr.o 1;unfold aO;go_simp)
         obtain⟨Oz,Bx⟩:1<=ev.a/\ev.a<=d.r.o.op:=by
          rcases zgS.o with h|h|⟨_,h⟩|h
          .rw[h.1] at mB;exact absurd mB.o aH
          .rw[h.1] at mB;exact absurd mB.o aH
          .exact⟨h.1,h.2.1⟩
          .rw[h.1] at mB;exact absurd mB.o aH
         obtain⟨q,oI⟩:∃q:Nat,ev.a=(q:Int)+1:=⟨(ev.a-1).toNat,aC⟩;have hq:q<d.qn.length:=aC;have zC:q<=100:=aC;have Ot:De e.W k (Dw d.r ((q:Int)+1)):=by
          have:=HW.o;unfold pP at this;rw[if_neg zI,if_neg zI,if_pos mB.o,oI] at this;exact this
         have mK:=aD (show dK d.r ev=l8 d.r ((q:Int)+1) by unfold dK;rw[if_neg zI,if_neg zI,if_pos mB.o,oI]);have sV:=aD (show pP d.r ev=Dw d.r ((q:Int)+1) by unfold pP;rw[if_neg zI,if_neg zI,if_pos mB.o,oI]);rw[oI];refine CR.cl H (cf_back H A7.o HP.o.mr HP.o.i (eH HP.o.lo_ T7.o.size) Ot hq zC hK) (λK' l' y w' hl qI=>?_);simp only[cC,fO,dP,dQ];obtain⟨z1,rfl,z3⟩:=qI;refine nP ?_;refine CR.mv H (.string ⟨(l8 d.r ((q:Int)+1)).2.toArray⟩) ?_;refine CR.nil H ?_;refine CW.rt H ?_;obtain⟨v',z4,z5,z6,z7⟩:=z3;refine⟨.inr rfl,rfl,.string ⟨(l8 d.r ((q:Int)+1)).2.toArray⟩,rfl,⟨by rw[sV.o];exact z1,by rw[mK.o],v',by rw[mK.o];exact z4,by rw[mK.o];exact z5,T7.o.trans z6,z7⟩⟩
       .
         have qQ:(ev.k.toList==[114,101,116,117,114,110])=false:=by
          have hz:¬ev.k.toList=[114,101,116,117,114,110]:=Vu;simpa using hz
         have zi7:=aD Vu;clear Vu;refine CW.sq H (CW.pW H Io A6 T6 λw7 Q rM A7 T7 HQ=>?_);have Hr:=aD (rM▸L4.o);go_wp2;refine HQ.o _ _ ?_;clear HQ
         try simp only[qQ]
         clear qQ;refine CW.cond H (t:=false) rfl Qp ?_;refine CW.sk H ?_;dsimp only
         obtain⟨Oz,Bx⟩:1<=ev.a/\ev.a<=60:=by
          rcases zgS.o with h|h|⟨h,_⟩|h
          .exact absurd h.1 zi3.o
          .exact absurd h.1 zla.o
          .rcases h with h|h
           .exact absurd h ziS.o
           .exact absurd h zi7.o
          .exact⟨h.2.1,h.2.2.1⟩
         have mK:=aD (show dK d.r ev=tN d.r ev.a by unfold dK;rw[if_neg zi3.o,if_neg ziS.o,if_neg zi7.o,if_neg zla.o]);have sV:=aD (show pP d.r ev=[] by unfold pP;rw[if_neg zi3.o,if_neg ziS.o,if_neg zi7.o,if_neg zla.o]);have zB3:=aD (λW (t:bO hb v w v W)=>HP.o.tab.turn HP.o.at_ HP.o.lo_ t);refine CW.sq H (CW.pW H Io A7 T7 λw8 Q Iv A8 T8 HQ=>?_);have Il:=aD (Iv▸Hr.o);have kx:=aI Il.o 1;have zJX:=aI Il.o 0
         go_wp2_with (go_at_call 105;refine(zCv A8.o HP.o.mr HP.o.i (eH HP.o.lo_ T8.o.size) (zB3.o _ T8.o) aC (by have:=HP.o.clk;omega) HP.o.nbw).mono ?_;rintro en wz ⟨rfl,z3⟩;have Z3:=aD z3;clear z3)
         refine HQ.o _ _ ?_;clear HQ;refine CW.rt H ?_;obtain⟨v',z4,z5,z6,z7⟩:=Z3.o;refine⟨.inr rfl,rfl,.string ⟨(tN d.r ev.a).2.toArray⟩,rfl,⟨by rw[sV.o];rfl,by rw[mK.o],v',by rw[mK.o];exact z4,by rw[mK.o];exact z5,T8.o.trans z6,z7⟩⟩
section
variable {ops:Array aZ}{ch:List Nat}{V0:Nat->aF}{vs:List aF}{t0 t:Array aF}
variable {s:Tmp}
theorem qP (KO:Mh ops){i:Nat}{o:aZ}{v:aF}(ho:ops[i]? =some o)(hd:o.dst=some s)(hz:s<t0.size)(hv:VV ch V0 vs i=v):(dF ops (VV ch V0 vs) t0).getD s aA=v:=by
 have h:=(Si (vals:=VV ch V0 vs) (t0:=t0) KO).got i o s ho hd hz (by simp[(eB.1 ho).1]);rw[xG,h,hv];rfl
theorem zg0 (KO:Mh ops)(hs:Ht ops s=false):(dF ops (VV ch V0 vs) t0).getD s aA=t0.getD s undef:=by
 rw[xG,(Si (vals:=VV ch V0 vs) (t0:=t0) KO).old s (λi o h1 _ h2=>by rw[zjf h1 h2] at hs;cases hs),xG]
theorem Gu {o:aZ}(mJ:∀s∈o.looksAt ops,t[s]? =(dF ops (VV ch V0 vs) t0)[s]?)(hs:s∈o.looksAt ops){v:aF}(h:(dF ops (VV ch V0 vs) t0).getD s aA=v):(bJ t []).eval (.tmp s)=v:=by
 have e:(bJ t []).eval (.tmp s)=t.getD s undef:=rfl;rw[e,xG,mJ s hs,<-xG];exact h
end
def zh4:Go.Code:=(Tryz.f58.body).getD .skip
def rWO3:Go.Code:=match zh4 with| .seq (.seq _ (.block _ (.loop (.seq _ (.seq _ (.seq (.block _ (.seq _ (a))) _)))))) _=>a|_=>.skip
def rWO8:Go.Code:=match zh4 with| .seq _ (.seq _ (.block _ (.loop (.seq _ (.seq _ (.seq (.block _ (.seq _ (.seq (a) _))) _))))))=>a|_=>.skip
def rWO9:Go.Code:=match zh4 with| .seq _ (.seq _ (.block _ (.loop (.seq _ (.seq _ (.seq (.block _ (.seq _ (.seq _ (a)))) _))))))=>a|_=>.skip
def lK:Array Oper:=match rWO3 with| .region _ ops _=>ops|_=>#[]
def rWO3_eq:rWO3=.region 3 lK true:=rfl
abbrev zvR:Oper:=aV lK 0 (some 14) (.move (.tmp 0))
def zBk:lK[0]? =some zvR:=rfl
abbrev zvX:Oper:=aV lK 1 (some 15) (.move (.tmp 0))
def zzg:lK[1]? =some zvX:=rfl
abbrev zq7:Oper:=aV lK 2 (some 16) (.nilCheck (.tmp 15))
def zFj:lK[2]? =some zq7:=rfl
abbrev zpq:Oper:=aV lK 3 (some 17) (.fieldAddr 72 (.tmp 16) 10)
def zyW:lK[3]? =some zpq:=rfl
abbrev zq0:Oper:=aV lK 4 (some 18) (.load 26 (.tmp 17))
def zBh:lK[4]? =some zq0:=rfl
abbrev ztZ:Oper:=aV lK 5 (some 19) (.move (.tmp 0))
def zHJ:lK[5]? =some ztZ:=rfl
abbrev zxz:Oper:=aV lK 6 (some 20) (.load 54 (.tmp 5))
def zFT:lK[6]? =some zxz:=rfl
abbrev zsY:Oper:=aV lK 7 (some 21) (.call ⟨.value (.func 81),#[.tmp 19,.tmp 20],#[63,54]⟩)
def zlm:lK[7]? =some zsY:=rfl
abbrev zlg:Oper:=aV lK 8 (some 22) (.buildSlice 26 1 #[(0,.tmp 21)])
def zeg:lK[8]? =some zlg:=rfl
abbrev zxx:Oper:=aV lK 9 (some 23) (.call ⟨.builtin .append,#[.tmp 18,.tmp 22],#[26,26]⟩)
def zhP:lK[9]? =some zxx:=rfl
abbrev zpo:Oper:=aV lK 10 (some 24) (.nilCheck (.tmp 14))
def zFI:lK[10]? =some zpo:=rfl
abbrev zrD:Oper:=aV lK 11 (some 25) (.fieldAddr 72 (.tmp 24) 10)
def zA6:lK[11]? =some zrD:=rfl
abbrev zhU:Oper:=aV lK 12 none (.store 26 (.tmp 25) (.tmp 23))
def zmz:lK[12]? =some zhU:=rfl
def jU:Array Oper:=match rWO8 with| .region _ ops _=>ops|_=>#[]
def rWO8_eq:rWO8=.region 8 jU true:=rfl
abbrev zud:Oper:=aV jU 0 (some 37) (.move (.tmp 0))
def zA1:jU[0]? =some zud:=rfl
abbrev zpx:Oper:=aV jU 1 (some 38) (.move (.tmp 0))
def zCx:jU[1]? =some zpx:=rfl
abbrev zry:Oper:=aV jU 2 (some 39) (.nilCheck (.tmp 38))
def zCy:jU[2]? =some zry:=rfl
abbrev zre:Oper:=aV jU 3 (some 40) (.fieldAddr 72 (.tmp 39) 11)
def zzF:jU[3]? =some zre:=rfl
abbrev zxH:Oper:=aV jU 4 (some 41) (.load 38 (.tmp 40))
def zDh:jU[4]? =some zxH:=rfl
abbrev zsG:Oper:=aV jU 5 (some 42) (.move (.tmp 0))
def zF0:jU[5]? =some zsG:=rfl
abbrev zqc:Oper:=aV jU 6 (some 43) (.move (.tmp 6))
def zEx:jU[6]? =some zqc:=rfl
abbrev zmh:Oper:=aV jU 7 (some 44) (.binOp .add 3 (.tmp 43) (.const (.int .i64 1)) 3)
def zF2:jU[7]? =some zmh:=rfl
abbrev zwa:Oper:=aV jU 8 (some 45) (.call ⟨.value (.func 82),#[.tmp 42,.tmp 44,.const (.int .i64 0),.const (.int .i64 0)],#[63,3,3,3]⟩)
def zj4:jU[8]? =some zwa:=rfl
abbrev znV:Oper:=aV jU 9 (some 46) (.buildSlice 38 1 #[(0,.tmp 45)])
def zdE:jU[9]? =some znV:=rfl
abbrev zxt:Oper:=aV jU 10 (some 47) (.call ⟨.builtin .append,#[.tmp 41,.tmp 46],#[38,38]⟩)
def zkU:jU[10]? =some zxt:=rfl
abbrev zo8:Oper:=aV jU 11 (some 48) (.nilCheck (.tmp 37))
def zBy:jU[11]? =some zo8:=rfl
abbrev zpT:Oper:=aV jU 12 (some 49) (.fieldAddr 72 (.tmp 48) 11)
def zze:jU[12]? =some zpT:=rfl
abbrev zkZ:Oper:=aV jU 13 none (.store 38 (.tmp 49) (.tmp 47))
def znS:jU[13]? =some zkZ:=rfl
def zun:Array Oper:=match rWO9 with| .region _ ops _=>ops|_=>#[]
abbrev oWO9_1:Oper:=aV zun 1 none (.call ⟨.builtin .close,#[.tmp 50],#[95]⟩)
def zDa:zun[1]? =some oWO9_1:=rfl
def Pb:wF aK 58:=⟨_,zkm,.inl rfl⟩
def zFQ:(aK.info? 9).map (λi=>(i.zero,i.size,i.bytes))=some (some (.string ⟨#[]⟩),1,16):=aT
variable {V:Nat->aF}{Tf:Array aF}
theorem bs3 {s:ByteArray}(hT:xL Tf V)(zKd:V 21=.string s):(aO (bJ Tf []).eval zlg).run aK w=.ok (.value (.slice (some ⟨w.heap.size,0,none⟩) 1 1)) (w.alloc (.cells #[.string s] 9)):=by
 unfold aO;go_simp
variable {sA:aF}{T:j6}
theorem st3 {q1 q2:Nat}(hT:xL Tf V)(zJJ:V 25=.pointer (some ⟨hb,12,none⟩))(zKD:V 23=.slice (some ⟨q1,0,none⟩) n q2)(hh:w.cell? ⟨hb,12,none⟩=some sA)(hf:w.frozen? ⟨hb,12,none⟩=false):(aO (bJ Tf []).eval zhU).run aK (Tt.tp w T 0)=.ok .skip (Tt.tp (w.setCell ⟨hb,12,none⟩ (.slice (some ⟨q1,0,none⟩) n q2)) T 0):=by
 have zgq:(Tt.tp w T 0).cell? ⟨hb,12,none⟩=some sA:=hh;have Eb:(Tt.tp w T 0).frozen? ⟨hb,12,none⟩=false:=hf;clear hh hf;unfold aO;go_simp
 try rfl
def zwn:I9 lK=true:=aT
def zA8:N5 lK [7,8,9,12]=true:=aT
def zzW:lK.toList.map (·.dst)=[some 14,some 15,some 16,some 17,some 18,some 19,some 20,some 21,some 22,some 23,some 24,some 25,none]:=rfl
def zDO:lK.toList=[zvR,zvX,zq7,zpq,zq0,ztZ,zxz,zsY,zlg,zxx,zpo,zrD,zhU]:=rfl
def Hn (hb gb:Nat)(sA:aF)(ev:dI)(i:Nat):Value:=([.pointer (some ⟨hb,0,none⟩),.pointer (some ⟨hb,0,none⟩),.pointer (some ⟨hb,0,none⟩),.pointer (some ⟨hb,12,none⟩),sA,.pointer (some ⟨hb,0,none⟩),.agg #[.string ev.k,.int .i64 ev.a,.int .i64 ev.b],aA,aA,aA,.pointer (some ⟨hb,0,none⟩),.pointer (some ⟨hb,12,none⟩),aA]:List aF).getD i aA
structure W3 where
 es:G4
 lo:Nat
 hb:Nat
 gb:Nat
 k:Nat
 v0:fJ
 w0:aE
 v:fJ
 d:nU
 ev:dI
 K0:Pr
def W3.P1 (c:W3)(w:aE):Prop:=∃v1,bG w c.lo c.hb v1 {c.d with r:=(dK c.d.r c.ev).1}/\fY v1 {c.d with r:=(dK c.d.r c.ev).1}/\bO c.hb c.v0 c.w0 v1 w/\Aj c.v v1/\some c.gb∉parts v1 c.hb
def W3.P2 (c:W3)(w:aE):Prop:=∃v2,bG w c.lo c.hb v2 {c.d with r:=Et (dK c.d.r c.ev)}/\fY v2 {c.d with r:=Et (dK c.d.r c.ev)}/\bO c.hb c.v0 c.w0 v2 w/\v2.sL=c.v.sL/\v2.sQ=c.v.sQ
def W3.y (c:W3):Value:=.string ⟨(dK c.d.r c.ev).2.toArray⟩
def W3.Rd (c:W3)(w:aE):Prop:=w.cell? ⟨c.hb,12,none⟩=some c.v.sA/\w.heap[c.gb]? =some (.cells #[.string c.ev.k,.int .i64 c.ev.a,.int .i64 c.ev.b] 54)
def W3.n1 (c:W3):Nat:=c.k+(pP c.d.r c.ev).length
def W3.St (c:W3)(vs:List aF)(l':gN)(w':aE):Prop:=match vs with
 |[]=>l'=.wk c.es.qs c.k/\EvPre c.lo c.hb c.v c.d w'/\bO c.hb c.v0 c.w0 c.v w'/\some c.gb∉parts c.v c.hb
 |[a]=>l'=.wk c.es.qs c.n1/\a=c.y/\c.P1 w'/\c.lo<=w'.heap.size
 |[a,b]=>l'=.wk c.es.qs c.n1/\(∃g,b=.slice (some ⟨g,0,none⟩) 1 1/\w'.heap[g]? =some (.cells #[c.y] 9))/\c.P1 w'/\c.lo<=w'.heap.size
 |[a,b,x]=>l'=.wk c.es.qs c.n1/\(∃q1 q2,x=.slice (some ⟨q1,0,none⟩) (c.d.r.log.length+1) q2)/\w'.frozen? ⟨c.hb,12,none⟩=false/\c.P2 (w'.setCell ⟨c.hb,12,none⟩ x)
 |_=>l'=.wk c.es.qs c.n1/\c.P2 w'
def SR3 (c:W3)(vs:List aF)(K':Pr)(l':gN)(w':aE):Prop:=c.K0.le K'/\(vs.length<4->c.Rd w')/\c.St vs l' w'
def EvPre.tp (h:EvPre lo hb v d w)(T:j6)(n:Nat):EvPre lo hb v d (Tt.tp w T n):=⟨h.at_.tp T n,h.mr,h.i,h.lo_,h.tab.keep λ_ _=>rfl,h.clk,h.nbw⟩
variable {c:W3}
theorem W3.P1.tp (h:c.P1 w)(T:j6)(n:Nat):c.P1 (Tt.tp w T n):=by
 obtain⟨v1,a,b,d,e⟩:=h;exact⟨v1,a.tp T n,b,d.tp T n,e⟩
theorem W3.P2.tp (h:c.P2 w)(T:j6)(n:Nat):c.P2 (Tt.tp w T n):=by
 obtain⟨v1,a,b,d,e⟩:=h;exact⟨v1,a.tp T n,b,d.tp T n,e⟩
theorem SR3.tp (vs:List aF)(K':Pr)(l':gN)(w':aE)(T:j6)(n:Nat)(h:SR3 c vs K' l' w'):SR3 c vs K' l' (Tt.tp w' T n):=by
 obtain⟨h1,h2,h3⟩:=h;refine⟨h1,h2,?_⟩;rcases vs with _|⟨a,_|⟨b,_|⟨x,_|⟨y,vs⟩⟩⟩⟩
 .exact⟨h3.1,h3.2.1.tp T n,h3.2.2.1.tp T n,h3.2.2.2⟩
 .exact⟨h3.1,h3.2.1,h3.2.2.1.tp T n,h3.2.2.2⟩
 .exact⟨h3.1,h3.2.1,h3.2.2.1.tp T n,h3.2.2.2⟩
 .exact⟨h3.1,h3.2.1,h3.2.2.1,W3.P2.tp (w:=w'.setCell _ _) h3.2.2.2 T n⟩
 .exact⟨h3.1,W3.P2.tp h3.2 T n⟩
variable {B:List Nat}{Φ:oF->WS->Prop}
theorem cw_R3 (H:c.es.d.Ok)(nI:q9 c.d.r.o.op c.ev=true)(hW:De c.es.W c.k (pP c.d.r c.ev))(hK:∀(i g:Nat),c.d.qn[i]? =some g->c.K0 g (qa c.es.qs i))(zkL:(dK c.d.r c.ev).1.log.length<=1000)(zoO:(dK c.d.r c.ev).1.log=c.d.r.log)(hz:t0.size=52)(uL:t0.getD 0 aA=.pointer (some ⟨c.hb,0,none⟩))(zHb:t0.getD 5 aA=.pointer (some ⟨c.gb,0,none⟩))
 (hk:∀vs K' l' w',vs.length=4->SR3 c vs K' l' w'->Φ .normal ⟨[],K',l',dF lK (VV [7,8,9,12] (Hn c.hb c.gb c.v.sA c.ev) vs) t0,w'⟩) (h0:SR3 c [] K l w):CW c.es.d B 58 rWO3 ⟨[],K,l,t0,w⟩ Φ:=by
 rw[rWO3_eq];have KO:=Us zwn;refine CW.drawn H wA.mixed [7,8,9,12] (Hn c.hb c.gb c.v.sA c.ev) (SR3 c) zwn zA8 Lz (λvs K l w T e h=>SR3.tp vs K l w T e h) (λi o ho hi=>?_) (λvs ci o K' l' w' hc ho hS t rest mJ gA=>?_) hk h0
 .have hl:lK.toList[i]? =some o:=by rw[C1];exact ho
  rw[zDO] at hl;have aS:i<13:=by have:=(kP.1 hl).1;simpa using this
  have tn:∀(vs:List aF) {j:Nat} {oj:aZ} {s:Tmp} {v:aF},lK[j]? =some oj->oj.dst=some s->s<t0.size->VV [7,8,9,12] (Hn c.hb c.gb c.v.sA c.ev) vs j=v->(dF lK (VV [7,8,9,12] (Hn c.hb c.gb c.v.sA c.ev) vs) t0).getD s aA=v:=λvs _ _ _ _ a b c d=>qP KO a b c d;have tq:∀(vs:List aF) {s:Tmp},Ht lK s=false->(dF lK (VV [7,8,9,12] (Hn c.hb c.gb c.v.sA c.ev) vs) t0).getD s aA=t0.getD s undef:=λvs _ a=>zg0 KO a;rcases i with _|_|_|_|_|_|_|_|_|_|_|_|_|i
  .obtain rfl:=cO hl
   exact⟨aT,λvs K' l' w' hv hS=>⟨eE rfl,vG (.pointer (some ⟨c.hb,0,none⟩)) ((tq vs aT).trans uL)⟩⟩
  .obtain rfl:=cO hl
   exact⟨aT,λvs K' l' w' hv hS=>⟨eE rfl,vG (.pointer (some ⟨c.hb,0,none⟩)) ((tq vs aT).trans uL)⟩⟩
  .obtain rfl:=cO hl
   exact⟨aT,λvs K' l' w' hv hS=>⟨eE rfl,vG (.pointer (some ⟨c.hb,0,none⟩)) (tn vs zzg rfl kS rfl)⟩⟩
  .obtain rfl:=cO hl
   exact⟨aT,λvs K' l' w' hv hS=>⟨eE rfl,vG (.pointer (some ⟨c.hb,12,none⟩)) (tn vs zFj rfl kS rfl)⟩⟩
  .obtain rfl:=cO hl
   exact⟨aT,λvs K' l' w' hv hS=>⟨eE rfl,rd2 (c.v.sA) (tn vs zyW rfl kS rfl) (hS.2.1 hv).1⟩⟩
  .obtain rfl:=cO hl
   exact⟨aT,λvs K' l' w' hv hS=>⟨eE rfl,vG (.pointer (some ⟨c.hb,0,none⟩)) ((tq vs aT).trans uL)⟩⟩
  .obtain rfl:=cO hl
   exact⟨aT,λvs K' l' w' hv hS=>⟨eE rfl,rd4 (.agg #[.string c.ev.k,.int .i64 c.ev.a,.int .i64 c.ev.b]) ((tq vs aT).trans zHb) (aI (hS.2.1 hv).2 0) (aI (hS.2.1 hv).2 1) (aI (hS.2.1 hv).2 2)⟩⟩
  .exact absurd aH hi
  .exact absurd aH hi
  .exact absurd aH hi
  .obtain rfl:=cO hl
   exact⟨aT,λvs K' l' w' hv hS=>⟨eE rfl,vG (.pointer (some ⟨c.hb,0,none⟩)) (tn vs zBk rfl kS rfl)⟩⟩
  .obtain rfl:=cO hl
   exact⟨aT,λvs K' l' w' hv hS=>⟨eE rfl,vG (.pointer (some ⟨c.hb,12,none⟩)) (tn vs zFI rfl kS rfl)⟩⟩
  .exact absurd aH hi
  .omega
 .rcases vs with _|⟨a,_|⟨b,_|⟨c',_|⟨d',vs⟩⟩⟩⟩
  .obtain rfl:7=ci:=by simpa using hc
   rw[zlm] at ho;obtain rfl:=cO ho;obtain⟨s1,s2,s3,s4,s5,s6⟩:=hS;have zA9:=Gu mJ (s:=19) aH (qP KO zHJ rfl kS rfl);have a20:=Gu mJ (s:=20) aH (qP KO zFT rfl kS rfl);refine CR.call' H #[.pointer (some ⟨c.hb,0,none⟩),.agg #[.string c.ev.k,.int .i64 c.ev.a,.int .i64 c.ev.b]] zlm (eE rfl) rfl (allx rfl) rfl (by simp only[vD,gT,tW];rw[zA9,a20];rfl) (s3▸zDN H s4 nI hW (λi g hg=>s1 _ _ (hK i g hg))) (λK2 l2 y w2 hl qI=>?_);obtain⟨z1,z2,v1,z3,z4,z5,z6⟩:=qI;have eY:=s4.at_.turned z5 (s2 aN).2 s6;refine gA y K2 l2 w2 hl ⟨wX s1 hl,λ_=>⟨?_,eY.1⟩,z1,z2,⟨v1,z3,z4,s5.trans z5,z6,eY.2⟩,eH s4.lo_ z5.size⟩;have:=aI z3.blk 12;rw[this,<-z6.2.2.1];rfl
  .obtain rfl:8=ci:=by simpa using hc
   rw[zeg] at ho;obtain rfl:=cO ho;obtain⟨s1,s2,s3,rfl,⟨v1,z3,z4,z5,z6,z7⟩,s6⟩:=hS;have zIH:(dF lK (VV [7,8,9,12] (Hn c.hb c.gb c.v.sA c.ev) [c.y]) t0).getD 21 aA=c.y:=qP KO zlm rfl kS rfl;refine CR.op H zeg (eE rfl) aT (λT=>⟨.slice (some ⟨w'.heap.size,0,none⟩) 1 1,(Tt.tp w' T 0).alloc (.cells #[c.y] 9),.inl ?_,?_⟩)
   .rw[Fi (KO.sel 8 _ zeg) mJ]
    have hT:xL (dF lK (VV [7,8,9,12] (Hn c.hb c.gb c.v.sA c.ev) [c.y]) t0) (λs=>(dF lK (VV [7,8,9,12] (Hn c.hb c.gb c.v.sA c.ev) [c.y]) t0).getD s aA):=λs=>rfl;exact bs3 (s:=⟨(dK c.d.r c.ev).2.toArray⟩) hT zIH
   .have al:bO c.hb v1 w' v1 ((Tt.tp w' T 0).alloc (.cells #[c.y] 9)):=(bO.refl.tp T 0).trans (bO.below (eT (fW _ _) _))
    exact gA _ _ _ _ (xS _) ⟨s1,λ_=>⟨Bo (s2 aN).1 _,dG (s2 aN).2 _⟩,s3,⟨_,rfl,gP _ _⟩,⟨v1,(z3.tp T 0).alloc _,z4,z5.trans al,z6,z7⟩,eH s6 zeh⟩
  .obtain rfl:9=ci:=by simpa using hc
   rw[zhP] at ho;obtain rfl:=cO ho;obtain⟨s1,s2,s3,⟨g,rfl,hg⟩,⟨v1,z3,z4,z5,z6,z7⟩,s6⟩:=hS;have zG3:=Gu mJ (s:=18) aH (qP KO zBh rfl kS rfl);have zCN:=Gu mJ (s:=22) aH (qP KO zeg rfl kS rfl);refine CR.op H zhP (eE rfl) aT (λT=>?_);have a1:=z3.tp T 0;have oZ:=a1.A;rw[z6.2.2.1] at oZ;obtain⟨q1,q2,w5,fM,cT,mL,fC⟩:=On (w:=Tt.tp w' T 0) (t:=26) (ty:=26) zFQ Tryz.underlying26 rfl aH oZ (g:=g) (cs:=#[c.y]) (news:=[c.y]) hg rfl (m:=1) rfl aH Mp (show(dK c.d.r c.ev).1.log.length+1<=1000000 by omega) aH s6;have Jo:({c.d with r:=(dK c.d.r c.ev).1}:nU).r.log.length=c.d.r.log.length:=by show(dK c.d.r c.ev).1.log.length=_;rw[zoO]
   rw[Jo] at fM cT fC;have zkT:(Tt.tp w' T 0).grownBy w5 v1.sA.ownBlock:=by rw[z6.2.2.1];exact mL
   obtain⟨a6,t6⟩:=a1.putA zkT (xs:=(dK c.d.r c.ev).1.log++[(dK c.d.r c.ev).2]) (by have e:vO ((dK c.d.r c.ev).1.log++[(dK c.d.r c.ev).2])=vO (dK c.d.r c.ev).1.log++[c.y]:=(by simp[vO,txt,W3.y]);rw[e];exact cT) (by rw[jH,zoO];rfl) (by rw[z6.2.2.1];exact fC);have zcS:=a1.other (j:=9) (c:=12) (x:=v1.sA) rfl aH zkT (.slice (some ⟨q1,0,none⟩) (c.d.r.log.length+1) q2);have x9:=zcS.2.trans a1.blk;have eY:w5.heap[c.gb]? =some _:=(zkT.block c.gb (iZ (s2 aN).2) (λe=>z7 (fN (i:=9) (show(parts v1 c.hb)[9]? =some (some c.gb) by rw[e];rfl)))).trans (s2 aN).2;refine⟨_,w5,.inl (Yr rfl zG3 zCN fM),gA _ _ _ _ (xS _) ⟨s1,λ_=>⟨?_,eY⟩,s3,⟨q1,q2,rfl⟩,eW x9 12,_,a6,?_,z5.trans ((bO.refl.tp T 0).trans t6),?_,?_⟩⟩
   .have:=aI x9 12
    rw[this,<-z6.2.2.1];rfl
   .refine fY.of z4 ?_ ?_ ?_ ?_ ?_<;>rfl
   .exact z6.1
   .exact z6.2.1
  .obtain rfl:12=ci:=by simpa using hc
   rw[zmz] at ho;obtain rfl:=cO ho;obtain⟨s1,s2,s3,⟨q1,q2,rfl⟩,nZ,zF⟩:=hS;have zFV:(dF lK (VV [7,8,9,12] (Hn c.hb c.gb c.v.sA c.ev) [a,b,.slice (some ⟨q1,0,none⟩) (c.d.r.log.length+1) q2]) t0).getD 23 aA=.slice (some ⟨q1,0,none⟩) (c.d.r.log.length+1) q2:=qP KO zhP rfl kS rfl;have zFB:(dF lK (VV [7,8,9,12] (Hn c.hb c.gb c.v.sA c.ev) [a,b,.slice (some ⟨q1,0,none⟩) (c.d.r.log.length+1) q2]) t0).getD 25 aA=.pointer (some ⟨c.hb,12,none⟩):=qP KO zA6 rfl kS rfl;refine CR.op H zmz (eE rfl) aT (λT=>⟨aA,Tt.tp (w'.setCell ⟨c.hb,12,none⟩ (.slice (some ⟨q1,0,none⟩) (c.d.r.log.length+1) q2)) T 0,.inr ⟨?_,rfl⟩,?_⟩)
   .rw[Fi (KO.sel 12 _ zmz) mJ]
    have hT:xL (dF lK (VV [7,8,9,12] (Hn c.hb c.gb c.v.sA c.ev) [a,b,.slice (some ⟨q1,0,none⟩) (c.d.r.log.length+1) q2]) t0) (λs=>(dF lK (VV [7,8,9,12] (Hn c.hb c.gb c.v.sA c.ev) [a,b,.slice (some ⟨q1,0,none⟩) (c.d.r.log.length+1) q2]) t0).getD s aA):=λs=>rfl;exact st3 hT zFB zFV (s2 aN).1 nZ
   .exact gA aA _ _ _ (xS _) ⟨s1,λh=>absurd h aN,s3,W3.P2.tp zF T 0⟩
  .simp at hc
theorem bs8 {s:Int}(hT:xL Tf V)(ziC:V 45=.int .i64 s):(aO (bJ Tf []).eval znV).run aK w=.ok (.value (.slice (some ⟨w.heap.size,0,none⟩) 1 1)) (w.alloc (.cells #[.int .i64 s] 3)):=by
 unfold aO;go_simp
theorem st8 {q1 q2:Nat}(hT:xL Tf V)(Vl:V 49=.pointer (some ⟨hb,13,none⟩))(zac:V 47=.slice (some ⟨q1,0,none⟩) n q2)(hh:w.cell? ⟨hb,13,none⟩=some sA)(hf:w.frozen? ⟨hb,13,none⟩=false):(aO (bJ Tf []).eval zkZ).run aK (Tt.tp w T 0)=.ok .skip (Tt.tp (w.setCell ⟨hb,13,none⟩ (.slice (some ⟨q1,0,none⟩) n q2)) T 0):=by
 have zgq:(Tt.tp w T 0).cell? ⟨hb,13,none⟩=some sA:=hh;have Eb:(Tt.tp w T 0).frozen? ⟨hb,13,none⟩=false:=hf;clear hh hf;unfold aO;go_simp
 try rfl
def zvH:I9 jU=true:=aT
def zF4:N5 jU [8,9,10,13]=true:=aT
def zF1:jU.toList.map (·.dst)=[some 37,some 38,some 39,some 40,some 41,some 42,some 43,some 44,some 45,some 46,some 47,some 48,some 49,none]:=rfl
def zAx:jU.toList=[zud,zpx,zry,zre,zxH,zsG,zqc,zmh,zwa,znV,zxt,zo8,zpT,zkZ]:=rfl
def Ge (hb q:Nat)(sT:aF)(i:Nat):Value:=([.pointer (some ⟨hb,0,none⟩),.pointer (some ⟨hb,0,none⟩),.pointer (some ⟨hb,0,none⟩),.pointer (some ⟨hb,13,none⟩),sT,.pointer (some ⟨hb,0,none⟩),.int .i64 (q:Int),.int .i64 ((q:Int)+1),aA,aA,aA,.pointer (some ⟨hb,0,none⟩),.pointer (some ⟨hb,13,none⟩),aA]:List aF).getD i aA
theorem rdR8_7 {q:Nat}{sT:aF}(hT:xL Tf V)(zlY:V 43=.int .i64 (q:Int))(zJb:q<=100):(aO (bJ Tf []).eval zmh).run aK w=.ok (.value (.int .i64 ((q:Int)+1))) w:=by
 unfold aO;go_simp;exact Fw aC aC
structure W8 where
 es:G4
 lo:Nat
 hb:Nat
 q:Nat
 k:Nat
 ans:Int
 v0:fJ
 w0:aE
 v:fJ
 d:nU
 K0:Pr
def W8.P1 (c:W8)(w:aE):Prop:=bG w c.lo c.hb c.v c.d/\bO c.hb c.v0 c.w0 c.v w/\c.lo<=w.heap.size
def W8.P2 (c:W8)(w:aE):Prop:=∃v2,bG w c.lo c.hb v2 {c.d with tk:=c.d.tk++[c.ans]}/\fY v2 {c.d with tk:=c.d.tk++[c.ans]}/\bO c.hb c.v0 c.w0 v2 w/\v2.sL=c.v.sL/\v2.sQ=c.v.sQ
def W8.y (c:W8):Value:=.int .i64 c.ans
def W8.Rd (c:W8)(w:aE):Prop:=w.cell? ⟨c.hb,13,none⟩=some c.v.sT
def W8.St (c:W8)(vs:List aF)(l':gN)(w':aE):Prop:=match vs with
 |[]=>l'=.wk c.es.qs c.k/\c.P1 w'
 |[a]=>l'=.wk c.es.qs (c.k+1)/\a=c.y/\c.P1 w'
 |[a,b]=>l'=.wk c.es.qs (c.k+1)/\(∃g,b=.slice (some ⟨g,0,none⟩) 1 1/\w'.heap[g]? =some (.cells #[c.y] 3))/\c.P1 w'
 |[a,b,x]=>l'=.wk c.es.qs (c.k+1)/\(∃q1 q2,x=.slice (some ⟨q1,0,none⟩) (c.d.tk.length+1) q2)/\w'.frozen? ⟨c.hb,13,none⟩=false/\c.P2 (w'.setCell ⟨c.hb,13,none⟩ x)
 |_=>l'=.wk c.es.qs (c.k+1)/\c.P2 w'
def SR8 (c:W8)(vs:List aF)(K':Pr)(l':gN)(w':aE):Prop:=c.K0.le K'/\(vs.length<4->c.Rd w')/\c.St vs l' w'
variable {c:W8}
def W8.P1.tp (h:c.P1 w)(T:j6)(n:Nat):c.P1 (Tt.tp w T n):=⟨h.1.tp T n,h.2.1.tp T n,h.2.2⟩
theorem W8.P2.tp (h:c.P2 w)(T:j6)(n:Nat):c.P2 (Tt.tp w T n):=by
 obtain⟨v1,a,b,d,e⟩:=h;exact⟨v1,a.tp T n,b,d.tp T n,e⟩
theorem SR8.tp (vs:List aF)(K':Pr)(l':gN)(w':aE)(T:j6)(n:Nat)(h:SR8 c vs K' l' w'):SR8 c vs K' l' (Tt.tp w' T n):=by
 obtain⟨h1,h2,h3⟩:=h;refine⟨h1,h2,?_⟩;rcases vs with _|⟨a,_|⟨b,_|⟨x,_|⟨y,vs⟩⟩⟩⟩
 .exact⟨h3.1,W8.P1.tp h3.2 T n⟩
 .exact⟨h3.1,h3.2.1,W8.P1.tp h3.2.2 T n⟩
 .exact⟨h3.1,h3.2.1,W8.P1.tp h3.2.2 T n⟩
 .exact⟨h3.1,h3.2.1,h3.2.2.1,W8.P2.tp (w:=w'.setCell _ _) h3.2.2.2 T n⟩
 .exact⟨h3.1,W8.P2.tp h3.2 T n⟩
theorem cw_R8 (H:c.es.d.Ok)(zHl:fY c.v c.d)(hW:c.es.W[c.k]? =some (.ask c.q 0 0 c.ans))(hq:c.q<c.d.qn.length)(zC:c.q<=100)(hK:∀(i g:Nat),c.d.qn[i]? =some g->c.K0 g (qa c.es.qs i))(zkL:c.d.tk.length<=1000)(hz:t0.size=52)(uL:t0.getD 0 aA=.pointer (some ⟨c.hb,0,none⟩))(zar:t0.getD 6 aA=.int .i64 (c.q:Int))
 (hk:∀vs K' l' w',vs.length=4->SR8 c vs K' l' w'->Φ .normal ⟨[],K',l',dF jU (VV [8,9,10,13] (Ge c.hb c.q c.v.sT) vs) t0,w'⟩) (h0:SR8 c [] K l w):CW c.es.d B 58 rWO8 ⟨[],K,l,t0,w⟩ Φ:=by
 rw[rWO8_eq];have KO:=Us zvH;refine CW.drawn H wA.mixed [8,9,10,13] (Ge c.hb c.q c.v.sT) (SR8 c) zvH zF4 Lz (λvs K l w T e h=>SR8.tp vs K l w T e h) (λi o ho hi=>?_) (λvs ci o K' l' w' hc ho hS t rest mJ gA=>?_) hk h0
 .have hl:jU.toList[i]? =some o:=by rw[C1];exact ho
  rw[zAx] at hl;have aS:i<14:=by have:=(kP.1 hl).1;simpa using this
  have tn:∀(vs:List aF) {j:Nat} {oj:aZ} {s:Tmp} {v:aF},jU[j]? =some oj->oj.dst=some s->s<t0.size->VV [8,9,10,13] (Ge c.hb c.q c.v.sT) vs j=v->(dF jU (VV [8,9,10,13] (Ge c.hb c.q c.v.sT) vs) t0).getD s aA=v:=λvs _ _ _ _ a b c d=>qP KO a b c d;have tq:∀(vs:List aF) {s:Tmp},Ht jU s=false->(dF jU (VV [8,9,10,13] (Ge c.hb c.q c.v.sT) vs) t0).getD s aA=t0.getD s undef:=λvs _ a=>zg0 KO a;rcases i with _|_|_|_|_|_|_|_|_|_|_|_|_|_|i
  .obtain rfl:=cO hl
   exact⟨aT,λvs K' l' w' hv hS=>⟨eE rfl,vG (.pointer (some ⟨c.hb,0,none⟩)) ((tq vs aT).trans uL)⟩⟩
  .obtain rfl:=cO hl
   exact⟨aT,λvs K' l' w' hv hS=>⟨eE rfl,vG (.pointer (some ⟨c.hb,0,none⟩)) ((tq vs aT).trans uL)⟩⟩
  .obtain rfl:=cO hl
   exact⟨aT,λvs K' l' w' hv hS=>⟨eE rfl,vG (.pointer (some ⟨c.hb,0,none⟩)) (tn vs zCx rfl kS rfl)⟩⟩
  .obtain rfl:=cO hl
   exact⟨aT,λvs K' l' w' hv hS=>⟨eE rfl,vG (.pointer (some ⟨c.hb,13,none⟩)) (tn vs zCy rfl kS rfl)⟩⟩
  .obtain rfl:=cO hl
   exact⟨aT,λvs K' l' w' hv hS=>⟨eE rfl,rd2 (c.v.sT) (tn vs zzF rfl kS rfl) (show w'.cell? ⟨c.hb,13,none⟩=some c.v.sT from(hS.2.1 hv))⟩⟩
  .obtain rfl:=cO hl
   exact⟨aT,λvs K' l' w' hv hS=>⟨eE rfl,vG (.pointer (some ⟨c.hb,0,none⟩)) ((tq vs aT).trans uL)⟩⟩
  .obtain rfl:=cO hl
   exact⟨aT,λvs K' l' w' hv hS=>⟨eE rfl,vG (.int .i64 (c.q:Int)) ((tq vs aT).trans zar)⟩⟩
  .obtain rfl:=cO hl
   exact⟨aT,λvs K' l' w' hv hS=>⟨eE rfl,rdR8_7 (q:=c.q) (sT:=c.v.sT) (V:=λs=>(dF jU (VV [8,9,10,13] (Ge c.hb c.q c.v.sT) vs) t0).getD s aA) (λs=>rfl) (tn vs zEx rfl kS rfl) zC⟩⟩
  .exact absurd aH hi
  .exact absurd aH hi
  .exact absurd aH hi
  .obtain rfl:=cO hl
   exact⟨aT,λvs K' l' w' hv hS=>⟨eE rfl,vG (.pointer (some ⟨c.hb,0,none⟩)) (tn vs zA1 rfl kS rfl)⟩⟩
  .obtain rfl:=cO hl
   exact⟨aT,λvs K' l' w' hv hS=>⟨eE rfl,vG (.pointer (some ⟨c.hb,13,none⟩)) (tn vs zBy rfl kS rfl)⟩⟩
  .exact absurd aH hi
  .omega
 .rcases vs with _|⟨a,_|⟨b,_|⟨c',_|⟨d',vs⟩⟩⟩⟩
  .obtain rfl:8=ci:=by simpa using hc
   rw[zj4] at ho;obtain rfl:=cO ho;obtain⟨s1,s2,s3,s4⟩:=hS;have zG7:=Gu mJ (s:=42) aH (qP KO zF0 rfl kS rfl);have zFd:=Gu mJ (s:=44) aH (qP KO zF2 rfl kS rfl);refine CR.call' H #[.pointer (some ⟨c.hb,0,none⟩),.int .i64 ((c.q:Int)+1),.int .i64 0,.int .i64 0] zj4 (eE rfl) rfl (allx rfl) rfl (by simp only[vD,gT,tW];rw[zG7,zFd];rfl) (s3▸za7 H s4.1 hW hq zC (λi g hg=>s1 _ _ (hK i g hg))) (λK2 l2 y w2 hl qI=>?_);obtain⟨z1,rfl,z3⟩:=qI;subst z3;exact gA _ K2 l2 _ hl ⟨wX s1 hl,λ_=>Bo (s2 aN) _,z1,rfl,s4.1.alloc _,s4.2.1.trans (bO.below (eT (fW _ _) _)),eH s4.2.2 (by show w'.heap.size<=(w'.alloc pF).heap.size;rw[uD];exact zg8 _)⟩
  .obtain rfl:9=ci:=by simpa using hc
   rw[zdE] at ho;obtain rfl:=cO ho;obtain⟨s1,s2,s3,rfl,z3,z5,s6⟩:=hS;have zGp:(dF jU (VV [8,9,10,13] (Ge c.hb c.q c.v.sT) [c.y]) t0).getD 45 aA=c.y:=qP KO zj4 rfl kS rfl;refine CR.op H zdE (eE rfl) aT (λT=>⟨.slice (some ⟨w'.heap.size,0,none⟩) 1 1,(Tt.tp w' T 0).alloc (.cells #[c.y] 3),.inl ?_,?_⟩)
   .rw[Fi (KO.sel 9 _ zdE) mJ]
    have hT:xL (dF jU (VV [8,9,10,13] (Ge c.hb c.q c.v.sT) [c.y]) t0) (λs=>(dF jU (VV [8,9,10,13] (Ge c.hb c.q c.v.sT) [c.y]) t0).getD s aA):=λs=>rfl;exact bs8 hT zGp
   .have al:bO c.hb c.v w' c.v ((Tt.tp w' T 0).alloc (.cells #[c.y] 3)):=(bO.refl.tp T 0).trans (bO.below (eT (fW _ _) _))
    exact gA _ _ _ _ (xS _) ⟨s1,λ_=>Bo (s2 aN) _,s3,⟨_,rfl,gP _ _⟩,(z3.tp T 0).alloc _,z5.trans al,eH s6 zeh⟩
  .obtain rfl:10=ci:=by simpa using hc
   rw[zkU] at ho;obtain rfl:=cO ho;obtain⟨s1,s2,s3,⟨g,rfl,hg⟩,z3,z5,s6⟩:=hS;have zEs:=Gu mJ (s:=41) aH (qP KO zDh rfl kS rfl);have a46:=Gu mJ (s:=46) aH (qP KO zdE rfl kS rfl);refine CR.op H zkU (eE rfl) aT (λT=>?_);have a1:=z3.tp T 0;obtain⟨q1,q2,w5,fM,cT,mL,fC⟩:=On (w:=Tt.tp w' T 0) (t:=38) (ty:=38) Vs Xz rfl aH a1.T (g:=g) (cs:=#[c.y]) (news:=[c.y]) hg rfl (m:=1) rfl aH Mp aC aH s6;obtain⟨a6,t6⟩:=a1.putT mL (xs:=c.d.tk++[c.ans]) (by have e:fF (c.d.tk++[c.ans])=fF c.d.tk++[c.y]:=(by simp[fF,W8.y]);rw[e];exact cT) aN fC;have x9:=(a1.other (j:=10) (c:=13) (x:=c.v.sT) rfl aH mL (.slice (some ⟨q1,0,none⟩) (c.d.tk.length+1) q2)).2.trans a1.blk;refine⟨_,w5,.inl (Yr rfl zEs a46 fM),gA _ _ _ _ (xS _) ⟨s1,λ_=>aI x9 13,s3,⟨q1,q2,rfl⟩,eW x9 13,_,a6,?_,z5.trans ((bO.refl.tp T 0).trans t6),rfl,rfl⟩⟩;refine fY.of zHl ?_ ?_ ?_ ?_ ?_<;>rfl
  .obtain rfl:13=ci:=by simpa using hc
   rw[znS] at ho;obtain rfl:=cO ho;obtain⟨s1,s2,s3,⟨q1,q2,rfl⟩,nZ,zF⟩:=hS;have zBz:(dF jU (VV [8,9,10,13] (Ge c.hb c.q c.v.sT) [a,b,.slice (some ⟨q1,0,none⟩) (c.d.tk.length+1) q2]) t0).getD 47 aA=.slice (some ⟨q1,0,none⟩) (c.d.tk.length+1) q2:=qP KO zkU rfl kS rfl;have zGi:(dF jU (VV [8,9,10,13] (Ge c.hb c.q c.v.sT) [a,b,.slice (some ⟨q1,0,none⟩) (c.d.tk.length+1) q2]) t0).getD 49 aA=.pointer (some ⟨c.hb,13,none⟩):=qP KO zze rfl kS rfl;refine CR.op H znS (eE rfl) aT (λT=>⟨aA,Tt.tp (w'.setCell ⟨c.hb,13,none⟩ (.slice (some ⟨q1,0,none⟩) (c.d.tk.length+1) q2)) T 0,.inr ⟨?_,rfl⟩,?_⟩)
   .rw[Fi (KO.sel 13 _ znS) mJ]
    have hT:xL (dF jU (VV [8,9,10,13] (Ge c.hb c.q c.v.sT) [a,b,.slice (some ⟨q1,0,none⟩) (c.d.tk.length+1) q2]) t0) (λs=>(dF jU (VV [8,9,10,13] (Ge c.hb c.q c.v.sT) [a,b,.slice (some ⟨q1,0,none⟩) (c.d.tk.length+1) q2]) t0).getD s aA):=λs=>rfl;exact st8 hT zGi zBz (s2 aN) nZ
   .exact gA aA _ _ _ (xS _) ⟨s1,λh=>absurd h aN,s3,W8.P2.tp zF T 0⟩
  .simp at hc
def Gn (b:bY):Prop:=∀x∈b.recs,1<=x.l/\x.l<=b.o.ln
theorem Gn.mod (h:Gn b)(hf:∀x,(f x).l=x.l):∀x∈b.recs.modify i f,1<=x.l/\x.l<=b.o.ln:=λx hx=>by
 obtain⟨y,hy,rfl|rfl⟩:=S7 hx
 .exact h _ hy
 .rw[hf];exact h _ hy
theorem Gn.tires:∀(xs:List bE) (b:bY) (t:List UInt8),Gn b->Gn (xs.foldl jV (b,t)).1
 |[],b,t,h=>h
 |x::xs,b,t,h=>by
  rw[List.foldl_cons];obtain⟨e1,_,_,_,_,_,e7⟩:=zhQ b t x;have h1:Gn (jV (b,t) x).1:=λz hz=>by
   obtain⟨y,hy,_,e⟩:=e7 z hz;rw[e,e1];exact h y hy
  obtain⟨b',t',e⟩:∃b' t',jV (b,t) x=(b',t'):=⟨_,_,rfl⟩;rw[e] at h1⊢;exact Gn.tires xs b' t' h1
theorem Gn.step {b:bY}(h:Gn b)(e:dI):Gn (dK b e).1:=by
 have more:∀{l:Int} {ls:List Int} {c o f hh tt:Int} {s:ByteArray},oT b.o b.recs=l::ls->∀x∈b.recs++[(⟨c,l,o,f,hh,tt,s⟩:bR)],1<=x.l/\x.l<=b.o.ln:=λhf x hx=>by
  rcases List.mem_append.1 hx with hx|hx
  .exact h x hx
  .obtain rfl:=List.mem_singleton.1 hx
   exact zhD Y7
 unfold dK;split
 .unfold pE
  split
  .exact h
  .split
   .exact h
   .rename_i hf;exact more hf
 .split
  .unfold nH
   split
   .exact h
   .split
    .exact h
    .split
     .exact h
     .exact h.mod λx=>rfl
  .split
   .unfold l8
    split
    .exact h
    .split
     .exact h
     .split
      .exact h
      .rename_i hf;exact more hf
   .split
    .unfold mH
     split
     .split
      .exact h.mod λx=>rfl
      .exact h.mod λx=>rfl
     .split
      .exact h
      .exact h
    .exact Gn.tires _ _ _ h
variable {o:fQ}{es:List dI}
theorem zoK :∀k,k<=es.length->Gn (iI o es k)
 |0,_=>λx hx=>by cases hx
 |k+1,hk=>by
  rw[Me (mV aC)];exact(zoK k aC).step _
variable {ln qn:List Nat}
theorem zw2 (h:eM o es=true)(hk:k<=es.length){tk:List Int}(h1:ln.Nodup)(h2:(ln.length:Int)=o.ln)(h3:(qn.length:Int)=o.op):yZ ⟨iI o es k,ln,qn,tk⟩:=by
 obtain⟨a1,a2,a3⟩:=Ih h k hk;have hop:o.op=(o.op.toNat:Int):=by
  have:=(Cu a1.off).2.2.1;rw[a3] at this;omega
 obtain⟨_,_,b3⟩:=zsW h hop k hk;have hl:es.length<=60:=by unfold eM at h;simp at h;exact h.1.2
 have hg:=a1.good a2 aC;exact⟨zgA h k hk,a1,b3,h1,by show(ln.length:Int)=(iI o es k).o.ln;rw[a3];exact h2,zoK k hk,by show(qn.length:Int)=(iI o es k).o.op;rw[a3];exact h3,hg.1⟩
theorem zGX (hk:k<=es.length):∃B,rW o es es.length=rW o es k++B:=by
 have key:∀n,k<=n->∃B,rW o es n=rW o es k++B:=λn hn=>by
  induction n with
  |zero=>
   obtain rfl:k=0:=aC;exact⟨[],aN⟩
  |succ n ih=>
   rcases qX k (n+1) with h|h
   .obtain⟨B,e⟩:=ih aC
    exact⟨B++(match es[n]? with|some e=>pP (iI o es n) e|none=>[]),by show rW o es n++_=_;rw[e,Jz];rfl⟩
   .obtain rfl:k=n+1:=aC
    exact⟨[],aN⟩
 exact key _ hk
theorem asks_at (he:es[k]? =some ev):De (Cj o es) (rW o es k).length (pP (iI o es k) ev):=λj x hj=>by
 have hk:=(kP.1 he).1;obtain⟨B,e⟩:=zGX (o:=o) (es:=es) (k:=k+1) hk;have e2:rW o es (k+1)=rW o es k++pP (iI o es k) ev:=by show rW o es k++_=_;rw[he]
 have hl:=(kP.1 hj).1;unfold Cj;rw[e,e2,Jz,Jz,Po aC,Og aC,zpc];exact hj
theorem zkN (b:bY):∀n,(zK b n).length=2*n
 |0=>rfl
 |n+1=>by show(zK b n++_).length=_;rw[jH,zkN b n];simp;omega
theorem zti (b:bY):∀(n i:Nat),i<n->(zK b n)[2*i]? =some (.ask i 0 0 (dO b.recs ((i:Int)+1)))/\(zK b n)[2*i+1]? =some (.shut i)
 |0,i,h=>by omega
 |n+1,i,h=>by
  have hl:=zkN b n;show(zK b n++_)[2*i]? =_/\(zK b n++_)[2*i+1]? =_;rcases qX i n with hi|hi
  .rw[Og aC,Og aC]
   exact zti b n i hi
  .obtain rfl:i=n:=aC
   rw[Po aC,Po aC,hl,zl3,show 2*i+1-2*i=1 by omega];exact⟨rfl,rfl⟩
def zcc (b:bY):Nat->List Int
 |0=>[]
 |n+1=>zcc b n++[dO b.recs ((n:Int)+1)]
theorem ztP (b:bY):∀n,(zcc b n).length=n
 |0=>rfl
 |n+1=>by show(zcc b n++_).length=_;rw[jH,ztP b n];rfl
theorem zzs (h:eM o es=true)(he:es[k]? =some ev):(dK (iI o es k) ev).1.log=(iI o es k).log/\(iI o es k).log.length<=1000/\q9 (iI o es k).o.op ev=true:=by
 have hk:=(kP.1 he).1;obtain⟨a1,a2,a3⟩:=Ih h k aC;have bS:=h;unfold eM at bS;simp only[jF,wN,decide_eq_true_eq] at bS;have nI:q9 (iI o es k).o.op ev=true:=by rw[a3];exact bS.2 ev (fN he)
 have:=a2.nl;exact⟨(a1.step a2 nI aC).2.2.2,aC,nI⟩
def Bg (o:fQ)(es:List dI)(ln qn:List Nat)(k:Nat):nU:=⟨iI o es k,ln,qn,[]⟩
def tP (o:fQ)(es:List dI)(ln qn:List Nat)(i:Nat):nU:=⟨Ja o es,ln,qn,zcc (Ja o es) i⟩
structure zaX (e:G4)(o:fQ)(es:List dI)(ln qn:List Nat)(lo hb:Nat)(v:fJ)(w:aE)(K:Pr)(A:Option bC)(n c:Nat):Prop where
 ok:eM o es=true
 W:e.W=Cj o es
 at_:bG w lo hb v (Bg o es ln qn 0)
 mr:fY v (Bg o es ln qn 0)
 nd:ln.Nodup
 nl:(ln.length:Int)=o.ln
 nq:(qn.length:Int)=o.op
 qs:e.qs.length=qn.length
 lo_:lo<=w.heap.size
 tab:Cb lo w
 ev:cG w 0 lo 3 A n c (qW es)
 K:∀(i g:Nat),qn[i]? =some g->K g (qa e.qs i)
theorem cG.lowT {s c:Nat}{xs:List aF}(h:cG w 0 lo s A n c xs)(a:bG w lo hb v d)(eF:lo<=w.heap.size)(t:bO hb v w v' w'):cG w' 0 lo s A n c xs:=by
 refine⟨h.len,h.le,h.cap,λhn=>?_⟩;obtain⟨b,off,e,h1,h2,h3,h4⟩:=h.at_ hn;have hz:=t.size;exact⟨b,off,e,h1,h2,aC,λj u hj=>(aE.cell?_of_block (t.block b h3 (λx=>by have:=(a.lt b x).1;omega))).trans (h4 j u hj)⟩
theorem cf_work (H:e.d.Ok){c:Nat}(h:zaX e o es ln qn lo hb v w K A n c):
 CF e.d 58 #[.pointer (some ⟨hb,0,none⟩),.slice A n c] K (.wk e.qs 0) w (λK' l' y w'=>l'=.wk e.qs e.W.length/\∃v',bG w' lo hb v' (tP o es ln qn qn.length)/\fY v' (tP o es ln qn qn.length)/\bO hb v w v' w'):=by
 refine CF.of 52 zkm (.inl rfl) ?_;have HP:=aD h;have Fh:es.length=n:=h.ev.eventsLen;have pD:es.length<=60:=by have:=h.ok;unfold eM at this;simp at this;exact this.1.2
 have zxh:n<=60:=aC;have P8:=aD Fh;clear Fh pD h;refine CW.sq H ?_;refine CW.sq H ?_;refine CW.pQ H Pb (λzCK Q HQ=>?_);go_wp2;refine HQ.o _ _ ?_;clear HQ;refine CW.tape (s:=⟨[],K,.wk e.qs 0,_,w⟩) ?_ zCK 0;refine CW.block H ?_;refine CW.loop H (λnn s=>∃(k:Nat) (wz:aE) (Kz:Pr) (vz:fJ) (u2 u3 u4 u5 u6 u7 gE gD gG gF gC u16 iE kN kT jQ iG iJ gY iH iD iF iL iA iM jJ jK u32 iN iB iC iP kW lC gZ iO iK jE iW iY iR iS jB iV jC jD iT:aF),s=⟨[],Kz,.wk e.qs (rW o es k).length,#[.pointer (some ⟨hb,0,none⟩),.slice A n c,u2,u3,u4,u5,u6,u7,.slice A n c,.int .i64 (n:Int),.int .i64 (k:Int),gE,gD,gG,gF,gC,u16,iE,kN,kT,jQ,iG,iJ,gY,iH,iD,iF,iL,iA,iM,jJ,jK,u32,iN,iB,iC,iP,kW,lC,gZ,iO,iK,jE,iW,iY,iR,iS,jB,iV,jC,jD,iT],wz⟩/\k<=n/\nn=n-k/\K.le Kz/\bG wz lo hb vz (Bg o es ln qn k)/\fY vz (Bg o es ln qn k)/\bO hb v w vz wz/\vz.sL=v.sL/\vz.sQ=v.sQ) (λnn s hs=>?_) (n:=n) ?_
 rotate_left
 .exact⟨0,w,K,v,_,_,_,_,_,_,_,_,_,_,_,_,_,_,_,_,_,_,_,_,_,_,_,_,_,_,_,_,_,_,_,_,_,_,_,_,_,_,_,_,_,_,_,_,_,_,_,rfl,lP _,rfl,xS _,HP.o.at_,HP.o.mr,bO.refl,rfl,rfl⟩
 .obtain⟨k,wz,Kz,vz,u2,u3,u4,u5,u6,u7,gE,gD,gG,gF,gC,u16,iE,kN,kT,jQ,iG,iJ,gY,iH,iD,iF,iL,iA,iM,jJ,jK,u32,iN,iB,iC,iP,kW,lC,gZ,iO,iK,jE,iW,iY,iR,iS,jB,iV,jC,jD,iT,rfl,tG,C5,ziu,az,mz,tz,zrz,zup⟩:=hs
  have A1:=aD az;have M1:=aD mz;have T1:=aD tz;have EZ:=aD (And.intro zrz zup);clear az mz tz zrz zup;refine CW.sq H ?_;refine CW.pQ H Pb (λzdL Q HQ=>?_);by_cases aS:k<n
  .have Ha:(k:Int)<(n:Int):=aC
   go_wp2;refine HQ.o _ _ ?_;clear HQ Ha;refine CW.tape (s:=⟨[],Kz,.wk e.qs (rW o es k).length,_,wz⟩) ?_ zdL 0;refine CW.sq H ?_;refine CW.cd H true ?_;refine CW.sk H ?_;dsimp only;have Bu:=HP.o.ev.lowT HP.o.at_ HP.o.lo_ T1.o;obtain⟨be,oe,ev,hA,zBq,zfO,zh5,Fu,e0,e1,e2⟩:=Bu.eventsAt aS;subst hA;obtain⟨zq1,zqP,st3⟩:=zzs HP.o.ok Fu;have Na:=aD Fu;have uV:=aD (And.intro zq1 (And.intro zqP st3));clear Fu zq1 zqP st3 Bu;have i0:(0:Int)<=(k:Int):=aC;have i1:(k:Int)<(n:Int):=aC;refine CW.sq H ?_;refine CW.block H ?_;refine CW.sq H ?_;refine CW.pQ H Pb (λzE Q HQ=>?_);obtain⟨w2,eG⟩:=aP (Tt.tp wz zE 0);have A2:=aD (show bG w2 lo hb vz (Bg o es ln qn k) by rw[eG];exact A1.o.tp zE 0);have T2:=aD (show bO hb v w vz w2 by rw[eG];exact T1.o.tp zE 0);have Zp:w2.cell? ⟨be,oe+k*3,none⟩=some (.string ev.k):=by rw[eG];exact e0
   have C8:w2.cell? ⟨be,oe+k*3+1,none⟩=some (.int .i64 ev.a):=by rw[eG];exact e1
   have zdk:w2.cell? ⟨be,oe+k*3+2,none⟩=some (.int .i64 ev.b):=by rw[eG];exact e2
   try dsimp only
   rw[<-eG];clear eG A1 T1 e0 e1 e2;go_wp2;refine HQ.o _ _ ?_;clear HQ Zp C8 zdk;obtain⟨gb,eY⟩:=aP w2.heap.size;obtain⟨w3,iU⟩:=aP (w2.alloc (.cells #[.string ev.k,.int .i64 ev.a,.int .i64 ev.b] 54));have A3:=aD (show bG w3 lo hb vz (Bg o es ln qn k) by rw[iU];exact A2.o.alloc _);have T3:=aD (show bO hb v w vz w3 by rw[iU];exact T2.o.trans (bO.below (eT (fW _ _) _)));have vM:=aD (show w3.heap[gb]? =some (.cells #[.string ev.k,.int .i64 ev.a,.int .i64 ev.b] 54) by rw[iU,eY];exact gP _ _);have NP:=aD (show some gb∉parts vz hb from λhp=>by have:=(A2.o.lt _ hp).2;omega);rw[<-eY,<-iU];clear iU eY A2 T2;have zmP:lo<=w3.heap.size:=eH HP.o.lo_ T3.o.size;have zuD:k<=es.length:=by have:=P8.o;omega
   obtain⟨Gk,zhx,zHR⟩:=Ih HP.o.ok k zuD;have pre:EvPre lo hb vz (Bg o es ln qn k) w3:=⟨A3.o,M1.o,zw2 HP.o.ok zuD HP.o.nd HP.o.nl HP.o.nq,zmP,HP.o.tab.turn HP.o.at_ HP.o.lo_ T3.o,by have:=zhx.clk;show(iI o es k).clk<=_;omega,by have h1:=zhx.nw;have h2:=zhx.nb;show(iI o es k).back.length+(iI o es k).wait.length<=_;omega⟩;have zoi:w3.cell? ⟨hb,12,none⟩=some vz.sA:=aI A3.o.blk 12;have zIi:=aD pre;have RD:=aD zoi;clear pre zoi Gk zhx zHR;refine cw_R3 (c:=⟨e,lo,hb,gb,(rW o es k).length,v,w,vz,Bg o es ln qn k,ev,Kz⟩) H uV.o.2.2 (by show De e.W _ _;rw[HP.o.W];exact asks_at Na.o) (λi g hg=>ziu _ _ (HP.o.K i g hg)) (by show(dK (iI o es k) ev).1.log.length<=1000;rw[uV.o.1];exact uV.o.2.1) uV.o.1 rfl rfl rfl (λvs K' l' w' uB hS=>?_) ⟨xS _,λ_=>⟨RD.o,vM.o⟩,rfl,zIi.o,T3.o,NP.o⟩;rw[Go.Mt.Bn,zzW];simp only[Go.Mt.xN,dP,dQ];obtain⟨s1,s2,s3⟩:=hS;have s4:l'=.wk e.qs ((rW o es k).length+(pP (iI o es k) ev).length)/\W3.P2 ⟨e,lo,hb,gb,(rW o es k).length,v,w,vz,Bg o es ln qn k,ev,Kz⟩ w':=by
    rcases vs with _|⟨a,_|⟨b,_|⟨x,_|⟨y,vs⟩⟩⟩⟩
    .cases uB
    .cases uB
    .cases uB
    .cases uB
    .exact s3
   obtain⟨rfl,v2,a2,m2,t2,q1,q2⟩:=s4;have e3:(rW o es (k+1)).length=(rW o es k).length+(pP (iI o es k) ev).length:=by show(rW o es k++_).length=_;rw[Na.o,jH]
   have e4:Bg o es ln qn (k+1)={Bg o es ln qn k with r:=Et (dK (iI o es k) ev)}:=by unfold Bg;rw[Me Na.o]
   have A4:=aD (show bG w' lo hb v2 (Bg o es ln qn (k+1)) by rw[e4];exact a2);have M4:=aD (show fY v2 (Bg o es ln qn (k+1)) by rw[e4];exact m2);have T4:=aD t2;have Q4:=aD (And.intro (q1.trans EZ.o.1) (q2.trans EZ.o.2));have sH:K.le K':=wX ziu s1;rw[<-e3];clear a2 m2 t2 q1 q2 e3 e4 s1 s2 s3 uB;refine CW.pQ H Pb (λzv5 Q HQ=>?_);go_wp2;refine HQ.o _ _ ?_;clear HQ;exact⟨n-(k+1),aC,k+1,_,K',v2,_,_,_,_,_,_,_,_,_,_,_,_,_,_,_,_,_,_,_,_,_,_,_,_,_,_,_,_,_,_,_,_,_,_,_,_,_,_,_,_,_,_,_,_,_,_,_,rfl,aC,rfl,sH,A4.o.tp zv5 0,M4.o,T4.o.tp zv5 0,Q4.o.1,Q4.o.2⟩
  .have Ha:¬(k:Int)<(n:Int):=aC
   have mB:=aD (show k=es.length by have:=P8.o;omega);go_wp2;refine HQ.o _ _ ?_;clear HQ Ha;refine CW.tape (s:=⟨[],Kz,.wk e.qs (rW o es k).length,_,wz⟩) ?_ zdL 0;refine CW.sq H ?_;refine CW.cd H false ?_;refine CW.exit H aN ?_;dsimp only;rw[if_pos rfl];have Ai:=mB.o;subst Ai;have Tg:Bg o es ln qn es.length=tP o es ln qn 0:=by unfold Bg tP;rw[Qx];rfl
   rw[Tg] at A1 M1;obtain⟨AQ,cQ,zaV,zDc⟩:=Hx A1.o.Q aH;obtain⟨nq,zdo⟩:=aP qn.length;have Rv:=aD zdo;have zyo:=aD (show vz.sQ=.slice AQ nq cQ by rw[zdo];exact zaV);have Z2:=(Cu (zw2 (tk:=[]) HP.o.ok (lP _) HP.o.nd HP.o.nl HP.o.nq).R.off).2.2.2.1;have zK6:nq<=4:=by
    have h1:=HP.o.nq;have h2:(iI o es 0).o.op<=4:=Z2;have h3:(iI o es 0).o=o:=rfl;rw[h3] at h2;omega
   clear zaV zDc zdo Tg Z2 aS C5;refine CW.sq H ?_;refine CW.pQ H Pb (λSr Q HQ=>?_);obtain⟨w5,lB⟩:=aP (Tt.tp wz Sr 0);have A5:=aD (show bG w5 lo hb vz (tP o es ln qn 0) by rw[lB];exact A1.o.tp Sr 0);have T5:=aD (show bO hb v w vz w5 by rw[lB];exact T1.o.tp Sr 0)
   try dsimp only
   rw[<-lB];clear lB A1 T1;have k6:w5.cell? ⟨hb,6,none⟩=some (.slice AQ nq cQ):=by
    have:=aI A5.o.blk 6;rw[this,<-zyo.o];rfl
   go_wp2;refine HQ.o _ _ ?_;clear HQ k6;obtain⟨k0,lO⟩:=aP ((rW o es es.length).length);have yU:=aD lO;rw[<-lO];clear lO;refine CW.block H ?_;refine CW.loop H (λnn s=>∃(k:Nat) (wy:aE) (Ky:Pr) (vy:fJ) (u1 u2 u3 u4 u5 u6 u7 u8 u9 gV gE gD gG gF gC u16 iE kN kT jQ iG iJ gY iH iD iF iL iA iM iN iB iC iP kW lC gZ iO iK jE iW iY iR iS jB iV jC jD iT:aF),s=⟨[],Ky,.wk e.qs (k0+2*k),#[.pointer (some ⟨hb,0,none⟩),u1,u2,u3,u4,u5,u6,u7,u8,u9,gV,gE,gD,gG,gF,gC,u16,iE,kN,kT,jQ,iG,iJ,gY,iH,iD,iF,iL,iA,iM,.slice AQ nq cQ,.int .i64 (nq:Int),.int .i64 (k:Int),iN,iB,iC,iP,kW,lC,gZ,iO,iK,jE,iW,iY,iR,iS,jB,iV,jC,jD,iT],wy⟩/\k<=nq/\nn=nq-k/\K.le Ky/\bG wy lo hb vy (tP o es ln qn k)/\fY vy (tP o es ln qn k)/\bO hb v w vy wy/\vy.sQ=vz.sQ) (λnn s hs=>?_) (n:=nq) ?_
   rotate_left
   .exact⟨0,w5,Kz,vz,_,_,_,_,_,_,_,_,_,_,_,_,_,_,_,_,_,_,_,_,_,_,_,_,_,_,_,_,_,_,_,_,_,_,_,_,_,_,_,_,_,_,_,_,_,_,_,_,rfl,lP _,rfl,ziu,A5.o,M1.o,T5.o,rfl⟩
   .obtain⟨k,wy,Ky,vy,u1,u2,u3,u4,u5,u6,u7,u8,u9,gV,gE,gD,gG,gF,gC,u16,iE,kN,kT,jQ,iG,iJ,gY,iH,iD,iF,iL,iA,iM,iN,iB,iC,iP,kW,lC,gZ,iO,iK,jE,iW,iY,iR,iS,jB,iV,jC,jD,iT,rfl,zJ3,zJM,zoM,ay,my,ty,ey⟩:=hs
    have A6:=aD ay;have M6:=aD my;have T6:=aD ty;have EY:=aD ey;clear ay my ty ey A5 T5 M1;refine CW.sq H ?_;refine CW.pQ H Pb (λzcW Q HQ=>?_);by_cases aS:k<nq
    .have Ha:(k:Int)<(nq:Int):=aC
     go_wp2;refine HQ.o _ _ ?_;clear HQ;refine CW.sq H ?_;refine CW.cd H true ?_;refine CW.sk H ?_;dsimp only;have Ot:e.W[k0+2*k]? =some (.ask k 0 0 (dO (Ja o es).recs ((k:Int)+1)))/\e.W[k0+2*k+1]? =some (.shut k):=by
      have zkH:o.op.toNat=nq:=by have:=HP.o.nq;have:=Rv.o;omega
      obtain⟨x1,x2⟩:=zti (Ja o es) nq k aS;rw[HP.o.W];unfold Cj;rw[zkH,Po (by have:=yU.o;omega),Po (by have:=yU.o;omega),<-yU.o,zpc,show k0+2*k+1-k0=2*k+1 by omega];exact⟨x1,x2⟩
     refine CW.sq H ?_;refine CW.block H ?_;refine CW.sq H ?_;refine CW.pQ H Pb (λVk Q HQ=>?_);obtain⟨w7,rM⟩:=aP (Tt.tp (Tt.tp wy zcW 0) Vk 0);have A7:=aD (show bG w7 lo hb vy (tP o es ln qn k) by rw[rM];exact(A6.o.tp zcW 0).tp Vk 0);have T7:=aD (show bO hb v w vy w7 by rw[rM];exact(T6.o.tp zcW 0).tp Vk 0)
     try dsimp only
     rw[<-rM];clear rM A6 T6;have oZ:=A7.o.Q;rw[EY.o,zyo.o] at oZ;have oZ:w7.ownsRow lo 95 1 (.slice AQ nq cQ) nq (J5 qn):=by rw[Rv.o];rw[Rv.o] at oZ;exact oZ
     obtain⟨bq,oq,gq,hA,Cv,zGe⟩:=zgD (zY oZ aH) aS;subst hA;have zH2:=aD Cv;have i0:(0:Int)<=(k:Int):=aC;clear oZ Cv;go_wp2;refine HQ.o _ _ ?_;clear HQ zGe;have zrq:w7.cell? ⟨hb,13,none⟩=some vy.sT:=aI A7.o.blk 13;have zEA:lo<=w7.heap.size:=eH HP.o.lo_ T7.o.size;have zrm:k<qn.length:=by have:=Rv.o;omega
     refine CW.sq H ?_;refine cw_R8 (c:=⟨e,lo,hb,k,k0+2*k,dO (Ja o es).recs ((k:Int)+1),v,w,vy,tP o es ln qn k,Ky⟩) H M6.o Ot.1 zrm (by show k<=100;omega) (λi g hg=>zoM _ _ (HP.o.K i g hg)) (by show(zcc (Ja o es) k).length<=1000;rw[ztP];omega) rfl rfl rfl (λvs K' l' w' uB hS=>?_) ⟨xS _,λ_=>zrq,rfl,A7.o,T7.o,zEA⟩;rw[Go.Mt.Bn,zF1];simp only[Go.Mt.xN,dP,dQ];obtain⟨s1,s2,s3⟩:=hS;have s4:l'=.wk e.qs (k0+2*k+1)/\W8.P2 ⟨e,lo,hb,k,k0+2*k,dO (Ja o es).recs ((k:Int)+1),v,w,vy,tP o es ln qn k,Ky⟩ w':=by
      rcases vs with _|⟨a,_|⟨b,_|⟨x,_|⟨y,vs⟩⟩⟩⟩
      .cases uB
      .cases uB
      .cases uB
      .cases uB
      .exact s3
     obtain⟨rfl,v2,a2,m2,t2,q1,q2⟩:=s4;have A8:=aD (show bG w' lo hb v2 (tP o es ln qn (k+1)) from a2);have M8:=aD (show fY v2 (tP o es ln qn (k+1)) from m2);have T8:=aD t2;have Q8:=aD (q2.trans EY.o);have sH:K.le K':=wX zoM s1;have zBj:K' gq (qa e.qs k):=sH _ _ (HP.o.K k gq zH2.o);clear a2 m2 t2 q1 q2 s1 s2 s3 uB zrq;refine CW.rg H [0,1] ?_;refine CR.mv H (.chan (some gq)) ?_;refine CR.shut H (k:=k0+2*k+1) (q:=k) zDa rfl rfl zkm rfl rfl Ot.2 (by show k<e.qs.length;rw[HP.o.qs];exact zrm) rfl rfl zBj ?_;simp only[cC,fO,dP,dQ];refine CR.nil H ?_;refine CW.pQ H Pb (λWe Q HQ=>?_);go_wp2;refine HQ.o _ _ ?_;clear HQ;exact⟨nq-(k+1),aC,k+1,_,K',v2,_,_,_,_,_,_,_,_,_,_,_,_,_,_,_,_,_,_,_,_,_,_,_,_,_,_,_,_,_,_,_,_,_,_,_,_,_,_,_,_,_,_,_,_,_,_,_,_,rfl,aC,rfl,sH,A8.o.tp We 0,M8.o,T8.o.tp We 0,Q8.o⟩
    .have Ha:¬(k:Int)<(nq:Int):=aC
     have mB:=aD (show k=nq by omega);go_wp2;refine HQ.o _ _ ?_;clear HQ Ha;refine CW.sq H ?_;refine CW.cd H false ?_;refine CW.exit H aN ?_;dsimp only;rw[if_pos rfl];have Ai:=mB.o;subst Ai;have zEr:e.W.length=k0+2*k:=by
      have zkH:o.op.toNat=k:=by have:=HP.o.nq;have:=Rv.o;omega
      rw[HP.o.W];unfold Cj;rw[jH,<-yU.o,zkH,zkN]
     refine⟨aN,rfl,.tuple #[],rfl,by rw[zEr],vy,?_,?_,T6.o.tp zcW 0⟩
     .rw[<-Rv.o];exact A6.o.tp zcW 0
     .rw[<-Rv.o];exact M6.o
end Go.Proofs.YtfcjiloojkjaeaaGreatDoor
namespace Go.Proofs.YtfcjiloojkjaeaaGreatDoor
open Go.RowKit Go.Mt Go.Conc Go.Tt Go.Conc.Lib Go.ConcR.Gen
abbrev rV:WgLink:={add:=53,done:=55,wait:=59,relMerge:=68,disable:=69,enable:=70,inBubble:=71,associate:=72,fatal:=73,uOr:=74,uAdd:=75,raceRead:=76,uLoad:=77,uStore:=78,disassociate:=79,semrelease:=80,acquire:=83,isAssociated:=84,uCas:=85,raceWrite:=86,semacquire:=87,orU64:=97,addU64:=98,loadU64:=99,storeU64:=100,casU64:=106,tWgP:=108,tUP:=110,tAssoc:=112,tWg:=94,tAU:=91,tU64:=89,tUint:=116,tU32:=92,tPU32:=117,tPAU:=137,tPU64:=139,tNoCopy:=86,tANoCopy:=87,tAlign64:=88}
def zdc:WgLib aK rV:=
 ⟨Tryz.func53,Tryz.func55,Tryz.func59,Tryz.func68,Tryz.func69,Tryz.func70,Tryz.func71,Tryz.func72,Tryz.func73,Tryz.func74,Tryz.func75,Tryz.func76,Tryz.func77,Tryz.func78,Tryz.func79,Tryz.func80,Tryz.func83,Tryz.func84,Tryz.func85,Tryz.func86,Tryz.func87,Tryz.func97,Tryz.func98,Tryz.func99,Tryz.func100,Tryz.func106,Tryz.underlying108,Tryz.runUnderlying108,Tryz.sizeOf108,Tryz.isAgg108,Tryz.zeroValue108,Tryz.underlying110,Tryz.runUnderlying110,Tryz.sizeOf110,Tryz.isAgg110,Tryz.zeroValue110,Tryz.underlying112,Tryz.runUnderlying112,Tryz.sizeOf112,Tryz.isAgg112,Tryz.zeroValue112,Tryz.underlying94,Tryz.runUnderlying94,Tryz.sizeOf94,Tryz.isAgg94,Tryz.zeroValue94,Tryz.underlying91,Tryz.runUnderlying91,Tryz.sizeOf91,Tryz.isAgg91,Tryz.zeroValue91,Tryz.underlying89,Tryz.runUnderlying89,Tryz.sizeOf89,Tryz.isAgg89,Tryz.zeroValue89,Tryz.underlying116,Tryz.runUnderlying116,Tryz.sizeOf116,Tryz.isAgg116,Tryz.zeroValue116,Tryz.underlying92,Tryz.runUnderlying92,Tryz.sizeOf92,Tryz.isAgg92,Tryz.zeroValue92,Tryz.underlying117,Tryz.runUnderlying117,Tryz.sizeOf117,Tryz.isAgg117,Tryz.zeroValue117,Tryz.underlying137,Tryz.runUnderlying137,Tryz.sizeOf137,Tryz.isAgg137,Tryz.zeroValue137,Tryz.underlying139,Tryz.runUnderlying139,Tryz.sizeOf139,Tryz.isAgg139,Tryz.zeroValue139,Tryz.underlying0,Tryz.runUnderlying0,Tryz.sizeOf0,Tryz.isAgg0,Tryz.zeroValue0,Tryz.underlying3,Tryz.runUnderlying3,Tryz.sizeOf3,Tryz.isAgg3,Tryz.zeroValue3,Tryz.underlying4,Tryz.runUnderlying4,Tryz.sizeOf4,Tryz.isAgg4,Tryz.zeroValue4,Tryz.underlying9,Tryz.runUnderlying9,Tryz.sizeOf9,Tryz.isAgg9,Tryz.zeroValue9,Tryz.underlying20,Tryz.runUnderlying20,Tryz.sizeOf20,Tryz.isAgg20,Tryz.zeroValue20,Tryz.underlying21,Tryz.runUnderlying21,Tryz.sizeOf21,Tryz.isAgg21,Tryz.zeroValue21,aT,aT⟩
instance:Go.ConcR.Payload:=⟨3⟩
end Go.Proofs.YtfcjiloojkjaeaaGreatDoor
namespace Go.Proofs.YtfcjiloojkjaeaaGreatDoor
open Go.RowKit Go.Mt Go.Conc Go.Tt Go.Maps Go.Conc.Lib Go.ConcR.Gen
open Go.ConcR (KK wgBlock WgAt stA smA rd wr)
variable {K:Pr}{Q:Pr->Prop}{ds:Dk}{pin:List (Nat×aF)}{w:aE}{Ψ:Pr->gN->aF->aE->Prop}
theorem BO.callF {d:qA}(H:d.Ok){base:List Frame}(hQ:Up Q){fn:aQ}{tmps:Array aF}{ops:Array aZ}{i:Nat}{rest:List Nat}{k:List Item}{l:gN}{o:aZ}{g:aQ}{args:Array cK}{kJ:Array aM}(Nq:Array aF)
 (ho:ops[i]? =some o) (cE:dE o (dH ops tmps)=true) (hop:o.op=.call ⟨.value (.func g),args,kJ⟩) (wK:args.all (dV d.fs)=true) (ha:args.map (bJ tmps []).eval=Nq) (lE:∀s,o.dst=some s->s∉pin.map (·.1)) (hc:CF d g Nq K l w Ψ)
 (hk:∀K' l' v w',K.le K'->Ψ K' l' v w'->BO (d.cx K' Q [] base ds pin) l' ⟨fn,(cC ⟨tmps,[]⟩ o.dst v).tmps,.inRegion ops rest::k,false⟩ w'):BO (d.cx K Q [] base ds pin) l ⟨fn,tmps,.inRegion ops (i::rest)::k,false⟩ w:=by
 obtain⟨fnf,cf,g1,g2,g3,g4,g5⟩:=hc.ex;refine BO.callN (H.iok hQ) ho cE hop (Callee.static _ _) wK g1 g2 g3 g4 λoM m' hm=>?_;rw[qA.sub_eq];have fin:∀(s':WS) todo,K.le s'.K->(s'.chs=[]/\∃v,(oG fnf.results.toList s'.T).run d.p s'.w=.ok v s'.w/\Ψ s'.K s'.l v s'.w)->d.bo (λR=>Q R/\oM.le R) (fx [] ds m'::base) s' g todo true:=λs' todo hl ⟨h2,v,h3,h4⟩=>by
  obtain⟨zId,K',l',T',w'⟩:=s';simp only at*;subst h2;unfold qA.bo;simp only;rw[<-qA.sub_eq (pin:=pin)];refine BO.retN (C:=d.cx K' Q [] base ds pin) (H.iok hQ) (hm.upK hl _) rfl rfl (λs hs=>lE s tD) g1 h3 ?_;have:=hk K' l' v w' hl h4;simp only[Fm.fin,ho,Option.bind_some]
  cases hd:o.dst with
  |none=>rw[hd] at this;exact this
  |some s=>rw[hd] at this;exact this
 have e:(#[]:Array aF)++args.map (bJ tmps []).eval++ #[]=Nq:=by rw[<-ha];simp
 rw[e];refine g5 (λR=>Q R/\oM.le R) (fx [] ds m'::base) [] (hQ.and oM) (λ_ h=>by cases h) (λs' hl x=>BO.fall (H.iok (hQ.and oM)) (fin s' [] hl x.2)) (λid k2 s' hl ee x=>by cases ee) (λs' todo hl x=>fin s' todo hl x.2)
def Wi:Go.Code:=(Tryz.f57.body).getD .skip
def rH20:Go.Code:=match Wi with| .seq (a) _=>a|_=>.skip
def rH21:Go.Code:=match Wi with| .seq _ (a)=>a|_=>.skip
def zE9:Wi=.seq (rH20) (rH21):=rfl
def zgV:Array Oper:=match rH20 with| .region _ ops _=>ops|_=>#[]
def rH20_eq:rH20=.region 0 zgV false:=rfl
def zID:iQ zgV.size=[0]:=rfl
abbrev zt9:Oper:=aV zgV 0 none (.defer ⟨.value (.func 55),#[.tmp 0],#[94]⟩)
def zH8:zgV[0]? =some zt9:=rfl
def Qb:Array Oper:=match rH21 with| .region _ ops _=>ops|_=>#[]
def rH21_eq:rH21=.region 1 Qb false:=rfl
def zFx:iQ Qb.size=[0,1,2]:=rfl
abbrev oH21_0:Oper:=aV Qb 0 (some 3) (.load 63 (.tmp 1))
def zB6:Qb[0]? =some oH21_0:=rfl
abbrev oH21_1:Oper:=aV Qb 1 (some 4) (.load 31 (.tmp 2))
def zBo:Qb[1]? =some oH21_1:=rfl
abbrev oH21_2:Oper:=aV Qb 2 (some 5) (.call ⟨.value (.func 58),#[.tmp 3,.tmp 4],#[63,31]⟩)
def zGb:Qb[2]? =some oH21_2:=rfl
variable {N:Nat}{W:List fK}{D:aE->Prop}
theorem zFS {qs:List Nat}:(C3 N W D).act (.wk qs W.length)=.done:=by
 show eO N W (.wk qs W.length)=_;simp[eO]
theorem zzz {e:G4}(H:e.d.Ok)(Cs:e.ty=rV.tWg){lo hb gh ge n c:Nat}{A:Option bC}{v:fJ}{o:fQ}{es:List dI}{ln qn:List Nat}(h:zaX e o es ln qn lo hb v w K A n c)(hh:w.cell? ⟨gh,0,none⟩=some (.pointer (some ⟨hb,0,none⟩)))(he:w.cell? ⟨ge,0,none⟩=some (.slice A n c))(hQ:Up Q)
 (uG:∀K' R τ W w' v',K.le K'->Q R->cV (SF fU) K' R (pK aK) e.St w' W->IQ e.W0 e.StI e.Shun e.Wg e.SS e.R0 e.Fz e.Wf e.qs [] R τ W->bG w' lo hb v' (tP o es ln qn qn.length)->fY v' (tP o es ln qn qn.length)->bO hb v w v' w'->e.D W):
 BO (e.d.cx K Q [] [wV aK] ⟨[],.deferred,aN⟩ [(0,.pointer (some ⟨e.Wg,0,none⟩))]) (.wk e.qs 0) ⟨57,#[.nilFunc,.pointer (some ⟨gh,0,none⟩),.pointer (some ⟨ge,0,none⟩),aA,aA,aA],[.code Wi],false⟩ w:=by
 let C:=e.d.cx K Q [] [wV aK] ⟨[],.deferred,aN⟩ [(0,.pointer (some ⟨e.Wg,0,none⟩))]
 have hI:fD C:=H.iok hQ
 let d1:=dcall 55 #[.pointer (some ⟨e.Wg,0,none⟩)]
 have Kc:fD (C.dfr d1):=hI.dfr d1;have F:wC C.P C.fs:=nF;show BO C _ _ _;rw[zE9];refine BO.seq hI ?_;rw[rH20_eq];refine BO.regs hI _ zID ?_;refine BO.defer hI (d:=d1) zH8 rfl rfl (λR w W bV _ _ Em aX=>?_) ?_
 .have h0:=Em (0,.pointer (some ⟨e.Wg,0,none⟩)) (by show _∈[_];simp)
  have:=zvS (p:=C.p) (o:=zt9) (ρ:=(bJ bV C.ds.ds).eval) rfl rfl aX;simp only[vD,gT,tW,wZ] at this;simp only at h0;rw[h0] at this;exact this
 refine BO.regEnd Kc ?_;rw[rH21_eq];refine BO.regs Kc _ zFx ?_;refine BO.op (C:=C.dfr d1) F Kc zB6 rfl aT zvb (λT=>⟨.pointer (some ⟨hb,0,none⟩),Tt.tp w T 0,.inl (zaZ (a:=⟨gh,0,none⟩) rfl rfl (Tryz.isAgg63 _) hh),?_⟩);simp only[cC,fO,dP,dQ];refine BO.tape ?_ T 0;clear T;refine BO.op (C:=C.dfr d1) F Kc zBo rfl aT (by intro s hs;cases hs;show(4:Nat)∉([0]:List Nat);decide) (λT=>⟨.slice A n c,Tt.tp w T 0,.inl (zaZ (a:=⟨ge,0,none⟩) rfl rfl (Tryz.isAgg31 _) he),?_⟩);simp only[cC,fO,dP,dQ];refine BO.tape ?_ T 0;clear T;have eC:C.dfr d1=e.d.cx K Q [] [wV aK] ⟨[d1],.deferred,aN⟩ [(0,.pointer (some ⟨e.Wg,0,none⟩))]:=rfl;rw[eC];refine BO.callF H hQ #[.pointer (some ⟨hb,0,none⟩),.slice A n c] zGb rfl rfl aT (by simp only[vD,gT,tW,wZ];rfl) aN (cf_work H h) λK' l' y w' hl hx=>?_;obtain⟨rfl,v',hA,hm,hT⟩:=hx;have H9:fD (e.d.cx K' Q [] [wV aK] ⟨[d1],.deferred,aN⟩ [(0,.pointer (some ⟨e.Wg,0,none⟩))]):=H.iok hQ;refine BO.regEnd H9 (BO.fall H9 ?_);refine BO.doneD (C:=e.d.cx K' Q [] [wV aK] ⟨[d1],.deferred,aN⟩ [(0,.pointer (some ⟨e.Wg,0,none⟩))]) (I0:=λR τ W=>IQ e.W0 e.StI e.Shun e.Wg e.SS e.R0 e.Fz e.Wf e.qs [] R τ W/\Q R) zdc rfl rfl Cs ?_ ?_ rfl rfl Tryz.func57 rfl zFS (λR τ W hr hi=>uG K' R τ W w' v' hl hi.2 hr hi.1 hA hm hT)
 .funext R τ w
  show((IQ _ _ _ _ _ _ _ _ _ _ R τ w/\WgLive e.ty _ w)/\Q R)=((IQ _ _ _ _ _ _ _ _ _ _ R τ w/\Q R)/\WgLive _ _ w);rw[Cs];exact propext ⟨λ⟨⟨a,b⟩,c⟩=>⟨⟨a,c⟩,b⟩,λ⟨⟨a,c⟩,b⟩=>⟨⟨a,b⟩,c⟩⟩
 .have hx:=zga (ty:=rV.tWg) (W0:=e.W0) (St:=e.StI) (Shun:=e.Shun) (Wg:=e.Wg) (SS:=e.SS) (R0:=e.R0) (Fz:=e.Fz) (Wf:=e.Wf) (qs:=e.qs) (chs:=[]) H.ss H.fz H.low
  exact⟨λR τ W aX h s=>⟨hx.suf _ _ _ _ h.1 s,h.2⟩,λR τ W a v h ha=>⟨hx.cell _ _ _ _ _ h.1 ha,h.2⟩,λR τ W d h=>⟨hx.at_ _ _ _ d h.1,h.2⟩,λR τ W h=>hx.rel _ _ _ h.1⟩
section
variable {L:Type}{C:Cx L}{l:L}
variable {fn:aQ}{tmps:Array aF}{c:wY}{k:List Item}{w:aE}
def BO.pieceQ (F:wC C.P C.fs)(hI:fD C)(hc:pX C.p ⟨C.fs,C.gs,true⟩ c=true)(hf:wF C.p fn)(fP:yL C.S c=true)
 (uQ:∀(T:j6) (Q:oF->vN->aE->Prop),qT (∀a' w',BO C l ⟨fn,a'.tmps,k,false⟩ w'->Q .normal a' w')->Code.wp C.p c Q ⟨tmps,[]⟩ (Tt.tp w T 0)):BO C l ⟨fn,tmps,.code c::k,false⟩ w:=
 BO.piece F hI hc hf fP λT=>uQ T _ (aD λa' w' h=>⟨rfl,h⟩)
theorem BO.pV {c':wY}(F:wC C.P C.fs)(hI:fD C)(hf:wF C.p fn)
 (uQ:∀(w1:aE) (T:j6),w1=Tt.tp w T 0->∀Q:oF->vN->aE->Prop,qT (∀a' w',BO C l ⟨fn,a'.tmps,k,false⟩ w'->Q .normal a' w')->Code.wp aK c' Q ⟨tmps,[]⟩ w1)
 (e:c=c':=by conv=>lhs;whnf) (hp:C.p=Tryz.prog:=by exact rfl) (hc:pX C.p ⟨C.fs,C.gs,true⟩ c=true:=by kernel_rfl) (fP:yL C.S c=true:=by kernel_rfl):BO C l ⟨fn,tmps,.code c::k,false⟩ w:=by
 subst e;exact BO.pieceQ F hI hc hf fP λT Q HQ=>by rw[hp];exact uQ _ T rfl Q HQ
end
structure IOp (Wg:Nat)(R:Pr)(τ:cH)(W:aE):Prop where
 rel:∀a b,R a b->b≠Wg
 lt:Wg<W.heap.size
variable {Wg:Nat}
theorem iop_ix {ty:aM}:IX ty Wg (IOp Wg):=
 ⟨λR τ W aX h s=>⟨h.rel,jO h.lt s.size⟩,λR τ W a v h ha=>⟨h.rel,by rw[Rn];exact h.lt⟩,λR τ W d h=>⟨h.rel,h.lt⟩,λR τ W h=>h.rel⟩
theorem zeK {L:Type}{C:Cx L}(hQ:Up Q)(hC:C.I=λR τ W=>yY C.ty C.Wg (IOp C.Wg) R τ W/\Q R):fD C:=by
 refine⟨λR τ W aX h s=>?_,λR τ W R1 W1 h ht hs=>?_⟩<;>rw[hC] at*
 .exact⟨⟨⟨h.1.1.rel,jO h.1.1.lt s.size⟩,s.live h.1.2⟩,h.2⟩
 .refine⟨⟨⟨λa b x=>?_,jO h.1.1.lt hs.size⟩,?_⟩,hQ R R1 hs.le h.2⟩
  .rcases hs.new a b x with y|⟨y,_⟩
   .exact h.1.1.rel a b y
   .have:=h.1.1.lt;omega
  .obtain⟨a,b,hl⟩:=h.1.2
   exact⟨a,b,(hs.keep C.Wg h.1.1.lt λa x=>absurd rfl (h.1.1.rel a _ x)).trans hl⟩
def fT (Wg N:Nat)(W:List fK)(D:aE->Prop)(Fin:bD->aE->Prop)(St:Nat->Prop)(K:Pr)(Q:Pr->Prop)(base:List Frame)(ds:Dk)(pin:List (Nat×aF)):Cx gN:=
 {p:=aK,gs:=Da,fs:=fU,ty:=rV.tWg,Wg:=Wg,A:=C3 N W D,Fin:=Fin,main:=false,base:=base,ds:=ds,K:=K,St:=St,I:=λR τ w=>yY rV.tWg Wg (IOp Wg) R τ w/\Q R,pin:=pin}
def Lj:Go.Code:=(zgk.body).getD .skip
def rOP0:Go.Code:=match Lj with| .seq (a) _=>a|_=>.skip
def rOP1:Go.Code:=match Lj with| .seq _ (.seq (a) _)=>a|_=>.skip
def rOP2:Go.Code:=match Lj with| .seq _ (.seq _ (.block _ (.loop (.seq (a) _))))=>a|_=>.skip
def rOP3:Go.Code:=match Lj with| .seq _ (.seq _ (.block _ (.loop (.seq _ (.seq _ (.block _ (.seq (a) _)))))))=>a|_=>.skip
def rOP4:Go.Code:=match Lj with| .seq _ (.seq _ (.block _ (.loop (.seq _ (.seq _ (.block _ (.seq _ (.seq (.seq (a) _) _))))))))=>a|_=>.skip
def rOP5:Go.Code:=match Lj with| .seq _ (.seq _ (.block _ (.loop (.seq _ (.seq _ (.block _ (.seq _ (.seq (.seq _ (.cond _ (a) _)) _))))))))=>a|_=>.skip
def rOP6:Go.Code:=match Lj with| .seq _ (.seq _ (.block _ (.loop (.seq _ (.seq _ (.block _ (.seq _ (.seq _ (a)))))))))=>a|_=>.skip
def zFK:Lj=.seq (rOP0) (.seq (rOP1) (.block 0 (.loop (.seq (rOP2) (.seq (.cond (.tmp 6) (.skip) (.exit 0)) (.block 1 (.seq (rOP3) (.seq (.seq (rOP4) (.cond (.tmp 10) (rOP5) (.skip))) (rOP6))))))))):=rfl
def Xw:Array Oper:=match rOP2 with| .region _ ops _=>ops|_=>#[]
def zyn:rOP2=.region 2 Xw false:=rfl
def zvF:iQ Xw.size=[0,1]:=rfl
abbrev oOP2_0:Oper:=aV Xw 0 (some 5) (.recv 122 (.tmp 4) true)
def zxr:Xw[0]? =some oOP2_0:=rfl
abbrev oOP2_1:Oper:=aV Xw 1 (some 6) (.extract (.tmp 5) 1)
def zjh:Xw[1]? =some oOP2_1:=rfl
def Ml:Array Oper:=match rOP6 with| .region _ ops _=>ops|_=>#[]
def zt1:rOP6=.region 6 Ml false:=rfl
def zv2:iQ Ml.size=[0,1,2,3]:=rfl
abbrev oOP6_0:Oper:=aV Ml 0 (some 13) (.fieldAddr 124 (.tmp 3) 2)
def zsM:Ml[0]? =some oOP6_0:=rfl
abbrev oOP6_1:Oper:=aV Ml 1 (some 14) (.load 84 (.tmp 13))
def zvL:Ml[1]? =some oOP6_1:=rfl
abbrev oOP6_2:Oper:=aV Ml 2 (some 15) (.move (.tmp 2))
def zt6:Ml[2]? =some oOP6_2:=rfl
abbrev oOP6_3:Oper:=aV Ml 3 none (.send (.tmp 14) (.tmp 15))
def zyb:Ml[3]? =some oOP6_3:=rfl
def Zs:wF aK 56:=⟨_,zid,.inl rfl⟩
def zer:Go.Code:=.seq rOP2 (.seq (.cond (.tmp 6) .skip (.exit 0)) (.block 1 (.seq rOP3 (.seq (.seq rOP4 (.cond (.tmp 10) rOP5 .skip)) rOP6))))
theorem info_q:∃ie,aK.info? 124=some ie/\ie.zero=some (.agg #[.int .i64 0,.int .i64 0,.chan none]):=by
 have h:(aK.info? 124).bind (·.zero)=some (.agg #[.int .i64 0,.int .i64 0,.chan none]):=aT;obtain⟨ie,h1,h2⟩:=Option.bind_eq_some_iff.1 h;exact⟨ie,h1,h2⟩
def zxg:aK.underlying 122=some (.chan .recv 124):=aT
def vr3 {S:aQ->Prop}{R:Pr}{a b:Int}{x y:aF}(h:VR S K R x y):VR S K R (.agg #[.int .i64 a,.int .i64 b,x]) (.agg #[.int .i64 a,.int .i64 b,y]):=
 .agg' (((bM.empty.push (.int _ _)).push (.int _ _)).push h)
section
variable {Wg N:Nat}{W:List fK}{D:aE->Prop}{Fin:bD->aE->Prop}{St:Nat->Prop}{Q:Pr->Prop}{base:List Frame}{gc c:Nat}
theorem op_loop {K0:Pr}(zsR:K0 gc c)(hQ:Up Q)(Pw:∀K T todo w,K0.le K->BO (fT Wg N W D Fin St K Q base .nil []) .oD ⟨56,T,todo,true⟩ w):
 ∀(m:Nat) (K:Pr) (w:aE) (call:Int) (u1 u3 u5 u6 u7 u8 u9 gV gE gD gG gF gC:aF),K0.le K->BO (fT Wg N W D Fin St K Q base .nil []) (.op c call m) ⟨56,#[.chan (some gc),u1,.int .i64 call,u3,.chan (some gc),u5,u6,u7,u8,u9,gV,gE,gD,gG,gF,gC],[.code zer,.inLoop zer,.inBlock 0],false⟩ w:=by
 have F:∀K,wC (fT Wg N W D Fin St K Q base .nil []).P (fT Wg N W D Fin St K Q base .nil []).fs:=λK=>nF;have hI:∀K,fD (fT Wg N W D Fin St K Q base .nil []):=λK=>zeK hQ rfl;obtain⟨ie,jY,hz⟩:=info_q;intro m
 induction m with
 |zero=>
  intro K w call u1 u3 u5 u6 u7 u8 u9 gV gE gD gG gF gC hL;have hK:K gc c:=hL _ _ zsR;unfold zer;refine BO.seq (hI K) ?_;rw[zyn];refine BO.regs (hI K) _ zvF ?_;refine BO.recvK rfl (hI K) zxr rfl rfl zxg jY hz (λR=>vr3 (.chan .none)) rfl rfl hK Ib rfl (λv hv=>absurd hv.2 (Nat.lt_irrefl 0)) (λ_=>?_);simp only[cC,fO,dP,dQ];refine BO.op (F K) (hI K) zjh rfl aT Ib (λT=>⟨.bool false,Tt.tp w T 0,.inl Ou,?_⟩);simp only[cC,fO,dP,dQ];refine BO.regEnd (hI K) ?_;refine BO.seq (hI K) ?_;refine BO.cond (hI K) (t:=false) rfl rfl ?_;refine BO.exit (hI K) (k':=[]) rfl (BO.fall (hI K) (Pw K _ _ _ hL))
 |succ m ih=>
  intro K w call u1 u3 u5 u6 u7 u8 u9 gV gE gD gG gF gC hL;have hK:K gc c:=hL _ _ zsR;unfold zer;refine BO.seq (hI K) ?_;rw[zyn];refine BO.regs (hI K) _ zvF ?_;refine BO.recvK rfl (hI K) zxr rfl rfl zxg jY hz (λR=>vr3 (.chan .none)) rfl rfl hK Ib rfl (λv hv=>?_) (λ_=>?_)
  .obtain⟨hs,_⟩:=hv
   obtain⟨⟨kd,cl,a⟩,hu⟩:=Option.isSome_iff_exists.1 hs;obtain rfl:=unQ_inv hu;refine⟨a,by show a∈Qj (quV kd cl a);simp[Qj,zf1],λK' ga w' hle zaI jT=>⟨.agg #[.int .i64 kd,.int .i64 cl,.chan (some ga)],λR=>vr3 (.chan (.some (.inr zaI))),?_⟩⟩;have sH:K' gc c:=hle _ _ hK;have zc7:=wX hL hle;show BO (fT Wg N W D Fin St K' Q base .nil []) (Tu c call (m+1) (quV kd cl a)) _ w';simp only[Tu,zf1,Nat.add_sub_cancel];simp only[cC,fO,dP,dQ];refine BO.op (F K') (hI K') zjh rfl aT Ib (λT=>⟨.bool true,Tt.tp w' T 0,.inl Ou,?_⟩);simp only[cC,fO,dP,dQ];refine BO.regEnd (hI K') ?_;refine BO.seq (hI K') ?_;refine BO.cond (hI K') (t:=true) rfl rfl ?_;refine BO.skip (hI K') ?_;refine BO.block (hI K') ?_;refine BO.seq (hI K') ?_;obtain⟨w1,dW⟩:=aP (Tt.tp w' T 0);rw[<-dW];clear dW;refine BO.pV (F K') (hI K') Zs (λw2 T1 eG Q' dC=>?_);clear eG;simp only[recvd,if_true];go_wp2;refine dC.o _ _ ?_;clear dC;obtain⟨gb,eY⟩:=aP w2.heap.size;obtain⟨w3,iU⟩:=aP (w2.alloc (.cells #[.int .i64 kd,.int .i64 cl,.chan (some ga)] 124));have kg:w3.heap[gb]? =some (.cells #[.int .i64 kd,.int .i64 cl,.chan (some ga)] 124):=by rw[iU,eY];exact gP _ _
   rw[<-eY,<-iU];clear iU eY;refine BO.seq (hI K') ?_;refine BO.seq (hI K') ?_;have k0:=aI kg 0;have k1:=aI kg 1;have k2:=aI kg 2;by_cases qY:kd=1
   .refine BO.pV (F K') (hI K') Zs (λwt T1 cE Q' dC=>?_)
    subst cE;have zn0:(Tt.tp w3 T1 0).cell? ⟨gb,0,none⟩=some (.int .i64 kd):=k0;subst qY;go_wp2;refine dC.o _ _ ?_;clear dC zn0;refine BO.cond (hI K') (t:=true) rfl rfl ?_;refine BO.pV (F K') (hI K') Zs (λwt T2 cE Q' dC=>?_);subst cE;have zyV:(Tt.tp (Tt.tp w3 T1 0) T2 0).cell? ⟨gb,1,none⟩=some (.int .i64 cl):=k1;go_wp2;refine dC.o _ _ ?_;clear dC zyV;rw[if_pos trivial];rw[zt1];refine BO.regs (hI K') _ zv2 ?_;refine BO.op (F K') (hI K') zsM rfl aT Ib (λT3=>⟨.pointer (some ⟨gb,2,none⟩),_,.inl Ou,?_⟩);simp only[cC,fO,dP,dQ];refine BO.op (F K') (hI K') zvL rfl aT Ib (λT4=>⟨.chan (some ga),_,.inl (zaZ (a:=⟨gb,2,none⟩) rfl rfl (zo3 _) k2),?_⟩);simp only[cC,fO,dP,dQ];refine BO.op (F K') (hI K') zt6 rfl aT Ib (λT5=>⟨.int .i64 cl,_,.inl Ou,?_⟩);simp only[cC,fO,dP,dQ];refine BO.send rfl (hI K') (l':=.op c cl m) zyb rfl rfl rfl rfl zaI rfl aN rfl (λR v' hv=>⟨by cases hv;rfl,rfl,rfl⟩) ?_;refine BO.regEnd (hI K') ?_;refine BO.inBlock (hI K') ?_;refine BO.inLoop (hI K') ?_;exact ih K' _ cl _ _ _ _ _ _ _ _ _ _ _ _ _ zc7
   .refine BO.pV (F K') (hI K') Zs (λwt T1 cE Q' dC=>?_)
    subst cE;have zn0:(Tt.tp w3 T1 0).cell? ⟨gb,0,none⟩=some (.int .i64 kd):=k0;have qQ:(kd==1)=false:=by simpa using qY
    go_wp2;refine dC.o _ _ ?_;clear dC zn0;refine BO.cond (hI K') (t:=false) rfl (by first|rfl|(simp[wZ,qY])) ?_;refine BO.skip (hI K') ?_;rw[if_neg qY];rw[zt1];refine BO.regs (hI K') _ zv2 ?_;refine BO.op (F K') (hI K') zsM rfl aT Ib (λT3=>⟨.pointer (some ⟨gb,2,none⟩),_,.inl Ou,?_⟩);simp only[cC,fO,dP,dQ];refine BO.op (F K') (hI K') zvL rfl aT Ib (λT4=>⟨.chan (some ga),_,.inl (zaZ (a:=⟨gb,2,none⟩) rfl rfl (zo3 _) k2),?_⟩);simp only[cC,fO,dP,dQ];refine BO.op (F K') (hI K') zt6 rfl aT Ib (λT5=>⟨.int .i64 call,_,.inl Ou,?_⟩);simp only[cC,fO,dP,dQ];refine BO.send rfl (hI K') (l':=.op c call m) zyb rfl rfl rfl rfl zaI rfl aN rfl (λR v' hv=>⟨by cases hv;rfl,rfl,rfl⟩) ?_;refine BO.regEnd (hI K') ?_;refine BO.inBlock (hI K') ?_;refine BO.inLoop (hI K') ?_;exact ih K' _ call _ _ _ _ _ _ _ _ _ _ _ _ _ zc7
  .simp only[cC,fO,dP,dQ]
   refine BO.op (F K) (hI K) zjh rfl aT Ib (λT=>⟨.bool false,Tt.tp w T 0,.inl Ou,?_⟩);simp only[cC,fO,dP,dQ];refine BO.regEnd (hI K) ?_;refine BO.seq (hI K) ?_;refine BO.cond (hI K) (t:=false) rfl rfl ?_;refine BO.exit (hI K) (k':=[]) rfl (BO.fall (hI K) (Pw K _ _ _ hL))
end
def Zb:Go.Code:=(Tryz.f54.body).getD .skip
def rH10:Go.Code:=match Zb with| .seq (a) _=>a|_=>.skip
def rH11:Go.Code:=match Zb with| .seq _ (a)=>a|_=>.skip
def zFo:Zb=.seq (rH10) (rH11):=rfl
def zdU:Array Oper:=match rH10 with| .region _ ops _=>ops|_=>#[]
def rH10_eq:rH10=.region 0 zdU false:=rfl
def zGs:iQ zdU.size=[0]:=rfl
abbrev zt8:Oper:=aV zdU 0 none (.defer ⟨.value (.func 55),#[.tmp 0],#[94]⟩)
def zBn:zdU[0]? =some zt8:=rfl
def Zm:Array Oper:=match rH11 with| .region _ ops _=>ops|_=>#[]
def rH11_eq:rH11=.region 1 Zm false:=rfl
def zyP:iQ Zm.size=[0,1]:=rfl
abbrev oH11_0:Oper:=aV Zm 0 (some 2) (.load 95 (.tmp 1))
def zIm:Zm[0]? =some oH11_0:=rfl
abbrev oH11_1:Oper:=aV Zm 1 (some 3) (.call ⟨.value (.func 56),#[.tmp 2],#[122]⟩)
def zyE:Zm[1]? =some oH11_1:=rfl
theorem zs5 {Fin:bD->aE->Prop}{St:Nat->Prop}{base:List Frame}(m':Fm)(oM:Pr):
 (fT Wg N W D Fin St K Q base ds pin).sub m' oM=fT Wg N W D Fin St K (λR=>Q R/\oM.le R) (fx [] ds m'::base) .nil []:=by
 have e:(λR τ w=>(yY rV.tWg Wg (IOp Wg) R τ w/\Q R)/\oM.le R)=(λR τ w=>yY rV.tWg Wg (IOp Wg) R τ w/\Q R/\oM.le R):=by
  funext R τ W;exact propext and_assoc
 unfold Cx.sub fT;simp only;rw[e]
section
variable {Wg N:Nat}{W:List fK}{D:aE->Prop}{Fin:bD->aE->Prop}{St:Nat->Prop}{gc gv c:Nat}
variable {K:Pr}
theorem op_body {Q:Pr->Prop}{base:List Frame}(hK:K gc c)(hQ:Up Q)(m:Nat)(w:aE)(Pw:∀K' T todo w,K.le K'->BO (fT Wg N W D Fin St K' Q base .nil []) .oD ⟨56,T,todo,true⟩ w):
 BO (fT Wg N W D Fin St K Q base .nil []) (.op c 0 m) ⟨56,#[.chan (some gc),aA,aA,aA,aA,aA,aA,aA,aA,aA,aA,aA,aA,aA,aA,aA],[.code Lj],false⟩ w:=by
 have F:wC (fT Wg N W D Fin St K Q base .nil []).P (fT Wg N W D Fin St K Q base .nil []).fs:=nF;have hI:fD (fT Wg N W D Fin St K Q base .nil []):=zeK hQ rfl;rw[zFK];refine BO.seq hI ?_;refine BO.pV F hI Zs (λw1 T1 dW Q' HQ=>?_);clear dW;go_wp2;refine HQ.o _ _ ?_;clear HQ;refine BO.seq hI ?_;refine BO.pV F hI Zs (λw2 T2 eG Q' HQ=>?_);clear eG;go_wp2;refine HQ.o _ _ ?_;clear HQ;refine BO.block hI ?_;refine BO.loop hI ?_;exact op_loop hK hQ Pw m K w2 0 _ _ _ _ _ _ _ _ _ _ _ _ _ (xS K)
theorem zBR (hK:K gc c)(m:Nat){w:aE}(hv:w.cell? ⟨gv,0,none⟩=some (.chan (some gc))):
 BO (fT Wg N W D Fin St K (λ_=>True) [wV aK] ⟨[],.deferred,aN⟩ [(0,.pointer (some ⟨Wg,0,none⟩))]) (.op c 0 m) ⟨54,#[.nilFunc,.pointer (some ⟨gv,0,none⟩),aA,aA],[.code Zb],false⟩ w:=by
 let C:=fT Wg N W D Fin St K (λ_=>True) [wV aK] ⟨[],.deferred,aN⟩ [(0,.pointer (some ⟨Wg,0,none⟩))]
 have hQ:Up (λ_=>True):=λ_ _ _ _=>trivial;have hI:fD C:=zeK hQ rfl
 let d1:=dcall 55 #[.pointer (some ⟨Wg,0,none⟩)]
 have Kc:fD (C.dfr d1):=hI.dfr d1;have F:wC C.P C.fs:=nF;show BO C _ _ _;rw[zFo];refine BO.seq hI ?_;rw[rH10_eq];refine BO.regs hI _ zGs ?_;refine BO.defer hI (d:=d1) zBn rfl rfl (λR w W bV _ _ Em aX=>?_) ?_
 .have h0:=Em (0,.pointer (some ⟨Wg,0,none⟩)) (by show _∈[_];simp)
  have:=zvS (p:=C.p) (o:=zt8) (ρ:=(bJ bV C.ds.ds).eval) rfl rfl aX;simp only[vD,gT,tW,wZ] at this;simp only at h0;rw[h0] at this;exact this
 refine BO.regEnd Kc ?_;rw[rH11_eq];refine BO.regs Kc _ zyP ?_;refine BO.op (C:=C.dfr d1) F Kc zIm rfl aT (by intro s hs;cases hs;show(2:Nat)∉([0]:List Nat);decide) (λT=>⟨.chan (some gc),Tt.tp w T 0,.inl (zaZ (a:=⟨gv,0,none⟩) rfl rfl (Tryz.isAgg95 _) hv),?_⟩);simp only[cC,fO,dP,dQ];obtain⟨w1,dW⟩:=aP (Tt.tp w T 0);rw[<-dW];clear dW;refine BO.callN (C:=C.dfr d1) Kc zyE rfl rfl (Callee.static _ _) aT zid aH rfl (.inl rfl) λoM m' hm=>?_;have ha:(#[]++(#[zkh 2]:Array cK).map (bJ #[.nilFunc,.pointer (some ⟨gv,0,none⟩),.chan (some gc),aA] []).eval++ #[]:Array aF)=#[.chan (some gc)]:=by
  simp only[vD,gT,tW,wZ,Array.empty_append,Array.append_empty];rfl
 have Eg:(#[.chan (some gc)]:Array aF)++oJ ((zgk).ntmps-(#[.chan (some gc)]:Array aF).size) aA=#[.chan (some gc),aA,aA,aA,aA,aA,aA,aA,aA,aA,aA,aA,aA,aA,aA,aA]:=by
  have e:(zgk).ntmps=16:=rfl;rw[e];apply Array.ext';simp only[Oo,Array.toList_replicate,B6,rG,List.length_nil];rfl
 show BO (Cx.sub _ m' oM) _ ⟨_,(#[]++(#[zkh 2]:Array cK).map (bJ #[.nilFunc,.pointer (some ⟨gv,0,none⟩),.chan (some gc),aA] []).eval++ #[]:Array aF)++oJ ((zgk).ntmps-(#[]++(#[zkh 2]:Array cK).map (bJ #[.nilFunc,.pointer (some ⟨gv,0,none⟩),.chan (some gc),aA] []).eval++ #[]:Array aF).size) aA,[.code Lj],false⟩ _;rw[ha,Eg];have eC:C.dfr d1=fT Wg N W D Fin St K (λ_=>True) [wV aK] ⟨[d1],.deferred,aN⟩ [(0,.pointer (some ⟨Wg,0,none⟩))]:=rfl;rw[eC] at hm⊢;rw[zs5];refine op_body hK (hQ.and oM) m w1 λK' T todo w2 hl=>?_;rw[<-zs5];have H9:fD (fT Wg N W D Fin St K' (λ_=>True) [wV aK] ⟨[d1],.deferred,aN⟩ [(0,.pointer (some ⟨Wg,0,none⟩))]):=zeK hQ rfl;refine BO.retN H9 (hm.upK hl _) (v:=.tuple #[]) rfl rfl zvb zid rfl ?_;show BO _ _ ⟨_,_,[.inRegion _ []],false⟩ _;refine BO.regEnd H9 (BO.fall H9 ?_);exact BO.doneD zdc rfl rfl rfl (I0:=IOp Wg) (by
  funext R τ w;exact propext (and_iff_left trivial)) iop_ix rfl rfl Tryz.func54 rfl rfl (λ_ _ _ _ _=>trivial)
end
end Go.Proofs.YtfcjiloojkjaeaaGreatDoor
namespace Go.Mt
open Go.RowKit Go.Conc Go.Tt Go.Maps Go.Conc.Lib Go.ConcR.Gen
theorem BO.drawn {L:Type}{p:bZ}{gs fs:aQ->Bool}{f:aQ}{kk:List Item}(zjH:p.follows .mixedOrders=true){id:Nat}{t0:Array aF}{ops:Array aZ}(ch:List Nat)(V0:Nat->aF)(S:List aF->Cx L->L->aE->Prop)(hS:∀vs C l w,S vs C l w->fD C/\C.p=p/\C.gs=gs/\C.fs=fs/\wC C.P C.fs/\∀(i:Nat) (o:aZ) (s:Tmp),ops[i]? =some o->o.dst=some s->s∉C.S)(bS:I9 ops=true)(uF:N5 ops ch=true)(oY:ch.all (λc=>decide (c<ops.size))=true)
 (hT:∀vs C l w T e,S vs C l w->S vs C l (Tt.tp w T e))
 (hR:∀(i:Nat) (o:aZ),ops[i]? =some o->i∉ch->rY p ⟨fs,gs,true⟩ o.op=true/\∀vs C l w,vs.length<ch.length->S vs C l w->dE o (dH ops (dF ops (VV ch V0 vs) t0))=true/\(aO (bJ (dF ops (VV ch V0 vs) t0) []).eval o).run p w=.ok (.value (V0 i)) w)
 (hC:∀(vs:List aF) (c:Nat) (o:aZ) C l w,ch[vs.length]? =some c->ops[c]? =some o->S vs C l w->∀(t:Array aF) (rest:List Nat),(∀s∈o.looksAt ops,t[s]? =(dF ops (VV ch V0 vs) t0)[s]?)->
  (∀v C' l' w',S (vs++[v]) C' l' w'->BO C' l' ⟨f,(cC ⟨t,[]⟩ o.dst v).tmps,.inRegion ops rest::kk,false⟩ w')->BO C l ⟨f,t,.inRegion ops (c::rest)::kk,false⟩ w)
 (hk:∀vs C l w,vs.length=ch.length->S vs C l w->BO C l ⟨f,dF ops (VV ch V0 vs) t0,.inRegion ops []::kk,false⟩ w) {C:Cx L} {l:L} {w:aE} (h0:S [] C l w):BO C l ⟨f,t0,.code (.region id ops true)::kk,false⟩ w:=by
 obtain⟨sI,sp,_⟩:=hS _ _ _ _ h0;refine BO.draw sI λn=>?_;rw[sp,zjH]
 exact zsm (σ:=Cx L×L) (P:=p) (J:=λs is t w=>BO s.1 s.2 ⟨f,t,.inRegion ops is::kk,false⟩ w) (S:=λvs s w=>S vs s.1 s.2 w) bS uF oY
  (λvs s i o rest t w v h ho y4 hw hx hJ=>by
   obtain⟨sI,sp,sg,sf,sF,sn⟩:=hS vs _ _ w h;exact BO.op sF sI ho hw (by rw[sp,sg,sf];exact(hR i o ho y4).1) (λs hs=>sn i o s ho hs) λT=>⟨v,_,.inl (by rw[sp];exact hx T),hJ T⟩)
  (λvs s=>hT vs s.1 s.2) (λi o ho y4 vs s w hv _=>(hR i o ho y4).2 vs s.1 s.2 w hv) (λvs c o s w hj ho h t rest hs cU=>hC vs c o s.1 s.2 w hj ho h t rest hs λv C' l' w'=>cU v (C',l') w') (λvs s w=>hk vs s.1 s.2 w) (s:=(C,l)) h0 n
end Go.Mt
