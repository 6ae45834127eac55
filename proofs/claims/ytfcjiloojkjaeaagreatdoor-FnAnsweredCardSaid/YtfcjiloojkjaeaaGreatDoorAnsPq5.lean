/-
  Part 5 of what stands behind the last text.
-/
import Derived.Lib.Overlaps
import Derived.Lib.AppendZerosOnto
import Derived.Test.YtfcjiloojkjaeaaGreatDoorAnsPq4
set_option linter.all false
set_option maxHeartbeats 16000000
set_option maxRecDepth 100000
open Array renaming getD_eq_getD_getElem?→x4,getElem?_eq_none→Oa,getElem?_eq_some_iff→eM,getElem?_toList→C3,length_toList→Es,replicate→oL,size_append→Wp,toList_append→Qd
open Bool renaming and_eq_true→jB,false_eq_true→iA,or_eq_true→E9
open Go renaming Act→vX,Addr→bC,Code→wY,Exit→oP,FuncId→aP,Goroutine→bE,Oper→aZ,Operand→cN,Program→cD,Tape→kI,TypeId→aM,TypeInfo→wG,Value→aF,World→aE,execOp→aO,heap_alloc_new→gV,run_underlying→xZ,setRow_heap→Lr,setRow_other→zet,size_zeroCells→Z6,undef→aA,yielded→dL
open Go.Act renaming eval→xB,mk→bL,put→cE
open Go.Addr renaming add_lit→K7
open Go.Builtin renaming copy_→Eg,firstCells→Un,zeroCells→qK
open Go.Code renaming region→F8
open Go.Deferred renaming ofValue→Cz
open Go.Extern renaming find→zot,findNext→zxK
open Go.Extern.SlicesOverlaps renaming overlaps→zkV
open Go.Instr renaming lookup→Ar,slice→Wo,sliceAt→Yx,sliceBound→L0,sliceBounds→Y8
open Go.Operand renaming tmp→zkA
open Go.Proofs.Tryz renaming checked→vR,f101→zq4,f56→zd9,func101→zo7,func102→zut,func103→zw5,func104→zqa,func111→zt1,func120→zsH,func56→zjH,func58→zna,func81→zuf,func82→zxv,isAgg84→zww,prog→aK,underlying38→X4,underlying84→zyR
open Go.Region renaming binds→G2,ready→Hv,schedule→Vg,wanted→dI
open Go.Region.linearise renaming go→zfg
open Go.RowKit.Below renaming heap_setCell→dX,refl→gD
open Go.Value renaming bool→N4,int→M9,slice→Rl
open Go.World renaming frozen?→I8,setRow→zfx,shape?→zb9,size_setCell→xG
open List renaming all_eq_true→xC,append_assoc→Jx,drop_of_length_le→zp0,findIdx?_eq_some_iff_getElem→zij,getD_cons_succ→Ey,getD_cons_zero→Dy,getD_eq_getElem?_getD→zcT,getElem?_append_left→Ls,getElem?_append_right→Qm,getElem?_drop→Z0,getElem?_eq_getElem→oQ,getElem?_eq_none→zr5,getElem?_eq_some_iff→lX,getElem?_take→Wu,idxOf?→zxI,length_append→j5,length_cons→uV,length_drop→zC,length_take→rU,map_append→Ud,map_cons→jO,map_drop→zt5,map_nil→uN,map_take→zud,map_toArray→uP,mem_filter→Mg,mem_of_getElem?→eI,mem_of_mem_drop→zdF,mem_range→Ei,not_mem_nil→nD,range→iL,replicate→zwj,setIfInBounds_toArray→fS,set_cons_succ→dW,set_cons_zero→dU,size_toArray→Bz,takeWhile_cons→zvj,takeWhile_prefix→zyY,take_append_of_le_length→Fy,take_of_length_le→El,take_take→Ps
open Nat renaming add_sub_cancel_left→zxn,add_zero→Ui,le_refl→bM,le_succ→zg2,le_trans→eE,lt_of_lt_of_le→jP,lt_or_ge→uR,lt_trichotomy→zs3,min→zdi,min_eq_left→zqp,sub_self→ziC,zero_add→qV,zero_le→lU
open Option renaming getD_none→zpT,getD_some→Cb
open Option.some renaming inj→cS
noncomputable section
namespace Go
theorem kM{P:Prop}(h:P:=by rw[hz];decide):P:=h
theorem zM{P:Prop}(h:P:=by rw[mG.o];decide):P:=h
theorem Ki{P:Prop}(h:P:=by intro s hs;cases hs;exact nD):P:=h
theorem Pg{P:Prop}(h:P:=by first|rfl|(simp only[xB];rfl)):P:=h
theorem zh2{P:Prop}(h:P:=by show _<=((Tt.tp w' T 0).alloc _).heap.size;rw[qT];exact zg2 _):P:=h
theorem Pz{P:Prop}(h:P:=by unfold aO;go_simp;try rfl):P:=h
theorem zs1{P:Prop}(h:P:=by have:(bK xs).length=xs.length*2:=J4 bH.cells (s:=2) (λ_=>rfl) xs;omega):P:=h
theorem X7{P:Prop}(h:P:=by rw[HF.o];decide):P:=h
theorem zp5{P:Prop}(h:P:=by intro s hs;cases hs;show(3:Nat)∉([0]:List Nat);decide):P:=h
theorem zq2{P:Prop}(h:P:=by rw[cP,show zdi 1 (n+1-i)=1 from zqp (by omega)];rfl):P:=h
theorem zey{P:Prop}(h:P:=by simp only[j5];omega):P:=h
theorem zyE{P:Prop}(h:P:=by have e:b=hb:=e;subst e;exact eI (i:=0) rfl):P:=h
theorem zkN{P:Prop}(h:P:=by have:=H9.o;omega):P:=h
end Go
namespace Go.Mt
open Go.Conc Go.Tt
open Go.ConcR (KK wgBlock WgAt stA smA rd wr)
section
variable {L:Type}{C:Cx L}{l:L}
theorem BO.draw (hI:fI C){fn:aP}{tmps:Array aF}{k:List Item}{w:aE}{id:Nat}{ops:Array aZ}(h:∀n,BO C l ⟨fn,tmps,.inRegion ops (Vg (C.p.follows .mixedOrders) ops n)::k,false⟩ w):BO C l ⟨fn,tmps,.code (.region id ops true)::k,false⟩ w:=by
 intro R W m' τ hw hm ht hi;obtain⟨fn',bZ,zU,Ac⟩:=m';obtain rfl:=hm.fn;obtain rfl:=hm.todo;obtain rfl:=hm.ret;rw[mY];refine Cx.ownQ rfl λaY s=>?_;have dO:C.Rel R w aY:=Cx.Rel.suf (C:=C) hw ht s;have Ad:=hI.suf _ _ _ _ hi s;have aX:=stepG_region_draw (P:=C.p) (main:=C.main) (b:=C.ds.base fn) (a:=⟨bZ,C.ds.ds⟩) (k:=k) (cs:=C.base) (w:=aY) (id:=id) (ops:=ops);refine⟨_,{aY with drawn:=aY.drawn+1},_,aX,rfl,⟨rfl,rfl,rfl,bM _,λb _ _=>rfl⟩,λe he=>by simp at he,?_⟩;rw[<-mY];refine h _ R _ ⟨fn,bZ,_,false⟩ _ ⟨dO.inj,dO.inj',dO.lt,dO.low,dO.gle,dO.cont,dO.rest,dO.st,dO.np,dO.tb⟩ ⟨rfl,rfl,rfl,hm.tmps,hm.pins⟩ (λa b x=>⟨(ht a b x).1,λz=>.inl ((ht a b x).2 z)⟩) ?_;exact hI.step R τ aY R _ Ad ht ⟨λ_ _ x=>x,rfl,rfl,rfl,bM _,λa b x=>.inl x,λb _ _=>rfl⟩
end
def dep (ops:Array aZ)(i j:Nat):Bool:=match ops[i]? with|some o=>o.after.any λe=>G2 .any e&&e.on==j|none=>false
def Qc (ops:Array aZ):Nat->Nat->Nat->Bool
 |0,_,_=>false
 |n+1,i,j=>dep ops i j||(iL ops.size).any λm=>dep ops i m&&Qc ops n m j
def linked (ops:Array aZ):List Nat->Bool
 |a::b::l=>Qc ops (ops.size+1) b a&&linked ops (b::l)
 |_=>true
def Nt (ops:Array aZ)(ch:List Nat):Bool:=linked ops ch&&decide ch.Nodup&&(match ch.getLast? with|some z=>(iL ops.size).all λj=>j==z||Qc ops ops.size z j|none=>false)
variable {ops:Array aZ}{i:Nat}
theorem ziJ {j:Nat}(h:dep ops i j=true):∃o,ops[i]? =some o/\∃e∈o.after,G2 .any e=true/\e.on=j:=by
 unfold dep at h;split at h
 .grind
 .cases h
theorem zt7 :∀{ch:List Nat},linked ops ch=true->∀(j a b:Nat),ch[j]? =some a->ch[j+1]? =some b->Qc ops (ops.size+1) b a=true
 |[],_,j,a,b,h1,_=>by simp at h1
 |[x],_,j,a,b,_,h2=>by simp at h2
 |x::y::l,h,0,a,b,h1,h2=>by
  simp at h1 h2;subst h1 h2;unfold linked at h;simp_all
 |x::y::l,h,j+1,a,b,h1,h2=>by
  unfold linked at h;simp only[jB] at h;exact zt7 h.2 j a b zag Zw
def Closed (ops:Array aZ)(bU:Array Bool):Prop:=∀(i:Nat) (o:aZ),ops[i]? =some o->bU.getD i false=true->∀e∈o.after,G2 .any e=true->bU.getD e.on false=true
variable {bU:Array Bool}
theorem zsZ (hc:Closed ops bU):∀(n i j:Nat),Qc ops n i j=true->bU.getD i false=true->bU.getD j false=true:=by
 intro n
 induction n with
 |zero=>intro i j h _;cases h
 |succ n ih=>
  intro i j h hl;unfold Qc at h;simp only[E9,List.any_eq_true,jB] at h;rcases h with h|⟨m,_,h1,h2⟩
  .obtain⟨o,ho,e,he,hb,rfl⟩:=ziJ h
   exact hc i o ho hl e he hb
  .obtain⟨o,ho,e,he,hb,rfl⟩:=ziJ h1
   exact ih _ j h2 (hc i o ho hl e he hb)
variable {ch:List Nat}
theorem zDA {m:Nat}(h:ch.idxOf? i=some m):ch[m]? =some i/\m<ch.length:=by
 unfold zxI at h;obtain⟨h1,h2,_⟩:=zij.1 h;simp_all
theorem zC9 (h:i∉ch):ch.idxOf? i=none:=by simp_all
theorem za6 (hn:ch.Nodup){m:Nat}(h:ch[m]? =some i):ch.idxOf? i=some m:=by
 unfold zxI;obtain⟨h1,h2⟩:=lX.1 h;rw[zij];refine⟨h1,by rw[h2];simp,λj hj=>?_⟩;simp only[Bool.not_eq_true,beq_eq_false_iff_ne];intro e;have:=(List.getElem_inj hn).1 (e.trans h2.symm);omega
def VV (ch:List Nat)(V0:Nat->aF)(vs:List aF)(i:Nat):Value:=match ch.idxOf? i with|some j=>vs.getD j aA|none=>V0 i
variable {t0:Array aF}
theorem sN.congr {vals zaL:Nat->aF}{t:Array aF}(h:sN ops vals t0 bU t)(hv:∀i,bU.getD i false=true->vals i=zaL i):sN ops zaL t0 bU t:=
 ⟨h.size,λi o d h1 h2 h3 h4=>by rw[<-hv i h4];exact h.got i o d h1 h2 h3 h4,h.old⟩
variable {σ:Type}{P:cD}{V0:Nat->aF}
theorem drawnGo {J:σ->List Nat->Array aF->aE->Prop}{S:List aF->σ->aE->Prop}(KO:K6 ops)(uC:Nt ops ch=true)(oT:∀c∈ch,¬c<ops.size->False)
 (hop:∀vs s i o rest t w v,S vs s w->ops[i]? =some o->i∉ch->dI o (dL ops t)=true->(∀T,(aO (bL t []).eval o).run P (Tt.tp w T 0)=.ok (.value v) (Tt.tp w T 0))->(∀T,J s rest (cE ⟨t,[]⟩ o.dst v).tmps (Tt.tp w T 0))->J s (i::rest) t w)
 (hT:∀vs s w T e,S vs s w->S vs s (Tt.tp w T e))
 (hR:∀(i:Nat) (o:aZ),ops[i]? =some o->i∉ch->∀vs s w,vs.length<ch.length->(∀j c,ch[j]? =some c->dep ops i c=true->j<vs.length)->S vs s w->dI o (dL ops (dM ops (VV ch V0 vs) t0))=true/\(aO (bL (dM ops (VV ch V0 vs) t0) []).eval o).run P w=.ok (.value (V0 i)) w)
 (hC:∀(vs:List aF) (c:Nat) (o:aZ) s w,ch[vs.length]? =some c->ops[c]? =some o->S vs s w->∀(t:Array aF) (rest:List Nat),(∀s∈o.looksAt ops,t[s]? =(dM ops (VV ch V0 vs) t0)[s]?)->
  (∀v s' w',S (vs++[v]) s' w'->J s' rest (cE ⟨t,[]⟩ o.dst v).tmps w')->J s (c::rest) t w)
 (hk:∀vs s w,vs.length=ch.length->S vs s w->J s [] (dM ops (VV ch V0 vs) t0) w):
 ∀(fuel q:Nat) (bU:Array Bool) (t:Array aF) (vs:List aF) (s:σ) (w:aE),bU.size=ops.size->((iL ops.size).filter λi=>!bU.getD i false).length<=fuel->sN ops (VV ch V0 vs) t0 bU t->Closed ops bU->
  (∀j c,ch[j]? =some c->(bU.getD c false=true↔j<vs.length))->vs.length<=ch.length->S vs s w->J s (zfg .any ops fuel q bU []) t w:=by
 have zmY:=uC;unfold Nt at zmY;simp only[jB,decide_eq_true_eq] at zmY;obtain⟨⟨Af,lD⟩,En⟩:=zmY;have fin:∀(bU:Array Bool) (t:Array aF) (vs:List aF) (s:σ) (w:aE),bU.size=ops.size->(∀i,i<ops.size->bU.getD i false=true)->sN ops (VV ch V0 vs) t0 bU t->(∀j c,ch[j]? =some c->(bU.getD c false=true↔j<vs.length))->vs.length<=ch.length->S vs s w->(∀c∈ch,c<ops.size)->J s [] t w:=by
  intro bU t vs s w hz sZ hm hl hle hw gS;have e:bU=oL ops.size true:=by
   apply Array.ext_getElem?;intro j;by_cases hj:j<ops.size
   .have:=sZ j hj
    have vF:j<bU.size:=aC;simp[vF] at this;simp[hj,vF,this]
   .rw[Oa aC,Oa pD]
  have uJ:vs.length=ch.length:=by
   rcases uR vs.length ch.length with h|h
   .have h1:ch[vs.length]? =some ch[vs.length]:=oQ h
    have:=(hl _ _ h1).1 (sZ _ (gS _ (List.getElem_mem h)));omega
   .omega
  subst e;have e2:=hm.unique (Rv (vals:=VV ch V0 vs) (t0:=t0) KO);subst e2;exact hk vs s w uJ hw
 have gS:∀c∈ch,c<ops.size:=by
  intro c hc
  cases hg:ch.getLast? with
  |none=>rw[hg] at En;cases En
  |some z=>
   by_cases aT:c<ops.size
   .exact aT
   .exfalso
    exact oT c hc aT
 intro fuel
 induction fuel with
 |zero=>
  intro q bU t vs s w hz hc hm kR hl hle hw;simp only[zfg,List.reverse_nil];refine fin bU t vs s w hz (λi hi=>?_) hm hl hle hw gS
  cases hl:bU.getD i false with
  |true=>rfl
  |false=>
   have:i∈(iL ops.size).filter λi=>!bU.getD i false:=Mg.2 ⟨Ei.2 hi,by rw[hl];rfl⟩;have:=List.length_pos_of_mem this;omega
 |succ fuel ih=>
  intro q bU t vs s w hz hc hm kR hl hle hw;simp only[zfg];change J s (match(Hv .any ops bU)[q%(Hv .any ops bU).length]? with
   |some i=>zfg .any ops fuel (q/(Hv .any ops bU).length) (bU.setIfInBounds i true) [i]
   |none=>[].reverse) t w
  cases hi:(Hv .any ops bU)[q%(Hv .any ops bU).length]? with
  |none=>
   have Wk:Hv .any ops bU=[]:=by
    cases hr:Hv .any ops bU with
    |nil=>rfl
    |cons x xs=>
     rw[hr] at hi;have aT:q%(x::xs).length<(x::xs).length:=Nat.mod_lt _ aQ;simp at hi;simp at aT;omega
   exact fin bU t vs s w hz (zuh KO hz Wk) hm hl hle hw gS
  |some i=>
   simp only[];rw[linearise_go_acc,List.reverse_singleton,List.singleton_append];obtain⟨hu,o,ho,uI⟩:=mem_ready.1 (eI hi);have Io:i<ops.size:=(eM.1 ho).1;have mI:=hm.sees KO (Rv (vals:=VV ch V0 vs) (t0:=t0) KO) ho uI;have Mb:∀j,(bU.setIfInBounds i true).getD j false=if j=i then true else bU.getD j false:=by
    intro j;by_cases e:j=i
    .subst e;have:j<bU.size:=aC
     simp[this]
    .rw[if_neg e];exact getD_set_ne false (Ne.symm e)
   have pI:bU.getD i false=false:=by
    have:i<bU.size:=aC;simp[this] at hu⊢;exact hu
   have zeh:Closed ops (bU.setIfInBounds i true):=by
    intro j oj hj vF e he hb;rw[Mb] at vF⊢;split
    .rfl
    .split at vF
     .next e1=>subst e1;rw[ho] at hj;obtain rfl:=cS hj;exact uI e he hb
     .exact kR j oj hj vF e he hb
   have Y6:((iL ops.size).filter λj=>!(bU.setIfInBounds i true).getD j false).length<=fuel:=by
    have aT:((iL ops.size).filter λj=>!(bU.setIfInBounds i true).getD j false).length<((iL ops.size).filter λj=>!bU.getD j false).length:=by
     have e:((iL ops.size).filter λj=>!(bU.setIfInBounds i true).getD j false)=((iL ops.size).filter λj=>!bU.getD j false).filter (λj=>j !=i):=by
      rw[List.filter_filter];apply List.filter_congr;intro j hj;rw[Mb];by_cases e:j=i
      .simp[e]
      .simp[e]
     rw[e];exact List.length_filter_lt_length_iff_exists.2 ⟨i,Mg.2 ⟨Ei.2 Io,by rw[pI];rfl⟩,aQ⟩
    omega
   by_cases zI:i∈ch
   .
    obtain⟨j,hj⟩:=List.mem_iff_getElem?.1 zI;have zJR:=(lX.1 hj).1;have zFG:j=vs.length:=by
     have h1:¬j<vs.length:=λh=>by have:=(hl j i hj).2 h;rw[pI] at this;cases this
     rcases uR vs.length j with h|h
     .exfalso
      obtain⟨b,hb⟩:∃b,ch[j-1]? =some b:=⟨ch[j-1]' aC,oQ aC⟩;have hd:=zsZ zeh _ _ _ (zt7 Af (j-1) b i hb (by rw[Nat.sub_add_cancel aC];exact hj)) (by rw[Mb,if_pos rfl]);rw[Mb] at hd;split at hd
      .next e=>
       subst e;have h1:=za6 lD hb;rw[za6 lD hj] at h1;have:=cS h1;omega
      .have:=(hl (j-1) _ hb).1 hd
       omega
     .omega
    subst zFG;have rI:∀v i',i'≠i->VV ch V0 (vs++[v]) i'=VV ch V0 vs i'\/bU.getD i' false=false:=by
     intro v i' aS;unfold VV
     cases hx:ch.idxOf? i' with
     |none=>exact .inl rfl
     |some m=>
      simp only;obtain⟨zad,sG⟩:=zDA hx;rcases zs3 m vs.length with h|h|h
      .left;simp[zcT,Ls h]
      .subst h;rw[hj] at zad;exact absurd (cS zad).symm aS
      .right
       cases Ko:bU.getD i' false with
       |false=>rfl
       |true=>have:=(hl m i' zad).1 Ko;omega
    have zmz:∀v,VV ch V0 (vs++[v]) i=v:=by
     intro v;unfold VV;rw[za6 lD hj];simp[zcT]
    refine hC vs i o s w hj ho hw t _ mI λv s' w' Ql=>?_;have sG:sN ops (VV ch V0 (vs++[v])) t0 bU t:=hm.congr λi' lS=>by
     rcases rI v i' (λe=>by subst e;rw[pI] at lS;cases lS) with h|h
     .exact h.symm
     .rw[h] at lS;cases lS
    have Xp:=sG.step KO ho hz hu;have:=ih (q/(Hv .any ops bU).length) (bU.setIfInBounds i true) _ (vs++[v]) s' w' (by simp[hz]) Y6 Xp zeh (λj c Ox=>?_) pD Ql
    .rw[zmz] at this
     cases hd:o.dst with
     |none=>rw[hd] at this;exact this
     |some s=>rw[hd] at this;exact this
    .rw[Mb]
     by_cases e:c=i
     .subst e
      rw[if_pos rfl];have:j=vs.length:=by
       have h1:=za6 lD Ox;have h2:=za6 lD hj;rw[h1] at h2;exact cS h2
      subst this;simp
     .rw[if_neg e,hl j c Ox]
      simp;constructor
      .intro h;omega
      .intro h
       rcases uR j vs.length with h2|h2
       .exact h2
       .have:j=vs.length:=aC
        subst this;rw[hj] at Ox;exact absurd (cS Ox).symm e
   .
    have zrn:=hR i o ho zI;have aT:vs.length<ch.length:=by
     rcases uR vs.length ch.length with h|h
     .exact h
     .exfalso
      cases hg:ch.getLast? with
      |none=>rw[hg] at En;cases En
      |some z=>
       rw[hg] at En;have zen:ch[ch.length-1]? =some z:=by rw[<-List.getLast?_eq_getElem?];exact hg
       have Dt:0<ch.length:=by
        cases ch with
        |nil=>cases hg
        |cons _ _=>simp
       have zCY:=(hl _ z zen).2 aC;have:=(xC.1 En) i (Ei.2 Io);simp only[E9,beq_iff_eq] at this;rcases this with rfl|this
       .exact zI (eI zen)
       .have:=zsZ kR _ _ _ this zCY
        rw[pI] at this;cases this
    have vK:∀j c,ch[j]? =some c->dep ops i c=true->j<vs.length:=λj c hj hd=>by
     obtain⟨o',y9,e,he,zhX,rfl⟩:=ziJ hd;rw[ho] at y9;obtain rfl:=cS y9;exact(hl j _ hj).1 (uI e he zhX)
    obtain⟨h1,h2⟩:=zrn vs s w aT vK hw;have dY:dI o (dL ops t)=true:=(X3 mI).trans h1;refine hop vs s i o _ t w (V0 i) hw ho zI dY (λT=>?_) λT=>?_
    .rw[Fs (KO.sel i o ho) mI]
     exact(zrn vs s _ aT vK (hT _ _ _ T 0 hw)).2
    .have Xp:=hm.step KO ho hz hu
     have zmz:VV ch V0 vs i=V0 i:=by
      unfold VV;rw[zC9 zI]
     rw[zmz] at Xp;have:=ih (q/(Hv .any ops bU).length) (bU.setIfInBounds i true) _ vs s (Tt.tp w T 0) (by simp[hz]) Y6 Xp zeh (λj c Ox=>?_) hle (hT _ _ _ T 0 hw)
     .cases hd:o.dst with
      |none=>rw[hd] at this;exact this
      |some s=>rw[hd] at this;exact this
     .have aS:c≠i:=λe=>zI (e▸eI Ox)
      rw[Mb,if_neg aS];exact hl j c Ox
theorem zwi {J:σ->List Nat->Array aF->aE->Prop}{S:List aF->σ->aE->Prop}(bV:Jo ops=true)(uC:Nt ops ch=true)(oT:ch.all (λc=>decide (c<ops.size))=true)
 (hop:∀vs s i o rest t w v,S vs s w->ops[i]? =some o->i∉ch->dI o (dL ops t)=true->(∀T,(aO (bL t []).eval o).run P (Tt.tp w T 0)=.ok (.value v) (Tt.tp w T 0))->(∀T,J s rest (cE ⟨t,[]⟩ o.dst v).tmps (Tt.tp w T 0))->J s (i::rest) t w)
 (hT:∀vs s w T e,S vs s w->S vs s (Tt.tp w T e))
 (hR:∀(i:Nat) (o:aZ),ops[i]? =some o->i∉ch->∀vs s w,vs.length<ch.length->(∀j c,ch[j]? =some c->dep ops i c=true->j<vs.length)->S vs s w->dI o (dL ops (dM ops (VV ch V0 vs) t0))=true/\(aO (bL (dM ops (VV ch V0 vs) t0) []).eval o).run P w=.ok (.value (V0 i)) w)
 (hC:∀(vs:List aF) (c:Nat) (o:aZ) s w,ch[vs.length]? =some c->ops[c]? =some o->S vs s w->∀(t:Array aF) (rest:List Nat),(∀s∈o.looksAt ops,t[s]? =(dM ops (VV ch V0 vs) t0)[s]?)->
  (∀v s' w',S (vs++[v]) s' w'->J s' rest (cE ⟨t,[]⟩ o.dst v).tmps w')->J s (c::rest) t w)
 (hk:∀vs s w,vs.length=ch.length->S vs s w->J s [] (dM ops (VV ch V0 vs) t0) w) {s:σ} {w:aE} (h0:S [] s w) (n:Nat):J s (Vg true ops n) t0 w:=by
 simp only[Vg,Bool.true_or,if_true];refine drawnGo (Ss bV) uC (λc hc aT=>?_) hop hT hR hC hk ops.size n _ t0 [] s w aQ (eE (List.length_filter_le _ _) aQ) (sN.start _ λi=>?_) (λi o hi hl=>?_) (λj c hj=>?_) (lU _) h0
 .simp_all
 .by_cases hi:i<ops.size<;>simp[hi]
 .by_cases hi:i<ops.size<;>simp[hi] at hl
 .by_cases hi:c<ops.size<;>simp[hi]
section
variable {d:qH}{f:aP}
variable {Φ:oP->WS->Prop}
theorem CW.drawn (H:d.Ok)(zj4:d.p.follows .mixedOrders=true){B:List Nat}{id:Nat}{t0:Array aF}{ops:Array aZ}(ch:List Nat)(V0:Nat->aF)(S:List aF->Pr->gN->aE->Prop)(bV:Jo ops=true)(uC:Nt ops ch=true)(oT:ch.all (λc=>decide (c<ops.size))=true)
 (hT:∀vs K l w T e,S vs K l w->S vs K l (Tt.tp w T e))
 (hR:∀(i:Nat) (o:aZ),ops[i]? =some o->i∉ch->sO d.p ⟨d.fs,d.gs,true⟩ o.op=true/\∀vs K l w,vs.length<ch.length->S vs K l w->dI o (dL ops (dM ops (VV ch V0 vs) t0))=true/\(aO (bL (dM ops (VV ch V0 vs) t0) []).eval o).run d.p w=.ok (.value (V0 i)) w)
 (hC:∀(vs:List aF) (c:Nat) (o:aZ) K l w,ch[vs.length]? =some c->ops[c]? =some o->S vs K l w->∀(t:Array aF) (rest:List Nat),(∀s∈o.looksAt ops,t[s]? =(dM ops (VV ch V0 vs) t0)[s]?)->
  (∀v K' l' w',K.le K'->S (vs++[v]) K' l' w'->CR d f ops rest ⟨[],K',l',(cE ⟨t,[]⟩ o.dst v).tmps,w'⟩ (Φ .normal))->CR d f ops (c::rest) ⟨[],K,l,t,w⟩ (Φ .normal))
 (hk:∀vs K l w,vs.length=ch.length->S vs K l w->Φ .normal ⟨[],K,l,dM ops (VV ch V0 vs) t0,w⟩) {K:Pr} {l:gN} {w:aE} (h0:S [] K l w):CW d B f (.region id ops true) ⟨[],K,l,t0,w⟩ Φ:=λQ base kk hQ hB h1 h2 h3=>by
 refine BO.draw (H.iok hQ) λn=>?_
 have:=zwi (σ:=Pr×gN) (P:=d.p) (J:=λs is t w=>CR d f ops is ⟨[],s.1,s.2,t,w⟩ (Φ .normal)) (S:=λvs s w=>S vs s.1 s.2 w) bV uC oT
  (λvs s i o rest t w v hS ho zI hw hx hJ=>CR.op H ho hw (hR i o ho zI).1 λT=>⟨v,_,.inl (hx T),hJ T⟩) (λvs s=>hT vs s.1 s.2) (λi o ho zI vs s w hv _=>(hR i o ho zI).2 vs s.1 s.2 w hv)
  (λvs c o s w hj ho h t rest hs cZ=>hC vs c o s.1 s.2 w hj ho h t rest hs λv K' l' w' _=>cZ v (K',l') w') (λvs s w hl h=>CR.nil H (hk vs s.1 s.2 w hl h)) (s:=(K,l)) h0 n Q base kk hQ λs' l x=>h1 s' l x
 rw[<-zj4] at this;exact this
end
structure OvFn (p:cD)(f:aP)(t tr e:aM)(size:Nat):Prop where
 fn:∃fn,p.funcs[f]? =some fn/\(fn.name== "runtime.NumGoroutine")=false/\fn.body.isNone=true/\zxK fn=none/\zot fn=some (zkV #[t,t] #[tr])
 un:p.underlying t=some (.slice e)
 inf:∃i,p.info? e=some i/\i.size=size
variable {i:wG}
theorem zAD (w:aE)(tS tR e:aM)(ht:P.underlying tS=some (.slice e))(hi:P.info? e=some i)
 (a b:bC) (la ca lb cb:Nat) (aS:a.block≠b.block) (tA tB:aM) (kA kB:Nat)
 (Kh:w.shape? a.block=some (tA,kA)) (Fa:w.shape? b.block=some (tB,kB)) (O4:kB≠0)
 (wI:w.frozen? a=false) (N6:w.frozen? {block:=a.block,off:=kA}=false):
 (zkV #[tS,tS] #[tR] #[.slice (some a) la ca,.slice (some b) lb cb]).run P w=.ok (.bool false) w:=
 Lib.run_overlaps_apart w tS tR e ht i.size (λw=>by simp[sizeOf,typeInfo,hi]) a b la ca lb cb aS tA tB kA kB Kh Fa O4 wI N6
section
variable {P:cD}{w:aE}{es:Array Event}
def zHy (a:bC):(frozen a).events P w es=es:=rfl
def zqA (a:bC):(frozen a).run P w=.ok (w.frozen? a) w:=rfl
def zD9 (r:Nat):(shape r).events P w es=es:=rfl
def zd7 (r:Nat):(shape r).run P w=.ok (w.shape? r) w:=rfl
variable {a:bC}{t:aM}{n:Nat}
theorem zyo (h:w.shape? a.block=some (t,n)):(noView a).events P w es=es:=by
 unfold noView viewAt;simp_all
theorem zuL (h:w.shape? a.block=some (t,n)):(noView a).run P w=.ok () w:=by
 unfold noView viewAt;simp[zd7,h]
theorem zrb (h:w.shape? a.block=some (t,n)):(stringish a).events P w es=es:=by
 unfold stringish;simp_all
theorem zhf (h:w.shape? a.block=some (t,n)):(stringish a).run P w=.ok (w.frozen? a||w.frozen? ⟨a.block,n,none⟩) w:=by
 unfold stringish;cases hf:w.frozen? a<;>simp[zqA,zd7,h,hf]
theorem zF1 {b:bC}{tA tB:aM}{kA kB:Nat}(Kh:w.shape? a.block=some (tA,kA))(Fa:w.shape? b.block=some (tB,kB))(wI:w.frozen? a=false)(N6:w.frozen? ⟨a.block,kA,none⟩=false)(O4:kB≠0):
 (mayBeOne a b).events P w es=es/\(mayBeOne a b).run P w=.ok false w:=by
 cases kB with
 |zero=>exact absurd rfl O4
 |succ kB=>
  unfold mayBeOne;constructor
  .simp[zrb Kh,zhf Kh,zrb Fa,zhf Fa,wI,N6,zD9,zd7,Kh,Fa]
  .simp[zhf Kh,zhf Fa,wI,N6,zd7,Kh,Fa]
end
theorem zBU (w:aE)(es:Array Event)(tS tR e:aM)(ht:P.underlying tS=some (.slice e))(hi:P.info? e=some i)
 (a b:bC) (la ca lb cb:Nat) (aS:a.block≠b.block) (tA tB:aM) (kA kB:Nat)
 (Kh:w.shape? a.block=some (tA,kA)) (Fa:w.shape? b.block=some (tB,kB)) (O4:kB≠0)
 (wI:w.frozen? a=false) (N6:w.frozen? {block:=a.block,off:=kA}=false):
 (zkV #[tS,tS] #[tR] #[.slice (some a) la ca,.slice (some b) lb cb]).events P w es=es:=by
 have oI:(a.block !=b.block)=true:=by simpa using aS
 have zF6:(a.block==b.block)=false:=by simpa using aS
 change Sem.events P (α:=aF) (do
  let some t:=(#[tS,tS]:Array aM)[0]? |stuck "slices.overlaps: no parameter types"
  let .slice elem<-underlying t|stuck "slices.overlaps: slice type expected"
  let size<-sizeOf elem
  match(some a:Option bC),(some b:Option bC) with
  |some a,some b=>
   if la=0\/lb=0\/size=0 then pure (N4 false)
   else if a.block !=b.block&&(<-frozen a)&&(<-frozen b) then unsupported .addressObserved
   else do
    if a.block !=b.block then do
     noView a;noView b
     if<-mayBeOne a b then return N4 ((<-choose (.extern "sameAddr.stringBytes" 2))==1)
    pure (N4 (a.block==b.block&&a.off<b.off+lb*size&&b.off<a.off+la*size))
  |_,_=>pure (N4 false)) w es=_
 by_cases h0:la=0\/lb=0\/i.size=0
 .simp[xZ ht,sizeOf,typeInfo,hi,h0]
 .obtain⟨m1,m2⟩:=zF1 (P:=P) (es:=es) Kh Fa wI N6 O4
  simp[xZ ht,sizeOf,typeInfo,hi,h0,oI,zF6,zHy,zqA,wI,zyo Kh,zuL Kh,zyo Fa,zuL Fa,m1,m2]
section
variable {L:Type}{C:Cx L}{l:L}
variable {o:aZ}{f:aP}{jW:Array aM}{e:Array aF->Sem aF}{w:aE}
theorem zDv {p:cD}{args:Array cN}(hop:o.op=.call ⟨.value (.func f),args,jW⟩){ρ:cN->aF}(hρ:ρ (.func f)=.func (.func f) #[] #[]){fn:Func}(hf:p.funcs[f]? =some fn)
 (hn:(fn.name== "runtime.NumGoroutine")=false) (hb:fn.body.isNone=true) (h1:zxK fn=none)  (h2:zot fn=some e) {w':aE} {v:aF} (hr:(e (args.map ρ)).run p w=.ok v w') (he:∀es,(e (args.map ρ)).events p w es=es):
 (aO ρ o).run p w=.ok (.value v) w'/\(aO ρ o).events p w #[]=#[⟨.mark (.extern f),false,true⟩]:=by
 obtain⟨dst,zK,type,pos,after,guard⟩:=o;simp only at hop;subst hop;have vZ:¬fn.name= "runtime.NumGoroutine" :=by simpa using hn
 have bY:fn.body=none:=by simpa using hb
 constructor
 .simp[aO,resolve,Cz,hρ,invoke,callFunc,program,mark,Sem.run,hf,vZ,bY,h1,h2,hr]
 .simp[aO,resolve,Cz,hρ,invoke,callFunc,hf,vZ,bY,h1,h2,he]
theorem BO.overlaps (ha:C.alone=none)(hI:fI C){fn:aP}{tmps:Array aF}{ops:Array aZ}{i:Nat}{rest:List Nat}{k:List Item}{x y:cN}{A B:bC}{la ca lb cb:Nat}{t tr e:aM}{sz:Nat}{zlR zcp:Array aF}{TA TB:aM}{znF:Nat×Nat}
 (H:OvFn C.p f t tr e sz) (ho:ops[i]? =some o) (cG:dI o (dL ops tmps)=true) (hop:o.op=.call ⟨.value (.func f),#[x,y],jW⟩) (sU:eD C.fs x=true) (Fe:eD C.fs y=true) (hx:(bL tmps []).eval x=.slice (some A) la ca) (hy:(bL tmps []).eval y=.slice (some B) lb cb)
 (aS:A.block≠B.block) (hA:w.heap[A.block]? =some (.cells zlR TA (0,0))) (hB:w.heap[B.block]? =some (.cells zcp TB znF)) (hz:zcp.size≠0) (lD:∀s,o.dst=some s->s∉C.S)
 (h1:BO C l ⟨fn,(cE ⟨tmps,[]⟩ o.dst (.bool false)).tmps,.inRegion ops rest::k,false⟩ w):BO C l ⟨fn,tmps,.inRegion ops (i::rest)::k,false⟩ w:=by
 intro R W m' τ hw hm ht hi;obtain⟨fn',bZ,zU,Ac⟩:=m';obtain rfl:=hm.fn;obtain rfl:=hm.todo;obtain rfl:=hm.ret;have vJ:=Jl (C:=C) hm.tmps cG;have hb:(C.ds.base fn).kind≠ .early:=C.ds.ok;have vx:=Hp (C:=C) (d:=C.ds.ds) hm.tmps sU;have vy:=Hp (C:=C) (d:=C.ds.ds) hm.tmps Fe;rw[hx] at vx;rw[hy] at vy;obtain⟨fnf,g1,g2,g3,g4,g5⟩:=H.fn;obtain⟨ie,jZ,cP⟩:=H.inf;rw[mY,Cx.B_none ha];refine cF.own rfl trivial λaY s=>?_;have dO:C.Rel R w aY:=Cx.Rel.suf (C:=C) hw ht s;have Ad:=hI.suf _ _ _ _ hi s;generalize hex:(bL bZ C.ds.ds).eval x=vx' at vx;generalize zFg:(bL bZ C.ds.ds).eval y=vy' at vy
 cases vx with
 |slice qa=>
  cases qa with
  |some qa=>
   cases qa with
   |mk ra=>
    cases vy with
    |slice qb=>
     cases qb with
     |some qb=>
      cases qb with
      |mk rb=>
       rename_i a a' oa sa b b' ob sb;obtain⟨o1,o2,k1,k2,k3⟩:=dO.cont _ _ ra;obtain⟨p1,p2,q1,q2,q3⟩:=dO.cont _ _ rb;rw[hA] at k1;obtain rfl:=cS k1;rw[hB] at q1;obtain rfl:=cS q1
       cases k3 with
       |cells q9 wI=>
        cases q3 with
        |cells Df zKg=>
         rename_i cA' fA' zld fB';have zjO:∀n,aY.frozen? ⟨a',n,none⟩=false:=λn=>by
          simp only[I8,k2]
          cases hq:(decide (fA'.1<=n)&&decide (n<fA'.2)) with
          |false=>rfl
          |true=>
           have:=wI n (by simpa[Lp] using hq);unfold Lp at this;omega
         have zvl:aY.frozen? ⟨a',oa,sa⟩=false:=by
          have:=zjO oa;simpa[I8] using this
         have zdJ:a'≠b':=λe=>aS (dO.inj' _ _ _ (.inl ra) (.inl (e▸rb)));have sA:aY.shape? a'=some (TA,cA'.size):=by simp[zb9,k2]
         have sB:aY.shape? b'=some (TB,zld.size):=by simp[zb9,q2]
         have xF:(#[x,y]:Array cN).map (bL bZ C.ds.ds).eval=#[.slice (some ⟨a',oa,sa⟩) la ca,.slice (some ⟨b',ob,sb⟩) lb cb]:=by
          simp only[uP,jO,uN,hex,zFg]
         have r1:=zAD (P:=C.p) aY t tr e H.un jZ ⟨a',oa,sa⟩ ⟨b',ob,sb⟩ la ca lb cb zdJ TA TB _ _ sA sB (by rw[<-Df.1];exact hz) zvl (zjO _);have r2:=λes=>zBU (P:=C.p) aY es t tr e H.un jZ ⟨a',oa,sa⟩ ⟨b',ob,sb⟩ la ca lb cb zdJ TA TB _ _ sA sB (by rw[<-Df.1];exact hz) zvl (zjO _);obtain⟨x1,x2⟩:=zDv (p:=C.p) (o:=o) hop (ρ:=(bL bZ C.ds.ds).eval) rfl g1 g2 g3 g4 g5 (by rw[xF];exact r1) (by rw[xF];exact r2);have aX:=stepG_value (main:=C.main) (b:=C.ds.base fn) (rest:=rest) (k:=k) (cs:=C.base) ho vJ hb x1;have hl:∀ev∈listed C.p (C.ds.base fn).fn ⟨bZ,C.ds.ds⟩ o aY,ev=⟨.mark (.extern f),false,true⟩:=λev nH=>by
          unfold listed at nH;rw[x2] at nH;simpa using mem_seen nH
         refine⟨_,aY,_,aX,rfl,Am.id _ _,λev nH=>?_,?_⟩
         .rw[hl ev nH];trivial
         .rw[deafBehind_still (λev nH=>by grind)]
          have G0:cE ⟨bZ,C.ds.ds⟩ o.dst (.bool false)=⟨(cE ⟨bZ,C.ds.ds⟩ o.dst (.bool false)).tmps,C.ds.ds⟩:=by cases o.dst<;>rfl
          rw[G0,<-mY,<-Cx.B_none ha];have Dn:=hI.step R τ aY R aY Ad ht ⟨λ_ _ x=>x,rfl,rfl,rfl,bM _,λa b x=>.inl x,λb _ _=>rfl⟩;exact h1 R aY ⟨fn,_,_,false⟩ _ dO ⟨rfl,rfl,rfl,J7 (C:=C) hm.tmps (.bool false),Js (C:=C) hm.pins lD⟩ (λa b x=>⟨(ht a b x).1,λz=>.inl ((ht a b x).2 z)⟩) Dn
end
section
variable {d:qH}{f:aP}{s:WS}{ops:Array aZ}{i:Nat}{rest:List Nat}{Φ:WS->Prop}{o:aZ}
def CR.overlaps (H:d.Ok){x y:cN}{g:aP}{jW:Array aM}{A B:bC}{la ca lb cb:Nat}{t tr e:aM}{sz:Nat}{zlR zcp:Array aF}{TA TB:aM}{znF:Nat×Nat}
 (HO:OvFn d.p g t tr e sz) (ho:ops[i]? =some o) (cG:dI o (dL ops s.T)=true) (hop:o.op=.call ⟨.value (.func g),#[x,y],jW⟩) (sU:eD d.fs x=true) (Fe:eD d.fs y=true) (hx:(bL s.T []).eval x=.slice (some A) la ca) (hy:(bL s.T []).eval y=.slice (some B) lb cb)
 (aS:A.block≠B.block) (hA:s.w.heap[A.block]? =some (.cells zlR TA (0,0))) (hB:s.w.heap[B.block]? =some (.cells zcp TB znF)) (hz:zcp.size≠0)
 (h:CR d f ops rest {s with T:=(cE ⟨s.T,[]⟩ o.dst (.bool false)).tmps} Φ):CR d f ops (i::rest) s Φ:=λQ base kk hQ h1=>
 BO.overlaps (C:=d.cx s.K Q s.chs base .nil []) rfl (H.iok hQ) HO ho cG hop sU Fe hx hy aS hA hB hz (λ_ _=>nD) (h Q base kk hQ h1)
end
end Go.Mt
namespace Go.Proofs.YtfcjiloojkjaeaaGreatDoor
open Go.RowKit Go.Mt Go.Conc Go.Tt Go.Maps
def sA:wY->wY| .seq a _=>a|_=>.skip
def sB:wY->wY| .seq _ b=>b|_=>.skip
def cA:wY->wY| .cond _ a _=>a|_=>.skip
def cB:wY->wY| .cond _ _ b=>b|_=>.skip
def cX:wY->cN| .cond x _ _=>x|_=>.const aA
def bI:wY->Nat| .block i _=>i| .region i _ _=>i|_=>0
def rO:wY->Array aZ| .region _ o _=>o|_=>#[]
def N0:Nat->List aF->List aF
 |0,_=>[]
 |n+1,[]=>aA::N0 n []
 |n+1,a::l=>a::N0 n l
theorem zqo:∀n,N0 n []=zwj n aA
 |0=>rfl
 |n+1=>by rw[N0,zqo n];rfl
theorem zvK:∀(n:Nat) (l:List aF),l.length<=n->l++zwj (n-l.length) aA=N0 n l
 |n,[],_=>by rw[zqo];simp
 |n+1,a::l,h=>by
  simp only[uV,Nat.add_sub_add_right,List.cons_append,N0];rw[zvK n l zcB]
theorem pad_eq {n:Nat}{l T:List aF}(hl:l.length<=n)(hT:N0 n l=T):l.toArray++oL (n-l.toArray.size) aA=T.toArray:=by
 subst hT;rw[<-zvK n l hl];simp
structure Hj where
 ty:aM
 Wg:Nat
 N:Nat
 W:List fL
 D:aE->Prop
 Fin:bE->aE->Prop
 St:Nat->Prop
 W0:aE
 StI:Nat->Prop
 Shun:Loc->Prop
 SS:Nat->Prop
 R0:Pr
 Fz:Nat->Prop
 Wf:aE
 qs:List Nat
abbrev Hj.d (e:Hj):qH:=⟨aK,Cw,fX,e.ty,e.Wg,e.N,e.W,e.D,e.Fin,e.St,e.W0,e.StI,e.Shun,e.SS,e.R0,e.Fz,e.Wf,e.qs⟩
section
variable {d:qH}{f:aP}{s:WS}{B:List Nat}{c:wY}
def CW.tape {Φ:oP->WS->Prop}(h:CW d B f c s Φ)(T:kI)(n:Nat):CW d B f c {s with w:=Tt.tp s.w T n} Φ:=λQ base kk hQ hB h1 h2 h3=>BO.tape (h Q base kk hQ hB h1 h2 h3) T n
def CW.pieceQ {Φ:oP->WS->Prop}(H:d.Ok)(hc:qD d.p ⟨d.fs,d.gs,true⟩ c=true)(hf:xA d.p f)(vA:∀(T:kI) (Q:oP->vX->aE->Prop),rJ (∀a' w',Φ .normal {s with T:=a'.tmps,w:=w'}->Q .normal a' w')->Code.wp d.p c Q ⟨s.T,[]⟩ (Tt.tp s.w T 0)):CW d B f c s Φ:=
 CW.piece H hc hf λT=>vA T _ (aD λa' w' h=>⟨rfl,h⟩)
theorem CW.pH {Φ:oP->WS->Prop}{lo hb:Nat}{v v0:fK}{dd:nZ}{w0:aE}(H:d.Ok)(hf:xA d.p f)(A:rJ (bF s.w lo hb v dd))(T:rJ (bT hb v0 w0 v s.w))
 (vA:∀(w1:aE) (Q:oP->vX->aE->Prop),s.w.heap=w1.heap->rJ (bF w1 lo hb v dd)->rJ (bT hb v0 w0 v w1)->rJ (∀a' w',Φ .normal {s with T:=a'.tmps,w:=w'}->Q .normal a' w')->Code.wp d.p c Q ⟨s.T,[]⟩ w1)
 (hc:qD d.p ⟨d.fs,d.gs,true⟩ c=true:=by kernel_rfl):CW d B f c s Φ:=
 CW.pieceQ H hc hf λ_ Q HQ=>vA _ Q rfl (aD (A.o.same rfl)) (aD (T.o.same rfl)) HQ
variable {ops:Array aZ}{i:Nat}{rest is:List Nat}{Φ:WS->Prop}{o:aZ}
def CR.tape (h:CR d f ops is s Φ)(T:kI)(n:Nat):CR d f ops is {s with w:=Tt.tp s.w T n} Φ:=λQ base kk hQ h1=>BO.tape (h Q base kk hQ h1) T n
def CR.opw (H:d.Ok)(ho:ops[i]? =some o)(cG:dI o (dL ops s.T)=true)(bV:sO d.p ⟨d.fs,d.gs,true⟩ o.op=true){v:aF}(hx:∀T,(aO (bL s.T []).eval o).run d.p (Tt.tp s.w T 0)=.ok (.value v) (Tt.tp s.w T 0))
 (h:CR d f ops rest {s with T:=(cE ⟨s.T,[]⟩ o.dst v).tmps} Φ):CR d f ops (i::rest) s Φ:=
 CR.op H ho cG bV λT=>⟨v,Tt.tp s.w T 0,.inl (hx T),CR.tape h T 0⟩
theorem nP {P Q:Prop}(k:Q)(h:Q->P:=by intro q;first|(simp only[Go.Act.put,List.setIfInBounds_toArray,List.set_cons_zero,List.set_cons_succ];exact q)|exact q):P:=h k
theorem CR.sto (H:d.Ok)(ho:ops[i]? =some o)(cG:dI o (dL ops s.T)=true)(bV:sO d.p ⟨d.fs,d.gs,true⟩ o.op=true)(hd:o.dst=none){w':aE}(hx:∀T,(aO (bL s.T []).eval o).run d.p (Tt.tp s.w T 0)=.ok .skip (Tt.tp w' T 0))
 (h:CR d f ops rest {s with w:=w'} Φ):CR d f ops (i::rest) s Φ:=
 CR.op H ho cG bV λT=>⟨aA,Tt.tp w' T 0,.inr ⟨hx T,rfl⟩,by
  have:=CR.tape h T 0;have e:(cE ⟨s.T,[]⟩ o.dst aA).tmps=s.T:=by rw[hd];rfl
  rw[e];exact this⟩
end
section
variable {d:qH}{f:aP}{s:WS}{B:List Nat}{c:wY}
theorem CW.sq (H:d.Ok){Φ:oP->WS->Prop}(h:CW d B f (sA c) s (λe s'=>match e with| .normal=>CW d B f (sB c) s' Φ|e=>Φ e s'))(e:c=.seq (sA c) (sB c):=by exact rfl):CW d B f c s Φ:=by
 rw[e];exact CW.seq H h
theorem CW.cd (H:d.Ok){Φ:oP->WS->Prop}(t:Bool)(h:CW d B f (if t then cA c else cB c) s Φ)(e:c=.cond (cX c) (cA c) (cB c):=by exact rfl)(hx:eD d.fs (cX c)=true:=by exact rfl)(hc:(bL s.T []).eval (cX c)=.bool t:=by exact rfl):CW d B f c s Φ:=by
 rw[e];exact CW.cond H hx hc h
theorem CW.sk (H:d.Ok){Φ:oP->WS->Prop}(h:Φ .normal s)(e:c=.skip:=by exact rfl):CW d B f c s Φ:=by
 rw[e];exact CW.skip H h
theorem CW.rt (H:d.Ok){Φ:oP->WS->Prop}(h:Φ .ret s)(e:c=.ret:=by exact rfl):CW d B f c s Φ:=by
 rw[e];exact CW.ret H h
theorem CW.rg (H:d.Ok){Φ:oP->WS->Prop}(is:List Nat)(h:CR d f (rO c) is s (λs'=>Φ .normal s'))(e:c=.region (bI c) (rO c) false:=by exact rfl)(hr:iL (rO c).size=is:=by exact rfl):CW d B f c s Φ:=by
 rw[e];exact CW.reg H is hr h
theorem CW.pQ {c':wY}{Φ:oP->WS->Prop}(H:d.Ok)(hf:xA d.p f)(vA:∀(T:kI) (Q:oP->vX->aE->Prop),rJ (∀a' w',Φ .normal {s with T:=a'.tmps,w:=w'}->Q .normal a' w')->Code.wp d.p c' Q ⟨s.T,[]⟩ (Tt.tp s.w T 0))
 (e:c=c':=by conv=>lhs;whnf) (hc:qD d.p ⟨d.fs,d.gs,true⟩ c=true:=by kernel_rfl):CW d B f c s Φ:=by
 subst e;exact CW.pieceQ H hc hf vA
variable {v0:fK}{dd:nZ}{w0:aE}
theorem CW.pW {c':wY}{Φ:oP->WS->Prop}{lo hb:Nat}{v:fK}(H:d.Ok)(hf:xA d.p f)(A:rJ (bF s.w lo hb v dd))(T:rJ (bT hb v0 w0 v s.w))
 (vA:∀(w1:aE) (Q:oP->vX->aE->Prop),s.w.heap=w1.heap->rJ (bF w1 lo hb v dd)->rJ (bT hb v0 w0 v w1)->rJ (∀a' w',Φ .normal {s with T:=a'.tmps,w:=w'}->Q .normal a' w')->Code.wp d.p c' Q ⟨s.T,[]⟩ w1)
 (e:c=c':=by conv=>lhs;whnf) (hc:qD d.p ⟨d.fs,d.gs,true⟩ c=true:=by kernel_rfl):CW d B f c s Φ:=by
 subst e;exact CW.pH H hf A T vA hc
theorem CW.p0 {c':wY}{T':Array aF}{Φ:oP->WS->Prop}{lo hb:Nat}{v:fK}(H:d.Ok)(hf:xA d.p f)(A:rJ (bF s.w lo hb v dd))(T:rJ (bT hb v0 w0 v s.w))
 (h:∀w1:aE,s.w.heap=w1.heap->rJ (bF w1 lo hb v dd)->rJ (bT hb v0 w0 v w1)->Φ .normal {s with T:=T',w:=w1})
 (e:c=c':=by conv=>lhs;whnf) (vA:∀(w1:aE) (Q:oP->vX->aE->Prop),rJ (∀a':vX,a'.tmps=T'->Q .normal a' w1)->Code.wp d.p c' Q ⟨s.T,[]⟩ w1:=by(intro w1 Q HQ;go_wp2;exact HQ.o _ rfl))
 (hc:qD d.p ⟨d.fs,d.gs,true⟩ c=true:=by kernel_rfl):CW d B f c s Φ:=by
 subst e;exact CW.pH H hf A T (λw1 Q hw A1 T1 HQ=>vA w1 Q (aD λa' ha=>HQ.o a' w1 (ha▸h w1 hw A1 T1))) hc
variable {K:Pr}{w:aE}
theorem CF.of {g:aP}{l:List aF}{L:gN}{Ψ:Pr->gN->aF->aE->Prop}{fnf:Func}(n:Nat){T:List aF}(hf:d.p.funcs[g]? =some fnf)(hp:Hf fnf.results.toList)
 (h:CW d [] g (fnf.body.getD .skip) ⟨[],K,L,T.toArray,w⟩ (λe s'=>(e=.normal\/e=.ret)/\s'.chs=[]/\∃v,(oO fnf.results.toList s'.T).run d.p s'.w=.ok v s'.w/\Ψ s'.K s'.l v s'.w))
 (hT:N0 n l=T:=by(simp only[N0];rfl)) (hl:l.length<=n:=by exact Nat.le_of_ble_eq_true rfl) (hn:fnf.ntmps=n:=by exact rfl) (hb:fnf.body=some (fnf.body.getD .skip):=by exact rfl) (hr:(fnf.name== "runtime.NumGoroutine")=false:=by decide):CF d g l.toArray K L w Ψ:=
 ⟨⟨fnf,_,hf,hr,hb,hp,by rw[hn,pad_eq hl hT];exact h⟩⟩
variable {ops:Array aZ}{i:Nat}{rest:List Nat}{Φ:WS->Prop}{o:aZ}
def zcl {o':aZ}(h:ops[i]? =some o')(e:o'=o):ops[i]? =some o:=e▸h
variable {l:gN}
theorem CR.mv {chs:List Nat}{T T':Array aF}(H:d.Ok)(v:aF)(h:CR d f ops rest ⟨chs,K,l,T',w⟩ Φ)(ho:ops[i]? =some o:=by exact zcl rfl (by conv=>lhs;whnf))
 (hx:∀τ,(aO (bL T []).eval o).run d.p (Tt.tp w τ 0)=.ok (.value v) (Tt.tp w τ 0):=by exact λ_=>rfl)
 (cG:dI o (dL ops T)=true:=by exact rfl) (bV:sO d.p ⟨d.fs,d.gs,true⟩ o.op=true:=by kernel_rfl)
 (ht:(cE ⟨T,[]⟩ o.dst v).tmps=T':=by first|(simp only[Go.Act.put,List.setIfInBounds_toArray,List.set_cons_zero,List.set_cons_succ];done)|(simp only[Go.Act.put,List.setIfInBounds_toArray,List.set_cons_zero,List.set_cons_succ];rfl)):CR d f ops (i::rest) ⟨chs,K,l,T,w⟩ Φ:=
 CR.opw (s:=⟨chs,K,l,T,w⟩) H ho cG bV hx (ht▸h)
theorem CR.mg {chs:List Nat}{T T':Array aF}(H:d.Ok)(v:aF)(h:CR d f ops rest ⟨chs,K,l,T',w⟩ Φ)(ho:ops[i]? =some o:=by exact zcl rfl (by conv=>lhs;whnf))
 (hx:∀τ,(aO (bL T []).eval o).run d.p (Tt.tp w τ 0)=.ok (.value v) (Tt.tp w τ 0):=by intro τ;unfold execOp;go_simp)
 (cG:dI o (dL ops T)=true:=by exact rfl) (bV:sO d.p ⟨d.fs,d.gs,true⟩ o.op=true:=by kernel_rfl)
 (ht:(cE ⟨T,[]⟩ o.dst v).tmps=T':=by first|(simp only[Go.Act.put,List.setIfInBounds_toArray,List.set_cons_zero,List.set_cons_succ];done)|(simp only[Go.Act.put,List.setIfInBounds_toArray,List.set_cons_zero,List.set_cons_succ];rfl)):CR d f ops (i::rest) ⟨chs,K,l,T,w⟩ Φ:=
 CR.opw (s:=⟨chs,K,l,T,w⟩) H ho cG bV hx (ht▸h)
theorem allx {fs:aP->Bool}{l:List cN}(h:l.all (eD fs)=true):l.toArray.all (eD fs)=true:=by simpa using h
theorem CR.cl {T:Array aF}(H:d.Ok){g:aP}{args:List cN}{jW:Array aM}{Ψ:Pr->gN->aF->aE->Prop}{Nq:Array aF}
 (hc:CF d g Nq K l w Ψ) (hk:∀K' l' v w',K.le K'->Ψ K' l' v w'->CR d f ops rest ⟨[],K',l',(cE ⟨T,[]⟩ o.dst v).tmps,w'⟩ Φ)
 (ho:ops[i]? =some o:=by exact zcl rfl (by conv=>lhs;whnf)) (hop:o.op=.call ⟨.value (.func g),args.toArray,jW⟩:=by exact rfl) (cG:dI o (dL ops T)=true:=by exact rfl) (xF:args.all (eD d.fs)=true:=by exact rfl) (ha:args.toArray.map (bL T []).eval=Nq:=by(simp only[List.map_toArray,List.map_cons,List.map_nil];rfl)):CR d f ops (i::rest) ⟨[],K,l,T,w⟩ Φ:=
 CR.call (s:=⟨[],K,l,T,w⟩) H ho cG hop (allx xF) rfl (by rw[ha];exact hc) hk
end
section
variable {P:cD}{o:aZ}{Tf:Array aF}{w:aE}{A B C D:Prop}
theorem vP (v:aF)(a:A)(h:A->(aO (bL Tf []).eval o).run P w=.ok (.value v) w:=by(intro e1;(conv at e1=>rhs;whnf);unfold execOp;go_simp)):(aO (bL Tf []).eval o).run P w=.ok (.value v) w:=h a
theorem rd2 (v:aF)(a:A)(b:B)(h:A->B->(aO (bL Tf []).eval o).run P w=.ok (.value v) w:=by(intro e1 e2;(conv at e1=>rhs;whnf);unfold execOp;go_simp)):(aO (bL Tf []).eval o).run P w=.ok (.value v) w:=h a b
theorem rd4 (v:aF)(a:A)(b:B)(c:C)(d:D)(h:A->B->C->D->(aO (bL Tf []).eval o).run P w=.ok (.value v) w:=by(intro e1 e2 e3 e4;(conv at e1=>rhs;whnf);unfold execOp;go_simp)):(aO (bL Tf []).eval o).run P w=.ok (.value v) w:=h a b c d
end
def zor:Go.Code:=(Tryz.f82.body).getD .skip
def rAO1:Go.Code:=match zor with| .seq _ (.seq (a) _)=>a|_=>.skip
def rAO2:Go.Code:=match zor with| .seq _ (.seq _ (.seq (a) _))=>a|_=>.skip
def rAO3:Go.Code:=match zor with| .seq _ (.seq _ (.seq _ (.seq (a) _)))=>a|_=>.skip
def zum:Array Oper:=match rAO1 with| .region _ ops _=>ops|_=>#[]
abbrev oAO1_0:Oper:=aV zum 0 (some 10) (.makeChan 84 (.const (.int .i64 0)))
def zIj:zum[0]? =some oAO1_0:=rfl
def zrA:Array Oper:=match rAO2 with| .region _ ops _=>ops|_=>#[]
abbrev oAO2_12:Oper:=aV zrA 12 none (.send (.tmp 18) (.tmp 22))
def zCW:zrA[12]? =some oAO2_12:=rfl
def zvv:Array Oper:=match rAO3 with| .region _ ops _=>ops|_=>#[]
abbrev oAO3_1:Oper:=aV zvv 1 (some 24) (.recv 84 (.tmp 23) false)
def zGI:zvv[1]? =some oAO3_1:=rfl
def fokAO:xA aK 82:=⟨_,zxv,.inr (.inl ⟨_,rfl⟩)⟩
theorem zID:∃ie,aK.info? 3=some ie/\ie.zero=some (.int .i64 0):=by
 obtain⟨i0,hi,fM,_,_⟩:=info_parts zE0;exact⟨i0,hi,fM⟩
theorem zdh {e:Hj}(H:e.d.Ok){K:Pr}{k q:Nat}{w:aE}{lo hb:Nat}{v:fK}{d:nZ}{kd cl ans:Int}(h:bF w lo hb v d)(hW:e.W[k]? =some (.ask q kd cl ans))(hq:q<d.qn.length)(z8:q<=100)(hK:∀(i g:Nat),d.qn[i]? =some g->K g (qa e.qs i)):
 CF e.d 82 #[.pointer (some ⟨hb,0,none⟩),.int .i64 ((q:Int)+1),.int .i64 kd,.int .i64 cl] K (.wk e.qs k) w (λK' l' x w'=>l'=.wk e.qs (k+1)/\x=.int .i64 ans/\w'=w.alloc pK):=by
 refine CF.of 25 zxv (.inr (.inl ⟨_,rfl⟩)) ?_;obtain⟨AQ,cQ,zct,hs⟩:=H0 h.Q aH;obtain⟨bq,off,g,rfl,hg,hv⟩:=zge hs hq;have zfT:=aI h.blk 6;have k6:w.cell? ⟨hb,6,none⟩=some (.slice (some ⟨bq,off,none⟩) d.qn.length cQ):=by rw[zfT,<-zct];rfl
 have zED:=hK q g hg;obtain⟨ie,jZ,hz⟩:=zID;clear zfT zct hs hg hK h;refine CW.sq H ?_;refine CW.pQ H fokAO (λTp Q HQ=>?_);go_wp2;refine HQ.o _ _ ?_;clear HQ;refine CW.tape (s:=⟨[],K,.wk e.qs k,_,w⟩) ?_ Tp 0;refine CW.sq H ?_;refine CW.rg H [0,1] ?_;refine CR.make H zIj rfl rfl zyR jZ rfl (λa=>?_);simp only[cE,fS,dU,dW];refine CR.mv H (.chan (some w.heap.size)) ?_;refine CR.nil H ?_;have zqK:(w.alloc pK).cell? ⟨hb,6,none⟩=some (.slice (some ⟨bq,off,none⟩) d.qn.length cQ):=B6 k6 _;have zun:(w.alloc pK).cell? ⟨bq,off+q,none⟩=some (.chan (some g)):=B6 hv _;have i0:(0:Int)<=(q:Int):=aC;have i1:(q:Int)<(d.qn.length:Int):=aC;generalize dY:w.alloc pK=w1 at zqK zun;refine CW.sq H ?_;refine CW.rg H [0,1,2,3,4,5,6,7,8,9,10,11,12] ?_;refine CR.mv H (.pointer (some ⟨hb,0,none⟩)) ?_;refine CR.mv H (.pointer (some ⟨hb,0,none⟩)) ?_;refine CR.mg H (.pointer (some ⟨hb,6,none⟩)) ?_;refine CR.mv H (.slice (some ⟨bq,off,none⟩) d.qn.length cQ) ?_ (hx:=λT=>by have hh:(Tt.tp w1 T 0).cell? _=_:=zqK;unfold aO;go_simp);refine CR.mv H (.int .i64 ((q:Int)+1)) ?_;refine CR.mv H (.int .i64 (q:Int)) ?_ (hx:=λT=>by unfold aO;go_simp;try exact Gd aC aC);refine CR.mg H (.pointer (some ⟨bq,off+q,none⟩)) ?_;refine CR.mv H (.chan (some g)) ?_ (hx:=λT=>by have hh:(Tt.tp w1 T 0).cell? _=_:=zun;unfold aO;go_simp);refine CR.mv H (.int .i64 kd) ?_;refine CR.mv H (.int .i64 cl) ?_;refine CR.mv H (.chan (some w.heap.size)) ?_;refine CR.mv H (.agg #[.int .i64 kd,.int .i64 cl,.chan (some w.heap.size)]) ?_ (hx:=λT=>by unfold aO;go_simp;try rfl);refine CR.ask H (k:=k) (q:=q) (a:=a) zCW rfl rfl rfl rfl rfl hW rfl rfl (.inl zED) rfl (.inr ⟨rfl,rfl⟩) ?_
 try simp only[cE,fS,dU,dW]
 refine CR.nil H ?_;refine CW.sq H ?_;refine CW.rg H [0,1,2] ?_;refine CR.mv H (.chan (some w.heap.size)) ?_;refine CR.ans H (k:=k) (q:=q) (a:=a) zGI rfl rfl zyR jZ hz rfl rfl hW rfl rfl (.inr ⟨rfl,rfl⟩) ?_;simp only[cE,fS,dU,dW];refine CR.mv H (.int .i64 ans) ?_;refine CR.nil H ?_;refine CW.rt H ?_;exact⟨.inr rfl,rfl,.int .i64 ans,rfl,rfl,rfl,aQ⟩
end Go.Proofs.YtfcjiloojkjaeaaGreatDoor
namespace Go.Proofs.YtfcjiloojkjaeaaGreatDoor
open Go.RowKit
variable {v v':fK}{d:nZ}
theorem gC.of (h:gC v d)(hc:v'.pC=v.pC)(ho:v'.pO=v.pO)(hm:v'.pM=v.pM){d':nZ}(hr:d'.r.recs=d.r.recs)(hl:d'.ln=d.ln):gC v' d':=by
 obtain⟨a,b,c,e,f,g,i,j⟩:=h;exact⟨by rw[hc];exact a,by rw[ho];exact b,by rw[hm];exact c,by rw[hc,hr,hl];exact e,by rw[ho,hr,hl];exact f,by rw[ho,hr];exact g,by rw[hm,hr];exact i,by rw[hm,hr];exact j⟩
structure Yb (B:Nat)(w:aE)(hb:Nat)(v:fK)(s:aF)(xs:List bH):Prop where
 row:w.ownsRow B 149 2 s xs.length (bK xs)
 ap:∀b,s.ownBlock=some b->some b∉parts v hb
variable {B hb:Nat}{w:aE}{s:aF}{xs:List bH}
def Yb.lt (h:Yb B w hb v s xs):∀b,s.ownBlock=some b->B<=b/\b<w.heap.size:=λb e=>h.row.lt b e
theorem Yb.turn {w':aE}(h:Yb B w hb v s xs)(t:bT hb v w v' w'):Yb B w' hb v' s xs:=
 ⟨cK h.row λb e=>t.block b (h.lt b e).2 (h.ap b e),λb e x=>(t.moved b x).elim (h.ap b e) λy=>by have:=(h.lt b e).2;omega⟩
def wN (d:nZ)(m:Int)(k:Nat):nZ:={d with r:={(dD d.r m k).1 with wait:=d.r.wait}}
structure Eb (w:aE)(lo hb:Nat)(v:fK)(d:nZ)(m:Int)(k:Nat)(v1:fK)(s:aF)(wr:aE):Prop where
 at_:bF wr lo hb v1 (wN d m k)
 mr:gC v1 {d with r:=(dD d.r m k).1}
 tn:bT hb v w v1 wr
 kp:Ba v v1
 sW:v1.sW=v.sW
 so:Yb w.heap.size wr hb v1 s (tU d.r m k)
def below_drewN (n:Nat):Below w.heap.size w (w.drewN n):=⟨rfl,rfl,rfl,bM _,λ_ _=>rfl⟩
variable {lo k:Nat}{m:Int}{v1:fK}
def Eb.below {wr w':aE}(h:Eb w lo hb v d m k v1 s wr)(bY:Below wr.heap.size wr w'):Eb w lo hb v d m k v1 s w':=
 ⟨h.at_.below bY,h.mr,h.tn.trans (bT.below bY),h.kp,h.sW,h.so.turn (bT.below bY)⟩
variable {x:bH}
theorem Eb.more {n:Nat}{s':aF}{wr w':aE}(h:Eb w lo hb v d m k v1 s wr)(hg:wr.grownBy w' s.ownBlock)(cY:w'.ownsRow w.heap.size 149 2 s' n (bK (tU d.r m k)++x.cells))(hn:n=(tU d.r m k).length+1)
 (eO:s'.ownBlock=s.ownBlock\/∀b,s'.ownBlock=some b->wr.heap.size<=b) (e1:dD d.r m (k+1)=dD d.r m k) (e2:tU d.r m (k+1)=tU d.r m k++[x]):Eb w lo hb v d m (k+1) v1 s' w':=by
 have e3:wN d m (k+1)=wN d m k:=by unfold wN;rw[e1]
 refine⟨by rw[e3];exact h.at_.grown hg h.so.ap,by rw[e1];exact h.mr,h.tn.grown hg λb e=>(h.so.lt b e).1,h.kp,h.sW,⟨?_,λb e x=>?_⟩⟩
 .rw[e2]
  have:bK (tU d.r m k++[x])=bK (tU d.r m k)++x.cells:=by simp[bK]
  rw[this,j5];subst hn;exact cY
 .rcases eO with eO|eO
  .exact h.so.ap b (eO▸e) x
  .have:=eO b e;have:=(h.at_.lt b x).2;omega
theorem zA0 {i:Nat}(e1:dD d.r m (k+1)=({lP (dD d.r m k).1 i uK with back:=(dD d.r m k).1.back++[x]},(dD d.r m k).2++[32]++gA x.c)):
 wN d m (k+1)={wN d m k with r:={(wN d m k).r with recs:=(wN d m k).r.recs.modify i (λz=>{z with t:=(wN d m k).r.clk,e:=uK}),back:=(wN d m k).r.back++[x]}}:=by
 unfold wN;rw[e1];rfl
theorem Eb.fin {wr:aE}(h:Eb w lo hb v d m k v1 s wr)(hk:k=d.r.wait.length)(T:TK d m k)(eL:lo<=w.heap.size)(ha:bF w lo hb v d):
 bF (wr.setCell ⟨hb,7,none⟩ s) lo hb {v1 with sW:=s} {d with r:=(tK d.r m).1}/\gC {v1 with sW:=s} {d with r:=(tK d.r m).1}/\bT hb v w {v1 with sW:=s} (wr.setCell ⟨hb,7,none⟩ s)/\Ba v {v1 with sW:=s}:=by
 subst hk;have e0:=TK.end_ T;have e1:(dD d.r m d.r.wait.length).1=(tK d.r m).1:=by rw[zcN]
 have h1:=h.at_.newW (zfN h.so.row eL) rfl h.so.ap;have e2:{wN d m d.r.wait.length with r:={(wN d m d.r.wait.length).r with wait:=tU d.r m d.r.wait.length}}=({d with r:=(tK d.r m).1}:nZ):=by
  unfold wN;simp only[e1,<-e0]
 refine⟨by rw[<-e2];exact h1,?_,⟨?_,λb bY hn=>?_,λb hx=>?_⟩,h.kp⟩
 .have:=h.mr
  rw[e1] at this;exact gC.of (v':={v1 with sW:=s}) this rfl rfl rfl rfl rfl
 .rw[xG];exact h.tn.size
 .exact(dX wr _ _ b (λe=>hn zyE)).trans (h.tn.block b bY hn)
 .have hp:parts {v1 with sW:=s} hb=(parts v1 hb).set 5 s.ownBlock:=rfl
  rw[hp] at hx;rcases List.mem_or_eq_of_mem_set hx with hx|hx
  .exact h.tn.moved b hx
  .exact .inr (h.so.lt b hx.symm).1
theorem zEz (h:bF w lo hb v d)(mr:gC v d)(hi:zJ d)(eL:lo<=w.heap.size)(ht:Ci lo w)(hm:0<=m)(hc:d.r.clk+m<=100000)(zdS:d.r.back.length+d.r.wait.length<=5000):
 Calls aK 105 #[.pointer (some ⟨hb,0,none⟩),.int .i64 m] w λe w'=>e=.returned (.string ⟨(tK d.r m).2.toArray⟩)/\∃v',bF w' lo hb v' {d with r:=(tK d.r m).1}/\gC v' {d with r:=(tK d.r m).1}/\bT hb v w v' w'/\Ba v v':=by
 have znV:=aD (TK.all hi hm hc zdS);have zjw:=hi.sm.clk.1;have zgw:=hi.sm.nw;obtain⟨zL0,zLv⟩:=(Aa hi.R.off).2.2.2.2;obtain⟨AW,cW,L5,Kw⟩:=H0 h.W aH;obtain⟨n,hn⟩:=aN d.r.wait.length;obtain⟨ck,Ja⟩:=aN d.r.clk;have zrP:=aI h.blk 11;have Gk:w.cell? ⟨hb,11,none⟩=some (.int .i64 ck):=by rw[zrP,Ja];rfl
 have kf:=fC h.blk;obtain⟨a1,t1⟩:=h.putClk (ck+m);have S4:wN d m 0={d with r:={d.r with clk:=ck+m}}:=by rw[Ja];rfl
 rw[<-S4] at a1;have I1:=aD (show Eb w lo hb v d m 0 v (.slice none 0 0) _ from⟨a1,mr.of rfl rfl rfl rfl rfl,t1,Ba.rf v,rfl,⟨⟨rfl,.inl ⟨rfl,rfl⟩⟩,λb e=>by cases e⟩⟩);have Ga:=aD (ht.turn h eL t1);have HN:=aD hn;have H9:=aD Ja;have Cr:=aD (show v.sW=.slice AW n cW by rw[hn];exact L5);have Kx:n<=1000:=aC;rw[<-Ja] at hc zjw;have K5:=aD eL;have zLc:=aD ht;have HH:=aD h;clear hn Ja L5 Kw a1 t1 S4 h mr hi eL ht zrP zgw
 go_enter Tryz.func105,Tryz.ntmps105
 go_upto_region 2 with fail
 obtain⟨W1,dC⟩:=aN (w.setCell ⟨hb,11,none⟩ (.int .i64 (ck+m)));rw[<-dC] at I1 Ga⊢;clear dC Gk kf;have Gk:W1.cell? ⟨hb,11,none⟩=some (.int .i64 (ck+m)):=by
  have:=aI I1.o.at_.blk 11;rw[this,H9.o];rfl
 have Ko:=Qr (c:=ck+m) aC aC
 go_upto_region 3 with(go_at_call 112;refine(zIk Ga.o (ck+m) aC aC).mono ?_;rintro x w3 ⟨rfl,Wb⟩;have wM:=aD Wb;clear Wb)
 have I3:=aD (I1.o.below wM.o);clear Gk I1 Ga wM;have k7:w3.cell? ⟨hb,7,none⟩=some (.slice AW n cW):=by
  have:=aI I3.o.at_.blk 7;rw[this,<-Cr.o];rfl
 have zib:=aD (show(⟨([97,116,32]++gA (ck+m):List UInt8).toArray⟩:ByteArray)=⟨(dD d.r m 0).2.toArray⟩ by rw[H9.o];rfl)
 go_wp2_with fail
 go_loopw [5,6,28] (λt s i wr=>∃(k:Nat) (v1:fK) (A:Option bC) (n2 c2:Nat),k<=n/\i=.int .i64 k/\t=.string ⟨(dD d.r m k).2.toArray⟩/\s=.slice A n2 c2/\Eb w lo hb v d m k v1 (.slice A n2 c2) wr) (λ_ _ i _=>n-(intOf i).toNat)
 case atStart=>
  refine⟨0,v,none,0,0,lU _,rfl,?_,rfl,I3.o⟩;rw[<-zib.o];congr 1
 case round=>
  obtain⟨k,v1,A2,n2,c2,hk,rfl,rfl,rfl,hI⟩:=hrel;have HI:=aD hI;have T:=znV.o k (by have:=HN.o;omega);have zfJ:(dD d.r m k).2.length<=40000:=by have:=T.txt;omega
  have jR:n2=(tU d.r m k).length:=by
   rcases hI.so.row.2 with⟨e,h0⟩|⟨g,cap,cur,e,_⟩
   .injection e with e1 e2 e3;rw[e2];exact h0.symm
   .injection e with e1 e2 e3
  have Qb:n2<=1000:=by have:=T.le;omega
  have uX:=aD jR;clear hI jR;by_cases aT:k<n
  .have hW:=HI.o.at_.W
   rw[HI.o.sW,Cr.o] at hW;have hW:wr.ownsRow lo 149 2 (.slice AW n cW) n (bK d.r.wait):=by
    have e:(wN d m k).r.wait.length=n:=HN.o.symm;rw[e] at hW;exact hW
   obtain⟨bW,zJ8,x,hA,kK,eR,e0,e1⟩:=zhK (Av hW aH) aT;subst hA;obtain⟨i,y,nx⟩:=T.next eR;obtain⟨gL,Na,hO,hM,hC⟩:=HI.o.mr.onLine T.i nx.hy nx.op nx.c;obtain⟨gR,cR,zvp⟩:=zjg HI.o.at_ nx.hy;obtain⟨Ut,Kd⟩:=nx.b;obtain⟨Me,zCV⟩:=nx.f;rw[<-H9.o] at zCV;have i0:(0:Int)<=(k:Int):=aC;have i1:(k:Int)<(n:Int):=aC;have NX:=aD nx;have zl8:=aD eR;have HL:=aD (And.intro Na (And.intro hO (And.intro hM hC)));have uH:=aD zvp;have HT:=aD T;clear hW nx eR Na hO hM hC zvp T kK
   go_upto_region 7 with fail
   obtain⟨W4,rN⟩:=aN (wr.alloc (.cells #[.int .i64 x.c,.int .i64 x.p] 149));have I4:=aD (show Eb w lo hb v d m k v1 (.slice A2 n2 c2) W4 by rw[rN];exact HI.o.below (eK (gD _ _) _));have uU:W4.heap[wr.heap.size]? =some (.cells #[.int .i64 x.c,.int .i64 x.p] 149):=by rw[rN];exact gV _ _
   have Yc:=aD uU;have g0:=aI uU 0;have g1:=aI uU 1;have zuR:=aD (show some wr.heap.size∉parts v1 hb from λh=>by have:=(HI.o.at_.lt _ h).2;omega);obtain⟨gx,ztJ⟩:∃y,y=wr.heap.size:=⟨_,rfl⟩;rw[<-rN];rw[<-ztJ] at g0 g1 Yc zuR⊢;clear rN uU e0 e1 ztJ;have Gk:W4.cell? ⟨hb,11,none⟩=some (.int .i64 (ck+m)):=by
    have:=aI I4.o.at_.blk 11;rw[this];show some (M9 .i64 (dD d.r m k).1.clk)=_;rw[HT.o.clk,H9.o]
   have k2:W4.cell? ⟨hb,2,none⟩=some (.int .i64 d.r.o.pt):=by
    have:=aI I4.o.at_.blk 2;rw[this];show some (M9 .i64 (dD d.r m k).1.o.pt)=_;rw[HT.o.o]
   have k3:=(I4.o.at_.recAt uH.o NX.o.hy (j:=3) (u:=.int .i64 y.f) aH rfl).1;have HE:=aD (λnq:Nat=>Calls.quiet_of (w:=W4) (n:=nq) ((zgr (w:=W4.drewN nq) (I4.o.at_.same rfl) uH.o NX.o.hy HL.o.2.2.1).mono λe w' hh=>⟨hh.1,1,hh.2⟩));by_cases hp:ck+m-y.f<d.r.o.pt
   .go_quiet ((go_at_call 115;exact HE.o _))
    go_upto_region 8 with fail
    obtain⟨wz,tP⟩:=aN (W4.drewN nq);rw[<-tP];have IZ:=aD (show Eb w lo hb v d m k v1 (.slice A2 n2 c2) wz by rw[tP];exact I4.o.below (below_drewN nq));have zkm:wz.heap[gx]? =some (.cells #[.int .i64 x.c,.int .i64 x.p] 149):=by rw[tP];exact Yc.o
    have g0:=aI zkm 0;have g1:=aI zkm 1;clear tP;obtain⟨OB,zcZ⟩:=aN (.cells #[.int .i64 x.c,.int .i64 x.p] 149:Obj);have zrM:=aD (IZ.o.below (eK (gD _ _) OB));have znG:=zrM.o.so.row;rw[<-uX.o] at znG;obtain⟨q1,q2,w5,fQ,cY,mV,eO⟩:=Ns (t:=69) (ty:=69) zbF Tryz.underlying69 rfl aH znG (g:=wz.heap.size) (cs:=#[.int .i64 x.c,.int .i64 x.p]) (news:=bH.cells x) (by rw[zcZ];exact gV _ _) rfl (m:=1) rfl aH Rp aC aH (by have:=IZ.o.tn.size;simp;omega);rw[zcZ] at fQ;have AP:=aD fQ;clear fQ znG Gk k2 k3
    go_upto_region 12 with(at_builtin;refine zwY rfl (.tmp 50) (.tmp 52) 69 69 rfl (.slice A2 n2 c2) (.slice (some ⟨wz.heap.size,0,none⟩) 1 1) (.slice (some ⟨q1,0,none⟩) (n2+1) q2) rfl rfl AP.o ?_)
    have IM:=aD (zrM.o.more mV (x:=x) cY (by rw[uX.o]) eO (NX.o.not_ zkN).1 (NX.o.not_ zkN).2);have ET:=aD (NX.o.not_ zkN).1;clear AP cY mV eO g0 g1 zkm;go_wp2;go_roundw
    case rel=>exact⟨k+1,v1,some ⟨q1,0,none⟩,n2+1,q2,aC,nE,by rw[ET.o],rfl,IM.o⟩
    case measure=>simp[intOf];omega
   .have zs6:d.r.o.pt<=d.r.clk+m-y.f:=by have:=H9.o;omega
    obtain⟨E1,E2⟩:=NX.o.tired zs6;have cM:=aD E1;have nX:=aD E2;have zFl:=aD (show some gx∉parts v1 hb from zuR.o);clear E1 E2 zs6
    go_quiet ((go_at_call 115;exact HE.o _))
    go_upto_region 9 with fail
    obtain⟨wz,tP⟩:=aN (W4.drewN nq);rw[<-tP];have IZ:=aD (show Eb w lo hb v d m k v1 (.slice A2 n2 c2) wz by rw[tP];exact I4.o.below (below_drewN nq));have zqi:=aD (show wz.heap[gx]? =some (.cells #[.int .i64 x.c,.int .i64 x.p] 149) by rw[tP];exact Yc.o);clear tP Gk k2 k3 g0 g1;have g0:=aI zqi.o 0
    go_upto_region 10 with(go_at_call 116;refine(zkC (e:=⟨#[116,105,114,101,100]⟩) IZ.o.at_ NX.o.hy HL.o.2.1 HL.o.2.2.2 HL.o.2.2.1 uH.o).mono ?_;rintro en w5 ⟨rfl,v5,a5,t5,p5⟩;have A5:=aD a5;have T5:=aD t5;have P5:=aD p5;clear a5 t5 p5)
    obtain⟨zmq,zxh⟩:=IZ.o.at_.turned T5.o zqi.o zFl.o;have zBs:=aD (gC.of (v':=v5) (IZ.o.mr.clear HT.o.i.S HT.o.i.ndl (λz hz=>(HT.o.i.lb z hz).1) NX.o.hy NX.o.op HL.o.1 (f:=λz=>{z with t:=(dD d.r m k).1.clk,e:=uK}) (λz=>⟨rfl,rfl⟩) zaq) P5.o.1 (by rw[P5.o.2.1,NX.o.c]) P5.o.2.2.1 rfl rfl);have zGR:=aD (IZ.o.so.turn T5.o);have Dx:=aD zmq;have k8:w5.cell? ⟨hb,8,none⟩=some v5.sB:=aI A5.o.blk 8;have g5:=aI zmq 0;obtain⟨OC,zcm⟩:=aN (.cells #[.int .i64 x.c] 3:Obj);have a5:=(A5.o.alloc OC).drew;have oI:(dD d.r m k).1.back.length<=5000:=HT.o.i.sm.nb;obtain⟨q1,q2,w6,fQ,cY,mV,eO⟩:=Ns (t:=38) (ty:=38) Ye X4 rfl aH a5.B (g:=w5.heap.size) (cs:=#[.int .i64 x.c]) (news:=[.int .i64 x.c]) (by rw[zcm];exact gV _ _) rfl (m:=1) rfl aH Lz (by show(dD d.r m k).1.back.length+1<=_;omega) aH (by have:=IZ.o.tn.size;have:=T5.o.size;have:=K5.o;simp;omega);obtain⟨a6,t6⟩:=a5.putB mV (xs:=(dD d.r m k).1.back++[x]) (by have e:fN (((dD d.r m k).1.back++[x]).map bH.c)=fN ((dD d.r m k).1.back.map bH.c)++[.int .i64 x.c]:=(by simp[fN]);rw[e];exact cY) (by simp;rfl) eO;have A6:=aD (show bF (w6.setCell ⟨hb,8,none⟩ (.slice (some ⟨q1,0,none⟩) ((dD d.r m k).1.back.length+1) q2)) lo hb {v5 with sB:=.slice (some ⟨q1,0,none⟩) ((dD d.r m k).1.back.length+1) q2} (wN d m (k+1)) by rw[zA0 cM.o];exact a6);have T6:=aD (show bT hb v5 w5 {v5 with sB:=.slice (some ⟨q1,0,none⟩) ((dD d.r m k).1.back.length+1) q2} (w6.setCell ⟨hb,8,none⟩ (.slice (some ⟨q1,0,none⟩) ((dD d.r m k).1.back.length+1) q2)) from(bT.below (eK (gD _ w5) OC)).trans (⟨t6.size,t6.block,t6.moved⟩:bT hb v5 (w5.alloc OC) _ _));have Lj:w6.heap[hb]? =some (Oe v5 _):=(a5.other (j:=6) (c:=8) (x:=v5.sB) rfl aH mV (.slice (some ⟨q1,0,none⟩) ((dD d.r m k).1.back.length+1) q2)).2.trans a5.blk;have Px:=aI Lj 8;have kf:=fC Lj 8;have AP:=aD fQ;clear cY mV eO a6 t6 a5 Lj fQ zmq g0;rw[zcm] at AP;refine wp_WA10 w5 w6 hb gx q1 ((dD d.r m k).1.back.length+1) q2 v5.sB x.c rfl rfl rfl k8 g5 AP.o Px kf rfl ?_;rw[Go.Mt.Cq,zuy];simp only[Go.Mt.yF,dU,dW,zlh,lWA10,Dy,Ey];obtain⟨W7,Dm⟩:=aN (w6.setCell ⟨hb,8,none⟩ (.slice (some ⟨q1,0,none⟩) ((dD d.r m k).1.back.length+1) q2));rw[<-Dm] at A6 T6⊢;clear Dm k8 Px kf g5 AP;have g7:=aI (A5.o.turned T6.o Dx.o zxh).1 0;have zLP:=Qr (c:=x.c) aC aC
    have I7:=aD (show Eb w lo hb v d m (k+1) {v5 with sB:=.slice (some ⟨q1,0,none⟩) ((dD d.r m k).1.back.length+1) q2} (.slice A2 n2 c2) W7 from
     ⟨A6.o,by rw[cM.o];refine gC.of zBs.o ?_ ?_ ?_ ?_ ?_<;>rfl,(IZ.o.tn.trans T5.o).trans T6.o,⟨P5.o.2.2.2.2.1.trans IZ.o.kp.1,P5.o.2.2.2.2.2.1.trans IZ.o.kp.2.1,P5.o.2.2.2.2.2.2.2.2.1.trans IZ.o.kp.2.2.1,P5.o.2.2.2.2.2.2.2.2.2.trans IZ.o.kp.2.2.2⟩,P5.o.2.2.2.2.2.2.1.trans IZ.o.sW,by rw[nX.o];exact zGR.o.turn T6.o⟩)
    clear T5 zxh A6 T6
    go_wp2_with (go_at_call 112;refine(zi1 x.c aC aC _).mono ?_;rintro en w8 ⟨rfl,Jf⟩;obtain rfl:=Jf)
    go_roundw
    case rel=>exact⟨k+1,_,A2,n2,c2,aC,nE,by rw[cM.o];simp[Oc],rfl,I7.o⟩
    case measure=>simp[intOf];omega
  .have e:k=n:=aC
   subst e;obtain⟨F1,F2,F3,F4⟩:=HI.o.fin HN.o T K5.o HH.o;have FF:=aD (And.intro F1 (And.intro F2 (And.intro F3 F4)));have k7:wr.cell? ⟨hb,7,none⟩=some v1.sW:=aI HI.o.at_.blk 7;have Xt:wr.cell? ⟨hb,7,none⟩=some (.slice AW k cW):=by rw[k7,HI.o.sW,Cr.o]
   have kf:=fC HI.o.at_.blk;have HR:=aD (show(⟨(dD d.r m k).2.toArray⟩:ByteArray)=⟨(tK d.r m).2.toArray⟩ by rw[<-zcN,<-HN.o]);clear F1 F2 F3 F4 k7;go_wp2;go_ret;exact⟨by rw[HR.o];rfl,_,FF.o⟩
end Go.Proofs.YtfcjiloojkjaeaaGreatDoor
namespace Go.Proofs.YtfcjiloojkjaeaaGreatDoor
open Go.RowKit Go.Mt Go.Conc Go.Tt Go.Maps
section
variable {d:qH}{f:aP}{s:WS}{ops:Array aZ}{i:Nat}{rest:List Nat}{Φ:WS->Prop}{o:aZ}
theorem CR.call' (H:d.Ok){g:aP}{args:Array cN}{jW:Array aM}{Ψ:Pr->gN->aF->aE->Prop}(Nq:Array aF)(ho:ops[i]? =some o)(cG:dI o (dL ops s.T)=true)(hop:o.op=.call ⟨.value (.func g),args,jW⟩)(xF:args.all (eD d.fs)=true)(uC:s.chs=[])(ha:args.map (bL s.T []).eval=Nq)
 (hc:CF d g Nq s.K s.l s.w Ψ) (hk:∀K' l' v w',s.K.le K'->Ψ K' l' v w'->CR d f ops rest ⟨[],K',l',(cE ⟨s.T,[]⟩ o.dst v).tmps,w'⟩ Φ):CR d f ops (i::rest) s Φ:=
 CR.call H ho cG hop xF uC (by rw[ha];exact hc) hk
end
variable {w:aE}{lo hb:Nat}{v:fK}{d:nZ}
def bF.tp (h:bF w lo hb v d)(T:kI)(n:Nat):bF (Tt.tp w T n) lo hb v d:=h.same rfl
variable {w':aE}{v':fK}
def bT.tp (h:bT hb v w v' w')(T:kI)(n:Nat):bT hb v w v' (Tt.tp w' T n):=h.same rfl
def zav:xA aK 120:=⟨_,zsH,.inr (.inl ⟨_,rfl⟩)⟩
variable {e:Hj}{K:Pr}{k q i:Nat}{c:Int}{x:bO}
theorem zxZ (H:e.d.Ok)(h:bF w lo hb v d)(hW:e.W[k]? =some (.ask q 1 c c))(hq:q<d.qn.length)(z8:q<=100)(hK:∀(i g:Nat),d.qn[i]? =some g->K g (qa e.qs i))
   (hx:d.r.recs[i]? =some x) (hM:lK c v.pM=some (.int .i64 (i:Int))) (Z9:1<=c) (uZ:c<=99):
 CF e.d 120 #[.pointer (some ⟨hb,0,none⟩),.int .i64 ((q:Int)+1),.int .i64 c] K (.wk e.qs k) w (λK' l' y w'=>l'=.wk e.qs (k+1)/\y=.string ⟨([99,97,108,108,32]++gA c).toArray⟩/\bF w' lo hb v {d with r:={d.r with recs:=d.r.recs.modify i λz=>{z with o:=(q:Int)+1,h:=d.r.clk}}}/\bT hb v w v w'):=by
 refine CF.of 29 zsH (.inr (.inl ⟨_,rfl⟩)) ?_;have HX:=aD hx;have HM:=aD hM;obtain⟨gR,cR,hR⟩:=zjg h hx;have HR:=aD hR;clear hx hM hR;refine CW.sq H ?_;refine CW.pQ H zav (λTp Q HQ=>?_);go_wp2;refine HQ.o _ _ ?_;clear HQ;refine CW.tape (s:=⟨[],K,.wk e.qs k,_,w⟩) ?_ Tp 0;refine CW.sq H ?_;refine CW.rg H [0,1,2,3] ?_;refine CR.mv H (.pointer (some ⟨hb,0,none⟩)) ?_;refine CR.mv H (.int .i64 ((q:Int)+1)) ?_;refine CR.mv H (.int .i64 c) ?_;refine CR.cl H (zdh H h hW hq z8 hK) (λK' l' y w' hl qM=>?_);obtain⟨rfl,rfl,sE⟩:=qM;simp only[cE,fS,dU,dW];have A1:=aD (show bF w' lo hb v d by rw[sE];exact h.alloc _);have T1:=aD (show bT hb v w v w' by rw[sE];exact bT.below (eK (gD _ _) _));clear h hW hq z8 hK sE;refine CR.nil H ?_;refine CW.sq H ?_;refine CW.pQ H zav (λTp Q HQ=>?_);obtain⟨wa,xV⟩:=aN (Tt.tp w' Tp 0);have A2:=aD (show bF wa lo hb v d by rw[xV];exact A1.o.tp Tp 0);have T2:=aD (show bT hb v w v wa by rw[xV];exact T1.o.tp Tp 0);rw[<-xV];clear xV A1 T1
 go_wp2_with (go_at_call 115;refine(zgr A2.o HR.o HX.o HM.o).mono ?_;rintro en w2 ⟨rfl,eN⟩;obtain rfl:=eN)
 refine HQ.o _ _ ?_;obtain⟨w2,eN⟩:=aN wa.drew;rw[<-eN];have A3:=aD (show bF w2 lo hb v d by rw[eN];exact A2.o.drew);have T3:=aD (show bT hb v w v w2 by rw[eN];exact T2.o.same rfl);clear HQ eN A2 T2;refine CW.sq H ?_;refine CW.pQ H zav (λzlO Q HQ=>?_);obtain⟨znf,xV⟩:=aN (Tt.tp w2 zlO 0);have A4:=aD (show bF znf lo hb v d by rw[xV];exact A3.o.tp zlO 0);have T4:=aD (show bT hb v w v znf by rw[xV];exact T3.o.tp zlO 0);dsimp only;rw[<-xV];clear xV A3 T3;obtain⟨c2,f2⟩:=A4.o.recAt HR.o HX.o (j:=2) (u:=.int .i64 x.o) aH rfl;obtain⟨a5,t5⟩:=A4.o.setR (λz=>{z with o:=(q:Int)+1}) HR.o HX.o (j:=2) (u:=.int .i64 ((q:Int)+1)) aH zvE rfl;have A5:=aD a5;have T5:=aD (T4.o.trans t5);clear a5 t5;go_wp2;refine HQ.o _ _ ?_;clear HQ c2 f2 A4 T4;obtain⟨w5,kS⟩:=aN (znf.setCell ⟨gR,i*7+2,none⟩ (.int .i64 ((q:Int)+1)));rw[<-kS] at A5 T5⊢;clear kS;have zau:=aD (show(d.r.recs.modify i λz=>{z with o:=(q:Int)+1})[i]? =some {x with o:=(q:Int)+1} from zhZ HX.o);have jX:=aD (show v.sR=.slice (some ⟨gR,0,none⟩) (d.r.recs.modify i λz=>{z with o:=(q:Int)+1}).length cR by rw[List.length_modify];exact HR.o);refine CW.sq H ?_;refine CW.pQ H zav (λVq Q HQ=>?_);obtain⟨zgy,xV⟩:=aN (Tt.tp w5 Vq 0);have A6:=aD (show bF zgy lo hb v _ by rw[xV];exact A5.o.tp Vq 0);have T6:=aD (show bT hb v w v zgy by rw[xV];exact T5.o.tp Vq 0);dsimp only;rw[<-xV];clear xV A5 T5;have Gk:zgy.cell? ⟨hb,11,none⟩=some (.int .i64 d.r.clk):=aI A6.o.blk 11;obtain⟨c4,f4⟩:=A6.o.recAt jX.o zau.o (j:=4) (u:=.int .i64 x.h) aH rfl;obtain⟨a7,t7⟩:=A6.o.setR (λz=>{z with h:=d.r.clk}) jX.o zau.o (j:=4) (u:=.int .i64 d.r.clk) aH zvd rfl;simp only[zfy] at a7;have A7:=aD a7;have T7:=aD (T6.o.trans t7);clear a7 t7;go_wp2;refine HQ.o _ _ ?_;clear HQ c4 f4 A6 T6 Gk;obtain⟨w7,rS⟩:=aN (zgy.setCell ⟨gR,i*7+4,none⟩ (.int .i64 d.r.clk));rw[<-rS] at A7 T7⊢;clear rS;have Ko:=Qr (c:=c) aC aC;refine CW.sq H ?_;refine CW.pQ H zav (λWi Q HQ=>?_);dsimp only
 go_wp2_with (go_at_call 112;refine(zi1 c aC aC _).mono ?_;rintro en w8 ⟨rfl,Jf⟩;obtain rfl:=Jf)
 refine HQ.o _ _ ?_;clear HQ;refine CW.rt H ?_;exact⟨.inr rfl,rfl,.string ⟨([99,97,108,108,32]++gA c).toArray⟩,(by have ee:(⟨#[99,97,108,108,32]⟩:ByteArray)++⟨(gA c).toArray⟩=⟨([99,97,108,108,32]++gA c).toArray⟩:=(by simp[Oc]);rw[<-ee];rfl),rfl,rfl,A7.o.tp Wi 0,T7.o.tp Wi 0⟩
structure zaM (qs:List Nat)(lo hb:Nat)(v:fK)(d:nZ)(w:aE)(k n:Nat)(R:b6×List UInt8)(l':gN)(y:aF)(w':aE):Prop where
 l:l'=.wk qs (k+n)
 y:y=.string ⟨R.2.toArray⟩
 x:∃v',bF w' lo hb v' {d with r:=R.1}/\gC v' {d with r:=R.1}/\bT hb v w v' w'/\Ba v v'
def C4 (W:List fL)(k:Nat)(A:List fL):Prop:=∀(j:Nat) (x:fL),A[j]? =some x->W[k+j]? =some x
variable {W A:List fL}
def C4.head {x:fL}(h:C4 W k (x::A)):W[k]? =some x:=h 0 x rfl
theorem C4.tail {x:fL}(h:C4 W k (x::A)):C4 W (k+1) A:=λj y hy=>by
 have:=h (j+1) y hy;rw[show k+1+j=k+(j+1) by omega];exact this
variable {n:Nat}
theorem zi5 {E s:Nat}{v:aF}{xs:List aF}(h:w.ownsRow lo E s v n xs)(hn:0<n):∃g c,v=.slice (some ⟨g,0,none⟩) n c:=by
 rcases h.2 with⟨_,h0⟩|⟨g,cap,cur,e,_⟩
 .omega
 .exact⟨g,_,e⟩
variable {b:b6}
theorem zuj (hr:RInv b)(op:Int):0<=dE b.recs op/\(dE b.recs op≠0->0<dE b.recs op):=by
 rcases ziP b.recs op with⟨i,x,h1,_,_,h4⟩|⟨_,h4⟩
 .have:=(hr.recB x (eI h1)).1
  rw[h4];omega
 .rw[h4];exact⟨Int.le_refl _,λh=>absurd rfl h⟩
theorem Ll (q:Nat):zO ((q:Int)+1)=q:=by unfold zO;omega
def Uz:xA aK 103:=⟨_,zw5,.inr (.inl ⟨_,rfl⟩)⟩
theorem cf_pick (H:e.d.Ok)(h:bF w lo hb v d)(mr:gC v d)(hi:zJ d)(hW:C4 e.W k (Hm d.r ((q:Int)+1)))(hq:q<d.qn.length)(z8:q<=100)(hK:∀(i g:Nat),d.qn[i]? =some g->K g (qa e.qs i)):
 CF e.d 103 #[.pointer (some ⟨hb,0,none⟩),.int .i64 ((q:Int)+1)] K (.wk e.qs k) w (λK' l' y w'=>zaM e.qs lo hb v d w k (Hm d.r ((q:Int)+1)).length (nL d.r ((q:Int)+1)) l' y w'):=by
 refine CF.of 35 zw5 (.inr (.inl ⟨_,rfl⟩)) ?_;have A0:=aD h;have T0:=aD (bT.refl (hb:=hb) (v:=v) (w:=w));obtain⟨ans,Nu⟩:=aN (dE d.r.recs ((q:Int)+1));have HA:=aD Nu;have HI:=aD hi;have MR:=aD mr;have hg:=zuj hi.R ((q:Int)+1);rw[<-Nu] at hg;have H7:e.W[k]? =some (.ask q 0 0 ans):=by have:=hW.head;rw[Ll,<-Nu] at this;exact this
 have HW:=aD hW;clear h mr hi hW Nu;refine CW.sq H (CW.p0 H Uz A0 T0 λw1 dY A1 T1=>?_);refine CW.sq H ?_;refine CW.sq H ?_;refine CW.rg H [0,1,2,3] ?_;refine CR.mv H (.pointer (some ⟨hb,0,none⟩)) ?_;refine CR.mv H (.int .i64 ((q:Int)+1)) ?_;refine CR.cl H (zdh H A1.o H7 hq z8 hK) (λK' l' y w' hl qM=>?_);obtain⟨rfl,rfl,sE⟩:=qM;simp only[cE,fS,dU,dW];have A2:=aD (show bF w' lo hb v d by rw[sE];exact A1.o.alloc _);have T2:=aD (show bT hb v w v w' by rw[sE];exact T1.o.trans (bT.below (eK (gD _ _) _)));have sH:∀(i g:Nat),d.qn[i]? =some g->K' g (qa e.qs i):=λi g hg=>hl _ _ (hK i g hg);clear sE A1 T1 H7 hK hl;by_cases hz:ans=0
 .
   subst hz;refine nP ?_;refine CR.mg H (.bool false) ?_;refine CR.nil H ?_;refine CW.cd H false ?_;refine CW.sk H ?_;dsimp only;refine CW.sq H ?_;have F5:¬0<dE d.r.recs ((q:Int)+1):=by rw[<-HA.o];omega
   have HF:=aD F5;clear hg F5;obtain⟨AW,cW,L5,Kw⟩:=H0 A2.o.W aH;have Cr:=aD L5
   cases cG:d.r.wait with
   |nil=>
    have Qe:=aD cG;have e1:nL d.r ((q:Int)+1)=(d.r,[110,111,110,101]):=by unfold nL;rw[if_neg HF.o,Qe.o]
    have e2:Hm d.r ((q:Int)+1)=[.ask q 0 0 0]:=by unfold Hm;rw[if_neg HF.o,Qe.o,Ll,<-HA.o]
    have cM:=aD e1;have nX:=aD e2;clear e1 e2;refine CW.sq H (CW.pW H Uz A2 T2 λw3 Q jD A3 T3 HQ=>?_);have k7:w3.cell? ⟨hb,7,none⟩=some (.slice AW 0 cW):=by
     have:=aI A3.o.blk 7;rw[this,<-show v.sW=.slice AW 0 cW by rw[Cr.o,cG];rfl];rfl
    clear cG L5 Kw;go_wp2;refine HQ.o _ _ ?_;clear HQ;refine CW.cd H true ?_;refine CW.sq H (CW.p0 H Uz A3 T3 λw4 l5 A4 T4=>?_);refine CW.rt H ?_;refine⟨.inr rfl,rfl,.string ⟨#[110,111,110,101]⟩,rfl,⟨by rw[nX.o];rfl,by rw[cM.o],v,?_,?_,?_,Ba.rf v⟩⟩
    .rw[cM.o];exact A4.o
    .rw[cM.o];exact MR.o
    .exact T4.o
   |cons c cs=>
    have Qe:=aD cG;obtain⟨i,x,hx,sU,Jz,tX⟩:=HI.o.S.wt c Yt;have eO:gU d.r.recs c.c=some i:=by rw[<-Jz];exact HI.o.S.at_ hx sU
    have Df:=HI.o.R.waitB c Yt;obtain⟨gL,Na,hO,hM,hC⟩:=MR.o.onLine HI.o hx sU Jz;have Qw:dK (c::cs) c.c=cs:=zgf (st:=[]) (by have:=HI.o.R.nodup;rw[cG] at this;exact this);have e1:nL d.r ((q:Int)+1)=({d.r with recs:=d.r.recs.modify i λz=>{z with o:=(q:Int)+1,h:=d.r.clk},wait:=cs},[99,97,108,108,32]++gA c.c):=by
     unfold nL;rw[if_neg HF.o,cG];simp only[eO,Qw]
    have e2:Hm d.r ((q:Int)+1)=[.ask q 0 0 0,.ask q 1 c.c c.c]:=by unfold Hm;rw[if_neg HF.o,cG,Ll,<-HA.o]
    have zaY:e.W[k+1]? =some (.ask q 1 c.c c.c):=by have:=HW.o;rw[e2] at this;exact this.tail.head
    obtain⟨gW,zL1,zeI⟩:=zi5 A2.o.W Yt;rw[L5] at zeI;injection zeI with qU oV Bh;subst qU;have hlen:d.r.wait.length=cs.length+1:=by rw[cG];rfl
    have Kx:=HI.o.sm.nw;have zpb:=aD hlen;have So:=aD (show v.sW=.slice (some ⟨gW,0,none⟩) (cs.length+1) cW by rw[Cr.o,hlen]);have HX:=aD hx;have HM:=aD hM;have cM:=aD e1;have nX:=aD e2;have zCD:cs.length<=1000:=aC;have Z9:=Df.1;have uZ:=Df.2;clear cG hx sU Jz tX eO Df Na hO hM hC Qw e1 e2 L5 Kw Cr hlen Kx oV Bh;refine CW.sq H (CW.pW H Uz A2 T2 λw3 Q jD A3 T3 HQ=>?_);have k7:w3.cell? ⟨hb,7,none⟩=some (.slice (some ⟨gW,0,none⟩) (cs.length+1) cW):=by
     have:=aI A3.o.blk 7;rw[this,<-So.o];rfl
    go_wp2;refine HQ.o _ _ ?_;clear HQ;clear k7;refine CW.cd H false ?_;refine CW.sk H ?_;dsimp only;refine CW.sq H (CW.pW H Uz A3 T3 λw4 Q l5 A4 T4 HQ=>?_);have k7:w4.cell? ⟨hb,7,none⟩=some (.slice (some ⟨gW,0,none⟩) (cs.length+1) cW):=by
     have:=aI A4.o.blk 7;rw[this,<-So.o];rfl
    have o7:w4.ownsRow lo 149 2 (.slice (some ⟨gW,0,none⟩) (cs.length+1) cW) (cs.length+1) (bK (c::cs)):=by
     have:=A4.o.W;rw[So.o,Qe.o] at this;exact this
    obtain⟨bW,oW,x',hA,kK,eR,e0,e1⟩:=zhK (Av o7 aH) (k:=0) aC;injection hA with hA;injection hA with Bj Bg;subst Bj Bg;have mJ:c=x':=by simpa using eR
    subst mJ;simp only[Nat.zero_mul,Ui] at e0 e1;clear o7 eR;go_wp2;refine HQ.o _ _ ?_;clear HQ;clear k7 e0 e1 kK;refine CW.sq H (CW.pW H Uz A4 T4 λw5 Q kS A5 T5 HQ=>?_);have k7:w5.cell? ⟨hb,7,none⟩=some (.slice (some ⟨gW,0,none⟩) (cs.length+1) cW):=by
     have:=aI A5.o.blk 7;rw[this,<-So.o];rfl
    have o7:w5.ownsRow lo 149 2 (.slice (some ⟨gW,0,none⟩) (cs.length+1) cW) (cs.length+1) (bK (c::cs)):=by
     have:=A5.o.W;rw[So.o,Qe.o] at this;exact this
    have Si:=aD o7;clear o7
    go_wp2_with (go_at_call 119;refine(zAK (i:=0) (j:=1) Si.o (Yy _) aC aC).mono ?_;rintro en w6 ⟨rfl,lF,lG⟩;have Qa:w6.ownsRow lo 149 2 (.slice (some ⟨gW,0,none⟩) cs.length cW) cs.length (bK cs):=lF;have C2:w5.grownBy w6 v.sW.ownBlock:=(by rw[So.o];exact lG);have hq:=(A5.o.other (j:=5) (c:=7) (x:=v.sW) rfl aH C2 (.slice (some ⟨gW,0,none⟩) cs.length cW)).2;have Xt:=aI (hq.trans A5.o.blk) 7;have kf:=fC (hq.trans A5.o.blk) 7;have Ck:=aD (And.intro Qa C2);clear lF lG Qa C2 hq)
    refine HQ.o _ _ ?_;clear HQ;clear k7 Xt kf;obtain⟨a6,t6⟩:=A5.o.putW Ck.o.2 Ck.o.1 rfl (.inl (by rw[So.o];rfl));have A6:=A5;have T6:=T5;obtain⟨w7,rS⟩:=aN (w6.setCell ⟨hb,7,none⟩ (.slice (some ⟨gW,0,none⟩) cs.length cW));have A7:=aD (show bF w7 lo hb {v with sW:=.slice (some ⟨gW,0,none⟩) cs.length cW} {d with r:={d.r with wait:=cs}} by rw[rS];exact a6);have T7:=aD (show bT hb v w {v with sW:=.slice (some ⟨gW,0,none⟩) cs.length cW} w7 by rw[rS];exact(T5.o.trans t6));rw[<-rS];clear rS A6 T6;clear a6 t6 Ck A5 T5;refine CW.sq H ?_;refine CW.rg H [0,1,2,3,4] ?_;refine CR.mv H (.pointer (some ⟨hb,0,none⟩)) ?_;refine CR.mv H (.int .i64 ((q:Int)+1)) ?_;refine CR.mv H (.int .i64 c.c) ?_;refine CR.cl H (zxZ H A7.o zaY hq z8 sH HX.o HM.o Z9 uZ) (λK2 l2 y2 w8 zx0 qM=>?_);obtain⟨rfl,rfl,a8,t8⟩:=qM;simp only[cE,fS,dU,dW];refine nP ?_;refine CR.mv H (.string ⟨([99,97,108,108,32]++gA c.c).toArray⟩) ?_;refine CR.nil H ?_;refine CW.rt H ?_;refine⟨.inr rfl,rfl,.string ⟨([99,97,108,108,32]++gA c.c).toArray⟩,rfl,⟨by rw[nX.o];rfl,by rw[cM.o],_,?_,?_,T7.o.trans t8,⟨rfl,rfl,rfl,rfl⟩⟩⟩
    .rw[cM.o];exact a8
    .rw[cM.o];refine gC.of (MR.o.mod (f:=λz=>{z with o:=(q:Int)+1,h:=d.r.clk}) (i:=i) λz=>⟨rfl,rfl,rfl⟩) ?_ ?_ ?_ ?_ ?_<;>rfl
 .
   have aS:0<ans:=hg.2 hz;have oI:(ans !=0)=true:=by simpa using hz
   refine nP ?_;refine CR.mv H (.bool true) ?_ (hx:=λT=>by unfold aO;go_simp;try exact oI);refine CR.nil H ?_;refine CW.cd H true ?_;refine CW.sq H (CW.p0 H Uz A2 T2 λw3 jD A3 T3=>?_);refine CW.rt H ?_;have Dt:0<dE d.r.recs ((q:Int)+1):=by rw[<-HA.o];exact aS
   have e1:nL d.r ((q:Int)+1)=(d.r,[116,97,108,107,115]):=by unfold nL;rw[if_pos Dt]
   have e2:Hm d.r ((q:Int)+1)=[.ask q 0 0 ans]:=by unfold Hm;rw[if_pos Dt,Ll,<-HA.o]
   refine⟨.inr rfl,rfl,.string ⟨#[116,97,108,107,115]⟩,rfl,⟨by rw[e2];rfl,by rw[e1],v,?_,?_,?_,Ba.rf v⟩⟩
   .rw[e1];exact A3.o
   .rw[e1];exact MR.o
   .exact T3.o
variable {f:bO->bO}
theorem zEZ {rs:List bO}:(rs++[x]).modify rs.length f=rs++[f x]:=by
 apply List.ext_getElem?;intro j;rw[List.getElem?_modify];rcases zs3 j rs.length with h|h|h
 .rw[Ls h,Ls h]
  have aS:rs.length≠j:=aC;simp[aS]
 .subst h
  rw[Qm (bM _),Qm (bM _),ziC];simp
 .rw[zr5 pD,zr5 pD];rfl
structure FreeAt (d:nZ)(l:Int)(i g:Nat):Prop where
 l:l=(i:Int)+1
 g:d.ln[i]? =some g
 i6:i<=100
 un:sC d.r.recs ((i:Int)+1)=false
variable {l:Int}{ls:List Int}
theorem zJ.free (h:zJ d)(hf:oX d.r.o d.r.recs=l::ls):∃i g,FreeAt d l i g:=by
 have hm:l∈oX d.r.o d.r.recs:=by rw[hf];simp
 obtain⟨h1,h2⟩:=zht h.R.off hm;have h3:=(X0 hm).2;have hn:=h.nln;obtain⟨i,rfl⟩:∃i:Nat,l=(i:Int)+1:=⟨(l-1).toNat,aC⟩;have hi:i<d.ln.length:=aC;refine⟨i,_,rfl,oQ hi,aC,?_⟩;unfold oX yL at hm;have:=(Mg.1 hm).2;simpa using this
theorem zpX (hf:oX d.r.o d.r.recs=l::ls):Je d=l-1:=by unfold Je;rw[hf]
theorem zsC (hf:oX d.r.o d.r.recs=[]):Je d= -1:=by unfold Je;rw[hf]
def Iv:xA aK 104:=⟨_,zqa,.inr (.inl ⟨_,rfl⟩)⟩
theorem cf_back (H:e.d.Ok)(h:bF w lo hb v d)(mr:gC v d)(hi:zJ d)(eL:lo<=w.heap.size)(hW:C4 e.W k (E0 d.r ((q:Int)+1)))(hq:q<d.qn.length)(z8:q<=100)(hK:∀(i g:Nat),d.qn[i]? =some g->K g (qa e.qs i)):
 CF e.d 104 #[.pointer (some ⟨hb,0,none⟩),.int .i64 ((q:Int)+1)] K (.wk e.qs k) w (λK' l' y w'=>zaM e.qs lo hb v d w k (E0 d.r ((q:Int)+1)).length (l9 d.r ((q:Int)+1)) l' y w'):=by
 refine CF.of 43 zqa (.inr (.inl ⟨_,rfl⟩)) ?_;have A0:=aD h;have T0:=aD (bT.refl (hb:=hb) (v:=v) (w:=w));obtain⟨ans,Nu⟩:=aN (dE d.r.recs ((q:Int)+1));have HA:=aD Nu;have HI:=aD hi;have MR:=aD mr;have K5:=aD eL;have hg:=zuj hi.R ((q:Int)+1);rw[<-Nu] at hg;have H7:e.W[k]? =some (.ask q 0 0 ans):=by have:=hW.head;rw[Ll,<-Nu] at this;exact this
 have HW:=aD hW;clear h mr hi hW Nu eL;refine CW.sq H (CW.p0 H Iv A0 T0 λw1 dY A1 T1=>?_);refine CW.sq H ?_;refine CW.sq H ?_;refine CW.rg H [0,1,2,3] ?_;refine CR.mv H (.pointer (some ⟨hb,0,none⟩)) ?_;refine CR.mv H (.int .i64 ((q:Int)+1)) ?_;refine CR.cl H (zdh H A1.o H7 hq z8 hK) (λK' l' y w' hl qM=>?_);obtain⟨rfl,rfl,sE⟩:=qM;simp only[cE,fS,dU,dW];have A2:=aD (show bF w' lo hb v d by rw[sE];exact A1.o.alloc _);have T2:=aD (show bT hb v w v w' by rw[sE];exact T1.o.trans (bT.below (eK (gD _ _) _)));have sH:∀(i g:Nat),d.qn[i]? =some g->K' g (qa e.qs i):=λi g hg=>hl _ _ (hK i g hg);clear sE A1 T1 H7 hK hl;by_cases hz:ans=0
 .
   subst hz;refine nP ?_;refine CR.mg H (.bool false) ?_;refine CR.nil H ?_;refine CW.cd H false ?_;refine CW.sk H ?_;dsimp only;have HF:=aD (show dE d.r.recs ((q:Int)+1)=0 from HA.o.symm);clear hg;refine CW.sq H ?_;obtain⟨AB,cB,Ml,zdL⟩:=H0 A2.o.B aH;have Aj:=aD Ml;clear zdL
   cases xS:d.r.back with
   |nil=>
    have N2:=aD xS;have e1:l9 d.r ((q:Int)+1)=(d.r,[110,111,110,101]):=by unfold l9;rw[if_neg X7,N2.o]
    have e2:E0 d.r ((q:Int)+1)=[.ask q 0 0 0]:=by unfold E0;rw[if_neg X7,N2.o,Ll,<-HA.o]
    have cM:=aD e1;have nX:=aD e2;clear e1 e2;refine CW.sq H (CW.pW H Iv A2 T2 λw3 Q jD A3 T3 HQ=>?_);have k8:w3.cell? ⟨hb,8,none⟩=some (.slice AB 0 cB):=by
     have:=aI A3.o.blk 8;rw[this,<-show v.sB=.slice AB 0 cB by rw[Aj.o,xS];rfl];rfl
    clear xS Ml;go_wp2;refine HQ.o _ _ ?_;clear HQ;refine CW.cd H true ?_;refine CW.sq H (CW.p0 H Iv A3 T3 λw4 l5 A4 T4=>?_);refine CW.rt H ?_;refine⟨.inr rfl,rfl,.string ⟨#[110,111,110,101]⟩,rfl,⟨by rw[nX.o];rfl,by rw[cM.o],v,?_,?_,?_,Ba.rf v⟩⟩
    .rw[cM.o];exact A4.o
    .rw[cM.o];exact MR.o
    .exact T4.o
   |cons c cs=>
    have N2:=aD xS;have Df:=HI.o.R.backB c zbO;have eO:gU d.r.recs c.c=none:=HI.o.S.bo c zbO;have Qw:dK (c::cs) c.c=cs:=zgf (st:=[]) (by have:=HI.o.S.bk;rw[xS] at this;exact this);obtain⟨gB,zld,Bd⟩:=zi5 A2.o.B zbO;rw[Ml] at Bd;injection Bd with qU oV Bh;subst qU;have hlen:d.r.back.length=cs.length+1:=by rw[xS];rfl
    have oI:=HI.o.sm.nb;have E8:=HI.o.sm.nr;have Vk:=aD (show v.sB=.slice (some ⟨gB,0,none⟩) (cs.length+1) cB by rw[Aj.o,hlen]);have vH:=aD eO;have zH8:=aD Qw;have zCD:cs.length<=5000:=aC;have Z9:=Df.1;have uZ:=Df.2;clear xS eO Qw Df Ml Aj hlen oI oV Bh;refine CW.sq H (CW.pW H Iv A2 T2 λw3 Q jD A3 T3 HQ=>?_);have k8:w3.cell? ⟨hb,8,none⟩=some (.slice (some ⟨gB,0,none⟩) (cs.length+1) cB):=by
     have:=aI A3.o.blk 8;rw[this,<-Vk.o];rfl
    go_wp2;refine HQ.o _ _ ?_;clear HQ;clear k8;refine CW.cd H false ?_;refine CW.sk H ?_;dsimp only;have zdn:=HI.o.nln;have zcg:d.ln.length<=100:=by have:=(Aa HI.o.R.off).2.1;omega
    have zcv:=aD (λW (a:bF W lo hb v d)=>zvk a MR.o zdn zcg);clear zdn zcg;refine CW.sq H (CW.pW H Iv A3 T3 λw4 Q l5 A4 T4 HQ=>?_)
    go_wp2_with (go_at_call 109;refine(zcv.o _ A4.o).mono ?_;rintro en wz ⟨rfl,tP⟩;obtain rfl:=tP)
    refine HQ.o _ _ ?_;clear HQ;clear zcv;refine CW.sq H ?_
    cases gE:oX d.r.o d.r.recs with
    |nil=>
     rw[zsC gE];have Pn:=aD gE;have e1:l9 d.r ((q:Int)+1)=(d.r,[98,117,115,121]):=by unfold l9;rw[if_neg X7,N2.o];simp only[gE]
     have e2:E0 d.r ((q:Int)+1)=[.ask q 0 0 0]:=by unfold E0;rw[if_neg X7,N2.o,Ll,<-HA.o];simp only[gE]
     have cM:=aD e1;have nX:=aD e2;clear e1 e2 gE;refine CW.sq H (CW.p0 H Iv A4 T4 λw5 kS A5 T5=>?_);refine CW.cd H true ?_;refine CW.sq H (CW.p0 H Iv A5 T5 λw6 pT A6 T6=>?_);refine CW.rt H ?_;refine⟨.inr rfl,rfl,.string ⟨#[98,117,115,121]⟩,rfl,⟨by rw[nX.o];rfl,by rw[cM.o],v,?_,?_,?_,Ba.rf v⟩⟩
     .rw[cM.o];exact A6.o
     .rw[cM.o];exact MR.o
     .exact T6.o
    |cons l ls=>
     obtain⟨i,gL,wI⟩:=HI.o.free gE;have uT:Je d=(i:Int):=by rw[zpX gE,wI.l];omega
     rw[uT];have e1:l9 d.r ((q:Int)+1)=({d.r with back:=cs,recs:=d.r.recs++[⟨c.c,(i:Int)+1,(q:Int)+1,d.r.clk,d.r.clk,-1,eP⟩]},[99,97,108,108,32]++gA c.c):=by
      unfold l9;rw[if_neg X7,N2.o];simp only[gE,zH8.o,wI.l]
     have e2:E0 d.r ((q:Int)+1)=[.ask q 0 0 0,.ask q 1 c.c c.c]:=by unfold E0;rw[if_neg X7,N2.o,Ll,<-HA.o];simp only[gE]
     have zaY:e.W[k+1]? =some (.ask q 1 c.c c.c):=by have:=HW.o;rw[e2] at this;exact this.tail.head
     have cM:=aD e1;have nX:=aD e2;have FA:=aD wI;have zDE:=wI.i6;clear e1 e2 gE wI uT;refine CW.sq H (CW.pW H Iv A4 T4 λw5 Q kS A5 T5 HQ=>?_);have i0:(0:Int)<=(i:Int):=aC;go_wp2;refine HQ.o _ _ ?_;clear HQ;refine CW.cd H false ?_;refine CW.sk H ?_;dsimp only;refine CW.sq H (CW.pW H Iv A5 T5 λw6 Q pT A6 T6 HQ=>?_);have k8:w6.cell? ⟨hb,8,none⟩=some (.slice (some ⟨gB,0,none⟩) (cs.length+1) cB):=by
      have:=aI A6.o.blk 8;rw[this,<-Vk.o];rfl
     have o7:w6.ownsRow lo 3 1 (.slice (some ⟨gB,0,none⟩) (cs.length+1) cB) (cs.length+1) (fN ((c::cs).map bH.c)):=by
      have:=A6.o.B;rw[Vk.o,N2.o] at this;exact this
     obtain⟨bB,oB,x',hA,_,_,kK,eR,e0⟩:=(Av o7 aH).cellAt (k:=0) aC;injection hA with hA;injection hA with Bj Bg;subst Bj Bg;have mJ:c.c=x':=by simpa using eR
     subst mJ
     try simp only[Ui] at e0
     clear o7 eR;go_wp2;refine HQ.o _ _ ?_;clear HQ;clear k8 e0 kK;refine CW.sq H (CW.pW H Iv A6 T6 λw7 Q rS A7 T7 HQ=>?_);have k8:w7.cell? ⟨hb,8,none⟩=some (.slice (some ⟨gB,0,none⟩) (cs.length+1) cB):=by
      have:=aI A7.o.blk 8;rw[this,<-Vk.o];rfl
     have o7:w7.ownsRow lo 3 1 (.slice (some ⟨gB,0,none⟩) (cs.length+1) cB) (cs.length+1) (fN ((c::cs).map bH.c)):=by
      have:=A7.o.B;rw[Vk.o,N2.o] at this;exact this
     have Si:=aD o7;clear o7
     go_wp2_with (go_at_call 114;refine(zr1 (i:=0) (j:=1) Si.o (zyI _) aC aC).mono ?_;rintro en w8 ⟨rfl,lF,lG⟩;have Qa:w8.ownsRow lo 3 1 (.slice (some ⟨gB,0,none⟩) cs.length cB) cs.length (fN (cs.map bH.c)):=lF;have C2:w7.grownBy w8 v.sB.ownBlock:=(by rw[Vk.o];exact lG);have hq:=(A7.o.other (j:=6) (c:=8) (x:=v.sB) rfl aH C2 (.slice (some ⟨gB,0,none⟩) cs.length cB)).2;have Px:=aI (hq.trans A7.o.blk) 8;have kf:=fC (hq.trans A7.o.blk) 8;have Ck:=aD (And.intro Qa C2);clear lF lG Qa C2 hq)
     refine HQ.o _ _ ?_;clear HQ;clear k8 Px kf;obtain⟨a6,t6⟩:=A7.o.putB Ck.o.2 Ck.o.1 rfl (.inl (by rw[Vk.o];rfl));have A8:=A7;have T8:=T7;obtain⟨w9,Jv⟩:=aN (w8.setCell ⟨hb,8,none⟩ (.slice (some ⟨gB,0,none⟩) cs.length cB));have A9:=aD (show bF w9 lo hb {v with sB:=.slice (some ⟨gB,0,none⟩) cs.length cB} {d with r:={d.r with back:=cs}} by rw[Jv];exact a6);have T9:=aD (show bT hb v w {v with sB:=.slice (some ⟨gB,0,none⟩) cs.length cB} w9 by rw[Jv];exact(T7.o.trans t6));rw[<-Jv];clear Jv A8 T8;clear a6 t6 Ck A7 T7;refine CW.sq H (CW.pW H Iv A9 T9 λwO Q Ef tM xN HQ=>?_);have zFm:lo<=wO.heap.size:=eE K5.o xN.o.size
     go_wp2_with (go_at_call 110;refine(zo5 tM.o zFm FA.o.g aC E8 c.c).mono ?_;rintro en wR ⟨rfl,v11,zuM,t11,ztO⟩;have B7:=aD zuM;have Gu:=aD (xN.o.trans t11);have Q9:=aD ztO;clear zuM t11 ztO)
     refine HQ.o _ _ ?_;clear HQ;clear tM xN;refine CW.sq H ?_;refine CW.rg H [0,1,2,3,4] ?_;refine CR.mv H (.pointer (some ⟨hb,0,none⟩)) ?_;refine CR.mv H (.int .i64 ((q:Int)+1)) ?_;refine CR.mv H (.int .i64 c.c) ?_;refine CR.cl H (zxZ H B7.o zaY hq z8 sH (i:=d.r.recs.length) (x:=⟨c.c,(i:Int)+1,0,d.r.clk,-1,-1,eP⟩) (by show(d.r.recs++[_])[d.r.recs.length]? =_;rw[Qm (bM _),ziC];rfl) (by rw[Q9.o.2.2.1,V5,if_pos rfl]) Z9 uZ) (λK2 l2 y2 Nj zx0 qM=>?_);obtain⟨rfl,rfl,a12,t12⟩:=qM;simp only[cE,fS,dU,dW];refine nP ?_;refine CR.mv H (.string ⟨([99,97,108,108,32]++gA c.c).toArray⟩) ?_;refine CR.nil H ?_;refine CW.rt H ?_;have e3:(d.r.recs++[(⟨c.c,(i:Int)+1,0,d.r.clk,-1,-1,eP⟩:bO)]).modify d.r.recs.length (λz=>{z with o:=(q:Int)+1,h:=d.r.clk})=d.r.recs++[⟨c.c,(i:Int)+1,(q:Int)+1,d.r.clk,d.r.clk,-1,eP⟩]:=zEZ;refine⟨.inr rfl,rfl,.string ⟨([99,97,108,108,32]++gA c.c).toArray⟩,rfl,⟨by rw[nX.o];rfl,by rw[cM.o],v11,?_,?_,Gu.o.trans t12,?_⟩⟩
     .rw[cM.o]
      have zkR:=a12;dsimp only at zkR;rw[e3] at zkR;exact zkR
     .rw[cM.o]
      refine gC.of (MR.o.more HI.o.ndl FA.o.g FA.o.un vH.o (o:=(q:Int)+1) (hh:=d.r.clk) (tt:=-1) (clk:=d.r.clk)) ?_ ?_ ?_ ?_ ?_
      .exact Q9.o.1
      .exact Q9.o.2.1
      .exact Q9.o.2.2.1
      .rfl
      .rfl
     .exact⟨Q9.o.2.2.2.1,Q9.o.2.2.2.2.1,Q9.o.2.2.2.2.2.2.2.1,Q9.o.2.2.2.2.2.2.2.2⟩
 .
   have aS:0<ans:=hg.2 hz;have oI:(ans !=0)=true:=by simpa using hz
   have Dt:0<dE d.r.recs ((q:Int)+1):=by rw[<-HA.o];exact aS
   have cM:=aD (show l9 d.r ((q:Int)+1)=(d.r,[116,97,108,107,115]) by unfold l9;rw[if_pos Dt]);have nX:=aD (show E0 d.r ((q:Int)+1)=[.ask q 0 0 ans] by unfold E0;rw[if_pos Dt,Ll,<-HA.o]);clear Dt;refine nP ?_;refine CR.mv H (.bool true) ?_ (hx:=λT=>by unfold aO;go_simp;try exact oI);refine CR.nil H ?_;refine CW.cd H true ?_;refine CW.sq H (CW.p0 H Iv A2 T2 λw3 jD A3 T3=>?_);refine CW.rt H ?_;refine⟨.inr rfl,rfl,.string ⟨#[116,97,108,107,115]⟩,rfl,⟨by rw[nX.o];rfl,by rw[cM.o],v,?_,?_,?_,Ba.rf v⟩⟩
   .rw[cM.o];exact A3.o
   .rw[cM.o];exact MR.o
   .exact T3.o
theorem zxj (xs:List bH)(q:Int):(xs.map bH.c).findIdx? (·==q)=uL xs q:=by
 unfold uL;rw[List.findIdx?_map];rfl
variable {q:Int}{xs:List bH}
theorem zCq {p:Nat}(hn:(xs.map bH.c).Nodup)(h:uL xs q=some p):dK xs q=xs.take p++xs.drop (p+1)/\p<xs.length:=by
 unfold uL at h;obtain⟨hl,hx,_⟩:=zij.1 h;have hq:xs[p].c=q:=by simpa using hx
 have e:xs=xs.take p++xs[p]::xs.drop (p+1):=by rw[<-List.drop_eq_getElem_cons hl,List.take_append_drop]
 refine⟨?_,hl⟩;have:=zgf (st:=xs.take p) (rest:=xs.drop (p+1)) (x:=xs[p]) (by rw[<-e];exact hn);rw[<-e,hq] at this;exact this
theorem zBW (h:∀x∈xs,x.c≠q):dK xs q=xs:=by
 unfold dK;rw[List.filter_eq_self];intro x hx;simpa using h x hx
theorem zAZ (xs:List bH)(p r:Nat):fN ((xs.take p++xs.drop r).map bH.c)=(fN (xs.map bH.c)).take p++(fN (xs.map bH.c)).drop r:=by
 unfold fN;rw[Ud,Ud,zud,zt5,zud,zt5]
theorem zG6 {gx:Nat}(uU:w.heap[gx]? =some (.cells #[.int .i64 q] 3)):
 Calls aK 117 #[.slice none 0 0,.func (.func 118) #[] #[.pointer (some ⟨gx,0,none⟩)]] w λe w'=>e=.returned (.slice none 0 0)/\Below w.heap.size w w':=by
 have HI:=aD (zx3 0 w.heap.size 0 0 none [] gx q w ⟨rfl,lU _,lU _,λh=>absurd h aC⟩ aC uU)
 go_enter Tryz.func117,Tryz.ntmps117
 go_wp2_with (go_at_call 124;refine HI.o.mono ?_;rintro e w1 ⟨rfl,Kd⟩;have jN:=aD Kd)
 go_ret;exact⟨rfl,jN.o⟩
def zA:xA aK 102:=⟨_,zut,.inr (.inl ⟨_,rfl⟩)⟩
theorem cf_hang (H:e.d.Ok)(h:bF w lo hb v d)(mr:gC v d)(hi:zJ d)(eL:lo<=w.heap.size)(hW:C4 e.W k (D4 d.r c))(hK:∀(i g:Nat),d.qn[i]? =some g->K g (qa e.qs i)):
 CF e.d 102 #[.pointer (some ⟨hb,0,none⟩),.int .i64 c] K (.wk e.qs k) w (λK' l' y w'=>zaM e.qs lo hb v d w k (D4 d.r c).length (mP d.r c) l' y w'):=by
 refine CF.of 59 zut (.inr (.inl ⟨_,rfl⟩)) ?_;have A0:=aD h;have T0:=aD (bT.refl (hb:=hb) (v:=v) (w:=w));have HI:=aD hi;have MR:=aD mr;have K5:=aD eL;have HW:=aD hW;have oI:=hi.sm.nb;have Kx:=hi.sm.nw;clear h mr hi hW eL;refine CW.sq H (CW.pW H zA A0 T0 λw1 Q dY A1 T1 HQ=>?_);go_wp2;refine HQ.o _ _ ?_;clear HQ;obtain⟨gx,uU⟩:=aN w1.heap.size;obtain⟨w2,eN⟩:=aN (w1.alloc (.cells #[.int .i64 c] 3));have A2:=aD (show bF w2 lo hb v d by rw[eN];exact A1.o.alloc _);have T2:=aD (show bT hb v w v w2 by rw[eN];exact T1.o.trans (bT.below (eK (gD _ _) _)));have zeG:=aD (show w2.heap[gx]? =some (.cells #[.int .i64 c] 3) by rw[eN,uU];exact gV _ _);have NP:=aD (show some gx∉parts v hb from λhp=>by have:=(A1.o.lt _ hp).2;omega);rw[<-uU,<-eN];clear eN uU A1 T1;refine CW.sq H ?_
 cases eO:gU d.r.recs c with
 |none=>
  have vH:=aD eO;have Ua:=aD (MR.o.offLine eO);clear eO;refine CW.sq H (CW.pW H zA A2 T2 λw3 Q jD A3 T3 HQ=>?_);have wE:=aD (jD▸zeG.o);have k5:w3.cell? ⟨hb,5,none⟩=some (.map (some v.mO)):=aI A3.o.blk 5;have kx:=aI wE.o 0;have lk:(Ar 67 (.map (some v.mO)) (.int .i64 c) false).run aK w3.drew=.ok (.chan none) w3.drew:=by
   have:=zbd Us Mh (zcj w3.drew) (A3.o.drew.O) (c:=c) false;rw[Ua.o] at this;exact this
  refine zwK w3 hb gx v.mO c none rfl rfl rfl k5 kx lk rfl ?_;rw[Go.Mt.Cq,zmP];simp only[Go.Mt.yF,dU,dW,fHG1,lHG1,Dy,Ey];refine HQ.o _ _ ?_;clear HQ;clear k5 kx lk;obtain⟨w4,l5⟩:=aN w3.drew;have A4:=aD (show bF w4 lo hb v d by rw[l5];exact A3.o.drew);have T4:=aD (show bT hb v w v w4 by rw[l5];exact T3.o.same rfl);have N5:=aD (show w4.heap[gx]? =some (.cells #[.int .i64 c] 3) by rw[l5];exact wE.o);rw[<-l5];clear l5 A3 T3 wE;refine CW.cd H true ?_;obtain⟨AB,cB,Ml,zdL⟩:=H0 A4.o.B aH;have Aj:=aD Ml;clear Ml zdL;refine CW.sq H (CW.pW H zA A4 T4 λw5 Q kS A5 T5 HQ=>?_);have Dx:=aD (kS▸N5.o);have k8:w5.cell? ⟨hb,8,none⟩=some (.slice AB d.r.back.length cB):=by
   have:=aI A5.o.blk 8;rw[this,<-Aj.o];rfl
  have kx:=aI Dx.o 0;have F7:=aD (show cJ w5 lo w5.heap.size 1 AB d.r.back.length cB (fN (d.r.back.map bH.c)) by have:=A5.o.B;rw[Aj.o] at this;exact Av this aH);have HE:=aD (λnq:Nat=>Calls.quiet_of_same (w:=w5) (n:=nq) ((zrN lo w5.heap.size d.r.back.length cB AB (d.r.back.map bH.c) c (w5.drewN nq) (have hs:=F7.o;⟨hs.len,hs.le,hs.cap,hs.at_⟩) aC).mono λe w' hh=>hh))
  go_wp2_with fail
  go_quiet ((go_at_call 113;exact HE.o _))
  go_wp2_with fail
  refine HQ.o _ _ ?_;clear HQ;obtain⟨w6,pT⟩:=aN (w5.drewN nq);have A6:=aD (show bF w6 lo hb v d by rw[pT];exact A5.o.same rfl);have T6:=aD (show bT hb v w v w6 by rw[pT];exact T5.o.same rfl);have Mj:=aD (show w6.heap[gx]? =some (.cells #[.int .i64 c] 3) by rw[pT];exact Dx.o);rw[<-pT];clear pT A5 T5 Dx k8 kx F7 HE;refine CW.sq H ?_;rw[zxj]
  cases J8:uL d.r.back c with
  |none=>
   have cM:=aD (show mP d.r c=(d.r,[103,111,110,101]) by unfold mP;rw[vH.o];simp only[J8];rfl);have nX:=aD (show D4 d.r c=[] by unfold D4;rw[vH.o]);clear J8;simp only[Ht];refine CW.sq H ?_;refine CW.pW H zA A6 T6 λw7 Q rS A7 T7 HQ=>?_;have H8:=aD (rS▸Mj.o);go_wp2;refine HQ.o _ _ ?_;clear HQ;refine CW.cd H true ?_;refine CW.sq H (CW.pW H zA A7 T7 λw8 Q Jf A8 T8 HQ=>?_);have Jp:=aD (Jf▸H8.o);go_wp2;refine HQ.o _ _ ?_;clear HQ;refine CW.rt H ?_;refine⟨.inr rfl,rfl,.string ⟨#[103,111,110,101]⟩,rfl,⟨by rw[nX.o];rfl,by rw[cM.o],v,?_,?_,?_,Ba.rf v⟩⟩
   .rw[cM.o];exact A8.o
   .rw[cM.o];exact MR.o
   .exact T8.o
  |some p=>
   obtain⟨Qw,oF⟩:=zCq HI.o.S.bk J8;have cM:=aD (show mP d.r c=({d.r with back:=d.r.back.take p++d.r.back.drop (p+1)},[111,102,102]) by unfold mP;rw[vH.o];simp only[J8];rw[<-Qw];rfl);have nX:=aD (show D4 d.r c=[] by unfold D4;rw[vH.o]);have zKX:p<=5000:=aC;obtain⟨gB,zld,Bd⟩:=zi5 A6.o.B aC;rw[Aj.o] at Bd;injection Bd with qU oV Bh;subst qU;have i0:(0:Int)<=(p:Int):=aC;clear J8 Qw oV Bh;simp only[Ht];refine CW.sq H ?_;refine CW.pW H zA A6 T6 λw7 Q rS A7 T7 HQ=>?_;have H8:=aD (rS▸Mj.o);go_wp2;refine HQ.o _ _ ?_;clear HQ;refine CW.cd H false ?_;refine CW.sk H ?_;dsimp only;refine CW.sq H (CW.pW H zA A7 T7 λw8 Q Jf A8 T8 HQ=>?_);have Jp:=aD (Jf▸H8.o);have k8:w8.cell? ⟨hb,8,none⟩=some (.slice (some ⟨gB,0,none⟩) d.r.back.length cB):=by
    have:=aI A8.o.blk 8;rw[this,<-Aj.o];rfl
   have Si:=aD (show w8.ownsRow lo 3 1 (.slice (some ⟨gB,0,none⟩) d.r.back.length cB) d.r.back.length (fN (d.r.back.map bH.c)) by have:=A8.o.B;rw[Aj.o] at this;exact this)
   go_wp2_with (go_at_call 114;refine(zr1 (i:=p) (j:=p+1) Si.o (zyI _) aC aC).mono ?_;intro en w9;rw[show p+1-p=1 by omega];rintro⟨rfl,lF,lG⟩;have Qa:w9.ownsRow lo 3 1 (.slice (some ⟨gB,0,none⟩) (d.r.back.length-1) cB) (d.r.back.length-1) (fN ((d.r.back.take p++d.r.back.drop (p+1)).map bH.c)):=(by rw[zAZ];exact lF);have C2:w8.grownBy w9 v.sB.ownBlock:=(by rw[Aj.o];exact lG);have hq:=(A8.o.other (j:=6) (c:=8) (x:=v.sB) rfl aH C2 (.slice (some ⟨gB,0,none⟩) (d.r.back.length-1) cB)).2;have Px:=aI (hq.trans A8.o.blk) 8;have kf:=fC (hq.trans A8.o.blk) 8;have Ck:=aD (And.intro Qa C2);clear lF lG Qa C2 hq)
   refine HQ.o _ _ ?_;clear HQ;clear k8 Px kf;obtain⟨a6,t6⟩:=A8.o.putB Ck.o.2 Ck.o.1 pD (.inl (by rw[Aj.o];rfl));have A9:=A8;have T9:=T8;obtain⟨wO,Ef⟩:=aN (w9.setCell ⟨hb,8,none⟩ (.slice (some ⟨gB,0,none⟩) (d.r.back.length-1) cB));have tM:=aD (show bF wO lo hb {v with sB:=.slice (some ⟨gB,0,none⟩) (d.r.back.length-1) cB} {d with r:={d.r with back:=d.r.back.take p++d.r.back.drop (p+1)}} by rw[Ef];exact a6);have xN:=aD (show bT hb v w {v with sB:=.slice (some ⟨gB,0,none⟩) (d.r.back.length-1) cB} wO by rw[Ef];exact(T8.o.trans t6));rw[<-Ef];clear Ef A9 T9;clear a6 t6 Ck A8 T8 Jp;refine CW.sq H (CW.p0 H zA tM xN λwR zHu B7 Gu=>?_);refine CW.rt H ?_;refine⟨.inr rfl,rfl,.string ⟨#[111,102,102]⟩,rfl,⟨by rw[nX.o];rfl,by rw[cM.o],{v with sB:=.slice (some ⟨gB,0,none⟩) (d.r.back.length-1) cB},?_,?_,?_,⟨rfl,rfl,rfl,rfl⟩⟩⟩
   .rw[cM.o];exact B7.o
   .rw[cM.o];refine gC.of MR.o ?_ ?_ ?_ ?_ ?_<;>rfl
   .exact Gu.o
 |some i=>
  obtain⟨x,hx,Jz,sU⟩:=zZ eO;obtain⟨gL,Na,hO,hM,hC⟩:=MR.o.onLine HI.o hx sU Jz;obtain⟨gR,cR,hR⟩:=zjg A2.o hx;have Ua:=aD hO;have HX:=aD hx;have HL:=aD (And.intro Na (And.intro hO (And.intro hM hC)));have HR:=aD hR;have vH:=aD eO;have zal:=aD (And.intro Jz sU);have hop:=HI.o.ops.op x (eI hx);have Rn:=HI.o.nqn;have Za:=HI.o.R.off;have Se:=aD (Aa Za);have q9:Da d.r.recs i=c:=by rw[Sx hx,Jz]
  have Ma:opAt d.r.recs i=x.o:=by unfold opAt;rw[hx]
  have Xk:=aD (And.intro q9 Ma);clear hx Jz sU Na hO hM hC hR eO Za q9 Ma;refine CW.sq H (CW.pW H zA A2 T2 λw3 Q jD A3 T3 HQ=>?_);have wE:=aD (jD▸zeG.o);have k5:w3.cell? ⟨hb,5,none⟩=some (.map (some v.mO)):=aI A3.o.blk 5;have kx:=aI wE.o 0;have lk:(Ar 67 (.map (some v.mO)) (.int .i64 c) false).run aK w3.drew=.ok (.chan (some gL)) w3.drew:=by
   have:=zbd Us Mh (zcj w3.drew) (A3.o.drew.O) (c:=c) false;rw[Ua.o] at this;exact this
  refine zwK w3 hb gx v.mO c (some gL) rfl rfl rfl k5 kx lk rfl ?_;rw[Go.Mt.Cq,zmP];simp only[Go.Mt.yF,dU,dW,fHG1,lHG1,Dy,Ey];refine HQ.o _ _ ?_;clear HQ;clear k5 kx lk;obtain⟨w4,l5⟩:=aN w3.drew;have A4:=aD (show bF w4 lo hb v d by rw[l5];exact A3.o.drew);have T4:=aD (show bT hb v w v w4 by rw[l5];exact T3.o.same rfl);have N5:=aD (show w4.heap[gx]? =some (.cells #[.int .i64 c] 3) by rw[l5];exact wE.o);rw[<-l5];clear l5 A3 T3 wE;refine CW.cd H false ?_;refine CW.sk H ?_;dsimp only;refine CW.sq H ?_;refine CW.sq H (CW.pW H zA A4 T4 λw5 Q kS A5 T5 HQ=>?_);have Dx:=aD (kS▸N5.o);have kx:=aI Dx.o 0;have zv6:=aD (λW (a:bF W lo hb v d)=>zgr a HR.o HX.o HL.o.2.2.1);obtain⟨c2,f2⟩:=A5.o.recAt HR.o HX.o (j:=2) (u:=.int .i64 x.o) aH rfl
  go_wp2_with (go_at_call 115;refine(zv6.o _ A5.o).mono ?_;rintro en wz ⟨rfl,tP⟩;obtain rfl:=tP)
  refine HQ.o _ _ ?_;clear HQ;clear kx zv6 c2 f2;obtain⟨w6,pT⟩:=aN w5.drew;have A6:=aD (show bF w6 lo hb v d by rw[pT];exact A5.o.drew);have T6:=aD (show bT hb v w v w6 by rw[pT];exact T5.o.same rfl);have Mj:=aD (show w6.heap[gx]? =some (.cells #[.int .i64 c] 3) by rw[pT];exact Dx.o);rw[<-pT];clear pT A5 T5 Dx;refine CW.sq H ?_;by_cases hz:x.o=0
  .
    have cM:=aD (show mP d.r c=(lP d.r i vS,[108,101,102,116]) by unfold mP;rw[vH.o];simp only;rw[Xk.o.2,hz,if_neg aH]);have nX:=aD (show D4 d.r c=[] by unfold D4;rw[vH.o];simp only;rw[Xk.o.2,hz,if_neg aH]);rw[hz];clear hz;refine CW.pW H zA A6 T6 λw7 Q rS A7 T7 HQ=>?_;have H8:=aD (rS▸Mj.o);go_wp2;refine HQ.o _ _ ?_;clear HQ;refine CW.cd H false ?_;refine CW.sk H ?_;dsimp only;refine CW.sq H (CW.pW H zA A7 T7 λw8 Q Jf A8 T8 HQ=>?_);have Jp:=aD (Jf▸H8.o);have kx:=aI Jp.o 0
    go_wp2_with (go_at_call 116;refine(zkC (e:=⟨#[108,101,102,116]⟩) A8.o HX.o HL.o.2.1 HL.o.2.2.2 HL.o.2.2.1 HR.o).mono ?_;rintro en w9 ⟨rfl,v9,a5,t5,p5⟩;have A9:=aD a5;have T9:=aD (T8.o.trans t5);have P9:=aD p5;have zoS:=aD t5;clear a5 t5 p5)
    refine HQ.o _ _ ?_;clear HQ;clear kx;have zvP:=aD (gC.of (v':=v9) (MR.o.clear HI.o.S HI.o.ndl (λz hz=>(HI.o.lb z hz).1) HX.o zal.o.2 HL.o.1 (f:=λz=>{z with t:=d.r.clk,e:=vS}) (λz=>⟨rfl,rfl⟩) zhb) P9.o.1 (by rw[P9.o.2.1,zal.o.1]) P9.o.2.2.1 rfl rfl);obtain⟨kg,np⟩:=A8.o.turned zoS.o Jp.o NP.o;have Xr:=aD kg;have zKO:=aD np;clear kg np zoS A8 T8 Jp;have zkB:=A9.o.W;have zvr:({d with r:={d.r with recs:=d.r.recs.modify i λz=>{z with t:=d.r.clk,e:=vS}}}:nZ).r.wait.length=d.r.wait.length:=rfl;rcases zkB.2 with⟨Wk,h0⟩|⟨gW,cW,cur,Kw,_⟩
    .
      have Mx:d.r.wait=[]:=List.eq_nil_of_length_eq_zero h0;have vG:=aD (show lP d.r i vS={d.r with recs:=d.r.recs.modify i λz=>{z with t:=d.r.clk,e:=vS}} by unfold lP;rw[Mx];show b6.mk _ _ _ [] _ _=_;rw[<-Mx];rfl);have zlW:=aD Wk;clear zkB zvr Wk h0 Mx;refine CW.sq H (CW.pW H zA A9 T9 λwO Q Ef tM xN HQ=>?_);have Xw:=aD (Ef▸Xr.o);have k7:wO.cell? ⟨hb,7,none⟩=some (.slice none 0 0):=by
       have:=aI tM.o.blk 7;rw[this,<-zlW.o];rfl
      go_wp2_with (go_at_call 117;refine(zG6 Xw.o).mono ?_;rintro en wR ⟨rfl,zkM⟩;have B7:=aD (tM.o.below zkM);have Gu:=aD (xN.o.trans (bT.below zkM));have Xt:=aI B7.o.blk 7;have kf:=fC B7.o.blk 7;clear zkM)
      refine HQ.o _ _ ?_;clear HQ;clear k7 Xt kf;have zjU:wR.setCell ⟨hb,7,none⟩ (.slice none 0 0)=wR.setCell ⟨hb,7,none⟩ v9.sW:=by rw[zlW.o]
      have a12:=B7.o.newW (s':=v9.sW) (xs:=d.r.wait) B7.o.W rfl (λb e=>by rw[zlW.o] at e;cases e);have t12:bT hb v9 wR v9 (wR.setCell ⟨hb,7,none⟩ v9.sW):=⟨by rw[xG];exact bM _,λb bY hn=>dX wR _ _ b (λe=>hn zyE),λb hx=>.inl hx⟩;obtain⟨Nj,Nw⟩:=aN (wR.setCell ⟨hb,7,none⟩ (.slice none 0 0));have zcd:=aD (show bF Nj lo hb v9 {d with r:={d.r with recs:=d.r.recs.modify i λz=>{z with t:=d.r.clk,e:=vS}}} by rw[Nw];exact(by rw[zjU];exact a12));have zcq:=aD (show bT hb v w v9 Nj by rw[Nw];exact(by rw[zjU];exact Gu.o.trans t12));rw[<-Nw];clear Nw B7 Gu;clear a12 t12 zjU tM xN Xw;refine CW.sq H (CW.p0 H zA zcd zcq λzbB zqM zcb zdc=>?_);refine CW.rt H ?_;refine⟨.inr rfl,rfl,.string ⟨#[108,101,102,116]⟩,rfl,⟨by rw[nX.o];rfl,by rw[cM.o],v9,?_,?_,?_,Dd.kept P9.o.2.2.2.2⟩⟩
      .rw[cM.o];rw[vG.o];exact zcb.o
      .rw[cM.o];rw[vG.o];exact zvP.o
      .exact zdc.o
    .
      have vG:=aD (show lP d.r i vS={d.r with recs:=d.r.recs.modify i (λz=>{z with t:=d.r.clk,e:=vS}),wait:=dK d.r.wait c} by unfold lP;rw[Xk.o.1];rfl);have Te:=aD (show v9.sW=.slice (some ⟨gW,0,none⟩) d.r.wait.length cW from Kw);clear zkB zvr Kw;refine CW.sq H (CW.pW H zA A9 T9 λwO Q Ef tM xN HQ=>?_);have Xw:=aD (Ef▸Xr.o);have k7:wO.cell? ⟨hb,7,none⟩=some (.slice (some ⟨gW,0,none⟩) d.r.wait.length cW):=by
       have:=aI tM.o.blk 7;rw[this,<-Te.o];rfl
      have Si:=aD (show wO.ownsRow lo 149 2 (.slice (some ⟨gW,0,none⟩) d.r.wait.length cW) d.r.wait.length (bK d.r.wait) by have:=tM.o.W;rw[Te.o] at this;exact this)
      go_wp2_with (go_at_call 117;refine(zI7 Si.o aC Xw.o).mono ?_;rintro en wR ⟨nW,rfl,zpn,lF,lG⟩;have C2:wO.grownBy wR v9.sW.ownBlock:=(by rw[Te.o];exact lG);have hq:=(tM.o.other (j:=5) (c:=7) (x:=v9.sW) rfl aH C2 (.slice (some ⟨gW,0,none⟩) nW cW)).2;have Xt:=aI (hq.trans tM.o.blk) 7;have kf:=fC (hq.trans tM.o.blk) 7;have Ck:=aD (And.intro lF (And.intro C2 zpn));clear lF lG C2 hq zpn)
      refine HQ.o _ _ ?_;clear HQ;clear k7 Xt kf;obtain⟨a6,t6⟩:=tM.o.putW Ck.o.2.1 Ck.o.1 Ck.o.2.2 (.inl (by rw[Te.o];rfl));have B7:=tM;have Gu:=xN;obtain⟨Nj,Nw⟩:=aN (wR.setCell ⟨hb,7,none⟩ (.slice (some ⟨gW,0,none⟩) nW cW));have zcd:=aD (show bF Nj lo hb {v9 with sW:=.slice (some ⟨gW,0,none⟩) nW cW} {d with r:={d.r with recs:=d.r.recs.modify i (λz=>{z with t:=d.r.clk,e:=vS}),wait:=dK d.r.wait c}} by rw[Nw];exact a6);have zcq:=aD (show bT hb v w {v9 with sW:=.slice (some ⟨gW,0,none⟩) nW cW} Nj by rw[Nw];exact(xN.o.trans t6));rw[<-Nw];clear Nw B7 Gu;clear a6 t6 Ck tM xN Xw;refine CW.sq H (CW.p0 H zA zcd zcq λzbB zqM zcb zdc=>?_);refine CW.rt H ?_;refine⟨.inr rfl,rfl,.string ⟨#[108,101,102,116]⟩,rfl,⟨by rw[nX.o];rfl,by rw[cM.o],{v9 with sW:=.slice (some ⟨gW,0,none⟩) nW cW},?_,?_,?_,⟨P9.o.2.2.2.2.1,P9.o.2.2.2.2.2.1,P9.o.2.2.2.2.2.2.2.2.1,P9.o.2.2.2.2.2.2.2.2.2⟩⟩⟩
      .rw[cM.o];rw[vG.o];exact zcb.o
      .rw[cM.o];rw[vG.o];refine gC.of zvP.o ?_ ?_ ?_ ?_ ?_<;>rfl
      .exact zdc.o
  .
    have Dt:0<x.o:=aC;obtain⟨q,zsV⟩:∃q:Nat,x.o=(q:Int)+1:=⟨(x.o-1).toNat,aC⟩;have hq:q<d.qn.length:=aC;have z8:q<=100:=by have:=Se.o.2.2.2.1;omega
    have zgw:dK d.r.wait c=d.r.wait:=zBW λy hy e=>by
     obtain⟨j,z,h1,h2,h3,h4⟩:=HI.o.S.wt y hy;have:=HI.o.S.opn i j x z HX.o h1 zal.o.2 h2 (.inl (by rw[zal.o.1,h3,e]));subst this;rw[HX.o] at h1;injection h1 with h1;rw[<-h1] at h4;exact hz h4
    have cM:=aD (show mP d.r c=(lP d.r i vT,[100,111,110,101]) by unfold mP;rw[vH.o];simp only;rw[Xk.o.2,if_pos Dt]);have nX:=aD (show D4 d.r c=[.ask q 1 0 0] by unfold D4;rw[vH.o];simp only;rw[Xk.o.2,if_pos Dt,zsV,Ll]);have vG:=aD (show lP d.r i vT={d.r with recs:=d.r.recs.modify i λz=>{z with t:=d.r.clk,e:=vT}} by unfold lP;rw[Xk.o.1,zgw];rfl);have zaY:e.W[k]? =some (.ask q 1 0 0):=by have:=HW.o;rw[nX.o] at this;exact this.head
    rw[zsV];have zew:((q:Int)+1 !=0)=true:=by have:(q:Int)+1≠0:=aC;simpa using this
    have zIp:¬(q:Int)+1=0:=aC;clear hz Dt zgw;refine CW.pW H zA A6 T6 λw7 Q rS A7 T7 HQ=>?_;have H8:=aD (rS▸Mj.o);go_wp2;refine HQ.o _ _ ?_;clear HQ
    try simp only[zIp,not_false_eq_true,decide_true,bne_iff_ne,ne_eq]
    refine CW.cond H (t:=true) rfl (by first|rfl|exact congrArg N4 zew) ?_;refine CW.sq H ?_;refine CW.rg H [0,1,2] ?_;refine CR.mv H (.pointer (some ⟨hb,0,none⟩)) ?_;refine CR.mv H (.int .i64 ((q:Int)+1)) ?_;refine CR.cl H (zdh H A7.o zaY hq z8 hK) (λK' l' y w' hl qM=>?_);obtain⟨rfl,rfl,sE⟩:=qM;simp only[cE,fS,dU,dW];have A8:=aD (show bF w' lo hb v d by rw[sE];exact A7.o.alloc _);have T8:=aD (show bT hb v w v w' by rw[sE];exact T7.o.trans (bT.below (eK (gD _ _) _)));have Jp:=aD (show w'.heap[gx]? =some (.cells #[.int .i64 c] 3) by rw[sE];exact dH H8.o _);clear sE A7 T7 H8;refine CR.nil H ?_;refine CW.sq H (CW.pW H zA A8 T8 λw9 Q Jv A9 T9 HQ=>?_);have Xr:=aD (Jv▸Jp.o);have kx:=aI Xr.o 0
    go_wp2_with (go_at_call 116;refine(zkC (e:=⟨#[100,111,110,101]⟩) A9.o HX.o HL.o.2.1 HL.o.2.2.2 HL.o.2.2.1 HR.o).mono ?_;rintro en wO ⟨rfl,v10,a5,t5,p5⟩;have tM:=aD a5;have xN:=aD (T9.o.trans t5);have zhN:=aD p5;have zyy:=aD t5;clear a5 t5 p5)
    refine HQ.o _ _ ?_;clear HQ;clear kx;have zIC:=aD (gC.of (v':=v10) (MR.o.clear HI.o.S HI.o.ndl (λz hz=>(HI.o.lb z hz).1) HX.o zal.o.2 HL.o.1 (f:=λz=>{z with t:=d.r.clk,e:=vT}) (λz=>⟨rfl,rfl⟩) Y0) zhN.o.1 (by rw[zhN.o.2.1,zal.o.1]) zhN.o.2.2.1 rfl rfl);obtain⟨kg,np⟩:=A9.o.turned zyy.o Xr.o NP.o;have Xw:=aD kg;have zMa:=aD np;clear kg np zyy A9 T9 Xr;refine CW.sq H (CW.p0 H zA tM xN λwR zHu B7 Gu=>?_);refine CW.rt H ?_;refine⟨.inr rfl,rfl,.string ⟨#[100,111,110,101]⟩,rfl,⟨by rw[nX.o];rfl,by rw[cM.o],v10,?_,?_,?_,Dd.kept zhN.o.2.2.2.2⟩⟩
    .rw[cM.o];rw[vG.o];exact B7.o
    .rw[cM.o];rw[vG.o];exact zIC.o
    .exact Gu.o
section
variable {p:cD}{o:aZ}{ρ:cN->aF}{w w':aE}
variable {t e:aM}{sz:Nat}{ie:wG}
theorem zoO {x y:cN}{A:Option bC}{n c i:Nat}(ho:o.op=.slice t x (some y) none none)(hu:p.underlying t=some (.slice e))(hi:p.info? e=some ie)(hz:ie.size=sz)(hx:ρ x=.slice A n c)(hy:ρ y=.int .i64 (i:Int))(oT:i<=n):
 (aO ρ o).run p w=.ok (.value (.slice (if c=i then A else A.map (·.add (i*sz))) (n-i) (c-i))) w:=by
 obtain⟨dst,zK,type,pos,after,guard⟩:=o;simp only at ho;subst ho;have h0:(0:Int)<=(i:Int):=aC;have h1:(i:Int)<=(n:Int):=aC;simp[aO,Yx,Wo,Y8,L0,hx,hy,xZ hu,sizeOf,typeInfo,hi,hz,asIntOf,h0,h1];exact λh=>absurd h aC
variable {j:Int}
theorem To {x y:cN}{g off n c i:Nat}(ho:o.op=.slice t x (some y) none none)(hu:p.underlying t=some (.slice e))(hi:p.info? e=some ie)(hz:ie.size=sz)(hx:ρ x=.slice (some ⟨g,0,none⟩) n c)(hy:ρ y=.int .i64 j)(hj:j=(i:Int))(oT:i<=n)(zI:i<c)(zEU:off=i*sz){n' c':Nat}(vZ:n'=n-i)(lN:c'=c-i):
 (aO ρ o).run p w=.ok (.value (.slice (some ⟨g,off,none⟩) n' c')) w:=by
 subst zEU vZ lN hj;rw[zoO ho hu hi hz hx hy oT,if_neg aC];simp[K7]
theorem zpa {x y:cN}{g n c i:Nat}(ho:o.op=.slice t x none (some y) none)(hu:p.underlying t=some (.slice e))(hi:p.info? e=some ie)(hz:ie.size=sz)(hx:ρ x=.slice (some ⟨g,0,none⟩) n c)(hy:ρ y=.int .i64 j)(hj:j=(i:Int))(zI:i<=c):
 (aO ρ o).run p w=.ok (.value (.slice (some ⟨g,0,none⟩) i c)) w:=by
 subst hj;obtain⟨dst,zK,type,pos,after,guard⟩:=o;simp only at ho;subst ho;have h0:(0:Int)<=(i:Int):=aC;have h1:(i:Int)<=(c:Int):=aC;simp[aO,Yx,Wo,Y8,L0,hx,hy,xZ hu,sizeOf,typeInfo,hi,hz,asIntOf,h0,h1,K7];exact λh=>absurd h aC
theorem X8 {s x:cN}{tn:aM}{a b v:aF}{w':aE}(ho:o.op=.call ⟨.builtin .append,#[s,x],#[t,tn]⟩)(hs:ρ s=a)(hx:ρ x=b)(hr:(Builtin.append_ #[t,tn] o.type #[a,b]).run p w=.ok v w'):(aO ρ o).run p w=.ok (.value v) w':=by
 unfold aO;simp only[ho,resolve,invoke,builtin,Sem.run_bind,Sem.run_pure,Result.andThen_ok,uP,jO,uN,hs,hx,hr]
end
theorem V6:∃ie,aK.info? 149=some ie/\ie.zero=some (.agg #[.int .i64 0,.int .i64 0])/\ie.size=2/\ie.bytes=16:=by
 obtain⟨i0,hi,fM,dF,hY⟩:=info_parts zbF;exact⟨i0,hi,fM,dF,hY⟩
def yR:aK.underlying 69=some (.slice 149):=aU
def Th:Go.Code:=(Tryz.f111.body).getD .skip
def rIN7:Go.Code:=match Th with| .seq _ (.seq _ (.seq _ (.seq _ (.seq _ (.seq (.seq _ (.cond _ (.seq (a) _) _)) _)))))=>a|_=>.skip
def rIN9:Go.Code:=match Th with| .seq _ (.seq _ (.seq _ (.seq _ (.seq _ (.seq _ (.seq (.seq _ (.cond _ (.seq (a) _) _)) _))))))=>a|_=>.skip
def rIN10:Go.Code:=match Th with| .seq _ (.seq _ (.seq _ (.seq _ (.seq _ (.seq _ (.seq (.seq _ (.cond _ (.seq _ (.seq (a) _)) _)) _))))))=>a|_=>.skip
def rIN11:Go.Code:=match Th with| .seq _ (.seq _ (.seq _ (.seq _ (.seq _ (.seq _ (.seq (.seq _ (.cond _ (.seq _ (.seq _ (.seq (a) _))) _)) _))))))=>a|_=>.skip
def rIN14:Go.Code:=match Th with| .seq _ (.seq _ (.seq _ (.seq _ (.seq _ (.seq _ (.seq _ (.seq _ (.seq (.seq (a) _) _))))))))=>a|_=>.skip
def rIN15:Go.Code:=match Th with| .seq _ (.seq _ (.seq _ (.seq _ (.seq _ (.seq _ (.seq _ (.seq _ (.seq (.seq _ (.cond _ (.seq (a) _) _)) _))))))))=>a|_=>.skip
def rIN16:Go.Code:=match Th with| .seq _ (.seq _ (.seq _ (.seq _ (.seq _ (.seq _ (.seq _ (.seq _ (.seq (.seq _ (.cond _ (.seq _ (.seq (a) _)) _)) _))))))))=>a|_=>.skip
def zt0:Array Oper:=match rIN7 with| .region _ ops _=>ops|_=>#[]
abbrev oIN7_2:Oper:=aV zt0 2 (some 25) (.call ⟨.builtin .append,#[.tmp 23,.tmp 24],#[69,69]⟩)
def zGE:zt0[2]? =some oIN7_2:=rfl
def zwV:Array Oper:=match rIN9 with| .region _ ops _=>ops|_=>#[]
abbrev oIN9_8:Oper:=aV zwV 8 (some 40) (.call ⟨.builtin .append,#[.tmp 34,.tmp 39],#[69,3]⟩)
def zDZ:zwV[8]? =some oIN9_8:=rfl
def zri:Array Oper:=match rIN10 with| .region _ ops _=>ops|_=>#[]
abbrev oIN10_4:Oper:=aV zri 4 (some 45) (.call ⟨.builtin .copy,#[.tmp 43,.tmp 44],#[69,69]⟩)
def zAh:zri[4]? =some oIN10_4:=rfl
def zpL:Array Oper:=match rIN14 with| .region _ ops _=>ops|_=>#[]
abbrev oIN14_6:Oper:=aV zpL 6 (some 67) (.call ⟨.value (.func 121),#[.tmp 61,.tmp 66],#[69,69]⟩)
def zAF:zpL[6]? =some oIN14_6:=rfl
def zyA:Array Oper:=match rIN16 with| .region _ ops _=>ops|_=>#[]
abbrev oIN16_4:Oper:=aV zyA 4 (some 82) (.call ⟨.builtin .copy,#[.tmp 80,.tmp 81],#[69,69]⟩)
def zB9:zyA[4]? =some oIN16_4:=rfl
def Gz:Array Oper:=match rIN11 with| .region _ ops _=>ops|_=>#[]
def zwN:Gz.toList=[aV Gz 0 (some 46) (.move (.tmp 9)),aV Gz 1 (some 47) (.move (.tmp 1)),aV Gz 2 (some 48) (.move (.tmp 7)),aV Gz 3 (some 49) (.binOp .add 3 (.tmp 47) (.tmp 48) 3),aV Gz 4 (some 50) (.slice 69 (.tmp 46) (some (.tmp 49)) none none),aV Gz 5 (some 51) (.move (.tmp 0)),aV Gz 6 (some 52) (.move (.tmp 1)),aV Gz 7 (some 53) (.slice 69 (.tmp 51) (some (.tmp 52)) none none),aV Gz 8 (some 54) (.call ⟨.builtin .copy,#[.tmp 50,.tmp 53],#[69,69]⟩)]:=rfl
def Fi:Array Oper:=match rIN15 with| .region _ ops _=>ops|_=>#[]
def zqE:Fi.toList=[aV Fi 0 (some 69) (.move (.tmp 0)),aV Fi 1 (some 70) (.move (.tmp 1)),aV Fi 2 (some 71) (.move (.tmp 7)),aV Fi 3 (some 72) (.binOp .add 3 (.tmp 70) (.tmp 71) 3),aV Fi 4 (some 73) (.slice 69 (.tmp 69) (some (.tmp 72)) none none),aV Fi 5 (some 74) (.move (.tmp 0)),aV Fi 6 (some 75) (.move (.tmp 1)),aV Fi 7 (some 76) (.slice 69 (.tmp 74) (some (.tmp 75)) none none),aV Fi 8 (some 77) (.call ⟨.builtin .copy,#[.tmp 73,.tmp 76],#[69,69]⟩)]:=rfl
def zdm:xA aK 111:=⟨_,zt1,.inr (.inl ⟨_,rfl⟩)⟩
def WIN11 (w w3:aE)(g1 n1 c1 g n c ix:Nat)(vc:aF):Nat->aE
 |0=>w.drew
 |_=>w3
theorem zpM:Gz.toList.map (·.dst)=[some 46,some 47,some 48,some 49,some 50,some 51,some 52,some 53,some 54]:=by rw[zwN];rfl
def lIN11 (w w3:aE)(g1 n1 c1 g n c ix:Nat)(vc:aF):List Value:=[.slice (some ⟨g1,0,none⟩) n1 c1,.int .i64 ((ix:Nat)),.int .i64 (1),.int .i64 (((ix+1:Nat):Int)),.slice (some ⟨g1,(ix+1)*2,none⟩) (n1-(ix+1)) (c1-(ix+1)),.slice (some ⟨g,0,none⟩) n c,.int .i64 ((ix:Nat)),.slice (some ⟨g,ix*2,none⟩) (n-ix) (c-ix),vc]
def zll (w w3:aE)(g1 n1 c1 g n c ix:Nat)(vc:aF)(i:Nat):Value:=(lIN11 w w3 g1 n1 c1 g n c ix vc).getD i aA
variable {d:List Deferred}{Q:oP->vX->aE->Prop}{t0:Array aF}
theorem wp_IN11 (w w3:aE)(g1 n1 c1 g n c ix:Nat)(vc:aF)(hz:t0.size=95)(vL:t0.getD 0 aA=.slice (some ⟨g,0,none⟩) n c)(Gc:t0.getD 1 aA=.int .i64 ((ix:Nat)))(Gt:t0.getD 7 aA=.int .i64 (1))(zkT:t0.getD 9 aA=.slice (some ⟨g1,0,none⟩) n1 c1)(hb:ix+1<=n1/\ix+1<c1/\ix<=n/\ix<c/\ix<=100000)(nJ:(Eg #[69,69] 3 #[.slice (some ⟨g1,(ix+1)*2,none⟩) (n1-(ix+1)) (c1-(ix+1)),.slice (some ⟨g,ix*2,none⟩) (n-ix) (c-ix)]).run aK w.drew=.ok vc w3)(h0:WIN11 w w3 g1 n1 c1 g n c ix vc 0=w.drew)(hk:Q .normal ⟨dM Gz (zll w w3 g1 n1 c1 g n c ix vc) t0,d⟩ (w3)):
 (F8 11 Gz true).wp aK Q ⟨t0,d⟩ w:=by
 refine Ix (ws:=[8]) (Wd:=WIN11 w w3 g1 n1 c1 g n c ix vc) (vals:=zll w w3 g1 n1 c1 g n c ix vc) vR.mixed aU aH aU h0 Ke (λV hU hV=>?_) hk;obtain⟨Ys,zdN,zkw,Xn,zfu,Xs,Zb,zih,zwG,-⟩:=Iy zpM hU;have e0:=(hV 0 aU).trans vL;have e1:=(hV 1 aU).trans Gc;have e7:=(hV 7 aU).trans Gt;have e9:=(hV 9 aU).trans zkT;refine λTf hT=>Ka zwN ⟨bX.pv,bX.pv,bX.pv,bX.any (λkk gG hm=>?_),bX.any (λkk gG hm=>?_),bX.pv,bX.pv,bX.any (λkk gG hm=>?_),bX.act (v:=V 54) 0 rfl (eJ rfl) ?_,trivial⟩
 .have i0:=hb.2.2.2.2
  unfold aO;go_simp;first|(push_cast;exact Gd aC aC)|(push_cast;rw[Gd aC aC])|trace_state
 .obtain⟨ie,jZ,_,cP,_⟩:=V6
  exact To rfl yR jZ cP (oE hT Ys) (oE hT Xn) rfl hb.1 hb.2.1 rfl rfl rfl
 .obtain⟨ie,jZ,_,cP,_⟩:=V6
  exact To rfl yR jZ cP (oE hT Xs) (oE hT Zb) rfl hb.2.2.1 hb.2.2.2.1 rfl rfl rfl
 .rw[zwG];exact zfd rfl (oE hT zfu) (oE hT zih) nJ
def WIN15 (w w3:aE)(g n c ix:Nat)(vc:aF):Nat->aE
 |0=>w.drew
 |_=>w3
theorem zr3:Fi.toList.map (·.dst)=[some 69,some 70,some 71,some 72,some 73,some 74,some 75,some 76,some 77]:=by rw[zqE];rfl
def lIN15 (w w3:aE)(g n c ix:Nat)(vc:aF):List Value:=[.slice (some ⟨g,0,none⟩) n c,.int .i64 ((ix:Nat)),.int .i64 (1),.int .i64 (((ix+1:Nat):Int)),.slice (some ⟨g,(ix+1)*2,none⟩) (n-(ix+1)) (c-(ix+1)),.slice (some ⟨g,0,none⟩) n c,.int .i64 ((ix:Nat)),.slice (some ⟨g,ix*2,none⟩) (n-ix) (c-ix),vc]
def zmI (w w3:aE)(g n c ix:Nat)(vc:aF)(i:Nat):Value:=(lIN15 w w3 g n c ix vc).getD i aA
theorem wp_IN15 (w w3:aE)(g n c ix:Nat)(vc:aF)(hz:t0.size=95)(vL:t0.getD 0 aA=.slice (some ⟨g,0,none⟩) n c)(Gc:t0.getD 1 aA=.int .i64 ((ix:Nat)))(Gt:t0.getD 7 aA=.int .i64 (1))(hb:ix+1<=n/\ix+1<c/\ix<=n/\ix<c/\ix<=100000)(nJ:(Eg #[69,69] 3 #[.slice (some ⟨g,(ix+1)*2,none⟩) (n-(ix+1)) (c-(ix+1)),.slice (some ⟨g,ix*2,none⟩) (n-ix) (c-ix)]).run aK w.drew=.ok vc w3)(h0:WIN15 w w3 g n c ix vc 0=w.drew)(hk:Q .normal ⟨dM Fi (zmI w w3 g n c ix vc) t0,d⟩ (w3)):
 (F8 15 Fi true).wp aK Q ⟨t0,d⟩ w:=by
 refine Ix (ws:=[8]) (Wd:=WIN15 w w3 g n c ix vc) (vals:=zmI w w3 g n c ix vc) vR.mixed aU aH aU h0 Ke (λV hU hV=>?_) hk;obtain⟨zI5,zL3,zKe,zFS,zFz,zJb,zz1,zAq,zzb,-⟩:=Iy zr3 hU;have e0:=(hV 0 aU).trans vL;have e1:=(hV 1 aU).trans Gc;have e7:=(hV 7 aU).trans Gt;refine λTf hT=>Ka zqE ⟨bX.pv,bX.pv,bX.pv,bX.any (λkk gG hm=>?_),bX.any (λkk gG hm=>?_),bX.pv,bX.pv,bX.any (λkk gG hm=>?_),bX.act (v:=V 77) 0 rfl (eJ rfl) ?_,trivial⟩
 .have i0:=hb.2.2.2.2
  unfold aO;go_simp;first|(push_cast;exact Gd aC aC)|(push_cast;rw[Gd aC aC])|trace_state
 .obtain⟨ie,jZ,_,cP,_⟩:=V6
  exact To rfl yR jZ cP (oE hT zI5) (oE hT zFS) rfl hb.1 hb.2.1 rfl rfl rfl
 .obtain⟨ie,jZ,_,cP,_⟩:=V6
  exact To rfl yR jZ cP (oE hT zJb) (oE hT zz1) rfl hb.2.2.1 hb.2.2.2.1 rfl rfl rfl
 .rw[zzb];exact zfd rfl (oE hT zFz) (oE hT zAq) nJ
variable {c1 c2:List aF}
theorem ins_up {c0 a b xx:List aF}(ha:c0.take a.length=a)(hl:a.length+xx.length+b.length<=c0.length)(h1:c1=c0.take a.length++xx++c0.drop (a.length+xx.length))(h2:c2=c1.take (a.length+xx.length)++b++c1.drop (a.length+xx.length+b.length)):
 c2.take (a.length+xx.length+b.length)=a++xx++b/\c2.length=c0.length:=by
 have e1:c1.take (a.length+xx.length)=a++xx:=by
  rw[h1,ha,Fy (by rw[j5];exact bM _),El (by rw[j5];exact bM _)]
 have l1:c1.length=c0.length:=by rw[h1,ha];simp only[j5,zC];omega
 rw[h2,e1];refine⟨?_,?_⟩
 .rw[Fy zey,El zey]
 .simp only[j5,zC];omega
theorem zBd {c0 a b xx:List aF}(ha:c0.take a.length=a)(hl:a.length+xx.length+b.length<=c0.length)(h1:c1=c0.take (a.length+xx.length)++b++c0.drop (a.length+xx.length+b.length))(h2:c2=c1.take a.length++xx++c1.drop (a.length+xx.length)):
 c2.take (a.length+xx.length+b.length)=a++xx++b/\c2.length=c0.length:=by
 have lt:(c0.take (a.length+xx.length)).length=a.length+xx.length:=by rw[rU];omega
 have e1:c1.take a.length=a:=by
  rw[h1,Jx,Fy aC,Ps,zqp aC,ha]
 have e2:c1.drop (a.length+xx.length)=b++c0.drop (a.length+xx.length+b.length):=by
  rw[h1,Jx,List.drop_append_of_le_length aC,zp0 aC,List.nil_append]
 rw[h2,e1,e2];refine⟨?_,?_⟩
 .rw[<-Jx,Fy zey,El zey]
 .simp only[j5,zC];omega
theorem ziX (xs:List bH)(x:bH)(i:Nat):bK (xs.take i++x::xs.drop i)=(bK xs).take (i*2)++x.cells++(bK xs).drop (i*2):=by
 have h1:(bK xs).take (i*2)=bK (xs.take i):=by
  induction xs generalizing i with
  |nil=>simp[bK]
  |cons y ys ih=>
   cases i with
   |zero=>simp[bK]
   |succ i=>
    have:bK (y::ys)=y.cells++bK ys:=by simp[bK]
    rw[this,List.take_succ_cons,show(i+1)*2=y.cells.length+i*2 by simp[bH.cells];omega,List.take_length_add_append,ih i];simp[bK]
 have h2:(bK xs).drop (i*2)=bK (xs.drop i):=by
  clear h1
  induction xs generalizing i with
  |nil=>simp[bK]
  |cons y ys ih=>
   cases i with
   |zero=>simp[bK]
   |succ i=>
    have:bK (y::ys)=y.cells++bK ys:=by simp[bK]
    rw[this,List.drop_succ_cons,show(i+1)*2=y.cells.length+i*2 by simp[bH.cells];omega,List.drop_length_add_append,ih i]
 rw[h1,h2];simp[bK]
structure Grew (w w':aE)(r:Option Nat):Prop where
 size:w.heap.size<=w'.heap.size
 block:∀b,b<w.heap.size->¬some b=r->w'.heap[b]? =w.heap[b]?
theorem ov_fn:OvFn aK 121 69 4 149 2:=by
 obtain⟨ie,jZ,_,cP,_⟩:=V6;exact⟨⟨_,Tryz.func121,aH,rfl,aU,aU⟩,yR,⟨ie,jZ,cP⟩⟩
variable {A:Option bC}{l:gN}
theorem zCM (H:e.d.Ok){gv c:Nat}{x:bH}(h:w.ownsRow lo 149 2 (.slice A n c) n (bK xs))(eL:lo<=w.heap.size)(hn:n<=1000)(hi:i<=n)(hv:w.heap[gv]? =some (.cells #[.int .i64 x.c,.int .i64 x.p] 149))(aS:(Rl A n c).ownBlock≠some gv):
 CF e.d 111 #[.slice A n c,.int .i64 (i:Int),.slice (some ⟨gv,0,none⟩) 1 1] K l w (λK' l' y w'=>l'=l/\∃g2 c2,y=.slice (some ⟨g2,0,none⟩) (n+1) c2/\w'.ownsRow lo 149 2 (.slice (some ⟨g2,0,none⟩) (n+1) c2) (n+1) (bK (xs.take i++x::xs.drop i))/\Grew w w' (Rl A n c).ownBlock/\(some g2=(Rl A n c).ownBlock\/w.heap.size<=g2)):=by
 refine CF.of 95 zt1 (.inr (.inl ⟨_,rfl⟩)) ?_;obtain⟨ie,jZ,fM,cP,uW⟩:=V6;have zmQ:xs.length=n:=by have h1:=h.1;have h2:(bK xs).length=xs.length*2:=J4 bH.cells (s:=2) (λ_=>rfl) xs;omega
 have h1:(1:Nat)<=1:=bM 1;refine CW.sq H ?_;refine CW.pQ H zdm (λzhi Q HQ=>?_);go_wp2;refine HQ.o _ _ ?_;clear HQ;refine CW.tape (s:=⟨[],K,l,_,w⟩) ?_ zhi 0;refine CW.sq H ?_;refine CW.rg H [0,1,2] ?_;refine CR.mv H (.slice A n c) ?_;refine CR.mv H (.int .i64 (i:Int)) ?_;refine CR.mv H (.slice (if c=i then A else A.map (·.add (i*2))) (n-i) (c-i)) ?_ (hx:=λT=>by exact zoO rfl yR jZ cP rfl rfl hi);refine CR.nil H ?_;refine CW.sq H ?_;refine CW.rg H [0,1,2] ?_;refine CR.mv H (.slice (some ⟨gv,0,none⟩) 1 1) ?_;refine CR.mv H (.int .i64 1) ?_ (hx:=λT=>by exact ztB rfl yR rfl);refine CR.mv H (.int .i64 1) ?_;refine CR.nil H ?_;refine CW.sq H ?_;refine CW.sq H ?_;refine CW.rg H [0,1] ?_;refine CR.mv H (.int .i64 1) ?_;refine CR.mg H (.bool false) ?_;refine CR.nil H ?_;refine CW.cd H false ?_;refine CW.sk H ?_;dsimp only;refine CW.sq H ?_;refine CW.rg H [0,1,2] ?_;refine CR.mv H (.slice A n c) ?_;refine CR.mv H (.int .i64 (n:Int)) ?_ (hx:=λT=>by exact ztB rfl yR rfl);refine CR.mv H (.int .i64 (n:Int)) ?_;refine CR.nil H ?_;refine CW.sq H ?_;refine CW.sq H ?_;refine CW.rg H [0,1,2] ?_;refine CR.mv H (.int .i64 (i:Int)) ?_;refine CR.mv H (.int .i64 (n:Int)) ?_;by_cases oT:i=n
 .
   subst oT;clear hi;refine nP ?_;refine CR.mg H (.bool true) ?_;refine CR.nil H ?_;refine CW.cd H true ?_;refine CW.sq H ?_;refine CW.rg H [0,1,2,3] ?_;refine CR.mv H (.slice A i c) ?_;refine CR.mv H (.slice (some ⟨gv,0,none⟩) 1 1) ?_;refine CR.op H zGE rfl aU (λT=>?_);obtain⟨q1,q2,w5,fQ,cY,mV,eO⟩:=Ns (w:=Tt.tp w T 0) (t:=69) (ty:=69) zbF yR rfl aH (cK h λb e=>rfl) (g:=gv) (cs:=#[.int .i64 x.c,.int .i64 x.p]) (news:=bH.cells x) hv rfl (m:=1) rfl aH Rp aC aH eL;refine⟨.slice (some ⟨q1,0,none⟩) (i+1) q2,w5,.inl (X8 rfl rfl rfl fQ),?_⟩;simp only[cE,fS,dU,dW];refine nP ?_;refine CR.mv H (.slice (some ⟨q1,0,none⟩) (i+1) q2) ?_;refine CR.nil H ?_;refine CW.rt H ?_;refine⟨.inr rfl,rfl,.slice (some ⟨q1,0,none⟩) (i+1) q2,rfl,rfl,q1,q2,rfl,?_,⟨mV.size,mV.block⟩,?_⟩
   .rw[ziX,El zs1,zp0 zs1,List.append_nil]
    exact cY
   .exact eO.imp id λhh=>hh q1 rfl
 .
   have aT:i<n:=aC;have zjx:(i:Int)<(n:Int):=aC;have zLg:¬(i:Int)=(n:Int):=aC;refine nP ?_;refine CR.mg H (.bool false) ?_;refine CR.nil H ?_;refine CW.cd H false ?_;refine CW.sk H ?_;dsimp only;obtain⟨hlen,Wk|⟨g,cap,cur,Bw,zdo,hg,Y7,qP,gS,lZ⟩⟩:=id h
   .exfalso;have:=Wk.2;omega
   injection Bw with e1 e2 e3;subst e1 e3;clear e2;have Cs:gv≠g:=λe=>aS (by rw[e];rfl);have kR:cur.toList.length=c*2:=by simpa using gS
   have la:((bK xs).take (i*2)).length=i*2:=by rw[rU,hlen];omega
   have lb:((bK xs).drop (i*2)).length=(n-i)*2:=by rw[zC,hlen];omega
   have Ur:∀j u,(bK xs)[j]? =some u->cur[j]? =some u:=λj u hj=>by
    rw[<-lZ,Wu] at hj;split at hj
    .rw[<-C3];exact hj
    .cases hj
   have zAV:cur.toList.take (i*2)=(bK xs).take (i*2):=by rw[<-lZ,Ps];congr 1;omega
   have one:=Yy xs;refine CW.sq H ?_;refine CW.sq H ?_;refine CW.rg H [0,1,2,3,4,5] ?_;refine CR.mv H (.int .i64 (n:Int)) ?_;refine CR.mv H (.int .i64 1) ?_;refine CR.mv H (.int .i64 ((n+1:Nat):Int)) ?_ (hx:=λT=>by unfold aO;go_simp;first|(push_cast;exact Gd aC aC)|(push_cast;rw[Gd aC aC])|trace_state);refine CR.mv H (.slice (some ⟨g,0,none⟩) n c) ?_;refine CR.mg H (.int .i64 (c:Int)) ?_;by_cases zLj:n+1>c
   .
     have zF5:(c:Int)<((n+1:Nat):Int):=aC;refine nP ?_;refine CR.mv H (.bool true) ?_ (hx:=λT=>by unfold aO;go_simp;try omega);refine CR.nil H ?_;refine CW.cd H true ?_;refine CW.sq H ?_;refine CW.rg H [0,1,2,3,4,5,6,7,8,9] ?_;refine CR.mv H (.slice (some ⟨g,0,none⟩) n c) ?_;refine CR.mv H (.int .i64 (i:Int)) ?_;refine CR.mv H (.slice (some ⟨g,0,none⟩) i c) ?_ (hx:=λT=>by exact zpa rfl yR jZ cP rfl rfl rfl aC);refine CR.mv H (.int .i64 (n:Int)) ?_;refine CR.mv H (.int .i64 1) ?_;refine CR.mv H (.int .i64 ((n+1:Nat):Int)) ?_ (hx:=λT=>by unfold aO;go_simp;first|(push_cast;exact Gd aC aC)|trace_state);refine CR.mv H (.int .i64 (i:Int)) ?_;refine CR.mv H (.int .i64 ((n+1-i:Nat):Int)) ?_ (hx:=λT=>by unfold aO;go_simp;first|(rw[Gd aC aC];omega)|trace_state);refine CR.op H zDZ rfl aU (λT=>?_);have hold:(Un ie.size i (.slice (some ⟨g,0,none⟩) i c)).run aK (Tt.tp w T 0).drew=.ok ((bK xs).take (i*2)).toArray (Tt.tp w T 0).drew:=by
      have hl:=run_loadCells_list (P:=aK) (Tt.tp w T 0).drew ⟨g,0,none⟩ ((bK xs).take (i*2)) (λj u hj=>by
       rw[K7,qV];have Py:(bK xs)[j]? =some u:=by
        rw[Wu] at hj;split at hj
        .exact hj
        .cases hj
       exact(aI (w:=w) hg j).trans (Ur j u Py))
      rw[la] at hl;simp[Un,cP,hl]
     have fQ:=Lib.run_append_grow_zeros (P:=aK) (Tt.tp w T 0) 69 3 69 149 ie _ .i64 .i64 yR Mh jZ fM (some ⟨g,0,none⟩) i c ((bK xs).take (i*2)) hold (n+1-i) aC aC aC aC (by rw[uW];omega) (by rw[uW];exact growslice_fits aC aC);obtain⟨c2,oR⟩:=aN (grownCap (Tt.tp w T 0) (i+(n+1-i)) c 149);have Cc:n+1<=c2:=by have:=grownCap_ge (Tt.tp w T 0) (i+(n+1-i)) c 149;omega
     have hle:c2<=maxLen:=by rw[oR];exact grownCap_le_maxLen _ _ _ _ Z7
     obtain⟨G6,zfl⟩:=aN (((bK xs).take (i*2)).toArray++qK (.agg #[.int .i64 0,.int .i64 0]:aF).cells (n+1-i)++qK (.agg #[.int .i64 0,.int .i64 0]:aF).cells (c2-(i+(n+1-i))):Array aF);have zeE:G6.toList.length=c2*2:=by
      have z1:(qK (.agg #[.int .i64 0,.int .i64 0]:aF).cells (n+1-i)).size=(n+1-i)*2:=Z6 _ _;have z2:(qK (.agg #[.int .i64 0,.int .i64 0]:aF).cells (c2-(i+(n+1-i)))).size=(c2-(i+(n+1-i)))*2:=Z6 _ _;rw[Es,zfl,Wp,Wp,z1,z2,Bz,la];omega
     have zjW:G6.toList.take (i*2)=(bK xs).take (i*2):=by
      rw[zfl,Qd,Qd,Jx,Fy (by rw[la];exact bM _),El (by rw[la];exact bM _)]
     rw[<-oR,<-zfl,show i+(n+1-i)=n+1 by omega] at fQ;obtain⟨W1,dC⟩:=aN ((Tt.tp w T 0).drew.alloc (.cells G6 149));rw[<-dC] at fQ;have oV:W1.heap[w.heap.size]? =some (.cells G6 149 (0,0)):=by rw[dC];exact gV _ _
     have zw3:∀b,b<w.heap.size->W1.heap[b]? =w.heap[b]? :=λb hb=>by rw[dC];exact Below.heap_alloc _ _ _ hb
     have dF:W1.heap.size=w.heap.size+1:=by rw[dC];exact qT _ _
     have zv5:g<w.heap.size:=gM hg;have zxV:gv<w.heap.size:=gM hv;refine⟨.slice (some ⟨w.heap.size,0,none⟩) (n+1) c2,W1,.inl (X8 rfl rfl rfl fQ),?_⟩;simp only[cE,fS,dU,dW];clear fQ dC zfl hold oR;refine nP ?_;refine CR.mv H (.slice (some ⟨w.heap.size,0,none⟩) (n+1) c2) ?_;refine CR.nil H ?_;refine CW.sq H ?_;refine CW.rg H [0,1,2,3,4] ?_;refine CR.mv H (.slice (some ⟨w.heap.size,0,none⟩) (n+1) c2) ?_;refine CR.mv H (.int .i64 (i:Int)) ?_;refine CR.mv H (.slice (some ⟨w.heap.size,i*2,none⟩) (n+1-i) (c2-i)) ?_ (hx:=λT=>by exact To rfl yR jZ cP rfl rfl rfl aC aC rfl rfl rfl);refine CR.mv H (.slice (some ⟨gv,0,none⟩) 1 1) ?_;refine CR.op H zAh rfl aU (λT2=>?_);have nJ:∀ty,(Eg #[69,69] ty #[.slice (some ⟨w.heap.size,i*2,none⟩) (n+1-i) (c2-i),.slice (some ⟨gv,0,none⟩) 1 1]).run aK (Tt.tp W1 T2 0)=.ok (goInt (zdi 1 (n+1-i))) ((Tt.tp W1 T2 0).setRow w.heap.size (G6.toList.take (i*2)++x.cells++G6.toList.drop (i*2+(x.cells).length)).toArray):=λty=>
      zhI (P:=aK) yR jZ oV zq2 (λj u hj=>by rw[K7,qV];exact(aI (w:=W1) ((zw3 gv zxV).trans hv) j).trans (by rw[<-C3];exact hj)) (by rw[<-Es,zeE];show i*2+2<=_;omega) Rp
     obtain⟨uG,Sk⟩:=aN ((G6.toList.take (i*2)++x.cells++G6.toList.drop (i*2+(x.cells).length)).toArray:Array aF);rw[<-Sk] at nJ;obtain⟨W2,n6⟩:=aN ((Tt.tp W1 T2 0).setRow w.heap.size uG);rw[<-n6] at nJ;have Bh:W2.heap[w.heap.size]? =some (.cells uG 149 (0,0)):=by rw[n6];exact Lr (Tt.tp W1 T2 0) w.heap.size G6 uG 149 (0,0) oV
     have zf3:∀b,b<w.heap.size->W2.heap[b]? =w.heap[b]? :=λb hb=>by rw[n6];exact(zet _ _ _ _ aC).trans (zw3 b hb)
     have hY:W2.heap.size=w.heap.size+1:=by rw[n6];simp[zfx];exact dF
     have yQ:uG.toList.length=c2*2:=by rw[Sk];show(_++_++_:List aF).length=_;simp only[j5,rU,zC,zeE];show min (i*2) (c2*2)+2+(c2*2-(i*2+2))=_;omega
     refine⟨_,W2,.inl (zfd rfl rfl rfl (nJ _)),?_⟩;simp only[cE,fS,dU,dW];clear nJ n6;refine CR.nil H ?_;refine CW.sq H ?_;refine CW.pQ H zdm (λT3 Q HQ=>?_);have nJ:∀ty,(Eg #[69,69] ty #[.slice (some ⟨w.heap.size,(i+1)*2,none⟩) (n+1-(i+1)) (c2-(i+1)),.slice (some ⟨g,i*2,none⟩) (n-i) (c-i)]).run aK (Tt.tp W2 T3 0).drew=.ok (goInt (zdi (n-i) (n+1-(i+1)))) ((Tt.tp W2 T3 0).drew.setRow w.heap.size (uG.toList.take ((i+1)*2)++((bK xs).drop (i*2))++uG.toList.drop ((i+1)*2+(((bK xs).drop (i*2))).length)).toArray):=λty=>
      zhI (P:=aK) yR jZ Bh (by rw[cP,lb,show n+1-(i+1)=n-i by omega];congr 1;exact(Nat.min_self _).symm) (λj u hj=>by rw[K7];rw[Z0] at hj;exact(aI (w:=W2) ((zf3 g zv5).trans hg) (i*2+j)).trans (Ur _ _ hj)) (by rw[<-Es,yQ,lb];omega) (λu hu=>one u (zdF hu))
     obtain⟨J5,za1⟩:=aN ((uG.toList.take ((i+1)*2)++((bK xs).drop (i*2))++uG.toList.drop ((i+1)*2+((bK xs).drop (i*2)).length)).toArray:Array aF);rw[<-za1] at nJ;obtain⟨W3,qL⟩:=aN ((Tt.tp W2 T3 0).drew.setRow w.heap.size J5);rw[<-qL] at nJ;have Hn:W3.heap[w.heap.size]? =some (.cells J5 149 (0,0)):=by rw[qL];exact Lr (Tt.tp W2 T3 0).drew w.heap.size uG J5 149 (0,0) Bh
     have zgY:∀b,b<w.heap.size->W3.heap[b]? =w.heap[b]? :=λb hb=>by rw[qL];exact(zet _ _ _ _ aC).trans (zf3 b hb)
     have zeu:W3.heap.size=w.heap.size+1:=by rw[qL];simp[zfx];exact hY
     obtain⟨Tg,U9⟩:=ins_up (c0:=G6.toList) (a:=(bK xs).take (i*2)) (b:=(bK xs).drop (i*2)) (xx:=x.cells) (c1:=uG.toList) (c2:=J5.toList) (by rw[la];exact zjW) (by rw[la,lb,zeE];show i*2+2+_<=_;omega) (by rw[Sk,la]) (by rw[za1,la,show i*2+x.cells.length=(i+1)*2 by show i*2+2=_;omega]);rw[zeE] at U9;rw[la,lb,show i*2+x.cells.length+(n-i)*2=(n+1)*2 by show i*2+2+_=_;omega,<-ziX] at Tg;have o7:W3.ownsRow lo 149 2 (.slice (some ⟨w.heap.size,0,none⟩) (n+1) c2) (n+1) (bK (xs.take i++x::xs.drop i)):=⟨by rw[<-Tg,rU,U9];omega,.inr ⟨w.heap.size,c2,J5,rfl,eL,Hn,Cc,hle,by rw[<-Es];exact U9,Tg⟩⟩;refine wp_IN11 (Tt.tp W2 T3 0) W3 w.heap.size (n+1) c2 g n c i _ rfl rfl rfl rfl rfl ⟨aC,aC,aC,aC,aC⟩ (nJ _) rfl ?_;rw[Go.Mt.Cq,zpM];simp only[Go.Mt.yF,dU,dW,zll,lIN11,Dy,Ey];show Q .normal _ W3;refine HQ.o _ _ ?_;clear HQ nJ qL;refine CW.sq H ?_;refine CW.pQ H zdm (λT4 Q HQ=>?_);go_wp2;refine HQ.o _ _ ?_;clear HQ;refine CW.rt H ?_;exact⟨.inr rfl,rfl,.slice (some ⟨w.heap.size,0,none⟩) (n+1) c2,rfl,rfl,w.heap.size,c2,rfl,cK o7 λb e=>rfl,⟨by show _<=W3.heap.size;omega,λb hb _=>zgY b hb⟩,.inr (bM _)⟩
   .
     have zF5:¬(c:Int)<((n+1:Nat):Int):=aC;refine nP ?_;refine CR.mv H (.bool false) ?_ (hx:=λT=>by unfold aO;go_simp;omega);refine CR.nil H ?_;refine CW.cd H false ?_;refine CW.sk H ?_;dsimp only;refine CW.sq H ?_;refine CW.rg H [0,1,2,3,4,5] ?_;refine CR.mv H (.slice (some ⟨g,0,none⟩) n c) ?_;refine CR.mv H (.int .i64 (n:Int)) ?_;refine CR.mv H (.int .i64 1) ?_;refine CR.mv H (.int .i64 ((n+1:Nat):Int)) ?_ (hx:=λT=>by unfold aO;go_simp;first|(push_cast;exact Gd aC aC)|trace_state);refine CR.mv H (.slice (some ⟨g,0,none⟩) (n+1) c) ?_ (hx:=λT=>by exact zpa rfl yR jZ cP rfl rfl rfl aC);refine CR.mv H (.slice (some ⟨g,0,none⟩) (n+1) c) ?_;refine CR.nil H ?_;refine CW.sq H ?_;refine CW.sq H ?_;refine CW.rg H [0,1,2,3,4,5,6,7] ?_;refine CR.mv H (.slice (some ⟨gv,0,none⟩) 1 1) ?_;refine CR.mv H (.slice (some ⟨g,0,none⟩) (n+1) c) ?_;refine CR.mv H (.int .i64 (i:Int)) ?_;refine CR.mv H (.int .i64 1) ?_;refine CR.mv H (.int .i64 ((i+1:Nat):Int)) ?_ (hx:=λT=>by unfold aO;go_simp;first|(push_cast;exact Gd aC aC)|trace_state);refine CR.mv H (.slice (some ⟨g,(i+1)*2,none⟩) (n+1-(i+1)) (c-(i+1))) ?_ (hx:=λT=>by exact To rfl yR jZ cP rfl rfl rfl aC aC rfl rfl rfl);refine CR.overlaps H (A:=⟨gv,0,none⟩) (B:=⟨g,(i+1)*2,none⟩) ov_fn zAF rfl rfl rfl rfl rfl rfl Cs hv hg (by rw[gS];omega) ?_;simp only[cE,fS,dU,dW];refine nP ?_;refine CR.mg H (.bool true) ?_;refine CR.nil H ?_;refine CW.cd H true ?_;refine CW.sq H ?_;refine CW.pQ H zdm (λT3 Q HQ=>?_);have zv5:g<w.heap.size:=gM hg;have zxV:gv<w.heap.size:=gM hv;have nJ:∀ty,(Eg #[69,69] ty #[.slice (some ⟨g,(i+1)*2,none⟩) (n+1-(i+1)) (c-(i+1)),.slice (some ⟨g,i*2,none⟩) (n+1-i) (c-i)]).run aK (Tt.tp w T3 0).drew=.ok (goInt (zdi (n+1-i) (n+1-(i+1)))) ((Tt.tp w T3 0).drew.setRow g (cur.toList.take ((i+1)*2)++((bK xs).drop (i*2))++cur.toList.drop ((i+1)*2+(((bK xs).drop (i*2))).length)).toArray):=λty=>
      zhI (P:=aK) yR jZ hg (by rw[cP,lb,show n+1-(i+1)=n-i by omega];congr 1;exact(Nat.min_eq_right aC).symm) (λj u hj=>by rw[K7];rw[Z0] at hj;exact(aI (w:=w) hg (i*2+j)).trans (Ur _ _ hj)) (by rw[<-Es,kR,lb];omega) (λu hu=>one u (zdF hu))
     obtain⟨uG,Sk⟩:=aN ((cur.toList.take ((i+1)*2)++((bK xs).drop (i*2))++cur.toList.drop ((i+1)*2+((bK xs).drop (i*2)).length)).toArray:Array aF);rw[<-Sk] at nJ;obtain⟨W3,qL⟩:=aN ((Tt.tp w T3 0).drew.setRow g uG);rw[<-qL] at nJ;have Hn:W3.heap[g]? =some (.cells uG 149 (0,0)):=by rw[qL];exact Lr (Tt.tp w T3 0).drew g cur uG 149 (0,0) hg
     have zgY:∀b,b≠g->W3.heap[b]? =w.heap[b]? :=λb hb=>by rw[qL];exact zet _ _ _ _ hb
     have zeu:W3.heap.size=w.heap.size:=by rw[qL];simp[zfx];rfl
     have yQ:uG.toList.length=c*2:=by rw[Sk];show(_++_++_:List aF).length=_;simp only[j5,rU,zC,kR,hlen];omega
     refine wp_IN15 (Tt.tp w T3 0) W3 g (n+1) c i _ rfl rfl rfl rfl ⟨aC,aC,aC,aC,aC⟩ (nJ _) rfl ?_;rw[Go.Mt.Cq,zr3];simp only[Go.Mt.yF,dU,dW,zmI,lIN15,Dy,Ey];show Q .normal _ W3;refine HQ.o _ _ ?_;clear HQ nJ qL;refine CW.sq H ?_;refine CW.rg H [0,1,2,3,4] ?_;refine CR.mv H (.slice (some ⟨g,0,none⟩) (n+1) c) ?_;refine CR.mv H (.int .i64 (i:Int)) ?_;refine CR.mv H (.slice (some ⟨g,i*2,none⟩) (n+1-i) (c-i)) ?_ (hx:=λT=>by exact To rfl yR jZ cP rfl rfl rfl aC aC rfl rfl rfl);refine CR.mv H (.slice (some ⟨gv,0,none⟩) 1 1) ?_;refine CR.op H zB9 rfl aU (λT2=>?_);have nJ:∀ty,(Eg #[69,69] ty #[.slice (some ⟨g,i*2,none⟩) (n+1-i) (c-i),.slice (some ⟨gv,0,none⟩) 1 1]).run aK (Tt.tp W3 T2 0)=.ok (goInt (zdi 1 (n+1-i))) ((Tt.tp W3 T2 0).setRow g (uG.toList.take (i*2)++x.cells++uG.toList.drop (i*2+(x.cells).length)).toArray):=λty=>
      zhI (P:=aK) yR jZ Hn zq2 (λj u hj=>by rw[K7,qV];exact(aI (w:=W3) ((zgY gv Cs).trans hv) j).trans (by rw[<-C3];exact hj)) (by rw[<-Es,yQ];show i*2+2<=_;omega) Rp
     obtain⟨J5,za1⟩:=aN ((uG.toList.take (i*2)++x.cells++uG.toList.drop (i*2+(x.cells).length)).toArray:Array aF);rw[<-za1] at nJ;obtain⟨W2,n6⟩:=aN ((Tt.tp W3 T2 0).setRow g J5);rw[<-n6] at nJ;have Gg:W2.heap[g]? =some (.cells J5 149 (0,0)):=by rw[n6];exact Lr (Tt.tp W3 T2 0) g uG J5 149 (0,0) Hn
     have zf3:∀b,b≠g->W2.heap[b]? =w.heap[b]? :=λb hb=>by rw[n6];exact(zet _ _ _ _ hb).trans (zgY b hb)
     have hY:W2.heap.size=w.heap.size:=by rw[n6];simp[zfx];exact zeu
     obtain⟨Tg,U9⟩:=zBd (c0:=cur.toList) (a:=(bK xs).take (i*2)) (b:=(bK xs).drop (i*2)) (xx:=x.cells) (c1:=uG.toList) (c2:=J5.toList) (by rw[la];exact zAV) (by rw[la,lb,kR];show i*2+2+_<=_;omega) (by rw[Sk,la,show i*2+x.cells.length=(i+1)*2 by show i*2+2=_;omega]) (by rw[za1,la]);rw[kR] at U9;rw[la,lb,show i*2+x.cells.length+(n-i)*2=(n+1)*2 by show i*2+2+_=_;omega,<-ziX] at Tg;have o7:W2.ownsRow lo 149 2 (.slice (some ⟨g,0,none⟩) (n+1) c) (n+1) (bK (xs.take i++x::xs.drop i)):=⟨by rw[<-Tg,rU,U9];omega,.inr ⟨g,c,J5,rfl,zdo,Gg,aC,qP,by rw[<-Es];exact U9,Tg⟩⟩;refine⟨_,W2,.inl (zfd rfl rfl rfl (nJ _)),?_⟩;simp only[cE,fS,dU,dW];clear nJ n6;refine CR.nil H ?_;refine CW.sq H ?_;refine CW.pQ H zdm (λT4 Q HQ=>?_);go_wp2;refine HQ.o _ _ ?_;clear HQ;refine CW.rt H ?_;exact⟨.inr rfl,rfl,.slice (some ⟨g,0,none⟩) (n+1) c,rfl,rfl,g,c,rfl,cK o7 λb e=>rfl,⟨by show _<=W2.heap.size;omega,λb hb hn=>zf3 b λe=>hn (by rw[e];rfl)⟩,.inl rfl⟩
section
variable {P:cD}{w:aE}
theorem zu4 {ops:Array aZ}{rest:List aZ}{o:aZ}{a:vX}{Q:oP->vX->aE->Prop}(Gf:o.guard=none)(x y:cN)(t t2:aM)(ho:o.op=.binOp .neq t x y t2){d:ChanDir}{e:aM}(hu:P.underlying t=some (.chan d e))(p q:Option Nat)(hx:a.eval x=.chan p)(hy:a.eval y=.chan q){r:Bool}(hr:(!(p==q))=r)
 (h:wpList P ops Q rest (a.put o.dst (.bool r)) w):wpList P ops Q (o::rest) a w:=by
 subst hr;refine wpList_plain Gf λK hK=>?_;unfold aZ.wp;simp[aO,eqGuard,binOp,ho,hx,hy,zjD hu];exact hK _ _ h
end
def zF (xs:List bH)(p:Int):Nat:=(xs.takeWhile λx=>decide (p<=x.p)).length
def zfc (xs:List bH)(p:Int):zF xs p<=xs.length:=(zyY _).length_le
theorem zCG (xs:List bH)(c:bH):tJ xs c=xs.take (zF xs c.p)++c::xs.drop (zF xs c.p):=by
 unfold tJ zF;congr 1
 .exact(List.prefix_iff_eq_take.1 (zyY _))
 .congr 1
  have h:=List.takeWhile_append_dropWhile (p:=λx:bH=>decide (c.p<=x.p)) (l:=xs);generalize xs.takeWhile (λx=>decide (c.p<=x.p))=a at*;generalize xs.dropWhile (λx=>decide (c.p<=x.p))=b at*;subst h;simp
variable {p:Int}
theorem zBC :∀{j:Nat} {x:bH},j<zF xs p->xs[j]? =some x->p<=x.p:=by
 unfold zF
 induction xs with
 |nil=>intro j x hj;simp at hj
 |cons y ys ih=>
  intro j x hj hx;rw[zvj] at hj;split at hj
  .rename_i hy
   cases j with
   |zero=>simp at hx;subst hx;simpa using hy
   |succ j=>exact ih Zh (by simpa using hx)
  .simp at hj
theorem zFZ :∀{j:Nat} {x:bH},zF xs p=j->xs[j]? =some x->x.p<p:=by
 unfold zF
 induction xs with
 |nil=>intro j x hj hx;simp at hx
 |cons y ys ih=>
  intro j x hj hx;rw[zvj] at hj;split at hj
  .rename_i hy
   cases j with
   |zero=>simp at hj
   |succ j=>exact ih Zh (by simpa using hx)
  .rename_i hy
   simp at hj;subst hj;simp at hx;subst hx;simpa using hy
def zlT:Go.Code:=(zq4.body).getD .skip
def rRI9:Go.Code:=match zlT with| .seq _ (.seq _ (.seq _ (.seq _ (.seq _ (.seq _ (.seq (.block _ (.loop (.seq (.seq (a) _) _))) _))))))=>a|_=>.skip
def rRI11:Go.Code:=match zlT with| .seq _ (.seq _ (.seq _ (.seq _ (.seq _ (.seq _ (.seq _ (.seq (a) _)))))))=>a|_=>.skip
def zhL:Array Oper:=match rRI11 with| .region _ ops _=>ops|_=>#[]
abbrev oRI11_9:Oper:=aV zhL 9 (some 72) (.buildSlice 69 1 #[(0,.tmp 71)])
def zH0:zhL[9]? =some oRI11_9:=rfl
abbrev zI6:Oper:=aV zhL 13 none (.store 69 (.tmp 75) (.tmp 73))
def zGz:zhL[13]? =some zI6:=rfl
def Du:xA aK 101:=⟨_,zo7,.inr (.inl ⟨_,rfl⟩)⟩
section
variable {Q:oP->vX->aE->Prop}{u3 u4 u5 u6 u7 u9 iB gH gK gF gI gJ u16 iM lA kY jS iQ iO iK iR iI iT iE iH iD jK jM u32 iP iN iG iC kT lB iS iJ iF iZ iW jE jA jG iU iY jF jC iX nA nC lE lH kZ kN kL kU kP j8 j6 kG u64 kH kC kD j7 lL kQ kW kF zdZ zdq zbU zcw zb8 zdr zaA:aF}{w:aE}
theorem wp_RI9 {lo hb n cW m:Nat}{AW:Option bC}{xs:List bH}{c:bH}(h7:w.cell? ⟨hb,7,none⟩=some (.slice AW n cW))(hs:cJ w lo w.heap.size 2 AW n cW (bK xs))(hn:xs.length=n)(Qo:n<=1000)(hm:m<=zF xs c.p)(hp:0<=c.p/\c.p<=9)(h:∀zvq zpw zqx zuI z46 zuv zxz z49 zvx z51 zwX z53 zrR ztH zsD zua zyB z59,Q .normal ⟨#[.pointer (some ⟨hb,0,none⟩),.int .i64 c.c,.int .i64 c.p,u3,u4,u5,u6,u7,.int .i64 (m:Int),u9,iB,gH,gK,gF,gI,gJ,u16,iM,lA,kY,jS,iQ,iO,iK,iR,iI,iT,iE,iH,iD,jK,jM,u32,iP,iN,iG,iC,kT,lB,iS,iJ,iF,zvq,zpw,zqx,zuI,z46,zuv,zxz,z49,zvx,z51,zwX,z53,zrR,ztH,zsD,zua,zyB,z59,.bool (decide (m<zF xs c.p)),j8,j6,kG,u64,kH,kC,kD,j7,lL,kQ,kW,kF,zdZ,zdq,zbU,zcw,zb8,zdr,zaA],[]⟩ w):
 Code.wp aK rRI9 Q ⟨#[.pointer (some ⟨hb,0,none⟩),.int .i64 c.c,.int .i64 c.p,u3,u4,u5,u6,u7,.int .i64 (m:Int),u9,iB,gH,gK,gF,gI,gJ,u16,iM,lA,kY,jS,iQ,iO,iK,iR,iI,iT,iE,iH,iD,jK,jM,u32,iP,iN,iG,iC,kT,lB,iS,iJ,iF,iZ,iW,jE,jA,jG,iU,iY,jF,jC,iX,nA,nC,lE,lH,kZ,kN,kL,kU,kP,j8,j6,kG,u64,kH,kC,kD,j7,lL,kQ,kW,kF,zdZ,zdq,zbU,zcw,zb8,zdr,zaA],[]⟩ w:=by
 have hle:=zfc xs c.p;have zrF:=aD (show∀(j:Nat) (x:bH),j<zF xs c.p->xs[j]? =some x->c.p<=x.p from λj x hj hx=>zBC hj hx);obtain⟨pl,oF⟩:=aN (zF xs c.p);rw[<-oF] at hm h hle zrF;have zGF:=aD oF;have Sv:=aD hn;have HQ:=aD h;simp only[rRI9,zlT,zq4,Cb];by_cases aT:m<n
 .obtain⟨bW,oW,x,hA,kK,eR,e0,e1⟩:=zhK hs aT
  subst hA;have i0:(0:Int)<=(m:Int):=aC;have i1:(m:Int)<(n:Int):=aC;have HX:=aD eR;have HS:=aD hs;by_cases zEB:c.p<=x.p
  .have Pv:m<pl:=by
    rcases uR m pl with hh|hh
    .exact hh
    .have:m=pl:=aC
     subst this;exact absurd (zFZ zGF.o.symm HX.o) aC
   go_wp2;have:=HQ.o;simp only[Pv,decide_true] at this;exact this _ _ _ _ _ _ _ _ _ _ _ _ _ _ _ _ _ _
  .have Pv:¬m<pl:=λhh=>zEB (zrF.o m x hh HX.o)
   go_wp2;have:=HQ.o;simp only[Pv,decide_false] at this;exact this _ _ _ _ _ _ _ _ _ _ _ _ _ _ _ _ _ _
 .have zDh:m=n:=by have:=Sv.o;omega
  subst zDh;have Pv:¬m<pl:=by have:=Sv.o;omega
  have HS:=aD hs;go_wp2;have:=HQ.o;simp only[Pv,decide_false] at this;exact this _ _ _ _ _ _ _ _ _ _ _ _ _ _ _ _ _ _
end
variable {d:nZ}
theorem cf_ring (H:e.d.Ok){c:bH}(h:bF w lo hb v d)(mr:gC v d)(hi:zJ d)(eL:lo<=w.heap.size)(hp:0<=c.p/\c.p<=9):
 CF e.d 101 #[.pointer (some ⟨hb,0,none⟩),.int .i64 c.c,.int .i64 c.p] K (.wk e.qs k) w (λK' l' y w'=>zaM e.qs lo hb v d w k 0 (o8 d.r c) l' y w'):=by
 refine CF.of 80 zo7 (.inr (.inl ⟨_,rfl⟩)) ?_;have A0:=aD h;have T0:=aD (bT.refl (hb:=hb) (v:=v) (w:=w));have HI:=aD hi;have MR:=aD mr;have K5:=aD eL;have oI:=hi.sm.nb;have Kx:=hi.sm.nw;have E8:=hi.sm.nr;obtain⟨yO,ziM⟩:=hp;clear h mr hi eL;refine CW.sq H (CW.p0 H Du A0 T0 λw1 dY A1 T1=>?_);obtain⟨AB,cB,Ml,zdL⟩:=H0 A1.o.B aH;have Aj:=aD Ml;clear Ml zdL;obtain⟨kn,tT⟩:=aN (((gU d.r.recs c.c).isSome||(uL d.r.back c.c).isSome));have fH:=aD tT;clear tT;refine CW.sq H ?_;refine CW.sq H ?_
 cases eO:gU d.r.recs c.c with
 |some i=>
  obtain⟨x,hx,Jz,sU⟩:=zZ eO;obtain⟨gL,Na,hO,hM,hC⟩:=MR.o.onLine HI.o hx sU Jz;have Ua:=aD hO;have cM:=aD (show o8 d.r c=(d.r,[107,110,111,119,110]) by unfold o8;rw[eO];rfl);clear hx Jz sU Na hO hM hC eO;refine CW.pW H Du A1 T1 λw2 Q eN A2 T2 HQ=>?_;have k5:w2.cell? ⟨hb,5,none⟩=some (.map (some v.mO)):=aI A2.o.blk 5;have k8:w2.cell? ⟨hb,8,none⟩=some (.slice AB d.r.back.length cB):=by
   have:=aI A2.o.blk 8;rw[this,<-Aj.o];rfl
  have F7:=aD (show cJ w2 lo w2.heap.size 1 AB d.r.back.length cB (fN (d.r.back.map bH.c)) by have:=A2.o.B;rw[Aj.o] at this;exact Av this aH);have Zu:=aD A2.o.O
  go_wp2_with (at_lookup;refine zou _ rfl (.tmp 12) (.tmp 13) 67 false rfl 84 Us Mh (.chan none) (zcj _) v.mO c.c v.pO rfl rfl Zu.o ?_;rw[Ua.o];simp only[Cb,zpT,iA,if_false];refine zu4 rfl (.tmp 14) (.const (.chan none)) 84 84 rfl Tr (some gL) none rfl rfl (r:=true) rfl ?_)
  refine HQ.o _ _ ?_;clear HQ;clear k5 k8;refine CW.cd H true ?_;refine CW.sq H (CW.p0 H Du A2 T2 λw3 jD A3 T3=>?_);refine CW.rt H ?_;refine⟨.inr rfl,rfl,.string ⟨#[107,110,111,119,110]⟩,rfl,⟨rfl,by rw[cM.o],v,?_,?_,?_,Ba.rf v⟩⟩
  .rw[cM.o];exact A3.o
  .rw[cM.o];exact MR.o
  .exact T3.o
 |none=>
  have Ua:=aD (MR.o.offLine eO);have vH:=aD eO;clear eO;refine CW.pW H Du A1 T1 λw2 Q eN A2 T2 HQ=>?_;have k5:w2.cell? ⟨hb,5,none⟩=some (.map (some v.mO)):=aI A2.o.blk 5;have k8:w2.cell? ⟨hb,8,none⟩=some (.slice AB d.r.back.length cB):=by
   have:=aI A2.o.blk 8;rw[this,<-Aj.o];rfl
  have F7:=aD (show cJ w2 lo w2.heap.size 1 AB d.r.back.length cB (fN (d.r.back.map bH.c)) by have:=A2.o.B;rw[Aj.o] at this;exact Av this aH);have Zu:=aD A2.o.O
  go_wp2_with (first
   |(at_lookup;refine zou _ rfl (.tmp 12) (.tmp 13) 67 false rfl 84 Us Mh (.chan none) (zcj _) v.mO c.c v.pO rfl rfl Zu.o ?_;rw[Ua.o];simp only[Cb,zpT,iA,if_false];refine zu4 rfl (.tmp 14) (.const (.chan none)) 84 84 rfl Tr (none) none rfl rfl (r:=false) rfl ?_)
   |(go_at_call 108;refine(zG2 lo w2.heap.size d.r.back.length cB AB (d.r.back.map bH.c) c.c w2 F7.o aC).mono ?_;rintro en wz ⟨rfl,tP⟩;obtain rfl:=tP;rw[zxj]))
  refine HQ.o _ _ ?_;clear HQ;clear k8;have zJQ:=A2
  cases J8:uL d.r.back c.c with
  |some p=>
   have cM:=aD (show o8 d.r c=(d.r,[107,110,111,119,110]) by unfold o8;rw[J8,vH.o];rfl);clear J8;refine CW.cd H true ?_;refine CW.sq H (CW.p0 H Du A2 T2 λw3 jD A3 T3=>?_);refine CW.rt H ?_;refine⟨.inr rfl,rfl,.string ⟨#[107,110,111,119,110]⟩,rfl,⟨rfl,by rw[cM.o],v,?_,?_,?_,Ba.rf v⟩⟩
   .rw[cM.o];exact A3.o
   .rw[cM.o];exact MR.o
   .exact T3.o
  |none=>
   have ztw:=aD J8;clear J8;refine CW.cd H false ?_;refine CW.sk H ?_;dsimp only;have zdn:=HI.o.nln;have zcg:d.ln.length<=100:=by have:=(Aa HI.o.R.off).2.1;omega
   have zcv:=aD (λW (a:bF W lo hb v d)=>zvk a MR.o zdn zcg);clear zdn zcg fH;refine CW.sq H (CW.pW H Du A2 T2 λw3 Q jD A3 T3 HQ=>?_)
   go_wp2_with (go_at_call 109;refine(zcv.o _ A3.o).mono ?_;rintro en wy ⟨rfl,zEb⟩;obtain rfl:=zEb)
   refine HQ.o _ _ ?_;clear HQ;clear zcv;refine CW.sq H ?_
   cases gE:oX d.r.o d.r.recs with
   |nil=>
    rw[zsC gE];have cM:=aD (show o8 d.r c=({d.r with back:=d.r.back++[c]},[98,117,115,121]) by unfold o8;rw[ztw.o,vH.o];simp only[gE];rfl);clear gE;refine CW.sq H (CW.p0 H Du A3 T3 λw4 l5 A4 T4=>?_);refine CW.cd H true ?_;refine CW.sq H (CW.pW H Du A4 T4 λw5 Q kS A5 T5 HQ=>?_);have k8:w5.cell? ⟨hb,8,none⟩=some v.sB:=aI A5.o.blk 8;obtain⟨OC,zcm⟩:=aN (.cells #[.int .i64 c.c] 3:Obj);have a5:=A5.o.alloc OC;obtain⟨q1,q2,w6,fQ,cY,mV,eO⟩:=Ns (t:=38) (ty:=38) Ye X4 rfl aH a5.B (g:=w5.heap.size) (cs:=#[.int .i64 c.c]) (news:=[.int .i64 c.c]) (by rw[zcm];exact gV _ _) rfl (m:=1) rfl aH Lz aC aH (by have:=T5.o.size;have:=K5.o;simp;omega);obtain⟨a6,t6⟩:=a5.putB mV (xs:=d.r.back++[c]) (by have e:fN ((d.r.back++[c]).map bH.c)=fN (d.r.back.map bH.c)++[.int .i64 c.c]:=(by simp[fN]);rw[e];exact cY) aQ eO;have A6:=aD a6;have T6:=aD (T5.o.trans ((bT.below (eK (gD _ w5) OC)).trans (⟨t6.size,t6.block,t6.moved⟩:bT hb v (w5.alloc OC) _ _)));have Lj:w6.heap[hb]? =some (Oe v _):=(a5.other (j:=6) (c:=8) (x:=v.sB) rfl aH mV (.slice (some ⟨q1,0,none⟩) (d.r.back.length+1) q2)).2.trans a5.blk;have zsB:=aI Lj 8;have kf:=fC Lj 8;have AP:=aD fQ;obtain⟨A8,c8,zgz,_⟩:=H0 A5.o.B aH;have Px:w5.cell? ⟨hb,8,none⟩=some (.slice A8 d.r.back.length c8):=by rw[k8,zgz]
    have zG0:w6.cell? ⟨hb,8,none⟩=some (.slice A8 d.r.back.length c8):=by rw[zsB,<-zgz];rfl
    rw[zgz,zcm] at AP;clear cY mV eO a6 t6 a5 Lj fQ k8 zsB zgz
    go_wp2_with (at_builtin;refine zwY rfl (.tmp 32) (.tmp 34) 38 38 rfl (.slice A8 d.r.back.length c8) (.slice (some ⟨w5.heap.size,0,none⟩) 1 1) (.slice (some ⟨q1,0,none⟩) (d.r.back.length+1) q2) rfl rfl AP.o ?_)
    refine HQ.o _ _ ?_;clear HQ;clear Px zG0 kf AP;clear A5 T5;obtain⟨zLJ,zu6⟩:∃y,y=w6.setCell ⟨hb,8,none⟩ (.slice (some ⟨q1,0,none⟩) (d.r.back.length+1) q2):=⟨_,rfl⟩;rw[<-zu6] at A6 T6⊢;clear zu6;refine CW.sq H (CW.p0 H Du A6 T6 λw7 rS A7 T7=>?_);refine CW.rt H ?_;refine⟨.inr rfl,rfl,.string ⟨#[98,117,115,121]⟩,rfl,⟨rfl,by rw[cM.o],{v with sB:=.slice (some ⟨q1,0,none⟩) (d.r.back.length+1) q2},?_,?_,?_,⟨rfl,rfl,rfl,rfl⟩⟩⟩
    .rw[cM.o];exact A7.o
    .rw[cM.o];refine gC.of MR.o ?_ ?_ ?_ ?_ ?_<;>rfl
    .exact T7.o
   |cons lf ls=>
    obtain⟨i,gL,wI⟩:=HI.o.free gE;have uT:Je d=(i:Int):=by rw[zpX gE,wI.l];omega
    rw[uT];have cM:=aD (show o8 d.r c=({d.r with recs:=d.r.recs++[⟨c.c,(i:Int)+1,0,d.r.clk,-1,-1,eP⟩],wait:=tJ d.r.wait c},[108,105,110,101,32]++gA ((i:Int)+1)) by unfold o8;rw[ztw.o,vH.o];simp only[gE,wI.l];rfl);have FA:=aD wI;have zDE:=wI.i6;have zx1:i<=50:=by have:=(zht HI.o.R.off (l:=lf) (by rw[gE];simp));have:=wI.l;omega
    clear gE wI uT;refine CW.sq H (CW.pW H Du A3 T3 λw4 Q l5 A4 T4 HQ=>?_);have i0:(0:Int)<=(i:Int):=aC;go_wp2;refine HQ.o _ _ ?_;clear HQ;refine CW.cd H false ?_;refine CW.sk H ?_;dsimp only;refine CW.sq H (CW.pW H Du A4 T4 λw5 Q kS A5 T5 HQ=>?_);have zGb:lo<=w5.heap.size:=eE K5.o T5.o.size
    go_wp2_with (go_at_call 110;refine(zo5 A5.o zGb FA.o.g aC E8 c.c).mono ?_;rintro en w6 ⟨rfl,v6,a6,t6,p6⟩;have A6:=aD a6;have T6:=aD (T5.o.trans t6);have P6:=aD p6;clear a6 t6 p6)
    refine HQ.o _ _ ?_;clear HQ;clear A5 T5;have zCF:=aD (gC.of (v':=v6) (d':={d with r:={d.r with recs:=d.r.recs++[⟨c.c,(i:Int)+1,0,d.r.clk,-1,-1,eP⟩]}}) (MR.o.more HI.o.ndl FA.o.g FA.o.un vH.o (o:=0) (hh:=-1) (tt:=-1) (clk:=d.r.clk)) P6.o.1 P6.o.2.1 P6.o.2.2.1 rfl rfl);have zKP:lo<=w6.heap.size:=eE K5.o T6.o.size;refine CW.sq H (CW.p0 H Du A6 T6 λw7 rS A7 T7=>?_);obtain⟨AW,cW,L5,zIg⟩:=H0 A7.o.W aH;have Cr:=aD (show v6.sW=.slice AW d.r.wait.length cW from L5);clear L5 zIg;refine CW.sq H ?_;refine CW.block H ?_;refine CW.loop H (λnn s=>∃(m:Nat) (wz:aE) (u3 u4 u5 u6 u9 iB gH gK gF gI gJ u16 iM lA kY jS iQ iO iK iR iI iT iE iH iD jK jM u32 iP iN iG iC kT lB iS iJ iF iZ iW jE jA jG iU iY jF jC iX nA nC lE lH kZ kN kL kU kP j8 j6 kG u64 kH kC kD j7 lL kQ kW kF zdZ zdq zbU zcw zb8 zdr zaA:aF),s=⟨[],K,.wk e.qs k,#[.pointer (some ⟨hb,0,none⟩),.int .i64 c.c,.int .i64 c.p,u3,u4,u5,u6,.int .i64 (i:Int),.int .i64 (m:Int),u9,iB,gH,gK,gF,gI,gJ,u16,iM,lA,kY,jS,iQ,iO,iK,iR,iI,iT,iE,iH,iD,jK,jM,u32,iP,iN,iG,iC,kT,lB,iS,iJ,iF,iZ,iW,jE,jA,jG,iU,iY,jF,jC,iX,nA,nC,lE,lH,kZ,kN,kL,kU,kP,j8,j6,kG,u64,kH,kC,kD,j7,lL,kQ,kW,kF,zdZ,zdq,zbU,zcw,zb8,zdr,zaA],wz⟩/\m<=zF d.r.wait c.p/\nn=zF d.r.wait c.p-m/\bF wz lo hb v6 {d with r:={d.r with recs:=d.r.recs++[⟨c.c,(i:Int)+1,0,d.r.clk,-1,-1,eP⟩]}}/\bT hb v w v6 wz) (λnn s hs=>?_) (n:=zF d.r.wait c.p) ?_
    rotate_left
    .exact⟨0,w7,_,_,_,_,_,_,_,_,_,_,_,_,_,_,_,_,_,_,_,_,_,_,_,_,_,_,_,_,_,_,_,_,_,_,_,_,_,_,_,_,_,_,_,_,_,_,_,_,_,_,_,_,_,_,_,_,_,_,_,_,_,_,_,_,_,_,_,_,_,_,_,_,_,_,_,rfl,lU _,rfl,A7.o,T7.o⟩
    .obtain⟨m,wz,u3,u4,u5,u6,u9,iB,gH,gK,gF,gI,gJ,u16,iM,lA,kY,jS,iQ,iO,iK,iR,iI,iT,iE,iH,iD,jK,jM,u32,iP,iN,iG,iC,kT,lB,iS,iJ,iF,iZ,iW,jE,jA,jG,iU,iY,jF,jC,iX,nA,nC,lE,lH,kZ,kN,kL,kU,kP,j8,j6,kG,u64,kH,kC,kD,j7,lL,kQ,kW,kF,zdZ,zdq,zbU,zcw,zb8,zdr,zaA,rfl,Pv,C6,az,tz⟩:=hs
     have A8:=aD az;have T8:=aD tz;clear az tz A7 T7;refine CW.sq H ?_;refine CW.sq H ?_;refine CW.pQ H Du (λzkj Q HQ=>?_);obtain⟨w9,Jv⟩:=aN (Tt.tp wz zkj 0);have A9:=aD (show bF w9 lo hb v6 {d with r:={d.r with recs:=d.r.recs++[⟨c.c,(i:Int)+1,0,d.r.clk,-1,-1,eP⟩]}} by rw[Jv];exact A8.o.tp zkj 0);have T9:=aD (show bT hb v w v6 w9 by rw[Jv];exact T8.o.tp zkj 0)
     try dsimp only
     rw[<-Jv];clear Jv A8 T8;have hW:=A9.o.W;rw[Cr.o] at hW;have k7:w9.cell? ⟨hb,7,none⟩=some (.slice AW d.r.wait.length cW):=by
      have:=aI A9.o.blk 7;rw[this,<-Cr.o];rfl
     refine wp_RI9 k7 (Av hW aH) rfl Kx Pv ⟨yO,ziM⟩ λzvq zpw zqx zuI z46 zuv zxz z49 zvx z51 zwX z53 zrR ztH zsD zua zyB z59=>?_;refine HQ.o _ _ ?_;clear HQ hW k7;by_cases aT:m<zF d.r.wait c.p
     .simp only[aT,decide_true]
      refine CW.cd H true ?_;refine CW.sk H ?_;dsimp only;refine CW.block H ?_;refine CW.pQ H Du (λzar Q HQ=>?_);obtain⟨wO,Ef⟩:=aN (Tt.tp w9 zar 0);have tM:=aD (show bF wO lo hb v6 {d with r:={d.r with recs:=d.r.recs++[⟨c.c,(i:Int)+1,0,d.r.clk,-1,-1,eP⟩]}} by rw[Ef];exact A9.o.tp zar 0);have xN:=aD (show bT hb v w v6 wO by rw[Ef];exact T9.o.tp zar 0)
      try dsimp only
      rw[<-Ef];clear Ef A9 T9;have zFE:m<=1000:=by have:=zfc d.r.wait c.p;omega
      go_wp2;refine HQ.o _ _ ?_;refine⟨zF d.r.wait c.p-(m+1),aC,m+1,wO,_,_,_,_,_,_,_,_,_,_,_,_,_,_,_,_,_,_,_,_,_,_,_,_,_,_,_,_,_,_,_,_,_,_,_,_,_,_,_,_,_,_,_,_,_,_,_,_,_,_,_,_,_,_,_,_,_,_,_,_,_,_,_,_,_,_,_,_,_,_,_,_,_,_,_,rfl,aC,rfl,tM.o,xN.o⟩
     .simp only[aT,decide_false]
      refine CW.cd H false ?_;refine CW.exit H aQ ?_;dsimp only;rw[if_pos rfl];have zca:m=zF d.r.wait c.p:=aC;have zJh:=aD zca;have zFE:m<=1000:=by have:=zfc d.r.wait c.p;omega
      have zbQ:m<=d.r.wait.length:=by have:=zfc d.r.wait c.p;omega
      clear zca aT Pv C6;have zBK:=aD (show w9.ownsRow lo 149 2 (.slice AW d.r.wait.length cW) d.r.wait.length (bK d.r.wait) by have:=A9.o.W;rw[Cr.o] at this;exact this);have k7:w9.cell? ⟨hb,7,none⟩=some (.slice AW d.r.wait.length cW):=by
       have:=aI A9.o.blk 7;rw[this,<-Cr.o];rfl
      refine CW.sq H ?_;refine CW.rg H [0,1,2,3,4,5,6,7,8,9,10,11,12,13] ?_;refine CR.mv H (.pointer (some ⟨hb,0,none⟩)) ?_;refine CR.mv H (.pointer (some ⟨hb,0,none⟩)) ?_;refine CR.mv H (.pointer (some ⟨hb,0,none⟩)) ?_;refine CR.mg H (.pointer (some ⟨hb,7,none⟩)) ?_;refine nP ?_;refine CR.mv H (.slice AW d.r.wait.length cW) ?_ (hx:=λT=>by have hh:(Tt.tp w9 T 0).cell? _=_:=k7;unfold aO;go_simp);refine CR.mv H (.int .i64 (m:Int)) ?_;refine CR.mv H (.int .i64 c.c) ?_;refine CR.mv H (.int .i64 c.p) ?_;refine CR.mv H (.agg #[.int .i64 c.c,.int .i64 c.p]) ?_ (hx:=λT=>by unfold aO;go_simp;try rfl);refine CR.op H zH0 rfl aU (λT=>⟨.slice (some ⟨w9.heap.size,0,none⟩) 1 1,(Tt.tp w9 T 0).alloc (.cells #[.int .i64 c.c,.int .i64 c.p] 149),.inl Pz,?_⟩);simp only[cE,fS,dU,dW];obtain⟨wa,xV⟩:=aN ((Tt.tp w9 T 0).alloc (.cells #[.int .i64 c.c,.int .i64 c.p] 149));have tM:=aD (show bF wa lo hb v6 {d with r:={d.r with recs:=d.r.recs++[⟨c.c,(i:Int)+1,0,d.r.clk,-1,-1,eP⟩]}} by rw[xV];exact(A9.o.tp T 0).alloc _);have xN:=aD (show bT hb v w v6 wa by rw[xV];exact(T9.o.tp T 0).trans (bT.below (eK (gD _ _) _)));have HV:=aD (show wa.heap[w9.heap.size]? =some (.cells #[.int .i64 c.c,.int .i64 c.p] 149) by rw[xV];exact gV _ _);have ztU:=aD (show wa.ownsRow lo 149 2 (.slice AW d.r.wait.length cW) d.r.wait.length (bK d.r.wait) by have:=tM.o.W;rw[Cr.o] at this;exact this);have aS:(Rl AW d.r.wait.length cW).ownBlock≠some w9.heap.size:=λe=>by have:=(zBK.o.lt _ e).2;omega
      have zFC:lo<=wa.heap.size:=eE K5.o xN.o.size;rw[<-xV];clear xV A9 T9 k7;refine CR.cl H (zCM H (x:=c) ztU.o zFC Kx zbQ HV.o aS) (λK' l' y wb hl qM=>?_);obtain⟨rfl,g2,c2,rfl,o7,znl,eO⟩:=qM;simp only[cE,fS,dU,dW];have Tw:({wb with heap:=wa.heap}:aE).grownBy wb v6.sW.ownBlock:=⟨rfl,rfl,rfl,znl.size,λb bY hn=>znl.block b bY (by rw[<-Cr.o];exact hn)⟩;have a0:bF ({wb with heap:=wa.heap}:aE) lo hb v6 {d with r:={d.r with recs:=d.r.recs++[⟨c.c,(i:Int)+1,0,d.r.clk,-1,-1,eP⟩]}}:=tM.o.same rfl;have zjm:d.r.wait.take m++c::d.r.wait.drop m=tJ d.r.wait c:=by rw[zCG,zJh.o]
      rw[zjm] at o7;obtain⟨a6,t6⟩:=a0.putW Tw o7 (by rw[<-zjm];simp;omega) (by rw[Cr.o];exact eO.imp (λe=>e) (λe b bY=>by have sD:g2=b:=cS bY;show wa.heap.size<=b;rw[<-sD];exact e));have zay:=(a0.other (j:=5) (c:=7) (x:=v6.sW) rfl aH Tw (.slice (some ⟨g2,0,none⟩) (d.r.wait.length+1) c2)).2;have zxE:wb.cell? ⟨hb,7,none⟩=some (.slice AW d.r.wait.length cW):=by
       have:=aI (zay.trans a0.blk) 7;rw[this,<-Cr.o];rfl
      have zoA:=fC (zay.trans a0.blk) 7;have Gu:=aD (xN.o.trans ((bT.refl (v:=v6) (w:=wa) (hb:=hb)).same (x:={wb with heap:=wa.heap}) rfl|>.trans t6));have B7:=aD a6;clear a6 t6 a0 Tw zay o7 znl eO tM xN HV ztU aS zjm;refine nP ?_;refine CR.mv H (.pointer (some ⟨hb,0,none⟩)) ?_;refine CR.mg H (.pointer (some ⟨hb,7,none⟩)) ?_;refine CR.sto H zGz rfl aU rfl (w':=wb.setCell ⟨hb,7,none⟩ (.slice (some ⟨g2,0,none⟩) (d.r.wait.length+1) c2)) (λT=>by have hh:(Tt.tp wb T 0).cell? _=_:=zxE;have hf:(Tt.tp wb T 0).frozen? _=_:=zoA;unfold aO;go_simp;try rfl) ?_;obtain⟨wc,zfj⟩:=aN (wb.setCell ⟨hb,7,none⟩ (.slice (some ⟨g2,0,none⟩) (d.r.wait.length+1) c2));have zcd:=aD (show bF wc lo hb {v6 with sW:=.slice (some ⟨g2,0,none⟩) (d.r.wait.length+1) c2} {d with r:={d.r with recs:=d.r.recs++[⟨c.c,(i:Int)+1,0,d.r.clk,-1,-1,eP⟩],wait:=tJ d.r.wait c}} by rw[zfj];exact B7.o);have zcq:=aD (show bT hb v w {v6 with sW:=.slice (some ⟨g2,0,none⟩) (d.r.wait.length+1) c2} wc by rw[zfj];exact Gu.o);dsimp only;rw[<-zfj];clear zfj B7 Gu zxE zoA;refine CR.nil H ?_;have Ko:=Qr (c:=(i:Int)+1) aC aC;refine CW.sq H (CW.pW H Du zcd zcq λzbB Q zqM zcb zdc HQ=>?_)
      go_wp2_with (go_at_call 112;refine(zi1 ((i:Int)+1) aC aC _).mono ?_;rintro en zlN ⟨rfl,zy1⟩;obtain rfl:=zy1)
      refine HQ.o _ _ ?_;clear HQ;refine CW.rt H ?_;refine⟨.inr rfl,rfl,.string ⟨([108,105,110,101,32]++gA ((i:Int)+1)).toArray⟩,(by have ee:(⟨#[108,105,110,101,32]⟩:ByteArray)++⟨(gA ((i:Int)+1)).toArray⟩=⟨([108,105,110,101,32]++gA ((i:Int)+1)).toArray⟩:=(by simp[Oc]);rw[<-ee];rfl),⟨rfl,by rw[cM.o],{v6 with sW:=.slice (some ⟨g2,0,none⟩) (d.r.wait.length+1) c2},?_,?_,?_,⟨P6.o.2.2.2.1,P6.o.2.2.2.2.1,P6.o.2.2.2.2.2.2.2.1,P6.o.2.2.2.2.2.2.2.2⟩⟩⟩
      .rw[cM.o];exact zcb.o
      .rw[cM.o];refine gC.of zCF.o ?_ ?_ ?_ ?_ ?_<;>rfl
      .exact zdc.o
structure EvPre (lo hb:Nat)(v:fK)(d:nZ)(w:aE):Prop where
 at_:bF w lo hb v d
 mr:gC v d
 i:zJ d
 lo_:lo<=w.heap.size
 tab:Ci lo w
 clk:d.r.clk<=99000
 nbw:d.r.back.length+d.r.wait.length<=5000
def Jq:xA aK 81:=⟨_,zuf,.inr (.inl ⟨_,rfl⟩)⟩
variable {ev:dS}
theorem zE7 (H:e.d.Ok)(h:EvPre lo hb v d w)(nH:rB d.r.o.op ev=true)(hW:C4 e.W k (pR d.r ev))(hK:∀(i g:Nat),d.qn[i]? =some g->K g (qa e.qs i)):
 CF e.d 81 #[.pointer (some ⟨hb,0,none⟩),.agg #[.string ev.k,.int .i64 ev.a,.int .i64 ev.b]] K (.wk e.qs k) w (λK' l' y w'=>zaM e.qs lo hb v d w k (pR d.r ev).length (dR d.r ev) l' y w'):=by
 refine CF.of 37 zuf (.inr (.inl ⟨_,rfl⟩)) ?_;have A0:=aD h.at_;have T0:=aD (bT.refl (hb:=hb) (v:=v) (w:=w));have HP:=aD h;have HW:=aD hW;have Za:=(Aa h.i.R.off).2.2.2.1;have Rn:=h.i.nqn;have zc1:Mq d.r.o.op ev:=by unfold rB at nH;simpa using nH
 have zh9:=aD zc1;clear h hW nH zc1;refine CW.sq H (CW.pW H Jq A0 T0 λw1 Q dY A1 T1 HQ=>?_);go_wp2;refine HQ.o _ _ ?_;clear HQ;obtain⟨gx,uU⟩:=aN w1.heap.size;obtain⟨w2,eN⟩:=aN (w1.alloc (.cells #[.string ev.k,.int .i64 ev.a,.int .i64 ev.b] 54));have A2:=aD (show bF w2 lo hb v d by rw[eN];exact A1.o.alloc _);have T2:=aD (show bT hb v w v w2 by rw[eN];exact T1.o.trans (bT.below (eK (gD _ _) _)));have zeG:=aD (show w2.heap[gx]? =some (.cells #[.string ev.k,.int .i64 ev.a,.int .i64 ev.b] 54) by rw[eN,uU];exact gV _ _);rw[<-uU,<-eN];clear eN uU A1 T1;refine CW.sq H ?_;refine CW.sq H (CW.pW H Jq A2 T2 λw3 Q jD A3 T3 HQ=>?_);have wE:=aD (jD▸zeG.o);have kx:=aI wE.o 0;go_wp2;refine HQ.o _ _ ?_;clear HQ;clear kx;refine CW.block H ?_;by_cases Zy:ev.k.toList=Cj
 .
   have rK:(ev.k.toList==[114,105,110,103])=true:=by rw[Zy];rfl
   have mG:=aD Zy;clear Zy;refine CW.sq H (CW.pW H Jq A3 T3 λw4 Q l5 A4 T4 HQ=>?_);have N5:=aD (l5▸wE.o);go_wp2;refine HQ.o _ _ ?_;clear HQ
   try simp only[rK]
   clear rK;refine CW.cond H (t:=true) rfl Pg ?_;refine CW.sq H ?_;refine CW.rg H [0,1,2,3,4,5,6] ?_;refine CR.mv H (.pointer (some ⟨hb,0,none⟩)) ?_;refine CR.mg H (.pointer (some ⟨gx,1,none⟩)) ?_;refine CR.mv H (.int .i64 ev.a) ?_ (hx:=λT=>by have hh:(Tt.tp w4 T 0).cell? _=_:=aI N5.o 1;unfold aO;go_simp);refine CR.mg H (.pointer (some ⟨gx,2,none⟩)) ?_;refine CR.mv H (.int .i64 ev.b) ?_ (hx:=λT=>by have hh:(Tt.tp w4 T 0).cell? _=_:=aI N5.o 2;unfold aO;go_simp)
   obtain⟨Qu,Cd,Ut,Kd⟩:1<=ev.a/\ev.a<=99/\0<=ev.b/\ev.b<=9:=by
    rcases zh9.o with h|h|⟨h,_⟩|h
    .exact h.2
    .rw[h.1] at mG;exact absurd mG.o aH
    .rcases h with h|h<;>(rw[h] at mG;exact absurd mG.o aH)
    .rw[h.1] at mG;exact absurd mG.o aH
   have mQ:=aD (show dR d.r ev=o8 d.r ⟨ev.a,ev.b⟩ by unfold dR;rw[if_pos mG.o]);have tN:=aD (show pR d.r ev=[] by unfold pR;rw[if_pos mG.o]);refine CR.cl H (cf_ring H (c:=⟨ev.a,ev.b⟩) A4.o HP.o.mr HP.o.i (eE HP.o.lo_ T4.o.size) ⟨Ut,Kd⟩) (λK' l' y w' hl qM=>?_);simp only[cE,fS,dU,dW];obtain⟨z1,rfl,z3⟩:=qM;refine nP ?_;refine CR.mv H (.string ⟨(o8 d.r ⟨ev.a,ev.b⟩).2.toArray⟩) ?_;refine CR.nil H ?_;refine CW.rt H ?_;obtain⟨v',z4,z5,z6,z7⟩:=z3;refine⟨.inr rfl,rfl,.string ⟨(o8 d.r ⟨ev.a,ev.b⟩).2.toArray⟩,rfl,⟨by rw[tN.o];exact z1,by rw[mQ.o],v',by rw[mQ.o];exact z4,by rw[mQ.o];exact z5,T4.o.trans z6,z7⟩⟩
 .
   have rK:(ev.k.toList==[114,105,110,103])=false:=by
    have hz:¬ev.k.toList=[114,105,110,103]:=Zy;simpa using hz
   have zlU:=aD Zy;clear Zy;refine CW.sq H (CW.pW H Jq A3 T3 λw4 Q l5 A4 T4 HQ=>?_);have N5:=aD (l5▸wE.o);go_wp2;refine HQ.o _ _ ?_;clear HQ
   try simp only[rK]
   clear rK;refine CW.cond H (t:=false) rfl Pg ?_;by_cases Z1:ev.k.toList=D9
   .
     have rK:(ev.k.toList==[104,97,110,103])=true:=by rw[Z1];rfl
     have mG:=aD Z1;clear Z1;refine CW.sq H (CW.pW H Jq A4 T4 λw5 Q kS A5 T5 HQ=>?_);have Dx:=aD (kS▸N5.o);go_wp2;refine HQ.o _ _ ?_;clear HQ
     try simp only[rK]
     clear rK;refine CW.cond H (t:=true) rfl Pg ?_;refine CW.sq H ?_;refine CW.rg H [0,1,2,3,4] ?_;refine CR.mv H (.pointer (some ⟨hb,0,none⟩)) ?_;refine CR.mg H (.pointer (some ⟨gx,1,none⟩)) ?_;refine CR.mv H (.int .i64 ev.a) ?_ (hx:=λT=>by have hh:(Tt.tp w5 T 0).cell? _=_:=aI Dx.o 1;unfold aO;go_simp);have Qh:C4 e.W k (D4 d.r ev.a):=by
      have:=HW.o;unfold pR at this;rw[if_neg zM,if_neg zM,if_neg zM,if_pos mG.o] at this;exact this
     have mQ:=aD (show dR d.r ev=mP d.r ev.a by unfold dR;rw[if_neg zM,if_neg zM,if_neg zM,if_pos mG.o]);have tN:=aD (show pR d.r ev=D4 d.r ev.a by unfold pR;rw[if_neg zM,if_neg zM,if_neg zM,if_pos mG.o]);refine CR.cl H (cf_hang H A5.o HP.o.mr HP.o.i (eE HP.o.lo_ T5.o.size) Qh hK) (λK' l' y w' hl qM=>?_);simp only[cE,fS,dU,dW];obtain⟨z1,rfl,z3⟩:=qM;refine nP ?_;refine CR.mv H (.string ⟨(mP d.r ev.a).2.toArray⟩) ?_;refine CR.nil H ?_;refine CW.rt H ?_;obtain⟨v',z4,z5,z6,z7⟩:=z3;refine⟨.inr rfl,rfl,.string ⟨(mP d.r ev.a).2.toArray⟩,rfl,⟨by rw[tN.o];exact z1,by rw[mQ.o],v',by rw[mQ.o];exact z4,by rw[mQ.o];exact z5,T5.o.trans z6,z7⟩⟩
   .
     have rK:(ev.k.toList==[104,97,110,103])=false:=by
      have hz:¬ev.k.toList=[104,97,110,103]:=Z1;simpa using hz
     have zk7:=aD Z1;clear Z1;refine CW.sq H (CW.pW H Jq A4 T4 λw5 Q kS A5 T5 HQ=>?_);have Dx:=aD (kS▸N5.o);go_wp2;refine HQ.o _ _ ?_;clear HQ
     try simp only[rK]
     clear rK;refine CW.cond H (t:=false) rfl Pg ?_;by_cases Y5:ev.k.toList=Ge
     .
       have rK:(ev.k.toList==[97,110,115,119,101,114])=true:=by rw[Y5];rfl
       have mG:=aD Y5;clear Y5;refine CW.sq H (CW.pW H Jq A5 T5 λw6 Q pT A6 T6 HQ=>?_);have Mj:=aD (pT▸Dx.o);go_wp2;refine HQ.o _ _ ?_;clear HQ
       try simp only[rK]
       clear rK;refine CW.cond H (t:=true) rfl Pg ?_;refine CW.sq H ?_;refine CW.rg H [0,1,2,3,4] ?_;refine CR.mv H (.pointer (some ⟨hb,0,none⟩)) ?_;refine CR.mg H (.pointer (some ⟨gx,1,none⟩)) ?_;refine CR.mv H (.int .i64 ev.a) ?_ (hx:=λT=>by have hh:(Tt.tp w6 T 0).cell? _=_:=aI Mj.o 1;unfold aO;go_simp)
       obtain⟨Qu,Cd⟩:1<=ev.a/\ev.a<=d.r.o.op:=by
        rcases zh9.o with h|h|⟨_,h⟩|h
        .rw[h.1] at mG;exact absurd mG.o aH
        .rw[h.1] at mG;exact absurd mG.o aH
        .exact⟨h.1,h.2.1⟩
        .rw[h.1] at mG;exact absurd mG.o aH
       obtain⟨q,oM⟩:∃q:Nat,ev.a=(q:Int)+1:=⟨(ev.a-1).toNat,aC⟩;have hq:q<d.qn.length:=aC;have z8:q<=100:=aC;have Qh:C4 e.W k (Hm d.r ((q:Int)+1)):=by
        have:=HW.o;unfold pR at this;rw[if_neg zM,if_pos mG.o,oM] at this;exact this
       have mQ:=aD (show dR d.r ev=nL d.r ((q:Int)+1) by unfold dR;rw[if_neg zM,if_pos mG.o,oM]);have tN:=aD (show pR d.r ev=Hm d.r ((q:Int)+1) by unfold pR;rw[if_neg zM,if_pos mG.o,oM]);rw[oM];refine CR.cl H (cf_pick H A6.o HP.o.mr HP.o.i Qh hq z8 hK) (λK' l' y w' hl qM=>?_);simp only[cE,fS,dU,dW];obtain⟨z1,rfl,z3⟩:=qM;refine nP ?_;refine CR.mv H (.string ⟨(nL d.r ((q:Int)+1)).2.toArray⟩) ?_;refine CR.nil H ?_;refine CW.rt H ?_;obtain⟨v',z4,z5,z6,z7⟩:=z3;refine⟨.inr rfl,rfl,.string ⟨(nL d.r ((q:Int)+1)).2.toArray⟩,rfl,⟨by rw[tN.o];exact z1,by rw[mQ.o],v',by rw[mQ.o];exact z4,by rw[mQ.o];exact z5,T6.o.trans z6,z7⟩⟩
     .
       have rK:(ev.k.toList==[97,110,115,119,101,114])=false:=by
        have hz:¬ev.k.toList=[97,110,115,119,101,114]:=Y5;simpa using hz
       have zmL:=aD Y5;clear Y5;refine CW.sq H (CW.pW H Jq A5 T5 λw6 Q pT A6 T6 HQ=>?_);have Mj:=aD (pT▸Dx.o);go_wp2;refine HQ.o _ _ ?_;clear HQ
       try simp only[rK]
       clear rK;refine CW.cond H (t:=false) rfl Pg ?_;by_cases Zo:ev.k.toList=Dj
       .
         have rK:(ev.k.toList==[114,101,116,117,114,110])=true:=by rw[Zo];rfl
         have mG:=aD Zo;clear Zo;refine CW.sq H (CW.pW H Jq A6 T6 λw7 Q rS A7 T7 HQ=>?_);have H8:=aD (rS▸Mj.o);go_wp2;refine HQ.o _ _ ?_;clear HQ
         try simp only[rK]
         clear rK;refine CW.cond H (t:=true) rfl Pg ?_;refine CW.sq H ?_;refine CW.rg H [0,1,2,3,4] ?_;refine CR.mv H (.pointer (some ⟨hb,0,none⟩)) ?_;refine CR.mg H (.pointer (some ⟨gx,1,none⟩)) ?_;refine CR.mv H (.int .i64 ev.a) ?_ (hx:=λT=>by have hh:(Tt.tp w7 T 0).cell? _=_:=aI H8.o 1;unfold aO;go_simp)
         obtain⟨Qu,Cd⟩:1<=ev.a/\ev.a<=d.r.o.op:=by
          rcases zh9.o with h|h|⟨_,h⟩|h
          .rw[h.1] at mG;exact absurd mG.o aH
          .rw[h.1] at mG;exact absurd mG.o aH
          .exact⟨h.1,h.2.1⟩
          .rw[h.1] at mG;exact absurd mG.o aH
         obtain⟨q,oM⟩:∃q:Nat,ev.a=(q:Int)+1:=⟨(ev.a-1).toNat,aC⟩;have hq:q<d.qn.length:=aC;have z8:q<=100:=aC;have Qh:C4 e.W k (E0 d.r ((q:Int)+1)):=by
          have:=HW.o;unfold pR at this;rw[if_neg zM,if_neg zM,if_pos mG.o,oM] at this;exact this
         have mQ:=aD (show dR d.r ev=l9 d.r ((q:Int)+1) by unfold dR;rw[if_neg zM,if_neg zM,if_pos mG.o,oM]);have tN:=aD (show pR d.r ev=E0 d.r ((q:Int)+1) by unfold pR;rw[if_neg zM,if_neg zM,if_pos mG.o,oM]);rw[oM];refine CR.cl H (cf_back H A7.o HP.o.mr HP.o.i (eE HP.o.lo_ T7.o.size) Qh hq z8 hK) (λK' l' y w' hl qM=>?_);simp only[cE,fS,dU,dW];obtain⟨z1,rfl,z3⟩:=qM;refine nP ?_;refine CR.mv H (.string ⟨(l9 d.r ((q:Int)+1)).2.toArray⟩) ?_;refine CR.nil H ?_;refine CW.rt H ?_;obtain⟨v',z4,z5,z6,z7⟩:=z3;refine⟨.inr rfl,rfl,.string ⟨(l9 d.r ((q:Int)+1)).2.toArray⟩,rfl,⟨by rw[tN.o];exact z1,by rw[mQ.o],v',by rw[mQ.o];exact z4,by rw[mQ.o];exact z5,T7.o.trans z6,z7⟩⟩
       .
         have rK:(ev.k.toList==[114,101,116,117,114,110])=false:=by
          have hz:¬ev.k.toList=[114,101,116,117,114,110]:=Zo;simpa using hz
         have ziG:=aD Zo;clear Zo;refine CW.sq H (CW.pW H Jq A6 T6 λw7 Q rS A7 T7 HQ=>?_);have H8:=aD (rS▸Mj.o);go_wp2;refine HQ.o _ _ ?_;clear HQ
         try simp only[rK]
         clear rK;refine CW.cond H (t:=false) rfl Pg ?_;refine CW.sk H ?_;dsimp only
         obtain⟨Qu,Cd⟩:1<=ev.a/\ev.a<=60:=by
          rcases zh9.o with h|h|⟨h,_⟩|h
          .exact absurd h.1 zlU.o
          .exact absurd h.1 zk7.o
          .rcases h with h|h
           .exact absurd h zmL.o
           .exact absurd h ziG.o
          .exact⟨h.2.1,h.2.2.1⟩
         have mQ:=aD (show dR d.r ev=tK d.r ev.a by unfold dR;rw[if_neg zlU.o,if_neg zmL.o,if_neg ziG.o,if_neg zk7.o]);have tN:=aD (show pR d.r ev=[] by unfold pR;rw[if_neg zlU.o,if_neg zmL.o,if_neg ziG.o,if_neg zk7.o]);have zzC:=aD (λW (t:bT hb v w v W)=>HP.o.tab.turn HP.o.at_ HP.o.lo_ t);refine CW.sq H (CW.pW H Jq A7 T7 λw8 Q Jf A8 T8 HQ=>?_);have Jp:=aD (Jf▸H8.o);have kx:=aI Jp.o 1;have zLr:=aI Jp.o 0
         go_wp2_with (go_at_call 105;refine(zEz A8.o HP.o.mr HP.o.i (eE HP.o.lo_ T8.o.size) (zzC.o _ T8.o) aC (by have:=HP.o.clk;omega) HP.o.nbw).mono ?_;rintro en wz ⟨rfl,z3⟩;have Z3:=aD z3;clear z3)
         refine HQ.o _ _ ?_;clear HQ;refine CW.rt H ?_;obtain⟨v',z4,z5,z6,z7⟩:=Z3.o;refine⟨.inr rfl,rfl,.string ⟨(tK d.r ev.a).2.toArray⟩,rfl,⟨by rw[tN.o];rfl,by rw[mQ.o],v',by rw[mQ.o];exact z4,by rw[mQ.o];exact z5,T8.o.trans z6,z7⟩⟩
section
variable {ops:Array aZ}{ch:List Nat}{V0:Nat->aF}{vs:List aF}{t0 t:Array aF}
variable {s:Tmp}
theorem rG (KO:K6 ops){i:Nat}{o:aZ}{v:aF}(ho:ops[i]? =some o)(hd:o.dst=some s)(hz:s<t0.size)(hv:VV ch V0 vs i=v):(dM ops (VV ch V0 vs) t0).getD s aA=v:=by
 have h:=(Rv (vals:=VV ch V0 vs) (t0:=t0) KO).got i o s ho hd hz (by simp[(eM.1 ho).1]);rw[x4,h,hv];rfl
theorem zex (KO:K6 ops)(hs:Hk ops s=false):(dM ops (VV ch V0 vs) t0).getD s aA=t0.getD s undef:=by
 rw[x4,(Rv (vals:=VV ch V0 vs) (t0:=t0) KO).old s (λi o h1 _ h2=>by rw[zl1 h1 h2] at hs;cases hs),x4]
theorem Hq {o:aZ}(mI:∀s∈o.looksAt ops,t[s]? =(dM ops (VV ch V0 vs) t0)[s]?)(hs:s∈o.looksAt ops){v:aF}(h:(dM ops (VV ch V0 vs) t0).getD s aA=v):(bL t []).eval (.tmp s)=v:=by
 have e:(bL t []).eval (.tmp s)=t.getD s undef:=rfl;rw[e,x4,mI s hs,<-x4];exact h
end
def zil:Go.Code:=(Tryz.f58.body).getD .skip
def rWO3:Go.Code:=match zil with| .seq (.seq _ (.block _ (.loop (.seq _ (.seq _ (.seq (.block _ (.seq _ (a))) _)))))) _=>a|_=>.skip
def rWO8:Go.Code:=match zil with| .seq _ (.seq _ (.block _ (.loop (.seq _ (.seq _ (.seq (.block _ (.seq _ (.seq (a) _))) _))))))=>a|_=>.skip
def rWO9:Go.Code:=match zil with| .seq _ (.seq _ (.block _ (.loop (.seq _ (.seq _ (.seq (.block _ (.seq _ (.seq _ (a)))) _))))))=>a|_=>.skip
def lC:Array Oper:=match rWO3 with| .region _ ops _=>ops|_=>#[]
def rWO3_eq:rWO3=.region 3 lC true:=rfl
abbrev zuC:Oper:=aV lC 0 (some 14) (.move (.tmp 0))
def zFR:lC[0]? =some zuC:=rfl
abbrev zpF:Oper:=aV lC 1 (some 15) (.move (.tmp 0))
def zIr:lC[1]? =some zpF:=rfl
abbrev zpf:Oper:=aV lC 2 (some 16) (.nilCheck (.tmp 15))
def zy8:lC[2]? =some zpf:=rfl
abbrev zrd:Oper:=aV lC 3 (some 17) (.fieldAddr 72 (.tmp 16) 10)
def zDe:lC[3]? =some zrd:=rfl
abbrev zyZ:Oper:=aV lC 4 (some 18) (.load 26 (.tmp 17))
def zEW:lC[4]? =some zyZ:=rfl
abbrev zp2:Oper:=aV lC 5 (some 19) (.move (.tmp 0))
def zzz:lC[5]? =some zp2:=rfl
abbrev zqb:Oper:=aV lC 6 (some 20) (.load 54 (.tmp 5))
def zEn:lC[6]? =some zqb:=rfl
abbrev zs7:Oper:=aV lC 7 (some 21) (.call ⟨.value (.func 81),#[.tmp 19,.tmp 20],#[63,54]⟩)
def zkL:lC[7]? =some zs7:=rfl
abbrev zlp:Oper:=aV lC 8 (some 22) (.buildSlice 26 1 #[(0,.tmp 21)])
def zfV:lC[8]? =some zlp:=rfl
abbrev zpj:Oper:=aV lC 9 (some 23) (.call ⟨.builtin .append,#[.tmp 18,.tmp 22],#[26,26]⟩)
def zjQ:lC[9]? =some zpj:=rfl
abbrev zpR:Oper:=aV lC 10 (some 24) (.nilCheck (.tmp 14))
def zE6:lC[10]? =some zpR:=rfl
abbrev zpu:Oper:=aV lC 11 (some 25) (.fieldAddr 72 (.tmp 24) 10)
def zEf:lC[11]? =some zpu:=rfl
abbrev zl2:Oper:=aV lC 12 none (.store 26 (.tmp 25) (.tmp 23))
def ziT:lC[12]? =some zl2:=rfl
def jY:Array Oper:=match rWO8 with| .region _ ops _=>ops|_=>#[]
def rWO8_eq:rWO8=.region 8 jY true:=rfl
abbrev zvb:Oper:=aV jY 0 (some 37) (.move (.tmp 0))
def zDx:jY[0]? =some zvb:=rfl
abbrev zqH:Oper:=aV jY 1 (some 38) (.move (.tmp 0))
def zHF:jY[1]? =some zqH:=rfl
abbrev ztq:Oper:=aV jY 2 (some 39) (.nilCheck (.tmp 38))
def zE9:jY[2]? =some ztq:=rfl
abbrev zxW:Oper:=aV jY 3 (some 40) (.fieldAddr 72 (.tmp 39) 11)
def zzc:jY[3]? =some zxW:=rfl
abbrev zrV:Oper:=aV jY 4 (some 41) (.load 38 (.tmp 40))
def zCl:jY[4]? =some zrV:=rfl
abbrev zx7:Oper:=aV jY 5 (some 42) (.move (.tmp 0))
def zBD:jY[5]? =some zx7:=rfl
abbrev zyO:Oper:=aV jY 6 (some 43) (.move (.tmp 6))
def zC8:jY[6]? =some zyO:=rfl
abbrev zme:Oper:=aV jY 7 (some 44) (.binOp .add 3 (.tmp 43) (.const (.int .i64 1)) 3)
def zDi:jY[7]? =some zme:=rfl
abbrev ztK:Oper:=aV jY 8 (some 45) (.call ⟨.value (.func 82),#[.tmp 42,.tmp 44,.const (.int .i64 0),.const (.int .i64 0)],#[63,3,3,3]⟩)
def zii:jY[8]? =some ztK:=rfl
abbrev zmF:Oper:=aV jY 9 (some 46) (.buildSlice 38 1 #[(0,.tmp 45)])
def zg9:jY[9]? =some zmF:=rfl
abbrev zoz:Oper:=aV jY 10 (some 47) (.call ⟨.builtin .append,#[.tmp 41,.tmp 46],#[38,38]⟩)
def zm9:jY[10]? =some zoz:=rfl
abbrev zwJ:Oper:=aV jY 11 (some 48) (.nilCheck (.tmp 37))
def zBP:jY[11]? =some zwJ:=rfl
abbrev zv4:Oper:=aV jY 12 (some 49) (.fieldAddr 72 (.tmp 48) 11)
def zCQ:jY[12]? =some zv4:=rfl
abbrev zj5:Oper:=aV jY 13 none (.store 38 (.tmp 49) (.tmp 47))
def zj6:jY[13]? =some zj5:=rfl
def zpk:Array Oper:=match rWO9 with| .region _ ops _=>ops|_=>#[]
abbrev oWO9_1:Oper:=aV zpk 1 none (.call ⟨.builtin .close,#[.tmp 50],#[95]⟩)
def zHj:zpk[1]? =some oWO9_1:=rfl
def P7:xA aK 58:=⟨_,zna,.inl rfl⟩
def zEY:(aK.info? 9).map (λi=>(i.zero,i.size,i.bytes))=some (some (.string ⟨#[]⟩),1,16):=aU
variable {V:Nat->aF}{Tf:Array aF}
theorem bs3 {s:ByteArray}(hT:xO Tf V)(zK6:V 21=.string s):(aO (bL Tf []).eval zlp).run aK w=.ok (.value (.slice (some ⟨w.heap.size,0,none⟩) 1 1)) (w.alloc (.cells #[.string s] 9)):=by
 unfold aO;go_simp
variable {sA:aF}{T:kI}
theorem st3 {q1 q2:Nat}(hT:xO Tf V)(zJN:V 25=.pointer (some ⟨hb,12,none⟩))(zJ5:V 23=.slice (some ⟨q1,0,none⟩) n q2)(hh:w.cell? ⟨hb,12,none⟩=some sA)(hf:w.frozen? ⟨hb,12,none⟩=false):(aO (bL Tf []).eval zl2).run aK (Tt.tp w T 0)=.ok .skip (Tt.tp (w.setCell ⟨hb,12,none⟩ (.slice (some ⟨q1,0,none⟩) n q2)) T 0):=by
 have zhe:(Tt.tp w T 0).cell? ⟨hb,12,none⟩=some sA:=hh;have Ej:(Tt.tp w T 0).frozen? ⟨hb,12,none⟩=false:=hf;clear hh hf;unfold aO;go_simp
 try rfl
def zr9:Jo lC=true:=aU
def zEM:Nt lC [7,8,9,12]=true:=aU
def zIc:lC.toList.map (·.dst)=[some 14,some 15,some 16,some 17,some 18,some 19,some 20,some 21,some 22,some 23,some 24,some 25,none]:=rfl
def zAU:lC.toList=[zuC,zpF,zpf,zrd,zyZ,zp2,zqb,zs7,zlp,zpj,zpR,zpu,zl2]:=rfl
def Ip (hb gb:Nat)(sA:aF)(ev:dS)(i:Nat):Value:=([.pointer (some ⟨hb,0,none⟩),.pointer (some ⟨hb,0,none⟩),.pointer (some ⟨hb,0,none⟩),.pointer (some ⟨hb,12,none⟩),sA,.pointer (some ⟨hb,0,none⟩),.agg #[.string ev.k,.int .i64 ev.a,.int .i64 ev.b],aA,aA,aA,.pointer (some ⟨hb,0,none⟩),.pointer (some ⟨hb,12,none⟩),aA]:List aF).getD i aA
structure W3 where
 es:Hj
 lo:Nat
 hb:Nat
 gb:Nat
 k:Nat
 v0:fK
 w0:aE
 v:fK
 d:nZ
 ev:dS
 K0:Pr
def W3.P1 (c:W3)(w:aE):Prop:=∃v1,bF w c.lo c.hb v1 {c.d with r:=(dR c.d.r c.ev).1}/\gC v1 {c.d with r:=(dR c.d.r c.ev).1}/\bT c.hb c.v0 c.w0 v1 w/\Ba c.v v1/\some c.gb∉parts v1 c.hb
def W3.P2 (c:W3)(w:aE):Prop:=∃v2,bF w c.lo c.hb v2 {c.d with r:=Em (dR c.d.r c.ev)}/\gC v2 {c.d with r:=Em (dR c.d.r c.ev)}/\bT c.hb c.v0 c.w0 v2 w/\v2.sL=c.v.sL/\v2.sQ=c.v.sQ
def W3.y (c:W3):Value:=.string ⟨(dR c.d.r c.ev).2.toArray⟩
def W3.Rd (c:W3)(w:aE):Prop:=w.cell? ⟨c.hb,12,none⟩=some c.v.sA/\w.heap[c.gb]? =some (.cells #[.string c.ev.k,.int .i64 c.ev.a,.int .i64 c.ev.b] 54)
def W3.n1 (c:W3):Nat:=c.k+(pR c.d.r c.ev).length
def W3.St (c:W3)(vs:List aF)(l':gN)(w':aE):Prop:=match vs with
 |[]=>l'=.wk c.es.qs c.k/\EvPre c.lo c.hb c.v c.d w'/\bT c.hb c.v0 c.w0 c.v w'/\some c.gb∉parts c.v c.hb
 |[a]=>l'=.wk c.es.qs c.n1/\a=c.y/\c.P1 w'/\c.lo<=w'.heap.size
 |[a,b]=>l'=.wk c.es.qs c.n1/\(∃g,b=.slice (some ⟨g,0,none⟩) 1 1/\w'.heap[g]? =some (.cells #[c.y] 9))/\c.P1 w'/\c.lo<=w'.heap.size
 |[a,b,x]=>l'=.wk c.es.qs c.n1/\(∃q1 q2,x=.slice (some ⟨q1,0,none⟩) (c.d.r.log.length+1) q2)/\w'.frozen? ⟨c.hb,12,none⟩=false/\c.P2 (w'.setCell ⟨c.hb,12,none⟩ x)
 |_=>l'=.wk c.es.qs c.n1/\c.P2 w'
def SR3 (c:W3)(vs:List aF)(K':Pr)(l':gN)(w':aE):Prop:=c.K0.le K'/\(vs.length<4->c.Rd w')/\c.St vs l' w'
def EvPre.tp (h:EvPre lo hb v d w)(T:kI)(n:Nat):EvPre lo hb v d (Tt.tp w T n):=⟨h.at_.tp T n,h.mr,h.i,h.lo_,h.tab.keep λ_ _=>rfl,h.clk,h.nbw⟩
variable {c:W3}
theorem W3.P1.tp (h:c.P1 w)(T:kI)(n:Nat):c.P1 (Tt.tp w T n):=by
 obtain⟨v1,a,b,d,e⟩:=h;exact⟨v1,a.tp T n,b,d.tp T n,e⟩
theorem W3.P2.tp (h:c.P2 w)(T:kI)(n:Nat):c.P2 (Tt.tp w T n):=by
 obtain⟨v1,a,b,d,e⟩:=h;exact⟨v1,a.tp T n,b,d.tp T n,e⟩
theorem SR3.tp (vs:List aF)(K':Pr)(l':gN)(w':aE)(T:kI)(n:Nat)(h:SR3 c vs K' l' w'):SR3 c vs K' l' (Tt.tp w' T n):=by
 obtain⟨h1,h2,h3⟩:=h;refine⟨h1,h2,?_⟩;rcases vs with _|⟨a,_|⟨b,_|⟨x,_|⟨y,vs⟩⟩⟩⟩
 .exact⟨h3.1,h3.2.1.tp T n,h3.2.2.1.tp T n,h3.2.2.2⟩
 .exact⟨h3.1,h3.2.1,h3.2.2.1.tp T n,h3.2.2.2⟩
 .exact⟨h3.1,h3.2.1,h3.2.2.1.tp T n,h3.2.2.2⟩
 .exact⟨h3.1,h3.2.1,h3.2.2.1,W3.P2.tp (w:=w'.setCell _ _) h3.2.2.2 T n⟩
 .exact⟨h3.1,W3.P2.tp h3.2 T n⟩
variable {B:List Nat}{Φ:oP->WS->Prop}
theorem cw_R3 (H:c.es.d.Ok)(nH:rB c.d.r.o.op c.ev=true)(hW:C4 c.es.W c.k (pR c.d.r c.ev))(hK:∀(i g:Nat),c.d.qn[i]? =some g->c.K0 g (qa c.es.qs i))(zky:(dR c.d.r c.ev).1.log.length<=1000)(ztd:(dR c.d.r c.ev).1.log=c.d.r.log)(hz:t0.size=52)(vL:t0.getD 0 aA=.pointer (some ⟨c.hb,0,none⟩))(zBr:t0.getD 5 aA=.pointer (some ⟨c.gb,0,none⟩))
 (hk:∀vs K' l' w',vs.length=4->SR3 c vs K' l' w'->Φ .normal ⟨[],K',l',dM lC (VV [7,8,9,12] (Ip c.hb c.gb c.v.sA c.ev) vs) t0,w'⟩) (h0:SR3 c [] K l w):CW c.es.d B 58 rWO3 ⟨[],K,l,t0,w⟩ Φ:=by
 rw[rWO3_eq];have KO:=Ss zr9;refine CW.drawn H vR.mixed [7,8,9,12] (Ip c.hb c.gb c.v.sA c.ev) (SR3 c) zr9 zEM K9 (λvs K l w T e h=>SR3.tp vs K l w T e h) (λi o ho hi=>?_) (λvs ci o K' l' w' hc ho hS t rest mI gG=>?_) hk h0
 .have hl:lC.toList[i]? =some o:=by rw[C3];exact ho
  rw[zAU] at hl;have aT:i<13:=by have:=(lX.1 hl).1;simpa using this
  have tn:∀(vs:List aF) {j:Nat} {oj:aZ} {s:Tmp} {v:aF},lC[j]? =some oj->oj.dst=some s->s<t0.size->VV [7,8,9,12] (Ip c.hb c.gb c.v.sA c.ev) vs j=v->(dM lC (VV [7,8,9,12] (Ip c.hb c.gb c.v.sA c.ev) vs) t0).getD s aA=v:=λvs _ _ _ _ a b c d=>rG KO a b c d;have tq:∀(vs:List aF) {s:Tmp},Hk lC s=false->(dM lC (VV [7,8,9,12] (Ip c.hb c.gb c.v.sA c.ev) vs) t0).getD s aA=t0.getD s undef:=λvs _ a=>zex KO a;rcases i with _|_|_|_|_|_|_|_|_|_|_|_|_|i
  .obtain rfl:=cS hl
   exact⟨aU,λvs K' l' w' hv hS=>⟨eJ rfl,vP (.pointer (some ⟨c.hb,0,none⟩)) ((tq vs aU).trans vL)⟩⟩
  .obtain rfl:=cS hl
   exact⟨aU,λvs K' l' w' hv hS=>⟨eJ rfl,vP (.pointer (some ⟨c.hb,0,none⟩)) ((tq vs aU).trans vL)⟩⟩
  .obtain rfl:=cS hl
   exact⟨aU,λvs K' l' w' hv hS=>⟨eJ rfl,vP (.pointer (some ⟨c.hb,0,none⟩)) (tn vs zIr rfl kM rfl)⟩⟩
  .obtain rfl:=cS hl
   exact⟨aU,λvs K' l' w' hv hS=>⟨eJ rfl,vP (.pointer (some ⟨c.hb,12,none⟩)) (tn vs zy8 rfl kM rfl)⟩⟩
  .obtain rfl:=cS hl
   exact⟨aU,λvs K' l' w' hv hS=>⟨eJ rfl,rd2 (c.v.sA) (tn vs zDe rfl kM rfl) (hS.2.1 hv).1⟩⟩
  .obtain rfl:=cS hl
   exact⟨aU,λvs K' l' w' hv hS=>⟨eJ rfl,vP (.pointer (some ⟨c.hb,0,none⟩)) ((tq vs aU).trans vL)⟩⟩
  .obtain rfl:=cS hl
   exact⟨aU,λvs K' l' w' hv hS=>⟨eJ rfl,rd4 (.agg #[.string c.ev.k,.int .i64 c.ev.a,.int .i64 c.ev.b]) ((tq vs aU).trans zBr) (aI (hS.2.1 hv).2 0) (aI (hS.2.1 hv).2 1) (aI (hS.2.1 hv).2 2)⟩⟩
  .exact absurd aH hi
  .exact absurd aH hi
  .exact absurd aH hi
  .obtain rfl:=cS hl
   exact⟨aU,λvs K' l' w' hv hS=>⟨eJ rfl,vP (.pointer (some ⟨c.hb,0,none⟩)) (tn vs zFR rfl kM rfl)⟩⟩
  .obtain rfl:=cS hl
   exact⟨aU,λvs K' l' w' hv hS=>⟨eJ rfl,vP (.pointer (some ⟨c.hb,12,none⟩)) (tn vs zE6 rfl kM rfl)⟩⟩
  .exact absurd aH hi
  .omega
 .rcases vs with _|⟨a,_|⟨b,_|⟨c',_|⟨d',vs⟩⟩⟩⟩
  .obtain rfl:7=ci:=by simpa using hc
   rw[zkL] at ho;obtain rfl:=cS ho;obtain⟨s1,s2,s3,s4,s5,s6⟩:=hS;have zD1:=Hq mI (s:=19) aH (rG KO zzz rfl kM rfl);have a20:=Hq mI (s:=20) aH (rG KO zEn rfl kM rfl);refine CR.call' H #[.pointer (some ⟨c.hb,0,none⟩),.agg #[.string c.ev.k,.int .i64 c.ev.a,.int .i64 c.ev.b]] zkL (eJ rfl) rfl (allx rfl) rfl (by simp only[uP,jO,uN];rw[zD1,a20];rfl) (s3▸zE7 H s4 nH hW (λi g hg=>s1 _ _ (hK i g hg))) (λK2 l2 y w2 hl qM=>?_);obtain⟨z1,z2,v1,z3,z4,z5,z6⟩:=qM;have fA:=s4.at_.turned z5 (s2 aQ).2 s6;refine gG y K2 l2 w2 hl ⟨wZ s1 hl,λ_=>⟨?_,fA.1⟩,z1,z2,⟨v1,z3,z4,s5.trans z5,z6,fA.2⟩,eE s4.lo_ z5.size⟩;have:=aI z3.blk 12;rw[this,<-z6.2.2.1];rfl
  .obtain rfl:8=ci:=by simpa using hc
   rw[zfV] at ho;obtain rfl:=cS ho;obtain⟨s1,s2,s3,rfl,⟨v1,z3,z4,z5,z6,z7⟩,s6⟩:=hS;have zHN:(dM lC (VV [7,8,9,12] (Ip c.hb c.gb c.v.sA c.ev) [c.y]) t0).getD 21 aA=c.y:=rG KO zkL rfl kM rfl;refine CR.op H zfV (eJ rfl) aU (λT=>⟨.slice (some ⟨w'.heap.size,0,none⟩) 1 1,(Tt.tp w' T 0).alloc (.cells #[c.y] 9),.inl ?_,?_⟩)
   .rw[Fs (KO.sel 8 _ zfV) mI]
    have hT:xO (dM lC (VV [7,8,9,12] (Ip c.hb c.gb c.v.sA c.ev) [c.y]) t0) (λs=>(dM lC (VV [7,8,9,12] (Ip c.hb c.gb c.v.sA c.ev) [c.y]) t0).getD s aA):=λs=>rfl;exact bs3 (s:=⟨(dR c.d.r c.ev).2.toArray⟩) hT zHN
   .have al:bT c.hb v1 w' v1 ((Tt.tp w' T 0).alloc (.cells #[c.y] 9)):=(bT.refl.tp T 0).trans (bT.below (eK (gD _ _) _))
    exact gG _ _ _ _ (yG _) ⟨s1,λ_=>⟨B6 (s2 aQ).1 _,dH (s2 aQ).2 _⟩,s3,⟨_,rfl,gV _ _⟩,⟨v1,(z3.tp T 0).alloc _,z4,z5.trans al,z6,z7⟩,eE s6 zh2⟩
  .obtain rfl:9=ci:=by simpa using hc
   rw[zjQ] at ho;obtain rfl:=cS ho;obtain⟨s1,s2,s3,⟨g,rfl,hg⟩,⟨v1,z3,z4,z5,z6,z7⟩,s6⟩:=hS;have zEE:=Hq mI (s:=18) aH (rG KO zEW rfl kM rfl);have zEJ:=Hq mI (s:=22) aH (rG KO zfV rfl kM rfl);refine CR.op H zjQ (eJ rfl) aU (λT=>?_);have a1:=z3.tp T 0;have o7:=a1.A;rw[z6.2.2.1] at o7;obtain⟨q1,q2,w5,fQ,cY,mV,eO⟩:=Ns (w:=Tt.tp w' T 0) (t:=26) (ty:=26) zEY Tryz.underlying26 rfl aH o7 (g:=g) (cs:=#[c.y]) (news:=[c.y]) hg rfl (m:=1) rfl aH Lz (show(dR c.d.r c.ev).1.log.length+1<=1000000 by omega) aH s6;have Ko:({c.d with r:=(dR c.d.r c.ev).1}:nZ).r.log.length=c.d.r.log.length:=by show(dR c.d.r c.ev).1.log.length=_;rw[ztd]
   rw[Ko] at fQ cY eO;have zjX:(Tt.tp w' T 0).grownBy w5 v1.sA.ownBlock:=by rw[z6.2.2.1];exact mV
   obtain⟨a6,t6⟩:=a1.putA zjX (xs:=(dR c.d.r c.ev).1.log++[(dR c.d.r c.ev).2]) (by have e:wF ((dR c.d.r c.ev).1.log++[(dR c.d.r c.ev).2])=wF (dR c.d.r c.ev).1.log++[c.y]:=(by simp[wF,txt,W3.y]);rw[e];exact cY) (by rw[j5,ztd];rfl) (by rw[z6.2.2.1];exact eO);have zay:=a1.other (j:=9) (c:=12) (x:=v1.sA) rfl aH zjX (.slice (some ⟨q1,0,none⟩) (c.d.r.log.length+1) q2);have yX:=zay.2.trans a1.blk;have fA:w5.heap[c.gb]? =some _:=(zjX.block c.gb (gM (s2 aQ).2) (λe=>z7 (eI (i:=9) (show(parts v1 c.hb)[9]? =some (some c.gb) by rw[e];rfl)))).trans (s2 aQ).2;refine⟨_,w5,.inl (X8 rfl zEE zEJ fQ),gG _ _ _ _ (yG _) ⟨s1,λ_=>⟨?_,fA⟩,s3,⟨q1,q2,rfl⟩,fC yX 12,_,a6,?_,z5.trans ((bT.refl.tp T 0).trans t6),?_,?_⟩⟩
   .have:=aI yX 12
    rw[this,<-z6.2.2.1];rfl
   .refine gC.of z4 ?_ ?_ ?_ ?_ ?_<;>rfl
   .exact z6.1
   .exact z6.2.1
  .obtain rfl:12=ci:=by simpa using hc
   rw[ziT] at ho;obtain rfl:=cS ho;obtain⟨s1,s2,s3,⟨q1,q2,rfl⟩,oC,zH⟩:=hS;have zD6:(dM lC (VV [7,8,9,12] (Ip c.hb c.gb c.v.sA c.ev) [a,b,.slice (some ⟨q1,0,none⟩) (c.d.r.log.length+1) q2]) t0).getD 23 aA=.slice (some ⟨q1,0,none⟩) (c.d.r.log.length+1) q2:=rG KO zjQ rfl kM rfl;have zEg:(dM lC (VV [7,8,9,12] (Ip c.hb c.gb c.v.sA c.ev) [a,b,.slice (some ⟨q1,0,none⟩) (c.d.r.log.length+1) q2]) t0).getD 25 aA=.pointer (some ⟨c.hb,12,none⟩):=rG KO zEf rfl kM rfl;refine CR.op H ziT (eJ rfl) aU (λT=>⟨aA,Tt.tp (w'.setCell ⟨c.hb,12,none⟩ (.slice (some ⟨q1,0,none⟩) (c.d.r.log.length+1) q2)) T 0,.inr ⟨?_,rfl⟩,?_⟩)
   .rw[Fs (KO.sel 12 _ ziT) mI]
    have hT:xO (dM lC (VV [7,8,9,12] (Ip c.hb c.gb c.v.sA c.ev) [a,b,.slice (some ⟨q1,0,none⟩) (c.d.r.log.length+1) q2]) t0) (λs=>(dM lC (VV [7,8,9,12] (Ip c.hb c.gb c.v.sA c.ev) [a,b,.slice (some ⟨q1,0,none⟩) (c.d.r.log.length+1) q2]) t0).getD s aA):=λs=>rfl;exact st3 hT zEg zD6 (s2 aQ).1 oC
   .exact gG aA _ _ _ (yG _) ⟨s1,λh=>absurd h aQ,s3,W3.P2.tp zH T 0⟩
  .simp at hc
theorem bs8 {s:Int}(hT:xO Tf V)(zlV:V 45=.int .i64 s):(aO (bL Tf []).eval zmF).run aK w=.ok (.value (.slice (some ⟨w.heap.size,0,none⟩) 1 1)) (w.alloc (.cells #[.int .i64 s] 3)):=by
 unfold aO;go_simp
theorem st8 {q1 q2:Nat}(hT:xO Tf V)(Xn:V 49=.pointer (some ⟨hb,13,none⟩))(zdN:V 47=.slice (some ⟨q1,0,none⟩) n q2)(hh:w.cell? ⟨hb,13,none⟩=some sA)(hf:w.frozen? ⟨hb,13,none⟩=false):(aO (bL Tf []).eval zj5).run aK (Tt.tp w T 0)=.ok .skip (Tt.tp (w.setCell ⟨hb,13,none⟩ (.slice (some ⟨q1,0,none⟩) n q2)) T 0):=by
 have zhe:(Tt.tp w T 0).cell? ⟨hb,13,none⟩=some sA:=hh;have Ej:(Tt.tp w T 0).frozen? ⟨hb,13,none⟩=false:=hf;clear hh hf;unfold aO;go_simp
 try rfl
def zuJ:Jo jY=true:=aU
def zGV:Nt jY [8,9,10,13]=true:=aU
def zJc:jY.toList.map (·.dst)=[some 37,some 38,some 39,some 40,some 41,some 42,some 43,some 44,some 45,some 46,some 47,some 48,some 49,none]:=rfl
def zHp:jY.toList=[zvb,zqH,ztq,zxW,zrV,zx7,zyO,zme,ztK,zmF,zoz,zwJ,zv4,zj5]:=rfl
def Fj (hb q:Nat)(sT:aF)(i:Nat):Value:=([.pointer (some ⟨hb,0,none⟩),.pointer (some ⟨hb,0,none⟩),.pointer (some ⟨hb,0,none⟩),.pointer (some ⟨hb,13,none⟩),sT,.pointer (some ⟨hb,0,none⟩),.int .i64 (q:Int),.int .i64 ((q:Int)+1),aA,aA,aA,.pointer (some ⟨hb,0,none⟩),.pointer (some ⟨hb,13,none⟩),aA]:List aF).getD i aA
theorem rdR8_7 {q:Nat}{sT:aF}(hT:xO Tf V)(znT:V 43=.int .i64 (q:Int))(zJD:q<=100):(aO (bL Tf []).eval zme).run aK w=.ok (.value (.int .i64 ((q:Int)+1))) w:=by
 unfold aO;go_simp;exact Gd aC aC
structure W8 where
 es:Hj
 lo:Nat
 hb:Nat
 q:Nat
 k:Nat
 ans:Int
 v0:fK
 w0:aE
 v:fK
 d:nZ
 K0:Pr
def W8.P1 (c:W8)(w:aE):Prop:=bF w c.lo c.hb c.v c.d/\bT c.hb c.v0 c.w0 c.v w/\c.lo<=w.heap.size
def W8.P2 (c:W8)(w:aE):Prop:=∃v2,bF w c.lo c.hb v2 {c.d with tk:=c.d.tk++[c.ans]}/\gC v2 {c.d with tk:=c.d.tk++[c.ans]}/\bT c.hb c.v0 c.w0 v2 w/\v2.sL=c.v.sL/\v2.sQ=c.v.sQ
def W8.y (c:W8):Value:=.int .i64 c.ans
def W8.Rd (c:W8)(w:aE):Prop:=w.cell? ⟨c.hb,13,none⟩=some c.v.sT
def W8.St (c:W8)(vs:List aF)(l':gN)(w':aE):Prop:=match vs with
 |[]=>l'=.wk c.es.qs c.k/\c.P1 w'
 |[a]=>l'=.wk c.es.qs (c.k+1)/\a=c.y/\c.P1 w'
 |[a,b]=>l'=.wk c.es.qs (c.k+1)/\(∃g,b=.slice (some ⟨g,0,none⟩) 1 1/\w'.heap[g]? =some (.cells #[c.y] 3))/\c.P1 w'
 |[a,b,x]=>l'=.wk c.es.qs (c.k+1)/\(∃q1 q2,x=.slice (some ⟨q1,0,none⟩) (c.d.tk.length+1) q2)/\w'.frozen? ⟨c.hb,13,none⟩=false/\c.P2 (w'.setCell ⟨c.hb,13,none⟩ x)
 |_=>l'=.wk c.es.qs (c.k+1)/\c.P2 w'
def SR8 (c:W8)(vs:List aF)(K':Pr)(l':gN)(w':aE):Prop:=c.K0.le K'/\(vs.length<4->c.Rd w')/\c.St vs l' w'
variable {c:W8}
def W8.P1.tp (h:c.P1 w)(T:kI)(n:Nat):c.P1 (Tt.tp w T n):=⟨h.1.tp T n,h.2.1.tp T n,h.2.2⟩
theorem W8.P2.tp (h:c.P2 w)(T:kI)(n:Nat):c.P2 (Tt.tp w T n):=by
 obtain⟨v1,a,b,d,e⟩:=h;exact⟨v1,a.tp T n,b,d.tp T n,e⟩
theorem SR8.tp (vs:List aF)(K':Pr)(l':gN)(w':aE)(T:kI)(n:Nat)(h:SR8 c vs K' l' w'):SR8 c vs K' l' (Tt.tp w' T n):=by
 obtain⟨h1,h2,h3⟩:=h;refine⟨h1,h2,?_⟩;rcases vs with _|⟨a,_|⟨b,_|⟨x,_|⟨y,vs⟩⟩⟩⟩
 .exact⟨h3.1,W8.P1.tp h3.2 T n⟩
 .exact⟨h3.1,h3.2.1,W8.P1.tp h3.2.2 T n⟩
 .exact⟨h3.1,h3.2.1,W8.P1.tp h3.2.2 T n⟩
 .exact⟨h3.1,h3.2.1,h3.2.2.1,W8.P2.tp (w:=w'.setCell _ _) h3.2.2.2 T n⟩
 .exact⟨h3.1,W8.P2.tp h3.2 T n⟩
theorem cw_R8 (H:c.es.d.Ok)(zB3:gC c.v c.d)(hW:c.es.W[c.k]? =some (.ask c.q 0 0 c.ans))(hq:c.q<c.d.qn.length)(z8:c.q<=100)(hK:∀(i g:Nat),c.d.qn[i]? =some g->c.K0 g (qa c.es.qs i))(zky:c.d.tk.length<=1000)(hz:t0.size=52)(vL:t0.getD 0 aA=.pointer (some ⟨c.hb,0,none⟩))(zcE:t0.getD 6 aA=.int .i64 (c.q:Int))
 (hk:∀vs K' l' w',vs.length=4->SR8 c vs K' l' w'->Φ .normal ⟨[],K',l',dM jY (VV [8,9,10,13] (Fj c.hb c.q c.v.sT) vs) t0,w'⟩) (h0:SR8 c [] K l w):CW c.es.d B 58 rWO8 ⟨[],K,l,t0,w⟩ Φ:=by
 rw[rWO8_eq];have KO:=Ss zuJ;refine CW.drawn H vR.mixed [8,9,10,13] (Fj c.hb c.q c.v.sT) (SR8 c) zuJ zGV K9 (λvs K l w T e h=>SR8.tp vs K l w T e h) (λi o ho hi=>?_) (λvs ci o K' l' w' hc ho hS t rest mI gG=>?_) hk h0
 .have hl:jY.toList[i]? =some o:=by rw[C3];exact ho
  rw[zHp] at hl;have aT:i<14:=by have:=(lX.1 hl).1;simpa using this
  have tn:∀(vs:List aF) {j:Nat} {oj:aZ} {s:Tmp} {v:aF},jY[j]? =some oj->oj.dst=some s->s<t0.size->VV [8,9,10,13] (Fj c.hb c.q c.v.sT) vs j=v->(dM jY (VV [8,9,10,13] (Fj c.hb c.q c.v.sT) vs) t0).getD s aA=v:=λvs _ _ _ _ a b c d=>rG KO a b c d;have tq:∀(vs:List aF) {s:Tmp},Hk jY s=false->(dM jY (VV [8,9,10,13] (Fj c.hb c.q c.v.sT) vs) t0).getD s aA=t0.getD s undef:=λvs _ a=>zex KO a;rcases i with _|_|_|_|_|_|_|_|_|_|_|_|_|_|i
  .obtain rfl:=cS hl
   exact⟨aU,λvs K' l' w' hv hS=>⟨eJ rfl,vP (.pointer (some ⟨c.hb,0,none⟩)) ((tq vs aU).trans vL)⟩⟩
  .obtain rfl:=cS hl
   exact⟨aU,λvs K' l' w' hv hS=>⟨eJ rfl,vP (.pointer (some ⟨c.hb,0,none⟩)) ((tq vs aU).trans vL)⟩⟩
  .obtain rfl:=cS hl
   exact⟨aU,λvs K' l' w' hv hS=>⟨eJ rfl,vP (.pointer (some ⟨c.hb,0,none⟩)) (tn vs zHF rfl kM rfl)⟩⟩
  .obtain rfl:=cS hl
   exact⟨aU,λvs K' l' w' hv hS=>⟨eJ rfl,vP (.pointer (some ⟨c.hb,13,none⟩)) (tn vs zE9 rfl kM rfl)⟩⟩
  .obtain rfl:=cS hl
   exact⟨aU,λvs K' l' w' hv hS=>⟨eJ rfl,rd2 (c.v.sT) (tn vs zzc rfl kM rfl) (show w'.cell? ⟨c.hb,13,none⟩=some c.v.sT from(hS.2.1 hv))⟩⟩
  .obtain rfl:=cS hl
   exact⟨aU,λvs K' l' w' hv hS=>⟨eJ rfl,vP (.pointer (some ⟨c.hb,0,none⟩)) ((tq vs aU).trans vL)⟩⟩
  .obtain rfl:=cS hl
   exact⟨aU,λvs K' l' w' hv hS=>⟨eJ rfl,vP (.int .i64 (c.q:Int)) ((tq vs aU).trans zcE)⟩⟩
  .obtain rfl:=cS hl
   exact⟨aU,λvs K' l' w' hv hS=>⟨eJ rfl,rdR8_7 (q:=c.q) (sT:=c.v.sT) (V:=λs=>(dM jY (VV [8,9,10,13] (Fj c.hb c.q c.v.sT) vs) t0).getD s aA) (λs=>rfl) (tn vs zC8 rfl kM rfl) z8⟩⟩
  .exact absurd aH hi
  .exact absurd aH hi
  .exact absurd aH hi
  .obtain rfl:=cS hl
   exact⟨aU,λvs K' l' w' hv hS=>⟨eJ rfl,vP (.pointer (some ⟨c.hb,0,none⟩)) (tn vs zDx rfl kM rfl)⟩⟩
  .obtain rfl:=cS hl
   exact⟨aU,λvs K' l' w' hv hS=>⟨eJ rfl,vP (.pointer (some ⟨c.hb,13,none⟩)) (tn vs zBP rfl kM rfl)⟩⟩
  .exact absurd aH hi
  .omega
 .rcases vs with _|⟨a,_|⟨b,_|⟨c',_|⟨d',vs⟩⟩⟩⟩
  .obtain rfl:8=ci:=by simpa using hc
   rw[zii] at ho;obtain rfl:=cS ho;obtain⟨s1,s2,s3,s4⟩:=hS;have zzu:=Hq mI (s:=42) aH (rG KO zBD rfl kM rfl);have zGj:=Hq mI (s:=44) aH (rG KO zDi rfl kM rfl);refine CR.call' H #[.pointer (some ⟨c.hb,0,none⟩),.int .i64 ((c.q:Int)+1),.int .i64 0,.int .i64 0] zii (eJ rfl) rfl (allx rfl) rfl (by simp only[uP,jO,uN];rw[zzu,zGj];rfl) (s3▸zdh H s4.1 hW hq z8 (λi g hg=>s1 _ _ (hK i g hg))) (λK2 l2 y w2 hl qM=>?_);obtain⟨z1,rfl,z3⟩:=qM;subst z3;exact gG _ K2 l2 _ hl ⟨wZ s1 hl,λ_=>B6 (s2 aQ) _,z1,rfl,s4.1.alloc _,s4.2.1.trans (bT.below (eK (gD _ _) _)),eE s4.2.2 (by show w'.heap.size<=(w'.alloc pK).heap.size;rw[qT];exact zg2 _)⟩
  .obtain rfl:9=ci:=by simpa using hc
   rw[zg9] at ho;obtain rfl:=cS ho;obtain⟨s1,s2,s3,rfl,z3,z5,s6⟩:=hS;have zCe:(dM jY (VV [8,9,10,13] (Fj c.hb c.q c.v.sT) [c.y]) t0).getD 45 aA=c.y:=rG KO zii rfl kM rfl;refine CR.op H zg9 (eJ rfl) aU (λT=>⟨.slice (some ⟨w'.heap.size,0,none⟩) 1 1,(Tt.tp w' T 0).alloc (.cells #[c.y] 3),.inl ?_,?_⟩)
   .rw[Fs (KO.sel 9 _ zg9) mI]
    have hT:xO (dM jY (VV [8,9,10,13] (Fj c.hb c.q c.v.sT) [c.y]) t0) (λs=>(dM jY (VV [8,9,10,13] (Fj c.hb c.q c.v.sT) [c.y]) t0).getD s aA):=λs=>rfl;exact bs8 hT zCe
   .have al:bT c.hb c.v w' c.v ((Tt.tp w' T 0).alloc (.cells #[c.y] 3)):=(bT.refl.tp T 0).trans (bT.below (eK (gD _ _) _))
    exact gG _ _ _ _ (yG _) ⟨s1,λ_=>B6 (s2 aQ) _,s3,⟨_,rfl,gV _ _⟩,(z3.tp T 0).alloc _,z5.trans al,eE s6 zh2⟩
  .obtain rfl:10=ci:=by simpa using hc
   rw[zm9] at ho;obtain rfl:=cS ho;obtain⟨s1,s2,s3,⟨g,rfl,hg⟩,z3,z5,s6⟩:=hS;have zJd:=Hq mI (s:=41) aH (rG KO zCl rfl kM rfl);have a46:=Hq mI (s:=46) aH (rG KO zg9 rfl kM rfl);refine CR.op H zm9 (eJ rfl) aU (λT=>?_);have a1:=z3.tp T 0;obtain⟨q1,q2,w5,fQ,cY,mV,eO⟩:=Ns (w:=Tt.tp w' T 0) (t:=38) (ty:=38) Ye X4 rfl aH a1.T (g:=g) (cs:=#[c.y]) (news:=[c.y]) hg rfl (m:=1) rfl aH Lz aC aH s6;obtain⟨a6,t6⟩:=a1.putT mV (xs:=c.d.tk++[c.ans]) (by have e:fN (c.d.tk++[c.ans])=fN c.d.tk++[c.y]:=(by simp[fN,W8.y]);rw[e];exact cY) aQ eO;have yX:=(a1.other (j:=10) (c:=13) (x:=c.v.sT) rfl aH mV (.slice (some ⟨q1,0,none⟩) (c.d.tk.length+1) q2)).2.trans a1.blk;refine⟨_,w5,.inl (X8 rfl zJd a46 fQ),gG _ _ _ _ (yG _) ⟨s1,λ_=>aI yX 13,s3,⟨q1,q2,rfl⟩,fC yX 13,_,a6,?_,z5.trans ((bT.refl.tp T 0).trans t6),rfl,rfl⟩⟩;refine gC.of zB3 ?_ ?_ ?_ ?_ ?_<;>rfl
  .obtain rfl:13=ci:=by simpa using hc
   rw[zj6] at ho;obtain rfl:=cS ho;obtain⟨s1,s2,s3,⟨q1,q2,rfl⟩,oC,zH⟩:=hS;have zIy:(dM jY (VV [8,9,10,13] (Fj c.hb c.q c.v.sT) [a,b,.slice (some ⟨q1,0,none⟩) (c.d.tk.length+1) q2]) t0).getD 47 aA=.slice (some ⟨q1,0,none⟩) (c.d.tk.length+1) q2:=rG KO zm9 rfl kM rfl;have zIL:(dM jY (VV [8,9,10,13] (Fj c.hb c.q c.v.sT) [a,b,.slice (some ⟨q1,0,none⟩) (c.d.tk.length+1) q2]) t0).getD 49 aA=.pointer (some ⟨c.hb,13,none⟩):=rG KO zCQ rfl kM rfl;refine CR.op H zj6 (eJ rfl) aU (λT=>⟨aA,Tt.tp (w'.setCell ⟨c.hb,13,none⟩ (.slice (some ⟨q1,0,none⟩) (c.d.tk.length+1) q2)) T 0,.inr ⟨?_,rfl⟩,?_⟩)
   .rw[Fs (KO.sel 13 _ zj6) mI]
    have hT:xO (dM jY (VV [8,9,10,13] (Fj c.hb c.q c.v.sT) [a,b,.slice (some ⟨q1,0,none⟩) (c.d.tk.length+1) q2]) t0) (λs=>(dM jY (VV [8,9,10,13] (Fj c.hb c.q c.v.sT) [a,b,.slice (some ⟨q1,0,none⟩) (c.d.tk.length+1) q2]) t0).getD s aA):=λs=>rfl;exact st8 hT zIL zIy (s2 aQ) oC
   .exact gG aA _ _ _ (yG _) ⟨s1,λh=>absurd h aQ,s3,W8.P2.tp zH T 0⟩
  .simp at hc
def Im (b:b6):Prop:=∀x∈b.recs,1<=x.l/\x.l<=b.o.ln
theorem Im.mod (h:Im b)(hf:∀x,(f x).l=x.l):∀x∈b.recs.modify i f,1<=x.l/\x.l<=b.o.ln:=λx hx=>by
 obtain⟨y,hy,rfl|rfl⟩:=Uf hx
 .exact h _ hy
 .rw[hf];exact h _ hy
theorem Im.tires:∀(xs:List bH) (b:b6) (t:List UInt8),Im b->Im (xs.foldl mD (b,t)).1
 |[],b,t,h=>h
 |x::xs,b,t,h=>by
  rw[List.foldl_cons];obtain⟨e1,_,_,_,_,_,e7⟩:=znc b t x;have h1:Im (mD (b,t) x).1:=λz hz=>by
   obtain⟨y,hy,_,e⟩:=e7 z hz;rw[e,e1];exact h y hy
  obtain⟨b',t',e⟩:∃b' t',mD (b,t) x=(b',t'):=⟨_,_,rfl⟩;rw[e] at h1⊢;exact Im.tires xs b' t' h1
theorem Im.step (h:Im b)(e:dS):Im (dR b e).1:=by
 have more:∀{l:Int} {ls:List Int} {c o f hh tt:Int} {s:ByteArray},oX b.o b.recs=l::ls->∀x∈b.recs++[(⟨c,l,o,f,hh,tt,s⟩:bO)],1<=x.l/\x.l<=b.o.ln:=λhf x hx=>by
  rcases List.mem_append.1 hx with hx|hx
  .exact h x hx
  .obtain rfl:=List.mem_singleton.1 hx
   exact X0 Lc
 unfold dR;split
 .unfold o8
  split
  .exact h
  .split
   .exact h
   .rename_i hf;exact more hf
 .split
  .unfold nL
   split
   .exact h
   .split
    .exact h
    .split
     .exact h
     .exact h.mod λx=>rfl
  .split
   .unfold l9
    split
    .exact h
    .split
     .exact h
     .split
      .exact h
      .rename_i hf;exact more hf
   .split
    .unfold mP
     split
     .split
      .exact h.mod λx=>rfl
      .exact h.mod λx=>rfl
     .split
      .exact h
      .exact h
    .exact Im.tires _ _ _ h
variable {o:fG}{es:List dS}
theorem zoX :∀k,k<=es.length->Im (jH o es k)
 |0,_=>λx hx=>by cases hx
 |k+1,hk=>by
  rw[Ty (oQ aC)];exact(zoX k aC).step _
variable {ln qn:List Nat}
theorem zsl (h:eG o es=true)(hk:k<=es.length){tk:List Int}(h1:ln.Nodup)(h2:(ln.length:Int)=o.ln)(h3:(qn.length:Int)=o.op):zJ ⟨jH o es k,ln,qn,tk⟩:=by
 obtain⟨a1,a2,a3⟩:=Hh h k hk;have hop:o.op=(o.op.toNat:Int):=by
  have:=(Aa a1.off).2.2.1;rw[a3] at this;omega
 obtain⟨_,_,b3⟩:=zvs h hop k hk;have hl:es.length<=60:=by unfold eG at h;simp at h;exact h.1.2
 have hg:=a1.good a2 aC;exact⟨zfM h k hk,a1,b3,h1,by show(ln.length:Int)=(jH o es k).o.ln;rw[a3];exact h2,zoX k hk,by show(qn.length:Int)=(jH o es k).o.op;rw[a3];exact h3,hg.1⟩
theorem zAN (hk:k<=es.length):∃B,sK o es es.length=sK o es k++B:=by
 have key:∀n,k<=n->∃B,sK o es n=sK o es k++B:=λn hn=>by
  induction n with
  |zero=>
   obtain rfl:k=0:=aC;exact⟨[],aQ⟩
  |succ n ih=>
   rcases uR k (n+1) with h|h
   .obtain⟨B,e⟩:=ih aC
    exact⟨B++(match es[n]? with|some e=>pR (jH o es n) e|none=>[]),by show sK o es n++_=_;rw[e,Jx];rfl⟩
   .obtain rfl:k=n+1:=aC
    exact⟨[],aQ⟩
 exact key _ hk
theorem asks_at (he:es[k]? =some ev):C4 (Cv o es) (sK o es k).length (pR (jH o es k) ev):=λj x hj=>by
 have hk:=(lX.1 he).1;obtain⟨B,e⟩:=zAN (o:=o) (es:=es) (k:=k+1) hk;have e2:sK o es (k+1)=sK o es k++pR (jH o es k) ev:=by show sK o es k++_=_;rw[he]
 have hl:=(lX.1 hj).1;unfold Cv;rw[e,e2,Jx,Jx,Qm aC,Ls aC,zxn];exact hj
theorem zl4 (b:b6):∀n,(zV b n).length=2*n
 |0=>rfl
 |n+1=>by show(zV b n++_).length=_;rw[j5,zl4 b n];simp;omega
theorem zwa (b:b6):∀(n i:Nat),i<n->(zV b n)[2*i]? =some (.ask i 0 0 (dE b.recs ((i:Int)+1)))/\(zV b n)[2*i+1]? =some (.shut i)
 |0,i,h=>by omega
 |n+1,i,h=>by
  have hl:=zl4 b n;show(zV b n++_)[2*i]? =_/\(zV b n++_)[2*i+1]? =_;rcases uR i n with hi|hi
  .rw[Ls aC,Ls aC]
   exact zwa b n i hi
  .obtain rfl:i=n:=aC
   rw[Qm aC,Qm aC,hl,ziC,show 2*i+1-2*i=1 by omega];exact⟨rfl,rfl⟩
def H6 (b:b6):Nat->List Int
 |0=>[]
 |n+1=>H6 b n++[dE b.recs ((n:Int)+1)]
theorem Ya (b:b6):∀n,(H6 b n).length=n
 |0=>rfl
 |n+1=>by show(H6 b n++_).length=_;rw[j5,Ya b n];rfl
theorem zF3 (h:eG o es=true)(he:es[k]? =some ev):(dR (jH o es k) ev).1.log=(jH o es k).log/\(jH o es k).log.length<=1000/\rB (jH o es k).o.op ev=true:=by
 have hk:=(lX.1 he).1;obtain⟨a1,a2,a3⟩:=Hh h k aC;have bV:=h;unfold eG at bV;simp only[jB,xC,decide_eq_true_eq] at bV;have nH:rB (jH o es k).o.op ev=true:=by rw[a3];exact bV.2 ev (eI he)
 have:=a2.nl;exact⟨(a1.step a2 nH aC).2.2.2,aC,nH⟩
def Ce (o:fG)(es:List dS)(ln qn:List Nat)(k:Nat):nZ:=⟨jH o es k,ln,qn,[]⟩
def tG (o:fG)(es:List dS)(ln qn:List Nat)(i:Nat):nZ:=⟨Ee o es,ln,qn,H6 (Ee o es) i⟩
structure za4 (e:Hj)(o:fG)(es:List dS)(ln qn:List Nat)(lo hb:Nat)(v:fK)(w:aE)(K:Pr)(A:Option bC)(n c:Nat):Prop where
 ok:eG o es=true
 W:e.W=Cv o es
 at_:bF w lo hb v (Ce o es ln qn 0)
 mr:gC v (Ce o es ln qn 0)
 nd:ln.Nodup
 nl:(ln.length:Int)=o.ln
 nq:(qn.length:Int)=o.op
 qs:e.qs.length=qn.length
 lo_:lo<=w.heap.size
 tab:Ci lo w
 ev:cJ w 0 lo 3 A n c (qX es)
 K:∀(i g:Nat),qn[i]? =some g->K g (qa e.qs i)
theorem cJ.lowT {s c:Nat}{xs:List aF}(h:cJ w 0 lo s A n c xs)(a:bF w lo hb v d)(eL:lo<=w.heap.size)(t:bT hb v w v' w'):cJ w' 0 lo s A n c xs:=by
 refine⟨h.len,h.le,h.cap,λhn=>?_⟩;obtain⟨b,off,e,h1,h2,h3,h4⟩:=h.at_ hn;have hz:=t.size;exact⟨b,off,e,h1,h2,aC,λj u hj=>(aE.cell?_of_block (t.block b h3 (λx=>by have:=(a.lt b x).1;omega))).trans (h4 j u hj)⟩
theorem cf_work (H:e.d.Ok){c:Nat}(h:za4 e o es ln qn lo hb v w K A n c):
 CF e.d 58 #[.pointer (some ⟨hb,0,none⟩),.slice A n c] K (.wk e.qs 0) w (λK' l' y w'=>l'=.wk e.qs e.W.length/\∃v',bF w' lo hb v' (tG o es ln qn qn.length)/\gC v' (tG o es ln qn qn.length)/\bT hb v w v' w'):=by
 refine CF.of 52 zna (.inl rfl) ?_;have HP:=aD h;have Gi:es.length=n:=h.ev.eventsLen;have pI:es.length<=60:=by have:=h.ok;unfold eG at this;simp at this;exact this.1.2
 have zAo:n<=60:=aC;have P3:=aD Gi;clear Gi pI h;refine CW.sq H ?_;refine CW.sq H ?_;refine CW.pQ H P7 (λzIq Q HQ=>?_);go_wp2;refine HQ.o _ _ ?_;clear HQ;refine CW.tape (s:=⟨[],K,.wk e.qs 0,_,w⟩) ?_ zIq 0;refine CW.block H ?_;refine CW.loop H (λnn s=>∃(k:Nat) (wz:aE) (Kz:Pr) (vz:fK) (u2 u3 u4 u5 u6 u7 gH gK gF gI gJ u16 iM lA kY jS iQ iO iK iR iI iT iE iH iD jK jM u32 iP iN iG iC kT lB iS iJ iF iZ iW jE jA jG iU iY jF jC iX:aF),s=⟨[],Kz,.wk e.qs (sK o es k).length,#[.pointer (some ⟨hb,0,none⟩),.slice A n c,u2,u3,u4,u5,u6,u7,.slice A n c,.int .i64 (n:Int),.int .i64 (k:Int),gH,gK,gF,gI,gJ,u16,iM,lA,kY,jS,iQ,iO,iK,iR,iI,iT,iE,iH,iD,jK,jM,u32,iP,iN,iG,iC,kT,lB,iS,iJ,iF,iZ,iW,jE,jA,jG,iU,iY,jF,jC,iX],wz⟩/\k<=n/\nn=n-k/\K.le Kz/\bF wz lo hb vz (Ce o es ln qn k)/\gC vz (Ce o es ln qn k)/\bT hb v w vz wz/\vz.sL=v.sL/\vz.sQ=v.sQ) (λnn s hs=>?_) (n:=n) ?_
 rotate_left
 .exact⟨0,w,K,v,_,_,_,_,_,_,_,_,_,_,_,_,_,_,_,_,_,_,_,_,_,_,_,_,_,_,_,_,_,_,_,_,_,_,_,_,_,_,_,_,_,_,_,_,_,_,_,rfl,lU _,rfl,yG _,HP.o.at_,HP.o.mr,bT.refl,rfl,rfl⟩
 .obtain⟨k,wz,Kz,vz,u2,u3,u4,u5,u6,u7,gH,gK,gF,gI,gJ,u16,iM,lA,kY,jS,iQ,iO,iK,iR,iI,iT,iE,iH,iD,jK,jM,u32,iP,iN,iG,iC,kT,lB,iS,iJ,iF,iZ,iW,jE,jA,jG,iU,iY,jF,jC,iX,rfl,tT,C6,zkc,az,mz,tz,zvG,zxY⟩:=hs
  have A1:=aD az;have M1:=aD mz;have T1:=aD tz;have EZ:=aD (And.intro zvG zxY);clear az mz tz zvG zxY;refine CW.sq H ?_;refine CW.pQ H P7 (λzhi Q HQ=>?_);by_cases aT:k<n
  .have Hs:(k:Int)<(n:Int):=aC
   go_wp2;refine HQ.o _ _ ?_;clear HQ Hs;refine CW.tape (s:=⟨[],Kz,.wk e.qs (sK o es k).length,_,wz⟩) ?_ zhi 0;refine CW.sq H ?_;refine CW.cd H true ?_;refine CW.sk H ?_;dsimp only;have Bw:=HP.o.ev.lowT HP.o.at_ HP.o.lo_ T1.o;obtain⟨be,oe,ev,hA,zEQ,zhM,zmK,Gm,e0,e1,e2⟩:=Bw.eventsAt aT;subst hA;obtain⟨zyU,zvZ,st3⟩:=zF3 HP.o.ok Gm;have Ow:=aD Gm;have vI:=aD (And.intro zyU (And.intro zvZ st3));clear Gm zyU zvZ st3 Bw;have i0:(0:Int)<=(k:Int):=aC;have i1:(k:Int)<(n:Int):=aC;refine CW.sq H ?_;refine CW.block H ?_;refine CW.sq H ?_;refine CW.pQ H P7 (λzR Q HQ=>?_);obtain⟨w2,eN⟩:=aN (Tt.tp wz zR 0);have A2:=aD (show bF w2 lo hb vz (Ce o es ln qn k) by rw[eN];exact A1.o.tp zR 0);have T2:=aD (show bT hb v w vz w2 by rw[eN];exact T1.o.tp zR 0);have Yo:w2.cell? ⟨be,oe+k*3,none⟩=some (.string ev.k):=by rw[eN];exact e0
   have wU:w2.cell? ⟨be,oe+k*3+1,none⟩=some (.int .i64 ev.a):=by rw[eN];exact e1
   have Gw:w2.cell? ⟨be,oe+k*3+2,none⟩=some (.int .i64 ev.b):=by rw[eN];exact e2
   try dsimp only
   rw[<-eN];clear eN A1 T1 e0 e1 e2;go_wp2;refine HQ.o _ _ ?_;clear HQ Yo wU Gw;obtain⟨gb,fA⟩:=aN w2.heap.size;obtain⟨w3,jD⟩:=aN (w2.alloc (.cells #[.string ev.k,.int .i64 ev.a,.int .i64 ev.b] 54));have A3:=aD (show bF w3 lo hb vz (Ce o es ln qn k) by rw[jD];exact A2.o.alloc _);have T3:=aD (show bT hb v w vz w3 by rw[jD];exact T2.o.trans (bT.below (eK (gD _ _) _)));have wE:=aD (show w3.heap[gb]? =some (.cells #[.string ev.k,.int .i64 ev.a,.int .i64 ev.b] 54) by rw[jD,fA];exact gV _ _);have NP:=aD (show some gb∉parts vz hb from λhp=>by have:=(A2.o.lt _ hp).2;omega);rw[<-fA,<-jD];clear jD fA A2 T2;have ziN:lo<=w3.heap.size:=eE HP.o.lo_ T3.o.size;have zrx:k<=es.length:=by have:=P3.o;omega
   obtain⟨G5,zd6,zzr⟩:=Hh HP.o.ok k zrx;have pre:EvPre lo hb vz (Ce o es ln qn k) w3:=⟨A3.o,M1.o,zsl HP.o.ok zrx HP.o.nd HP.o.nl HP.o.nq,ziN,HP.o.tab.turn HP.o.at_ HP.o.lo_ T3.o,by have:=zd6.clk;show(jH o es k).clk<=_;omega,by have h1:=zd6.nw;have h2:=zd6.nb;show(jH o es k).back.length+(jH o es k).wait.length<=_;omega⟩;have ztN:w3.cell? ⟨hb,12,none⟩=some vz.sA:=aI A3.o.blk 12;have zFs:=aD pre;have RD:=aD ztN;clear pre ztN G5 zd6 zzr;refine cw_R3 (c:=⟨e,lo,hb,gb,(sK o es k).length,v,w,vz,Ce o es ln qn k,ev,Kz⟩) H vI.o.2.2 (by show C4 e.W _ _;rw[HP.o.W];exact asks_at Ow.o) (λi g hg=>zkc _ _ (HP.o.K i g hg)) (by show(dR (jH o es k) ev).1.log.length<=1000;rw[vI.o.1];exact vI.o.2.1) vI.o.1 rfl rfl rfl (λvs K' l' w' uJ hS=>?_) ⟨yG _,λ_=>⟨RD.o,wE.o⟩,rfl,zFs.o,T3.o,NP.o⟩;rw[Go.Mt.Cq,zIc];simp only[Go.Mt.yF,dU,dW];obtain⟨s1,s2,s3⟩:=hS;have s4:l'=.wk e.qs ((sK o es k).length+(pR (jH o es k) ev).length)/\W3.P2 ⟨e,lo,hb,gb,(sK o es k).length,v,w,vz,Ce o es ln qn k,ev,Kz⟩ w':=by
    rcases vs with _|⟨a,_|⟨b,_|⟨x,_|⟨y,vs⟩⟩⟩⟩
    .cases uJ
    .cases uJ
    .cases uJ
    .cases uJ
    .exact s3
   obtain⟨rfl,v2,a2,m2,t2,q1,q2⟩:=s4;have e3:(sK o es (k+1)).length=(sK o es k).length+(pR (jH o es k) ev).length:=by show(sK o es k++_).length=_;rw[Ow.o,j5]
   have e4:Ce o es ln qn (k+1)={Ce o es ln qn k with r:=Em (dR (jH o es k) ev)}:=by unfold Ce;rw[Ty Ow.o]
   have A4:=aD (show bF w' lo hb v2 (Ce o es ln qn (k+1)) by rw[e4];exact a2);have M4:=aD (show gC v2 (Ce o es ln qn (k+1)) by rw[e4];exact m2);have T4:=aD t2;have Q4:=aD (And.intro (q1.trans EZ.o.1) (q2.trans EZ.o.2));have sH:K.le K':=wZ zkc s1;rw[<-e3];clear a2 m2 t2 q1 q2 e3 e4 s1 s2 s3 uJ;refine CW.pQ H P7 (λzwy Q HQ=>?_);go_wp2;refine HQ.o _ _ ?_;clear HQ;exact⟨n-(k+1),aC,k+1,_,K',v2,_,_,_,_,_,_,_,_,_,_,_,_,_,_,_,_,_,_,_,_,_,_,_,_,_,_,_,_,_,_,_,_,_,_,_,_,_,_,_,_,_,_,_,_,_,_,_,rfl,aC,rfl,sH,A4.o.tp zwy 0,M4.o,T4.o.tp zwy 0,Q4.o.1,Q4.o.2⟩
  .have Hs:¬(k:Int)<(n:Int):=aC
   have mG:=aD (show k=es.length by have:=P3.o;omega);go_wp2;refine HQ.o _ _ ?_;clear HQ Hs;refine CW.tape (s:=⟨[],Kz,.wk e.qs (sK o es k).length,_,wz⟩) ?_ zhi 0;refine CW.sq H ?_;refine CW.cd H false ?_;refine CW.exit H aQ ?_;dsimp only;rw[if_pos rfl];have Al:=mG.o;subst Al;have S4:Ce o es ln qn es.length=tG o es ln qn 0:=by unfold Ce tG;rw[S7];rfl
   rw[S4] at A1 M1;obtain⟨AQ,cQ,zct,zBN⟩:=H0 A1.o.Q aH;obtain⟨nq,zdE⟩:=aN qn.length;have Ry:=aD zdE;have zuA:=aD (show vz.sQ=.slice AQ nq cQ by rw[zdE];exact zct);have Za:=(Aa (zsl (tk:=[]) HP.o.ok (lU _) HP.o.nd HP.o.nl HP.o.nq).R.off).2.2.2.1;have zKn:nq<=4:=by
    have h1:=HP.o.nq;have h2:(jH o es 0).o.op<=4:=Za;have h3:(jH o es 0).o=o:=rfl;rw[h3] at h2;omega
   clear zct zBN zdE S4 Za aT C6;refine CW.sq H ?_;refine CW.pQ H P7 (λVq Q HQ=>?_);obtain⟨w5,kS⟩:=aN (Tt.tp wz Vq 0);have A5:=aD (show bF w5 lo hb vz (tG o es ln qn 0) by rw[kS];exact A1.o.tp Vq 0);have T5:=aD (show bT hb v w vz w5 by rw[kS];exact T1.o.tp Vq 0)
   try dsimp only
   rw[<-kS];clear kS A1 T1;have k6:w5.cell? ⟨hb,6,none⟩=some (.slice AQ nq cQ):=by
    have:=aI A5.o.blk 6;rw[this,<-zuA.o];rfl
   go_wp2;refine HQ.o _ _ ?_;clear HQ k6;obtain⟨k0,lR⟩:=aN ((sK o es es.length).length);have Ab:=aD lR;rw[<-lR];clear lR;refine CW.block H ?_;refine CW.loop H (λnn s=>∃(k:Nat) (wy:aE) (Ky:Pr) (vy:fK) (u1 u2 u3 u4 u5 u6 u7 u8 u9 iB gH gK gF gI gJ u16 iM lA kY jS iQ iO iK iR iI iT iE iH iD iP iN iG iC kT lB iS iJ iF iZ iW jE jA jG iU iY jF jC iX:aF),s=⟨[],Ky,.wk e.qs (k0+2*k),#[.pointer (some ⟨hb,0,none⟩),u1,u2,u3,u4,u5,u6,u7,u8,u9,iB,gH,gK,gF,gI,gJ,u16,iM,lA,kY,jS,iQ,iO,iK,iR,iI,iT,iE,iH,iD,.slice AQ nq cQ,.int .i64 (nq:Int),.int .i64 (k:Int),iP,iN,iG,iC,kT,lB,iS,iJ,iF,iZ,iW,jE,jA,jG,iU,iY,jF,jC,iX],wy⟩/\k<=nq/\nn=nq-k/\K.le Ky/\bF wy lo hb vy (tG o es ln qn k)/\gC vy (tG o es ln qn k)/\bT hb v w vy wy/\vy.sQ=vz.sQ) (λnn s hs=>?_) (n:=nq) ?_
   rotate_left
   .exact⟨0,w5,Kz,vz,_,_,_,_,_,_,_,_,_,_,_,_,_,_,_,_,_,_,_,_,_,_,_,_,_,_,_,_,_,_,_,_,_,_,_,_,_,_,_,_,_,_,_,_,_,_,_,_,rfl,lU _,rfl,zkc,A5.o,M1.o,T5.o,rfl⟩
   .obtain⟨k,wy,Ky,vy,u1,u2,u3,u4,u5,u6,u7,u8,u9,iB,gH,gK,gF,gI,gJ,u16,iM,lA,kY,jS,iQ,iO,iK,iR,iI,iT,iE,iH,iD,iP,iN,iG,iC,kT,lB,iS,iJ,iF,iZ,iW,jE,jA,jG,iU,iY,jF,jC,iX,rfl,zKY,zKm,zs8,ay,my,ty,ey⟩:=hs
    have A6:=aD ay;have M6:=aD my;have T6:=aD ty;have EY:=aD ey;clear ay my ty ey A5 T5 M1;refine CW.sq H ?_;refine CW.pQ H P7 (λzcF Q HQ=>?_);by_cases aT:k<nq
    .have Hs:(k:Int)<(nq:Int):=aC
     go_wp2;refine HQ.o _ _ ?_;clear HQ;refine CW.sq H ?_;refine CW.cd H true ?_;refine CW.sk H ?_;dsimp only;have Qh:e.W[k0+2*k]? =some (.ask k 0 0 (dE (Ee o es).recs ((k:Int)+1)))/\e.W[k0+2*k+1]? =some (.shut k):=by
      have zmT:o.op.toNat=nq:=by have:=HP.o.nq;have:=Ry.o;omega
      obtain⟨x1,x2⟩:=zwa (Ee o es) nq k aT;rw[HP.o.W];unfold Cv;rw[zmT,Qm (by have:=Ab.o;omega),Qm (by have:=Ab.o;omega),<-Ab.o,zxn,show k0+2*k+1-k0=2*k+1 by omega];exact⟨x1,x2⟩
     refine CW.sq H ?_;refine CW.block H ?_;refine CW.sq H ?_;refine CW.pQ H P7 (λWi Q HQ=>?_);obtain⟨w7,rS⟩:=aN (Tt.tp (Tt.tp wy zcF 0) Wi 0);have A7:=aD (show bF w7 lo hb vy (tG o es ln qn k) by rw[rS];exact(A6.o.tp zcF 0).tp Wi 0);have T7:=aD (show bT hb v w vy w7 by rw[rS];exact(T6.o.tp zcF 0).tp Wi 0)
     try dsimp only
     rw[<-rS];clear rS A6 T6;have o7:=A7.o.Q;rw[EY.o,zuA.o] at o7;have o7:w7.ownsRow lo 95 1 (.slice AQ nq cQ) nq (Jy qn):=by rw[Ry.o];rw[Ry.o] at o7;exact o7
     obtain⟨bq,oq,gq,hA,C0,zH4⟩:=zge (Av o7 aH) aT;subst hA;have zBO:=aD C0;have i0:(0:Int)<=(k:Int):=aC;clear o7 C0;go_wp2;refine HQ.o _ _ ?_;clear HQ zH4;have zx6:w7.cell? ⟨hb,13,none⟩=some vy.sT:=aI A7.o.blk 13;have zAp:lo<=w7.heap.size:=eE HP.o.lo_ T7.o.size;have zsm:k<qn.length:=by have:=Ry.o;omega
     refine CW.sq H ?_;refine cw_R8 (c:=⟨e,lo,hb,k,k0+2*k,dE (Ee o es).recs ((k:Int)+1),v,w,vy,tG o es ln qn k,Ky⟩) H M6.o Qh.1 zsm (by show k<=100;omega) (λi g hg=>zs8 _ _ (HP.o.K i g hg)) (by show(H6 (Ee o es) k).length<=1000;rw[Ya];omega) rfl rfl rfl (λvs K' l' w' uJ hS=>?_) ⟨yG _,λ_=>zx6,rfl,A7.o,T7.o,zAp⟩;rw[Go.Mt.Cq,zJc];simp only[Go.Mt.yF,dU,dW];obtain⟨s1,s2,s3⟩:=hS;have s4:l'=.wk e.qs (k0+2*k+1)/\W8.P2 ⟨e,lo,hb,k,k0+2*k,dE (Ee o es).recs ((k:Int)+1),v,w,vy,tG o es ln qn k,Ky⟩ w':=by
      rcases vs with _|⟨a,_|⟨b,_|⟨x,_|⟨y,vs⟩⟩⟩⟩
      .cases uJ
      .cases uJ
      .cases uJ
      .cases uJ
      .exact s3
     obtain⟨rfl,v2,a2,m2,t2,q1,q2⟩:=s4;have A8:=aD (show bF w' lo hb v2 (tG o es ln qn (k+1)) from a2);have M8:=aD (show gC v2 (tG o es ln qn (k+1)) from m2);have T8:=aD t2;have Q8:=aD (q2.trans EY.o);have sH:K.le K':=wZ zs8 s1;have zDG:K' gq (qa e.qs k):=sH _ _ (HP.o.K k gq zBO.o);clear a2 m2 t2 q1 q2 s1 s2 s3 uJ zx6;refine CW.rg H [0,1] ?_;refine CR.mv H (.chan (some gq)) ?_;refine CR.shut H (k:=k0+2*k+1) (q:=k) zHj rfl rfl zna rfl rfl Qh.2 (by show k<e.qs.length;rw[HP.o.qs];exact zsm) rfl rfl zDG ?_;simp only[cE,fS,dU,dW];refine CR.nil H ?_;refine CW.pQ H P7 (λzar Q HQ=>?_);go_wp2;refine HQ.o _ _ ?_;clear HQ;exact⟨nq-(k+1),aC,k+1,_,K',v2,_,_,_,_,_,_,_,_,_,_,_,_,_,_,_,_,_,_,_,_,_,_,_,_,_,_,_,_,_,_,_,_,_,_,_,_,_,_,_,_,_,_,_,_,_,_,_,_,rfl,aC,rfl,sH,A8.o.tp zar 0,M8.o,T8.o.tp zar 0,Q8.o⟩
    .have Hs:¬(k:Int)<(nq:Int):=aC
     have mG:=aD (show k=nq by omega);go_wp2;refine HQ.o _ _ ?_;clear HQ Hs;refine CW.sq H ?_;refine CW.cd H false ?_;refine CW.exit H aQ ?_;dsimp only;rw[if_pos rfl];have Al:=mG.o;subst Al;have zBb:e.W.length=k0+2*k:=by
      have zmT:o.op.toNat=k:=by have:=HP.o.nq;have:=Ry.o;omega
      rw[HP.o.W];unfold Cv;rw[j5,<-Ab.o,zmT,zl4]
     refine⟨aQ,rfl,.tuple #[],rfl,by rw[zBb],vy,?_,?_,T6.o.tp zcF 0⟩
     .rw[<-Ry.o];exact A6.o.tp zcF 0
     .rw[<-Ry.o];exact M6.o
end Go.Proofs.YtfcjiloojkjaeaaGreatDoor
namespace Go.Proofs.YtfcjiloojkjaeaaGreatDoor
open Go.RowKit Go.Mt Go.Conc Go.Tt Go.Conc.Lib Go.ConcR.Gen
abbrev sS:WgLink:={add:=53,done:=55,wait:=59,relMerge:=68,disable:=69,enable:=70,inBubble:=71,associate:=72,fatal:=73,uOr:=74,uAdd:=75,raceRead:=76,uLoad:=77,uStore:=78,disassociate:=79,semrelease:=80,acquire:=83,isAssociated:=84,uCas:=85,raceWrite:=86,semacquire:=87,orU64:=97,addU64:=98,loadU64:=99,storeU64:=100,casU64:=106,tWgP:=108,tUP:=110,tAssoc:=112,tWg:=94,tAU:=91,tU64:=89,tUint:=116,tU32:=92,tPU32:=117,tPAU:=137,tPU64:=139,tNoCopy:=86,tANoCopy:=87,tAlign64:=88}
def zbX:WgLib aK sS:=
 ⟨Tryz.func53,Tryz.func55,Tryz.func59,Tryz.func68,Tryz.func69,Tryz.func70,Tryz.func71,Tryz.func72,Tryz.func73,Tryz.func74,Tryz.func75,Tryz.func76,Tryz.func77,Tryz.func78,Tryz.func79,Tryz.func80,Tryz.func83,Tryz.func84,Tryz.func85,Tryz.func86,Tryz.func87,Tryz.func97,Tryz.func98,Tryz.func99,Tryz.func100,Tryz.func106,Tryz.underlying108,Tryz.runUnderlying108,Tryz.sizeOf108,Tryz.isAgg108,Tryz.zeroValue108,Tryz.underlying110,Tryz.runUnderlying110,Tryz.sizeOf110,Tryz.isAgg110,Tryz.zeroValue110,Tryz.underlying112,Tryz.runUnderlying112,Tryz.sizeOf112,Tryz.isAgg112,Tryz.zeroValue112,Tryz.underlying94,Tryz.runUnderlying94,Tryz.sizeOf94,Tryz.isAgg94,Tryz.zeroValue94,Tryz.underlying91,Tryz.runUnderlying91,Tryz.sizeOf91,Tryz.isAgg91,Tryz.zeroValue91,Tryz.underlying89,Tryz.runUnderlying89,Tryz.sizeOf89,Tryz.isAgg89,Tryz.zeroValue89,Tryz.underlying116,Tryz.runUnderlying116,Tryz.sizeOf116,Tryz.isAgg116,Tryz.zeroValue116,Tryz.underlying92,Tryz.runUnderlying92,Tryz.sizeOf92,Tryz.isAgg92,Tryz.zeroValue92,Tryz.underlying117,Tryz.runUnderlying117,Tryz.sizeOf117,Tryz.isAgg117,Tryz.zeroValue117,Tryz.underlying137,Tryz.runUnderlying137,Tryz.sizeOf137,Tryz.isAgg137,Tryz.zeroValue137,Tryz.underlying139,Tryz.runUnderlying139,Tryz.sizeOf139,Tryz.isAgg139,Tryz.zeroValue139,Tryz.underlying0,Tryz.runUnderlying0,Tryz.sizeOf0,Tryz.isAgg0,Tryz.zeroValue0,Tryz.underlying3,Tryz.runUnderlying3,Tryz.sizeOf3,Tryz.isAgg3,Tryz.zeroValue3,Tryz.underlying4,Tryz.runUnderlying4,Tryz.sizeOf4,Tryz.isAgg4,Tryz.zeroValue4,Tryz.underlying9,Tryz.runUnderlying9,Tryz.sizeOf9,Tryz.isAgg9,Tryz.zeroValue9,Tryz.underlying20,Tryz.runUnderlying20,Tryz.sizeOf20,Tryz.isAgg20,Tryz.zeroValue20,Tryz.underlying21,Tryz.runUnderlying21,Tryz.sizeOf21,Tryz.isAgg21,Tryz.zeroValue21,aU,aU⟩
instance:Go.ConcR.Payload:=⟨3⟩
end Go.Proofs.YtfcjiloojkjaeaaGreatDoor
namespace Go.Proofs.YtfcjiloojkjaeaaGreatDoor
open Go.RowKit Go.Mt Go.Conc Go.Tt Go.Maps Go.Conc.Lib Go.ConcR.Gen
open Go.ConcR (KK wgBlock WgAt stA smA rd wr)
variable {K:Pr}{Q:Pr->Prop}{ds:Dk}{pin:List (Nat×aF)}{w:aE}{Ψ:Pr->gN->aF->aE->Prop}
theorem BO.callF {d:qH}(H:d.Ok){base:List Frame}(hQ:Up Q){fn:aP}{tmps:Array aF}{ops:Array aZ}{i:Nat}{rest:List Nat}{k:List Item}{l:gN}{o:aZ}{g:aP}{args:Array cN}{jW:Array aM}(Nq:Array aF)
 (ho:ops[i]? =some o) (cG:dI o (dL ops tmps)=true) (hop:o.op=.call ⟨.value (.func g),args,jW⟩) (xF:args.all (eD d.fs)=true) (ha:args.map (bL tmps []).eval=Nq) (lD:∀s,o.dst=some s->s∉pin.map (·.1)) (hc:CF d g Nq K l w Ψ)
 (hk:∀K' l' v w',K.le K'->Ψ K' l' v w'->BO (d.cx K' Q [] base ds pin) l' ⟨fn,(cE ⟨tmps,[]⟩ o.dst v).tmps,.inRegion ops rest::k,false⟩ w'):BO (d.cx K Q [] base ds pin) l ⟨fn,tmps,.inRegion ops (i::rest)::k,false⟩ w:=by
 obtain⟨fnf,cf,g1,g2,g3,g4,g5⟩:=hc.ex;refine BO.callN (H.iok hQ) ho cG hop (Callee.static _ _) xF g1 g2 g3 g4 λoJ m' hm=>?_;rw[qH.sub_eq];have fin:∀(s':WS) todo,K.le s'.K->(s'.chs=[]/\∃v,(oO fnf.results.toList s'.T).run d.p s'.w=.ok v s'.w/\Ψ s'.K s'.l v s'.w)->d.bo (λR=>Q R/\oJ.le R) (fx [] ds m'::base) s' g todo true:=λs' todo hl ⟨h2,v,h3,h4⟩=>by
  obtain⟨zCK,K',l',T',w'⟩:=s';simp only at*;subst h2;unfold qH.bo;simp only;rw[<-qH.sub_eq (pin:=pin)];refine BO.retN (C:=d.cx K' Q [] base ds pin) (H.iok hQ) (hm.upK hl _) rfl rfl (λs hs=>lD s uB) g1 h3 ?_;have:=hk K' l' v w' hl h4;simp only[Fm.fin,ho,Option.bind_some]
  cases hd:o.dst with
  |none=>rw[hd] at this;exact this
  |some s=>rw[hd] at this;exact this
 have e:(#[]:Array aF)++args.map (bL tmps []).eval++ #[]=Nq:=by rw[<-ha];simp
 rw[e];refine g5 (λR=>Q R/\oJ.le R) (fx [] ds m'::base) [] (hQ.and oJ) (λ_ h=>by cases h) (λs' hl x=>BO.fall (H.iok (hQ.and oJ)) (fin s' [] hl x.2)) (λid k2 s' hl ee x=>by cases ee) (λs' todo hl x=>fin s' todo hl x.2)
def Wa:Go.Code:=(Tryz.f57.body).getD .skip
def rH20:Go.Code:=match Wa with| .seq (a) _=>a|_=>.skip
def rH21:Go.Code:=match Wa with| .seq _ (a)=>a|_=>.skip
def zHR:Wa=.seq (rH20) (rH21):=rfl
def zfS:Array Oper:=match rH20 with| .region _ ops _=>ops|_=>#[]
def rH20_eq:rH20=.region 0 zfS false:=rfl
def zBJ:iL zfS.size=[0]:=rfl
abbrev zue:Oper:=aV zfS 0 none (.defer ⟨.value (.func 55),#[.tmp 0],#[94]⟩)
def zzX:zfS[0]? =some zue:=rfl
def Qi:Array Oper:=match rH21 with| .region _ ops _=>ops|_=>#[]
def rH21_eq:rH21=.region 1 Qi false:=rfl
def zHX:iL Qi.size=[0,1,2]:=rfl
abbrev oH21_0:Oper:=aV Qi 0 (some 3) (.load 63 (.tmp 1))
def zDm:Qi[0]? =some oH21_0:=rfl
abbrev oH21_1:Oper:=aV Qi 1 (some 4) (.load 31 (.tmp 2))
def zC0:Qi[1]? =some oH21_1:=rfl
abbrev oH21_2:Oper:=aV Qi 2 (some 5) (.call ⟨.value (.func 58),#[.tmp 3,.tmp 4],#[63,31]⟩)
def zII:Qi[2]? =some oH21_2:=rfl
variable {N:Nat}{W:List fL}{D:aE->Prop}
theorem zDj {qs:List Nat}:(Dp N W D).act (.wk qs W.length)=.done:=by
 show eU N W (.wk qs W.length)=_;simp[eU]
theorem zEO {e:Hj}(H:e.d.Ok)(Dc:e.ty=sS.tWg){lo hb gh ge n c:Nat}{A:Option bC}{v:fK}{o:fG}{es:List dS}{ln qn:List Nat}(h:za4 e o es ln qn lo hb v w K A n c)(hh:w.cell? ⟨gh,0,none⟩=some (.pointer (some ⟨hb,0,none⟩)))(he:w.cell? ⟨ge,0,none⟩=some (.slice A n c))(hQ:Up Q)
 (uI:∀K' R τ W w' v',K.le K'->Q R->dB (SF fX) K' R (pU aK) e.St w' W->IQ e.W0 e.StI e.Shun e.Wg e.SS e.R0 e.Fz e.Wf e.qs [] R τ W->bF w' lo hb v' (tG o es ln qn qn.length)->gC v' (tG o es ln qn qn.length)->bT hb v w v' w'->e.D W):
 BO (e.d.cx K Q [] [wQ aK] ⟨[],.deferred,aQ⟩ [(0,.pointer (some ⟨e.Wg,0,none⟩))]) (.wk e.qs 0) ⟨57,#[.nilFunc,.pointer (some ⟨gh,0,none⟩),.pointer (some ⟨ge,0,none⟩),aA,aA,aA],[.code Wa],false⟩ w:=by
 let C:=e.d.cx K Q [] [wQ aK] ⟨[],.deferred,aQ⟩ [(0,.pointer (some ⟨e.Wg,0,none⟩))]
 have hI:fI C:=H.iok hQ
 let d1:=dcall 55 #[.pointer (some ⟨e.Wg,0,none⟩)]
 have Lw:fI (C.dfr d1):=hI.dfr d1;have F:wK C.P C.fs:=nM;show BO C _ _ _;rw[zHR];refine BO.seq hI ?_;rw[rH20_eq];refine BO.regs hI _ zBJ ?_;refine BO.defer hI (d:=d1) zzX rfl rfl (λR w W bZ _ _ Ek aY=>?_) ?_
 .have h0:=Ek (0,.pointer (some ⟨e.Wg,0,none⟩)) (by show _∈[_];simp)
  have:=zu8 (p:=C.p) (o:=zue) (ρ:=(bL bZ C.ds.ds).eval) rfl rfl aY;simp only[uP,jO,uN,xB] at this
  grind
 refine BO.regEnd Lw ?_;rw[rH21_eq];refine BO.regs Lw _ zHX ?_;refine BO.op (C:=C.dfr d1) F Lw zDm rfl aU zp5 (λT=>⟨.pointer (some ⟨hb,0,none⟩),Tt.tp w T 0,.inl (zdK (a:=⟨gh,0,none⟩) rfl rfl (Tryz.isAgg63 _) hh),?_⟩);simp only[cE,fS,dU,dW];refine BO.tape ?_ T 0;clear T;refine BO.op (C:=C.dfr d1) F Lw zC0 rfl aU (by intro s hs;cases hs;show(4:Nat)∉([0]:List Nat);decide) (λT=>⟨.slice A n c,Tt.tp w T 0,.inl (zdK (a:=⟨ge,0,none⟩) rfl rfl (Tryz.isAgg31 _) he),?_⟩);simp only[cE,fS,dU,dW];refine BO.tape ?_ T 0;clear T;have eC:C.dfr d1=e.d.cx K Q [] [wQ aK] ⟨[d1],.deferred,aQ⟩ [(0,.pointer (some ⟨e.Wg,0,none⟩))]:=rfl;rw[eC];refine BO.callF H hQ #[.pointer (some ⟨hb,0,none⟩),.slice A n c] zII rfl rfl aU (by simp only[uP,jO,uN,xB];rfl) uB (cf_work H h) λK' l' y w' hl hx=>?_;obtain⟨rfl,v',hA,hm,hT⟩:=hx;have Hd:fI (e.d.cx K' Q [] [wQ aK] ⟨[d1],.deferred,aQ⟩ [(0,.pointer (some ⟨e.Wg,0,none⟩))]):=H.iok hQ;refine BO.regEnd Hd (BO.fall Hd ?_);refine BO.doneD (C:=e.d.cx K' Q [] [wQ aK] ⟨[d1],.deferred,aQ⟩ [(0,.pointer (some ⟨e.Wg,0,none⟩))]) (I0:=λR τ W=>IQ e.W0 e.StI e.Shun e.Wg e.SS e.R0 e.Fz e.Wf e.qs [] R τ W/\Q R) zbX rfl rfl Dc ?_ ?_ rfl rfl Tryz.func57 rfl zDj (λR τ W hr hi=>uI K' R τ W w' v' hl hi.2 hr hi.1 hA hm hT)
 .funext R τ w
  show((IQ _ _ _ _ _ _ _ _ _ _ R τ w/\WgLive e.ty _ w)/\Q R)=((IQ _ _ _ _ _ _ _ _ _ _ R τ w/\Q R)/\WgLive _ _ w);rw[Dc];exact propext ⟨λ⟨⟨a,b⟩,c⟩=>⟨⟨a,c⟩,b⟩,λ⟨⟨a,c⟩,b⟩=>⟨⟨a,b⟩,c⟩⟩
 .have hx:=ze2 (ty:=sS.tWg) (W0:=e.W0) (St:=e.StI) (Shun:=e.Shun) (Wg:=e.Wg) (SS:=e.SS) (R0:=e.R0) (Fz:=e.Fz) (Wf:=e.Wf) (qs:=e.qs) (chs:=[]) H.ss H.fz H.low
  exact⟨λR τ W aY h s=>⟨hx.suf _ _ _ _ h.1 s,h.2⟩,λR τ W a v h ha=>⟨hx.cell _ _ _ _ _ h.1 ha,h.2⟩,λR τ W d h=>⟨hx.at_ _ _ _ d h.1,h.2⟩,λR τ W h=>hx.rel _ _ _ h.1⟩
section
variable {L:Type}{C:Cx L}{l:L}
variable {fn:aP}{tmps:Array aF}{c:wY}{k:List Item}{w:aE}
def BO.pieceQ (F:wK C.P C.fs)(hI:fI C)(hc:qD C.p ⟨C.fs,C.gs,true⟩ c=true)(hf:xA C.p fn)(fR:y3 C.S c=true)
 (vA:∀(T:kI) (Q:oP->vX->aE->Prop),rJ (∀a' w',BO C l ⟨fn,a'.tmps,k,false⟩ w'->Q .normal a' w')->Code.wp C.p c Q ⟨tmps,[]⟩ (Tt.tp w T 0)):BO C l ⟨fn,tmps,.code c::k,false⟩ w:=
 BO.piece F hI hc hf fR λT=>vA T _ (aD λa' w' h=>⟨rfl,h⟩)
theorem BO.pV {c':wY}(F:wK C.P C.fs)(hI:fI C)(hf:xA C.p fn)
 (vA:∀(w1:aE) (T:kI),w1=Tt.tp w T 0->∀Q:oP->vX->aE->Prop,rJ (∀a' w',BO C l ⟨fn,a'.tmps,k,false⟩ w'->Q .normal a' w')->Code.wp aK c' Q ⟨tmps,[]⟩ w1)
 (e:c=c':=by conv=>lhs;whnf) (hp:C.p=Tryz.prog:=by exact rfl) (hc:qD C.p ⟨C.fs,C.gs,true⟩ c=true:=by kernel_rfl) (fR:y3 C.S c=true:=by kernel_rfl):BO C l ⟨fn,tmps,.code c::k,false⟩ w:=by
 subst e;exact BO.pieceQ F hI hc hf fR λT Q HQ=>by rw[hp];exact vA _ T rfl Q HQ
end
structure IOp (Wg:Nat)(R:Pr)(τ:cI)(W:aE):Prop where
 rel:∀a b,R a b->b≠Wg
 lt:Wg<W.heap.size
variable {Wg:Nat}
theorem iop_ix {ty:aM}:IX ty Wg (IOp Wg):=
 ⟨λR τ W aY h s=>⟨h.rel,jP h.lt s.size⟩,λR τ W a v h ha=>⟨h.rel,by rw[Uk];exact h.lt⟩,λR τ W d h=>⟨h.rel,h.lt⟩,λR τ W h=>h.rel⟩
theorem ze6 {L:Type}{C:Cx L}(hQ:Up Q)(hC:C.I=λR τ W=>zN C.ty C.Wg (IOp C.Wg) R τ W/\Q R):fI C:=by
 refine⟨λR τ W aY h s=>?_,λR τ W R1 W1 h ht hs=>?_⟩<;>rw[hC] at*
 .exact⟨⟨⟨h.1.1.rel,jP h.1.1.lt s.size⟩,s.live h.1.2⟩,h.2⟩
 .refine⟨⟨⟨λa b x=>?_,jP h.1.1.lt hs.size⟩,?_⟩,hQ R R1 hs.le h.2⟩
  .rcases hs.new a b x with y|⟨y,_⟩
   .exact h.1.1.rel a b y
   .have:=h.1.1.lt;omega
  .obtain⟨a,b,hl⟩:=h.1.2
   exact⟨a,b,(hs.keep C.Wg h.1.1.lt λa x=>absurd rfl (h.1.1.rel a _ x)).trans hl⟩
def fU (Wg N:Nat)(W:List fL)(D:aE->Prop)(Fin:bE->aE->Prop)(St:Nat->Prop)(K:Pr)(Q:Pr->Prop)(base:List Frame)(ds:Dk)(pin:List (Nat×aF)):Cx gN:=
 {p:=aK,gs:=Cw,fs:=fX,ty:=sS.tWg,Wg:=Wg,A:=Dp N W D,Fin:=Fin,main:=false,base:=base,ds:=ds,K:=K,St:=St,I:=λR τ w=>zN sS.tWg Wg (IOp Wg) R τ w/\Q R,pin:=pin}
def M0:Go.Code:=(zd9.body).getD .skip
def rOP0:Go.Code:=match M0 with| .seq (a) _=>a|_=>.skip
def rOP1:Go.Code:=match M0 with| .seq _ (.seq (a) _)=>a|_=>.skip
def rOP2:Go.Code:=match M0 with| .seq _ (.seq _ (.block _ (.loop (.seq (a) _))))=>a|_=>.skip
def rOP3:Go.Code:=match M0 with| .seq _ (.seq _ (.block _ (.loop (.seq _ (.seq _ (.block _ (.seq (a) _)))))))=>a|_=>.skip
def rOP4:Go.Code:=match M0 with| .seq _ (.seq _ (.block _ (.loop (.seq _ (.seq _ (.block _ (.seq _ (.seq (.seq (a) _) _))))))))=>a|_=>.skip
def rOP5:Go.Code:=match M0 with| .seq _ (.seq _ (.block _ (.loop (.seq _ (.seq _ (.block _ (.seq _ (.seq (.seq _ (.cond _ (a) _)) _))))))))=>a|_=>.skip
def rOP6:Go.Code:=match M0 with| .seq _ (.seq _ (.block _ (.loop (.seq _ (.seq _ (.block _ (.seq _ (.seq _ (a)))))))))=>a|_=>.skip
def zBI:M0=.seq (rOP0) (.seq (rOP1) (.block 0 (.loop (.seq (rOP2) (.seq (.cond (.tmp 6) (.skip) (.exit 0)) (.block 1 (.seq (rOP3) (.seq (.seq (rOP4) (.cond (.tmp 10) (rOP5) (.skip))) (rOP6))))))))):=rfl
def Z2:Array Oper:=match rOP2 with| .region _ ops _=>ops|_=>#[]
def zvy:rOP2=.region 2 Z2 false:=rfl
def zpv:iL Z2.size=[0,1]:=rfl
abbrev oOP2_0:Oper:=aV Z2 0 (some 5) (.recv 122 (.tmp 4) true)
def zsL:Z2[0]? =some oOP2_0:=rfl
abbrev oOP2_1:Oper:=aV Z2 1 (some 6) (.extract (.tmp 5) 1)
def zmb:Z2[1]? =some oOP2_1:=rfl
def M2:Array Oper:=match rOP6 with| .region _ ops _=>ops|_=>#[]
def zt3:rOP6=.region 6 M2 false:=rfl
def zvT:iL M2.size=[0,1,2,3]:=rfl
abbrev oOP6_0:Oper:=aV M2 0 (some 13) (.fieldAddr 124 (.tmp 3) 2)
def zrH:M2[0]? =some oOP6_0:=rfl
abbrev oOP6_1:Oper:=aV M2 1 (some 14) (.load 84 (.tmp 13))
def zwM:M2[1]? =some oOP6_1:=rfl
abbrev oOP6_2:Oper:=aV M2 2 (some 15) (.move (.tmp 2))
def ztl:M2[2]? =some oOP6_2:=rfl
abbrev oOP6_3:Oper:=aV M2 3 none (.send (.tmp 14) (.tmp 15))
def zox:M2[3]? =some oOP6_3:=rfl
def V9:xA aK 56:=⟨_,zjH,.inl rfl⟩
def zeQ:Go.Code:=.seq rOP2 (.seq (.cond (.tmp 6) .skip (.exit 0)) (.block 1 (.seq rOP3 (.seq (.seq rOP4 (.cond (.tmp 10) rOP5 .skip)) rOP6))))
theorem info_q:∃ie,aK.info? 124=some ie/\ie.zero=some (.agg #[.int .i64 0,.int .i64 0,.chan none]):=by
 have h:(aK.info? 124).bind (·.zero)=some (.agg #[.int .i64 0,.int .i64 0,.chan none]):=aU;obtain⟨ie,h1,h2⟩:=Option.bind_eq_some_iff.1 h;exact⟨ie,h1,h2⟩
def ztW:aK.underlying 122=some (.chan .recv 124):=aU
def vr3 {S:aP->Prop}{R:Pr}{a b:Int}{x y:aF}(h:VR S K R x y):VR S K R (.agg #[.int .i64 a,.int .i64 b,x]) (.agg #[.int .i64 a,.int .i64 b,y]):=
 .agg' (((bQ.empty.push (.int _ _)).push (.int _ _)).push h)
section
variable {Wg N:Nat}{W:List fL}{D:aE->Prop}{Fin:bE->aE->Prop}{St:Nat->Prop}{Q:Pr->Prop}{base:List Frame}{gc c:Nat}
theorem op_loop {K0:Pr}(zyw:K0 gc c)(hQ:Up Q)(Pp:∀K T todo w,K0.le K->BO (fU Wg N W D Fin St K Q base .nil []) .oD ⟨56,T,todo,true⟩ w):
 ∀(m:Nat) (K:Pr) (w:aE) (call:Int) (u1 u3 u5 u6 u7 u8 u9 iB gH gK gF gI gJ:aF),K0.le K->BO (fU Wg N W D Fin St K Q base .nil []) (.op c call m) ⟨56,#[.chan (some gc),u1,.int .i64 call,u3,.chan (some gc),u5,u6,u7,u8,u9,iB,gH,gK,gF,gI,gJ],[.code zeQ,.inLoop zeQ,.inBlock 0],false⟩ w:=by
 have F:∀K,wK (fU Wg N W D Fin St K Q base .nil []).P (fU Wg N W D Fin St K Q base .nil []).fs:=λK=>nM;have hI:∀K,fI (fU Wg N W D Fin St K Q base .nil []):=λK=>ze6 hQ rfl;obtain⟨ie,jZ,hz⟩:=info_q;intro m
 induction m with
 |zero=>
  intro K w call u1 u3 u5 u6 u7 u8 u9 iB gH gK gF gI gJ hL;have hK:K gc c:=hL _ _ zyw;unfold zeQ;refine BO.seq (hI K) ?_;rw[zvy];refine BO.regs (hI K) _ zpv ?_;refine BO.recvK rfl (hI K) zsL rfl rfl ztW jZ hz (λR=>vr3 (.chan .none)) rfl rfl hK Ki rfl (λv hv=>absurd hv.2 (Nat.lt_irrefl 0)) (λ_=>?_);simp only[cE,fS,dU,dW];refine BO.op (F K) (hI K) zmb rfl aU Ki (λT=>⟨.bool false,Tt.tp w T 0,.inl Pz,?_⟩);simp only[cE,fS,dU,dW];refine BO.regEnd (hI K) ?_;refine BO.seq (hI K) ?_;refine BO.cond (hI K) (t:=false) rfl rfl ?_;refine BO.exit (hI K) (k':=[]) rfl (BO.fall (hI K) (Pp K _ _ _ hL))
 |succ m ih=>
  intro K w call u1 u3 u5 u6 u7 u8 u9 iB gH gK gF gI gJ hL;have hK:K gc c:=hL _ _ zyw;unfold zeQ;refine BO.seq (hI K) ?_;rw[zvy];refine BO.regs (hI K) _ zpv ?_;refine BO.recvK rfl (hI K) zsL rfl rfl ztW jZ hz (λR=>vr3 (.chan .none)) rfl rfl hK Ki rfl (λv hv=>?_) (λ_=>?_)
  .obtain⟨hs,_⟩:=hv
   obtain⟨⟨kd,cl,a⟩,hu⟩:=Option.isSome_iff_exists.1 hs;obtain rfl:=unQ_inv hu;refine⟨a,by show a∈Q2 (quV kd cl a);simp[Q2,zed],λK' ga w' hle za7 jI=>⟨.agg #[.int .i64 kd,.int .i64 cl,.chan (some ga)],λR=>vr3 (.chan (.some (.inr za7))),?_⟩⟩;have sH:K' gc c:=hle _ _ hK;have zaB:=wZ hL hle;show BO (fU Wg N W D Fin St K' Q base .nil []) (Vn c call (m+1) (quV kd cl a)) _ w';simp only[Vn,zed,Nat.add_sub_cancel];simp only[cE,fS,dU,dW];refine BO.op (F K') (hI K') zmb rfl aU Ki (λT=>⟨.bool true,Tt.tp w' T 0,.inl Pz,?_⟩);simp only[cE,fS,dU,dW];refine BO.regEnd (hI K') ?_;refine BO.seq (hI K') ?_;refine BO.cond (hI K') (t:=true) rfl rfl ?_;refine BO.skip (hI K') ?_;refine BO.block (hI K') ?_;refine BO.seq (hI K') ?_;obtain⟨w1,dY⟩:=aN (Tt.tp w' T 0);rw[<-dY];clear dY;refine BO.pV (F K') (hI K') V9 (λw2 T1 eN Q' dG=>?_);clear eN;simp only[recvd,if_true];go_wp2;refine dG.o _ _ ?_;clear dG;obtain⟨gb,fA⟩:=aN w2.heap.size;obtain⟨w3,jD⟩:=aN (w2.alloc (.cells #[.int .i64 kd,.int .i64 cl,.chan (some ga)] 124));have kg:w3.heap[gb]? =some (.cells #[.int .i64 kd,.int .i64 cl,.chan (some ga)] 124):=by rw[jD,fA];exact gV _ _
   rw[<-fA,<-jD];clear jD fA;refine BO.seq (hI K') ?_;refine BO.seq (hI K') ?_;have k0:=aI kg 0;have k1:=aI kg 1;have k2:=aI kg 2;by_cases rF:kd=1
   .refine BO.pV (F K') (hI K') V9 (λwt T1 cG Q' dG=>?_)
    subst cG;have zm8:(Tt.tp w3 T1 0).cell? ⟨gb,0,none⟩=some (.int .i64 kd):=k0;subst rF;go_wp2;refine dG.o _ _ ?_;clear dG zm8;refine BO.cond (hI K') (t:=true) rfl rfl ?_;refine BO.pV (F K') (hI K') V9 (λwt T2 cG Q' dG=>?_);subst cG;have zFJ:(Tt.tp (Tt.tp w3 T1 0) T2 0).cell? ⟨gb,1,none⟩=some (.int .i64 cl):=k1;go_wp2;refine dG.o _ _ ?_;clear dG zFJ;rw[if_pos trivial];rw[zt3];refine BO.regs (hI K') _ zvT ?_;refine BO.op (F K') (hI K') zrH rfl aU Ki (λT3=>⟨.pointer (some ⟨gb,2,none⟩),_,.inl Pz,?_⟩);simp only[cE,fS,dU,dW];refine BO.op (F K') (hI K') zwM rfl aU Ki (λT4=>⟨.chan (some ga),_,.inl (zdK (a:=⟨gb,2,none⟩) rfl rfl (zww _) k2),?_⟩);simp only[cE,fS,dU,dW];refine BO.op (F K') (hI K') ztl rfl aU Ki (λT5=>⟨.int .i64 cl,_,.inl Pz,?_⟩);simp only[cE,fS,dU,dW];refine BO.send rfl (hI K') (l':=.op c cl m) zox rfl rfl rfl rfl za7 rfl (by intro s hs;cases hs) rfl (λR v' hv=>⟨by cases hv;rfl,rfl,rfl⟩) ?_;refine BO.regEnd (hI K') ?_;refine BO.inBlock (hI K') ?_;refine BO.inLoop (hI K') ?_;exact ih K' _ cl _ _ _ _ _ _ _ _ _ _ _ _ _ zaB
   .refine BO.pV (F K') (hI K') V9 (λwt T1 cG Q' dG=>?_)
    subst cG;have zm8:(Tt.tp w3 T1 0).cell? ⟨gb,0,none⟩=some (.int .i64 kd):=k0;have rK:(kd==1)=false:=by simpa using rF
    go_wp2;refine dG.o _ _ ?_;clear dG zm8;refine BO.cond (hI K') (t:=false) rfl (by first|rfl|(simp[xB,rF])) ?_;refine BO.skip (hI K') ?_;rw[if_neg rF];rw[zt3];refine BO.regs (hI K') _ zvT ?_;refine BO.op (F K') (hI K') zrH rfl aU Ki (λT3=>⟨.pointer (some ⟨gb,2,none⟩),_,.inl Pz,?_⟩);simp only[cE,fS,dU,dW];refine BO.op (F K') (hI K') zwM rfl aU Ki (λT4=>⟨.chan (some ga),_,.inl (zdK (a:=⟨gb,2,none⟩) rfl rfl (zww _) k2),?_⟩);simp only[cE,fS,dU,dW];refine BO.op (F K') (hI K') ztl rfl aU Ki (λT5=>⟨.int .i64 call,_,.inl Pz,?_⟩);simp only[cE,fS,dU,dW];refine BO.send rfl (hI K') (l':=.op c call m) zox rfl rfl rfl rfl za7 rfl (by intro s hs;cases hs) rfl (λR v' hv=>⟨by cases hv;rfl,rfl,rfl⟩) ?_;refine BO.regEnd (hI K') ?_;refine BO.inBlock (hI K') ?_;refine BO.inLoop (hI K') ?_;exact ih K' _ call _ _ _ _ _ _ _ _ _ _ _ _ _ zaB
  .simp only[cE,fS,dU,dW]
   refine BO.op (F K) (hI K) zmb rfl aU Ki (λT=>⟨.bool false,Tt.tp w T 0,.inl Pz,?_⟩);simp only[cE,fS,dU,dW];refine BO.regEnd (hI K) ?_;refine BO.seq (hI K) ?_;refine BO.cond (hI K) (t:=false) rfl rfl ?_;refine BO.exit (hI K) (k':=[]) rfl (BO.fall (hI K) (Pp K _ _ _ hL))
end
def Vy:Go.Code:=(Tryz.f54.body).getD .skip
def rH10:Go.Code:=match Vy with| .seq (a) _=>a|_=>.skip
def rH11:Go.Code:=match Vy with| .seq _ (a)=>a|_=>.skip
def zCd:Vy=.seq (rH10) (rH11):=rfl
def zd8:Array Oper:=match rH10 with| .region _ ops _=>ops|_=>#[]
def rH10_eq:rH10=.region 0 zd8 false:=rfl
def zHY:iL zd8.size=[0]:=rfl
abbrev zv3:Oper:=aV zd8 0 none (.defer ⟨.value (.func 55),#[.tmp 0],#[94]⟩)
def zCZ:zd8[0]? =some zv3:=rfl
def Zp:Array Oper:=match rH11 with| .region _ ops _=>ops|_=>#[]
def rH11_eq:rH11=.region 1 Zp false:=rfl
def zDB:iL Zp.size=[0,1]:=rfl
abbrev oH11_0:Oper:=aV Zp 0 (some 2) (.load 95 (.tmp 1))
def zHM:Zp[0]? =some oH11_0:=rfl
abbrev oH11_1:Oper:=aV Zp 1 (some 3) (.call ⟨.value (.func 56),#[.tmp 2],#[122]⟩)
def zAB:Zp[1]? =some oH11_1:=rfl
theorem zpx {Fin:bE->aE->Prop}{St:Nat->Prop}{base:List Frame}(m':Fm)(oJ:Pr):
 (fU Wg N W D Fin St K Q base ds pin).sub m' oJ=fU Wg N W D Fin St K (λR=>Q R/\oJ.le R) (fx [] ds m'::base) .nil []:=by
 have e:(λR τ w=>(zN sS.tWg Wg (IOp Wg) R τ w/\Q R)/\oJ.le R)=(λR τ w=>zN sS.tWg Wg (IOp Wg) R τ w/\Q R/\oJ.le R):=by
  funext R τ W;exact propext and_assoc
 unfold Cx.sub fU;simp only;rw[e]
section
variable {Wg N:Nat}{W:List fL}{D:aE->Prop}{Fin:bE->aE->Prop}{St:Nat->Prop}{gc gv c:Nat}
variable {K:Pr}
theorem op_body {Q:Pr->Prop}{base:List Frame}(hK:K gc c)(hQ:Up Q)(m:Nat)(w:aE)(Pp:∀K' T todo w,K.le K'->BO (fU Wg N W D Fin St K' Q base .nil []) .oD ⟨56,T,todo,true⟩ w):
 BO (fU Wg N W D Fin St K Q base .nil []) (.op c 0 m) ⟨56,#[.chan (some gc),aA,aA,aA,aA,aA,aA,aA,aA,aA,aA,aA,aA,aA,aA,aA],[.code M0],false⟩ w:=by
 have F:wK (fU Wg N W D Fin St K Q base .nil []).P (fU Wg N W D Fin St K Q base .nil []).fs:=nM;have hI:fI (fU Wg N W D Fin St K Q base .nil []):=ze6 hQ rfl;rw[zBI];refine BO.seq hI ?_;refine BO.pV F hI V9 (λw1 T1 dY Q' HQ=>?_);clear dY;go_wp2;refine HQ.o _ _ ?_;clear HQ;refine BO.seq hI ?_;refine BO.pV F hI V9 (λw2 T2 eN Q' HQ=>?_);clear eN;go_wp2;refine HQ.o _ _ ?_;clear HQ;refine BO.block hI ?_;refine BO.loop hI ?_;exact op_loop hK hQ Pp m K w2 0 _ _ _ _ _ _ _ _ _ _ _ _ _ (yG K)
theorem zFi (hK:K gc c)(m:Nat){w:aE}(hv:w.cell? ⟨gv,0,none⟩=some (.chan (some gc))):
 BO (fU Wg N W D Fin St K (λ_=>True) [wQ aK] ⟨[],.deferred,aQ⟩ [(0,.pointer (some ⟨Wg,0,none⟩))]) (.op c 0 m) ⟨54,#[.nilFunc,.pointer (some ⟨gv,0,none⟩),aA,aA],[.code Vy],false⟩ w:=by
 let C:=fU Wg N W D Fin St K (λ_=>True) [wQ aK] ⟨[],.deferred,aQ⟩ [(0,.pointer (some ⟨Wg,0,none⟩))]
 have hQ:Up (λ_=>True):=λ_ _ _ _=>trivial;have hI:fI C:=ze6 hQ rfl
 let d1:=dcall 55 #[.pointer (some ⟨Wg,0,none⟩)]
 have Lw:fI (C.dfr d1):=hI.dfr d1;have F:wK C.P C.fs:=nM;show BO C _ _ _;rw[zCd];refine BO.seq hI ?_;rw[rH10_eq];refine BO.regs hI _ zHY ?_;refine BO.defer hI (d:=d1) zCZ rfl rfl (λR w W bZ _ _ Ek aY=>?_) ?_
 .have h0:=Ek (0,.pointer (some ⟨Wg,0,none⟩)) (by show _∈[_];simp)
  have:=zu8 (p:=C.p) (o:=zv3) (ρ:=(bL bZ C.ds.ds).eval) rfl rfl aY;simp only[uP,jO,uN,xB] at this
  grind
 refine BO.regEnd Lw ?_;rw[rH11_eq];refine BO.regs Lw _ zDB ?_;refine BO.op (C:=C.dfr d1) F Lw zHM rfl aU (by intro s hs;cases hs;show(2:Nat)∉([0]:List Nat);decide) (λT=>⟨.chan (some gc),Tt.tp w T 0,.inl (zdK (a:=⟨gv,0,none⟩) rfl rfl (Tryz.isAgg95 _) hv),?_⟩);simp only[cE,fS,dU,dW];obtain⟨w1,dY⟩:=aN (Tt.tp w T 0);rw[<-dY];clear dY;refine BO.callN (C:=C.dfr d1) Lw zAB rfl rfl (Callee.static _ _) aU zjH aH rfl (.inl rfl) λoJ m' hm=>?_;have ha:(#[]++(#[zkA 2]:Array cN).map (bL #[.nilFunc,.pointer (some ⟨gv,0,none⟩),.chan (some gc),aA] []).eval++ #[]:Array aF)=#[.chan (some gc)]:=by
  simp only[uP,jO,uN,xB,Array.empty_append,Array.append_empty];rfl
 have Er:(#[.chan (some gc)]:Array aF)++oL ((zd9).ntmps-(#[.chan (some gc)]:Array aF).size) aA=#[.chan (some gc),aA,aA,aA,aA,aA,aA,aA,aA,aA,aA,aA,aA,aA,aA,aA]:=by
  have e:(zd9).ntmps=16:=rfl;rw[e];apply Array.ext';simp only[Qd,Array.toList_replicate,Bz,uV,List.length_nil];rfl
 show BO (Cx.sub _ m' oJ) _ ⟨_,(#[]++(#[zkA 2]:Array cN).map (bL #[.nilFunc,.pointer (some ⟨gv,0,none⟩),.chan (some gc),aA] []).eval++ #[]:Array aF)++oL ((zd9).ntmps-(#[]++(#[zkA 2]:Array cN).map (bL #[.nilFunc,.pointer (some ⟨gv,0,none⟩),.chan (some gc),aA] []).eval++ #[]:Array aF).size) aA,[.code M0],false⟩ _;rw[ha,Er];have eC:C.dfr d1=fU Wg N W D Fin St K (λ_=>True) [wQ aK] ⟨[d1],.deferred,aQ⟩ [(0,.pointer (some ⟨Wg,0,none⟩))]:=rfl;rw[eC] at hm⊢;rw[zpx];refine op_body hK (hQ.and oJ) m w1 λK' T todo w2 hl=>?_;rw[<-zpx];have Hd:fI (fU Wg N W D Fin St K' (λ_=>True) [wQ aK] ⟨[d1],.deferred,aQ⟩ [(0,.pointer (some ⟨Wg,0,none⟩))]):=ze6 hQ rfl;refine BO.retN Hd (hm.upK hl _) (v:=.tuple #[]) rfl rfl zp5 zjH rfl ?_;show BO _ _ ⟨_,_,[.inRegion _ []],false⟩ _;refine BO.regEnd Hd (BO.fall Hd ?_);exact BO.doneD zbX rfl rfl rfl (I0:=IOp Wg) (by
  funext R τ w;exact propext (and_iff_left trivial)) iop_ix rfl rfl Tryz.func54 rfl rfl (λ_ _ _ _ _=>trivial)
end
end Go.Proofs.YtfcjiloojkjaeaaGreatDoor
namespace Go.Mt
open Go.RowKit Go.Conc Go.Tt Go.Maps Go.Conc.Lib Go.ConcR.Gen
theorem BO.drawn {L:Type}{p:cD}{gs fs:aP->Bool}{f:aP}{kk:List Item}(zj4:p.follows .mixedOrders=true){id:Nat}{t0:Array aF}{ops:Array aZ}(ch:List Nat)(V0:Nat->aF)(S:List aF->Cx L->L->aE->Prop)(hS:∀vs C l w,S vs C l w->fI C/\C.p=p/\C.gs=gs/\C.fs=fs/\wK C.P C.fs/\∀(i:Nat) (o:aZ) (s:Tmp),ops[i]? =some o->o.dst=some s->s∉C.S)(bV:Jo ops=true)(uC:Nt ops ch=true)(oT:ch.all (λc=>decide (c<ops.size))=true)
 (hT:∀vs C l w T e,S vs C l w->S vs C l (Tt.tp w T e))
 (hR:∀(i:Nat) (o:aZ),ops[i]? =some o->i∉ch->sO p ⟨fs,gs,true⟩ o.op=true/\∀vs C l w,vs.length<ch.length->S vs C l w->dI o (dL ops (dM ops (VV ch V0 vs) t0))=true/\(aO (bL (dM ops (VV ch V0 vs) t0) []).eval o).run p w=.ok (.value (V0 i)) w)
 (hC:∀(vs:List aF) (c:Nat) (o:aZ) C l w,ch[vs.length]? =some c->ops[c]? =some o->S vs C l w->∀(t:Array aF) (rest:List Nat),(∀s∈o.looksAt ops,t[s]? =(dM ops (VV ch V0 vs) t0)[s]?)->
  (∀v C' l' w',S (vs++[v]) C' l' w'->BO C' l' ⟨f,(cE ⟨t,[]⟩ o.dst v).tmps,.inRegion ops rest::kk,false⟩ w')->BO C l ⟨f,t,.inRegion ops (c::rest)::kk,false⟩ w)
 (hk:∀vs C l w,vs.length=ch.length->S vs C l w->BO C l ⟨f,dM ops (VV ch V0 vs) t0,.inRegion ops []::kk,false⟩ w) {C:Cx L} {l:L} {w:aE} (h0:S [] C l w):BO C l ⟨f,t0,.code (.region id ops true)::kk,false⟩ w:=by
 obtain⟨sI,sp,_⟩:=hS _ _ _ _ h0;refine BO.draw sI λn=>?_;rw[sp,zj4]
 exact zwi (σ:=Cx L×L) (P:=p) (J:=λs is t w=>BO s.1 s.2 ⟨f,t,.inRegion ops is::kk,false⟩ w) (S:=λvs s w=>S vs s.1 s.2 w) bV uC oT
  (λvs s i o rest t w v h ho zI hw hx hJ=>by
   obtain⟨sI,sp,sg,sf,sF,sn⟩:=hS vs _ _ w h;exact BO.op sF sI ho hw (by rw[sp,sg,sf];exact(hR i o ho zI).1) (λs hs=>sn i o s ho hs) λT=>⟨v,_,.inl (by rw[sp];exact hx T),hJ T⟩)
  (λvs s=>hT vs s.1 s.2) (λi o ho zI vs s w hv _=>(hR i o ho zI).2 vs s.1 s.2 w hv) (λvs c o s w hj ho h t rest hs cZ=>hC vs c o s.1 s.2 w hj ho h t rest hs λv C' l' w'=>cZ v (C',l') w') (λvs s w=>hk vs s.1 s.2 w) (s:=(C,l)) h0 n
end Go.Mt
