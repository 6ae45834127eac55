/-
  Part 4 of what stands behind the last text.
-/
import Derived.Lib.SlicesDelete
import Derived.Test.YtfcjiloojkjaeaaGreatDoorShelf
import Derived.Test.YtfcjiloojkjaeaaGreatDoorAnsPq3
set_option linter.all false
set_option maxHeartbeats 16000000
set_option maxRecDepth 100000
open Array renaming getElem?_eq_some_iff→eM,getElem?_mapIdx→Nb,getElem?_setIfInBounds_ne→tY,getElem?_toList→C3,getElem_map→zkd,getElem_range→zkZ,getElem_toList→zlo,length_toList→Es,toList_modify→zoM
open Go renaming Act→vX,Addr→bC,Calls→gT,ChanDir→Tz,Deferred→Gv,Exit→oP,Frame→dV,FuncId→aP,Goroutine→bE,Item→dZ,MapEntry→pF,Oper→aZ,Operand→cN,Program→cD,TypeId→aM,TypeInfo→wG,Value→aF,World→aE,execOp→aO,heap_alloc_new→gV,info_parts→C8,run_append_room→zvV,run_storeCells_at→zyD,run_underlying→xZ,setRow_heap→Lr,size_zeroCells→Z6,undef→aA,wpList_plain→Tm,yielded→dL
open Go.Act renaming eval→xB,mk→bL,put→cE
open Go.Addr renaming add_lit→K7
open Go.Builtin renaming append_→xR,clear_→S8,copy_→Eg,delete_→Lh,zeroCells→qK
open Go.Code renaming region→F8
open Go.Conc renaming base→Jj,enter_at→zp8,listed→wX,seen_none→Ct,stepG_value→zkD
open Go.ConcR.Gen renaming body_add→O2,body_wait→U0
open Go.Deferred renaming ofValue→Cz
open Go.Frame renaming enter→Ic
open Go.Instr renaming checkKey→Ij,findAsking→Mm,findKey→My,findNow→Hl,keyThatStays→Qk,lookup→Ar,makeFunc→zp9,mapUpdate→He,sameBits→zc5,sameNow→xE
open Go.MapKept renaming run_getObj_map→zat,run_setObj_map→Wl
open Go.MemAct renaming ofEvent→jU,touch?→sY
open Go.Op renaming mapUpdate→zv7,maxDepth→Ug
open Go.Oper renaming wp→C5
open Go.Proofs.Tryz renaming checked→vR,func114→ztm,func117→zxO,func119→zqj,ntmps114→ztz,ntmps117→zo6,ntmps119→zoK,prog→aK,underlying38→X4,underlying66→zxG,underlying69→zmj
open Go.Region renaming wanted→dI
open Go.Result renaming andThen→vW,andThen_ok→Gx,ok→xH
open Go.RowKit renaming Below→cH
open Go.RowKit.Below renaming heap_alloc→qA,heap_setCell→dX,refl→gD
open Go.Sem renaming getObj→zqF,run→bN,run_bind→G3,run_pure→Kl
open Go.Value renaming agg→zn8,cells→Vz,slice→Rl
open Go.World renaming cell?_of_block→Bs,setChan→Mp,size_setCell→xG
open List renaming any_eq_true→Ws,append_assoc→Jx,append_nil→Og,countP_cons→Nh,drop_drop→ztX,drop_eq_getElem_cons→zgs,filter_append→Qt,filter_eq_nil_iff→zuZ,filter_eq_self→zez,find?_eq_none→zgA,find?_some→zlH,foldl_cons→Qz,getD_cons_succ→Ey,getD_cons_zero→Dy,getElem?_drop→Z0,getElem?_eq_getElem→oQ,getElem?_eq_some_iff→lX,getElem?_set→za8,getElem?_take→Wu,getElem_mem→zsy,length_append→j5,length_drop→zC,length_eq_zero_iff→zwd,length_modify→Nv,length_set→zml,length_take→rU,map_append→Ud,map_cons→jO,map_nil→uN,map_toArray→uP,mem_append→Fq,mem_cons→mB,mem_cons_of_mem→Rj,mem_filter→Mg,mem_iff_getElem→Mz,mem_iff_getElem?→yY,mem_map→Sl,mem_of_find?_eq_some→zlP,mem_of_getElem?→eI,mem_of_mem_drop→zdF,mem_range→Ei,mem_singleton→yM,nodup_append→znA,nodup_cons→Dv,nodup_nil→X9,not_mem_nil→nD,range→iL,setIfInBounds_toArray→fS,set_append_left→zsQ,set_cons_succ→dW,set_cons_zero→dU,size_toArray→Bz,take_add_one→De,take_append_drop→zx8,take_append_of_le_length→Fy,take_of_length_le→El,take_take→Ps
open Nat renaming add_mul→Xd,add_zero→Ui,le_max_left→zxH,le_refl→bM,le_trans→eE,lt_irrefl→J9,lt_of_lt_of_le→jP,min_self→zj2,mod_two_eq_zero_or_one→zv8,mul_le_mul_right→Hg,mul_one→zub,zero_le→lU
open Option renaming bind_some→vN
open Option.some renaming inj→cS,injEq→jQ
open Prod renaming fst→vQ,snd→zwA
noncomputable section
namespace Go
theorem cV{P:Prop}(h:P:=by unfold parts;simp[e]):P:=h
theorem zeP{P:Prop}(h:P:=by simp[Act.eval,Act.put];first|exact⟨by simpa using hA,by omega⟩|simpa[zd5] using hA|(simp at hA;simp[hA])):P:=h
theorem zek{P:Prop}(h:P:=by simp[Act.eval,Act.put]):P:=h
theorem ztS{P:Prop}(h:P:=by rw[j5,l1,vK];have:=Xd i (n-j) 1;omega):P:=h
theorem zyl{P:Prop}(h:P:=by rw[j5,l1,vK];have:=Xd i (n-j) 2;omega):P:=h
theorem zeO{P:Prop}(h:P:=by unfold parts;simp):P:=h
end Go
namespace Go.Proofs.YtfcjiloojkjaeaaGreatDoor
open Go.RowKit
structure fP (b:b6):Prop where
 opn:∀(i j:Nat) (d e:bO),b.recs[i]? =some d->b.recs[j]? =some e->cU d=true->cU e=true->(d.c=e.c\/d.l=e.l\/(d.o=e.o/\0<d.o))->i=j
 last:∀(i j:Nat) (d e:bO),b.recs[i]? =some d->cU d=true->b.recs[j]? =some e->e.c=d.c->j<=i
 wt:∀x∈b.wait,∃(i:Nat) (d:bO),b.recs[i]? =some d/\cU d=true/\d.c=x.c/\d.o=0
 bk:(b.back.map bH.c).Nodup
 bo:∀x∈b.back,gU b.recs x.c=none
variable {rs:List bO}{c:Int}
theorem znr (h:∀(i:Nat) (d:bO),rs[i]? =some d->cU d=true->d.c≠c):gU rs c=none:=by
 cases ho:gU rs c with
 |none=>rfl
 |some i=>
  obtain⟨d,h1,h2,h3⟩:=zZ ho
  grind
theorem Ju (h:gU rs c=none):∀(i:Nat) (d:bO),rs[i]? =some d->cU d=true->d.c≠c:=by
 intro i d hd ho e;have:(gU rs c).isSome=true:=by
  rw[zbY,Ws];exact⟨d,eI hd,by unfold Bu;rw[ho,e];simp⟩
 simp_all
variable {b:b6}{i:Nat}{d:bO}
theorem fP.at_ (h:fP b)(hd:b.recs[i]? =some d)(ho:cU d=true):gU b.recs d.c=some i:=by
 cases e:gU b.recs d.c with
 |none=>exact absurd rfl (Ju e i d hd ho)
 |some j=>
  obtain⟨d',h1,h2,h3⟩:=zZ e;rw[h.opn j i d' d h1 hd h3 ho (.inl h2)]
theorem Gy {r:bO}(h:(rs++[r])[i]? =some d):(i<rs.length/\rs[i]? =some d)\/(i=rs.length/\d=r):=by grind
theorem zfE {r:bO}(h:rs[i]? =some d):(rs++[r])[i]? =some d:=by grind
variable {f:bO->bO}
theorem y6 {j:Nat}{z:bO}(h:(rs.modify i f)[j]? =some z):∃d,rs[j]? =some d/\((i=j/\z=f d)\/(i≠j/\z=d)):=by grind
theorem Zg {j:Nat}(h:rs[j]? =some d)(aS:i≠j):(rs.modify i f)[j]? =some d:=by simp_all
theorem zhZ (h:rs[i]? =some d):(rs.modify i f)[i]? =some (f d):=by simp_all
theorem zxu {xs:List bH}(h:(uL xs c).isSome=false):∀x∈xs,x.c≠c:=by
 unfold uL at h;simp_all
variable {o:fG}{l:Int}
theorem zbT (h:l∈oX o rs):∀(i:Nat) (d:bO),rs[i]? =some d->cU d=true->d.l≠l:=by
 intro i d hd ho e;unfold oX yL at h;have h2:=(Mg.1 h).2;have:sC rs l=true:=by unfold sC;exact Ws.2 ⟨d,eI hd,by simp[e,ho]⟩
 simp_all
variable {op:Int}
theorem zgg (h1:∀d∈rs,1<=d.c)(h:¬0<dE rs op):∀(i:Nat) (d:bO),rs[i]? =some d->cU d=true->d.o≠op:=by
 intro i d hd ho e;unfold dE at h
 cases hf:rs.find? (x3 op) with
 |none=>
  have:=zgA.1 hf d (eI hd);unfold x3 at this;simp_all
 |some d'=>grind
theorem ze0 (hu:∀(i j:Nat) (d e:bO),rs[i]? =some d->rs[j]? =some e->cU d=true->cU e=true->d.o=op->e.o=op->i=j)(hd:rs[i]? =some d)(ho:cU d=true)(he:d.o=op):dE rs op=d.c:=by
 unfold dE
 cases hf:rs.find? (x3 op) with
 |none=>
  have:=zgA.1 hf d (eI hd);unfold x3 at this;simp_all
 |some d'=>
  obtain⟨j,hj⟩:=yY.1 (zlP hf);have hp:=zlH hf;unfold x3 at hp
  grind
theorem zvS (h:∀(i:Nat) (d:bO),rs[i]? =some d->cU d=true->d.o≠op):dE rs op=0:=by
 unfold dE
 cases hf:rs.find? (x3 op) with
 |none=>rfl
 |some d'=>
  obtain⟨j,hj⟩:=yY.1 (zlP hf);have hp:=zlH hf;unfold x3 at hp
  grind
theorem ziP (rs:List bO)(op:Int):(∃(i:Nat) (d:bO),rs[i]? =some d/\cU d=true/\d.o=op/\dE rs op=d.c)\/((∀(i:Nat) (d:bO),rs[i]? =some d->cU d=true->d.o≠op)/\dE rs op=0):=by
 unfold dE
 cases hf:rs.find? (x3 op) with
 |none=>
  refine .inr ⟨λi d hd ho e=>?_,rfl⟩;have:=zgA.1 hf d (eI hd);unfold x3 at this;simp_all
 |some d'=>
  obtain⟨j,hj⟩:=yY.1 (zlP hf);have hp:=zlH hf;unfold x3 at hp
  grind
variable {hh:Int}{wait back:List bH}
theorem fP.more (h:fP b){o:Int}{tt:Int}{clk:Int}(hc:gU b.recs c=none)(hl:∀(i:Nat) (d:bO),b.recs[i]? =some d->cU d=true->d.l≠l)(ho:o=0\/∀(i:Nat) (d:bO),b.recs[i]? =some d->cU d=true->d.o≠o)
  (hw:∀x∈wait,x∈b.wait\/(x.c=c/\o=0)) (hb:(back.map bH.c).Nodup) (sD:∀x∈back,x∈b.back/\x.c≠c):fP {b with recs:=b.recs++[⟨c,l,o,clk,hh,tt,eP⟩],wait:=wait,back:=back}:=by
 have hop:cU ⟨c,l,o,clk,hh,tt,eP⟩=true:=by unfold cU;rw[zbq];rfl
 refine⟨λi j d e hi hj hd he hx=>?_,λi j d e hi hd hj hx=>?_,λx hx=>?_,hb,λx hx=>?_⟩
 .rcases Gy hi with⟨yN,Dn⟩|⟨rfl,rfl⟩<;>rcases Gy hj with⟨Kf,Py⟩|⟨rfl,rfl⟩
  .exact h.opn i j d e Dn Py hd he hx
  .exfalso
   rcases hx with hx|hx|⟨hx,h0⟩
   .exact Ju hc i d Dn hd hx
   .exact hl i d Dn hd hx
   grind
  .exfalso
   rcases hx with hx|hx|⟨hx,h0⟩
   .exact Ju hc j e Py he hx.symm
   .grind
   grind
  .rfl
 .rcases Gy hi with⟨yN,Dn⟩|⟨rfl,rfl⟩<;>rcases Gy hj with⟨Kf,Py⟩|⟨rfl,rfl⟩
  .exact h.last i j d e Dn hd Py hx
  .exact absurd hx.symm (Ju hc i d Dn hd)
  .omega
  .exact bM _
 .rcases hw x hx with hx|⟨hx,h0⟩
  .obtain⟨i,d,h1,h2⟩:=h.wt x hx
   exact⟨i,d,zfE h1,h2⟩
  .exact⟨b.recs.length,_,by simp_all,hop,hx.symm,h0⟩
 .obtain⟨h1,h2⟩:=sD x hx
  refine znr λi d hd y9=>?_;rcases Gy hd with⟨_,h3⟩|⟨_,rfl⟩
  .exact Ju (h.bo x h1) i d h3 y9
  grind
theorem fP.ended (h:fP b)(hd:b.recs[i]? =some d)(Et:cU d=true){e:ByteArray}(he:(e.toList==[111,112,101,110])=false)(hw:∀x∈wait,x∈b.wait/\x.c≠d.c)(hb:(back.map bH.c).Nodup)(sD:∀x∈back,x∈b.back\/x.c=d.c):
 fP {b with recs:=vY b i e,wait:=wait,back:=back}:=by
 have kR:∀z:bO,cU {z with t:=b.clk,e:=e}=false:=λz=>he;have old:∀(j:Nat) (z:bO),(vY b i e)[j]? =some z->cU z=true->i≠j/\b.recs[j]? =some z:=λj z hj hz=>by
  obtain⟨d',h1,⟨_,rfl⟩|⟨h2,rfl⟩⟩:=y6 hj
  .simp_all
  .exact⟨h2,h1⟩
 refine⟨λp q x y hp hq hx hy hh=>?_,λp q x y hp hx hq hh=>?_,λx hx=>?_,hb,λx hx=>?_⟩
 .exact h.opn p q x y (old p x hp hx).2 (old q y hq hy).2 hx hy hh
 .obtain⟨d',h1,h2⟩:=y6 hq
  refine h.last p q x d' (old p x hp hx).2 hx h1 ?_
  grind
 .obtain⟨h1,h2⟩:=hw x hx
  obtain⟨j,z,h3,h4,h5,h6⟩:=h.wt x h1;have aS:i≠j:=λe=>by grind
  exact⟨j,z,Zg h3 aS,h4,h5,h6⟩
 .refine znr λj z hj hz=>?_
  obtain⟨h1,h2⟩:=old j z hj hz;rcases sD x hx with h3|h3
  .exact Ju (h.bo x h3) j z h2 hz
  .rw[h3]
   exact λe=>h1 (h.opn i j d z hd h2 Et hz (.inl e.symm))
theorem fP.heard (h:fP b)(hd:b.recs[i]? =some d)(Et:cU d=true)(hop:∀(j:Nat) (z:bO),b.recs[j]? =some z->cU z=true->z.o≠op)(hw:∀x∈wait,x∈b.wait/\x.c≠d.c):
 fP {b with recs:=b.recs.modify i λd=>{d with o:=op,h:=hh},wait:=wait}:=by
 have zK:∀z:bO,cU {z with o:=op,h:=hh}=cU z:=λz=>rfl;refine⟨λp q x y hp hq hx hy he=>?_,λp q x y hp hx hq he=>?_,λx hx=>?_,h.bk,λx hx=>?_⟩
 .obtain⟨u,h1,⟨e1,rfl⟩|⟨e1,rfl⟩⟩:=y6 hp<;>obtain⟨v,h2,⟨e2,rfl⟩|⟨e2,rfl⟩⟩:=y6 hq
  .omega
  .refine h.opn p q u y h1 h2 hx hy ?_
   grind
  .refine h.opn p q x v h1 h2 hx hy ?_
   grind
  .exact h.opn p q x y h1 h2 hx hy he
 .obtain⟨u,h1,e1⟩:=y6 hp
  obtain⟨v,h2,e2⟩:=y6 hq;have hu:cU u=true/\x.c=u.c:=by grind
  have hv:y.c=v.c:=by grind
  exact h.last p q u v h1 hu.1 h2 (by rw[<-hv,<-hu.2];exact he)
 .obtain⟨h1,h2⟩:=hw x hx
  obtain⟨j,z,h3,h4,h5,h6⟩:=h.wt x h1;have aS:i≠j:=λe=>by grind
  exact⟨j,z,Zg h3 aS,h4,h5,h6⟩
 .refine znr λj z hj hz=>?_
  obtain⟨u,h1,e1⟩:=y6 hj;rcases e1 with⟨_,rfl⟩|⟨_,rfl⟩
  .exact Ju (h.bo x hx) j u h1 hz
  .exact Ju (h.bo x hx) j z h1 hz
variable {bt:b6×List UInt8}
def fP.log (h:fP bt.1):fP (Em bt):=⟨h.opn,h.last,h.wt,h.bk,h.bo⟩
theorem fP.zero (o:fG):fP (lV o):=⟨λi j d e h=>by simp[lV] at h,λi j d e h=>by simp[lV] at h,λx hx=>by simp[lV] at hx,X9,λx hx=>by simp[lV] at hx⟩
theorem Y0:(vT.toList==[111,112,101,110])=false:=by decide+kernel
theorem zhb:(vS.toList==[111,112,101,110])=false:=by decide+kernel
theorem zaq:(uK.toList==[111,112,101,110])=false:=by decide+kernel
theorem fP.rings (h:fP b)(c:bH):fP (o8 b c).1:=by
 unfold o8;split
 .exact h
 .rename_i hk
  simp only[Bool.or_eq_true,not_or,Bool.not_eq_true] at hk;have hc:gU b.recs c.c=none:=Option.isSome_eq_false_iff.1 hk.1|>Option.isNone_iff_eq_none.1;have hb:=zxu hk.2;split
  .refine⟨h.opn,h.last,h.wt,?_,λx hx=>?_⟩
   .show((b.back++[c]).map bH.c).Nodup
    rw[Ud];refine znA.2 ⟨h.bk,aQ,λa ha e he=>?_⟩
    grind
   .rcases Fq.1 hx with hx|hx
    .exact h.bo x hx
    simp_all
  .rename_i l ls hf
   exact h.more (l:=l) hc (zbT Lc) (.inl rfl) (wait:=tJ b.wait c) (λx hx=>by
    have:=(za5 b.wait c).mem_iff.1 hx;rcases mB.1 this with rfl|h'
    .exact .inr ⟨rfl,rfl⟩
    .exact .inl h') h.bk (λx hx=>⟨hx,hb x hx⟩)
theorem fP.answers (h:fP b)(hr:RInv b)(op:Int):fP (nL b op).1:=by
 unfold nL;split
 .exact h
 .rename_i ht
  have hn:=zgg (λd hd=>(hr.recB d hd).1) ht;split
  .exact h
  .rename_i c cs hw
   split
   .exact h
   .rename_i i hi
    obtain⟨d,h1,h2,h3⟩:=zZ hi;exact h.heard h1 h3 hn (wait:=dK b.wait c.c) λx hx=>⟨(Fb hx).1,by rw[h2];exact(Fb hx).2⟩
theorem fP.returns (h:fP b)(hr:RInv b)(op:Int):fP (l9 b op).1:=by
 unfold l9;split
 .exact h
 .rename_i ht
  have hn:=zgg (λd hd=>(hr.recB d hd).1) ht;split
  .exact h
  .rename_i c cs hw
   split
   .exact h
   .rename_i l ls hf
    exact h.more (l:=l) (h.bo c (by rw[hw];simp)) (zbT Lc) (.inr hn) (wait:=b.wait) (back:=dK b.back c.c) (λx hx=>.inl hx) (zfK h.bk) (λx hx=>Fb hx)
theorem fP.hangs (h:fP b)(c:Int):fP (mP b c).1:=by
 unfold mP;split
 .rename_i i hi
  obtain⟨d,h1,h2,h3⟩:=zZ hi;have hw:∀x∈dK b.wait (Da b.recs i),x∈b.wait/\x.c≠d.c:=λx hx=>⟨(Fb hx).1,by rw[<-Sx h1];exact(Fb hx).2⟩;split
  .exact h.ended h1 h3 Y0 hw h.bk λx hx=>.inl hx
  .exact h.ended h1 h3 zhb hw h.bk λx hx=>.inl hx
 .split
  .exact⟨h.opn,h.last,h.wt,zfK h.bk,λx hx=>h.bo x (Fb hx).1⟩
  .exact h
theorem fP.tire {t:List UInt8}{x:bH}(h:fP b):fP (mD (b,t) x).1:=by
 unfold mD;split
 .exact h
 .rename_i i hi
  split
  .obtain⟨d,h1,h2,h3⟩:=zZ hi
   refine h.ended (wait:=dK b.wait (Da b.recs i)) (back:=b.back++[x]) h1 h3 zaq (λy hy=>⟨(Fb hy).1,by rw[<-Sx h1];exact(Fb hy).2⟩) ?_ λy hy=>?_
   .rw[Ud]
    refine znA.2 ⟨h.bk,aQ,λa ha e he=>?_⟩;obtain⟨y,hy,rfl⟩:=Sl.1 ha;simp at he;subst he;exact λe=>Ju (h.bo y hy) i d h1 h3 (by rw[h2,e])
   grind
  .exact h
theorem fP.tires:∀(xs:List bH) (b:b6) (t:List UInt8),fP b->fP (xs.foldl mD (b,t)).1:=by
 intro xs
 induction xs with
 |nil=>intro b t h;exact h
 |cons x xs ih=>
  intro b t h;rw[Qz];have h1:=h.tire (t:=t) (x:=x);simp_all
theorem fP.step (h:fP b)(hr:RInv b)(e:dS):fP (dR b e).1:=by
 unfold dR;split
 .exact h.rings _
 .split
  .exact h.answers hr _
  .split
   .exact h.returns hr _
   .split
    .exact h.hangs _
    .unfold tK
     exact fP.tires _ _ _ ⟨h.opn,h.last,h.wt,h.bk,h.bo⟩
theorem zfM {es:List dS}(h:eG o es=true):∀k,k<=es.length->fP (jH o es k):=by
 intro k
 induction k with
 |zero=>intro _;exact fP.zero o
 |succ k ih=>
  intro hk;have aT:k<es.length:=aC;rw[Ty (oQ aT)];exact fP.log ((ih aC).step (Hh h k aC).1 _)
end Go.Proofs.YtfcjiloojkjaeaaGreatDoor
namespace Go.Mt
open Go.Conc
inductive fL where
 |ask (i:Nat) (kind call anz:Int)
 |shut (i:Nat)
inductive gN where
 |mN (qs:List Nat)
 |mA (qs:List Nat) (a:Nat)
 |mS (qs:List Nat) (a:Nat)
 |mW (qs:List Nat)
 |mZ
 |op (c:Nat) (call:Int) (m:Nat)
 |an (c:Nat) (call:Int) (a:Nat) (m:Nat)
 |oD
 |wk (qs:List Nat) (k:Nat)
 |wr (qs:List Nat) (k:Nat) (a:Nat)
def quV (kind call:Int)(a:Nat):Value:=.agg #[.int .i64 kind,.int .i64 call,.chan (some a)]
def unQ:aF->Option (Int×Int×Nat)
 | .agg xs=>match xs.toList with
  |[.int .i64 kd,.int .i64 cl,.chan (some a)]=>some (kd,cl,a)
  |_=>none
 |_=>none
def zed (kd cl:Int)(a:Nat):unQ (quV kd cl a)=some (kd,cl,a):=rfl
variable {kd cl:Int}
theorem unQ_inv {v:aF}{a:Nat}(h:unQ v=some (kd,cl,a)):v=quV kd cl a:=by
 unfold unQ at h;split at h
 .rename_i xs
  split at h
  .rename_i e
   simp only[jQ,Prod.mk.injEq] at h;obtain⟨rfl,rfl,rfl⟩:=h;unfold quV;congr 1;exact Array.ext' e
  .cases h
 .cases h
def qa (qs:List Nat)(j:Nat):Nat:=qs.getD j 0
def Vn (c:Nat)(call:Int)(m:Nat)(v:aF):gN:=match unQ v with|some (kd,cl,a)=>.an c (if kd=1 then cl else call) a (m-1)|none=>.oD
def ze5 (i:Nat):fL->Bool
 | .ask j _ _ _=>j==i
 |_=>false
def oH (W:List fL)(k i:Nat):Nat:=(W.drop k).countP (ze5 i)
variable {W:List fL}
theorem zuz {k i:Nat}{anz:Int}(h:W[k]? =some (.ask i kd cl anz))(j:Nat):oH W k j=oH W (k+1) j+if j=i then 1 else 0:=by
 obtain⟨hl,he⟩:=lX.1 h;unfold oH;rw[zgs hl,he,Nh];by_cases e:j=i
 .subst e;simp[ze5]
 .have:¬i=j:=λx=>e x.symm
  simp[ze5,e,this]
theorem zI9 {k i:Nat}(h:W[k]? =some (.shut i))(j:Nat):oH W (k+1) j=oH W k j:=by
 obtain⟨hl,he⟩:=lX.1 h;unfold oH;rw[zgs hl,he,Nh];simp[ze5]
def Q2 (v:aF):List Nat:=match unQ v with|some (_,_,a)=>[a]|none=>[]
def Yn (qs:List Nat)(k:Nat)(v:aF):gN:=match unQ v with|some (_,_,a)=>.wr qs k a|none=>.oD
def Yh (W:List fL)(k:Nat)(v:aF):Prop:=match W[k]? with|some (.ask _ _ _ anz)=>v=.int .i64 anz|_=>False
def eU (N:Nat)(W:List fL):gN->Act gN
 | .mN qs=>if qs.length<N then .note (λl'=>∃a,l'=.mA qs a) else .add (.mW qs)
 | .mA qs a=>.add (.mS qs a)
 | .mS qs a=>.spawn [a] (.op a 0 (oH W 0 qs.length)) (.mN (qs++[a]))
 | .mW qs=>.spawn [] (.wk qs 0) .mZ
 | .mZ=>.wait
 | .op c call m=>.recv c (λv=>(unQ v).isSome=true/\0<m) (Vn c call m) .oD
 | .an c call a m=>.send a (λv=>v=.int .i64 call) (λ_=>[]) (λ_=>.op c call m)
 | .oD=>.done
 | .wk qs k=>match W[k]? with
  |none=>.done
  |some (.ask i kd cl _)=>.send (qa qs i) (λv=>∃a,v=quV kd cl a) Q2 (Yn qs k)
  |some (.shut i)=>.close (qa qs i) (.wk qs (k+1))
 | .wr qs k a=>.recv a (Yh W k) (λ_=>.wk qs (k+1)) .oD
def gN.pend:gN->Bool
 | .mS _ _| .mW _=>true
 |_=>false
def lM (W:List fL):Nat->Nat->Int
 |0,_=>0
 |k+1,i=>match W[k]? with
  |some (.ask j kd cl _)=>if i=j then(if kd=1 then cl else lM W k i) else lM W k i
  |_=>lM W k i
def fU (W:List fL):Nat->Nat->Bool
 |0,_=>false
 |k+1,i=>match W[k]? with
  |some (.shut j)=>if i=j then true else fU W k i
  |_=>fU W k i
structure WOk (N:Nat)(W:List fL):Prop where
 ask:∀k i kd cl anz,W[k]? =some (.ask i kd cl anz)->i<N/\fU W k i=false/\anz=lM W (k+1) i
 shut:∀k i,W[k]? =some (.shut i)->i<N/\fU W k i=false
 all:∀i,i<N->fU W W.length i=true
structure Ops (n:Nat)(ix:Nat->Nat)(q:Nat->Pj gN)(F:Nat->Pj gN->Prop):Prop where
 ne:∀j,j<n->ix j≠0
 inj:∀j j',j<n->j'<n->ix j=ix j'->j=j'
 at_:∀j,j<n->F j (q (ix j))
structure Qs (n:Nat)(qs:List Nat):Prop where
 len:qs.length=n
 inj:∀j j',j<n->j'<n->qa qs j=qa qs j'->j=j'
def Kb (W:List fL)(qs:List Nat)(k j:Nat)(p:Pj gN):Prop:=
 p=.run (.op (qa qs j) (lM W k j) (oH W k j))\/(fU W k j=true/\(p=.run .oD\/p=.over .oD))
inductive Yd (N:Nat)(W:List fL)(q:Nat->Pj gN)(ch:rV):Prop
 |a (n:Nat) (qs:List Nat) (ix:Nat->Nat) (l:gN):Qs n qs->n<=N->(l=.mN qs\/(n<N/\∃a,l=.mA qs a\/l=.mS qs a)\/(l=.mW qs/\n=N))->q 0=.run l->Ops n ix q (λj p=>p=.run (.op (qa qs j) 0 (oH W 0 j)))->
  (∀j,j<n->ch (qa qs j)=some false)->(∀i,i≠0->(∀j,j<n->i≠ix j)->q i=.gone)->Yd N W q ch
 |b (qs:List Nat) (ix:Nat->Nat) (iw k:Nat):Qs N qs->k<=W.length->iw≠0->(∀j,j<N->ix j≠iw)->(q 0=.run .mZ\/q 0=.waits)->(q iw=.run (.wk qs k)\/(k=W.length/\q iw=.over (.wk qs k)))->
  Ops N ix q (Kb W qs k)->(∀j,j<N->ch (qa qs j)=some (fU W k j))->(∀i,i≠0->i≠iw->(∀j,j<N->i≠ix j)->q i=.gone)->Yd N W q ch
 |c (qs:List Nat) (ix:Nat->Nat) (iw k i:Nat) (kd cl anz:Int) (a:Nat):Qs N qs->W[k]? =some (.ask i kd cl anz)->iw≠0->(∀j,j<N->ix j≠iw)->(q 0=.run .mZ\/q 0=.waits)->q iw=.run (.wr qs k a)->
  Ops N ix q (λj p=>if j=i then p=.run (.an (qa qs j) (lM W (k+1) j) a (oH W (k+1) j)) else Kb W qs k j p)->(∀j,j<N->ch (qa qs j)=some (fU W k j))->ch a=some false->(∀j,j<N->qa qs j≠a)->
  (∀i,i≠0->i≠iw->(∀j,j<N->i≠ix j)->q i=.gone)->Yd N W q ch
def Dp (N:Nat)(W:List fL)(D:aE->Prop):jV gN where
 act:=eU N W
 dep:=λl w=>match l with| .wk _ _=>D w|_=>True
 pend:=gN.pend
 cl:=λl=>match l with| .op _ _ _=>True|_=>False
 Inv:=Yd N W
 got:=λl v=>match l with| .op _ _ _=>Q2 v|_=>[]
section
variable {N:Nat}{W:List fL}
variable {l:gN}{ok:aF->Prop}{nx:aF->gN}
theorem zjK {c:Nat}{pub:aF->List Nat}(h:eU N W l=.send c ok pub nx):
 (∃c0 call m,l=.an c0 call c m/\ok=(λv=>v=.int .i64 call)/\pub=(λ_=>[])/\nx=λ_=>.op c0 call m)\/
 (∃qs k i kd cl anz,l=.wk qs k/\W[k]? =some (.ask i kd cl anz)/\c=qa qs i/\ok=(λv=>∃a,v=quV kd cl a)/\pub=Q2/\nx=Yn qs k):=by
 cases l with
 |mN qs=>simp only[eU] at h;split at h<;>cases h
 |an c0 call a m=>simp only[eU] at h;cases h;grind
 |wk qs k=>
  simp only[eU] at h
  grind
 |_=>simp only[eU] at h;cases h
theorem Wt {c:Nat}{sh:gN}(h:eU N W l=.recv c ok nx sh):
 (∃call m,l=.op c call m/\ok=(λv=>(unQ v).isSome=true/\0<m)/\nx=Vn c call m/\sh=.oD)\/(∃qs k,l=.wr qs k c/\ok=Yh W k/\nx=(λ_=>.wk qs (k+1))/\sh=.oD):=by
 cases l with
 |mN qs=>simp only[eU] at h;split at h<;>cases h
 |op c0 call m=>simp only[eU] at h;grind
 |wk qs k=>simp only[eU] at h;split at h<;>cases h
 |wr qs k a=>simp only[eU] at h;cases h;grind
 |_=>simp only[eU] at h;cases h
variable {nx:gN}
theorem zuV {c:Nat}(h:eU N W l=.close c nx):∃qs k i,l=.wk qs k/\W[k]? =some (.shut i)/\c=qa qs i/\nx=.wk qs (k+1):=by
 cases l with
 |mN qs=>simp only[eU] at h;split at h<;>cases h
 |wk qs k=>
  simp only[eU] at h
  grind
 |_=>simp only[eU] at h;cases h
theorem zGy (h:eU N W l=.add nx):(∃qs,l=.mN qs/\¬qs.length<N/\nx=.mW qs)\/∃qs a,l=.mA qs a/\nx=.mS qs a:=by
 cases l with
 |mN qs=>
  simp only[eU] at h
  grind
 |mA qs a=>simp only[eU] at h;grind
 |wk qs k=>simp only[eU] at h;split at h<;>cases h
 |_=>simp only[eU] at h;cases h
theorem zB7 {lc:gN}{pub:List Nat}(h:eU N W l=.spawn pub lc nx):(∃qs a,l=.mS qs a/\pub=[a]/\lc=.op a 0 (oH W 0 qs.length)/\nx=.mN (qs++[a]))\/∃qs,l=.mW qs/\pub=[]/\lc=.wk qs 0/\nx=.mZ:=by
 cases l with
 |mN qs=>simp only[eU] at h;split at h<;>cases h
 |mS qs a=>simp only[eU] at h;grind
 |mW qs=>simp only[eU] at h;simp_all
 |wk qs k=>simp only[eU] at h;split at h<;>cases h
 |_=>simp only[eU] at h;cases h
theorem zG7 (h:eU N W l=.done):l=.oD\/∃qs k,l=.wk qs k/\W[k]? =none:=by
 cases l with
 |mN qs=>simp only[eU] at h;split at h<;>cases h
 |oD=>exact .inl rfl
 |wk qs k=>
  simp only[eU] at h
  grind
 |_=>simp only[eU] at h;cases h
theorem zE2 (h:eU N W l=.wait):l=.mZ:=by
 cases l with
 |mN qs=>simp only[eU] at h;split at h<;>cases h
 |mZ=>rfl
 |wk qs k=>simp only[eU] at h;split at h<;>cases h
 |_=>simp only[eU] at h;cases h
theorem zDn {can:gN->Prop}(h:eU N W l=.note can):∃qs,l=.mN qs/\qs.length<N/\can=λl'=>∃a,l'=.mA qs a:=by
 cases l with
 |mN qs=>
  simp only[eU] at h
  grind
 |wk qs k=>simp only[eU] at h;split at h<;>cases h
 |_=>simp only[eU] at h;cases h
variable {anz:Int}
theorem zyq {k i:Nat}{kd cl:Int}(h:W[k]? =some (.ask i kd cl anz))(j:Nat):lM W (k+1) j=if j=i then(if kd=1 then cl else lM W k j) else lM W k j:=by simp only[lM,h]
theorem zsg {k i:Nat}{kd cl:Int}(h:W[k]? =some (.ask i kd cl anz))(j:Nat):fU W (k+1) j=fU W k j:=by simp only[fU,h]
theorem zG1 {k i:Nat}(h:W[k]? =some (.shut i))(j:Nat):lM W (k+1) j=lM W k j:=by simp only[lM,h]
theorem zoN {k i:Nat}(h:W[k]? =some (.shut i))(j:Nat):fU W (k+1) j=if j=i then true else fU W k j:=by simp only[fU,h]
def wk_lt {k:Nat}{x:fL}(h:W[k]? =some x):k<W.length:=(lX.1 h).1
end
section
variable {N:Nat}{W:List fL}{q:Nat->Pj gN}{ch:rV}
theorem znW {n:Nat}{ix:Nat->Nat}{iw:Nat}(hg:∀i,i≠0->i≠iw->(∀j,j<n->i≠ix j)->q i=.gone){i:Nat}{l:gN}(h:q i=.run l):i=0\/i=iw\/∃j,j<n/\i=ix j:=by grind
theorem zvI {qs:List Nat}{k j:Nat}{l:gN}(h:Kb W qs k j (.run l)):l=.op (qa qs j) (lM W k j) (oH W k j)\/(fU W k j=true/\l=.oD):=by
 rcases h with h|⟨h1,h|h⟩
 .cases h;exact .inl rfl
 .simp_all
 .cases h
theorem zhR {l:gN}(h:(∃qs,l=.mN qs)\/(∃qs a,l=.mA qs a)\/(∃qs a,l=.mS qs a)\/(∃qs,l=.mW qs)\/l=.mZ):(∀c ok pub nx,eU N W l≠ .send c ok pub nx)/\(∀c ok nx sh,eU N W l≠ .recv c ok nx sh)/\(∀c nx,eU N W l≠ .close c nx)/\eU N W l≠ .done:=by
 rcases h with⟨qs,rfl⟩|⟨qs,a,rfl⟩|⟨qs,a,rfl⟩|⟨qs,rfl⟩|rfl
 .simp only[eU]
  split<;>simp
 all_goals simp[eU]
theorem zmE {n:Nat}{qs:List Nat}{l:gN}(h:l=.mN qs\/(n<N/\∃a,l=.mA qs a\/l=.mS qs a)\/(l=.mW qs/\n=N)):(∃qs,l=.mN qs)\/(∃qs a,l=.mA qs a)\/(∃qs a,l=.mS qs a)\/(∃qs,l=.mW qs)\/l=.mZ:=by grind
section
variable {n:Nat}{qs:List Nat}{ix:Nat->Nat}{iw k i0:Nat}{i c a:Nat}{l l0:gN}
theorem Pl (hl:l0=.mN qs\/(n<N/\∃a,l0=.mA qs a\/l0=.mS qs a)\/(l0=.mW qs/\n=N))(h0:q 0=.run l0)(ho:Ops n ix q (λj p=>p=.run (.op (qa qs j) 0 (oH W 0 j))))(hg:∀i,i≠0->(∀j,j<n->i≠ix j)->q i=.gone)(hi:q i=.run l):(i=0/\l=l0)\/∃j,j<n/\i=ix j/\l=.op (qa qs j) 0 (oH W 0 j):=by
 rcases znW (iw:=0) (λi h1 _ h3=>hg i h1 h3) hi with rfl|rfl|⟨j,hj,rfl⟩
 .simp_all
 .simp_all
 .have:=ho.at_ j hj;grind
theorem Oy (h0:q 0=.run .mZ\/q 0=.waits)(cT:q iw=.run (.wk qs k)\/(k=W.length/\q iw=.over (.wk qs k)))(ho:Ops N ix q (Kb W qs k))(hg:∀i,i≠0->i≠iw->(∀j,j<N->i≠ix j)->q i=.gone)(hi:q i=.run l):
 (i=0/\l=.mZ)\/(i=iw/\l=.wk qs k)\/∃j,j<N/\i=ix j/\(l=.op (qa qs j) (lM W k j) (oH W k j)\/(fU W k j=true/\l=.oD)):=by
 rcases znW hg hi with rfl|rfl|⟨j,hj,rfl⟩
 .simp_all
 .simp_all
 .have:=ho.at_ j hj;rw[hi] at this
  exact .inr (.inr ⟨j,hj,rfl,zvI this⟩)
theorem Qv (h0:q 0=.run .mZ\/q 0=.waits)(cT:q iw=.run (.wr qs k a))(ho:Ops N ix q (λj p=>if j=i0 then p=.run (.an (qa qs j) (lM W (k+1) j) a (oH W (k+1) j)) else Kb W qs k j p))(hg:∀i,i≠0->i≠iw->(∀j,j<N->i≠ix j)->q i=.gone)(hi:q i=.run l):
 (i=0/\l=.mZ)\/(i=iw/\l=.wr qs k a)\/∃j,j<N/\i=ix j/\((j=i0/\l=.an (qa qs j) (lM W (k+1) j) a (oH W (k+1) j))\/(j≠i0/\(l=.op (qa qs j) (lM W k j) (oH W k j)\/(fU W k j=true/\l=.oD)))):=by
 rcases znW hg hi with rfl|rfl|⟨j,hj,rfl⟩
 .simp_all
 .simp_all
 .have:=ho.at_ j hj
  simp only[hi] at this;split at this
  .grind
  .rename_i e;exact .inr (.inr ⟨j,hj,rfl,.inr ⟨e,zvI this⟩⟩)
variable {ok:aF->Prop}{pub:aF->List Nat}{nx:aF->gN}{sh:gN}
theorem zdB (h0:q 0=.run .mZ\/q 0=.waits)(cT:q iw=.run (.wk qs k)\/(k=W.length/\q iw=.over (.wk qs k)))(ho:Ops N ix q (Kb W qs k))(hg:∀i,i≠0->i≠iw->(∀j,j<N->i≠ix j)->q i=.gone)(hi:q i=.run l)(ha:eU N W l=.send c ok pub nx):
 i=iw/\l=.wk qs k/\∃j kd cl anz,W[k]? =some (.ask j kd cl anz)/\c=qa qs j/\ok=(λv=>∃a,v=quV kd cl a)/\pub=Q2/\nx=Yn qs k:=by
 rcases Oy h0 cT ho hg hi with⟨rfl,rfl⟩|⟨rfl,rfl⟩|⟨j,hj,rfl,rfl|⟨_,rfl⟩⟩
 .cases ha
 .rcases zjK ha with⟨_,_,_,e,_⟩|⟨Po,k',j,kd,cl,anz,e,h1,h2,h3,h4,h5⟩
  .cases e
  .grind
 .cases ha
 .cases ha
theorem Zk (h0:q 0=.run .mZ\/q 0=.waits)(cT:q iw=.run (.wk qs k)\/(k=W.length/\q iw=.over (.wk qs k)))(ho:Ops N ix q (Kb W qs k))(hg:∀i,i≠0->i≠iw->(∀j,j<N->i≠ix j)->q i=.gone)(hi:q i=.run l)(ha:eU N W l=.recv c ok nx sh):
 ∃j,j<N/\i=ix j/\l=.op (qa qs j) (lM W k j) (oH W k j)/\c=qa qs j/\ok=(λv=>(unQ v).isSome=true/\0<oH W k j)/\nx=Vn c (lM W k j) (oH W k j)/\sh=.oD:=by
 rcases Oy h0 cT ho hg hi with⟨rfl,rfl⟩|⟨rfl,rfl⟩|⟨j,hj,rfl,rfl|⟨_,rfl⟩⟩
 .cases ha
 .rcases Wt ha with⟨_,_,e,_⟩|⟨_,_,e,_⟩<;>cases e
 .rcases Wt ha with⟨_,_,e,h1,h2,h3⟩|⟨_,_,e,_⟩<;>cases e
  grind
 .cases ha
theorem zcu (h0:q 0=.run .mZ\/q 0=.waits)(cT:q iw=.run (.wr qs k a))(ho:Ops N ix q (λj p=>if j=i0 then p=.run (.an (qa qs j) (lM W (k+1) j) a (oH W (k+1) j)) else Kb W qs k j p))(hg:∀i,i≠0->i≠iw->(∀j,j<N->i≠ix j)->q i=.gone)(hi:q i=.run l)(ha:eU N W l=.send c ok pub nx):
 i0<N/\i=ix i0/\l=.an (qa qs i0) (lM W (k+1) i0) a (oH W (k+1) i0)/\c=a/\ok=(λv=>v=.int .i64 (lM W (k+1) i0))/\pub=(λ_=>[])/\nx=λ_=>.op (qa qs i0) (lM W (k+1) i0) (oH W (k+1) i0):=by
 rcases Qv h0 cT ho hg hi with⟨rfl,rfl⟩|⟨rfl,rfl⟩|⟨j,hj,rfl,⟨rfl,rfl⟩|⟨_,rfl|⟨_,rfl⟩⟩⟩
 .cases ha
 .cases ha
 .rcases zjK ha with⟨_,_,_,e,h1,h2,h3⟩|⟨_,_,_,_,_,_,e,_⟩<;>cases e
  simp_all
 .cases ha
 .cases ha
theorem Yu (h0:q 0=.run .mZ\/q 0=.waits)(cT:q iw=.run (.wr qs k a))(ho:Ops N ix q (λj p=>if j=i0 then p=.run (.an (qa qs j) (lM W (k+1) j) a (oH W (k+1) j)) else Kb W qs k j p))(hg:∀i,i≠0->i≠iw->(∀j,j<N->i≠ix j)->q i=.gone)(hi:q i=.run l)(ha:eU N W l=.recv c ok nx sh):
 (i=iw/\l=.wr qs k a/\c=a/\ok=Yh W k/\nx=(λ_=>.wk qs (k+1)))\/∃j,j<N/\j≠i0/\i=ix j/\l=.op (qa qs j) (lM W k j) (oH W k j)/\c=qa qs j/\sh=.oD:=by
 rcases Qv h0 cT ho hg hi with⟨rfl,rfl⟩|⟨rfl,rfl⟩|⟨j,hj,rfl,⟨rfl,rfl⟩|⟨aS,rfl|⟨_,rfl⟩⟩⟩
 .cases ha
 .rcases Wt ha with⟨_,_,e,_⟩|⟨_,_,e,h1,h2,h3⟩<;>cases e
  simp_all
 .cases ha
 .rcases Wt ha with⟨_,_,e,h1,h2,h3⟩|⟨_,_,e,_⟩<;>cases e
  grind
 .cases ha
theorem zh3 (hl:l0=.mN qs\/(n<N/\∃a,l0=.mA qs a\/l0=.mS qs a)\/(l0=.mW qs/\n=N))(h0:q 0=.run l0)(ho:Ops n ix q (λj p=>p=.run (.op (qa qs j) 0 (oH W 0 j))))(hg:∀i,i≠0->(∀j,j<n->i≠ix j)->q i=.gone)(hi:q i=.run l)(ha:eU N W l=.send c ok pub nx):False:=by
 rcases Pl hl h0 ho hg hi with⟨rfl,rfl⟩|⟨j,hj,rfl,rfl⟩
 .exact(zhR (zmE hl)).1 _ _ _ _ ha
 .cases ha
theorem zfC (hl:l0=.mN qs\/(n<N/\∃a,l0=.mA qs a\/l0=.mS qs a)\/(l0=.mW qs/\n=N))(h0:q 0=.run l0)(ho:Ops n ix q (λj p=>p=.run (.op (qa qs j) 0 (oH W 0 j))))(hg:∀i,i≠0->(∀j,j<n->i≠ix j)->q i=.gone)(hi:q i=.run l)(ha:eU N W l=.recv c ok nx sh):∃j,j<n/\i=ix j/\l=.op (qa qs j) 0 (oH W 0 j)/\c=qa qs j:=by
 rcases Pl hl h0 ho hg hi with⟨rfl,rfl⟩|⟨j,hj,rfl,rfl⟩
 .exact((zhR (zmE hl)).2.1 _ _ _ _ ha).elim
 .rcases Wt ha with⟨_,_,e,h1,h2,h3⟩|⟨_,_,e,_⟩<;>cases e
  grind
end
end
variable {L:Type}
theorem num_upd (q:Nat->Pj L)(s:Nat):∀n,num q n<=num (bJ q s .gone) n+1:=by
 have ind:∀n,num q n<=num (bJ q s .gone) n+(if s<n then 1 else 0):=by
  intro n
  induction n with
  |zero=>simp[num]
  |succ n ih=>
   simp only[num];have hc:(q n).c<=1:=by cases q n<;>simp[Pj.c]
   by_cases h:n=s
   .grind
   .rw[upd_ne _ _ h]
    grind
 grind
theorem zE3 :∀(S:List Nat) (q:Nat->Pj L),(∀i,i∉S->q i=.gone)->∀n,num q n<=S.length:=by
 intro S
 induction S with
 |nil=>
  intro q h n
  induction n with
  |zero=>simp[num]
  |succ n ih=>simp only[num];rw[h n aQ];simpa[Pj.c] using ih
 |cons s S ih=>
  intro q h n;have h1:=num_upd q s n;have h2:=ih (bJ q s .gone) (λi hi=>by
   by_cases e:i=s
   .subst e;exact upd_same _ _ _
   .rw[upd_ne _ _ e];exact h i (by simp[e,hi])) n
  grind
section
variable {N:Nat}{W:List fL}{q:Nat->Pj gN}{ch:rV}
theorem zrf (ch:rV):ch.opn []=ch:=by funext c;simp[rV.opn]
theorem zrC {ch:rV}{a c:Nat}(h:c≠a):ch.opn [a] c=ch c:=by simp[rV.opn,h]
theorem zvO (ch:rV)(a:Nat):ch.opn [a] a=some false:=by simp[rV.opn]
theorem Yg {qs:List Nat}{n:Nat}(h:qs.length=n){j:Nat}(hj:j<n)(a:Nat):qa (qs++[a]) j=qa qs j:=by
 unfold qa
 grind
theorem zhv {qs:List Nat}{n:Nat}(h:qs.length=n)(a:Nat):qa (qs++[a]) n=a:=by
 unfold qa;simp_all
theorem ztI {D:aE->Prop}{l:gN}(h:(∃qs,l=.mN qs)\/(∃qs a,l=.mA qs a)\/(∃qs a,l=.mS qs a)\/(∃qs,l=.mW qs)\/l=.mZ):¬(Dp N W D).Blocked q ch l:=by
 unfold jV.Blocked;split
 .rename_i e;exact((zhR h).1 _ _ _ _ e).elim
 .rename_i e;exact((zhR h).2.1 _ _ _ _ e).elim
 .exact id
theorem zAd (N:Nat)(W:List fL)(D:aE->Prop)(hW:WOk N W)(hN:N<=1000000):(Dp N W D).Ok where
 send1:=by
  intro q ch i j li lj c ok pub nx sP Xj pX hI hi hj ha hb
  cases hI with
  |a n qs ix l0 hq hn hl h0 ho hc hg=>exact(zh3 hl h0 ho hg hi ha).elim
  |b qs ix iw k hq hk hw aS h0 cT ho hc hg=>rw[(zdB h0 cT ho hg hi ha).1,(zdB h0 cT ho hg hj hb).1]
  |c qs ix iw k i0 kd cl anz a hq hk hw aS h0 cT ho hc q9 oM hg=>rw[(zcu h0 cT ho hg hi ha).2.1,(zcu h0 cT ho hg hj hb).2.1]
 recv1:=by
  intro q ch i j li lj c ok nx sh sP pX x6 hI hi hj ha hb
  cases hI with
  |a n qs ix l0 hq hn hl h0 ho hc hg=>
   obtain⟨j1,h1,rfl,_,c1⟩:=zfC hl h0 ho hg hi ha;obtain⟨j2,h2,rfl,_,c2⟩:=zfC hl h0 ho hg hj hb;rw[hq.inj j1 j2 h1 h2 (c1.symm.trans c2)]
  |b qs ix iw k hq hk hw aS h0 cT ho hc hg=>
   obtain⟨j1,h1,rfl,_,c1,_⟩:=Zk h0 cT ho hg hi ha;obtain⟨j2,h2,rfl,_,c2,_⟩:=Zk h0 cT ho hg hj hb;rw[hq.inj j1 j2 h1 h2 (c1.symm.trans c2)]
  |c qs ix iw k i0 kd cl anz a hq hk hw aS h0 cT ho hc q9 oM hg=>
   rcases Yu h0 cT ho hg hi ha with⟨rfl,_,rfl,_⟩|⟨j1,h1,_,rfl,_,c1,_⟩<;>rcases Yu h0 cT ho hg hj hb with⟨rfl,_,e2,_⟩|⟨j2,h2,_,rfl,_,c2,_⟩
   .rfl
   .grind
   .grind
   .rw[hq.inj j1 j2 h1 h2 (c1.symm.trans c2)]
 sendC:=by
  intro q ch i l c ok pub nx hI hi ha
  cases hI with
  |a n qs ix l0 hq hn hl h0 ho hc hg=>exact(zh3 hl h0 ho hg hi ha).elim
  |b qs ix iw k hq hk hw aS h0 cT ho hc hg=>
   obtain⟨rfl,rfl,j,kd,cl,anz,h1,rfl,_⟩:=zdB h0 cT ho hg hi ha;obtain⟨h2,h3,_⟩:=hW.ask k j kd cl anz h1;rw[hc j h2,h3]
  |c qs ix iw k i0 kd cl anz a hq hk hw aS h0 cT ho hc q9 oM hg=>
   obtain⟨_,_,_,rfl,_⟩:=zcu h0 cT ho hg hi ha;exact q9
 recvC:=by
  intro q ch i l c ok nx sh hI hi ha
  cases hI with
  |a n qs ix l0 hq hn hl h0 ho hc hg=>
   obtain⟨j1,h1,rfl,_,rfl⟩:=zfC hl h0 ho hg hi ha;exact⟨_,hc j1 h1⟩
  |b qs ix iw k hq hk hw aS h0 cT ho hc hg=>
   obtain⟨j1,h1,rfl,_,rfl,_⟩:=Zk h0 cT ho hg hi ha;exact⟨_,hc j1 h1⟩
  |c qs ix iw k i0 kd cl anz a hq hk hw aS h0 cT ho hc q9 oM hg=>
   rcases Yu h0 cT ho hg hi ha with⟨rfl,_,rfl,_⟩|⟨j1,h1,_,rfl,_,rfl,_⟩
   .exact⟨_,q9⟩
   simp_all
 meet:=by
  intro q ch i j li lj c ok pub nx sP pX sh v hI hi hj ha hb hv hp
  cases hI with
  |a n qs ix l0 hq hn hl h0 ho hc hg=>exact(zh3 hl h0 ho hg hi ha).elim
  |b qs ix iw k hq hk hw aS h0 cT ho hc hg=>
   obtain⟨rfl,rfl,j0,kd,cl,anz,h1,rfl,rfl,rfl,rfl⟩:=zdB h0 cT ho hg hi ha;obtain⟨j1,Kf,rfl,rfl,uZ,rfl,rfl,_⟩:=Zk h0 cT ho hg hj hb;obtain rfl:=hq.inj j0 j1 (hW.ask k j0 kd cl anz h1).1 Kf uZ;obtain⟨a,rfl⟩:=hv;have Uw:ch a=none:=hp a (by simp[Q2,zed]);have oM:∀j,j<N->qa qs j≠a:=λj hj e=>by grind
   have hR:=zuz h1 j0;rw[if_pos rfl] at hR;refine⟨⟨by simp[zed],aC⟩,?_⟩;show Yd N W (bJ (bJ q i (.run (.wr qs k a))) (ix j0) (.run (.an (qa qs j0) (if kd=1 then cl else lM W k j0) a (oH W k j0-1)))) (ch.opn [a]);rw[show oH W k j0-1=oH W (k+1) j0 by omega];refine .c qs ix i k j0 kd cl anz a hq h1 hw aS ?_ ?_ ⟨ho.ne,ho.inj,λj hj=>?_⟩ (λj hj=>by rw[zrC (oM j hj)];exact hc j hj) (zvO _ _) oM λi' g0 g1 g2=>?_
   .rw[upd_ne _ _ (Ne.symm (ho.ne j0 Kf)),upd_ne _ _ (Ne.symm hw)];exact h0
   .rw[upd_ne _ _ (Ne.symm (aS j0 Kf)),upd_same]
   .by_cases e:j=j0
    .subst e;rw[if_pos rfl,upd_same,zyq h1,if_pos rfl]
    .rw[if_neg e,upd_ne _ _ (λh=>e (ho.inj j j0 hj Kf h)),upd_ne _ _ (aS j hj)]
     exact ho.at_ j hj
   .rw[upd_ne _ _ (g2 j0 Kf),upd_ne _ _ g1];exact hg i' g0 g1 g2
  |c qs ix iw k i0 kd cl anz a hq hk hw aS h0 cT ho hc q9 oM hg=>
   obtain⟨eY,rfl,rfl,rfl,rfl,rfl,rfl⟩:=zcu h0 cT ho hg hi ha;rcases Yu h0 cT ho hg hj hb with⟨rfl,rfl,_,rfl,rfl⟩|⟨j1,Kf,_,rfl,_,uZ,_⟩
   .refine⟨?_,?_⟩
    .unfold Yh;rw[hk]
     show v=_;rw[(hW.ask k i0 kd cl anz hk).2.2];exact hv
    .rw[zrf]
     refine .b qs ix j (k+1) hq (wk_lt hk) hw aS ?_ (.inl (upd_same _ _ _)) ⟨ho.ne,ho.inj,λj' qR=>?_⟩ (λj' qR=>by rw[zsg hk];exact hc j' qR) λi' g0 g1 g2=>?_
     .rw[upd_ne _ _ (Ne.symm hw),upd_ne _ _ (Ne.symm (ho.ne i0 eY))];exact h0
     .rw[upd_ne _ _ (aS j' qR)]
      by_cases e:j'=i0
      .subst e;rw[upd_same];exact .inl rfl
      .rw[upd_ne _ _ (λh=>e (ho.inj j' i0 qR eY h))]
       have:=ho.at_ j' qR;rw[if_neg e] at this;unfold Kb at this⊢;have hR:=zuz hk j';rw[if_neg e,Ui] at hR;rw[zyq hk,if_neg e,zsg hk,<-hR];exact this
     .rw[upd_ne _ _ g1,upd_ne _ _ (g2 i0 eY)];exact hg i' g0 g1 g2
   grind
 shut:=by
  intro q ch i l c ok nx sh hI hi ha uZ
  cases hI with
  |a n qs ix l0 hq hn hl h0 ho hc hg=>
   obtain⟨j1,h1,rfl,_,rfl⟩:=zfC hl h0 ho hg hi ha;simp_all
  |b qs ix iw k hq hk hw aS h0 cT ho hc hg=>
   obtain⟨j1,h1,rfl,rfl,rfl,_,_,rfl⟩:=Zk h0 cT ho hg hi ha;have hx:fU W k j1=true:=by have:=hc j1 h1;rw[uZ] at this;injection this with this;exact this.symm
   refine⟨trivial,.b qs ix iw k hq hk hw aS ?_ ?_ ⟨ho.ne,ho.inj,λj hj=>?_⟩ hc λi' g0 g1 g2=>?_⟩
   .rw[upd_ne _ _ (Ne.symm (ho.ne j1 h1))];exact h0
   .rw[upd_ne _ _ (Ne.symm (aS j1 h1))];exact cT
   .by_cases e:j=j1
    .subst e;rw[upd_same];exact .inr ⟨hx,.inl rfl⟩
    .rw[upd_ne _ _ (λh=>e (ho.inj j j1 hj h1 h))];exact ho.at_ j hj
   .rw[upd_ne _ _ (g2 j1 h1)];exact hg i' g0 g1 g2
  |c qs ix iw k i0 kd cl anz a hq hk hw aS h0 cT ho hc q9 oM hg=>
   rcases Yu h0 cT ho hg hi ha with⟨rfl,_,rfl,_⟩|⟨j1,h1,Qo,rfl,rfl,rfl,rfl⟩
   .simp_all
   .have hx:fU W k j1=true:=by have:=hc j1 h1;rw[uZ] at this;injection this with this;exact this.symm
    refine⟨trivial,.c qs ix iw k i0 kd cl anz a hq hk hw aS ?_ ?_ ⟨ho.ne,ho.inj,λj hj=>?_⟩ hc q9 oM λi' g0 g1 g2=>?_⟩
    .rw[upd_ne _ _ (Ne.symm (ho.ne j1 h1))];exact h0
    .rw[upd_ne _ _ (Ne.symm (aS j1 h1))];exact cT
    .by_cases e:j=j1
     .subst e;rw[if_neg Qo,upd_same];exact .inr ⟨hx,.inl rfl⟩
     .rw[upd_ne _ _ (λh=>e (ho.inj j j1 hj h1 h))];exact ho.at_ j hj
    .rw[upd_ne _ _ (g2 j1 h1)];exact hg i' g0 g1 g2
 close:=by
  intro q ch i l c nx hI hi ha;obtain⟨Po,k',i0,rfl,cZ,rfl,rfl⟩:=zuV (N:=N) ha
  cases hI with
  |a n qs ix l0 hq hn hl h0 ho hc hg=>
   rcases Pl hl h0 ho hg hi with⟨rfl,rfl⟩|⟨j,hj,rfl,e⟩
   .simp_all
   .cases e
  |b qs ix iw k hq hk hw aS h0 cT ho hc hg=>
   rcases Oy h0 cT ho hg hi with⟨_,e⟩|⟨rfl,e⟩|⟨j,hj,rfl,e|⟨_,e⟩⟩<;>cases e;obtain⟨eY,hx⟩:=hW.shut k' i0 cZ;refine⟨by rw[hc i0 eY,hx],.b Po ix i (k'+1) hq (wk_lt cZ) hw aS ?_ (.inl (upd_same _ _ _)) ⟨ho.ne,ho.inj,λj hj=>?_⟩ (λj hj=>?_) λi' g0 g1 g2=>?_⟩
   .rw[upd_ne _ _ (Ne.symm hw)];exact h0
   .rw[upd_ne _ _ (aS j hj)]
    have:=ho.at_ j hj;unfold Kb at this⊢;rw[zG1 cZ,zoN cZ,zI9 cZ];refine this.imp id λh=>⟨?_,h.2⟩;split
    .rfl
    .exact h.1
   .rw[zoN cZ]
    by_cases e:j=i0
    .subst e;rw[if_pos rfl,upd_same]
    .rw[if_neg e,upd_ne _ _ (λh=>e (hq.inj j i0 hj eY h))];exact hc j hj
   .rw[upd_ne _ _ g1];exact hg i' g0 g1 g2
  |c qs ix iw k i1 kd cl anz a hq hk hw aS h0 cT ho hc q9 oM hg=>
   rcases Qv h0 cT ho hg hi with⟨_,e⟩|⟨_,e⟩|⟨j,hj,rfl,⟨_,e⟩|⟨_,e|⟨_,e⟩⟩⟩<;>cases e
 add:=by
  intro q ch i l nx hI hi ha;have ha:=zGy ha
  cases hI with
  |a n qs ix l0 hq hn hl h0 ho hc hg=>
   rcases Pl hl h0 ho hg hi with⟨rfl,rfl⟩|⟨j,hj,rfl,rfl⟩
   .have keep:∀l',(l'=.mN qs\/(n<N/\∃a,l'=.mA qs a\/l'=.mS qs a)\/(l'=.mW qs/\n=N))->Yd N W (bJ q 0 (.run l')) ch:=λl' Aw=>
     .a n qs ix l' hq hn Aw (upd_same _ _ _) ⟨ho.ne,ho.inj,λj hj=>by rw[upd_ne _ _ (ho.ne j hj)];exact ho.at_ j hj⟩ hc λi' g0 g1=>by rw[upd_ne _ _ g0];exact hg i' g0 g1
    rcases ha with⟨Po,rfl,h1,rfl⟩|⟨Po,a,rfl,rfl⟩
    .rcases hl with e|⟨_,_,e|e⟩|⟨e,_⟩<;>cases e
     refine⟨rfl,rfl,rfl,keep _ (.inr (.inr ⟨rfl,?_⟩))⟩;have:=hq.len;omega
    .rcases hl with e|⟨h1,_,e|e⟩|⟨e,_⟩<;>cases e
     exact⟨rfl,rfl,rfl,keep _ (.inr (.inl ⟨h1,a,.inr rfl⟩))⟩
   simp_all
  |b qs ix iw k hq hk hw aS h0 cT ho hc hg=>
   exfalso;rcases Oy h0 cT ho hg hi with⟨_,rfl⟩|⟨_,rfl⟩|⟨j,hj,_,rfl|⟨_,rfl⟩⟩<;>rcases ha with⟨_,e,_⟩|⟨_,_,e,_⟩<;>cases e
  |c qs ix iw k i0 kd cl anz a hq hk hw aS h0 cT ho hc q9 oM hg=>
   exfalso;rcases Qv h0 cT ho hg hi with⟨_,rfl⟩|⟨_,rfl⟩|⟨j,hj,_,⟨_,rfl⟩|⟨_,rfl|⟨_,rfl⟩⟩⟩<;>rcases ha with⟨_,e,_⟩|⟨_,_,e,_⟩<;>cases e
 spawn:=by
  intro q ch i l pub lc nx kk hI hi ha;have ha:=zB7 ha
  cases hI with
  |a n qs ix l0 hq hn hl h0 ho hc hg=>
   rcases Pl hl h0 ho hg hi with⟨rfl,rfl⟩|⟨j,hj,rfl,rfl⟩
   .rcases ha with⟨Po,a,rfl,rfl,rfl,rfl⟩|⟨Po,rfl,rfl,rfl,rfl⟩
    .rcases hl with e|⟨aT,_,e|e⟩|⟨e,_⟩<;>cases e
     refine⟨rfl,rfl,rfl,λhk lR hp=>?_⟩;have Uw:ch a=none:=hp a aQ;have oM:∀j,j<n->qa qs j≠a:=λj hj e=>by grind
     have eR:∀j,j<n->ix j≠kk:=λj hj e=>by have:=ho.at_ j hj;simp_all
     have I5:∀j,j<n+1->j<n\/j=n:=λj hj=>by omega
     refine .a (n+1) (qs++[a]) (λj=>if j<n then ix j else kk) _ ⟨by simp[hq.len],λj j' hj qR e=>?_⟩ aT (.inl rfl) ?_ ⟨λj hj=>?_,λj j' hj qR e=>?_,λj hj=>?_⟩ (λj hj=>?_) λi' g0 g1=>?_
     .rcases I5 j hj with h|rfl<;>rcases I5 j' qR with h'|rfl
      .rw[Yg hq.len h,Yg hq.len h'] at e;exact hq.inj j j' h h' e
      .rw[Yg hq.len h,zhv hq.len] at e;exact(oM j h e).elim
      .rw[Yg hq.len h',zhv hq.len] at e;simp_all
      .rfl
     .rw[upd_ne _ _ (Ne.symm lR),upd_same]
     .show(if j<n then ix j else kk)≠0
      split
      .rename_i h;exact ho.ne j h
      .exact lR
     .have e:(if j<n then ix j else kk)=(if j'<n then ix j' else kk):=e
      rcases I5 j hj with h|rfl<;>rcases I5 j' qR with h'|rfl
      .rw[if_pos h,if_pos h'] at e;exact ho.inj j j' h h' e
      .simp_all
      .grind
      .rfl
     .rcases I5 j hj with h|rfl
      .simp only[if_pos h]
       rw[upd_ne _ _ (eR j h),upd_ne _ _ (ho.ne j h),Yg hq.len h];exact ho.at_ j h
      .simp only[J9,if_false]
       rw[upd_same,zhv hq.len,hq.len]
     .rcases I5 j hj with h|rfl
      .rw[Yg hq.len h,zrC (oM j h)];exact hc j h
      .rw[zhv hq.len];exact zvO _ _
     .have e1:i'≠kk:=λe=>by have:=g1 n (Nat.lt_succ_self _);grind
      rw[upd_ne _ _ e1,upd_ne _ _ g0]
      grind
    .rcases hl with e|⟨aT,_,e|e⟩|⟨e,rfl⟩<;>cases e
     refine⟨rfl,rfl,rfl,λhk lR hp=>?_⟩;have eR:∀j,j<n->ix j≠kk:=λj hj e=>by have:=ho.at_ j hj;simp_all
     rw[zrf];refine .b qs ix kk 0 hq (lU _) lR eR (.inl ?_) (.inl (upd_same _ _ _)) ⟨ho.ne,ho.inj,λj hj=>?_⟩ hc λi' g0 g1 g2=>?_
     .rw[upd_ne _ _ (Ne.symm lR),upd_same]
     .rw[upd_ne _ _ (eR j hj),upd_ne _ _ (ho.ne j hj)];exact .inl (ho.at_ j hj)
     .rw[upd_ne _ _ g1,upd_ne _ _ g0];exact hg i' g0 g2
   simp_all
  |b qs ix iw k hq hk hw aS h0 cT ho hc hg=>
   exfalso;rcases Oy h0 cT ho hg hi with⟨_,rfl⟩|⟨_,rfl⟩|⟨j,hj,_,rfl|⟨_,rfl⟩⟩<;>rcases ha with⟨_,_,e,_⟩|⟨_,e,_⟩<;>cases e
  |c qs ix iw k i0 kd cl anz a hq hk hw aS h0 cT ho hc q9 oM hg=>
   exfalso;rcases Qv h0 cT ho hg hi with⟨_,rfl⟩|⟨_,rfl⟩|⟨j,hj,_,⟨_,rfl⟩|⟨_,rfl|⟨_,rfl⟩⟩⟩<;>rcases ha with⟨_,_,e,_⟩|⟨_,e,_⟩<;>cases e
 done:=by
  intro q ch i l hI hi ha;have fY:=zG7 ha
  cases hI with
  |a n qs ix l0 hq hn hl h0 ho hc hg=>
   exfalso;rcases Pl hl h0 ho hg hi with⟨rfl,rfl⟩|⟨j,hj,rfl,rfl⟩
   .grind
   .cases ha
  |b qs ix iw k hq hk hw aS h0 cT ho hc hg=>
   rcases Oy h0 cT ho hg hi with⟨_,rfl⟩|⟨rfl,rfl⟩|⟨j,hj,rfl,rfl|⟨hx,rfl⟩⟩
   .cases ha
   .rcases fY with e|⟨_,_,e,h1⟩
    .cases e
    .cases e
     have zkb:k=W.length:=by have:=List.getElem?_eq_none_iff.1 h1;omega
     refine⟨hw,.b qs ix i k hq hk hw aS ?_ (.inr ⟨zkb,upd_same _ _ _⟩) ⟨ho.ne,ho.inj,λj hj=>?_⟩ hc λi' g0 g1 g2=>?_⟩
     .rw[upd_ne _ _ (Ne.symm hw)];exact h0
     .rw[upd_ne _ _ (aS j hj)];exact ho.at_ j hj
     .rw[upd_ne _ _ g1];exact hg i' g0 g1 g2
   .cases ha
   .refine⟨ho.ne j hj,.b qs ix iw k hq hk hw aS ?_ ?_ ⟨ho.ne,ho.inj,λj' qR=>?_⟩ hc λi' g0 g1 g2=>?_⟩
    .rw[upd_ne _ _ (Ne.symm (ho.ne j hj))];exact h0
    .rw[upd_ne _ _ (Ne.symm (aS j hj))];exact cT
    .by_cases e:j'=j
     .subst e;rw[upd_same];exact .inr ⟨hx,.inr rfl⟩
     .rw[upd_ne _ _ (λh=>e (ho.inj j' j qR hj h))];exact ho.at_ j' qR
    .rw[upd_ne _ _ (g2 j hj)];exact hg i' g0 g1 g2
  |c qs ix iw k i0 kd cl anz a hq hk hw aS h0 cT ho hc q9 oM hg=>
   rcases Qv h0 cT ho hg hi with⟨_,rfl⟩|⟨rfl,rfl⟩|⟨j,hj,rfl,⟨_,rfl⟩|⟨Qo,rfl|⟨hx,rfl⟩⟩⟩
   .cases ha
   .cases ha
   .cases ha
   .cases ha
   .refine⟨ho.ne j hj,.c qs ix iw k i0 kd cl anz a hq hk hw aS ?_ ?_ ⟨ho.ne,ho.inj,λj' qR=>?_⟩ hc q9 oM λi' g0 g1 g2=>?_⟩
    .rw[upd_ne _ _ (Ne.symm (ho.ne j hj))];exact h0
    .rw[upd_ne _ _ (Ne.symm (aS j hj))];exact cT
    .by_cases e:j'=j
     .subst e;rw[if_neg Qo,upd_same];exact .inr ⟨hx,.inr rfl⟩
     .rw[upd_ne _ _ (λh=>e (ho.inj j' j qR hj h))];exact ho.at_ j' qR
    .rw[upd_ne _ _ (g2 j hj)];exact hg i' g0 g1 g2
 note:=by
  intro q ch i l can l' hI hi ha zz6;obtain⟨Po,rfl,aT,rfl⟩:=zDn ha;obtain⟨a,rfl⟩:=zz6;refine⟨rfl,?_⟩
  cases hI with
  |a n qs ix l0 hq hn hl h0 ho hc hg=>
   rcases Pl hl h0 ho hg hi with⟨rfl,rfl⟩|⟨j,hj,rfl,e⟩
   .rcases hl with e|⟨_,_,e|e⟩|⟨e,_⟩<;>cases e
    exact .a n Po ix _ hq hn (.inr (.inl ⟨by have:=hq.len;omega,a,.inl rfl⟩)) (upd_same _ _ _) ⟨ho.ne,ho.inj,λj hj=>by rw[upd_ne _ _ (ho.ne j hj)];exact ho.at_ j hj⟩ hc λi' g0 g1=>by rw[upd_ne _ _ g0];exact hg i' g0 g1
   .cases e
  |b qs ix iw k hq hk hw aS h0 cT ho hc hg=>
   exfalso;rcases Oy h0 cT ho hg hi with⟨_,e⟩|⟨_,e⟩|⟨j,hj,_,e|⟨_,e⟩⟩<;>cases e
  |c qs ix iw k i0 kd cl anz a hq hk hw aS h0 cT ho hc q9 oM hg=>
   exfalso;rcases Qv h0 cT ho hg hi with⟨_,e⟩|⟨_,e⟩|⟨j,hj,_,⟨_,e⟩|⟨_,e|⟨_,e⟩⟩⟩<;>cases e
 wait:=by
  intro q ch i l hI hi ha;obtain rfl:=zE2 ha
  cases hI with
  |a n qs ix l0 hq hn hl h0 ho hc hg=>
   exfalso;rcases Pl hl h0 ho hg hi with⟨rfl,e⟩|⟨j,hj,rfl,e⟩
   .grind
   .cases e
  |b qs ix iw k hq hk hw aS h0 cT ho hc hg=>
   rcases Oy h0 cT ho hg hi with⟨rfl,_⟩|⟨_,e⟩|⟨j,hj,_,e|⟨_,e⟩⟩
   .refine⟨rfl,rfl,.b qs ix iw k hq hk hw aS (.inr (upd_same _ _ _)) ?_ ⟨ho.ne,ho.inj,λj hj=>?_⟩ hc λi' g0 g1 g2=>?_⟩
    .rw[upd_ne _ _ hw];exact cT
    .rw[upd_ne _ _ (ho.ne j hj)];exact ho.at_ j hj
    .rw[upd_ne _ _ g0];exact hg i' g0 g1 g2
   all_goals cases e
  |c qs ix iw k i0 kd cl anz a hq hk hw aS h0 cT ho hc q9 oM hg=>
   rcases Qv h0 cT ho hg hi with⟨rfl,_⟩|⟨_,e⟩|⟨j,hj,_,⟨_,e⟩|⟨_,e|⟨_,e⟩⟩⟩
   .refine⟨rfl,rfl,.c qs ix iw k i0 kd cl anz a hq hk hw aS (.inr (upd_same _ _ _)) ?_ ⟨ho.ne,ho.inj,λj hj=>?_⟩ hc q9 oM λi' g0 g1 g2=>?_⟩
    .rw[upd_ne _ _ hw];exact cT
    .rw[upd_ne _ _ (ho.ne j hj)];exact ho.at_ j hj
    .rw[upd_ne _ _ g0];exact hg i' g0 g1 g2
   all_goals cases e
 prog:=by
  intro q ch hI hB
  cases hI with
  |a n qs ix l0 hq hn hl h0 ho hc hg=>exact(ztI (zmE hl) (hB 0 l0 h0)).elim
  |b qs ix iw k hq hk hw aS h0 cT ho hc hg=>
   have hz:q 0=.waits:=h0.resolve_left λe=>ztI (.inr (.inr (.inr (.inr rfl)))) (hB 0 _ e);have zBz:k=W.length:=by
    rcases cT with e|⟨e,_⟩
    .have h1:=hB iw _ e
     cases hx:W[k]? with
     |none=>grind
     |some x=>
      exfalso
      cases x with
      |ask i kd cl anz=>
       obtain⟨hi,Ak,_⟩:=hW.ask k i kd cl anz hx;unfold jV.Blocked Dp at h1;simp only[eU,hx] at h1;refine h1 ⟨ix i,.op (qa qs i) (lM W k i) (oH W k i),_,_,_,?_,rfl⟩;rcases ho.at_ i hi with h2|⟨h2,_⟩
       .exact h2
       simp_all
      |shut i=>
       unfold jV.Blocked Dp at h1;simp only[eU,hx] at h1
    .exact e
   subst zBz;refine⟨hz,λi l hi=>?_⟩;have h1:=hB i l hi;rcases Oy h0 cT ho hg hi with⟨rfl,_⟩|⟨_,rfl⟩|⟨j,hj,rfl,rfl|⟨_,rfl⟩⟩
   .rw[hz] at hi;cases hi
   .unfold jV.Blocked Dp at h1
    simp[eU] at h1
   .unfold jV.Blocked Dp at h1
    simp only[eU] at h1;rw[hc j hj,hW.all j hj] at h1;simp_all
   .unfold jV.Blocked Dp at h1
    simp[eU] at h1
  |c qs ix iw k i0 kd cl anz a hq hk hw aS h0 cT ho hc q9 oM hg=>
   exfalso;obtain⟨eY,_,_⟩:=hW.ask k i0 kd cl anz hk;have h2:=ho.at_ i0 eY;rw[if_pos rfl] at h2;have h1:=hB (ix i0) _ h2;unfold jV.Blocked Dp at h1;simp only[eU] at h1;exact h1 ⟨iw,.wr qs k a,_,_,_,cT,rfl⟩
 pendC:=by
  intro l l' c v ok pub nx ha hl;subst hl;rcases zjK ha with⟨c0,call,m,rfl,rfl,rfl,rfl⟩|⟨qs,k,i,kd,cl,anz,rfl,h1,rfl,rfl,rfl,rfl⟩
  .rfl
  .show(Yn qs k v).pend=false
   unfold Yn;split<;>rfl
 pendR:=by
  intro l l' c v ok nx sh ha hl;rcases Wt ha with⟨call,m,rfl,rfl,rfl,rfl⟩|⟨qs,k,rfl,rfl,rfl,rfl⟩
  .rcases hl with rfl|rfl
   .show(Vn c call m v).pend=false
    unfold Vn;split<;>rfl
   .rfl
  .rcases hl with rfl|rfl<;>rfl
 pendX:=by
  intro l c nx ha;obtain⟨qs,k,i,rfl,_,_,rfl⟩:=zuV ha;rfl
 few:=by
  intro q ch hI m;have key:∀(n iw:Nat) (ix:Nat->Nat),n<=N->(∀i,i≠0->i≠iw->(∀j,j<n->i≠ix j)->q i=.gone)->num q m<2000000000:=λn iw ix hn hg=>by
   have:=zE3 (0::iw::(iL n).map ix) q (λi hi=>by
    simp only[mB,not_or,Sl,Ei,not_exists,not_and] at hi;exact hg i hi.1 hi.2.1 λj hj e=>hi.2.2 j hj e.symm) m
   grind
  cases hI with
  |a n qs ix l0 hq hn hl h0 ho hc hg=>exact key n 0 ix hn λi h1 _ h3=>hg i h1 h3
  |b qs ix iw k hq hk hw aS h0 cT ho hc hg=>exact key N iw ix (bM _) hg
  |c qs ix iw k i0 kd cl anz a hq hk hw aS h0 cT ho hc q9 oM hg=>exact key N iw ix (bM _) hg
 gotP:=by
  intro q ch i j li lj c ok pub nx sP pX sh v hI hi hj ha hb hv a hx
  cases hI with
  |a n qs ix l0 hq hn hl h0 ho hc hg=>exact(zh3 hl h0 ho hg hi ha).elim
  |b qs ix iw k hq hk hw aS h0 cT ho hc hg=>
   obtain⟨rfl,rfl,j0,kd,cl,anz,h1,rfl,rfl,rfl,rfl⟩:=zdB h0 cT ho hg hi ha;obtain⟨j1,Kf,rfl,rfl,_⟩:=Zk h0 cT ho hg hj hb;exact hx
  |c qs ix iw k i0 kd cl anz a' hq hk hw aS h0 cT ho hc q9 oM hg=>
   obtain⟨eY,rfl,rfl,rfl,rfl,rfl,rfl⟩:=zcu h0 cT ho hg hi ha;rcases Yu h0 cT ho hg hj hb with⟨rfl,rfl,_⟩|⟨j1,Kf,_,rfl,_,uZ,_⟩
   .cases hx
   grind
end
end Go.Mt
namespace Go.Proofs.YtfcjiloojkjaeaaGreatDoor
open Go.RowKit Go.Mt
def zO (op:Int):Nat:=(op-1).toNat
def Hm (b:b6)(op:Int):List fL:=
 .ask (zO op) 0 0 (dE b.recs op)::(if 0<dE b.recs op then[] else match b.wait with|[]=>[]|c::_=>[.ask (zO op) 1 c.c c.c])
def E0 (b:b6)(op:Int):List fL:=
 .ask (zO op) 0 0 (dE b.recs op)::(if 0<dE b.recs op then[] else match b.back with|[]=>[]|c::_=>match oX b.o b.recs with|[]=>[]|_::_=>[.ask (zO op) 1 c.c c.c])
def D4 (b:b6)(c:Int):List fL:=
 match gU b.recs c with
 |some i=>if 0<opAt b.recs i then[.ask (zO (opAt b.recs i)) 1 0 0] else[]
 |none=>[]
def pR (b:b6)(e:dS):List fL:=
 if e.k.toList=Cj then[] else if e.k.toList=Ge then Hm b e.a else if e.k.toList=Dj then E0 b e.a else if e.k.toList=D9 then D4 b e.a else[]
def sK (o:fG)(es:List dS):Nat->List fL
 |0=>[]
 |k+1=>sK o es k++(match es[k]? with|some e=>pR (jH o es k) e|none=>[])
def zV (b:b6):Nat->List fL
 |0=>[]
 |n+1=>zV b n++[.ask n 0 0 (dE b.recs ((n:Int)+1)),.shut n]
def Cv (o:fG)(es:List dS):List fL:=sK o es es.length++zV (Ee o es) o.op.toNat
theorem zlb (A B:List fL)(i:Nat):∀k,k<=A.length->lM (A++B) k i=lM A k i:=by
 intro k
 induction k with
 |zero=>intro _;rfl
 |succ k ih=>
  intro hk;simp only[lM]
  grind
theorem Zs (A B:List fL)(i:Nat):∀k,k<=A.length->fU (A++B) k i=fU A k i:=by
 intro k
 induction k with
 |zero=>intro _;rfl
 |succ k ih=>
  intro hk;simp only[fU]
  grind
theorem zhF (A:List fL)(x:fL):(A++[x])[A.length]? =some x:=by simp_all
structure WP (N:Nat)(A:List fL):Prop where
 ask:∀(k i:Nat) (kd cl anz:Int),A[k]? =some (.ask i kd cl anz)->i<N/\fU A k i=false/\anz=lM A (k+1) i
 shut:∀(k i:Nat),A[k]? =some (.shut i)->i<N/\fU A k i=false
variable {N:Nat}{A:List fL}
theorem WP.snoc {x:fL}(h:WP N A)(h1:∀i kd cl anz,x=.ask i kd cl anz->i<N/\fU A A.length i=false/\anz=lM (A++[x]) (A.length+1) i)(h2:∀i,x=.shut i->i<N/\fU A A.length i=false):WP N (A++[x]):=by
 have key:∀(k:Nat) (y:fL),(A++[x])[k]? =some y->(k<A.length/\A[k]? =some y)\/(k=A.length/\y=x):=λk y hk=>by grind
 refine⟨λk i kd cl anz hk=>?_,λk i hk=>?_⟩
 .rcases key k _ hk with⟨hl,cZ⟩|⟨rfl,e⟩
  .obtain⟨a1,a2,a3⟩:=h.ask k i kd cl anz cZ
   exact⟨a1,by rw[Zs _ _ _ _ aC];exact a2,by rw[zlb _ _ _ _ aC];exact a3⟩
  .obtain⟨a1,a2,a3⟩:=h1 i kd cl anz e.symm
   exact⟨a1,by rw[Zs _ _ _ _ (bM _)];exact a2,a3⟩
 .rcases key k _ hk with⟨hl,cZ⟩|⟨rfl,e⟩
  .obtain⟨a1,a2⟩:=h.shut k i cZ
   exact⟨a1,by rw[Zs _ _ _ _ aC];exact a2⟩
  .obtain⟨a1,a2⟩:=h2 i e.symm
   exact⟨a1,by rw[Zs _ _ _ _ (bM _)];exact a2⟩
theorem zao (A:List fL)(j:Nat)(kd cl anz:Int)(i:Nat):lM (A++[.ask j kd cl anz]) (A.length+1) i=if i=j then(if kd=1 then cl else lM A A.length i) else lM A A.length i:=by
 simp only[lM,zhF];rw[zlb _ _ _ _ (bM _)]
theorem znk (A:List fL)(j:Nat)(kd cl anz:Int)(i:Nat):fU (A++[.ask j kd cl anz]) (A.length+1) i=fU A A.length i:=by
 simp only[fU,zhF];rw[Zs _ _ _ _ (bM _)]
theorem zD0 (A:List fL)(j i:Nat):lM (A++[.shut j]) (A.length+1) i=lM A A.length i:=by
 simp only[lM,zhF];rw[zlb _ _ _ _ (bM _)]
theorem zzd (A:List fL)(j i:Nat):fU (A++[.shut j]) (A.length+1) i=if i=j then true else fU A A.length i:=by
 simp only[fU,zhF];rw[Zs _ _ _ _ (bM _)]
def Jn (N:Nat)(rs:List bO)(A:List fL):Prop:=∀i,i<N->lM A A.length i=dE rs ((i:Int)+1)/\fU A A.length i=false
def zdH (A:List fL)(x:fL):(A++[x]).length=A.length+1:=aQ
variable {rs:List bO}{i:Nat}
theorem WP.who (h:WP N A)(ht:Jn N rs A)(hi:i<N):WP N (A++[.ask i 0 0 (dE rs ((i:Int)+1))])/\Jn N rs (A++[.ask i 0 0 (dE rs ((i:Int)+1))]):=by
 obtain⟨t1,t2⟩:=ht i hi;refine⟨h.snoc (λj kd cl anz e=>?_) (λj e=>by cases e),λj hj=>?_⟩
 .cases e
  exact⟨hi,t2,by rw[zao,if_pos rfl,if_neg aH,t1]⟩
 .obtain⟨s1,s2⟩:=ht j hj
  rw[zdH,zao,znk];simp_all
variable {E7:List bO}
theorem WP.tell (h:WP N A)(ht:Jn N rs A)(hi:i<N){c:Int}(h1:dE E7 ((i:Int)+1)=c)(h2:∀j:Nat,j<N->j≠i->dE E7 ((j:Int)+1)=dE rs ((j:Int)+1)):WP N (A++[.ask i 1 c c])/\Jn N E7 (A++[.ask i 1 c c]):=by
 obtain⟨t1,t2⟩:=ht i hi;refine⟨h.snoc (λj kd cl anz e=>?_) (λj e=>by cases e),λj hj=>?_⟩
 .cases e
  exact⟨hi,t2,by rw[zao,if_pos rfl,if_pos rfl]⟩
 .obtain⟨s1,s2⟩:=ht j hj
  rw[zdH,zao,znk]
  grind
def Jn.same (ht:Jn N rs A)(h:∀j:Nat,j<N->dE E7 ((j:Int)+1)=dE rs ((j:Int)+1)):Jn N E7 A:=λi hi=>⟨(ht i hi).1.trans (h i hi).symm,(ht i hi).2⟩
variable {op:Int}
theorem zsA {r:bO}(h:r.o≠op):dE (rs++[r]) op=dE rs op:=by
 unfold dE;have hn:[r].find? (x3 op)=none:=by
  rw[zgA];intro x hx;obtain rfl:=yM.1 hx;unfold x3;simp[h]
 simp_all
variable {b:b6}
def fP.one (h:fP b)(hop:0<op):∀(i j:Nat) (d e:bO),b.recs[i]? =some d->b.recs[j]? =some e->cU d=true->cU e=true->d.o=op->e.o=op->i=j:=
 λi j d e h1 h2 h3 h4 h5 h6=>h.opn i j d e h1 h2 h3 h4 (.inr (.inr ⟨h5.trans h6.symm,aC⟩))
theorem zpo (hu:∀(i j:Nat) (d e:bO),E7[i]? =some d->E7[j]? =some e->cU d=true->cU e=true->d.o=op->e.o=op->i=j)
 (h1:∀(i:Nat) (d:bO),rs[i]? =some d->cU d=true->d.o=op->E7[i]? =some d) (h2:∀(i:Nat) (d:bO),E7[i]? =some d->cU d=true->d.o=op->rs[i]? =some d):dE E7 op=dE rs op:=by
 rcases ziP rs op with⟨i,d,a1,a2,a3,a4⟩|⟨a1,a2⟩
 .rw[a4];exact ze0 hu (h1 i d a1 a2 a3) a2 a3
 .rw[a2]
  exact zvS λi d hd ho e=>a1 i d (h2 i d hd ho e) ho e
variable {d:bO}{e:ByteArray}
theorem zmC (h:fP b)(hd:b.recs[i]? =some d)(he:(e.toList==[111,112,101,110])=false)(hop:0<op)(aS:d.o≠op):dE (vY b i e) op=dE b.recs op:=by
 have old:∀(j:Nat) (z:bO),(vY b i e)[j]? =some z->cU z=true->b.recs[j]? =some z:=λj z hj hz=>by
  obtain⟨d',h1,⟨_,rfl⟩|⟨h2,rfl⟩⟩:=y6 hj
  .have J1:cU {d' with t:=b.clk,e:=e}=false:=he
   simp_all
  .exact h1
 refine zpo (λp q x y hp hq hx hy h5 h6=>h.one hop p q x y (old p x hp hx) (old q y hq hy) hx hy h5 h6) (λj z hj hz e=>?_) (λj z hj hz _=>old j z hj hz);exact Zg hj λe2=>by simp_all
theorem zy3 (h:fP b)(hd:b.recs[i]? =some d)(Et:cU d=true)(he:(e.toList==[111,112,101,110])=false)(hop:0<d.o):dE (vY b i e) d.o=0:=by
 refine zvS λj z hj hz e2=>?_;obtain⟨d',h1,⟨_,rfl⟩|⟨h2,rfl⟩⟩:=y6 hj
 .have J1:cU {d' with t:=b.clk,e:=e}=false:=he
  rw[J1] at hz;cases hz
 .exact h2 (h.one hop i j d z hd h1 Et hz rfl e2)
theorem zIY (hop:0<op):∀(xs:List bH) (b:b6) (t:List UInt8),fP b->(xs.map bH.c).Nodup->(∀x∈xs,x∈b.wait)->dE (xs.foldl mD (b,t)).1.recs op=dE b.recs op:=by
 intro xs
 induction xs with
 |nil=>intro b t h _ _;rfl
 |cons x xs ih=>
  intro b t h hn hx;rw[Qz];have hS:=h.tire (t:=t) (x:=x);rw[jO,Dv] at hn;have key:dE (mD (b,t) x).1.recs op=dE b.recs op/\∀y∈xs,y∈(mD (b,t) x).1.wait:=by
   have Hu:∀y∈xs,y∈b.wait:=λy hy=>hx y (Rj _ hy);obtain⟨i0,d0,w1,w2,w3,w4⟩:=h.wt x (hx x aQ);have eO:gU b.recs x.c=some i0:=by rw[<-w3];exact h.at_ w1 w2
   unfold mD;simp only[eO];split
   .refine⟨zmC h w1 zaq hop aC,λy hy=>?_⟩
    show y∈dK b.wait (Da b.recs i0);unfold dK;rw[Mg,Sx w1,w3];simp_all
   .exact⟨rfl,Hu⟩
  simp_all
structure Vj (b:b6):Prop where
 op:∀d∈b.recs,0<=d.o/\d.o<=b.o.op
 n1:1<=b.o.op
def zvh (A B:List fL)(x:fL):A++x::B=(A++[x])++B:=aQ
theorem zzi {e:dS}(hS:fP b)(hr:RInv b)(hB:Vj b)(hN:b.o.op=(N:Int))(he:rB b.o.op e=true)(hw:WP N A)(ht:Jn N b.recs A):
 WP N (A++pR b e)/\Jn N (dR b e).1.recs (A++pR b e)/\Vj (dR b e).1:=by
 have zly:∀op:Int,1<=op->op<=b.o.op->zO op<N/\((zO op:Nat):Int)+1=op:=λop h1 h2=>by unfold zO;omega
 by_cases h1:e.k.toList=Cj
 .unfold pR dR
  rw[if_pos h1,if_pos h1,Og];refine⟨hw,?_⟩;unfold o8;split
  .simp_all
  .split
   .exact⟨ht,⟨hB.op,hB.n1⟩⟩
   .rename_i l ls hf
    refine⟨ht.same λj hj=>zsA tV,⟨λd hd=>?_,hB.n1⟩⟩;rcases Fq.1 hd with hd|hd
    .exact hB.op d hd
    simp_all
 by_cases h2:e.k.toList=Ge
 .obtain⟨o1,o2⟩:=zae he (.inl h2)
  obtain⟨i1,i2⟩:=zly e.a o1 o2;have Ea:¬e.k.toList=Cj:=h1;unfold pR dR;rw[if_neg h1,if_neg h1,if_pos h2,if_pos h2];unfold Hm nL;obtain⟨k1,k2⟩:=hw.who ht i1;rw[i2] at k1 k2;by_cases hp:0<dE b.recs e.a
  .simp_all
  .rw[if_neg hp,if_neg hp]
   cases cG:b.wait with
   |nil=>exact⟨k1,k2,hB⟩
   |cons c cs=>
    obtain⟨i0,d0,w1,w2,w3,w4⟩:=hS.wt c Yt;have eO:gU b.recs c.c=some i0:=by rw[<-w3];exact hS.at_ w1 w2
    simp only[eO];rw[zvh];have hn:=zgg (λd hd=>(hr.recB d hd).1) hp;have Ql:=hS.heard (hh:=b.clk) w1 w2 hn (wait:=[]) (λx hx=>by cases hx);have r1:dE (b.recs.modify i0 λd=>{d with o:=e.a,h:=b.clk}) (((zO e.a:Nat):Int)+1)=c.c:=by
     rw[i2];have:=ze0 (rs:=b.recs.modify i0 λd=>{d with o:=e.a,h:=b.clk}) (op:=e.a) (λp q x y=>Ql.one aC p q x y) (zhZ w1) w2 rfl;rw[this];exact w3
    have r2:∀j:Nat,j<N->j≠zO e.a->dE (b.recs.modify i0 λd=>{d with o:=e.a,h:=b.clk}) ((j:Int)+1)=dE b.recs ((j:Int)+1):=λj hj aS=>by
     have zdJ:(j:Int)+1≠e.a:=λh=>aS (by unfold zO;omega);refine zpo (λp q x y=>Ql.one aC p q x y) (λp z hz Oz zDH=>?_) (λp z hz Oz zDH=>?_)
     .grind
     grind
    obtain⟨m1,m2⟩:=k1.tell k2 i1 r1 r2;refine⟨m1,m2,⟨λd hd=>?_,hB.n1⟩⟩;obtain⟨d',Lq,rfl|rfl⟩:=Uf hd
    .exact hB.op _ Lq
    grind
 by_cases h3:e.k.toList=Dj
 .obtain⟨o1,o2⟩:=zae he (.inr h3)
  obtain⟨i1,i2⟩:=zly e.a o1 o2;unfold pR dR;rw[if_neg h1,if_neg h1,if_neg h2,if_neg h2,if_pos h3,if_pos h3];unfold E0 l9;obtain⟨k1,k2⟩:=hw.who ht i1;rw[i2] at k1 k2;by_cases hp:0<dE b.recs e.a
  .simp_all
  .rw[if_neg hp,if_neg hp]
   cases xS:b.back with
   |nil=>exact⟨k1,k2,hB⟩
   |cons c cs=>
    cases hf:oX b.o b.recs with
    |nil=>exact⟨k1,k2,hB⟩
    |cons l ls=>
     simp only;rw[zvh];have hn:=zgg (λd hd=>(hr.recB d hd).1) hp;have Ql:=hS.more (c:=c.c) (l:=l) (o:=e.a) (hh:=b.clk) (tt:=-1) (clk:=b.clk) (hS.bo c zbO) (zbT Lc) (.inr hn) (wait:=[]) (back:=[]) (λx hx=>by cases hx) X9 (λx hx=>by cases hx);have r1:dE (b.recs++[⟨c.c,l,e.a,b.clk,b.clk,-1,eP⟩]) (((zO e.a:Nat):Int)+1)=c.c:=by
      rw[i2];exact ze0 (rs:=b.recs++[⟨c.c,l,e.a,b.clk,b.clk,-1,eP⟩]) (op:=e.a) (λp q x y=>Ql.one aC p q x y) (i:=b.recs.length) (d:=⟨c.c,l,e.a,b.clk,b.clk,-1,eP⟩) uB (by unfold cU;rw[zbq];rfl) rfl
     have r2:∀j:Nat,j<N->j≠zO e.a->dE (b.recs++[⟨c.c,l,e.a,b.clk,b.clk,-1,eP⟩]) ((j:Int)+1)=dE b.recs ((j:Int)+1):=λj hj aS=>
      zsA tV
     obtain⟨m1,m2⟩:=k1.tell k2 i1 r1 r2;refine⟨m1,m2,⟨λd hd=>?_,hB.n1⟩⟩;rcases Fq.1 hd with hd|hd
     .exact hB.op d hd
     grind
 by_cases h4:e.k.toList=D9
 .unfold pR dR
  rw[if_neg h1,if_neg h1,if_neg h2,if_neg h2,if_neg h3,if_neg h3,if_pos h4,if_pos h4];unfold D4 mP
  cases eO:gU b.recs e.a with
  |none=>
   simp only;rw[Og];split
   .exact⟨hw,ht,⟨hB.op,hB.n1⟩⟩
   simp_all
  |some i=>
   obtain⟨d,g1,g2,g3⟩:=zZ eO;have ho:opAt b.recs i=d.o:=by unfold opAt;rw[g1]
   have zvR:∀(x:ByteArray),∀z∈vY b i x,0<=z.o/\z.o<=b.o.op:=λx z hz=>by
    obtain⟨d',Lq,rfl|rfl⟩:=Uf hz
    .exact hB.op _ Lq
    .exact hB.op d' Lq
   simp only[ho];by_cases hp:0<d.o
   .rw[if_pos hp,if_pos hp]
    obtain⟨i1,i2⟩:=zly d.o aC (hB.op d (eI g1)).2;have r1:dE (vY b i vT) (((zO d.o:Nat):Int)+1)=0:=by rw[i2];exact zy3 hS g1 g3 Y0 hp
    have r2:∀j:Nat,j<N->j≠zO d.o->dE (vY b i vT) ((j:Int)+1)=dE b.recs ((j:Int)+1):=λj hj aS=>zmC hS g1 Y0 aC (λh=>aS (by unfold zO;omega));obtain⟨m1,m2⟩:=hw.tell ht i1 r1 r2;exact⟨m1,m2,⟨zvR _,hB.n1⟩⟩
   .rw[if_neg hp,if_neg hp,Og]
    exact⟨hw,ht.same λj hj=>zmC hS g1 zhb aC aC,⟨zvR _,hB.n1⟩⟩
 .unfold pR dR
  rw[if_neg h1,if_neg h1,if_neg h2,if_neg h2,if_neg h3,if_neg h3,if_neg h4,if_neg h4,Og];unfold tK;have Ql:fP {b with clk:=b.clk+e.a}:=⟨hS.opn,hS.last,hS.wt,hS.bk,hS.bo⟩;refine⟨hw,ht.same λj hj=>zIY aC b.wait {b with clk:=b.clk+e.a} _ Ql hr.nodup (λx hx=>hx),?_⟩;have key:∀(xs:List bH) (b':b6) (t:List UInt8),Vj b'->Vj (xs.foldl mD (b',t)).1:=by
   intro xs
   induction xs with
   |nil=>intro b' t h;exact h
   |cons x xs ih=>
    intro b' t h;rw[Qz];have h9:Vj (mD (b',t) x).1:=by
     unfold mD;split
     .exact h
     .split
      .refine⟨λz hz=>?_,h.n1⟩
       obtain⟨d',Lq,rfl|rfl⟩:=Uf hz
       .exact h.op _ Lq
       .exact h.op d' Lq
      .exact h
    simp_all
  exact key _ _ _ ⟨hB.op,hB.n1⟩
variable {o:fG}{es:List dS}
theorem zvs (h:eG o es=true)(hN:o.op=(N:Int)):∀k,k<=es.length->WP N (sK o es k)/\Jn N (jH o es k).recs (sK o es k)/\Vj (jH o es k):=by
 intro k;have bV:=h;unfold eG at bV;simp only[Bool.and_eq_true,List.all_eq_true] at bV
 induction k with
 |zero=>
  intro _;refine⟨⟨λk i kd cl anz h=>by simp[sK] at h,λk i h=>by simp[sK] at h⟩,λi hi=>⟨rfl,rfl⟩,⟨λd hd=>by simp[jH,lV] at hd,?_⟩⟩;have:=bV.1.1;unfold qQ at this;simp at this;show 1<=o.op;omega
 |succ k ih=>
  intro hk;have aT:k<es.length:=aC;have he:=oQ aT;obtain⟨a1,a2,a3⟩:=ih aC;obtain⟨b1,_,b3⟩:=Hh h k aC;have:=zzi (zfM h k aC) b1 a3 (by rw[b3];exact hN) (by rw[b3];exact bV.2 es[k] (zsy aT)) a1 a2;rw[Ty he];unfold sK;rw[he];exact⟨this.1,this.2.1,⟨this.2.2.op,this.2.2.n1⟩⟩
theorem endA_ok (hw:WP N A)(ht:Jn N b.recs A):∀n,n<=N->WP N (A++zV b n)/\(∀i,i<N->lM (A++zV b n) (A++zV b n).length i=dE b.recs ((i:Int)+1))/\(∀i,fU (A++zV b n) (A++zV b n).length i=if i<n then true else fU A A.length i):=by
 intro n
 induction n with
 |zero=>intro _;simp only[zV,Og];exact⟨hw,λi hi=>(ht i hi).1,λi=>by simp⟩
 |succ n ih=>
  intro hn;obtain⟨k1,k2,k3⟩:=ih aC;have e:A++zV b (n+1)=(A++zV b n++[fL.ask n 0 0 (dE b.recs ((n:Int)+1))])++[.shut n]:=by simp[zV]
  rw[e];generalize A++zV b n=B at*;have hx:fU B B.length n=false:=by rw[k3 n,if_neg (J9 _)];exact(ht n aC).2
  have w1:WP N (B++[fL.ask n 0 0 (dE b.recs ((n:Int)+1))]):=k1.snoc (λj kd cl anz e=>by cases e;exact⟨aC,hx,by rw[zao,if_pos rfl,if_neg aH,k2 n aC]⟩) (λj e=>by cases e);have l1:=zdH B (fL.ask n 0 0 (dE b.recs ((n:Int)+1)));have x1:∀i,fU (B++[fL.ask n 0 0 (dE b.recs ((n:Int)+1))]) (B++[fL.ask n 0 0 (dE b.recs ((n:Int)+1))]).length i=fU B B.length i:=λi=>by rw[l1,znk]
  have c1:∀i,lM (B++[fL.ask n 0 0 (dE b.recs ((n:Int)+1))]) (B++[fL.ask n 0 0 (dE b.recs ((n:Int)+1))]).length i=lM B B.length i:=λi=>by
   rw[l1,zao];omega
  generalize B++[fL.ask n 0 0 (dE b.recs ((n:Int)+1))]=B2 at*;refine⟨w1.snoc (λj kd cl anz e=>by cases e) (λj e=>by grind),λi hi=>?_,λi=>?_⟩
  .rw[zdH,zD0,c1];exact k2 i hi
  .rw[zdH,zzd,x1,k3 i]
   grind
theorem zB1 (h:eG o es=true):WOk o.op.toNat (Cv o es):=by
 have h1:o.op=(o.op.toNat:Int):=by
  have bV:=h;unfold eG qQ at bV;simp at bV;omega
 obtain⟨a1,a2,a3⟩:=zvs h h1 es.length (bM _);rw[S7] at a2;obtain⟨k1,k2,k3⟩:=endA_ok a1 a2 o.op.toNat (bM _);exact⟨k1.ask,k1.shut,λi hi=>by unfold Cv;rw[k3 i,if_pos hi]⟩
end Go.Proofs.YtfcjiloojkjaeaaGreatDoor
namespace Go.Proofs.YtfcjiloojkjaeaaGreatDoor
open Go.RowKit
section
variable {P:cD}{k:aM}
theorem zjD {d:Tz}{e:aM}(hk:P.underlying k=some (.chan d e))(a b:Option Nat)(w:aE):(Op.equal k (.chan a) (.chan b)).run P w=.ok (a==b) w:=by
 unfold Op.equal;rw[show Ug=(Ug-1)+1 by decide];simp[Op.equalIn,xZ hk]
end
def zS (es:List pF)(ps:List (Nat×aF)):Prop:=es.map (λe=>(e.key,e.val))=ps.map (λp=>(aF.chan (some p.1),p.2))
def C9 (w:aE)(b:Nat)(ps:List (Nat×aF)):Prop:=∃es clock,w.heap[b]? =some (.map es clock)/\zS es.toList ps
def pN (c:Nat):List (Nat×aF)->Option aF
 |[]=>none
 |p::ps=>if c=p.1 then some p.2 else pN c ps
def vC (c:Nat)(v:aF):List (Nat×aF)->List (Nat×aF)
 |[]=>[(c,v)]
 |p::ps=>if c=p.1 then(p.1,v)::ps else p::vC c v ps
def Cm (c:Nat):List (Nat×aF)->Nat->Option (Nat×aF)
 |[],_=>none
 |p::ps,i=>if c=p.1 then some (i,p.2) else Cm c ps (i+1)
variable {e:pF}{es:List pF}{ps:List (Nat×aF)}
theorem zS.cons_inv (h:zS (e::es) ps):∃p qs,ps=p::qs/\e.key=.chan (some p.1)/\e.val=p.2/\zS es qs:=by
 unfold zS at h
 cases ps with
 |nil=>cases h
 |cons p qs=>
  rw[jO,jO] at h;injection h with h1 h2;injection h1 with h3 h4;exact⟨p,qs,rfl,h3,h4,h2⟩
theorem zS.nil_inv (h:zS [] ps):ps=[]:=by
 unfold zS at h;simp_all
section
variable {P:cD}{k:aM}{d:Tz}{e0:aM}
theorem zyJ (hk:P.underlying k=some (.chan d e0))(c:Nat)(w:aE):∀(es:List pF) (ps:List (Nat×aF)) (i:Nat),zS es ps->(Mm k (.chan (some c)) es i).run P w=.ok (Cm c ps i) w
 |[],ps,i,h=>by rw[h.nil_inv];rfl
 |e::es,ps,i,h=>by
  obtain⟨p,qs,rfl,h1,h2,h3⟩:=h.cons_inv;have ih:=zyJ hk c w es qs (i+1) h3;unfold Mm;simp only[G3,h1,zjD hk,Gx];by_cases hc:c=p.1
  .subst hc;simp[Cm,h2]
  .have:(some c==some p.1)=false:=by rw[beq_eq_false_iff_ne];intro h;injection h with h;exact hc h
   rw[this];simp only[Bool.false_eq_true,if_false,Cm,if_neg hc];exact ih
theorem zhQ (hk:P.underlying k=some (.chan d e0))(c:Nat)(w:aE)(es:List pF)(ps:List (Nat×aF))(h:zS es ps):(My k (.chan (some c)) es).run P w=.ok (Cm c ps 0) w:=by
 unfold My;simp only[G3,xZ hk,Gx]
 cases es with
 |nil=>rw[h.nil_inv];rfl
 |cons e es=>
  have:Hl (.chan d e0) (.chan (some c)) (e::es) 0=none:=by
   simp[Hl,xE]
  rw[this];exact zyJ hk c w _ _ 0 h
theorem zoj (c:Nat):∀(ps:List (Nat×aF)) (i:Nat),(Cm c ps i).map zwA=pN c ps
 |[],_=>rfl
 |p::ps,i=>by
  unfold Cm pN;by_cases h:c=p.1
  .simp_all
  .rw[if_neg h,if_neg h];exact zoj c ps (i+1)
theorem zfF (hk:P.underlying k=some (.chan d e0))(b:Bool)(c:Nat)(w:aE):(Ij b 10000 k (.chan (some c))).run P w=.ok () w:=by
 rw[show(10000:Nat)=9999+1 by decide];unfold Ij;simp[xZ hk]
variable {ps:List (Nat×aF)}
theorem zzH {t e:aM}(ht:P.underlying t=some (.map k e))(hk:P.underlying k=some (.chan d e0)){z:aF}{w:aE}(hz:(zeroValue e).run P w=.ok z w){b c:Nat}(h:C9 w b ps)(ok:Bool):
 (Ar t (.map (some b)) (.chan (some c)) ok).run P w=.ok (if ok then .tuple #[(pN c ps).getD z,.bool (pN c ps).isSome] else(pN c ps).getD z) w:=by
 obtain⟨es,clock,hb,he⟩:=h;unfold Ar;have hf:=zoj c ps 0;have hg:(getObj b).run P w=.ok (.map es clock) w:=by first|exact run_getObj hb|(show bN P (zqF b Sem.pure) w=_;unfold bN;rw[hb];rfl)|(simp[getObj,bN,hb])
 simp only[G3,xZ ht,Gx,hg,Kl,zfF hk,zhQ hk c w _ _ he]
 cases hq:Cm c ps 0 with
 |none=>
  rw[hq] at hf;have Ej:pN c ps=none:=by simpa using hf.symm
  simp[hz,Ej]
 |some q=>
  rw[hq] at hf;have Ej:pN c ps=some q.2:=by simpa using hf.symm
  simp[Ej]
end
variable {c:Nat}{v:aF}
theorem zvC :∀{ps:List (Nat×aF)} {i:Nat},Cm c ps i=none->vC c v ps=ps++[(c,v)]
 |[],_,_=>rfl
 |p::ps,i,h=>by
  unfold Cm at h;by_cases hc:c=p.1
  .simp_all
  .rw[if_neg hc] at h
   unfold vC;rw[if_neg hc,zvC h];rfl
theorem zpz {c:Nat}{v:aF}:∀{es:List pF} {ps:List (Nat×aF)} {i:Nat} {q:Nat×aF},zS es ps->Cm c ps i=some q->
 ∃j e0,q.1=i+j/\es[j]? =some e0/\e0.key=.chan (some c)/\zS (es.set j {e0 with key:=.chan (some c),val:=v}) (vC c v ps)
 |[],ps,i,q,h,hq=>by rw[h.nil_inv] at hq;cases hq
 |e::es,ps,i,q,h,hq=>by
  obtain⟨p,qs,rfl,h1,h2,h3⟩:=h.cons_inv;unfold Cm at hq;by_cases hc:c=p.1
  .rw[if_pos hc] at hq
   injection hq with hq;refine⟨0,e,by rw[<-hq];rfl,rfl,by rw[h1,hc],?_⟩;unfold vC;rw[if_pos hc];unfold zS at h3⊢;simp_all
  .rw[if_neg hc] at hq
   obtain⟨j,e0,e1,e2,e3,e4⟩:=zpz (v:=v) h3 hq;refine⟨j+1,e0,by rw[e1];omega,e2,e3,?_⟩;unfold vC;rw[if_neg hc];unfold zS at e4⊢;simp_all
variable {P:cD}
theorem zCz (c:Nat)(w:aE):(Qk (.chan (some c)) (.chan (some c))).run P w=.ok (.chan (some c)) w:=by
 unfold Qk;rw[if_pos (by simp[zc5])];rfl
section
variable {P:cD}{k:aM}{d:Tz}{e0:aM}
variable {ps:List (Nat×aF)}
open Go.ChangeMaps in
theorem zHk {t e:aM}(ht:P.underlying t=some (.map k e))(hk:P.underlying k=some (.chan d e0)){w:aE}{b c:Nat}(h:C9 w b ps)(v:aF):
 ∃fE zcG,(He t (.map (some b)) (.chan (some c)) v).run P w=.ok () {w with heap:=w.heap.setIfInBounds b (.map fE zcG)}/\C9 {w with heap:=w.heap.setIfInBounds b (.map fE zcG)} b (vC c v ps):=by
 obtain⟨es,clock,hb,he⟩:=h;have hz:=(eM.1 hb).1
 cases hq:Cm c ps 0 with
 |none=>
  refine⟨es.push ⟨.chan (some c),v,clock⟩,clock+1,?_,es.push ⟨.chan (some c),v,clock⟩,clock+1,by simp[hz],?_⟩
  .simp[He,xZ ht,zat hb,zfF hk,zhQ hk c w _ _ he,hq,Wl _ hb,vW]
  .rw[zvC hq]
   unfold zS at he⊢;simp_all
 |some q=>
  obtain⟨j,x,e1,e2,e3,e4⟩:=zpz (v:=v) he hq;have wU:q.1=j:=aC;have hj:es[j]? =some x:=by simpa using e2
  refine⟨es.modify j (λe'=>{e' with key:=.chan (some c),val:=v}),clock,?_,es.modify j (λe'=>{e' with key:=.chan (some c),val:=v}),clock,by simp[hz],?_⟩
  .simp[He,xZ ht,zat hb,zfF hk,zhQ hk c w _ _ he,hq,wU,hj,e3,zCz,Wl _ hb,vW]
  .have:(es.modify j (λe'=>{e' with key:=.chan (some c),val:=v})).toList=es.toList.set j {x with key:=.chan (some c),val:=v}:=by
    rw[zoM,modify_eq_set _ _ _ _ e2]
   rw[this];exact e4
variable {ops:Array aZ}{rest:List aZ}{o:aZ}{a:Act}{Q:oP->Act->aE->Prop}
theorem zyu (w:aE)(hg:o.guard=none)(m x:cN)(t:aM)(ok:Bool)(hop:o.op=Op.lookup t m x ok)(e:aM)
 (ht:P.underlying t=some (.map k e)) (hk:P.underlying k=some (.chan d e0)) (z:aF) (hz:(zeroValue e).run P w=.ok z w) (b c:Nat) (ps:List (Nat×aF)) (hm:a.eval m=.map (some b)) (hx:a.eval x=.chan (some c)) (h:C9 w b ps)
 (hK:wpList P ops Q rest (a.put o.dst (if ok then .tuple #[(pN c ps).getD z,.bool (pN c ps).isSome] else(pN c ps).getD z)) w):wpList P ops Q (o::rest) a w:=by
 refine Tm hg λK' sH=>?_;have cO:=zzH ht hk hz h (c:=c) ok;unfold C5;simp[aO,hop,hm,hx,cO,vW];cases ok<;>exact sH _ _ hK
theorem zBw (w:aE)(hg:o.guard=none)(m x y:cN)(t:aM)(hop:o.op=zv7 t m x y)(e:aM)
 (ht:P.underlying t=some (.map k e)) (hk:P.underlying k=some (.chan d e0)) (b c:Nat) (v:aF) (ps:List (Nat×aF)) (hm:a.eval m=.map (some b)) (hx:a.eval x=.chan (some c)) (hy:a.eval y=v) (h:C9 w b ps)
 (hK:∀w' o',w'={w with heap:=w.heap.setIfInBounds b o'}->C9 w' b (vC c v ps)->wpList P ops Q rest (a.put o.dst aA) w'):wpList P ops Q (o::rest) a w:=by
 refine Tm hg λK' sH=>?_;obtain⟨es,cl,cO,qP⟩:=zHk ht hk h (c:=c) v;unfold C5;simp[aO,hop,hm,hx,hy,cO,vW];exact sH _ _ (hK _ _ rfl qP)
open Go.ChangeMaps in
end
def zY (es:List pF)(ps:List (Int×aF)):Prop:=es.map (λe=>(e.key,e.val))=ps.map (λp=>(aF.int .i64 p.1,p.2))
def zE (w:aE)(b:Nat)(ps:List (Int×aF)):Prop:=∃es clock,w.heap[b]? =some (.map es clock)/\zY es.toList ps
def lK (c:Int):List (Int×aF)->Option aF
 |[]=>none
 |p::ps=>if c=p.1 then some p.2 else lK c ps
def rM (c:Int)(v:aF):List (Int×aF)->List (Int×aF)
 |[]=>[(c,v)]
 |p::ps=>if c=p.1 then(p.1,v)::ps else p::rM c v ps
def Ch (c:Int):List (Int×aF)->Nat->Option (Nat×aF)
 |[],_=>none
 |p::ps,i=>if c=p.1 then some (i,p.2) else Ch c ps (i+1)
variable {ps:List (Int×aF)}
theorem zY.cons_inv (h:zY (e::es) ps):∃p qs,ps=p::qs/\e.key=.int .i64 p.1/\e.val=p.2/\zY es qs:=by
 unfold zY at h
 cases ps with
 |nil=>cases h
 |cons p qs=>
  rw[jO,jO] at h;injection h with h1 h2;injection h1 with h3 h4;exact⟨p,qs,rfl,h3,h4,h2⟩
theorem zY.nil_inv (h:zY [] ps):ps=[]:=by
 unfold zY at h;simp_all
section
variable {P:cD}{k:aM}
theorem zqC (c:Int):∀(es:List pF) (ps:List (Int×aF)) (i:Nat),zY es ps->Hl (.int .i64) (.int .i64 c) es i=some (Ch c ps i)
 |[],ps,i,h=>by rw[h.nil_inv];rfl
 |e::es,ps,i,h=>by
  obtain⟨p,qs,rfl,h1,h2,h3⟩:=h.cons_inv;have ih:=zqC c es qs (i+1) h3;unfold Hl;simp only[h1,xE,if_true];by_cases hc:c=p.1
  .subst hc;simp[Ch,h2]
  .have:(c==p.1)=false:=by rw[beq_eq_false_iff_ne];exact hc
   rw[this];simp only[Ch,if_neg hc];exact ih
theorem zeW (hk:P.underlying k=some (.int .i64))(c:Int)(w:aE)(es:List pF)(ps:List (Int×aF))(h:zY es ps):(My k (.int .i64 c) es).run P w=.ok (Ch c ps 0) w:=by
 unfold My;simp only[G3,xZ hk,Gx,zqC c es ps 0 h,Kl]
theorem zkG (c:Int):∀(ps:List (Int×aF)) (i:Nat),(Ch c ps i).map zwA=lK c ps
 |[],_=>rfl
 |p::ps,i=>by
  unfold Ch lK;by_cases h:c=p.1
  .simp_all
  .rw[if_neg h,if_neg h];exact zkG c ps (i+1)
theorem zeD (hk:P.underlying k=some (.int .i64))(b:Bool)(c:Int)(w:aE):(Ij b 10000 k (.int .i64 c)).run P w=.ok () w:=by
 rw[show(10000:Nat)=9999+1 by decide];unfold Ij;simp[xZ hk]
variable {ps:List (Int×aF)}
theorem zbd {t e:aM}(ht:P.underlying t=some (.map k e))(hk:P.underlying k=some (.int .i64)){z:aF}{w:aE}(hz:(zeroValue e).run P w=.ok z w){b:Nat}{c:Int}(h:zE w b ps)(ok:Bool):
 (Ar t (.map (some b)) (.int .i64 c) ok).run P w=.ok (if ok then .tuple #[(lK c ps).getD z,.bool (lK c ps).isSome] else(lK c ps).getD z) w:=by
 obtain⟨es,clock,hb,he⟩:=h;unfold Ar;have hf:=zkG c ps 0;have hg:(getObj b).run P w=.ok (.map es clock) w:=by first|exact run_getObj hb|(show bN P (zqF b Sem.pure) w=_;unfold bN;rw[hb];rfl)|(simp[getObj,bN,hb])
 simp only[G3,xZ ht,Gx,hg,Kl,zeD hk,zeW hk c w _ _ he]
 cases hq:Ch c ps 0 with
 |none=>
  rw[hq] at hf;have Ej:lK c ps=none:=by simpa using hf.symm
  simp[hz,Ej]
 |some q=>
  rw[hq] at hf;have Ej:lK c ps=some q.2:=by simpa using hf.symm
  simp[Ej]
end
theorem zsT {c:Int}:∀{ps:List (Int×aF)} {i:Nat},Ch c ps i=none->rM c v ps=ps++[(c,v)]
 |[],_,_=>rfl
 |p::ps,i,h=>by
  unfold Ch at h;by_cases hc:c=p.1
  .simp_all
  .rw[if_neg hc] at h
   unfold rM;rw[if_neg hc,zsT h];rfl
theorem zrz {c:Int}{v:aF}:∀{es:List pF} {ps:List (Int×aF)} {i:Nat} {q:Nat×aF},zY es ps->Ch c ps i=some q->
 ∃j e0,q.1=i+j/\es[j]? =some e0/\e0.key=.int .i64 c/\zY (es.set j {e0 with key:=.int .i64 c,val:=v}) (rM c v ps)
 |[],ps,i,q,h,hq=>by rw[h.nil_inv] at hq;cases hq
 |e::es,ps,i,q,h,hq=>by
  obtain⟨p,qs,rfl,h1,h2,h3⟩:=h.cons_inv;unfold Ch at hq;by_cases hc:c=p.1
  .rw[if_pos hc] at hq
   injection hq with hq;refine⟨0,e,by rw[<-hq];rfl,rfl,by rw[h1,hc],?_⟩;unfold rM;rw[if_pos hc];unfold zY at h3⊢;simp_all
  .rw[if_neg hc] at hq
   obtain⟨j,e0,e1,e2,e3,e4⟩:=zrz (v:=v) h3 hq;refine⟨j+1,e0,by rw[e1];omega,e2,e3,?_⟩;unfold rM;rw[if_neg hc];unfold zY at e4⊢;simp_all
theorem zDV (c:Int)(w:aE):(Qk (.int .i64 c) (.int .i64 c)).run P w=.ok (.int .i64 c) w:=by
 unfold Qk;rw[if_pos (by simp[zc5])];rfl
section
variable {P:cD}{k:aM}
variable {ps:List (Int×aF)}
open Go.ChangeMaps in
theorem zvm {t e:aM}(ht:P.underlying t=some (.map k e))(hk:P.underlying k=some (.int .i64)){w:aE}{b:Nat}{c:Int}(h:zE w b ps)(v:aF):
 ∃fE zcG,(He t (.map (some b)) (.int .i64 c) v).run P w=.ok () {w with heap:=w.heap.setIfInBounds b (.map fE zcG)}/\zE {w with heap:=w.heap.setIfInBounds b (.map fE zcG)} b (rM c v ps):=by
 obtain⟨es,clock,hb,he⟩:=h;have hz:=(eM.1 hb).1
 cases hq:Ch c ps 0 with
 |none=>
  refine⟨es.push ⟨.int .i64 c,v,clock⟩,clock+1,?_,es.push ⟨.int .i64 c,v,clock⟩,clock+1,by simp[hz],?_⟩
  .simp[He,xZ ht,zat hb,zeD hk,zeW hk c w _ _ he,hq,Wl _ hb,vW]
  .rw[zsT hq]
   unfold zY at he⊢;simp_all
 |some q=>
  obtain⟨j,x,e1,e2,e3,e4⟩:=zrz (v:=v) he hq;have wU:q.1=j:=aC;have hj:es[j]? =some x:=by simpa using e2
  refine⟨es.modify j (λe'=>{e' with key:=.int .i64 c,val:=v}),clock,?_,es.modify j (λe'=>{e' with key:=.int .i64 c,val:=v}),clock,by simp[hz],?_⟩
  .simp[He,xZ ht,zat hb,zeD hk,zeW hk c w _ _ he,hq,wU,hj,e3,zDV,Wl _ hb,vW]
  .have:(es.modify j (λe'=>{e' with key:=.int .i64 c,val:=v})).toList=es.toList.set j {x with key:=.int .i64 c,val:=v}:=by
    rw[zoM,modify_eq_set _ _ _ _ e2]
   rw[this];exact e4
variable {ops:Array aZ}{rest:List aZ}{o:aZ}{a:Act}{Q:oP->Act->aE->Prop}
theorem zou (w:aE)(hg:o.guard=none)(m x:cN)(t:aM)(ok:Bool)(hop:o.op=Op.lookup t m x ok)(e:aM)
 (ht:P.underlying t=some (.map k e)) (hk:P.underlying k=some (.int .i64)) (z:aF) (hz:(zeroValue e).run P w=.ok z w) (b:Nat) (c:Int) (ps:List (Int×aF)) (hm:a.eval m=.map (some b)) (hx:a.eval x=.int .i64 c) (h:zE w b ps)
 (hK:wpList P ops Q rest (a.put o.dst (if ok then .tuple #[(lK c ps).getD z,.bool (lK c ps).isSome] else(lK c ps).getD z)) w):wpList P ops Q (o::rest) a w:=by
 refine Tm hg λK' sH=>?_;have cO:=zbd ht hk hz h (c:=c) ok;unfold C5;simp[aO,hop,hm,hx,cO,vW];cases ok<;>exact sH _ _ hK
theorem zz9 (w:aE)(hg:o.guard=none)(m x y:cN)(t:aM)(hop:o.op=zv7 t m x y)(e:aM)
 (ht:P.underlying t=some (.map k e)) (hk:P.underlying k=some (.int .i64)) (b:Nat) (c:Int) (v:aF) (ps:List (Int×aF)) (hm:a.eval m=.map (some b)) (hx:a.eval x=.int .i64 c) (hy:a.eval y=v) (h:zE w b ps)
 (hK:∀w' o',w'={w with heap:=w.heap.setIfInBounds b o'}->zE w' b (rM c v ps)->wpList P ops Q rest (a.put o.dst aA) w'):wpList P ops Q (o::rest) a w:=by
 refine Tm hg λK' sH=>?_;obtain⟨es,cl,cO,qP⟩:=zvm ht hk h (c:=c) v;unfold C5;simp[aO,hop,hm,hx,hy,cO,vW];exact sH _ _ (hK _ _ rfl qP)
open Go.ChangeMaps in
end
structure fK where
 sL:aF
 sQ:aF
 sW:aF
 sB:aF
 sR:aF
 sA:aF
 sT:aF
 mC:Nat
 mO:Nat
 mM:Nat
 pC:List (Nat×aF)
 pO:List (Int×aF)
 pM:List (Int×aF)
structure nZ where
 r:b6
 ln:List Nat
 qn:List Nat
 tk:List Int
def Jy (xs:List Nat):List Value:=xs.map λc=>.chan (some c)
abbrev hallA (v:fK)(d:nZ):Array Value:=#[.int .i64 d.r.o.ln,.int .i64 d.r.o.op,.int .i64 d.r.o.pt,v.sL,.map (some v.mC),.map (some v.mO),v.sQ,v.sW,v.sB,v.sR,.map (some v.mM),.int .i64 d.r.clk,v.sA,v.sT]
abbrev Oe (v:fK)(d:nZ):Obj:=.cells (hallA v d) 72
def parts (v:fK)(hb:Nat):List (Option Nat):=[some hb,v.sL.ownBlock,some v.mC,some v.mO,v.sQ.ownBlock,v.sW.ownBlock,v.sB.ownBlock,v.sR.ownBlock,some v.mM,v.sA.ownBlock,v.sT.ownBlock]
def zcH (l:List (Option Nat)):Prop:=∀(i j b:Nat),l[i]? =some (some b)->l[j]? =some (some b)->i=j
structure bF (w:aE)(lo hb:Nat)(v:fK)(d:nZ):Prop where
 blk:w.heap[hb]? =some (Oe v d)
 lob:lo<=hb/\lo<=v.mC/\lo<=v.mO/\lo<=v.mM
 L:w.ownsRow lo 84 1 v.sL d.ln.length (Jy d.ln)
 Q:w.ownsRow lo 95 1 v.sQ d.qn.length (Jy d.qn)
 W:w.ownsRow lo 149 2 v.sW d.r.wait.length (bK d.r.wait)
 B:w.ownsRow lo 3 1 v.sB d.r.back.length (fN (d.r.back.map bH.c))
 R:w.ownsRow lo 50 7 v.sR d.r.recs.length (recs d.r.recs)
 A:w.ownsRow lo 9 1 v.sA d.r.log.length (wF d.r.log)
 T:w.ownsRow lo 3 1 v.sT d.tk.length (fN d.tk)
 C:C9 w v.mC v.pC
 O:zE w v.mO v.pO
 M:zE w v.mM v.pM
 ap:zcH (parts v hb)
structure bT (hb:Nat)(v:fK)(w:aE)(v':fK)(w':aE):Prop where
 size:w.heap.size<=w'.heap.size
 block:∀b,b<w.heap.size->some b∉parts v hb->w'.heap[b]? =w.heap[b]?
 moved:∀b,some b∈parts v' hb->some b∈parts v hb\/w.heap.size<=b
section
variable {w w1 w' Gr:aE}{lo hb:Nat}{v v' zbA:fK}{d:nZ}
def bT.refl:bT hb v w v w:=⟨bM _,λ_ _ _=>rfl,λ_ h=>.inl h⟩
theorem bT.trans (h:bT hb v w v' w')(k:bT hb v' w' zbA Gr):bT hb v w zbA Gr:=
 ⟨eE h.size k.size,λb bY hn=>(k.block b (jP bY h.size) (λx=>(h.moved b x).elim hn λy=>by omega)).trans (h.block b bY hn),λb x=>(k.moved b x).elim (h.moved b) λy=>.inr (eE h.size y)⟩
def bT.below (h:cH w.heap.size w w'):bT hb v w v w':=⟨h.size,λb hb _=>h.block b hb,λ_ h=>.inl h⟩
theorem bT.same (h:bT hb v w v' w'){x:aE}(e:x.heap=w'.heap):bT hb v w v' x:=⟨by rw[e];exact h.size,λb hb hn=>by rw[e];exact h.block b hb hn,h.moved⟩
variable {x:aF}
theorem cK {E s n:Nat}{xs:List aF}(h:w.ownsRow lo E s x n xs)(k:∀b,x.ownBlock=some b->w'.heap[b]? =w.heap[b]?):w'.ownsRow lo E s x n xs:=by
 obtain⟨hl,h|⟨g,cap,cur,rfl,h1,hg,h2⟩⟩:=h
 .exact⟨hl,.inl h⟩
 .exact⟨hl,.inr ⟨g,cap,cur,rfl,h1,(k g rfl).trans hg,h2⟩⟩
theorem C9.keep {b:Nat}{ps:List (Nat×aF)}(h:C9 w b ps)(k:w'.heap[b]? =w.heap[b]?):C9 w' b ps:=by
 obtain⟨es,cl,h1,h2⟩:=h;exact⟨es,cl,k.trans h1,h2⟩
variable {ps:List (Int×aF)}
theorem zE.keep {b:Nat}(h:zE w b ps)(k:w'.heap[b]? =w.heap[b]?):zE w' b ps:=by
 obtain⟨es,cl,h1,h2⟩:=h;exact⟨es,cl,k.trans h1,h2⟩
theorem C9.lt {b:Nat}{ps:List (Nat×aF)}(h:C9 w b ps):b<w.heap.size:=by
 obtain⟨es,cl,h1,h2⟩:=h
 grind
theorem zE.lt {b:Nat}(h:zE w b ps):b<w.heap.size:=by
 obtain⟨es,cl,h1,h2⟩:=h
 grind
theorem bF.lt (h:bF w lo hb v d):∀b,some b∈parts v hb->lo<=b/\b<w.heap.size:=by
 intro b bY;unfold parts at bY;simp only[mB,nD,or_false] at bY;obtain⟨l0,l1,l2,l3⟩:=h.lob;have zvQ:=(eM.1 h.blk).1;rcases bY with e|e|e|e|e|e|e|e|e|e|e
 .simp_all
 .exact h.L.lt b e.symm
 .cases e;exact⟨l1,h.C.lt⟩
 .cases e;exact⟨l2,h.O.lt⟩
 .exact h.Q.lt b e.symm
 .exact h.W.lt b e.symm
 .exact h.B.lt b e.symm
 .exact h.R.lt b e.symm
 .cases e;exact⟨l3,h.M.lt⟩
 .exact h.A.lt b e.symm
 .exact h.T.lt b e.symm
theorem bF.keep (h:bF w lo hb v d)(k:∀b,b<w.heap.size->some b∈parts v hb->w'.heap[b]? =w.heap[b]?):bF w' lo hb v d:=by
 have kk:∀b,some b∈parts v hb->w'.heap[b]? =w.heap[b]? :=λb hb=>k b (h.lt b hb).2 hb;exact⟨(kk _ (eI (i:=0) zeO)).trans h.blk,h.lob,cK h.L λb e=>kk _ (eI (i:=1) cV),cK h.Q λb e=>kk _ (eI (i:=4) cV),cK h.W λb e=>kk _ (eI (i:=5) cV),cK h.B λb e=>kk _ (eI (i:=6) cV),cK h.R λb e=>kk _ (eI (i:=7) cV),cK h.A λb e=>kk _ (eI (i:=9) cV),cK h.T λb e=>kk _ (eI (i:=10) cV),h.C.keep (kk _ (eI (i:=2) zeO)),h.O.keep (kk _ (eI (i:=3) zeO)),h.M.keep (kk _ (eI (i:=8) zeO)),h.ap⟩
def bF.below (h:bF w lo hb v d)(k:cH w.heap.size w w'):bF w' lo hb v d:=h.keep λb hb _=>k.block b hb
def bF.alloc (h:bF w lo hb v d)(o:Obj):bF (w.alloc o) lo hb v d:=h.keep λb hb _=>qA w o b hb
def bF.drew (h:bF w lo hb v d):bF w.drew lo hb v d:=h.keep λ_ _ _=>rfl
theorem bF.same (h:bF w lo hb v d)(e:w'.heap=w.heap):bF w' lo hb v d:=h.keep λb _ _=>by rw[e]
variable {o:Obj}
theorem bF.turned {x:Nat}(h:bF w lo hb v d)(t:bT hb v w v' w')(hx:w.heap[x]? =some o)(hn:some x∉parts v hb):w'.heap[x]? =some o/\some x∉parts v' hb:=
 ⟨(t.block x (eM.1 hx).1 hn).trans hx,λy=>(t.moved x y).elim hn λz=>by simp_all⟩
def bF.ne (h:bF w lo hb v d){i j a b:Nat}(hi:(parts v hb)[i]? =some (some a))(hj:(parts v hb)[j]? =some (some b))(rC:i≠j):a≠b:=λe=>rC (h.ap i j a hi (e▸hj))
theorem Vs {l:List (Option Nat)}(h:zcH l){j n:Nat}{x:Option Nat}(hl:∀b,some b∈l->b<n)(hx:l[j]? =some x\/∀b,x=some b->n<=b):zcH (l.set j x):=by
 intro i k b hi hk;rw[za8] at hi hk;have old:∀m,l[m]? =some (some b)->b<n:=λm hm=>hl b (eI hm);split at hi<;>split at hk
 .omega
 .next e1 e2=>
  split at hi
  .injection hi with hi
   subst hi;rcases hx with hx|hx
   .exact e1▸h j k b hx hk
   grind
  .cases hi
 .next e1 e2=>
  split at hk
  .injection hk with hk
   subst hk;rcases hx with hx|hx
   .exact e2▸h i j b hi hx
   grind
  .cases hk
 .exact h i k b hi hk
theorem bF.other (h:bF w lo hb v d){j c:Nat}(hj:(parts v hb)[j]? =some x.ownBlock)(zl3:j≠0)(hg:w.grownBy w1 x.ownBlock)(s':aF):
 (∀i b,i≠0->i≠j->(parts v hb)[i]? =some (some b)->(w1.setCell ⟨hb,c,none⟩ s').heap[b]? =w.heap[b]?)/\w1.heap[hb]? =w.heap[hb]? :=by
 have h0:(parts v hb)[0]? =some (some hb):=rfl;have hx:∀i b,i≠j->(parts v hb)[i]? =some (some b)->some b≠x.ownBlock:=λi b rC hi e=>rC (h.ap i j b hi (by rw[hj,<-e]));refine⟨λi b eY rC hi=>?_,hg.block hb (h.lt hb (eI h0)).2 (hx 0 hb (Ne.symm zl3) h0)⟩;have aS:b≠hb:=h.ne hi h0 eY;exact(dX w1 _ _ b aS).trans (hg.block b (h.lt b (eI hi)).2 (hx i b rC hi))
variable {s':aF}
theorem Uh {j c:Nat}(aT:∀b,some b∈parts v hb->b<w.heap.size)(hj:(parts v hb)[j]? =some x.ownBlock)(hg:w.grownBy w1 x.ownBlock)(hv:parts v' hb=(parts v hb).set j s'.ownBlock)(hw:s'.ownBlock=x.ownBlock\/∀b,s'.ownBlock=some b->w.heap.size<=b):
 bT hb v w v' (w1.setCell ⟨hb,c,none⟩ s'):=by
 refine⟨by rw[xG];exact hg.size,λb bY hn=>?_,λb bY=>?_⟩
 .have h0:some hb∈parts v hb:=eI (i:=0) rfl
  have aS:b≠hb:=λe=>hn (e▸h0);exact(dX w1 _ _ b aS).trans (hg.block b bY λe=>hn (e▸eI hj))
 grind
theorem bF.putL (h:bF w lo hb v d)(hg:w.grownBy w1 v.sL.ownBlock){xs:List Nat}{n:Nat}(ho:w1.ownsRow lo 84 1 s' n (Jy xs))(hn:n=xs.length)(hw:s'.ownBlock=v.sL.ownBlock\/∀b,s'.ownBlock=some b->w.heap.size<=b):
 bF (w1.setCell ⟨hb,3,none⟩ s') lo hb {v with sL:=s'} {d with ln:=xs}/\bT hb v w {v with sL:=s'} (w1.setCell ⟨hb,3,none⟩ s'):=by
 subst hn;have aT:∀b,some b∈parts v hb->b<w.heap.size:=λb hb=>(h.lt b hb).2;obtain⟨kk,k0⟩:=h.other (j:=1) (c:=3) (x:=v.sL) rfl aH hg s';have hs:∀b,s'.ownBlock=some b->b≠hb:=λb e=>by
  rcases hw with hw|hw
  .exact h.ne (i:=1) (j:=0) (show some v.sL.ownBlock=_ by rw[<-hw,e]) rfl aH
  .have:=hw b e;have:=aT hb (eI (i:=0) rfl);omega
 have hp:parts {v with sL:=s'} hb=(parts v hb).set 1 s'.ownBlock:=rfl;refine⟨⟨oK (k0.trans h.blk) s',h.lob,cK ho λb e=>dX w1 _ _ b (hs b e),cK h.Q λb e=>kk 4 _ aH aH cV,cK h.W λb e=>kk 5 _ aH aH cV,cK h.B λb e=>kk 6 _ aH aH cV,cK h.R λb e=>kk 7 _ aH aH cV,cK h.A λb e=>kk 9 _ aH aH cV,cK h.T λb e=>kk 10 _ aH aH cV,h.C.keep (kk 2 _ aH aH rfl),h.O.keep (kk 3 _ aH aH rfl),h.M.keep (kk 8 _ aH aH rfl),?_⟩,Uh (j:=1) (x:=v.sL) aT rfl hg hp hw⟩;rw[hp];exact Vs h.ap aT (hw.imp (λe=>by rw[e];rfl) id)
theorem bF.putQ (h:bF w lo hb v d)(hg:w.grownBy w1 v.sQ.ownBlock){xs:List Nat}{n:Nat}(ho:w1.ownsRow lo 95 1 s' n (Jy xs))(hn:n=xs.length)(hw:s'.ownBlock=v.sQ.ownBlock\/∀b,s'.ownBlock=some b->w.heap.size<=b):
 bF (w1.setCell ⟨hb,6,none⟩ s') lo hb {v with sQ:=s'} {d with qn:=xs}/\bT hb v w {v with sQ:=s'} (w1.setCell ⟨hb,6,none⟩ s'):=by
 subst hn;have aT:∀b,some b∈parts v hb->b<w.heap.size:=λb hb=>(h.lt b hb).2;obtain⟨kk,k0⟩:=h.other (j:=4) (c:=6) (x:=v.sQ) rfl aH hg s';have hs:∀b,s'.ownBlock=some b->b≠hb:=λb e=>by
  rcases hw with hw|hw
  .exact h.ne (i:=4) (j:=0) (show some v.sQ.ownBlock=_ by rw[<-hw,e]) rfl aH
  .have:=hw b e;have:=aT hb (eI (i:=0) rfl);omega
 have hp:parts {v with sQ:=s'} hb=(parts v hb).set 4 s'.ownBlock:=rfl;refine⟨⟨oK (k0.trans h.blk) s',h.lob,cK h.L λb e=>kk 1 _ aH aH cV,cK ho λb e=>dX w1 _ _ b (hs b e),cK h.W λb e=>kk 5 _ aH aH cV,cK h.B λb e=>kk 6 _ aH aH cV,cK h.R λb e=>kk 7 _ aH aH cV,cK h.A λb e=>kk 9 _ aH aH cV,cK h.T λb e=>kk 10 _ aH aH cV,h.C.keep (kk 2 _ aH aH rfl),h.O.keep (kk 3 _ aH aH rfl),h.M.keep (kk 8 _ aH aH rfl),?_⟩,Uh (j:=4) (x:=v.sQ) aT rfl hg hp hw⟩;rw[hp];exact Vs h.ap aT (hw.imp (λe=>by rw[e];rfl) id)
variable {xs:List bH}
theorem bF.putW (h:bF w lo hb v d)(hg:w.grownBy w1 v.sW.ownBlock){n:Nat}(ho:w1.ownsRow lo 149 2 s' n (bK xs))(hn:n=xs.length)(hw:s'.ownBlock=v.sW.ownBlock\/∀b,s'.ownBlock=some b->w.heap.size<=b):
 bF (w1.setCell ⟨hb,7,none⟩ s') lo hb {v with sW:=s'} {d with r:={d.r with wait:=xs}}/\bT hb v w {v with sW:=s'} (w1.setCell ⟨hb,7,none⟩ s'):=by
 subst hn;have aT:∀b,some b∈parts v hb->b<w.heap.size:=λb hb=>(h.lt b hb).2;obtain⟨kk,k0⟩:=h.other (j:=5) (c:=7) (x:=v.sW) rfl aH hg s';have hs:∀b,s'.ownBlock=some b->b≠hb:=λb e=>by
  rcases hw with hw|hw
  .exact h.ne (i:=5) (j:=0) (show some v.sW.ownBlock=_ by rw[<-hw,e]) rfl aH
  .have:=hw b e;have:=aT hb (eI (i:=0) rfl);omega
 have hp:parts {v with sW:=s'} hb=(parts v hb).set 5 s'.ownBlock:=rfl;refine⟨⟨oK (k0.trans h.blk) s',h.lob,cK h.L λb e=>kk 1 _ aH aH cV,cK h.Q λb e=>kk 4 _ aH aH cV,cK ho λb e=>dX w1 _ _ b (hs b e),cK h.B λb e=>kk 6 _ aH aH cV,cK h.R λb e=>kk 7 _ aH aH cV,cK h.A λb e=>kk 9 _ aH aH cV,cK h.T λb e=>kk 10 _ aH aH cV,h.C.keep (kk 2 _ aH aH rfl),h.O.keep (kk 3 _ aH aH rfl),h.M.keep (kk 8 _ aH aH rfl),?_⟩,Uh (j:=5) (x:=v.sW) aT rfl hg hp hw⟩;rw[hp];exact Vs h.ap aT (hw.imp (λe=>by rw[e];rfl) id)
theorem bF.putB (h:bF w lo hb v d)(hg:w.grownBy w1 v.sB.ownBlock){n:Nat}(ho:w1.ownsRow lo 3 1 s' n (fN (xs.map bH.c)))(hn:n=xs.length)(hw:s'.ownBlock=v.sB.ownBlock\/∀b,s'.ownBlock=some b->w.heap.size<=b):
 bF (w1.setCell ⟨hb,8,none⟩ s') lo hb {v with sB:=s'} {d with r:={d.r with back:=xs}}/\bT hb v w {v with sB:=s'} (w1.setCell ⟨hb,8,none⟩ s'):=by
 subst hn;have aT:∀b,some b∈parts v hb->b<w.heap.size:=λb hb=>(h.lt b hb).2;obtain⟨kk,k0⟩:=h.other (j:=6) (c:=8) (x:=v.sB) rfl aH hg s';have hs:∀b,s'.ownBlock=some b->b≠hb:=λb e=>by
  rcases hw with hw|hw
  .exact h.ne (i:=6) (j:=0) (show some v.sB.ownBlock=_ by rw[<-hw,e]) rfl aH
  .have:=hw b e;have:=aT hb (eI (i:=0) rfl);omega
 have hp:parts {v with sB:=s'} hb=(parts v hb).set 6 s'.ownBlock:=rfl;refine⟨⟨oK (k0.trans h.blk) s',h.lob,cK h.L λb e=>kk 1 _ aH aH cV,cK h.Q λb e=>kk 4 _ aH aH cV,cK h.W λb e=>kk 5 _ aH aH cV,cK ho λb e=>dX w1 _ _ b (hs b e),cK h.R λb e=>kk 7 _ aH aH cV,cK h.A λb e=>kk 9 _ aH aH cV,cK h.T λb e=>kk 10 _ aH aH cV,h.C.keep (kk 2 _ aH aH rfl),h.O.keep (kk 3 _ aH aH rfl),h.M.keep (kk 8 _ aH aH rfl),?_⟩,Uh (j:=6) (x:=v.sB) aT rfl hg hp hw⟩;rw[hp];exact Vs h.ap aT (hw.imp (λe=>by rw[e];rfl) id)
theorem bF.putR (h:bF w lo hb v d)(hg:w.grownBy w1 v.sR.ownBlock){xs:List bO}{n:Nat}(ho:w1.ownsRow lo 50 7 s' n (recs xs))(hn:n=xs.length)(hw:s'.ownBlock=v.sR.ownBlock\/∀b,s'.ownBlock=some b->w.heap.size<=b):
 bF (w1.setCell ⟨hb,9,none⟩ s') lo hb {v with sR:=s'} {d with r:={d.r with recs:=xs}}/\bT hb v w {v with sR:=s'} (w1.setCell ⟨hb,9,none⟩ s'):=by
 subst hn;have aT:∀b,some b∈parts v hb->b<w.heap.size:=λb hb=>(h.lt b hb).2;obtain⟨kk,k0⟩:=h.other (j:=7) (c:=9) (x:=v.sR) rfl aH hg s';have hs:∀b,s'.ownBlock=some b->b≠hb:=λb e=>by
  rcases hw with hw|hw
  .exact h.ne (i:=7) (j:=0) (show some v.sR.ownBlock=_ by rw[<-hw,e]) rfl aH
  .have:=hw b e;have:=aT hb (eI (i:=0) rfl);omega
 have hp:parts {v with sR:=s'} hb=(parts v hb).set 7 s'.ownBlock:=rfl;refine⟨⟨oK (k0.trans h.blk) s',h.lob,cK h.L λb e=>kk 1 _ aH aH cV,cK h.Q λb e=>kk 4 _ aH aH cV,cK h.W λb e=>kk 5 _ aH aH cV,cK h.B λb e=>kk 6 _ aH aH cV,cK ho λb e=>dX w1 _ _ b (hs b e),cK h.A λb e=>kk 9 _ aH aH cV,cK h.T λb e=>kk 10 _ aH aH cV,h.C.keep (kk 2 _ aH aH rfl),h.O.keep (kk 3 _ aH aH rfl),h.M.keep (kk 8 _ aH aH rfl),?_⟩,Uh (j:=7) (x:=v.sR) aT rfl hg hp hw⟩;rw[hp];exact Vs h.ap aT (hw.imp (λe=>by rw[e];rfl) id)
variable {xs:List (List UInt8)}
theorem bF.putA (h:bF w lo hb v d)(hg:w.grownBy w1 v.sA.ownBlock){n:Nat}(ho:w1.ownsRow lo 9 1 s' n (wF xs))(hn:n=xs.length)(hw:s'.ownBlock=v.sA.ownBlock\/∀b,s'.ownBlock=some b->w.heap.size<=b):
 bF (w1.setCell ⟨hb,12,none⟩ s') lo hb {v with sA:=s'} {d with r:={d.r with log:=xs}}/\bT hb v w {v with sA:=s'} (w1.setCell ⟨hb,12,none⟩ s'):=by
 subst hn;have aT:∀b,some b∈parts v hb->b<w.heap.size:=λb hb=>(h.lt b hb).2;obtain⟨kk,k0⟩:=h.other (j:=9) (c:=12) (x:=v.sA) rfl aH hg s';have hs:∀b,s'.ownBlock=some b->b≠hb:=λb e=>by
  rcases hw with hw|hw
  .exact h.ne (i:=9) (j:=0) (show some v.sA.ownBlock=_ by rw[<-hw,e]) rfl aH
  .have:=hw b e;have:=aT hb (eI (i:=0) rfl);omega
 have hp:parts {v with sA:=s'} hb=(parts v hb).set 9 s'.ownBlock:=rfl;refine⟨⟨oK (k0.trans h.blk) s',h.lob,cK h.L λb e=>kk 1 _ aH aH cV,cK h.Q λb e=>kk 4 _ aH aH cV,cK h.W λb e=>kk 5 _ aH aH cV,cK h.B λb e=>kk 6 _ aH aH cV,cK h.R λb e=>kk 7 _ aH aH cV,cK ho λb e=>dX w1 _ _ b (hs b e),cK h.T λb e=>kk 10 _ aH aH cV,h.C.keep (kk 2 _ aH aH rfl),h.O.keep (kk 3 _ aH aH rfl),h.M.keep (kk 8 _ aH aH rfl),?_⟩,Uh (j:=9) (x:=v.sA) aT rfl hg hp hw⟩;rw[hp];exact Vs h.ap aT (hw.imp (λe=>by rw[e];rfl) id)
theorem bF.putT (h:bF w lo hb v d)(hg:w.grownBy w1 v.sT.ownBlock){xs:List Int}{n:Nat}(ho:w1.ownsRow lo 3 1 s' n (fN xs))(hn:n=xs.length)(hw:s'.ownBlock=v.sT.ownBlock\/∀b,s'.ownBlock=some b->w.heap.size<=b):
 bF (w1.setCell ⟨hb,13,none⟩ s') lo hb {v with sT:=s'} {d with tk:=xs}/\bT hb v w {v with sT:=s'} (w1.setCell ⟨hb,13,none⟩ s'):=by
 subst hn;have aT:∀b,some b∈parts v hb->b<w.heap.size:=λb hb=>(h.lt b hb).2;obtain⟨kk,k0⟩:=h.other (j:=10) (c:=13) (x:=v.sT) rfl aH hg s';have hs:∀b,s'.ownBlock=some b->b≠hb:=λb e=>by
  rcases hw with hw|hw
  .exact h.ne (i:=10) (j:=0) (show some v.sT.ownBlock=_ by rw[<-hw,e]) rfl aH
  .have:=hw b e;have:=aT hb (eI (i:=0) rfl);omega
 have hp:parts {v with sT:=s'} hb=(parts v hb).set 10 s'.ownBlock:=rfl;refine⟨⟨oK (k0.trans h.blk) s',h.lob,cK h.L λb e=>kk 1 _ aH aH cV,cK h.Q λb e=>kk 4 _ aH aH cV,cK h.W λb e=>kk 5 _ aH aH cV,cK h.B λb e=>kk 6 _ aH aH cV,cK h.R λb e=>kk 7 _ aH aH cV,cK h.A λb e=>kk 9 _ aH aH cV,cK ho λb e=>dX w1 _ _ b (hs b e),h.C.keep (kk 2 _ aH aH rfl),h.O.keep (kk 3 _ aH aH rfl),h.M.keep (kk 8 _ aH aH rfl),?_⟩,Uh (j:=10) (x:=v.sT) aT rfl hg hp hw⟩;rw[hp];exact Vs h.ap aT (hw.imp (λe=>by rw[e];rfl) id)
theorem bF.mapC (h:bF w lo hb v d){ps:List (Nat×aF)}(hm:C9 {w with heap:=w.heap.setIfInBounds v.mC o} v.mC ps):
 bF {w with heap:=w.heap.setIfInBounds v.mC o} lo hb {v with pC:=ps} d/\bT hb v w {v with pC:=ps} {w with heap:=w.heap.setIfInBounds v.mC o}:=by
 have kk:∀i b,i≠2->(parts v hb)[i]? =some (some b)->(w.heap.setIfInBounds v.mC o)[b]? =w.heap[b]? :=λi b hi bY=>tY (h.ne (i:=2) rfl bY (Ne.symm hi));refine⟨⟨(kk 0 _ aH rfl).trans h.blk,h.lob,cK h.L λb e=>kk 1 _ aH cV,cK h.Q λb e=>kk 4 _ aH cV,cK h.W λb e=>kk 5 _ aH cV,cK h.B λb e=>kk 6 _ aH cV,cK h.R λb e=>kk 7 _ aH cV,cK h.A λb e=>kk 9 _ aH cV,cK h.T λb e=>kk 10 _ aH cV,hm,h.O.keep (kk 3 _ aH rfl),h.M.keep (kk 8 _ aH rfl),h.ap⟩,aQ,λb bY hn=>tY λe=>hn (by rw[<-e];exact eI (i:=2) rfl),λb bY=>.inl bY⟩
theorem bF.mapO (h:bF w lo hb v d)(hm:zE {w with heap:=w.heap.setIfInBounds v.mO o} v.mO ps):
 bF {w with heap:=w.heap.setIfInBounds v.mO o} lo hb {v with pO:=ps} d/\bT hb v w {v with pO:=ps} {w with heap:=w.heap.setIfInBounds v.mO o}:=by
 have kk:∀i b,i≠3->(parts v hb)[i]? =some (some b)->(w.heap.setIfInBounds v.mO o)[b]? =w.heap[b]? :=λi b hi bY=>tY (h.ne (i:=3) rfl bY (Ne.symm hi));refine⟨⟨(kk 0 _ aH rfl).trans h.blk,h.lob,cK h.L λb e=>kk 1 _ aH cV,cK h.Q λb e=>kk 4 _ aH cV,cK h.W λb e=>kk 5 _ aH cV,cK h.B λb e=>kk 6 _ aH cV,cK h.R λb e=>kk 7 _ aH cV,cK h.A λb e=>kk 9 _ aH cV,cK h.T λb e=>kk 10 _ aH cV,h.C.keep (kk 2 _ aH rfl),hm,h.M.keep (kk 8 _ aH rfl),h.ap⟩,aQ,λb bY hn=>tY λe=>hn (by rw[<-e];exact eI (i:=3) rfl),λb bY=>.inl bY⟩
theorem bF.mapM (h:bF w lo hb v d)(hm:zE {w with heap:=w.heap.setIfInBounds v.mM o} v.mM ps):
 bF {w with heap:=w.heap.setIfInBounds v.mM o} lo hb {v with pM:=ps} d/\bT hb v w {v with pM:=ps} {w with heap:=w.heap.setIfInBounds v.mM o}:=by
 have kk:∀i b,i≠8->(parts v hb)[i]? =some (some b)->(w.heap.setIfInBounds v.mM o)[b]? =w.heap[b]? :=λi b hi bY=>tY (h.ne (i:=8) rfl bY (Ne.symm hi));refine⟨⟨(kk 0 _ aH rfl).trans h.blk,h.lob,cK h.L λb e=>kk 1 _ aH cV,cK h.Q λb e=>kk 4 _ aH cV,cK h.W λb e=>kk 5 _ aH cV,cK h.B λb e=>kk 6 _ aH cV,cK h.R λb e=>kk 7 _ aH cV,cK h.A λb e=>kk 9 _ aH cV,cK h.T λb e=>kk 10 _ aH cV,h.C.keep (kk 2 _ aH rfl),h.O.keep (kk 3 _ aH rfl),hm,h.ap⟩,aQ,λb bY hn=>tY λe=>hn (by rw[<-e];exact eI (i:=8) rfl),λb bY=>.inl bY⟩
theorem bF.putClk (h:bF w lo hb v d)(x:Int):bF (w.setCell ⟨hb,11,none⟩ (.int .i64 x)) lo hb v {d with r:={d.r with clk:=x}}/\bT hb v w v (w.setCell ⟨hb,11,none⟩ (.int .i64 x)):=by
 have h0:(parts v hb)[0]? =some (some hb):=rfl;have kk:∀i b,i≠0->(parts v hb)[i]? =some (some b)->(w.setCell ⟨hb,11,none⟩ (.int .i64 x)).heap[b]? =w.heap[b]? :=λi b hi bY=>dX w _ _ b (h.ne bY h0 hi);refine⟨⟨oK h.blk _,h.lob,cK h.L λb e=>kk 1 _ aH cV,cK h.Q λb e=>kk 4 _ aH cV,cK h.W λb e=>kk 5 _ aH cV,cK h.B λb e=>kk 6 _ aH cV,cK h.R λb e=>kk 7 _ aH cV,cK h.A λb e=>kk 9 _ aH cV,cK h.T λb e=>kk 10 _ aH cV,h.C.keep (kk 2 _ aH rfl),h.O.keep (kk 3 _ aH rfl),h.M.keep (kk 8 _ aH rfl),h.ap⟩,by simp_all,λb bY hn=>dX w _ _ b λe=>hn (e▸eI h0),λb bY=>.inl bY⟩
theorem bF.setR {gR cR i j:Nat}{x:bO}{u:aF}(f:bO->bO)(h:bF w lo hb v d)(hv:v.sR=.slice (some ⟨gR,0,none⟩) d.r.recs.length cR)(hd:d.r.recs[i]? =some x)(hj:j<7)(hs:∀k,k<7->k≠j->(f x).cells[k]? =x.cells[k]?)(hu:(f x).cells[j]? =some u):
 bF (w.setCell ⟨gR,i*7+j,none⟩ u) lo hb v {d with r:={d.r with recs:=d.r.recs.modify i f}}/\bT hb v w v (w.setCell ⟨gR,i*7+j,none⟩ u):=by
 have zm3:(parts v hb)[7]? =some (some gR):=by show some v.sR.ownBlock=_;rw[hv];rfl
 have kk:∀i b,i≠7->(parts v hb)[i]? =some (some b)->(w.setCell ⟨gR,i*7+j,none⟩ u).heap[b]? =w.heap[b]? :=λi b hi bY=>dX w _ _ b (h.ne bY zm3 hi);have Jw:∀m b,m≠7->(parts v hb)[m]? =some (some b)->(w.setCell ⟨gR,i*7+j,none⟩ u).heap[b]? =w.heap[b]? :=λm b hi bY=>dX w _ _ b (h.ne bY zm3 hi);have hr:=h.R;rw[hv] at hr;have h1:=(hr.stored (i*7+j) u).1;rw[zqP hd hj hs hu] at h1;refine⟨⟨(Jw 0 _ aH rfl).trans h.blk,h.lob,cK h.L λb e=>Jw 1 _ aH cV,cK h.Q λb e=>Jw 4 _ aH cV,cK h.W λb e=>Jw 5 _ aH cV,cK h.B λb e=>Jw 6 _ aH cV,?_,cK h.A λb e=>Jw 9 _ aH cV,cK h.T λb e=>Jw 10 _ aH cV,h.C.keep (Jw 2 _ aH rfl),h.O.keep (Jw 3 _ aH rfl),h.M.keep (Jw 8 _ aH rfl),h.ap⟩,by simp_all,λb bY hn=>dX w _ _ b λe=>hn (e▸eI zm3),λb bY=>.inl bY⟩;simp_all
end
def zQ (c:Nat):List (Nat×aF)->List (Nat×aF)
 |[]=>[]
 |p::ps=>if c=p.1 then ps else p::zQ c ps
theorem zoR :∀{ps:List (Nat×aF)},c∉ps.map vQ->pN c ps=none
 |[],_=>rfl
 |p::ps,h=>by
  unfold pN;have h1:c≠p.1:=λe=>h (by rw[e];simp);rw[if_neg h1];exact zoR λx=>h (Rj _ x)
theorem zwU (c c':Nat)(v:aF):∀ps:List (Nat×aF),pN c' (vC c v ps)=if c'=c then some v else pN c' ps
 |[]=>by
  unfold vC pN pN;rfl
 |p::ps=>by
  unfold vC;by_cases e:c=p.1
  .rw[if_pos e]
   unfold pN;simp_all
  .rw[if_neg e]
   unfold pN;by_cases e2:c'=p.1
   .grind
   .rw[if_neg e2,zwU c c' v ps]
    first|rfl|simp[e2]
variable {c':Nat}
theorem zuo :∀{ps:List (Nat×aF)},c'∈(vC c v ps).map vQ->c'=c\/c'∈ps.map vQ
 |[],h=>by unfold vC at h;simp at h;exact .inl h
 |p::ps,h=>by
  unfold vC at h;by_cases e:c=p.1
  .simp_all
  .rw[if_neg e,jO,mB] at h
   rcases h with h|h
   .simp_all
   .exact(zuo h).imp id (Rj _)
theorem zug (c:Nat)(v:aF):∀{ps:List (Nat×aF)},(ps.map vQ).Nodup->((vC c v ps).map vQ).Nodup
 |[],_=>by unfold vC;simp
 |p::ps,h=>by
  unfold vC;rw[jO,Dv] at h;by_cases e:c=p.1
  .simp_all
  .rw[if_neg e,jO,Dv]
   exact⟨λx=>(zuo x).elim (λy=>e y.symm) h.1,zug c v h.2⟩
theorem zt2 :∀{ps:List (Nat×aF)},c'∈(zQ c ps).map vQ->c'∈ps.map vQ
 |[],h=>by cases h
 |p::ps,h=>by
  unfold zQ at h;by_cases e:c=p.1
  .simp_all
  .rw[if_neg e,jO,mB] at h
   rcases h with h|h
   .rw[h];simp
   .exact Rj _ (zt2 h)
theorem zrg (c:Nat):∀{ps:List (Nat×aF)},(ps.map vQ).Nodup->((zQ c ps).map vQ).Nodup
 |[],_=>by unfold zQ;simp
 |p::ps,h=>by
  rw[jO,Dv] at h;unfold zQ;by_cases e:c=p.1
  .simp_all
  .rw[if_neg e,jO,Dv]
   exact⟨λx=>h.1 (zt2 x),zrg c h.2⟩
theorem zyd (c c':Nat):∀{ps:List (Nat×aF)},(ps.map vQ).Nodup->pN c' (zQ c ps)=if c'=c then none else pN c' ps
 |[],_=>by unfold zQ pN;split<;>rfl
 |p::ps,h=>by
  rw[jO,Dv] at h;unfold zQ;by_cases e:c=p.1
  .rw[if_pos e]
   by_cases e2:c'=c
   .rw[if_pos e2];exact zoR (by rw[e2,e];exact h.1)
   .rw[if_neg e2]
    show _=pN c' (p::ps)
    conv=>rhs;unfold pN
    simp_all
  .rw[if_neg e]
   unfold pN;by_cases e2:c'=p.1
   .grind
   .rw[if_neg e2,zyd c c' h.2]
    first|rfl|simp[e2]
theorem zw9 :∀{es:List pF} {ps:List (Nat×aF)} {i:Nat} {q:Nat×aF},zS es ps->Cm c ps i=some q->∃j,q.1=i+j/\j<es.length/\zS (es.eraseIdx j) (zQ c ps)
 |[],ps,i,q,h,hq=>by rw[h.nil_inv] at hq;cases hq
 |e::es,ps,i,q,h,hq=>by
  obtain⟨p,qs,rfl,h1,h2,h3⟩:=h.cons_inv;unfold Cm at hq;by_cases hc:c=p.1
  .rw[if_pos hc] at hq
   injection hq with hq;refine⟨0,by rw[<-hq];rfl,aQ,?_⟩;unfold zQ;simp_all
  .rw[if_neg hc] at hq
   obtain⟨j,e1,e2,e3⟩:=zw9 h3 hq;refine⟨j+1,by rw[e1];omega,by simpa using e2,?_⟩;unfold zQ;rw[if_neg hc];unfold zS at e3⊢;simp_all
section
variable {P:cD}{k:aM}{d:Tz}{e0:aM}
variable {ps:List (Nat×aF)}
theorem zCb {t e kt:aM}(ht:P.underlying t=some (.map k e))(hk:P.underlying k=some (.chan d e0)){w:aE}{b:Nat}{c:Nat}(h:C9 w b ps)(hc:(pN c ps).isSome=true):
 ∃o',(∀ty,(Lh #[t,kt] ty #[.map (some b),.chan (some c)]).run P w=.ok (.tuple #[]) {w with heap:=w.heap.setIfInBounds b o'})/\C9 {w with heap:=w.heap.setIfInBounds b o'} b (zQ c ps):=by
 obtain⟨es,clock,hb,he⟩:=h;have hz:=(eM.1 hb).1;have hf:=zoj c ps 0
 cases hq:Cm c ps 0 with
 |none=>grind
 |some q=>
  obtain⟨j,e1,e2,e3⟩:=zw9 he hq;have wU:q.1=j:=aC;refine⟨.map (es.eraseIdxIfInBounds j) clock,λty=>?_,es.eraseIdxIfInBounds j,clock,by simp[hz],?_⟩
  .simp[Lh,xZ ht,zat hb,zfF hk,zhQ hk c w _ _ he,hq,wU,Wl _ hb,vW]
  simp_all
end
def zB (c:Int):List (Int×aF)->List (Int×aF)
 |[]=>[]
 |p::ps=>if c=p.1 then ps else p::zB c ps
variable {c:Int}
theorem zwo :∀{ps:List (Int×aF)},c∉ps.map vQ->lK c ps=none
 |[],_=>rfl
 |p::ps,h=>by
  unfold lK;have h1:c≠p.1:=λe=>h (by rw[e];simp);rw[if_neg h1];exact zwo λx=>h (Rj _ x)
theorem V5 (c c':Int)(v:aF):∀ps:List (Int×aF),lK c' (rM c v ps)=if c'=c then some v else lK c' ps
 |[]=>by
  unfold rM lK lK;rfl
 |p::ps=>by
  unfold rM;by_cases e:c=p.1
  .rw[if_pos e]
   unfold lK;simp_all
  .rw[if_neg e]
   unfold lK;by_cases e2:c'=p.1
   .grind
   .rw[if_neg e2,V5 c c' v ps]
    first|rfl|simp[e2]
variable {c':Int}
theorem ztp :∀{ps:List (Int×aF)},c'∈(rM c v ps).map vQ->c'=c\/c'∈ps.map vQ
 |[],h=>by unfold rM at h;simp at h;exact .inl h
 |p::ps,h=>by
  unfold rM at h;by_cases e:c=p.1
  .simp_all
  .rw[if_neg e,jO,mB] at h
   rcases h with h|h
   .simp_all
   .exact(ztp h).imp id (Rj _)
theorem zjN (c:Int)(v:aF):∀{ps:List (Int×aF)},(ps.map vQ).Nodup->((rM c v ps).map vQ).Nodup
 |[],_=>by unfold rM;simp
 |p::ps,h=>by
  unfold rM;rw[jO,Dv] at h;by_cases e:c=p.1
  .simp_all
  .rw[if_neg e,jO,Dv]
   exact⟨λx=>(ztp x).elim (λy=>e y.symm) h.1,zjN c v h.2⟩
theorem zpH :∀{ps:List (Int×aF)},c'∈(zB c ps).map vQ->c'∈ps.map vQ
 |[],h=>by cases h
 |p::ps,h=>by
  unfold zB at h;by_cases e:c=p.1
  .simp_all
  .rw[if_neg e,jO,mB] at h
   rcases h with h|h
   .rw[h];simp
   .exact Rj _ (zpH h)
theorem zty (c:Int):∀{ps:List (Int×aF)},(ps.map vQ).Nodup->((zB c ps).map vQ).Nodup
 |[],_=>by unfold zB;simp
 |p::ps,h=>by
  rw[jO,Dv] at h;unfold zB;by_cases e:c=p.1
  .simp_all
  .rw[if_neg e,jO,Dv]
   exact⟨λx=>h.1 (zpH x),zty c h.2⟩
theorem zn6 (c c':Int):∀{ps:List (Int×aF)},(ps.map vQ).Nodup->lK c' (zB c ps)=if c'=c then none else lK c' ps
 |[],_=>by unfold zB lK;split<;>rfl
 |p::ps,h=>by
  rw[jO,Dv] at h;unfold zB;by_cases e:c=p.1
  .rw[if_pos e]
   by_cases e2:c'=c
   .rw[if_pos e2];exact zwo (by rw[e2,e];exact h.1)
   .rw[if_neg e2]
    show _=lK c' (p::ps)
    conv=>rhs;unfold lK
    simp_all
  .rw[if_neg e]
   unfold lK;by_cases e2:c'=p.1
   .grind
   .rw[if_neg e2,zn6 c c' h.2]
    first|rfl|simp[e2]
theorem zwz :∀{es:List pF} {ps:List (Int×aF)} {i:Nat} {q:Nat×aF},zY es ps->Ch c ps i=some q->∃j,q.1=i+j/\j<es.length/\zY (es.eraseIdx j) (zB c ps)
 |[],ps,i,q,h,hq=>by rw[h.nil_inv] at hq;cases hq
 |e::es,ps,i,q,h,hq=>by
  obtain⟨p,qs,rfl,h1,h2,h3⟩:=h.cons_inv;unfold Ch at hq;by_cases hc:c=p.1
  .rw[if_pos hc] at hq
   injection hq with hq;refine⟨0,by rw[<-hq];rfl,aQ,?_⟩;unfold zB;simp_all
  .rw[if_neg hc] at hq
   obtain⟨j,e1,e2,e3⟩:=zwz h3 hq;refine⟨j+1,by rw[e1];omega,by simpa using e2,?_⟩;unfold zB;rw[if_neg hc];unfold zY at e3⊢;simp_all
section
variable {P:cD}{k:aM}
variable {ps:List (Int×aF)}
theorem zIM {t e kt:aM}(ht:P.underlying t=some (.map k e))(hk:P.underlying k=some (.int .i64)){w:aE}{b:Nat}{c:Int}(h:zE w b ps)(hc:(lK c ps).isSome=true):
 ∃o',(∀ty,(Lh #[t,kt] ty #[.map (some b),.int .i64 c]).run P w=.ok (.tuple #[]) {w with heap:=w.heap.setIfInBounds b o'})/\zE {w with heap:=w.heap.setIfInBounds b o'} b (zB c ps):=by
 obtain⟨es,clock,hb,he⟩:=h;have hz:=(eM.1 hb).1;have hf:=zkG c ps 0
 cases hq:Ch c ps 0 with
 |none=>grind
 |some q=>
  obtain⟨j,e1,e2,e3⟩:=zwz he hq;have wU:q.1=j:=aC;refine⟨.map (es.eraseIdxIfInBounds j) clock,λty=>?_,es.eraseIdxIfInBounds j,clock,by simp[hz],?_⟩
  .simp[Lh,xZ ht,zat hb,zeD hk,zeW hk c w _ _ he,hq,wU,Wl _ hb,vW]
  simp_all
variable {Q:oP->Act->aE->Prop}
theorem zE1 {ops:Array aZ}{rest:List aZ}{o:aZ}{a:Act}(w:aE)(hg:o.guard=none)(m x:cN)(t kt:aM)(hop:o.op=.call {callee:=.builtin .delete,args:=#[m,x],argTypes:=#[t,kt]})(e:aM)
 (ht:P.underlying t=some (.map k e)) (hk:P.underlying k=some (.int .i64)) (b:Nat) (c:Int) (ps:List (Int×aF)) (hm:a.eval m=.map (some b)) (hx:a.eval x=.int .i64 c) (h:zE w b ps) (hc:(lK c ps).isSome=true)
 (hK:∀w' o',w'={w with heap:=w.heap.setIfInBounds b o'}->zE w' b (zB c ps)->wpList P ops Q rest (a.put o.dst (.tuple #[])) w'):wpList P ops Q (o::rest) a w:=by
 refine Tm hg λK' sH=>?_;obtain⟨o',cO,qP⟩:=zIM (kt:=kt) ht hk h hc;unfold C5;simp only[aO,hop,resolve,invoke,builtin,G3,Kl,Gx,uP,jO,uN,hm,hx,cO];exact sH _ _ (hK _ _ rfl qP)
end
structure gC (v:fK)(d:nZ):Prop where
 kc:(v.pC.map vQ).Nodup
 ko:(v.pO.map vQ).Nodup
 km:(v.pM.map vQ).Nodup
 c:∀(i g:Nat),d.ln[i]? =some g->((pN g v.pC).isSome=true↔∃(j:Nat) (x:bO),d.r.recs[j]? =some x/\cU x=true/\x.l=(i:Int)+1)
 o1:∀(c:Int) (y:aF),lK c v.pO=some y->∃(i:Nat) (x:bO) (g:Nat),d.r.recs[i]? =some x/\cU x=true/\x.c=c/\d.ln[(x.l-1).toNat]? =some g/\y=.chan (some g)
 o2:∀(c:Int),lK c v.pO=none->∀(i:Nat) (x:bO),d.r.recs[i]? =some x->cU x=true->x.c≠c
 m1:∀(c:Int) (y:aF),lK c v.pM=some y->∃(i:Nat) (x:bO),y=.int .i64 (i:Int)/\d.r.recs[i]? =some x/\x.c=c/\∀(j:Nat) (e:bO),d.r.recs[j]? =some e->e.c=c->j<=i
 m2:∀(c:Int),lK c v.pM=none->∀(i:Nat) (x:bO),d.r.recs[i]? =some x->x.c≠c
structure zJ (d:nZ):Prop where
 S:fP d.r
 R:RInv d.r
 ops:Vj d.r
 ndl:d.ln.Nodup
 nln:(d.ln.length:Int)=d.r.o.ln
 lb:∀x∈d.r.recs,1<=x.l/\x.l<=d.r.o.ln
 nqn:(d.qn.length:Int)=d.r.o.op
 sm:Su d.r
variable {xs:List Nat}
theorem zrJ (h:xs.Nodup){i j g:Nat}(hi:xs[i]? =some g)(hj:xs[j]? =some g):i=j:=by
 obtain⟨h1,h2⟩:=lX.1 hi;obtain⟨h3,h4⟩:=lX.1 hj;exact(List.getElem_inj h).1 (h2.trans h4.symm)
theorem zD2 {rs:List bO}{l:Int}:sC rs l=true↔∃(j:Nat) (x:bO),rs[j]? =some x/\cU x=true/\x.l=l:=by
 unfold sC;rw[Ws];constructor
 .rintro⟨x,hx,h⟩
  obtain⟨j,hj⟩:=yY.1 hx
  grind
 grind
section
variable {v:fK}{d:nZ}
variable {i g:Nat}
theorem gC.used (h:gC v d)(hi:d.ln[i]? =some g):(pN g v.pC).isSome=sC d.r.recs ((i:Int)+1):=by
 rw[Bool.eq_iff_iff,h.c i g hi,zD2]
variable {c:Int}{x:bO}
theorem gC.onLine (h:gC v d)(hi:zJ d)(hx:d.r.recs[i]? =some x)(ho:cU x=true)(hc:x.c=c):∃g,d.ln[(x.l-1).toNat]? =some g/\lK c v.pO=some (.chan (some g))/\lK c v.pM=some (.int .i64 (i:Int))/\(pN g v.pC).isSome=true:=by
 have hO:∃g,d.ln[(x.l-1).toNat]? =some g/\lK c v.pO=some (.chan (some g)):=by
  cases e:lK c v.pO with
  |none=>exact absurd hc (h.o2 c e i x hx ho)
  |some y=>
   obtain⟨j,z,g,h1,h2,h3,h4,rfl⟩:=h.o1 c y e;obtain rfl:=hi.S.opn i j x z hx h1 ho h2 (.inl (hc.trans h3.symm));simp_all
 obtain⟨g,h1,h2⟩:=hO;refine⟨g,h1,h2,?_,(h.c _ g h1).2 ⟨i,x,hx,ho,?_⟩⟩
 .cases e:lK c v.pM with
  |none=>exact absurd hc (h.m2 c e i x hx)
  |some y=>
   obtain⟨j,z,rfl,h3,h4,h5⟩:=h.m1 c y e;have k1:=h5 i x hx hc;have k2:=hi.S.last i j x z hx ho h3 (h4.trans hc.symm)
   grind
 .have:=hi.lb x (eI hx);omega
theorem gC.offLine (h:gC v d)(hc:gU d.r.recs c=none):lK c v.pO=none:=by
 cases e:lK c v.pO with
 |none=>rfl
 |some y=>
  obtain⟨j,z,g,h1,h2,h3,_⟩:=h.o1 c y e;exact absurd h3 (Ju hc j z h1 h2)
theorem gC.more (h:gC v d)(hn:d.ln.Nodup){o hh tt clk:Int}(hg:d.ln[i]? =some g)(hf:sC d.r.recs ((i:Int)+1)=false)(hc:gU d.r.recs c=none):
 gC {v with pC:=vC g (.int .i64 c) v.pC,pO:=rM c (.chan (some g)) v.pO,pM:=rM c (.int .i64 (d.r.recs.length:Int)) v.pM} {d with r:={d.r with recs:=d.r.recs++[⟨c,(i:Int)+1,o,clk,hh,tt,eP⟩]}}:=by
 have hop:cU ⟨c,(i:Int)+1,o,clk,hh,tt,eP⟩=true:=by unfold cU;rw[zbq];rfl
 have Fu:(d.r.recs++[(⟨c,(i:Int)+1,o,clk,hh,tt,eP⟩:bO)])[d.r.recs.length]? =some ⟨c,(i:Int)+1,o,clk,hh,tt,eP⟩:=by rw[List.getElem?_append_right (bM _),Nat.sub_self];rfl
 refine⟨zug _ _ h.kc,zjN _ _ h.ko,zjN _ _ h.km,λi' g' yT=>?_,λc' y hy=>?_,λc' hy j x hx ho=>?_,λc' y hy=>?_,λc' hy j x hx=>?_⟩
 .simp only[zwU]
  by_cases e:g'=g
  .subst e
   obtain rfl:=zrJ hn hg yT;rw[if_pos rfl];exact⟨λ_=>⟨_,_,Fu,hop,rfl⟩,λ_=>rfl⟩
  .rw[if_neg e,h.c i' g' yT]
   constructor
   .rintro⟨j,x,h1,h2⟩;exact⟨j,x,zfE h1,h2⟩
   .rintro⟨j,x,h1,h2,h3⟩
    rcases Gy h1 with⟨_,h4⟩|⟨rfl,rfl⟩
    .exact⟨j,x,h4,h2,h3⟩
    .exfalso
     have:i=i':=by simp only at h3;omega
     subst this;rw[hg] at yT;exact e (cS yT).symm
 .simp only[V5] at hy
  by_cases e:c'=c
  .rw[if_pos e] at hy
   obtain rfl:=cS hy;exact⟨_,_,g,Fu,hop,e.symm,by simp only;rw[show((i:Int)+1-1).toNat=i by omega];exact hg,rfl⟩
  .rw[if_neg e] at hy
   obtain⟨j,x,g',h1,h2⟩:=h.o1 c' y hy;exact⟨j,x,g',zfE h1,h2⟩
 .simp only[V5] at hy
  by_cases e:c'=c
  .rw[if_pos e] at hy;cases hy
  .rw[if_neg e] at hy
   rcases Gy hx with⟨_,h4⟩|⟨rfl,rfl⟩
   .exact h.o2 c' hy j x h4 ho
   .exact Ne.symm e
 .simp only[V5] at hy
  by_cases e:c'=c
  .rw[if_pos e] at hy
   obtain rfl:=cS hy;refine⟨_,_,rfl,Fu,e.symm,λj x hx _=>?_⟩;rcases Gy hx with⟨h4,_⟩|⟨rfl,rfl⟩
   .omega
   .exact bM _
  .rw[if_neg e] at hy
   obtain⟨j,x,h1,h2,h3,h4⟩:=h.m1 c' y hy;refine⟨j,x,h1,zfE h2,h3,λj' x' mJ lN=>?_⟩;rcases Gy mJ with⟨_,h5⟩|⟨rfl,rfl⟩
   .exact h4 j' x' h5 lN
   .exact absurd lN.symm e
 .simp only[V5] at hy
  by_cases e:c'=c
  .rw[if_pos e] at hy;cases hy
  .rw[if_neg e] at hy
   rcases Gy hx with⟨_,h4⟩|⟨rfl,rfl⟩
   .exact h.m2 c' hy j x h4
   .exact Ne.symm e
variable {f:bO->bO}
theorem gC.mod (h:gC v d)(hf:∀x,(f x).c=x.c/\(f x).l=x.l/\cU (f x)=cU x):gC v {d with r:={d.r with recs:=d.r.recs.modify i f}}:=by
 have fw:∀(j:Nat) (x:bO),d.r.recs[j]? =some x->∃y,(d.r.recs.modify i f)[j]? =some y/\y.c=x.c/\y.l=x.l/\cU y=cU x:=λj x hx=>by
  by_cases e:i=j
  .simp_all
  .simp_all
 have bw:∀(j:Nat) (y:bO),(d.r.recs.modify i f)[j]? =some y->∃x,d.r.recs[j]? =some x/\y.c=x.c/\y.l=x.l/\cU y=cU x:=λj y hy=>by
  obtain⟨x,h1,⟨_,rfl⟩|⟨_,rfl⟩⟩:=y6 hy
  .exact⟨x,h1,hf x⟩
  .simp_all
 refine⟨h.kc,h.ko,h.km,λi' g' yT=>?_,λc' y hy=>?_,λc' hy j x hx ho=>?_,λc' y hy=>?_,λc' hy j x hx=>?_⟩
 .rw[h.c i' g' yT]
  grind
 .obtain⟨j,x,g',h1,h2,h3,h4,h5⟩:=h.o1 c' y hy
  obtain⟨z,k1,k2,k3,k4⟩:=fw j x h1;exact⟨j,z,g',k1,k4.trans h2,k2.trans h3,by rw[k3];exact h4,h5⟩
 .obtain⟨z,k1,k2,k3,k4⟩:=bw j x hx
  rw[k2];exact h.o2 c' hy j z k1 (k4.symm.trans ho)
 .obtain⟨j,x,h1,h2,h3,h4⟩:=h.m1 c' y hy
  grind
 .obtain⟨z,k1,k2,k3,k4⟩:=bw j x hx
  rw[k2];exact h.m2 c' hy j z k1
theorem gC.clear (h:gC v d)(hS:fP d.r)(hn:d.ln.Nodup)(Xl:∀x∈d.r.recs,1<=x.l)(hx:d.r.recs[i]? =some x)(ho:cU x=true)(hg:d.ln[(x.l-1).toNat]? =some g)(hf:∀z,(f z).c=z.c/\(f z).l=z.l)(bS:cU (f x)=false):
 gC {v with pC:=zQ g v.pC,pO:=zB x.c v.pO} {d with r:={d.r with recs:=d.r.recs.modify i f}}:=by
 have bw:∀(j:Nat) (y:bO),(d.r.recs.modify i f)[j]? =some y->cU y=true->i≠j/\d.r.recs[j]? =some y:=λj y hy Fe=>by
  obtain⟨z,h1,⟨e,rfl⟩|⟨e,rfl⟩⟩:=y6 hy
  .subst e
   rw[hx] at h1;obtain rfl:=cS h1;rw[bS] at Fe;cases Fe
  .exact⟨e,h1⟩
 have cw:∀(j:Nat) (y:bO),(d.r.recs.modify i f)[j]? =some y->∃z,d.r.recs[j]? =some z/\y.c=z.c:=λj y hy=>by
  obtain⟨z,h1,⟨_,rfl⟩|⟨_,rfl⟩⟩:=y6 hy
  .exact⟨z,h1,(hf z).1⟩
  simp_all
 refine⟨zrg _ h.kc,zty _ h.ko,h.km,λi' g' yT=>?_,λc' y hy=>?_,λc' hy j z hz Oz=>?_,λc' y hy=>?_,λc' hy j z hz=>?_⟩
 .simp only[zyd _ _ h.kc]
  by_cases e:g'=g
  .subst e
   have e1:=zrJ hn hg yT;rw[if_pos rfl];constructor
   .intro h;cases h
   .rintro⟨j,z,h1,h2,h3⟩
    obtain⟨k1,k2⟩:=bw j z h1 h2;have hl:=Xl x (eI hx);exact absurd (hS.opn i j x z hx k2 ho h2 (.inr (.inl aC))) k1
  .rw[if_neg e,h.c i' g' yT]
   constructor
   .rintro⟨j,z,h1,h2,h3⟩
    have aS:i≠j:=λe2=>by simp_all
    exact⟨j,z,Zg h1 aS,h2,h3⟩
   .rintro⟨j,z,h1,h2,h3⟩
    obtain⟨k1,k2⟩:=bw j z h1 h2;exact⟨j,z,k2,h2,h3⟩
 .simp only[zn6 _ _ h.ko] at hy
  by_cases e:c'=x.c
  .simp_all
  .rw[if_neg e] at hy
   obtain⟨j,z,g',h1,h2,h3,h4⟩:=h.o1 c' y hy;have aS:i≠j:=λe2=>by simp_all
   exact⟨j,z,g',Zg h1 aS,h2,h3,h4⟩
 .simp only[zn6 _ _ h.ko] at hy
  obtain⟨k1,k2⟩:=bw j z hz Oz;by_cases e:c'=x.c
  .intro e2
   exact k1 (hS.opn i j x z hx k2 ho Oz (.inl (by rw[e2,e])))
  .rw[if_neg e] at hy
   exact h.o2 c' hy j z k2 Oz
 .obtain⟨j,z,h1,h2,h3,h4⟩:=h.m1 c' y hy
  have up:∀(j':Nat) (e:bO),(d.r.recs.modify i f)[j']? =some e->e.c=c'->j'<=j:=λj' e he hc=>by
   obtain⟨z',k1,k2⟩:=cw j' e he;simp_all
  by_cases e:i=j
  .subst e
   exact⟨i,f z,h1,zhZ h2,(hf z).1.trans h3,up⟩
  .exact⟨j,z,h1,Zg h2 e,h3,up⟩
 .obtain⟨z',k1,k2⟩:=cw j z hz
  rw[k2];exact h.m2 c' hy j z' k1
end
def Tr:aK.underlying 84=some (.chan .both 3):=aU
def Mh:aK.underlying 3=some (.int .i64):=aU
theorem zli (w:aE):(zeroValue 3).run aK w=.ok (.int .i64 0) w:=by simp_all
def zcj (w:aE):(zeroValue 84).run aK w=.ok (.chan none) w:=aU
def Je (d:nZ):Int:=match oX d.r.o d.r.recs with|[]=>-1|l::_=>l-1
theorem zDK {p:Int->Bool}:∀(n k:Nat),k<n->(∀j,j<k->p ((j:Int)+1)=false)->p ((k:Int)+1)=true->∃rest,((iL n).map λi:Nat=>(i:Int)+1).filter p=((k:Int)+1)::rest:=by
 intro n
 induction n with
 |zero=>intro k h;omega
 |succ n ih=>
  intro k hk h1 h2;rw[List.range_succ,Ud,Qt];by_cases e:k<n
  .grind
  .have e2:k=n:=aC
   subst e2;have h0:((iL k).map λi:Nat=>(i:Int)+1).filter p=[]:=by
    rw[zuZ];intro x hx;obtain⟨i,hi,rfl⟩:=Sl.1 hx;rw[h1 i (Ei.1 hi)];simp
   rw[h0];simp_all
variable {d:nZ}{k:Nat}
theorem zzY (hn:(d.ln.length:Int)=d.r.o.ln)(hk:k<d.ln.length)(h1:∀j,j<k->sC d.r.recs ((j:Int)+1)=true)(h2:sC d.r.recs ((k:Int)+1)=false):Je d=(k:Int):=by
 unfold Je oX yL;obtain⟨rest,hr⟩:=zDK (p:=λl=>!sC d.r.recs l) d.r.o.ln.toNat k aC (λj hj=>by simp[h1 j hj]) (by simp[h2]);simp_all
theorem zAk (hn:(d.ln.length:Int)=d.r.o.ln)(h1:∀j,j<d.ln.length->sC d.r.recs ((j:Int)+1)=true):Je d= -1:=by
 unfold Je oX yL;have h0:((iL d.r.o.ln.toNat).map λi:Nat=>(i:Int)+1).filter (λl=>!sC d.r.recs l)=[]:=by
  rw[zuZ];intro x hx;obtain⟨i,hi,rfl⟩:=Sl.1 hx;rw[h1 i tV];simp
 rw[h0]
variable {w:aE}{lo:Nat}
theorem H0 {E s n:Nat}{xs:List aF}(h:w.ownsRow lo E s v n xs)(hs:0<s):∃A c,v=.slice A n c/\cJ w lo w.heap.size s A n c xs:=by
 obtain⟨A,c,e,o⟩:=zhh h hs;exact⟨A,c,e,o.slc⟩
theorem zge {hi n c:Nat}{A:Option bC}(h:cJ w lo hi 1 A n c (Jy xs))(hk:k<n):∃b off g,A=some ⟨b,off,none⟩/\xs[k]? =some g/\w.cell? ⟨b,off+k,none⟩=some (.chan (some g)):=by
 obtain⟨b,off,e,h1,h2,h3,h4⟩:=h.cells hk;have hl:xs.length=n:=by have:=h.len;simpa[Jy] using this
 obtain⟨g,hg⟩:∃g,xs[k]? =some g:=⟨xs[k]' aC,oQ aC⟩;refine⟨b,off,g,e,hg,?_⟩;have:=h4 0 (.chan (some g)) (by simp[Jy,hg]);simpa using this
theorem zvk {hb:Nat}{v:fK}(h:bF w lo hb v d)(m:gC v d)(hn:(d.ln.length:Int)=d.r.o.ln)(hk:d.ln.length<=100):
 gT aK 109 #[.pointer (some ⟨hb,0,none⟩)] w λe w'=>e=.returned (.int .i64 (Je d))/\w'=w:=by
 obtain⟨A,c,hA,hs⟩:=H0 h.L aH;have HS:=aD hs;have HM:=aD m;have HC:=aD h.C;have HN:=aD hn;have rF:=aI h.blk 3;have k2:=aI h.blk 4;have k1:w.cell? ⟨hb,3,none⟩=some (.slice A d.ln.length c):=by rw[rF,<-hA];rfl
 clear rF hA hs m hn h
 go_enter Tryz.func109,Tryz.ntmps109
 go_wp2
 go_loop [12] (λi=>∃k:Nat,k<=d.ln.length/\i=.int .i64 k/\∀j,j<k->sC d.r.recs ((j:Int)+1)=true) (λi=>d.ln.length-(intOf i).toNat)
 case atStart=>grind
 case round=>
  obtain⟨k,tT,rfl,gS⟩:=hrel;have zjt:=aD gS;clear gS;by_cases aT:k<d.ln.length
  .obtain⟨b,off,g,hA,hg,hv⟩:=zge HS.o aT
   subst hA;have HG:=aD hg;have i0:(0:Int)<=(k:Int):=aC;have i1:(k:Int)<(d.ln.length:Int):=aC;have HU:=aD (HM.o.used hg);clear hg;cases hu:sC d.r.recs ((k:Int)+1)
   .have HV:=aD hu
    clear hu
    go_wp2_with (at_lookup;refine zyu _ rfl (.tmp 21) (.tmp 22) 66 true rfl 3 zxG Tr (.int .i64 0) (zli _) v.mC g v.pC rfl rfl HC.o ?_;rw[HU.o,HV.o];simp only[if_true])
    go_ret;exact⟨Hx (zzY HN.o aT zjt.o HV.o).symm,rfl⟩
   .have HV:=aD hu
    clear hu
    go_wp2_with (at_lookup;refine zyu _ rfl (.tmp 21) (.tmp 22) 66 true rfl 3 zxG Tr (.int .i64 0) (zli _) v.mC g v.pC rfl rfl HC.o ?_;rw[HU.o,HV.o];simp only[if_true])
    go_round
    case rel=>exact⟨k+1,aC,nE,λj hj=>if e:j<k then zjt.o j e else(by rw[show j=k by omega];exact HV.o)⟩
    case measure=>simp[intOf];omega
  .have e:k=d.ln.length:=aC
   subst e;go_wp2;go_ret;exact⟨Hx (zAk HN.o zjt.o).symm,rfl⟩
end Go.Proofs.YtfcjiloojkjaeaaGreatDoor
namespace Go.Proofs.YtfcjiloojkjaeaaGreatDoor
open Go.RowKit Go.Mt Go.Conc Go.Tt Go.Maps
section
variable {p:cD}{o:aZ}{ρ:cN->aF}{w w':aE}
variable {t:aM}
theorem zjq {m x:cN}{ok:Bool}{a b v:aF}(ho:o.op=.lookup t m x ok)(hm:ρ m=a)(hx:ρ x=b)(hr:(Ar t a b ok).run p w=.ok v w):(aO ρ o).run p w=.ok (.value v) w:=by
 obtain⟨dst,zK,type,pos,after,guard⟩:=o;simp only at ho;subst ho;simp[aO,hm,hx,hr]
theorem zBh {t2:aM}{a b:cN}{x y:Option Nat}{d:Tz}{e:aM}(ho:o.op=.binOp .eql t a b t2)(hu:p.underlying t=some (.chan d e))(ha:ρ a=.chan x)(hb:ρ b=.chan y):(aO ρ o).run p w=.ok (.value (.bool (x==y))) w:=by
 obtain⟨dst,zK,type,pos,after,guard⟩:=o;simp only at ho;subst ho;simp[aO,eqGuard,binOp,ha,hb,zjD hu]
theorem Gd {x:Int}(h1: -1000000000000<=x)(h2:x<=1000000000000):IntKind.i64.wrap x=x:=by
 rw[IntKind.wrap_i64];omega
theorem exec_mu {m x y:cN}{a b c:aF}(ho:o.op=.mapUpdate t m x y)(hm:ρ m=a)(hx:ρ x=b)(hy:ρ y=c)(hr:(He t a b c).run p w=.ok () w'):(aO ρ o).run p w=.ok .skip w':=by
 obtain⟨dst,zK,type,pos,after,guard⟩:=o;simp only at ho;subst ho;simp[aO,hm,hx,hy,hr]
variable {kt:aM}
theorem exec_dl {m x:cN}{a b v:aF}(ho:o.op=.call ⟨.builtin .delete,#[m,x],#[t,kt]⟩)(hm:ρ m=a)(hx:ρ x=b)(hr:(Lh #[t,kt] o.type #[a,b]).run p w=.ok v w'):(aO ρ o).run p w=.ok (.value v) w':=by
 obtain⟨dst,zK,type,pos,after,guard⟩:=o;simp only at ho hr;subst ho;simp[aO,resolve,invoke,builtin,hm,hx,hr]
theorem zfd {m x:cN}{a b v:aF}(ho:o.op=.call ⟨.builtin .copy,#[m,x],#[t,kt]⟩)(hm:ρ m=a)(hx:ρ x=b)(hr:(Eg #[t,kt] o.type #[a,b]).run p w=.ok v w'):(aO ρ o).run p w=.ok (.value v) w':=by
 obtain⟨dst,zK,type,pos,after,guard⟩:=o;simp only at ho hr;subst ho;simp[aO,resolve,invoke,builtin,hm,hx,hr]
end
def bodyRF:Go.Code:=(Tryz.f115.body).getD .skip
def rRF1:Go.Code:=match bodyRF with| .seq _ (.seq (a) _)=>a|_=>.skip
def Cg:Array Oper:=match rRF1 with| .region _ ops _=>ops|_=>#[]
def zvJ:Cg.toList=[aV Cg 0 (some 5) (.move (.tmp 0)),aV Cg 1 (some 6) (.nilCheck (.tmp 5)),aV Cg 2 (some 7) (.fieldAddr 72 (.tmp 6) 7),aV Cg 3 (some 8) (.load 45 (.tmp 7)),aV Cg 4 (some 9) (.move (.tmp 0)),aV Cg 5 (some 10) (.nilCheck (.tmp 9)),aV Cg 6 (some 11) (.fieldAddr 72 (.tmp 10) 8),aV Cg 7 (some 12) (.load 70 (.tmp 11)),aV Cg 8 (some 13) (.move (.tmp 1)),aV Cg 9 (some 14) (.lookup 70 (.tmp 12) (.tmp 13) false),aV Cg 10 (some 15) (.indexAddr 45 (.tmp 8) (.tmp 14)),aV Cg 11 (some 4) (.assign (.tmp 15))]:=rfl
def WRF1 (w:aE)(hb g n cR mM ix:Nat)(c:Int):Nat->aE
 |_=>w.drew
theorem zrq:Cg.toList.map (·.dst)=[some 5,some 6,some 7,some 8,some 9,some 10,some 11,some 12,some 13,some 14,some 15,some 4]:=by rw[zvJ];rfl
def lRF1 (w:aE)(hb g n cR mM ix:Nat)(c:Int):List Value:=[.pointer (some ⟨hb,0,none⟩),.pointer (some ⟨hb,0,none⟩),.pointer (some ⟨hb,9,none⟩),.slice (some ⟨g,0,none⟩) n cR,.pointer (some ⟨hb,0,none⟩),.pointer (some ⟨hb,0,none⟩),.pointer (some ⟨hb,10,none⟩),.map (some mM),.int .i64 (c),.int .i64 ((ix:Nat)),.pointer (some ⟨g,ix*7,none⟩),.pointer (some ⟨g,ix*7,none⟩)]
def fRF1 (w:aE)(hb g n cR mM ix:Nat)(c:Int)(i:Nat):Value:=(lRF1 w hb g n cR mM ix c).getD i aA
variable {Q:oP->vX->aE->Prop}{d:List Gv}{t0:Array aF}
theorem wp_RF1 (w:aE)(hb g n cR mM ix:Nat)(c:Int)(hz:t0.size=16)(vL:t0.getD 0 aA=.pointer (some ⟨hb,0,none⟩))(Gc:t0.getD 1 aA=.int .i64 (c))(h9:w.cell? ⟨hb,9,none⟩=some (.slice (some ⟨g,0,none⟩) n cR))(Yf:w.cell? ⟨hb,10,none⟩=some (.map (some mM)))(xX:(Ar 70 (.map (some mM)) (.int .i64 c) false).run aK w.drew=.ok (.int .i64 (ix:Int)) w.drew)(oT:ix<n)(h0:WRF1 w hb g n cR mM ix c 0=w.drew)(hk:Q .normal ⟨dM Cg (fRF1 w hb g n cR mM ix c) t0,d⟩ (w.drew)):
 (F8 1 Cg true).wp aK Q ⟨t0,d⟩ w:=by
 refine Ix (ws:=[]) (Wd:=WRF1 w hb g n cR mM ix c) (vals:=fRF1 w hb g n cR mM ix c) vR.mixed aU aH aU h0 Ke (λV hU hV=>?_) hk;obtain⟨e5,e6,e7,e8,e9,zfW,ziq,zgU,zj7,zwg,zyT,e4,-⟩:=Iy zrq hU;have e0:=(hV 0 aU).trans vL;have e1:=(hV 1 aU).trans Gc;have zvc:=h9;have zAr:=Yf;refine λTf hT=>Ka zvJ ⟨bX.pv,bX.pv,bX.pv,bX.ld,bX.pv,bX.pv,bX.pv,bX.ld,bX.pv,bX.ld (hx:=zjq rfl (oE hT zgU) (oE hT zj7) xX),bX.any (λkk gG hm=>?_),bX.pv,trivial⟩
 .have i0:(0:Int)<=(ix:Int):=aC
  have i1:(ix:Int)<(n:Int):=by have:=oT;omega
  unfold aO;go_simp
def bodyCL:Go.Code:=(Tryz.f116.body).getD .skip
def rCL0:Go.Code:=match bodyCL with| .seq (a) _=>a|_=>.skip
def Cu:Array Oper:=match rCL0 with| .region _ ops _=>ops|_=>#[]
def zu0:Cu.toList=[aV Cu 0 (some 7) (.move (.tmp 0)),aV Cu 1 (some 8) (.nilCheck (.tmp 7)),aV Cu 2 (some 9) (.fieldAddr 72 (.tmp 8) 2),aV Cu 3 (some 10) (.load 66 (.tmp 9)),aV Cu 4 (some 11) (.move (.tmp 0)),aV Cu 5 (some 12) (.nilCheck (.tmp 11)),aV Cu 6 (some 13) (.fieldAddr 72 (.tmp 12) 3),aV Cu 7 (some 14) (.load 67 (.tmp 13)),aV Cu 8 (some 15) (.move (.tmp 1)),aV Cu 9 (some 16) (.lookup 67 (.tmp 14) (.tmp 15) false),aV Cu 10 none (.call ⟨.builtin .delete,#[.tmp 10,.tmp 16],#[66,84]⟩)]:=rfl
def WCL0 (w:aE)(hb mC mO g:Nat)(o1:Obj)(c:Int):Nat->aE
 |0=>w.drew
 |_=>{w.drew with heap:=w.drew.heap.setIfInBounds mC o1}
theorem zr8:Cu.toList.map (·.dst)=[some 7,some 8,some 9,some 10,some 11,some 12,some 13,some 14,some 15,some 16,none]:=by rw[zu0];rfl
def lCL0 (w:aE)(hb mC mO g:Nat)(o1:Obj)(c:Int):List Value:=[.pointer (some ⟨hb,0,none⟩),.pointer (some ⟨hb,0,none⟩),.pointer (some ⟨hb,4,none⟩),.map (some mC),.pointer (some ⟨hb,0,none⟩),.pointer (some ⟨hb,0,none⟩),.pointer (some ⟨hb,5,none⟩),.map (some mO),.int .i64 (c),.chan (some g),aA]
def fCL0 (w:aE)(hb mC mO g:Nat)(o1:Obj)(c:Int)(i:Nat):Value:=(lCL0 w hb mC mO g o1 c).getD i aA
theorem wp_CL0 (w:aE)(hb mC mO g:Nat)(o1:Obj)(c:Int)(hz:t0.size=36)(vL:t0.getD 0 aA=.pointer (some ⟨hb,0,none⟩))(Gc:t0.getD 1 aA=.int .i64 (c))(h4:w.cell? ⟨hb,4,none⟩=some (.map (some mC)))(h5:w.cell? ⟨hb,5,none⟩=some (.map (some mO)))(xX:(Ar 67 (.map (some mO)) (.int .i64 c) false).run aK w.drew=.ok (.chan (some g)) w.drew)(vK:∀ty,(Lh #[66,84] ty #[.map (some mC),.chan (some g)]).run aK w.drew=.ok (.tuple #[]) {w.drew with heap:=w.drew.heap.setIfInBounds mC o1})(h0:WCL0 w hb mC mO g o1 c 0=w.drew)(hk:Q .normal ⟨dM Cu (fCL0 w hb mC mO g o1 c) t0,d⟩ ({w.drew with heap:=w.drew.heap.setIfInBounds mC o1})):
 (F8 0 Cu true).wp aK Q ⟨t0,d⟩ w:=by
 refine Ix (ws:=[10]) (Wd:=WCL0 w hb mC mO g o1 c) (vals:=fCL0 w hb mC mO g o1 c) vR.mixed aU aH aU h0 Ke (λV hU hV=>?_) hk;obtain⟨e7,e8,e9,zfW,ziq,zgU,zj7,zwg,zyT,zEw,-⟩:=Iy zr8 hU;have e0:=(hV 0 aU).trans vL;have e1:=(hV 1 aU).trans Gc;have Hz:=h4;have zIJ:=h5;refine λTf hT=>Ka zu0 ⟨bX.pv,bX.pv,bX.pv,bX.ld,bX.pv,bX.pv,bX.pv,bX.ld,bX.pv,bX.ld (hx:=zjq rfl (oE hT zwg) (oE hT zyT) xX),.actn 0 rfl (eJ rfl) rfl (.tuple #[]) ?_,trivial⟩
 .exact exec_dl rfl (oE hT zfW) (oE hT zEw) (vK _)
def zwC:Go.Code:=(Tryz.f110.body).getD .skip
def rCC3:Go.Code:=match zwC with| .seq _ (.seq _ (.seq _ (.seq (a) _)))=>a|_=>.skip
def Dl:Array Oper:=match rCC3 with| .region _ ops _=>ops|_=>#[]
def zsO:Dl.toList=[aV Dl 0 (some 26) (.move (.tmp 0)),aV Dl 1 (some 27) (.nilCheck (.tmp 26)),aV Dl 2 (some 28) (.fieldAddr 72 (.tmp 27) 8),aV Dl 3 (some 29) (.load 70 (.tmp 28)),aV Dl 4 (some 30) (.move (.tmp 1)),aV Dl 5 (some 31) (.move (.tmp 0)),aV Dl 6 (some 32) (.nilCheck (.tmp 31)),aV Dl 7 (some 33) (.fieldAddr 72 (.tmp 32) 7),aV Dl 8 (some 34) (.load 45 (.tmp 33)),aV Dl 9 (some 35) (.call ⟨.builtin .len,#[.tmp 34],#[45]⟩),aV Dl 10 none (.mapUpdate 70 (.tmp 29) (.tmp 30) (.tmp 35))]:=rfl
def WCC3 (w:aE)(hb mM n:Nat)(sR:aF)(A:Option bC)(cR:Nat)(o1:Obj)(c:Int):Nat->aE
 |0=>w.drew
 |_=>{w.drew with heap:=w.drew.heap.setIfInBounds mM o1}
theorem zr7:Dl.toList.map (·.dst)=[some 26,some 27,some 28,some 29,some 30,some 31,some 32,some 33,some 34,some 35,none]:=by rw[zsO];rfl
def lCC3 (w:aE)(hb mM n:Nat)(sR:aF)(A:Option bC)(cR:Nat)(o1:Obj)(c:Int):List Value:=[.pointer (some ⟨hb,0,none⟩),.pointer (some ⟨hb,0,none⟩),.pointer (some ⟨hb,10,none⟩),.map (some mM),.int .i64 (c),.pointer (some ⟨hb,0,none⟩),.pointer (some ⟨hb,0,none⟩),.pointer (some ⟨hb,9,none⟩),.slice A n cR,.int .i64 ((n:Nat)),aA]
def fCC3 (w:aE)(hb mM n:Nat)(sR:aF)(A:Option bC)(cR:Nat)(o1:Obj)(c:Int)(i:Nat):Value:=(lCC3 w hb mM n sR A cR o1 c).getD i aA
theorem wp_CC3 (w:aE)(hb mM n:Nat)(sR:aF)(A:Option bC)(cR:Nat)(o1:Obj)(c:Int)(hz:t0.size=53)(vL:t0.getD 0 aA=.pointer (some ⟨hb,0,none⟩))(Gc:t0.getD 1 aA=.int .i64 (c))(Yf:w.cell? ⟨hb,10,none⟩=some (.map (some mM)))(h9:w.cell? ⟨hb,9,none⟩=some (.slice A n cR))(P4:(He 70 (.map (some mM)) (.int .i64 c) (.int .i64 (n:Int))).run aK w.drew=.ok () {w.drew with heap:=w.drew.heap.setIfInBounds mM o1})(h0:WCC3 w hb mM n sR A cR o1 c 0=w.drew)(hk:Q .normal ⟨dM Dl (fCC3 w hb mM n sR A cR o1 c) t0,d⟩ ({w.drew with heap:=w.drew.heap.setIfInBounds mM o1})):
 (F8 3 Dl true).wp aK Q ⟨t0,d⟩ w:=by
 refine Ix (ws:=[10]) (Wd:=WCC3 w hb mM n sR A cR o1 c) (vals:=fCC3 w hb mM n sR A cR o1 c) vR.mixed aU aH aU h0 Ke (λV hU hV=>?_) hk;obtain⟨zJk,zLT,zJI,zGY,zFY,zLk,zKq,zLY,zJF,zy2,-⟩:=Iy zr7 hU;have e0:=(hV 0 aU).trans vL;have e1:=(hV 1 aU).trans Gc;have zAr:=Yf;have zvc:=h9;refine λTf hT=>Ka zsO ⟨bX.pv,bX.pv,bX.pv,bX.ld,bX.pv,bX.pv,bX.pv,bX.pv,bX.ld,bX.pv,.skp 0 rfl (eJ rfl) rfl ?_,trivial⟩
 .exact exec_mu rfl (oE hT zGY) (oE hT zFY) (oE hT zy2) P4
def rCC4:Go.Code:=match zwC with| .seq _ (.seq _ (.seq _ (.seq _ (a))))=>a|_=>.skip
def vU:Array Oper:=match rCC4 with| .region _ ops _=>ops|_=>#[]
def zve:vU.toList=[aV vU 0 (some 36) (.move (.tmp 0)),aV vU 1 (some 37) (.move (.tmp 0)),aV vU 2 (some 38) (.nilCheck (.tmp 37)),aV vU 3 (some 39) (.fieldAddr 72 (.tmp 38) 7),aV vU 4 (some 40) (.load 45 (.tmp 39)),aV vU 5 (some 41) (.move (.tmp 1)),aV vU 6 (some 42) (.move (.tmp 2)),aV vU 7 (some 43) (.binOp .add 3 (.tmp 42) (.const (.int .i64 1)) 3),aV vU 8 (some 44) (.move (.tmp 0)),aV vU 9 (some 45) (.nilCheck (.tmp 44)),aV vU 10 (some 46) (.fieldAddr 72 (.tmp 45) 9),aV vU 11 (some 47) (.load 3 (.tmp 46)),aV vU 12 (some 48) (.build 50 #[(0,.tmp 41),(1,.tmp 43),(3,.tmp 47),(4,.const (.int .i64 (-1))),(5,.const (.int .i64 (-1))),(6,.const (.string {data:=#[111,112,101,110]}))]),aV vU 13 (some 49) (.buildSlice 45 1 #[(0,.tmp 48)]),aV vU 14 (some 50) (.call ⟨.builtin .append,#[.tmp 40,.tmp 49],#[45,45]⟩),aV vU 15 (some 51) (.nilCheck (.tmp 36)),aV vU 16 (some 52) (.fieldAddr 72 (.tmp 51) 7),aV vU 17 none (.store 45 (.tmp 52) (.tmp 50))]:=rfl
def WCC4 (w w3:aE)(hb g1 n1 c1:Nat)(sR:aF)(c ix clk:Int):Nat->aE
 |0=>w.drew
 |1=>(w.alloc (.cells #[.int .i64 c,.int .i64 (ix+1),.int .i64 0,.int .i64 clk,.int .i64 (-1),.int .i64 (-1),.string eP] 50)).drew
 |2=>w3
 |_=>w3.setCell ⟨hb,9,none⟩ (.slice (some ⟨g1,0,none⟩) n1 c1)
theorem zo4:vU.toList.map (·.dst)=[some 36,some 37,some 38,some 39,some 40,some 41,some 42,some 43,some 44,some 45,some 46,some 47,some 48,some 49,some 50,some 51,some 52,none]:=by rw[zve];rfl
def lCC4 (w w3:aE)(hb g1 n1 c1:Nat)(sR:aF)(c ix clk:Int):List Value:=[.pointer (some ⟨hb,0,none⟩),.pointer (some ⟨hb,0,none⟩),.pointer (some ⟨hb,0,none⟩),.pointer (some ⟨hb,9,none⟩),sR,.int .i64 (c),.int .i64 (ix),.int .i64 (ix+1),.pointer (some ⟨hb,0,none⟩),.pointer (some ⟨hb,0,none⟩),.pointer (some ⟨hb,11,none⟩),.int .i64 (clk),.agg #[.int .i64 c,.int .i64 (ix+1),.int .i64 0,.int .i64 clk,.int .i64 (-1),.int .i64 (-1),.string eP],.slice (some ⟨w.heap.size,0,none⟩) 1 1,.slice (some ⟨g1,0,none⟩) n1 c1,.pointer (some ⟨hb,0,none⟩),.pointer (some ⟨hb,9,none⟩),aA]
def fCC4 (w w3:aE)(hb g1 n1 c1:Nat)(sR:aF)(c ix clk:Int)(i:Nat):Value:=(lCC4 w w3 hb g1 n1 c1 sR c ix clk).getD i aA
theorem wp_CC4 (w w3:aE)(hb g1 n1 c1:Nat)(sR:aF)(c ix clk:Int)(hz:t0.size=53)(vL:t0.getD 0 aA=.pointer (some ⟨hb,0,none⟩))(Gc:t0.getD 1 aA=.int .i64 (c))(S3:t0.getD 2 aA=.int .i64 (ix))(h9:w.cell? ⟨hb,9,none⟩=some sR)(zcV:w.cell? ⟨hb,11,none⟩=some (.int .i64 clk))(zra:0<=ix/\ix<=1000)(fQ:(xR #[45,45] 45 #[sR,.slice (some ⟨w.heap.size,0,none⟩) 1 1]).run aK ((w.alloc (.cells #[.int .i64 c,.int .i64 (ix+1),.int .i64 0,.int .i64 clk,.int .i64 (-1),.int .i64 (-1),.string eP] 50)).drew)=.ok (.slice (some ⟨g1,0,none⟩) n1 c1) w3)(aX:w3.cell? ⟨hb,9,none⟩=some sR)(oC:w3.frozen? ⟨hb,9,none⟩=false)(h0:WCC4 w w3 hb g1 n1 c1 sR c ix clk 0=w.drew)(hk:Q .normal ⟨dM vU (fCC4 w w3 hb g1 n1 c1 sR c ix clk) t0,d⟩ (w3.setCell ⟨hb,9,none⟩ (.slice (some ⟨g1,0,none⟩) n1 c1))):
 (F8 4 vU true).wp aK Q ⟨t0,d⟩ w:=by
 refine Ix (ws:=[13,14,17]) (Wd:=WCC4 w w3 hb g1 n1 c1 sR c ix clk) (vals:=fCC4 w w3 hb g1 n1 c1 sR c ix clk) vR.mixed aU aH aU h0 Ke (λV hU hV=>?_) hk;obtain⟨zzU,zxS,zrZ,zlK,zn3,zsK,zpP,znT,zpr,zlV,Ys,zdN,zkw,Xn,zfu,Xs,Zb,-⟩:=Iy zo4 hU;have e0:=(hV 0 aU).trans vL;have e1:=(hV 1 aU).trans Gc;have e2:=(hV 2 aU).trans S3;have zvc:=h9;have zJ1:=zcV;refine λTf hT=>Ka zve ⟨bX.pv,bX.pv,bX.pv,bX.pv,bX.any (λkk gG hm=>?_),bX.pv,bX.pv,bX.any (λkk gG hm=>?_),bX.pv,bX.pv,bX.pv,bX.ld,bX.any (λkk gG hm=>?_),bX.act (v:=V 49) 0 rfl (eJ rfl) ?_,bX.act (v:=V 50) 1 rfl (eJ rfl) ?_,bX.pv,bX.pv,.skp 2 rfl (eJ rfl) rfl ?_,trivial⟩
 .rcases kk with _|_|_|_|kk
  .show(aO _ _).run _ (w.drew)=xH _ (w.drew);have hh:=h9;unfold aO;go_simp
  .show(aO _ _).run _ ((w.alloc (.cells #[.int .i64 c,.int .i64 (ix+1),.int .i64 0,.int .i64 clk,.int .i64 (-1),.int .i64 (-1),.string eP] 50)).drew)=xH _ ((w.alloc (.cells #[.int .i64 c,.int .i64 (ix+1),.int .i64 0,.int .i64 clk,.int .i64 (-1),.int .i64 (-1),.string eP] 50)).drew);have hh:=B6 h9 (.cells #[.int .i64 c,.int .i64 (ix+1),.int .i64 0,.int .i64 clk,.int .i64 (-1),.int .i64 (-1),.string eP] 50);unfold aO;go_simp
  .exact absurd hm nN
  .exact absurd hm nN
  .simp at gG
 .have i0:=zra.1
  have i1:=zra.2;unfold aO;go_simp;exact Gd aC aC
 .unfold aO;go_simp;rfl
 .rw[Xn];show(aO _ _).run _ (w.drew)=xH _ ((w.alloc (.cells #[.int .i64 c,.int .i64 (ix+1),.int .i64 0,.int .i64 clk,.int .i64 (-1),.int .i64 (-1),.string eP] 50)).drew);unfold aO;go_simp
 .rw[zfu];exact zb1 rfl (oE hT zn3) (oE hT Xn) fQ
 .have hs:=aX;have hf:=oC;show(aO _ _).run _ (w3)=xH _ (w3.setCell ⟨hb,9,none⟩ (.slice (some ⟨g1,0,none⟩) n1 c1));unfold aO;go_simp
def bodyWA:Go.Code:=(Tryz.f105.body).getD .skip
def rWA10:Go.Code:=match bodyWA with| .seq _ (.seq _ (.seq _ (.seq _ (.seq (.seq _ (.block _ (.loop (.seq _ (.seq _ (.seq (.block _ (.seq _ (.seq _ (.seq _ (.seq (a) _))))) _)))))) _))))=>a|_=>.skip
def Cn:Array Oper:=match rWA10 with| .region _ ops _=>ops|_=>#[]
def zqu:Cn.toList=[aV Cn 0 (some 58) (.move (.tmp 0)),aV Cn 1 (some 59) (.move (.tmp 0)),aV Cn 2 (some 60) (.nilCheck (.tmp 59)),aV Cn 3 (some 61) (.fieldAddr 72 (.tmp 60) 6),aV Cn 4 (some 62) (.load 38 (.tmp 61)),aV Cn 5 (some 63) (.fieldAddr 149 (.tmp 8) 0),aV Cn 6 (some 64) (.load 3 (.tmp 63)),aV Cn 7 (some 65) (.buildSlice 38 1 #[(0,.tmp 64)]),aV Cn 8 (some 66) (.call ⟨.builtin .append,#[.tmp 62,.tmp 65],#[38,38]⟩),aV Cn 9 (some 67) (.nilCheck (.tmp 58)),aV Cn 10 (some 68) (.fieldAddr 72 (.tmp 67) 6),aV Cn 11 none (.store 38 (.tmp 68) (.tmp 66))]:=rfl
def WWA10 (w w3:aE)(hb gx g1 n1 c1:Nat)(sB:aF)(c:Int):Nat->aE
 |0=>w.drew
 |1=>(w.alloc (.cells #[.int .i64 c] 3)).drew
 |2=>w3
 |_=>w3.setCell ⟨hb,8,none⟩ (.slice (some ⟨g1,0,none⟩) n1 c1)
theorem zuy:Cn.toList.map (·.dst)=[some 58,some 59,some 60,some 61,some 62,some 63,some 64,some 65,some 66,some 67,some 68,none]:=by rw[zqu];rfl
def lWA10 (w w3:aE)(hb gx g1 n1 c1:Nat)(sB:aF)(c:Int):List Value:=[.pointer (some ⟨hb,0,none⟩),.pointer (some ⟨hb,0,none⟩),.pointer (some ⟨hb,0,none⟩),.pointer (some ⟨hb,8,none⟩),sB,.pointer (some ⟨gx,0,none⟩),.int .i64 (c),.slice (some ⟨w.heap.size,0,none⟩) 1 1,.slice (some ⟨g1,0,none⟩) n1 c1,.pointer (some ⟨hb,0,none⟩),.pointer (some ⟨hb,8,none⟩),aA]
def zlh (w w3:aE)(hb gx g1 n1 c1:Nat)(sB:aF)(c:Int)(i:Nat):Value:=(lWA10 w w3 hb gx g1 n1 c1 sB c).getD i aA
theorem wp_WA10 (w w3:aE)(hb gx g1 n1 c1:Nat)(sB:aF)(c:Int)(hz:t0.size=81)(vL:t0.getD 0 aA=.pointer (some ⟨hb,0,none⟩))(znj:t0.getD 8 aA=.pointer (some ⟨gx,0,none⟩))(h8:w.cell? ⟨hb,8,none⟩=some sB)(hx:w.cell? ⟨gx,0,none⟩=some (.int .i64 c))(fQ:(xR #[38,38] 38 #[sB,.slice (some ⟨w.heap.size,0,none⟩) 1 1]).run aK ((w.alloc (.cells #[.int .i64 c] 3)).drew)=.ok (.slice (some ⟨g1,0,none⟩) n1 c1) w3)(aX:w3.cell? ⟨hb,8,none⟩=some sB)(oC:w3.frozen? ⟨hb,8,none⟩=false)(h0:WWA10 w w3 hb gx g1 n1 c1 sB c 0=w.drew)(hk:Q .normal ⟨dM Cn (zlh w w3 hb gx g1 n1 c1 sB c) t0,d⟩ (w3.setCell ⟨hb,8,none⟩ (.slice (some ⟨g1,0,none⟩) n1 c1))):
 (F8 10 Cn true).wp aK Q ⟨t0,d⟩ w:=by
 refine Ix (ws:=[7,8,11]) (Wd:=WWA10 w w3 hb gx g1 n1 c1 sB c) (vals:=zlh w w3 hb gx g1 n1 c1 sB c) vR.mixed aU aH aU h0 Ke (λV hU hV=>?_) hk;obtain⟨zqc,zBn,zLo,zJq,zFr,zKI,zJK,zrh,zCi,zKD,zLf,-⟩:=Iy zuy hU;have e0:=(hV 0 aU).trans vL;have e8:=(hV 8 aU).trans znj;have zJJ:=h8;have mJ:=hx;refine λTf hT=>Ka zqu ⟨bX.pv,bX.pv,bX.pv,bX.pv,bX.any (λkk gG hm=>?_),bX.pv,bX.ld,bX.act (v:=V 65) 0 rfl (eJ rfl) ?_,bX.act (v:=V 66) 1 rfl (eJ rfl) ?_,bX.pv,bX.pv,.skp 2 rfl (eJ rfl) rfl ?_,trivial⟩
 .rcases kk with _|_|_|_|kk
  .show(aO _ _).run _ (w.drew)=xH _ (w.drew);have hh:=h8;unfold aO;go_simp
  .show(aO _ _).run _ ((w.alloc (.cells #[.int .i64 c] 3)).drew)=xH _ ((w.alloc (.cells #[.int .i64 c] 3)).drew);have hh:=B6 h8 (.cells #[.int .i64 c] 3);unfold aO;go_simp
  .exact absurd hm nN
  .exact absurd hm nN
  .simp at gG
 .rw[zrh];show(aO _ _).run _ (w.drew)=xH _ ((w.alloc (.cells #[.int .i64 c] 3)).drew);unfold aO;go_simp
 .rw[zCi];exact zb1 rfl (oE hT zFr) (oE hT zrh) fQ
 .have hs:=aX;have hf:=oC;show(aO _ _).run _ (w3)=xH _ (w3.setCell ⟨hb,8,none⟩ (.slice (some ⟨g1,0,none⟩) n1 c1));unfold aO;go_simp
def bodyHG:Go.Code:=(Tryz.f102.body).getD .skip
def rHG1:Go.Code:=match bodyHG with| .seq _ (.seq (.seq (a) _) _)=>a|_=>.skip
def Kq:Array Oper:=match rHG1 with| .region _ ops _=>ops|_=>#[]
def zyK:Kq.toList=[aV Kq 0 (some 7) (.move (.tmp 0)),aV Kq 1 (some 8) (.nilCheck (.tmp 7)),aV Kq 2 (some 9) (.fieldAddr 72 (.tmp 8) 3),aV Kq 3 (some 10) (.load 67 (.tmp 9)),aV Kq 4 (some 11) (.load 3 (.tmp 3)),aV Kq 5 (some 12) (.lookup 67 (.tmp 10) (.tmp 11) false),aV Kq 6 (some 13) (.binOp .eql 84 (.tmp 12) (.const (.chan none)) 84)]:=rfl
def WHG1 (w:aE)(hb gx mO:Nat)(c:Int)(q:Option Nat):Nat->aE
 |_=>w.drew
theorem zmP:Kq.toList.map (·.dst)=[some 7,some 8,some 9,some 10,some 11,some 12,some 13]:=by rw[zyK];rfl
def lHG1 (w:aE)(hb gx mO:Nat)(c:Int)(q:Option Nat):List Value:=[.pointer (some ⟨hb,0,none⟩),.pointer (some ⟨hb,0,none⟩),.pointer (some ⟨hb,5,none⟩),.map (some mO),.int .i64 (c),.chan q,.bool (q==none)]
def fHG1 (w:aE)(hb gx mO:Nat)(c:Int)(q:Option Nat)(i:Nat):Value:=(lHG1 w hb gx mO c q).getD i aA
theorem zwK (w:aE)(hb gx mO:Nat)(c:Int)(q:Option Nat)(hz:t0.size=59)(vL:t0.getD 0 aA=.pointer (some ⟨hb,0,none⟩))(znJ:t0.getD 3 aA=.pointer (some ⟨gx,0,none⟩))(h5:w.cell? ⟨hb,5,none⟩=some (.map (some mO)))(hx:w.cell? ⟨gx,0,none⟩=some (.int .i64 c))(xX:(Ar 67 (.map (some mO)) (.int .i64 c) false).run aK w.drew=.ok (.chan q) w.drew)(h0:WHG1 w hb gx mO c q 0=w.drew)(hk:Q .normal ⟨dM Kq (fHG1 w hb gx mO c q) t0,d⟩ (w.drew)):
 (F8 1 Kq true).wp aK Q ⟨t0,d⟩ w:=by
 refine Ix (ws:=[]) (Wd:=WHG1 w hb gx mO c q) (vals:=fHG1 w hb gx mO c q) vR.mixed aU aH aU h0 Ke (λV hU hV=>?_) hk;obtain⟨e7,e8,e9,zfW,ziq,zgU,zj7,-⟩:=Iy zmP hU;have e0:=(hV 0 aU).trans vL;have e3:=(hV 3 aU).trans znJ;have zIJ:=h5;have mJ:=hx;refine λTf hT=>Ka zyK ⟨bX.pv,bX.pv,bX.pv,bX.ld,bX.ld,bX.ld (hx:=zjq rfl (oE hT zfW) (oE hT ziq) xX),bX.any (λkk gG hm=>?_),trivial⟩
 .exact zBh rfl Tr (oE hT zgU) rfl
end Go.Proofs.YtfcjiloojkjaeaaGreatDoor
namespace Go.Proofs.YtfcjiloojkjaeaaGreatDoor
open Go.RowKit
def Dd (v v':fK):Prop:=v'.sL=v.sL/\v'.sQ=v.sQ/\v'.sW=v.sW/\v'.sB=v.sB/\v'.sA=v.sA/\v'.sT=v.sT
def Dd.rf (v:fK):Dd v v:=⟨rfl,rfl,rfl,rfl,rfl,rfl⟩
def zyn:aK.underlying 70=some (.map 3 3):=aU
def Us:aK.underlying 67=some (.map 3 84):=aU
def zoY:aK.underlying 66=some (.map 84 3):=aU
variable {w:aE}{lo hb i:Nat}{v:fK}{d:nZ}{x:bO}
theorem zjg (h:bF w lo hb v d)(hx:d.r.recs[i]? =some x):∃g c,v.sR=.slice (some ⟨g,0,none⟩) d.r.recs.length c:=by
 have hi:=(lX.1 hx).1;rcases h.R.2 with⟨_,h0⟩|⟨g,cap,cur,e,_⟩
 .omega
 simp_all
variable {c:Int}{g cR:Nat}
theorem zgr (h:bF w lo hb v d)(hR:v.sR=.slice (some ⟨g,0,none⟩) d.r.recs.length cR)(hx:d.r.recs[i]? =some x)(hc:lK c v.pM=some (.int .i64 (i:Int))):
 gT aK 115 #[.pointer (some ⟨hb,0,none⟩),.int .i64 c] w λe w'=>e=.returned (.pointer (some ⟨g,i*7,none⟩))/\w'=w.drew:=by
 have hi:=(lX.1 hx).1;have k0:=aI h.blk 9;have k1:w.cell? ⟨hb,9,none⟩=some (.slice (some ⟨g,0,none⟩) d.r.recs.length cR):=by rw[k0,<-hR];rfl
 have k2:=aI h.blk 10;have hl:(Ar 70 (.map (some v.mM)) (.int .i64 c) false).run aK w.drew=.ok (.int .i64 (i:Int)) w.drew:=by
  have:=zbd zyn Mh (zli w.drew) (h.drew.M) (c:=c) false;rw[hc] at this;exact this
 have HL:=aD hl
 go_enter Tryz.func115,Tryz.ntmps115
 go_wp2_with fail
 refine wp_RF1 w hb g d.r.recs.length cR v.mM i c rfl rfl rfl k1 k2 HL.o hi rfl ?_;rw[Go.Mt.Cq,zrq];simp only[Go.Mt.yF,dU,dW,fRF1,lRF1,Dy,Ey]
 go_wp2_with fail
 go_ret;exact⟨rfl,rfl⟩
theorem zAe (rs:List bO)(x:bO):recs (rs++[x])=recs rs++x.cells:=by simp[recs]
def zA3:(aK.info? 50).map (λi=>(i.zero,i.size,i.bytes))=some (some (.agg #[.int .i64 0,.int .i64 0,.int .i64 0,.int .i64 0,.int .i64 0,.int .i64 0,.string ⟨#[]⟩]),7,64):=aU
variable {xs:List aF}
theorem Ns {lo E n m sz bytes t ty:Nat}{v:aF}{news:List aF}{z:aF}(zCt:(aK.info? E).map (λi=>(i.zero,i.size,i.bytes))=some (some z,sz,bytes))(hu:aK.underlying t=some (.slice E))(hzs:z.cells.size=sz)(cP:0<sz)
 (h:w.ownsRow lo E sz v n xs)  {cs:Array aF} (hg:w.heap[g]? =some (.cells cs E)) (gS:cs.toList=news) (hl:news.length=m*sz) (hm:0<m) (h1:∀u∈news,u.oneCell'=true) (hn:n+m<=1000000) (hb:bytes<=1000) (eL:lo<=w.heap.size):
 ∃g1 c1 w',(xR #[t,t] ty #[v,.slice (some ⟨g,0,none⟩) m m]).run aK w=.ok (.slice (some ⟨g1,0,none⟩) (n+m) c1) w'/\w'.ownsRow lo E sz (.slice (some ⟨g1,0,none⟩) (n+m) c1) (n+m) (xs++news)/\w.grownBy w' v.ownBlock/\
  ((Rl (some ⟨g1,0,none⟩) (n+m) c1).ownBlock=v.ownBlock\/∀b,(Rl (some ⟨g1,0,none⟩) (n+m) c1).ownBlock=some b->w.heap.size<=b):=by
 obtain⟨i0,hi,fM,dF,hY⟩:=C8 zCt;have zJY:(n+m)*bytes<=1000000*1000:=Nat.mul_le_mul hn hb;obtain⟨v',w',hr,h2,h3,h4,h5⟩:=run_append_own_at (P:=aK) w lo t ty E i0 z sz bytes hu hi fM dF hY hzs cP v n xs h ⟨g,0,none⟩ m m news hl (aE.news_of_block (cs:=cs) hg|>λf=>by rw[<-gS];exact f) h1 Z7 aC eL;obtain⟨g1,c1,rfl⟩:=zit h2 (λe=>by simp_all)
 grind
theorem zo5 (h:bF w lo hb v d)(eL:lo<=w.heap.size)(hg:d.ln[i]? =some g)(hi:i<=100)(hn:d.r.recs.length<=1000)(c:Int):
 gT aK 110 #[.pointer (some ⟨hb,0,none⟩),.int .i64 c,.int .i64 (i:Int)] w λe w'=>e=.returned (.tuple #[])/\∃v',bF w' lo hb v' {d with r:={d.r with recs:=d.r.recs++[⟨c,(i:Int)+1,0,d.r.clk,-1,-1,eP⟩]}}/\bT hb v w v' w'/\
  v'.pC=vC g (.int .i64 c) v.pC/\v'.pO=rM c (.chan (some g)) v.pO/\v'.pM=rM c (.int .i64 (d.r.recs.length:Int)) v.pM/\Dd v v':=by
 obtain⟨A,cL,hA,hs⟩:=H0 h.L aH;have Io:=(lX.1 hg).1;obtain⟨b,off,g',rfl,yT,hv⟩:=zge hs Io;rw[hg] at yT;obtain rfl:=cS yT;have zaa:=aI h.blk 3;have k3:w.cell? ⟨hb,3,none⟩=some (.slice (some ⟨b,off,none⟩) d.ln.length cL):=by rw[zaa,<-hA];rfl
 have k4:=aI h.blk 4;have i0:(0:Int)<=(i:Int):=aC;have i1:(i:Int)<(d.ln.length:Int):=aC;have HH:=aD h;have HC:=aD h.C;clear hA hs hg zaa h
 go_enter Tryz.func110,Tryz.ntmps110
 go_upto_region 1 with fail
 clear k3 hv
 go_upto_region 2 with(at_mapUpdate;refine zBw _ rfl (.tmp 17) (.tmp 18) (.tmp 19) 66 rfl 3 zoY Tr v.mC g (.int .i64 c) v.pC rfl rfl rfl HC.o ?_;intro w2 o2 eN zaV;have Ru:=aD eN;have Sr:=aD zaV;clear eN zaV)
 have oR:=Sr.o;rw[Ru.o] at oR;obtain⟨a2,t2⟩:=HH.o.mapC oR;rw[<-Ru.o] at a2 t2;obtain⟨v2,Cf⟩:=aN ({v with pC:=vC g (.int .i64 c) v.pC}:fK);rw[<-Cf] at a2 t2;have e2:v2.pC=vC g (.int .i64 c) v.pC/\v2.pO=v.pO/\v2.pM=v.pM/\Dd v v2:=by rw[Cf];exact⟨rfl,rfl,rfl,Dd.rf v⟩
 have zhM:=eE eL t2.size;clear Cf oR Sr Ru HC k4;have k5:=aI a2.blk 5;have HO:=aD a2.O;have A2:=aD a2;have T2:=aD t2;have E2:=aD e2;clear a2 t2 e2
 go_upto_region 3 with(at_mapUpdate;refine zz9 _ rfl (.tmp 23) (.tmp 24) (.tmp 25) 67 rfl 84 Us Mh v2.mO c (.chan (some g)) v2.pO rfl rfl rfl HO.o ?_;intro w3 o3 jD zxf;have Rm:=aD jD;have zov:=aD zxf;clear jD zxf)
 have zol:=zov.o;rw[Rm.o] at zol;obtain⟨a3,t3⟩:=A2.o.mapO zol;rw[<-Rm.o] at a3 t3;obtain⟨v3,Ih⟩:=aN ({v2 with pO:=rM c (.chan (some g)) v2.pO}:fK);rw[<-Ih] at a3 t3;have e3:v3.pC=vC g (.int .i64 c) v.pC/\v3.pO=rM c (.chan (some g)) v.pO/\v3.pM=v.pM/\Dd v v3:=by rw[Ih];exact⟨E2.o.1,by show rM _ _ v2.pO=_;rw[E2.o.2.1],E2.o.2.2⟩
 have ziN:=eE zhM t3.size;have zyF:=T2.o.trans t3;clear Ih zol zov Rm HO k5 A2 T2 E2 t3;obtain⟨AR,cR,zxt,_⟩:=H0 a3.R aH;have zxN:=aI a3.blk 9;have k9:w3.cell? ⟨hb,9,none⟩=some (.slice AR d.r.recs.length cR):=by rw[zxN,<-zxt];rfl
 have zs9:=aI a3.blk 10;obtain⟨es,cl,P4,qP⟩:=zvm zyn Mh a3.drew.M (c:=c) (.int .i64 (d.r.recs.length:Int));obtain⟨a4,t4⟩:=a3.drew.mapM qP;have A4:=aD a4;have T4:=aD (zyF.trans ((bT.refl (v:=v3) (w:=w3)).trans (⟨t4.size,t4.block,t4.moved⟩:bT hb v3 w3 _ _)));have MU:=aD P4;have E3:=aD e3;clear zxt zxN qP a3 a4 t4 P4 zyF e3;refine wp_CC3 w3 hb v3.mM d.r.recs.length v3.sR AR cR (.map es cl) c rfl rfl rfl zs9 k9 MU.o rfl ?_;rw[Go.Mt.Cq,zr7];simp only[Go.Mt.yF,dU,dW,fCC3,lCC3,Dy,Ey];obtain⟨w4,l5⟩:=aN ({w3.drew with heap:=w3.drew.heap.setIfInBounds v3.mM (.map es cl)}:aE);rw[<-l5] at A4 T4⊢;have zLd:=eE eL T4.o.size;clear l5 MU k9 zs9;obtain⟨v4,Iw⟩:=aN ({v3 with pM:=rM c (.int .i64 (d.r.recs.length:Int)) v3.pM}:fK);rw[<-Iw] at A4 T4;have E4:=aD (show v4.pC=vC g (.int .i64 c) v.pC/\v4.pO=rM c (.chan (some g)) v.pO/\v4.pM=rM c (.int .i64 (d.r.recs.length:Int)) v.pM/\Dd v v4 by rw[Iw];exact⟨E3.o.1,E3.o.2.1,by show rM _ _ v3.pM=_;rw[E3.o.2.2.1],E3.o.2.2.2⟩);clear Iw E3;obtain⟨OB,zcZ⟩:=aN (.cells #[.int .i64 c,.int .i64 ((i:Int)+1),.int .i64 0,.int .i64 d.r.clk,.int .i64 (-1),.int .i64 (-1),.string eP] 50:Obj);have a5:=(A4.o.alloc OB).drew;obtain⟨g1,c1,w5,fQ,cY,mV,eO⟩:=Ns (t:=45) (ty:=45) zA3 Tryz.underlying45 rfl aH a5.R (g:=w4.heap.size) (cs:=#[.int .i64 c,.int .i64 ((i:Int)+1),.int .i64 0,.int .i64 d.r.clk,.int .i64 (-1),.int .i64 (-1),.string eP]) (news:=bO.cells ⟨c,(i:Int)+1,0,d.r.clk,-1,-1,eP⟩) (by rw[zcZ];exact gV _ _) rfl (m:=1) rfl aH zik aC aH pD;obtain⟨a6,t6⟩:=a5.putR mV (n:=d.r.recs.length+1) (xs:=d.r.recs++[⟨c,(i:Int)+1,0,d.r.clk,-1,-1,eP⟩]) (by rw[zAe];exact cY) aQ eO;have A6:=aD a6;have T6:=aD (T4.o.trans ((bT.below (eK (gD _ _) OB)).trans (⟨t6.size,t6.block,t6.moved⟩:bT hb v4 (w4.alloc OB) _ _)));have k9:=aI A4.o.blk 9;have Gk:=aI A4.o.blk 11;have yX:=(a5.other (j:=7) (c:=9) (x:=v4.sR) rfl aH mV (.slice (some ⟨g1,0,none⟩) (d.r.recs.length+1) c1)).2.trans a5.blk;have zoE:=aI yX 9;have kf:=fC yX 9;have AP:=aD fQ;clear cY mV eO a6 t6 a5 yX fQ;rw[zcZ] at AP
 go_wp2_with fail
 refine wp_CC4 w4 w5 hb g1 (d.r.recs.length+1) c1 v4.sR c (i:Int) d.r.clk rfl rfl rfl rfl k9 Gk aC AP.o zoE kf rfl ?_;rw[Go.Mt.Cq,zo4];simp only[Go.Mt.yF,dU,dW,fCC4,lCC4,Dy,Ey];clear k9 Gk AP zoE kf;exact bodyPost_end (v:=.tuple #[]) (by simp[results,go_sem]<;>rfl) rfl ⟨rfl,_,A6.o,T6.o,E4.o⟩
variable {j:Nat}
theorem bF.recAt (h:bF w lo hb v d)(hR:v.sR=.slice (some ⟨g,0,none⟩) d.r.recs.length cR)(hx:d.r.recs[i]? =some x){u:aF}(hj:j<7)(hu:x.cells[j]? =some u):
 w.cell? ⟨g,i*7+j,none⟩=some u/\w.frozen? ⟨g,i*7+j,none⟩=false:=by
 have hr:=h.R;rw[hR] at hr;refine⟨?_,hr.frozenAt _⟩;have hi:=(lX.1 hx).1;obtain⟨b,off,e,h1,h2,h3,h4⟩:=(Av hr aH).cells hi;injection e with e;injection e with e1 e2;subst e1 e2;have:=h4 j u (by
  have g:(recs d.r.recs)[i*7+j]? =(d.r.recs[i]?).bind λx=>x.cells[j]? :=Ov bO.cells (s:=7) (λ_=>rfl) d.r.recs i j hj;rw[g,hx];exact hu)
 simpa using this
theorem zkC (h:bF w lo hb v d){e:ByteArray}{gR:Nat}(hx:d.r.recs[i]? =some x)(hO:lK c v.pO=some (.chan (some g)))(hC:(pN g v.pC).isSome=true)(hM:lK c v.pM=some (.int .i64 (i:Int)))
 (hR:v.sR=.slice (some ⟨gR,0,none⟩) d.r.recs.length cR):
 gT aK 116 #[.pointer (some ⟨hb,0,none⟩),.int .i64 c,.string e] w λen w'=>en=.returned (.tuple #[])/\∃v',bF w' lo hb v' {d with r:={d.r with recs:=d.r.recs.modify i λz=>{z with t:=d.r.clk,e:=e}}}/\bT hb v w v' w'/\
  v'.pC=zQ g v.pC/\v'.pO=zB c v.pO/\v'.pM=v.pM/\v'.sR=v.sR/\Dd v v':=by
 have k4:w.cell? ⟨hb,4,none⟩=some (.map (some v.mC)):=aI h.blk 4;have k5:w.cell? ⟨hb,5,none⟩=some (.map (some v.mO)):=aI h.blk 5;have xX:(Ar 67 (.map (some v.mO)) (.int .i64 c) false).run aK w.drew=.ok (.chan (some g)) w.drew:=by
  have:=zbd Us Mh (zcj w.drew) (h.drew.O) (c:=c) false;rw[hO] at this;exact this
 obtain⟨o1,vK,qP⟩:=zCb (kt:=84) zoY Tr h.drew.C hC;obtain⟨a1,t1⟩:=h.drew.mapC qP;have A1:=aD a1;have T1:=aD (⟨t1.size,t1.block,t1.moved⟩:bT hb v w _ _);have HX:=aD hx;have HM:=aD hM;have HR:=aD hR;have HO:=aD hO;have DL:=aD vK;have LK:=aD xX;clear vK xX qP a1 t1 hx hM hR hO h hC
 go_enter Tryz.func116,Tryz.ntmps116
 go_wp2_with fail
 refine wp_CL0 w hb v.mC v.mO g o1 c rfl rfl rfl k4 k5 LK.o DL.o rfl ?_;rw[Go.Mt.Cq,zr8];simp only[Go.Mt.yF,dU,dW,fCL0,lCL0,Dy,Ey];obtain⟨w1,dY⟩:=aN ({w.drew with heap:=w.drew.heap.setIfInBounds v.mC o1}:aE);obtain⟨v1,pS⟩:=aN ({v with pC:=zQ g v.pC}:fK);rw[<-dY,<-pS] at A1 T1;rw[<-dY];have E1:=aD (show v1.pC=zQ g v.pC/\v1.pO=v.pO/\v1.pM=v.pM/\v1.sR=v.sR/\Dd v v1 by rw[pS];exact⟨rfl,rfl,rfl,rfl,Dd.rf v⟩);clear dY pS k4 k5 DL LK;have k5:w1.cell? ⟨hb,5,none⟩=some (.map (some v1.mO)):=aI A1.o.blk 5;have Zu:=aD A1.o.O;have zv2:=aD (show(lK c v1.pO).isSome=true by rw[E1.o.2.1,HO.o];rfl)
 go_upto_region 2 with(refine zE1 _ rfl (.tmp 20) (.tmp 21) 67 3 rfl 84 Us Mh v1.mO c v1.pO rfl rfl Zu.o zv2.o ?_;intro w2 o2 eN zaV;have Ru:=aD eN;have Sr:=aD zaV;clear eN zaV)
 have oR:=Sr.o;rw[Ru.o] at oR;obtain⟨a2,t2⟩:=A1.o.mapO oR;rw[<-Ru.o] at a2 t2;obtain⟨v2,Cf⟩:=aN ({v1 with pO:=zB c v1.pO}:fK);rw[<-Cf] at a2 t2;have A2:=aD a2;have T2:=aD (T1.o.trans t2);have E2:=aD (show v2.pC=zQ g v.pC/\v2.pO=zB c v.pO/\v2.pM=v.pM/\v2.sR=v.sR/\Dd v v2 by rw[Cf];exact⟨E1.o.1,by show zB c v1.pO=_;rw[E1.o.2.1],E1.o.2.2⟩);clear Cf oR Sr Ru Zu zv2 a2 t2 k5 A1 T1 E1;have jX:=aD (E2.o.2.2.2.1.trans HR.o);have zGU:=aD (show lK c v2.pM=some (.int .i64 (i:Int)) by rw[E2.o.2.2.1];exact HM.o)
 go_upto_region 3 with(go_at_call 115;refine(zgr A2.o jX.o HX.o zGU.o).mono ?_;rintro en w3 ⟨rfl,jD⟩;have Rm:=aD jD;clear jD)
 have A3:=aD (show bF w3 lo hb v2 d by rw[Rm.o];exact A2.o.drew);have T3:=aD (show bT hb v w v2 w3 by rw[Rm.o];exact T2.o.same rfl);clear Rm A2 T2;have Gk:w3.cell? ⟨hb,11,none⟩=some (.int .i64 d.r.clk):=aI A3.o.blk 11;obtain⟨c5,f5⟩:=A3.o.recAt jX.o HX.o (j:=5) (u:=.int .i64 x.t) aH rfl;obtain⟨a4,t4⟩:=A3.o.setR (λz=>{z with t:=d.r.clk}) jX.o HX.o (j:=5) (u:=.int .i64 d.r.clk) aH zpS rfl;have A4:=aD a4;have T4:=aD (T3.o.trans t4);clear a4 t4
 go_upto_region 4 with fail
 obtain⟨w4,l5⟩:=aN (w3.setCell ⟨gR,i*7+5,none⟩ (.int .i64 d.r.clk));rw[<-l5] at A4 T4⊢;clear l5 c5 f5 Gk;have zau:=aD (show(d.r.recs.modify i λz=>{z with t:=d.r.clk})[i]? =some {x with t:=d.r.clk} from zhZ HX.o);have ztT:=aD (show v2.sR=.slice (some ⟨gR,0,none⟩) (d.r.recs.modify i λz=>{z with t:=d.r.clk}).length cR by rw[Nv];exact jX.o);obtain⟨c6,f6⟩:=A4.o.recAt ztT.o zau.o (j:=6) (u:=.string x.e) aH rfl;obtain⟨a5,t5⟩:=A4.o.setR (λz=>{z with e:=e}) ztT.o zau.o (j:=6) (u:=.string e) aH zwI rfl;simp only[zfy] at a5;have A5:=aD a5;have T5:=aD (T4.o.trans t5);clear a5 t5
 go_wp2_with fail
 exact bodyPost_end (v:=.tuple #[]) (results_none rfl _ _ _) rfl ⟨rfl,_,A5.o,T5.o,E2.o.1,E2.o.2.1,E2.o.2.2.1,E2.o.2.2.2.1,E2.o.2.2.2.2⟩
section
variable {P:cD}{w w':aE}
variable {elem t:aM}{i:wG}{cur:Array aF}
theorem zhI {dT sT ty:aM}{g o zmr zD7:Nat}{a:bC}{zaJ zDu:Nat}{cs:List aF}(hu:P.underlying dT=some (.slice elem))(hi:P.info? elem=some i)
 (hg:w.heap[g]? =some (.cells cur t (0,0))) (hn:cs.length=Nat.min zaJ zmr*i.size) (Vd:∀j v,cs[j]? =some v->w.cell? (a.add j)=some v) (Ji:o+cs.length<=cur.size) (h1:∀v∈cs,v.oneCell'=true):
 (Eg #[dT,sT] ty #[.slice (some ⟨g,o,none⟩) zmr zD7,.slice (some a) zaJ zDu]).run P w=.ok (goInt (Nat.min zaJ zmr)) (w.setRow g (cur.toList.take o++cs++cur.toList.drop (o+cs.length)).toArray):=by
 have hl:=run_loadCells_list (P:=P) w a cs Vd;have aX:=zyD P g o t cs 0 cur w hg (by simpa using Ji) h1;simp[Eg,xZ hu,Builtin.lenOf,Builtin.firstCells,sizeOf,typeInfo,hi,<-hn,hl,aX]
theorem znq {dT ty:aM}{z:aF}{g o n c:Nat}(hu:P.underlying dT=some (.slice elem))(hi:P.info? elem=some i)(hz:i.zero=some z)
 (hg:w.heap[g]? =some (.cells cur t (0,0))) (hn:n≠0) (Ji:o+(qK z.cells n).size<=cur.size) (h1:∀v∈(qK z.cells n).toList,v.oneCell'=true):
 (S8 #[dT] ty #[.slice (some ⟨g,o,none⟩) n c]).run P w=.ok (.tuple #[]) (w.setRow g (cur.toList.take o++(qK z.cells n).toList++cur.toList.drop (o+(qK z.cells n).size)).toArray):=by
 have aX:=zyD P g o t (qK z.cells n).toList 0 cur w hg (by simpa using Ji) h1;simp only[Ui,Es] at aX
 cases n with
 |zero=>exact absurd rfl hn
 |succ n=>simp[S8,xZ hu,zeroValue,typeInfo,hi,hz,aX]
variable {o:aZ}{a:Act}{ops:Array aZ}
theorem zgN {K:Act->aE->Prop}{Q:oP->Act->aE->Prop}{EE:Prop}(Gf:o.guard=none)(s x:cN)(t tn:aM)(ho:o.op=.call {callee:=.builtin .append,args:=#[s,x],argTypes:=#[t,tn]})(vs vx v':aF)(hs:a.eval s=vs)(hx:a.eval x=vx)
 (hr:∀ty,(xR #[t,tn] ty #[vs,vx]).run P w=.ok v' w') (h:K (a.put o.dst v') w'):if dI o (dL ops a.tmps)=true then C5 P o a w K Q else EE:=by
 rw[if_pos (by simp[dI,Gf])];unfold C5 aO;simp only[ho,resolve,invoke,builtin,G3,Kl,Gx,uP,jO,uN,hs,hx,hr];exact h
theorem zdv {rest:List aZ}{Q:oP->Act->aE->Prop}(Gf:o.guard=none)(s:cN)(t:aM)(ho:o.op=.call {callee:=.builtin .clear,args:=#[s],argTypes:=#[t]})(vs:aF)(hs:a.eval s=vs)
 (hr:∀ty,(S8 #[t] ty #[vs]).run P w=.ok (.tuple #[]) w') (h:wpList P ops Q rest (a.put o.dst (.tuple #[])) w'):wpList P ops Q (o::rest) a w:=by
 refine Tm Gf λK hK=>?_;unfold C5 aO;simp only[ho,resolve,invoke,builtin,G3,Kl,Gx,uP,jO,uN,hs,hr];exact hK _ _ h
end
def Ye:(aK.info? 3).map (λi=>(i.zero,i.size,i.bytes))=some (some (.int .i64 0),1,8):=aU
def zbF:(aK.info? 149).map (λi=>(i.zero,i.size,i.bytes))=some (some (.agg #[.int .i64 0,.int .i64 0]),2,16):=aU
theorem zcy (cs:Array aF):w.grownBy (w.setRow g cs) (some g):=⟨rfl,rfl,rfl,aQ,λk _ hk=>setRow_other w g k _ (λe=>hk (by rw[e]))⟩
variable {w':aE}{r:Option Nat}
def Ts {Gr:aE}(h:w.grownBy w' r)(k:w'.grownBy Gr r):w.grownBy Gr r:=⟨k.os.trans h.os,k.tape.trans h.tape,k.output.trans h.output,eE h.size k.size,λb hb hn=>(k.block b (jP hb h.size) hn).trans (h.block b hb hn)⟩
def zwW :w.grownBy w.drew r:=⟨rfl,rfl,rfl,bM _,λ_ _ _=>rfl⟩
variable {c n:Nat}
theorem zr1 (h:w.ownsRow lo 3 1 (.slice (some ⟨g,0,none⟩) n c) n xs)(I9:∀u∈xs,u.oneCell'=true)(aT:i<j)(hj:j<=n):
 gT aK 114 #[.slice (some ⟨g,0,none⟩) n c,.int .i64 (i:Int),.int .i64 (j:Int)] w λe w'=>e=.returned (.slice (some ⟨g,0,none⟩) (n-(j-i)) c)/\w'.ownsRow lo 3 1 (.slice (some ⟨g,0,none⟩) (n-(j-i)) c) (n-(j-i)) (xs.take i++xs.drop j)/\w.grownBy w' (some g):=by
 obtain⟨hlen,h|⟨g',cap,cur,hv,eL,hg,Y7,qP,gS,lZ⟩⟩:=h
 .exact absurd h.1 aQ
 injection hv with e1 e2 e3;injection e1 with e1;injection e1 with e1;subst e1 e3;clear e2;obtain⟨i0,eY,fM,dF,hY⟩:=C8 Ye;have kR:cur.toList.length=c*1:=by simpa using gS
 have vK:(xs.drop (j*1)).length=(n-j)*1:=by rw[zC,hlen];omega
 obtain⟨A,hA,Vd⟩:∃A:bC,(if c=j then(some (⟨g,0,none⟩:bC)) else some ⟨g,j*1,none⟩)=some A/\(∀t u,(xs.drop (j*1))[t]? =some u->w.drew.cell? (A.add t)=some u):=by
  have cell:∀k u,xs[k]? =some u->w.drew.cell? ⟨g,k,none⟩=some u:=λk u hk=>by
   have:w.cell? ⟨g,k,none⟩=cur[k]? :=aI hg k;have rL:cur.toList[k]? =some u:=by
    rw[<-lZ,Wu] at hk;split at hk
    .exact hk
    .cases hk
   rw[C3] at rL;exact this.trans rL
  by_cases hc:c=j
  .refine⟨⟨g,0,none⟩,by simp[hc],λt u hu=>?_⟩
   have h0:(xs.drop (j*1)).length=0:=by rw[vK];omega
   rw[zwd.1 h0] at hu;simp at hu
  .refine⟨⟨g,j*1,none⟩,by simp[hc],λt u hu=>?_⟩
   rw[Z0] at hu;rw[K7];exact cell _ u hu
 have Le:=λty=>zvV (P:=aK) w.drew 38 ty 3 i0 X4 eY g i c cur hg A (n-j) (c-j) (xs.drop (j*1)) (by rw[dF];exact vK) Vd (λu hu=>I9 u (zdF hu)) aC (by rw[dF,vK,gS];omega);obtain⟨yP,uZ⟩:=aN ((cur.toList.take (i*i0.size)++xs.drop (j*1)++cur.toList.drop (i*i0.size+(xs.drop (j*1)).length)).toArray);rw[<-uZ] at Le;obtain⟨W1,dC⟩:=aN (w.drew.setRow g yP);rw[<-dC] at Le;have qU:W1.heap[g]? =some (.cells yP 3 (0,0)):=by rw[dC];exact Lr w.drew g cur yP 3 (0,0) hg
 have yQ:yP.size=c*1:=by
  rw[uZ];simp only[Bz,j5,rU,zC,kR,vK,hlen,dF];have:(i+(n-j))*1<=c*1:=Hg _ aC;omega
 have hzs:(qK (.int .i64 0:aF).cells (n-(i+(n-j)))).size=(n-(i+(n-j)))*1:=Z6 _ _;have O6:=λty=>znq (P:=aK) (w:=W1) (dT:=38) (ty:=ty) (c:=c-(i+(n-j))) (n:=n-(i+(n-j))) (o:=(i+(n-j))*1) X4 eY fM qU aC (by rw[hzs,yQ];omega) (λu hu=>by
  obtain⟨k,hk,rfl⟩:=Mz.1 hu;simp only[qK,Vz,zlo,zkd,zkZ];simp[Nat.mod_one];rfl)
 obtain⟨zG,oR⟩:=aN ((yP.toList.take ((i+(n-j))*1)++(qK (.int .i64 0:aF).cells (n-(i+(n-j)))).toList++yP.toList.drop ((i+(n-j))*1+(qK (.int .i64 0:aF).cells (n-(i+(n-j)))).size)).toArray);rw[<-oR] at O6
 try simp only[zub] at Le O6
 have H1:=aD Le;have H2:=aD O6;have HG:=aD (show w.grownBy (W1.setRow g zG) (some g) from Ts (Ts zwW (dC▸zcy yP)) (zcy zG));have HO:=aD (show(W1.setRow g zG).ownsRow lo 3 1 (.slice (some ⟨g,0,none⟩) (n-(j-i)) c) (n-(j-i)) (xs.take (i*1)++xs.drop (j*1)) by
  have C6:n-(j-i)=i+(n-j):=aC;have yZ:zG.size=c*1:=by
   rw[oR];simp only[Bz,j5,rU,zC,Es,yQ,hzs];have:(i+(n-j))*1+(n-(i+(n-j)))*1=n*1:=by rw[<-Xd];congr 1;omega
   have:n*1<=c*1:=Hg _ Y7;omega
  refine⟨by rw[j5,rU,vK,hlen];have:=Xd i (n-j) 1;have:i*1<=n*1:=Hg _ aC;rw[C6];omega,.inr ⟨g,c,zG,rfl,eL,Lr W1 g yP zG 3 (0,0) qU,aC,qP,yZ,?_⟩⟩;have e1:cur.toList.take (i*1)=xs.take (i*1):=by
   rw[<-lZ,Ps];congr 1;have:i*1<=n*1:=Hg _ aC;omega
  have l1:(xs.take (i*1)).length=i*1:=by
   rw[rU,hlen];have:i*1<=n*1:=Hg _ aC;omega
  rw[oR,show∀l:List aF,l.toArray.toList=l from λ_=>rfl,C6];have l2:(yP.toList.take ((i+(n-j))*1)).length=(i+(n-j))*1:=by
   rw[rU,Es,yQ];have:(i+(n-j))*1<=c*1:=Hg _ aC;omega
  rw[Jx,Fy (by rw[l2];exact bM _),Ps,zj2,uZ,show∀l:List aF,l.toArray.toList=l from λ_=>rfl,dF,e1];rw[Fy ztS];exact El ztS)
 replace HO:=aD (by have:=HO.o;simpa only[zub] using this);have zI:i<=c:=aC;have Ox:j<=c:=aC;have aS:¬((i:Int)=(j:Int)):=aC;clear Le O6 uZ oR qU yQ hzs dC lZ gS qP hg eL hlen vK kR I9 Vd;by_cases zd5:c=j
 .subst zd5
  have pY:n-c=0:=aC;have Ea:=H1.o;have Pt:=H2.o;simp only[pY,Ui] at Ea Pt;replace H1:=aD Ea;replace H2:=aD Pt;clear Ea Pt
  go_enter ztm,ztz
  go_wp2_with fail
  go_region_law (refine zgN rfl (.tmp 22) (.tmp 25) 38 38 rfl _ _ _ zek zeP H1.o ?_)
  go_wp2_with (refine zdv rfl (.tmp 31) 38 rfl _ rfl H2.o ?_)
  all_goals
   go_ret;exact⟨by rw[show n-(c-i)=i by omega];rfl,HO.o,HG.o⟩
 .skip
  go_enter ztm,ztz
  go_wp2_with fail
  go_region_law (refine zgN rfl (.tmp 22) (.tmp 25) 38 38 rfl _ _ _ zek zeP H1.o ?_)
  go_wp2_with (refine zdv rfl (.tmp 31) 38 rfl _ rfl H2.o ?_)
  all_goals
   go_ret;exact⟨by rw[show n-(j-i)=i+(n-j) by omega];rfl,HO.o,HG.o⟩
theorem zAK (h:w.ownsRow lo 149 2 (.slice (some ⟨g,0,none⟩) n c) n xs)(I9:∀u∈xs,u.oneCell'=true)(aT:i<j)(hj:j<=n):
 gT aK 119 #[.slice (some ⟨g,0,none⟩) n c,.int .i64 (i:Int),.int .i64 (j:Int)] w λe w'=>e=.returned (.slice (some ⟨g,0,none⟩) (n-(j-i)) c)/\w'.ownsRow lo 149 2 (.slice (some ⟨g,0,none⟩) (n-(j-i)) c) (n-(j-i)) (xs.take (i*2)++xs.drop (j*2))/\w.grownBy w' (some g):=by
 obtain⟨hlen,h|⟨g',cap,cur,hv,eL,hg,Y7,qP,gS,lZ⟩⟩:=h
 .exact absurd h.1 aQ
 injection hv with e1 e2 e3;injection e1 with e1;injection e1 with e1;subst e1 e3;clear e2;obtain⟨i0,eY,fM,dF,hY⟩:=C8 zbF;have kR:cur.toList.length=c*2:=by simpa using gS
 have vK:(xs.drop (j*2)).length=(n-j)*2:=by rw[zC,hlen];omega
 obtain⟨A,hA,Vd⟩:∃A:bC,(if c=j then(some (⟨g,0,none⟩:bC)) else some ⟨g,j*2,none⟩)=some A/\(∀t u,(xs.drop (j*2))[t]? =some u->w.drew.cell? (A.add t)=some u):=by
  have cell:∀k u,xs[k]? =some u->w.drew.cell? ⟨g,k,none⟩=some u:=λk u hk=>by
   have:w.cell? ⟨g,k,none⟩=cur[k]? :=aI hg k;have rL:cur.toList[k]? =some u:=by
    rw[<-lZ,Wu] at hk;split at hk
    .exact hk
    .cases hk
   rw[C3] at rL;exact this.trans rL
  by_cases hc:c=j
  .refine⟨⟨g,0,none⟩,by simp[hc],λt u hu=>?_⟩
   have h0:(xs.drop (j*2)).length=0:=by rw[vK];omega
   rw[zwd.1 h0] at hu;simp at hu
  .refine⟨⟨g,j*2,none⟩,by simp[hc],λt u hu=>?_⟩
   rw[Z0] at hu;rw[K7];exact cell _ u hu
 have Le:=λty=>zvV (P:=aK) w.drew 69 ty 149 i0 zmj eY g i c cur hg A (n-j) (c-j) (xs.drop (j*2)) (by rw[dF];exact vK) Vd (λu hu=>I9 u (zdF hu)) aC (by rw[dF,vK,gS];omega);obtain⟨yP,uZ⟩:=aN ((cur.toList.take (i*i0.size)++xs.drop (j*2)++cur.toList.drop (i*i0.size+(xs.drop (j*2)).length)).toArray);rw[<-uZ] at Le;obtain⟨W1,dC⟩:=aN (w.drew.setRow g yP);rw[<-dC] at Le;have qU:W1.heap[g]? =some (.cells yP 149 (0,0)):=by rw[dC];exact Lr w.drew g cur yP 149 (0,0) hg
 have yQ:yP.size=c*2:=by
  rw[uZ];simp only[Bz,j5,rU,zC,kR,vK,hlen,dF];have:(i+(n-j))*2<=c*2:=Hg _ aC;omega
 have hzs:(qK (.agg #[.int .i64 0,.int .i64 0]:aF).cells (n-(i+(n-j)))).size=(n-(i+(n-j)))*2:=Z6 _ _;have O6:=λty=>znq (P:=aK) (w:=W1) (dT:=69) (ty:=ty) (c:=c-(i+(n-j))) (n:=n-(i+(n-j))) (o:=(i+(n-j))*2) zmj eY fM qU aC (by rw[hzs,yQ];omega) (λu hu=>by
  obtain⟨k,hk,rfl⟩:=Mz.1 hu;simp only[qK,Vz,zlo,zkd,zkZ];rcases zv8 k with hk|hk<;>simp[hk]<;>rfl)
 obtain⟨zG,oR⟩:=aN ((yP.toList.take ((i+(n-j))*2)++(qK (.agg #[.int .i64 0,.int .i64 0]:aF).cells (n-(i+(n-j)))).toList++yP.toList.drop ((i+(n-j))*2+(qK (.agg #[.int .i64 0,.int .i64 0]:aF).cells (n-(i+(n-j)))).size)).toArray);rw[<-oR] at O6;have H1:=aD Le;have H2:=aD O6;have HG:=aD (show w.grownBy (W1.setRow g zG) (some g) from Ts (Ts zwW (dC▸zcy yP)) (zcy zG));have HO:=aD (show(W1.setRow g zG).ownsRow lo 149 2 (.slice (some ⟨g,0,none⟩) (n-(j-i)) c) (n-(j-i)) (xs.take (i*2)++xs.drop (j*2)) by
  have C6:n-(j-i)=i+(n-j):=aC;have yZ:zG.size=c*2:=by
   rw[oR];simp only[Bz,j5,rU,zC,Es,yQ,hzs];have:(i+(n-j))*2+(n-(i+(n-j)))*2=n*2:=by rw[<-Xd];congr 1;omega
   have:n*2<=c*2:=Hg _ Y7;omega
  refine⟨by rw[j5,rU,vK,hlen];have:=Xd i (n-j) 2;have:i*2<=n*2:=Hg _ aC;rw[C6];omega,.inr ⟨g,c,zG,rfl,eL,Lr W1 g yP zG 149 (0,0) qU,aC,qP,yZ,?_⟩⟩;have e1:cur.toList.take (i*2)=xs.take (i*2):=by
   rw[<-lZ,Ps];congr 1;have:i*2<=n*2:=Hg _ aC;omega
  have l1:(xs.take (i*2)).length=i*2:=by
   rw[rU,hlen];have:i*2<=n*2:=Hg _ aC;omega
  rw[oR,show∀l:List aF,l.toArray.toList=l from λ_=>rfl,C6];have l2:(yP.toList.take ((i+(n-j))*2)).length=(i+(n-j))*2:=by
   rw[rU,Es,yQ];have:(i+(n-j))*2<=c*2:=Hg _ aC;omega
  rw[Jx,Fy (by rw[l2];exact bM _),Ps,zj2,uZ,show∀l:List aF,l.toArray.toList=l from λ_=>rfl,dF,e1];rw[Fy zyl];exact El zyl)
 have zI:i<=c:=aC;have Ox:j<=c:=aC;have aS:¬((i:Int)=(j:Int)):=aC;clear Le O6 uZ oR qU yQ hzs dC lZ gS qP hg eL hlen vK kR I9 Vd;by_cases zd5:c=j
 .subst zd5
  have pY:n-c=0:=aC;have Ea:=H1.o;have Pt:=H2.o;simp only[pY,Ui] at Ea Pt;replace H1:=aD Ea;replace H2:=aD Pt;clear Ea Pt
  go_enter zqj,zoK
  go_wp2_with fail
  go_region_law (refine zgN rfl (.tmp 22) (.tmp 25) 69 69 rfl _ _ _ zek zeP H1.o ?_)
  go_wp2_with (refine zdv rfl (.tmp 31) 69 rfl _ rfl H2.o ?_)
  all_goals
   go_ret;exact⟨by rw[show n-(c-i)=i by omega];rfl,HO.o,HG.o⟩
 .skip
  go_enter zqj,zoK
  go_wp2_with fail
  go_region_law (refine zgN rfl (.tmp 22) (.tmp 25) 69 69 rfl _ _ _ zek zeP H1.o ?_)
  go_wp2_with (refine zdv rfl (.tmp 31) 69 rfl _ rfl H2.o ?_)
  all_goals
   go_ret;exact⟨by rw[show n-(j-i)=i+(n-j) by omega];rfl,HO.o,HG.o⟩
theorem zrN (lo hi n c:Nat)(A:Option bC)(xs:List Int)(q:Int)(w:aE)(h:cJ w lo hi 1 A n c (fN xs))(hn:n<=1048576):
 gT aK 113 #[.slice A n c,.int .i64 q] w λe w'=>e=.returned (.int .i64 (Ht (xs.findIdx? (·==q))))/\w'=w:=by
 have hl:=aD h.length
 go_enter Tryz.func113,Tryz.ntmps113
 go_wp2
 go_loop [8] (λi=>∃k:Nat,k<=n/\i=.int .i64 k/\∀j,j<k->∀b,xs[j]? =some b->(b==q)=false) (λi=>n-(intOf i).toNat)
 case atStart=>grind
 case round=>
  obtain⟨k,hk,rfl,gS⟩:=hrel;have HC:=aD gS;clear gS;by_cases aT:k<n
  .obtain⟨b,off,x,hA,_,_,_,eR,hv⟩:=h.cellAt aT
   subst hA;have HX:=aD eR;clear eR h;have i0:(0:Int)<=(k:Int):=aC;have i1:(k:Int)<(n:Int):=aC;by_cases hq:q=x
   .subst hq
    go_wp2;go_ret;exact⟨Hx (by rw[zcL HX.o aQ HC.o];rfl),rfl⟩
   .have Kr:(q==x)=false:=by simpa using hq
    go_wp2
    go_round
    case rel=>exact⟨k+1,aC,nE,Sj HC.o HX.o tV⟩
    case measure=>simp[intOf];omega
  .have e:k=n:=aC
   subst e;clear h;go_wp2;go_ret;exact⟨Hx (by rw[zla HC.o zfi];rfl),rfl⟩
theorem posI_ge (o:Option Nat):decide (0<=Ht o)=o.isSome:=by
 cases o with
 |none=>rfl
 |some i=>simp[Ht]
theorem zG2 (lo hi n c:Nat)(A:Option bC)(xs:List Int)(q:Int)(w:aE)(h:cJ w lo hi 1 A n c (fN xs))(hn:n<=1048576):
 gT aK 108 #[.slice A n c,.int .i64 q] w λe w'=>e=.returned (.bool (xs.findIdx? (·==q)).isSome)/\w'=w:=by
 have HS:=aD h;clear h
 go_enter Tryz.func108,Tryz.ntmps108
 go_wp2_with (go_at_call 113;refine(zrN lo hi n c A xs q w HS.o hn).mono ?_;rintro e w' ⟨rfl,hw⟩;obtain rfl:=hw)
 go_ret;exact⟨Lt (posI_ge _),rfl⟩
theorem zee (x:bH)(gx:Nat)(c:Int)(w:aE)(h:w.heap[gx]? =some (.cells #[.int .i64 c] 3)):
 gT aK 118 #[.agg #[.int .i64 x.c,.int .i64 x.p],.pointer (some ⟨gx,0,none⟩)] w λe w'=>e=.returned (.bool (x.c==c))/\cH w.heap.size w w':=by
 have aT:=gM h;have k:=aD (dH h (.cells #[.int .i64 x.c,.int .i64 x.p] 149));have k0:=aI k.o 0
 go_enter Tryz.func118,Tryz.ntmps118
 go_wp2;go_ret;exact⟨rfl,(gD _ _).alloc (bM _) _⟩
variable {xs:List bH}
theorem zhK {hi:Nat}{A:Option bC}(h:cJ w lo hi 2 A n c (bK xs)){k:Nat}(hk:k<n):∃b off x,A=some ⟨b,off,none⟩/\b<w.heap.size/\xs[k]? =some x/\w.cell? ⟨b,off+k*2,none⟩=some (.int .i64 x.c)/\w.cell? ⟨b,off+k*2+1,none⟩=some (.int .i64 x.p):=by
 obtain⟨b,off,x,e,_,_,h3,h4,h5,h6⟩:=h.callsAt hk;exact⟨b,off,x,e,h3,h4,h5,h6⟩
theorem zx3 (lo hi n c:Nat)(A:Option bC)(xs:List bH)(gx:Nat)(q:Int)(w:aE)(h:cJ w lo hi 2 A n c (bK xs))(hn:n<=1048576)(hg:w.heap[gx]? =some (.cells #[.int .i64 q] 3)):
 gT aK 124 #[.slice A n c,.func (.func 118) #[] #[.pointer (some ⟨gx,0,none⟩)]] w λe w'=>e=.returned (.int .i64 (Ht (uL xs q)))/\cH w.heap.size w w':=by
 have hl:=aD h.callsLen;have HS:=aD h;have HG:=aD hg
 go_enter Tryz.func124,Tryz.ntmps124
 go_wp2
 go_loopw [8] (λi wr=>∃k:Nat,k<=n/\i=.int .i64 k/\cH w.heap.size w wr/\∀j,j<k->∀b,xs[j]? =some b->(b.c==q)=false) (λi _=>n-(intOf i).toNat)
 case atStart=>exact⟨0,lU _,rfl,gD _ _,λj hj=>absurd hj aC⟩
 case round=>
  obtain⟨k,hk,rfl,hb,gS⟩:=hrel;have HC:=aD gS;have HB:=aD hb;by_cases aT:k<n
  .obtain⟨b,off,x,hA,kK,eR,gZ,pS⟩:=zhK (HS.o.below HB.o) aT
   have uU:=aD ((HB.o.block gx (gM HG.o)).trans HG.o);have HX:=aD eR;have HA:=aD hA;subst hA;have i0:(0:Int)<=(k:Int):=aC;have i1:(k:Int)<(n:Int):=aC;cases hq:(x.c==q)
   .go_wp2_with (go_at_call 118;refine(zee x gx q _ uU.o).mono ?_;rintro e w2 ⟨rfl,sD⟩;rw[hq];have iV:=aD sD)
    go_round
    case rel=>exact⟨k+1,aC,nE,zql HB.o iV.o,Sj HC.o HX.o hq⟩
    case measure=>simp[intOf];omega
   .go_wp2_with (go_at_call 118;refine(zee x gx q _ uU.o).mono ?_;rintro e w2 ⟨rfl,sD⟩;rw[hq];have iV:=aD sD)
    go_ret;exact⟨Hx (by unfold uL;rw[zcL HX.o hq HC.o];rfl),zql HB.o iV.o⟩
  .have e:k=n:=aC
   subst e;go_wp2;go_ret;exact⟨Hx zwR,HB.o⟩
variable {x:bH}
theorem zBo (hi:i<xs.length):((bK xs).set (i*2) (.int .i64 x.c)).set (i*2+1) (.int .i64 x.p)=bK (xs.set i x):=by
 apply List.ext_getElem?;intro q;obtain⟨a,b,rfl,hb⟩:∃a b,q=a*2+b/\b<2:=⟨q/2,q%2,aC,aC⟩;have g:∀(l:List bH),(bK l)[a*2+b]? =(l[a]?).bind λx=>x.cells[b]? :=λl=>Ov bH.cells (s:=2) (λ_=>rfl) l a b hb;have hlen:(bK xs).length=xs.length*2:=J4 bH.cells (s:=2) (λ_=>rfl) xs;rw[za8,za8,zml,g,g,za8];by_cases e:i=a
 .subst e
  have bY:b=0\/b=1:=aC;rcases bY with rfl|rfl
  .rw[if_neg aC,if_pos aC,if_pos aC,if_pos rfl,if_pos hi];rfl
  .rw[if_pos rfl,if_pos aC,if_pos rfl,if_pos hi];rfl
 .rw[if_neg aC,if_neg aC,if_neg e]
variable {ys:List bH}{a:Nat}
theorem arr_set {rest:List aF}(ha:a<ys.length):((bK ys++rest).toArray.setIfInBounds (a*2) (.int .i64 x.c)).setIfInBounds (a*2+1) (.int .i64 x.p)=(bK (ys.set a x)++rest).toArray:=by
 have kR:(bK ys).length=ys.length*2:=J4 bH.cells (s:=2) (λ_=>rfl) ys;rw[fS,fS,zsQ _ _ aC,zsQ _ _ (by rw[zml];omega),zBo ha]
theorem zI2 {q:bH->Bool}{b:Nat}(hlen:ys.length=xs.length)(qY:a<=b)(h1:ys.take a=(xs.take b).filter q)(h2:ys.drop b=xs.drop b)(hx:xs[b]? =some x):
 (q x=false->ys.take a=(xs.take (b+1)).filter q/\ys.drop (b+1)=xs.drop (b+1))/\
 (q x=true->(ys.set a x).take (a+1)=(xs.take (b+1)).filter q/\(ys.set a x).drop (b+1)=xs.drop (b+1)):=by
 have hb:=(lX.1 hx).1;have ht:xs.take (b+1)=xs.take b++[x]:=by rw[De,hx];rfl
 have hd:ys.drop (b+1)=xs.drop (b+1):=by
  rw[<-ztX,<-ztX,h2]
 refine⟨λhq=>⟨by rw[ht,Qt,<-h1];simp[hq],hd⟩,λhq=>⟨?_,?_⟩⟩
 .rw[ht,Qt,<-h1,De]
  have e1:(ys.set a x).take a=ys.take a:=by rw[List.take_set_of_le (bM _)]
  rw[e1,List.getElem?_set_self aC];simp[hq]
 .rw[List.drop_set,if_pos aC];exact hd
theorem zI7 (h:w.ownsRow lo 149 2 (.slice (some ⟨g,0,none⟩) n c) n (bK xs))(hn:n<=1048576){gx:Nat}{q:Int}(uU:w.heap[gx]? =some (.cells #[.int .i64 q] 3)):
 gT aK 117 #[.slice (some ⟨g,0,none⟩) n c,.func (.func 118) #[] #[.pointer (some ⟨gx,0,none⟩)]] w λe w'=>∃m,e=.returned (.slice (some ⟨g,0,none⟩) m c)/\m=(dK xs q).length/\w'.ownsRow lo 149 2 (.slice (some ⟨g,0,none⟩) m c) m (bK (dK xs q))/\w.grownBy w' (some g):=by
 have aS:gx≠g:=λe=>by
  subst e;obtain⟨_,h|⟨g',cap,cur,hv,eL,hg,_⟩⟩:=h
  .exact absurd h.1 aQ
  .injection hv with e1
   injection e1 with e1;injection e1 with e1;subst e1;rw[uU] at hg;injection hg with hg;injection hg with _ hg;exact absurd hg aH
 have hs:=Av h aH;have zmQ:=hs.callsLen;have HI:=aD (zx3 lo w.heap.size n c (some ⟨g,0,none⟩) xs gx q w hs hn uU);obtain⟨hlen,h|⟨g',cap,cur,hv,eL,hg,Y7,qP,gS,lZ⟩⟩:=h
 .exact absurd h.1 aQ
 injection hv with e1 e2 e3;injection e1 with e1;injection e1 with e1;subst e1 e3;clear e2;obtain⟨rest,Tn⟩:=aN (cur.toList.drop (n*2));have Ur:cur=(bK xs++rest).toArray:=by rw[Tn,<-lZ,zx8]
 have Jg:rest.length=c*2-n*2:=by rw[Tn,zC];simp[gS]
 have Yc:=aD uU;have HG:=aD (show w.heap[g]? =some (.cells (bK xs++rest).toArray 149 (0,0)) by rw[hg,Ur])
 cases hf:uL xs q with
 |none=>
  have hw:dK xs q=xs:=by
   unfold dK;rw[zez];intro x hx;have:=zxu (by rw[hf];rfl) x hx;simpa using this
  have HO:=aD (show w.ownsRow lo 149 2 (.slice (some ⟨g,0,none⟩) n c) n (bK xs) from⟨hlen,.inr ⟨g,c,cur,rfl,eL,hg,Y7,qP,gS,lZ⟩⟩);rw[hw];rw[hf] at HI;clear Ur Tn lZ hg gS hlen uU hs
  go_enter zxO,zo6
  go_wp2_with (go_at_call 124;refine HI.o.mono ?_;rintro e w1 ⟨rfl,Kd⟩;simp only[Ht];have jN:=aD Kd;clear Kd)
  go_ret;exact⟨n,rfl,by first|rfl|exact zmQ.symm,zrG HO.o jN.o,⟨jN.o.os,jN.o.tape,jN.o.output,jN.o.size,λb hb _=>jN.o.block b hb⟩⟩
 |some p=>
  obtain⟨xp,Of,zH,zq1⟩:∃x,xs[p]? =some x/\x.c=q/\∀j,j<p->∀y,xs[j]? =some y->y.c≠q:=by
   unfold uL at hf;obtain⟨h1,h2,h3⟩:=List.findIdx?_eq_some_iff_getElem.1 hf;refine⟨xs[p],oQ h1,by simpa using h2,λj hj y hy=>?_⟩;have:=h3 j hj;obtain⟨k1,k2⟩:=lX.1 hy;rw[k2] at this;simpa using this
  have oF:=(lX.1 Of).1;have zya:xs.take p=(xs.take (p+1)).filter (λx=>x.c !=q):=by
   have ht:xs.take (p+1)=xs.take p++[xp]:=by rw[De,Of];rfl
   have h1:(xs.take p).filter (λx=>x.c !=q)=xs.take p:=by
    rw[zez];intro y hy;obtain⟨j,hj⟩:=yY.1 hy;rw[Wu] at hj;split at hj
    .next aT=>simpa using zq1 j aT y hj
    .cases hj
   rw[ht,Qt,h1];simp[zH]
  rw[hf] at HI;have Ib:=aD zya;have Yk:p<n:=aC;obtain⟨i0,eY,fM,dF,hY⟩:=C8 zbF;have zDR:=aD eY;clear Ur Tn lZ hg gS hlen uU hs zya Of zH zq1 eY
  go_enter zxO,zo6
  go_wp2_with (go_at_call 124;refine HI.o.mono ?_;rintro e w1 ⟨rfl,Kd⟩;simp only[Ht];have jN:=aD Kd;clear Kd)
  go_loopw [5,6] (λi j wr=>∃(a b:Nat) (ys:List bH),i=.int .i64 (a:Int)/\j=.int .i64 (b:Int)/\a<b/\b<=n/\ys.length=n/\ys.take a=(xs.take b).filter (λx=>x.c !=q)/\ys.drop b=xs.drop b/\wr.heap[g]? =some (.cells (bK ys++rest).toArray 149 (0,0))/\w.grownBy wr (some g)) (λ_ j _=>n-(intOf j).toNat)
  case atStart=>
   refine⟨p,p+1,xs,rfl,nE,aC,aC,zmQ,Ib.o,rfl,(jN.o.block g (gM HG.o)).trans HG.o,⟨jN.o.os,jN.o.tape,jN.o.output,jN.o.size,λb hb _=>jN.o.block b hb⟩⟩
  case round=>
   obtain⟨a,b,ys,rfl,rfl,qY,zLl,Xv,h1,h2,qU,mV⟩:=hrel;have pB:=aD qU;have Sy:=aD mV;have zjx:=gM qU;clear qU mV;by_cases aT:b<n
   .obtain⟨x,hx⟩:∃x,xs[b]? =some x:=⟨xs[b]' aC,oQ aC⟩
    have zHf:ys[b]? =some x:=by
     have:=congrArg (λl=>l[0]?) h2;simpa[Z0,hx] using this
    obtain⟨d1,d2⟩:=zI2 (q:=λx=>x.c !=q) aC aC h1 h2 hx;have zif:∀(k:Nat) (y:bH),ys[k]? =some y->wr.cell? ⟨g,k*2,none⟩=some (.int .i64 y.c)/\wr.cell? ⟨g,k*2+1,none⟩=some (.int .i64 y.p):=λk y hy=>by
     have hk:=(lX.1 hy).1;have kR:(bK ys).length=ys.length*2:=J4 bH.cells (s:=2) (λ_=>rfl) ys;have gg:∀b',b'<2->wr.cell? ⟨g,k*2+b',none⟩=y.cells[b']? :=λb' bY=>by
      rw[aI pB.o];rw[List.getElem?_toArray,List.getElem?_append_left aC];have:=Ov bH.cells (s:=2) (λ_=>rfl) ys k b' bY;unfold bK;rw[this,hy];rfl
     exact⟨gg 0 aH,gg 1 aH⟩
    obtain⟨c0,c1⟩:=zif b x zHf;have i0:(0:Int)<=(b:Int):=aC;have i1:(b:Int)<(n:Int):=aC;have D1:=aD d1;have D2:=aD d2;have GC:=aD zif;clear d1 d2 zif;have zvz:=aD ((Sy.o.block gx (gM Yc.o) zhg).trans Yc.o);obtain⟨ya,zA1⟩:∃y,ys[a]? =some y:=⟨ys[a]' aC,oQ aC⟩;have zxU:=aD zA1;have a0:(0:Int)<=(a:Int):=aC;have a1:(a:Int)<(n:Int):=aC;have zdV:g≠wr.heap.size:=aC;cases hq:(x.c==q)
    .go_wp2_with (go_at_call 118;refine(zee x gx q _ (dH zvz.o _)).mono ?_;rintro e w2 ⟨rfl,sD⟩;rw[hq];have KG:=aD (mU sD (dH pB.o _)).1;have kz:=(mU sD (gV _ _)).1;have z0:=aI kz 0;have z1:=aI kz 1;have e0:=(Bs (a:=⟨g,a*2,none⟩) (KG.o.trans pB.o.symm)).trans (GC.o a ya zxU.o).1;have e1:=(Bs (a:=⟨g,a*2+1,none⟩) (KG.o.trans pB.o.symm)).trans (GC.o a ya zxU.o).2;have ff:=fC KG.o;have iV:=aD sD;clear sD kz)
     go_round
     case rel=>
      obtain⟨f1,f2⟩:=D2.o (by simpa using hq);refine⟨a+1,b+1,ys.set a x,nE,nE,aC,aC,by rw[zml];exact Xv,f1,f2,?_,?_⟩
      .rw[oK (oK KG.o _),arr_set aC]
      .have hB:=iV.o
       refine Ts Sy.o ⟨hB.os,hB.tape,hB.output,?_,λk hk hn=>?_⟩
       .simp only[xG];have:=hB.size;simp at this;omega
       .have zyx:k≠g:=λe=>hn (by rw[e])
        exact(dX _ _ _ k zyx).trans ((dX _ _ _ k zyx).trans ((hB.block k pD).trans (qA _ _ k hk)))
     case measure=>simp[intOf];omega
    .go_wp2_with (go_at_call 118;refine(zee x gx q _ (dH zvz.o _)).mono ?_;rintro e w2 ⟨rfl,sD⟩;rw[hq];have KG:=aD (mU sD (dH pB.o _)).1;have iV:=aD sD;clear sD)
     go_round
     case rel=>
      obtain⟨f1,f2⟩:=D1.o (by simpa using hq);have hB:=iV.o;exact⟨a,b+1,ys,rfl,nE,aC,aC,Xv,f1,f2,KG.o,Ts Sy.o ⟨hB.os,hB.tape,hB.output,by have:=hB.size;simp at this;omega,λk hk hn=>(hB.block k pD).trans (qA _ _ k hk)⟩⟩
     case measure=>simp[intOf];omega
   .have e:b=n:=aC
    subst e;have zfq:(dK xs q).length=a:=by
     have sZ:xs.take b=xs:=El aC;rw[sZ] at h1;unfold dK;rw[<-h1,rU];omega
    have N6:ys.take a=dK xs q:=by
     have sZ:xs.take b=xs:=El aC;rw[sZ] at h1;exact h1
    have kR:(bK ys).length=ys.length*2:=J4 bH.cells (s:=2) (λ_=>rfl) ys;have hzs:(qK (zn8 #[.int .i64 0,.int .i64 0]).cells (b-a)).size=(b-a)*2:=Z6 _ _;have cO:=λty=>znq (P:=aK) (w:=wr) (dT:=69) (ty:=ty) (c:=c-a) (n:=b-a) (o:=a*2) zmj zDR.o fM pB.o aC (by rw[hzs];simp[kR,Jg];omega) (λu hu=>by
     obtain⟨k,hk,rfl⟩:=Mz.1 hu;simp only[qK,Vz,zlo,zkd,zkZ];rcases zv8 k with hk|hk<;>simp[hk]<;>rfl)
    obtain⟨zG,oR⟩:=aN (((bK ys++rest).toArray.toList.take (a*2)++(qK (zn8 #[.int .i64 0,.int .i64 0]).cells (b-a)).toList++(bK ys++rest).toArray.toList.drop (a*2+(qK (zn8 #[.int .i64 0,.int .i64 0]).cells (b-a)).size)).toArray);rw[<-oR] at cO;have HR:=aD cO;have HO:=aD (show(wr.setRow g zG).ownsRow lo 149 2 (.slice (some ⟨g,0,none⟩) a c) a (bK (dK xs q)) by
     refine⟨by have:=J4 bH.cells (s:=2) (λ_=>rfl) (dK xs q);unfold bK;omega,.inr ⟨g,c,zG,rfl,eL,Lr wr g _ zG 149 (0,0) pB.o,aC,qP,?_,?_⟩⟩
     .rw[oR]
      simp only[Bz,j5,rU,zC,Es,hzs,kR,Jg];omega
     .rw[oR,show∀l:List aF,l.toArray.toList=l from λ_=>rfl,show∀l:List aF,l.toArray.toList=l from λ_=>rfl,Jx,Fy (by rw[rU,j5,kR];omega),Ps,zj2,Fy aC,<-N6]
      have:(bK ys).take (a*2)=bK (ys.take a):=by
       conv=>lhs;rw[<-zx8 a ys]
       unfold bK;rw[List.flatMap_append];have h9:=J4 bH.cells (s:=2) (λ_=>rfl) (ys.take a);rw[rU,Nat.min_eq_left aC] at h9;rw[Fy aC];exact El aC
      exact this)
    have zz4:=aD (Ts Sy.o (zcy zG));have a0:(0:Int)<=(a:Int):=aC;have a1:(a:Int)<(b:Int):=aC;have zJ0:a<c:=aC;have zJs:¬(c=a):=aC;clear cO oR hzs kR N6 pB Sy h1 h2
    go_wp2_with (refine zdv rfl (.tmp 38) 69 rfl _ rfl HR.o ?_)
    go_ret;exact⟨a,rfl,zfq.symm,HO.o,zz4.o⟩
theorem znc (b:b6)(t:List UInt8)(x:bH):(mD (b,t) x).1.o=b.o/\(mD (b,t) x).1.clk=b.clk/\(mD (b,t) x).1.log=b.log/\(mD (b,t) x).1.recs.length=b.recs.length/\(mD (b,t) x).1.wait.length<=b.wait.length/\(mD (b,t) x).1.back.length<=b.back.length+1/\
 ∀z∈(mD (b,t) x).1.recs,∃y∈b.recs,z.o=y.o/\z.l=y.l:=by
 have same:∀z∈b.recs,∃y∈b.recs,z.o=y.o/\z.l=y.l:=λz hz=>⟨z,hz,rfl,rfl⟩;unfold mD;split
 .simp_all
 .split
  .refine⟨rfl,rfl,rfl,?_,V3 _ _,?_,λz hz=>?_⟩
   .show(List.modify _ _ _).length=_
    rw[Nv]
   .simp_all
   .obtain⟨y,hy,rfl|rfl⟩:=Uf hz
    .exact⟨_,hy,rfl,rfl⟩
    simp_all
  simp_all
theorem zJ.tire {t:List UInt8}(h:zJ d)(hx:1<=x.c/\x.c<=99)(hb:d.r.back.length<5000):zJ {d with r:=(mD (d.r,t) x).1}:=by
 have S:=h.S.tire (t:=t) (x:=x);have R:=h.R.tire (t:=t) hx;obtain⟨e1,e2,e3,e4,e5,e6,e7⟩:=znc d.r t x;generalize(mD (d.r,t) x).1=b at*;refine⟨S,R,⟨λz hz=>?_,?_⟩,h.ndl,?_,λz hz=>?_,?_,⟨R.off,?_,?_,?_,?_,?_⟩⟩
 .obtain⟨y,hy,e,_⟩:=e7 z hz
  rw[e,e1];exact h.ops.op y hy
 .show 1<=b.o.op
  rw[e1];exact h.ops.n1
 .show(d.ln.length:Int)=b.o.ln
  rw[e1];exact h.nln
 .obtain⟨y,hy,_,e⟩:=e7 z hz
  show 1<=z.l/\z.l<=b.o.ln;rw[e,e1];exact h.lb y hy
 .show(d.qn.length:Int)=b.o.op
  rw[e1];exact h.nqn
 .show b.recs.length<=1000
  rw[e4];exact h.sm.nr
 .exact eE e5 h.sm.nw
 .grind
 .show b.log.length<=1000
  rw[e3];exact h.sm.nl
 .show 0<=b.clk/\b.clk<=100000
  rw[e2];exact h.sm.clk
def tU (r:b6)(m:Int):Nat->List bH
 |0=>[]
 |k+1=>match r.wait[k]? with
  |none=>tU r m k
  |some x=>match gU (dD r m k).1.recs x.c with
   |none=>tU r m k++[x]
   |some i=>if(dD r m k).1.o.pt<=(dD r m k).1.clk-Yw (dD r m k).1.recs i then tU r m k else tU r m k++[x]
theorem zgf {st rest:List bH}(h:((st++x::rest).map bH.c).Nodup):dK (st++x::rest) x.c=st++rest:=by
 rw[Ud,jO,znA] at h;obtain⟨h1,h2,h3⟩:=h;rw[Dv] at h2;have a1:∀y∈st,(y.c !=x.c)=true:=λy hy=>by simp_all
 have a2:∀y∈rest,(y.c !=x.c)=true:=λy hy=>by simp_all
 unfold dK;rw[Qt,List.filter_cons,zez.2 a1,zez.2 a2];simp
structure TK (d:nZ)(m:Int)(k:Nat):Prop where
 i:zJ {d with r:=(dD d.r m k).1}
 w:(dD d.r m k).1.wait=tU d.r m k++d.r.wait.drop k
 nb:(dD d.r m k).1.back.length<=d.r.back.length+k
 log:(dD d.r m k).1.log=d.r.log
 o:(dD d.r m k).1.o=d.r.o
 clk:(dD d.r m k).1.clk=d.r.clk+m
 le:(tU d.r m k).length<=k
 txt:(dD d.r m k).2.length<=30+30*k
section
variable {d:nZ}{m:Int}
theorem TK.zero (h:zJ d)(hm:0<=m)(hc:d.r.clk+m<=100000):TK d m 0:=by
 have h0:=h.sm.clk;have hn:=Qr (c:=d.r.clk+m) aC aC;refine⟨⟨⟨h.S.opn,h.S.last,h.S.wt,h.S.bk,h.S.bo⟩,⟨h.R.off,?_,h.R.nodup,h.R.hasrec,λz hz=>?_,h.R.waitB,h.R.backB⟩,⟨h.ops.op,h.ops.n1⟩,h.ndl,h.nln,h.lb,h.nqn,⟨h.R.off,h.sm.nr,h.sm.nw,h.sm.nb,h.sm.nl,?_⟩⟩,rfl,bM _,rfl,rfl,rfl,bM _,?_⟩
 .show 0<=d.r.clk+m;omega
 .have:=h.R.recB z hz
  show _/\_/\_/\_/\_/\_/\_/\z.f<=d.r.clk+m;omega
 .show 0<=d.r.clk+m/\d.r.clk+m<=100000;omega
 .show([97,116,32]++gA (d.r.clk+m)).length<=_
  grind
structure Next (d:nZ)(m:Int)(k:Nat)(x:bH)(i:Nat)(y:bO):Prop where
 at_:gU (dD d.r m k).1.recs x.c=some i
 hy:(dD d.r m k).1.recs[i]? =some y
 c:y.c=x.c
 op:cU y=true
 b:1<=x.c/\x.c<=99
 f:0<=y.f/\y.f<=d.r.clk+m
 tired:d.r.o.pt<=d.r.clk+m-y.f->dD d.r m (k+1)=({lP (dD d.r m k).1 i uK with back:=(dD d.r m k).1.back++[x]},(dD d.r m k).2++[32]++gA x.c)/\tU d.r m (k+1)=tU d.r m k
 not_:¬d.r.o.pt<=d.r.clk+m-y.f->dD d.r m (k+1)=dD d.r m k/\tU d.r m (k+1)=tU d.r m k++[x]
variable {k:Nat}{x:bH}
theorem TK.next (h:TK d m k)(hx:d.r.wait[k]? =some x):∃i y,Next d m k x i y:=by
 have znw:d.r.wait.drop k=x::d.r.wait.drop (k+1):=by
  obtain⟨hl,he⟩:=lX.1 hx;rw[zgs hl,he]
 have oT:x∈(dD d.r m k).1.wait:=by rw[h.w,znw];simp
 obtain⟨i,hi⟩:=Option.isSome_iff_exists.1 (h.i.R.hasrec x oT);have hi:gU (dD d.r m k).1.recs x.c=some i:=hi;obtain⟨y,hy,zkq,Fe⟩:=zZ hi;have e1:=zf4 (m:=m) hx;rw[Tc hi hy,h.o,h.clk] at e1;have e2:tU d.r m (k+1)=if d.r.o.pt<=d.r.clk+m-y.f then tU d.r m k else tU d.r m k++[x]:=by
  conv=>lhs;unfold tU
  simp only[hx,hi,h.o,h.clk];rw[show Yw (dD d.r m k).1.recs i=y.f by unfold Yw;rw[hy]]
 have hf:=h.i.R.recB y (eI hy);refine⟨i,y,⟨hi,hy,zkq,Fe,h.i.R.waitB x oT,⟨hf.2.2.2.2.2.2.1,by have:=hf.2.2.2.2.2.2.2;rw[<-h.clk];exact this⟩,λhp=>?_,λhp=>?_⟩⟩
 .simp_all
 simp_all
theorem TK.succ (h:TK d m k)(hb:d.r.back.length+d.r.wait.length<=5000)(hx:d.r.wait[k]? =some x):TK d m (k+1):=by
 obtain⟨hl,he⟩:=lX.1 hx;have znw:d.r.wait.drop k=x::d.r.wait.drop (k+1):=by rw[zgs hl,he]
 obtain⟨i,y,n⟩:=h.next hx;have oI:=h.nb;have hT:=zJ.tire (t:=(dD d.r m k).2) h.i n.b tV;have e1:=zf4 (m:=m) hx;have zHd:zJ {d with r:=(dD d.r m (k+1)).1}:=by rw[e1];exact hT
 obtain⟨r1,r2,r3,r4,r5,r6,r7⟩:=znc (dD d.r m k).1 (dD d.r m k).2 x;have wU:dD d.r m (k+1)=mD ((dD d.r m k).1,(dD d.r m k).2) x:=e1;rw[<-wU] at r1 r2 r3 r4 r5 r6;have hw:=h.w;rw[znw] at hw;have lD:((tU d.r m k++x::d.r.wait.drop (k+1)).map bH.c).Nodup:=by rw[<-hw];exact h.i.R.nodup
 have hle:=h.le;have zw7:=h.txt;refine⟨zHd,?_,aC,r3.trans h.log,r1.trans h.o,r2.trans h.clk,?_,?_⟩
 .by_cases hp:d.r.o.pt<=d.r.clk+m-y.f
  .have t4:=(n.tired hp).2
   rw[t4];have e3:=e1;rw[Tc n.at_ n.hy,h.o,h.clk,if_pos hp] at e3;rw[e3];show dK _ (Da _ _)=_;rw[Sx n.hy,n.c,hw,zgf lD]
  .obtain⟨t1,t2⟩:=n.not_ hp
   rw[t1,t2,hw];simp
 .by_cases hp:d.r.o.pt<=d.r.clk+m-y.f
  .rw[(n.tired hp).2];omega
  .rw[(n.not_ hp).2,j5];simp;omega
 .by_cases hp:d.r.o.pt<=d.r.clk+m-y.f
  .have:=n.b
   have hn:=Qr (c:=x.c) aC aC;rw[(n.tired hp).1,j5,j5]
   grind
  .rw[(n.not_ hp).1];omega
def TK.all (h:zJ d)(hm:0<=m)(hc:d.r.clk+m<=100000)(hb:d.r.back.length+d.r.wait.length<=5000):∀k,k<=d.r.wait.length->TK d m k
 |0,_=>TK.zero h hm hc
 |k+1,hk=>(TK.all h hm hc hb k aC).succ hb (oQ aC)
theorem TK.end_ (h:TK d m d.r.wait.length):(tK d.r m).1.wait=tU d.r m d.r.wait.length:=by
 rw[<-zcN,h.w,List.drop_of_length_le (bM _),Og]
end
def qF (w:aE):Prop:=Lib.TabIs aK w "internal/strconv.uint64pow10" .u64 Lib.pow10Tab
def Ci (lo:Nat)(w:aE):Prop:=∀w':aE,(∀b,b<lo->w'.heap[b]? =w.heap[b]?)->qF w'
def Ci.at_ (h:Ci lo w):qF w:=h w λ_ _=>rfl
def Ci.keep (h:Ci lo w)(k:∀b,b<lo->w'.heap[b]? =w.heap[b]?):Ci lo w':=λw2 k2=>h w2 λb hb=>(k2 b hb).trans (k b hb)
variable {v':fK}
theorem Ci.turn (h:Ci lo w)(a:bF w lo hb v d)(eL:lo<=w.heap.size)(t:bT hb v w v' w'):Ci lo w':=h.keep λb bY=>t.block b aC (λx=>by have:=(a.lt b x).1;omega)
def Ba (v v':fK):Prop:=v'.sL=v.sL/\v'.sQ=v.sQ/\v'.sA=v.sA/\v'.sT=v.sT
def Ba.rf (v:fK):Ba v v:=⟨rfl,rfl,rfl,rfl⟩
def Dd.kept (h:Dd v v'):Ba v v':=⟨h.1,h.2.1,h.2.2.2.2.1,h.2.2.2.2.2⟩
theorem zIk (ht:Ci lo w)(n:Int)(h0: -1000000000<=n)(h1:n<=1000000000):
 gT aK 112 #[.int .i64 n] w λe w'=>e=.returned (.string ⟨(gA n).toArray⟩)/\cH w.heap.size w w':=
 (Tryz.strconv_Itoa n aC aC w ht.at_).mono (by
  rintro e w' ⟨rfl,k,os,rfl⟩;refine⟨rfl,rfl,rfl,rfl,by simp[Go.Sort.grow],λi hi=>?_⟩;show((w.drewN k).heap++os)[i]? =_;rw[Array.getElem?_append_left uB];rfl)
theorem zi1 (n:Int)(h0:0<=n)(h1:n<100)(w:aE):
 gT aK 112 #[.int .i64 n] w λe w'=>e=.returned (.string ⟨(gA n).toArray⟩)/\w'=w:=by
 obtain⟨c,rfl⟩:∃c:Nat,n=(c:Int):=⟨n.toNat,aC⟩;refine(Tryz.strconv_Itoa_small c aC w).mono ?_;rintro e w' ⟨rfl,rfl⟩;exact⟨by unfold gA;rw[Lib.itoa_nonneg],rfl⟩
section
variable {P:cD}{w w':aE}
theorem zwY {ops:Array aZ}{rest:List aZ}{o:aZ}{a:Act}{Q:oP->Act->aE->Prop}(Gf:o.guard=none)(s x:cN)(t tn:aM)(ho:o.op=.call {callee:=.builtin .append,args:=#[s,x],argTypes:=#[t,tn]})(vs vx v':aF)(hs:a.eval s=vs)(hx:a.eval x=vx)
 (hr:(xR #[t,tn] o.type #[vs,vx]).run P w=.ok v' w') (h:wpList P ops Q rest (a.put o.dst v') w'):wpList P ops Q (o::rest) a w:=by
 refine Tm Gf λK hK=>?_;unfold C5 aO;simp only[ho,resolve,invoke,builtin,G3,Kl,Gx,uP,jO,uN,hs,hx,hr];exact hK _ _ h
end
theorem zfN {E s:Nat}{xY:Nat}{v:aF}{xs:List aF}(h:w.ownsRow lo E s v n xs)(hl:xY<=lo):w.ownsRow xY E s v n xs:=by
 obtain⟨h0,h1|⟨g,cap,cur,e1,e2,e3⟩⟩:=h
 .exact⟨h0,.inl h1⟩
 .exact⟨h0,.inr ⟨g,cap,cur,e1,eE hl e2,e3⟩⟩
variable {x:Option Nat}{l:List (Option Nat)}
theorem zI4 (h:zcH l)(hx:∀b,x=some b->some b∉l):zcH (l.set j x):=by
 intro i k b hi hk;rw[za8] at hi hk;split at hi<;>split at hk
 .omega
 .grind
 .grind
 .exact h i k b hi hk
theorem bF.newW (h:bF w lo hb v d){s':aF}(ho:w.ownsRow lo 149 2 s' n (bK xs))(hn:n=xs.length)(hw:∀b,s'.ownBlock=some b->some b∉parts v hb):
 bF (w.setCell ⟨hb,7,none⟩ s') lo hb {v with sW:=s'} {d with r:={d.r with wait:=xs}}:=by
 subst hn;have h0:(parts v hb)[0]? =some (some hb):=rfl;have kk:∀i b,i≠0->(parts v hb)[i]? =some (some b)->(w.setCell ⟨hb,7,none⟩ s').heap[b]? =w.heap[b]? :=λi b hi bY=>dX w _ _ b (h.ne bY h0 hi);have hp:parts {v with sW:=s'} hb=(parts v hb).set 5 s'.ownBlock:=rfl
 refine⟨oK h.blk s',h.lob,cK h.L λb e=>kk 1 _ aH cV,cK h.Q λb e=>kk 4 _ aH cV,cK ho λb e=>dX w _ _ b (λe2=>hw b e tV),
  cK h.B λb e=>kk 6 _ aH cV,cK h.R λb e=>kk 7 _ aH cV,cK h.A λb e=>kk 9 _ aH cV,cK h.T λb e=>kk 10 _ aH cV,
  h.C.keep (kk 2 _ aH rfl),h.O.keep (kk 3 _ aH rfl),h.M.keep (kk 8 _ aH rfl),?_⟩
 rw[hp];exact zI4 h.ap hw
def bF.grown (h:bF w lo hb v d)(hg:w.grownBy w' x)(hx:∀b,x=some b->some b∉parts v hb):bF w' lo hb v d:=
 h.keep λb bY hp=>hg.block b bY λe=>hx b e.symm hp
theorem bT.grown {w0:aE}{v0:fK}(h:bT hb v0 w0 v w)(hg:w.grownBy w' x)(hx:∀b,x=some b->w0.heap.size<=b):bT hb v0 w0 v w':=
 ⟨eE h.size hg.size,λb bY hn=>(hg.block b (jP bY h.size) λe=>by grind).trans (h.block b bY hn),h.moved⟩
end Go.Proofs.YtfcjiloojkjaeaaGreatDoor
namespace Go.Proofs.YtfcjiloojkjaeaaGreatDoor
open Go.Mt Go.Tt
def glL:List Nat:=[33,52,109,110,115,116,105,108,113,124,117,114,119,118,112,123,126,128,129,130,131,132,133,134,135,136,137,138,10,11,12,13,15,16,17,18,19,20,22,23,24,25,27,29,31,32,34,35,36,37,38,39,40,41,43,44,45,46,47,48,49,50,51,60,61,62,63,64,65,66,67,88,89,90,91,92,93,94,95,96,107]
def alL:List Nat:=[3,4,5,7,8,9,10,11,12,13,14,15,16,17,18,19,20,21,22,23,24,25,26,27,28,29,30,31,32,33,34,35,36,37,38,39,40,41,42,43,44,45,46,47,48,49,50,51,52,60,61,62,63,64,65,66,67,88,89,90,91,92,93,94,95,96,107,118]
def flL:List Nat:=[118]
def olL:List Nat:=[42]
abbrev Cw:aP->Bool:=nQ glL
abbrev fX:aP->Bool:=nQ flL
def zpW:Sn aK=true:=aU
def ztk:glL.all (fnFit aK (nQ flL) (nQ glL))=true:=aU
def lvF:Lv aK (nQ olL) (nQ alL) Cw fX:=
 lv_of zpW ztk aU aU aU aU aU
def nM:wK (PS aK Cw) fX:=zrv zpW ztk aU
end Go.Proofs.YtfcjiloojkjaeaaGreatDoor
namespace Go.Mt
open Go.Conc Go.Tt
def frO:Obj->Obj
 | .cells c T fz=>.cells c T (0,max c.size fz.2)
 |o=>o
def uS (X:Nat->Bool)(w:aE):World:={w with heap:=w.heap.mapIdx λi o=>if X i=true then frO o else o}
def thX (X:Nat->Bool)(w0 wn:aE):World:={wn with heap:=wn.heap.mapIdx λi o=>if X i=true then(w0.heap[i]?).getD o else o}
def reX (X:Nat->Bool)(w:aE):World:={w with heap:=w.heap.mapIdx λi o=>if X i=true then frO o else pK}
theorem Uy (X:Nat->Bool)(w:aE):(uS X w).heap.size=w.heap.size:=by simp[uS]
theorem zfo (X:Nat->Bool)(w wn:aE):(thX X w wn).heap.size=wn.heap.size:=by simp[thX]
theorem znd (X:Nat->Bool)(w:aE):(reX X w).heap.size=w.heap.size:=by simp[reX]
section
variable {X:Nat->Bool}{w wn:aE}{a:Nat}
theorem Oi (h:X a=false):(uS X w).heap[a]? =w.heap[a]? :=by
 simp[uS,Nb,h]
variable {c:Array aF}{T:aM}
theorem Ux {fz:Nat×Nat}(h:X a=true)(hc:w.heap[a]? =some (.cells c T fz)):(uS X w).heap[a]? =some (.cells c T (0,max c.size fz.2)):=by
 simp[uS,Nb,h,hc,frO]
theorem zhq {fz:Nat×Nat}(h:X a=true)(hc:w.heap[a]? =some (.cells c T fz)):(reX X w).heap[a]? =some (.cells c T (0,max c.size fz.2)):=by
 simp[reX,Nb,h,hc,frO]
theorem zvi (h:X a=false)(ha:a<w.heap.size):(reX X w).heap[a]? =some pK:=by
 simp[reX,Nb,h,ha]
theorem Xf (h:X a=false):(thX X w wn).heap[a]? =wn.heap[a]? :=by
 simp[thX,Nb,h]
theorem zg1 {o:Obj}(h:X a=true)(ha:a<wn.heap.size)(ho:w.heap[a]? =some o):(thX X w wn).heap[a]? =some o:=by
 simp[thX,Nb,h,ho,ha]
end
inductive xJ (X KD:Nat->Prop):aF->Prop
 |bool (b:Bool):xJ X KD (.bool b)
 |int (k:IntKind) (n:Int):xJ X KD (.int k n)
 |string (s:ByteArray):xJ X KD (.string s)
 |nilFunc:xJ X KD .nilFunc
 |nilIface:xJ X KD .nilIface
 |pointer {a:Option bC}:(∀x,a=some x->X x.block)->xJ X KD (.pointer a)
 |slice {a:Option bC} {n c:Nat}:(∀x,a=some x->X x.block)->xJ X KD (.slice a n c)
 |chan {a:Option Nat}:(∀x,a=some x->KD x)->xJ X KD (.chan a)
 |agg {xs:Array aF}:(∀(i:Nat) (v:aF),xs[i]? =some v->xJ X KD v)->xJ X KD (.agg xs)
 |tuple {xs:Array aF}:(∀(i:Nat) (v:aF),xs[i]? =some v->xJ X KD v)->xJ X KD (.tuple xs)
theorem wP.inX {X KD:Nat->Prop}{v:aF}(h:wP v):xJ X KD v:=by
 induction h with
 |bool b=>exact .bool b
 |int k n=>exact .int k n
 |string s=>exact .string s
 |nilFunc=>exact .nilFunc
 |nilIface=>exact .nilIface
 |agg _ ih=>exact .agg ih
 |tuple _ ih=>exact .tuple ih
section
variable {S:aP->Prop}{K R K' R':Pr}{X KD:Nat->Prop}
theorem zpQ {a a':Option bC}(x:yB R a a')(hR:∀p q,R p q->X p->R' p q)(h:∀y,a=some y->X y.block):yB R' a a':=by
 cases x with
 |none=>exact .none
 |some y=>
  cases y with
  |mk y=>exact .some (.mk (hR _ _ y (h _ rfl)))
theorem xJ.vr {u v:aF}(x:VR S K R u v)(hR:∀a b,R a b->X a->R' a b)(hK:∀a b,R.or K a b->KD a->R'.or K' a b)(hu:xJ X KD u):VR S K' R' u v:=by
 induction x with
 |bool b=>exact .bool b
 |int k n=>exact .int k n
 |string s=>exact .string s
 |nilFunc=>exact .nilFunc
 |nilIface=>exact .nilIface
 |pointer y=>cases hu with|pointer h=>exact .pointer (zpQ y hR h)
 |slice y=>cases hu with|slice h=>exact .slice (zpQ y hR h)
 |map _=>cases hu
 |chan y=>
  cases hu with
  |chan h=>
   refine .chan ?_
   cases y with
   |none=>exact .none
   |some y=>exact .some (hK _ _ y (h _ rfl))
 |func _ _ _ _ _ _ _=>cases hu
 |iface _ _=>cases hu
 |agg e _ ih=>cases hu with|agg h=>exact .agg e λi v v' h1 h2=>ih i v v' h1 h2 (h i v h1)
 |tuple e _ ih=>cases hu with|tuple h=>exact .tuple e λi v v' h1 h2=>ih i v v' h1 h2 (h i v h1)
 |junk h=>exact .junk h
end
section
variable {S:aP->Prop}{K R K' R':Pr}{G:Gp}{St St':Nat->Prop}{w W wn Wn:aE}{X:Nat->Bool}
structure XOk (R:Pr)(X:Nat->Bool)(w:aE):Prop where
 dom:∀a,X a=true->∃b,R a b
 cells:∀a,X a=true->∃c T fz,w.heap[a]? =some (.cells c T fz)
theorem zrD (h:dB S K R G St w W)(hx:XOk R X w):dB S K R G (λa=>St a\/X a=true) (uS X w) W:=by
 have stC:∀a,St a->∃c T hi,w.heap[a]? =some (.cells c T (0,hi))/\c.size<=hi:=λa x=>(h.st a x).2;refine⟨h.inj,h.inj',λa b x=>by rw[Uy];exact h.lt a b x,h.low,by rw[Uy];exact h.gle,λa b x=>?_,λa b x hn=>?_,λa x=>?_,?_,h.tb⟩
 .obtain⟨o,o',h1,h2,h3⟩:=h.cont a b x
  cases e:X a with
  |false=>exact⟨o,o',(Oi e).trans h1,h2,h3⟩
  |true=>
   obtain⟨c,T,fz,hc⟩:=hx.cells a e;rw[hc] at h1;obtain rfl:=cS h1
   cases h3 with
   |cells tW hf=>
    refine⟨_,_,Ux e hc,h2,.cells tW λo ho=>?_⟩;have:=hf o ho;unfold Lp at this⊢;simp only;omega
 .cases e:X a with
  |false=>exact(Oi e).trans (h.rest a b x hn)
  |true=>
   obtain⟨c,hc⟩:=hx.dom a e;exact absurd hc (hn c)
 .cases e:X a with
  |false=>
   have x':St a:=x.resolve_right (by rw[e];simp);obtain⟨h1,c,T,hi,h2,h3⟩:=h.st a x';exact⟨h1,c,T,hi,(Oi e).trans h2,h3⟩
  |true=>
   obtain⟨c,T,fz,hc⟩:=hx.cells a e;exact⟨hx.dom a e,c,T,_,Ux e hc,zxH ..⟩
 .intro a c e hp
  cases ex:X a with
  |false=>
   rw[Oi ex] at hp;exact h.np a c e hp
  |true=>
   obtain⟨c',T,fz,hc⟩:=hx.cells a ex;rw[Ux ex hc] at hp;cases hp
theorem zrw (h:dB S K R G St w W)(hx:XOk R X w)(hle:R.le R')(hK:K.le K')(hn:dB S K' R' G St' wn Wn)(hs:∀a,St a->St' a)(aX:∀a b,X a=true->R a b->Wn.heap[b]? =W.heap[b]?):dB S K' R' G St (thX X w wn) Wn:=by
 have aT:∀a b,R' a b->a<wn.heap.size:=λa b x=>(hn.lt a b (.inl x)).1;refine⟨hn.inj,hn.inj',λa b x=>by rw[zfo];exact hn.lt a b x,hn.low,by rw[zfo];exact hn.gle,λa b x=>?_,λa b x fR=>?_,λa x=>?_,?_,hn.tb⟩
 .cases e:X a with
  |false=>
   obtain⟨o,o',h1,h2,h3⟩:=hn.cont a b x;exact⟨o,o',(Xf e).trans h1,h2,h3⟩
  |true=>
   obtain⟨b0,Ut⟩:=hx.dom a e;obtain rfl:=hn.inj a b b0 (.inl x) (.inl (hle _ _ Ut));obtain⟨o,o',h1,h2,h3⟩:=h.cont a b Ut;exact⟨o,o',zg1 e (aT a b x) h1,(aX a b e Ut).trans h2,o0.monoK hK (h3.mono hle)⟩
 .cases e:X a with
  |false=>exact(Xf e).trans (hn.rest a b x fR)
  |true=>
   obtain⟨c,hc⟩:=hx.dom a e;exact absurd (hle _ _ hc) (fR c)
 .cases e:X a with
  |false=>
   obtain⟨h1,c,T,hi,h2,h3⟩:=hn.st a (hs a x);exact⟨h1,c,T,hi,(Xf e).trans h2,h3⟩
  |true=>
   obtain⟨⟨b,h1⟩,c,T,hi,h2,h3⟩:=h.st a x;exact⟨⟨b,hle _ _ h1⟩,c,T,hi,zg1 e (aT a b (hle _ _ h1)) h2,h3⟩
 .intro a c e hp
  cases ex:X a with
  |false=>
   rw[Xf ex] at hp;exact hn.np a c e hp
  |true=>
   obtain⟨b,hb⟩:=hx.dom a ex;obtain⟨c',T,fz,hc⟩:=hx.cells a ex;rw[zg1 ex (aT a b (hle _ _ hb)) hc] at hp;cases hp
def rX (R:Pr)(X:Nat->Bool):Pr:=λa b=>R a b/\X a=true
def kX (K:Pr)(KD:Nat->Prop):Pr:=λa b=>K a b/\KD a
theorem reX_rel (h:dB S K R G St w W)(hx:XOk R X w)(hT:∀g,G.tab g=true->X g=true){KD:Nat->Prop}(kR:∀a c T fz,X a=true->w.heap[a]? =some (.cells c T fz)->∀v∈c,xJ (λa=>X a=true) KD v)(zIv:∀a b,R a b->KD a->X a=true):
 dB S (kX K KD) (rX R X) G (λa=>X a=true) (reX X w) W:=by
 have up:∀a b,(rX R X).or (kX K KD) a b->R.or K a b:=λa b x=>x.elim (λy=>.inl y.1) λy=>.inr y.1;refine⟨λa b c x y=>h.inj a b c (up _ _ x) (up _ _ y),λa b c x y=>h.inj' a b c (up _ _ x) (up _ _ y),λa b x=>by rw[znd];exact h.lt a b (up _ _ x),λa b x=>h.low a b x.1,by rw[znd];exact h.gle,λa b x=>?_,λa b x fR=>?_,λa x=>?_,?_,λg hg=>⟨h.tb g hg,hT g hg⟩⟩
 .obtain⟨o,o',h1,h2,h3⟩:=h.cont a b x.1
  obtain⟨c,T,fz,hc⟩:=hx.cells a x.2;rw[hc] at h1;obtain rfl:=cS h1
  cases h3 with
  |cells tW hf=>
   refine⟨_,_,zhq x.2 hc,h2,.cells ⟨tW.1,λi v v' h1 h2=>?_⟩ λo ho=>?_⟩
   .refine xJ.vr (tW.2 i v v' h1 h2) (λp q y z=>⟨y,z⟩) (λp q y z=>?_) (kR a c T fz x.2 hc v (Array.mem_of_getElem? h1))
    rcases y with y|y
    .exact .inl ⟨y,zIv p q y z⟩
    .exact .inr ⟨y,z⟩
   .have:=hf o ho
    unfold Lp at this⊢;simp only;omega
 .cases e:X a with
  |false=>exact zvi e (h.lt a b (.inr x.1)).1
  |true=>
   obtain⟨c,hc⟩:=hx.dom a e;exact absurd ⟨hc,e⟩ (fR c)
 .obtain⟨c,T,fz,hc⟩:=hx.cells a x
  obtain⟨b,hb⟩:=hx.dom a x;exact⟨⟨b,hb,x⟩,c,T,_,zhq x hc,zxH ..⟩
 .intro a c e hp
  cases ex:X a with
  |false=>
   by_cases ha:a<w.heap.size
   .rw[zvi ex ha] at hp
    unfold pK at hp;cases hp
   .have:=(eM.1 hp).1
    rw[znd] at this;omega
  |true=>
   obtain⟨c',T,fz,hc⟩:=hx.cells a ex;rw[zhq ex hc] at hp;cases hp
end
end Go.Mt
namespace Go.Mt
open Go.Conc Go.Tt
open Go.ConcR (KK wgBlock WgAt stA smA rd wr DC0)
section
variable {p:cD}{Post:aF->aE->Prop}{Shun:Loc->Prop}
def BJ (p:cD)(Post:aF->aE->Prop)(Shun:Loc->Prop)(τ:cI)(g:bE)(W:aE):Prop:=
 (∀b,τ.own b\/τ.still b->b<W.heap.size/\∀l,nO l b->¬Shun l)->(∀l b,nO l b->W.heap.size<=b->¬Shun l)->J p Post Shun W.heap.size g W
theorem zHI {O Z:Nat->Prop}{B:Nat}{e:Event}(h:EvQ O Z e)(hO:∀b,O b\/Z b->b<B/\∀l,nO l b->¬Shun l):EvL Shun B e:=by
 rcases h with rfl|⟨b,h1,h2⟩
 .exact⟨λx hx=>by simp[jU,sY] at hx,aQ,aQ,trivial⟩
 .obtain⟨hb,hs⟩:=hO b (h2.imp id And.left)
  obtain⟨loc,wr,sy⟩:=e
  cases loc with
  |cell x=>
   simp only[Ik,jQ] at h1;refine⟨λy hy nF=>?_,aQ,aQ,?_⟩
   .simp only[jU,sY,jQ] at hy
    subst hy;exact absurd nF (hs _ h1)
   .show x.block<B
    rw[h1];exact hb
  |obj r=>
   simp only[Ik,jQ] at h1;have hr:r<B:=by rw[h1];exact hb
   refine⟨λy hy nF=>?_,aQ,aQ,?_⟩
   .have Xv:y.loc=.obj r:=by
     cases wr<;>cases sy<;>simp only[jU,sY,jQ] at hy<;>first|(subst hy;rfl)|(cases hy;done)
    exact absurd (Xv▸nF) (hs (.obj r) h1)
   .cases wr<;>cases sy<;>exact hr
  |_=>simp[Ik] at h1
variable {ty:aM}
def suf_atd {Wg:Nat}{τ:cI}{w:aE}(d:Nat):b8 ty Wg τ w (w.at d):=⟨rfl,rfl,rfl,bM _,λ_ _=>rfl,λx=>x⟩
theorem bj_ok {Wg:Nat}(τ:cI)(g:bE)(w:aE)(cO:g.status=.running)(h:OwnQ p ty Wg true (BJ p Post Shun) τ g w):BJ p Post Shun τ g w:=by
 intro h1 h2;have grow:∀(d:Nat) {w':aE},w.heap.size<=w'.heap.size->(∀b,(τ.grow (w.at d) w').own b\/τ.still b->b<w'.heap.size/\∀l,nO l b->¬Shun l)/\∀l b,nO l b->w'.heap.size<=b->¬Shun l:=λd w' hs=>by
  refine⟨λb hb=>?_,λl b hl hb=>h2 l b hl (eE hs hb)⟩;rcases hb with(hb|⟨hb,bY⟩)|hb
  .grind
  .exact⟨bY,λl hl=>h2 l b hl hb⟩
  .grind
 refine J.own cO λd=>?_;obtain⟨g',w',es,a1,a2,a3,a4,a5⟩:=h (w.at d) (suf_atd d);obtain⟨k1,k2⟩:=grow d a3.size;exact⟨g',w',es,w'.heap.size,a1,λe he=>zHI (a4 e he) k1,a3.size,a5 k1 k2⟩
structure IA (W0:aE)(St:Nat->Prop)(Shun:Loc->Prop)(R0:Pr)(R:Pr)(τ:cI)(W:aE):Prop where
 kp:Kp W0 R St W
 sh:Sh W0.heap.size Shun R W
 still:∀b,b<W0.heap.size->τ.still b
 le:R0.le R
def Ft (p:cD)(gs fs:aP->Bool)(Post:aF->aE->Prop)(Shun:Loc->Prop)(W0:aE)(St:Nat->Prop)(K R0:Pr)(base:List dV):Cx Unit:=
 {p:=p,gs:=gs,fs:=fs,ty:=0,Wg:=0,A:=⟨λ_=>.wait,λ_ _=>True,λ_=>false,λ_=>True,λ_ _=>True,λ_ _=>[]⟩,Fin:=λ_ _=>True,main:=true,base:=base,ds:=.nil,K:=K,St:=St,I:=IA W0 St Shun R0,pin:=[],alone:=some (BJ p Post Shun),aok:=λB h τ g w hr ho=>(by cases h;exact bj_ok τ g w hr ho)}
variable {gs fs:aP->Bool}{W0:aE}{St:Nat->Prop}{K R0:Pr}{base:List dV}
theorem dJ:fI (Ft p gs fs Post Shun W0 St K R0 base):=by
 refine⟨λR τ W aY h s=>?_,λR τ W R1 W1 h ht hs=>?_⟩
 .have h:=h
  exact⟨⟨s.os.trans h.kp.os,s.tape.trans h.kp.tape,s.output.trans h.kp.output,eE h.kp.size s.size,λb hb=>(s.keep b (.inr (h.still b hb))).trans (h.kp.block b hb),h.kp.old⟩,⟨h.sh.old,h.sh.rel,λl b hl hb=>h.sh.new l b hl (eE s.size hb)⟩,h.still,h.le⟩
 .have h:=h
  have hs:=hs;refine⟨⟨hs.os.trans h.kp.os,hs.tape.trans h.kp.tape,hs.output.trans h.kp.output,eE h.kp.size hs.size,λb hb=>?_,λa b x hb=>?_⟩,⟨h.sh.old,λa b x l hl=>?_,λl b hl hb=>h.sh.new l b hl (eE hs.size hb)⟩,h.still,h.le.trans hs.le⟩
  .rw[hs.keep b (jP hb h.kp.size) (λa x=>h.kp.old a b x hb)]
   exact h.kp.block b hb
  .rcases hs.new a b x with y|⟨y,_⟩
   .exact h.kp.old a b y hb
   .have:=h.kp.size;omega
  .rcases hs.new a b x with y|⟨y,_⟩
   .exact h.sh.rel a b y l hl
   .exact h.sh.new l b hl y
def tauA (R:Pr)(St:Nat->Prop)(W0:aE):cI:=⟨λb=>∃a,R a b/\¬St a,λb=>b<W0.heap.size\/∃a,R a b/\St a,λ_=>False⟩
def zGZ {R:Pr}:wL (tauA R St W0) R St:=λa b x=>⟨λh=>.inr ⟨a,x,h⟩,λh=>⟨a,x,h⟩⟩
variable {m':Fm}
theorem BO.aloneIn {R:Pr}{m:Fm}{w W:aE}(h:BO (Ft p gs fs Post Shun W0 St K R base) () m w)(hw:dB (SF fs) K R (pU p) St w W)(hm:FmW (Ft p gs fs Post Shun W0 St K R base) R m m')(nF:Sh W0.heap.size Shun R W)(hk:Kp W0 R St W):
 J p Post Shun W.heap.size (G m'.fr base) W:=by
 have:=h R W m' (tauA R St W0) hw hm zGZ ⟨hk,nF,λb hb=>.inl hb,.refl R⟩;rw[Cx.B_some rfl] at this;have e:fx [] (Ft p gs fs Post Shun W0 St K R base).ds m'=m'.fr:=Hi _;rw[e] at this;refine this (λb hb=>?_) nF.new;rcases hb with⟨a,x,_⟩|hb|⟨a,x,_⟩
 .exact⟨(hw.lt a b (.inl x)).2,nF.rel a b x⟩
 .exact⟨jP hb hk.size,λl hl=>nF.old l b hl hb⟩
 .exact⟨(hw.lt a b (.inl x)).2,nF.rel a b x⟩
theorem BO.aloneOut {op zk3:aP->Bool}{m:Fm}{ms ms':List Fm}(hm:qE (PL p op zk3) fs K R0 m m')(kJ:uQ (PL p op zk3) fs K R0 ms ms')(sX:base=m'.fr::ms'.map Fm.fr){ops:Array aZ}{i:Nat}{rest:List Nat}{k:List dZ}(hr:m.ret=false)(pZ:m.todo=.inRegion ops (i::rest)::k)
 {f:aP} {tmps:Array aF} {todo:List dZ} {w:aE} {v:aF} {fnf:Func} (hf:p.funcs[f]? =some fnf) (oF:Hf fnf.results.toList) (hv:(oO fnf.results.toList tmps).run p w=.ok v w) (hJ:JL p op zk3 fs St W0 Post (m.fin ops i rest k v) ms w):
 BO (Ft p gs fs Post Shun W0 St K R0 base) () ⟨f,tmps,todo,true⟩ w:=by
 intro R W x' τ hw hx ht hi;have hi:IA W0 St Shun R0 R τ W:=hi;obtain⟨f',bZ,zU,Ac⟩:=x';obtain rfl:=hx.fn;obtain rfl:=hx.todo;obtain rfl:=hx.ret;have zL:m'.ret=false:=hm.ret.symm.trans hr;have Pf:m'.todo=.inRegion ops (i::rest)::k:=hm.todo.symm.trans pZ;refine Cx.ownQ rfl λaY s=>?_;have hC:=dJ (p:=p) (gs:=gs) (fs:=fs) (Post:=Post) (Shun:=Shun) (W0:=W0) (St:=St) (K:=K) (R0:=R0) (base:=base);have dO:dB (SF fs) K R (pU p) St w aY:=Cx.Rel.suf (C:=Ft p gs fs Post Shun W0 St K R0 base) hw ht s;have Ad:IA W0 St Shun R0 R τ aY:=hC.suf _ _ _ _ hi s
 let T:Tape:=λn q=>aY.tape (aY.drawn+n) q
 have Be:dB (SF fs) K R (pU p) St (Tt.tp w T 0) aY:=⟨dO.inj,dO.inj',dO.lt,dO.low,dO.gle,dO.cont,dO.rest,dO.st,dO.np,dO.tb⟩;have Mv:Tp (Tt.tp w T 0) aY:=λn q=>by show aY.tape (aY.drawn+(0+n)) q=_;rw[Nat.zero_add]
 have cO:=(Zl _ _ w v w hv).2 T 0;obtain⟨R1,v',W1,ev,e1,g3,e3,e4,e5⟩:=aG.run (P:=PS p gs) rfl _ (zj8 hx.tmps fnf.results.toList) Be Mv cO;obtain⟨zfw,_⟩:=Zl _ _ aY v' W1 e1;subst zfw;have Pp:(Ap p ⟨f,bZ,todo,true⟩ [m']).run p W1=.ok (m'.fin ops i rest k v',[]) W1:=(Mc Pf hf e1).1;obtain⟨_,_,_,e⟩:=zea (main:=true) rfl zL Pp [] .nil (ms'.map Fm.fr);rw[Hi,Hi] at e;have S6:fx [] (Ft p gs fs Post Shun W0 St K R0 base).ds ⟨f,bZ,todo,true⟩=(⟨f,bZ,todo,true⟩:Fm).fr:=Hi _;rw[S6];have Sf:∀e∈seen p f ((Ap p ⟨f,bZ,todo,true⟩ [m']).events p W1 #[]),Iq R1 St e:=λe he=>by
  rw[(Mc Pf hf e1).2,e4] at he;exact e5 e (by simpa using mem_seen he)
 have Fu:∀a b,R1 a b->R a b\/(W1.heap.size<=b/\b<W1.heap.size):=λa b x=>by
  rcases e3.new a b x with y|⟨_,y⟩
  .exact .inl y
  .exact .inr ⟨y,(e3.rel.ltR a b x).2⟩
 have H3:wL (τ.grow W1 W1) R1 St:=λa b x=>by
  rcases e3.new a b x with y|⟨y1,y2⟩
  .exact⟨(ht a b y).1,λz=>.inl ((ht a b y).2 z)⟩
  .have:=(e3.rel.ltR a b x).2;omega
 have yN:IA W0 St Shun R0 R1 (τ.grow W1 W1) W1:=hC.step R τ W1 R1 W1 Ad ht ⟨e3.le,rfl,rfl,rfl,bM _,Fu,λ_ _ _=>rfl⟩;refine⟨G (m'.fin ops i rest k v').fr (ms'.map Fm.fr),W1,_,?_,rfl,Am.id _ _,λe he=>zfZ (Sf e he) H3,?_⟩
 .show stepG p true (G (Fm.fr _) base) W1=_
  rw[sX];exact e
 .rw[Cx.B_some rfl]
  intro _ _;have Rz:dB (SF fs) K R1 (pU p) St w W1:=⟨e3.rel.inj,e3.rel.inj',e3.rel.lt,e3.rel.low,e3.rel.gle,e3.rel.cont,e3.rel.rest,e3.rel.st,e3.rel.np,e3.rel.tb⟩;have hle:R0.le R1:=Ad.le.trans e3.le;exact hJ K R1 W1 _ ms' Shun Rz ((hm.mono hle).fin pZ g3) (kJ.mono hle) yN.sh yN.kp
end
end Go.Mt
namespace Go.Mt
open Go.Conc Go.Tt Go.RowKit Go.Conc.Lib Go.ConcR.Gen
open Go.ConcR (KK wgBlock WgAt stA smA rd wr mk Payload DC0)
variable [Payload]{Lk:WgLink}
section
variable {p:cD}
theorem zDW (H:WgLib p Lk)(Wg:Nat):Ic p Lk.wait #[.pointer (some ⟨Wg,0,none⟩)] .normal=(Jj Lk.wait).at ⟨#[.pointer (some ⟨Wg,0,none⟩),aA,aA,aA,aA,aA,aA,aA,aA,aA,aA,aA,aA,aA,aA,aA,aA,aA,aA,aA,aA,aA,aA,aA,aA,aA,aA,aA,aA,aA,aA,aA,aA,aA,aA,aA,aA,aA,aA,aA,aA,aA,aA,aA,aA,aA,aA,aA,aA,aA,aA,aA,aA,aA,aA,aA,aA,aA,aA,aA,aA,aA,aA,aA,aA,aA,aA,aA,aA,aA,aA,aA,aA,aA,aA,aA,aA,aA,aA,aA,aA,aA,aA,aA],[]⟩ [.code (U0 Lk)]:=by
 have h:=zp8 (P:=p) (f:=Lk.wait) (fn:=waitFn Lk) (c:=U0 Lk) #[.pointer (some ⟨Wg,0,none⟩)] H.f_wait rfl;rw[h];have e:(waitFn Lk).ntmps=84:=rfl;rw[e]
 walk_nrm
theorem zIx (H:WgLib p Lk)(Wg:Nat):Ic p Lk.add #[.pointer (some ⟨Wg,0,none⟩),.int .i64 1] .normal=(Jj Lk.add).at ⟨#[.pointer (some ⟨Wg,0,none⟩),.int .i64 1,aA,aA,aA,aA,aA,aA,aA,aA,aA,aA,aA,aA,aA,aA,aA,aA,aA,aA,aA,aA,aA,aA,aA,aA,aA,aA,aA,aA,aA,aA,aA,aA,aA,aA,aA,aA,aA,aA,aA,aA,aA,aA,aA,aA,aA,aA,aA,aA,aA,aA,aA,aA,aA,aA,aA,aA,aA,aA,aA,aA,aA,aA,aA,aA,aA,aA,aA,aA,aA,aA,aA,aA,aA,aA,aA,aA,aA,aA,aA,aA,aA,aA,aA,aA,aA,aA,aA,aA,aA,aA,aA,aA,aA,aA,aA,aA,aA,aA,aA,aA,aA,aA,aA,aA,aA,aA,aA,aA,aA,aA,aA,aA,aA,aA,aA],[]⟩ [.code (O2 Lk)]:=by
 have h:=zp8 (P:=p) (f:=Lk.add) (fn:=addFn Lk) (c:=O2 Lk) #[.pointer (some ⟨Wg,0,none⟩),.int .i64 1] H.f_add rfl;rw[h];have e:(addFn Lk).ntmps=117:=rfl;rw[e]
 walk_nrm
end
section
variable {L:Type}{C:Cx L}{l nx:L}{I0:Pr->cI->aE->Prop}
theorem zo8 (hC:C.ty=Lk.tWg)(hX:IX Lk.tWg C.Wg I0){R:Pr}{τ:cI}{w:aE}(ht:wL τ R C.St):H4 Lk.tWg C.Wg τ (λW=>C.Rel R w W/\I0 R τ W):=by
 refine⟨λW W' s hF=>⟨zj9 hF.1 ht (λa b x=>(hF.1.lt a b (.inr x)).2) s,hX.suf _ _ _ _ hF.2 s⟩,λW a v ha hF=>⟨?_,hX.cell _ _ _ _ _ hF.2 ha⟩⟩;exact dB.real hF.1 (λx b hx=>zcI W a v (by rw[ha];exact hX.rel _ _ _ hF.2 x b hx)) uB
theorem BO.add (H:WgLib C.p Lk)(ha:C.alone=none)(zf7:C.main=true)(Dc:C.ty=Lk.tWg)(hI:fI C)(zgm:C.I=zN Lk.tWg C.Wg I0)(hX:IX Lk.tWg C.Wg I0){fn:aP}{tmps:Array aF}{ops:Array aZ}{i:Nat}{rest:List Nat}{k:List dZ}{w:aE}{o:aZ}{s:Tmp}{jW:Array aM}
 (ho:ops[i]? =some o) (cG:dI o (dL ops tmps)=true) (hop:o.op=.call ⟨.value (.func Lk.add),#[.tmp s,.const (.int .i64 1)],jW⟩) (Ek:(s,.pointer (some ⟨C.Wg,0,none⟩))∈C.pin) (lD:∀s,o.dst=some s->s∉C.S) (q8:C.A.act l=.add nx)
 (h:BO C nx ⟨fn,(cE ⟨tmps,[]⟩ o.dst (.tuple #[])).tmps,.inRegion ops rest::k,false⟩ w):BO C l ⟨fn,tmps,.inRegion ops (i::rest)::k,false⟩ w:=by
 intro R W m' τ hw hm ht hi;obtain⟨fn',bZ,zU,Ac⟩:=m';obtain rfl:=hm.fn;obtain rfl:=hm.todo;obtain rfl:=hm.ret;have vJ:=Jl (C:=C) hm.tmps cG;have h5:=hm.pins _ Ek;have hb:=C.ds.ok;rw[mY,Cx.B_none ha,zf7,Dc];rw[zgm] at hi;have kf:=zo8 (C:=C) (w:=w) Dc hX ht;have G0:∀v,cE ⟨bZ,C.ds.ds⟩ o.dst v=⟨(cE ⟨bZ,[]⟩ o.dst v).tmps,C.ds.ds⟩:=λv=>by cases o.dst<;>rfl
 refine Ot rfl rfl (g':=G ((Jj Lk.add).at ⟨#[.pointer (some ⟨C.Wg,0,none⟩),.int .i64 1,aA,aA,aA,aA,aA,aA,aA,aA,aA,aA,aA,aA,aA,aA,aA,aA,aA,aA,aA,aA,aA,aA,aA,aA,aA,aA,aA,aA,aA,aA,aA,aA,aA,aA,aA,aA,aA,aA,aA,aA,aA,aA,aA,aA,aA,aA,aA,aA,aA,aA,aA,aA,aA,aA,aA,aA,aA,aA,aA,aA,aA,aA,aA,aA,aA,aA,aA,aA,aA,aA,aA,aA,aA,aA,aA,aA,aA,aA,aA,aA,aA,aA,aA,aA,aA,aA,aA,aA,aA,aA,aA,aA,aA,aA,aA,aA,aA,aA,aA,aA,aA,aA,aA,aA,aA,aA,aA,aA,aA,aA,aA,aA,aA,aA,aA],[]⟩ [.code (O2 Lk)]) ((C.ds.base fn).at ⟨bZ,C.ds.ds⟩ (.inRegion ops (i::rest)::k)::C.base)) (λIi s2=>?_) λIi s2=>?_
 .obtain⟨x1,x2⟩:=zgM (p:=C.p) (o:=o) hop (ρ:=(bL bZ C.ds.ds).eval) (λg=>rfl) H.f_add rfl rfl Ii
  have xF:(#[.tmp s,.const (.int .i64 1)]:Array cN).map (bL bZ C.ds.ds).eval=#[.pointer (some ⟨C.Wg,0,none⟩),.int .i64 1]:=by simp only[uP,jO,uN,xB];rw[h5]
  rw[xF] at x1;have zc4:=stepG_enter (main:=true) (b:=C.ds.base fn) (a:=⟨bZ,C.ds.ds⟩) (rest:=rest) (cs:=C.base) (k:=k) ho vJ hb x1;rw[zc4];unfold wX;rw[x2,Ct,zIx H]
 .refine addW (A:=C.A) (b₀:=C.ds.base fn) (a₀:=⟨bZ,C.ds.ds⟩) (ops₀:=ops) (i₀:=i) (rest₀:=rest) (k₀:=k) (cs:=C.base) (Fin:=C.Fin) (l:=l) (nx:=nx) (Wg:=C.Wg) H q8 kf (λW5 h5 zej=>?_) Ii ⟨kf.suf _ _ s2 ⟨hw,hi.1⟩,s2.live hi.2⟩
  have hB:=h R W5 ⟨fn,(cE ⟨bZ,[]⟩ o.dst (.tuple #[])).tmps,.inRegion ops rest::k,false⟩ τ h5.1 ⟨rfl,rfl,rfl,J7 (C:=C) hm.tmps (.tuple rfl λi v v' h=>by simp at h),Js (C:=C) hm.pins lD⟩ ht (by rw[zgm];exact⟨h5.2,zej⟩);rw[mY,Cx.B_none ha,zf7,Dc] at hB;rw[ho];simp only[vN];rw[G0];exact hB
end
section
variable {L:Type}{C:Cx L}{l nx lc:L}
structure zlI (τ τm τc:cI)(pub:List Nat)(W:aE):Prop where
 own:∀b,τm.own b\/τc.own b->τ.own b
 still:∀b,τm.still b\/τc.still b->τ.still b\/τ.own b
 pass:∀b,τm.pass b\/τc.pass b->τ.pass b\/τ.own b\/τ.still b
 apart:∀b,τm.own b->¬τc.own b/\¬τc.still b/\¬τc.pass b
 apart':∀b,τc.own b->¬τm.still b/\¬τm.pass b
 pub:∀a∈pub,τ.own a/\Kj W a/\¬τm.own a/\¬τm.still a/\¬τc.own a/\¬τc.still a
theorem BO.go (ha:C.alone=none)(hI:fI C){fn:aP}{tmps:Array aF}{ops:Array aZ}{i j:Nat}{rest:List Nat}{k:List dZ}{w:aE}{o1 o2:aZ}{s:Tmp}{f:aP}{Is:Array cN}{pub:List Nat}
 (zT:ops[i]? =some o1) (za9:ops[j]? =some o2) (qU:o1.guard=none) (oV:o2.guard=none) (zxs:o1.op=.makeFunc (.func f) #[] Is) (U5:o1.dst=some s) (zxQ:o2.op=.go ⟨.value (.tmp s),#[],#[]⟩) (Bo:o2.dst=none) (q8:C.A.act l=.spawn pub lc nx) (hs:s<tmps.size)
 (h:∀(R:Pr) (W:aE) (bZ:Array aF) (τ:cI),C.Rel R w W->bQ (SF C.fs) C.K R tmps bZ->(∀x∈C.pin,bZ.getD x.1 aA=x.2)->wL τ R C.St->C.I R τ W->∃τm τc,zlI τ τm τc pub W/\
  cF C.p C.ty C.Wg C.A C.Fin C.main (.usr nx) 0 τm (G ((C.ds.base fn).at ⟨bZ.setIfInBounds s (.func (.func f) #[] (Is.map (bL bZ C.ds.ds).eval)),C.ds.ds⟩ (.inRegion ops rest::k)) C.base) W/\
  cF C.p C.ty C.Wg C.A C.Fin false (.usr lc) 0 τc (born C.p {target:=.fn (.func f) (Is.map (bL bZ C.ds.ds).eval),args:=#[]}) W):BO C l ⟨fn,tmps,.inRegion ops (i::j::rest)::k,false⟩ w:=by
 intro R W m' τ hw hm ht hi;obtain⟨fn',bZ,zU,Ac⟩:=m';obtain rfl:=hm.fn;obtain rfl:=hm.todo;obtain rfl:=hm.ret;have hb:=C.ds.ok;rw[mY,Cx.B_none ha];have cP:=Nat.lt_of_lt_of_eq hs hm.tmps.1;obtain⟨zKu,zJ2,type1,zs0,zv9,zKG⟩:=o1;obtain⟨zJT,zJu,type2,zwu,zyQ,zKb⟩:=o2;simp only at qU oV zxs zxQ U5 Bo;subst qU oV zxs zxQ U5 Bo;have wn:∀{o:aZ} {t:Array aF},o.guard=none->dI o (dL ops t)=true:=λh=>by unfold dI;rw[h]
 refine Ot rfl rfl (g':=G ((C.ds.base fn).at ⟨bZ.setIfInBounds s (.func (.func f) #[] (Is.map (bL bZ C.ds.ds).eval)),C.ds.ds⟩ (.inRegion ops (j::rest)::k)) C.base) (λaY s1=>?_) λaY s1=>?_
 .have x1:(aO (bL bZ C.ds.ds).eval ⟨some s,.makeFunc (.func f) #[] Is,type1,zs0,zv9,none⟩).run C.p aY=.ok (.value (.func (.func f) #[] (Is.map (bL bZ C.ds.ds).eval))) aY:=by simp[aO,go_sem,zp9,pure,bN]
  have x2:(aO (bL bZ C.ds.ds).eval ⟨some s,.makeFunc (.func f) #[] Is,type1,zs0,zv9,none⟩).events C.p aY #[]=#[]:=by simp[aO,go_sem,zp9]
  rw[zkD zT (wn rfl) hb x1];unfold wX;rw[x2,Ct];rfl
 .refine cF.usr rfl ?_
  unfold nG;rw[q8];refine⟨rfl,λIi s2=>?_⟩;have s3:=s1.trans s2;obtain⟨τm,τc,hp,sG,oR⟩:=h R Ii bZ τ (hw.suf ht s3) hm.tmps hm.pins ht (hI.suf _ _ _ _ hi s3);refine⟨_,_,τm,τc,?_,rfl,rfl,hp.own,hp.still,hp.pass,hp.apart,hp.apart',hp.pub,sG,oR⟩;have x0:(bL (bZ.setIfInBounds s (.func (.func f) #[] (Is.map (bL bZ C.ds.ds).eval))) C.ds.ds).eval (.tmp s)=.func (.func f) #[] (Is.map (bL bZ C.ds.ds).eval):=by
   simp[xB,Array.getD_eq_getD_getElem?,cP]
  have x1:(aO (bL (bZ.setIfInBounds s (.func (.func f) #[] (Is.map (bL bZ C.ds.ds).eval))) C.ds.ds).eval ⟨none,.go ⟨.value (.tmp s),#[],#[]⟩,type2,zwu,zyQ,none⟩).run C.p Ii=.ok (.spawn {target:=.fn (.func f) (Is.map (bL bZ C.ds.ds).eval),args:=#[]}) Ii:=by
   simp only[aO,resolve,x0];simp[Cz,go_sem]
  have x2:(aO (bL (bZ.setIfInBounds s (.func (.func f) #[] (Is.map (bL bZ C.ds.ds).eval))) C.ds.ds).eval ⟨none,.go ⟨.value (.tmp s),#[],#[]⟩,type2,zwu,zyQ,none⟩).events C.p Ii #[]=#[]:=by
   simp only[aO,resolve,x0];simp[Cz,go_sem]
  rw[stepG_spawn za9 (wn rfl) hb x1 rfl];unfold wX;rw[x2,Ct];rfl
end
end Go.Mt
namespace Go.Mt
open Go.Conc Go.Tt
open Go.ConcR (KK wgBlock WgAt stA smA rd wr mk Payload DC0)
inductive xW (S:aP->Prop)(K R:Pr):List aF->List aF->Prop
 |nil:xW S K R [] []
 |cons {v v':aF} {l l':List aF}:VR S K R v v'->xW S K R l l'->xW S K R (v::l) (v'::l')
variable {S:aP->Prop}{K R:Pr}{l l':List aF}
theorem xW.len (h:xW S K R l l'):l.length=l'.length:=by
 induction h with
 |nil=>rfl
 |cons _ _ ih=>simp[ih]
theorem xW.get (h:xW S K R l l'):∀(i:Nat) (v v':aF),l[i]? =some v->l'[i]? =some v'->VR S K R v v':=by
 induction h with
 |nil=>simp_all
 |cons a _ ih=>grind
theorem zoJ (h:xW S K R l l'):bQ S K R l.toArray l'.toArray:=
 ⟨by simpa using h.len,λi v v' h1 h2=>h.get i v v' zag Zw⟩
structure IM2 (W0:aE)(St:Nat->Prop)(Shun:Loc->Prop)(Wg:Nat)(SS:Nat->Prop)(R0:Pr)(Fz:Nat->Prop)(Wf:aE)(chs:List Nat)(R:Pr)(τ:cI)(W:aE):Prop where
 x:IMX W0 St Shun Wg SS R0 Fz Wf R τ W
 dis:∀b,τ.own b->¬τ.still b
 slt:∀b,τ.still b->b<W.heap.size
 ch:∀c∈chs,τ.own c/\Kj W c/\∀a,¬R a c
section
variable {W0:aE}{St:Nat->Prop}{Shun:Loc->Prop}{Wg:Nat}{SS:Nat->Prop}{R0:Pr}{Fz:Nat->Prop}{Wf:aE}{chs:List Nat}
def Kj.lt {W:aE}{c:Nat}(h:Kj W c):c<W.heap.size:=(eM.1 h).1
theorem zyX {ty:aM}(wD:∀b,b<W0.heap.size->SS b)(hF:∀b,Fz b->SS b)(pG:W0.heap.size<=Wg):IX ty Wg (IM2 W0 St Shun Wg SS R0 Fz Wf chs):=by
 have hx:=zsG (ty:=ty) (St:=St) (Shun:=Shun) (Wg:=Wg) (R0:=R0) (Wf:=Wf) wD hF pG;refine⟨λR τ W aY h s=>⟨hx.suf _ _ _ _ h.x s,h.dis,λb hb=>jP (h.slt b hb) s.size,λc hc=>?_⟩,λR τ W a v h ha=>⟨hx.cell _ _ _ _ _ h.x ha,h.dis,λb hb=>by rw[Uk];exact h.slt b hb,λc hc=>?_⟩,λR τ W d h=>⟨hx.at_ _ _ _ d h.x,h.dis,h.slt,h.ch⟩,λR τ W h=>h.x.im.rel⟩
 .obtain⟨h1,h2,h3⟩:=h.ch c hc
  exact⟨h1,(s.keep c (.inl h1)).trans h2,h3⟩
 .obtain⟨h1,h2,h3⟩:=h.ch c hc
  exact⟨h1,(zcI W a v (by rw[ha];exact h.x.im.own c h1)).trans h2,h3⟩
variable {L:Type}{C:Cx L}
theorem im2_ok (hC:C.I=zN C.ty C.Wg (IM2 W0 St Shun C.Wg SS R0 Fz Wf chs))(aX:∀a,St a->C.St a)(wD:∀b,b<W0.heap.size->SS b)(hF:∀b,Fz b->SS b)(pG:W0.heap.size<=C.Wg):fI C:=by
 have h0:=imx_ok (C:={C with I:=zN C.ty C.Wg (IMX W0 St Shun C.Wg SS R0 Fz Wf)}) rfl aX wD hF pG;have hx:=zyX (ty:=C.ty) (St:=St) (Shun:=Shun) (R0:=R0) (Wf:=Wf) (chs:=chs) wD hF pG;refine⟨λR τ W aY h s=>?_,λR τ W R1 W1 h ht hs=>?_⟩<;>rw[hC] at*
 .exact⟨hx.suf _ _ _ _ h.1 s,s.live h.2⟩
 .obtain⟨k1,k2⟩:=h0.step R τ W R1 W1 ⟨h.1.x,h.2⟩ ht hs
  refine⟨⟨k1,λb hb Hr=>?_,λb hb=>jP (h.1.slt b hb) hs.size,λc hc=>?_⟩,k2⟩
  .rcases hb with hb|⟨hb,_⟩
   .exact h.1.dis b hb Hr
   .have:=h.1.slt b Hr;omega
  .obtain⟨h1,h2,h3⟩:=h.1.ch c hc
   refine⟨.inl h1,(hs.keep c h2.lt λa x=>absurd x (h3 a)).trans h2,λa x=>?_⟩;rcases hs.new a c x with y|⟨y,_⟩
   .exact h3 a y
   .have:=h2.lt;omega
variable {S:aP->Prop}{K R:Pr}{G:Gp}{eV:Nat->Prop}{w W:aE}{τ:cI}{X:Nat->Bool}
def Hy (R:Pr)(St:Nat->Prop)(X:Nat->Bool)(b:Nat):Prop:=∃a,R a b/\(St a\/X a=true)
def tauP (R:Pr)(St:Nat->Prop)(W0:aE)(chs:List Nat):cI:=⟨λb=>(∃a,R a b/\¬St a)\/b∈chs,λb=>b<W0.heap.size\/∃a,R a b/\St a,λ_=>False⟩
def terra_p:wL (tauP R St W0 chs) R St:=λa b x=>⟨λh=>.inr ⟨a,x,h⟩,λh=>.inl ⟨a,x,h⟩⟩
end
end Go.Mt
namespace Go.Mt
open Go.Conc Go.Tt
open Go.ConcR (KK wgBlock WgAt stA smA rd wr)
section
variable {L:Type}{C:Cx L}{l l':L}
def Cx.upK (C:Cx L)(K':Pr)(I':Pr->cI->aE->Prop):Cx L:={C with K:=K',I:=I'}
variable {m:Fm}{w:aE}
theorem BO.note (ha:C.alone=none){can:L->Prop}(q8:C.A.act l=.note can)(hc:can l')(h:BO C l' m w):BO C l m w:=by
 intro R W m' τ hw hm ht hi;have:=h R W m' τ hw hm ht hi;rw[Cx.B_none ha] at this⊢;refine cF.usr rfl ?_;unfold nG
 grind
variable {S:aP->Prop}{R:Pr}{St:Nat->Prop}
theorem dB.alR {K:Pr}{G:Gp}{W:aE}(h:dB S K R G St w W)(o:Obj):dB S K R G St w (W.alloc o):=by
 refine⟨h.inj,h.inj',λa b x=>⟨(h.lt a b x).1,by rw[qT];exact Nat.lt_succ_of_lt (h.lt a b x).2⟩,h.low,⟨h.gle.1,by rw[qT];exact Nat.le_succ_of_le h.gle.2⟩,λa b x=>?_,h.rest,h.st,h.np,h.tb⟩;obtain⟨o1,o2,h1,h2,h3⟩:=h.cont a b x;exact⟨o1,o2,h1,(Bp (h.lt a b (.inl x)).2).trans h2,h3⟩
variable {c:Nat}
theorem dB.setC {K:Pr}{G:Gp}{W:aE}(h:dB S K R G St w W)(hc:∀a,¬R a c)(cap:Nat)(L2:Array aF)(cl:Bool)(s r:Nat)(tm:Bool):dB S K R G St w (W.setChan c cap L2 cl s r tm):=by
 have cP:(W.setChan c cap L2 cl s r tm).heap.size=W.heap.size:=by simp[Mp]
 refine⟨h.inj,h.inj',λa b x=>⟨(h.lt a b x).1,by rw[cP];exact(h.lt a b x).2⟩,h.low,⟨h.gle.1,by rw[cP];exact h.gle.2⟩,λa b x=>?_,h.rest,h.st,h.np,h.tb⟩;obtain⟨o1,o2,h1,h2,h3⟩:=h.cont a b x;refine⟨o1,o2,h1,?_,h3⟩;have aS:c≠b:=λe=>hc a (e▸x);simp only[Mp,tY aS];exact h2
def FmW.upK {m':Fm}(h:FmW C R m m'){K':Pr}(hK:C.K.le K')(I':Pr->cI->aE->Prop):FmW (C.upK K' I') R m m':=⟨h.fn,h.todo,h.ret,bQ.monoK hK h.tmps,h.pins⟩
variable {fn:aP}{tmps:Array aF}{ops:Array aZ}{i:Nat}{rest:List Nat}{k:List dZ}{o:aZ}{e:aM}{dir:Tz}{ie:wG}{I':Nat->Pr->cI->aE->Prop}
theorem BO.makeK (hI:fI C){t:aM}(ho:ops[i]? =some o)(cG:dI o (dL ops tmps)=true)
 (hop:o.op=.makeChan t (.const (.int .i64 0))) (Sm:C.p.underlying t=some (.chan dir e)) (jZ:C.p.info? e=some ie) (lD:∀s,o.dst=some s->s∉C.S) 
 (zjz:∀R τ W,C.I R τ W->wL τ R C.St->(∀a b,R a b->b<W.heap.size)->I' W.heap.size R (τ.grow W (W.alloc (.chan 0 #[] false 0 0 false))) (W.alloc (.chan 0 #[] false 0 0 false)))
 (h:∀c,BO (C.upK (C.K.add w.heap.size c) (I' c)) l ⟨fn,(cE ⟨tmps,[]⟩ o.dst (.chan (some w.heap.size))).tmps,.inRegion ops rest::k,false⟩ (w.alloc pK)):BO C l ⟨fn,tmps,.inRegion ops (i::rest)::k,false⟩ w:=by
 intro R W m' τ hw hm ht hi;obtain⟨fn',bZ,zU,Ac⟩:=m';obtain rfl:=hm.fn;obtain rfl:=hm.todo;obtain rfl:=hm.ret;have hb:(C.ds.base fn).kind≠ .early:=C.ds.ok;have vJ:=Jl (C:=C) hm.tmps cG;rw[mY];refine Cx.ownQ rfl λaY s=>?_;have dO:C.Rel R w aY:=Cx.Rel.suf (C:=C) hw ht s;have Ad:=hI.suf _ _ _ _ hi s;have e1:(aO (bL bZ C.ds.ds).eval o).run C.p aY=.ok (.value (.chan (some aY.heap.size))) (aY.alloc (.chan 0 #[] false 0 0 false))/\(aO (bL bZ C.ds.ds).eval o).events C.p aY #[]=#[]:=by
  obtain⟨dst,zK,type,pos,after,guard⟩:=o;simp only at hop;subst hop;have hm:(Instr.makeChan t (.int .i64 0)).run C.p aY=_:=run_makeChan (P:=C.p) (w:=aY) Sm jZ .i64 0 aC aC;have hv:=events_makeChan (P:=C.p) (w:=aY) Sm jZ .i64 0 aC aC #[];exact⟨run_bv hm,ev_bv hm hv⟩
 have aX:=zkD (main:=C.main) (rest:=rest) (k:=k) (cs:=C.base) ho vJ hb e1.1;unfold wX at aX;rw[e1.2,Ct] at aX;refine⟨_,aY.alloc (.chan 0 #[] false 0 0 false),_,aX,rfl,⟨rfl,rfl,rfl,by rw[qT];omega,λb hb _=>Bp hb⟩,λe he=>by simp at he,?_⟩;have G0:cE ⟨bZ,C.ds.ds⟩ o.dst (.chan (some aY.heap.size))=⟨(cE ⟨bZ,C.ds.ds⟩ o.dst (.chan (some aY.heap.size))).tmps,C.ds.ds⟩:=by cases o.dst<;>rfl
 rw[G0,<-mY];have aT:∀a b,R.or C.K a b->b<aY.heap.size:=λa b x=>(dO.lt a b x).2;have eN:dB (SF C.fs) (C.K.add w.heap.size aY.heap.size) R (pU C.p) C.St (w.alloc pK) (aY.alloc (.chan 0 #[] false 0 0 false)):=dB.pushK (dB.alR dO _) (by rw[qT];omega) λa x=>by grind
 refine h aY.heap.size R _ ⟨fn,_,_,false⟩ _ eN ⟨rfl,rfl,rfl,J7 (C:=C.upK _ (I' aY.heap.size)) (bQ.monoK (Pr.le_add _ _ _) hm.tmps) (.chan (.some (.inr (.inr ⟨rfl,rfl⟩)))),Js (C:=C) hm.pins lD⟩ (λa b x=>⟨(ht a b x).1,λz=>.inl ((ht a b x).2 z)⟩) (zjz R τ aY Ad ht λa b x=>aT a b (.inl x))
def cI.cut (τ:cI)(ps:List Nat):cI:={τ with own:=λb=>τ.own b/\b∉ps}
variable {I':Pr->cI->aE->Prop}{x:cN}{g:Nat}{okv:aF->Prop}{pub:aF->List Nat}
theorem BO.sendP (ha:C.alone=none)(hI:fI C){y:cN}{nx:aF->L}{ps:List Nat}
 (ho:ops[i]? =some o) (cG:dI o (dL ops tmps)=true) (hop:o.op=.send x y)
 (sU:eD C.fs x=true) (hx:(bL tmps []).eval x=.chan (some g)) (hK:C.K g c) (Fe:eD C.fs y=true) (lD:∀s,o.dst=some s->s∉C.S) (q8:C.A.act l=.send c okv pub nx)
 (hv:∀R W v',C.Rel R w W->VR (SF C.fs) C.K R ((bL tmps []).eval y) v'->okv v'/\pub v'=ps/\nx v'=l') 
 (qM:∀R τ W,C.I R τ W->(∀a∈ps,τ.own a/\¬τ.still a/\Kj W a/\∀b,¬R b a)/\I' R (τ.cut ps) W)
 (h1:BO (C.upK C.K I') l' ⟨fn,(cE ⟨tmps,[]⟩ o.dst aA).tmps,.inRegion ops rest::k,false⟩ w):BO C l ⟨fn,tmps,.inRegion ops (i::rest)::k,false⟩ w:=by
 intro R W m' τ hw hm ht hi;obtain⟨fn',bZ,zU,Ac⟩:=m';obtain rfl:=hm.fn;obtain rfl:=hm.todo;obtain rfl:=hm.ret;have mJ:(bL bZ C.ds.ds).eval x=.chan (some c):=Wv hw hK (hx▸Hp (C:=C) hm.tmps sU);have vJ:=Jl (C:=C) hm.tmps cG;have hb:(C.ds.base fn).kind≠ .early:=C.ds.ok;obtain⟨k1,k2,k3⟩:=hv R W _ hw (Hp (C:=C) (d:=C.ds.ds) hm.tmps Fe);obtain⟨p1,p2⟩:=qM R τ W hi;rw[mY,Cx.B_none ha];refine cF.usr rfl ?_;unfold nG;rw[q8];refine⟨rfl,_,.tuple #[],τ.cut ps,λaJ s=>?_,k1,λb h=>h.1,rfl,λb h=>.inl h,(λa ha=>?_),?_⟩
 .obtain⟨e1,e2⟩:=zsc (p:=C.p) (ρ:=(bL bZ C.ds.ds).eval) hop mJ rfl aJ
  rw[stepG_comm ho vJ hb e1];unfold wX;rw[e2,Ct]
 .rw[k2] at ha
  obtain⟨q1,q2,q3,_⟩:=p1 a ha;exact⟨q1,λe=>e.2 ha,q2,q3⟩
 .rw[k3,zce ho]
  rw[<-Cx.B_none ha];refine h1 R W _ (τ.cut ps) hw ⟨rfl,rfl,rfl,J7 (C:=C) hm.tmps yU,Js (C:=C) hm.pins lD⟩ (λa b x=>⟨(ht a b x).1,λz=>⟨(ht a b x).2 z,λhb=>(p1 b hb).2.2.2 a x⟩⟩) p2
theorem BO.recvK (ha:C.alone=none)(hI:fI C){ct:aM}{ok:Bool}{z:aF}{nx:aF->L}{sh:L}
 (ho:ops[i]? =some o) (cG:dI o (dL ops tmps)=true) (hop:o.op=.recv ct x ok) (Gh:C.p.underlying ct=some (.chan dir e)) (jZ:C.p.info? e=some ie) (hz:ie.zero=some z) (zl6:∀R,VR (SF C.fs) C.K R z z)
 (sU:eD C.fs x=true) (hx:(bL tmps []).eval x=.chan (some g)) (hK:C.K g c) (lD:∀s,o.dst=some s->s∉C.S) (q8:C.A.act l=.recv c okv nx sh)
 (h1:∀v,okv v->∃a,a∈C.A.got l v/\∀K' ga w',C.K.le K'->K' ga a->(w'=w\/w'=w.alloc pK)->∃vg,(∀R,VR (SF C.fs) K' R vg v)/\BO (C.upK K' C.I) (nx v) ⟨fn,(cE ⟨tmps,[]⟩ o.dst (recvd ok vg true)).tmps,.inRegion ops rest::k,false⟩ w')
 (h2:C.A.cl l->BO C sh ⟨fn,(cE ⟨tmps,[]⟩ o.dst (recvd ok z false)).tmps,.inRegion ops rest::k,false⟩ w):BO C l ⟨fn,tmps,.inRegion ops (i::rest)::k,false⟩ w:=by
 intro R W m' τ hw hm ht hi;obtain⟨fn',bZ,zU,Ac⟩:=m';obtain rfl:=hm.fn;obtain rfl:=hm.todo;obtain rfl:=hm.ret;have mJ:(bL bZ C.ds.ds).eval x=.chan (some c):=Wv hw hK (hx▸Hp (C:=C) hm.tmps sU);have vJ:=Jl (C:=C) hm.tmps cG;have hb:(C.ds.base fn).kind≠ .early:=C.ds.ok;have zcO:∀K' vg v' b,VR (SF C.fs) K' R vg v'->VR (SF C.fs) K' R (recvd ok vg b) (recvd ok v' b):=λK' vg v' b h=>by
  unfold recvd
  cases ok with
  |false=>exact h
  |true=>
   simp only[if_true];exact VR.tuple' (by
    have:=bQ.empty (S:=SF C.fs) (K:=K') (R:=R);exact(this.push h).push (.bool b))
 rw[mY,Cx.B_none ha];refine cF.usr rfl ?_;unfold nG;rw[q8];refine⟨rfl,z,ok,λaJ s=>?_,λv hv aJ s hg=>?_,λkR=>?_⟩
 .obtain⟨e1,e2⟩:=zu7 (p:=C.p) (ρ:=(bL bZ C.ds.ds).eval) hop Gh jZ hz mJ aJ
  rw[stepG_comm ho vJ hb e1];unfold wX;rw[e2,Ct]
 .obtain⟨a,zDP,hB⟩:=h1 v hv
  obtain⟨a1,a2,a3⟩:=hg a zDP;have dO:C.Rel R w aJ:=Cx.Rel.suf (C:=C) hw ht s;have Ad:=hI.suf _ _ _ _ hi s;have go:∀K' ga w',C.K.le K'->K' ga a->(w'=w\/w'=w.alloc pK)->dB (SF C.fs) K' R (pU C.p) C.St w' aJ->cF C.p C.ty C.Wg C.A C.Fin C.main (.usr (nx v)) 0 τ (Conc.served (G ((C.ds.base fn).at ⟨bZ,C.ds.ds⟩ (.inRegion ops (i::rest)::k)) C.base) (recvd ok v true)) aJ:=λK' ga w' hle za7 jI hr=>by
   obtain⟨vg,ziv,zF4⟩:=hB K' ga w' hle za7 jI;rw[zce ho,<-Cx.B_none ha];exact zF4 R aJ _ τ hr ⟨rfl,rfl,rfl,J7 (C:=C.upK K' C.I) (bQ.monoK hle hm.tmps) (zcO K' _ _ _ (ziv R)),Js (C:=C) hm.pins lD⟩ ht Ad
  have hR:∀b,¬R b a:=λb x=>by
   by_cases hs:C.St b
   .exact a3 ((ht b a x).1 hs)
   .exact a2 ((ht b a x).2 hs)
  by_cases hk:∃b,C.K b a
  .obtain⟨b,bY⟩:=hk
   exact go C.K b w (λ_ _ x=>x) bY (.inl rfl) dO
  .exact go (C.K.add w.heap.size a) w.heap.size (w.alloc pK) (Pr.le_add _ _ _) (.inr ⟨rfl,rfl⟩) (.inr rfl) (dB.pushK dO a1 λb x=>x.elim (hR b) λy=>hk ⟨b,y⟩)
 .rw[zce ho,<-Cx.B_none ha]
  exact h2 kR R W _ τ hw ⟨rfl,rfl,rfl,J7 (C:=C) hm.tmps (zcO _ _ _ _ (zl6 R)),Js (C:=C) hm.pins lD⟩ ht hi
theorem BO.close (ha:C.alone=none)(hI:fI C){tx:Tmp}{jW:Array aM}{nx:L}{fnf:Func}
 (ho:ops[i]? =some o) (cG:dI o (dL ops tmps)=true) (hop:o.op=.call {callee:=.builtin .close,args:=#[.tmp tx],argTypes:=jW}) (hx:(bL tmps []).eval (.tmp tx)=.chan (some g)) (hK:C.K g c) (lD:∀s,o.dst=some s->s∉C.S) (q8:C.A.act l=.close c nx)
 (hf:C.p.funcs[fn]? =some fnf) (E8:fnf.norace=false)
 (hp:∀R τ W,C.I R τ W->τ.pass c/\¬τ.own c/\¬τ.still c/\∀s r,C.I R τ (W.setChan c 0 #[] true s r false))
 (h1:BO C nx ⟨fn,(cE ⟨tmps,[]⟩ o.dst (.tuple #[])).tmps,.inRegion ops rest::k,false⟩ w):BO C l ⟨fn,tmps,.inRegion ops (i::rest)::k,false⟩ w:=by
 intro R W m' τ hw hm ht hi;obtain⟨fn',bZ,zU,Ac⟩:=m';obtain rfl:=hm.fn;obtain rfl:=hm.todo;obtain rfl:=hm.ret;have mJ:(bL bZ C.ds.ds).eval (.tmp tx)=.chan (some c):=Wv hw hK (hx▸Hp (C:=C) (x:=.tmp tx) hm.tmps rfl);have Ak:bZ[tx]?.getD aA=.chan (some c):=by simpa[xB] using mJ
 have vJ:=Jl (C:=C) hm.tmps cG;have hb:(C.ds.base fn).kind≠ .early:=C.ds.ok;obtain⟨p1,p2,p3,_⟩:=hp R τ W hi;rw[mY,Cx.B_none ha];refine cF.usr rfl ?_;unfold nG;rw[q8];refine⟨?_,p1,λaJ s s' r' hc=>?_⟩
 .obtain⟨dst,zK,type,pos,after,guard⟩:=o
  simp only at hop;subst hop;simp[mayWake,G,dV.at,bE.frame,ho,Dk.base]
 .have e1:(aO (bL bZ C.ds.ds).eval o).run C.p aJ=.ok (.value (.tuple #[])) (aJ.setChan c 0 #[] true s' r' false)/\(aO (bL bZ C.ds.ds).eval o).events C.p aJ #[]=closeEvents c:=by
   obtain⟨dst,zK,type,pos,after,guard⟩:=o;simp only at hop;subst hop;constructor
   .simp[aO,go_sem,resolve,Ak,invoke,run_close_open _ _ hc,Mp]
   .simp[aO,go_sem,resolve,Ak,invoke,events_close_open _ _ hc,closeEvents]
  have aX:=zkD (main:=C.main) (rest:=rest) (k:=k) (cs:=C.base) ho vJ hb e1.1;have hl:wX C.p (C.ds.base fn).fn ⟨bZ,C.ds.ds⟩ o aJ=closeEvents c:=by
   unfold wX;rw[e1.2];refine seen_eq ?_ ?_
   .show(C.p.funcs[fn]?).any (·.norace)=false
    rw[hf];simp[E8]
   .intro e he f
    simp only[closeEvents,List.mem_toArray,mB,nD,or_false] at he
    grind
  rw[hl] at aX;refine⟨_,aX,rfl,?_⟩;have dO:C.Rel R w aJ:=Cx.Rel.suf (C:=C) hw ht s;have Ad:=hI.suf _ _ _ _ hi s;have hR:∀b,¬R b c:=λb x=>by
   by_cases hs:C.St b
   .exact p3 ((ht b c x).1 hs)
   .exact p2 ((ht b c x).2 hs)
  have G0:cE ⟨bZ,C.ds.ds⟩ o.dst (.tuple #[])=⟨(cE ⟨bZ,C.ds.ds⟩ o.dst (.tuple #[])).tmps,C.ds.ds⟩:=by cases o.dst<;>rfl
  rw[G0,<-mY,<-Cx.B_none ha];exact h1 R _ ⟨fn,_,_,false⟩ τ (dB.setC dO hR _ _ _ _ _ _) ⟨rfl,rfl,rfl,J7 (C:=C) hm.tmps (VR.tuple' .empty),Js (C:=C) hm.pins lD⟩ ht ((hp R τ aJ Ad).2.2.2 s' r')
end
end Go.Mt
namespace Go.Mt
open Go.Conc Go.Tt Go.RowKit Go.Conc.Lib Go.ConcR.Gen
open Go.ConcR (KK wgBlock WgAt stA smA rd wr mk Payload DC0)
structure IQ (W0:aE)(St:Nat->Prop)(Shun:Loc->Prop)(Wg:Nat)(SS:Nat->Prop)(R0:Pr)(Fz:Nat->Prop)(Wf:aE)(qs chs:List Nat)(R:Pr)(τ:cI)(W:aE):Prop where
 x:IM2 W0 St Shun Wg SS R0 Fz Wf chs R τ W
 pass:∀c∈qs,τ.pass c/\¬τ.own c/\¬τ.still c/\c<W.heap.size/\c≠Wg
section
variable {W0:aE}{St:Nat->Prop}{Shun:Loc->Prop}{Wg:Nat}{SS:Nat->Prop}{R0:Pr}{Fz:Nat->Prop}{Wf:aE}{qs chs:List Nat}
theorem ze2 {ty:aM}(wD:∀b,b<W0.heap.size->SS b)(hF:∀b,Fz b->SS b)(pG:W0.heap.size<=Wg):IX ty Wg (IQ W0 St Shun Wg SS R0 Fz Wf qs chs):=by
 have hx:=zyX (ty:=ty) (St:=St) (Shun:=Shun) (Wg:=Wg) (R0:=R0) (Wf:=Wf) (chs:=chs) (Fz:=Fz) wD hF pG;refine⟨λR τ W aY h s=>⟨hx.suf _ _ _ _ h.x s,λc hc=>?_⟩,λR τ W a v h ha=>⟨hx.cell _ _ _ _ _ h.x ha,λc hc=>?_⟩,λR τ W d h=>⟨hx.at_ _ _ _ d h.x,h.pass⟩,λR τ W h=>h.x.x.im.rel⟩
 .obtain⟨h1,h2,h3,h4,h5⟩:=h.pass c hc
  exact⟨h1,h2,h3,jP h4 s.size,h5⟩
 .obtain⟨h1,h2,h3,h4,h5⟩:=h.pass c hc
  simp_all
variable {L:Type}{C:Cx L}
theorem zmp (hC:C.I=zN C.ty C.Wg (IQ W0 St Shun C.Wg SS R0 Fz Wf qs chs))(aX:∀a,St a->C.St a)(wD:∀b,b<W0.heap.size->SS b)(hF:∀b,Fz b->SS b)(pG:W0.heap.size<=C.Wg):fI C:=by
 have h0:=im2_ok (C:={C with I:=zN C.ty C.Wg (IM2 W0 St Shun C.Wg SS R0 Fz Wf chs)}) rfl aX wD hF pG;have hx:=ze2 (ty:=C.ty) (St:=St) (Shun:=Shun) (R0:=R0) (Fz:=Fz) (Wf:=Wf) (qs:=qs) (chs:=chs) wD hF pG;refine⟨λR τ W aY h s=>?_,λR τ W R1 W1 h ht hs=>?_⟩<;>rw[hC] at*
 .exact⟨hx.suf _ _ _ _ h.1 s,s.live h.2⟩
 .obtain⟨k1,k2⟩:=h0.step R τ W R1 W1 ⟨h.1.x,h.2⟩ ht hs
  refine⟨⟨k1,λc hc=>?_⟩,k2⟩;obtain⟨h1,h2,h3,h4,h5⟩:=h.1.pass c hc;exact⟨h1,λe=>e.elim h2 λy=>by omega,h3,jP h4 hs.size,h5⟩
variable {R:Pr}{τ:cI}{W:aE}
theorem zxe (h:IQ W0 St Shun Wg SS R0 Fz Wf qs chs R τ W)(aT:∀a b,R a b->b<W.heap.size):
 IQ W0 St Shun Wg SS R0 Fz Wf qs (W.heap.size::chs) R (τ.grow W (W.alloc (.chan 0 #[] false 0 0 false))) (W.alloc (.chan 0 #[] false 0 0 false)):=by
 have sz:(W.alloc (.chan 0 #[] false 0 0 false)).heap.size=W.heap.size+1:=qT _ _;have zzW:=h.x.x.im.wg;refine⟨⟨⟨⟨⟨h.x.x.im.kp.os,h.x.x.im.kp.tape,h.x.x.im.kp.output,by rw[sz];have:=h.x.x.im.kp.size;omega,λb hb=>(Bp (by have:=h.x.x.im.kp.size;omega)).trans (h.x.x.im.kp.block b hb),h.x.x.im.kp.old⟩,⟨h.x.x.im.sh.old,h.x.x.im.sh.rel,λl b hl hb=>h.x.x.im.sh.new l b hl (by rw[sz] at hb;omega)⟩,h.x.x.im.still,by rw[sz];omega,λb hb=>?_,h.x.x.im.rel⟩,h.x.x.le,λb hb=>by
  obtain⟨l1,l2,l3,l4⟩:=h.x.x.fz b hb;exact⟨by rw[sz];omega,(Bp l1).trans l2,λe=>e.elim l3 λy=>by omega,l4⟩⟩,λb hb hs=>?_,λb hb=>by have:=h.x.slt b hb;rw[sz];omega,λc hc=>?_⟩,λc hc=>?_⟩
 .rcases hb with hb|⟨hb,_⟩
  .exact h.x.x.im.own b hb
  .omega
 .rcases hb with hb|⟨hb,_⟩
  .exact h.x.dis b hb hs
  .have:=h.x.slt b hs;omega
 .rcases mB.1 hc with rfl|hc
  .exact⟨.inr ⟨bM _,by rw[sz];omega⟩,Cy _ _,λa x=>by grind⟩
  .obtain⟨h1,h2,h3⟩:=h.x.ch c hc
   exact⟨.inl h1,(Bp h2.lt).trans h2,h3⟩
 .obtain⟨h1,h2,h3,h4,h5⟩:=h.pass c hc
  exact⟨h1,λe=>e.elim h2 λy=>by omega,h3,by rw[sz];omega,h5⟩
theorem iq_cut {c:Nat}(h:IQ W0 St Shun Wg SS R0 Fz Wf qs [c] R τ W):(∀a∈[c],τ.own a/\¬τ.still a/\Kj W a/\∀b,¬R b a)/\IQ W0 St Shun Wg SS R0 Fz Wf qs [] R (τ.cut [c]) W:=by
 refine⟨λa ha=>?_,⟨⟨⟨⟨h.x.x.im.kp,h.x.x.im.sh,h.x.x.im.still,h.x.x.im.wg,λb hb=>h.x.x.im.own b hb.1,h.x.x.im.rel⟩,h.x.x.le,λb hb=>let⟨l1,l2,l3,l4⟩:=h.x.x.fz b hb;⟨l1,l2,λe=>l3 e.1,l4⟩⟩,λb hb hs=>h.x.dis b hb.1 hs,h.x.slt,λc hc=>by cases hc⟩,λc hc=>?_⟩⟩
 .obtain⟨h1,h2,h3⟩:=h.x.ch a ha
  exact⟨h1,λhs=>h.x.dis a h1 hs,h2,h3⟩
 .obtain⟨h1,h2,h3⟩:=h.pass c hc
  exact⟨h1,λe=>h2 e.1,h3⟩
theorem zDy (h:IQ W0 St Shun Wg SS R0 Fz Wf qs chs R τ W){c:Nat}(hc:c∈qs)(s r:Nat)(aX:∀b,b<W0.heap.size->SS b)(hF:∀b,Fz b->SS b):IQ W0 St Shun Wg SS R0 Fz Wf qs chs R τ (W.setChan c 0 #[] true s r false):=by
 have sz:(W.setChan c 0 #[] true s r false).heap.size=W.heap.size:=by simp[Mp]
 have ne:∀b,b≠c->(W.setChan c 0 #[] true s r false).heap[b]? =W.heap[b]? :=λb hb=>by simp only[Mp];grind
 obtain⟨p1,p2,p3,p4,p5⟩:=h.pass c hc;refine⟨⟨⟨⟨⟨h.x.x.im.kp.os,h.x.x.im.kp.tape,h.x.x.im.kp.output,by rw[sz];exact h.x.x.im.kp.size,λb hb=>(ne b λe=>?_).trans (h.x.x.im.kp.block b hb),h.x.x.im.kp.old⟩,⟨h.x.x.im.sh.old,h.x.x.im.sh.rel,λl b hl hb=>h.x.x.im.sh.new l b hl (by rw[sz] at hb;exact hb)⟩,h.x.x.im.still,by rw[sz];exact h.x.x.im.wg,h.x.x.im.own,h.x.x.im.rel⟩,h.x.x.le,λb hb=>by
  obtain⟨l1,l2,l3,l4⟩:=h.x.x.fz b hb;refine⟨by rw[sz];exact l1,(ne b λe=>?_).trans l2,l3,l4⟩;subst e;exact p3 (by rw[h.x.x.im.still];exact hF b hb)⟩,h.x.dis,λb hb=>by rw[sz];exact h.x.slt b hb,λa ha=>?_⟩,λa ha=>by rw[sz];exact h.pass a ha⟩
 .subst e
  exact p3 (by rw[h.x.x.im.still];exact aX b hb)
 .obtain⟨h1,h2,h3⟩:=h.x.ch a ha
  exact⟨h1,(ne a λe=>p2 (e▸h1)).trans h2,h3⟩
def Lo (τ:cI)(R:Pr)(X:Nat->Bool)(N:Nat)(qs:List Nat):cI:=⟨λb=>τ.own b/\b≠N/\¬∃a,R a b/\X a=true,λb=>τ.still b\/∃a,R a b/\X a=true,λb=>b∈qs++[N]⟩
def Xi (τ:cI)(R:Pr)(X:Nat->Bool):cI:=⟨λ_=>False,λb=>τ.still b\/∃a,R a b/\X a=true,λ_=>False⟩
variable {S:aP->Prop}{K:Pr}{G:Gp}{eV:Nat->Prop}{w:aE}{X:Nat->Bool}{N:Nat}
theorem parts_q (hT:wL τ R eV)(h:IQ W0 St Shun Wg SS R0 Fz Wf qs [N] R τ W):zlI τ (Lo τ R X N qs) (Xi τ R X) [N] W:=by
 have hx:∀b,(∃a,R a b/\X a=true)->τ.still b\/τ.own b:=λb ⟨a,h,_⟩=>by
  by_cases hs:eV a
  .exact .inl ((hT a b h).1 hs)
  .exact .inr ((hT a b h).2 hs)
 obtain⟨n1,n2,n3⟩:=h.x.ch N (yM.2 rfl);refine⟨λb hb=>?_,λb hb=>?_,λb hb=>?_,λb hb=>⟨id,?_,id⟩,λb hb=>hb.elim,λa ha=>?_⟩
 .rcases hb with hb|hb
  .exact hb.1
  .exact hb.elim
 .rcases hb with(hb|hb)|hb|hb
  .exact .inl hb
  .exact hx b hb
  .exact .inl hb
  .exact hx b hb
 .rcases hb with hb|hb
  .rcases Fq.1 hb with hb|hb
   .exact .inl (h.pass b hb).1
   simp_all
  .exact hb.elim
 .rintro(hs|hs)
  .exact h.x.dis b hb.1 hs
  .exact hb.2.2 hs
 .obtain rfl:=yM.1 ha
  refine⟨n1,n2,λh=>h.2.1 rfl,?_,id,?_⟩
  .rintro(hs|⟨g,hg,_⟩)
   .exact h.x.dis a n1 hs
   .exact n3 g hg
  .rintro(hs|⟨g,hg,_⟩)
   .exact h.x.dis a n1 hs
   .exact n3 g hg
theorem zGX (hw:dB S K R G eV w W)(hT:wL τ R eV)(hN:∀a,¬R a N):wL (Lo τ R X N qs) R (λa=>eV a\/X a=true):=λa b x=>by
 refine⟨λh=>?_,λh=>?_⟩
 .rcases h with h|h
  .exact .inl ((hT a b x).1 h)
  .exact .inr ⟨a,x,h⟩
 .refine⟨(hT a b x).2 λhs=>h (.inl hs),λe=>hN a (e▸x),?_⟩
  rintro⟨a',x',h'⟩;obtain rfl:=hw.inj' a a' b (.inl x) (.inl x');exact h (.inr h')
def zAE:wL (Xi τ R X) (rX R X) (λa=>X a=true):=λa b x=>⟨λh=>.inr ⟨a,x.1,x.2⟩,λh=>absurd x.2 h⟩
theorem iq_qm (hw:dB S K R G eV w W)(hT:wL τ R eV)(h:IQ W0 St Shun Wg SS R0 Fz Wf qs [N] R τ W):IQ W0 St Shun Wg (Lo τ R X N qs).still R (Hy R eV X) W (qs++[N]) [] R (Lo τ R X N qs) W:=by
 obtain⟨n1,n2,n3⟩:=h.x.ch N (yM.2 rfl);have hx:∀b,(∃a,R a b/\X a=true)->∀c∈qs,b≠c:=λb ⟨a,h',_⟩ c hc e=>by
  subst e;obtain⟨_,p2,p3,_⟩:=h.pass b hc;by_cases hs:eV a
  .exact p3 ((hT a b h').1 hs)
  .exact p2 ((hT a b h').2 hs)
 refine⟨⟨⟨⟨h.x.x.im.kp,h.x.x.im.sh,rfl,h.x.x.im.wg,λb hb=>h.x.x.im.own b hb.1,h.x.x.im.rel⟩,.refl R,λb hb=>by
  obtain⟨a,x,hh⟩:=hb;refine⟨(hw.lt a b (.inl x)).2,rfl,λho=>?_,h.x.x.im.rel a b x⟩;rcases hh with hh|hh
  .exact h.x.dis b ho.1 ((hT a b x).1 hh)
  .exact ho.2.2 ⟨a,x,hh⟩⟩,λb hb hs=>?_,λb hb=>?_,λc hc=>by cases hc⟩,λc hc=>?_⟩
 .rcases hs with hs|hs
  .exact h.x.dis b hb.1 hs
  .exact hb.2.2 hs
 .rcases hb with hb|⟨a,x,_⟩
  .exact h.x.slt b hb
  .exact(hw.lt a b (.inl x)).2
 .refine⟨hc,?_⟩
  rcases Fq.1 hc with lN|lN
  .obtain⟨_,p2,p3,p4,p5⟩:=h.pass c lN
   exact⟨λe=>p2 e.1,λe=>e.elim p3 λy=>hx c y c lN rfl,p4,p5⟩
  .obtain rfl:=yM.1 lN
   refine⟨λe=>e.2.1 rfl,?_,n2.lt,h.x.x.im.own c n1⟩;rintro(hs|⟨g,hg,_⟩)
   .exact h.x.dis c n1 hs
   .exact n3 g hg
def tauWm (τ:cI):cI:=⟨λ_=>False,τ.still,λ_=>False⟩
theorem parts_w (h:IQ W0 St Shun Wg SS R0 Fz Wf qs [] R τ W):zlI τ (tauWm τ) τ [] W:=
 ⟨λb hb=>hb.elim (λx=>x.elim) id,λb hb=>.inl (hb.elim id id),λb hb=>hb.elim (λx=>x.elim) .inl,λb hb=>hb.elim,λb hb=>⟨λhs=>h.x.dis b hb hs,id⟩,λa ha=>by cases ha⟩
end
section
variable [Payload]{Lk:WgLink}
variable {L:Type}{C:Cx L}{l:L}{I0:Pr->cI->aE->Prop}
theorem BO.doneD (H:WgLib C.p Lk)(ha:C.alone=none)(zf7:C.main=false)(Dc:C.ty=Lk.tWg)(zgm:C.I=zN Lk.tWg C.Wg I0)(hX:IX Lk.tWg C.Wg I0)(zzL:C.ds=⟨[dcall Lk.done #[.pointer (some ⟨C.Wg,0,none⟩)]],.deferred,aQ⟩)(sX:C.base=[wQ C.p])
 {f:aP} {fn:Func} (hf:C.p.funcs[f]? =some fn) (hr:fn.results=#[]) (q8:C.A.act l=.done) {T:Array aF} {todo:List dZ} {w:aE} (uI:∀R τ W,C.Rel R w W->I0 R τ W->C.A.dep l W):BO C l ⟨f,T,todo,true⟩ w:=by
 intro R W m' τ hw hm ht hi;obtain⟨fn',T',zU,Ac⟩:=m';obtain rfl:=hm.fn;obtain rfl:=hm.todo;obtain rfl:=hm.ret;rw[zgm] at hi;have kf:=zo8 (C:=C) (w:=w) Dc hX ht;rw[zlv,Cx.B_none ha,zf7,Dc,zzL,sX];refine Ot rfl rfl (λaY s=>stepG_unwind_enter rfl H.f_done (nm_done Lk) rfl) λaY s=>?_;exact doneW (F:=λW=>C.Rel R w W/\I0 R τ W) (Fin:=C.Fin) H q8 kf (λW' h=>uI R τ W' h.1 h.2) (c:={(baseD f).at ⟨T',[]⟩ todo with mode:=.returning}) (cs:=[wQ C.p]) rfl (zBT hf hr T' todo) aY ⟨kf.suf _ _ s ⟨hw,hi.1⟩,s.live hi.2⟩
end
variable [Payload]{Lk:WgLink}
section
variable {L:Type}{p:cD}{A:jV L}{Fin:bE->aE->Prop}{Wg:Nat}{l:L}
theorem zGp (H:WgLib p Lk)(q8:A.act l=.wait)(O3:∀(n:Nat) g w,Goes p true AtRel DC0 Fin n g w->Fin g w){fn:aP}{T:Array aF}{zDU ops:Array aZ}{id s:Nat}{o:aZ}{jW:Array aM}{tail:Code}{base:List dV}{τ:cI}{W:aE}
 (zkJ:ops=#[o]) (hg:o.guard=none) (hop:o.op=.call ⟨.value (.func Lk.wait),#[.tmp s],jW⟩) (hs:T.getD s aA=.pointer (some ⟨Wg,0,none⟩)) (nI:WgLive Lk.tWg Wg W)
 (h:∀Wn d,zdC A Wn->Fin (G ((Dk.nil.base fn).at ⟨(cE ⟨T,[]⟩ o.dst (.tuple #[])).tmps,[]⟩ [.inRegion ops [],.code tail]) base) (Wn.at d)):
 cF p Lk.tWg Wg A Fin true (.usr l) 0 τ (G ((Dk.nil.base fn).at ⟨T,[]⟩ (.inRegion zDU []::[.code (.seq (.region id ops false) tail)])) base) W:=by
 subst zkJ;have ho:(#[o]:Array aZ)[0]? =some o:=rfl;have cG:dI o (dL #[o] T)=true:=by unfold dI;rw[hg]
 have hb:=Dk.nil.ok;have G0:∀v,cE ⟨T,[]⟩ o.dst v=⟨(cE ⟨T,[]⟩ o.dst v).tmps,[]⟩:=λv=>by cases o.dst<;>rfl
 have hr:iL (#[o]:Array aZ).size=[0]:=rfl;refine Ot rfl rfl (λaY s1=>stepG_region_end) λW1 s1=>?_;refine Ot rfl rfl (λaY s1=>stepG_seq) λW2 s2=>?_;refine Ot rfl rfl (λaY s1=>stepG_region) λW3 s3=>?_;rw[hr];refine Ot rfl rfl (g':=G ((Jj Lk.wait).at ⟨#[.pointer (some ⟨Wg,0,none⟩),aA,aA,aA,aA,aA,aA,aA,aA,aA,aA,aA,aA,aA,aA,aA,aA,aA,aA,aA,aA,aA,aA,aA,aA,aA,aA,aA,aA,aA,aA,aA,aA,aA,aA,aA,aA,aA,aA,aA,aA,aA,aA,aA,aA,aA,aA,aA,aA,aA,aA,aA,aA,aA,aA,aA,aA,aA,aA,aA,aA,aA,aA,aA,aA,aA,aA,aA,aA,aA,aA,aA,aA,aA,aA,aA,aA,aA,aA,aA,aA,aA,aA,aA],[]⟩ [.code (U0 Lk)]) ((Dk.nil.base fn).at ⟨T,[]⟩ (.inRegion #[o] [0]::[.code tail])::base)) (λIi s4=>?_) λIi s4=>?_
 .obtain⟨x1,x2⟩:=zgM (p:=p) (o:=o) hop (ρ:=(bL T []).eval) (λg=>rfl) H.f_wait rfl rfl Ii
  have xF:(#[.tmp s]:Array cN).map (bL T []).eval=#[.pointer (some ⟨Wg,0,none⟩)]:=by simp only[uP,jO,uN,xB];rw[hs]
  rw[xF] at x1;have zc4:=stepG_enter (main:=true) (b:=Dk.nil.base fn) (a:=⟨T,[]⟩) (rest:=[]) (cs:=base) (k:=[.code tail]) ho cG hb x1;rw[zc4];unfold wX;rw[x2,Ct,zDW H]
 .have kf:=H4.triv Lk.tWg Wg τ
  refine zcU (A:=A) (b₀:=Dk.nil.base fn) (a₀:=⟨T,[]⟩) (ops₀:=#[o]) (i₀:=0) (rest₀:=[]) (k₀:=[.code tail]) (cs:=base) (Fin:=Fin) (l:=l) (Wg:=Wg) H q8 kf O3 (λWn _ _ hD d=>?_) Ii ⟨trivial,s4.live (s3.live (s2.live (s1.live nI)))⟩;have:=h Wn d hD;rw[ho];simp only[vN];rw[G0];exact this
end
end Go.Mt
namespace Go.Mt
open Go.Conc Go.Tt
open Go.ConcR (KK wgBlock WgAt stA smA rd wr)
structure qH where
 p:cD
 gs:aP->Bool
 fs:aP->Bool
 ty:aM
 Wg:Nat
 N:Nat
 W:List fL
 D:aE->Prop
 Fin:bE->aE->Prop
 St:Nat->Prop
 W0:aE
 StI:Nat->Prop
 Shun:Loc->Prop
 SS:Nat->Prop
 R0:Pr
 Fz:Nat->Prop
 Wf:aE
 qs:List Nat
def qH.I (d:qH)(Q:Pr->Prop)(chs:List Nat):Pr->cI->aE->Prop:=λR τ W=>zN d.ty d.Wg (IQ d.W0 d.StI d.Shun d.Wg d.SS d.R0 d.Fz d.Wf d.qs chs) R τ W/\Q R
def qH.cx (d:qH)(K:Pr)(Q:Pr->Prop)(chs:List Nat)(base:List dV)(ds:Dk)(pin:List (Nat×aF)):Cx gN:=
 {p:=d.p,gs:=d.gs,fs:=d.fs,ty:=d.ty,Wg:=d.Wg,A:=Dp d.N d.W d.D,Fin:=d.Fin,main:=false,base:=base,ds:=ds,K:=K,St:=d.St,I:=d.I Q chs,pin:=pin}
def Up (Q:Pr->Prop):Prop:=∀R R':Pr,R.le R'->Q R->Q R'
structure qH.Ok (d:qH):Prop where
 st:∀a,d.StI a->d.St a
 ss:∀b,b<d.W0.heap.size->d.SS b
 fz:∀b,d.Fz b->d.SS b
 low:d.W0.heap.size<=d.Wg
 fit:wK (PS d.p d.gs) d.fs
theorem qH.sub_eq (d:qH)(K:Pr)(Q:Pr->Prop)(chs:List Nat)(base:List dV)(ds:Dk)(pin:List (Nat×aF))(m':Fm)(oJ:Pr):
 (d.cx K Q chs base ds pin).sub m' oJ=d.cx K (λR=>Q R/\oJ.le R) chs (fx [] ds m'::base) .nil []:=by
 have e:(λR τ W=>d.I Q chs R τ W/\oJ.le R)=d.I (λR=>Q R/\oJ.le R) chs:=by
  funext R τ W;exact propext and_assoc
 unfold Cx.sub qH.cx;simp only;rw[e]
def Up.and {Q:Pr->Prop}(h:Up Q)(oJ:Pr):Up (λR=>Q R/\oJ.le R):=λR R' hl hq=>⟨h R R' hl hq.1,hq.2.trans hl⟩
section
variable {d:qH}{K:Pr}{Q:Pr->Prop}{chs:List Nat}{base:List dV}{ds:Dk}{pin:List (Nat×aF)}
theorem qH.Ok.iok (H:d.Ok)(hQ:Up Q):fI (d.cx K Q chs base ds pin):=by
 have h0:=zmp (C:={d.cx K Q chs base ds pin with I:=zN d.ty d.Wg (IQ d.W0 d.StI d.Shun d.Wg d.SS d.R0 d.Fz d.Wf d.qs chs)}) rfl H.st H.ss H.fz H.low;exact⟨λR τ W aY h s=>⟨h0.suf R τ W aY h.1 s,h.2⟩,λR τ W R1 W1 h ht hs=>⟨h0.step R τ W R1 W1 h.1 ht hs,hQ R R1 hs.le h.2⟩⟩
structure WS where
 chs:List Nat
 K:Pr
 l:gN
 T:Array aF
 w:aE
def qH.bo (d:qH)(Q:Pr->Prop)(base:List dV)(s:WS)(f:aP)(kk:List dZ)(ret:Bool):Prop:=BO (d.cx s.K Q s.chs base .nil []) s.l ⟨f,s.T,kk,ret⟩ s.w
def CW (d:qH)(B:List Nat)(f:aP)(c:Code)(s:WS)(Φ:oP->WS->Prop):Prop:=
 ∀(Q:Pr->Prop) (base:List dV) (kk:List dZ),Up Q->(∀id∈B,∃k2,exitTo id kk=some k2)->(∀s',s.K.le s'.K->Φ .normal s'->d.bo Q base s' f kk false)->(∀id k2 s',s.K.le s'.K->exitTo id kk=some k2->Φ (.exit id) s'->d.bo Q base s' f k2 false)->
  (∀s' todo,s.K.le s'.K->Φ .ret s'->d.bo Q base s' f todo true)->d.bo Q base s f (.code c::kk) false
def CR (d:qH)(f:aP)(ops:Array aZ)(is:List Nat)(s:WS)(Φ:WS->Prop):Prop:=
 ∀(Q:Pr->Prop) (base:List dV) (kk:List dZ),Up Q->(∀s',s.K.le s'.K->Φ s'->d.bo Q base s' f kk false)->d.bo Q base s f (.inRegion ops is::kk) false
def yG (K:Pr):K.le K:=λ_ _ x=>x
def wZ {K K' zv0:Pr}(h:K.le K')(h':K'.le zv0):K.le zv0:=λ_ _ x=>h' _ _ (h _ _ x)
variable {f:aP}{s:WS}{Φ Ψ:oP->WS->Prop}{B:List Nat}{c:Code}
def CW.skip (H:d.Ok)(h:Φ .normal s):CW d B f .skip s Φ:=λQ base kk hQ hB h1 h2 h3=>BO.skip (H.iok hQ) (h1 s (yG _) h)
def CW.ret (H:d.Ok)(h:Φ .ret s):CW d B f .ret s Φ:=λQ base kk hQ hB h1 h2 h3=>BO.ret (H.iok hQ) (h3 s _ (yG _) h)
def CW.seq (H:d.Ok){a b:Code}(h:CW d B f a s (λe s'=>match e with| .normal=>CW d B f b s' Φ|e=>Φ e s')):CW d B f (.seq a b) s Φ:=λQ base kk hQ hB h1 h2 h3=>
 BO.seq (H.iok hQ) (h Q base (.code b::kk) hQ (λid hid=>hB id hid) (λs' l x=>x Q base kk hQ hB (λs2 l2=>h1 s2 (wZ l l2)) (λid k2 s2 l2=>h2 id k2 s2 (wZ l l2)) (λs2 todo l2=>h3 s2 todo (wZ l l2)))
  (λid k2 s' l e x=>h2 id k2 s' l e x) (λs' todo l x=>h3 s' todo l x))
def CW.cond (H:d.Ok){x:cN}{a b:Code}{t:Bool}(hx:eD d.fs x=true)(hc:(bL s.T []).eval x=.bool t)(h:CW d B f (if t then a else b) s Φ):CW d B f (.cond x a b) s Φ:=λQ base kk hQ hB h1 h2 h3=>
 BO.cond (H.iok hQ) hx hc (h Q base kk hQ hB h1 h2 h3)
theorem CW.exit (H:d.Ok){id:Nat}(oT:id∈B)(h:Φ (.exit id) s):CW d B f (.exit id) s Φ:=λQ base kk hQ hB h1 h2 h3=>by
 obtain⟨k2,e⟩:=hB id oT;exact BO.exit (H.iok hQ) e (h2 id k2 s (yG _) e h)
theorem CW.block (H:d.Ok){id:Nat}(h:CW d (id::B) f c s (λe s'=>match e with| .normal=>Φ .normal s'| .exit i=>if i=id then Φ .normal s' else Φ (.exit i) s'|e=>Φ e s')):CW d B f (.block id c) s Φ:=λQ base kk hQ hB h1 h2 h3=>by
 refine BO.block (H.iok hQ) (h Q base (.inBlock id::kk) hQ (λi hi=>?_) (λs' l x=>BO.inBlock (H.iok hQ) (h1 s' l x)) (λi k2 s' l e x=>?_) (λs' todo l x=>h3 s' todo l x))
 .by_cases e:i=id
  .subst e;exact⟨kk,by simp[exitTo]⟩
  .rcases mB.1 hi with hi|hi
   .exact absurd hi e
   .obtain⟨k2,h2⟩:=hB i hi
    exact⟨k2,by simp only[exitTo];rw[if_neg (by simpa using Ne.symm e)];exact h2⟩
 .simp only[exitTo] at e
  grind
theorem CW.loop (H:d.Ok)(Inv:Nat->WS->Prop)(vV:∀n s,Inv n s->CW d B f c s (λe s'=>match e with| .normal=>∃n',n'<n/\Inv n' s'|e=>Φ e s')){n:Nat}(h0:Inv n s):CW d B f (.loop c) s Φ:=λQ base kk hQ hB h1 h2 h3=>by
 refine BO.loop (H.iok hQ) ?_;have key:∀n s2,s.K.le s2.K->Inv n s2->d.bo Q base s2 f (.code c:: .inLoop c::kk) false:=by
  intro n
  induction n using Nat.strongRecOn with
  |ind n ih=>
   intro s2 hl hi;refine vV n s2 hi Q base (.inLoop c::kk) hQ (λid hid=>hB id hid) (λs' l x=>?_) (λid k2 s' l e x=>h2 id k2 s' (wZ hl l) e x) (λs' todo l x=>h3 s' todo (wZ hl l) x);obtain⟨n',aT,lS⟩:=x;exact BO.inLoop (H.iok hQ) (ih n' aT s' (wZ hl l) lS)
 exact key n s (yG _) h0
def CW.piece (H:d.Ok)(hc:qD d.p ⟨d.fs,d.gs,true⟩ c=true)(hf:xA d.p f)(vA:∀T,Code.wp d.p c (λe a' w'=>e=.normal/\Φ .normal {s with T:=a'.tmps,w:=w'}) ⟨s.T,[]⟩ (Tt.tp s.w T 0)):CW d B f c s Φ:=λQ base kk hQ hB h1 h2 h3=>
 BO.piece H.fit (H.iok hQ) hc hf (zB5 c hc) λT=>Code.wp_mono (λe a' w' h=>⟨h.1,h1 {s with T:=a'.tmps,w:=w'} (yG _) h.2⟩) (vA T)
def CW.reg (H:d.Ok){id:Nat}{ops:Array aZ}(is:List Nat)(hr:iL ops.size=is)(h:CR d f ops is s (λs'=>Φ .normal s')):CW d B f (.region id ops false) s Φ:=λQ base kk hQ hB h1 h2 h3=>
 BO.regs (H.iok hQ) is hr (h Q base kk hQ (λs' l x=>h1 s' l x))
section
variable {ops:Array aZ}{i:Nat}{rest is:List Nat}{Φ:WS->Prop}{o:aZ}
def CR.nil (H:d.Ok)(h:Φ s):CR d f ops [] s Φ:=λQ base kk hQ h1=>BO.regEnd (H.iok hQ) (h1 s (yG _) h)
theorem CR.op (H:d.Ok)(ho:ops[i]? =some o)(cG:dI o (dL ops s.T)=true)(bV:sO d.p ⟨d.fs,d.gs,true⟩ o.op=true)
 (hx:∀T,∃v w',((aO (bL s.T []).eval o).run d.p (Tt.tp s.w T 0)=.ok (.value v) w'\/((aO (bL s.T []).eval o).run d.p (Tt.tp s.w T 0)=.ok .skip w'/\v=aA))/\CR d f ops rest {s with T:=(cE ⟨s.T,[]⟩ o.dst v).tmps,w:=w'} Φ):CR d f ops (i::rest) s Φ:=λQ base kk hQ h1=>
 BO.op H.fit (H.iok hQ) ho cG bV (λ_ _=>nD) λT=>by
  obtain⟨v,w',e,h⟩:=hx T;exact⟨v,w',e,h Q base kk hQ h1⟩
structure CF (d:qH)(g:aP)(args:Array aF)(K:Pr)(l:gN)(w:aE)(Ψ:Pr->gN->aF->aE->Prop):Prop where
 ex:∃fnf cf,d.p.funcs[g]? =some fnf/\(fnf.name== "runtime.NumGoroutine")=false/\fnf.body=some cf/\Hf fnf.results.toList/\
  CW d [] g cf ⟨[],K,l,args++Array.replicate (fnf.ntmps-args.size) aA,w⟩ (λe s'=>(e=.normal\/e=.ret)/\s'.chs=[]/\∃v,(oO fnf.results.toList s'.T).run d.p s'.w=.ok v s'.w/\Ψ s'.K s'.l v s'.w)
theorem CR.call (H:d.Ok){g:aP}{args:Array cN}{jW:Array aM}{Ψ:Pr->gN->aF->aE->Prop}(ho:ops[i]? =some o)(cG:dI o (dL ops s.T)=true)(hop:o.op=.call ⟨.value (.func g),args,jW⟩)(xF:args.all (eD d.fs)=true)(uC:s.chs=[])
 (hc:CF d g (args.map (bL s.T []).eval) s.K s.l s.w Ψ) (hk:∀K' l' v w',s.K.le K'->Ψ K' l' v w'->CR d f ops rest ⟨[],K',l',(cE ⟨s.T,[]⟩ o.dst v).tmps,w'⟩ Φ):CR d f ops (i::rest) s Φ:=λQ base kk hQ h1=>by
 obtain⟨chs,K,l,T,w⟩:=s;simp only at*;subst uC;obtain⟨fnf,cf,g1,g2,g3,g4,g5⟩:=hc.ex;refine BO.callN (H.iok hQ) ho cG hop (Callee.static _ _) xF g1 g2 g3 g4 λoJ m' hm=>?_;rw[qH.sub_eq];have fin:∀(s':WS) todo,K.le s'.K->(s'.chs=[]/\∃v,(oO fnf.results.toList s'.T).run d.p s'.w=.ok v s'.w/\Ψ s'.K s'.l v s'.w)->d.bo (λR=>Q R/\oJ.le R) (fx [] .nil m'::base) s' g todo true:=λs' todo hl ⟨h2,v,h3,h4⟩=>by
  obtain⟨zCK,K',l',T',w'⟩:=s';simp only at*;subst h2;unfold qH.bo;simp only;rw[<-qH.sub_eq];refine BO.retN (C:=d.cx K' Q [] base .nil []) (H.iok hQ) (hm.upK hl _) rfl rfl (λ_ _=>nD) g1 h3 ?_;have:=hk K' l' v w' hl h4 Q base kk hQ (λs' l2 x=>h1 s' (wZ hl l2) x);unfold qH.bo at this;simp only[Fm.fin,ho,vN]
  cases hd:o.dst with
  |none=>rw[hd] at this;exact this
  |some s=>rw[hd] at this;exact this
 have e:(#[]:Array aF)++args.map (bL T []).eval++ #[]=args.map (bL T []).eval:=aQ;rw[e];refine g5 (λR=>Q R/\oJ.le R) (fx [] .nil m'::base) [] (hQ.and oJ) (λ_ h=>by cases h) (λs' hl x=>BO.fall (H.iok (hQ.and oJ)) (fin s' [] hl x.2)) (λid k2 s' hl ee x=>by cases ee) (λs' todo hl x=>fin s' todo hl x.2)
variable {e:aM}{dir:Tz}{ie:wG}
theorem CR.make (H:d.Ok){t:aM}(ho:ops[i]? =some o)(cG:dI o (dL ops s.T)=true)(hop:o.op=.makeChan t (.const (.int .i64 0)))(Sm:d.p.underlying t=some (.chan dir e))(jZ:d.p.info? e=some ie)(uC:s.chs=[])
 (h:∀c,CR d f ops rest ⟨[c],s.K.add s.w.heap.size c,s.l,(cE ⟨s.T,[]⟩ o.dst (.chan (some s.w.heap.size))).tmps,s.w.alloc pK⟩ Φ):CR d f ops (i::rest) s Φ:=λQ base kk hQ h1=>by
 obtain⟨chs,K,l,T,w⟩:=s;simp only at*;subst uC;refine BO.makeK (H.iok hQ) ho cG hop Sm jZ (λ_ _=>nD) (I':=λc=>d.I Q [c]) (λR τ W hi ht aT=>?_) λc=>h c Q base kk hQ (λs' l2 x=>h1 s' (wZ (Pr.le_add _ _ _) l2) x);obtain⟨⟨hi,hl⟩,hq⟩:=hi;refine⟨⟨zxe hi aT,?_⟩,hq⟩;obtain⟨st,sm,hx⟩:=hl;have mJ:=hx;exact⟨st,sm,(Bp (eM.1 mJ).1).trans mJ⟩
variable {x:cN}{anz:Int}
theorem CR.ask (H:d.Ok){y:cN}{k q g a ga:Nat}{kd cl:Int}(ho:ops[i]? =some o)(cG:dI o (dL ops s.T)=true)(hop:o.op=.send x y)(sU:eD d.fs x=true)(Fe:eD d.fs y=true)(hl:s.l=.wk d.qs k)(hW:d.W[k]? =some (.ask q kd cl anz))(uC:s.chs=[a])
 (hx:(bL s.T []).eval x=.chan (some g)) (hg:s.K g (qa d.qs q)) (hy:(bL s.T []).eval y=.agg #[.int .i64 kd,.int .i64 cl,.chan (some ga)]) (ha:s.K ga a)
 (h:CR d f ops rest ⟨[],s.K,.wr d.qs k a,(cE ⟨s.T,[]⟩ o.dst aA).tmps,s.w⟩ Φ):CR d f ops (i::rest) s Φ:=λQ base kk hQ h1=>by
 obtain⟨chs,K,l,T,w⟩:=s;simp only at*;subst uC hl;refine BO.sendP (C:=d.cx K Q [a] base .nil []) rfl (H.iok hQ) ho cG hop sU hx hg Fe (λ_ _=>nD) (c:=qa d.qs q) (okv:=λv=>∃a,v=quV kd cl a) (pub:=Q2) (nx:=Yn d.qs k) (ps:=[a]) (I':=d.I Q []) ?_ (λR W v' hw hv=>?_) (λR τ W hi=>?_) (h Q base kk hQ h1)
 .show eU d.N d.W (.wk d.qs k)=_
  simp only[eU,hW]
 .rw[hy] at hv
  obtain rfl:v'=quV kd cl a:=by
   cases hv with
   |agg e1 e2=>
    rename_i cC;obtain⟨l'⟩:=cC
    match l',e1 with
    |[v0,v1,v2],_=>
     have h0:=e2 0 _ v0 rfl rfl;have h1:=e2 1 _ v1 rfl rfl;have h2:=e2 2 _ v2 rfl rfl;have h3:=Wv hw ha h2;cases h0;cases h1;subst h3;rfl
  exact⟨⟨a,rfl⟩,rfl,rfl⟩
 .obtain⟨⟨hi,hl⟩,hq⟩:=hi
  obtain⟨k1,k2⟩:=iq_cut hi;exact⟨k1,⟨k2,hl⟩,hq⟩
theorem CR.ans (H:d.Ok){ct:aM}{k q a ga:Nat}{kd cl:Int}(ho:ops[i]? =some o)(cG:dI o (dL ops s.T)=true)(hop:o.op=.recv ct x false)(Gh:d.p.underlying ct=some (.chan dir e))(jZ:d.p.info? e=some ie)(hz:ie.zero=some (.int .i64 0))
 (sU:eD d.fs x=true) (hl:s.l=.wr d.qs k a) (hW:d.W[k]? =some (.ask q kd cl anz)) (uC:s.chs=[]) (hx:(bL s.T []).eval x=.chan (some ga)) (ha:s.K ga a)
 (h:CR d f ops rest ⟨[],s.K,.wk d.qs (k+1),(cE ⟨s.T,[]⟩ o.dst (.int .i64 anz)).tmps,s.w⟩ Φ):CR d f ops (i::rest) s Φ:=λQ base kk hQ h1=>by
 obtain⟨chs,K,l,T,w⟩:=s;simp only at*;subst uC hl;refine BO.recv (C:=d.cx K Q [] base .nil []) rfl (H.iok hQ) ho cG hop Gh jZ hz (λ_=>.int _ _) sU hx ha (λ_ _=>nD) (okv:=Yh d.W k) (nx:=λ_=>.wk d.qs (k+1)) (sh:=.oD) rfl (λv hv=>?_) (λhc=>hc.elim);unfold Yh at hv;rw[hW] at hv;simp only at hv;subst hv;exact⟨.int .i64 anz,λ_=>.int _ _,h Q base kk hQ h1⟩
theorem CR.shut (H:d.Ok){tx:Tmp}{jW:Array aM}{k q g:Nat}{fnf:Func}(ho:ops[i]? =some o)(cG:dI o (dL ops s.T)=true)(hop:o.op=.call {callee:=.builtin .close,args:=#[.tmp tx],argTypes:=jW})(hf:d.p.funcs[f]? =some fnf)(E8:fnf.norace=false)
 (hl:s.l=.wk d.qs k) (hW:d.W[k]? =some (.shut q)) (hq:q<d.qs.length) (uC:s.chs=[]) (hx:(bL s.T []).eval (.tmp tx)=.chan (some g)) (hg:s.K g (qa d.qs q))
 (h:CR d f ops rest ⟨[],s.K,.wk d.qs (k+1),(cE ⟨s.T,[]⟩ o.dst (.tuple #[])).tmps,s.w⟩ Φ):CR d f ops (i::rest) s Φ:=λQ base kk hQ h1=>by
 obtain⟨chs,K,l,T,w⟩:=s;simp only at*;subst uC hl;have hm:qa d.qs q∈d.qs:=by
  unfold qa;rw[List.getD_eq_getElem?_getD,oQ hq];exact zsy hq
 refine BO.close (C:=d.cx K Q [] base .nil []) rfl (H.iok hQ) ho cG hop hx hg (λ_ _=>nD) (c:=qa d.qs q) (nx:=.wk d.qs (k+1)) ?_ hf E8 (λR τ W hi=>?_) (h Q base kk hQ h1)
 .show eU d.N d.W (.wk d.qs k)=_
  simp only[eU,hW]
 .obtain⟨⟨hi,hl⟩,Kr⟩:=hi
  obtain⟨p1,p2,p3,p4,p5⟩:=hi.pass _ hm;refine⟨p1,p2,p3,λs r=>⟨⟨zDy hi hm s r H.ss H.fz,?_⟩,Kr⟩⟩;obtain⟨st,sm,hx⟩:=hl;have mJ:=hx;refine⟨st,sm,?_⟩;show(W.setChan _ _ _ _ _ _ _).heap[d.Wg]? =_;simp only[Mp,tY p5];exact mJ
end
end
end Go.Mt
