/-
  Part 4 of what stands behind the last text.
-/
import Derived.Lib.SlicesDelete
import Derived.Test.YtfcjiloojkjaeaaGreatDoorShelf
import Derived.Test.YtfcjiloojkjaeaaGreatDoorRetFPq3
set_option linter.all false
set_option maxHeartbeats 16000000
set_option maxRecDepth 100000
open Array renaming getElem?_eq_some_iff→eB,getElem?_mapIdx→My,getElem?_setIfInBounds_ne→tL,getElem?_toList→C1,getElem_map→zkY,getElem_range→zhV,getElem_toList→zjK,length_toList→Dy,toList_modify→zqO
open Bool renaming and_eq_true→jF
open Go renaming Act→vN,Addr→bC,Calls→gH,ChanDir→Rq,Deferred→Gg,Exit→oF,Frame→dR,FuncId→aQ,Goroutine→bD,Item→dX,MapEntry→pJ,Oper→aZ,Operand→cK,Program→bZ,TypeId→aM,TypeInfo→wE,Value→aF,World→aE,execOp→aO,heap_alloc_new→gP,info_parts→Ch,run_append_room→zsc,run_storeCells_at→zx9,run_underlying→xE,setRow_heap→Ls,size_zeroCells→Vw,undef→aA,wpList_plain→Su,yielded→dH
open Go.Act renaming eval→wZ,mk→bJ,put→cC
open Go.Addr renaming add_lit→Lr
open Go.Builtin renaming append_→xV,clear_→Rz,copy_→Dq,delete_→Lu,zeroCells→qJ
open Go.Code renaming region→E6
open Go.Conc renaming base→Jx,enter_at→zxN,listed→wQ,seen_none→Ax,stepG_value→zhR
open Go.ConcR.Gen renaming body_add→N7,body_wait→Tx
open Go.Deferred renaming ofValue→Db
open Go.Frame renaming enter→Hm
open Go.Instr renaming checkKey→Hy,findAsking→Lo,findKey→Ly,findNow→Hl,keyThatStays→Px,lookup→zZ,makeFunc→zuM,mapUpdate→G5,sameBits→zbm,sameNow→wP
open Go.MapKept renaming run_getObj_map→Vm,run_setObj_map→X2
open Go.MemAct renaming ofEvent→jN,touch?→sJ
open Go.Op renaming mapUpdate→zw1,maxDepth→Sn
open Go.Oper renaming wp→C2
open Go.Proofs.Tryz renaming checked→wA,func114→zpX,func117→zn8,func119→zyp,ntmps114→zxo,ntmps117→zvn,ntmps119→zrJ,prog→aK,underlying38→Xz,underlying66→zx8,underlying69→zh1
open Go.Region renaming wanted→dE
open Go.Result renaming andThen→vR,andThen_ok→Es,ok→wW
open Go.RowKit renaming Below→cF
open Go.RowKit.Below renaming heap_alloc→qE,heap_setCell→dU,refl→fW
open Go.Sem renaming getObj→zwU,run→bL,run_bind→Fl,run_pure→Ic
open Go.Value renaming agg→zhZ,cells→Ys,slice→Q2
open Go.World renaming cell?_of_block→Cc,setChan→Kw,size_setCell→xA
open List renaming any_eq_true→Wh,append_assoc→Jz,append_nil→Nv,countP_cons→zcH,drop_drop→zu6,drop_eq_getElem_cons→zeY,filter_append→Pl,filter_eq_nil_iff→zvl,filter_eq_self→zeu,find?_eq_none→zeL,find?_some→zlM,foldl_cons→Oq,getD_cons_succ→Ee,getD_cons_zero→Du,getElem?_drop→Zk,getElem?_eq_getElem→mV,getElem?_eq_some_iff→kP,getElem?_set→zbo,getElem?_take→Z0,getElem_mem→zrU,length_append→jH,length_drop→yG,length_eq_zero_iff→zt3,length_modify→Lt,length_set→zhN,length_take→sE,map_append→N4,map_cons→gT,map_nil→tW,map_toArray→vD,mem_append→K3,mem_cons→mD,mem_cons_of_mem→Sd,mem_filter→L8,mem_iff_getElem→Lw,mem_iff_getElem?→Gq,mem_map→Ug,mem_of_find?_eq_some→zlK,mem_of_getElem?→fN,mem_of_mem_drop→zaz,mem_range→El,mem_singleton→yX,nodup_append→znf,nodup_cons→C6,nodup_nil→X7,not_mem_nil→nE,range→iQ,setIfInBounds_toArray→fO,set_append_left→zuL,set_cons_succ→dQ,set_cons_zero→dP,size_toArray→B6,take_add_one→Ia,take_append_drop→zxq,take_append_of_le_length→F5,take_of_length_le→zP,take_take→Qt
open Nat renaming add_mul→Zu,add_zero→Q3,le_max_left→zwt,le_refl→bF,le_trans→eH,lt_irrefl→Ij,lt_of_lt_of_le→jO,min_self→zlw,mod_two_eq_zero_or_one→zwX,mul_le_mul_right→Dg,mul_one→zxJ,zero_le→lP
open Option renaming bind_some→uY
open Option.some renaming inj→cO,injEq→jP
open Prod renaming fst→uN,snd→zuj
noncomputable section
namespace Go
theorem cS{P:Prop}(h:P:=by unfold parts;simp[e]):P:=h
theorem zhI{P:Prop}(h:P:=by simp[Act.eval,Act.put];first|exact⟨by simpa using hA,by omega⟩|simpa[zea] using hA|(simp at hA;simp[hA])):P:=h
theorem zhp{P:Prop}(h:P:=by simp[Act.eval,Act.put]):P:=h
theorem zsr{P:Prop}(h:P:=by rw[jH,l1,vE];have:=Zu i (n-j) 1;omega):P:=h
theorem zod{P:Prop}(h:P:=by rw[jH,l1,vE];have:=Zu i (n-j) 2;omega):P:=h
theorem zet{P:Prop}(h:P:=by unfold parts;simp):P:=h
end Go
namespace Go.Proofs.YtfcjiloojkjaeaaGreatDoor
open Go.RowKit
structure jA (b:bY):Prop where
 opn:∀(i j:Nat) (d e:bR),b.recs[i]? =some d->b.recs[j]? =some e->eD d=true->eD e=true->(d.c=e.c\/d.l=e.l\/(d.o=e.o/\0<d.o))->i=j
 last:∀(i j:Nat) (d e:bR),b.recs[i]? =some d->eD d=true->b.recs[j]? =some e->e.c=d.c->j<=i
 wt:∀x∈b.wait,∃(i:Nat) (d:bR),b.recs[i]? =some d/\eD d=true/\d.c=x.c/\d.o=0
 bk:(b.back.map bE.c).Nodup
 bo:∀x∈b.back,hY b.recs x.c=none
variable {rs:List bR}{c:Int}
theorem zh9 (h:∀(i:Nat) (d:bR),rs[i]? =some d->eD d=true->d.c≠c):hY rs c=none:=by
 cases ho:hY rs c with
 |none=>rfl
 |some i=>
  obtain⟨d,h1,h2,h3⟩:=zA ho
  grind
theorem Kn (h:hY rs c=none):∀(i:Nat) (d:bR),rs[i]? =some d->eD d=true->d.c≠c:=by
 intro i d hd ho e;have:(hY rs c).isSome=true:=by
  rw[zcC,Wh];exact⟨d,fN hd,by unfold Bf;rw[ho,e];simp⟩
 simp_all
variable {b:bY}{i:Nat}{d:bR}
theorem jA.at_ (h:jA b)(hd:b.recs[i]? =some d)(ho:eD d=true):hY b.recs d.c=some i:=by
 cases e:hY b.recs d.c with
 |none=>exact absurd rfl (Kn e i d hd ho)
 |some j=>
  obtain⟨d',h1,h2,h3⟩:=zA e;rw[h.opn j i d' d h1 hd h3 ho (.inl h2)]
theorem Ln {r:bR}(h:(rs++[r])[i]? =some d):(i<rs.length/\rs[i]? =some d)\/(i=rs.length/\d=r):=by grind
theorem zhy {r:bR}(h:rs[i]? =some d):(rs++[r])[i]? =some d:=by grind
variable {f:bR->bR}
theorem Gy {j:Nat}{z:bR}(h:(rs.modify i f)[j]? =some z):∃d,rs[j]? =some d/\((i=j/\z=f d)\/(i≠j/\z=d)):=by grind
theorem Yn {j:Nat}(h:rs[j]? =some d)(aU:i≠j):(rs.modify i f)[j]? =some d:=by simp_all
theorem zgZ (h:rs[i]? =some d):(rs.modify i f)[i]? =some (f d):=by simp_all
theorem zsQ {xs:List bE}(h:(uC xs c).isSome=false):∀x∈xs,x.c≠c:=by
 unfold uC at h;simp_all
variable {o:fQ}{l:Int}
theorem zkS (h:l∈oT o rs):∀(i:Nat) (d:bR),rs[i]? =some d->eD d=true->d.l≠l:=by
 intro i d hd ho e;unfold oT yH at h;have h2:=(L8.1 h).2;have:rP rs l=true:=by unfold rP;exact Wh.2 ⟨d,fN hd,by simp[e,ho]⟩
 simp_all
variable {op:Int}
theorem zhA (h1:∀d∈rs,1<=d.c)(h:¬0<dO rs op):∀(i:Nat) (d:bR),rs[i]? =some d->eD d=true->d.o≠op:=by
 intro i d hd ho e;unfold dO at h
 cases hf:rs.find? (xJ op) with
 |none=>
  have:=zeL.1 hf d (fN hd);unfold xJ at this;simp_all
 |some d'=>grind
theorem znx (hu:∀(i j:Nat) (d e:bR),rs[i]? =some d->rs[j]? =some e->eD d=true->eD e=true->d.o=op->e.o=op->i=j)(hd:rs[i]? =some d)(ho:eD d=true)(he:d.o=op):dO rs op=d.c:=by
 unfold dO
 cases hf:rs.find? (xJ op) with
 |none=>
  have:=zeL.1 hf d (fN hd);unfold xJ at this;simp_all
 |some d'=>
  obtain⟨j,hj⟩:=Gq.1 (zlK hf);have hp:=zlM hf;unfold xJ at hp
  grind
theorem zrN (h:∀(i:Nat) (d:bR),rs[i]? =some d->eD d=true->d.o≠op):dO rs op=0:=by
 unfold dO
 cases hf:rs.find? (xJ op) with
 |none=>rfl
 |some d'=>
  obtain⟨j,hj⟩:=Gq.1 (zlK hf);have hp:=zlM hf;unfold xJ at hp
  grind
theorem zqu (rs:List bR)(op:Int):(∃(i:Nat) (d:bR),rs[i]? =some d/\eD d=true/\d.o=op/\dO rs op=d.c)\/((∀(i:Nat) (d:bR),rs[i]? =some d->eD d=true->d.o≠op)/\dO rs op=0):=by
 unfold dO
 cases hf:rs.find? (xJ op) with
 |none=>
  refine .inr ⟨λi d hd ho e=>?_,rfl⟩;have:=zeL.1 hf d (fN hd);unfold xJ at this;simp_all
 |some d'=>
  obtain⟨j,hj⟩:=Gq.1 (zlK hf);have hp:=zlM hf;unfold xJ at hp
  grind
variable {hh:Int}{wait back:List bE}
theorem jA.more (h:jA b){o:Int}{tt:Int}{clk:Int}(hc:hY b.recs c=none)(hl:∀(i:Nat) (d:bR),b.recs[i]? =some d->eD d=true->d.l≠l)(ho:o=0\/∀(i:Nat) (d:bR),b.recs[i]? =some d->eD d=true->d.o≠o)
  (hw:∀x∈wait,x∈b.wait\/(x.c=c/\o=0)) (hb:(back.map bE.c).Nodup) (rL:∀x∈back,x∈b.back/\x.c≠c):jA {b with recs:=b.recs++[⟨c,l,o,clk,hh,tt,eJ⟩],wait:=wait,back:=back}:=by
 have hop:eD ⟨c,l,o,clk,hh,tt,eJ⟩=true:=by unfold eD;rw[zcT];rfl
 refine⟨λi j d e hi hj hd he hx=>?_,λi j d e hi hd hj hx=>?_,λx hx=>?_,hb,λx hx=>?_⟩
 .rcases Ln hi with⟨Af,M3⟩|⟨rfl,rfl⟩<;>rcases Ln hj with⟨Kf,Vf⟩|⟨rfl,rfl⟩
  .exact h.opn i j d e M3 Vf hd he hx
  .exfalso
   rcases hx with hx|hx|⟨hx,h0⟩
   .exact Kn hc i d M3 hd hx
   .exact hl i d M3 hd hx
   grind
  .exfalso
   rcases hx with hx|hx|⟨hx,h0⟩
   .exact Kn hc j e Vf he hx.symm
   .grind
   grind
  .rfl
 .rcases Ln hi with⟨Af,M3⟩|⟨rfl,rfl⟩<;>rcases Ln hj with⟨Kf,Vf⟩|⟨rfl,rfl⟩
  .exact h.last i j d e M3 hd Vf hx
  .exact absurd hx.symm (Kn hc i d M3 hd)
  .omega
  .exact bF _
 .rcases hw x hx with hx|⟨hx,h0⟩
  .obtain⟨i,d,h1,h2⟩:=h.wt x hx
   exact⟨i,d,zhy h1,h2⟩
  .exact⟨b.recs.length,_,by simp_all,hop,hx.symm,h0⟩
 .obtain⟨h1,h2⟩:=rL x hx
  refine zh9 λi d hd zX=>?_;rcases Ln hd with⟨_,h3⟩|⟨_,rfl⟩
  .exact Kn (h.bo x h1) i d h3 zX
  grind
theorem jA.ended (h:jA b)(hd:b.recs[i]? =some d)(zec:eD d=true){e:ByteArray}(he:(e.toList==[111,112,101,110])=false)(hw:∀x∈wait,x∈b.wait/\x.c≠d.c)(hb:(back.map bE.c).Nodup)(rL:∀x∈back,x∈b.back\/x.c=d.c):
 jA {b with recs:=Dj b i e,wait:=wait,back:=back}:=by
 have mU:∀z:bR,eD {z with t:=b.clk,e:=e}=false:=λz=>he;have old:∀(j:Nat) (z:bR),(Dj b i e)[j]? =some z->eD z=true->i≠j/\b.recs[j]? =some z:=λj z hj hz=>by
  obtain⟨d',h1,⟨_,rfl⟩|⟨h2,rfl⟩⟩:=Gy hj
  .simp_all
  .exact⟨h2,h1⟩
 refine⟨λp q x y hp hq hx hy hh=>?_,λp q x y hp hx hq hh=>?_,λx hx=>?_,hb,λx hx=>?_⟩
 .exact h.opn p q x y (old p x hp hx).2 (old q y hq hy).2 hx hy hh
 .obtain⟨d',h1,h2⟩:=Gy hq
  refine h.last p q x d' (old p x hp hx).2 hx h1 ?_
  grind
 .obtain⟨h1,h2⟩:=hw x hx
  obtain⟨j,z,h3,h4,h5,h6⟩:=h.wt x h1;have aU:i≠j:=λe=>by grind
  exact⟨j,z,Yn h3 aU,h4,h5,h6⟩
 .refine zh9 λj z hj hz=>?_
  obtain⟨h1,h2⟩:=old j z hj hz;rcases rL x hx with h3|h3
  .exact Kn (h.bo x h3) j z h2 hz
  .rw[h3]
   exact λe=>h1 (h.opn i j d z hd h2 zec hz (.inl e.symm))
theorem jA.heard (h:jA b)(hd:b.recs[i]? =some d)(zec:eD d=true)(hop:∀(j:Nat) (z:bR),b.recs[j]? =some z->eD z=true->z.o≠op)(hw:∀x∈wait,x∈b.wait/\x.c≠d.c):
 jA {b with recs:=b.recs.modify i λd=>{d with o:=op,h:=hh},wait:=wait}:=by
 have yV:∀z:bR,eD {z with o:=op,h:=hh}=eD z:=λz=>rfl;refine⟨λp q x y hp hq hx hy he=>?_,λp q x y hp hx hq he=>?_,λx hx=>?_,h.bk,λx hx=>?_⟩
 .obtain⟨u,h1,⟨e1,rfl⟩|⟨e1,rfl⟩⟩:=Gy hp<;>obtain⟨v,h2,⟨e2,rfl⟩|⟨e2,rfl⟩⟩:=Gy hq
  .omega
  .refine h.opn p q u y h1 h2 hx hy ?_
   grind
  .refine h.opn p q x v h1 h2 hx hy ?_
   grind
  .exact h.opn p q x y h1 h2 hx hy he
 .obtain⟨u,h1,e1⟩:=Gy hp
  obtain⟨v,h2,e2⟩:=Gy hq;have hu:eD u=true/\x.c=u.c:=by grind
  have hv:y.c=v.c:=by grind
  exact h.last p q u v h1 hu.1 h2 (by rw[<-hv,<-hu.2];exact he)
 .obtain⟨h1,h2⟩:=hw x hx
  obtain⟨j,z,h3,h4,h5,h6⟩:=h.wt x h1;have aU:i≠j:=λe=>by grind
  exact⟨j,z,Yn h3 aU,h4,h5,h6⟩
 .refine zh9 λj z hj hz=>?_
  obtain⟨u,h1,e1⟩:=Gy hj;rcases e1 with⟨_,rfl⟩|⟨_,rfl⟩
  .exact Kn (h.bo x hx) j u h1 hz
  .exact Kn (h.bo x hx) j z h1 hz
variable {bt:bY×List UInt8}
def jA.log (h:jA bt.1):jA (Et bt):=⟨h.opn,h.last,h.wt,h.bk,h.bo⟩
theorem jA.zero (o:fQ):jA (lR o):=⟨λi j d e h=>by simp[lR] at h,λi j d e h=>by simp[lR] at h,λx hx=>by simp[lR] at hx,X7,λx hx=>by simp[lR] at hx⟩
theorem zfE:(Dr.toList==[111,112,101,110])=false:=by decide+kernel
theorem zls:(zV.toList==[111,112,101,110])=false:=by decide+kernel
theorem zg6:(vS.toList==[111,112,101,110])=false:=by decide+kernel
theorem jA.rings (h:jA b)(c:bE):jA (pE b c).1:=by
 unfold pE;split
 .exact h
 .rename_i hk
  simp only[Bool.or_eq_true,not_or,Bool.not_eq_true] at hk;have hc:hY b.recs c.c=none:=Option.isSome_eq_false_iff.1 hk.1|>Option.isNone_iff_eq_none.1;have hb:=zsQ hk.2;split
  .refine⟨h.opn,h.last,h.wt,?_,λx hx=>?_⟩
   .show((b.back++[c]).map bE.c).Nodup
    rw[N4];refine znf.2 ⟨h.bk,aN,λa ha e he=>?_⟩
    grind
   .rcases K3.1 hx with hx|hx
    .exact h.bo x hx
    simp_all
  .rename_i l ls hf
   exact h.more (l:=l) hc (zkS Y7) (.inl rfl) (wait:=uA b.wait c) (λx hx=>by
    have:=(zc0 b.wait c).mem_iff.1 hx;rcases mD.1 this with rfl|h'
    .exact .inr ⟨rfl,rfl⟩
    .exact .inl h') h.bk (λx hx=>⟨hx,hb x hx⟩)
theorem jA.answers (h:jA b)(hr:RInv b)(op:Int):jA (nH b op).1:=by
 unfold nH;split
 .exact h
 .rename_i ht
  have hn:=zhA (λd hd=>(hr.recB d hd).1) ht;split
  .exact h
  .rename_i c cs hw
   split
   .exact h
   .rename_i i hi
    obtain⟨d,h1,h2,h3⟩:=zA hi;exact h.heard h1 h3 hn (wait:=dS b.wait c.c) λx hx=>⟨(Ep hx).1,by rw[h2];exact(Ep hx).2⟩
theorem jA.returns (h:jA b)(hr:RInv b)(op:Int):jA (l8 b op).1:=by
 unfold l8;split
 .exact h
 .rename_i ht
  have hn:=zhA (λd hd=>(hr.recB d hd).1) ht;split
  .exact h
  .rename_i c cs hw
   split
   .exact h
   .rename_i l ls hf
    exact h.more (l:=l) (h.bo c (by rw[hw];simp)) (zkS Y7) (.inr hn) (wait:=b.wait) (back:=dS b.back c.c) (λx hx=>.inl hx) (zht h.bk) (λx hx=>Ep hx)
theorem jA.hangs (h:jA b)(c:Int):jA (mH b c).1:=by
 unfold mH;split
 .rename_i i hi
  obtain⟨d,h1,h2,h3⟩:=zA hi;have hw:∀x∈dS b.wait (He b.recs i),x∈b.wait/\x.c≠d.c:=λx hx=>⟨(Ep hx).1,by rw[<-Tm h1];exact(Ep hx).2⟩;split
  .exact h.ended h1 h3 zfE hw h.bk λx hx=>.inl hx
  .exact h.ended h1 h3 zls hw h.bk λx hx=>.inl hx
 .split
  .exact⟨h.opn,h.last,h.wt,zht h.bk,λx hx=>h.bo x (Ep hx).1⟩
  .exact h
theorem jA.tire {t:List UInt8}{x:bE}(h:jA b):jA (jV (b,t) x).1:=by
 unfold jV;split
 .exact h
 .rename_i i hi
  split
  .obtain⟨d,h1,h2,h3⟩:=zA hi
   refine h.ended (wait:=dS b.wait (He b.recs i)) (back:=b.back++[x]) h1 h3 zg6 (λy hy=>⟨(Ep hy).1,by rw[<-Tm h1];exact(Ep hy).2⟩) ?_ λy hy=>?_
   .rw[N4]
    refine znf.2 ⟨h.bk,aN,λa ha e he=>?_⟩;obtain⟨y,hy,rfl⟩:=Ug.1 ha;simp at he;subst he;exact λe=>Kn (h.bo y hy) i d h1 h3 (by rw[h2,e])
   grind
  .exact h
theorem jA.tires:∀(xs:List bE) (b:bY) (t:List UInt8),jA b->jA (xs.foldl jV (b,t)).1:=by
 intro xs
 induction xs with
 |nil=>intro b t h;exact h
 |cons x xs ih=>
  intro b t h;rw[Oq];have h1:=h.tire (t:=t) (x:=x);simp_all
theorem jA.step {b:bY}(h:jA b)(hr:RInv b)(e:dI):jA (dK b e).1:=by
 unfold dK;split
 .exact h.rings _
 .split
  .exact h.answers hr _
  .split
   .exact h.returns hr _
   .split
    .exact h.hangs _
    .unfold tN
     exact jA.tires _ _ _ ⟨h.opn,h.last,h.wt,h.bk,h.bo⟩
theorem zgA {es:List dI}(h:eM o es=true):∀k,k<=es.length->jA (iI o es k):=by
 intro k
 induction k with
 |zero=>intro _;exact jA.zero o
 |succ k ih=>
  intro hk;have aS:k<es.length:=aC;rw[Me (mV aS)];exact jA.log ((ih aC).step (Ih h k aC).1 _)
end Go.Proofs.YtfcjiloojkjaeaaGreatDoor
namespace Go.Mt
open Go.Conc
inductive fK where
 |ask (i:Nat) (kind call anz:Int)
 |shut (i:Nat)
inductive gN where
 |mN (qs:List Nat)
 |mA (qs:List Nat) (a:Nat)
 |mS (qs:List Nat) (a:Nat)
 |mW (qs:List Nat)
 |mZ
 |op (c:Nat) (call:Int) (m:Nat)
 |an (c:Nat) (call:Int) (a:Nat) (m:Nat)
 |oD
 |wk (qs:List Nat) (k:Nat)
 |wr (qs:List Nat) (k:Nat) (a:Nat)
def quV (kind call:Int)(a:Nat):Value:=.agg #[.int .i64 kind,.int .i64 call,.chan (some a)]
def unQ:aF->Option (Int×Int×Nat)
 | .agg xs=>match xs.toList with
  |[.int .i64 kd,.int .i64 cl,.chan (some a)]=>some (kd,cl,a)
  |_=>none
 |_=>none
def zf1 (kd cl:Int)(a:Nat):unQ (quV kd cl a)=some (kd,cl,a):=rfl
variable {kd cl:Int}
theorem unQ_inv {v:aF}{a:Nat}(h:unQ v=some (kd,cl,a)):v=quV kd cl a:=by
 unfold unQ at h;split at h
 .rename_i xs
  split at h
  .rename_i e
   simp only[jP,Prod.mk.injEq] at h;obtain⟨rfl,rfl,rfl⟩:=h;unfold quV;congr 1;exact Array.ext' e
  .cases h
 .cases h
def qa (qs:List Nat)(j:Nat):Nat:=qs.getD j 0
def Tu (c:Nat)(call:Int)(m:Nat)(v:aF):gN:=match unQ v with|some (kd,cl,a)=>.an c (if kd=1 then cl else call) a (m-1)|none=>.oD
def zen (i:Nat):fK->Bool
 | .ask j _ _ _=>j==i
 |_=>false
def nY (W:List fK)(k i:Nat):Nat:=(W.drop k).countP (zen i)
variable {W:List fK}
theorem zxk {k i:Nat}{anz:Int}(h:W[k]? =some (.ask i kd cl anz))(j:Nat):nY W k j=nY W (k+1) j+if j=i then 1 else 0:=by
 obtain⟨hl,he⟩:=kP.1 h;unfold nY;rw[zeY hl,he,zcH];by_cases e:j=i
 .subst e;simp[zen]
 .have:¬i=j:=λx=>e x.symm
  simp[zen,e,this]
theorem zBb {k i:Nat}(h:W[k]? =some (.shut i))(j:Nat):nY W (k+1) j=nY W k j:=by
 obtain⟨hl,he⟩:=kP.1 h;unfold nY;rw[zeY hl,he,zcH];simp[zen]
def Qj (v:aF):List Nat:=match unQ v with|some (_,_,a)=>[a]|none=>[]
def Wb (qs:List Nat)(k:Nat)(v:aF):gN:=match unQ v with|some (_,_,a)=>.wr qs k a|none=>.oD
def Zg (W:List fK)(k:Nat)(v:aF):Prop:=match W[k]? with|some (.ask _ _ _ anz)=>v=.int .i64 anz|_=>False
def eO (N:Nat)(W:List fK):gN->Act gN
 | .mN qs=>if qs.length<N then .note (λl'=>∃a,l'=.mA qs a) else .add (.mW qs)
 | .mA qs a=>.add (.mS qs a)
 | .mS qs a=>.spawn [a] (.op a 0 (nY W 0 qs.length)) (.mN (qs++[a]))
 | .mW qs=>.spawn [] (.wk qs 0) .mZ
 | .mZ=>.wait
 | .op c call m=>.recv c (λv=>(unQ v).isSome=true/\0<m) (Tu c call m) .oD
 | .an c call a m=>.send a (λv=>v=.int .i64 call) (λ_=>[]) (λ_=>.op c call m)
 | .oD=>.done
 | .wk qs k=>match W[k]? with
  |none=>.done
  |some (.ask i kd cl _)=>.send (qa qs i) (λv=>∃a,v=quV kd cl a) Qj (Wb qs k)
  |some (.shut i)=>.close (qa qs i) (.wk qs (k+1))
 | .wr qs k a=>.recv a (Zg W k) (λ_=>.wk qs (k+1)) .oD
def gN.pend:gN->Bool
 | .mS _ _| .mW _=>true
 |_=>false
def lI (W:List fK):Nat->Nat->Int
 |0,_=>0
 |k+1,i=>match W[k]? with
  |some (.ask j kd cl _)=>if i=j then(if kd=1 then cl else lI W k i) else lI W k i
  |_=>lI W k i
def fT (W:List fK):Nat->Nat->Bool
 |0,_=>false
 |k+1,i=>match W[k]? with
  |some (.shut j)=>if i=j then true else fT W k i
  |_=>fT W k i
structure WOk (N:Nat)(W:List fK):Prop where
 ask:∀k i kd cl anz,W[k]? =some (.ask i kd cl anz)->i<N/\fT W k i=false/\anz=lI W (k+1) i
 shut:∀k i,W[k]? =some (.shut i)->i<N/\fT W k i=false
 all:∀i,i<N->fT W W.length i=true
structure Ops (n:Nat)(ix:Nat->Nat)(q:Nat->Pj gN)(F:Nat->Pj gN->Prop):Prop where
 ne:∀j,j<n->ix j≠0
 inj:∀j j',j<n->j'<n->ix j=ix j'->j=j'
 at_:∀j,j<n->F j (q (ix j))
structure Qs (n:Nat)(qs:List Nat):Prop where
 len:qs.length=n
 inj:∀j j',j<n->j'<n->qa qs j=qa qs j'->j=j'
def Ii (W:List fK)(qs:List Nat)(k j:Nat)(p:Pj gN):Prop:=
 p=.run (.op (qa qs j) (lI W k j) (nY W k j))\/(fT W k j=true/\(p=.run .oD\/p=.over .oD))
inductive Wu (N:Nat)(W:List fK)(q:Nat->Pj gN)(ch:rJ):Prop
 |a (n:Nat) (qs:List Nat) (ix:Nat->Nat) (l:gN):Qs n qs->n<=N->(l=.mN qs\/(n<N/\∃a,l=.mA qs a\/l=.mS qs a)\/(l=.mW qs/\n=N))->q 0=.run l->Ops n ix q (λj p=>p=.run (.op (qa qs j) 0 (nY W 0 j)))->
  (∀j,j<n->ch (qa qs j)=some false)->(∀i,i≠0->(∀j,j<n->i≠ix j)->q i=.gone)->Wu N W q ch
 |b (qs:List Nat) (ix:Nat->Nat) (iw k:Nat):Qs N qs->k<=W.length->iw≠0->(∀j,j<N->ix j≠iw)->(q 0=.run .mZ\/q 0=.waits)->(q iw=.run (.wk qs k)\/(k=W.length/\q iw=.over (.wk qs k)))->
  Ops N ix q (Ii W qs k)->(∀j,j<N->ch (qa qs j)=some (fT W k j))->(∀i,i≠0->i≠iw->(∀j,j<N->i≠ix j)->q i=.gone)->Wu N W q ch
 |c (qs:List Nat) (ix:Nat->Nat) (iw k i:Nat) (kd cl anz:Int) (a:Nat):Qs N qs->W[k]? =some (.ask i kd cl anz)->iw≠0->(∀j,j<N->ix j≠iw)->(q 0=.run .mZ\/q 0=.waits)->q iw=.run (.wr qs k a)->
  Ops N ix q (λj p=>if j=i then p=.run (.an (qa qs j) (lI W (k+1) j) a (nY W (k+1) j)) else Ii W qs k j p)->(∀j,j<N->ch (qa qs j)=some (fT W k j))->ch a=some false->(∀j,j<N->qa qs j≠a)->
  (∀i,i≠0->i≠iw->(∀j,j<N->i≠ix j)->q i=.gone)->Wu N W q ch
def C3 (N:Nat)(W:List fK)(D:aE->Prop):jM gN where
 act:=eO N W
 dep:=λl w=>match l with| .wk _ _=>D w|_=>True
 pend:=gN.pend
 cl:=λl=>match l with| .op _ _ _=>True|_=>False
 Inv:=Wu N W
 got:=λl v=>match l with| .op _ _ _=>Qj v|_=>[]
section
variable {N:Nat}{W:List fK}
variable {l:gN}{ok:aF->Prop}{nx:aF->gN}
theorem zk9 {c:Nat}{pub:aF->List Nat}(h:eO N W l=.send c ok pub nx):
 (∃c0 call m,l=.an c0 call c m/\ok=(λv=>v=.int .i64 call)/\pub=(λ_=>[])/\nx=λ_=>.op c0 call m)\/
 (∃qs k i kd cl anz,l=.wk qs k/\W[k]? =some (.ask i kd cl anz)/\c=qa qs i/\ok=(λv=>∃a,v=quV kd cl a)/\pub=Qj/\nx=Wb qs k):=by
 cases l with
 |mN qs=>simp only[eO] at h;split at h<;>cases h
 |an c0 call a m=>simp only[eO] at h;cases h;grind
 |wk qs k=>
  simp only[eO] at h
  grind
 |_=>simp only[eO] at h;cases h
theorem X4 {c:Nat}{sh:gN}(h:eO N W l=.recv c ok nx sh):
 (∃call m,l=.op c call m/\ok=(λv=>(unQ v).isSome=true/\0<m)/\nx=Tu c call m/\sh=.oD)\/(∃qs k,l=.wr qs k c/\ok=Zg W k/\nx=(λ_=>.wk qs (k+1))/\sh=.oD):=by
 cases l with
 |mN qs=>simp only[eO] at h;split at h<;>cases h
 |op c0 call m=>simp only[eO] at h;grind
 |wk qs k=>simp only[eO] at h;split at h<;>cases h
 |wr qs k a=>simp only[eO] at h;cases h;grind
 |_=>simp only[eO] at h;cases h
variable {nx:gN}
theorem zsd {c:Nat}(h:eO N W l=.close c nx):∃qs k i,l=.wk qs k/\W[k]? =some (.shut i)/\c=qa qs i/\nx=.wk qs (k+1):=by
 cases l with
 |mN qs=>simp only[eO] at h;split at h<;>cases h
 |wk qs k=>
  simp only[eO] at h
  grind
 |_=>simp only[eO] at h;cases h
theorem zzx (h:eO N W l=.add nx):(∃qs,l=.mN qs/\¬qs.length<N/\nx=.mW qs)\/∃qs a,l=.mA qs a/\nx=.mS qs a:=by
 cases l with
 |mN qs=>
  simp only[eO] at h
  grind
 |mA qs a=>simp only[eO] at h;grind
 |wk qs k=>simp only[eO] at h;split at h<;>cases h
 |_=>simp only[eO] at h;cases h
theorem zAv {lc:gN}{pub:List Nat}(h:eO N W l=.spawn pub lc nx):(∃qs a,l=.mS qs a/\pub=[a]/\lc=.op a 0 (nY W 0 qs.length)/\nx=.mN (qs++[a]))\/∃qs,l=.mW qs/\pub=[]/\lc=.wk qs 0/\nx=.mZ:=by
 cases l with
 |mN qs=>simp only[eO] at h;split at h<;>cases h
 |mS qs a=>simp only[eO] at h;grind
 |mW qs=>simp only[eO] at h;simp_all
 |wk qs k=>simp only[eO] at h;split at h<;>cases h
 |_=>simp only[eO] at h;cases h
theorem zzC (h:eO N W l=.done):l=.oD\/∃qs k,l=.wk qs k/\W[k]? =none:=by
 cases l with
 |mN qs=>simp only[eO] at h;split at h<;>cases h
 |oD=>exact .inl rfl
 |wk qs k=>
  simp only[eO] at h
  grind
 |_=>simp only[eO] at h;cases h
theorem zIw (h:eO N W l=.wait):l=.mZ:=by
 cases l with
 |mN qs=>simp only[eO] at h;split at h<;>cases h
 |mZ=>rfl
 |wk qs k=>simp only[eO] at h;split at h<;>cases h
 |_=>simp only[eO] at h;cases h
theorem zz9 {can:gN->Prop}(h:eO N W l=.note can):∃qs,l=.mN qs/\qs.length<N/\can=λl'=>∃a,l'=.mA qs a:=by
 cases l with
 |mN qs=>
  simp only[eO] at h
  grind
 |wk qs k=>simp only[eO] at h;split at h<;>cases h
 |_=>simp only[eO] at h;cases h
variable {anz:Int}
theorem zwq {k i:Nat}{kd cl:Int}(h:W[k]? =some (.ask i kd cl anz))(j:Nat):lI W (k+1) j=if j=i then(if kd=1 then cl else lI W k j) else lI W k j:=by simp only[lI,h]
theorem zon {k i:Nat}{kd cl:Int}(h:W[k]? =some (.ask i kd cl anz))(j:Nat):fT W (k+1) j=fT W k j:=by simp only[fT,h]
theorem zzJ {k i:Nat}(h:W[k]? =some (.shut i))(j:Nat):lI W (k+1) j=lI W k j:=by simp only[lI,h]
theorem zuU {k i:Nat}(h:W[k]? =some (.shut i))(j:Nat):fT W (k+1) j=if j=i then true else fT W k j:=by simp only[fT,h]
def wk_lt {k:Nat}{x:fK}(h:W[k]? =some x):k<W.length:=(kP.1 h).1
end
section
variable {N:Nat}{W:List fK}{q:Nat->Pj gN}{ch:rJ}
theorem zjv {n:Nat}{ix:Nat->Nat}{iw:Nat}(hg:∀i,i≠0->i≠iw->(∀j,j<n->i≠ix j)->q i=.gone){i:Nat}{l:gN}(h:q i=.run l):i=0\/i=iw\/∃j,j<n/\i=ix j:=by grind
theorem zvC {qs:List Nat}{k j:Nat}{l:gN}(h:Ii W qs k j (.run l)):l=.op (qa qs j) (lI W k j) (nY W k j)\/(fT W k j=true/\l=.oD):=by
 rcases h with h|⟨h1,h|h⟩
 .cases h;exact .inl rfl
 .simp_all
 .cases h
theorem zhB {l:gN}(h:(∃qs,l=.mN qs)\/(∃qs a,l=.mA qs a)\/(∃qs a,l=.mS qs a)\/(∃qs,l=.mW qs)\/l=.mZ):(∀c ok pub nx,eO N W l≠ .send c ok pub nx)/\(∀c ok nx sh,eO N W l≠ .recv c ok nx sh)/\(∀c nx,eO N W l≠ .close c nx)/\eO N W l≠ .done:=by
 rcases h with⟨qs,rfl⟩|⟨qs,a,rfl⟩|⟨qs,a,rfl⟩|⟨qs,rfl⟩|rfl
 .simp only[eO]
  split<;>simp
 all_goals simp[eO]
theorem zlA {n:Nat}{qs:List Nat}{l:gN}(h:l=.mN qs\/(n<N/\∃a,l=.mA qs a\/l=.mS qs a)\/(l=.mW qs/\n=N)):(∃qs,l=.mN qs)\/(∃qs a,l=.mA qs a)\/(∃qs a,l=.mS qs a)\/(∃qs,l=.mW qs)\/l=.mZ:=by grind
section
variable {n:Nat}{qs:List Nat}{ix:Nat->Nat}{iw k i0:Nat}{i c a:Nat}{l l0:gN}
theorem P3 (hl:l0=.mN qs\/(n<N/\∃a,l0=.mA qs a\/l0=.mS qs a)\/(l0=.mW qs/\n=N))(h0:q 0=.run l0)(ho:Ops n ix q (λj p=>p=.run (.op (qa qs j) 0 (nY W 0 j))))(hg:∀i,i≠0->(∀j,j<n->i≠ix j)->q i=.gone)(hi:q i=.run l):(i=0/\l=l0)\/∃j,j<n/\i=ix j/\l=.op (qa qs j) 0 (nY W 0 j):=by
 rcases zjv (iw:=0) (λi h1 _ h3=>hg i h1 h3) hi with rfl|rfl|⟨j,hj,rfl⟩
 .simp_all
 .simp_all
 .have:=ho.at_ j hj;grind
theorem Mz (h0:q 0=.run .mZ\/q 0=.waits)(cP:q iw=.run (.wk qs k)\/(k=W.length/\q iw=.over (.wk qs k)))(ho:Ops N ix q (Ii W qs k))(hg:∀i,i≠0->i≠iw->(∀j,j<N->i≠ix j)->q i=.gone)(hi:q i=.run l):
 (i=0/\l=.mZ)\/(i=iw/\l=.wk qs k)\/∃j,j<N/\i=ix j/\(l=.op (qa qs j) (lI W k j) (nY W k j)\/(fT W k j=true/\l=.oD)):=by
 rcases zjv hg hi with rfl|rfl|⟨j,hj,rfl⟩
 .simp_all
 .simp_all
 .have:=ho.at_ j hj;rw[hi] at this
  exact .inr (.inr ⟨j,hj,rfl,zvC this⟩)
theorem Qy (h0:q 0=.run .mZ\/q 0=.waits)(cP:q iw=.run (.wr qs k a))(ho:Ops N ix q (λj p=>if j=i0 then p=.run (.an (qa qs j) (lI W (k+1) j) a (nY W (k+1) j)) else Ii W qs k j p))(hg:∀i,i≠0->i≠iw->(∀j,j<N->i≠ix j)->q i=.gone)(hi:q i=.run l):
 (i=0/\l=.mZ)\/(i=iw/\l=.wr qs k a)\/∃j,j<N/\i=ix j/\((j=i0/\l=.an (qa qs j) (lI W (k+1) j) a (nY W (k+1) j))\/(j≠i0/\(l=.op (qa qs j) (lI W k j) (nY W k j)\/(fT W k j=true/\l=.oD)))):=by
 rcases zjv hg hi with rfl|rfl|⟨j,hj,rfl⟩
 .simp_all
 .simp_all
 .have:=ho.at_ j hj
  simp only[hi] at this;split at this
  .grind
  .rename_i e;exact .inr (.inr ⟨j,hj,rfl,.inr ⟨e,zvC this⟩⟩)
variable {ok:aF->Prop}{pub:aF->List Nat}{nx:aF->gN}{sh:gN}
theorem zc9 (h0:q 0=.run .mZ\/q 0=.waits)(cP:q iw=.run (.wk qs k)\/(k=W.length/\q iw=.over (.wk qs k)))(ho:Ops N ix q (Ii W qs k))(hg:∀i,i≠0->i≠iw->(∀j,j<N->i≠ix j)->q i=.gone)(hi:q i=.run l)(ha:eO N W l=.send c ok pub nx):
 i=iw/\l=.wk qs k/\∃j kd cl anz,W[k]? =some (.ask j kd cl anz)/\c=qa qs j/\ok=(λv=>∃a,v=quV kd cl a)/\pub=Qj/\nx=Wb qs k:=by
 rcases Mz h0 cP ho hg hi with⟨rfl,rfl⟩|⟨rfl,rfl⟩|⟨j,hj,rfl,rfl|⟨_,rfl⟩⟩
 .cases ha
 .rcases zk9 ha with⟨_,_,_,e,_⟩|⟨Pv,k',j,kd,cl,anz,e,h1,h2,h3,h4,h5⟩
  .cases e
  .grind
 .cases ha
 .cases ha
theorem Vh (h0:q 0=.run .mZ\/q 0=.waits)(cP:q iw=.run (.wk qs k)\/(k=W.length/\q iw=.over (.wk qs k)))(ho:Ops N ix q (Ii W qs k))(hg:∀i,i≠0->i≠iw->(∀j,j<N->i≠ix j)->q i=.gone)(hi:q i=.run l)(ha:eO N W l=.recv c ok nx sh):
 ∃j,j<N/\i=ix j/\l=.op (qa qs j) (lI W k j) (nY W k j)/\c=qa qs j/\ok=(λv=>(unQ v).isSome=true/\0<nY W k j)/\nx=Tu c (lI W k j) (nY W k j)/\sh=.oD:=by
 rcases Mz h0 cP ho hg hi with⟨rfl,rfl⟩|⟨rfl,rfl⟩|⟨j,hj,rfl,rfl|⟨_,rfl⟩⟩
 .cases ha
 .rcases X4 ha with⟨_,_,e,_⟩|⟨_,_,e,_⟩<;>cases e
 .rcases X4 ha with⟨_,_,e,h1,h2,h3⟩|⟨_,_,e,_⟩<;>cases e
  grind
 .cases ha
theorem zbI (h0:q 0=.run .mZ\/q 0=.waits)(cP:q iw=.run (.wr qs k a))(ho:Ops N ix q (λj p=>if j=i0 then p=.run (.an (qa qs j) (lI W (k+1) j) a (nY W (k+1) j)) else Ii W qs k j p))(hg:∀i,i≠0->i≠iw->(∀j,j<N->i≠ix j)->q i=.gone)(hi:q i=.run l)(ha:eO N W l=.send c ok pub nx):
 i0<N/\i=ix i0/\l=.an (qa qs i0) (lI W (k+1) i0) a (nY W (k+1) i0)/\c=a/\ok=(λv=>v=.int .i64 (lI W (k+1) i0))/\pub=(λ_=>[])/\nx=λ_=>.op (qa qs i0) (lI W (k+1) i0) (nY W (k+1) i0):=by
 rcases Qy h0 cP ho hg hi with⟨rfl,rfl⟩|⟨rfl,rfl⟩|⟨j,hj,rfl,⟨rfl,rfl⟩|⟨_,rfl|⟨_,rfl⟩⟩⟩
 .cases ha
 .cases ha
 .rcases zk9 ha with⟨_,_,_,e,h1,h2,h3⟩|⟨_,_,_,_,_,_,e,_⟩<;>cases e
  simp_all
 .cases ha
 .cases ha
theorem Zo (h0:q 0=.run .mZ\/q 0=.waits)(cP:q iw=.run (.wr qs k a))(ho:Ops N ix q (λj p=>if j=i0 then p=.run (.an (qa qs j) (lI W (k+1) j) a (nY W (k+1) j)) else Ii W qs k j p))(hg:∀i,i≠0->i≠iw->(∀j,j<N->i≠ix j)->q i=.gone)(hi:q i=.run l)(ha:eO N W l=.recv c ok nx sh):
 (i=iw/\l=.wr qs k a/\c=a/\ok=Zg W k/\nx=(λ_=>.wk qs (k+1)))\/∃j,j<N/\j≠i0/\i=ix j/\l=.op (qa qs j) (lI W k j) (nY W k j)/\c=qa qs j/\sh=.oD:=by
 rcases Qy h0 cP ho hg hi with⟨rfl,rfl⟩|⟨rfl,rfl⟩|⟨j,hj,rfl,⟨rfl,rfl⟩|⟨aU,rfl|⟨_,rfl⟩⟩⟩
 .cases ha
 .rcases X4 ha with⟨_,_,e,_⟩|⟨_,_,e,h1,h2,h3⟩<;>cases e
  simp_all
 .cases ha
 .rcases X4 ha with⟨_,_,e,h1,h2,h3⟩|⟨_,_,e,_⟩<;>cases e
  grind
 .cases ha
theorem zhq (hl:l0=.mN qs\/(n<N/\∃a,l0=.mA qs a\/l0=.mS qs a)\/(l0=.mW qs/\n=N))(h0:q 0=.run l0)(ho:Ops n ix q (λj p=>p=.run (.op (qa qs j) 0 (nY W 0 j))))(hg:∀i,i≠0->(∀j,j<n->i≠ix j)->q i=.gone)(hi:q i=.run l)(ha:eO N W l=.send c ok pub nx):False:=by
 rcases P3 hl h0 ho hg hi with⟨rfl,rfl⟩|⟨j,hj,rfl,rfl⟩
 .exact(zhB (zlA hl)).1 _ _ _ _ ha
 .cases ha
theorem zeF (hl:l0=.mN qs\/(n<N/\∃a,l0=.mA qs a\/l0=.mS qs a)\/(l0=.mW qs/\n=N))(h0:q 0=.run l0)(ho:Ops n ix q (λj p=>p=.run (.op (qa qs j) 0 (nY W 0 j))))(hg:∀i,i≠0->(∀j,j<n->i≠ix j)->q i=.gone)(hi:q i=.run l)(ha:eO N W l=.recv c ok nx sh):∃j,j<n/\i=ix j/\l=.op (qa qs j) 0 (nY W 0 j)/\c=qa qs j:=by
 rcases P3 hl h0 ho hg hi with⟨rfl,rfl⟩|⟨j,hj,rfl,rfl⟩
 .exact((zhB (zlA hl)).2.1 _ _ _ _ ha).elim
 .rcases X4 ha with⟨_,_,e,h1,h2,h3⟩|⟨_,_,e,_⟩<;>cases e
  grind
end
end
variable {L:Type}
theorem num_upd (q:Nat->Pj L)(s:Nat):∀n,num q n<=num (bK q s .gone) n+1:=by
 have ind:∀n,num q n<=num (bK q s .gone) n+(if s<n then 1 else 0):=by
  intro n
  induction n with
  |zero=>simp[num]
  |succ n ih=>
   simp only[num];have hc:(q n).c<=1:=by cases q n<;>simp[Pj.c]
   by_cases h:n=s
   .grind
   .rw[upd_ne _ _ h]
    grind
 grind
theorem zGY :∀(S:List Nat) (q:Nat->Pj L),(∀i,i∉S->q i=.gone)->∀n,num q n<=S.length:=by
 intro S
 induction S with
 |nil=>
  intro q h n
  induction n with
  |zero=>simp[num]
  |succ n ih=>simp only[num];rw[h n aN];simpa[Pj.c] using ih
 |cons s S ih=>
  intro q h n;have h1:=num_upd q s n;have h2:=ih (bK q s .gone) (λi hi=>by
   by_cases e:i=s
   .subst e;exact upd_same _ _ _
   .rw[upd_ne _ _ e];exact h i (by simp[e,hi])) n
  grind
section
variable {N:Nat}{W:List fK}{q:Nat->Pj gN}{ch:rJ}
theorem zxf (ch:rJ):ch.opn []=ch:=by funext c;simp[rJ.opn]
theorem ztk {ch:rJ}{a c:Nat}(h:c≠a):ch.opn [a] c=ch c:=by simp[rJ.opn,h]
theorem zse (ch:rJ)(a:Nat):ch.opn [a] a=some false:=by simp[rJ.opn]
theorem Vo {qs:List Nat}{n:Nat}(h:qs.length=n){j:Nat}(hj:j<n)(a:Nat):qa (qs++[a]) j=qa qs j:=by
 unfold qa
 grind
theorem zgF {qs:List Nat}{n:Nat}(h:qs.length=n)(a:Nat):qa (qs++[a]) n=a:=by
 unfold qa;simp_all
theorem zxO {D:aE->Prop}{l:gN}(h:(∃qs,l=.mN qs)\/(∃qs a,l=.mA qs a)\/(∃qs a,l=.mS qs a)\/(∃qs,l=.mW qs)\/l=.mZ):¬(C3 N W D).Blocked q ch l:=by
 unfold jM.Blocked;split
 .rename_i e;exact((zhB h).1 _ _ _ _ e).elim
 .rename_i e;exact((zhB h).2.1 _ _ _ _ e).elim
 .exact id
theorem zEy (N:Nat)(W:List fK)(D:aE->Prop)(hW:WOk N W)(hN:N<=1000000):(C3 N W D).Ok where
 send1:=by
  intro q ch i j li lj c ok pub nx sN Vp pY hI hi hj ha hb
  cases hI with
  |a n qs ix l0 hq hn hl h0 ho hc hg=>exact(zhq hl h0 ho hg hi ha).elim
  |b qs ix iw k hq hk hw aU h0 cP ho hc hg=>rw[(zc9 h0 cP ho hg hi ha).1,(zc9 h0 cP ho hg hj hb).1]
  |c qs ix iw k i0 kd cl anz a hq hk hw aU h0 cP ho hc qL oI hg=>rw[(zbI h0 cP ho hg hi ha).2.1,(zbI h0 cP ho hg hj hb).2.1]
 recv1:=by
  intro q ch i j li lj c ok nx sh sN pY xC hI hi hj ha hb
  cases hI with
  |a n qs ix l0 hq hn hl h0 ho hc hg=>
   obtain⟨j1,h1,rfl,_,c1⟩:=zeF hl h0 ho hg hi ha;obtain⟨j2,h2,rfl,_,c2⟩:=zeF hl h0 ho hg hj hb;rw[hq.inj j1 j2 h1 h2 (c1.symm.trans c2)]
  |b qs ix iw k hq hk hw aU h0 cP ho hc hg=>
   obtain⟨j1,h1,rfl,_,c1,_⟩:=Vh h0 cP ho hg hi ha;obtain⟨j2,h2,rfl,_,c2,_⟩:=Vh h0 cP ho hg hj hb;rw[hq.inj j1 j2 h1 h2 (c1.symm.trans c2)]
  |c qs ix iw k i0 kd cl anz a hq hk hw aU h0 cP ho hc qL oI hg=>
   rcases Zo h0 cP ho hg hi ha with⟨rfl,_,rfl,_⟩|⟨j1,h1,_,rfl,_,c1,_⟩<;>rcases Zo h0 cP ho hg hj hb with⟨rfl,_,e2,_⟩|⟨j2,h2,_,rfl,_,c2,_⟩
   .rfl
   .grind
   .grind
   .rw[hq.inj j1 j2 h1 h2 (c1.symm.trans c2)]
 sendC:=by
  intro q ch i l c ok pub nx hI hi ha
  cases hI with
  |a n qs ix l0 hq hn hl h0 ho hc hg=>exact(zhq hl h0 ho hg hi ha).elim
  |b qs ix iw k hq hk hw aU h0 cP ho hc hg=>
   obtain⟨rfl,rfl,j,kd,cl,anz,h1,rfl,_⟩:=zc9 h0 cP ho hg hi ha;obtain⟨h2,h3,_⟩:=hW.ask k j kd cl anz h1;rw[hc j h2,h3]
  |c qs ix iw k i0 kd cl anz a hq hk hw aU h0 cP ho hc qL oI hg=>
   obtain⟨_,_,_,rfl,_⟩:=zbI h0 cP ho hg hi ha;exact qL
 recvC:=by
  intro q ch i l c ok nx sh hI hi ha
  cases hI with
  |a n qs ix l0 hq hn hl h0 ho hc hg=>
   obtain⟨j1,h1,rfl,_,rfl⟩:=zeF hl h0 ho hg hi ha;exact⟨_,hc j1 h1⟩
  |b qs ix iw k hq hk hw aU h0 cP ho hc hg=>
   obtain⟨j1,h1,rfl,_,rfl,_⟩:=Vh h0 cP ho hg hi ha;exact⟨_,hc j1 h1⟩
  |c qs ix iw k i0 kd cl anz a hq hk hw aU h0 cP ho hc qL oI hg=>
   rcases Zo h0 cP ho hg hi ha with⟨rfl,_,rfl,_⟩|⟨j1,h1,_,rfl,_,rfl,_⟩
   .exact⟨_,qL⟩
   simp_all
 meet:=by
  intro q ch i j li lj c ok pub nx sN pY sh v hI hi hj ha hb hv hp
  cases hI with
  |a n qs ix l0 hq hn hl h0 ho hc hg=>exact(zhq hl h0 ho hg hi ha).elim
  |b qs ix iw k hq hk hw aU h0 cP ho hc hg=>
   obtain⟨rfl,rfl,j0,kd,cl,anz,h1,rfl,rfl,rfl,rfl⟩:=zc9 h0 cP ho hg hi ha;obtain⟨j1,Kf,rfl,rfl,wR,rfl,rfl,_⟩:=Vh h0 cP ho hg hj hb;obtain rfl:=hq.inj j0 j1 (hW.ask k j0 kd cl anz h1).1 Kf wR;obtain⟨a,rfl⟩:=hv;have Sw:ch a=none:=hp a (by simp[Qj,zf1]);have oI:∀j,j<N->qa qs j≠a:=λj hj e=>by grind
   have hR:=zxk h1 j0;rw[if_pos rfl] at hR;refine⟨⟨by simp[zf1],aC⟩,?_⟩;show Wu N W (bK (bK q i (.run (.wr qs k a))) (ix j0) (.run (.an (qa qs j0) (if kd=1 then cl else lI W k j0) a (nY W k j0-1)))) (ch.opn [a]);rw[show nY W k j0-1=nY W (k+1) j0 by omega];refine .c qs ix i k j0 kd cl anz a hq h1 hw aU ?_ ?_ ⟨ho.ne,ho.inj,λj hj=>?_⟩ (λj hj=>by rw[ztk (oI j hj)];exact hc j hj) (zse _ _) oI λi' g0 g1 g2=>?_
   .rw[upd_ne _ _ (Ne.symm (ho.ne j0 Kf)),upd_ne _ _ (Ne.symm hw)];exact h0
   .rw[upd_ne _ _ (Ne.symm (aU j0 Kf)),upd_same]
   .by_cases e:j=j0
    .subst e;rw[if_pos rfl,upd_same,zwq h1,if_pos rfl]
    .rw[if_neg e,upd_ne _ _ (λh=>e (ho.inj j j0 hj Kf h)),upd_ne _ _ (aU j hj)]
     exact ho.at_ j hj
   .rw[upd_ne _ _ (g2 j0 Kf),upd_ne _ _ g1];exact hg i' g0 g1 g2
  |c qs ix iw k i0 kd cl anz a hq hk hw aU h0 cP ho hc qL oI hg=>
   obtain⟨eR,rfl,rfl,rfl,rfl,rfl,rfl⟩:=zbI h0 cP ho hg hi ha;rcases Zo h0 cP ho hg hj hb with⟨rfl,rfl,_,rfl,rfl⟩|⟨j1,Kf,_,rfl,_,wR,_⟩
   .refine⟨?_,?_⟩
    .unfold Zg;rw[hk]
     show v=_;rw[(hW.ask k i0 kd cl anz hk).2.2];exact hv
    .rw[zxf]
     refine .b qs ix j (k+1) hq (wk_lt hk) hw aU ?_ (.inl (upd_same _ _ _)) ⟨ho.ne,ho.inj,λj' qM=>?_⟩ (λj' qM=>by rw[zon hk];exact hc j' qM) λi' g0 g1 g2=>?_
     .rw[upd_ne _ _ (Ne.symm hw),upd_ne _ _ (Ne.symm (ho.ne i0 eR))];exact h0
     .rw[upd_ne _ _ (aU j' qM)]
      by_cases e:j'=i0
      .subst e;rw[upd_same];exact .inl rfl
      .rw[upd_ne _ _ (λh=>e (ho.inj j' i0 qM eR h))]
       have:=ho.at_ j' qM;rw[if_neg e] at this;unfold Ii at this⊢;have hR:=zxk hk j';rw[if_neg e,Q3] at hR;rw[zwq hk,if_neg e,zon hk,<-hR];exact this
     .rw[upd_ne _ _ g1,upd_ne _ _ (g2 i0 eR)];exact hg i' g0 g1 g2
   grind
 shut:=by
  intro q ch i l c ok nx sh hI hi ha wR
  cases hI with
  |a n qs ix l0 hq hn hl h0 ho hc hg=>
   obtain⟨j1,h1,rfl,_,rfl⟩:=zeF hl h0 ho hg hi ha;simp_all
  |b qs ix iw k hq hk hw aU h0 cP ho hc hg=>
   obtain⟨j1,h1,rfl,rfl,rfl,_,_,rfl⟩:=Vh h0 cP ho hg hi ha;have hx:fT W k j1=true:=by have:=hc j1 h1;rw[wR] at this;injection this with this;exact this.symm
   refine⟨trivial,.b qs ix iw k hq hk hw aU ?_ ?_ ⟨ho.ne,ho.inj,λj hj=>?_⟩ hc λi' g0 g1 g2=>?_⟩
   .rw[upd_ne _ _ (Ne.symm (ho.ne j1 h1))];exact h0
   .rw[upd_ne _ _ (Ne.symm (aU j1 h1))];exact cP
   .by_cases e:j=j1
    .subst e;rw[upd_same];exact .inr ⟨hx,.inl rfl⟩
    .rw[upd_ne _ _ (λh=>e (ho.inj j j1 hj h1 h))];exact ho.at_ j hj
   .rw[upd_ne _ _ (g2 j1 h1)];exact hg i' g0 g1 g2
  |c qs ix iw k i0 kd cl anz a hq hk hw aU h0 cP ho hc qL oI hg=>
   rcases Zo h0 cP ho hg hi ha with⟨rfl,_,rfl,_⟩|⟨j1,h1,Pt,rfl,rfl,rfl,rfl⟩
   .simp_all
   .have hx:fT W k j1=true:=by have:=hc j1 h1;rw[wR] at this;injection this with this;exact this.symm
    refine⟨trivial,.c qs ix iw k i0 kd cl anz a hq hk hw aU ?_ ?_ ⟨ho.ne,ho.inj,λj hj=>?_⟩ hc qL oI λi' g0 g1 g2=>?_⟩
    .rw[upd_ne _ _ (Ne.symm (ho.ne j1 h1))];exact h0
    .rw[upd_ne _ _ (Ne.symm (aU j1 h1))];exact cP
    .by_cases e:j=j1
     .subst e;rw[if_neg Pt,upd_same];exact .inr ⟨hx,.inl rfl⟩
     .rw[upd_ne _ _ (λh=>e (ho.inj j j1 hj h1 h))];exact ho.at_ j hj
    .rw[upd_ne _ _ (g2 j1 h1)];exact hg i' g0 g1 g2
 close:=by
  intro q ch i l c nx hI hi ha;obtain⟨Pv,k',i0,rfl,cU,rfl,rfl⟩:=zsd (N:=N) ha
  cases hI with
  |a n qs ix l0 hq hn hl h0 ho hc hg=>
   rcases P3 hl h0 ho hg hi with⟨rfl,rfl⟩|⟨j,hj,rfl,e⟩
   .simp_all
   .cases e
  |b qs ix iw k hq hk hw aU h0 cP ho hc hg=>
   rcases Mz h0 cP ho hg hi with⟨_,e⟩|⟨rfl,e⟩|⟨j,hj,rfl,e|⟨_,e⟩⟩<;>cases e;obtain⟨eR,hx⟩:=hW.shut k' i0 cU;refine⟨by rw[hc i0 eR,hx],.b Pv ix i (k'+1) hq (wk_lt cU) hw aU ?_ (.inl (upd_same _ _ _)) ⟨ho.ne,ho.inj,λj hj=>?_⟩ (λj hj=>?_) λi' g0 g1 g2=>?_⟩
   .rw[upd_ne _ _ (Ne.symm hw)];exact h0
   .rw[upd_ne _ _ (aU j hj)]
    have:=ho.at_ j hj;unfold Ii at this⊢;rw[zzJ cU,zuU cU,zBb cU];refine this.imp id λh=>⟨?_,h.2⟩;split
    .rfl
    .exact h.1
   .rw[zuU cU]
    by_cases e:j=i0
    .subst e;rw[if_pos rfl,upd_same]
    .rw[if_neg e,upd_ne _ _ (λh=>e (hq.inj j i0 hj eR h))];exact hc j hj
   .rw[upd_ne _ _ g1];exact hg i' g0 g1 g2
  |c qs ix iw k i1 kd cl anz a hq hk hw aU h0 cP ho hc qL oI hg=>
   rcases Qy h0 cP ho hg hi with⟨_,e⟩|⟨_,e⟩|⟨j,hj,rfl,⟨_,e⟩|⟨_,e|⟨_,e⟩⟩⟩<;>cases e
 add:=by
  intro q ch i l nx hI hi ha;have ha:=zzx ha
  cases hI with
  |a n qs ix l0 hq hn hl h0 ho hc hg=>
   rcases P3 hl h0 ho hg hi with⟨rfl,rfl⟩|⟨j,hj,rfl,rfl⟩
   .have keep:∀l',(l'=.mN qs\/(n<N/\∃a,l'=.mA qs a\/l'=.mS qs a)\/(l'=.mW qs/\n=N))->Wu N W (bK q 0 (.run l')) ch:=λl' Ar=>
     .a n qs ix l' hq hn Ar (upd_same _ _ _) ⟨ho.ne,ho.inj,λj hj=>by rw[upd_ne _ _ (ho.ne j hj)];exact ho.at_ j hj⟩ hc λi' g0 g1=>by rw[upd_ne _ _ g0];exact hg i' g0 g1
    rcases ha with⟨Pv,rfl,h1,rfl⟩|⟨Pv,a,rfl,rfl⟩
    .rcases hl with e|⟨_,_,e|e⟩|⟨e,_⟩<;>cases e
     refine⟨rfl,rfl,rfl,keep _ (.inr (.inr ⟨rfl,?_⟩))⟩;have:=hq.len;omega
    .rcases hl with e|⟨h1,_,e|e⟩|⟨e,_⟩<;>cases e
     exact⟨rfl,rfl,rfl,keep _ (.inr (.inl ⟨h1,a,.inr rfl⟩))⟩
   simp_all
  |b qs ix iw k hq hk hw aU h0 cP ho hc hg=>
   exfalso;rcases Mz h0 cP ho hg hi with⟨_,rfl⟩|⟨_,rfl⟩|⟨j,hj,_,rfl|⟨_,rfl⟩⟩<;>rcases ha with⟨_,e,_⟩|⟨_,_,e,_⟩<;>cases e
  |c qs ix iw k i0 kd cl anz a hq hk hw aU h0 cP ho hc qL oI hg=>
   exfalso;rcases Qy h0 cP ho hg hi with⟨_,rfl⟩|⟨_,rfl⟩|⟨j,hj,_,⟨_,rfl⟩|⟨_,rfl|⟨_,rfl⟩⟩⟩<;>rcases ha with⟨_,e,_⟩|⟨_,_,e,_⟩<;>cases e
 spawn:=by
  intro q ch i l pub lc nx kk hI hi ha;have ha:=zAv ha
  cases hI with
  |a n qs ix l0 hq hn hl h0 ho hc hg=>
   rcases P3 hl h0 ho hg hi with⟨rfl,rfl⟩|⟨j,hj,rfl,rfl⟩
   .rcases ha with⟨Pv,a,rfl,rfl,rfl,rfl⟩|⟨Pv,rfl,rfl,rfl,rfl⟩
    .rcases hl with e|⟨aS,_,e|e⟩|⟨e,_⟩<;>cases e
     refine⟨rfl,rfl,rfl,λhk lO hp=>?_⟩;have Sw:ch a=none:=hp a aN;have oI:∀j,j<n->qa qs j≠a:=λj hj e=>by grind
     have eK:∀j,j<n->ix j≠kk:=λj hj e=>by have:=ho.at_ j hj;simp_all
     have Jv:∀j,j<n+1->j<n\/j=n:=λj hj=>by omega
     refine .a (n+1) (qs++[a]) (λj=>if j<n then ix j else kk) _ ⟨by simp[hq.len],λj j' hj qM e=>?_⟩ aS (.inl rfl) ?_ ⟨λj hj=>?_,λj j' hj qM e=>?_,λj hj=>?_⟩ (λj hj=>?_) λi' g0 g1=>?_
     .rcases Jv j hj with h|rfl<;>rcases Jv j' qM with h'|rfl
      .rw[Vo hq.len h,Vo hq.len h'] at e;exact hq.inj j j' h h' e
      .rw[Vo hq.len h,zgF hq.len] at e;exact(oI j h e).elim
      .rw[Vo hq.len h',zgF hq.len] at e;simp_all
      .rfl
     .rw[upd_ne _ _ (Ne.symm lO),upd_same]
     .show(if j<n then ix j else kk)≠0
      split
      .rename_i h;exact ho.ne j h
      .exact lO
     .have e:(if j<n then ix j else kk)=(if j'<n then ix j' else kk):=e
      rcases Jv j hj with h|rfl<;>rcases Jv j' qM with h'|rfl
      .rw[if_pos h,if_pos h'] at e;exact ho.inj j j' h h' e
      .simp_all
      .grind
      .rfl
     .rcases Jv j hj with h|rfl
      .simp only[if_pos h]
       rw[upd_ne _ _ (eK j h),upd_ne _ _ (ho.ne j h),Vo hq.len h];exact ho.at_ j h
      .simp only[Ij,if_false]
       rw[upd_same,zgF hq.len,hq.len]
     .rcases Jv j hj with h|rfl
      .rw[Vo hq.len h,ztk (oI j h)];exact hc j h
      .rw[zgF hq.len];exact zse _ _
     .have e1:i'≠kk:=λe=>by have:=g1 n (Nat.lt_succ_self _);grind
      rw[upd_ne _ _ e1,upd_ne _ _ g0]
      grind
    .rcases hl with e|⟨aS,_,e|e⟩|⟨e,rfl⟩<;>cases e
     refine⟨rfl,rfl,rfl,λhk lO hp=>?_⟩;have eK:∀j,j<n->ix j≠kk:=λj hj e=>by have:=ho.at_ j hj;simp_all
     rw[zxf];refine .b qs ix kk 0 hq (lP _) lO eK (.inl ?_) (.inl (upd_same _ _ _)) ⟨ho.ne,ho.inj,λj hj=>?_⟩ hc λi' g0 g1 g2=>?_
     .rw[upd_ne _ _ (Ne.symm lO),upd_same]
     .rw[upd_ne _ _ (eK j hj),upd_ne _ _ (ho.ne j hj)];exact .inl (ho.at_ j hj)
     .rw[upd_ne _ _ g1,upd_ne _ _ g0];exact hg i' g0 g2
   simp_all
  |b qs ix iw k hq hk hw aU h0 cP ho hc hg=>
   exfalso;rcases Mz h0 cP ho hg hi with⟨_,rfl⟩|⟨_,rfl⟩|⟨j,hj,_,rfl|⟨_,rfl⟩⟩<;>rcases ha with⟨_,_,e,_⟩|⟨_,e,_⟩<;>cases e
  |c qs ix iw k i0 kd cl anz a hq hk hw aU h0 cP ho hc qL oI hg=>
   exfalso;rcases Qy h0 cP ho hg hi with⟨_,rfl⟩|⟨_,rfl⟩|⟨j,hj,_,⟨_,rfl⟩|⟨_,rfl|⟨_,rfl⟩⟩⟩<;>rcases ha with⟨_,_,e,_⟩|⟨_,e,_⟩<;>cases e
 done:=by
  intro q ch i l hI hi ha;have fV:=zzC ha
  cases hI with
  |a n qs ix l0 hq hn hl h0 ho hc hg=>
   exfalso;rcases P3 hl h0 ho hg hi with⟨rfl,rfl⟩|⟨j,hj,rfl,rfl⟩
   .grind
   .cases ha
  |b qs ix iw k hq hk hw aU h0 cP ho hc hg=>
   rcases Mz h0 cP ho hg hi with⟨_,rfl⟩|⟨rfl,rfl⟩|⟨j,hj,rfl,rfl|⟨hx,rfl⟩⟩
   .cases ha
   .rcases fV with e|⟨_,_,e,h1⟩
    .cases e
    .cases e
     have zcr:k=W.length:=by have:=List.getElem?_eq_none_iff.1 h1;omega
     refine⟨hw,.b qs ix i k hq hk hw aU ?_ (.inr ⟨zcr,upd_same _ _ _⟩) ⟨ho.ne,ho.inj,λj hj=>?_⟩ hc λi' g0 g1 g2=>?_⟩
     .rw[upd_ne _ _ (Ne.symm hw)];exact h0
     .rw[upd_ne _ _ (aU j hj)];exact ho.at_ j hj
     .rw[upd_ne _ _ g1];exact hg i' g0 g1 g2
   .cases ha
   .refine⟨ho.ne j hj,.b qs ix iw k hq hk hw aU ?_ ?_ ⟨ho.ne,ho.inj,λj' qM=>?_⟩ hc λi' g0 g1 g2=>?_⟩
    .rw[upd_ne _ _ (Ne.symm (ho.ne j hj))];exact h0
    .rw[upd_ne _ _ (Ne.symm (aU j hj))];exact cP
    .by_cases e:j'=j
     .subst e;rw[upd_same];exact .inr ⟨hx,.inr rfl⟩
     .rw[upd_ne _ _ (λh=>e (ho.inj j' j qM hj h))];exact ho.at_ j' qM
    .rw[upd_ne _ _ (g2 j hj)];exact hg i' g0 g1 g2
  |c qs ix iw k i0 kd cl anz a hq hk hw aU h0 cP ho hc qL oI hg=>
   rcases Qy h0 cP ho hg hi with⟨_,rfl⟩|⟨rfl,rfl⟩|⟨j,hj,rfl,⟨_,rfl⟩|⟨Pt,rfl|⟨hx,rfl⟩⟩⟩
   .cases ha
   .cases ha
   .cases ha
   .cases ha
   .refine⟨ho.ne j hj,.c qs ix iw k i0 kd cl anz a hq hk hw aU ?_ ?_ ⟨ho.ne,ho.inj,λj' qM=>?_⟩ hc qL oI λi' g0 g1 g2=>?_⟩
    .rw[upd_ne _ _ (Ne.symm (ho.ne j hj))];exact h0
    .rw[upd_ne _ _ (Ne.symm (aU j hj))];exact cP
    .by_cases e:j'=j
     .subst e;rw[if_neg Pt,upd_same];exact .inr ⟨hx,.inr rfl⟩
     .rw[upd_ne _ _ (λh=>e (ho.inj j' j qM hj h))];exact ho.at_ j' qM
    .rw[upd_ne _ _ (g2 j hj)];exact hg i' g0 g1 g2
 note:=by
  intro q ch i l can l' hI hi ha zEo;obtain⟨Pv,rfl,aS,rfl⟩:=zz9 ha;obtain⟨a,rfl⟩:=zEo;refine⟨rfl,?_⟩
  cases hI with
  |a n qs ix l0 hq hn hl h0 ho hc hg=>
   rcases P3 hl h0 ho hg hi with⟨rfl,rfl⟩|⟨j,hj,rfl,e⟩
   .rcases hl with e|⟨_,_,e|e⟩|⟨e,_⟩<;>cases e
    exact .a n Pv ix _ hq hn (.inr (.inl ⟨by have:=hq.len;omega,a,.inl rfl⟩)) (upd_same _ _ _) ⟨ho.ne,ho.inj,λj hj=>by rw[upd_ne _ _ (ho.ne j hj)];exact ho.at_ j hj⟩ hc λi' g0 g1=>by rw[upd_ne _ _ g0];exact hg i' g0 g1
   .cases e
  |b qs ix iw k hq hk hw aU h0 cP ho hc hg=>
   exfalso;rcases Mz h0 cP ho hg hi with⟨_,e⟩|⟨_,e⟩|⟨j,hj,_,e|⟨_,e⟩⟩<;>cases e
  |c qs ix iw k i0 kd cl anz a hq hk hw aU h0 cP ho hc qL oI hg=>
   exfalso;rcases Qy h0 cP ho hg hi with⟨_,e⟩|⟨_,e⟩|⟨j,hj,_,⟨_,e⟩|⟨_,e|⟨_,e⟩⟩⟩<;>cases e
 wait:=by
  intro q ch i l hI hi ha;obtain rfl:=zIw ha
  cases hI with
  |a n qs ix l0 hq hn hl h0 ho hc hg=>
   exfalso;rcases P3 hl h0 ho hg hi with⟨rfl,e⟩|⟨j,hj,rfl,e⟩
   .grind
   .cases e
  |b qs ix iw k hq hk hw aU h0 cP ho hc hg=>
   rcases Mz h0 cP ho hg hi with⟨rfl,_⟩|⟨_,e⟩|⟨j,hj,_,e|⟨_,e⟩⟩
   .refine⟨rfl,rfl,.b qs ix iw k hq hk hw aU (.inr (upd_same _ _ _)) ?_ ⟨ho.ne,ho.inj,λj hj=>?_⟩ hc λi' g0 g1 g2=>?_⟩
    .rw[upd_ne _ _ hw];exact cP
    .rw[upd_ne _ _ (ho.ne j hj)];exact ho.at_ j hj
    .rw[upd_ne _ _ g0];exact hg i' g0 g1 g2
   all_goals cases e
  |c qs ix iw k i0 kd cl anz a hq hk hw aU h0 cP ho hc qL oI hg=>
   rcases Qy h0 cP ho hg hi with⟨rfl,_⟩|⟨_,e⟩|⟨j,hj,_,⟨_,e⟩|⟨_,e|⟨_,e⟩⟩⟩
   .refine⟨rfl,rfl,.c qs ix iw k i0 kd cl anz a hq hk hw aU (.inr (upd_same _ _ _)) ?_ ⟨ho.ne,ho.inj,λj hj=>?_⟩ hc qL oI λi' g0 g1 g2=>?_⟩
    .rw[upd_ne _ _ hw];exact cP
    .rw[upd_ne _ _ (ho.ne j hj)];exact ho.at_ j hj
    .rw[upd_ne _ _ g0];exact hg i' g0 g1 g2
   all_goals cases e
 prog:=by
  intro q ch hI hB
  cases hI with
  |a n qs ix l0 hq hn hl h0 ho hc hg=>exact(zxO (zlA hl) (hB 0 l0 h0)).elim
  |b qs ix iw k hq hk hw aU h0 cP ho hc hg=>
   have hz:q 0=.waits:=h0.resolve_left λe=>zxO (.inr (.inr (.inr (.inr rfl)))) (hB 0 _ e);have zAE:k=W.length:=by
    rcases cP with e|⟨e,_⟩
    .have h1:=hB iw _ e
     cases hx:W[k]? with
     |none=>grind
     |some x=>
      exfalso
      cases x with
      |ask i kd cl anz=>
       obtain⟨hi,Ah,_⟩:=hW.ask k i kd cl anz hx;unfold jM.Blocked C3 at h1;simp only[eO,hx] at h1;refine h1 ⟨ix i,.op (qa qs i) (lI W k i) (nY W k i),_,_,_,?_,rfl⟩;rcases ho.at_ i hi with h2|⟨h2,_⟩
       .exact h2
       simp_all
      |shut i=>
       unfold jM.Blocked C3 at h1;simp only[eO,hx] at h1
    .exact e
   subst zAE;refine⟨hz,λi l hi=>?_⟩;have h1:=hB i l hi;rcases Mz h0 cP ho hg hi with⟨rfl,_⟩|⟨_,rfl⟩|⟨j,hj,rfl,rfl|⟨_,rfl⟩⟩
   .rw[hz] at hi;cases hi
   .unfold jM.Blocked C3 at h1
    simp[eO] at h1
   .unfold jM.Blocked C3 at h1
    simp only[eO] at h1;rw[hc j hj,hW.all j hj] at h1;simp_all
   .unfold jM.Blocked C3 at h1
    simp[eO] at h1
  |c qs ix iw k i0 kd cl anz a hq hk hw aU h0 cP ho hc qL oI hg=>
   exfalso;obtain⟨eR,_,_⟩:=hW.ask k i0 kd cl anz hk;have h2:=ho.at_ i0 eR;rw[if_pos rfl] at h2;have h1:=hB (ix i0) _ h2;unfold jM.Blocked C3 at h1;simp only[eO] at h1;exact h1 ⟨iw,.wr qs k a,_,_,_,cP,rfl⟩
 pendC:=by
  intro l l' c v ok pub nx ha hl;subst hl;rcases zk9 ha with⟨c0,call,m,rfl,rfl,rfl,rfl⟩|⟨qs,k,i,kd,cl,anz,rfl,h1,rfl,rfl,rfl,rfl⟩
  .rfl
  .show(Wb qs k v).pend=false
   unfold Wb;split<;>rfl
 pendR:=by
  intro l l' c v ok nx sh ha hl;rcases X4 ha with⟨call,m,rfl,rfl,rfl,rfl⟩|⟨qs,k,rfl,rfl,rfl,rfl⟩
  .rcases hl with rfl|rfl
   .show(Tu c call m v).pend=false
    unfold Tu;split<;>rfl
   .rfl
  .rcases hl with rfl|rfl<;>rfl
 pendX:=by
  intro l c nx ha;obtain⟨qs,k,i,rfl,_,_,rfl⟩:=zsd ha;rfl
 few:=by
  intro q ch hI m;have key:∀(n iw:Nat) (ix:Nat->Nat),n<=N->(∀i,i≠0->i≠iw->(∀j,j<n->i≠ix j)->q i=.gone)->num q m<2000000000:=λn iw ix hn hg=>by
   have:=zGY (0::iw::(iQ n).map ix) q (λi hi=>by
    simp only[mD,not_or,Ug,El,not_exists,not_and] at hi;exact hg i hi.1 hi.2.1 λj hj e=>hi.2.2 j hj e.symm) m
   grind
  cases hI with
  |a n qs ix l0 hq hn hl h0 ho hc hg=>exact key n 0 ix hn λi h1 _ h3=>hg i h1 h3
  |b qs ix iw k hq hk hw aU h0 cP ho hc hg=>exact key N iw ix (bF _) hg
  |c qs ix iw k i0 kd cl anz a hq hk hw aU h0 cP ho hc qL oI hg=>exact key N iw ix (bF _) hg
 gotP:=by
  intro q ch i j li lj c ok pub nx sN pY sh v hI hi hj ha hb hv a hx
  cases hI with
  |a n qs ix l0 hq hn hl h0 ho hc hg=>exact(zhq hl h0 ho hg hi ha).elim
  |b qs ix iw k hq hk hw aU h0 cP ho hc hg=>
   obtain⟨rfl,rfl,j0,kd,cl,anz,h1,rfl,rfl,rfl,rfl⟩:=zc9 h0 cP ho hg hi ha;obtain⟨j1,Kf,rfl,rfl,_⟩:=Vh h0 cP ho hg hj hb;exact hx
  |c qs ix iw k i0 kd cl anz a' hq hk hw aU h0 cP ho hc qL oI hg=>
   obtain⟨eR,rfl,rfl,rfl,rfl,rfl,rfl⟩:=zbI h0 cP ho hg hi ha;rcases Zo h0 cP ho hg hj hb with⟨rfl,rfl,_⟩|⟨j1,Kf,_,rfl,_,wR,_⟩
   .cases hx
   grind
end
end Go.Mt
namespace Go.Proofs.YtfcjiloojkjaeaaGreatDoor
open Go.RowKit Go.Mt
def y3 (op:Int):Nat:=(op-1).toNat
def H5 (b:bY)(op:Int):List fK:=
 .ask (y3 op) 0 0 (dO b.recs op)::(if 0<dO b.recs op then[] else match b.wait with|[]=>[]|c::_=>[.ask (y3 op) 1 c.c c.c])
def Dw (b:bY)(op:Int):List fK:=
 .ask (y3 op) 0 0 (dO b.recs op)::(if 0<dO b.recs op then[] else match b.back with|[]=>[]|c::_=>match oT b.o b.recs with|[]=>[]|_::_=>[.ask (y3 op) 1 c.c c.c])
def Dz (b:bY)(c:Int):List fK:=
 match hY b.recs c with
 |some i=>if 0<opAt b.recs i then[.ask (y3 (opAt b.recs i)) 1 0 0] else[]
 |none=>[]
def pP (b:bY)(e:dI):List fK:=
 if e.k.toList=zW then[] else if e.k.toList=H7 then H5 b e.a else if e.k.toList=Bq then Dw b e.a else if e.k.toList=D5 then Dz b e.a else[]
def rW (o:fQ)(es:List dI):Nat->List fK
 |0=>[]
 |k+1=>rW o es k++(match es[k]? with|some e=>pP (iI o es k) e|none=>[])
def zK (b:bY):Nat->List fK
 |0=>[]
 |n+1=>zK b n++[.ask n 0 0 (dO b.recs ((n:Int)+1)),.shut n]
def Cj (o:fQ)(es:List dI):List fK:=rW o es es.length++zK (Ja o es) o.op.toNat
theorem zlG (A B:List fK)(i:Nat):∀k,k<=A.length->lI (A++B) k i=lI A k i:=by
 intro k
 induction k with
 |zero=>intro _;rfl
 |succ k ih=>
  intro hk;simp only[lI]
  grind
theorem Vj (A B:List fK)(i:Nat):∀k,k<=A.length->fT (A++B) k i=fT A k i:=by
 intro k
 induction k with
 |zero=>intro _;rfl
 |succ k ih=>
  intro hk;simp only[fT]
  grind
theorem ze4 (A:List fK)(x:fK):(A++[x])[A.length]? =some x:=by simp_all
structure WP (N:Nat)(A:List fK):Prop where
 ask:∀(k i:Nat) (kd cl anz:Int),A[k]? =some (.ask i kd cl anz)->i<N/\fT A k i=false/\anz=lI A (k+1) i
 shut:∀(k i:Nat),A[k]? =some (.shut i)->i<N/\fT A k i=false
variable {N:Nat}{A:List fK}
theorem WP.snoc {x:fK}(h:WP N A)(h1:∀i kd cl anz,x=.ask i kd cl anz->i<N/\fT A A.length i=false/\anz=lI (A++[x]) (A.length+1) i)(h2:∀i,x=.shut i->i<N/\fT A A.length i=false):WP N (A++[x]):=by
 have key:∀(k:Nat) (y:fK),(A++[x])[k]? =some y->(k<A.length/\A[k]? =some y)\/(k=A.length/\y=x):=λk y hk=>by grind
 refine⟨λk i kd cl anz hk=>?_,λk i hk=>?_⟩
 .rcases key k _ hk with⟨hl,cU⟩|⟨rfl,e⟩
  .obtain⟨a1,a2,a3⟩:=h.ask k i kd cl anz cU
   exact⟨a1,by rw[Vj _ _ _ _ aC];exact a2,by rw[zlG _ _ _ _ aC];exact a3⟩
  .obtain⟨a1,a2,a3⟩:=h1 i kd cl anz e.symm
   exact⟨a1,by rw[Vj _ _ _ _ (bF _)];exact a2,a3⟩
 .rcases key k _ hk with⟨hl,cU⟩|⟨rfl,e⟩
  .obtain⟨a1,a2⟩:=h.shut k i cU
   exact⟨a1,by rw[Vj _ _ _ _ aC];exact a2⟩
  .obtain⟨a1,a2⟩:=h2 i e.symm
   exact⟨a1,by rw[Vj _ _ _ _ (bF _)];exact a2⟩
theorem Zx (A:List fK)(j:Nat)(kd cl anz:Int)(i:Nat):lI (A++[.ask j kd cl anz]) (A.length+1) i=if i=j then(if kd=1 then cl else lI A A.length i) else lI A A.length i:=by
 simp only[lI,ze4];rw[zlG _ _ _ _ (bF _)]
theorem zis (A:List fK)(j:Nat)(kd cl anz:Int)(i:Nat):fT (A++[.ask j kd cl anz]) (A.length+1) i=fT A A.length i:=by
 simp only[fT,ze4];rw[Vj _ _ _ _ (bF _)]
theorem zC1 (A:List fK)(j i:Nat):lI (A++[.shut j]) (A.length+1) i=lI A A.length i:=by
 simp only[lI,ze4];rw[zlG _ _ _ _ (bF _)]
theorem zIG (A:List fK)(j i:Nat):fT (A++[.shut j]) (A.length+1) i=if i=j then true else fT A A.length i:=by
 simp only[fT,ze4];rw[Vj _ _ _ _ (bF _)]
def Jj (N:Nat)(rs:List bR)(A:List fK):Prop:=∀i,i<N->lI A A.length i=dO rs ((i:Int)+1)/\fT A A.length i=false
def zdv (A:List fK)(x:fK):(A++[x]).length=A.length+1:=aN
variable {rs:List bR}{i:Nat}
theorem WP.who (h:WP N A)(ht:Jj N rs A)(hi:i<N):WP N (A++[.ask i 0 0 (dO rs ((i:Int)+1))])/\Jj N rs (A++[.ask i 0 0 (dO rs ((i:Int)+1))]):=by
 obtain⟨t1,t2⟩:=ht i hi;refine⟨h.snoc (λj kd cl anz e=>?_) (λj e=>by cases e),λj hj=>?_⟩
 .cases e
  exact⟨hi,t2,by rw[Zx,if_pos rfl,if_neg aH,t1]⟩
 .obtain⟨s1,s2⟩:=ht j hj
  rw[zdv,Zx,zis];simp_all
variable {Mj:List bR}
theorem WP.tell (h:WP N A)(ht:Jj N rs A)(hi:i<N){c:Int}(h1:dO Mj ((i:Int)+1)=c)(h2:∀j:Nat,j<N->j≠i->dO Mj ((j:Int)+1)=dO rs ((j:Int)+1)):WP N (A++[.ask i 1 c c])/\Jj N Mj (A++[.ask i 1 c c]):=by
 obtain⟨t1,t2⟩:=ht i hi;refine⟨h.snoc (λj kd cl anz e=>?_) (λj e=>by cases e),λj hj=>?_⟩
 .cases e
  exact⟨hi,t2,by rw[Zx,if_pos rfl,if_pos rfl]⟩
 .obtain⟨s1,s2⟩:=ht j hj
  rw[zdv,Zx,zis]
  grind
def Jj.same (ht:Jj N rs A)(h:∀j:Nat,j<N->dO Mj ((j:Int)+1)=dO rs ((j:Int)+1)):Jj N Mj A:=λi hi=>⟨(ht i hi).1.trans (h i hi).symm,(ht i hi).2⟩
variable {op:Int}
theorem zxi {r:bR}(h:r.o≠op):dO (rs++[r]) op=dO rs op:=by
 unfold dO;have hn:[r].find? (xJ op)=none:=by
  rw[zeL];intro x hx;obtain rfl:=yX.1 hx;unfold xJ;simp[h]
 simp_all
variable {b:bY}
def jA.one (h:jA b)(hop:0<op):∀(i j:Nat) (d e:bR),b.recs[i]? =some d->b.recs[j]? =some e->eD d=true->eD e=true->d.o=op->e.o=op->i=j:=
 λi j d e h1 h2 h3 h4 h5 h6=>h.opn i j d e h1 h2 h3 h4 (.inr (.inr ⟨h5.trans h6.symm,aC⟩))
theorem zuQ (hu:∀(i j:Nat) (d e:bR),Mj[i]? =some d->Mj[j]? =some e->eD d=true->eD e=true->d.o=op->e.o=op->i=j)
 (h1:∀(i:Nat) (d:bR),rs[i]? =some d->eD d=true->d.o=op->Mj[i]? =some d) (h2:∀(i:Nat) (d:bR),Mj[i]? =some d->eD d=true->d.o=op->rs[i]? =some d):dO Mj op=dO rs op:=by
 rcases zqu rs op with⟨i,d,a1,a2,a3,a4⟩|⟨a1,a2⟩
 .rw[a4];exact znx hu (h1 i d a1 a2 a3) a2 a3
 .rw[a2]
  exact zrN λi d hd ho e=>a1 i d (h2 i d hd ho e) ho e
variable {d:bR}{e:ByteArray}
theorem zj7 (h:jA b)(hd:b.recs[i]? =some d)(he:(e.toList==[111,112,101,110])=false)(hop:0<op)(aU:d.o≠op):dO (Dj b i e) op=dO b.recs op:=by
 have old:∀(j:Nat) (z:bR),(Dj b i e)[j]? =some z->eD z=true->b.recs[j]? =some z:=λj z hj hz=>by
  obtain⟨d',h1,⟨_,rfl⟩|⟨h2,rfl⟩⟩:=Gy hj
  .have It:eD {d' with t:=b.clk,e:=e}=false:=he
   simp_all
  .exact h1
 refine zuQ (λp q x y hp hq hx hy h5 h6=>h.one hop p q x y (old p x hp hx) (old q y hq hy) hx hy h5 h6) (λj z hj hz e=>?_) (λj z hj hz _=>old j z hj hz);exact Yn hj λe2=>by simp_all
theorem zCz (h:jA b)(hd:b.recs[i]? =some d)(zec:eD d=true)(he:(e.toList==[111,112,101,110])=false)(hop:0<d.o):dO (Dj b i e) d.o=0:=by
 refine zrN λj z hj hz e2=>?_;obtain⟨d',h1,⟨_,rfl⟩|⟨h2,rfl⟩⟩:=Gy hj
 .have It:eD {d' with t:=b.clk,e:=e}=false:=he
  rw[It] at hz;cases hz
 .exact h2 (h.one hop i j d z hd h1 zec hz rfl e2)
theorem zHP (hop:0<op):∀(xs:List bE) (b:bY) (t:List UInt8),jA b->(xs.map bE.c).Nodup->(∀x∈xs,x∈b.wait)->dO (xs.foldl jV (b,t)).1.recs op=dO b.recs op:=by
 intro xs
 induction xs with
 |nil=>intro b t h _ _;rfl
 |cons x xs ih=>
  intro b t h hn hx;rw[Oq];have hS:=h.tire (t:=t) (x:=x);rw[gT,C6] at hn;have key:dO (jV (b,t) x).1.recs op=dO b.recs op/\∀y∈xs,y∈(jV (b,t) x).1.wait:=by
   have Gw:∀y∈xs,y∈b.wait:=λy hy=>hx y (Sd _ hy);obtain⟨i0,d0,w1,w2,w3,w4⟩:=h.wt x (hx x aN);have fC:hY b.recs x.c=some i0:=by rw[<-w3];exact h.at_ w1 w2
   unfold jV;simp only[fC];split
   .refine⟨zj7 h w1 zg6 hop aC,λy hy=>?_⟩
    show y∈dS b.wait (He b.recs i0);unfold dS;rw[L8,Tm w1,w3];simp_all
   .exact⟨rfl,Gw⟩
  simp_all
structure Re (b:bY):Prop where
 op:∀d∈b.recs,0<=d.o/\d.o<=b.o.op
 n1:1<=b.o.op
def zwV (A B:List fK)(x:fK):A++x::B=(A++[x])++B:=aN
theorem zIc {e:dI}(hS:jA b)(hr:RInv b)(hB:Re b)(hN:b.o.op=(N:Int))(he:q9 b.o.op e=true)(hw:WP N A)(ht:Jj N b.recs A):
 WP N (A++pP b e)/\Jj N (dK b e).1.recs (A++pP b e)/\Re (dK b e).1:=by
 have ziz:∀op:Int,1<=op->op<=b.o.op->y3 op<N/\((y3 op:Nat):Int)+1=op:=λop h1 h2=>by unfold y3;omega
 by_cases h1:e.k.toList=zW
 .unfold pP dK
  rw[if_pos h1,if_pos h1,Nv];refine⟨hw,?_⟩;unfold pE;split
  .simp_all
  .split
   .exact⟨ht,⟨hB.op,hB.n1⟩⟩
   .rename_i l ls hf
    refine⟨ht.same λj hj=>zxi sU,⟨λd hd=>?_,hB.n1⟩⟩;rcases K3.1 hd with hd|hd
    .exact hB.op d hd
    simp_all
 by_cases h2:e.k.toList=H7
 .obtain⟨o1,o2⟩:=zhj he (.inl h2)
  obtain⟨i1,i2⟩:=ziz e.a o1 o2;have Dm:¬e.k.toList=zW:=h1;unfold pP dK;rw[if_neg h1,if_neg h1,if_pos h2,if_pos h2];unfold H5 nH;obtain⟨k1,k2⟩:=hw.who ht i1;rw[i2] at k1 k2;by_cases hp:0<dO b.recs e.a
  .simp_all
  .rw[if_neg hp,if_neg hp]
   cases cE:b.wait with
   |nil=>exact⟨k1,k2,hB⟩
   |cons c cs=>
    obtain⟨i0,d0,w1,w2,w3,w4⟩:=hS.wt c Yx;have fC:hY b.recs c.c=some i0:=by rw[<-w3];exact hS.at_ w1 w2
    simp only[fC];rw[zwV];have hn:=zhA (λd hd=>(hr.recB d hd).1) hp;have Pd:=hS.heard (hh:=b.clk) w1 w2 hn (wait:=[]) (λx hx=>by cases hx);have r1:dO (b.recs.modify i0 λd=>{d with o:=e.a,h:=b.clk}) (((y3 e.a:Nat):Int)+1)=c.c:=by
     rw[i2];have:=znx (rs:=b.recs.modify i0 λd=>{d with o:=e.a,h:=b.clk}) (op:=e.a) (λp q x y=>Pd.one aC p q x y) (zgZ w1) w2 rfl;rw[this];exact w3
    have r2:∀j:Nat,j<N->j≠y3 e.a->dO (b.recs.modify i0 λd=>{d with o:=e.a,h:=b.clk}) ((j:Int)+1)=dO b.recs ((j:Int)+1):=λj hj aU=>by
     have zbF:(j:Int)+1≠e.a:=λh=>aU (by unfold y3;omega);refine zuQ (λp q x y=>Pd.one aC p q x y) (λp z hz zbO zAU=>?_) (λp z hz zbO zAU=>?_)
     .grind
     grind
    obtain⟨m1,m2⟩:=k1.tell k2 i1 r1 r2;refine⟨m1,m2,⟨λd hd=>?_,hB.n1⟩⟩;obtain⟨d',K7,rfl|rfl⟩:=S7 hd
    .exact hB.op _ K7
    grind
 by_cases h3:e.k.toList=Bq
 .obtain⟨o1,o2⟩:=zhj he (.inr h3)
  obtain⟨i1,i2⟩:=ziz e.a o1 o2;unfold pP dK;rw[if_neg h1,if_neg h1,if_neg h2,if_neg h2,if_pos h3,if_pos h3];unfold Dw l8;obtain⟨k1,k2⟩:=hw.who ht i1;rw[i2] at k1 k2;by_cases hp:0<dO b.recs e.a
  .simp_all
  .rw[if_neg hp,if_neg hp]
   cases uX:b.back with
   |nil=>exact⟨k1,k2,hB⟩
   |cons c cs=>
    cases hf:oT b.o b.recs with
    |nil=>exact⟨k1,k2,hB⟩
    |cons l ls=>
     simp only;rw[zwV];have hn:=zhA (λd hd=>(hr.recB d hd).1) hp;have Pd:=hS.more (c:=c.c) (l:=l) (o:=e.a) (hh:=b.clk) (tt:=-1) (clk:=b.clk) (hS.bo c zbK) (zkS Y7) (.inr hn) (wait:=[]) (back:=[]) (λx hx=>by cases hx) X7 (λx hx=>by cases hx);have r1:dO (b.recs++[⟨c.c,l,e.a,b.clk,b.clk,-1,eJ⟩]) (((y3 e.a:Nat):Int)+1)=c.c:=by
      rw[i2];exact znx (rs:=b.recs++[⟨c.c,l,e.a,b.clk,b.clk,-1,eJ⟩]) (op:=e.a) (λp q x y=>Pd.one aC p q x y) (i:=b.recs.length) (d:=⟨c.c,l,e.a,b.clk,b.clk,-1,eJ⟩) tD (by unfold eD;rw[zcT];rfl) rfl
     have r2:∀j:Nat,j<N->j≠y3 e.a->dO (b.recs++[⟨c.c,l,e.a,b.clk,b.clk,-1,eJ⟩]) ((j:Int)+1)=dO b.recs ((j:Int)+1):=λj hj aU=>
      zxi sU
     obtain⟨m1,m2⟩:=k1.tell k2 i1 r1 r2;refine⟨m1,m2,⟨λd hd=>?_,hB.n1⟩⟩;rcases K3.1 hd with hd|hd
     .exact hB.op d hd
     grind
 by_cases h4:e.k.toList=D5
 .unfold pP dK
  rw[if_neg h1,if_neg h1,if_neg h2,if_neg h2,if_neg h3,if_neg h3,if_pos h4,if_pos h4];unfold Dz mH
  cases fC:hY b.recs e.a with
  |none=>
   simp only;rw[Nv];split
   .exact⟨hw,ht,⟨hB.op,hB.n1⟩⟩
   simp_all
  |some i=>
   obtain⟨d,g1,g2,g3⟩:=zA fC;have ho:opAt b.recs i=d.o:=by unfold opAt;rw[g1]
   have zvm:∀(x:ByteArray),∀z∈Dj b i x,0<=z.o/\z.o<=b.o.op:=λx z hz=>by
    obtain⟨d',K7,rfl|rfl⟩:=S7 hz
    .exact hB.op _ K7
    .exact hB.op d' K7
   simp only[ho];by_cases hp:0<d.o
   .rw[if_pos hp,if_pos hp]
    obtain⟨i1,i2⟩:=ziz d.o aC (hB.op d (fN g1)).2;have r1:dO (Dj b i Dr) (((y3 d.o:Nat):Int)+1)=0:=by rw[i2];exact zCz hS g1 g3 zfE hp
    have r2:∀j:Nat,j<N->j≠y3 d.o->dO (Dj b i Dr) ((j:Int)+1)=dO b.recs ((j:Int)+1):=λj hj aU=>zj7 hS g1 zfE aC (λh=>aU (by unfold y3;omega));obtain⟨m1,m2⟩:=hw.tell ht i1 r1 r2;exact⟨m1,m2,⟨zvm _,hB.n1⟩⟩
   .rw[if_neg hp,if_neg hp,Nv]
    exact⟨hw,ht.same λj hj=>zj7 hS g1 zls aC aC,⟨zvm _,hB.n1⟩⟩
 .unfold pP dK
  rw[if_neg h1,if_neg h1,if_neg h2,if_neg h2,if_neg h3,if_neg h3,if_neg h4,if_neg h4,Nv];unfold tN;have Pd:jA {b with clk:=b.clk+e.a}:=⟨hS.opn,hS.last,hS.wt,hS.bk,hS.bo⟩;refine⟨hw,ht.same λj hj=>zHP aC b.wait {b with clk:=b.clk+e.a} _ Pd hr.nodup (λx hx=>hx),?_⟩;have key:∀(xs:List bE) (b':bY) (t:List UInt8),Re b'->Re (xs.foldl jV (b',t)).1:=by
   intro xs
   induction xs with
   |nil=>intro b' t h;exact h
   |cons x xs ih=>
    intro b' t h;rw[Oq];have h9:Re (jV (b',t) x).1:=by
     unfold jV;split
     .exact h
     .split
      .refine⟨λz hz=>?_,h.n1⟩
       obtain⟨d',K7,rfl|rfl⟩:=S7 hz
       .exact h.op _ K7
       .exact h.op d' K7
      .exact h
    simp_all
  exact key _ _ _ ⟨hB.op,hB.n1⟩
variable {o:fQ}{es:List dI}
theorem zsW (h:eM o es=true)(hN:o.op=(N:Int)):∀k,k<=es.length->WP N (rW o es k)/\Jj N (iI o es k).recs (rW o es k)/\Re (iI o es k):=by
 intro k;have bS:=h;unfold eM at bS;simp only[jF,List.all_eq_true] at bS
 induction k with
 |zero=>
  intro _;refine⟨⟨λk i kd cl anz h=>by simp[rW] at h,λk i h=>by simp[rW] at h⟩,λi hi=>⟨rfl,rfl⟩,⟨λd hd=>by simp[iI,lR] at hd,?_⟩⟩;have:=bS.1.1;unfold sP at this;simp at this;show 1<=o.op;omega
 |succ k ih=>
  intro hk;have aS:k<es.length:=aC;have he:=mV aS;obtain⟨a1,a2,a3⟩:=ih aC;obtain⟨b1,_,b3⟩:=Ih h k aC;have:=zIc (zgA h k aC) b1 a3 (by rw[b3];exact hN) (by rw[b3];exact bS.2 es[k] (zrU aS)) a1 a2;rw[Me he];unfold rW;rw[he];exact⟨this.1,this.2.1,⟨this.2.2.op,this.2.2.n1⟩⟩
theorem endA_ok (hw:WP N A)(ht:Jj N b.recs A):∀n,n<=N->WP N (A++zK b n)/\(∀i,i<N->lI (A++zK b n) (A++zK b n).length i=dO b.recs ((i:Int)+1))/\(∀i,fT (A++zK b n) (A++zK b n).length i=if i<n then true else fT A A.length i):=by
 intro n
 induction n with
 |zero=>intro _;simp only[zK,Nv];exact⟨hw,λi hi=>(ht i hi).1,λi=>by simp⟩
 |succ n ih=>
  intro hn;obtain⟨k1,k2,k3⟩:=ih aC;have e:A++zK b (n+1)=(A++zK b n++[fK.ask n 0 0 (dO b.recs ((n:Int)+1))])++[.shut n]:=by simp[zK]
  rw[e];generalize A++zK b n=B at*;have hx:fT B B.length n=false:=by rw[k3 n,if_neg (Ij _)];exact(ht n aC).2
  have w1:WP N (B++[fK.ask n 0 0 (dO b.recs ((n:Int)+1))]):=k1.snoc (λj kd cl anz e=>by cases e;exact⟨aC,hx,by rw[Zx,if_pos rfl,if_neg aH,k2 n aC]⟩) (λj e=>by cases e);have l1:=zdv B (fK.ask n 0 0 (dO b.recs ((n:Int)+1)));have x1:∀i,fT (B++[fK.ask n 0 0 (dO b.recs ((n:Int)+1))]) (B++[fK.ask n 0 0 (dO b.recs ((n:Int)+1))]).length i=fT B B.length i:=λi=>by rw[l1,zis]
  have c1:∀i,lI (B++[fK.ask n 0 0 (dO b.recs ((n:Int)+1))]) (B++[fK.ask n 0 0 (dO b.recs ((n:Int)+1))]).length i=lI B B.length i:=λi=>by
   rw[l1,Zx];omega
  generalize B++[fK.ask n 0 0 (dO b.recs ((n:Int)+1))]=B2 at*;refine⟨w1.snoc (λj kd cl anz e=>by cases e) (λj e=>by grind),λi hi=>?_,λi=>?_⟩
  .rw[zdv,zC1,c1];exact k2 i hi
  .rw[zdv,zIG,x1,k3 i]
   grind
theorem zIA (h:eM o es=true):WOk o.op.toNat (Cj o es):=by
 have h1:o.op=(o.op.toNat:Int):=by
  have bS:=h;unfold eM sP at bS;simp at bS;omega
 obtain⟨a1,a2,a3⟩:=zsW h h1 es.length (bF _);rw[Qx] at a2;obtain⟨k1,k2,k3⟩:=endA_ok a1 a2 o.op.toNat (bF _);exact⟨k1.ask,k1.shut,λi hi=>by unfold Cj;rw[k3 i,if_pos hi]⟩
end Go.Proofs.YtfcjiloojkjaeaaGreatDoor
namespace Go.Proofs.YtfcjiloojkjaeaaGreatDoor
open Go.RowKit
section
variable {P:bZ}{k:aM}
theorem zny {d:Rq}{e:aM}(hk:P.underlying k=some (.chan d e))(a b:Option Nat)(w:aE):(Op.equal k (.chan a) (.chan b)).run P w=.ok (a==b) w:=by
 unfold Op.equal;rw[show Sn=(Sn-1)+1 by decide];simp[Op.equalIn,xE hk]
end
def y5 (es:List pJ)(ps:List (Nat×aF)):Prop:=es.map (λe=>(e.key,e.val))=ps.map (λp=>(aF.chan (some p.1),p.2))
def Cf (w:aE)(b:Nat)(ps:List (Nat×aF)):Prop:=∃es clock,w.heap[b]? =some (.map es clock)/\y5 es.toList ps
def pZ (c:Nat):List (Nat×aF)->Option aF
 |[]=>none
 |p::ps=>if c=p.1 then some p.2 else pZ c ps
def vH (c:Nat)(v:aF):List (Nat×aF)->List (Nat×aF)
 |[]=>[(c,v)]
 |p::ps=>if c=p.1 then(p.1,v)::ps else p::vH c v ps
def Bi (c:Nat):List (Nat×aF)->Nat->Option (Nat×aF)
 |[],_=>none
 |p::ps,i=>if c=p.1 then some (i,p.2) else Bi c ps (i+1)
variable {e:pJ}{es:List pJ}{ps:List (Nat×aF)}
theorem y5.cons_inv (h:y5 (e::es) ps):∃p qs,ps=p::qs/\e.key=.chan (some p.1)/\e.val=p.2/\y5 es qs:=by
 unfold y5 at h
 cases ps with
 |nil=>cases h
 |cons p qs=>
  rw[gT,gT] at h;injection h with h1 h2;injection h1 with h3 h4;exact⟨p,qs,rfl,h3,h4,h2⟩
theorem y5.nil_inv (h:y5 [] ps):ps=[]:=by
 unfold y5 at h;simp_all
section
variable {P:bZ}{k:aM}{d:Rq}{e0:aM}
theorem zsL (hk:P.underlying k=some (.chan d e0))(c:Nat)(w:aE):∀(es:List pJ) (ps:List (Nat×aF)) (i:Nat),y5 es ps->(Lo k (.chan (some c)) es i).run P w=.ok (Bi c ps i) w
 |[],ps,i,h=>by rw[h.nil_inv];rfl
 |e::es,ps,i,h=>by
  obtain⟨p,qs,rfl,h1,h2,h3⟩:=h.cons_inv;have ih:=zsL hk c w es qs (i+1) h3;unfold Lo;simp only[Fl,h1,zny hk,Es];by_cases hc:c=p.1
  .subst hc;simp[Bi,h2]
  .have:(some c==some p.1)=false:=by rw[beq_eq_false_iff_ne];intro h;injection h with h;exact hc h
   rw[this];simp only[Bool.false_eq_true,if_false,Bi,if_neg hc];exact ih
theorem zee (hk:P.underlying k=some (.chan d e0))(c:Nat)(w:aE)(es:List pJ)(ps:List (Nat×aF))(h:y5 es ps):(Ly k (.chan (some c)) es).run P w=.ok (Bi c ps 0) w:=by
 unfold Ly;simp only[Fl,xE hk,Es]
 cases es with
 |nil=>rw[h.nil_inv];rfl
 |cons e es=>
  have:Hl (.chan d e0) (.chan (some c)) (e::es) 0=none:=by
   simp[Hl,wP]
  rw[this];exact zsL hk c w _ _ 0 h
theorem zie (c:Nat):∀(ps:List (Nat×aF)) (i:Nat),(Bi c ps i).map zuj=pZ c ps
 |[],_=>rfl
 |p::ps,i=>by
  unfold Bi pZ;by_cases h:c=p.1
  .simp_all
  .rw[if_neg h,if_neg h];exact zie c ps (i+1)
theorem zfi (hk:P.underlying k=some (.chan d e0))(b:Bool)(c:Nat)(w:aE):(Hy b 10000 k (.chan (some c))).run P w=.ok () w:=by
 rw[show(10000:Nat)=9999+1 by decide];unfold Hy;simp[xE hk]
variable {ps:List (Nat×aF)}
theorem zAA {t e:aM}(ht:P.underlying t=some (.map k e))(hk:P.underlying k=some (.chan d e0)){z:aF}{w:aE}(hz:(zeroValue e).run P w=.ok z w){b c:Nat}(h:Cf w b ps)(ok:Bool):
 (zZ t (.map (some b)) (.chan (some c)) ok).run P w=.ok (if ok then .tuple #[(pZ c ps).getD z,.bool (pZ c ps).isSome] else(pZ c ps).getD z) w:=by
 obtain⟨es,clock,hb,he⟩:=h;unfold zZ;have hf:=zie c ps 0;have hg:(getObj b).run P w=.ok (.map es clock) w:=by first|exact run_getObj hb|(show bL P (zwU b Sem.pure) w=_;unfold bL;rw[hb];rfl)|(simp[getObj,bL,hb])
 simp only[Fl,xE ht,Es,hg,Ic,zfi hk,zee hk c w _ _ he]
 cases hq:Bi c ps 0 with
 |none=>
  rw[hq] at hf;have Eb:pZ c ps=none:=by simpa using hf.symm
  simp[hz,Eb]
 |some q=>
  rw[hq] at hf;have Eb:pZ c ps=some q.2:=by simpa using hf.symm
  simp[Eb]
end
variable {c:Nat}{v:aF}
theorem ztb :∀{ps:List (Nat×aF)} {i:Nat},Bi c ps i=none->vH c v ps=ps++[(c,v)]
 |[],_,_=>rfl
 |p::ps,i,h=>by
  unfold Bi at h;by_cases hc:c=p.1
  .simp_all
  .rw[if_neg hc] at h
   unfold vH;rw[if_neg hc,ztb h];rfl
theorem zta {c:Nat}{v:aF}:∀{es:List pJ} {ps:List (Nat×aF)} {i:Nat} {q:Nat×aF},y5 es ps->Bi c ps i=some q->
 ∃j e0,q.1=i+j/\es[j]? =some e0/\e0.key=.chan (some c)/\y5 (es.set j {e0 with key:=.chan (some c),val:=v}) (vH c v ps)
 |[],ps,i,q,h,hq=>by rw[h.nil_inv] at hq;cases hq
 |e::es,ps,i,q,h,hq=>by
  obtain⟨p,qs,rfl,h1,h2,h3⟩:=h.cons_inv;unfold Bi at hq;by_cases hc:c=p.1
  .rw[if_pos hc] at hq
   injection hq with hq;refine⟨0,e,by rw[<-hq];rfl,rfl,by rw[h1,hc],?_⟩;unfold vH;rw[if_pos hc];unfold y5 at h3⊢;simp_all
  .rw[if_neg hc] at hq
   obtain⟨j,e0,e1,e2,e3,e4⟩:=zta (v:=v) h3 hq;refine⟨j+1,e0,by rw[e1];omega,e2,e3,?_⟩;unfold vH;rw[if_neg hc];unfold y5 at e4⊢;simp_all
variable {P:bZ}
theorem zIr (c:Nat)(w:aE):(Px (.chan (some c)) (.chan (some c))).run P w=.ok (.chan (some c)) w:=by
 unfold Px;rw[if_pos (by simp[zbm])];rfl
section
variable {P:bZ}{k:aM}{d:Rq}{e0:aM}
variable {ps:List (Nat×aF)}
open Go.ChangeMaps in
theorem zCM {t e:aM}(ht:P.underlying t=some (.map k e))(hk:P.underlying k=some (.chan d e0)){w:aE}{b c:Nat}(h:Cf w b ps)(v:aF):
 ∃eZ zbr,(G5 t (.map (some b)) (.chan (some c)) v).run P w=.ok () {w with heap:=w.heap.setIfInBounds b (.map eZ zbr)}/\Cf {w with heap:=w.heap.setIfInBounds b (.map eZ zbr)} b (vH c v ps):=by
 obtain⟨es,clock,hb,he⟩:=h;have hz:=(eB.1 hb).1
 cases hq:Bi c ps 0 with
 |none=>
  refine⟨es.push ⟨.chan (some c),v,clock⟩,clock+1,?_,es.push ⟨.chan (some c),v,clock⟩,clock+1,by simp[hz],?_⟩
  .simp[G5,xE ht,Vm hb,zfi hk,zee hk c w _ _ he,hq,X2 _ hb,vR]
  .rw[ztb hq]
   unfold y5 at he⊢;simp_all
 |some q=>
  obtain⟨j,x,e1,e2,e3,e4⟩:=zta (v:=v) he hq;have C8:q.1=j:=aC;have hj:es[j]? =some x:=by simpa using e2
  refine⟨es.modify j (λe'=>{e' with key:=.chan (some c),val:=v}),clock,?_,es.modify j (λe'=>{e' with key:=.chan (some c),val:=v}),clock,by simp[hz],?_⟩
  .simp[G5,xE ht,Vm hb,zfi hk,zee hk c w _ _ he,hq,C8,hj,e3,zIr,X2 _ hb,vR]
  .have:(es.modify j (λe'=>{e' with key:=.chan (some c),val:=v})).toList=es.toList.set j {x with key:=.chan (some c),val:=v}:=by
    rw[zqO,modify_eq_set _ _ _ _ e2]
   rw[this];exact e4
variable {ops:Array aZ}{rest:List aZ}{o:aZ}{a:Act}{Q:oF->Act->aE->Prop}
theorem ztz (w:aE)(hg:o.guard=none)(m x:cK)(t:aM)(ok:Bool)(hop:o.op=Op.lookup t m x ok)(e:aM)
 (ht:P.underlying t=some (.map k e)) (hk:P.underlying k=some (.chan d e0)) (z:aF) (hz:(zeroValue e).run P w=.ok z w) (b c:Nat) (ps:List (Nat×aF)) (hm:a.eval m=.map (some b)) (hx:a.eval x=.chan (some c)) (h:Cf w b ps)
 (hK:wpList P ops Q rest (a.put o.dst (if ok then .tuple #[(pZ c ps).getD z,.bool (pZ c ps).isSome] else(pZ c ps).getD z)) w):wpList P ops Q (o::rest) a w:=by
 refine Su hg λK' sH=>?_;have cN:=zAA ht hk hz h (c:=c) ok;unfold C2;simp[aO,hop,hm,hx,cN,vR];cases ok<;>exact sH _ _ hK
theorem zH0 (w:aE)(hg:o.guard=none)(m x y:cK)(t:aM)(hop:o.op=zw1 t m x y)(e:aM)
 (ht:P.underlying t=some (.map k e)) (hk:P.underlying k=some (.chan d e0)) (b c:Nat) (v:aF) (ps:List (Nat×aF)) (hm:a.eval m=.map (some b)) (hx:a.eval x=.chan (some c)) (hy:a.eval y=v) (h:Cf w b ps)
 (hK:∀w' o',w'={w with heap:=w.heap.setIfInBounds b o'}->Cf w' b (vH c v ps)->wpList P ops Q rest (a.put o.dst aA) w'):wpList P ops Q (o::rest) a w:=by
 refine Su hg λK' sH=>?_;obtain⟨es,cl,cN,qF⟩:=zCM ht hk h (c:=c) v;unfold C2;simp[aO,hop,hm,hx,hy,cN,vR];exact sH _ _ (hK _ _ rfl qF)
open Go.ChangeMaps in
end
def zD (es:List pJ)(ps:List (Int×aF)):Prop:=es.map (λe=>(e.key,e.val))=ps.map (λp=>(aF.int .i64 p.1,p.2))
def x6 (w:aE)(b:Nat)(ps:List (Int×aF)):Prop:=∃es clock,w.heap[b]? =some (.map es clock)/\zD es.toList ps
def lF (c:Int):List (Int×aF)->Option aF
 |[]=>none
 |p::ps=>if c=p.1 then some p.2 else lF c ps
def rB (c:Int)(v:aF):List (Int×aF)->List (Int×aF)
 |[]=>[(c,v)]
 |p::ps=>if c=p.1 then(p.1,v)::ps else p::rB c v ps
def By (c:Int):List (Int×aF)->Nat->Option (Nat×aF)
 |[],_=>none
 |p::ps,i=>if c=p.1 then some (i,p.2) else By c ps (i+1)
variable {ps:List (Int×aF)}
theorem zD.cons_inv (h:zD (e::es) ps):∃p qs,ps=p::qs/\e.key=.int .i64 p.1/\e.val=p.2/\zD es qs:=by
 unfold zD at h
 cases ps with
 |nil=>cases h
 |cons p qs=>
  rw[gT,gT] at h;injection h with h1 h2;injection h1 with h3 h4;exact⟨p,qs,rfl,h3,h4,h2⟩
theorem zD.nil_inv (h:zD [] ps):ps=[]:=by
 unfold zD at h;cases ps with
 |nil=>rfl
 |cons p qs=>cases h
section
variable {P:bZ}{k:aM}
theorem zwR (c:Int):∀(es:List pJ) (ps:List (Int×aF)) (i:Nat),zD es ps->Hl (.int .i64) (.int .i64 c) es i=some (By c ps i)
 |[],ps,i,h=>by rw[h.nil_inv];rfl
 |e::es,ps,i,h=>by
  obtain⟨p,qs,rfl,h1,h2,h3⟩:=h.cons_inv;have ih:=zwR c es qs (i+1) h3;unfold Hl;simp only[h1,wP,if_true];by_cases hc:c=p.1
  .subst hc;simp[By,h2]
  .have:(c==p.1)=false:=by rw[beq_eq_false_iff_ne];exact hc
   rw[this];simp only[By,if_neg hc];exact ih
theorem zhJ (hk:P.underlying k=some (.int .i64))(c:Int)(w:aE)(es:List pJ)(ps:List (Int×aF))(h:zD es ps):(Ly k (.int .i64 c) es).run P w=.ok (By c ps 0) w:=by
 unfold Ly;simp only[Fl,xE hk,Es,zwR c es ps 0 h,Ic]
theorem znE (c:Int):∀(ps:List (Int×aF)) (i:Nat),(By c ps i).map zuj=lF c ps
 |[],_=>rfl
 |p::ps,i=>by
  unfold By lF;by_cases h:c=p.1
  .rw[if_pos h,if_pos h];rfl
  .rw[if_neg h,if_neg h];exact znE c ps (i+1)
theorem zdH (hk:P.underlying k=some (.int .i64))(b:Bool)(c:Int)(w:aE):(Hy b 10000 k (.int .i64 c)).run P w=.ok () w:=by
 rw[show(10000:Nat)=9999+1 by decide];unfold Hy;simp[xE hk]
variable {ps:List (Int×aF)}
theorem zbM {t e:aM}(ht:P.underlying t=some (.map k e))(hk:P.underlying k=some (.int .i64)){z:aF}{w:aE}(hz:(zeroValue e).run P w=.ok z w){b:Nat}{c:Int}(h:x6 w b ps)(ok:Bool):
 (zZ t (.map (some b)) (.int .i64 c) ok).run P w=.ok (if ok then .tuple #[(lF c ps).getD z,.bool (lF c ps).isSome] else(lF c ps).getD z) w:=by
 obtain⟨es,clock,hb,he⟩:=h;unfold zZ;have hf:=znE c ps 0;have hg:(getObj b).run P w=.ok (.map es clock) w:=by first|exact run_getObj hb|(show bL P (zwU b Sem.pure) w=_;unfold bL;rw[hb];rfl)|(simp[getObj,bL,hb])
 simp only[Fl,xE ht,Es,hg,Ic,zdH hk,zhJ hk c w _ _ he]
 cases hq:By c ps 0 with
 |none=>
  rw[hq] at hf;have Eb:lF c ps=none:=by simpa using hf.symm
  simp[hz,Eb]
 |some q=>
  rw[hq] at hf;have Eb:lF c ps=some q.2:=by simpa using hf.symm
  simp[Eb]
end
theorem zqo {c:Int}:∀{ps:List (Int×aF)} {i:Nat},By c ps i=none->rB c v ps=ps++[(c,v)]
 |[],_,_=>rfl
 |p::ps,i,h=>by
  unfold By at h;by_cases hc:c=p.1
  .rw[if_pos hc] at h;cases h
  .rw[if_neg hc] at h
   unfold rB;rw[if_neg hc,zqo h];rfl
theorem zsX {c:Int}{v:aF}:∀{es:List pJ} {ps:List (Int×aF)} {i:Nat} {q:Nat×aF},zD es ps->By c ps i=some q->
 ∃j e0,q.1=i+j/\es[j]? =some e0/\e0.key=.int .i64 c/\zD (es.set j {e0 with key:=.int .i64 c,val:=v}) (rB c v ps)
 |[],ps,i,q,h,hq=>by rw[h.nil_inv] at hq;cases hq
 |e::es,ps,i,q,h,hq=>by
  obtain⟨p,qs,rfl,h1,h2,h3⟩:=h.cons_inv;unfold By at hq;by_cases hc:c=p.1
  .rw[if_pos hc] at hq
   injection hq with hq;refine⟨0,e,by rw[<-hq];rfl,rfl,by rw[h1,hc],?_⟩;unfold rB;rw[if_pos hc];unfold zD at h3⊢;rw[dP,gT,gT,h3,hc]
  .rw[if_neg hc] at hq
   obtain⟨j,e0,e1,e2,e3,e4⟩:=zsX (v:=v) h3 hq;refine⟨j+1,e0,by rw[e1];omega,e2,e3,?_⟩;unfold rB;rw[if_neg hc];unfold zD at e4⊢;rw[dQ,gT,gT,e4,h1,h2]
theorem zG5 (c:Int)(w:aE):(Px (.int .i64 c) (.int .i64 c)).run P w=.ok (.int .i64 c) w:=by
 unfold Px;rw[if_pos (by simp[zbm])];rfl
section
variable {P:bZ}{k:aM}
variable {ps:List (Int×aF)}
open Go.ChangeMaps in
theorem zxb {t e:aM}(ht:P.underlying t=some (.map k e))(hk:P.underlying k=some (.int .i64)){w:aE}{b:Nat}{c:Int}(h:x6 w b ps)(v:aF):
 ∃eZ zbr,(G5 t (.map (some b)) (.int .i64 c) v).run P w=.ok () {w with heap:=w.heap.setIfInBounds b (.map eZ zbr)}/\x6 {w with heap:=w.heap.setIfInBounds b (.map eZ zbr)} b (rB c v ps):=by
 obtain⟨es,clock,hb,he⟩:=h;have hz:=(eB.1 hb).1
 cases hq:By c ps 0 with
 |none=>
  refine⟨es.push ⟨.int .i64 c,v,clock⟩,clock+1,?_,es.push ⟨.int .i64 c,v,clock⟩,clock+1,by simp[hz],?_⟩
  .simp[G5,xE ht,Vm hb,zdH hk,zhJ hk c w _ _ he,hq,X2 _ hb,vR]
  .rw[zqo hq]
   unfold zD at he⊢;rw[Array.toList_push,N4,N4,he];rfl
 |some q=>
  obtain⟨j,x,e1,e2,e3,e4⟩:=zsX (v:=v) he hq;have C8:q.1=j:=aC;have hj:es[j]? =some x:=by simpa using e2
  refine⟨es.modify j (λe'=>{e' with key:=.int .i64 c,val:=v}),clock,?_,es.modify j (λe'=>{e' with key:=.int .i64 c,val:=v}),clock,by simp[hz],?_⟩
  .simp[G5,xE ht,Vm hb,zdH hk,zhJ hk c w _ _ he,hq,C8,hj,e3,zG5,X2 _ hb,vR]
  .have:(es.modify j (λe'=>{e' with key:=.int .i64 c,val:=v})).toList=es.toList.set j {x with key:=.int .i64 c,val:=v}:=by
    rw[zqO,modify_eq_set _ _ _ _ e2]
   rw[this];exact e4
variable {ops:Array aZ}{rest:List aZ}{o:aZ}{a:Act}{Q:oF->Act->aE->Prop}
theorem zuA (w:aE)(hg:o.guard=none)(m x:cK)(t:aM)(ok:Bool)(hop:o.op=Op.lookup t m x ok)(e:aM)
 (ht:P.underlying t=some (.map k e)) (hk:P.underlying k=some (.int .i64)) (z:aF) (hz:(zeroValue e).run P w=.ok z w) (b:Nat) (c:Int) (ps:List (Int×aF)) (hm:a.eval m=.map (some b)) (hx:a.eval x=.int .i64 c) (h:x6 w b ps)
 (hK:wpList P ops Q rest (a.put o.dst (if ok then .tuple #[(lF c ps).getD z,.bool (lF c ps).isSome] else(lF c ps).getD z)) w):wpList P ops Q (o::rest) a w:=by
 refine Su hg λK' sH=>?_;have cN:=zbM ht hk hz h (c:=c) ok;unfold C2;simp[aO,hop,hm,hx,cN,vR];cases ok<;>exact sH _ _ hK
theorem zDp (w:aE)(hg:o.guard=none)(m x y:cK)(t:aM)(hop:o.op=zw1 t m x y)(e:aM)
 (ht:P.underlying t=some (.map k e)) (hk:P.underlying k=some (.int .i64)) (b:Nat) (c:Int) (v:aF) (ps:List (Int×aF)) (hm:a.eval m=.map (some b)) (hx:a.eval x=.int .i64 c) (hy:a.eval y=v) (h:x6 w b ps)
 (hK:∀w' o',w'={w with heap:=w.heap.setIfInBounds b o'}->x6 w' b (rB c v ps)->wpList P ops Q rest (a.put o.dst aA) w'):wpList P ops Q (o::rest) a w:=by
 refine Su hg λK' sH=>?_;obtain⟨es,cl,cN,qF⟩:=zxb ht hk h (c:=c) v;unfold C2;simp[aO,hop,hm,hx,hy,cN,vR];exact sH _ _ (hK _ _ rfl qF)
open Go.ChangeMaps in
end
structure fJ where
 sL:aF
 sQ:aF
 sW:aF
 sB:aF
 sR:aF
 sA:aF
 sT:aF
 mC:Nat
 mO:Nat
 mM:Nat
 pC:List (Nat×aF)
 pO:List (Int×aF)
 pM:List (Int×aF)
structure nU where
 r:bY
 ln:List Nat
 qn:List Nat
 tk:List Int
def J5 (xs:List Nat):List Value:=xs.map λc=>.chan (some c)
abbrev hallA (v:fJ)(d:nU):Array Value:=#[.int .i64 d.r.o.ln,.int .i64 d.r.o.op,.int .i64 d.r.o.pt,v.sL,.map (some v.mC),.map (some v.mO),v.sQ,v.sW,v.sB,v.sR,.map (some v.mM),.int .i64 d.r.clk,v.sA,v.sT]
abbrev Nd (v:fJ)(d:nU):Obj:=.cells (hallA v d) 72
def parts (v:fJ)(hb:Nat):List (Option Nat):=[some hb,v.sL.ownBlock,some v.mC,some v.mO,v.sQ.ownBlock,v.sW.ownBlock,v.sB.ownBlock,v.sR.ownBlock,some v.mM,v.sA.ownBlock,v.sT.ownBlock]
def zaq (l:List (Option Nat)):Prop:=∀(i j b:Nat),l[i]? =some (some b)->l[j]? =some (some b)->i=j
structure bG (w:aE)(lo hb:Nat)(v:fJ)(d:nU):Prop where
 blk:w.heap[hb]? =some (Nd v d)
 lob:lo<=hb/\lo<=v.mC/\lo<=v.mO/\lo<=v.mM
 L:w.ownsRow lo 84 1 v.sL d.ln.length (J5 d.ln)
 Q:w.ownsRow lo 95 1 v.sQ d.qn.length (J5 d.qn)
 W:w.ownsRow lo 149 2 v.sW d.r.wait.length (bH d.r.wait)
 B:w.ownsRow lo 3 1 v.sB d.r.back.length (fF (d.r.back.map bE.c))
 R:w.ownsRow lo 50 7 v.sR d.r.recs.length (recs d.r.recs)
 A:w.ownsRow lo 9 1 v.sA d.r.log.length (vO d.r.log)
 T:w.ownsRow lo 3 1 v.sT d.tk.length (fF d.tk)
 C:Cf w v.mC v.pC
 O:x6 w v.mO v.pO
 M:x6 w v.mM v.pM
 ap:zaq (parts v hb)
structure bO (hb:Nat)(v:fJ)(w:aE)(v':fJ)(w':aE):Prop where
 size:w.heap.size<=w'.heap.size
 block:∀b,b<w.heap.size->some b∉parts v hb->w'.heap[b]? =w.heap[b]?
 moved:∀b,some b∈parts v' hb->some b∈parts v hb\/w.heap.size<=b
section
variable {w w1 w' F9:aE}{lo hb:Nat}{v v' zbg:fJ}{d:nU}
def bO.refl:bO hb v w v w:=⟨bF _,λ_ _ _=>rfl,λ_ h=>.inl h⟩
theorem bO.trans (h:bO hb v w v' w')(k:bO hb v' w' zbg F9):bO hb v w zbg F9:=
 ⟨eH h.size k.size,λb bU hn=>(k.block b (jO bU h.size) (λx=>(h.moved b x).elim hn λy=>by omega)).trans (h.block b bU hn),λb x=>(k.moved b x).elim (h.moved b) λy=>.inr (eH h.size y)⟩
def bO.below (h:cF w.heap.size w w'):bO hb v w v w':=⟨h.size,λb hb _=>h.block b hb,λ_ h=>.inl h⟩
theorem bO.same (h:bO hb v w v' w'){x:aE}(e:x.heap=w'.heap):bO hb v w v' x:=⟨by rw[e];exact h.size,λb hb hn=>by rw[e];exact h.block b hb hn,h.moved⟩
variable {x:aF}
theorem cI {E s n:Nat}{xs:List aF}(h:w.ownsRow lo E s x n xs)(k:∀b,x.ownBlock=some b->w'.heap[b]? =w.heap[b]?):w'.ownsRow lo E s x n xs:=by
 obtain⟨hl,h|⟨g,cap,cur,rfl,h1,hg,h2⟩⟩:=h
 .exact⟨hl,.inl h⟩
 .exact⟨hl,.inr ⟨g,cap,cur,rfl,h1,(k g rfl).trans hg,h2⟩⟩
theorem Cf.keep {b:Nat}{ps:List (Nat×aF)}(h:Cf w b ps)(k:w'.heap[b]? =w.heap[b]?):Cf w' b ps:=by
 obtain⟨es,cl,h1,h2⟩:=h;exact⟨es,cl,k.trans h1,h2⟩
variable {ps:List (Int×aF)}
theorem x6.keep {b:Nat}(h:x6 w b ps)(k:w'.heap[b]? =w.heap[b]?):x6 w' b ps:=by
 obtain⟨es,cl,h1,h2⟩:=h;exact⟨es,cl,k.trans h1,h2⟩
theorem Cf.lt {b:Nat}{ps:List (Nat×aF)}(h:Cf w b ps):b<w.heap.size:=by
 obtain⟨es,cl,h1,h2⟩:=h;exact(eB.1 h1).1
theorem x6.lt {b:Nat}(h:x6 w b ps):b<w.heap.size:=by
 obtain⟨es,cl,h1,h2⟩:=h;exact(eB.1 h1).1
theorem bG.lt (h:bG w lo hb v d):∀b,some b∈parts v hb->lo<=b/\b<w.heap.size:=by
 intro b bU;unfold parts at bU;simp only[mD,nE,or_false] at bU;obtain⟨l0,l1,l2,l3⟩:=h.lob;have zxX:=(eB.1 h.blk).1;rcases bU with e|e|e|e|e|e|e|e|e|e|e
 .simp_all
 .exact h.L.lt b e.symm
 .cases e;exact⟨l1,h.C.lt⟩
 .cases e;exact⟨l2,h.O.lt⟩
 .exact h.Q.lt b e.symm
 .exact h.W.lt b e.symm
 .exact h.B.lt b e.symm
 .exact h.R.lt b e.symm
 .cases e;exact⟨l3,h.M.lt⟩
 .exact h.A.lt b e.symm
 .exact h.T.lt b e.symm
theorem bG.keep (h:bG w lo hb v d)(k:∀b,b<w.heap.size->some b∈parts v hb->w'.heap[b]? =w.heap[b]?):bG w' lo hb v d:=by
 have kk:∀b,some b∈parts v hb->w'.heap[b]? =w.heap[b]? :=λb hb=>k b (h.lt b hb).2 hb;exact⟨(kk _ (fN (i:=0) zet)).trans h.blk,h.lob,cI h.L λb e=>kk _ (fN (i:=1) cS),cI h.Q λb e=>kk _ (fN (i:=4) cS),cI h.W λb e=>kk _ (fN (i:=5) cS),cI h.B λb e=>kk _ (fN (i:=6) cS),cI h.R λb e=>kk _ (fN (i:=7) cS),cI h.A λb e=>kk _ (fN (i:=9) cS),cI h.T λb e=>kk _ (fN (i:=10) cS),h.C.keep (kk _ (fN (i:=2) zet)),h.O.keep (kk _ (fN (i:=3) zet)),h.M.keep (kk _ (fN (i:=8) zet)),h.ap⟩
def bG.below (h:bG w lo hb v d)(k:cF w.heap.size w w'):bG w' lo hb v d:=h.keep λb hb _=>k.block b hb
def bG.alloc (h:bG w lo hb v d)(o:Obj):bG (w.alloc o) lo hb v d:=h.keep λb hb _=>qE w o b hb
def bG.drew (h:bG w lo hb v d):bG w.drew lo hb v d:=h.keep λ_ _ _=>rfl
theorem bG.same (h:bG w lo hb v d)(e:w'.heap=w.heap):bG w' lo hb v d:=h.keep λb _ _=>by rw[e]
variable {o:Obj}
theorem bG.turned {x:Nat}(h:bG w lo hb v d)(t:bO hb v w v' w')(hx:w.heap[x]? =some o)(hn:some x∉parts v hb):w'.heap[x]? =some o/\some x∉parts v' hb:=
 ⟨(t.block x (eB.1 hx).1 hn).trans hx,λy=>(t.moved x y).elim hn λz=>by simp_all⟩
def bG.ne (h:bG w lo hb v d){i j a b:Nat}(hi:(parts v hb)[i]? =some (some a))(hj:(parts v hb)[j]? =some (some b))(sM:i≠j):a≠b:=λe=>sM (h.ap i j a hi (e▸hj))
theorem Rt {l:List (Option Nat)}(h:zaq l){j n:Nat}{x:Option Nat}(hl:∀b,some b∈l->b<n)(hx:l[j]? =some x\/∀b,x=some b->n<=b):zaq (l.set j x):=by
 intro i k b hi hk;rw[zbo] at hi hk;have old:∀m,l[m]? =some (some b)->b<n:=λm hm=>hl b (fN hm);split at hi<;>split at hk
 .omega
 .next e1 e2=>
  split at hi
  .injection hi with hi
   subst hi;rcases hx with hx|hx
   .exact e1▸h j k b hx hk
   .grind
  .cases hi
 .next e1 e2=>
  split at hk
  .injection hk with hk
   subst hk;rcases hx with hx|hx
   .exact e2▸h i j b hi hx
   .grind
  .cases hk
 .exact h i k b hi hk
theorem bG.other (h:bG w lo hb v d){j c:Nat}(hj:(parts v hb)[j]? =some x.ownBlock)(zjS:j≠0)(hg:w.grownBy w1 x.ownBlock)(s':aF):
 (∀i b,i≠0->i≠j->(parts v hb)[i]? =some (some b)->(w1.setCell ⟨hb,c,none⟩ s').heap[b]? =w.heap[b]?)/\w1.heap[hb]? =w.heap[hb]? :=by
 have h0:(parts v hb)[0]? =some (some hb):=rfl;have hx:∀i b,i≠j->(parts v hb)[i]? =some (some b)->some b≠x.ownBlock:=λi b sM hi e=>sM (h.ap i j b hi (by rw[hj,<-e]));refine⟨λi b eR sM hi=>?_,hg.block hb (h.lt hb (fN h0)).2 (hx 0 hb (Ne.symm zjS) h0)⟩;have aU:b≠hb:=h.ne hi h0 eR;exact(dU w1 _ _ b aU).trans (hg.block b (h.lt b (fN hi)).2 (hx i b sM hi))
variable {s':aF}
theorem U4 {j c:Nat}(aS:∀b,some b∈parts v hb->b<w.heap.size)(hj:(parts v hb)[j]? =some x.ownBlock)(hg:w.grownBy w1 x.ownBlock)(hv:parts v' hb=(parts v hb).set j s'.ownBlock)(hw:s'.ownBlock=x.ownBlock\/∀b,s'.ownBlock=some b->w.heap.size<=b):
 bO hb v w v' (w1.setCell ⟨hb,c,none⟩ s'):=by
 refine⟨by rw[xA];exact hg.size,λb bU hn=>?_,λb bU=>?_⟩
 .have h0:some hb∈parts v hb:=fN (i:=0) rfl
  have aU:b≠hb:=λe=>hn (e▸h0);exact(dU w1 _ _ b aU).trans (hg.block b bU λe=>hn (e▸fN hj))
 .grind
theorem bG.putL (h:bG w lo hb v d)(hg:w.grownBy w1 v.sL.ownBlock){xs:List Nat}{n:Nat}(ho:w1.ownsRow lo 84 1 s' n (J5 xs))(hn:n=xs.length)(hw:s'.ownBlock=v.sL.ownBlock\/∀b,s'.ownBlock=some b->w.heap.size<=b):
 bG (w1.setCell ⟨hb,3,none⟩ s') lo hb {v with sL:=s'} {d with ln:=xs}/\bO hb v w {v with sL:=s'} (w1.setCell ⟨hb,3,none⟩ s'):=by
 subst hn;have aS:∀b,some b∈parts v hb->b<w.heap.size:=λb hb=>(h.lt b hb).2;obtain⟨kk,k0⟩:=h.other (j:=1) (c:=3) (x:=v.sL) rfl aH hg s';have hs:∀b,s'.ownBlock=some b->b≠hb:=λb e=>by
  rcases hw with hw|hw
  .exact h.ne (i:=1) (j:=0) (show some v.sL.ownBlock=_ by rw[<-hw,e]) rfl aH
  .have:=hw b e;have:=aS hb (fN (i:=0) rfl);omega
 have hp:parts {v with sL:=s'} hb=(parts v hb).set 1 s'.ownBlock:=rfl;refine⟨⟨oH (k0.trans h.blk) s',h.lob,cI ho λb e=>dU w1 _ _ b (hs b e),cI h.Q λb e=>kk 4 _ aH aH cS,cI h.W λb e=>kk 5 _ aH aH cS,cI h.B λb e=>kk 6 _ aH aH cS,cI h.R λb e=>kk 7 _ aH aH cS,cI h.A λb e=>kk 9 _ aH aH cS,cI h.T λb e=>kk 10 _ aH aH cS,h.C.keep (kk 2 _ aH aH rfl),h.O.keep (kk 3 _ aH aH rfl),h.M.keep (kk 8 _ aH aH rfl),?_⟩,U4 (j:=1) (x:=v.sL) aS rfl hg hp hw⟩;rw[hp];exact Rt h.ap aS (hw.imp (λe=>by rw[e];rfl) id)
theorem bG.putQ (h:bG w lo hb v d)(hg:w.grownBy w1 v.sQ.ownBlock){xs:List Nat}{n:Nat}(ho:w1.ownsRow lo 95 1 s' n (J5 xs))(hn:n=xs.length)(hw:s'.ownBlock=v.sQ.ownBlock\/∀b,s'.ownBlock=some b->w.heap.size<=b):
 bG (w1.setCell ⟨hb,6,none⟩ s') lo hb {v with sQ:=s'} {d with qn:=xs}/\bO hb v w {v with sQ:=s'} (w1.setCell ⟨hb,6,none⟩ s'):=by
 subst hn;have aS:∀b,some b∈parts v hb->b<w.heap.size:=λb hb=>(h.lt b hb).2;obtain⟨kk,k0⟩:=h.other (j:=4) (c:=6) (x:=v.sQ) rfl aH hg s';have hs:∀b,s'.ownBlock=some b->b≠hb:=λb e=>by
  rcases hw with hw|hw
  .exact h.ne (i:=4) (j:=0) (show some v.sQ.ownBlock=_ by rw[<-hw,e]) rfl aH
  .have:=hw b e;have:=aS hb (fN (i:=0) rfl);omega
 have hp:parts {v with sQ:=s'} hb=(parts v hb).set 4 s'.ownBlock:=rfl;refine⟨⟨oH (k0.trans h.blk) s',h.lob,cI h.L λb e=>kk 1 _ aH aH cS,cI ho λb e=>dU w1 _ _ b (hs b e),cI h.W λb e=>kk 5 _ aH aH cS,cI h.B λb e=>kk 6 _ aH aH cS,cI h.R λb e=>kk 7 _ aH aH cS,cI h.A λb e=>kk 9 _ aH aH cS,cI h.T λb e=>kk 10 _ aH aH cS,h.C.keep (kk 2 _ aH aH rfl),h.O.keep (kk 3 _ aH aH rfl),h.M.keep (kk 8 _ aH aH rfl),?_⟩,U4 (j:=4) (x:=v.sQ) aS rfl hg hp hw⟩;rw[hp];exact Rt h.ap aS (hw.imp (λe=>by rw[e];rfl) id)
variable {xs:List bE}
theorem bG.putW (h:bG w lo hb v d)(hg:w.grownBy w1 v.sW.ownBlock){n:Nat}(ho:w1.ownsRow lo 149 2 s' n (bH xs))(hn:n=xs.length)(hw:s'.ownBlock=v.sW.ownBlock\/∀b,s'.ownBlock=some b->w.heap.size<=b):
 bG (w1.setCell ⟨hb,7,none⟩ s') lo hb {v with sW:=s'} {d with r:={d.r with wait:=xs}}/\bO hb v w {v with sW:=s'} (w1.setCell ⟨hb,7,none⟩ s'):=by
 subst hn;have aS:∀b,some b∈parts v hb->b<w.heap.size:=λb hb=>(h.lt b hb).2;obtain⟨kk,k0⟩:=h.other (j:=5) (c:=7) (x:=v.sW) rfl aH hg s';have hs:∀b,s'.ownBlock=some b->b≠hb:=λb e=>by
  rcases hw with hw|hw
  .exact h.ne (i:=5) (j:=0) (show some v.sW.ownBlock=_ by rw[<-hw,e]) rfl aH
  .have:=hw b e;have:=aS hb (fN (i:=0) rfl);omega
 have hp:parts {v with sW:=s'} hb=(parts v hb).set 5 s'.ownBlock:=rfl;refine⟨⟨oH (k0.trans h.blk) s',h.lob,cI h.L λb e=>kk 1 _ aH aH cS,cI h.Q λb e=>kk 4 _ aH aH cS,cI ho λb e=>dU w1 _ _ b (hs b e),cI h.B λb e=>kk 6 _ aH aH cS,cI h.R λb e=>kk 7 _ aH aH cS,cI h.A λb e=>kk 9 _ aH aH cS,cI h.T λb e=>kk 10 _ aH aH cS,h.C.keep (kk 2 _ aH aH rfl),h.O.keep (kk 3 _ aH aH rfl),h.M.keep (kk 8 _ aH aH rfl),?_⟩,U4 (j:=5) (x:=v.sW) aS rfl hg hp hw⟩;rw[hp];exact Rt h.ap aS (hw.imp (λe=>by rw[e];rfl) id)
theorem bG.putB (h:bG w lo hb v d)(hg:w.grownBy w1 v.sB.ownBlock){n:Nat}(ho:w1.ownsRow lo 3 1 s' n (fF (xs.map bE.c)))(hn:n=xs.length)(hw:s'.ownBlock=v.sB.ownBlock\/∀b,s'.ownBlock=some b->w.heap.size<=b):
 bG (w1.setCell ⟨hb,8,none⟩ s') lo hb {v with sB:=s'} {d with r:={d.r with back:=xs}}/\bO hb v w {v with sB:=s'} (w1.setCell ⟨hb,8,none⟩ s'):=by
 subst hn;have aS:∀b,some b∈parts v hb->b<w.heap.size:=λb hb=>(h.lt b hb).2;obtain⟨kk,k0⟩:=h.other (j:=6) (c:=8) (x:=v.sB) rfl aH hg s';have hs:∀b,s'.ownBlock=some b->b≠hb:=λb e=>by
  rcases hw with hw|hw
  .exact h.ne (i:=6) (j:=0) (show some v.sB.ownBlock=_ by rw[<-hw,e]) rfl aH
  .have:=hw b e;have:=aS hb (fN (i:=0) rfl);omega
 have hp:parts {v with sB:=s'} hb=(parts v hb).set 6 s'.ownBlock:=rfl;refine⟨⟨oH (k0.trans h.blk) s',h.lob,cI h.L λb e=>kk 1 _ aH aH cS,cI h.Q λb e=>kk 4 _ aH aH cS,cI h.W λb e=>kk 5 _ aH aH cS,cI ho λb e=>dU w1 _ _ b (hs b e),cI h.R λb e=>kk 7 _ aH aH cS,cI h.A λb e=>kk 9 _ aH aH cS,cI h.T λb e=>kk 10 _ aH aH cS,h.C.keep (kk 2 _ aH aH rfl),h.O.keep (kk 3 _ aH aH rfl),h.M.keep (kk 8 _ aH aH rfl),?_⟩,U4 (j:=6) (x:=v.sB) aS rfl hg hp hw⟩;rw[hp];exact Rt h.ap aS (hw.imp (λe=>by rw[e];rfl) id)
theorem bG.putR (h:bG w lo hb v d)(hg:w.grownBy w1 v.sR.ownBlock){xs:List bR}{n:Nat}(ho:w1.ownsRow lo 50 7 s' n (recs xs))(hn:n=xs.length)(hw:s'.ownBlock=v.sR.ownBlock\/∀b,s'.ownBlock=some b->w.heap.size<=b):
 bG (w1.setCell ⟨hb,9,none⟩ s') lo hb {v with sR:=s'} {d with r:={d.r with recs:=xs}}/\bO hb v w {v with sR:=s'} (w1.setCell ⟨hb,9,none⟩ s'):=by
 subst hn;have aS:∀b,some b∈parts v hb->b<w.heap.size:=λb hb=>(h.lt b hb).2;obtain⟨kk,k0⟩:=h.other (j:=7) (c:=9) (x:=v.sR) rfl aH hg s';have hs:∀b,s'.ownBlock=some b->b≠hb:=λb e=>by
  rcases hw with hw|hw
  .exact h.ne (i:=7) (j:=0) (show some v.sR.ownBlock=_ by rw[<-hw,e]) rfl aH
  .have:=hw b e;have:=aS hb (fN (i:=0) rfl);omega
 have hp:parts {v with sR:=s'} hb=(parts v hb).set 7 s'.ownBlock:=rfl;refine⟨⟨oH (k0.trans h.blk) s',h.lob,cI h.L λb e=>kk 1 _ aH aH cS,cI h.Q λb e=>kk 4 _ aH aH cS,cI h.W λb e=>kk 5 _ aH aH cS,cI h.B λb e=>kk 6 _ aH aH cS,cI ho λb e=>dU w1 _ _ b (hs b e),cI h.A λb e=>kk 9 _ aH aH cS,cI h.T λb e=>kk 10 _ aH aH cS,h.C.keep (kk 2 _ aH aH rfl),h.O.keep (kk 3 _ aH aH rfl),h.M.keep (kk 8 _ aH aH rfl),?_⟩,U4 (j:=7) (x:=v.sR) aS rfl hg hp hw⟩;rw[hp];exact Rt h.ap aS (hw.imp (λe=>by rw[e];rfl) id)
variable {xs:List (List UInt8)}
theorem bG.putA (h:bG w lo hb v d)(hg:w.grownBy w1 v.sA.ownBlock){n:Nat}(ho:w1.ownsRow lo 9 1 s' n (vO xs))(hn:n=xs.length)(hw:s'.ownBlock=v.sA.ownBlock\/∀b,s'.ownBlock=some b->w.heap.size<=b):
 bG (w1.setCell ⟨hb,12,none⟩ s') lo hb {v with sA:=s'} {d with r:={d.r with log:=xs}}/\bO hb v w {v with sA:=s'} (w1.setCell ⟨hb,12,none⟩ s'):=by
 subst hn;have aS:∀b,some b∈parts v hb->b<w.heap.size:=λb hb=>(h.lt b hb).2;obtain⟨kk,k0⟩:=h.other (j:=9) (c:=12) (x:=v.sA) rfl aH hg s';have hs:∀b,s'.ownBlock=some b->b≠hb:=λb e=>by
  rcases hw with hw|hw
  .exact h.ne (i:=9) (j:=0) (show some v.sA.ownBlock=_ by rw[<-hw,e]) rfl aH
  .have:=hw b e;have:=aS hb (fN (i:=0) rfl);omega
 have hp:parts {v with sA:=s'} hb=(parts v hb).set 9 s'.ownBlock:=rfl;refine⟨⟨oH (k0.trans h.blk) s',h.lob,cI h.L λb e=>kk 1 _ aH aH cS,cI h.Q λb e=>kk 4 _ aH aH cS,cI h.W λb e=>kk 5 _ aH aH cS,cI h.B λb e=>kk 6 _ aH aH cS,cI h.R λb e=>kk 7 _ aH aH cS,cI ho λb e=>dU w1 _ _ b (hs b e),cI h.T λb e=>kk 10 _ aH aH cS,h.C.keep (kk 2 _ aH aH rfl),h.O.keep (kk 3 _ aH aH rfl),h.M.keep (kk 8 _ aH aH rfl),?_⟩,U4 (j:=9) (x:=v.sA) aS rfl hg hp hw⟩;rw[hp];exact Rt h.ap aS (hw.imp (λe=>by rw[e];rfl) id)
theorem bG.putT (h:bG w lo hb v d)(hg:w.grownBy w1 v.sT.ownBlock){xs:List Int}{n:Nat}(ho:w1.ownsRow lo 3 1 s' n (fF xs))(hn:n=xs.length)(hw:s'.ownBlock=v.sT.ownBlock\/∀b,s'.ownBlock=some b->w.heap.size<=b):
 bG (w1.setCell ⟨hb,13,none⟩ s') lo hb {v with sT:=s'} {d with tk:=xs}/\bO hb v w {v with sT:=s'} (w1.setCell ⟨hb,13,none⟩ s'):=by
 subst hn;have aS:∀b,some b∈parts v hb->b<w.heap.size:=λb hb=>(h.lt b hb).2;obtain⟨kk,k0⟩:=h.other (j:=10) (c:=13) (x:=v.sT) rfl aH hg s';have hs:∀b,s'.ownBlock=some b->b≠hb:=λb e=>by
  rcases hw with hw|hw
  .exact h.ne (i:=10) (j:=0) (show some v.sT.ownBlock=_ by rw[<-hw,e]) rfl aH
  .have:=hw b e;have:=aS hb (fN (i:=0) rfl);omega
 have hp:parts {v with sT:=s'} hb=(parts v hb).set 10 s'.ownBlock:=rfl;refine⟨⟨oH (k0.trans h.blk) s',h.lob,cI h.L λb e=>kk 1 _ aH aH cS,cI h.Q λb e=>kk 4 _ aH aH cS,cI h.W λb e=>kk 5 _ aH aH cS,cI h.B λb e=>kk 6 _ aH aH cS,cI h.R λb e=>kk 7 _ aH aH cS,cI h.A λb e=>kk 9 _ aH aH cS,cI ho λb e=>dU w1 _ _ b (hs b e),h.C.keep (kk 2 _ aH aH rfl),h.O.keep (kk 3 _ aH aH rfl),h.M.keep (kk 8 _ aH aH rfl),?_⟩,U4 (j:=10) (x:=v.sT) aS rfl hg hp hw⟩;rw[hp];exact Rt h.ap aS (hw.imp (λe=>by rw[e];rfl) id)
theorem bG.mapC (h:bG w lo hb v d){ps:List (Nat×aF)}(hm:Cf {w with heap:=w.heap.setIfInBounds v.mC o} v.mC ps):
 bG {w with heap:=w.heap.setIfInBounds v.mC o} lo hb {v with pC:=ps} d/\bO hb v w {v with pC:=ps} {w with heap:=w.heap.setIfInBounds v.mC o}:=by
 have kk:∀i b,i≠2->(parts v hb)[i]? =some (some b)->(w.heap.setIfInBounds v.mC o)[b]? =w.heap[b]? :=λi b hi bU=>tL (h.ne (i:=2) rfl bU (Ne.symm hi));refine⟨⟨(kk 0 _ aH rfl).trans h.blk,h.lob,cI h.L λb e=>kk 1 _ aH cS,cI h.Q λb e=>kk 4 _ aH cS,cI h.W λb e=>kk 5 _ aH cS,cI h.B λb e=>kk 6 _ aH cS,cI h.R λb e=>kk 7 _ aH cS,cI h.A λb e=>kk 9 _ aH cS,cI h.T λb e=>kk 10 _ aH cS,hm,h.O.keep (kk 3 _ aH rfl),h.M.keep (kk 8 _ aH rfl),h.ap⟩,aN,λb bU hn=>tL λe=>hn (by rw[<-e];exact fN (i:=2) rfl),λb bU=>.inl bU⟩
theorem bG.mapO (h:bG w lo hb v d)(hm:x6 {w with heap:=w.heap.setIfInBounds v.mO o} v.mO ps):
 bG {w with heap:=w.heap.setIfInBounds v.mO o} lo hb {v with pO:=ps} d/\bO hb v w {v with pO:=ps} {w with heap:=w.heap.setIfInBounds v.mO o}:=by
 have kk:∀i b,i≠3->(parts v hb)[i]? =some (some b)->(w.heap.setIfInBounds v.mO o)[b]? =w.heap[b]? :=λi b hi bU=>tL (h.ne (i:=3) rfl bU (Ne.symm hi));refine⟨⟨(kk 0 _ aH rfl).trans h.blk,h.lob,cI h.L λb e=>kk 1 _ aH cS,cI h.Q λb e=>kk 4 _ aH cS,cI h.W λb e=>kk 5 _ aH cS,cI h.B λb e=>kk 6 _ aH cS,cI h.R λb e=>kk 7 _ aH cS,cI h.A λb e=>kk 9 _ aH cS,cI h.T λb e=>kk 10 _ aH cS,h.C.keep (kk 2 _ aH rfl),hm,h.M.keep (kk 8 _ aH rfl),h.ap⟩,aN,λb bU hn=>tL λe=>hn (by rw[<-e];exact fN (i:=3) rfl),λb bU=>.inl bU⟩
theorem bG.mapM (h:bG w lo hb v d)(hm:x6 {w with heap:=w.heap.setIfInBounds v.mM o} v.mM ps):
 bG {w with heap:=w.heap.setIfInBounds v.mM o} lo hb {v with pM:=ps} d/\bO hb v w {v with pM:=ps} {w with heap:=w.heap.setIfInBounds v.mM o}:=by
 have kk:∀i b,i≠8->(parts v hb)[i]? =some (some b)->(w.heap.setIfInBounds v.mM o)[b]? =w.heap[b]? :=λi b hi bU=>tL (h.ne (i:=8) rfl bU (Ne.symm hi));refine⟨⟨(kk 0 _ aH rfl).trans h.blk,h.lob,cI h.L λb e=>kk 1 _ aH cS,cI h.Q λb e=>kk 4 _ aH cS,cI h.W λb e=>kk 5 _ aH cS,cI h.B λb e=>kk 6 _ aH cS,cI h.R λb e=>kk 7 _ aH cS,cI h.A λb e=>kk 9 _ aH cS,cI h.T λb e=>kk 10 _ aH cS,h.C.keep (kk 2 _ aH rfl),h.O.keep (kk 3 _ aH rfl),hm,h.ap⟩,aN,λb bU hn=>tL λe=>hn (by rw[<-e];exact fN (i:=8) rfl),λb bU=>.inl bU⟩
theorem bG.putClk (h:bG w lo hb v d)(x:Int):bG (w.setCell ⟨hb,11,none⟩ (.int .i64 x)) lo hb v {d with r:={d.r with clk:=x}}/\bO hb v w v (w.setCell ⟨hb,11,none⟩ (.int .i64 x)):=by
 have h0:(parts v hb)[0]? =some (some hb):=rfl;have kk:∀i b,i≠0->(parts v hb)[i]? =some (some b)->(w.setCell ⟨hb,11,none⟩ (.int .i64 x)).heap[b]? =w.heap[b]? :=λi b hi bU=>dU w _ _ b (h.ne bU h0 hi);refine⟨⟨oH h.blk _,h.lob,cI h.L λb e=>kk 1 _ aH cS,cI h.Q λb e=>kk 4 _ aH cS,cI h.W λb e=>kk 5 _ aH cS,cI h.B λb e=>kk 6 _ aH cS,cI h.R λb e=>kk 7 _ aH cS,cI h.A λb e=>kk 9 _ aH cS,cI h.T λb e=>kk 10 _ aH cS,h.C.keep (kk 2 _ aH rfl),h.O.keep (kk 3 _ aH rfl),h.M.keep (kk 8 _ aH rfl),h.ap⟩,aN,λb bU hn=>dU w _ _ b λe=>hn (e▸fN h0),λb bU=>.inl bU⟩
theorem bG.setR {gR cR i j:Nat}{x:bR}{u:aF}(f:bR->bR)(h:bG w lo hb v d)(hv:v.sR=.slice (some ⟨gR,0,none⟩) d.r.recs.length cR)(hd:d.r.recs[i]? =some x)(hj:j<7)(hs:∀k,k<7->k≠j->(f x).cells[k]? =x.cells[k]?)(hu:(f x).cells[j]? =some u):
 bG (w.setCell ⟨gR,i*7+j,none⟩ u) lo hb v {d with r:={d.r with recs:=d.r.recs.modify i f}}/\bO hb v w v (w.setCell ⟨gR,i*7+j,none⟩ u):=by
 have zhW:(parts v hb)[7]? =some (some gR):=by show some v.sR.ownBlock=_;rw[hv];rfl
 have kk:∀i b,i≠7->(parts v hb)[i]? =some (some b)->(w.setCell ⟨gR,i*7+j,none⟩ u).heap[b]? =w.heap[b]? :=λi b hi bU=>dU w _ _ b (h.ne bU zhW hi);have Ir:∀m b,m≠7->(parts v hb)[m]? =some (some b)->(w.setCell ⟨gR,i*7+j,none⟩ u).heap[b]? =w.heap[b]? :=λm b hi bU=>dU w _ _ b (h.ne bU zhW hi);have hr:=h.R;rw[hv] at hr;have h1:=(hr.stored (i*7+j) u).1;rw[zsh hd hj hs hu] at h1;refine⟨⟨(Ir 0 _ aH rfl).trans h.blk,h.lob,cI h.L λb e=>Ir 1 _ aH cS,cI h.Q λb e=>Ir 4 _ aH cS,cI h.W λb e=>Ir 5 _ aH cS,cI h.B λb e=>Ir 6 _ aH cS,?_,cI h.A λb e=>Ir 9 _ aH cS,cI h.T λb e=>Ir 10 _ aH cS,h.C.keep (Ir 2 _ aH rfl),h.O.keep (Ir 3 _ aH rfl),h.M.keep (Ir 8 _ aH rfl),h.ap⟩,aN,λb bU hn=>dU w _ _ b λe=>hn (e▸fN zhW),λb bU=>.inl bU⟩;show(w.setCell _ u).ownsRow lo _ 7 v.sR (d.r.recs.modify i f).length _;rw[hv,Lt];exact h1
end
def zL (c:Nat):List (Nat×aF)->List (Nat×aF)
 |[]=>[]
 |p::ps=>if c=p.1 then ps else p::zL c ps
theorem zrc :∀{ps:List (Nat×aF)},c∉ps.map uN->pZ c ps=none
 |[],_=>rfl
 |p::ps,h=>by
  unfold pZ;have h1:c≠p.1:=λe=>h (by rw[e];simp);rw[if_neg h1];exact zrc λx=>h (Sd _ x)
theorem zvj (c c':Nat)(v:aF):∀ps:List (Nat×aF),pZ c' (vH c v ps)=if c'=c then some v else pZ c' ps
 |[]=>by
  unfold vH pZ pZ;rfl
 |p::ps=>by
  unfold vH;by_cases e:c=p.1
  .rw[if_pos e]
   unfold pZ;simp_all
  .rw[if_neg e]
   unfold pZ;by_cases e2:c'=p.1
   .grind
   .rw[if_neg e2,zvj c c' v ps]
    first|rfl|simp[e2]
variable {c':Nat}
theorem zv3 :∀{ps:List (Nat×aF)},c'∈(vH c v ps).map uN->c'=c\/c'∈ps.map uN
 |[],h=>by unfold vH at h;simp at h;exact .inl h
 |p::ps,h=>by
  unfold vH at h;by_cases e:c=p.1
  .simp_all
  .rw[if_neg e,gT,mD] at h
   rcases h with h|h
   .simp_all
   .exact(zv3 h).imp id (Sd _)
theorem zt7 (c:Nat)(v:aF):∀{ps:List (Nat×aF)},(ps.map uN).Nodup->((vH c v ps).map uN).Nodup
 |[],_=>by unfold vH;simp
 |p::ps,h=>by
  unfold vH;rw[gT,C6] at h;by_cases e:c=p.1
  .simp_all
  .rw[if_neg e,gT,C6]
   exact⟨λx=>(zv3 x).elim (λy=>e y.symm) h.1,zt7 c v h.2⟩
theorem zvy :∀{ps:List (Nat×aF)},c'∈(zL c ps).map uN->c'∈ps.map uN
 |[],h=>by cases h
 |p::ps,h=>by
  unfold zL at h;by_cases e:c=p.1
  .simp_all
  .rw[if_neg e,gT,mD] at h
   rcases h with h|h
   .rw[h];simp
   .exact Sd _ (zvy h)
theorem zwj (c:Nat):∀{ps:List (Nat×aF)},(ps.map uN).Nodup->((zL c ps).map uN).Nodup
 |[],_=>by unfold zL;simp
 |p::ps,h=>by
  rw[gT,C6] at h;unfold zL;by_cases e:c=p.1
  .simp_all
  .rw[if_neg e,gT,C6]
   exact⟨λx=>h.1 (zvy x),zwj c h.2⟩
theorem zoW (c c':Nat):∀{ps:List (Nat×aF)},(ps.map uN).Nodup->pZ c' (zL c ps)=if c'=c then none else pZ c' ps
 |[],_=>by unfold zL pZ;split<;>rfl
 |p::ps,h=>by
  rw[gT,C6] at h;unfold zL;by_cases e:c=p.1
  .rw[if_pos e]
   by_cases e2:c'=c
   .rw[if_pos e2];exact zrc (by rw[e2,e];exact h.1)
   .rw[if_neg e2]
    show _=pZ c' (p::ps)
    conv=>rhs;unfold pZ
    simp_all
  .rw[if_neg e]
   unfold pZ;by_cases e2:c'=p.1
   .grind
   .rw[if_neg e2,zoW c c' h.2]
    first|rfl|simp[e2]
theorem zx2 :∀{es:List pJ} {ps:List (Nat×aF)} {i:Nat} {q:Nat×aF},y5 es ps->Bi c ps i=some q->∃j,q.1=i+j/\j<es.length/\y5 (es.eraseIdx j) (zL c ps)
 |[],ps,i,q,h,hq=>by rw[h.nil_inv] at hq;cases hq
 |e::es,ps,i,q,h,hq=>by
  obtain⟨p,qs,rfl,h1,h2,h3⟩:=h.cons_inv;unfold Bi at hq;by_cases hc:c=p.1
  .rw[if_pos hc] at hq
   injection hq with hq;refine⟨0,by rw[<-hq];rfl,aN,?_⟩;unfold zL;simp_all
  .rw[if_neg hc] at hq
   obtain⟨j,e1,e2,e3⟩:=zx2 h3 hq;refine⟨j+1,by rw[e1];omega,by simpa using e2,?_⟩;unfold zL;rw[if_neg hc];unfold y5 at e3⊢;simp_all
section
variable {P:bZ}{k:aM}{d:Rq}{e0:aM}
variable {ps:List (Nat×aF)}
theorem zBF {t e kt:aM}(ht:P.underlying t=some (.map k e))(hk:P.underlying k=some (.chan d e0)){w:aE}{b:Nat}{c:Nat}(h:Cf w b ps)(hc:(pZ c ps).isSome=true):
 ∃o',(∀ty,(Lu #[t,kt] ty #[.map (some b),.chan (some c)]).run P w=.ok (.tuple #[]) {w with heap:=w.heap.setIfInBounds b o'})/\Cf {w with heap:=w.heap.setIfInBounds b o'} b (zL c ps):=by
 obtain⟨es,clock,hb,he⟩:=h;have hz:=(eB.1 hb).1;have hf:=zie c ps 0
 cases hq:Bi c ps 0 with
 |none=>grind
 |some q=>
  obtain⟨j,e1,e2,e3⟩:=zx2 he hq;have C8:q.1=j:=aC;refine⟨.map (es.eraseIdxIfInBounds j) clock,λty=>?_,es.eraseIdxIfInBounds j,clock,by simp[hz],?_⟩
  .simp[Lu,xE ht,Vm hb,zfi hk,zee hk c w _ _ he,hq,C8,X2 _ hb,vR]
  simp_all
end
def yM (c:Int):List (Int×aF)->List (Int×aF)
 |[]=>[]
 |p::ps=>if c=p.1 then ps else p::yM c ps
variable {c:Int}
theorem zyq :∀{ps:List (Int×aF)},c∉ps.map uN->lF c ps=none
 |[],_=>rfl
 |p::ps,h=>by
  unfold lF;have h1:c≠p.1:=λe=>h (by rw[e];simp);rw[if_neg h1];exact zyq λx=>h (Sd _ x)
theorem Xy (c c':Int)(v:aF):∀ps:List (Int×aF),lF c' (rB c v ps)=if c'=c then some v else lF c' ps
 |[]=>by
  unfold rB lF lF;rfl
 |p::ps=>by
  unfold rB;by_cases e:c=p.1
  .rw[if_pos e]
   unfold lF;simp_all
  .rw[if_neg e]
   unfold lF;by_cases e2:c'=p.1
   .grind
   .rw[if_neg e2,Xy c c' v ps]
    first|rfl|simp[e2]
variable {c':Int}
theorem zvU :∀{ps:List (Int×aF)},c'∈(rB c v ps).map uN->c'=c\/c'∈ps.map uN
 |[],h=>by unfold rB at h;simp at h;exact .inl h
 |p::ps,h=>by
  unfold rB at h;by_cases e:c=p.1
  .simp_all
  .rw[if_neg e,gT,mD] at h
   rcases h with h|h
   .simp_all
   .exact(zvU h).imp id (Sd _)
theorem zmu (c:Int)(v:aF):∀{ps:List (Int×aF)},(ps.map uN).Nodup->((rB c v ps).map uN).Nodup
 |[],_=>by unfold rB;simp
 |p::ps,h=>by
  unfold rB;rw[gT,C6] at h;by_cases e:c=p.1
  .simp_all
  .rw[if_neg e,gT,C6]
   exact⟨λx=>(zvU x).elim (λy=>e y.symm) h.1,zmu c v h.2⟩
theorem zo6 :∀{ps:List (Int×aF)},c'∈(yM c ps).map uN->c'∈ps.map uN
 |[],h=>by cases h
 |p::ps,h=>by
  unfold yM at h;by_cases e:c=p.1
  .simp_all
  .rw[if_neg e,gT,mD] at h
   rcases h with h|h
   .rw[h];simp
   .exact Sd _ (zo6 h)
theorem zou (c:Int):∀{ps:List (Int×aF)},(ps.map uN).Nodup->((yM c ps).map uN).Nodup
 |[],_=>by unfold yM;simp
 |p::ps,h=>by
  rw[gT,C6] at h;unfold yM;by_cases e:c=p.1
  .simp_all
  .rw[if_neg e,gT,C6]
   exact⟨λx=>h.1 (zo6 x),zou c h.2⟩
theorem ziV (c c':Int):∀{ps:List (Int×aF)},(ps.map uN).Nodup->lF c' (yM c ps)=if c'=c then none else lF c' ps
 |[],_=>by unfold yM lF;split<;>rfl
 |p::ps,h=>by
  rw[gT,C6] at h;unfold yM;by_cases e:c=p.1
  .rw[if_pos e]
   by_cases e2:c'=c
   .rw[if_pos e2];exact zyq (by rw[e2,e];exact h.1)
   .rw[if_neg e2]
    show _=lF c' (p::ps)
    conv=>rhs;unfold lF
    simp_all
  .rw[if_neg e]
   unfold lF;by_cases e2:c'=p.1
   .grind
   .rw[if_neg e2,ziV c c' h.2]
    first|rfl|simp[e2]
theorem zwW :∀{es:List pJ} {ps:List (Int×aF)} {i:Nat} {q:Nat×aF},zD es ps->By c ps i=some q->∃j,q.1=i+j/\j<es.length/\zD (es.eraseIdx j) (yM c ps)
 |[],ps,i,q,h,hq=>by rw[h.nil_inv] at hq;cases hq
 |e::es,ps,i,q,h,hq=>by
  obtain⟨p,qs,rfl,h1,h2,h3⟩:=h.cons_inv;unfold By at hq;by_cases hc:c=p.1
  .rw[if_pos hc] at hq
   injection hq with hq;refine⟨0,by rw[<-hq];rfl,aN,?_⟩;unfold yM;simp_all
  .rw[if_neg hc] at hq
   obtain⟨j,e1,e2,e3⟩:=zwW h3 hq;refine⟨j+1,by rw[e1];omega,by simpa using e2,?_⟩;unfold yM;rw[if_neg hc];unfold zD at e3⊢;simp_all
section
variable {P:bZ}{k:aM}
variable {ps:List (Int×aF)}
theorem zGT {t e kt:aM}(ht:P.underlying t=some (.map k e))(hk:P.underlying k=some (.int .i64)){w:aE}{b:Nat}{c:Int}(h:x6 w b ps)(hc:(lF c ps).isSome=true):
 ∃o',(∀ty,(Lu #[t,kt] ty #[.map (some b),.int .i64 c]).run P w=.ok (.tuple #[]) {w with heap:=w.heap.setIfInBounds b o'})/\x6 {w with heap:=w.heap.setIfInBounds b o'} b (yM c ps):=by
 obtain⟨es,clock,hb,he⟩:=h;have hz:=(eB.1 hb).1;have hf:=znE c ps 0
 cases hq:By c ps 0 with
 |none=>grind
 |some q=>
  obtain⟨j,e1,e2,e3⟩:=zwW he hq;have C8:q.1=j:=aC;refine⟨.map (es.eraseIdxIfInBounds j) clock,λty=>?_,es.eraseIdxIfInBounds j,clock,by simp[hz],?_⟩
  .simp[Lu,xE ht,Vm hb,zdH hk,zhJ hk c w _ _ he,hq,C8,X2 _ hb,vR]
  simp_all
variable {Q:oF->Act->aE->Prop}
theorem zDo {ops:Array aZ}{rest:List aZ}{o:aZ}{a:Act}(w:aE)(hg:o.guard=none)(m x:cK)(t kt:aM)(hop:o.op=.call {callee:=.builtin .delete,args:=#[m,x],argTypes:=#[t,kt]})(e:aM)
 (ht:P.underlying t=some (.map k e)) (hk:P.underlying k=some (.int .i64)) (b:Nat) (c:Int) (ps:List (Int×aF)) (hm:a.eval m=.map (some b)) (hx:a.eval x=.int .i64 c) (h:x6 w b ps) (hc:(lF c ps).isSome=true)
 (hK:∀w' o',w'={w with heap:=w.heap.setIfInBounds b o'}->x6 w' b (yM c ps)->wpList P ops Q rest (a.put o.dst (.tuple #[])) w'):wpList P ops Q (o::rest) a w:=by
 refine Su hg λK' sH=>?_;obtain⟨o',cN,qF⟩:=zGT (kt:=kt) ht hk h hc;unfold C2;simp only[aO,hop,resolve,invoke,builtin,Fl,Ic,Es,vD,gT,tW,hm,hx,cN];exact sH _ _ (hK _ _ rfl qF)
end
structure fY (v:fJ)(d:nU):Prop where
 kc:(v.pC.map uN).Nodup
 ko:(v.pO.map uN).Nodup
 km:(v.pM.map uN).Nodup
 c:∀(i g:Nat),d.ln[i]? =some g->((pZ g v.pC).isSome=true↔∃(j:Nat) (x:bR),d.r.recs[j]? =some x/\eD x=true/\x.l=(i:Int)+1)
 o1:∀(c:Int) (y:aF),lF c v.pO=some y->∃(i:Nat) (x:bR) (g:Nat),d.r.recs[i]? =some x/\eD x=true/\x.c=c/\d.ln[(x.l-1).toNat]? =some g/\y=.chan (some g)
 o2:∀(c:Int),lF c v.pO=none->∀(i:Nat) (x:bR),d.r.recs[i]? =some x->eD x=true->x.c≠c
 m1:∀(c:Int) (y:aF),lF c v.pM=some y->∃(i:Nat) (x:bR),y=.int .i64 (i:Int)/\d.r.recs[i]? =some x/\x.c=c/\∀(j:Nat) (e:bR),d.r.recs[j]? =some e->e.c=c->j<=i
 m2:∀(c:Int),lF c v.pM=none->∀(i:Nat) (x:bR),d.r.recs[i]? =some x->x.c≠c
structure yZ (d:nU):Prop where
 S:jA d.r
 R:RInv d.r
 ops:Re d.r
 ndl:d.ln.Nodup
 nln:(d.ln.length:Int)=d.r.o.ln
 lb:∀x∈d.r.recs,1<=x.l/\x.l<=d.r.o.ln
 nqn:(d.qn.length:Int)=d.r.o.op
 sm:Ub d.r
variable {xs:List Nat}
theorem zsj (h:xs.Nodup){i j g:Nat}(hi:xs[i]? =some g)(hj:xs[j]? =some g):i=j:=by
 obtain⟨h1,h2⟩:=kP.1 hi;obtain⟨h3,h4⟩:=kP.1 hj;exact(List.getElem_inj h).1 (h2.trans h4.symm)
theorem zH5 {rs:List bR}{l:Int}:rP rs l=true↔∃(j:Nat) (x:bR),rs[j]? =some x/\eD x=true/\x.l=l:=by
 unfold rP;rw[Wh];constructor
 .rintro⟨x,hx,h⟩
  obtain⟨j,hj⟩:=Gq.1 hx;simp only[jF,beq_iff_eq] at h;exact⟨j,x,hj,h.2,h.1⟩
 .grind
section
variable {v:fJ}{d:nU}
variable {i g:Nat}
theorem fY.used (h:fY v d)(hi:d.ln[i]? =some g):(pZ g v.pC).isSome=rP d.r.recs ((i:Int)+1):=by
 rw[Bool.eq_iff_iff,h.c i g hi,zH5]
variable {c:Int}{x:bR}
theorem fY.onLine (h:fY v d)(hi:yZ d)(hx:d.r.recs[i]? =some x)(ho:eD x=true)(hc:x.c=c):∃g,d.ln[(x.l-1).toNat]? =some g/\lF c v.pO=some (.chan (some g))/\lF c v.pM=some (.int .i64 (i:Int))/\(pZ g v.pC).isSome=true:=by
 have hO:∃g,d.ln[(x.l-1).toNat]? =some g/\lF c v.pO=some (.chan (some g)):=by
  cases e:lF c v.pO with
  |none=>exact absurd hc (h.o2 c e i x hx ho)
  |some y=>
   obtain⟨j,z,g,h1,h2,h3,h4,rfl⟩:=h.o1 c y e;obtain rfl:=hi.S.opn i j x z hx h1 ho h2 (.inl (hc.trans h3.symm));rw[hx] at h1;obtain rfl:=cO h1;exact⟨g,h4,rfl⟩
 obtain⟨g,h1,h2⟩:=hO;refine⟨g,h1,h2,?_,(h.c _ g h1).2 ⟨i,x,hx,ho,?_⟩⟩
 .cases e:lF c v.pM with
  |none=>exact absurd hc (h.m2 c e i x hx)
  |some y=>
   obtain⟨j,z,rfl,h3,h4,h5⟩:=h.m1 c y e;have k1:=h5 i x hx hc;have k2:=hi.S.last i j x z hx ho h3 (h4.trans hc.symm);rw[show j=i by omega]
 .have:=hi.lb x (fN hx);omega
theorem fY.offLine (h:fY v d)(hc:hY d.r.recs c=none):lF c v.pO=none:=by
 cases e:lF c v.pO with
 |none=>rfl
 |some y=>
  obtain⟨j,z,g,h1,h2,h3,_⟩:=h.o1 c y e;exact absurd h3 (Kn hc j z h1 h2)
theorem fY.more (h:fY v d)(hn:d.ln.Nodup){o hh tt clk:Int}(hg:d.ln[i]? =some g)(hf:rP d.r.recs ((i:Int)+1)=false)(hc:hY d.r.recs c=none):
 fY {v with pC:=vH g (.int .i64 c) v.pC,pO:=rB c (.chan (some g)) v.pO,pM:=rB c (.int .i64 (d.r.recs.length:Int)) v.pM} {d with r:={d.r with recs:=d.r.recs++[⟨c,(i:Int)+1,o,clk,hh,tt,eJ⟩]}}:=by
 have hop:eD ⟨c,(i:Int)+1,o,clk,hh,tt,eJ⟩=true:=by unfold eD;rw[zcT];rfl
 have Fc:(d.r.recs++[(⟨c,(i:Int)+1,o,clk,hh,tt,eJ⟩:bR)])[d.r.recs.length]? =some ⟨c,(i:Int)+1,o,clk,hh,tt,eJ⟩:=by rw[List.getElem?_append_right (bF _),Nat.sub_self];rfl
 refine⟨zt7 _ _ h.kc,zmu _ _ h.ko,zmu _ _ h.km,λi' g' x7=>?_,λc' y hy=>?_,λc' hy j x hx ho=>?_,λc' y hy=>?_,λc' hy j x hx=>?_⟩
 .simp only[zvj]
  by_cases e:g'=g
  .subst e
   obtain rfl:=zsj hn hg x7;rw[if_pos rfl];exact⟨λ_=>⟨_,_,Fc,hop,rfl⟩,λ_=>rfl⟩
  .rw[if_neg e,h.c i' g' x7]
   constructor
   .rintro⟨j,x,h1,h2⟩;exact⟨j,x,zhy h1,h2⟩
   .rintro⟨j,x,h1,h2,h3⟩
    rcases Ln h1 with⟨_,h4⟩|⟨rfl,rfl⟩
    .exact⟨j,x,h4,h2,h3⟩
    .exfalso
     have:i=i':=by simp only at h3;omega
     subst this;rw[hg] at x7;exact e (cO x7).symm
 .simp only[Xy] at hy
  by_cases e:c'=c
  .rw[if_pos e] at hy
   obtain rfl:=cO hy;exact⟨_,_,g,Fc,hop,e.symm,by simp only;rw[show((i:Int)+1-1).toNat=i by omega];exact hg,rfl⟩
  .rw[if_neg e] at hy
   obtain⟨j,x,g',h1,h2⟩:=h.o1 c' y hy;exact⟨j,x,g',zhy h1,h2⟩
 .simp only[Xy] at hy
  by_cases e:c'=c
  .rw[if_pos e] at hy;cases hy
  .rw[if_neg e] at hy
   rcases Ln hx with⟨_,h4⟩|⟨rfl,rfl⟩
   .exact h.o2 c' hy j x h4 ho
   .exact Ne.symm e
 .simp only[Xy] at hy
  by_cases e:c'=c
  .rw[if_pos e] at hy
   obtain rfl:=cO hy;refine⟨_,_,rfl,Fc,e.symm,λj x hx _=>?_⟩;rcases Ln hx with⟨h4,_⟩|⟨rfl,rfl⟩
   .omega
   .exact bF _
  .rw[if_neg e] at hy
   obtain⟨j,x,h1,h2,h3,h4⟩:=h.m1 c' y hy;refine⟨j,x,h1,zhy h2,h3,λj' x' lX kO=>?_⟩;rcases Ln lX with⟨_,h5⟩|⟨rfl,rfl⟩
   .exact h4 j' x' h5 kO
   .exact absurd kO.symm e
 .simp only[Xy] at hy
  by_cases e:c'=c
  .rw[if_pos e] at hy;cases hy
  .rw[if_neg e] at hy
   rcases Ln hx with⟨_,h4⟩|⟨rfl,rfl⟩
   .exact h.m2 c' hy j x h4
   .exact Ne.symm e
variable {f:bR->bR}
theorem fY.mod (h:fY v d)(hf:∀x,(f x).c=x.c/\(f x).l=x.l/\eD (f x)=eD x):fY v {d with r:={d.r with recs:=d.r.recs.modify i f}}:=by
 have fw:∀(j:Nat) (x:bR),d.r.recs[j]? =some x->∃y,(d.r.recs.modify i f)[j]? =some y/\y.c=x.c/\y.l=x.l/\eD y=eD x:=λj x hx=>by
  by_cases e:i=j
  .simp_all
  .simp_all
 have bw:∀(j:Nat) (y:bR),(d.r.recs.modify i f)[j]? =some y->∃x,d.r.recs[j]? =some x/\y.c=x.c/\y.l=x.l/\eD y=eD x:=λj y hy=>by
  obtain⟨x,h1,⟨_,rfl⟩|⟨_,rfl⟩⟩:=Gy hy
  .exact⟨x,h1,hf x⟩
  .simp_all
 refine⟨h.kc,h.ko,h.km,λi' g' x7=>?_,λc' y hy=>?_,λc' hy j x hx ho=>?_,λc' y hy=>?_,λc' hy j x hx=>?_⟩
 .rw[h.c i' g' x7]
  constructor
  .grind
  .grind
 .obtain⟨j,x,g',h1,h2,h3,h4,h5⟩:=h.o1 c' y hy
  obtain⟨z,k1,k2,k3,k4⟩:=fw j x h1;exact⟨j,z,g',k1,k4.trans h2,k2.trans h3,by rw[k3];exact h4,h5⟩
 .obtain⟨z,k1,k2,k3,k4⟩:=bw j x hx
  rw[k2];exact h.o2 c' hy j z k1 (k4.symm.trans ho)
 .obtain⟨j,x,h1,h2,h3,h4⟩:=h.m1 c' y hy
  obtain⟨z,k1,k2,k3,k4⟩:=fw j x h2;refine⟨j,z,h1,k1,k2.trans h3,λj' x' lX kO=>?_⟩;obtain⟨z',l1,l2,l3,l4⟩:=bw j' x' lX;exact h4 j' z' l1 (l2.symm.trans kO)
 .obtain⟨z,k1,k2,k3,k4⟩:=bw j x hx
  rw[k2];exact h.m2 c' hy j z k1
theorem fY.clear (h:fY v d)(hS:jA d.r)(hn:d.ln.Nodup)(Yz:∀x∈d.r.recs,1<=x.l)(hx:d.r.recs[i]? =some x)(ho:eD x=true)(hg:d.ln[(x.l-1).toNat]? =some g)(hf:∀z,(f z).c=z.c/\(f z).l=z.l)(bN:eD (f x)=false):
 fY {v with pC:=zL g v.pC,pO:=yM x.c v.pO} {d with r:={d.r with recs:=d.r.recs.modify i f}}:=by
 have bw:∀(j:Nat) (y:bR),(d.r.recs.modify i f)[j]? =some y->eD y=true->i≠j/\d.r.recs[j]? =some y:=λj y hy En=>by
  obtain⟨z,h1,⟨e,rfl⟩|⟨e,rfl⟩⟩:=Gy hy
  .subst e
   rw[hx] at h1;obtain rfl:=cO h1;rw[bN] at En;cases En
  .exact⟨e,h1⟩
 have cw:∀(j:Nat) (y:bR),(d.r.recs.modify i f)[j]? =some y->∃z,d.r.recs[j]? =some z/\y.c=z.c:=λj y hy=>by
  obtain⟨z,h1,⟨_,rfl⟩|⟨_,rfl⟩⟩:=Gy hy
  .exact⟨z,h1,(hf z).1⟩
  .simp_all
 refine⟨zwj _ h.kc,zou _ h.ko,h.km,λi' g' x7=>?_,λc' y hy=>?_,λc' hy j z hz zbO=>?_,λc' y hy=>?_,λc' hy j z hz=>?_⟩
 .simp only[zoW _ _ h.kc]
  by_cases e:g'=g
  .subst e
   have e1:=zsj hn hg x7;rw[if_pos rfl];constructor
   .intro h;cases h
   .rintro⟨j,z,h1,h2,h3⟩
    obtain⟨k1,k2⟩:=bw j z h1 h2;have hl:=Yz x (fN hx);exact absurd (hS.opn i j x z hx k2 ho h2 (.inr (.inl aC))) k1
  .rw[if_neg e,h.c i' g' x7]
   constructor
   .rintro⟨j,z,h1,h2,h3⟩
    have aU:i≠j:=λe2=>by simp_all
    exact⟨j,z,Yn h1 aU,h2,h3⟩
   .rintro⟨j,z,h1,h2,h3⟩
    obtain⟨k1,k2⟩:=bw j z h1 h2;exact⟨j,z,k2,h2,h3⟩
 .simp only[ziV _ _ h.ko] at hy
  by_cases e:c'=x.c
  .simp_all
  .rw[if_neg e] at hy
   obtain⟨j,z,g',h1,h2,h3,h4⟩:=h.o1 c' y hy;have aU:i≠j:=λe2=>by simp_all
   exact⟨j,z,g',Yn h1 aU,h2,h3,h4⟩
 .simp only[ziV _ _ h.ko] at hy
  obtain⟨k1,k2⟩:=bw j z hz zbO;by_cases e:c'=x.c
  .intro e2
   exact k1 (hS.opn i j x z hx k2 ho zbO (.inl (by rw[e2,e])))
  .rw[if_neg e] at hy
   exact h.o2 c' hy j z k2 zbO
 .obtain⟨j,z,h1,h2,h3,h4⟩:=h.m1 c' y hy
  have up:∀(j':Nat) (e:bR),(d.r.recs.modify i f)[j']? =some e->e.c=c'->j'<=j:=λj' e he hc=>by
   obtain⟨z',k1,k2⟩:=cw j' e he;exact h4 j' z' k1 (k2.symm.trans hc)
  by_cases e:i=j
  .subst e
   exact⟨i,f z,h1,zgZ h2,(hf z).1.trans h3,up⟩
  .exact⟨j,z,h1,Yn h2 e,h3,up⟩
 .obtain⟨z',k1,k2⟩:=cw j z hz
  rw[k2];exact h.m2 c' hy j z' k1
end
def Q6:aK.underlying 84=some (.chan .both 3):=aT
def K9:aK.underlying 3=some (.int .i64):=aT
def zjJ (w:aE):(zeroValue 3).run aK w=.ok (.int .i64 0) w:=aN
def zax (w:aE):(zeroValue 84).run aK w=.ok (.chan none) w:=aT
def Js (d:nU):Int:=match oT d.r.o d.r.recs with|[]=>-1|l::_=>l-1
theorem zGv {p:Int->Bool}:∀(n k:Nat),k<n->(∀j,j<k->p ((j:Int)+1)=false)->p ((k:Int)+1)=true->∃rest,((iQ n).map λi:Nat=>(i:Int)+1).filter p=((k:Int)+1)::rest:=by
 intro n
 induction n with
 |zero=>intro k h;omega
 |succ n ih=>
  intro k hk h1 h2;rw[List.range_succ,N4,Pl];by_cases e:k<n
  .grind
  .have e2:k=n:=aC
   subst e2;have h0:((iQ k).map λi:Nat=>(i:Int)+1).filter p=[]:=by
    rw[zvl];intro x hx;obtain⟨i,hi,rfl⟩:=Ug.1 hx;rw[h1 i (El.1 hi)];simp
   rw[h0];exact⟨[],by simp[h2]⟩
variable {d:nU}{k:Nat}
theorem zC5 (hn:(d.ln.length:Int)=d.r.o.ln)(hk:k<d.ln.length)(h1:∀j,j<k->rP d.r.recs ((j:Int)+1)=true)(h2:rP d.r.recs ((k:Int)+1)=false):Js d=(k:Int):=by
 unfold Js oT yH;obtain⟨rest,hr⟩:=zGv (p:=λl=>!rP d.r.recs l) d.r.o.ln.toNat k aC (λj hj=>by simp[h1 j hj]) (by simp[h2]);rw[hr];simp only;omega
theorem zDg (hn:(d.ln.length:Int)=d.r.o.ln)(h1:∀j,j<d.ln.length->rP d.r.recs ((j:Int)+1)=true):Js d= -1:=by
 unfold Js oT yH;have h0:((iQ d.r.o.ln.toNat).map λi:Nat=>(i:Int)+1).filter (λl=>!rP d.r.recs l)=[]:=by
  rw[zvl];intro x hx;obtain⟨i,hi,rfl⟩:=Ug.1 hx;rw[h1 i sU];simp
 rw[h0]
variable {w:aE}{lo:Nat}
theorem Hx {E s n:Nat}{xs:List aF}(h:w.ownsRow lo E s v n xs)(hs:0<s):∃A c,v=.slice A n c/\cG w lo w.heap.size s A n c xs:=by
 obtain⟨A,c,e,o⟩:=zeV h hs;exact⟨A,c,e,o.slc⟩
theorem zgD {hi n c:Nat}{A:Option bC}(h:cG w lo hi 1 A n c (J5 xs))(hk:k<n):∃b off g,A=some ⟨b,off,none⟩/\xs[k]? =some g/\w.cell? ⟨b,off+k,none⟩=some (.chan (some g)):=by
 obtain⟨b,off,e,h1,h2,h3,h4⟩:=h.cells hk;have hl:xs.length=n:=by have:=h.len;simpa[J5] using this
 obtain⟨g,hg⟩:∃g,xs[k]? =some g:=⟨xs[k]' aC,mV aC⟩;refine⟨b,off,g,e,hg,?_⟩;have:=h4 0 (.chan (some g)) (by simp[J5,hg]);simpa using this
theorem zqe {hb:Nat}{v:fJ}(h:bG w lo hb v d)(m:fY v d)(hn:(d.ln.length:Int)=d.r.o.ln)(hk:d.ln.length<=100):
 gH aK 109 #[.pointer (some ⟨hb,0,none⟩)] w λe w'=>e=.returned (.int .i64 (Js d))/\w'=w:=by
 obtain⟨A,c,hA,hs⟩:=Hx h.L aH;have HS:=aD hs;have HM:=aD m;have HC:=aD h.C;have HN:=aD hn;have qY:=aI h.blk 3;have k2:=aI h.blk 4;have k1:w.cell? ⟨hb,3,none⟩=some (.slice A d.ln.length c):=by rw[qY,<-hA];rfl
 clear qY hA hs m hn h
 go_enter Tryz.func109,Tryz.ntmps109
 go_wp2
 go_loop [12] (λi=>∃k:Nat,k<=d.ln.length/\i=.int .i64 k/\∀j,j<k->rP d.r.recs ((j:Int)+1)=true) (λi=>d.ln.length-(intOf i).toNat)
 case atStart=>grind
 case round=>
  obtain⟨k,tG,rfl,gS⟩:=hrel;have zkc:=aD gS;clear gS;by_cases aS:k<d.ln.length
  .obtain⟨b,off,g,hA,hg,hv⟩:=zgD HS.o aS
   subst hA;have HG:=aD hg;have i0:(0:Int)<=(k:Int):=aC;have i1:(k:Int)<(d.ln.length:Int):=aC;have HU:=aD (HM.o.used hg);clear hg;cases hu:rP d.r.recs ((k:Int)+1)
   .have HV:=aD hu
    clear hu
    go_wp2_with (at_lookup;refine ztz _ rfl (.tmp 21) (.tmp 22) 66 true rfl 3 zx8 Q6 (.int .i64 0) (zjJ _) v.mC g v.pC rfl rfl HC.o ?_;rw[HU.o,HV.o];simp only[if_true])
    go_ret;exact⟨Hw (zC5 HN.o aS zkc.o HV.o).symm,rfl⟩
   .have HV:=aD hu
    clear hu
    go_wp2_with (at_lookup;refine ztz _ rfl (.tmp 21) (.tmp 22) 66 true rfl 3 zx8 Q6 (.int .i64 0) (zjJ _) v.mC g v.pC rfl rfl HC.o ?_;rw[HU.o,HV.o];simp only[if_true])
    go_round
    case rel=>exact⟨k+1,aC,oL,λj hj=>if e:j<k then zkc.o j e else(by rw[show j=k by omega];exact HV.o)⟩
    case measure=>simp[intOf];omega
  .have e:k=d.ln.length:=aC
   subst e;go_wp2;go_ret;exact⟨Hw (zDg HN.o zkc.o).symm,rfl⟩
end Go.Proofs.YtfcjiloojkjaeaaGreatDoor
namespace Go.Proofs.YtfcjiloojkjaeaaGreatDoor
open Go.RowKit Go.Mt Go.Conc Go.Tt Go.Maps
section
variable {p:bZ}{o:aZ}{ρ:cK->aF}{w w':aE}
variable {t:aM}
theorem zi2 {m x:cK}{ok:Bool}{a b v:aF}(ho:o.op=.lookup t m x ok)(hm:ρ m=a)(hx:ρ x=b)(hr:(zZ t a b ok).run p w=.ok v w):(aO ρ o).run p w=.ok (.value v) w:=by
 obtain⟨dst,yV,type,pos,after,guard⟩:=o;simp only at ho;subst ho;simp[aO,hm,hx,hr]
theorem zB8 {t2:aM}{a b:cK}{x y:Option Nat}{d:Rq}{e:aM}(ho:o.op=.binOp .eql t a b t2)(hu:p.underlying t=some (.chan d e))(ha:ρ a=.chan x)(hb:ρ b=.chan y):(aO ρ o).run p w=.ok (.value (.bool (x==y))) w:=by
 obtain⟨dst,yV,type,pos,after,guard⟩:=o;simp only at ho;subst ho;simp[aO,eqGuard,binOp,ha,hb,zny hu]
theorem Fw {x:Int}(h1: -1000000000000<=x)(h2:x<=1000000000000):IntKind.i64.wrap x=x:=by
 rw[IntKind.wrap_i64];omega
theorem exec_mu {m x y:cK}{a b c:aF}(ho:o.op=.mapUpdate t m x y)(hm:ρ m=a)(hx:ρ x=b)(hy:ρ y=c)(hr:(G5 t a b c).run p w=.ok () w'):(aO ρ o).run p w=.ok .skip w':=by
 obtain⟨dst,yV,type,pos,after,guard⟩:=o;simp only at ho;subst ho;simp[aO,hm,hx,hy,hr]
variable {kt:aM}
theorem exec_dl {m x:cK}{a b v:aF}(ho:o.op=.call ⟨.builtin .delete,#[m,x],#[t,kt]⟩)(hm:ρ m=a)(hx:ρ x=b)(hr:(Lu #[t,kt] o.type #[a,b]).run p w=.ok v w'):(aO ρ o).run p w=.ok (.value v) w':=by
 obtain⟨dst,yV,type,pos,after,guard⟩:=o;simp only at ho hr;subst ho;simp[aO,resolve,invoke,builtin,hm,hx,hr]
theorem zfX {m x:cK}{a b v:aF}(ho:o.op=.call ⟨.builtin .copy,#[m,x],#[t,kt]⟩)(hm:ρ m=a)(hx:ρ x=b)(hr:(Dq #[t,kt] o.type #[a,b]).run p w=.ok v w'):(aO ρ o).run p w=.ok (.value v) w':=by
 obtain⟨dst,yV,type,pos,after,guard⟩:=o;simp only at ho hr;subst ho;simp[aO,resolve,invoke,builtin,hm,hx,hr]
end
def bodyRF:Go.Code:=(Tryz.f115.body).getD .skip
def rRF1:Go.Code:=match bodyRF with| .seq _ (.seq (a) _)=>a|_=>.skip
def Bc:Array Oper:=match rRF1 with| .region _ ops _=>ops|_=>#[]
def zoP:Bc.toList=[aV Bc 0 (some 5) (.move (.tmp 0)),aV Bc 1 (some 6) (.nilCheck (.tmp 5)),aV Bc 2 (some 7) (.fieldAddr 72 (.tmp 6) 7),aV Bc 3 (some 8) (.load 45 (.tmp 7)),aV Bc 4 (some 9) (.move (.tmp 0)),aV Bc 5 (some 10) (.nilCheck (.tmp 9)),aV Bc 6 (some 11) (.fieldAddr 72 (.tmp 10) 8),aV Bc 7 (some 12) (.load 70 (.tmp 11)),aV Bc 8 (some 13) (.move (.tmp 1)),aV Bc 9 (some 14) (.lookup 70 (.tmp 12) (.tmp 13) false),aV Bc 10 (some 15) (.indexAddr 45 (.tmp 8) (.tmp 14)),aV Bc 11 (some 4) (.assign (.tmp 15))]:=rfl
def WRF1 (w:aE)(hb g n cR mM ix:Nat)(c:Int):Nat->aE
 |_=>w.drew
theorem zwz:Bc.toList.map (·.dst)=[some 5,some 6,some 7,some 8,some 9,some 10,some 11,some 12,some 13,some 14,some 15,some 4]:=by rw[zoP];rfl
def lRF1 (w:aE)(hb g n cR mM ix:Nat)(c:Int):List Value:=[.pointer (some ⟨hb,0,none⟩),.pointer (some ⟨hb,0,none⟩),.pointer (some ⟨hb,9,none⟩),.slice (some ⟨g,0,none⟩) n cR,.pointer (some ⟨hb,0,none⟩),.pointer (some ⟨hb,0,none⟩),.pointer (some ⟨hb,10,none⟩),.map (some mM),.int .i64 (c),.int .i64 ((ix:Nat)),.pointer (some ⟨g,ix*7,none⟩),.pointer (some ⟨g,ix*7,none⟩)]
def fRF1 (w:aE)(hb g n cR mM ix:Nat)(c:Int)(i:Nat):Value:=(lRF1 w hb g n cR mM ix c).getD i aA
variable {Q:oF->vN->aE->Prop}{d:List Gg}{t0:Array aF}
theorem wp_RF1 (w:aE)(hb g n cR mM ix:Nat)(c:Int)(hz:t0.size=16)(uL:t0.getD 0 aA=.pointer (some ⟨hb,0,none⟩))(E5:t0.getD 1 aA=.int .i64 (c))(h9:w.cell? ⟨hb,9,none⟩=some (.slice (some ⟨g,0,none⟩) n cR))(Zj:w.cell? ⟨hb,10,none⟩=some (.map (some mM)))(xW:(zZ 70 (.map (some mM)) (.int .i64 c) false).run aK w.drew=.ok (.int .i64 (ix:Int)) w.drew)(oY:ix<n)(h0:WRF1 w hb g n cR mM ix c 0=w.drew)(hk:Q .normal ⟨dF Bc (fRF1 w hb g n cR mM ix c) t0,d⟩ (w.drew)):
 (E6 1 Bc true).wp aK Q ⟨t0,d⟩ w:=by
 refine Je (ws:=[]) (Wd:=WRF1 w hb g n cR mM ix c) (vals:=fRF1 w hb g n cR mM ix c) wA.mixed aT aH aT h0 J4 (λV hU hV=>?_) hk;obtain⟨e5,e6,e7,e8,e9,zgc,zjV,zfs,zjN,zr7,zwF,e4,-⟩:=Iq zwz hU;have e0:=(hV 0 aT).trans uL;have e1:=(hV 1 aT).trans E5;have zwS:=h9;have zzw:=Zj;refine λTf hT=>Ig zoP ⟨bT.pv,bT.pv,bT.pv,bT.ld,bT.pv,bT.pv,bT.pv,bT.ld,bT.pv,bT.ld (hx:=zi2 rfl (oA hT zfs) (oA hT zjN) xW),bT.any (λkk gA hm=>?_),bT.pv,trivial⟩
 .have i0:(0:Int)<=(ix:Int):=aC
  have i1:(ix:Int)<(n:Int):=by have:=oY;omega
  unfold aO;go_simp
def bodyCL:Go.Code:=(Tryz.f116.body).getD .skip
def rCL0:Go.Code:=match bodyCL with| .seq (a) _=>a|_=>.skip
def Dh:Array Oper:=match rCL0 with| .region _ ops _=>ops|_=>#[]
def zqz:Dh.toList=[aV Dh 0 (some 7) (.move (.tmp 0)),aV Dh 1 (some 8) (.nilCheck (.tmp 7)),aV Dh 2 (some 9) (.fieldAddr 72 (.tmp 8) 2),aV Dh 3 (some 10) (.load 66 (.tmp 9)),aV Dh 4 (some 11) (.move (.tmp 0)),aV Dh 5 (some 12) (.nilCheck (.tmp 11)),aV Dh 6 (some 13) (.fieldAddr 72 (.tmp 12) 3),aV Dh 7 (some 14) (.load 67 (.tmp 13)),aV Dh 8 (some 15) (.move (.tmp 1)),aV Dh 9 (some 16) (.lookup 67 (.tmp 14) (.tmp 15) false),aV Dh 10 none (.call ⟨.builtin .delete,#[.tmp 10,.tmp 16],#[66,84]⟩)]:=rfl
def WCL0 (w:aE)(hb mC mO g:Nat)(o1:Obj)(c:Int):Nat->aE
 |0=>w.drew
 |_=>{w.drew with heap:=w.drew.heap.setIfInBounds mC o1}
theorem zoB:Dh.toList.map (·.dst)=[some 7,some 8,some 9,some 10,some 11,some 12,some 13,some 14,some 15,some 16,none]:=by rw[zqz];rfl
def lCL0 (w:aE)(hb mC mO g:Nat)(o1:Obj)(c:Int):List Value:=[.pointer (some ⟨hb,0,none⟩),.pointer (some ⟨hb,0,none⟩),.pointer (some ⟨hb,4,none⟩),.map (some mC),.pointer (some ⟨hb,0,none⟩),.pointer (some ⟨hb,0,none⟩),.pointer (some ⟨hb,5,none⟩),.map (some mO),.int .i64 (c),.chan (some g),aA]
def fCL0 (w:aE)(hb mC mO g:Nat)(o1:Obj)(c:Int)(i:Nat):Value:=(lCL0 w hb mC mO g o1 c).getD i aA
theorem wp_CL0 (w:aE)(hb mC mO g:Nat)(o1:Obj)(c:Int)(hz:t0.size=36)(uL:t0.getD 0 aA=.pointer (some ⟨hb,0,none⟩))(E5:t0.getD 1 aA=.int .i64 (c))(h4:w.cell? ⟨hb,4,none⟩=some (.map (some mC)))(h5:w.cell? ⟨hb,5,none⟩=some (.map (some mO)))(xW:(zZ 67 (.map (some mO)) (.int .i64 c) false).run aK w.drew=.ok (.chan (some g)) w.drew)(vE:∀ty,(Lu #[66,84] ty #[.map (some mC),.chan (some g)]).run aK w.drew=.ok (.tuple #[]) {w.drew with heap:=w.drew.heap.setIfInBounds mC o1})(h0:WCL0 w hb mC mO g o1 c 0=w.drew)(hk:Q .normal ⟨dF Dh (fCL0 w hb mC mO g o1 c) t0,d⟩ ({w.drew with heap:=w.drew.heap.setIfInBounds mC o1})):
 (E6 0 Dh true).wp aK Q ⟨t0,d⟩ w:=by
 refine Je (ws:=[10]) (Wd:=WCL0 w hb mC mO g o1 c) (vals:=fCL0 w hb mC mO g o1 c) wA.mixed aT aH aT h0 J4 (λV hU hV=>?_) hk;obtain⟨e7,e8,e9,zgc,zjV,zfs,zjN,zr7,zwF,zzV,-⟩:=Iq zoB hU;have e0:=(hV 0 aT).trans uL;have e1:=(hV 1 aT).trans E5;have Ks:=h4;have zD3:=h5;refine λTf hT=>Ig zqz ⟨bT.pv,bT.pv,bT.pv,bT.ld,bT.pv,bT.pv,bT.pv,bT.ld,bT.pv,bT.ld (hx:=zi2 rfl (oA hT zr7) (oA hT zwF) xW),.actn 0 rfl (eE rfl) rfl (.tuple #[]) ?_,trivial⟩
 .exact exec_dl rfl (oA hT zgc) (oA hT zzV) (vE _)
def ztl:Go.Code:=(Tryz.f110.body).getD .skip
def rCC3:Go.Code:=match ztl with| .seq _ (.seq _ (.seq _ (.seq (a) _)))=>a|_=>.skip
def C9:Array Oper:=match rCC3 with| .region _ ops _=>ops|_=>#[]
def zwM:C9.toList=[aV C9 0 (some 26) (.move (.tmp 0)),aV C9 1 (some 27) (.nilCheck (.tmp 26)),aV C9 2 (some 28) (.fieldAddr 72 (.tmp 27) 8),aV C9 3 (some 29) (.load 70 (.tmp 28)),aV C9 4 (some 30) (.move (.tmp 1)),aV C9 5 (some 31) (.move (.tmp 0)),aV C9 6 (some 32) (.nilCheck (.tmp 31)),aV C9 7 (some 33) (.fieldAddr 72 (.tmp 32) 7),aV C9 8 (some 34) (.load 45 (.tmp 33)),aV C9 9 (some 35) (.call ⟨.builtin .len,#[.tmp 34],#[45]⟩),aV C9 10 none (.mapUpdate 70 (.tmp 29) (.tmp 30) (.tmp 35))]:=rfl
def WCC3 (w:aE)(hb mM n:Nat)(sR:aF)(A:Option bC)(cR:Nat)(o1:Obj)(c:Int):Nat->aE
 |0=>w.drew
 |_=>{w.drew with heap:=w.drew.heap.setIfInBounds mM o1}
theorem zu3:C9.toList.map (·.dst)=[some 26,some 27,some 28,some 29,some 30,some 31,some 32,some 33,some 34,some 35,none]:=by rw[zwM];rfl
def lCC3 (w:aE)(hb mM n:Nat)(sR:aF)(A:Option bC)(cR:Nat)(o1:Obj)(c:Int):List Value:=[.pointer (some ⟨hb,0,none⟩),.pointer (some ⟨hb,0,none⟩),.pointer (some ⟨hb,10,none⟩),.map (some mM),.int .i64 (c),.pointer (some ⟨hb,0,none⟩),.pointer (some ⟨hb,0,none⟩),.pointer (some ⟨hb,9,none⟩),.slice A n cR,.int .i64 ((n:Nat)),aA]
def fCC3 (w:aE)(hb mM n:Nat)(sR:aF)(A:Option bC)(cR:Nat)(o1:Obj)(c:Int)(i:Nat):Value:=(lCC3 w hb mM n sR A cR o1 c).getD i aA
theorem wp_CC3 (w:aE)(hb mM n:Nat)(sR:aF)(A:Option bC)(cR:Nat)(o1:Obj)(c:Int)(hz:t0.size=53)(uL:t0.getD 0 aA=.pointer (some ⟨hb,0,none⟩))(E5:t0.getD 1 aA=.int .i64 (c))(Zj:w.cell? ⟨hb,10,none⟩=some (.map (some mM)))(h9:w.cell? ⟨hb,9,none⟩=some (.slice A n cR))(Pc:(G5 70 (.map (some mM)) (.int .i64 c) (.int .i64 (n:Int))).run aK w.drew=.ok () {w.drew with heap:=w.drew.heap.setIfInBounds mM o1})(h0:WCC3 w hb mM n sR A cR o1 c 0=w.drew)(hk:Q .normal ⟨dF C9 (fCC3 w hb mM n sR A cR o1 c) t0,d⟩ ({w.drew with heap:=w.drew.heap.setIfInBounds mM o1})):
 (E6 3 C9 true).wp aK Q ⟨t0,d⟩ w:=by
 refine Je (ws:=[10]) (Wd:=WCC3 w hb mM n sR A cR o1 c) (vals:=fCC3 w hb mM n sR A cR o1 c) wA.mixed aT aH aT h0 J4 (λV hU hV=>?_) hk;obtain⟨zKR,zLi,zI5,zGq,zCj,zJE,zJu,zLp,zJm,zG6,-⟩:=Iq zu3 hU;have e0:=(hV 0 aT).trans uL;have e1:=(hV 1 aT).trans E5;have zzw:=Zj;have zwS:=h9;refine λTf hT=>Ig zwM ⟨bT.pv,bT.pv,bT.pv,bT.ld,bT.pv,bT.pv,bT.pv,bT.pv,bT.ld,bT.pv,.skp 0 rfl (eE rfl) rfl ?_,trivial⟩
 .exact exec_mu rfl (oA hT zGq) (oA hT zCj) (oA hT zG6) Pc
def rCC4:Go.Code:=match ztl with| .seq _ (.seq _ (.seq _ (.seq _ (a))))=>a|_=>.skip
def vP:Array Oper:=match rCC4 with| .region _ ops _=>ops|_=>#[]
def zuz:vP.toList=[aV vP 0 (some 36) (.move (.tmp 0)),aV vP 1 (some 37) (.move (.tmp 0)),aV vP 2 (some 38) (.nilCheck (.tmp 37)),aV vP 3 (some 39) (.fieldAddr 72 (.tmp 38) 7),aV vP 4 (some 40) (.load 45 (.tmp 39)),aV vP 5 (some 41) (.move (.tmp 1)),aV vP 6 (some 42) (.move (.tmp 2)),aV vP 7 (some 43) (.binOp .add 3 (.tmp 42) (.const (.int .i64 1)) 3),aV vP 8 (some 44) (.move (.tmp 0)),aV vP 9 (some 45) (.nilCheck (.tmp 44)),aV vP 10 (some 46) (.fieldAddr 72 (.tmp 45) 9),aV vP 11 (some 47) (.load 3 (.tmp 46)),aV vP 12 (some 48) (.build 50 #[(0,.tmp 41),(1,.tmp 43),(3,.tmp 47),(4,.const (.int .i64 (-1))),(5,.const (.int .i64 (-1))),(6,.const (.string {data:=#[111,112,101,110]}))]),aV vP 13 (some 49) (.buildSlice 45 1 #[(0,.tmp 48)]),aV vP 14 (some 50) (.call ⟨.builtin .append,#[.tmp 40,.tmp 49],#[45,45]⟩),aV vP 15 (some 51) (.nilCheck (.tmp 36)),aV vP 16 (some 52) (.fieldAddr 72 (.tmp 51) 7),aV vP 17 none (.store 45 (.tmp 52) (.tmp 50))]:=rfl
def WCC4 (w w3:aE)(hb g1 n1 c1:Nat)(sR:aF)(c ix clk:Int):Nat->aE
 |0=>w.drew
 |1=>(w.alloc (.cells #[.int .i64 c,.int .i64 (ix+1),.int .i64 0,.int .i64 clk,.int .i64 (-1),.int .i64 (-1),.string eJ] 50)).drew
 |2=>w3
 |_=>w3.setCell ⟨hb,9,none⟩ (.slice (some ⟨g1,0,none⟩) n1 c1)
theorem zww:vP.toList.map (·.dst)=[some 36,some 37,some 38,some 39,some 40,some 41,some 42,some 43,some 44,some 45,some 46,some 47,some 48,some 49,some 50,some 51,some 52,none]:=by rw[zuz];rfl
def lCC4 (w w3:aE)(hb g1 n1 c1:Nat)(sR:aF)(c ix clk:Int):List Value:=[.pointer (some ⟨hb,0,none⟩),.pointer (some ⟨hb,0,none⟩),.pointer (some ⟨hb,0,none⟩),.pointer (some ⟨hb,9,none⟩),sR,.int .i64 (c),.int .i64 (ix),.int .i64 (ix+1),.pointer (some ⟨hb,0,none⟩),.pointer (some ⟨hb,0,none⟩),.pointer (some ⟨hb,11,none⟩),.int .i64 (clk),.agg #[.int .i64 c,.int .i64 (ix+1),.int .i64 0,.int .i64 clk,.int .i64 (-1),.int .i64 (-1),.string eJ],.slice (some ⟨w.heap.size,0,none⟩) 1 1,.slice (some ⟨g1,0,none⟩) n1 c1,.pointer (some ⟨hb,0,none⟩),.pointer (some ⟨hb,9,none⟩),aA]
def fCC4 (w w3:aE)(hb g1 n1 c1:Nat)(sR:aF)(c ix clk:Int)(i:Nat):Value:=(lCC4 w w3 hb g1 n1 c1 sR c ix clk).getD i aA
theorem wp_CC4 (w w3:aE)(hb g1 n1 c1:Nat)(sR:aF)(c ix clk:Int)(hz:t0.size=53)(uL:t0.getD 0 aA=.pointer (some ⟨hb,0,none⟩))(E5:t0.getD 1 aA=.int .i64 (c))(Tk:t0.getD 2 aA=.int .i64 (ix))(h9:w.cell? ⟨hb,9,none⟩=some sR)(zdC:w.cell? ⟨hb,11,none⟩=some (.int .i64 clk))(zss:0<=ix/\ix<=1000)(fM:(xV #[45,45] 45 #[sR,.slice (some ⟨w.heap.size,0,none⟩) 1 1]).run aK ((w.alloc (.cells #[.int .i64 c,.int .i64 (ix+1),.int .i64 0,.int .i64 clk,.int .i64 (-1),.int .i64 (-1),.string eJ] 50)).drew)=.ok (.slice (some ⟨g1,0,none⟩) n1 c1) w3)(aY:w3.cell? ⟨hb,9,none⟩=some sR)(nZ:w3.frozen? ⟨hb,9,none⟩=false)(h0:WCC4 w w3 hb g1 n1 c1 sR c ix clk 0=w.drew)(hk:Q .normal ⟨dF vP (fCC4 w w3 hb g1 n1 c1 sR c ix clk) t0,d⟩ (w3.setCell ⟨hb,9,none⟩ (.slice (some ⟨g1,0,none⟩) n1 c1))):
 (E6 4 vP true).wp aK Q ⟨t0,d⟩ w:=by
 refine Je (ws:=[13,14,17]) (Wd:=WCC4 w w3 hb g1 n1 c1 sR c ix clk) (vals:=fCC4 w w3 hb g1 n1 c1 sR c ix clk) wA.mixed aT aH aT h0 J4 (λV hU hV=>?_) hk;obtain⟨zEj,zpZ,zxY,zjs,zil,zwu,zp3,zlY,zq9,ziC,X0,zac,zl7,Vl,zd6,V4,Ww,-⟩:=Iq zww hU;have e0:=(hV 0 aT).trans uL;have e1:=(hV 1 aT).trans E5;have e2:=(hV 2 aT).trans Tk;have zwS:=h9;have zKj:=zdC;refine λTf hT=>Ig zuz ⟨bT.pv,bT.pv,bT.pv,bT.pv,bT.any (λkk gA hm=>?_),bT.pv,bT.pv,bT.any (λkk gA hm=>?_),bT.pv,bT.pv,bT.pv,bT.ld,bT.any (λkk gA hm=>?_),bT.act (v:=V 49) 0 rfl (eE rfl) ?_,bT.act (v:=V 50) 1 rfl (eE rfl) ?_,bT.pv,bT.pv,.skp 2 rfl (eE rfl) rfl ?_,trivial⟩
 .rcases kk with _|_|_|_|kk
  .show(aO _ _).run _ (w.drew)=wW _ (w.drew);have hh:=h9;unfold aO;go_simp
  .show(aO _ _).run _ ((w.alloc (.cells #[.int .i64 c,.int .i64 (ix+1),.int .i64 0,.int .i64 clk,.int .i64 (-1),.int .i64 (-1),.string eJ] 50)).drew)=wW _ ((w.alloc (.cells #[.int .i64 c,.int .i64 (ix+1),.int .i64 0,.int .i64 clk,.int .i64 (-1),.int .i64 (-1),.string eJ] 50)).drew);have hh:=Bo h9 (.cells #[.int .i64 c,.int .i64 (ix+1),.int .i64 0,.int .i64 clk,.int .i64 (-1),.int .i64 (-1),.string eJ] 50);unfold aO;go_simp
  .exact absurd hm vT
  .exact absurd hm vT
  .simp at gA
 .have i0:=zss.1
  have i1:=zss.2;unfold aO;go_simp;exact Fw aC aC
 .unfold aO;go_simp;rfl
 .rw[Vl];show(aO _ _).run _ (w.drew)=wW _ ((w.alloc (.cells #[.int .i64 c,.int .i64 (ix+1),.int .i64 0,.int .i64 clk,.int .i64 (-1),.int .i64 (-1),.string eJ] 50)).drew);unfold aO;go_simp
 .rw[zd6];exact zdB rfl (oA hT zil) (oA hT Vl) fM
 .have hs:=aY;have hf:=nZ;show(aO _ _).run _ (w3)=wW _ (w3.setCell ⟨hb,9,none⟩ (.slice (some ⟨g1,0,none⟩) n1 c1));unfold aO;go_simp
def bodyWA:Go.Code:=(Tryz.f105.body).getD .skip
def rWA10:Go.Code:=match bodyWA with| .seq _ (.seq _ (.seq _ (.seq _ (.seq (.seq _ (.block _ (.loop (.seq _ (.seq _ (.seq (.block _ (.seq _ (.seq _ (.seq _ (.seq (a) _))))) _)))))) _))))=>a|_=>.skip
def Bz:Array Oper:=match rWA10 with| .region _ ops _=>ops|_=>#[]
def zrZ:Bz.toList=[aV Bz 0 (some 58) (.move (.tmp 0)),aV Bz 1 (some 59) (.move (.tmp 0)),aV Bz 2 (some 60) (.nilCheck (.tmp 59)),aV Bz 3 (some 61) (.fieldAddr 72 (.tmp 60) 6),aV Bz 4 (some 62) (.load 38 (.tmp 61)),aV Bz 5 (some 63) (.fieldAddr 149 (.tmp 8) 0),aV Bz 6 (some 64) (.load 3 (.tmp 63)),aV Bz 7 (some 65) (.buildSlice 38 1 #[(0,.tmp 64)]),aV Bz 8 (some 66) (.call ⟨.builtin .append,#[.tmp 62,.tmp 65],#[38,38]⟩),aV Bz 9 (some 67) (.nilCheck (.tmp 58)),aV Bz 10 (some 68) (.fieldAddr 72 (.tmp 67) 6),aV Bz 11 none (.store 38 (.tmp 68) (.tmp 66))]:=rfl
def WWA10 (w w3:aE)(hb gx g1 n1 c1:Nat)(sB:aF)(c:Int):Nat->aE
 |0=>w.drew
 |1=>(w.alloc (.cells #[.int .i64 c] 3)).drew
 |2=>w3
 |_=>w3.setCell ⟨hb,8,none⟩ (.slice (some ⟨g1,0,none⟩) n1 c1)
theorem zv0:Bz.toList.map (·.dst)=[some 58,some 59,some 60,some 61,some 62,some 63,some 64,some 65,some 66,some 67,some 68,none]:=by rw[zrZ];rfl
def lWA10 (w w3:aE)(hb gx g1 n1 c1:Nat)(sB:aF)(c:Int):List Value:=[.pointer (some ⟨hb,0,none⟩),.pointer (some ⟨hb,0,none⟩),.pointer (some ⟨hb,0,none⟩),.pointer (some ⟨hb,8,none⟩),sB,.pointer (some ⟨gx,0,none⟩),.int .i64 (c),.slice (some ⟨w.heap.size,0,none⟩) 1 1,.slice (some ⟨g1,0,none⟩) n1 c1,.pointer (some ⟨hb,0,none⟩),.pointer (some ⟨hb,8,none⟩),aA]
def znJ (w w3:aE)(hb gx g1 n1 c1:Nat)(sB:aF)(c:Int)(i:Nat):Value:=(lWA10 w w3 hb gx g1 n1 c1 sB c).getD i aA
theorem wp_WA10 (w w3:aE)(hb gx g1 n1 c1:Nat)(sB:aF)(c:Int)(hz:t0.size=81)(uL:t0.getD 0 aA=.pointer (some ⟨hb,0,none⟩))(znT:t0.getD 8 aA=.pointer (some ⟨gx,0,none⟩))(h8:w.cell? ⟨hb,8,none⟩=some sB)(hx:w.cell? ⟨gx,0,none⟩=some (.int .i64 c))(fM:(xV #[38,38] 38 #[sB,.slice (some ⟨w.heap.size,0,none⟩) 1 1]).run aK ((w.alloc (.cells #[.int .i64 c] 3)).drew)=.ok (.slice (some ⟨g1,0,none⟩) n1 c1) w3)(aY:w3.cell? ⟨hb,8,none⟩=some sB)(nZ:w3.frozen? ⟨hb,8,none⟩=false)(h0:WWA10 w w3 hb gx g1 n1 c1 sB c 0=w.drew)(hk:Q .normal ⟨dF Bz (znJ w w3 hb gx g1 n1 c1 sB c) t0,d⟩ (w3.setCell ⟨hb,8,none⟩ (.slice (some ⟨g1,0,none⟩) n1 c1))):
 (E6 10 Bz true).wp aK Q ⟨t0,d⟩ w:=by
 refine Je (ws:=[7,8,11]) (Wd:=WWA10 w w3 hb gx g1 n1 c1 sB c) (vals:=znJ w w3 hb gx g1 n1 c1 sB c) wA.mixed aT aH aT h0 J4 (λV hU hV=>?_) hk;obtain⟨zuF,zAI,zIM,zI0,zBO,zKf,zKp,zuH,zBG,zJ0,zLy,-⟩:=Iq zv0 hU;have e0:=(hV 0 aT).trans uL;have e8:=(hV 8 aT).trans znT;have zIN:=h8;have lX:=hx;refine λTf hT=>Ig zrZ ⟨bT.pv,bT.pv,bT.pv,bT.pv,bT.any (λkk gA hm=>?_),bT.pv,bT.ld,bT.act (v:=V 65) 0 rfl (eE rfl) ?_,bT.act (v:=V 66) 1 rfl (eE rfl) ?_,bT.pv,bT.pv,.skp 2 rfl (eE rfl) rfl ?_,trivial⟩
 .rcases kk with _|_|_|_|kk
  .show(aO _ _).run _ (w.drew)=wW _ (w.drew);have hh:=h8;unfold aO;go_simp
  .show(aO _ _).run _ ((w.alloc (.cells #[.int .i64 c] 3)).drew)=wW _ ((w.alloc (.cells #[.int .i64 c] 3)).drew);have hh:=Bo h8 (.cells #[.int .i64 c] 3);unfold aO;go_simp
  .exact absurd hm vT
  .exact absurd hm vT
  .simp at gA
 .rw[zuH];show(aO _ _).run _ (w.drew)=wW _ ((w.alloc (.cells #[.int .i64 c] 3)).drew);unfold aO;go_simp
 .rw[zBG];exact zdB rfl (oA hT zBO) (oA hT zuH) fM
 .have hs:=aY;have hf:=nZ;show(aO _ _).run _ (w3)=wW _ (w3.setCell ⟨hb,8,none⟩ (.slice (some ⟨g1,0,none⟩) n1 c1));unfold aO;go_simp
def bodyHG:Go.Code:=(Tryz.f102.body).getD .skip
def rHG1:Go.Code:=match bodyHG with| .seq _ (.seq (.seq (a) _) _)=>a|_=>.skip
def Ip:Array Oper:=match rHG1 with| .region _ ops _=>ops|_=>#[]
def zwc:Ip.toList=[aV Ip 0 (some 7) (.move (.tmp 0)),aV Ip 1 (some 8) (.nilCheck (.tmp 7)),aV Ip 2 (some 9) (.fieldAddr 72 (.tmp 8) 3),aV Ip 3 (some 10) (.load 67 (.tmp 9)),aV Ip 4 (some 11) (.load 3 (.tmp 3)),aV Ip 5 (some 12) (.lookup 67 (.tmp 10) (.tmp 11) false),aV Ip 6 (some 13) (.binOp .eql 84 (.tmp 12) (.const (.chan none)) 84)]:=rfl
def WHG1 (w:aE)(hb gx mO:Nat)(c:Int)(q:Option Nat):Nat->aE
 |_=>w.drew
theorem zm9:Ip.toList.map (·.dst)=[some 7,some 8,some 9,some 10,some 11,some 12,some 13]:=by rw[zwc];rfl
def lHG1 (w:aE)(hb gx mO:Nat)(c:Int)(q:Option Nat):List Value:=[.pointer (some ⟨hb,0,none⟩),.pointer (some ⟨hb,0,none⟩),.pointer (some ⟨hb,5,none⟩),.map (some mO),.int .i64 (c),.chan q,.bool (q==none)]
def fHG1 (w:aE)(hb gx mO:Nat)(c:Int)(q:Option Nat)(i:Nat):Value:=(lHG1 w hb gx mO c q).getD i aA
theorem zqW (w:aE)(hb gx mO:Nat)(c:Int)(q:Option Nat)(hz:t0.size=59)(uL:t0.getD 0 aA=.pointer (some ⟨hb,0,none⟩))(znZ:t0.getD 3 aA=.pointer (some ⟨gx,0,none⟩))(h5:w.cell? ⟨hb,5,none⟩=some (.map (some mO)))(hx:w.cell? ⟨gx,0,none⟩=some (.int .i64 c))(xW:(zZ 67 (.map (some mO)) (.int .i64 c) false).run aK w.drew=.ok (.chan q) w.drew)(h0:WHG1 w hb gx mO c q 0=w.drew)(hk:Q .normal ⟨dF Ip (fHG1 w hb gx mO c q) t0,d⟩ (w.drew)):
 (E6 1 Ip true).wp aK Q ⟨t0,d⟩ w:=by
 refine Je (ws:=[]) (Wd:=WHG1 w hb gx mO c q) (vals:=fHG1 w hb gx mO c q) wA.mixed aT aH aT h0 J4 (λV hU hV=>?_) hk;obtain⟨e7,e8,e9,zgc,zjV,zfs,zjN,-⟩:=Iq zm9 hU;have e0:=(hV 0 aT).trans uL;have e3:=(hV 3 aT).trans znZ;have zD3:=h5;have lX:=hx;refine λTf hT=>Ig zwc ⟨bT.pv,bT.pv,bT.pv,bT.ld,bT.ld,bT.ld (hx:=zi2 rfl (oA hT zgc) (oA hT zjV) xW),bT.any (λkk gA hm=>?_),trivial⟩
 .exact zB8 rfl Q6 (oA hT zfs) rfl
end Go.Proofs.YtfcjiloojkjaeaaGreatDoor
namespace Go.Proofs.YtfcjiloojkjaeaaGreatDoor
open Go.RowKit
def Df (v v':fJ):Prop:=v'.sL=v.sL/\v'.sQ=v.sQ/\v'.sW=v.sW/\v'.sB=v.sB/\v'.sA=v.sA/\v'.sT=v.sT
def Df.rf (v:fJ):Df v v:=⟨rfl,rfl,rfl,rfl,rfl,rfl⟩
def zpG:aK.underlying 70=some (.map 3 3):=aT
def Q1:aK.underlying 67=some (.map 3 84):=aT
def zuO:aK.underlying 66=some (.map 84 3):=aT
variable {w:aE}{lo hb i:Nat}{v:fJ}{d:nU}{x:bR}
theorem zlC (h:bG w lo hb v d)(hx:d.r.recs[i]? =some x):∃g c,v.sR=.slice (some ⟨g,0,none⟩) d.r.recs.length c:=by
 have hi:=(kP.1 hx).1;rcases h.R.2 with⟨_,h0⟩|⟨g,cap,cur,e,_⟩
 .omega
 .simp_all
variable {c:Int}{g cR:Nat}
theorem zge (h:bG w lo hb v d)(hR:v.sR=.slice (some ⟨g,0,none⟩) d.r.recs.length cR)(hx:d.r.recs[i]? =some x)(hc:lF c v.pM=some (.int .i64 (i:Int))):
 gH aK 115 #[.pointer (some ⟨hb,0,none⟩),.int .i64 c] w λe w'=>e=.returned (.pointer (some ⟨g,i*7,none⟩))/\w'=w.drew:=by
 have hi:=(kP.1 hx).1;have k0:=aI h.blk 9;have k1:w.cell? ⟨hb,9,none⟩=some (.slice (some ⟨g,0,none⟩) d.r.recs.length cR):=by rw[k0,<-hR];rfl
 have k2:=aI h.blk 10;have hl:(zZ 70 (.map (some v.mM)) (.int .i64 c) false).run aK w.drew=.ok (.int .i64 (i:Int)) w.drew:=by
  have:=zbM zpG K9 (zjJ w.drew) (h.drew.M) (c:=c) false;rw[hc] at this;exact this
 have HL:=aD hl
 go_enter Tryz.func115,Tryz.ntmps115
 go_wp2_with fail
 refine wp_RF1 w hb g d.r.recs.length cR v.mM i c rfl rfl rfl k1 k2 HL.o hi rfl ?_;rw[Go.Mt.Bn,zwz];simp only[Go.Mt.xN,dP,dQ,fRF1,lRF1,Du,Ee]
 go_wp2_with fail
 go_ret;exact⟨rfl,rfl⟩
theorem zCb (rs:List bR)(x:bR):recs (rs++[x])=recs rs++x.cells:=by simp[recs]
def zF9:(aK.info? 50).map (λi=>(i.zero,i.size,i.bytes))=some (some (.agg #[.int .i64 0,.int .i64 0,.int .i64 0,.int .i64 0,.int .i64 0,.int .i64 0,.string ⟨#[]⟩]),7,64):=aT
variable {xs:List aF}
theorem On {lo E n m sz bytes t ty:Nat}{v:aF}{news:List aF}{z:aF}(zF8:(aK.info? E).map (λi=>(i.zero,i.size,i.bytes))=some (some z,sz,bytes))(hu:aK.underlying t=some (.slice E))(hzs:z.cells.size=sz)(cM:0<sz)
 (h:w.ownsRow lo E sz v n xs)  {cs:Array aF} (hg:w.heap[g]? =some (.cells cs E)) (gS:cs.toList=news) (hl:news.length=m*sz) (hm:0<m) (h1:∀u∈news,u.oneCell'=true) (hn:n+m<=1000000) (hb:bytes<=1000) (eF:lo<=w.heap.size):
 ∃g1 c1 w',(xV #[t,t] ty #[v,.slice (some ⟨g,0,none⟩) m m]).run aK w=.ok (.slice (some ⟨g1,0,none⟩) (n+m) c1) w'/\w'.ownsRow lo E sz (.slice (some ⟨g1,0,none⟩) (n+m) c1) (n+m) (xs++news)/\w.grownBy w' v.ownBlock/\
  ((Q2 (some ⟨g1,0,none⟩) (n+m) c1).ownBlock=v.ownBlock\/∀b,(Q2 (some ⟨g1,0,none⟩) (n+m) c1).ownBlock=some b->w.heap.size<=b):=by
 obtain⟨i0,hi,fG,dB,gQ⟩:=Ch zF8;have zLc:(n+m)*bytes<=1000000*1000:=Nat.mul_le_mul hn hb;obtain⟨v',w',hr,h2,h3,h4,h5⟩:=run_append_own_at (P:=aK) w lo t ty E i0 z sz bytes hu hi fG dB gQ hzs cM v n xs h ⟨g,0,none⟩ m m news hl (aE.news_of_block (cs:=cs) hg|>λf=>by simp_all) h1 Zi aC eF;obtain⟨g1,c1,rfl⟩:=ziK h2 (λe=>by simp_all);refine⟨g1,c1,w',hr,h2,h3,?_⟩;rcases h5 with h5|h5
 .exact .inl h5
 .simp_all
theorem zrn (h:bG w lo hb v d)(eF:lo<=w.heap.size)(hg:d.ln[i]? =some g)(hi:i<=100)(hn:d.r.recs.length<=1000)(c:Int):
 gH aK 110 #[.pointer (some ⟨hb,0,none⟩),.int .i64 c,.int .i64 (i:Int)] w λe w'=>e=.returned (.tuple #[])/\∃v',bG w' lo hb v' {d with r:={d.r with recs:=d.r.recs++[⟨c,(i:Int)+1,0,d.r.clk,-1,-1,eJ⟩]}}/\bO hb v w v' w'/\
  v'.pC=vH g (.int .i64 c) v.pC/\v'.pO=rB c (.chan (some g)) v.pO/\v'.pM=rB c (.int .i64 (d.r.recs.length:Int)) v.pM/\Df v v':=by
 obtain⟨A,cL,hA,hs⟩:=Hx h.L aH;have Hp:=(kP.1 hg).1;obtain⟨b,off,g',rfl,x7,hv⟩:=zgD hs Hp;rw[hg] at x7;obtain rfl:=cO x7;have Zc:=aI h.blk 3;have k3:w.cell? ⟨hb,3,none⟩=some (.slice (some ⟨b,off,none⟩) d.ln.length cL):=by rw[Zc,<-hA];rfl
 have k4:=aI h.blk 4;have i0:(0:Int)<=(i:Int):=aC;have i1:(i:Int)<(d.ln.length:Int):=aC;have HH:=aD h;have HC:=aD h.C;clear hA hs hg Zc h
 go_enter Tryz.func110,Tryz.ntmps110
 go_upto_region 1 with fail
 clear k3 hv
 go_upto_region 2 with(at_mapUpdate;refine zH0 _ rfl (.tmp 17) (.tmp 18) (.tmp 19) 66 rfl 3 zuO Q6 v.mC g (.int .i64 c) v.pC rfl rfl rfl HC.o ?_;intro w2 o2 eG zaG;have S9:=aD eG;have Uv:=aD zaG;clear eG zaG)
 have oR:=Uv.o;rw[S9.o] at oR;obtain⟨a2,t2⟩:=HH.o.mapC oR;rw[<-S9.o] at a2 t2;obtain⟨v2,Be⟩:=aP ({v with pC:=vH g (.int .i64 c) v.pC}:fJ);rw[<-Be] at a2 t2;have e2:v2.pC=vH g (.int .i64 c) v.pC/\v2.pO=v.pO/\v2.pM=v.pM/\Df v v2:=by rw[Be];exact⟨rfl,rfl,rfl,Df.rf v⟩
 have zfO:=eH eF t2.size;clear Be oR Uv S9 HC k4;have k5:=aI a2.blk 5;have HO:=aD a2.O;have A2:=aD a2;have T2:=aD t2;have E2:=aD e2;clear a2 t2 e2
 go_upto_region 3 with(at_mapUpdate;refine zDp _ rfl (.tmp 23) (.tmp 24) (.tmp 25) 67 rfl 84 Q1 K9 v2.mO c (.chan (some g)) v2.pO rfl rfl rfl HO.o ?_;intro w3 o3 iU ztd;have Ty:=aD iU;have zn6:=aD ztd;clear iU ztd)
 have zkP:=zn6.o;rw[Ty.o] at zkP;obtain⟨a3,t3⟩:=A2.o.mapO zkP;rw[<-Ty.o] at a3 t3;obtain⟨v3,Hv⟩:=aP ({v2 with pO:=rB c (.chan (some g)) v2.pO}:fJ);rw[<-Hv] at a3 t3;have e3:v3.pC=vH g (.int .i64 c) v.pC/\v3.pO=rB c (.chan (some g)) v.pO/\v3.pM=v.pM/\Df v v3:=by rw[Hv];exact⟨E2.o.1,by show rB _ _ v2.pO=_;rw[E2.o.2.1],E2.o.2.2⟩
 have zmP:=eH zfO t3.size;have zwK:=T2.o.trans t3;clear Hv zkP zn6 Ty HO k5 A2 T2 E2 t3;obtain⟨AR,cR,zt5,_⟩:=Hx a3.R aH;have zyc:=aI a3.blk 9;have k9:w3.cell? ⟨hb,9,none⟩=some (.slice AR d.r.recs.length cR):=by rw[zyc,<-zt5];rfl
 have zxF:=aI a3.blk 10;obtain⟨es,cl,Pc,qF⟩:=zxb zpG K9 a3.drew.M (c:=c) (.int .i64 (d.r.recs.length:Int));obtain⟨a4,t4⟩:=a3.drew.mapM qF;have A4:=aD a4;have T4:=aD (zwK.trans ((bO.refl (v:=v3) (w:=w3)).trans (⟨t4.size,t4.block,t4.moved⟩:bO hb v3 w3 _ _)));have MU:=aD Pc;have E3:=aD e3;clear zt5 zyc qF a3 a4 t4 Pc zwK e3;refine wp_CC3 w3 hb v3.mM d.r.recs.length v3.sR AR cR (.map es cl) c rfl rfl rfl zxF k9 MU.o rfl ?_;rw[Go.Mt.Bn,zu3];simp only[Go.Mt.xN,dP,dQ,fCC3,lCC3,Du,Ee];obtain⟨w4,lY⟩:=aP ({w3.drew with heap:=w3.drew.heap.setIfInBounds v3.mM (.map es cl)}:aE);rw[<-lY] at A4 T4⊢;have zJB:=eH eF T4.o.size;clear lY MU k9 zxF;obtain⟨v4,Hc⟩:=aP ({v3 with pM:=rB c (.int .i64 (d.r.recs.length:Int)) v3.pM}:fJ);rw[<-Hc] at A4 T4;have E4:=aD (show v4.pC=vH g (.int .i64 c) v.pC/\v4.pO=rB c (.chan (some g)) v.pO/\v4.pM=rB c (.int .i64 (d.r.recs.length:Int)) v.pM/\Df v v4 by rw[Hc];exact⟨E3.o.1,E3.o.2.1,by show rB _ _ v3.pM=_;rw[E3.o.2.2.1],E3.o.2.2.2⟩);clear Hc E3;obtain⟨OB,zat⟩:=aP (.cells #[.int .i64 c,.int .i64 ((i:Int)+1),.int .i64 0,.int .i64 d.r.clk,.int .i64 (-1),.int .i64 (-1),.string eJ] 50:Obj);have a5:=(A4.o.alloc OB).drew;obtain⟨g1,c1,w5,fM,cT,mL,fC⟩:=On (t:=45) (ty:=45) zF9 Tryz.underlying45 rfl aH a5.R (g:=w4.heap.size) (cs:=#[.int .i64 c,.int .i64 ((i:Int)+1),.int .i64 0,.int .i64 d.r.clk,.int .i64 (-1),.int .i64 (-1),.string eJ]) (news:=bR.cells ⟨c,(i:Int)+1,0,d.r.clk,-1,-1,eJ⟩) (by rw[zat];exact gP _ _) rfl (m:=1) rfl aH zj1 aC aH oX;obtain⟨a6,t6⟩:=a5.putR mL (n:=d.r.recs.length+1) (xs:=d.r.recs++[⟨c,(i:Int)+1,0,d.r.clk,-1,-1,eJ⟩]) (by rw[zCb];exact cT) aN fC;have A6:=aD a6;have T6:=aD (T4.o.trans ((bO.below (eT (fW _ _) OB)).trans (⟨t6.size,t6.block,t6.moved⟩:bO hb v4 (w4.alloc OB) _ _)));have k9:=aI A4.o.blk 9;have Ff:=aI A4.o.blk 11;have x9:=(a5.other (j:=7) (c:=9) (x:=v4.sR) rfl aH mL (.slice (some ⟨g1,0,none⟩) (d.r.recs.length+1) c1)).2.trans a5.blk;have ztq:=aI x9 9;have kf:=eW x9 9;have AP:=aD fM;clear cT mL fC a6 t6 a5 x9 fM;rw[zat] at AP
 go_wp2_with fail
 refine wp_CC4 w4 w5 hb g1 (d.r.recs.length+1) c1 v4.sR c (i:Int) d.r.clk rfl rfl rfl rfl k9 Ff aC AP.o ztq kf rfl ?_;rw[Go.Mt.Bn,zww];simp only[Go.Mt.xN,dP,dQ,fCC4,lCC4,Du,Ee];clear k9 Ff AP ztq kf;exact bodyPost_end (v:=.tuple #[]) (by simp[results,go_sem]<;>rfl) rfl ⟨rfl,_,A6.o,T6.o,E4.o⟩
variable {j:Nat}
theorem bG.recAt (h:bG w lo hb v d)(hR:v.sR=.slice (some ⟨g,0,none⟩) d.r.recs.length cR)(hx:d.r.recs[i]? =some x){u:aF}(hj:j<7)(hu:x.cells[j]? =some u):
 w.cell? ⟨g,i*7+j,none⟩=some u/\w.frozen? ⟨g,i*7+j,none⟩=false:=by
 have hr:=h.R;rw[hR] at hr;refine⟨?_,hr.frozenAt _⟩;have hi:=(kP.1 hx).1;obtain⟨b,off,e,h1,h2,h3,h4⟩:=(zY hr aH).cells hi;injection e with e;injection e with e1 e2;subst e1 e2;have:=h4 j u (by
  have g:(recs d.r.recs)[i*7+j]? =(d.r.recs[i]?).bind λx=>x.cells[j]? :=Np bR.cells (s:=7) (λ_=>rfl) d.r.recs i j hj;rw[g,hx];exact hu)
 simpa using this
theorem zm4 (h:bG w lo hb v d){e:ByteArray}{gR:Nat}(hx:d.r.recs[i]? =some x)(hO:lF c v.pO=some (.chan (some g)))(hC:(pZ g v.pC).isSome=true)(hM:lF c v.pM=some (.int .i64 (i:Int)))
 (hR:v.sR=.slice (some ⟨gR,0,none⟩) d.r.recs.length cR):
 gH aK 116 #[.pointer (some ⟨hb,0,none⟩),.int .i64 c,.string e] w λen w'=>en=.returned (.tuple #[])/\∃v',bG w' lo hb v' {d with r:={d.r with recs:=d.r.recs.modify i λz=>{z with t:=d.r.clk,e:=e}}}/\bO hb v w v' w'/\
  v'.pC=zL g v.pC/\v'.pO=yM c v.pO/\v'.pM=v.pM/\v'.sR=v.sR/\Df v v':=by
 have k4:w.cell? ⟨hb,4,none⟩=some (.map (some v.mC)):=aI h.blk 4;have k5:w.cell? ⟨hb,5,none⟩=some (.map (some v.mO)):=aI h.blk 5;have xW:(zZ 67 (.map (some v.mO)) (.int .i64 c) false).run aK w.drew=.ok (.chan (some g)) w.drew:=by
  have:=zbM Q1 K9 (zax w.drew) (h.drew.O) (c:=c) false;rw[hO] at this;exact this
 obtain⟨o1,vE,qF⟩:=zBF (kt:=84) zuO Q6 h.drew.C hC;obtain⟨a1,t1⟩:=h.drew.mapC qF;have A1:=aD a1;have T1:=aD (⟨t1.size,t1.block,t1.moved⟩:bO hb v w _ _);have HX:=aD hx;have HM:=aD hM;have HR:=aD hR;have HO:=aD hO;have DL:=aD vE;have LK:=aD xW;clear vE xW qF a1 t1 hx hM hR hO h hC
 go_enter Tryz.func116,Tryz.ntmps116
 go_wp2_with fail
 refine wp_CL0 w hb v.mC v.mO g o1 c rfl rfl rfl k4 k5 LK.o DL.o rfl ?_;rw[Go.Mt.Bn,zoB];simp only[Go.Mt.xN,dP,dQ,fCL0,lCL0,Du,Ee];obtain⟨w1,dW⟩:=aP ({w.drew with heap:=w.drew.heap.setIfInBounds v.mC o1}:aE);obtain⟨v1,pA⟩:=aP ({v with pC:=zL g v.pC}:fJ);rw[<-dW,<-pA] at A1 T1;rw[<-dW];have E1:=aD (show v1.pC=zL g v.pC/\v1.pO=v.pO/\v1.pM=v.pM/\v1.sR=v.sR/\Df v v1 by rw[pA];exact⟨rfl,rfl,rfl,rfl,Df.rf v⟩);clear dW pA k4 k5 DL LK;have k5:w1.cell? ⟨hb,5,none⟩=some (.map (some v1.mO)):=aI A1.o.blk 5;have Vg:=aD A1.o.O;have ztI:=aD (show(lF c v1.pO).isSome=true by rw[E1.o.2.1,HO.o];rfl)
 go_upto_region 2 with(refine zDo _ rfl (.tmp 20) (.tmp 21) 67 3 rfl 84 Q1 K9 v1.mO c v1.pO rfl rfl Vg.o ztI.o ?_;intro w2 o2 eG zaG;have S9:=aD eG;have Uv:=aD zaG;clear eG zaG)
 have oR:=Uv.o;rw[S9.o] at oR;obtain⟨a2,t2⟩:=A1.o.mapO oR;rw[<-S9.o] at a2 t2;obtain⟨v2,Be⟩:=aP ({v1 with pO:=yM c v1.pO}:fJ);rw[<-Be] at a2 t2;have A2:=aD a2;have T2:=aD (T1.o.trans t2);have E2:=aD (show v2.pC=zL g v.pC/\v2.pO=yM c v.pO/\v2.pM=v.pM/\v2.sR=v.sR/\Df v v2 by rw[Be];exact⟨E1.o.1,by show yM c v1.pO=_;rw[E1.o.2.1],E1.o.2.2⟩);clear Be oR Uv S9 Vg ztI a2 t2 k5 A1 T1 E1;have jW:=aD (E2.o.2.2.2.1.trans HR.o);have zCI:=aD (show lF c v2.pM=some (.int .i64 (i:Int)) by rw[E2.o.2.2.1];exact HM.o)
 go_upto_region 3 with(go_at_call 115;refine(zge A2.o jW.o HX.o zCI.o).mono ?_;rintro en w3 ⟨rfl,iU⟩;have Ty:=aD iU;clear iU)
 have A3:=aD (show bG w3 lo hb v2 d by rw[Ty.o];exact A2.o.drew);have T3:=aD (show bO hb v w v2 w3 by rw[Ty.o];exact T2.o.same rfl);clear Ty A2 T2;have Ff:w3.cell? ⟨hb,11,none⟩=some (.int .i64 d.r.clk):=aI A3.o.blk 11;obtain⟨c5,f5⟩:=A3.o.recAt jW.o HX.o (j:=5) (u:=.int .i64 x.t) aH rfl;obtain⟨a4,t4⟩:=A3.o.setR (λz=>{z with t:=d.r.clk}) jW.o HX.o (j:=5) (u:=.int .i64 d.r.clk) aH zph rfl;have A4:=aD a4;have T4:=aD (T3.o.trans t4);clear a4 t4
 go_upto_region 4 with fail
 obtain⟨w4,lY⟩:=aP (w3.setCell ⟨gR,i*7+5,none⟩ (.int .i64 d.r.clk));rw[<-lY] at A4 T4⊢;clear lY c5 f5 Ff;have zbq:=aD (show(d.r.recs.modify i λz=>{z with t:=d.r.clk})[i]? =some {x with t:=d.r.clk} from zgZ HX.o);have ztv:=aD (show v2.sR=.slice (some ⟨gR,0,none⟩) (d.r.recs.modify i λz=>{z with t:=d.r.clk}).length cR by rw[Lt];exact jW.o);obtain⟨c6,f6⟩:=A4.o.recAt ztv.o zbq.o (j:=6) (u:=.string x.e) aH rfl;obtain⟨a5,t5⟩:=A4.o.setR (λz=>{z with e:=e}) ztv.o zbq.o (j:=6) (u:=.string e) aH zqG rfl;simp only[zhK] at a5;have A5:=aD a5;have T5:=aD (T4.o.trans t5);clear a5 t5
 go_wp2_with fail
 exact bodyPost_end (v:=.tuple #[]) (results_none rfl _ _ _) rfl ⟨rfl,_,A5.o,T5.o,E2.o.1,E2.o.2.1,E2.o.2.2.1,E2.o.2.2.2.1,E2.o.2.2.2.2⟩
section
variable {P:bZ}{w w':aE}
variable {elem t:aM}{i:wE}{cur:Array aF}
theorem zg9 {dT sT ty:aM}{g o zkF zEe:Nat}{a:bC}{zcl zBl:Nat}{cs:List aF}(hu:P.underlying dT=some (.slice elem))(hi:P.info? elem=some i)
 (hg:w.heap[g]? =some (.cells cur t (0,0))) (hn:cs.length=Nat.min zcl zkF*i.size) (Q0:∀j v,cs[j]? =some v->w.cell? (a.add j)=some v) (Jn:o+cs.length<=cur.size) (h1:∀v∈cs,v.oneCell'=true):
 (Dq #[dT,sT] ty #[.slice (some ⟨g,o,none⟩) zkF zEe,.slice (some a) zcl zBl]).run P w=.ok (goInt (Nat.min zcl zkF)) (w.setRow g (cur.toList.take o++cs++cur.toList.drop (o+cs.length)).toArray):=by
 have hl:=run_loadCells_list (P:=P) w a cs Q0;have aY:=zx9 P g o t cs 0 cur w hg (by simpa using Jn) h1;simp[Dq,xE hu,Builtin.lenOf,Builtin.firstCells,sizeOf,typeInfo,hi,<-hn,hl,aY]
theorem zmk {dT ty:aM}{z:aF}{g o n c:Nat}(hu:P.underlying dT=some (.slice elem))(hi:P.info? elem=some i)(hz:i.zero=some z)
 (hg:w.heap[g]? =some (.cells cur t (0,0))) (hn:n≠0) (Jn:o+(qJ z.cells n).size<=cur.size) (h1:∀v∈(qJ z.cells n).toList,v.oneCell'=true):
 (Rz #[dT] ty #[.slice (some ⟨g,o,none⟩) n c]).run P w=.ok (.tuple #[]) (w.setRow g (cur.toList.take o++(qJ z.cells n).toList++cur.toList.drop (o+(qJ z.cells n).size)).toArray):=by
 have aY:=zx9 P g o t (qJ z.cells n).toList 0 cur w hg (by simpa using Jn) h1;simp only[Q3,Dy] at aY
 cases n with
 |zero=>exact absurd rfl hn
 |succ n=>simp[Rz,xE hu,zeroValue,typeInfo,hi,hz,aY]
variable {o:aZ}{a:Act}{ops:Array aZ}
theorem zgC {K:Act->aE->Prop}{Q:oF->Act->aE->Prop}{EE:Prop}(Fe:o.guard=none)(s x:cK)(t tn:aM)(ho:o.op=.call {callee:=.builtin .append,args:=#[s,x],argTypes:=#[t,tn]})(vs vx v':aF)(hs:a.eval s=vs)(hx:a.eval x=vx)
 (hr:∀ty,(xV #[t,tn] ty #[vs,vx]).run P w=.ok v' w') (h:K (a.put o.dst v') w'):if dE o (dH ops a.tmps)=true then C2 P o a w K Q else EE:=by
 rw[if_pos (by simp[dE,Fe])];unfold C2 aO;simp only[ho,resolve,invoke,builtin,Fl,Ic,Es,vD,gT,tW,hs,hx,hr];exact h
theorem zci {rest:List aZ}{Q:oF->Act->aE->Prop}(Fe:o.guard=none)(s:cK)(t:aM)(ho:o.op=.call {callee:=.builtin .clear,args:=#[s],argTypes:=#[t]})(vs:aF)(hs:a.eval s=vs)
 (hr:∀ty,(Rz #[t] ty #[vs]).run P w=.ok (.tuple #[]) w') (h:wpList P ops Q rest (a.put o.dst (.tuple #[])) w'):wpList P ops Q (o::rest) a w:=by
 refine Su Fe λK hK=>?_;unfold C2 aO;simp only[ho,resolve,invoke,builtin,Fl,Ic,Es,vD,gT,tW,hs,hr];exact hK _ _ h
end
def Vs:(aK.info? 3).map (λi=>(i.zero,i.size,i.bytes))=some (some (.int .i64 0),1,8):=aT
def zb9:(aK.info? 149).map (λi=>(i.zero,i.size,i.bytes))=some (some (.agg #[.int .i64 0,.int .i64 0]),2,16):=aT
theorem zba (cs:Array aF):w.grownBy (w.setRow g cs) (some g):=⟨rfl,rfl,rfl,aN,λk _ hk=>setRow_other w g k _ (λe=>hk (by rw[e]))⟩
variable {w':aE}{r:Option Nat}
def Ua {F9:aE}(h:w.grownBy w' r)(k:w'.grownBy F9 r):w.grownBy F9 r:=⟨k.os.trans h.os,k.tape.trans h.tape,k.output.trans h.output,eH h.size k.size,λb hb hn=>(k.block b (jO hb h.size) hn).trans (h.block b hb hn)⟩
def zsS :w.grownBy w.drew r:=⟨rfl,rfl,rfl,bF _,λ_ _ _=>rfl⟩
variable {c n:Nat}
theorem zug (h:w.ownsRow lo 3 1 (.slice (some ⟨g,0,none⟩) n c) n xs)(Iy:∀u∈xs,u.oneCell'=true)(aS:i<j)(hj:j<=n):
 gH aK 114 #[.slice (some ⟨g,0,none⟩) n c,.int .i64 (i:Int),.int .i64 (j:Int)] w λe w'=>e=.returned (.slice (some ⟨g,0,none⟩) (n-(j-i)) c)/\w'.ownsRow lo 3 1 (.slice (some ⟨g,0,none⟩) (n-(j-i)) c) (n-(j-i)) (xs.take i++xs.drop j)/\w.grownBy w' (some g):=by
 obtain⟨hlen,h|⟨g',cap,cur,hv,eF,hg,Wz,qF,gS,lT⟩⟩:=h
 .exact absurd h.1 aN
 injection hv with e1 e2 e3;injection e1 with e1;injection e1 with e1;subst e1 e3;clear e2;obtain⟨i0,eR,fG,dB,gQ⟩:=Ch Vs;have mU:cur.toList.length=c*1:=by simpa using gS
 have vE:(xs.drop (j*1)).length=(n-j)*1:=by rw[yG,hlen];omega
 obtain⟨A,hA,Q0⟩:∃A:bC,(if c=j then(some (⟨g,0,none⟩:bC)) else some ⟨g,j*1,none⟩)=some A/\(∀t u,(xs.drop (j*1))[t]? =some u->w.drew.cell? (A.add t)=some u):=by
  have cell:∀k u,xs[k]? =some u->w.drew.cell? ⟨g,k,none⟩=some u:=λk u hk=>by
   have:w.cell? ⟨g,k,none⟩=cur[k]? :=aI hg k;have qO:cur.toList[k]? =some u:=by
    rw[<-lT,Z0] at hk;split at hk
    .exact hk
    .cases hk
   rw[C1] at qO;exact this.trans qO
  by_cases hc:c=j
  .refine⟨⟨g,0,none⟩,by simp[hc],λt u hu=>?_⟩
   have h0:(xs.drop (j*1)).length=0:=by rw[vE];omega
   rw[zt3.1 h0] at hu;simp at hu
  .refine⟨⟨g,j*1,none⟩,by simp[hc],λt u hu=>?_⟩
   rw[Zk] at hu;rw[Lr];exact cell _ u hu
 have Kg:=λty=>zsc (P:=aK) w.drew 38 ty 3 i0 Xz eR g i c cur hg A (n-j) (c-j) (xs.drop (j*1)) (by rw[dB];exact vE) Q0 (λu hu=>Iy u (zaz hu)) aC (by rw[dB,vE,gS];omega);obtain⟨yC,wR⟩:=aP ((cur.toList.take (i*i0.size)++xs.drop (j*1)++cur.toList.drop (i*i0.size+(xs.drop (j*1)).length)).toArray);rw[<-wR] at Kg;obtain⟨W1,cZ⟩:=aP (w.drew.setRow g yC);rw[<-cZ] at Kg;have qN:W1.heap[g]? =some (.cells yC 3 (0,0)):=by rw[cZ];exact Ls w.drew g cur yC 3 (0,0) hg
 have yI:yC.size=c*1:=by
  rw[wR];simp only[B6,jH,sE,yG,mU,vE,hlen,dB];have:(i+(n-j))*1<=c*1:=Dg _ aC;omega
 have hzs:(qJ (.int .i64 0:aF).cells (n-(i+(n-j)))).size=(n-(i+(n-j)))*1:=Vw _ _;have Oy:=λty=>zmk (P:=aK) (w:=W1) (dT:=38) (ty:=ty) (c:=c-(i+(n-j))) (n:=n-(i+(n-j))) (o:=(i+(n-j))*1) Xz eR fG qN aC (by rw[hzs,yI];omega) (λu hu=>by
  obtain⟨k,hk,rfl⟩:=Lw.1 hu;simp only[qJ,Ys,zjK,zkY,zhV];simp[Nat.mod_one];rfl)
 obtain⟨zM,oR⟩:=aP ((yC.toList.take ((i+(n-j))*1)++(qJ (.int .i64 0:aF).cells (n-(i+(n-j)))).toList++yC.toList.drop ((i+(n-j))*1+(qJ (.int .i64 0:aF).cells (n-(i+(n-j)))).size)).toArray);rw[<-oR] at Oy
 try simp only[zxJ] at Kg Oy
 have H1:=aD Kg;have H2:=aD Oy;have HG:=aD (show w.grownBy (W1.setRow g zM) (some g) from Ua (Ua zsS (cZ▸zba yC)) (zba zM));have HO:=aD (show(W1.setRow g zM).ownsRow lo 3 1 (.slice (some ⟨g,0,none⟩) (n-(j-i)) c) (n-(j-i)) (xs.take (i*1)++xs.drop (j*1)) by
  have C5:n-(j-i)=i+(n-j):=aC;have yK:zM.size=c*1:=by
   rw[oR];simp only[B6,jH,sE,yG,Dy,yI,hzs];have:(i+(n-j))*1+(n-(i+(n-j)))*1=n*1:=by rw[<-Zu];congr 1;omega
   have:n*1<=c*1:=Dg _ Wz;omega
  refine⟨by rw[jH,sE,vE,hlen];have:=Zu i (n-j) 1;have:i*1<=n*1:=Dg _ aC;rw[C5];omega,.inr ⟨g,c,zM,rfl,eF,Ls W1 g yC zM 3 (0,0) qN,aC,qF,yK,?_⟩⟩;have e1:cur.toList.take (i*1)=xs.take (i*1):=by
   rw[<-lT,Qt];congr 1;have:i*1<=n*1:=Dg _ aC;omega
  have l1:(xs.take (i*1)).length=i*1:=by
   rw[sE,hlen];have:i*1<=n*1:=Dg _ aC;omega
  rw[oR,show∀l:List aF,l.toArray.toList=l from λ_=>rfl,C5];have l2:(yC.toList.take ((i+(n-j))*1)).length=(i+(n-j))*1:=by
   rw[sE,Dy,yI];have:(i+(n-j))*1<=c*1:=Dg _ aC;omega
  rw[Jz,F5 (by rw[l2];exact bF _),Qt,zlw,wR,show∀l:List aF,l.toArray.toList=l from λ_=>rfl,dB,e1];rw[F5 zsr];exact zP zsr)
 replace HO:=aD (by have:=HO.o;simpa only[zxJ] using this);have y4:i<=c:=aC;have Nu:j<=c:=aC;have aU:¬((i:Int)=(j:Int)):=aC;clear Kg Oy wR oR qN yI hzs cZ lT gS qF hg eF hlen vE mU Iy Q0;by_cases zea:c=j
 .subst zea
  have pU:n-c=0:=aC;have Dm:=H1.o;have Pa:=H2.o;simp only[pU,Q3] at Dm Pa;replace H1:=aD Dm;replace H2:=aD Pa;clear Dm Pa
  go_enter zpX,zxo
  go_wp2_with fail
  go_region_law (refine zgC rfl (.tmp 22) (.tmp 25) 38 38 rfl _ _ _ zhp zhI H1.o ?_)
  go_wp2_with (refine zci rfl (.tmp 31) 38 rfl _ rfl H2.o ?_)
  all_goals
   go_ret;exact⟨by rw[show n-(c-i)=i by omega];rfl,HO.o,HG.o⟩
 .skip
  go_enter zpX,zxo
  go_wp2_with fail
  go_region_law (refine zgC rfl (.tmp 22) (.tmp 25) 38 38 rfl _ _ _ zhp zhI H1.o ?_)
  go_wp2_with (refine zci rfl (.tmp 31) 38 rfl _ rfl H2.o ?_)
  all_goals
   go_ret;exact⟨by rw[show n-(j-i)=i+(n-j) by omega];rfl,HO.o,HG.o⟩
theorem zCA (h:w.ownsRow lo 149 2 (.slice (some ⟨g,0,none⟩) n c) n xs)(Iy:∀u∈xs,u.oneCell'=true)(aS:i<j)(hj:j<=n):
 gH aK 119 #[.slice (some ⟨g,0,none⟩) n c,.int .i64 (i:Int),.int .i64 (j:Int)] w λe w'=>e=.returned (.slice (some ⟨g,0,none⟩) (n-(j-i)) c)/\w'.ownsRow lo 149 2 (.slice (some ⟨g,0,none⟩) (n-(j-i)) c) (n-(j-i)) (xs.take (i*2)++xs.drop (j*2))/\w.grownBy w' (some g):=by
 obtain⟨hlen,h|⟨g',cap,cur,hv,eF,hg,Wz,qF,gS,lT⟩⟩:=h
 .exact absurd h.1 aN
 injection hv with e1 e2 e3;injection e1 with e1;injection e1 with e1;subst e1 e3;clear e2;obtain⟨i0,eR,fG,dB,gQ⟩:=Ch zb9;have mU:cur.toList.length=c*2:=by simpa using gS
 have vE:(xs.drop (j*2)).length=(n-j)*2:=by rw[yG,hlen];omega
 obtain⟨A,hA,Q0⟩:∃A:bC,(if c=j then(some (⟨g,0,none⟩:bC)) else some ⟨g,j*2,none⟩)=some A/\(∀t u,(xs.drop (j*2))[t]? =some u->w.drew.cell? (A.add t)=some u):=by
  have cell:∀k u,xs[k]? =some u->w.drew.cell? ⟨g,k,none⟩=some u:=λk u hk=>by
   have:w.cell? ⟨g,k,none⟩=cur[k]? :=aI hg k;have qO:cur.toList[k]? =some u:=by
    rw[<-lT,Z0] at hk;split at hk
    .exact hk
    .cases hk
   rw[C1] at qO;exact this.trans qO
  by_cases hc:c=j
  .refine⟨⟨g,0,none⟩,by simp[hc],λt u hu=>?_⟩
   have h0:(xs.drop (j*2)).length=0:=by rw[vE];omega
   rw[zt3.1 h0] at hu;simp at hu
  .refine⟨⟨g,j*2,none⟩,by simp[hc],λt u hu=>?_⟩
   rw[Zk] at hu;rw[Lr];exact cell _ u hu
 have Kg:=λty=>zsc (P:=aK) w.drew 69 ty 149 i0 zh1 eR g i c cur hg A (n-j) (c-j) (xs.drop (j*2)) (by rw[dB];exact vE) Q0 (λu hu=>Iy u (zaz hu)) aC (by rw[dB,vE,gS];omega);obtain⟨yC,wR⟩:=aP ((cur.toList.take (i*i0.size)++xs.drop (j*2)++cur.toList.drop (i*i0.size+(xs.drop (j*2)).length)).toArray);rw[<-wR] at Kg;obtain⟨W1,cZ⟩:=aP (w.drew.setRow g yC);rw[<-cZ] at Kg;have qN:W1.heap[g]? =some (.cells yC 149 (0,0)):=by rw[cZ];exact Ls w.drew g cur yC 149 (0,0) hg
 have yI:yC.size=c*2:=by
  rw[wR];simp only[B6,jH,sE,yG,mU,vE,hlen,dB];have:(i+(n-j))*2<=c*2:=Dg _ aC;omega
 have hzs:(qJ (.agg #[.int .i64 0,.int .i64 0]:aF).cells (n-(i+(n-j)))).size=(n-(i+(n-j)))*2:=Vw _ _;have Oy:=λty=>zmk (P:=aK) (w:=W1) (dT:=69) (ty:=ty) (c:=c-(i+(n-j))) (n:=n-(i+(n-j))) (o:=(i+(n-j))*2) zh1 eR fG qN aC (by rw[hzs,yI];omega) (λu hu=>by
  obtain⟨k,hk,rfl⟩:=Lw.1 hu;simp only[qJ,Ys,zjK,zkY,zhV];rcases zwX k with hk|hk<;>simp[hk]<;>rfl)
 obtain⟨zM,oR⟩:=aP ((yC.toList.take ((i+(n-j))*2)++(qJ (.agg #[.int .i64 0,.int .i64 0]:aF).cells (n-(i+(n-j)))).toList++yC.toList.drop ((i+(n-j))*2+(qJ (.agg #[.int .i64 0,.int .i64 0]:aF).cells (n-(i+(n-j)))).size)).toArray);rw[<-oR] at Oy;have H1:=aD Kg;have H2:=aD Oy;have HG:=aD (show w.grownBy (W1.setRow g zM) (some g) from Ua (Ua zsS (cZ▸zba yC)) (zba zM));have HO:=aD (show(W1.setRow g zM).ownsRow lo 149 2 (.slice (some ⟨g,0,none⟩) (n-(j-i)) c) (n-(j-i)) (xs.take (i*2)++xs.drop (j*2)) by
  have C5:n-(j-i)=i+(n-j):=aC;have yK:zM.size=c*2:=by
   rw[oR];simp only[B6,jH,sE,yG,Dy,yI,hzs];have:(i+(n-j))*2+(n-(i+(n-j)))*2=n*2:=by rw[<-Zu];congr 1;omega
   have:n*2<=c*2:=Dg _ Wz;omega
  refine⟨by rw[jH,sE,vE,hlen];have:=Zu i (n-j) 2;have:i*2<=n*2:=Dg _ aC;rw[C5];omega,.inr ⟨g,c,zM,rfl,eF,Ls W1 g yC zM 149 (0,0) qN,aC,qF,yK,?_⟩⟩;have e1:cur.toList.take (i*2)=xs.take (i*2):=by
   rw[<-lT,Qt];congr 1;have:i*2<=n*2:=Dg _ aC;omega
  have l1:(xs.take (i*2)).length=i*2:=by
   rw[sE,hlen];have:i*2<=n*2:=Dg _ aC;omega
  rw[oR,show∀l:List aF,l.toArray.toList=l from λ_=>rfl,C5];have l2:(yC.toList.take ((i+(n-j))*2)).length=(i+(n-j))*2:=by
   rw[sE,Dy,yI];have:(i+(n-j))*2<=c*2:=Dg _ aC;omega
  rw[Jz,F5 (by rw[l2];exact bF _),Qt,zlw,wR,show∀l:List aF,l.toArray.toList=l from λ_=>rfl,dB,e1];rw[F5 zod];exact zP zod)
 have y4:i<=c:=aC;have Nu:j<=c:=aC;have aU:¬((i:Int)=(j:Int)):=aC;clear Kg Oy wR oR qN yI hzs cZ lT gS qF hg eF hlen vE mU Iy Q0;by_cases zea:c=j
 .subst zea
  have pU:n-c=0:=aC;have Dm:=H1.o;have Pa:=H2.o;simp only[pU,Q3] at Dm Pa;replace H1:=aD Dm;replace H2:=aD Pa;clear Dm Pa
  go_enter zyp,zrJ
  go_wp2_with fail
  go_region_law (refine zgC rfl (.tmp 22) (.tmp 25) 69 69 rfl _ _ _ zhp zhI H1.o ?_)
  go_wp2_with (refine zci rfl (.tmp 31) 69 rfl _ rfl H2.o ?_)
  all_goals
   go_ret;exact⟨by rw[show n-(c-i)=i by omega];rfl,HO.o,HG.o⟩
 .skip
  go_enter zyp,zrJ
  go_wp2_with fail
  go_region_law (refine zgC rfl (.tmp 22) (.tmp 25) 69 69 rfl _ _ _ zhp zhI H1.o ?_)
  go_wp2_with (refine zci rfl (.tmp 31) 69 rfl _ rfl H2.o ?_)
  all_goals
   go_ret;exact⟨by rw[show n-(j-i)=i+(n-j) by omega];rfl,HO.o,HG.o⟩
theorem zrb (lo hi n c:Nat)(A:Option bC)(xs:List Int)(q:Int)(w:aE)(h:cG w lo hi 1 A n c (fF xs))(hn:n<=1048576):
 gH aK 113 #[.slice A n c,.int .i64 q] w λe w'=>e=.returned (.int .i64 (Gt (xs.findIdx? (·==q))))/\w'=w:=by
 have hl:=aD h.length
 go_enter Tryz.func113,Tryz.ntmps113
 go_wp2
 go_loop [8] (λi=>∃k:Nat,k<=n/\i=.int .i64 k/\∀j,j<k->∀b,xs[j]? =some b->(b==q)=false) (λi=>n-(intOf i).toNat)
 case atStart=>grind
 case round=>
  obtain⟨k,hk,rfl,gS⟩:=hrel;have HC:=aD gS;clear gS;by_cases aS:k<n
  .obtain⟨b,off,x,hA,_,_,_,eK,hv⟩:=h.cellAt aS
   subst hA;have HX:=aD eK;clear eK h;have i0:(0:Int)<=(k:Int):=aC;have i1:(k:Int)<(n:Int):=aC;by_cases hq:q=x
   .subst hq
    go_wp2;go_ret;exact⟨Hw (by rw[zaM HX.o aN HC.o];rfl),rfl⟩
   .have N1:(q==x)=false:=by simpa using hq
    go_wp2
    go_round
    case rel=>exact⟨k+1,aC,oL,Ri HC.o HX.o sU⟩
    case measure=>simp[intOf];omega
  .have e:k=n:=aC
   subst e;clear h;go_wp2;go_ret;exact⟨Hw (by rw[zmY HC.o zab];rfl),rfl⟩
theorem posI_ge (o:Option Nat):decide (0<=Gt o)=o.isSome:=by
 cases o with
 |none=>rfl
 |some i=>simp[Gt]
theorem zBI (lo hi n c:Nat)(A:Option bC)(xs:List Int)(q:Int)(w:aE)(h:cG w lo hi 1 A n c (fF xs))(hn:n<=1048576):
 gH aK 108 #[.slice A n c,.int .i64 q] w λe w'=>e=.returned (.bool (xs.findIdx? (·==q)).isSome)/\w'=w:=by
 have HS:=aD h;clear h
 go_enter Tryz.func108,Tryz.ntmps108
 go_wp2_with (go_at_call 113;refine(zrb lo hi n c A xs q w HS.o hn).mono ?_;rintro e w' ⟨rfl,hw⟩;obtain rfl:=hw)
 go_ret;exact⟨Lx (posI_ge _),rfl⟩
theorem zfr (x:bE)(gx:Nat)(c:Int)(w:aE)(h:w.heap[gx]? =some (.cells #[.int .i64 c] 3)):
 gH aK 118 #[.agg #[.int .i64 x.c,.int .i64 x.p],.pointer (some ⟨gx,0,none⟩)] w λe w'=>e=.returned (.bool (x.c==c))/\cF w.heap.size w w':=by
 have aS:=iZ h;have k:=aD (dG h (.cells #[.int .i64 x.c,.int .i64 x.p] 149));have k0:=aI k.o 0
 go_enter Tryz.func118,Tryz.ntmps118
 go_wp2;go_ret;exact⟨rfl,(fW _ _).alloc (bF _) _⟩
variable {xs:List bE}
theorem zem {hi:Nat}{A:Option bC}(h:cG w lo hi 2 A n c (bH xs)){k:Nat}(hk:k<n):∃b off x,A=some ⟨b,off,none⟩/\b<w.heap.size/\xs[k]? =some x/\w.cell? ⟨b,off+k*2,none⟩=some (.int .i64 x.c)/\w.cell? ⟨b,off+k*2+1,none⟩=some (.int .i64 x.p):=by
 obtain⟨b,off,x,e,_,_,h3,h4,h5,h6⟩:=h.callsAt hk;exact⟨b,off,x,e,h3,h4,h5,h6⟩
theorem ztn (lo hi n c:Nat)(A:Option bC)(xs:List bE)(gx:Nat)(q:Int)(w:aE)(h:cG w lo hi 2 A n c (bH xs))(hn:n<=1048576)(hg:w.heap[gx]? =some (.cells #[.int .i64 q] 3)):
 gH aK 124 #[.slice A n c,.func (.func 118) #[] #[.pointer (some ⟨gx,0,none⟩)]] w λe w'=>e=.returned (.int .i64 (Gt (uC xs q)))/\cF w.heap.size w w':=by
 have hl:=aD h.callsLen;have HS:=aD h;have HG:=aD hg
 go_enter Tryz.func124,Tryz.ntmps124
 go_wp2
 go_loopw [8] (λi wr=>∃k:Nat,k<=n/\i=.int .i64 k/\cF w.heap.size w wr/\∀j,j<k->∀b,xs[j]? =some b->(b.c==q)=false) (λi _=>n-(intOf i).toNat)
 case atStart=>exact⟨0,lP _,rfl,fW _ _,λj hj=>absurd hj aC⟩
 case round=>
  obtain⟨k,hk,rfl,hb,gS⟩:=hrel;have HC:=aD gS;have HB:=aD hb;by_cases aS:k<n
  .obtain⟨b,off,x,hA,kF,eK,gI,pA⟩:=zem (HS.o.below HB.o) aS
   have uT:=aD ((HB.o.block gx (iZ HG.o)).trans HG.o);have HX:=aD eK;have HA:=aD hA;subst hA;have i0:(0:Int)<=(k:Int):=aC;have i1:(k:Int)<(n:Int):=aC;cases hq:(x.c==q)
   .go_wp2_with (go_at_call 118;refine(zfr x gx q _ uT.o).mono ?_;rintro e w2 ⟨rfl,rL⟩;rw[hq];have jR:=aD rL)
    go_round
    case rel=>exact⟨k+1,aC,oL,ztJ HB.o jR.o,Ri HC.o HX.o hq⟩
    case measure=>simp[intOf];omega
   .go_wp2_with (go_at_call 118;refine(zfr x gx q _ uT.o).mono ?_;rintro e w2 ⟨rfl,rL⟩;rw[hq];have jR:=aD rL)
    go_ret;exact⟨Hw (by unfold uC;rw[zaM HX.o hq HC.o];rfl),ztJ HB.o jR.o⟩
  .have e:k=n:=aC
   subst e;go_wp2;go_ret;exact⟨Hw zve,HB.o⟩
variable {x:bE}
theorem zE1 (hi:i<xs.length):((bH xs).set (i*2) (.int .i64 x.c)).set (i*2+1) (.int .i64 x.p)=bH (xs.set i x):=by
 apply List.ext_getElem?;intro q;obtain⟨a,b,rfl,hb⟩:∃a b,q=a*2+b/\b<2:=⟨q/2,q%2,aC,aC⟩;have g:∀(l:List bE),(bH l)[a*2+b]? =(l[a]?).bind λx=>x.cells[b]? :=λl=>Np bE.cells (s:=2) (λ_=>rfl) l a b hb;have hlen:(bH xs).length=xs.length*2:=I2 bE.cells (s:=2) (λ_=>rfl) xs;rw[zbo,zbo,zhN,g,g,zbo];by_cases e:i=a
 .subst e
  have bU:b=0\/b=1:=aC;rcases bU with rfl|rfl
  .rw[if_neg aC,if_pos aC,if_pos aC,if_pos rfl,if_pos hi];rfl
  .rw[if_pos rfl,if_pos aC,if_pos rfl,if_pos hi];rfl
 .rw[if_neg aC,if_neg aC,if_neg e]
variable {ys:List bE}{a:Nat}
theorem arr_set {rest:List aF}(ha:a<ys.length):((bH ys++rest).toArray.setIfInBounds (a*2) (.int .i64 x.c)).setIfInBounds (a*2+1) (.int .i64 x.p)=(bH (ys.set a x)++rest).toArray:=by
 have mU:(bH ys).length=ys.length*2:=I2 bE.cells (s:=2) (λ_=>rfl) ys;rw[fO,fO,zuL _ _ aC,zuL _ _ (by rw[zhN];omega),zE1 ha]
theorem zDx {q:bE->Bool}{b:Nat}(hlen:ys.length=xs.length)(qZ:a<=b)(h1:ys.take a=(xs.take b).filter q)(h2:ys.drop b=xs.drop b)(hx:xs[b]? =some x):
 (q x=false->ys.take a=(xs.take (b+1)).filter q/\ys.drop (b+1)=xs.drop (b+1))/\
 (q x=true->(ys.set a x).take (a+1)=(xs.take (b+1)).filter q/\(ys.set a x).drop (b+1)=xs.drop (b+1)):=by
 have hb:=(kP.1 hx).1;have ht:xs.take (b+1)=xs.take b++[x]:=by rw[Ia,hx];rfl
 have hd:ys.drop (b+1)=xs.drop (b+1):=by
  rw[<-zu6,<-zu6,h2]
 refine⟨λhq=>⟨by rw[ht,Pl,<-h1];simp[hq],hd⟩,λhq=>⟨?_,?_⟩⟩
 .rw[ht,Pl,<-h1,Ia]
  have e1:(ys.set a x).take a=ys.take a:=by rw[List.take_set_of_le (bF _)]
  rw[e1,List.getElem?_set_self aC];simp[hq]
 .rw[List.drop_set,if_pos aC];exact hd
theorem zHy (h:w.ownsRow lo 149 2 (.slice (some ⟨g,0,none⟩) n c) n (bH xs))(hn:n<=1048576){gx:Nat}{q:Int}(uT:w.heap[gx]? =some (.cells #[.int .i64 q] 3)):
 gH aK 117 #[.slice (some ⟨g,0,none⟩) n c,.func (.func 118) #[] #[.pointer (some ⟨gx,0,none⟩)]] w λe w'=>∃m,e=.returned (.slice (some ⟨g,0,none⟩) m c)/\m=(dS xs q).length/\w'.ownsRow lo 149 2 (.slice (some ⟨g,0,none⟩) m c) m (bH (dS xs q))/\w.grownBy w' (some g):=by
 have aU:gx≠g:=λe=>by
  subst e;obtain⟨_,h|⟨g',cap,cur,hv,eF,hg,_⟩⟩:=h
  .exact absurd h.1 aN
  .injection hv with e1
   injection e1 with e1;injection e1 with e1;subst e1;rw[uT] at hg;injection hg with hg;injection hg with _ hg;exact absurd hg aH
 have hs:=zY h aH;have Y4:=hs.callsLen;have HI:=aD (ztn lo w.heap.size n c (some ⟨g,0,none⟩) xs gx q w hs hn uT);obtain⟨hlen,h|⟨g',cap,cur,hv,eF,hg,Wz,qF,gS,lT⟩⟩:=h
 .exact absurd h.1 aN
 injection hv with e1 e2 e3;injection e1 with e1;injection e1 with e1;subst e1 e3;clear e2;obtain⟨rest,Ss⟩:=aP (cur.toList.drop (n*2));have Se:cur=(bH xs++rest).toArray:=by rw[Ss,<-lT,zxq]
 have Jd:rest.length=c*2-n*2:=by rw[Ss,yG];simp[gS]
 have Y6:=aD uT;have HG:=aD (show w.heap[g]? =some (.cells (bH xs++rest).toArray 149 (0,0)) by rw[hg,Se])
 cases hf:uC xs q with
 |none=>
  have hw:dS xs q=xs:=by
   unfold dS;rw[zeu];intro x hx;have:=zsQ (by rw[hf];rfl) x hx;simpa using this
  have HO:=aD (show w.ownsRow lo 149 2 (.slice (some ⟨g,0,none⟩) n c) n (bH xs) from⟨hlen,.inr ⟨g,c,cur,rfl,eF,hg,Wz,qF,gS,lT⟩⟩);rw[hw];rw[hf] at HI;clear Se Ss lT hg gS hlen uT hs
  go_enter zn8,zvn
  go_wp2_with (go_at_call 124;refine HI.o.mono ?_;rintro e w1 ⟨rfl,Im⟩;simp only[Gt];have jG:=aD Im;clear Im)
  go_ret;exact⟨n,rfl,by first|rfl|exact Y4.symm,zpz HO.o jG.o,⟨jG.o.os,jG.o.tape,jG.o.output,jG.o.size,λb hb _=>jG.o.block b hb⟩⟩
 |some p=>
  obtain⟨xp,N9,zF,zqq⟩:∃x,xs[p]? =some x/\x.c=q/\∀j,j<p->∀y,xs[j]? =some y->y.c≠q:=by
   unfold uC at hf;obtain⟨h1,h2,h3⟩:=List.findIdx?_eq_some_iff_getElem.1 hf;refine⟨xs[p],mV h1,by simpa using h2,λj hj y hy=>?_⟩;have:=h3 j hj;obtain⟨k1,k2⟩:=kP.1 hy;rw[k2] at this;simpa using this
  have oC:=(kP.1 N9).1;have zqa:xs.take p=(xs.take (p+1)).filter (λx=>x.c !=q):=by
   have ht:xs.take (p+1)=xs.take p++[xp]:=by rw[Ia,N9];rfl
   have h1:(xs.take p).filter (λx=>x.c !=q)=xs.take p:=by
    rw[zeu];intro y hy;obtain⟨j,hj⟩:=Gq.1 hy;rw[Z0] at hj;split at hj
    .next aS=>simpa using zqq j aS y hj
    .cases hj
   rw[ht,Pl,h1];simp[zF]
  rw[hf] at HI;have G9:=aD zqa;have Wv:p<n:=aC;obtain⟨i0,eR,fG,dB,gQ⟩:=Ch zb9;have zCG:=aD eR;clear Se Ss lT hg gS hlen uT hs zqa N9 zF zqq eR
  go_enter zn8,zvn
  go_wp2_with (go_at_call 124;refine HI.o.mono ?_;rintro e w1 ⟨rfl,Im⟩;simp only[Gt];have jG:=aD Im;clear Im)
  go_loopw [5,6] (λi j wr=>∃(a b:Nat) (ys:List bE),i=.int .i64 (a:Int)/\j=.int .i64 (b:Int)/\a<b/\b<=n/\ys.length=n/\ys.take a=(xs.take b).filter (λx=>x.c !=q)/\ys.drop b=xs.drop b/\wr.heap[g]? =some (.cells (bH ys++rest).toArray 149 (0,0))/\w.grownBy wr (some g)) (λ_ j _=>n-(intOf j).toNat)
  case atStart=>
   refine⟨p,p+1,xs,rfl,oL,aC,aC,Y4,G9.o,rfl,(jG.o.block g (iZ HG.o)).trans HG.o,⟨jG.o.os,jG.o.tape,jG.o.output,jG.o.size,λb hb _=>jG.o.block b hb⟩⟩
  case round=>
   obtain⟨a,b,ys,rfl,rfl,qZ,zJ6,Wx,h1,h2,qN,mL⟩:=hrel;have q8:=aD qN;have zdA:=aD mL;have zh6:=iZ qN;clear qN mL;by_cases aS:b<n
   .obtain⟨x,hx⟩:∃x,xs[b]? =some x:=⟨xs[b]' aC,mV aC⟩
    have zH6:ys[b]? =some x:=by
     have:=congrArg (λl=>l[0]?) h2;simpa[Zk,hx] using this
    obtain⟨d1,d2⟩:=zDx (q:=λx=>x.c !=q) aC aC h1 h2 hx;have zmO:∀(k:Nat) (y:bE),ys[k]? =some y->wr.cell? ⟨g,k*2,none⟩=some (.int .i64 y.c)/\wr.cell? ⟨g,k*2+1,none⟩=some (.int .i64 y.p):=λk y hy=>by
     have hk:=(kP.1 hy).1;have mU:(bH ys).length=ys.length*2:=I2 bE.cells (s:=2) (λ_=>rfl) ys;have gg:∀b',b'<2->wr.cell? ⟨g,k*2+b',none⟩=y.cells[b']? :=λb' bU=>by
      rw[aI q8.o];rw[List.getElem?_toArray,List.getElem?_append_left aC];have:=Np bE.cells (s:=2) (λ_=>rfl) ys k b' bU;unfold bH;rw[this,hy];rfl
     exact⟨gg 0 aH,gg 1 aH⟩
    obtain⟨c0,c1⟩:=zmO b x zH6;have i0:(0:Int)<=(b:Int):=aC;have i1:(b:Int)<(n:Int):=aC;have D1:=aD d1;have D2:=aD d2;have GC:=aD zmO;clear d1 d2 zmO;have zyi:=aD ((zdA.o.block gx (iZ Y6.o) zfH).trans Y6.o);obtain⟨ya,zIl⟩:∃y,ys[a]? =some y:=⟨ys[a]' aC,mV aC⟩;have zrF:=aD zIl;have a0:(0:Int)<=(a:Int):=aC;have a1:(a:Int)<(n:Int):=aC;have zaS:g≠wr.heap.size:=aC;cases hq:(x.c==q)
    .go_wp2_with (go_at_call 118;refine(zfr x gx q _ (dG zyi.o _)).mono ?_;rintro e w2 ⟨rfl,rL⟩;rw[hq];have KG:=aD (mP rL (dG q8.o _)).1;have kz:=(mP rL (gP _ _)).1;have z0:=aI kz 0;have z1:=aI kz 1;have e0:=(Cc (a:=⟨g,a*2,none⟩) (KG.o.trans q8.o.symm)).trans (GC.o a ya zrF.o).1;have e1:=(Cc (a:=⟨g,a*2+1,none⟩) (KG.o.trans q8.o.symm)).trans (GC.o a ya zrF.o).2;have ff:=eW KG.o;have jR:=aD rL;clear rL kz)
     go_round
     case rel=>
      obtain⟨f1,f2⟩:=D2.o (by simpa using hq);refine⟨a+1,b+1,ys.set a x,oL,oL,aC,aC,by rw[zhN];exact Wx,f1,f2,?_,?_⟩
      .rw[oH (oH KG.o _),arr_set aC]
      .have hB:=jR.o
       refine Ua zdA.o ⟨hB.os,hB.tape,hB.output,?_,λk hk hn=>?_⟩
       .simp only[xA];have:=hB.size;simp at this;omega
       .have zuf:k≠g:=λe=>hn (by rw[e])
        exact(dU _ _ _ k zuf).trans ((dU _ _ _ k zuf).trans ((hB.block k oX).trans (qE _ _ k hk)))
     case measure=>simp[intOf];omega
    .go_wp2_with (go_at_call 118;refine(zfr x gx q _ (dG zyi.o _)).mono ?_;rintro e w2 ⟨rfl,rL⟩;rw[hq];have KG:=aD (mP rL (dG q8.o _)).1;have jR:=aD rL;clear rL)
     go_round
     case rel=>
      obtain⟨f1,f2⟩:=D1.o (by simpa using hq);have hB:=jR.o;exact⟨a,b+1,ys,rfl,oL,aC,aC,Wx,f1,f2,KG.o,Ua zdA.o ⟨hB.os,hB.tape,hB.output,by have:=hB.size;simp at this;omega,λk hk hn=>(hB.block k oX).trans (qE _ _ k hk)⟩⟩
     case measure=>simp[intOf];omega
   .have e:b=n:=aC
    subst e;have zgg:(dS xs q).length=a:=by
     have tF:xs.take b=xs:=zP aC;rw[tF] at h1;unfold dS;rw[<-h1,sE];omega
    have Nr:ys.take a=dS xs q:=by
     have tF:xs.take b=xs:=zP aC;rw[tF] at h1;exact h1
    have mU:(bH ys).length=ys.length*2:=I2 bE.cells (s:=2) (λ_=>rfl) ys;have hzs:(qJ (zhZ #[.int .i64 0,.int .i64 0]).cells (b-a)).size=(b-a)*2:=Vw _ _;have cN:=λty=>zmk (P:=aK) (w:=wr) (dT:=69) (ty:=ty) (c:=c-a) (n:=b-a) (o:=a*2) zh1 zCG.o fG q8.o aC (by rw[hzs];simp[mU,Jd];omega) (λu hu=>by
     obtain⟨k,hk,rfl⟩:=Lw.1 hu;simp only[qJ,Ys,zjK,zkY,zhV];rcases zwX k with hk|hk<;>simp[hk]<;>rfl)
    obtain⟨zM,oR⟩:=aP (((bH ys++rest).toArray.toList.take (a*2)++(qJ (zhZ #[.int .i64 0,.int .i64 0]).cells (b-a)).toList++(bH ys++rest).toArray.toList.drop (a*2+(qJ (zhZ #[.int .i64 0,.int .i64 0]).cells (b-a)).size)).toArray);rw[<-oR] at cN;have HR:=aD cN;have HO:=aD (show(wr.setRow g zM).ownsRow lo 149 2 (.slice (some ⟨g,0,none⟩) a c) a (bH (dS xs q)) by
     refine⟨by have:=I2 bE.cells (s:=2) (λ_=>rfl) (dS xs q);unfold bH;omega,.inr ⟨g,c,zM,rfl,eF,Ls wr g _ zM 149 (0,0) q8.o,aC,qF,?_,?_⟩⟩
     .rw[oR]
      simp only[B6,jH,sE,yG,Dy,hzs,mU,Jd];omega
     .rw[oR,show∀l:List aF,l.toArray.toList=l from λ_=>rfl,show∀l:List aF,l.toArray.toList=l from λ_=>rfl,Jz,F5 (by rw[sE,jH,mU];omega),Qt,zlw,F5 aC,<-Nr]
      have:(bH ys).take (a*2)=bH (ys.take a):=by
       conv=>lhs;rw[<-zxq a ys]
       unfold bH;rw[List.flatMap_append];have h9:=I2 bE.cells (s:=2) (λ_=>rfl) (ys.take a);rw[sE,Nat.min_eq_left aC] at h9;rw[F5 aC];exact zP aC
      exact this)
    have zDS:=aD (Ua zdA.o (zba zM));have a0:(0:Int)<=(a:Int):=aC;have a1:(a:Int)<(b:Int):=aC;have zKO:a<c:=aC;have zK1:¬(c=a):=aC;clear cN oR hzs mU Nr q8 zdA h1 h2
    go_wp2_with (refine zci rfl (.tmp 38) 69 rfl _ rfl HR.o ?_)
    go_ret;exact⟨a,rfl,zgg.symm,HO.o,zDS.o⟩
theorem zhQ (b:bY)(t:List UInt8)(x:bE):(jV (b,t) x).1.o=b.o/\(jV (b,t) x).1.clk=b.clk/\(jV (b,t) x).1.log=b.log/\(jV (b,t) x).1.recs.length=b.recs.length/\(jV (b,t) x).1.wait.length<=b.wait.length/\(jV (b,t) x).1.back.length<=b.back.length+1/\
 ∀z∈(jV (b,t) x).1.recs,∃y∈b.recs,z.o=y.o/\z.l=y.l:=by
 have same:∀z∈b.recs,∃y∈b.recs,z.o=y.o/\z.l=y.l:=λz hz=>⟨z,hz,rfl,rfl⟩;unfold jV;split
 .simp_all
 .split
  .refine⟨rfl,rfl,rfl,?_,Y8 _ _,?_,λz hz=>?_⟩
   .show(List.modify _ _ _).length=_
    rw[Lt]
   .simp_all
   .obtain⟨y,hy,rfl|rfl⟩:=S7 hz
    .exact⟨_,hy,rfl,rfl⟩
    simp_all
  simp_all
theorem yZ.tire {t:List UInt8}(h:yZ d)(hx:1<=x.c/\x.c<=99)(hb:d.r.back.length<5000):yZ {d with r:=(jV (d.r,t) x).1}:=by
 have S:=h.S.tire (t:=t) (x:=x);have R:=h.R.tire (t:=t) hx;obtain⟨e1,e2,e3,e4,e5,e6,e7⟩:=zhQ d.r t x;generalize(jV (d.r,t) x).1=b at*;refine⟨S,R,⟨λz hz=>?_,?_⟩,h.ndl,?_,λz hz=>?_,?_,⟨R.off,?_,?_,?_,?_,?_⟩⟩
 .obtain⟨y,hy,e,_⟩:=e7 z hz
  rw[e,e1];exact h.ops.op y hy
 .show 1<=b.o.op
  rw[e1];exact h.ops.n1
 .show(d.ln.length:Int)=b.o.ln
  rw[e1];exact h.nln
 .obtain⟨y,hy,_,e⟩:=e7 z hz
  show 1<=z.l/\z.l<=b.o.ln;rw[e,e1];exact h.lb y hy
 .show(d.qn.length:Int)=b.o.op
  rw[e1];exact h.nqn
 .show b.recs.length<=1000
  rw[e4];exact h.sm.nr
 .exact eH e5 h.sm.nw
 .grind
 .show b.log.length<=1000
  rw[e3];exact h.sm.nl
 .show 0<=b.clk/\b.clk<=100000
  rw[e2];exact h.sm.clk
def s9 (r:bY)(m:Int):Nat->List bE
 |0=>[]
 |k+1=>match r.wait[k]? with
  |none=>s9 r m k
  |some x=>match hY (dA r m k).1.recs x.c with
   |none=>s9 r m k++[x]
   |some i=>if(dA r m k).1.o.pt<=(dA r m k).1.clk-V8 (dA r m k).1.recs i then s9 r m k else s9 r m k++[x]
theorem zdJ {st rest:List bE}(h:((st++x::rest).map bE.c).Nodup):dS (st++x::rest) x.c=st++rest:=by
 rw[N4,gT,znf] at h;obtain⟨h1,h2,h3⟩:=h;rw[C6] at h2;have a1:∀y∈st,(y.c !=x.c)=true:=λy hy=>by simp_all
 have a2:∀y∈rest,(y.c !=x.c)=true:=λy hy=>by simp_all
 unfold dS;rw[Pl,List.filter_cons,zeu.2 a1,zeu.2 a2];simp
structure TK (d:nU)(m:Int)(k:Nat):Prop where
 i:yZ {d with r:=(dA d.r m k).1}
 w:(dA d.r m k).1.wait=s9 d.r m k++d.r.wait.drop k
 nb:(dA d.r m k).1.back.length<=d.r.back.length+k
 log:(dA d.r m k).1.log=d.r.log
 o:(dA d.r m k).1.o=d.r.o
 clk:(dA d.r m k).1.clk=d.r.clk+m
 le:(s9 d.r m k).length<=k
 txt:(dA d.r m k).2.length<=30+30*k
section
variable {d:nU}{m:Int}
theorem TK.zero (h:yZ d)(hm:0<=m)(hc:d.r.clk+m<=100000):TK d m 0:=by
 have h0:=h.sm.clk;have hn:=Qv (c:=d.r.clk+m) aC aC;refine⟨⟨⟨h.S.opn,h.S.last,h.S.wt,h.S.bk,h.S.bo⟩,⟨h.R.off,?_,h.R.nodup,h.R.hasrec,λz hz=>?_,h.R.waitB,h.R.backB⟩,⟨h.ops.op,h.ops.n1⟩,h.ndl,h.nln,h.lb,h.nqn,⟨h.R.off,h.sm.nr,h.sm.nw,h.sm.nb,h.sm.nl,?_⟩⟩,rfl,bF _,rfl,rfl,rfl,bF _,?_⟩
 .show 0<=d.r.clk+m;omega
 .have:=h.R.recB z hz
  show _/\_/\_/\_/\_/\_/\_/\z.f<=d.r.clk+m;omega
 .show 0<=d.r.clk+m/\d.r.clk+m<=100000;omega
 .show([97,116,32]++gM (d.r.clk+m)).length<=_
  grind
structure Next (d:nU)(m:Int)(k:Nat)(x:bE)(i:Nat)(y:bR):Prop where
 at_:hY (dA d.r m k).1.recs x.c=some i
 hy:(dA d.r m k).1.recs[i]? =some y
 c:y.c=x.c
 op:eD y=true
 b:1<=x.c/\x.c<=99
 f:0<=y.f/\y.f<=d.r.clk+m
 tired:d.r.o.pt<=d.r.clk+m-y.f->dA d.r m (k+1)=({kI (dA d.r m k).1 i vS with back:=(dA d.r m k).1.back++[x]},(dA d.r m k).2++[32]++gM x.c)/\s9 d.r m (k+1)=s9 d.r m k
 not_:¬d.r.o.pt<=d.r.clk+m-y.f->dA d.r m (k+1)=dA d.r m k/\s9 d.r m (k+1)=s9 d.r m k++[x]
variable {k:Nat}{x:bE}
theorem TK.next (h:TK d m k)(hx:d.r.wait[k]? =some x):∃i y,Next d m k x i y:=by
 have zji:d.r.wait.drop k=x::d.r.wait.drop (k+1):=by
  obtain⟨hl,he⟩:=kP.1 hx;rw[zeY hl,he]
 have oY:x∈(dA d.r m k).1.wait:=by rw[h.w,zji];simp
 obtain⟨i,hi⟩:=Option.isSome_iff_exists.1 (h.i.R.hasrec x oY);have hi:hY (dA d.r m k).1.recs x.c=some i:=hi;obtain⟨y,hy,zju,En⟩:=zA hi;have e1:=zgP (m:=m) hx;rw[Yj hi hy,h.o,h.clk] at e1;have e2:s9 d.r m (k+1)=if d.r.o.pt<=d.r.clk+m-y.f then s9 d.r m k else s9 d.r m k++[x]:=by
  conv=>lhs;unfold s9
  simp only[hx,hi,h.o,h.clk];rw[show V8 (dA d.r m k).1.recs i=y.f by unfold V8;rw[hy]]
 have hf:=h.i.R.recB y (fN hy);refine⟨i,y,⟨hi,hy,zju,En,h.i.R.waitB x oY,⟨hf.2.2.2.2.2.2.1,by have:=hf.2.2.2.2.2.2.2;rw[<-h.clk];exact this⟩,λhp=>?_,λhp=>?_⟩⟩
 .simp_all
 simp_all
theorem TK.succ (h:TK d m k)(hb:d.r.back.length+d.r.wait.length<=5000)(hx:d.r.wait[k]? =some x):TK d m (k+1):=by
 obtain⟨hl,he⟩:=kP.1 hx;have zji:d.r.wait.drop k=x::d.r.wait.drop (k+1):=by rw[zeY hl,he]
 obtain⟨i,y,n⟩:=h.next hx;have nX:=h.nb;have hT:=yZ.tire (t:=(dA d.r m k).2) h.i n.b sU;have e1:=zgP (m:=m) hx;have zAH:yZ {d with r:=(dA d.r m (k+1)).1}:=by rw[e1];exact hT
 obtain⟨r1,r2,r3,r4,r5,r6,r7⟩:=zhQ (dA d.r m k).1 (dA d.r m k).2 x;have C8:dA d.r m (k+1)=jV ((dA d.r m k).1,(dA d.r m k).2) x:=e1;rw[<-C8] at r1 r2 r3 r4 r5 r6;have hw:=h.w;rw[zji] at hw;have lE:((s9 d.r m k++x::d.r.wait.drop (k+1)).map bE.c).Nodup:=by rw[<-hw];exact h.i.R.nodup
 have hle:=h.le;have zpM:=h.txt;refine⟨zAH,?_,aC,r3.trans h.log,r1.trans h.o,r2.trans h.clk,?_,?_⟩
 .by_cases hp:d.r.o.pt<=d.r.clk+m-y.f
  .have t4:=(n.tired hp).2
   rw[t4];have e3:=e1;rw[Yj n.at_ n.hy,h.o,h.clk,if_pos hp] at e3;rw[e3];show dS _ (He _ _)=_;rw[Tm n.hy,n.c,hw,zdJ lE]
  .obtain⟨t1,t2⟩:=n.not_ hp
   rw[t1,t2,hw];simp
 .by_cases hp:d.r.o.pt<=d.r.clk+m-y.f
  .rw[(n.tired hp).2];omega
  .rw[(n.not_ hp).2,jH];simp;omega
 .by_cases hp:d.r.o.pt<=d.r.clk+m-y.f
  .have:=n.b
   have hn:=Qv (c:=x.c) aC aC;rw[(n.tired hp).1,jH,jH]
   grind
  .rw[(n.not_ hp).1];omega
def TK.all (h:yZ d)(hm:0<=m)(hc:d.r.clk+m<=100000)(hb:d.r.back.length+d.r.wait.length<=5000):∀k,k<=d.r.wait.length->TK d m k
 |0,_=>TK.zero h hm hc
 |k+1,hk=>(TK.all h hm hc hb k aC).succ hb (mV aC)
theorem TK.end_ (h:TK d m d.r.wait.length):(tN d.r m).1.wait=s9 d.r m d.r.wait.length:=by
 rw[<-zaK,h.w,List.drop_of_length_le (bF _),Nv]
end
def qC (w:aE):Prop:=Lib.TabIs aK w "internal/strconv.uint64pow10" .u64 Lib.pow10Tab
def Cb (lo:Nat)(w:aE):Prop:=∀w':aE,(∀b,b<lo->w'.heap[b]? =w.heap[b]?)->qC w'
def Cb.at_ (h:Cb lo w):qC w:=h w λ_ _=>rfl
def Cb.keep (h:Cb lo w)(k:∀b,b<lo->w'.heap[b]? =w.heap[b]?):Cb lo w':=λw2 k2=>h w2 λb hb=>(k2 b hb).trans (k b hb)
variable {v':fJ}
theorem Cb.turn (h:Cb lo w)(a:bG w lo hb v d)(eF:lo<=w.heap.size)(t:bO hb v w v' w'):Cb lo w':=h.keep λb bU=>t.block b aC (λx=>by have:=(a.lt b x).1;omega)
def Aj (v v':fJ):Prop:=v'.sL=v.sL/\v'.sQ=v.sQ/\v'.sA=v.sA/\v'.sT=v.sT
def Aj.rf (v:fJ):Aj v v:=⟨rfl,rfl,rfl,rfl⟩
def Df.kept (h:Df v v'):Aj v v':=⟨h.1,h.2.1,h.2.2.2.2.1,h.2.2.2.2.2⟩
theorem zG4 (ht:Cb lo w)(n:Int)(h0: -1000000000<=n)(h1:n<=1000000000):
 gH aK 112 #[.int .i64 n] w λe w'=>e=.returned (.string ⟨(gM n).toArray⟩)/\cF w.heap.size w w':=
 (Tryz.strconv_Itoa n aC aC w ht.at_).mono (by
  rintro e w' ⟨rfl,k,os,rfl⟩;refine⟨rfl,rfl,rfl,rfl,by simp[Go.Sort.grow],λi hi=>?_⟩;show((w.drewN k).heap++os)[i]? =_;rw[Array.getElem?_append_left tD];rfl)
theorem zmX (n:Int)(h0:0<=n)(h1:n<100)(w:aE):
 gH aK 112 #[.int .i64 n] w λe w'=>e=.returned (.string ⟨(gM n).toArray⟩)/\w'=w:=by
 obtain⟨c,rfl⟩:∃c:Nat,n=(c:Int):=⟨n.toNat,aC⟩;refine(Tryz.strconv_Itoa_small c aC w).mono ?_;rintro e w' ⟨rfl,rfl⟩;exact⟨by unfold gM;rw[Lib.itoa_nonneg],rfl⟩
section
variable {P:bZ}{w w':aE}
theorem zq5 {ops:Array aZ}{rest:List aZ}{o:aZ}{a:Act}{Q:oF->Act->aE->Prop}(Fe:o.guard=none)(s x:cK)(t tn:aM)(ho:o.op=.call {callee:=.builtin .append,args:=#[s,x],argTypes:=#[t,tn]})(vs vx v':aF)(hs:a.eval s=vs)(hx:a.eval x=vx)
 (hr:(xV #[t,tn] o.type #[vs,vx]).run P w=.ok v' w') (h:wpList P ops Q rest (a.put o.dst v') w'):wpList P ops Q (o::rest) a w:=by
 refine Su Fe λK hK=>?_;unfold C2 aO;simp only[ho,resolve,invoke,builtin,Fl,Ic,Es,vD,gT,tW,hs,hx,hr];exact hK _ _ h
end
theorem zeb {E s:Nat}{xR:Nat}{v:aF}{xs:List aF}(h:w.ownsRow lo E s v n xs)(hl:xR<=lo):w.ownsRow xR E s v n xs:=by
 obtain⟨h0,h1|⟨g,cap,cur,e1,e2,e3⟩⟩:=h
 .exact⟨h0,.inl h1⟩
 .exact⟨h0,.inr ⟨g,cap,cur,e1,eH hl e2,e3⟩⟩
variable {x:Option Nat}{l:List (Option Nat)}
theorem zFr (h:zaq l)(hx:∀b,x=some b->some b∉l):zaq (l.set j x):=by
 intro i k b hi hk;rw[zbo] at hi hk;split at hi<;>split at hk
 .omega
 .grind
 .grind
 .exact h i k b hi hk
theorem bG.newW (h:bG w lo hb v d){s':aF}(ho:w.ownsRow lo 149 2 s' n (bH xs))(hn:n=xs.length)(hw:∀b,s'.ownBlock=some b->some b∉parts v hb):
 bG (w.setCell ⟨hb,7,none⟩ s') lo hb {v with sW:=s'} {d with r:={d.r with wait:=xs}}:=by
 subst hn;have h0:(parts v hb)[0]? =some (some hb):=rfl;have kk:∀i b,i≠0->(parts v hb)[i]? =some (some b)->(w.setCell ⟨hb,7,none⟩ s').heap[b]? =w.heap[b]? :=λi b hi bU=>dU w _ _ b (h.ne bU h0 hi);have hp:parts {v with sW:=s'} hb=(parts v hb).set 5 s'.ownBlock:=rfl
 refine⟨oH h.blk s',h.lob,cI h.L λb e=>kk 1 _ aH cS,cI h.Q λb e=>kk 4 _ aH cS,cI ho λb e=>dU w _ _ b (λe2=>hw b e sU),
  cI h.B λb e=>kk 6 _ aH cS,cI h.R λb e=>kk 7 _ aH cS,cI h.A λb e=>kk 9 _ aH cS,cI h.T λb e=>kk 10 _ aH cS,
  h.C.keep (kk 2 _ aH rfl),h.O.keep (kk 3 _ aH rfl),h.M.keep (kk 8 _ aH rfl),?_⟩
 rw[hp];exact zFr h.ap hw
def bG.grown (h:bG w lo hb v d)(hg:w.grownBy w' x)(hx:∀b,x=some b->some b∉parts v hb):bG w' lo hb v d:=
 h.keep λb bU hp=>hg.block b bU λe=>hx b e.symm hp
theorem bO.grown {w0:aE}{v0:fJ}(h:bO hb v0 w0 v w)(hg:w.grownBy w' x)(hx:∀b,x=some b->w0.heap.size<=b):bO hb v0 w0 v w':=
 ⟨eH h.size hg.size,λb bU hn=>(hg.block b (jO bU h.size) λe=>by grind).trans (h.block b bU hn),h.moved⟩
end Go.Proofs.YtfcjiloojkjaeaaGreatDoor
namespace Go.Proofs.YtfcjiloojkjaeaaGreatDoor
open Go.Mt Go.Tt
def glL:List Nat:=[33,52,109,110,115,116,105,108,113,124,117,114,119,118,112,123,126,128,129,130,131,132,133,134,135,136,137,138,10,11,12,13,15,16,17,18,19,20,22,23,24,25,31,32,34,35,37,38,39,40,41,43,44,45,46,47,48,49,50,51,60,61,62,63,64,65,66,67,88,89,90,91,92,93,94,95,96,107]
def alL:List Nat:=[3,4,5,7,9,10,11,12,13,14,15,16,17,18,19,20,21,22,23,24,25,26,28,30,31,32,33,34,35,37,38,39,40,41,42,43,44,45,46,47,48,49,50,51,52,60,61,62,63,64,65,66,67,88,89,90,91,92,93,94,95,96,107,118]
def flL:List Nat:=[118]
def olL:List Nat:=[42]
abbrev Da:aQ->Bool:=nL glL
abbrev fU:aQ->Bool:=nL flL
def zp9:Sy aK=true:=aT
def zpu:glL.all (fnFit aK (nL flL) (nL glL))=true:=aT
def lvF:Lv aK (nL olL) (nL alL) Da fU:=
 lv_of zp9 zpu aT aT aT aT aT
def nF:wC (PS aK Da) fU:=zxU zp9 zpu aT
end Go.Proofs.YtfcjiloojkjaeaaGreatDoor
namespace Go.Mt
open Go.Conc Go.Tt
def frO:Obj->Obj
 | .cells c T fz=>.cells c T (0,max c.size fz.2)
 |o=>o
def vI (X:Nat->Bool)(w:aE):World:={w with heap:=w.heap.mapIdx λi o=>if X i=true then frO o else o}
def thX (X:Nat->Bool)(w0 wn:aE):World:={wn with heap:=wn.heap.mapIdx λi o=>if X i=true then(w0.heap[i]?).getD o else o}
def reX (X:Nat->Bool)(w:aE):World:={w with heap:=w.heap.mapIdx λi o=>if X i=true then frO o else pF}
theorem Te (X:Nat->Bool)(w:aE):(vI X w).heap.size=w.heap.size:=by simp[vI]
theorem zeI (X:Nat->Bool)(w wn:aE):(thX X w wn).heap.size=wn.heap.size:=by simp[thX]
theorem zll (X:Nat->Bool)(w:aE):(reX X w).heap.size=w.heap.size:=by simp[reX]
section
variable {X:Nat->Bool}{w wn:aE}{a:Nat}
theorem Of (h:X a=false):(vI X w).heap[a]? =w.heap[a]? :=by
 simp[vI,My,h]
variable {c:Array aF}{T:aM}
theorem Ur {fz:Nat×Nat}(h:X a=true)(hc:w.heap[a]? =some (.cells c T fz)):(vI X w).heap[a]? =some (.cells c T (0,max c.size fz.2)):=by
 simp[vI,My,h,hc,frO]
theorem zgJ {fz:Nat×Nat}(h:X a=true)(hc:w.heap[a]? =some (.cells c T fz)):(reX X w).heap[a]? =some (.cells c T (0,max c.size fz.2)):=by
 simp[reX,My,h,hc,frO]
theorem zuB (h:X a=false)(ha:a<w.heap.size):(reX X w).heap[a]? =some pF:=by
 simp[reX,My,h,ha]
theorem Xq (h:X a=false):(thX X w wn).heap[a]? =wn.heap[a]? :=by
 simp[thX,My,h]
theorem zg7 {o:Obj}(h:X a=true)(ha:a<wn.heap.size)(ho:w.heap[a]? =some o):(thX X w wn).heap[a]? =some o:=by
 simp[thX,My,h,ho,ha]
end
inductive xO (X KD:Nat->Prop):aF->Prop
 |bool (b:Bool):xO X KD (.bool b)
 |int (k:IntKind) (n:Int):xO X KD (.int k n)
 |string (s:ByteArray):xO X KD (.string s)
 |nilFunc:xO X KD .nilFunc
 |nilIface:xO X KD .nilIface
 |pointer {a:Option bC}:(∀x,a=some x->X x.block)->xO X KD (.pointer a)
 |slice {a:Option bC} {n c:Nat}:(∀x,a=some x->X x.block)->xO X KD (.slice a n c)
 |chan {a:Option Nat}:(∀x,a=some x->KD x)->xO X KD (.chan a)
 |agg {xs:Array aF}:(∀(i:Nat) (v:aF),xs[i]? =some v->xO X KD v)->xO X KD (.agg xs)
 |tuple {xs:Array aF}:(∀(i:Nat) (v:aF),xs[i]? =some v->xO X KD v)->xO X KD (.tuple xs)
theorem wG.inX {X KD:Nat->Prop}{v:aF}(h:wG v):xO X KD v:=by
 induction h with
 |bool b=>exact .bool b
 |int k n=>exact .int k n
 |string s=>exact .string s
 |nilFunc=>exact .nilFunc
 |nilIface=>exact .nilIface
 |agg _ ih=>exact .agg ih
 |tuple _ ih=>exact .tuple ih
section
variable {S:aQ->Prop}{K R K' R':Pr}{X KD:Nat->Prop}
theorem zoA {a a':Option bC}(x:xX R a a')(hR:∀p q,R p q->X p->R' p q)(h:∀y,a=some y->X y.block):xX R' a a':=by
 cases x with
 |none=>exact .none
 |some y=>
  cases y with
  |mk y=>exact .some (.mk (hR _ _ y (h _ rfl)))
theorem xO.vr {u v:aF}(x:VR S K R u v)(hR:∀a b,R a b->X a->R' a b)(hK:∀a b,R.or K a b->KD a->R'.or K' a b)(hu:xO X KD u):VR S K' R' u v:=by
 induction x with
 |bool b=>exact .bool b
 |int k n=>exact .int k n
 |string s=>exact .string s
 |nilFunc=>exact .nilFunc
 |nilIface=>exact .nilIface
 |pointer y=>cases hu with|pointer h=>exact .pointer (zoA y hR h)
 |slice y=>cases hu with|slice h=>exact .slice (zoA y hR h)
 |map _=>cases hu
 |chan y=>
  cases hu with
  |chan h=>
   refine .chan ?_
   cases y with
   |none=>exact .none
   |some y=>exact .some (hK _ _ y (h _ rfl))
 |func _ _ _ _ _ _ _=>cases hu
 |iface _ _=>cases hu
 |agg e _ ih=>cases hu with|agg h=>exact .agg e λi v v' h1 h2=>ih i v v' h1 h2 (h i v h1)
 |tuple e _ ih=>cases hu with|tuple h=>exact .tuple e λi v v' h1 h2=>ih i v v' h1 h2 (h i v h1)
 |junk h=>exact .junk h
end
section
variable {S:aQ->Prop}{K R K' R':Pr}{G:Gp}{St St':Nat->Prop}{w W wn Wn:aE}{X:Nat->Bool}
structure XOk (R:Pr)(X:Nat->Bool)(w:aE):Prop where
 dom:∀a,X a=true->∃b,R a b
 cells:∀a,X a=true->∃c T fz,w.heap[a]? =some (.cells c T fz)
theorem ztR (h:cV S K R G St w W)(hx:XOk R X w):cV S K R G (λa=>St a\/X a=true) (vI X w) W:=by
 have stC:∀a,St a->∃c T hi,w.heap[a]? =some (.cells c T (0,hi))/\c.size<=hi:=λa x=>(h.st a x).2;refine⟨h.inj,h.inj',λa b x=>by rw[Te];exact h.lt a b x,h.low,by rw[Te];exact h.gle,λa b x=>?_,λa b x hn=>?_,λa x=>?_,?_,h.tb⟩
 .obtain⟨o,o',h1,h2,h3⟩:=h.cont a b x
  cases e:X a with
  |false=>exact⟨o,o',(Of e).trans h1,h2,h3⟩
  |true=>
   obtain⟨c,T,fz,hc⟩:=hx.cells a e;rw[hc] at h1;obtain rfl:=cO h1
   cases h3 with
   |cells tU hf=>
    refine⟨_,_,Ur e hc,h2,.cells tU λo ho=>?_⟩;have:=hf o ho;unfold Kk at this⊢;simp only;omega
 .cases e:X a with
  |false=>exact(Of e).trans (h.rest a b x hn)
  |true=>
   obtain⟨c,hc⟩:=hx.dom a e;exact absurd hc (hn c)
 .cases e:X a with
  |false=>
   have x':St a:=x.resolve_right (by rw[e];simp);obtain⟨h1,c,T,hi,h2,h3⟩:=h.st a x';exact⟨h1,c,T,hi,(Of e).trans h2,h3⟩
  |true=>
   obtain⟨c,T,fz,hc⟩:=hx.cells a e;exact⟨hx.dom a e,c,T,_,Ur e hc,zwt ..⟩
 .intro a c e hp
  cases ex:X a with
  |false=>
   rw[Of ex] at hp;exact h.np a c e hp
  |true=>
   obtain⟨c',T,fz,hc⟩:=hx.cells a ex;rw[Ur ex hc] at hp;cases hp
theorem zwx (h:cV S K R G St w W)(hx:XOk R X w)(hle:R.le R')(hK:K.le K')(hn:cV S K' R' G St' wn Wn)(hs:∀a,St a->St' a)(aY:∀a b,X a=true->R a b->Wn.heap[b]? =W.heap[b]?):cV S K' R' G St (thX X w wn) Wn:=by
 have aS:∀a b,R' a b->a<wn.heap.size:=λa b x=>(hn.lt a b (.inl x)).1;refine⟨hn.inj,hn.inj',λa b x=>by rw[zeI];exact hn.lt a b x,hn.low,by rw[zeI];exact hn.gle,λa b x=>?_,λa b x fP=>?_,λa x=>?_,?_,hn.tb⟩
 .cases e:X a with
  |false=>
   obtain⟨o,o',h1,h2,h3⟩:=hn.cont a b x;exact⟨o,o',(Xq e).trans h1,h2,h3⟩
  |true=>
   obtain⟨b0,Qz⟩:=hx.dom a e;obtain rfl:=hn.inj a b b0 (.inl x) (.inl (hle _ _ Qz));obtain⟨o,o',h1,h2,h3⟩:=h.cont a b Qz;exact⟨o,o',zg7 e (aS a b x) h1,(aY a b e Qz).trans h2,oS.monoK hK (h3.mono hle)⟩
 .cases e:X a with
  |false=>exact(Xq e).trans (hn.rest a b x fP)
  |true=>
   obtain⟨c,hc⟩:=hx.dom a e;exact absurd (hle _ _ hc) (fP c)
 .cases e:X a with
  |false=>
   obtain⟨h1,c,T,hi,h2,h3⟩:=hn.st a (hs a x);exact⟨h1,c,T,hi,(Xq e).trans h2,h3⟩
  |true=>
   obtain⟨⟨b,h1⟩,c,T,hi,h2,h3⟩:=h.st a x;exact⟨⟨b,hle _ _ h1⟩,c,T,hi,zg7 e (aS a b (hle _ _ h1)) h2,h3⟩
 .intro a c e hp
  cases ex:X a with
  |false=>
   rw[Xq ex] at hp;exact hn.np a c e hp
  |true=>
   obtain⟨b,hb⟩:=hx.dom a ex;obtain⟨c',T,fz,hc⟩:=hx.cells a ex;rw[zg7 ex (aS a b (hle _ _ hb)) hc] at hp;cases hp
def rX (R:Pr)(X:Nat->Bool):Pr:=λa b=>R a b/\X a=true
def kX (K:Pr)(KD:Nat->Prop):Pr:=λa b=>K a b/\KD a
theorem reX_rel (h:cV S K R G St w W)(hx:XOk R X w)(hT:∀g,G.tab g=true->X g=true){KD:Nat->Prop}(mU:∀a c T fz,X a=true->w.heap[a]? =some (.cells c T fz)->∀v∈c,xO (λa=>X a=true) KD v)(zCR:∀a b,R a b->KD a->X a=true):
 cV S (kX K KD) (rX R X) G (λa=>X a=true) (reX X w) W:=by
 have up:∀a b,(rX R X).or (kX K KD) a b->R.or K a b:=λa b x=>x.elim (λy=>.inl y.1) λy=>.inr y.1;refine⟨λa b c x y=>h.inj a b c (up _ _ x) (up _ _ y),λa b c x y=>h.inj' a b c (up _ _ x) (up _ _ y),λa b x=>by rw[zll];exact h.lt a b (up _ _ x),λa b x=>h.low a b x.1,by rw[zll];exact h.gle,λa b x=>?_,λa b x fP=>?_,λa x=>?_,?_,λg hg=>⟨h.tb g hg,hT g hg⟩⟩
 .obtain⟨o,o',h1,h2,h3⟩:=h.cont a b x.1
  obtain⟨c,T,fz,hc⟩:=hx.cells a x.2;rw[hc] at h1;obtain rfl:=cO h1
  cases h3 with
  |cells tU hf=>
   refine⟨_,_,zgJ x.2 hc,h2,.cells ⟨tU.1,λi v v' h1 h2=>?_⟩ λo ho=>?_⟩
   .refine xO.vr (tU.2 i v v' h1 h2) (λp q y z=>⟨y,z⟩) (λp q y z=>?_) (mU a c T fz x.2 hc v (Array.mem_of_getElem? h1))
    rcases y with y|y
    .exact .inl ⟨y,zCR p q y z⟩
    .exact .inr ⟨y,z⟩
   .have:=hf o ho
    unfold Kk at this⊢;simp only;omega
 .cases e:X a with
  |false=>exact zuB e (h.lt a b (.inr x.1)).1
  |true=>
   obtain⟨c,hc⟩:=hx.dom a e;exact absurd ⟨hc,e⟩ (fP c)
 .obtain⟨c,T,fz,hc⟩:=hx.cells a x
  obtain⟨b,hb⟩:=hx.dom a x;exact⟨⟨b,hb,x⟩,c,T,_,zgJ x hc,zwt ..⟩
 .intro a c e hp
  cases ex:X a with
  |false=>
   by_cases ha:a<w.heap.size
   .rw[zuB ex ha] at hp
    unfold pF at hp;cases hp
   .have:=(eB.1 hp).1
    rw[zll] at this;omega
  |true=>
   obtain⟨c',T,fz,hc⟩:=hx.cells a ex;rw[zgJ ex hc] at hp;cases hp
end
end Go.Mt
namespace Go.Mt
open Go.Conc Go.Tt
open Go.ConcR (KK wgBlock WgAt stA smA rd wr DC0)
section
variable {p:bZ}{Post:aF->aE->Prop}{Shun:Loc->Prop}
def BJ (p:bZ)(Post:aF->aE->Prop)(Shun:Loc->Prop)(τ:cH)(g:bD)(W:aE):Prop:=
 (∀b,τ.own b\/τ.still b->b<W.heap.size/\∀l,nQ l b->¬Shun l)->(∀l b,nQ l b->W.heap.size<=b->¬Shun l)->J p Post Shun W.heap.size g W
theorem zAo {O Z:Nat->Prop}{B:Nat}{e:Event}(h:EvQ O Z e)(hO:∀b,O b\/Z b->b<B/\∀l,nQ l b->¬Shun l):EvL Shun B e:=by
 rcases h with rfl|⟨b,h1,h2⟩
 .exact⟨λx hx=>by simp[jN,sJ] at hx,aN,aN,trivial⟩
 .obtain⟨hb,hs⟩:=hO b (h2.imp id And.left)
  obtain⟨loc,wr,sy⟩:=e
  cases loc with
  |cell x=>
   simp only[Hd,jP] at h1;refine⟨λy hy nD=>?_,aN,aN,?_⟩
   .simp only[jN,sJ,jP] at hy
    subst hy;exact absurd nD (hs _ h1)
   .show x.block<B
    rw[h1];exact hb
  |obj r=>
   simp only[Hd,jP] at h1;have hr:r<B:=by rw[h1];exact hb
   refine⟨λy hy nD=>?_,aN,aN,?_⟩
   .have Wx:y.loc=.obj r:=by
     cases wr<;>cases sy<;>simp only[jN,sJ,jP] at hy<;>first|(subst hy;rfl)|(cases hy;done)
    exact absurd (Wx▸nD) (hs (.obj r) h1)
   .cases wr<;>cases sy<;>exact hr
  |_=>simp[Hd] at h1
variable {ty:aM}
def suf_atd {Wg:Nat}{τ:cH}{w:aE}(d:Nat):bX ty Wg τ w (w.at d):=⟨rfl,rfl,rfl,bF _,λ_ _=>rfl,λx=>x⟩
theorem bj_ok {Wg:Nat}(τ:cH)(g:bD)(w:aE)(cN:g.status=.running)(h:OwnQ p ty Wg true (BJ p Post Shun) τ g w):BJ p Post Shun τ g w:=by
 intro h1 h2;have grow:∀(d:Nat) {w':aE},w.heap.size<=w'.heap.size->(∀b,(τ.grow (w.at d) w').own b\/τ.still b->b<w'.heap.size/\∀l,nQ l b->¬Shun l)/\∀l b,nQ l b->w'.heap.size<=b->¬Shun l:=λd w' hs=>by
  refine⟨λb hb=>?_,λl b hl hb=>h2 l b hl (eH hs hb)⟩;rcases hb with(hb|⟨hb,bU⟩)|hb
  .grind
  .exact⟨bU,λl hl=>h2 l b hl hb⟩
  .grind
 refine J.own cN λd=>?_;obtain⟨g',w',es,a1,a2,a3,a4,a5⟩:=h (w.at d) (suf_atd d);obtain⟨k1,k2⟩:=grow d a3.size;exact⟨g',w',es,w'.heap.size,a1,λe he=>zAo (a4 e he) k1,a3.size,a5 k1 k2⟩
structure IA (W0:aE)(St:Nat->Prop)(Shun:Loc->Prop)(R0:Pr)(R:Pr)(τ:cH)(W:aE):Prop where
 kp:Kp W0 R St W
 sh:Sh W0.heap.size Shun R W
 still:∀b,b<W0.heap.size->τ.still b
 le:R0.le R
def Gd (p:bZ)(gs fs:aQ->Bool)(Post:aF->aE->Prop)(Shun:Loc->Prop)(W0:aE)(St:Nat->Prop)(K R0:Pr)(base:List dR):Cx Unit:=
 {p:=p,gs:=gs,fs:=fs,ty:=0,Wg:=0,A:=⟨λ_=>.wait,λ_ _=>True,λ_=>false,λ_=>True,λ_ _=>True,λ_ _=>[]⟩,Fin:=λ_ _=>True,main:=true,base:=base,ds:=.nil,K:=K,St:=St,I:=IA W0 St Shun R0,pin:=[],alone:=some (BJ p Post Shun),aok:=λB h τ g w hr ho=>(by cases h;exact bj_ok τ g w hr ho)}
variable {gs fs:aQ->Bool}{W0:aE}{St:Nat->Prop}{K R0:Pr}{base:List dR}
theorem dD:fD (Gd p gs fs Post Shun W0 St K R0 base):=by
 refine⟨λR τ W aX h s=>?_,λR τ W R1 W1 h ht hs=>?_⟩
 .have h:=h
  exact⟨⟨s.os.trans h.kp.os,s.tape.trans h.kp.tape,s.output.trans h.kp.output,eH h.kp.size s.size,λb hb=>(s.keep b (.inr (h.still b hb))).trans (h.kp.block b hb),h.kp.old⟩,⟨h.sh.old,h.sh.rel,λl b hl hb=>h.sh.new l b hl (eH s.size hb)⟩,h.still,h.le⟩
 .have h:=h
  have hs:=hs;refine⟨⟨hs.os.trans h.kp.os,hs.tape.trans h.kp.tape,hs.output.trans h.kp.output,eH h.kp.size hs.size,λb hb=>?_,λa b x hb=>?_⟩,⟨h.sh.old,λa b x l hl=>?_,λl b hl hb=>h.sh.new l b hl (eH hs.size hb)⟩,h.still,h.le.trans hs.le⟩
  .rw[hs.keep b (jO hb h.kp.size) (λa x=>h.kp.old a b x hb)]
   exact h.kp.block b hb
  .rcases hs.new a b x with y|⟨y,_⟩
   .exact h.kp.old a b y hb
   .have:=h.kp.size;omega
  .rcases hs.new a b x with y|⟨y,_⟩
   .exact h.sh.rel a b y l hl
   .exact h.sh.new l b hl y
def tauA (R:Pr)(St:Nat->Prop)(W0:aE):cH:=⟨λb=>∃a,R a b/\¬St a,λb=>b<W0.heap.size\/∃a,R a b/\St a,λ_=>False⟩
def zBY {R:Pr}:vW (tauA R St W0) R St:=λa b x=>⟨λh=>.inr ⟨a,x,h⟩,λh=>⟨a,x,h⟩⟩
variable {m':Fm}
theorem BO.aloneIn {R:Pr}{m:Fm}{w W:aE}(h:BO (Gd p gs fs Post Shun W0 St K R base) () m w)(hw:cV (SF fs) K R (pK p) St w W)(hm:FmW (Gd p gs fs Post Shun W0 St K R base) R m m')(nD:Sh W0.heap.size Shun R W)(hk:Kp W0 R St W):
 J p Post Shun W.heap.size (G m'.fr base) W:=by
 have:=h R W m' (tauA R St W0) hw hm zBY ⟨hk,nD,λb hb=>.inl hb,.refl R⟩;rw[Cx.B_some rfl] at this;have e:fx [] (Gd p gs fs Post Shun W0 St K R base).ds m'=m'.fr:=Hf _;rw[e] at this;refine this (λb hb=>?_) nD.new;rcases hb with⟨a,x,_⟩|hb|⟨a,x,_⟩
 .exact⟨(hw.lt a b (.inl x)).2,nD.rel a b x⟩
 .exact⟨jO hb hk.size,λl hl=>nD.old l b hl hb⟩
 .exact⟨(hw.lt a b (.inl x)).2,nD.rel a b x⟩
theorem BO.aloneOut {op zkj:aQ->Bool}{m:Fm}{ms ms':List Fm}(hm:qB (PL p op zkj) fs K R0 m m')(kK:uS (PL p op zkj) fs K R0 ms ms')(r8:base=m'.fr::ms'.map Fm.fr){ops:Array aZ}{i:Nat}{rest:List Nat}{k:List dX}(hr:m.ret=false)(pT:m.todo=.inRegion ops (i::rest)::k)
 {f:aQ} {tmps:Array aF} {todo:List dX} {w:aE} {v:aF} {fnf:Func} (hf:p.funcs[f]? =some fnf) (oC:Gr fnf.results.toList) (hv:(oG fnf.results.toList tmps).run p w=.ok v w) (hJ:JL p op zkj fs St W0 Post (m.fin ops i rest k v) ms w):
 BO (Gd p gs fs Post Shun W0 St K R0 base) () ⟨f,tmps,todo,true⟩ w:=by
 intro R W x' τ hw hx ht hi;have hi:IA W0 St Shun R0 R τ W:=hi;obtain⟨f',bV,zB,zJ⟩:=x';obtain rfl:=hx.fn;obtain rfl:=hx.todo;obtain rfl:=hx.ret;have yW:m'.ret=false:=hm.ret.symm.trans hr;have Qr:m'.todo=.inRegion ops (i::rest)::k:=hm.todo.symm.trans pT;refine Cx.ownQ rfl λaX s=>?_;have hC:=dD (p:=p) (gs:=gs) (fs:=fs) (Post:=Post) (Shun:=Shun) (W0:=W0) (St:=St) (K:=K) (R0:=R0) (base:=base);have dL:cV (SF fs) K R (pK p) St w aX:=Cx.Rel.suf (C:=Gd p gs fs Post Shun W0 St K R0 base) hw ht s;have zH:IA W0 St Shun R0 R τ aX:=hC.suf _ _ _ _ hi s
 let T:Tape:=λn q=>aX.tape (aX.drawn+n) q
 have zT:cV (SF fs) K R (pK p) St (Tt.tp w T 0) aX:=⟨dL.inj,dL.inj',dL.lt,dL.low,dL.gle,dL.cont,dL.rest,dL.st,dL.np,dL.tb⟩;have K6:Tp (Tt.tp w T 0) aX:=λn q=>by show aX.tape (aX.drawn+(0+n)) q=_;rw[Nat.zero_add]
 have cN:=(Yf _ _ w v w hv).2 T 0;obtain⟨R1,v',W1,ev,e1,g3,e3,e4,e5⟩:=aG.run (P:=PS p gs) rfl _ (zlp hx.tmps fnf.results.toList) zT K6 cN;obtain⟨zhh,_⟩:=Yf _ _ aX v' W1 e1;subst zhh;have Pw:(z8 p ⟨f,bV,todo,true⟩ [m']).run p W1=.ok (m'.fin ops i rest k v',[]) W1:=(Ma Qr hf e1).1;obtain⟨_,_,_,e⟩:=zgL (main:=true) rfl yW Pw [] .nil (ms'.map Fm.fr);rw[Hf,Hf] at e;have U3:fx [] (Gd p gs fs Post Shun W0 St K R0 base).ds ⟨f,bV,todo,true⟩=(⟨f,bV,todo,true⟩:Fm).fr:=Hf _;rw[U3];have S8:∀e∈seen p f ((z8 p ⟨f,bV,todo,true⟩ [m']).events p W1 #[]),H6 R1 St e:=λe he=>by
  rw[(Ma Qr hf e1).2,e4] at he;exact e5 e (by simpa using mem_seen he)
 have Fc:∀a b,R1 a b->R a b\/(W1.heap.size<=b/\b<W1.heap.size):=λa b x=>by
  rcases e3.new a b x with y|⟨_,y⟩
  .exact .inl y
  .exact .inr ⟨y,(e3.rel.ltR a b x).2⟩
 have Hk:vW (τ.grow W1 W1) R1 St:=λa b x=>by
  rcases e3.new a b x with y|⟨y1,y2⟩
  .exact⟨(ht a b y).1,λz=>.inl ((ht a b y).2 z)⟩
  .have:=(e3.rel.ltR a b x).2;omega
 have Af:IA W0 St Shun R0 R1 (τ.grow W1 W1) W1:=hC.step R τ W1 R1 W1 zH ht ⟨e3.le,rfl,rfl,rfl,bF _,Fc,λ_ _ _=>rfl⟩;refine⟨G (m'.fin ops i rest k v').fr (ms'.map Fm.fr),W1,_,?_,rfl,Ao.id _ _,λe he=>zfz (S8 e he) Hk,?_⟩
 .show stepG p true (G (Fm.fr _) base) W1=_
  rw[r8];exact e
 .rw[Cx.B_some rfl]
  intro _ _;have Sv:cV (SF fs) K R1 (pK p) St w W1:=⟨e3.rel.inj,e3.rel.inj',e3.rel.lt,e3.rel.low,e3.rel.gle,e3.rel.cont,e3.rel.rest,e3.rel.st,e3.rel.np,e3.rel.tb⟩;have hle:R0.le R1:=zH.le.trans e3.le;exact hJ K R1 W1 _ ms' Shun Sv ((hm.mono hle).fin pT g3) (kK.mono hle) Af.sh Af.kp
end
end Go.Mt
namespace Go.Mt
open Go.Conc Go.Tt Go.RowKit Go.Conc.Lib Go.ConcR.Gen
open Go.ConcR (KK wgBlock WgAt stA smA rd wr mk Payload DC0)
variable [Payload]{Lk:WgLink}
section
variable {p:bZ}
theorem zA3 (H:WgLib p Lk)(Wg:Nat):Hm p Lk.wait #[.pointer (some ⟨Wg,0,none⟩)] .normal=(Jx Lk.wait).at ⟨#[.pointer (some ⟨Wg,0,none⟩),aA,aA,aA,aA,aA,aA,aA,aA,aA,aA,aA,aA,aA,aA,aA,aA,aA,aA,aA,aA,aA,aA,aA,aA,aA,aA,aA,aA,aA,aA,aA,aA,aA,aA,aA,aA,aA,aA,aA,aA,aA,aA,aA,aA,aA,aA,aA,aA,aA,aA,aA,aA,aA,aA,aA,aA,aA,aA,aA,aA,aA,aA,aA,aA,aA,aA,aA,aA,aA,aA,aA,aA,aA,aA,aA,aA,aA,aA,aA,aA,aA,aA,aA],[]⟩ [.code (Tx Lk)]:=by
 have h:=zxN (P:=p) (f:=Lk.wait) (fn:=waitFn Lk) (c:=Tx Lk) #[.pointer (some ⟨Wg,0,none⟩)] H.f_wait rfl;rw[h];have e:(waitFn Lk).ntmps=84:=rfl;rw[e]
 walk_nrm
theorem zGn (H:WgLib p Lk)(Wg:Nat):Hm p Lk.add #[.pointer (some ⟨Wg,0,none⟩),.int .i64 1] .normal=(Jx Lk.add).at ⟨#[.pointer (some ⟨Wg,0,none⟩),.int .i64 1,aA,aA,aA,aA,aA,aA,aA,aA,aA,aA,aA,aA,aA,aA,aA,aA,aA,aA,aA,aA,aA,aA,aA,aA,aA,aA,aA,aA,aA,aA,aA,aA,aA,aA,aA,aA,aA,aA,aA,aA,aA,aA,aA,aA,aA,aA,aA,aA,aA,aA,aA,aA,aA,aA,aA,aA,aA,aA,aA,aA,aA,aA,aA,aA,aA,aA,aA,aA,aA,aA,aA,aA,aA,aA,aA,aA,aA,aA,aA,aA,aA,aA,aA,aA,aA,aA,aA,aA,aA,aA,aA,aA,aA,aA,aA,aA,aA,aA,aA,aA,aA,aA,aA,aA,aA,aA,aA,aA,aA,aA,aA,aA,aA,aA,aA],[]⟩ [.code (N7 Lk)]:=by
 have h:=zxN (P:=p) (f:=Lk.add) (fn:=addFn Lk) (c:=N7 Lk) #[.pointer (some ⟨Wg,0,none⟩),.int .i64 1] H.f_add rfl;rw[h];have e:(addFn Lk).ntmps=117:=rfl;rw[e]
 walk_nrm
end
section
variable {L:Type}{C:Cx L}{l nx:L}{I0:Pr->cH->aE->Prop}
theorem zuE (hC:C.ty=Lk.tWg)(hX:IX Lk.tWg C.Wg I0){R:Pr}{τ:cH}{w:aE}(ht:vW τ R C.St):H0 Lk.tWg C.Wg τ (λW=>C.Rel R w W/\I0 R τ W):=by
 refine⟨λW W' s hF=>⟨zjW hF.1 ht (λa b x=>(hF.1.lt a b (.inr x)).2) s,hX.suf _ _ _ _ hF.2 s⟩,λW a v ha hF=>⟨?_,hX.cell _ _ _ _ _ hF.2 ha⟩⟩;exact cV.real hF.1 (λx b hx=>zbz W a v (by rw[ha];exact hX.rel _ _ _ hF.2 x b hx)) tD
theorem BO.add (H:WgLib C.p Lk)(ha:C.alone=none)(zei:C.main=true)(Cs:C.ty=Lk.tWg)(hI:fD C)(zf3:C.I=yY Lk.tWg C.Wg I0)(hX:IX Lk.tWg C.Wg I0){fn:aQ}{tmps:Array aF}{ops:Array aZ}{i:Nat}{rest:List Nat}{k:List dX}{w:aE}{o:aZ}{s:Tmp}{kJ:Array aM}
 (ho:ops[i]? =some o) (cE:dE o (dH ops tmps)=true) (hop:o.op=.call ⟨.value (.func Lk.add),#[.tmp s,.const (.int .i64 1)],kJ⟩) (Em:(s,.pointer (some ⟨C.Wg,0,none⟩))∈C.pin) (lE:∀s,o.dst=some s->s∉C.S) (rE:C.A.act l=.add nx)
 (h:BO C nx ⟨fn,(cC ⟨tmps,[]⟩ o.dst (.tuple #[])).tmps,.inRegion ops rest::k,false⟩ w):BO C l ⟨fn,tmps,.inRegion ops (i::rest)::k,false⟩ w:=by
 intro R W m' τ hw hm ht hi;obtain⟨fn',bV,zB,zJ⟩:=m';obtain rfl:=hm.fn;obtain rfl:=hm.todo;obtain rfl:=hm.ret;have vA:=Jr (C:=C) hm.tmps cE;have h5:=hm.pins _ Em;have hb:=C.ds.ok;rw[mX,Cx.B_none ha,zei,Cs];rw[zf3] at hi;have kf:=zuE (C:=C) (w:=w) Cs hX ht;have Fp:∀v,cC ⟨bV,C.ds.ds⟩ o.dst v=⟨(cC ⟨bV,[]⟩ o.dst v).tmps,C.ds.ds⟩:=λv=>by cases o.dst<;>rfl
 refine Nz rfl rfl (g':=G ((Jx Lk.add).at ⟨#[.pointer (some ⟨C.Wg,0,none⟩),.int .i64 1,aA,aA,aA,aA,aA,aA,aA,aA,aA,aA,aA,aA,aA,aA,aA,aA,aA,aA,aA,aA,aA,aA,aA,aA,aA,aA,aA,aA,aA,aA,aA,aA,aA,aA,aA,aA,aA,aA,aA,aA,aA,aA,aA,aA,aA,aA,aA,aA,aA,aA,aA,aA,aA,aA,aA,aA,aA,aA,aA,aA,aA,aA,aA,aA,aA,aA,aA,aA,aA,aA,aA,aA,aA,aA,aA,aA,aA,aA,aA,aA,aA,aA,aA,aA,aA,aA,aA,aA,aA,aA,aA,aA,aA,aA,aA,aA,aA,aA,aA,aA,aA,aA,aA,aA,aA,aA,aA,aA,aA,aA,aA,aA,aA,aA,aA],[]⟩ [.code (N7 Lk)]) ((C.ds.base fn).at ⟨bV,C.ds.ds⟩ (.inRegion ops (i::rest)::k)::C.base)) (λGx s2=>?_) λGx s2=>?_
 .obtain⟨x1,x2⟩:=zes (p:=C.p) (o:=o) hop (ρ:=(bJ bV C.ds.ds).eval) (λg=>rfl) H.f_add rfl rfl Gx
  have wK:(#[.tmp s,.const (.int .i64 1)]:Array cK).map (bJ bV C.ds.ds).eval=#[.pointer (some ⟨C.Wg,0,none⟩),.int .i64 1]:=by simp only[vD,gT,tW,wZ];rw[h5]
  rw[wK] at x1;have zaJ:=stepG_enter (main:=true) (b:=C.ds.base fn) (a:=⟨bV,C.ds.ds⟩) (rest:=rest) (cs:=C.base) (k:=k) ho vA hb x1;rw[zaJ];unfold wQ;rw[x2,Ax,zGn H]
 .refine addW (A:=C.A) (b₀:=C.ds.base fn) (a₀:=⟨bV,C.ds.ds⟩) (ops₀:=ops) (i₀:=i) (rest₀:=rest) (k₀:=k) (cs:=C.base) (Fin:=C.Fin) (l:=l) (nx:=nx) (Wg:=C.Wg) H rE kf (λW5 h5 zfF=>?_) Gx ⟨kf.suf _ _ s2 ⟨hw,hi.1⟩,s2.live hi.2⟩
  have hB:=h R W5 ⟨fn,(cC ⟨bV,[]⟩ o.dst (.tuple #[])).tmps,.inRegion ops rest::k,false⟩ τ h5.1 ⟨rfl,rfl,rfl,If (C:=C) hm.tmps (.tuple rfl λi v v' h=>by simp at h),J1 (C:=C) hm.pins lE⟩ ht (by rw[zf3];exact⟨h5.2,zfF⟩);rw[mX,Cx.B_none ha,zei,Cs] at hB;rw[ho];simp only[uY];rw[Fp];exact hB
end
section
variable {L:Type}{C:Cx L}{l nx lc:L}
structure znB (τ τm τc:cH)(pub:List Nat)(W:aE):Prop where
 own:∀b,τm.own b\/τc.own b->τ.own b
 still:∀b,τm.still b\/τc.still b->τ.still b\/τ.own b
 pass:∀b,τm.pass b\/τc.pass b->τ.pass b\/τ.own b\/τ.still b
 apart:∀b,τm.own b->¬τc.own b/\¬τc.still b/\¬τc.pass b
 apart':∀b,τc.own b->¬τm.still b/\¬τm.pass b
 pub:∀a∈pub,τ.own a/\Jf W a/\¬τm.own a/\¬τm.still a/\¬τc.own a/\¬τc.still a
theorem BO.go (ha:C.alone=none)(hI:fD C){fn:aQ}{tmps:Array aF}{ops:Array aZ}{i j:Nat}{rest:List Nat}{k:List dX}{w:aE}{o1 o2:aZ}{s:Tmp}{f:aQ}{G7:Array cK}{pub:List Nat}
 (y7:ops[i]? =some o1) (zcP:ops[j]? =some o2) (qN:o1.guard=none) (oO:o2.guard=none) (zpD:o1.op=.makeFunc (.func f) #[] G7) (Ru:o1.dst=some s) (zwg:o2.op=.go ⟨.value (.tmp s),#[],#[]⟩) (Bv:o2.dst=none) (rE:C.A.act l=.spawn pub lc nx) (hs:s<tmps.size)
 (h:∀(R:Pr) (W:aE) (bV:Array aF) (τ:cH),C.Rel R w W->bM (SF C.fs) C.K R tmps bV->(∀x∈C.pin,bV.getD x.1 aA=x.2)->vW τ R C.St->C.I R τ W->∃τm τc,znB τ τm τc pub W/\
  cD C.p C.ty C.Wg C.A C.Fin C.main (.usr nx) 0 τm (G ((C.ds.base fn).at ⟨bV.setIfInBounds s (.func (.func f) #[] (G7.map (bJ bV C.ds.ds).eval)),C.ds.ds⟩ (.inRegion ops rest::k)) C.base) W/\
  cD C.p C.ty C.Wg C.A C.Fin false (.usr lc) 0 τc (born C.p {target:=.fn (.func f) (G7.map (bJ bV C.ds.ds).eval),args:=#[]}) W):BO C l ⟨fn,tmps,.inRegion ops (i::j::rest)::k,false⟩ w:=by
 intro R W m' τ hw hm ht hi;obtain⟨fn',bV,zB,zJ⟩:=m';obtain rfl:=hm.fn;obtain rfl:=hm.todo;obtain rfl:=hm.ret;have hb:=C.ds.ok;rw[mX,Cx.B_none ha];have cM:=Nat.lt_of_lt_of_eq hs hm.tmps.1;obtain⟨zI8,zIT,type1,zyr,zpO,zJt⟩:=o1;obtain⟨zLv,zKT,type2,zwh,ztN,zJ8⟩:=o2;simp only at qN oO zpD zwg Ru Bv;subst qN oO zpD zwg Ru Bv;have wn:∀{o:aZ} {t:Array aF},o.guard=none->dE o (dH ops t)=true:=λh=>by unfold dE;rw[h]
 refine Nz rfl rfl (g':=G ((C.ds.base fn).at ⟨bV.setIfInBounds s (.func (.func f) #[] (G7.map (bJ bV C.ds.ds).eval)),C.ds.ds⟩ (.inRegion ops (j::rest)::k)) C.base) (λaX s1=>?_) λaX s1=>?_
 .have x1:(aO (bJ bV C.ds.ds).eval ⟨some s,.makeFunc (.func f) #[] G7,type1,zyr,zpO,none⟩).run C.p aX=.ok (.value (.func (.func f) #[] (G7.map (bJ bV C.ds.ds).eval))) aX:=by simp[aO,go_sem,zuM,pure,bL]
  have x2:(aO (bJ bV C.ds.ds).eval ⟨some s,.makeFunc (.func f) #[] G7,type1,zyr,zpO,none⟩).events C.p aX #[]=#[]:=by simp[aO,go_sem,zuM]
  rw[zhR y7 (wn rfl) hb x1];unfold wQ;rw[x2,Ax];rfl
 .refine cD.usr rfl ?_
  unfold mY;rw[rE];refine⟨rfl,λGx s2=>?_⟩;have s3:=s1.trans s2;obtain⟨τm,τc,hp,wJ,oR⟩:=h R Gx bV τ (hw.suf ht s3) hm.tmps hm.pins ht (hI.suf _ _ _ _ hi s3);refine⟨_,_,τm,τc,?_,rfl,rfl,hp.own,hp.still,hp.pass,hp.apart,hp.apart',hp.pub,wJ,oR⟩;have x0:(bJ (bV.setIfInBounds s (.func (.func f) #[] (G7.map (bJ bV C.ds.ds).eval))) C.ds.ds).eval (.tmp s)=.func (.func f) #[] (G7.map (bJ bV C.ds.ds).eval):=by
   simp[wZ,Array.getD_eq_getD_getElem?,cM]
  have x1:(aO (bJ (bV.setIfInBounds s (.func (.func f) #[] (G7.map (bJ bV C.ds.ds).eval))) C.ds.ds).eval ⟨none,.go ⟨.value (.tmp s),#[],#[]⟩,type2,zwh,ztN,none⟩).run C.p Gx=.ok (.spawn {target:=.fn (.func f) (G7.map (bJ bV C.ds.ds).eval),args:=#[]}) Gx:=by
   simp only[aO,resolve,x0];simp[Db,go_sem]
  have x2:(aO (bJ (bV.setIfInBounds s (.func (.func f) #[] (G7.map (bJ bV C.ds.ds).eval))) C.ds.ds).eval ⟨none,.go ⟨.value (.tmp s),#[],#[]⟩,type2,zwh,ztN,none⟩).events C.p Gx #[]=#[]:=by
   simp only[aO,resolve,x0];simp[Db,go_sem]
  rw[stepG_spawn zcP (wn rfl) hb x1 rfl];unfold wQ;rw[x2,Ax];rfl
end
end Go.Mt
namespace Go.Mt
open Go.Conc Go.Tt
open Go.ConcR (KK wgBlock WgAt stA smA rd wr mk Payload DC0)
inductive yJ (S:aQ->Prop)(K R:Pr):List aF->List aF->Prop
 |nil:yJ S K R [] []
 |cons {v v':aF} {l l':List aF}:VR S K R v v'->yJ S K R l l'->yJ S K R (v::l) (v'::l')
variable {S:aQ->Prop}{K R:Pr}{l l':List aF}
theorem yJ.len (h:yJ S K R l l'):l.length=l'.length:=by
 induction h with
 |nil=>rfl
 |cons _ _ ih=>simp[ih]
theorem yJ.get (h:yJ S K R l l'):∀(i:Nat) (v v':aF),l[i]? =some v->l'[i]? =some v'->VR S K R v v':=by
 induction h with
 |nil=>simp_all
 |cons a _ ih=>grind
theorem zwv (h:yJ S K R l l'):bM S K R l.toArray l'.toArray:=
 ⟨by simpa using h.len,λi v v' h1 h2=>h.get i v v' Wt Y2⟩
structure IM2 (W0:aE)(St:Nat->Prop)(Shun:Loc->Prop)(Wg:Nat)(SS:Nat->Prop)(R0:Pr)(Fz:Nat->Prop)(Wf:aE)(chs:List Nat)(R:Pr)(τ:cH)(W:aE):Prop where
 x:IMX W0 St Shun Wg SS R0 Fz Wf R τ W
 dis:∀b,τ.own b->¬τ.still b
 slt:∀b,τ.still b->b<W.heap.size
 ch:∀c∈chs,τ.own c/\Jf W c/\∀a,¬R a c
section
variable {W0:aE}{St:Nat->Prop}{Shun:Loc->Prop}{Wg:Nat}{SS:Nat->Prop}{R0:Pr}{Fz:Nat->Prop}{Wf:aE}{chs:List Nat}
def Jf.lt {W:aE}{c:Nat}(h:Jf W c):c<W.heap.size:=(eB.1 h).1
theorem zr8 {ty:aM}(vV:∀b,b<W0.heap.size->SS b)(hF:∀b,Fz b->SS b)(pB:W0.heap.size<=Wg):IX ty Wg (IM2 W0 St Shun Wg SS R0 Fz Wf chs):=by
 have hx:=zn9 (ty:=ty) (St:=St) (Shun:=Shun) (Wg:=Wg) (R0:=R0) (Wf:=Wf) vV hF pB;refine⟨λR τ W aX h s=>⟨hx.suf _ _ _ _ h.x s,h.dis,λb hb=>jO (h.slt b hb) s.size,λc hc=>?_⟩,λR τ W a v h ha=>⟨hx.cell _ _ _ _ _ h.x ha,h.dis,λb hb=>by rw[Rn];exact h.slt b hb,λc hc=>?_⟩,λR τ W d h=>⟨hx.at_ _ _ _ d h.x,h.dis,h.slt,h.ch⟩,λR τ W h=>h.x.im.rel⟩
 .obtain⟨h1,h2,h3⟩:=h.ch c hc
  exact⟨h1,(s.keep c (.inl h1)).trans h2,h3⟩
 .obtain⟨h1,h2,h3⟩:=h.ch c hc
  exact⟨h1,(zbz W a v (by rw[ha];exact h.x.im.own c h1)).trans h2,h3⟩
variable {L:Type}{C:Cx L}
theorem im2_ok (hC:C.I=yY C.ty C.Wg (IM2 W0 St Shun C.Wg SS R0 Fz Wf chs))(aY:∀a,St a->C.St a)(vV:∀b,b<W0.heap.size->SS b)(hF:∀b,Fz b->SS b)(pB:W0.heap.size<=C.Wg):fD C:=by
 have h0:=imx_ok (C:={C with I:=yY C.ty C.Wg (IMX W0 St Shun C.Wg SS R0 Fz Wf)}) rfl aY vV hF pB;have hx:=zr8 (ty:=C.ty) (St:=St) (Shun:=Shun) (R0:=R0) (Wf:=Wf) (chs:=chs) vV hF pB;refine⟨λR τ W aX h s=>?_,λR τ W R1 W1 h ht hs=>?_⟩<;>rw[hC] at*
 .exact⟨hx.suf _ _ _ _ h.1 s,s.live h.2⟩
 .obtain⟨k1,k2⟩:=h0.step R τ W R1 W1 ⟨h.1.x,h.2⟩ ht hs
  refine⟨⟨k1,λb hb Gs=>?_,λb hb=>jO (h.1.slt b hb) hs.size,λc hc=>?_⟩,k2⟩
  .rcases hb with hb|⟨hb,_⟩
   .exact h.1.dis b hb Gs
   .have:=h.1.slt b Gs;omega
  .obtain⟨h1,h2,h3⟩:=h.1.ch c hc
   refine⟨.inl h1,(hs.keep c h2.lt λa x=>absurd x (h3 a)).trans h2,λa x=>?_⟩;rcases hs.new a c x with y|⟨y,_⟩
   .exact h3 a y
   .have:=h2.lt;omega
variable {S:aQ->Prop}{K R:Pr}{G:Gp}{eI:Nat->Prop}{w W:aE}{τ:cH}{X:Nat->Bool}
def Hb (R:Pr)(St:Nat->Prop)(X:Nat->Bool)(b:Nat):Prop:=∃a,R a b/\(St a\/X a=true)
def tauP (R:Pr)(St:Nat->Prop)(W0:aE)(chs:List Nat):cH:=⟨λb=>(∃a,R a b/\¬St a)\/b∈chs,λb=>b<W0.heap.size\/∃a,R a b/\St a,λ_=>False⟩
def terra_p:vW (tauP R St W0 chs) R St:=λa b x=>⟨λh=>.inr ⟨a,x,h⟩,λh=>.inl ⟨a,x,h⟩⟩
end
end Go.Mt
namespace Go.Mt
open Go.Conc Go.Tt
open Go.ConcR (KK wgBlock WgAt stA smA rd wr)
section
variable {L:Type}{C:Cx L}{l l':L}
def Cx.upK (C:Cx L)(K':Pr)(I':Pr->cH->aE->Prop):Cx L:={C with K:=K',I:=I'}
variable {m:Fm}{w:aE}
theorem BO.note (ha:C.alone=none){can:L->Prop}(rE:C.A.act l=.note can)(hc:can l')(h:BO C l' m w):BO C l m w:=by
 intro R W m' τ hw hm ht hi;have:=h R W m' τ hw hm ht hi;rw[Cx.B_none ha] at this⊢;refine cD.usr rfl ?_;unfold mY
 grind
variable {S:aQ->Prop}{R:Pr}{St:Nat->Prop}
theorem cV.alR {K:Pr}{G:Gp}{W:aE}(h:cV S K R G St w W)(o:Obj):cV S K R G St w (W.alloc o):=by
 refine⟨h.inj,h.inj',λa b x=>⟨(h.lt a b x).1,by rw[uD];exact Nat.lt_succ_of_lt (h.lt a b x).2⟩,h.low,⟨h.gle.1,by rw[uD];exact Nat.le_succ_of_le h.gle.2⟩,λa b x=>?_,h.rest,h.st,h.np,h.tb⟩;obtain⟨o1,o2,h1,h2,h3⟩:=h.cont a b x;exact⟨o1,o2,h1,(Bt (h.lt a b (.inl x)).2).trans h2,h3⟩
variable {c:Nat}
theorem cV.setC {K:Pr}{G:Gp}{W:aE}(h:cV S K R G St w W)(hc:∀a,¬R a c)(cap:Nat)(Kt:Array aF)(cl:Bool)(s r:Nat)(tm:Bool):cV S K R G St w (W.setChan c cap Kt cl s r tm):=by
 have cM:(W.setChan c cap Kt cl s r tm).heap.size=W.heap.size:=by simp[Kw]
 refine⟨h.inj,h.inj',λa b x=>⟨(h.lt a b x).1,by rw[cM];exact(h.lt a b x).2⟩,h.low,⟨h.gle.1,by rw[cM];exact h.gle.2⟩,λa b x=>?_,h.rest,h.st,h.np,h.tb⟩;obtain⟨o1,o2,h1,h2,h3⟩:=h.cont a b x;refine⟨o1,o2,h1,?_,h3⟩;have aU:c≠b:=λe=>hc a (e▸x);simp only[Kw,tL aU];exact h2
def FmW.upK {m':Fm}(h:FmW C R m m'){K':Pr}(hK:C.K.le K')(I':Pr->cH->aE->Prop):FmW (C.upK K' I') R m m':=⟨h.fn,h.todo,h.ret,bM.monoK hK h.tmps,h.pins⟩
variable {fn:aQ}{tmps:Array aF}{ops:Array aZ}{i:Nat}{rest:List Nat}{k:List dX}{o:aZ}{e:aM}{dir:Rq}{ie:wE}{I':Nat->Pr->cH->aE->Prop}
theorem BO.makeK (hI:fD C){t:aM}(ho:ops[i]? =some o)(cE:dE o (dH ops tmps)=true)
 (hop:o.op=.makeChan t (.const (.int .i64 0))) (zfw:C.p.underlying t=some (.chan dir e)) (jY:C.p.info? e=some ie) (lE:∀s,o.dst=some s->s∉C.S) 
 (zkK:∀R τ W,C.I R τ W->vW τ R C.St->(∀a b,R a b->b<W.heap.size)->I' W.heap.size R (τ.grow W (W.alloc (.chan 0 #[] false 0 0 false))) (W.alloc (.chan 0 #[] false 0 0 false)))
 (h:∀c,BO (C.upK (C.K.add w.heap.size c) (I' c)) l ⟨fn,(cC ⟨tmps,[]⟩ o.dst (.chan (some w.heap.size))).tmps,.inRegion ops rest::k,false⟩ (w.alloc pF)):BO C l ⟨fn,tmps,.inRegion ops (i::rest)::k,false⟩ w:=by
 intro R W m' τ hw hm ht hi;obtain⟨fn',bV,zB,zJ⟩:=m';obtain rfl:=hm.fn;obtain rfl:=hm.todo;obtain rfl:=hm.ret;have hb:(C.ds.base fn).kind≠ .early:=C.ds.ok;have vA:=Jr (C:=C) hm.tmps cE;rw[mX];refine Cx.ownQ rfl λaX s=>?_;have dL:C.Rel R w aX:=Cx.Rel.suf (C:=C) hw ht s;have zH:=hI.suf _ _ _ _ hi s;have e1:(aO (bJ bV C.ds.ds).eval o).run C.p aX=.ok (.value (.chan (some aX.heap.size))) (aX.alloc (.chan 0 #[] false 0 0 false))/\(aO (bJ bV C.ds.ds).eval o).events C.p aX #[]=#[]:=by
  obtain⟨dst,yV,type,pos,after,guard⟩:=o;simp only at hop;subst hop;have hm:(Instr.makeChan t (.int .i64 0)).run C.p aX=_:=run_makeChan (P:=C.p) (w:=aX) zfw jY .i64 0 aC aC;have hv:=events_makeChan (P:=C.p) (w:=aX) zfw jY .i64 0 aC aC #[];exact⟨run_bv hm,ev_bv hm hv⟩
 have aY:=zhR (main:=C.main) (rest:=rest) (k:=k) (cs:=C.base) ho vA hb e1.1;unfold wQ at aY;rw[e1.2,Ax] at aY;refine⟨_,aX.alloc (.chan 0 #[] false 0 0 false),_,aY,rfl,⟨rfl,rfl,rfl,by rw[uD];omega,λb hb _=>Bt hb⟩,λe he=>by simp at he,?_⟩;have Fp:cC ⟨bV,C.ds.ds⟩ o.dst (.chan (some aX.heap.size))=⟨(cC ⟨bV,C.ds.ds⟩ o.dst (.chan (some aX.heap.size))).tmps,C.ds.ds⟩:=by cases o.dst<;>rfl
 rw[Fp,<-mX];have aS:∀a b,R.or C.K a b->b<aX.heap.size:=λa b x=>(dL.lt a b x).2;have eG:cV (SF C.fs) (C.K.add w.heap.size aX.heap.size) R (pK C.p) C.St (w.alloc pF) (aX.alloc (.chan 0 #[] false 0 0 false)):=cV.pushK (cV.alR dL _) (by rw[uD];omega) λa x=>by grind
 refine h aX.heap.size R _ ⟨fn,_,_,false⟩ _ eG ⟨rfl,rfl,rfl,If (C:=C.upK _ (I' aX.heap.size)) (bM.monoK (Pr.le_add _ _ _) hm.tmps) (.chan (.some (.inr (.inr ⟨rfl,rfl⟩)))),J1 (C:=C) hm.pins lE⟩ (λa b x=>⟨(ht a b x).1,λz=>.inl ((ht a b x).2 z)⟩) (zkK R τ aX zH ht λa b x=>aS a b (.inl x))
def cH.cut (τ:cH)(ps:List Nat):cH:={τ with own:=λb=>τ.own b/\b∉ps}
variable {I':Pr->cH->aE->Prop}{x:cK}{g:Nat}{okv:aF->Prop}{pub:aF->List Nat}
theorem BO.sendP (ha:C.alone=none)(hI:fD C){y:cK}{nx:aF->L}{ps:List Nat}
 (ho:ops[i]? =some o) (cE:dE o (dH ops tmps)=true) (hop:o.op=.send x y)
 (sK:dV C.fs x=true) (hx:(bJ tmps []).eval x=.chan (some g)) (hK:C.K g c) (En:dV C.fs y=true) (lE:∀s,o.dst=some s->s∉C.S) (rE:C.A.act l=.send c okv pub nx)
 (hv:∀R W v',C.Rel R w W->VR (SF C.fs) C.K R ((bJ tmps []).eval y) v'->okv v'/\pub v'=ps/\nx v'=l') 
 (qI:∀R τ W,C.I R τ W->(∀a∈ps,τ.own a/\¬τ.still a/\Jf W a/\∀b,¬R b a)/\I' R (τ.cut ps) W)
 (h1:BO (C.upK C.K I') l' ⟨fn,(cC ⟨tmps,[]⟩ o.dst aA).tmps,.inRegion ops rest::k,false⟩ w):BO C l ⟨fn,tmps,.inRegion ops (i::rest)::k,false⟩ w:=by
 intro R W m' τ hw hm ht hi;obtain⟨fn',bV,zB,zJ⟩:=m';obtain rfl:=hm.fn;obtain rfl:=hm.todo;obtain rfl:=hm.ret;have lX:(bJ bV C.ds.ds).eval x=.chan (some c):=Xp hw hK (hx▸Ho (C:=C) hm.tmps sK);have vA:=Jr (C:=C) hm.tmps cE;have hb:(C.ds.base fn).kind≠ .early:=C.ds.ok;obtain⟨k1,k2,k3⟩:=hv R W _ hw (Ho (C:=C) (d:=C.ds.ds) hm.tmps En);obtain⟨p1,p2⟩:=qI R τ W hi;rw[mX,Cx.B_none ha];refine cD.usr rfl ?_;unfold mY;rw[rE];refine⟨rfl,_,.tuple #[],τ.cut ps,λaJ s=>?_,k1,λb h=>h.1,rfl,λb h=>.inl h,(λa ha=>?_),?_⟩
 .obtain⟨e1,e2⟩:=zpW (p:=C.p) (ρ:=(bJ bV C.ds.ds).eval) hop lX rfl aJ
  rw[stepG_comm ho vA hb e1];unfold wQ;rw[e2,Ax]
 .rw[k2] at ha
  obtain⟨q1,q2,q3,_⟩:=p1 a ha;exact⟨q1,λe=>e.2 ha,q2,q3⟩
 .rw[k3,zbT ho]
  rw[<-Cx.B_none ha];refine h1 R W _ (τ.cut ps) hw ⟨rfl,rfl,rfl,If (C:=C) hm.tmps yA,J1 (C:=C) hm.pins lE⟩ (λa b x=>⟨(ht a b x).1,λz=>⟨(ht a b x).2 z,λhb=>(p1 b hb).2.2.2 a x⟩⟩) p2
theorem BO.recvK (ha:C.alone=none)(hI:fD C){ct:aM}{ok:Bool}{z:aF}{nx:aF->L}{sh:L}
 (ho:ops[i]? =some o) (cE:dE o (dH ops tmps)=true) (hop:o.op=.recv ct x ok) (Fo:C.p.underlying ct=some (.chan dir e)) (jY:C.p.info? e=some ie) (hz:ie.zero=some z) (znC:∀R,VR (SF C.fs) C.K R z z)
 (sK:dV C.fs x=true) (hx:(bJ tmps []).eval x=.chan (some g)) (hK:C.K g c) (lE:∀s,o.dst=some s->s∉C.S) (rE:C.A.act l=.recv c okv nx sh)
 (h1:∀v,okv v->∃a,a∈C.A.got l v/\∀K' ga w',C.K.le K'->K' ga a->(w'=w\/w'=w.alloc pF)->∃vg,(∀R,VR (SF C.fs) K' R vg v)/\BO (C.upK K' C.I) (nx v) ⟨fn,(cC ⟨tmps,[]⟩ o.dst (recvd ok vg true)).tmps,.inRegion ops rest::k,false⟩ w')
 (h2:C.A.cl l->BO C sh ⟨fn,(cC ⟨tmps,[]⟩ o.dst (recvd ok z false)).tmps,.inRegion ops rest::k,false⟩ w):BO C l ⟨fn,tmps,.inRegion ops (i::rest)::k,false⟩ w:=by
 intro R W m' τ hw hm ht hi;obtain⟨fn',bV,zB,zJ⟩:=m';obtain rfl:=hm.fn;obtain rfl:=hm.todo;obtain rfl:=hm.ret;have lX:(bJ bV C.ds.ds).eval x=.chan (some c):=Xp hw hK (hx▸Ho (C:=C) hm.tmps sK);have vA:=Jr (C:=C) hm.tmps cE;have hb:(C.ds.base fn).kind≠ .early:=C.ds.ok;have zdh:∀K' vg v' b,VR (SF C.fs) K' R vg v'->VR (SF C.fs) K' R (recvd ok vg b) (recvd ok v' b):=λK' vg v' b h=>by
  unfold recvd
  cases ok with
  |false=>exact h
  |true=>
   simp only[if_true];exact VR.tuple' (by
    have:=bM.empty (S:=SF C.fs) (K:=K') (R:=R);exact(this.push h).push (.bool b))
 rw[mX,Cx.B_none ha];refine cD.usr rfl ?_;unfold mY;rw[rE];refine⟨rfl,z,ok,λaJ s=>?_,λv hv aJ s hg=>?_,λmU=>?_⟩
 .obtain⟨e1,e2⟩:=zuZ (p:=C.p) (ρ:=(bJ bV C.ds.ds).eval) hop Fo jY hz lX aJ
  rw[stepG_comm ho vA hb e1];unfold wQ;rw[e2,Ax]
 .obtain⟨a,zFz,hB⟩:=h1 v hv
  obtain⟨a1,a2,a3⟩:=hg a zFz;have dL:C.Rel R w aJ:=Cx.Rel.suf (C:=C) hw ht s;have zH:=hI.suf _ _ _ _ hi s;have go:∀K' ga w',C.K.le K'->K' ga a->(w'=w\/w'=w.alloc pF)->cV (SF C.fs) K' R (pK C.p) C.St w' aJ->cD C.p C.ty C.Wg C.A C.Fin C.main (.usr (nx v)) 0 τ (Conc.served (G ((C.ds.base fn).at ⟨bV,C.ds.ds⟩ (.inRegion ops (i::rest)::k)) C.base) (recvd ok v true)) aJ:=λK' ga w' hle zaI jT hr=>by
   obtain⟨vg,zjc,zDC⟩:=hB K' ga w' hle zaI jT;rw[zbT ho,<-Cx.B_none ha];exact zDC R aJ _ τ hr ⟨rfl,rfl,rfl,If (C:=C.upK K' C.I) (bM.monoK hle hm.tmps) (zdh K' _ _ _ (zjc R)),J1 (C:=C) hm.pins lE⟩ ht zH
  have hR:∀b,¬R b a:=λb x=>by
   by_cases hs:C.St b
   .exact a3 ((ht b a x).1 hs)
   .exact a2 ((ht b a x).2 hs)
  by_cases hk:∃b,C.K b a
  .obtain⟨b,bU⟩:=hk
   exact go C.K b w (λ_ _ x=>x) bU (.inl rfl) dL
  .exact go (C.K.add w.heap.size a) w.heap.size (w.alloc pF) (Pr.le_add _ _ _) (.inr ⟨rfl,rfl⟩) (.inr rfl) (cV.pushK dL a1 λb x=>x.elim (hR b) λy=>hk ⟨b,y⟩)
 .rw[zbT ho,<-Cx.B_none ha]
  exact h2 mU R W _ τ hw ⟨rfl,rfl,rfl,If (C:=C) hm.tmps (zdh _ _ _ _ (znC R)),J1 (C:=C) hm.pins lE⟩ ht hi
theorem BO.close (ha:C.alone=none)(hI:fD C){tx:Tmp}{kJ:Array aM}{nx:L}{fnf:Func}
 (ho:ops[i]? =some o) (cE:dE o (dH ops tmps)=true) (hop:o.op=.call {callee:=.builtin .close,args:=#[.tmp tx],argTypes:=kJ}) (hx:(bJ tmps []).eval (.tmp tx)=.chan (some g)) (hK:C.K g c) (lE:∀s,o.dst=some s->s∉C.S) (rE:C.A.act l=.close c nx)
 (hf:C.p.funcs[fn]? =some fnf) (Cz:fnf.norace=false)
 (hp:∀R τ W,C.I R τ W->τ.pass c/\¬τ.own c/\¬τ.still c/\∀s r,C.I R τ (W.setChan c 0 #[] true s r false))
 (h1:BO C nx ⟨fn,(cC ⟨tmps,[]⟩ o.dst (.tuple #[])).tmps,.inRegion ops rest::k,false⟩ w):BO C l ⟨fn,tmps,.inRegion ops (i::rest)::k,false⟩ w:=by
 intro R W m' τ hw hm ht hi;obtain⟨fn',bV,zB,zJ⟩:=m';obtain rfl:=hm.fn;obtain rfl:=hm.todo;obtain rfl:=hm.ret;have lX:(bJ bV C.ds.ds).eval (.tmp tx)=.chan (some c):=Xp hw hK (hx▸Ho (C:=C) (x:=.tmp tx) hm.tmps rfl);have Ah:bV[tx]?.getD aA=.chan (some c):=by simpa[wZ] using lX
 have vA:=Jr (C:=C) hm.tmps cE;have hb:(C.ds.base fn).kind≠ .early:=C.ds.ok;obtain⟨p1,p2,p3,_⟩:=hp R τ W hi;rw[mX,Cx.B_none ha];refine cD.usr rfl ?_;unfold mY;rw[rE];refine⟨?_,p1,λaJ s s' r' hc=>?_⟩
 .obtain⟨dst,yV,type,pos,after,guard⟩:=o
  simp only at hop;subst hop;simp[mayWake,G,dR.at,bD.frame,ho,Dk.base]
 .have e1:(aO (bJ bV C.ds.ds).eval o).run C.p aJ=.ok (.value (.tuple #[])) (aJ.setChan c 0 #[] true s' r' false)/\(aO (bJ bV C.ds.ds).eval o).events C.p aJ #[]=closeEvents c:=by
   obtain⟨dst,yV,type,pos,after,guard⟩:=o;simp only at hop;subst hop;constructor
   .simp[aO,go_sem,resolve,Ah,invoke,run_close_open _ _ hc,Kw]
   .simp[aO,go_sem,resolve,Ah,invoke,events_close_open _ _ hc,closeEvents]
  have aY:=zhR (main:=C.main) (rest:=rest) (k:=k) (cs:=C.base) ho vA hb e1.1;have hl:wQ C.p (C.ds.base fn).fn ⟨bV,C.ds.ds⟩ o aJ=closeEvents c:=by
   unfold wQ;rw[e1.2];refine seen_eq ?_ ?_
   .show(C.p.funcs[fn]?).any (·.norace)=false
    rw[hf];simp[Cz]
   .intro e he f
    simp only[closeEvents,List.mem_toArray,mD,nE,or_false] at he
    grind
  rw[hl] at aY;refine⟨_,aY,rfl,?_⟩;have dL:C.Rel R w aJ:=Cx.Rel.suf (C:=C) hw ht s;have zH:=hI.suf _ _ _ _ hi s;have hR:∀b,¬R b c:=λb x=>by
   by_cases hs:C.St b
   .exact p3 ((ht b c x).1 hs)
   .exact p2 ((ht b c x).2 hs)
  have Fp:cC ⟨bV,C.ds.ds⟩ o.dst (.tuple #[])=⟨(cC ⟨bV,C.ds.ds⟩ o.dst (.tuple #[])).tmps,C.ds.ds⟩:=by cases o.dst<;>rfl
  rw[Fp,<-mX,<-Cx.B_none ha];exact h1 R _ ⟨fn,_,_,false⟩ τ (cV.setC dL hR _ _ _ _ _ _) ⟨rfl,rfl,rfl,If (C:=C) hm.tmps (VR.tuple' .empty),J1 (C:=C) hm.pins lE⟩ ht ((hp R τ aJ zH).2.2.2 s' r')
end
end Go.Mt
namespace Go.Mt
open Go.Conc Go.Tt Go.RowKit Go.Conc.Lib Go.ConcR.Gen
open Go.ConcR (KK wgBlock WgAt stA smA rd wr mk Payload DC0)
structure IQ (W0:aE)(St:Nat->Prop)(Shun:Loc->Prop)(Wg:Nat)(SS:Nat->Prop)(R0:Pr)(Fz:Nat->Prop)(Wf:aE)(qs chs:List Nat)(R:Pr)(τ:cH)(W:aE):Prop where
 x:IM2 W0 St Shun Wg SS R0 Fz Wf chs R τ W
 pass:∀c∈qs,τ.pass c/\¬τ.own c/\¬τ.still c/\c<W.heap.size/\c≠Wg
section
variable {W0:aE}{St:Nat->Prop}{Shun:Loc->Prop}{Wg:Nat}{SS:Nat->Prop}{R0:Pr}{Fz:Nat->Prop}{Wf:aE}{qs chs:List Nat}
theorem zga {ty:aM}(vV:∀b,b<W0.heap.size->SS b)(hF:∀b,Fz b->SS b)(pB:W0.heap.size<=Wg):IX ty Wg (IQ W0 St Shun Wg SS R0 Fz Wf qs chs):=by
 have hx:=zr8 (ty:=ty) (St:=St) (Shun:=Shun) (Wg:=Wg) (R0:=R0) (Wf:=Wf) (chs:=chs) (Fz:=Fz) vV hF pB;refine⟨λR τ W aX h s=>⟨hx.suf _ _ _ _ h.x s,λc hc=>?_⟩,λR τ W a v h ha=>⟨hx.cell _ _ _ _ _ h.x ha,λc hc=>?_⟩,λR τ W d h=>⟨hx.at_ _ _ _ d h.x,h.pass⟩,λR τ W h=>h.x.x.im.rel⟩
 .obtain⟨h1,h2,h3,h4,h5⟩:=h.pass c hc
  exact⟨h1,h2,h3,jO h4 s.size,h5⟩
 .obtain⟨h1,h2,h3,h4,h5⟩:=h.pass c hc
  simp_all
variable {L:Type}{C:Cx L}
theorem znp (hC:C.I=yY C.ty C.Wg (IQ W0 St Shun C.Wg SS R0 Fz Wf qs chs))(aY:∀a,St a->C.St a)(vV:∀b,b<W0.heap.size->SS b)(hF:∀b,Fz b->SS b)(pB:W0.heap.size<=C.Wg):fD C:=by
 have h0:=im2_ok (C:={C with I:=yY C.ty C.Wg (IM2 W0 St Shun C.Wg SS R0 Fz Wf chs)}) rfl aY vV hF pB;have hx:=zga (ty:=C.ty) (St:=St) (Shun:=Shun) (R0:=R0) (Fz:=Fz) (Wf:=Wf) (qs:=qs) (chs:=chs) vV hF pB;refine⟨λR τ W aX h s=>?_,λR τ W R1 W1 h ht hs=>?_⟩<;>rw[hC] at*
 .exact⟨hx.suf _ _ _ _ h.1 s,s.live h.2⟩
 .obtain⟨k1,k2⟩:=h0.step R τ W R1 W1 ⟨h.1.x,h.2⟩ ht hs
  refine⟨⟨k1,λc hc=>?_⟩,k2⟩;obtain⟨h1,h2,h3,h4,h5⟩:=h.1.pass c hc;exact⟨h1,λe=>e.elim h2 λy=>by omega,h3,jO h4 hs.size,h5⟩
variable {R:Pr}{τ:cH}{W:aE}
theorem zum (h:IQ W0 St Shun Wg SS R0 Fz Wf qs chs R τ W)(aS:∀a b,R a b->b<W.heap.size):
 IQ W0 St Shun Wg SS R0 Fz Wf qs (W.heap.size::chs) R (τ.grow W (W.alloc (.chan 0 #[] false 0 0 false))) (W.alloc (.chan 0 #[] false 0 0 false)):=by
 have sz:(W.alloc (.chan 0 #[] false 0 0 false)).heap.size=W.heap.size+1:=uD _ _;have zES:=h.x.x.im.wg;refine⟨⟨⟨⟨⟨h.x.x.im.kp.os,h.x.x.im.kp.tape,h.x.x.im.kp.output,by rw[sz];have:=h.x.x.im.kp.size;omega,λb hb=>(Bt (by have:=h.x.x.im.kp.size;omega)).trans (h.x.x.im.kp.block b hb),h.x.x.im.kp.old⟩,⟨h.x.x.im.sh.old,h.x.x.im.sh.rel,λl b hl hb=>h.x.x.im.sh.new l b hl (by rw[sz] at hb;omega)⟩,h.x.x.im.still,by rw[sz];omega,λb hb=>?_,h.x.x.im.rel⟩,h.x.x.le,λb hb=>by
  obtain⟨l1,l2,l3,l4⟩:=h.x.x.fz b hb;exact⟨by rw[sz];omega,(Bt l1).trans l2,λe=>e.elim l3 λy=>by omega,l4⟩⟩,λb hb hs=>?_,λb hb=>by have:=h.x.slt b hb;rw[sz];omega,λc hc=>?_⟩,λc hc=>?_⟩
 .rcases hb with hb|⟨hb,_⟩
  .exact h.x.x.im.own b hb
  .omega
 .rcases hb with hb|⟨hb,_⟩
  .exact h.x.dis b hb hs
  .have:=h.x.slt b hs;omega
 .rcases mD.1 hc with rfl|hc
  .exact⟨.inr ⟨bF _,by rw[sz];omega⟩,Dd _ _,λa x=>by grind⟩
  .obtain⟨h1,h2,h3⟩:=h.x.ch c hc
   exact⟨.inl h1,(Bt h2.lt).trans h2,h3⟩
 .obtain⟨h1,h2,h3,h4,h5⟩:=h.pass c hc
  exact⟨h1,λe=>e.elim h2 λy=>by omega,h3,by rw[sz];omega,h5⟩
theorem iq_cut {c:Nat}(h:IQ W0 St Shun Wg SS R0 Fz Wf qs [c] R τ W):(∀a∈[c],τ.own a/\¬τ.still a/\Jf W a/\∀b,¬R b a)/\IQ W0 St Shun Wg SS R0 Fz Wf qs [] R (τ.cut [c]) W:=by
 refine⟨λa ha=>?_,⟨⟨⟨⟨h.x.x.im.kp,h.x.x.im.sh,h.x.x.im.still,h.x.x.im.wg,λb hb=>h.x.x.im.own b hb.1,h.x.x.im.rel⟩,h.x.x.le,λb hb=>let⟨l1,l2,l3,l4⟩:=h.x.x.fz b hb;⟨l1,l2,λe=>l3 e.1,l4⟩⟩,λb hb hs=>h.x.dis b hb.1 hs,h.x.slt,λc hc=>by cases hc⟩,λc hc=>?_⟩⟩
 .obtain⟨h1,h2,h3⟩:=h.x.ch a ha
  exact⟨h1,λhs=>h.x.dis a h1 hs,h2,h3⟩
 .obtain⟨h1,h2,h3⟩:=h.pass c hc
  exact⟨h1,λe=>h2 e.1,h3⟩
theorem zH1 (h:IQ W0 St Shun Wg SS R0 Fz Wf qs chs R τ W){c:Nat}(hc:c∈qs)(s r:Nat)(aY:∀b,b<W0.heap.size->SS b)(hF:∀b,Fz b->SS b):IQ W0 St Shun Wg SS R0 Fz Wf qs chs R τ (W.setChan c 0 #[] true s r false):=by
 have sz:(W.setChan c 0 #[] true s r false).heap.size=W.heap.size:=by simp[Kw]
 have ne:∀b,b≠c->(W.setChan c 0 #[] true s r false).heap[b]? =W.heap[b]? :=λb hb=>by simp only[Kw];grind
 obtain⟨p1,p2,p3,p4,p5⟩:=h.pass c hc;refine⟨⟨⟨⟨⟨h.x.x.im.kp.os,h.x.x.im.kp.tape,h.x.x.im.kp.output,by rw[sz];exact h.x.x.im.kp.size,λb hb=>(ne b λe=>?_).trans (h.x.x.im.kp.block b hb),h.x.x.im.kp.old⟩,⟨h.x.x.im.sh.old,h.x.x.im.sh.rel,λl b hl hb=>h.x.x.im.sh.new l b hl (by rw[sz] at hb;exact hb)⟩,h.x.x.im.still,by rw[sz];exact h.x.x.im.wg,h.x.x.im.own,h.x.x.im.rel⟩,h.x.x.le,λb hb=>by
  obtain⟨l1,l2,l3,l4⟩:=h.x.x.fz b hb;refine⟨by rw[sz];exact l1,(ne b λe=>?_).trans l2,l3,l4⟩;subst e;exact p3 (by rw[h.x.x.im.still];exact hF b hb)⟩,h.x.dis,λb hb=>by rw[sz];exact h.x.slt b hb,λa ha=>?_⟩,λa ha=>by rw[sz];exact h.pass a ha⟩
 .subst e
  exact p3 (by rw[h.x.x.im.still];exact aY b hb)
 .obtain⟨h1,h2,h3⟩:=h.x.ch a ha
  exact⟨h1,(ne a λe=>p2 (e▸h1)).trans h2,h3⟩
def L0 (τ:cH)(R:Pr)(X:Nat->Bool)(N:Nat)(qs:List Nat):cH:=⟨λb=>τ.own b/\b≠N/\¬∃a,R a b/\X a=true,λb=>τ.still b\/∃a,R a b/\X a=true,λb=>b∈qs++[N]⟩
def Wo (τ:cH)(R:Pr)(X:Nat->Bool):cH:=⟨λ_=>False,λb=>τ.still b\/∃a,R a b/\X a=true,λ_=>False⟩
variable {S:aQ->Prop}{K:Pr}{G:Gp}{eI:Nat->Prop}{w:aE}{X:Nat->Bool}{N:Nat}
theorem parts_q (hT:vW τ R eI)(h:IQ W0 St Shun Wg SS R0 Fz Wf qs [N] R τ W):znB τ (L0 τ R X N qs) (Wo τ R X) [N] W:=by
 have hx:∀b,(∃a,R a b/\X a=true)->τ.still b\/τ.own b:=λb ⟨a,h,_⟩=>by
  by_cases hs:eI a
  .exact .inl ((hT a b h).1 hs)
  .exact .inr ((hT a b h).2 hs)
 obtain⟨n1,n2,n3⟩:=h.x.ch N (yX.2 rfl);refine⟨λb hb=>?_,λb hb=>?_,λb hb=>?_,λb hb=>⟨id,?_,id⟩,λb hb=>hb.elim,λa ha=>?_⟩
 .rcases hb with hb|hb
  .exact hb.1
  .exact hb.elim
 .rcases hb with(hb|hb)|hb|hb
  .exact .inl hb
  .exact hx b hb
  .exact .inl hb
  .exact hx b hb
 .rcases hb with hb|hb
  .rcases K3.1 hb with hb|hb
   .exact .inl (h.pass b hb).1
   simp_all
  .exact hb.elim
 .rintro(hs|hs)
  .exact h.x.dis b hb.1 hs
  .exact hb.2.2 hs
 .obtain rfl:=yX.1 ha
  refine⟨n1,n2,λh=>h.2.1 rfl,?_,id,?_⟩
  .rintro(hs|⟨g,hg,_⟩)
   .exact h.x.dis a n1 hs
   .exact n3 g hg
  .rintro(hs|⟨g,hg,_⟩)
   .exact h.x.dis a n1 hs
   .exact n3 g hg
theorem zFW (hw:cV S K R G eI w W)(hT:vW τ R eI)(hN:∀a,¬R a N):vW (L0 τ R X N qs) R (λa=>eI a\/X a=true):=λa b x=>by
 refine⟨λh=>?_,λh=>?_⟩
 .rcases h with h|h
  .exact .inl ((hT a b x).1 h)
  .exact .inr ⟨a,x,h⟩
 .refine⟨(hT a b x).2 λhs=>h (.inl hs),λe=>hN a (e▸x),?_⟩
  rintro⟨a',x',h'⟩;obtain rfl:=hw.inj' a a' b (.inl x) (.inl x');exact h (.inr h')
def zHN:vW (Wo τ R X) (rX R X) (λa=>X a=true):=λa b x=>⟨λh=>.inr ⟨a,x.1,x.2⟩,λh=>absurd x.2 h⟩
theorem iq_qm (hw:cV S K R G eI w W)(hT:vW τ R eI)(h:IQ W0 St Shun Wg SS R0 Fz Wf qs [N] R τ W):IQ W0 St Shun Wg (L0 τ R X N qs).still R (Hb R eI X) W (qs++[N]) [] R (L0 τ R X N qs) W:=by
 obtain⟨n1,n2,n3⟩:=h.x.ch N (yX.2 rfl);have hx:∀b,(∃a,R a b/\X a=true)->∀c∈qs,b≠c:=λb ⟨a,h',_⟩ c hc e=>by
  subst e;obtain⟨_,p2,p3,_⟩:=h.pass b hc;by_cases hs:eI a
  .exact p3 ((hT a b h').1 hs)
  .exact p2 ((hT a b h').2 hs)
 refine⟨⟨⟨⟨h.x.x.im.kp,h.x.x.im.sh,rfl,h.x.x.im.wg,λb hb=>h.x.x.im.own b hb.1,h.x.x.im.rel⟩,.refl R,λb hb=>by
  obtain⟨a,x,hh⟩:=hb;refine⟨(hw.lt a b (.inl x)).2,rfl,λho=>?_,h.x.x.im.rel a b x⟩;rcases hh with hh|hh
  .exact h.x.dis b ho.1 ((hT a b x).1 hh)
  .exact ho.2.2 ⟨a,x,hh⟩⟩,λb hb hs=>?_,λb hb=>?_,λc hc=>by cases hc⟩,λc hc=>?_⟩
 .rcases hs with hs|hs
  .exact h.x.dis b hb.1 hs
  .exact hb.2.2 hs
 .rcases hb with hb|⟨a,x,_⟩
  .exact h.x.slt b hb
  .exact(hw.lt a b (.inl x)).2
 .refine⟨hc,?_⟩
  rcases K3.1 hc with kO|kO
  .obtain⟨_,p2,p3,p4,p5⟩:=h.pass c kO
   exact⟨λe=>p2 e.1,λe=>e.elim p3 λy=>hx c y c kO rfl,p4,p5⟩
  .obtain rfl:=yX.1 kO
   refine⟨λe=>e.2.1 rfl,?_,n2.lt,h.x.x.im.own c n1⟩;rintro(hs|⟨g,hg,_⟩)
   .exact h.x.dis c n1 hs
   .exact n3 g hg
def tauWm (τ:cH):cH:=⟨λ_=>False,τ.still,λ_=>False⟩
theorem parts_w (h:IQ W0 St Shun Wg SS R0 Fz Wf qs [] R τ W):znB τ (tauWm τ) τ [] W:=
 ⟨λb hb=>hb.elim (λx=>x.elim) id,λb hb=>.inl (hb.elim id id),λb hb=>hb.elim (λx=>x.elim) .inl,λb hb=>hb.elim,λb hb=>⟨λhs=>h.x.dis b hb hs,id⟩,λa ha=>by cases ha⟩
end
section
variable [Payload]{Lk:WgLink}
variable {L:Type}{C:Cx L}{l:L}{I0:Pr->cH->aE->Prop}
theorem BO.doneD (H:WgLib C.p Lk)(ha:C.alone=none)(zei:C.main=false)(Cs:C.ty=Lk.tWg)(zf3:C.I=yY Lk.tWg C.Wg I0)(hX:IX Lk.tWg C.Wg I0)(zHi:C.ds=⟨[dcall Lk.done #[.pointer (some ⟨C.Wg,0,none⟩)]],.deferred,aN⟩)(r8:C.base=[wV C.p])
 {f:aQ} {fn:Func} (hf:C.p.funcs[f]? =some fn) (hr:fn.results=#[]) (rE:C.A.act l=.done) {T:Array aF} {todo:List dX} {w:aE} (uG:∀R τ W,C.Rel R w W->I0 R τ W->C.A.dep l W):BO C l ⟨f,T,todo,true⟩ w:=by
 intro R W m' τ hw hm ht hi;obtain⟨fn',T',zB,zJ⟩:=m';obtain rfl:=hm.fn;obtain rfl:=hm.todo;obtain rfl:=hm.ret;rw[zf3] at hi;have kf:=zuE (C:=C) (w:=w) Cs hX ht;rw[zjy,Cx.B_none ha,zei,Cs,zHi,r8];refine Nz rfl rfl (λaX s=>stepG_unwind_enter rfl H.f_done (nm_done Lk) rfl) λaX s=>?_;exact doneW (F:=λW=>C.Rel R w W/\I0 R τ W) (Fin:=C.Fin) H rE kf (λW' h=>uG R τ W' h.1 h.2) (c:={(baseD f).at ⟨T',[]⟩ todo with mode:=.returning}) (cs:=[wV C.p]) rfl (zHK hf hr T' todo) aX ⟨kf.suf _ _ s ⟨hw,hi.1⟩,s.live hi.2⟩
end
variable [Payload]{Lk:WgLink}
section
variable {L:Type}{p:bZ}{A:jM L}{Fin:bD->aE->Prop}{Wg:Nat}{l:L}
theorem zGk (H:WgLib p Lk)(rE:A.act l=.wait)(No:∀(n:Nat) g w,Goes p true AtRel DC0 Fin n g w->Fin g w){fn:aQ}{T:Array aF}{zGJ ops:Array aZ}{id s:Nat}{o:aZ}{kJ:Array aM}{tail:Code}{base:List dR}{τ:cH}{W:aE}
 (zlE:ops=#[o]) (hg:o.guard=none) (hop:o.op=.call ⟨.value (.func Lk.wait),#[.tmp s],kJ⟩) (hs:T.getD s aA=.pointer (some ⟨Wg,0,none⟩)) (nG:WgLive Lk.tWg Wg W)
 (h:∀Wn d,zco A Wn->Fin (G ((Dk.nil.base fn).at ⟨(cC ⟨T,[]⟩ o.dst (.tuple #[])).tmps,[]⟩ [.inRegion ops [],.code tail]) base) (Wn.at d)):
 cD p Lk.tWg Wg A Fin true (.usr l) 0 τ (G ((Dk.nil.base fn).at ⟨T,[]⟩ (.inRegion zGJ []::[.code (.seq (.region id ops false) tail)])) base) W:=by
 subst zlE;have ho:(#[o]:Array aZ)[0]? =some o:=rfl;have cE:dE o (dH #[o] T)=true:=by unfold dE;rw[hg]
 have hb:=Dk.nil.ok;have Fp:∀v,cC ⟨T,[]⟩ o.dst v=⟨(cC ⟨T,[]⟩ o.dst v).tmps,[]⟩:=λv=>by cases o.dst<;>rfl
 have hr:iQ (#[o]:Array aZ).size=[0]:=rfl;refine Nz rfl rfl (λaX s1=>stepG_region_end) λW1 s1=>?_;refine Nz rfl rfl (λaX s1=>stepG_seq) λW2 s2=>?_;refine Nz rfl rfl (λaX s1=>stepG_region) λW3 s3=>?_;rw[hr];refine Nz rfl rfl (g':=G ((Jx Lk.wait).at ⟨#[.pointer (some ⟨Wg,0,none⟩),aA,aA,aA,aA,aA,aA,aA,aA,aA,aA,aA,aA,aA,aA,aA,aA,aA,aA,aA,aA,aA,aA,aA,aA,aA,aA,aA,aA,aA,aA,aA,aA,aA,aA,aA,aA,aA,aA,aA,aA,aA,aA,aA,aA,aA,aA,aA,aA,aA,aA,aA,aA,aA,aA,aA,aA,aA,aA,aA,aA,aA,aA,aA,aA,aA,aA,aA,aA,aA,aA,aA,aA,aA,aA,aA,aA,aA,aA,aA,aA,aA,aA,aA],[]⟩ [.code (Tx Lk)]) ((Dk.nil.base fn).at ⟨T,[]⟩ (.inRegion #[o] [0]::[.code tail])::base)) (λGx s4=>?_) λGx s4=>?_
 .obtain⟨x1,x2⟩:=zes (p:=p) (o:=o) hop (ρ:=(bJ T []).eval) (λg=>rfl) H.f_wait rfl rfl Gx
  have wK:(#[.tmp s]:Array cK).map (bJ T []).eval=#[.pointer (some ⟨Wg,0,none⟩)]:=by simp only[vD,gT,tW,wZ];rw[hs]
  rw[wK] at x1;have zaJ:=stepG_enter (main:=true) (b:=Dk.nil.base fn) (a:=⟨T,[]⟩) (rest:=[]) (cs:=base) (k:=[.code tail]) ho cE hb x1;rw[zaJ];unfold wQ;rw[x2,Ax,zA3 H]
 .have kf:=H0.triv Lk.tWg Wg τ
  refine Rg (A:=A) (b₀:=Dk.nil.base fn) (a₀:=⟨T,[]⟩) (ops₀:=#[o]) (i₀:=0) (rest₀:=[]) (k₀:=[.code tail]) (cs:=base) (Fin:=Fin) (l:=l) (Wg:=Wg) H rE kf No (λWn _ _ hD d=>?_) Gx ⟨trivial,s4.live (s3.live (s2.live (s1.live nG)))⟩;have:=h Wn d hD;rw[ho];simp only[uY];rw[Fp];exact this
end
end Go.Mt
namespace Go.Mt
open Go.Conc Go.Tt
open Go.ConcR (KK wgBlock WgAt stA smA rd wr)
structure qA where
 p:bZ
 gs:aQ->Bool
 fs:aQ->Bool
 ty:aM
 Wg:Nat
 N:Nat
 W:List fK
 D:aE->Prop
 Fin:bD->aE->Prop
 St:Nat->Prop
 W0:aE
 StI:Nat->Prop
 Shun:Loc->Prop
 SS:Nat->Prop
 R0:Pr
 Fz:Nat->Prop
 Wf:aE
 qs:List Nat
def qA.I (d:qA)(Q:Pr->Prop)(chs:List Nat):Pr->cH->aE->Prop:=λR τ W=>yY d.ty d.Wg (IQ d.W0 d.StI d.Shun d.Wg d.SS d.R0 d.Fz d.Wf d.qs chs) R τ W/\Q R
def qA.cx (d:qA)(K:Pr)(Q:Pr->Prop)(chs:List Nat)(base:List dR)(ds:Dk)(pin:List (Nat×aF)):Cx gN:=
 {p:=d.p,gs:=d.gs,fs:=d.fs,ty:=d.ty,Wg:=d.Wg,A:=C3 d.N d.W d.D,Fin:=d.Fin,main:=false,base:=base,ds:=ds,K:=K,St:=d.St,I:=d.I Q chs,pin:=pin}
def Up (Q:Pr->Prop):Prop:=∀R R':Pr,R.le R'->Q R->Q R'
structure qA.Ok (d:qA):Prop where
 st:∀a,d.StI a->d.St a
 ss:∀b,b<d.W0.heap.size->d.SS b
 fz:∀b,d.Fz b->d.SS b
 low:d.W0.heap.size<=d.Wg
 fit:wC (PS d.p d.gs) d.fs
theorem qA.sub_eq (d:qA)(K:Pr)(Q:Pr->Prop)(chs:List Nat)(base:List dR)(ds:Dk)(pin:List (Nat×aF))(m':Fm)(oM:Pr):
 (d.cx K Q chs base ds pin).sub m' oM=d.cx K (λR=>Q R/\oM.le R) chs (fx [] ds m'::base) .nil []:=by
 have e:(λR τ W=>d.I Q chs R τ W/\oM.le R)=d.I (λR=>Q R/\oM.le R) chs:=by
  funext R τ W;exact propext and_assoc
 unfold Cx.sub qA.cx;simp only;rw[e]
def Up.and {Q:Pr->Prop}(h:Up Q)(oM:Pr):Up (λR=>Q R/\oM.le R):=λR R' hl hq=>⟨h R R' hl hq.1,hq.2.trans hl⟩
section
variable {d:qA}{K:Pr}{Q:Pr->Prop}{chs:List Nat}{base:List dR}{ds:Dk}{pin:List (Nat×aF)}
theorem qA.Ok.iok (H:d.Ok)(hQ:Up Q):fD (d.cx K Q chs base ds pin):=by
 have h0:=znp (C:={d.cx K Q chs base ds pin with I:=yY d.ty d.Wg (IQ d.W0 d.StI d.Shun d.Wg d.SS d.R0 d.Fz d.Wf d.qs chs)}) rfl H.st H.ss H.fz H.low;exact⟨λR τ W aX h s=>⟨h0.suf R τ W aX h.1 s,h.2⟩,λR τ W R1 W1 h ht hs=>⟨h0.step R τ W R1 W1 h.1 ht hs,hQ R R1 hs.le h.2⟩⟩
structure WS where
 chs:List Nat
 K:Pr
 l:gN
 T:Array aF
 w:aE
def qA.bo (d:qA)(Q:Pr->Prop)(base:List dR)(s:WS)(f:aQ)(kk:List dX)(ret:Bool):Prop:=BO (d.cx s.K Q s.chs base .nil []) s.l ⟨f,s.T,kk,ret⟩ s.w
def CW (d:qA)(B:List Nat)(f:aQ)(c:Code)(s:WS)(Φ:oF->WS->Prop):Prop:=
 ∀(Q:Pr->Prop) (base:List dR) (kk:List dX),Up Q->(∀id∈B,∃k2,exitTo id kk=some k2)->(∀s',s.K.le s'.K->Φ .normal s'->d.bo Q base s' f kk false)->(∀id k2 s',s.K.le s'.K->exitTo id kk=some k2->Φ (.exit id) s'->d.bo Q base s' f k2 false)->
  (∀s' todo,s.K.le s'.K->Φ .ret s'->d.bo Q base s' f todo true)->d.bo Q base s f (.code c::kk) false
def CR (d:qA)(f:aQ)(ops:Array aZ)(is:List Nat)(s:WS)(Φ:WS->Prop):Prop:=
 ∀(Q:Pr->Prop) (base:List dR) (kk:List dX),Up Q->(∀s',s.K.le s'.K->Φ s'->d.bo Q base s' f kk false)->d.bo Q base s f (.inRegion ops is::kk) false
def xS (K:Pr):K.le K:=λ_ _ x=>x
def wX {K K' zpK:Pr}(h:K.le K')(h':K'.le zpK):K.le zpK:=λ_ _ x=>h' _ _ (h _ _ x)
variable {f:aQ}{s:WS}{Φ Ψ:oF->WS->Prop}{B:List Nat}{c:Code}
def CW.skip (H:d.Ok)(h:Φ .normal s):CW d B f .skip s Φ:=λQ base kk hQ hB h1 h2 h3=>BO.skip (H.iok hQ) (h1 s (xS _) h)
def CW.ret (H:d.Ok)(h:Φ .ret s):CW d B f .ret s Φ:=λQ base kk hQ hB h1 h2 h3=>BO.ret (H.iok hQ) (h3 s _ (xS _) h)
def CW.seq (H:d.Ok){a b:Code}(h:CW d B f a s (λe s'=>match e with| .normal=>CW d B f b s' Φ|e=>Φ e s')):CW d B f (.seq a b) s Φ:=λQ base kk hQ hB h1 h2 h3=>
 BO.seq (H.iok hQ) (h Q base (.code b::kk) hQ (λid hid=>hB id hid) (λs' l x=>x Q base kk hQ hB (λs2 l2=>h1 s2 (wX l l2)) (λid k2 s2 l2=>h2 id k2 s2 (wX l l2)) (λs2 todo l2=>h3 s2 todo (wX l l2)))
  (λid k2 s' l e x=>h2 id k2 s' l e x) (λs' todo l x=>h3 s' todo l x))
def CW.cond (H:d.Ok){x:cK}{a b:Code}{t:Bool}(hx:dV d.fs x=true)(hc:(bJ s.T []).eval x=.bool t)(h:CW d B f (if t then a else b) s Φ):CW d B f (.cond x a b) s Φ:=λQ base kk hQ hB h1 h2 h3=>
 BO.cond (H.iok hQ) hx hc (h Q base kk hQ hB h1 h2 h3)
theorem CW.exit (H:d.Ok){id:Nat}(oY:id∈B)(h:Φ (.exit id) s):CW d B f (.exit id) s Φ:=λQ base kk hQ hB h1 h2 h3=>by
 obtain⟨k2,e⟩:=hB id oY;exact BO.exit (H.iok hQ) e (h2 id k2 s (xS _) e h)
theorem CW.block (H:d.Ok){id:Nat}(h:CW d (id::B) f c s (λe s'=>match e with| .normal=>Φ .normal s'| .exit i=>if i=id then Φ .normal s' else Φ (.exit i) s'|e=>Φ e s')):CW d B f (.block id c) s Φ:=λQ base kk hQ hB h1 h2 h3=>by
 refine BO.block (H.iok hQ) (h Q base (.inBlock id::kk) hQ (λi hi=>?_) (λs' l x=>BO.inBlock (H.iok hQ) (h1 s' l x)) (λi k2 s' l e x=>?_) (λs' todo l x=>h3 s' todo l x))
 .by_cases e:i=id
  .subst e;exact⟨kk,by simp[exitTo]⟩
  .rcases mD.1 hi with hi|hi
   .exact absurd hi e
   .obtain⟨k2,h2⟩:=hB i hi
    exact⟨k2,by simp only[exitTo];rw[if_neg sU];exact h2⟩
 .simp only[exitTo] at e
  by_cases e1:i=id
  .simp_all
  .grind
theorem CW.loop (H:d.Ok)(Inv:Nat->WS->Prop)(vQ:∀n s,Inv n s->CW d B f c s (λe s'=>match e with| .normal=>∃n',n'<n/\Inv n' s'|e=>Φ e s')){n:Nat}(h0:Inv n s):CW d B f (.loop c) s Φ:=λQ base kk hQ hB h1 h2 h3=>by
 refine BO.loop (H.iok hQ) ?_;have key:∀n s2,s.K.le s2.K->Inv n s2->d.bo Q base s2 f (.code c:: .inLoop c::kk) false:=by
  intro n
  induction n using Nat.strongRecOn with
  |ind n ih=>
   intro s2 hl hi;refine vQ n s2 hi Q base (.inLoop c::kk) hQ (λid hid=>hB id hid) (λs' l x=>?_) (λid k2 s' l e x=>h2 id k2 s' (wX hl l) e x) (λs' todo l x=>h3 s' todo (wX hl l) x);obtain⟨n',aS,lU⟩:=x;exact BO.inLoop (H.iok hQ) (ih n' aS s' (wX hl l) lU)
 exact key n s (xS _) h0
def CW.piece (H:d.Ok)(hc:pX d.p ⟨d.fs,d.gs,true⟩ c=true)(hf:wF d.p f)(uQ:∀T,Code.wp d.p c (λe a' w'=>e=.normal/\Φ .normal {s with T:=a'.tmps,w:=w'}) ⟨s.T,[]⟩ (Tt.tp s.w T 0)):CW d B f c s Φ:=λQ base kk hQ hB h1 h2 h3=>
 BO.piece H.fit (H.iok hQ) hc hf (zD9 c hc) λT=>Code.wp_mono (λe a' w' h=>⟨h.1,h1 {s with T:=a'.tmps,w:=w'} (xS _) h.2⟩) (uQ T)
def CW.reg (H:d.Ok){id:Nat}{ops:Array aZ}(is:List Nat)(hr:iQ ops.size=is)(h:CR d f ops is s (λs'=>Φ .normal s')):CW d B f (.region id ops false) s Φ:=λQ base kk hQ hB h1 h2 h3=>
 BO.regs (H.iok hQ) is hr (h Q base kk hQ (λs' l x=>h1 s' l x))
section
variable {ops:Array aZ}{i:Nat}{rest is:List Nat}{Φ:WS->Prop}{o:aZ}
def CR.nil (H:d.Ok)(h:Φ s):CR d f ops [] s Φ:=λQ base kk hQ h1=>BO.regEnd (H.iok hQ) (h1 s (xS _) h)
theorem CR.op (H:d.Ok)(ho:ops[i]? =some o)(cE:dE o (dH ops s.T)=true)(bS:rY d.p ⟨d.fs,d.gs,true⟩ o.op=true)
 (hx:∀T,∃v w',((aO (bJ s.T []).eval o).run d.p (Tt.tp s.w T 0)=.ok (.value v) w'\/((aO (bJ s.T []).eval o).run d.p (Tt.tp s.w T 0)=.ok .skip w'/\v=aA))/\CR d f ops rest {s with T:=(cC ⟨s.T,[]⟩ o.dst v).tmps,w:=w'} Φ):CR d f ops (i::rest) s Φ:=λQ base kk hQ h1=>
 BO.op H.fit (H.iok hQ) ho cE bS (λ_ _=>nE) λT=>by
  obtain⟨v,w',e,h⟩:=hx T;exact⟨v,w',e,h Q base kk hQ h1⟩
structure CF (d:qA)(g:aQ)(args:Array aF)(K:Pr)(l:gN)(w:aE)(Ψ:Pr->gN->aF->aE->Prop):Prop where
 ex:∃fnf cf,d.p.funcs[g]? =some fnf/\(fnf.name== "runtime.NumGoroutine")=false/\fnf.body=some cf/\Gr fnf.results.toList/\
  CW d [] g cf ⟨[],K,l,args++Array.replicate (fnf.ntmps-args.size) aA,w⟩ (λe s'=>(e=.normal\/e=.ret)/\s'.chs=[]/\∃v,(oG fnf.results.toList s'.T).run d.p s'.w=.ok v s'.w/\Ψ s'.K s'.l v s'.w)
theorem CR.call (H:d.Ok){g:aQ}{args:Array cK}{kJ:Array aM}{Ψ:Pr->gN->aF->aE->Prop}(ho:ops[i]? =some o)(cE:dE o (dH ops s.T)=true)(hop:o.op=.call ⟨.value (.func g),args,kJ⟩)(wK:args.all (dV d.fs)=true)(uF:s.chs=[])
 (hc:CF d g (args.map (bJ s.T []).eval) s.K s.l s.w Ψ) (hk:∀K' l' v w',s.K.le K'->Ψ K' l' v w'->CR d f ops rest ⟨[],K',l',(cC ⟨s.T,[]⟩ o.dst v).tmps,w'⟩ Φ):CR d f ops (i::rest) s Φ:=λQ base kk hQ h1=>by
 obtain⟨chs,K,l,T,w⟩:=s;simp only at*;subst uF;obtain⟨fnf,cf,g1,g2,g3,g4,g5⟩:=hc.ex;refine BO.callN (H.iok hQ) ho cE hop (Callee.static _ _) wK g1 g2 g3 g4 λoM m' hm=>?_;rw[qA.sub_eq];have fin:∀(s':WS) todo,K.le s'.K->(s'.chs=[]/\∃v,(oG fnf.results.toList s'.T).run d.p s'.w=.ok v s'.w/\Ψ s'.K s'.l v s'.w)->d.bo (λR=>Q R/\oM.le R) (fx [] .nil m'::base) s' g todo true:=λs' todo hl ⟨h2,v,h3,h4⟩=>by
  obtain⟨zId,K',l',T',w'⟩:=s';simp only at*;subst h2;unfold qA.bo;simp only;rw[<-qA.sub_eq];refine BO.retN (C:=d.cx K' Q [] base .nil []) (H.iok hQ) (hm.upK hl _) rfl rfl (λ_ _=>nE) g1 h3 ?_;have:=hk K' l' v w' hl h4 Q base kk hQ (λs' l2 x=>h1 s' (wX hl l2) x);unfold qA.bo at this;simp only[Fm.fin,ho,uY]
  cases hd:o.dst with
  |none=>rw[hd] at this;exact this
  |some s=>rw[hd] at this;exact this
 have e:(#[]:Array aF)++args.map (bJ T []).eval++ #[]=args.map (bJ T []).eval:=aN;rw[e];refine g5 (λR=>Q R/\oM.le R) (fx [] .nil m'::base) [] (hQ.and oM) (λ_ h=>by cases h) (λs' hl x=>BO.fall (H.iok (hQ.and oM)) (fin s' [] hl x.2)) (λid k2 s' hl ee x=>by cases ee) (λs' todo hl x=>fin s' todo hl x.2)
variable {e:aM}{dir:Rq}{ie:wE}
theorem CR.make (H:d.Ok){t:aM}(ho:ops[i]? =some o)(cE:dE o (dH ops s.T)=true)(hop:o.op=.makeChan t (.const (.int .i64 0)))(zfw:d.p.underlying t=some (.chan dir e))(jY:d.p.info? e=some ie)(uF:s.chs=[])
 (h:∀c,CR d f ops rest ⟨[c],s.K.add s.w.heap.size c,s.l,(cC ⟨s.T,[]⟩ o.dst (.chan (some s.w.heap.size))).tmps,s.w.alloc pF⟩ Φ):CR d f ops (i::rest) s Φ:=λQ base kk hQ h1=>by
 obtain⟨chs,K,l,T,w⟩:=s;simp only at*;subst uF;refine BO.makeK (H.iok hQ) ho cE hop zfw jY (λ_ _=>nE) (I':=λc=>d.I Q [c]) (λR τ W hi ht aS=>?_) λc=>h c Q base kk hQ (λs' l2 x=>h1 s' (wX (Pr.le_add _ _ _) l2) x);obtain⟨⟨hi,hl⟩,hq⟩:=hi;refine⟨⟨zum hi aS,?_⟩,hq⟩;obtain⟨st,sm,hx⟩:=hl;have lX:=hx;exact⟨st,sm,(Bt (eB.1 lX).1).trans lX⟩
variable {x:cK}{anz:Int}
theorem CR.ask (H:d.Ok){y:cK}{k q g a ga:Nat}{kd cl:Int}(ho:ops[i]? =some o)(cE:dE o (dH ops s.T)=true)(hop:o.op=.send x y)(sK:dV d.fs x=true)(En:dV d.fs y=true)(hl:s.l=.wk d.qs k)(hW:d.W[k]? =some (.ask q kd cl anz))(uF:s.chs=[a])
 (hx:(bJ s.T []).eval x=.chan (some g)) (hg:s.K g (qa d.qs q)) (hy:(bJ s.T []).eval y=.agg #[.int .i64 kd,.int .i64 cl,.chan (some ga)]) (ha:s.K ga a)
 (h:CR d f ops rest ⟨[],s.K,.wr d.qs k a,(cC ⟨s.T,[]⟩ o.dst aA).tmps,s.w⟩ Φ):CR d f ops (i::rest) s Φ:=λQ base kk hQ h1=>by
 obtain⟨chs,K,l,T,w⟩:=s;simp only at*;subst uF hl;refine BO.sendP (C:=d.cx K Q [a] base .nil []) rfl (H.iok hQ) ho cE hop sK hx hg En (λ_ _=>nE) (c:=qa d.qs q) (okv:=λv=>∃a,v=quV kd cl a) (pub:=Qj) (nx:=Wb d.qs k) (ps:=[a]) (I':=d.I Q []) ?_ (λR W v' hw hv=>?_) (λR τ W hi=>?_) (h Q base kk hQ h1)
 .show eO d.N d.W (.wk d.qs k)=_
  simp only[eO,hW]
 .rw[hy] at hv
  obtain rfl:v'=quV kd cl a:=by
   cases hv with
   |agg e1 e2=>
    rename_i b8;obtain⟨l'⟩:=b8
    match l',e1 with
    |[v0,v1,v2],_=>
     have h0:=e2 0 _ v0 rfl rfl;have h1:=e2 1 _ v1 rfl rfl;have h2:=e2 2 _ v2 rfl rfl;have h3:=Xp hw ha h2;cases h0;cases h1;subst h3;rfl
  exact⟨⟨a,rfl⟩,rfl,rfl⟩
 .obtain⟨⟨hi,hl⟩,hq⟩:=hi
  obtain⟨k1,k2⟩:=iq_cut hi;exact⟨k1,⟨k2,hl⟩,hq⟩
theorem CR.ans (H:d.Ok){ct:aM}{k q a ga:Nat}{kd cl:Int}(ho:ops[i]? =some o)(cE:dE o (dH ops s.T)=true)(hop:o.op=.recv ct x false)(Fo:d.p.underlying ct=some (.chan dir e))(jY:d.p.info? e=some ie)(hz:ie.zero=some (.int .i64 0))
 (sK:dV d.fs x=true) (hl:s.l=.wr d.qs k a) (hW:d.W[k]? =some (.ask q kd cl anz)) (uF:s.chs=[]) (hx:(bJ s.T []).eval x=.chan (some ga)) (ha:s.K ga a)
 (h:CR d f ops rest ⟨[],s.K,.wk d.qs (k+1),(cC ⟨s.T,[]⟩ o.dst (.int .i64 anz)).tmps,s.w⟩ Φ):CR d f ops (i::rest) s Φ:=λQ base kk hQ h1=>by
 obtain⟨chs,K,l,T,w⟩:=s;simp only at*;subst uF hl;refine BO.recv (C:=d.cx K Q [] base .nil []) rfl (H.iok hQ) ho cE hop Fo jY hz (λ_=>.int _ _) sK hx ha (λ_ _=>nE) (okv:=Zg d.W k) (nx:=λ_=>.wk d.qs (k+1)) (sh:=.oD) rfl (λv hv=>?_) (λhc=>hc.elim);unfold Zg at hv;rw[hW] at hv;simp only at hv;subst hv;exact⟨.int .i64 anz,λ_=>.int _ _,h Q base kk hQ h1⟩
theorem CR.shut (H:d.Ok){tx:Tmp}{kJ:Array aM}{k q g:Nat}{fnf:Func}(ho:ops[i]? =some o)(cE:dE o (dH ops s.T)=true)(hop:o.op=.call {callee:=.builtin .close,args:=#[.tmp tx],argTypes:=kJ})(hf:d.p.funcs[f]? =some fnf)(Cz:fnf.norace=false)
 (hl:s.l=.wk d.qs k) (hW:d.W[k]? =some (.shut q)) (hq:q<d.qs.length) (uF:s.chs=[]) (hx:(bJ s.T []).eval (.tmp tx)=.chan (some g)) (hg:s.K g (qa d.qs q))
 (h:CR d f ops rest ⟨[],s.K,.wk d.qs (k+1),(cC ⟨s.T,[]⟩ o.dst (.tuple #[])).tmps,s.w⟩ Φ):CR d f ops (i::rest) s Φ:=λQ base kk hQ h1=>by
 obtain⟨chs,K,l,T,w⟩:=s;simp only at*;subst uF hl;have hm:qa d.qs q∈d.qs:=by
  unfold qa;rw[List.getD_eq_getElem?_getD,mV hq];exact zrU hq
 refine BO.close (C:=d.cx K Q [] base .nil []) rfl (H.iok hQ) ho cE hop hx hg (λ_ _=>nE) (c:=qa d.qs q) (nx:=.wk d.qs (k+1)) ?_ hf Cz (λR τ W hi=>?_) (h Q base kk hQ h1)
 .show eO d.N d.W (.wk d.qs k)=_
  simp only[eO,hW]
 .obtain⟨⟨hi,hl⟩,N1⟩:=hi
  obtain⟨p1,p2,p3,p4,p5⟩:=hi.pass _ hm;refine⟨p1,p2,p3,λs r=>⟨⟨zH1 hi hm s r H.ss H.fz,?_⟩,N1⟩⟩;obtain⟨st,sm,hx⟩:=hl;have lX:=hx;refine⟨st,sm,?_⟩;show(W.setChan _ _ _ _ _ _ _).heap[d.Wg]? =_;simp only[Kw,tL p5];exact lX
end
end
end Go.Mt
