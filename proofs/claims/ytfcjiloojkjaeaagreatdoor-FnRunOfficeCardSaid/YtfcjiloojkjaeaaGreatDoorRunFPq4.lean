/-
  Part 4 of what stands behind the last text.
-/
import Derived.Lib.SlicesDelete
import Derived.Test.YtfcjiloojkjaeaaGreatDoorShelf
import Derived.Test.YtfcjiloojkjaeaaGreatDoorRunFPq3
set_option linter.all false
set_option maxHeartbeats 16000000
set_option maxRecDepth 100000
open Array renaming getElem?_eq_some_iff→dR,getElem?_mapIdx→Ny,getElem?_setIfInBounds_ne→sO,getElem?_toList→C3,getElem_map→ziK,getElem_range→znw,getElem_toList→zjo,length_toList→Ef,toList_modify→ztu
open Bool renaming and_eq_true→iT,eq_iff_iff→Ng,or_eq_true→C4
open Go renaming Act→uL,Addr→bC,Calls→fJ,ChanDir→Nq,Deferred→Gw,Exit→oP,FuncId→aO,MapEntry→pD,Oper→aX,Operand→cJ,Program→bT,TypeId→aN,Value→aF,World→aE,bodyPost_ret→nN,execOp→aS,heap_alloc_new→gV,info_parts→C6,run_append_room→zsP,run_storeCells_at→zvR,run_underlying→xM,setRow_heap→Mk,size_zeroCells→Yw,undef→aA,wpList_plain→Tu
open Go.Act renaming eval→wJ,mk→bE,put→b7
open Go.Addr renaming add_lit→Ml
open Go.Builtin renaming append_→xG,clear_→Sc,copy_→Ep,delete_→Lt,zeroCells→qM
open Go.Code renaming region→F5
open Go.Conc renaming base→Lu,enter_at→zv0,seen_none→Cz
open Go.ConcR.Gen renaming body_add→N7
open Go.Deferred renaming ofValue→Dh
open Go.Frame renaming enter→Eu
open Go.Instr renaming checkKey→Hn,findAsking→Mb,findKey→Lc,findNow→H7,keyThatStays→Qr,lookup→Ac,makeFunc→zrm,mapUpdate→Hp,sameBits→zbB,sameNow→wN
open Go.MapKept renaming run_getObj_map→Wo,run_setObj_map→Zd
open Go.MemAct renaming ofEvent→jI,touch?→rY
open Go.Op renaming mapUpdate→zp9,maxDepth→Sl
open Go.Oper renaming wp→C5
open Go.Proofs.Tryz renaming checked→uB,func114→ztb,func117→zo8,func119→zux,ntmps114→zqM,ntmps117→zrV,ntmps119→zsT,prog→aK,results40→ze4,underlying26→zaN,underlying38→Wv,underlying66→zvP,underlying69→zmT
open Go.Region renaming wanted→cO
open Go.Result renaming andThen→uR,andThen_ok→E9,ok→wP
open Go.RowKit renaming Below→bY
open Go.RowKit.Below renaming heap_alloc→sV,heap_setCell→dU,refl→fK
open Go.Sem renaming getObj→zsL,run→bK,run_bind→F7,run_pure→J1
open Go.Value renaming agg→znU,cells→Vx,slice→Sg
open Go.World renaming cell?_of_block→Bg,news_of_block→Gl,size_setCell→wR
open Int renaming le_refl→Z4
open List renaming all_eq_true→vA,any_eq_true→zdO,append_assoc→Ix,append_nil→Mw,countP_cons→zvz,drop_drop→zt6,drop_eq_getElem_cons→zg2,filter_append→Pp,filter_eq_nil_iff→zq7,filter_eq_self→zgs,find?_eq_none→zfY,find?_some→zkT,foldl_cons→Pb,getD_cons_succ→Es,getD_cons_zero→En,getElem?_drop→Xg,getElem?_eq_getElem→nI,getElem?_eq_some_iff→l8,getElem?_set→zdu,getElem?_take→Oe,length_append→jZ,length_cons→wL,length_drop→x5,length_eq_zero_iff→zvB,length_modify→Lj,length_nil→zF,length_set→zjk,length_take→qO,map_append→Uo,map_cons→jD,map_nil→sC,map_toArray→tJ,mem_append→Ju,mem_cons→lV,mem_cons_of_mem→Uj,mem_filter→Jo,mem_iff_getElem→P8,mem_iff_getElem?→Io,mem_map→zaL,mem_of_find?_eq_some→ziV,mem_of_getElem?→fI,mem_of_mem_drop→zdl,mem_range→Da,modify→zcm,nodup_append→znE,nodup_cons→Gx,nodup_nil→Sf,range→fV,setIfInBounds_toArray→gF,set_append_left→zuI,set_cons_succ→dX,set_cons_zero→dY,size_toArray→Ev,take_add_one→Lr,take_append_drop→zrU,take_append_of_le_length→Ff,take_of_length_le→zV,take_take→Pw
open List.Nodup renaming sublist→zyM
open List.Sublist renaming map→zCI
open Nat renaming add_mul→Xu,add_zero→Rp,le_max_left→zvf,le_refl→bL,le_trans→eG,lt_irrefl→Jk,lt_of_lt_of_le→j5,min_self→zis,mod_two_eq_zero_or_one→zyJ,mul_le_mul_right→Cf,mul_one→zsq,zero_le→mK
open Option.some renaming inj→cH,injEq→jS
open Prod renaming fst→vN,snd→ztM
noncomputable section
namespace Go
theorem cZ{P:Prop}(h:P:=by unfold parts;simp[e]):P:=h
theorem zgi{P:Prop}(h:P:=by simp[Act.eval,Act.put];first|exact⟨by simpa using hA,by omega⟩|simpa[zg0] using hA|(simp at hA;simp[hA])):P:=h
theorem zez{P:Prop}(h:P:=by simp[Act.eval,Act.put]):P:=h
theorem Y2{P:Prop}(h:P:=by rw[hf];simp):P:=h
theorem zv9{P:Prop}(h:P:=by rw[jZ,l1,tH];have:=Xu i (n-j) 1;omega):P:=h
theorem zsW{P:Prop}(h:P:=by rw[jZ,l1,tH];have:=Xu i (n-j) 2;omega):P:=h
theorem zdV{P:Prop}(h:P:=by unfold parts;simp):P:=h
theorem zl7{P:Prop}(h:P:=by have:=h.size;omega):P:=h
end Go
namespace Go.Proofs.YtfcjiloojkjaeaaGreatDoor
open Go.RowKit
structure RInv (b:cC):Prop where
 off:mY b.o=true
 clk:0<=b.clk
 nodup:(b.wait.map bN.c).Nodup
 hasrec:∀x∈b.wait,(iS b.recs x.c).isSome=true
 recB:∀d∈b.recs,1<=d.c/\d.c<=99/\1<=d.l/\d.l<=6/\0<=d.o/\d.o<=4/\0<=d.f/\d.f<=b.clk
 waitB:∀x∈b.wait,1<=x.c/\x.c<=99
 backB:∀x∈b.back,1<=x.c/\x.c<=99
structure Ln (b:cC)(k:Nat):Prop where
 clk:b.clk<=60*k
 nrec:b.recs.length<=k
 nw:b.wait.length<=k
 nb:b.back.length<=60*k
 nl:b.log.length=k
variable {b:cC}{k:Nat}
theorem RInv.good (h:RInv b)(c:Ln b k)(hk:k<=60):zoA b:=
 ⟨
  ⟨h.off,by have:=c.nrec;omega,by have:=c.nw;omega,by have:=c.nb;omega,by have:=c.nl;omega,⟨h.clk,by have:=c.clk;omega⟩⟩,⟨h.hasrec,h.waitB⟩,h.nodup,h.backB,
  λd hd=>by have:=h.recB d hd;have:=c.clk;omega⟩
variable {o:fP}
theorem RInv.zero (h:mY o=true):RInv (mU o):=⟨h,Z4 _,Sf,λx hx=>(by cases hx),λd hd=>(by cases hd),λx hx=>(by cases hx),λx hx=>(by cases hx)⟩
def Ln.zero (o:fP):Ln (mU o) 0:=⟨Z4 _,bL _,bL _,bL _,rfl⟩
variable {xs:List bN}{q:Int}{x:bN}
theorem Ds (h:x∈dZ xs q):x∈xs/\x.c≠q:=by
 unfold dZ at h;simp_all
def zgx (h:(xs.map bN.c).Nodup):((dZ xs q).map bN.c).Nodup:=
 zyM (zCI _ List.filter_sublist) h
variable {rs:List bV}{i:Nat}{f:bV->bV}{z:bV}
theorem Sr (h:z∈rs.modify i f):∃d∈rs,z=d\/z=f d:=by
 obtain⟨j,hj⟩:=Io.1 h;rw[List.getElem?_modify] at hj;rcases zam:rs[j]? with _|y
 .simp_all
 .grind
variable {c:Int}
theorem zxK {qs:List bV}(h:(iS rs c).isSome=true):(iS (rs++qs) c).isSome=true:=by
 rw[zcV] at*;simp_all
theorem zHl (hf:∀d,(f d).c=d.c/\(f d).e=d.e)(h:(iS rs c).isSome=true):(iS (rs.modify i f) c).isSome=true:=by
 rw[zcV,zdO] at*;obtain⟨x,hx,hp⟩:=h;obtain⟨j,hj,e⟩:=P8.1 hx;have y3:Bb c (f x)=true:=by unfold Bb eL at*;rw[(hf x).1,(hf x).2];exact hp
 by_cases fF:i=j
 .refine⟨f x,Io.2 ⟨j,?_⟩,y3⟩
  simp_all
 .refine⟨x,Io.2 ⟨j,?_⟩,hp⟩
  simp_all
variable {d:bV}
theorem RInv.ends (h:RInv b)(hd:b.recs[i]? =some d)(e:ByteArray):RInv (lN b i e):=by
 refine⟨h.off,h.clk,zgx h.nodup,?_,?_,λx hx=>h.waitB x (Ds hx).1,h.backB⟩
 .intro x hx
  have hx:x∈dZ b.wait (Hu b.recs i):=hx;rw[Ur hd] at hx;obtain⟨h1,h2⟩:=Ds hx;exact zoz hd (Ne.symm h2) (h.hasrec x h1)
 .intro z hz
  obtain⟨y,hy,e1|e1⟩:=Sr hz
  .subst e1;exact h.recB _ hy
  .subst e1;exact h.recB y hy
variable {t:List UInt8}
theorem RInv.tire (h:RInv b)(hx:1<=x.c/\x.c<=99):RInv (lT (b,t) x).1:=by
 rcases ho:iS b.recs x.c with _|i
 .have:lT (b,t) x=(b,t):=by unfold lT;simp only[ho]
  rw[this];exact h
 .obtain⟨d,hd,-,-⟩:=C1 ho
  rw[zdA (bt:=(b,t)) ho hd];split
  .have e:=h.ends hd Gn
   exact⟨e.off,e.clk,e.nodup,e.hasrec,e.recB,e.waitB,λy hy=>by
    rw[Ju] at hy;rcases hy with hy|hy
    .exact h.backB y hy
    .simp at hy;subst hy;exact hx⟩
  .exact h
theorem RInv.tires:∀(xs:List bN) (b:cC) (t:List UInt8),RInv b->(∀x∈xs,1<=x.c/\x.c<=99)->RInv (xs.foldl lT (b,t)).1
 |[],b,t,h,_=>h
 |x::xs,b,t,h,hx=>by
  rw[Pb];have h1:=h.tire (t:=t) (hx x aQ);obtain⟨b',t',e⟩:∃b' t',lT (b,t) x=(b',t'):=⟨_,_,rfl⟩;rw[e] at h1⊢;exact RInv.tires xs b' t' h1 (λy hy=>hx y (by simp[hy]))
variable {l:Int}
theorem zfK (ho:mY o=true)(h:l∈o0 o rs):1<=l/\l<=6:=by
 have:=zfc h;have:=(C9 ho).2.1;omega
theorem zcP (xs:List bN)(c:bN):(uE xs c).Perm (c::xs):=by
 unfold uE;refine(List.perm_middle).trans ?_;simp_all
theorem zzL (xs:List bN)(c:bN):(uE xs c).length=xs.length+1:=by rw[(zcP xs c).length_eq];rfl
variable {ops:Int}{e:dQ}
theorem zIP (h:qR ops e=true)(he:e.k.toList=Gz):1<=e.a/\e.a<=99:=by
 have h:=of_decide_eq_true h;unfold Gf at h;rcases h with h|h|⟨h|h,_⟩|h
 .omega
 all_goals(first|(rw[h.1] at he;exact absurd he aH)|(rw[h] at he;exact absurd he aH))
theorem zgW (h:qR ops e=true)(he:e.k.toList=Ij\/e.k.toList=Ik):1<=e.a/\e.a<=ops:=by
 have h:=of_decide_eq_true h;unfold Gf at h;rcases h with h|h|h|h
 .rw[h.1] at he;exact absurd he aH
 .rw[h.1] at he;exact absurd he aH
 .omega
 .rw[h.1] at he;exact absurd he aH
theorem zDo (h:qR ops e=true)(h1:e.k.toList≠Gz)(h2:e.k.toList≠Ij)(h3:e.k.toList≠Ik)(h4:e.k.toList≠J6):1<=e.a/\e.a<=60:=by
 have h:=of_decide_eq_true h;unfold Gf at h;simp_all
theorem zhb:eN.toList=[111,112,101,110]:=by decide+kernel
theorem RInv.step {b:cC}{e:dQ}{k:Nat}(h:RInv b)(hc:Ln b k)(he:qR b.o.op e=true)(hk:k<=60):RInv (eB b e).1/\Ln (F6 (eB b e)) (k+1)/\(eB b e).1.o=b.o/\(eB b e).1.log=b.log:=by
 have zKi:=C9 h.off;have c1:=hc.clk;have c2:=hc.nrec;have c3:=hc.nw;have c4:=hc.nb;have c5:=hc.nl;have key:∀bt:cC×List UInt8,RInv bt.1->bt.1.o=b.o->bt.1.log=b.log->bt.1.clk<=b.clk+60->bt.1.recs.length<=b.recs.length+1->bt.1.wait.length<=b.wait.length+1->bt.1.back.length<=b.back.length+60->RInv bt.1/\Ln (F6 bt) (k+1)/\bt.1.o=b.o/\bt.1.log=b.log:=by
  intro bt hi ho hl zJr hr hw xU;refine⟨hi,⟨by show bt.1.clk<=_;omega,by show bt.1.recs.length<=_;omega,by show bt.1.wait.length<=_;omega,by show bt.1.back.length<=_;omega,?_⟩,ho,hl⟩;show(bt.1.log++[bt.2]).length=_;rw[jZ,hl,c5];rfl
 have same:∀t,RInv (b,t).1/\Ln (F6 (b,t)) (k+1)/\(b,t).1.o=b.o/\(b,t).1.log=b.log:=λt=>key (b,t) h rfl rfl (by show b.clk<=_;omega) uU uU uU;unfold eB;by_cases e1:e.k.toList=Gz
 .rw[if_pos e1]
  obtain⟨a1,a2⟩:=zIP he e1;unfold pR;split
  .exact same _
  .rename_i fQ
   rw[C4,not_or] at fQ;rcases hf:o0 b.o b.recs with _|⟨l,fs⟩
   .refine key (_,_) ⟨h.off,h.clk,h.nodup,h.hasrec,h.recB,h.waitB,λx hx=>?_⟩ rfl rfl ?_ ?_ ?_ ?_
    .rw[Ju] at hx
     rcases hx with hx|hx
     .exact h.backB x hx
     simp_all
    all_goals simp only[jZ,wL,zF]
    all_goals omega
   .have Zy:=zfK h.off (l:=l) Y2
    refine key (_,_) ⟨h.off,h.clk,?_,?_,?_,?_,h.backB⟩ rfl rfl ?_ ?_ ?_ ?_
    .show((uE b.wait ⟨e.a,e.b⟩).map bN.c).Nodup
     refine((zcP b.wait ⟨e.a,e.b⟩).map bN.c).nodup_iff.2 ?_;rw[jD,Gx];refine⟨λhm=>?_,h.nodup⟩;obtain⟨x,hx,zLK⟩:=zaL.1 hm;have:=h.hasrec x hx;simp_all
    .intro x hx
     have hx:=(zcP b.wait ⟨e.a,e.b⟩).mem_iff.1 hx;rcases lV.1 hx with rfl|hx
     .show(iS (b.recs++_) e.a).isSome=true
      rw[zcV,List.any_append];have:Bb e.a ⟨e.a,l,0,b.clk,-1,-1,eN⟩=true:=by unfold Bb eL;simp;exact zhb
      simp[this]
     .exact zxK (h.hasrec x hx)
    .intro d hd
     rcases Ju.1 hd with hd|hd
     .exact h.recB d hd
     .simp at hd;subst hd
      have:=h.clk;simp only;omega
    .intro x hx
     have hx:=(zcP b.wait ⟨e.a,e.b⟩).mem_iff.1 hx;rcases lV.1 hx with rfl|hx
     .exact⟨a1,a2⟩
     .exact h.waitB x hx
    all_goals simp only[jZ,wL,zF,zzL]
    all_goals omega
 rw[if_neg e1];by_cases e2:e.k.toList=Ij
 .rw[if_pos e2]
  obtain⟨a1,a2⟩:=zgW he (.inl e2);by_cases l7:0<dO b.recs e.a
  .have e9:n6 b e.a=(b,[116,97,108,107,115]):=by unfold n6;rw[if_pos l7]
   rw[e9];exact same _
  .rcases hw:b.wait with _|⟨c,cs⟩
   .have e9:n6 b e.a=(b,[110,111,110,101]):=by unfold n6;rw[if_neg l7,hw]
    rw[e9];exact same _
   .rcases ho:iS b.recs c.c with _|i
    .have e9:n6 b e.a=(b,[]):=by unfold n6;rw[if_neg l7,hw];simp only[ho]
     rw[e9];exact same _
    .have e9:n6 b e.a=({b with recs:=b.recs.modify i λd=>{d with o:=e.a,h:=b.clk},wait:=dZ b.wait c.c},[99,97,108,108,32]++jH c.c):=by unfold n6;rw[if_neg l7,hw];simp only[ho]
     rw[e9];refine key (_,_) ⟨h.off,h.clk,zgx h.nodup,?_,?_,?_,h.backB⟩ rfl rfl ?_ ?_ ?_ ?_
     .intro x hx
      exact zHl (λd=>⟨rfl,rfl⟩) (h.hasrec x (Ds hx).1)
     .intro z hz
      obtain⟨y,hy,q|q⟩:=Sr hz
      .subst q;exact h.recB _ hy
      .subst q
       have:=h.recB y hy;simp only;omega
     .intro x hx
      exact h.waitB x (Ds hx).1
     all_goals simp only[Lj]
     .omega
     .omega
     .have:=Zb b.wait c.c;omega
     .omega
 rw[if_neg e2];by_cases e3:e.k.toList=Ik
 .rw[if_pos e3]
  obtain⟨a1,a2⟩:=zgW he (.inr e3);by_cases l7:0<dO b.recs e.a
  .have e9:mQ b e.a=(b,[116,97,108,107,115]):=by unfold mQ;rw[if_pos l7]
   rw[e9];exact same _
  .rcases hw:b.back with _|⟨c,cs⟩
   .have e9:mQ b e.a=(b,[110,111,110,101]):=by unfold mQ;rw[if_neg l7,hw]
    rw[e9];exact same _
   .rcases hf:o0 b.o b.recs with _|⟨l,fs⟩
    .have e9:mQ b e.a=(b,[98,117,115,121]):=by unfold mQ;rw[if_neg l7,hw];simp only[hf]
     rw[e9];exact same _
    .have e9:mQ b e.a=({b with back:=dZ b.back c.c,recs:=b.recs++[⟨c.c,l,e.a,b.clk,b.clk,-1,eN⟩]},[99,97,108,108,32]++jH c.c):=by unfold mQ;rw[if_neg l7,hw];simp only[hf]
     rw[e9];have Zy:=zfK h.off (l:=l) Y2;have Jz:=h.backB c (by rw[hw];simp);refine key (_,_) ⟨h.off,h.clk,h.nodup,λx hx=>zxK (h.hasrec x hx),?_,h.waitB,?_⟩ rfl rfl ?_ ?_ ?_ ?_
     .intro d hd
      rcases Ju.1 hd with hd|hd
      .exact h.recB d hd
      .simp at hd;subst hd
       have:=h.clk;simp only;omega
     .intro x hx
      exact h.backB x (Ds hx).1
     all_goals simp only[jZ,wL,zF]
     .omega
     .omega
     .omega
     .have:=Zb b.back c.c;omega
 rw[if_neg e3];by_cases e4:e.k.toList=J6
 .rw[if_pos e4]
  rcases ho:iS b.recs e.a with _|i
  .by_cases hf:(wA b.back e.a).isSome=true
   .have e9:nD b e.a=({b with back:=dZ b.back e.a},[111,102,102]):=by unfold nD;simp only[ho];rw[if_pos hf]
    rw[e9];refine key (_,_) ⟨h.off,h.clk,h.nodup,h.hasrec,h.recB,h.waitB,λx hx=>h.backB x (Ds hx).1⟩ rfl rfl ?_ ?_ ?_ ?_
    all_goals simp only
    .omega
    .omega
    .omega
    .have:=Zb b.back e.a;omega
   .have e9:nD b e.a=(b,[103,111,110,101]):=by unfold nD;simp only[ho];rw[if_neg hf]
    rw[e9];exact same _
  .obtain⟨d,hd,-,-⟩:=C1 ho
   have hw:=Zb b.wait (Hu b.recs i);have end1:∀(E:ByteArray) (t:List UInt8),RInv (lN b i E,t).1/\Ln (F6 (lN b i E,t)) (k+1)/\(lN b i E,t).1.o=b.o/\(lN b i E,t).1.log=b.log:=λE t=>by
    refine key (_,_) (h.ends hd _) rfl rfl ?_ ?_ ?_ ?_
    .show b.clk<=_;omega
    .show(zcm _ _ _).length<=_;simp_all
    .show(dZ b.wait (Hu b.recs i)).length<=_;omega
    .show b.back.length<=_;omega
   by_cases hp:0<opAt b.recs i
   .have e9:nD b e.a=(lN b i G4,[100,111,110,101]):=by unfold nD;simp only[ho];rw[if_pos hp]
    rw[e9];exact end1 _ _
   .have e9:nD b e.a=(lN b i Dd,[108,101,102,116]):=by unfold nD;simp only[ho];rw[if_neg hp]
    rw[e9];exact end1 _ _
 rw[if_neg e4];obtain⟨a1,a2⟩:=zDo he e1 e2 e3 e4;have nE:=h.clk;have T:=zlW (r:=b) (m:=e.a) ⟨h.hasrec,h.waitB⟩ h.nodup (λd hd=>by have:=h.recB d hd;omega) aC b.wait.length (bL _);have t1:=T.nrec;have t2:=T.off;have t3:=T.clk;have t4:=T.nb;have t5:=T.nw;rw[zbV] at t1 t2 t3 t4 t5;have zlp:∀(xs:List bN) (bt:cC×List UInt8),(xs.foldl lT bt).1.log=bt.1.log:=by
  intro xs
  induction xs with
  |nil=>intro bt;rfl
  |cons x xs ih=>
   intro bt;rw[Pb,ih];unfold lT;split
   .rfl
   .split<;>rfl
 refine key (uQ b e.a) ?_ t2 (zlp _ _) ?_ ?_ ?_ ?_
 .unfold uQ
  refine RInv.tires _ _ _ ⟨h.off,by grind,h.nodup,h.hasrec,λd hd=>?_,h.waitB,h.backB⟩ h.waitB;have:=h.recB d hd
  grind
 .omega
 .omega
 .omega
 .omega
def lP (o:fP)(es:List dQ)(k:Nat):cC:=(es.take k).foldl (λb e=>F6 (eB b e)) (mU o)
variable {es:List dQ}
theorem Q2 (h:es[k]? =some e):lP o es (k+1)=F6 (eB (lP o es k) e):=by
 unfold lP;rw[Lr,h,List.foldl_append];rfl
theorem za3 (o:fP)(es:List dQ):lP o es es.length=C8 o es:=by unfold lP C8;simp_all
theorem Pq (h:eM o es=true):∀k,k<=es.length->RInv (lP o es k)/\Ln (lP o es k) k/\(lP o es k).o=o
 |0,_=>by
  have h1:mY o=true:=by unfold eM at h;simp at h;exact h.1.1
  exact⟨RInv.zero h1,Ln.zero o,rfl⟩
 |k+1,hk=>by
  obtain⟨i1,i2,i3⟩:=Pq h k aC;obtain⟨e,he⟩:∃e,es[k]? =some e:=⟨es[k],nI aC⟩;have hv:qR o.op e=true:=by
   unfold eM at h;simp only[iT,vA] at h;exact h.2 e (fI he)
  have hl:es.length<=60:=by unfold eM at h;simp at h;exact h.1.2
  obtain⟨j1,j2,j3,j4⟩:=i1.step i2 (e:=e) (by rw[i3];exact hv) aC;rw[Q2 he];exact⟨⟨j1.off,j1.clk,j1.nodup,j1.hasrec,j1.recB,j1.waitB,j1.backB⟩,j2,by show(eB _ e).1.o=o;rw[j3,i3]⟩
theorem Z7 (o:fP)(w:aE):
 fJ aK 34 #[.agg #[.int .i64 o.ln,.int .i64 o.op,.int .i64 o.pt]] w λx w'=>x=.returned (.bool (mY o))/\bY w.heap.size w w':=by
 go_enter Tryz.func34,Tryz.ntmps34
 go_wp2_with ((go_at_call 49;refine(zoM _ _ _ _).mono ?_;rintro e w' ⟨rfl,rfl⟩))
 all_goals go_ret
 all_goals refine⟨L6 ?_,((fK _ _).alloc (bL _) _)⟩
 all_goals rw[Ng]
 all_goals simp[mY,inB] at*
 all_goals grind
theorem zki (e:dQ)(ops:Int)(w:aE):
 fJ aK 50 #[.agg #[.string e.k,.int .i64 e.a,.int .i64 e.b],.int .i64 ops] w λx w'=>x=.returned (.bool (qR ops e))/\bY w.heap.size w w':=by
 go_enter Tryz.func50,Tryz.ntmps50
 go_wp2_with ((go_at_call 49;refine(zoM _ _ _ _).mono ?_;rintro e w' ⟨rfl,rfl⟩))
 all_goals go_ret
 all_goals refine⟨L6 ?_,((fK _ _).alloc (bL _) _)⟩
 all_goals rw[Ng]
 all_goals simp[qR,Gf,inB,Gz,J6,Ij,Ik,Sw] at*
 all_goals grind
structure tU (w0 w:aE)(gb:Nat)(o:fP)(v:fT)(r:cC):Prop where
 ok:dW w gb v r
 bel:bY gb w0 w
 ofc:w.heap[gb]? =some (.cells #[.int .i64 o.ln,.int .i64 o.op,.int .i64 o.pt] 29)
 res:w.heap[gb+1]? =some kO
 blk:w.heap[gb+6]? =some (Gi v r)
 aR:gb+2<=v.gR/\v.gR≠gb+6
 aW:gb+2<=v.gW/\v.gW≠gb+6
 aB:gb+2<=v.gB/\v.gB≠gb+6
 aL:gb+2<=v.gL/\v.gL≠gb+6
 size:gb+7<=w.heap.size
section
variable {w0 w w':aE}{gb:Nat}{o:fP}{v v':fT}{r r':cC}
def tU.keep (h:tU w0 w gb o v r)(b:bY w.heap.size w w'):tU w0 w' gb o v r:=
 ⟨h.ok.below b,h.bel.trans (b.mono zl7),(b.block _ (iR h.ofc)).trans h.ofc,(b.block _ (iR h.res)).trans h.res,(b.block _ (iR h.blk)).trans h.blk,h.aR,h.aW,h.aB,h.aL,eG h.size b.size⟩
def tU.alloc (h:tU w0 w gb o v r)(ob:Obj):tU w0 (w.alloc ob) gb o v r:=h.keep (eT (fK _ _) ob)
def tU.drew (h:tU w0 w gb o v r):tU w0 w.drew gb o v r:=h.keep ⟨rfl,rfl,rfl,bL _,λ_ _=>rfl⟩
theorem tU.stepped (h:tU w0 w gb o v r)(ok:dW w' gb v' r')(t:oV v w w')(m:xB w.heap.size v v'):
 bY gb w0 w'/\w'.heap[gb]? =w.heap[gb]? /\w'.heap[gb+1]? =w.heap[gb+1]? /\w'.heap[gb+6]? =w.heap[gb+6]? /\(gb+2<=v'.gR/\v'.gR≠gb+6)/\(gb+2<=v'.gW/\v'.gW≠gb+6)/\(gb+2<=v'.gB/\v'.gB≠gb+6)/\(gb+2<=v'.gL/\v'.gL≠gb+6)/\w.heap.size<=w'.heap.size:=by
 have aR:=h.aR;have aW:=h.aW;have aB:=h.aB;have aL:=h.aL;have mr:=m.r;have mw:=m.w;have mb:=m.b;have ml:=m.l;have sz:=h.size;refine⟨⟨t.os.trans h.bel.os,t.tape.trans h.bel.tape,t.output.trans h.bel.output,eG h.bel.size t.size,λb hb=>?_⟩,t.block _ aC aC aC,t.block _ aC aC aC,t.block _ aC aC aC,aC,aC,aC,aC,t.size⟩;exact(t.block b aC aC aC).trans (h.bel.block b hb)
theorem tU.stored (ok:dW w gb v' r')(bel:bY gb w0 w)(e0:w.heap[gb]? =some (.cells #[.int .i64 o.ln,.int .i64 o.op,.int .i64 o.pt] 29))(e1:w.heap[gb+1]? =some kO)(e6:w.heap[gb+6]? =some (Gi v r))
 (a1:gb+2<=v'.gR/\v'.gR≠gb+6) (a2:gb+2<=v'.gW/\v'.gW≠gb+6) (a3:gb+2<=v'.gB/\v'.gB≠gb+6) (a4:gb+2<=v'.gL/\v'.gL≠gb+6) (sz:gb+7<=w.heap.size):
 tU w0 (gQ w (gb+6) (.int .i64 r'.o.ln) (.int .i64 r'.o.op) (.int .i64 r'.o.pt) (.int .i64 r'.clk) (v'.sR r') (v'.sW r') (v'.sB r') (v'.sL r')) gb o v' r':=by
 refine⟨ok.set8 aC,?_,(Hq aC).trans e0,(Hq aC).trans e1,zdi e6,a1,a2,a3,a4,by rw[zli];exact sz⟩;have c:=zfi w (gb+6) (.int .i64 r'.o.ln) (.int .i64 r'.o.op) (.int .i64 r'.o.pt) (.int .i64 r'.clk) (v'.sR r') (v'.sW r') (v'.sB r') (v'.sL r');exact bel.trans ⟨c.os,c.tape,c.output,c.size,λb hb=>c.block b aC aC⟩
theorem tU.appL {m g c:Nat}{x:List UInt8}(h:tU w0 w gb o v r)(hg:w.grownBy w' (some v.gL))(ho:w'.ownsRow gb 9 1 (.slice (some ⟨g,0,none⟩) m c) m (nV r.log++[.string ⟨x.toArray⟩]))(hm:m=r.log.length+1)(hw:g=v.gL\/g=w.heap.size):
 tU w0 (w'.setCell ⟨gb+6,7,none⟩ (.slice (some ⟨g,0,none⟩) m c)) gb o {v with gL:=g,cL:=c} {r with log:=r.log++[x]}:=by
 have aR:=h.aR;have aW:=h.aW;have aB:=h.aB;have aL:=h.aL;have sz:=h.size;have l:=h.ok.lts;have hk:=h.ok.appL hg ho hm aC;have hs:=hg.size;have kb:=(Ao hg h.blk aC).1;have k0:=(Ao hg h.ofc aC).1;have k1:=(Ao hg h.res aC).1;have aV:g≠gb+6:=aC;refine⟨hk.setCell tL,?_,(dU w' _ _ gb aQ).trans k0,(dU w' _ _ (gb+1) aQ).trans k1,?_,aR,aW,aB,⟨by simp only;omega,aV⟩,by rw[wR];omega⟩
 .refine⟨hg.os.trans h.bel.os,hg.tape.trans h.bel.tape,hg.output.trans h.bel.output,by rw[wR];exact eG h.bel.size hs,λb hb=>?_⟩
  exact((dU w' _ _ b tL).trans (hg.block b aC pX)).trans (h.bel.block b hb)
 .rw[oQ kb]
  have e:=room_L v r g c (r.log++[x]);rw[hm];simp only[jZ,wL,zF] at e;exact congrArg (λa=>some (Obj.cells a 59)) e
end
def zIE (o:fP)(es:List dQ)(w:aE)(x:Ending)(w':aE):Prop:=
 ∃v,x=.returned (.tuple #[.agg (fR v (vD o es)),.bool (eM o es)])/\dW w' w.heap.size v (vD o es)/\bY w.heap.size w w'
variable {w0 w:aE}{gb:Nat}{v:fT}{r:cC}
theorem tU.done {a0 a1 a2 a3 a4 a5 a6 a7:aF}(h:tU w0 w gb o v r):dW (gQ w (gb+1) a0 a1 a2 a3 a4 a5 a6 a7) gb v r/\bY gb w0 (gQ w (gb+1) a0 a1 a2 a3 a4 a5 a6 a7):=by
 have aR:=h.aR;have aW:=h.aW;have aB:=h.aB;have aL:=h.aL;refine⟨h.ok.set8 aC,?_⟩;have c:=zfi w (gb+1) a0 a1 a2 a3 a4 a5 a6 a7;exact h.bel.trans ⟨c.os,c.tape,c.output,c.size,λb hb=>c.block b zl7 aC⟩
def tU.doneR (h:tU w0 w gb o v r)(v1:fT)(r1:cC):dW (gQ w (gb+1) (.int .i64 r1.o.ln) (.int .i64 r1.o.op) (.int .i64 r1.o.pt) (.int .i64 r1.clk) (v1.sR r1) (v1.sW r1) (v1.sB r1) (v1.sL r1)) gb v r/\bY gb w0 (gQ w (gb+1) (.int .i64 r1.o.ln) (.int .i64 r1.o.op) (.int .i64 r1.o.pt) (.int .i64 r1.clk) (v1.sR r1) (v1.sW r1) (v1.sB r1) (v1.sL r1)):=h.done
def zz0 {w':aE}{b g o1:Nat}{o2 o3 o4:Nat}{v1 v2 v3 v4:aF}(h:w.cell? ⟨b,o1,none⟩=some v1/\w.cell? ⟨b,o2,none⟩=some v2/\w.cell? ⟨b,o3,none⟩=some v3/\w.cell? ⟨g,o4,none⟩=some v4)(k1:w'.heap[b]? =w.heap[b]?)(k2:w'.heap[g]? =w.heap[g]?):
 w'.cell? ⟨b,o1,none⟩=some v1/\w'.cell? ⟨b,o2,none⟩=some v2/\w'.cell? ⟨b,o3,none⟩=some v3/\w'.cell? ⟨g,o4,none⟩=some v4:=
 ⟨(Bg k1).trans h.1,(Bg k1).trans h.2.1,(Bg k1).trans h.2.2.1,(Bg k2).trans h.2.2.2⟩
def zIV {b g o1:Nat}{o2 o3 o4:Nat}{v1 v2 v3 v4:aF}(h:w.cell? ⟨b,o1,none⟩=some v1/\w.cell? ⟨b,o2,none⟩=some v2/\w.cell? ⟨b,o3,none⟩=some v3/\w.cell? ⟨g,o4,none⟩=some v4):
 w.drew.cell? ⟨b,o1,none⟩=some v1/\w.drew.cell? ⟨b,o2,none⟩=some v2/\w.drew.cell? ⟨b,o3,none⟩=some v3/\w.drew.cell? ⟨g,o4,none⟩=some v4:=h
def zHE (w:aE)(b:Nat):w.drew.heap[b]? =w.heap[b]? :=rfl
def zxD:(aK.info? 9).map (λi=>(i.zero,i.size,i.bytes))=some (some (.string ⟨#[]⟩),1,16):=aP
theorem Vs (h:eM o es=false):vD o es=mU o:=by unfold vD;rw[h];rfl
theorem zu0 (o:fP)(lo hi n c:Nat)(A:Option bC)(es:List dQ)(w:aE)(h:cE w lo hi 3 A n c (pA es))(hn:n<=1048576)(Yx:hi<=w.heap.size):
 fJ aK 40 #[.agg #[.int .i64 o.ln,.int .i64 o.op,.int .i64 o.pt],.slice A n c] w (zIE o es w):=by
 have By:=h.eventsLen;have Q7:=aD By;obtain⟨gb,eU⟩:=aT w.heap.size;have fY:=aD eU;clear By
 go_enter Tryz.func40,Tryz.ntmps40
 go_upto_region 2 with fail
 obtain⟨v0,gU⟩:=aT (⟨w.heap.size+1+1,0,w.heap.size+1+1+1,0,w.heap.size+1+1+1+1,0,w.heap.size+1+1+1+1+1,0⟩:fT)
 obtain⟨W1,cV⟩:∃y,y=(((((((w.alloc (.cells #[.int .i64 o.ln,.int .i64 o.op,.int .i64 o.pt] 29)).alloc kO).alloc (.cells #[] 50)).alloc (.cells #[] 100)).alloc (.cells #[] 100)).alloc (.cells #[] 9)).alloc
  (.cells #[.int .i64 o.ln,.int .i64 o.op,.int .i64 o.pt,.int .i64 0,.slice (some ⟨w.heap.size+1+1,0,none⟩) 0 0,.slice (some ⟨w.heap.size+1+1+1,0,none⟩) 0 0,.slice (some ⟨w.heap.size+1+1+1+1,0,none⟩) 0 0,.slice (some ⟨w.heap.size+1+1+1+1+1,0,none⟩) 0 0] 59)):=⟨_,rfl⟩
 have fB:=aD (show tU w W1 gb o v0 (mU o) by
  have lQ:bY w.heap.size w W1:=by rw[cV];exact eT (eT (eT (eT (eT (eT (eT (fK _ _) _) _) _) _) _) _) _
  refine⟨⟨?_,?_,?_,?_,?_⟩,by rw[eU];exact lQ,?_,?_,?_,?_,?_,?_,?_,?_⟩
  .rw[gU];exact Qm Mm (by rw[cV];exact dH (dH (dH (dH (mH _ _ aQ) _) _) _) _)
  .rw[gU];exact Qm Mm (by rw[cV];exact dH (dH (dH (mH _ _ aQ) _) _) _)
  .rw[gU];exact Qm Mm (by rw[cV];exact dH (dH (mH _ _ aQ) _) _)
  .rw[gU];exact Qm Mm (by rw[cV];exact dH (mH _ _ aQ) _)
  .simp_all
  .rw[cV];exact dH (dH (dH (dH (dH (dH (mH _ _ eU) _) _) _) _) _) _
  .rw[cV];exact dH (dH (dH (dH (dH (mH _ _ Ws) _) _) _) _) _
  .rw[cV,gU];exact mH _ _ Ws
  .simp_all
  .simp_all
  .simp_all
  .simp_all
  .rw[cV,eU];simp)
 rw[<-cV];have e6:w.heap.size+1+1+1+1+1+1=gb+6:=aC;rw[e6,<-eU];clear cV gU e6 eU;have q0:=aI fB.o.ofc 0;have q1:=aI fB.o.ofc 1;have q2:=aI fB.o.ofc 2;cases hv:mY o
 case false=>
  have fD:=aD (show eM o es=false by unfold eM;rw[hv];rfl)
  go_upto_region 3 with(go_at_call 34;refine(Z7 o W1).mono ?_;rintro x w2 ⟨rfl,b2⟩;have iX:=aD b2;rw[hv];clear b2)
  have mL:=aD (fB.o.keep iX.o);clear q0 q1 q2;have k:=aI mL.o.blk;obtain⟨k0,k1,k2,k3,k4,k5,k6,k7⟩:=eO k;clear k;have z:=aI mL.o.res;obtain⟨z0,z1,z2,z3,z4,z5,z6,z7⟩:=eO z;clear z;have r0:=eW mL.o.res
  go_wp2_with fail
  have er:=aI (tF v0 (mU o) mL.o.res);refine nN (v:=.tuple #[.agg (fR (v0) (mU o)),.bool false]) ?_ rfl ?_
  .unfold gQ at er
   simp[results,ze4,go_sem,er]
  .obtain⟨d1,d2⟩:=mL.o.doneR v0 (mU o)
   exact⟨v0,by rw[fD.o];rw[Vs fD.o],by rw[Vs fD.o,<-fY.o];exact d1,by rw[<-fY.o];exact d2⟩
 case true=>
  by_cases zaK:n<=60
  case neg=>
   have fD:=aD (show eM o es=false by unfold eM;rw[hv,Q7.o];simp;intro h;omega)
   go_upto_region 3 with(go_at_call 34;refine(Z7 o W1).mono ?_;rintro x w2 ⟨rfl,b2⟩;have iX:=aD b2;rw[hv];clear b2)
   have mL:=aD (fB.o.keep iX.o);clear q0 q1 q2;have k:=aI mL.o.blk;obtain⟨k0,k1,k2,k3,k4,k5,k6,k7⟩:=eO k;clear k;have z:=aI mL.o.res;obtain⟨z0,z1,z2,z3,z4,z5,z6,z7⟩:=eO z;clear z;have r0:=eW mL.o.res
   go_wp2_with fail
   have er:=aI (tF v0 (mU o) mL.o.res);refine nN (v:=.tuple #[.agg (fR (v0) (mU o)),.bool false]) ?_ rfl ?_
   .unfold gQ at er
    simp[results,ze4,go_sem,er]
   .obtain⟨d1,d2⟩:=mL.o.doneR v0 (mU o)
    exact⟨v0,by rw[fD.o];rw[Vs fD.o],by rw[Vs fD.o,<-fY.o];exact d1,by rw[<-fY.o];exact d2⟩
  case pos=>
   have HV:=aD hv
   go_upto_region 4 with(go_at_call 34;refine(Z7 o W1).mono ?_;rintro x w2 ⟨rfl,b2⟩;have iX:=aD b2;rw[hv];clear b2)
   have mL:=aD (fB.o.keep iX.o);clear q0 q1 q2 hv
   go_wp2_with fail
   go_loopw [7] (λi wr=>∃k:Nat,k<=n/\i=.int .i64 k/\tU w wr gb o v0 (mU o)/\∀j,j<k->∀e,es[j]? =some e->qR o.op e=true) (λi _=>n-(intOf i).toNat)
   case atStart=>exact⟨0,mK _,rfl,mL.o,λj hj=>absurd hj aC⟩
   case round=>
    obtain⟨k,hk,rfl,Xh,gJ⟩:=hrel;have HC:=aD gJ;have Zt:=aD Xh;clear gJ Xh;by_cases aU:k<n
    .obtain⟨b,off,e,hA,eF,zH6,zkf,Gm,e0,e1,e2⟩:=(h.below (fY.o▸Zt.o.bel)).eventsAt aU
     subst hA;have Nh:=aD Gm;have zD2:b<gb:=by have:=fY.o;omega
     have i0:(0:Int)<=(k:Int):=aC;have i1:(k:Int)<(n:Int):=aC;have Hk:=aD (And.intro e0 (And.intro e1 (And.intro e2 (show wr.cell? ⟨gb,1,none⟩=some (.int .i64 o.op) from aI Zt.o.ofc 1))));have zx2:gb<wr.heap.size:=iR Zt.o.ofc;clear Gm e0 e1 e2
     go_wp2_with fail
     go_region_held3 (λW=>W.cell? ⟨b,off+k*3,none⟩=some (.string e.k)/\W.cell? ⟨b,off+k*3+1,none⟩=some (.int .i64 e.a)/\W.cell? ⟨b,off+k*3+2,none⟩=some (.int .i64 e.b)/\W.cell? ⟨gb,1,none⟩=some (.int .i64 o.op))
      (first|exact Hk.o|exact zIV Hk.o|exact S5)
      ((go_at_call 50;refine(zki e o.op wr.drew).mono ?_;rintro y w5 ⟨rfl,b5⟩;have zgr:bY wr.heap.size wr w5:=⟨b5.os,b5.tape,b5.output,b5.size,b5.block⟩;have lM:=aD zgr;have S5:=zz0 Hk.o (zgr.block b aC) (zgr.block gb aC);clear b5 zgr))
     cases l9:qR o.op e
     .have fD:=aD (show eM o es=false by
       unfold eM;rw[Bool.and_eq_false_iff];refine .inr (Bool.eq_false_iff.2 λsY=>?_);rw[vA] at sY;have:=sY e (fI Nh.o);rw[l9] at this;cases this)
      have mL:=aD (Zt.o.keep lM.o);clear l9 S5;have k:=aI mL.o.blk;obtain⟨k0,k1,k2,k3,k4,k5,k6,k7⟩:=eO k;clear k;have z:=aI mL.o.res;obtain⟨z0,z1,z2,z3,z4,z5,z6,z7⟩:=eO z;clear z;have r0:=eW mL.o.res
      go_wp2_with fail
      have er:=aI (tF v0 (mU o) mL.o.res);refine nN (v:=.tuple #[.agg (fR (v0) (mU o)),.bool false]) ?_ rfl ?_
      .unfold gQ at er
       simp[results,ze4,go_sem,er]
      .obtain⟨d1,d2⟩:=mL.o.doneR v0 (mU o)
       exact⟨v0,by rw[fD.o];rw[Vs fD.o],by rw[Vs fD.o,<-fY.o];exact d1,by rw[<-fY.o];exact d2⟩
     .go_wp2_with fail
      go_roundw
      case rel=>exact⟨k+1,aC,qJ,Zt.o.keep lM.o,λj hj e' Np=>by
       by_cases e:j=k
       .subst e;rw[Nh.o] at Np;injection Np with Np;exact Np▸l9
       .exact HC.o j aC e' Np⟩
      case measure=>simp[intOf];omega
    .have e:k=n:=aC
     subst e;have bM:eM o es=true:=by
      unfold eM;rw[HV.o,Q7.o];simp only[Bool.true_and,iT,decide_eq_true_eq,vA];refine⟨zaK,λe he=>?_⟩;obtain⟨j,hj⟩:=Io.1 he;have uW:=(l8.1 hj).1;exact HC.o j (by rw[<-Q7.o];exact uW) e hj
     have fD:=aD bM;have zAO:=aD (Pq bM);clear bM
     go_wp2_with fail
     go_loopw [8] (λi wr=>∃(j:Nat) (v1:fT),j<=k/\i=.int .i64 j/\tU w wr gb o v1 (lP o es j)) (λi _=>k-(intOf i).toNat)
     case atStart=>exact⟨0,v0,mK _,rfl,Zt.o⟩
     case round=>
      obtain⟨j,v1,hj,rfl,Xh⟩:=hrel;obtain⟨tI,tC,tO⟩:=zAO.o j (by rw[Q7.o];exact hj);obtain⟨r1,kG⟩:=aT (lP o es j);rw[<-kG] at Xh tI tC tO;have jE:=aD kG;have jW:=aD Xh;clear kG Xh;by_cases aU:j<k
      .obtain⟨b,off,e,hA,eF,zH6,zkf,Gm,e0,e1,e2⟩:=(h.below (fY.o▸jW.o.bel)).eventsAt aU
       subst hA;have zD2:b<gb:=by have:=fY.o;omega
       have i0:(0:Int)<=(j:Int):=aC;have i1:(j:Int)<(k:Int):=aC;have zwt:=aD (tI.good tC aC);have znA:=aD (show qR r1.o.op e=true by
        rw[tO];have:=fD.o;unfold eM at this;simp only[iT,vA] at this;exact this.2 e (fI Gm))
       have zyb:=aD (Q2 (o:=o) Gm);have pP:r1.log.length<=60:=by have:=tC.nl;omega
       have zlr:=aD (And.intro e0 (And.intro e1 e2));have cK:=jW.o.size;have zx2:gb<=wr.heap.size:=aC;have zqh:=aD (RInv.step (e:=e) tI tC (by rw[tO];exact tO▸znA.o) aC);clear tI tC tO Gm e0 e1 e2;have zf6:=aD (show∀W:aE,W.heap[b]? =wr.heap[b]? ->W.heap[gb+6]? =wr.heap[gb+6]? ->(W.cell? ⟨b,off+j*3,none⟩=some (.string e.k)/\W.cell? ⟨b,off+j*3+1,none⟩=some (.int .i64 e.a)/\W.cell? ⟨b,off+j*3+2,none⟩=some (.int .i64 e.b)/\W.cell? ⟨gb+6,0,none⟩=some (.int .i64 r1.o.ln)/\W.cell? ⟨gb+6,1,none⟩=some (.int .i64 r1.o.op)/\W.cell? ⟨gb+6,2,none⟩=some (.int .i64 r1.o.pt)/\W.cell? ⟨gb+6,3,none⟩=some (.int .i64 r1.clk)/\W.cell? ⟨gb+6,4,none⟩=some (v1.sR r1)/\W.cell? ⟨gb+6,5,none⟩=some (v1.sW r1)/\W.cell? ⟨gb+6,6,none⟩=some (v1.sB r1)/\W.cell? ⟨gb+6,7,none⟩=some (v1.sL r1)) from λW h1 h2=>by
        have k:=aI (h2.trans jW.o.blk);exact⟨(Bg h1).trans zlr.o.1,(Bg h1).trans zlr.o.2.1,(Bg h1).trans zlr.o.2.2,k 0,k 1,k 2,k 3,k 4,k 5,k 6,k 7⟩)
       have Hk:=aD (zf6.o wr.drew rfl rfl);have zD1:=aD (zf6.o wr rfl rfl);have z6:gb+6<wr.heap.size:=aC;have zb:b<wr.heap.size:=aC;have aR:=jW.o.aR;have aB:=jW.o.aB
       go_wp2_with fail
       go_region_held3 (λW=>W.cell? ⟨b,off+j*3,none⟩=some (.string e.k)/\W.cell? ⟨b,off+j*3+1,none⟩=some (.int .i64 e.a)/\W.cell? ⟨b,off+j*3+2,none⟩=some (.int .i64 e.b)/\W.cell? ⟨gb+6,0,none⟩=some (.int .i64 r1.o.ln)/\W.cell? ⟨gb+6,1,none⟩=some (.int .i64 r1.o.op)/\W.cell? ⟨gb+6,2,none⟩=some (.int .i64 r1.o.pt)/\W.cell? ⟨gb+6,3,none⟩=some (.int .i64 r1.clk)/\W.cell? ⟨gb+6,4,none⟩=some (v1.sR r1)/\W.cell? ⟨gb+6,5,none⟩=some (v1.sW r1)/\W.cell? ⟨gb+6,6,none⟩=some (v1.sB r1)/\W.cell? ⟨gb+6,7,none⟩=some (v1.sL r1))
        (first|with_reducible exact Hk.o|with_reducible exact zD1.o|with_reducible exact zf6.o _ zsV zwr|(with_reducible refine zf6.o _ ?_ ?_<;>(repeat' (first|with_reducible assumption|with_reducible rfl|(refine(zHE _ _).trans ?_)|(refine(dU _ _ _ _ ?_).trans ?_;(first|omega|(simp;omega)))|(refine(sV _ _ _ ?_).trans ?_;(first|omega|(simp;omega)))))))
        (first|(go_at_call 51;refine(zpB gb v1 r1 e wr.drew jW.o.drew.ok zwt.o zx2 znA.o).mono ?_;rintro y w5 ⟨v5,rfl,bM,jO,xI⟩;obtain⟨r5,eE⟩:=aT ((eB r1 e).1:cC);obtain⟨t5,nZ⟩:=aT ((eB r1 e).2:List UInt8);rw[<-eE] at bM⊢;rw[<-nZ];have oZ:=aD eE;have yS:=aD nZ;have vQ:=aD bM;have vJ:=aD jO;have oS:=aD xI;have zsV:w5.heap[b]? =wr.heap[b]? :=jO.block b zb aC aC;have zwr:w5.heap[gb+6]? =wr.heap[gb+6]? :=jO.block (gb+6) z6 aC aC;have z5:wr.heap.size<=w5.heap.size:=jO.size;have Mz:=aD jW.o.drew;clear eE nZ bM jO xI)|(go_at_call 51;refine(zpB gb v1 r1 e (wr.alloc kO).drew (jW.o.alloc kO).drew.ok zwt.o (by show gb<=(wr.alloc kO).heap.size;simp;omega) znA.o).mono ?_;rintro y w5 ⟨v5,rfl,bM,jO,xI⟩;obtain⟨r5,eE⟩:=aT ((eB r1 e).1:cC);obtain⟨t5,nZ⟩:=aT ((eB r1 e).2:List UInt8);rw[<-eE] at bM⊢;rw[<-nZ];have oZ:=aD eE;have yS:=aD nZ;have vQ:=aD bM;have vJ:=aD jO;have oS:=aD xI;have zsV:w5.heap[b]? =wr.heap[b]? :=(jO.block b (by show b<(wr.alloc kO).heap.size;simp;omega) aC aC).trans (sV wr kO b zb);have zwr:w5.heap[gb+6]? =wr.heap[gb+6]? :=(jO.block (gb+6) (by show gb+6<(wr.alloc kO).heap.size;simp;omega) aC aC).trans (sV wr kO _ z6);have z5:wr.heap.size<w5.heap.size:=(by have:=jO.size;have e:(wr.alloc kO).drew.heap.size=wr.heap.size+1:=aQ;omega);have kr:w5.heap[wr.heap.size]? =some kO:=(jO.block wr.heap.size aQ (by have:=jW.o.ok.lts;omega) (by have:=jW.o.ok.lts;omega)).trans (gV wr kO);have zy9:=aD kr;have z:=aI kr;have r0:=eW kr;have z0:=z 0;have z1:=z 1;have z2:=z 2;have z3:=z 3;have z4:=z 4;have z5:=z 5;have z7:=z 7;have zcX:=z 6;have Mz:=aD (jW.o.alloc kO).drew;clear eE nZ bM jO xI kr z))
       .
         obtain⟨W6,rR⟩:=aT (w5.alloc (Gi v5 r5));obtain⟨nb,oF⟩:=aT w5.heap.size;rw[<-rR,<-oF];have hN:W6.heap[nb]? =some (Gi v5 r5):=by rw[rR];exact mH _ _ oF
         have Ty:dW W6 gb v5 r5:=by rw[rR];exact vQ.o.alloc _
         obtain⟨zdj,p0,p1,p6,a1,a2,a3,a4,zhl⟩:=Mz.o.stepped vQ.o vJ.o oS.o;have zaC:bY gb w W6:=by rw[rR];exact zdj.alloc aC _
         have q0:W6.heap[gb]? =some (.cells #[.int .i64 o.ln,.int .i64 o.op,.int .i64 o.pt] 29):=by rw[rR];exact(sV _ _ gb aC).trans (p0.trans Mz.o.ofc)
         have q1:W6.heap[gb+1]? =some kO:=by rw[rR];exact(sV _ _ (gb+1) aC).trans (p1.trans Mz.o.res)
         have q6:W6.heap[gb+6]? =some (Gi v1 r1):=by rw[rR];exact(sV _ _ (gb+6) aC).trans (p6.trans Mz.o.blk)
         have zkk:gb+7<=W6.heap.size:=by rw[rR];simp;omega
         have Cg:nb≠gb+6:=aC;clear rR oF zdj p0 p1 p6 zhl;have zEt:=aD hN;have zG5:=aD Ty;have zaH:r5.log=r1.log:=by rw[oZ.o];exact zqh.o.2.2.2
         have zDd:r5.log.length<=60:=by rw[zaH];exact pP
         have Cc:=aD (tU.stored Ty zaC q0 q1 q6 a1 a2 a3 a4 zkk);have k:=aI hN;obtain⟨k0,k1,k2,k3,k4,k5,k6,k7⟩:=eO k;have z:=aI q6;obtain⟨z0,z1,z2,z3,z4,z5,zcX,z7⟩:=eO z;have r0:=eW q6;clear k z hN Ty zaC q0 q1 q6 zaH
         go_upto_region 14 with fail
         obtain⟨W7,Cm⟩:=aT (gQ W6 (gb+6) (.int .i64 r5.o.ln) (.int .i64 r5.o.op) (.int .i64 r5.o.pt) (.int .i64 r5.clk) (v5.sR r5) (v5.sW r5) (v5.sB r5) (v5.sL r5));rw[<-Cm] at Cc;unfold gQ at Cm;rw[<-Cm];clear Cm k0 k1 k2 k3 k4 k5 k6 k7 z0 z1 z2 z3 z4 z5 zcX z7 r0;have k7:=aI Cc.o.blk 7;have zFN:=Cc.o.size;have zlx:=Cc.o.aL;obtain⟨ii,Pm,gA,dS,jQ⟩:=C6 zxD;have zbH:=aD Pm;clear Pm
         go_wp2_with (at_builtin;refine zjp _ rfl (.tmp 58) (.tmp 60) 26 rfl gb 9 ii (.string ⟨#[]⟩) 1 16 zaN zbH.o gA dS jQ rfl aH v5.gL v5.cL r5.log.length (nV r5.log) rfl ((Cc.o.alloc _).ok.lg) ⟨_,0,none⟩ 1 1 [.string ⟨t5.toArray⟩] rfl rfl ?c2 Oj ?c5 ?c6 ?c7 ?_;(case c2=>exact Gl (cs:=#[.string ⟨t5.toArray⟩]) (gV _ _));(case c5=>unfold maxLen;omega);(case c6=>omega);(case c7=>(simp;omega));intro g9 c9 w9 zbO U3 B9 zbj;have zlY:=aD ((Cc.o.alloc _).appL U3 zbO rfl zbj);have kx:=(Ao U3 (dH Cc.o.blk _) (Ne.symm zlx.2)).1;have zG0:=aI kx 7;have xD:=eW kx;clear zbO U3 B9 zbj kx)
         go_roundw
         case rel=>
          refine⟨j+1,{v5 with gL:=g9,cL:=c9},aC,qJ,?_⟩;rw[zyb.o,<-jE.o];have e:F6 (eB r1 e)={r5 with log:=r5.log++[t5]}:=by rw[oZ.o,yS.o];rfl
          rw[e];exact zlY.o
         case measure=>simp[intOf];omega
       .
         obtain⟨nb,oF⟩:=aT wr.heap.size;obtain⟨W6,rR⟩:=aT (gQ w5 nb (.int .i64 r5.o.ln) (.int .i64 r5.o.op) (.int .i64 r5.o.pt) (.int .i64 r5.clk) (v5.sR r5) (v5.sW r5) (v5.sB r5) (v5.sL r5));obtain⟨zdj,p0,p1,p6,a1,a2,a3,a4,zhl⟩:=Mz.o.stepped vQ.o vJ.o oS.o;have l1:=jW.o.ok.lts;have mr:=oS.o.r;have mw:=oS.o.w;have mb:=oS.o.b;have ml:=oS.o.l;have eX:(wr.alloc kO).drew.heap.size=nb+1:=by rw[oF];show(wr.alloc kO).heap.size=_;simp
         rw[eX] at mr mw mb zhl;have hN:W6.heap[nb]? =some (Gi v5 r5):=by rw[rR,oF];exact zdi zy9.o
         have Ty:dW W6 gb v5 r5:=by rw[rR];exact vQ.o.set8 aC
         have V8:=zfi w5 nb (.int .i64 r5.o.ln) (.int .i64 r5.o.op) (.int .i64 r5.o.pt) (.int .i64 r5.clk) (v5.sR r5) (v5.sW r5) (v5.sB r5) (v5.sL r5);have zaC:bY gb w W6:=by rw[rR];exact zdj.trans ⟨V8.os,V8.tape,V8.output,V8.size,λx hx=>V8.block x aC aC⟩
         have q0:W6.heap[gb]? =some (.cells #[.int .i64 o.ln,.int .i64 o.op,.int .i64 o.pt] 29):=by rw[rR];exact(Hq aC).trans (p0.trans Mz.o.ofc)
         have q1:W6.heap[gb+1]? =some kO:=by rw[rR];exact(Hq aC).trans (p1.trans Mz.o.res)
         have q6:W6.heap[gb+6]? =some (Gi v1 r1):=by rw[rR];exact(Hq aC).trans (p6.trans Mz.o.blk)
         have zkk:gb+7<=W6.heap.size:=by rw[rR,zli];omega
         have Cg:nb≠gb+6:=aC;unfold gQ at rR;rw[<-oF,<-rR];clear rR oF zdj p0 p1 p6 zhl V8 l1 mr mw mb ml eX z0 z1 z2 z3 z4 z5 zcX z7 r0;have zEt:=aD hN;have zG5:=aD Ty;have zaH:r5.log=r1.log:=by rw[oZ.o];exact zqh.o.2.2.2
         have zDd:r5.log.length<=60:=by rw[zaH];exact pP
         have Cc:=aD (tU.stored Ty zaC q0 q1 q6 a1 a2 a3 a4 zkk);have k:=aI hN;obtain⟨k0,k1,k2,k3,k4,k5,k6,k7⟩:=eO k;have z:=aI q6;obtain⟨z0,z1,z2,z3,z4,z5,zcX,z7⟩:=eO z;have r0:=eW q6;clear k z hN Ty zaC q0 q1 q6 zaH
         go_upto_region 14 with fail
         obtain⟨W7,Cm⟩:=aT (gQ W6 (gb+6) (.int .i64 r5.o.ln) (.int .i64 r5.o.op) (.int .i64 r5.o.pt) (.int .i64 r5.clk) (v5.sR r5) (v5.sW r5) (v5.sB r5) (v5.sL r5));rw[<-Cm] at Cc;unfold gQ at Cm;rw[<-Cm];clear Cm k0 k1 k2 k3 k4 k5 k6 k7 z0 z1 z2 z3 z4 z5 zcX z7 r0;have k7:=aI Cc.o.blk 7;have zFN:=Cc.o.size;have zlx:=Cc.o.aL;obtain⟨ii,Pm,gA,dS,jQ⟩:=C6 zxD;have zbH:=aD Pm;clear Pm
         go_wp2_with (at_builtin;refine zjp _ rfl (.tmp 58) (.tmp 60) 26 rfl gb 9 ii (.string ⟨#[]⟩) 1 16 zaN zbH.o gA dS jQ rfl aH v5.gL v5.cL r5.log.length (nV r5.log) rfl ((Cc.o.alloc _).ok.lg) ⟨_,0,none⟩ 1 1 [.string ⟨t5.toArray⟩] rfl rfl ?c2 Oj ?c5 ?c6 ?c7 ?_;(case c2=>exact Gl (cs:=#[.string ⟨t5.toArray⟩]) (gV _ _));(case c5=>unfold maxLen;omega);(case c6=>omega);(case c7=>(simp;omega));intro g9 c9 w9 zbO U3 B9 zbj;have zlY:=aD ((Cc.o.alloc _).appL U3 zbO rfl zbj);have kx:=(Ao U3 (dH Cc.o.blk _) (Ne.symm zlx.2)).1;have zG0:=aI kx 7;have xD:=eW kx;clear zbO U3 B9 zbj kx)
         go_roundw
         case rel=>
          refine⟨j+1,{v5 with gL:=g9,cL:=c9},aC,qJ,?_⟩;rw[zyb.o,<-jE.o];have e:F6 (eB r1 e)={r5 with log:=r5.log++[t5]}:=by rw[oZ.o,yS.o];rfl
          rw[e];exact zlY.o
         case measure=>simp[intOf];omega
      .have e:j=k:=aC
       subst e;have zfN:=aD (show vD o es=r1 by unfold vD;rw[fD.o,<-za3,Q7.o,<-jE.o];exact if_pos rfl);clear tI tC tO aU;have k:=aI jW.o.blk;obtain⟨k0,k1,k2,k3,k4,k5,k6,k7⟩:=eO k;clear k;have z:=aI jW.o.res;obtain⟨z0,z1,z2,z3,z4,z5,z6,z7⟩:=eO z;clear z;have r0:=eW jW.o.res
       go_wp2_with fail
       have er:=aI (tF v1 r1 jW.o.res);refine nN (v:=.tuple #[.agg (fR (v1) (r1)),.bool true]) ?_ rfl ?_
       .unfold gQ at er
        simp[results,ze4,go_sem,er]
       .obtain⟨d1,d2⟩:=jW.o.doneR v1 r1
        exact⟨v1,by rw[fD.o];rw[zfN.o],by rw[zfN.o,<-fY.o];exact d1,by rw[<-fY.o];exact d2⟩
structure jF (b:cC):Prop where
 opn:∀(i j:Nat) (d e:bV),b.recs[i]? =some d->b.recs[j]? =some e->eL d=true->eL e=true->(d.c=e.c\/d.l=e.l\/(d.o=e.o/\0<d.o))->i=j
 last:∀(i j:Nat) (d e:bV),b.recs[i]? =some d->eL d=true->b.recs[j]? =some e->e.c=d.c->j<=i
 wt:∀x∈b.wait,∃(i:Nat) (d:bV),b.recs[i]? =some d/\eL d=true/\d.c=x.c/\d.o=0
 bk:(b.back.map bN.c).Nodup
 bo:∀x∈b.back,iS b.recs x.c=none
theorem zjX (h:∀(i:Nat) (d:bV),rs[i]? =some d->eL d=true->d.c≠c):iS rs c=none:=by
 cases ho:iS rs c with
 |none=>rfl
 |some i=>
  obtain⟨d,h1,h2,h3⟩:=C1 ho
  grind
theorem Kw (h:iS rs c=none):∀(i:Nat) (d:bV),rs[i]? =some d->eL d=true->d.c≠c:=by
 intro i d hd ho e;have:(iS rs c).isSome=true:=by
  rw[zcV,zdO];exact⟨d,fI hd,by unfold Bb;rw[ho,e];simp⟩
 simp_all
theorem jF.at_ (h:jF b)(hd:b.recs[i]? =some d)(ho:eL d=true):iS b.recs d.c=some i:=by
 cases e:iS b.recs d.c with
 |none=>exact absurd rfl (Kw e i d hd ho)
 |some j=>
  obtain⟨d',h1,h2,h3⟩:=C1 e;rw[h.opn j i d' d h1 hd h3 ho (.inl h2)]
theorem Mf {r:bV}(h:(rs++[r])[i]? =some d):(i<rs.length/\rs[i]? =some d)\/(i=rs.length/\d=r):=by grind
theorem zeP {r:bV}(h:rs[i]? =some d):(rs++[r])[i]? =some d:=by grind
theorem Hw {j:Nat}(h:(rs.modify i f)[j]? =some z):∃d,rs[j]? =some d/\((i=j/\z=f d)\/(i≠j/\z=d)):=by grind
theorem Vz {j:Nat}(h:rs[j]? =some d)(aV:i≠j):(rs.modify i f)[j]? =some d:=by simp_all
theorem zeV (h:rs[i]? =some d):(rs.modify i f)[i]? =some (f d):=by simp_all
theorem zvX (h:(wA xs c).isSome=false):∀x∈xs,x.c≠c:=by
 unfold wA at h;simp_all
theorem zmA (h:l∈o0 o rs):∀(i:Nat) (d:bV),rs[i]? =some d->eL d=true->d.l≠l:=by
 intro i d hd ho e;unfold o0 x4 at h;have h2:=(Jo.1 h).2;have:rN rs l=true:=by unfold rN;exact zdO.2 ⟨d,fI hd,by simp[e,ho]⟩
 simp_all
variable {op:Int}
theorem zgH (h1:∀d∈rs,1<=d.c)(h:¬0<dO rs op):∀(i:Nat) (d:bV),rs[i]? =some d->eL d=true->d.o≠op:=by
 intro i d hd ho e;unfold dO at h
 cases hf:rs.find? (xE op) with
 |none=>
  have:=zfY.1 hf d (fI hd);unfold xE at this;simp_all
 |some d'=>grind
theorem zi3 (hu:∀(i j:Nat) (d e:bV),rs[i]? =some d->rs[j]? =some e->eL d=true->eL e=true->d.o=op->e.o=op->i=j)(hd:rs[i]? =some d)(ho:eL d=true)(he:d.o=op):dO rs op=d.c:=by
 unfold dO
 cases hf:rs.find? (xE op) with
 |none=>
  have:=zfY.1 hf d (fI hd);unfold xE at this;simp_all
 |some d'=>
  obtain⟨j,hj⟩:=Io.1 (ziV hf);have hp:=zkT hf;unfold xE at hp
  grind
theorem zwU (h:∀(i:Nat) (d:bV),rs[i]? =some d->eL d=true->d.o≠op):dO rs op=0:=by
 unfold dO
 cases hf:rs.find? (xE op) with
 |none=>rfl
 |some d'=>
  obtain⟨j,hj⟩:=Io.1 (ziV hf);have hp:=zkT hf;unfold xE at hp
  grind
theorem zuY (rs:List bV)(op:Int):(∃(i:Nat) (d:bV),rs[i]? =some d/\eL d=true/\d.o=op/\dO rs op=d.c)\/((∀(i:Nat) (d:bV),rs[i]? =some d->eL d=true->d.o≠op)/\dO rs op=0):=by
 unfold dO
 cases hf:rs.find? (xE op) with
 |none=>
  refine .inr ⟨λi d hd ho e=>?_,rfl⟩;have:=zfY.1 hf d (fI hd);unfold xE at this;simp_all
 |some d'=>
  obtain⟨j,hj⟩:=Io.1 (ziV hf);have hp:=zkT hf;unfold xE at hp
  grind
variable {hh:Int}{wait back:List bN}
theorem jF.more (h:jF b){o:Int}{tt:Int}{clk:Int}(hc:iS b.recs c=none)(hl:∀(i:Nat) (d:bV),b.recs[i]? =some d->eL d=true->d.l≠l)(ho:o=0\/∀(i:Nat) (d:bV),b.recs[i]? =some d->eL d=true->d.o≠o)
  (hw:∀x∈wait,x∈b.wait\/(x.c=c/\o=0)) (hb:(back.map bN.c).Nodup) (pU:∀x∈back,x∈b.back/\x.c≠c):jF {b with recs:=b.recs++[⟨c,l,o,clk,hh,tt,eN⟩],wait:=wait,back:=back}:=by
 have hop:eL ⟨c,l,o,clk,hh,tt,eN⟩=true:=by unfold eL;rw[zhb];rfl
 refine⟨λi j d e hi hj hd he hx=>?_,λi j d e hi hd hj hx=>?_,λx hx=>?_,hb,λx hx=>?_⟩
 .rcases Mf hi with⟨zZ,M7⟩|⟨rfl,rfl⟩<;>rcases Mf hj with⟨Lo,Zv⟩|⟨rfl,rfl⟩
  .exact h.opn i j d e M7 Zv hd he hx
  .exfalso
   rcases hx with hx|hx|⟨hx,h0⟩
   .exact Kw hc i d M7 hd hx
   .exact hl i d M7 hd hx
   grind
  .exfalso
   rcases hx with hx|hx|⟨hx,h0⟩
   .exact Kw hc j e Zv he hx.symm
   .grind
   grind
  .rfl
 .rcases Mf hi with⟨zZ,M7⟩|⟨rfl,rfl⟩<;>rcases Mf hj with⟨Lo,Zv⟩|⟨rfl,rfl⟩
  .exact h.last i j d e M7 hd Zv hx
  .exact absurd hx.symm (Kw hc i d M7 hd)
  .omega
  .exact bL _
 .rcases hw x hx with hx|⟨hx,h0⟩
  .obtain⟨i,d,h1,h2⟩:=h.wt x hx
   exact⟨i,d,zeP h1,h2⟩
  .exact⟨b.recs.length,_,by simp_all,hop,hx.symm,h0⟩
 .obtain⟨h1,h2⟩:=pU x hx
  refine zjX λi d hd xL=>?_;rcases Mf hd with⟨_,h3⟩|⟨_,rfl⟩
  .exact Kw (h.bo x h1) i d h3 xL
  grind
theorem jF.ended (h:jF b)(hd:b.recs[i]? =some d)(zem:eL d=true){e:ByteArray}(he:(e.toList==[111,112,101,110])=false)(hw:∀x∈wait,x∈b.wait/\x.c≠d.c)(hb:(back.map bN.c).Nodup)(pU:∀x∈back,x∈b.back\/x.c=d.c):
 jF {b with recs:=Km b i e,wait:=wait,back:=back}:=by
 have nE:∀z:bV,eL {z with t:=b.clk,e:=e}=false:=λz=>he;have old:∀(j:Nat) (z:bV),(Km b i e)[j]? =some z->eL z=true->i≠j/\b.recs[j]? =some z:=λj z hj hz=>by
  obtain⟨d',h1,⟨_,rfl⟩|⟨h2,rfl⟩⟩:=Hw hj
  .simp_all
  .exact⟨h2,h1⟩
 refine⟨λp q x y hp hq hx hy hh=>?_,λp q x y hp hx hq hh=>?_,λx hx=>?_,hb,λx hx=>?_⟩
 .exact h.opn p q x y (old p x hp hx).2 (old q y hq hy).2 hx hy hh
 .obtain⟨d',h1,h2⟩:=Hw hq
  refine h.last p q x d' (old p x hp hx).2 hx h1 ?_
  grind
 .obtain⟨h1,h2⟩:=hw x hx
  obtain⟨j,z,h3,h4,h5,h6⟩:=h.wt x h1;have aV:i≠j:=λe=>by grind
  exact⟨j,z,Vz h3 aV,h4,h5,h6⟩
 .refine zjX λj z hj hz=>?_
  obtain⟨h1,h2⟩:=old j z hj hz;rcases pU x hx with h3|h3
  .exact Kw (h.bo x h3) j z h2 hz
  .rw[h3]
   exact λe=>h1 (h.opn i j d z hd h2 zem hz (.inl e.symm))
theorem jF.heard (h:jF b)(hd:b.recs[i]? =some d)(zem:eL d=true)(hop:∀(j:Nat) (z:bV),b.recs[j]? =some z->eL z=true->z.o≠op)(hw:∀x∈wait,x∈b.wait/\x.c≠d.c):
 jF {b with recs:=b.recs.modify i λd=>{d with o:=op,h:=hh},wait:=wait}:=by
 have yJ:∀z:bV,eL {z with o:=op,h:=hh}=eL z:=λz=>rfl;refine⟨λp q x y hp hq hx hy he=>?_,λp q x y hp hx hq he=>?_,λx hx=>?_,h.bk,λx hx=>?_⟩
 .obtain⟨u,h1,⟨e1,rfl⟩|⟨e1,rfl⟩⟩:=Hw hp<;>obtain⟨v,h2,⟨e2,rfl⟩|⟨e2,rfl⟩⟩:=Hw hq
  .omega
  .refine h.opn p q u y h1 h2 hx hy ?_
   grind
  .refine h.opn p q x v h1 h2 hx hy ?_
   grind
  .exact h.opn p q x y h1 h2 hx hy he
 .obtain⟨u,h1,e1⟩:=Hw hp
  obtain⟨v,h2,e2⟩:=Hw hq;have hu:eL u=true/\x.c=u.c:=by grind
  have hv:y.c=v.c:=by grind
  exact h.last p q u v h1 hu.1 h2 (by rw[<-hv,<-hu.2];exact he)
 .obtain⟨h1,h2⟩:=hw x hx
  obtain⟨j,z,h3,h4,h5,h6⟩:=h.wt x h1;have aV:i≠j:=λe=>by grind
  exact⟨j,z,Vz h3 aV,h4,h5,h6⟩
 .refine zjX λj z hj hz=>?_
  obtain⟨u,h1,e1⟩:=Hw hj;rcases e1 with⟨_,rfl⟩|⟨_,rfl⟩
  .exact Kw (h.bo x hx) j u h1 hz
  .exact Kw (h.bo x hx) j z h1 hz
variable {bt:cC×List UInt8}
def jF.log (h:jF bt.1):jF (F6 bt):=⟨h.opn,h.last,h.wt,h.bk,h.bo⟩
theorem jF.zero (o:fP):jF (mU o):=⟨λi j d e h=>by simp[mU] at h,λi j d e h=>by simp[mU] at h,λx hx=>by simp[mU] at hx,Sf,λx hx=>by simp[mU] at hx⟩
theorem zdR:(G4.toList==[111,112,101,110])=false:=by decide+kernel
theorem ziJ:(Dd.toList==[111,112,101,110])=false:=by decide+kernel
theorem zi6:(Gn.toList==[111,112,101,110])=false:=by decide+kernel
theorem jF.rings (h:jF b)(c:bN):jF (pR b c).1:=by
 unfold pR;split
 .exact h
 .rename_i hk
  simp only[C4,not_or,Bool.not_eq_true] at hk;have hc:iS b.recs c.c=none:=Option.isSome_eq_false_iff.1 hk.1|>Option.isNone_iff_eq_none.1;have hb:=zvX hk.2;split
  .refine⟨h.opn,h.last,h.wt,?_,λx hx=>?_⟩
   .show((b.back++[c]).map bN.c).Nodup
    rw[Uo];refine znE.2 ⟨h.bk,aQ,λa ha e he=>?_⟩
    grind
   .rcases Ju.1 hx with hx|hx
    .exact h.bo x hx
    simp_all
  .rename_i l ls hf
   exact h.more (l:=l) hc (zmA Y2) (.inl rfl) (wait:=uE b.wait c) (λx hx=>by
    have:=(zcP b.wait c).mem_iff.1 hx;rcases lV.1 this with rfl|h'
    .exact .inr ⟨rfl,rfl⟩
    .exact .inl h') h.bk (λx hx=>⟨hx,hb x hx⟩)
theorem jF.answers (h:jF b)(hr:RInv b)(op:Int):jF (n6 b op).1:=by
 unfold n6;split
 .exact h
 .rename_i ht
  have hn:=zgH (λd hd=>(hr.recB d hd).1) ht;split
  .exact h
  .rename_i c cs hw
   split
   .exact h
   .rename_i i hi
    obtain⟨d,h1,h2,h3⟩:=C1 hi;exact h.heard h1 h3 hn (wait:=dZ b.wait c.c) λx hx=>⟨(Ds hx).1,by rw[h2];exact(Ds hx).2⟩
theorem jF.returns (h:jF b)(hr:RInv b)(op:Int):jF (mQ b op).1:=by
 unfold mQ;split
 .exact h
 .rename_i ht
  have hn:=zgH (λd hd=>(hr.recB d hd).1) ht;split
  .exact h
  .rename_i c cs hw
   split
   .exact h
   .rename_i l ls hf
    exact h.more (l:=l) (h.bo c (by rw[hw];simp)) (zmA Y2) (.inr hn) (wait:=b.wait) (back:=dZ b.back c.c) (λx hx=>.inl hx) (zgx h.bk) (λx hx=>Ds hx)
theorem jF.hangs (h:jF b)(c:Int):jF (nD b c).1:=by
 unfold nD;split
 .rename_i i hi
  obtain⟨d,h1,h2,h3⟩:=C1 hi;have hw:∀x∈dZ b.wait (Hu b.recs i),x∈b.wait/\x.c≠d.c:=λx hx=>⟨(Ds hx).1,by rw[<-Ur h1];exact(Ds hx).2⟩;split
  .exact h.ended h1 h3 zdR hw h.bk λx hx=>.inl hx
  .exact h.ended h1 h3 ziJ hw h.bk λx hx=>.inl hx
 .split
  .exact⟨h.opn,h.last,h.wt,zgx h.bk,λx hx=>h.bo x (Ds hx).1⟩
  .exact h
theorem jF.tire (h:jF b):jF (lT (b,t) x).1:=by
 unfold lT;split
 .exact h
 .rename_i i hi
  split
  .obtain⟨d,h1,h2,h3⟩:=C1 hi
   refine h.ended (wait:=dZ b.wait (Hu b.recs i)) (back:=b.back++[x]) h1 h3 zi6 (λy hy=>⟨(Ds hy).1,by rw[<-Ur h1];exact(Ds hy).2⟩) ?_ λy hy=>?_
   .rw[Uo]
    refine znE.2 ⟨h.bk,aQ,λa ha e he=>?_⟩;obtain⟨y,hy,rfl⟩:=zaL.1 ha;simp at he;subst he;exact λe=>Kw (h.bo y hy) i d h1 h3 (by rw[h2,e])
   grind
  .exact h
theorem jF.tires:∀(xs:List bN) (b:cC) (t:List UInt8),jF b->jF (xs.foldl lT (b,t)).1:=by
 intro xs
 induction xs with
 |nil=>intro b t h;exact h
 |cons x xs ih=>
  intro b t h;rw[Pb];have h1:=h.tire (t:=t) (x:=x);simp_all
theorem jF.step {b:cC}(h:jF b)(hr:RInv b)(e:dQ):jF (eB b e).1:=by
 unfold eB;split
 .exact h.rings _
 .split
  .exact h.answers hr _
  .split
   .exact h.returns hr _
   .split
    .exact h.hangs _
    .unfold uQ
     exact jF.tires _ _ _ ⟨h.opn,h.last,h.wt,h.bk,h.bo⟩
theorem zxB (h:eM o es=true):∀k,k<=es.length->jF (lP o es k):=by
 intro k
 induction k with
 |zero=>intro _;exact jF.zero o
 |succ k ih=>
  intro hk;have aU:k<es.length:=aC;rw[Q2 (nI aU)];exact jF.log ((ih aC).step (Pq h k aC).1 _)
end Go.Proofs.YtfcjiloojkjaeaaGreatDoor
namespace Go.Mt
open Go.Conc
inductive fC where
 |ask (i:Nat) (kind call anz:Int)
 |shut (i:Nat)
inductive gN where
 |mN (qs:List Nat)
 |mA (qs:List Nat) (a:Nat)
 |mS (qs:List Nat) (a:Nat)
 |mW (qs:List Nat)
 |mZ
 |op (c:Nat) (call:Int) (m:Nat)
 |an (c:Nat) (call:Int) (a:Nat) (m:Nat)
 |oD
 |wk (qs:List Nat) (k:Nat)
 |wr (qs:List Nat) (k:Nat) (a:Nat)
def quV (kind call:Int)(a:Nat):Value:=.agg #[.int .i64 kind,.int .i64 call,.chan (some a)]
def unQ:aF->Option (Int×Int×Nat)
 | .agg xs=>match xs.toList with
  |[.int .i64 kd,.int .i64 cl,.chan (some a)]=>some (kd,cl,a)
  |_=>none
 |_=>none
def zgJ (kd cl:Int)(a:Nat):unQ (quV kd cl a)=some (kd,cl,a):=rfl
variable {kd cl:Int}
theorem unQ_inv {v:aF}{a:Nat}(h:unQ v=some (kd,cl,a)):v=quV kd cl a:=by
 unfold unQ at h;split at h
 .rename_i xs
  split at h
  .rename_i e
   simp only[jS,Prod.mk.injEq] at h;obtain⟨rfl,rfl,rfl⟩:=h;unfold quV;congr 1;exact Array.ext' e
  .cases h
 .cases h
def qa (qs:List Nat)(j:Nat):Nat:=qs.getD j 0
def Ra (c:Nat)(call:Int)(m:Nat)(v:aF):gN:=match unQ v with|some (kd,cl,a)=>.an c (if kd=1 then cl else call) a (m-1)|none=>.oD
def zeE (i:Nat):fC->Bool
 | .ask j _ _ _=>j==i
 |_=>false
def oI (W:List fC)(k i:Nat):Nat:=(W.drop k).countP (zeE i)
variable {W:List fC}
theorem zpz {k i:Nat}{anz:Int}(h:W[k]? =some (.ask i kd cl anz))(j:Nat):oI W k j=oI W (k+1) j+if j=i then 1 else 0:=by
 obtain⟨hl,he⟩:=l8.1 h;unfold oI;rw[zg2 hl,he,zvz];by_cases e:j=i
 .subst e;simp[zeE]
 .have:¬i=j:=λx=>e x.symm
  simp[zeE,e,this]
theorem zB6 {k i:Nat}(h:W[k]? =some (.shut i))(j:Nat):oI W (k+1) j=oI W k j:=by
 obtain⟨hl,he⟩:=l8.1 h;unfold oI;rw[zg2 hl,he,zvz];simp[zeE]
def O9 (v:aF):List Nat:=match unQ v with|some (_,_,a)=>[a]|none=>[]
def Z9 (qs:List Nat)(k:Nat)(v:aF):gN:=match unQ v with|some (_,_,a)=>.wr qs k a|none=>.oD
def Zm (W:List fC)(k:Nat)(v:aF):Prop:=match W[k]? with|some (.ask _ _ _ anz)=>v=.int .i64 anz|_=>False
def eP (N:Nat)(W:List fC):gN->Act gN
 | .mN qs=>if qs.length<N then .note (λl'=>∃a,l'=.mA qs a) else .add (.mW qs)
 | .mA qs a=>.add (.mS qs a)
 | .mS qs a=>.spawn [a] (.op a 0 (oI W 0 qs.length)) (.mN (qs++[a]))
 | .mW qs=>.spawn [] (.wk qs 0) .mZ
 | .mZ=>.wait
 | .op c call m=>.recv c (λv=>(unQ v).isSome=true/\0<m) (Ra c call m) .oD
 | .an c call a m=>.send a (λv=>v=.int .i64 call) (λ_=>[]) (λ_=>.op c call m)
 | .oD=>.done
 | .wk qs k=>match W[k]? with
  |none=>.done
  |some (.ask i kd cl _)=>.send (qa qs i) (λv=>∃a,v=quV kd cl a) O9 (Z9 qs k)
  |some (.shut i)=>.close (qa qs i) (.wk qs (k+1))
 | .wr qs k a=>.recv a (Zm W k) (λ_=>.wk qs (k+1)) .oD
def gN.pend:gN->Bool
 | .mS _ _| .mW _=>true
 |_=>false
def lE (W:List fC):Nat->Nat->Int
 |0,_=>0
 |k+1,i=>match W[k]? with
  |some (.ask j kd cl _)=>if i=j then(if kd=1 then cl else lE W k i) else lE W k i
  |_=>lE W k i
def fS (W:List fC):Nat->Nat->Bool
 |0,_=>false
 |k+1,i=>match W[k]? with
  |some (.shut j)=>if i=j then true else fS W k i
  |_=>fS W k i
structure WOk (N:Nat)(W:List fC):Prop where
 ask:∀k i kd cl anz,W[k]? =some (.ask i kd cl anz)->i<N/\fS W k i=false/\anz=lE W (k+1) i
 shut:∀k i,W[k]? =some (.shut i)->i<N/\fS W k i=false
 all:∀i,i<N->fS W W.length i=true
structure Ops (n:Nat)(ix:Nat->Nat)(q:Nat->Pj gN)(F:Nat->Pj gN->Prop):Prop where
 ne:∀j,j<n->ix j≠0
 inj:∀j j',j<n->j'<n->ix j=ix j'->j=j'
 at_:∀j,j<n->F j (q (ix j))
structure Qs (n:Nat)(qs:List Nat):Prop where
 len:qs.length=n
 inj:∀j j',j<n->j'<n->qa qs j=qa qs j'->j=j'
def Jh (W:List fC)(qs:List Nat)(k j:Nat)(p:Pj gN):Prop:=
 p=.run (.op (qa qs j) (lE W k j) (oI W k j))\/(fS W k j=true/\(p=.run .oD\/p=.over .oD))
inductive We (N:Nat)(W:List fC)(q:Nat->Pj gN)(ch:rU):Prop
 |a (n:Nat) (qs:List Nat) (ix:Nat->Nat) (l:gN):Qs n qs->n<=N->(l=.mN qs\/(n<N/\∃a,l=.mA qs a\/l=.mS qs a)\/(l=.mW qs/\n=N))->q 0=.run l->Ops n ix q (λj p=>p=.run (.op (qa qs j) 0 (oI W 0 j)))->
  (∀j,j<n->ch (qa qs j)=some false)->(∀i,i≠0->(∀j,j<n->i≠ix j)->q i=.gone)->We N W q ch
 |b (qs:List Nat) (ix:Nat->Nat) (iw k:Nat):Qs N qs->k<=W.length->iw≠0->(∀j,j<N->ix j≠iw)->(q 0=.run .mZ\/q 0=.waits)->(q iw=.run (.wk qs k)\/(k=W.length/\q iw=.over (.wk qs k)))->
  Ops N ix q (Jh W qs k)->(∀j,j<N->ch (qa qs j)=some (fS W k j))->(∀i,i≠0->i≠iw->(∀j,j<N->i≠ix j)->q i=.gone)->We N W q ch
 |c (qs:List Nat) (ix:Nat->Nat) (iw k i:Nat) (kd cl anz:Int) (a:Nat):Qs N qs->W[k]? =some (.ask i kd cl anz)->iw≠0->(∀j,j<N->ix j≠iw)->(q 0=.run .mZ\/q 0=.waits)->q iw=.run (.wr qs k a)->
  Ops N ix q (λj p=>if j=i then p=.run (.an (qa qs j) (lE W (k+1) j) a (oI W (k+1) j)) else Jh W qs k j p)->(∀j,j<N->ch (qa qs j)=some (fS W k j))->ch a=some false->(∀j,j<N->qa qs j≠a)->
  (∀i,i≠0->i≠iw->(∀j,j<N->i≠ix j)->q i=.gone)->We N W q ch
def Cr (N:Nat)(W:List fC)(D:aE->Prop):jN gN where
 act:=eP N W
 dep:=λl w=>match l with| .wk _ _=>D w|_=>True
 pend:=gN.pend
 cl:=λl=>match l with| .op _ _ _=>True|_=>False
 Inv:=We N W
 got:=λl v=>match l with| .op _ _ _=>O9 v|_=>[]
section
variable {N:Nat}{W:List fC}
variable {l:gN}{ok:aF->Prop}{nx:aF->gN}
theorem zlU {c:Nat}{pub:aF->List Nat}(h:eP N W l=.send c ok pub nx):
 (∃c0 call m,l=.an c0 call c m/\ok=(λv=>v=.int .i64 call)/\pub=(λ_=>[])/\nx=λ_=>.op c0 call m)\/
 (∃qs k i kd cl anz,l=.wk qs k/\W[k]? =some (.ask i kd cl anz)/\c=qa qs i/\ok=(λv=>∃a,v=quV kd cl a)/\pub=O9/\nx=Z9 qs k):=by
 cases l with
 |mN qs=>simp only[eP] at h;split at h<;>cases h
 |an c0 call a m=>simp only[eP] at h;cases h;grind
 |wk qs k=>
  simp only[eP] at h
  grind
 |_=>simp only[eP] at h;cases h
theorem Wa {c:Nat}{sh:gN}(h:eP N W l=.recv c ok nx sh):
 (∃call m,l=.op c call m/\ok=(λv=>(unQ v).isSome=true/\0<m)/\nx=Ra c call m/\sh=.oD)\/(∃qs k,l=.wr qs k c/\ok=Zm W k/\nx=(λ_=>.wk qs (k+1))/\sh=.oD):=by
 cases l with
 |mN qs=>simp only[eP] at h;split at h<;>cases h
 |op c0 call m=>simp only[eP] at h;grind
 |wk qs k=>simp only[eP] at h;split at h<;>cases h
 |wr qs k a=>simp only[eP] at h;cases h;grind
 |_=>simp only[eP] at h;cases h
variable {nx:gN}
theorem ztg {c:Nat}(h:eP N W l=.close c nx):∃qs k i,l=.wk qs k/\W[k]? =some (.shut i)/\c=qa qs i/\nx=.wk qs (k+1):=by
 cases l with
 |mN qs=>simp only[eP] at h;split at h<;>cases h
 |wk qs k=>
  simp only[eP] at h
  grind
 |_=>simp only[eP] at h;cases h
theorem zBx (h:eP N W l=.add nx):(∃qs,l=.mN qs/\¬qs.length<N/\nx=.mW qs)\/∃qs a,l=.mA qs a/\nx=.mS qs a:=by
 cases l with
 |mN qs=>
  simp only[eP] at h
  grind
 |mA qs a=>simp only[eP] at h;grind
 |wk qs k=>simp only[eP] at h;split at h<;>cases h
 |_=>simp only[eP] at h;cases h
theorem zEp {lc:gN}{pub:List Nat}(h:eP N W l=.spawn pub lc nx):(∃qs a,l=.mS qs a/\pub=[a]/\lc=.op a 0 (oI W 0 qs.length)/\nx=.mN (qs++[a]))\/∃qs,l=.mW qs/\pub=[]/\lc=.wk qs 0/\nx=.mZ:=by
 cases l with
 |mN qs=>simp only[eP] at h;split at h<;>cases h
 |mS qs a=>simp only[eP] at h;grind
 |mW qs=>simp only[eP] at h;simp_all
 |wk qs k=>simp only[eP] at h;split at h<;>cases h
 |_=>simp only[eP] at h;cases h
theorem zFg (h:eP N W l=.done):l=.oD\/∃qs k,l=.wk qs k/\W[k]? =none:=by
 cases l with
 |mN qs=>simp only[eP] at h;split at h<;>cases h
 |oD=>exact .inl rfl
 |wk qs k=>
  simp only[eP] at h
  grind
 |_=>simp only[eP] at h;cases h
theorem zE0 (h:eP N W l=.wait):l=.mZ:=by
 cases l with
 |mN qs=>simp only[eP] at h;split at h<;>cases h
 |mZ=>rfl
 |wk qs k=>simp only[eP] at h;split at h<;>cases h
 |_=>simp only[eP] at h;cases h
theorem zDO {can:gN->Prop}(h:eP N W l=.note can):∃qs,l=.mN qs/\qs.length<N/\can=λl'=>∃a,l'=.mA qs a:=by
 cases l with
 |mN qs=>
  simp only[eP] at h
  grind
 |wk qs k=>simp only[eP] at h;split at h<;>cases h
 |_=>simp only[eP] at h;cases h
variable {anz:Int}
theorem zpP {k i:Nat}{kd cl:Int}(h:W[k]? =some (.ask i kd cl anz))(j:Nat):lE W (k+1) j=if j=i then(if kd=1 then cl else lE W k j) else lE W k j:=by simp only[lE,h]
theorem zpS {k i:Nat}{kd cl:Int}(h:W[k]? =some (.ask i kd cl anz))(j:Nat):fS W (k+1) j=fS W k j:=by simp only[fS,h]
theorem zIT {k i:Nat}(h:W[k]? =some (.shut i))(j:Nat):lE W (k+1) j=lE W k j:=by simp only[lE,h]
theorem zrL {k i:Nat}(h:W[k]? =some (.shut i))(j:Nat):fS W (k+1) j=if j=i then true else fS W k j:=by simp only[fS,h]
def wk_lt {k:Nat}{x:fC}(h:W[k]? =some x):k<W.length:=(l8.1 h).1
end
section
variable {N:Nat}{W:List fC}{q:Nat->Pj gN}{ch:rU}
theorem zlE {n:Nat}{ix:Nat->Nat}{iw:Nat}(hg:∀i,i≠0->i≠iw->(∀j,j<n->i≠ix j)->q i=.gone){i:Nat}{l:gN}(h:q i=.run l):i=0\/i=iw\/∃j,j<n/\i=ix j:=by grind
theorem zp7 {qs:List Nat}{k j:Nat}{l:gN}(h:Jh W qs k j (.run l)):l=.op (qa qs j) (lE W k j) (oI W k j)\/(fS W k j=true/\l=.oD):=by
 rcases h with h|⟨h1,h|h⟩
 .cases h;exact .inl rfl
 .simp_all
 .cases h
theorem zeg {l:gN}(h:(∃qs,l=.mN qs)\/(∃qs a,l=.mA qs a)\/(∃qs a,l=.mS qs a)\/(∃qs,l=.mW qs)\/l=.mZ):(∀c ok pub nx,eP N W l≠ .send c ok pub nx)/\(∀c ok nx sh,eP N W l≠ .recv c ok nx sh)/\(∀c nx,eP N W l≠ .close c nx)/\eP N W l≠ .done:=by
 rcases h with⟨qs,rfl⟩|⟨qs,a,rfl⟩|⟨qs,a,rfl⟩|⟨qs,rfl⟩|rfl
 .simp only[eP]
  split<;>simp
 all_goals simp[eP]
theorem znW {n:Nat}{qs:List Nat}{l:gN}(h:l=.mN qs\/(n<N/\∃a,l=.mA qs a\/l=.mS qs a)\/(l=.mW qs/\n=N)):(∃qs,l=.mN qs)\/(∃qs a,l=.mA qs a)\/(∃qs a,l=.mS qs a)\/(∃qs,l=.mW qs)\/l=.mZ:=by grind
section
variable {n:Nat}{qs:List Nat}{ix:Nat->Nat}{iw k i0:Nat}{i c a:Nat}{l l0:gN}
theorem Pf (hl:l0=.mN qs\/(n<N/\∃a,l0=.mA qs a\/l0=.mS qs a)\/(l0=.mW qs/\n=N))(h0:q 0=.run l0)(ho:Ops n ix q (λj p=>p=.run (.op (qa qs j) 0 (oI W 0 j))))(hg:∀i,i≠0->(∀j,j<n->i≠ix j)->q i=.gone)(hi:q i=.run l):(i=0/\l=l0)\/∃j,j<n/\i=ix j/\l=.op (qa qs j) 0 (oI W 0 j):=by
 rcases zlE (iw:=0) (λi h1 _ h3=>hg i h1 h3) hi with rfl|rfl|⟨j,hj,rfl⟩
 .simp_all
 .simp_all
 .have:=ho.at_ j hj;grind
theorem No (h0:q 0=.run .mZ\/q 0=.waits)(cU:q iw=.run (.wk qs k)\/(k=W.length/\q iw=.over (.wk qs k)))(ho:Ops N ix q (Jh W qs k))(hg:∀i,i≠0->i≠iw->(∀j,j<N->i≠ix j)->q i=.gone)(hi:q i=.run l):
 (i=0/\l=.mZ)\/(i=iw/\l=.wk qs k)\/∃j,j<N/\i=ix j/\(l=.op (qa qs j) (lE W k j) (oI W k j)\/(fS W k j=true/\l=.oD)):=by
 rcases zlE hg hi with rfl|rfl|⟨j,hj,rfl⟩
 .simp_all
 .simp_all
 .have:=ho.at_ j hj;rw[hi] at this
  exact .inr (.inr ⟨j,hj,rfl,zp7 this⟩)
theorem Qx (h0:q 0=.run .mZ\/q 0=.waits)(cU:q iw=.run (.wr qs k a))(ho:Ops N ix q (λj p=>if j=i0 then p=.run (.an (qa qs j) (lE W (k+1) j) a (oI W (k+1) j)) else Jh W qs k j p))(hg:∀i,i≠0->i≠iw->(∀j,j<N->i≠ix j)->q i=.gone)(hi:q i=.run l):
 (i=0/\l=.mZ)\/(i=iw/\l=.wr qs k a)\/∃j,j<N/\i=ix j/\((j=i0/\l=.an (qa qs j) (lE W (k+1) j) a (oI W (k+1) j))\/(j≠i0/\(l=.op (qa qs j) (lE W k j) (oI W k j)\/(fS W k j=true/\l=.oD)))):=by
 rcases zlE hg hi with rfl|rfl|⟨j,hj,rfl⟩
 .simp_all
 .simp_all
 .have:=ho.at_ j hj
  simp only[hi] at this;split at this
  .grind
  .rename_i e;exact .inr (.inr ⟨j,hj,rfl,.inr ⟨e,zp7 this⟩⟩)
variable {ok:aF->Prop}{pub:aF->List Nat}{nx:aF->gN}{sh:gN}
theorem zbR (h0:q 0=.run .mZ\/q 0=.waits)(cU:q iw=.run (.wk qs k)\/(k=W.length/\q iw=.over (.wk qs k)))(ho:Ops N ix q (Jh W qs k))(hg:∀i,i≠0->i≠iw->(∀j,j<N->i≠ix j)->q i=.gone)(hi:q i=.run l)(ha:eP N W l=.send c ok pub nx):
 i=iw/\l=.wk qs k/\∃j kd cl anz,W[k]? =some (.ask j kd cl anz)/\c=qa qs j/\ok=(λv=>∃a,v=quV kd cl a)/\pub=O9/\nx=Z9 qs k:=by
 rcases No h0 cU ho hg hi with⟨rfl,rfl⟩|⟨rfl,rfl⟩|⟨j,hj,rfl,rfl|⟨_,rfl⟩⟩
 .cases ha
 .rcases zlU ha with⟨_,_,_,e,_⟩|⟨Qb,k',j,kd,cl,anz,e,h1,h2,h3,h4,h5⟩
  .cases e
  .grind
 .cases ha
 .cases ha
theorem Zf (h0:q 0=.run .mZ\/q 0=.waits)(cU:q iw=.run (.wk qs k)\/(k=W.length/\q iw=.over (.wk qs k)))(ho:Ops N ix q (Jh W qs k))(hg:∀i,i≠0->i≠iw->(∀j,j<N->i≠ix j)->q i=.gone)(hi:q i=.run l)(ha:eP N W l=.recv c ok nx sh):
 ∃j,j<N/\i=ix j/\l=.op (qa qs j) (lE W k j) (oI W k j)/\c=qa qs j/\ok=(λv=>(unQ v).isSome=true/\0<oI W k j)/\nx=Ra c (lE W k j) (oI W k j)/\sh=.oD:=by
 rcases No h0 cU ho hg hi with⟨rfl,rfl⟩|⟨rfl,rfl⟩|⟨j,hj,rfl,rfl|⟨_,rfl⟩⟩
 .cases ha
 .rcases Wa ha with⟨_,_,e,_⟩|⟨_,_,e,_⟩<;>cases e
 .rcases Wa ha with⟨_,_,e,h1,h2,h3⟩|⟨_,_,e,_⟩<;>cases e
  grind
 .cases ha
theorem zbT (h0:q 0=.run .mZ\/q 0=.waits)(cU:q iw=.run (.wr qs k a))(ho:Ops N ix q (λj p=>if j=i0 then p=.run (.an (qa qs j) (lE W (k+1) j) a (oI W (k+1) j)) else Jh W qs k j p))(hg:∀i,i≠0->i≠iw->(∀j,j<N->i≠ix j)->q i=.gone)(hi:q i=.run l)(ha:eP N W l=.send c ok pub nx):
 i0<N/\i=ix i0/\l=.an (qa qs i0) (lE W (k+1) i0) a (oI W (k+1) i0)/\c=a/\ok=(λv=>v=.int .i64 (lE W (k+1) i0))/\pub=(λ_=>[])/\nx=λ_=>.op (qa qs i0) (lE W (k+1) i0) (oI W (k+1) i0):=by
 rcases Qx h0 cU ho hg hi with⟨rfl,rfl⟩|⟨rfl,rfl⟩|⟨j,hj,rfl,⟨rfl,rfl⟩|⟨_,rfl|⟨_,rfl⟩⟩⟩
 .cases ha
 .cases ha
 .rcases zlU ha with⟨_,_,_,e,h1,h2,h3⟩|⟨_,_,_,_,_,_,e,_⟩<;>cases e
  simp_all
 .cases ha
 .cases ha
theorem Vn (h0:q 0=.run .mZ\/q 0=.waits)(cU:q iw=.run (.wr qs k a))(ho:Ops N ix q (λj p=>if j=i0 then p=.run (.an (qa qs j) (lE W (k+1) j) a (oI W (k+1) j)) else Jh W qs k j p))(hg:∀i,i≠0->i≠iw->(∀j,j<N->i≠ix j)->q i=.gone)(hi:q i=.run l)(ha:eP N W l=.recv c ok nx sh):
 (i=iw/\l=.wr qs k a/\c=a/\ok=Zm W k/\nx=(λ_=>.wk qs (k+1)))\/∃j,j<N/\j≠i0/\i=ix j/\l=.op (qa qs j) (lE W k j) (oI W k j)/\c=qa qs j/\sh=.oD:=by
 rcases Qx h0 cU ho hg hi with⟨rfl,rfl⟩|⟨rfl,rfl⟩|⟨j,hj,rfl,⟨rfl,rfl⟩|⟨aV,rfl|⟨_,rfl⟩⟩⟩
 .cases ha
 .rcases Wa ha with⟨_,_,e,_⟩|⟨_,_,e,h1,h2,h3⟩<;>cases e
  simp_all
 .cases ha
 .rcases Wa ha with⟨_,_,e,h1,h2,h3⟩|⟨_,_,e,_⟩<;>cases e
  grind
 .cases ha
theorem zeG (hl:l0=.mN qs\/(n<N/\∃a,l0=.mA qs a\/l0=.mS qs a)\/(l0=.mW qs/\n=N))(h0:q 0=.run l0)(ho:Ops n ix q (λj p=>p=.run (.op (qa qs j) 0 (oI W 0 j))))(hg:∀i,i≠0->(∀j,j<n->i≠ix j)->q i=.gone)(hi:q i=.run l)(ha:eP N W l=.send c ok pub nx):False:=by
 rcases Pf hl h0 ho hg hi with⟨rfl,rfl⟩|⟨j,hj,rfl,rfl⟩
 .exact(zeg (znW hl)).1 _ _ _ _ ha
 .cases ha
theorem zhm (hl:l0=.mN qs\/(n<N/\∃a,l0=.mA qs a\/l0=.mS qs a)\/(l0=.mW qs/\n=N))(h0:q 0=.run l0)(ho:Ops n ix q (λj p=>p=.run (.op (qa qs j) 0 (oI W 0 j))))(hg:∀i,i≠0->(∀j,j<n->i≠ix j)->q i=.gone)(hi:q i=.run l)(ha:eP N W l=.recv c ok nx sh):∃j,j<n/\i=ix j/\l=.op (qa qs j) 0 (oI W 0 j)/\c=qa qs j:=by
 rcases Pf hl h0 ho hg hi with⟨rfl,rfl⟩|⟨j,hj,rfl,rfl⟩
 .exact((zeg (znW hl)).2.1 _ _ _ _ ha).elim
 .rcases Wa ha with⟨_,_,e,h1,h2,h3⟩|⟨_,_,e,_⟩<;>cases e
  grind
end
end
variable {L:Type}
theorem num_upd (q:Nat->Pj L)(s:Nat):∀n,num q n<=num (bJ q s .gone) n+1:=by
 have ind:∀n,num q n<=num (bJ q s .gone) n+(if s<n then 1 else 0):=by
  intro n
  induction n with
  |zero=>simp[num]
  |succ n ih=>
   simp only[num];have hc:(q n).c<=1:=by cases q n<;>simp[Pj.c]
   by_cases h:n=s
   .grind
   .rw[upd_ne _ _ h]
    grind
 grind
theorem zEJ :∀(S:List Nat) (q:Nat->Pj L),(∀i,i∉S->q i=.gone)->∀n,num q n<=S.length:=by
 intro S
 induction S with
 |nil=>
  intro q h n
  induction n with
  |zero=>simp[num]
  |succ n ih=>simp only[num];rw[h n aQ];simpa[Pj.c] using ih
 |cons s S ih=>
  intro q h n;have h1:=num_upd q s n;have h2:=ih (bJ q s .gone) (λi hi=>by
   by_cases e:i=s
   .subst e;exact upd_same _ _ _
   .rw[upd_ne _ _ e];exact h i (by simp[e,hi])) n
  grind
section
variable {N:Nat}{W:List fC}{q:Nat->Pj gN}{ch:rU}
theorem zv7 (ch:rU):ch.opn []=ch:=by funext c;simp[rU.opn]
theorem zyp {ch:rU}{a c:Nat}(h:c≠a):ch.opn [a] c=ch c:=by simp[rU.opn,h]
theorem zoK (ch:rU)(a:Nat):ch.opn [a] a=some false:=by simp[rU.opn]
theorem Zz {qs:List Nat}{n:Nat}(h:qs.length=n){j:Nat}(hj:j<n)(a:Nat):qa (qs++[a]) j=qa qs j:=by
 unfold qa
 grind
theorem zgX {qs:List Nat}{n:Nat}(h:qs.length=n)(a:Nat):qa (qs++[a]) n=a:=by
 unfold qa;simp_all
theorem zuU {D:aE->Prop}{l:gN}(h:(∃qs,l=.mN qs)\/(∃qs a,l=.mA qs a)\/(∃qs a,l=.mS qs a)\/(∃qs,l=.mW qs)\/l=.mZ):¬(Cr N W D).Blocked q ch l:=by
 unfold jN.Blocked;split
 .rename_i e;exact((zeg h).1 _ _ _ _ e).elim
 .rename_i e;exact((zeg h).2.1 _ _ _ _ e).elim
 .exact id
theorem zAb (N:Nat)(W:List fC)(D:aE->Prop)(hW:WOk N W)(hN:N<=1000000):(Cr N W D).Ok where
 send1:=by
  intro q ch i j li lj c ok pub nx sM Xk p8 hI hi hj ha hb
  cases hI with
  |a n qs ix l0 hq hn hl h0 ho hc hg=>exact(zeG hl h0 ho hg hi ha).elim
  |b qs ix iw k hq hk hw aV h0 cU ho hc hg=>rw[(zbR h0 cU ho hg hi ha).1,(zbR h0 cU ho hg hj hb).1]
  |c qs ix iw k i0 kd cl anz a hq hk hw aV h0 cU ho hc rD oN hg=>rw[(zbT h0 cU ho hg hi ha).2.1,(zbT h0 cU ho hg hj hb).2.1]
 recv1:=by
  intro q ch i j li lj c ok nx sh sM p8 xJ hI hi hj ha hb
  cases hI with
  |a n qs ix l0 hq hn hl h0 ho hc hg=>
   obtain⟨j1,h1,rfl,_,c1⟩:=zhm hl h0 ho hg hi ha;obtain⟨j2,h2,rfl,_,c2⟩:=zhm hl h0 ho hg hj hb;rw[hq.inj j1 j2 h1 h2 (c1.symm.trans c2)]
  |b qs ix iw k hq hk hw aV h0 cU ho hc hg=>
   obtain⟨j1,h1,rfl,_,c1,_⟩:=Zf h0 cU ho hg hi ha;obtain⟨j2,h2,rfl,_,c2,_⟩:=Zf h0 cU ho hg hj hb;rw[hq.inj j1 j2 h1 h2 (c1.symm.trans c2)]
  |c qs ix iw k i0 kd cl anz a hq hk hw aV h0 cU ho hc rD oN hg=>
   rcases Vn h0 cU ho hg hi ha with⟨rfl,_,rfl,_⟩|⟨j1,h1,_,rfl,_,c1,_⟩<;>rcases Vn h0 cU ho hg hj hb with⟨rfl,_,e2,_⟩|⟨j2,h2,_,rfl,_,c2,_⟩
   .rfl
   .grind
   .grind
   .rw[hq.inj j1 j2 h1 h2 (c1.symm.trans c2)]
 sendC:=by
  intro q ch i l c ok pub nx hI hi ha
  cases hI with
  |a n qs ix l0 hq hn hl h0 ho hc hg=>exact(zeG hl h0 ho hg hi ha).elim
  |b qs ix iw k hq hk hw aV h0 cU ho hc hg=>
   obtain⟨rfl,rfl,j,kd,cl,anz,h1,rfl,_⟩:=zbR h0 cU ho hg hi ha;obtain⟨h2,h3,_⟩:=hW.ask k j kd cl anz h1;rw[hc j h2,h3]
  |c qs ix iw k i0 kd cl anz a hq hk hw aV h0 cU ho hc rD oN hg=>
   obtain⟨_,_,_,rfl,_⟩:=zbT h0 cU ho hg hi ha;exact rD
 recvC:=by
  intro q ch i l c ok nx sh hI hi ha
  cases hI with
  |a n qs ix l0 hq hn hl h0 ho hc hg=>
   obtain⟨j1,h1,rfl,_,rfl⟩:=zhm hl h0 ho hg hi ha;exact⟨_,hc j1 h1⟩
  |b qs ix iw k hq hk hw aV h0 cU ho hc hg=>
   obtain⟨j1,h1,rfl,_,rfl,_⟩:=Zf h0 cU ho hg hi ha;exact⟨_,hc j1 h1⟩
  |c qs ix iw k i0 kd cl anz a hq hk hw aV h0 cU ho hc rD oN hg=>
   rcases Vn h0 cU ho hg hi ha with⟨rfl,_,rfl,_⟩|⟨j1,h1,_,rfl,_,rfl,_⟩
   .exact⟨_,rD⟩
   simp_all
 meet:=by
  intro q ch i j li lj c ok pub nx sM p8 sh v hI hi hj ha hb hv hp
  cases hI with
  |a n qs ix l0 hq hn hl h0 ho hc hg=>exact(zeG hl h0 ho hg hi ha).elim
  |b qs ix iw k hq hk hw aV h0 cU ho hc hg=>
   obtain⟨rfl,rfl,j0,kd,cl,anz,h1,rfl,rfl,rfl,rfl⟩:=zbR h0 cU ho hg hi ha;obtain⟨j1,Lo,rfl,rfl,wZ,rfl,rfl,_⟩:=Zf h0 cU ho hg hj hb;obtain rfl:=hq.inj j0 j1 (hW.ask k j0 kd cl anz h1).1 Lo wZ;obtain⟨a,rfl⟩:=hv;have Su:ch a=none:=hp a (by simp[O9,zgJ]);have oN:∀j,j<N->qa qs j≠a:=λj hj e=>by grind
   have hR:=zpz h1 j0;rw[if_pos rfl] at hR;refine⟨⟨by simp[zgJ],aC⟩,?_⟩;show We N W (bJ (bJ q i (.run (.wr qs k a))) (ix j0) (.run (.an (qa qs j0) (if kd=1 then cl else lE W k j0) a (oI W k j0-1)))) (ch.opn [a]);rw[show oI W k j0-1=oI W (k+1) j0 by omega];refine .c qs ix i k j0 kd cl anz a hq h1 hw aV ?_ ?_ ⟨ho.ne,ho.inj,λj hj=>?_⟩ (λj hj=>by rw[zyp (oN j hj)];exact hc j hj) (zoK _ _) oN λi' g0 g1 g2=>?_
   .rw[upd_ne _ _ (Ne.symm (ho.ne j0 Lo)),upd_ne _ _ (Ne.symm hw)];exact h0
   .rw[upd_ne _ _ (Ne.symm (aV j0 Lo)),upd_same]
   .by_cases e:j=j0
    .subst e;rw[if_pos rfl,upd_same,zpP h1,if_pos rfl]
    .rw[if_neg e,upd_ne _ _ (λh=>e (ho.inj j j0 hj Lo h)),upd_ne _ _ (aV j hj)]
     exact ho.at_ j hj
   .rw[upd_ne _ _ (g2 j0 Lo),upd_ne _ _ g1];exact hg i' g0 g1 g2
  |c qs ix iw k i0 kd cl anz a hq hk hw aV h0 cU ho hc rD oN hg=>
   obtain⟨fN,rfl,rfl,rfl,rfl,rfl,rfl⟩:=zbT h0 cU ho hg hi ha;rcases Vn h0 cU ho hg hj hb with⟨rfl,rfl,_,rfl,rfl⟩|⟨j1,Lo,_,rfl,_,wZ,_⟩
   .refine⟨?_,?_⟩
    .unfold Zm;rw[hk]
     show v=_;rw[(hW.ask k i0 kd cl anz hk).2.2];exact hv
    .rw[zv7]
     refine .b qs ix j (k+1) hq (wk_lt hk) hw aV ?_ (.inl (upd_same _ _ _)) ⟨ho.ne,ho.inj,λj' rG=>?_⟩ (λj' rG=>by rw[zpS hk];exact hc j' rG) λi' g0 g1 g2=>?_
     .rw[upd_ne _ _ (Ne.symm hw),upd_ne _ _ (Ne.symm (ho.ne i0 fN))];exact h0
     .rw[upd_ne _ _ (aV j' rG)]
      by_cases e:j'=i0
      .subst e;rw[upd_same];exact .inl rfl
      .rw[upd_ne _ _ (λh=>e (ho.inj j' i0 rG fN h))]
       have:=ho.at_ j' rG;rw[if_neg e] at this;unfold Jh at this⊢;have hR:=zpz hk j';rw[if_neg e,Rp] at hR;rw[zpP hk,if_neg e,zpS hk,<-hR];exact this
     .rw[upd_ne _ _ g1,upd_ne _ _ (g2 i0 fN)];exact hg i' g0 g1 g2
   grind
 shut:=by
  intro q ch i l c ok nx sh hI hi ha wZ
  cases hI with
  |a n qs ix l0 hq hn hl h0 ho hc hg=>
   obtain⟨j1,h1,rfl,_,rfl⟩:=zhm hl h0 ho hg hi ha;simp_all
  |b qs ix iw k hq hk hw aV h0 cU ho hc hg=>
   obtain⟨j1,h1,rfl,rfl,rfl,_,_,rfl⟩:=Zf h0 cU ho hg hi ha;have hx:fS W k j1=true:=by have:=hc j1 h1;rw[wZ] at this;injection this with this;exact this.symm
   refine⟨trivial,.b qs ix iw k hq hk hw aV ?_ ?_ ⟨ho.ne,ho.inj,λj hj=>?_⟩ hc λi' g0 g1 g2=>?_⟩
   .rw[upd_ne _ _ (Ne.symm (ho.ne j1 h1))];exact h0
   .rw[upd_ne _ _ (Ne.symm (aV j1 h1))];exact cU
   .by_cases e:j=j1
    .subst e;rw[upd_same];exact .inr ⟨hx,.inl rfl⟩
    .rw[upd_ne _ _ (λh=>e (ho.inj j j1 hj h1 h))];exact ho.at_ j hj
   .rw[upd_ne _ _ (g2 j1 h1)];exact hg i' g0 g1 g2
  |c qs ix iw k i0 kd cl anz a hq hk hw aV h0 cU ho hc rD oN hg=>
   rcases Vn h0 cU ho hg hi ha with⟨rfl,_,rfl,_⟩|⟨j1,h1,Pv,rfl,rfl,rfl,rfl⟩
   .simp_all
   .have hx:fS W k j1=true:=by have:=hc j1 h1;rw[wZ] at this;injection this with this;exact this.symm
    refine⟨trivial,.c qs ix iw k i0 kd cl anz a hq hk hw aV ?_ ?_ ⟨ho.ne,ho.inj,λj hj=>?_⟩ hc rD oN λi' g0 g1 g2=>?_⟩
    .rw[upd_ne _ _ (Ne.symm (ho.ne j1 h1))];exact h0
    .rw[upd_ne _ _ (Ne.symm (aV j1 h1))];exact cU
    .by_cases e:j=j1
     .subst e;rw[if_neg Pv,upd_same];exact .inr ⟨hx,.inl rfl⟩
     .rw[upd_ne _ _ (λh=>e (ho.inj j j1 hj h1 h))];exact ho.at_ j hj
    .rw[upd_ne _ _ (g2 j1 h1)];exact hg i' g0 g1 g2
 close:=by
  intro q ch i l c nx hI hi ha;obtain⟨Qb,k',i0,rfl,cY,rfl,rfl⟩:=ztg (N:=N) ha
  cases hI with
  |a n qs ix l0 hq hn hl h0 ho hc hg=>
   rcases Pf hl h0 ho hg hi with⟨rfl,rfl⟩|⟨j,hj,rfl,e⟩
   .simp_all
   .cases e
  |b qs ix iw k hq hk hw aV h0 cU ho hc hg=>
   rcases No h0 cU ho hg hi with⟨_,e⟩|⟨rfl,e⟩|⟨j,hj,rfl,e|⟨_,e⟩⟩<;>cases e;obtain⟨fN,hx⟩:=hW.shut k' i0 cY;refine⟨by rw[hc i0 fN,hx],.b Qb ix i (k'+1) hq (wk_lt cY) hw aV ?_ (.inl (upd_same _ _ _)) ⟨ho.ne,ho.inj,λj hj=>?_⟩ (λj hj=>?_) λi' g0 g1 g2=>?_⟩
   .rw[upd_ne _ _ (Ne.symm hw)];exact h0
   .rw[upd_ne _ _ (aV j hj)]
    have:=ho.at_ j hj;unfold Jh at this⊢;rw[zIT cY,zrL cY,zB6 cY];refine this.imp id λh=>⟨?_,h.2⟩;split
    .rfl
    .exact h.1
   .rw[zrL cY]
    by_cases e:j=i0
    .subst e;rw[if_pos rfl,upd_same]
    .rw[if_neg e,upd_ne _ _ (λh=>e (hq.inj j i0 hj fN h))];exact hc j hj
   .rw[upd_ne _ _ g1];exact hg i' g0 g1 g2
  |c qs ix iw k i1 kd cl anz a hq hk hw aV h0 cU ho hc rD oN hg=>
   rcases Qx h0 cU ho hg hi with⟨_,e⟩|⟨_,e⟩|⟨j,hj,rfl,⟨_,e⟩|⟨_,e|⟨_,e⟩⟩⟩<;>cases e
 add:=by
  intro q ch i l nx hI hi ha;have ha:=zBx ha
  cases hI with
  |a n qs ix l0 hq hn hl h0 ho hc hg=>
   rcases Pf hl h0 ho hg hi with⟨rfl,rfl⟩|⟨j,hj,rfl,rfl⟩
   .have keep:∀l',(l'=.mN qs\/(n<N/\∃a,l'=.mA qs a\/l'=.mS qs a)\/(l'=.mW qs/\n=N))->We N W (bJ q 0 (.run l')) ch:=λl' zY=>
     .a n qs ix l' hq hn zY (upd_same _ _ _) ⟨ho.ne,ho.inj,λj hj=>by rw[upd_ne _ _ (ho.ne j hj)];exact ho.at_ j hj⟩ hc λi' g0 g1=>by rw[upd_ne _ _ g0];exact hg i' g0 g1
    rcases ha with⟨Qb,rfl,h1,rfl⟩|⟨Qb,a,rfl,rfl⟩
    .rcases hl with e|⟨_,_,e|e⟩|⟨e,_⟩<;>cases e
     refine⟨rfl,rfl,rfl,keep _ (.inr (.inr ⟨rfl,?_⟩))⟩;have:=hq.len;omega
    .rcases hl with e|⟨h1,_,e|e⟩|⟨e,_⟩<;>cases e
     exact⟨rfl,rfl,rfl,keep _ (.inr (.inl ⟨h1,a,.inr rfl⟩))⟩
   simp_all
  |b qs ix iw k hq hk hw aV h0 cU ho hc hg=>
   exfalso;rcases No h0 cU ho hg hi with⟨_,rfl⟩|⟨_,rfl⟩|⟨j,hj,_,rfl|⟨_,rfl⟩⟩<;>rcases ha with⟨_,e,_⟩|⟨_,_,e,_⟩<;>cases e
  |c qs ix iw k i0 kd cl anz a hq hk hw aV h0 cU ho hc rD oN hg=>
   exfalso;rcases Qx h0 cU ho hg hi with⟨_,rfl⟩|⟨_,rfl⟩|⟨j,hj,_,⟨_,rfl⟩|⟨_,rfl|⟨_,rfl⟩⟩⟩<;>rcases ha with⟨_,e,_⟩|⟨_,_,e,_⟩<;>cases e
 spawn:=by
  intro q ch i l pub lc nx kk hI hi ha;have ha:=zEp ha
  cases hI with
  |a n qs ix l0 hq hn hl h0 ho hc hg=>
   rcases Pf hl h0 ho hg hi with⟨rfl,rfl⟩|⟨j,hj,rfl,rfl⟩
   .rcases ha with⟨Qb,a,rfl,rfl,rfl,rfl⟩|⟨Qb,rfl,rfl,rfl,rfl⟩
    .rcases hl with e|⟨aU,_,e|e⟩|⟨e,_⟩<;>cases e
     refine⟨rfl,rfl,rfl,λhk l6 hp=>?_⟩;have Su:ch a=none:=hp a aQ;have oN:∀j,j<n->qa qs j≠a:=λj hj e=>by grind
     have fG:∀j,j<n->ix j≠kk:=λj hj e=>by have:=ho.at_ j hj;simp_all
     have It:∀j,j<n+1->j<n\/j=n:=λj hj=>by omega
     refine .a (n+1) (qs++[a]) (λj=>if j<n then ix j else kk) _ ⟨by simp[hq.len],λj j' hj rG e=>?_⟩ aU (.inl rfl) ?_ ⟨λj hj=>?_,λj j' hj rG e=>?_,λj hj=>?_⟩ (λj hj=>?_) λi' g0 g1=>?_
     .rcases It j hj with h|rfl<;>rcases It j' rG with h'|rfl
      .rw[Zz hq.len h,Zz hq.len h'] at e;exact hq.inj j j' h h' e
      .rw[Zz hq.len h,zgX hq.len] at e;exact(oN j h e).elim
      .rw[Zz hq.len h',zgX hq.len] at e;simp_all
      .rfl
     .rw[upd_ne _ _ (Ne.symm l6),upd_same]
     .show(if j<n then ix j else kk)≠0
      split
      .rename_i h;exact ho.ne j h
      .exact l6
     .have e:(if j<n then ix j else kk)=(if j'<n then ix j' else kk):=e
      rcases It j hj with h|rfl<;>rcases It j' rG with h'|rfl
      .rw[if_pos h,if_pos h'] at e;exact ho.inj j j' h h' e
      .simp_all
      .grind
      .rfl
     .rcases It j hj with h|rfl
      .simp only[if_pos h]
       rw[upd_ne _ _ (fG j h),upd_ne _ _ (ho.ne j h),Zz hq.len h];exact ho.at_ j h
      .simp only[Jk,if_false]
       rw[upd_same,zgX hq.len,hq.len]
     .rcases It j hj with h|rfl
      .rw[Zz hq.len h,zyp (oN j h)];exact hc j h
      .rw[zgX hq.len];exact zoK _ _
     .have e1:i'≠kk:=λe=>by have:=g1 n (Nat.lt_succ_self _);grind
      rw[upd_ne _ _ e1,upd_ne _ _ g0]
      grind
    .rcases hl with e|⟨aU,_,e|e⟩|⟨e,rfl⟩<;>cases e
     refine⟨rfl,rfl,rfl,λhk l6 hp=>?_⟩;have fG:∀j,j<n->ix j≠kk:=λj hj e=>by have:=ho.at_ j hj;simp_all
     rw[zv7];refine .b qs ix kk 0 hq (mK _) l6 fG (.inl ?_) (.inl (upd_same _ _ _)) ⟨ho.ne,ho.inj,λj hj=>?_⟩ hc λi' g0 g1 g2=>?_
     .rw[upd_ne _ _ (Ne.symm l6),upd_same]
     .rw[upd_ne _ _ (fG j hj),upd_ne _ _ (ho.ne j hj)];exact .inl (ho.at_ j hj)
     .rw[upd_ne _ _ g1,upd_ne _ _ g0];exact hg i' g0 g2
   simp_all
  |b qs ix iw k hq hk hw aV h0 cU ho hc hg=>
   exfalso;rcases No h0 cU ho hg hi with⟨_,rfl⟩|⟨_,rfl⟩|⟨j,hj,_,rfl|⟨_,rfl⟩⟩<;>rcases ha with⟨_,_,e,_⟩|⟨_,e,_⟩<;>cases e
  |c qs ix iw k i0 kd cl anz a hq hk hw aV h0 cU ho hc rD oN hg=>
   exfalso;rcases Qx h0 cU ho hg hi with⟨_,rfl⟩|⟨_,rfl⟩|⟨j,hj,_,⟨_,rfl⟩|⟨_,rfl|⟨_,rfl⟩⟩⟩<;>rcases ha with⟨_,_,e,_⟩|⟨_,e,_⟩<;>cases e
 done:=by
  intro q ch i l hI hi ha;have fX:=zFg ha
  cases hI with
  |a n qs ix l0 hq hn hl h0 ho hc hg=>
   exfalso;rcases Pf hl h0 ho hg hi with⟨rfl,rfl⟩|⟨j,hj,rfl,rfl⟩
   .grind
   .cases ha
  |b qs ix iw k hq hk hw aV h0 cU ho hc hg=>
   rcases No h0 cU ho hg hi with⟨_,rfl⟩|⟨rfl,rfl⟩|⟨j,hj,rfl,rfl|⟨hx,rfl⟩⟩
   .cases ha
   .rcases fX with e|⟨_,_,e,h1⟩
    .cases e
    .cases e
     have ziD:k=W.length:=by have:=List.getElem?_eq_none_iff.1 h1;omega
     refine⟨hw,.b qs ix i k hq hk hw aV ?_ (.inr ⟨ziD,upd_same _ _ _⟩) ⟨ho.ne,ho.inj,λj hj=>?_⟩ hc λi' g0 g1 g2=>?_⟩
     .rw[upd_ne _ _ (Ne.symm hw)];exact h0
     .rw[upd_ne _ _ (aV j hj)];exact ho.at_ j hj
     .rw[upd_ne _ _ g1];exact hg i' g0 g1 g2
   .cases ha
   .refine⟨ho.ne j hj,.b qs ix iw k hq hk hw aV ?_ ?_ ⟨ho.ne,ho.inj,λj' rG=>?_⟩ hc λi' g0 g1 g2=>?_⟩
    .rw[upd_ne _ _ (Ne.symm (ho.ne j hj))];exact h0
    .rw[upd_ne _ _ (Ne.symm (aV j hj))];exact cU
    .by_cases e:j'=j
     .subst e;rw[upd_same];exact .inr ⟨hx,.inr rfl⟩
     .rw[upd_ne _ _ (λh=>e (ho.inj j' j rG hj h))];exact ho.at_ j' rG
    .rw[upd_ne _ _ (g2 j hj)];exact hg i' g0 g1 g2
  |c qs ix iw k i0 kd cl anz a hq hk hw aV h0 cU ho hc rD oN hg=>
   rcases Qx h0 cU ho hg hi with⟨_,rfl⟩|⟨rfl,rfl⟩|⟨j,hj,rfl,⟨_,rfl⟩|⟨Pv,rfl|⟨hx,rfl⟩⟩⟩
   .cases ha
   .cases ha
   .cases ha
   .cases ha
   .refine⟨ho.ne j hj,.c qs ix iw k i0 kd cl anz a hq hk hw aV ?_ ?_ ⟨ho.ne,ho.inj,λj' rG=>?_⟩ hc rD oN λi' g0 g1 g2=>?_⟩
    .rw[upd_ne _ _ (Ne.symm (ho.ne j hj))];exact h0
    .rw[upd_ne _ _ (Ne.symm (aV j hj))];exact cU
    .by_cases e:j'=j
     .subst e;rw[if_neg Pv,upd_same];exact .inr ⟨hx,.inr rfl⟩
     .rw[upd_ne _ _ (λh=>e (ho.inj j' j rG hj h))];exact ho.at_ j' rG
    .rw[upd_ne _ _ (g2 j hj)];exact hg i' g0 g1 g2
 note:=by
  intro q ch i l can l' hI hi ha zAk;obtain⟨Qb,rfl,aU,rfl⟩:=zDO ha;obtain⟨a,rfl⟩:=zAk;refine⟨rfl,?_⟩
  cases hI with
  |a n qs ix l0 hq hn hl h0 ho hc hg=>
   rcases Pf hl h0 ho hg hi with⟨rfl,rfl⟩|⟨j,hj,rfl,e⟩
   .rcases hl with e|⟨_,_,e|e⟩|⟨e,_⟩<;>cases e
    exact .a n Qb ix _ hq hn (.inr (.inl ⟨by have:=hq.len;omega,a,.inl rfl⟩)) (upd_same _ _ _) ⟨ho.ne,ho.inj,λj hj=>by rw[upd_ne _ _ (ho.ne j hj)];exact ho.at_ j hj⟩ hc λi' g0 g1=>by rw[upd_ne _ _ g0];exact hg i' g0 g1
   .cases e
  |b qs ix iw k hq hk hw aV h0 cU ho hc hg=>
   exfalso;rcases No h0 cU ho hg hi with⟨_,e⟩|⟨_,e⟩|⟨j,hj,_,e|⟨_,e⟩⟩<;>cases e
  |c qs ix iw k i0 kd cl anz a hq hk hw aV h0 cU ho hc rD oN hg=>
   exfalso;rcases Qx h0 cU ho hg hi with⟨_,e⟩|⟨_,e⟩|⟨j,hj,_,⟨_,e⟩|⟨_,e|⟨_,e⟩⟩⟩<;>cases e
 wait:=by
  intro q ch i l hI hi ha;obtain rfl:=zE0 ha
  cases hI with
  |a n qs ix l0 hq hn hl h0 ho hc hg=>
   exfalso;rcases Pf hl h0 ho hg hi with⟨rfl,e⟩|⟨j,hj,rfl,e⟩
   .grind
   .cases e
  |b qs ix iw k hq hk hw aV h0 cU ho hc hg=>
   rcases No h0 cU ho hg hi with⟨rfl,_⟩|⟨_,e⟩|⟨j,hj,_,e|⟨_,e⟩⟩
   .refine⟨rfl,rfl,.b qs ix iw k hq hk hw aV (.inr (upd_same _ _ _)) ?_ ⟨ho.ne,ho.inj,λj hj=>?_⟩ hc λi' g0 g1 g2=>?_⟩
    .rw[upd_ne _ _ hw];exact cU
    .rw[upd_ne _ _ (ho.ne j hj)];exact ho.at_ j hj
    .rw[upd_ne _ _ g0];exact hg i' g0 g1 g2
   all_goals cases e
  |c qs ix iw k i0 kd cl anz a hq hk hw aV h0 cU ho hc rD oN hg=>
   rcases Qx h0 cU ho hg hi with⟨rfl,_⟩|⟨_,e⟩|⟨j,hj,_,⟨_,e⟩|⟨_,e|⟨_,e⟩⟩⟩
   .refine⟨rfl,rfl,.c qs ix iw k i0 kd cl anz a hq hk hw aV (.inr (upd_same _ _ _)) ?_ ⟨ho.ne,ho.inj,λj hj=>?_⟩ hc rD oN λi' g0 g1 g2=>?_⟩
    .rw[upd_ne _ _ hw];exact cU
    .rw[upd_ne _ _ (ho.ne j hj)];exact ho.at_ j hj
    .rw[upd_ne _ _ g0];exact hg i' g0 g1 g2
   all_goals cases e
 prog:=by
  intro q ch hI hB
  cases hI with
  |a n qs ix l0 hq hn hl h0 ho hc hg=>exact(zuU (znW hl) (hB 0 l0 h0)).elim
  |b qs ix iw k hq hk hw aV h0 cU ho hc hg=>
   have hz:q 0=.waits:=h0.resolve_left λe=>zuU (.inr (.inr (.inr (.inr rfl)))) (hB 0 _ e);have zCR:k=W.length:=by
    rcases cU with e|⟨e,_⟩
    .have h1:=hB iw _ e
     cases hx:W[k]? with
     |none=>grind
     |some x=>
      exfalso
      cases x with
      |ask i kd cl anz=>
       obtain⟨hi,zW,_⟩:=hW.ask k i kd cl anz hx;unfold jN.Blocked Cr at h1;simp only[eP,hx] at h1;refine h1 ⟨ix i,.op (qa qs i) (lE W k i) (oI W k i),_,_,_,?_,rfl⟩;rcases ho.at_ i hi with h2|⟨h2,_⟩
       .exact h2
       simp_all
      |shut i=>
       unfold jN.Blocked Cr at h1;simp only[eP,hx] at h1
    .exact e
   subst zCR;refine⟨hz,λi l hi=>?_⟩;have h1:=hB i l hi;rcases No h0 cU ho hg hi with⟨rfl,_⟩|⟨_,rfl⟩|⟨j,hj,rfl,rfl|⟨_,rfl⟩⟩
   .rw[hz] at hi;cases hi
   .unfold jN.Blocked Cr at h1
    simp[eP] at h1
   .unfold jN.Blocked Cr at h1
    simp only[eP] at h1;rw[hc j hj,hW.all j hj] at h1;simp_all
   .unfold jN.Blocked Cr at h1
    simp[eP] at h1
  |c qs ix iw k i0 kd cl anz a hq hk hw aV h0 cU ho hc rD oN hg=>
   exfalso;obtain⟨fN,_,_⟩:=hW.ask k i0 kd cl anz hk;have h2:=ho.at_ i0 fN;rw[if_pos rfl] at h2;have h1:=hB (ix i0) _ h2;unfold jN.Blocked Cr at h1;simp only[eP] at h1;exact h1 ⟨iw,.wr qs k a,_,_,_,cU,rfl⟩
 pendC:=by
  intro l l' c v ok pub nx ha hl;subst hl;rcases zlU ha with⟨c0,call,m,rfl,rfl,rfl,rfl⟩|⟨qs,k,i,kd,cl,anz,rfl,h1,rfl,rfl,rfl,rfl⟩
  .rfl
  .show(Z9 qs k v).pend=false
   unfold Z9;split<;>rfl
 pendR:=by
  intro l l' c v ok nx sh ha hl;rcases Wa ha with⟨call,m,rfl,rfl,rfl,rfl⟩|⟨qs,k,rfl,rfl,rfl,rfl⟩
  .rcases hl with rfl|rfl
   .show(Ra c call m v).pend=false
    unfold Ra;split<;>rfl
   .rfl
  .rcases hl with rfl|rfl<;>rfl
 pendX:=by
  intro l c nx ha;obtain⟨qs,k,i,rfl,_,_,rfl⟩:=ztg ha;rfl
 few:=by
  intro q ch hI m;have key:∀(n iw:Nat) (ix:Nat->Nat),n<=N->(∀i,i≠0->i≠iw->(∀j,j<n->i≠ix j)->q i=.gone)->num q m<2000000000:=λn iw ix hn hg=>by
   have:=zEJ (0::iw::(fV n).map ix) q (λi hi=>by
    simp only[lV,not_or,zaL,Da,not_exists,not_and] at hi;exact hg i hi.1 hi.2.1 λj hj e=>hi.2.2 j hj e.symm) m
   grind
  cases hI with
  |a n qs ix l0 hq hn hl h0 ho hc hg=>exact key n 0 ix hn λi h1 _ h3=>hg i h1 h3
  |b qs ix iw k hq hk hw aV h0 cU ho hc hg=>exact key N iw ix (bL _) hg
  |c qs ix iw k i0 kd cl anz a hq hk hw aV h0 cU ho hc rD oN hg=>exact key N iw ix (bL _) hg
 gotP:=by
  intro q ch i j li lj c ok pub nx sM p8 sh v hI hi hj ha hb hv a hx
  cases hI with
  |a n qs ix l0 hq hn hl h0 ho hc hg=>exact(zeG hl h0 ho hg hi ha).elim
  |b qs ix iw k hq hk hw aV h0 cU ho hc hg=>
   obtain⟨rfl,rfl,j0,kd,cl,anz,h1,rfl,rfl,rfl,rfl⟩:=zbR h0 cU ho hg hi ha;obtain⟨j1,Lo,rfl,rfl,_⟩:=Zf h0 cU ho hg hj hb;exact hx
  |c qs ix iw k i0 kd cl anz a' hq hk hw aV h0 cU ho hc rD oN hg=>
   obtain⟨fN,rfl,rfl,rfl,rfl,rfl,rfl⟩:=zbT h0 cU ho hg hi ha;rcases Vn h0 cU ho hg hj hb with⟨rfl,rfl,_⟩|⟨j1,Lo,_,rfl,_,wZ,_⟩
   .cases hx
   grind
end
end Go.Mt
namespace Go.Proofs.YtfcjiloojkjaeaaGreatDoor
open Go.RowKit Go.Mt
def yV (op:Int):Nat:=(op-1).toNat
def Hz (b:cC)(op:Int):List fC:=
 .ask (yV op) 0 0 (dO b.recs op)::(if 0<dO b.recs op then[] else match b.wait with|[]=>[]|c::_=>[.ask (yV op) 1 c.c c.c])
def Ej (b:cC)(op:Int):List fC:=
 .ask (yV op) 0 0 (dO b.recs op)::(if 0<dO b.recs op then[] else match b.back with|[]=>[]|c::_=>match o0 b.o b.recs with|[]=>[]|_::_=>[.ask (yV op) 1 c.c c.c])
def Dt (b:cC)(c:Int):List fC:=
 match iS b.recs c with
 |some i=>if 0<opAt b.recs i then[.ask (yV (opAt b.recs i)) 1 0 0] else[]
 |none=>[]
def qB (b:cC)(e:dQ):List fC:=
 if e.k.toList=Gz then[] else if e.k.toList=Ij then Hz b e.a else if e.k.toList=Ik then Ej b e.a else if e.k.toList=J6 then Dt b e.a else[]
def sJ (o:fP)(es:List dQ):Nat->List fC
 |0=>[]
 |k+1=>sJ o es k++(match es[k]? with|some e=>qB (lP o es k) e|none=>[])
def zH (b:cC):Nat->List fC
 |0=>[]
 |n+1=>zH b n++[.ask n 0 0 (dO b.recs ((n:Int)+1)),.shut n]
def Cj (o:fP)(es:List dQ):List fC:=sJ o es es.length++zH (C8 o es) o.op.toNat
theorem zlR (A B:List fC)(i:Nat):∀k,k<=A.length->lE (A++B) k i=lE A k i:=by
 intro k
 induction k with
 |zero=>intro _;rfl
 |succ k ih=>
  intro hk;simp only[lE]
  grind
theorem Xl (A B:List fC)(i:Nat):∀k,k<=A.length->fS (A++B) k i=fS A k i:=by
 intro k
 induction k with
 |zero=>intro _;rfl
 |succ k ih=>
  intro hk;simp only[fS]
  grind
theorem zep (A:List fC)(x:fC):(A++[x])[A.length]? =some x:=by simp_all
structure WP (N:Nat)(A:List fC):Prop where
 ask:∀(k i:Nat) (kd cl anz:Int),A[k]? =some (.ask i kd cl anz)->i<N/\fS A k i=false/\anz=lE A (k+1) i
 shut:∀(k i:Nat),A[k]? =some (.shut i)->i<N/\fS A k i=false
variable {N:Nat}{A:List fC}
theorem WP.snoc {x:fC}(h:WP N A)(h1:∀i kd cl anz,x=.ask i kd cl anz->i<N/\fS A A.length i=false/\anz=lE (A++[x]) (A.length+1) i)(h2:∀i,x=.shut i->i<N/\fS A A.length i=false):WP N (A++[x]):=by
 have key:∀(k:Nat) (y:fC),(A++[x])[k]? =some y->(k<A.length/\A[k]? =some y)\/(k=A.length/\y=x):=λk y hk=>by grind
 refine⟨λk i kd cl anz hk=>?_,λk i hk=>?_⟩
 .rcases key k _ hk with⟨hl,cY⟩|⟨rfl,e⟩
  .obtain⟨a1,a2,a3⟩:=h.ask k i kd cl anz cY
   exact⟨a1,by rw[Xl _ _ _ _ aC];exact a2,by rw[zlR _ _ _ _ aC];exact a3⟩
  .obtain⟨a1,a2,a3⟩:=h1 i kd cl anz e.symm
   exact⟨a1,by rw[Xl _ _ _ _ (bL _)];exact a2,a3⟩
 .rcases key k _ hk with⟨hl,cY⟩|⟨rfl,e⟩
  .obtain⟨a1,a2⟩:=h.shut k i cY
   exact⟨a1,by rw[Xl _ _ _ _ aC];exact a2⟩
  .obtain⟨a1,a2⟩:=h2 i e.symm
   exact⟨a1,by rw[Xl _ _ _ _ (bL _)];exact a2⟩
theorem Xd (A:List fC)(j:Nat)(kd cl anz:Int)(i:Nat):lE (A++[.ask j kd cl anz]) (A.length+1) i=if i=j then(if kd=1 then cl else lE A A.length i) else lE A A.length i:=by
 simp only[lE,zep];rw[zlR _ _ _ _ (bL _)]
theorem ziA (A:List fC)(j:Nat)(kd cl anz:Int)(i:Nat):fS (A++[.ask j kd cl anz]) (A.length+1) i=fS A A.length i:=by
 simp only[fS,zep];rw[Xl _ _ _ _ (bL _)]
theorem zA7 (A:List fC)(j i:Nat):lE (A++[.shut j]) (A.length+1) i=lE A A.length i:=by
 simp only[lE,zep];rw[zlR _ _ _ _ (bL _)]
theorem zAY (A:List fC)(j i:Nat):fS (A++[.shut j]) (A.length+1) i=if i=j then true else fS A A.length i:=by
 simp only[fS,zep];rw[Xl _ _ _ _ (bL _)]
def Jj (N:Nat)(rs:List bV)(A:List fC):Prop:=∀i,i<N->lE A A.length i=dO rs ((i:Int)+1)/\fS A A.length i=false
def zbX (A:List fC)(x:fC):(A++[x]).length=A.length+1:=aQ
variable {rs:List bV}{i:Nat}
theorem WP.who (h:WP N A)(ht:Jj N rs A)(hi:i<N):WP N (A++[.ask i 0 0 (dO rs ((i:Int)+1))])/\Jj N rs (A++[.ask i 0 0 (dO rs ((i:Int)+1))]):=by
 obtain⟨t1,t2⟩:=ht i hi;refine⟨h.snoc (λj kd cl anz e=>?_) (λj e=>by cases e),λj hj=>?_⟩
 .cases e
  exact⟨hi,t2,by rw[Xd,if_pos rfl,if_neg aH,t1]⟩
 .obtain⟨s1,s2⟩:=ht j hj
  rw[zbX,Xd,ziA];simp_all
variable {Kl:List bV}
theorem WP.tell (h:WP N A)(ht:Jj N rs A)(hi:i<N){c:Int}(h1:dO Kl ((i:Int)+1)=c)(h2:∀j:Nat,j<N->j≠i->dO Kl ((j:Int)+1)=dO rs ((j:Int)+1)):WP N (A++[.ask i 1 c c])/\Jj N Kl (A++[.ask i 1 c c]):=by
 obtain⟨t1,t2⟩:=ht i hi;refine⟨h.snoc (λj kd cl anz e=>?_) (λj e=>by cases e),λj hj=>?_⟩
 .cases e
  exact⟨hi,t2,by rw[Xd,if_pos rfl,if_pos rfl]⟩
 .obtain⟨s1,s2⟩:=ht j hj
  rw[zbX,Xd,ziA]
  grind
def Jj.same (ht:Jj N rs A)(h:∀j:Nat,j<N->dO Kl ((j:Int)+1)=dO rs ((j:Int)+1)):Jj N Kl A:=λi hi=>⟨(ht i hi).1.trans (h i hi).symm,(ht i hi).2⟩
variable {op:Int}
theorem zpN {r:bV}(h:r.o≠op):dO (rs++[r]) op=dO rs op:=by
 unfold dO;have hn:[r].find? (xE op)=none:=by
  rw[zfY];intro x hx;obtain rfl:=List.mem_singleton.1 hx;unfold xE;simp[h]
 simp_all
variable {b:cC}
def jF.one (h:jF b)(hop:0<op):∀(i j:Nat) (d e:bV),b.recs[i]? =some d->b.recs[j]? =some e->eL d=true->eL e=true->d.o=op->e.o=op->i=j:=
 λi j d e h1 h2 h3 h4 h5 h6=>h.opn i j d e h1 h2 h3 h4 (.inr (.inr ⟨h5.trans h6.symm,aC⟩))
theorem zsx (hu:∀(i j:Nat) (d e:bV),Kl[i]? =some d->Kl[j]? =some e->eL d=true->eL e=true->d.o=op->e.o=op->i=j)
 (h1:∀(i:Nat) (d:bV),rs[i]? =some d->eL d=true->d.o=op->Kl[i]? =some d) (h2:∀(i:Nat) (d:bV),Kl[i]? =some d->eL d=true->d.o=op->rs[i]? =some d):dO Kl op=dO rs op:=by
 rcases zuY rs op with⟨i,d,a1,a2,a3,a4⟩|⟨a1,a2⟩
 .rw[a4];exact zi3 hu (h1 i d a1 a2 a3) a2 a3
 .rw[a2]
  exact zwU λi d hd ho e=>a1 i d (h2 i d hd ho e) ho e
variable {d:bV}{e:ByteArray}
theorem zmw (h:jF b)(hd:b.recs[i]? =some d)(he:(e.toList==[111,112,101,110])=false)(hop:0<op)(aV:d.o≠op):dO (Km b i e) op=dO b.recs op:=by
 have old:∀(j:Nat) (z:bV),(Km b i e)[j]? =some z->eL z=true->b.recs[j]? =some z:=λj z hj hz=>by
  obtain⟨d',h1,⟨_,rfl⟩|⟨h2,rfl⟩⟩:=Hw hj
  .have Is:eL {d' with t:=b.clk,e:=e}=false:=he
   simp_all
  .exact h1
 refine zsx (λp q x y hp hq hx hy h5 h6=>h.one hop p q x y (old p x hp hx) (old q y hq hy) hx hy h5 h6) (λj z hj hz e=>?_) (λj z hj hz _=>old j z hj hz);exact Vz hj λe2=>by simp_all
theorem zyV (h:jF b)(hd:b.recs[i]? =some d)(zem:eL d=true)(he:(e.toList==[111,112,101,110])=false)(hop:0<d.o):dO (Km b i e) d.o=0:=by
 refine zwU λj z hj hz e2=>?_;obtain⟨d',h1,⟨_,rfl⟩|⟨h2,rfl⟩⟩:=Hw hj
 .have Is:eL {d' with t:=b.clk,e:=e}=false:=he
  rw[Is] at hz;cases hz
 .exact h2 (h.one hop i j d z hd h1 zem hz rfl e2)
theorem zFm (hop:0<op):∀(xs:List bN) (b:cC) (t:List UInt8),jF b->(xs.map bN.c).Nodup->(∀x∈xs,x∈b.wait)->dO (xs.foldl lT (b,t)).1.recs op=dO b.recs op:=by
 intro xs
 induction xs with
 |nil=>intro b t h _ _;rfl
 |cons x xs ih=>
  intro b t h hn hx;rw[Pb];have hS:=h.tire (t:=t) (x:=x);rw[jD,Gx] at hn;have key:dO (lT (b,t) x).1.recs op=dO b.recs op/\∀y∈xs,y∈(lT (b,t) x).1.wait:=by
   have Dp:∀y∈xs,y∈b.wait:=λy hy=>hx y (Uj _ hy);obtain⟨i0,d0,w1,w2,w3,w4⟩:=h.wt x (hx x aQ);have fA:iS b.recs x.c=some i0:=by rw[<-w3];exact h.at_ w1 w2
   unfold lT;simp only[fA];split
   .refine⟨zmw h w1 zi6 hop aC,λy hy=>?_⟩
    show y∈dZ b.wait (Hu b.recs i0);unfold dZ;rw[Jo,Ur w1,w3];simp_all
   .exact⟨rfl,Dp⟩
  simp_all
structure Tq (b:cC):Prop where
 op:∀d∈b.recs,0<=d.o/\d.o<=b.o.op
 n1:1<=b.o.op
def zqx (A B:List fC)(x:fC):A++x::B=(A++[x])++B:=aQ
theorem zEH {e:dQ}(hS:jF b)(hr:RInv b)(hB:Tq b)(hN:b.o.op=(N:Int))(he:qR b.o.op e=true)(hw:WP N A)(ht:Jj N b.recs A):
 WP N (A++qB b e)/\Jj N (eB b e).1.recs (A++qB b e)/\Tq (eB b e).1:=by
 have zly:∀op:Int,1<=op->op<=b.o.op->yV op<N/\((yV op:Nat):Int)+1=op:=λop h1 h2=>by unfold yV;omega
 by_cases h1:e.k.toList=Gz
 .unfold qB eB
  rw[if_pos h1,if_pos h1,Mw];refine⟨hw,?_⟩;unfold pR;split
  .simp_all
  .split
   .exact⟨ht,⟨hB.op,hB.n1⟩⟩
   .rename_i l ls hf
    refine⟨ht.same λj hj=>zpN tL,⟨λd hd=>?_,hB.n1⟩⟩;rcases Ju.1 hd with hd|hd
    .exact hB.op d hd
    simp_all
 by_cases h2:e.k.toList=Ij
 .obtain⟨o1,o2⟩:=zgW he (.inl h2)
  obtain⟨i1,i2⟩:=zly e.a o1 o2;have At:¬e.k.toList=Gz:=h1;unfold qB eB;rw[if_neg h1,if_neg h1,if_pos h2,if_pos h2];unfold Hz n6;obtain⟨k1,k2⟩:=hw.who ht i1;rw[i2] at k1 k2;by_cases hp:0<dO b.recs e.a
  .simp_all
  .rw[if_neg hp,if_neg hp]
   cases cF:b.wait with
   |nil=>exact⟨k1,k2,hB⟩
   |cons c cs=>
    obtain⟨i0,d0,w1,w2,w3,w4⟩:=hS.wt c Zl;have fA:iS b.recs c.c=some i0:=by rw[<-w3];exact hS.at_ w1 w2
    simp only[fA];rw[zqx];have hn:=zgH (λd hd=>(hr.recB d hd).1) hp;have Nj:=hS.heard (hh:=b.clk) w1 w2 hn (wait:=[]) (λx hx=>by cases hx);have r1:dO (b.recs.modify i0 λd=>{d with o:=e.a,h:=b.clk}) (((yV e.a:Nat):Int)+1)=c.c:=by
     rw[i2];have:=zi3 (rs:=b.recs.modify i0 λd=>{d with o:=e.a,h:=b.clk}) (op:=e.a) (λp q x y=>Nj.one aC p q x y) (zeV w1) w2 rfl;rw[this];exact w3
    have r2:∀j:Nat,j<N->j≠yV e.a->dO (b.recs.modify i0 λd=>{d with o:=e.a,h:=b.clk}) ((j:Int)+1)=dO b.recs ((j:Int)+1):=λj hj aV=>by
     have za7:(j:Int)+1≠e.a:=λh=>aV (by unfold yV;omega);refine zsx (λp q x y=>Nj.one aC p q x y) (λp z hz zda zGO=>?_) (λp z hz zda zGO=>?_)
     .grind
     grind
    obtain⟨m1,m2⟩:=k1.tell k2 i1 r1 r2;refine⟨m1,m2,⟨λd hd=>?_,hB.n1⟩⟩;obtain⟨d',Kx,rfl|rfl⟩:=Sr hd
    .exact hB.op _ Kx
    grind
 by_cases h3:e.k.toList=Ik
 .obtain⟨o1,o2⟩:=zgW he (.inr h3)
  obtain⟨i1,i2⟩:=zly e.a o1 o2;unfold qB eB;rw[if_neg h1,if_neg h1,if_neg h2,if_neg h2,if_pos h3,if_pos h3];unfold Ej mQ;obtain⟨k1,k2⟩:=hw.who ht i1;rw[i2] at k1 k2;by_cases hp:0<dO b.recs e.a
  .simp_all
  .rw[if_neg hp,if_neg hp]
   cases xU:b.back with
   |nil=>exact⟨k1,k2,hB⟩
   |cons c cs=>
    cases hf:o0 b.o b.recs with
    |nil=>exact⟨k1,k2,hB⟩
    |cons l ls=>
     simp only;rw[zqx];have hn:=zgH (λd hd=>(hr.recB d hd).1) hp;have Nj:=hS.more (c:=c.c) (l:=l) (o:=e.a) (hh:=b.clk) (tt:=-1) (clk:=b.clk) (hS.bo c zdo) (zmA Y2) (.inr hn) (wait:=[]) (back:=[]) (λx hx=>by cases hx) Sf (λx hx=>by cases hx);have r1:dO (b.recs++[⟨c.c,l,e.a,b.clk,b.clk,-1,eN⟩]) (((yV e.a:Nat):Int)+1)=c.c:=by
      rw[i2];exact zi3 (rs:=b.recs++[⟨c.c,l,e.a,b.clk,b.clk,-1,eN⟩]) (op:=e.a) (λp q x y=>Nj.one aC p q x y) (i:=b.recs.length) (d:=⟨c.c,l,e.a,b.clk,b.clk,-1,eN⟩) uU (by unfold eL;rw[zhb];rfl) rfl
     have r2:∀j:Nat,j<N->j≠yV e.a->dO (b.recs++[⟨c.c,l,e.a,b.clk,b.clk,-1,eN⟩]) ((j:Int)+1)=dO b.recs ((j:Int)+1):=λj hj aV=>
      zpN tL
     obtain⟨m1,m2⟩:=k1.tell k2 i1 r1 r2;refine⟨m1,m2,⟨λd hd=>?_,hB.n1⟩⟩;rcases Ju.1 hd with hd|hd
     .exact hB.op d hd
     grind
 by_cases h4:e.k.toList=J6
 .unfold qB eB
  rw[if_neg h1,if_neg h1,if_neg h2,if_neg h2,if_neg h3,if_neg h3,if_pos h4,if_pos h4];unfold Dt nD
  cases fA:iS b.recs e.a with
  |none=>
   simp only;rw[Mw];split
   .exact⟨hw,ht,⟨hB.op,hB.n1⟩⟩
   simp_all
  |some i=>
   obtain⟨d,g1,g2,g3⟩:=C1 fA;have ho:opAt b.recs i=d.o:=by unfold opAt;rw[g1]
   have ztk:∀(x:ByteArray),∀z∈Km b i x,0<=z.o/\z.o<=b.o.op:=λx z hz=>by
    obtain⟨d',Kx,rfl|rfl⟩:=Sr hz
    .exact hB.op _ Kx
    .exact hB.op d' Kx
   simp only[ho];by_cases hp:0<d.o
   .rw[if_pos hp,if_pos hp]
    obtain⟨i1,i2⟩:=zly d.o aC (hB.op d (fI g1)).2;have r1:dO (Km b i G4) (((yV d.o:Nat):Int)+1)=0:=by rw[i2];exact zyV hS g1 g3 zdR hp
    have r2:∀j:Nat,j<N->j≠yV d.o->dO (Km b i G4) ((j:Int)+1)=dO b.recs ((j:Int)+1):=λj hj aV=>zmw hS g1 zdR aC (λh=>aV (by unfold yV;omega));obtain⟨m1,m2⟩:=hw.tell ht i1 r1 r2;exact⟨m1,m2,⟨ztk _,hB.n1⟩⟩
   .rw[if_neg hp,if_neg hp,Mw]
    exact⟨hw,ht.same λj hj=>zmw hS g1 ziJ aC aC,⟨ztk _,hB.n1⟩⟩
 .unfold qB eB
  rw[if_neg h1,if_neg h1,if_neg h2,if_neg h2,if_neg h3,if_neg h3,if_neg h4,if_neg h4,Mw];unfold uQ;have Nj:jF {b with clk:=b.clk+e.a}:=⟨hS.opn,hS.last,hS.wt,hS.bk,hS.bo⟩;refine⟨hw,ht.same λj hj=>zFm aC b.wait {b with clk:=b.clk+e.a} _ Nj hr.nodup (λx hx=>hx),?_⟩;have key:∀(xs:List bN) (b':cC) (t:List UInt8),Tq b'->Tq (xs.foldl lT (b',t)).1:=by
   intro xs
   induction xs with
   |nil=>intro b' t h;exact h
   |cons x xs ih=>
    intro b' t h;rw[Pb];have h9:Tq (lT (b',t) x).1:=by
     unfold lT;split
     .exact h
     .split
      .refine⟨λz hz=>?_,h.n1⟩
       obtain⟨d',Kx,rfl|rfl⟩:=Sr hz
       .exact h.op _ Kx
       .exact h.op d' Kx
      .exact h
    simp_all
  exact key _ _ _ ⟨hB.op,hB.n1⟩
variable {o:fP}{es:List dQ}
theorem zyn (h:eM o es=true)(hN:o.op=(N:Int)):∀k,k<=es.length->WP N (sJ o es k)/\Jj N (lP o es k).recs (sJ o es k)/\Tq (lP o es k):=by
 intro k;have bM:=h;unfold eM at bM;simp only[iT,vA] at bM
 induction k with
 |zero=>
  intro _;refine⟨⟨λk i kd cl anz h=>by simp[sJ] at h,λk i h=>by simp[sJ] at h⟩,λi hi=>⟨rfl,rfl⟩,⟨λd hd=>by simp[lP,mU] at hd,?_⟩⟩;have:=bM.1.1;unfold mY at this;simp at this;show 1<=o.op;omega
 |succ k ih=>
  intro hk;have aU:k<es.length:=aC;have he:=nI aU;obtain⟨a1,a2,a3⟩:=ih aC;obtain⟨b1,_,b3⟩:=Pq h k aC;have:=zEH (zxB h k aC) b1 a3 (by rw[b3];exact hN) (by rw[b3];exact bM.2 es[k] (List.getElem_mem aU)) a1 a2;rw[Q2 he];unfold sJ;rw[he];exact⟨this.1,this.2.1,⟨this.2.2.op,this.2.2.n1⟩⟩
theorem endA_ok (hw:WP N A)(ht:Jj N b.recs A):∀n,n<=N->WP N (A++zH b n)/\(∀i,i<N->lE (A++zH b n) (A++zH b n).length i=dO b.recs ((i:Int)+1))/\(∀i,fS (A++zH b n) (A++zH b n).length i=if i<n then true else fS A A.length i):=by
 intro n
 induction n with
 |zero=>intro _;simp only[zH,Mw];exact⟨hw,λi hi=>(ht i hi).1,λi=>by simp⟩
 |succ n ih=>
  intro hn;obtain⟨k1,k2,k3⟩:=ih aC;have e:A++zH b (n+1)=(A++zH b n++[fC.ask n 0 0 (dO b.recs ((n:Int)+1))])++[.shut n]:=by simp[zH]
  rw[e];generalize A++zH b n=B at*;have hx:fS B B.length n=false:=by rw[k3 n,if_neg (Jk _)];exact(ht n aC).2
  have w1:WP N (B++[fC.ask n 0 0 (dO b.recs ((n:Int)+1))]):=k1.snoc (λj kd cl anz e=>by cases e;exact⟨aC,hx,by rw[Xd,if_pos rfl,if_neg aH,k2 n aC]⟩) (λj e=>by cases e);have l1:=zbX B (fC.ask n 0 0 (dO b.recs ((n:Int)+1)));have x1:∀i,fS (B++[fC.ask n 0 0 (dO b.recs ((n:Int)+1))]) (B++[fC.ask n 0 0 (dO b.recs ((n:Int)+1))]).length i=fS B B.length i:=λi=>by rw[l1,ziA]
  have c1:∀i,lE (B++[fC.ask n 0 0 (dO b.recs ((n:Int)+1))]) (B++[fC.ask n 0 0 (dO b.recs ((n:Int)+1))]).length i=lE B B.length i:=λi=>by
   rw[l1,Xd];omega
  generalize B++[fC.ask n 0 0 (dO b.recs ((n:Int)+1))]=B2 at*;refine⟨w1.snoc (λj kd cl anz e=>by cases e) (λj e=>by grind),λi hi=>?_,λi=>?_⟩
  .rw[zbX,zA7,c1];exact k2 i hi
  .rw[zbX,zAY,x1,k3 i]
   grind
theorem zzt (h:eM o es=true):WOk o.op.toNat (Cj o es):=by
 have h1:o.op=(o.op.toNat:Int):=by
  have bM:=h;unfold eM mY at bM;simp at bM;omega
 obtain⟨a1,a2,a3⟩:=zyn h h1 es.length (bL _);rw[za3] at a2;obtain⟨k1,k2,k3⟩:=endA_ok a1 a2 o.op.toNat (bL _);exact⟨k1.ask,k1.shut,λi hi=>by unfold Cj;rw[k3 i,if_pos hi]⟩
end Go.Proofs.YtfcjiloojkjaeaaGreatDoor
namespace Go.Proofs.YtfcjiloojkjaeaaGreatDoor
open Go.RowKit
section
variable {P:bT}{k:aN}
theorem zja {d:Nq}{e:aN}(hk:P.underlying k=some (.chan d e))(a b:Option Nat)(w:aE):(Op.equal k (.chan a) (.chan b)).run P w=.ok (a==b) w:=by
 unfold Op.equal;rw[show Sl=(Sl-1)+1 by decide];simp[Op.equalIn,xM hk]
end
def y7 (es:List pD)(ps:List (Nat×aF)):Prop:=es.map (λe=>(e.key,e.val))=ps.map (λp=>(aF.chan (some p.1),p.2))
def De (w:aE)(b:Nat)(ps:List (Nat×aF)):Prop:=∃es clock,w.heap[b]? =some (.map es clock)/\y7 es.toList ps
def pZ (c:Nat):List (Nat×aF)->Option aF
 |[]=>none
 |p::ps=>if c=p.1 then some p.2 else pZ c ps
def uO (c:Nat)(v:aF):List (Nat×aF)->List (Nat×aF)
 |[]=>[(c,v)]
 |p::ps=>if c=p.1 then(p.1,v)::ps else p::uO c v ps
def Bi (c:Nat):List (Nat×aF)->Nat->Option (Nat×aF)
 |[],_=>none
 |p::ps,i=>if c=p.1 then some (i,p.2) else Bi c ps (i+1)
variable {e:pD}{es:List pD}{ps:List (Nat×aF)}
theorem y7.cons_inv (h:y7 (e::es) ps):∃p qs,ps=p::qs/\e.key=.chan (some p.1)/\e.val=p.2/\y7 es qs:=by
 unfold y7 at h
 cases ps with
 |nil=>cases h
 |cons p qs=>
  rw[jD,jD] at h;injection h with h1 h2;injection h1 with h3 h4;exact⟨p,qs,rfl,h3,h4,h2⟩
theorem y7.nil_inv (h:y7 [] ps):ps=[]:=by
 unfold y7 at h;simp_all
section
variable {P:bT}{k:aN}{d:Nq}{e0:aN}
theorem zqv (hk:P.underlying k=some (.chan d e0))(c:Nat)(w:aE):∀(es:List pD) (ps:List (Nat×aF)) (i:Nat),y7 es ps->(Mb k (.chan (some c)) es i).run P w=.ok (Bi c ps i) w
 |[],ps,i,h=>by rw[h.nil_inv];rfl
 |e::es,ps,i,h=>by
  obtain⟨p,qs,rfl,h1,h2,h3⟩:=h.cons_inv;have ih:=zqv hk c w es qs (i+1) h3;unfold Mb;simp only[F7,h1,zja hk,E9];by_cases hc:c=p.1
  .subst hc;simp[Bi,h2]
  .have:(some c==some p.1)=false:=by rw[beq_eq_false_iff_ne];intro h;injection h with h;exact hc h
   rw[this];simp only[Bool.false_eq_true,if_false,Bi,if_neg hc];exact ih
theorem zfT (hk:P.underlying k=some (.chan d e0))(c:Nat)(w:aE)(es:List pD)(ps:List (Nat×aF))(h:y7 es ps):(Lc k (.chan (some c)) es).run P w=.ok (Bi c ps 0) w:=by
 unfold Lc;simp only[F7,xM hk,E9]
 cases es with
 |nil=>rw[h.nil_inv];rfl
 |cons e es=>
  have:H7 (.chan d e0) (.chan (some c)) (e::es) 0=none:=by
   simp[H7,wN]
  rw[this];exact zqv hk c w _ _ 0 h
theorem zlb (c:Nat):∀(ps:List (Nat×aF)) (i:Nat),(Bi c ps i).map ztM=pZ c ps
 |[],_=>rfl
 |p::ps,i=>by
  unfold Bi pZ;by_cases h:c=p.1
  .simp_all
  .rw[if_neg h,if_neg h];exact zlb c ps (i+1)
theorem zgv (hk:P.underlying k=some (.chan d e0))(b:Bool)(c:Nat)(w:aE):(Hn b 10000 k (.chan (some c))).run P w=.ok () w:=by
 rw[show(10000:Nat)=9999+1 by decide];unfold Hn;simp[xM hk]
variable {ps:List (Nat×aF)}
theorem zAT {t e:aN}(ht:P.underlying t=some (.map k e))(hk:P.underlying k=some (.chan d e0)){z:aF}{w:aE}(hz:(zeroValue e).run P w=.ok z w){b c:Nat}(h:De w b ps)(ok:Bool):
 (Ac t (.map (some b)) (.chan (some c)) ok).run P w=.ok (if ok then .tuple #[(pZ c ps).getD z,.bool (pZ c ps).isSome] else(pZ c ps).getD z) w:=by
 obtain⟨es,clock,hb,he⟩:=h;unfold Ac;have hf:=zlb c ps 0;have hg:(getObj b).run P w=.ok (.map es clock) w:=by first|exact run_getObj hb|(show bK P (zsL b Sem.pure) w=_;unfold bK;rw[hb];rfl)|(simp[getObj,bK,hb])
 simp only[F7,xM ht,E9,hg,J1,zgv hk,zfT hk c w _ _ he]
 cases hq:Bi c ps 0 with
 |none=>
  rw[hq] at hf;have Ei:pZ c ps=none:=by simpa using hf.symm
  simp[hz,Ei]
 |some q=>
  rw[hq] at hf;have Ei:pZ c ps=some q.2:=by simpa using hf.symm
  simp[Ei]
end
variable {c:Nat}{v:aF}
theorem zug :∀{ps:List (Nat×aF)} {i:Nat},Bi c ps i=none->uO c v ps=ps++[(c,v)]
 |[],_,_=>rfl
 |p::ps,i,h=>by
  unfold Bi at h;by_cases hc:c=p.1
  .simp_all
  .rw[if_neg hc] at h
   unfold uO;rw[if_neg hc,zug h];rfl
theorem zsw {c:Nat}{v:aF}:∀{es:List pD} {ps:List (Nat×aF)} {i:Nat} {q:Nat×aF},y7 es ps->Bi c ps i=some q->
 ∃j e0,q.1=i+j/\es[j]? =some e0/\e0.key=.chan (some c)/\y7 (es.set j {e0 with key:=.chan (some c),val:=v}) (uO c v ps)
 |[],ps,i,q,h,hq=>by rw[h.nil_inv] at hq;cases hq
 |e::es,ps,i,q,h,hq=>by
  obtain⟨p,qs,rfl,h1,h2,h3⟩:=h.cons_inv;unfold Bi at hq;by_cases hc:c=p.1
  .rw[if_pos hc] at hq
   injection hq with hq;refine⟨0,e,by rw[<-hq];rfl,rfl,by rw[h1,hc],?_⟩;unfold uO;rw[if_pos hc];unfold y7 at h3⊢;simp_all
  .rw[if_neg hc] at hq
   obtain⟨j,e0,e1,e2,e3,e4⟩:=zsw (v:=v) h3 hq;refine⟨j+1,e0,by rw[e1];omega,e2,e3,?_⟩;unfold uO;rw[if_neg hc];unfold y7 at e4⊢;simp_all
variable {P:bT}
theorem zGo (c:Nat)(w:aE):(Qr (.chan (some c)) (.chan (some c))).run P w=.ok (.chan (some c)) w:=by
 unfold Qr;rw[if_pos (by simp[zbB])];rfl
section
variable {P:bT}{k:aN}{d:Nq}{e0:aN}
variable {ps:List (Nat×aF)}
open Go.ChangeMaps in
theorem zIX {t e:aN}(ht:P.underlying t=some (.map k e))(hk:P.underlying k=some (.chan d e0)){w:aE}{b c:Nat}(h:De w b ps)(v:aF):
 ∃eI za9,(Hp t (.map (some b)) (.chan (some c)) v).run P w=.ok () {w with heap:=w.heap.setIfInBounds b (.map eI za9)}/\De {w with heap:=w.heap.setIfInBounds b (.map eI za9)} b (uO c v ps):=by
 obtain⟨es,clock,hb,he⟩:=h;have hz:=(dR.1 hb).1
 cases hq:Bi c ps 0 with
 |none=>
  refine⟨es.push ⟨.chan (some c),v,clock⟩,clock+1,?_,es.push ⟨.chan (some c),v,clock⟩,clock+1,by simp[hz],?_⟩
  .simp[Hp,xM ht,Wo hb,zgv hk,zfT hk c w _ _ he,hq,Zd _ hb,uR]
  .rw[zug hq]
   unfold y7 at he⊢;simp_all
 |some q=>
  obtain⟨j,x,e1,e2,e3,e4⟩:=zsw (v:=v) he hq;have Cv:q.1=j:=aC;have hj:es[j]? =some x:=by simpa using e2
  refine⟨es.modify j (λe'=>{e' with key:=.chan (some c),val:=v}),clock,?_,es.modify j (λe'=>{e' with key:=.chan (some c),val:=v}),clock,by simp[hz],?_⟩
  .simp[Hp,xM ht,Wo hb,zgv hk,zfT hk c w _ _ he,hq,Cv,hj,e3,zGo,Zd _ hb,uR]
  .have:(es.modify j (λe'=>{e' with key:=.chan (some c),val:=v})).toList=es.toList.set j {x with key:=.chan (some c),val:=v}:=by
    rw[ztu,modify_eq_set _ _ _ _ e2]
   rw[this];exact e4
variable {ops:Array aX}{rest:List aX}{o:aX}{a:Act}{Q:oP->Act->aE->Prop}
theorem zpa (w:aE)(hg:o.guard=none)(m x:cJ)(t:aN)(ok:Bool)(hop:o.op=Op.lookup t m x ok)(e:aN)
 (ht:P.underlying t=some (.map k e)) (hk:P.underlying k=some (.chan d e0)) (z:aF) (hz:(zeroValue e).run P w=.ok z w) (b c:Nat) (ps:List (Nat×aF)) (hm:a.eval m=.map (some b)) (hx:a.eval x=.chan (some c)) (h:De w b ps)
 (hK:wpList P ops Q rest (a.put o.dst (if ok then .tuple #[(pZ c ps).getD z,.bool (pZ c ps).isSome] else(pZ c ps).getD z)) w):wpList P ops Q (o::rest) a w:=by
 refine Tu hg λK' sN=>?_;have cP:=zAT ht hk hz h (c:=c) ok;unfold C5;simp[aS,hop,hm,hx,cP,uR];cases ok<;>exact sN _ _ hK
theorem zH2 (w:aE)(hg:o.guard=none)(m x y:cJ)(t:aN)(hop:o.op=zp9 t m x y)(e:aN)
 (ht:P.underlying t=some (.map k e)) (hk:P.underlying k=some (.chan d e0)) (b c:Nat) (v:aF) (ps:List (Nat×aF)) (hm:a.eval m=.map (some b)) (hx:a.eval x=.chan (some c)) (hy:a.eval y=v) (h:De w b ps)
 (hK:∀w' o',w'={w with heap:=w.heap.setIfInBounds b o'}->De w' b (uO c v ps)->wpList P ops Q rest (a.put o.dst aA) w'):wpList P ops Q (o::rest) a w:=by
 refine Tu hg λK' sN=>?_;obtain⟨es,cl,cP,pJ⟩:=zIX ht hk h (c:=c) v;unfold C5;simp[aS,hop,hm,hx,hy,cP,uR];exact sN _ _ (hK _ _ rfl pJ)
open Go.ChangeMaps in
end
def zI (es:List pD)(ps:List (Int×aF)):Prop:=es.map (λe=>(e.key,e.val))=ps.map (λp=>(aF.int .i64 p.1,p.2))
def yP (w:aE)(b:Nat)(ps:List (Int×aF)):Prop:=∃es clock,w.heap[b]? =some (.map es clock)/\zI es.toList ps
def lH (c:Int):List (Int×aF)->Option aF
 |[]=>none
 |p::ps=>if c=p.1 then some p.2 else lH c ps
def rB (c:Int)(v:aF):List (Int×aF)->List (Int×aF)
 |[]=>[(c,v)]
 |p::ps=>if c=p.1 then(p.1,v)::ps else p::rB c v ps
def Bh (c:Int):List (Int×aF)->Nat->Option (Nat×aF)
 |[],_=>none
 |p::ps,i=>if c=p.1 then some (i,p.2) else Bh c ps (i+1)
variable {ps:List (Int×aF)}
theorem zI.cons_inv (h:zI (e::es) ps):∃p qs,ps=p::qs/\e.key=.int .i64 p.1/\e.val=p.2/\zI es qs:=by
 unfold zI at h
 cases ps with
 |nil=>cases h
 |cons p qs=>
  rw[jD,jD] at h;injection h with h1 h2;injection h1 with h3 h4;exact⟨p,qs,rfl,h3,h4,h2⟩
theorem zI.nil_inv (h:zI [] ps):ps=[]:=by
 unfold zI at h;simp_all
section
variable {P:bT}{k:aN}
theorem zuo (c:Int):∀(es:List pD) (ps:List (Int×aF)) (i:Nat),zI es ps->H7 (.int .i64) (.int .i64 c) es i=some (Bh c ps i)
 |[],ps,i,h=>by rw[h.nil_inv];rfl
 |e::es,ps,i,h=>by
  obtain⟨p,qs,rfl,h1,h2,h3⟩:=h.cons_inv;have ih:=zuo c es qs (i+1) h3;unfold H7;simp only[h1,wN,if_true];by_cases hc:c=p.1
  .subst hc;simp[Bh,h2]
  .have:(c==p.1)=false:=by rw[beq_eq_false_iff_ne];exact hc
   rw[this];simp only[Bh,if_neg hc];exact ih
theorem zhw (hk:P.underlying k=some (.int .i64))(c:Int)(w:aE)(es:List pD)(ps:List (Int×aF))(h:zI es ps):(Lc k (.int .i64 c) es).run P w=.ok (Bh c ps 0) w:=by
 unfold Lc;simp only[F7,xM hk,E9,zuo c es ps 0 h,J1]
theorem zi0 (c:Int):∀(ps:List (Int×aF)) (i:Nat),(Bh c ps i).map ztM=lH c ps
 |[],_=>rfl
 |p::ps,i=>by
  unfold Bh lH;by_cases h:c=p.1
  .simp_all
  .rw[if_neg h,if_neg h];exact zi0 c ps (i+1)
theorem zfS (hk:P.underlying k=some (.int .i64))(b:Bool)(c:Int)(w:aE):(Hn b 10000 k (.int .i64 c)).run P w=.ok () w:=by
 rw[show(10000:Nat)=9999+1 by decide];unfold Hn;simp[xM hk]
variable {ps:List (Int×aF)}
theorem zaI {t e:aN}(ht:P.underlying t=some (.map k e))(hk:P.underlying k=some (.int .i64)){z:aF}{w:aE}(hz:(zeroValue e).run P w=.ok z w){b:Nat}{c:Int}(h:yP w b ps)(ok:Bool):
 (Ac t (.map (some b)) (.int .i64 c) ok).run P w=.ok (if ok then .tuple #[(lH c ps).getD z,.bool (lH c ps).isSome] else(lH c ps).getD z) w:=by
 obtain⟨es,clock,hb,he⟩:=h;unfold Ac;have hf:=zi0 c ps 0;have hg:(getObj b).run P w=.ok (.map es clock) w:=by first|exact run_getObj hb|(show bK P (zsL b Sem.pure) w=_;unfold bK;rw[hb];rfl)|(simp[getObj,bK,hb])
 simp only[F7,xM ht,E9,hg,J1,zfS hk,zhw hk c w _ _ he]
 cases hq:Bh c ps 0 with
 |none=>
  rw[hq] at hf;have Ei:lH c ps=none:=by simpa using hf.symm
  simp[hz,Ei]
 |some q=>
  rw[hq] at hf;have Ei:lH c ps=some q.2:=by simpa using hf.symm
  simp[Ei]
end
theorem zot {c:Int}:∀{ps:List (Int×aF)} {i:Nat},Bh c ps i=none->rB c v ps=ps++[(c,v)]
 |[],_,_=>rfl
 |p::ps,i,h=>by
  unfold Bh at h;by_cases hc:c=p.1
  .simp_all
  .rw[if_neg hc] at h
   unfold rB;rw[if_neg hc,zot h];rfl
theorem zyl {c:Int}{v:aF}:∀{es:List pD} {ps:List (Int×aF)} {i:Nat} {q:Nat×aF},zI es ps->Bh c ps i=some q->
 ∃j e0,q.1=i+j/\es[j]? =some e0/\e0.key=.int .i64 c/\zI (es.set j {e0 with key:=.int .i64 c,val:=v}) (rB c v ps)
 |[],ps,i,q,h,hq=>by rw[h.nil_inv] at hq;cases hq
 |e::es,ps,i,q,h,hq=>by
  obtain⟨p,qs,rfl,h1,h2,h3⟩:=h.cons_inv;unfold Bh at hq;by_cases hc:c=p.1
  .rw[if_pos hc] at hq
   injection hq with hq;refine⟨0,e,by rw[<-hq];rfl,rfl,by rw[h1,hc],?_⟩;unfold rB;rw[if_pos hc];unfold zI at h3⊢;simp_all
  .rw[if_neg hc] at hq
   obtain⟨j,e0,e1,e2,e3,e4⟩:=zyl (v:=v) h3 hq;refine⟨j+1,e0,by rw[e1];omega,e2,e3,?_⟩;unfold rB;rw[if_neg hc];unfold zI at e4⊢;simp_all
theorem zIF (c:Int)(w:aE):(Qr (.int .i64 c) (.int .i64 c)).run P w=.ok (.int .i64 c) w:=by
 unfold Qr;rw[if_pos (by simp[zbB])];rfl
section
variable {P:bT}{k:aN}
variable {ps:List (Int×aF)}
open Go.ChangeMaps in
theorem zuc {t e:aN}(ht:P.underlying t=some (.map k e))(hk:P.underlying k=some (.int .i64)){w:aE}{b:Nat}{c:Int}(h:yP w b ps)(v:aF):
 ∃eI za9,(Hp t (.map (some b)) (.int .i64 c) v).run P w=.ok () {w with heap:=w.heap.setIfInBounds b (.map eI za9)}/\yP {w with heap:=w.heap.setIfInBounds b (.map eI za9)} b (rB c v ps):=by
 obtain⟨es,clock,hb,he⟩:=h;have hz:=(dR.1 hb).1
 cases hq:Bh c ps 0 with
 |none=>
  refine⟨es.push ⟨.int .i64 c,v,clock⟩,clock+1,?_,es.push ⟨.int .i64 c,v,clock⟩,clock+1,by simp[hz],?_⟩
  .simp[Hp,xM ht,Wo hb,zfS hk,zhw hk c w _ _ he,hq,Zd _ hb,uR]
  .rw[zot hq]
   unfold zI at he⊢;simp_all
 |some q=>
  obtain⟨j,x,e1,e2,e3,e4⟩:=zyl (v:=v) he hq;have Cv:q.1=j:=aC;have hj:es[j]? =some x:=by simpa using e2
  refine⟨es.modify j (λe'=>{e' with key:=.int .i64 c,val:=v}),clock,?_,es.modify j (λe'=>{e' with key:=.int .i64 c,val:=v}),clock,by simp[hz],?_⟩
  .simp[Hp,xM ht,Wo hb,zfS hk,zhw hk c w _ _ he,hq,Cv,hj,e3,zIF,Zd _ hb,uR]
  .have:(es.modify j (λe'=>{e' with key:=.int .i64 c,val:=v})).toList=es.toList.set j {x with key:=.int .i64 c,val:=v}:=by
    rw[ztu,modify_eq_set _ _ _ _ e2]
   rw[this];exact e4
variable {ops:Array aX}{rest:List aX}{o:aX}{a:Act}{Q:oP->Act->aE->Prop}
theorem zrp (w:aE)(hg:o.guard=none)(m x:cJ)(t:aN)(ok:Bool)(hop:o.op=Op.lookup t m x ok)(e:aN)
 (ht:P.underlying t=some (.map k e)) (hk:P.underlying k=some (.int .i64)) (z:aF) (hz:(zeroValue e).run P w=.ok z w) (b:Nat) (c:Int) (ps:List (Int×aF)) (hm:a.eval m=.map (some b)) (hx:a.eval x=.int .i64 c) (h:yP w b ps)
 (hK:wpList P ops Q rest (a.put o.dst (if ok then .tuple #[(lH c ps).getD z,.bool (lH c ps).isSome] else(lH c ps).getD z)) w):wpList P ops Q (o::rest) a w:=by
 refine Tu hg λK' sN=>?_;have cP:=zaI ht hk hz h (c:=c) ok;unfold C5;simp[aS,hop,hm,hx,cP,uR];cases ok<;>exact sN _ _ hK
theorem zFj (w:aE)(hg:o.guard=none)(m x y:cJ)(t:aN)(hop:o.op=zp9 t m x y)(e:aN)
 (ht:P.underlying t=some (.map k e)) (hk:P.underlying k=some (.int .i64)) (b:Nat) (c:Int) (v:aF) (ps:List (Int×aF)) (hm:a.eval m=.map (some b)) (hx:a.eval x=.int .i64 c) (hy:a.eval y=v) (h:yP w b ps)
 (hK:∀w' o',w'={w with heap:=w.heap.setIfInBounds b o'}->yP w' b (rB c v ps)->wpList P ops Q rest (a.put o.dst aA) w'):wpList P ops Q (o::rest) a w:=by
 refine Tu hg λK' sN=>?_;obtain⟨es,cl,cP,pJ⟩:=zuc ht hk h (c:=c) v;unfold C5;simp[aS,hop,hm,hx,hy,cP,uR];exact sN _ _ (hK _ _ rfl pJ)
open Go.ChangeMaps in
end
structure fH where
 sL:aF
 sQ:aF
 sW:aF
 sB:aF
 sR:aF
 sA:aF
 sT:aF
 mC:Nat
 mO:Nat
 mM:Nat
 pC:List (Nat×aF)
 pO:List (Int×aF)
 pM:List (Int×aF)
structure oG where
 r:cC
 ln:List Nat
 qn:List Nat
 tk:List Int
def Jx (xs:List Nat):List Value:=xs.map λc=>.chan (some c)
abbrev hallA (v:fH)(d:oG):Array Value:=#[.int .i64 d.r.o.ln,.int .i64 d.r.o.op,.int .i64 d.r.o.pt,v.sL,.map (some v.mC),.map (some v.mO),v.sQ,v.sW,v.sB,v.sR,.map (some v.mM),.int .i64 d.r.clk,v.sA,v.sT]
abbrev Oa (v:fH)(d:oG):Obj:=.cells (hallA v d) 72
def parts (v:fH)(hb:Nat):List (Option Nat):=[some hb,v.sL.ownBlock,some v.mC,some v.mO,v.sQ.ownBlock,v.sW.ownBlock,v.sB.ownBlock,v.sR.ownBlock,some v.mM,v.sA.ownBlock,v.sT.ownBlock]
def zb3 (l:List (Option Nat)):Prop:=∀(i j b:Nat),l[i]? =some (some b)->l[j]? =some (some b)->i=j
structure bG (w:aE)(lo hb:Nat)(v:fH)(d:oG):Prop where
 blk:w.heap[hb]? =some (Oa v d)
 lob:lo<=hb/\lo<=v.mC/\lo<=v.mO/\lo<=v.mM
 L:w.ownsRow lo 84 1 v.sL d.ln.length (Jx d.ln)
 Q:w.ownsRow lo 95 1 v.sQ d.qn.length (Jx d.qn)
 W:w.ownsRow lo 149 2 v.sW d.r.wait.length (bH d.r.wait)
 B:w.ownsRow lo 3 1 v.sB d.r.back.length (jY (d.r.back.map bN.c))
 R:w.ownsRow lo 50 7 v.sR d.r.recs.length (recs d.r.recs)
 A:w.ownsRow lo 9 1 v.sA d.r.log.length (nV d.r.log)
 T:w.ownsRow lo 3 1 v.sT d.tk.length (jY d.tk)
 C:De w v.mC v.pC
 O:yP w v.mO v.pO
 M:yP w v.mM v.pM
 ap:zb3 (parts v hb)
structure bP (hb:Nat)(v:fH)(w:aE)(v':fH)(w':aE):Prop where
 size:w.heap.size<=w'.heap.size
 block:∀b,b<w.heap.size->some b∉parts v hb->w'.heap[b]? =w.heap[b]?
 moved:∀b,some b∈parts v' hb->some b∈parts v hb\/w.heap.size<=b
section
variable {w w1 w' Fg:aE}{lo hb:Nat}{v v' zdf:fH}{d:oG}
def bP.refl:bP hb v w v w:=⟨bL _,λ_ _ _=>rfl,λ_ h=>.inl h⟩
theorem bP.trans (h:bP hb v w v' w')(k:bP hb v' w' zdf Fg):bP hb v w zdf Fg:=
 ⟨eG h.size k.size,λb b9 hn=>(k.block b (j5 b9 h.size) (λx=>(h.moved b x).elim hn λy=>by omega)).trans (h.block b b9 hn),λb x=>(k.moved b x).elim (h.moved b) λy=>.inr (eG h.size y)⟩
def bP.below (h:bY w.heap.size w w'):bP hb v w v w':=⟨h.size,λb hb _=>h.block b hb,λ_ h=>.inl h⟩
theorem bP.same (h:bP hb v w v' w'){x:aE}(e:x.heap=w'.heap):bP hb v w v' x:=⟨by rw[e];exact h.size,λb hb hn=>by rw[e];exact h.block b hb hn,h.moved⟩
variable {x:aF}
theorem cM {E s n:Nat}{xs:List aF}(h:w.ownsRow lo E s x n xs)(k:∀b,x.ownBlock=some b->w'.heap[b]? =w.heap[b]?):w'.ownsRow lo E s x n xs:=by
 obtain⟨hl,h|⟨g,cap,cur,rfl,h1,hg,h2⟩⟩:=h
 .exact⟨hl,.inl h⟩
 .exact⟨hl,.inr ⟨g,cap,cur,rfl,h1,(k g rfl).trans hg,h2⟩⟩
theorem De.keep {b:Nat}{ps:List (Nat×aF)}(h:De w b ps)(k:w'.heap[b]? =w.heap[b]?):De w' b ps:=by
 obtain⟨es,cl,h1,h2⟩:=h;exact⟨es,cl,k.trans h1,h2⟩
variable {ps:List (Int×aF)}
theorem yP.keep {b:Nat}(h:yP w b ps)(k:w'.heap[b]? =w.heap[b]?):yP w' b ps:=by
 obtain⟨es,cl,h1,h2⟩:=h;exact⟨es,cl,k.trans h1,h2⟩
theorem De.lt {b:Nat}{ps:List (Nat×aF)}(h:De w b ps):b<w.heap.size:=by
 obtain⟨es,cl,h1,h2⟩:=h;exact(dR.1 h1).1
theorem yP.lt {b:Nat}(h:yP w b ps):b<w.heap.size:=by
 obtain⟨es,cl,h1,h2⟩:=h;exact(dR.1 h1).1
theorem bG.lt (h:bG w lo hb v d):∀b,some b∈parts v hb->lo<=b/\b<w.heap.size:=by
 intro b b9;unfold parts at b9;simp only[lV,List.not_mem_nil,or_false] at b9;obtain⟨l0,l1,l2,l3⟩:=h.lob;have zo5:=(dR.1 h.blk).1;rcases b9 with e|e|e|e|e|e|e|e|e|e|e
 .simp_all
 .exact h.L.lt b e.symm
 .cases e;exact⟨l1,h.C.lt⟩
 .cases e;exact⟨l2,h.O.lt⟩
 .exact h.Q.lt b e.symm
 .exact h.W.lt b e.symm
 .exact h.B.lt b e.symm
 .exact h.R.lt b e.symm
 .cases e;exact⟨l3,h.M.lt⟩
 .exact h.A.lt b e.symm
 .exact h.T.lt b e.symm
theorem bG.keep (h:bG w lo hb v d)(k:∀b,b<w.heap.size->some b∈parts v hb->w'.heap[b]? =w.heap[b]?):bG w' lo hb v d:=by
 have kk:∀b,some b∈parts v hb->w'.heap[b]? =w.heap[b]? :=λb hb=>k b (h.lt b hb).2 hb;exact⟨(kk _ (fI (i:=0) zdV)).trans h.blk,h.lob,cM h.L λb e=>kk _ (fI (i:=1) cZ),cM h.Q λb e=>kk _ (fI (i:=4) cZ),cM h.W λb e=>kk _ (fI (i:=5) cZ),cM h.B λb e=>kk _ (fI (i:=6) cZ),cM h.R λb e=>kk _ (fI (i:=7) cZ),cM h.A λb e=>kk _ (fI (i:=9) cZ),cM h.T λb e=>kk _ (fI (i:=10) cZ),h.C.keep (kk _ (fI (i:=2) zdV)),h.O.keep (kk _ (fI (i:=3) zdV)),h.M.keep (kk _ (fI (i:=8) zdV)),h.ap⟩
def bG.below (h:bG w lo hb v d)(k:bY w.heap.size w w'):bG w' lo hb v d:=h.keep λb hb _=>k.block b hb
def bG.alloc (h:bG w lo hb v d)(o:Obj):bG (w.alloc o) lo hb v d:=h.keep λb hb _=>sV w o b hb
def bG.drew (h:bG w lo hb v d):bG w.drew lo hb v d:=h.keep λ_ _ _=>rfl
theorem bG.same (h:bG w lo hb v d)(e:w'.heap=w.heap):bG w' lo hb v d:=h.keep λb _ _=>by rw[e]
variable {o:Obj}
theorem bG.turned {x:Nat}(h:bG w lo hb v d)(t:bP hb v w v' w')(hx:w.heap[x]? =some o)(hn:some x∉parts v hb):w'.heap[x]? =some o/\some x∉parts v' hb:=
 ⟨(t.block x (dR.1 hx).1 hn).trans hx,λy=>(t.moved x y).elim hn λz=>by simp_all⟩
def bG.ne (h:bG w lo hb v d){i j a b:Nat}(hi:(parts v hb)[i]? =some (some a))(hj:(parts v hb)[j]? =some (some b))(s7:i≠j):a≠b:=λe=>s7 (h.ap i j a hi (e▸hj))
theorem Tm {l:List (Option Nat)}(h:zb3 l){j n:Nat}{x:Option Nat}(hl:∀b,some b∈l->b<n)(hx:l[j]? =some x\/∀b,x=some b->n<=b):zb3 (l.set j x):=by
 intro i k b hi hk;rw[zdu] at hi hk;have old:∀m,l[m]? =some (some b)->b<n:=λm hm=>hl b (fI hm);split at hi<;>split at hk
 .omega
 .next e1 e2=>
  split at hi
  .injection hi with hi
   subst hi;rcases hx with hx|hx
   .exact e1▸h j k b hx hk
   .grind
  .cases hi
 .next e1 e2=>
  split at hk
  .injection hk with hk
   subst hk;rcases hx with hx|hx
   .exact e2▸h i j b hi hx
   .grind
  .cases hk
 .exact h i k b hi hk
theorem bG.other (h:bG w lo hb v d){j c:Nat}(hj:(parts v hb)[j]? =some x.ownBlock)(zmR:j≠0)(hg:w.grownBy w1 x.ownBlock)(s':aF):
 (∀i b,i≠0->i≠j->(parts v hb)[i]? =some (some b)->(w1.setCell ⟨hb,c,none⟩ s').heap[b]? =w.heap[b]?)/\w1.heap[hb]? =w.heap[hb]? :=by
 have h0:(parts v hb)[0]? =some (some hb):=rfl;have hx:∀i b,i≠j->(parts v hb)[i]? =some (some b)->some b≠x.ownBlock:=λi b s7 hi e=>s7 (h.ap i j b hi (by rw[hj,<-e]));refine⟨λi b fN s7 hi=>?_,hg.block hb (h.lt hb (fI h0)).2 (hx 0 hb (Ne.symm zmR) h0)⟩;have aV:b≠hb:=h.ne hi h0 fN;exact(dU w1 _ _ b aV).trans (hg.block b (h.lt b (fI hi)).2 (hx i b s7 hi))
variable {s':aF}
theorem Vb {j c:Nat}(aU:∀b,some b∈parts v hb->b<w.heap.size)(hj:(parts v hb)[j]? =some x.ownBlock)(hg:w.grownBy w1 x.ownBlock)(hv:parts v' hb=(parts v hb).set j s'.ownBlock)(hw:s'.ownBlock=x.ownBlock\/∀b,s'.ownBlock=some b->w.heap.size<=b):
 bP hb v w v' (w1.setCell ⟨hb,c,none⟩ s'):=by
 refine⟨by rw[wR];exact hg.size,λb b9 hn=>?_,λb b9=>?_⟩
 .have h0:some hb∈parts v hb:=fI (i:=0) rfl
  have aV:b≠hb:=λe=>hn (e▸h0);exact(dU w1 _ _ b aV).trans (hg.block b b9 λe=>hn (e▸fI hj))
 .grind
theorem bG.putL (h:bG w lo hb v d)(hg:w.grownBy w1 v.sL.ownBlock){xs:List Nat}{n:Nat}(ho:w1.ownsRow lo 84 1 s' n (Jx xs))(hn:n=xs.length)(hw:s'.ownBlock=v.sL.ownBlock\/∀b,s'.ownBlock=some b->w.heap.size<=b):
 bG (w1.setCell ⟨hb,3,none⟩ s') lo hb {v with sL:=s'} {d with ln:=xs}/\bP hb v w {v with sL:=s'} (w1.setCell ⟨hb,3,none⟩ s'):=by
 subst hn;have aU:∀b,some b∈parts v hb->b<w.heap.size:=λb hb=>(h.lt b hb).2;obtain⟨kk,k0⟩:=h.other (j:=1) (c:=3) (x:=v.sL) rfl aH hg s';have hs:∀b,s'.ownBlock=some b->b≠hb:=λb e=>by
  rcases hw with hw|hw
  .exact h.ne (i:=1) (j:=0) (show some v.sL.ownBlock=_ by rw[<-hw,e]) rfl aH
  .have:=hw b e;have:=aU hb (fI (i:=0) rfl);omega
 have hp:parts {v with sL:=s'} hb=(parts v hb).set 1 s'.ownBlock:=rfl;refine⟨⟨oQ (k0.trans h.blk) s',h.lob,cM ho λb e=>dU w1 _ _ b (hs b e),cM h.Q λb e=>kk 4 _ aH aH cZ,cM h.W λb e=>kk 5 _ aH aH cZ,cM h.B λb e=>kk 6 _ aH aH cZ,cM h.R λb e=>kk 7 _ aH aH cZ,cM h.A λb e=>kk 9 _ aH aH cZ,cM h.T λb e=>kk 10 _ aH aH cZ,h.C.keep (kk 2 _ aH aH rfl),h.O.keep (kk 3 _ aH aH rfl),h.M.keep (kk 8 _ aH aH rfl),?_⟩,Vb (j:=1) (x:=v.sL) aU rfl hg hp hw⟩;rw[hp];exact Tm h.ap aU (hw.imp (λe=>by rw[e];rfl) id)
theorem bG.putQ (h:bG w lo hb v d)(hg:w.grownBy w1 v.sQ.ownBlock){xs:List Nat}{n:Nat}(ho:w1.ownsRow lo 95 1 s' n (Jx xs))(hn:n=xs.length)(hw:s'.ownBlock=v.sQ.ownBlock\/∀b,s'.ownBlock=some b->w.heap.size<=b):
 bG (w1.setCell ⟨hb,6,none⟩ s') lo hb {v with sQ:=s'} {d with qn:=xs}/\bP hb v w {v with sQ:=s'} (w1.setCell ⟨hb,6,none⟩ s'):=by
 subst hn;have aU:∀b,some b∈parts v hb->b<w.heap.size:=λb hb=>(h.lt b hb).2;obtain⟨kk,k0⟩:=h.other (j:=4) (c:=6) (x:=v.sQ) rfl aH hg s';have hs:∀b,s'.ownBlock=some b->b≠hb:=λb e=>by
  rcases hw with hw|hw
  .exact h.ne (i:=4) (j:=0) (show some v.sQ.ownBlock=_ by rw[<-hw,e]) rfl aH
  .have:=hw b e;have:=aU hb (fI (i:=0) rfl);omega
 have hp:parts {v with sQ:=s'} hb=(parts v hb).set 4 s'.ownBlock:=rfl;refine⟨⟨oQ (k0.trans h.blk) s',h.lob,cM h.L λb e=>kk 1 _ aH aH cZ,cM ho λb e=>dU w1 _ _ b (hs b e),cM h.W λb e=>kk 5 _ aH aH cZ,cM h.B λb e=>kk 6 _ aH aH cZ,cM h.R λb e=>kk 7 _ aH aH cZ,cM h.A λb e=>kk 9 _ aH aH cZ,cM h.T λb e=>kk 10 _ aH aH cZ,h.C.keep (kk 2 _ aH aH rfl),h.O.keep (kk 3 _ aH aH rfl),h.M.keep (kk 8 _ aH aH rfl),?_⟩,Vb (j:=4) (x:=v.sQ) aU rfl hg hp hw⟩;rw[hp];exact Tm h.ap aU (hw.imp (λe=>by rw[e];rfl) id)
variable {xs:List bN}
theorem bG.putW (h:bG w lo hb v d)(hg:w.grownBy w1 v.sW.ownBlock){n:Nat}(ho:w1.ownsRow lo 149 2 s' n (bH xs))(hn:n=xs.length)(hw:s'.ownBlock=v.sW.ownBlock\/∀b,s'.ownBlock=some b->w.heap.size<=b):
 bG (w1.setCell ⟨hb,7,none⟩ s') lo hb {v with sW:=s'} {d with r:={d.r with wait:=xs}}/\bP hb v w {v with sW:=s'} (w1.setCell ⟨hb,7,none⟩ s'):=by
 subst hn;have aU:∀b,some b∈parts v hb->b<w.heap.size:=λb hb=>(h.lt b hb).2;obtain⟨kk,k0⟩:=h.other (j:=5) (c:=7) (x:=v.sW) rfl aH hg s';have hs:∀b,s'.ownBlock=some b->b≠hb:=λb e=>by
  rcases hw with hw|hw
  .exact h.ne (i:=5) (j:=0) (show some v.sW.ownBlock=_ by rw[<-hw,e]) rfl aH
  .have:=hw b e;have:=aU hb (fI (i:=0) rfl);omega
 have hp:parts {v with sW:=s'} hb=(parts v hb).set 5 s'.ownBlock:=rfl;refine⟨⟨oQ (k0.trans h.blk) s',h.lob,cM h.L λb e=>kk 1 _ aH aH cZ,cM h.Q λb e=>kk 4 _ aH aH cZ,cM ho λb e=>dU w1 _ _ b (hs b e),cM h.B λb e=>kk 6 _ aH aH cZ,cM h.R λb e=>kk 7 _ aH aH cZ,cM h.A λb e=>kk 9 _ aH aH cZ,cM h.T λb e=>kk 10 _ aH aH cZ,h.C.keep (kk 2 _ aH aH rfl),h.O.keep (kk 3 _ aH aH rfl),h.M.keep (kk 8 _ aH aH rfl),?_⟩,Vb (j:=5) (x:=v.sW) aU rfl hg hp hw⟩;rw[hp];exact Tm h.ap aU (hw.imp (λe=>by rw[e];rfl) id)
theorem bG.putB (h:bG w lo hb v d)(hg:w.grownBy w1 v.sB.ownBlock){n:Nat}(ho:w1.ownsRow lo 3 1 s' n (jY (xs.map bN.c)))(hn:n=xs.length)(hw:s'.ownBlock=v.sB.ownBlock\/∀b,s'.ownBlock=some b->w.heap.size<=b):
 bG (w1.setCell ⟨hb,8,none⟩ s') lo hb {v with sB:=s'} {d with r:={d.r with back:=xs}}/\bP hb v w {v with sB:=s'} (w1.setCell ⟨hb,8,none⟩ s'):=by
 subst hn;have aU:∀b,some b∈parts v hb->b<w.heap.size:=λb hb=>(h.lt b hb).2;obtain⟨kk,k0⟩:=h.other (j:=6) (c:=8) (x:=v.sB) rfl aH hg s';have hs:∀b,s'.ownBlock=some b->b≠hb:=λb e=>by
  rcases hw with hw|hw
  .exact h.ne (i:=6) (j:=0) (show some v.sB.ownBlock=_ by rw[<-hw,e]) rfl aH
  .have:=hw b e;have:=aU hb (fI (i:=0) rfl);omega
 have hp:parts {v with sB:=s'} hb=(parts v hb).set 6 s'.ownBlock:=rfl;refine⟨⟨oQ (k0.trans h.blk) s',h.lob,cM h.L λb e=>kk 1 _ aH aH cZ,cM h.Q λb e=>kk 4 _ aH aH cZ,cM h.W λb e=>kk 5 _ aH aH cZ,cM ho λb e=>dU w1 _ _ b (hs b e),cM h.R λb e=>kk 7 _ aH aH cZ,cM h.A λb e=>kk 9 _ aH aH cZ,cM h.T λb e=>kk 10 _ aH aH cZ,h.C.keep (kk 2 _ aH aH rfl),h.O.keep (kk 3 _ aH aH rfl),h.M.keep (kk 8 _ aH aH rfl),?_⟩,Vb (j:=6) (x:=v.sB) aU rfl hg hp hw⟩;rw[hp];exact Tm h.ap aU (hw.imp (λe=>by rw[e];rfl) id)
theorem bG.putR (h:bG w lo hb v d)(hg:w.grownBy w1 v.sR.ownBlock){xs:List bV}{n:Nat}(ho:w1.ownsRow lo 50 7 s' n (recs xs))(hn:n=xs.length)(hw:s'.ownBlock=v.sR.ownBlock\/∀b,s'.ownBlock=some b->w.heap.size<=b):
 bG (w1.setCell ⟨hb,9,none⟩ s') lo hb {v with sR:=s'} {d with r:={d.r with recs:=xs}}/\bP hb v w {v with sR:=s'} (w1.setCell ⟨hb,9,none⟩ s'):=by
 subst hn;have aU:∀b,some b∈parts v hb->b<w.heap.size:=λb hb=>(h.lt b hb).2;obtain⟨kk,k0⟩:=h.other (j:=7) (c:=9) (x:=v.sR) rfl aH hg s';have hs:∀b,s'.ownBlock=some b->b≠hb:=λb e=>by
  rcases hw with hw|hw
  .exact h.ne (i:=7) (j:=0) (show some v.sR.ownBlock=_ by rw[<-hw,e]) rfl aH
  .have:=hw b e;have:=aU hb (fI (i:=0) rfl);omega
 have hp:parts {v with sR:=s'} hb=(parts v hb).set 7 s'.ownBlock:=rfl;refine⟨⟨oQ (k0.trans h.blk) s',h.lob,cM h.L λb e=>kk 1 _ aH aH cZ,cM h.Q λb e=>kk 4 _ aH aH cZ,cM h.W λb e=>kk 5 _ aH aH cZ,cM h.B λb e=>kk 6 _ aH aH cZ,cM ho λb e=>dU w1 _ _ b (hs b e),cM h.A λb e=>kk 9 _ aH aH cZ,cM h.T λb e=>kk 10 _ aH aH cZ,h.C.keep (kk 2 _ aH aH rfl),h.O.keep (kk 3 _ aH aH rfl),h.M.keep (kk 8 _ aH aH rfl),?_⟩,Vb (j:=7) (x:=v.sR) aU rfl hg hp hw⟩;rw[hp];exact Tm h.ap aU (hw.imp (λe=>by rw[e];rfl) id)
variable {xs:List (List UInt8)}
theorem bG.putA (h:bG w lo hb v d)(hg:w.grownBy w1 v.sA.ownBlock){n:Nat}(ho:w1.ownsRow lo 9 1 s' n (nV xs))(hn:n=xs.length)(hw:s'.ownBlock=v.sA.ownBlock\/∀b,s'.ownBlock=some b->w.heap.size<=b):
 bG (w1.setCell ⟨hb,12,none⟩ s') lo hb {v with sA:=s'} {d with r:={d.r with log:=xs}}/\bP hb v w {v with sA:=s'} (w1.setCell ⟨hb,12,none⟩ s'):=by
 subst hn;have aU:∀b,some b∈parts v hb->b<w.heap.size:=λb hb=>(h.lt b hb).2;obtain⟨kk,k0⟩:=h.other (j:=9) (c:=12) (x:=v.sA) rfl aH hg s';have hs:∀b,s'.ownBlock=some b->b≠hb:=λb e=>by
  rcases hw with hw|hw
  .exact h.ne (i:=9) (j:=0) (show some v.sA.ownBlock=_ by rw[<-hw,e]) rfl aH
  .have:=hw b e;have:=aU hb (fI (i:=0) rfl);omega
 have hp:parts {v with sA:=s'} hb=(parts v hb).set 9 s'.ownBlock:=rfl;refine⟨⟨oQ (k0.trans h.blk) s',h.lob,cM h.L λb e=>kk 1 _ aH aH cZ,cM h.Q λb e=>kk 4 _ aH aH cZ,cM h.W λb e=>kk 5 _ aH aH cZ,cM h.B λb e=>kk 6 _ aH aH cZ,cM h.R λb e=>kk 7 _ aH aH cZ,cM ho λb e=>dU w1 _ _ b (hs b e),cM h.T λb e=>kk 10 _ aH aH cZ,h.C.keep (kk 2 _ aH aH rfl),h.O.keep (kk 3 _ aH aH rfl),h.M.keep (kk 8 _ aH aH rfl),?_⟩,Vb (j:=9) (x:=v.sA) aU rfl hg hp hw⟩;rw[hp];exact Tm h.ap aU (hw.imp (λe=>by rw[e];rfl) id)
theorem bG.putT (h:bG w lo hb v d)(hg:w.grownBy w1 v.sT.ownBlock){xs:List Int}{n:Nat}(ho:w1.ownsRow lo 3 1 s' n (jY xs))(hn:n=xs.length)(hw:s'.ownBlock=v.sT.ownBlock\/∀b,s'.ownBlock=some b->w.heap.size<=b):
 bG (w1.setCell ⟨hb,13,none⟩ s') lo hb {v with sT:=s'} {d with tk:=xs}/\bP hb v w {v with sT:=s'} (w1.setCell ⟨hb,13,none⟩ s'):=by
 subst hn;have aU:∀b,some b∈parts v hb->b<w.heap.size:=λb hb=>(h.lt b hb).2;obtain⟨kk,k0⟩:=h.other (j:=10) (c:=13) (x:=v.sT) rfl aH hg s';have hs:∀b,s'.ownBlock=some b->b≠hb:=λb e=>by
  rcases hw with hw|hw
  .exact h.ne (i:=10) (j:=0) (show some v.sT.ownBlock=_ by rw[<-hw,e]) rfl aH
  .have:=hw b e;have:=aU hb (fI (i:=0) rfl);omega
 have hp:parts {v with sT:=s'} hb=(parts v hb).set 10 s'.ownBlock:=rfl;refine⟨⟨oQ (k0.trans h.blk) s',h.lob,cM h.L λb e=>kk 1 _ aH aH cZ,cM h.Q λb e=>kk 4 _ aH aH cZ,cM h.W λb e=>kk 5 _ aH aH cZ,cM h.B λb e=>kk 6 _ aH aH cZ,cM h.R λb e=>kk 7 _ aH aH cZ,cM h.A λb e=>kk 9 _ aH aH cZ,cM ho λb e=>dU w1 _ _ b (hs b e),h.C.keep (kk 2 _ aH aH rfl),h.O.keep (kk 3 _ aH aH rfl),h.M.keep (kk 8 _ aH aH rfl),?_⟩,Vb (j:=10) (x:=v.sT) aU rfl hg hp hw⟩;rw[hp];exact Tm h.ap aU (hw.imp (λe=>by rw[e];rfl) id)
theorem bG.mapC (h:bG w lo hb v d){ps:List (Nat×aF)}(hm:De {w with heap:=w.heap.setIfInBounds v.mC o} v.mC ps):
 bG {w with heap:=w.heap.setIfInBounds v.mC o} lo hb {v with pC:=ps} d/\bP hb v w {v with pC:=ps} {w with heap:=w.heap.setIfInBounds v.mC o}:=by
 have kk:∀i b,i≠2->(parts v hb)[i]? =some (some b)->(w.heap.setIfInBounds v.mC o)[b]? =w.heap[b]? :=λi b hi b9=>sO (h.ne (i:=2) rfl b9 (Ne.symm hi));refine⟨⟨(kk 0 _ aH rfl).trans h.blk,h.lob,cM h.L λb e=>kk 1 _ aH cZ,cM h.Q λb e=>kk 4 _ aH cZ,cM h.W λb e=>kk 5 _ aH cZ,cM h.B λb e=>kk 6 _ aH cZ,cM h.R λb e=>kk 7 _ aH cZ,cM h.A λb e=>kk 9 _ aH cZ,cM h.T λb e=>kk 10 _ aH cZ,hm,h.O.keep (kk 3 _ aH rfl),h.M.keep (kk 8 _ aH rfl),h.ap⟩,aQ,λb b9 hn=>sO λe=>hn (by rw[<-e];exact fI (i:=2) rfl),λb b9=>.inl b9⟩
theorem bG.mapO (h:bG w lo hb v d)(hm:yP {w with heap:=w.heap.setIfInBounds v.mO o} v.mO ps):
 bG {w with heap:=w.heap.setIfInBounds v.mO o} lo hb {v with pO:=ps} d/\bP hb v w {v with pO:=ps} {w with heap:=w.heap.setIfInBounds v.mO o}:=by
 have kk:∀i b,i≠3->(parts v hb)[i]? =some (some b)->(w.heap.setIfInBounds v.mO o)[b]? =w.heap[b]? :=λi b hi b9=>sO (h.ne (i:=3) rfl b9 (Ne.symm hi));refine⟨⟨(kk 0 _ aH rfl).trans h.blk,h.lob,cM h.L λb e=>kk 1 _ aH cZ,cM h.Q λb e=>kk 4 _ aH cZ,cM h.W λb e=>kk 5 _ aH cZ,cM h.B λb e=>kk 6 _ aH cZ,cM h.R λb e=>kk 7 _ aH cZ,cM h.A λb e=>kk 9 _ aH cZ,cM h.T λb e=>kk 10 _ aH cZ,h.C.keep (kk 2 _ aH rfl),hm,h.M.keep (kk 8 _ aH rfl),h.ap⟩,aQ,λb b9 hn=>sO λe=>hn (by rw[<-e];exact fI (i:=3) rfl),λb b9=>.inl b9⟩
theorem bG.mapM (h:bG w lo hb v d)(hm:yP {w with heap:=w.heap.setIfInBounds v.mM o} v.mM ps):
 bG {w with heap:=w.heap.setIfInBounds v.mM o} lo hb {v with pM:=ps} d/\bP hb v w {v with pM:=ps} {w with heap:=w.heap.setIfInBounds v.mM o}:=by
 have kk:∀i b,i≠8->(parts v hb)[i]? =some (some b)->(w.heap.setIfInBounds v.mM o)[b]? =w.heap[b]? :=λi b hi b9=>sO (h.ne (i:=8) rfl b9 (Ne.symm hi));refine⟨⟨(kk 0 _ aH rfl).trans h.blk,h.lob,cM h.L λb e=>kk 1 _ aH cZ,cM h.Q λb e=>kk 4 _ aH cZ,cM h.W λb e=>kk 5 _ aH cZ,cM h.B λb e=>kk 6 _ aH cZ,cM h.R λb e=>kk 7 _ aH cZ,cM h.A λb e=>kk 9 _ aH cZ,cM h.T λb e=>kk 10 _ aH cZ,h.C.keep (kk 2 _ aH rfl),h.O.keep (kk 3 _ aH rfl),hm,h.ap⟩,aQ,λb b9 hn=>sO λe=>hn (by rw[<-e];exact fI (i:=8) rfl),λb b9=>.inl b9⟩
theorem bG.putClk (h:bG w lo hb v d)(x:Int):bG (w.setCell ⟨hb,11,none⟩ (.int .i64 x)) lo hb v {d with r:={d.r with clk:=x}}/\bP hb v w v (w.setCell ⟨hb,11,none⟩ (.int .i64 x)):=by
 have h0:(parts v hb)[0]? =some (some hb):=rfl;have kk:∀i b,i≠0->(parts v hb)[i]? =some (some b)->(w.setCell ⟨hb,11,none⟩ (.int .i64 x)).heap[b]? =w.heap[b]? :=λi b hi b9=>dU w _ _ b (h.ne b9 h0 hi);refine⟨⟨oQ h.blk _,h.lob,cM h.L λb e=>kk 1 _ aH cZ,cM h.Q λb e=>kk 4 _ aH cZ,cM h.W λb e=>kk 5 _ aH cZ,cM h.B λb e=>kk 6 _ aH cZ,cM h.R λb e=>kk 7 _ aH cZ,cM h.A λb e=>kk 9 _ aH cZ,cM h.T λb e=>kk 10 _ aH cZ,h.C.keep (kk 2 _ aH rfl),h.O.keep (kk 3 _ aH rfl),h.M.keep (kk 8 _ aH rfl),h.ap⟩,aQ,λb b9 hn=>dU w _ _ b λe=>hn (e▸fI h0),λb b9=>.inl b9⟩
theorem bG.setR {gR cR i j:Nat}{x:bV}{u:aF}(f:bV->bV)(h:bG w lo hb v d)(hv:v.sR=.slice (some ⟨gR,0,none⟩) d.r.recs.length cR)(hd:d.r.recs[i]? =some x)(hj:j<7)(hs:∀k,k<7->k≠j->(f x).cells[k]? =x.cells[k]?)(hu:(f x).cells[j]? =some u):
 bG (w.setCell ⟨gR,i*7+j,none⟩ u) lo hb v {d with r:={d.r with recs:=d.r.recs.modify i f}}/\bP hb v w v (w.setCell ⟨gR,i*7+j,none⟩ u):=by
 have znr:(parts v hb)[7]? =some (some gR):=by show some v.sR.ownBlock=_;rw[hv];rfl
 have kk:∀i b,i≠7->(parts v hb)[i]? =some (some b)->(w.setCell ⟨gR,i*7+j,none⟩ u).heap[b]? =w.heap[b]? :=λi b hi b9=>dU w _ _ b (h.ne b9 znr hi);have Js:∀m b,m≠7->(parts v hb)[m]? =some (some b)->(w.setCell ⟨gR,i*7+j,none⟩ u).heap[b]? =w.heap[b]? :=λm b hi b9=>dU w _ _ b (h.ne b9 znr hi);have hr:=h.R;rw[hv] at hr;have h1:=(hr.stored (i*7+j) u).1;rw[zoV hd hj hs hu] at h1;refine⟨⟨(Js 0 _ aH rfl).trans h.blk,h.lob,cM h.L λb e=>Js 1 _ aH cZ,cM h.Q λb e=>Js 4 _ aH cZ,cM h.W λb e=>Js 5 _ aH cZ,cM h.B λb e=>Js 6 _ aH cZ,?_,cM h.A λb e=>Js 9 _ aH cZ,cM h.T λb e=>Js 10 _ aH cZ,h.C.keep (Js 2 _ aH rfl),h.O.keep (Js 3 _ aH rfl),h.M.keep (Js 8 _ aH rfl),h.ap⟩,aQ,λb b9 hn=>dU w _ _ b λe=>hn (e▸fI znr),λb b9=>.inl b9⟩;show(w.setCell _ u).ownsRow lo _ 7 v.sR (d.r.recs.modify i f).length _;rw[hv,Lj];exact h1
end
def zB (c:Nat):List (Nat×aF)->List (Nat×aF)
 |[]=>[]
 |p::ps=>if c=p.1 then ps else p::zB c ps
theorem zsl :∀{ps:List (Nat×aF)},c∉ps.map vN->pZ c ps=none
 |[],_=>rfl
 |p::ps,h=>by
  unfold pZ;have h1:c≠p.1:=λe=>h (by rw[e];simp);rw[if_neg h1];exact zsl λx=>h (Uj _ x)
theorem zxQ (c c':Nat)(v:aF):∀ps:List (Nat×aF),pZ c' (uO c v ps)=if c'=c then some v else pZ c' ps
 |[]=>by
  unfold uO pZ pZ;rfl
 |p::ps=>by
  unfold uO;by_cases e:c=p.1
  .rw[if_pos e]
   unfold pZ;simp_all
  .rw[if_neg e]
   unfold pZ;by_cases e2:c'=p.1
   .grind
   .rw[if_neg e2,zxQ c c' v ps]
    first|rfl|simp[e2]
variable {c':Nat}
theorem zpK :∀{ps:List (Nat×aF)},c'∈(uO c v ps).map vN->c'=c\/c'∈ps.map vN
 |[],h=>by unfold uO at h;simp at h;exact .inl h
 |p::ps,h=>by
  unfold uO at h;by_cases e:c=p.1
  .simp_all
  .rw[if_neg e,jD,lV] at h
   rcases h with h|h
   .simp_all
   .exact(zpK h).imp id (Uj _)
theorem zwC (c:Nat)(v:aF):∀{ps:List (Nat×aF)},(ps.map vN).Nodup->((uO c v ps).map vN).Nodup
 |[],_=>by unfold uO;simp
 |p::ps,h=>by
  unfold uO;rw[jD,Gx] at h;by_cases e:c=p.1
  .simp_all
  .rw[if_neg e,jD,Gx]
   exact⟨λx=>(zpK x).elim (λy=>e y.symm) h.1,zwC c v h.2⟩
theorem zvC :∀{ps:List (Nat×aF)},c'∈(zB c ps).map vN->c'∈ps.map vN
 |[],h=>by cases h
 |p::ps,h=>by
  unfold zB at h;by_cases e:c=p.1
  .simp_all
  .rw[if_neg e,jD,lV] at h
   rcases h with h|h
   .rw[h];simp
   .exact Uj _ (zvC h)
theorem zpn (c:Nat):∀{ps:List (Nat×aF)},(ps.map vN).Nodup->((zB c ps).map vN).Nodup
 |[],_=>by unfold zB;simp
 |p::ps,h=>by
  rw[jD,Gx] at h;unfold zB;by_cases e:c=p.1
  .simp_all
  .rw[if_neg e,jD,Gx]
   exact⟨λx=>h.1 (zvC x),zpn c h.2⟩
theorem zuj (c c':Nat):∀{ps:List (Nat×aF)},(ps.map vN).Nodup->pZ c' (zB c ps)=if c'=c then none else pZ c' ps
 |[],_=>by unfold zB pZ;split<;>rfl
 |p::ps,h=>by
  rw[jD,Gx] at h;unfold zB;by_cases e:c=p.1
  .rw[if_pos e]
   by_cases e2:c'=c
   .rw[if_pos e2];exact zsl (by rw[e2,e];exact h.1)
   .rw[if_neg e2]
    show _=pZ c' (p::ps)
    conv=>rhs;unfold pZ
    simp_all
  .rw[if_neg e]
   unfold pZ;by_cases e2:c'=p.1
   .grind
   .rw[if_neg e2,zuj c c' h.2]
    first|rfl|simp[e2]
theorem zrv :∀{es:List pD} {ps:List (Nat×aF)} {i:Nat} {q:Nat×aF},y7 es ps->Bi c ps i=some q->∃j,q.1=i+j/\j<es.length/\y7 (es.eraseIdx j) (zB c ps)
 |[],ps,i,q,h,hq=>by rw[h.nil_inv] at hq;cases hq
 |e::es,ps,i,q,h,hq=>by
  obtain⟨p,qs,rfl,h1,h2,h3⟩:=h.cons_inv;unfold Bi at hq;by_cases hc:c=p.1
  .rw[if_pos hc] at hq
   injection hq with hq;refine⟨0,by rw[<-hq];rfl,aQ,?_⟩;unfold zB;simp_all
  .rw[if_neg hc] at hq
   obtain⟨j,e1,e2,e3⟩:=zrv h3 hq;refine⟨j+1,by rw[e1];omega,by simpa using e2,?_⟩;unfold zB;rw[if_neg hc];unfold y7 at e3⊢;simp_all
section
variable {P:bT}{k:aN}{d:Nq}{e0:aN}
variable {ps:List (Nat×aF)}
theorem zy5 {t e kt:aN}(ht:P.underlying t=some (.map k e))(hk:P.underlying k=some (.chan d e0)){w:aE}{b:Nat}{c:Nat}(h:De w b ps)(hc:(pZ c ps).isSome=true):
 ∃o',(∀ty,(Lt #[t,kt] ty #[.map (some b),.chan (some c)]).run P w=.ok (.tuple #[]) {w with heap:=w.heap.setIfInBounds b o'})/\De {w with heap:=w.heap.setIfInBounds b o'} b (zB c ps):=by
 obtain⟨es,clock,hb,he⟩:=h;have hz:=(dR.1 hb).1;have hf:=zlb c ps 0
 cases hq:Bi c ps 0 with
 |none=>grind
 |some q=>
  obtain⟨j,e1,e2,e3⟩:=zrv he hq;have Cv:q.1=j:=aC;refine⟨.map (es.eraseIdxIfInBounds j) clock,λty=>?_,es.eraseIdxIfInBounds j,clock,by simp[hz],?_⟩
  .simp[Lt,xM ht,Wo hb,zgv hk,zfT hk c w _ _ he,hq,Cv,Zd _ hb,uR]
  simp_all
end
def yR (c:Int):List (Int×aF)->List (Int×aF)
 |[]=>[]
 |p::ps=>if c=p.1 then ps else p::yR c ps
variable {c:Int}
theorem zxP :∀{ps:List (Int×aF)},c∉ps.map vN->lH c ps=none
 |[],_=>rfl
 |p::ps,h=>by
  unfold lH;have h1:c≠p.1:=λe=>h (by rw[e];simp);rw[if_neg h1];exact zxP λx=>h (Uj _ x)
theorem Y7 (c c':Int)(v:aF):∀ps:List (Int×aF),lH c' (rB c v ps)=if c'=c then some v else lH c' ps
 |[]=>by
  unfold rB lH lH;rfl
 |p::ps=>by
  unfold rB;by_cases e:c=p.1
  .rw[if_pos e]
   unfold lH;simp_all
  .rw[if_neg e]
   unfold lH;by_cases e2:c'=p.1
   .grind
   .rw[if_neg e2,Y7 c c' v ps]
    first|rfl|simp[e2]
variable {c':Int}
theorem zr0 :∀{ps:List (Int×aF)},c'∈(rB c v ps).map vN->c'=c\/c'∈ps.map vN
 |[],h=>by unfold rB at h;simp at h;exact .inl h
 |p::ps,h=>by
  unfold rB at h;by_cases e:c=p.1
  .simp_all
  .rw[if_neg e,jD,lV] at h
   rcases h with h|h
   .simp_all
   .exact(zr0 h).imp id (Uj _)
theorem znq (c:Int)(v:aF):∀{ps:List (Int×aF)},(ps.map vN).Nodup->((rB c v ps).map vN).Nodup
 |[],_=>by unfold rB;simp
 |p::ps,h=>by
  unfold rB;rw[jD,Gx] at h;by_cases e:c=p.1
  .simp_all
  .rw[if_neg e,jD,Gx]
   exact⟨λx=>(zr0 x).elim (λy=>e y.symm) h.1,znq c v h.2⟩
theorem zxH :∀{ps:List (Int×aF)},c'∈(yR c ps).map vN->c'∈ps.map vN
 |[],h=>by cases h
 |p::ps,h=>by
  unfold yR at h;by_cases e:c=p.1
  .simp_all
  .rw[if_neg e,jD,lV] at h
   rcases h with h|h
   .rw[h];simp
   .exact Uj _ (zxH h)
theorem zuS (c:Int):∀{ps:List (Int×aF)},(ps.map vN).Nodup->((yR c ps).map vN).Nodup
 |[],_=>by unfold yR;simp
 |p::ps,h=>by
  rw[jD,Gx] at h;unfold yR;by_cases e:c=p.1
  .simp_all
  .rw[if_neg e,jD,Gx]
   exact⟨λx=>h.1 (zxH x),zuS c h.2⟩
theorem zkL (c c':Int):∀{ps:List (Int×aF)},(ps.map vN).Nodup->lH c' (yR c ps)=if c'=c then none else lH c' ps
 |[],_=>by unfold yR lH;split<;>rfl
 |p::ps,h=>by
  rw[jD,Gx] at h;unfold yR;by_cases e:c=p.1
  .rw[if_pos e]
   by_cases e2:c'=c
   .rw[if_pos e2];exact zxP (by rw[e2,e];exact h.1)
   .rw[if_neg e2]
    show _=lH c' (p::ps)
    conv=>rhs;unfold lH
    simp_all
  .rw[if_neg e]
   unfold lH;by_cases e2:c'=p.1
   .grind
   .rw[if_neg e2,zkL c c' h.2]
    first|rfl|simp[e2]
theorem ztZ :∀{es:List pD} {ps:List (Int×aF)} {i:Nat} {q:Nat×aF},zI es ps->Bh c ps i=some q->∃j,q.1=i+j/\j<es.length/\zI (es.eraseIdx j) (yR c ps)
 |[],ps,i,q,h,hq=>by rw[h.nil_inv] at hq;cases hq
 |e::es,ps,i,q,h,hq=>by
  obtain⟨p,qs,rfl,h1,h2,h3⟩:=h.cons_inv;unfold Bh at hq;by_cases hc:c=p.1
  .rw[if_pos hc] at hq
   injection hq with hq;refine⟨0,by rw[<-hq];rfl,aQ,?_⟩;unfold yR;simp_all
  .rw[if_neg hc] at hq
   obtain⟨j,e1,e2,e3⟩:=ztZ h3 hq;refine⟨j+1,by rw[e1];omega,by simpa using e2,?_⟩;unfold yR;rw[if_neg hc];unfold zI at e3⊢;simp_all
section
variable {P:bT}{k:aN}
variable {ps:List (Int×aF)}
theorem zFt {t e kt:aN}(ht:P.underlying t=some (.map k e))(hk:P.underlying k=some (.int .i64)){w:aE}{b:Nat}{c:Int}(h:yP w b ps)(hc:(lH c ps).isSome=true):
 ∃o',(∀ty,(Lt #[t,kt] ty #[.map (some b),.int .i64 c]).run P w=.ok (.tuple #[]) {w with heap:=w.heap.setIfInBounds b o'})/\yP {w with heap:=w.heap.setIfInBounds b o'} b (yR c ps):=by
 obtain⟨es,clock,hb,he⟩:=h;have hz:=(dR.1 hb).1;have hf:=zi0 c ps 0
 cases hq:Bh c ps 0 with
 |none=>grind
 |some q=>
  obtain⟨j,e1,e2,e3⟩:=ztZ he hq;have Cv:q.1=j:=aC;refine⟨.map (es.eraseIdxIfInBounds j) clock,λty=>?_,es.eraseIdxIfInBounds j,clock,by simp[hz],?_⟩
  .simp[Lt,xM ht,Wo hb,zfS hk,zhw hk c w _ _ he,hq,Cv,Zd _ hb,uR]
  simp_all
variable {Q:oP->Act->aE->Prop}
theorem zCn {ops:Array aX}{rest:List aX}{o:aX}{a:Act}(w:aE)(hg:o.guard=none)(m x:cJ)(t kt:aN)(hop:o.op=.call {callee:=.builtin .delete,args:=#[m,x],argTypes:=#[t,kt]})(e:aN)
 (ht:P.underlying t=some (.map k e)) (hk:P.underlying k=some (.int .i64)) (b:Nat) (c:Int) (ps:List (Int×aF)) (hm:a.eval m=.map (some b)) (hx:a.eval x=.int .i64 c) (h:yP w b ps) (hc:(lH c ps).isSome=true)
 (hK:∀w' o',w'={w with heap:=w.heap.setIfInBounds b o'}->yP w' b (yR c ps)->wpList P ops Q rest (a.put o.dst (.tuple #[])) w'):wpList P ops Q (o::rest) a w:=by
 refine Tu hg λK' sN=>?_;obtain⟨o',cP,pJ⟩:=zFt (kt:=kt) ht hk h hc;unfold C5;simp only[aS,hop,resolve,invoke,builtin,F7,J1,E9,tJ,jD,sC,hm,hx,cP];exact sN _ _ (hK _ _ rfl pJ)
end
structure fZ (v:fH)(d:oG):Prop where
 kc:(v.pC.map vN).Nodup
 ko:(v.pO.map vN).Nodup
 km:(v.pM.map vN).Nodup
 c:∀(i g:Nat),d.ln[i]? =some g->((pZ g v.pC).isSome=true↔∃(j:Nat) (x:bV),d.r.recs[j]? =some x/\eL x=true/\x.l=(i:Int)+1)
 o1:∀(c:Int) (y:aF),lH c v.pO=some y->∃(i:Nat) (x:bV) (g:Nat),d.r.recs[i]? =some x/\eL x=true/\x.c=c/\d.ln[(x.l-1).toNat]? =some g/\y=.chan (some g)
 o2:∀(c:Int),lH c v.pO=none->∀(i:Nat) (x:bV),d.r.recs[i]? =some x->eL x=true->x.c≠c
 m1:∀(c:Int) (y:aF),lH c v.pM=some y->∃(i:Nat) (x:bV),y=.int .i64 (i:Int)/\d.r.recs[i]? =some x/\x.c=c/\∀(j:Nat) (e:bV),d.r.recs[j]? =some e->e.c=c->j<=i
 m2:∀(c:Int),lH c v.pM=none->∀(i:Nat) (x:bV),d.r.recs[i]? =some x->x.c≠c
structure y9 (d:oG):Prop where
 S:jF d.r
 R:RInv d.r
 ops:Tq d.r
 ndl:d.ln.Nodup
 nln:(d.ln.length:Int)=d.r.o.ln
 lb:∀x∈d.r.recs,1<=x.l/\x.l<=d.r.o.ln
 nqn:(d.qn.length:Int)=d.r.o.op
 sm:Rg d.r
variable {xs:List Nat}
theorem zvU (h:xs.Nodup){i j g:Nat}(hi:xs[i]? =some g)(hj:xs[j]? =some g):i=j:=by
 obtain⟨h1,h2⟩:=l8.1 hi;obtain⟨h3,h4⟩:=l8.1 hj;exact(List.getElem_inj h).1 (h2.trans h4.symm)
theorem zCp {rs:List bV}{l:Int}:rN rs l=true↔∃(j:Nat) (x:bV),rs[j]? =some x/\eL x=true/\x.l=l:=by
 unfold rN;rw[zdO];constructor
 .rintro⟨x,hx,h⟩
  obtain⟨j,hj⟩:=Io.1 hx;simp only[iT,beq_iff_eq] at h;exact⟨j,x,hj,h.2,h.1⟩
 .grind
section
variable {v:fH}{d:oG}
variable {i g:Nat}
theorem fZ.used (h:fZ v d)(hi:d.ln[i]? =some g):(pZ g v.pC).isSome=rN d.r.recs ((i:Int)+1):=by
 rw[Ng,h.c i g hi,zCp]
variable {c:Int}{x:bV}
theorem fZ.onLine (h:fZ v d)(hi:y9 d)(hx:d.r.recs[i]? =some x)(ho:eL x=true)(hc:x.c=c):∃g,d.ln[(x.l-1).toNat]? =some g/\lH c v.pO=some (.chan (some g))/\lH c v.pM=some (.int .i64 (i:Int))/\(pZ g v.pC).isSome=true:=by
 have hO:∃g,d.ln[(x.l-1).toNat]? =some g/\lH c v.pO=some (.chan (some g)):=by
  cases e:lH c v.pO with
  |none=>exact absurd hc (h.o2 c e i x hx ho)
  |some y=>
   obtain⟨j,z,g,h1,h2,h3,h4,rfl⟩:=h.o1 c y e;obtain rfl:=hi.S.opn i j x z hx h1 ho h2 (.inl (hc.trans h3.symm));rw[hx] at h1;obtain rfl:=cH h1;exact⟨g,h4,rfl⟩
 obtain⟨g,h1,h2⟩:=hO;refine⟨g,h1,h2,?_,(h.c _ g h1).2 ⟨i,x,hx,ho,?_⟩⟩
 .cases e:lH c v.pM with
  |none=>exact absurd hc (h.m2 c e i x hx)
  |some y=>
   obtain⟨j,z,rfl,h3,h4,h5⟩:=h.m1 c y e;have k1:=h5 i x hx hc;have k2:=hi.S.last i j x z hx ho h3 (h4.trans hc.symm);rw[show j=i by omega]
 .have:=hi.lb x (fI hx);omega
theorem fZ.offLine (h:fZ v d)(hc:iS d.r.recs c=none):lH c v.pO=none:=by
 cases e:lH c v.pO with
 |none=>rfl
 |some y=>
  obtain⟨j,z,g,h1,h2,h3,_⟩:=h.o1 c y e;exact absurd h3 (Kw hc j z h1 h2)
theorem fZ.more (h:fZ v d)(hn:d.ln.Nodup){o hh tt clk:Int}(hg:d.ln[i]? =some g)(hf:rN d.r.recs ((i:Int)+1)=false)(hc:iS d.r.recs c=none):
 fZ {v with pC:=uO g (.int .i64 c) v.pC,pO:=rB c (.chan (some g)) v.pO,pM:=rB c (.int .i64 (d.r.recs.length:Int)) v.pM} {d with r:={d.r with recs:=d.r.recs++[⟨c,(i:Int)+1,o,clk,hh,tt,eN⟩]}}:=by
 have hop:eL ⟨c,(i:Int)+1,o,clk,hh,tt,eN⟩=true:=by unfold eL;rw[zhb];rfl
 have Fa:(d.r.recs++[(⟨c,(i:Int)+1,o,clk,hh,tt,eN⟩:bV)])[d.r.recs.length]? =some ⟨c,(i:Int)+1,o,clk,hh,tt,eN⟩:=by rw[List.getElem?_append_right (bL _),Nat.sub_self];rfl
 refine⟨zwC _ _ h.kc,znq _ _ h.ko,znq _ _ h.km,λi' g' yE=>?_,λc' y hy=>?_,λc' hy j x hx ho=>?_,λc' y hy=>?_,λc' hy j x hx=>?_⟩
 .simp only[zxQ]
  by_cases e:g'=g
  .subst e
   obtain rfl:=zvU hn hg yE;rw[if_pos rfl];exact⟨λ_=>⟨_,_,Fa,hop,rfl⟩,λ_=>rfl⟩
  .rw[if_neg e,h.c i' g' yE]
   constructor
   .rintro⟨j,x,h1,h2⟩;exact⟨j,x,zeP h1,h2⟩
   .rintro⟨j,x,h1,h2,h3⟩
    rcases Mf h1 with⟨_,h4⟩|⟨rfl,rfl⟩
    .exact⟨j,x,h4,h2,h3⟩
    .exfalso
     have:i=i':=by simp only at h3;omega
     subst this;rw[hg] at yE;exact e (cH yE).symm
 .simp only[Y7] at hy
  by_cases e:c'=c
  .rw[if_pos e] at hy
   obtain rfl:=cH hy;exact⟨_,_,g,Fa,hop,e.symm,by simp only;rw[show((i:Int)+1-1).toNat=i by omega];exact hg,rfl⟩
  .rw[if_neg e] at hy
   obtain⟨j,x,g',h1,h2⟩:=h.o1 c' y hy;exact⟨j,x,g',zeP h1,h2⟩
 .simp only[Y7] at hy
  by_cases e:c'=c
  .rw[if_pos e] at hy;cases hy
  .rw[if_neg e] at hy
   rcases Mf hx with⟨_,h4⟩|⟨rfl,rfl⟩
   .exact h.o2 c' hy j x h4 ho
   .exact Ne.symm e
 .simp only[Y7] at hy
  by_cases e:c'=c
  .rw[if_pos e] at hy
   obtain rfl:=cH hy;refine⟨_,_,rfl,Fa,e.symm,λj x hx _=>?_⟩;rcases Mf hx with⟨h4,_⟩|⟨rfl,rfl⟩
   .omega
   .exact bL _
  .rw[if_neg e] at hy
   obtain⟨j,x,h1,h2,h3,h4⟩:=h.m1 c' y hy;refine⟨j,x,h1,zeP h2,h3,λj' x' lZ kQ=>?_⟩;rcases Mf lZ with⟨_,h5⟩|⟨rfl,rfl⟩
   .exact h4 j' x' h5 kQ
   .exact absurd kQ.symm e
 .simp only[Y7] at hy
  by_cases e:c'=c
  .rw[if_pos e] at hy;cases hy
  .rw[if_neg e] at hy
   rcases Mf hx with⟨_,h4⟩|⟨rfl,rfl⟩
   .exact h.m2 c' hy j x h4
   .exact Ne.symm e
variable {f:bV->bV}
theorem fZ.mod (h:fZ v d)(hf:∀x,(f x).c=x.c/\(f x).l=x.l/\eL (f x)=eL x):fZ v {d with r:={d.r with recs:=d.r.recs.modify i f}}:=by
 have fw:∀(j:Nat) (x:bV),d.r.recs[j]? =some x->∃y,(d.r.recs.modify i f)[j]? =some y/\y.c=x.c/\y.l=x.l/\eL y=eL x:=λj x hx=>by
  by_cases e:i=j
  .simp_all
  .simp_all
 have bw:∀(j:Nat) (y:bV),(d.r.recs.modify i f)[j]? =some y->∃x,d.r.recs[j]? =some x/\y.c=x.c/\y.l=x.l/\eL y=eL x:=λj y hy=>by
  obtain⟨x,h1,⟨_,rfl⟩|⟨_,rfl⟩⟩:=Hw hy
  .exact⟨x,h1,hf x⟩
  .simp_all
 refine⟨h.kc,h.ko,h.km,λi' g' yE=>?_,λc' y hy=>?_,λc' hy j x hx ho=>?_,λc' y hy=>?_,λc' hy j x hx=>?_⟩
 .rw[h.c i' g' yE]
  constructor
  .grind
  .grind
 .obtain⟨j,x,g',h1,h2,h3,h4,h5⟩:=h.o1 c' y hy
  obtain⟨z,k1,k2,k3,k4⟩:=fw j x h1;exact⟨j,z,g',k1,k4.trans h2,k2.trans h3,by rw[k3];exact h4,h5⟩
 .obtain⟨z,k1,k2,k3,k4⟩:=bw j x hx
  rw[k2];exact h.o2 c' hy j z k1 (k4.symm.trans ho)
 .obtain⟨j,x,h1,h2,h3,h4⟩:=h.m1 c' y hy
  obtain⟨z,k1,k2,k3,k4⟩:=fw j x h2;refine⟨j,z,h1,k1,k2.trans h3,λj' x' lZ kQ=>?_⟩;obtain⟨z',l1,l2,l3,l4⟩:=bw j' x' lZ;exact h4 j' z' l1 (l2.symm.trans kQ)
 .obtain⟨z,k1,k2,k3,k4⟩:=bw j x hx
  rw[k2];exact h.m2 c' hy j z k1
theorem fZ.clear (h:fZ v d)(hS:jF d.r)(hn:d.ln.Nodup)(Zy:∀x∈d.r.recs,1<=x.l)(hx:d.r.recs[i]? =some x)(ho:eL x=true)(hg:d.ln[(x.l-1).toNat]? =some g)(hf:∀z,(f z).c=z.c/\(f z).l=z.l)(cD:eL (f x)=false):
 fZ {v with pC:=zB g v.pC,pO:=yR x.c v.pO} {d with r:={d.r with recs:=d.r.recs.modify i f}}:=by
 have bw:∀(j:Nat) (y:bV),(d.r.recs.modify i f)[j]? =some y->eL y=true->i≠j/\d.r.recs[j]? =some y:=λj y hy Dr=>by
  obtain⟨z,h1,⟨e,rfl⟩|⟨e,rfl⟩⟩:=Hw hy
  .subst e
   rw[hx] at h1;obtain rfl:=cH h1;rw[cD] at Dr;cases Dr
  .exact⟨e,h1⟩
 have cw:∀(j:Nat) (y:bV),(d.r.recs.modify i f)[j]? =some y->∃z,d.r.recs[j]? =some z/\y.c=z.c:=λj y hy=>by
  obtain⟨z,h1,⟨_,rfl⟩|⟨_,rfl⟩⟩:=Hw hy
  .exact⟨z,h1,(hf z).1⟩
  .simp_all
 refine⟨zpn _ h.kc,zuS _ h.ko,h.km,λi' g' yE=>?_,λc' y hy=>?_,λc' hy j z hz zda=>?_,λc' y hy=>?_,λc' hy j z hz=>?_⟩
 .simp only[zuj _ _ h.kc]
  by_cases e:g'=g
  .subst e
   have e1:=zvU hn hg yE;rw[if_pos rfl];constructor
   .intro h;cases h
   .rintro⟨j,z,h1,h2,h3⟩
    obtain⟨k1,k2⟩:=bw j z h1 h2;have hl:=Zy x (fI hx);exact absurd (hS.opn i j x z hx k2 ho h2 (.inr (.inl aC))) k1
  .rw[if_neg e,h.c i' g' yE]
   constructor
   .rintro⟨j,z,h1,h2,h3⟩
    have aV:i≠j:=λe2=>by simp_all
    exact⟨j,z,Vz h1 aV,h2,h3⟩
   .rintro⟨j,z,h1,h2,h3⟩
    obtain⟨k1,k2⟩:=bw j z h1 h2;exact⟨j,z,k2,h2,h3⟩
 .simp only[zkL _ _ h.ko] at hy
  by_cases e:c'=x.c
  .simp_all
  .rw[if_neg e] at hy
   obtain⟨j,z,g',h1,h2,h3,h4⟩:=h.o1 c' y hy;have aV:i≠j:=λe2=>by simp_all
   exact⟨j,z,g',Vz h1 aV,h2,h3,h4⟩
 .simp only[zkL _ _ h.ko] at hy
  obtain⟨k1,k2⟩:=bw j z hz zda;by_cases e:c'=x.c
  .intro e2
   exact k1 (hS.opn i j x z hx k2 ho zda (.inl (by rw[e2,e])))
  .rw[if_neg e] at hy
   exact h.o2 c' hy j z k2 zda
 .obtain⟨j,z,h1,h2,h3,h4⟩:=h.m1 c' y hy
  have up:∀(j':Nat) (e:bV),(d.r.recs.modify i f)[j']? =some e->e.c=c'->j'<=j:=λj' e he hc=>by
   obtain⟨z',k1,k2⟩:=cw j' e he;exact h4 j' z' k1 (k2.symm.trans hc)
  by_cases e:i=j
  .subst e
   exact⟨i,f z,h1,zeV h2,(hf z).1.trans h3,up⟩
  .exact⟨j,z,h1,Vz h2 e,h3,up⟩
 .obtain⟨z',k1,k2⟩:=cw j z hz
  rw[k2];exact h.m2 c' hy j z' k1
end
def Se:aK.underlying 84=some (.chan .both 3):=aP
def Lg:aK.underlying 3=some (.int .i64):=aP
def zl5 (w:aE):(zeroValue 3).run aK w=.ok (.int .i64 0) w:=aQ
def zbr (w:aE):(zeroValue 84).run aK w=.ok (.chan none) w:=aP
def I2 (d:oG):Int:=match o0 d.r.o d.r.recs with|[]=>-1|l::_=>l-1
theorem zBD {p:Int->Bool}:∀(n k:Nat),k<n->(∀j,j<k->p ((j:Int)+1)=false)->p ((k:Int)+1)=true->∃rest,((fV n).map λi:Nat=>(i:Int)+1).filter p=((k:Int)+1)::rest:=by
 intro n
 induction n with
 |zero=>intro k h;omega
 |succ n ih=>
  intro k hk h1 h2;rw[List.range_succ,Uo,Pp];by_cases e:k<n
  .grind
  .have e2:k=n:=aC
   subst e2;have h0:((fV k).map λi:Nat=>(i:Int)+1).filter p=[]:=by
    rw[zq7];intro x hx;obtain⟨i,hi,rfl⟩:=zaL.1 hx;rw[h1 i (Da.1 hi)];simp
   rw[h0];exact⟨[],by simp[h2]⟩
variable {d:oG}{k:Nat}
theorem zIJ (hn:(d.ln.length:Int)=d.r.o.ln)(hk:k<d.ln.length)(h1:∀j,j<k->rN d.r.recs ((j:Int)+1)=true)(h2:rN d.r.recs ((k:Int)+1)=false):I2 d=(k:Int):=by
 unfold I2 o0 x4;obtain⟨rest,hr⟩:=zBD (p:=λl=>!rN d.r.recs l) d.r.o.ln.toNat k aC (λj hj=>by simp[h1 j hj]) (by simp[h2]);rw[hr];simp only;omega
theorem zI6 (hn:(d.ln.length:Int)=d.r.o.ln)(h1:∀j,j<d.ln.length->rN d.r.recs ((j:Int)+1)=true):I2 d= -1:=by
 unfold I2 o0 x4;have h0:((fV d.r.o.ln.toNat).map λi:Nat=>(i:Int)+1).filter (λl=>!rN d.r.recs l)=[]:=by
  rw[zq7];intro x hx;obtain⟨i,hi,rfl⟩:=zaL.1 hx;rw[h1 i tL];simp
 rw[h0]
variable {w:aE}{lo:Nat}
theorem G8 {E s n:Nat}{xs:List aF}(h:w.ownsRow lo E s v n xs)(hs:0<s):∃A c,v=.slice A n c/\cE w lo w.heap.size s A n c xs:=by
 obtain⟨A,c,e,o⟩:=zdT h hs;exact⟨A,c,e,o.slc⟩
theorem zgn {hi n c:Nat}{A:Option bC}(h:cE w lo hi 1 A n c (Jx xs))(hk:k<n):∃b off g,A=some ⟨b,off,none⟩/\xs[k]? =some g/\w.cell? ⟨b,off+k,none⟩=some (.chan (some g)):=by
 obtain⟨b,off,e,h1,h2,h3,h4⟩:=h.cells hk;have hl:xs.length=n:=by have:=h.len;simpa[Jx] using this
 obtain⟨g,hg⟩:∃g,xs[k]? =some g:=⟨xs[k]' aC,nI aC⟩;refine⟨b,off,g,e,hg,?_⟩;have:=h4 0 (.chan (some g)) (by simp[Jx,hg]);simpa using this
theorem zqR {hb:Nat}{v:fH}(h:bG w lo hb v d)(m:fZ v d)(hn:(d.ln.length:Int)=d.r.o.ln)(hk:d.ln.length<=100):
 fJ aK 109 #[.pointer (some ⟨hb,0,none⟩)] w λe w'=>e=.returned (.int .i64 (I2 d))/\w'=w:=by
 obtain⟨A,c,hA,hs⟩:=G8 h.L aH;have HS:=aD hs;have HM:=aD m;have HC:=aD h.C;have HN:=aD hn;have rJ:=aI h.blk 3;have k2:=aI h.blk 4;have k1:w.cell? ⟨hb,3,none⟩=some (.slice A d.ln.length c):=by rw[rJ,<-hA];rfl
 clear rJ hA hs m hn h
 go_enter Tryz.func109,Tryz.ntmps109
 go_wp2
 go_loop [12] (λi=>∃k:Nat,k<=d.ln.length/\i=.int .i64 k/\∀j,j<k->rN d.r.recs ((j:Int)+1)=true) (λi=>d.ln.length-(intOf i).toNat)
 case atStart=>grind
 case round=>
  obtain⟨k,tY,rfl,gJ⟩:=hrel;have zke:=aD gJ;clear gJ;by_cases aU:k<d.ln.length
  .obtain⟨b,off,g,hA,hg,hv⟩:=zgn HS.o aU
   subst hA;have HG:=aD hg;have i0:(0:Int)<=(k:Int):=aC;have i1:(k:Int)<(d.ln.length:Int):=aC;have HU:=aD (HM.o.used hg);clear hg;cases hu:rN d.r.recs ((k:Int)+1)
   .have HV:=aD hu
    clear hu
    go_wp2_with (at_lookup;refine zpa _ rfl (.tmp 21) (.tmp 22) 66 true rfl 3 zvP Se (.int .i64 0) (zl5 _) v.mC g v.pC rfl rfl HC.o ?_;rw[HU.o,HV.o];simp only[if_true])
    go_ret;exact⟨G3 (zIJ HN.o aU zke.o HV.o).symm,rfl⟩
   .have HV:=aD hu
    clear hu
    go_wp2_with (at_lookup;refine zpa _ rfl (.tmp 21) (.tmp 22) 66 true rfl 3 zvP Se (.int .i64 0) (zl5 _) v.mC g v.pC rfl rfl HC.o ?_;rw[HU.o,HV.o];simp only[if_true])
    go_round
    case rel=>exact⟨k+1,aC,qJ,λj hj=>if e:j<k then zke.o j e else(by rw[show j=k by omega];exact HV.o)⟩
    case measure=>simp[intOf];omega
  .have e:k=d.ln.length:=aC
   subst e;go_wp2;go_ret;exact⟨G3 (zI6 HN.o zke.o).symm,rfl⟩
end Go.Proofs.YtfcjiloojkjaeaaGreatDoor
namespace Go.Proofs.YtfcjiloojkjaeaaGreatDoor
open Go.RowKit Go.Mt Go.Conc Go.Tt Go.Maps
section
variable {p:bT}{o:aX}{ρ:cJ->aF}{w w':aE}
variable {t:aN}
theorem ziM {m x:cJ}{ok:Bool}{a b v:aF}(ho:o.op=.lookup t m x ok)(hm:ρ m=a)(hx:ρ x=b)(hr:(Ac t a b ok).run p w=.ok v w):(aS ρ o).run p w=.ok (.value v) w:=by
 obtain⟨dst,yJ,type,pos,after,guard⟩:=o;simp only at ho;subst ho;simp[aS,hm,hx,hr]
theorem zGI {t2:aN}{a b:cJ}{x y:Option Nat}{d:Nq}{e:aN}(ho:o.op=.binOp .eql t a b t2)(hu:p.underlying t=some (.chan d e))(ha:ρ a=.chan x)(hb:ρ b=.chan y):(aS ρ o).run p w=.ok (.value (.bool (x==y))) w:=by
 obtain⟨dst,yJ,type,pos,after,guard⟩:=o;simp only at ho;subst ho;simp[aS,eqGuard,binOp,ha,hb,zja hu]
theorem Gu {x:Int}(h1: -1000000000000<=x)(h2:x<=1000000000000):IntKind.i64.wrap x=x:=by
 rw[IntKind.wrap_i64];omega
theorem exec_mu {m x y:cJ}{a b c:aF}(ho:o.op=.mapUpdate t m x y)(hm:ρ m=a)(hx:ρ x=b)(hy:ρ y=c)(hr:(Hp t a b c).run p w=.ok () w'):(aS ρ o).run p w=.ok .skip w':=by
 obtain⟨dst,yJ,type,pos,after,guard⟩:=o;simp only at ho;subst ho;simp[aS,hm,hx,hy,hr]
variable {kt:aN}
theorem exec_dl {m x:cJ}{a b v:aF}(ho:o.op=.call ⟨.builtin .delete,#[m,x],#[t,kt]⟩)(hm:ρ m=a)(hx:ρ x=b)(hr:(Lt #[t,kt] o.type #[a,b]).run p w=.ok v w'):(aS ρ o).run p w=.ok (.value v) w':=by
 obtain⟨dst,yJ,type,pos,after,guard⟩:=o;simp only at ho hr;subst ho;simp[aS,resolve,invoke,builtin,hm,hx,hr]
theorem zgQ {m x:cJ}{a b v:aF}(ho:o.op=.call ⟨.builtin .copy,#[m,x],#[t,kt]⟩)(hm:ρ m=a)(hx:ρ x=b)(hr:(Ep #[t,kt] o.type #[a,b]).run p w=.ok v w'):(aS ρ o).run p w=.ok (.value v) w':=by
 obtain⟨dst,yJ,type,pos,after,guard⟩:=o;simp only at ho hr;subst ho;simp[aS,resolve,invoke,builtin,hm,hx,hr]
end
def bodyRF:Go.Code:=(Tryz.f115.body).getD .skip
def rRF1:Go.Code:=match bodyRF with| .seq _ (.seq (a) _)=>a|_=>.skip
def Bq:Array Oper:=match rRF1 with| .region _ ops _=>ops|_=>#[]
def zuz:Bq.toList=[aM Bq 0 (some 5) (.move (.tmp 0)),aM Bq 1 (some 6) (.nilCheck (.tmp 5)),aM Bq 2 (some 7) (.fieldAddr 72 (.tmp 6) 7),aM Bq 3 (some 8) (.load 45 (.tmp 7)),aM Bq 4 (some 9) (.move (.tmp 0)),aM Bq 5 (some 10) (.nilCheck (.tmp 9)),aM Bq 6 (some 11) (.fieldAddr 72 (.tmp 10) 8),aM Bq 7 (some 12) (.load 70 (.tmp 11)),aM Bq 8 (some 13) (.move (.tmp 1)),aM Bq 9 (some 14) (.lookup 70 (.tmp 12) (.tmp 13) false),aM Bq 10 (some 15) (.indexAddr 45 (.tmp 8) (.tmp 14)),aM Bq 11 (some 4) (.assign (.tmp 15))]:=rfl
def WRF1 (w:aE)(hb g n cR mM ix:Nat)(c:Int):Nat->aE
 |_=>w.drew
theorem zqJ:Bq.toList.map (·.dst)=[some 5,some 6,some 7,some 8,some 9,some 10,some 11,some 12,some 13,some 14,some 15,some 4]:=by rw[zuz];rfl
def lRF1 (w:aE)(hb g n cR mM ix:Nat)(c:Int):List Value:=[.pointer (some ⟨hb,0,none⟩),.pointer (some ⟨hb,0,none⟩),.pointer (some ⟨hb,9,none⟩),.slice (some ⟨g,0,none⟩) n cR,.pointer (some ⟨hb,0,none⟩),.pointer (some ⟨hb,0,none⟩),.pointer (some ⟨hb,10,none⟩),.map (some mM),.int .i64 (c),.int .i64 ((ix:Nat)),.pointer (some ⟨g,ix*7,none⟩),.pointer (some ⟨g,ix*7,none⟩)]
def fRF1 (w:aE)(hb g n cR mM ix:Nat)(c:Int)(i:Nat):Value:=(lRF1 w hb g n cR mM ix c).getD i aA
variable {Q:oP->uL->aE->Prop}{d:List Gw}{t0:Array aF}
theorem wp_RF1 (w:aE)(hb g n cR mM ix:Nat)(c:Int)(hz:t0.size=16)(uV:t0.getD 0 aA=.pointer (some ⟨hb,0,none⟩))(Ew:t0.getD 1 aA=.int .i64 (c))(h9:w.cell? ⟨hb,9,none⟩=some (.slice (some ⟨g,0,none⟩) n cR))(vY:w.cell? ⟨hb,10,none⟩=some (.map (some mM)))(xS:(Ac 70 (.map (some mM)) (.int .i64 c) false).run aK w.drew=.ok (.int .i64 (ix:Int)) w.drew)(oK:ix<n)(h0:WRF1 w hb g n cR mM ix c 0=w.drew)(hk:Q .normal ⟨cT Bq (fRF1 w hb g n cR mM ix c) t0,d⟩ (w.drew)):
 (F5 1 Bq true).wp aK Q ⟨t0,d⟩ w:=by
 refine Jr (ws:=[]) (Wd:=WRF1 w hb g n cR mM ix c) (vals:=fRF1 w hb g n cR mM ix c) uB.mixed aP aH aP h0 Ho (λV hU hV=>?_) hk;obtain⟨e5,e6,e7,e8,e9,zck,zg7,zbW,zlT,zml,zoy,e4,-⟩:=Ie zqJ hU;have e0:=(hV 0 aP).trans uV;have e1:=(hV 1 aP).trans Ew;have zuy:=h9;have zzh:=vY;refine λTf hT=>Hr zuz ⟨bR.pv,bR.pv,bR.pv,bR.ld,bR.pv,bR.pv,bR.pv,bR.ld,bR.pv,bR.ld (hx:=ziM rfl (jP hT zbW) (jP hT zlT) xS),bR.any (λkk gI hm=>?_),bR.pv,trivial⟩
 .have i0:(0:Int)<=(ix:Int):=aC
  have i1:(ix:Int)<(n:Int):=by have:=oK;omega
  unfold aS;go_simp
def bodyCL:Go.Code:=(Tryz.f116.body).getD .skip
def rCL0:Go.Code:=match bodyCL with| .seq (a) _=>a|_=>.skip
def Ci:Array Oper:=match rCL0 with| .region _ ops _=>ops|_=>#[]
def zx6:Ci.toList=[aM Ci 0 (some 7) (.move (.tmp 0)),aM Ci 1 (some 8) (.nilCheck (.tmp 7)),aM Ci 2 (some 9) (.fieldAddr 72 (.tmp 8) 2),aM Ci 3 (some 10) (.load 66 (.tmp 9)),aM Ci 4 (some 11) (.move (.tmp 0)),aM Ci 5 (some 12) (.nilCheck (.tmp 11)),aM Ci 6 (some 13) (.fieldAddr 72 (.tmp 12) 3),aM Ci 7 (some 14) (.load 67 (.tmp 13)),aM Ci 8 (some 15) (.move (.tmp 1)),aM Ci 9 (some 16) (.lookup 67 (.tmp 14) (.tmp 15) false),aM Ci 10 none (.call ⟨.builtin .delete,#[.tmp 10,.tmp 16],#[66,84]⟩)]:=rfl
def WCL0 (w:aE)(hb mC mO g:Nat)(o1:Obj)(c:Int):Nat->aE
 |0=>w.drew
 |_=>{w.drew with heap:=w.drew.heap.setIfInBounds mC o1}
theorem zww:Ci.toList.map (·.dst)=[some 7,some 8,some 9,some 10,some 11,some 12,some 13,some 14,some 15,some 16,none]:=by rw[zx6];rfl
def lCL0 (w:aE)(hb mC mO g:Nat)(o1:Obj)(c:Int):List Value:=[.pointer (some ⟨hb,0,none⟩),.pointer (some ⟨hb,0,none⟩),.pointer (some ⟨hb,4,none⟩),.map (some mC),.pointer (some ⟨hb,0,none⟩),.pointer (some ⟨hb,0,none⟩),.pointer (some ⟨hb,5,none⟩),.map (some mO),.int .i64 (c),.chan (some g),aA]
def fCL0 (w:aE)(hb mC mO g:Nat)(o1:Obj)(c:Int)(i:Nat):Value:=(lCL0 w hb mC mO g o1 c).getD i aA
theorem wp_CL0 (w:aE)(hb mC mO g:Nat)(o1:Obj)(c:Int)(hz:t0.size=36)(uV:t0.getD 0 aA=.pointer (some ⟨hb,0,none⟩))(Ew:t0.getD 1 aA=.int .i64 (c))(h4:w.cell? ⟨hb,4,none⟩=some (.map (some mC)))(h5:w.cell? ⟨hb,5,none⟩=some (.map (some mO)))(xS:(Ac 67 (.map (some mO)) (.int .i64 c) false).run aK w.drew=.ok (.chan (some g)) w.drew)(tH:∀ty,(Lt #[66,84] ty #[.map (some mC),.chan (some g)]).run aK w.drew=.ok (.tuple #[]) {w.drew with heap:=w.drew.heap.setIfInBounds mC o1})(h0:WCL0 w hb mC mO g o1 c 0=w.drew)(hk:Q .normal ⟨cT Ci (fCL0 w hb mC mO g o1 c) t0,d⟩ ({w.drew with heap:=w.drew.heap.setIfInBounds mC o1})):
 (F5 0 Ci true).wp aK Q ⟨t0,d⟩ w:=by
 refine Jr (ws:=[10]) (Wd:=WCL0 w hb mC mO g o1 c) (vals:=fCL0 w hb mC mO g o1 c) uB.mixed aP aH aP h0 Ho (λV hU hV=>?_) hk;obtain⟨e7,e8,e9,zck,zg7,zbW,zlT,zml,zoy,zBk,-⟩:=Ie zww hU;have e0:=(hV 0 aP).trans uV;have e1:=(hV 1 aP).trans Ew;have Lq:=h4;have zzc:=h5;refine λTf hT=>Hr zx6 ⟨bR.pv,bR.pv,bR.pv,bR.ld,bR.pv,bR.pv,bR.pv,bR.ld,bR.pv,bR.ld (hx:=ziM rfl (jP hT zml) (jP hT zoy) xS),.actn 0 rfl (dE rfl) rfl (.tuple #[]) ?_,trivial⟩
 .exact exec_dl rfl (jP hT zck) (jP hT zBk) (tH _)
def ztX:Go.Code:=(Tryz.f110.body).getD .skip
def rCC3:Go.Code:=match ztX with| .seq _ (.seq _ (.seq _ (.seq (a) _)))=>a|_=>.skip
def C0:Array Oper:=match rCC3 with| .region _ ops _=>ops|_=>#[]
def zxN:C0.toList=[aM C0 0 (some 26) (.move (.tmp 0)),aM C0 1 (some 27) (.nilCheck (.tmp 26)),aM C0 2 (some 28) (.fieldAddr 72 (.tmp 27) 8),aM C0 3 (some 29) (.load 70 (.tmp 28)),aM C0 4 (some 30) (.move (.tmp 1)),aM C0 5 (some 31) (.move (.tmp 0)),aM C0 6 (some 32) (.nilCheck (.tmp 31)),aM C0 7 (some 33) (.fieldAddr 72 (.tmp 32) 7),aM C0 8 (some 34) (.load 45 (.tmp 33)),aM C0 9 (some 35) (.call ⟨.builtin .len,#[.tmp 34],#[45]⟩),aM C0 10 none (.mapUpdate 70 (.tmp 29) (.tmp 30) (.tmp 35))]:=rfl
def WCC3 (w:aE)(hb mM n:Nat)(sR:aF)(A:Option bC)(cR:Nat)(o1:Obj)(c:Int):Nat->aE
 |0=>w.drew
 |_=>{w.drew with heap:=w.drew.heap.setIfInBounds mM o1}
theorem zwj:C0.toList.map (·.dst)=[some 26,some 27,some 28,some 29,some 30,some 31,some 32,some 33,some 34,some 35,none]:=by rw[zxN];rfl
def lCC3 (w:aE)(hb mM n:Nat)(sR:aF)(A:Option bC)(cR:Nat)(o1:Obj)(c:Int):List Value:=[.pointer (some ⟨hb,0,none⟩),.pointer (some ⟨hb,0,none⟩),.pointer (some ⟨hb,10,none⟩),.map (some mM),.int .i64 (c),.pointer (some ⟨hb,0,none⟩),.pointer (some ⟨hb,0,none⟩),.pointer (some ⟨hb,9,none⟩),.slice A n cR,.int .i64 ((n:Nat)),aA]
def fCC3 (w:aE)(hb mM n:Nat)(sR:aF)(A:Option bC)(cR:Nat)(o1:Obj)(c:Int)(i:Nat):Value:=(lCC3 w hb mM n sR A cR o1 c).getD i aA
theorem wp_CC3 (w:aE)(hb mM n:Nat)(sR:aF)(A:Option bC)(cR:Nat)(o1:Obj)(c:Int)(hz:t0.size=53)(uV:t0.getD 0 aA=.pointer (some ⟨hb,0,none⟩))(Ew:t0.getD 1 aA=.int .i64 (c))(vY:w.cell? ⟨hb,10,none⟩=some (.map (some mM)))(h9:w.cell? ⟨hb,9,none⟩=some (.slice A n cR))(Qw:(Hp 70 (.map (some mM)) (.int .i64 c) (.int .i64 (n:Int))).run aK w.drew=.ok () {w.drew with heap:=w.drew.heap.setIfInBounds mM o1})(h0:WCC3 w hb mM n sR A cR o1 c 0=w.drew)(hk:Q .normal ⟨cT C0 (fCC3 w hb mM n sR A cR o1 c) t0,d⟩ ({w.drew with heap:=w.drew.heap.setIfInBounds mM o1})):
 (F5 3 C0 true).wp aK Q ⟨t0,d⟩ w:=by
 refine Jr (ws:=[10]) (Wd:=WCC3 w hb mM n sR A cR o1 c) (vals:=fCC3 w hb mM n sR A cR o1 c) uB.mixed aP aH aP h0 Ho (λV hU hV=>?_) hk;obtain⟨zLy,zLn,zJN,zA6,zIW,zLY,zLQ,zLO,zK0,zEK,-⟩:=Ie zwj hU;have e0:=(hV 0 aP).trans uV;have e1:=(hV 1 aP).trans Ew;have zzh:=vY;have zuy:=h9;refine λTf hT=>Hr zxN ⟨bR.pv,bR.pv,bR.pv,bR.ld,bR.pv,bR.pv,bR.pv,bR.pv,bR.ld,bR.pv,.skp 0 rfl (dE rfl) rfl ?_,trivial⟩
 .exact exec_mu rfl (jP hT zA6) (jP hT zIW) (jP hT zEK) Qw
def rCC4:Go.Code:=match ztX with| .seq _ (.seq _ (.seq _ (.seq _ (a))))=>a|_=>.skip
def vP:Array Oper:=match rCC4 with| .region _ ops _=>ops|_=>#[]
def zpu:vP.toList=[aM vP 0 (some 36) (.move (.tmp 0)),aM vP 1 (some 37) (.move (.tmp 0)),aM vP 2 (some 38) (.nilCheck (.tmp 37)),aM vP 3 (some 39) (.fieldAddr 72 (.tmp 38) 7),aM vP 4 (some 40) (.load 45 (.tmp 39)),aM vP 5 (some 41) (.move (.tmp 1)),aM vP 6 (some 42) (.move (.tmp 2)),aM vP 7 (some 43) (.binOp .add 3 (.tmp 42) (.const (.int .i64 1)) 3),aM vP 8 (some 44) (.move (.tmp 0)),aM vP 9 (some 45) (.nilCheck (.tmp 44)),aM vP 10 (some 46) (.fieldAddr 72 (.tmp 45) 9),aM vP 11 (some 47) (.load 3 (.tmp 46)),aM vP 12 (some 48) (.build 50 #[(0,.tmp 41),(1,.tmp 43),(3,.tmp 47),(4,.const (.int .i64 (-1))),(5,.const (.int .i64 (-1))),(6,.const (.string {data:=#[111,112,101,110]}))]),aM vP 13 (some 49) (.buildSlice 45 1 #[(0,.tmp 48)]),aM vP 14 (some 50) (.call ⟨.builtin .append,#[.tmp 40,.tmp 49],#[45,45]⟩),aM vP 15 (some 51) (.nilCheck (.tmp 36)),aM vP 16 (some 52) (.fieldAddr 72 (.tmp 51) 7),aM vP 17 none (.store 45 (.tmp 52) (.tmp 50))]:=rfl
def WCC4 (w w3:aE)(hb g1 n1 c1:Nat)(sR:aF)(c ix clk:Int):Nat->aE
 |0=>w.drew
 |1=>(w.alloc (.cells #[.int .i64 c,.int .i64 (ix+1),.int .i64 0,.int .i64 clk,.int .i64 (-1),.int .i64 (-1),.string eN] 50)).drew
 |2=>w3
 |_=>w3.setCell ⟨hb,9,none⟩ (.slice (some ⟨g1,0,none⟩) n1 c1)
theorem zwy:vP.toList.map (·.dst)=[some 36,some 37,some 38,some 39,some 40,some 41,some 42,some 43,some 44,some 45,some 46,some 47,some 48,some 49,some 50,some 51,some 52,none]:=by rw[zpu];rfl
def lCC4 (w w3:aE)(hb g1 n1 c1:Nat)(sR:aF)(c ix clk:Int):List Value:=[.pointer (some ⟨hb,0,none⟩),.pointer (some ⟨hb,0,none⟩),.pointer (some ⟨hb,0,none⟩),.pointer (some ⟨hb,9,none⟩),sR,.int .i64 (c),.int .i64 (ix),.int .i64 (ix+1),.pointer (some ⟨hb,0,none⟩),.pointer (some ⟨hb,0,none⟩),.pointer (some ⟨hb,11,none⟩),.int .i64 (clk),.agg #[.int .i64 c,.int .i64 (ix+1),.int .i64 0,.int .i64 clk,.int .i64 (-1),.int .i64 (-1),.string eN],.slice (some ⟨w.heap.size,0,none⟩) 1 1,.slice (some ⟨g1,0,none⟩) n1 c1,.pointer (some ⟨hb,0,none⟩),.pointer (some ⟨hb,9,none⟩),aA]
def fCC4 (w w3:aE)(hb g1 n1 c1:Nat)(sR:aF)(c ix clk:Int)(i:Nat):Value:=(lCC4 w w3 hb g1 n1 c1 sR c ix clk).getD i aA
theorem wp_CC4 (w w3:aE)(hb g1 n1 c1:Nat)(sR:aF)(c ix clk:Int)(hz:t0.size=53)(uV:t0.getD 0 aA=.pointer (some ⟨hb,0,none⟩))(Ew:t0.getD 1 aA=.int .i64 (c))(Rx:t0.getD 2 aA=.int .i64 (ix))(h9:w.cell? ⟨hb,9,none⟩=some sR)(Va:w.cell? ⟨hb,11,none⟩=some (.int .i64 clk))(zxZ:0<=ix/\ix<=1000)(fM:(xG #[45,45] 45 #[sR,.slice (some ⟨w.heap.size,0,none⟩) 1 1]).run aK ((w.alloc (.cells #[.int .i64 c,.int .i64 (ix+1),.int .i64 0,.int .i64 clk,.int .i64 (-1),.int .i64 (-1),.string eN] 50)).drew)=.ok (.slice (some ⟨g1,0,none⟩) n1 c1) w3)(aY:w3.cell? ⟨hb,9,none⟩=some sR)(oH:w3.frozen? ⟨hb,9,none⟩=false)(h0:WCC4 w w3 hb g1 n1 c1 sR c ix clk 0=w.drew)(hk:Q .normal ⟨cT vP (fCC4 w w3 hb g1 n1 c1 sR c ix clk) t0,d⟩ (w3.setCell ⟨hb,9,none⟩ (.slice (some ⟨g1,0,none⟩) n1 c1))):
 (F5 4 vP true).wp aK Q ⟨t0,d⟩ w:=by
 refine Jr (ws:=[13,14,17]) (Wd:=WCC4 w w3 hb g1 n1 c1 sR c ix clk) (vals:=fCC4 w w3 hb g1 n1 c1 sR c ix clk) uB.mixed aP aH aP h0 Ho (λV hU hV=>?_) hk;obtain⟨zBq,zxE,zo0,zmX,ziw,zpA,ztq,zjw,ztx,zh3,Ye,zcY,ziy,Yt,zeI,V7,Xw,-⟩:=Ie zwy hU;have e0:=(hV 0 aP).trans uV;have e1:=(hV 1 aP).trans Ew;have e2:=(hV 2 aP).trans Rx;have zuy:=h9;have zJj:=Va;refine λTf hT=>Hr zpu ⟨bR.pv,bR.pv,bR.pv,bR.pv,bR.any (λkk gI hm=>?_),bR.pv,bR.pv,bR.any (λkk gI hm=>?_),bR.pv,bR.pv,bR.pv,bR.ld,bR.any (λkk gI hm=>?_),bR.act (v:=V 49) 0 rfl (dE rfl) ?_,bR.act (v:=V 50) 1 rfl (dE rfl) ?_,bR.pv,bR.pv,.skp 2 rfl (dE rfl) rfl ?_,trivial⟩
 .rcases kk with _|_|_|_|kk
  .show(aS _ _).run _ (w.drew)=wP _ (w.drew);have hh:=h9;unfold aS;go_simp
  .show(aS _ _).run _ ((w.alloc (.cells #[.int .i64 c,.int .i64 (ix+1),.int .i64 0,.int .i64 clk,.int .i64 (-1),.int .i64 (-1),.string eN] 50)).drew)=wP _ ((w.alloc (.cells #[.int .i64 c,.int .i64 (ix+1),.int .i64 0,.int .i64 clk,.int .i64 (-1),.int .i64 (-1),.string eN] 50)).drew);have hh:=B7 h9 (.cells #[.int .i64 c,.int .i64 (ix+1),.int .i64 0,.int .i64 clk,.int .i64 (-1),.int .i64 (-1),.string eN] 50);unfold aS;go_simp
  .exact absurd hm Hx
  .exact absurd hm Hx
  .simp at gI
 .have i0:=zxZ.1
  have i1:=zxZ.2;unfold aS;go_simp;exact Gu aC aC
 .unfold aS;go_simp;rfl
 .rw[Yt];show(aS _ _).run _ (w.drew)=wP _ ((w.alloc (.cells #[.int .i64 c,.int .i64 (ix+1),.int .i64 0,.int .i64 clk,.int .i64 (-1),.int .i64 (-1),.string eN] 50)).drew);unfold aS;go_simp
 .rw[zeI];exact zbd rfl (jP hT ziw) (jP hT Yt) fM
 .have hs:=aY;have hf:=oH;show(aS _ _).run _ (w3)=wP _ (w3.setCell ⟨hb,9,none⟩ (.slice (some ⟨g1,0,none⟩) n1 c1));unfold aS;go_simp
def bodyWA:Go.Code:=(Tryz.f105.body).getD .skip
def rWA10:Go.Code:=match bodyWA with| .seq _ (.seq _ (.seq _ (.seq _ (.seq (.seq _ (.block _ (.loop (.seq _ (.seq _ (.seq (.block _ (.seq _ (.seq _ (.seq _ (.seq (a) _))))) _)))))) _))))=>a|_=>.skip
def Ca:Array Oper:=match rWA10 with| .region _ ops _=>ops|_=>#[]
def zxX:Ca.toList=[aM Ca 0 (some 58) (.move (.tmp 0)),aM Ca 1 (some 59) (.move (.tmp 0)),aM Ca 2 (some 60) (.nilCheck (.tmp 59)),aM Ca 3 (some 61) (.fieldAddr 72 (.tmp 60) 6),aM Ca 4 (some 62) (.load 38 (.tmp 61)),aM Ca 5 (some 63) (.fieldAddr 149 (.tmp 8) 0),aM Ca 6 (some 64) (.load 3 (.tmp 63)),aM Ca 7 (some 65) (.buildSlice 38 1 #[(0,.tmp 64)]),aM Ca 8 (some 66) (.call ⟨.builtin .append,#[.tmp 62,.tmp 65],#[38,38]⟩),aM Ca 9 (some 67) (.nilCheck (.tmp 58)),aM Ca 10 (some 68) (.fieldAddr 72 (.tmp 67) 6),aM Ca 11 none (.store 38 (.tmp 68) (.tmp 66))]:=rfl
def WWA10 (w w3:aE)(hb gx g1 n1 c1:Nat)(sB:aF)(c:Int):Nat->aE
 |0=>w.drew
 |1=>(w.alloc (.cells #[.int .i64 c] 3)).drew
 |2=>w3
 |_=>w3.setCell ⟨hb,8,none⟩ (.slice (some ⟨g1,0,none⟩) n1 c1)
theorem zyi:Ca.toList.map (·.dst)=[some 58,some 59,some 60,some 61,some 62,some 63,some 64,some 65,some 66,some 67,some 68,none]:=by rw[zxX];rfl
def lWA10 (w w3:aE)(hb gx g1 n1 c1:Nat)(sB:aF)(c:Int):List Value:=[.pointer (some ⟨hb,0,none⟩),.pointer (some ⟨hb,0,none⟩),.pointer (some ⟨hb,0,none⟩),.pointer (some ⟨hb,8,none⟩),sB,.pointer (some ⟨gx,0,none⟩),.int .i64 (c),.slice (some ⟨w.heap.size,0,none⟩) 1 1,.slice (some ⟨g1,0,none⟩) n1 c1,.pointer (some ⟨hb,0,none⟩),.pointer (some ⟨hb,8,none⟩),aA]
def zjF (w w3:aE)(hb gx g1 n1 c1:Nat)(sB:aF)(c:Int)(i:Nat):Value:=(lWA10 w w3 hb gx g1 n1 c1 sB c).getD i aA
theorem wp_WA10 (w w3:aE)(hb gx g1 n1 c1:Nat)(sB:aF)(c:Int)(hz:t0.size=81)(uV:t0.getD 0 aA=.pointer (some ⟨hb,0,none⟩))(zl6:t0.getD 8 aA=.pointer (some ⟨gx,0,none⟩))(h8:w.cell? ⟨hb,8,none⟩=some sB)(hx:w.cell? ⟨gx,0,none⟩=some (.int .i64 c))(fM:(xG #[38,38] 38 #[sB,.slice (some ⟨w.heap.size,0,none⟩) 1 1]).run aK ((w.alloc (.cells #[.int .i64 c] 3)).drew)=.ok (.slice (some ⟨g1,0,none⟩) n1 c1) w3)(aY:w3.cell? ⟨hb,8,none⟩=some sB)(oH:w3.frozen? ⟨hb,8,none⟩=false)(h0:WWA10 w w3 hb gx g1 n1 c1 sB c 0=w.drew)(hk:Q .normal ⟨cT Ca (zjF w w3 hb gx g1 n1 c1 sB c) t0,d⟩ (w3.setCell ⟨hb,8,none⟩ (.slice (some ⟨g1,0,none⟩) n1 c1))):
 (F5 10 Ca true).wp aK Q ⟨t0,d⟩ w:=by
 refine Jr (ws:=[7,8,11]) (Wd:=WWA10 w w3 hb gx g1 n1 c1 sB c) (vals:=zjF w w3 hb gx g1 n1 c1 sB c) uB.mixed aP aH aP h0 Ho (λV hU hV=>?_) hk;obtain⟨zsK,zIi,zJZ,zLN,zyW,zLX,zKR,zxa,zBf,zJs,zLA,-⟩:=Ie zyi hU;have e0:=(hV 0 aP).trans uV;have e8:=(hV 8 aP).trans zl6;have zMq:=h8;have lZ:=hx;refine λTf hT=>Hr zxX ⟨bR.pv,bR.pv,bR.pv,bR.pv,bR.any (λkk gI hm=>?_),bR.pv,bR.ld,bR.act (v:=V 65) 0 rfl (dE rfl) ?_,bR.act (v:=V 66) 1 rfl (dE rfl) ?_,bR.pv,bR.pv,.skp 2 rfl (dE rfl) rfl ?_,trivial⟩
 .rcases kk with _|_|_|_|kk
  .show(aS _ _).run _ (w.drew)=wP _ (w.drew);have hh:=h8;unfold aS;go_simp
  .show(aS _ _).run _ ((w.alloc (.cells #[.int .i64 c] 3)).drew)=wP _ ((w.alloc (.cells #[.int .i64 c] 3)).drew);have hh:=B7 h8 (.cells #[.int .i64 c] 3);unfold aS;go_simp
  .exact absurd hm Hx
  .exact absurd hm Hx
  .simp at gI
 .rw[zxa];show(aS _ _).run _ (w.drew)=wP _ ((w.alloc (.cells #[.int .i64 c] 3)).drew);unfold aS;go_simp
 .rw[zBf];exact zbd rfl (jP hT zyW) (jP hT zxa) fM
 .have hs:=aY;have hf:=oH;show(aS _ _).run _ (w3)=wP _ (w3.setCell ⟨hb,8,none⟩ (.slice (some ⟨g1,0,none⟩) n1 c1));unfold aS;go_simp
def bodyHG:Go.Code:=(Tryz.f102.body).getD .skip
def rHG1:Go.Code:=match bodyHG with| .seq _ (.seq (.seq (a) _) _)=>a|_=>.skip
def Iy:Array Oper:=match rHG1 with| .region _ ops _=>ops|_=>#[]
def zrJ:Iy.toList=[aM Iy 0 (some 7) (.move (.tmp 0)),aM Iy 1 (some 8) (.nilCheck (.tmp 7)),aM Iy 2 (some 9) (.fieldAddr 72 (.tmp 8) 3),aM Iy 3 (some 10) (.load 67 (.tmp 9)),aM Iy 4 (some 11) (.load 3 (.tmp 3)),aM Iy 5 (some 12) (.lookup 67 (.tmp 10) (.tmp 11) false),aM Iy 6 (some 13) (.binOp .eql 84 (.tmp 12) (.const (.chan none)) 84)]:=rfl
def WHG1 (w:aE)(hb gx mO:Nat)(c:Int)(q:Option Nat):Nat->aE
 |_=>w.drew
theorem zio:Iy.toList.map (·.dst)=[some 7,some 8,some 9,some 10,some 11,some 12,some 13]:=by rw[zrJ];rfl
def lHG1 (w:aE)(hb gx mO:Nat)(c:Int)(q:Option Nat):List Value:=[.pointer (some ⟨hb,0,none⟩),.pointer (some ⟨hb,0,none⟩),.pointer (some ⟨hb,5,none⟩),.map (some mO),.int .i64 (c),.chan q,.bool (q==none)]
def fHG1 (w:aE)(hb gx mO:Nat)(c:Int)(q:Option Nat)(i:Nat):Value:=(lHG1 w hb gx mO c q).getD i aA
theorem ztj (w:aE)(hb gx mO:Nat)(c:Int)(q:Option Nat)(hz:t0.size=59)(uV:t0.getD 0 aA=.pointer (some ⟨hb,0,none⟩))(znj:t0.getD 3 aA=.pointer (some ⟨gx,0,none⟩))(h5:w.cell? ⟨hb,5,none⟩=some (.map (some mO)))(hx:w.cell? ⟨gx,0,none⟩=some (.int .i64 c))(xS:(Ac 67 (.map (some mO)) (.int .i64 c) false).run aK w.drew=.ok (.chan q) w.drew)(h0:WHG1 w hb gx mO c q 0=w.drew)(hk:Q .normal ⟨cT Iy (fHG1 w hb gx mO c q) t0,d⟩ (w.drew)):
 (F5 1 Iy true).wp aK Q ⟨t0,d⟩ w:=by
 refine Jr (ws:=[]) (Wd:=WHG1 w hb gx mO c q) (vals:=fHG1 w hb gx mO c q) uB.mixed aP aH aP h0 Ho (λV hU hV=>?_) hk;obtain⟨e7,e8,e9,zck,zg7,zbW,zlT,-⟩:=Ie zio hU;have e0:=(hV 0 aP).trans uV;have e3:=(hV 3 aP).trans znj;have zzc:=h5;have lZ:=hx;refine λTf hT=>Hr zrJ ⟨bR.pv,bR.pv,bR.pv,bR.ld,bR.ld,bR.ld (hx:=ziM rfl (jP hT zck) (jP hT zg7) xS),bR.any (λkk gI hm=>?_),trivial⟩
 .exact zGI rfl Se (jP hT zbW) rfl
end Go.Proofs.YtfcjiloojkjaeaaGreatDoor
namespace Go.Proofs.YtfcjiloojkjaeaaGreatDoor
open Go.RowKit
def Dl (v v':fH):Prop:=v'.sL=v.sL/\v'.sQ=v.sQ/\v'.sW=v.sW/\v'.sB=v.sB/\v'.sA=v.sA/\v'.sT=v.sT
def Dl.rf (v:fH):Dl v v:=⟨rfl,rfl,rfl,rfl,rfl,rfl⟩
def zur:aK.underlying 70=some (.map 3 3):=aP
def S3:aK.underlying 67=some (.map 3 84):=aP
def zt3:aK.underlying 66=some (.map 84 3):=aP
variable {w:aE}{lo hb i:Nat}{v:fH}{d:oG}{x:bV}
theorem ziP (h:bG w lo hb v d)(hx:d.r.recs[i]? =some x):∃g c,v.sR=.slice (some ⟨g,0,none⟩) d.r.recs.length c:=by
 have hi:=(l8.1 hx).1;rcases h.R.2 with⟨_,h0⟩|⟨g,cap,cur,e,_⟩
 .omega
 .simp_all
variable {c:Int}{g cR:Nat}
theorem zfa (h:bG w lo hb v d)(hR:v.sR=.slice (some ⟨g,0,none⟩) d.r.recs.length cR)(hx:d.r.recs[i]? =some x)(hc:lH c v.pM=some (.int .i64 (i:Int))):
 fJ aK 115 #[.pointer (some ⟨hb,0,none⟩),.int .i64 c] w λe w'=>e=.returned (.pointer (some ⟨g,i*7,none⟩))/\w'=w.drew:=by
 have hi:=(l8.1 hx).1;have k0:=aI h.blk 9;have k1:w.cell? ⟨hb,9,none⟩=some (.slice (some ⟨g,0,none⟩) d.r.recs.length cR):=by rw[k0,<-hR];rfl
 have k2:=aI h.blk 10;have hl:(Ac 70 (.map (some v.mM)) (.int .i64 c) false).run aK w.drew=.ok (.int .i64 (i:Int)) w.drew:=by
  have:=zaI zur Lg (zl5 w.drew) (h.drew.M) (c:=c) false;rw[hc] at this;exact this
 have HL:=aD hl
 go_enter Tryz.func115,Tryz.ntmps115
 go_wp2_with fail
 refine wp_RF1 w hb g d.r.recs.length cR v.mM i c rfl rfl rfl k1 k2 HL.o hi rfl ?_;rw[Go.Mt.zO,zqJ];simp only[Go.Mt.wV,dY,dX,fRF1,lRF1,En,Es]
 go_wp2_with fail
 go_ret;exact⟨rfl,rfl⟩
theorem zH8 (rs:List bV)(x:bV):recs (rs++[x])=recs rs++x.cells:=by simp[recs]
def zDX:(aK.info? 50).map (λi=>(i.zero,i.size,i.bytes))=some (some (.agg #[.int .i64 0,.int .i64 0,.int .i64 0,.int .i64 0,.int .i64 0,.int .i64 0,.string ⟨#[]⟩]),7,64):=aP
variable {xs:List aF}
theorem Nl {lo E n m sz bytes t ty:Nat}{v:aF}{news:List aF}{z:aF}(zCZ:(aK.info? E).map (λi=>(i.zero,i.size,i.bytes))=some (some z,sz,bytes))(hu:aK.underlying t=some (.slice E))(hzs:z.cells.size=sz)(cK:0<sz)
 (h:w.ownsRow lo E sz v n xs)  {cs:Array aF} (hg:w.heap[g]? =some (.cells cs E)) (gJ:cs.toList=news) (hl:news.length=m*sz) (hm:0<m) (h1:∀u∈news,u.oneCell'=true) (hn:n+m<=1000000) (hb:bytes<=1000) (eF:lo<=w.heap.size):
 ∃g1 c1 w',(xG #[t,t] ty #[v,.slice (some ⟨g,0,none⟩) m m]).run aK w=.ok (.slice (some ⟨g1,0,none⟩) (n+m) c1) w'/\w'.ownsRow lo E sz (.slice (some ⟨g1,0,none⟩) (n+m) c1) (n+m) (xs++news)/\w.grownBy w' v.ownBlock/\
  ((Sg (some ⟨g1,0,none⟩) (n+m) c1).ownBlock=v.ownBlock\/∀b,(Sg (some ⟨g1,0,none⟩) (n+m) c1).ownBlock=some b->w.heap.size<=b):=by
 obtain⟨i0,hi,gA,dS,jQ⟩:=C6 zCZ;have zJS:(n+m)*bytes<=1000000*1000:=Nat.mul_le_mul hn hb;obtain⟨v',w',hr,h2,h3,h4,h5⟩:=run_append_own_at (P:=aK) w lo t ty E i0 z sz bytes hu hi gA dS jQ hzs cK v n xs h ⟨g,0,none⟩ m m news hl (Gl (cs:=cs) hg|>λf=>by simp_all) h1 Wb aC eF;obtain⟨g1,c1,rfl⟩:=zjL h2 (λe=>by simp_all);refine⟨g1,c1,w',hr,h2,h3,?_⟩;rcases h5 with h5|h5
 .exact .inl h5
 .simp_all
theorem zva (h:bG w lo hb v d)(eF:lo<=w.heap.size)(hg:d.ln[i]? =some g)(hi:i<=100)(hn:d.r.recs.length<=1000)(c:Int):
 fJ aK 110 #[.pointer (some ⟨hb,0,none⟩),.int .i64 c,.int .i64 (i:Int)] w λe w'=>e=.returned (.tuple #[])/\∃v',bG w' lo hb v' {d with r:={d.r with recs:=d.r.recs++[⟨c,(i:Int)+1,0,d.r.clk,-1,-1,eN⟩]}}/\bP hb v w v' w'/\
  v'.pC=uO g (.int .i64 c) v.pC/\v'.pO=rB c (.chan (some g)) v.pO/\v'.pM=rB c (.int .i64 (d.r.recs.length:Int)) v.pM/\Dl v v':=by
 obtain⟨A,cL,hA,hs⟩:=G8 h.L aH;have Bd:=(l8.1 hg).1;obtain⟨b,off,g',rfl,yE,hv⟩:=zgn hs Bd;rw[hg] at yE;obtain rfl:=cH yE;have V6:=aI h.blk 3;have k3:w.cell? ⟨hb,3,none⟩=some (.slice (some ⟨b,off,none⟩) d.ln.length cL):=by rw[V6,<-hA];rfl
 have k4:=aI h.blk 4;have i0:(0:Int)<=(i:Int):=aC;have i1:(i:Int)<(d.ln.length:Int):=aC;have HH:=aD h;have HC:=aD h.C;clear hA hs hg V6 h
 go_enter Tryz.func110,Tryz.ntmps110
 go_upto_region 1 with fail
 clear k3 hv
 go_upto_region 2 with(at_mapUpdate;refine zH2 _ rfl (.tmp 17) (.tmp 18) (.tmp 19) 66 rfl 3 zt3 Se v.mC g (.int .i64 c) v.pC rfl rfl rfl HC.o ?_;intro w2 o2 eZ zan;have Ub:=aD eZ;have Rm:=aD zan;clear eZ zan)
 have o8:=Rm.o;rw[Ub.o] at o8;obtain⟨a2,t2⟩:=HH.o.mapC o8;rw[<-Ub.o] at a2 t2;obtain⟨v2,Bt⟩:=aT ({v with pC:=uO g (.int .i64 c) v.pC}:fH);rw[<-Bt] at a2 t2;have e2:v2.pC=uO g (.int .i64 c) v.pC/\v2.pO=v.pO/\v2.pM=v.pM/\Dl v v2:=by rw[Bt];exact⟨rfl,rfl,rfl,Dl.rf v⟩
 have zgG:=eG eF t2.size;clear Bt o8 Rm Ub HC k4;have k5:=aI a2.blk 5;have HO:=aD a2.O;have A2:=aD a2;have T2:=aD t2;have E2:=aD e2;clear a2 t2 e2
 go_upto_region 3 with(at_mapUpdate;refine zFj _ rfl (.tmp 23) (.tmp 24) (.tmp 25) 67 rfl 84 S3 Lg v2.mO c (.chan (some g)) v2.pO rfl rfl rfl HO.o ?_;intro w3 o3 jB zwd;have Rh:=aD jB;have zr5:=aD zwd;clear jB zwd)
 have zmV:=zr5.o;rw[Rh.o] at zmV;obtain⟨a3,t3⟩:=A2.o.mapO zmV;rw[<-Rh.o] at a3 t3;obtain⟨v3,Hd⟩:=aT ({v2 with pO:=rB c (.chan (some g)) v2.pO}:fH);rw[<-Hd] at a3 t3;have e3:v3.pC=uO g (.int .i64 c) v.pC/\v3.pO=rB c (.chan (some g)) v.pO/\v3.pM=v.pM/\Dl v v3:=by rw[Hd];exact⟨E2.o.1,by show rB _ _ v2.pO=_;rw[E2.o.2.1],E2.o.2.2⟩
 have zh5:=eG zgG t3.size;have zr6:=T2.o.trans t3;clear Hd zmV zr5 Rh HO k5 A2 T2 E2 t3;obtain⟨AR,cR,ztQ,_⟩:=G8 a3.R aH;have zsJ:=aI a3.blk 9;have k9:w3.cell? ⟨hb,9,none⟩=some (.slice AR d.r.recs.length cR):=by rw[zsJ,<-ztQ];rfl
 have zxA:=aI a3.blk 10;obtain⟨es,cl,Qw,pJ⟩:=zuc zur Lg a3.drew.M (c:=c) (.int .i64 (d.r.recs.length:Int));obtain⟨a4,t4⟩:=a3.drew.mapM pJ;have A4:=aD a4;have T4:=aD (zr6.trans ((bP.refl (v:=v3) (w:=w3)).trans (⟨t4.size,t4.block,t4.moved⟩:bP hb v3 w3 _ _)));have MU:=aD Qw;have E3:=aD e3;clear ztQ zsJ pJ a3 a4 t4 Qw zr6 e3;refine wp_CC3 w3 hb v3.mM d.r.recs.length v3.sR AR cR (.map es cl) c rfl rfl rfl zxA k9 MU.o rfl ?_;rw[Go.Mt.zO,zwj];simp only[Go.Mt.wV,dY,dX,fCC3,lCC3,En,Es];obtain⟨w4,lW⟩:=aT ({w3.drew with heap:=w3.drew.heap.setIfInBounds v3.mM (.map es cl)}:aE);rw[<-lW] at A4 T4⊢;have zMa:=eG eF T4.o.size;clear lW MU k9 zxA;obtain⟨v4,Im⟩:=aT ({v3 with pM:=rB c (.int .i64 (d.r.recs.length:Int)) v3.pM}:fH);rw[<-Im] at A4 T4;have E4:=aD (show v4.pC=uO g (.int .i64 c) v.pC/\v4.pO=rB c (.chan (some g)) v.pO/\v4.pM=rB c (.int .i64 (d.r.recs.length:Int)) v.pM/\Dl v v4 by rw[Im];exact⟨E3.o.1,E3.o.2.1,by show rB _ _ v3.pM=_;rw[E3.o.2.2.1],E3.o.2.2.2⟩);clear Im E3;obtain⟨OB,zaY⟩:=aT (.cells #[.int .i64 c,.int .i64 ((i:Int)+1),.int .i64 0,.int .i64 d.r.clk,.int .i64 (-1),.int .i64 (-1),.string eN] 50:Obj);have a5:=(A4.o.alloc OB).drew;obtain⟨g1,c1,w5,fM,dF,nA,fA⟩:=Nl (t:=45) (ty:=45) zDX Tryz.underlying45 rfl aH a5.R (g:=w4.heap.size) (cs:=#[.int .i64 c,.int .i64 ((i:Int)+1),.int .i64 0,.int .i64 d.r.clk,.int .i64 (-1),.int .i64 (-1),.string eN]) (news:=bV.cells ⟨c,(i:Int)+1,0,d.r.clk,-1,-1,eN⟩) (by rw[zaY];exact gV _ _) rfl (m:=1) rfl aH zil aC aH pX;obtain⟨a6,t6⟩:=a5.putR nA (n:=d.r.recs.length+1) (xs:=d.r.recs++[⟨c,(i:Int)+1,0,d.r.clk,-1,-1,eN⟩]) (by rw[zH8];exact dF) aQ fA;have A6:=aD a6;have T6:=aD (T4.o.trans ((bP.below (eT (fK _ _) OB)).trans (⟨t6.size,t6.block,t6.moved⟩:bP hb v4 (w4.alloc OB) _ _)));have k9:=aI A4.o.blk 9;have Fb:=aI A4.o.blk 11;have yL:=(a5.other (j:=7) (c:=9) (x:=v4.sR) rfl aH nA (.slice (some ⟨g1,0,none⟩) (d.r.recs.length+1) c1)).2.trans a5.blk;have zub:=aI yL 9;have kf:=eW yL 9;have AP:=aD fM;clear dF nA fA a6 t6 a5 yL fM;rw[zaY] at AP
 go_wp2_with fail
 refine wp_CC4 w4 w5 hb g1 (d.r.recs.length+1) c1 v4.sR c (i:Int) d.r.clk rfl rfl rfl rfl k9 Fb aC AP.o zub kf rfl ?_;rw[Go.Mt.zO,zwy];simp only[Go.Mt.wV,dY,dX,fCC4,lCC4,En,Es];clear k9 Fb AP zub kf;exact bodyPost_end (v:=.tuple #[]) (by simp[results,go_sem]<;>rfl) rfl ⟨rfl,_,A6.o,T6.o,E4.o⟩
variable {j:Nat}
theorem bG.recAt (h:bG w lo hb v d)(hR:v.sR=.slice (some ⟨g,0,none⟩) d.r.recs.length cR)(hx:d.r.recs[i]? =some x){u:aF}(hj:j<7)(hu:x.cells[j]? =some u):
 w.cell? ⟨g,i*7+j,none⟩=some u/\w.frozen? ⟨g,i*7+j,none⟩=false:=by
 have hr:=h.R;rw[hR] at hr;refine⟨?_,hr.frozenAt _⟩;have hi:=(l8.1 hx).1;obtain⟨b,off,e,h1,h2,h3,h4⟩:=(Be hr aH).cells hi;injection e with e;injection e with e1 e2;subst e1 e2;have:=h4 j u (by
  have g:(recs d.r.recs)[i*7+j]? =(d.r.recs[i]?).bind λx=>x.cells[j]? :=Ox bV.cells (s:=7) (λ_=>rfl) d.r.recs i j hj;rw[g,hx];exact hu)
 simpa using this
theorem zmk (h:bG w lo hb v d){e:ByteArray}{gR:Nat}(hx:d.r.recs[i]? =some x)(hO:lH c v.pO=some (.chan (some g)))(hC:(pZ g v.pC).isSome=true)(hM:lH c v.pM=some (.int .i64 (i:Int)))
 (hR:v.sR=.slice (some ⟨gR,0,none⟩) d.r.recs.length cR):
 fJ aK 116 #[.pointer (some ⟨hb,0,none⟩),.int .i64 c,.string e] w λen w'=>en=.returned (.tuple #[])/\∃v',bG w' lo hb v' {d with r:={d.r with recs:=d.r.recs.modify i λz=>{z with t:=d.r.clk,e:=e}}}/\bP hb v w v' w'/\
  v'.pC=zB g v.pC/\v'.pO=yR c v.pO/\v'.pM=v.pM/\v'.sR=v.sR/\Dl v v':=by
 have k4:w.cell? ⟨hb,4,none⟩=some (.map (some v.mC)):=aI h.blk 4;have k5:w.cell? ⟨hb,5,none⟩=some (.map (some v.mO)):=aI h.blk 5;have xS:(Ac 67 (.map (some v.mO)) (.int .i64 c) false).run aK w.drew=.ok (.chan (some g)) w.drew:=by
  have:=zaI S3 Lg (zbr w.drew) (h.drew.O) (c:=c) false;rw[hO] at this;exact this
 obtain⟨o1,tH,pJ⟩:=zy5 (kt:=84) zt3 Se h.drew.C hC;obtain⟨a1,t1⟩:=h.drew.mapC pJ;have A1:=aD a1;have T1:=aD (⟨t1.size,t1.block,t1.moved⟩:bP hb v w _ _);have HX:=aD hx;have HM:=aD hM;have HR:=aD hR;have HO:=aD hO;have DL:=aD tH;have LK:=aD xS;clear tH xS pJ a1 t1 hx hM hR hO h hC
 go_enter Tryz.func116,Tryz.ntmps116
 go_wp2_with fail
 refine wp_CL0 w hb v.mC v.mO g o1 c rfl rfl rfl k4 k5 LK.o DL.o rfl ?_;rw[Go.Mt.zO,zww];simp only[Go.Mt.wV,dY,dX,fCL0,lCL0,En,Es];obtain⟨w1,eD⟩:=aT ({w.drew with heap:=w.drew.heap.setIfInBounds v.mC o1}:aE);obtain⟨v1,qF⟩:=aT ({v with pC:=zB g v.pC}:fH);rw[<-eD,<-qF] at A1 T1;rw[<-eD];have E1:=aD (show v1.pC=zB g v.pC/\v1.pO=v.pO/\v1.pM=v.pM/\v1.sR=v.sR/\Dl v v1 by rw[qF];exact⟨rfl,rfl,rfl,rfl,Dl.rf v⟩);clear eD qF k4 k5 DL LK;have k5:w1.cell? ⟨hb,5,none⟩=some (.map (some v1.mO)):=aI A1.o.blk 5;have Xq:=aD A1.o.O;have zsv:=aD (show(lH c v1.pO).isSome=true by rw[E1.o.2.1,HO.o];rfl)
 go_upto_region 2 with(refine zCn _ rfl (.tmp 20) (.tmp 21) 67 3 rfl 84 S3 Lg v1.mO c v1.pO rfl rfl Xq.o zsv.o ?_;intro w2 o2 eZ zan;have Ub:=aD eZ;have Rm:=aD zan;clear eZ zan)
 have o8:=Rm.o;rw[Ub.o] at o8;obtain⟨a2,t2⟩:=A1.o.mapO o8;rw[<-Ub.o] at a2 t2;obtain⟨v2,Bt⟩:=aT ({v1 with pO:=yR c v1.pO}:fH);rw[<-Bt] at a2 t2;have A2:=aD a2;have T2:=aD (T1.o.trans t2);have E2:=aD (show v2.pC=zB g v.pC/\v2.pO=yR c v.pO/\v2.pM=v.pM/\v2.sR=v.sR/\Dl v v2 by rw[Bt];exact⟨E1.o.1,by show yR c v1.pO=_;rw[E1.o.2.1],E1.o.2.2⟩);clear Bt o8 Rm Ub Xq zsv a2 t2 k5 A1 T1 E1;have jW:=aD (E2.o.2.2.2.1.trans HR.o);have zG6:=aD (show lH c v2.pM=some (.int .i64 (i:Int)) by rw[E2.o.2.2.1];exact HM.o)
 go_upto_region 3 with(go_at_call 115;refine(zfa A2.o jW.o HX.o zG6.o).mono ?_;rintro en w3 ⟨rfl,jB⟩;have Rh:=aD jB;clear jB)
 have A3:=aD (show bG w3 lo hb v2 d by rw[Rh.o];exact A2.o.drew);have T3:=aD (show bP hb v w v2 w3 by rw[Rh.o];exact T2.o.same rfl);clear Rh A2 T2;have Fb:w3.cell? ⟨hb,11,none⟩=some (.int .i64 d.r.clk):=aI A3.o.blk 11;obtain⟨c5,f5⟩:=A3.o.recAt jW.o HX.o (j:=5) (u:=.int .i64 x.t) aH rfl;obtain⟨a4,t4⟩:=A3.o.setR (λz=>{z with t:=d.r.clk}) jW.o HX.o (j:=5) (u:=.int .i64 d.r.clk) aH ztr rfl;have A4:=aD a4;have T4:=aD (T3.o.trans t4);clear a4 t4
 go_upto_region 4 with fail
 obtain⟨w4,lW⟩:=aT (w3.setCell ⟨gR,i*7+5,none⟩ (.int .i64 d.r.clk));rw[<-lW] at A4 T4⊢;clear lW c5 f5 Fb;have zaZ:=aD (show(d.r.recs.modify i λz=>{z with t:=d.r.clk})[i]? =some {x with t:=d.r.clk} from zeV HX.o);have zrW:=aD (show v2.sR=.slice (some ⟨gR,0,none⟩) (d.r.recs.modify i λz=>{z with t:=d.r.clk}).length cR by rw[Lj];exact jW.o);obtain⟨c6,f6⟩:=A4.o.recAt zrW.o zaZ.o (j:=6) (u:=.string x.e) aH rfl;obtain⟨a5,t5⟩:=A4.o.setR (λz=>{z with e:=e}) zrW.o zaZ.o (j:=6) (u:=.string e) aH zqk rfl;simp only[zgI] at a5;have A5:=aD a5;have T5:=aD (T4.o.trans t5);clear a5 t5
 go_wp2_with fail
 exact bodyPost_end (v:=.tuple #[]) (results_none rfl _ _ _) rfl ⟨rfl,_,A5.o,T5.o,E2.o.1,E2.o.2.1,E2.o.2.2.1,E2.o.2.2.2.1,E2.o.2.2.2.2⟩
section
variable {P:bT}{w w':aE}
variable {elem t:aN}{i:TypeInfo}{cur:Array aF}
theorem zfm {dT sT ty:aN}{g o zm3 zGJ:Nat}{a:bC}{zdk zzu:Nat}{cs:List aF}(hu:P.underlying dT=some (.slice elem))(hi:P.info? elem=some i)
 (hg:w.heap[g]? =some (.cells cur t (0,0))) (hn:cs.length=Nat.min zdk zm3*i.size) (Rr:∀j v,cs[j]? =some v->w.cell? (a.add j)=some v) (Ir:o+cs.length<=cur.size) (h1:∀v∈cs,v.oneCell'=true):
 (Ep #[dT,sT] ty #[.slice (some ⟨g,o,none⟩) zm3 zGJ,.slice (some a) zdk zzu]).run P w=.ok (goInt (Nat.min zdk zm3)) (w.setRow g (cur.toList.take o++cs++cur.toList.drop (o+cs.length)).toArray):=by
 have hl:=run_loadCells_list (P:=P) w a cs Rr;have aY:=zvR P g o t cs 0 cur w hg (by simpa using Ir) h1;simp[Ep,xM hu,Builtin.lenOf,Builtin.firstCells,sizeOf,typeInfo,hi,<-hn,hl,aY]
theorem zjY {dT ty:aN}{z:aF}{g o n c:Nat}(hu:P.underlying dT=some (.slice elem))(hi:P.info? elem=some i)(hz:i.zero=some z)
 (hg:w.heap[g]? =some (.cells cur t (0,0))) (hn:n≠0) (Ir:o+(qM z.cells n).size<=cur.size) (h1:∀v∈(qM z.cells n).toList,v.oneCell'=true):
 (Sc #[dT] ty #[.slice (some ⟨g,o,none⟩) n c]).run P w=.ok (.tuple #[]) (w.setRow g (cur.toList.take o++(qM z.cells n).toList++cur.toList.drop (o+(qM z.cells n).size)).toArray):=by
 have aY:=zvR P g o t (qM z.cells n).toList 0 cur w hg (by simpa using Ir) h1;simp only[Rp,Ef] at aY
 cases n with
 |zero=>exact absurd rfl hn
 |succ n=>simp[Sc,xM hu,zeroValue,typeInfo,hi,hz,aY]
variable {o:aX}{a:Act}{ops:Array aX}
theorem zhO {K:Act->aE->Prop}{Q:oP->Act->aE->Prop}{EE:Prop}(Fy:o.guard=none)(s x:cJ)(t tn:aN)(ho:o.op=.call {callee:=.builtin .append,args:=#[s,x],argTypes:=#[t,tn]})(vs vx v':aF)(hs:a.eval s=vs)(hx:a.eval x=vx)
 (hr:∀ty,(xG #[t,tn] ty #[vs,vx]).run P w=.ok v' w') (h:K (a.put o.dst v') w'):if cO o (yielded ops a.tmps)=true then C5 P o a w K Q else EE:=by
 rw[if_pos (by simp[cO,Fy])];unfold C5 aS;simp only[ho,resolve,invoke,builtin,F7,J1,E9,tJ,jD,sC,hs,hx,hr];exact h
theorem zbh {rest:List aX}{Q:oP->Act->aE->Prop}(Fy:o.guard=none)(s:cJ)(t:aN)(ho:o.op=.call {callee:=.builtin .clear,args:=#[s],argTypes:=#[t]})(vs:aF)(hs:a.eval s=vs)
 (hr:∀ty,(Sc #[t] ty #[vs]).run P w=.ok (.tuple #[]) w') (h:wpList P ops Q rest (a.put o.dst (.tuple #[])) w'):wpList P ops Q (o::rest) a w:=by
 refine Tu Fy λK hK=>?_;unfold C5 aS;simp only[ho,resolve,invoke,builtin,F7,J1,E9,tJ,jD,sC,hs,hr];exact hK _ _ h
end
def zbi:(aK.info? 3).map (λi=>(i.zero,i.size,i.bytes))=some (some (.int .i64 0),1,8):=aP
def zdv:(aK.info? 149).map (λi=>(i.zero,i.size,i.bytes))=some (some (.agg #[.int .i64 0,.int .i64 0]),2,16):=aP
theorem zcg (cs:Array aF):w.grownBy (w.setRow g cs) (some g):=⟨rfl,rfl,rfl,aQ,λk _ hk=>setRow_other w g k _ (λe=>hk (by rw[e]))⟩
variable {w':aE}{r:Option Nat}
def Uc {Fg:aE}(h:w.grownBy w' r)(k:w'.grownBy Fg r):w.grownBy Fg r:=⟨k.os.trans h.os,k.tape.trans h.tape,k.output.trans h.output,eG h.size k.size,λb hb hn=>(k.block b (j5 hb h.size) hn).trans (h.block b hb hn)⟩
def zrO :w.grownBy w.drew r:=⟨rfl,rfl,rfl,bL _,λ_ _ _=>rfl⟩
variable {c n:Nat}
theorem ztP (h:w.ownsRow lo 3 1 (.slice (some ⟨g,0,none⟩) n c) n xs)(Ji:∀u∈xs,u.oneCell'=true)(aU:i<j)(hj:j<=n):
 fJ aK 114 #[.slice (some ⟨g,0,none⟩) n c,.int .i64 (i:Int),.int .i64 (j:Int)] w λe w'=>e=.returned (.slice (some ⟨g,0,none⟩) (n-(j-i)) c)/\w'.ownsRow lo 3 1 (.slice (some ⟨g,0,none⟩) (n-(j-i)) c) (n-(j-i)) (xs.take i++xs.drop j)/\w.grownBy w' (some g):=by
 obtain⟨hlen,h|⟨g',cap,cur,hv,eF,hg,Vj,pJ,gJ,l7⟩⟩:=h
 .exact absurd h.1 aQ
 injection hv with e1 e2 e3;injection e1 with e1;injection e1 with e1;subst e1 e3;clear e2;obtain⟨i0,fN,gA,dS,jQ⟩:=C6 zbi;have nE:cur.toList.length=c*1:=by simpa using gJ
 have tH:(xs.drop (j*1)).length=(n-j)*1:=by rw[x5,hlen];omega
 obtain⟨A,hA,Rr⟩:∃A:bC,(if c=j then(some (⟨g,0,none⟩:bC)) else some ⟨g,j*1,none⟩)=some A/\(∀t u,(xs.drop (j*1))[t]? =some u->w.drew.cell? (A.add t)=some u):=by
  have cell:∀k u,xs[k]? =some u->w.drew.cell? ⟨g,k,none⟩=some u:=λk u hk=>by
   have:w.cell? ⟨g,k,none⟩=cur[k]? :=aI hg k;have qZ:cur.toList[k]? =some u:=by
    rw[<-l7,Oe] at hk;split at hk
    .exact hk
    .cases hk
   rw[C3] at qZ;exact this.trans qZ
  by_cases hc:c=j
  .refine⟨⟨g,0,none⟩,by simp[hc],λt u hu=>?_⟩
   have h0:(xs.drop (j*1)).length=0:=by rw[tH];omega
   rw[zvB.1 h0] at hu;simp at hu
  .refine⟨⟨g,j*1,none⟩,by simp[hc],λt u hu=>?_⟩
   rw[Xg] at hu;rw[Ml];exact cell _ u hu
 have K6:=λty=>zsP (P:=aK) w.drew 38 ty 3 i0 Wv fN g i c cur hg A (n-j) (c-j) (xs.drop (j*1)) (by rw[dS];exact tH) Rr (λu hu=>Ji u (zdl hu)) aC (by rw[dS,tH,gJ];omega);obtain⟨yD,wZ⟩:=aT ((cur.toList.take (i*i0.size)++xs.drop (j*1)++cur.toList.drop (i*i0.size+(xs.drop (j*1)).length)).toArray);rw[<-wZ] at K6;obtain⟨W1,cV⟩:=aT (w.drew.setRow g yD);rw[<-cV] at K6;have rF:W1.heap[g]? =some (.cells yD 3 (0,0)):=by rw[cV];exact Mk w.drew g cur yD 3 (0,0) hg
 have yQ:yD.size=c*1:=by
  rw[wZ];simp only[Ev,jZ,qO,x5,nE,tH,hlen,dS];have:(i+(n-j))*1<=c*1:=Cf _ aC;omega
 have hzs:(qM (.int .i64 0:aF).cells (n-(i+(n-j)))).size=(n-(i+(n-j)))*1:=Yw _ _;have Q1:=λty=>zjY (P:=aK) (w:=W1) (dT:=38) (ty:=ty) (c:=c-(i+(n-j))) (n:=n-(i+(n-j))) (o:=(i+(n-j))*1) Wv fN gA rF aC (by rw[hzs,yQ];omega) (λu hu=>by
  obtain⟨k,hk,rfl⟩:=P8.1 hu;simp only[qM,Vx,zjo,ziK,znw];simp[Nat.mod_one];rfl)
 obtain⟨zA,o8⟩:=aT ((yD.toList.take ((i+(n-j))*1)++(qM (.int .i64 0:aF).cells (n-(i+(n-j)))).toList++yD.toList.drop ((i+(n-j))*1+(qM (.int .i64 0:aF).cells (n-(i+(n-j)))).size)).toArray);rw[<-o8] at Q1
 try simp only[zsq] at K6 Q1
 have H1:=aD K6;have H2:=aD Q1;have HG:=aD (show w.grownBy (W1.setRow g zA) (some g) from Uc (Uc zrO (cV▸zcg yD)) (zcg zA));have HO:=aD (show(W1.setRow g zA).ownsRow lo 3 1 (.slice (some ⟨g,0,none⟩) (n-(j-i)) c) (n-(j-i)) (xs.take (i*1)++xs.drop (j*1)) by
  have Cg:n-(j-i)=i+(n-j):=aC;have Ai:zA.size=c*1:=by
   rw[o8];simp only[Ev,jZ,qO,x5,Ef,yQ,hzs];have:(i+(n-j))*1+(n-(i+(n-j)))*1=n*1:=by rw[<-Xu];congr 1;omega
   have:n*1<=c*1:=Cf _ Vj;omega
  refine⟨by rw[jZ,qO,tH,hlen];have:=Xu i (n-j) 1;have:i*1<=n*1:=Cf _ aC;rw[Cg];omega,.inr ⟨g,c,zA,rfl,eF,Mk W1 g yD zA 3 (0,0) rF,aC,pJ,Ai,?_⟩⟩;have e1:cur.toList.take (i*1)=xs.take (i*1):=by
   rw[<-l7,Pw];congr 1;have:i*1<=n*1:=Cf _ aC;omega
  have l1:(xs.take (i*1)).length=i*1:=by
   rw[qO,hlen];have:i*1<=n*1:=Cf _ aC;omega
  rw[o8,show∀l:List aF,l.toArray.toList=l from λ_=>rfl,Cg];have l2:(yD.toList.take ((i+(n-j))*1)).length=(i+(n-j))*1:=by
   rw[qO,Ef,yQ];have:(i+(n-j))*1<=c*1:=Cf _ aC;omega
  rw[Ix,Ff (by rw[l2];exact bL _),Pw,zis,wZ,show∀l:List aF,l.toArray.toList=l from λ_=>rfl,dS,e1];rw[Ff zv9];exact zV zv9)
 replace HO:=aD (by have:=HO.o;simpa only[zsq] using this);have uP:i<=c:=aC;have Nv:j<=c:=aC;have aV:¬((i:Int)=(j:Int)):=aC;clear K6 Q1 wZ o8 rF yQ hzs cV l7 gJ pJ hg eF hlen tH nE Ji Rr;by_cases zg0:c=j
 .subst zg0
  have qI:n-c=0:=aC;have At:=H1.o;have Qh:=H2.o;simp only[qI,Rp] at At Qh;replace H1:=aD At;replace H2:=aD Qh;clear At Qh
  go_enter ztb,zqM
  go_wp2_with fail
  go_region_law (refine zhO rfl (.tmp 22) (.tmp 25) 38 38 rfl _ _ _ zez zgi H1.o ?_)
  go_wp2_with (refine zbh rfl (.tmp 31) 38 rfl _ rfl H2.o ?_)
  all_goals
   go_ret;exact⟨by rw[show n-(c-i)=i by omega];rfl,HO.o,HG.o⟩
 .skip
  go_enter ztb,zqM
  go_wp2_with fail
  go_region_law (refine zhO rfl (.tmp 22) (.tmp 25) 38 38 rfl _ _ _ zez zgi H1.o ?_)
  go_wp2_with (refine zbh rfl (.tmp 31) 38 rfl _ rfl H2.o ?_)
  all_goals
   go_ret;exact⟨by rw[show n-(j-i)=i+(n-j) by omega];rfl,HO.o,HG.o⟩
theorem zFz (h:w.ownsRow lo 149 2 (.slice (some ⟨g,0,none⟩) n c) n xs)(Ji:∀u∈xs,u.oneCell'=true)(aU:i<j)(hj:j<=n):
 fJ aK 119 #[.slice (some ⟨g,0,none⟩) n c,.int .i64 (i:Int),.int .i64 (j:Int)] w λe w'=>e=.returned (.slice (some ⟨g,0,none⟩) (n-(j-i)) c)/\w'.ownsRow lo 149 2 (.slice (some ⟨g,0,none⟩) (n-(j-i)) c) (n-(j-i)) (xs.take (i*2)++xs.drop (j*2))/\w.grownBy w' (some g):=by
 obtain⟨hlen,h|⟨g',cap,cur,hv,eF,hg,Vj,pJ,gJ,l7⟩⟩:=h
 .exact absurd h.1 aQ
 injection hv with e1 e2 e3;injection e1 with e1;injection e1 with e1;subst e1 e3;clear e2;obtain⟨i0,fN,gA,dS,jQ⟩:=C6 zdv;have nE:cur.toList.length=c*2:=by simpa using gJ
 have tH:(xs.drop (j*2)).length=(n-j)*2:=by rw[x5,hlen];omega
 obtain⟨A,hA,Rr⟩:∃A:bC,(if c=j then(some (⟨g,0,none⟩:bC)) else some ⟨g,j*2,none⟩)=some A/\(∀t u,(xs.drop (j*2))[t]? =some u->w.drew.cell? (A.add t)=some u):=by
  have cell:∀k u,xs[k]? =some u->w.drew.cell? ⟨g,k,none⟩=some u:=λk u hk=>by
   have:w.cell? ⟨g,k,none⟩=cur[k]? :=aI hg k;have qZ:cur.toList[k]? =some u:=by
    rw[<-l7,Oe] at hk;split at hk
    .exact hk
    .cases hk
   rw[C3] at qZ;exact this.trans qZ
  by_cases hc:c=j
  .refine⟨⟨g,0,none⟩,by simp[hc],λt u hu=>?_⟩
   have h0:(xs.drop (j*2)).length=0:=by rw[tH];omega
   rw[zvB.1 h0] at hu;simp at hu
  .refine⟨⟨g,j*2,none⟩,by simp[hc],λt u hu=>?_⟩
   rw[Xg] at hu;rw[Ml];exact cell _ u hu
 have K6:=λty=>zsP (P:=aK) w.drew 69 ty 149 i0 zmT fN g i c cur hg A (n-j) (c-j) (xs.drop (j*2)) (by rw[dS];exact tH) Rr (λu hu=>Ji u (zdl hu)) aC (by rw[dS,tH,gJ];omega);obtain⟨yD,wZ⟩:=aT ((cur.toList.take (i*i0.size)++xs.drop (j*2)++cur.toList.drop (i*i0.size+(xs.drop (j*2)).length)).toArray);rw[<-wZ] at K6;obtain⟨W1,cV⟩:=aT (w.drew.setRow g yD);rw[<-cV] at K6;have rF:W1.heap[g]? =some (.cells yD 149 (0,0)):=by rw[cV];exact Mk w.drew g cur yD 149 (0,0) hg
 have yQ:yD.size=c*2:=by
  rw[wZ];simp only[Ev,jZ,qO,x5,nE,tH,hlen,dS];have:(i+(n-j))*2<=c*2:=Cf _ aC;omega
 have hzs:(qM (.agg #[.int .i64 0,.int .i64 0]:aF).cells (n-(i+(n-j)))).size=(n-(i+(n-j)))*2:=Yw _ _;have Q1:=λty=>zjY (P:=aK) (w:=W1) (dT:=69) (ty:=ty) (c:=c-(i+(n-j))) (n:=n-(i+(n-j))) (o:=(i+(n-j))*2) zmT fN gA rF aC (by rw[hzs,yQ];omega) (λu hu=>by
  obtain⟨k,hk,rfl⟩:=P8.1 hu;simp only[qM,Vx,zjo,ziK,znw];rcases zyJ k with hk|hk<;>simp[hk]<;>rfl)
 obtain⟨zA,o8⟩:=aT ((yD.toList.take ((i+(n-j))*2)++(qM (.agg #[.int .i64 0,.int .i64 0]:aF).cells (n-(i+(n-j)))).toList++yD.toList.drop ((i+(n-j))*2+(qM (.agg #[.int .i64 0,.int .i64 0]:aF).cells (n-(i+(n-j)))).size)).toArray);rw[<-o8] at Q1;have H1:=aD K6;have H2:=aD Q1;have HG:=aD (show w.grownBy (W1.setRow g zA) (some g) from Uc (Uc zrO (cV▸zcg yD)) (zcg zA));have HO:=aD (show(W1.setRow g zA).ownsRow lo 149 2 (.slice (some ⟨g,0,none⟩) (n-(j-i)) c) (n-(j-i)) (xs.take (i*2)++xs.drop (j*2)) by
  have Cg:n-(j-i)=i+(n-j):=aC;have Ai:zA.size=c*2:=by
   rw[o8];simp only[Ev,jZ,qO,x5,Ef,yQ,hzs];have:(i+(n-j))*2+(n-(i+(n-j)))*2=n*2:=by rw[<-Xu];congr 1;omega
   have:n*2<=c*2:=Cf _ Vj;omega
  refine⟨by rw[jZ,qO,tH,hlen];have:=Xu i (n-j) 2;have:i*2<=n*2:=Cf _ aC;rw[Cg];omega,.inr ⟨g,c,zA,rfl,eF,Mk W1 g yD zA 149 (0,0) rF,aC,pJ,Ai,?_⟩⟩;have e1:cur.toList.take (i*2)=xs.take (i*2):=by
   rw[<-l7,Pw];congr 1;have:i*2<=n*2:=Cf _ aC;omega
  have l1:(xs.take (i*2)).length=i*2:=by
   rw[qO,hlen];have:i*2<=n*2:=Cf _ aC;omega
  rw[o8,show∀l:List aF,l.toArray.toList=l from λ_=>rfl,Cg];have l2:(yD.toList.take ((i+(n-j))*2)).length=(i+(n-j))*2:=by
   rw[qO,Ef,yQ];have:(i+(n-j))*2<=c*2:=Cf _ aC;omega
  rw[Ix,Ff (by rw[l2];exact bL _),Pw,zis,wZ,show∀l:List aF,l.toArray.toList=l from λ_=>rfl,dS,e1];rw[Ff zsW];exact zV zsW)
 have uP:i<=c:=aC;have Nv:j<=c:=aC;have aV:¬((i:Int)=(j:Int)):=aC;clear K6 Q1 wZ o8 rF yQ hzs cV l7 gJ pJ hg eF hlen tH nE Ji Rr;by_cases zg0:c=j
 .subst zg0
  have qI:n-c=0:=aC;have At:=H1.o;have Qh:=H2.o;simp only[qI,Rp] at At Qh;replace H1:=aD At;replace H2:=aD Qh;clear At Qh
  go_enter zux,zsT
  go_wp2_with fail
  go_region_law (refine zhO rfl (.tmp 22) (.tmp 25) 69 69 rfl _ _ _ zez zgi H1.o ?_)
  go_wp2_with (refine zbh rfl (.tmp 31) 69 rfl _ rfl H2.o ?_)
  all_goals
   go_ret;exact⟨by rw[show n-(c-i)=i by omega];rfl,HO.o,HG.o⟩
 .skip
  go_enter zux,zsT
  go_wp2_with fail
  go_region_law (refine zhO rfl (.tmp 22) (.tmp 25) 69 69 rfl _ _ _ zez zgi H1.o ?_)
  go_wp2_with (refine zbh rfl (.tmp 31) 69 rfl _ rfl H2.o ?_)
  all_goals
   go_ret;exact⟨by rw[show n-(j-i)=i+(n-j) by omega];rfl,HO.o,HG.o⟩
theorem zyy (lo hi n c:Nat)(A:Option bC)(xs:List Int)(q:Int)(w:aE)(h:cE w lo hi 1 A n c (jY xs))(hn:n<=1048576):
 fJ aK 113 #[.slice A n c,.int .i64 q] w λe w'=>e=.returned (.int .i64 (H8 (xs.findIdx? (·==q))))/\w'=w:=by
 have hl:=aD h.length
 go_enter Tryz.func113,Tryz.ntmps113
 go_wp2
 go_loop [8] (λi=>∃k:Nat,k<=n/\i=.int .i64 k/\∀j,j<k->∀b,xs[j]? =some b->(b==q)=false) (λi=>n-(intOf i).toNat)
 case atStart=>grind
 case round=>
  obtain⟨k,hk,rfl,gJ⟩:=hrel;have HC:=aD gJ;clear gJ;by_cases aU:k<n
  .obtain⟨b,off,x,hA,_,_,_,fG,hv⟩:=h.cellAt aU
   subst hA;have HX:=aD fG;clear fG h;have i0:(0:Int)<=(k:Int):=aC;have i1:(k:Int)<(n:Int):=aC;by_cases hq:q=x
   .subst hq
    go_wp2;go_ret;exact⟨G3 (by rw[zaS HX.o aQ HC.o];rfl),rfl⟩
   .have Ni:(q==x)=false:=by simpa using hq
    go_wp2
    go_round
    case rel=>exact⟨k+1,aC,qJ,S4 HC.o HX.o tL⟩
    case measure=>simp[intOf];omega
  .have e:k=n:=aC
   subst e;clear h;go_wp2;go_ret;exact⟨G3 (by rw[zkG HC.o zgq];rfl),rfl⟩
theorem posI_ge (o:Option Nat):decide (0<=H8 o)=o.isSome:=by
 cases o with
 |none=>rfl
 |some i=>simp[H8]
theorem zyX (lo hi n c:Nat)(A:Option bC)(xs:List Int)(q:Int)(w:aE)(h:cE w lo hi 1 A n c (jY xs))(hn:n<=1048576):
 fJ aK 108 #[.slice A n c,.int .i64 q] w λe w'=>e=.returned (.bool (xs.findIdx? (·==q)).isSome)/\w'=w:=by
 have HS:=aD h;clear h
 go_enter Tryz.func108,Tryz.ntmps108
 go_wp2_with (go_at_call 113;refine(zyy lo hi n c A xs q w HS.o hn).mono ?_;rintro e w' ⟨rfl,hw⟩;obtain rfl:=hw)
 go_ret;exact⟨L6 (posI_ge _),rfl⟩
theorem zdX (x:bN)(gx:Nat)(c:Int)(w:aE)(h:w.heap[gx]? =some (.cells #[.int .i64 c] 3)):
 fJ aK 118 #[.agg #[.int .i64 x.c,.int .i64 x.p],.pointer (some ⟨gx,0,none⟩)] w λe w'=>e=.returned (.bool (x.c==c))/\bY w.heap.size w w':=by
 have aU:=iR h;have k:=aD (dH h (.cells #[.int .i64 x.c,.int .i64 x.p] 149));have k0:=aI k.o 0
 go_enter Tryz.func118,Tryz.ntmps118
 go_wp2;go_ret;exact⟨rfl,(fK _ _).alloc (bL _) _⟩
variable {xs:List bN}
theorem zfp {hi:Nat}{A:Option bC}(h:cE w lo hi 2 A n c (bH xs)){k:Nat}(hk:k<n):∃b off x,A=some ⟨b,off,none⟩/\b<w.heap.size/\xs[k]? =some x/\w.cell? ⟨b,off+k*2,none⟩=some (.int .i64 x.c)/\w.cell? ⟨b,off+k*2+1,none⟩=some (.int .i64 x.p):=by
 obtain⟨b,off,x,e,_,_,h3,h4,h5,h6⟩:=h.callsAt hk;exact⟨b,off,x,e,h3,h4,h5,h6⟩
theorem zpT (lo hi n c:Nat)(A:Option bC)(xs:List bN)(gx:Nat)(q:Int)(w:aE)(h:cE w lo hi 2 A n c (bH xs))(hn:n<=1048576)(hg:w.heap[gx]? =some (.cells #[.int .i64 q] 3)):
 fJ aK 124 #[.slice A n c,.func (.func 118) #[] #[.pointer (some ⟨gx,0,none⟩)]] w λe w'=>e=.returned (.int .i64 (H8 (wA xs q)))/\bY w.heap.size w w':=by
 have hl:=aD h.callsLen;have HS:=aD h;have HG:=aD hg
 go_enter Tryz.func124,Tryz.ntmps124
 go_wp2
 go_loopw [8] (λi wr=>∃k:Nat,k<=n/\i=.int .i64 k/\bY w.heap.size w wr/\∀j,j<k->∀b,xs[j]? =some b->(b.c==q)=false) (λi _=>n-(intOf i).toNat)
 case atStart=>exact⟨0,mK _,rfl,fK _ _,λj hj=>absurd hj aC⟩
 case round=>
  obtain⟨k,hk,rfl,hb,gJ⟩:=hrel;have HC:=aD gJ;have HB:=aD hb;by_cases aU:k<n
  .obtain⟨b,off,x,hA,lQ,fG,gU,qF⟩:=zfp (HS.o.below HB.o) aU
   have vE:=aD ((HB.o.block gx (iR HG.o)).trans HG.o);have HX:=aD fG;have HA:=aD hA;subst hA;have i0:(0:Int)<=(k:Int):=aC;have i1:(k:Int)<(n:Int):=aC;cases hq:(x.c==q)
   .go_wp2_with (go_at_call 118;refine(zdX x gx q _ vE.o).mono ?_;rintro e w2 ⟨rfl,pU⟩;rw[hq];have iX:=aD pU)
    go_round
    case rel=>exact⟨k+1,aC,qJ,ziX HB.o iX.o,S4 HC.o HX.o hq⟩
    case measure=>simp[intOf];omega
   .go_wp2_with (go_at_call 118;refine(zdX x gx q _ vE.o).mono ?_;rintro e w2 ⟨rfl,pU⟩;rw[hq];have iX:=aD pU)
    go_ret;exact⟨G3 (by unfold wA;rw[zaS HX.o hq HC.o];rfl),ziX HB.o iX.o⟩
  .have e:k=n:=aC
   subst e;go_wp2;go_ret;exact⟨G3 zp1,HB.o⟩
variable {x:bN}
theorem zDH (hi:i<xs.length):((bH xs).set (i*2) (.int .i64 x.c)).set (i*2+1) (.int .i64 x.p)=bH (xs.set i x):=by
 apply List.ext_getElem?;intro q;obtain⟨a,b,rfl,hb⟩:∃a b,q=a*2+b/\b<2:=⟨q/2,q%2,aC,aC⟩;have g:∀(l:List bN),(bH l)[a*2+b]? =(l[a]?).bind λx=>x.cells[b]? :=λl=>Ox bN.cells (s:=2) (λ_=>rfl) l a b hb;have hlen:(bH xs).length=xs.length*2:=J2 bN.cells (s:=2) (λ_=>rfl) xs;rw[zdu,zdu,zjk,g,g,zdu];by_cases e:i=a
 .subst e
  have b9:b=0\/b=1:=aC;rcases b9 with rfl|rfl
  .rw[if_neg aC,if_pos aC,if_pos aC,if_pos rfl,if_pos hi];rfl
  .rw[if_pos rfl,if_pos aC,if_pos rfl,if_pos hi];rfl
 .rw[if_neg aC,if_neg aC,if_neg e]
variable {ys:List bN}{a:Nat}
theorem arr_set {rest:List aF}(ha:a<ys.length):((bH ys++rest).toArray.setIfInBounds (a*2) (.int .i64 x.c)).setIfInBounds (a*2+1) (.int .i64 x.p)=(bH (ys.set a x)++rest).toArray:=by
 have nE:(bH ys).length=ys.length*2:=J2 bN.cells (s:=2) (λ_=>rfl) ys;rw[gF,gF,zuI _ _ aC,zuI _ _ (by rw[zjk];omega),zDH ha]
theorem zDb {q:bN->Bool}{b:Nat}(hlen:ys.length=xs.length)(qV:a<=b)(h1:ys.take a=(xs.take b).filter q)(h2:ys.drop b=xs.drop b)(hx:xs[b]? =some x):
 (q x=false->ys.take a=(xs.take (b+1)).filter q/\ys.drop (b+1)=xs.drop (b+1))/\
 (q x=true->(ys.set a x).take (a+1)=(xs.take (b+1)).filter q/\(ys.set a x).drop (b+1)=xs.drop (b+1)):=by
 have hb:=(l8.1 hx).1;have ht:xs.take (b+1)=xs.take b++[x]:=by rw[Lr,hx];rfl
 have hd:ys.drop (b+1)=xs.drop (b+1):=by
  rw[<-zt6,<-zt6,h2]
 refine⟨λhq=>⟨by rw[ht,Pp,<-h1];simp[hq],hd⟩,λhq=>⟨?_,?_⟩⟩
 .rw[ht,Pp,<-h1,Lr]
  have e1:(ys.set a x).take a=ys.take a:=by rw[List.take_set_of_le (bL _)]
  rw[e1,List.getElem?_set_self aC];simp[hq]
 .rw[List.drop_set,if_pos aC];exact hd
theorem zyP (h:w.ownsRow lo 149 2 (.slice (some ⟨g,0,none⟩) n c) n (bH xs))(hn:n<=1048576){gx:Nat}{q:Int}(vE:w.heap[gx]? =some (.cells #[.int .i64 q] 3)):
 fJ aK 117 #[.slice (some ⟨g,0,none⟩) n c,.func (.func 118) #[] #[.pointer (some ⟨gx,0,none⟩)]] w λe w'=>∃m,e=.returned (.slice (some ⟨g,0,none⟩) m c)/\m=(dZ xs q).length/\w'.ownsRow lo 149 2 (.slice (some ⟨g,0,none⟩) m c) m (bH (dZ xs q))/\w.grownBy w' (some g):=by
 have aV:gx≠g:=λe=>by
  subst e;obtain⟨_,h|⟨g',cap,cur,hv,eF,hg,_⟩⟩:=h
  .exact absurd h.1 aQ
  .injection hv with e1
   injection e1 with e1;injection e1 with e1;subst e1;rw[vE] at hg;injection hg with hg;injection hg with _ hg;exact absurd hg aH
 have hs:=Be h aH;have zkw:=hs.callsLen;have HI:=aD (zpT lo w.heap.size n c (some ⟨g,0,none⟩) xs gx q w hs hn vE);obtain⟨hlen,h|⟨g',cap,cur,hv,eF,hg,Vj,pJ,gJ,l7⟩⟩:=h
 .exact absurd h.1 aQ
 injection hv with e1 e2 e3;injection e1 with e1;injection e1 with e1;subst e1 e3;clear e2;obtain⟨rest,Um⟩:=aT (cur.toList.drop (n*2));have Sm:cur=(bH xs++rest).toArray:=by rw[Um,<-l7,zrU]
 have Mx:rest.length=c*2-n*2:=by rw[Um,x5];simp[gJ]
 have W9:=aD vE;have HG:=aD (show w.heap[g]? =some (.cells (bH xs++rest).toArray 149 (0,0)) by rw[hg,Sm])
 cases hf:wA xs q with
 |none=>
  have hw:dZ xs q=xs:=by
   unfold dZ;rw[zgs];intro x hx;have:=zvX (by rw[hf];rfl) x hx;simpa using this
  have HO:=aD (show w.ownsRow lo 149 2 (.slice (some ⟨g,0,none⟩) n c) n (bH xs) from⟨hlen,.inr ⟨g,c,cur,rfl,eF,hg,Vj,pJ,gJ,l7⟩⟩);rw[hw];rw[hf] at HI;clear Sm Um l7 hg gJ hlen vE hs
  go_enter zo8,zrV
  go_wp2_with (go_at_call 124;refine HI.o.mono ?_;rintro e w1 ⟨rfl,Iu⟩;simp only[H8];have gT:=aD Iu;clear Iu)
  go_ret;exact⟨n,rfl,by first|rfl|exact zkw.symm,zwa HO.o gT.o,⟨gT.o.os,gT.o.tape,gT.o.output,gT.o.size,λb hb _=>gT.o.block b hb⟩⟩
 |some p=>
  obtain⟨xp,Om,y3,zph⟩:∃x,xs[p]? =some x/\x.c=q/\∀j,j<p->∀y,xs[j]? =some y->y.c≠q:=by
   unfold wA at hf;obtain⟨h1,h2,h3⟩:=List.findIdx?_eq_some_iff_getElem.1 hf;refine⟨xs[p],nI h1,by simpa using h2,λj hj y hy=>?_⟩;have:=h3 j hj;obtain⟨k1,k2⟩:=l8.1 hy;rw[k2] at this;simpa using this
  have nG:=(l8.1 Om).1;have zvc:xs.take p=(xs.take (p+1)).filter (λx=>x.c !=q):=by
   have ht:xs.take (p+1)=xs.take p++[xp]:=by rw[Lr,Om];rfl
   have h1:(xs.take p).filter (λx=>x.c !=q)=xs.take p:=by
    rw[zgs];intro y hy;obtain⟨j,hj⟩:=Io.1 hy;rw[Oe] at hj;split at hj
    .next aU=>simpa using zph j aU y hj
    .cases hj
   rw[ht,Pp,h1];simp[y3]
  rw[hf] at HI;have Hk:=aD zvc;have Wp:p<n:=aC;obtain⟨i0,fN,gA,dS,jQ⟩:=C6 zdv;have zH3:=aD fN;clear Sm Um l7 hg gJ hlen vE hs zvc Om y3 zph fN
  go_enter zo8,zrV
  go_wp2_with (go_at_call 124;refine HI.o.mono ?_;rintro e w1 ⟨rfl,Iu⟩;simp only[H8];have gT:=aD Iu;clear Iu)
  go_loopw [5,6] (λi j wr=>∃(a b:Nat) (ys:List bN),i=.int .i64 (a:Int)/\j=.int .i64 (b:Int)/\a<b/\b<=n/\ys.length=n/\ys.take a=(xs.take b).filter (λx=>x.c !=q)/\ys.drop b=xs.drop b/\wr.heap[g]? =some (.cells (bH ys++rest).toArray 149 (0,0))/\w.grownBy wr (some g)) (λ_ j _=>n-(intOf j).toNat)
  case atStart=>
   refine⟨p,p+1,xs,rfl,qJ,aC,aC,zkw,Hk.o,rfl,(gT.o.block g (iR HG.o)).trans HG.o,⟨gT.o.os,gT.o.tape,gT.o.output,gT.o.size,λb hb _=>gT.o.block b hb⟩⟩
  case round=>
   obtain⟨a,b,ys,rfl,rfl,qV,zLv,Zx,h1,h2,rF,nA⟩:=hrel;have qY:=aD rF;have zdg:=aD nA;have zmq:=iR rF;clear rF nA;by_cases aU:b<n
   .obtain⟨x,hx⟩:∃x,xs[b]? =some x:=⟨xs[b]' aC,nI aC⟩
    have zFv:ys[b]? =some x:=by
     have:=congrArg (λl=>l[0]?) h2;simpa[Xg,hx] using this
    obtain⟨d1,d2⟩:=zDb (q:=λx=>x.c !=q) aC aC h1 h2 hx;have zjc:∀(k:Nat) (y:bN),ys[k]? =some y->wr.cell? ⟨g,k*2,none⟩=some (.int .i64 y.c)/\wr.cell? ⟨g,k*2+1,none⟩=some (.int .i64 y.p):=λk y hy=>by
     have hk:=(l8.1 hy).1;have nE:(bH ys).length=ys.length*2:=J2 bN.cells (s:=2) (λ_=>rfl) ys;have gg:∀b',b'<2->wr.cell? ⟨g,k*2+b',none⟩=y.cells[b']? :=λb' b9=>by
      rw[aI qY.o];rw[List.getElem?_toArray,List.getElem?_append_left aC];have:=Ox bN.cells (s:=2) (λ_=>rfl) ys k b' b9;unfold bH;rw[this,hy];rfl
     exact⟨gg 0 aH,gg 1 aH⟩
    obtain⟨c0,c1⟩:=zjc b x zFv;have i0:(0:Int)<=(b:Int):=aC;have i1:(b:Int)<(n:Int):=aC;have D1:=aD d1;have D2:=aD d2;have GC:=aD zjc;clear d1 d2 zjc;have zuT:=aD ((zdg.o.block gx (iR W9.o) zdY).trans W9.o);obtain⟨ya,zBW⟩:∃y,ys[a]? =some y:=⟨ys[a]' aC,nI aC⟩;have zuN:=aD zBW;have a0:(0:Int)<=(a:Int):=aC;have a1:(a:Int)<(n:Int):=aC;have zb5:g≠wr.heap.size:=aC;cases hq:(x.c==q)
    .go_wp2_with (go_at_call 118;refine(zdX x gx q _ (dH zuT.o _)).mono ?_;rintro e w2 ⟨rfl,pU⟩;rw[hq];have KG:=aD (mX pU (dH qY.o _)).1;have kz:=(mX pU (gV _ _)).1;have z0:=aI kz 0;have z1:=aI kz 1;have e0:=(Bg (a:=⟨g,a*2,none⟩) (KG.o.trans qY.o.symm)).trans (GC.o a ya zuN.o).1;have e1:=(Bg (a:=⟨g,a*2+1,none⟩) (KG.o.trans qY.o.symm)).trans (GC.o a ya zuN.o).2;have ff:=eW KG.o;have iX:=aD pU;clear pU kz)
     go_round
     case rel=>
      obtain⟨f1,f2⟩:=D2.o (by simpa using hq);refine⟨a+1,b+1,ys.set a x,qJ,qJ,aC,aC,by rw[zjk];exact Zx,f1,f2,?_,?_⟩
      .rw[oQ (oQ KG.o _),arr_set aC]
      .have hB:=iX.o
       refine Uc zdg.o ⟨hB.os,hB.tape,hB.output,?_,λk hk hn=>?_⟩
       .simp only[wR];have:=hB.size;simp at this;omega
       .have zrZ:k≠g:=λe=>hn (by rw[e])
        exact(dU _ _ _ k zrZ).trans ((dU _ _ _ k zrZ).trans ((hB.block k pX).trans (sV _ _ k hk)))
     case measure=>simp[intOf];omega
    .go_wp2_with (go_at_call 118;refine(zdX x gx q _ (dH zuT.o _)).mono ?_;rintro e w2 ⟨rfl,pU⟩;rw[hq];have KG:=aD (mX pU (dH qY.o _)).1;have iX:=aD pU;clear pU)
     go_round
     case rel=>
      obtain⟨f1,f2⟩:=D1.o (by simpa using hq);have hB:=iX.o;exact⟨a,b+1,ys,rfl,qJ,aC,aC,Zx,f1,f2,KG.o,Uc zdg.o ⟨hB.os,hB.tape,hB.output,by have:=hB.size;simp at this;omega,λk hk hn=>(hB.block k pX).trans (sV _ _ k hk)⟩⟩
     case measure=>simp[intOf];omega
   .have e:b=n:=aC
    subst e;have zhr:(dZ xs q).length=a:=by
     have sY:xs.take b=xs:=zV aC;rw[sY] at h1;unfold dZ;rw[<-h1,qO];omega
    have N6:ys.take a=dZ xs q:=by
     have sY:xs.take b=xs:=zV aC;rw[sY] at h1;exact h1
    have nE:(bH ys).length=ys.length*2:=J2 bN.cells (s:=2) (λ_=>rfl) ys;have hzs:(qM (znU #[.int .i64 0,.int .i64 0]).cells (b-a)).size=(b-a)*2:=Yw _ _;have cP:=λty=>zjY (P:=aK) (w:=wr) (dT:=69) (ty:=ty) (c:=c-a) (n:=b-a) (o:=a*2) zmT zH3.o gA qY.o aC (by rw[hzs];simp[nE,Mx];omega) (λu hu=>by
     obtain⟨k,hk,rfl⟩:=P8.1 hu;simp only[qM,Vx,zjo,ziK,znw];rcases zyJ k with hk|hk<;>simp[hk]<;>rfl)
    obtain⟨zA,o8⟩:=aT (((bH ys++rest).toArray.toList.take (a*2)++(qM (znU #[.int .i64 0,.int .i64 0]).cells (b-a)).toList++(bH ys++rest).toArray.toList.drop (a*2+(qM (znU #[.int .i64 0,.int .i64 0]).cells (b-a)).size)).toArray);rw[<-o8] at cP;have HR:=aD cP;have HO:=aD (show(wr.setRow g zA).ownsRow lo 149 2 (.slice (some ⟨g,0,none⟩) a c) a (bH (dZ xs q)) by
     refine⟨by have:=J2 bN.cells (s:=2) (λ_=>rfl) (dZ xs q);unfold bH;omega,.inr ⟨g,c,zA,rfl,eF,Mk wr g _ zA 149 (0,0) qY.o,aC,pJ,?_,?_⟩⟩
     .rw[o8]
      simp only[Ev,jZ,qO,x5,Ef,hzs,nE,Mx];omega
     .rw[o8,show∀l:List aF,l.toArray.toList=l from λ_=>rfl,show∀l:List aF,l.toArray.toList=l from λ_=>rfl,Ix,Ff (by rw[qO,jZ,nE];omega),Pw,zis,Ff aC,<-N6]
      have:(bH ys).take (a*2)=bH (ys.take a):=by
       conv=>lhs;rw[<-zrU a ys]
       unfold bH;rw[List.flatMap_append];have h9:=J2 bN.cells (s:=2) (λ_=>rfl) (ys.take a);rw[qO,Nat.min_eq_left aC] at h9;rw[Ff aC];exact zV aC
      exact this)
    have zBZ:=aD (Uc zdg.o (zcg zA));have a0:(0:Int)<=(a:Int):=aC;have a1:(a:Int)<(b:Int):=aC;have zLl:a<c:=aC;have zK5:¬(c=a):=aC;clear cP o8 hzs nE N6 qY zdg h1 h2
    go_wp2_with (refine zbh rfl (.tmp 38) 69 rfl _ rfl HR.o ?_)
    go_ret;exact⟨a,rfl,zhr.symm,HO.o,zBZ.o⟩
theorem zh4 (b:cC)(t:List UInt8)(x:bN):(lT (b,t) x).1.o=b.o/\(lT (b,t) x).1.clk=b.clk/\(lT (b,t) x).1.log=b.log/\(lT (b,t) x).1.recs.length=b.recs.length/\(lT (b,t) x).1.wait.length<=b.wait.length/\(lT (b,t) x).1.back.length<=b.back.length+1/\
 ∀z∈(lT (b,t) x).1.recs,∃y∈b.recs,z.o=y.o/\z.l=y.l:=by
 have same:∀z∈b.recs,∃y∈b.recs,z.o=y.o/\z.l=y.l:=λz hz=>⟨z,hz,rfl,rfl⟩;unfold lT;split
 .simp_all
 .split
  .refine⟨rfl,rfl,rfl,?_,Zb _ _,?_,λz hz=>?_⟩
   .show(zcm _ _ _).length=_
    rw[Lj]
   .simp_all
   .obtain⟨y,hy,rfl|rfl⟩:=Sr hz
    .exact⟨_,hy,rfl,rfl⟩
    simp_all
  simp_all
theorem y9.tire {t:List UInt8}(h:y9 d)(hx:1<=x.c/\x.c<=99)(hb:d.r.back.length<5000):y9 {d with r:=(lT (d.r,t) x).1}:=by
 have S:=h.S.tire (t:=t) (x:=x);have R:=h.R.tire (t:=t) hx;obtain⟨e1,e2,e3,e4,e5,e6,e7⟩:=zh4 d.r t x;generalize(lT (d.r,t) x).1=b at*;refine⟨S,R,⟨λz hz=>?_,?_⟩,h.ndl,?_,λz hz=>?_,?_,⟨R.off,?_,?_,?_,?_,?_⟩⟩
 .obtain⟨y,hy,e,_⟩:=e7 z hz
  rw[e,e1];exact h.ops.op y hy
 .show 1<=b.o.op
  rw[e1];exact h.ops.n1
 .show(d.ln.length:Int)=b.o.ln
  rw[e1];exact h.nln
 .obtain⟨y,hy,_,e⟩:=e7 z hz
  show 1<=z.l/\z.l<=b.o.ln;rw[e,e1];exact h.lb y hy
 .show(d.qn.length:Int)=b.o.op
  rw[e1];exact h.nqn
 .show b.recs.length<=1000
  rw[e4];exact h.sm.nr
 .exact eG e5 h.sm.nw
 .grind
 .show b.log.length<=1000
  rw[e3];exact h.sm.nl
 .show 0<=b.clk/\b.clk<=100000
  rw[e2];exact h.sm.clk
def tW (r:cC)(m:Int):Nat->List bN
 |0=>[]
 |k+1=>match r.wait[k]? with
  |none=>tW r m k
  |some x=>match iS (dC r m k).1.recs x.c with
   |none=>tW r m k++[x]
   |some i=>if(dC r m k).1.o.pt<=(dC r m k).1.clk-X9 (dC r m k).1.recs i then tW r m k else tW r m k++[x]
theorem zg5 {st rest:List bN}(h:((st++x::rest).map bN.c).Nodup):dZ (st++x::rest) x.c=st++rest:=by
 rw[Uo,jD,znE] at h;obtain⟨h1,h2,h3⟩:=h;rw[Gx] at h2;have a1:∀y∈st,(y.c !=x.c)=true:=λy hy=>by simp_all
 have a2:∀y∈rest,(y.c !=x.c)=true:=λy hy=>by simp_all
 unfold dZ;rw[Pp,List.filter_cons,zgs.2 a1,zgs.2 a2];simp
structure TK (d:oG)(m:Int)(k:Nat):Prop where
 i:y9 {d with r:=(dC d.r m k).1}
 w:(dC d.r m k).1.wait=tW d.r m k++d.r.wait.drop k
 nb:(dC d.r m k).1.back.length<=d.r.back.length+k
 log:(dC d.r m k).1.log=d.r.log
 o:(dC d.r m k).1.o=d.r.o
 clk:(dC d.r m k).1.clk=d.r.clk+m
 le:(tW d.r m k).length<=k
 txt:(dC d.r m k).2.length<=30+30*k
section
variable {d:oG}{m:Int}
theorem TK.zero (h:y9 d)(hm:0<=m)(hc:d.r.clk+m<=100000):TK d m 0:=by
 have h0:=h.sm.clk;have hn:=Pg (c:=d.r.clk+m) aC aC;refine⟨⟨⟨h.S.opn,h.S.last,h.S.wt,h.S.bk,h.S.bo⟩,⟨h.R.off,?_,h.R.nodup,h.R.hasrec,λz hz=>?_,h.R.waitB,h.R.backB⟩,⟨h.ops.op,h.ops.n1⟩,h.ndl,h.nln,h.lb,h.nqn,⟨h.R.off,h.sm.nr,h.sm.nw,h.sm.nb,h.sm.nl,?_⟩⟩,rfl,bL _,rfl,rfl,rfl,bL _,?_⟩
 .show 0<=d.r.clk+m;omega
 .have:=h.R.recB z hz
  show _/\_/\_/\_/\_/\_/\_/\z.f<=d.r.clk+m;omega
 .show 0<=d.r.clk+m/\d.r.clk+m<=100000;omega
 .show([97,116,32]++jH (d.r.clk+m)).length<=_
  grind
structure Next (d:oG)(m:Int)(k:Nat)(x:bN)(i:Nat)(y:bV):Prop where
 at_:iS (dC d.r m k).1.recs x.c=some i
 hy:(dC d.r m k).1.recs[i]? =some y
 c:y.c=x.c
 op:eL y=true
 b:1<=x.c/\x.c<=99
 f:0<=y.f/\y.f<=d.r.clk+m
 tired:d.r.o.pt<=d.r.clk+m-y.f->dC d.r m (k+1)=({lN (dC d.r m k).1 i Gn with back:=(dC d.r m k).1.back++[x]},(dC d.r m k).2++[32]++jH x.c)/\tW d.r m (k+1)=tW d.r m k
 not_:¬d.r.o.pt<=d.r.clk+m-y.f->dC d.r m (k+1)=dC d.r m k/\tW d.r m (k+1)=tW d.r m k++[x]
variable {k:Nat}{x:bN}
theorem TK.next (h:TK d m k)(hx:d.r.wait[k]? =some x):∃i y,Next d m k x i y:=by
 have znC:d.r.wait.drop k=x::d.r.wait.drop (k+1):=by
  obtain⟨hl,he⟩:=l8.1 hx;rw[zg2 hl,he]
 have oK:x∈(dC d.r m k).1.wait:=by rw[h.w,znC];simp
 obtain⟨i,hi⟩:=Option.isSome_iff_exists.1 (h.i.R.hasrec x oK);have hi:iS (dC d.r m k).1.recs x.c=some i:=hi;obtain⟨y,hy,znZ,Dr⟩:=C1 hi;have e1:=zft (m:=m) hx;rw[zdA hi hy,h.o,h.clk] at e1;have e2:tW d.r m (k+1)=if d.r.o.pt<=d.r.clk+m-y.f then tW d.r m k else tW d.r m k++[x]:=by
  conv=>lhs;unfold tW
  simp only[hx,hi,h.o,h.clk];rw[show X9 (dC d.r m k).1.recs i=y.f by unfold X9;rw[hy]]
 have hf:=h.i.R.recB y (fI hy);refine⟨i,y,⟨hi,hy,znZ,Dr,h.i.R.waitB x oK,⟨hf.2.2.2.2.2.2.1,by have:=hf.2.2.2.2.2.2.2;rw[<-h.clk];exact this⟩,λhp=>?_,λhp=>?_⟩⟩
 .simp_all
 simp_all
theorem TK.succ (h:TK d m k)(hb:d.r.back.length+d.r.wait.length<=5000)(hx:d.r.wait[k]? =some x):TK d m (k+1):=by
 obtain⟨hl,he⟩:=l8.1 hx;have znC:d.r.wait.drop k=x::d.r.wait.drop (k+1):=by rw[zg2 hl,he]
 obtain⟨i,y,n⟩:=h.next hx;have oF:=h.nb;have hT:=y9.tire (t:=(dC d.r m k).2) h.i n.b tL;have e1:=zft (m:=m) hx;have zDt:y9 {d with r:=(dC d.r m (k+1)).1}:=by rw[e1];exact hT
 obtain⟨r1,r2,r3,r4,r5,r6,r7⟩:=zh4 (dC d.r m k).1 (dC d.r m k).2 x;have Cv:dC d.r m (k+1)=lT ((dC d.r m k).1,(dC d.r m k).2) x:=e1;rw[<-Cv] at r1 r2 r3 r4 r5 r6;have hw:=h.w;rw[znC] at hw;have lK:((tW d.r m k++x::d.r.wait.drop (k+1)).map bN.c).Nodup:=by rw[<-hw];exact h.i.R.nodup
 have hle:=h.le;have zoN:=h.txt;refine⟨zDt,?_,aC,r3.trans h.log,r1.trans h.o,r2.trans h.clk,?_,?_⟩
 .by_cases hp:d.r.o.pt<=d.r.clk+m-y.f
  .have t4:=(n.tired hp).2
   rw[t4];have e3:=e1;rw[zdA n.at_ n.hy,h.o,h.clk,if_pos hp] at e3;rw[e3];show dZ _ (Hu _ _)=_;rw[Ur n.hy,n.c,hw,zg5 lK]
  .obtain⟨t1,t2⟩:=n.not_ hp
   rw[t1,t2,hw];simp
 .by_cases hp:d.r.o.pt<=d.r.clk+m-y.f
  .rw[(n.tired hp).2];omega
  .rw[(n.not_ hp).2,jZ];simp;omega
 .by_cases hp:d.r.o.pt<=d.r.clk+m-y.f
  .have:=n.b
   have hn:=Pg (c:=x.c) aC aC;rw[(n.tired hp).1,jZ,jZ]
   grind
  .rw[(n.not_ hp).1];omega
def TK.all (h:y9 d)(hm:0<=m)(hc:d.r.clk+m<=100000)(hb:d.r.back.length+d.r.wait.length<=5000):∀k,k<=d.r.wait.length->TK d m k
 |0,_=>TK.zero h hm hc
 |k+1,hk=>(TK.all h hm hc hb k aC).succ hb (nI aC)
theorem TK.end_ (h:TK d m d.r.wait.length):(uQ d.r m).1.wait=tW d.r m d.r.wait.length:=by
 rw[<-zbV,h.w,List.drop_of_length_le (bL _),Mw]
end
def qS (w:aE):Prop:=Lib.TabIs aK w "internal/strconv.uint64pow10" .u64 Lib.pow10Tab
def Bw (lo:Nat)(w:aE):Prop:=∀w':aE,(∀b,b<lo->w'.heap[b]? =w.heap[b]?)->qS w'
def Bw.at_ (h:Bw lo w):qS w:=h w λ_ _=>rfl
def Bw.keep (h:Bw lo w)(k:∀b,b<lo->w'.heap[b]? =w.heap[b]?):Bw lo w':=λw2 k2=>h w2 λb hb=>(k2 b hb).trans (k b hb)
variable {v':fH}
theorem Bw.turn (h:Bw lo w)(a:bG w lo hb v d)(eF:lo<=w.heap.size)(t:bP hb v w v' w'):Bw lo w':=h.keep λb b9=>t.block b aC (λx=>by have:=(a.lt b x).1;omega)
def Am (v v':fH):Prop:=v'.sL=v.sL/\v'.sQ=v.sQ/\v'.sA=v.sA/\v'.sT=v.sT
def Am.rf (v:fH):Am v v:=⟨rfl,rfl,rfl,rfl⟩
def Dl.kept (h:Dl v v'):Am v v':=⟨h.1,h.2.1,h.2.2.2.2.1,h.2.2.2.2.2⟩
theorem zA0 (ht:Bw lo w)(n:Int)(h0: -1000000000<=n)(h1:n<=1000000000):
 fJ aK 112 #[.int .i64 n] w λe w'=>e=.returned (.string ⟨(jH n).toArray⟩)/\bY w.heap.size w w':=
 (Tryz.strconv_Itoa n aC aC w ht.at_).mono (by
  rintro e w' ⟨rfl,k,os,rfl⟩;refine⟨rfl,rfl,rfl,rfl,by simp[Go.Sort.grow],λi hi=>?_⟩;show((w.drewN k).heap++os)[i]? =_;rw[Array.getElem?_append_left uU];rfl)
theorem znd (n:Int)(h0:0<=n)(h1:n<100)(w:aE):
 fJ aK 112 #[.int .i64 n] w λe w'=>e=.returned (.string ⟨(jH n).toArray⟩)/\w'=w:=by
 obtain⟨c,rfl⟩:∃c:Nat,n=(c:Int):=⟨n.toNat,aC⟩;refine(Tryz.strconv_Itoa_small c aC w).mono ?_;rintro e w' ⟨rfl,rfl⟩;exact⟨by unfold jH;rw[Lib.itoa_nonneg],rfl⟩
section
variable {P:bT}{w w':aE}
theorem ztl {ops:Array aX}{rest:List aX}{o:aX}{a:Act}{Q:oP->Act->aE->Prop}(Fy:o.guard=none)(s x:cJ)(t tn:aN)(ho:o.op=.call {callee:=.builtin .append,args:=#[s,x],argTypes:=#[t,tn]})(vs vx v':aF)(hs:a.eval s=vs)(hx:a.eval x=vx)
 (hr:(xG #[t,tn] o.type #[vs,vx]).run P w=.ok v' w') (h:wpList P ops Q rest (a.put o.dst v') w'):wpList P ops Q (o::rest) a w:=by
 refine Tu Fy λK hK=>?_;unfold C5 aS;simp only[ho,resolve,invoke,builtin,F7,J1,E9,tJ,jD,sC,hs,hx,hr];exact hK _ _ h
end
theorem zqC {E s:Nat}{xK:Nat}{v:aF}{xs:List aF}(h:w.ownsRow lo E s v n xs)(hl:xK<=lo):w.ownsRow xK E s v n xs:=by
 obtain⟨h0,h1|⟨g,cap,cur,e1,e2,e3⟩⟩:=h
 .exact⟨h0,.inl h1⟩
 .exact⟨h0,.inr ⟨g,cap,cur,e1,eG hl e2,e3⟩⟩
variable {x:Option Nat}{l:List (Option Nat)}
theorem zE9 (h:zb3 l)(hx:∀b,x=some b->some b∉l):zb3 (l.set j x):=by
 intro i k b hi hk;rw[zdu] at hi hk;split at hi<;>split at hk
 .omega
 .grind
 .grind
 .exact h i k b hi hk
theorem bG.newW (h:bG w lo hb v d){s':aF}(ho:w.ownsRow lo 149 2 s' n (bH xs))(hn:n=xs.length)(hw:∀b,s'.ownBlock=some b->some b∉parts v hb):
 bG (w.setCell ⟨hb,7,none⟩ s') lo hb {v with sW:=s'} {d with r:={d.r with wait:=xs}}:=by
 subst hn;have h0:(parts v hb)[0]? =some (some hb):=rfl;have kk:∀i b,i≠0->(parts v hb)[i]? =some (some b)->(w.setCell ⟨hb,7,none⟩ s').heap[b]? =w.heap[b]? :=λi b hi b9=>dU w _ _ b (h.ne b9 h0 hi);have hp:parts {v with sW:=s'} hb=(parts v hb).set 5 s'.ownBlock:=rfl
 refine⟨oQ h.blk s',h.lob,cM h.L λb e=>kk 1 _ aH cZ,cM h.Q λb e=>kk 4 _ aH cZ,cM ho λb e=>dU w _ _ b (λe2=>hw b e tL),
  cM h.B λb e=>kk 6 _ aH cZ,cM h.R λb e=>kk 7 _ aH cZ,cM h.A λb e=>kk 9 _ aH cZ,cM h.T λb e=>kk 10 _ aH cZ,
  h.C.keep (kk 2 _ aH rfl),h.O.keep (kk 3 _ aH rfl),h.M.keep (kk 8 _ aH rfl),?_⟩
 rw[hp];exact zE9 h.ap hw
def bG.grown (h:bG w lo hb v d)(hg:w.grownBy w' x)(hx:∀b,x=some b->some b∉parts v hb):bG w' lo hb v d:=
 h.keep λb b9 hp=>hg.block b b9 λe=>hx b e.symm hp
theorem bP.grown {w0:aE}{v0:fH}(h:bP hb v0 w0 v w)(hg:w.grownBy w' x)(hx:∀b,x=some b->w0.heap.size<=b):bP hb v0 w0 v w':=
 ⟨eG h.size hg.size,λb b9 hn=>(hg.block b (j5 b9 h.size) λe=>by grind).trans (h.block b b9 hn),h.moved⟩
end Go.Proofs.YtfcjiloojkjaeaaGreatDoor
namespace Go.Proofs.YtfcjiloojkjaeaaGreatDoor
open Go.Mt Go.Tt
def glL:List Nat:=[33,52,109,110,115,116,105,108,113,124,117,114,119,118,112,123,126,128,129,130,131,132,133,134,135,136,137,138,10,11,12,13,15,16,17,18,19,20,22,23,24,25,31,32,34,35,37,38,39,40,41,43,44,45,46,47,48,49,50,51,60,61,62,63,64,65,66,67,88,89,90,91,92,93,94,95,96,107]
def alL:List Nat:=[3,4,5,7,9,10,11,12,13,14,15,16,17,18,19,20,21,22,23,24,25,26,28,30,31,32,33,34,35,37,38,39,40,41,42,43,44,45,46,47,48,49,50,51,52,60,61,62,63,64,65,66,67,88,89,90,91,92,93,94,95,96,107,118]
def flL:List Nat:=[118]
def olL:List Nat:=[42]
abbrev Cy:aO->Bool:=oA glL
abbrev fW:aO->Bool:=oA flL
def zrr:Re aK=true:=aP
def zrB:glL.all (fnFit aK (oA flL) (oA glL))=true:=aP
def lvF:Lv aK (oA olL) (oA alL) Cy fW:=
 lv_of zrr zrB aP aP aP aP aP
def nO:vZ (PS aK Cy) fW:=zoW zrr zrB aP
end Go.Proofs.YtfcjiloojkjaeaaGreatDoor
namespace Go.Mt
open Go.Conc Go.Tt
def frO:Obj->Obj
 | .cells c T fz=>.cells c T (0,max c.size fz.2)
 |o=>o
def vO (X:Nat->Bool)(w:aE):World:={w with heap:=w.heap.mapIdx λi o=>if X i=true then frO o else o}
def thX (X:Nat->Bool)(w0 wn:aE):World:={wn with heap:=wn.heap.mapIdx λi o=>if X i=true then(w0.heap[i]?).getD o else o}
def reX (X:Nat->Bool)(w:aE):World:={w with heap:=w.heap.mapIdx λi o=>if X i=true then frO o else pN}
theorem U5 (X:Nat->Bool)(w:aE):(vO X w).heap.size=w.heap.size:=by simp[vO]
theorem zeS (X:Nat->Bool)(w wn:aE):(thX X w wn).heap.size=wn.heap.size:=by simp[thX]
theorem zlD (X:Nat->Bool)(w:aE):(reX X w).heap.size=w.heap.size:=by simp[reX]
section
variable {X:Nat->Bool}{w wn:aE}{a:Nat}
theorem Nu (h:X a=false):(vO X w).heap[a]? =w.heap[a]? :=by
 simp[vO,Ny,h]
variable {c:Array aF}{T:aN}
theorem Uy {fz:Nat×Nat}(h:X a=true)(hc:w.heap[a]? =some (.cells c T fz)):(vO X w).heap[a]? =some (.cells c T (0,max c.size fz.2)):=by
 simp[vO,Ny,h,hc,frO]
theorem zgN {fz:Nat×Nat}(h:X a=true)(hc:w.heap[a]? =some (.cells c T fz)):(reX X w).heap[a]? =some (.cells c T (0,max c.size fz.2)):=by
 simp[reX,Ny,h,hc,frO]
theorem ztW (h:X a=false)(ha:a<w.heap.size):(reX X w).heap[a]? =some pN:=by
 simp[reX,Ny,h,ha]
theorem Vr (h:X a=false):(thX X w wn).heap[a]? =wn.heap[a]? :=by
 simp[thX,Ny,h]
theorem zhd {o:Obj}(h:X a=true)(ha:a<wn.heap.size)(ho:w.heap[a]? =some o):(thX X w wn).heap[a]? =some o:=by
 simp[thX,Ny,h,ho,ha]
end
inductive xC (X KD:Nat->Prop):aF->Prop
 |bool (b:Bool):xC X KD (.bool b)
 |int (k:IntKind) (n:Int):xC X KD (.int k n)
 |string (s:ByteArray):xC X KD (.string s)
 |nilFunc:xC X KD .nilFunc
 |nilIface:xC X KD .nilIface
 |pointer {a:Option bC}:(∀x,a=some x->X x.block)->xC X KD (.pointer a)
 |slice {a:Option bC} {n c:Nat}:(∀x,a=some x->X x.block)->xC X KD (.slice a n c)
 |chan {a:Option Nat}:(∀x,a=some x->KD x)->xC X KD (.chan a)
 |agg {xs:Array aF}:(∀(i:Nat) (v:aF),xs[i]? =some v->xC X KD v)->xC X KD (.agg xs)
 |tuple {xs:Array aF}:(∀(i:Nat) (v:aF),xs[i]? =some v->xC X KD v)->xC X KD (.tuple xs)
theorem wW.inX {X KD:Nat->Prop}{v:aF}(h:wW v):xC X KD v:=by
 induction h with
 |bool b=>exact .bool b
 |int k n=>exact .int k n
 |string s=>exact .string s
 |nilFunc=>exact .nilFunc
 |nilIface=>exact .nilIface
 |agg _ ih=>exact .agg ih
 |tuple _ ih=>exact .tuple ih
section
variable {S:aO->Prop}{K R K' R':Pr}{X KD:Nat->Prop}
theorem zsR {a a':Option bC}(x:xF R a a')(hR:∀p q,R p q->X p->R' p q)(h:∀y,a=some y->X y.block):xF R' a a':=by
 cases x with
 |none=>exact .none
 |some y=>
  cases y with
  |mk y=>exact .some (.mk (hR _ _ y (h _ rfl)))
theorem xC.vr {u v:aF}(x:VR S K R u v)(hR:∀a b,R a b->X a->R' a b)(hK:∀a b,R.or K a b->KD a->R'.or K' a b)(hu:xC X KD u):VR S K' R' u v:=by
 induction x with
 |bool b=>exact .bool b
 |int k n=>exact .int k n
 |string s=>exact .string s
 |nilFunc=>exact .nilFunc
 |nilIface=>exact .nilIface
 |pointer y=>cases hu with|pointer h=>exact .pointer (zsR y hR h)
 |slice y=>cases hu with|slice h=>exact .slice (zsR y hR h)
 |map _=>cases hu
 |chan y=>
  cases hu with
  |chan h=>
   refine .chan ?_
   cases y with
   |none=>exact .none
   |some y=>exact .some (hK _ _ y (h _ rfl))
 |func _ _ _ _ _ _ _=>cases hu
 |iface _ _=>cases hu
 |agg e _ ih=>cases hu with|agg h=>exact .agg e λi v v' h1 h2=>ih i v v' h1 h2 (h i v h1)
 |tuple e _ ih=>cases hu with|tuple h=>exact .tuple e λi v v' h1 h2=>ih i v v' h1 h2 (h i v h1)
 |junk h=>exact .junk h
end
section
variable {S:aO->Prop}{K R K' R':Pr}{G:Gp}{St St':Nat->Prop}{w W wn Wn:aE}{X:Nat->Bool}
structure XOk (R:Pr)(X:Nat->Bool)(w:aE):Prop where
 dom:∀a,X a=true->∃b,R a b
 cells:∀a,X a=true->∃c T fz,w.heap[a]? =some (.cells c T fz)
theorem zoo (h:dB S K R G St w W)(hx:XOk R X w):dB S K R G (λa=>St a\/X a=true) (vO X w) W:=by
 have stC:∀a,St a->∃c T hi,w.heap[a]? =some (.cells c T (0,hi))/\c.size<=hi:=λa x=>(h.st a x).2;refine⟨h.inj,h.inj',λa b x=>by rw[U5];exact h.lt a b x,h.low,by rw[U5];exact h.gle,λa b x=>?_,λa b x hn=>?_,λa x=>?_,?_,h.tb⟩
 .obtain⟨o,o',h1,h2,h3⟩:=h.cont a b x
  cases e:X a with
  |false=>exact⟨o,o',(Nu e).trans h1,h2,h3⟩
  |true=>
   obtain⟨c,T,fz,hc⟩:=hx.cells a e;rw[hc] at h1;obtain rfl:=cH h1
   cases h3 with
   |cells tX hf=>
    refine⟨_,_,Uy e hc,h2,.cells tX λo ho=>?_⟩;have:=hf o ho;unfold Lf at this⊢;simp only;omega
 .cases e:X a with
  |false=>exact(Nu e).trans (h.rest a b x hn)
  |true=>
   obtain⟨c,hc⟩:=hx.dom a e;exact absurd hc (hn c)
 .cases e:X a with
  |false=>
   have x':St a:=x.resolve_right (by rw[e];simp);obtain⟨h1,c,T,hi,h2,h3⟩:=h.st a x';exact⟨h1,c,T,hi,(Nu e).trans h2,h3⟩
  |true=>
   obtain⟨c,T,fz,hc⟩:=hx.cells a e;exact⟨hx.dom a e,c,T,_,Uy e hc,zvf ..⟩
 .intro a c e hp
  cases ex:X a with
  |false=>
   rw[Nu ex] at hp;exact h.np a c e hp
  |true=>
   obtain⟨c',T,fz,hc⟩:=hx.cells a ex;rw[Uy ex hc] at hp;cases hp
theorem zut (h:dB S K R G St w W)(hx:XOk R X w)(hle:R.le R')(hK:K.le K')(hn:dB S K' R' G St' wn Wn)(hs:∀a,St a->St' a)(aY:∀a b,X a=true->R a b->Wn.heap[b]? =W.heap[b]?):dB S K' R' G St (thX X w wn) Wn:=by
 have aU:∀a b,R' a b->a<wn.heap.size:=λa b x=>(hn.lt a b (.inl x)).1;refine⟨hn.inj,hn.inj',λa b x=>by rw[zeS];exact hn.lt a b x,hn.low,by rw[zeS];exact hn.gle,λa b x=>?_,λa b x fQ=>?_,λa x=>?_,?_,hn.tb⟩
 .cases e:X a with
  |false=>
   obtain⟨o,o',h1,h2,h3⟩:=hn.cont a b x;exact⟨o,o',(Vr e).trans h1,h2,h3⟩
  |true=>
   obtain⟨b0,Rc⟩:=hx.dom a e;obtain rfl:=hn.inj a b b0 (.inl x) (.inl (hle _ _ Rc));obtain⟨o,o',h1,h2,h3⟩:=h.cont a b Rc;exact⟨o,o',zhd e (aU a b x) h1,(aY a b e Rc).trans h2,o7.monoK hK (h3.mono hle)⟩
 .cases e:X a with
  |false=>exact(Vr e).trans (hn.rest a b x fQ)
  |true=>
   obtain⟨c,hc⟩:=hx.dom a e;exact absurd (hle _ _ hc) (fQ c)
 .cases e:X a with
  |false=>
   obtain⟨h1,c,T,hi,h2,h3⟩:=hn.st a (hs a x);exact⟨h1,c,T,hi,(Vr e).trans h2,h3⟩
  |true=>
   obtain⟨⟨b,h1⟩,c,T,hi,h2,h3⟩:=h.st a x;exact⟨⟨b,hle _ _ h1⟩,c,T,hi,zhd e (aU a b (hle _ _ h1)) h2,h3⟩
 .intro a c e hp
  cases ex:X a with
  |false=>
   rw[Vr ex] at hp;exact hn.np a c e hp
  |true=>
   obtain⟨b,hb⟩:=hx.dom a ex;obtain⟨c',T,fz,hc⟩:=hx.cells a ex;rw[zhd ex (aU a b (hle _ _ hb)) hc] at hp;cases hp
def rX (R:Pr)(X:Nat->Bool):Pr:=λa b=>R a b/\X a=true
def kX (K:Pr)(KD:Nat->Prop):Pr:=λa b=>K a b/\KD a
theorem reX_rel (h:dB S K R G St w W)(hx:XOk R X w)(hT:∀g,G.tab g=true->X g=true){KD:Nat->Prop}(nE:∀a c T fz,X a=true->w.heap[a]? =some (.cells c T fz)->∀v∈c,xC (λa=>X a=true) KD v)(zzC:∀a b,R a b->KD a->X a=true):
 dB S (kX K KD) (rX R X) G (λa=>X a=true) (reX X w) W:=by
 have up:∀a b,(rX R X).or (kX K KD) a b->R.or K a b:=λa b x=>x.elim (λy=>.inl y.1) λy=>.inr y.1;refine⟨λa b c x y=>h.inj a b c (up _ _ x) (up _ _ y),λa b c x y=>h.inj' a b c (up _ _ x) (up _ _ y),λa b x=>by rw[zlD];exact h.lt a b (up _ _ x),λa b x=>h.low a b x.1,by rw[zlD];exact h.gle,λa b x=>?_,λa b x fQ=>?_,λa x=>?_,?_,λg hg=>⟨h.tb g hg,hT g hg⟩⟩
 .obtain⟨o,o',h1,h2,h3⟩:=h.cont a b x.1
  obtain⟨c,T,fz,hc⟩:=hx.cells a x.2;rw[hc] at h1;obtain rfl:=cH h1
  cases h3 with
  |cells tX hf=>
   refine⟨_,_,zgN x.2 hc,h2,.cells ⟨tX.1,λi v v' h1 h2=>?_⟩ λo ho=>?_⟩
   .refine xC.vr (tX.2 i v v' h1 h2) (λp q y z=>⟨y,z⟩) (λp q y z=>?_) (nE a c T fz x.2 hc v (Array.mem_of_getElem? h1))
    rcases y with y|y
    .exact .inl ⟨y,zzC p q y z⟩
    .exact .inr ⟨y,z⟩
   .have:=hf o ho
    unfold Lf at this⊢;simp only;omega
 .cases e:X a with
  |false=>exact ztW e (h.lt a b (.inr x.1)).1
  |true=>
   obtain⟨c,hc⟩:=hx.dom a e;exact absurd ⟨hc,e⟩ (fQ c)
 .obtain⟨c,T,fz,hc⟩:=hx.cells a x
  obtain⟨b,hb⟩:=hx.dom a x;exact⟨⟨b,hb,x⟩,c,T,_,zgN x hc,zvf ..⟩
 .intro a c e hp
  cases ex:X a with
  |false=>
   by_cases ha:a<w.heap.size
   .rw[ztW ex ha] at hp
    unfold pN at hp;cases hp
   .have:=(dR.1 hp).1
    rw[zlD] at this;omega
  |true=>
   obtain⟨c',T,fz,hc⟩:=hx.cells a ex;rw[zgN ex hc] at hp;cases hp
end
end Go.Mt
namespace Go.Mt
open Go.Conc Go.Tt
open Go.ConcR (KK wgBlock WgAt stA smA rd wr DC0)
section
variable {p:bT}{Post:aF->aE->Prop}{Shun:Loc->Prop}
def BJ (p:bT)(Post:aF->aE->Prop)(Shun:Loc->Prop)(τ:cI)(g:Goroutine)(W:aE):Prop:=
 (∀b,τ.own b\/τ.still b->b<W.heap.size/\∀l,nY l b->¬Shun l)->(∀l b,nY l b->W.heap.size<=b->¬Shun l)->J p Post Shun W.heap.size g W
theorem zHK {O Z:Nat->Prop}{B:Nat}{e:Event}(h:EvQ O Z e)(hO:∀b,O b\/Z b->b<B/\∀l,nY l b->¬Shun l):EvL Shun B e:=by
 rcases h with rfl|⟨b,h1,h2⟩
 .exact⟨λx hx=>by simp[jI,rY] at hx,aQ,aQ,trivial⟩
 .obtain⟨hb,hs⟩:=hO b (h2.imp id And.left)
  obtain⟨loc,wr,sy⟩:=e
  cases loc with
  |cell x=>
   simp only[Hg,jS] at h1;refine⟨λy hy mP=>?_,aQ,aQ,?_⟩
   .simp only[jI,rY,jS] at hy
    subst hy;exact absurd mP (hs _ h1)
   .show x.block<B
    rw[h1];exact hb
  |obj r=>
   simp only[Hg,jS] at h1;have hr:r<B:=by rw[h1];exact hb
   refine⟨λy hy mP=>?_,aQ,aQ,?_⟩
   .have Zx:y.loc=.obj r:=by
     cases wr<;>cases sy<;>simp only[jI,rY,jS] at hy<;>first|(subst hy;rfl)|(cases hy;done)
    exact absurd (Zx▸mP) (hs (.obj r) h1)
   .cases wr<;>cases sy<;>exact hr
  |_=>simp[Hg] at h1
variable {ty:aN}
def suf_atd {Wg:Nat}{τ:cI}{w:aE}(d:Nat):bX ty Wg τ w (w.at d):=⟨rfl,rfl,rfl,bL _,λ_ _=>rfl,λx=>x⟩
theorem bj_ok {Wg:Nat}(τ:cI)(g:Goroutine)(w:aE)(cP:g.status=.running)(h:OwnQ p ty Wg true (BJ p Post Shun) τ g w):BJ p Post Shun τ g w:=by
 intro h1 h2;have grow:∀(d:Nat) {w':aE},w.heap.size<=w'.heap.size->(∀b,(τ.grow (w.at d) w').own b\/τ.still b->b<w'.heap.size/\∀l,nY l b->¬Shun l)/\∀l b,nY l b->w'.heap.size<=b->¬Shun l:=λd w' hs=>by
  refine⟨λb hb=>?_,λl b hl hb=>h2 l b hl (eG hs hb)⟩;rcases hb with(hb|⟨hb,b9⟩)|hb
  .grind
  .exact⟨b9,λl hl=>h2 l b hl hb⟩
  .grind
 refine J.own cP λd=>?_;obtain⟨g',w',es,a1,a2,a3,a4,a5⟩:=h (w.at d) (suf_atd d);obtain⟨k1,k2⟩:=grow d a3.size;exact⟨g',w',es,w'.heap.size,a1,λe he=>zHK (a4 e he) k1,a3.size,a5 k1 k2⟩
structure IA (W0:aE)(St:Nat->Prop)(Shun:Loc->Prop)(R0:Pr)(R:Pr)(τ:cI)(W:aE):Prop where
 kp:Kp W0 R St W
 sh:Sh W0.heap.size Shun R W
 still:∀b,b<W0.heap.size->τ.still b
 le:R0.le R
def Fv (p:bT)(gs fs:aO->Bool)(Post:aF->aE->Prop)(Shun:Loc->Prop)(W0:aE)(St:Nat->Prop)(K R0:Pr)(base:List Frame):Cx Unit:=
 {p:=p,gs:=gs,fs:=fs,ty:=0,Wg:=0,A:=⟨λ_=>.wait,λ_ _=>True,λ_=>false,λ_=>True,λ_ _=>True,λ_ _=>[]⟩,Fin:=λ_ _=>True,main:=true,base:=base,ds:=.nil,K:=K,St:=St,I:=IA W0 St Shun R0,pin:=[],alone:=some (BJ p Post Shun),aok:=λB h τ g w hr ho=>(by cases h;exact bj_ok τ g w hr ho)}
variable {gs fs:aO->Bool}{W0:aE}{St:Nat->Prop}{K R0:Pr}{base:List Frame}
theorem dG:fE (Fv p gs fs Post Shun W0 St K R0 base):=by
 refine⟨λR τ W aZ h s=>?_,λR τ W R1 W1 h ht hs=>?_⟩
 .have h:=h
  exact⟨⟨s.os.trans h.kp.os,s.tape.trans h.kp.tape,s.output.trans h.kp.output,eG h.kp.size s.size,λb hb=>(s.keep b (.inr (h.still b hb))).trans (h.kp.block b hb),h.kp.old⟩,⟨h.sh.old,h.sh.rel,λl b hl hb=>h.sh.new l b hl (eG s.size hb)⟩,h.still,h.le⟩
 .have h:=h
  have hs:=hs;refine⟨⟨hs.os.trans h.kp.os,hs.tape.trans h.kp.tape,hs.output.trans h.kp.output,eG h.kp.size hs.size,λb hb=>?_,λa b x hb=>?_⟩,⟨h.sh.old,λa b x l hl=>?_,λl b hl hb=>h.sh.new l b hl (eG hs.size hb)⟩,h.still,h.le.trans hs.le⟩
  .rw[hs.keep b (j5 hb h.kp.size) (λa x=>h.kp.old a b x hb)]
   exact h.kp.block b hb
  .rcases hs.new a b x with y|⟨y,_⟩
   .exact h.kp.old a b y hb
   .have:=h.kp.size;omega
  .rcases hs.new a b x with y|⟨y,_⟩
   .exact h.sh.rel a b y l hl
   .exact h.sh.new l b hl y
def tauA (R:Pr)(St:Nat->Prop)(W0:aE):cI:=⟨λb=>∃a,R a b/\¬St a,λb=>b<W0.heap.size\/∃a,R a b/\St a,λ_=>False⟩
def zDp {R:Pr}:wE (tauA R St W0) R St:=λa b x=>⟨λh=>.inr ⟨a,x,h⟩,λh=>⟨a,x,h⟩⟩
variable {m':Fm}
theorem BO.aloneIn {R:Pr}{m:Fm}{w W:aE}(h:BO (Fv p gs fs Post Shun W0 St K R base) () m w)(hw:dB (SF fs) K R (o9 p) St w W)(hm:FmW (Fv p gs fs Post Shun W0 St K R base) R m m')(mP:Sh W0.heap.size Shun R W)(hk:Kp W0 R St W):
 J p Post Shun W.heap.size (G m'.fr base) W:=by
 have:=h R W m' (tauA R St W0) hw hm zDp ⟨hk,mP,λb hb=>.inl hb,.refl R⟩;rw[Cx.B_some rfl] at this;have e:fx [] (Fv p gs fs Post Shun W0 St K R base).ds m'=m'.fr:=H4 _;rw[e] at this;refine this (λb hb=>?_) mP.new;rcases hb with⟨a,x,_⟩|hb|⟨a,x,_⟩
 .exact⟨(hw.lt a b (.inl x)).2,mP.rel a b x⟩
 .exact⟨j5 hb hk.size,λl hl=>mP.old l b hl hb⟩
 .exact⟨(hw.lt a b (.inl x)).2,mP.rel a b x⟩
theorem BO.aloneOut {op znS:aO->Bool}{m:Fm}{ms ms':List Fm}(hm:pL (PL p op znS) fs K R0 m m')(jR:vF (PL p op znS) fs K R0 ms ms')(sS:base=m'.fr::ms'.map Fm.fr){ops:Array aX}{i:Nat}{rest:List Nat}{k:List Item}(hr:m.ret=false)(pS:m.todo=.inRegion ops (i::rest)::k)
 {f:aO} {tmps:Array aF} {todo:List Item} {w:aE} {v:aF} {fnf:Func} (hf:p.funcs[f]? =some fnf) (nG:Dq fnf.results.toList) (hv:(oC fnf.results.toList tmps).run p w=.ok v w) (hJ:JL p op znS fs St W0 Post (m.fin ops i rest k v) ms w):
 BO (Fv p gs fs Post Shun W0 St K R0 base) () ⟨f,tmps,todo,true⟩ w:=by
 intro R W x' τ hw hx ht hi;have hi:IA W0 St Shun R0 R τ W:=hi;obtain⟨f',bU,zE,zD⟩:=x';obtain rfl:=hx.fn;obtain rfl:=hx.todo;obtain rfl:=hx.ret;have zL:m'.ret=false:=hm.ret.symm.trans hr;have O4:m'.todo=.inRegion ops (i::rest)::k:=hm.todo.symm.trans pS;refine Cx.ownQ rfl λaZ s=>?_;have hC:=dG (p:=p) (gs:=gs) (fs:=fs) (Post:=Post) (Shun:=Shun) (W0:=W0) (St:=St) (K:=K) (R0:=R0) (base:=base);have dK:dB (SF fs) K R (o9 p) St w aZ:=Cx.Rel.suf (C:=Fv p gs fs Post Shun W0 St K R0 base) hw ht s;have zN:IA W0 St Shun R0 R τ aZ:=hC.suf _ _ _ _ hi s
 let T:Tape:=λn q=>aZ.tape (aZ.drawn+n) q
 have Ah:dB (SF fs) K R (o9 p) St (Tt.tp w T 0) aZ:=⟨dK.inj,dK.inj',dK.lt,dK.low,dK.gle,dK.cont,dK.rest,dK.st,dK.np,dK.tb⟩;have L0:Tp (Tt.tp w T 0) aZ:=λn q=>by show aZ.tape (aZ.drawn+(0+n)) q=_;rw[Nat.zero_add]
 have cP:=(Py _ _ w v w hv).2 T 0;obtain⟨R1,v',W1,ev,e1,g3,e3,e4,e5⟩:=aG.run (P:=PS p gs) rfl _ (ziU hx.tmps fnf.results.toList) Ah L0 cP;obtain⟨zfX,_⟩:=Py _ _ aZ v' W1 e1;subst zfX;have Qz:(zR p ⟨f,bU,todo,true⟩ [m']).run p W1=.ok (m'.fin ops i rest k v',[]) W1:=(Mq O4 hf e1).1;obtain⟨_,_,_,e⟩:=zeZ (main:=true) rfl zL Qz [] .nil (ms'.map Fm.fr);rw[H4,H4] at e;have Uq:fx [] (Fv p gs fs Post Shun W0 St K R0 base).ds ⟨f,bU,todo,true⟩=(⟨f,bU,todo,true⟩:Fm).fr:=H4 _;rw[Uq];have Tb:∀e∈seen p f ((zR p ⟨f,bU,todo,true⟩ [m']).events p W1 #[]),Ic R1 St e:=λe he=>by
  rw[(Mq O4 hf e1).2,e4] at he;exact e5 e (by simpa using mem_seen he)
 have Fa:∀a b,R1 a b->R a b\/(W1.heap.size<=b/\b<W1.heap.size):=λa b x=>by
  rcases e3.new a b x with y|⟨_,y⟩
  .exact .inl y
  .exact .inr ⟨y,(e3.rel.ltR a b x).2⟩
 have Hi:wE (τ.grow W1 W1) R1 St:=λa b x=>by
  rcases e3.new a b x with y|⟨y1,y2⟩
  .exact⟨(ht a b y).1,λz=>.inl ((ht a b y).2 z)⟩
  .have:=(e3.rel.ltR a b x).2;omega
 have zZ:IA W0 St Shun R0 R1 (τ.grow W1 W1) W1:=hC.step R τ W1 R1 W1 zN ht ⟨e3.le,rfl,rfl,rfl,bL _,Fa,λ_ _ _=>rfl⟩;refine⟨G (m'.fin ops i rest k v').fr (ms'.map Fm.fr),W1,_,?_,rfl,Aw.id _ _,λe he=>zhU (Tb e he) Hi,?_⟩
 .show stepG p true (G (Fm.fr _) base) W1=_
  rw[sS];exact e
 .rw[Cx.B_some rfl]
  intro _ _;have U1:dB (SF fs) K R1 (o9 p) St w W1:=⟨e3.rel.inj,e3.rel.inj',e3.rel.lt,e3.rel.low,e3.rel.gle,e3.rel.cont,e3.rel.rest,e3.rel.st,e3.rel.np,e3.rel.tb⟩;have hle:R0.le R1:=zN.le.trans e3.le;exact hJ K R1 W1 _ ms' Shun U1 ((hm.mono hle).fin pS g3) (jR.mono hle) zZ.sh zZ.kp
end
end Go.Mt
namespace Go.Mt
open Go.Conc Go.Tt Go.RowKit Go.Conc.Lib Go.ConcR.Gen
open Go.ConcR (KK wgBlock WgAt stA smA rd wr mk Payload DC0)
variable [Payload]{Lk:WgLink}
section
variable {p:bT}
theorem zzH (H:WgLib p Lk)(Wg:Nat):Eu p Lk.wait #[.pointer (some ⟨Wg,0,none⟩)] .normal=(Lu Lk.wait).at ⟨#[.pointer (some ⟨Wg,0,none⟩),aA,aA,aA,aA,aA,aA,aA,aA,aA,aA,aA,aA,aA,aA,aA,aA,aA,aA,aA,aA,aA,aA,aA,aA,aA,aA,aA,aA,aA,aA,aA,aA,aA,aA,aA,aA,aA,aA,aA,aA,aA,aA,aA,aA,aA,aA,aA,aA,aA,aA,aA,aA,aA,aA,aA,aA,aA,aA,aA,aA,aA,aA,aA,aA,aA,aA,aA,aA,aA,aA,aA,aA,aA,aA,aA,aA,aA,aA,aA,aA,aA,aA,aA],[]⟩ [.code (body_wait Lk)]:=by
 have h:=zv0 (P:=p) (f:=Lk.wait) (fn:=waitFn Lk) (c:=body_wait Lk) #[.pointer (some ⟨Wg,0,none⟩)] H.f_wait rfl;rw[h];have e:(waitFn Lk).ntmps=84:=rfl;rw[e]
 walk_nrm
theorem zDJ (H:WgLib p Lk)(Wg:Nat):Eu p Lk.add #[.pointer (some ⟨Wg,0,none⟩),.int .i64 1] .normal=(Lu Lk.add).at ⟨#[.pointer (some ⟨Wg,0,none⟩),.int .i64 1,aA,aA,aA,aA,aA,aA,aA,aA,aA,aA,aA,aA,aA,aA,aA,aA,aA,aA,aA,aA,aA,aA,aA,aA,aA,aA,aA,aA,aA,aA,aA,aA,aA,aA,aA,aA,aA,aA,aA,aA,aA,aA,aA,aA,aA,aA,aA,aA,aA,aA,aA,aA,aA,aA,aA,aA,aA,aA,aA,aA,aA,aA,aA,aA,aA,aA,aA,aA,aA,aA,aA,aA,aA,aA,aA,aA,aA,aA,aA,aA,aA,aA,aA,aA,aA,aA,aA,aA,aA,aA,aA,aA,aA,aA,aA,aA,aA,aA,aA,aA,aA,aA,aA,aA,aA,aA,aA,aA,aA,aA,aA,aA,aA,aA,aA],[]⟩ [.code (N7 Lk)]:=by
 have h:=zv0 (P:=p) (f:=Lk.add) (fn:=addFn Lk) (c:=N7 Lk) #[.pointer (some ⟨Wg,0,none⟩),.int .i64 1] H.f_add rfl;rw[h];have e:(addFn Lk).ntmps=117:=rfl;rw[e]
 walk_nrm
end
section
variable {L:Type}{C:Cx L}{l nx:L}{I0:Pr->cI->aE->Prop}
theorem zoZ (hC:C.ty=Lk.tWg)(hX:IX Lk.tWg C.Wg I0){R:Pr}{τ:cI}{w:aE}(ht:wE τ R C.St):G6 Lk.tWg C.Wg τ (λW=>C.Rel R w W/\I0 R τ W):=by
 refine⟨λW W' s hF=>⟨ziL hF.1 ht (λa b x=>(hF.1.lt a b (.inr x)).2) s,hX.suf _ _ _ _ hF.2 s⟩,λW a v ha hF=>⟨?_,hX.cell _ _ _ _ _ hF.2 ha⟩⟩;exact dB.real hF.1 (λx b hx=>za0 W a v (by rw[ha];exact hX.rel _ _ _ hF.2 x b hx)) uU
theorem BO.add (H:WgLib C.p Lk)(ha:C.alone=none)(zgC:C.main=true)(Ck:C.ty=Lk.tWg)(hI:fE C)(zfQ:C.I=zJ Lk.tWg C.Wg I0)(hX:IX Lk.tWg C.Wg I0){fn:aO}{tmps:Array aF}{ops:Array aX}{i:Nat}{rest:List Nat}{k:List Item}{w:aE}{o:aX}{s:Tmp}{jM:Array aN}
 (ho:ops[i]? =some o) (cF:cO o (yielded ops tmps)=true) (hop:o.op=.call ⟨.value (.func Lk.add),#[.tmp s,.const (.int .i64 1)],jM⟩) (Em:(s,.pointer (some ⟨C.Wg,0,none⟩))∈C.pin) (lK:∀s,o.dst=some s->s∉C.S) (rH:C.A.act l=.add nx)
 (h:BO C nx ⟨fn,(b7 ⟨tmps,[]⟩ o.dst (.tuple #[])).tmps,.inRegion ops rest::k,false⟩ w):BO C l ⟨fn,tmps,.inRegion ops (i::rest)::k,false⟩ w:=by
 intro R W m' τ hw hm ht hi;obtain⟨fn',bU,zE,zD⟩:=m';obtain rfl:=hm.fn;obtain rfl:=hm.todo;obtain rfl:=hm.ret;have uY:=Jc (C:=C) hm.tmps cF;have h5:=hm.pins _ Em;have hb:=C.ds.ok;rw[nJ,Cx.B_none ha,zgC,Ck];rw[zfQ] at hi;have kf:=zoZ (C:=C) (w:=w) Ck hX ht;have E7:∀v,b7 ⟨bU,C.ds.ds⟩ o.dst v=⟨(b7 ⟨bU,[]⟩ o.dst v).tmps,C.ds.ds⟩:=λv=>by cases o.dst<;>rfl
 refine Nk rfl rfl (g':=G ((Lu Lk.add).at ⟨#[.pointer (some ⟨C.Wg,0,none⟩),.int .i64 1,aA,aA,aA,aA,aA,aA,aA,aA,aA,aA,aA,aA,aA,aA,aA,aA,aA,aA,aA,aA,aA,aA,aA,aA,aA,aA,aA,aA,aA,aA,aA,aA,aA,aA,aA,aA,aA,aA,aA,aA,aA,aA,aA,aA,aA,aA,aA,aA,aA,aA,aA,aA,aA,aA,aA,aA,aA,aA,aA,aA,aA,aA,aA,aA,aA,aA,aA,aA,aA,aA,aA,aA,aA,aA,aA,aA,aA,aA,aA,aA,aA,aA,aA,aA,aA,aA,aA,aA,aA,aA,aA,aA,aA,aA,aA,aA,aA,aA,aA,aA,aA,aA,aA,aA,aA,aA,aA,aA,aA,aA,aA,aA,aA,aA,aA],[]⟩ [.code (N7 Lk)]) ((C.ds.base fn).at ⟨bU,C.ds.ds⟩ (.inRegion ops (i::rest)::k)::C.base)) (λG0 s2=>?_) λG0 s2=>?_
 .obtain⟨x1,x2⟩:=zdH (p:=C.p) (o:=o) hop (ρ:=(bE bU C.ds.ds).eval) (λg=>rfl) H.f_add rfl rfl G0
  have rS:(#[.tmp s,.const (.int .i64 1)]:Array cJ).map (bE bU C.ds.ds).eval=#[.pointer (some ⟨C.Wg,0,none⟩),.int .i64 1]:=by simp only[tJ,jD,sC,wJ];rw[h5]
  rw[rS] at x1;have zcC:=stepG_enter (main:=true) (b:=C.ds.base fn) (a:=⟨bU,C.ds.ds⟩) (rest:=rest) (cs:=C.base) (k:=k) ho uY hb x1;rw[zcC];unfold listed;rw[x2,Cz,zDJ H]
 .refine addW (A:=C.A) (b₀:=C.ds.base fn) (a₀:=⟨bU,C.ds.ds⟩) (ops₀:=ops) (i₀:=i) (rest₀:=rest) (k₀:=k) (cs:=C.base) (Fin:=C.Fin) (l:=l) (nx:=nx) (Wg:=C.Wg) H rH kf (λW5 h5 zhN=>?_) G0 ⟨kf.suf _ _ s2 ⟨hw,hi.1⟩,s2.live hi.2⟩
  have hB:=h R W5 ⟨fn,(b7 ⟨bU,[]⟩ o.dst (.tuple #[])).tmps,.inRegion ops rest::k,false⟩ τ h5.1 ⟨rfl,rfl,rfl,Ke (C:=C) hm.tmps (.tuple rfl λi v v' h=>by simp at h),I5 (C:=C) hm.pins lK⟩ ht (by rw[zfQ];exact⟨h5.2,zhN⟩);rw[nJ,Cx.B_none ha,zgC,Ck] at hB;rw[ho];simp only[Option.bind_some];rw[E7];exact hB
end
section
variable {L:Type}{C:Cx L}{l nx lc:L}
structure znf (τ τm τc:cI)(pub:List Nat)(W:aE):Prop where
 own:∀b,τm.own b\/τc.own b->τ.own b
 still:∀b,τm.still b\/τc.still b->τ.still b\/τ.own b
 pass:∀b,τm.pass b\/τc.pass b->τ.pass b\/τ.own b\/τ.still b
 apart:∀b,τm.own b->¬τc.own b/\¬τc.still b/\¬τc.pass b
 apart':∀b,τc.own b->¬τm.still b/\¬τm.pass b
 pub:∀a∈pub,τ.own a/\I8 W a/\¬τm.own a/\¬τm.still a/\¬τc.own a/\¬τc.still a
theorem BO.go (ha:C.alone=none)(hI:fE C){fn:aO}{tmps:Array aF}{ops:Array aX}{i j:Nat}{rest:List Nat}{k:List Item}{w:aE}{o1 o2:aX}{s:Tmp}{f:aO}{Hv:Array cJ}{pub:List Nat}
 (y6:ops[i]? =some o1) (zdm:ops[j]? =some o2) (rF:o1.guard=none) (o6:o2.guard=none) (zqc:o1.op=.makeFunc (.func f) #[] Hv) (Tj:o1.dst=some s) (zpc:o2.op=.go ⟨.value (.tmp s),#[],#[]⟩) (Az:o2.dst=none) (rH:C.A.act l=.spawn pub lc nx) (hs:s<tmps.size)
 (h:∀(R:Pr) (W:aE) (bU:Array aF) (τ:cI),C.Rel R w W->bO (SF C.fs) C.K R tmps bU->(∀x∈C.pin,bU.getD x.1 aA=x.2)->wE τ R C.St->C.I R τ W->∃τm τc,znf τ τm τc pub W/\
  cG C.p C.ty C.Wg C.A C.Fin C.main (.usr nx) 0 τm (G ((C.ds.base fn).at ⟨bU.setIfInBounds s (.func (.func f) #[] (Hv.map (bE bU C.ds.ds).eval)),C.ds.ds⟩ (.inRegion ops rest::k)) C.base) W/\
  cG C.p C.ty C.Wg C.A C.Fin false (.usr lc) 0 τc (born C.p {target:=.fn (.func f) (Hv.map (bE bU C.ds.ds).eval),args:=#[]}) W):BO C l ⟨fn,tmps,.inRegion ops (i::j::rest)::k,false⟩ w:=by
 intro R W m' τ hw hm ht hi;obtain⟨fn',bU,zE,zD⟩:=m';obtain rfl:=hm.fn;obtain rfl:=hm.todo;obtain rfl:=hm.ret;have hb:=C.ds.ok;rw[nJ,Cx.B_none ha];have cK:=Nat.lt_of_lt_of_eq hs hm.tmps.1;obtain⟨zKx,zKK,type1,zqP,zpR,zJJ⟩:=o1;obtain⟨zKC,zLx,type2,zwc,ztN,zLr⟩:=o2;simp only at rF o6 zqc zpc Tj Az;subst rF o6 zqc zpc Tj Az;have wn:∀{o:aX} {t:Array aF},o.guard=none->cO o (yielded ops t)=true:=λh=>by unfold cO;rw[h]
 refine Nk rfl rfl (g':=G ((C.ds.base fn).at ⟨bU.setIfInBounds s (.func (.func f) #[] (Hv.map (bE bU C.ds.ds).eval)),C.ds.ds⟩ (.inRegion ops (j::rest)::k)) C.base) (λaZ s1=>?_) λaZ s1=>?_
 .have x1:(aS (bE bU C.ds.ds).eval ⟨some s,.makeFunc (.func f) #[] Hv,type1,zqP,zpR,none⟩).run C.p aZ=.ok (.value (.func (.func f) #[] (Hv.map (bE bU C.ds.ds).eval))) aZ:=by simp[aS,go_sem,zrm,pure,bK]
  have x2:(aS (bE bU C.ds.ds).eval ⟨some s,.makeFunc (.func f) #[] Hv,type1,zqP,zpR,none⟩).events C.p aZ #[]=#[]:=by simp[aS,go_sem,zrm]
  rw[stepG_value y6 (wn rfl) hb x1];unfold listed;rw[x2,Cz];rfl
 .refine cG.usr rfl ?_
  unfold nH;rw[rH];refine⟨rfl,λG0 s2=>?_⟩;have s3:=s1.trans s2;obtain⟨τm,τc,hp,xA,o8⟩:=h R G0 bU τ (hw.suf ht s3) hm.tmps hm.pins ht (hI.suf _ _ _ _ hi s3);refine⟨_,_,τm,τc,?_,rfl,rfl,hp.own,hp.still,hp.pass,hp.apart,hp.apart',hp.pub,xA,o8⟩;have x0:(bE (bU.setIfInBounds s (.func (.func f) #[] (Hv.map (bE bU C.ds.ds).eval))) C.ds.ds).eval (.tmp s)=.func (.func f) #[] (Hv.map (bE bU C.ds.ds).eval):=by
   simp[wJ,Array.getD_eq_getD_getElem?,cK]
  have x1:(aS (bE (bU.setIfInBounds s (.func (.func f) #[] (Hv.map (bE bU C.ds.ds).eval))) C.ds.ds).eval ⟨none,.go ⟨.value (.tmp s),#[],#[]⟩,type2,zwc,ztN,none⟩).run C.p G0=.ok (.spawn {target:=.fn (.func f) (Hv.map (bE bU C.ds.ds).eval),args:=#[]}) G0:=by
   simp only[aS,resolve,x0];simp[Dh,go_sem]
  have x2:(aS (bE (bU.setIfInBounds s (.func (.func f) #[] (Hv.map (bE bU C.ds.ds).eval))) C.ds.ds).eval ⟨none,.go ⟨.value (.tmp s),#[],#[]⟩,type2,zwc,ztN,none⟩).events C.p G0 #[]=#[]:=by
   simp only[aS,resolve,x0];simp[Dh,go_sem]
  rw[stepG_spawn zdm (wn rfl) hb x1 rfl];unfold listed;rw[x2,Cz];rfl
end
end Go.Mt
namespace Go.Mt
open Go.Conc Go.Tt
open Go.ConcR (KK wgBlock WgAt stA smA rd wr mk Payload DC0)
inductive yU (S:aO->Prop)(K R:Pr):List aF->List aF->Prop
 |nil:yU S K R [] []
 |cons {v v':aF} {l l':List aF}:VR S K R v v'->yU S K R l l'->yU S K R (v::l) (v'::l')
variable {S:aO->Prop}{K R:Pr}{l l':List aF}
theorem yU.len (h:yU S K R l l'):l.length=l'.length:=by
 induction h with
 |nil=>rfl
 |cons _ _ ih=>simp[ih]
theorem yU.get (h:yU S K R l l'):∀(i:Nat) (v v':aF),l[i]? =some v->l'[i]? =some v'->VR S K R v v':=by
 induction h with
 |nil=>simp_all
 |cons a _ ih=>grind
theorem zsk (h:yU S K R l l'):bO S K R l.toArray l'.toArray:=
 ⟨by simpa using h.len,λi v v' h1 h2=>h.get i v v' Yo Xb⟩
structure IM2 (W0:aE)(St:Nat->Prop)(Shun:Loc->Prop)(Wg:Nat)(SS:Nat->Prop)(R0:Pr)(Fz:Nat->Prop)(Wf:aE)(chs:List Nat)(R:Pr)(τ:cI)(W:aE):Prop where
 x:IMX W0 St Shun Wg SS R0 Fz Wf R τ W
 dis:∀b,τ.own b->¬τ.still b
 slt:∀b,τ.still b->b<W.heap.size
 ch:∀c∈chs,τ.own c/\I8 W c/\∀a,¬R a c
section
variable {W0:aE}{St:Nat->Prop}{Shun:Loc->Prop}{Wg:Nat}{SS:Nat->Prop}{R0:Pr}{Fz:Nat->Prop}{Wf:aE}{chs:List Nat}
def I8.lt {W:aE}{c:Nat}(h:I8 W c):c<W.heap.size:=(dR.1 h).1
theorem zvd {ty:aN}(vX:∀b,b<W0.heap.size->SS b)(hF:∀b,Fz b->SS b)(pB:W0.heap.size<=Wg):IX ty Wg (IM2 W0 St Shun Wg SS R0 Fz Wf chs):=by
 have hx:=zyg (ty:=ty) (St:=St) (Shun:=Shun) (Wg:=Wg) (R0:=R0) (Wf:=Wf) vX hF pB;refine⟨λR τ W aZ h s=>⟨hx.suf _ _ _ _ h.x s,h.dis,λb hb=>j5 (h.slt b hb) s.size,λc hc=>?_⟩,λR τ W a v h ha=>⟨hx.cell _ _ _ _ _ h.x ha,h.dis,λb hb=>by rw[Ux];exact h.slt b hb,λc hc=>?_⟩,λR τ W d h=>⟨hx.at_ _ _ _ d h.x,h.dis,h.slt,h.ch⟩,λR τ W h=>h.x.im.rel⟩
 .obtain⟨h1,h2,h3⟩:=h.ch c hc
  exact⟨h1,(s.keep c (.inl h1)).trans h2,h3⟩
 .obtain⟨h1,h2,h3⟩:=h.ch c hc
  exact⟨h1,(za0 W a v (by rw[ha];exact h.x.im.own c h1)).trans h2,h3⟩
variable {L:Type}{C:Cx L}
theorem im2_ok (hC:C.I=zJ C.ty C.Wg (IM2 W0 St Shun C.Wg SS R0 Fz Wf chs))(aY:∀a,St a->C.St a)(vX:∀b,b<W0.heap.size->SS b)(hF:∀b,Fz b->SS b)(pB:W0.heap.size<=C.Wg):fE C:=by
 have h0:=imx_ok (C:={C with I:=zJ C.ty C.Wg (IMX W0 St Shun C.Wg SS R0 Fz Wf)}) rfl aY vX hF pB;have hx:=zvd (ty:=C.ty) (St:=St) (Shun:=Shun) (R0:=R0) (Wf:=Wf) (chs:=chs) vX hF pB;refine⟨λR τ W aZ h s=>?_,λR τ W R1 W1 h ht hs=>?_⟩<;>rw[hC] at*
 .exact⟨hx.suf _ _ _ _ h.1 s,s.live h.2⟩
 .obtain⟨k1,k2⟩:=h0.step R τ W R1 W1 ⟨h.1.x,h.2⟩ ht hs
  refine⟨⟨k1,λb hb Ia=>?_,λb hb=>j5 (h.1.slt b hb) hs.size,λc hc=>?_⟩,k2⟩
  .rcases hb with hb|⟨hb,_⟩
   .exact h.1.dis b hb Ia
   .have:=h.1.slt b Ia;omega
  .obtain⟨h1,h2,h3⟩:=h.1.ch c hc
   refine⟨.inl h1,(hs.keep c h2.lt λa x=>absurd x (h3 a)).trans h2,λa x=>?_⟩;rcases hs.new a c x with y|⟨y,_⟩
   .exact h3 a y
   .have:=h2.lt;omega
variable {S:aO->Prop}{K R:Pr}{G:Gp}{eJ:Nat->Prop}{w W:aE}{τ:cI}{X:Nat->Bool}
def G7 (R:Pr)(St:Nat->Prop)(X:Nat->Bool)(b:Nat):Prop:=∃a,R a b/\(St a\/X a=true)
def tauP (R:Pr)(St:Nat->Prop)(W0:aE)(chs:List Nat):cI:=⟨λb=>(∃a,R a b/\¬St a)\/b∈chs,λb=>b<W0.heap.size\/∃a,R a b/\St a,λ_=>False⟩
def terra_p:wE (tauP R St W0 chs) R St:=λa b x=>⟨λh=>.inr ⟨a,x,h⟩,λh=>.inl ⟨a,x,h⟩⟩
end
end Go.Mt
